/- What stands below a state's logs stays. -/
import Derived.Test.YthnojkbkojpadaaGreatZG033ec027
import Derived.LoopNIn
import Derived.RangeFuncRecord
set_option linter.unusedVariables false
set_option linter.unusedSimpArgs false
set_option linter.constructorNameAsVariable false
set_option linter.all false

namespace Go.Sx
open Go.RowKit
variable[Env]
def ConB(g:Con):Prop:=∀args h,(g args h).Each λy=>y.2.b=h.b
section
variable{P:Program}{run yld:Nat->Con}{h:SH}
theorem eq_b{t:Tr (SV×SH)}(ht:t.Each λy=>y.2=h):t.Each λy=>y.2.b=h.b:=by
 induction t with
 |ret x=>exact congrArg SH.b ht
 |br c a b iha ihb=>exact⟨iha ht.1,ihb ht.2⟩
 |ask q a ih=>exact ih ht
 |giv q a ih=>exact ih ht
 |all k ih=>exactλn=>ih n (ht n)
 |bad _=>trivial
theorem q0p{α:Type}{p:α->Prop}{c:Bool}{a b:Tr α}(ha:a.Each p)(hb:b.Each p):(bif c then a else b).Each p:=by cases c<;>assumption
theorem qxk{t:TypeId}{d s:SV}:(copyS P h t d s).Each λy=>y.2.b=h.b:=by
 unfold copyS
 repeat' split
 all_goals first|trivial|exact rfl|(refine q0p ?_ trivial;first|exact rfl|exact SH.setCs_b _ _ _ _)
theorem qpv{t t':TypeId}{d s:SV}:(qhq P h t t' d s).Each λy=>y.2.b=h.b:=by
 unfold qhq;split
 .split
  .split
   .refine q0p ?_ trivial;split
    .exact rfl
    .trivial
   .trivial
  .trivial
 .trivial
theorem qsp{t:TypeId}{a:SV}:(qq8 P h t a).Each λy=>y.2.b=h.b:=by
 unfold qq8
 repeat' split
 all_goals first|trivial|exact q0p rfl trivial
theorem qsm{t:TypeId}{a:SV}:(qo9 P h t a).Each λy=>y.2.b=h.b:=by
 unfold qo9
 repeat' split
 all_goals first|trivial|exact rfl|exact q0p rfl trivial|(unfold rangeS;split<;>first|exact rfl|trivial)
theorem qxh{a:SV}{str:Bool}:(z1b h a str).Each λy=>y.2.b=h.b:=by
 unfold z1b;split
 .unfold za0
  repeat' split
  all_goals first|trivial|exact⟨rfl,rfl⟩
 .split
  .split
   .exact⟨rfl,λn=>q0p rfl trivial⟩
   .split
    .exact⟨rfl,λn=>q0p rfl trivial⟩
    .trivial
   .trivial
  .trivial
theorem qsn{a:SV}:(qpp h a).Each λy=>y.2.b=h.b:=by
 unfold qpp
 repeat' split
 all_goals first|trivial|exact q0p rfl trivial
theorem qxi{t:TypeId}{r:Option SV}:(qbm P h t r).Each λy=>y.2.b=h.b:=by
 unfold qbm
 repeat' split
 all_goals first|trivial|exact rfl
theorem qxj{t:TypeId}{a k:SV}{ok:Bool}:(qwt P h t a k ok).Each λy=>y.2.b=h.b:=eq_b qkb
theorem qps{t:TypeId}{a k v:SV}:(qcq P h t a k v).Each λy=>y.2.b=h.b:=by
 unfold qcq
 repeat' split
 all_goals first|trivial|exact q0p rfl trivial
theorem qso{t:TypeId}{a k:SV}:(qpo P h t a k).Each λy=>y.2.b=h.b:=by
 unfold qpo
 repeat' split
 all_goals first|trivial|exact q0p rfl trivial
theorem qsl{t:TypeId}{a k v:SV}:(storeS' P h t a k v).Each λy=>y.2.b=h.b:=by
 unfold storeS'
 repeat' split
 all_goals first|trivial|exact q0p rfl trivial
theorem qpu{t:TypeId}{a k:SV}:(qhb P h t a k).Each λy=>y.2.b=h.b:=by
 unfold qhb
 repeat' split
 all_goals first|trivial|exact q0p rfl trivial
theorem q56{t t':TypeId}{d s:SV}:(q99 P h t t' d s).Each λy=>y.2.b=h.b:=by
 unfold q99;split
 .repeat' split
  all_goals first|trivial|exact q0p rfl trivial
 .exact qpv
theorem z5c{α:Type}{p q:α->Prop}(hpq:∀x,p x->q x){t:Tr α}(h:t.Each p):t.Each q:=by
 induction t with
 |ret x=>exact hpq _ h
 |br c a b iha ihb=>exact⟨iha h.1,ihb h.2⟩
 |ask q a ih=>exact ih h
 |giv q a ih=>exact ih h
 |all k ih=>exactλn=>ih n (h n)
 |bad _=>trivial
theorem q2r{α:Type}{P:α->Prop}:∀{l:List Prop}{t:Tr α},t.Each P->(asks l t).Each P
 | [],_,h=>h
 |_::r,t,h=>q2r (l:=r) h
theorem qmx{t t':TypeId}{d s:SV}:(qhp P h t t' d s).Each λy=>y.2.b=h.b:=by
 unfold qhp;split
 .split
  .rw[Bool.cond_eq_ite];split
   .refine q2r ?_;split
    .exact z5c (λy hy=>hy.trans (qjw _ h).1) q56
    .trivial
   .exact q56
  .exact q56
 .exact q56
theorem qmw{b:Builtin}{ts:List TypeId}{as:List SV}:(q9s P h b ts as).Each λy=>y.2.b=h.b:=by
 unfold q9s
 repeat' split
 all_goals first|trivial|exact qxk|exact qmx|exact qsp|exact qpu|(refine Tr.each_bind (λ_=>?_) _;exact rfl)
theorem qmt(hr:∀f,ConB (run f))(hy:∀l,ConB (yld l)){ev:Operand->SV}{o:Op}:(opS P run yld ev h o).Each λy=>y.2.b=h.b:=by
 unfold opS;split
 .exact rfl
 .exact rfl
 .repeat' split
  all_goals first|trivial|exact rfl|exact⟨rfl,rfl⟩
 .unfold qvp;split<;>first|exact rfl|trivial
 .exact q0p rfl trivial
 .unfold ql1;repeat' split
  all_goals first|trivial|exact rfl
 .unfold q7d;repeat' split
  all_goals first|trivial|exact rfl|(refine q0p ?_ trivial;first|exact rfl|trivial)
 .exact eq_b qpt
 .unfold qtj;repeat' split
  all_goals first|trivial|(refine q0p ?_ trivial;first|exact rfl|exact SH.setCs_b _ _ _ _)
 .repeat' split
  all_goals first|trivial|exact rfl|(refine Tr.each_bind (λ_=>?_) _;exact rfl)
 ·(refine Tr.each_bind (λ_=>?_) _;exact rfl)
 .unfold qsu;repeat' split
  all_goals first|trivial|exact rfl|exact q0p rfl trivial|exact q0p (qao rfl) trivial|(refine Tr.each_bind (λ_=>?_) _;exact rfl)
 .exact q0p rfl trivial
 .exact eq_b qka
 .unfold qlg;repeat' split
  all_goals first|trivial|exact rfl|exact q0p rfl trivial
 .exact q0p rfl trivial
 .unfold q9h;repeat' split
  all_goals first|trivial|exact rfl|exact q0p rfl trivial
 .exact qsm
 .exact qxh
 .exact qsn
 .exact qxi
 .exact qxj
 .exact qps
 .exact qps
 .exact qso
 .exact qsl
 .exact eq_b qa9
 .exact eq_b qkd
 .exact eq_b qa8
 .exact eq_b qkc
 .exact eq_b qe6
 .split
  .exact qmw
  .split
   .exact q0p (hr _ _ _) trivial
   .exact hy _ _ _
   .trivial
  .trivial
 .trivial
theorem qj2{σ:St}{d:Option Nat}{s:SV}{h':SH}(hb:h'.b=σ.h.b):(σ.put d s h').On σ.b σ.h.b:=by cases d<;>exact⟨rfl,hb⟩
theorem z3j{ops:Array Oper}{σ:St}{o:Oper}{go:Bool->St->Tr St}(hgo:∀g σ' B HB,σ'.On B HB->(go g σ').Each (St.On B HB)):(qpg ops σ o go).Each (St.On σ.b σ.h.b):=by
 unfold qpg;split
 .exact hgo _ _ _ _ ⟨rfl,rfl⟩
 .split
  .refine q0p ?_ trivial;split
   .exact hgo _ _ _ _ ⟨rfl,rfl⟩
   .exact Tr.each_map (q:=St.On (σ.t++σ.b) (σ.h.l++σ.h.b)) (λx _=>qj4 σ x) (qgb (q6n _ _ _ _) (hgo _ _ _ _ ⟨rfl,rfl⟩) (hgo _ _ _ _ ⟨rfl,rfl⟩))
   .exact hgo _ _ _ _ ⟨rfl,rfl⟩
   .trivial
  .exact hgo _ _ _ _ ⟨rfl,rfl⟩
theorem q6k(hr:∀f,ConB (run f))(hy:∀l,ConB (yld l)){ops:Array Oper}:∀(l:List Oper)(σ:St)(B:List (Nat×SV))(HB:List (Nat×SE)),σ.On B HB->(qbh P run yld ops l σ).Each (St.On B HB)
 | [],σ,B,HB,h=>h
 |o::r,σ,B,HB,h=>by
  obtain⟨rfl,rfl⟩:=h;refine z3j λg σ' B HB hon=>?_;cases g with
  |true=>
   refine Tr.each_bind' (p:=λy=>y.2.b=σ'.h.b) (λx hx=>?_) (qmt hr hy);refine q6k hr hy r _ B HB ?_;have:=qj2 (d:=o.dst) (s:=x.1) hx
   rwa [hon.1,hon.2]at this
  |false=>
   refine q6k hr hy r _ B HB ?_;have:=qj2 (σ:=σ') (d:=o.dst) (s:=.k undef) (h':=σ'.h) rfl
   rwa [hon.1,hon.2]at this
theorem qw5{α:Type}{p:α->Prop}{t:Tr α}(h:t.Each p):t.strip.Each p:=by
 induction t with
 |ret x=>exact h
 |br c a b iha ihb=>exact⟨iha h.1,ihb h.2⟩
 |ask q a ih=>exact ih h
 |giv q a ih=>trivial
 |all k ih=>trivial
 |bad _=>trivial
theorem z3i{ops:Array Oper}{σ:St}{o:Oper}{go:Bool->St->Tr St}{p:St->Prop}(hgo:∀g σ',σ'.On σ.b σ.h.b->(go g σ').Each p):(qpf ops σ o go).Each p:=by
 unfold qpf;split
 .exact hgo _ _ ⟨rfl,rfl⟩
 .split
  .refine q0p ?_ trivial;split
   .exact hgo _ _ ⟨rfl,rfl⟩
   .exact⟨hgo _ _ ⟨rfl,rfl⟩,hgo _ _ ⟨rfl,rfl⟩⟩
   .exact hgo _ _ ⟨rfl,rfl⟩
   .trivial
  .exact hgo _ _ ⟨rfl,rfl⟩
theorem q9q{Q:Nat->Bool}{tq:Bool}{fr:Op->Bool}(hr:∀f,ConB (run f))(hy:∀l,ConB (yld l)){ops:Array Oper}:∀(l:List Oper)(σ:St)(B:List (Nat×SV))(HB:List (Nat×SE)),σ.On B HB->(q5p P Q tq fr run yld ops l σ).Each (St.On B HB)
 | [],σ,B,HB,h=>h
 |o::r,σ,B,HB,h=>by
  obtain⟨rfl,rfl⟩:=h;refine z3i λg σ' hon=>?_;cases g with
  |true=>
   refine q0p ?_ trivial;refine Tr.each_bind' (p:=λy=>y.2.b=σ'.h.b) (λx hx=>?_) (qw5 (qmt hr hy));refine q9q hr hy r _ _ _ ?_;have:=qj2 (d:=o.dst) (s:=x.1) hx
   rwa [hon.1,hon.2]at this
  |false=>
   refine q9q hr hy r _ _ _ ?_;have:=qj2 (σ:=σ') (d:=o.dst) (s:=.k undef) (h':=σ'.h) rfl
   rwa [hon.1,hon.2]at this
end
end Go.Sx

namespace Go.Sx
open Go.RowKit
variable[Env]
def frzO(σ:St)(t:Nat):St:=
 match σ.slot t with
 | .p i o=>match σ.h.get i with
  | .cells xs _=>bif Nat.blt t σ.n then⟨σ.n,(t,.pr (xs.drop o))::σ.t,σ.h.set i .dead,σ.d,σ.b⟩else σ
  |_=>σ
 |_=>σ
def frzL:List Nat->St->St
 | [],σ=>σ
 |t::l,σ=>frzL l (frzO σ t)
def zsd:Oper->List Nat:=λo=>match o.op with
 | .load _ (.tmp t)=>[t]
 | .fieldAddr _ (.tmp t) _=>[t]
 | .indexAddr _ (.tmp t) _=>[t]
 |_=>[]
def zkq(ops:List Oper):List Nat:=(ops.flatMap zsd).filter λt=>!(ops.any λo=>match o.dst with
 |some d=>Nat.beq d t
 |none=>false)
def frzS(fr:Bool)(ops:List Oper)(σ:St):St:=bif fr then frzL (zkq ops) σ else σ
section
variable{M:Nat->Prop}{w0 w:World}{ρ:Rh}
theorem zng{σ:St}{a:Act}(t:Nat)(hm:Mod M w0 ρ σ a w):∃ρ',ρ'.lc=ρ.lc/\Agree σ.h.nx ρ ρ'/\Mod M w0 ρ' (frzO σ t) a w/\(frzO σ t).h.nx=σ.h.nx/\(frzO σ t).b=σ.b/\(frzO σ t).h.b=σ.h.b:=by
 have same:frzO σ t=σ->∃ρ',ρ'.lc=ρ.lc/\Agree σ.h.nx ρ ρ'/\Mod M w0 ρ' (frzO σ t) a w/\(frzO σ t).h.nx=σ.h.nx/\(frzO σ t).b=σ.b/\(frzO σ t).h.b=σ.h.b:=λe=>by
  rw[e];exact⟨ρ,rfl,Agree.refl _ _,hm,rfl,rfl,rfl⟩
 cases hs:σ.slot t with
 |p i o=>
  cases hg:σ.h.get i with
  |cells xs ty=>
   cases hb:Nat.blt t σ.n with
   |false=>exact same (by simp only[frzO,hs,hg,hb,cond_false])
   |true=>
    have e:frzO σ t=⟨σ.n,(t,.pr (xs.drop o))::σ.t,σ.h.set i .dead,σ.d,σ.b⟩:=by simp only[frzO,hs,hg,hb,cond_true]
    rw[e];have htn:t<σ.n:=Nat.le_of_ble_eq_true hb;have hown:(σ.h.get i).own (ρ i):=by rw[hg];trivial
    have hob:=hm.hp.ob i;rw[hg]at hob;obtain⟨hnl,hoff,l,ho,hfl⟩:=hob;have hfz:=hm.hp.freeze hown ho;have hag:Agree σ.h.nx ρ (ρ.frz (ρ i).blk (.cells (List.toArray l) ty (0,0))):=q6r ρ (hm.hp.sep i hown);refine⟨ρ.frz (ρ i).blk (.cells (List.toArray l) ty (0,0)),rfl,hag,⟨⟨hm.tm.1,λk hk=>?_⟩,hm.df.mono hag hm.dl,hm.dl,hfz⟩,rfl,rfl,rfl⟩;have hk':=(hm.tm.mono (Nat.le_refl _) hag).2 k hk;rw[St.look_lg]at hk' ⊢;show(look (look (.k undef) k σ.b) k ((t,SV.pr (xs.drop o))::σ.t)).fit _ _ _;rw[q2a];by_cases hkt:k=t
    .rw[if_pos hkt];subst hkt;have h0:=hm.tm.2 k hk;rw[St.look_lg,hs]at h0;obtain⟨_,hx⟩:=h0;rw[hx];refine⟨(ρ i).blk,(ρ i).off+o,List.toArray l,ty,(0,0),rfl,by simp[Rh.frz],l.drop o,SV.fits_mono (Nat.le_refl _) hag _ _ (q0j o hfl),λj v hv=>?_⟩;rw[List.getElem?_drop]at hv;rw[hoff,Nat.zero_add];simpa using hv
    .rw[if_neg hkt];exact hk'
  |_=>exact same (by simp only[frzO,hs,hg])
 |_=>exact same (by simp only[frzO,hs])
theorem z3s:∀(l:List Nat){ρ:Rh}{σ:St}{a:Act},Mod M w0 ρ σ a w->∃ρ',ρ'.lc=ρ.lc/\Agree σ.h.nx ρ ρ'/\Mod M w0 ρ' (frzL l σ) a w/\(frzL l σ).h.nx=σ.h.nx/\(frzL l σ).b=σ.b/\(frzL l σ).h.b=σ.h.b
 | [],ρ,σ,a,hm=>⟨ρ,rfl,Agree.refl _ _,hm,rfl,rfl,rfl⟩
 |t::l,ρ,σ,a,hm=>by
  obtain⟨ρ1,e1,a1,m1,n1,b1,c1⟩:=zng t hm;obtain⟨ρ2,e2,a2,m2,n2,b2,c2⟩:=z3s l m1;refine⟨ρ2,e2.trans e1,a1.trans (by rw[n1];exact Nat.le_refl _) a2,m2,n2.trans n1,b2.trans b1,c2.trans c1⟩
theorem znf(fr:Bool)(ops:List Oper){σ:St}{a:Act}(hm:Mod M w0 ρ σ a w):∃ρ',ρ'.lc=ρ.lc/\Agree σ.h.nx ρ ρ'/\Mod M w0 ρ' (frzS fr ops σ) a w/\(frzS fr ops σ).h.nx=σ.h.nx/\(frzS fr ops σ).b=σ.b/\(frzS fr ops σ).h.b=σ.h.b:=by
 unfold frzS;cases fr with
 |true=>exact z3s _ hm
 |false=>exact⟨ρ,rfl,Agree.refl _ _,hm,rfl,rfl,rfl⟩
theorem z3r(t:Nat)(σ:St):(frzO σ t).b=σ.b/\(frzO σ t).h.b=σ.h.b:=by
 unfold frzO;split
 .split
  .cases Nat.blt t σ.n<;>exact⟨rfl,rfl⟩
  .exact⟨rfl,rfl⟩
 .exact⟨rfl,rfl⟩
theorem qs7:∀(l:List Nat)(σ:St),(frzL l σ).b=σ.b/\(frzL l σ).h.b=σ.h.b
 | [],_=>⟨rfl,rfl⟩
 |t::l,σ=>⟨(qs7 l _).1.trans (z3r t σ).1,(qs7 l _).2.trans (z3r t σ).2⟩
theorem z3q(fr:Bool)(ops:List Oper)(σ:St):(frzS fr ops σ).b=σ.b/\(frzS fr ops σ).h.b=σ.h.b:=by
 unfold frzS;cases fr with
 |true=>exact qs7 _ _
 |false=>exact⟨rfl,rfl⟩
end
end Go.Sx

namespace Go.Sx
open Go.RowKit
variable[Env]
def qhn:Nat->List SV->List (Nat×SV)
 |_,[]=>[]
 |i,a::r=>(i,a)::qhn (i+1) r
def q4f:List Nat->SH->Option SH
 | [],h=>some h
 |i::r,h=>match h.get i with
  | .obj (.deferred (some []))=>q4f r (h.set i (.obj (.deferred none)))
  |_=>none
def z04(P:Program)(σ:St):ResultVar->Tr SV
 | .tmp t=>.ret (σ.ev (.tmp t))
 | .cell a t=>(qm1 P σ.h t (σ.ev (.tmp a))).bind λx=>.ret x.1
def qtt(P:Program)(σ:St):List ResultVar->Tr (List SV)
 | []=>.ret []
 |r::rs=>(z04 P σ r).bind λs=>(qtt P σ rs).bind λss=>.ret (s::ss)
def resS(P:Program)(fn:Func)(σ:St):Tr (SV×SH):=
 (qtt P σ fn.results.toList).bind λss=>match ss with
  | [s]=>.ret (s,σ.h)
  |ss=>.ret (.tup ss,σ.h)
def q1a:Code->List Code
 | .seq a b=>q1a a++q1a b
 | .cond _ a b=>q1a a++q1a b
 | .block _ c=>q1a c
 | .scope c=>q1a c
 | .loop c=>c::q1a c
 |_=>[]
def q64:Code->Option Nat
 | .region id _ _=>some id
 | .seq a b=>match q64 a with
  |some i=>some i
  |none=>q64 b
 | .cond _ a b=>match q64 a with
  |some i=>some i
  |none=>q64 b
 | .block _ c=>q64 c
 | .scope c=>q64 c
 | .loop c=>(q64 c).map λi=>i+1000
 |_=>none
def lkey(c:Code):Nat:=(q64 c).getD 1000000
def q03(P:Program)(f:Nat):List Code:=
 match P.funcs[f]? with
 |some fn=>match fn.body with
  |some c=>q1a c
  |none=>[]
 |none=>[]
def loopBody(P:Program)(f key:Nat):Code:=((q03 P f).find? λc=>Nat.beq (lkey c) key).getD .skip
structure LCon where
 g:St->Tr (Ex×St)
 on:∀σ,(g σ).Each λy=>y.2.On σ.b σ.h.b
abbrev Lam:=Nat->Nat->Option LCon
structure Gam where
 g:Nat->Option Con
 q:Nat->Bool
 hq:∀f,q f=true->∃c,g f=some c/\(∀args h,(c args h).Each λy=>y.2=h)/\∀args,args.all noId=true->qdp λh=>c args h
 hb:∀f c,g f=some c->ConB c
 z:Nat->Nat->Bool
 u:Nat->Nat->Nat
def Gam.zf(Γ:Gam)(lam:Option Nat)(id:Nat):Bool:=
 match lam with
 |some f=>Γ.z f id
 |none=>false
def Gam.un(Γ:Gam)(lam:Option Nat)(key n:Nat):Nat:=
 match lam with
 |some f=>match Γ.u f key with
  |0=>n
  |m+1=>m+1
 |none=>n
def Gam.nj(Γ:Gam):Bool:=Γ.z 4000000 0
def qmj(P:Program)(ex:Code->St->Tr (Ex×St))(f:Nat):Con:=λargs h=>
 match P.funcs[f]? with
 |some fn=>
  match fn.body with
  |some c=>
   bif Nat.ble args.length fn.ntmps then
    (ex c ⟨fn.ntmps,qhn 0 args,h,[],[]⟩).bind λx=>
     match x.1 with
     | .ret| .normal=>match q4f x.2.d x.2.h with
      |some h'=>resS P fn ⟨x.2.n,x.2.t,h',[],x.2.b⟩
      |none=>.bad 510
     |_=>.bad 511
   else .bad 512
  |none=>.bad 513
 |none=>.bad 514
def q6s:List Nat->List SV->List (Nat×SV)->List (Nat×SV)
 |p::ps,a::as,t=>q6s ps as ((p,a)::t)
 |_,_,t=>t
def q7y(ex:Nat->Code->St->Tr (Ex×St))(l:Nat):Con:=λargs h=>
 match h.get l with
 | .loop .ready _ n t ps asg body _=>
  bif Nat.beq args.length ps.size then
   (ex l asg ⟨n,q6s ps.toList args t,h,[],[]⟩).bind λx=>
    match x.1 with
    | .normal=>match x.2.h.get l with
     | .loop .ready pd' _ _ _ _ _ _=>
      (ex l body ⟨x.2.n,x.2.t,x.2.h.setLp l .busy pd',x.2.d,x.2.b⟩).bind λy=>
       match y.2.h.get l with
       | .loop ..=>
        match y.1 with
        | .normal=>.ret (.k (.bool true),y.2.h.setLp l .ready none)
        | .ret=>.ret (.k (.bool false),y.2.h.setLp l .done (some .ret))
        | .exit id=>.ret (.k (.bool false),y.2.h.setLp l .done (some (.exit id)))
        | .goto id=>.ret (.k (.bool false),y.2.h.setLp l .done (some (.goto id)))
       |_=>.bad 520
     |_=>.bad 521
    |_=>.bad 524
  else .bad 522
 |_=>.bad 523
def q79(ex:Code->St->Tr (Ex×St))(l:Nat)(σ:St):Tr (Ex×St):=
 match σ.h.get l with
 | .loop st pd n t ps asg body df=>
  match st with
  | .busy=>.bad 530
  |_=>
   let σ':St:=⟨σ.n,σ.t,σ.h.set l (.loop .exhausted pd n t ps asg body df),σ.d,σ.b⟩
   match pd with
   |none=>.ret (.normal,σ')
   |some c=>ex c σ'
 |_=>.bad 531
def qd6(ex:St->Tr (Ex×St)):Nat->St->Tr (Ex×St)
 |0,_=>.bad 532
 |m+1,σ=>(ex σ).bind λx=>match x.1 with
  | .normal=>qd6 ex m x.2
  |e=>.ret (e,x.2)
def q7e(id:Nat)(x:Ex×St):Ex×St:=
 match x.1 with
 | .exit j=>bif Nat.beq j id then(.normal,x.2)else(.exit j,x.2)
 |e=>(e,x.2)
def exec(P:Program)(Γ:Gam)(Λ:Lam):Nat->Option Nat->Option Nat->Code->St->Tr (Ex×St)
 |0,_,_,_,_=>.bad 540
 |n+1,lam,rd,c,σ=>
  let run:Nat->Con:=λf=>match Γ.g f with
   |some g=>g
   |none=>qmj P (exec P Γ Λ n (some f) none) f
  let yld:Nat->Con:=q7y λl=>exec P Γ Λ n none (some l)
  match c with
  | .skip=>.ret (.normal,σ)
  | .label _=>.ret (.normal,σ)
  | .ret=>.ret (.ret,σ)
  | .exit id=>.ret (.exit id,σ)
  | .goto l=>.ret (.goto l,σ)
  | .region id ops d=>bif Γ.zf lam id then(bif d then .bad 548 else((q90 Γ.nj (λ_=>true) (qgo true σ.h.nx) (qbh P run yld ops ops.toList σ.base)).map σ.pop).bind λσ=>.ret (.normal,σ))else bif d then(bif qce P Γ.q (tqOf P Γ.q ops) (frOf P Γ.q ops) ops then((q90 Γ.nj (λ_=>true) (qgo false (frzS (frB P Γ.q ops) ops.toList σ).h.nx) (q5p P Γ.q (tqOf P Γ.q ops) (frOf P Γ.q ops) run yld ops ops.toList (frzS (frB P Γ.q ops) ops.toList σ).base)).map (frzS (frB P Γ.q ops) ops.toList σ).pop).bind λσ=>.ret (.normal,σ)else(bif z15 ops&&(P.follows .mixedOrders&&backOk ops.toList)then qds P Γ.q (λops'=>((q90 Γ.nj (λ_=>true) (qgo false σ.h.nx) (q5p P Γ.q false (λ_=>false) run yld ops' ops'.toList σ.base)).map σ.pop).bind λσ=>.ret (.normal,σ)) 14 ops else .bad 541))else(qbh P run yld ops ops.toList σ).bind λσ=>.ret (.normal,σ)
  | .seq a b=>(exec P Γ Λ n lam rd a σ).bind λx=>match x.1 with
   | .normal=>exec P Γ Λ n lam rd b x.2
   |e=>.ret (e,x.2)
  | .cond c a b=>match(σ.ev c).bool? with
   |some (true,z)=>match z with
    |true=>exec P Γ Λ n lam rd a σ
    |false=>exec P Γ Λ n lam rd b σ
   |some (false,z)=>(zfo Γ.nj isNx (zb5 σ.h.nx) z (exec P Γ Λ n lam rd a σ.base) (exec P Γ Λ n lam rd b σ.base)).map λy=>(y.1,σ.pop y.2)
   |none=>.bad 542
  | .block id c=>(q90 Γ.nj isNx (zb5 σ.h.nx) ((exec P Γ Λ n lam rd c σ.base).map (q7e id))).map λy=>(y.1,σ.pop y.2)
  | .loop c=>
   match rd,lam.bind λf=>Λ f (lkey c)with
   |none,some L=>L.g σ
   |_,_=>qd6 (exec P Γ Λ n lam rd c) (Γ.un lam (lkey c) n) σ
  | .rangeFunc g ps asg body=>
   match σ.ev g with
   | .fn f cs=>
    bif callable P f then
     match rd with
     |none=>
      let h1:=σ.h.push (.obj (.deferred (some [])))
      let h2:=h1.push (.loop .ready none σ.n σ.lg ps asg body σ.h.nx)
      (run f (.yl h1.nx::cs) h2).bind λx=>q79 (exec P Γ Λ n none rd) h1.nx ⟨σ.n,σ.t,x.2,σ.h.nx::σ.d,σ.b⟩
     |some l0=>
      match σ.h.get l0 with
      | .loop _ _ _ _ _ _ _ df=>
       let h2:=σ.h.push (.loop .ready none σ.n σ.lg ps asg body df)
       (run f (.yl σ.h.nx::cs) h2).bind λx=>q79 (exec P Γ Λ n none rd) σ.h.nx ⟨σ.n,σ.t,x.2,σ.d,σ.b⟩
      |_=>.bad 543
    else .bad 544
   |_=>.bad 545
  | .scope c=>(exec P Γ Λ n lam rd c σ).bind λx=>match x.1 with
   | .goto _=>.bad 546
   |e=>.ret (e,x.2)
  | .refuse _=>.bad 547
def qk0(P:Program)(Γ:Gam)(Λ:Lam)(n:Nat)(f:Nat):Con:=qmj P (exec P Γ Λ n (some f) none) f
end Go.Sx

namespace Go.Sx
open Go.RowKit
variable[Env]
section
variable{P:Program}{M:Nat->Prop}{w0 w:World}{ρ:Rh}
def q5s(M:Nat->Prop)(w0:World)(ρ:Rh)(nx:Nat)(K:Ex×St->Prop):Exit->Act->World->Prop:=λx a w=>
 ∃e σ' ρ',x=Ex.ex e/\K (e,σ')/\nx<=σ'.h.nx/\Agree nx ρ ρ'/\Mod M w0 ρ' σ' a w
theorem q44{b:Frame}{a:Act}{k:List Item}{cs:List Frame}{c:Code}:step P (lone (b.atR a (.code (.scope c)::k)) cs w)=.next (lone (b.atR a (.code c:: .inScope c::k)) cs w):=
 step_lone_go (by simp[stepG,stepG.exec,Frame.atR])
theorem qld{b:Frame}{a:Act}{k:List Item}{cs:List Frame}{c:Code}:step P (lone (b.atR a (.inScope c::k)) cs w)=.next (lone (b.atR a k) cs w):=
 step_lone_go (by simp[stepG,stepG.exec,Frame.atR])
def zsx(Q:Exit->Act->World->Prop):Exit->Act->World->Prop
 | .goto _,_,_=>False
 |e,a,w=>Q e a w
theorem qvr{F:Fence}{n:Nat}{c:Code}{Q:Exit->Act->World->Prop}{a:Act}(h:c.wpIn F n P (zsx Q) a w):(Code.scope c).wpIn F n P Q a w:=by
 intro b k cs hro hb hr;have h0:(lone (b.atR a (.code (.scope c)::k)) cs w).fenced P F:=fenced_calm hb hr rfl;obtain⟨e,a₁,w₁,hq,harr⟩:=h b (.inScope c::k) cs hro hb hr;cases e with
 |normal=>exact⟨.normal,a₁,w₁,hq,.head h0 q44 (StepsIn.trans harr (.one (fenced_calm hb hr rfl) qld))⟩
 |exit id=>
  have hx:exitTo id (.inScope c::k)=exitTo id k:=by simp[exitTo]
  exact⟨.exit id,a₁,w₁,hq,λk' hk=>.head h0 q44 (harr.1 k' (by rw[hx];exact hk)),
   λhr' hk=>let ⟨k₁,h1,h2⟩:=harr.2 hr' (by rw[hx];exact hk);⟨k₁,h1,.head h0 q44 h2⟩⟩
 |goto l=>exact hq.elim
 |ret=>exact⟨_,a₁,w₁,hq,.of_steps (.one h0 q44) harr⟩
 |panic ch=>exact⟨_,a₁,w₁,hq,.of_steps (.one h0 q44) harr⟩
 |outgrown=>exact⟨_,a₁,w₁,hq,.of_steps (.one h0 q44) harr⟩
theorem z2i{σ:St}{a:Act}{d:Nat}{b:Bool}(hm:Mod M w0 ρ σ a w)(hs:σ.slot d=.v (.bool b)):Mod M w0 ρ (σ.know d b) a w:=by
 refine⟨⟨hm.tm.1,λi hi=>?_⟩,hm.df,hm.dl,hm.hp⟩;have h:=hm.tm.2 i hi;rw[St.look_lg]at h;rw[show(σ.know d b).lg=(d,SV.k (.bool b))::σ.lg from rfl,q2a,St.look_lg];by_cases hid:i=d
 .subst hid;rw[if_pos rfl];have:σ.slot i=.v (.bool b):=hs;rw[this]at h;exact h
 .rw[if_neg hid];exact h
theorem q6p{α:Type}(t:Tr α):t.Each λ_=>True:=by
 induction t with
 |ret x=>trivial
 |br c a b iha ihb=>exact⟨iha,ihb⟩
 |ask q a ih=>exact ih
 |giv q a ih=>exact ih
 |all k ih=>exactλn=>ih n
 |bad _=>trivial
theorem z3k{ops:Array Oper}{σ:St}{o:Oper}{a:Act}{go:Bool->St->Tr St}{K:St->Prop}(hgo:∀g(σ':St)B HB,σ'.On B HB->(go g σ').Each (St.On B HB))(hm:Mod M w0 ρ σ a w)(hK:(qpg ops σ o go).Holds K):
  ∃σ' K',Mod M w0 ρ σ' a w/\σ'.h.nx=σ.h.nx/\(go (Region.wanted o (yielded ops a.tmps)) σ').Holds K'/\
   (∀x w0 w ρ a,K' x->Mod M w0 ρ x a w->∃y,K y/\x.h.nx<=y.h.nx/\Mod M w0 ρ y a w):=by
 have same:∀g,(go g σ).Holds K->∃σ' K',Mod M w0 ρ σ' a w/\σ'.h.nx=σ.h.nx/\(go g σ').Holds K'/\(∀x w0 w ρ a,K' x->Mod M w0 ρ x a w->∃y,K y/\x.h.nx<=y.h.nx/\Mod M w0 ρ y a w):=λg h=>
  ⟨σ,K,hm,rfl,h,λx _ _ _ _ hk hm=>⟨x,hk,Nat.le_refl _,hm⟩⟩
 unfold qpg at hK;unfold Region.wanted;cases hg:o.guard with
 |none=>rw[hg]at hK;exact same _ hK
 |some jw=>
  obtain⟨j,want⟩:=jw;rw[hg]at hK;simp only at hK ⊢;unfold yielded;cases hd:(ops[j]?).bind (·.dst)with
  |none=>rw[hd]at hK;exact same _ (by simpa using hK)
  |some d=>
   rw[hd]at hK;simp only at hK
   obtain⟨hlt,hK1⟩:=(by
    cases hb:Nat.blt d σ.n with
    |true=>rw[hb]at hK;exact⟨by simpa [Nat.blt_eq]using hb,hK⟩
    |false=>rw[hb]at hK;exact hK.elim:d<σ.n/\_)
   simp only[cond_true]at hK1;have hsz:=hm.tm.1
   have hget:a.tmps[d]?=some (a.tmps.getD d undef):=by
    rw[Array.getD_eq_getD_getElem?,getElem?_pos a.tmps d (hsz▸hlt)];rfl
   have hfit:=hm.tm.2 d hlt;rw[St.look_lg]at hfit;simp only[Option.bind_some,hget];cases hs:σ.slot d with
   |k x=>
    have hx:a.tmps.getD d undef=x:=by
     rw[hs]at hfit;exact hfit
    rw[hs]at hK1;rw[hx];cases x with
    |bool b=>exact same _ (by simpa using hK1)
    |tuple _=>exact same _ (by simpa using hK1)
    |_=>exact hK1.elim
   |v x=>
    have hx:a.tmps.getD d undef=x:=by
     rw[hs]at hfit;exact hfit
    rw[hs]at hK1;rw[hx];cases x with
    |bool b=>
     have hk2:=Tr.holds_map hK1;have hon:∀g,(go g (σ.base.know d g)).Each (St.On (σ.t++σ.b) (σ.h.l++σ.h.b)):=λg=>hgo _ _ _ _ ⟨rfl,rfl⟩;have hon':∀g v,(go g (σ.base.know d v)).Each (St.On (σ.t++σ.b) (σ.h.l++σ.h.b)):=λg v=>hgo _ _ _ _ ⟨rfl,rfl⟩;obtain⟨h1,h2⟩:=q8n (q6n _ _ _ _) (hon' _ true) (hon' _ false) hk2
     have hbs:σ.base.slot d=.v (.bool b):=by
      have:σ.base.slot d=σ.slot d:=q3g _ _ _ _;rw[this,hs]
     have fin:∀x w0 w ρ a,((∃j,Wk x j/\K (σ.pop j))/\x.On (σ.t++σ.b) (σ.h.l++σ.h.b))->Mod M w0 ρ x a w->∃y,K y/\x.h.nx<=y.h.nx/\Mod M w0 ρ y a w:=by
      rintro x w0 w ρ a ⟨⟨j,hw,hk⟩,hx⟩ hm;refine⟨σ.pop j,hk,hw.nx,(hw.mod _ _ _ _ _ hm).pop ?_⟩;have:=hw.on
      rwa [hx.1,hx.2]at this
     cases b with
     |true=>exact⟨_,_,z2i hm.base hbs,rfl,Tr.each_holds (hon' _ _) (by simpa using h1 rfl),fin⟩
     |false=>exact⟨_,_,z2i hm.base hbs,rfl,Tr.each_holds (hon' _ _) (by simpa using h2 rfl),fin⟩
    |_=>exact hK1.elim
   |_=>rw[hs]at hK1;exact hK1.elim
theorem qu7{run yld:Nat->Con}(hrun:∀f,FnOk P f (run f))(hyld:qyc P yld)(hrb:∀f,ConB (run f))(hyb:∀l,ConB (yld l)){ops:Array Oper}{r:Option Nat}{Q:Exit->Act->World->Prop}:∀(l:List Oper)(k:Nat)(ρ:Rh)(σ:St)(a:Act)(w:World)(K:St->Prop),
  (∀j,l[j]?=ops[k+j]?)->(qbh P run yld ops l σ).Holds K->Mod M w0 ρ σ a w->(∀σ' ρ' a' w',K σ'->σ.h.nx<=σ'.h.nx->Agree σ.h.nx ρ ρ'->Mod M w0 ρ' σ' a' w'->Q .normal a' w')->
  wpOpsIn (Fw r) 0 P ops Q (List.range' k l.length) a w
 | [],k,ρ,σ,a,w,K,_,hK,hm,hQ=>by
  simp only[List.length_nil,List.range'_zero,wpOpsIn];exact hQ σ ρ a w hK (Nat.le_refl _) (Agree.refl _ _) hm
 |o::l,k,ρ,σ,a,w,K,hl,hK,hm,hQ=>by
  have ho:ops[k]?=some o:=by simpa using(hl 0).symm
  have hl':∀j,l[j]?=ops[k+1+j]?:=λj=>by have:=hl (j+1);simpa [Nat.add_assoc,Nat.add_comm 1 j]using this
  simp only[List.length_cons,List.range'_succ,wpOpsIn,ho]
  have hgo:∀(g:Bool)(σ':St)B HB,σ'.On B HB->(match g with
    |true=>(opS P run yld σ'.ev σ'.h o.op).bind λx=>qbh P run yld ops l (σ'.put o.dst x.1 x.2)
    |false=>qbh P run yld ops l (σ'.put o.dst (.k undef) σ'.h):Tr St).Each (St.On B HB):=λg σ' B HB hon=>by
   cases g with
   |true=>
    refine Tr.each_bind' (p:=λy=>y.2.b=σ'.h.b) (λx hx=>?_) (qmt hrb hyb);refine q6k hrb hyb l _ B HB ?_;have:=qj2 (d:=o.dst) (s:=x.1) hx
    rwa [hon.1,hon.2]at this
   |false=>
    refine q6k hrb hyb l _ B HB ?_;have:=qj2 (σ:=σ') (d:=o.dst) (s:=.k undef) (h':=σ'.h) rfl
    rwa [hon.1,hon.2]at this
  obtain⟨σ1,K',hm1,hh1,hK1,hfin⟩:=z3k hgo hm hK
  have hQ':∀σ' ρ' a' w',K' σ'->σ.h.nx<=σ'.h.nx->Agree σ.h.nx ρ ρ'->Mod M w0 ρ' σ' a' w'->Q .normal a' w':=λσ' ρ' a' w' h1 h2 h3 h4=>by
   obtain⟨y,hy,hny,hmy⟩:=hfin σ' w0 w' ρ' a' h1 h4;exact hQ y ρ' a' w' hy (Nat.le_trans h2 hny) h3 hmy
  cases hw:Region.wanted o (yielded ops a.tmps)with
  |true=>
   rw[hw]at hK1;simp only at hK1;rw[if_pos rfl];have hg:=zst (P:=P) hrun hyld (o:=o) (a:=a) hm1.hp hm1.ev (Tr.holds_bind hK1);refine hg r _ _ λs h' ρ' x w' h1 h2 h3 h4 h5=>?_;have hm2:=hm1.put h2 h3 h4 h5 o.dst;have hnx:(σ1.put o.dst s h').h=h':=by cases o.dst<;>rfl
   refine qu7 hrun hyld hrb hyb l (k+1) ρ' _ _ w' K' hl' h1 hm2 λσ' ρ'' a' w'' q1 q2 q3 q4=>?_;rw[hnx]at q2 q3;rw[hh1]at h2 h3;exact hQ' σ' ρ'' a' w'' q1 (Nat.le_trans h2 q2) (h3.trans h2 q3) q4
  |false=>
   rw[hw]at hK1;simp only at hK1;rw[if_neg (by simp)];refine⟨λ_ _=>trivial,?_⟩;have hm2:=hm1.put (Nat.le_refl _) (Agree.refl _ _) hm1.hp (s:=.k undef) (x:=undef) rfl o.dst;have hnx:(σ1.put o.dst (.k undef) σ1.h).h.nx=σ1.h.nx:=by cases o.dst<;>rfl
   refine qu7 hrun hyld hrb hyb l (k+1) ρ _ _ w K' hl' hK1 hm2 λσ' ρ'' a' w'' q1 q2 q3 q4=>?_;rw[hnx,hh1]at q2 q3;exact hQ' σ' ρ'' a' w'' q1 q2 q3 q4
theorem qd8{t:TypeId}{x:Value}{y:Value}{w':World}(h:(Instr.loadAt t x).run P w=.ok y w'):∃a,x=.pointer (some a)/\(loadVar t a).run P w=.ok y w':=by
 unfold Instr.loadAt Instr.sureAddr at h;cases x with
 |pointer a=>cases a with
  |some a=>exact⟨a,rfl,by simpa using h⟩
  |none=>simp at h
 |_=>simp at h
def resV(tmps:Array Value):ResultVar->Sem Value
 | .tmp t=>pure (tmps.getD t undef)
 | .cell a t=>do loadVar t (<-asAddr (tmps.getD a undef))
theorem qwf(fn:Func)(tmps:Array Value):results fn tmps=(do let vs <-fn.results.mapM (resV tmps);pure (if h:vs.size=1 then vs[0]else .tuple vs)):=by
 unfold results;congr 1
theorem z03{σ:St}{a:Act}(hm:Mod M w0 ρ σ a w){r:ResultVar}{K:SV->Prop}(hK:(z04 P σ r).Holds K):∃s x,K s/\s.fit σ.h.nx ρ x/\(resV a.tmps r).run P w=.ok x w:=by
 cases r with
 |tmp t=>exact⟨_,_,hK,hm.ev (.tmp t),by simp[resV,Act.eval]⟩
 |cell ad t=>
  simp only[z04]at hK;obtain⟨sv,x,h1,h2,h3⟩:=z06 hm.hp (hm.ev (.tmp ad)) (Tr.holds_bind hK);obtain⟨b,hb,hl⟩:=qd8 h3;refine⟨sv,x,h1,h2,?_⟩;have:a.tmps.getD ad undef=.pointer (some b):=hb;simp only[resV,this,Sem.run_bind];simp[asAddr,hl]
theorem qo3{σ:St}{a:Act}(hm:Mod M w0 ρ σ a w):∀{rs:List ResultVar}{K:List SV->Prop},(qtt P σ rs).Holds K->∃ss xs,K ss/\SV.fits σ.h.nx ρ ss xs/\(rs.mapM (resV a.tmps)).run P w=.ok xs w
 | [],K,hK=>⟨[],[],hK,by simp[SV.fits],by simp⟩
 |r::rs,K,hK=>by
  simp only[qtt]at hK;obtain⟨s,x,h1,h2,h3⟩:=z03 (P:=P) hm (Tr.holds_bind hK);obtain⟨ss,xs,k1,k2,k3⟩:=qo3 hm (Tr.holds_bind h1);refine⟨s::ss,x::xs,k1,by simp only[SV.fits];exact⟨h2,k2⟩,?_⟩;simp[List.mapM_cons,h3,k3]
theorem zko{σ:St}{a:Act}(hm:Mod M w0 ρ σ a w){fn:Func}{K:SV×SH->Prop}(hK:(resS P fn σ).Holds K):∃s x,K (s,σ.h)/\s.fit σ.h.nx ρ x/\(results fn a.tmps).run P w=.ok x w:=by
 unfold resS at hK;obtain⟨ss,xs,h1,h2,h3⟩:=qo3 (P:=P) hm (Tr.holds_bind hK)
 have hmap:(fn.results.mapM (resV a.tmps)).run P w=.ok xs.toArray w:=by
  rw[Array.mapM_eq_mapM_toList];simp[h3]
 rw[qwf];simp only[Sem.run_bind,hmap,Result.andThen_ok,Sem.run_pure];have hlen:=q0d h2;split at h1
 .rename_i s;obtain⟨x,r,rfl,hx,hr⟩:=q04 h2;have:=q0b hr;subst this;exact⟨s,x,h1,hx,by simp⟩
 .rename_i hne;refine⟨.tup ss,.tuple xs.toArray,h1,⟨xs,rfl,h2⟩,?_⟩;rw[dif_neg];intro h;cases ss with
  |nil=>simp at h;rw[h]at hlen;simp at hlen
  |cons s r=>cases r with
   |nil=>exact hne s rfl
   |cons _ _=>simp at h;rw[h]at hlen;simp at hlen
theorem qnu{h:SH}{i:Nat}{o o':Obj}(hm:HM M w0 ρ h w)(hg:h.get i=.obj o):HM M w0 ρ (h.set i (.obj o')) (w.putObj (ρ i).blk o'):=by
 have hf:=hm.ob i;rw[hg]at hf;have hown:(h.get i).own (ρ i):=by rw[hg];trivial
 exact hm.setOwn hown trivial rfl rfl rfl (by simp[World.putObj]) (λj hj=>World.putObj_heap_other hj) (World.putObj_heap_same (Array.getElem?_eq_some_iff.1 hf.2.2).1) ⟨hf.1,hf.2.1,rfl⟩
theorem q46{r:Nat}{o:Obj}(h:w.heap[r]?=some o)(hc:∀a b c,o≠.cells a b c):(getObj r).run P w=.ok o w:=by
 unfold getObj Sem.run;rw[h];cases o<;>first|rfl|exact absurd rfl (hc _ _ _)
theorem q6i{r:Nat}{o o':Obj}(h:w.heap[r]?=some o)(hc:∀a b c,o≠.cells a b c):(setObj r o').run P w=.ok () (w.putObj r o'):=by
 simp only[setObj,Sem.run,h];cases o<;>first|rfl|exact absurd rfl (hc _ _ _)
theorem qlx{fn:Func}{R:Ending->World->Prop}{tmps:Array Value}:∀(ds:List Deferred)(d s:List Nat)(ρ:Rh)(h h':SH)(w:World),Mix ρ d s ds->s.Nodup->(∀b∈s,Sf1 M w0 ρ b)->q4f d h=some h'->HM M w0 ρ h w->h'.nx=h.nx/\
  ((∀ρ' w',ρ'.lc=ρ.lc->ρ'.lo=ρ.lo->(∀b o,ρ.mem b=some o->b∉s->ρ'.mem b=some o)->HM M w0 ρ' h' w'->∃v,(results fn tmps).run P w'=.ok v w'/\R (.returned v) w')->LeavesInM Fence.wide 0 P fn tmps R ds .returning w)
 | [],d,s,ρ,h,h',w,hx,_,_,he,hm=>by
  cases hx;simp only[q4f,Option.some.injEq]at he;subst he;exact⟨rfl,λhr=>hr ρ w rfl rfl (λ_ _ h _=>h) hm⟩
 |x::ds,d,s,ρ,h,h',w,hx,hnd,hs,he,hm=>by
  cases hx with
  |@id d _ _ i hx=>
   simp only[q4f]at he;split at he
   .rename_i hg;have hm1:=qnu (o':=.deferred none) hm hg;obtain⟨h1,h2⟩:=qlx ds d s ρ _ h' _ hx hnd hs he hm1;refine⟨h1,λhr=>⟨by simp,.inl ⟨(ρ i).blk,w.putObj (ρ i).blk (.deferred none),rfl,?_,h2 hr⟩⟩⟩;have hf:=hm.ob i;rw[hg]at hf;simp[Instr.takeDeferred,q46 hf.2.2 (by simp),q6i hf.2.2 (by simp)]
   .cases he
  |@sf _ s _ b hx=>
   obtain⟨k1,k2,k3⟩:=hs b (List.mem_cons_self ..);have hob:=hm.fz _ _ k1;have hm1:=hm.unfrz (w':=w.putObj b (.deferred none)) k1 (by simp[qpz]) k2 rfl rfl rfl (by simp[World.putObj]) (λj hj=>World.putObj_heap_other hj);have hnb:=List.nodup_cons.1 hnd
   obtain⟨h1,h2⟩:=qlx ds d s ⟨ρ.lc,q62 ρ.mem b,ρ.lo⟩ h h' _ (hx.lc λ_ _=>rfl) hnb.2 (λc hc=>by
    obtain⟨q1,q2,q3⟩:=hs c (List.mem_cons_of_mem _ hc);exact⟨by show q62 ρ.mem b c=_;simp only[q62];rw[if_neg (by rintro rfl;exact hnb.1 hc)];exact q1,q2,q3⟩) he hm1
   refine⟨h1,λhr=>⟨by simp,.inl ⟨b,w.putObj b (.deferred none),rfl,?_,h2 λρ' w' e1 e2 e3 hm'=>hr ρ' w' e1 e2 (λc o hc hcs=>e3 c o ?_ λh=>hcs (List.mem_cons_of_mem _ h)) hm'⟩⟩⟩
   .simp[Instr.takeDeferred,q46 hob (by simp),q6i hob (by simp)]
   .show q62 ρ.mem b c=_;simp only[q62];rw[if_neg (by rintro rfl;exact hcs (List.mem_cons_self ..))];exact hc
theorem qhm:∀(args:List SV)(k i:Nat),look (.k undef) i (qhn k args)=if k<=i/\i<k+args.length then args.getD (i-k) (.k undef)else .k undef
 | [],k,i=>by simp[qhn,look]
 |a::r,k,i=>by
  simp only[qhn,q2a,List.length_cons];by_cases hik:i=k
  .subst hik;simp
  .rw[if_neg hik,qhm r (k+1) i];by_cases hc:k<=i/\i<k+(r.length+1)
   .rw[if_pos (by omega),if_pos hc];have:i-k=(i-(k+1))+1:=by omega
    rw[this];simp
   .rw[if_neg (by omega),if_neg hc]
theorem qy9{n k:Nat}{args:List SV}{vs:List Value}(hf:SV.fits n ρ args vs)(hle:args.length<=k):q6c n ρ k (qhn 0 args) (vs.toArray++Array.replicate (k-vs.toArray.size) undef):=by
 have hl:=q0d hf;refine⟨by simp;omega,λi hi=>?_⟩;rw[qhm];simp only[Array.getD_eq_getD_getElem?];by_cases hia:i<args.length
 .rw[if_pos (by omega)]
  have hs:args[i]?=some (args.getD i (.k undef)):=by
   rw[List.getElem?_eq_getElem hia,List.getD_eq_getElem?_getD,List.getElem?_eq_getElem hia];rfl
  obtain⟨x,hx,hfx⟩:=q4e hf hs;rw[Array.getElem?_append_left (by simp;omega)];simp only[List.getElem?_toArray,hx,Option.getD_some,Nat.sub_zero];exact hfx
 .rw[if_neg (by omega),Array.getElem?_append_right (by simp;omega)];simp only[SV.fit];rw[Array.getElem?_replicate];split<;>rfl
theorem qv7{f:Nat}{ex:Code->St->Tr (Ex×St)}
  (hex:∀(M:Nat->Prop)(w0 w:World)(ρ:Rh)(fn:Func)(c:Code)(σ:St)(a:Act)(K:Ex×St->Prop),P.funcs[f]?=some fn->fn.body=some c->(ex c σ).Holds K->Mod M w0 ρ σ a w->c.wpIn Fence.wide 0 P (q5s M w0 ρ σ.h.nx K) a w) :
  FnOk P f (qmj P ex f):=by
 intro M w0 w ρ h args vs K hK hm hfits;unfold qmj at hK;split at hK
 .rename_i fn hfn;split at hK
  .rename_i c hc;obtain⟨hle,hK1⟩:=q0a hK;have hle':=Nat.le_of_ble_eq_true hle;have hK2:=Tr.holds_bind hK1;refine(callsIn_wide (n:=0)).1 (callsIn_of_wp_marks hfn hc trivial ?_)
   let ρ1:Rh:=⟨ρ.lc,ρ.mem,⟨ρ.lo.old,ρ.mem⟩⟩
   have hfits1:SV.fits h.nx ρ1 args vs:=SV.fits_mono0 (ρ:=ρ) (ρ':=ρ1) (Nat.le_refl _) ⟨λ_ _=>rfl,λ_ _ hb _=>hb⟩ _ _ hfits;have hm1:HM M w0 ρ1 h w:=hm.relo rfl
   have hmod:Mod M w0 ρ1 ⟨fn.ntmps,qhn 0 args,h,[],[]⟩ { tmps:=vs.toArray++Array.replicate (fn.ntmps-vs.toArray.size) undef,defers:=[]} w:=
    ⟨by simpa [St.lg]using qy9 hfits1 hle',Dfs.nil λ_ _ hb=>hb,by simp,hm1⟩
   refine wpIn_mono (hex M w0 w ρ1 fn c _ _ _ hfn hc hK2 hmod) ?_;rintro x a' w' ⟨e,σ',ρ',rfl,hk,hn,ha,hm'⟩
   have fin:(match q4f σ'.d σ'.h with
      |some h'=>resS P fn ⟨σ'.n,σ'.t,h',[],σ'.b⟩
      |none=>.bad 510:Tr (SV×SH)).Holds K->LeavesInM Fence.wide 0 P fn a'.tmps (ql3 M w0 ρ h K) a'.defers .returning w':=by
    intro hk;split at hk
    .rename_i h' he;obtain⟨s0,hmix,hnd,hsf⟩:=hm'.df.mix;obtain⟨hnx,hleave⟩:=qlx (P:=P) (fn:=fn) (R:=ql3 M w0 ρ h K) (tmps:=a'.tmps) _ σ'.d s0 ρ' σ'.h h' w' hmix hnd hsf he hm'.hp;refine hleave λρ2 w'' e1 e2 e3 hm''=>?_
     have hag2:Agr σ'.h.nx ρ' ρ2:=⟨λi _=>by rw[e1],λb o hb hd=>e3 b o hb λhbs=>by
      have:=(hsf b hbs).1;rw[this]at hb;cases hb;exact hd⟩
     have hm0:∀b o,ρ2.lo.m0 b=some o->ρ2.mem b=some o:=λb o hb=>by
      rw[e2]at hb;refine e3 b o (hm'.df.m0 b o hb) λhbs=>?_;rw[(hsf b hbs).2.2]at hb;cases hb
     have hm3:Mod M w0 ρ2 ⟨σ'.n,σ'.t,h',[],σ'.b⟩ { tmps:=a'.tmps,defers:=[]} w'':=⟨by have:=hm'.tm.mono0 (Nat.le_refl _) hag2;rw[hnx];exact this,Dfs.nil hm0,by simp,hm''⟩;obtain⟨s,x,h1,h2,h3⟩:=zko (P:=P) hm3 hk;have hlo:ρ2.lo=⟨ρ.lo.old,ρ.mem⟩:=e2.trans ha.2.2;have hm4:HM M w0 ⟨ρ2.lc,ρ2.mem,ρ.lo⟩ h' w'':=hm''.relo (by rw[hlo]);refine⟨x,h3,s,h',⟨ρ2.lc,ρ2.mem,ρ.lo⟩,x,h1,by rw[hnx];exact hn,⟨λi hi=>?_,λb o hb=>?_,rfl⟩,hm4,SV.fit_mono0 (ρ:=ρ2) (ρ':=⟨ρ2.lc,ρ2.mem,ρ.lo⟩) (n:=h'.nx) (Nat.le_refl _) ⟨λ_ _=>rfl,λ_ _ hb _=>hb⟩ _ _ h2,rfl⟩
     .show ρ2.lc i=ρ.lc i;rw[e1];exact ha.1 i hi
     .refine hm0 b o ?_;rw[hlo];exact hb
    .exact hk.elim
   cases e with
   |normal=>exact fin hk
   |ret=>exact fin hk
   |exit id=>exact hk.elim
   |goto l=>exact hk.elim
  .exact hK.elim
 .exact hK.elim
theorem qfn{n:Nat}{k:Nat}:∀(ps:List Nat)(as:List SV)(vs:List Value)(t:List (Nat×SV))(tm:Array Value),SV.fits n ρ as vs->q6c n ρ k t tm->
  q6c n ρ k (q6s ps as t) ((ps.zip vs).foldl (λtm x=>tm.setIfInBounds x.1 x.2) tm)
 | [],as,vs,t,tm,_,hs=>by simp[q6s];exact hs
 |p::ps,[],vs,t,tm,hf,hs=>by
  have:=q0b hf;subst this;simp[q6s];exact hs
 |p::ps,a::as,vs,t,tm,hf,hs=>by
  obtain⟨x,r,rfl,hx,hr⟩:=q04 hf;simp only[q6s,List.zip_cons_cons,List.foldl_cons];exact qfn ps as r _ _ hr (qnr hs hx p)
theorem q9i{h:SH}{l:Nat}(hm:HM M w0 ρ h w){st:LoopState}{pd:Option Code}{n:Nat}{t:List (Nat×SV)}{ps:Array Tmp}{asg body:Code}{df:Nat}(hg:h.get l=.loop st pd n t ps asg body df):
  (ρ l).nl=false/\df<h.nx/\∃f tm,w.heap[(ρ l).blk]?=some (.loop ⟨st,pd,f,tm,ps,asg,body,(ρ df).blk⟩)/\q6c h.nx ρ n t tm:=by
 have hf:=hm.ob l;rw[hg]at hf;exact hf
theorem quq{h:SH}{l:Nat}(hm:HM M w0 ρ h w){st st':LoopState}{pd pd':Option Code}{n:Nat}{t:List (Nat×SV)}{ps:Array Tmp}{asg body:Code}{df:Nat}(hg:h.get l=.loop st pd n t ps asg body df)
  {f:Nat} {tm:Array Value} (hob:w.heap[(ρ l).blk]?=some (.loop ⟨st,pd,f,tm,ps,asg,body,(ρ df).blk⟩)) (hs:q6c h.nx ρ n t tm) :
  HM M w0 ρ (h.set l (.loop st' pd' n t ps asg body df)) (w.putObj (ρ l).blk (.loop ⟨st',pd',f,tm,ps,asg,body,(ρ df).blk⟩)):=by
 obtain⟨hnl,hdf,_⟩:=q9i hm hg;have hown:(h.get l).own (ρ l):=by rw[hg];trivial
 exact hm.setOwn hown trivial rfl rfl rfl (by simp[World.putObj]) (λj hj=>World.putObj_heap_other hj) (World.putObj_heap_same (Array.getElem?_eq_some_iff.1 hob).1) ⟨hnl,hdf,f,tm,rfl,hs⟩
theorem qjg{h:SH}{l:Nat}(hm:HM M w0 ρ h w){st st':LoopState}{pd pd':Option Code}{n:Nat}{t:List (Nat×SV)}{ps:Array Tmp}{asg body:Code}{df:Nat}(hg:h.get l=.loop st pd n t ps asg body df)
  {f:Nat} {tm:Array Value} (hob:w.heap[(ρ l).blk]?=some (.loop ⟨st,pd,f,tm,ps,asg,body,(ρ df).blk⟩)) (hs:q6c h.nx ρ n t tm) :
  HM M w0 ρ (h.setLp l st' pd') (w.putObj (ρ l).blk (.loop ⟨st',pd',f,tm,ps,asg,body,(ρ df).blk⟩)):=
 (quq (st':=st') (pd':=pd') hm hg hob hs).same rfl λj=>by
  rw[SH.get_set];show q0y (q0y .dead j h.b) j ((l,.lp st' pd')::h.l)=_;rw[q28];by_cases hjl:j=l
  .subst hjl;rw[if_pos rfl,if_pos rfl];have:q0y (q0y .dead j h.b) j h.l=.loop st pd n t ps asg body df:=hg;rw[this];rfl
  .rw[if_neg hjl,if_neg hjl];rfl
theorem run_endRound{r:Nat}{o:Loop}(h:w.heap[r]?=some (.loop o))(j:Option Code):
  (Instr.endRound r j).run P w=.ok (.bool j.isNone) (w.putObj r (.loop { o with state:=if j.isNone then .ready else .done,pending:=j})):=by
 simp[Instr.endRound,Instr.getLoop,q46 h (by simp),q6i h (by simp)]
theorem qyi{ex:Nat->Code->St->Tr (Ex×St)}
  (hex:∀(l:Nat)(c:Code)(M:Nat->Prop)(w0 w:World)(ρ:Rh)(σ:St)(a:Act)(K:Ex×St->Prop),l<σ.h.nx->(ex l c σ).Holds K->Mod M w0 ρ σ a w->c.wpIn (Fw (some (ρ l).blk)) 0 P (q5s M w0 ρ σ.h.nx K) a w) :
  qyc P (q7y ex):=by
 intro M w0 w ρ h l args vs K r hK hm hfits hl;unfold q7y at hK;split at hK
 .rename_i pd n t ps asg body df hg;obtain⟨hlen,hK1⟩:=q0a hK;have hlen':=q05 hlen;have hK2:=Tr.holds_bind hK1;obtain⟨hnl,hdf,f,tm,hob,hslots0⟩:=q9i hm hg;have hvl:=q0d hfits
  let ρ1:Rh:=⟨ρ.lc,ρ.mem,⟨ρ.lo.old,ρ.mem⟩⟩
  have hag0:Agr h.nx ρ ρ1:=⟨λ_ _=>rfl,λ_ _ hb _=>hb⟩;have hfits1:SV.fits h.nx ρ1 args vs:=SV.fits_mono0 (Nat.le_refl _) hag0 _ _ hfits;have hslots:q6c h.nx ρ1 n t tm:=hslots0.mono0 (Nat.le_refl _) hag0;have hmr:HM M w0 ρ1 h w:=hm.relo rfl;refine⟨f,(ps.zip vs.toArray).foldl (λtmps(t,a)=>tmps.setIfInBounds t a) tm,asg,body,?_,?_⟩
  .have hsz:¬vs.toArray.size≠ps.size:=by simp;omega
   simp only[Instr.yield,Instr.getLoop,Sem.run_bind,q46 hob (by simp),Result.andThen_ok,Sem.run_pure];rw[if_neg hsz];simp
  .refine roundIn_of_wpIn trivial ?_
   have hfold:(ps.zip vs.toArray).foldl (λtmps(t,a)=>tmps.setIfInBounds t a) tm=(ps.toList.zip vs).foldl (λtm x=>tm.setIfInBounds x.1 x.2) tm:=by
    rw[<-Array.foldl_toList,Array.toList_zip]
   rw[hfold]
   have hmod:Mod M w0 ρ1 ⟨n,q6s ps.toList args t,h,[],[]⟩ { tmps:=(ps.toList.zip vs).foldl (λtm x=>tm.setIfInBounds x.1 x.2) tm,defers:=[]} w:=
    ⟨by simpa [St.lg]using qfn ps.toList _ _ _ _ hfits1 hslots,Dfs.nil λ_ _ hb=>hb,by simp,hmr⟩
   have hwp:=hex l asg M w0 w ρ1 _ _ _ hl hK2 hmod;refine wpIn_mono hwp ?_;rintro x a1 w1 ⟨e,σ1,ρr,rfl,hk,hn1,ha1,hm1⟩;simp only at hk hn1 ha1;cases e with
   |normal=>
    simp only at hk;split at hk
    .rename_i pd' n' t' ps' asg' body' df' hg1;simp only[Ex.ex,Exit.then];have hk2:=Tr.holds_bind hk;obtain⟨hnl1,hdf1,f1,tm1,hob1,hs1⟩:=q9i hm1.hp hg1;have hm2:=qjg (st':=.busy) (pd':=pd') hm1.hp hg1 hob1 hs1;have hrl:(ρr l).blk=(ρ l).blk:=by rw[ha1.1 l hl]
     refine⟨w1.putObj (ρr l).blk (.loop ⟨.busy,pd',f1,tm1,ps',asg',body',(ρr df').blk⟩),?_,?_⟩
     .rw[<-hrl];simp[Instr.beginRound,Instr.getLoop,q46 hob1 (by simp),q6i hob1 (by simp)]
     .have hmod2:Mod M w0 ρr ⟨σ1.n,σ1.t,σ1.h.setLp l .busy pd',σ1.d,σ1.b⟩ a1 _:=⟨hm1.tm,hm1.df,hm1.dl,hm2⟩;have hwp2:=hex l body M w0 _ ρr ⟨σ1.n,σ1.t,σ1.h.setLp l .busy pd',σ1.d,σ1.b⟩ _ _ (Nat.lt_of_lt_of_le hl hn1) hk2 hmod2;rw[show Fw (some (ρr l).blk)=Fw (some (ρ l).blk) by rw[hrl]]at hwp2;refine wpIn_mono hwp2 ?_;rintro x2 a2 w2 ⟨e2,σ2,ρ2,rfl,hk3,hn2,ha2,hm3⟩;simp only at hk3 hn2 ha2;split at hk3
      .rename_i st2 pd2 n2 t2 ps2 asg2 body2 df2 hg2;obtain⟨hnl2,hdf2,f2,tm2,hob2,hs2⟩:=q9i hm3.hp hg2;have hl1:l<σ1.h.nx:=Nat.lt_of_lt_of_le hl hn1;have hrl2:(ρ2 l).blk=(ρ l).blk:=by rw[ha2.1 l hl1,hrl]
       have hfin:∀(st':LoopState)(pd':Option Code)(b:Bool),K (.k (.bool b),σ2.h.setLp l st' pd')->
         ql3 M w0 ρ h K (.returned (.bool b)) (w2.putObj (ρ2 l).blk (.loop ⟨st',pd',f2,tm2,ps2,asg2,body2,(ρ2 df2).blk⟩)):=λst' pd' b hk=>
        ⟨_,_,⟨ρ2.lc,ρ2.mem,ρ.lo⟩,_,hk,Nat.le_trans hn1 hn2,⟨λi hi=>(ha1.trans hn1 ha2).1 i hi,λb o hb=>(ha1.trans hn1 ha2).2.1 b o hb,rfl⟩,(qjg hm3.hp hg2 hob2 hs2).relo (L:=ρ.lo) (by rw[(ha1.trans hn1 ha2).2.2]),rfl,rfl⟩
       have hob2':=hob2;rw[hrl2]at hob2';cases e2 with
       |normal=>
        refine⟨_,_,run_endRound hob2' none,?_⟩;rw[<-hrl2];exact hfin _ _ true hk3
       |ret=>
        refine⟨_,_,run_endRound hob2' _,?_⟩;rw[<-hrl2];exact hfin _ _ false hk3
       |exit id=>
        refine⟨_,_,run_endRound hob2' _,?_⟩;rw[<-hrl2];exact hfin _ _ false hk3
       |goto id=>
        refine⟨_,_,run_endRound hob2' _,?_⟩;rw[<-hrl2];exact hfin _ _ false hk3
      .exact hk3.elim
    .exact hk.elim
   |exit id=>exact hk.elim
   |goto id=>exact hk.elim
   |ret=>exact hk.elim
 .exact hK.elim
def q06(P:Program)(b:Code)(L:St->Tr (Ex×St)):Prop:=
 ∀(M:Nat->Prop)(w0 w:World)(ρ:Rh)(σ:St)(a:Act)(K:Ex×St->Prop),(L σ).Holds K->Mod M w0 ρ σ a w->
  (Code.loop b).wpIn (Fw none) 0 P (q5s M w0 ρ σ.h.nx K) a w
theorem q5s.chain{nx nx':Nat}{ρ':Rh}{K:Ex×St->Prop}{x:Exit}{a:Act}(h:q5s M w0 ρ' nx' K x a w)(hn:nx<=nx')(ha:Agree nx ρ ρ'):q5s M w0 ρ nx K x a w:=
 let ⟨e,σ',ρ'',h1,h2,h3,h4,h5⟩:=h;⟨e,σ',ρ'',h1,h2,Nat.le_trans hn h3,ha.trans hn h4,h5⟩
def ExOk(P:Program)(rd:Option Nat)(c:Code)(ex:St->Tr (Ex×St)):Prop:=
 ∀(M:Nat->Prop)(w0 w:World)(ρ:Rh)(σ:St)(a:Act)(K:Ex×St->Prop),(∀l,rd=some l->l<σ.h.nx)->(ex σ).Holds K->Mod M w0 ρ σ a w->
  c.wpIn (Fw (rd.map λl=>(ρ l).blk)) 0 P (q5s M w0 ρ σ.h.nx K) a w
theorem qmh{rd:Option Nat}{n:Nat}{ρ':Rh}(hrd:∀l,rd=some l->l<n)(ha:Agree n ρ ρ'):Fw (rd.map λl=>(ρ' l).blk)=Fw (rd.map λl=>(ρ l).blk):=by
 cases rd with
 |none=>rfl
 |some l=>simp only[Option.map_some];rw[ha.1 l (hrd l rfl)]
theorem qji{rd:Option Nat}{c:Code}{ex:St->Tr (Ex×St)}(hex:ExOk P rd c ex):∀(m:Nat)(M:Nat->Prop)(w0 w:World)(ρ:Rh)(σ:St)(a:Act)(K:Ex×St->Prop),(∀l,rd=some l->l<σ.h.nx)->(qd6 ex m σ).Holds K->
  Mod M w0 ρ σ a w->Code.roundsIn (Fw (rd.map λl=>(ρ l).blk)) 0 P c (q5s M w0 ρ σ.h.nx K) m a w
 |0,M,w0,w,ρ,σ,a,K,_,hK,_=>hK.elim
 |m+1,M,w0,w,ρ,σ,a,K,hrd,hK,hm=>by
  rw[roundsIn_succ];refine wpIn_mono (hex M w0 w ρ σ a _ hrd (Tr.holds_bind hK) hm) ?_;rintro x a' w' ⟨e,σ',ρ',rfl,hk,hn,ha,hm'⟩;cases e with
  |normal=>
   have h1:=qji hex m M w0 w' ρ' σ' a' K (λl hl=>Nat.lt_of_lt_of_le (hrd l hl) hn) hk hm';rw[qmh hrd ha]at h1;simp only[Ex.ex,Exit.then]
   have mono:∀m a w,Code.roundsIn (Fw (rd.map λl=>(ρ l).blk)) 0 P c (q5s M w0 ρ' σ'.h.nx K) m a w->Code.roundsIn (Fw (rd.map λl=>(ρ l).blk)) 0 P c (q5s M w0 ρ σ.h.nx K) m a w:=by
    intro m
    induction m with
    |zero=>intro a w h;exact h
    |succ m ih=>
     intro a w h;rw[roundsIn_succ]at h ⊢;refine wpIn_mono h ?_;intro x a w h;cases x with
     |normal=>exact ih a w h
     |_=>exact h.chain hn ha
   exact mono _ _ _ h1
  |exit id=>exact⟨_,σ',ρ',rfl,hk,hn,ha,hm'⟩
  |goto id=>exact⟨_,σ',ρ',rfl,hk,hn,ha,hm'⟩
  |ret=>exact⟨_,σ',ρ',rfl,hk,hn,ha,hm'⟩
theorem run_endLoop{r:Nat}{o:Loop}(h:w.heap[r]?=some (.loop o))(hb:o.state≠.busy):
  (Instr.endLoop r).run P w=.ok o.pending (w.putObj r (.loop { o with state:=.exhausted})):=by
 simp[Instr.endLoop,Instr.getLoop,q46 h (by simp),q6i h (by simp)];exactλh=>absurd h hb
theorem qxg{rd:Option Nat}{ex:Code->St->Tr (Ex×St)}(hex:∀c,ExOk P rd c (ex c)){l:Nat}{σ:St}{a:Act}{K:Ex×St->Prop}(hrd:∀l,rd=some l->l<σ.h.nx)(hK:(q79 ex l σ).Holds K)(hm:Mod M w0 ρ σ a w):
  ∃jump w₄,(Instr.endLoop (ρ l).blk).run P w=.ok jump w₄/\(match jump with|none=>q5s M w0 ρ σ.h.nx K .normal a w₄|some c=>c.wpIn (Fw (rd.map λl=>(ρ l).blk)) 0 P (q5s M w0 ρ σ.h.nx K) a w₄):=by
 unfold q79 at hK;split at hK
 .rename_i st pd n t ps asg body df hg;obtain⟨hnl,hdf,f,tm,hob,hs⟩:=q9i hm.hp hg;have hm2:Mod M w0 ρ ⟨σ.n,σ.t,σ.h.set l (.loop .exhausted pd n t ps asg body df),σ.d,σ.b⟩ a _:=⟨hm.tm,hm.df,hm.dl,quq hm.hp hg hob hs⟩
  have hst:st≠.busy:=by
   rintro rfl;exact hK
  cases pd with
  |none=>
   have hk:K (.normal,⟨σ.n,σ.t,σ.h.set l (.loop .exhausted none n t ps asg body df),σ.d,σ.b⟩):=by
    cases st with
    |busy=>exact absurd rfl hst
    |ready=>exact hK
    |done=>exact hK
    |exhausted=>exact hK
   exact⟨none,_,run_endLoop hob hst,.normal,_,ρ,rfl,hk,Nat.le_refl _,Agree.refl _ _,hm2⟩
  |some c=>
   have hk:(ex c ⟨σ.n,σ.t,σ.h.set l (.loop .exhausted (some c) n t ps asg body df),σ.d,σ.b⟩).Holds K:=by
    cases st with
    |busy=>exact absurd rfl hst
    |ready=>exact hK
    |done=>exact hK
    |exhausted=>exact hK
   exact⟨some c,_,run_endLoop hob hst,hex c M w0 _ ρ ⟨σ.n,σ.t,σ.h.set l (.loop .exhausted (some c) n t ps asg body df),σ.d,σ.b⟩ a K hrd hk hm2⟩
 .exact hK.elim
theorem qtx{rd:Option Nat}{g:Operand}{ps:Array Tmp}{asg body:Code}{σ:St}{a:Act}{K:Ex×St->Prop}{f:Nat}{cs:List SV}{run:Con}{ex:Code->St->Tr (Ex×St)}
  (hrun:FnOk P f run) (hex:∀c,ExOk P rd c (ex c)) (hrd:∀l,rd=some l->l<σ.h.nx) (hm:Mod M w0 ρ σ a w) (hev:σ.ev g=.fn f cs) (hc:callable P f=true)
  {d:List Nat} {mark:List Deferred} {h2:SH} {l:Nat} {ρ2:Rh} (hn:σ.h.nx<=h2.nx) (ha:Agree σ.h.nx ρ ρ2) (hl:l<h2.nx)
  (hent:∀fn,∃w1',(Instr.enterLoop fn a.tmps ps asg body (rd.map λl=>(ρ l).blk)).run P w=.ok ((ρ2 l).blk,mark) w1'/\HM M w0 ρ2 h2 w1')
  (hd:Dfs M w0 ρ2 d (mark++a.defers)) (hdl:∀i∈d,i<h2.nx)
  (hK:((run (.yl l::cs) h2).bind λx=>q79 ex l ⟨σ.n,σ.t,x.2,d,σ.b⟩).Holds K) :
  (Code.rangeFunc g ps asg body).wpIn (Fw (rd.map λl=>(ρ l).blk)) 0 P (q5s M w0 ρ σ.h.nx K) a w:=by
 have he:=hm.ev g;rw[hev]at he;obtain⟨cl,hge,hcl⟩:=he;refine wpIn_rangeFunc λfn _=>?_;obtain⟨w1',hent1,hm1'⟩:=hent fn;refine⟨(ρ2 l).blk,mark,w1',{ target:=.fn (.func f) cl.toArray,args:=#[.func (.yield (ρ2 l).blk) #[] #[]]},w1',f,(.func (.yield (ρ2 l).blk) #[] #[]::cl).toArray,w1',hent1,?_,λ_ _=>trivial,?_,λh=>(by cases h),?_⟩
 .simp only[resolve,hge,Deferred.ofValue];simp[Act.eval]
 .simp only[invoke];rw[qhg hc];simp
 .have hcall:=hrun M w0 w1' ρ2 h2 (.yl l::cs) (.func (.yield (ρ2 l).blk) #[] #[]::cl) _ (Tr.holds_bind hK) hm1' (by
   simp only[SV.fits];exact⟨⟨hl,rfl⟩,SV.fits_mono hn ha _ _ hcl⟩)
  refine ql0 (hcall.mono ?_);rintro e w3 ⟨s,h3,ρ3,x,k1,k2,k3,k4,k5,rfl⟩
  have hmod:Mod M w0 ρ3 ⟨σ.n,σ.t,h3,d,σ.b⟩ { a with defers:=mark++a.defers} w3:=
   ⟨(hm.tm.mono hn ha).mono k2 k3,hd.mono k3 hdl,λi hi=>Nat.lt_of_lt_of_le (hdl i hi) k2,k4⟩
  have hrd3:∀l,rd=some l->l<h3.nx:=λl hl=>Nat.lt_of_lt_of_le (hrd l hl) (Nat.le_trans hn k2);obtain⟨jump,w4,e1,e2⟩:=qxg (P:=P) hex hrd3 k1 hmod;have hrl:(ρ3 l).blk=(ρ2 l).blk:=by rw[k3.1 l hl]
  rw[hrl]at e1;refine⟨jump,w4,e1,?_⟩;have haa:Agree σ.h.nx ρ ρ3:=ha.trans hn k3;cases jump with
  |none=>exact q5s.chain e2 (Nat.le_trans hn k2) haa
  |some c=>
   have e3:c.wpIn (Fw (rd.map λl=>(ρ3 l).blk)) 0 P (q5s M w0 ρ3 h3.nx K) { a with defers:=mark++a.defers} w4:=e2;rw[qmh hrd haa]at e3;exact wpIn_mono e3 λx a w h=>h.chain (Nat.le_trans hn k2) haa
theorem qk8:∀(d:List Nat)(h h':SH),q4f d h=some h'->h'.b=h.b
 | [],h,h',he=>by simp only[q4f,Option.some.injEq]at he;rw[he]
 |i::d,h,h',he=>by
  simp only[q4f]at he;split at he
  .have:=qk8 d _ h' he;exact this
  .cases he
theorem z3v{ex:Code->St->Tr (Ex×St)}(hex:∀c σ,(ex c σ).Each λy=>y.2.On σ.b σ.h.b)(f:Nat):ConB (qmj P ex f):=by
 intro args h;unfold qmj;split
 .rename_i fn hfn;split
  .refine q0p ?_ trivial;refine Tr.each_bind' (λx hx=>?_) (hex _ _)
   have fin:(match q4f x.2.d x.2.h with
     |some h'=>resS P fn ⟨x.2.n,x.2.t,h',[],x.2.b⟩
     |none=>.bad 510:Tr (SV×SH)).Each λy=>y.2.b=h.b:=by
    split
    .rename_i h' he;have e1:=qk8 _ _ _ he;unfold resS;refine Tr.each_bind (λss=>?_) _;have:h'.b=h.b:=e1.trans hx.2;split<;>exact this
    .trivial
   split
   .exact fin
   .exact fin
   .trivial
  .trivial
 .trivial
theorem qt7{ex:Nat->Code->St->Tr (Ex×St)}(hex:∀l c σ,(ex l c σ).Each λy=>y.2.On σ.b σ.h.b)(l:Nat):ConB (q7y ex l):=by
 intro args h;unfold q7y;split
 .refine q0p ?_ trivial;refine Tr.each_bind' (λx hx=>?_) (hex _ _ _);split
  .split
   .refine Tr.each_bind' (λy hy=>?_) (hex _ _ _);have e:y.2.h.b=h.b:=hy.2.trans hx.2;split
    .split<;>exact e
    .trivial
   .trivial
  .trivial
 .trivial
theorem qk9{ex:Code->St->Tr (Ex×St)}(hex:∀c σ,(ex c σ).Each λy=>y.2.On σ.b σ.h.b)(l:Nat)(σ:St):(q79 ex l σ).Each λy=>y.2.On σ.b σ.h.b:=by
 unfold q79;split
 .split
  .trivial
  .split
   .exact⟨rfl,rfl⟩
   .exact hex _ ⟨σ.n,σ.t,σ.h.set l _,σ.d,σ.b⟩
 .trivial
theorem qd5{ex:St->Tr (Ex×St)}(hex:∀σ,(ex σ).Each λy=>y.2.On σ.b σ.h.b):∀(m:Nat)(σ:St),(qd6 ex m σ).Each λy=>y.2.On σ.b σ.h.b
 |0,σ=>trivial
 |m+1,σ=>by
  simp only[qd6];refine Tr.each_bind' (λx hx=>?_) (hex σ);split
  .have:=qd5 hex m x.2
   rwa [hx.1,hx.2]at this
  .exact hx
theorem qyp{id:Nat}{x:Ex×St}{B HB}(h:x.2.On B HB):(q7e id x).2.On B HB:=by
 unfold q7e;split
 .rw[qhj];split<;>exact h
 .exact h
theorem q3a{Γ:Gam}{Λ:Lam}:∀(n:Nat)(lam rd:Option Nat)(c:Code)(σ:St),(exec P Γ Λ n lam rd c σ).Each λy=>y.2.On σ.b σ.h.b
 |0,lam,rd,c,σ=>trivial
 |n+1,lam,rd,c,σ=>by
  have hrun:∀f,ConB (match Γ.g f with|some g=>g|none=>qmj P (exec P Γ Λ n (some f) none) f):=λf=>by
   cases hg:Γ.g f with
   |some g=>exact Γ.hb f g hg
   |none=>exact z3v (λc σ=>q3a n _ _ c σ) f
  have hyld:∀l,ConB (q7y (λl=>exec P Γ Λ n none (some l)) l):=qt7 λl c σ=>q3a n _ _ c σ;cases c with
  |skip=>exact⟨rfl,rfl⟩
  |label l=>exact⟨rfl,rfl⟩
  |ret=>exact⟨rfl,rfl⟩
  |exit id=>exact⟨rfl,rfl⟩
  |goto l=>exact⟨rfl,rfl⟩
  |region id ops d=>
   simp only[exec];refine q0p (q0p trivial (Tr.each_bind' (p:=λy=>y.On σ.b σ.h.b) (λx hx=>hx) (Tr.each_map (q:=λ_=>True) (λx _=>qj4 σ x) (q6p _)))) ?_;cases d with
   |true=>
    simp only[cond_true];refine q0p ?_ (q0p (qab (λops'=>?_) 14 ops) trivial)
    .refine Tr.each_bind' (p:=λy=>y.On σ.b σ.h.b) (λx hx=>hx) (Tr.each_map (q:=λ_=>True) (λx _=>by
      have h:=qj4 (frzS (frB P Γ.q ops) ops.toList σ) x;rw[(z3q _ _ σ).1,(z3q _ _ σ).2]at h;exact h) ?_)
     exact q6p _
    .refine Tr.each_bind' (p:=λy=>y.On σ.b σ.h.b) (λx hx=>hx) (Tr.each_map (q:=λ_=>True) (λx _=>qj4 σ x) ?_);exact q6p _
   |false=>
    simp only[cond_false];exact Tr.each_bind' (p:=λy=>y.On σ.b σ.h.b) (λx hx=>hx) (q6k hrun hyld _ _ _ _ ⟨rfl,rfl⟩)
  |seq x y=>
   simp only[exec];refine Tr.each_bind' (λx hx=>?_) (q3a n lam rd x σ);split
   .have:(exec P Γ Λ n lam rd y x.2).Each λy=>y.2.On x.2.b x.2.h.b:=q3a n lam rd y x.2
    rwa [hx.1,hx.2]at this
   .exact hx
  |cond o x y=>
   simp only[exec];split
   .split
    .exact q3a n lam rd x σ
    .exact q3a n lam rd y σ
   .exact Tr.each_map (q:=λ_=>True) (λx _=>qj4 σ x.2) (q6p _)
   .trivial
  |block id x=>
   simp only[exec];exact Tr.each_map (q:=λ_=>True) (λx _=>qj4 σ x.2) (q6p _)
  |loop x=>
   cases rd with
   |some l0=>
    simp only[exec];exact qd5 (λσ=>q3a n lam (some l0) x σ) _ σ
   |none=>
    cases hl:lam.bind λf=>Λ f (lkey x)with
    |some L=>
     simp only[exec,hl];exact L.on σ
    |none=>
     simp only[exec,hl];exact qd5 (λσ=>q3a n lam none x σ) _ σ
  |rangeFunc g ps asg body=>
   have ih:∀(rd:Option Nat)(c:Code)(σ:St),(exec P Γ Λ n none rd c σ).Each λy=>y.2.On σ.b σ.h.b:=λrd c σ=>q3a n none rd c σ;simp only[exec];split
   .refine q0p ?_ trivial;rename_i f cs _;cases rd with
    |none=>
     refine Tr.each_bind' (p:=λy=>y.2.b=σ.h.b) (λx hx=>?_) (hrun f (.yl ((σ.h.push (.obj (.deferred (some [])))).nx)::cs) ((σ.h.push (.obj (.deferred (some [])))).push (.loop .ready none σ.n σ.lg ps asg body σ.h.nx)));have:=qk9 (λc σ=>ih none c σ) ((σ.h.push (.obj (.deferred (some [])))).nx) ⟨σ.n,σ.t,x.2,σ.h.nx::σ.d,σ.b⟩;simp only[hx]at this;exact this
    |some l0=>
     simp only;split
     .rename_i df _;refine Tr.each_bind' (p:=λy=>y.2.b=σ.h.b) (λx hx=>?_) (hrun f (.yl σ.h.nx::cs) (σ.h.push (.loop .ready none σ.n σ.lg ps asg body df)));have:=qk9 (λc σ=>ih (some l0) c σ) σ.h.nx ⟨σ.n,σ.t,x.2,σ.d,σ.b⟩;simp only[hx]at this;exact this
     .trivial
   .trivial
  |scope x=>
   simp only[exec];refine Tr.each_bind' (λx hx=>?_) (q3a n lam rd x σ);split
   .trivial
   .exact hx
  |refuse _=>trivial
theorem qh1{Γ:Gam}{Λ:Lam}(hΓ:∀f g,Γ.g f=some g->FnOk P f g)(hΛ:∀f k L,Λ f k=some L->∀b∈q03 P f,lkey b=k->q06 P b L.g):∀(n:Nat)(lam rd:Option Nat)(c:Code),
  (∀f,lam=some f->∀b∈q1a c,b∈q03 P f)->ExOk P rd c (exec P Γ Λ n lam rd c)
 |0,lam,rd,c,_=>λM w0 w ρ σ a K _ hK _=>hK.elim
 |n+1,lam,rd,c,hsub=>by
  intro M w0 w ρ σ a K hrd hK hm
  have hrun:∀f,FnOk P f (match Γ.g f with|some g=>g|none=>qmj P (exec P Γ Λ n (some f) none) f):=by
   intro f;cases hg:Γ.g f with
   |some g=>exact hΓ f g hg
   |none=>
    refine qv7 λM w0 w ρ fn c σ a K hfn hc hk hm=>?_
    have:=qh1 hΓ hΛ n (some f) none c (by
     intro f' hf' b hb;injection hf' with hf'
     subst hf';simp only[q03,hfn,hc];exact hb) M w0 w ρ σ a K (by intro l hl;cases hl) hk hm
    exact this
  have hyld:qyc P (q7y λl=>exec P Γ Λ n none (some l)):=by
   refine qyi λl c M w0 w ρ σ a K hl hk hm=>?_;exact qh1 hΓ hΛ n none (some l) c (by intro f hf;cases hf) M w0 w ρ σ a K (by intro l' hl';injection hl' with hl';rw[<-hl'];exact hl) hk hm
  have hrb:∀f,ConB (match Γ.g f with|some g=>g|none=>qmj P (exec P Γ Λ n (some f) none) f):=λf=>by
   cases hg:Γ.g f with
   |some g=>exact Γ.hb f g hg
   |none=>exact z3v (λc σ=>q3a n _ _ c σ) f
  have hyb:∀l,ConB (q7y (λl=>exec P Γ Λ n none (some l)) l):=qt7 λl c σ=>q3a n _ _ c σ;have ih:=λlam rd c hs=>qh1 hΓ hΛ n lam rd c hs;have hsame:q5s M w0 ρ σ.h.nx K=q5s M w0 ρ σ.h.nx K:=rfl;simp only[exec]at hK;cases c with
  |skip=>exact wpIn_skip ⟨.normal,σ,ρ,rfl,hK,Nat.le_refl _,Agree.refl _ _,hm⟩
  |label l=>exact wpIn_label ⟨.normal,σ,ρ,rfl,hK,Nat.le_refl _,Agree.refl _ _,hm⟩
  |ret=>exact wpIn_ret ⟨.ret,σ,ρ,rfl,hK,Nat.le_refl _,Agree.refl _ _,hm⟩
  |exit id=>exact wpIn_exit ⟨.exit id,σ,ρ,rfl,hK,Nat.le_refl _,Agree.refl _ _,hm⟩
  |goto l=>exact wpIn_goto ⟨.goto l,σ,ρ,rfl,hK,Nat.le_refl _,Agree.refl _ _,hm⟩
  |region id ops d=>
   dsimp only at hK;cases hzf:Γ.zf lam id with
   |true=>
    rw[hzf]at hK;cases d with
    |true=>exact hK.elim
    |false=>
    simp only[cond_true,cond_false]at hK;have hon:(qbh P _ (q7y λl=>exec P Γ Λ n none (some l)) ops ops.toList σ.base).Each (St.On (σ.t++σ.b) (σ.h.l++σ.h.b)):=q6k hrb hyb _ _ _ _ ⟨rfl,rfl⟩;have hK2:=Tr.each_holds hon (q3w (q6n _ _ _ _) hon (Tr.holds_map (Tr.holds_bind hK)));refine wpIn_region ?_
    have:=qu7 (P:=P) (M:=M) (w0:=w0) hrun hyld hrb hyb (r:=rd.map λl=>(ρ l).blk) (Q:=q5s M w0 ρ σ.h.nx K) ops.toList 0 ρ σ.base a w _ (by simp) hK2 hm.base
     (λσ' ρ' a' w' h1 h2 h3 h4=>by
      obtain⟨⟨j,hw,hk⟩,hx⟩:=h1;have hjo:=hw.on;rw[hx.1,hx.2]at hjo;exact⟨.normal,σ.pop j,ρ',rfl,hk,Nat.le_trans h2 hw.nx,h3,(hw.mod _ _ _ _ _ h4).pop hjo⟩)
    rw[List.range_eq_range',<-Array.length_toList];exact this
   |false=>
   rw[hzf]at hK;simp only[cond_false]at hK;cases d with
   |true=>
    simp only[cond_true]at hK;cases hdr:qce P Γ.q (tqOf P Γ.q ops) (frOf P Γ.q ops) ops with
    |false=>
    rw[hdr]at hK;simp only[cond_false]at hK;obtain⟨hc,hK⟩:=q0a hK;simp only[Bool.and_eq_true]at hc;obtain⟨hng,hmix,hback⟩:=hc;refine wpIn_region_draw λt=>?_;refine split_ok (λops' hb' hp' hl L hL=>?_) 14 ops hK (qwm hng) _ (z1t (zqd hback) hmix t);have hon:(q5p P Γ.q false (λ_=>false) _ (q7y λl=>exec P Γ Λ n none (some l)) ops' ops'.toList σ.base).Each (St.On (σ.t++σ.b) (σ.h.l++σ.h.b)):=q9q hrb hyb _ _ _ _ ⟨rfl,rfl⟩;have hK2:=Tr.each_holds hon (q3w (q6n _ _ _ _) hon (Tr.holds_map (Tr.holds_bind hl)));refine qvh (P:=P) (M:=M) (w0:=w0) hrun hyld (λf hq=>?_) (λf hq=>?_) hb' hp' hK2 hm.base (λσ' ρ' a' w' h1 h2 h3 h4=>?_) hL ⟨rfl,rfl,rfl,Nat.le_refl _,λ_ _=>rfl⟩
    .obtain⟨c,hc,hall,_⟩:=Γ.hq f hq;rw[hc];exact hall
    .obtain⟨c,hc,_,hind⟩:=Γ.hq f hq;rw[hc];exact hind
    .obtain⟨⟨j,hw,hk⟩,hx⟩:=h1;have hjo:=hw.on;rw[hx.1,hx.2]at hjo;exact⟨.normal,σ.pop j,ρ',rfl,hk,Nat.le_trans h2 hw.nx,h3,(hw.mod _ _ _ _ _ h4).pop hjo⟩
    |true=>
    rw[hdr]at hK;simp only[cond_true]at hK;have hK1:=hK;obtain⟨ρ1,hlc1,hag1,hm1,hnx1,hb1,hhb1⟩:=znf (frB P Γ.q ops) ops.toList hm
    have hfw:Fw (rd.map λl=>(ρ l).blk)=Fw (rd.map λl=>(ρ1 l).blk):=by
     have:(λl=>(ρ1 l).blk)=λl=>(ρ l).blk:=by funext l;show(ρ1.lc l).blk=_;rw[hlc1]
     rw[this]
    rw[hfw];generalize frzS (frB P Γ.q ops) ops.toList σ=σ1 at hK1 hm1 hnx1 hb1 hhb1;have hon:(q5p P Γ.q (tqOf P Γ.q ops) (frOf P Γ.q ops) _ (q7y λl=>exec P Γ Λ n none (some l)) ops ops.toList σ1.base).Each (St.On (σ1.t++σ1.b) (σ1.h.l++σ1.h.b)):=q9q hrb hyb _ _ _ _ ⟨rfl,rfl⟩;have hK2:=Tr.each_holds hon (q3w (q6n _ _ _ _) hon (Tr.holds_map (Tr.holds_bind hK1)));refine zoc (P:=P) (M:=M) (w0:=w0) hrun hyld (λf hq=>?_) (λf hq=>?_) hdr hK2 hm1.base (λσ' ρ' a' w' h1 h2 h3 h4=>?_)
    .skip
     obtain⟨c,hc,hall,_⟩:=Γ.hq f hq;rw[hc];exact hall
    .obtain⟨c,hc,_,hind⟩:=Γ.hq f hq;rw[hc];exact hind
    .obtain⟨⟨j,hw,hk⟩,hx⟩:=h1;have hjo:=hw.on;rw[hx.1,hx.2]at hjo;have h2':σ1.h.nx<=σ'.h.nx:=h2;exact⟨.normal,σ1.pop j,ρ',rfl,hk,by rw[<-hnx1];exact Nat.le_trans h2' hw.nx,hag1.trans (Nat.le_of_eq hnx1.symm:σ.h.nx<=σ1.h.nx) h3,(hw.mod _ _ _ _ _ h4).pop hjo⟩
   |false=>
    simp only[cond_false]at hK;refine wpIn_region ?_
    have:=qu7 (P:=P) (M:=M) (w0:=w0) hrun hyld hrb hyb (r:=rd.map λl=>(ρ l).blk) (Q:=q5s M w0 ρ σ.h.nx K) ops.toList 0 ρ σ a w _ (by simp) (Tr.holds_bind hK) hm
     (λσ' ρ' a' w' h1 h2 h3 h4=>⟨.normal,σ',ρ',rfl,h1,h2,h3,h4⟩)
    rw[List.range_eq_range',<-Array.length_toList];exact this
  |seq x y=>
   refine wpIn_seq (wpIn_mono (ih lam rd x (λf hf b hb=>hsub f hf b (by simp[q1a,hb])) M w0 w ρ σ a _ hrd (Tr.holds_bind hK) hm) ?_);rintro e' a' w' ⟨e,σ',ρ',rfl,hk,hn,ha,hm'⟩;cases e with
   |normal=>
    have h1:=ih lam rd y (λf hf b hb=>hsub f hf b (by simp[q1a,hb])) M w0 w' ρ' σ' a' K (λl hl=>Nat.lt_of_lt_of_le (hrd l hl) hn) hk hm';rw[qmh hrd ha]at h1;exact wpIn_mono h1 λx a w h=>h.chain hn ha
   |exit id=>exact⟨_,σ',ρ',rfl,hk,hn,ha,hm'⟩
   |goto id=>exact⟨_,σ',ρ',rfl,hk,hn,ha,hm'⟩
   |ret=>exact⟨_,σ',ρ',rfl,hk,hn,ha,hm'⟩
  |cond o x y=>
   have hx:=λK=>ih lam rd x (λf hf b hb=>hsub f hf b (by simp[q1a,hb])) M w0 w ρ σ a K hrd;have hy:=λK=>ih lam rd y (λf hf b hb=>hsub f hf b (by simp[q1a,hb])) M w0 w ρ σ a K hrd;have hx':=λK=>ih lam rd x (λf hf b hb=>hsub f hf b (by simp[q1a,hb])) M w0 w ρ σ.base a K hrd;have hy':=λK=>ih lam rd y (λf hf b hb=>hsub f hf b (by simp[q1a,hb])) M w0 w ρ σ.base a K hrd;cases hb:(σ.ev o).bool? with
   |none=>simp only[hb]at hK;exact hK.elim
   |some cz=>
    obtain⟨cl,z⟩:=cz;have he:=SV.bool_fit hb (hm.ev o);simp only[hb]at hK;cases cl with
    |true=>
     cases z with
     |true=>exact wpIn_cond_true he (hx _ hK hm)
     |false=>exact wpIn_cond_false he (hy _ hK hm)
    |false=>
     have hox:=q3a (P:=P) (Γ:=Γ) (Λ:=Λ) n lam rd x σ.base;have hoy:=q3a (P:=P) (Γ:=Γ) (Λ:=Λ) n lam rd y σ.base;have h12:=qop (qv2 σ.base.b σ.base.h.b σ.h.nx) hox hoy (Tr.holds_map hK)
     have fin:∀{x a w},q5s M w0 ρ σ.base.h.nx (λx=>(∃j,WkX x j/\K (j.1,σ.pop j.2))/\x.2.On σ.base.b σ.base.h.b) x a w->q5s M w0 ρ σ.h.nx K x a w:=by
      rintro x a w ⟨e,σ',ρ',rfl,⟨⟨⟨e',j⟩,⟨he,hw⟩,hk⟩,ho⟩,hn,ha,hm'⟩;simp only at he hw hk ho;subst he;have hjo:=hw.on;rw[ho.1,ho.2]at hjo;exact⟨e,σ.pop j,ρ',rfl,hk,Nat.le_trans hn hw.nx,ha,(hw.mod _ _ _ _ _ hm').pop hjo⟩
     cases z with
     |true=>exact wpIn_cond_true he (wpIn_mono (hx' _ (Tr.each_holds hox (h12.1 rfl)) hm.base) λx a w h=>fin h)
     |false=>exact wpIn_cond_false he (wpIn_mono (hy' _ (Tr.each_holds hoy (h12.2 rfl)) hm.base) λx a w h=>fin h)
  |block id x=>
   have hox:=q3a (P:=P) (Γ:=Γ) (Λ:=Λ) n lam rd x σ.base;have hox':((exec P Γ Λ n lam rd x σ.base).map (q7e id)).Each λy=>y.2.On σ.base.b σ.base.h.b:=Tr.each_map (f:=q7e id) (λx hx=>qyp hx) hox;have hK1:=Tr.each_holds hox (Tr.holds_map (q3w (qv2 σ.base.b σ.base.h.b σ.h.nx) hox' (Tr.holds_map hK)));refine wpIn_block (wpIn_mono (ih lam rd x (λf hf b hb=>hsub f hf b (by simpa [q1a]using hb)) M w0 w ρ σ.base a _ hrd hK1 hm.base) ?_);rintro e' a' w' ⟨e,σ',ρ',rfl,⟨⟨⟨e2,j⟩,⟨he,hw⟩,hk⟩,ho⟩,hn,ha,hm'⟩;simp only at he hw hk ho
   have main:∀e2,e2=(q7e id (e,σ')).1->Wk σ' j->K (e2,σ.pop j)->q5s M w0 ρ σ.h.nx K (Ex.ex e2) a' w':=by
    rintro e2 rfl hw hk;have hjo:=hw.on;rw[ho.1,ho.2]at hjo;exact⟨_,σ.pop j,ρ',rfl,hk,Nat.le_trans hn hw.nx,ha,(hw.mod _ _ _ _ _ hm').pop hjo⟩
   have hw2:Wk σ' j:=by
    have:(q7e id (e,σ')).2=σ':=by
     unfold q7e;split
     .rw[qhj];split<;>rfl
     .rfl
    rwa [this]at hw
   have key:=main e2 he.symm hw2 hk;cases e with
   |exit i=>
    simp only[Ex.ex,Exit.inBlock];simp only[q7e]at he;rw[qhj]at he;by_cases hj:i=id
    .rw[if_pos hj]at he ⊢;subst he;exact key
    .rw[if_neg hj]at he ⊢;subst he;exact key
   |normal=>simp only[q7e]at he;subst he;exact key
   |goto i=>simp only[q7e]at he;subst he;exact key
   |ret=>simp only[q7e]at he;subst he;exact key
  |loop x=>
   have hgo:∀m:Nat,(qd6 (exec P Γ Λ n lam rd x) m σ).Holds K->(Code.loop x).wpIn (Fw (rd.map λl=>(ρ l).blk)) 0 P (q5s M w0 ρ σ.h.nx K) a w:=λm hK=>
    wpIn_loop_rounds _ (qji (ih lam rd x (λf hf b hb=>hsub f hf b (by simp[q1a,hb]))) m M w0 w ρ σ a K hrd hK hm)
   cases rd with
   |some l0=>exact hgo _ hK
   |none=>
    cases hl:lam.bind λf=>Λ f (lkey x)with
    |some L=>
     simp only[hl]at hK;cases lam with
     |none=>simp at hl
     |some f=>
      simp only[Option.bind_some]at hl;exact hΛ f _ L hl x (hsub f rfl x (by simp[q1a])) rfl M w0 w ρ σ a K hK hm
    |none=>
     simp only[hl]at hK;exact hgo _ hK
  |rangeFunc g ps asg body=>
   cases hev:σ.ev g with
   |fn f cs=>
    simp only[hev]at hK;cases hcl:callable P f with
    |false=>rw[hcl]at hK;exact hK.elim
    |true=>
     rw[hcl]at hK;simp only[cond_true]at hK;cases rd with
     |none=>
      simp only at hK;have hm1:=hm.hp.push (so:=.obj (.deferred (some []))) (o:=.deferred (some [])) (c:=0) ⟨rfl,rfl,rfl⟩;have hsl:=hm.tm.mono (Nat.le_succ _) (q0t ρ σ.h.nx ⟨w.heap.size,0,0,false⟩)
      have hm2:∀fn,HM M w0 _ _ _:=λfn=>hm1.push (so:=.loop .ready none σ.n σ.lg ps asg body σ.h.nx) (o:=.loop ⟨.ready,none,fn,a.tmps,ps,asg,body,w.heap.size⟩) (c:=0)
       ⟨rfl,Nat.lt_succ_self _,fn,a.tmps,by simp[upd],hsl⟩
      refine qtx (ρ2:=upd (upd ρ σ.h.nx ⟨w.heap.size,0,0,false⟩) (σ.h.push (.obj (.deferred (some [])))).nx ⟨(w.alloc (.deferred (some []))).heap.size,0,0,false⟩)
       (d:=σ.h.nx::σ.d) (mark:=[{ target:=.collected w.heap.size,args:=#[]}]) (hrun f) (λc=>ih none none c (by intro f hf;cases hf)) hrd hm hev hcl ?_ ?_ (Nat.lt_succ_self _) (λfn=>?_) ?_ ?_ hK
      .simp[SH.push];omega
      .exact(q0t _ _ _).trans (Nat.le_succ _) (q0t _ _ _)
      .refine⟨(w.alloc (.deferred (some []))).alloc (.loop ⟨.ready,none,fn,a.tmps,ps,asg,body,w.heap.size⟩),?_,hm2 fn⟩;simp[Instr.enterLoop,upd,SH.push]
      .have h1:=(hm.df.mono (n:=σ.h.nx) ((q0t ρ σ.h.nx ⟨w.heap.size,0,0,false⟩).trans (Nat.le_succ _) (q0t _ (σ.h.push (.obj (.deferred (some [])))).nx ⟨(w.alloc (.deferred (some []))).heap.size,0,0,false⟩)) hm.dl).cons σ.h.nx;have e:∀(ρ':Rh),(ρ' σ.h.nx).blk=w.heap.size->qgd ρ' σ.h.nx={ target:=.collected w.heap.size,args:=#[]}:=λρ' hb=>by simp only[qgd,hb]
       rw[e _ (by simp[upd,SH.push])]at h1;exact h1
      .intro i hi;rcases List.mem_cons.1 hi with rfl|hi
       .simp[SH.push];omega
       .have:=hm.dl i hi;simp[SH.push];omega
     |some l0=>
      simp only at hK;split at hK
      .rename_i st0 pd0 n0 t0 ps0 asg0 body0 df hg0;obtain⟨hnl0,hdf0,f0,tm0,hob0,hs0⟩:=q9i hm.hp hg0
       have hm2:∀fn,HM M w0 _ _ _:=λfn=>hm.hp.push (so:=.loop .ready none σ.n σ.lg ps asg body df) (o:=.loop ⟨.ready,none,fn,a.tmps,ps,asg,body,(ρ df).blk⟩) (c:=0)
        ⟨rfl,hdf0,fn,a.tmps,rfl,hm.tm⟩
       refine qtx (ρ2:=upd ρ σ.h.nx ⟨w.heap.size,0,0,false⟩) (d:=σ.d) (mark:=[]) (hrun f) (λc=>ih none (some l0) c (by intro f hf;cases hf)) hrd hm hev hcl (Nat.le_succ _) (q0t _ _ _) (Nat.lt_succ_self _) (λfn=>?_) ?_ ?_ hK
       .refine⟨w.alloc (.loop ⟨.ready,none,fn,a.tmps,ps,asg,body,(ρ df).blk⟩),?_,hm2 fn⟩;simp[Instr.enterLoop,Instr.getLoop,q46 hob0 (by simp),upd]
       .rw[List.nil_append];exact hm.df.mono (q0t _ _ _) hm.dl
       .intro i hi;have:=hm.dl i hi;simp[SH.push];omega
      .exact hK.elim
   |_=>simp only[hev]at hK;exact hK.elim
  |scope x=>
   refine qvr (wpIn_mono (ih lam rd x (λf hf b hb=>hsub f hf b (by simpa [q1a]using hb)) M w0 w ρ σ a _ hrd (Tr.holds_bind hK) hm) ?_);rintro e' a' w' ⟨e,σ',ρ',rfl,hk,hn,ha,hm'⟩;cases e with
   |normal=>exact⟨_,σ',ρ',rfl,hk,hn,ha,hm'⟩
   |exit id=>exact⟨_,σ',ρ',rfl,hk,hn,ha,hm'⟩
   |goto id=>exact hk.elim
   |ret=>exact⟨_,σ',ρ',rfl,hk,hn,ha,hm'⟩
  |refuse _=>exact hK.elim
end
end Go.Sx

namespace Go.Sx
open Go.RowKit
def Cl(s:SV):Prop:=∀(n m:Nat)(ρ ρ':Rh)(x:Value),(∀b o,ρ.mem b=some o->ρ'.mem b=some o)->s.fit n ρ x->s.fit m ρ' x
def Cls(l:List SV):Prop:=∀(n m:Nat)(ρ ρ':Rh)(x:List Value),(∀b o,ρ.mem b=some o->ρ'.mem b=some o)->SV.fits n ρ l x->SV.fits m ρ' l x
def Pu(s:SV):Prop:=∀(n m:Nat)(ρ ρ':Rh)(x:Value),s.fit n ρ x->s.fit m ρ' x
def Pus(l:List SV):Prop:=∀(n m:Nat)(ρ ρ':Rh)(x:List Value),SV.fits n ρ l x->SV.fits m ρ' l x
theorem cl_v(x:Value):Cl (.v x):=λ_ _ _ _ _ _ h=>h
theorem pu_v(x:Value):Pu (.v x):=λ_ _ _ _ _ h=>h
theorem qdk:Cls []:=λ_ _ _ _ x _ h=>by have:=q0b h;subst this;trivial
theorem qcy:Pus []:=λ_ _ _ _ x h=>by have:=q0b h;subst this;trivial
theorem q9r{s:SV}{l:List SV}(h:Cl s)(h':Cls l):Cls (s::l):=λn m ρ ρ' x hm hf=>by
 obtain⟨y,r,rfl,hy,hr⟩:=q04 hf;exact⟨h n m ρ ρ' y hm hy,h' n m ρ ρ' r hm hr⟩
theorem q1c{s:SV}{l:List SV}(h:Pu s)(h':Pus l):Pus (s::l):=λn m ρ ρ' x hf=>by
 obtain⟨y,r,rfl,hy,hr⟩:=q04 hf;exact⟨h n m ρ ρ' y hy,h' n m ρ ρ' r hr⟩
theorem qxu:∀{l l':List SV},Cls l->Cls l'->Cls (l++l')
 | [],_,_,h'=>h'
 |s::l,l',h,h'=>λn m ρ ρ' x hm hf=>by
  have hl:x.length=l.length+1+l'.length:=by have:=q0d hf;simp at this;omega
  have h1:=q0i (l.length+1) hf;have h2:=q0j (l.length+1) hf;rw[show((s::l)++l').take (l.length+1)=s::l by simp]at h1;rw[show((s::l)++l').drop (l.length+1)=l' by simp]at h2;have:=q0q (h n m ρ ρ' _ hm h1) (h' n m ρ ρ' _ hm h2)
  rwa [List.take_append_drop]at this
theorem qwi:∀{l l':List SV},Pus l->Pus l'->Pus (l++l')
 | [],_,_,h'=>h'
 |s::l,l',h,h'=>λn m ρ ρ' x hf=>by
  have h1:=q0i (l.length+1) hf;have h2:=q0j (l.length+1) hf;rw[show((s::l)++l').take (l.length+1)=s::l by simp]at h1;rw[show((s::l)++l').drop (l.length+1)=l' by simp]at h2;have:=q0q (h n m ρ ρ' _ h1) (h' n m ρ ρ' _ h2)
  rwa [List.take_append_drop]at this
theorem zwe{l:List SV}(h:Cls l):Cl (.agg l):=λn m ρ ρ' _ hm⟨v,e,hv⟩=>⟨v,e,h n m ρ ρ' v hm hv⟩
theorem zwc{l:List SV}(h:Cls l):Cl (.tup l):=λn m ρ ρ' _ hm⟨v,e,hv⟩=>⟨v,e,h n m ρ ρ' v hm hv⟩
theorem zfa{l:List SV}(h:Pus l):Pu (.agg l):=λn m ρ ρ' _⟨v,e,hv⟩=>⟨v,e,h n m ρ ρ' v hv⟩
theorem zf9{l:List SV}(h:Pus l):Pu (.tup l):=λn m ρ ρ' _⟨v,e,hv⟩=>⟨v,e,h n m ρ ρ' v hv⟩
theorem zyx{sz l:Nat}{el:Nat->List SV}(h:∀e,Cls (el e)):Cl (.rs sz l el):=λn m ρ ρ' x hm hf=>by
 simp only[SV.fit]at hf ⊢;obtain⟨a,c,e,h1,h2,h3⟩:=hf;refine⟨a,c,e,h1,h2,λhl=>?_⟩;obtain⟨b,o,cs,t,fz,k1,k2,k3⟩:=h3 hl;refine⟨b,o,cs,t,fz,k1,hm _ _ k2,λe he=>?_⟩;obtain⟨vs,q1,q2,q3⟩:=k3 e he;exact⟨vs,q1,h e n m ρ ρ' vs hm q2,q3⟩
theorem zyy{ks vs m:Nat}{ka va:Bool}{el:Nat->List SV}(h:∀e,Cls (el e)):Cl (.rm ks vs m ka va el):=λn n' ρ ρ' x hm hf=>by
 simp only[SV.fit]at hf ⊢;rcases hf with hf|⟨b,es,clk,k1,k2,k3,k4,k5⟩
 .exact .inl hf
 .refine .inr ⟨b,es,clk,k1,hm _ _ k2,k3,k4,λe he=>?_⟩;obtain⟨y,kc,vc,q1,q2,q3⟩:=k5 e he;exact⟨y,kc,vc,q1,h e n n' ρ ρ' _ hm q2,q3⟩
structure Dv(α:Type)where
 dec:SV->Option (α×List Prop)
 enc:α->SV
 bd:α->Prop
 cl:∀a,Cl (enc a)
 ok:∀(s:SV)(a:α)(ps:List Prop)(n:Nat)(ρ:Rh)(x:Value),dec s=some (a,ps)->(∀p∈ps,p)->s.fit n ρ x->(enc a).fit n ρ x
 fb:∀(a:α)(n:Nat)(ρ:Rh)(x:Value),(enc a).fit n ρ x->bd a
abbrev Dv.T{α:Type}(_:Dv α):Type:=α
def dInt(q:IntKind):Dv Int where
 dec s:=match s.int? with
  |some (_,q',n)=>bif decide (q=q')then some (n,[])else none
  |none=>none
 enc n:=.v (.int q n)
 bd _:=True
 cl _:=cl_v _
 ok s a ps n ρ x hd _ hf:=by
  split at hd
  .rename_i c q' i hs;cases hq:decide (q=q')with
   |false=>simp[hq]at hd
   |true=>
    simp only[hq,cond_true,Option.some.injEq,Prod.mk.injEq]at hd;rw[SV.int_fit hs hf,hd.1,of_decide_eq_true hq];simp[SV.fit]
  .cases hd
 fb _ _ _ _ _:=trivial
def q0l:Dv Bool where
 dec s:=match s.bool? with
  |some (_,b)=>some (b,[])
  |none=>none
 enc b:=.v (.bool b)
 bd _:=True
 cl _:=cl_v _
 ok s a ps n ρ x hd _ hf:=by
  split at hd
  .rename_i c b hs;simp only[Option.some.injEq,Prod.mk.injEq]at hd;rw[SV.bool_fit hs hf,hd.1];simp[SV.fit]
  .cases hd
 fb _ _ _ _ _:=trivial
structure El(α:Type)where
 sz:Nat
 cells:α->List SV
 decs:List SV->Option (α×List Prop)
 dflt:α
 bd:α->Prop
 dec_cells:∀a,∃ps,decs (cells a)=some (a,ps)/\∀p∈ps,p
 len:∀a,(cells a).length=sz
 one:∀a,(cells a).all SV.one=true
 cl:∀a,Cls (cells a)
 ok:∀(l:List SV)(a:α)(ps:List Prop)(n:Nat)(ρ:Rh)(x:List Value),decs l=some (a,ps)->(∀p∈ps,p)->SV.fits n ρ l x->SV.fits n ρ (cells a) x
 fb:∀(a:α)(n:Nat)(ρ:Rh)(x:List Value),SV.fits n ρ (cells a) x->bd a
def El.one'{α:Type}(D:Dv α)(d:α)(h1:∀a,(D.enc a).one=true)(h2:∀a,∃ps,D.dec (D.enc a)=some (a,ps)/\∀p∈ps,p):El α where
 sz:=1
 cells a:=[D.enc a]
 decs l:=match l with
  | [s]=>D.dec s
  |_=>none
 dflt:=d
 bd:=D.bd
 dec_cells a:=h2 a
 len _:=rfl
 one a:=by simp[h1]
 cl a:=q9r (D.cl a) qdk
 ok l a ps n ρ x hd hp hf:=by
  split at hd
  .obtain⟨y,r,rfl,hy,hr⟩:=q04 hf;exact⟨D.ok _ _ _ _ _ _ hd hp hy,hr⟩
  .cases hd
 fb a n ρ x hf:=by
  obtain⟨y,r,rfl,hy,hr⟩:=q04 hf;exact D.fb _ _ _ _ hy
def eInt(q:IntKind):El Int:=.one' (dInt q) 0 (λ_=>rfl) λa=>⟨[],by simp[dInt,SV.int?],by simp⟩
def El.pair{α β:Type}(A:El α)(B:El β):El (α×β) where
 sz:=A.sz+B.sz
 cells a:=A.cells a.1++B.cells a.2
 decs l:=match A.decs (l.take A.sz)with
  |some (a,ps)=>match B.decs (l.drop A.sz)with
   |some (b,qs)=>some ((a,b),ps++qs)
   |none=>none
  |none=>none
 dflt:=(A.dflt,B.dflt)
 bd a:=A.bd a.1/\B.bd a.2
 dec_cells a:=by
  obtain⟨ps,h1,h2⟩:=A.dec_cells a.1;obtain⟨qs,k1,k2⟩:=B.dec_cells a.2;refine⟨ps++qs,?_,λp hp=>?_⟩
  .rw[List.take_left' (A.len _),List.drop_left' (A.len _),h1];simp only[k1]
  .rcases List.mem_append.1 hp with hp|hp
   .exact h2 p hp
   .exact k2 p hp
 len a:=by simp[A.len,B.len]
 one a:=by simp only[List.all_append,A.one,B.one,Bool.and_self]
 cl a:=qxu (A.cl _) (B.cl _)
 ok l a ps n ρ x hd hp hf:=by
  split at hd
  .rename_i a0 ps0 h1;split at hd
   .rename_i b0 qs0 h2;simp only[Option.some.injEq,Prod.mk.injEq]at hd;obtain⟨rfl,rfl⟩:=hd;have f1:=A.ok _ _ _ _ _ _ h1 (λp hp'=>hp p (List.mem_append_left _ hp')) (q0i A.sz hf);have f2:=B.ok _ _ _ _ _ _ h2 (λp hp'=>hp p (List.mem_append_right _ hp')) (q0j A.sz hf);have:=q0q f1 f2
    rwa [List.take_append_drop]at this
   .cases hd
  .cases hd
 fb a n ρ x hf:=by
  have h1:=q0i A.sz hf;have h2:=q0j A.sz hf;rw[List.take_left' (A.len _)]at h1;rw[List.drop_left' (A.len _)]at h2;exact⟨A.fb _ _ _ _ h1,B.fb _ _ _ _ h2⟩
def El.iso{α β:Type}(A:El α)(f:α->β)(g:β->α)(hfg:∀b,f (g b)=b)(hgf:∀a,g (f a)=a):El β where
 sz:=A.sz
 cells b:=A.cells (g b)
 decs l:=match A.decs l with
  |some (a,ps)=>some (f a,ps)
  |none=>none
 dflt:=f A.dflt
 bd b:=A.bd (g b)
 dec_cells b:=by
  obtain⟨ps,h1,h2⟩:=A.dec_cells (g b);exact⟨ps,by simp only[h1,hfg],h2⟩
 len b:=A.len _
 one b:=A.one _
 cl b:=A.cl _
 ok l b ps n ρ x hd hp hf:=by
  split at hd
  .rename_i a0 ps0 h1;simp only[Option.some.injEq,Prod.mk.injEq]at hd;obtain⟨rfl,rfl⟩:=hd;rw[hgf];exact A.ok _ _ _ _ _ _ h1 hp hf
  .cases hd
 fb b n ρ x hf:=A.fb _ _ _ _ hf
def Dv.agg{α:Type}(A:El α):Dv α where
 dec s:=match s.agg? with
  |some l=>A.decs l
  |none=>none
 enc a:=.agg (A.cells a)
 bd:=A.bd
 cl a:=zwe (A.cl a)
 ok s a ps n ρ x hd hp hf:=by
  split at hd
  .rename_i l hl;obtain⟨v,rfl,hv⟩:=SV.agg_fit hl hf;exact⟨v,rfl,A.ok _ _ _ _ _ _ hd hp hv⟩
  .cases hd
 fb a n ρ x hf:=by
  obtain⟨v,rfl,hv⟩:=hf;exact A.fb _ _ _ _ hv
section
variable{α:Type}(A:El α)
def El.els(xs:List α):Nat->List SV:=λe=>A.cells (xs.getD e A.dflt)
def El.get(l:List SV):α:=
 match A.decs l with
 |some (a,_)=>a
 |none=>A.dflt
def El.lst(n:Nat)(el:Nat->List SV):List α:=(List.range n).map λe=>A.get (el e)
def El.Ok(l:List SV):Prop:=∃a ps,A.decs l=some (a,ps)/\∀p∈ps,p
theorem El.ok_cells(a:α):A.Ok (A.cells a):=by
 obtain⟨ps,h1,h2⟩:=A.dec_cells a;exact⟨a,ps,h1,h2⟩
theorem El.get_cells(a:α):A.get (A.cells a)=a:=by
 obtain⟨ps,h1,h2⟩:=A.dec_cells a;simp only[El.get,h1]
theorem El.lst_length(n:Nat)(el:Nat->List SV):(A.lst n el).length=n:=by simp[El.lst]
theorem El.ok_els(xs:List α)(e:Nat):A.Ok (A.els xs e):=A.ok_cells _
theorem El.one_els(xs:List α)(e:Nat):(A.els xs e).all SV.one=true:=A.one _
theorem El.lst_getD(n:Nat)(el:Nat->List SV)(e:Nat)(he:e<n):(A.lst n el).getD e A.dflt=A.get (el e):=by
 simp[El.lst,List.getD_eq_getElem?_getD,he]
theorem El.lst_els(xs:List α):A.lst xs.length (A.els xs)=xs:=by
 apply List.ext_getElem
 .simp[El.lst]
 .intro i h1 h2;simp[El.lst,El.els,El.get_cells,h2]
theorem El.lst_take(n:Nat)(xs:List α)(h:n<=xs.length):A.lst n (A.els xs)=xs.take n:=by
 apply List.ext_getElem
 .simp[El.lst];omega
 .intro i h1 h2;have:i<xs.length:=by simp at h2;omega
  simp[El.lst,El.els,El.get_cells,this]
theorem El.lst_sh(k n:Nat)(xs:List α)(h:k+n<=xs.length):A.lst n (shEl k (A.els xs))=(xs.drop k).take n:=by
 apply List.ext_getElem
 .simp[El.lst];omega
 .intro i h1 h2;have:k+i<xs.length:=by simp at h2;omega
  simp[El.lst,El.els,shEl,El.get_cells,this]
def El.OkP(l:List SV):Prop:=
 match A.decs l with
 |some (_,[])=>True
 |some (_,ps)=>∀p∈ps,p
 |none=>False
theorem El.okP{l:List SV}(h:A.OkP l):A.Ok l:=by
 unfold El.OkP at h;split at h
 .rename_i a hd;exact⟨a,[],hd,by simp⟩
 .rename_i a ps _ hd;exact⟨a,ps,hd,h⟩
 .exact h.elim
def El.lstE:Nat->ElE->List α
 |n,.fn f=>A.lst n f
 |n,.set e ys r=>(El.lstE n r).set e (A.get ys)
 |n,.put e o ys r=>(El.lstE n r).set e (A.get ((r.at e).take o++ys++(r.at e).drop (o+ys.length)))
 |n,.app l a b=>El.lstE (min n l) a++El.lstE (n-l) b
 |n,.sh k r=>(El.lstE (k+n) r).drop k
 |n,.cond z a b=>bif z then El.lstE n a else El.lstE n b
theorem El.lstE_eq:∀(n:Nat)(E:ElE),A.lstE n E=A.lst n E.at
 |n,.fn f=>rfl
 |n,.set e ys r=>by
  simp only[El.lstE];rw[El.lstE_eq n r];apply List.ext_getElem
  .simp[El.lst]
  .intro i h1 h2;simp only[El.lst,List.getElem_map,List.getElem_range,List.getElem_set,ElE.at];by_cases h:i=e
   .subst h;simp
   .rw[if_neg h,if_neg (λh'=>h h'.symm)]
 |n,.put e o ys r=>by
  simp only[El.lstE];rw[El.lstE_eq n r];apply List.ext_getElem
  .simp[El.lst]
  .intro i h1 h2;simp only[El.lst,List.getElem_map,List.getElem_range,List.getElem_set,ElE.at];by_cases h:i=e
   .subst h;simp
   .rw[if_neg h,if_neg (λh'=>h h'.symm)]
 |n,.app l a b=>by
  simp only[El.lstE];rw[El.lstE_eq _ a,El.lstE_eq _ b];apply List.ext_getElem
  .simp[El.lst];omega
  .intro i h1 h2;simp only[El.lst,List.getElem_map,List.getElem_range,ElE.at,List.getElem_append,List.length_map,List.length_range];have hn:i<n:=by simpa [El.lst]using h2
   by_cases h:i<l
   .rw[dif_pos (by omega),if_pos h]
   .rw[dif_neg (by omega),if_neg h];congr 2;omega
 |n,.sh k r=>by
  simp only[El.lstE];rw[El.lstE_eq _ r];apply List.ext_getElem
  .simp[El.lst]
  .intro i h1 h2;simp[El.lst,ElE.at]
 |n,.cond z a b=>by
  simp only[El.lstE];rw[El.lstE_eq n a,El.lstE_eq n b];cases z<;>rfl
def El.okE:Nat->ElE->List Prop
 |n,.fn f=>[∀e,e<n->A.OkP (f e)]
 |n,.set _ ys r=>A.OkP ys::El.okE n r
 |n,.put e o ys r=>A.OkP ((r.at e).take o++ys++(r.at e).drop (o+ys.length))::El.okE n r
 |n,.app l a b=>El.okE (min n l) a++El.okE (n-l) b
 |n,.sh k r=>El.okE (k+n) r
 |n,.cond _ a b=>El.okE n a++El.okE n b
theorem El.okE_ok:∀(n:Nat)(E:ElE),(∀p∈A.okE n E,p)->∀e,e<n->A.Ok (E.at e)
 |n,.fn f,h,e,he=>A.okP (h _ (List.mem_cons_self ..) e he)
 |n,.set e0 ys r,h,e,he=>by
  simp only[ElE.at];split
  .exact A.okP (h _ (List.mem_cons_self ..))
  .exact El.okE_ok n r (λp hp=>h p (List.mem_cons_of_mem _ hp)) e he
 |n,.put e0 o ys r,h,e,he=>by
  simp only[ElE.at];split
  .rename_i hee;subst hee;exact A.okP (h _ (List.mem_cons_self ..))
  .exact El.okE_ok n r (λp hp=>h p (List.mem_cons_of_mem _ hp)) e he
 |n,.app l a b,h,e,he=>by
  simp only[ElE.at];split
  .exact El.okE_ok _ a (λp hp=>h p (List.mem_append_left _ hp)) e (by omega)
  .exact El.okE_ok _ b (λp hp=>h p (List.mem_append_right _ hp)) _ (by omega)
 |n,.sh k r,h,e,he=>El.okE_ok (k+n) r h (k+e) (by omega)
 |n,.cond z a b,h,e,he=>by
  simp only[ElE.at];cases z with
  |true=>exact El.okE_ok n a (λp hp=>h p (List.mem_append_left _ hp)) e he
  |false=>exact El.okE_ok n b (λp hp=>h p (List.mem_append_right _ hp)) e he
end
def Dv.list{α:Type}(A:El α):Dv (List α) where
 dec s:=match s with
  | .rs sz n el=>bif Nat.beq sz A.sz then some (A.lst n el,[∀e,e<n->A.Ok (el e)])else none
  | .k y=>bif nilK y then some ([],[])else none
  |_=>none
 enc xs:=.rs A.sz xs.length (A.els xs)
 bd xs:=xs.length<=maxLen/\∀a∈xs,A.bd a
 cl xs:=zyx λe=>A.cl _
 ok s a ps n ρ x hd hp hf:=by
  split at hd
  .rename_i sz m el;cases hb:Nat.beq sz A.sz with
   |false=>rw[hb]at hd;cases hd
   |true=>
    rw[hb]at hd;simp only[cond_true,Option.some.injEq,Prod.mk.injEq]at hd;obtain⟨rfl,rfl⟩:=hd;have hk:=hp _ (List.mem_cons_self ..);have:=q05 hb;subst this;simp only[SV.fit]at hf ⊢;rw[A.lst_length];obtain⟨p,c,h0,h1,h2,h3⟩:=hf;refine⟨p,c,h0,h1,h2,λhl=>?_⟩;obtain⟨b,o,cs,t,fz,k1,k2,k3⟩:=h3 hl;refine⟨b,o,cs,t,fz,k1,k2,λe he=>?_⟩;obtain⟨vs,q1,q2,q3⟩:=k3 e he;refine⟨vs,q1,?_,q3⟩;simp only[El.els];rw[A.lst_getD _ _ _ he];obtain⟨a,ps,d1,d2⟩:=hk e he;have:=A.ok _ _ _ _ _ _ d1 d2 q2;simpa only [El.get,d1]using this
  .rename_i y;cases hb:nilK y with
   |false=>rw[hb]at hd;cases hd
   |true=>
    rw[hb]at hd;simp only[cond_true,Option.some.injEq,Prod.mk.injEq]at hd;obtain⟨rfl,rfl⟩:=hd;have:=q72 hb;subst this;simp only[SV.fit]at hf;subst hf;exact qnz _ _
  .cases hd
 fb xs n ρ x hf:=by
  simp only[SV.fit]at hf;obtain⟨p,c,h0,h1,h2,h3⟩:=hf;refine⟨by omega,λa ha=>?_⟩;obtain⟨i,hi,rfl⟩:=List.getElem_of_mem ha;obtain⟨b,o,cs,t,fz,k1,k2,k3⟩:=h3 (by omega);obtain⟨vs,q1,q2,q3⟩:=k3 i hi;have:=A.fb _ _ _ _ q2;simpa [List.getD_eq_getElem?_getD,hi]using this
def nilM:Value->Bool
 | .map none=>true
 |_=>false
theorem zlg{y:Value}(h:nilM y=true):y=.map none:=by
 unfold nilM at h;split at h
 .rfl
 .cases h
def Dv.map{α β:Type}(ka va:Bool)(K:El α)(V:El β):Dv (List (α×β)) where
 dec s:=match s with
  | .rm ks vs m ka' va' el=>bif Nat.beq ks K.sz&&(Nat.beq vs V.sz&&(ka==ka'&&va==va'))then some ((El.pair K V).lst m el,[∀e,e<m->(El.pair K V).Ok (el e)])else none
  | .k y=>bif nilM y then some ([],[])else none
  |_=>none
 enc xs:=.rm K.sz V.sz xs.length ka va ((El.pair K V).els xs)
 bd xs:=∀a∈xs,(El.pair K V).bd a
 cl xs:=zyy λe=>(El.pair K V).cl _
 ok s a ps n ρ x hd hp hf:=by
  split at hd
  .rename_i ks vs m ka' va' el;cases hb:Nat.beq ks K.sz&&(Nat.beq vs V.sz&&(ka==ka'&&va==va'))with
   |false=>rw[hb]at hd;cases hd
   |true=>
    rw[hb]at hd;simp only[cond_true,Option.some.injEq,Prod.mk.injEq]at hd;obtain⟨rfl,rfl⟩:=hd;have hk:=hp _ (List.mem_cons_self ..);simp only[Bool.and_eq_true,beq_iff_eq]at hb;obtain⟨b1,b2,b3,b4⟩:=hb;have e1:=q05 b1;have e2:=q05 b2;subst e1;subst e2;subst b3;subst b4;simp only[SV.fit]at hf ⊢;rw[El.lst_length];rcases hf with hf|⟨b,es,clk,k1,k2,k3,k4,k5⟩
    .exact .inl hf
    .refine .inr ⟨b,es,clk,k1,k2,k3,k4,λe he=>?_⟩;obtain⟨y,kc,vc,q1,q2,q3⟩:=k5 e he;refine⟨y,kc,vc,q1,?_,q3⟩;simp only[El.els];rw[El.lst_getD _ _ _ _ he];obtain⟨a,ps,d1,d2⟩:=hk e he;have:=(El.pair K V).ok _ _ _ _ _ _ d1 d2 q2;simpa only [El.get,d1]using this
  .rename_i y;cases hb:nilM y with
   |false=>rw[hb]at hd;cases hd
   |true=>
    rw[hb]at hd;simp only[cond_true,Option.some.injEq,Prod.mk.injEq]at hd;obtain⟨rfl,rfl⟩:=hd;have:=zlg hb;subst this;simp only[SV.fit]at hf ⊢;exact .inl ⟨hf,rfl⟩
  .cases hd
 fb xs n ρ x hf:=by
  simp only[SV.fit]at hf;intro a ha;obtain⟨i,hi,rfl⟩:=List.getElem_of_mem ha;rcases hf with ⟨_,hf⟩|⟨b,es,clk,k1,k2,k3,k4,k5⟩
  .omega
  .obtain⟨y,kc,vc,q1,q2,q3⟩:=k5 i hi;have:=(El.pair K V).fb _ _ _ _ q2;simpa [List.getD_eq_getElem?_getD,hi]using this
def zob{α:Type}(A:El α):El (List α):=.one' (.list A) [] (λ_=>rfl) λxs=>⟨[∀e,e<xs.length->A.Ok (A.els xs e)],by simp[Dv.list,A.lst_els],by
 intro p hp;simp only[List.mem_singleton]at hp;subst hp;exactλe _=>A.ok_els xs e⟩
structure DA(γ:Type)where
 dec:List SV->Option (γ×List Prop)
 enc:γ->List SV
 bd:γ->Prop
 cl:∀g,Cls (enc g)
 ok:∀(l:List SV)(g:γ)(ps:List Prop)(n:Nat)(ρ:Rh)(x:List Value),dec l=some (g,ps)->(∀p∈ps,p)->SV.fits n ρ l x->SV.fits n ρ (enc g) x
 fb:∀(g:γ)(n:Nat)(ρ:Rh)(x:List Value),SV.fits n ρ (enc g) x->bd g
abbrev DA.T{γ:Type}(_:DA γ):Type:=γ
def DA.none:DA Unit where
 dec l:=match l with
  | []=>some ((),[])
  |_=>Option.none
 enc _:=[]
 bd _:=True
 cl _:=qdk
 ok l g ps n ρ x hd hp hf:=by
  split at hd
  .exact hf
  .cases hd
 fb _ _ _ _ _:=trivial
def DA.one{α:Type}(A:Dv α):DA α where
 dec l:=match l with
  | [s]=>A.dec s
  |_=>Option.none
 enc a:=[A.enc a]
 bd:=A.bd
 cl a:=q9r (A.cl a) qdk
 ok l a ps n ρ x hd hp hf:=by
  split at hd
  .obtain⟨y,r,rfl,hy,hr⟩:=q04 hf;exact⟨A.ok _ _ _ _ _ _ hd hp hy,hr⟩
  .cases hd
 fb a n ρ x hf:=by
  obtain⟨y,r,rfl,hy,hr⟩:=q04 hf;exact A.fb _ _ _ _ hy
def DA.cons{α γ:Type}(A:Dv α)(D:DA γ):DA (α×γ) where
 dec l:=match l with
  |s::r=>match A.dec s with
   |some (a,ps)=>match D.dec r with
    |some (g,qs)=>some ((a,g),ps++qs)
    |Option.none=>Option.none
   |Option.none=>Option.none
  | []=>Option.none
 enc g:=A.enc g.1::D.enc g.2
 bd g:=A.bd g.1/\D.bd g.2
 cl g:=q9r (A.cl _) (D.cl _)
 ok l g ps n ρ x hd hp hf:=by
  split at hd
  .rename_i s r;split at hd
   .rename_i a ps0 h1;split at hd
    .rename_i g0 qs0 h2;simp only[Option.some.injEq,Prod.mk.injEq]at hd;obtain⟨rfl,rfl⟩:=hd;obtain⟨y,r',rfl,hy,hr⟩:=q04 hf;exact⟨A.ok _ _ _ _ _ _ h1 (λp hp'=>hp p (List.mem_append_left _ hp')) hy,D.ok _ _ _ _ _ _ h2 (λp hp'=>hp p (List.mem_append_right _ hp')) hr⟩
    .cases hd
   .cases hd
  .cases hd
 fb g n ρ x hf:=by
  obtain⟨y,r,rfl,hy,hr⟩:=q04 hf;exact⟨A.fb _ _ _ _ hy,D.fb _ _ _ _ hr⟩
def Dv.tup{γ:Type}(D:DA γ):Dv γ where
 dec s:=match s with
  | .tup l=>D.dec l
  |_=>none
 enc g:=.tup (D.enc g)
 bd:=D.bd
 cl g:=zwc (D.cl g)
 ok s a ps n ρ x hd hp hf:=by
  split at hd
  .obtain⟨v,rfl,hv⟩:=hf;exact⟨v,rfl,D.ok _ _ _ _ _ _ hd hp hv⟩
  .cases hd
 fb g n ρ x hf:=by
  obtain⟨v,rfl,hv⟩:=hf;exact D.fb _ _ _ _ hv
end Go.Sx

namespace Go.Sx
open Go.RowKit
inductive PO where
 |cells (xs:List SV) (t:TypeId)
 |row (t:TypeId) (sz:Nat) (el:ElE) (m:Nat)
 |map (ks vs:Nat) (ka va:Bool) (el:ElE) (m clk:Nat)
 |dead
def PO.fit(n:Nat)(ρ:Rh)(L:Lc):PO->Option Obj->Prop
 | .cells xs t,o=>L.nl=false/\L.off=0/\∃l,o=some (.cells (List.toArray l) t (0,0))/\SV.fits n ρ xs l
 | .row t sz el m,o=>m<=maxLen/\((L.nl=true/\m=0)\/(L.nl=false/\L.off=0/\∃c fz,o=some (.cells c t fz)/\OkFz fz c.size/\c.size=L.cap*sz/\m<=L.cap/\L.cap<=maxLen/\Els n ρ 0 sz el m c))
 | .map ks vs ka va el m clk,o=>L.nl=false/\L.off=0/\(∃es,o=some (.map es clk)/\es.size=m/\Stp es clk/\∀e,e<m->∃y kc vc,es[e]?=some y/\SV.fits n ρ (el e) (kc++(vc++[.int .i64 (y.born:Int)]))/\kc.length=ks/\vc.length=vs/\y.key=q31 ka kc/\y.val=q31 va vc)/\(false=true->∃j ys r,el=.set j ys r/\j<m)
 | .dead,_=>True
def PO.own(L:Lc):PO->Prop
 | .cells .. | .map ..=>True
 | .row ..=>L.nl=false
 | .dead=>False
theorem PO.fit_mono{n m:Nat}{ρ ρ':Rh}(hnm:n<=m)(ha:Agr n ρ ρ'){s:PO}{o:Option Obj}{L:Lc}(h:s.fit n ρ L o):s.fit m ρ' L o:=by
 cases s with
 |cells xs t=>obtain⟨hz,hb,l,hl,hf⟩:=h;exact⟨hz,hb,l,hl,SV.fits_mono0 hnm ha _ _ hf⟩
 |row t sz el k=>
  refine⟨h.1,?_⟩;rcases h.2 with h|⟨h1,h2,c,fz,hc,h6,h3,h4,h5,hall⟩
  .exact .inl h
  .exact .inr ⟨h1,h2,c,fz,hc,h6,h3,h4,h5,hall.mono0 hnm ha⟩
 |map ks vs ka va el m clk=>
  obtain⟨h1,h2,⟨es,h3,h4,h5,h6⟩,h7⟩:=h;refine⟨h1,h2,⟨es,h3,h4,h5,λe he=>?_⟩,h7⟩;obtain⟨y,kc,vc,q1,q2,q3⟩:=h6 e he;exact⟨y,kc,vc,q1,SV.fits_mono0 hnm ha _ _ q2,q3⟩
 |dead=>trivial
theorem PO.fit_none{n:Nat}{ρ:Rh}{L:Lc}{s:PO}{o o':Option Obj}(h:s.fit n ρ L o)(h1:¬s.own L):s.fit n ρ L o':=by
 cases s with
 |cells xs t=>exact absurd trivial h1
 |row t sz el k=>
  refine⟨h.1,?_⟩;rcases h.2 with h|⟨h3,_⟩
  .exact .inl h
  .exact absurd h3 h1
 |map=>exact absurd trivial h1
 |dead=>trivial
structure Lay(pos:List PO)(ρ:Rh)(L:Lc)(S:Nat->Prop)(H:Nat->Option Obj):Prop where
 root:∃xs t,pos[0]?=some (.cells xs t)
 r0:ρ 0=L
 fit:∀(k:Nat)(p:PO),pos[k]?=some p->p.fit pos.length ρ (ρ k) (H (ρ k).blk)
 inj:∀(k k':Nat)(p p':PO),pos[k]?=some p->pos[k']?=some p'->p.own (ρ k)->p'.own (ρ k')->(ρ k).blk=(ρ k').blk->k=k'
 has:∀b,S b↔∃(k:Nat)(p:PO),0<k/\pos[k]?=some p/\p.own (ρ k)/\(ρ k).blk=b
open Classical in
theorem Lay.cl{pos:List PO}{ρ:Rh}{L:Lc}{S:Nat->Prop}{H H' F':Nat->Option Obj}(hl:Lay pos ρ L S H)(h1:∀b,b=L.blk\/S b->H' b=H b)(h2:∀b o,ρ.mem b=some o->qpz o->F' b=some o):Lay pos ⟨ρ.lc,F',ρ.lo⟩ L S H' where
 root:=hl.root
 r0:=hl.r0
 fit k p hp:=by
  have hf:=PO.fit_mono (ρ:=ρ) (ρ':=⟨ρ.lc,F',ρ.lo⟩) (Nat.le_refl _) ⟨λ_ _=>rfl,h2⟩ (hl.fit k p hp);by_cases ho:p.own (ρ k)
  .rw[show(⟨ρ.lc,F',ρ.lo⟩:Rh) k=ρ k from rfl,h1 (ρ k).blk ?_]
   .exact hf
   .by_cases hk:k=0
    .subst hk;rw[hl.r0];exact .inl rfl
    .exact .inr ((hl.has _).2 ⟨k,p,by omega,hp,ho,rfl⟩)
  .exact PO.fit_none hf ho
 inj:=hl.inj
 has:=hl.has
def qbs{κ α:Type}(lay:κ->List PO)(Rel:κ->α->Prop)(g:α)(L:Lc)(S:Nat->Prop)(H F:Nat->Option Obj):Prop:=∃κ ρ,Rel κ g/\ρ.mem=F/\Lay (lay κ) ρ L S H
theorem z1y{κ α:Type}{lay:κ->List PO}{Rel:κ->α->Prop}{g:α}{L:Lc}{S:Nat->Prop}{H H' F F':Nat->Option Obj}(h1:∀b,b=L.blk\/S b->H' b=H b)(h2:∀b o,F b=some o->qpz o->F' b=some o)(h:qbs lay Rel g L S H F):qbs lay Rel g L S H' F':=by
 obtain⟨κ,ρ,q1,rfl,q3⟩:=h;exact⟨κ,⟨ρ.lc,F',ρ.lo⟩,q1,rfl,q3.cl h1 h2⟩
end Go.Sx
