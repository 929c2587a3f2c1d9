/- Results that a function has made itself, rows among them, as plain data: what came about is said by list operations. -/
import Derived.Test.YtapdglacmebbaaaDoorZG058b71cb
import Derived.Test.YtapdglacmebbaaaDoorZG013abc8b
import Derived.ProofKit
import Derived.OpenShut
import Derived.ShutString
import Derived.ChangeOld
import Derived.Below
import Derived.Deep.Slices
set_option linter.unusedVariables false
set_option linter.unusedSimpArgs false
set_option linter.constructorNameAsVariable false
set_option linter.all false

namespace Go.Sx
open Go.RowKit
variable[Env]
structure Vwd(M:Nat->Prop)(w0:World)(ρ:Rh)(h:SH)(w:World)(G:Nat->Option Obj):Prop where
 hm:HM M w0 ρ h w
 hG:∀b o,ρ.mem b=some o->G b=some o
 hO:∀i o,(h.get i).own (ρ i)->w.heap[(ρ i).blk]?=some o->G (ρ i).blk=some o
structure Rv(δ:Type)where
 D:Dv δ
 dec:SH->SV->Option (δ×List Prop)
 ok:∀{M:Nat->Prop}{w0:World}{ρ:Rh}{h:SH}{w:World}{G:Nat->Option Obj},Vwd M w0 ρ h w G->∀{s:SV}{r:δ}{ps:List Prop}{x:Value},dec h s=some (r,ps)->(∀p∈ps,p)->s.fit h.nx ρ x->(D.enc r).fit h.nx ⟨ρ.lc,G,ρ.lo⟩ x
abbrev Rv.T{δ:Type}(_:Rv δ):Type:=δ
def Rv.of{δ:Type}(D:Dv δ):Rv δ where
 D:=D
 dec h s:=match D.dec (vw2 h s).1 with
  |some (r,ps)=>some (r,(vw2 h s).2++ps)
  |none=>none
 ok {_ _ _ _ _ _} hv {_ _ _ _} hd hp hf:=by
  split at hd
  .rename_i r ps hr;simp only[Option.some.injEq,Prod.mk.injEq]at hd;obtain⟨rfl,rfl⟩:=hd;exact D.ok _ _ _ _ _ _ hr (λp h'=>hp p (List.mem_append_right _ h')) (vw2_ok hv.hm hv.hG hv.hO hf λp h'=>hp p (List.mem_append_left _ h'))
  .cases hd
def Rv.list{α:Type}(A:El α):Rv (List α) where
 D:=.list A
 dec h s:=match s with
  | .ow i l=>match h.get i with
   | .row _ sz el m=>bif Nat.beq sz A.sz then some (A.lstE l el,(l<=m)::A.okE l el)else none
   |_=>none
  | .se i sz o l=>match h.get i with
   | .row _ s el m=>bif Nat.beq s sz&&Nat.beq sz A.sz then some (A.lstE l (.sh o el),(o+l<=m)::A.okE l (.sh o el))else none
   |_=>none
  |s=>(Rv.of (.list A)).dec h s
 ok {M w0 ρ h w G} hv {s r ps x} hd hp hf:=by
  split at hd
  .rename_i i l;split at hd
   .rename_i t sz el m hg;cases hb:Nat.beq sz A.sz with
    |false=>rw[hb]at hd;cases hd
    |true=>
     rw[hb]at hd;simp only[cond_true,Option.some.injEq,Prod.mk.injEq]at hd;obtain⟨rfl,rfl⟩:=hd;have e0:vw0 h (.ow i l)=(.rs sz l el,[l<=m]):=by simp only[vw0,hg]
     have h1:=vw0_ok hv.hm hv.hG hv.hO hf (by rw[e0];intro p hp';simp only[List.mem_singleton]at hp';subst hp';exact hp _ (List.mem_cons_self ..));rw[e0]at h1;rw[A.lstE_eq]
     exact(Dv.list A).ok (.rs sz l el.at) _ [∀e,e<l->A.Ok (el.at e)] _ _ _ (by simp[Dv.list,hb]) (by
      intro p hp';simp only[List.mem_singleton]at hp';subst hp';exact A.okE_ok l el λp h'=>hp p (List.mem_cons_of_mem _ h')) h1
   .cases hd
  .rename_i i sz o l;split at hd
   .rename_i t s el m hg;cases hb:(Nat.beq s sz&&Nat.beq sz A.sz)with
    |false=>rw[hb]at hd;cases hd
    |true=>
     rw[hb]at hd;simp only[cond_true,Option.some.injEq,Prod.mk.injEq]at hd;obtain⟨rfl,rfl⟩:=hd;simp only[Bool.and_eq_true]at hb;have e0:vw0 h (.se i sz o l)=(.rs sz l (ElE.sh o el),[o+l<=m]):=by simp only[vw0,hg,hb.1,cond_true]
     have h1:=vw0_ok hv.hm hv.hG hv.hO hf (by rw[e0];intro p hp';simp only[List.mem_singleton]at hp';subst hp';exact hp _ (List.mem_cons_self ..));rw[e0]at h1;rw[A.lstE_eq]
     exact(Dv.list A).ok (.rs sz l (ElE.sh o el).at) _ [∀e,e<l->A.Ok ((ElE.sh o el).at e)] _ _ _ (by simp[Dv.list,hb.2]) (by
      intro p hp';simp only[List.mem_singleton]at hp';subst hp';exact A.okE_ok l (ElE.sh o el) λp h'=>hp p (List.mem_cons_of_mem _ h')) h1
   .cases hd
  .exact(Rv.of (.list A)).ok hv hd hp hf
structure RvA(γ:Type)where
 D:DA γ
 dec:SH->List SV->Option (γ×List Prop)
 ok:∀{M:Nat->Prop}{w0:World}{ρ:Rh}{h:SH}{w:World}{G:Nat->Option Obj},Vwd M w0 ρ h w G->∀{s:List SV}{r:γ}{ps:List Prop}{x:List Value},dec h s=some (r,ps)->(∀p∈ps,p)->SV.fits h.nx ρ s x->SV.fits h.nx ⟨ρ.lc,G,ρ.lo⟩ (D.enc r) x
def RvA.one{α:Type}(R:Rv α):RvA α where
 D:=.one R.D
 dec h l:=match l with
  | [s]=>R.dec h s
  |_=>Option.none
 ok {_ _ _ _ _ _} hv {s r ps x} hd hp hf:=by
  split at hd
  .obtain⟨y,r',rfl,hy,hr⟩:=q03 hf;have:=q0b hr;subst this;exact⟨R.ok hv hd hp hy,trivial⟩
  .cases hd
def RvA.cons{α γ:Type}(R:Rv α)(A:RvA γ):RvA (α×γ) where
 D:=.cons R.D A.D
 dec h l:=match l with
  |s::r=>match R.dec h s with
   |some (a,ps)=>match A.dec h r with
    |some (g,qs)=>some ((a,g),ps++qs)
    |Option.none=>Option.none
   |Option.none=>Option.none
  | []=>Option.none
 ok {_ _ _ _ _ _} hv {s r ps x} hd hp hf:=by
  split at hd
  .rename_i s r;split at hd
   .rename_i a ps0 h1;split at hd
    .rename_i g0 qs0 h2;simp only[Option.some.injEq,Prod.mk.injEq]at hd;obtain⟨rfl,rfl⟩:=hd;obtain⟨y,r',rfl,hy,hr⟩:=q03 hf;exact⟨R.ok hv h1 (λp hp'=>hp p (List.mem_append_left _ hp')) hy,A.ok hv h2 (λp hp'=>hp p (List.mem_append_right _ hp')) hr⟩
    .cases hd
   .cases hd
  .cases hd
def Rv.tup{γ:Type}(A:RvA γ):Rv γ where
 D:=.tup A.D
 dec h s:=match s with
  | .tup l=>A.dec h l
  |_=>none
 ok {_ _ _ _ _ _} hv {s r ps x} hd hp hf:=by
  split at hd
  .obtain⟨v,rfl,hv'⟩:=hf;exact⟨v,rfl,A.ok hv hd hp hv'⟩
  .cases hd
def rTree{δ:Type}(P:Program)(Γ:Gam)(Λ:Lam)(n f:Nat)(args:List SV)(R:Rv δ):Tr δ:=
 (fnTree P Γ Λ n f args ⟨0,[],[]⟩).bind λy=>match R.dec y.2 y.1 with
  |some (r,ps)=>asks ps (.ret r)
  |none=>.bad 620
section
variable{P:Program}{Γ:Gam}{Λ:Lam}{f:Nat}{γ δ:Type}{D:DA γ}{R:Rv δ}{fn:γ->δ}{pre:γ->List Prop}
theorem res_of_tree(hΓ:∀f g,Γ.g f=some g->FnOk P f g)(hΛ:∀f k L,Λ f k=some L->∀b∈q00 P f,lkey b=k->q04 P b L.g)(n:Nat)
  (hT:∀g,D.bd g->(∀p∈pre g,p)->(rTree P Γ Λ n f (D.enc g) R).Holds (·=fn g)):FnPure P f D R.D fn pre:=by
 intro w F g vs hF hE hpre hfit;have hbd:=D.fb _ _ _ _ hfit;have hT:=hT g hbd hpre;have h0:=fnTree_ok hΓ hΛ n (λ_=>False) w w (emp F) ⟨0,[],[]⟩ _ vs _ (Tr.holds_bind hT) (HM.start w (emp F) hF (λ_ _ h=>h) hE) hfit;refine h0.mono ?_;rintro e w' ⟨s,h',ρ',x,h1,h2,h3,h4,h5,rfl⟩;refine⟨x,rfl,h4.toBelow,?_⟩;simp only at h1
 have hv:Vwd (λ_=>False) w ρ' h' w' (memAt F w w'):={
  hm:=h4
  hG:=λb o hb=>by
   unfold memAt;split
   .rename_i hlt;have:=h4.old b o hb hlt (λh=>h);rw[h3.2.2]at this;exact this
   .exact h4.fz b o hb
  hO:=λi o hown ho=>by
   unfold memAt;rcases h4.ow i hown with h|h
   .rw[if_neg (by omega)];exact ho
   .exact h.elim}
 split at h1
 .rename_i r ps hr;obtain⟨hq,h1⟩:=q1p h1;have h1:r=fn g:=h1;have:=R.ok hv hr hq h5;rw[h1]at this;exact R.D.cl _ _ 0 ⟨ρ'.lc,memAt F w w',ρ'.lo⟩ (emp (memAt F w w')) x (λ_ _ h=>h) this
 .exact h1.elim
theorem q68(hΓ:∀f g,Γ.g f=some g->FnOk P f g)(hΛ:∀f k L,Λ f k=some L->∀b∈q00 P f,lkey b=k->q04 P b L.g)(n:Nat)(d:δ)(S:γ->Prop)
  (hS:∀g,(rTree P Γ Λ n f (D.enc g) R).side=S g) (he:∀g,(rTree P Γ Λ n f (D.enc g) R).ev d=fn g) (hs:∀g,D.bd g->(∀p∈pre g,p)->S g):FnPure P f D R.D fn pre:=
 res_of_tree hΓ hΛ n λg h1 h2=>by
  have:=Tr.side_holds d (by rw[hS];exact hs g h1 h2:(rTree P Γ Λ n f (D.enc g) R).side);rw[he g]at this;exact this
end
end Go.Sx

namespace Go.Sx
open Go.RowKit
variable[Env]
def q5d(a b:Code):Prop:=a=b
def fixT(N:Nat)(t:List (Nat×SV)):List (Nat×SV)->Bool
 | []=>true
 |(i,v)::r=>litEq N (look (.k undef) i t) v&&fixT N t r
theorem fixT_ok{N:Nat}{t:List (Nat×SV)}:∀{l:List (Nat×SV)},fixT N t l=true->∀i v,(i,v)∈l->look (.k undef) i t=v/\Bl N v
 | [],_,_,_,h=>by simp at h
 |(j,u)::r,h,i,v,hm=>by
  simp only[fixT,Bool.and_eq_true]at h;rcases List.mem_cons.1 hm with he|hm
  .simp only[Prod.mk.injEq]at he;obtain⟨rfl,rfl⟩:=he;exact litEq_ok h.1
  .exact fixT_ok h.2 i v hm
def restU(n:Nat):List (Nat×SV):=(List.range n).map λi=>(i,.u)
theorem look_restU{n i:Nat}(h:i<n):look (.k undef) i (restU n)=.u:=by
 rcases q8p (.k undef) i (restU n)with h1|h1
 .obtain⟨j,_,e⟩:=List.mem_map.1 h1;simp only[Prod.mk.injEq]at e;exact e.2.symm
 .exact absurd (by simp only[restU,List.map_map];simpa using h) h1
def LP.loopO(N id n:Nat)(fx:List (Nat×SV))(ps:Array Tmp)(asg body:Code)(df:Nat):LP N (LoopState×Option Code) where
 R:=0
 read σ:=match σ.h.get id with
  | .loop st pd n' t ps' asg' body' df'=>bif Nat.beq n' n&&(Nat.beq df' df&&(Nat.blt df N&&(decide (ps'=ps)&&fixT N t fx)))then some ((st,pd),[q5d asg' asg,q5d body' body],[])else none
  |_=>none
 ents _ _:=[]
 blks _ _:=[]
 objs _ g:=[(id,.loop g.1 g.2 n (fx++restU n) ps asg body df)]
 es:=[]
 os:=[id]
 eseq _ _:=rfl
 oseq _ _:=rfl
 blen _ _:=rfl
 ilen σ g ps' ids h:=by
  split at h
  .rename_i st pd n' t ps'' asg' body' df' _;cases hb:(Nat.beq n' n&&(Nat.beq df' df&&(Nat.blt df N&&(decide (ps''=ps)&&fixT N t fx))))with
   |false=>rw[hb]at h;cases h
   |true=>rw[hb]at h;simp only[cond_true,Option.some.injEq,Prod.mk.injEq]at h;rw[<-h.2.2];rfl
  .cases h
 ok k0 σ g ps' ids h hp:=by
  split at h
  .rename_i st pd n' t ps'' asg' body' df' hg;cases hb:(Nat.beq n' n&&(Nat.beq df' df&&(Nat.blt df N&&(decide (ps''=ps)&&fixT N t fx))))with
   |false=>rw[hb]at h;cases h
   |true=>
    rw[hb]at h;simp only[cond_true,Option.some.injEq,Prod.mk.injEq]at h;obtain⟨rfl,rfl,rfl⟩:=h;simp only[Bool.and_eq_true,decide_eq_true_eq]at hb;obtain⟨h1,h2,h3,h4,h5⟩:=hb;have e1:=q02 h1;have e2:=q02 h2;subst e1;subst e2;subst h4;have hlt:df'<N:=Nat.le_of_ble_eq_true h3;have c1:asg'=asg:=hp _ (List.mem_cons_self ..);have c2:body'=body:=hp _ (List.mem_cons_of_mem _ (List.mem_cons_self ..));subst c1;subst c2;refine⟨λk so h=>by simp at h,λid' so h=>?_,λj s h=>by simp at h⟩;simp only[List.mem_singleton,Prod.mk.injEq]at h;obtain⟨rfl,rfl⟩:=h;rw[hg];refine⟨ow_na λ_ h=>h,λn m ρ ρ' L o hr hf=>?_⟩;have hNm:N<=m:=by have:=hr.le;omega
    have hag:=hr.ag;obtain⟨f1,f2,f,tm,f3,f4,f5⟩:=hf;refine⟨f1,by omega,f,tm,by rw[hag.1 _ hlt];exact f3,f4,λi hi=>?_⟩;have h6:=f5 i hi;rw[q39];rcases q8p (look (.k undef) i (restU n')) i fx with h7|h7
    .obtain⟨e,hbl⟩:=fixT_ok h5 _ _ h7;rw[e]at h6;exact hbl _ _ _ _ _ hNm hag h6
    .rw[q2a _ _ h7,look_restU hi];trivial
  .cases h
section
variable{P:Program}{Γ:Gam}{Λ:Lam}{N:Nat}{γ:Type}
end
theorem q0d{γ δ:Type}{P:Program}{f:Nat}{D:DA γ}{R:Dv δ}{fn fn':γ->δ}{pre:γ->List Prop}(h:FnPure P f D R fn pre)(e:∀g,D.bd g->(∀p∈pre g,p)->fn g=fn' g):FnPure P f D R fn' pre:=by
 intro w F g vs h1 hE h2 h3;refine(h w F g vs h1 hE h2 h3).mono ?_;rintro e' w' ⟨x,k1,k2,k3⟩;rw[e g (D.fb _ _ _ _ h3) h2]at k3;exact⟨x,k1,k2,k3⟩
end Go.Sx

namespace Go.Sx
noncomputable section
variable[Env]
def q42:Code->List (Array Tmp×Code×Code)
 | .seq a b=>q42 a++q42 b
 | .cond _ a b=>q42 a++q42 b
 | .block _ c=>q42 c
 | .scope c=>q42 c
 | .loop c=>q42 c
 | .rangeFunc _ ps a b=>(ps,a,b)::(q42 a++q42 b)
 |_=>[]
def q1c(P:Program)(f k:Nat):Array Tmp×Code×Code:=
 match P.funcs[f]? with
 |some fn=>match fn.body with
  |some c=>((q42 c)[k]?).getD (#[],.skip,.skip)
  |none=>(#[],.skip,.skip)
 |none=>(#[],.skip,.skip)
def LP.rf(N id:Nat)(P:Program)(f k n:Nat)(fx:List (Nat×SV))(df:Nat):LP N (LoopState×Option Code):=
 LP.loopO N id n fx (q1c P f k).1 (q1c P f k).2.1 (q1c P f k).2.2 df
def exitsS{γ:Type}(x:Ex×γ):List ((Ex×γ->Bool)×Ex×(γ->γ))->Tr (Ex×γ)
 | []=>.bad 645
 | [(_,e,s)]=>.ret (e,s x.2)
 |(t,e,s)::y::r=>.br (t x) (.ret (e,s x.2)) (exitsS x (y::r))
def q8q{γ:Type}(x:Ex×γ):List ((Ex×γ->Bool)×Ex×(γ->γ))->Prop
 | []=>False
 | [(_,e,s)]=>x.1=e/\s x.2=x.2
 |(t,e,s)::y::r=>(t x=true->x.1=e/\s x.2=x.2)/\(t x=false->q8q x (y::r))
theorem qbb{γ:Type}{x:Ex×γ}{K:Ex×γ->Prop}:∀{l:List ((Ex×γ->Bool)×Ex×(γ->γ))},q8q x l->(exitsS x l).Holds K->K x
 | [],h,_=>h.elim
 | [(_,e,s)],h,hk=>by
  obtain⟨h1,h2⟩:=h;have hk:K (e,s x.2):=hk;rw[<-h1,h2]at hk;exact hk
 |(t,e,s)::y::r,h,hk=>by
  cases hb:t x with
  |true=>
   obtain⟨h1,h2⟩:=h.1 hb;have hk:K (e,s x.2):=hk.1 hb;rw[<-h1,h2]at hk;exact hk
  |false=>exact qbb (l:=y::r) (h.2 hb) (hk.2 hb)
section
variable{P:Program}{Γ:Gam}{Λ:Lam}{N:Nat}{γ:Type}
def loopRS(es:List ((Ex×γ->Bool)×Ex×(γ->γ)))(body:Code)(A:LP N γ)(DL:List Nat)(n0:Nat)(Inv:γ->List Prop)(F:γ->Ex×γ)(m:γ->Nat):LCon:=loopC body A DL n0 Inv λg=>exitsS (loopF F m g) es
theorem loop_runS(ι:γ->γ)(hΓ:∀f g,Γ.g f=some g->FnOk P f g)(hΛ:∀f k L,Λ f k=some L->∀b∈q00 P f,lkey b=k->q04 P b L.g)(n f key n0:Nat)(A:LP N γ)(DL:List Nat)(Inv:γ->List Prop)(F:γ->Ex×γ)(S:γ->Prop)(m:γ->Nat)(d:Ex×γ)(es:List ((Ex×γ->Bool)×Ex×(γ->γ)))
  (hu:((q00 P f).filter λc=>Nat.beq (lkey c) key).length=1)
  (hS:∀(rd:Option Nat)(T B:List (Nat×SV))(HL HB:List (Nat×SE))(ds:List Nat)(g:γ),(bT P Γ Λ n f none (loopBody P f key) A DL n0 ⟨n0,T,⟨N,HL,HB⟩,DL,B⟩ ds (ι g)).side=S g)
  (hF:∀(rd:Option Nat)(T B:List (Nat×SV))(HL HB:List (Nat×SE))(ds:List Nat)(g:γ),(bT P Γ Λ n f none (loopBody P f key) A DL n0 ⟨n0,T,⟨N,HL,HB⟩,DL,B⟩ ds (ι g)).ev d=F g)
  (hι:∀g,allP (Inv g)->ι g=g) (hs:∀g,allP (Inv g)->S g) (hg:Goes F m λg=>allP (Inv g)) (hes:∀g,(F g).1=.normal\/q8q (F g) es):∀b∈q00 P f,lkey b=key->q04 P b (loopRS es (loopBody P f key) A DL n0 Inv F m).g:=by
 refine loop_ok hΓ hΛ n f key n0 A DL Inv _ m hu ?_;intro rd T B HL HB ds g hi K hK;have h1:(bT P Γ Λ n f none (loopBody P f key) A DL n0 ⟨n0,T,⟨N,HL,HB⟩,DL,B⟩ ds (ι g)).side:=by rw[hS none];exact hs g hi
 have h2:=Tr.side_holds d h1;rw[hF none,hι g hi]at h2;refine Tr.mono ?_ h2;rintro _ rfl;have hK0:=hK;have hx:q8q (loopF F m g) es:=q1m hg (Q:=λ_ r=>q8q r es) (λg _ hn=>(hes g).resolve_left hn) (λ_ _ _ _ _ _ _ ih=>ih) g hi;have hK:K (loopF F m g):=qbb hx hK;unfold StepP;split
 .rename_i he;obtain⟨k1,k2⟩:=hg g hi he;refine⟨k1,k2,?_⟩;show(exitsS (loopF F m (F g).2) es).Holds K;rw[<-q7x hg hi (g':=(F g).2) (by rw[<-he])];exact hK0
 .rename_i he;rw[q5t (by intro h;exact he h)]at hK;exact hK
end
end
end Go.Sx

namespace Go.Sx
variable[Env]
section
variable{α:Type}(A:El α)
def El.ag(l:List α):List α:=A.lst l.length (A.els l)
def El.okL(l:List α):Prop:=∀e,e<l.length->A.Ok (A.els l e)
@[simp] theorem El.ag_eq (l:List α):A.ag l=l:=A.lst_els l
@[simp] theorem El.okL_eq (l:List α):A.okL l=True:=eq_true λe _=>A.ok_els l e
end
end Go.Sx

namespace Go.Lp
open Go.Sx
theorem wr64{x:Int}(h:-9223372036854775808<=x/\x<=9223372036854775807):IntKind.i64.wrap x=x:=by
 simp[IntKind.wrap,IntKind.signed,IntKind.bits];omega
def dgt:Nat->Int->List Int
 |0,_=>[]
 |k+1,u=>(if u/10=0 then []else dgt k (u/10))++[48+u%10]
def dval(l:List Int):Int:=l.foldl (λa c=>10*a+(c-48)) 0
theorem dval_snoc(l:List Int)(c:Int):dval (l++[c])=10*dval l+(c-48):=by simp[dval]
theorem dval_dgt:∀(k:Nat)(u:Int),0<=u->u<(10:Int)^k->dval (dgt k u)=u
 |0,u,h0,h1=>by
  have:(10:Int)^0=1:=rfl;rw[this]at h1;have:u=0:=by omega
  subst this;rfl
 |k+1,u,h0,h1=>by
  unfold dgt;rw[dval_snoc];have hp:(10:Int)^(k+1)=10^k*10:=Int.pow_succ ..;by_cases h:u/10=0
  .rw[if_pos h];show 10*0+_=_;omega
  .rw[if_neg h,dval_dgt k (u/10) (by omega) (by omega)];omega
theorem q8r:∀(k j:Nat)(u:Int),0<=u->u<(10:Int)^j->1<=j->(dgt k u).length<=j
 |0,j,u,_,_,_=>Nat.zero_le _
 |k+1,j,u,h0,h1,hj=>by
  unfold dgt;rw[List.length_append];by_cases h:u/10=0
  .rw[if_pos h];exact hj
  .rw[if_neg h];obtain⟨i,rfl⟩:∃i,j=i+1:=⟨j-1,by omega⟩;have hp:(10:Int)^(i+1)=10^i*10:=Int.pow_succ ..
   have hi:1<=i:=by
    rcases Nat.eq_zero_or_pos i with rfl|hi
    .have:(10:Int)^(0+1)=10:=rfl;omega
    .exact hi
   have:=q8r k i (u/10) (by omega) (by omega) hi;simp only[List.length_cons,List.length_nil];omega
theorem q57:∀(k:Nat)(u:Int),0<=u->∀c∈dgt k u,48<=c/\c<=57
 |0,u,_,c,hc=>by cases hc
 |k+1,u,h0,c,hc=>by
  unfold dgt at hc;rcases List.mem_append.1 hc with hc|hc
  .by_cases h:u/10=0
   .rw[if_pos h]at hc;cases hc
   .rw[if_neg h]at hc;exact q57 k (u/10) (by omega) c hc
  .rw[List.mem_singleton.1 hc];omega
theorem dgt_pos(k:Nat)(u:Int):1<=(dgt (k+1) u).length:=by
 unfold dgt;rw[List.length_append];simp
theorem dgt_more:∀(k j:Nat)(u:Int),0<=u->u<(10:Int)^k->dgt (k+j+1) u=dgt (k+1) u
 |0,j,u,h0,h1=>by
  have:(10:Int)^0=1:=rfl;rw[this]at h1;have:u=0:=by omega
  subst this;show dgt (0+j+1) 0=dgt 1 0;unfold dgt;rfl
 |k+1,j,u,h0,h1=>by
  have hp:(10:Int)^(k+1)=10^k*10:=Int.pow_succ ..;rw[show k+1+j+1=(k+j+1)+1 by omega]
  conv=>lhs;unfold dgt
  conv=>rhs;unfold dgt
  rw[dgt_more k j (u/10) (by omega) (by omega)]
def hexD(i:Int):Int:=if i<10 then 48+i else 87+i
def hexV(c:Int):Int:=if 48<=c/\c<=57 then c-48 else if 97<=c/\c<=102 then c-87 else -1
theorem hexV_D{i:Int}(h0:0<=i)(h1:i<16):hexV (hexD i)=i:=by
 unfold hexV hexD;by_cases h:i<10
 .rw[if_pos h,if_pos (by omega)];omega
 .rw[if_neg h,if_neg (by omega),if_pos (by omega)];omega
theorem hexV_range(c:Int):hexV c=-1\/(0<=hexV c/\hexV c<16):=by
 unfold hexV;split
 .right;omega
 .split
  .right;omega
  .left;rfl
def escP(c:Int):Bool:=decide (33<=c)&&(decide (c<=126)&&!decide (c=37))
def esc1(c:Int):List Int:=if escP c=true then [c]else [37,hexD (c/16),hexD (c%16)]
def escL(l:List Int):List Int:=l.flatMap esc1
def q0y:Nat->List Int->List Int->Option (List Int)
 |0,_,b=>some b
 |_+1,[],b=>some b
 |n+1,c::r,b=>if c=37 then match r with
  |h::l::r'=>if hexV h<0\/hexV l<0 then none else q0y n r' (b++[16*hexV h+hexV l])
  |_=>none
  else q0y n r (b++[c])
theorem q65:∀(n m:Nat)(l b:List Int),l.length<=n->l.length<=m->q0y n l b=q0y m l b
 |0,0,_,_,_,_=>rfl
 |0,m+1,[],b,_,_=>rfl
 |n+1,0,[],b,_,_=>rfl
 |n+1,m+1,[],b,_,_=>rfl
 |n+1,m+1,c::r,b,h1,h2=>by
  simp only[List.length_cons]at h1 h2;unfold q0y;by_cases h:c=37
  .rw[if_pos h,if_pos h]
   match r with
   |h'::l'::r'=>
    simp only;split
    .rfl
    .simp only[List.length_cons]at h1 h2;exact q65 n m r' _ (by omega) (by omega)
   | [_]=>rfl
   | []=>rfl
  .rw[if_neg h,if_neg h];exact q65 n m r _ (by omega) (by omega)
 |0,_+1,_::_,_,h,_=>by simp at h
 |_+1,0,_::_,_,_,h=>by simp at h
theorem esc1_len(c:Int):1<=(esc1 c).length/\(esc1 c).length<=3:=by
 unfold esc1;split<;>simp
theorem escL_len(l:List Int):(escL l).length<=3*l.length:=by
 induction l with
 |nil=>simp[escL]
 |cons c l ih=>
  have:=(esc1_len c).2;have e:escL (c::l)=esc1 c++escL l:=rfl;rw[e,List.length_append,List.length_cons];omega
theorem unescF_esc:∀(l b:List Int)(n:Nat),(∀c∈l,0<=c/\c<=255)->(escL l).length<=n->q0y n (escL l) b=some (b++l)
 | [],b,n,_,_=>by
  have:escL []=[]:=rfl;rw[this,List.append_nil];cases n<;>rfl
 |c::l,b,n,hb,hn=>by
  have e:escL (c::l)=esc1 c++escL l:=rfl;rw[e]at hn ⊢;have hc:=hb c (List.mem_cons_self ..);have ih:=λb n h=>unescF_esc l b n (λx hx=>hb x (List.mem_cons_of_mem _ hx)) h;have hl:=esc1_len c;rw[List.length_append]at hn;obtain⟨m,rfl⟩:∃m,n=m+1:=⟨n-1,by omega⟩;unfold esc1;by_cases hp:escP c=true
  .rw[if_pos hp]
   have h37:c≠37:=by
    unfold escP at hp;simp only[Bool.and_eq_true,Bool.not_eq_true',decide_eq_false_iff_not]at hp;exact hp.2.2
   show q0y (m+1) (c::escL l) b=_;unfold q0y;rw[if_neg h37,ih _ m (by omega),List.append_assoc];rfl
  .rw[if_neg hp];show q0y (m+1) (37::hexD (c/16)::hexD (c%16)::escL l) b=_;unfold q0y;rw[if_pos rfl];simp only;rw[hexV_D (by omega) (by omega),hexV_D (by omega) (by omega),if_neg (by omega),ih _ m (by omega),List.append_assoc];have:16*(c/16)+c%16=c:=by omega
   rw[this];rfl
def numL(n:Int):List Int:=(if n<0 then [45]else [])++dgt 20 (if n<0 then -n else n)
def digL(l:List Int):Bool:=decide (l.length<=19)&&l.all λc=>decide (48<=c)&&decide (c<=57)
def numV(l:List Int):Int:=
 let d:=if l.head?=some 45 then l.drop 1 else l
 let x:=IntKind.i64.wrap (dval d)
 if l.head?=some 45 then IntKind.i64.wrap (-x)else x
def numOk(l:List Int):Bool:=digL (if l.head?=some 45 then l.drop 1 else l)
theorem numL_back{n:Int}(h1:-9223372036854775808<=n)(h2:n<=9223372036854775807):numOk (numL n)=true/\numV (numL n)=n:=by
 have h10:(10:Int)^19=10000000000000000000:=by decide
 have h11:(10:Int)^20=100000000000000000000:=by decide
 have hd:∀u:Int,0<=u->u<=9223372036854775808->digL (dgt 20 u)=true/\dval (dgt 20 u)=u/\(dgt 20 u).head?≠some 45:=by
  intro u hu0 hu1;have hl:=q8r 20 19 u hu0 (by omega) (by decide);refine⟨?_,dval_dgt 20 u hu0 (by omega),λh=>?_⟩
  .unfold digL;rw[Bool.and_eq_true,List.all_eq_true];refine⟨decide_eq_true hl,λc hc=>?_⟩;have:=q57 20 u hu0 c hc;simp[this.1,this.2]
  .have hm:(45:Int)∈dgt 20 u:=List.mem_of_head? h;have:=q57 20 u hu0 45 hm;omega
 unfold numL numOk numV;by_cases hn:n<0
 .rw[if_pos hn,if_pos hn];obtain⟨k1,k2,k3⟩:=hd (-n) (by omega) (by omega);simp only[List.cons_append,List.nil_append,List.head?_cons,if_true,List.drop_succ_cons,List.drop_zero];refine⟨k1,?_⟩;rw[k2];by_cases hmin:n=-9223372036854775808
  .subst hmin;decide
  .have e:IntKind.i64.wrap (-n)=-n:=wr64 (by omega);rw[e,Int.neg_neg];exact wr64 (by omega)
 .rw[if_neg hn,if_neg hn];obtain⟨k1,k2,k3⟩:=hd n (by omega) (by omega);simp only[List.nil_append];rw[if_neg k3,if_neg k3];refine⟨k1,?_⟩;rw[k2];exact wr64 (by omega)
theorem ba_inj{a b:ByteArray}(h:a.data.toList=b.data.toList):a=b:=by
 cases a with
 |mk x=>cases b with
  |mk y=>exact congrArg ByteArray.mk (Array.ext' h)
theorem ba_app(a b:ByteArray):(a++b).data.toList=a.data.toList++b.data.toList:=by
 rw[ByteArray.data_append,Array.toList_append]
theorem ba_ext(s:ByteArray)(a b:Nat):(s.extract a b).data.toList=(s.data.toList.take b).drop a:=by
 rw[ByteArray.data_extract,Array.toList_extract,List.extract_eq_drop_take,List.drop_take]
theorem dg16:∀k<16,(ByteArray.mk #[(48:UInt8),(49:UInt8),(50:UInt8),(51:UInt8),(52:UInt8),(53:UInt8),(54:UInt8),(55:UInt8),(56:UInt8),(57:UInt8),(97:UInt8),(98:UInt8),(99:UInt8),(100:UInt8),(101:UInt8),(102:UInt8)]).extract k (k+1)=strOf [hexD k]:=by decide
theorem strOf_cons(c:Int)(l:List Int):strOf [c]++strOf l=strOf (c::l):=ba_inj (by rw[ba_app];rfl)
theorem q2l(a b:List Int):strOf a++strOf b=strOf (a++b):=ba_inj (by rw[ba_app];unfold strOf;simp)
theorem q1b(l:List Int):(strOf l).size=l.length:=by
 show(strOf l).data.size=_;simp[strOf]
theorem ba_get(s:ByteArray)(k:Nat):s.get! k=s.data.toList.getD k 0:=by
 show s.data[k]! =_;rw[List.getD_eq_getElem?_getD,Array.getElem?_toList];by_cases h:k<s.data.size
 .rw[getElem!_pos s.data k h,Array.getElem?_eq_getElem h];rfl
 .rw[getElem!_neg s.data k h,Array.getElem?_eq_none (by omega)];rfl
def bts(s:ByteArray):List Int:=s.data.toList.map λx=>(x.toNat:Int)
theorem q06(s:ByteArray):(bts s).length=s.size:=by unfold bts;rw[List.length_map,Array.length_toList];rfl
theorem q2y(s:ByteArray)(k:Nat):((s.get! k).toNat:Int)=(bts s).getD k 0:=by
 rw[ba_get,bts,List.getD_eq_getElem?_getD,List.getD_eq_getElem?_getD,List.getElem?_map];cases s.data.toList[k]? <;>rfl
theorem q1t(s:ByteArray):∀c∈bts s,0<=c/\c<=255:=by
 intro c hc;obtain⟨x,_,rfl⟩:=List.mem_map.1 hc;have:=x.toNat_lt;omega
theorem q47(s:ByteArray)(k:Nat):0<=(bts s).getD k 0/\(bts s).getD k 0<=255:=by
 rw[List.getD_eq_getElem?_getD];cases h:(bts s)[k]? with
 |none=>exact⟨by decide,by decide⟩
 |some x=>exact q1t s x (List.mem_of_getElem? h)
theorem q1q(s:ByteArray):strOf (bts s)=s:=by
 apply ba_inj;unfold strOf bts;simp only[List.map_map]
 conv=>rhs;rw[<-List.map_id s.data.toList]
 refine List.map_congr_left λx _=>?_;simp
theorem q3m{l:List Int}(h:∀c∈l,0<=c/\c<=255):bts (strOf l)=l:=by
 unfold strOf bts;simp only[List.map_map]
 conv=>rhs;rw[<-List.map_id l]
 refine List.map_congr_left λc hc=>?_;have:=h c hc;simp only[Function.comp_apply,id_eq,UInt8.toNat_ofNat'];omega
theorem q5f(a b:ByteArray):bts (a++b)=bts a++bts b:=by unfold bts;rw[ba_app,List.map_append]
theorem q8s{a b:ByteArray}(h:bts a=bts b):a=b:=by rw[<-q1q a,<-q1q b,h]
theorem q8t(s:ByteArray)(a b:Nat):bts (s.extract a b)=((bts s).take b).drop a:=by unfold bts;rw[ba_ext,List.map_drop,List.map_take]
theorem ext_one(s:ByteArray)(k:Nat)(h:k<s.size):s.extract k (k+1)=strOf [(bts s).getD k 0]:=by
 apply q8s
 rw[q8t,q3m (by
  intro c hc;rw[List.mem_singleton.1 hc];exact q47 s k)]
 have hl:k<(bts s).length:=by rw[q06];exact h
 rw[List.drop_take,Nat.add_sub_cancel_left,List.drop_eq_getElem_cons hl,List.getD_eq_getElem?_getD,List.getElem?_eq_getElem hl];rfl
abbrev HEX:ByteArray:=ByteArray.mk #[(48:UInt8),(49:UInt8),(50:UInt8),(51:UInt8),(52:UInt8),(53:UInt8),(54:UInt8),(55:UInt8),(56:UInt8),(57:UInt8),(97:UInt8),(98:UInt8),(99:UInt8),(100:UInt8),(101:UInt8),(102:UInt8)]
set_option maxRecDepth 100000 in
theorem hx_shr:∀v<256,((HEX.get! (iShr .u8 (v:Nat) 4).toNat).toNat:Int)=hexD ((v:Nat)/16:Int):=by decide
set_option maxRecDepth 100000 in
theorem hx_and:∀v<256,((HEX.get! (iAnd .u8 (v:Nat) 15).toNat).toNat:Int)=hexD ((v:Nat)%16:Int):=by decide
set_option maxRecDepth 100000 in
theorem hx_shrR:∀v<256,0<=iShr .u8 (v:Nat) 4/\iShr .u8 (v:Nat) 4<16:=by decide
set_option maxRecDepth 100000 in
theorem hx_andR:∀v<256,0<=iAnd .u8 (v:Nat) 15/\iAnd .u8 (v:Nat) 15<16:=by decide
theorem dgx{i:Int}(h0:0<=i)(h1:i<16):HEX.extract i.toNat (i+1).toNat=strOf [hexD i]:=by
 obtain⟨k,rfl⟩:∃k:Nat,i=k:=⟨i.toNat,by omega⟩;have:=dg16 k (by omega);rw[show((k:Int)).toNat=k from rfl,show((k:Int)+1).toNat=k+1 by omega,this]
end Go.Lp

namespace Go.Lp
open Go.Sx
variable[Env]
abbrev w64(n:Int):Int:=IntKind.i64.wrap n
theorem wr{n:Int}(h:0<=n/\n<=9223372036854775807):w64 n=n:=by
 unfold w64;simp[IntKind.wrap,IntKind.bits,IntKind.signed];omega
section
variable{α σ:Type}
end
end Go.Lp

namespace Go.Lp
open Go.Sx
variable[Env]
section
variable{α β:Type}
theorem drop_at(d:α){xs:List α}{i:Nat}(h:i<xs.length):xs.drop i=xs.getD i d::xs.drop (i+1):=by
 rw[List.drop_eq_getElem_cons h];simp[List.getD_eq_getElem?_getD,h]
section
variable(x:Nat)(d:α)(bad:List α->α->Bool)(step:List α->β->α->β)(c:Int)(ok:List α->β->Nat->Prop)
variable(hok:∀xs b i,i<xs.length->ok xs b i->ok xs (step xs b (xs.getD i d)) (i+1))
include hok
end
section
variable(x:Nat)(d:α)(bad:List α->α->Bool)(step:List α->β->α->β)(c:Int)(ok:List α->β->Nat->Prop)
variable(hok:∀xs b i,i<xs.length->ok xs b i->ok xs (step xs b (xs.getD i d)) (i+1))
include hok
end
variable{σ:Type}
end
end Go.Lp

namespace Go.Lp
open Go.Sx
variable[Env]
theorem runL_conj{γ δ:Type}{F:γ->Ex×γ}{F':δ->Ex×δ}{m':δ->Nat}{I':δ->Prop}(φ:γ->δ)(ψ:δ->γ)(h2:∀d,φ (ψ d)=d)(hF:∀d,I' d->F (ψ d)=((F' d).1,ψ (F' d).2))(hg:Goes F' m' I'):∀(n:Nat)(d:δ),I' d->runL F n (ψ d)=((runL F' n d).1,ψ (runL F' n d).2)
 |0,d,_=>by simp[runL]
 |n+1,d,hi=>by
  simp only[runL];have h:=hF d hi;have hk:=hg d hi;rw[h];generalize F' d=x at hk;obtain⟨e,d'⟩:=x;cases e with
  |normal=>
   simp only;rw[runL_conj φ ψ h2 hF hg n d' (hk rfl).1]
  |_=>rfl
theorem loopF_conj{γ δ:Type}{F:γ->Ex×γ}{F':δ->Ex×δ}{m:γ->Nat}{m':δ->Nat}{I':δ->Prop}(φ:γ->δ)(ψ:δ->γ)(h1:∀g,ψ (φ g)=g)(h2:∀d,φ (ψ d)=d)(hm:∀d,m (ψ d)=m' d)(hF:∀d,I' d->F (ψ d)=((F' d).1,ψ (F' d).2))(hg:Goes F' m' I')(g:γ)(hi:I' (φ g)):
  loopF F m g=((loopF F' m' (φ g)).1,ψ (loopF F' m' (φ g)).2):=by
 have e:=hm (φ g);have r:=runL_conj φ ψ h2 hF hg (m' (φ g)+1) (φ g) hi;rw[h1]at e r;rw[q7c,q7c,e];exact r
theorem goes_conj{γ δ:Type}{F:γ->Ex×γ}{F':δ->Ex×δ}{m:γ->Nat}{m':δ->Nat}{I:γ->Prop}{I':δ->Prop}(φ:γ->δ)(ψ:δ->γ)(h1:∀g,ψ (φ g)=g)(hm:∀d,m (ψ d)=m' d)(hI:∀d,I (ψ d)↔I' d)(hF:∀d,I' d->F (ψ d)=((F' d).1,ψ (F' d).2))(h:Goes F' m' I'):Goes F m I:=by
 intro g hi hn;rw[<-h1 g]at hi hn ⊢;have hi':=(hI _).1 hi;rw[hF _ hi']at hn ⊢;rw[hI];rw[hm,hm];exact h _ hi' hn
section
variable{α β C:Type}
def ixF(x:Nat)(lim:C->Int)(xs:C->List α)(d:α)(step:C->β->Int->α->Ex×β)(g:Int×C×β):Ex×(Int×C×β):=
 bif decide (g.1<lim g.2.1)then
  match step g.2.1 g.2.2 g.1 ((xs g.2.1).getD g.1.toNat d)with
  |(.normal,b)=>(.normal,w64 (g.1+1),g.2.1,b)
  |(e,b)=>(e,g.1,g.2.1,b)
 else(.exit x,g)
def ixJ(lim:C->Int)(xs:C->List α)(P:C->β->Int->Prop)(g:Int×C×β):Prop:=lim g.2.1=((xs g.2.1).length:Int)/\(xs g.2.1).length<=maxLen/\0<=g.1/\g.1<=((xs g.2.1).length:Int)/\P g.2.1 g.2.2 g.1
def ixI(lim:C->Int)(xs:C->List α)(P:C->β->Int->Prop)(g:Int×C×β):List Prop:=[ixJ lim xs P g]
def ixM(lim:C->Int)(g:Int×C×β):Nat:=(lim g.2.1-g.1).toNat
def scan(x:Nat)(step:β->Int->α->Ex×β):Int->List α->β->Ex×Int×β
 |i,[],b=>(.exit x,i,b)
 |i,a::l,b=>match step b i a with
  |(.normal,b')=>scan x step (i+1) l b'
  |(e,b')=>(e,i,b')
def ixP(step:C->β->Int->α->Ex×β)(xs:C->List α)(P:C->β->Int->Prop):Prop:=∀c b(i:Nat)a,P c b i->(xs c)[i]?=some a->(step c b i a).1=.normal->P c (step c b i a).2 (i+1)
variable{x:Nat}{lim:C->Int}{xs:C->List α}{d:α}{step:C->β->Int->α->Ex×β}{P:C->β->Int->Prop}
theorem ix_goes(hP:ixP step xs P):Goes (ixF x lim xs d step) (ixM lim) λg=>allP (ixI lim xs P g):=by
 rintro⟨i,c,b⟩ hi hn;obtain⟨h1,h2,h3,h4,h5⟩:=hi _ (List.mem_cons_self ..);simp only at h1 h2 h3 h4 h5;unfold ixF at hn ⊢;simp only at hn ⊢;unfold maxLen at h2;by_cases hlt:i<lim c
 .simp only[hlt,decide_true,cond_true]at hn ⊢;have hlt':i.toNat<(xs c).length:=by omega
  have hp:=hP c b i.toNat ((xs c).getD i.toNat d) (by rw[show(i.toNat:Int)=i by omega];exact h5) (by rw[List.getD_eq_getElem?_getD,List.getElem?_eq_getElem hlt'];rfl);rw[show(i.toNat:Int)=i by omega]at hp;generalize step c b i ((xs c).getD i.toNat d)=s at hn hp ⊢;obtain⟨e,b'⟩:=s;cases e with
  |normal=>
   rw[wr (n:=i+1) (by omega)];refine⟨λq hq=>?_,?_⟩
   .simp only[ixI,List.mem_singleton]at hq;subst hq;exact⟨h1,by unfold maxLen;exact h2,by show(0:Int)<=i+1;omega,by show i+1<=((xs c).length:Int);omega,hp rfl⟩
   .simp only[ixM];omega
  |_=>cases hn
 .simp only[hlt,decide_false,cond_false]at hn;cases hn
theorem ix_run(hP:ixP step xs P):∀g:Int×C×β,allP (ixI lim xs P g)->
  loopF (ixF x lim xs d step) (ixM lim) g=((scan x (step g.2.1) g.1 ((xs g.2.1).drop g.1.toNat) g.2.2).1,(scan x (step g.2.1) g.1 ((xs g.2.1).drop g.1.toNat) g.2.2).2.1,g.2.1,(scan x (step g.2.1) g.1 ((xs g.2.1).drop g.1.toNat) g.2.2).2.2):=by
 refine q1m (ix_goes (x:=x) (d:=d) hP) (Q:=λg r=>r=((scan x (step g.2.1) g.1 ((xs g.2.1).drop g.1.toNat) g.2.2).1,(scan x (step g.2.1) g.1 ((xs g.2.1).drop g.1.toNat) g.2.2).2.1,g.2.1,(scan x (step g.2.1) g.1 ((xs g.2.1).drop g.1.toNat) g.2.2).2.2)) ?_ ?_
 .rintro⟨i,c,b⟩ hi hn;obtain⟨h1,h2,h3,h4,h5⟩:=hi _ (List.mem_cons_self ..);simp only at h1 h2 h3 h4 h5;unfold ixF at hn ⊢;simp only at hn ⊢;by_cases hlt:i<lim c
  .simp only[hlt,decide_true,cond_true]at hn ⊢;have hlt':i.toNat<(xs c).length:=by omega
   rw[drop_at d hlt'];simp only[scan];generalize step c b i ((xs c).getD i.toNat d)=s at hn ⊢;obtain⟨e,b'⟩:=s;cases e with
   |normal=>exact absurd rfl hn
   |_=>rfl
  .simp only[hlt,decide_false,cond_false];rw[List.drop_eq_nil_of_le (by omega)];rfl
 .rintro⟨i,c,b⟩ g' r hi he hi' _ hq;obtain⟨h1,h2,h3,h4,h5⟩:=hi _ (List.mem_cons_self ..);simp only at h1 h2 h3 h4 h5;unfold maxLen at h2;unfold ixF at he;simp only at he;by_cases hlt:i<lim c
  .simp only[hlt,decide_true,cond_true]at he;have hlt':i.toNat<(xs c).length:=by omega
   rw[hq];simp only;rw[drop_at d hlt'];simp only[scan];generalize step c b i ((xs c).getD i.toNat d)=s at he ⊢;obtain⟨e,b'⟩:=s;cases e with
   |normal=>
    rw[wr (n:=i+1) (by omega)]at he;simp only[Prod.mk.injEq,true_and]at he;subst he;simp only;rw[show(i+1).toNat=i.toNat+1 by omega]
   |_=>simp at he
  .simp only[hlt,decide_false,cond_false]at he;cases he
theorem ix_run0(hP:ixP step xs P)(c:C)(b:β)(h1:lim c=((xs c).length:Int))(h2:(xs c).length<=maxLen)(h3:P c b 0):
  loopF (ixF x lim xs d step) (ixM lim) (0,c,b)=((scan x (step c) 0 (xs c) b).1,(scan x (step c) 0 (xs c) b).2.1,c,(scan x (step c) 0 (xs c) b).2.2):=by
 have:=ix_run (x:=x) (lim:=lim) (d:=d) hP (0,c,b) (λq hq=>by
  simp only[ixI,List.mem_singleton]at hq;subst hq;exact⟨h1,h2,Int.le_refl _,by show(0:Int)<=((xs c).length:Int);omega,h3⟩)
 simpa using this
theorem ixJ0{c:C}{b:β}(h1:lim c=((xs c).length:Int))(h2:(xs c).length<=maxLen)(h3:P c b 0):ixJ lim xs P (0,c,b):=⟨h1,h2,Int.le_refl _,by show(0:Int)<=((xs c).length:Int);omega,h3⟩
theorem ix_inv0{c:C}{b:β}(h1:lim c=((xs c).length:Int))(h2:(xs c).length<=maxLen)(h3:P c b 0):allP (ixI lim xs P (0,c,b)):=λq hq=>by
 simp only[ixI,List.mem_singleton]at hq;subst hq;exact⟨h1,h2,Int.le_refl _,by show(0:Int)<=((xs c).length:Int);omega,h3⟩
section
variable{γ:Type}{F:γ->Ex×γ}{φ:γ->Int×C×β}{ψ:Int×C×β->γ}
theorem q09(h1:∀g,ψ (φ g)=g)(h2:∀d,φ (ψ d)=d){d0:α}(hF:∀d,allP (ixI lim xs P d)->F (ψ d)=((ixF x lim xs d0 step d).1,ψ (ixF x lim xs d0 step d).2))(hP:ixP step xs P):Goes F (λg=>ixM lim (φ g)) λg=>allP (ixI lim xs P (φ g)):=
 goes_conj (m':=ixM lim) (I':=λd=>allP (ixI lim xs P d)) φ ψ h1 (λd=>by rw[h2]) (λd=>by rw[h2]) hF (ix_goes hP)
theorem q0e(h1:∀g,ψ (φ g)=g)(h2:∀d,φ (ψ d)=d){d0:α}(hF:∀d,allP (ixI lim xs P d)->F (ψ d)=((ixF x lim xs d0 step d).1,ψ (ixF x lim xs d0 step d).2))(hP:ixP step xs P)(c:C)(b:β)(k1:lim c=((xs c).length:Int))(k2:(xs c).length<=maxLen)(k3:P c b 0):
  loopF F (λg=>ixM lim (φ g)) (ψ (0,c,b))=((scan x (step c) 0 (xs c) b).1,ψ ((scan x (step c) 0 (xs c) b).2.1,c,(scan x (step c) 0 (xs c) b).2.2)):=by
 have h:=loopF_conj (F:=F) (F':=ixF x lim xs d0 step) (m:=λg=>ixM lim (φ g)) (m':=ixM lim) (I':=λd=>allP (ixI lim xs P d)) φ ψ h1 h2 (λd=>by rw[h2]) hF (ix_goes hP) (ψ (0,c,b)) (by rw[h2];exact ix_inv0 k1 k2 k3);rw[h,h2,ix_run0 hP c b k1 k2 k3]
end
section
variable{st:β->Int->α->Ex×β}
theorem scan_fold{f:β->α->β}(h:∀b i a,st b i a=(.normal,f b a)):∀(l:List α)(i:Int)(b:β),scan x st i l b=(.exit x,i+l.length,l.foldl f b)
 | [],i,b=>by simp[scan]
 |a::l,i,b=>by
  simp only[scan,h,List.foldl_cons,List.length_cons];rw[scan_fold h l];simp;omega
end
end
theorem q2s{α:Type}(A:El α)(out:List α)(y:α):A.lst (min (out.length+1) out.length) (A.els out)++List.map (λ_=>y) (List.range (out.length+1-out.length))=out++[y]:=by
 rw[Nat.min_eq_right (Nat.le_succ _),A.lst_els,Nat.add_sub_cancel_left];rfl
end Go.Lp

namespace Go.Lp
open Go.Sx
variable[Env]
section
variable{α β:Type}
theorem search'{x:Nat}{st:β->Int->α->Ex×β}{p:α->Bool}{r:Int->α->β->β}(h:∀b i a,st b i a=bif p a then(.ret,r i a b)else(.normal,b)):∀(l:List α)(i:Int)(b:β),
  (l.any p=true/\∃j,i<=j/\∃a,a∈l/\p a=true/\scan x st i l b=(.ret,j,r j a b))\/(l.any p=false/\scan x st i l b=(.exit x,i+(l.length:Int),b))
 | [],i,b=>.inr ⟨rfl,by simp[scan]⟩
 |a::l,i,b=>by
  simp only[scan,h];cases hp:p a with
  |true=>exact .inl ⟨by simp[hp],i,Int.le_refl _,a,List.mem_cons_self ..,hp,rfl⟩
  |false=>
   simp only[cond_false];rcases search' h l (i+1) b with ⟨h1,j,hj,a',h2,h3,h4⟩|⟨h1,h2⟩
   .exact .inl ⟨by simp[h1],j,by omega,a',List.mem_cons_of_mem _ h2,h3,h4⟩
   .refine .inr ⟨by simp[hp,h1],?_⟩;rw[h2];simp;omega
theorem search{x:Nat}{st:β->Int->α->Ex×β}{p:α->Bool}{r:Int->α->β->β}(h:∀b i a,st b i a=bif p a then(.ret,r i a b)else(.normal,b))(l:List α)(b:β):
  (l.any p=true/\∃j,0<=j/\∃a,a∈l/\p a=true/\scan x st 0 l b=(.ret,j,r j a b))\/(l.any p=false/\scan x st 0 l b=(.exit x,(l.length:Int),b)):=by
 have:=search' (x:=x) h l 0 b
 rwa [Int.zero_add]at this
theorem searchI'{x:Nat}{st:β->Int->α->Ex×β}{p:Int->α->Bool}{r:Int->α->β->β}(h:∀b i a,st b i a=bif p i a then(.ret,r i a b)else(.normal,b)):∀(l:List α)(i:Int)(b:β),
  (∃(n:Nat)(a:α),l[n]?=some a/\p (i+n) a=true/\scan x st i l b=(.ret,i+n,r (i+n) a b))\/((∀(n:Nat)(a:α),l[n]?=some a->p (i+n) a=false)/\scan x st i l b=(.exit x,i+(l.length:Int),b))
 | [],i,b=>.inr ⟨λn a h=>by simp at h,by simp[scan]⟩
 |a::l,i,b=>by
  simp only[scan,h];cases hp:p i a with
  |true=>exact .inl ⟨0,a,rfl,by simpa using hp,by simp⟩
  |false=>
   simp only[cond_false];rcases searchI' h l (i+1) b with ⟨n,a',h2,h3,h4⟩|⟨h1,h2⟩
   .exact .inl ⟨n+1,a',h2,by rw[show i+((n+1:Nat):Int)=i+1+n by omega];exact h3,by rw[show i+((n+1:Nat):Int)=i+1+n by omega];exact h4⟩
   .refine .inr ⟨λn a' hn=>?_,?_⟩
    .cases n with
     |zero=>injection hn with hn;subst hn;simpa using hp
     |succ n=>rw[show i+((n+1:Nat):Int)=i+1+n by omega];exact h1 n a' hn
    .rw[h2];simp;omega
theorem searchI{x:Nat}{st:β->Int->α->Ex×β}{p:Int->α->Bool}{r:Int->α->β->β}(h:∀b i a,st b i a=bif p i a then(.ret,r i a b)else(.normal,b))(l:List α)(b:β):
  (∃(n:Nat)(a:α),l[n]?=some a/\p n a=true/\scan x st 0 l b=(.ret,(n:Int),r n a b))\/((∀(n:Nat)(a:α),l[n]?=some a->p n a=false)/\scan x st 0 l b=(.exit x,(l.length:Int),b)):=by
 have:=searchI' (x:=x) h l 0 b;simpa only [Int.zero_add]using this
theorem qb5{α β:Type}{a:List α}{b:List β}(h:((a.length:Int)!=(b.length:Int))=false):a.length=b.length:=by
 have:(a.length:Int)=(b.length:Int):=by simpa using h
 omega
end
end Go.Lp

namespace Go.Sx
open Go.RowKit Go.ChangeShapes Go.WideShapes Go.ChangeAt Go.Deep
variable[Env]
theorem add_none(b o n:Nat):(⟨b,o,none⟩:Addr).add n=⟨b,o+n,none⟩:=by
 by_cases h:n=0
 .subst h;simp[Addr.add]
 .simp[Addr.add,h]
abbrev wh(w:World):Rh:=emp λb=>w.heap[b]?
def Rd{α:Type}(P:Program)(t:TypeId)(A:El α)(Q:α->Prop):Prop:=
 ∀(H:Type)(enc:TypeId×Value->H)(w:World)(base:Nat)(spare:Nat->Bool)(held:Bool)(fuel:Nat)(cs:List Value)(x:DataW H×List MemPlace),
  DataW.trod enc P w base spare held fuel t cs=some x->∃a,Q a/\SV.fits 0 (wh w) (A.cells a) cs
section
variable{H:Type}(enc:TypeId×Value->H)(P:Program)(w:World)(base:Nat)(spare:Nat->Bool)(held:Bool)(fuel:Nat)
def Cut:List TypeId->List Value->Prop
 | [],cs=>cs=[]
 |t::ts,cs=>(∃x,DataW.trod enc P w base spare held fuel t (cs.take (P.cellsOf t))=some x)/\Cut ts (cs.drop (P.cellsOf t))
def consec:Nat->List (Nat×TypeId)->Nat->Bool
 |o,[],n=>Nat.beq o n
 |o,p::r,n=>Nat.beq p.1 o&&consec (o+P.cellsOf p.2) r n
theorem cut_of(cs:List Value):∀(fs:List (Nat×TypeId))(o:Nat),consec P o fs cs.length=true->(∀p∈fs,∃x,DataW.trod enc P w base spare held fuel p.2 ((cs.drop p.1).take (P.cellsOf p.2))=some x)->Cut enc P w base spare held fuel (fs.map (·.2)) (cs.drop o)
 | [],o,hc,_=>by
  have:=q02 hc;show cs.drop o=[];exact List.drop_eq_nil_of_le (by omega)
 |p::r,o,hc,h=>by
  simp only[consec,Bool.and_eq_true]at hc;have h0:=q02 hc.1;refine⟨?_,?_⟩
  .have:=h p (List.mem_cons_self ..)
   rwa [h0]at this
  .have:=cut_of cs r (o+P.cellsOf p.2) hc.2 λq hq=>h q (List.mem_cons_of_mem _ hq)
   rwa [List.drop_drop]
end
def Rds{α:Type}(P:Program)(ts:List TypeId)(A:El α)(Q:α->Prop):Prop:=
 ∀(H:Type)(enc:TypeId×Value->H)(w:World)(base:Nat)(spare:Nat->Bool)(held:Bool)(fuel:Nat)(cs:List Value),
  Cut enc P w base spare held fuel ts cs->∃a,Q a/\SV.fits 0 (wh w) (A.cells a) cs
section
variable{P:Program}{t e:TypeId}{α β:Type}{A:El α}{B:El β}{Q:α->Prop}{Q':β->Prop}
theorem q77(h:Rd P t A Q):Rds P [t] A Q:=λH enc w base spare held fuel cs hc=>by
 obtain⟨⟨x,hx⟩,hd⟩:=hc;have hd:cs.drop (P.cellsOf t)=[]:=hd;have h2:=List.take_append_drop (P.cellsOf t) cs;rw[hd,List.append_nil]at h2;rw[h2]at hx;exact h H enc w base spare held fuel cs x hx
theorem q15{ts:List TypeId}(h:Rd P t A Q)(h':Rds P ts B Q'):Rds P (t::ts) (.pair A B) (λa=>Q a.1/\Q' a.2):=λH enc w base spare held fuel cs hc=>by
 obtain⟨⟨x,hx⟩,hd⟩:=hc;obtain⟨a,qa,fa⟩:=h H enc w base spare held fuel _ x hx;obtain⟨b,qb,fb⟩:=h' H enc w base spare held fuel _ hd;refine⟨(a,b),⟨qa,qb⟩,?_⟩;have:=q0j fa fb
 rwa [List.take_append_drop]at this
theorem rd_iso(h:Rd P t A Q)(f:α->β)(g:β->α)(hfg:∀b,f (g b)=b)(hgf:∀a,g (f a)=a):Rd P t (A.iso f g hfg hgf) (λb=>Q (g b)):=λH enc w base spare held fuel cs x hx=>by
 obtain⟨a,qa,fa⟩:=h H enc w base spare held fuel cs x hx;refine⟨f a,(show Q (g (f a)) by rwa [hgf]),?_⟩;show SV.fits 0 _ (A.cells (g (f a))) cs
 rwa [hgf]
theorem rd_int{k:IntKind}(ht:P.underlying t=some (.int k)):Rd P t (eInt k) (λn=>(Lit.int k n).wf=true):=λH enc w base spare held fuel cs x hx=>by
 obtain⟨n,rfl,_,hw⟩:=DataW.trod_int ht hx;exact⟨n,hw,by simp[eInt,El.one',dInt,SV.fits,SV.fit]⟩
theorem q4c{fs:Array Field}{ts:List TypeId}(ht:P.underlying t=some (.struct fs))(hts:fs.toList.map (·.type)=ts)(hc:consec P 0 (fs.toList.map λf=>(f.offset,f.type)) (P.cellsOf t)=true)(h:Rds P ts A Q):Rd P t A Q:=λH enc w base spare held fuel cs x hx=>by
 obtain⟨xs,n,rfl,_,hl,hxl,hf⟩:=DataW.trod_struct ht hx;rw[<-hl]at hc
 have:=cut_of enc P w base spare held n cs _ 0 hc λp hp=>by
  obtain⟨f,hfm,rfl⟩:=List.mem_map.1 hp;obtain⟨i,hi,rfl⟩:=List.getElem_of_mem hfm;have hi':i<fs.size:=by simpa using hi
  have:=hf i fs[i] (by simp[hi']);exact⟨xs[i]'(by omega),by simpa [hxl,hi']using this⟩
 rw[List.map_map,List.drop_zero]at this;refine h H enc w base spare held n cs ?_;rw[<-hts];exact this
end
def RdV{α:Type}(P:Program)(t:TypeId)(D:Dv α)(Q:α->Prop):Prop:=
 ∀(H:Type)(enc:TypeId×Value->H)(w:World)(base:Nat)(spare:Nat->Bool)(held:Bool)(r:Reach)(b0:Nat)(v:Value)(d:DataW H)(ps:List MemPlace),
  Value.okWide P w r b0 t v->DataW.Trod enc P w base spare held t v d ps->∃a,Q a/\(D.enc a).fit 0 (wh w) v
section
variable{P:Program}{t e:TypeId}{α β:Type}{A:El α}{Q:α->Prop}
theorem rdv_int{k:IntKind}(ht:P.underlying t=some (.int k)):RdV P t (dInt k) (λn=>(Lit.int k n).wf=true):=λH enc w base spare held r b0 v d ps hv hx=>by
 obtain⟨n,rfl,_,_,hw⟩:=open_int ht hv hx;exact⟨n,hw,by simp[dInt,SV.fit]⟩
theorem rdv_struct{fs:Array Field}(ht:P.underlying t=some (.struct fs))(h:Rd P t A Q):RdV P t (.agg A) Q:=λH enc w base spare held r b0 v d ps hv hx=>by
 obtain⟨cs,rfl,_⟩:=okWide_struct ht hv;obtain⟨fuel,hf⟩:=hx;obtain⟨a,qa,fa⟩:=h H enc w base spare held fuel _ _ hf;exact⟨a,qa,cs.toList,by simp,by simpa [Value.cells]using fa⟩
end
end Go.Sx

namespace Go.Sx
open Go.RowKit
variable[Env]
section
variable{γ:Type}{F:List Nat->γ->Ex×γ}{m:γ->Nat}{Inv:γ->Prop}
end
section
variable{P:Program}{Γ:Gam}{Λ:Lam}{N:Nat}{γ:Type}
end
end Go.Sx

namespace Go.Sx
open Go.RowKit
variable[Env]
section
variable{N:Nat}{α β:Type}
def El.ent(K:El α)(V:El β):El (α×β×Int):=El.pair K (El.pair V (eInt .i64))
def LP.mit(N id i:Nat):LP N (List Int×Nat) where
 R:=0
 read σ:=match σ.h.get id with
  | .mit j since sel sn last _=>bif Nat.beq j i&&Nat.blt i N then some (((eInt .i64).lstE sn sel,since),(last=since)::(eInt .i64).okE sn sel,[])else none
  |_=>none
 ents _ _:=[]
 blks _ _:=[]
 objs _ g:=[(id,.mit i g.2 (.fn ((eInt .i64).els g.1)) g.1.length g.2 none)]
 es:=[]
 os:=[id]
 eseq _ _:=rfl
 oseq _ _:=rfl
 blen _ _:=rfl
 ilen σ g ps ids h:=by
  split at h
  .rename_i j since sel sn last _ _;cases hb:Nat.beq j i&&Nat.blt i N with
   |false=>rw[hb]at h;cases h
   |true=>
    rw[hb]at h;simp only[cond_true,Option.some.injEq,Prod.mk.injEq]at h;rw[<-h.2.2];rfl
  .cases h
 ok k0 σ g ps ids h hp:=by
  split at h
  .rename_i j since sel sn last cu hg;cases hb:Nat.beq j i&&Nat.blt i N with
   |false=>rw[hb]at h;cases h
   |true=>
    rw[hb]at h;simp only[Bool.and_eq_true]at hb;have e1:=q02 hb.1;have hlt:i<N:=Nat.le_of_ble_eq_true hb.2;subst e1;simp only[cond_true,Option.some.injEq,Prod.mk.injEq]at h;obtain⟨rfl,rfl,rfl⟩:=h;have hls:last=since:=hp _ (List.mem_cons_self ..);subst hls;have hk:∀e,e<sn->(eInt .i64).Ok (sel e):=El.okE_ok _ sn sel λp h=>hp p (List.mem_cons_of_mem _ h);rw[El.lstE_eq];refine⟨λk so h=>by simp at h,λid' so h=>?_,λj s h=>by simp at h⟩;simp only[List.mem_singleton,Prod.mk.injEq]at h;obtain⟨rfl,rfl⟩:=h;rw[hg];refine⟨ow_na λ_ h=>h,λn m' ρ ρ' L o hr hf=>?_⟩;obtain⟨f1,f2,f3,seen,f4,f5,f6,_⟩:=hf;rw[El.lst_length];refine⟨f1,f2,by have:=hr.le;omega,seen,by rw[hr.ag.1 j hlt];exact f4,f5,λe x hx=>?_,λs hs=>(by cases hs)⟩;have he:e<sn:=by rw[<-f5];exact(Array.getElem?_eq_some_iff.1 hx).1
    obtain⟨a,ps,d1,d2⟩:=hk e he;have:=(eInt .i64).cl a n m' ρ ρ' _ hr.ag.2.1 ((eInt .i64).ok _ _ _ _ _ _ d1 d2 (f6 e x hx));show SV.fits m' ρ' ((eInt .i64).cells (((eInt .i64).lst sn sel).getD e (eInt .i64).dflt)) _;rw[El.lst_getD _ _ _ _ he];simpa only [El.get,d1]using this
  .cases h
def LP.mif(N id:Nat)(ka va:Bool)(K:El α)(V:El β):LP N (List (α×β)) where
 R:=0
 read σ:=match σ.h.get id with
  | .mif ks vs ka' va' rem cnt _=>bif Nat.beq ks K.sz&&(Nat.beq vs V.sz&&(ka==ka'&&va==va'))then some ((El.pair K V).lstE cnt rem,(El.pair K V).okE cnt rem,[])else none
  |_=>none
 ents _ _:=[]
 blks _ _:=[]
 objs _ g:=[(id,.mif K.sz V.sz ka va (.fn ((El.pair K V).els g)) g.length none)]
 es:=[]
 os:=[id]
 eseq _ _:=rfl
 oseq _ _:=rfl
 blen _ _:=rfl
 ilen σ g ps ids h:=by
  split at h
  .rename_i ks vs ka' va' rem cnt _ _;cases hb:Nat.beq ks K.sz&&(Nat.beq vs V.sz&&(ka==ka'&&va==va'))with
   |false=>rw[hb]at h;cases h
   |true=>
    rw[hb]at h;simp only[cond_true,Option.some.injEq,Prod.mk.injEq]at h;rw[<-h.2.2];rfl
  .cases h
 ok k0 σ g ps ids h hp:=by
  split at h
  .rename_i ks vs ka' va' rem cnt cu hg;cases hb:Nat.beq ks K.sz&&(Nat.beq vs V.sz&&(ka==ka'&&va==va'))with
   |false=>rw[hb]at h;cases h
   |true=>
    rw[hb]at h;simp only[Bool.and_eq_true,beq_iff_eq]at hb;obtain⟨b1,b2,b3,b4⟩:=hb;have e1:=q02 b1;have e2:=q02 b2;subst e1;subst e2;subst b3;subst b4;simp only[cond_true,Option.some.injEq,Prod.mk.injEq]at h;obtain⟨rfl,rfl,rfl⟩:=h;have hk:∀e,e<cnt->(El.pair K V).Ok (rem e):=El.okE_ok _ cnt rem hp;rw[El.lstE_eq];refine⟨λk so h=>by simp at h,λid' so h=>?_,λj s h=>by simp at h⟩;simp only[List.mem_singleton,Prod.mk.injEq]at h;obtain⟨rfl,rfl⟩:=h;rw[hg];refine⟨ow_na λ_ h=>h,λn m' ρ ρ' L o hr hf=>?_⟩;obtain⟨f1,f2,f3⟩:=hf;rw[El.lst_length];refine⟨f1,f2,?_⟩;rcases f3 with f3|⟨b,es,clk,seen,k1,k2,k3,k4,k5,_⟩
    .exact .inl ⟨f3.1,f3.2.1,rfl⟩
    .refine .inr ⟨b,es,clk,seen,k1,hr.ag.2.1 _ _ k2,k3,k4,λe he=>?_,λc hc=>(by cases hc)⟩;obtain⟨y,kc,vc,q1,q2,q3⟩:=k5 e he;obtain⟨a,ps,d1,d2⟩:=hk e he;refine⟨y,kc,vc,q1,?_,q3⟩;have:=(El.pair K V).cl a n m' ρ ρ' _ hr.ag.2.1 ((El.pair K V).ok _ _ _ _ _ _ d1 d2 q2);show SV.fits m' ρ' ((El.pair K V).cells (((El.pair K V).lst cnt rem).getD e (El.pair K V).dflt)) _;rw[El.lst_getD _ _ _ _ he];simpa only [El.get,d1]using this
  .cases h
end
end Go.Sx

namespace Go.Sx
open Go.RowKit
variable[Env]
def FzR(n:Nat)(h:SH)(fzs:List Nat)(ρ ρ':Rh):Prop:=∀j∈fzs,∃o,(h.get j).fit n ρ (ρ j) o/\((h.get j).own (ρ j)->ρ'.mem (ρ j).blk=o)
theorem FzR.left{n:Nat}{h:SH}{a b:List Nat}{ρ ρ':Rh}(hz:FzR n h (a++b) ρ ρ'):FzR n h a ρ ρ':=λj hj=>hz j (List.mem_append_left _ hj)
theorem FzR.right{n:Nat}{h:SH}{a b:List Nat}{ρ ρ':Rh}(hz:FzR n h (a++b) ρ ρ'):FzR n h b ρ ρ':=λj hj=>hz j (List.mem_append_right _ hj)
structure CRel(N k0:Nat)(h:SH)(ids:List (Option Nat))(fzs:List Nat)(l cs:List SV)(blks:List SO):Prop where
 blk:∀(k:Nat)(so:SO),blks[k]?=some so->(ids[k]?=some none/\NilSO so)\/∃j:Nat,ids[k]?=some (some j)/\Ow so (h.get j)/\∀(n m:Nat)(ρ ρ':Rh)(L:Lc)(o:Option Obj),Rn N k0 ids m ρ ρ'->FzR n h fzs ρ ρ'->(h.get j).fit n ρ L o->so.fit m ρ' L o
 fit:∀(n m:Nat)(ρ ρ':Rh)(x:List Value),Rn N k0 ids m ρ ρ'->FzR n h fzs ρ ρ'->SV.fits n ρ l x->SV.fits m ρ' cs x
def OwE(so' so:SO):Prop:=(∀L,so'.own L↔so.own L)/\∀a,so'=.abs a↔so=.abs a
theorem owE_rfl{so:SO}:OwE so so:=⟨λ_=>Iff.rfl,λ_=>Iff.rfl⟩
theorem owE_na{so' so:SO}(h:∀L,so'.own L↔so.own L)(h1:∀a,so'≠.abs a:=by intro _ h;cases h)(h2:∀a,so≠.abs a:=by intro _ h;cases h):OwE so' so:=⟨h,λa=>⟨λe=>absurd e (h1 a),λe=>absurd e (h2 a)⟩⟩
def ShfB(n m:Nat)(ρ ρ':Rh)(bs bs':List SO):Prop:=∀(k:Nat)(so:SO),bs[k]?=some so->∃so',bs'[k]?=some so'/\OwE so' so/\∀L o,so.fit n ρ L o->so'.fit m ρ' L o
structure CT(κ:Type)where
 R:Nat
 sz:Nat
 cells:Nat->κ->List SV
 blks:Nat->κ->List SO
 read:SH->List SV->Option (κ×List Prop×List (Option Nat)×List Nat)
 put:Nat->κ->Tr (List SV×List SO)
 blen:∀b g,(blks b g).length=R
 clen:∀b g,(cells b g).length=sz
 ilen:∀h l g ps ids fzs,read h l=some (g,ps,ids,fzs)->ids.length=R
 ok:∀N k0 h l g ps ids fzs,read h l=some (g,ps,ids,fzs)->(∀p∈ps,p)->CRel N k0 h ids fzs l (cells (N+k0) g) (blks (N+k0) g)
 shf:∀(b b':Nat)(g:κ)(n m:Nat)(ρ ρ':Rh),(∀c o,ρ.mem c=some o->ρ'.mem c=some o)->(∀k,k<R->ρ' (b'+k)=ρ (b+k))->b'+R<=m->(∀x,SV.fits n ρ (cells b g) x->SV.fits m ρ' (cells b' g) x)/\ShfB n m ρ ρ' (blks b g) (blks b' g)
 putOk:∀b g(K:List SV×List SO->Prop),(put b g).Holds K->K (cells b g,blks b g)
theorem q41{n m:Nat}{ρ ρ':Rh}:ShfB n m ρ ρ' [] []:=λk so h=>by simp at h
theorem shfB_app{n m:Nat}{ρ ρ':Rh}{a a' b b':List SO}(hl:a.length=a'.length)(h1:ShfB n m ρ ρ' a a')(h2:ShfB n m ρ ρ' b b'):ShfB n m ρ ρ' (a++b) (a'++b'):=λk so h=>by
 by_cases hk:k<a.length
 .rw[List.getElem?_append_left hk]at h;rw[List.getElem?_append_left (by omega)];exact h1 k so h
 .rw[List.getElem?_append_right (by omega)]at h;rw[List.getElem?_append_right (by omega),<-hl];exact h2 _ so h
theorem shfB_cons{n m:Nat}{ρ ρ':Rh}{a a':SO}{b b':List SO}(h0:OwE a' a)(h1:∀L o,a.fit n ρ L o->a'.fit m ρ' L o)(h2:ShfB n m ρ ρ' b b'):ShfB n m ρ ρ' (a::b) (a'::b'):=λk so h=>by
 cases k with
 |zero=>
  simp only[List.getElem?_cons_zero,Option.some.injEq]at h;subst h;exact⟨a',rfl,h0,h1⟩
 |succ k=>exact h2 k so (by simpa using h)
section
variable{κ α β:Type}
def CT.pl(A:El α):CT α where
 R:=0
 sz:=A.sz
 cells _ a:=A.cells a
 blks _ _:=[]
 read _ l:=match A.decs l with
  |some (a,ps)=>some (a,ps,[],[])
  |none=>none
 put _ a:=.ret (A.cells a,[])
 blen _ _:=rfl
 clen _ a:=A.len a
 ilen h l g ps ids fzs hr:=by
  split at hr
  .simp only[Option.some.injEq,Prod.mk.injEq]at hr;rw[<-hr.2.2.1];rfl
  .cases hr
 ok N k0 h l g ps ids fzs hr hp:=by
  split at hr
  .rename_i a ps' hd;simp only[Option.some.injEq,Prod.mk.injEq]at hr;obtain⟨rfl,rfl,rfl,rfl⟩:=hr;exact⟨λk so h=>by simp at h,λn m ρ ρ' x hn _ hf=>A.cl a n m ρ ρ' x hn.ag.2.1 (A.ok _ _ _ _ _ _ hd hp hf)⟩
  .cases hr
 shf b b' g n m ρ ρ' hm _ _:=⟨λx hf=>A.cl g n m ρ ρ' x hm hf,q41⟩
 putOk _ _ _ h:=h
theorem ow_rn{N k0 n m j l l':Nat}{ids:List (Option Nat)}{ρ ρ':Rh}{x:Value}(hr:Rn N k0 ids m ρ ρ')(hi:ids[0]?=some (some j))(hl:l'=l)(hf:(SV.ow j l).fit n ρ x):(SV.ow (N+k0) l').fit m ρ' x:=by
 obtain⟨_,hor⟩:=hf
 have hk:0<ids.length:=by
  cases ids with
  |nil=>simp at hi
  |cons=>simp
 refine⟨by have:=hr.le;omega,?_⟩;have:=hr.yes 0 j hi;rw[show N+k0+0=N+k0 from rfl]at this;rw[this,hl];exact hor
def CT.row(t:TypeId)(A:El α):CT (List α) where
 R:=1
 sz:=1
 cells b xs:=[.ow b xs.length]
 blks _ xs:=[.row t A.sz (.fn (A.els xs)) xs.length]
 read h l:=match l with
  | [.ow j n]=>match h.get j with
   | .row t' sz el m=>bif Nat.beq t' t&&Nat.beq sz A.sz then some (A.lstE n el,(n<=m)::A.okE n el,[some j],[])else none
   |_=>none
  | [.k y]=>bif nilK y then some ([],[],[none],[])else none
  |_=>none
 put b xs:=.ret ([.ow b xs.length],[.row t A.sz (.fn (A.els xs)) xs.length])
 blen _ _:=rfl
 clen _ _:=rfl
 ilen h l g ps ids fzs hr:=by
  split at hr
  .split at hr
   .rename_i j n t' sz el m hg;cases hb:Nat.beq t' t&&Nat.beq sz A.sz with
    |false=>rw[hb]at hr;cases hr
    |true=>
     rw[hb]at hr;simp only[cond_true,Option.some.injEq,Prod.mk.injEq]at hr;rw[<-hr.2.2.1];rfl
   .cases hr
  .rename_i y;cases hb:nilK y with
   |false=>rw[hb]at hr;cases hr
   |true=>
    rw[hb]at hr;simp only[cond_true,Option.some.injEq,Prod.mk.injEq]at hr;rw[<-hr.2.2.1];rfl
  .cases hr
 ok N k0 h l g ps ids fzs hr hp:=by
  split at hr
  .rename_i j n;split at hr
   .rename_i t' sz el m hg;cases hb:Nat.beq t' t&&Nat.beq sz A.sz with
    |false=>rw[hb]at hr;cases hr
    |true=>
     rw[hb]at hr;simp only[Bool.and_eq_true]at hb;have e1:=q02 hb.1;have e2:=q02 hb.2;subst e1;subst e2;simp only[cond_true,Option.some.injEq,Prod.mk.injEq]at hr;obtain⟨rfl,rfl,rfl,rfl⟩:=hr;have hl:n<=m:=hp _ (List.mem_cons_self ..);have hk:∀e,e<n->A.Ok (el e):=A.okE_ok n el λp h'=>hp p (List.mem_cons_of_mem _ h');rw[A.lstE_eq];refine⟨λk so hso=>?_,λn' m' ρ ρ' x hn hz hf=>?_⟩
     .cases k with
      |succ k=>simp at hso
      |zero=>
       simp only[List.getElem?_cons_zero,Option.some.injEq]at hso;subst hso;rw[A.lst_length];refine .inr ⟨j,rfl,by rw[hg];exact ow_na λ_ h=>h,λn' m' ρ ρ' L o hn hz hf=>?_⟩;rw[hg]at hf;refine row_so hl (λe=>A.cl _) (λe he n ρ v hv=>?_) hn.ag.2.1 hf;show SV.fits n ρ (A.cells ((A.lst _ el).getD e A.dflt)) v;rw[A.lst_getD _ _ _ he];obtain⟨a,ps,d1,d2⟩:=hk e he;have:=A.ok _ _ _ _ _ _ d1 d2 hv;simpa only [El.get,d1]using this
     .obtain⟨y,r,rfl,hy,hr'⟩:=q03 hf;exact⟨ow_rn hn rfl (by rw[A.lst_length]) hy,by have:=q0b hr';subst this;trivial⟩
   .cases hr
  .rename_i y;cases hb:nilK y with
   |false=>rw[hb]at hr;cases hr
   |true=>
    rw[hb]at hr;simp only[cond_true,Option.some.injEq,Prod.mk.injEq]at hr;obtain⟨rfl,rfl,rfl,rfl⟩:=hr;have:=q8n hb;subst this;refine⟨λk so hso=>?_,λn' m' ρ ρ' x hn hz hf=>?_⟩
    .cases k with
     |succ k=>simp at hso
     |zero=>
      simp only[List.getElem?_cons_zero,Option.some.injEq]at hso;subst hso;exact .inl ⟨rfl,.inr ⟨_,_,_,rfl⟩⟩
    .obtain⟨y',r,rfl,hy,hr'⟩:=q03 hf;refine⟨⟨by have:=hn.le;simp only[List.length_cons,List.length_nil]at this;omega,.inl ?_⟩,by have:=q0b hr';subst this;trivial⟩;have:=hn.no 0 rfl;rw[show N+k0+0=N+k0 from rfl]at this;rw[this];exact⟨rfl,rfl,_,hy⟩
  .cases hr
 shf b b' g n m ρ ρ' hm hk hb:=by
  have h0:=hk 0 (by omega);simp only[Nat.add_zero]at h0;refine⟨λx hf=>?_,shfB_cons (owE_na λ_=>Iff.rfl) (λL o hf=>rowA_cl A hm hf) q41⟩;obtain⟨y,r,rfl,hy,hr'⟩:=q03 hf;refine⟨⟨by omega,?_⟩,by have:=q0b hr';subst this;trivial⟩;rw[h0];exact hy.2
 putOk _ _ _ h:=h
def CT.fz(t:TypeId)(A:El α):CT (List α) where
 R:=0
 sz:=1
 cells _ xs:=[(Dv.list A).enc xs]
 blks _ _:=[]
 read h l:=match l with
  | [.ow j n]=>match h.get j with
   | .row t' sz el m=>bif Nat.beq t' t&&Nat.beq sz A.sz then some (A.lstE n el,(n<=m)::A.okE n el,[],[j])else none
   |_=>none
  | [s]=>match(Dv.list A).dec s with
   |some (a,ps)=>some (a,ps,[],[])
   |none=>none
  |_=>none
 put b xs:=.ret ([(Dv.list A).enc xs],[])
 blen _ _:=rfl
 clen _ _:=rfl
 ilen h l g ps ids fzs hr:=by
  split at hr
  .split at hr
   .rename_i j n t' sz el m hg;cases hb:Nat.beq t' t&&Nat.beq sz A.sz with
    |false=>rw[hb]at hr;cases hr
    |true=>
     rw[hb]at hr;simp only[cond_true,Option.some.injEq,Prod.mk.injEq]at hr;rw[<-hr.2.2.1];rfl
   .cases hr
  .split at hr
   .simp only[Option.some.injEq,Prod.mk.injEq]at hr;rw[<-hr.2.2.1];rfl
   .cases hr
  .cases hr
 ok N k0 h l g ps ids fzs hr hp:=by
  split at hr
  .rename_i j n;split at hr
   .rename_i t' sz el m hg;cases hb:Nat.beq t' t&&Nat.beq sz A.sz with
    |false=>rw[hb]at hr;cases hr
    |true=>
     rw[hb]at hr;simp only[Bool.and_eq_true]at hb;have e2:=q02 hb.2;subst e2;simp only[cond_true,Option.some.injEq,Prod.mk.injEq]at hr;obtain⟨rfl,rfl,rfl,rfl⟩:=hr;have hl:n<=m:=hp _ (List.mem_cons_self ..);have hk:∀e,e<n->A.Ok (el e):=A.okE_ok n el λp h'=>hp p (List.mem_cons_of_mem _ h');refine⟨λk so hso=>by simp at hso,λn' m' ρ ρ' x hn hz hf=>?_⟩;obtain⟨y,r,rfl,hy,hr'⟩:=q03 hf;refine⟨?_,by have:=q0b hr';subst this;trivial⟩;obtain⟨o,ho,hmem⟩:=hz j (List.mem_cons_self ..);rw[hg]at ho hmem;rw[A.lstE_eq];have hlen:(A.lst n el).length=n:=A.lst_length _ _;show(SV.rs A.sz (A.lst n el).length (A.els (A.lst n el))).fit m' ρ' y;rw[hlen];obtain⟨_,hor⟩:=hy;rcases hor with ⟨h1,rfl,a,rfl⟩|⟨h1,h2,rfl⟩
     .exact rs_nil0 _ _ _
     .rcases ho.2 with ⟨k1,_⟩|⟨_,k2,c,fz,k3,_,k4,k5,k6,k7⟩
      .rw[k1]at h1;cases h1
      .refine⟨_,_,rfl,h2,k6,λ_=>⟨(ρ j).blk,0,c,t',fz,rfl,by rw[hmem h1,k3],λe he=>?_⟩⟩;obtain⟨v,q1,q2,q3⟩:=k7 e (by omega);obtain⟨a,ps,d1,d2⟩:=hk e he;refine⟨v,q1,?_,q3⟩;have q4:=A.cl a n' m' ρ ρ' _ hn.ag.2.1 (A.ok _ _ _ _ _ _ d1 d2 q2);show SV.fits m' ρ' (A.cells ((A.lst n el).getD e A.dflt)) v;rw[A.lst_getD _ _ _ he];simpa only [El.get,d1]using q4
   .cases hr
  .rename_i s _;split at hr
   .rename_i a ps' hd;simp only[Option.some.injEq,Prod.mk.injEq]at hr;obtain⟨rfl,rfl,rfl,rfl⟩:=hr;refine⟨λk so h=>by simp at h,λn m ρ ρ' x hn _ hf=>?_⟩;obtain⟨y,r,rfl,hy,hr'⟩:=q03 hf;exact⟨(Dv.list A).cl a n m ρ ρ' y hn.ag.2.1 ((Dv.list A).ok _ _ _ _ _ _ hd hp hy),by have:=q0b hr';subst this;trivial⟩
   .cases hr
  .cases hr
 shf b b' g n m ρ ρ' hm _ _:=⟨λx hf=>by
  obtain⟨y,r,rfl,hy,hr'⟩:=q03 hf;exact⟨(Dv.list A).cl g n m ρ ρ' y hm hy,by have:=q0b hr';subst this;trivial⟩,q41⟩
 putOk _ _ _ h:=h
def CT.map(ka va:Bool)(K:El α)(V:El β):CT (List (α×β×Int)×Nat) where
 R:=1
 sz:=1
 cells b _:=[.mp b]
 blks _ g:=[.map K.sz V.sz ka va (.fn ((El.ent K V).els g.1)) g.1.length g.2 false]
 read h l:=match l with
  | [.mp j]=>match h.get j with
   | .map ks vs ka' va' el m clk _=>bif Nat.beq ks K.sz&&(Nat.beq vs V.sz&&(ka==ka'&&va==va'))then some (((El.ent K V).lstE m el,clk),(El.ent K V).okE m el,[some j],[])else none
   |_=>none
  |_=>none
 put b g:=.ret ([.mp b],[.map K.sz V.sz ka va (.fn ((El.ent K V).els g.1)) g.1.length g.2 false])
 blen _ _:=rfl
 clen _ _:=rfl
 ilen h l g ps ids fzs hr:=by
  split at hr
  .split at hr
   .rename_i j ks vs ka' va' el m clk pd hg;cases hb:Nat.beq ks K.sz&&(Nat.beq vs V.sz&&(ka==ka'&&va==va'))with
    |false=>rw[hb]at hr;cases hr
    |true=>
     rw[hb]at hr;simp only[cond_true,Option.some.injEq,Prod.mk.injEq]at hr;rw[<-hr.2.2.1];rfl
   .cases hr
  .cases hr
 ok N k0 h l g ps ids fzs hr hp:=by
  split at hr
  .rename_i j;split at hr
   .rename_i ks vs ka' va' el m clk pd hg;cases hb:Nat.beq ks K.sz&&(Nat.beq vs V.sz&&(ka==ka'&&va==va'))with
    |false=>rw[hb]at hr;cases hr
    |true=>
     rw[hb]at hr;simp only[Bool.and_eq_true,beq_iff_eq]at hb;obtain⟨b1,b2,b3,b4⟩:=hb;have e1:=q02 b1;have e2:=q02 b2;subst e1;subst e2;subst b3;subst b4;simp only[cond_true,Option.some.injEq,Prod.mk.injEq]at hr;obtain⟨rfl,rfl,rfl,rfl⟩:=hr;have hk:∀e,e<m->(El.ent K V).Ok (el e):=El.okE_ok _ m el hp;rw[El.lstE_eq];refine⟨λk so hso=>?_,λn' m' ρ ρ' x hn hz hf=>?_⟩
     .cases k with
      |succ k=>simp at hso
      |zero=>
       simp only[List.getElem?_cons_zero,Option.some.injEq]at hso;subst hso;refine .inr ⟨j,rfl,by rw[hg];exact ow_na λ_ h=>h,λn' m' ρ ρ' L o hn hz hf=>?_⟩;rw[hg]at hf;obtain⟨f1,f2,⟨es,f3,f4,f5,f6⟩,_⟩:=hf;rw[El.lst_length];refine⟨f1,f2,⟨es,f3,f4,f5,λe he=>?_⟩,λh=>by cases h⟩;obtain⟨y,kc,vc,q1,q2,q3⟩:=f6 e he;obtain⟨a,ps,d1,d2⟩:=hk e he;refine⟨y,kc,vc,q1,?_,q3⟩;have:=(El.ent K V).cl a n' m' ρ ρ' _ hn.ag.2.1 ((El.ent K V).ok _ _ _ _ _ _ d1 d2 q2);show SV.fits m' ρ' ((El.ent K V).cells (((El.ent K V).lst m el).getD e (El.ent K V).dflt)) _;rw[El.lst_getD _ _ _ _ he];simpa only [El.get,d1]using this
     .obtain⟨y,r,rfl,hy,hr'⟩:=q03 hf;refine⟨⟨by have:=hn.le;simp only[List.length_cons,List.length_nil]at this;omega,?_⟩,by have:=q0b hr';subst this;trivial⟩;have:=hn.yes 0 j rfl;rw[show N+k0+0=N+k0 from rfl]at this;rw[this];exact hy.2
   .cases hr
  .cases hr
 shf b b' g n m ρ ρ' hm hk hb:=by
  have h0:=hk 0 (by omega);simp only[Nat.add_zero]at h0;refine⟨λx hf=>?_,shfB_cons (owE_na λ_=>Iff.rfl) (λL o hf=>?_) q41⟩
  .obtain⟨y,r,rfl,hy,hr'⟩:=q03 hf;refine⟨⟨by omega,?_⟩,by have:=q0b hr';subst this;trivial⟩;rw[h0];exact hy.2
  .obtain⟨f1,f2,⟨es,f3,f4,f5,f6⟩,f7⟩:=hf;refine⟨f1,f2,⟨es,f3,f4,f5,λe he=>?_⟩,f7⟩;obtain⟨y,kc,vc,q1,q2,q3⟩:=f6 e he;exact⟨y,kc,vc,q1,(El.ent K V).cl _ _ _ _ _ _ hm q2,q3⟩
 putOk _ _ _ h:=h
theorem Rn.tail{N k0 m j:Nat}{ids:List (Option Nat)}{ρ ρ':Rh}(h:Rn N k0 (some j::ids) m ρ ρ'):Rn N (k0+1) ids m ρ ρ':=Rn.right (is:=[some j]) h
def CT.pair(A:CT α)(B:CT β):CT (α×β) where
 R:=A.R+B.R
 sz:=A.sz+B.sz
 cells b g:=A.cells b g.1++B.cells (b+A.R) g.2
 blks b g:=A.blks b g.1++B.blks (b+A.R) g.2
 read h l:=match A.read h (l.take A.sz)with
  |some (a,ps,is,fs)=>match B.read h (l.drop A.sz)with
   |some (b,qs,js,gs)=>some ((a,b),ps++qs,is++js,fs++gs)
   |none=>none
  |none=>none
 put b g:=(A.put b g.1).bind λx=>(B.put (b+A.R) g.2).bind λy=>.ret (x.1++y.1,x.2++y.2)
 blen b g:=by simp[A.blen,B.blen]
 clen b g:=by simp[A.clen,B.clen]
 ilen h l g ps ids fzs hr:=by
  split at hr
  .rename_i a ps0 is fs ha;split at hr
   .rename_i b qs js gs hb;simp only[Option.some.injEq,Prod.mk.injEq]at hr;obtain⟨rfl,rfl,rfl,rfl⟩:=hr;simp[A.ilen _ _ _ _ _ _ ha,B.ilen _ _ _ _ _ _ hb]
   .cases hr
  .cases hr
 ok N k0 h l g ps ids fzs hr hp:=by
  split at hr
  .rename_i a ps0 is fs ha;split at hr
   .rename_i b qs js gs hb;simp only[Option.some.injEq,Prod.mk.injEq]at hr;obtain⟨rfl,rfl,rfl,rfl⟩:=hr;have ra:=A.ok N k0 _ _ _ _ _ _ ha λp h=>hp p (List.mem_append_left _ h);have rb:=B.ok N (k0+A.R) _ _ _ _ _ _ hb λp h=>hp p (List.mem_append_right _ h);have la:=A.ilen _ _ _ _ _ _ ha;have lr:=A.blen (N+k0) a;have e:N+k0+A.R=N+(k0+A.R):=by omega
    simp only[e];refine⟨λk so h=>?_,λn m ρ ρ' x hn hz hf=>?_⟩
    .by_cases hk:k<A.R
     .rw[List.getElem?_append_left (by omega)]at h;rw[List.getElem?_append_left (by omega)];rcases ra.blk k so h with h1|⟨j,h1,h2,h3⟩
      .exact .inl h1
      .exact .inr ⟨j,h1,h2,λn m ρ ρ' L o hr hz=>h3 n m ρ ρ' L o hr.left hz.left⟩
     .rw[List.getElem?_append_right (by omega)]at h;rw[List.getElem?_append_right (by omega),la];rw[lr]at h;rcases rb.blk (k-A.R) so h with h1|⟨j,h1,h2,h3⟩
      .exact .inl h1
      .exact .inr ⟨j,h1,h2,λn m ρ ρ' L o hr hz=>h3 n m ρ ρ' L o (la▸hr.right) hz.right⟩
    .have f1:=ra.fit n m ρ ρ' _ hn.left hz.left (q0g A.sz hf);have f2:=rb.fit n m ρ ρ' _ (la▸hn.right) hz.right (q0f A.sz hf);have:=q0j f1 f2
     rwa [List.take_append_drop]at this
   .cases hr
  .cases hr
 shf b b' g n m ρ ρ' hm hk hb:=by
  obtain⟨s1,s2⟩:=A.shf b b' g.1 n m ρ ρ' hm (λk hk'=>hk k (by omega)) (by omega)
  obtain⟨t1,t2⟩:=B.shf (b+A.R) (b'+A.R) g.2 n m ρ ρ' hm (λk hk'=>by
   have:=hk (A.R+k) (by omega);rw[show b'+A.R+k=b'+(A.R+k) by omega,show b+A.R+k=b+(A.R+k) by omega];exact this) (by omega)
  refine⟨λx hf=>?_,shfB_app (by rw[A.blen,A.blen]) s2 t2⟩;have h1:=q0g A.sz hf;have h2:=q0f A.sz hf;rw[List.take_left' (A.clen _ _)]at h1;rw[List.drop_left' (A.clen _ _)]at h2;have:=q0j (s1 _ h1) (t1 _ h2)
  rwa [List.take_append_drop]at this
 putOk b g K h:=B.putOk _ _ _ (Tr.holds_bind (A.putOk _ _ _ (Tr.holds_bind h)))
def CT.iso(A:CT α)(f:α->β)(g:β->α)(hgf:∀a,g (f a)=a):CT β where
 R:=A.R
 sz:=A.sz
 cells b d:=A.cells b (g d)
 blks b d:=A.blks b (g d)
 read h l:=match A.read h l with
  |some (a,ps,is,fs)=>some (f a,ps,is,fs)
  |none=>none
 put b d:=A.put b (g d)
 blen b d:=A.blen _ _
 clen b d:=A.clen _ _
 ilen h l d ps ids fzs hr:=by
  split at hr
  .rename_i a ps0 is fs ha;simp only[Option.some.injEq,Prod.mk.injEq]at hr;obtain⟨rfl,rfl,rfl,rfl⟩:=hr;exact A.ilen _ _ _ _ _ _ ha
  .cases hr
 ok N k0 h l d ps ids fzs hr hp:=by
  split at hr
  .rename_i a ps0 is fs ha;simp only[Option.some.injEq,Prod.mk.injEq]at hr;obtain⟨rfl,rfl,rfl,rfl⟩:=hr;rw[hgf];exact A.ok N k0 _ _ _ _ _ _ ha hp
  .cases hr
 shf b b' d n m ρ ρ':=A.shf b b' (g d) n m ρ ρ'
 putOk b d K h:=A.putOk b (g d) K h
def CT.opt(A:CT α)(d:α)(h1:A.sz=1):CT (Option α) where
 R:=A.R
 sz:=1
 cells b g:=match g with
  |some a=>A.cells b a
  |none=>[.k (.pointer none)]
 blks b g:=match g with
  |some a=>A.blks b a
  |none=>List.replicate A.R .dead
 read h l:=match l with
  | [.k (.pointer none)]=>some (none,[],List.replicate A.R none,[])
  |l=>match A.read h l with
   |some (a,ps,is,fs)=>some (some a,ps,is,fs)
   |none=>none
 put b g:=.br g.isSome (A.put b (g.getD d)) (.ret ([.k (.pointer none)],List.replicate A.R .dead))
 blen b g:=by cases g<;>simp[A.blen]
 clen b g:=by cases g<;>simp[A.clen,h1]
 ilen h l g ps ids fzs hr:=by
  split at hr
  .simp only[Option.some.injEq,Prod.mk.injEq]at hr;rw[<-hr.2.2.1];simp
  .split at hr
   .rename_i a ps0 is fs ha;simp only[Option.some.injEq,Prod.mk.injEq]at hr;obtain⟨rfl,rfl,rfl,rfl⟩:=hr;exact A.ilen _ _ _ _ _ _ ha
   .cases hr
 ok N k0 h l g ps ids fzs hr hp:=by
  split at hr
  .simp only[Option.some.injEq,Prod.mk.injEq]at hr;obtain⟨rfl,rfl,rfl,rfl⟩:=hr;refine⟨λk so hso=>?_,λn m ρ ρ' x _ _ hf=>?_⟩
   .have hk:k<A.R:=by
     have:=(List.getElem?_eq_some_iff.1 hso).1;simpa using this
    rw[List.getElem?_replicate,if_pos hk]at hso;simp only[Option.some.injEq]at hso;exact .inl ⟨by rw[List.getElem?_replicate,if_pos hk],.inl hso.symm⟩
   .obtain⟨y,r,rfl,hy,hr'⟩:=q03 hf;have:=q0b hr';subst this;exact⟨hy,trivial⟩
  .split at hr
   .rename_i a ps0 is fs ha;simp only[Option.some.injEq,Prod.mk.injEq]at hr;obtain⟨rfl,rfl,rfl,rfl⟩:=hr;exact A.ok N k0 _ _ _ _ _ _ ha hp
   .cases hr
 shf b b' g n m ρ ρ' hm hk hb:=by
  cases g with
  |some a=>exact A.shf b b' a n m ρ ρ' hm hk hb
  |none=>
   refine⟨λx hf=>?_,λk so hso=>⟨so,hso,owE_rfl,λL o _=>?_⟩⟩
   .obtain⟨y,r,rfl,hy,hr'⟩:=q03 hf;have:=q0b hr';subst this;exact⟨hy,trivial⟩
   .have hk:k<A.R:=by
     have:=(List.getElem?_eq_some_iff.1 hso).1;simpa using this
    rw[List.getElem?_replicate,if_pos hk]at hso;simp only[Option.some.injEq]at hso;rw[<-hso];trivial
 putOk b g K h:=by
  cases g with
  |some a=>exact A.putOk b a K (h.1 rfl)
  |none=>exact h.2 rfl
end
section
variable{N:Nat}{κ:Type}
def noFz:Option (κ×List Prop×List (Option Nat)×List Nat)->Option (κ×List Prop×List (Option Nat))
 |some (g,ps,ids,[])=>some (g,ps,ids)
 |_=>none
theorem noFz_eq{r:Option (κ×List Prop×List (Option Nat)×List Nat)}{g:κ}{ps:List Prop}{ids:List (Option Nat)}(h:noFz r=some (g,ps,ids)):r=some (g,ps,ids,[]):=by
 unfold noFz at h;split at h
 .simp only[Option.some.injEq,Prod.mk.injEq]at h;obtain⟨rfl,rfl,rfl⟩:=h;rfl
 .cases h
theorem fzR_nil{n:Nat}{h:SH}{ρ ρ':Rh}:FzR n h [] ρ ρ':=λj hj=>by cases hj
theorem noFz_blk{k0:Nat}{h:SH}{ids:List (Option Nat)}{l cs:List SV}{blks:List SO}(hC:CRel N k0 h ids [] l cs blks):∀(k:Nat)(so:SO),blks[k]?=some so->(ids[k]?=some none/\NilSO so)\/∃j:Nat,ids[k]?=some (some j)/\Ow so (h.get j)/\∀(n m:Nat)(ρ ρ':Rh)(L:Lc)(o:Option Obj),Rn N k0 ids m ρ ρ'->(h.get j).fit n ρ L o->so.fit m ρ' L o:=λk so h=>by
 rcases hC.blk k so h with h1|⟨j,h1,h2,h3⟩
 .exact .inl h1
 .exact .inr ⟨j,h1,h2,λn m ρ ρ' L o hn hf=>h3 n m ρ ρ' L o hn fzR_nil hf⟩
def LP.ct(N i:Nat)(C:CT κ)(h1:C.sz=1):LP N κ where
 R:=C.R
 read σ:=noFz (C.read σ.h [σ.slot i])
 ents k0 g:=[(i,(C.cells (N+k0) g).headD .u)]
 blks k0 g:=C.blks (N+k0) g
 objs _ _:=[]
 es:=[i]
 os:=[]
 eseq _ _:=rfl
 oseq _ _:=rfl
 blen k g:=C.blen _ _
 ilen σ g ps ids h:=C.ilen _ _ _ _ _ _ (noFz_eq h)
 ok k0 σ g ps ids h hp:=by
  have hC:=C.ok N k0 _ _ _ _ _ _ (noFz_eq h) hp;refine⟨noFz_blk hC,λid so h=>by simp at h,λj s hs n m ρ ρ' x hn hf=>?_⟩;simp only[List.mem_singleton,Prod.mk.injEq]at hs;obtain⟨rfl,rfl⟩:=hs;have:=hC.fit n m ρ ρ' [x] hn fzR_nil ⟨hf,trivial⟩;have hl:=C.clen (N+k0) g;generalize C.cells (N+k0) g=cs at this hl;obtain⟨c,rfl⟩:=List.length_eq_one_iff.1 (hl.trans h1);exact this.1
def LP.ctO(N id t:Nat)(C:CT κ):LP N κ where
 R:=C.R
 read σ:=match σ.h.get id with
  | .cells xs t'=>bif Nat.beq t' t then noFz (C.read σ.h xs)else none
  |_=>none
 ents _ _:=[]
 blks k0 g:=C.blks (N+k0) g
 objs k0 g:=[(id,.cells (C.cells (N+k0) g) t)]
 es:=[]
 os:=[id]
 eseq _ _:=rfl
 oseq _ _:=rfl
 blen k g:=C.blen _ _
 ilen σ g ps ids h:=by
  split at h
  .rename_i xs t' _;cases hb:Nat.beq t' t with
   |false=>rw[hb]at h;cases h
   |true=>rw[hb]at h;exact C.ilen _ _ _ _ _ _ (noFz_eq h)
  .cases h
 ok k0 σ g ps ids h hp:=by
  split at h
  .rename_i xs t' hg;cases hb:Nat.beq t' t with
   |false=>rw[hb]at h;cases h
   |true=>
    rw[hb]at h;have:=q02 hb;subst this;have hC:=C.ok N k0 _ _ _ _ _ _ (noFz_eq h) hp;refine⟨noFz_blk hC,λid' so h=>?_,λj s h=>by simp at h⟩;simp only[List.mem_singleton,Prod.mk.injEq]at h;obtain⟨rfl,rfl⟩:=h;rw[hg];refine⟨ow_na λ_ h=>h,λn m ρ ρ' L o hn hf=>?_⟩;obtain⟨f1,f2,l,f3,f4⟩:=hf;exact⟨f1,f2,l,f3,hC.fit n m ρ ρ' l hn fzR_nil f4⟩
  .cases h
end
end Go.Sx

namespace Go.Sx
open Go.RowKit
variable[Env]
def frzC(c:Con):Con:=λargs h=>asks (frzA h args).2.2 (c (frzA h args).1 (frzA h args).2.1)
section
variable{P:Program}{M:Nat->Prop}{w0 w:World}
theorem frzC_ok{f:Nat}{c:Con}(hc:FnOk P f c):FnOk P f (frzC c):=by
 intro M w0 w ρ h args vs K hK hm hf;obtain⟨hq,hK⟩:=q1p hK;obtain⟨ρ1,a1,m1,f1⟩:=frzA_ok hm hf hq;have hnx:=(frzA_b args h).2;refine(hc M w0 w ρ1 _ _ vs K hK m1 (by rw[hnx];exact f1)).mono ?_;rintro e w' ⟨s,h',ρ',x,k1,k2,k3,k4,k5,k6⟩;rw[hnx]at k2 k3;exact⟨s,h',ρ',x,k1,k2,a1.trans (Nat.le_refl _) k3,k4,k5,k6⟩
def okAll{α:Type}(A:El α)(n:Nat)(el:Nat->List SV):Bool:=(List.range n).all λe=>match A.decs (el e)with
 |some (_,[])=>true
 |_=>false
theorem okAll_ok{α:Type}{A:El α}{n:Nat}{el:Nat->List SV}(h:okAll A n el=true):∀e,e<n->A.Ok (el e):=λe he=>by
 have:=List.all_eq_true.1 h e (by simpa using he);split at this
 .rename_i a hd;exact⟨a,[],hd,by simp⟩
 .cases this
def Dv.listB{α:Type}(A:El α):Dv (List α) where
 dec s:=match s with
  | .rs sz n el=>bif Nat.beq sz A.sz&&okAll A n el then some (A.lst n el,[])else none
  |_=>none
 enc:=(Dv.list A).enc
 bd:=(Dv.list A).bd
 cl:=(Dv.list A).cl
 ok s a ps n ρ x hd hp hf:=by
  split at hd
  .rename_i sz m el;cases hb:(Nat.beq sz A.sz&&okAll A m el)with
   |false=>rw[hb]at hd;cases hd
   |true=>
    rw[hb]at hd;simp only[cond_true,Option.some.injEq,Prod.mk.injEq]at hd;obtain⟨rfl,rfl⟩:=hd;simp only[Bool.and_eq_true]at hb
    exact(Dv.list A).ok (.rs sz m el) _ [∀e,e<m->A.Ok (el e)] n ρ x (by simp[Dv.list,hb.1]) (by
     intro p hp;simp only[List.mem_singleton]at hp;subst hp;exact okAll_ok hb.2) hf
  .cases hd
 fb:=(Dv.list A).fb
end
end Go.Sx

namespace Go.Sx
open Go.RowKit
variable[Env]
structure TA(κ:Type)where
 q:Nat
 R:Nat
 objs:Nat->κ->List SO
 blks:Nat->κ->List SO
 read:SH->List Nat->Option (κ×List Prop×List (Option Nat)×List Nat)
 olen:∀b g,(objs b g).length=q
 blen:∀b g,(blks b g).length=R
 ilen:∀h rs g ps ids fzs,read h rs=some (g,ps,ids,fzs)->ids.length=R/\rs.length=q
 ok:∀N k0 h rs g ps ids fzs,read h rs=some (g,ps,ids,fzs)->(∀p∈ps,p)->CRel N k0 h ids fzs [] [] (blks (N+k0) g)/\∀(j r:Nat)(so:SO),rs[j]?=some r->(objs (N+k0) g)[j]?=some so->(∀L,(h.get r).own L)/\(∀L,so.own L)/\(∀a,so=.abs a↔h.get r=.abs a)/\∀(n m:Nat)(ρ ρ':Rh)(L:Lc)(o:Option Obj),Rn N k0 ids m ρ ρ'->FzR n h fzs ρ ρ'->(h.get r).fit n ρ L o->so.fit m ρ' L o
 shf:∀(b b':Nat)(g:κ)(n m:Nat)(ρ ρ':Rh),(∀c o,ρ.mem c=some o->ρ'.mem c=some o)->(∀k,k<R->ρ' (b'+k)=ρ (b+k))->b'+R<=m->ShfB n m ρ ρ' (objs b g) (objs b' g)/\ShfB n m ρ ρ' (blks b g) (blks b' g)
abbrev TA.T{κ:Type}(_:TA κ):Type:=κ
def TA.nil:TA Unit where
 q:=0
 R:=0
 objs _ _:=[]
 blks _ _:=[]
 read _ rs:=match rs with
  | []=>some ((),[],[],[])
  |_=>none
 olen _ _:=rfl
 blen _ _:=rfl
 ilen h rs g ps ids fzs hr:=by
  split at hr
  .simp only[Option.some.injEq,Prod.mk.injEq]at hr;rw[<-hr.2.2.1];exact⟨rfl,rfl⟩
  .cases hr
 ok N k0 h rs g ps ids fzs hr _:=⟨⟨λk so h=>by simp at h,λ_ _ _ _ _ _ _ h=>by cases q0b h;trivial⟩,λj r so _ h=>by simp at h⟩
 shf _ _ _ _ _ _ _ _ _ _:=⟨q41,q41⟩
def TA.one{κ:Type}(t:TypeId)(C:CT κ):TA κ where
 q:=1
 R:=C.R
 objs b g:=[.cells (C.cells b g) t]
 blks b g:=C.blks b g
 read h rs:=match rs with
  | [r]=>match h.get r with
   | .cells xs t'=>bif Nat.beq t' t then C.read h xs else none
   |_=>none
  |_=>none
 olen _ _:=rfl
 blen b g:=C.blen b g
 ilen h rs g ps ids fzs hr:=by
  split at hr
  .split at hr
   .rename_i xs t' hg;cases hb:Nat.beq t' t with
    |false=>rw[hb]at hr;cases hr
    |true=>rw[hb]at hr;exact⟨C.ilen _ _ _ _ _ _ hr,rfl⟩
   .cases hr
  .cases hr
 ok N k0 h rs g ps ids fzs hr hp:=by
  split at hr
  .rename_i r;split at hr
   .rename_i xs t' hg;cases hb:Nat.beq t' t with
    |false=>rw[hb]at hr;cases hr
    |true=>
     have:=q02 hb;subst this;rw[hb]at hr;have hC:=C.ok N k0 h xs g ps ids fzs hr hp;refine⟨⟨hC.blk,λ_ _ _ _ _ _ _ h=>by cases q0b h;trivial⟩,λj r' so h1 h2=>?_⟩;cases j with
     |succ j=>simp at h2
     |zero=>
      simp only[List.getElem?_cons_zero,Option.some.injEq]at h1 h2;subst h1;subst h2;rw[hg];refine⟨λ_=>trivial,λ_=>trivial,λa=>⟨λe=>(by cases e),λe=>(by cases e)⟩,λn m ρ ρ' L o hn hz hf=>?_⟩;obtain⟨f1,f2,l,f3,f4⟩:=hf;exact⟨f1,f2,l,f3,hC.fit n m ρ ρ' l hn hz f4⟩
   .cases hr
  .cases hr
 shf b b' g n m ρ ρ' hm hk hb:=by
  obtain⟨s1,s2⟩:=C.shf b b' g n m ρ ρ' hm hk hb
  exact⟨shfB_cons (owE_na λ_=>Iff.rfl) (λL o hf=>by
   obtain⟨f1,f2,l,f3,f4⟩:=hf;exact⟨f1,f2,l,f3,s1 l f4⟩) q41,s2⟩
structure TR(δ:Type)where
 R:Nat
 val:Nat->δ->SV
 blks:Nat->δ->List SO
 read:SH->SV->Option (δ×List Prop×List (Option Nat)×List Nat)
 put:Nat->δ->Tr (SV×List SO)
 blen:∀b g,(blks b g).length=R
 ilen:∀h s g ps ids fzs,read h s=some (g,ps,ids,fzs)->ids.length=R
 ok:∀N k0 h s g ps ids fzs,read h s=some (g,ps,ids,fzs)->(∀p∈ps,p)->CRel N k0 h ids fzs [s] [val (N+k0) g] (blks (N+k0) g)
 shf:∀(b b':Nat)(g:δ)(n m:Nat)(ρ ρ':Rh),(∀c o,ρ.mem c=some o->ρ'.mem c=some o)->(∀k,k<R->ρ' (b'+k)=ρ (b+k))->b'+R<=m->(∀x,(val b g).fit n ρ x->(val b' g).fit m ρ' x)/\ShfB n m ρ ρ' (blks b g) (blks b' g)
 putOk:∀b g(K:SV×List SO->Prop),(put b g).Holds K->K (val b g,blks b g)
abbrev TR.T{δ:Type}(_:TR δ):Type:=δ
section
variable{δ κ:Type}
def TR.pure(D:Dv δ):TR δ where
 R:=0
 val _ r:=D.enc r
 blks _ _:=[]
 read _ s:=match D.dec s with
  |some (r,ps)=>some (r,ps,[],[])
  |none=>none
 put _ r:=.ret (D.enc r,[])
 blen _ _:=rfl
 ilen h s g ps ids fzs hr:=by
  split at hr
  .simp only[Option.some.injEq,Prod.mk.injEq]at hr;rw[<-hr.2.2.1];rfl
  .cases hr
 ok N k0 h s g ps ids fzs hr hp:=by
  split at hr
  .rename_i a ps' hd;simp only[Option.some.injEq,Prod.mk.injEq]at hr;obtain⟨rfl,rfl,rfl,rfl⟩:=hr;refine⟨λk so h=>by simp at h,λn m ρ ρ' x hn _ hf=>?_⟩;obtain⟨y,r,rfl,hy,hr'⟩:=q03 hf;exact⟨D.cl a n m ρ ρ' y hn.ag.2.1 (D.ok _ _ _ _ _ _ hd hp hy),by cases q0b hr';trivial⟩
  .cases hr
 shf b b' g n m ρ ρ' hm _ _:=⟨λx hf=>D.cl g n m ρ ρ' x hm hf,q41⟩
 putOk _ _ _ h:=h
def TR.ct(C:CT κ)(h1:C.sz=1):TR κ where
 R:=C.R
 val b g:=(C.cells b g).headD .u
 blks b g:=C.blks b g
 read h s:=C.read h [s]
 put b g:=(C.put b g).bind λy=>.ret (y.1.headD .u,y.2)
 blen b g:=C.blen b g
 ilen h s g ps ids fzs hr:=C.ilen _ _ _ _ _ _ hr
 ok N k0 h s g ps ids fzs hr hp:=by
  have hC:=C.ok N k0 h [s] g ps ids fzs hr hp;have hl:=C.clen (N+k0) g;refine⟨hC.blk,λn m ρ ρ' x hn hz hf=>?_⟩;have:=hC.fit n m ρ ρ' x hn hz hf;generalize C.cells (N+k0) g=cs at this hl;obtain⟨c,rfl⟩:=List.length_eq_one_iff.1 (hl.trans h1);exact this
 shf b b' g n m ρ ρ' hm hk hb:=by
  obtain⟨s1,s2⟩:=C.shf b b' g n m ρ ρ' hm hk hb;refine⟨λx hf=>?_,s2⟩;have l1:=C.clen b g;have l2:=C.clen b' g;generalize C.cells b g=c1 at *;generalize C.cells b' g=c2 at *;obtain⟨a1,rfl⟩:=List.length_eq_one_iff.1 (l1.trans h1);obtain⟨a2,rfl⟩:=List.length_eq_one_iff.1 (l2.trans h1);exact(s1 [x] ⟨hf,trivial⟩).1
 putOk b g K h:=C.putOk b g _ (Tr.holds_bind h)
def TR.tup(C:CT κ):TR κ where
 R:=C.R
 val b g:=.tup (C.cells b g)
 blks b g:=C.blks b g
 read h s:=match s with
  | .tup xs=>C.read h xs
  |_=>none
 put b g:=(C.put b g).bind λy=>.ret (.tup y.1,y.2)
 blen b g:=C.blen b g
 ilen h s g ps ids fzs hr:=by
  split at hr
  .exact C.ilen _ _ _ _ _ _ hr
  .cases hr
 ok N k0 h s g ps ids fzs hr hp:=by
  split at hr
  .rename_i xs;have hC:=C.ok N k0 h xs g ps ids fzs hr hp;refine⟨hC.blk,λn m ρ ρ' x hn hz hf=>?_⟩;obtain⟨y,r,rfl,hy,hr'⟩:=q03 hf;obtain⟨l,rfl,hl⟩:=hy;exact⟨⟨l,rfl,hC.fit n m ρ ρ' l hn hz hl⟩,by cases q0b hr';trivial⟩
  .cases hr
 shf b b' g n m ρ ρ' hm hk hb:=by
  obtain⟨s1,s2⟩:=C.shf b b' g n m ρ ρ' hm hk hb
  exact⟨λx hf=>by
   obtain⟨l,rfl,hl⟩:=hf;exact⟨l,rfl,s1 l hl⟩,s2⟩
 putOk b g K h:=C.putOk b g _ (Tr.holds_bind h)
end
def q1y(sos:List SO):SH:=⟨sos.length,whole (rowsL 0 sos),[]⟩
theorem q2f(sos:List SO)(k:Nat):(q1y sos).get k=(sos[k]?).getD .dead:=by
 have e:(q1y sos).get k=look .dead k (rowsL 0 sos):=by
  simp only[q1y,SH.get,lookE,q51]
 obtain⟨r1,r2⟩:=q75 (i:=k) (r:=sos) (k:=0) .dead;rw[e];by_cases hk:k<sos.length
 .obtain⟨so,h1,h2⟩:=r1 k (by omega) hk;rw[h2,h1];rfl
 .rw[r2 (by omega),List.getElem?_eq_none (by omega)];rfl
def kill:List Nat->SH->SH
 | [],h=>h
 |j::r,h=>kill r (h.set j .dead)
theorem kill_nx:∀(l:List Nat)(h:SH),(kill l h).nx=h.nx
 | [],_=>rfl
 |_::r,h=>kill_nx r _
theorem kill_get:∀(l:List Nat)(h:SH)(i:Nat),i∉l->(kill l h).get i=h.get i
 | [],_,_,_=>rfl
 |j::r,h,i,hi=>by
  simp only[List.mem_cons,not_or]at hi;show(kill r (h.set j .dead)).get i=_;rw[kill_get r _ i hi.2,SH.get_set,if_neg hi.1]
section
variable{M:Nat->Prop}{w0 w w':World}{ρ:Rh}{h:SH}
open Classical in
theorem HM.freezeAll:∀(l:List Nat){h:SH}{ρ:Rh},HM M w0 ρ h w->∃ρ':Rh,ρ'.lc=ρ.lc/\(∀b o,ρ.mem b=some o->ρ'.mem b=some o)/\ρ'.lo=ρ.lo/\HM M w0 ρ' (kill l h) w/\∀j∈l,(h.get j).own (ρ j)->ρ'.mem (ρ j).blk=w.heap[(ρ j).blk]?
 | [],h,ρ,hm=>⟨ρ,rfl,λ_ _ h=>h,rfl,hm,λj hj=>by cases hj⟩
 |j::r,h,ρ,hm=>by
  by_cases hown:(h.get j).own (ρ j)
  .obtain⟨o,ho⟩:=SO.fit_some (hm.ob j) hown;have hfz:=hm.freeze hown ho;obtain⟨ρ',e1,e2,e3,e4,e5⟩:=HM.freezeAll r hfz;have hag:=q61 (n:=h.nx) (o:=o) ρ (hm.sep j hown);refine⟨ρ',e1,λb o' hb=>e2 b o' (hag.2.1 b o' hb),e3,e4,λi hi hio=>?_⟩;by_cases hij:i=j
   .subst hij;rw[ho];exact e2 _ _ (by simp[Rh.frz])
   .rcases List.mem_cons.1 hi with hi|hi
    .exact absurd hi hij
    .exact e5 i hi (by rw[SH.get_set,if_neg hij];exact hio)
  .obtain⟨ρ',e1,e2,e3,e4,e5⟩:=HM.freezeAll r (hm.forget j);refine⟨ρ',e1,e2,e3,e4,λi hi hio=>?_⟩;by_cases hij:i=j
   .subst hij;exact absurd hio hown
   .rcases List.mem_cons.1 hi with hi|hi
    .exact absurd hi hij
    .exact e5 i hi (by rw[SH.get_set,if_neg hij];exact hio)
theorem HM.relay(hm:HM M w0 ρ h w){sos:List SO}{src:List (Option Nat)}(ρ':Rh)(hinj:∀k k' j:Nat,src[k]?=some (some j)->src[k']?=some (some j)->k=k')(hmem:ρ'.mem=ρ.mem)(hlo:ρ'.lo=ρ.lo)
  (hyes:∀k j:Nat,src[k]?=some (some j)->ρ' k=ρ j) (hno:∀k:Nat,k<sos.length->src[k]?=some none->ρ' k=⟨0,0,0,true⟩)
  (hso:∀(k:Nat)(so:SO),sos[k]?=some so->(src[k]?=some none/\NilSO so)\/∃j:Nat,src[k]?=some (some j)/\Ow so (h.get j)/\((h.get j).fit h.nx ρ (ρ j) w.heap[(ρ j).blk]?->so.fit sos.length ρ' (ρ j) w.heap[(ρ j).blk]?)):HM M w0 ρ' (q1y sos) w:=by
 have hsrc:∀k,((q1y sos).get k).own (ρ' k)->∃j:Nat,src[k]?=some (some j)/\(h.get j).own (ρ j)/\ρ' k=ρ j:=λk hk=>by
  rw[q2f]at hk;cases hs:sos[k]? with
  |none=>rw[hs]at hk;exact hk.elim
  |some so=>
   rw[hs]at hk;have hlt:=(List.getElem?_eq_some_iff.1 hs).1;rcases hso k so hs with ⟨h1,rfl|⟨t,sz,el,rfl⟩⟩|⟨j,h1,h2,_⟩
   .exact hk.elim
   .have hk:(ρ' k).nl=false:=hk;rw[hno k hlt h1]at hk;cases hk
   .rw[hyes k j h1]at hk;exact⟨j,h1,h2.1 _ hk,hyes k j h1⟩
 exact {
  os:=hm.os
  tape:=hm.tape
  output:=hm.output
  size:=hm.size
  block:=hm.block
  lt:=λk hk=>by
   rw[q2f]at hk;show k<sos.length;by_cases hlt:k<sos.length
   .exact hlt
   .rw[List.getElem?_eq_none (by omega)]at hk;cases hk
  ob:=λk=>by
   show((q1y sos).get k).fit sos.length ρ' (ρ' k) _;rw[q2f];cases hs:sos[k]? with
   |none=>trivial
   |some so=>
    have hlt:=(List.getElem?_eq_some_iff.1 hs).1;rcases hso k so hs with ⟨h1,rfl|⟨t,sz,el,rfl⟩⟩|⟨j,h1,_,h3⟩
    .trivial
    .rw[hno k hlt h1];exact⟨Nat.zero_le _,.inl ⟨rfl,rfl⟩⟩
    .rw[hyes k j h1];exact h3 (hm.ob j)
  ow:=λk hk=>by
   obtain⟨j,_,h2,h3⟩:=hsrc k hk;rw[h3];exact hm.ow j h2
  fz:=by rw[hmem];exact hm.fz
  sep:=λk hk=>by
   obtain⟨j,_,h2,h3⟩:=hsrc k hk;rw[h3,hmem];exact hm.sep j h2
  old:=by rw[hmem,hlo];exact hm.old
  env:=by rw[hmem];exact hm.env
  ab:=by
   have hab:∀k a,(q1y sos).get k=.abs a->∃j:Nat,src[k]?=some (some j)/\h.get j=.abs a/\ρ' k=ρ j:=λk a hk=>by
    rw[q2f]at hk;cases hs:sos[k]? with
    |none=>rw[hs]at hk;cases hk
    |some so=>
     rw[hs]at hk;have hk:so=.abs a:=hk;rcases hso k so hs with ⟨h1,rfl|⟨t,sz,el,rfl⟩⟩|⟨j,h1,h2,_⟩
     .cases hk
     .cases hk
     .exact⟨j,h1,h2.2 a hk,hyes k j h1⟩
   obtain⟨S,hS⟩:=hm.ab;refine⟨λk=>S (match src[k]? with|some (some j)=>j|_=>0),λk a hk=>?_⟩;obtain⟨j,h1,h2,h3⟩:=hab k a hk;simp only[h1];obtain⟨q1,q2⟩:=hS j a h2;rw[h3,hmem];refine⟨q1,λb hb=>?_⟩;obtain⟨r1,r2,r3,r4,r5⟩:=q2 b hb;refine⟨r1,r2,r3,λk' hk'=>?_,λk' a' hk' hb'=>?_⟩
   .obtain⟨j',_,h2',h3'⟩:=hsrc k' hk';rw[h3'];exact r4 j' h2'
   .obtain⟨j',h1',h2',h3'⟩:=hab k' a' hk';simp only[h1']at hb';have:=r5 j' a' h2' hb';subst this;exact hinj k k' j h1 h1'
  inj:=λk k' hk hk' he=>by
   obtain⟨j,h1,h2,h3⟩:=hsrc k hk;obtain⟨j',h1',h2',h3'⟩:=hsrc k' hk';rw[h3,h3']at he;have:=hm.inj j j' h2 h2' he;subst this;exact hinj k k' j h1 h1'}
end
end Go.Sx

namespace Go.Sx
open Go.RowKit
variable[Env]
def rootsV(q:Nat):List SV:=(List.range q).map λk=>.p k 0
def qav(q:Nat)(ρ:Rh):List Value:=(List.range q).map λk=>.pointer (some ⟨(ρ k).blk,(ρ k).off+0,none⟩)
section
variable{κ γ δ:Type}
def q2p(A:TA κ)(g:κ):List SO:=A.objs A.q g++A.blks A.q g
def q3l(A:TA κ)(R:TR δ)(x:κ×δ):List SO:=A.objs A.q x.1++(A.blks A.q x.1++R.blks (A.q+A.R) x.2)
theorem canonA_len(A:TA κ)(g:κ):(q2p A g).length=A.q+A.R:=by simp[q2p,A.olen,A.blen]
theorem canonO_len(A:TA κ)(R:TR δ)(x:κ×δ):(q3l A R x).length=A.q+(A.R+R.R):=by simp[q3l,A.olen,A.blen,R.blen]
def FnT(P:Program)(f:Nat)(A:TA κ)(D:DA γ)(R:TR δ)(fn:κ->γ->κ×δ)(pre:κ->γ->List Prop):Prop:=
 ∀(M:Nat->Prop)(w:World)(ρ:Rh)(g:κ)(d:γ)(vs:List Value),HM M w ρ (q1y (q2p A g)) w->(∀p∈pre g d,p)->SV.fits 0 (emp ρ.mem) (D.enc d) vs->
  Calls P f (qav A.q ρ++vs).toArray w λe w'=>∃x ρ',e=.returned x/\(∀k,k<A.q->ρ' k=ρ k)/\(∀b o,ρ.mem b=some o->ρ'.mem b=some o)/\ρ'.lo=ρ.lo/\
   HM M w ρ' (q1y (q3l A R (fn g d))) w'/\(R.val (A.q+A.R) (fn g d).2).fit (A.q+(A.R+R.R)) ρ' x
def FnTR(P:Program)(f:Nat)(A:TA κ)(D:DA γ)(R:TR δ)(post:κ->γ->κ×δ->Prop)(pre:κ->γ->List Prop):Prop:=
 ∀(M:Nat->Prop)(w:World)(ρ:Rh)(g:κ)(d:γ)(vs:List Value),HM M w ρ (q1y (q2p A g)) w->(∀p∈pre g d,p)->SV.fits 0 (emp ρ.mem) (D.enc d) vs->
  Calls P f (qav A.q ρ++vs).toArray w λe w'=>∃x ρ' r,post g d r/\e=.returned x/\(∀k,k<A.q->ρ' k=ρ k)/\(∀b o,ρ.mem b=some o->ρ'.mem b=some o)/\ρ'.lo=ρ.lo/\
   HM M w ρ' (q1y (q3l A R r)) w'/\(R.val (A.q+A.R) r.2).fit (A.q+(A.R+R.R)) ρ' x
theorem FnTR.toT{P:Program}{f:Nat}{A:TA κ}{D:DA γ}{R:TR δ}{fn:κ->γ->κ×δ}{pre:κ->γ->List Prop}(h:FnTR P f A D R (λg d r=>r=fn g d) pre):FnT P f A D R fn pre:=λM w ρ g d vs h1 h2 h3=>
 (h M w ρ g d vs h1 h2 h3).mono λe w'⟨x,ρ',r,hr,q⟩=>by subst hr;exact⟨x,ρ',q⟩
def tTree(P:Program)(Γ:Gam)(Λ:Lam)(n f:Nat)(A:TA κ)(R:TR δ)(g:κ)(args:List SV):Tr (κ×δ):=
 (fnTree P Γ Λ n f (rootsV A.q++args) (q1y (q2p A g))).bind λy=>
  match A.read y.2 (List.range A.q)with
  |some (g',ps,ids,fs)=>match R.read y.2 y.1 with
   |some (r,qs,js,gs)=>match idsOk A.q (ids++js)&&(fs++gs).all λj=>Nat.ble A.q j&&!isIn j (fdist (ids++js))with
    |true=>asks (ps++qs) (.ret (g',r))
    |false=>.bad 710
   |none=>.bad 711
  |none=>.bad 712
end
section
variable{P:Program}{Γ:Gam}{Λ:Lam}{f:Nat}{κ γ δ:Type}{A:TA κ}{D:DA γ}{R:TR δ}{fn:κ->γ->κ×δ}{pre:κ->γ->List Prop}
theorem roots_fits{q n:Nat}{ρ:Rh}(h:q<=n):SV.fits n ρ (rootsV q) (qav q ρ):=by
 refine q6f (by simp[rootsV,qav]) λj s x h1 h2=>?_
 have hj:j<q:=by
  have:=(List.getElem?_eq_some_iff.1 h1).1;simpa [rootsV]using this
 simp only[rootsV,qav,List.getElem?_map,List.getElem?_range hj,Option.map_some,Option.some.injEq]at h1 h2;subst h1;subst h2;exact⟨by omega,rfl⟩
theorem range_get{q j:Nat}(h:j<q):(List.range q)[j]?=some j:=List.getElem?_range h
theorem TR_of_tree{post:κ->γ->κ×δ->Prop}(hΓ:∀f g,Γ.g f=some g->FnOk P f g)(hΛ:∀f k L,Λ f k=some L->∀b∈q00 P f,lkey b=k->q04 P b L.g)(n:Nat)
  (hT:∀g d,D.bd d->(∀p∈pre g d,p)->(tTree P Γ Λ n f A R g (D.enc d)).Holds (post g d)):FnTR P f A D R post pre:=by
 intro M w ρ g d vs hm hpre hfit;have hT:=hT g d (D.fb _ _ _ _ hfit) hpre;have hnx:(q1y (q2p A g)).nx=A.q+A.R:=canonA_len A g
 have hargs:SV.fits (q1y (q2p A g)).nx ρ (rootsV A.q++D.enc d) (qav A.q ρ++vs):=
  q0j (roots_fits (by omega)) (D.cl d 0 _ (emp ρ.mem) ρ vs (λ_ _ h=>h) hfit)
 have h0:=fnTree_ok hΓ hΛ n M w w ρ _ _ _ _ (Tr.holds_bind hT) hm hargs;refine h0.mono ?_;rintro e w' ⟨s,h',ρ1,x,h1,h2,h3,h4,h5,rfl⟩;simp only at h1;split at h1
 .rename_i g' ps ids fs hA;split at h1
  .rename_i r qs js gs hR;split at h1
   .rename_i hchk;obtain⟨hq,h1⟩:=q1p h1;have h1:post g d (g',r):=h1;simp only[Bool.and_eq_true,List.all_eq_true,Bool.not_eq_true']at hchk;obtain⟨c1,c2⟩:=hchk;obtain⟨i1,i2⟩:=q80 c1;obtain⟨la,lq⟩:=A.ilen _ _ _ _ _ _ hA;have lj:=R.ilen _ _ _ _ _ _ hR;obtain⟨ρ2,e1,e2,e3,hm2,hfz⟩:=HM.freezeAll (fs++gs) h4
    let ρ3:Rh:=⟨λk=>if k<A.q then ρ1 k else match(ids++js)[k-A.q]? with|some (some j)=>ρ1 j|_=>⟨0,0,0,true⟩,ρ2.mem,ρ2.lo⟩
    have r3l:∀k,k<A.q->ρ3 k=ρ1 k:=λk hk=>by show(if _ then _ else _)=_;rw[if_pos hk]
    have r3y:∀k j:Nat,(ids++js)[k]?=some (some j)->ρ3 (A.q+k)=ρ1 j:=λk j hk=>by
     show(if _ then _ else _)=_;rw[if_neg (by omega),show A.q+k-A.q=k by omega,hk]
    have r3n:∀k:Nat,(ids++js)[k]?=some none->ρ3 (A.q+k)=⟨0,0,0,true⟩:=λk hk=>by
     show(if _ then _ else _)=_;rw[if_neg (by omega),show A.q+k-A.q=k by omega,hk]
    have hmm:∀b o,ρ1.mem b=some o->ρ3.mem b=some o:=e2;have hrn:Rn A.q 0 (ids++js) (A.q+(A.R+R.R)) ρ1 ρ3:=⟨by rw[List.length_append];omega,⟨r3l,hmm,e3⟩,λk j hk=>by simpa using r3y k j hk,λk hk=>by simpa using r3n k hk⟩;have hz:FzR h'.nx h' (fs++gs) ρ1 ρ3:=λj hj=>⟨_,h4.ob j,λho=>hfz j hj ho⟩;obtain⟨a1,a2⟩:=A.ok A.q 0 _ _ _ _ _ _ hA λp h=>hq p (List.mem_append_left _ h);have r1:=R.ok A.q (0+ids.length) _ _ _ _ _ _ hR λp h=>hq p (List.mem_append_right _ h);rw[show A.q+(0+ids.length)=A.q+A.R by omega]at r1
    have hkeep:∀j,j<A.q\/j∈fdist (ids++js)->(kill (fs++gs) h').get j=h'.get j:=λj hj=>by
     refine kill_get _ _ _ λhc=>?_;obtain⟨d1,d2⟩:=c2 j hc;have:=Nat.le_of_ble_eq_true d1;rcases hj with hj|hj
     .omega
     .exact isIn_not d2 hj
    have hin:∀k j:Nat,(ids++js)[k]?=some (some j)->j∈fdist (ids++js):=λk j h=>List.mem_filterMap.2 ⟨some j,List.mem_of_getElem? h,rfl⟩;have lsrc:((List.range A.q).map some).length=A.q:=by simp
    have hsl:∀k,k<A.q->((List.range A.q).map some++(ids++js))[k]?=some (some k):=λk hk=>by
     rw[List.getElem?_append_left (by omega),List.getElem?_map,List.getElem?_range hk];rfl
    have hsr:∀k,((List.range A.q).map some++(ids++js))[A.q+k]?=(ids++js)[k]?:=λk=>by
     rw[List.getElem?_append_right (by omega),lsrc,show A.q+k-A.q=k by omega]
    have hge:∀k,A.q<=k->∃k',k=A.q+k':=λk hk=>⟨k-A.q,by omega⟩;have hlen:(q3l A R (g',r)).length=A.q+(A.R+R.R):=canonO_len A R (g',r)
    have hrel:=hm2.relay (sos:=q3l A R (g',r)) (src:=(List.range A.q).map some++(ids++js)) ρ3 (λk k' j hk hk'=>by
      rcases Nat.lt_or_ge k A.q with h1|h1<;>rcases Nat.lt_or_ge k' A.q with h2|h2
      .rw[hsl k h1]at hk;rw[hsl k' h2]at hk';simp only[Option.some.injEq]at hk hk';omega
      .obtain⟨k',rfl⟩:=hge k' h2;rw[hsl k h1]at hk;rw[hsr]at hk';simp only[Option.some.injEq]at hk;have:=i2 _ _ hk';omega
      .obtain⟨k,rfl⟩:=hge k h1;rw[hsl k' h2]at hk';rw[hsr]at hk;simp only[Option.some.injEq]at hk';have:=i2 _ _ hk;omega
      .obtain⟨k,rfl⟩:=hge k h1;obtain⟨k',rfl⟩:=hge k' h2;rw[hsr]at hk hk';rw[i1 _ _ _ hk hk']) rfl rfl (λk j hk=>by
      rw[show ρ2 j=ρ1 j from congrFun e1 j];rcases Nat.lt_or_ge k A.q with h1|h1
      .rw[hsl k h1]at hk;simp only[Option.some.injEq]at hk;subst hk;exact r3l k h1
      .obtain⟨k,rfl⟩:=hge k h1;rw[hsr]at hk;exact r3y k j hk) (λk _ hk=>by
      rcases Nat.lt_or_ge k A.q with h1|h1
      .rw[hsl k h1]at hk;cases hk
      .obtain⟨k,rfl⟩:=hge k h1;rw[hsr]at hk;exact r3n k hk) (λk so hso=>by
      rw[hlen];have e1':∀j,ρ2 j=ρ1 j:=λj=>congrFun e1 j;rcases Nat.lt_or_ge k A.q with hk|hk
      .right;unfold q3l at hso;rw[List.getElem?_append_left (by rw[A.olen];exact hk)]at hso;obtain⟨o1,o2,o4,o3⟩:=a2 k k so (range_get hk) (by simpa using hso);refine⟨k,hsl k hk,⟨λL _=>?_,λa ha=>?_⟩,λhf=>?_⟩
       .rw[hkeep k (.inl hk)];exact o1 L
       .rw[hkeep k (.inl hk)];exact(o4 a).1 ha
       .rw[hkeep k (.inl hk),e1']at hf;rw[e1'];rw[kill_nx]at hf;have hf1:(h'.get k).fit h'.nx ρ1 (ρ1 k) w'.heap[(ρ1 k).blk]?:=h4.ob k;exact o3 _ _ _ _ _ _ hrn.left hz.left hf1
      .obtain⟨k,rfl⟩:=hge k hk;unfold q3l at hso;rw[List.getElem?_append_right (by rw[A.olen];omega),A.olen,show A.q+k-A.q=k by omega]at hso;rw[hsr];by_cases hkA:k<A.R
       .rw[List.getElem?_append_left (by rw[A.blen];exact hkA)]at hso;rw[List.getElem?_append_left (by omega)];rcases a1.blk k so (by simpa using hso)with ⟨b1,b2⟩|⟨j,b1,b2,b3⟩
        .exact .inl ⟨b1,b2⟩
        .have hjm:=hin k j (by rw[List.getElem?_append_left (by omega)];exact b1);refine .inr ⟨j,b1,?_,λ_=>?_⟩
         .rw[hkeep j (.inr hjm)];exact b2
         .rw[e1'];exact b3 _ _ _ _ _ _ hrn.left hz.left (h4.ob j)
       .rw[List.getElem?_append_right (by rw[A.blen];omega),A.blen]at hso;rw[List.getElem?_append_right (by omega),la];rcases r1.blk (k-A.R) so hso with ⟨b1,b2⟩|⟨j,b1,b2,b3⟩
        .exact .inl ⟨b1,b2⟩
        .have hjm:=hin k j (by rw[List.getElem?_append_right (by omega),la];exact b1);refine .inr ⟨j,b1,?_,λ_=>?_⟩
         .rw[hkeep j (.inr hjm)];exact b2
         .rw[e1'];exact b3 _ _ _ _ _ _ hrn.right hz.right (h4.ob j))
    refine⟨x,ρ3,(g',r),h1,rfl,λk hk=>?_,λb o hb=>hmm _ _ (h3.2.1 b o hb),?_,hrel,?_⟩
    .rw[r3l k hk];exact h3.1 k (by rw[hnx];omega)
    .show ρ2.lo=_;rw[e3];exact h3.2.2
    .have:=r1.fit _ _ _ _ [x] hrn.right hz.right ⟨h5,trivial⟩;exact this.1
   .exact h1.elim
  .exact h1.elim
 .exact h1.elim
theorem T_of_tree(hΓ:∀f g,Γ.g f=some g->FnOk P f g)(hΛ:∀f k L,Λ f k=some L->∀b∈q00 P f,lkey b=k->q04 P b L.g)(n:Nat)
  (hT:∀g d,D.bd d->(∀p∈pre g d,p)->(tTree P Γ Λ n f A R g (D.enc d)).Holds (·=fn g d)):FnT P f A D R fn pre:=FnTR.toT (TR_of_tree hΓ hΛ n hT)
theorem q2q(hΓ:∀f g,Γ.g f=some g->FnOk P f g)(hΛ:∀f k L,Λ f k=some L->∀b∈q00 P f,lkey b=k->q04 P b L.g)(n:Nat)(z:κ×δ)(S:κ->γ->Prop)
  (hS:∀g d,(tTree P Γ Λ n f A R g (D.enc d)).side=S g d) (he:∀g d,(tTree P Γ Λ n f A R g (D.enc d)).ev z=fn g d) (hs:∀g d,D.bd d->(∀p∈pre g d,p)->S g d):FnT P f A D R fn pre:=
 T_of_tree hΓ hΛ n λg d h1 h2=>by
  have:=Tr.side_holds z (by rw[hS];exact hs g d h1 h2:(tTree P Γ Λ n f A R g (D.enc d)).side);rw[he g d]at this;exact this
theorem q5g{fn':κ->γ->κ×δ}{pre':κ->γ->List Prop}(h:FnT P f A D R fn pre)(hp:∀g d,(∀p∈pre' g d,p)->∀p∈pre g d,p)(he:∀g d,D.bd d->(∀p∈pre' g d,p)->fn g d=fn' g d):FnT P f A D R fn' pre':=λM w ρ g d vs hm hq hf=>by
 have:=h M w ρ g d vs hm (hp g d hq) hf;rw[he g d (D.fb _ _ _ _ hf) hq]at this;exact this
def rootsOf:Nat->List SV->Option (List Nat×List SV)
 |0,l=>some ([],l)
 |q+1,.p r 0::l=>match rootsOf q l with
  |some (rs,rest)=>some (r::rs,rest)
  |none=>none
 |_+1,_=>none
def conT(A:TA κ)(D:DA γ)(R:TR δ)(fn:κ->γ->κ×δ)(pre:κ->γ->List Prop):Con:=λargs h=>
 match rootsOf A.q args with
 |some (rs,rest)=>match A.read h rs with
  |some (g,ps,ids,fs)=>match D.dec rest with
   |some (d,qs)=>match idsOk 0 (rs.map some++ids)&&fs.isEmpty with
    |true=>asks (ps++(qs++pre g d)) ((R.put (h.nx+A.R) (fn g d).2).bind λy=>.ret (y.1,
     ⟨h.nx+(A.R+R.R),whole (rowsL h.nx (A.blks h.nx (fn g d).1++y.2))++(whole (rs.zip (A.objs h.nx (fn g d).1))++(whole ((fdist ids).map λi=>(i,SO.dead))++h.l)),h.b⟩))
    |false=>.bad 713
   |none=>.bad 714
  |none=>.bad 715
 |none=>.bad 716
theorem rootsOf_ok:∀{q:Nat}{args:List SV}{rs:List Nat}{rest:List SV}{n:Nat}{ρ:Rh}{vs:List Value},rootsOf q args=some (rs,rest)->SV.fits n ρ args vs->
  ∃vs',vs=(rs.map λr=>Value.pointer (some ⟨(ρ r).blk,(ρ r).off+0,none⟩))++vs'/\SV.fits n ρ rest vs'/\rs.length=q/\∀r∈rs,r<n
 |0,args,rs,rest,n,ρ,vs,h,hf=>by
  simp only[rootsOf,Option.some.injEq,Prod.mk.injEq]at h;obtain⟨rfl,rfl⟩:=h;exact⟨vs,rfl,hf,rfl,λr hr=>by cases hr⟩
 |q+1,args,rs,rest,n,ρ,vs,h,hf=>by
  unfold rootsOf at h;split at h
  .rename_i h0;omega
  .rename_i q' r l h0;split at h
   .rename_i rs' rest' hr;simp only[Option.some.injEq,Prod.mk.injEq]at h;obtain⟨rfl,rfl⟩:=h;obtain⟨x,vs1,rfl,hx,hl⟩:=q03 hf;have h0:q'=q:=by omega
    subst h0;obtain⟨vs',rfl,k1,k2,k3⟩:=rootsOf_ok hr hl;obtain⟨hx1,rfl⟩:=hx
    exact⟨vs',rfl,k1,by simp[k2],λi hi=>by
     rcases List.mem_cons.1 hi with rfl|hi
     .exact hx1
     .exact k3 i hi⟩
   .cases h
  .cases h
theorem look_zip{i j:Nat}{so:SO}:∀{rs:List Nat}{os:List SO}(d:SO),rs.Nodup->rs[j]?=some i->os[j]?=some so->look d i (rs.zip os)=so
 | [],_,_,_,h,_=>by simp at h
 |_::_,[],_,_,_,h=>by simp at h
 |r::rs,o::os,d,hnd,h1,h2=>by
  rw[List.zip_cons_cons,q1i];cases j with
  |zero=>
   simp only[List.getElem?_cons_zero,Option.some.injEq]at h1 h2;rw[if_pos h1.symm,h2]
  |succ j=>
   simp only[List.getElem?_cons_succ]at h1 h2;obtain⟨n1,n2⟩:=List.nodup_cons.1 hnd;have hne:¬i=r:=λh=>n1 (by rw[<-h];exact List.mem_of_getElem? h1);rw[if_neg hne];exact look_zip d n2 h1 h2
theorem look_zip_not{i:Nat}{rs:List Nat}{os:List SO}(d:SO)(h:i∉rs):look d i (rs.zip os)=d:=by
 refine q2a _ _ λhm=>h ?_;obtain⟨x,hx,rfl⟩:=List.mem_map.1 hm;exact(List.of_mem_zip hx).1
end
end Go.Sx
