/- Ledger: Take. Printed by treegen.py. -/
import Derived.Test.YthnojkbkojpadaaGreatZG1211c2fd
import Derived.Test.YthnojkbkojpadaaGreatZG104c7e85
import Derived.Test.YthnojkbkojpadaaGreatZG088b3fbb
import Derived.Test.YthnojkbkojpadaaGreatZG0935bc25
import Derived.Test.YthnojkbkojpadaaGreatZG07dea7ef
import Derived.Test.YthnojkbkojpadaaGreatZG0639e578
set_option maxRecDepth 100000
set_option linter.unusedVariables false
set_option linter.unusedSimpArgs false
set_option linter.constructorNameAsVariable false
set_option linter.all false

namespace Go.Proofs.YthnojkbkojpadaaGreat
noncomputable section
open Go.RowKit Go.Sx
def q3y(k:LdK)(c:List q00):List q00×Int:=
 netC (eC.ag c)
def q1h(k:LdK)(c:List q00):Ex×
 q84:=
 q07 (λg=>qvy g.fst g.snd.fst g.snd.snd.fst g.snd.snd.snd.fst g.snd.snd.snd.snd.fst g.snd.snd.snd.snd.snd.fst g.snd.snd.snd.snd.snd.snd) qvz (eC.ag (q3y k c).fst,(↑(q3y k c).fst.length:Int),(0:Int),(),(ePa.ag k.fst,(eP.pair eI).ag k.snd.fst,(eKy.ent eI).ag k.snd.snd.fst,k.snd.snd.snd),(0:Int),(0:Int))
def qat(k:LdK)(c:List q00):Ex×
 q82:=
 q07 (λg=>qvw g.fst g.snd.fst g.snd.snd.fst g.snd.snd.snd.fst g.snd.snd.snd.snd) qvx (eC.ag (q3y k c).fst,(↑(q3y k c).fst.length:Int),(0:Int),(),ePa.ag (q1h k c).snd.snd.snd.snd.snd.fst.fst,(eP.pair eI).ag (q1h k c).snd.snd.snd.snd.snd.fst.snd.fst,(eKy.ent eI).ag (q1h k c).snd.snd.snd.snd.snd.fst.snd.snd.fst,(q1h k c).snd.snd.snd.snd.snd.fst.snd.snd.snd)
def zjb(k:LdK)(c:List q00):TA.T taL×TR.T (TR.pure dI):=
 bif (q3y k c).snd !=(0:Int)then((ePa.ag k.fst,(eP.pair eI).ag k.snd.fst,(eKy.ent eI).ag k.snd.snd.fst,k.snd.snd.snd),(q3y k c).snd)
 else bif exB Ex.ret (q1h k c).fst then((ePa.ag (q1h k c).snd.snd.snd.snd.snd.fst.fst,(eP.pair eI).ag (q1h k c).snd.snd.snd.snd.snd.fst.snd.fst,(eKy.ent eI).ag (q1h k c).snd.snd.snd.snd.snd.fst.snd.snd.fst,(q1h k c).snd.snd.snd.snd.snd.fst.snd.snd.snd),(q1h k c).snd.snd.snd.snd.snd.snd.snd)else bif decide (IntKind.i64.wrap ((↑(q1h k c).snd.snd.snd.snd.snd.fst.snd.snd.fst.length:Int)+(q1h k c).snd.snd.snd.snd.snd.snd.fst)>(4096:Int))then((ePa.ag (q1h k c).snd.snd.snd.snd.snd.fst.fst,(eP.pair eI).ag (q1h k c).snd.snd.snd.snd.snd.fst.snd.fst,(eKy.ent eI).ag (q1h k c).snd.snd.snd.snd.snd.fst.snd.snd.fst,(q1h k c).snd.snd.snd.snd.snd.fst.snd.snd.snd),(3:Int))else((ePa.ag (qat k c).snd.snd.snd.snd.snd.fst,(eP.pair eI).ag (qat k c).snd.snd.snd.snd.snd.snd.fst,(eKy.ent eI).ag (qat k c).snd.snd.snd.snd.snd.snd.snd.fst,(qat k c).snd.snd.snd.snd.snd.snd.snd.snd),(0:Int))
def qet(k:LdK)(c:List q00):Prop:=
 eC.okL c/\(eC.ag c).length<=KS/\(((q3y k c).snd !=(0:Int))=true->ePa.okL k.fst/\(eP.pair eI).okL k.snd.fst/\∀(e:Nat),e<k.snd.snd.fst.length->True)/\(((q3y k c).snd !=(0:Int))=false->eC.okL (q3y k c).fst/\ePa.okL k.fst/\(eP.pair eI).okL k.snd.fst/\(∀(e:Nat),e<k.snd.snd.fst.length->True)/\Lp.ixJ (λc=>c.snd.fst) (λc=>c.fst) z7q (z7p (eC.ag (q3y k c).fst,(↑(q3y k c).fst.length:Int),(0:Int),(),(ePa.ag k.fst,(eP.pair eI).ag k.snd.fst,(eKy.ent eI).ag k.snd.snd.fst,k.snd.snd.snd),(0:Int),(0:Int)))/\(exB Ex.ret (q1h k c).fst=true->ePa.okL (q1h k c).snd.snd.snd.snd.snd.fst.fst/\(eP.pair eI).okL (q1h k c).snd.snd.snd.snd.snd.fst.snd.fst/\∀(e:Nat),e<(q1h k c).snd.snd.snd.snd.snd.fst.snd.snd.fst.length->True)/\(exB Ex.ret (q1h k c).fst=false->(decide (IntKind.i64.wrap ((↑(q1h k c).snd.snd.snd.snd.snd.fst.snd.snd.fst.length:Int)+(q1h k c).snd.snd.snd.snd.snd.snd.fst)>(4096:Int))=true->ePa.okL (q1h k c).snd.snd.snd.snd.snd.fst.fst/\(eP.pair eI).okL (q1h k c).snd.snd.snd.snd.snd.fst.snd.fst/\∀(e:Nat),e<(q1h k c).snd.snd.snd.snd.snd.fst.snd.snd.fst.length->True)/\(decide (IntKind.i64.wrap ((↑(q1h k c).snd.snd.snd.snd.snd.fst.snd.snd.fst.length:Int)+(q1h k c).snd.snd.snd.snd.snd.snd.fst)>(4096:Int))=false->eC.okL (q3y k c).fst/\ePa.okL (q1h k c).snd.snd.snd.snd.snd.fst.fst/\(eP.pair eI).okL (q1h k c).snd.snd.snd.snd.snd.fst.snd.fst/\(∀(e:Nat),e<(q1h k c).snd.snd.snd.snd.snd.fst.snd.snd.fst.length->True)/\Lp.ixJ (λc=>c.snd) (λc=>c.fst) z7n (z7m (eC.ag (q3y k c).fst,(↑(q3y k c).fst.length:Int),(0:Int),(),ePa.ag (q1h k c).snd.snd.snd.snd.snd.fst.fst,(eP.pair eI).ag (q1h k c).snd.snd.snd.snd.snd.fst.snd.fst,(eKy.ent eI).ag (q1h k c).snd.snd.snd.snd.snd.fst.snd.snd.fst,(q1h k c).snd.snd.snd.snd.snd.fst.snd.snd.snd))/\ePa.okL (qat k c).snd.snd.snd.snd.snd.fst/\(eP.pair eI).okL (qat k c).snd.snd.snd.snd.snd.snd.fst/\∀(e:Nat),e<(qat k c).snd.snd.snd.snd.snd.snd.snd.fst.length->True)))
theorem zja(pre:TA.T taL->DA.T aLC->List Prop)(h:∀k g,DA.bd aLC g->(∀p∈pre k g,p)->qet k g):FnT Tryz.prog 35 taL aLC (TR.pure dI) (λk g=>zjb k g) pre:=q9c (Γ:=(MTab.gamz q9z [] [])) (Λ:=zfx) (MTab.okz q9z [] []) z2a 100 default (λk g=>qet k g) (λk g=>by kernel_rfl) (λk g=>by kernel_rfl) h
open Go.RowKit Go.Sx Go.Lp
theorem qu1(c:q00):∀l:List q00,(putC c l).length<=l.length+1
 | []=>Nat.le_refl _
 |v::l=>by
  have ih:=qu1 c l;show(putK keyC q00.n mkC lexK c (v::l)).length<=_;unfold putK;split
  .simp
  .split
   .simp
   .show(v::putC c l).length<=_;simp only[List.length_cons];omega
theorem z7k(xs:List q00):(totC xs).length<=xs.length:=by
 have h:∀(xs a:List q00),(xs.foldl (λa x=>putC x a) a).length<=a.length+xs.length:=by
  intro xs
  induction xs with
  |nil=>intro a;exact Nat.le_refl _
  |cons x xs ih=>
   intro a;have h1:=ih (putC x a);have h2:=qu1 x a;rw[List.foldl_cons,List.length_cons];omega
 have:=h xs [];rw[List.length_nil,Nat.zero_add]at this;exact this
theorem qf3(xs:List q00):(netC xs).1.length<=xs.length:=by
 unfold netC;have h1:=z7k xs;have h2:=List.length_filter_le (λv:q00=>v.n !=0) (totC xs);cases xs.any tBad with
 |true=>exact Nat.zero_le _
 |false=>
  cases xs.any cBad with
  |true=>exact Nat.zero_le _
  |false=>
   cases(totC xs).any cBad with
   |true=>exact Nat.zero_le _
   |false=>exact Nat.le_trans h2 h1
def takK(k:LdK)(c:List q00):LdK×Int:=
 bif (netC c).2 !=(0:Int)then(k,(netC c).2)
 else bif (netC c).1.any (λv=>!q9y (nowM k.2.2.1 v))then(k,150)
 else bif decide (IntKind.i64.wrap ((k.2.2.1.length:Int)+(netC c).1.foldl (qbl k.2.2.1) 0)>4096)then(k,3)
 else((k.1,k.2.1,(netC c).1.foldl stpM k.2.2),0)
theorem zj9(k:LdK)(c:List q00)(h:c.length<=KS):((netC c).1.any (λv=>!q9y (nowM k.2.2.1 v))=true/\(q1h k c).1=.ret/\(q1h k c).2.2.2.2.2.1=k/\(q1h k c).2.2.2.2.2.2.2=150)\/
  ((netC c).1.any (λv=>!q9y (nowM k.2.2.1 v))=false/\(q1h k c).1=.exit 0/\(q1h k c).2.2.2.2.2.1=k/\(q1h k c).2.2.2.2.2.2.1=(netC c).1.foldl (qbl k.2.2.1) 0):=by
 have hm:(netC c).1.length<=maxLen:=Nat.le_trans (qf3 c) (Nat.le_trans h (by decide))
 have h1:q1h k c=q07 qyy qvz ((netC c).1,((netC c).1.length:Int),0,(),k,0,0):=by
  unfold q1h q3y;simp only[El.ag_eq]
 have hr:q07 qyy qvz ((netC c).1,((netC c).1.length:Int),0,(),k,0,0)=_:=q0h (φ:=z7p) (ψ:=ziw) (λ_=>rfl) (λ_=>rfl) zea zr2 ((netC c).1,((netC c).1.length:Int),k) ((),(0:Int),(0:Int)) rfl hm trivial;rw[hr]at h1;rcases scan_bad (x:=0) (st:=qnj ((netC c).1,((netC c).1.length:Int),k)) (e:=.ret) (p:=λv=>!q9y (nowM k.2.2.1 v)) (r:=λ_ b=>((),b.2.1,(150:Int))) (f:=λb v=>((),qbl k.2.2.1 b.2.1 v,b.2.2)) (by simp) (λ_ _ _=>rfl) (netC c).1 0 ((),(0:Int),(0:Int))with ⟨ha,h2,a,b',_,_,h3⟩|⟨ha,h2⟩
 .refine .inl ⟨ha,?_,?_,?_⟩
  .rw[h1];exact h2
  .rw[h1];rfl
  .rw[h1];show(scan 0 (qnj ((netC c).1,((netC c).1.length:Int),k)) 0 (netC c).1 ((),(0:Int),(0:Int))).2.2.2.2=_;rw[h3]
 .have hf:∀(l:List q00)(o r:Int),l.foldl (λ(b:qdr)v=>(((),qbl k.2.2.1 b.2.1 v,b.2.2):qdr)) ((),o,r)=((),l.foldl (qbl k.2.2.1) o,r):=by
   intro l
   induction l with
   |nil=>intro o r;rfl
   |cons a l ih=>intro o r;rw[List.foldl_cons,ih];rfl
  rw[hf]at h2;refine .inr ⟨ha,?_,?_,?_⟩
  .rw[h1];show(scan 0 (qnj ((netC c).1,((netC c).1.length:Int),k)) 0 (netC c).1 ((),(0:Int),(0:Int))).1=_;rw[h2]
  .rw[h1];rfl
  .rw[h1];show(scan 0 (qnj ((netC c).1,((netC c).1.length:Int),k)) 0 (netC c).1 ((),(0:Int),(0:Int))).2.2.2.1=_;rw[h2]
theorem zio(xs:List q00)(k:LdK)(h:xs.length<=maxLen):∃j,q07 qyx qvx (xs,(xs.length:Int),0,(),k)=(.exit 2,xs,(xs.length:Int),j,(),k.1,k.2.1,xs.foldl stpM k.2.2):=by
 have e:q07 qyx qvx (xs,(xs.length:Int),0,(),k)=_:=q0h (φ:=z7m) (ψ:=zis) (λ_=>rfl) (λ_=>rfl) ze7 zqz (xs,(xs.length:Int)) ((),k) rfl h trivial;have hs:=scan_fold (x:=2) (st:=qyw (xs,(xs.length:Int))) (f:=λ(b:qas)v=>((),b.2.1,b.2.2.1,stpM b.2.2.2 v)) (λ_ _ _=>rfl) xs 0 ((),k)
 have hf:∀(l:List q00)(k:LdK),l.foldl (λ(b:qas)v=>(((),b.2.1,b.2.2.1,stpM b.2.2.2 v):qas)) ((),k)=((),k.1,k.2.1,l.foldl stpM k.2.2):=by
  intro l
  induction l with
  |nil=>intro k;rfl
  |cons a l ih=>intro k;rw[List.foldl_cons,ih];rfl
 rw[hf]at hs;exact⟨0+(xs.length:Int),e.trans (by rw[hs];rfl)⟩
theorem zj8(k:LdK)(c:List q00)(h:c.length<=KS)(h2:(q1h k c).2.2.2.2.2.1=k):(qat k c).2.2.2.2.2=(k.1,k.2.1,(netC c).1.foldl stpM k.2.2):=by
 have hm:(netC c).1.length<=maxLen:=Nat.le_trans (qf3 c) (Nat.le_trans h (by decide));obtain⟨j,e⟩:=zio (netC c).1 k hm;unfold qat;rw[h2];unfold q3y;simp only[El.ag_eq];exact congrArg (λz=>z.2.2.2.2.2) e
theorem zef(k:LdK)(c:List q00)(h:c.length<=KS):qet k c/\zjb k c=takK k c:=by
 have hm:(netC c).1.length<=maxLen:=Nat.le_trans (qf3 c) (Nat.le_trans h (by decide));have hq1:q3y k c=netC c:=by unfold q3y;rw[El.ag_eq]
 unfold qet zjb takK;simp only[El.okL_eq,El.ag_eq,hq1];cases h0:(netC c).2 !=(0:Int)with
 |true=>exact⟨⟨trivial,h,λ_=>⟨trivial,trivial,λ_ _=>trivial⟩,λh=>(by cases h)⟩,rfl⟩
 |false=>
  rcases zj9 k c h with ⟨ha,h1,h2,h3⟩|⟨ha,h1,h2,h3⟩
  .rw[h1,h2,h3,ha];exact⟨⟨trivial,h,λh=>(by cases h),λ_=>⟨trivial,trivial,trivial,λ_ _=>trivial,ixJ0 rfl hm trivial,λ_=>⟨trivial,trivial,λ_ _=>trivial⟩,λh=>(by cases h)⟩⟩,rfl⟩
  .have h4:=zj8 k c h h2;rw[h1,h2,h3,h4,ha];refine⟨⟨trivial,h,λh=>(by cases h),λ_=>⟨trivial,trivial,trivial,λ_ _=>trivial,ixJ0 rfl hm trivial,λh=>(by cases h),λ_=>⟨λ_=>⟨trivial,trivial,λ_ _=>trivial⟩,λ_=>⟨trivial,trivial,trivial,λ_ _=>trivial,ixJ0 rfl hm trivial,trivial,trivial,λ_ _=>trivial⟩⟩⟩⟩,rfl⟩
theorem zxn:FnT Tryz.prog 35 taL aLC (TR.pure dI) takK (λ_ c=>[c.length<=KS]):=
 qhs (zja (λ_ c=>[c.length<=KS]) λk c _ hp=>(zef k c (hp _ (List.mem_cons_self ..))).1) (λ_ _ h=>h) λk c _ hp=>(zef k c (hp _ (List.mem_cons_self ..))).2
end
end Go.Proofs.YthnojkbkojpadaaGreat

namespace Go.Proofs.YthnojkbkojpadaaGreat
open Go.RowKit Go.Sx Go.Lp
set_option maxRecDepth 10000
def mk3(e:MK):q00:=mkC e.1 e.2.1
abbrev SmN(n:Int):Prop:=-1099511627776<=n/\n<=1099511627776
abbrev RlM(m:List MK×Nat):Prop:=Bn m.1 m.2/\Kd m.1/\∀e∈m.1,e.2.1≠0/\SmN e.2.1
theorem q66{m:List MK}(hk:Kd m){e:MK}(he:e∈m):valM m e.1=e.2.1:=by
 obtain⟨i,hi,rfl⟩:=List.getElem_of_mem he;have hg:m.getD i dK=m[i]:=by simp[List.getD_eq_getElem?_getD,hi]
 have h:=qgz (λx:MK=>x.1) (d:=dK) hk hi;rw[hg]at h;unfold valM;rw[show kAt m m[i].1=i from h,decide_eq_true hi,cond_true,hg]
theorem q6u{m:List MK}{t:Ky}(h:∀e∈m,e.1≠t):valM m t=0:=by
 have h1:kAt m t=m.length:=List.findIdx_eq_length.2 λx hx=>by simpa usingλe=>h x hx e.symm
 unfold valM;rw[h1,decide_eq_false (Nat.lt_irrefl _),cond_false]
theorem q6d(m:List MK)(t:Ky):(∃e∈m,e.1=t)\/∀e∈m,e.1≠t:=by
 by_cases h:∃e∈m,e.1=t
 .exact .inl h
 .exact .inr λe he hh=>h ⟨e,he,hh⟩
theorem z6w:∀{m:List MK},Kd m->∀{e:MK},e∈m->accK keyC q00.n addW 0 (m.map mk3) e.1=addW 0 e.2.1
 | [],_,e,he=>by cases he
 |a::m,hk,e,he=>by
  have hk':=List.pairwise_cons.1 hk;unfold accK;rw[List.map_cons,List.filter_cons];rcases List.mem_cons.1 he with rfl|he
  .rw[if_pos (by simp[mk3,qgn]),List.filter_eq_nil_iff.2 λx hx=>by
    obtain⟨y,hy,rfl⟩:=List.mem_map.1 hx;rw[show decide (keyC (mk3 y)=e.1)=false from decide_eq_false (Ne.symm (hk'.1 y hy))];exact Bool.false_ne_true]
   rfl
  .rw[if_neg (by rw[show decide (keyC (mk3 a)=e.1)=false from decide_eq_false (hk'.1 e he)];exact Bool.false_ne_true)];exact z6w hk'.2 he
theorem zx8{n:Int}(h:SmN n):addW 0 n=n:=by
 unfold addW;rw[Int.zero_add];exact wrS (by omega)
theorem z1h{m:List MK×Nat}(h:RlM m):MapOf keyC q00.n addW 0 (m.1.map mk3) m:=by
 obtain⟨h1,h2,h3⟩:=h;refine⟨h1,h2,λk=>?_,λe he=>?_⟩
 .constructor
  .rintro⟨e,he,rfl⟩;exact⟨mk3 e,List.mem_map_of_mem he,rfl⟩
  .rintro⟨x,hx,rfl⟩;obtain⟨e,he,rfl⟩:=List.mem_map.1 hx;exact⟨e,he,rfl⟩
 .rw[z6w h2 he,zx8 (h3 e he).2]
theorem qym{xs:List q00}{m:List MK×Nat}(h:MapOf keyC q00.n addW 0 xs m)(t:Ky):valM m.1 t=accK keyC q00.n addW 0 xs t:=by
 obtain⟨h1,h2,h3,h4⟩:=h;rcases q6d m.1 t with ⟨e,he,rfl⟩|hn
 .rw[q66 h2 he];exact h4 e he
 .rw[q6u hn,qqg];intro hx;obtain⟨e,he,hh⟩:=(h3 t).2 hx;exact hn e he hh
theorem z7e{m:List MK×Nat}(h:RlM m)(v:q00)(t:Ky):valM (q5u m v).1 t=if keyC v=t then addW (valM m.1 t) v.n else valM m.1 t:=by
 have h1:=z1h h;have h2:=qym (qlw keyC q00.n addW 0 dK h1 v) t;rw[q9a]at h2;rw[qym h1 t];exact h2
theorem zlo{m:List MK×Nat}(h:RlM m)(v:q00):Bn (q5u m v).1 (q5u m v).2/\Kd (q5u m v).1:=by
 have h1:=qlw keyC q00.n addW 0 dK (z1h h) v;exact⟨h1.1,h1.2.1⟩
theorem zlp(m:List MK×Nat)(v:q00):(∃x,(q5u m v).1[kAt m.1 (keyC v)]?=some x/\x.1=keyC v)/\(q5u m v).1.length=if kAt m.1 (keyC v)<m.1.length then m.1.length else m.1.length+1:=by
 unfold q5u qef;by_cases hi:kAt m.1 (keyC v)<m.1.length
 .have hi':m.1.findIdx (λe=>decide (keyC v=e.1))<m.1.length:=hi;rw[if_pos hi',if_pos hi];refine⟨⟨_,List.getElem?_set_self hi',rfl⟩,List.length_set ..⟩
 .have hi':¬m.1.findIdx (λe=>decide (keyC v=e.1))<m.1.length:=hi;have he:kAt m.1 (keyC v)=m.1.length:=Nat.le_antisymm (qv1 _ _) (by omega);rw[if_neg hi',if_neg hi,he];exact⟨⟨_,List.getElem?_concat_length,rfl⟩,by simp⟩
theorem z4n{l:List MK}{clk:Nat}(hb:Bn l clk)(hk:Kd l){i:Nat}(hi:i<l.length):l.eraseIdx i=l.filter λx=>!decide (x.1=l[i].1):=by
 have h:=qe4 hb hi (λ_=>true) (λx=>!decide (x.1=l[i].1)) (by simp) λx hx hne=>by
  have:x.1≠l[i].1:=λhe=>by
   obtain⟨j,hj,rfl⟩:=List.getElem_of_mem hx;by_cases hij:j=i
   .subst hij;exact hne rfl
   .have hp:=List.pairwise_iff_getElem.1 hk;rcases Nat.lt_or_gt_of_ne hij with hlt|hlt
    .exact hp j i hj hi hlt he
    .exact hp i j hi hj hlt he.symm
  simp[this]
 rwa [List.filter_eq_self.2 λ_ _=>rfl]at h
theorem qvs{l:List MK}(hk:Kd l)(s t:Ky):valM (l.filter λx=>!decide (x.1=s)) t=if t=s then 0 else valM l t:=by
 by_cases h:t=s
 .rw[if_pos h];refine q6u λe he=>?_;have:=(List.mem_filter.1 he).2;rw[h];simpa using this
 .rw[if_neg h];rcases q6d l t with ⟨e,he,rfl⟩|hn
  .rw[q66 hk he,q66 (z2k hk _) (List.mem_filter.2 ⟨he,by simpa using h⟩)]
  .rw[q6u hn,q6u λe he=>hn e (List.mem_filter.1 he).1]
theorem zx4{m:List MK}(hn:∀e∈m,e.2.1≠0)(t:Ky):(kAt m t<m.length)↔valM m t≠0:=by
 unfold valM;by_cases h:kAt m t<m.length
 .rw[decide_eq_true h,cond_true];have hg:m.getD (kAt m t) dK=m[kAt m t]:=by simp[List.getD_eq_getElem?_getD,h]
  rw[hg];exact⟨λ_=>hn _ (List.getElem_mem h),λ_=>h⟩
 .rw[decide_eq_false h,cond_false];exact⟨λh'=>absurd h' h,λh'=>absurd rfl h'⟩
abbrev dlt(a b:Int):Int:=(if a=0 then 1 else 0)-(if b=0 then 1 else 0)
theorem zqq{m:List MK×Nat}(h:RlM m)(t:Ky):SmN (valM m.1 t):=by
 rcases q6d m.1 t with ⟨e,he,rfl⟩|hn
 .rw[q66 h.2.1 he];exact(h.2.2 e he).2
 .rw[q6u hn];exact⟨by decide,by decide⟩
theorem zjj{m:List MK×Nat}(h:RlM m){v:q00}(hv:SmN (valM m.1 (keyC v)+v.n)):
  RlM (stpM m v)/\(∀t,valM (stpM m v).1 t=valM m.1 t+if keyC v=t then v.n else 0)/\((stpM m v).1.length:Int)=m.1.length+dlt (valM m.1 (keyC v)) (valM m.1 (keyC v)+v.n):=by
 obtain⟨k1,k2⟩:=zlo h v;obtain⟨⟨x0,a0,a2⟩,a3⟩:=zlp m v;obtain⟨a1,a4⟩:=List.getElem?_eq_some_iff.1 a0;rw[<-a4]at a2;have hadd:addW (valM m.1 (keyC v)) v.n=valM m.1 (keyC v)+v.n:=wrS (by unfold SmN at hv;omega)
 have hval:∀t,valM (q5u m v).1 t=valM m.1 t+if keyC v=t then v.n else 0:=λt=>by
  rw[z7e h v t];by_cases ht:keyC v=t
  .subst ht;rw[if_pos rfl,if_pos rfl,hadd]
  .rw[if_neg ht,if_neg ht,Int.add_zero]
 have hat:=zx4 (m:=m.1) (λe he=>(h.2.2 e he).1) (keyC v)
 have hent:∀e∈(q5u m v).1,e.1≠keyC v->e.2.1≠0/\SmN e.2.1:=λe he hne=>by
  have h1:=hval e.1;rw[q66 k2 he,if_neg (Ne.symm hne),Int.add_zero]at h1;rcases q6d m.1 e.1 with ⟨e',he',hh⟩|hn
  .rw[<-hh,q66 h.2.1 he']at h1;rw[h1];exact h.2.2 e' he'
  .exfalso;have:=(qlw keyC q00.n addW 0 dK (z1h h) v).2.2.1 e.1;obtain⟨x,hx,hxe⟩:=this.1 ⟨e,he,rfl⟩;rcases List.mem_append.1 hx with hx|hx
   .obtain⟨y,hy,rfl⟩:=List.mem_map.1 hx;exact hn y hy hxe
   .rw[List.mem_singleton]at hx;subst hx;exact hne hxe.symm
 unfold stpM;rw[hadd];cases hz:(valM m.1 (keyC v)+v.n)==(0:Int)with
 |true=>
  have hz:valM m.1 (keyC v)+v.n=0:=by simpa using hz
  have he:=z4n k1 k2 a1;rw[a2]at he;simp only[cond_true];refine⟨⟨zdr k1 _,zb4 k2 _,λe he'=>?_⟩,λt=>?_,?_⟩
  .show e.2.1≠0/\SmN e.2.1;have he':e∈(q5u m v).1.eraseIdx (kAt m.1 (keyC v)):=he';rw[he,List.mem_filter]at he';exact hent e he'.1 (by simpa using he'.2)
  .show valM ((q5u m v).1.eraseIdx (kAt m.1 (keyC v))) t=_;rw[he,qvs k2,hval];by_cases ht:t=keyC v
   .subst ht;rw[if_pos rfl,if_pos rfl,hz]
   .rw[if_neg ht,if_neg (Ne.symm ht)]
  .show((((q5u m v).1.eraseIdx (kAt m.1 (keyC v))).length:Nat):Int)=_;rw[List.length_eraseIdx_of_lt a1,a3,hz];unfold dlt;rw[if_pos rfl];by_cases hp:kAt m.1 (keyC v)<m.1.length
   .rw[if_pos hp,if_neg (hat.1 hp)];omega
   .have:valM m.1 (keyC v)=0:=Classical.byContradiction λhc=>hp (hat.2 hc);rw[if_neg hp,if_pos this];omega
 |false=>
  have hz:valM m.1 (keyC v)+v.n≠0:=by simpa using hz
  simp only[cond_false];refine⟨⟨k1,k2,λe he'=>?_⟩,hval,?_⟩
  .by_cases hk:e.1=keyC v
   .have h1:=hval e.1;rw[q66 k2 he',if_pos hk.symm,hk]at h1;rw[h1];exact⟨hz,hv⟩
   .exact hent e he' hk
  .rw[a3];unfold dlt;rw[if_neg hz];by_cases hp:kAt m.1 (keyC v)<m.1.length
   .rw[if_pos hp,if_neg (hat.1 hp)];omega
   .have:valM m.1 (keyC v)=0:=Classical.byContradiction λhc=>hp (hat.2 hc);rw[if_neg hp,if_pos this];omega
theorem zlr{m:List MK}{v:q00}(hv:SmN (valM m (keyC v)+v.n)){o:Int}(ho:-1000000000<=o/\o<=1000000000):qbl m o v=o+dlt (valM m (keyC v)) (valM m (keyC v)+v.n):=by
 have hn:nowM m v=valM m (keyC v)+v.n:=wrS (by unfold SmN at hv;omega);unfold qbl dlt;rw[hn];have w1:IntKind.i64.wrap (o+1)=o+1:=wrS (by omega);have w2:IntKind.i64.wrap (o+1-1)=o+1-1:=wrS (by omega);have w3:IntKind.i64.wrap (o-1)=o-1:=wrS (by omega);by_cases h1:valM m (keyC v)+v.n=0
 .rw[if_pos h1,show(valM m (keyC v)+v.n==(0:Int))=true by simpa using h1,cond_true];by_cases h2:valM m (keyC v)=0
  .rw[if_pos h2,show(valM m (keyC v)==(0:Int))=true by simpa using h2,cond_true,w1,w2];omega
  .rw[if_neg h2,show(valM m (keyC v)==(0:Int))=false by simpa using h2,cond_false,w3];omega
 .rw[if_neg h1,show(valM m (keyC v)+v.n==(0:Int))=false by simpa using h1,cond_false];by_cases h2:valM m (keyC v)=0
  .rw[if_pos h2,show(valM m (keyC v)==(0:Int))=true by simpa using h2,cond_true,w1];omega
  .rw[if_neg h2,show(valM m (keyC v)==(0:Int))=false by simpa using h2,cond_false];omega
theorem zbt(m0:List MK)(B:Int)(hB:B=1000000000)(net:List q00):(net.Pairwise λa b=>keyC a≠keyC b)->∀(m:List MK×Nat)(o:Int),RlM m->(∀v∈net,valM m.1 (keyC v)=valM m0 (keyC v)/\SmN (valM m0 (keyC v)+v.n))->-(B-net.length)<=o->o<=B-net.length->
  RlM (net.foldl stpM m)/\(∀t,valM (net.foldl stpM m).1 t=valM m.1 t+sumC net t)/\((net.foldl stpM m).1.length:Int)=m.1.length+(net.foldl (qbl m0) o-o)/\-B<=net.foldl (qbl m0) o/\net.foldl (qbl m0) o<=B:=by
 induction net with
 |nil=>
  intro _ m o h _ h1 h2;simp only[List.length_nil,Int.natCast_zero,Int.sub_zero]at h1 h2;refine⟨h,λt=>(Int.add_zero _).symm,?_,h1,h2⟩;rw[List.foldl_nil,List.foldl_nil];omega
 |cons v net ih=>
  intro hd m o h hv h1 h2;have hd':=List.pairwise_cons.1 hd;obtain⟨e1,e2⟩:=hv v (List.mem_cons_self ..);obtain⟨s1,s2,s3⟩:=zjj h (v:=v) (by rw[e1];exact e2);simp only[List.length_cons,Int.natCast_add,Int.cast_ofNat_Int]at h1 h2;have hm:=zlr e2 (o:=o) (by omega)
  have hb:-1<=dlt (valM m0 (keyC v)) (valM m0 (keyC v)+v.n)/\dlt (valM m0 (keyC v)) (valM m0 (keyC v)+v.n)<=1:=by
   unfold dlt;constructor<;>split<;>split<;>omega
  obtain⟨f1,f2,f3,f4⟩:=ih hd'.2 (stpM m v) (qbl m0 o v) s1 (λx hx=>by
   have:=hv x (List.mem_cons_of_mem _ hx);rw[s2,if_neg (hd'.1 x hx),Int.add_zero];exact this) (by rw[hm];omega) (by rw[hm];omega)
  refine⟨f1,λt=>?_,?_,f4⟩
  .rw[List.foldl_cons,f2,s2];simp only[sumC,sumK];omega
  .rw[List.foldl_cons,List.foldl_cons,f3,s3,hm,e1];omega
end Go.Proofs.YthnojkbkojpadaaGreat

namespace Go.Proofs.YthnojkbkojpadaaGreat
noncomputable section
open Go.RowKit Go.Sx Go.Lp
set_option maxRecDepth 10000
def q3b(c net:List q00):List q00:=(net.foldl (λa x=>putC x a) c).filter λv=>v.n !=(0:Int)
def takC(g:Ldg)(xs:List q00):Ldg×Int:=
 bif (netC xs).2 !=(0:Int)then(g,(netC xs).2)
 else bif (netC xs).1.any (λv=>!q9y (sumC g.c (keyC v)+v.n))then(g,150)
 else bif decide ((q3b g.c (netC xs).1).length>4096)then(g,3)
 else(⟨g.l,g.dep,q3b g.c (netC xs).1⟩,0)
theorem zll(xs:List q00):SrtC (netC xs).1/\∀v∈(netC xs).1,SmN v.n:=by
 unfold netC;cases xs.any tBad with
 |true=>exact⟨List.Pairwise.nil,λv hv=>by cases hv⟩
 |false=>
  cases xs.any cBad with
  |true=>exact⟨List.Pairwise.nil,λv hv=>by cases hv⟩
  |false=>
   cases h:(totC xs).any cBad with
   |true=>exact⟨List.Pairwise.nil,λv hv=>by cases hv⟩
   |false=>
    refine⟨List.Pairwise.sublist List.filter_sublist (qar xs),λv hv=>?_⟩;have hv:v∈totC xs:=(List.mem_filter.1 hv).1;have h1:=List.any_eq_false.1 h v hv;unfold cBad at h1;exact(qrh v.n).1 (by simpa using h1)
theorem zek(l:List q00)(t:Ky):sumC (l.filter λv=>v.n !=(0:Int)) t=sumC l t:=by
 induction l with
 |nil=>rfl
 |cons v l ih=>
  rw[List.filter_cons];by_cases h:v.n=0
  .rw[if_neg (by simp[h]),ih];show _=(if keyC v=t then v.n else 0)+sumC l t;rw[h];simp
  .rw[if_pos (by simpa using h)];show(if keyC v=t then v.n else 0)+sumC (l.filter _) t=(if keyC v=t then v.n else 0)+sumC l t;rw[ih]
theorem qoa{c net:List q00}(hc:SrtC c):SrtC (q3b c net)/\(∀t,sumC (q3b c net) t=sumC c t+sumC net t)/\∀v∈q3b c net,v.n≠0:=by
 obtain⟨h1,h2,h3⟩:=qaq keyC q00.n toK qgn qu8 net c hc;refine⟨List.Pairwise.sublist List.filter_sublist h1,λt=>?_,λv hv=>?_⟩
 .unfold q3b;rw[zek];exact h3 t
 .have:=(List.mem_filter.1 hv).2;simpa using this
theorem zs9{m:List MK×Nat}{c:List q00}(hm:RlM m)(hc:SrtC c)(hn:∀v∈c,v.n≠0)(hv:∀t,valM m.1 t=sumC c t):∀y:q00,y∈c↔∃e∈m.1,y=⟨e.1.1,e.1.2,e.2.1⟩:=by
 have hd:=qim keyC toK hc;intro y;constructor
 .intro hy;have h1:=q3n keyC q00.n hd hy;have h2:=hv (keyC y);rcases q6d m.1 (keyC y)with ⟨e,he,hh⟩|hnn
  .rw[<-hh,q66 hm.2.1 he,hh]at h2;refine⟨e,he,extC _ _ ?_ ?_⟩
   .rw[<-hh];rfl
   .show y.n=e.2.1;rw[h2];exact h1.symm
  .rw[q6u hnn]at h2;exact absurd (h1.symm.trans h2.symm) (hn y hy)
 .rintro⟨e,he,rfl⟩;have h1:=hv e.1;rw[q66 hm.2.1 he]at h1;by_cases hy:∃y∈c,keyC y=e.1
  .obtain⟨y,hy,hk⟩:=hy;have h2:=q3n keyC q00.n hd hy;rw[hk]at h2;have:y=⟨e.1.1,e.1.2,e.2.1⟩:=extC _ _ (hk.trans rfl) (by show y.n=e.2.1;rw[h1];exact h2.symm);rw[<-this];exact hy
  .have:sumC c e.1=0:=qav keyC q00.n λx hx hk=>hy ⟨x,hx,hk⟩;rw[this]at h1;exact absurd h1 (hm.2.2 e he).1
theorem zsa{k:LdK}{g:Ldg}(h:relL k g):RlM k.2.2/\SrtC g.c/\(∀v∈g.c,v.n≠0/\SmN v.n)/\(∀t,valM k.2.2.1 t=sumC g.c t)/\k.2.2.1.length=g.c.length:=by
 have ho:=qtu h;obtain⟨_,_,hb,hk,hn,_,hs,hm⟩:=h;have hs':SrtC g.c:=hs.imp λ{a b}h=>h;have hd:=qim keyC toK hs';refine⟨⟨hb,hk,hn⟩,hs',λv hv=>?_,λt=>?_,?_⟩
 .obtain⟨e,he,rfl⟩:=(hm v).1 hv;exact hn e he
 .rcases q6d k.2.2.1 t with ⟨e,he,rfl⟩|hnn
  .rw[q66 hk he];exact(q3n keyC q00.n hd ((hm _).2 ⟨e,he,rfl⟩)).symm
  .rw[q6u hnn];refine(qav keyC q00.n λx hx hk=>?_).symm;obtain⟨e,he,rfl⟩:=(hm x).1 hx;exact hnn e he hk
 .have hkd:KdM (k.2.2.1.map d3e):=List.pairwise_map.2 (hk.imp λ{a b}h=>h);have h1:=qqp (qg2 hkd) (List.Perm.refl _);have h2:=(q2b cfC (outF (k.2.2.1.map d3e))).length_eq;rw[h1]at h2;rw[<-ho];show _=(totC _).length;rw[h2];unfold outF;rw[List.length_map,List.filter_eq_self.2,List.length_map];intro e he;obtain⟨e',he',rfl⟩:=List.mem_map.1 he;have:=(hn e' he').1;show(e'.2.1 !=(0:Int))=true;simpa using this
theorem zqe{l:List q00}{p q:q00->Bool}(h:∀v∈l,p v=q v):l.any p=l.any q:=by
 induction l with
 |nil=>rfl
 |cons v l ih=>rw[List.any_cons,List.any_cons,h v (List.mem_cons_self ..),ih λx hx=>h x (List.mem_cons_of_mem _ hx)]
theorem zj7{k:LdK}{g:Ldg}(h:relL k g){xs:List q00}(hl:xs.length<=KS):relL (takK k xs).1 (takC g xs).1/\(takK k xs).2=(takC g xs).2:=by
 obtain⟨r1,r2,r3,r4,r5⟩:=zsa h;obtain⟨n1,n2⟩:=zll xs;have hnl:(netC xs).1.length<=1000000:=Nat.le_trans (qf3 xs) hl;have h4:=h.2.2.2.2.2.1;unfold takK takC;cases(netC xs).2 !=(0:Int)with
 |true=>exact⟨h,rfl⟩
 |false=>
  simp only[cond_false]
  have hany:(netC xs).1.any (λv=>!q9y (nowM k.2.2.1 v))=(netC xs).1.any (λv=>!q9y (sumC g.c (keyC v)+v.n)):=zqe λv hv=>by
   have h1:=zqq r1 (keyC v);have h2:=n2 v hv
   have:nowM k.2.2.1 v=sumC g.c (keyC v)+v.n:=by
    unfold nowM;rw[wrS (by unfold SmN at h1 h2;omega),r4]
   rw[this]
  rw[hany];cases ha:(netC xs).1.any (λv=>!q9y (sumC g.c (keyC v)+v.n))with
  |true=>exact⟨h,rfl⟩
  |false=>
   simp only[cond_false]
   obtain⟨f1,f2,f3,f4,f5⟩:=zbt k.2.2.1 1000000000 rfl (netC xs).1 (qim keyC toK n1) k.2.2 0 r1 (λv hv=>⟨rfl,by
    have:=List.any_eq_false.1 ha v hv;rw[r4];exact(qrh _).1 (by simpa using this)⟩) (by omega) (by omega)
   obtain⟨p1,p2,p3⟩:=qoa (net:=(netC xs).1) r2;have hv:∀t,valM ((netC xs).1.foldl stpM k.2.2).1 t=sumC (q3b g.c (netC xs).1) t:=λt=>by rw[f2,p2,r4]
   have hmm:=zs9 f1 p1 p3 hv
   have hlen:((netC xs).1.foldl stpM k.2.2).1.length=(q3b g.c (netC xs).1).length:=by
    have hrel:∀hle:((netC xs).1.foldl stpM k.2.2).1.length<=4096,True:=λ_=>trivial;have hkd:KdM (((netC xs).1.foldl stpM k.2.2).1.map d3e):=List.pairwise_map.2 (f1.2.1.imp λ{a b}h=>h)
    have e1:ordC (((netC xs).1.foldl stpM k.2.2).1.map d3e)=q3b g.c (netC xs).1:=by
     refine q58 keyC q00.n lexK toK extC (qar _) p1 λy=>?_;show y∈totC _↔_;rw[qyu (qg2 hkd),hmm y];unfold outF;constructor
     .intro hy;obtain⟨e,he,rfl⟩:=List.mem_map.1 hy;obtain⟨he,_⟩:=List.mem_filter.1 he;obtain⟨e',he',rfl⟩:=List.mem_map.1 he;exact⟨e',he',rfl⟩
     .rintro⟨e,he,rfl⟩;refine List.mem_map.2 ⟨d3e e,List.mem_filter.2 ⟨List.mem_map.2 ⟨e,he,rfl⟩,?_⟩,rfl⟩;have:=(f1.2.2 e he).1;show(e.2.1 !=(0:Int))=true;simpa using this
    have h1:=qqp (qg2 hkd) (List.Perm.refl _);have h2:=(q2b cfC (outF (((netC xs).1.foldl stpM k.2.2).1.map d3e))).length_eq;rw[h1]at h2;rw[<-e1];show _=(totC _).length;rw[h2];unfold outF;rw[List.length_map,List.filter_eq_self.2,List.length_map];intro e he;obtain⟨e',he',rfl⟩:=List.mem_map.1 he;have:=(f1.2.2 e' he').1;show(e'.2.1 !=(0:Int))=true;simpa using this
   have hw:IntKind.i64.wrap ((k.2.2.1.length:Int)+(netC xs).1.foldl (qbl k.2.2.1) 0)=((q3b g.c (netC xs).1).length:Int):=by
    rw[wrS (by omega),<-hlen];omega
   rw[hw];have hd:decide (((q3b g.c (netC xs).1).length:Int)>4096)=decide ((q3b g.c (netC xs).1).length>4096):=decide_eq_decide.2 (by omega);rw[hd];by_cases hc:(q3b g.c (netC xs).1).length>4096
   .rw[decide_eq_true hc];exact⟨h,rfl⟩
   .rw[decide_eq_false hc];refine⟨⟨h.1,h.2.1,f1.1,f1.2.1,f1.2.2,?_,p1.imp λ{a b}h=>h,hmm⟩,rfl⟩;show((netC xs).1.foldl stpM k.2.2).1.length<=4096;omega
open Go.RowKit Go.Sx
abbrev trAl:TR (List q00):=TR.ct (CT.fnv 85 (CT.fz 59 eC) rfl) rfl
def q9v(k:LdK)(_u:Unit):List
 q00:=
 ordC ((eKy.pair eI).lst k.snd.snd.fst.length λe=>List.take (9:Nat) ((ElE.fn ((eKy.ent eI).els k.snd.snd.fst)).at e))
def qt5(k:LdK)(_u:Unit):TA.T taL×TR.T trAl:=
 ((ePa.ag k.fst,(eP.pair eI).ag k.snd.fst,(eKy.ent eI).ag k.snd.snd.fst,k.snd.snd.snd),eC.ag (q9v k _u))
def q9u(k:LdK)(_u:Unit):Prop:=
 (∀(e:Nat),e<k.snd.snd.fst.length->(eKy.pair eI).Ok (List.take (9:Nat) ((ElE.fn ((eKy.ent eI).els k.snd.snd.fst)).at e)))/\((eKy.pair eI).lst k.snd.snd.fst.length λe=>List.take (9:Nat) ((ElE.fn ((eKy.ent eI).els k.snd.snd.fst)).at e)).length<=KS/\KdM ((eKy.pair eI).lst k.snd.snd.fst.length λe=>List.take (9:Nat) ((ElE.fn ((eKy.ent eI).els k.snd.snd.fst)).at e))/\ePa.okL k.fst/\(eP.pair eI).okL k.snd.fst/\(∀(e:Nat),e<k.snd.snd.fst.length->True)/\(q9v k _u).length<=(q9v k _u).length/\∀(e:Nat),e<(q9v k _u).length->True
theorem z6u(pre:TA.T taL->DA.T DA.none->List Prop)(h:∀k g,DA.bd DA.none g->(∀p∈pre k g,p)->q9u k g):FnT Tryz.prog 42 taL DA.none trAl (λk g=>qt5 k g) pre:=q9c (Γ:=(MTab.gamz q9z [] [])) (Λ:=qp4) (MTab.okz q9z [] []) q74 100 default (λk g=>q9u k g) (λk g=>by kernel_rfl) (λk g=>by kernel_rfl) h
theorem zg2(m:List MK):((eKy.pair eI).lst m.length λe=>List.take (9:Nat) ((ElE.fn ((eKy.ent eI).els m)).at e))=m.map d3e:=by
 have e:=qsj (K:=eKy) (V:=eI) (m:=m.length) (el:=(eKy.ent eI).els m) λe _=>El.ok_els _ _ e;rw[El.lst_els]at e;exact e
theorem zyh(m:List MK)(e:Nat):(eKy.pair eI).Ok (List.take (9:Nat) ((ElE.fn ((eKy.ent eI).els m)).at e)):=(qk7 (K:=eKy) (V:=eI) (El.ok_els _ _ _)).1
theorem zu0{m:List MK}(h:Kd m):KdM (m.map d3e):=List.pairwise_map.2 (h.imp λ{a b}h=>h)
def allK(k:LdK):List q00:=ordC (k.2.2.1.map d3e)
abbrev preK(k:LdK):List Prop:=[k.2.2.1.length<=KS,Kd k.2.2.1]
theorem zqh:FnT Tryz.prog 42 taL DA.none trAl (λk _=>(k,allK k)) (λk _=>preK k):=by
 have hq1:∀(k:LdK)(u:Unit),q9v k u=allK k:=λk u=>by unfold q9v;rw[zg2];rfl
 refine qhs (z6u (λk _=>preK k) λk u hb hp=>?_) (λ_ _ h=>h) λk u hb hp=>?_
 .have h1:k.2.2.1.length<=KS:=hp _ (List.mem_cons_self ..);have h2:Kd k.2.2.1:=hp _ (List.mem_cons_of_mem _ (List.mem_cons_self ..));show q9u k u;unfold q9u;simp only[El.okL_eq,El.ag_eq,zg2,hq1];exact⟨λ_ _=>zyh _ _,by rw[List.length_map];exact h1,zu0 h2,trivial,trivial,λ_ _=>trivial,Nat.le_refl _,λ_ _=>trivial⟩
 .show qt5 k u=_;unfold qt5;rw[hq1];simp only[El.ag_eq]
  try rfl
def newK(l:List Path):Option LdK×Int:=bif chkP l !=(0:Int)then(none,chkP l)else(some (l,(qpx l).1.map d3e,[],0),0)
theorem new_c:FnT Tryz.prog 34 TA.nil aLPo trN (λ_ l=>((),newK l)) (λ_ l=>[l.length<=K30]):=by
 have hq:∀l,q7f () l=turK ([],[],[],0) l:=λl=>by
  unfold q7f;simp only[El.ag_eq];rfl
 refine qhs (zlh (λ_ l=>[l.length<=K30]) λk l hb hp=>?_) (λ_ _ h=>h) λk l hb hp=>?_
 .have hl:l.length<=K30:=hp _ (List.mem_cons_self ..);show qf2 () l;unfold qf2;simp only[El.okL_eq,El.ag_eq];exact⟨λ_ _=>trivial,trivial,hl,λ_=>⟨trivial,trivial,λ_ _=>trivial⟩⟩
 .show zli () l=_;unfold zli newK;rw[hq];unfold turK;simp only[El.ag_eq];cases h:chkP l !=(0:Int)with
  |true=>simp only[cond_true];rw[h];rfl
  |false=>rfl
abbrev taW:TA Ldg:=TA.abs wLd
theorem pr1{p:Prop}{l:List Prop}(h:∀x∈p::l,x):p:=h _ (List.mem_cons_self ..)
theorem pr0:∀x∈([]:List Prop),x:=λ_ h=>by cases h
theorem prc{p:Prop}{l:List Prop}(h:p)(h':∀x∈l,x):∀x∈p::l,x:=λx hx=>by
 rcases List.mem_cons.1 hx with rfl|hx
 .exact h
 .exact h' x hx
theorem z9a{k:LdK}{g:Ldg}(h:relL k g):allK k=g.c:=qtu h
theorem zsb{k:LdK}{g:Ldg}(h:relL k g):∀p∈preK k,p:=prc (Nat.le_trans h.2.2.2.2.2.1 (by decide)) (prc h.2.2.2.1 pr0)
theorem takW:FnT Tryz.prog 35 taW aLC (TR.pure dI) takC (λ_ c=>[c.length<=KS]):=
 zxb qrq qgl repL (zqk zxn) (λ_ _ _ _ _ h=>h) λk g d r h _ hp hr=>by
  subst hr;exact zj7 h (pr1 hp)
theorem allW:FnT Tryz.prog 42 taW DA.none trAl (λg _=>(g,g.c)) (λ_ _=>[]):=
 zx9 qrq qgl repL (λb g so hs a=>absurd (show so∈([]:List SO)from hs) List.not_mem_nil) (zqk zqh) (λk a d h _ _=>zsb h) λk g d r h _ hp hr=>by
  subst hr;exact⟨h,z9a h⟩
def newC(l:List Path):Option Ldg×Int:=bif chkP l !=(0:Int)then(none,chkP l)else(some ⟨l,(qpx l).1.map d3e,[]⟩,0)
abbrev dLW:Ldg:=⟨[],[],[]⟩
abbrev trNW:TR (Option Ldg×Int):=TR.tup (CT.pair (CT.opt (CT.abs wLd) dLW rfl) (CT.pl eI))
theorem newW:FnT Tryz.prog 34 TA.nil aLPo trNW (λ_ l=>((),newC l)) (λ_ l=>[l.length<=K30]):=
 zxa qrq qgl repL (zqk new_c) (λl _ h=>h) λl r _ hp hr=>by
  subst hr;unfold newK newC;cases h:chkP l !=(0:Int)with
  |true=>exact⟨rfl,.inl ⟨rfl,rfl⟩⟩
  |false=>
   refine⟨rfl,.inr ⟨_,_,rfl,rfl,rfl,rfl,⟨List.Pairwise.nil,λx hx=>absurd hx List.not_mem_nil⟩,List.Pairwise.nil,λe he=>absurd he List.not_mem_nil,Nat.zero_le _,List.Pairwise.nil,λy=>?_⟩⟩;constructor
   .intro h;cases h
   .rintro⟨e,he,_⟩;cases he
abbrev p0:Place:=⟨1,2⟩
abbrev pa0:Path:=⟨p0,p0,[⟨0,0,0,0,0,0,0,0⟩]⟩
def eLSC:El (List S):=zha eS λ_=>rfl
def ePaC:El Path:=.iso (.pair eP (.pair eP eLSC)) Path.ofP Path.toP (λ_=>rfl) (λ_=>rfl)
abbrev qep:DA (List Path):=.one (.listB ePaC)
abbrev aSpB:DA (List Spot):=.one (.listB eSp)
abbrev dLPE:Dv (List Path×Int):=.tup (.cons dLP (.one dI))
abbrev eSpB:El (List Spot):=zha eSp λ_=>rfl
abbrev aGP:DA (List Spot×Place):=.cons (dPrP eSpB) (.one dP)
def qw4:MTab Tryz.prog:=MTab.of PTab.nil
def usW:List (Nat×Nat×Nat):=[(111,5,3),(52,2,3),(145,4,3),(17,3,3),(112,3,3),(112,7,3),(69,6,3),(146,2,3),(114,3,3),(114,6,3)]
abbrev tSt:Tr (List Path×Int):=q21 Tryz.prog (MTab.gamz qw4 [(4000000,0)] usW) noΛ 100 111 (DA.enc aSpB [⟨p0,0⟩]) dLPE
abbrev tFd:Tr Int:=q21 Tryz.prog (MTab.gamz qw4 [(4000000,0)] usW) noΛ 100 146 (DA.enc aGP ([⟨p0,0⟩],p0)) dI
abbrev tSp:Tr (List Spot):=q21 Tryz.prog (MTab.gamz qw4 [(4000000,0)] usW) noΛ 100 17 (DA.enc qep [pa0]) dLSp
theorem z6v:∀p∈([]:List Prop),p:=λ_ h=>by cases h
theorem q2u{a:Prop}{l:List Prop}(h:a)(hl:∀p∈l,p):∀p∈a::l,p:=λp hp=>by
 rcases List.mem_cons.1 hp with e|hp
 .rw[e];exact h
 .exact hl p hp
theorem qqf{p q:Prop}(hq:q)(h:p∈[]++[]++([]++[]++[q])):p:=by
 simp only[List.nil_append,List.mem_singleton]at h;rw[h];exact hq
abbrev ix0:Prop:=(0:Int)<=(0:Int)/\(0:Int)<(1:Int)
theorem q7g:ix0:=⟨by decide,by decide⟩
abbrev gr0(n:Nat):Prop:=True/\True/\(1:Nat)<=(9223372036854775807:Nat)/\n<=(140737488355328:Nat)
abbrev elSt:ElE:=ElE.app (0:Nat) (ElE.fn λx=>[])
      (ElE.fn λx=>
       [SV.v (Value.int IntKind.i64 (1:Int)),SV.v (Value.int IntKind.i64 (2:Int)),
        SV.v (Value.int IntKind.i64 (1:Int)),SV.v (Value.int IntKind.i64 (2:Int)),
        SV.rs (8:Nat) (1:Nat) λe=>
         List.take (8:Nat)
          (List.drop ((0:Nat)+e*(8:Nat))
           [SV.v (Value.int IntKind.i64 (0:Int)),SV.v (Value.int IntKind.i64 (0:Int)),
            SV.k (Value.int IntKind.i64 (0:Int)),SV.k (Value.int IntKind.i64 (0:Int)),
            SV.k (Value.int IntKind.i64 (0:Int)),SV.k (Value.int IntKind.i64 (0:Int)),
            SV.k (Value.int IntKind.i64 (0:Int)),SV.k (Value.int IntKind.i64 (0:Int))])])
abbrev elSp:ElE:=ElE.app (0:Nat) (ElE.fn λx=>[])
      (ElE.fn λx=>
       [SV.v (Value.int IntKind.i64 (1:Int)),SV.v (Value.int IntKind.i64 (2:Int)),
        SV.v (Value.int IntKind.i64 (0:Int))])
theorem zjk:tSt.asksC=[ix0,ix0,true=true->ix0,ix0,ix0,ix0,gr0 56,1<=1,∀e:Nat,e<1->ePa.Ok (elSt.at e)]:=by kernel_rfl
theorem zxr:tSt.evC default=([pa0],0):=by kernel_rfl
theorem zjl:tSp.asksC=[ix0,ix0,ix0,ix0,ix0,gr0 24,1<=1,∀e:Nat,e<1->eSp.Ok (elSp.at e)]:=by kernel_rfl
theorem zxt:tSp.evC default=[⟨p0,0⟩]:=by kernel_rfl
theorem znn:tFd.asksC=[ix0]:=by kernel_rfl
theorem zyp:tFd.evC default=0:=by kernel_rfl
theorem zo6:∀e:Nat,e<1->ePa.Ok (elSt.at e):=λe he=>by
 obtain rfl:e=0:=by omega
 refine El.okP (A:=ePa) λp hp=>qqf (λe he=>?_) hp;obtain rfl:e=0:=by omega
 exact El.okP (A:=eS) trivial
theorem zo7:∀e:Nat,e<1->eSp.Ok (elSp.at e):=λe he=>by
 obtain rfl:e=0:=by omega
 exact El.okP (A:=eSp) trivial
theorem zxq:q09 Tryz.prog 111 aSpB dLPE (λ_=>([pa0],0)) (λg=>[g=[⟨p0,0⟩]]):=q26 (MTab.okz qw4 [(4000000,0)] usW) q0f 100 λg _ hp=>by
 obtain rfl:g=[⟨p0,0⟩]:=hp _ (List.mem_cons_self ..);have h:=Tr.asksC_holds (t:=tSt) default (by rw[zjk];exact q2u q7g<|q2u q7g<|q2u (λ_=>q7g)<|q2u q7g<|q2u q7g<|q2u q7g<|q2u ⟨trivial,trivial,by omega,by omega⟩<|q2u (Nat.le_refl _)<|q2u zo6 z6v);rw[zxr]at h;exact h
theorem zxs:q09 Tryz.prog 17 qep dLSp (λ_=>[⟨p0,0⟩]) (λg=>[g=[pa0]]):=q26 (MTab.okz qw4 [(4000000,0)] usW) q0f 100 λg _ hp=>by
 obtain rfl:g=[pa0]:=hp _ (List.mem_cons_self ..);have h:=Tr.asksC_holds (t:=tSp) default (by rw[zjl];exact q2u q7g<|q2u q7g<|q2u q7g<|q2u q7g<|q2u q7g<|q2u ⟨trivial,trivial,by omega,by omega⟩<|q2u (Nat.le_refl _)<|q2u zo7 z6v);rw[zxt]at h;exact h
theorem zyo:q09 Tryz.prog 146 aGP dI (λ_=>0) (λg=>[g=([⟨p0,0⟩],p0)]):=q26 (MTab.okz qw4 [(4000000,0)] usW) q0f 100 λg _ hp=>by
 obtain rfl:g=([⟨p0,0⟩],p0):=hp _ (List.mem_cons_self ..);have h:=Tr.asksC_holds (t:=tFd) default (by rw[znn];exact q2u q7g z6v);rw[zyp]at h;exact h
def zei:MTab Tryz.prog:=MTab.of (((PTab.nil.cons 111 (qbf aSpB dLPE (λ_=>([pa0],0)) (λg=>[g=[⟨p0,0⟩]])) (q3v zxq)).cons 17 (qbf qep dLSp (λ_=>[⟨p0,0⟩]) (λg=>[g=[pa0]])) (q3v zxs)).cons 146 (q1y aGP dI (λ_=>0) (λg=>[g=([⟨p0,0⟩],p0)])) (q0k zyo puI))
abbrev tOf:Tr (List Path×Int):=q21 Tryz.prog (MTab.gamz zei [(4000000,0)] usW) noΛ 100 69 (DA.enc (.cons (.listB eSp) (.one (.listB eE))) ([⟨p0,0⟩],[])) dLPE
abbrev t3:T:=⟨3,0,0,0,0,0⟩
abbrev ch0:q00:=⟨p0,t3,1⟩
abbrev ch1:q00:=⟨p0,t3,-1⟩
abbrev zz1:DA (List Path×Place×List q00):=.cons (.listB ePaC) (.cons dP (.one (.listB eC)))
abbrev zqj:DA (List Path×Place×List q00):=.cons (.listB ePaC) (.cons dP (.one (.list eC)))
abbrev dLTE:Dv (List T×Int):=.tup (.cons (.list eT) (.one dI))
def q8a:MTab Tryz.prog:=MTab.of PTab.nil
abbrev tCk:Tr Int:=q21 Tryz.prog (MTab.gamz q8a [(4000000,0)] []) noΛ 100 33 (DA.enc qep [pa0]) dI
abbrev cLd0:CT LdK:=.iso (.pair (.kb true) (.pair (.fz 105 ePa) (.pair (.fzm true false eP eI) (.map true false eKy eI)))) (λg=>g.2) (λk=>((),k)) (λ_=>rfl)
abbrev dLK0:LdK:=([],[],[],0)
abbrev trN0:TR (Option LdK×Int):=TR.tup (CT.pair (CT.opt (CT.ptr 89 cLd0) dLK0 rfl) (CT.pl eI))
abbrev aLS1:DA (List S):=.one dLS
abbrev aTs:DA (List T):=.one (.list eT)
abbrev aLP1:DA (List Path):=.one dLP
def z6b(l:List S):Rv.T (.list eS):=
 List.map (λx=>eS.get []) (List.range (min ((0:Nat)+l.length) (0:Nat)))++eS.lst ((0:Nat)+l.length-(0:Nat)) (eS.els l)
def qcl(l:List S):Prop:=
 ∀(cs:List Nat),(cs.isEmpty=false->l.length=(0:Nat))->((false !=!cs.isEmpty)=true->∀(d:List S),[]=List.map (λx=>eS.get []) (List.range (min ((0:Nat)+l.length) (0:Nat)))++eS.lst ((0:Nat)+l.length-(0:Nat)) (eS.els l))/\((false !=!cs.isEmpty)=false->((0:Nat)<=(0:Nat)/\(∀(e:Nat),e<l.length->(eS.els l e).all SV.one=true)/\(0:Nat)+l.length<=maxLen/\((0:Nat)+l.length)*Tryz.prog.types[(42:Nat)].bytes<=(140737488355328:Nat))/\(0:Nat)+l.length<=(0:Nat)+l.length/\(∀(e:Nat),e<min ((0:Nat)+l.length) (0:Nat)->eS.OkP [])/\(∀(e:Nat),e<(0:Nat)+l.length-(0:Nat)->True)/\∀(d:List S),List.map (λx=>eS.get []) (List.range (min ((0:Nat)+l.length) (0:Nat)))++eS.lst ((0:Nat)+l.length-(0:Nat)) (eS.els l)=List.map (λx=>eS.get []) (List.range (min ((0:Nat)+l.length) (0:Nat)))++eS.lst ((0:Nat)+l.length-(0:Nat)) (eS.els l))
theorem zd6(pre:DA.T aLS1->List Prop)(h:∀g,DA.bd aLS1 g->(∀p∈pre g,p)->qcl g):q09 Tryz.prog 56 aLS1 (Rv.D (.list eS)) (λg=>z6b g) pre:=q2l (R:=(.list eS)) (Γ:=(MTab.gamz q8a [] [])) (Λ:=noΛ) (MTab.okz q8a [] []) q0f 100 default (λg=>qcl g) (λg=>by kernel_rfl) (λg=>by kernel_rfl) h
theorem clp1(xs:List Path):qqj Tryz.prog (PTab.gamz (PTab.nil:PTab Tryz.prog) [] []) noΛ 100 87 105 ePa (aLP1.enc xs)=
 Tr.all λcs=>Tr.giv (cs.isEmpty=false->xs.length=(0:Nat)) (Tr.br (false !=!cs.isEmpty) (Tr.ret []) (Tr.ask ((0:Nat)<=(0:Nat)/\(∀(e:Nat),e<xs.length->(ePa.els xs e).all SV.one=true)/\(0:Nat)+xs.length<=maxLen/\((0:Nat)+xs.length)*Tryz.prog.types[(105:Nat)].bytes<=(140737488355328:Nat)) (Tr.ask ((0:Nat)+xs.length=(0:Nat)+xs.length) (Tr.ask (∀(e:Nat),e<min ((0:Nat)+xs.length) (0:Nat)->ePa.OkP []) (Tr.ask (∀(e:Nat),e<(0:Nat)+xs.length-(0:Nat)->∀(p:Prop),p∈[]++[]++([]++[]++[∀(e_1:Nat),e_1<(xs.getD e ePa.dflt).ss.length->eS.Ok (eS.els (xs.getD e ePa.dflt).ss e_1)])->p) (Tr.ret (List.map (λx=>ePa.get []) (List.range (min ((0:Nat)+xs.length) (0:Nat)))++ePa.lst ((0:Nat)+xs.length-(0:Nat)) (ePa.els xs)))))))):=by kernel_rfl
theorem clt1(xs:List T):qqj Tryz.prog (PTab.gamz (PTab.nil:PTab Tryz.prog) [] []) noΛ 100 103 47 eT (aTs.enc xs)=
 Tr.all λcs=>Tr.giv (cs.isEmpty=false->xs.length=(0:Nat)) (Tr.br (false !=!cs.isEmpty) (Tr.ret []) (Tr.ask ((0:Nat)<=(0:Nat)/\(∀(e:Nat),e<xs.length->(eT.els xs e).all SV.one=true)/\(0:Nat)+xs.length<=maxLen/\((0:Nat)+xs.length)*Tryz.prog.types[(47:Nat)].bytes<=(140737488355328:Nat)) (Tr.ask ((0:Nat)+xs.length=(0:Nat)+xs.length) (Tr.ask (∀(e:Nat),e<min ((0:Nat)+xs.length) (0:Nat)->eT.OkP []) (Tr.ask (∀(e:Nat),e<(0:Nat)+xs.length-(0:Nat)->True) (Tr.ret (List.map (λx=>eT.get []) (List.range (min ((0:Nat)+xs.length) (0:Nat)))++eT.lst ((0:Nat)+xs.length-(0:Nat)) (eT.els xs)))))))):=by kernel_rfl
theorem zwa:q09 Tryz.prog 56 aLS1 (Rv.D (.list eS)) (λl=>l) (λl=>[l.length<=1000000]):=by
 have byt:∀h:42<Tryz.prog.types.size,(Tryz.prog.types[(42:Nat)]'h).bytes=64:=λh=>by kernel_rfl
 have ap:∀l:List S,List.map (λ_=>eS.get []) (List.range (min (0+l.length) 0))++eS.lst (0+l.length-0) (eS.els l)=l:=λl=>by simp[El.lst_els]
 refine q19 (zd6 (λl=>[l.length<=1000000]) λl hb hp=>?_) λl hb hp=>?_
 .have hl:l.length<=1000000:=hp _ (List.mem_cons_self ..);show qcl l;unfold qcl;simp only[ap,byt];intro cs hcs;refine⟨λh=>?_,λh=>?_⟩
  .have:cs.isEmpty=false:=by cases hc:cs.isEmpty<;>simp_all
   have:=List.eq_nil_of_length_eq_zero (hcs this);subst this;intro _;rfl
  .repeat' (first|apply And.intro|intro _)
   all_goals first|trivial|exact eS.one_els _ _|omega|(unfold maxLen;omega)|exact El.ok_els _ _ _
 .show z6b l=l;unfold z6b;exact ap l
theorem zw9:qie Tryz.prog 87 105 ePa aLP1 (λl=>l) (λl=>[l.length<=1000000]):=
 q5d (PTab.okz (PTab.nil:PTab Tryz.prog) [] []) q0f 100 λl _ hp=>by
  have byt:∀h:105<Tryz.prog.types.size,(Tryz.prog.types[(105:Nat)]'h).bytes=56:=λh=>by kernel_rfl
  have h:l.length<=1000000:=hp _ (List.mem_cons_self ..);rw[clp1];intro cs hcs;refine⟨λhc=>?_,λ_=>?_⟩
  .have hx:l=[]:=List.length_eq_zero_iff.1 (hcs (by cases hh:cs.isEmpty with
    |true=>rw[hh]at hc;cases hc
    |false=>rfl))
   exact hx.symm
  .refine⟨⟨Nat.le_refl _,λe _=>rfl,by unfold maxLen;omega,by rw[byt];omega⟩,rfl,λe he=>absurd he (by omega),λe _ p hp=>?_,?_⟩
   .simp only[List.append_nil,List.nil_append,List.mem_singleton]at hp;rw[hp];exactλe' _=>El.ok_els _ _ _
   .show _++_=l;simp[El.lst_els]
theorem zw8:qie Tryz.prog 103 47 eT aTs (λl=>l) (λl=>[l.length<=1000000]):=
 q5d (PTab.okz (PTab.nil:PTab Tryz.prog) [] []) q0f 100 λl _ hp=>by
  have byt:∀h:47<Tryz.prog.types.size,(Tryz.prog.types[(47:Nat)]'h).bytes=48:=λh=>by kernel_rfl
  have h:l.length<=1000000:=hp _ (List.mem_cons_self ..);rw[clt1];intro cs hcs;refine⟨λhc=>?_,λ_=>?_⟩
  .have hx:l=[]:=List.length_eq_zero_iff.1 (hcs (by cases hh:cs.isEmpty with
    |true=>rw[hh]at hc;cases hc
    |false=>rfl))
   exact hx.symm
  .refine⟨⟨Nat.le_refl _,λe _=>rfl,by unfold maxLen;omega,by rw[byt];omega⟩,rfl,λe he=>absurd he (by omega),λe _=>?_,?_⟩
   .first|trivial|exact El.ok_els _ _ _
   .show _++_=l;simp[El.lst_els]
def zje:MTab Tryz.prog:=((MTab.of PTab.nil).consM 56 (zby aLS1 (Rv.D (.list eS)) (λl=>l) (λl=>[l.length<=1000000])) (qmn zwa)).consM 87 (qt3 105 ePa aLP1 (λl=>l) (λl=>[l.length<=1000000])) (qhe zw9)
def zjd:MTab Tryz.prog:=zje.consM 103 (qne 47 eT aTs (λl=>l) (λl=>[l.length<=1000000])) (qdi (λa=>q1c (pu_v _) (q1c (pu_v _) (pus4 _ _ _ _))) zw8)
abbrev MPd0:Type:=List (Place×Int×Int)×Nat
abbrev ck0:Prop:=(0:Int)<=(0:Int)/\(0:Int)<(1:Int)
theorem ck0p:ck0:=by decide
abbrev ck1:Prop:=∀(e:Nat),e<(0:Nat)->(4:Nat)=(4:Nat)
theorem ck1p:ck1:=λ_ _=>rfl
abbrev ck2:Prop:=∀(e:Nat),e<(0:Nat)->True
theorem ck2p:ck2:=λ_ _=>trivial
abbrev ck3:Prop:=∀(e:Nat),e<(1:Nat)->(4:Nat)=(4:Nat)
theorem ck3p:ck3:=λ_ _=>rfl
abbrev ck4:Prop:=∀(e:Nat),e<(1:Nat)->True
theorem ck4p:ck4:=λ_ _=>trivial
abbrev ck5:Prop:=True/\True/\(1:Nat)<=(9223372036854775807:Nat)/\(64:Nat)<=(140737488355328:Nat)
theorem ck5p:ck5:=⟨trivial,trivial,by decide,by decide⟩
abbrev ck6:Prop:=(0:Int)<=(1:Int)/\(1:Int)<(256:Int)
theorem ck6p:ck6:=by decide
abbrev ck7:Prop:=(0:Nat)<(1:Nat)
theorem ck7p:ck7:=by decide
theorem ck_h:(tCk).Holds (·=(0:Int)):=Tr.hn_holds (by rw[show(tCk).hn (0:Int)=(ck0/\ck0/\ck1/\ck2/\ck0/\ck3/\ck4/\ck3/\ck4/\ck0/\ck0/\ck0/\ck0/\ck0/\ck0/\ck5/\ck6/\ck0/\ck7/\ck0/\ck0/\(0:Int)=(0:Int)) by kernel_rfl];exact⟨ck0p,ck0p,ck1p,ck2p,ck0p,ck3p,ck4p,ck3p,ck4p,ck0p,ck0p,ck0p,ck0p,ck0p,ck0p,ck5p,ck6p,ck0p,ck7p,ck0p,ck0p,rfl⟩)
theorem rck1:q09 Tryz.prog 33 qep dI (λ_=>0) (λg=>[g=[pa0]]):=q26 (MTab.okz q8a [(4000000,0)] []) q0f 100 λg _ hp=>by
 obtain rfl:g=[pa0]:=hp _ (List.mem_cons_self ..);exact ck_h
def qik:MTab Tryz.prog:=zjd.cons 33 (q1y qep dI (λ_=>0) (λg=>[g=[pa0]])) (q0k rck1 puI)
abbrev tDp:Tr (Unit×MPd0):=q6w Tryz.prog (MTab.gamz qik [(4000000,0)] []) noΛ 100 88 TA.nil (trM true false eP eI) () (DA.enc qep [pa0])
abbrev tFr1:Tr (List T×Int):=q21 Tryz.prog (MTab.gamz qik [(4000000,0)] []) noΛ 100 22 (DA.enc zz1 ([pa0],p0,[ch0])) dLTE
abbrev tFr0:Tr (List T×Int):=q21 Tryz.prog (MTab.gamz qik [(4000000,0)] []) noΛ 100 22 (DA.enc zqj ([pa0],p0,[])) dLTE
abbrev fd0:Prop:=[Path.mk (Place.mk (1:Int) (2:Int)) (Place.mk (1:Int) (2:Int)) [S.mk (0:Int) (0:Int) (0:Int) (0:Int) (0:Int) (0:Int) (0:Int) (0:Int)]]=[Path.mk (Place.mk (1:Int) (2:Int)) (Place.mk (1:Int) (2:Int)) [S.mk (0:Int) (0:Int) (0:Int) (0:Int) (0:Int) (0:Int) (0:Int) (0:Int)]]
theorem fd0p:fd0:=rfl
abbrev fd1:Prop:=(0:Int)<=(0:Int)/\(0:Int)<(1:Int)
theorem fd1p:fd1:=by decide
abbrev fd2:Prop:=∀(e:Nat),e<(0:Nat)->(4:Nat)=(4:Nat)
theorem fd2p:fd2:=λ_ _=>rfl
abbrev fd3:Prop:=∀(e:Nat),e<(0:Nat)->True
theorem fd3p:fd3:=λ_ _=>trivial
abbrev fd4:Prop:=∀(e:Nat),e<(1:Nat)->(4:Nat)=(4:Nat)
theorem fd4p:fd4:=λ_ _=>rfl
abbrev fd5:Prop:=∀(e:Nat),e<(1:Nat)->True
theorem fd5p:fd5:=λ_ _=>trivial
abbrev fd6:Prop:=∀(e:Nat),e<(0:Nat)->(6:Nat)=(6:Nat)
theorem fd6p:fd6:=λ_ _=>rfl
abbrev fd7:Prop:=True/\True/\(1:Nat)<=(9223372036854775807:Nat)/\(16:Nat)<=(140737488355328:Nat)
theorem fd7p:fd7:=⟨trivial,trivial,by decide,by decide⟩
abbrev fd8:Prop:=∀(e:Nat),e<(1:Nat)->(6:Nat)=(6:Nat)
theorem fd8p:fd8:=λ_ _=>rfl
abbrev fd9:Prop:=True/\True/\(1:Nat)<=(9223372036854775807:Nat)/\(48:Nat)<=(140737488355328:Nat)
theorem fd9p:fd9:=⟨trivial,trivial,by decide,by decide⟩
abbrev fd10:Prop:=(0:Nat)<(1:Nat)
theorem qi9:fd10:=by decide
abbrev fd11:Prop:=(1:Nat)<=(1:Nat)
theorem zbx:fd11:=by decide
abbrev fd12:Prop:=∀(e:Nat),e<(1:Nat)->eT.Ok ((ElE.app (0:Nat) (ElE.fn λx=>[]) (ElE.fn λx=>[SV.v (Value.int IntKind.i64 (3:Int)),SV.v (Value.int IntKind.i64 (0:Int)),SV.k (Value.int IntKind.i64 (0:Int)),SV.k (Value.int IntKind.i64 (0:Int)),SV.k (Value.int IntKind.i64 (0:Int)),SV.k (Value.int IntKind.i64 (0:Int))])).at e)
theorem zv8:fd12:=λe he=>by obtain rfl:e=0:=(by omega);exact El.okP (A:=eT) trivial
abbrev fd13:Prop:=(1:Nat)<=(1000000:Nat)
theorem zv7:fd13:=by decide
abbrev fd14:Prop:=(0:Int)<=(1:Int)/\(1:Int)<(256:Int)
theorem zv6:fd14:=by decide
abbrev fd15:Prop:=∀(e:Nat),e<(1:Nat)->eT.Ok ((ElE.app (0:Nat) (ElE.fn λx=>[]) (ElE.fn λx=>[SV.v (Value.int IntKind.i64 (3:Int)),SV.v (Value.int IntKind.i64 (0:Int)),SV.v (Value.int IntKind.i64 (0:Int)),SV.v (Value.int IntKind.i64 (0:Int)),SV.v (Value.int IntKind.i64 (0:Int)),SV.v (Value.int IntKind.i64 (0:Int))])).at e)
theorem zv5:fd15:=λe he=>by obtain rfl:e=0:=(by omega);exact El.okP (A:=eT) trivial
abbrev fd16:Prop:=(0:Nat)<=(1000000:Nat)
theorem zv4:fd16:=by decide
abbrev fd17:Prop:=(0:Int)<=(0:Int)/\(0:Int)<(256:Int)
theorem zv3:fd17:=by decide
abbrev fd18:Prop:=True/\True/\(1:Nat)<=(9223372036854775807:Nat)/\(24:Nat)<=(140737488355328:Nat)
theorem zv2:fd18:=⟨trivial,trivial,by decide,by decide⟩
abbrev fd19:Prop:=True
theorem zv1:fd19:=trivial
abbrev zbq:=(([t3],0):List T×Int)
theorem fr1h:(tFr1).Holds (·=(([t3],0):List T×Int)):=Tr.hn_holds (by rw[show(tFr1).hn (([t3],0):List T×Int)=(fd0/\fd1/\fd1/\fd2/\fd3/\fd4/\fd5/\fd1/\fd6/\fd3/\(fd7/\fd1/\fd4/\fd5/\fd8/\fd5/\fd1/\fd9/\fd1/\fd10/\fd1/\fd10/\fd1/\fd10/\fd11/\fd12/\fd13/\fd14/\fd1/\fd10/\fd9/\fd11/\fd15/\zbq=zbq)/\∀(_:Nat)(_:List Nat),fd7/\fd1/\fd4/\fd5/\fd8/\fd5/\fd1/\fd9/\fd1/\fd10/\fd1/\fd10/\fd1/\fd10/\fd11/\fd12/\fd13/\fd14/\fd1/\fd10/\fd9/\fd11/\fd15/\zbq=zbq) by kernel_rfl];exact⟨fd0p,fd1p,fd1p,fd2p,fd3p,fd4p,fd5p,fd1p,fd6p,fd3p,⟨fd7p,fd1p,fd4p,fd5p,fd8p,fd5p,fd1p,fd9p,fd1p,qi9,fd1p,qi9,fd1p,qi9,zbx,zv8,zv7,zv6,fd1p,qi9,fd9p,zbx,zv5,rfl⟩,λ_ _=>⟨fd7p,fd1p,fd4p,fd5p,fd8p,fd5p,fd1p,fd9p,fd1p,qi9,fd1p,qi9,fd1p,qi9,zbx,zv8,zv7,zv6,fd1p,qi9,fd9p,zbx,zv5,rfl⟩⟩)
abbrev zbs:=(([],0):List T×Int)
theorem fr0h:(tFr0).Holds (·=(([],0):List T×Int)):=Tr.hn_holds (by rw[show(tFr0).hn (([],0):List T×Int)=(fd0/\fd1/\fd1/\fd2/\fd3/\fd4/\fd5/\fd1/\fd6/\fd3/\(fd7/\fd16/\fd17/\zbs=zbs)/\∀(_:Nat)(_:List Nat),fd7/\fd16/\fd17/\zbs=zbs) by kernel_rfl];exact⟨fd0p,fd1p,fd1p,fd2p,fd3p,fd4p,fd5p,fd1p,fd6p,fd3p,⟨fd7p,zv4,zv3,rfl⟩,λ_ _=>⟨fd7p,zv4,zv3,rfl⟩⟩)
abbrev zcn:=(((),([(p0,0,0)],1)):Unit×MPd0)
theorem dp_h:(tDp).Holds (·=(((),([(p0,0,0)],1)):Unit×MPd0)):=Tr.hn_holds (by rw[show(tDp).hn (((),([(p0,0,0)],1)):Unit×MPd0)=(fd0/\fd1/\(fd1/\fd18/\fd1/\fd10/\fd2/\fd3/\fd19/\fd5/\zcn=zcn)/\∀(_:Nat)(_:List Nat),fd1/\fd18/\fd1/\fd10/\fd2/\fd3/\fd19/\fd5/\zcn=zcn) by kernel_rfl];exact⟨fd0p,fd1p,⟨fd1p,zv2,fd1p,qi9,fd2p,fd3p,zv1,fd5p,rfl⟩,λ_ _=>⟨fd1p,zv2,fd1p,qi9,fd2p,fd3p,zv1,fd5p,rfl⟩⟩)
abbrev zbr(g:List Path×Place×List q00):Prop:=g=([pa0],p0,[ch0])\/g=([pa0],p0,[])
def zuu(g:List Path×Place×List q00):List T×Int:=(bif g.2.2.isEmpty then []else [t3],0)
theorem zyl:q09 Tryz.prog 22 zqj dLTE zuu (λg=>[zbr g]):=q26 (MTab.okz qik [(4000000,0)] []) q0f 100 λg _ hp=>by
 rcases hp _ (List.mem_cons_self ..)with rfl|rfl
 .exact fr1h
 .exact fr0h
abbrev zow(_:List Path):MPd0:=([(p0,0,0)],1)
theorem zys:FnT Tryz.prog 88 TA.nil qep (trM true false eP eI) (λ_ l=>((),zow l)) (λ_ l=>[l=[pa0]]):=q9b (MTab.okz qik [(4000000,0)] []) q0f 100 λu g _ hp=>by
 have e:g=[pa0]:=hp _ (List.mem_cons_self ..);subst e;have h:tDp.Holds (·=((),zow [pa0])):=dp_h;exact h
theorem zsi(a:MpE Place Int):Pus ((eP.ent eI).cells a):=q1c (pu_v _) (q1c (pu_v _) (q1c (pu_v _) (q1c (pu_v _) qcy)))
def zeh:MTab Tryz.prog:=qik.consM 88 (qvn true false eP eI qep zow (λl=>[l=[pa0]])) (qkn zsi zys)
abbrev taL1:TA LdK:=.one 89 cLd0
abbrev lk0:LdK:=([pa0],[(p0,0)],[],0)
abbrev lk1:LdK:=([pa0],[(p0,0)],[((p0,t3),1,0)],1)
abbrev lk2:LdK:=([pa0],[(p0,0)],[],1)
abbrev aLC1:DA (List q00):=.one (.listB eC)
abbrev aP1:DA Place:=.one dP
abbrev tNw2:Tr (Unit×(Option LdK×Int)):=q6w Tryz.prog (MTab.gamz zeh [(4000000,0)] []) noΛ 100 34 TA.nil trN0 () (DA.enc qep [pa0])
def q87:MTab Tryz.prog:=(MTab.of PTab.nil).cons 29 (qbf aLC1 dLCE netC (λxs=>[xs.length<=KS])) (q3v z1c)
abbrev tTk1:Tr (LdK×Int):=q6w Tryz.prog (MTab.gamz q87 [(4000000,0)] []) noΛ 100 35 taL1 (TR.pure dI) lk0 (DA.enc aLC1 [ch0])
abbrev tTk2:Tr (LdK×Int):=q6w Tryz.prog (MTab.gamz q87 [(4000000,0)] []) noΛ 100 35 taL1 (TR.pure dI) lk1 (DA.enc aLC1 [ch1])
def q88:MTab Tryz.prog:=((MTab.of PTab.nil).consM 73 (qne 59 eC aMK ordC (λm=>[m.length<=KS,KdM m])) (qdi pusC zss)).consM 22 (zby zqj dLTE zuu (λg=>[zbr g])) (qmn zyl)
abbrev tFm1:Tr (LdK×(List T×Int)):=q6w Tryz.prog (MTab.gamz q88 [(4000000,0)] []) noΛ 100 36 taL1 (TR.pure dLTE) lk1 (DA.enc aP1 p0)
abbrev tFm2:Tr (LdK×(List T×Int)):=q6w Tryz.prog (MTab.gamz q88 [(4000000,0)] []) noΛ 100 36 taL1 (TR.pure dLTE) lk2 (DA.enc aP1 p0)
abbrev lm0:Prop:=[Path.mk (Place.mk (1:Int) (2:Int)) (Place.mk (1:Int) (2:Int)) [S.mk (0:Int) (0:Int) (0:Int) (0:Int) (0:Int) (0:Int) (0:Int) (0:Int)]]=[Path.mk (Place.mk (1:Int) (2:Int)) (Place.mk (1:Int) (2:Int)) [S.mk (0:Int) (0:Int) (0:Int) (0:Int) (0:Int) (0:Int) (0:Int) (0:Int)]]
theorem lm0p:lm0:=rfl
abbrev lm1:Prop:=∀(e:Nat),e<(1:Nat)->ePa.Ok (ePaC.els [Path.mk (Place.mk (1:Int) (2:Int)) (Place.mk (1:Int) (2:Int)) [S.mk (0:Int) (0:Int) (0:Int) (0:Int) (0:Int) (0:Int) (0:Int) (0:Int)]] e)
theorem lm1p:lm1:=λe he=>by obtain rfl:e=0:=(by omega);exact El.okP (A:=ePa) λp hp=>qqf (λe he=>by have he:e<1:=he;obtain rfl:e=0:=(by omega);exact El.okP (A:=eS) trivial) hp
abbrev lm2:Prop:=(1:Nat)<=(1000000:Nat)
theorem lm2p:lm2:=by decide
abbrev lm3:Prop:=(0:Int)<=(0:Int)/\(0:Int)<(1:Int)
theorem lm3p:lm3:=by decide
abbrev lm4:Prop:=(0:Nat)<(1:Nat)
theorem lm4p:lm4:=by decide
abbrev lm5:Prop:=∀(e:Nat),e<(1:Nat)->eS.Ok (eS.els [S.mk (0:Int) (0:Int) (0:Int) (0:Int) (0:Int) (0:Int) (0:Int) (0:Int)] e)
theorem lm5p:lm5:=λ_ _=>El.ok_els _ _ _
abbrev lm6:Prop:=(1:Nat)<=(1:Nat)
theorem lm6p:lm6:=by decide
abbrev lm7:Prop:=∀(p:Prop),p∈[]++[]++([]++[]++[∀(e:Nat),e<(1:Nat)->eS.Ok (eS.els [S.mk (0:Int) (0:Int) (0:Int) (0:Int) (0:Int) (0:Int) (0:Int) (0:Int)] e)])->p
theorem lm7p:lm7:=λp hp=>qqf (λ_ _=>El.ok_els _ _ _) hp
abbrev lm8:Prop:=∀(e:Nat),e<(1:Nat)->∀(p:Prop),p∈[]++[]++([]++[]++[eS.okL ([Path.mk (Place.mk (1:Int) (2:Int)) (Place.mk (1:Int) (2:Int)) [S.mk (0:Int) (0:Int) (0:Int) (0:Int) (0:Int) (0:Int) (0:Int) (0:Int)]].getD e (Path.mk (Place.mk (0:Int) (0:Int)) (Place.mk (0:Int) (0:Int)) [])).ss])->p
theorem lm8p:lm8:=λ_ _ p hp=>qqf (by rw[El.okL_eq];trivial) hp
abbrev lm9:Prop:=∀(e:Nat),e<(1:Nat)->True
theorem lm9p:lm9:=λ_ _=>trivial
abbrev lm10:Prop:=∀(e:Nat),e<(0:Nat)->True
theorem qej:lm10:=λ_ _=>trivial
abbrev lm11:Prop:=∀(e:Nat),e<(0:Nat)->(10:Nat)=(10:Nat)
theorem zao:lm11:=λ_ _=>rfl
abbrev lm12:Prop:=(0:Int)=(0:Int)
theorem zan:lm12:=by decide
abbrev lm13:Prop:=∀(e:Nat),e<(1:Nat)->(10:Nat)=(10:Nat)
theorem qei:lm13:=λ_ _=>rfl
abbrev lm14:Prop:=∀(e:Nat),e<(1:Nat)->ePa.Ok (ePa.els [Path.mk (Place.mk (1:Int) (2:Int)) (Place.mk (1:Int) (2:Int)) [S.mk (0:Int) (0:Int) (0:Int) (0:Int) (0:Int) (0:Int) (0:Int) (0:Int)]] e)
theorem qeh:lm14:=λ_ _=>El.ok_els _ _ _
abbrev lm15:Prop:=∀(e:Nat),e<(1:Nat)->(eP.pair eI).Ok ((eP.pair eI).els [(Place.mk (1:Int) (2:Int),(0:Int))] e)
theorem qeg:lm15:=λ_ _=>El.ok_els _ _ _
abbrev lm16:Prop:=True
theorem qwx:lm16:=trivial
abbrev lm17:Prop:=∀(e:Nat),e<(1:Nat)->(eKy.pair eI).Ok (List.take (9:Nat) ((ElE.fn ((eKy.ent eI).els [((Place.mk (1:Int) (2:Int),T.mk (3:Int) (0:Int) (0:Int) (0:Int) (0:Int) (0:Int)),(1:Int),(0:Int))])).at e))
theorem zam:lm17:=λ_ _=>(qk7 (K:=eKy) (V:=eI) (El.ok_els _ _ _)).1
abbrev lm18:Prop:=KdM [((Place.mk (1:Int) (2:Int),T.mk (3:Int) (0:Int) (0:Int) (0:Int) (0:Int) (0:Int)),(1:Int))]
theorem zal:lm18:=List.pairwise_singleton _ _
abbrev lm19:Prop:=True/\True/\(1:Nat)<=(9223372036854775807:Nat)/\(72:Nat)<=(140737488355328:Nat)
theorem zak:lm19:=⟨trivial,trivial,by decide,by decide⟩
abbrev lm20:Prop:=∀(e:Nat),e<(1:Nat)->eC.Ok ((ElE.app (0:Nat) (ElE.fn λx=>[]) (ElE.fn λx=>[SV.v (Value.int IntKind.i64 (1:Int)),SV.v (Value.int IntKind.i64 (2:Int)),SV.v (Value.int IntKind.i64 (3:Int)),SV.v (Value.int IntKind.i64 (0:Int)),SV.v (Value.int IntKind.i64 (0:Int)),SV.v (Value.int IntKind.i64 (0:Int)),SV.v (Value.int IntKind.i64 (0:Int)),SV.v (Value.int IntKind.i64 (0:Int)),SV.v (Value.int IntKind.i64 (1:Int))])).at e)
theorem zaj:lm20:=λe he=>by obtain rfl:e=0:=(by omega);exact El.okP (A:=eC) trivial
abbrev lm21:Prop:=zbr ([Path.mk (Place.mk (1:Int) (2:Int)) (Place.mk (1:Int) (2:Int)) [S.mk (0:Int) (0:Int) (0:Int) (0:Int) (0:Int) (0:Int) (0:Int) (0:Int)]],Place.mk (1:Int) (2:Int),[q00.mk (Place.mk (1:Int) (2:Int)) (T.mk (3:Int) (0:Int) (0:Int) (0:Int) (0:Int) (0:Int)) (1:Int)])
theorem zai:lm21:=.inl rfl
abbrev lm22:Prop:=∀(e:Nat),e<(1:Nat)->eT.Ok (eT.els [T.mk (3:Int) (0:Int) (0:Int) (0:Int) (0:Int) (0:Int)] e)
theorem zah:lm22:=λ_ _=>El.ok_els _ _ _
abbrev lm23:Prop:=∀(e:Nat),e<(0:Nat)->(eKy.pair eI).Ok (List.take (9:Nat) ((ElE.fn ((eKy.ent eI).els [])).at e))
theorem zaf:lm23:=λ_ _=>(qk7 (K:=eKy) (V:=eI) (El.ok_els _ _ _)).1
abbrev lm24:Prop:=(0:Nat)<=(1000000:Nat)
theorem zae:lm24:=by decide
abbrev lm25:Prop:=KdM []
theorem zad:lm25:=List.Pairwise.nil
abbrev lm26:Prop:=zbr ([Path.mk (Place.mk (1:Int) (2:Int)) (Place.mk (1:Int) (2:Int)) [S.mk (0:Int) (0:Int) (0:Int) (0:Int) (0:Int) (0:Int) (0:Int) (0:Int)]],Place.mk (1:Int) (2:Int),[])
theorem zac:lm26:=.inr rfl
abbrev lm27:Prop:=∀(e:Nat),e<(0:Nat)->eT.Ok (eT.els [] e)
theorem zab:lm27:=λ_ _=>El.ok_els _ _ _
abbrev z9s:=(((),(some lk0,0)):Unit×(Option LdK×Int))
theorem nw2h:(tNw2).Holds (·=(((),(some lk0,0)):Unit×(Option LdK×Int))):=Tr.hn_holds (by rw[show(tNw2).hn (((),(some lk0,0)):Unit×(Option LdK×Int))=(lm0/\lm1/\lm2/\(lm3/\lm4/\lm5/\lm2/\lm3/\lm4/\lm6/\lm0/\lm6/\lm7/\lm8/\lm9/\lm10/\z9s=z9s)/\∀(_:Nat)(_:List Nat),lm3/\lm4/\lm5/\lm2/\lm3/\lm4/\lm6/\lm0/\lm6/\lm7/\lm8/\lm9/\lm10/\z9s=z9s) by kernel_rfl];exact⟨lm0p,lm1p,lm2p,⟨lm3p,lm4p,lm5p,lm2p,lm3p,lm4p,lm6p,lm0p,lm6p,lm7p,lm8p,lm9p,qej,rfl⟩,λ_ _=>⟨lm3p,lm4p,lm5p,lm2p,lm3p,lm4p,lm6p,lm0p,lm6p,lm7p,lm8p,lm9p,qej,rfl⟩⟩)
abbrev z7s:=((lk1,0):LdK×Int)
theorem tk1h:(tTk1).Holds (·=((lk1,0):LdK×Int)):=Tr.hn_holds (by rw[show(tTk1).hn ((lk1,0):LdK×Int)=(lm2/\lm3/\lm11/\lm10/\lm3/\(lm11/\lm10/\lm11/\lm10/\lm12/\lm13/\lm9/\lm14/\lm15/\lm16/\lm9/\z7s=z7s)/\∀(_:Nat)(_:List Nat),lm11/\lm10/\lm13/\lm9/\lm12/\lm13/\lm9/\lm14/\lm15/\lm16/\lm9/\z7s=z7s) by kernel_rfl];exact⟨lm2p,lm3p,zao,qej,lm3p,⟨zao,qej,zao,qej,zan,qei,lm9p,qeh,qeg,qwx,lm9p,rfl⟩,λ_ _=>⟨zao,qej,qei,lm9p,zan,qei,lm9p,qeh,qeg,qwx,lm9p,rfl⟩⟩)
abbrev z7r:=((lk2,0):LdK×Int)
theorem tk2h:(tTk2).Holds (·=((lk2,0):LdK×Int)):=Tr.hn_holds (by rw[show(tTk2).hn ((lk2,0):LdK×Int)=(lm2/\lm3/\lm13/\lm9/\lm3/\(lm13/\lm9/\lm13/\lm9/\lm12/\lm13/\lm9/\lm13/\lm9/\lm14/\lm15/\lm16/\lm10/\lm16/\lm9/\z7r=z7r)/\∀(_:Nat)(_:List Nat),lm13/\lm9/\lm13/\lm9/\lm12/\lm13/\lm9/\lm13/\lm9/\lm14/\lm15/\lm16/\lm10/\lm16/\lm9/\z7r=z7r) by kernel_rfl];exact⟨lm2p,lm3p,qei,lm9p,lm3p,⟨qei,lm9p,qei,lm9p,zan,qei,lm9p,qei,lm9p,qeh,qeg,qwx,qej,qwx,lm9p,rfl⟩,λ_ _=>⟨qei,lm9p,qei,lm9p,zan,qei,lm9p,qei,lm9p,qeh,qeg,qwx,qej,qwx,lm9p,rfl⟩⟩)
abbrev qpj:=((lk1,([t3],0)):LdK×(List T×Int))
theorem fm1h:(tFm1).Holds (·=((lk1,([t3],0)):LdK×(List T×Int))):=Tr.hn_holds (by rw[show(tFm1).hn ((lk1,([t3],0)):LdK×(List T×Int))=(((lm17/\lm2/\lm18/\lm3/\lm4/\lm9/\lm19/\lm6/\lm20/\lm21/\lm14/\lm15/\lm9/\lm22/\qpj=qpj)/\∀(_:Nat)(_:List Nat),lm17/\lm2/\lm18/\lm3/\lm4/\lm9/\lm19/\lm6/\lm20/\lm21/\lm14/\lm15/\lm9/\lm22/\qpj=qpj)/\∀(_:Nat)(_:List Nat),(lm17/\lm2/\lm18/\lm3/\lm4/\lm9/\lm19/\lm6/\lm20/\lm21/\lm14/\lm15/\lm9/\lm22/\qpj=qpj)/\∀(_:Nat)(_:List Nat),lm17/\lm2/\lm18/\lm3/\lm4/\lm9/\lm19/\lm6/\lm20/\lm21/\lm14/\lm15/\lm9/\lm22/\qpj=qpj) by kernel_rfl];exact⟨⟨⟨zam,lm2p,zal,lm3p,lm4p,lm9p,zak,lm6p,zaj,zai,qeh,qeg,lm9p,zah,rfl⟩,λ_ _=>⟨zam,lm2p,zal,lm3p,lm4p,lm9p,zak,lm6p,zaj,zai,qeh,qeg,lm9p,zah,rfl⟩⟩,λ_ _=>⟨⟨zam,lm2p,zal,lm3p,lm4p,lm9p,zak,lm6p,zaj,zai,qeh,qeg,lm9p,zah,rfl⟩,λ_ _=>⟨zam,lm2p,zal,lm3p,lm4p,lm9p,zak,lm6p,zaj,zai,qeh,qeg,lm9p,zah,rfl⟩⟩⟩)
abbrev qpi:=((lk2,([],0)):LdK×(List T×Int))
theorem fm2h:(tFm2).Holds (·=((lk2,([],0)):LdK×(List T×Int))):=Tr.hn_holds (by rw[show(tFm2).hn ((lk2,([],0)):LdK×(List T×Int))=(((lm23/\lm24/\lm25/\lm26/\lm14/\lm15/\lm10/\lm27/\qpi=qpi)/\∀(_:Nat)(_:List Nat),lm23/\lm24/\lm25/\lm26/\lm14/\lm15/\lm10/\lm27/\qpi=qpi)/\∀(_:Nat)(_:List Nat),(lm23/\lm24/\lm25/\lm26/\lm14/\lm15/\lm10/\lm27/\qpi=qpi)/\∀(_:Nat)(_:List Nat),lm23/\lm24/\lm25/\lm26/\lm14/\lm15/\lm10/\lm27/\qpi=qpi) by kernel_rfl];exact⟨⟨⟨zaf,zae,zad,zac,qeh,qeg,qej,zab,rfl⟩,λ_ _=>⟨zaf,zae,zad,zac,qeh,qeg,qej,zab,rfl⟩⟩,λ_ _=>⟨⟨zaf,zae,zad,zac,qeh,qeg,qej,zab,rfl⟩,λ_ _=>⟨zaf,zae,zad,zac,qeh,qeg,qej,zab,rfl⟩⟩⟩)
end
end Go.Proofs.YthnojkbkojpadaaGreat

namespace Go.Proofs.YthnojkbkojpadaaGreat
open Go.RowKit Go.Sx Go.Lp
abbrev of0:Prop:=[Spot.mk (Place.mk (1:Int) (2:Int)) (0:Int)]=[Spot.mk (Place.mk (1:Int) (2:Int)) (0:Int)]
theorem of0p:of0:=rfl
abbrev of1:Prop:=[Path.mk (Place.mk (1:Int) (2:Int)) (Place.mk (1:Int) (2:Int)) [S.mk (0:Int) (0:Int) (0:Int) (0:Int) (0:Int) (0:Int) (0:Int) (0:Int)]]=[Path.mk (Place.mk (1:Int) (2:Int)) (Place.mk (1:Int) (2:Int)) [S.mk (0:Int) (0:Int) (0:Int) (0:Int) (0:Int) (0:Int) (0:Int) (0:Int)]]
theorem of1p:of1:=rfl
abbrev of2:Prop:=(0:Int)<=(1:Int)/\(1:Int)<=(1:Int)/\(1:Int)<=(9223372036854775807:Int)/\(24:Int)<=(140737488355328:Int)
theorem of2p:of2:=by decide
abbrev of3:Prop:=True/\True/\(1:Nat)<=(9223372036854775807:Nat)/\(24:Nat)<=(140737488355328:Nat)
theorem of3p:of3:=⟨trivial,trivial,by decide,by decide⟩
abbrev of4:Prop:=(0:Int)<=(0:Int)/\(0:Int)<(1:Int)
theorem of4p:of4:=by decide
abbrev of5:Prop:=(1:Nat)<=(1:Nat)
theorem of5p:of5:=by decide
abbrev of6:Prop:=([Spot.mk (Place.mk (1:Int) (2:Int)) (0:Int)],Place.mk (1:Int) (2:Int))=([Spot.mk (Place.mk (1:Int) (2:Int)) (0:Int)],Place.mk (1:Int) (2:Int))
theorem of6p:of6:=rfl
abbrev of7:Prop:=(0:Nat)<(1:Nat)
theorem of7p:of7:=by decide
abbrev of8:Prop:=True/\(∀(e:Nat),e<(1:Nat)->(eS.els [S.mk (0:Int) (0:Int) (0:Int) (0:Int) (0:Int) (0:Int) (0:Int) (0:Int)] e).all SV.one=true)/\(1:Nat)<=(9223372036854775807:Nat)/\(64:Nat)<=(140737488355328:Nat)
theorem of8p:of8:=by first|trivial|exact⟨by decide,by decide⟩|omega|(intros;trivial)|(intros;rfl)|(refine⟨trivial,?_,?_,?_⟩<;>first|trivial|omega|(intros;rfl))|(simp;done)|decide
abbrev of9:Prop:=True/\True/\(1:Nat)<=(9223372036854775807:Nat)/\(56:Nat)<=(140737488355328:Nat)
theorem of9p:of9:=⟨trivial,trivial,by decide,by decide⟩
abbrev of10:Prop:=∀(e:Nat),e<(1:Nat)->ePa.Ok ((ElE.app (0:Nat) (ElE.fn λx=>[]) (ElE.fn λx=>[SV.v (Value.int IntKind.i64 (1:Int)),SV.v (Value.int IntKind.i64 (2:Int)),SV.v (Value.int IntKind.i64 (1:Int)),SV.v (Value.int IntKind.i64 (2:Int)),SV.rs (8:Nat) (1:Nat) (ElE.app (0:Nat) (ElE.fn λx=>[]) (ElE.fn (eS.els [S.mk (0:Int) (0:Int) (0:Int) (0:Int) (0:Int) (0:Int) (0:Int) (0:Int)]))).at])).at e)
theorem q27:of10:=λe he=>by obtain rfl:e=0:=(by omega);exact El.okP (A:=ePa) λp hp=>qqf (λe he=>by have he:e<1:=he;obtain rfl:e=0:=(by omega);exact El.okP (A:=eS) trivial) hp
theorem nd:(tOf).Holds (·=(([pa0],0):List Path×Int)):=Tr.hn_holds (by rw[show(tOf).hn (([pa0],0):List Path×Int)=(of0/\of1/\(of2/\of3/\of4/\of5/\of6/\of4/\of7/\of4/\of5/\of6/\of4/\of4/\of7/\of4/\of7/\of4/\of7/\of4/\of7/\((((((of4/\of4/\of4/\of7/\of4/\of7/\of8/\of5/\of9/\of4/\of7/\of5/\of10/\(([pa0],0):List Path×Int)=(([pa0],0):List Path×Int))/\∀(_:Nat)(_:List Nat),of4/\of4/\of4/\of7/\of4/\of7/\of8/\of5/\of9/\of4/\of7/\of5/\of10/\(([pa0],0):List Path×Int)=(([pa0],0):List Path×Int))/\∀(_:Nat)(_:List Nat),of4/\of4/\of7/\of4/\of7/\of8/\of4/\of5/\of9/\of4/\of7/\of5/\of10/\(([pa0],0):List Path×Int)=(([pa0],0):List Path×Int))/\∀(_:Nat)(_:List Nat),of4/\of4/\of7/\of4/\of7/\of8/\of4/\of5/\of9/\of4/\of7/\of5/\of10/\(([pa0],0):List Path×Int)=(([pa0],0):List Path×Int))/\∀(_:Nat)(_:List Nat),(of4/\of4/\of7/\of4/\of7/\of8/\of4/\of5/\of9/\of4/\of7/\of5/\of10/\(([pa0],0):List Path×Int)=(([pa0],0):List Path×Int))/\∀(_:Nat)(_:List Nat),(of4/\of4/\of7/\of4/\of7/\of8/\of4/\of5/\of9/\of4/\of7/\of5/\of10/\(([pa0],0):List Path×Int)=(([pa0],0):List Path×Int))/\∀(_:Nat)(_:List Nat),(of4/\of4/\of7/\of4/\of7/\of4/\of8/\of5/\of9/\of4/\of7/\of5/\of10/\(([pa0],0):List Path×Int)=(([pa0],0):List Path×Int))/\∀(_:Nat)(_:List Nat),of4/\of4/\of7/\of4/\of7/\of4/\of8/\of5/\of9/\of4/\of7/\of5/\of10/\(([pa0],0):List Path×Int)=(([pa0],0):List Path×Int))/\∀(_:Nat)(_:List Nat),(of4/\of7/\of4/\of7/\of8/\of4/\of4/\of5/\of9/\of4/\of7/\of5/\of10/\(([pa0],0):List Path×Int)=(([pa0],0):List Path×Int))/\∀(_:Nat)(_:List Nat),(of4/\of7/\of4/\of7/\of8/\of4/\of4/\of5/\of9/\of4/\of7/\of5/\of10/\(([pa0],0):List Path×Int)=(([pa0],0):List Path×Int))/\∀(_:Nat)(_:List Nat),(of4/\of7/\of4/\of7/\of4/\of8/\of4/\of5/\of9/\of4/\of7/\of5/\of10/\(([pa0],0):List Path×Int)=(([pa0],0):List Path×Int))/\∀(_:Nat)(_:List Nat),of4/\of7/\of4/\of7/\of4/\of8/\of4/\of5/\of9/\of4/\of7/\of5/\of10/\(([pa0],0):List Path×Int)=(([pa0],0):List Path×Int))/\∀(_:Nat)(_:List Nat),(of4/\of7/\of4/\of7/\of8/\of4/\of4/\of5/\of9/\of4/\of7/\of5/\of10/\(([pa0],0):List Path×Int)=(([pa0],0):List Path×Int))/\∀(_:Nat)(_:List Nat),(of4/\of7/\of4/\of7/\of8/\of4/\of4/\of5/\of9/\of4/\of7/\of5/\of10/\(([pa0],0):List Path×Int)=(([pa0],0):List Path×Int))/\∀(_:Nat)(_:List Nat),(of4/\of7/\of4/\of7/\of4/\of8/\of4/\of5/\of9/\of4/\of7/\of5/\of10/\(([pa0],0):List Path×Int)=(([pa0],0):List Path×Int))/\∀(_:Nat)(_:List Nat),of4/\of7/\of4/\of7/\of4/\of8/\of4/\of5/\of9/\of4/\of7/\of5/\of10/\(([pa0],0):List Path×Int)=(([pa0],0):List Path×Int))/\∀(_:Nat)(_:List Nat),(of2/\of3/\of4/\of5/\of6/\of4/\of7/\of4/\of5/\of6/\of4/\of4/\of7/\of4/\of7/\of4/\of7/\of4/\of7/\((((((of4/\of4/\of4/\of7/\of4/\of7/\of8/\of5/\of9/\of4/\of7/\of5/\of10/\(([pa0],0):List Path×Int)=(([pa0],0):List Path×Int))/\∀(_:Nat)(_:List Nat),of4/\of4/\of4/\of7/\of4/\of7/\of8/\of5/\of9/\of4/\of7/\of5/\of10/\(([pa0],0):List Path×Int)=(([pa0],0):List Path×Int))/\∀(_:Nat)(_:List Nat),of4/\of4/\of7/\of4/\of7/\of8/\of4/\of5/\of9/\of4/\of7/\of5/\of10/\(([pa0],0):List Path×Int)=(([pa0],0):List Path×Int))/\∀(_:Nat)(_:List Nat),of4/\of4/\of7/\of4/\of7/\of8/\of4/\of5/\of9/\of4/\of7/\of5/\of10/\(([pa0],0):List Path×Int)=(([pa0],0):List Path×Int))/\∀(_:Nat)(_:List Nat),(of4/\of4/\of7/\of4/\of7/\of8/\of4/\of5/\of9/\of4/\of7/\of5/\of10/\(([pa0],0):List Path×Int)=(([pa0],0):List Path×Int))/\∀(_:Nat)(_:List Nat),(of4/\of4/\of7/\of4/\of7/\of8/\of4/\of5/\of9/\of4/\of7/\of5/\of10/\(([pa0],0):List Path×Int)=(([pa0],0):List Path×Int))/\∀(_:Nat)(_:List Nat),(of4/\of4/\of7/\of4/\of7/\of4/\of8/\of5/\of9/\of4/\of7/\of5/\of10/\(([pa0],0):List Path×Int)=(([pa0],0):List Path×Int))/\∀(_:Nat)(_:List Nat),of4/\of4/\of7/\of4/\of7/\of4/\of8/\of5/\of9/\of4/\of7/\of5/\of10/\(([pa0],0):List Path×Int)=(([pa0],0):List Path×Int))/\∀(_:Nat)(_:List Nat),(of4/\of7/\of4/\of7/\of8/\of4/\of4/\of5/\of9/\of4/\of7/\of5/\of10/\(([pa0],0):List Path×Int)=(([pa0],0):List Path×Int))/\∀(_:Nat)(_:List Nat),(of4/\of7/\of4/\of7/\of8/\of4/\of4/\of5/\of9/\of4/\of7/\of5/\of10/\(([pa0],0):List Path×Int)=(([pa0],0):List Path×Int))/\∀(_:Nat)(_:List Nat),(of4/\of7/\of4/\of7/\of4/\of8/\of4/\of5/\of9/\of4/\of7/\of5/\of10/\(([pa0],0):List Path×Int)=(([pa0],0):List Path×Int))/\∀(_:Nat)(_:List Nat),of4/\of7/\of4/\of7/\of4/\of8/\of4/\of5/\of9/\of4/\of7/\of5/\of10/\(([pa0],0):List Path×Int)=(([pa0],0):List Path×Int))/\∀(_:Nat)(_:List Nat),(of4/\of7/\of4/\of7/\of8/\of4/\of4/\of5/\of9/\of4/\of7/\of5/\of10/\(([pa0],0):List Path×Int)=(([pa0],0):List Path×Int))/\∀(_:Nat)(_:List Nat),(of4/\of7/\of4/\of7/\of8/\of4/\of4/\of5/\of9/\of4/\of7/\of5/\of10/\(([pa0],0):List Path×Int)=(([pa0],0):List Path×Int))/\∀(_:Nat)(_:List Nat),(of4/\of7/\of4/\of7/\of4/\of8/\of4/\of5/\of9/\of4/\of7/\of5/\of10/\(([pa0],0):List Path×Int)=(([pa0],0):List Path×Int))/\∀(_:Nat)(_:List Nat),of4/\of7/\of4/\of7/\of4/\of8/\of4/\of5/\of9/\of4/\of7/\of5/\of10/\(([pa0],0):List Path×Int)=(([pa0],0):List Path×Int))/\∀(_:Nat)(_:List Nat),of2/\of3/\of4/\of5/\of6/\of4/\of7/\of4/\of5/\of6/\of4/\of4/\of7/\of4/\of7/\of4/\of7/\of4/\of7/\((((((of4/\of4/\of4/\of7/\of4/\of7/\of8/\of5/\of9/\of4/\of7/\of5/\of10/\(([pa0],0):List Path×Int)=(([pa0],0):List Path×Int))/\∀(_:Nat)(_:List Nat),of4/\of4/\of4/\of7/\of4/\of7/\of8/\of5/\of9/\of4/\of7/\of5/\of10/\(([pa0],0):List Path×Int)=(([pa0],0):List Path×Int))/\∀(_:Nat)(_:List Nat),of4/\of4/\of7/\of4/\of7/\of8/\of4/\of5/\of9/\of4/\of7/\of5/\of10/\(([pa0],0):List Path×Int)=(([pa0],0):List Path×Int))/\∀(_:Nat)(_:List Nat),of4/\of4/\of7/\of4/\of7/\of8/\of4/\of5/\of9/\of4/\of7/\of5/\of10/\(([pa0],0):List Path×Int)=(([pa0],0):List Path×Int))/\∀(_:Nat)(_:List Nat),(of4/\of4/\of7/\of4/\of7/\of8/\of4/\of5/\of9/\of4/\of7/\of5/\of10/\(([pa0],0):List Path×Int)=(([pa0],0):List Path×Int))/\∀(_:Nat)(_:List Nat),(of4/\of4/\of7/\of4/\of7/\of8/\of4/\of5/\of9/\of4/\of7/\of5/\of10/\(([pa0],0):List Path×Int)=(([pa0],0):List Path×Int))/\∀(_:Nat)(_:List Nat),(of4/\of4/\of7/\of4/\of7/\of4/\of8/\of5/\of9/\of4/\of7/\of5/\of10/\(([pa0],0):List Path×Int)=(([pa0],0):List Path×Int))/\∀(_:Nat)(_:List Nat),of4/\of4/\of7/\of4/\of7/\of4/\of8/\of5/\of9/\of4/\of7/\of5/\of10/\(([pa0],0):List Path×Int)=(([pa0],0):List Path×Int))/\∀(_:Nat)(_:List Nat),(of4/\of7/\of4/\of7/\of8/\of4/\of4/\of5/\of9/\of4/\of7/\of5/\of10/\(([pa0],0):List Path×Int)=(([pa0],0):List Path×Int))/\∀(_:Nat)(_:List Nat),(of4/\of7/\of4/\of7/\of8/\of4/\of4/\of5/\of9/\of4/\of7/\of5/\of10/\(([pa0],0):List Path×Int)=(([pa0],0):List Path×Int))/\∀(_:Nat)(_:List Nat),(of4/\of7/\of4/\of7/\of4/\of8/\of4/\of5/\of9/\of4/\of7/\of5/\of10/\(([pa0],0):List Path×Int)=(([pa0],0):List Path×Int))/\∀(_:Nat)(_:List Nat),of4/\of7/\of4/\of7/\of4/\of8/\of4/\of5/\of9/\of4/\of7/\of5/\of10/\(([pa0],0):List Path×Int)=(([pa0],0):List Path×Int))/\∀(_:Nat)(_:List Nat),(of4/\of7/\of4/\of7/\of8/\of4/\of4/\of5/\of9/\of4/\of7/\of5/\of10/\(([pa0],0):List Path×Int)=(([pa0],0):List Path×Int))/\∀(_:Nat)(_:List Nat),(of4/\of7/\of4/\of7/\of8/\of4/\of4/\of5/\of9/\of4/\of7/\of5/\of10/\(([pa0],0):List Path×Int)=(([pa0],0):List Path×Int))/\∀(_:Nat)(_:List Nat),(of4/\of7/\of4/\of7/\of4/\of8/\of4/\of5/\of9/\of4/\of7/\of5/\of10/\(([pa0],0):List Path×Int)=(([pa0],0):List Path×Int))/\∀(_:Nat)(_:List Nat),of4/\of7/\of4/\of7/\of4/\of8/\of4/\of5/\of9/\of4/\of7/\of5/\of10/\(([pa0],0):List Path×Int)=(([pa0],0):List Path×Int)) by kernel_rfl];exact⟨of0p,of1p,⟨of2p,of3p,of4p,of5p,of6p,of4p,of7p,of4p,of5p,of6p,of4p,of4p,of7p,of4p,of7p,of4p,of7p,of4p,of7p,⟨⟨⟨⟨⟨⟨of4p,of4p,of4p,of7p,of4p,of7p,of8p,of5p,of9p,of4p,of7p,of5p,q27,rfl⟩,λ_ _=>⟨of4p,of4p,of4p,of7p,of4p,of7p,of8p,of5p,of9p,of4p,of7p,of5p,q27,rfl⟩⟩,λ_ _=>⟨of4p,of4p,of7p,of4p,of7p,of8p,of4p,of5p,of9p,of4p,of7p,of5p,q27,rfl⟩⟩,λ_ _=>⟨of4p,of4p,of7p,of4p,of7p,of8p,of4p,of5p,of9p,of4p,of7p,of5p,q27,rfl⟩⟩,λ_ _=>⟨⟨of4p,of4p,of7p,of4p,of7p,of8p,of4p,of5p,of9p,of4p,of7p,of5p,q27,rfl⟩,λ_ _=>⟨⟨of4p,of4p,of7p,of4p,of7p,of8p,of4p,of5p,of9p,of4p,of7p,of5p,q27,rfl⟩,λ_ _=>⟨⟨of4p,of4p,of7p,of4p,of7p,of4p,of8p,of5p,of9p,of4p,of7p,of5p,q27,rfl⟩,λ_ _=>⟨of4p,of4p,of7p,of4p,of7p,of4p,of8p,of5p,of9p,of4p,of7p,of5p,q27,rfl⟩⟩⟩⟩⟩,λ_ _=>⟨⟨of4p,of7p,of4p,of7p,of8p,of4p,of4p,of5p,of9p,of4p,of7p,of5p,q27,rfl⟩,λ_ _=>⟨⟨of4p,of7p,of4p,of7p,of8p,of4p,of4p,of5p,of9p,of4p,of7p,of5p,q27,rfl⟩,λ_ _=>⟨⟨of4p,of7p,of4p,of7p,of4p,of8p,of4p,of5p,of9p,of4p,of7p,of5p,q27,rfl⟩,λ_ _=>⟨of4p,of7p,of4p,of7p,of4p,of8p,of4p,of5p,of9p,of4p,of7p,of5p,q27,rfl⟩⟩⟩⟩⟩,λ_ _=>⟨⟨of4p,of7p,of4p,of7p,of8p,of4p,of4p,of5p,of9p,of4p,of7p,of5p,q27,rfl⟩,λ_ _=>⟨⟨of4p,of7p,of4p,of7p,of8p,of4p,of4p,of5p,of9p,of4p,of7p,of5p,q27,rfl⟩,λ_ _=>⟨⟨of4p,of7p,of4p,of7p,of4p,of8p,of4p,of5p,of9p,of4p,of7p,of5p,q27,rfl⟩,λ_ _=>⟨of4p,of7p,of4p,of7p,of4p,of8p,of4p,of5p,of9p,of4p,of7p,of5p,q27,rfl⟩⟩⟩⟩⟩,λ_ _=>⟨⟨of2p,of3p,of4p,of5p,of6p,of4p,of7p,of4p,of5p,of6p,of4p,of4p,of7p,of4p,of7p,of4p,of7p,of4p,of7p,⟨⟨⟨⟨⟨⟨of4p,of4p,of4p,of7p,of4p,of7p,of8p,of5p,of9p,of4p,of7p,of5p,q27,rfl⟩,λ_ _=>⟨of4p,of4p,of4p,of7p,of4p,of7p,of8p,of5p,of9p,of4p,of7p,of5p,q27,rfl⟩⟩,λ_ _=>⟨of4p,of4p,of7p,of4p,of7p,of8p,of4p,of5p,of9p,of4p,of7p,of5p,q27,rfl⟩⟩,λ_ _=>⟨of4p,of4p,of7p,of4p,of7p,of8p,of4p,of5p,of9p,of4p,of7p,of5p,q27,rfl⟩⟩,λ_ _=>⟨⟨of4p,of4p,of7p,of4p,of7p,of8p,of4p,of5p,of9p,of4p,of7p,of5p,q27,rfl⟩,λ_ _=>⟨⟨of4p,of4p,of7p,of4p,of7p,of8p,of4p,of5p,of9p,of4p,of7p,of5p,q27,rfl⟩,λ_ _=>⟨⟨of4p,of4p,of7p,of4p,of7p,of4p,of8p,of5p,of9p,of4p,of7p,of5p,q27,rfl⟩,λ_ _=>⟨of4p,of4p,of7p,of4p,of7p,of4p,of8p,of5p,of9p,of4p,of7p,of5p,q27,rfl⟩⟩⟩⟩⟩,λ_ _=>⟨⟨of4p,of7p,of4p,of7p,of8p,of4p,of4p,of5p,of9p,of4p,of7p,of5p,q27,rfl⟩,λ_ _=>⟨⟨of4p,of7p,of4p,of7p,of8p,of4p,of4p,of5p,of9p,of4p,of7p,of5p,q27,rfl⟩,λ_ _=>⟨⟨of4p,of7p,of4p,of7p,of4p,of8p,of4p,of5p,of9p,of4p,of7p,of5p,q27,rfl⟩,λ_ _=>⟨of4p,of7p,of4p,of7p,of4p,of8p,of4p,of5p,of9p,of4p,of7p,of5p,q27,rfl⟩⟩⟩⟩⟩,λ_ _=>⟨⟨of4p,of7p,of4p,of7p,of8p,of4p,of4p,of5p,of9p,of4p,of7p,of5p,q27,rfl⟩,λ_ _=>⟨⟨of4p,of7p,of4p,of7p,of8p,of4p,of4p,of5p,of9p,of4p,of7p,of5p,q27,rfl⟩,λ_ _=>⟨⟨of4p,of7p,of4p,of7p,of4p,of8p,of4p,of5p,of9p,of4p,of7p,of5p,q27,rfl⟩,λ_ _=>⟨of4p,of7p,of4p,of7p,of4p,of8p,of4p,of5p,of9p,of4p,of7p,of5p,q27,rfl⟩⟩⟩⟩⟩,λ_ _=>⟨of2p,of3p,of4p,of5p,of6p,of4p,of7p,of4p,of5p,of6p,of4p,of4p,of7p,of4p,of7p,of4p,of7p,of4p,of7p,⟨⟨⟨⟨⟨⟨of4p,of4p,of4p,of7p,of4p,of7p,of8p,of5p,of9p,of4p,of7p,of5p,q27,rfl⟩,λ_ _=>⟨of4p,of4p,of4p,of7p,of4p,of7p,of8p,of5p,of9p,of4p,of7p,of5p,q27,rfl⟩⟩,λ_ _=>⟨of4p,of4p,of7p,of4p,of7p,of8p,of4p,of5p,of9p,of4p,of7p,of5p,q27,rfl⟩⟩,λ_ _=>⟨of4p,of4p,of7p,of4p,of7p,of8p,of4p,of5p,of9p,of4p,of7p,of5p,q27,rfl⟩⟩,λ_ _=>⟨⟨of4p,of4p,of7p,of4p,of7p,of8p,of4p,of5p,of9p,of4p,of7p,of5p,q27,rfl⟩,λ_ _=>⟨⟨of4p,of4p,of7p,of4p,of7p,of8p,of4p,of5p,of9p,of4p,of7p,of5p,q27,rfl⟩,λ_ _=>⟨⟨of4p,of4p,of7p,of4p,of7p,of4p,of8p,of5p,of9p,of4p,of7p,of5p,q27,rfl⟩,λ_ _=>⟨of4p,of4p,of7p,of4p,of7p,of4p,of8p,of5p,of9p,of4p,of7p,of5p,q27,rfl⟩⟩⟩⟩⟩,λ_ _=>⟨⟨of4p,of7p,of4p,of7p,of8p,of4p,of4p,of5p,of9p,of4p,of7p,of5p,q27,rfl⟩,λ_ _=>⟨⟨of4p,of7p,of4p,of7p,of8p,of4p,of4p,of5p,of9p,of4p,of7p,of5p,q27,rfl⟩,λ_ _=>⟨⟨of4p,of7p,of4p,of7p,of4p,of8p,of4p,of5p,of9p,of4p,of7p,of5p,q27,rfl⟩,λ_ _=>⟨of4p,of7p,of4p,of7p,of4p,of8p,of4p,of5p,of9p,of4p,of7p,of5p,q27,rfl⟩⟩⟩⟩⟩,λ_ _=>⟨⟨of4p,of7p,of4p,of7p,of8p,of4p,of4p,of5p,of9p,of4p,of7p,of5p,q27,rfl⟩,λ_ _=>⟨⟨of4p,of7p,of4p,of7p,of8p,of4p,of4p,of5p,of9p,of4p,of7p,of5p,q27,rfl⟩,λ_ _=>⟨⟨of4p,of7p,of4p,of7p,of4p,of8p,of4p,of5p,of9p,of4p,of7p,of5p,q27,rfl⟩,λ_ _=>⟨of4p,of7p,of4p,of7p,of4p,of8p,of4p,of5p,of9p,of4p,of7p,of5p,q27,rfl⟩⟩⟩⟩⟩⟩⟩)
end Go.Proofs.YthnojkbkojpadaaGreat

namespace Go.Proofs.YthnojkbkojpadaaGreat
noncomputable section
open Go.RowKit Go.Sx Go.Lp
abbrev aSEB:DA (List Spot×List Edge):=.cons (.listB eSp) (.one (.list eE))
theorem zk6:q09 Tryz.prog 69 aSEB dLPE (λ_=>([pa0],0)) (λg=>[g=([⟨p0,0⟩],[])]):=q26 (MTab.okz zei [(4000000,0)] usW) q0f 100 λg _ hp=>by
 obtain rfl:g=([⟨p0,0⟩],[]):=hp _ (List.mem_cons_self ..);have h:tOf.Holds (·=([pa0],0)):=nd;exact h
theorem zy6:FnT Tryz.prog 34 TA.nil qep trN0 (λ_ _=>((),(some lk0,0))) (λ_ l=>[l=[pa0]]):=q9b (MTab.okz zeh [(4000000,0)] []) q0f 100 λu g _ hp=>by
 have e:g=[pa0]:=hp _ (List.mem_cons_self ..);subst e;have h:tNw2.Holds (·=((),(some lk0,0))):=nw2h;exact h
def qnk(k:LdK)(_:List q00):LdK×Int:=(bif k.2.2.1.isEmpty then lk1 else lk2,0)
abbrev qyz(k:LdK)(c:List q00):Prop:=(k,c)=(lk0,[ch0])\/(k,c)=(lk1,[ch1])
theorem two4(κ γ δ:Type)(X:κ->γ->Tr δ)(bd:γ->Prop)(fn:κ->γ->δ)(k0 k1:κ)(c0 c1:γ)(h1:(X k0 c0).Holds (·=fn k0 c0))(h2:(X k1 c1).Holds (·=fn k1 c1)):
  ∀(k:κ)(c:γ),bd c->(∀p∈[(k,c)=(k0,c0)\/(k,c)=(k1,c1)],p)->(X k c).Holds (·=fn k c):=by
 intro k c _ hp;rcases hp _ (List.mem_cons_self ..)with e|e
 .obtain⟨e1,e2⟩:=Prod.mk.inj e;subst e1;subst e2;exact h1
 .obtain⟨e1,e2⟩:=Prod.mk.inj e;subst e1;subst e2;exact h2
theorem zr4:((λk c=>q6w Tryz.prog (MTab.gamz q87 [(4000000,0)] []) noΛ 100 35 taL1 (TR.pure dI) k (aLC1.enc c)) lk0 [ch0]).Holds (·=qnk lk0 [ch0]):=by
 rw[show qnk lk0 [ch0]=(lk1,0)from rfl];exact tk1h
theorem zr3:((λk c=>q6w Tryz.prog (MTab.gamz q87 [(4000000,0)] []) noΛ 100 35 taL1 (TR.pure dI) k (aLC1.enc c)) lk1 [ch1]).Holds (·=qnk lk1 [ch1]):=by
 rw[show qnk lk1 [ch1]=(lk2,0)from rfl];exact tk2h
theorem zxk:∀(k:LdK)(c:List q00),aLC1.bd c->(∀p∈[qyz k c],p)->((λk c=>q6w Tryz.prog (MTab.gamz q87 [(4000000,0)] []) noΛ 100 35 taL1 (TR.pure dI) k (aLC1.enc c)) k c).Holds (·=qnk k c):=@two4 LdK (List q00) (LdK×Int) (λk c=>q6w Tryz.prog (MTab.gamz q87 [(4000000,0)] []) noΛ 100 35 taL1 (TR.pure dI) k (aLC1.enc c)) aLC1.bd qnk lk0 lk1 [ch0] [ch1] zr4 zr3
theorem zxj:FnT Tryz.prog 35 taL1 aLC1 (TR.pure dI) qnk (λk c=>[qyz k c]):=@q9b _ _ (MTab.gamz q87 [(4000000,0)] []) noΛ _ _ _ _ _ _ _ _ _ (MTab.okz q87 [(4000000,0)] []) q0f 100 (@zxk)
def qpk(k:LdK)(_:Place):LdK×(List T×Int):=(k,(bif k.2.2.1.isEmpty then []else [t3],0))
abbrev z3w(k:LdK)(p:Place):Prop:=(k,p)=(lk1,p0)\/(k,p)=(lk2,p0)
theorem zuw:((λk c=>q6w Tryz.prog (MTab.gamz q88 [(4000000,0)] []) noΛ 100 36 taL1 (TR.pure dLTE) k (aP1.enc c)) lk1 p0).Holds (·=qpk lk1 p0):=by
 rw[show qpk lk1 p0=(lk1,([t3],0))from rfl];exact fm1h
theorem zuv:((λk c=>q6w Tryz.prog (MTab.gamz q88 [(4000000,0)] []) noΛ 100 36 taL1 (TR.pure dLTE) k (aP1.enc c)) lk2 p0).Holds (·=qpk lk2 p0):=by
 rw[show qpk lk2 p0=(lk2,([],0))from rfl];exact fm2h
theorem zyn:∀(k:LdK)(c:Place),aP1.bd c->(∀p∈[z3w k c],p)->((λk c=>q6w Tryz.prog (MTab.gamz q88 [(4000000,0)] []) noΛ 100 36 taL1 (TR.pure dLTE) k (aP1.enc c)) k c).Holds (·=qpk k c):=@two4 LdK (Place) (LdK×(List T×Int)) (λk c=>q6w Tryz.prog (MTab.gamz q88 [(4000000,0)] []) noΛ 100 36 taL1 (TR.pure dLTE) k (aP1.enc c)) aP1.bd qpk lk1 lk2 p0 p0 zuw zuv
theorem zym:FnT Tryz.prog 36 taL1 aP1 (TR.pure dLTE) qpk (λk c=>[z3w k c]):=@q9b _ _ (MTab.gamz q88 [(4000000,0)] []) noΛ _ _ _ _ _ _ _ _ _ (MTab.okz q88 [(4000000,0)] []) q0f 100 (@zyn)
def zeg:MTab Tryz.prog:=((((MTab.of PTab.nil).consM 69 (zby aSEB dLPE (λ_=>([pa0],0)) (λg=>[g=([⟨p0,0⟩],[])])) (qmn zk6)).consM 34 (zno TA.nil qep trN0 (λ_ _=>((),(some lk0,0))) (λ_ l=>[l=[pa0]])) (qvc zy6)).consM 35 (zno taL1 aLC1 (TR.pure dI) qnk (λk c=>[qyz k c])) (qvc zxj)).consM 36 (qy8 taL1 aP1 (TR.pure dLTE) qpk (λk p=>[z3w k p])) (qcp zym)
abbrev lvT2:Tr Bool:=q21 Tryz.prog (MTab.gamz zeg [(4000000,0)] []) noΛ 100 28 (DA.enc .none ()) q0l
end
end Go.Proofs.YthnojkbkojpadaaGreat

namespace Go.Proofs.YthnojkbkojpadaaGreat
open Go.RowKit Go.Sx Go.Lp
abbrev lv0:Prop:=(([Spot.mk (Place.mk (1:Int) (2:Int)) (0:Int)],[]):List Spot×List Edge)=([Spot.mk (Place.mk (1:Int) (2:Int)) (0:Int)],[])
theorem lv0p:lv0:=rfl
abbrev lv1:Prop:=[Path.mk (Place.mk (1:Int) (2:Int)) (Place.mk (1:Int) (2:Int)) [S.mk (0:Int) (0:Int) (0:Int) (0:Int) (0:Int) (0:Int) (0:Int) (0:Int)]]=[Path.mk (Place.mk (1:Int) (2:Int)) (Place.mk (1:Int) (2:Int)) [S.mk (0:Int) (0:Int) (0:Int) (0:Int) (0:Int) (0:Int) (0:Int) (0:Int)]]
theorem lv1p:lv1:=rfl
abbrev lv2:Prop:=∀(e:Nat),e<(1:Nat)->ePa.Ok (ePa.els [Path.mk (Place.mk (1:Int) (2:Int)) (Place.mk (1:Int) (2:Int)) [S.mk (0:Int) (0:Int) (0:Int) (0:Int) (0:Int) (0:Int) (0:Int) (0:Int)]] e)
theorem lv2p:lv2:=λ_ _=>El.ok_els _ _ _
abbrev lv3:Prop:=∀(e:Nat),e<(1:Nat)->(eP.pair eI).Ok ((eP.pair eI).els [(Place.mk (1:Int) (2:Int),(0:Int))] e)
theorem lv3p:lv3:=λ_ _=>El.ok_els _ _ _
abbrev lv4:Prop:=∀(e:Nat),e<(0:Nat)->True
theorem lv4p:lv4:=λ_ _=>trivial
abbrev lv5:Prop:=qyz ([Path.mk (Place.mk (1:Int) (2:Int)) (Place.mk (1:Int) (2:Int)) [S.mk (0:Int) (0:Int) (0:Int) (0:Int) (0:Int) (0:Int) (0:Int) (0:Int)]],[(Place.mk (1:Int) (2:Int),(0:Int))],[],(0:Nat)) [q00.mk (Place.mk (1:Int) (2:Int)) (T.mk (3:Int) (0:Int) (0:Int) (0:Int) (0:Int) (0:Int)) (1:Int)]
theorem lv5p:lv5:=by first|exact .inl rfl|exact .inr rfl
abbrev lv6:Prop:=∀(e:Nat),e<(1:Nat)->True
theorem lv6p:lv6:=λ_ _=>trivial
abbrev lv7:Prop:=z3w ([Path.mk (Place.mk (1:Int) (2:Int)) (Place.mk (1:Int) (2:Int)) [S.mk (0:Int) (0:Int) (0:Int) (0:Int) (0:Int) (0:Int) (0:Int) (0:Int)]],[(Place.mk (1:Int) (2:Int),(0:Int))],[((Place.mk (1:Int) (2:Int),T.mk (3:Int) (0:Int) (0:Int) (0:Int) (0:Int) (0:Int)),(1:Int),(0:Int))],(1:Nat)) (Place.mk (1:Int) (2:Int))
theorem lv7p:lv7:=by first|exact .inl rfl|exact .inr rfl
abbrev lv8:Prop:=qyz ([Path.mk (Place.mk (1:Int) (2:Int)) (Place.mk (1:Int) (2:Int)) [S.mk (0:Int) (0:Int) (0:Int) (0:Int) (0:Int) (0:Int) (0:Int) (0:Int)]],[(Place.mk (1:Int) (2:Int),(0:Int))],[((Place.mk (1:Int) (2:Int),T.mk (3:Int) (0:Int) (0:Int) (0:Int) (0:Int) (0:Int)),(1:Int),(0:Int))],(1:Nat)) [q00.mk (Place.mk (1:Int) (2:Int)) (T.mk (3:Int) (0:Int) (0:Int) (0:Int) (0:Int) (0:Int)) (-1:Int)]
theorem lv8p:lv8:=by first|exact .inl rfl|exact .inr rfl
abbrev lv9:Prop:=z3w ([Path.mk (Place.mk (1:Int) (2:Int)) (Place.mk (1:Int) (2:Int)) [S.mk (0:Int) (0:Int) (0:Int) (0:Int) (0:Int) (0:Int) (0:Int) (0:Int)]],[(Place.mk (1:Int) (2:Int),(0:Int))],[],(1:Nat)) (Place.mk (1:Int) (2:Int))
theorem lv9p:lv9:=by first|exact .inl rfl|exact .inr rfl
abbrev lv10:Prop:=(0:Int)<=(0:Int)/\(0:Int)<(1:Int)
theorem zy9:lv10:=by decide
theorem lvh:(lvT2).Holds (·=true):=Tr.hn_holds (by rw[show(lvT2).hn true=(lv0/\lv1/\lv2/\lv3/\lv4/\lv5/\lv2/\lv3/\lv6/\lv7/\lv2/\lv3/\lv6/\lv8/\lv2/\lv3/\lv4/\lv9/\lv10/\true=true) by kernel_rfl];exact⟨lv0p,lv1p,lv2p,lv3p,lv4p,lv5p,lv2p,lv3p,lv6p,lv7p,lv2p,lv3p,lv6p,lv8p,lv2p,lv3p,lv4p,lv9p,zy9,rfl⟩)
theorem zt5:q09 Tryz.prog 28 .none q0l (λ_=>true) (λ_=>[]):=q26 (MTab.okz zeg [(4000000,0)] []) q0f 100 λg _ _=>by
 have h:lvT2.Holds (·=true):=lvh;exact h
end Go.Proofs.YthnojkbkojpadaaGreat

namespace Go.Proofs.YthnojkbkojpadaaGreat
noncomputable section
open Go.RowKit Go.Sx
abbrev q4l:Type:=List Path×Int×Int×Int
def z4h:LP 0 q4l:=.pair (.slot 0 9 dLP) (.pair (.slot 0 10 dI) (.pair (.slot 0 11 dI) (.slot 0 3 dI)))
def qk3(xs:List Path)(n:Int)(i:Int)(k:Int):Ex×q4l:=
 bif decide (i<n)then(Ex.normal,ePa.ag xs,n,IntKind.i64.wrap (i+(1:Int)),IntKind.i64.wrap (k+List.foldl (λa x=>bif false then if x.snd.snd>a then x.snd.snd else a else if x.snd.snd<a then x.snd.snd else a) (↑(xs.getD i.toNat ePa.dflt).ss.length:Int) [(true,IntKind.i64,(1000:Int))]))
 else(Ex.exit (0:Nat),ePa.ag xs,n,i,k)
def qh0(xs:List Path)(n:Int)(i:Int)(k:Int):Prop:=
 (decide (i<n)=true->((0:Int)<=i/\i<(↑xs.length:Int))/\ePa.okL xs)/\(decide (i<n)=false->ePa.okL xs)
theorem zbw:((q03 Tryz.prog 32).filter λc=>Nat.beq (lkey c) 5).length=1:=by kernel_rfl
abbrev q5o:Type:=List Path×Int
abbrev qdd:Type:=Int
def z4g(g:q4l):Int×q5o×qdd:=(g.2.2.1,(g.1,g.2.1),g.2.2.2)
def zgu(d:Int×q5o×qdd):q4l:=(d.2.1.1,d.2.1.2,d.1,d.2.2)
abbrev qdc(g:q4l):Ex×q4l:=qk3 g.1 g.2.1 g.2.2.1 g.2.2.2
abbrev z4e(g:q4l):Prop:=qh0 g.1 g.2.1 g.2.2.1 g.2.2.2
theorem znk(g:q4l):(qdc g).1=.normal\/(qdc g).1∈([.exit 0]:List Ex):=by
 unfold qdc qk3
 repeat' (first|(left;rfl)|(right;simp only[cond_true,cond_false];simp;done)|(rw[Bool.cond_eq_ite];split))
abbrev z4j(Inv:q4l->List Prop)(m:q4l->Nat):LCon:=q2q [.exit 0] (loopBody Tryz.prog 32 5) z4h [] 24 Inv qdc m
theorem z4f(Inv:q4l->List Prop)(m:q4l->Nat)(hs:∀g,allP (Inv g)->z4e g)(hg:Goes qdc m λg=>allP (Inv g)):∀b∈q03 Tryz.prog 32,lkey b=5->q06 Tryz.prog b (z4j Inv m).g:=q0s (Γ:=(MTab.gamz q8a [] [])) (Λ:=noΛ) (MTab.okz q8a [] []) q0f 100 32 5 24 z4h [] Inv qdc z4e m default [.exit 0] zbw (λrd T B HL HB ds g=>by kernel_rfl) (λrd T B HL HB ds g=>by kernel_rfl) hs hg znk
open Go.RowKit Go.Sx Go.Lp
def zv0(k:Int)(v:Path):Int:=IntKind.i64.wrap (k+List.foldl (λa(x:Bool×IntKind×Int)=>bif false then if x.2.2>a then x.2.2 else a else if x.2.2<a then x.2.2 else a) (v.ss.length:Int) [(true,IntKind.i64,(1000:Int))])
def qv9(_:q5o)(b:qdd)(_:Int)(v:Path):Ex×qdd:=(.normal,zv0 b v)
def qvb(_:q5o)(_:qdd)(_:Int):Prop:=True
abbrev z4i(g:q4l):List Prop:=ixI (λc:q5o=>c.2) (λc=>c.1) qvb (z4g g)
abbrev qva(g:q4l):Nat:=ixM (λc:q5o=>c.2) (z4g g)
theorem zuz:ixP qv9 (λc:q5o=>c.1) qvb:=λ_ _ _ _ h _ _=>h
abbrev znl(g:q4l):Ex×q4l:=qk3 g.1 g.2.1 g.2.2.1 g.2.2.2
theorem znm(d:Int×q5o×qdd)(_:allP (ixI (λc:q5o=>c.2) (λc=>c.1) qvb d)):znl (zgu d)=((ixF 0 (λc:q5o=>c.2) (λc=>c.1) ePa.dflt qv9 d).1,zgu (ixF 0 (λc:q5o=>c.2) (λc=>c.1) ePa.dflt qv9 d).2):=by
 obtain⟨i,⟨xs,n⟩,k⟩:=d;show qk3 xs n i k=_;unfold qk3 ixF qv9 zv0;simp only[El.ag_eq];cases decide (i<n)<;>rfl
theorem znj:∀b∈q03 Tryz.prog 32,lkey b=5->q06 Tryz.prog b (z4j z4i qva).g:=by
 refine z4f z4i qva (λg hi=>?_) (q0e (λ_=>rfl) (λ_=>rfl) znm zuz);obtain⟨xs,n,i,k⟩:=g;obtain⟨h1,h2,h3,h4,h5⟩:=hi _ (List.mem_cons_self ..);have h1:n=(xs.length:Int):=h1;have h3:0<=i:=h3;show qh0 xs n i k;unfold qh0;simp only[El.okL_eq];exact⟨λhlt=>⟨rngP i n _ h1 h3 hlt,trivial⟩,λ_=>trivial⟩
def ltW4:LTab Tryz.prog:=LTab.nil.cons 32 5 (z4j z4i qva) znj
abbrev zto:Lam:=ltW4.lam
theorem zas:∀f k L,zto f k=some L->∀b∈q03 Tryz.prog f,lkey b=k->q06 Tryz.prog b L.g:=ltW4.ok
def zjc:MTab Tryz.prog:=q8a.cons 28 (q1y .none q0l (λ_=>true) (λ_=>[])) (q0k zt5 puB)
def zus(l:List Path):Ex×
 q4l:=
 q07 (λg=>qk3 g.fst g.snd.fst g.snd.snd.fst g.snd.snd.snd) qva (ePa.ag l,(↑l.length:Int),(0:Int),(0:Int))
def qi8(l:List Path):Dv.T q0l:=
 bif decide ((↑l.length:Int)>(40:Int))then false else decide ((zus l).snd.snd.snd.snd<=(200:Int))
def qfa(l:List Path):Prop:=
 decide ((↑l.length:Int)>(40:Int))=false->ePa.okL l/\Lp.ixJ (λc=>c.snd) (λc=>c.fst) qvb (z4g (ePa.ag l,(↑l.length:Int),(0:Int),(0:Int)))
theorem znd(pre:DA.T aLP1->List Prop)(h:∀g,DA.bd aLP1 g->(∀p∈pre g,p)->qfa g):q09 Tryz.prog 32 aLP1 q0l (λg=>qi8 g) pre:=q0o (Γ:=(MTab.gamz zjc [] [])) (Λ:=zto) (MTab.okz zjc [] []) zas 100 default (λg=>qfa g) (λg=>by kernel_rfl) (λg=>by kernel_rfl) h
theorem zyk:q09 Tryz.prog 32 aLP1 q0l (λl=>qi8 l) (λ_=>[]):=znd (λ_=>[]) λl hb _=>by
 show qfa l;unfold qfa;intro h;simp only[El.okL_eq,El.ag_eq];exact⟨trivial,ixJ0 rfl hb.1 trivial⟩
theorem zne{l:List Path}(h:qi8 l=true):l.length<=64:=by
 unfold qi8 at h;by_cases h2:(l.length:Int)>40
 .rw[decide_eq_true h2]at h;cases h
 .omega
def qql:MTab Tryz.prog:=zjc.cons 32 (q1y aLP1 q0l (λl=>qi8 l) (λ_=>[])) (q0k zyk puB)
abbrev LLC:Type:=List (List q00)
abbrev dLLC:Dv LLC:=.list eLC
abbrev qdo:DA (List (List q00)):=.one dLLC
abbrev z7a:DA (List q00):=.one (dFn1 85 (.list eC))
abbrev q5x:Type:=List q00×Int×Int×Unit×List q00×LoopState×Option Code
def zhy:LP 3 q5x:=.pair (.slot 3 5 dLC) (.pair (.slot 3 6 dI) (.pair (.slot 3 7 dI) (.pair (.fix 3 0 (.yl 2)) (.pair (.objRow 3 0 48 59 eC) (.rf 3 2 Tryz.prog 86 0 13 [(2,.p 0 0)] 1)))))
def qxw(xs:List q00)(n:Int)(i:Int)(_u:Unit)(o:List q00):Ex×q5x:=
 bif decide (i<n)then(Ex.normal,eC.ag xs,n,IntKind.i64.wrap (i+(1:Int)),(),eC.lst (min (o.length+(1:Nat)) o.length) (eC.els o)++List.map (λx=>xs.getD i.toNat eC.dflt) (List.range (o.length+(1:Nat)-o.length)),LoopState.ready,none)
 else(Ex.exit (0:Nat),eC.ag xs,n,i,(),eC.ag o,LoopState.ready,none)
def qn8(xs:List q00)(n:Int)(i:Int)(_u:Unit)(o:List q00):Prop:=
 (decide (i<n)=true->((0:Int)<=i/\i<(↑xs.length:Int))/\(o.length<=o.length/\True/\o.length+(1:Nat)<=maxLen/\(o.length+(1:Nat))*Tryz.prog.types[(59:Nat)].bytes<=(140737488355328:Nat))/\eC.okL xs/\o.length+(1:Nat)<=o.length+(1:Nat)/\(∀(e:Nat),e<min (o.length+(1:Nat)) o.length->True)/\(∀(e:Nat),e<o.length+(1:Nat)-o.length->True)/\q65 (q1q Tryz.prog (86:Nat) (0:Nat)).snd.fst (q1q Tryz.prog (86:Nat) (0:Nat)).snd.fst/\q65 (q1q Tryz.prog (86:Nat) (0:Nat)).snd.snd (q1q Tryz.prog (86:Nat) (0:Nat)).snd.snd)/\(decide (i<n)=false->eC.okL xs/\o.length<=o.length/\(∀(e:Nat),e<o.length->True)/\q65 (q1q Tryz.prog (86:Nat) (0:Nat)).snd.fst (q1q Tryz.prog (86:Nat) (0:Nat)).snd.fst/\q65 (q1q Tryz.prog (86:Nat) (0:Nat)).snd.snd (q1q Tryz.prog (86:Nat) (0:Nat)).snd.snd)
theorem zpl:((q03 Tryz.prog 85).filter λc=>Nat.beq (lkey c) 1).length=1:=by kernel_rfl
abbrev q91:Type:=List q00×Int
abbrev qcm:Type:=Unit×List q00×LoopState×Option Code
def zda(g:q5x):Int×q91×qcm:=(g.2.2.1,(g.1,g.2.1),(g.2.2.2.1,g.2.2.2.2.1,g.2.2.2.2.2))
def zd9(d:Int×q91×qcm):q5x:=(d.2.1.1,d.2.1.2,d.1,d.2.2.1,d.2.2.2.1,d.2.2.2.2)
def zpn:List ((Ex×q5x->Bool)×Ex×(q5x->q5x)):=[(λx=>exB (.exit 0) x.1,.exit 0,λg=>(g.1,g.2.1,g.2.2.1,g.2.2.2.1,g.2.2.2.2.1,(.ready,none)))]
abbrev qkp(g:q5x):Ex×q5x:=qxw g.1 g.2.1 g.2.2.1 g.2.2.2.1 g.2.2.2.2.1
abbrev zhw(g:q5x):Prop:=qn8 g.1 g.2.1 g.2.2.1 g.2.2.2.1 g.2.2.2.2.1
theorem zwh(g:q5x):(qkp g).1=.normal\/qam (qkp g) zpn:=by
 unfold qkp qxw
 repeat' (first|(left;rfl)|(right;exact⟨rfl,rfl⟩)|(rw[Bool.cond_eq_ite];split))
abbrev zpo(Inv:q5x->List Prop)(m:q5x->Nat):LCon:=z1p zpn (loopBody Tryz.prog 85 1) zhy [] 16 Inv qkp m
def zwg(g:q5x):q5x:=(g.1,g.2.1,g.2.2.1,g.2.2.2.1,g.2.2.2.2.1,(LoopState.ready,none))
theorem zd8(Inv:q5x->List Prop)(m:q5x->Nat)(hs:∀g,allP (Inv g)->zhw g)(hι:∀g,allP (Inv g)->zwg g=g)(hg:Goes qkp m λg=>allP (Inv g)):∀b∈q03 Tryz.prog 85,lkey b=1->q06 Tryz.prog b (zpo Inv m).g:=qov zwg (Γ:=(MTab.gamz q8a [] [])) (Λ:=noΛ) (MTab.okz q8a [] []) q0f 100 85 1 16 zhy [] Inv qkp zhw m default zpn zpl (λrd T B HL HB ds g=>by kernel_rfl) (λrd T B HL HB ds g=>by kernel_rfl) hι hs hg zwh
abbrev q86:Type:=LLC×Int×Int×Int
def zee:LP 0 q86:=.pair (.slot 0 10 dLLC) (.pair (.slot 0 11 dI) (.pair (.slot 0 12 dI) (.slot 0 3 dI)))
def qw2(xs:LLC)(n:Int)(i:Int)(k:Int):Ex×q86:=
 bif decide (i<n)then(Ex.normal,eLC.ag xs,n,IntKind.i64.wrap (i+(1:Int)),IntKind.i64.wrap (k+List.foldl (λa x=>bif false then if x.snd.snd>a then x.snd.snd else a else if x.snd.snd<a then x.snd.snd else a) (↑(List.getD xs i.toNat eLC.dflt).length:Int) [(true,IntKind.i64,(1000:Int))]))
 else(Ex.exit (0:Nat),eLC.ag xs,n,i,k)
def ql9(xs:LLC)(n:Int)(i:Int)(k:Int):Prop:=
 (decide (i<n)=true->((0:Int)<=i/\i<(↑(List.length xs):Int))/\eLC.okL xs)/\(decide (i<n)=false->eLC.okL xs)
theorem zj0:((q03 Tryz.prog 39).filter λc=>Nat.beq (lkey c) 3).length=1:=by kernel_rfl
abbrev q85:Type:=LLC×Int
abbrev qij:Type:=Int
def z7v(g:q86):Int×q85×qij:=(g.2.2.1,(g.1,g.2.1),g.2.2.2)
def zj1(d:Int×q85×qij):q86:=(d.2.1.1,d.2.1.2,d.1,d.2.2)
abbrev qii(g:q86):Ex×q86:=qw2 g.1 g.2.1 g.2.2.1 g.2.2.2
abbrev zec(g:q86):Prop:=ql9 g.1 g.2.1 g.2.2.1 g.2.2.2
theorem zr6(g:q86):(qii g).1=.normal\/(qii g).1∈([.exit 0]:List Ex):=by
 unfold qii qw2
 repeat' (first|(left;rfl)|(right;simp only[cond_true,cond_false];simp;done)|(rw[Bool.cond_eq_ite];split))
abbrev zj3(Inv:q86->List Prop)(m:q86->Nat):LCon:=q2q [.exit 0] (loopBody Tryz.prog 39 3) zee [] 29 Inv qii m
theorem z7u(Inv:q86->List Prop)(m:q86->Nat)(hs:∀g,allP (Inv g)->zec g)(hg:Goes qii m λg=>allP (Inv g)):∀b∈q03 Tryz.prog 39,lkey b=3->q06 Tryz.prog b (zj3 Inv m).g:=q0s (Γ:=(MTab.gamz q8a [] [])) (Λ:=noΛ) (MTab.okz q8a [] []) q0f 100 39 3 29 zee [] Inv qii zec m default [.exit 0] zj0 (λrd T B HL HB ds g=>by kernel_rfl) (λrd T B HL HB ds g=>by kernel_rfl) hs hg zr6
abbrev q98:Type:=LLC×Int×Int×Int
def zib:LP 0 q98:=.pair (.slot 0 9 dLLC) (.pair (.slot 0 10 dI) (.pair (.slot 0 11 dI) (.slot 0 3 dI)))
def qy4(xs:LLC)(n:Int)(i:Int)(k:Int):Ex×q98:=
 bif decide (i<n)then bif decide (IntKind.i64.wrap (k+(↑(List.getD xs i.toNat eLC.dflt).length:Int))<(0:Int))then default else(Ex.normal,eLC.ag xs,n,IntKind.i64.wrap (i+(1:Int)),IntKind.i64.wrap (k+(↑(List.getD xs i.toNat eLC.dflt).length:Int)))
 else(Ex.exit (0:Nat),eLC.ag xs,n,i,k)
def qnc(xs:LLC)(n:Int)(i:Int)(k:Int):Prop:=
 (decide (i<n)=true->((0:Int)<=i/\i<(↑(List.length xs):Int))/\(decide (IntKind.i64.wrap (k+(↑(List.getD xs i.toNat eLC.dflt).length:Int))<(0:Int))=true->False)/\(decide (IntKind.i64.wrap (k+(↑(List.getD xs i.toNat eLC.dflt).length:Int))<(0:Int))=false->eLC.okL xs))/\(decide (i<n)=false->eLC.okL xs)
theorem zq6:((q03 Tryz.prog 41).filter λc=>Nat.beq (lkey c) 3).length=1:=by kernel_rfl
abbrev q97:Type:=LLC×Int
abbrev qkx:Type:=Int
def zdn(g:q98):Int×q97×qkx:=(g.2.2.1,(g.1,g.2.1),g.2.2.2)
def zq7(d:Int×q97×qkx):q98:=(d.2.1.1,d.2.1.2,d.1,d.2.2)
abbrev qkw(g:q98):Ex×q98:=qy4 g.1 g.2.1 g.2.2.1 g.2.2.2
abbrev zi8(g:q98):Prop:=qnc g.1 g.2.1 g.2.2.1 g.2.2.2
theorem zwu(g:q98):(qkw g).1=.normal\/(qkw g).1∈([.exit 0]:List Ex):=by
 unfold qkw qy4
 repeat' (first|(left;rfl)|(right;simp only[cond_true,cond_false];simp;done)|(rw[Bool.cond_eq_ite];split))
abbrev zq9(Inv:q98->List Prop)(m:q98->Nat):LCon:=q2q [.exit 0] (loopBody Tryz.prog 41 3) zib [] 36 Inv qkw m
theorem zdm(Inv:q98->List Prop)(m:q98->Nat)(hs:∀g,allP (Inv g)->zi8 g)(hg:Goes qkw m λg=>allP (Inv g)):∀b∈q03 Tryz.prog 41,lkey b=3->q06 Tryz.prog b (zq9 Inv m).g:=q0s (Γ:=(MTab.gamz q8a [] [])) (Λ:=noΛ) (MTab.okz q8a [] []) q0f 100 41 3 36 zib [] Inv qkw zi8 m default [.exit 0] zq6 (λrd T B HL HB ds g=>by kernel_rfl) (λrd T B HL HB ds g=>by kernel_rfl) hs hg zwu
abbrev q96:Type:=LLC×Int×Int×List q00
def zi7:LP 0 q96:=.pair (.slot 0 25 dLLC) (.pair (.slot 0 26 dI) (.pair (.slot 0 27 dI) (.row 0 6 59 eC)))
def qy1(xs:LLC)(n:Int)(i:Int)(o:List q00):Ex×q96:=
 bif decide (i<n)then(Ex.normal,eLC.ag xs,n,IntKind.i64.wrap (i+(1:Int)),eC.lst (min (o.length+(List.getD xs i.toNat eLC.dflt).length) o.length) (eC.els o)++eC.lst (o.length+(List.getD xs i.toNat eLC.dflt).length-o.length) (eC.els (List.getD xs i.toNat eLC.dflt)))
 else(Ex.exit (2:Nat),eLC.ag xs,n,i,eC.ag o)
def qnb(xs:LLC)(n:Int)(i:Int)(o:List q00):Prop:=
 (decide (i<n)=true->((0:Int)<=i/\i<(↑(List.length xs):Int))/\(o.length<=o.length/\(∀(e:Nat),e<(List.getD xs i.toNat eLC.dflt).length->(eC.els (List.getD xs i.toNat eLC.dflt) e).all SV.one=true)/\o.length+(List.getD xs i.toNat eLC.dflt).length<=maxLen/\(o.length+(List.getD xs i.toNat eLC.dflt).length)*Tryz.prog.types[(59:Nat)].bytes<=(140737488355328:Nat))/\eLC.okL xs/\o.length+(List.getD xs i.toNat eLC.dflt).length<=o.length+(List.getD xs i.toNat eLC.dflt).length/\(∀(e:Nat),e<min (o.length+(List.getD xs i.toNat eLC.dflt).length) o.length->True)/\∀(e:Nat),e<o.length+(List.getD xs i.toNat eLC.dflt).length-o.length->True)/\(decide (i<n)=false->eLC.okL xs/\o.length<=o.length/\∀(e:Nat),e<o.length->True)
theorem zq1:((q03 Tryz.prog 41).filter λc=>Nat.beq (lkey c) 11).length=1:=by kernel_rfl
abbrev q95:Type:=LLC×Int
abbrev qkv:Type:=List q00
def zdk(g:q96):Int×q95×qkv:=(g.2.2.1,(g.1,g.2.1),g.2.2.2)
def zq2(d:Int×q95×qkv):q96:=(d.2.1.1,d.2.1.2,d.1,d.2.2)
abbrev qku(g:q96):Ex×q96:=qy1 g.1 g.2.1 g.2.2.1 g.2.2.2
abbrev zi5(g:q96):Prop:=qnb g.1 g.2.1 g.2.2.1 g.2.2.2
theorem zwq(g:q96):(qku g).1=.normal\/(qku g).1∈([.exit 2]:List Ex):=by
 unfold qku qy1
 repeat' (first|(left;rfl)|(right;simp only[cond_true,cond_false];simp;done)|(rw[Bool.cond_eq_ite];split))
abbrev zq4(Inv:q96->List Prop)(m:q96->Nat):LCon:=q2q [.exit 2] (loopBody Tryz.prog 41 11) zi7 [] 36 Inv qku m
theorem zdj(Inv:q96->List Prop)(m:q96->Nat)(hs:∀g,allP (Inv g)->zi5 g)(hg:Goes qku m λg=>allP (Inv g)):∀b∈q03 Tryz.prog 41,lkey b=11->q06 Tryz.prog b (zq4 Inv m).g:=q0s (Γ:=(MTab.gamz q8a [] [])) (Λ:=noΛ) (MTab.okz q8a [] []) q0f 100 41 11 36 zi7 [] Inv qku zi5 m default [.exit 2] zq1 (λrd T B HL HB ds g=>by kernel_rfl) (λrd T B HL HB ds g=>by kernel_rfl) hs hg zwq
abbrev q94:Type:=LLC×Int×Int×List q00
def zi4:LP 1 q94:=.pair (.slot 1 25 dLLC) (.pair (.slot 1 26 dI) (.pair (.slot 1 27 dI) (.row 1 6 59 eC)))
def qxy(xs:LLC)(n:Int)(i:Int)(o:List q00):Ex×q94:=
 bif decide (i<n)then(Ex.normal,eLC.ag xs,n,IntKind.i64.wrap (i+(1:Int)),eC.lst (min (o.length+(List.getD xs i.toNat eLC.dflt).length) o.length) (eC.els o)++eC.lst (o.length+(List.getD xs i.toNat eLC.dflt).length-o.length) (eC.els (List.getD xs i.toNat eLC.dflt)))
 else(Ex.exit (2:Nat),eLC.ag xs,n,i,eC.ag o)
def qna(xs:LLC)(n:Int)(i:Int)(o:List q00):Prop:=
 (decide (i<n)=true->((0:Int)<=i/\i<(↑(List.length xs):Int))/\(o.length<=o.length/\(∀(e:Nat),e<(List.getD xs i.toNat eLC.dflt).length->(eC.els (List.getD xs i.toNat eLC.dflt) e).all SV.one=true)/\o.length+(List.getD xs i.toNat eLC.dflt).length<=maxLen/\(o.length+(List.getD xs i.toNat eLC.dflt).length)*Tryz.prog.types[(59:Nat)].bytes<=(140737488355328:Nat))/\eLC.okL xs/\o.length+(List.getD xs i.toNat eLC.dflt).length<=o.length+(List.getD xs i.toNat eLC.dflt).length/\(∀(e:Nat),e<min (o.length+(List.getD xs i.toNat eLC.dflt).length) o.length->True)/\∀(e:Nat),e<o.length+(List.getD xs i.toNat eLC.dflt).length-o.length->True)/\(decide (i<n)=false->eLC.okL xs/\o.length<=o.length/\∀(e:Nat),e<o.length->True)
theorem zpw:((q03 Tryz.prog 41).filter λc=>Nat.beq (lkey c) 11).length=1:=by kernel_rfl
abbrev q93:Type:=LLC×Int
abbrev qkt:Type:=List q00
def zdh(g:q94):Int×q93×qkt:=(g.2.2.1,(g.1,g.2.1),g.2.2.2)
def zpx(d:Int×q93×qkt):q94:=(d.2.1.1,d.2.1.2,d.1,d.2.2)
abbrev qks(g:q94):Ex×q94:=qxy g.1 g.2.1 g.2.2.1 g.2.2.2
abbrev zi2(g:q94):Prop:=qna g.1 g.2.1 g.2.2.1 g.2.2.2
theorem zwn(g:q94):(qks g).1=.normal\/(qks g).1∈([.exit 2]:List Ex):=by
 unfold qks qxy
 repeat' (first|(left;rfl)|(right;simp only[cond_true,cond_false];simp;done)|(rw[Bool.cond_eq_ite];split))
abbrev zpz(Inv:q94->List Prop)(m:q94->Nat):LCon:=q2q [.exit 2] (loopBody Tryz.prog 41 11) zi4 [] 36 Inv qks m
theorem zdg(Inv:q94->List Prop)(m:q94->Nat)(hs:∀g,allP (Inv g)->zi2 g)(hg:Goes qks m λg=>allP (Inv g)):∀b∈q03 Tryz.prog 41,lkey b=11->q06 Tryz.prog b (zpz Inv m).g:=q0s (Γ:=(MTab.gamz q8a [] [])) (Λ:=noΛ) (MTab.okz q8a [] []) q0f 100 41 11 36 zi4 [] Inv qks zi2 m default [.exit 2] zpw (λrd T B HL HB ds g=>by kernel_rfl) (λrd T B HL HB ds g=>by kernel_rfl) hs hg zwn
theorem clc1(xs:LLC):qqj Tryz.prog (PTab.gamz (PTab.nil:PTab Tryz.prog) [] []) noΛ 100 40 48 eLC (qdo.enc xs)=
 Tr.all λcs=>Tr.giv (cs.isEmpty=false->List.length xs=(0:Nat)) (Tr.br (false !=!cs.isEmpty) (Tr.ret []) (Tr.ask ((0:Nat)<=(0:Nat)/\(∀(e:Nat),e<List.length xs->(eLC.els xs e).all SV.one=true)/\(0:Nat)+List.length xs<=maxLen/\((0:Nat)+List.length xs)*Tryz.prog.types[(48:Nat)].bytes<=(140737488355328:Nat)) (Tr.ask ((0:Nat)+List.length xs=(0:Nat)+List.length xs) (Tr.ask (∀(e:Nat),e<min ((0:Nat)+List.length xs) (0:Nat)->eLC.OkP []) (Tr.ask (∀(e:Nat),e<(0:Nat)+List.length xs-(0:Nat)->∀(p:Prop),p∈[∀(e_1:Nat),e_1<(List.getD xs e eLC.dflt).length->eC.Ok (eC.els (List.getD xs e eLC.dflt) e_1)]->p) (Tr.ret (List.map (λx=>eLC.get []) (List.range (min ((0:Nat)+List.length xs) (0:Nat)))++eLC.lst ((0:Nat)+List.length xs-(0:Nat)) (eLC.els xs)))))))):=by kernel_rfl
end
end Go.Proofs.YthnojkbkojpadaaGreat

namespace Go.Proofs.YthnojkbkojpadaaGreat
open Go.RowKit Go.Sx
theorem zsc:RdV Tryz.prog 77 dLLC (λl=>∀s∈l,WLC s):=qo5 Tryz.underlying77 (by kernel_rfl) (by decide) rdLC
theorem zxg{n:Int}(h:(Lit.int .u8 n).wf=true):0<=n/\n<=255:=by
 have e1:IntKind.u8.min=0:=rfl;have e2:IntKind.u8.max=255:=rfl;simp[Lit.wf]at h;omega
end Go.Proofs.YthnojkbkojpadaaGreat
