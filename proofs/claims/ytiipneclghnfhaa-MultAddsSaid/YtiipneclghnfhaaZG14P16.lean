/- Chapter 4: the law MultAdds. Printed by treegen.py. -/
import Derived.Test.YtiipneclghnfhaaZG13fef392
import Derived.Test.YtiipneclghnfhaaZG07150fba
import Derived.Test.YtiipneclghnfhaaZG083c8403
import Derived.Test.YtiipneclghnfhaaZG11c67f71
set_option linter.unusedVariables false
set_option linter.unusedSimpArgs false
set_option linter.constructorNameAsVariable false
set_option linter.all false

namespace Go.Proofs.Ytiipneclghnfhaa
open Go.RowKit Go.Sx
set_option maxRecDepth 100000
set_option linter.unusedVariables false
abbrev aLLYT:DA (List Y×List Y×T):=.cons dLY (.cons dLY (.one dT))
noncomputable def lad_F (xs:List Y) (ys:List Y) (t:T):Dv.T dBool:=
 bif !true||(sumF (eY.ag (List.take (60:Nat) (eY.ag xs)),eY.ag (List.take (60:Nat) (eY.ag ys)))).snd != (0:Int) then true
 else getY (eY.ag (sumF (eY.ag (List.take (60:Nat) (eY.ag xs)),eY.ag (List.take (60:Nat) (eY.ag ys)))).fst) t==IntKind.i64.wrap (getY (eY.ag (List.take (60:Nat) (eY.ag xs))) t+getY (eY.ag (List.take (60:Nat) (eY.ag ys))) t)&&(totalY (eY.ag (sumF (eY.ag (List.take (60:Nat) (eY.ag xs)),eY.ag (List.take (60:Nat) (eY.ag ys)))).fst)==IntKind.i64.wrap (totalY (eY.ag (List.take (60:Nat) (eY.ag xs)))+totalY (eY.ag (List.take (60:Nat) (eY.ag ys))))&&(belY (eY.ag (sumF (eY.ag (List.take (60:Nat) (eY.ag xs)),eY.ag (List.take (60:Nat) (eY.ag ys)))).fst) t==IntKind.i64.wrap (belY (eY.ag (List.take (60:Nat) (eY.ag xs))) t+belY (eY.ag (List.take (60:Nat) (eY.ag ys))) t)&&(rtcheck_F t==(0:Int)||belY (eY.ag (sumF (eY.ag (List.take (60:Nat) (eY.ag xs)),eY.ag (List.take (60:Nat) (eY.ag ys)))).fst) t==(0:Int))))
def lad_side (xs:List Y) (ys:List Y) (t:T):Prop:=
 eY.okL xs∧eY.okL ys∧eY.okL (List.take (60:Nat) (eY.ag xs))∧eY.okL (List.take (60:Nat) (eY.ag ys))∧(eY.ag (List.take (60:Nat) (eY.ag xs))).length+(eY.ag (List.take (60:Nat) (eY.ag ys))).length≤KS∧((!true||(sumF (eY.ag (List.take (60:Nat) (eY.ag xs)),eY.ag (List.take (60:Nat) (eY.ag ys)))).snd != (0:Int))=false→eY.okL (sumF (eY.ag (List.take (60:Nat) (eY.ag xs)),eY.ag (List.take (60:Nat) (eY.ag ys)))).fst∧(eY.ag (sumF (eY.ag (List.take (60:Nat) (eY.ag xs)),eY.ag (List.take (60:Nat) (eY.ag ys)))).fst).length≤KS∧eY.okL (List.take (60:Nat) (eY.ag xs))∧(eY.ag (List.take (60:Nat) (eY.ag xs))).length≤KS∧eY.okL (List.take (60:Nat) (eY.ag ys))∧(eY.ag (List.take (60:Nat) (eY.ag ys))).length≤KS∧((getY (eY.ag (sumF (eY.ag (List.take (60:Nat) (eY.ag xs)),eY.ag (List.take (60:Nat) (eY.ag ys)))).fst) t==IntKind.i64.wrap (getY (eY.ag (List.take (60:Nat) (eY.ag xs))) t+getY (eY.ag (List.take (60:Nat) (eY.ag ys))) t))=true→eY.okL (sumF (eY.ag (List.take (60:Nat) (eY.ag xs)),eY.ag (List.take (60:Nat) (eY.ag ys)))).fst)∧((getY (eY.ag (sumF (eY.ag (List.take (60:Nat) (eY.ag xs)),eY.ag (List.take (60:Nat) (eY.ag ys)))).fst) t==IntKind.i64.wrap (getY (eY.ag (List.take (60:Nat) (eY.ag xs))) t+getY (eY.ag (List.take (60:Nat) (eY.ag ys))) t))=true→(eY.ag (sumF (eY.ag (List.take (60:Nat) (eY.ag xs)),eY.ag (List.take (60:Nat) (eY.ag ys)))).fst).length≤KS)∧((getY (eY.ag (sumF (eY.ag (List.take (60:Nat) (eY.ag xs)),eY.ag (List.take (60:Nat) (eY.ag ys)))).fst) t==IntKind.i64.wrap (getY (eY.ag (List.take (60:Nat) (eY.ag xs))) t+getY (eY.ag (List.take (60:Nat) (eY.ag ys))) t))=true→eY.okL (List.take (60:Nat) (eY.ag xs)))∧((getY (eY.ag (sumF (eY.ag (List.take (60:Nat) (eY.ag xs)),eY.ag (List.take (60:Nat) (eY.ag ys)))).fst) t==IntKind.i64.wrap (getY (eY.ag (List.take (60:Nat) (eY.ag xs))) t+getY (eY.ag (List.take (60:Nat) (eY.ag ys))) t))=true→(eY.ag (List.take (60:Nat) (eY.ag xs))).length≤KS)∧((getY (eY.ag (sumF (eY.ag (List.take (60:Nat) (eY.ag xs)),eY.ag (List.take (60:Nat) (eY.ag ys)))).fst) t==IntKind.i64.wrap (getY (eY.ag (List.take (60:Nat) (eY.ag xs))) t+getY (eY.ag (List.take (60:Nat) (eY.ag ys))) t))=true→eY.okL (List.take (60:Nat) (eY.ag ys)))∧((getY (eY.ag (sumF (eY.ag (List.take (60:Nat) (eY.ag xs)),eY.ag (List.take (60:Nat) (eY.ag ys)))).fst) t==IntKind.i64.wrap (getY (eY.ag (List.take (60:Nat) (eY.ag xs))) t+getY (eY.ag (List.take (60:Nat) (eY.ag ys))) t))=true→(eY.ag (List.take (60:Nat) (eY.ag ys))).length≤KS)∧((getY (eY.ag (sumF (eY.ag (List.take (60:Nat) (eY.ag xs)),eY.ag (List.take (60:Nat) (eY.ag ys)))).fst) t==IntKind.i64.wrap (getY (eY.ag (List.take (60:Nat) (eY.ag xs))) t+getY (eY.ag (List.take (60:Nat) (eY.ag ys))) t))=true→(totalY (eY.ag (sumF (eY.ag (List.take (60:Nat) (eY.ag xs)),eY.ag (List.take (60:Nat) (eY.ag ys)))).fst)==IntKind.i64.wrap (totalY (eY.ag (List.take (60:Nat) (eY.ag xs)))+totalY (eY.ag (List.take (60:Nat) (eY.ag ys)))))=true→eY.okL (sumF (eY.ag (List.take (60:Nat) (eY.ag xs)),eY.ag (List.take (60:Nat) (eY.ag ys)))).fst)∧((getY (eY.ag (sumF (eY.ag (List.take (60:Nat) (eY.ag xs)),eY.ag (List.take (60:Nat) (eY.ag ys)))).fst) t==IntKind.i64.wrap (getY (eY.ag (List.take (60:Nat) (eY.ag xs))) t+getY (eY.ag (List.take (60:Nat) (eY.ag ys))) t))=true→(totalY (eY.ag (sumF (eY.ag (List.take (60:Nat) (eY.ag xs)),eY.ag (List.take (60:Nat) (eY.ag ys)))).fst)==IntKind.i64.wrap (totalY (eY.ag (List.take (60:Nat) (eY.ag xs)))+totalY (eY.ag (List.take (60:Nat) (eY.ag ys)))))=true→(eY.ag (sumF (eY.ag (List.take (60:Nat) (eY.ag xs)),eY.ag (List.take (60:Nat) (eY.ag ys)))).fst).length≤KS)∧((getY (eY.ag (sumF (eY.ag (List.take (60:Nat) (eY.ag xs)),eY.ag (List.take (60:Nat) (eY.ag ys)))).fst) t==IntKind.i64.wrap (getY (eY.ag (List.take (60:Nat) (eY.ag xs))) t+getY (eY.ag (List.take (60:Nat) (eY.ag ys))) t))=true→(totalY (eY.ag (sumF (eY.ag (List.take (60:Nat) (eY.ag xs)),eY.ag (List.take (60:Nat) (eY.ag ys)))).fst)==IntKind.i64.wrap (totalY (eY.ag (List.take (60:Nat) (eY.ag xs)))+totalY (eY.ag (List.take (60:Nat) (eY.ag ys)))))=true→eY.okL (List.take (60:Nat) (eY.ag xs)))∧((getY (eY.ag (sumF (eY.ag (List.take (60:Nat) (eY.ag xs)),eY.ag (List.take (60:Nat) (eY.ag ys)))).fst) t==IntKind.i64.wrap (getY (eY.ag (List.take (60:Nat) (eY.ag xs))) t+getY (eY.ag (List.take (60:Nat) (eY.ag ys))) t))=true→(totalY (eY.ag (sumF (eY.ag (List.take (60:Nat) (eY.ag xs)),eY.ag (List.take (60:Nat) (eY.ag ys)))).fst)==IntKind.i64.wrap (totalY (eY.ag (List.take (60:Nat) (eY.ag xs)))+totalY (eY.ag (List.take (60:Nat) (eY.ag ys)))))=true→(eY.ag (List.take (60:Nat) (eY.ag xs))).length≤KS)∧((getY (eY.ag (sumF (eY.ag (List.take (60:Nat) (eY.ag xs)),eY.ag (List.take (60:Nat) (eY.ag ys)))).fst) t==IntKind.i64.wrap (getY (eY.ag (List.take (60:Nat) (eY.ag xs))) t+getY (eY.ag (List.take (60:Nat) (eY.ag ys))) t))=true→(totalY (eY.ag (sumF (eY.ag (List.take (60:Nat) (eY.ag xs)),eY.ag (List.take (60:Nat) (eY.ag ys)))).fst)==IntKind.i64.wrap (totalY (eY.ag (List.take (60:Nat) (eY.ag xs)))+totalY (eY.ag (List.take (60:Nat) (eY.ag ys)))))=true→eY.okL (List.take (60:Nat) (eY.ag ys)))∧((getY (eY.ag (sumF (eY.ag (List.take (60:Nat) (eY.ag xs)),eY.ag (List.take (60:Nat) (eY.ag ys)))).fst) t==IntKind.i64.wrap (getY (eY.ag (List.take (60:Nat) (eY.ag xs))) t+getY (eY.ag (List.take (60:Nat) (eY.ag ys))) t))=true→(totalY (eY.ag (sumF (eY.ag (List.take (60:Nat) (eY.ag xs)),eY.ag (List.take (60:Nat) (eY.ag ys)))).fst)==IntKind.i64.wrap (totalY (eY.ag (List.take (60:Nat) (eY.ag xs)))+totalY (eY.ag (List.take (60:Nat) (eY.ag ys)))))=true→(eY.ag (List.take (60:Nat) (eY.ag ys))).length≤KS)∧((getY (eY.ag (sumF (eY.ag (List.take (60:Nat) (eY.ag xs)),eY.ag (List.take (60:Nat) (eY.ag ys)))).fst) t==IntKind.i64.wrap (getY (eY.ag (List.take (60:Nat) (eY.ag xs))) t+getY (eY.ag (List.take (60:Nat) (eY.ag ys))) t))=true→(totalY (eY.ag (sumF (eY.ag (List.take (60:Nat) (eY.ag xs)),eY.ag (List.take (60:Nat) (eY.ag ys)))).fst)==IntKind.i64.wrap (totalY (eY.ag (List.take (60:Nat) (eY.ag xs)))+totalY (eY.ag (List.take (60:Nat) (eY.ag ys)))))=true→(belY (eY.ag (sumF (eY.ag (List.take (60:Nat) (eY.ag xs)),eY.ag (List.take (60:Nat) (eY.ag ys)))).fst) t==IntKind.i64.wrap (belY (eY.ag (List.take (60:Nat) (eY.ag xs))) t+belY (eY.ag (List.take (60:Nat) (eY.ag ys))) t))=true→(!rtcheck_F t==(0:Int))=true→eY.okL (sumF (eY.ag (List.take (60:Nat) (eY.ag xs)),eY.ag (List.take (60:Nat) (eY.ag ys)))).fst)∧((getY (eY.ag (sumF (eY.ag (List.take (60:Nat) (eY.ag xs)),eY.ag (List.take (60:Nat) (eY.ag ys)))).fst) t==IntKind.i64.wrap (getY (eY.ag (List.take (60:Nat) (eY.ag xs))) t+getY (eY.ag (List.take (60:Nat) (eY.ag ys))) t))=true→(totalY (eY.ag (sumF (eY.ag (List.take (60:Nat) (eY.ag xs)),eY.ag (List.take (60:Nat) (eY.ag ys)))).fst)==IntKind.i64.wrap (totalY (eY.ag (List.take (60:Nat) (eY.ag xs)))+totalY (eY.ag (List.take (60:Nat) (eY.ag ys)))))=true→(belY (eY.ag (sumF (eY.ag (List.take (60:Nat) (eY.ag xs)),eY.ag (List.take (60:Nat) (eY.ag ys)))).fst) t==IntKind.i64.wrap (belY (eY.ag (List.take (60:Nat) (eY.ag xs))) t+belY (eY.ag (List.take (60:Nat) (eY.ag ys))) t))=true→(!rtcheck_F t==(0:Int))=true→(eY.ag (sumF (eY.ag (List.take (60:Nat) (eY.ag xs)),eY.ag (List.take (60:Nat) (eY.ag ys)))).fst).length≤KS))
theorem lad_okS (pre:DA.T aLLYT→List Prop) (h:∀ g,DA.bd aLLYT g→(∀ p∈pre g,p)→lad_side g.1 g.2.1 g.2.2):FnPure Try.prog 15 aLLYT dBool (fun g=>lad_F g.1 g.2.1 g.2.2) pre:=pure_of_sideS (Γ:=(MTab.gamz tabU31 [] [])) (Λ:=noΛ) (MTab.okz tabU31 [] []) noΛ_ok 100 default (fun g=>lad_side g.1 g.2.1 g.2.2) (fun g=>by kernel_rfl) (fun g=>by kernel_rfl) h
end Go.Proofs.Ytiipneclghnfhaa

namespace Go.Proofs.Ytiipneclghnfhaa
open Go.RowKit Go.Sx Go.Lp
theorem sel_put (q:T→Bool) (x:Y):∀ l:List Y,selS (fun v=>q v.t) (putY x l)=(bif q x.t then x.n else 0)+selS (fun v=>q v.t) l
 | []=>rfl
 | y :: l=>by
  have ih:=sel_put q x l
  show selS _ (putK Y.t Y.n Y.mk (fun a b=>tcmp_F a b) x (y :: l))=_
  simp only[putK]
  split
  ·rfl
  ·split
   ·rename_i h
    simp only[selS,h]
    cases q y.t with
    | true=>simp only[cond_true];omega
    | false=>simp only[cond_false];omega
   ·have ih:selS (fun v=>q v.t) (putK Y.t Y.n Y.mk (fun a b=>tcmp_F a b) x l)=_:=ih
    simp only[selS]
    rw[ih];omega
theorem sel_fold (q:T→Bool):∀ (xs a:List Y),selS (fun v=>q v.t) (xs.foldl (fun a x=>putY x a) a)=selS (fun v=>q v.t) a+selS (fun v=>q v.t) xs
 | [],a=>by simp[selS]
 | x :: xs,a=>by
  rw[List.foldl_cons,sel_fold q xs,sel_put]
  simp only[selS];omega
theorem sel_tot (q:T→Bool) (xs:List Y):selS (fun v=>q v.t) (totY xs)=selS (fun v=>q v.t) xs:=by
 have h:selS (fun v=>q v.t) (totY xs)=selS (fun v=>q v.t) []+selS (fun v=>q v.t) xs:=sel_fold q xs []
 rw[h]
 exact Int.zero_add _
theorem sel_fil (p:Y→Bool):∀ l:List Y,selS p (l.filter fun v=>v.n != 0)=selS p l
 | []=>rfl
 | x :: l=>by
  have ih:=sel_fil p l
  rw[List.filter_cons]
  by_cases h:x.n=0
  ·rw[if_neg (by simp[h]),ih]
   simp only[selS,h]
   cases p x <;> simp
  ·rw[if_pos (by simpa using h)]
   simp only[selS,ih]
theorem sel_nz (q:T→Bool) (xs:List Y):selS (fun v=>q v.t) (nzY xs)=selS (fun v=>q v.t) xs:=(sel_fil _ _).trans (sel_tot q xs)
theorem sel_bound (p:Y→Bool):∀ {l:List Y},okNs l→-(1099511627776 * (l.length:Int))≤selS p l∧selS p l≤1099511627776 * (l.length:Int)
 | [],_=>by simp[selS]
 | x :: l,h=>by
  have ih:=sel_bound p (l:=l) fun v hv=>h v (List.mem_cons_of_mem _ hv)
  have hx:=(ywi_iff _).1 (h x (List.mem_cons_self ..))
  simp only[selS,List.length_cons]
  cases p x with
  | true=>simp only[cond_true];omega
  | false=>simp only[cond_false];omega
theorem sel_none {p:Y→Bool}:∀ {l:List Y},(∀ v,p v=false)→selS p l=0
 | [],_=>rfl
 | x :: l,h=>by
  simp only[selS,h x,cond_false,sel_none (l:=l) h]
  rfl
theorem bel_bad {a t:T} (h:tcheck_F t≠0):tleq_F a t=false:=by
 unfold tleq_F
 have h1:(tcheck_F t != (0:Int))=true:=by simpa using h
 rw[h1]
 simp
theorem adds (a b:List Y) (t:T) (ha:a.length≤60) (hb:b.length≤60) (h:(sumF (a,b)).2=0) :
  (sumF (a,b)).1.length≤KS∧getY (sumF (a,b)).1 t=IntKind.i64.wrap (getY a t+getY b t)∧totalY (sumF (a,b)).1=IntKind.i64.wrap (totalY a+totalY b)∧belY (sumF (a,b)).1 t=IntKind.i64.wrap (belY a t+belY b t)∧(tcheck_F t=0∨belY (sumF (a,b)).1 t=0):=by
 have hm:a.length+b.length≤KS:=Nat.le_trans (Nat.add_le_add ha hb) (by unfold KS;decide)
 obtain ⟨hc,he⟩:=sum_is h
 obtain ⟨ca,cb⟩:=both_is hc
 rw[he] at h ⊢
 obtain ⟨h1,h2,h3,h4⟩:=of_inv h
 rw[h4]
 have hml:(a++b).length≤KS:=by rw[List.length_append];exact hm
 have cs:chkY (nzY (a++b))=0:=nz_chk hml h1 h3
 obtain ⟨_,a2,_,_,a5⟩:=chk_all (by omega) ca
 obtain ⟨_,b2,_,_,b5⟩:=chk_all (by omega) cb
 have g:∀ {x:List Y},chkY x=0→getY x t=sumY x t∧totalY x=selS (fun _=>true) x∧belY x t=selS (fun v=>tleq_F v.t t) x:=fun hx=>by
  unfold getY totalY belY
  rw[hx]
  exact ⟨rfl,rfl,rfl⟩
 obtain ⟨s1,s2,s3⟩:=g cs
 obtain ⟨x1,x2,x3⟩:=g ca
 obtain ⟨y1,y2,y3⟩:=g cb
 show (nzY (a++b)).length≤KS∧getY (nzY (a++b)) t=_∧totalY (nzY (a++b))=_∧belY (nzY (a++b)) t=_∧(_∨belY (nzY (a++b)) t=0)
 have w1:=(ywi_iff _).1 (a5 t)
 have w2:=(ywi_iff _).1 (b5 t)
 have u1:=sel_bound (fun _=>true) a2
 have u2:=sel_bound (fun _=>true) b2
 have v1:=sel_bound (fun v=>tleq_F v.t t) a2
 have v2:=sel_bound (fun v=>tleq_F v.t t) b2
 have e2:=sel_nz (fun _=>true) (a++b)
 have e3:=sel_nz (fun x=>tleq_F x t) (a++b)
 rw[selS_append] at e2 e3
 refine ⟨Nat.le_trans (nz_len _) hml,?_,?_,?_,?_⟩
 ·rw[s1,x1,y1,nz_sum,sum_app,wrS (by omega)]
 ·rw[s2,x2,y2,e2,wrS (by omega)]
 ·rw[s3,x3,y3,e3,wrS (by omega)]
 ·by_cases ht:tcheck_F t=0
  ·exact Or.inl ht
  ·exact Or.inr (by rw[s3];exact sel_none fun v=>bel_bad ht)
theorem lad_eq (xs ys:List Y) (t:T):lad_F xs ys t=true:=by
 have h:=adds (xs.take 60) (ys.take 60) t (s60 xs) (s60 ys)
 simp only[lad_F,El.ag_eq,Bool.not_true,Bool.false_or,rtcheck_eq]
 cases h1:((sumF (xs.take 60,ys.take 60)).2 != (0:Int)) with
 | true=>rfl
 | false=>
  obtain ⟨_,h2,h3,h4,h5⟩:=h (bne0 h1)
  rw[← h2,← h3,← h4]
  rcases h5 with h5 | h5 <;> simp[h5]
theorem lad_si (xs ys:List Y) (t:T):lad_side xs ys t:=by
 have l1:=s60 xs
 have l2:=s60 ys
 have l4:=sum_len (xs.take 60) (ys.take 60)
 have k:KS=1000000:=rfl
 have k1:(xs.take 60).length≤KS:=k60 l1
 have k2:(ys.take 60).length≤KS:=k60 l2
 have k3:(xs.take 60).length+(ys.take 60).length≤KS:=by omega
 have k4:(sumF (xs.take 60,ys.take 60)).1.length≤KS:=by omega
 simp only[lad_side,El.okL_eq,El.ag_eq,true_and,and_true,implies_true,k1,k2,k3,k4]
theorem lad_ok:FnPure Try.prog 15 aLLYT dBool (fun _=>true) (fun _=>[]):=
 pure_congr (lad_okS _ fun g _ _=>lad_si _ _ _) fun g _ _=>lad_eq _ _ _
end Go.Proofs.Ytiipneclghnfhaa

namespace Go.Proofs.Ytiipneclghnfhaa
open Go.RowKit Go.Sx
def W1 (n:Int):Prop:=(Lit.int .i64 n).wf=true
def W4 (a:I4):Prop:=W1 a.1∧W1 a.2.1∧W1 a.2.2.1∧W1 a.2.2.2
def W6 (a:I6):Prop:=W1 a.1∧W1 a.2.1∧W4 a.2.2
def W8 (a:I8):Prop:=W1 a.1∧W1 a.2.1∧W1 a.2.2.1∧W1 a.2.2.2.1∧W4 a.2.2.2.2
def S.W (s:S):Prop:=W8 s.toP
def T.W (t:T):Prop:=W6 t.toP
theorem rd2:Rd Try.prog 2 eI W1:=rd_int Try.underlying2
theorem rd3:Rd Try.prog 3 eI W1:=rd_int Try.underlying3
theorem rd28:Rd Try.prog 28 e4 W4:=rd_array (ts:=[2,2,2,2]) Try.underlying28 rfl (by kernel_rfl) (rds_cons rd2 (rds_cons rd2 (rds_cons rd2 (rds_one rd2))))
theorem rd30:Rd Try.prog 30 eT T.W:=rd_iso (Q:=W6) (rd_struct (ts:=[2,3,28]) Try.underlying30 rfl (by kernel_rfl) (rds_cons rd2 (rds_cons rd3 (rds_one rd28)))) _ _ _ _
theorem rdvT:RdV Try.prog 30 dT T.W:=rdv_struct Try.underlying30 rd30
end Go.Proofs.Ytiipneclghnfhaa

namespace Go.Proofs.Ytiipneclghnfhaa
open Go.RowKit Go.Sx
abbrev W7 (a:T×Int):Prop:=T.W a.1∧W1 a.2
def Y.W (y:Y):Prop:=W7 y.toP
theorem rd45:Rd Try.prog 45 eY Y.W:=rd_iso (Q:=W7) (rd_struct (ts:=[30,2]) Try.underlying45 rfl (by kernel_rfl) (rds_cons rd30 (rds_one rd2))) _ _ _ _
theorem rdvLY:RdV Try.prog 40 dLY (fun l=>∀ s∈l,Y.W s):=rdv_slice Try.underlying40 (by kernel_rfl) (by decide) rd45
end Go.Proofs.Ytiipneclghnfhaa

namespace Go.Proofs.Ytiipneclghnfhaa
open Go.ChangeShapes Go.WideShapes Go.ChangeAt Go.RowKit Go.Sx
theorem Try.own:ownKnob Try.prog.godebug=none:=by kernel_rfl
theorem Try.laidOut:laidOutB Try.prog=true:=by kernel_rfl
set_option maxRecDepth 100000 in
theorem multAdds_lifted (law:FnPure Try.prog 15 aLLYT dBool (fun _=>true) (fun _=>[])) (os:Os) (started:os.Started) (H:Type) (enc:TypeId×Value→H) :
  ReturnsInHanded {} Try.checked os 15 .any (Rows.multAddsSpec.pre6 enc Try.prog Try.f15 Rows.multAddsRow.domain false) (Rows.multAddsSpec.post enc Try.prog Try.f15 false true false false):=by
 refine returnsInHanded_of_change (C:=Try.checked) Try.own started (by kernel_rfl) Try.func15
  (ChangeSpec.witness6 (enc:=enc) (C:=Try.checked) false ⟨#[],#[.slice none 0 0,.slice none 0 0,.agg #[.int .i64 0,.int .i64 0,.int .i64 0,.int .i64 0,.int .i64 0,.int .i64 0]],[]⟩ 8 (by kernel_rfl) (by kernel_rfl) (by kernel_rfl) (by kernel_rfl)) ?_
 intro W base args ds gs before hval0 hW hcnd _
 have hval:∀ (j:Nat) t v,Try.f15.params[j]?=some t→args[j]?=some v→Value.okWide Try.prog W .any base t v:=hval0
 have hW':=hW
 obtain ⟨p,q,hA0,hV,rfl,hfz,hnd⟩:=hW
 have hA:DataW.TrodAll enc Try.prog W 0 (fun _=>true) true Try.f15.params.toList args.toList ds p:=hA0
 rw[Try.params15] at hA hval
 obtain ⟨v0,vs0,d0,ds0,p0,qq0,hargs,rfl,rfl,h0,r0⟩:=trodAll_cons hA
 obtain ⟨v1,vs1,d1,ds1,p1,qq1,rfl,rfl,rfl,h1,r1⟩:=trodAll_cons r0
 obtain ⟨v2,vs2,d2,ds2,p2,qq2,rfl,rfl,rfl,h2,r2⟩:=trodAll_cons r1
 obtain ⟨rfl,rfl,rfl⟩:=trodAll_nil r2
 obtain rfl:args=#[v0,v1,v2]:=by cases args;simp_all
 obtain ⟨rfl,rfl⟩:=trodVars_none hV
 obtain ⟨a0,q0,f0⟩:=rdvLY _ _ _ _ _ _ _ _ _ _ _ (hval 0 40 v0 rfl rfl) h0
 obtain ⟨a1,q1,f1⟩:=rdvLY _ _ _ _ _ _ _ _ _ _ _ (hval 1 40 v1 rfl rfl) h1
 obtain ⟨a2,q2,f2⟩:=rdvT _ _ _ _ _ _ _ _ _ _ _ (hval 2 30 v2 rfl rfl) h2
 have lt:∀ {t:TypeId} {v:Value} {d:DataW H} {ps:List MemPlace},DataW.Trod enc Try.prog W 0 (fun _=>true) true t v d ps→∀ x∈ps,x.block<W.heap.size:=by
  rintro t v d ps ⟨m,hm⟩
  exact DataW.trod_lt m _ _ _ hm
 clear hA0 hval0
 refine (law W (fun b=>W.heap[b]?) (a0,a1,a2) [v0,v1,v2] (fun _ _ h=>h) (by simp) ⟨f0,f1,f2,trivial⟩).mono fun e W' ⟨x,he,bel,hx⟩=>?_
 obtain rfl:x=.bool true:=by simpa [dBool,SV.fit] using hx
 subst he
 exact ⟨_,rfl,_,_,_,[],_,[],hW',trodAll_mk1 (shut_bool Try.underlying4 _),
  (trodAll_cons_mk (Below.trod Try.laidOut (by kernel_rfl) (of_decide_eq_true (by kernel_rfl)) h0 bel (lt h0))
  (trodAll_cons_mk (Below.trod Try.laidOut (by kernel_rfl) (of_decide_eq_true (by kernel_rfl)) h1 bel (lt h1))
  (trodAll_cons_mk (Below.trod Try.laidOut (by kernel_rfl) (of_decide_eq_true (by kernel_rfl)) h2 bel (lt h2)) trodAll_mk0))),rfl,bel.frame _,fun h=>by cases h⟩
theorem multAdds_over (law:FnPure Try.prog 15 aLLYT dBool (fun _=>true) (fun _=>[])):Rows.MultAddsSaid:=
 OpenClaim.holds_of_wide 15 Try.f15 rfl rfl rfl rfl rfl rfl rfl ⟨rfl,rfl,rfl,rfl,rfl⟩ rfl rfl rfl rfl rfl (by kernel_rfl) Try.func15 (by kernel_rfl)
  (of_decide_eq_true (by kernel_rfl)) (by unfold Func.isWrapper;first | (rw[if_pos (by decide +kernel)];kernel_rfl) | (rw[if_neg (by decide +kernel)];exact ⟨rfl,rfl⟩))
  (fun os started H enc _=>multAdds_lifted law os started H enc)
end Go.Proofs.Ytiipneclghnfhaa

namespace Go.Proofs.Ytiipneclghnfhaa
open Go.RowKit Go.Sx
theorem multAdds_holds:Rows.MultAddsSaid:=multAdds_over lad_ok
end Go.Proofs.Ytiipneclghnfhaa
