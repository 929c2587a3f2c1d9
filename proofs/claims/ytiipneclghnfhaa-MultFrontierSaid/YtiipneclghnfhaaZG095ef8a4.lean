/- Chapter 3: what is wrong with times. Printed by treegen.py. -/
import Derived.Test.YtiipneclghnfhaaZG080162cc
import Derived.Test.YtiipneclghnfhaaZG06e05322
set_option linter.unusedVariables false
set_option linter.unusedSimpArgs false
set_option linter.constructorNameAsVariable false
set_option linter.all false

namespace Go.Proofs.Ytiipneclghnfhaa
open Go.RowKit Go.Sx
set_option maxRecDepth 100000
set_option linter.unusedVariables false
noncomputable def tmf_q1 (xs:List T):Ex ×
 tms_G:=
 loopF (fun g=>tms_R g.fst g.snd.fst g.snd.snd.fst g.snd.snd.snd.fst g.snd.snd.snd.snd.fst g.snd.snd.snd.snd.snd) tms_M (eT.lst xs.length (eT.els xs),(↑xs.length:Int),(0:Int),(0:Int),(),eT.lst xs.length (eT.els xs))
noncomputable def tmf_F (xs:List T):Dv.T dI:=
 bif exB Ex.ret (tmf_q1 xs).fst then (tmf_q1 xs).snd.snd.snd.snd.fst
 else bif (eT.lst (tmf_q1 xs).snd.snd.snd.snd.snd.snd.length (eT.els (tmf_q1 xs).snd.snd.snd.snd.snd.snd)).any (difD (eT.lst (tmf_q1 xs).snd.snd.snd.snd.snd.snd.length (eT.els (tmf_q1 xs).snd.snd.snd.snd.snd.snd))) then (11:Int) else (0:Int)
def tmf_side (xs:List T):Prop:=
 (∀ (e:Nat),e<xs.length→eT.Ok (eT.els xs e))∧(∀ (e:Nat),e<xs.length→eT.Ok (eT.els xs e))∧Lp.ixJ (fun c=>c.snd.fst) (fun c=>c.fst) tms_K (tms_f (eT.lst xs.length (eT.els xs),(↑xs.length:Int),(0:Int),(0:Int),(),eT.lst xs.length (eT.els xs)))∧(exB Ex.ret (tmf_q1 xs).fst=false→(∀ (e:Nat),e<(tmf_q1 xs).snd.snd.snd.snd.snd.snd.length→eT.Ok (eT.els (tmf_q1 xs).snd.snd.snd.snd.snd.snd e))∧(∀ (e:Nat),e<(tmf_q1 xs).snd.snd.snd.snd.snd.snd.length→eT.Ok (eT.els (tmf_q1 xs).snd.snd.snd.snd.snd.snd e))∧((0:Nat)<(eT.lst (tmf_q1 xs).snd.snd.snd.snd.snd.snd.length (eT.els (tmf_q1 xs).snd.snd.snd.snd.snd.snd)).length→(0:Nat)<(eT.lst (tmf_q1 xs).snd.snd.snd.snd.snd.snd.length (eT.els (tmf_q1 xs).snd.snd.snd.snd.snd.snd)).length))
theorem tmf_okS (pre:DA.T aL→List Prop) (h:∀ g,DA.bd aL g→(∀ p∈pre g,p)→tmf_side g):FnPure Try.prog 68 aL dI (fun g=>tmf_F g) pre:=pure_of_sideS (Γ:=(PTab.gamz tabN [] [])) (Λ:=lamA) (PTab.okz tabN [] []) lamA_ok 100 default (fun g=>tmf_side g) (fun g=>by kernel_rfl) (fun g=>by kernel_rfl) h
noncomputable def cov_F (xs:List T) (t:T):Dv.T dBool:=
 (eT.lst xs.length (eT.els xs)).any fun x=>tleq_F x t
def cov_side (xs:List T) (t:T):Prop:=
 ∀ (e:Nat),e<xs.length→eT.Ok (eT.els xs e)
theorem cov_okS (pre:DA.T aLT→List Prop) (h:∀ g,DA.bd aLT g→(∀ p∈pre g,p)→cov_side g.1 g.2):FnPure Try.prog 19 aLT dBool (fun g=>cov_F g.1 g.2) pre:=pure_of_sideS (Γ:=(PTab.gamz tabN [] [])) (Λ:=lamA) (PTab.okz tabN [] []) lamA_ok 100 default (fun g=>cov_side g.1 g.2) (fun g=>by kernel_rfl) (fun g=>by kernel_rfl) h
end Go.Proofs.Ytiipneclghnfhaa

namespace Go.Proofs.Ytiipneclghnfhaa
open Go.RowKit Go.Sx Go.Lp
theorem tmf_eq (xs:List T) (h:xs.length≤maxLen):tmf_F xs=badC xs∧tmf_side xs:=by
 unfold tmf_F tmf_side tmf_q1 badC
 simp only[eT.lst_els]
 have h1:loopF (fun g:tms_G=>tms_R g.1 g.2.1 g.2.2.1 g.2.2.2.1 g.2.2.2.2.1 g.2.2.2.2.2) tms_M (xs,(xs.length:Int),0,0,(),xs)=_:=tms_run (xs,(xs.length:Int),xs) ((0:Int),()) rfl h trivial
 rw[h1]
 rcases search (x:=0) (st:=tms_S (xs,(xs.length:Int),xs)) (p:=fun v=>tcheck_F v != 0) (r:=fun _ a _=>(tcheck_F a,())) (fun _ _ _=>rfl) xs (0,()) with ⟨ha,j,hj,a,_,h3,h2⟩ | ⟨ha,h2⟩
 ·have h2:scan 0 (tms_S (xs,(xs.length:Int),xs)) 0 xs (0,())=_:=h2
  rw[h2,ha]
  refine ⟨?_,okT xs,okT xs,ixJ0 rfl h trivial,fun hc=>by cases hc⟩
  show tcheck_F a=10
  rcases tcheck_or a with h4 | h4
  ·rw[h4] at h3;cases h3
  ·exact h4
 ·have h2:scan 0 (tms_S (xs,(xs.length:Int),xs)) 0 xs (0,())=_:=h2
  rw[h2,ha]
  exact ⟨rfl,okT xs,okT xs,ixJ0 rfl h trivial,fun _=>⟨okT xs,okT xs,fun h=>h⟩⟩
theorem tmf_ok:FnPure Try.prog 68 aL dI badC (fun _=>[]):=
 pure_congr (tmf_okS (fun _=>[]) fun g hb _=>(tmf_eq g hb.1).2) fun g hb _=>(tmf_eq g hb.1).1
theorem cov_ok:FnPure Try.prog 19 aLT dBool (fun g=>g.1.any (tleq_F · g.2)) (fun _=>[]):=
 pure_congr (cov_okS (fun _=>[]) fun g hb _=>okT g.1) fun g hb _=>by
  show cov_F g.1 g.2=_
  unfold cov_F
  simp only[eT.lst_els]
noncomputable def tabO:PTab Try.prog:=(tabN.cons 68 (pconP aL dI badC (fun _=>[])) (conP_ok tmf_ok puI)).cons 19 (pconP aLT dBool (fun g=>g.1.any (tleq_F · g.2)) (fun _=>[])) (conP_ok cov_ok puB)
end Go.Proofs.Ytiipneclghnfhaa

namespace Go.Proofs.Ytiipneclghnfhaa
open Go.RowKit Go.Sx
set_option maxRecDepth 100000
set_option linter.unusedVariables false
abbrev ck2_G:Type:=List T×List T×Int×Int×Unit×T×List T×Int×Int×Int
noncomputable def ck2_LP:LP 1 ck2_G:=.pair (.slot 1 0 dLT) (.pair (.slot 1 16 dLT) (.pair (.slot 1 17 dI) (.pair (.slot 1 18 dI) (.pair (.fix 1 5 (.p 0 0)) (.pair (.obj 1 0 30 eT) (.pair (.slot 1 25 dLT) (.pair (.slot 1 26 dI) (.pair (.slot 1 27 dI) (.slot 1 2 dI)))))))))
noncomputable def ck2_R (l:List T) (xs:List T) (n:Int) (k:Int) (_u:Unit) (t:T) (ys:List T) (m:Int) (j:Int) (r:Int):Ex×ck2_G:=
 bif decide (j<m) then bif decide (tcmp_F (ys.getD j.toNat eT.dflt) t≥(0:Int))||(tleq_F (ys.getD j.toNat eT.dflt) t||tleq_F t (ys.getD j.toNat eT.dflt)) then (Ex.ret,eT.lst l.length (eT.els l),eT.lst xs.length (eT.els xs),n,k,(),t,eT.lst ys.length (eT.els ys),m,j,(30:Int)) else (Ex.normal,eT.lst l.length (eT.els l),eT.lst xs.length (eT.els xs),n,k,(),t,eT.lst ys.length (eT.els ys),m,IntKind.i64.wrap (j+(1:Int)),r)
 else (Ex.exit (2:Nat),eT.lst l.length (eT.els l),eT.lst xs.length (eT.els xs),n,k,(),t,eT.lst ys.length (eT.els ys),m,j,r)
def ck2_side (l:List T) (xs:List T) (n:Int) (k:Int) (_u:Unit) (t:T) (ys:List T) (m:Int) (j:Int) (r:Int):Prop:=
 (decide (j<m)=true→((0:Int)≤j∧j<(↑ys.length:Int))∧((decide (tcmp_F (ys.getD j.toNat eT.dflt) t≥(0:Int))||(tleq_F (ys.getD j.toNat eT.dflt) t||tleq_F t (ys.getD j.toNat eT.dflt)))=true→(∀ (e:Nat),e<l.length→eT.Ok (eT.els l e))∧(∀ (e:Nat),e<xs.length→eT.Ok (eT.els xs e))∧∀ (e:Nat),e<ys.length→eT.Ok (eT.els ys e))∧((decide (tcmp_F (ys.getD j.toNat eT.dflt) t≥(0:Int))||(tleq_F (ys.getD j.toNat eT.dflt) t||tleq_F t (ys.getD j.toNat eT.dflt)))=false→(∀ (e:Nat),e<l.length→eT.Ok (eT.els l e))∧(∀ (e:Nat),e<xs.length→eT.Ok (eT.els xs e))∧∀ (e:Nat),e<ys.length→eT.Ok (eT.els ys e)))∧(decide (j<m)=false→(∀ (e:Nat),e<l.length→eT.Ok (eT.els l e))∧(∀ (e:Nat),e<xs.length→eT.Ok (eT.els xs e))∧∀ (e:Nat),e<ys.length→eT.Ok (eT.els ys e))
theorem ck2_one:((loopsOf Try.prog 21).filter fun c=>Nat.beq (lkey c) 10).length=1:=by kernel_rfl
abbrev ck2_GC:Type:=List T×List T×Int×Int×T×List T×Int
abbrev ck2_GB:Type:=Unit×Int
def ck2_f (g:ck2_G):Int×ck2_GC×ck2_GB:=(g.2.2.2.2.2.2.2.2.1,(g.1,g.2.1,g.2.2.1,g.2.2.2.1,g.2.2.2.2.2.1,g.2.2.2.2.2.2.1,g.2.2.2.2.2.2.2.1),(g.2.2.2.2.1,g.2.2.2.2.2.2.2.2.2))
def ck2_g (d:Int×ck2_GC×ck2_GB):ck2_G:=(d.2.1.1,d.2.1.2.1,d.2.1.2.2.1,d.2.1.2.2.2.1,d.2.2.1,d.2.1.2.2.2.2.1,d.2.1.2.2.2.2.2.1,d.2.1.2.2.2.2.2.2,d.1,d.2.2.2)
theorem ck2_es (g:ck2_G):(ck2_R g.1 g.2.1 g.2.2.1 g.2.2.2.1 g.2.2.2.2.1 g.2.2.2.2.2.1 g.2.2.2.2.2.2.1 g.2.2.2.2.2.2.2.1 g.2.2.2.2.2.2.2.2.1 g.2.2.2.2.2.2.2.2.2).1=.normal∨(ck2_R g.1 g.2.1 g.2.2.1 g.2.2.2.1 g.2.2.2.2.1 g.2.2.2.2.2.1 g.2.2.2.2.2.2.1 g.2.2.2.2.2.2.2.1 g.2.2.2.2.2.2.2.2.1 g.2.2.2.2.2.2.2.2.2).1∈([.ret,.exit 2]:List Ex):=by
 unfold ck2_R
 repeat' (first | (left;rfl) | (right;simp only[cond_true,cond_false];simp;done) | (rw[Bool.cond_eq_ite];split))
noncomputable abbrev ck2_C (Inv:ck2_G→List Prop) (m:ck2_G→Nat):LCon:=loopR [.ret,.exit 2] (loopBody Try.prog 21 10) ck2_LP [] 47 Inv (fun g=>ck2_R g.1 g.2.1 g.2.2.1 g.2.2.2.1 g.2.2.2.2.1 g.2.2.2.2.2.1 g.2.2.2.2.2.2.1 g.2.2.2.2.2.2.2.1 g.2.2.2.2.2.2.2.2.1 g.2.2.2.2.2.2.2.2.2) m
theorem ck2_loop (Inv:ck2_G→List Prop) (m:ck2_G→Nat) (hs:∀ g,allP (Inv g)→ck2_side g.1 g.2.1 g.2.2.1 g.2.2.2.1 g.2.2.2.2.1 g.2.2.2.2.2.1 g.2.2.2.2.2.2.1 g.2.2.2.2.2.2.2.1 g.2.2.2.2.2.2.2.2.1 g.2.2.2.2.2.2.2.2.2) (hg:Goes (fun g:ck2_G=>ck2_R g.1 g.2.1 g.2.2.1 g.2.2.2.1 g.2.2.2.2.1 g.2.2.2.2.2.1 g.2.2.2.2.2.2.1 g.2.2.2.2.2.2.2.1 g.2.2.2.2.2.2.2.2.1 g.2.2.2.2.2.2.2.2.2) m fun g=>allP (Inv g)):∀ b∈loopsOf Try.prog 21,lkey b=10→LoopOk Try.prog b (ck2_C Inv m).g:=loop_run (Γ:=(PTab.gamz tabO [] [])) (Λ:=noΛ) (PTab.okz tabO [] []) noΛ_ok 100 21 10 47 ck2_LP [] Inv (fun g=>ck2_R g.1 g.2.1 g.2.2.1 g.2.2.2.1 g.2.2.2.2.1 g.2.2.2.2.2.1 g.2.2.2.2.2.2.1 g.2.2.2.2.2.2.2.1 g.2.2.2.2.2.2.2.2.1 g.2.2.2.2.2.2.2.2.2) (fun g=>ck2_side g.1 g.2.1 g.2.2.1 g.2.2.2.1 g.2.2.2.2.1 g.2.2.2.2.2.1 g.2.2.2.2.2.2.1 g.2.2.2.2.2.2.2.1 g.2.2.2.2.2.2.2.2.1 g.2.2.2.2.2.2.2.2.2) m default [.ret,.exit 2] ck2_one (fun rd T B HL HB ds g=>by kernel_rfl) (fun rd T B HL HB ds g=>by kernel_rfl) hs hg ck2_es
abbrev rk2_G:Type:=List T×Int×Int×Int
noncomputable def rk2_LP:LP 0 rk2_G:=.pair (.slot 0 0 dLT) (.pair (.slot 0 4 dI) (.pair (.slot 0 5 dI) (.slot 0 2 dI)))
noncomputable def rk2_R (xs:List T) (k:Int) (j:Int) (r:Int):Ex×rk2_G:=
 bif decide (j<(↑xs.length:Int)) then bif j != k&&rtleq_F (xs.getD j.toNat eT.dflt) (xs.getD k.toNat eT.dflt) then (Ex.ret,eT.lst xs.length (eT.els xs),k,j,(30:Int)) else (Ex.normal,eT.lst xs.length (eT.els xs),k,IntKind.i64.wrap (j+(1:Int)),r)
 else (Ex.exit (2:Nat),eT.lst xs.length (eT.els xs),k,j,r)
def rk2_side (xs:List T) (k:Int) (j:Int) (r:Int):Prop:=
 (decide (j<(↑xs.length:Int))=true→((j != k)=true→(0:Int)≤j∧j<(↑xs.length:Int))∧((j != k)=true→(0:Int)≤k∧k<(↑xs.length:Int))∧((j != k&&rtleq_F (xs.getD j.toNat eT.dflt) (xs.getD k.toNat eT.dflt))=true→∀ (e:Nat),e<xs.length→eT.Ok (eT.els xs e))∧((j != k&&rtleq_F (xs.getD j.toNat eT.dflt) (xs.getD k.toNat eT.dflt))=false→∀ (e:Nat),e<xs.length→eT.Ok (eT.els xs e)))∧(decide (j<(↑xs.length:Int))=false→∀ (e:Nat),e<xs.length→eT.Ok (eT.els xs e))
theorem rk2_one:((loopsOf Try.prog 22).filter fun c=>Nat.beq (lkey c) 12).length=1:=by kernel_rfl
abbrev rk2_GC:Type:=List T×Int
abbrev rk2_GB:Type:=Int
def rk2_f (g:rk2_G):Int×rk2_GC×rk2_GB:=(g.2.2.1,(g.1,g.2.1),g.2.2.2)
def rk2_g (d:Int×rk2_GC×rk2_GB):rk2_G:=(d.2.1.1,d.2.1.2,d.1,d.2.2)
theorem rk2_es (g:rk2_G):(rk2_R g.1 g.2.1 g.2.2.1 g.2.2.2).1=.normal∨(rk2_R g.1 g.2.1 g.2.2.1 g.2.2.2).1∈([.ret,.exit 2]:List Ex):=by
 unfold rk2_R
 repeat' (first | (left;rfl) | (right;simp only[cond_true,cond_false];simp;done) | (rw[Bool.cond_eq_ite];split))
noncomputable abbrev rk2_C (Inv:rk2_G→List Prop) (m:rk2_G→Nat):LCon:=loopR [.ret,.exit 2] (loopBody Try.prog 22 12) rk2_LP [] 55 Inv (fun g=>rk2_R g.1 g.2.1 g.2.2.1 g.2.2.2) m
theorem rk2_loop (Inv:rk2_G→List Prop) (m:rk2_G→Nat) (hs:∀ g,allP (Inv g)→rk2_side g.1 g.2.1 g.2.2.1 g.2.2.2) (hg:Goes (fun g:rk2_G=>rk2_R g.1 g.2.1 g.2.2.1 g.2.2.2) m fun g=>allP (Inv g)):∀ b∈loopsOf Try.prog 22,lkey b=12→LoopOk Try.prog b (rk2_C Inv m).g:=loop_run (Γ:=(PTab.gamz tabO [] [])) (Λ:=noΛ) (PTab.okz tabO [] []) noΛ_ok 100 22 12 55 rk2_LP [] Inv (fun g=>rk2_R g.1 g.2.1 g.2.2.1 g.2.2.2) (fun g=>rk2_side g.1 g.2.1 g.2.2.1 g.2.2.2) m default [.ret,.exit 2] rk2_one (fun rd T B HL HB ds g=>by kernel_rfl) (fun rd T B HL HB ds g=>by kernel_rfl) hs hg rk2_es
abbrev ro2_G:Type:=List T×Int×Bool×Int×List T
noncomputable def ro2_LP:LP 0 ro2_G:=.pair (.slot 0 0 dLT) (.pair (.slot 0 6 dI) (.pair (.slot 0 7 dBool) (.pair (.slot 0 8 dI) (.slot 0 5 dLT))))
noncomputable def ro2_R (xs:List T) (k:Int) (z:Bool) (j:Int) (out:List T):Ex×ro2_G:=
 bif decide (j<(↑xs.length:Int)) then (Ex.normal,eT.lst xs.length (eT.els xs),k,!(!conj ([(xs.getD j.toNat eT.dflt).e==(xs.getD k.toNat eT.dflt).e]++([(xs.getD j.toNat eT.dflt).d==(xs.getD k.toNat eT.dflt).d]++([(xs.getD j.toNat eT.dflt).l0==(xs.getD k.toNat eT.dflt).l0]++([(xs.getD j.toNat eT.dflt).l1==(xs.getD k.toNat eT.dflt).l1]++([(xs.getD j.toNat eT.dflt).l2==(xs.getD k.toNat eT.dflt).l2]++([(xs.getD j.toNat eT.dflt).l3==(xs.getD k.toNat eT.dflt).l3]++[])))++[])))&&rtleq_F (xs.getD j.toNat eT.dflt) (xs.getD k.toNat eT.dflt))&&z,IntKind.i64.wrap (j+(1:Int)),eT.lst out.length (eT.els out))
 else (Ex.exit (2:Nat),eT.lst xs.length (eT.els xs),k,z,j,eT.lst out.length (eT.els out))
def ro2_side (xs:List T) (k:Int) (z:Bool) (j:Int) (out:List T):Prop:=
 (decide (j<(↑xs.length:Int))=true→((0:Int)≤j∧j<(↑xs.length:Int))∧((0:Int)≤k∧k<(↑xs.length:Int))∧((!conj ([(xs.getD j.toNat eT.dflt).e==(xs.getD k.toNat eT.dflt).e]++([(xs.getD j.toNat eT.dflt).d==(xs.getD k.toNat eT.dflt).d]++([(xs.getD j.toNat eT.dflt).l0==(xs.getD k.toNat eT.dflt).l0]++([(xs.getD j.toNat eT.dflt).l1==(xs.getD k.toNat eT.dflt).l1]++([(xs.getD j.toNat eT.dflt).l2==(xs.getD k.toNat eT.dflt).l2]++([(xs.getD j.toNat eT.dflt).l3==(xs.getD k.toNat eT.dflt).l3]++[])))++[]))))=true→(0:Int)≤j∧j<(↑xs.length:Int))∧((!conj ([(xs.getD j.toNat eT.dflt).e==(xs.getD k.toNat eT.dflt).e]++([(xs.getD j.toNat eT.dflt).d==(xs.getD k.toNat eT.dflt).d]++([(xs.getD j.toNat eT.dflt).l0==(xs.getD k.toNat eT.dflt).l0]++([(xs.getD j.toNat eT.dflt).l1==(xs.getD k.toNat eT.dflt).l1]++([(xs.getD j.toNat eT.dflt).l2==(xs.getD k.toNat eT.dflt).l2]++([(xs.getD j.toNat eT.dflt).l3==(xs.getD k.toNat eT.dflt).l3]++[])))++[]))))=true→(0:Int)≤k∧k<(↑xs.length:Int))∧(∀ (e:Nat),e<xs.length→eT.Ok (eT.els xs e))∧∀ (e:Nat),e<out.length→eT.Ok (eT.els out e))∧(decide (j<(↑xs.length:Int))=false→(∀ (e:Nat),e<xs.length→eT.Ok (eT.els xs e))∧∀ (e:Nat),e<out.length→eT.Ok (eT.els out e))
theorem ro2_one:((loopsOf Try.prog 31).filter fun c=>Nat.beq (lkey c) 10).length=1:=by kernel_rfl
abbrev ro2_GC:Type:=List T×Int×List T
abbrev ro2_GB:Type:=Bool
def ro2_f (g:ro2_G):Int×ro2_GC×ro2_GB:=(g.2.2.2.1,(g.1,g.2.1,g.2.2.2.2),g.2.2.1)
def ro2_g (d:Int×ro2_GC×ro2_GB):ro2_G:=(d.2.1.1,d.2.1.2.1,d.2.2,d.1,d.2.1.2.2)
theorem ro2_es (g:ro2_G):(ro2_R g.1 g.2.1 g.2.2.1 g.2.2.2.1 g.2.2.2.2).1=.normal∨(ro2_R g.1 g.2.1 g.2.2.1 g.2.2.2.1 g.2.2.2.2).1∈([.exit 2]:List Ex):=by
 unfold ro2_R
 repeat' (first | (left;rfl) | (right;simp only[cond_true,cond_false];simp;done) | (rw[Bool.cond_eq_ite];split))
noncomputable abbrev ro2_C (Inv:ro2_G→List Prop) (m:ro2_G→Nat):LCon:=loopR [.exit 2] (loopBody Try.prog 31 10) ro2_LP [] 64 Inv (fun g=>ro2_R g.1 g.2.1 g.2.2.1 g.2.2.2.1 g.2.2.2.2) m
theorem ro2_loop (Inv:ro2_G→List Prop) (m:ro2_G→Nat) (hs:∀ g,allP (Inv g)→ro2_side g.1 g.2.1 g.2.2.1 g.2.2.2.1 g.2.2.2.2) (hg:Goes (fun g:ro2_G=>ro2_R g.1 g.2.1 g.2.2.1 g.2.2.2.1 g.2.2.2.2) m fun g=>allP (Inv g)):∀ b∈loopsOf Try.prog 31,lkey b=10→LoopOk Try.prog b (ro2_C Inv m).g:=loop_run (Γ:=(PTab.gamz tabO [] [])) (Λ:=noΛ) (PTab.okz tabO [] []) noΛ_ok 100 31 10 64 ro2_LP [] Inv (fun g=>ro2_R g.1 g.2.1 g.2.2.1 g.2.2.2.1 g.2.2.2.2) (fun g=>ro2_side g.1 g.2.1 g.2.2.1 g.2.2.2.1 g.2.2.2.2) m default [.exit 2] ro2_one (fun rd T B HL HB ds g=>by kernel_rfl) (fun rd T B HL HB ds g=>by kernel_rfl) hs hg ro2_es
abbrev rl_G:Type:=List T×List T×Int×Bool
noncomputable def rl_LP:LP 0 rl_G:=.pair (.slot 0 0 dLT) (.pair (.slot 0 1 dLT) (.pair (.slot 0 5 dI) (.slot 0 4 dBool)))
noncomputable def rl_R (ys:List T) (xs:List T) (i:Int) (r:Bool):Ex×rl_G:=
 bif decide (i<(↑xs.length:Int)) then bif !(eT.lst ys.length (eT.els ys)).any fun x=>tleq_F x (xs.getD i.toNat eT.dflt) then (Ex.ret,eT.lst ys.length (eT.els ys),eT.lst xs.length (eT.els xs),i,false) else (Ex.normal,eT.lst ys.length (eT.els ys),eT.lst xs.length (eT.els xs),IntKind.i64.wrap (i+(1:Int)),r)
 else (Ex.exit (0:Nat),eT.lst ys.length (eT.els ys),eT.lst xs.length (eT.els xs),i,r)
def rl_side (ys:List T) (xs:List T) (i:Int) (r:Bool):Prop:=
 (decide (i<(↑xs.length:Int))=true→((0:Int)≤i∧i<(↑xs.length:Int))∧(∀ (e:Nat),e<ys.length→eT.Ok (eT.els ys e))∧((!(eT.lst ys.length (eT.els ys)).any fun x=>tleq_F x (xs.getD i.toNat eT.dflt))=true→(∀ (e:Nat),e<ys.length→eT.Ok (eT.els ys e))∧∀ (e:Nat),e<xs.length→eT.Ok (eT.els xs e))∧((!(eT.lst ys.length (eT.els ys)).any fun x=>tleq_F x (xs.getD i.toNat eT.dflt))=false→(∀ (e:Nat),e<ys.length→eT.Ok (eT.els ys e))∧∀ (e:Nat),e<xs.length→eT.Ok (eT.els xs e)))∧(decide (i<(↑xs.length:Int))=false→(∀ (e:Nat),e<ys.length→eT.Ok (eT.els ys e))∧∀ (e:Nat),e<xs.length→eT.Ok (eT.els xs e))
theorem rl_one:((loopsOf Try.prog 56).filter fun c=>Nat.beq (lkey c) 2).length=1:=by kernel_rfl
abbrev rl_GC:Type:=List T×List T
abbrev rl_GB:Type:=Bool
def rl_f (g:rl_G):Int×rl_GC×rl_GB:=(g.2.2.1,(g.1,g.2.1),g.2.2.2)
def rl_g (d:Int×rl_GC×rl_GB):rl_G:=(d.2.1.1,d.2.1.2,d.1,d.2.2)
theorem rl_es (g:rl_G):(rl_R g.1 g.2.1 g.2.2.1 g.2.2.2).1=.normal∨(rl_R g.1 g.2.1 g.2.2.1 g.2.2.2).1∈([.ret,.exit 0]:List Ex):=by
 unfold rl_R
 repeat' (first | (left;rfl) | (right;simp only[cond_true,cond_false];simp;done) | (rw[Bool.cond_eq_ite];split))
noncomputable abbrev rl_C (Inv:rl_G→List Prop) (m:rl_G→Nat):LCon:=loopR [.ret,.exit 0] (loopBody Try.prog 56 2) rl_LP [] 19 Inv (fun g=>rl_R g.1 g.2.1 g.2.2.1 g.2.2.2) m
theorem rl_loop (Inv:rl_G→List Prop) (m:rl_G→Nat) (hs:∀ g,allP (Inv g)→rl_side g.1 g.2.1 g.2.2.1 g.2.2.2) (hg:Goes (fun g:rl_G=>rl_R g.1 g.2.1 g.2.2.1 g.2.2.2) m fun g=>allP (Inv g)):∀ b∈loopsOf Try.prog 56,lkey b=2→LoopOk Try.prog b (rl_C Inv m).g:=loop_run (Γ:=(PTab.gamz tabO [] [])) (Λ:=noΛ) (PTab.okz tabO [] []) noΛ_ok 100 56 2 19 rl_LP [] Inv (fun g=>rl_R g.1 g.2.1 g.2.2.1 g.2.2.2) (fun g=>rl_side g.1 g.2.1 g.2.2.1 g.2.2.2) m default [.ret,.exit 0] rl_one (fun rd T B HL HB ds g=>by kernel_rfl) (fun rd T B HL HB ds g=>by kernel_rfl) hs hg rl_es
end Go.Proofs.Ytiipneclghnfhaa

namespace Go.Proofs.Ytiipneclghnfhaa
open Go.RowKit Go.Sx Go.Lp
set_option maxRecDepth 100000
noncomputable def clash (u t:T):Bool:=decide (tcmp_F u t≥(0:Int))||(tleq_F u t||tleq_F t u)
noncomputable def ck2_S (c:ck2_GC) (b:ck2_GB) (i:Int) (v:T):Ex×ck2_GB:=bif decide (tcmp_F v c.2.2.2.2.1≥(0:Int))||(tleq_F v c.2.2.2.2.1||tleq_F c.2.2.2.2.1 v) then (.ret,(),(30:Int)) else (.normal,b.1,b.2)
def ck2_K (c:ck2_GC) (b:ck2_GB) (i:Int):Prop:=True
abbrev ck2_I (g:ck2_G):List Prop:=ixI (fun c:ck2_GC=>c.2.2.2.2.2.2) (fun c:ck2_GC=>c.2.2.2.2.2.1) ck2_K (ck2_f g)
abbrev ck2_M (g:ck2_G):Nat:=ixM (fun c:ck2_GC=>c.2.2.2.2.2.2) (ck2_f g)
theorem ck2_P:ixP ck2_S (fun c:ck2_GC=>c.2.2.2.2.2.1) ck2_K:=fun _ _ _ _ h _ _=>h
noncomputable abbrev ck2_RR (g:ck2_G):Ex×ck2_G:=ck2_R g.1 g.2.1 g.2.2.1 g.2.2.2.1 g.2.2.2.2.1 g.2.2.2.2.2.1 g.2.2.2.2.2.2.1 g.2.2.2.2.2.2.2.1 g.2.2.2.2.2.2.2.2.1 g.2.2.2.2.2.2.2.2.2
theorem ck2_RF (d:Int×ck2_GC×ck2_GB) (_:allP (ixI (fun c:ck2_GC=>c.2.2.2.2.2.2) (fun c:ck2_GC=>c.2.2.2.2.2.1) ck2_K d)):ck2_RR (ck2_g d)=((ixF 2 (fun c:ck2_GC=>c.2.2.2.2.2.2) (fun c:ck2_GC=>c.2.2.2.2.2.1) eT.dflt ck2_S d).1,ck2_g (ixF 2 (fun c:ck2_GC=>c.2.2.2.2.2.2) (fun c:ck2_GC=>c.2.2.2.2.2.1) eT.dflt ck2_S d).2):=by
 obtain ⟨j,⟨l,xs,n,k,t,ys,m⟩,⟨⟨⟩,r⟩⟩:=d
 show ck2_R l xs n k () t ys m j r=_
 unfold ck2_R ixF ck2_S
 simp only[eT.lst_els]
 cases decide (j<m) with
 | false=>rfl
 | true=>
  simp only[cond_true]
  generalize (decide (tcmp_F (ys.getD j.toNat eT.dflt) t≥(0:Int))||(tleq_F (ys.getD j.toNat eT.dflt) t||tleq_F t (ys.getD j.toNat eT.dflt)))=z
  cases z <;> rfl
theorem ck2_ok:∀ b∈loopsOf Try.prog 21,lkey b=10→LoopOk Try.prog b (ck2_C ck2_I ck2_M).g:=by
 refine ck2_loop ck2_I ck2_M (fun g hi=>?_) (ix_conj_goes (fun _=>rfl) (fun _=>rfl) ck2_RF ck2_P)
 obtain ⟨l,xs,n,k,⟨⟩,t,ys,m,j,r⟩:=g
 obtain ⟨h1,h2,h3,h4,h5⟩:=hi _ (List.mem_cons_self ..)
 have h1:m=(ys.length:Int):=h1
 have h3:0≤j:=h3
 have h5:True:=h5
 show ck2_side l xs n k () t ys m j r
 unfold ck2_side
 simp only[decide_eq_true_eq,decide_eq_false_iff_not]
 have k0:∀ e:Nat,e<l.length→eT.Ok (eT.els l e):=fun e _=>eT.ok_els l e
 have k1:∀ e:Nat,e<xs.length→eT.Ok (eT.els xs e):=fun e _=>eT.ok_els xs e
 have k2:∀ e:Nat,e<ys.length→eT.Ok (eT.els ys e):=fun e _=>eT.ok_els ys e
 clear hi
 repeat' (first | exact k0 | exact k1 | exact k2 | apply And.intro | intro _)
 all_goals omega
theorem ck2_run (c:ck2_GC) (b:ck2_GB) (k1:c.2.2.2.2.2.2=((c.2.2.2.2.2.1).length:Int)) (k2:(c.2.2.2.2.2.1).length≤maxLen) (k3:ck2_K c b 0):loopF ck2_RR ck2_M (ck2_g (0,c,b))=((scan 2 (ck2_S c) 0 (c.2.2.2.2.2.1) b).1,ck2_g ((scan 2 (ck2_S c) 0 (c.2.2.2.2.2.1) b).2.1,c,(scan 2 (ck2_S c) 0 (c.2.2.2.2.2.1) b).2.2)):=ix_conj_run (φ:=ck2_f) (ψ:=ck2_g) (fun _=>rfl) (fun _=>rfl) ck2_RF ck2_P c b k1 k2 k3
noncomputable def rk2_S (c:rk2_GC) (b:rk2_GB) (i:Int) (v:T):Ex×rk2_GB:=bif i != c.2&&rtleq_F v (c.1.getD c.2.toNat eT.dflt) then (.ret,(30:Int)) else (.normal,b)
def rk2_K (c:rk2_GC) (b:rk2_GB) (i:Int):Prop:=0≤c.2∧c.2<(c.1.length:Int)
abbrev rk2_I (g:rk2_G):List Prop:=ixI (fun c:rk2_GC=>(c.1.length:Int)) (fun c:rk2_GC=>c.1) rk2_K (rk2_f g)
abbrev rk2_M (g:rk2_G):Nat:=ixM (fun c:rk2_GC=>(c.1.length:Int)) (rk2_f g)
theorem rk2_P:ixP rk2_S (fun c:rk2_GC=>c.1) rk2_K:=fun _ _ _ _ h _ _=>h
noncomputable abbrev rk2_RR (g:rk2_G):Ex×rk2_G:=rk2_R g.1 g.2.1 g.2.2.1 g.2.2.2
theorem rk2_RF (d:Int×rk2_GC×rk2_GB) (_:allP (ixI (fun c:rk2_GC=>(c.1.length:Int)) (fun c:rk2_GC=>c.1) rk2_K d)):rk2_RR (rk2_g d)=((ixF 2 (fun c:rk2_GC=>(c.1.length:Int)) (fun c:rk2_GC=>c.1) eT.dflt rk2_S d).1,rk2_g (ixF 2 (fun c:rk2_GC=>(c.1.length:Int)) (fun c:rk2_GC=>c.1) eT.dflt rk2_S d).2):=by
 obtain ⟨j,⟨xs,k⟩,r⟩:=d
 show rk2_R xs k j r=_
 unfold rk2_R ixF rk2_S
 simp only[eT.lst_els]
 cases decide (j<(xs.length:Int)) with
 | false=>rfl
 | true=>
  simp only[cond_true]
  generalize (j != k&&rtleq_F (xs.getD j.toNat eT.dflt) (xs.getD k.toNat eT.dflt))=z
  cases z <;> rfl
theorem rk2_ok:∀ b∈loopsOf Try.prog 22,lkey b=12→LoopOk Try.prog b (rk2_C rk2_I rk2_M).g:=by
 refine rk2_loop rk2_I rk2_M (fun g hi=>?_) (ix_conj_goes (fun _=>rfl) (fun _=>rfl) rk2_RF rk2_P)
 obtain ⟨xs,k,j,r⟩:=g
 obtain ⟨h1,h2,h3,h4,h5⟩:=hi _ (List.mem_cons_self ..)
 have h1:(xs.length:Int)=(xs.length:Int):=h1
 have h3:0≤j:=h3
 have h5:0≤k∧k<(xs.length:Int):=h5
 show rk2_side xs k j r
 unfold rk2_side
 simp only[decide_eq_true_eq,decide_eq_false_iff_not]
 have k0:∀ e:Nat,e<xs.length→eT.Ok (eT.els xs e):=fun e _=>eT.ok_els xs e
 clear hi
 repeat' (first | exact k0 | apply And.intro | intro _)
 all_goals omega
theorem rk2_run (c:rk2_GC) (b:rk2_GB) (k1:(c.1.length:Int)=((c.1).length:Int)) (k2:(c.1).length≤maxLen) (k3:rk2_K c b 0):loopF rk2_RR rk2_M (rk2_g (0,c,b))=((scan 2 (rk2_S c) 0 (c.1) b).1,rk2_g ((scan 2 (rk2_S c) 0 (c.1) b).2.1,c,(scan 2 (rk2_S c) 0 (c.1) b).2.2)):=ix_conj_run (φ:=rk2_f) (ψ:=rk2_g) (fun _=>rfl) (fun _=>rfl) rk2_RF rk2_P c b k1 k2 k3
noncomputable def ro2_S (c:ro2_GC) (b:ro2_GB) (i:Int) (v:T):Ex×ro2_GB:=(.normal,!(!eqT v (c.1.getD c.2.1.toNat eT.dflt)&&rtleq_F v (c.1.getD c.2.1.toNat eT.dflt))&&b)
def ro2_K (c:ro2_GC) (b:ro2_GB) (i:Int):Prop:=0≤c.2.1∧c.2.1<(c.1.length:Int)
abbrev ro2_I (g:ro2_G):List Prop:=ixI (fun c:ro2_GC=>(c.1.length:Int)) (fun c:ro2_GC=>c.1) ro2_K (ro2_f g)
abbrev ro2_M (g:ro2_G):Nat:=ixM (fun c:ro2_GC=>(c.1.length:Int)) (ro2_f g)
theorem ro2_P:ixP ro2_S (fun c:ro2_GC=>c.1) ro2_K:=fun _ _ _ _ h _ _=>h
noncomputable abbrev ro2_RR (g:ro2_G):Ex×ro2_G:=ro2_R g.1 g.2.1 g.2.2.1 g.2.2.2.1 g.2.2.2.2
theorem ro2_RF (d:Int×ro2_GC×ro2_GB) (_:allP (ixI (fun c:ro2_GC=>(c.1.length:Int)) (fun c:ro2_GC=>c.1) ro2_K d)):ro2_RR (ro2_g d)=((ixF 2 (fun c:ro2_GC=>(c.1.length:Int)) (fun c:ro2_GC=>c.1) eT.dflt ro2_S d).1,ro2_g (ixF 2 (fun c:ro2_GC=>(c.1.length:Int)) (fun c:ro2_GC=>c.1) eT.dflt ro2_S d).2):=by
 obtain ⟨j,⟨xs,k,out⟩,z⟩:=d
 show ro2_R xs k z j out=_
 unfold ro2_R ixF ro2_S
 simp only[eT.lst_els,conj_T]
 cases decide (j<(xs.length:Int)) with
 | false=>rfl
 | true=>rfl
theorem ro2_ok:∀ b∈loopsOf Try.prog 31,lkey b=10→LoopOk Try.prog b (ro2_C ro2_I ro2_M).g:=by
 refine ro2_loop ro2_I ro2_M (fun g hi=>?_) (ix_conj_goes (fun _=>rfl) (fun _=>rfl) ro2_RF ro2_P)
 obtain ⟨xs,k,z,j,out⟩:=g
 obtain ⟨h1,h2,h3,h4,h5⟩:=hi _ (List.mem_cons_self ..)
 have h1:(xs.length:Int)=(xs.length:Int):=h1
 have h3:0≤j:=h3
 have h5:0≤k∧k<(xs.length:Int):=h5
 show ro2_side xs k z j out
 unfold ro2_side
 simp only[decide_eq_true_eq,decide_eq_false_iff_not]
 have k0:∀ e:Nat,e<xs.length→eT.Ok (eT.els xs e):=fun e _=>eT.ok_els xs e
 have k1:∀ e:Nat,e<out.length→eT.Ok (eT.els out e):=fun e _=>eT.ok_els out e
 clear hi
 repeat' (first | exact k0 | exact k1 | apply And.intro | intro _)
 all_goals omega
theorem ro2_run (c:ro2_GC) (b:ro2_GB) (k1:(c.1.length:Int)=((c.1).length:Int)) (k2:(c.1).length≤maxLen) (k3:ro2_K c b 0):loopF ro2_RR ro2_M (ro2_g (0,c,b))=((scan 2 (ro2_S c) 0 (c.1) b).1,ro2_g ((scan 2 (ro2_S c) 0 (c.1) b).2.1,c,(scan 2 (ro2_S c) 0 (c.1) b).2.2)):=ix_conj_run (φ:=ro2_f) (ψ:=ro2_g) (fun _=>rfl) (fun _=>rfl) ro2_RF ro2_P c b k1 k2 k3
noncomputable def rl_S (c:rl_GC) (b:rl_GB) (i:Int) (v:T):Ex×rl_GB:=bif !c.1.any fun x=>tleq_F x v then (.ret,false) else (.normal,b)
def rl_K (c:rl_GC) (b:rl_GB) (i:Int):Prop:=True
abbrev rl_I (g:rl_G):List Prop:=ixI (fun c:rl_GC=>(c.2.length:Int)) (fun c:rl_GC=>c.2) rl_K (rl_f g)
abbrev rl_M (g:rl_G):Nat:=ixM (fun c:rl_GC=>(c.2.length:Int)) (rl_f g)
theorem rl_P:ixP rl_S (fun c:rl_GC=>c.2) rl_K:=fun _ _ _ _ h _ _=>h
noncomputable abbrev rl_RR (g:rl_G):Ex×rl_G:=rl_R g.1 g.2.1 g.2.2.1 g.2.2.2
theorem rl_RF (d:Int×rl_GC×rl_GB) (_:allP (ixI (fun c:rl_GC=>(c.2.length:Int)) (fun c:rl_GC=>c.2) rl_K d)):rl_RR (rl_g d)=((ixF 0 (fun c:rl_GC=>(c.2.length:Int)) (fun c:rl_GC=>c.2) eT.dflt rl_S d).1,rl_g (ixF 0 (fun c:rl_GC=>(c.2.length:Int)) (fun c:rl_GC=>c.2) eT.dflt rl_S d).2):=by
 obtain ⟨i,⟨ys,xs⟩,r⟩:=d
 show rl_R ys xs i r=_
 unfold rl_R ixF rl_S
 simp only[eT.lst_els]
 cases decide (i<(xs.length:Int)) with
 | false=>rfl
 | true=>
  simp only[cond_true]
  generalize (!ys.any fun x=>tleq_F x (xs.getD i.toNat eT.dflt))=z
  cases z <;> rfl
theorem rl_ok:∀ b∈loopsOf Try.prog 56,lkey b=2→LoopOk Try.prog b (rl_C rl_I rl_M).g:=by
 refine rl_loop rl_I rl_M (fun g hi=>?_) (ix_conj_goes (fun _=>rfl) (fun _=>rfl) rl_RF rl_P)
 obtain ⟨ys,xs,i,r⟩:=g
 obtain ⟨h1,h2,h3,h4,h5⟩:=hi _ (List.mem_cons_self ..)
 have h1:(xs.length:Int)=(xs.length:Int):=h1
 have h3:0≤i:=h3
 have h5:True:=h5
 show rl_side ys xs i r
 unfold rl_side
 simp only[decide_eq_true_eq,decide_eq_false_iff_not]
 have k0:∀ e:Nat,e<ys.length→eT.Ok (eT.els ys e):=fun e _=>eT.ok_els ys e
 have k1:∀ e:Nat,e<xs.length→eT.Ok (eT.els xs e):=fun e _=>eT.ok_els xs e
 clear hi
 repeat' (first | exact k0 | exact k1 | apply And.intro | intro _)
 all_goals omega
theorem rl_run (c:rl_GC) (b:rl_GB) (k1:(c.2.length:Int)=((c.2).length:Int)) (k2:(c.2).length≤maxLen) (k3:rl_K c b 0):loopF rl_RR rl_M (rl_g (0,c,b))=((scan 0 (rl_S c) 0 (c.2) b).1,rl_g ((scan 0 (rl_S c) 0 (c.2) b).2.1,c,(scan 0 (rl_S c) 0 (c.2) b).2.2)):=ix_conj_run (φ:=rl_f) (ψ:=rl_g) (fun _=>rfl) (fun _=>rfl) rl_RF rl_P c b k1 k2 k3
noncomputable def ltD:LTab Try.prog:=((((ltA.cons 21 10 (ck2_C ck2_I ck2_M) ck2_ok).cons 22 12 (rk2_C rk2_I rk2_M) rk2_ok).cons 31 10 (ro2_C ro2_I ro2_M) ro2_ok).cons 56 2 (rl_C rl_I rl_M) rl_ok)
noncomputable abbrev lamD:Lam:=ltD.lam
theorem lamD_ok:∀ f k L,lamD f k=some L→∀ b∈loopsOf Try.prog f,lkey b=k→LoopOk Try.prog b L.g:=ltD.ok
end Go.Proofs.Ytiipneclghnfhaa

namespace Go.Proofs.Ytiipneclghnfhaa
open Go.RowKit Go.Sx
set_option maxRecDepth 100000
set_option linter.unusedVariables false
noncomputable def ck1_q1 (l:List T) (xs:List T) (n:Int) (k:Int) (r:Int):Ex ×
 ck2_G:=
 loopF (fun g=>ck2_R g.fst g.snd.fst g.snd.snd.fst g.snd.snd.snd.fst g.snd.snd.snd.snd.fst g.snd.snd.snd.snd.snd.fst g.snd.snd.snd.snd.snd.snd.fst g.snd.snd.snd.snd.snd.snd.snd.fst g.snd.snd.snd.snd.snd.snd.snd.snd.fst g.snd.snd.snd.snd.snd.snd.snd.snd.snd) ck2_M (eT.lst l.length (eT.els l),eT.lst xs.length (eT.els xs),n,k,(),xs.getD k.toNat eT.dflt,eT.lst k.toNat (eT.els l),(↑k.toNat:Int),(0:Int),r)
abbrev ck1_G:Type:=List T×List T×Int×Int×Int
noncomputable def ck1_LP:LP 0 ck1_G:=.pair (.slot 0 0 dLT) (.pair (.slot 0 16 dLT) (.pair (.slot 0 17 dI) (.pair (.slot 0 18 dI) (.slot 0 2 dI))))
noncomputable def ck1_R (l:List T) (xs:List T) (n:Int) (k:Int) (r:Int):Ex×ck1_G:=
 bif decide (k<n) then bif exB Ex.ret (ck1_q1 l xs n k r).fst then (Ex.ret,eT.lst (ck1_q1 l xs n k r).snd.fst.length (eT.els (ck1_q1 l xs n k r).snd.fst),eT.lst (ck1_q1 l xs n k r).snd.snd.fst.length (eT.els (ck1_q1 l xs n k r).snd.snd.fst),(ck1_q1 l xs n k r).snd.snd.snd.fst,(ck1_q1 l xs n k r).snd.snd.snd.snd.fst,(ck1_q1 l xs n k r).snd.snd.snd.snd.snd.snd.snd.snd.snd.snd) else (Ex.normal,eT.lst (ck1_q1 l xs n k r).snd.fst.length (eT.els (ck1_q1 l xs n k r).snd.fst),eT.lst (ck1_q1 l xs n k r).snd.snd.fst.length (eT.els (ck1_q1 l xs n k r).snd.snd.fst),(ck1_q1 l xs n k r).snd.snd.snd.fst,IntKind.i64.wrap ((ck1_q1 l xs n k r).snd.snd.snd.snd.fst+(1:Int)),(ck1_q1 l xs n k r).snd.snd.snd.snd.snd.snd.snd.snd.snd.snd)
 else (Ex.exit (0:Nat),eT.lst l.length (eT.els l),eT.lst xs.length (eT.els xs),n,k,r)
def ck1_side (l:List T) (xs:List T) (n:Int) (k:Int) (r:Int):Prop:=
 (decide (k<n)=true→((0:Int)≤k∧k<(↑xs.length:Int))∧((0:Int)≤k∧k≤(↑l.length:Int))∧(∀ (e:Nat),e<l.length→eT.Ok (eT.els l e))∧(∀ (e:Nat),e<xs.length→eT.Ok (eT.els xs e))∧(∀ (e:Nat),e<k.toNat→eT.Ok (eT.els l e))∧Lp.ixJ (fun c=>c.snd.snd.snd.snd.snd.snd) (fun c=>c.snd.snd.snd.snd.snd.fst) ck2_K (ck2_f (eT.lst l.length (eT.els l),eT.lst xs.length (eT.els xs),n,k,(),xs.getD k.toNat eT.dflt,eT.lst k.toNat (eT.els l),(↑k.toNat:Int),(0:Int),r))∧(exB Ex.ret (ck1_q1 l xs n k r).fst=true→(∀ (e:Nat),e<(ck1_q1 l xs n k r).snd.fst.length→eT.Ok (eT.els (ck1_q1 l xs n k r).snd.fst e))∧∀ (e:Nat),e<(ck1_q1 l xs n k r).snd.snd.fst.length→eT.Ok (eT.els (ck1_q1 l xs n k r).snd.snd.fst e))∧(exB Ex.ret (ck1_q1 l xs n k r).fst=false→(∀ (e:Nat),e<(ck1_q1 l xs n k r).snd.fst.length→eT.Ok (eT.els (ck1_q1 l xs n k r).snd.fst e))∧∀ (e:Nat),e<(ck1_q1 l xs n k r).snd.snd.fst.length→eT.Ok (eT.els (ck1_q1 l xs n k r).snd.snd.fst e)))∧(decide (k<n)=false→(∀ (e:Nat),e<l.length→eT.Ok (eT.els l e))∧∀ (e:Nat),e<xs.length→eT.Ok (eT.els xs e))
theorem ck1_one:((loopsOf Try.prog 21).filter fun c=>Nat.beq (lkey c) 7).length=1:=by kernel_rfl
abbrev ck1_GC:Type:=List T×List T×Int
abbrev ck1_GB:Type:=Int
def ck1_f (g:ck1_G):Int×ck1_GC×ck1_GB:=(g.2.2.2.1,(g.1,g.2.1,g.2.2.1),g.2.2.2.2)
def ck1_g (d:Int×ck1_GC×ck1_GB):ck1_G:=(d.2.1.1,d.2.1.2.1,d.2.1.2.2,d.1,d.2.2)
theorem ck1_es (g:ck1_G):(ck1_R g.1 g.2.1 g.2.2.1 g.2.2.2.1 g.2.2.2.2).1=.normal∨(ck1_R g.1 g.2.1 g.2.2.1 g.2.2.2.1 g.2.2.2.2).1∈([.ret,.exit 0]:List Ex):=by
 unfold ck1_R
 repeat' (first | (left;rfl) | (right;simp only[cond_true,cond_false];simp;done) | (rw[Bool.cond_eq_ite];split))
noncomputable abbrev ck1_C (Inv:ck1_G→List Prop) (m:ck1_G→Nat):LCon:=loopR [.ret,.exit 0] (loopBody Try.prog 21 7) ck1_LP [] 47 Inv (fun g=>ck1_R g.1 g.2.1 g.2.2.1 g.2.2.2.1 g.2.2.2.2) m
theorem ck1_loop (Inv:ck1_G→List Prop) (m:ck1_G→Nat) (hs:∀ g,allP (Inv g)→ck1_side g.1 g.2.1 g.2.2.1 g.2.2.2.1 g.2.2.2.2) (hg:Goes (fun g:ck1_G=>ck1_R g.1 g.2.1 g.2.2.1 g.2.2.2.1 g.2.2.2.2) m fun g=>allP (Inv g)):∀ b∈loopsOf Try.prog 21,lkey b=7→LoopOk Try.prog b (ck1_C Inv m).g:=loop_run (Γ:=(PTab.gamz tabO [] [])) (Λ:=lamD) (PTab.okz tabO [] []) lamD_ok 100 21 7 47 ck1_LP [] Inv (fun g=>ck1_R g.1 g.2.1 g.2.2.1 g.2.2.2.1 g.2.2.2.2) (fun g=>ck1_side g.1 g.2.1 g.2.2.1 g.2.2.2.1 g.2.2.2.2) m default [.ret,.exit 0] ck1_one (fun rd T B HL HB ds g=>by kernel_rfl) (fun rd T B HL HB ds g=>by kernel_rfl) hs hg ck1_es
noncomputable def rk1_q1 (xs:List T) (k:Int) (r:Int):Ex ×
 rk2_G:=
 loopF (fun g=>rk2_R g.fst g.snd.fst g.snd.snd.fst g.snd.snd.snd) rk2_M (eT.lst xs.length (eT.els xs),k,(0:Int),r)
abbrev rk1_G:Type:=List T×Int×Int
noncomputable def rk1_LP:LP 0 rk1_G:=.pair (.slot 0 0 dLT) (.pair (.slot 0 4 dI) (.slot 0 2 dI))
noncomputable def rk1_R (xs:List T) (k:Int) (r:Int):Ex×rk1_G:=
 bif decide (k<(↑xs.length:Int)) then bif decide (k > (0:Int))&&decide (rtcmp_F (xs.getD (IntKind.i64.wrap (k - (1:Int))).toNat eT.dflt) (xs.getD k.toNat eT.dflt)≥(0:Int)) then (Ex.ret,eT.lst xs.length (eT.els xs),k,(30:Int)) else bif exB Ex.ret (rk1_q1 xs k r).fst then (Ex.ret,eT.lst (rk1_q1 xs k r).snd.fst.length (eT.els (rk1_q1 xs k r).snd.fst),(rk1_q1 xs k r).snd.snd.fst,(rk1_q1 xs k r).snd.snd.snd.snd) else (Ex.normal,eT.lst (rk1_q1 xs k r).snd.fst.length (eT.els (rk1_q1 xs k r).snd.fst),IntKind.i64.wrap ((rk1_q1 xs k r).snd.snd.fst+(1:Int)),(rk1_q1 xs k r).snd.snd.snd.snd)
 else (Ex.exit (0:Nat),eT.lst xs.length (eT.els xs),k,r)
def rk1_side (xs:List T) (k:Int) (r:Int):Prop:=
 (decide (k<(↑xs.length:Int))=true→(decide (k > (0:Int))=true→(0:Int)≤IntKind.i64.wrap (k - (1:Int))∧IntKind.i64.wrap (k - (1:Int))<(↑xs.length:Int))∧(decide (k > (0:Int))=true→(0:Int)≤k∧k<(↑xs.length:Int))∧((decide (k > (0:Int))&&decide (rtcmp_F (xs.getD (IntKind.i64.wrap (k - (1:Int))).toNat eT.dflt) (xs.getD k.toNat eT.dflt)≥(0:Int)))=true→∀ (e:Nat),e<xs.length→eT.Ok (eT.els xs e))∧((decide (k > (0:Int))&&decide (rtcmp_F (xs.getD (IntKind.i64.wrap (k - (1:Int))).toNat eT.dflt) (xs.getD k.toNat eT.dflt)≥(0:Int)))=false→(∀ (e:Nat),e<xs.length→eT.Ok (eT.els xs e))∧Lp.ixJ (fun c=>(↑c.fst.length:Int)) (fun c=>c.fst) rk2_K (rk2_f (eT.lst xs.length (eT.els xs),k,(0:Int),r))∧(exB Ex.ret (rk1_q1 xs k r).fst=true→∀ (e:Nat),e<(rk1_q1 xs k r).snd.fst.length→eT.Ok (eT.els (rk1_q1 xs k r).snd.fst e))∧(exB Ex.ret (rk1_q1 xs k r).fst=false→∀ (e:Nat),e<(rk1_q1 xs k r).snd.fst.length→eT.Ok (eT.els (rk1_q1 xs k r).snd.fst e))))∧(decide (k<(↑xs.length:Int))=false→∀ (e:Nat),e<xs.length→eT.Ok (eT.els xs e))
theorem rk1_one:((loopsOf Try.prog 22).filter fun c=>Nat.beq (lkey c) 7).length=1:=by kernel_rfl
abbrev rk1_GC:Type:=List T
abbrev rk1_GB:Type:=Int
def rk1_f (g:rk1_G):Int×rk1_GC×rk1_GB:=(g.2.1,g.1,g.2.2)
def rk1_g (d:Int×rk1_GC×rk1_GB):rk1_G:=(d.2.1,d.1,d.2.2)
theorem rk1_es (g:rk1_G):(rk1_R g.1 g.2.1 g.2.2).1=.normal∨(rk1_R g.1 g.2.1 g.2.2).1∈([.ret,.exit 0]:List Ex):=by
 unfold rk1_R
 repeat' (first | (left;rfl) | (right;simp only[cond_true,cond_false];simp;done) | (rw[Bool.cond_eq_ite];split))
noncomputable abbrev rk1_C (Inv:rk1_G→List Prop) (m:rk1_G→Nat):LCon:=loopR [.ret,.exit 0] (loopBody Try.prog 22 7) rk1_LP [] 55 Inv (fun g=>rk1_R g.1 g.2.1 g.2.2) m
theorem rk1_loop (Inv:rk1_G→List Prop) (m:rk1_G→Nat) (hs:∀ g,allP (Inv g)→rk1_side g.1 g.2.1 g.2.2) (hg:Goes (fun g:rk1_G=>rk1_R g.1 g.2.1 g.2.2) m fun g=>allP (Inv g)):∀ b∈loopsOf Try.prog 22,lkey b=7→LoopOk Try.prog b (rk1_C Inv m).g:=loop_run (Γ:=(PTab.gamz tabO [] [])) (Λ:=lamD) (PTab.okz tabO [] []) lamD_ok 100 22 7 55 rk1_LP [] Inv (fun g=>rk1_R g.1 g.2.1 g.2.2) (fun g=>rk1_side g.1 g.2.1 g.2.2) m default [.ret,.exit 0] rk1_one (fun rd T B HL HB ds g=>by kernel_rfl) (fun rd T B HL HB ds g=>by kernel_rfl) hs hg rk1_es
abbrev pt_G:Type:=List T×Unit×T×List T×Bool×Int
noncomputable def pt_LP:LP 1 pt_G:=.pair (.slot 1 0 dLT) (.pair (.fix 1 3 (.p 0 0)) (.pair (.obj 1 0 30 eT) (.pair (.row 1 5 30 eT) (.pair (.slot 1 6 dBool) (.slot 1 7 dI)))))
noncomputable def pt_R (xs:List T) (_u:Unit) (t:T) (out:List T) (z:Bool) (i:Int):Ex×pt_G:=
 bif decide (i<(↑xs.length:Int)) then bif !z&&decide (rtcmp_F t (xs.getD i.toNat eT.dflt)<(0:Int)) then (Ex.normal,eT.lst xs.length (eT.els xs),(),t,eT.lst (min (min (out.length+(1:Nat)+(1:Nat)) (out.length+(1:Nat))) out.length) (eT.els out)++List.map (fun x=>t) (List.range (min (out.length+(1:Nat)+(1:Nat)) (out.length+(1:Nat)) - out.length))++List.map (fun x=>xs.getD i.toNat eT.dflt) (List.range (out.length+(1:Nat)+(1:Nat) - (out.length+(1:Nat)))),true,IntKind.i64.wrap (i+(1:Int))) else (Ex.normal,eT.lst xs.length (eT.els xs),(),t,eT.lst (min (out.length+(1:Nat)) out.length) (eT.els out)++List.map (fun x=>xs.getD i.toNat eT.dflt) (List.range (out.length+(1:Nat) - out.length)),z,IntKind.i64.wrap (i+(1:Int)))
 else (Ex.exit (0:Nat),eT.lst xs.length (eT.els xs),(),t,eT.lst out.length (eT.els out),z,i)
def pt_side (xs:List T) (_u:Unit) (t:T) (out:List T) (z:Bool) (i:Int):Prop:=
 (decide (i<(↑xs.length:Int))=true→((!z)=true→(0:Int)≤i∧i<(↑xs.length:Int))∧((!z&&decide (rtcmp_F t (xs.getD i.toNat eT.dflt)<(0:Int)))=true→(out.length≤out.length∧True∧out.length+(1:Nat)≤maxLen∧(out.length+(1:Nat)) * Try.prog.types[(30:Nat)].bytes≤(140737488355328:Nat))∧((0:Int)≤i∧i<(↑xs.length:Int))∧(out.length+(1:Nat)≤out.length+(1:Nat)∧True∧out.length+(1:Nat)+(1:Nat)≤maxLen∧(out.length+(1:Nat)+(1:Nat)) * Try.prog.types[(30:Nat)].bytes≤(140737488355328:Nat))∧(∀ (e:Nat),e<xs.length→eT.Ok (eT.els xs e))∧out.length+(1:Nat)+(1:Nat)≤out.length+(1:Nat)+(1:Nat)∧(∀ (e:Nat),e<min (min (out.length+(1:Nat)+(1:Nat)) (out.length+(1:Nat))) out.length→True)∧(∀ (e:Nat),e<min (out.length+(1:Nat)+(1:Nat)) (out.length+(1:Nat)) - out.length→True)∧∀ (e:Nat),e<out.length+(1:Nat)+(1:Nat) - (out.length+(1:Nat))→True)∧((!z&&decide (rtcmp_F t (xs.getD i.toNat eT.dflt)<(0:Int)))=false→((0:Int)≤i∧i<(↑xs.length:Int))∧(out.length≤out.length∧True∧out.length+(1:Nat)≤maxLen∧(out.length+(1:Nat)) * Try.prog.types[(30:Nat)].bytes≤(140737488355328:Nat))∧(∀ (e:Nat),e<xs.length→eT.Ok (eT.els xs e))∧out.length+(1:Nat)≤out.length+(1:Nat)∧(∀ (e:Nat),e<min (out.length+(1:Nat)) out.length→True)∧∀ (e:Nat),e<out.length+(1:Nat) - out.length→True))∧(decide (i<(↑xs.length:Int))=false→(∀ (e:Nat),e<xs.length→eT.Ok (eT.els xs e))∧out.length≤out.length∧∀ (e:Nat),e<out.length→True)
theorem pt_one:((loopsOf Try.prog 89).filter fun c=>Nat.beq (lkey c) 4).length=1:=by kernel_rfl
abbrev pt_GC:Type:=List T×T
abbrev pt_GB:Type:=Unit×List T×Bool
def pt_f (g:pt_G):Int×pt_GC×pt_GB:=(g.2.2.2.2.2,(g.1,g.2.2.1),(g.2.1,g.2.2.2.1,g.2.2.2.2.1))
def pt_g (d:Int×pt_GC×pt_GB):pt_G:=(d.2.1.1,d.2.2.1,d.2.1.2,d.2.2.2.1,d.2.2.2.2,d.1)
theorem pt_es (g:pt_G):(pt_R g.1 g.2.1 g.2.2.1 g.2.2.2.1 g.2.2.2.2.1 g.2.2.2.2.2).1=.normal∨(pt_R g.1 g.2.1 g.2.2.1 g.2.2.2.1 g.2.2.2.2.1 g.2.2.2.2.2).1∈([.exit 0]:List Ex):=by
 unfold pt_R
 repeat' (first | (left;rfl) | (right;simp only[cond_true,cond_false];simp;done) | (rw[Bool.cond_eq_ite];split))
noncomputable abbrev pt_C (Inv:pt_G→List Prop) (m:pt_G→Nat):LCon:=loopR [.exit 0] (loopBody Try.prog 89 4) pt_LP [] 43 Inv (fun g=>pt_R g.1 g.2.1 g.2.2.1 g.2.2.2.1 g.2.2.2.2.1 g.2.2.2.2.2) m
theorem pt_loop (Inv:pt_G→List Prop) (m:pt_G→Nat) (hs:∀ g,allP (Inv g)→pt_side g.1 g.2.1 g.2.2.1 g.2.2.2.1 g.2.2.2.2.1 g.2.2.2.2.2) (hg:Goes (fun g:pt_G=>pt_R g.1 g.2.1 g.2.2.1 g.2.2.2.1 g.2.2.2.2.1 g.2.2.2.2.2) m fun g=>allP (Inv g)):∀ b∈loopsOf Try.prog 89,lkey b=4→LoopOk Try.prog b (pt_C Inv m).g:=loop_run (Γ:=(PTab.gamz tabO [] [])) (Λ:=lamD) (PTab.okz tabO [] []) lamD_ok 100 89 4 43 pt_LP [] Inv (fun g=>pt_R g.1 g.2.1 g.2.2.1 g.2.2.2.1 g.2.2.2.2.1 g.2.2.2.2.2) (fun g=>pt_side g.1 g.2.1 g.2.2.1 g.2.2.2.1 g.2.2.2.2.1 g.2.2.2.2.2) m default [.exit 0] pt_one (fun rd T B HL HB ds g=>by kernel_rfl) (fun rd T B HL HB ds g=>by kernel_rfl) hs hg pt_es
end Go.Proofs.Ytiipneclghnfhaa

namespace Go.Proofs.Ytiipneclghnfhaa
open Go.RowKit Go.Sx Go.Lp
theorem lst_tk {α:Type} (A:El α) (l:List α) (k:Nat) (h:k≤l.length):A.lst k (A.els l)=l.take k:=by
 have:=A.lst_els (l.take k)
 rw[List.length_take,Nat.min_eq_left h] at this
 rw[← this]
 unfold El.lst
 apply List.map_congr_left
 intro e he
 have he:=List.mem_range.1 he
 show A.get (A.els l e)=A.get (A.els (l.take k) e)
 unfold El.els
 simp only[List.getD_eq_getElem?_getD,List.getElem?_take,he,if_true]
theorem okk (l:List T) (k:Nat) (h:k≤l.length):∀ e:Nat,e<k→eT.Ok (eT.els l e):=fun e he=>okT l e (by omega)
theorem ck1_q (l xs:List T) (n k r:Int) (hk:0≤k∧k≤(l.length:Int)) (hm:l.length≤maxLen):∃ j,ck1_q1 l xs n k r=(bif (l.take k.toNat).any (clash · (xs.getD k.toNat eT.dflt)) then .ret else .exit 2,l,xs,n,k,(),xs.getD k.toNat eT.dflt,l.take k.toNat,(k.toNat:Int),j,bif (l.take k.toNat).any (clash · (xs.getD k.toNat eT.dflt)) then 30 else r):=by
 unfold ck1_q1
 simp only[eT.lst_els]
 rw[lst_tk eT l k.toNat (by omega)]
 generalize xs.getD k.toNat eT.dflt=v
 have hl:(l.take k.toNat).length=k.toNat:=by rw[List.length_take];omega
 rcases search (x:=2) (st:=ck2_S (l,xs,n,k,v,l.take k.toNat,(k.toNat:Int))) (p:=fun u=>clash u v) (r:=fun _ _ _=>((),(30:Int))) (fun _ _ _=>rfl) (l.take k.toNat) ((),r) with ⟨ha,j,hj,a,_,h3,h2⟩ | ⟨ha,h2⟩
 ·have h2:scan 2 (ck2_S (l,xs,n,k,v,l.take k.toNat,(k.toNat:Int))) 0 (l.take k.toNat) ((),r)=_:=h2
  refine ⟨j,(ck2_run (l,xs,n,k,v,l.take k.toNat,(k.toNat:Int)) ((),r) (by show (k.toNat:Int)=((l.take k.toNat).length:Int);rw[hl]) (by show (l.take k.toNat).length≤maxLen;omega) trivial).trans ?_⟩
  rw[h2,ha];rfl
 ·have h2:scan 2 (ck2_S (l,xs,n,k,v,l.take k.toNat,(k.toNat:Int))) 0 (l.take k.toNat) ((),r)=_:=h2
  refine ⟨((l.take k.toNat).length:Int),(ck2_run (l,xs,n,k,v,l.take k.toNat,(k.toNat:Int)) ((),r) (by show (k.toNat:Int)=((l.take k.toNat).length:Int);rw[hl]) (by show (l.take k.toNat).length≤maxLen;omega) trivial).trans ?_⟩
  rw[h2,ha];rfl
noncomputable def ck1_S (c:ck1_GC) (b:ck1_GB) (i:Int) (v:T):Ex×ck1_GB:=bif (c.1.take i.toNat).any (clash · v) then (.ret,(30:Int)) else (.normal,b)
def ck1_K (c:ck1_GC) (_:ck1_GB) (_:Int):Prop:=c.1=c.2.1
abbrev ck1_I (g:ck1_G):List Prop:=ixI (fun c:ck1_GC=>c.2.2) (fun c=>c.2.1) ck1_K (ck1_f g)
abbrev ck1_M (g:ck1_G):Nat:=ixM (fun c:ck1_GC=>c.2.2) (ck1_f g)
theorem ck1_P:ixP ck1_S (fun c:ck1_GC=>c.2.1) ck1_K:=fun _ _ _ _ h _ _=>h
noncomputable abbrev ck1_RR (g:ck1_G):Ex×ck1_G:=ck1_R g.1 g.2.1 g.2.2.1 g.2.2.2.1 g.2.2.2.2
theorem ck1_RF (d:Int×ck1_GC×ck1_GB) (hi:allP (ixI (fun c:ck1_GC=>c.2.2) (fun c=>c.2.1) ck1_K d)):ck1_RR (ck1_g d)=((ixF 0 (fun c:ck1_GC=>c.2.2) (fun c=>c.2.1) eT.dflt ck1_S d).1,ck1_g (ixF 0 (fun c:ck1_GC=>c.2.2) (fun c=>c.2.1) eT.dflt ck1_S d).2):=by
 obtain ⟨h1,h2,h3,h4,h5⟩:=hi _ (List.mem_cons_self ..)
 obtain ⟨k,⟨l,xs,n⟩,r⟩:=d
 have h5:l=xs:=h5
 have h3:0≤k:=h3
 have h4:k≤(xs.length:Int):=h4
 have h2:xs.length≤maxLen:=h2
 subst h5
 obtain ⟨j,hj⟩:=ck1_q l l n k r ⟨h3,h4⟩ h2
 show ck1_R l l n k r=_
 unfold ck1_R ixF ck1_S
 rw[hj]
 simp only[eT.lst_els]
 cases decide (k<n) with
 | false=>rfl
 | true=>
  simp only[cond_true]
  generalize (l.take k.toNat).any (clash · (l.getD k.toNat eT.dflt))=z
  cases z <;> rfl
theorem ck1_ok:∀ b∈loopsOf Try.prog 21,lkey b=7→LoopOk Try.prog b (ck1_C ck1_I ck1_M).g:=by
 refine ck1_loop ck1_I ck1_M (fun g hi=>?_) (ix_conj_goes (fun _=>rfl) (fun _=>rfl) ck1_RF ck1_P)
 obtain ⟨l,xs,n,k,r⟩:=g
 obtain ⟨h1,h2,h3,h4,h5⟩:=hi _ (List.mem_cons_self ..)
 have h1:n=(xs.length:Int):=h1
 have h2:xs.length≤maxLen:=h2
 have h3:0≤k:=h3
 have h4:k≤(xs.length:Int):=h4
 have h5:l=xs:=h5
 subst h5
 obtain ⟨j,hj⟩:=ck1_q l l n k r ⟨h3,h4⟩ h2
 show ck1_side l l n k r
 unfold ck1_side
 rw[hj]
 simp only[eT.lst_els,lst_tk eT l k.toNat (show k.toNat≤l.length by omega)]
 have ka:=okT l
 have hl:(l.take k.toNat).length=k.toNat:=by rw[List.length_take];omega
 refine ⟨fun hc=>?_,fun _=>⟨ka,ka⟩⟩
 have hc:k<n:=of_decide_eq_true hc
 exact ⟨⟨h3,by omega⟩,⟨h3,h4⟩,ka,ka,okk l _ (by omega),ixJ0 (by show (k.toNat:Int)=((l.take k.toNat).length:Int);rw[hl]) (by show (l.take k.toNat).length≤maxLen;omega) trivial,fun _=>⟨ka,ka⟩,fun _=>⟨ka,ka⟩⟩
noncomputable def clashes (l:List T):Bool:=(List.range l.length).any fun i=>(l.take i).any (clash · (l.getD i eT.dflt))
theorem ck1_run (l:List T) (hm:l.length≤maxLen) (r:Int):(loopF ck1_RR ck1_M (l,l,(l.length:Int),0,r)).1=(bif clashes l then .ret else .exit 0)∧(loopF ck1_RR ck1_M (l,l,(l.length:Int),0,r)).2.2.2.2.2=bif clashes l then 30 else r:=by
 have h1:loopF ck1_RR ck1_M (l,l,(l.length:Int),0,r)=_:=ix_conj_run (φ:=ck1_f) (ψ:=ck1_g) (fun _=>rfl) (fun _=>rfl) ck1_RF ck1_P (l,l,(l.length:Int)) r rfl hm rfl
 rw[h1]
 rcases searchI (x:=0) (st:=ck1_S (l,l,(l.length:Int))) (p:=fun i v=>(l.take i.toNat).any (clash · v)) (r:=fun _ _ _=>(30:Int)) (fun _ _ _=>rfl) l r with ⟨n,a,ha,hp,h2⟩ | ⟨ha,h2⟩
 ·have hc:clashes l=true:=by
   unfold clashes
   rw[List.any_eq_true]
   have hn:n<l.length:=by
    rcases Nat.lt_or_ge n l.length with h | h
    ·exact h
    ·rw[List.getElem?_eq_none h] at ha;cases ha
   refine ⟨n,List.mem_range.2 hn,?_⟩
   rw[List.getD_eq_getElem?_getD,ha]
   simpa using hp
  have h2:scan 0 (ck1_S (l,l,(l.length:Int))) 0 l r=_:=h2
  rw[hc]
  exact ⟨congrArg (·.1) h2,congrArg (·.2.2) h2⟩
 ·have hc:clashes l=false:=by
   unfold clashes
   rw[List.any_eq_false]
   intro n hn
   have hn:=List.mem_range.1 hn
   have:=ha n (l.getD n eT.dflt) (by rw[List.getD_eq_getElem?_getD,List.getElem?_eq_getElem hn];rfl)
   simpa using this
  have h2:scan 0 (ck1_S (l,l,(l.length:Int))) 0 l r=_:=h2
  rw[hc]
  exact ⟨congrArg (·.1) h2,congrArg (·.2.2) h2⟩
noncomputable def ltE:LTab Try.prog:=ltD.cons 21 7 (ck1_C ck1_I ck1_M) ck1_ok
noncomputable abbrev lamE:Lam:=ltE.lam
theorem lamE_ok:∀ f k L,lamE f k=some L→∀ b∈loopsOf Try.prog f,lkey b=k→LoopOk Try.prog b L.g:=ltE.ok
end Go.Proofs.Ytiipneclghnfhaa

namespace Go.Proofs.Ytiipneclghnfhaa
open Go.RowKit Go.Sx
set_option maxRecDepth 100000
set_option linter.unusedVariables false
noncomputable def chk_q1 (xs:List T):Ex ×
 ck1_G:=
 loopF (fun g=>ck1_R g.fst g.snd.fst g.snd.snd.fst g.snd.snd.snd.fst g.snd.snd.snd.snd) ck1_M (eT.lst xs.length (eT.els xs),eT.lst xs.length (eT.els xs),(↑xs.length:Int),(0:Int),(0:Int))
noncomputable def chk_F (xs:List T):Dv.T dI:=
 bif decide ((↑xs.length:Int) > (1024:Int)) then (3:Int)
 else bif badC (eT.lst xs.length (eT.els xs)) != (0:Int) then badC (eT.lst xs.length (eT.els xs)) else bif exB Ex.ret (chk_q1 xs).fst then (chk_q1 xs).snd.snd.snd.snd.snd else (0:Int)
def chk_side (xs:List T):Prop:=
 decide ((↑xs.length:Int) > (1024:Int))=false→(∀ (e:Nat),e<xs.length→eT.Ok (eT.els xs e))∧((badC (eT.lst xs.length (eT.els xs)) != (0:Int))=false→(∀ (e:Nat),e<xs.length→eT.Ok (eT.els xs e))∧(∀ (e:Nat),e<xs.length→eT.Ok (eT.els xs e))∧Lp.ixJ (fun c=>c.snd.snd) (fun c=>c.snd.fst) ck1_K (ck1_f (eT.lst xs.length (eT.els xs),eT.lst xs.length (eT.els xs),(↑xs.length:Int),(0:Int),(0:Int))))
theorem chk_okS (pre:DA.T aL→List Prop) (h:∀ g,DA.bd aL g→(∀ p∈pre g,p)→chk_side g):FnPure Try.prog 21 aL dI (fun g=>chk_F g) pre:=pure_of_sideS (Γ:=(PTab.gamz tabO [] [])) (Λ:=lamE) (PTab.okz tabO [] []) lamE_ok 100 default (fun g=>chk_side g) (fun g=>by kernel_rfl) (fun g=>by kernel_rfl) h
end Go.Proofs.Ytiipneclghnfhaa

namespace Go.Proofs.Ytiipneclghnfhaa
open Go.RowKit Go.Sx Go.Lp
noncomputable def chkC (xs:List T):Int:=bif decide ((xs.length:Int) > 1024) then 3 else bif badC xs != 0 then badC xs else bif clashes xs then 30 else 0
theorem chk_eq (xs:List T) (h:xs.length≤maxLen):chk_F xs=chkC xs∧chk_side xs:=by
 unfold chk_F chk_side chk_q1 chkC
 simp only[eT.lst_els]
 have hr:=ck1_run xs h 0
 refine ⟨?_,fun _=>⟨okT xs,fun _=>⟨okT xs,okT xs,ixJ0 rfl h rfl⟩⟩⟩
 have h1:(loopF (fun g:ck1_G=>ck1_R g.1 g.2.1 g.2.2.1 g.2.2.2.1 g.2.2.2.2) ck1_M (xs,xs,(xs.length:Int),0,0)).1=_:=hr.1
 have h2:(loopF (fun g:ck1_G=>ck1_R g.1 g.2.1 g.2.2.1 g.2.2.2.1 g.2.2.2.2) ck1_M (xs,xs,(xs.length:Int),0,0)).2.2.2.2.2=_:=hr.2
 rw[h1,h2]
 cases clashes xs <;> rfl
theorem chk_ok:FnPure Try.prog 21 aL dI chkC (fun _=>[]):=
 pure_congr (chk_okS (fun _=>[]) fun g hb _=>(chk_eq g hb.1).2) fun g hb _=>(chk_eq g hb.1).1
noncomputable def tabP:PTab Try.prog:=tabO.cons 21 (pconP aL dI chkC (fun _=>[])) (conP_ok chk_ok puI)
end Go.Proofs.Ytiipneclghnfhaa

namespace Go.Proofs.Ytiipneclghnfhaa
open Go.RowKit Go.Sx Go.Lp Go.Shelf
def sortT_ren:Go.Shelf.Ren:=⟨fun | 6=>70 | 15=>115 | 14=>114 | 28=>143 | 29=>144 | 20=>135 | 21=>136 | 22=>137 | 23=>138 | 24=>139 | 25=>140 | 26=>141 | 27=>142 | 46=>157 | 47=>158 | 48=>159 | 49=>160 | 50=>161 | 57=>165 | n=>n,fun | 22=>22 | 24=>30 | 25=>83 | 3=>3 | 39=>117 | 0=>0 | 53=>147 | 55=>149 | 4=>4 | 46=>140 | 45=>139 | 50=>144 | 5=>5 | 9=>9 | 66=>160 | 70=>164 | 76=>168 | 77=>169 | n=>n,fun | n=>n⟩
theorem sortT:SlLaysF0.n6 Try.prog sortT_ren:={
 mixed:=by kernel_rfl,
 f6:=⟨Try.f70.name,by decide,Try.func70.trans (congrArg some (by kernel_rfl))⟩,
 f14:=⟨Try.f114.name,by decide,Try.func114.trans (congrArg some (by kernel_rfl))⟩,
 f15:=Try.func115.trans (congrArg some (by kernel_rfl)),
 f20:=⟨Try.f135.name,by decide,Try.func135.trans (congrArg some (by kernel_rfl))⟩,
 f21:=⟨Try.f136.name,by decide,Try.func136.trans (congrArg some (by kernel_rfl))⟩,
 f22:=⟨Try.f137.name,by decide,Try.func137.trans (congrArg some (by kernel_rfl))⟩,
 f23:=⟨Try.f138.name,by decide,Try.func138.trans (congrArg some (by kernel_rfl))⟩,
 f24:=⟨Try.f139.name,by decide,Try.func139.trans (congrArg some (by kernel_rfl))⟩,
 f25:=⟨Try.f140.name,by decide,Try.func140.trans (congrArg some (by kernel_rfl))⟩,
 f26:=⟨Try.f141.name,by decide,Try.func141.trans (congrArg some (by kernel_rfl))⟩,
 f27:=⟨Try.f142.name,by decide,Try.func142.trans (congrArg some (by kernel_rfl))⟩,
 f28:=Try.func143.trans (congrArg some (by kernel_rfl)),
 f29:=Try.func144.trans (congrArg some (by kernel_rfl)),
 f46:=⟨Try.f157.name,by decide,Try.func157.trans (congrArg some (by kernel_rfl))⟩,
 f47:=Try.func158.trans (congrArg some (by kernel_rfl)),
 f48:=Try.func159.trans (congrArg some (by kernel_rfl)),
 f49:=⟨Try.f160.name,by decide,Try.func160.trans (congrArg some (by kernel_rfl))⟩,
 f50:=⟨Try.f161.name,by decide,Try.func161.trans (congrArg some (by kernel_rfl))⟩,
 f57:=⟨Try.f165.name,by decide,Try.func165.trans (congrArg some (by kernel_rfl))⟩,
 t0:=Try.underlying0,
 a0:=Try.isAgg0,
 z0:=Try.sizeOf0,
 v0:=Try.zeroValue0,
 t3:=Try.underlying3,
 a3:=Try.isAgg3,
 z3:=Try.sizeOf3,
 v3:=Try.zeroValue3,
 t4:=Try.underlying4,
 a4:=Try.isAgg4,
 z4:=Try.sizeOf4,
 v4:=Try.zeroValue4,
 t5:=Try.underlying5,
 a5:=Try.isAgg5,
 z5:=Try.sizeOf5,
 v5:=Try.zeroValue5,
 t9:=Try.underlying9,
 a9:=Try.isAgg9,
 z9:=Try.sizeOf9,
 v9:=Try.zeroValue9,
 t22:=Try.underlying22,
 a22:=Try.isAgg22,
 z22:=Try.sizeOf22,
 v22:=Try.zeroValue22,
 t25:=Try.underlying83,
 a25:=Try.isAgg83,
 z25:=Try.sizeOf83,
 v25:=Try.zeroValue83,
 t39:=Try.underlying117,
 a39:=Try.isAgg117,
 z39:=Try.sizeOf117,
 v39:=Try.zeroValue117,
 t45:=Try.underlying139,
 a45:=Try.isAgg139,
 z45:=Try.sizeOf139,
 v45:=Try.zeroValue139,
 t46:=Try.underlying140,
 a46:=Try.isAgg140,
 z46:=Try.sizeOf140,
 v46:=Try.zeroValue140,
 t50:=Try.underlying144,
 a50:=Try.isAgg144,
 z50:=Try.sizeOf144,
 v50:=Try.zeroValue144,
 t53:=Try.underlying147,
 a53:=Try.isAgg147,
 z53:=Try.sizeOf147,
 v53:=Try.zeroValue147,
 t55:=Try.underlying149,
 a55:=Try.isAgg149,
 z55:=Try.sizeOf149,
 v55:=Try.zeroValue149,
 t66:=Try.underlying160,
 a66:=Try.isAgg160,
 z66:=Try.sizeOf160,
 v66:=Try.zeroValue160,
 t70:=Try.underlying164,
 a70:=Try.isAgg164,
 z70:=Try.sizeOf164,
 v70:=Try.zeroValue164,
 t76:=Try.underlying168,
 a76:=Try.isAgg168,
 z76:=Try.sizeOf168,
 v76:=Try.zeroValue168,
 t77:=Try.underlying169,
 a77:=Try.isAgg169,
 z77:=Try.sizeOf169,
 v77:=Try.zeroValue169 }
abbrev dUn0:Dv Unit:=.tup .none
abbrev aFn71:DA Unit:=.one (dFn 71)
def preSort (xs:List T) (_:Unit):List Prop:=[xs.length<4611686018427387904]
theorem sortF_ok:FnMut Try.prog 70 30 eT aFn71 (.pure dUn0) (fun xs _=>(srtBy (fun a b=>tcmp_F a b) xs,())) preSort:=by
 have h:=sort_mut (P:=Try.prog) (A:=eT) (t:=30) (g:=71) (cf:=fun a b=>tcmp_F a b) (pre:=fun _=>[]) sortT Try.isAgg30 Try.sizeOf30 (by decide) (Go.Proofs.enters_of Try.func71 (by kernel_rfl) rfl) toT.swo tcmp_ok
 intro w F L xs g v0 vs h1 h2 h3 h4 h5 h6
 refine h w F L xs g v0 vs h1 h2 h3 (fun p hp=>?_) h5 h6
 simp only[List.mem_cons,List.not_mem_nil,or_false] at hp
 rcases hp with rfl | rfl | rfl
 ·exact h4 _ (List.mem_cons_self ..)
 ·exact fun x _ y _ k1 k2=>toT.anti x y k1 k2
 ·exact fun x _ y _ p hp=>by cases hp
end Go.Proofs.Ytiipneclghnfhaa

namespace Go.Proofs.Ytiipneclghnfhaa
open Go.RowKit Go.Sx
set_option maxRecDepth 100000
set_option linter.unusedVariables false
abbrev N2:Type:=Nat×Nat
abbrev cp2_G:Type:=Nat×List T×Int×N2×Int
noncomputable def cp2_LP:LP 1 cp2_G:=.pair (.owl 1 0 0) (.pair (.rowO 1 0 30 eT) (.pair (.slot 1 3 dI) (.pair (.seS 1 4 0 eT.sz) (.slot 1 5 dI))))
noncomputable def cp2_R (l:Nat) (xs:List T) (k:Int) (q:N2) (j:Int):Ex×cp2_G:=
 bif decide (j<(↑q.snd:Int)) then (Ex.normal,l,bif !conj ([(xs.getD (q.fst+j.toNat) eT.dflt).e==(xs.getD (q.fst+(IntKind.i64.wrap (j - (1:Int))).toNat) eT.dflt).e]++([(xs.getD (q.fst+j.toNat) eT.dflt).d==(xs.getD (q.fst+(IntKind.i64.wrap (j - (1:Int))).toNat) eT.dflt).d]++([(xs.getD (q.fst+j.toNat) eT.dflt).l0==(xs.getD (q.fst+(IntKind.i64.wrap (j - (1:Int))).toNat) eT.dflt).l0]++([(xs.getD (q.fst+j.toNat) eT.dflt).l1==(xs.getD (q.fst+(IntKind.i64.wrap (j - (1:Int))).toNat) eT.dflt).l1]++([(xs.getD (q.fst+j.toNat) eT.dflt).l2==(xs.getD (q.fst+(IntKind.i64.wrap (j - (1:Int))).toNat) eT.dflt).l2]++([(xs.getD (q.fst+j.toNat) eT.dflt).l3==(xs.getD (q.fst+(IntKind.i64.wrap (j - (1:Int))).toNat) eT.dflt).l3]++[])))++[]))) then (eT.lst (bif !conj ([(xs.getD (q.fst+j.toNat) eT.dflt).e==(xs.getD (q.fst+(IntKind.i64.wrap (j - (1:Int))).toNat) eT.dflt).e]++([(xs.getD (q.fst+j.toNat) eT.dflt).d==(xs.getD (q.fst+(IntKind.i64.wrap (j - (1:Int))).toNat) eT.dflt).d]++([(xs.getD (q.fst+j.toNat) eT.dflt).l0==(xs.getD (q.fst+(IntKind.i64.wrap (j - (1:Int))).toNat) eT.dflt).l0]++([(xs.getD (q.fst+j.toNat) eT.dflt).l1==(xs.getD (q.fst+(IntKind.i64.wrap (j - (1:Int))).toNat) eT.dflt).l1]++([(xs.getD (q.fst+j.toNat) eT.dflt).l2==(xs.getD (q.fst+(IntKind.i64.wrap (j - (1:Int))).toNat) eT.dflt).l2]++([(xs.getD (q.fst+j.toNat) eT.dflt).l3==(xs.getD (q.fst+(IntKind.i64.wrap (j - (1:Int))).toNat) eT.dflt).l3]++[])))++[]))) then xs.length else xs.length) (eT.els xs)).set k.toNat (xs.getD (q.fst+j.toNat) eT.dflt) else eT.lst (bif !conj ([(xs.getD (q.fst+j.toNat) eT.dflt).e==(xs.getD (q.fst+(IntKind.i64.wrap (j - (1:Int))).toNat) eT.dflt).e]++([(xs.getD (q.fst+j.toNat) eT.dflt).d==(xs.getD (q.fst+(IntKind.i64.wrap (j - (1:Int))).toNat) eT.dflt).d]++([(xs.getD (q.fst+j.toNat) eT.dflt).l0==(xs.getD (q.fst+(IntKind.i64.wrap (j - (1:Int))).toNat) eT.dflt).l0]++([(xs.getD (q.fst+j.toNat) eT.dflt).l1==(xs.getD (q.fst+(IntKind.i64.wrap (j - (1:Int))).toNat) eT.dflt).l1]++([(xs.getD (q.fst+j.toNat) eT.dflt).l2==(xs.getD (q.fst+(IntKind.i64.wrap (j - (1:Int))).toNat) eT.dflt).l2]++([(xs.getD (q.fst+j.toNat) eT.dflt).l3==(xs.getD (q.fst+(IntKind.i64.wrap (j - (1:Int))).toNat) eT.dflt).l3]++[])))++[]))) then xs.length else xs.length) (eT.els xs),bif !conj ([(xs.getD (q.fst+j.toNat) eT.dflt).e==(xs.getD (q.fst+(IntKind.i64.wrap (j - (1:Int))).toNat) eT.dflt).e]++([(xs.getD (q.fst+j.toNat) eT.dflt).d==(xs.getD (q.fst+(IntKind.i64.wrap (j - (1:Int))).toNat) eT.dflt).d]++([(xs.getD (q.fst+j.toNat) eT.dflt).l0==(xs.getD (q.fst+(IntKind.i64.wrap (j - (1:Int))).toNat) eT.dflt).l0]++([(xs.getD (q.fst+j.toNat) eT.dflt).l1==(xs.getD (q.fst+(IntKind.i64.wrap (j - (1:Int))).toNat) eT.dflt).l1]++([(xs.getD (q.fst+j.toNat) eT.dflt).l2==(xs.getD (q.fst+(IntKind.i64.wrap (j - (1:Int))).toNat) eT.dflt).l2]++([(xs.getD (q.fst+j.toNat) eT.dflt).l3==(xs.getD (q.fst+(IntKind.i64.wrap (j - (1:Int))).toNat) eT.dflt).l3]++[])))++[]))) then IntKind.i64.wrap (k+(1:Int)) else k,q,IntKind.i64.wrap (j+(1:Int)))
 else (Ex.exit (2:Nat),l,eT.lst xs.length (eT.els xs),k,q,j)
def cp2_side (l:Nat) (xs:List T) (k:Int) (q:N2) (j:Int):Prop:=
 (decide (j<(↑q.snd:Int))=true→((0:Int)≤j∧j<(↑q.snd:Int))∧q.fst+j.toNat<xs.length∧((0:Int)≤IntKind.i64.wrap (j - (1:Int))∧IntKind.i64.wrap (j - (1:Int))<(↑q.snd:Int))∧q.fst+(IntKind.i64.wrap (j - (1:Int))).toNat<xs.length∧((!conj ([(xs.getD (q.fst+j.toNat) eT.dflt).e==(xs.getD (q.fst+(IntKind.i64.wrap (j - (1:Int))).toNat) eT.dflt).e]++([(xs.getD (q.fst+j.toNat) eT.dflt).d==(xs.getD (q.fst+(IntKind.i64.wrap (j - (1:Int))).toNat) eT.dflt).d]++([(xs.getD (q.fst+j.toNat) eT.dflt).l0==(xs.getD (q.fst+(IntKind.i64.wrap (j - (1:Int))).toNat) eT.dflt).l0]++([(xs.getD (q.fst+j.toNat) eT.dflt).l1==(xs.getD (q.fst+(IntKind.i64.wrap (j - (1:Int))).toNat) eT.dflt).l1]++([(xs.getD (q.fst+j.toNat) eT.dflt).l2==(xs.getD (q.fst+(IntKind.i64.wrap (j - (1:Int))).toNat) eT.dflt).l2]++([(xs.getD (q.fst+j.toNat) eT.dflt).l3==(xs.getD (q.fst+(IntKind.i64.wrap (j - (1:Int))).toNat) eT.dflt).l3]++[])))++[]))))=true→(0:Int)≤j∧j<(↑q.snd:Int))∧((!conj ([(xs.getD (q.fst+j.toNat) eT.dflt).e==(xs.getD (q.fst+(IntKind.i64.wrap (j - (1:Int))).toNat) eT.dflt).e]++([(xs.getD (q.fst+j.toNat) eT.dflt).d==(xs.getD (q.fst+(IntKind.i64.wrap (j - (1:Int))).toNat) eT.dflt).d]++([(xs.getD (q.fst+j.toNat) eT.dflt).l0==(xs.getD (q.fst+(IntKind.i64.wrap (j - (1:Int))).toNat) eT.dflt).l0]++([(xs.getD (q.fst+j.toNat) eT.dflt).l1==(xs.getD (q.fst+(IntKind.i64.wrap (j - (1:Int))).toNat) eT.dflt).l1]++([(xs.getD (q.fst+j.toNat) eT.dflt).l2==(xs.getD (q.fst+(IntKind.i64.wrap (j - (1:Int))).toNat) eT.dflt).l2]++([(xs.getD (q.fst+j.toNat) eT.dflt).l3==(xs.getD (q.fst+(IntKind.i64.wrap (j - (1:Int))).toNat) eT.dflt).l3]++[])))++[]))))=true→q.fst+j.toNat<xs.length)∧((!conj ([(xs.getD (q.fst+j.toNat) eT.dflt).e==(xs.getD (q.fst+(IntKind.i64.wrap (j - (1:Int))).toNat) eT.dflt).e]++([(xs.getD (q.fst+j.toNat) eT.dflt).d==(xs.getD (q.fst+(IntKind.i64.wrap (j - (1:Int))).toNat) eT.dflt).d]++([(xs.getD (q.fst+j.toNat) eT.dflt).l0==(xs.getD (q.fst+(IntKind.i64.wrap (j - (1:Int))).toNat) eT.dflt).l0]++([(xs.getD (q.fst+j.toNat) eT.dflt).l1==(xs.getD (q.fst+(IntKind.i64.wrap (j - (1:Int))).toNat) eT.dflt).l1]++([(xs.getD (q.fst+j.toNat) eT.dflt).l2==(xs.getD (q.fst+(IntKind.i64.wrap (j - (1:Int))).toNat) eT.dflt).l2]++([(xs.getD (q.fst+j.toNat) eT.dflt).l3==(xs.getD (q.fst+(IntKind.i64.wrap (j - (1:Int))).toNat) eT.dflt).l3]++[])))++[]))))=true→(0:Int)≤k∧k<(↑l:Int))∧((!conj ([(xs.getD (q.fst+j.toNat) eT.dflt).e==(xs.getD (q.fst+(IntKind.i64.wrap (j - (1:Int))).toNat) eT.dflt).e]++([(xs.getD (q.fst+j.toNat) eT.dflt).d==(xs.getD (q.fst+(IntKind.i64.wrap (j - (1:Int))).toNat) eT.dflt).d]++([(xs.getD (q.fst+j.toNat) eT.dflt).l0==(xs.getD (q.fst+(IntKind.i64.wrap (j - (1:Int))).toNat) eT.dflt).l0]++([(xs.getD (q.fst+j.toNat) eT.dflt).l1==(xs.getD (q.fst+(IntKind.i64.wrap (j - (1:Int))).toNat) eT.dflt).l1]++([(xs.getD (q.fst+j.toNat) eT.dflt).l2==(xs.getD (q.fst+(IntKind.i64.wrap (j - (1:Int))).toNat) eT.dflt).l2]++([(xs.getD (q.fst+j.toNat) eT.dflt).l3==(xs.getD (q.fst+(IntKind.i64.wrap (j - (1:Int))).toNat) eT.dflt).l3]++[])))++[]))))=true→k.toNat<xs.length)∧True∧(∀ (e:Nat),(e<bif !conj ([(xs.getD (q.fst+j.toNat) eT.dflt).e==(xs.getD (q.fst+(IntKind.i64.wrap (j - (1:Int))).toNat) eT.dflt).e]++([(xs.getD (q.fst+j.toNat) eT.dflt).d==(xs.getD (q.fst+(IntKind.i64.wrap (j - (1:Int))).toNat) eT.dflt).d]++([(xs.getD (q.fst+j.toNat) eT.dflt).l0==(xs.getD (q.fst+(IntKind.i64.wrap (j - (1:Int))).toNat) eT.dflt).l0]++([(xs.getD (q.fst+j.toNat) eT.dflt).l1==(xs.getD (q.fst+(IntKind.i64.wrap (j - (1:Int))).toNat) eT.dflt).l1]++([(xs.getD (q.fst+j.toNat) eT.dflt).l2==(xs.getD (q.fst+(IntKind.i64.wrap (j - (1:Int))).toNat) eT.dflt).l2]++([(xs.getD (q.fst+j.toNat) eT.dflt).l3==(xs.getD (q.fst+(IntKind.i64.wrap (j - (1:Int))).toNat) eT.dflt).l3]++[])))++[]))) then xs.length else xs.length)→True)∧∀ (e:Nat),(e<bif !conj ([(xs.getD (q.fst+j.toNat) eT.dflt).e==(xs.getD (q.fst+(IntKind.i64.wrap (j - (1:Int))).toNat) eT.dflt).e]++([(xs.getD (q.fst+j.toNat) eT.dflt).d==(xs.getD (q.fst+(IntKind.i64.wrap (j - (1:Int))).toNat) eT.dflt).d]++([(xs.getD (q.fst+j.toNat) eT.dflt).l0==(xs.getD (q.fst+(IntKind.i64.wrap (j - (1:Int))).toNat) eT.dflt).l0]++([(xs.getD (q.fst+j.toNat) eT.dflt).l1==(xs.getD (q.fst+(IntKind.i64.wrap (j - (1:Int))).toNat) eT.dflt).l1]++([(xs.getD (q.fst+j.toNat) eT.dflt).l2==(xs.getD (q.fst+(IntKind.i64.wrap (j - (1:Int))).toNat) eT.dflt).l2]++([(xs.getD (q.fst+j.toNat) eT.dflt).l3==(xs.getD (q.fst+(IntKind.i64.wrap (j - (1:Int))).toNat) eT.dflt).l3]++[])))++[]))) then xs.length else xs.length)→True)∧(decide (j<(↑q.snd:Int))=false→∀ (e:Nat),e<xs.length→True)
theorem cp2_one:((loopsOf Try.prog 72).filter fun c=>Nat.beq (lkey c) 9).length=1:=by kernel_rfl
theorem cp2_es (g:cp2_G):(cp2_R g.1 g.2.1 g.2.2.1 g.2.2.2.1 g.2.2.2.2).1=.normal∨(cp2_R g.1 g.2.1 g.2.2.1 g.2.2.2.1 g.2.2.2.2).1∈([.exit 2]:List Ex):=by
 unfold cp2_R
 repeat' (first | (left;rfl) | (right;simp only[cond_true,cond_false];simp;done) | (rw[Bool.cond_eq_ite];split))
noncomputable abbrev cp2_C (Inv:cp2_G→List Prop) (m:cp2_G→Nat):LCon:=loopR [.exit 2] (loopBody Try.prog 72 9) cp2_LP [] 61 Inv (fun g=>cp2_R g.1 g.2.1 g.2.2.1 g.2.2.2.1 g.2.2.2.2) m
theorem cp2_loop (Inv:cp2_G→List Prop) (m:cp2_G→Nat) (hs:∀ g,allP (Inv g)→cp2_side g.1 g.2.1 g.2.2.1 g.2.2.2.1 g.2.2.2.2) (hg:Goes (fun g:cp2_G=>cp2_R g.1 g.2.1 g.2.2.1 g.2.2.2.1 g.2.2.2.2) m fun g=>allP (Inv g)):∀ b∈loopsOf Try.prog 72,lkey b=9→LoopOk Try.prog b (cp2_C Inv m).g:=loop_run (Γ:=(MTab.gamz (MTab.of tabP) [] [])) (Λ:=noΛ) (MTab.okz (MTab.of tabP) [] []) noΛ_ok 100 72 9 61 cp2_LP [] Inv (fun g=>cp2_R g.1 g.2.1 g.2.2.1 g.2.2.2.1 g.2.2.2.2) (fun g=>cp2_side g.1 g.2.1 g.2.2.1 g.2.2.2.1 g.2.2.2.2) m default [.exit 2] cp2_one (fun rd T B HL HB ds g=>by kernel_rfl) (fun rd T B HL HB ds g=>by kernel_rfl) hs hg cp2_es
end Go.Proofs.Ytiipneclghnfhaa

namespace Go.Proofs.Ytiipneclghnfhaa
open Go.RowKit Go.Sx Go.Lp
theorem cp2_RF (g:cp2_G):cp2_R g.1 g.2.1 g.2.2.1 g.2.2.2.1 g.2.2.2.2=cpF eT.dflt g:=by
 obtain ⟨l,xs,k,q,j⟩:=g
 show cp2_R l xs k q j=cpF eT.dflt (l,xs,k,q,j)
 unfold cp2_R cpF
 simp only[conj_T,eqT,Bool.cond_self,eT.lst_els]
theorem cp2_ok:∀ b∈loopsOf Try.prog 72,lkey b=9→LoopOk Try.prog b (cp2_C cpI cpM).g:=by
 refine cp2_loop cpI cpM (fun g hi=>?_) ?_
 ·obtain ⟨l,xs,k,⟨o,n⟩,j⟩:=g
  obtain ⟨h1,h2,h3,h4,h5,h6,h7⟩:=hi _ (List.mem_cons_self ..)
  simp only at h1 h2 h3 h4 h5 h6 h7
  unfold maxLen at h2
  show cp2_side l xs k (o,n) j
  unfold cp2_side
  simp only[conj_T]
  generalize (!eqT _ _)=c
  refine ⟨fun hc=>?_,fun _ _ _=>trivial⟩
  have hc:j<(n:Int):=of_decide_eq_true hc
  have w1:IntKind.i64.wrap (j - 1)=j - 1:=Lp.wr (by omega)
  rw[w1]
  refine ⟨by omega,by omega,by omega,by omega,fun _=>by omega,fun _=>by omega,fun _=>by omega,fun _=>by omega,trivial,fun _ _=>trivial,fun _ _=>trivial⟩
 ·have e:(fun g:cp2_G=>cp2_R g.1 g.2.1 g.2.2.1 g.2.2.2.1 g.2.2.2.2)=cpF eT.dflt:=funext cp2_RF
  rw[e]
  exact cp_goes _
noncomputable def ltF:LTab Try.prog:=LTab.nil.cons 72 9 (cp2_C cpI cpM) cp2_ok
noncomputable abbrev lamF:Lam:=ltF.lam
theorem lamF_ok:∀ f k L,lamF f k=some L→∀ b∈loopsOf Try.prog f,lkey b=k→LoopOk Try.prog b L.g:=ltF.ok
end Go.Proofs.Ytiipneclghnfhaa

namespace Go.Proofs.Ytiipneclghnfhaa
open Go.RowKit Go.Sx
set_option maxRecDepth 100000
set_option linter.unusedVariables false
abbrev BN:Type:=Bool×Nat
noncomputable def cp1_q1 (l:Nat) (xs:List T) (k:Int) (r:BN):Ex ×
 cp2_G:=
 loopF (fun g=>cp2_R g.fst g.snd.fst g.snd.snd.fst g.snd.snd.snd.fst g.snd.snd.snd.snd) Lp.cpM (l,eT.lst xs.length (eT.els xs),k,(k.toNat,l - k.toNat),(1:Int))
abbrev cp1_G:Type:=Nat×List T×Int×BN
noncomputable def cp1_LP:LP 1 cp1_G:=.pair (.owl 1 0 0) (.pair (.rowO 1 0 30 eT) (.pair (.slot 1 3 dI) (.owB 1 2 0)))
noncomputable def cp1_R (l:Nat) (xs:List T) (k:Int) (r:BN):Ex×cp1_G:=
 bif decide (k<(↑l:Int)) then bif conj ([(xs.getD k.toNat eT.dflt).e==(xs.getD (IntKind.i64.wrap (k - (1:Int))).toNat eT.dflt).e]++([(xs.getD k.toNat eT.dflt).d==(xs.getD (IntKind.i64.wrap (k - (1:Int))).toNat eT.dflt).d]++([(xs.getD k.toNat eT.dflt).l0==(xs.getD (IntKind.i64.wrap (k - (1:Int))).toNat eT.dflt).l0]++([(xs.getD k.toNat eT.dflt).l1==(xs.getD (IntKind.i64.wrap (k - (1:Int))).toNat eT.dflt).l1]++([(xs.getD k.toNat eT.dflt).l2==(xs.getD (IntKind.i64.wrap (k - (1:Int))).toNat eT.dflt).l2]++([(xs.getD k.toNat eT.dflt).l3==(xs.getD (IntKind.i64.wrap (k - (1:Int))).toNat eT.dflt).l3]++[])))++[]))) then (Ex.ret,(cp1_q1 l xs k r).snd.fst,eT.lst (cp1_q1 l xs k r).snd.snd.snd.fst.toNat (eT.els (cp1_q1 l xs k r).snd.snd.fst),(cp1_q1 l xs k r).snd.snd.snd.fst,true,(cp1_q1 l xs k r).snd.snd.snd.fst.toNat) else (Ex.normal,l,eT.lst xs.length (eT.els xs),IntKind.i64.wrap (k+(1:Int)),r)
 else (Ex.exit (0:Nat),l,eT.lst xs.length (eT.els xs),k,r)
def cp1_side (l:Nat) (xs:List T) (k:Int) (r:BN):Prop:=
 (decide (k<(↑l:Int))=true→((0:Int)≤k∧k<(↑l:Int))∧k.toNat<xs.length∧((0:Int)≤IntKind.i64.wrap (k - (1:Int))∧IntKind.i64.wrap (k - (1:Int))<(↑l:Int))∧(IntKind.i64.wrap (k - (1:Int))).toNat<xs.length∧(conj ([(xs.getD k.toNat eT.dflt).e==(xs.getD (IntKind.i64.wrap (k - (1:Int))).toNat eT.dflt).e]++([(xs.getD k.toNat eT.dflt).d==(xs.getD (IntKind.i64.wrap (k - (1:Int))).toNat eT.dflt).d]++([(xs.getD k.toNat eT.dflt).l0==(xs.getD (IntKind.i64.wrap (k - (1:Int))).toNat eT.dflt).l0]++([(xs.getD k.toNat eT.dflt).l1==(xs.getD (IntKind.i64.wrap (k - (1:Int))).toNat eT.dflt).l1]++([(xs.getD k.toNat eT.dflt).l2==(xs.getD (IntKind.i64.wrap (k - (1:Int))).toNat eT.dflt).l2]++([(xs.getD k.toNat eT.dflt).l3==(xs.getD (IntKind.i64.wrap (k - (1:Int))).toNat eT.dflt).l3]++[])))++[])))=true→l≤l∧((0:Int)≤k∧k≤(↑l:Int))∧(∀ (e:Nat),e<xs.length→True)∧(l=(eT.lst xs.length (eT.els xs)).length∧(eT.lst xs.length (eT.els xs)).length≤maxLen∧k.toNat+(l - k.toNat)=(eT.lst xs.length (eT.els xs)).length∧(1:Int)≤(1:Int)∧(1:Int)≤(↑(l - k.toNat):Int)∧(0:Int)≤k∧k≤(↑k.toNat:Int)+(1:Int) - (1:Int))∧(cp1_q1 l xs k r).snd.fst≤(cp1_q1 l xs k r).snd.fst∧((0:Int)≤(cp1_q1 l xs k r).snd.snd.snd.fst∧(cp1_q1 l xs k r).snd.snd.snd.fst≤(↑(cp1_q1 l xs k r).snd.fst:Int))∧(cp1_q1 l xs k r).snd.snd.snd.fst.toNat+((cp1_q1 l xs k r).snd.fst - (cp1_q1 l xs k r).snd.snd.snd.fst.toNat)=(cp1_q1 l xs k r).snd.snd.fst.length∧((0:Int)≤(cp1_q1 l xs k r).snd.snd.snd.fst∧(cp1_q1 l xs k r).snd.snd.snd.fst≤(↑(cp1_q1 l xs k r).snd.fst:Int))∧∀ (e:Nat),e<(cp1_q1 l xs k r).snd.snd.snd.fst.toNat→True)∧(conj ([(xs.getD k.toNat eT.dflt).e==(xs.getD (IntKind.i64.wrap (k - (1:Int))).toNat eT.dflt).e]++([(xs.getD k.toNat eT.dflt).d==(xs.getD (IntKind.i64.wrap (k - (1:Int))).toNat eT.dflt).d]++([(xs.getD k.toNat eT.dflt).l0==(xs.getD (IntKind.i64.wrap (k - (1:Int))).toNat eT.dflt).l0]++([(xs.getD k.toNat eT.dflt).l1==(xs.getD (IntKind.i64.wrap (k - (1:Int))).toNat eT.dflt).l1]++([(xs.getD k.toNat eT.dflt).l2==(xs.getD (IntKind.i64.wrap (k - (1:Int))).toNat eT.dflt).l2]++([(xs.getD k.toNat eT.dflt).l3==(xs.getD (IntKind.i64.wrap (k - (1:Int))).toNat eT.dflt).l3]++[])))++[])))=false→∀ (e:Nat),e<xs.length→True))∧(decide (k<(↑l:Int))=false→∀ (e:Nat),e<xs.length→True)
theorem cp1_one:((loopsOf Try.prog 72).filter fun c=>Nat.beq (lkey c) 4).length=1:=by kernel_rfl
theorem cp1_es (g:cp1_G):(cp1_R g.1 g.2.1 g.2.2.1 g.2.2.2).1=.normal∨(cp1_R g.1 g.2.1 g.2.2.1 g.2.2.2).1∈([.ret,.exit 0]:List Ex):=by
 unfold cp1_R
 repeat' (first | (left;rfl) | (right;simp only[cond_true,cond_false];simp;done) | (rw[Bool.cond_eq_ite];split))
noncomputable abbrev cp1_C (Inv:cp1_G→List Prop) (m:cp1_G→Nat):LCon:=loopR [.ret,.exit 0] (loopBody Try.prog 72 4) cp1_LP [] 61 Inv (fun g=>cp1_R g.1 g.2.1 g.2.2.1 g.2.2.2) m
theorem cp1_loop (Inv:cp1_G→List Prop) (m:cp1_G→Nat) (hs:∀ g,allP (Inv g)→cp1_side g.1 g.2.1 g.2.2.1 g.2.2.2) (hg:Goes (fun g:cp1_G=>cp1_R g.1 g.2.1 g.2.2.1 g.2.2.2) m fun g=>allP (Inv g)):∀ b∈loopsOf Try.prog 72,lkey b=4→LoopOk Try.prog b (cp1_C Inv m).g:=loop_run (Γ:=(MTab.gamz (MTab.of tabP) [] [])) (Λ:=lamF) (MTab.okz (MTab.of tabP) [] []) lamF_ok 100 72 4 61 cp1_LP [] Inv (fun g=>cp1_R g.1 g.2.1 g.2.2.1 g.2.2.2) (fun g=>cp1_side g.1 g.2.1 g.2.2.1 g.2.2.2) m default [.ret,.exit 0] cp1_one (fun rd T B HL HB ds g=>by kernel_rfl) (fun rd T B HL HB ds g=>by kernel_rfl) hs hg cp1_es
end Go.Proofs.Ytiipneclghnfhaa

namespace Go.Proofs.Ytiipneclghnfhaa
open Go.RowKit Go.Sx Go.Lp
theorem cp2_fun:(fun g:cp2_G=>cp2_R g.1 g.2.1 g.2.2.1 g.2.2.2.1 g.2.2.2.2)=cpF eT.dflt:=funext cp2_RF
theorem cp1_RF (g:cp1_G):cp1_R g.1 g.2.1 g.2.2.1 g.2.2.2=coF eT.dflt g:=by
 obtain ⟨l,xs,k,r⟩:=g
 show cp1_R l xs k r=coF eT.dflt (l,xs,k,r)
 unfold cp1_R cp1_q1 coF coQ
 simp only[conj_T,eqT,eT.lst_els,cp2_fun,lst_pfx]
theorem cp1_ok:∀ b∈loopsOf Try.prog 72,lkey b=4→LoopOk Try.prog b (cp1_C (coI eT.dflt) coM).g:=by
 refine cp1_loop (coI eT.dflt) coM (fun g hi=>?_) ?_
 ·obtain ⟨l,xs,k,r⟩:=g
  obtain ⟨h1,h2,h3,h4,h5⟩:=hi _ (List.mem_cons_self ..)
  simp only at h1 h2 h3 h4 h5
  have h2':=h2
  unfold maxLen at h2
  show cp1_side l xs k r
  unfold cp1_side cp1_q1
  simp only[conj_T,eT.lst_els,cp2_fun]
  have w1:k≤(xs.length:Int)→IntKind.i64.wrap (k - 1)=k - 1:=fun h=>Lp.wr (by omega)
  rw[w1 h4]
  have hI:k<(l:Int)→allP (cpI ((l,xs,k,(k.toNat,l - k.toNat),1):CpG T)):=fun hk q hq=>by
   simp only[cpI,List.mem_singleton] at hq
   subst hq
   exact ⟨h1,h2',by show k.toNat+(l - k.toNat)=xs.length;omega,Int.le_refl _,by show (1:Int)≤((l - k.toNat:Nat):Int);omega,by show 0≤k;omega,by show k≤(k.toNat:Int)+1 - 1;omega⟩
  have hrun:=fun hk=>cp_run eT.dflt _ (hI hk)
  simp only at hrun
  generalize loopF (cpF eT.dflt) cpM (l,xs,k,(k.toNat,l - k.toNat),1)=q at hrun ⊢
  refine ⟨fun hc=>?_,?_⟩
  ·have hc:k<(l:Int):=of_decide_eq_true hc
   obtain ⟨c1,c2,c3,c4,c5,c6⟩:=hrun hc
   repeat' (first | apply And.intro | intro h)
   all_goals (first | trivial | omega | (unfold maxLen;omega) | skip)
  ·repeat' (first | apply And.intro | intro h)
   all_goals (first | trivial | omega | skip)
 ·have e:(fun g:cp1_G=>cp1_R g.1 g.2.1 g.2.2.1 g.2.2.2)=coF eT.dflt:=funext cp1_RF
  rw[e]
  exact co_goes _
noncomputable def ltG:LTab Try.prog:=(LTab.nil.cons 72 9 (cp2_C cpI cpM) cp2_ok).cons 72 4 (cp1_C (coI eT.dflt) coM) cp1_ok
noncomputable abbrev lamG:Lam:=ltG.lam
theorem lamG_ok:∀ f k L,lamG f k=some L→∀ b∈loopsOf Try.prog f,lkey b=k→LoopOk Try.prog b L.g:=ltG.ok
end Go.Proofs.Ytiipneclghnfhaa

namespace Go.Proofs.Ytiipneclghnfhaa
open Go.RowKit Go.Sx
set_option maxRecDepth 100000
set_option linter.unusedVariables false
noncomputable def cpt_q1 (xs:List T) (_u:Unit):Ex ×
 cp1_G:=
 loopF (fun g=>cp1_R g.fst g.snd.fst g.snd.snd.fst g.snd.snd.snd) Lp.coM (xs.length,eT.lst xs.length (eT.els xs),(1:Int),false,(0:Nat))
noncomputable def cpt_F (xs:List T) (_u:Unit):List T×RM.T RM.self:=
 bif decide ((↑xs.length:Int)<(2:Int)) then (eT.lst xs.length (eT.els xs),xs.length)
 else bif exB Ex.ret (cpt_q1 xs _u).fst then (eT.lst (cpt_q1 xs _u).snd.snd.fst.length (eT.els (cpt_q1 xs _u).snd.snd.fst),(cpt_q1 xs _u).snd.snd.snd.snd.snd) else (eT.lst (cpt_q1 xs _u).snd.snd.fst.length (eT.els (cpt_q1 xs _u).snd.snd.fst),(cpt_q1 xs _u).snd.fst)
def cpt_side (xs:List T) (_u:Unit):Prop:=
 (decide ((↑xs.length:Int)<(2:Int))=true→∀ (e:Nat),e<xs.length→True)∧(decide ((↑xs.length:Int)<(2:Int))=false→(∀ (e:Nat),e<xs.length→True)∧(xs.length=(eT.lst xs.length (eT.els xs)).length∧(eT.lst xs.length (eT.els xs)).length≤maxLen∧(1:Int)≤(1:Int)∧(1:Int)≤(↑(eT.lst xs.length (eT.els xs)).length:Int)∧Lp.compL (eT.lst xs.length (eT.els xs))=List.take (1:Nat) (eT.lst xs.length (eT.els xs))++Lp.dd ((eT.lst xs.length (eT.els xs)).getD (0:Nat) eT.dflt) (List.drop (1:Nat) (eT.lst xs.length (eT.els xs))))∧(exB Ex.ret (cpt_q1 xs _u).fst=true→(∀ (e:Nat),e<(cpt_q1 xs _u).snd.snd.fst.length→True)∧(cpt_q1 xs _u).snd.snd.snd.snd.fst=true)∧(exB Ex.ret (cpt_q1 xs _u).fst=false→∀ (e:Nat),e<(cpt_q1 xs _u).snd.snd.fst.length→True))
theorem cpt_okS (pre:List T→DA.T DA.none→List Prop) (h:∀ xs g,DA.bd DA.none g→xs.length≤maxLen→(∀ p∈pre xs g,p)→cpt_side xs g):FnMut Try.prog 72 30 eT DA.none RM.self (fun xs g=>cpt_F xs g) pre:=mut_of_side (Γ:=(MTab.gamz (MTab.of tabP) [] [])) (Λ:=lamG) (MTab.okz (MTab.of tabP) [] []) lamG_ok 100 default (fun xs g=>cpt_side xs g) (fun xs g=>by kernel_rfl) (fun xs g=>by kernel_rfl) h
end Go.Proofs.Ytiipneclghnfhaa

namespace Go.Sx
theorem mut_congr {α γ δ:Type} {P:Program} {f t:Nat} {A:El α} {D:DA γ} {R:RM δ} {fn fn':List α→γ→List α×δ} {pre:List α→γ→List Prop} (h:FnMut P f t A D R fn pre) (e:∀ xs g,D.bd g→xs.length≤maxLen→(∀ p∈pre xs g,p)→fn xs g=fn' xs g):FnMut P f t A D R fn' pre:=by
 intro w F L xs g v0 vs h1 h2 h3 h4 h5 h6
 refine (h w F L xs g v0 vs h1 h2 h3 h4 h5 h6).mono ?_
 rintro e' w' ⟨x,k1,k2,k3,k4⟩
 rw[e xs g (D.fb _ _ _ _ h6) h5.1 h4] at k3 k4
 exact ⟨x,k1,k2,k3,k4⟩
end Go.Sx
namespace Go.Proofs.Ytiipneclghnfhaa
open Go.RowKit Go.Sx Go.Lp
theorem cp1_fun:(fun g:cp1_G=>cp1_R g.1 g.2.1 g.2.2.1 g.2.2.2)=coF eT.dflt:=funext cp1_RF
theorem cpt_inv (xs:List T) (h:xs.length≤maxLen) (h2:¬ (xs.length:Int)<2):allP (coI eT.dflt ((xs.length,xs,1,false,0):CoG T)):=fun q hq=>by
 simp only[coI,List.mem_singleton] at hq
 subst hq
 refine ⟨trivial,h,Int.le_refl _,by show (1:Int)≤(xs.length:Int);omega,?_⟩
 match xs,h2 with
 | x :: r,_=>rfl
theorem cptF_ok:FnMut Try.prog 72 30 eT DA.none RM.self (fun xs _=>(compL xs,(compL xs).length)) (fun _ _=>[]):=by
 have h:=cpt_okS (fun _ _=>[]) fun xs g _ hl _=>by
  unfold cpt_side cpt_q1
  rw[eT.lst_els,cp1_fun]
  refine ⟨fun _ _ _=>trivial,fun hc=>?_⟩
  have hc:¬ (xs.length:Int)<2:=of_decide_eq_false hc
  have hI:=cpt_inv xs hl hc
  refine ⟨fun _ _=>trivial,hI _ (List.mem_cons_self ..),fun he=>⟨fun _ _=>trivial,?_⟩,fun _ _ _=>trivial⟩
  rcases co_run eT.dflt _ hI with ⟨h1,h2,h3,h4⟩ | ⟨h1,_⟩
  ·rw[h4]
  ·rw[h1] at he;cases he
 refine mut_congr h fun xs g _ hl _=>?_
 show cpt_F xs g=_
 unfold cpt_F cpt_q1
 rw[eT.lst_els,eT.lst_els,cp1_fun]
 by_cases hc:(xs.length:Int)<2
 ·simp only[hc,decide_true,cond_true]
  rw[comp_small (by omega)]
 ·simp only[hc,decide_false,cond_false]
  rcases co_run eT.dflt _ (cpt_inv xs hl hc) with ⟨h1,h2,h3,h4⟩ | ⟨h1,h2,h3,h4⟩
  ·rw[h1,h3,h4];rfl
  ·rw[h1,h3,h2]
   simp only at h4
   rw[h4];rfl
noncomputable def tabQ:MTab Try.prog:=((MTab.of tabP).consM 70 (bconM 30 eT aFn71 (.pure dUn0) (fun xs _=>(srtBy (fun a b=>tcmp_F a b) xs,())) preSort) (conM_ok sortF_ok)).consM 72 (bconM 30 eT DA.none RM.self (fun xs _=>(compL xs,(compL xs).length)) (fun _ _=>[])) (conM_ok cptF_ok)
end Go.Proofs.Ytiipneclghnfhaa

namespace Go.Proofs.Ytiipneclghnfhaa
open Go.RowKit Go.Sx
set_option maxRecDepth 100000
set_option linter.unusedVariables false
abbrev ea_G:Type:=Int×Int×Unit×T×Nat×List T×LoopState×Option Code
noncomputable def ea_LP:LP 5 ea_G:=.pair (.slot 5 6 dI) (.pair (.slot 5 7 dI) (.pair (.fix 5 0 (.yl 4)) (.pair (.obj 5 1 30 eT) (.pair (.owl 5 5 0) (.pair (.rowO 5 0 30 eT) (.rf 5 4 Try.prog 18 0 41 [(8,.p 1 0)] 3))))))
noncomputable def ea_R (n:Int) (i:Int) (_u:Unit) (t:T) (l:Nat) (out:List T):Ex×ea_G:=
 bif decide (i<n) then bif tleq_F (out.getD i.toNat eT.dflt) t then (Ex.ret,n,i,(),t,l,eT.lst out.length (eT.els out),LoopState.done,some (Code.exit (1:Nat))) else (Ex.normal,n,IntKind.i64.wrap (i+(1:Int)),(),t,l,eT.lst out.length (eT.els out),LoopState.ready,none)
 else (Ex.exit (0:Nat),n,i,(),t,l,eT.lst out.length (eT.els out),LoopState.ready,none)
def ea_side (n:Int) (i:Int) (_u:Unit) (t:T) (l:Nat) (out:List T):Prop:=
 (decide (i<n)=true→((0:Int)≤i∧i<(↑l:Int))∧i.toNat<out.length∧(tleq_F (out.getD i.toNat eT.dflt) t=true→(∀ (e:Nat),e<out.length→True)∧CodeIs (rangeOf Try.prog (18:Nat) (0:Nat)).snd.fst (rangeOf Try.prog (18:Nat) (0:Nat)).snd.fst∧CodeIs (rangeOf Try.prog (18:Nat) (0:Nat)).snd.snd (rangeOf Try.prog (18:Nat) (0:Nat)).snd.snd)∧(tleq_F (out.getD i.toNat eT.dflt) t=false→(∀ (e:Nat),e<out.length→True)∧CodeIs (rangeOf Try.prog (18:Nat) (0:Nat)).snd.fst (rangeOf Try.prog (18:Nat) (0:Nat)).snd.fst∧CodeIs (rangeOf Try.prog (18:Nat) (0:Nat)).snd.snd (rangeOf Try.prog (18:Nat) (0:Nat)).snd.snd))∧(decide (i<n)=false→(∀ (e:Nat),e<out.length→True)∧CodeIs (rangeOf Try.prog (18:Nat) (0:Nat)).snd.fst (rangeOf Try.prog (18:Nat) (0:Nat)).snd.fst∧CodeIs (rangeOf Try.prog (18:Nat) (0:Nat)).snd.snd (rangeOf Try.prog (18:Nat) (0:Nat)).snd.snd)
theorem ea_one:((loopsOf Try.prog 119).filter fun c=>Nat.beq (lkey c) 1).length=1:=by kernel_rfl
abbrev ea_GC:Type:=Int×T×Nat×List T
abbrev ea_GB:Type:=Unit×LoopState×Option Code
def ea_f (g:ea_G):Int×ea_GC×ea_GB:=(g.2.1,(g.1,g.2.2.2.1,g.2.2.2.2.1,g.2.2.2.2.2.1),(g.2.2.1,g.2.2.2.2.2.2))
def ea_g (d:Int×ea_GC×ea_GB):ea_G:=(d.2.1.1,d.1,d.2.2.1,d.2.1.2.1,d.2.1.2.2.1,d.2.1.2.2.2,d.2.2.2)
def ea_E:List ((Ex×ea_G→Bool)×Ex×(ea_G→ea_G)):=[(fun x=>exB (.ret) x.1,.ret,fun g=>(g.1,g.2.1,g.2.2.1,g.2.2.2.1,g.2.2.2.2.1,g.2.2.2.2.2.1,(.done,some (.exit 1)))),(fun x=>exB (.exit 0) x.1,.exit 0,fun g=>(g.1,g.2.1,g.2.2.1,g.2.2.2.1,g.2.2.2.2.1,g.2.2.2.2.2.1,(.ready,none)))]
theorem ea_es (g:ea_G):(ea_R g.1 g.2.1 g.2.2.1 g.2.2.2.1 g.2.2.2.2.1 g.2.2.2.2.2.1).1=.normal∨exitsOk (ea_R g.1 g.2.1 g.2.2.1 g.2.2.2.1 g.2.2.2.2.1 g.2.2.2.2.2.1) ea_E:=by
 unfold ea_R
 repeat' (first | (left;rfl) | (right;exact ⟨fun _=>⟨rfl,rfl⟩,fun h=>absurd h (by simp[exB,pdB])⟩) | (right;exact ⟨fun h=>absurd h (by simp[exB,pdB]),fun _=>⟨rfl,rfl⟩⟩) | (rw[Bool.cond_eq_ite];split))
noncomputable abbrev ea_C (Inv:ea_G→List Prop) (m:ea_G→Nat):LCon:=loopRS ea_E (loopBody Try.prog 119 1) ea_LP [] 16 Inv (fun g=>ea_R g.1 g.2.1 g.2.2.1 g.2.2.2.1 g.2.2.2.2.1 g.2.2.2.2.2.1) m
noncomputable def ea_i (g:ea_G):ea_G:=(g.1,g.2.1,g.2.2.1,g.2.2.2.1,g.2.2.2.2.1,g.2.2.2.2.2.1,(LoopState.ready,none))
theorem ea_loop (Inv:ea_G→List Prop) (m:ea_G→Nat) (hs:∀ g,allP (Inv g)→ea_side g.1 g.2.1 g.2.2.1 g.2.2.2.1 g.2.2.2.2.1 g.2.2.2.2.2.1) (hι:∀ g,allP (Inv g)→ea_i g=g) (hg:Goes (fun g:ea_G=>ea_R g.1 g.2.1 g.2.2.1 g.2.2.2.1 g.2.2.2.2.1 g.2.2.2.2.2.1) m fun g=>allP (Inv g)):∀ b∈loopsOf Try.prog 119,lkey b=1→LoopOk Try.prog b (ea_C Inv m).g:=loop_runS ea_i (Γ:=(MTab.gamz tabQ [] [])) (Λ:=noΛ) (MTab.okz tabQ [] []) noΛ_ok 100 119 1 16 ea_LP [] Inv (fun g=>ea_R g.1 g.2.1 g.2.2.1 g.2.2.2.1 g.2.2.2.2.1 g.2.2.2.2.2.1) (fun g=>ea_side g.1 g.2.1 g.2.2.1 g.2.2.2.1 g.2.2.2.2.1 g.2.2.2.2.2.1) m default ea_E ea_one (fun rd T B HL HB ds g=>by kernel_rfl) (fun rd T B HL HB ds g=>by kernel_rfl) hι hs hg ea_es
end Go.Proofs.Ytiipneclghnfhaa

namespace Go.Proofs.Ytiipneclghnfhaa
open Go.RowKit Go.Sx Go.Lp
noncomputable def ea_S (c:ea_GC) (_:ea_GB) (_:Int) (v:T):Ex×ea_GB:=bif tleq_F v c.2.1 then (.ret,(),.done,some (.exit 1)) else (.normal,(),.ready,none)
def ea_K (c:ea_GC) (b:ea_GB) (_:Int):Prop:=b.2=(LoopState.ready,(none:Option Code))∧c.2.2.1=c.2.2.2.length
abbrev ea_I (g:ea_G):List Prop:=ixI (fun c:ea_GC=>c.1) (fun c=>c.2.2.2) ea_K (ea_f g)
abbrev ea_M (g:ea_G):Nat:=ixM (fun c:ea_GC=>c.1) (ea_f g)
theorem ea_P:ixP ea_S (fun c:ea_GC=>c.2.2.2) ea_K:=by
 rintro ⟨n,t,l,out⟩ ⟨⟨⟩,st,pd⟩ i a hk _ hn
 unfold ea_S at hn ⊢
 cases hc:tleq_F a t with
 | true=>simp only[hc] at hn;cases hn
 | false=>exact ⟨rfl,hk.2⟩
noncomputable abbrev ea_RR (g:ea_G):Ex×ea_G:=ea_R g.1 g.2.1 g.2.2.1 g.2.2.2.1 g.2.2.2.2.1 g.2.2.2.2.2.1
theorem ea_RF (d:Int×ea_GC×ea_GB) (hi:allP (ixI (fun c:ea_GC=>c.1) (fun c=>c.2.2.2) ea_K d)):ea_RR (ea_g d)=((ixF 0 (fun c:ea_GC=>c.1) (fun c=>c.2.2.2) eT.dflt ea_S d).1,ea_g (ixF 0 (fun c:ea_GC=>c.1) (fun c=>c.2.2.2) eT.dflt ea_S d).2):=by
 obtain ⟨hb,hl⟩:=(hi _ (List.mem_cons_self ..)).2.2.2.2
 obtain ⟨i,⟨n,t,l,out⟩,⟨⟨⟩,st,pd⟩⟩:=d
 have hb:(st,pd)=(LoopState.ready,(none:Option Code)):=hb
 have hl:l=out.length:=hl
 subst hl
 cases hb
 show ea_R n i () t out.length out=_
 unfold ea_R ixF ea_S
 simp only[eT.lst_els]
 cases decide (i<n) with
 | false=>rfl
 | true=>
  simp only[cond_true]
  generalize tleq_F (out.getD i.toNat eT.dflt) t=z
  cases z <;> rfl
theorem ea_ok:∀ b∈loopsOf Try.prog 119,lkey b=1→LoopOk Try.prog b (ea_C ea_I ea_M).g:=by
 refine ea_loop ea_I ea_M (fun g hi=>?_) (fun g hi=>?_) (ix_conj_goes (fun _=>rfl) (fun _=>rfl) ea_RF ea_P)
 ·obtain ⟨n,i,⟨⟩,t,l,out,⟨st,pd⟩⟩:=g
  obtain ⟨h1,h2,h3,h4,h5⟩:=hi _ (List.mem_cons_self ..)
  have h1:n=(out.length:Int):=h1
  have h3:0≤i:=h3
  show ea_side n i () t l out
  unfold ea_side
  simp only[decide_eq_true_eq,decide_eq_false_iff_not]
  have ha:=okT out
  have h6:l=out.length:=h5.2
  subst h6
  clear hi
  repeat' (first | exact ha | exact rfl | apply And.intro | intro _)
  all_goals (first | trivial | omega)
 ·obtain ⟨n,i,⟨⟩,t,l,out,⟨st,pd⟩⟩:=g
  have h5:=(hi _ (List.mem_cons_self ..)).2.2.2.2.1
  have h5:(st,pd)=(LoopState.ready,(none:Option Code)):=h5
  cases h5
  rfl
theorem ea_run (n:Int) (t:T) (out:List T) (h1:n=(out.length:Int)) (h2:out.length≤maxLen):∃ j,loopF ea_RR ea_M (n,0,(),t,out.length,out,(.ready,none))=bif out.any (tleq_F · t) then (.ret,n,j,(),t,out.length,out,(.done,some (.exit 1))) else (.exit 0,n,j,(),t,out.length,out,(.ready,none)):=by
 have hr:loopF ea_RR ea_M (n,0,(),t,out.length,out,(.ready,none))=_:=ix_conj_run (φ:=ea_f) (ψ:=ea_g) (fun _=>rfl) (fun _=>rfl) ea_RF ea_P (n,t,out.length,out) ((),.ready,none) h1 h2 ⟨rfl,rfl⟩
 rcases scan_bad (x:=0) (st:=ea_S (n,t,out.length,out)) (p:=(tleq_F · t)) (r:=fun _ _=>((),LoopState.done,some (Code.exit 1))) (f:=fun _ _=>((),LoopState.ready,(none:Option Code))) (e:=.ret) (by intro h;cases h) (fun _ _ _=>rfl) out 0 ((),.ready,none) with ⟨ha,h3,a,b',_,_,h4⟩ | ⟨ha,h3⟩
 ·have h3:(scan 0 (ea_S (n,t,out.length,out)) 0 out ((),.ready,none)).1=_:=h3
  have h4:(scan 0 (ea_S (n,t,out.length,out)) 0 out ((),.ready,none)).2.2=_:=h4
  refine ⟨(scan 0 (ea_S (n,t,out.length,out)) 0 out ((),.ready,none)).2.1,hr.trans ?_⟩
  rw[ha]
  show ((scan 0 (ea_S (n,t,out.length,out)) 0 out ((),.ready,none)).1,ea_g ((scan 0 (ea_S (n,t,out.length,out)) 0 out ((),.ready,none)).2.1,(n,t,out.length,out),(scan 0 (ea_S (n,t,out.length,out)) 0 out ((),.ready,none)).2.2))=_
  rw[h3,h4]
  rfl
 ·have h3:scan 0 (ea_S (n,t,out.length,out)) 0 out ((),.ready,none)=_:=h3
  have hf:∀ l:List T,l.foldl (fun (_:ea_GB) (_:T)=>((),LoopState.ready,(none:Option Code))) ((),LoopState.ready,(none:Option Code))=((),LoopState.ready,none):=by
   intro l
   induction l with
   | nil=>rfl
   | cons a l ih=>exact ih
  refine ⟨(scan 0 (ea_S (n,t,out.length,out)) 0 out ((),.ready,none)).2.1,hr.trans ?_⟩
  rw[ha]
  show ((scan 0 (ea_S (n,t,out.length,out)) 0 out ((),.ready,none)).1,ea_g ((scan 0 (ea_S (n,t,out.length,out)) 0 out ((),.ready,none)).2.1,(n,t,out.length,out),(scan 0 (ea_S (n,t,out.length,out)) 0 out ((),.ready,none)).2.2))=_
  rw[h3,hf]
  rfl
noncomputable def ltH:LTab Try.prog:=ltE.cons 119 1 (ea_C ea_I ea_M) ea_ok
noncomputable abbrev lamH:Lam:=ltH.lam
theorem lamH_ok:∀ f k L,lamH f k=some L→∀ b∈loopsOf Try.prog f,lkey b=k→LoopOk Try.prog b L.g:=ltH.ok
end Go.Proofs.Ytiipneclghnfhaa

namespace Go.Proofs.Ytiipneclghnfhaa
open Go.RowKit Go.Sx
set_option maxRecDepth 100000
set_option linter.unusedVariables false
noncomputable def of1_q1 (out:List T) (ys:List T) (n:Int) (i:Int):Ex ×
 ea_G:=
 loopF (fun g=>ea_R g.fst g.snd.fst g.snd.snd.fst g.snd.snd.snd.fst g.snd.snd.snd.snd.fst g.snd.snd.snd.snd.snd.fst) ea_M ((↑out.length:Int),(0:Int),(),ys.getD i.toNat eT.dflt,out.length,eT.lst out.length (eT.els out),LoopState.ready,none)
abbrev of1_G:Type:=List T×List T×Int×Int
noncomputable def of1_LP:LP 0 of1_G:=.pair (.row 0 6 30 eT) (.pair (.slot 0 20 dLT) (.pair (.slot 0 21 dI) (.slot 0 22 dI)))
noncomputable def of1_R (out:List T) (ys:List T) (n:Int) (i:Int):Ex×of1_G:=
 bif decide (i<n) then bif exB Ex.ret (of1_q1 out ys n i).fst then (Ex.normal,eT.lst out.length (eT.els (of1_q1 out ys n i).snd.snd.snd.snd.snd.snd.fst),eT.lst ys.length (eT.els ys),n,IntKind.i64.wrap (i+(1:Int))) else (Ex.normal,eT.lst (min (out.length+(1:Nat)) out.length) (eT.els (of1_q1 out ys n i).snd.snd.snd.snd.snd.snd.fst)++List.map (fun x=>(of1_q1 out ys n i).snd.snd.snd.snd.fst) (List.range (out.length+(1:Nat) - out.length)),eT.lst ys.length (eT.els ys),n,IntKind.i64.wrap (i+(1:Int)))
 else (Ex.exit (0:Nat),eT.lst out.length (eT.els out),eT.lst ys.length (eT.els ys),n,i)
def of1_side (out:List T) (ys:List T) (n:Int) (i:Int):Prop:=
 (decide (i<n)=true→((0:Int)≤i∧i<(↑ys.length:Int))∧(∀ (e:Nat),e<out.length→True)∧CodeIs (rangeOf Try.prog (18:Nat) (0:Nat)).snd.fst (rangeOf Try.prog (18:Nat) (0:Nat)).snd.fst∧CodeIs (rangeOf Try.prog (18:Nat) (0:Nat)).snd.snd (rangeOf Try.prog (18:Nat) (0:Nat)).snd.snd∧Lp.ixJ (fun c=>c.fst) (fun c=>c.snd.snd.snd) ea_K (ea_f ((↑out.length:Int),(0:Int),(),ys.getD i.toNat eT.dflt,out.length,eT.lst out.length (eT.els out),LoopState.ready,none))∧(exB Ex.ret (of1_q1 out ys n i).fst=true→out.length≤(of1_q1 out ys n i).snd.snd.snd.snd.snd.snd.fst.length∧(∀ (e:Nat),e<out.length→True)∧∀ (e:Nat),e<ys.length→eT.Ok (eT.els ys e))∧(exB Ex.ret (of1_q1 out ys n i).fst=false→(out.length≤(of1_q1 out ys n i).snd.snd.snd.snd.snd.snd.fst.length∧True∧out.length+(1:Nat)≤maxLen∧(out.length+(1:Nat)) * Try.prog.types[(30:Nat)].bytes≤(140737488355328:Nat))∧out.length+(1:Nat)≤out.length+(1:Nat)∧(∀ (e:Nat),e<min (out.length+(1:Nat)) out.length→True)∧(∀ (e:Nat),e<out.length+(1:Nat) - out.length→True)∧∀ (e:Nat),e<ys.length→eT.Ok (eT.els ys e)))∧(decide (i<n)=false→out.length≤out.length∧(∀ (e:Nat),e<out.length→True)∧∀ (e:Nat),e<ys.length→eT.Ok (eT.els ys e))
theorem of1_one:((loopsOf Try.prog 18).filter fun c=>Nat.beq (lkey c) 8).length=1:=by kernel_rfl
abbrev of1_GC:Type:=List T×Int
abbrev of1_GB:Type:=List T
def of1_f (g:of1_G):Int×of1_GC×of1_GB:=(g.2.2.2,(g.2.1,g.2.2.1),g.1)
def of1_g (d:Int×of1_GC×of1_GB):of1_G:=(d.2.2,d.2.1.1,d.2.1.2,d.1)
theorem of1_es (g:of1_G):(of1_R g.1 g.2.1 g.2.2.1 g.2.2.2).1=.normal∨(of1_R g.1 g.2.1 g.2.2.1 g.2.2.2).1∈([.ret,.exit 0]:List Ex):=by
 unfold of1_R
 repeat' (first | (left;rfl) | (right;simp only[cond_true,cond_false];simp;done) | (rw[Bool.cond_eq_ite];split))
noncomputable abbrev of1_C (Inv:of1_G→List Prop) (m:of1_G→Nat):LCon:=loopR [.ret,.exit 0] (loopBody Try.prog 18 8) of1_LP [] 41 Inv (fun g=>of1_R g.1 g.2.1 g.2.2.1 g.2.2.2) m
theorem of1_loop (Inv:of1_G→List Prop) (m:of1_G→Nat) (hs:∀ g,allP (Inv g)→of1_side g.1 g.2.1 g.2.2.1 g.2.2.2) (hg:Goes (fun g:of1_G=>of1_R g.1 g.2.1 g.2.2.1 g.2.2.2) m fun g=>allP (Inv g)):∀ b∈loopsOf Try.prog 18,lkey b=8→LoopOk Try.prog b (of1_C Inv m).g:=loop_run (Γ:=(MTab.gamz tabQ [] [])) (Λ:=lamH) (MTab.okz tabQ [] []) lamH_ok 100 18 8 41 of1_LP [] Inv (fun g=>of1_R g.1 g.2.1 g.2.2.1 g.2.2.2) (fun g=>of1_side g.1 g.2.1 g.2.2.1 g.2.2.2) m default [.ret,.exit 0] of1_one (fun rd T B HL HB ds g=>by kernel_rfl) (fun rd T B HL HB ds g=>by kernel_rfl) hs hg of1_es
end Go.Proofs.Ytiipneclghnfhaa

namespace Go.Proofs.Ytiipneclghnfhaa
open Go.RowKit Go.Sx Go.Lp
theorem bytesT (h:30<Try.prog.types.size):(Try.prog.types[30]'h).bytes=48:=by kernel_rfl
theorem lst_app2 {α:Type} (A:El α) (out:List α) (s y:α):A.lst (min (min (out.length+1+1) (out.length+1)) out.length) (A.els out)++List.map (fun _=>s) (List.range (min (out.length+1+1) (out.length+1) - out.length))++List.map (fun _=>y) (List.range (out.length+1+1 - (out.length+1)))=(out++[s])++[y]:=by
 rw[Nat.min_eq_right (Nat.le_succ (out.length+1)),Nat.min_eq_right (Nat.le_succ _),A.lst_els,Nat.add_sub_cancel_left,Nat.add_sub_cancel_left];rfl
def KS:Nat:=1000000
noncomputable def pt_f1 (t:T) (b:List T×Bool) (v:T):List T×Bool:=bif !b.2&&decide (tcmp_F t v<0) then (b.1++[t]++[v],true) else (b.1++[v],b.2)
noncomputable def pt_S (c:pt_GC) (b:pt_GB) (_:Int) (v:T):Ex×pt_GB:=(.normal,(),(pt_f1 c.2 b.2 v).1,(pt_f1 c.2 b.2 v).2)
def pt_K (c:pt_GC) (b:pt_GB) (i:Int):Prop:=c.1.length≤KS∧(b.2.1.length:Int)≤i+(bif b.2.2 then 1 else 0)
abbrev pt_I (g:pt_G):List Prop:=ixI (fun c:pt_GC=>(c.1.length:Int)) (fun c=>c.1) pt_K (pt_f g)
abbrev pt_M (g:pt_G):Nat:=ixM (fun c:pt_GC=>(c.1.length:Int)) (pt_f g)
theorem pt_P:ixP pt_S (fun c:pt_GC=>c.1) pt_K:=by
 rintro ⟨xs,t⟩ ⟨⟨⟩,out,z⟩ i a ⟨h1,h2⟩ _ _
 refine ⟨h1,?_⟩
 have h2:(out.length:Int)≤(i:Int)+(bif z then 1 else 0):=h2
 show ((pt_f1 t (out,z) a).1.length:Int)≤(i:Int)+1+(bif (pt_f1 t (out,z) a).2 then 1 else 0)
 unfold pt_f1
 generalize decide (tcmp_F t a<0)=c
 cases z <;> cases c <;> simp at h2 ⊢ <;> omega
noncomputable abbrev pt_RR (g:pt_G):Ex×pt_G:=pt_R g.1 g.2.1 g.2.2.1 g.2.2.2.1 g.2.2.2.2.1 g.2.2.2.2.2
theorem pt_RF (d:Int×pt_GC×pt_GB) (_:allP (ixI (fun c:pt_GC=>(c.1.length:Int)) (fun c=>c.1) pt_K d)):pt_RR (pt_g d)=((ixF 0 (fun c:pt_GC=>(c.1.length:Int)) (fun c=>c.1) eT.dflt pt_S d).1,pt_g (ixF 0 (fun c:pt_GC=>(c.1.length:Int)) (fun c=>c.1) eT.dflt pt_S d).2):=by
 obtain ⟨i,⟨xs,t⟩,⟨⟨⟩,out,z⟩⟩:=d
 show pt_R xs () t out z i=_
 unfold pt_R ixF pt_S pt_f1
 simp only[eT.lst_els,lst_app1,lst_app2,rtcmp_eq]
 cases decide (i<(xs.length:Int)) with
 | false=>rfl
 | true=>
  simp only[cond_true]
  generalize (!z&&decide (tcmp_F t (xs.getD i.toNat eT.dflt)<0))=c
  cases c <;> rfl
theorem pt_ok:∀ b∈loopsOf Try.prog 89,lkey b=4→LoopOk Try.prog b (pt_C pt_I pt_M).g:=by
 refine pt_loop pt_I pt_M (fun g hi=>?_) (ix_conj_goes (fun _=>rfl) (fun _=>rfl) pt_RF pt_P)
 obtain ⟨xs,⟨⟩,t,out,z,i⟩:=g
 obtain ⟨h1,h2,h3,h4,h5,h6⟩:=hi _ (List.mem_cons_self ..)
 have h3:0≤i:=h3
 have h4:i≤(xs.length:Int):=h4
 have h5:xs.length≤KS:=h5
 have h6:(out.length:Int)≤i+(bif z then 1 else 0):=h6
 unfold KS at h5
 have h7:out.length≤1000002:=by cases z <;> simp only[cond_true,cond_false] at h6 <;> omega
 show pt_side xs () t out z i
 unfold pt_side
 simp only[bytesT,decide_eq_true_eq,decide_eq_false_iff_not]
 have ha:=okT xs
 clear hi h6
 unfold maxLen
 repeat' (first | exact ha | exact rfl | apply And.intro | intro _)
 all_goals (first | trivial | omega)
noncomputable def insP (t:T):List T→List T
 | []=>[t]
 | y :: r=>if tcmp_F t y<0 then t :: y :: r else y :: insP t r
theorem pt_true (t:T):∀ (l:List T) (out:List T),l.foldl (pt_f1 t) (out,true)=(out++l,true)
 | [],out=>by simp
 | y :: r,out=>by
  rw[List.foldl_cons]
  have:pt_f1 t (out,true) y=(out++[y],true):=rfl
  rw[this,pt_true t r]
  simp
theorem pt_fold (t:T):∀ (l:List T) (out:List T),(l.foldl (pt_f1 t) (out,false)).1++(bif (l.foldl (pt_f1 t) (out,false)).2 then [] else [t])=out++insP t l
 | [],out=>rfl
 | y :: r,out=>by
  rw[List.foldl_cons]
  unfold insP
  by_cases h:tcmp_F t y<0
  ·have:pt_f1 t (out,false) y=(out++[t]++[y],true):=by unfold pt_f1;simp[h]
   rw[this,pt_true,if_pos h]
   simp
  ·have:pt_f1 t (out,false) y=(out++[y],false):=by unfold pt_f1;simp[h]
   rw[this,if_neg h,pt_fold t r]
   simp
theorem insP_len (t:T):∀ l:List T,(insP t l).length=l.length+1
 | []=>rfl
 | y :: r=>by
  unfold insP
  split
  ·rfl
  ·simp[insP_len t r]
theorem insP_U (t:T):∀ {l:List T},t∉l→insP t l=insU (fun a b=>tcmp_F a b) t l
 | [],_=>rfl
 | y :: r,h=>by
  have h1:¬ y=t:=fun e=>h (e▸List.mem_cons_self ..)
  unfold insP insU
  rw[if_neg h1,insP_U t fun hm=>h (List.mem_cons_of_mem _ hm)]
theorem pt_run (xs:List T) (t:T) (h:xs.length≤KS):∃ out z,loopF pt_RR pt_M (xs,(),t,[],false,0)=(.exit 0,xs,(),t,out,z,(xs.length:Int))∧out++(bif z then [] else [t])=insP t xs∧out.length≤xs.length+1:=by
 have hm:xs.length≤maxLen:=by unfold KS at h;unfold maxLen;omega
 have hr:loopF pt_RR pt_M (xs,(),t,[],false,0)=_:=ix_conj_run (φ:=pt_f) (ψ:=pt_g) (fun _=>rfl) (fun _=>rfl) pt_RF pt_P (xs,t) ((),[],false) rfl hm ⟨h,by show ((0:Nat):Int)≤0+0;omega⟩
 have hf:∀ (l:List T) (b:pt_GB),l.foldl (fun (b:pt_GB) v=>((),(pt_f1 t b.2 v).1,(pt_f1 t b.2 v).2)) b=((),l.foldl (pt_f1 t) b.2):=by
  intro l
  induction l with
  | nil=>intro b;rfl
  | cons a l ih=>intro b;rw[List.foldl_cons,ih];rfl
 have hs:=scan_fold (x:=0) (st:=pt_S (xs,t)) (f:=fun (b:pt_GB) v=>((),(pt_f1 t b.2 v).1,(pt_f1 t b.2 v).2)) (fun _ _ _=>rfl) xs 0 ((),[],false)
 have hs:scan 0 (pt_S (xs,t)) 0 xs ((),[],false)=_:=hs
 rw[hf] at hs
 refine ⟨(xs.foldl (pt_f1 t) ([],false)).1,(xs.foldl (pt_f1 t) ([],false)).2,?_,by rw[pt_fold];rfl,?_⟩
 ·rw[hr]
  show ((scan 0 (pt_S (xs,t)) 0 xs ((),[],false)).1,pt_g ((scan 0 (pt_S (xs,t)) 0 xs ((),[],false)).2.1,(xs,t),(scan 0 (pt_S (xs,t)) 0 xs ((),[],false)).2.2))=_
  rw[hs,Int.zero_add]
  rfl
 ·have:=congrArg List.length (pt_fold t xs [])
  rw[List.length_append,List.nil_append,insP_len] at this
  omega
noncomputable def ltJ:LTab Try.prog:=ltE.cons 89 4 (pt_C pt_I pt_M) pt_ok
noncomputable abbrev lamJ:Lam:=ltJ.lam
theorem lamJ_ok:∀ f k L,lamJ f k=some L→∀ b∈loopsOf Try.prog f,lkey b=k→LoopOk Try.prog b L.g:=ltJ.ok
end Go.Proofs.Ytiipneclghnfhaa

namespace Go.Proofs.Ytiipneclghnfhaa
open Go.RowKit Go.Sx
set_option maxRecDepth 100000
set_option linter.unusedVariables false
abbrev rLT:Rv (List T):=.list eT
noncomputable def put_q1 (xs:List T) (t:T):Ex ×
 pt_G:=
 loopF (fun g=>pt_R g.fst g.snd.fst g.snd.snd.fst g.snd.snd.snd.fst g.snd.snd.snd.snd.fst g.snd.snd.snd.snd.snd) pt_M (eT.lst xs.length (eT.els xs),(),t,[],false,(0:Int))
noncomputable def put_F (xs:List T) (t:T):Rv.T rLT:=
 bif !(put_q1 xs t).snd.snd.snd.snd.snd.fst then eT.lst (min ((put_q1 xs t).snd.snd.snd.snd.fst.length+(1:Nat)) (put_q1 xs t).snd.snd.snd.snd.fst.length) (eT.els (put_q1 xs t).snd.snd.snd.snd.fst)++List.map (fun x=>(put_q1 xs t).snd.snd.snd.fst) (List.range ((put_q1 xs t).snd.snd.snd.snd.fst.length+(1:Nat) - (put_q1 xs t).snd.snd.snd.snd.fst.length))
 else eT.lst (put_q1 xs t).snd.snd.snd.snd.fst.length (eT.els (put_q1 xs t).snd.snd.snd.snd.fst)
def put_side (xs:List T) (t:T):Prop:=
 (∀ (e:Nat),e<xs.length→eT.Ok (eT.els xs e))∧Lp.ixJ (fun c=>(↑c.fst.length:Int)) (fun c=>c.fst) pt_K (pt_f (eT.lst xs.length (eT.els xs),(),t,[],false,(0:Int)))∧((!(put_q1 xs t).snd.snd.snd.snd.snd.fst)=true→((put_q1 xs t).snd.snd.snd.snd.fst.length≤(put_q1 xs t).snd.snd.snd.snd.fst.length∧True∧(put_q1 xs t).snd.snd.snd.snd.fst.length+(1:Nat)≤maxLen∧((put_q1 xs t).snd.snd.snd.snd.fst.length+(1:Nat)) * Try.prog.types[(30:Nat)].bytes≤(140737488355328:Nat))∧(put_q1 xs t).snd.snd.snd.snd.fst.length+(1:Nat)≤(put_q1 xs t).snd.snd.snd.snd.fst.length+(1:Nat)∧(∀ (e:Nat),e<min ((put_q1 xs t).snd.snd.snd.snd.fst.length+(1:Nat)) (put_q1 xs t).snd.snd.snd.snd.fst.length→True)∧∀ (e:Nat),e<(put_q1 xs t).snd.snd.snd.snd.fst.length+(1:Nat) - (put_q1 xs t).snd.snd.snd.snd.fst.length→True)∧((!(put_q1 xs t).snd.snd.snd.snd.snd.fst)=false→(put_q1 xs t).snd.snd.snd.snd.fst.length≤(put_q1 xs t).snd.snd.snd.snd.fst.length∧∀ (e:Nat),e<(put_q1 xs t).snd.snd.snd.snd.fst.length→True)
theorem put_okS (pre:DA.T aLT→List Prop) (h:∀ g,DA.bd aLT g→(∀ p∈pre g,p)→put_side g.1 g.2):FnPure Try.prog 89 aLT (Rv.D rLT) (fun g=>put_F g.1 g.2) pre:=res_of_side (R:=rLT) (Γ:=(MTab.gamz (MTab.of tabP) [] [])) (Λ:=lamJ) (MTab.okz (MTab.of tabP) [] []) lamJ_ok 100 default (fun g=>put_side g.1 g.2) (fun g=>by kernel_rfl) (fun g=>by kernel_rfl) h
noncomputable def jnd_F (xs:List T) (ys:List T):Rv.T rLT:=
 List.map (fun x=>eT.get []) (List.range (min (min ((0:Nat)+xs.length+ys.length) ((0:Nat)+xs.length)) (0:Nat)))++eT.lst (min ((0:Nat)+xs.length+ys.length) ((0:Nat)+xs.length) - (0:Nat)) (eT.els xs)++eT.lst ((0:Nat)+xs.length+ys.length - ((0:Nat)+xs.length)) (eT.els ys)
end Go.Proofs.Ytiipneclghnfhaa

namespace Go.Proofs.Ytiipneclghnfhaa
open Go.RowKit Go.Sx Go.Lp
theorem put_eq (xs:List T) (t:T) (h:xs.length≤KS):put_F xs t=insP t xs∧put_side xs t:=by
 have hm:xs.length≤maxLen:=by unfold KS at h;unfold maxLen;omega
 have h':=h
 unfold KS at h'
 obtain ⟨out,z,h1,h2,h3⟩:=pt_run xs t h
 have h1:loopF (fun g:pt_G=>pt_R g.1 g.2.1 g.2.2.1 g.2.2.2.1 g.2.2.2.2.1 g.2.2.2.2.2) pt_M (xs,(),t,[],false,0)=_:=h1
 unfold put_F put_side put_q1
 simp only[eT.lst_els,h1,lst_app1,bytesT]
 refine ⟨?_,okT xs,ixJ0 rfl hm ⟨h,by show ((0:Nat):Int)≤0+0;omega⟩,fun _=>⟨⟨Nat.le_refl _,trivial,by unfold maxLen;omega,by omega⟩,Nat.le_refl _,fun _ _=>trivial,fun _ _=>trivial⟩,fun _=>⟨Nat.le_refl _,fun _ _=>trivial⟩⟩
 rw[← h2]
 cases z <;> simp
theorem put_ok:FnPure Try.prog 89 aLT (Rv.D rLT) (fun g=>insP g.2 g.1) (fun g=>[g.1.length≤KS]):=
 pure_congr (put_okS _ fun g _ hp=>(put_eq g.1 g.2 (hp _ (List.mem_cons_self ..))).2) fun g _ hp=>(put_eq g.1 g.2 (hp _ (List.mem_cons_self ..))).1
theorem onesT (xs:List T) (e:Nat):(eT.els xs e).all SV.one=true:=by
 unfold El.els
 generalize xs.getD e eT.dflt=t
 rfl
theorem jnd_eq (xs ys:List T):jnd_F xs ys=xs++ys:=by
 unfold jnd_F
 have h1:min (0+xs.length+ys.length) (0+xs.length)=xs.length:=by omega
 have h2:min xs.length 0=0:=by omega
 have h3:0+xs.length+ys.length - (0+xs.length)=ys.length:=by omega
 rw[h1,h2,h3,Nat.sub_zero,eT.lst_els,eT.lst_els]
 rfl
noncomputable def rkin (xs:List T) (k:Nat):Bool:=(List.range xs.length).any fun j=>decide (j≠k)&&tleq_F (xs.getD j eT.dflt) (xs.getD k eT.dflt)
noncomputable def rkbad (xs:List T) (k:Nat):Bool:=(decide (0<k)&&decide (tcmp_F (xs.getD (k - 1) eT.dflt) (xs.getD k eT.dflt)≥0))||rkin xs k
theorem rk1_q (xs:List T) (k r:Int) (hk:0≤k∧k<(xs.length:Int)) (hm:xs.length≤maxLen):∃ j,rk1_q1 xs k r=(bif rkin xs k.toNat then .ret else .exit 2,xs,k,j,bif rkin xs k.toNat then 30 else r):=by
 unfold rk1_q1
 simp only[eT.lst_els]
 have h1:loopF (fun g:rk2_G=>rk2_R g.1 g.2.1 g.2.2.1 g.2.2.2) rk2_M (xs,k,0,r)=_:=rk2_run (xs,k) r rfl hm hk
 rcases searchI (x:=2) (st:=rk2_S (xs,k)) (p:=fun j v=>j != k&&rtleq_F v (xs.getD k.toNat eT.dflt)) (r:=fun _ _ _=>(30:Int)) (fun _ _ _=>rfl) xs r with ⟨n,a,ha,hp,h2⟩ | ⟨ha,h2⟩
 ·have h2:scan 2 (rk2_S (xs,k)) 0 xs r=_:=h2
  have hc:rkin xs k.toNat=true:=by
   unfold rkin
   rw[List.any_eq_true]
   have hn:n<xs.length:=by
    rcases Nat.lt_or_ge n xs.length with h | h
    ·exact h
    ·rw[List.getElem?_eq_none h] at ha;cases ha
   refine ⟨n,List.mem_range.2 hn,?_⟩
   rw[List.getD_eq_getElem?_getD,ha]
   simp only[Bool.and_eq_true,bne_iff_ne,ne_eq] at hp
   simp only[Option.getD_some,Bool.and_eq_true,decide_eq_true_eq]
   exact ⟨by omega,hp.2⟩
  refine ⟨(scan 2 (rk2_S (xs,k)) 0 xs r).2.1,h1.trans ?_⟩
  ·rw[hc]
   show ((scan 2 (rk2_S (xs,k)) 0 xs r).1,rk2_g ((scan 2 (rk2_S (xs,k)) 0 xs r).2.1,(xs,k),(scan 2 (rk2_S (xs,k)) 0 xs r).2.2))=_
   rw[h2];rfl
 ·have h2:scan 2 (rk2_S (xs,k)) 0 xs r=_:=h2
  have hc:rkin xs k.toNat=false:=by
   unfold rkin
   rw[List.any_eq_false]
   intro n hn
   have hn:=List.mem_range.1 hn
   have:=ha n (xs.getD n eT.dflt) (by rw[List.getD_eq_getElem?_getD,List.getElem?_eq_getElem hn];rfl)
   simp only[Bool.and_eq_false_iff,bne_eq_false_iff_eq] at this
   simp only[Bool.and_eq_true,decide_eq_true_eq,not_and]
   intro h
   rcases this with h3 | h3
   ·omega
   ·intro h4;rw[show tleq_F (xs.getD n eT.dflt) (xs.getD k.toNat eT.dflt)=false from h3] at h4;cases h4
  refine ⟨(scan 2 (rk2_S (xs,k)) 0 xs r).2.1,h1.trans ?_⟩
  ·rw[hc]
   show ((scan 2 (rk2_S (xs,k)) 0 xs r).1,rk2_g ((scan 2 (rk2_S (xs,k)) 0 xs r).2.1,(xs,k),(scan 2 (rk2_S (xs,k)) 0 xs r).2.2))=_
   rw[h2];rfl
noncomputable def rk1_S (c:rk1_GC) (b:rk1_GB) (i:Int) (_:T):Ex×rk1_GB:=bif rkbad c i.toNat then (.ret,(30:Int)) else (.normal,b)
def rk1_K (_:rk1_GC) (_:rk1_GB) (_:Int):Prop:=True
abbrev rk1_I (g:rk1_G):List Prop:=ixI (fun c:rk1_GC=>(List.length c:Int)) (fun c=>c) rk1_K (rk1_f g)
abbrev rk1_M (g:rk1_G):Nat:=ixM (fun c:rk1_GC=>(List.length c:Int)) (rk1_f g)
theorem rk1_P:ixP rk1_S (fun c:rk1_GC=>c) rk1_K:=fun _ _ _ _ h _ _=>h
noncomputable abbrev rk1_RR (g:rk1_G):Ex×rk1_G:=rk1_R g.1 g.2.1 g.2.2
theorem rk1_c (xs:List T) (k:Int) (h:0≤k) (h2:k<(xs.length:Int)) (h3:xs.length≤maxLen):(decide (k > 0)&&decide (rtcmp_F (xs.getD (IntKind.i64.wrap (k - 1)).toNat eT.dflt) (xs.getD k.toNat eT.dflt)≥0))=(decide (0<k.toNat)&&decide (tcmp_F (xs.getD (k.toNat - 1) eT.dflt) (xs.getD k.toNat eT.dflt)≥0)):=by
 unfold maxLen at h3
 by_cases hk:k > 0
 ·rw[wr (by omega),rtcmp_eq,show (k - 1).toNat=k.toNat - 1 by omega,show decide (k > 0)=decide (0<k.toNat) by rw[decide_eq_decide];omega]
 ·have h1:¬ 0<k.toNat:=by omega
  simp[hk,h1]
theorem rk1_RF (d:Int×rk1_GC×rk1_GB) (hi:allP (ixI (fun c:rk1_GC=>(List.length c:Int)) (fun c=>c) rk1_K d)):rk1_RR (rk1_g d)=((ixF 0 (fun c:rk1_GC=>(List.length c:Int)) (fun c=>c) eT.dflt rk1_S d).1,rk1_g (ixF 0 (fun c:rk1_GC=>(List.length c:Int)) (fun c=>c) eT.dflt rk1_S d).2):=by
 obtain ⟨h1,h2,h3,h4,h5⟩:=hi _ (List.mem_cons_self ..)
 obtain ⟨k,xs,r⟩:=d
 have h3:0≤k:=h3
 have h2:xs.length≤maxLen:=h2
 show rk1_R xs k r=_
 unfold rk1_R ixF rk1_S
 simp only[eT.lst_els]
 by_cases hc:k<(xs.length:Int)
 ·obtain ⟨j,hj⟩:=rk1_q xs k r ⟨h3,hc⟩ h2
  rw[hj,rk1_c xs k h3 hc h2]
  simp only[hc,decide_true,cond_true,eT.lst_els]
  unfold rkbad
  generalize (decide (0<k.toNat)&&decide (tcmp_F (xs.getD (k.toNat - 1) eT.dflt) (xs.getD k.toNat eT.dflt)≥0))=y
  generalize rkin xs k.toNat=z
  cases y <;> cases z <;> rfl
 ·simp only[hc,decide_false,cond_false]
  rfl
theorem rk1_ok:∀ b∈loopsOf Try.prog 22,lkey b=7→LoopOk Try.prog b (rk1_C rk1_I rk1_M).g:=by
 refine rk1_loop rk1_I rk1_M (fun g hi=>?_) (ix_conj_goes (fun _=>rfl) (fun _=>rfl) rk1_RF rk1_P)
 obtain ⟨xs,k,r⟩:=g
 obtain ⟨h1,h2,h3,h4,h5⟩:=hi _ (List.mem_cons_self ..)
 have h2:xs.length≤maxLen:=h2
 have h3:0≤k:=h3
 have ka:=okT xs
 show rk1_side xs k r
 unfold rk1_side
 refine ⟨fun hc=>?_,fun _=>ka⟩
 have hc:k<(xs.length:Int):=of_decide_eq_true hc
 obtain ⟨j,hj⟩:=rk1_q xs k r ⟨h3,hc⟩ h2
 rw[hj]
 simp only[eT.lst_els]
 have h2':=h2
 unfold maxLen at h2'
 refine ⟨fun hk=>?_,fun _=>⟨h3,hc⟩,fun _=>ka,fun _=>⟨ka,ixJ0 rfl h2 ⟨h3,hc⟩,fun _=>ka,fun _=>ka⟩⟩
 have hk:k > 0:=of_decide_eq_true hk
 rw[wr (by omega)]
 omega
noncomputable def rkany (xs:List T):Bool:=(List.range xs.length).any (rkbad xs)
theorem rk1_run (xs:List T) (hm:xs.length≤maxLen) (r:Int):(loopF rk1_RR rk1_M (xs,0,r)).1=(bif rkany xs then .ret else .exit 0)∧(loopF rk1_RR rk1_M (xs,0,r)).2.2.2=bif rkany xs then 30 else r:=by
 have h1:loopF rk1_RR rk1_M (xs,0,r)=_:=ix_conj_run (φ:=rk1_f) (ψ:=rk1_g) (fun _=>rfl) (fun _=>rfl) rk1_RF rk1_P xs r rfl hm trivial
 rw[h1]
 rcases searchI (x:=0) (st:=rk1_S xs) (p:=fun i _=>rkbad xs i.toNat) (r:=fun _ _ _=>(30:Int)) (fun _ _ _=>rfl) xs r with ⟨n,a,ha,hp,h2⟩ | ⟨ha,h2⟩
 ·have hc:rkany xs=true:=by
   unfold rkany
   rw[List.any_eq_true]
   have hn:n<xs.length:=by
    rcases Nat.lt_or_ge n xs.length with h | h
    ·exact h
    ·rw[List.getElem?_eq_none h] at ha;cases ha
   exact ⟨n,List.mem_range.2 hn,by simpa using hp⟩
  have h2:scan 0 (rk1_S xs) 0 xs r=_:=h2
  rw[hc]
  exact ⟨congrArg (·.1) h2,congrArg (·.2.2) h2⟩
 ·have hc:rkany xs=false:=by
   unfold rkany
   rw[List.any_eq_false]
   intro n hn
   have hn:=List.mem_range.1 hn
   have:=ha n (xs.getD n eT.dflt) (by rw[List.getD_eq_getElem?_getD,List.getElem?_eq_getElem hn];rfl)
   simpa using this
  have h2:scan 0 (rk1_S xs) 0 xs r=_:=h2
  rw[hc]
  exact ⟨congrArg (·.1) h2,congrArg (·.2.2) h2⟩
noncomputable def tabR:PTab Try.prog:=tabP.cons 89 (pconR aLT dLT (fun g=>insP g.2 g.1) (fun g=>[g.1.length≤KS])) (conR_ok put_ok)
noncomputable def ltK:LTab Try.prog:=ltJ.cons 22 7 (rk1_C rk1_I rk1_M) rk1_ok
noncomputable abbrev lamK:Lam:=ltK.lam
theorem lamK_ok:∀ f k L,lamK f k=some L→∀ b∈loopsOf Try.prog f,lkey b=k→LoopOk Try.prog b L.g:=ltK.ok
end Go.Proofs.Ytiipneclghnfhaa
