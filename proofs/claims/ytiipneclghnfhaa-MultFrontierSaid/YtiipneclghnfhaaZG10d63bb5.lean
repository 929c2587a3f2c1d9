/- Chapter 3: the document's Check; its Of: the loop; Leq. Printed by treegen.py. -/
import Derived.Test.YtiipneclghnfhaaZG095ef8a4
import Derived.Test.YtiipneclghnfhaaZG0786cf4e
import Derived.Test.YtiipneclghnfhaaZG06e05322
set_option linter.unusedVariables false
set_option linter.unusedSimpArgs false
set_option linter.constructorNameAsVariable false
set_option linter.all false

namespace Go.Proofs.Ytiipneclghnfhaa
open Go.RowKit Go.Sx
set_option maxRecDepth 100000
set_option linter.unusedVariables false
abbrev dFl:Dv (List T):=dFn1 104 dLT
abbrev aFl:DA (List T×List T):=.cons dLT (.one dFl)
noncomputable def rchk_q1 (xs:List T):Ex ×
 rk1_G:=
 loopF (fun g=>rk1_R g.fst g.snd.fst g.snd.snd) rk1_M (eT.lst xs.length (eT.els xs),(0:Int),(0:Int))
noncomputable def rchk_F (xs:List T):Dv.T dI:=
 bif decide ((↑xs.length:Int) > (1024:Int)) then (3:Int)
 else bif badC (eT.lst xs.length (eT.els xs)) != (0:Int) then badC (eT.lst xs.length (eT.els xs)) else bif exB Ex.ret (rchk_q1 xs).fst then (rchk_q1 xs).snd.snd.snd else (0:Int)
def rchk_side (xs:List T):Prop:=
 decide ((↑xs.length:Int) > (1024:Int))=false→(∀ (e:Nat),e<xs.length→eT.Ok (eT.els xs e))∧((badC (eT.lst xs.length (eT.els xs)) != (0:Int))=false→(∀ (e:Nat),e<xs.length→eT.Ok (eT.els xs e))∧Lp.ixJ (fun c=>(↑(List.length c):Int)) (fun c=>c) rk1_K (rk1_f (eT.lst xs.length (eT.els xs),(0:Int),(0:Int))))
theorem rchk_okS (pre:DA.T aL→List Prop) (h:∀ g,DA.bd aL g→(∀ p∈pre g,p)→rchk_side g):FnPure Try.prog 22 aL dI (fun g=>rchk_F g) pre:=pure_of_sideS (Γ:=(PTab.gamz tabR [] [])) (Λ:=lamK) (PTab.okz tabR [] []) lamK_ok 100 default (fun g=>rchk_side g) (fun g=>by kernel_rfl) (fun g=>by kernel_rfl) h
noncomputable def rlq_q1 (ys:List T) (xs:List T):Ex ×
 rl_G:=
 loopF (fun g=>rl_R g.fst g.snd.fst g.snd.snd.fst g.snd.snd.snd) rl_M (eT.lst ys.length (eT.els ys),eT.lst xs.length (eT.els xs),(0:Int),false)
noncomputable def rlq_F (ys:List T) (xs:List T):Dv.T dBool:=
 bif exB Ex.ret (rlq_q1 ys xs).fst then (rlq_q1 ys xs).snd.snd.snd.snd else true
def rlq_side (ys:List T) (xs:List T):Prop:=
 (∀ (e:Nat),e<ys.length→eT.Ok (eT.els ys e))∧(∀ (e:Nat),e<xs.length→eT.Ok (eT.els xs e))∧Lp.ixJ (fun c=>(↑c.snd.length:Int)) (fun c=>c.snd) rl_K (rl_f (eT.lst ys.length (eT.els ys),eT.lst xs.length (eT.els xs),(0:Int),false))
theorem rlq_okS (pre:DA.T aLL→List Prop) (h:∀ g,DA.bd aLL g→(∀ p∈pre g,p)→rlq_side g.1 g.2):FnPure Try.prog 56 aLL dBool (fun g=>rlq_F g.1 g.2) pre:=pure_of_sideS (Γ:=(PTab.gamz tabR [] [])) (Λ:=lamK) (PTab.okz tabR [] []) lamK_ok 100 default (fun g=>rlq_side g.1 g.2) (fun g=>by kernel_rfl) (fun g=>by kernel_rfl) h
noncomputable def ro1_q1 (xs:List T) (out:List T) (i:Int):Ex ×
 ro2_G:=
 loopF (fun g=>ro2_R g.fst g.snd.fst g.snd.snd.fst g.snd.snd.snd.fst g.snd.snd.snd.snd) ro2_M (eT.lst xs.length (eT.els xs),i,!decide (xs.getD i.toNat eT.dflt∈eT.lst out.length (eT.els out)),(0:Int),eT.lst out.length (eT.els out))
abbrev ro1_G:Type:=List T×List T×Int
noncomputable def ro1_LP:LP 0 ro1_G:=.pair (.slot 0 0 dLT) (.pair (.slot 0 5 dLT) (.slot 0 6 dI))
noncomputable def ro1_R (xs:List T) (out:List T) (i:Int):Ex×ro1_G:=
 bif decide (i<(↑xs.length:Int)) then (Ex.normal,eT.lst (ro1_q1 xs out i).snd.fst.length (eT.els (ro1_q1 xs out i).snd.fst),eT.lst (bif (ro1_q1 xs out i).snd.snd.snd.fst then (insP ((ro1_q1 xs out i).snd.fst.getD (ro1_q1 xs out i).snd.snd.fst.toNat eT.dflt) (eT.lst (ro1_q1 xs out i).snd.snd.snd.snd.snd.length (eT.els (ro1_q1 xs out i).snd.snd.snd.snd.snd))).length else (ro1_q1 xs out i).snd.snd.snd.snd.snd.length) (bif (ro1_q1 xs out i).snd.snd.snd.fst then eT.els (insP ((ro1_q1 xs out i).snd.fst.getD (ro1_q1 xs out i).snd.snd.fst.toNat eT.dflt) (eT.lst (ro1_q1 xs out i).snd.snd.snd.snd.snd.length (eT.els (ro1_q1 xs out i).snd.snd.snd.snd.snd))) else eT.els (ro1_q1 xs out i).snd.snd.snd.snd.snd),IntKind.i64.wrap ((ro1_q1 xs out i).snd.snd.fst+(1:Int)))
 else (Ex.exit (0:Nat),eT.lst xs.length (eT.els xs),eT.lst out.length (eT.els out),i)
def ro1_side (xs:List T) (out:List T) (i:Int):Prop:=
 (decide (i<(↑xs.length:Int))=true→((0:Int)≤i∧i<(↑xs.length:Int))∧(∀ (e:Nat),e<out.length→eT.Ok (eT.els out e))∧(∀ (e:Nat),e<xs.length→eT.Ok (eT.els xs e))∧(∀ (e:Nat),e<out.length→eT.Ok (eT.els out e))∧Lp.ixJ (fun c=>(↑c.fst.length:Int)) (fun c=>c.fst) ro2_K (ro2_f (eT.lst xs.length (eT.els xs),i,!decide (xs.getD i.toNat eT.dflt∈eT.lst out.length (eT.els out)),(0:Int),eT.lst out.length (eT.els out)))∧((ro1_q1 xs out i).snd.snd.snd.fst=true→(0:Int)≤(ro1_q1 xs out i).snd.snd.fst∧(ro1_q1 xs out i).snd.snd.fst<(↑(ro1_q1 xs out i).snd.fst.length:Int))∧((ro1_q1 xs out i).snd.snd.snd.fst=true→∀ (e:Nat),e<(ro1_q1 xs out i).snd.snd.snd.snd.snd.length→eT.Ok (eT.els (ro1_q1 xs out i).snd.snd.snd.snd.snd e))∧((ro1_q1 xs out i).snd.snd.snd.fst=true→(eT.lst (ro1_q1 xs out i).snd.snd.snd.snd.snd.length (eT.els (ro1_q1 xs out i).snd.snd.snd.snd.snd)).length≤KS)∧(∀ (e:Nat),e<(ro1_q1 xs out i).snd.fst.length→eT.Ok (eT.els (ro1_q1 xs out i).snd.fst e))∧∀ (e:Nat),(e<bif (ro1_q1 xs out i).snd.snd.snd.fst then (insP ((ro1_q1 xs out i).snd.fst.getD (ro1_q1 xs out i).snd.snd.fst.toNat eT.dflt) (eT.lst (ro1_q1 xs out i).snd.snd.snd.snd.snd.length (eT.els (ro1_q1 xs out i).snd.snd.snd.snd.snd))).length else (ro1_q1 xs out i).snd.snd.snd.snd.snd.length)→eT.Ok ((bif (ro1_q1 xs out i).snd.snd.snd.fst then eT.els (insP ((ro1_q1 xs out i).snd.fst.getD (ro1_q1 xs out i).snd.snd.fst.toNat eT.dflt) (eT.lst (ro1_q1 xs out i).snd.snd.snd.snd.snd.length (eT.els (ro1_q1 xs out i).snd.snd.snd.snd.snd))) else eT.els (ro1_q1 xs out i).snd.snd.snd.snd.snd) e))∧(decide (i<(↑xs.length:Int))=false→(∀ (e:Nat),e<xs.length→eT.Ok (eT.els xs e))∧∀ (e:Nat),e<out.length→eT.Ok (eT.els out e))
theorem ro1_one:((loopsOf Try.prog 31).filter fun c=>Nat.beq (lkey c) 6).length=1:=by kernel_rfl
abbrev ro1_GC:Type:=List T
abbrev ro1_GB:Type:=List T
def ro1_f (g:ro1_G):Int×ro1_GC×ro1_GB:=(g.2.2,g.1,g.2.1)
def ro1_g (d:Int×ro1_GC×ro1_GB):ro1_G:=(d.2.1,d.2.2,d.1)
theorem ro1_es (g:ro1_G):(ro1_R g.1 g.2.1 g.2.2).1=.normal∨(ro1_R g.1 g.2.1 g.2.2).1∈([.exit 0]:List Ex):=by
 unfold ro1_R
 repeat' (first | (left;rfl) | (right;simp only[cond_true,cond_false];simp;done) | (rw[Bool.cond_eq_ite];split))
noncomputable abbrev ro1_C (Inv:ro1_G→List Prop) (m:ro1_G→Nat):LCon:=loopR [.exit 0] (loopBody Try.prog 31 6) ro1_LP [] 64 Inv (fun g=>ro1_R g.1 g.2.1 g.2.2) m
theorem ro1_loop (Inv:ro1_G→List Prop) (m:ro1_G→Nat) (hs:∀ g,allP (Inv g)→ro1_side g.1 g.2.1 g.2.2) (hg:Goes (fun g:ro1_G=>ro1_R g.1 g.2.1 g.2.2) m fun g=>allP (Inv g)):∀ b∈loopsOf Try.prog 31,lkey b=6→LoopOk Try.prog b (ro1_C Inv m).g:=loop_run (Γ:=(PTab.gamz tabR [] [])) (Λ:=lamK) (PTab.okz tabR [] []) lamK_ok 100 31 6 64 ro1_LP [] Inv (fun g=>ro1_R g.1 g.2.1 g.2.2) (fun g=>ro1_side g.1 g.2.1 g.2.2) m default [.exit 0] ro1_one (fun rd T B HL HB ds g=>by kernel_rfl) (fun rd T B HL HB ds g=>by kernel_rfl) hs hg ro1_es
abbrev ic_G:Type:=List T×List T×Int×Int×Int
noncomputable def ic_LP:LP 0 ic_G:=.pair (.slot 0 0 dLT) (.pair (.slot 0 1 dFl) (.pair (.slot 0 7 dI) (.pair (.slot 0 8 dI) (.slot 0 4 dI))))
noncomputable def ic_R (xs:List T) (l:List T) (n:Int) (i:Int) (r:Int):Ex×ic_G:=
 bif decide (i<n) then bif !(eT.lst l.length (eT.els l)).any fun x=>tleq_F x (xs.getD i.toNat eT.dflt) then (Ex.ret,eT.lst xs.length (eT.els xs),eT.lst l.length (eT.els l),n,i,i) else (Ex.normal,eT.lst xs.length (eT.els xs),eT.lst l.length (eT.els l),n,IntKind.i64.wrap (i+(1:Int)),r)
 else (Ex.exit (0:Nat),eT.lst xs.length (eT.els xs),eT.lst l.length (eT.els l),n,i,r)
def ic_side (xs:List T) (l:List T) (n:Int) (i:Int) (r:Int):Prop:=
 (decide (i<n)=true→((0:Int)≤i∧i<(↑xs.length:Int))∧(∀ (e:Nat),e<l.length→eT.Ok (eT.els l e))∧((!(eT.lst l.length (eT.els l)).any fun x=>tleq_F x (xs.getD i.toNat eT.dflt))=true→(∀ (e:Nat),e<xs.length→eT.Ok (eT.els xs e))∧∀ (e:Nat),e<l.length→eT.Ok (eT.els l e))∧((!(eT.lst l.length (eT.els l)).any fun x=>tleq_F x (xs.getD i.toNat eT.dflt))=false→(∀ (e:Nat),e<xs.length→eT.Ok (eT.els xs e))∧∀ (e:Nat),e<l.length→eT.Ok (eT.els l e)))∧(decide (i<n)=false→(∀ (e:Nat),e<xs.length→eT.Ok (eT.els xs e))∧∀ (e:Nat),e<l.length→eT.Ok (eT.els l e))
theorem ic_one:((loopsOf Try.prog 120).filter fun c=>Nat.beq (lkey c) 2).length=1:=by kernel_rfl
abbrev ic_GC:Type:=List T×List T×Int
abbrev ic_GB:Type:=Int
def ic_f (g:ic_G):Int×ic_GC×ic_GB:=(g.2.2.2.1,(g.1,g.2.1,g.2.2.1),g.2.2.2.2)
def ic_g (d:Int×ic_GC×ic_GB):ic_G:=(d.2.1.1,d.2.1.2.1,d.2.1.2.2,d.1,d.2.2)
theorem ic_es (g:ic_G):(ic_R g.1 g.2.1 g.2.2.1 g.2.2.2.1 g.2.2.2.2).1=.normal∨(ic_R g.1 g.2.1 g.2.2.1 g.2.2.2.1 g.2.2.2.2).1∈([.ret,.exit 0]:List Ex):=by
 unfold ic_R
 repeat' (first | (left;rfl) | (right;simp only[cond_true,cond_false];simp;done) | (rw[Bool.cond_eq_ite];split))
noncomputable abbrev ic_C (Inv:ic_G→List Prop) (m:ic_G→Nat):LCon:=loopR [.ret,.exit 0] (loopBody Try.prog 120 2) ic_LP [] 19 Inv (fun g=>ic_R g.1 g.2.1 g.2.2.1 g.2.2.2.1 g.2.2.2.2) m
theorem ic_loop (Inv:ic_G→List Prop) (m:ic_G→Nat) (hs:∀ g,allP (Inv g)→ic_side g.1 g.2.1 g.2.2.1 g.2.2.2.1 g.2.2.2.2) (hg:Goes (fun g:ic_G=>ic_R g.1 g.2.1 g.2.2.1 g.2.2.2.1 g.2.2.2.2) m fun g=>allP (Inv g)):∀ b∈loopsOf Try.prog 120,lkey b=2→LoopOk Try.prog b (ic_C Inv m).g:=loop_run (Γ:=(PTab.gamz tabR [] [])) (Λ:=lamK) (PTab.okz tabR [] []) lamK_ok 100 120 2 19 ic_LP [] Inv (fun g=>ic_R g.1 g.2.1 g.2.2.1 g.2.2.2.1 g.2.2.2.2) (fun g=>ic_side g.1 g.2.1 g.2.2.1 g.2.2.2.1 g.2.2.2.2) m default [.ret,.exit 0] ic_one (fun rd T B HL HB ds g=>by kernel_rfl) (fun rd T B HL HB ds g=>by kernel_rfl) hs hg ic_es
end Go.Proofs.Ytiipneclghnfhaa

namespace Go.Proofs.Ytiipneclghnfhaa
open Go.RowKit Go.Sx Go.Lp
theorem any_take {α:Type} (d:α) (l:List α) (i:Nat) (p:α→Bool):(l.take i).any p=false↔∀ j,j<i→j<l.length→p (l.getD j d)=false:=by
 rw[List.any_eq_false]
 constructor
 ·intro h j h1 h2
  have:l.getD j d∈l.take i:=by
   rw[List.getD_eq_getElem?_getD,List.getElem?_eq_getElem h2]
   exact List.mem_take_iff_getElem.2 ⟨j,by omega,rfl⟩
  simpa using h _ this
 ·intro h x hx
  obtain ⟨j,hj,rfl⟩:=List.mem_take_iff_getElem.1 hx
  have:=h j (by omega) (by omega)
  rw[List.getD_eq_getElem?_getD,List.getElem?_eq_getElem (by omega)] at this
  simpa using this
theorem clashes_false (l:List T):clashes l=false↔∀ k j,k<l.length→j<k→clash (l.getD j eT.dflt) (l.getD k eT.dflt)=false:=by
 unfold clashes
 rw[List.any_eq_false]
 constructor
 ·intro h k j hk hj
  have:=h k (List.mem_range.2 hk)
  rw[Bool.not_eq_true,any_take eT.dflt] at this
  exact this j hj (by omega)
 ·intro h k hk
  have hk:=List.mem_range.1 hk
  rw[Bool.not_eq_true,any_take eT.dflt]
  exact fun j hj _=>h k j hk hj
theorem rkany_false (l:List T):rkany l=false↔∀ k,k<l.length→(0<k→tcmp_F (l.getD (k - 1) eT.dflt) (l.getD k eT.dflt)<0)∧∀ j,j<l.length→j≠k→tleq_F (l.getD j eT.dflt) (l.getD k eT.dflt)=false:=by
 unfold rkany rkbad rkin
 rw[List.any_eq_false]
 constructor
 ·intro h k hk
  have:=h k (List.mem_range.2 hk)
  simp only[Bool.or_eq_true,not_or,Bool.and_eq_true,decide_eq_true_eq,not_and,List.any_eq_true,not_exists,List.mem_range,Bool.not_eq_true] at this
  exact ⟨fun h0=>Int.not_le.1 (this.1 h0),fun j hj hn=>this.2 j hj hn⟩
 ·intro h k hk
  have hk:=List.mem_range.1 hk
  obtain ⟨h1,h2⟩:=h k hk
  simp only[Bool.or_eq_true,not_or,Bool.and_eq_true,decide_eq_true_eq,not_and,List.any_eq_true,not_exists,List.mem_range,Bool.not_eq_true]
  exact ⟨fun h0=>Int.not_le.2 (h1 h0),fun j hj hn=>h2 j hj hn⟩
theorem clash_false (u v:T):clash u v=false↔tcmp_F u v<0∧tleq_F u v=false∧tleq_F v u=false:=by
 unfold clash
 simp only[Bool.or_eq_false_iff,decide_eq_false_iff_not,ge_iff_le,Int.not_le]
theorem rk_clashes (l:List T):rkany l=clashes l:=by
 have h:rkany l=false↔clashes l=false:=by
  rw[rkany_false,clashes_false]
  constructor
  ·intro h
   have hlt:∀ k j,k<l.length→j<k→tcmp_F (l.getD j eT.dflt) (l.getD k eT.dflt)<0:=by
    intro k
    induction k with
    | zero=>intro j _ hj;omega
    | succ k ih=>
     intro j hk hj
     have h1:=(h (k+1) hk).1 (by omega)
     simp only[Nat.add_sub_cancel] at h1
     by_cases hjk:j=k
     ·rw[hjk];exact h1
     ·exact toT.trans (ih j (by omega) (by omega)) h1
   intro k j hk hj
   exact (clash_false _ _).2 ⟨hlt k j hk hj,(h k hk).2 j (by omega) (by omega),(h j (by omega)).2 k hk (by omega)⟩
  ·intro h k hk
   refine ⟨fun h0=>((clash_false _ _).1 (h k (k - 1) hk (by omega))).1,fun j hj hn=>?_⟩
   rcases Nat.lt_or_ge j k with hlt | hge
   ·exact ((clash_false _ _).1 (h k j hk hlt)).2.1
   ·exact ((clash_false _ _).1 (h j k hj (by omega))).2.2
 cases h1:rkany l with
 | false=>exact (h.1 h1).symm
 | true=>
  cases h2:clashes l with
  | true=>rfl
  | false=>rw[h.2 h2] at h1;cases h1
theorem rchk_eq (xs:List T) (h:xs.length≤maxLen):rchk_F xs=chkC xs∧rchk_side xs:=by
 unfold rchk_F rchk_side rchk_q1 chkC
 simp only[eT.lst_els]
 have hr:=rk1_run xs h 0
 rw[rk_clashes] at hr
 refine ⟨?_,fun _=>⟨okT xs,fun _=>⟨okT xs,ixJ0 rfl h trivial⟩⟩⟩
 have h1:(loopF (fun g:rk1_G=>rk1_R g.1 g.2.1 g.2.2) rk1_M (xs,0,0)).1=_:=hr.1
 have h2:(loopF (fun g:rk1_G=>rk1_R g.1 g.2.1 g.2.2) rk1_M (xs,0,0)).2.2.2=_:=hr.2
 rw[h1,h2]
 cases clashes xs <;> rfl
theorem rchk_ok:FnPure Try.prog 22 aL dI chkC (fun _=>[]):=
 pure_congr (rchk_okS (fun _=>[]) fun g hb _=>(rchk_eq g hb.1).2) fun g hb _=>(rchk_eq g hb.1).1
noncomputable def leqC (ys xs:List T):Bool:=xs.all fun v=>ys.any (tleq_F · v)
theorem any_not_all {α:Type} (p:α→Bool):∀ l:List α,(l.any fun v=>!p v)=!(l.all p)
 | []=>rfl
 | a :: l=>by simp only[List.any_cons,List.all_cons,any_not_all p l,Bool.not_and]
theorem rlq_eq (ys xs:List T) (h:xs.length≤maxLen):rlq_F ys xs=leqC ys xs:=by
 unfold rlq_F rlq_q1 leqC
 simp only[eT.lst_els]
 have h1:loopF (fun g:rl_G=>rl_R g.1 g.2.1 g.2.2.1 g.2.2.2) rl_M (ys,xs,0,false)=_:=rl_run (ys,xs) false rfl h trivial
 rw[h1]
 have hn:=any_not_all (fun v=>ys.any (tleq_F · v)) xs
 rcases search (x:=0) (st:=rl_S (ys,xs)) (p:=fun v=>!ys.any (tleq_F · v)) (r:=fun _ _ _=>false) (fun _ _ _=>rfl) xs false with ⟨ha,j,hj,a,_,_,h2⟩ | ⟨ha,h2⟩
 ·have h2:scan 0 (rl_S (ys,xs)) 0 xs false=_:=h2
  rw[ha] at hn
  rw[h2,show (xs.all fun v=>ys.any (tleq_F · v))=false by simpa using hn.symm];rfl
 ·have h2:scan 0 (rl_S (ys,xs)) 0 xs false=_:=h2
  rw[ha] at hn
  rw[h2,show (xs.all fun v=>ys.any (tleq_F · v))=true by simpa using hn.symm];rfl
theorem rlq_ok:FnPure Try.prog 56 aLL dBool (fun g=>leqC g.1 g.2) (fun _=>[]):=by
 refine pure_congr (rlq_okS (fun _=>[]) fun g hb _=>?_) fun g hb _=>rlq_eq g.1 g.2 hb.2.1
 obtain ⟨ys,xs⟩:=g
 have hl:xs.length≤maxLen:=hb.2.1
 show rlq_side ys xs
 unfold rlq_side
 simp only[eT.lst_els]
 exact ⟨okT ys,okT xs,ixJ0 rfl hl trivial⟩
theorem ro2_fold (v:T):∀ (l:List T) (z:Bool),l.foldl (fun z u=>!(!eqT u v&&rtleq_F u v)&&z) z=(z&&isMin tleq_F l v)
 | [],z=>by simp[isMin]
 | a :: l,z=>by
  rw[List.foldl_cons,ro2_fold v l]
  unfold isMin eqT
  simp only[List.any_cons,rtleq_eq]
  cases hc:decide (a=v) with
  | true=>
   have hc:=of_decide_eq_true hc
   simp[hc]
  | false=>
   have hc:=of_decide_eq_false hc
   simp only[ne_eq,hc,not_false_eq_true,decide_true,Bool.true_and,Bool.not_false,Bool.not_or]
   cases tleq_F a v <;> cases z <;> simp
theorem ro1_q (xs out:List T) (i:Int) (hi:0≤i∧i<(xs.length:Int)) (hm:xs.length≤maxLen):ro1_q1 xs out i=(.exit 2,xs,i,!decide (xs.getD i.toNat eT.dflt∈out)&&isMin tleq_F xs (xs.getD i.toNat eT.dflt),(xs.length:Int),out):=by
 unfold ro1_q1
 simp only[eT.lst_els]
 generalize hz:(!decide (xs.getD i.toNat eT.dflt∈out))=z0
 have h1:loopF (fun g:ro2_G=>ro2_R g.1 g.2.1 g.2.2.1 g.2.2.2.1 g.2.2.2.2) ro2_M (xs,i,z0,0,out)=_:=ro2_run (xs,i,out) z0 rfl hm hi
 rw[h1]
 have hs:=scan_fold (x:=2) (st:=ro2_S (xs,i,out)) (f:=fun (z:Bool) u=>!(!eqT u (xs.getD i.toNat eT.dflt)&&rtleq_F u (xs.getD i.toNat eT.dflt))&&z) (fun _ _ _=>rfl) xs 0 z0
 have hs:scan 2 (ro2_S (xs,i,out)) 0 xs z0=_:=hs
 rw[ro2_fold] at hs
 show ((scan 2 (ro2_S (xs,i,out)) 0 xs z0).1,ro2_g ((scan 2 (ro2_S (xs,i,out)) 0 xs z0).2.1,(xs,i,out),(scan 2 (ro2_S (xs,i,out)) 0 xs z0).2.2))=_
 rw[hs,Int.zero_add]
 rfl
noncomputable def ro_st (xs out:List T) (v:T):List T:=bif !decide (v∈out)&&isMin tleq_F xs v then insP v out else out
noncomputable def ro1_S (c:ro1_GC) (b:ro1_GB) (_:Int) (v:T):Ex×ro1_GB:=(.normal,ro_st c b v)
def ro1_K (c:ro1_GC) (b:ro1_GB) (i:Int):Prop:=List.length c≤KS∧(List.length b:Int)≤i
abbrev ro1_I (g:ro1_G):List Prop:=ixI (fun c:ro1_GC=>(List.length c:Int)) (fun c=>c) ro1_K (ro1_f g)
abbrev ro1_M (g:ro1_G):Nat:=ixM (fun c:ro1_GC=>(List.length c:Int)) (ro1_f g)
theorem ro_len (xs out:List T) (v:T):(ro_st xs out v).length≤out.length+1:=by
 unfold ro_st
 generalize (!decide (v∈out)&&isMin tleq_F xs v)=c
 cases c with
 | true=>simp only[cond_true,insP_len];omega
 | false=>simp only[cond_false];omega
theorem ro1_P:ixP ro1_S (fun c:ro1_GC=>c) ro1_K:=by
 rintro xs out i a ⟨h1,h2⟩ _ _
 have:=ro_len xs out a
 have h2:(List.length out:Int)≤(i:Int):=h2
 exact ⟨h1,by show ((ro_st xs out a).length:Int)≤(i:Int)+1;omega⟩
noncomputable abbrev ro1_RR (g:ro1_G):Ex×ro1_G:=ro1_R g.1 g.2.1 g.2.2
theorem ro1_RF (d:Int×ro1_GC×ro1_GB) (hi:allP (ixI (fun c:ro1_GC=>(List.length c:Int)) (fun c=>c) ro1_K d)):ro1_RR (ro1_g d)=((ixF 0 (fun c:ro1_GC=>(List.length c:Int)) (fun c=>c) eT.dflt ro1_S d).1,ro1_g (ixF 0 (fun c:ro1_GC=>(List.length c:Int)) (fun c=>c) eT.dflt ro1_S d).2):=by
 obtain ⟨h1,h2,h3,h4,h5⟩:=hi _ (List.mem_cons_self ..)
 obtain ⟨i,xs,out⟩:=d
 have h3:0≤i:=h3
 have h2:xs.length≤maxLen:=h2
 show ro1_R xs out i=_
 unfold ro1_R ixF ro1_S ro_st
 by_cases hc:i<(xs.length:Int)
 ·rw[ro1_q xs out i ⟨h3,hc⟩ h2]
  simp only[hc,decide_true,cond_true,eT.lst_els,eT.lst_bif]
  rfl
 ·simp only[hc,decide_false,cond_false,eT.lst_els]
  rfl
theorem ok_bif (z:Bool) (a b:List T):∀ e:Nat,(e<bif z then a.length else b.length)→eT.Ok ((bif z then eT.els a else eT.els b) e):=by
 cases z with
 | true=>exact okT a
 | false=>exact okT b
theorem ro1_ok:∀ b∈loopsOf Try.prog 31,lkey b=6→LoopOk Try.prog b (ro1_C ro1_I ro1_M).g:=by
 refine ro1_loop ro1_I ro1_M (fun g hi=>?_) (ix_conj_goes (fun _=>rfl) (fun _=>rfl) ro1_RF ro1_P)
 obtain ⟨xs,out,i⟩:=g
 obtain ⟨h1,h2,h3,h4,h5,h6⟩:=hi _ (List.mem_cons_self ..)
 have h2:xs.length≤maxLen:=h2
 have h3:0≤i:=h3
 have h5:xs.length≤KS:=h5
 have h6:(out.length:Int)≤i:=h6
 have h4:i≤(xs.length:Int):=h4
 have ka:=okT xs
 have kb:=okT out
 show ro1_side xs out i
 unfold ro1_side
 refine ⟨fun hc=>?_,fun _=>⟨ka,kb⟩⟩
 have hc:i<(xs.length:Int):=of_decide_eq_true hc
 rw[ro1_q xs out i ⟨h3,hc⟩ h2]
 simp only[eT.lst_els]
 exact ⟨⟨h3,hc⟩,kb,ka,kb,ixJ0 rfl h2 ⟨h3,hc⟩,fun _=>⟨h3,hc⟩,fun _=>kb,fun _=>by omega,ka,ok_bif _ _ _⟩
noncomputable def tabS:PTab Try.prog:=(tabR.cons 22 (pconP aL dI chkC (fun _=>[])) (conP_ok rchk_ok puI)).cons 56 (pconP aLL dBool (fun g=>leqC g.1 g.2) (fun _=>[])) (conP_ok rlq_ok puB)
noncomputable def ltM:LTab Try.prog:=ltK.cons 31 6 (ro1_C ro1_I ro1_M) ro1_ok
noncomputable abbrev lamM:Lam:=ltM.lam
theorem lamM_ok:∀ f k L,lamM f k=some L→∀ b∈loopsOf Try.prog f,lkey b=k→LoopOk Try.prog b L.g:=ltM.ok
end Go.Proofs.Ytiipneclghnfhaa

namespace Go.Proofs.Ytiipneclghnfhaa
open Go.RowKit Go.Sx
set_option maxRecDepth 100000
set_option linter.unusedVariables false
abbrev dLE:Dv (List T×Int):=.tup (.cons dLT (.one dI))
noncomputable def rof_q1 (xs:List T):Ex ×
 ro1_G:=
 loopF (fun g=>ro1_R g.fst g.snd.fst g.snd.snd) ro1_M (eT.lst xs.length (eT.els xs),[],(0:Int))
noncomputable def rof_F (xs:List T):Dv.T dLE:=
 bif badC (eT.lst xs.length (eT.els xs)) != (0:Int) then ([],badC (eT.lst xs.length (eT.els xs)))
 else bif decide ((↑(rof_q1 xs).snd.snd.fst.length:Int) > (1024:Int)) then ([],(3:Int)) else (eT.lst (rof_q1 xs).snd.snd.fst.length (eT.els (rof_q1 xs).snd.snd.fst),(0:Int))
def rof_side (xs:List T):Prop:=
 (∀ (e:Nat),e<xs.length→eT.Ok (eT.els xs e))∧((badC (eT.lst xs.length (eT.els xs)) != (0:Int))=false→(∀ (e:Nat),e<xs.length→eT.Ok (eT.els xs e))∧Lp.ixJ (fun c=>(↑(List.length c):Int)) (fun c=>c) ro1_K (ro1_f (eT.lst xs.length (eT.els xs),[],(0:Int)))∧(decide ((↑(rof_q1 xs).snd.snd.fst.length:Int) > (1024:Int))=false→∀ (e:Nat),e<(rof_q1 xs).snd.snd.fst.length→eT.Ok (eT.els (rof_q1 xs).snd.snd.fst e)))
theorem rof_okS (pre:DA.T aL→List Prop) (h:∀ g,DA.bd aL g→(∀ p∈pre g,p)→rof_side g):FnPure Try.prog 31 aL dLE (fun g=>rof_F g) pre:=pure_of_sideS (Γ:=(PTab.gamz tabS [] [])) (Λ:=lamM) (PTab.okz tabS [] []) lamM_ok 100 default (fun g=>rof_side g) (fun g=>by kernel_rfl) (fun g=>by kernel_rfl) h
end Go.Proofs.Ytiipneclghnfhaa

namespace Go.Proofs.Ytiipneclghnfhaa
open Go.RowKit Go.Sx Go.Lp
set_option maxRecDepth 100000
noncomputable def ic_S (c:ic_GC) (b:ic_GB) (i:Int) (v:T):Ex×ic_GB:=bif !c.2.1.any fun x=>tleq_F x v then (.ret,i) else (.normal,b)
def ic_K (c:ic_GC) (b:ic_GB) (i:Int):Prop:=True
abbrev ic_I (g:ic_G):List Prop:=ixI (fun c:ic_GC=>c.2.2) (fun c:ic_GC=>c.1) ic_K (ic_f g)
abbrev ic_M (g:ic_G):Nat:=ixM (fun c:ic_GC=>c.2.2) (ic_f g)
theorem ic_P:ixP ic_S (fun c:ic_GC=>c.1) ic_K:=fun _ _ _ _ h _ _=>h
noncomputable abbrev ic_RR (g:ic_G):Ex×ic_G:=ic_R g.1 g.2.1 g.2.2.1 g.2.2.2.1 g.2.2.2.2
theorem ic_RF (d:Int×ic_GC×ic_GB) (_:allP (ixI (fun c:ic_GC=>c.2.2) (fun c:ic_GC=>c.1) ic_K d)):ic_RR (ic_g d)=((ixF 0 (fun c:ic_GC=>c.2.2) (fun c:ic_GC=>c.1) eT.dflt ic_S d).1,ic_g (ixF 0 (fun c:ic_GC=>c.2.2) (fun c:ic_GC=>c.1) eT.dflt ic_S d).2):=by
 obtain ⟨i,⟨xs,l,n⟩,r⟩:=d
 show ic_R xs l n i r=_
 unfold ic_R ixF ic_S
 simp only[eT.lst_els]
 cases decide (i<n) with
 | false=>rfl
 | true=>
  simp only[cond_true]
  generalize (!l.any fun x=>tleq_F x (xs.getD i.toNat eT.dflt))=z
  cases z <;> rfl
theorem ic_ok:∀ b∈loopsOf Try.prog 120,lkey b=2→LoopOk Try.prog b (ic_C ic_I ic_M).g:=by
 refine ic_loop ic_I ic_M (fun g hi=>?_) (ix_conj_goes (fun _=>rfl) (fun _=>rfl) ic_RF ic_P)
 obtain ⟨xs,l,n,i,r⟩:=g
 obtain ⟨h1,h2,h3,h4,h5⟩:=hi _ (List.mem_cons_self ..)
 have h1:n=(xs.length:Int):=h1
 have h3:0≤i:=h3
 have h5:True:=h5
 show ic_side xs l n i r
 unfold ic_side
 simp only[decide_eq_true_eq,decide_eq_false_iff_not]
 have k0:∀ e:Nat,e<xs.length→eT.Ok (eT.els xs e):=fun e _=>eT.ok_els xs e
 have k1:∀ e:Nat,e<l.length→eT.Ok (eT.els l e):=fun e _=>eT.ok_els l e
 clear hi
 repeat' (first | exact k0 | exact k1 | apply And.intro | intro _)
 all_goals omega
theorem ic_run (c:ic_GC) (b:ic_GB) (k1:c.2.2=((c.1).length:Int)) (k2:(c.1).length≤maxLen) (k3:ic_K c b 0):loopF ic_RR ic_M (ic_g (0,c,b))=((scan 0 (ic_S c) 0 (c.1) b).1,ic_g ((scan 0 (ic_S c) 0 (c.1) b).2.1,c,(scan 0 (ic_S c) 0 (c.1) b).2.2)):=ix_conj_run (φ:=ic_f) (ψ:=ic_g) (fun _=>rfl) (fun _=>rfl) ic_RF ic_P c b k1 k2 k3
noncomputable def ltC:LTab Try.prog:=(LTab.nil.cons 120 2 (ic_C ic_I ic_M) ic_ok)
noncomputable abbrev lamC:Lam:=ltC.lam
theorem lamC_ok:∀ f k L,lamC f k=some L→∀ b∈loopsOf Try.prog f,lkey b=k→LoopOk Try.prog b L.g:=ltC.ok
end Go.Proofs.Ytiipneclghnfhaa

namespace Go.Proofs.Ytiipneclghnfhaa
open Go.RowKit Go.Sx
set_option maxRecDepth 100000
set_option linter.unusedVariables false
noncomputable def ixc_q1 (xs:List T) (l:List T):Ex ×
 ic_G:=
 loopF (fun g=>ic_R g.fst g.snd.fst g.snd.snd.fst g.snd.snd.snd.fst g.snd.snd.snd.snd) ic_M (eT.lst xs.length (eT.els xs),eT.lst l.length (eT.els l),(↑xs.length:Int),(0:Int),(0:Int))
noncomputable def ixc_F (xs:List T) (l:List T):Dv.T dI:=
 bif exB Ex.ret (ixc_q1 xs l).fst then (ixc_q1 xs l).snd.snd.snd.snd.snd else (-1:Int)
def ixc_side (xs:List T) (l:List T):Prop:=
 (∀ (e:Nat),e<xs.length→eT.Ok (eT.els xs e))∧(∀ (e:Nat),e<l.length→eT.Ok (eT.els l e))∧Lp.ixJ (fun c=>c.snd.snd) (fun c=>c.fst) ic_K (ic_f (eT.lst xs.length (eT.els xs),eT.lst l.length (eT.els l),(↑xs.length:Int),(0:Int),(0:Int)))
theorem ixc_okS (pre:DA.T aFl→List Prop) (h:∀ g,DA.bd aFl g→(∀ p∈pre g,p)→ixc_side g.1 g.2):FnPure Try.prog 120 aFl dI (fun g=>ixc_F g.1 g.2) pre:=pure_of_sideS (Γ:=(PTab.gamz tabS [] [])) (Λ:=lamC) (PTab.okz tabS [] []) lamC_ok 100 default (fun g=>ixc_side g.1 g.2) (fun g=>by kernel_rfl) (fun g=>by kernel_rfl) h
end Go.Proofs.Ytiipneclghnfhaa

namespace Go.Proofs.Ytiipneclghnfhaa
open Go.RowKit Go.Sx Go.Lp
noncomputable abbrev cfT (a b:T):Int:=tcmp_F a b
noncomputable def minsT (xs:List T):List T:=mins cfT tleq_F xs
theorem insU_same (v:T):∀ {b:List T},b.Pairwise (fun x y=>cfT x y<0)→v∈b→insU cfT v b=b
 | y :: r,hs,hv=>by
  rw[List.pairwise_cons] at hs
  unfold insU
  by_cases h:y=v
  ·rw[if_pos h]
  ·have hr:v∈r:=by
    rcases List.mem_cons.1 hv with e | e
    ·exact absurd e.symm h
    ·exact e
   rw[if_neg h,if_neg (toT.asymm (hs.1 v hr)),insU_same v hs.2 hr]
theorem ro_st_eq (xs:List T) {b:List T} (hs:b.Pairwise (fun x y=>cfT x y<0)) (v:T):ro_st xs b v=if isMin tleq_F xs v=true then insU cfT v b else b:=by
 unfold ro_st
 by_cases hv:v∈b
 ·rw[insU_same v hs hv]
  simp[hv]
 ·rw[insP_U v hv]
  simp only[hv,decide_false,Bool.not_false,Bool.true_and]
  cases isMin tleq_F xs v <;> rfl
theorem ro_fold (xs:List T):∀ (l:List T) (b:List T),b.Pairwise (fun x y=>cfT x y<0)→l.foldl (ro_st xs) b=(l.filter (isMin tleq_F xs)).foldl (fun l s=>insU cfT s l) b
 | [],_,_=>rfl
 | v :: l,b,hs=>by
  rw[List.foldl_cons,ro_st_eq xs hs,List.filter_cons]
  split
  ·rw[List.foldl_cons]
   exact ro_fold xs l _ (insU_strict toT hs)
  ·exact ro_fold xs l _ hs
theorem ro_mins (xs:List T):xs.foldl (ro_st xs) []=minsT xs:=by
 unfold minsT
 rw[mins_put toT]
 exact ro_fold xs xs [] List.Pairwise.nil
noncomputable def ofC (xs:List T):List T×Int:=bif badC xs != 0 then ([],badC xs) else bif decide (((minsT xs).length:Int) > 1024) then ([],3) else (minsT xs,0)
theorem rof_eq (xs:List T) (h:xs.length≤KS):rof_F xs=ofC xs∧rof_side xs:=by
 have hm:xs.length≤maxLen:=by unfold KS at h;unfold maxLen;omega
 unfold rof_F rof_side rof_q1 ofC
 simp only[eT.lst_els]
 have h1:loopF (fun g:ro1_G=>ro1_R g.1 g.2.1 g.2.2) ro1_M (xs,[],0)=_:=ix_conj_run (φ:=ro1_f) (ψ:=ro1_g) (fun _=>rfl) (fun _=>rfl) ro1_RF ro1_P xs [] rfl hm ⟨h,Int.le_refl _⟩
 have hs:=scan_fold (x:=0) (st:=ro1_S xs) (f:=ro_st xs) (fun _ _ _=>rfl) xs 0 []
 rw[ro_mins] at hs
 have h2:(loopF (fun g:ro1_G=>ro1_R g.1 g.2.1 g.2.2) ro1_M (xs,[],0)).2.2.1=minsT xs:=by
  rw[h1]
  exact congrArg (·.2.2) hs
 rw[h2]
 exact ⟨rfl,okT xs,fun _=>⟨okT xs,ixJ0 rfl hm ⟨h,Int.le_refl _⟩,fun _=>okT _⟩⟩
theorem rof_ok:FnPure Try.prog 31 aL dLE ofC (fun g=>[g.length≤KS]):=
 pure_congr (rof_okS _ fun g _ hp=>(rof_eq g (hp _ (List.mem_cons_self ..))).2) fun g _ hp=>(rof_eq g (hp _ (List.mem_cons_self ..))).1
theorem ixc_pos (xs l:List T) (h:xs.length≤maxLen):decide (ixc_F xs l≥0)=xs.any (fun v=>!l.any (tleq_F · v)):=by
 unfold ixc_F ixc_q1
 simp only[eT.lst_els]
 have h1:loopF (fun g:ic_G=>ic_R g.1 g.2.1 g.2.2.1 g.2.2.2.1 g.2.2.2.2) ic_M (xs,l,(xs.length:Int),0,0)=_:=ic_run (xs,l,(xs.length:Int)) (0:Int) rfl h trivial
 rw[h1]
 rcases search (x:=0) (st:=ic_S (xs,l,(xs.length:Int))) (p:=fun v=>!l.any (tleq_F · v)) (r:=fun i _ _=>i) (fun _ _ _=>rfl) xs 0 with ⟨ha,j,hj,a,_,_,h2⟩ | ⟨ha,h2⟩
 ·have h2:scan 0 (ic_S (xs,l,(xs.length:Int))) 0 xs 0=_:=h2
  rw[h2,ha]
  show decide (j≥0)=true
  exact decide_eq_true hj
 ·have h2:scan 0 (ic_S (xs,l,(xs.length:Int))) 0 xs 0=_:=h2
  rw[h2,ha]
  rfl
theorem ixc_ok:FnPure Try.prog 120 aFl dI (fun g=>ixc_F g.1 g.2) (fun _=>[]):=
 ixc_okS _ fun g hb _=>by
  obtain ⟨xs,l⟩:=g
  have hl:xs.length≤maxLen:=hb.1.1
  show ixc_side xs l
  unfold ixc_side
  simp only[eT.lst_els]
  exact ⟨okT xs,okT l,ixJ0 rfl hl trivial⟩
noncomputable def tabU:PTab Try.prog:=tabS.cons 120 (pconP aFl dI (fun g=>ixc_F g.1 g.2) (fun _=>[])) (conP_ok ixc_ok puI)
end Go.Proofs.Ytiipneclghnfhaa

namespace Go.Proofs.Ytiipneclghnfhaa
open Go.RowKit Go.Sx Go.Lp
noncomputable def of1_st (b:List T) (v:T):List T:=bif b.any (tleq_F · v) then b else b++[v]
noncomputable def of1_S (_:of1_GC) (b:of1_GB) (_:Int) (v:T):Ex×of1_GB:=(.normal,of1_st b v)
def of1_K (c:of1_GC) (b:of1_GB) (i:Int):Prop:=c.1.length≤KS∧(List.length b:Int)≤i
abbrev of1_I (g:of1_G):List Prop:=ixI (fun c:of1_GC=>c.2) (fun c=>c.1) of1_K (of1_f g)
abbrev of1_M (g:of1_G):Nat:=ixM (fun c:of1_GC=>c.2) (of1_f g)
theorem of1_P:ixP of1_S (fun c:of1_GC=>c.1) of1_K:=by
 rintro ⟨ys,n⟩ b i a ⟨h1,h2⟩ _ _
 refine ⟨h1,?_⟩
 have h2:(List.length b:Int)≤(i:Int):=h2
 show (List.length (of1_st b a):Int)≤(i:Int)+1
 unfold of1_st
 cases b.any (tleq_F · a) <;> simp <;> omega
theorem of1_q (out ys:List T) (n i:Int) (hm:out.length≤maxLen):∃ j,of1_q1 out ys n i=bif out.any (tleq_F · (ys.getD i.toNat eT.dflt)) then (.ret,(out.length:Int),j,(),ys.getD i.toNat eT.dflt,out.length,out,(.done,some (.exit 1))) else (.exit 0,(out.length:Int),j,(),ys.getD i.toNat eT.dflt,out.length,out,(.ready,none)):=by
 unfold of1_q1
 rw[eT.lst_els]
 exact ea_run (out.length:Int) (ys.getD i.toNat eT.dflt) out rfl hm
noncomputable abbrev of1_RR (g:of1_G):Ex×of1_G:=of1_R g.1 g.2.1 g.2.2.1 g.2.2.2
theorem of1_RF (d:Int×of1_GC×of1_GB) (hi:allP (ixI (fun c:of1_GC=>c.2) (fun c=>c.1) of1_K d)):of1_RR (of1_g d)=((ixF 0 (fun c:of1_GC=>c.2) (fun c=>c.1) eT.dflt of1_S d).1,of1_g (ixF 0 (fun c:of1_GC=>c.2) (fun c=>c.1) eT.dflt of1_S d).2):=by
 obtain ⟨h1,h2,h3,h4,h5,h6⟩:=hi _ (List.mem_cons_self ..)
 obtain ⟨i,⟨ys,n⟩,out⟩:=d
 have h5:ys.length≤KS:=h5
 have h4:i≤(ys.length:Int):=h4
 have h6:(List.length out:Int)≤i:=h6
 have hm:out.length≤maxLen:=by unfold KS at h5;unfold maxLen;omega
 obtain ⟨j,hj⟩:=of1_q out ys n i hm
 show of1_R out ys n i=_
 unfold of1_R ixF of1_S of1_st
 rw[hj]
 simp only[eT.lst_els]
 cases decide (i<n) with
 | false=>rfl
 | true=>
  simp only[cond_true]
  generalize out.any (tleq_F · (ys.getD i.toNat eT.dflt))=z
  cases z
  ·simp only[cond_false]
   show (bif exB Ex.ret (.exit 0) then _ else _)=_
   simp only[eT.lst_els,lst_app1]
   rfl
  ·simp only[cond_true]
   show (bif exB Ex.ret .ret then _ else _)=_
   simp only[eT.lst_els]
   rfl
theorem of1_ok:∀ b∈loopsOf Try.prog 18,lkey b=8→LoopOk Try.prog b (of1_C of1_I of1_M).g:=by
 refine of1_loop of1_I of1_M (fun g hi=>?_) (ix_conj_goes (fun _=>rfl) (fun _=>rfl) of1_RF of1_P)
 obtain ⟨out,ys,n,i⟩:=g
 obtain ⟨h1,h2,h3,h4,h5,h6⟩:=hi _ (List.mem_cons_self ..)
 have h1:n=(ys.length:Int):=h1
 have h3:0≤i:=h3
 have h4:i≤(ys.length:Int):=h4
 have h5:ys.length≤KS:=h5
 have h6:(List.length out:Int)≤i:=h6
 unfold KS at h5
 have hm:out.length≤maxLen:=by unfold maxLen;omega
 obtain ⟨j,hj⟩:=of1_q out ys n i hm
 have ha:=okT ys
 have hx:=ixJ0 (lim:=fun c:ea_GC=>c.1) (xs:=fun c:ea_GC=>c.2.2.2) (P:=ea_K) (c:=((out.length:Int),ys.getD i.toNat eT.dflt,out.length,out)) (b:=((),LoopState.ready,none)) rfl hm ⟨rfl,rfl⟩
 show of1_side out ys n i
 unfold of1_side
 rw[hj]
 simp only[bytesT,decide_eq_true_eq,decide_eq_false_iff_not,eT.lst_els]
 clear hi
 refine ⟨fun hc=>⟨⟨h3,by omega⟩,fun _ _=>trivial,rfl,rfl,hx,fun _=>?_,fun _=>?_⟩,fun _=>⟨Nat.le_refl _,fun _ _=>trivial,ha⟩⟩
 ·cases out.any (tleq_F · (ys.getD i.toNat eT.dflt)) <;> exact ⟨Nat.le_refl _,fun _ _=>trivial,ha⟩
 ·have hl:out.length≤(bif out.any (tleq_F · (ys.getD i.toNat eT.dflt)) then ((Ex.ret,(out.length:Int),j,(),ys.getD i.toNat eT.dflt,out.length,out,(LoopState.done,some (Code.exit 1))):Ex×ea_G) else (.exit 0,(out.length:Int),j,(),ys.getD i.toNat eT.dflt,out.length,out,(.ready,none))).2.2.2.2.2.2.1.length:=by
   cases out.any (tleq_F · (ys.getD i.toNat eT.dflt)) <;> exact Nat.le_refl _
  exact ⟨⟨hl,trivial,by unfold maxLen;omega,by omega⟩,Nat.le_refl _,fun _ _=>trivial,fun _ _=>trivial,ha⟩
theorem of1_greedy:∀ (l b:List T),l.foldl of1_st b=greedy tleq_F b l
 | [],_=>rfl
 | v :: l,b=>by
  rw[List.foldl_cons,of1_greedy l]
  unfold of1_st
  rw[greedy]
end Go.Proofs.Ytiipneclghnfhaa

namespace Go.Proofs.Ytiipneclghnfhaa
open Go.RowKit Go.Sx
set_option maxRecDepth 100000
set_option linter.unusedVariables false
abbrev eb_G:Type:=Int×Int×Unit×T×Nat×List T×LoopState×Option Code
noncomputable def eb_LP:LP 7 eb_G:=.pair (.slot 7 6 dI) (.pair (.slot 7 7 dI) (.pair (.fix 7 0 (.yl 6)) (.pair (.obj 7 3 30 eT) (.pair (.owl 7 5 2) (.pair (.rowO 7 2 30 eT) (.rf 7 6 Try.prog 18 0 41 [(8,.p 3 0)] 5))))))
noncomputable def eb_R (n:Int) (i:Int) (_u:Unit) (t:T) (l:Nat) (out:List T):Ex×eb_G:=
 bif decide (i<n) then bif tleq_F (out.getD i.toNat eT.dflt) t then (Ex.ret,n,i,(),t,l,eT.lst out.length (eT.els out),LoopState.done,some (Code.exit (1:Nat))) else (Ex.normal,n,IntKind.i64.wrap (i+(1:Int)),(),t,l,eT.lst out.length (eT.els out),LoopState.ready,none)
 else (Ex.exit (0:Nat),n,i,(),t,l,eT.lst out.length (eT.els out),LoopState.ready,none)
def eb_side (n:Int) (i:Int) (_u:Unit) (t:T) (l:Nat) (out:List T):Prop:=
 (decide (i<n)=true→((0:Int)≤i∧i<(↑l:Int))∧i.toNat<out.length∧(tleq_F (out.getD i.toNat eT.dflt) t=true→(∀ (e:Nat),e<out.length→True)∧CodeIs (rangeOf Try.prog (18:Nat) (0:Nat)).snd.fst (rangeOf Try.prog (18:Nat) (0:Nat)).snd.fst∧CodeIs (rangeOf Try.prog (18:Nat) (0:Nat)).snd.snd (rangeOf Try.prog (18:Nat) (0:Nat)).snd.snd)∧(tleq_F (out.getD i.toNat eT.dflt) t=false→(∀ (e:Nat),e<out.length→True)∧CodeIs (rangeOf Try.prog (18:Nat) (0:Nat)).snd.fst (rangeOf Try.prog (18:Nat) (0:Nat)).snd.fst∧CodeIs (rangeOf Try.prog (18:Nat) (0:Nat)).snd.snd (rangeOf Try.prog (18:Nat) (0:Nat)).snd.snd))∧(decide (i<n)=false→(∀ (e:Nat),e<out.length→True)∧CodeIs (rangeOf Try.prog (18:Nat) (0:Nat)).snd.fst (rangeOf Try.prog (18:Nat) (0:Nat)).snd.fst∧CodeIs (rangeOf Try.prog (18:Nat) (0:Nat)).snd.snd (rangeOf Try.prog (18:Nat) (0:Nat)).snd.snd)
theorem eb_one:((loopsOf Try.prog 119).filter fun c=>Nat.beq (lkey c) 1).length=1:=by kernel_rfl
abbrev eb_GC:Type:=Int×T×Nat×List T
abbrev eb_GB:Type:=Unit×LoopState×Option Code
def eb_f (g:eb_G):Int×eb_GC×eb_GB:=(g.2.1,(g.1,g.2.2.2.1,g.2.2.2.2.1,g.2.2.2.2.2.1),(g.2.2.1,g.2.2.2.2.2.2))
def eb_g (d:Int×eb_GC×eb_GB):eb_G:=(d.2.1.1,d.1,d.2.2.1,d.2.1.2.1,d.2.1.2.2.1,d.2.1.2.2.2,d.2.2.2)
def eb_E:List ((Ex×eb_G→Bool)×Ex×(eb_G→eb_G)):=[(fun x=>exB (.ret) x.1,.ret,fun g=>(g.1,g.2.1,g.2.2.1,g.2.2.2.1,g.2.2.2.2.1,g.2.2.2.2.2.1,(.done,some (.exit 1)))),(fun x=>exB (.exit 0) x.1,.exit 0,fun g=>(g.1,g.2.1,g.2.2.1,g.2.2.2.1,g.2.2.2.2.1,g.2.2.2.2.2.1,(.ready,none)))]
theorem eb_es (g:eb_G):(eb_R g.1 g.2.1 g.2.2.1 g.2.2.2.1 g.2.2.2.2.1 g.2.2.2.2.2.1).1=.normal∨exitsOk (eb_R g.1 g.2.1 g.2.2.1 g.2.2.2.1 g.2.2.2.2.1 g.2.2.2.2.2.1) eb_E:=by
 unfold eb_R
 repeat' (first | (left;rfl) | (right;exact ⟨fun _=>⟨rfl,rfl⟩,fun h=>absurd h (by simp[exB,pdB])⟩) | (right;exact ⟨fun h=>absurd h (by simp[exB,pdB]),fun _=>⟨rfl,rfl⟩⟩) | (rw[Bool.cond_eq_ite];split))
noncomputable abbrev eb_C (Inv:eb_G→List Prop) (m:eb_G→Nat):LCon:=loopRS eb_E (loopBody Try.prog 119 1) eb_LP [] 16 Inv (fun g=>eb_R g.1 g.2.1 g.2.2.1 g.2.2.2.1 g.2.2.2.2.1 g.2.2.2.2.2.1) m
noncomputable def eb_i (g:eb_G):eb_G:=(g.1,g.2.1,g.2.2.1,g.2.2.2.1,g.2.2.2.2.1,g.2.2.2.2.2.1,(LoopState.ready,none))
theorem eb_loop (Inv:eb_G→List Prop) (m:eb_G→Nat) (hs:∀ g,allP (Inv g)→eb_side g.1 g.2.1 g.2.2.1 g.2.2.2.1 g.2.2.2.2.1 g.2.2.2.2.2.1) (hι:∀ g,allP (Inv g)→eb_i g=g) (hg:Goes (fun g:eb_G=>eb_R g.1 g.2.1 g.2.2.1 g.2.2.2.1 g.2.2.2.2.1 g.2.2.2.2.2.1) m fun g=>allP (Inv g)):∀ b∈loopsOf Try.prog 119,lkey b=1→LoopOk Try.prog b (eb_C Inv m).g:=loop_runS eb_i (Γ:=(MTab.gamz tabQ [] [])) (Λ:=noΛ) (MTab.okz tabQ [] []) noΛ_ok 100 119 1 16 eb_LP [] Inv (fun g=>eb_R g.1 g.2.1 g.2.2.1 g.2.2.2.1 g.2.2.2.2.1 g.2.2.2.2.2.1) (fun g=>eb_side g.1 g.2.1 g.2.2.1 g.2.2.2.1 g.2.2.2.2.1 g.2.2.2.2.2.1) m default eb_E eb_one (fun rd T B HL HB ds g=>by kernel_rfl) (fun rd T B HL HB ds g=>by kernel_rfl) hι hs hg eb_es
end Go.Proofs.Ytiipneclghnfhaa

namespace Go.Proofs.Ytiipneclghnfhaa
open Go.RowKit Go.Sx Go.Lp
noncomputable def eb_S (c:eb_GC) (_:eb_GB) (_:Int) (v:T):Ex×eb_GB:=bif tleq_F v c.2.1 then (.ret,(),.done,some (.exit 1)) else (.normal,(),.ready,none)
def eb_K (c:eb_GC) (b:eb_GB) (_:Int):Prop:=b.2=(LoopState.ready,(none:Option Code))∧c.2.2.1=c.2.2.2.length
abbrev eb_I (g:eb_G):List Prop:=ixI (fun c:eb_GC=>c.1) (fun c=>c.2.2.2) eb_K (eb_f g)
abbrev eb_M (g:eb_G):Nat:=ixM (fun c:eb_GC=>c.1) (eb_f g)
theorem eb_P:ixP eb_S (fun c:eb_GC=>c.2.2.2) eb_K:=by
 rintro ⟨n,t,l,out⟩ ⟨⟨⟩,st,pd⟩ i a hk _ hn
 unfold eb_S at hn ⊢
 cases hc:tleq_F a t with
 | true=>simp only[hc] at hn;cases hn
 | false=>exact ⟨rfl,hk.2⟩
noncomputable abbrev eb_RR (g:eb_G):Ex×eb_G:=eb_R g.1 g.2.1 g.2.2.1 g.2.2.2.1 g.2.2.2.2.1 g.2.2.2.2.2.1
theorem eb_RF (d:Int×eb_GC×eb_GB) (hi:allP (ixI (fun c:eb_GC=>c.1) (fun c=>c.2.2.2) eb_K d)):eb_RR (eb_g d)=((ixF 0 (fun c:eb_GC=>c.1) (fun c=>c.2.2.2) eT.dflt eb_S d).1,eb_g (ixF 0 (fun c:eb_GC=>c.1) (fun c=>c.2.2.2) eT.dflt eb_S d).2):=by
 obtain ⟨hb,hl⟩:=(hi _ (List.mem_cons_self ..)).2.2.2.2
 obtain ⟨i,⟨n,t,l,out⟩,⟨⟨⟩,st,pd⟩⟩:=d
 have hb:(st,pd)=(LoopState.ready,(none:Option Code)):=hb
 have hl:l=out.length:=hl
 subst hl
 cases hb
 show eb_R n i () t out.length out=_
 unfold eb_R ixF eb_S
 simp only[eT.lst_els]
 cases decide (i<n) with
 | false=>rfl
 | true=>
  simp only[cond_true]
  generalize tleq_F (out.getD i.toNat eT.dflt) t=z
  cases z <;> rfl
theorem eb_ok:∀ b∈loopsOf Try.prog 119,lkey b=1→LoopOk Try.prog b (eb_C eb_I eb_M).g:=by
 refine eb_loop eb_I eb_M (fun g hi=>?_) (fun g hi=>?_) (ix_conj_goes (fun _=>rfl) (fun _=>rfl) eb_RF eb_P)
 ·obtain ⟨n,i,⟨⟩,t,l,out,⟨st,pd⟩⟩:=g
  obtain ⟨h1,h2,h3,h4,h5⟩:=hi _ (List.mem_cons_self ..)
  have h1:n=(out.length:Int):=h1
  have h3:0≤i:=h3
  show eb_side n i () t l out
  unfold eb_side
  simp only[decide_eq_true_eq,decide_eq_false_iff_not]
  have ha:=okT out
  have h6:l=out.length:=h5.2
  subst h6
  clear hi
  repeat' (first | exact ha | exact rfl | apply And.intro | intro _)
  all_goals (first | trivial | omega)
 ·obtain ⟨n,i,⟨⟩,t,l,out,⟨st,pd⟩⟩:=g
  have h5:=(hi _ (List.mem_cons_self ..)).2.2.2.2.1
  have h5:(st,pd)=(LoopState.ready,(none:Option Code)):=h5
  cases h5
  rfl
theorem eb_run (n:Int) (t:T) (out:List T) (h1:n=(out.length:Int)) (h2:out.length≤maxLen):∃ j,loopF eb_RR eb_M (n,0,(),t,out.length,out,(.ready,none))=bif out.any (tleq_F · t) then (.ret,n,j,(),t,out.length,out,(.done,some (.exit 1))) else (.exit 0,n,j,(),t,out.length,out,(.ready,none)):=by
 have hr:loopF eb_RR eb_M (n,0,(),t,out.length,out,(.ready,none))=_:=ix_conj_run (φ:=eb_f) (ψ:=eb_g) (fun _=>rfl) (fun _=>rfl) eb_RF eb_P (n,t,out.length,out) ((),.ready,none) h1 h2 ⟨rfl,rfl⟩
 rcases scan_bad (x:=0) (st:=eb_S (n,t,out.length,out)) (p:=(tleq_F · t)) (r:=fun _ _=>((),LoopState.done,some (Code.exit 1))) (f:=fun _ _=>((),LoopState.ready,(none:Option Code))) (e:=.ret) (by intro h;cases h) (fun _ _ _=>rfl) out 0 ((),.ready,none) with ⟨ha,h3,a,b',_,_,h4⟩ | ⟨ha,h3⟩
 ·have h3:(scan 0 (eb_S (n,t,out.length,out)) 0 out ((),.ready,none)).1=_:=h3
  have h4:(scan 0 (eb_S (n,t,out.length,out)) 0 out ((),.ready,none)).2.2=_:=h4
  refine ⟨(scan 0 (eb_S (n,t,out.length,out)) 0 out ((),.ready,none)).2.1,hr.trans ?_⟩
  rw[ha]
  show ((scan 0 (eb_S (n,t,out.length,out)) 0 out ((),.ready,none)).1,eb_g ((scan 0 (eb_S (n,t,out.length,out)) 0 out ((),.ready,none)).2.1,(n,t,out.length,out),(scan 0 (eb_S (n,t,out.length,out)) 0 out ((),.ready,none)).2.2))=_
  rw[h3,h4]
  rfl
 ·have h3:scan 0 (eb_S (n,t,out.length,out)) 0 out ((),.ready,none)=_:=h3
  have hf:∀ l:List T,l.foldl (fun (_:eb_GB) (_:T)=>((),LoopState.ready,(none:Option Code))) ((),LoopState.ready,(none:Option Code))=((),LoopState.ready,none):=by
   intro l
   induction l with
   | nil=>rfl
   | cons a l ih=>exact ih
  refine ⟨(scan 0 (eb_S (n,t,out.length,out)) 0 out ((),.ready,none)).2.1,hr.trans ?_⟩
  rw[ha]
  show ((scan 0 (eb_S (n,t,out.length,out)) 0 out ((),.ready,none)).1,eb_g ((scan 0 (eb_S (n,t,out.length,out)) 0 out ((),.ready,none)).2.1,(n,t,out.length,out),(scan 0 (eb_S (n,t,out.length,out)) 0 out ((),.ready,none)).2.2))=_
  rw[h3,hf]
  rfl
noncomputable def ltO:LTab Try.prog:=ltE.cons 119 1 (lconAlt 5 (ea_C ea_I ea_M) (eb_C eb_I eb_M)) (fun b hb hk=>altL_ok (ea_ok b hb hk) (eb_ok b hb hk))
noncomputable abbrev lamO:Lam:=ltO.lam
theorem lamO_ok:∀ f k L,lamO f k=some L→∀ b∈loopsOf Try.prog f,lkey b=k→LoopOk Try.prog b L.g:=ltO.ok
end Go.Proofs.Ytiipneclghnfhaa

namespace Go.Proofs.Ytiipneclghnfhaa
open Go.RowKit Go.Sx
set_option maxRecDepth 100000
set_option linter.unusedVariables false
noncomputable def of2_q1 (out:List T) (l:Nat) (ys:List T) (n:Int) (i:Int):Ex ×
 eb_G:=
 loopF (fun g=>eb_R g.fst g.snd.fst g.snd.snd.fst g.snd.snd.snd.fst g.snd.snd.snd.snd.fst g.snd.snd.snd.snd.snd.fst) eb_M ((↑out.length:Int),(0:Int),(),ys.getD i.toNat eT.dflt,out.length,eT.lst out.length (eT.els out),LoopState.ready,none)
abbrev of2_G:Type:=List T×Nat×List T×Int×Int
noncomputable def of2_LP:LP 2 of2_G:=.pair (.row 2 6 30 eT) (.pair (.owl 2 20 1) (.pair (.rowO 2 1 30 eT) (.pair (.slot 2 21 dI) (.slot 2 22 dI))))
noncomputable def of2_R (out:List T) (l:Nat) (ys:List T) (n:Int) (i:Int):Ex×of2_G:=
 bif decide (i<n) then bif exB Ex.ret (of2_q1 out l ys n i).fst then (Ex.normal,eT.lst out.length (eT.els (of2_q1 out l ys n i).snd.snd.snd.snd.snd.snd.fst),l,eT.lst ys.length (eT.els ys),n,IntKind.i64.wrap (i+(1:Int))) else (Ex.normal,eT.lst (min (out.length+(1:Nat)) out.length) (eT.els (of2_q1 out l ys n i).snd.snd.snd.snd.snd.snd.fst)++List.map (fun x=>(of2_q1 out l ys n i).snd.snd.snd.snd.fst) (List.range (out.length+(1:Nat) - out.length)),l,eT.lst ys.length (eT.els ys),n,IntKind.i64.wrap (i+(1:Int)))
 else (Ex.exit (0:Nat),eT.lst out.length (eT.els out),l,eT.lst ys.length (eT.els ys),n,i)
def of2_side (out:List T) (l:Nat) (ys:List T) (n:Int) (i:Int):Prop:=
 (decide (i<n)=true→((0:Int)≤i∧i<(↑l:Int))∧i.toNat<ys.length∧(∀ (e:Nat),e<out.length→True)∧CodeIs (rangeOf Try.prog (18:Nat) (0:Nat)).snd.fst (rangeOf Try.prog (18:Nat) (0:Nat)).snd.fst∧CodeIs (rangeOf Try.prog (18:Nat) (0:Nat)).snd.snd (rangeOf Try.prog (18:Nat) (0:Nat)).snd.snd∧Lp.ixJ (fun c=>c.fst) (fun c=>c.snd.snd.snd) eb_K (eb_f ((↑out.length:Int),(0:Int),(),ys.getD i.toNat eT.dflt,out.length,eT.lst out.length (eT.els out),LoopState.ready,none))∧(exB Ex.ret (of2_q1 out l ys n i).fst=true→out.length≤(of2_q1 out l ys n i).snd.snd.snd.snd.snd.snd.fst.length∧(∀ (e:Nat),e<out.length→True)∧∀ (e:Nat),e<ys.length→True)∧(exB Ex.ret (of2_q1 out l ys n i).fst=false→(out.length≤(of2_q1 out l ys n i).snd.snd.snd.snd.snd.snd.fst.length∧True∧out.length+(1:Nat)≤maxLen∧(out.length+(1:Nat)) * Try.prog.types[(30:Nat)].bytes≤(140737488355328:Nat))∧out.length+(1:Nat)≤out.length+(1:Nat)∧(∀ (e:Nat),e<min (out.length+(1:Nat)) out.length→True)∧(∀ (e:Nat),e<out.length+(1:Nat) - out.length→True)∧∀ (e:Nat),e<ys.length→True))∧(decide (i<n)=false→out.length≤out.length∧(∀ (e:Nat),e<out.length→True)∧∀ (e:Nat),e<ys.length→True)
theorem of2_one:((loopsOf Try.prog 18).filter fun c=>Nat.beq (lkey c) 8).length=1:=by kernel_rfl
abbrev of2_GC:Type:=List T×Int×Nat
abbrev of2_GB:Type:=List T
def of2_f (g:of2_G):Int×of2_GC×of2_GB:=(g.2.2.2.2,(g.2.2.1,g.2.2.2.1,g.2.1),g.1)
def of2_g (d:Int×of2_GC×of2_GB):of2_G:=(d.2.2,d.2.1.2.2,d.2.1.1,d.2.1.2.1,d.1)
theorem of2_es (g:of2_G):(of2_R g.1 g.2.1 g.2.2.1 g.2.2.2.1 g.2.2.2.2).1=.normal∨(of2_R g.1 g.2.1 g.2.2.1 g.2.2.2.1 g.2.2.2.2).1∈([.ret,.exit 0]:List Ex):=by
 unfold of2_R
 repeat' (first | (left;rfl) | (right;simp only[cond_true,cond_false];simp;done) | (rw[Bool.cond_eq_ite];split))
noncomputable abbrev of2_C (Inv:of2_G→List Prop) (m:of2_G→Nat):LCon:=loopR [.ret,.exit 0] (loopBody Try.prog 18 8) of2_LP [] 41 Inv (fun g=>of2_R g.1 g.2.1 g.2.2.1 g.2.2.2.1 g.2.2.2.2) m
theorem of2_loop (Inv:of2_G→List Prop) (m:of2_G→Nat) (hs:∀ g,allP (Inv g)→of2_side g.1 g.2.1 g.2.2.1 g.2.2.2.1 g.2.2.2.2) (hg:Goes (fun g:of2_G=>of2_R g.1 g.2.1 g.2.2.1 g.2.2.2.1 g.2.2.2.2) m fun g=>allP (Inv g)):∀ b∈loopsOf Try.prog 18,lkey b=8→LoopOk Try.prog b (of2_C Inv m).g:=loop_run (Γ:=(MTab.gamz tabQ [] [])) (Λ:=lamO) (MTab.okz tabQ [] []) lamO_ok 100 18 8 41 of2_LP [] Inv (fun g=>of2_R g.1 g.2.1 g.2.2.1 g.2.2.2.1 g.2.2.2.2) (fun g=>of2_side g.1 g.2.1 g.2.2.1 g.2.2.2.1 g.2.2.2.2) m default [.ret,.exit 0] of2_one (fun rd T B HL HB ds g=>by kernel_rfl) (fun rd T B HL HB ds g=>by kernel_rfl) hs hg of2_es
end Go.Proofs.Ytiipneclghnfhaa

namespace Go.Proofs.Ytiipneclghnfhaa
open Go.RowKit Go.Sx Go.Lp
noncomputable def of2_S (_:of2_GC) (b:of2_GB) (_:Int) (v:T):Ex×of2_GB:=(.normal,of1_st b v)
def of2_K (c:of2_GC) (b:of2_GB) (i:Int):Prop:=c.1.length≤KS∧(List.length b:Int)≤i∧c.2.2=c.1.length
abbrev of2_I (g:of2_G):List Prop:=ixI (fun c:of2_GC=>c.2.1) (fun c=>c.1) of2_K (of2_f g)
abbrev of2_M (g:of2_G):Nat:=ixM (fun c:of2_GC=>c.2.1) (of2_f g)
theorem of2_P:ixP of2_S (fun c:of2_GC=>c.1) of2_K:=by
 rintro ⟨ys,n,l⟩ b i a ⟨h1,h2,h3⟩ _ _
 refine ⟨h1,?_,h3⟩
 have h2:(List.length b:Int)≤(i:Int):=h2
 show (List.length (of1_st b a):Int)≤(i:Int)+1
 unfold of1_st
 cases b.any (tleq_F · a) <;> simp <;> omega
theorem of2_q (out:List T) (l:Nat) (ys:List T) (n i:Int) (hm:out.length≤maxLen):∃ j,of2_q1 out l ys n i=bif out.any (tleq_F · (ys.getD i.toNat eT.dflt)) then (.ret,(out.length:Int),j,(),ys.getD i.toNat eT.dflt,out.length,out,(.done,some (.exit 1))) else (.exit 0,(out.length:Int),j,(),ys.getD i.toNat eT.dflt,out.length,out,(.ready,none)):=by
 unfold of2_q1
 rw[eT.lst_els]
 exact eb_run (out.length:Int) (ys.getD i.toNat eT.dflt) out rfl hm
noncomputable abbrev of2_RR (g:of2_G):Ex×of2_G:=of2_R g.1 g.2.1 g.2.2.1 g.2.2.2.1 g.2.2.2.2
theorem of2_RF (d:Int×of2_GC×of2_GB) (hi:allP (ixI (fun c:of2_GC=>c.2.1) (fun c=>c.1) of2_K d)):of2_RR (of2_g d)=((ixF 0 (fun c:of2_GC=>c.2.1) (fun c=>c.1) eT.dflt of2_S d).1,of2_g (ixF 0 (fun c:of2_GC=>c.2.1) (fun c=>c.1) eT.dflt of2_S d).2):=by
 obtain ⟨h1,h2,h3,h4,h5,h6,h7⟩:=hi _ (List.mem_cons_self ..)
 obtain ⟨i,⟨ys,n,l⟩,out⟩:=d
 have h5:ys.length≤KS:=h5
 have h4:i≤(ys.length:Int):=h4
 have h6:(List.length out:Int)≤i:=h6
 have hm:out.length≤maxLen:=by unfold KS at h5;unfold maxLen;omega
 obtain ⟨j,hj⟩:=of2_q out l ys n i hm
 show of2_R out l ys n i=_
 unfold of2_R ixF of2_S of1_st
 rw[hj]
 simp only[eT.lst_els]
 cases decide (i<n) with
 | false=>rfl
 | true=>
  simp only[cond_true]
  generalize out.any (tleq_F · (ys.getD i.toNat eT.dflt))=z
  cases z
  ·simp only[cond_false]
   show (bif exB Ex.ret (.exit 0) then _ else _)=_
   simp only[eT.lst_els,lst_app1]
   rfl
  ·simp only[cond_true]
   show (bif exB Ex.ret .ret then _ else _)=_
   simp only[eT.lst_els]
   rfl
theorem of2_ok:∀ b∈loopsOf Try.prog 18,lkey b=8→LoopOk Try.prog b (of2_C of2_I of2_M).g:=by
 refine of2_loop of2_I of2_M (fun g hi=>?_) (ix_conj_goes (fun _=>rfl) (fun _=>rfl) of2_RF of2_P)
 obtain ⟨out,l,ys,n,i⟩:=g
 obtain ⟨h1,h2,h3,h4,h5,h6,h7⟩:=hi _ (List.mem_cons_self ..)
 have h1:n=(ys.length:Int):=h1
 have h3:0≤i:=h3
 have h4:i≤(ys.length:Int):=h4
 have h5:ys.length≤KS:=h5
 have h6:(List.length out:Int)≤i:=h6
 unfold KS at h5
 have hm:out.length≤maxLen:=by unfold maxLen;omega
 have hs:out.length<1000000∨¬ i<(ys.length:Int):=by omega
 have h7:l=ys.length:=h7
 clear hi
 subst h7
 obtain ⟨j,hj⟩:=of2_q out ys.length ys n i hm
 have ha:∀ e,e<ys.length→True:=fun _ _=>trivial
 have hx:=ixJ0 (lim:=fun c:eb_GC=>c.1) (xs:=fun c:eb_GC=>c.2.2.2) (P:=eb_K) (c:=((out.length:Int),ys.getD i.toNat eT.dflt,out.length,out)) (b:=((),LoopState.ready,none)) rfl hm ⟨rfl,rfl⟩
 show of2_side out ys.length ys n i
 unfold of2_side
 rw[hj]
 simp only[bytesT,decide_eq_true_eq,decide_eq_false_iff_not,eT.lst_els]
 refine ⟨fun hc=>⟨⟨h3,by omega⟩,by omega,fun _ _=>trivial,rfl,rfl,hx,fun _=>?_,fun _=>?_⟩,fun _=>⟨Nat.le_refl _,fun _ _=>trivial,ha⟩⟩
 ·cases out.any (tleq_F · (ys.getD i.toNat eT.dflt)) <;> exact ⟨Nat.le_refl _,fun _ _=>trivial,ha⟩
 ·have hl:out.length≤(bif out.any (tleq_F · (ys.getD i.toNat eT.dflt)) then ((Ex.ret,(out.length:Int),j,(),ys.getD i.toNat eT.dflt,out.length,out,(LoopState.done,some (Code.exit 1))):Ex×eb_G) else (.exit 0,(out.length:Int),j,(),ys.getD i.toNat eT.dflt,out.length,out,(.ready,none))).2.2.2.2.2.2.1.length:=by
   cases out.any (tleq_F · (ys.getD i.toNat eT.dflt)) <;> exact Nat.le_refl _
  have hs:out.length<1000000:=by rcases hs with h | h
                                 ·exact h
                                 ·exact absurd (by omega) h
  exact ⟨⟨hl,trivial,by unfold maxLen;omega,by omega⟩,Nat.le_refl _,fun _ _=>trivial,fun _ _=>trivial,ha⟩
theorem of2_run (ys:List T) (hm:ys.length≤KS):loopF of2_RR of2_M ([],ys.length,ys,(ys.length:Int),0)=(.exit 0,greedy tleq_F [] ys,ys.length,ys,(ys.length:Int),(ys.length:Int)):=by
 have hm2:ys.length≤maxLen:=by unfold KS at hm;unfold maxLen;omega
 have h1:loopF of2_RR of2_M ([],ys.length,ys,(ys.length:Int),0)=_:=ix_conj_run (φ:=of2_f) (ψ:=of2_g) (fun _=>rfl) (fun _=>rfl) of2_RF of2_P (ys,(ys.length:Int),ys.length) [] rfl hm2 ⟨hm,Int.le_refl _,rfl⟩
 have hs:=scan_fold (x:=0) (st:=of2_S (ys,(ys.length:Int),ys.length)) (f:=of1_st) (fun _ _ _=>rfl) ys 0 []
 rw[of1_greedy] at hs
 rw[h1]
 show ((scan 0 (of2_S (ys,(ys.length:Int),ys.length)) 0 ys []).1,of2_g ((scan 0 (of2_S (ys,(ys.length:Int),ys.length)) 0 ys []).2.1,(ys,(ys.length:Int),ys.length),(scan 0 (of2_S (ys,(ys.length:Int),ys.length)) 0 ys []).2.2))=_
 rw[hs,Int.zero_add]
 rfl
noncomputable def ltN:LTab Try.prog:=ltO.cons 18 8 (lconAlt 0 (of1_C of1_I of1_M) (of2_C of2_I of2_M)) (fun b hb hk=>altL_ok (of1_ok b hb hk) (of2_ok b hb hk))
noncomputable abbrev lamN:Lam:=ltN.lam
theorem lamN_ok:∀ f k L,lamN f k=some L→∀ b∈loopsOf Try.prog f,lkey b=k→LoopOk Try.prog b L.g:=ltN.ok
end Go.Proofs.Ytiipneclghnfhaa

namespace Go.Proofs.Ytiipneclghnfhaa
open Go.RowKit Go.Sx
set_option maxRecDepth 100000
set_option linter.unusedVariables false
abbrev rLE:Rv (List T×Int):=.tup (.cons (.list eT) (.one (.of dI)))
noncomputable def cof_q1 (xs:List T):Ex ×
 of2_G:=
 loopF (fun g=>of2_R g.fst g.snd.fst g.snd.snd.fst g.snd.snd.snd.fst g.snd.snd.snd.snd) of2_M ([],(Lp.compL (eT.lst (srtBy (fun a b=>tcmp_F a b) (List.map (fun x=>eT.get []) (List.range (min ((0:Nat)+xs.length) (0:Nat)))++eT.lst ((0:Nat)+xs.length - (0:Nat)) (eT.els xs))).length (eT.els (srtBy (fun a b=>tcmp_F a b) (List.map (fun x=>eT.get []) (List.range (min ((0:Nat)+xs.length) (0:Nat)))++eT.lst ((0:Nat)+xs.length - (0:Nat)) (eT.els xs)))))).length,eT.lst (Lp.compL (eT.lst (srtBy (fun a b=>tcmp_F a b) (List.map (fun x=>eT.get []) (List.range (min ((0:Nat)+xs.length) (0:Nat)))++eT.lst ((0:Nat)+xs.length - (0:Nat)) (eT.els xs))).length (eT.els (srtBy (fun a b=>tcmp_F a b) (List.map (fun x=>eT.get []) (List.range (min ((0:Nat)+xs.length) (0:Nat)))++eT.lst ((0:Nat)+xs.length - (0:Nat)) (eT.els xs)))))).length (eT.els (Lp.compL (eT.lst (srtBy (fun a b=>tcmp_F a b) (List.map (fun x=>eT.get []) (List.range (min ((0:Nat)+xs.length) (0:Nat)))++eT.lst ((0:Nat)+xs.length - (0:Nat)) (eT.els xs))).length (eT.els (srtBy (fun a b=>tcmp_F a b) (List.map (fun x=>eT.get []) (List.range (min ((0:Nat)+xs.length) (0:Nat)))++eT.lst ((0:Nat)+xs.length - (0:Nat)) (eT.els xs))))))),(↑(Lp.compL (eT.lst (srtBy (fun a b=>tcmp_F a b) (List.map (fun x=>eT.get []) (List.range (min ((0:Nat)+xs.length) (0:Nat)))++eT.lst ((0:Nat)+xs.length - (0:Nat)) (eT.els xs))).length (eT.els (srtBy (fun a b=>tcmp_F a b) (List.map (fun x=>eT.get []) (List.range (min ((0:Nat)+xs.length) (0:Nat)))++eT.lst ((0:Nat)+xs.length - (0:Nat)) (eT.els xs)))))).length:Int),(0:Int))
noncomputable def cof_q2 (xs:List T):Ex ×
 of2_G:=
 loopF (fun g=>of2_R g.fst g.snd.fst g.snd.snd.fst g.snd.snd.snd.fst g.snd.snd.snd.snd) of2_M ([],(0:Nat),[],(0:Int),(0:Int))
noncomputable def cof_F (xs:List T):Rv.T rLE:=
 bif badC (eT.lst xs.length (eT.els xs)) != (0:Int) then ([],badC (eT.lst xs.length (eT.els xs)))
 else bif exB Ex.ret (cof_q1 xs).fst then ([],(0:Int)) else bif decide ((↑(cof_q1 xs).snd.fst.length:Int) > (1024:Int)) then ([],(3:Int)) else (eT.lst (cof_q1 xs).snd.fst.length (eT.els (cof_q1 xs).snd.fst),(0:Int))
def cof_side (xs:List T):Prop:=
 (∀ (e:Nat),e<xs.length→eT.Ok (eT.els xs e))∧((badC (eT.lst xs.length (eT.els xs)) != (0:Int))=false→∀ (cs:List Nat),(cs.isEmpty=false→xs.length=(0:Nat))→((false != !cs.isEmpty)=true→(0:Nat)=(0:Nat)∧(∀ (e:Nat),e<(0:Nat)→eT.OkP [])∧(0:Nat)<(4611686018427387904:Nat)∧(0:Nat)=(0:Nat)∧(∀ (e:Nat),e<(0:Nat)→eT.OkP [])∧(∀ (e:Nat),e<(0:Nat)→True)∧Lp.ixJ (fun c=>c.snd.fst) (fun c=>c.fst) of2_K (of2_f ([],(0:Nat),[],(0:Int),(0:Int)))∧(exB Ex.ret (cof_q2 xs).fst=true→∀ (d:List T×Int),([],(0:Int))=bif exB Ex.ret (cof_q1 xs).fst then ([],(0:Int)) else bif decide ((↑(cof_q1 xs).snd.fst.length:Int) > (1024:Int)) then ([],(3:Int)) else (eT.lst (cof_q1 xs).snd.fst.length (eT.els (cof_q1 xs).snd.fst),(0:Int)))∧(exB Ex.ret (cof_q2 xs).fst=false→(decide ((↑(cof_q2 xs).snd.fst.length:Int) > (1024:Int))=true→∀ (d:List T×Int),([],(3:Int))=bif exB Ex.ret (cof_q1 xs).fst then ([],(0:Int)) else bif decide ((↑(cof_q1 xs).snd.fst.length:Int) > (1024:Int)) then ([],(3:Int)) else (eT.lst (cof_q1 xs).snd.fst.length (eT.els (cof_q1 xs).snd.fst),(0:Int)))∧(decide ((↑(cof_q2 xs).snd.fst.length:Int) > (1024:Int))=false→(cof_q2 xs).snd.fst.length≤(cof_q2 xs).snd.fst.length∧(∀ (e:Nat),e<(cof_q2 xs).snd.fst.length→True)∧∀ (d:List T×Int),(eT.lst (cof_q2 xs).snd.fst.length (eT.els (cof_q2 xs).snd.fst),(0:Int))=bif exB Ex.ret (cof_q1 xs).fst then ([],(0:Int)) else bif decide ((↑(cof_q1 xs).snd.fst.length:Int) > (1024:Int)) then ([],(3:Int)) else (eT.lst (cof_q1 xs).snd.fst.length (eT.els (cof_q1 xs).snd.fst),(0:Int)))))∧((false != !cs.isEmpty)=false→((0:Nat)≤(0:Nat)∧(∀ (e:Nat),e<xs.length→(eT.els xs e).all SV.one=true)∧(0:Nat)+xs.length≤maxLen∧((0:Nat)+xs.length) * Try.prog.types[(30:Nat)].bytes≤(140737488355328:Nat))∧(0:Nat)+xs.length=(0:Nat)+xs.length∧(∀ (e:Nat),e<min ((0:Nat)+xs.length) (0:Nat)→eT.OkP [])∧(∀ (e:Nat),e<(0:Nat)+xs.length - (0:Nat)→True)∧(List.map (fun x=>eT.get []) (List.range (min ((0:Nat)+xs.length) (0:Nat)))++eT.lst ((0:Nat)+xs.length - (0:Nat)) (eT.els xs)).length<(4611686018427387904:Nat)∧(0:Nat)+xs.length=(srtBy (fun a b=>tcmp_F a b) (List.map (fun x=>eT.get []) (List.range (min ((0:Nat)+xs.length) (0:Nat)))++eT.lst ((0:Nat)+xs.length - (0:Nat)) (eT.els xs))).length∧(∀ (e:Nat),e<(srtBy (fun a b=>tcmp_F a b) (List.map (fun x=>eT.get []) (List.range (min ((0:Nat)+xs.length) (0:Nat)))++eT.lst ((0:Nat)+xs.length - (0:Nat)) (eT.els xs))).length→True)∧(∀ (e:Nat),e<(Lp.compL (eT.lst (srtBy (fun a b=>tcmp_F a b) (List.map (fun x=>eT.get []) (List.range (min ((0:Nat)+xs.length) (0:Nat)))++eT.lst ((0:Nat)+xs.length - (0:Nat)) (eT.els xs))).length (eT.els (srtBy (fun a b=>tcmp_F a b) (List.map (fun x=>eT.get []) (List.range (min ((0:Nat)+xs.length) (0:Nat)))++eT.lst ((0:Nat)+xs.length - (0:Nat)) (eT.els xs)))))).length→True)∧Lp.ixJ (fun c=>c.snd.fst) (fun c=>c.fst) of2_K (of2_f ([],(Lp.compL (eT.lst (srtBy (fun a b=>tcmp_F a b) (List.map (fun x=>eT.get []) (List.range (min ((0:Nat)+xs.length) (0:Nat)))++eT.lst ((0:Nat)+xs.length - (0:Nat)) (eT.els xs))).length (eT.els (srtBy (fun a b=>tcmp_F a b) (List.map (fun x=>eT.get []) (List.range (min ((0:Nat)+xs.length) (0:Nat)))++eT.lst ((0:Nat)+xs.length - (0:Nat)) (eT.els xs)))))).length,eT.lst (Lp.compL (eT.lst (srtBy (fun a b=>tcmp_F a b) (List.map (fun x=>eT.get []) (List.range (min ((0:Nat)+xs.length) (0:Nat)))++eT.lst ((0:Nat)+xs.length - (0:Nat)) (eT.els xs))).length (eT.els (srtBy (fun a b=>tcmp_F a b) (List.map (fun x=>eT.get []) (List.range (min ((0:Nat)+xs.length) (0:Nat)))++eT.lst ((0:Nat)+xs.length - (0:Nat)) (eT.els xs)))))).length (eT.els (Lp.compL (eT.lst (srtBy (fun a b=>tcmp_F a b) (List.map (fun x=>eT.get []) (List.range (min ((0:Nat)+xs.length) (0:Nat)))++eT.lst ((0:Nat)+xs.length - (0:Nat)) (eT.els xs))).length (eT.els (srtBy (fun a b=>tcmp_F a b) (List.map (fun x=>eT.get []) (List.range (min ((0:Nat)+xs.length) (0:Nat)))++eT.lst ((0:Nat)+xs.length - (0:Nat)) (eT.els xs))))))),(↑(Lp.compL (eT.lst (srtBy (fun a b=>tcmp_F a b) (List.map (fun x=>eT.get []) (List.range (min ((0:Nat)+xs.length) (0:Nat)))++eT.lst ((0:Nat)+xs.length - (0:Nat)) (eT.els xs))).length (eT.els (srtBy (fun a b=>tcmp_F a b) (List.map (fun x=>eT.get []) (List.range (min ((0:Nat)+xs.length) (0:Nat)))++eT.lst ((0:Nat)+xs.length - (0:Nat)) (eT.els xs)))))).length:Int),(0:Int)))∧(exB Ex.ret (cof_q1 xs).fst=true→∀ (d:List T×Int),([],(0:Int))=bif exB Ex.ret (cof_q1 xs).fst then ([],(0:Int)) else bif decide ((↑(cof_q1 xs).snd.fst.length:Int) > (1024:Int)) then ([],(3:Int)) else (eT.lst (cof_q1 xs).snd.fst.length (eT.els (cof_q1 xs).snd.fst),(0:Int)))∧(exB Ex.ret (cof_q1 xs).fst=false→(decide ((↑(cof_q1 xs).snd.fst.length:Int) > (1024:Int))=true→∀ (d:List T×Int),([],(3:Int))=bif exB Ex.ret (cof_q1 xs).fst then ([],(0:Int)) else bif decide ((↑(cof_q1 xs).snd.fst.length:Int) > (1024:Int)) then ([],(3:Int)) else (eT.lst (cof_q1 xs).snd.fst.length (eT.els (cof_q1 xs).snd.fst),(0:Int)))∧(decide ((↑(cof_q1 xs).snd.fst.length:Int) > (1024:Int))=false→(cof_q1 xs).snd.fst.length≤(cof_q1 xs).snd.fst.length∧(∀ (e:Nat),e<(cof_q1 xs).snd.fst.length→True)∧∀ (d:List T×Int),(eT.lst (cof_q1 xs).snd.fst.length (eT.els (cof_q1 xs).snd.fst),(0:Int))=bif exB Ex.ret (cof_q1 xs).fst then ([],(0:Int)) else bif decide ((↑(cof_q1 xs).snd.fst.length:Int) > (1024:Int)) then ([],(3:Int)) else (eT.lst (cof_q1 xs).snd.fst.length (eT.els (cof_q1 xs).snd.fst),(0:Int))))))
theorem cof_okS (pre:DA.T aL→List Prop) (h:∀ g,DA.bd aL g→(∀ p∈pre g,p)→cof_side g):FnPure Try.prog 18 aL (Rv.D rLE) (fun g=>cof_F g) pre:=res_of_side (R:=rLE) (Γ:=(MTab.gamz tabQ [] [])) (Λ:=lamN) (MTab.okz tabQ [] []) lamN_ok 100 default (fun g=>cof_side g) (fun g=>by kernel_rfl) (fun g=>by kernel_rfl) h
end Go.Proofs.Ytiipneclghnfhaa

namespace Go.Proofs.Ytiipneclghnfhaa
open Go.RowKit Go.Sx
set_option maxRecDepth 100000
set_option linter.unusedVariables false
noncomputable def cfc_F (xs:List T) (l:List T):Dv.T dBool:=
 decide (ixc_F (eT.lst xs.length (eT.els xs)) (eT.lst l.length (eT.els l))≥(0:Int))
def cfc_side (xs:List T) (l:List T):Prop:=
 (∀ (e:Nat),e<xs.length→eT.Ok (eT.els xs e))∧∀ (e:Nat),e<l.length→eT.Ok (eT.els l e)
theorem cfc_okS (pre:DA.T aFl→List Prop) (h:∀ g,DA.bd aFl g→(∀ p∈pre g,p)→cfc_side g.1 g.2):FnPure Try.prog 75 aFl dBool (fun g=>cfc_F g.1 g.2) pre:=pure_of_sideS (Γ:=(PTab.gamz tabU [] [])) (Λ:=noΛ) (PTab.okz tabU [] []) noΛ_ok 100 default (fun g=>cfc_side g.1 g.2) (fun g=>by kernel_rfl) (fun g=>by kernel_rfl) h
end Go.Proofs.Ytiipneclghnfhaa

namespace Go.Proofs.Ytiipneclghnfhaa
open Go.RowKit Go.Sx Go.Lp
theorem cfc_ok:FnPure Try.prog 75 aFl dBool (fun g=>g.1.any (fun v=>!g.2.any (tleq_F · v))) (fun _=>[]):=by
 refine pure_congr (cfc_okS _ fun g hb hp=>⟨okT g.1,okT g.2⟩) fun g hb hp=>?_
 show cfc_F g.1 g.2=_
 unfold cfc_F
 simp only[eT.lst_els]
 exact ixc_pos g.1 g.2 hb.1.1
noncomputable def tabV:PTab Try.prog:=tabU.cons 75 (pconAlt 113 (pconP aFt dBool (fun g=>g.1.any (difD g.2)) (fun g=>[0<g.1.length→0<g.2.length])) (pconAlt 104 (pconP aFl dBool (fun g=>g.1.any (fun v=>!g.2.any (tleq_F · v))) (fun _=>[])) (pconP aFc dBool (fun g=>g.1.any (tleq_F · g.2)) (fun _=>[])))) (alt_ok (conP_ok cfa_ok puB) (alt_ok (conP_ok cfc_ok puB) (conP_ok cfb_ok puB)))
noncomputable def tabW:MTab Try.prog:=(MTab.of tabV).consM 31 (lconR eT DA.none dLE (fun g=>ofC g.1) (fun g=>[g.1.length≤KS])) (conL_ok (pure_none rof_ok))
end Go.Proofs.Ytiipneclghnfhaa

namespace Go.Proofs.Ytiipneclghnfhaa
open Go.RowKit Go.Sx
set_option maxRecDepth 100000
set_option linter.unusedVariables false
abbrev dLBE:Dv (List T×Bool×Int):=.tup (.cons dLT (.cons dBool (.one dI)))
noncomputable def clq_F (ys:List T) (xs:List T):Dv.T dBool:=
 !(eT.lst xs.length (eT.els xs)).any fun v=>!(eT.lst ys.length (eT.els ys)).any fun x=>tleq_F x v
def clq_side (ys:List T) (xs:List T):Prop:=
 (∀ (e:Nat),e<xs.length→eT.Ok (eT.els xs e))∧∀ (e:Nat),e<ys.length→eT.Ok (eT.els ys e)
theorem clq_okS (pre:DA.T aLL→List Prop) (h:∀ g,DA.bd aLL g→(∀ p∈pre g,p)→clq_side g.1 g.2):FnPure Try.prog 55 aLL dBool (fun g=>clq_F g.1 g.2) pre:=pure_of_sideS (Γ:=(MTab.gamz tabW [] [])) (Λ:=noΛ) (MTab.okz tabW [] []) noΛ_ok 100 default (fun g=>clq_side g.1 g.2) (fun g=>by kernel_rfl) (fun g=>by kernel_rfl) h
noncomputable def bth_F (xs:List T) (ys:List T):Dv.T dI:=
 bif chkC (eT.lst xs.length (eT.els xs)) != (0:Int) then chkC (eT.lst xs.length (eT.els xs))
 else bif chkC (eT.lst ys.length (eT.els ys)) != (0:Int) then chkC (eT.lst ys.length (eT.els ys)) else bif decide ((↑xs.length:Int) > (0:Int))&&(decide ((↑ys.length:Int) > (0:Int))&&(xs.getD (0:Nat) eT.dflt).d != (ys.getD (0:Nat) eT.dflt).d) then (11:Int) else (0:Int)
def bth_side (xs:List T) (ys:List T):Prop:=
 (∀ (e:Nat),e<xs.length→eT.Ok (eT.els xs e))∧((chkC (eT.lst xs.length (eT.els xs)) != (0:Int))=false→(∀ (e:Nat),e<ys.length→eT.Ok (eT.els ys e))∧((chkC (eT.lst ys.length (eT.els ys)) != (0:Int))=false→(decide ((↑xs.length:Int) > (0:Int))=true→decide ((↑ys.length:Int) > (0:Int))=true→(0:Int)≤(0:Int)∧(0:Int)<(↑xs.length:Int))∧(decide ((↑xs.length:Int) > (0:Int))=true→decide ((↑ys.length:Int) > (0:Int))=true→(0:Int)≤(0:Int)∧(0:Int)<(↑ys.length:Int))))
theorem bth_okS (pre:DA.T aLL→List Prop) (h:∀ g,DA.bd aLL g→(∀ p∈pre g,p)→bth_side g.1 g.2):FnPure Try.prog 99 aLL dI (fun g=>bth_F g.1 g.2) pre:=pure_of_sideS (Γ:=(MTab.gamz tabW [] [])) (Λ:=noΛ) (MTab.okz tabW [] []) noΛ_ok 100 default (fun g=>bth_side g.1 g.2) (fun g=>by kernel_rfl) (fun g=>by kernel_rfl) h
noncomputable def two_F (xs:List T) (ys:List T):Dv.T dI:=
 bif chkC (eT.lst xs.length (eT.els xs)) != (0:Int) then chkC (eT.lst xs.length (eT.els xs))
 else bif chkC (eT.lst ys.length (eT.els ys)) != (0:Int) then chkC (eT.lst ys.length (eT.els ys)) else bif decide ((↑xs.length:Int) > (0:Int))&&(decide ((↑ys.length:Int) > (0:Int))&&(xs.getD (0:Nat) eT.dflt).d != (ys.getD (0:Nat) eT.dflt).d) then (11:Int) else (0:Int)
def two_side (xs:List T) (ys:List T):Prop:=
 (∀ (e:Nat),e<xs.length→eT.Ok (eT.els xs e))∧((chkC (eT.lst xs.length (eT.els xs)) != (0:Int))=false→(∀ (e:Nat),e<ys.length→eT.Ok (eT.els ys e))∧((chkC (eT.lst ys.length (eT.els ys)) != (0:Int))=false→(decide ((↑xs.length:Int) > (0:Int))=true→decide ((↑ys.length:Int) > (0:Int))=true→(0:Int)≤(0:Int)∧(0:Int)<(↑xs.length:Int))∧(decide ((↑xs.length:Int) > (0:Int))=true→decide ((↑ys.length:Int) > (0:Int))=true→(0:Int)≤(0:Int)∧(0:Int)<(↑ys.length:Int))))
theorem two_okS (pre:DA.T aLL→List Prop) (h:∀ g,DA.bd aLL g→(∀ p∈pre g,p)→two_side g.1 g.2):FnPure Try.prog 102 aLL dI (fun g=>two_F g.1 g.2) pre:=pure_of_sideS (Γ:=(MTab.gamz tabW [] [])) (Λ:=noΛ) (MTab.okz tabW [] []) noΛ_ok 100 default (fun g=>two_side g.1 g.2) (fun g=>by kernel_rfl) (fun g=>by kernel_rfl) h
end Go.Proofs.Ytiipneclghnfhaa

namespace Go.Proofs.Ytiipneclghnfhaa
open Go.RowKit Go.Sx Go.Lp
theorem clq_ok:FnPure Try.prog 55 aLL dBool (fun g=>leqC g.1 g.2) (fun _=>[]):=by
 refine pure_congr (clq_okS _ fun g hb hp=>⟨okT g.2,okT g.1⟩) fun g hb hp=>?_
 show clq_F g.1 g.2=_
 unfold clq_F leqC
 simp only[eT.lst_els]
 rw[any_not_all,Bool.not_not]
noncomputable def bothC (xs ys:List T):Int:=bif chkC xs != 0 then chkC xs else bif chkC ys != 0 then chkC ys else bif decide ((xs.length:Int) > 0)&&(decide ((ys.length:Int) > 0)&&(xs.getD (0:Nat) eT.dflt).d != (ys.getD (0:Nat) eT.dflt).d) then 11 else 0
theorem bth_ok:FnPure Try.prog 99 aLL dI (fun g=>bothC g.1 g.2) (fun _=>[]):=by
 refine pure_congr (bth_okS _ fun g hb hp=>?_) fun g hb hp=>?_
 ·show bth_side g.1 g.2
  unfold bth_side
  simp only[eT.lst_els]
  exact ⟨okT _,fun _=>⟨okT _,fun _=>⟨fun h _=>⟨Int.le_refl _,of_decide_eq_true h⟩,fun _ h=>⟨Int.le_refl _,of_decide_eq_true h⟩⟩⟩⟩
 ·show bth_F g.1 g.2=_
  unfold bth_F bothC
  simp only[eT.lst_els]
theorem two_ok:FnPure Try.prog 102 aLL dI (fun g=>bothC g.1 g.2) (fun _=>[]):=by
 refine pure_congr (two_okS _ fun g hb hp=>?_) fun g hb hp=>?_
 ·show two_side g.1 g.2
  unfold two_side
  simp only[eT.lst_els]
  exact ⟨okT _,fun _=>⟨okT _,fun _=>⟨fun h _=>⟨Int.le_refl _,of_decide_eq_true h⟩,fun _ h=>⟨Int.le_refl _,of_decide_eq_true h⟩⟩⟩⟩
 ·show two_F g.1 g.2=_
  unfold two_F bothC
  simp only[eT.lst_els]
noncomputable def tabXa:PTab Try.prog:=((tabV.cons 55 (pconP aLL dBool (fun g=>leqC g.1 g.2) (fun _=>[])) (conP_ok clq_ok puB)).cons 99 (pconP aLL dI (fun g=>bothC g.1 g.2) (fun _=>[])) (conP_ok bth_ok puI)).cons 102 (pconP aLL dI (fun g=>bothC g.1 g.2) (fun _=>[])) (conP_ok two_ok puI)
noncomputable def tabY:MTab Try.prog:=(MTab.of tabXa).consM 31 (lconR eT DA.none dLE (fun g=>ofC g.1) (fun g=>[g.1.length≤KS])) (conL_ok (pure_none rof_ok))
end Go.Proofs.Ytiipneclghnfhaa

namespace Go.Proofs.Ytiipneclghnfhaa
open Go.RowKit Go.Sx
set_option maxRecDepth 100000
set_option linter.unusedVariables false
noncomputable def rins_F (xs:List T) (t:T):Dv.T dLBE:=
 bif chkC (eT.lst xs.length (eT.els xs)) != (0:Int) then ([],false,chkC (eT.lst xs.length (eT.els xs)))
 else bif rtcheck_F t != (0:Int) then ([],false,rtcheck_F t) else bif (ofC (List.map (fun x=>eT.get []) (List.range (min (min ((0:Nat)+xs.length+(1:Nat)) ((0:Nat)+xs.length)) (0:Nat)))++eT.lst (min ((0:Nat)+xs.length+(1:Nat)) ((0:Nat)+xs.length) - (0:Nat)) (eT.els xs)++List.map (fun x=>t) (List.range ((0:Nat)+xs.length+(1:Nat) - ((0:Nat)+xs.length))))).snd != (0:Int) then ([],false,(ofC (List.map (fun x=>eT.get []) (List.range (min (min ((0:Nat)+xs.length+(1:Nat)) ((0:Nat)+xs.length)) (0:Nat)))++eT.lst (min ((0:Nat)+xs.length+(1:Nat)) ((0:Nat)+xs.length) - (0:Nat)) (eT.els xs)++List.map (fun x=>t) (List.range ((0:Nat)+xs.length+(1:Nat) - ((0:Nat)+xs.length))))).snd) else (eT.lst (ofC (List.map (fun x=>eT.get []) (List.range (min (min ((0:Nat)+xs.length+(1:Nat)) ((0:Nat)+xs.length)) (0:Nat)))++eT.lst (min ((0:Nat)+xs.length+(1:Nat)) ((0:Nat)+xs.length) - (0:Nat)) (eT.els xs)++List.map (fun x=>t) (List.range ((0:Nat)+xs.length+(1:Nat) - ((0:Nat)+xs.length))))).fst.length (eT.els (ofC (List.map (fun x=>eT.get []) (List.range (min (min ((0:Nat)+xs.length+(1:Nat)) ((0:Nat)+xs.length)) (0:Nat)))++eT.lst (min ((0:Nat)+xs.length+(1:Nat)) ((0:Nat)+xs.length) - (0:Nat)) (eT.els xs)++List.map (fun x=>t) (List.range ((0:Nat)+xs.length+(1:Nat) - ((0:Nat)+xs.length))))).fst),!decide (eT.lst (ofC (List.map (fun x=>eT.get []) (List.range (min (min ((0:Nat)+xs.length+(1:Nat)) ((0:Nat)+xs.length)) (0:Nat)))++eT.lst (min ((0:Nat)+xs.length+(1:Nat)) ((0:Nat)+xs.length) - (0:Nat)) (eT.els xs)++List.map (fun x=>t) (List.range ((0:Nat)+xs.length+(1:Nat) - ((0:Nat)+xs.length))))).fst.length (eT.els (ofC (List.map (fun x=>eT.get []) (List.range (min (min ((0:Nat)+xs.length+(1:Nat)) ((0:Nat)+xs.length)) (0:Nat)))++eT.lst (min ((0:Nat)+xs.length+(1:Nat)) ((0:Nat)+xs.length) - (0:Nat)) (eT.els xs)++List.map (fun x=>t) (List.range ((0:Nat)+xs.length+(1:Nat) - ((0:Nat)+xs.length))))).fst)=eT.lst xs.length (eT.els xs)),(0:Int))
def rins_side (xs:List T) (t:T):Prop:=
 (∀ (e:Nat),e<xs.length→eT.Ok (eT.els xs e))∧((chkC (eT.lst xs.length (eT.els xs)) != (0:Int))=false→(rtcheck_F t != (0:Int))=false→(True∧(∀ (e:Nat),e<xs.length→(eT.els xs e).all SV.one=true)∧(0:Nat)+xs.length≤maxLen∧((0:Nat)+xs.length) * Try.prog.types[(30:Nat)].bytes≤(140737488355328:Nat))∧((0:Nat)+xs.length≤(0:Nat)+xs.length∧True∧(0:Nat)+xs.length+(1:Nat)≤maxLen∧((0:Nat)+xs.length+(1:Nat)) * Try.prog.types[(30:Nat)].bytes≤(140737488355328:Nat))∧(0:Nat)+xs.length+(1:Nat)≤(0:Nat)+xs.length+(1:Nat)∧(∀ (e:Nat),e<min (min ((0:Nat)+xs.length+(1:Nat)) ((0:Nat)+xs.length)) (0:Nat)→eT.OkP [])∧(∀ (e:Nat),e<min ((0:Nat)+xs.length+(1:Nat)) ((0:Nat)+xs.length) - (0:Nat)→True)∧(∀ (e:Nat),e<(0:Nat)+xs.length+(1:Nat) - ((0:Nat)+xs.length)→True)∧(List.map (fun x=>eT.get []) (List.range (min (min ((0:Nat)+xs.length+(1:Nat)) ((0:Nat)+xs.length)) (0:Nat)))++eT.lst (min ((0:Nat)+xs.length+(1:Nat)) ((0:Nat)+xs.length) - (0:Nat)) (eT.els xs)++List.map (fun x=>t) (List.range ((0:Nat)+xs.length+(1:Nat) - ((0:Nat)+xs.length)))).length≤KS∧(((ofC (List.map (fun x=>eT.get []) (List.range (min (min ((0:Nat)+xs.length+(1:Nat)) ((0:Nat)+xs.length)) (0:Nat)))++eT.lst (min ((0:Nat)+xs.length+(1:Nat)) ((0:Nat)+xs.length) - (0:Nat)) (eT.els xs)++List.map (fun x=>t) (List.range ((0:Nat)+xs.length+(1:Nat) - ((0:Nat)+xs.length))))).snd != (0:Int))=false→(∀ (e:Nat),e<(ofC (List.map (fun x=>eT.get []) (List.range (min (min ((0:Nat)+xs.length+(1:Nat)) ((0:Nat)+xs.length)) (0:Nat)))++eT.lst (min ((0:Nat)+xs.length+(1:Nat)) ((0:Nat)+xs.length) - (0:Nat)) (eT.els xs)++List.map (fun x=>t) (List.range ((0:Nat)+xs.length+(1:Nat) - ((0:Nat)+xs.length))))).fst.length→eT.Ok (eT.els (ofC (List.map (fun x=>eT.get []) (List.range (min (min ((0:Nat)+xs.length+(1:Nat)) ((0:Nat)+xs.length)) (0:Nat)))++eT.lst (min ((0:Nat)+xs.length+(1:Nat)) ((0:Nat)+xs.length) - (0:Nat)) (eT.els xs)++List.map (fun x=>t) (List.range ((0:Nat)+xs.length+(1:Nat) - ((0:Nat)+xs.length))))).fst e))∧(∀ (e:Nat),e<xs.length→eT.Ok (eT.els xs e))∧∀ (e:Nat),e<(ofC (List.map (fun x=>eT.get []) (List.range (min (min ((0:Nat)+xs.length+(1:Nat)) ((0:Nat)+xs.length)) (0:Nat)))++eT.lst (min ((0:Nat)+xs.length+(1:Nat)) ((0:Nat)+xs.length) - (0:Nat)) (eT.els xs)++List.map (fun x=>t) (List.range ((0:Nat)+xs.length+(1:Nat) - ((0:Nat)+xs.length))))).fst.length→eT.Ok (eT.els (ofC (List.map (fun x=>eT.get []) (List.range (min (min ((0:Nat)+xs.length+(1:Nat)) ((0:Nat)+xs.length)) (0:Nat)))++eT.lst (min ((0:Nat)+xs.length+(1:Nat)) ((0:Nat)+xs.length) - (0:Nat)) (eT.els xs)++List.map (fun x=>t) (List.range ((0:Nat)+xs.length+(1:Nat) - ((0:Nat)+xs.length))))).fst e)))
theorem rins_okS (pre:DA.T aLT→List Prop) (h:∀ g,DA.bd aLT g→(∀ p∈pre g,p)→rins_side g.1 g.2):FnPure Try.prog 32 aLT dLBE (fun g=>rins_F g.1 g.2) pre:=pure_of_sideS (Γ:=(MTab.gamz tabY [] [])) (Λ:=noΛ) (MTab.okz tabY [] []) noΛ_ok 100 default (fun g=>rins_side g.1 g.2) (fun g=>by kernel_rfl) (fun g=>by kernel_rfl) h
noncomputable def rmt_F (xs:List T) (ys:List T):Dv.T dLE:=
 bif bothC (eT.lst xs.length (eT.els xs)) (eT.lst ys.length (eT.els ys)) != (0:Int) then ([],bothC (eT.lst xs.length (eT.els xs)) (eT.lst ys.length (eT.els ys)))
 else (eT.lst (ofC (List.map (fun x=>eT.get []) (List.range (min (min ((0:Nat)+xs.length+ys.length) ((0:Nat)+xs.length)) (0:Nat)))++eT.lst (min ((0:Nat)+xs.length+ys.length) ((0:Nat)+xs.length) - (0:Nat)) (eT.els xs)++eT.lst ((0:Nat)+xs.length+ys.length - ((0:Nat)+xs.length)) (eT.els ys))).fst.length (eT.els (ofC (List.map (fun x=>eT.get []) (List.range (min (min ((0:Nat)+xs.length+ys.length) ((0:Nat)+xs.length)) (0:Nat)))++eT.lst (min ((0:Nat)+xs.length+ys.length) ((0:Nat)+xs.length) - (0:Nat)) (eT.els xs)++eT.lst ((0:Nat)+xs.length+ys.length - ((0:Nat)+xs.length)) (eT.els ys))).fst),(ofC (List.map (fun x=>eT.get []) (List.range (min (min ((0:Nat)+xs.length+ys.length) ((0:Nat)+xs.length)) (0:Nat)))++eT.lst (min ((0:Nat)+xs.length+ys.length) ((0:Nat)+xs.length) - (0:Nat)) (eT.els xs)++eT.lst ((0:Nat)+xs.length+ys.length - ((0:Nat)+xs.length)) (eT.els ys))).snd)
def rmt_side (xs:List T) (ys:List T):Prop:=
 (∀ (e:Nat),e<xs.length→eT.Ok (eT.els xs e))∧(∀ (e:Nat),e<ys.length→eT.Ok (eT.els ys e))∧((bothC (eT.lst xs.length (eT.els xs)) (eT.lst ys.length (eT.els ys)) != (0:Int))=false→(True∧(∀ (e:Nat),e<xs.length→(eT.els xs e).all SV.one=true)∧(0:Nat)+xs.length≤maxLen∧((0:Nat)+xs.length) * Try.prog.types[(30:Nat)].bytes≤(140737488355328:Nat))∧((0:Nat)+xs.length≤(0:Nat)+xs.length∧(∀ (e:Nat),e<ys.length→(eT.els ys e).all SV.one=true)∧(0:Nat)+xs.length+ys.length≤maxLen∧((0:Nat)+xs.length+ys.length) * Try.prog.types[(30:Nat)].bytes≤(140737488355328:Nat))∧(0:Nat)+xs.length+ys.length≤(0:Nat)+xs.length+ys.length∧(∀ (e:Nat),e<min (min ((0:Nat)+xs.length+ys.length) ((0:Nat)+xs.length)) (0:Nat)→eT.OkP [])∧(∀ (e:Nat),e<min ((0:Nat)+xs.length+ys.length) ((0:Nat)+xs.length) - (0:Nat)→True)∧(∀ (e:Nat),e<(0:Nat)+xs.length+ys.length - ((0:Nat)+xs.length)→True)∧(List.map (fun x=>eT.get []) (List.range (min (min ((0:Nat)+xs.length+ys.length) ((0:Nat)+xs.length)) (0:Nat)))++eT.lst (min ((0:Nat)+xs.length+ys.length) ((0:Nat)+xs.length) - (0:Nat)) (eT.els xs)++eT.lst ((0:Nat)+xs.length+ys.length - ((0:Nat)+xs.length)) (eT.els ys)).length≤KS∧∀ (e:Nat),e<(ofC (List.map (fun x=>eT.get []) (List.range (min (min ((0:Nat)+xs.length+ys.length) ((0:Nat)+xs.length)) (0:Nat)))++eT.lst (min ((0:Nat)+xs.length+ys.length) ((0:Nat)+xs.length) - (0:Nat)) (eT.els xs)++eT.lst ((0:Nat)+xs.length+ys.length - ((0:Nat)+xs.length)) (eT.els ys))).fst.length→eT.Ok (eT.els (ofC (List.map (fun x=>eT.get []) (List.range (min (min ((0:Nat)+xs.length+ys.length) ((0:Nat)+xs.length)) (0:Nat)))++eT.lst (min ((0:Nat)+xs.length+ys.length) ((0:Nat)+xs.length) - (0:Nat)) (eT.els xs)++eT.lst ((0:Nat)+xs.length+ys.length - ((0:Nat)+xs.length)) (eT.els ys))).fst e))
theorem rmt_okS (pre:DA.T aLL→List Prop) (h:∀ g,DA.bd aLL g→(∀ p∈pre g,p)→rmt_side g.1 g.2):FnPure Try.prog 52 aLL dLE (fun g=>rmt_F g.1 g.2) pre:=pure_of_sideS (Γ:=(MTab.gamz tabY [] [])) (Λ:=noΛ) (MTab.okz tabY [] []) noΛ_ok 100 default (fun g=>rmt_side g.1 g.2) (fun g=>by kernel_rfl) (fun g=>by kernel_rfl) h
end Go.Proofs.Ytiipneclghnfhaa

namespace Go.Proofs.Ytiipneclghnfhaa
open Go.RowKit Go.Sx Go.Lp
theorem chk_len {xs:List T} (h:(chkC xs != 0)=false):xs.length≤1024:=by
 unfold chkC at h
 by_cases hl:(xs.length:Int) > 1024
 ·simp[hl] at h
 ·omega
theorem j1_eq (xs:List T) (t:T):List.map (fun _=>eT.get []) (List.range (min (min (0+xs.length+1) (0+xs.length)) 0))++eT.lst (min (0+xs.length+1) (0+xs.length) - 0) (eT.els xs)++List.map (fun _=>t) (List.range (0+xs.length+1 - (0+xs.length)))=xs++[t]:=by
 have h1:min (0+xs.length+1) (0+xs.length)=xs.length:=by omega
 have h2:min xs.length 0=0:=by omega
 have h3:0+xs.length+1 - (0+xs.length)=1:=by omega
 rw[h1,h2,h3,Nat.sub_zero,eT.lst_els]
 rfl
theorem j2_eq (xs ys:List T):List.map (fun _=>eT.get []) (List.range (min (min (0+xs.length+ys.length) (0+xs.length)) 0))++eT.lst (min (0+xs.length+ys.length) (0+xs.length) - 0) (eT.els xs)++eT.lst (0+xs.length+ys.length - (0+xs.length)) (eT.els ys)=xs++ys:=jnd_eq xs ys
noncomputable def insC (xs:List T) (t:T):List T×Bool×Int:=
 bif chkC xs != 0 then ([],false,chkC xs)
 else bif tcheck_F t != 0 then ([],false,tcheck_F t)
 else bif (ofC (xs++[t])).2 != 0 then ([],false,(ofC (xs++[t])).2)
 else ((ofC (xs++[t])).1,!decide ((ofC (xs++[t])).1=xs),0)
theorem rins_ok:FnPure Try.prog 32 aLT dLBE (fun g=>insC g.1 g.2) (fun _=>[]):=by
 refine pure_congr (rins_okS _ fun g hb hp=>?_) fun g hb hp=>?_
 ·obtain ⟨xs,t⟩:=g
  show rins_side xs t
  unfold rins_side
  simp only[eT.lst_els,j1_eq,bytesT]
  refine ⟨okT _,fun hc _=>?_⟩
  have hl:=chk_len hc
  have ha:=okT xs
  have hb:=okT (ofC (xs++[t])).1
  have hk:(xs++[t]).length≤KS:=by unfold KS;simp;omega
  have ho:=fun e=>onesT xs e
  unfold maxLen
  repeat' (first | exact ha | exact hb | exact hk | exact ho _ | exact rfl | apply And.intro | intro _)
  all_goals (first | trivial | omega)
 ·obtain ⟨xs,t⟩:=g
  show rins_F xs t=insC xs t
  unfold rins_F insC
  simp only[eT.lst_els,j1_eq,rtcheck_eq]
noncomputable def meetC (xs ys:List T):List T×Int:=bif bothC xs ys != 0 then ([],bothC xs ys) else ofC (xs++ys)
theorem both_len {xs ys:List T} (h:(bothC xs ys != 0)=false):xs.length≤1024∧ys.length≤1024:=by
 unfold bothC at h
 cases h1:(chkC xs != 0) with
 | true=>simp only[h1,cond_true] at h;cases h
 | false=>
  simp only[h1,cond_false] at h
  cases h2:(chkC ys != 0) with
  | true=>simp only[h2,cond_true] at h;cases h
  | false=>exact ⟨chk_len h1,chk_len h2⟩
theorem rmt_ok:FnPure Try.prog 52 aLL dLE (fun g=>meetC g.1 g.2) (fun _=>[]):=by
 refine pure_congr (rmt_okS _ fun g hb hp=>?_) fun g hb hp=>?_
 ·obtain ⟨xs,ys⟩:=g
  show rmt_side xs ys
  unfold rmt_side
  simp only[eT.lst_els,j2_eq,bytesT]
  have ha:=okT xs
  have hb:=okT ys
  have hd:=okT (ofC (xs++ys)).1
  refine ⟨ha,hb,fun hc=>?_⟩
  obtain ⟨hl,hl2⟩:=both_len hc
  have hk:(xs++ys).length≤KS:=by unfold KS;simp;omega
  have ho:=fun e=>onesT xs e
  have ho2:=fun e=>onesT ys e
  unfold maxLen
  repeat' (first | exact ha | exact hb | exact hd | exact hk | exact ho _ | exact ho2 _ | exact rfl | apply And.intro | intro _)
  all_goals (first | trivial | omega)
 ·obtain ⟨xs,ys⟩:=g
  show rmt_F xs ys=meetC xs ys
  unfold rmt_F meetC
  simp only[eT.lst_els,j2_eq]
noncomputable def tabZ:PTab Try.prog:=(tabXa.cons 32 (pconR aLT dLBE (fun g=>insC g.1 g.2) (fun _=>[])) (conR_ok rins_ok)).cons 52 (pconR aLL dLE (fun g=>meetC g.1 g.2) (fun _=>[])) (conR_ok rmt_ok)
end Go.Proofs.Ytiipneclghnfhaa

namespace Go.Proofs.Ytiipneclghnfhaa
open Go.RowKit Go.Sx Go.Lp
theorem cl0 (xs:List T):List.map (fun _=>eT.get []) (List.range (min (0+xs.length) 0))++eT.lst (0+xs.length - 0) (eT.els xs)=xs:=by
 have h2:min (0+xs.length) 0=0:=by omega
 rw[h2,show 0+xs.length - 0=xs.length by omega,eT.lst_els]
 rfl
theorem srt_len (xs:List T):(srtBy cfT xs).length=xs.length:=(List.mergeSort_perm _ _).length_eq
theorem dd_len:∀ (r:List T) (p:T),(dd p r).length≤r.length
 | [],_=>Nat.le_refl _
 | y :: r,p=>by
  unfold dd
  split
  ·exact Nat.le_succ_of_le (dd_len r _)
  ·exact Nat.succ_le_succ (dd_len r _)
theorem comp_len (xs:List T):(compL xs).length≤xs.length:=by
 cases xs with
 | nil=>exact Nat.le_refl _
 | cons x r=>exact Nat.succ_le_succ (dd_len r x)
theorem cof_q (xs:List T) (h:xs.length≤KS):∃ a b c d,cof_q1 xs=(.exit 0,minsT xs,a,b,c,d):=by
 unfold cof_q1
 simp only[cl0,eT.lst_els]
 have hl:(compL (srtBy cfT xs)).length≤KS:=Nat.le_trans (comp_len _) (by rw[srt_len];exact h)
 have h1:=of2_run (compL (srtBy cfT xs)) hl
 rw[greedy_mins poT toT] at h1
 exact ⟨_,_,_,_,h1⟩
theorem cof_q0 (xs:List T):∃ a b c d,cof_q2 xs=(.exit 0,[],a,b,c,d):=⟨_,_,_,_,of2_run [] (Nat.zero_le _)⟩
theorem cof_eq (xs:List T) (h:xs.length≤KS):cof_F xs=ofC xs∧cof_side xs:=by
 have hm:xs.length≤1000000:=h
 have hl:(compL (srtBy cfT xs)).length≤KS:=Nat.le_trans (comp_len _) (by rw[srt_len];exact h)
 have hl2:(compL (srtBy cfT xs)).length≤maxLen:=Nat.le_trans hl (by unfold KS maxLen;omega)
 obtain ⟨a,b,c,d,h1⟩:=cof_q xs h
 obtain ⟨a',b',c',d',h2⟩:=cof_q0 xs
 unfold cof_F cof_side
 rw[h1,h2]
 simp only[cl0,eT.lst_els,bytesT]
 refine ⟨rfl,okT xs,fun _ cs hcs=>⟨fun hc=>?_,fun _=>?_⟩⟩
 ·have hx:xs=[]:=List.length_eq_zero_iff.1 (hcs (by cases hh:cs.isEmpty with
   | true=>rw[hh] at hc;cases hc
   | false=>rfl))
  subst hx
  refine ⟨trivial,fun e he=>by omega,by omega,trivial,fun e he=>by omega,fun _ _=>trivial,?_,fun hc=>(by cases hc),fun _=>⟨fun hc=>(by cases hc),fun _=>⟨Nat.le_refl _,fun _ _=>trivial,fun _=>rfl⟩⟩⟩
  exact ixJ0 (lim:=fun c:of2_GC=>c.2.1) (xs:=fun c:of2_GC=>c.1) (P:=of2_K) (c:=([],0,0)) (b:=[]) rfl (Nat.zero_le _) ⟨Nat.zero_le _,Int.le_refl _,rfl⟩
 ·refine ⟨⟨Nat.le_refl _,fun e _=>onesT xs e,by unfold maxLen;omega,by omega⟩,trivial,fun e he=>by omega,fun _ _=>trivial,by omega,by rw[show (fun a b=>tcmp_F a b)=cfT from rfl,srt_len];omega,fun _ _=>trivial,fun _ _=>trivial,?_,fun hc=>(by cases hc),fun _=>⟨fun hc d=>?_,fun hc=>⟨Nat.le_refl _,fun _ _=>trivial,fun d=>?_⟩⟩⟩
  ·exact ixJ0 (lim:=fun c:of2_GC=>c.2.1) (xs:=fun c:of2_GC=>c.1) (P:=of2_K) (c:=(compL (srtBy cfT xs),((compL (srtBy cfT xs)).length:Int),(compL (srtBy cfT xs)).length)) (b:=[]) rfl hl2 ⟨hl,Int.le_refl _,rfl⟩
  ·rw[hc];rfl
  ·rw[hc];rfl
theorem cof_ok:FnPure Try.prog 18 aL dLE ofC (fun g=>[g.length≤KS]):=
 pure_congr (cof_okS _ fun g _ hp=>(cof_eq g (hp _ (List.mem_cons_self ..))).2) fun g _ hp=>(cof_eq g (hp _ (List.mem_cons_self ..))).1
noncomputable def tabA:MTab Try.prog:=((MTab.of tabZ).consM 31 (lconR eT DA.none dLE (fun g=>ofC g.1) (fun g=>[g.1.length≤KS])) (conL_ok (pure_none rof_ok))).consM 18 (lconR eT DA.none dLE (fun g=>ofC g.1) (fun g=>[g.1.length≤KS])) (conL_ok (pure_none cof_ok))
end Go.Proofs.Ytiipneclghnfhaa

namespace Go.Proofs.Ytiipneclghnfhaa
open Go.RowKit Go.Sx
set_option maxRecDepth 100000
set_option linter.unusedVariables false
structure Y where
 t:T
 n:Int
deriving DecidableEq,Inhabited
def Y.ofP:T×Int→Y:=fun (t,n)=>⟨t,n⟩
def Y.toP (y:Y):T×Int:=(y.t,y.n)
def eY:El Y:=.iso (.pair eT eI) Y.ofP Y.toP (fun _=>rfl) (fun _=>rfl)
abbrev eM:El I2:=.pair eI eI
abbrev dY:Dv Y:=.agg eY
abbrev dM:Dv I2:=.agg eM
abbrev dIB:Dv (Int×Bool):=.tup (.cons dI (.one dBool))
abbrev aM:DA I2:=.one dM
abbrev aMI:DA (I2×Int):=.cons dM (.one dI)
abbrev aYY:DA (Y×Y):=.cons dY (.one dY)
theorem puM (r:I2):Pu (dM.enc r):=pu_agg (pus_cons (pu_v _) (pus_cons (pu_v _) pus_nil))
theorem puIB (r:Int×Bool):Pu (dIB.enc r):=pu_tup (pus_cons (pu_v _) (pus_cons (pu_v _) pus_nil))
noncomputable def ywi_F (n:Int):Dv.T dBool:=
 decide (n≥(-1099511627776:Int))&&decide (n≤(1099511627776:Int))
theorem ywi_ok:FnPure Try.prog 82 aI dBool (fun g=>ywi_F g) (fun _=>[]):=pure_of_safe (Γ:=(MTab.gamz tabA [] [])) (Λ:=noΛ) (MTab.okz tabA [] []) noΛ_ok 100 default (fun g=>by kernel_rfl) (fun g=>by kernel_rfl)
noncomputable def rwi_F (n:Int):Dv.T dBool:=
 decide (n≥(-1099511627776:Int))&&decide (n≤(1099511627776:Int))
theorem rwi_ok:FnPure Try.prog 110 aI dBool (fun g=>rwi_F g) (fun _=>[]):=pure_of_safe (Γ:=(MTab.gamz tabA [] [])) (Λ:=noΛ) (MTab.okz tabA [] []) noΛ_ok 100 default (fun g=>by kernel_rfl) (fun g=>by kernel_rfl)
noncomputable def ycf_F (a:Y) (b:Y):Dv.T dI:=
 tcmp_F a.t b.t
theorem ycf_ok:FnPure Try.prog 86 aYY dI (fun g=>ycf_F g.1 g.2) (fun _=>[]):=pure_of_safe (Γ:=(MTab.gamz tabA [] [])) (Λ:=noΛ) (MTab.okz tabA [] []) noΛ_ok 100 default (fun g=>by kernel_rfl) (fun g=>by kernel_rfl)
noncomputable def sad_F (s:I2) (n:Int):Dv.T dM:=
 (IntKind.i64.wrap (s.fst+IntKind.i64.wrap ((IntKind.i64.wrap (s.snd+n)).tdiv (2199023255552:Int))),(IntKind.i64.wrap (s.snd+n)).tmod (2199023255552:Int))
def sad_side (s:I2) (n:Int):Prop:=
 (2199023255552:Int)≠(0:Int)∧(2199023255552:Int)≠(0:Int)
theorem sad_okS (pre:DA.T aMI→List Prop) (h:∀ g,DA.bd aMI g→(∀ p∈pre g,p)→sad_side g.1 g.2):FnPure Try.prog 83 aMI dM (fun g=>sad_F g.1 g.2) pre:=pure_of_sideS (Γ:=(MTab.gamz tabA [] [])) (Λ:=noΛ) (MTab.okz tabA [] []) noΛ_ok 100 default (fun g=>sad_side g.1 g.2) (fun g=>by kernel_rfl) (fun g=>by kernel_rfl) h
noncomputable def swh_F (s:I2):Dv.T dIB:=
 bif decide (s.fst<(-2:Int))||decide (s.fst > (2:Int)) then ((0:Int),false)
 else (IntKind.i64.wrap (IntKind.i64.wrap ((2199023255552:Int) * s.fst)+s.snd),decide (IntKind.i64.wrap (IntKind.i64.wrap ((2199023255552:Int) * s.fst)+s.snd)≥(-1099511627776:Int))&&decide (IntKind.i64.wrap (IntKind.i64.wrap ((2199023255552:Int) * s.fst)+s.snd)≤(1099511627776:Int)))
theorem swh_ok:FnPure Try.prog 84 aM dIB (fun g=>swh_F g) (fun _=>[]):=pure_of_safe (Γ:=(MTab.gamz tabA [] [])) (Λ:=noΛ) (MTab.okz tabA [] []) noΛ_ok 100 default (fun g=>by kernel_rfl) (fun g=>by kernel_rfl)
noncomputable def tabU1:MTab Try.prog:=((((tabA).cons 82 (pconP aI dBool (fun g=>ywi_F g) (fun _=>[])) (conP_ok ywi_ok puB)).cons 110 (pconP aI dBool (fun g=>rwi_F g) (fun _=>[])) (conP_ok rwi_ok puB)).cons 86 (pconP aYY dI (fun g=>ycf_F g.1 g.2) (fun _=>[])) (conP_ok ycf_ok puI)).cons 84 (pconP aM dIB (fun g=>swh_F g) (fun _=>[])) (conP_ok swh_ok puIB)
end Go.Proofs.Ytiipneclghnfhaa

namespace Go.Proofs.Ytiipneclghnfhaa
open Go.RowKit Go.Sx Go.Lp Go.Shelf
def sortY_ren:Go.Shelf.Ren:=⟨fun | 6=>85 | 15=>115 | 14=>122 | 28=>143 | 29=>144 | 20=>147 | 21=>148 | 22=>149 | 23=>150 | 24=>151 | 25=>152 | 26=>153 | 27=>154 | 46=>162 | 47=>158 | 48=>159 | 49=>163 | 50=>164 | 57=>166 | n=>n,fun | 22=>40 | 24=>45 | 25=>97 | 3=>3 | 39=>117 | 0=>0 | 53=>147 | 55=>149 | 4=>4 | 46=>140 | 45=>139 | 50=>144 | 5=>5 | 9=>9 | 66=>160 | 70=>164 | 76=>168 | 77=>169 | n=>n,fun | n=>n⟩
theorem sortY:SlLaysF0.n6 Try.prog sortY_ren:={
 mixed:=by kernel_rfl,
 f6:=⟨Try.f85.name,by decide,Try.func85.trans (congrArg some (by kernel_rfl))⟩,
 f14:=⟨Try.f122.name,by decide,Try.func122.trans (congrArg some (by kernel_rfl))⟩,
 f15:=Try.func115.trans (congrArg some (by kernel_rfl)),
 f20:=⟨Try.f147.name,by decide,Try.func147.trans (congrArg some (by kernel_rfl))⟩,
 f21:=⟨Try.f148.name,by decide,Try.func148.trans (congrArg some (by kernel_rfl))⟩,
 f22:=⟨Try.f149.name,by decide,Try.func149.trans (congrArg some (by kernel_rfl))⟩,
 f23:=⟨Try.f150.name,by decide,Try.func150.trans (congrArg some (by kernel_rfl))⟩,
 f24:=⟨Try.f151.name,by decide,Try.func151.trans (congrArg some (by kernel_rfl))⟩,
 f25:=⟨Try.f152.name,by decide,Try.func152.trans (congrArg some (by kernel_rfl))⟩,
 f26:=⟨Try.f153.name,by decide,Try.func153.trans (congrArg some (by kernel_rfl))⟩,
 f27:=⟨Try.f154.name,by decide,Try.func154.trans (congrArg some (by kernel_rfl))⟩,
 f28:=Try.func143.trans (congrArg some (by kernel_rfl)),
 f29:=Try.func144.trans (congrArg some (by kernel_rfl)),
 f46:=⟨Try.f162.name,by decide,Try.func162.trans (congrArg some (by kernel_rfl))⟩,
 f47:=Try.func158.trans (congrArg some (by kernel_rfl)),
 f48:=Try.func159.trans (congrArg some (by kernel_rfl)),
 f49:=⟨Try.f163.name,by decide,Try.func163.trans (congrArg some (by kernel_rfl))⟩,
 f50:=⟨Try.f164.name,by decide,Try.func164.trans (congrArg some (by kernel_rfl))⟩,
 f57:=⟨Try.f166.name,by decide,Try.func166.trans (congrArg some (by kernel_rfl))⟩,
 t0:=Try.underlying0,
 a0:=Try.isAgg0,
 z0:=Try.sizeOf0,
 v0:=Try.zeroValue0,
 t3:=Try.underlying3,
 a3:=Try.isAgg3,
 z3:=Try.sizeOf3,
 v3:=Try.zeroValue3,
 t4:=Try.underlying4,
 a4:=Try.isAgg4,
 z4:=Try.sizeOf4,
 v4:=Try.zeroValue4,
 t5:=Try.underlying5,
 a5:=Try.isAgg5,
 z5:=Try.sizeOf5,
 v5:=Try.zeroValue5,
 t9:=Try.underlying9,
 a9:=Try.isAgg9,
 z9:=Try.sizeOf9,
 v9:=Try.zeroValue9,
 t22:=Try.underlying40,
 a22:=Try.isAgg40,
 z22:=Try.sizeOf40,
 v22:=Try.zeroValue40,
 t25:=Try.underlying97,
 a25:=Try.isAgg97,
 z25:=Try.sizeOf97,
 v25:=Try.zeroValue97,
 t39:=Try.underlying117,
 a39:=Try.isAgg117,
 z39:=Try.sizeOf117,
 v39:=Try.zeroValue117,
 t45:=Try.underlying139,
 a45:=Try.isAgg139,
 z45:=Try.sizeOf139,
 v45:=Try.zeroValue139,
 t46:=Try.underlying140,
 a46:=Try.isAgg140,
 z46:=Try.sizeOf140,
 v46:=Try.zeroValue140,
 t50:=Try.underlying144,
 a50:=Try.isAgg144,
 z50:=Try.sizeOf144,
 v50:=Try.zeroValue144,
 t53:=Try.underlying147,
 a53:=Try.isAgg147,
 z53:=Try.sizeOf147,
 v53:=Try.zeroValue147,
 t55:=Try.underlying149,
 a55:=Try.isAgg149,
 z55:=Try.sizeOf149,
 v55:=Try.zeroValue149,
 t66:=Try.underlying160,
 a66:=Try.isAgg160,
 z66:=Try.sizeOf160,
 v66:=Try.zeroValue160,
 t70:=Try.underlying164,
 a70:=Try.isAgg164,
 z70:=Try.sizeOf164,
 v70:=Try.zeroValue164,
 t76:=Try.underlying168,
 a76:=Try.isAgg168,
 z76:=Try.sizeOf168,
 v76:=Try.zeroValue168,
 t77:=Try.underlying169,
 a77:=Try.isAgg169,
 z77:=Try.sizeOf169,
 v77:=Try.zeroValue169 }
abbrev aFn86:DA Unit:=.one (dFn 86)
noncomputable def cfY (a b:Y):Int:=tcmp_F a.t b.t
theorem swoY:Go.Sort.SWO fun x y=>decide (cfY x y<0):=⟨fun x=>toT.swo.irrefl x.t,fun x y z=>toT.swo.trans x.t y.t z.t,fun x y z=>toT.swo.ntrans x.t y.t z.t⟩
def preSortY (xs:List Y) (_:Unit):List Prop:=[xs.length<4611686018427387904,Anti cfY xs]
theorem sortYF_ok:FnMut Try.prog 85 45 eY aFn86 (.pure dUn0) (fun xs _=>(srtBy cfY xs,())) preSortY:=by
 have h:=sort_mut (P:=Try.prog) (A:=eY) (t:=45) (g:=86) (cf:=cfY) (pre:=fun _=>[]) sortY Try.isAgg45 Try.sizeOf45 (by decide) (Go.Proofs.enters_of Try.func86 (by kernel_rfl) rfl) swoY ycf_ok
 intro w F L xs g v0 vs h1 h2 h3 h4 h5 h6
 refine h w F L xs g v0 vs h1 h2 h3 (fun p hp=>?_) h5 h6
 simp only[List.mem_cons,List.not_mem_nil,or_false] at hp
 rcases hp with rfl | rfl | rfl
 ·exact h4 _ (List.mem_cons_self ..)
 ·exact h4 _ (List.mem_cons_of_mem _ (List.mem_cons_self ..))
 ·exact fun x _ y _ p hp=>by cases hp
theorem sad_ok:FnPure Try.prog 83 aMI dM (fun g=>sad_F g.1 g.2) (fun _=>[]):=sad_okS _ fun _ _ _=>⟨by decide,by decide⟩
noncomputable def tabU2:MTab Try.prog:=(tabU1.cons 83 (pconP aMI dM (fun g=>sad_F g.1 g.2) (fun _=>[])) (conP_ok sad_ok puM)).consM 85 (bconM 45 eY aFn86 (.pure dUn0) (fun xs _=>(srtBy cfY xs,())) preSortY) (conM_ok sortYF_ok)
end Go.Proofs.Ytiipneclghnfhaa
