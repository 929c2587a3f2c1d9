/- Chapter 4: what a multiset tells: loops. Printed by treegen.py. -/
import Derived.Test.YtiipneclghnfhaaZG1111ff65
import Derived.Test.YtiipneclghnfhaaZG0786cf4e
set_option linter.unusedVariables false
set_option linter.unusedSimpArgs false
set_option linter.constructorNameAsVariable false
set_option linter.all false

namespace Go.Proofs.Ytiipneclghnfhaa
open Go.RowKit Go.Sx
set_option maxRecDepth 100000
set_option linter.unusedVariables false
noncomputable def rkc_q1 (xs:List Y):Ex ×
 kc_G:=
 loopF (fun g=>kc_R g.fst g.snd.fst g.snd.snd) kc_M (eY.lst xs.length (eY.els xs),(0:Int),(0:Int))
noncomputable def rkc_F (xs:List Y):Dv.T dI:=
 bif tmY (eY.lst xs.length (eY.els xs)) != (0:Int) then tmY (eY.lst xs.length (eY.els xs))
 else bif exB Ex.ret (rkc_q1 xs).fst then (rkc_q1 xs).snd.snd.snd else (0:Int)
def rkc_side (xs:List Y):Prop:=
 (∀ (e:Nat),e<xs.length→eY.Ok (eY.els xs e))∧((tmY (eY.lst xs.length (eY.els xs)) != (0:Int))=false→(∀ (e:Nat),e<xs.length→eY.Ok (eY.els xs e))∧Lp.ixJ (fun c=>(↑(List.length c):Int)) (fun c=>c) kc_K (kc_f (eY.lst xs.length (eY.els xs),(0:Int),(0:Int))))
theorem rkc_okS (pre:DA.T aLY→List Prop) (h:∀ g,DA.bd aLY g→(∀ p∈pre g,p)→rkc_side g):FnPure Try.prog 67 aLY dI (fun g=>rkc_F g) pre:=pure_of_sideS (Γ:=(MTab.gamz tabU10 [] [])) (Λ:=lamU6) (MTab.okz tabU10 [] []) lamU6_ok 100 default (fun g=>rkc_side g) (fun g=>by kernel_rfl) (fun g=>by kernel_rfl) h
abbrev ga_G:Type:=List Y×Int×Int×Unit×T×Int
noncomputable def ga_LP:LP 1 ga_G:=.pair (.slot 1 10 dLY) (.pair (.slot 1 11 dI) (.pair (.slot 1 12 dI) (.pair (.fix 1 3 (.p 0 0)) (.pair (.obj 1 0 30 eT) (.slot 1 4 dI)))))
noncomputable def ga_R (xs:List Y) (n:Int) (i:Int) (_u:Unit) (t:T) (r:Int):Ex×ga_G:=
 bif decide (i<n) then bif conj ([(xs.getD i.toNat eY.dflt).t.e==t.e]++([(xs.getD i.toNat eY.dflt).t.d==t.d]++([(xs.getD i.toNat eY.dflt).t.l0==t.l0]++([(xs.getD i.toNat eY.dflt).t.l1==t.l1]++([(xs.getD i.toNat eY.dflt).t.l2==t.l2]++([(xs.getD i.toNat eY.dflt).t.l3==t.l3]++[])))++[]))) then (Ex.ret,eY.lst xs.length (eY.els xs),n,i,(),t,(xs.getD i.toNat eY.dflt).n) else (Ex.normal,eY.lst xs.length (eY.els xs),n,IntKind.i64.wrap (i+(1:Int)),(),t,r)
 else (Ex.exit (0:Nat),eY.lst xs.length (eY.els xs),n,i,(),t,r)
def ga_side (xs:List Y) (n:Int) (i:Int) (_u:Unit) (t:T) (r:Int):Prop:=
 (decide (i<n)=true→((0:Int)≤i∧i<(↑xs.length:Int))∧(conj ([(xs.getD i.toNat eY.dflt).t.e==t.e]++([(xs.getD i.toNat eY.dflt).t.d==t.d]++([(xs.getD i.toNat eY.dflt).t.l0==t.l0]++([(xs.getD i.toNat eY.dflt).t.l1==t.l1]++([(xs.getD i.toNat eY.dflt).t.l2==t.l2]++([(xs.getD i.toNat eY.dflt).t.l3==t.l3]++[])))++[])))=true→∀ (e:Nat),e<xs.length→eY.Ok (eY.els xs e))∧(conj ([(xs.getD i.toNat eY.dflt).t.e==t.e]++([(xs.getD i.toNat eY.dflt).t.d==t.d]++([(xs.getD i.toNat eY.dflt).t.l0==t.l0]++([(xs.getD i.toNat eY.dflt).t.l1==t.l1]++([(xs.getD i.toNat eY.dflt).t.l2==t.l2]++([(xs.getD i.toNat eY.dflt).t.l3==t.l3]++[])))++[])))=false→∀ (e:Nat),e<xs.length→eY.Ok (eY.els xs e)))∧(decide (i<n)=false→∀ (e:Nat),e<xs.length→eY.Ok (eY.els xs e))
theorem ga_one:((loopsOf Try.prog 40).filter fun c=>Nat.beq (lkey c) 4).length=1:=by kernel_rfl
abbrev ga_GC:Type:=List Y×Int×T
abbrev ga_GB:Type:=Unit×Int
def ga_f (g:ga_G):Int×ga_GC×ga_GB:=(g.2.2.1,(g.1,g.2.1,g.2.2.2.2.1),(g.2.2.2.1,g.2.2.2.2.2))
def ga_g (d:Int×ga_GC×ga_GB):ga_G:=(d.2.1.1,d.2.1.2.1,d.1,d.2.2.1,d.2.1.2.2,d.2.2.2)
theorem ga_es (g:ga_G):(ga_R g.1 g.2.1 g.2.2.1 g.2.2.2.1 g.2.2.2.2.1 g.2.2.2.2.2).1=.normal∨(ga_R g.1 g.2.1 g.2.2.1 g.2.2.2.1 g.2.2.2.2.1 g.2.2.2.2.2).1∈([.ret,.exit 0]:List Ex):=by
 unfold ga_R
 repeat' (first | (left;rfl) | (right;simp only[cond_true,cond_false];simp;done) | (rw[Bool.cond_eq_ite];split))
noncomputable abbrev ga_C (Inv:ga_G→List Prop) (m:ga_G→Nat):LCon:=loopR [.ret,.exit 0] (loopBody Try.prog 40 4) ga_LP [] 23 Inv (fun g=>ga_R g.1 g.2.1 g.2.2.1 g.2.2.2.1 g.2.2.2.2.1 g.2.2.2.2.2) m
theorem ga_loop (Inv:ga_G→List Prop) (m:ga_G→Nat) (hs:∀ g,allP (Inv g)→ga_side g.1 g.2.1 g.2.2.1 g.2.2.2.1 g.2.2.2.2.1 g.2.2.2.2.2) (hg:Goes (fun g:ga_G=>ga_R g.1 g.2.1 g.2.2.1 g.2.2.2.1 g.2.2.2.2.1 g.2.2.2.2.2) m fun g=>allP (Inv g)):∀ b∈loopsOf Try.prog 40,lkey b=4→LoopOk Try.prog b (ga_C Inv m).g:=loop_run (Γ:=(MTab.gamz tabU10 [] [])) (Λ:=lamU6) (MTab.okz tabU10 [] []) lamU6_ok 100 40 4 23 ga_LP [] Inv (fun g=>ga_R g.1 g.2.1 g.2.2.1 g.2.2.2.1 g.2.2.2.2.1 g.2.2.2.2.2) (fun g=>ga_side g.1 g.2.1 g.2.2.1 g.2.2.2.1 g.2.2.2.2.1 g.2.2.2.2.2) m default [.ret,.exit 0] ga_one (fun rd T B HL HB ds g=>by kernel_rfl) (fun rd T B HL HB ds g=>by kernel_rfl) hs hg ga_es
abbrev gc_G:Type:=List Y×Int×Int×Unit×T×Int
noncomputable def gc_LP:LP 1 gc_G:=.pair (.slot 1 8 dLY) (.pair (.slot 1 9 dI) (.pair (.slot 1 10 dI) (.pair (.fix 1 3 (.p 0 0)) (.pair (.obj 1 0 30 eT) (.slot 1 5 dI)))))
noncomputable def gc_R (xs:List Y) (n:Int) (i:Int) (_u:Unit) (t:T) (r:Int):Ex×gc_G:=
 bif decide (i<n) then (Ex.normal,eY.lst xs.length (eY.els xs),n,IntKind.i64.wrap (i+(1:Int)),(),t,bif tleq_F (xs.getD i.toNat eY.dflt).t t then IntKind.i64.wrap (r+(xs.getD i.toNat eY.dflt).n) else r)
 else (Ex.exit (0:Nat),eY.lst xs.length (eY.els xs),n,i,(),t,r)
def gc_side (xs:List Y) (n:Int) (i:Int) (_u:Unit) (t:T) (r:Int):Prop:=
 (decide (i<n)=true→((0:Int)≤i∧i<(↑xs.length:Int))∧∀ (e:Nat),e<xs.length→eY.Ok (eY.els xs e))∧(decide (i<n)=false→∀ (e:Nat),e<xs.length→eY.Ok (eY.els xs e))
theorem gc_one:((loopsOf Try.prog 42).filter fun c=>Nat.beq (lkey c) 3).length=1:=by kernel_rfl
abbrev gc_GC:Type:=List Y×Int×T
abbrev gc_GB:Type:=Unit×Int
def gc_f (g:gc_G):Int×gc_GC×gc_GB:=(g.2.2.1,(g.1,g.2.1,g.2.2.2.2.1),(g.2.2.2.1,g.2.2.2.2.2))
def gc_g (d:Int×gc_GC×gc_GB):gc_G:=(d.2.1.1,d.2.1.2.1,d.1,d.2.2.1,d.2.1.2.2,d.2.2.2)
theorem gc_es (g:gc_G):(gc_R g.1 g.2.1 g.2.2.1 g.2.2.2.1 g.2.2.2.2.1 g.2.2.2.2.2).1=.normal∨(gc_R g.1 g.2.1 g.2.2.1 g.2.2.2.1 g.2.2.2.2.1 g.2.2.2.2.2).1∈([.exit 0]:List Ex):=by
 unfold gc_R
 repeat' (first | (left;rfl) | (right;simp only[cond_true,cond_false];simp;done) | (rw[Bool.cond_eq_ite];split))
noncomputable abbrev gc_C (Inv:gc_G→List Prop) (m:gc_G→Nat):LCon:=loopR [.exit 0] (loopBody Try.prog 42 3) gc_LP [] 27 Inv (fun g=>gc_R g.1 g.2.1 g.2.2.1 g.2.2.2.1 g.2.2.2.2.1 g.2.2.2.2.2) m
theorem gc_loop (Inv:gc_G→List Prop) (m:gc_G→Nat) (hs:∀ g,allP (Inv g)→gc_side g.1 g.2.1 g.2.2.1 g.2.2.2.1 g.2.2.2.2.1 g.2.2.2.2.2) (hg:Goes (fun g:gc_G=>gc_R g.1 g.2.1 g.2.2.1 g.2.2.2.1 g.2.2.2.2.1 g.2.2.2.2.2) m fun g=>allP (Inv g)):∀ b∈loopsOf Try.prog 42,lkey b=3→LoopOk Try.prog b (gc_C Inv m).g:=loop_run (Γ:=(MTab.gamz tabU10 [] [])) (Λ:=lamU6) (MTab.okz tabU10 [] []) lamU6_ok 100 42 3 27 gc_LP [] Inv (fun g=>gc_R g.1 g.2.1 g.2.2.1 g.2.2.2.1 g.2.2.2.2.1 g.2.2.2.2.2) (fun g=>gc_side g.1 g.2.1 g.2.2.1 g.2.2.2.1 g.2.2.2.2.1 g.2.2.2.2.2) m default [.exit 0] gc_one (fun rd T B HL HB ds g=>by kernel_rfl) (fun rd T B HL HB ds g=>by kernel_rfl) hs hg gc_es
abbrev ge_G:Type:=List Y×Int×Int×Int
noncomputable def ge_LP:LP 0 ge_G:=.pair (.slot 0 9 dLY) (.pair (.slot 0 10 dI) (.pair (.slot 0 11 dI) (.slot 0 3 dI)))
noncomputable def ge_R (xs:List Y) (n:Int) (i:Int) (r:Int):Ex×ge_G:=
 bif decide (i<n) then (Ex.normal,eY.lst xs.length (eY.els xs),n,IntKind.i64.wrap (i+(1:Int)),IntKind.i64.wrap (r+(xs.getD i.toNat eY.dflt).n))
 else (Ex.exit (0:Nat),eY.lst xs.length (eY.els xs),n,i,r)
def ge_side (xs:List Y) (n:Int) (i:Int) (r:Int):Prop:=
 (decide (i<n)=true→((0:Int)≤i∧i<(↑xs.length:Int))∧∀ (e:Nat),e<xs.length→eY.Ok (eY.els xs e))∧(decide (i<n)=false→∀ (e:Nat),e<xs.length→eY.Ok (eY.els xs e))
theorem ge_one:((loopsOf Try.prog 44).filter fun c=>Nat.beq (lkey c) 5).length=1:=by kernel_rfl
abbrev ge_GC:Type:=List Y×Int
abbrev ge_GB:Type:=Int
def ge_f (g:ge_G):Int×ge_GC×ge_GB:=(g.2.2.1,(g.1,g.2.1),g.2.2.2)
def ge_g (d:Int×ge_GC×ge_GB):ge_G:=(d.2.1.1,d.2.1.2,d.1,d.2.2)
theorem ge_es (g:ge_G):(ge_R g.1 g.2.1 g.2.2.1 g.2.2.2).1=.normal∨(ge_R g.1 g.2.1 g.2.2.1 g.2.2.2).1∈([.exit 0]:List Ex):=by
 unfold ge_R
 repeat' (first | (left;rfl) | (right;simp only[cond_true,cond_false];simp;done) | (rw[Bool.cond_eq_ite];split))
noncomputable abbrev ge_C (Inv:ge_G→List Prop) (m:ge_G→Nat):LCon:=loopR [.exit 0] (loopBody Try.prog 44 5) ge_LP [] 21 Inv (fun g=>ge_R g.1 g.2.1 g.2.2.1 g.2.2.2) m
theorem ge_loop (Inv:ge_G→List Prop) (m:ge_G→Nat) (hs:∀ g,allP (Inv g)→ge_side g.1 g.2.1 g.2.2.1 g.2.2.2) (hg:Goes (fun g:ge_G=>ge_R g.1 g.2.1 g.2.2.1 g.2.2.2) m fun g=>allP (Inv g)):∀ b∈loopsOf Try.prog 44,lkey b=5→LoopOk Try.prog b (ge_C Inv m).g:=loop_run (Γ:=(MTab.gamz tabU10 [] [])) (Λ:=lamU6) (MTab.okz tabU10 [] []) lamU6_ok 100 44 5 21 ge_LP [] Inv (fun g=>ge_R g.1 g.2.1 g.2.2.1 g.2.2.2) (fun g=>ge_side g.1 g.2.1 g.2.2.1 g.2.2.2) m default [.exit 0] ge_one (fun rd T B HL HB ds g=>by kernel_rfl) (fun rd T B HL HB ds g=>by kernel_rfl) hs hg ge_es
abbrev gg_G:Type:=List Y×Int×Bool
noncomputable def gg_LP:LP 0 gg_G:=.pair (.slot 0 0 dLY) (.pair (.slot 0 3 dI) (.slot 0 2 dBool))
noncomputable def gg_R (xs:List Y) (i:Int) (r:Bool):Ex×gg_G:=
 bif decide (i<(↑xs.length:Int)) then bif decide ((xs.getD i.toNat eY.dflt).n<(0:Int)) then (Ex.ret,eY.lst xs.length (eY.els xs),i,false) else (Ex.normal,eY.lst xs.length (eY.els xs),IntKind.i64.wrap (i+(1:Int)),r)
 else (Ex.exit (0:Nat),eY.lst xs.length (eY.els xs),i,r)
def gg_side (xs:List Y) (i:Int) (r:Bool):Prop:=
 (decide (i<(↑xs.length:Int))=true→((0:Int)≤i∧i<(↑xs.length:Int))∧(decide ((xs.getD i.toNat eY.dflt).n<(0:Int))=true→∀ (e:Nat),e<xs.length→eY.Ok (eY.els xs e))∧(decide ((xs.getD i.toNat eY.dflt).n<(0:Int))=false→∀ (e:Nat),e<xs.length→eY.Ok (eY.els xs e)))∧(decide (i<(↑xs.length:Int))=false→∀ (e:Nat),e<xs.length→eY.Ok (eY.els xs e))
theorem gg_one:((loopsOf Try.prog 47).filter fun c=>Nat.beq (lkey c) 4).length=1:=by kernel_rfl
abbrev gg_GC:Type:=List Y
abbrev gg_GB:Type:=Bool
def gg_f (g:gg_G):Int×gg_GC×gg_GB:=(g.2.1,g.1,g.2.2)
def gg_g (d:Int×gg_GC×gg_GB):gg_G:=(d.2.1,d.1,d.2.2)
theorem gg_es (g:gg_G):(gg_R g.1 g.2.1 g.2.2).1=.normal∨(gg_R g.1 g.2.1 g.2.2).1∈([.ret,.exit 0]:List Ex):=by
 unfold gg_R
 repeat' (first | (left;rfl) | (right;simp only[cond_true,cond_false];simp;done) | (rw[Bool.cond_eq_ite];split))
noncomputable abbrev gg_C (Inv:gg_G→List Prop) (m:gg_G→Nat):LCon:=loopR [.ret,.exit 0] (loopBody Try.prog 47 4) gg_LP [] 19 Inv (fun g=>gg_R g.1 g.2.1 g.2.2) m
theorem gg_loop (Inv:gg_G→List Prop) (m:gg_G→Nat) (hs:∀ g,allP (Inv g)→gg_side g.1 g.2.1 g.2.2) (hg:Goes (fun g:gg_G=>gg_R g.1 g.2.1 g.2.2) m fun g=>allP (Inv g)):∀ b∈loopsOf Try.prog 47,lkey b=4→LoopOk Try.prog b (gg_C Inv m).g:=loop_run (Γ:=(MTab.gamz tabU10 [] [])) (Λ:=lamU6) (MTab.okz tabU10 [] []) lamU6_ok 100 47 4 19 gg_LP [] Inv (fun g=>gg_R g.1 g.2.1 g.2.2) (fun g=>gg_side g.1 g.2.1 g.2.2) m default [.ret,.exit 0] gg_one (fun rd T B HL HB ds g=>by kernel_rfl) (fun rd T B HL HB ds g=>by kernel_rfl) hs hg gg_es
abbrev gh_G:Type:=List Y×Unit×Int×Int×Int
noncomputable def gh_LP:LP 0 gh_G:=.pair (.slot 0 0 dLY) (.pair (.fix 0 1 (.fn 96 [])) (.pair (.slot 0 7 dI) (.pair (.slot 0 8 dI) (.slot 0 4 dI))))
noncomputable def gh_R (xs:List Y) (_u:Unit) (n:Int) (i:Int) (r:Int):Ex×gh_G:=
 bif decide (i<n) then bif decide ((xs.getD i.toNat eY.dflt).n<(0:Int)) then (Ex.ret,eY.lst xs.length (eY.els xs),(),n,i,i) else (Ex.normal,eY.lst xs.length (eY.els xs),(),n,IntKind.i64.wrap (i+(1:Int)),r)
 else (Ex.exit (0:Nat),eY.lst xs.length (eY.els xs),(),n,i,r)
def gh_side (xs:List Y) (_u:Unit) (n:Int) (i:Int) (r:Int):Prop:=
 (decide (i<n)=true→((0:Int)≤i∧i<(↑xs.length:Int))∧(decide ((xs.getD i.toNat eY.dflt).n<(0:Int))=true→∀ (e:Nat),e<xs.length→eY.Ok (eY.els xs e))∧(decide ((xs.getD i.toNat eY.dflt).n<(0:Int))=false→∀ (e:Nat),e<xs.length→eY.Ok (eY.els xs e)))∧(decide (i<n)=false→∀ (e:Nat),e<xs.length→eY.Ok (eY.els xs e))
theorem gh_one:((loopsOf Try.prog 125).filter fun c=>Nat.beq (lkey c) 2).length=1:=by kernel_rfl
abbrev gh_GC:Type:=List Y×Int
abbrev gh_GB:Type:=Unit×Int
def gh_f (g:gh_G):Int×gh_GC×gh_GB:=(g.2.2.2.1,(g.1,g.2.2.1),(g.2.1,g.2.2.2.2))
def gh_g (d:Int×gh_GC×gh_GB):gh_G:=(d.2.1.1,d.2.2.1,d.2.1.2,d.1,d.2.2.2)
theorem gh_es (g:gh_G):(gh_R g.1 g.2.1 g.2.2.1 g.2.2.2.1 g.2.2.2.2).1=.normal∨(gh_R g.1 g.2.1 g.2.2.1 g.2.2.2.1 g.2.2.2.2).1∈([.ret,.exit 0]:List Ex):=by
 unfold gh_R
 repeat' (first | (left;rfl) | (right;simp only[cond_true,cond_false];simp;done) | (rw[Bool.cond_eq_ite];split))
noncomputable abbrev gh_C (Inv:gh_G→List Prop) (m:gh_G→Nat):LCon:=loopR [.ret,.exit 0] (loopBody Try.prog 125 2) gh_LP [] 19 Inv (fun g=>gh_R g.1 g.2.1 g.2.2.1 g.2.2.2.1 g.2.2.2.2) m
theorem gh_loop (Inv:gh_G→List Prop) (m:gh_G→Nat) (hs:∀ g,allP (Inv g)→gh_side g.1 g.2.1 g.2.2.1 g.2.2.2.1 g.2.2.2.2) (hg:Goes (fun g:gh_G=>gh_R g.1 g.2.1 g.2.2.1 g.2.2.2.1 g.2.2.2.2) m fun g=>allP (Inv g)):∀ b∈loopsOf Try.prog 125,lkey b=2→LoopOk Try.prog b (gh_C Inv m).g:=loop_run (Γ:=(MTab.gamz tabU10 [] [])) (Λ:=lamU6) (MTab.okz tabU10 [] []) lamU6_ok 100 125 2 19 gh_LP [] Inv (fun g=>gh_R g.1 g.2.1 g.2.2.1 g.2.2.2.1 g.2.2.2.2) (fun g=>gh_side g.1 g.2.1 g.2.2.1 g.2.2.2.1 g.2.2.2.2) m default [.ret,.exit 0] gh_one (fun rd T B HL HB ds g=>by kernel_rfl) (fun rd T B HL HB ds g=>by kernel_rfl) hs hg gh_es
abbrev pu_G:Type:=List Y×Unit×Y×List Y×Bool×Int
noncomputable def pu_LP:LP 1 pu_G:=.pair (.slot 1 0 dLY) (.pair (.fix 1 3 (.p 0 0)) (.pair (.obj 1 0 tY eY) (.pair (.row 1 5 tY eY) (.pair (.slot 1 6 dBool) (.slot 1 7 dI)))))
noncomputable def pu_R (xs:List Y) (_u:Unit) (x:Y) (o:List Y) (z:Bool) (i:Int):Ex×pu_G:=
 bif decide (i<(↑xs.length:Int)) then bif !z&&decide (rtcmp_F x.t (xs.getD i.toNat eY.dflt).t<(0:Int)) then (Ex.normal,eY.lst xs.length (eY.els xs),(),x,bif rtcmp_F x.t (xs.getD i.toNat eY.dflt).t==(0:Int) then eY.lst (min (min (bif rtcmp_F x.t (xs.getD i.toNat eY.dflt).t==(0:Int) then o.length+(1:Nat)+(1:Nat) else o.length+(1:Nat)+(1:Nat)) (o.length+(1:Nat))) o.length) (eY.els o)++List.map (fun x_1=>x) (List.range (min (bif rtcmp_F x.t (xs.getD i.toNat eY.dflt).t==(0:Int) then o.length+(1:Nat)+(1:Nat) else o.length+(1:Nat)+(1:Nat)) (o.length+(1:Nat)) - o.length))++List.map (fun x_1=>Y.mk x.t (IntKind.i64.wrap ((xs.getD i.toNat eY.dflt).n+x.n))) (List.range ((bif rtcmp_F x.t (xs.getD i.toNat eY.dflt).t==(0:Int) then o.length+(1:Nat)+(1:Nat) else o.length+(1:Nat)+(1:Nat)) - (o.length+(1:Nat)))) else eY.lst (min (min (bif rtcmp_F x.t (xs.getD i.toNat eY.dflt).t==(0:Int) then o.length+(1:Nat)+(1:Nat) else o.length+(1:Nat)+(1:Nat)) (o.length+(1:Nat))) o.length) (eY.els o)++List.map (fun x_1=>x) (List.range (min (bif rtcmp_F x.t (xs.getD i.toNat eY.dflt).t==(0:Int) then o.length+(1:Nat)+(1:Nat) else o.length+(1:Nat)+(1:Nat)) (o.length+(1:Nat)) - o.length))++List.map (fun x=>xs.getD i.toNat eY.dflt) (List.range ((bif rtcmp_F x.t (xs.getD i.toNat eY.dflt).t==(0:Int) then o.length+(1:Nat)+(1:Nat) else o.length+(1:Nat)+(1:Nat)) - (o.length+(1:Nat)))),true,IntKind.i64.wrap (i+(1:Int))) else (Ex.normal,eY.lst xs.length (eY.els xs),(),x,bif rtcmp_F x.t (xs.getD i.toNat eY.dflt).t==(0:Int) then eY.lst (min (bif rtcmp_F x.t (xs.getD i.toNat eY.dflt).t==(0:Int) then o.length+(1:Nat) else o.length+(1:Nat)) o.length) (eY.els o)++List.map (fun x_1=>Y.mk x.t (IntKind.i64.wrap ((xs.getD i.toNat eY.dflt).n+x.n))) (List.range ((bif rtcmp_F x.t (xs.getD i.toNat eY.dflt).t==(0:Int) then o.length+(1:Nat) else o.length+(1:Nat)) - o.length)) else eY.lst (min (bif rtcmp_F x.t (xs.getD i.toNat eY.dflt).t==(0:Int) then o.length+(1:Nat) else o.length+(1:Nat)) o.length) (eY.els o)++List.map (fun x=>xs.getD i.toNat eY.dflt) (List.range ((bif rtcmp_F x.t (xs.getD i.toNat eY.dflt).t==(0:Int) then o.length+(1:Nat) else o.length+(1:Nat)) - o.length)),rtcmp_F x.t (xs.getD i.toNat eY.dflt).t==(0:Int)||z,IntKind.i64.wrap (i+(1:Int)))
 else (Ex.exit (0:Nat),eY.lst xs.length (eY.els xs),(),x,eY.lst o.length (eY.els o),z,i)
def pu_side (xs:List Y) (_u:Unit) (x:Y) (o:List Y) (z:Bool) (i:Int):Prop:=
 (decide (i<(↑xs.length:Int))=true→((0:Int)≤i∧i<(↑xs.length:Int))∧((!z&&decide (rtcmp_F x.t (xs.getD i.toNat eY.dflt).t<(0:Int)))=true→(o.length≤o.length∧True∧o.length+(1:Nat)≤maxLen∧(o.length+(1:Nat)) * Try.prog.types[(45:Nat)].bytes≤(140737488355328:Nat))∧((rtcmp_F x.t (xs.getD i.toNat eY.dflt).t==(0:Int))=true→(0:Int)≤i∧i<(↑xs.length:Int))∧((rtcmp_F x.t (xs.getD i.toNat eY.dflt).t==(0:Int))=true→o.length+(1:Nat)≤o.length+(1:Nat)∧True∧o.length+(1:Nat)+(1:Nat)≤maxLen∧(o.length+(1:Nat)+(1:Nat)) * Try.prog.types[(45:Nat)].bytes≤(140737488355328:Nat))∧((!rtcmp_F x.t (xs.getD i.toNat eY.dflt).t==(0:Int))=true→(0:Int)≤i∧i<(↑xs.length:Int))∧((!rtcmp_F x.t (xs.getD i.toNat eY.dflt).t==(0:Int))=true→o.length+(1:Nat)≤o.length+(1:Nat)∧True∧o.length+(1:Nat)+(1:Nat)≤maxLen∧(o.length+(1:Nat)+(1:Nat)) * Try.prog.types[(45:Nat)].bytes≤(140737488355328:Nat))∧(∀ (e:Nat),e<xs.length→eY.Ok (eY.els xs e))∧((bif rtcmp_F x.t (xs.getD i.toNat eY.dflt).t==(0:Int) then o.length+(1:Nat)+(1:Nat) else o.length+(1:Nat)+(1:Nat))≤bif rtcmp_F x.t (xs.getD i.toNat eY.dflt).t==(0:Int) then o.length+(1:Nat)+(1:Nat) else o.length+(1:Nat)+(1:Nat))∧(∀ (e:Nat),e<min (min (bif rtcmp_F x.t (xs.getD i.toNat eY.dflt).t==(0:Int) then o.length+(1:Nat)+(1:Nat) else o.length+(1:Nat)+(1:Nat)) (o.length+(1:Nat))) o.length→True)∧(∀ (e:Nat),e<min (bif rtcmp_F x.t (xs.getD i.toNat eY.dflt).t==(0:Int) then o.length+(1:Nat)+(1:Nat) else o.length+(1:Nat)+(1:Nat)) (o.length+(1:Nat)) - o.length→True)∧(∀ (e:Nat),e<(bif rtcmp_F x.t (xs.getD i.toNat eY.dflt).t==(0:Int) then o.length+(1:Nat)+(1:Nat) else o.length+(1:Nat)+(1:Nat)) - (o.length+(1:Nat))→True)∧(∀ (e:Nat),e<min (min (bif rtcmp_F x.t (xs.getD i.toNat eY.dflt).t==(0:Int) then o.length+(1:Nat)+(1:Nat) else o.length+(1:Nat)+(1:Nat)) (o.length+(1:Nat))) o.length→True)∧(∀ (e:Nat),e<min (bif rtcmp_F x.t (xs.getD i.toNat eY.dflt).t==(0:Int) then o.length+(1:Nat)+(1:Nat) else o.length+(1:Nat)+(1:Nat)) (o.length+(1:Nat)) - o.length→True)∧∀ (e:Nat),e<(bif rtcmp_F x.t (xs.getD i.toNat eY.dflt).t==(0:Int) then o.length+(1:Nat)+(1:Nat) else o.length+(1:Nat)+(1:Nat)) - (o.length+(1:Nat))→True)∧((!z&&decide (rtcmp_F x.t (xs.getD i.toNat eY.dflt).t<(0:Int)))=false→((rtcmp_F x.t (xs.getD i.toNat eY.dflt).t==(0:Int))=true→(0:Int)≤i∧i<(↑xs.length:Int))∧((rtcmp_F x.t (xs.getD i.toNat eY.dflt).t==(0:Int))=true→o.length≤o.length∧True∧o.length+(1:Nat)≤maxLen∧(o.length+(1:Nat)) * Try.prog.types[(45:Nat)].bytes≤(140737488355328:Nat))∧((!rtcmp_F x.t (xs.getD i.toNat eY.dflt).t==(0:Int))=true→(0:Int)≤i∧i<(↑xs.length:Int))∧((!rtcmp_F x.t (xs.getD i.toNat eY.dflt).t==(0:Int))=true→o.length≤o.length∧True∧o.length+(1:Nat)≤maxLen∧(o.length+(1:Nat)) * Try.prog.types[(45:Nat)].bytes≤(140737488355328:Nat))∧(∀ (e:Nat),e<xs.length→eY.Ok (eY.els xs e))∧((bif rtcmp_F x.t (xs.getD i.toNat eY.dflt).t==(0:Int) then o.length+(1:Nat) else o.length+(1:Nat))≤bif rtcmp_F x.t (xs.getD i.toNat eY.dflt).t==(0:Int) then o.length+(1:Nat) else o.length+(1:Nat))∧(∀ (e:Nat),e<min (bif rtcmp_F x.t (xs.getD i.toNat eY.dflt).t==(0:Int) then o.length+(1:Nat) else o.length+(1:Nat)) o.length→True)∧(∀ (e:Nat),e<(bif rtcmp_F x.t (xs.getD i.toNat eY.dflt).t==(0:Int) then o.length+(1:Nat) else o.length+(1:Nat)) - o.length→True)∧(∀ (e:Nat),e<min (bif rtcmp_F x.t (xs.getD i.toNat eY.dflt).t==(0:Int) then o.length+(1:Nat) else o.length+(1:Nat)) o.length→True)∧∀ (e:Nat),e<(bif rtcmp_F x.t (xs.getD i.toNat eY.dflt).t==(0:Int) then o.length+(1:Nat) else o.length+(1:Nat)) - o.length→True))∧(decide (i<(↑xs.length:Int))=false→(∀ (e:Nat),e<xs.length→eY.Ok (eY.els xs e))∧o.length≤o.length∧∀ (e:Nat),e<o.length→True)
theorem pu_one:((loopsOf Try.prog 111).filter fun c=>Nat.beq (lkey c) 4).length=1:=by kernel_rfl
abbrev pu_GC:Type:=List Y×Y
abbrev pu_GB:Type:=Unit×List Y×Bool
def pu_f (g:pu_G):Int×pu_GC×pu_GB:=(g.2.2.2.2.2,(g.1,g.2.2.1),(g.2.1,g.2.2.2.1,g.2.2.2.2.1))
def pu_g (d:Int×pu_GC×pu_GB):pu_G:=(d.2.1.1,d.2.2.1,d.2.1.2,d.2.2.2.1,d.2.2.2.2,d.1)
theorem pu_es (g:pu_G):(pu_R g.1 g.2.1 g.2.2.1 g.2.2.2.1 g.2.2.2.2.1 g.2.2.2.2.2).1=.normal∨(pu_R g.1 g.2.1 g.2.2.1 g.2.2.2.1 g.2.2.2.2.1 g.2.2.2.2.2).1∈([.exit 0]:List Ex):=by
 unfold pu_R
 repeat' (first | (left;rfl) | (right;simp only[cond_true,cond_false];simp;done) | (rw[Bool.cond_eq_ite];split))
noncomputable abbrev pu_C (Inv:pu_G→List Prop) (m:pu_G→Nat):LCon:=loopR [.exit 0] (loopBody Try.prog 111 4) pu_LP [] 63 Inv (fun g=>pu_R g.1 g.2.1 g.2.2.1 g.2.2.2.1 g.2.2.2.2.1 g.2.2.2.2.2) m
theorem pu_loop (Inv:pu_G→List Prop) (m:pu_G→Nat) (hs:∀ g,allP (Inv g)→pu_side g.1 g.2.1 g.2.2.1 g.2.2.2.1 g.2.2.2.2.1 g.2.2.2.2.2) (hg:Goes (fun g:pu_G=>pu_R g.1 g.2.1 g.2.2.1 g.2.2.2.1 g.2.2.2.2.1 g.2.2.2.2.2) m fun g=>allP (Inv g)):∀ b∈loopsOf Try.prog 111,lkey b=4→LoopOk Try.prog b (pu_C Inv m).g:=loop_run (Γ:=(MTab.gamz tabU10 [] [])) (Λ:=lamU6) (MTab.okz tabU10 [] []) lamU6_ok 100 111 4 63 pu_LP [] Inv (fun g=>pu_R g.1 g.2.1 g.2.2.1 g.2.2.2.1 g.2.2.2.2.1 g.2.2.2.2.2) (fun g=>pu_side g.1 g.2.1 g.2.2.1 g.2.2.2.1 g.2.2.2.2.1 g.2.2.2.2.2) m default [.exit 0] pu_one (fun rd T B HL HB ds g=>by kernel_rfl) (fun rd T B HL HB ds g=>by kernel_rfl) hs hg pu_es
abbrev wi_G:Type:=List Y×Int×Unit×Int
noncomputable def wi_LP:LP 0 wi_G:=.pair (.slot 0 0 dLY) (.pair (.slot 0 5 dI) (.pair (.fix 0 2 nilV) (.slot 0 3 dI)))
noncomputable def wi_R (xs:List Y) (i:Int) (_u:Unit) (r:Int):Ex×wi_G:=
 bif decide (i<(↑xs.length:Int)) then bif !rwi_F (xs.getD i.toNat eY.dflt).n then (Ex.ret,eY.lst xs.length (eY.els xs),i,(),(40:Int)) else (Ex.normal,eY.lst xs.length (eY.els xs),IntKind.i64.wrap (i+(1:Int)),(),r)
 else (Ex.exit (0:Nat),eY.lst xs.length (eY.els xs),i,(),r)
def wi_side (xs:List Y) (i:Int) (_u:Unit) (r:Int):Prop:=
 (decide (i<(↑xs.length:Int))=true→((0:Int)≤i∧i<(↑xs.length:Int))∧((!rwi_F (xs.getD i.toNat eY.dflt).n)=true→∀ (e:Nat),e<xs.length→eY.Ok (eY.els xs e))∧((!rwi_F (xs.getD i.toNat eY.dflt).n)=false→∀ (e:Nat),e<xs.length→eY.Ok (eY.els xs e)))∧(decide (i<(↑xs.length:Int))=false→∀ (e:Nat),e<xs.length→eY.Ok (eY.els xs e))
theorem wi_one:((loopsOf Try.prog 60).filter fun c=>Nat.beq (lkey c) 5).length=1:=by kernel_rfl
abbrev wi_GC:Type:=List Y
abbrev wi_GB:Type:=Unit×Int
def wi_f (g:wi_G):Int×wi_GC×wi_GB:=(g.2.1,g.1,(g.2.2.1,g.2.2.2))
def wi_g (d:Int×wi_GC×wi_GB):wi_G:=(d.2.1,d.1,d.2.2.1,d.2.2.2)
theorem wi_es (g:wi_G):(wi_R g.1 g.2.1 g.2.2.1 g.2.2.2).1=.normal∨(wi_R g.1 g.2.1 g.2.2.1 g.2.2.2).1∈([.ret,.exit 0]:List Ex):=by
 unfold wi_R
 repeat' (first | (left;rfl) | (right;simp only[cond_true,cond_false];simp;done) | (rw[Bool.cond_eq_ite];split))
noncomputable abbrev wi_C (Inv:wi_G→List Prop) (m:wi_G→Nat):LCon:=loopR [.ret,.exit 0] (loopBody Try.prog 60 5) wi_LP [] 67 Inv (fun g=>wi_R g.1 g.2.1 g.2.2.1 g.2.2.2) m
theorem wi_loop (Inv:wi_G→List Prop) (m:wi_G→Nat) (hs:∀ g,allP (Inv g)→wi_side g.1 g.2.1 g.2.2.1 g.2.2.2) (hg:Goes (fun g:wi_G=>wi_R g.1 g.2.1 g.2.2.1 g.2.2.2) m fun g=>allP (Inv g)):∀ b∈loopsOf Try.prog 60,lkey b=5→LoopOk Try.prog b (wi_C Inv m).g:=loop_run (Γ:=(MTab.gamz tabU10 [] [])) (Λ:=lamU6) (MTab.okz tabU10 [] []) lamU6_ok 100 60 5 67 wi_LP [] Inv (fun g=>wi_R g.1 g.2.1 g.2.2.1 g.2.2.2) (fun g=>wi_side g.1 g.2.1 g.2.2.1 g.2.2.2) m default [.ret,.exit 0] wi_one (fun rd T B HL HB ds g=>by kernel_rfl) (fun rd T B HL HB ds g=>by kernel_rfl) hs hg wi_es
abbrev ou_G:Type:=List Y×List Y×Int×Unit×Int
noncomputable def ou_LP:LP 0 ou_G:=.pair (.slot 0 6 dLY) (.pair (.row 0 8 tY eY) (.pair (.slot 0 9 dI) (.pair (.fix 0 2 nilV) (.slot 0 3 dI))))
noncomputable def ou_R (xs:List Y) (o:List Y) (i:Int) (_u:Unit) (r:Int):Ex×ou_G:=
 bif decide (i<(↑xs.length:Int)) then bif !rwi_F (xs.getD i.toNat eY.dflt).n then (Ex.ret,eY.lst xs.length (eY.els xs),eY.lst o.length (eY.els o),i,(),(40:Int)) else bif (xs.getD i.toNat eY.dflt).n != (0:Int) then (Ex.normal,eY.lst xs.length (eY.els xs),eY.lst (min (o.length+(1:Nat)) o.length) (eY.els o)++List.map (fun x=>xs.getD i.toNat eY.dflt) (List.range (o.length+(1:Nat) - o.length)),IntKind.i64.wrap (i+(1:Int)),(),r) else (Ex.normal,eY.lst xs.length (eY.els xs),eY.lst o.length (eY.els o),IntKind.i64.wrap (i+(1:Int)),(),r)
 else (Ex.exit (4:Nat),eY.lst xs.length (eY.els xs),eY.lst o.length (eY.els o),i,(),r)
def ou_side (xs:List Y) (o:List Y) (i:Int) (_u:Unit) (r:Int):Prop:=
 (decide (i<(↑xs.length:Int))=true→((0:Int)≤i∧i<(↑xs.length:Int))∧((!rwi_F (xs.getD i.toNat eY.dflt).n)=true→(∀ (e:Nat),e<xs.length→eY.Ok (eY.els xs e))∧o.length≤o.length∧∀ (e:Nat),e<o.length→True)∧((!rwi_F (xs.getD i.toNat eY.dflt).n)=false→((0:Int)≤i∧i<(↑xs.length:Int))∧(((xs.getD i.toNat eY.dflt).n != (0:Int))=true→((0:Int)≤i∧i<(↑xs.length:Int))∧(o.length≤o.length∧True∧o.length+(1:Nat)≤maxLen∧(o.length+(1:Nat)) * Try.prog.types[(45:Nat)].bytes≤(140737488355328:Nat))∧(∀ (e:Nat),e<xs.length→eY.Ok (eY.els xs e))∧o.length+(1:Nat)≤o.length+(1:Nat)∧(∀ (e:Nat),e<min (o.length+(1:Nat)) o.length→True)∧∀ (e:Nat),e<o.length+(1:Nat) - o.length→True)∧(((xs.getD i.toNat eY.dflt).n != (0:Int))=false→(∀ (e:Nat),e<xs.length→eY.Ok (eY.els xs e))∧o.length≤o.length∧∀ (e:Nat),e<o.length→True)))∧(decide (i<(↑xs.length:Int))=false→(∀ (e:Nat),e<xs.length→eY.Ok (eY.els xs e))∧o.length≤o.length∧∀ (e:Nat),e<o.length→True)
theorem ou_one:((loopsOf Try.prog 60).filter fun c=>Nat.beq (lkey c) 16).length=1:=by kernel_rfl
abbrev ou_GC:Type:=List Y
abbrev ou_GB:Type:=Unit×List Y×Int
def ou_f (g:ou_G):Int×ou_GC×ou_GB:=(g.2.2.1,g.1,(g.2.2.2.1,g.2.1,g.2.2.2.2))
def ou_g (d:Int×ou_GC×ou_GB):ou_G:=(d.2.1,d.2.2.2.1,d.1,d.2.2.1,d.2.2.2.2)
theorem ou_es (g:ou_G):(ou_R g.1 g.2.1 g.2.2.1 g.2.2.2.1 g.2.2.2.2).1=.normal∨(ou_R g.1 g.2.1 g.2.2.1 g.2.2.2.1 g.2.2.2.2).1∈([.ret,.exit 4]:List Ex):=by
 unfold ou_R
 repeat' (first | (left;rfl) | (right;simp only[cond_true,cond_false];simp;done) | (rw[Bool.cond_eq_ite];split))
noncomputable abbrev ou_C (Inv:ou_G→List Prop) (m:ou_G→Nat):LCon:=loopR [.ret,.exit 4] (loopBody Try.prog 60 16) ou_LP [] 67 Inv (fun g=>ou_R g.1 g.2.1 g.2.2.1 g.2.2.2.1 g.2.2.2.2) m
theorem ou_loop (Inv:ou_G→List Prop) (m:ou_G→Nat) (hs:∀ g,allP (Inv g)→ou_side g.1 g.2.1 g.2.2.1 g.2.2.2.1 g.2.2.2.2) (hg:Goes (fun g:ou_G=>ou_R g.1 g.2.1 g.2.2.1 g.2.2.2.1 g.2.2.2.2) m fun g=>allP (Inv g)):∀ b∈loopsOf Try.prog 60,lkey b=16→LoopOk Try.prog b (ou_C Inv m).g:=loop_run (Γ:=(MTab.gamz tabU10 [] [])) (Λ:=lamU6) (MTab.okz tabU10 [] []) lamU6_ok 100 60 16 67 ou_LP [] Inv (fun g=>ou_R g.1 g.2.1 g.2.2.1 g.2.2.2.1 g.2.2.2.2) (fun g=>ou_side g.1 g.2.1 g.2.2.1 g.2.2.2.1 g.2.2.2.2) m default [.ret,.exit 4] ou_one (fun rd T B HL HB ds g=>by kernel_rfl) (fun rd T B HL HB ds g=>by kernel_rfl) hs hg ou_es
abbrev ne_G:Type:=List Y×List Y×Int
noncomputable def ne_LP:LP 0 ne_G:=.pair (.slot 0 0 dLY) (.pair (.row 0 5 tY eY) (.slot 0 6 dI))
noncomputable def ne_R (xs:List Y) (o:List Y) (i:Int):Ex×ne_G:=
 bif decide (i<(↑xs.length:Int)) then (Ex.normal,eY.lst xs.length (eY.els xs),eY.lst (min (o.length+(1:Nat)) o.length) (eY.els o)++List.map (fun x=>Y.mk (xs.getD i.toNat eY.dflt).t (IntKind.i64.wrap ((0:Int) - (xs.getD i.toNat eY.dflt).n))) (List.range (o.length+(1:Nat) - o.length)),IntKind.i64.wrap (i+(1:Int)))
 else (Ex.exit (0:Nat),eY.lst xs.length (eY.els xs),eY.lst o.length (eY.els o),i)
def ne_side (xs:List Y) (o:List Y) (i:Int):Prop:=
 (decide (i<(↑xs.length:Int))=true→((0:Int)≤i∧i<(↑xs.length:Int))∧((0:Int)≤i∧i<(↑xs.length:Int))∧(o.length≤o.length∧True∧o.length+(1:Nat)≤maxLen∧(o.length+(1:Nat)) * Try.prog.types[(45:Nat)].bytes≤(140737488355328:Nat))∧(∀ (e:Nat),e<xs.length→eY.Ok (eY.els xs e))∧o.length+(1:Nat)≤o.length+(1:Nat)∧(∀ (e:Nat),e<min (o.length+(1:Nat)) o.length→True)∧∀ (e:Nat),e<o.length+(1:Nat) - o.length→True)∧(decide (i<(↑xs.length:Int))=false→(∀ (e:Nat),e<xs.length→eY.Ok (eY.els xs e))∧o.length≤o.length∧∀ (e:Nat),e<o.length→True)
theorem ne_one:((loopsOf Try.prog 65).filter fun c=>Nat.beq (lkey c) 6).length=1:=by kernel_rfl
abbrev ne_GC:Type:=List Y
abbrev ne_GB:Type:=List Y
def ne_f (g:ne_G):Int×ne_GC×ne_GB:=(g.2.2,g.1,g.2.1)
def ne_g (d:Int×ne_GC×ne_GB):ne_G:=(d.2.1,d.2.2,d.1)
theorem ne_es (g:ne_G):(ne_R g.1 g.2.1 g.2.2).1=.normal∨(ne_R g.1 g.2.1 g.2.2).1∈([.exit 0]:List Ex):=by
 unfold ne_R
 repeat' (first | (left;rfl) | (right;simp only[cond_true,cond_false];simp;done) | (rw[Bool.cond_eq_ite];split))
noncomputable abbrev ne_C (Inv:ne_G→List Prop) (m:ne_G→Nat):LCon:=loopR [.exit 0] (loopBody Try.prog 65 6) ne_LP [] 34 Inv (fun g=>ne_R g.1 g.2.1 g.2.2) m
theorem ne_loop (Inv:ne_G→List Prop) (m:ne_G→Nat) (hs:∀ g,allP (Inv g)→ne_side g.1 g.2.1 g.2.2) (hg:Goes (fun g:ne_G=>ne_R g.1 g.2.1 g.2.2) m fun g=>allP (Inv g)):∀ b∈loopsOf Try.prog 65,lkey b=6→LoopOk Try.prog b (ne_C Inv m).g:=loop_run (Γ:=(MTab.gamz tabU10 [] [])) (Λ:=lamU6) (MTab.okz tabU10 [] []) lamU6_ok 100 65 6 34 ne_LP [] Inv (fun g=>ne_R g.1 g.2.1 g.2.2) (fun g=>ne_side g.1 g.2.1 g.2.2) m default [.exit 0] ne_one (fun rd T B HL HB ds g=>by kernel_rfl) (fun rd T B HL HB ds g=>by kernel_rfl) hs hg ne_es
end Go.Proofs.Ytiipneclghnfhaa

namespace Go.Proofs.Ytiipneclghnfhaa
open Go.RowKit Go.Sx Go.Lp
set_option maxRecDepth 100000
noncomputable def ga_S (c:ga_GC) (b:ga_GB) (i:Int) (v:Y):Ex×ga_GB:=bif eqT v.t c.2.2 then (.ret,(),v.n) else (.normal,b.1,b.2)
def ga_K (c:ga_GC) (b:ga_GB) (i:Int):Prop:=True
abbrev ga_I (g:ga_G):List Prop:=ixI (fun c:ga_GC=>c.2.1) (fun c:ga_GC=>c.1) ga_K (ga_f g)
abbrev ga_M (g:ga_G):Nat:=ixM (fun c:ga_GC=>c.2.1) (ga_f g)
theorem ga_P:ixP ga_S (fun c:ga_GC=>c.1) ga_K:=fun _ _ _ _ h _ _=>h
noncomputable abbrev ga_RR (g:ga_G):Ex×ga_G:=ga_R g.1 g.2.1 g.2.2.1 g.2.2.2.1 g.2.2.2.2.1 g.2.2.2.2.2
theorem ga_RF (d:Int×ga_GC×ga_GB) (_:allP (ixI (fun c:ga_GC=>c.2.1) (fun c:ga_GC=>c.1) ga_K d)):ga_RR (ga_g d)=((ixF 0 (fun c:ga_GC=>c.2.1) (fun c:ga_GC=>c.1) eY.dflt ga_S d).1,ga_g (ixF 0 (fun c:ga_GC=>c.2.1) (fun c:ga_GC=>c.1) eY.dflt ga_S d).2):=by
 obtain ⟨i,⟨xs,n,t⟩,⟨⟨⟩,r⟩⟩:=d
 show ga_R xs n i () t r=_
 unfold ga_R ixF ga_S
 simp only[eY.lst_els,conj_T]
 cases decide (i<n) with
 | false=>rfl
 | true=>
  simp only[cond_true]
  generalize (eqT (xs.getD i.toNat eY.dflt).t t)=z
  cases z <;> rfl
theorem ga_ok:∀ b∈loopsOf Try.prog 40,lkey b=4→LoopOk Try.prog b (ga_C ga_I ga_M).g:=by
 refine ga_loop ga_I ga_M (fun g hi=>?_) (ix_conj_goes (fun _=>rfl) (fun _=>rfl) ga_RF ga_P)
 obtain ⟨xs,n,i,⟨⟩,t,r⟩:=g
 obtain ⟨h1,h2,h3,h4,h5⟩:=hi _ (List.mem_cons_self ..)
 have h1:n=(xs.length:Int):=h1
 have h3:0≤i:=h3
 have h5:True:=h5
 show ga_side xs n i () t r
 unfold ga_side
 simp only[decide_eq_true_eq,decide_eq_false_iff_not]
 have k0:∀ e:Nat,e<xs.length→eY.Ok (eY.els xs e):=fun e _=>eY.ok_els xs e
 clear hi
 repeat' (first | exact k0 | apply And.intro | intro _)
 all_goals omega
theorem ga_run (c:ga_GC) (b:ga_GB) (k1:c.2.1=((c.1).length:Int)) (k2:(c.1).length≤maxLen) (k3:ga_K c b 0):loopF ga_RR ga_M (ga_g (0,c,b))=((scan 0 (ga_S c) 0 (c.1) b).1,ga_g ((scan 0 (ga_S c) 0 (c.1) b).2.1,c,(scan 0 (ga_S c) 0 (c.1) b).2.2)):=ix_conj_run (φ:=ga_f) (ψ:=ga_g) (fun _=>rfl) (fun _=>rfl) ga_RF ga_P c b k1 k2 k3
noncomputable def gc_S (c:gc_GC) (b:gc_GB) (i:Int) (v:Y):Ex×gc_GB:=(.normal,b.1,bif tleq_F v.t c.2.2 then IntKind.i64.wrap (b.2+v.n) else b.2)
def gc_K (c:gc_GC) (b:gc_GB) (i:Int):Prop:=True
abbrev gc_I (g:gc_G):List Prop:=ixI (fun c:gc_GC=>c.2.1) (fun c:gc_GC=>c.1) gc_K (gc_f g)
abbrev gc_M (g:gc_G):Nat:=ixM (fun c:gc_GC=>c.2.1) (gc_f g)
theorem gc_P:ixP gc_S (fun c:gc_GC=>c.1) gc_K:=fun _ _ _ _ h _ _=>h
noncomputable abbrev gc_RR (g:gc_G):Ex×gc_G:=gc_R g.1 g.2.1 g.2.2.1 g.2.2.2.1 g.2.2.2.2.1 g.2.2.2.2.2
theorem gc_RF (d:Int×gc_GC×gc_GB) (_:allP (ixI (fun c:gc_GC=>c.2.1) (fun c:gc_GC=>c.1) gc_K d)):gc_RR (gc_g d)=((ixF 0 (fun c:gc_GC=>c.2.1) (fun c:gc_GC=>c.1) eY.dflt gc_S d).1,gc_g (ixF 0 (fun c:gc_GC=>c.2.1) (fun c:gc_GC=>c.1) eY.dflt gc_S d).2):=by
 obtain ⟨i,⟨xs,n,t⟩,⟨⟨⟩,r⟩⟩:=d
 show gc_R xs n i () t r=_
 unfold gc_R ixF gc_S
 simp only[eY.lst_els]
 cases decide (i<n) with
 | false=>rfl
 | true=>rfl
theorem gc_ok:∀ b∈loopsOf Try.prog 42,lkey b=3→LoopOk Try.prog b (gc_C gc_I gc_M).g:=by
 refine gc_loop gc_I gc_M (fun g hi=>?_) (ix_conj_goes (fun _=>rfl) (fun _=>rfl) gc_RF gc_P)
 obtain ⟨xs,n,i,⟨⟩,t,r⟩:=g
 obtain ⟨h1,h2,h3,h4,h5⟩:=hi _ (List.mem_cons_self ..)
 have h1:n=(xs.length:Int):=h1
 have h3:0≤i:=h3
 have h5:True:=h5
 show gc_side xs n i () t r
 unfold gc_side
 simp only[decide_eq_true_eq,decide_eq_false_iff_not]
 have k0:∀ e:Nat,e<xs.length→eY.Ok (eY.els xs e):=fun e _=>eY.ok_els xs e
 clear hi
 repeat' (first | exact k0 | apply And.intro | intro _)
 all_goals omega
theorem gc_run (c:gc_GC) (b:gc_GB) (k1:c.2.1=((c.1).length:Int)) (k2:(c.1).length≤maxLen) (k3:gc_K c b 0):loopF gc_RR gc_M (gc_g (0,c,b))=((scan 0 (gc_S c) 0 (c.1) b).1,gc_g ((scan 0 (gc_S c) 0 (c.1) b).2.1,c,(scan 0 (gc_S c) 0 (c.1) b).2.2)):=ix_conj_run (φ:=gc_f) (ψ:=gc_g) (fun _=>rfl) (fun _=>rfl) gc_RF gc_P c b k1 k2 k3
noncomputable def ge_S (c:ge_GC) (b:ge_GB) (i:Int) (v:Y):Ex×ge_GB:=(.normal,IntKind.i64.wrap (b+v.n))
def ge_K (c:ge_GC) (b:ge_GB) (i:Int):Prop:=True
abbrev ge_I (g:ge_G):List Prop:=ixI (fun c:ge_GC=>c.2) (fun c:ge_GC=>c.1) ge_K (ge_f g)
abbrev ge_M (g:ge_G):Nat:=ixM (fun c:ge_GC=>c.2) (ge_f g)
theorem ge_P:ixP ge_S (fun c:ge_GC=>c.1) ge_K:=fun _ _ _ _ h _ _=>h
noncomputable abbrev ge_RR (g:ge_G):Ex×ge_G:=ge_R g.1 g.2.1 g.2.2.1 g.2.2.2
theorem ge_RF (d:Int×ge_GC×ge_GB) (_:allP (ixI (fun c:ge_GC=>c.2) (fun c:ge_GC=>c.1) ge_K d)):ge_RR (ge_g d)=((ixF 0 (fun c:ge_GC=>c.2) (fun c:ge_GC=>c.1) eY.dflt ge_S d).1,ge_g (ixF 0 (fun c:ge_GC=>c.2) (fun c:ge_GC=>c.1) eY.dflt ge_S d).2):=by
 obtain ⟨i,⟨xs,n⟩,r⟩:=d
 show ge_R xs n i r=_
 unfold ge_R ixF ge_S
 simp only[eY.lst_els]
 cases decide (i<n) with
 | false=>rfl
 | true=>rfl
theorem ge_ok:∀ b∈loopsOf Try.prog 44,lkey b=5→LoopOk Try.prog b (ge_C ge_I ge_M).g:=by
 refine ge_loop ge_I ge_M (fun g hi=>?_) (ix_conj_goes (fun _=>rfl) (fun _=>rfl) ge_RF ge_P)
 obtain ⟨xs,n,i,r⟩:=g
 obtain ⟨h1,h2,h3,h4,h5⟩:=hi _ (List.mem_cons_self ..)
 have h1:n=(xs.length:Int):=h1
 have h3:0≤i:=h3
 have h5:True:=h5
 show ge_side xs n i r
 unfold ge_side
 simp only[decide_eq_true_eq,decide_eq_false_iff_not]
 have k0:∀ e:Nat,e<xs.length→eY.Ok (eY.els xs e):=fun e _=>eY.ok_els xs e
 clear hi
 repeat' (first | exact k0 | apply And.intro | intro _)
 all_goals omega
theorem ge_run (c:ge_GC) (b:ge_GB) (k1:c.2=((c.1).length:Int)) (k2:(c.1).length≤maxLen) (k3:ge_K c b 0):loopF ge_RR ge_M (ge_g (0,c,b))=((scan 0 (ge_S c) 0 (c.1) b).1,ge_g ((scan 0 (ge_S c) 0 (c.1) b).2.1,c,(scan 0 (ge_S c) 0 (c.1) b).2.2)):=ix_conj_run (φ:=ge_f) (ψ:=ge_g) (fun _=>rfl) (fun _=>rfl) ge_RF ge_P c b k1 k2 k3
noncomputable def gg_S (c:gg_GC) (b:gg_GB) (i:Int) (v:Y):Ex×gg_GB:=bif decide (v.n<(0:Int)) then (.ret,false) else (.normal,b)
def gg_K (c:gg_GC) (b:gg_GB) (i:Int):Prop:=True
abbrev gg_I (g:gg_G):List Prop:=ixI (fun c:gg_GC=>(c.length:Int)) (fun c:gg_GC=>c) gg_K (gg_f g)
abbrev gg_M (g:gg_G):Nat:=ixM (fun c:gg_GC=>(c.length:Int)) (gg_f g)
theorem gg_P:ixP gg_S (fun c:gg_GC=>c) gg_K:=fun _ _ _ _ h _ _=>h
noncomputable abbrev gg_RR (g:gg_G):Ex×gg_G:=gg_R g.1 g.2.1 g.2.2
theorem gg_RF (d:Int×gg_GC×gg_GB) (_:allP (ixI (fun c:gg_GC=>(c.length:Int)) (fun c:gg_GC=>c) gg_K d)):gg_RR (gg_g d)=((ixF 0 (fun c:gg_GC=>(c.length:Int)) (fun c:gg_GC=>c) eY.dflt gg_S d).1,gg_g (ixF 0 (fun c:gg_GC=>(c.length:Int)) (fun c:gg_GC=>c) eY.dflt gg_S d).2):=by
 obtain ⟨i,xs,r⟩:=d
 show gg_R xs i r=_
 unfold gg_R ixF gg_S
 simp only[eY.lst_els]
 cases decide (i<(xs.length:Int)) with
 | false=>rfl
 | true=>
  simp only[cond_true]
  generalize (decide ((xs.getD i.toNat eY.dflt).n<(0:Int)))=z
  cases z <;> rfl
theorem gg_ok:∀ b∈loopsOf Try.prog 47,lkey b=4→LoopOk Try.prog b (gg_C gg_I gg_M).g:=by
 refine gg_loop gg_I gg_M (fun g hi=>?_) (ix_conj_goes (fun _=>rfl) (fun _=>rfl) gg_RF gg_P)
 obtain ⟨xs,i,r⟩:=g
 obtain ⟨h1,h2,h3,h4,h5⟩:=hi _ (List.mem_cons_self ..)
 have h1:(xs.length:Int)=(xs.length:Int):=h1
 have h3:0≤i:=h3
 have h5:True:=h5
 show gg_side xs i r
 unfold gg_side
 simp only[decide_eq_true_eq,decide_eq_false_iff_not]
 have k0:∀ e:Nat,e<xs.length→eY.Ok (eY.els xs e):=fun e _=>eY.ok_els xs e
 clear hi
 repeat' (first | exact k0 | apply And.intro | intro _)
 all_goals omega
theorem gg_run (c:gg_GC) (b:gg_GB) (k1:(c.length:Int)=((c).length:Int)) (k2:(c).length≤maxLen) (k3:gg_K c b 0):loopF gg_RR gg_M (gg_g (0,c,b))=((scan 0 (gg_S c) 0 (c) b).1,gg_g ((scan 0 (gg_S c) 0 (c) b).2.1,c,(scan 0 (gg_S c) 0 (c) b).2.2)):=ix_conj_run (φ:=gg_f) (ψ:=gg_g) (fun _=>rfl) (fun _=>rfl) gg_RF gg_P c b k1 k2 k3
noncomputable def gh_S (c:gh_GC) (b:gh_GB) (i:Int) (v:Y):Ex×gh_GB:=bif decide (v.n<(0:Int)) then (.ret,(),i) else (.normal,b.1,b.2)
def gh_K (c:gh_GC) (b:gh_GB) (i:Int):Prop:=True
abbrev gh_I (g:gh_G):List Prop:=ixI (fun c:gh_GC=>c.2) (fun c:gh_GC=>c.1) gh_K (gh_f g)
abbrev gh_M (g:gh_G):Nat:=ixM (fun c:gh_GC=>c.2) (gh_f g)
theorem gh_P:ixP gh_S (fun c:gh_GC=>c.1) gh_K:=fun _ _ _ _ h _ _=>h
noncomputable abbrev gh_RR (g:gh_G):Ex×gh_G:=gh_R g.1 g.2.1 g.2.2.1 g.2.2.2.1 g.2.2.2.2
theorem gh_RF (d:Int×gh_GC×gh_GB) (_:allP (ixI (fun c:gh_GC=>c.2) (fun c:gh_GC=>c.1) gh_K d)):gh_RR (gh_g d)=((ixF 0 (fun c:gh_GC=>c.2) (fun c:gh_GC=>c.1) eY.dflt gh_S d).1,gh_g (ixF 0 (fun c:gh_GC=>c.2) (fun c:gh_GC=>c.1) eY.dflt gh_S d).2):=by
 obtain ⟨i,⟨xs,n⟩,⟨⟨⟩,r⟩⟩:=d
 show gh_R xs () n i r=_
 unfold gh_R ixF gh_S
 simp only[eY.lst_els]
 cases decide (i<n) with
 | false=>rfl
 | true=>
  simp only[cond_true]
  generalize (decide ((xs.getD i.toNat eY.dflt).n<(0:Int)))=z
  cases z <;> rfl
theorem gh_ok:∀ b∈loopsOf Try.prog 125,lkey b=2→LoopOk Try.prog b (gh_C gh_I gh_M).g:=by
 refine gh_loop gh_I gh_M (fun g hi=>?_) (ix_conj_goes (fun _=>rfl) (fun _=>rfl) gh_RF gh_P)
 obtain ⟨xs,⟨⟩,n,i,r⟩:=g
 obtain ⟨h1,h2,h3,h4,h5⟩:=hi _ (List.mem_cons_self ..)
 have h1:n=(xs.length:Int):=h1
 have h3:0≤i:=h3
 have h5:True:=h5
 show gh_side xs () n i r
 unfold gh_side
 simp only[decide_eq_true_eq,decide_eq_false_iff_not]
 have k0:∀ e:Nat,e<xs.length→eY.Ok (eY.els xs e):=fun e _=>eY.ok_els xs e
 clear hi
 repeat' (first | exact k0 | apply And.intro | intro _)
 all_goals omega
theorem gh_run (c:gh_GC) (b:gh_GB) (k1:c.2=((c.1).length:Int)) (k2:(c.1).length≤maxLen) (k3:gh_K c b 0):loopF gh_RR gh_M (gh_g (0,c,b))=((scan 0 (gh_S c) 0 (c.1) b).1,gh_g ((scan 0 (gh_S c) 0 (c.1) b).2.1,c,(scan 0 (gh_S c) 0 (c.1) b).2.2)):=ix_conj_run (φ:=gh_f) (ψ:=gh_g) (fun _=>rfl) (fun _=>rfl) gh_RF gh_P c b k1 k2 k3
noncomputable def wi_S (c:wi_GC) (b:wi_GB) (i:Int) (v:Y):Ex×wi_GB:=bif !rwi_F v.n then (.ret,(),(40:Int)) else (.normal,b.1,b.2)
def wi_K (c:wi_GC) (b:wi_GB) (i:Int):Prop:=True
abbrev wi_I (g:wi_G):List Prop:=ixI (fun c:wi_GC=>(c.length:Int)) (fun c:wi_GC=>c) wi_K (wi_f g)
abbrev wi_M (g:wi_G):Nat:=ixM (fun c:wi_GC=>(c.length:Int)) (wi_f g)
theorem wi_P:ixP wi_S (fun c:wi_GC=>c) wi_K:=fun _ _ _ _ h _ _=>h
noncomputable abbrev wi_RR (g:wi_G):Ex×wi_G:=wi_R g.1 g.2.1 g.2.2.1 g.2.2.2
theorem wi_RF (d:Int×wi_GC×wi_GB) (_:allP (ixI (fun c:wi_GC=>(c.length:Int)) (fun c:wi_GC=>c) wi_K d)):wi_RR (wi_g d)=((ixF 0 (fun c:wi_GC=>(c.length:Int)) (fun c:wi_GC=>c) eY.dflt wi_S d).1,wi_g (ixF 0 (fun c:wi_GC=>(c.length:Int)) (fun c:wi_GC=>c) eY.dflt wi_S d).2):=by
 obtain ⟨i,xs,⟨⟨⟩,r⟩⟩:=d
 show wi_R xs i () r=_
 unfold wi_R ixF wi_S
 simp only[eY.lst_els]
 cases decide (i<(xs.length:Int)) with
 | false=>rfl
 | true=>
  simp only[cond_true]
  generalize (!rwi_F (xs.getD i.toNat eY.dflt).n)=z
  cases z <;> rfl
theorem wi_ok:∀ b∈loopsOf Try.prog 60,lkey b=5→LoopOk Try.prog b (wi_C wi_I wi_M).g:=by
 refine wi_loop wi_I wi_M (fun g hi=>?_) (ix_conj_goes (fun _=>rfl) (fun _=>rfl) wi_RF wi_P)
 obtain ⟨xs,i,⟨⟩,r⟩:=g
 obtain ⟨h1,h2,h3,h4,h5⟩:=hi _ (List.mem_cons_self ..)
 have h1:(xs.length:Int)=(xs.length:Int):=h1
 have h3:0≤i:=h3
 have h5:True:=h5
 show wi_side xs i () r
 unfold wi_side
 simp only[decide_eq_true_eq,decide_eq_false_iff_not]
 have k0:∀ e:Nat,e<xs.length→eY.Ok (eY.els xs e):=fun e _=>eY.ok_els xs e
 clear hi
 repeat' (first | exact k0 | apply And.intro | intro _)
 all_goals omega
theorem wi_run (c:wi_GC) (b:wi_GB) (k1:(c.length:Int)=((c).length:Int)) (k2:(c).length≤maxLen) (k3:wi_K c b 0):loopF wi_RR wi_M (wi_g (0,c,b))=((scan 0 (wi_S c) 0 (c) b).1,wi_g ((scan 0 (wi_S c) 0 (c) b).2.1,c,(scan 0 (wi_S c) 0 (c) b).2.2)):=ix_conj_run (φ:=wi_f) (ψ:=wi_g) (fun _=>rfl) (fun _=>rfl) wi_RF wi_P c b k1 k2 k3
noncomputable def ou_S (c:ou_GC) (b:ou_GB) (i:Int) (v:Y):Ex×ou_GB:=bif !rwi_F v.n then (.ret,(),b.2.1,(40:Int)) else (.normal,b.1,(bif v.n != (0:Int) then b.2.1++[v] else b.2.1),b.2.2)
def ou_K (c:ou_GC) (b:ou_GB) (i:Int):Prop:=(c).length≤KS∧(List.length b.2.1:Int)≤i
abbrev ou_I (g:ou_G):List Prop:=ixI (fun c:ou_GC=>(c.length:Int)) (fun c:ou_GC=>c) ou_K (ou_f g)
abbrev ou_M (g:ou_G):Nat:=ixM (fun c:ou_GC=>(c.length:Int)) (ou_f g)
theorem ou_P:ixP ou_S (fun c:ou_GC=>c) ou_K:=by
 intro c b i a h _ _
 obtain ⟨h1,h2⟩:=h
 refine ⟨h1,?_⟩
 have h2:(List.length b.2.1:Int)≤(i:Int):=h2
 show (List.length (ou_S c b i a).2.2.1:Int)≤(i:Int)+1
 unfold ou_S
 generalize (!rwi_F a.n)=z0
 generalize (a.n != (0:Int))=z1
 cases z0 <;> cases z1 <;> simp only[cond_true,cond_false,List.length_append,List.length_cons,List.length_nil] <;> omega
noncomputable abbrev ou_RR (g:ou_G):Ex×ou_G:=ou_R g.1 g.2.1 g.2.2.1 g.2.2.2.1 g.2.2.2.2
theorem ou_RF (d:Int×ou_GC×ou_GB) (_:allP (ixI (fun c:ou_GC=>(c.length:Int)) (fun c:ou_GC=>c) ou_K d)):ou_RR (ou_g d)=((ixF 4 (fun c:ou_GC=>(c.length:Int)) (fun c:ou_GC=>c) eY.dflt ou_S d).1,ou_g (ixF 4 (fun c:ou_GC=>(c.length:Int)) (fun c:ou_GC=>c) eY.dflt ou_S d).2):=by
 obtain ⟨i,xs,⟨⟨⟩,o,r⟩⟩:=d
 show ou_R xs o i () r=_
 unfold ou_R ixF ou_S
 simp only[eY.lst_els,lst_snoc]
 cases decide (i<(xs.length:Int)) with
 | false=>rfl
 | true=>
  simp only[cond_true]
  generalize (!rwi_F (xs.getD i.toNat eY.dflt).n)=z0
  generalize ((xs.getD i.toNat eY.dflt).n != (0:Int))=z1
  cases z0 <;> cases z1 <;> rfl
theorem ou_ok:∀ b∈loopsOf Try.prog 60,lkey b=16→LoopOk Try.prog b (ou_C ou_I ou_M).g:=by
 refine ou_loop ou_I ou_M (fun g hi=>?_) (ix_conj_goes (fun _=>rfl) (fun _=>rfl) ou_RF ou_P)
 obtain ⟨xs,o,i,⟨⟩,r⟩:=g
 obtain ⟨h1,h2,h3,h4,h5,h6⟩:=hi _ (List.mem_cons_self ..)
 have h1:(xs.length:Int)=(xs.length:Int):=h1
 have h3:0≤i:=h3
 have h5:xs.length≤1000000:=h5
 have h6:(o.length:Int)≤i:=h6
 show ou_side xs o i () r
 unfold ou_side
 simp only[bytesY,decide_eq_true_eq,decide_eq_false_iff_not]
 have k0:∀ e:Nat,e<xs.length→eY.Ok (eY.els xs e):=fun e _=>eY.ok_els xs e
 clear hi
 repeat' (first | exact k0 | apply And.intro | intro _)
 all_goals (first | trivial | omega | (unfold maxLen;omega))
theorem ou_run (c:ou_GC) (b:ou_GB) (k1:(c.length:Int)=((c).length:Int)) (k2:(c).length≤KS) (k3:List.length b.2.1=0):loopF ou_RR ou_M (ou_g (0,c,b))=((scan 4 (ou_S c) 0 (c) b).1,ou_g ((scan 4 (ou_S c) 0 (c) b).2.1,c,(scan 4 (ou_S c) 0 (c) b).2.2)):=ix_conj_run (φ:=ou_f) (ψ:=ou_g) (fun _=>rfl) (fun _=>rfl) ou_RF ou_P c b k1 (Nat.le_trans k2 (by decide)) ⟨k2,by rw[k3];decide⟩
theorem ou_ix (c:ou_GC) (b:ou_GB) (k1:(c.length:Int)=((c).length:Int)) (k2:(c).length≤KS) (k3:List.length b.2.1=0):ixJ (fun c:ou_GC=>(c.length:Int)) (fun c:ou_GC=>c) ou_K (0,c,b):=ixJ0 k1 (Nat.le_trans k2 (by decide)) ⟨k2,by rw[k3];decide⟩
noncomputable def ne_S (c:ne_GC) (b:ne_GB) (i:Int) (v:Y):Ex×ne_GB:=(.normal,b++[Y.mk v.t (IntKind.i64.wrap ((0:Int) - v.n))])
def ne_K (c:ne_GC) (b:ne_GB) (i:Int):Prop:=(c).length≤KS∧(List.length b:Int)≤i
abbrev ne_I (g:ne_G):List Prop:=ixI (fun c:ne_GC=>(c.length:Int)) (fun c:ne_GC=>c) ne_K (ne_f g)
abbrev ne_M (g:ne_G):Nat:=ixM (fun c:ne_GC=>(c.length:Int)) (ne_f g)
theorem ne_P:ixP ne_S (fun c:ne_GC=>c) ne_K:=by
 intro c b i a h _ _
 obtain ⟨h1,h2⟩:=h
 refine ⟨h1,?_⟩
 have h2:(List.length b:Int)≤(i:Int):=h2
 show (List.length (ne_S c b i a).2:Int)≤(i:Int)+1
 unfold ne_S
 simp only[List.length_append,List.length_cons,List.length_nil]
 omega
noncomputable abbrev ne_RR (g:ne_G):Ex×ne_G:=ne_R g.1 g.2.1 g.2.2
theorem ne_RF (d:Int×ne_GC×ne_GB) (_:allP (ixI (fun c:ne_GC=>(c.length:Int)) (fun c:ne_GC=>c) ne_K d)):ne_RR (ne_g d)=((ixF 0 (fun c:ne_GC=>(c.length:Int)) (fun c:ne_GC=>c) eY.dflt ne_S d).1,ne_g (ixF 0 (fun c:ne_GC=>(c.length:Int)) (fun c:ne_GC=>c) eY.dflt ne_S d).2):=by
 obtain ⟨i,xs,o⟩:=d
 show ne_R xs o i=_
 unfold ne_R ixF ne_S
 simp only[eY.lst_els,lst_snoc]
 cases decide (i<(xs.length:Int)) with
 | false=>rfl
 | true=>
  simp only[cond_true]
  rfl
theorem ne_ok:∀ b∈loopsOf Try.prog 65,lkey b=6→LoopOk Try.prog b (ne_C ne_I ne_M).g:=by
 refine ne_loop ne_I ne_M (fun g hi=>?_) (ix_conj_goes (fun _=>rfl) (fun _=>rfl) ne_RF ne_P)
 obtain ⟨xs,o,i⟩:=g
 obtain ⟨h1,h2,h3,h4,h5,h6⟩:=hi _ (List.mem_cons_self ..)
 have h1:(xs.length:Int)=(xs.length:Int):=h1
 have h3:0≤i:=h3
 have h5:xs.length≤1000000:=h5
 have h6:(o.length:Int)≤i:=h6
 show ne_side xs o i
 unfold ne_side
 simp only[bytesY,decide_eq_true_eq,decide_eq_false_iff_not]
 have k0:∀ e:Nat,e<xs.length→eY.Ok (eY.els xs e):=fun e _=>eY.ok_els xs e
 clear hi
 repeat' (first | exact k0 | apply And.intro | intro _)
 all_goals (first | trivial | omega | (unfold maxLen;omega))
theorem ne_run (c:ne_GC) (b:ne_GB) (k1:(c.length:Int)=((c).length:Int)) (k2:(c).length≤KS) (k3:List.length b=0):loopF ne_RR ne_M (ne_g (0,c,b))=((scan 0 (ne_S c) 0 (c) b).1,ne_g ((scan 0 (ne_S c) 0 (c) b).2.1,c,(scan 0 (ne_S c) 0 (c) b).2.2)):=ix_conj_run (φ:=ne_f) (ψ:=ne_g) (fun _=>rfl) (fun _=>rfl) ne_RF ne_P c b k1 (Nat.le_trans k2 (by decide)) ⟨k2,by rw[k3];decide⟩
theorem ne_ix (c:ne_GC) (b:ne_GB) (k1:(c.length:Int)=((c).length:Int)) (k2:(c).length≤KS) (k3:List.length b=0):ixJ (fun c:ne_GC=>(c.length:Int)) (fun c:ne_GC=>c) ne_K (0,c,b):=ixJ0 k1 (Nat.le_trans k2 (by decide)) ⟨k2,by rw[k3];decide⟩
noncomputable def th_S (c:th_GC) (b:th_GB) (i:Int) (v:Y):Ex×th_GB:=(.normal,bif decide (v.n > (0:Int)) then b++[v] else b)
def th_K (c:th_GC) (b:th_GB) (i:Int):Prop:=(c.1).length≤KS∧(List.length b:Int)≤i
abbrev th_I (g:th_G):List Prop:=ixI (fun c:th_GC=>c.2) (fun c:th_GC=>c.1) th_K (th_f g)
abbrev th_M (g:th_G):Nat:=ixM (fun c:th_GC=>c.2) (th_f g)
theorem th_P:ixP th_S (fun c:th_GC=>c.1) th_K:=by
 intro c b i a h _ _
 obtain ⟨h1,h2⟩:=h
 refine ⟨h1,?_⟩
 have h2:(List.length b:Int)≤(i:Int):=h2
 show (List.length (th_S c b i a).2:Int)≤(i:Int)+1
 unfold th_S
 generalize (decide (a.n > (0:Int)))=z0
 cases z0 <;> simp only[cond_true,cond_false,List.length_append,List.length_cons,List.length_nil] <;> omega
noncomputable abbrev th_RR (g:th_G):Ex×th_G:=th_R g.1 g.2.1 g.2.2.1 g.2.2.2
theorem th_RF (d:Int×th_GC×th_GB) (_:allP (ixI (fun c:th_GC=>c.2) (fun c:th_GC=>c.1) th_K d)):th_RR (th_g d)=((ixF 0 (fun c:th_GC=>c.2) (fun c:th_GC=>c.1) eY.dflt th_S d).1,th_g (ixF 0 (fun c:th_GC=>c.2) (fun c:th_GC=>c.1) eY.dflt th_S d).2):=by
 obtain ⟨i,⟨xs,n⟩,o⟩:=d
 show th_R xs n i o=_
 unfold th_R ixF th_S
 simp only[eY.lst_els,lst_snoc]
 cases decide (i<n) with
 | false=>rfl
 | true=>
  simp only[cond_true]
  generalize (decide ((xs.getD i.toNat eY.dflt).n > (0:Int)))=z0
  cases z0 <;> rfl
theorem th_ok:∀ b∈loopsOf Try.prog 97,lkey b=3→LoopOk Try.prog b (th_C th_I th_M).g:=by
 refine th_loop th_I th_M (fun g hi=>?_) (ix_conj_goes (fun _=>rfl) (fun _=>rfl) th_RF th_P)
 obtain ⟨xs,n,i,o⟩:=g
 obtain ⟨h1,h2,h3,h4,h5,h6⟩:=hi _ (List.mem_cons_self ..)
 have h1:n=(xs.length:Int):=h1
 have h3:0≤i:=h3
 have h5:xs.length≤1000000:=h5
 have h6:(o.length:Int)≤i:=h6
 show th_side xs n i o
 unfold th_side
 simp only[bytesY,decide_eq_true_eq,decide_eq_false_iff_not]
 have k0:∀ e:Nat,e<xs.length→eY.Ok (eY.els xs e):=fun e _=>eY.ok_els xs e
 clear hi
 repeat' (first | exact k0 | apply And.intro | intro _)
 all_goals (first | trivial | omega | (unfold maxLen;omega))
theorem th_run (c:th_GC) (b:th_GB) (k1:c.2=((c.1).length:Int)) (k2:(c.1).length≤KS) (k3:List.length b=0):loopF th_RR th_M (th_g (0,c,b))=((scan 0 (th_S c) 0 (c.1) b).1,th_g ((scan 0 (th_S c) 0 (c.1) b).2.1,c,(scan 0 (th_S c) 0 (c.1) b).2.2)):=ix_conj_run (φ:=th_f) (ψ:=th_g) (fun _=>rfl) (fun _=>rfl) th_RF th_P c b k1 (Nat.le_trans k2 (by decide)) ⟨k2,by rw[k3];decide⟩
theorem th_ix (c:th_GC) (b:th_GB) (k1:c.2=((c.1).length:Int)) (k2:(c.1).length≤KS) (k3:List.length b=0):ixJ (fun c:th_GC=>c.2) (fun c:th_GC=>c.1) th_K (0,c,b):=ixJ0 k1 (Nat.le_trans k2 (by decide)) ⟨k2,by rw[k3];decide⟩
end Go.Proofs.Ytiipneclghnfhaa

namespace Go.Proofs.Ytiipneclghnfhaa
open Go.RowKit Go.Sx Go.Lp
theorem rkc_eq (xs:List Y) (hm:xs.length≤maxLen):rkc_F xs=chkY xs∧rkc_side xs:=by
 unfold rkc_F rkc_side chkY rkc_q1 tmY
 simp only[eY.lst_els]
 have h1:loopF (fun g:kc_G=>kc_R g.1 g.2.1 g.2.2) kc_M (xs,0,0)=_:=kc_run xs (0:Int) rfl hm trivial
 rw[h1]
 cases ha:(xs.any fun v=>tcheck_F v.t != 0) with
 | true=>exact ⟨rfl,okY xs,fun _=>⟨okY xs,ixJ0 rfl hm trivial⟩⟩
 | false=>
  refine ⟨?_,okY xs,fun _=>⟨okY xs,ixJ0 rfl hm trivial⟩⟩
  show (bif exB Ex.ret (scan 0 (kc_S xs) 0 xs 0).1 then (scan 0 (kc_S xs) 0 xs 0).2.2 else (0:Int))=bif badAt xs then 40 else 0
  rcases searchI (x:=0) (st:=kc_S xs) (p:=fun i v=>badP xs i v) (r:=fun _ _ _=>(40:Int)) (fun b i v=>by unfold kc_S badP;simp only[rtcmp_eq];rfl) xs (0:Int) with ⟨n,a,hna,hp,h4⟩ | ⟨hno,h4⟩
  ·have h4:scan 0 (kc_S xs) 0 xs 0=_:=h4
   rw[h4,badAt_of hna hp];rfl
  ·have h4:scan 0 (kc_S xs) 0 xs 0=_:=h4
   rw[h4,badAt_no hno];rfl
theorem rkc_ok:FnPure Try.prog 67 aLY dI chkY (fun _=>[]):=
 pure_congr (rkc_okS (fun _=>[]) fun g hb _=>(rkc_eq g hb.1).2) fun g hb _=>(rkc_eq g hb.1).1
theorem lst_snoc2 {α:Type} (A:El α) (o:List α) (x y:α):A.lst (min (min (o.length+1+1) (o.length+1)) o.length) (A.els o)++List.map (fun _=>x) (List.range (min (o.length+1+1) (o.length+1) - o.length))++List.map (fun _=>y) (List.range (o.length+1+1 - (o.length+1)))=(o++[x])++[y]:=by
 rw[Nat.min_eq_right (Nat.le_succ (o.length+1)),lst_snoc,show o.length+1+1 - (o.length+1)=1 by omega]
 rfl
noncomputable def puO (x:Y) (o:List Y) (z:Bool) (v:Y):List Y:=(bif !z&&decide (tcmp_F x.t v.t<(0:Int)) then o++[x] else o)++[bif tcmp_F x.t v.t==(0:Int) then Y.mk x.t (IntKind.i64.wrap (v.n+x.n)) else v]
noncomputable def puZ (x:Y) (z:Bool) (v:Y):Bool:=bif !z&&decide (tcmp_F x.t v.t<(0:Int)) then true else tcmp_F x.t v.t==(0:Int)||z
noncomputable def pu_S (c:pu_GC) (b:pu_GB) (_:Int) (v:Y):Ex×pu_GB:=(.normal,(),puO c.2 b.2.1 b.2.2 v,puZ c.2 b.2.2 v)
def pu_K (c:pu_GC) (b:pu_GB) (i:Int):Prop:=c.1.length≤KS∧(List.length b.2.1:Int)≤i+(bif b.2.2 then 1 else 0)
abbrev pu_I (g:pu_G):List Prop:=ixI (fun c:pu_GC=>(c.1.length:Int)) (fun c=>c.1) pu_K (pu_f g)
abbrev pu_M (g:pu_G):Nat:=ixM (fun c:pu_GC=>(c.1.length:Int)) (pu_f g)
theorem pu_P:ixP pu_S (fun c:pu_GC=>c.1) pu_K:=by
 rintro ⟨xs,x⟩ ⟨u,o,z⟩ i a ⟨h1,h2⟩ _ _
 refine ⟨h1,?_⟩
 have h2:(List.length o:Int)≤(i:Int)+(bif z then 1 else 0):=h2
 show (List.length (puO x o z a):Int)≤(i:Int)+1+(bif puZ x z a then 1 else 0)
 unfold puO puZ
 cases z <;> cases decide (tcmp_F x.t a.t<(0:Int)) <;> cases tcmp_F x.t a.t==(0:Int) <;> simp at h2 ⊢ <;> omega
noncomputable abbrev pu_RR (g:pu_G):Ex×pu_G:=pu_R g.1 g.2.1 g.2.2.1 g.2.2.2.1 g.2.2.2.2.1 g.2.2.2.2.2
theorem pu_RF (d:Int×pu_GC×pu_GB) (_:allP (ixI (fun c:pu_GC=>(c.1.length:Int)) (fun c=>c.1) pu_K d)):pu_RR (pu_g d)=((ixF 0 (fun c:pu_GC=>(c.1.length:Int)) (fun c=>c.1) eY.dflt pu_S d).1,pu_g (ixF 0 (fun c:pu_GC=>(c.1.length:Int)) (fun c=>c.1) eY.dflt pu_S d).2):=by
 obtain ⟨i,⟨xs,x⟩,⟨⟨⟩,o,z⟩⟩:=d
 show pu_R xs () x o z i=_
 unfold pu_R ixF pu_S puO puZ
 simp only[eY.lst_els,rtcmp_eq,Bool.cond_self,lst_snoc2,lst_snoc]
 generalize xs.getD i.toNat eY.dflt=v
 generalize decide (tcmp_F x.t v.t<(0:Int))=p
 generalize (tcmp_F x.t v.t==(0:Int))=q
 cases decide (i<(xs.length:Int)) with
 | false=>rfl
 | true=>cases z <;> cases p <;> cases q <;> rfl
theorem pu_ok:∀ b∈loopsOf Try.prog 111,lkey b=4→LoopOk Try.prog b (pu_C pu_I pu_M).g:=by
 refine pu_loop pu_I pu_M (fun g hi=>?_) (ix_conj_goes (fun _=>rfl) (fun _=>rfl) pu_RF pu_P)
 obtain ⟨xs,⟨⟩,x,o,z,i⟩:=g
 obtain ⟨h1,h2,h3,h4,h5,h6⟩:=hi _ (List.mem_cons_self ..)
 have h3:0≤i:=h3
 have h4:i≤(xs.length:Int):=h4
 have h5:xs.length≤1000000:=h5
 have h6:(o.length:Int)≤i+(bif z then 1 else 0):=h6
 have h6:(o.length:Int)≤i+1:=by cases z <;> simp at h6 <;> omega
 show pu_side xs () x o z i
 unfold pu_side
 simp only[bytesY,Bool.cond_self,decide_eq_true_eq,decide_eq_false_iff_not]
 have k0:∀ e:Nat,e<xs.length→eY.Ok (eY.els xs e):=fun e _=>eY.ok_els xs e
 clear hi
 repeat' (first | exact k0 | apply And.intro | intro _)
 all_goals (first | trivial | omega | (unfold maxLen;omega))
theorem pu_run (xs:List Y) (x:Y) (k2:xs.length≤KS):loopF pu_RR pu_M (xs,(),x,[],false,0)=((scan 0 (pu_S (xs,x)) 0 xs ((),[],false)).1,pu_g ((scan 0 (pu_S (xs,x)) 0 xs ((),[],false)).2.1,(xs,x),(scan 0 (pu_S (xs,x)) 0 xs ((),[],false)).2.2)):=ix_conj_run (φ:=pu_f) (ψ:=pu_g) (fun _=>rfl) (fun _=>rfl) pu_RF pu_P (xs,x) ((),[],false) rfl (Nat.le_trans k2 (by decide)) ⟨k2,by decide⟩
theorem pu_ix (xs:List Y) (x:Y) (k2:xs.length≤KS):ixJ (fun c:pu_GC=>(c.1.length:Int)) (fun c=>c.1) pu_K (0,(xs,x),((),[],false)):=ixJ0 rfl (Nat.le_trans k2 (by decide)) ⟨k2,by decide⟩
theorem lexC_self:∀ x:List Int,lexC x x=0
 | []=>rfl
 | a :: x=>by
  unfold lexC
  rw[if_neg (by omega),if_neg (by omega)]
  exact lexC_self x
theorem lexC_zero:∀ x y:List Int,lexC x y=0→x=y
 | [],[],_=>rfl
 | [],_ :: _,h=>by unfold lexC at h;simp at h
 | _ :: _,[],h=>by unfold lexC at h;simp at h
 | a :: x,b :: y,h=>by
  unfold lexC at h
  by_cases h1:a<b
  ·rw[if_pos h1] at h;simp at h
  ·rw[if_neg h1] at h
   by_cases h2:b<a
   ·rw[if_pos h2] at h;simp at h
   ·rw[if_neg h2] at h
    rw[lexC_zero x y h,show a=b by omega]
theorem tcmp0 (a b:T):(tcmp_F a b==(0:Int))=decide (a=b):=by
 rw[Bool.eq_iff_iff,beq_iff_eq,decide_eq_true_eq]
 constructor
 ·intro h
  rw[tcmp_lex] at h
  exact keyT_inj a b (lexC_zero _ _ h)
 ·rintro rfl
  rw[tcmp_lex];exact lexC_self _
theorem pu_rest (xs:List Y) (x:Y):∀ (l:List Y) (o:List Y),(∀ v∈l,tcmp_F x.t v.t<0)→l.foldl (fun b v=>(puO x b.1 b.2 v,puZ x b.2 v)) (o,true)=(o++l,true)
 | [],o,_=>by simp
 | v :: l,o,h=>by
  have h1:=h v (List.mem_cons_self ..)
  have h2:(tcmp_F x.t v.t==(0:Int))=false:=by
   rw[Bool.eq_false_iff]
   intro h3
   rw[eq_of_beq h3] at h1
   exact absurd h1 (by decide)
  have e:(puO x o true v,puZ x true v)=(o++[v],true):=by
   unfold puO puZ
   rw[h2];rfl
  rw[List.foldl_cons,e,pu_rest xs x l _ fun w hw=>h w (List.mem_cons_of_mem _ hw)]
  simp
abbrev SrtY (l:List Y):Prop:=Srt Y.t (fun a b=>tcmp_F a b) l
noncomputable abbrev putY (x:Y) (l:List Y):List Y:=putK Y.t Y.n Y.mk (fun a b=>tcmp_F a b) x l
theorem pu_all (xs:List Y) (x:Y):∀ (l:List Y) (o:List Y),SrtY l→(∀ v∈l,IntKind.i64.wrap (v.n+x.n)=v.n+x.n)→(bif !(l.foldl (fun b v=>(puO x b.1 b.2 v,puZ x b.2 v)) (o,false)).2 then (l.foldl (fun b v=>(puO x b.1 b.2 v,puZ x b.2 v)) (o,false)).1++[x] else (l.foldl (fun b v=>(puO x b.1 b.2 v,puZ x b.2 v)) (o,false)).1)=o++putY x l
 | [],o,_,_=>rfl
 | v :: l,o,hs,hw=>by
  have hs':=hs
  unfold SrtY Srt at hs'
  rw[List.pairwise_cons] at hs'
  rw[List.foldl_cons]
  unfold putY
  simp only[putK]
  by_cases h1:tcmp_F x.t v.t<0
  ·have h2:(tcmp_F x.t v.t==(0:Int))=false:=by
    rw[Bool.eq_false_iff]
    intro h3
    rw[eq_of_beq h3] at h1
    exact absurd h1 (by decide)
   have e:(puO x o false v,puZ x false v)=(o++[x]++[v],true):=by
    unfold puO puZ
    rw[h2,decide_eq_true h1];rfl
   rw[e,pu_rest xs x l _ fun w hw=>toT.trans h1 (hs'.1 w hw),if_pos h1]
   simp
  ·rw[if_neg h1]
   by_cases h2:x.t=v.t
   ·have h3:(tcmp_F x.t v.t==(0:Int))=true:=by rw[tcmp0];simpa using h2
    have e:(puO x o false v,puZ x false v)=(o++[Y.mk x.t (v.n+x.n)],true):=by
     unfold puO puZ
     rw[h3,decide_eq_false h1,hw v (List.mem_cons_self ..)];rfl
    rw[e,pu_rest xs x l _ fun w hw=>by rw[h2];exact hs'.1 w hw,if_pos h2]
    simp
   ·have h3:(tcmp_F x.t v.t==(0:Int))=false:=by rw[tcmp0];simpa using h2
    have e:(puO x o false v,puZ x false v)=(o++[v],false):=by
     unfold puO puZ
     rw[h3,decide_eq_false h1];rfl
    rw[e,pu_all xs x l _ hs'.2 fun w h=>hw w (List.mem_cons_of_mem _ h),if_neg h2]
    simp
theorem pu_scan (xs:List Y) (x:Y):∀ (l:List Y) (i:Int) (o:List Y) (z:Bool),(scan 0 (pu_S (xs,x)) i l ((),o,z)).1=.exit 0∧(scan 0 (pu_S (xs,x)) i l ((),o,z)).2.2.2=l.foldl (fun b v=>(puO x b.1 b.2 v,puZ x b.2 v)) (o,z)
 | [],_,_,_=>⟨rfl,rfl⟩
 | v :: l,i,o,z=>pu_scan xs x l (i+1) _ _
noncomputable def ltU13:LTab Try.prog:=(((((((((ltU6.cons 111 4 (pu_C pu_I pu_M) pu_ok).cons 40 4 (ga_C ga_I ga_M) ga_ok).cons 42 3 (gc_C gc_I gc_M) gc_ok).cons 44 5 (ge_C ge_I ge_M) ge_ok).cons 47 4 (gg_C gg_I gg_M) gg_ok).cons 125 2 (gh_C gh_I gh_M) gh_ok).cons 60 5 (wi_C wi_I wi_M) wi_ok).cons 60 16 (ou_C ou_I ou_M) ou_ok).cons 65 6 (ne_C ne_I ne_M) ne_ok).cons 97 3 (th_C th_I th_M) th_ok
noncomputable abbrev lamU13:Lam:=ltU13.lam
theorem lamU13_ok:∀ f k L,lamU13 f k=some L→∀ b∈loopsOf Try.prog f,lkey b=k→LoopOk Try.prog b L.g:=ltU13.ok
noncomputable def tabU13:MTab Try.prog:=tabU10.cons 67 (pconP aLY dI chkY (fun _=>[])) (conP_ok rkc_ok puI)
end Go.Proofs.Ytiipneclghnfhaa

namespace Go.Proofs.Ytiipneclghnfhaa
open Go.RowKit Go.Sx
set_option maxRecDepth 100000
set_option linter.unusedVariables false
abbrev aLYT:DA (List Y×T):=.cons dLY (.one dT)
abbrev rLY:Rv (List Y):=.list eY
abbrev rLYE:Rv (List Y×Int):=.tup (.cons (.list eY) (.one (.of dI)))
abbrev aLYY:DA (List Y×Y):=.cons dLY (.one dY)
noncomputable def ygt_q1 (xs:List Y) (t:T):Ex ×
 ga_G:=
 loopF (fun g=>ga_R g.fst g.snd.fst g.snd.snd.fst g.snd.snd.snd.fst g.snd.snd.snd.snd.fst g.snd.snd.snd.snd.snd) ga_M (eY.lst xs.length (eY.els xs),(↑xs.length:Int),(0:Int),(),t,(0:Int))
noncomputable def ygt_F (xs:List Y) (t:T):Dv.T dI:=
 bif chkY (eY.lst xs.length (eY.els xs)) != (0:Int) then (0:Int)
 else bif exB Ex.ret (ygt_q1 xs t).fst then (ygt_q1 xs t).snd.snd.snd.snd.snd.snd else (0:Int)
def ygt_side (xs:List Y) (t:T):Prop:=
 (∀ (e:Nat),e<xs.length→eY.Ok (eY.els xs e))∧((chkY (eY.lst xs.length (eY.els xs)) != (0:Int))=false→(∀ (e:Nat),e<xs.length→eY.Ok (eY.els xs e))∧Lp.ixJ (fun c=>c.snd.fst) (fun c=>c.fst) ga_K (ga_f (eY.lst xs.length (eY.els xs),(↑xs.length:Int),(0:Int),(),t,(0:Int))))
theorem ygt_okS (pre:DA.T aLYT→List Prop) (h:∀ g,DA.bd aLYT g→(∀ p∈pre g,p)→ygt_side g.1 g.2):FnPure Try.prog 40 aLYT dI (fun g=>ygt_F g.1 g.2) pre:=pure_of_sideS (Γ:=(MTab.gamz tabU13 [] [])) (Λ:=lamU13) (MTab.okz tabU13 [] []) lamU13_ok 100 default (fun g=>ygt_side g.1 g.2) (fun g=>by kernel_rfl) (fun g=>by kernel_rfl) h
noncomputable def ybl_q1 (xs:List Y) (t:T):Ex ×
 gc_G:=
 loopF (fun g=>gc_R g.fst g.snd.fst g.snd.snd.fst g.snd.snd.snd.fst g.snd.snd.snd.snd.fst g.snd.snd.snd.snd.snd) gc_M (eY.lst xs.length (eY.els xs),(↑xs.length:Int),(0:Int),(),t,(0:Int))
noncomputable def ybl_F (xs:List Y) (t:T):Dv.T dI:=
 bif chkY (eY.lst xs.length (eY.els xs)) != (0:Int) then (0:Int) else (ybl_q1 xs t).snd.snd.snd.snd.snd.snd
def ybl_side (xs:List Y) (t:T):Prop:=
 (∀ (e:Nat),e<xs.length→eY.Ok (eY.els xs e))∧Lp.ixJ (fun c=>c.snd.fst) (fun c=>c.fst) gc_K (gc_f (eY.lst xs.length (eY.els xs),(↑xs.length:Int),(0:Int),(),t,(0:Int)))∧∀ (e:Nat),e<xs.length→eY.Ok (eY.els xs e)
theorem ybl_okS (pre:DA.T aLYT→List Prop) (h:∀ g,DA.bd aLYT g→(∀ p∈pre g,p)→ybl_side g.1 g.2):FnPure Try.prog 42 aLYT dI (fun g=>ybl_F g.1 g.2) pre:=pure_of_sideS (Γ:=(MTab.gamz tabU13 [] [])) (Λ:=lamU13) (MTab.okz tabU13 [] []) lamU13_ok 100 default (fun g=>ybl_side g.1 g.2) (fun g=>by kernel_rfl) (fun g=>by kernel_rfl) h
noncomputable def ytl_q1 (xs:List Y):Ex ×
 ge_G:=
 loopF (fun g=>ge_R g.fst g.snd.fst g.snd.snd.fst g.snd.snd.snd) ge_M (eY.lst xs.length (eY.els xs),(↑xs.length:Int),(0:Int),(0:Int))
noncomputable def ytl_F (xs:List Y):Dv.T dI:=
 bif chkY (eY.lst xs.length (eY.els xs)) != (0:Int) then (0:Int) else (ytl_q1 xs).snd.snd.snd.snd
def ytl_side (xs:List Y):Prop:=
 (∀ (e:Nat),e<xs.length→eY.Ok (eY.els xs e))∧((chkY (eY.lst xs.length (eY.els xs)) != (0:Int))=false→(∀ (e:Nat),e<xs.length→eY.Ok (eY.els xs e))∧Lp.ixJ (fun c=>c.snd) (fun c=>c.fst) ge_K (ge_f (eY.lst xs.length (eY.els xs),(↑xs.length:Int),(0:Int),(0:Int))))
theorem ytl_okS (pre:DA.T aLY→List Prop) (h:∀ g,DA.bd aLY g→(∀ p∈pre g,p)→ytl_side g):FnPure Try.prog 44 aLY dI (fun g=>ytl_F g) pre:=pure_of_sideS (Γ:=(MTab.gamz tabU13 [] [])) (Λ:=lamU13) (MTab.okz tabU13 [] []) lamU13_ok 100 default (fun g=>ytl_side g) (fun g=>by kernel_rfl) (fun g=>by kernel_rfl) h
noncomputable def rpl_q1 (xs:List Y):Ex ×
 gg_G:=
 loopF (fun g=>gg_R g.fst g.snd.fst g.snd.snd) gg_M (eY.lst xs.length (eY.els xs),(0:Int),false)
noncomputable def rpl_F (xs:List Y):Dv.T dBool:=
 bif chkY (eY.lst xs.length (eY.els xs)) != (0:Int) then false
 else bif exB Ex.ret (rpl_q1 xs).fst then (rpl_q1 xs).snd.snd.snd else true
def rpl_side (xs:List Y):Prop:=
 (∀ (e:Nat),e<xs.length→eY.Ok (eY.els xs e))∧((chkY (eY.lst xs.length (eY.els xs)) != (0:Int))=false→(∀ (e:Nat),e<xs.length→eY.Ok (eY.els xs e))∧Lp.ixJ (fun c=>(↑(List.length c):Int)) (fun c=>c) gg_K (gg_f (eY.lst xs.length (eY.els xs),(0:Int),false)))
theorem rpl_okS (pre:DA.T aLY→List Prop) (h:∀ g,DA.bd aLY g→(∀ p∈pre g,p)→rpl_side g):FnPure Try.prog 47 aLY dBool (fun g=>rpl_F g) pre:=pure_of_sideS (Γ:=(MTab.gamz tabU13 [] [])) (Λ:=lamU13) (MTab.okz tabU13 [] []) lamU13_ok 100 default (fun g=>rpl_side g) (fun g=>by kernel_rfl) (fun g=>by kernel_rfl) h
noncomputable def ypl_q1 (xs:List Y):Ex ×
 gh_G:=
 loopF (fun g=>gh_R g.fst g.snd.fst g.snd.snd.fst g.snd.snd.snd.fst g.snd.snd.snd.snd) gh_M (eY.lst xs.length (eY.els xs),(),(↑xs.length:Int),(0:Int),(0:Int))
noncomputable def ypl_F (xs:List Y):Dv.T dBool:=
 bif chkY (eY.lst xs.length (eY.els xs))==(0:Int) then bif exB Ex.ret (ypl_q1 xs).fst then !decide ((ypl_q1 xs).snd.snd.snd.snd.snd≥(0:Int)) else !decide ((-1:Int)≥(0:Int))
 else false
def ypl_side (xs:List Y):Prop:=
 (∀ (e:Nat),e<xs.length→eY.Ok (eY.els xs e))∧((chkY (eY.lst xs.length (eY.els xs))==(0:Int))=true→(∀ (e:Nat),e<xs.length→eY.Ok (eY.els xs e))∧Lp.ixJ (fun c=>c.snd) (fun c=>c.fst) gh_K (gh_f (eY.lst xs.length (eY.els xs),(),(↑xs.length:Int),(0:Int),(0:Int))))
theorem ypl_okS (pre:DA.T aLY→List Prop) (h:∀ g,DA.bd aLY g→(∀ p∈pre g,p)→ypl_side g):FnPure Try.prog 46 aLY dBool (fun g=>ypl_F g) pre:=pure_of_sideS (Γ:=(MTab.gamz tabU13 [] [])) (Λ:=lamU13) (MTab.okz tabU13 [] []) lamU13_ok 100 default (fun g=>ypl_side g) (fun g=>by kernel_rfl) (fun g=>by kernel_rfl) h
noncomputable def rpu_q1 (xs:List Y) (w:Y):Ex ×
 pu_G:=
 loopF (fun g=>pu_R g.fst g.snd.fst g.snd.snd.fst g.snd.snd.snd.fst g.snd.snd.snd.snd.fst g.snd.snd.snd.snd.snd) pu_M (eY.lst xs.length (eY.els xs),(),w,[],false,(0:Int))
noncomputable def rpu_F (xs:List Y) (w:Y):Rv.T rLY:=
 bif !(rpu_q1 xs w).snd.snd.snd.snd.snd.fst then eY.lst (min ((rpu_q1 xs w).snd.snd.snd.snd.fst.length+(1:Nat)) (rpu_q1 xs w).snd.snd.snd.snd.fst.length) (eY.els (rpu_q1 xs w).snd.snd.snd.snd.fst)++List.map (fun x=>(rpu_q1 xs w).snd.snd.snd.fst) (List.range ((rpu_q1 xs w).snd.snd.snd.snd.fst.length+(1:Nat) - (rpu_q1 xs w).snd.snd.snd.snd.fst.length))
 else eY.lst (rpu_q1 xs w).snd.snd.snd.snd.fst.length (eY.els (rpu_q1 xs w).snd.snd.snd.snd.fst)
def rpu_side (xs:List Y) (w:Y):Prop:=
 (∀ (e:Nat),e<xs.length→eY.Ok (eY.els xs e))∧Lp.ixJ (fun c=>(↑c.fst.length:Int)) (fun c=>c.fst) pu_K (pu_f (eY.lst xs.length (eY.els xs),(),w,[],false,(0:Int)))∧((!(rpu_q1 xs w).snd.snd.snd.snd.snd.fst)=true→((rpu_q1 xs w).snd.snd.snd.snd.fst.length≤(rpu_q1 xs w).snd.snd.snd.snd.fst.length∧True∧(rpu_q1 xs w).snd.snd.snd.snd.fst.length+(1:Nat)≤maxLen∧((rpu_q1 xs w).snd.snd.snd.snd.fst.length+(1:Nat)) * Try.prog.types[(45:Nat)].bytes≤(140737488355328:Nat))∧(rpu_q1 xs w).snd.snd.snd.snd.fst.length+(1:Nat)≤(rpu_q1 xs w).snd.snd.snd.snd.fst.length+(1:Nat)∧(∀ (e:Nat),e<min ((rpu_q1 xs w).snd.snd.snd.snd.fst.length+(1:Nat)) (rpu_q1 xs w).snd.snd.snd.snd.fst.length→True)∧∀ (e:Nat),e<(rpu_q1 xs w).snd.snd.snd.snd.fst.length+(1:Nat) - (rpu_q1 xs w).snd.snd.snd.snd.fst.length→True)∧((!(rpu_q1 xs w).snd.snd.snd.snd.snd.fst)=false→(rpu_q1 xs w).snd.snd.snd.snd.fst.length≤(rpu_q1 xs w).snd.snd.snd.snd.fst.length∧∀ (e:Nat),e<(rpu_q1 xs w).snd.snd.snd.snd.fst.length→True)
theorem rpu_okS (pre:DA.T aLYY→List Prop) (h:∀ g,DA.bd aLYY g→(∀ p∈pre g,p)→rpu_side g.1 g.2):FnPure Try.prog 111 aLYY (Rv.D rLY) (fun g=>rpu_F g.1 g.2) pre:=res_of_side (R:=rLY) (Γ:=(MTab.gamz tabU13 [] [])) (Λ:=lamU13) (MTab.okz tabU13 [] []) lamU13_ok 100 default (fun g=>rpu_side g.1 g.2) (fun g=>by kernel_rfl) (fun g=>by kernel_rfl) h
noncomputable def rne_q1 (xs:List Y):Ex×ne_G:=
 loopF (fun g=>ne_R g.fst g.snd.fst g.snd.snd) ne_M (eY.lst xs.length (eY.els xs),[],(0:Int))
noncomputable def rne_F (xs:List Y):Rv.T rLYE:=
 bif chkY (eY.lst xs.length (eY.els xs)) != (0:Int) then ([],chkY (eY.lst xs.length (eY.els xs)))
 else (eY.lst (rne_q1 xs).snd.snd.fst.length (eY.els (rne_q1 xs).snd.snd.fst),(0:Int))
def rne_side (xs:List Y):Prop:=
 (∀ (e:Nat),e<xs.length→eY.Ok (eY.els xs e))∧((chkY (eY.lst xs.length (eY.els xs)) != (0:Int))=false→(∀ (e:Nat),e<xs.length→eY.Ok (eY.els xs e))∧Lp.ixJ (fun c=>(↑(List.length c):Int)) (fun c=>c) ne_K (ne_f (eY.lst xs.length (eY.els xs),[],(0:Int)))∧(rne_q1 xs).snd.snd.fst.length≤(rne_q1 xs).snd.snd.fst.length∧∀ (e:Nat),e<(rne_q1 xs).snd.snd.fst.length→True)
theorem rne_okS (pre:DA.T aLY→List Prop) (h:∀ g,DA.bd aLY g→(∀ p∈pre g,p)→rne_side g):FnPure Try.prog 65 aLY (Rv.D rLYE) (fun g=>rne_F g) pre:=res_of_side (R:=rLYE) (Γ:=(MTab.gamz tabU13 [] [])) (Λ:=lamU13) (MTab.okz tabU13 [] []) lamU13_ok 100 default (fun g=>rne_side g) (fun g=>by kernel_rfl) (fun g=>by kernel_rfl) h
noncomputable def yth_q1 (xs:List Y):Ex ×
 th_G:=
 loopF (fun g=>th_R g.fst g.snd.fst g.snd.snd.fst g.snd.snd.snd) th_M (eY.lst xs.length (eY.els xs),(↑xs.length:Int),(0:Int),[])
noncomputable def yth_F (xs:List Y):Rv.T rLY:=
 eY.lst (yth_q1 xs).snd.snd.snd.snd.length (eY.els (yth_q1 xs).snd.snd.snd.snd)
def yth_side (xs:List Y):Prop:=
 (∀ (e:Nat),e<xs.length→eY.Ok (eY.els xs e))∧Lp.ixJ (fun c=>c.snd) (fun c=>c.fst) th_K (th_f (eY.lst xs.length (eY.els xs),(↑xs.length:Int),(0:Int),[]))∧(yth_q1 xs).snd.snd.snd.snd.length≤(yth_q1 xs).snd.snd.snd.snd.length∧∀ (e:Nat),e<(yth_q1 xs).snd.snd.snd.snd.length→True
theorem yth_okS (pre:DA.T aLY→List Prop) (h:∀ g,DA.bd aLY g→(∀ p∈pre g,p)→yth_side g):FnPure Try.prog 97 aLY (Rv.D rLY) (fun g=>yth_F g) pre:=res_of_side (R:=rLY) (Γ:=(MTab.gamz tabU13 [] [])) (Λ:=lamU13) (MTab.okz tabU13 [] []) lamU13_ok 100 default (fun g=>yth_side g) (fun g=>by kernel_rfl) (fun g=>by kernel_rfl) h
abbrev lg1_G:Type:=List Y×Unit×T×Int×Int
noncomputable def lg1_LP:LP 1 lg1_G:=.pair (.slot 1 0 dLY) (.pair (.fix 1 3 (.p 0 0)) (.pair (.obj 1 0 30 eT) (.pair (.slot 1 5 dI) (.slot 1 6 dI))))
noncomputable def lg1_R (xs:List Y) (_u:Unit) (t:T) (r:Int) (i:Int):Ex×lg1_G:=
 bif decide (i<(↑xs.length:Int))&&chkY (eY.lst xs.length (eY.els xs))==(0:Int) then (Ex.normal,eY.lst xs.length (eY.els xs),(),t,bif conj ([(xs.getD i.toNat eY.dflt).t.e==t.e]++([(xs.getD i.toNat eY.dflt).t.d==t.d]++([(xs.getD i.toNat eY.dflt).t.l0==t.l0]++([(xs.getD i.toNat eY.dflt).t.l1==t.l1]++([(xs.getD i.toNat eY.dflt).t.l2==t.l2]++([(xs.getD i.toNat eY.dflt).t.l3==t.l3]++[])))++[]))) then (xs.getD i.toNat eY.dflt).n else r,IntKind.i64.wrap (i+(1:Int)))
 else (Ex.exit (0:Nat),eY.lst xs.length (eY.els xs),(),t,r,i)
def lg1_side (xs:List Y) (_u:Unit) (t:T) (r:Int) (i:Int):Prop:=
 (decide (i<(↑xs.length:Int))=true→∀ (e:Nat),e<xs.length→eY.Ok (eY.els xs e))∧((decide (i<(↑xs.length:Int))&&chkY (eY.lst xs.length (eY.els xs))==(0:Int))=true→((0:Int)≤i∧i<(↑xs.length:Int))∧(conj ([(xs.getD i.toNat eY.dflt).t.e==t.e]++([(xs.getD i.toNat eY.dflt).t.d==t.d]++([(xs.getD i.toNat eY.dflt).t.l0==t.l0]++([(xs.getD i.toNat eY.dflt).t.l1==t.l1]++([(xs.getD i.toNat eY.dflt).t.l2==t.l2]++([(xs.getD i.toNat eY.dflt).t.l3==t.l3]++[])))++[])))=true→(0:Int)≤i∧i<(↑xs.length:Int))∧∀ (e:Nat),e<xs.length→eY.Ok (eY.els xs e))∧((decide (i<(↑xs.length:Int))&&chkY (eY.lst xs.length (eY.els xs))==(0:Int))=false→∀ (e:Nat),e<xs.length→eY.Ok (eY.els xs e))
theorem lg1_one:((loopsOf Try.prog 41).filter fun c=>Nat.beq (lkey c) 3).length=1:=by kernel_rfl
abbrev lg1_GC:Type:=List Y×T
abbrev lg1_GB:Type:=Unit×Int
def lg1_f (g:lg1_G):Int×lg1_GC×lg1_GB:=(g.2.2.2.2,(g.1,g.2.2.1),(g.2.1,g.2.2.2.1))
def lg1_g (d:Int×lg1_GC×lg1_GB):lg1_G:=(d.2.1.1,d.2.2.1,d.2.1.2,d.2.2.2,d.1)
theorem lg1_es (g:lg1_G):(lg1_R g.1 g.2.1 g.2.2.1 g.2.2.2.1 g.2.2.2.2).1=.normal∨(lg1_R g.1 g.2.1 g.2.2.1 g.2.2.2.1 g.2.2.2.2).1∈([.exit 0]:List Ex):=by
 unfold lg1_R
 repeat' (first | (left;rfl) | (right;simp only[cond_true,cond_false];simp;done) | (rw[Bool.cond_eq_ite];split))
noncomputable abbrev lg1_C (Inv:lg1_G→List Prop) (m:lg1_G→Nat):LCon:=loopR [.exit 0] (loopBody Try.prog 41 3) lg1_LP [] 31 Inv (fun g=>lg1_R g.1 g.2.1 g.2.2.1 g.2.2.2.1 g.2.2.2.2) m
theorem lg1_loop (Inv:lg1_G→List Prop) (m:lg1_G→Nat) (hs:∀ g,allP (Inv g)→lg1_side g.1 g.2.1 g.2.2.1 g.2.2.2.1 g.2.2.2.2) (hg:Goes (fun g:lg1_G=>lg1_R g.1 g.2.1 g.2.2.1 g.2.2.2.1 g.2.2.2.2) m fun g=>allP (Inv g)):∀ b∈loopsOf Try.prog 41,lkey b=3→LoopOk Try.prog b (lg1_C Inv m).g:=loop_run (Γ:=(MTab.gamz tabU13 [] [])) (Λ:=lamU13) (MTab.okz tabU13 [] []) lamU13_ok 100 41 3 31 lg1_LP [] Inv (fun g=>lg1_R g.1 g.2.1 g.2.2.1 g.2.2.2.1 g.2.2.2.2) (fun g=>lg1_side g.1 g.2.1 g.2.2.1 g.2.2.2.1 g.2.2.2.2) m default [.exit 0] lg1_one (fun rd T B HL HB ds g=>by kernel_rfl) (fun rd T B HL HB ds g=>by kernel_rfl) hs hg lg1_es
abbrev lg2_G:Type:=List Y×Unit×T×Int×Int
noncomputable def lg2_LP:LP 1 lg2_G:=.pair (.slot 1 0 dLY) (.pair (.fix 1 3 (.p 0 0)) (.pair (.obj 1 0 30 eT) (.pair (.slot 1 5 dI) (.slot 1 6 dI))))
noncomputable def lg2_R (xs:List Y) (_u:Unit) (t:T) (r:Int) (i:Int):Ex×lg2_G:=
 bif decide (i<(↑xs.length:Int))&&chkY (eY.lst xs.length (eY.els xs))==(0:Int) then (Ex.normal,eY.lst xs.length (eY.els xs),(),t,bif rtleq_F (xs.getD i.toNat eY.dflt).t t then IntKind.i64.wrap (r+(xs.getD i.toNat eY.dflt).n) else r,IntKind.i64.wrap (i+(1:Int)))
 else (Ex.exit (0:Nat),eY.lst xs.length (eY.els xs),(),t,r,i)
def lg2_side (xs:List Y) (_u:Unit) (t:T) (r:Int) (i:Int):Prop:=
 (decide (i<(↑xs.length:Int))=true→∀ (e:Nat),e<xs.length→eY.Ok (eY.els xs e))∧((decide (i<(↑xs.length:Int))&&chkY (eY.lst xs.length (eY.els xs))==(0:Int))=true→((0:Int)≤i∧i<(↑xs.length:Int))∧(rtleq_F (xs.getD i.toNat eY.dflt).t t=true→(0:Int)≤i∧i<(↑xs.length:Int))∧∀ (e:Nat),e<xs.length→eY.Ok (eY.els xs e))∧((decide (i<(↑xs.length:Int))&&chkY (eY.lst xs.length (eY.els xs))==(0:Int))=false→∀ (e:Nat),e<xs.length→eY.Ok (eY.els xs e))
theorem lg2_one:((loopsOf Try.prog 43).filter fun c=>Nat.beq (lkey c) 3).length=1:=by kernel_rfl
abbrev lg2_GC:Type:=List Y×T
abbrev lg2_GB:Type:=Unit×Int
def lg2_f (g:lg2_G):Int×lg2_GC×lg2_GB:=(g.2.2.2.2,(g.1,g.2.2.1),(g.2.1,g.2.2.2.1))
def lg2_g (d:Int×lg2_GC×lg2_GB):lg2_G:=(d.2.1.1,d.2.2.1,d.2.1.2,d.2.2.2,d.1)
theorem lg2_es (g:lg2_G):(lg2_R g.1 g.2.1 g.2.2.1 g.2.2.2.1 g.2.2.2.2).1=.normal∨(lg2_R g.1 g.2.1 g.2.2.1 g.2.2.2.1 g.2.2.2.2).1∈([.exit 0]:List Ex):=by
 unfold lg2_R
 repeat' (first | (left;rfl) | (right;simp only[cond_true,cond_false];simp;done) | (rw[Bool.cond_eq_ite];split))
noncomputable abbrev lg2_C (Inv:lg2_G→List Prop) (m:lg2_G→Nat):LCon:=loopR [.exit 0] (loopBody Try.prog 43 3) lg2_LP [] 33 Inv (fun g=>lg2_R g.1 g.2.1 g.2.2.1 g.2.2.2.1 g.2.2.2.2) m
theorem lg2_loop (Inv:lg2_G→List Prop) (m:lg2_G→Nat) (hs:∀ g,allP (Inv g)→lg2_side g.1 g.2.1 g.2.2.1 g.2.2.2.1 g.2.2.2.2) (hg:Goes (fun g:lg2_G=>lg2_R g.1 g.2.1 g.2.2.1 g.2.2.2.1 g.2.2.2.2) m fun g=>allP (Inv g)):∀ b∈loopsOf Try.prog 43,lkey b=3→LoopOk Try.prog b (lg2_C Inv m).g:=loop_run (Γ:=(MTab.gamz tabU13 [] [])) (Λ:=lamU13) (MTab.okz tabU13 [] []) lamU13_ok 100 43 3 33 lg2_LP [] Inv (fun g=>lg2_R g.1 g.2.1 g.2.2.1 g.2.2.2.1 g.2.2.2.2) (fun g=>lg2_side g.1 g.2.1 g.2.2.1 g.2.2.2.1 g.2.2.2.2) m default [.exit 0] lg2_one (fun rd T B HL HB ds g=>by kernel_rfl) (fun rd T B HL HB ds g=>by kernel_rfl) hs hg lg2_es
abbrev lg3_G:Type:=List Y×Int×Int
noncomputable def lg3_LP:LP 0 lg3_G:=.pair (.slot 0 0 dLY) (.pair (.slot 0 3 dI) (.slot 0 4 dI))
noncomputable def lg3_R (xs:List Y) (r:Int) (i:Int):Ex×lg3_G:=
 bif decide (i<(↑xs.length:Int))&&chkY (eY.lst xs.length (eY.els xs))==(0:Int) then (Ex.normal,eY.lst xs.length (eY.els xs),IntKind.i64.wrap (r+(xs.getD i.toNat eY.dflt).n),IntKind.i64.wrap (i+(1:Int)))
 else (Ex.exit (0:Nat),eY.lst xs.length (eY.els xs),r,i)
def lg3_side (xs:List Y) (r:Int) (i:Int):Prop:=
 (decide (i<(↑xs.length:Int))=true→∀ (e:Nat),e<xs.length→eY.Ok (eY.els xs e))∧((decide (i<(↑xs.length:Int))&&chkY (eY.lst xs.length (eY.els xs))==(0:Int))=true→((0:Int)≤i∧i<(↑xs.length:Int))∧∀ (e:Nat),e<xs.length→eY.Ok (eY.els xs e))∧((decide (i<(↑xs.length:Int))&&chkY (eY.lst xs.length (eY.els xs))==(0:Int))=false→∀ (e:Nat),e<xs.length→eY.Ok (eY.els xs e))
theorem lg3_one:((loopsOf Try.prog 45).filter fun c=>Nat.beq (lkey c) 3).length=1:=by kernel_rfl
abbrev lg3_GC:Type:=List Y
abbrev lg3_GB:Type:=Int
def lg3_f (g:lg3_G):Int×lg3_GC×lg3_GB:=(g.2.2,g.1,g.2.1)
def lg3_g (d:Int×lg3_GC×lg3_GB):lg3_G:=(d.2.1,d.2.2,d.1)
theorem lg3_es (g:lg3_G):(lg3_R g.1 g.2.1 g.2.2).1=.normal∨(lg3_R g.1 g.2.1 g.2.2).1∈([.exit 0]:List Ex):=by
 unfold lg3_R
 repeat' (first | (left;rfl) | (right;simp only[cond_true,cond_false];simp;done) | (rw[Bool.cond_eq_ite];split))
noncomputable abbrev lg3_C (Inv:lg3_G→List Prop) (m:lg3_G→Nat):LCon:=loopR [.exit 0] (loopBody Try.prog 45 3) lg3_LP [] 24 Inv (fun g=>lg3_R g.1 g.2.1 g.2.2) m
theorem lg3_loop (Inv:lg3_G→List Prop) (m:lg3_G→Nat) (hs:∀ g,allP (Inv g)→lg3_side g.1 g.2.1 g.2.2) (hg:Goes (fun g:lg3_G=>lg3_R g.1 g.2.1 g.2.2) m fun g=>allP (Inv g)):∀ b∈loopsOf Try.prog 45,lkey b=3→LoopOk Try.prog b (lg3_C Inv m).g:=loop_run (Γ:=(MTab.gamz tabU13 [] [])) (Λ:=lamU13) (MTab.okz tabU13 [] []) lamU13_ok 100 45 3 24 lg3_LP [] Inv (fun g=>lg3_R g.1 g.2.1 g.2.2) (fun g=>lg3_side g.1 g.2.1 g.2.2) m default [.exit 0] lg3_one (fun rd T B HL HB ds g=>by kernel_rfl) (fun rd T B HL HB ds g=>by kernel_rfl) hs hg lg3_es
abbrev lg4_G:Type:=List Y×List Y×Int
noncomputable def lg4_LP:LP 0 lg4_G:=.pair (.slot 0 0 dLY) (.pair (.row 0 3 tY eY) (.slot 0 4 dI))
noncomputable def lg4_R (xs:List Y) (o:List Y) (i:Int):Ex×lg4_G:=
 bif decide (i<(↑xs.length:Int))&&chkY (eY.lst xs.length (eY.els xs))==(0:Int) then bif decide ((xs.getD i.toNat eY.dflt).n > (0:Int)) then (Ex.normal,eY.lst xs.length (eY.els xs),eY.lst (min (o.length+(1:Nat)) o.length) (eY.els o)++List.map (fun x=>xs.getD i.toNat eY.dflt) (List.range (o.length+(1:Nat) - o.length)),IntKind.i64.wrap (i+(1:Int))) else (Ex.normal,eY.lst xs.length (eY.els xs),eY.lst o.length (eY.els o),IntKind.i64.wrap (i+(1:Int)))
 else (Ex.exit (0:Nat),eY.lst xs.length (eY.els xs),eY.lst o.length (eY.els o),i)
def lg4_side (xs:List Y) (o:List Y) (i:Int):Prop:=
 (decide (i<(↑xs.length:Int))=true→∀ (e:Nat),e<xs.length→eY.Ok (eY.els xs e))∧((decide (i<(↑xs.length:Int))&&chkY (eY.lst xs.length (eY.els xs))==(0:Int))=true→((0:Int)≤i∧i<(↑xs.length:Int))∧(decide ((xs.getD i.toNat eY.dflt).n > (0:Int))=true→((0:Int)≤i∧i<(↑xs.length:Int))∧(o.length≤o.length∧True∧o.length+(1:Nat)≤maxLen∧(o.length+(1:Nat)) * Try.prog.types[(45:Nat)].bytes≤(140737488355328:Nat))∧(∀ (e:Nat),e<xs.length→eY.Ok (eY.els xs e))∧o.length+(1:Nat)≤o.length+(1:Nat)∧(∀ (e:Nat),e<min (o.length+(1:Nat)) o.length→True)∧∀ (e:Nat),e<o.length+(1:Nat) - o.length→True)∧(decide ((xs.getD i.toNat eY.dflt).n > (0:Int))=false→(∀ (e:Nat),e<xs.length→eY.Ok (eY.els xs e))∧o.length≤o.length∧∀ (e:Nat),e<o.length→True))∧((decide (i<(↑xs.length:Int))&&chkY (eY.lst xs.length (eY.els xs))==(0:Int))=false→(∀ (e:Nat),e<xs.length→eY.Ok (eY.els xs e))∧o.length≤o.length∧∀ (e:Nat),e<o.length→True)
theorem lg4_one:((loopsOf Try.prog 39).filter fun c=>Nat.beq (lkey c) 3).length=1:=by kernel_rfl
abbrev lg4_GC:Type:=List Y
abbrev lg4_GB:Type:=List Y
def lg4_f (g:lg4_G):Int×lg4_GC×lg4_GB:=(g.2.2,g.1,g.2.1)
def lg4_g (d:Int×lg4_GC×lg4_GB):lg4_G:=(d.2.1,d.2.2,d.1)
theorem lg4_es (g:lg4_G):(lg4_R g.1 g.2.1 g.2.2).1=.normal∨(lg4_R g.1 g.2.1 g.2.2).1∈([.exit 0]:List Ex):=by
 unfold lg4_R
 repeat' (first | (left;rfl) | (right;simp only[cond_true,cond_false];simp;done) | (rw[Bool.cond_eq_ite];split))
noncomputable abbrev lg4_C (Inv:lg4_G→List Prop) (m:lg4_G→Nat):LCon:=loopR [.exit 0] (loopBody Try.prog 39 3) lg4_LP [] 30 Inv (fun g=>lg4_R g.1 g.2.1 g.2.2) m
theorem lg4_loop (Inv:lg4_G→List Prop) (m:lg4_G→Nat) (hs:∀ g,allP (Inv g)→lg4_side g.1 g.2.1 g.2.2) (hg:Goes (fun g:lg4_G=>lg4_R g.1 g.2.1 g.2.2) m fun g=>allP (Inv g)):∀ b∈loopsOf Try.prog 39,lkey b=3→LoopOk Try.prog b (lg4_C Inv m).g:=loop_run (Γ:=(MTab.gamz tabU13 [] [])) (Λ:=lamU13) (MTab.okz tabU13 [] []) lamU13_ok 100 39 3 30 lg4_LP [] Inv (fun g=>lg4_R g.1 g.2.1 g.2.2) (fun g=>lg4_side g.1 g.2.1 g.2.2) m default [.exit 0] lg4_one (fun rd T B HL HB ds g=>by kernel_rfl) (fun rd T B HL HB ds g=>by kernel_rfl) hs hg lg4_es
abbrev lg5_G:Type:=List Y×List T×Int
noncomputable def lg5_LP:LP 0 lg5_G:=.pair (.slot 0 0 dLY) (.pair (.row 0 5 30 eT) (.slot 0 6 dI))
noncomputable def lg5_R (xs:List Y) (o:List T) (i:Int):Ex×lg5_G:=
 bif decide (i<(↑xs.length:Int)) then bif decide ((xs.getD i.toNat eY.dflt).n > (0:Int)) then (Ex.normal,eY.lst xs.length (eY.els xs),eT.lst (min (o.length+(1:Nat)) o.length) (eT.els o)++List.map (fun x=>(xs.getD i.toNat eY.dflt).t) (List.range (o.length+(1:Nat) - o.length)),IntKind.i64.wrap (i+(1:Int))) else (Ex.normal,eY.lst xs.length (eY.els xs),eT.lst o.length (eT.els o),IntKind.i64.wrap (i+(1:Int)))
 else (Ex.exit (0:Nat),eY.lst xs.length (eY.els xs),eT.lst o.length (eT.els o),i)
def lg5_side (xs:List Y) (o:List T) (i:Int):Prop:=
 (decide (i<(↑xs.length:Int))=true→((0:Int)≤i∧i<(↑xs.length:Int))∧(decide ((xs.getD i.toNat eY.dflt).n > (0:Int))=true→((0:Int)≤i∧i<(↑xs.length:Int))∧(o.length≤o.length∧True∧o.length+(1:Nat)≤maxLen∧(o.length+(1:Nat)) * Try.prog.types[(30:Nat)].bytes≤(140737488355328:Nat))∧(∀ (e:Nat),e<xs.length→eY.Ok (eY.els xs e))∧o.length+(1:Nat)≤o.length+(1:Nat)∧(∀ (e:Nat),e<min (o.length+(1:Nat)) o.length→True)∧∀ (e:Nat),e<o.length+(1:Nat) - o.length→True)∧(decide ((xs.getD i.toNat eY.dflt).n > (0:Int))=false→(∀ (e:Nat),e<xs.length→eY.Ok (eY.els xs e))∧o.length≤o.length∧∀ (e:Nat),e<o.length→True))∧(decide (i<(↑xs.length:Int))=false→(∀ (e:Nat),e<xs.length→eY.Ok (eY.els xs e))∧o.length≤o.length∧∀ (e:Nat),e<o.length→True)
theorem lg5_one:((loopsOf Try.prog 38).filter fun c=>Nat.beq (lkey c) 6).length=1:=by kernel_rfl
abbrev lg5_GC:Type:=List Y
abbrev lg5_GB:Type:=List T
def lg5_f (g:lg5_G):Int×lg5_GC×lg5_GB:=(g.2.2,g.1,g.2.1)
def lg5_g (d:Int×lg5_GC×lg5_GB):lg5_G:=(d.2.1,d.2.2,d.1)
theorem lg5_es (g:lg5_G):(lg5_R g.1 g.2.1 g.2.2).1=.normal∨(lg5_R g.1 g.2.1 g.2.2).1∈([.exit 0]:List Ex):=by
 unfold lg5_R
 repeat' (first | (left;rfl) | (right;simp only[cond_true,cond_false];simp;done) | (rw[Bool.cond_eq_ite];split))
noncomputable abbrev lg5_C (Inv:lg5_G→List Prop) (m:lg5_G→Nat):LCon:=loopR [.exit 0] (loopBody Try.prog 38 6) lg5_LP [] 36 Inv (fun g=>lg5_R g.1 g.2.1 g.2.2) m
theorem lg5_loop (Inv:lg5_G→List Prop) (m:lg5_G→Nat) (hs:∀ g,allP (Inv g)→lg5_side g.1 g.2.1 g.2.2) (hg:Goes (fun g:lg5_G=>lg5_R g.1 g.2.1 g.2.2) m fun g=>allP (Inv g)):∀ b∈loopsOf Try.prog 38,lkey b=6→LoopOk Try.prog b (lg5_C Inv m).g:=loop_run (Γ:=(MTab.gamz tabU13 [] [])) (Λ:=lamU13) (MTab.okz tabU13 [] []) lamU13_ok 100 38 6 36 lg5_LP [] Inv (fun g=>lg5_R g.1 g.2.1 g.2.2) (fun g=>lg5_side g.1 g.2.1 g.2.2) m default [.exit 0] lg5_one (fun rd T B HL HB ds g=>by kernel_rfl) (fun rd T B HL HB ds g=>by kernel_rfl) hs hg lg5_es
theorem ycl (xs:List Y):wTree Try.prog (PTab.gamz (PTab.nil:PTab Try.prog) [] []) noΛ 100 29 45 eY (aLY.enc xs) =
 Tr.all fun cs=>Tr.giv (cs.isEmpty=false→xs.length=(0:Nat)) (Tr.br (false != !cs.isEmpty) (Tr.ret []) (Tr.ask ((0:Nat)≤(0:Nat)∧(∀ (e:Nat),e<xs.length→(eY.els xs e).all SV.one=true)∧(0:Nat)+xs.length≤maxLen∧((0:Nat)+xs.length) * Try.prog.types[(45:Nat)].bytes≤(140737488355328:Nat)) (Tr.ask ((0:Nat)+xs.length=(0:Nat)+xs.length) (Tr.ask (∀ (e:Nat),e<min ((0:Nat)+xs.length) (0:Nat)→eY.OkP []) (Tr.ask (∀ (e:Nat),e<(0:Nat)+xs.length - (0:Nat)→True) (Tr.ret (List.map (fun x=>eY.get []) (List.range (min ((0:Nat)+xs.length) (0:Nat)))++eY.lst ((0:Nat)+xs.length - (0:Nat)) (eY.els xs)))))))):=by kernel_rfl
end Go.Proofs.Ytiipneclghnfhaa

namespace Go.Proofs.Ytiipneclghnfhaa
open Go.RowKit Go.Sx Go.Lp
set_option maxRecDepth 100000
noncomputable def lg1_S (c:lg1_GC) (b:lg1_GB) (i:Int) (v:Y):Ex×lg1_GB:=(.normal,b.1,bif eqT v.t c.2 then v.n else b.2)
def lg1_K (c:lg1_GC) (b:lg1_GB) (i:Int):Prop:=True
noncomputable abbrev lg1_I (g:lg1_G):List Prop:=ixI (fun c:lg1_GC=>((bif chkY c.1==(0:Int) then c.1 else []).length:Int)) (fun c:lg1_GC=>(bif chkY c.1==(0:Int) then c.1 else [])) lg1_K (lg1_f g)
noncomputable abbrev lg1_M (g:lg1_G):Nat:=ixM (fun c:lg1_GC=>((bif chkY c.1==(0:Int) then c.1 else []).length:Int)) (lg1_f g)
theorem lg1_P:ixP lg1_S (fun c:lg1_GC=>(bif chkY c.1==(0:Int) then c.1 else [])) lg1_K:=fun _ _ _ _ h _ _=>h
noncomputable abbrev lg1_RR (g:lg1_G):Ex×lg1_G:=lg1_R g.1 g.2.1 g.2.2.1 g.2.2.2.1 g.2.2.2.2
theorem lg1_RF (d:Int×lg1_GC×lg1_GB) (hi:allP (ixI (fun c:lg1_GC=>((bif chkY c.1==(0:Int) then c.1 else []).length:Int)) (fun c:lg1_GC=>(bif chkY c.1==(0:Int) then c.1 else [])) lg1_K d)):lg1_RR (lg1_g d)=((ixF 0 (fun c:lg1_GC=>((bif chkY c.1==(0:Int) then c.1 else []).length:Int)) (fun c:lg1_GC=>(bif chkY c.1==(0:Int) then c.1 else [])) eY.dflt lg1_S d).1,lg1_g (ixF 0 (fun c:lg1_GC=>((bif chkY c.1==(0:Int) then c.1 else []).length:Int)) (fun c:lg1_GC=>(bif chkY c.1==(0:Int) then c.1 else [])) eY.dflt lg1_S d).2):=by
 obtain ⟨i,⟨xs,t⟩,⟨⟨⟩,r⟩⟩:=d
 have hi0:0≤i:=(hi _ (List.mem_cons_self ..)).2.2.1
 show lg1_R xs () t r i=_
 unfold lg1_R ixF lg1_S
 simp only[eY.lst_els,conj_T]
 rcases Bool.eq_false_or_eq_true (chkY xs==(0:Int)) with hG | hG
 rotate_left
 ·have h0:decide (i<((([]:List Y).length:Nat):Int))=false:=decide_eq_false (by simp;omega)
  simp only[hG,Bool.and_false,cond_false,h0]
  rfl
 simp only[hG,Bool.and_true,cond_true]
 cases decide (i<(xs.length:Int)) with
 | false=>rfl
 | true=>rfl
theorem lg1_ok:∀ b∈loopsOf Try.prog 41,lkey b=3→LoopOk Try.prog b (lg1_C lg1_I lg1_M).g:=by
 refine lg1_loop lg1_I lg1_M (fun g hi=>?_) (ix_conj_goes (fun _=>rfl) (fun _=>rfl) lg1_RF lg1_P)
 obtain ⟨xs,⟨⟩,t,r,i⟩:=g
 obtain ⟨h1,h2,h3,h4,h5⟩:=hi _ (List.mem_cons_self ..)
 have h1:((bif chkY xs==(0:Int) then xs else []).length:Int)=((bif chkY xs==(0:Int) then xs else []).length:Int):=h1
 have h3:0≤i:=h3
 have h5:True:=h5
 show lg1_side xs () t r i
 unfold lg1_side
 simp only[decide_eq_true_eq,decide_eq_false_iff_not,Bool.and_eq_true]
 have k0:∀ e:Nat,e<xs.length→eY.Ok (eY.els xs e):=fun e _=>eY.ok_els xs e
 clear hi
 repeat' (first | exact k0 | apply And.intro | intro _)
 all_goals omega
theorem lg1_run (c:lg1_GC) (b:lg1_GB) (k1:((bif chkY c.1==(0:Int) then c.1 else []).length:Int)=(((bif chkY c.1==(0:Int) then c.1 else [])).length:Int)) (k2:((bif chkY c.1==(0:Int) then c.1 else [])).length≤maxLen) (k3:lg1_K c b 0):loopF lg1_RR lg1_M (lg1_g (0,c,b))=((scan 0 (lg1_S c) 0 ((bif chkY c.1==(0:Int) then c.1 else [])) b).1,lg1_g ((scan 0 (lg1_S c) 0 ((bif chkY c.1==(0:Int) then c.1 else [])) b).2.1,c,(scan 0 (lg1_S c) 0 ((bif chkY c.1==(0:Int) then c.1 else [])) b).2.2)):=ix_conj_run (φ:=lg1_f) (ψ:=lg1_g) (fun _=>rfl) (fun _=>rfl) lg1_RF lg1_P c b k1 k2 k3
noncomputable def lg2_S (c:lg2_GC) (b:lg2_GB) (i:Int) (v:Y):Ex×lg2_GB:=(.normal,b.1,bif rtleq_F v.t c.2 then IntKind.i64.wrap (b.2+v.n) else b.2)
def lg2_K (c:lg2_GC) (b:lg2_GB) (i:Int):Prop:=True
noncomputable abbrev lg2_I (g:lg2_G):List Prop:=ixI (fun c:lg2_GC=>((bif chkY c.1==(0:Int) then c.1 else []).length:Int)) (fun c:lg2_GC=>(bif chkY c.1==(0:Int) then c.1 else [])) lg2_K (lg2_f g)
noncomputable abbrev lg2_M (g:lg2_G):Nat:=ixM (fun c:lg2_GC=>((bif chkY c.1==(0:Int) then c.1 else []).length:Int)) (lg2_f g)
theorem lg2_P:ixP lg2_S (fun c:lg2_GC=>(bif chkY c.1==(0:Int) then c.1 else [])) lg2_K:=fun _ _ _ _ h _ _=>h
noncomputable abbrev lg2_RR (g:lg2_G):Ex×lg2_G:=lg2_R g.1 g.2.1 g.2.2.1 g.2.2.2.1 g.2.2.2.2
theorem lg2_RF (d:Int×lg2_GC×lg2_GB) (hi:allP (ixI (fun c:lg2_GC=>((bif chkY c.1==(0:Int) then c.1 else []).length:Int)) (fun c:lg2_GC=>(bif chkY c.1==(0:Int) then c.1 else [])) lg2_K d)):lg2_RR (lg2_g d)=((ixF 0 (fun c:lg2_GC=>((bif chkY c.1==(0:Int) then c.1 else []).length:Int)) (fun c:lg2_GC=>(bif chkY c.1==(0:Int) then c.1 else [])) eY.dflt lg2_S d).1,lg2_g (ixF 0 (fun c:lg2_GC=>((bif chkY c.1==(0:Int) then c.1 else []).length:Int)) (fun c:lg2_GC=>(bif chkY c.1==(0:Int) then c.1 else [])) eY.dflt lg2_S d).2):=by
 obtain ⟨i,⟨xs,t⟩,⟨⟨⟩,r⟩⟩:=d
 have hi0:0≤i:=(hi _ (List.mem_cons_self ..)).2.2.1
 show lg2_R xs () t r i=_
 unfold lg2_R ixF lg2_S
 simp only[eY.lst_els]
 rcases Bool.eq_false_or_eq_true (chkY xs==(0:Int)) with hG | hG
 rotate_left
 ·have h0:decide (i<((([]:List Y).length:Nat):Int))=false:=decide_eq_false (by simp;omega)
  simp only[hG,Bool.and_false,cond_false,h0]
  rfl
 simp only[hG,Bool.and_true,cond_true]
 cases decide (i<(xs.length:Int)) with
 | false=>rfl
 | true=>rfl
theorem lg2_ok:∀ b∈loopsOf Try.prog 43,lkey b=3→LoopOk Try.prog b (lg2_C lg2_I lg2_M).g:=by
 refine lg2_loop lg2_I lg2_M (fun g hi=>?_) (ix_conj_goes (fun _=>rfl) (fun _=>rfl) lg2_RF lg2_P)
 obtain ⟨xs,⟨⟩,t,r,i⟩:=g
 obtain ⟨h1,h2,h3,h4,h5⟩:=hi _ (List.mem_cons_self ..)
 have h1:((bif chkY xs==(0:Int) then xs else []).length:Int)=((bif chkY xs==(0:Int) then xs else []).length:Int):=h1
 have h3:0≤i:=h3
 have h5:True:=h5
 show lg2_side xs () t r i
 unfold lg2_side
 simp only[decide_eq_true_eq,decide_eq_false_iff_not,Bool.and_eq_true]
 have k0:∀ e:Nat,e<xs.length→eY.Ok (eY.els xs e):=fun e _=>eY.ok_els xs e
 clear hi
 repeat' (first | exact k0 | apply And.intro | intro _)
 all_goals omega
theorem lg2_run (c:lg2_GC) (b:lg2_GB) (k1:((bif chkY c.1==(0:Int) then c.1 else []).length:Int)=(((bif chkY c.1==(0:Int) then c.1 else [])).length:Int)) (k2:((bif chkY c.1==(0:Int) then c.1 else [])).length≤maxLen) (k3:lg2_K c b 0):loopF lg2_RR lg2_M (lg2_g (0,c,b))=((scan 0 (lg2_S c) 0 ((bif chkY c.1==(0:Int) then c.1 else [])) b).1,lg2_g ((scan 0 (lg2_S c) 0 ((bif chkY c.1==(0:Int) then c.1 else [])) b).2.1,c,(scan 0 (lg2_S c) 0 ((bif chkY c.1==(0:Int) then c.1 else [])) b).2.2)):=ix_conj_run (φ:=lg2_f) (ψ:=lg2_g) (fun _=>rfl) (fun _=>rfl) lg2_RF lg2_P c b k1 k2 k3
noncomputable def lg3_S (c:lg3_GC) (b:lg3_GB) (i:Int) (v:Y):Ex×lg3_GB:=(.normal,IntKind.i64.wrap (b+v.n))
def lg3_K (c:lg3_GC) (b:lg3_GB) (i:Int):Prop:=True
noncomputable abbrev lg3_I (g:lg3_G):List Prop:=ixI (fun c:lg3_GC=>((bif chkY c==(0:Int) then c else []).length:Int)) (fun c:lg3_GC=>(bif chkY c==(0:Int) then c else [])) lg3_K (lg3_f g)
noncomputable abbrev lg3_M (g:lg3_G):Nat:=ixM (fun c:lg3_GC=>((bif chkY c==(0:Int) then c else []).length:Int)) (lg3_f g)
theorem lg3_P:ixP lg3_S (fun c:lg3_GC=>(bif chkY c==(0:Int) then c else [])) lg3_K:=fun _ _ _ _ h _ _=>h
noncomputable abbrev lg3_RR (g:lg3_G):Ex×lg3_G:=lg3_R g.1 g.2.1 g.2.2
theorem lg3_RF (d:Int×lg3_GC×lg3_GB) (hi:allP (ixI (fun c:lg3_GC=>((bif chkY c==(0:Int) then c else []).length:Int)) (fun c:lg3_GC=>(bif chkY c==(0:Int) then c else [])) lg3_K d)):lg3_RR (lg3_g d)=((ixF 0 (fun c:lg3_GC=>((bif chkY c==(0:Int) then c else []).length:Int)) (fun c:lg3_GC=>(bif chkY c==(0:Int) then c else [])) eY.dflt lg3_S d).1,lg3_g (ixF 0 (fun c:lg3_GC=>((bif chkY c==(0:Int) then c else []).length:Int)) (fun c:lg3_GC=>(bif chkY c==(0:Int) then c else [])) eY.dflt lg3_S d).2):=by
 obtain ⟨i,xs,r⟩:=d
 have hi0:0≤i:=(hi _ (List.mem_cons_self ..)).2.2.1
 show lg3_R xs r i=_
 unfold lg3_R ixF lg3_S
 simp only[eY.lst_els]
 rcases Bool.eq_false_or_eq_true (chkY xs==(0:Int)) with hG | hG
 rotate_left
 ·have h0:decide (i<((([]:List Y).length:Nat):Int))=false:=decide_eq_false (by simp;omega)
  simp only[hG,Bool.and_false,cond_false,h0]
  rfl
 simp only[hG,Bool.and_true,cond_true]
 cases decide (i<(xs.length:Int)) with
 | false=>rfl
 | true=>rfl
theorem lg3_ok:∀ b∈loopsOf Try.prog 45,lkey b=3→LoopOk Try.prog b (lg3_C lg3_I lg3_M).g:=by
 refine lg3_loop lg3_I lg3_M (fun g hi=>?_) (ix_conj_goes (fun _=>rfl) (fun _=>rfl) lg3_RF lg3_P)
 obtain ⟨xs,r,i⟩:=g
 obtain ⟨h1,h2,h3,h4,h5⟩:=hi _ (List.mem_cons_self ..)
 have h1:((bif chkY xs==(0:Int) then xs else []).length:Int)=((bif chkY xs==(0:Int) then xs else []).length:Int):=h1
 have h3:0≤i:=h3
 have h5:True:=h5
 show lg3_side xs r i
 unfold lg3_side
 simp only[decide_eq_true_eq,decide_eq_false_iff_not,Bool.and_eq_true]
 have k0:∀ e:Nat,e<xs.length→eY.Ok (eY.els xs e):=fun e _=>eY.ok_els xs e
 clear hi
 repeat' (first | exact k0 | apply And.intro | intro _)
 all_goals omega
theorem lg3_run (c:lg3_GC) (b:lg3_GB) (k1:((bif chkY c==(0:Int) then c else []).length:Int)=(((bif chkY c==(0:Int) then c else [])).length:Int)) (k2:((bif chkY c==(0:Int) then c else [])).length≤maxLen) (k3:lg3_K c b 0):loopF lg3_RR lg3_M (lg3_g (0,c,b))=((scan 0 (lg3_S c) 0 ((bif chkY c==(0:Int) then c else [])) b).1,lg3_g ((scan 0 (lg3_S c) 0 ((bif chkY c==(0:Int) then c else [])) b).2.1,c,(scan 0 (lg3_S c) 0 ((bif chkY c==(0:Int) then c else [])) b).2.2)):=ix_conj_run (φ:=lg3_f) (ψ:=lg3_g) (fun _=>rfl) (fun _=>rfl) lg3_RF lg3_P c b k1 k2 k3
noncomputable def lg4_S (c:lg4_GC) (b:lg4_GB) (i:Int) (v:Y):Ex×lg4_GB:=(.normal,bif decide (v.n > (0:Int)) then b++[v] else b)
def lg4_K (c:lg4_GC) (b:lg4_GB) (i:Int):Prop:=(c).length≤KS∧(List.length b:Int)≤i
noncomputable abbrev lg4_I (g:lg4_G):List Prop:=ixI (fun c:lg4_GC=>((bif chkY c==(0:Int) then c else []).length:Int)) (fun c:lg4_GC=>(bif chkY c==(0:Int) then c else [])) lg4_K (lg4_f g)
noncomputable abbrev lg4_M (g:lg4_G):Nat:=ixM (fun c:lg4_GC=>((bif chkY c==(0:Int) then c else []).length:Int)) (lg4_f g)
theorem lg4_P:ixP lg4_S (fun c:lg4_GC=>(bif chkY c==(0:Int) then c else [])) lg4_K:=by
 intro c b i a h _ _
 obtain ⟨h1,h2⟩:=h
 refine ⟨h1,?_⟩
 have h2:(List.length b:Int)≤(i:Int):=h2
 show (List.length (lg4_S c b i a).2:Int)≤(i:Int)+1
 unfold lg4_S
 generalize (decide (a.n > (0:Int)))=z0
 cases z0 <;> simp only[cond_true,cond_false,List.length_append,List.length_cons,List.length_nil] <;> omega
noncomputable abbrev lg4_RR (g:lg4_G):Ex×lg4_G:=lg4_R g.1 g.2.1 g.2.2
theorem lg4_RF (d:Int×lg4_GC×lg4_GB) (hi:allP (ixI (fun c:lg4_GC=>((bif chkY c==(0:Int) then c else []).length:Int)) (fun c:lg4_GC=>(bif chkY c==(0:Int) then c else [])) lg4_K d)):lg4_RR (lg4_g d)=((ixF 0 (fun c:lg4_GC=>((bif chkY c==(0:Int) then c else []).length:Int)) (fun c:lg4_GC=>(bif chkY c==(0:Int) then c else [])) eY.dflt lg4_S d).1,lg4_g (ixF 0 (fun c:lg4_GC=>((bif chkY c==(0:Int) then c else []).length:Int)) (fun c:lg4_GC=>(bif chkY c==(0:Int) then c else [])) eY.dflt lg4_S d).2):=by
 obtain ⟨i,xs,o⟩:=d
 have hi0:0≤i:=(hi _ (List.mem_cons_self ..)).2.2.1
 show lg4_R xs o i=_
 unfold lg4_R ixF lg4_S
 simp only[eY.lst_els,lst_snoc]
 rcases Bool.eq_false_or_eq_true (chkY xs==(0:Int)) with hG | hG
 rotate_left
 ·have h0:decide (i<((([]:List Y).length:Nat):Int))=false:=decide_eq_false (by simp;omega)
  simp only[hG,Bool.and_false,cond_false,h0]
  rfl
 simp only[hG,Bool.and_true,cond_true]
 cases decide (i<(xs.length:Int)) with
 | false=>rfl
 | true=>
  simp only[cond_true]
  generalize (decide ((xs.getD i.toNat eY.dflt).n > (0:Int)))=z0
  cases z0 <;> rfl
theorem lg4_ok:∀ b∈loopsOf Try.prog 39,lkey b=3→LoopOk Try.prog b (lg4_C lg4_I lg4_M).g:=by
 refine lg4_loop lg4_I lg4_M (fun g hi=>?_) (ix_conj_goes (fun _=>rfl) (fun _=>rfl) lg4_RF lg4_P)
 obtain ⟨xs,o,i⟩:=g
 obtain ⟨h1,h2,h3,h4,h5,h6⟩:=hi _ (List.mem_cons_self ..)
 have h1:((bif chkY xs==(0:Int) then xs else []).length:Int)=((bif chkY xs==(0:Int) then xs else []).length:Int):=h1
 have h3:0≤i:=h3
 have h5:xs.length≤1000000:=h5
 have h6:(o.length:Int)≤i:=h6
 show lg4_side xs o i
 unfold lg4_side
 simp only[bytesY,bytesT,decide_eq_true_eq,decide_eq_false_iff_not,Bool.and_eq_true]
 have k0:∀ e:Nat,e<xs.length→eY.Ok (eY.els xs e):=fun e _=>eY.ok_els xs e
 clear hi
 repeat' (first | exact k0 | apply And.intro | intro _)
 all_goals (first | trivial | omega | (unfold maxLen;omega))
theorem lg4_run (c:lg4_GC) (b:lg4_GB) (k1:((bif chkY c==(0:Int) then c else []).length:Int)=(((bif chkY c==(0:Int) then c else [])).length:Int)) (k2:(c).length≤KS) (k3:List.length b=0):loopF lg4_RR lg4_M (lg4_g (0,c,b))=((scan 0 (lg4_S c) 0 ((bif chkY c==(0:Int) then c else [])) b).1,lg4_g ((scan 0 (lg4_S c) 0 ((bif chkY c==(0:Int) then c else [])) b).2.1,c,(scan 0 (lg4_S c) 0 ((bif chkY c==(0:Int) then c else [])) b).2.2)):=ix_conj_run (φ:=lg4_f) (ψ:=lg4_g) (fun _=>rfl) (fun _=>rfl) lg4_RF lg4_P c b k1 (Nat.le_trans (guard_len _ _) (Nat.le_trans k2 (by decide))) ⟨k2,by rw[k3];decide⟩
theorem lg4_ix (c:lg4_GC) (b:lg4_GB) (k1:((bif chkY c==(0:Int) then c else []).length:Int)=(((bif chkY c==(0:Int) then c else [])).length:Int)) (k2:(c).length≤KS) (k3:List.length b=0):ixJ (fun c:lg4_GC=>((bif chkY c==(0:Int) then c else []).length:Int)) (fun c:lg4_GC=>(bif chkY c==(0:Int) then c else [])) lg4_K (0,c,b):=ixJ0 k1 (Nat.le_trans (guard_len _ _) (Nat.le_trans k2 (by decide))) ⟨k2,by rw[k3];decide⟩
noncomputable def lg5_S (c:lg5_GC) (b:lg5_GB) (i:Int) (v:Y):Ex×lg5_GB:=(.normal,bif decide (v.n > (0:Int)) then b++[v.t] else b)
def lg5_K (c:lg5_GC) (b:lg5_GB) (i:Int):Prop:=(c).length≤KS∧(List.length b:Int)≤i
abbrev lg5_I (g:lg5_G):List Prop:=ixI (fun c:lg5_GC=>(c.length:Int)) (fun c:lg5_GC=>c) lg5_K (lg5_f g)
abbrev lg5_M (g:lg5_G):Nat:=ixM (fun c:lg5_GC=>(c.length:Int)) (lg5_f g)
theorem lg5_P:ixP lg5_S (fun c:lg5_GC=>c) lg5_K:=by
 intro c b i a h _ _
 obtain ⟨h1,h2⟩:=h
 refine ⟨h1,?_⟩
 have h2:(List.length b:Int)≤(i:Int):=h2
 show (List.length (lg5_S c b i a).2:Int)≤(i:Int)+1
 unfold lg5_S
 generalize (decide (a.n > (0:Int)))=z0
 cases z0 <;> simp only[cond_true,cond_false,List.length_append,List.length_cons,List.length_nil] <;> omega
noncomputable abbrev lg5_RR (g:lg5_G):Ex×lg5_G:=lg5_R g.1 g.2.1 g.2.2
theorem lg5_RF (d:Int×lg5_GC×lg5_GB) (hi:allP (ixI (fun c:lg5_GC=>(c.length:Int)) (fun c:lg5_GC=>c) lg5_K d)):lg5_RR (lg5_g d)=((ixF 0 (fun c:lg5_GC=>(c.length:Int)) (fun c:lg5_GC=>c) eY.dflt lg5_S d).1,lg5_g (ixF 0 (fun c:lg5_GC=>(c.length:Int)) (fun c:lg5_GC=>c) eY.dflt lg5_S d).2):=by
 obtain ⟨i,xs,o⟩:=d
 show lg5_R xs o i=_
 unfold lg5_R ixF lg5_S
 simp only[eY.lst_els,eT.lst_els,lst_snoc]
 cases decide (i<(xs.length:Int)) with
 | false=>rfl
 | true=>
  simp only[cond_true]
  generalize (decide ((xs.getD i.toNat eY.dflt).n > (0:Int)))=z0
  cases z0 <;> rfl
theorem lg5_ok:∀ b∈loopsOf Try.prog 38,lkey b=6→LoopOk Try.prog b (lg5_C lg5_I lg5_M).g:=by
 refine lg5_loop lg5_I lg5_M (fun g hi=>?_) (ix_conj_goes (fun _=>rfl) (fun _=>rfl) lg5_RF lg5_P)
 obtain ⟨xs,o,i⟩:=g
 obtain ⟨h1,h2,h3,h4,h5,h6⟩:=hi _ (List.mem_cons_self ..)
 have h1:(xs.length:Int)=(xs.length:Int):=h1
 have h3:0≤i:=h3
 have h5:xs.length≤1000000:=h5
 have h6:(o.length:Int)≤i:=h6
 show lg5_side xs o i
 unfold lg5_side
 simp only[bytesY,bytesT,decide_eq_true_eq,decide_eq_false_iff_not]
 have k0:∀ e:Nat,e<xs.length→eY.Ok (eY.els xs e):=fun e _=>eY.ok_els xs e
 clear hi
 repeat' (first | exact k0 | apply And.intro | intro _)
 all_goals (first | trivial | omega | (unfold maxLen;omega))
theorem lg5_run (c:lg5_GC) (b:lg5_GB) (k1:(c.length:Int)=((c).length:Int)) (k2:(c).length≤KS) (k3:List.length b=0):loopF lg5_RR lg5_M (lg5_g (0,c,b))=((scan 0 (lg5_S c) 0 (c) b).1,lg5_g ((scan 0 (lg5_S c) 0 (c) b).2.1,c,(scan 0 (lg5_S c) 0 (c) b).2.2)):=ix_conj_run (φ:=lg5_f) (ψ:=lg5_g) (fun _=>rfl) (fun _=>rfl) lg5_RF lg5_P c b k1 (Nat.le_trans k2 (by decide)) ⟨k2,by rw[k3];decide⟩
theorem lg5_ix (c:lg5_GC) (b:lg5_GB) (k1:(c.length:Int)=((c).length:Int)) (k2:(c).length≤KS) (k3:List.length b=0):ixJ (fun c:lg5_GC=>(c.length:Int)) (fun c:lg5_GC=>c) lg5_K (0,c,b):=ixJ0 k1 (Nat.le_trans k2 (by decide)) ⟨k2,by rw[k3];decide⟩
noncomputable def ltU15:LTab Try.prog:=(((((ltU13.cons 41 3 (lg1_C lg1_I lg1_M) lg1_ok).cons 43 3 (lg2_C lg2_I lg2_M) lg2_ok).cons 45 3 (lg3_C lg3_I lg3_M) lg3_ok).cons 39 3 (lg4_C lg4_I lg4_M) lg4_ok).cons 38 6 (lg5_C lg5_I lg5_M) lg5_ok)
noncomputable abbrev lamU15:Lam:=ltU15.lam
theorem lamU15_ok:∀ f k L,lamU15 f k=some L→∀ b∈loopsOf Try.prog f,lkey b=k→LoopOk Try.prog b L.g:=ltU15.ok
end Go.Proofs.Ytiipneclghnfhaa
