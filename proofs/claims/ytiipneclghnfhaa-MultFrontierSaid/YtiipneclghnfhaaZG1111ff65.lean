/- Chapter 4: loops over tallies. Printed by treegen.py. -/
import Derived.Test.YtiipneclghnfhaaZG10d63bb5
import Derived.Test.YtiipneclghnfhaaZG0786cf4e
set_option linter.unusedVariables false
set_option linter.unusedSimpArgs false
set_option linter.constructorNameAsVariable false
set_option linter.all false

namespace Go.Proofs.Ytiipneclghnfhaa
open Go.RowKit Go.Sx
set_option maxRecDepth 100000
set_option linter.unusedVariables false
abbrev dLY:Dv (List Y):=.list eY
abbrev aLY:DA (List Y):=.one dLY
abbrev tY:Nat:=45
abbrev nilV:SV:=.k (.slice none 0 0)
abbrev ka_G:Type:=List Y×Int×Int×Int
noncomputable def ka_LP:LP 0 ka_G:=.pair (.slot 0 8 dLY) (.pair (.slot 0 9 dI) (.pair (.slot 0 10 dI) (.slot 0 2 dI)))
noncomputable def ka_R (xs:List Y) (n:Int) (i:Int) (r:Int):Ex×ka_G:=
 bif decide (i<n) then bif tcheck_F (xs.getD i.toNat eY.dflt).t != (0:Int) then (Ex.ret,eY.lst xs.length (eY.els xs),n,i,tcheck_F (xs.getD i.toNat eY.dflt).t) else (Ex.normal,eY.lst xs.length (eY.els xs),n,IntKind.i64.wrap (i+(1:Int)),r)
 else (Ex.exit (0:Nat),eY.lst xs.length (eY.els xs),n,i,r)
def ka_side (xs:List Y) (n:Int) (i:Int) (r:Int):Prop:=
 (decide (i<n)=true→((0:Int)≤i∧i<(↑xs.length:Int))∧((tcheck_F (xs.getD i.toNat eY.dflt).t != (0:Int))=true→∀ (e:Nat),e<xs.length→eY.Ok (eY.els xs e))∧((tcheck_F (xs.getD i.toNat eY.dflt).t != (0:Int))=false→∀ (e:Nat),e<xs.length→eY.Ok (eY.els xs e)))∧(decide (i<n)=false→∀ (e:Nat),e<xs.length→eY.Ok (eY.els xs e))
theorem ka_one:((loopsOf Try.prog 66).filter fun c=>Nat.beq (lkey c) 2).length=1:=by kernel_rfl
abbrev ka_GC:Type:=List Y×Int
abbrev ka_GB:Type:=Int
def ka_f (g:ka_G):Int×ka_GC×ka_GB:=(g.2.2.1,(g.1,g.2.1),g.2.2.2)
def ka_g (d:Int×ka_GC×ka_GB):ka_G:=(d.2.1.1,d.2.1.2,d.1,d.2.2)
theorem ka_es (g:ka_G):(ka_R g.1 g.2.1 g.2.2.1 g.2.2.2).1=.normal∨(ka_R g.1 g.2.1 g.2.2.1 g.2.2.2).1∈([.ret,.exit 0]:List Ex):=by
 unfold ka_R
 repeat' (first | (left;rfl) | (right;simp only[cond_true,cond_false];simp;done) | (rw[Bool.cond_eq_ite];split))
noncomputable abbrev ka_C (Inv:ka_G→List Prop) (m:ka_G→Nat):LCon:=loopR [.ret,.exit 0] (loopBody Try.prog 66 2) ka_LP [] 54 Inv (fun g=>ka_R g.1 g.2.1 g.2.2.1 g.2.2.2) m
theorem ka_loop (Inv:ka_G→List Prop) (m:ka_G→Nat) (hs:∀ g,allP (Inv g)→ka_side g.1 g.2.1 g.2.2.1 g.2.2.2) (hg:Goes (fun g:ka_G=>ka_R g.1 g.2.1 g.2.2.1 g.2.2.2) m fun g=>allP (Inv g)):∀ b∈loopsOf Try.prog 66,lkey b=2→LoopOk Try.prog b (ka_C Inv m).g:=loop_run (Γ:=(MTab.gamz tabU2 [] [])) (Λ:=noΛ) (MTab.okz tabU2 [] []) noΛ_ok 100 66 2 54 ka_LP [] Inv (fun g=>ka_R g.1 g.2.1 g.2.2.1 g.2.2.2) (fun g=>ka_side g.1 g.2.1 g.2.2.1 g.2.2.2) m default [.ret,.exit 0] ka_one (fun rd T B HL HB ds g=>by kernel_rfl) (fun rd T B HL HB ds g=>by kernel_rfl) hs hg ka_es
abbrev kb_G:Type:=List Y×List Y×Int×Int×Int
noncomputable def kb_LP:LP 0 kb_G:=.pair (.slot 0 0 dLY) (.pair (.slot 0 21 dLY) (.pair (.slot 0 22 dI) (.pair (.slot 0 23 dI) (.slot 0 2 dI))))
noncomputable def kb_R (l:List Y) (xs:List Y) (n:Int) (i:Int) (r:Int):Ex×kb_G:=
 bif decide (i<n) then bif (xs.getD i.toNat eY.dflt).n==(0:Int)||(!ywi_F (xs.getD i.toNat eY.dflt).n||decide (i > (0:Int))&&decide (tcmp_F (l.getD (IntKind.i64.wrap (i - (1:Int))).toNat eY.dflt).t (xs.getD i.toNat eY.dflt).t≥(0:Int))) then (Ex.ret,eY.lst l.length (eY.els l),eY.lst xs.length (eY.els xs),n,i,(40:Int)) else (Ex.normal,eY.lst l.length (eY.els l),eY.lst xs.length (eY.els xs),n,IntKind.i64.wrap (i+(1:Int)),r)
 else (Ex.exit (2:Nat),eY.lst l.length (eY.els l),eY.lst xs.length (eY.els xs),n,i,r)
def kb_side (l:List Y) (xs:List Y) (n:Int) (i:Int) (r:Int):Prop:=
 (decide (i<n)=true→((0:Int)≤i∧i<(↑xs.length:Int))∧((!(xs.getD i.toNat eY.dflt).n==(0:Int))=true→(!!ywi_F (xs.getD i.toNat eY.dflt).n)=true→decide (i > (0:Int))=true→(0:Int)≤IntKind.i64.wrap (i - (1:Int))∧IntKind.i64.wrap (i - (1:Int))<(↑l.length:Int))∧(((xs.getD i.toNat eY.dflt).n==(0:Int)||(!ywi_F (xs.getD i.toNat eY.dflt).n||decide (i > (0:Int))&&decide (tcmp_F (l.getD (IntKind.i64.wrap (i - (1:Int))).toNat eY.dflt).t (xs.getD i.toNat eY.dflt).t≥(0:Int))))=true→(∀ (e:Nat),e<l.length→eY.Ok (eY.els l e))∧∀ (e:Nat),e<xs.length→eY.Ok (eY.els xs e))∧(((xs.getD i.toNat eY.dflt).n==(0:Int)||(!ywi_F (xs.getD i.toNat eY.dflt).n||decide (i > (0:Int))&&decide (tcmp_F (l.getD (IntKind.i64.wrap (i - (1:Int))).toNat eY.dflt).t (xs.getD i.toNat eY.dflt).t≥(0:Int))))=false→(∀ (e:Nat),e<l.length→eY.Ok (eY.els l e))∧∀ (e:Nat),e<xs.length→eY.Ok (eY.els xs e)))∧(decide (i<n)=false→(∀ (e:Nat),e<l.length→eY.Ok (eY.els l e))∧∀ (e:Nat),e<xs.length→eY.Ok (eY.els xs e))
theorem kb_one:((loopsOf Try.prog 66).filter fun c=>Nat.beq (lkey c) 9).length=1:=by kernel_rfl
abbrev kb_GC:Type:=List Y×List Y×Int
abbrev kb_GB:Type:=Int
def kb_f (g:kb_G):Int×kb_GC×kb_GB:=(g.2.2.2.1,(g.1,g.2.1,g.2.2.1),g.2.2.2.2)
def kb_g (d:Int×kb_GC×kb_GB):kb_G:=(d.2.1.1,d.2.1.2.1,d.2.1.2.2,d.1,d.2.2)
theorem kb_es (g:kb_G):(kb_R g.1 g.2.1 g.2.2.1 g.2.2.2.1 g.2.2.2.2).1=.normal∨(kb_R g.1 g.2.1 g.2.2.1 g.2.2.2.1 g.2.2.2.2).1∈([.ret,.exit 2]:List Ex):=by
 unfold kb_R
 repeat' (first | (left;rfl) | (right;simp only[cond_true,cond_false];simp;done) | (rw[Bool.cond_eq_ite];split))
noncomputable abbrev kb_C (Inv:kb_G→List Prop) (m:kb_G→Nat):LCon:=loopR [.ret,.exit 2] (loopBody Try.prog 66 9) kb_LP [] 54 Inv (fun g=>kb_R g.1 g.2.1 g.2.2.1 g.2.2.2.1 g.2.2.2.2) m
theorem kb_loop (Inv:kb_G→List Prop) (m:kb_G→Nat) (hs:∀ g,allP (Inv g)→kb_side g.1 g.2.1 g.2.2.1 g.2.2.2.1 g.2.2.2.2) (hg:Goes (fun g:kb_G=>kb_R g.1 g.2.1 g.2.2.1 g.2.2.2.1 g.2.2.2.2) m fun g=>allP (Inv g)):∀ b∈loopsOf Try.prog 66,lkey b=9→LoopOk Try.prog b (kb_C Inv m).g:=loop_run (Γ:=(MTab.gamz tabU2 [] [])) (Λ:=noΛ) (MTab.okz tabU2 [] []) noΛ_ok 100 66 9 54 kb_LP [] Inv (fun g=>kb_R g.1 g.2.1 g.2.2.1 g.2.2.2.1 g.2.2.2.2) (fun g=>kb_side g.1 g.2.1 g.2.2.1 g.2.2.2.1 g.2.2.2.2) m default [.ret,.exit 2] kb_one (fun rd T B HL HB ds g=>by kernel_rfl) (fun rd T B HL HB ds g=>by kernel_rfl) hs hg kb_es
abbrev kr_G:Type:=List Y×Int×Int
noncomputable def kr_LP:LP 0 kr_G:=.pair (.slot 0 0 dLY) (.pair (.slot 0 3 dI) (.slot 0 2 dI))
noncomputable def kr_R (xs:List Y) (i:Int) (r:Int):Ex×kr_G:=
 bif decide (i<(↑xs.length:Int)) then bif rtcheck_F (xs.getD i.toNat eY.dflt).t != (0:Int) then (Ex.ret,eY.lst xs.length (eY.els xs),i,rtcheck_F (xs.getD i.toNat eY.dflt).t) else (Ex.normal,eY.lst xs.length (eY.els xs),IntKind.i64.wrap (i+(1:Int)),r)
 else (Ex.exit (0:Nat),eY.lst xs.length (eY.els xs),i,r)
def kr_side (xs:List Y) (i:Int) (r:Int):Prop:=
 (decide (i<(↑xs.length:Int))=true→((0:Int)≤i∧i<(↑xs.length:Int))∧((rtcheck_F (xs.getD i.toNat eY.dflt).t != (0:Int))=true→∀ (e:Nat),e<xs.length→eY.Ok (eY.els xs e))∧((rtcheck_F (xs.getD i.toNat eY.dflt).t != (0:Int))=false→∀ (e:Nat),e<xs.length→eY.Ok (eY.els xs e)))∧(decide (i<(↑xs.length:Int))=false→∀ (e:Nat),e<xs.length→eY.Ok (eY.els xs e))
theorem kr_one:((loopsOf Try.prog 109).filter fun c=>Nat.beq (lkey c) 2).length=1:=by kernel_rfl
abbrev kr_GC:Type:=List Y
abbrev kr_GB:Type:=Int
def kr_f (g:kr_G):Int×kr_GC×kr_GB:=(g.2.1,g.1,g.2.2)
def kr_g (d:Int×kr_GC×kr_GB):kr_G:=(d.2.1,d.1,d.2.2)
theorem kr_es (g:kr_G):(kr_R g.1 g.2.1 g.2.2).1=.normal∨(kr_R g.1 g.2.1 g.2.2).1∈([.ret,.exit 0]:List Ex):=by
 unfold kr_R
 repeat' (first | (left;rfl) | (right;simp only[cond_true,cond_false];simp;done) | (rw[Bool.cond_eq_ite];split))
noncomputable abbrev kr_C (Inv:kr_G→List Prop) (m:kr_G→Nat):LCon:=loopR [.ret,.exit 0] (loopBody Try.prog 109 2) kr_LP [] 20 Inv (fun g=>kr_R g.1 g.2.1 g.2.2) m
theorem kr_loop (Inv:kr_G→List Prop) (m:kr_G→Nat) (hs:∀ g,allP (Inv g)→kr_side g.1 g.2.1 g.2.2) (hg:Goes (fun g:kr_G=>kr_R g.1 g.2.1 g.2.2) m fun g=>allP (Inv g)):∀ b∈loopsOf Try.prog 109,lkey b=2→LoopOk Try.prog b (kr_C Inv m).g:=loop_run (Γ:=(MTab.gamz tabU2 [] [])) (Λ:=noΛ) (MTab.okz tabU2 [] []) noΛ_ok 100 109 2 20 kr_LP [] Inv (fun g=>kr_R g.1 g.2.1 g.2.2) (fun g=>kr_side g.1 g.2.1 g.2.2) m default [.ret,.exit 0] kr_one (fun rd T B HL HB ds g=>by kernel_rfl) (fun rd T B HL HB ds g=>by kernel_rfl) hs hg kr_es
abbrev kc_G:Type:=List Y×Int×Int
noncomputable def kc_LP:LP 0 kc_G:=.pair (.slot 0 0 dLY) (.pair (.slot 0 4 dI) (.slot 0 2 dI))
noncomputable def kc_R (xs:List Y) (i:Int) (r:Int):Ex×kc_G:=
 bif decide (i<(↑xs.length:Int)) then bif (xs.getD i.toNat eY.dflt).n==(0:Int)||(!rwi_F (xs.getD i.toNat eY.dflt).n||decide (i > (0:Int))&&decide (rtcmp_F (xs.getD (IntKind.i64.wrap (i - (1:Int))).toNat eY.dflt).t (xs.getD i.toNat eY.dflt).t≥(0:Int))) then (Ex.ret,eY.lst xs.length (eY.els xs),i,(40:Int)) else (Ex.normal,eY.lst xs.length (eY.els xs),IntKind.i64.wrap (i+(1:Int)),r)
 else (Ex.exit (0:Nat),eY.lst xs.length (eY.els xs),i,r)
def kc_side (xs:List Y) (i:Int) (r:Int):Prop:=
 (decide (i<(↑xs.length:Int))=true→((0:Int)≤i∧i<(↑xs.length:Int))∧((!(xs.getD i.toNat eY.dflt).n==(0:Int))=true→(0:Int)≤i∧i<(↑xs.length:Int))∧((!(xs.getD i.toNat eY.dflt).n==(0:Int))=true→(!!rwi_F (xs.getD i.toNat eY.dflt).n)=true→decide (i > (0:Int))=true→(0:Int)≤IntKind.i64.wrap (i - (1:Int))∧IntKind.i64.wrap (i - (1:Int))<(↑xs.length:Int))∧((!(xs.getD i.toNat eY.dflt).n==(0:Int))=true→(!!rwi_F (xs.getD i.toNat eY.dflt).n)=true→decide (i > (0:Int))=true→(0:Int)≤i∧i<(↑xs.length:Int))∧(((xs.getD i.toNat eY.dflt).n==(0:Int)||(!rwi_F (xs.getD i.toNat eY.dflt).n||decide (i > (0:Int))&&decide (rtcmp_F (xs.getD (IntKind.i64.wrap (i - (1:Int))).toNat eY.dflt).t (xs.getD i.toNat eY.dflt).t≥(0:Int))))=true→∀ (e:Nat),e<xs.length→eY.Ok (eY.els xs e))∧(((xs.getD i.toNat eY.dflt).n==(0:Int)||(!rwi_F (xs.getD i.toNat eY.dflt).n||decide (i > (0:Int))&&decide (rtcmp_F (xs.getD (IntKind.i64.wrap (i - (1:Int))).toNat eY.dflt).t (xs.getD i.toNat eY.dflt).t≥(0:Int))))=false→∀ (e:Nat),e<xs.length→eY.Ok (eY.els xs e)))∧(decide (i<(↑xs.length:Int))=false→∀ (e:Nat),e<xs.length→eY.Ok (eY.els xs e))
theorem kc_one:((loopsOf Try.prog 67).filter fun c=>Nat.beq (lkey c) 5).length=1:=by kernel_rfl
abbrev kc_GC:Type:=List Y
abbrev kc_GB:Type:=Int
def kc_f (g:kc_G):Int×kc_GC×kc_GB:=(g.2.1,g.1,g.2.2)
def kc_g (d:Int×kc_GC×kc_GB):kc_G:=(d.2.1,d.1,d.2.2)
theorem kc_es (g:kc_G):(kc_R g.1 g.2.1 g.2.2).1=.normal∨(kc_R g.1 g.2.1 g.2.2).1∈([.ret,.exit 0]:List Ex):=by
 unfold kc_R
 repeat' (first | (left;rfl) | (right;simp only[cond_true,cond_false];simp;done) | (rw[Bool.cond_eq_ite];split))
noncomputable abbrev kc_C (Inv:kc_G→List Prop) (m:kc_G→Nat):LCon:=loopR [.ret,.exit 0] (loopBody Try.prog 67 5) kc_LP [] 50 Inv (fun g=>kc_R g.1 g.2.1 g.2.2) m
theorem kc_loop (Inv:kc_G→List Prop) (m:kc_G→Nat) (hs:∀ g,allP (Inv g)→kc_side g.1 g.2.1 g.2.2) (hg:Goes (fun g:kc_G=>kc_R g.1 g.2.1 g.2.2) m fun g=>allP (Inv g)):∀ b∈loopsOf Try.prog 67,lkey b=5→LoopOk Try.prog b (kc_C Inv m).g:=loop_run (Γ:=(MTab.gamz tabU2 [] [])) (Λ:=noΛ) (MTab.okz tabU2 [] []) noΛ_ok 100 67 5 50 kc_LP [] Inv (fun g=>kc_R g.1 g.2.1 g.2.2) (fun g=>kc_side g.1 g.2.1 g.2.2) m default [.ret,.exit 0] kc_one (fun rd T B HL HB ds g=>by kernel_rfl) (fun rd T B HL HB ds g=>by kernel_rfl) hs hg kc_es
abbrev oa_G:Type:=List Y×Int×Int×Unit×Int
noncomputable def oa_LP:LP 0 oa_G:=.pair (.slot 0 19 dLY) (.pair (.slot 0 20 dI) (.pair (.slot 0 21 dI) (.pair (.fix 0 2 nilV) (.slot 0 3 dI))))
noncomputable def oa_R (xs:List Y) (n:Int) (i:Int) (_u:Unit) (r:Int):Ex×oa_G:=
 bif decide (i<n) then bif tcheck_F (xs.getD i.toNat eY.dflt).t != (0:Int) then (Ex.ret,eY.lst xs.length (eY.els xs),n,i,(),tcheck_F (xs.getD i.toNat eY.dflt).t) else (Ex.normal,eY.lst xs.length (eY.els xs),n,IntKind.i64.wrap (i+(1:Int)),(),r)
 else (Ex.exit (0:Nat),eY.lst xs.length (eY.els xs),n,i,(),r)
def oa_side (xs:List Y) (n:Int) (i:Int) (_u:Unit) (r:Int):Prop:=
 (decide (i<n)=true→((0:Int)≤i∧i<(↑xs.length:Int))∧((tcheck_F (xs.getD i.toNat eY.dflt).t != (0:Int))=true→∀ (e:Nat),e<xs.length→eY.Ok (eY.els xs e))∧((tcheck_F (xs.getD i.toNat eY.dflt).t != (0:Int))=false→∀ (e:Nat),e<xs.length→eY.Ok (eY.els xs e)))∧(decide (i<n)=false→∀ (e:Nat),e<xs.length→eY.Ok (eY.els xs e))
theorem oa_one:((loopsOf Try.prog 27).filter fun c=>Nat.beq (lkey c) 2).length=1:=by kernel_rfl
abbrev oa_GC:Type:=List Y×Int
abbrev oa_GB:Type:=Unit×Int
def oa_f (g:oa_G):Int×oa_GC×oa_GB:=(g.2.2.1,(g.1,g.2.1),(g.2.2.2.1,g.2.2.2.2))
def oa_g (d:Int×oa_GC×oa_GB):oa_G:=(d.2.1.1,d.2.1.2,d.1,d.2.2.1,d.2.2.2)
theorem oa_es (g:oa_G):(oa_R g.1 g.2.1 g.2.2.1 g.2.2.2.1 g.2.2.2.2).1=.normal∨(oa_R g.1 g.2.1 g.2.2.1 g.2.2.2.1 g.2.2.2.2).1∈([.ret,.exit 0]:List Ex):=by
 unfold oa_R
 repeat' (first | (left;rfl) | (right;simp only[cond_true,cond_false];simp;done) | (rw[Bool.cond_eq_ite];split))
noncomputable abbrev oa_C (Inv:oa_G→List Prop) (m:oa_G→Nat):LCon:=loopR [.ret,.exit 0] (loopBody Try.prog 27 2) oa_LP [] 96 Inv (fun g=>oa_R g.1 g.2.1 g.2.2.1 g.2.2.2.1 g.2.2.2.2) m
theorem oa_loop (Inv:oa_G→List Prop) (m:oa_G→Nat) (hs:∀ g,allP (Inv g)→oa_side g.1 g.2.1 g.2.2.1 g.2.2.2.1 g.2.2.2.2) (hg:Goes (fun g:oa_G=>oa_R g.1 g.2.1 g.2.2.1 g.2.2.2.1 g.2.2.2.2) m fun g=>allP (Inv g)):∀ b∈loopsOf Try.prog 27,lkey b=2→LoopOk Try.prog b (oa_C Inv m).g:=loop_run (Γ:=(MTab.gamz tabU2 [] [])) (Λ:=noΛ) (MTab.okz tabU2 [] []) noΛ_ok 100 27 2 96 oa_LP [] Inv (fun g=>oa_R g.1 g.2.1 g.2.2.1 g.2.2.2.1 g.2.2.2.2) (fun g=>oa_side g.1 g.2.1 g.2.2.1 g.2.2.2.1 g.2.2.2.2) m default [.ret,.exit 0] oa_one (fun rd T B HL HB ds g=>by kernel_rfl) (fun rd T B HL HB ds g=>by kernel_rfl) hs hg oa_es
abbrev sm_G:Type:=List Y×List Y×Int×Bool
noncomputable def sm_LP:LP 0 sm_G:=.pair (.slot 0 0 dLY) (.pair (.slot 0 1 dLY) (.pair (.slot 0 5 dI) (.slot 0 4 dBool)))
noncomputable def sm_R (xs:List Y) (ys:List Y) (i:Int) (r:Bool):Ex×sm_G:=
 bif decide (i<(↑xs.length:Int)) then bif !conj ([(xs.getD i.toNat eY.dflt).t.e==(ys.getD i.toNat eY.dflt).t.e]++([(xs.getD i.toNat eY.dflt).t.d==(ys.getD i.toNat eY.dflt).t.d]++([(xs.getD i.toNat eY.dflt).t.l0==(ys.getD i.toNat eY.dflt).t.l0]++([(xs.getD i.toNat eY.dflt).t.l1==(ys.getD i.toNat eY.dflt).t.l1]++([(xs.getD i.toNat eY.dflt).t.l2==(ys.getD i.toNat eY.dflt).t.l2]++([(xs.getD i.toNat eY.dflt).t.l3==(ys.getD i.toNat eY.dflt).t.l3]++[])))++[]))++([(xs.getD i.toNat eY.dflt).n==(ys.getD i.toNat eY.dflt).n]++[])) then (Ex.ret,eY.lst xs.length (eY.els xs),eY.lst ys.length (eY.els ys),i,false) else (Ex.normal,eY.lst xs.length (eY.els xs),eY.lst ys.length (eY.els ys),IntKind.i64.wrap (i+(1:Int)),r)
 else (Ex.exit (0:Nat),eY.lst xs.length (eY.els xs),eY.lst ys.length (eY.els ys),i,r)
def sm_side (xs:List Y) (ys:List Y) (i:Int) (r:Bool):Prop:=
 (decide (i<(↑xs.length:Int))=true→((0:Int)≤i∧i<(↑xs.length:Int))∧((0:Int)≤i∧i<(↑ys.length:Int))∧((!conj ([(xs.getD i.toNat eY.dflt).t.e==(ys.getD i.toNat eY.dflt).t.e]++([(xs.getD i.toNat eY.dflt).t.d==(ys.getD i.toNat eY.dflt).t.d]++([(xs.getD i.toNat eY.dflt).t.l0==(ys.getD i.toNat eY.dflt).t.l0]++([(xs.getD i.toNat eY.dflt).t.l1==(ys.getD i.toNat eY.dflt).t.l1]++([(xs.getD i.toNat eY.dflt).t.l2==(ys.getD i.toNat eY.dflt).t.l2]++([(xs.getD i.toNat eY.dflt).t.l3==(ys.getD i.toNat eY.dflt).t.l3]++[])))++[]))++([(xs.getD i.toNat eY.dflt).n==(ys.getD i.toNat eY.dflt).n]++[])))=true→(∀ (e:Nat),e<xs.length→eY.Ok (eY.els xs e))∧∀ (e:Nat),e<ys.length→eY.Ok (eY.els ys e))∧((!conj ([(xs.getD i.toNat eY.dflt).t.e==(ys.getD i.toNat eY.dflt).t.e]++([(xs.getD i.toNat eY.dflt).t.d==(ys.getD i.toNat eY.dflt).t.d]++([(xs.getD i.toNat eY.dflt).t.l0==(ys.getD i.toNat eY.dflt).t.l0]++([(xs.getD i.toNat eY.dflt).t.l1==(ys.getD i.toNat eY.dflt).t.l1]++([(xs.getD i.toNat eY.dflt).t.l2==(ys.getD i.toNat eY.dflt).t.l2]++([(xs.getD i.toNat eY.dflt).t.l3==(ys.getD i.toNat eY.dflt).t.l3]++[])))++[]))++([(xs.getD i.toNat eY.dflt).n==(ys.getD i.toNat eY.dflt).n]++[])))=false→(∀ (e:Nat),e<xs.length→eY.Ok (eY.els xs e))∧∀ (e:Nat),e<ys.length→eY.Ok (eY.els ys e)))∧(decide (i<(↑xs.length:Int))=false→(∀ (e:Nat),e<xs.length→eY.Ok (eY.els xs e))∧∀ (e:Nat),e<ys.length→eY.Ok (eY.els ys e))
theorem sm_one:((loopsOf Try.prog 30).filter fun c=>Nat.beq (lkey c) 4).length=1:=by kernel_rfl
abbrev sm_GC:Type:=List Y×List Y
abbrev sm_GB:Type:=Bool
def sm_f (g:sm_G):Int×sm_GC×sm_GB:=(g.2.2.1,(g.1,g.2.1),g.2.2.2)
def sm_g (d:Int×sm_GC×sm_GB):sm_G:=(d.2.1.1,d.2.1.2,d.1,d.2.2)
theorem sm_es (g:sm_G):(sm_R g.1 g.2.1 g.2.2.1 g.2.2.2).1=.normal∨(sm_R g.1 g.2.1 g.2.2.1 g.2.2.2).1∈([.ret,.exit 0]:List Ex):=by
 unfold sm_R
 repeat' (first | (left;rfl) | (right;simp only[cond_true,cond_false];simp;done) | (rw[Bool.cond_eq_ite];split))
noncomputable abbrev sm_C (Inv:sm_G→List Prop) (m:sm_G→Nat):LCon:=loopR [.ret,.exit 0] (loopBody Try.prog 30 4) sm_LP [] 26 Inv (fun g=>sm_R g.1 g.2.1 g.2.2.1 g.2.2.2) m
theorem sm_loop (Inv:sm_G→List Prop) (m:sm_G→Nat) (hs:∀ g,allP (Inv g)→sm_side g.1 g.2.1 g.2.2.1 g.2.2.2) (hg:Goes (fun g:sm_G=>sm_R g.1 g.2.1 g.2.2.1 g.2.2.2) m fun g=>allP (Inv g)):∀ b∈loopsOf Try.prog 30,lkey b=4→LoopOk Try.prog b (sm_C Inv m).g:=loop_run (Γ:=(MTab.gamz tabU2 [] [])) (Λ:=noΛ) (MTab.okz tabU2 [] []) noΛ_ok 100 30 4 26 sm_LP [] Inv (fun g=>sm_R g.1 g.2.1 g.2.2.1 g.2.2.2) (fun g=>sm_side g.1 g.2.1 g.2.2.1 g.2.2.2) m default [.ret,.exit 0] sm_one (fun rd T B HL HB ds g=>by kernel_rfl) (fun rd T B HL HB ds g=>by kernel_rfl) hs hg sm_es
abbrev eu_G:Type:=List Y×List Y×Int×Int×Bool
noncomputable def eu_LP:LP 0 eu_G:=.pair (.slot 0 0 dLY) (.pair (.slot 0 1 dLY) (.pair (.slot 0 12 dI) (.pair (.slot 0 13 dI) (.slot 0 4 dBool))))
noncomputable def eu_R (xs:List Y) (ys:List Y) (n:Int) (i:Int) (r:Bool):Ex×eu_G:=
 bif decide (i<n) then bif !conj ([(xs.getD i.toNat eY.dflt).t.e==(ys.getD i.toNat eY.dflt).t.e]++([(xs.getD i.toNat eY.dflt).t.d==(ys.getD i.toNat eY.dflt).t.d]++([(xs.getD i.toNat eY.dflt).t.l0==(ys.getD i.toNat eY.dflt).t.l0]++([(xs.getD i.toNat eY.dflt).t.l1==(ys.getD i.toNat eY.dflt).t.l1]++([(xs.getD i.toNat eY.dflt).t.l2==(ys.getD i.toNat eY.dflt).t.l2]++([(xs.getD i.toNat eY.dflt).t.l3==(ys.getD i.toNat eY.dflt).t.l3]++[])))++[]))++([(xs.getD i.toNat eY.dflt).n==(ys.getD i.toNat eY.dflt).n]++[])) then (Ex.ret,eY.lst xs.length (eY.els xs),eY.lst ys.length (eY.els ys),n,i,false) else (Ex.normal,eY.lst xs.length (eY.els xs),eY.lst ys.length (eY.els ys),n,IntKind.i64.wrap (i+(1:Int)),r)
 else (Ex.exit (0:Nat),eY.lst xs.length (eY.els xs),eY.lst ys.length (eY.els ys),n,i,r)
def eu_side (xs:List Y) (ys:List Y) (n:Int) (i:Int) (r:Bool):Prop:=
 (decide (i<n)=true→((0:Int)≤i∧i<(↑xs.length:Int))∧((0:Int)≤i∧i<(↑ys.length:Int))∧((!conj ([(xs.getD i.toNat eY.dflt).t.e==(ys.getD i.toNat eY.dflt).t.e]++([(xs.getD i.toNat eY.dflt).t.d==(ys.getD i.toNat eY.dflt).t.d]++([(xs.getD i.toNat eY.dflt).t.l0==(ys.getD i.toNat eY.dflt).t.l0]++([(xs.getD i.toNat eY.dflt).t.l1==(ys.getD i.toNat eY.dflt).t.l1]++([(xs.getD i.toNat eY.dflt).t.l2==(ys.getD i.toNat eY.dflt).t.l2]++([(xs.getD i.toNat eY.dflt).t.l3==(ys.getD i.toNat eY.dflt).t.l3]++[])))++[]))++([(xs.getD i.toNat eY.dflt).n==(ys.getD i.toNat eY.dflt).n]++[])))=true→(∀ (e:Nat),e<xs.length→eY.Ok (eY.els xs e))∧∀ (e:Nat),e<ys.length→eY.Ok (eY.els ys e))∧((!conj ([(xs.getD i.toNat eY.dflt).t.e==(ys.getD i.toNat eY.dflt).t.e]++([(xs.getD i.toNat eY.dflt).t.d==(ys.getD i.toNat eY.dflt).t.d]++([(xs.getD i.toNat eY.dflt).t.l0==(ys.getD i.toNat eY.dflt).t.l0]++([(xs.getD i.toNat eY.dflt).t.l1==(ys.getD i.toNat eY.dflt).t.l1]++([(xs.getD i.toNat eY.dflt).t.l2==(ys.getD i.toNat eY.dflt).t.l2]++([(xs.getD i.toNat eY.dflt).t.l3==(ys.getD i.toNat eY.dflt).t.l3]++[])))++[]))++([(xs.getD i.toNat eY.dflt).n==(ys.getD i.toNat eY.dflt).n]++[])))=false→(∀ (e:Nat),e<xs.length→eY.Ok (eY.els xs e))∧∀ (e:Nat),e<ys.length→eY.Ok (eY.els ys e)))∧(decide (i<n)=false→(∀ (e:Nat),e<xs.length→eY.Ok (eY.els xs e))∧∀ (e:Nat),e<ys.length→eY.Ok (eY.els ys e))
theorem eu_one:((loopsOf Try.prog 87).filter fun c=>Nat.beq (lkey c) 4).length=1:=by kernel_rfl
abbrev eu_GC:Type:=List Y×List Y×Int
abbrev eu_GB:Type:=Bool
def eu_f (g:eu_G):Int×eu_GC×eu_GB:=(g.2.2.2.1,(g.1,g.2.1,g.2.2.1),g.2.2.2.2)
def eu_g (d:Int×eu_GC×eu_GB):eu_G:=(d.2.1.1,d.2.1.2.1,d.2.1.2.2,d.1,d.2.2)
theorem eu_es (g:eu_G):(eu_R g.1 g.2.1 g.2.2.1 g.2.2.2.1 g.2.2.2.2).1=.normal∨(eu_R g.1 g.2.1 g.2.2.1 g.2.2.2.1 g.2.2.2.2).1∈([.ret,.exit 0]:List Ex):=by
 unfold eu_R
 repeat' (first | (left;rfl) | (right;simp only[cond_true,cond_false];simp;done) | (rw[Bool.cond_eq_ite];split))
noncomputable abbrev eu_C (Inv:eu_G→List Prop) (m:eu_G→Nat):LCon:=loopR [.ret,.exit 0] (loopBody Try.prog 87 4) eu_LP [] 26 Inv (fun g=>eu_R g.1 g.2.1 g.2.2.1 g.2.2.2.1 g.2.2.2.2) m
theorem eu_loop (Inv:eu_G→List Prop) (m:eu_G→Nat) (hs:∀ g,allP (Inv g)→eu_side g.1 g.2.1 g.2.2.1 g.2.2.2.1 g.2.2.2.2) (hg:Goes (fun g:eu_G=>eu_R g.1 g.2.1 g.2.2.1 g.2.2.2.1 g.2.2.2.2) m fun g=>allP (Inv g)):∀ b∈loopsOf Try.prog 87,lkey b=4→LoopOk Try.prog b (eu_C Inv m).g:=loop_run (Γ:=(MTab.gamz tabU2 [] [])) (Λ:=noΛ) (MTab.okz tabU2 [] []) noΛ_ok 100 87 4 26 eu_LP [] Inv (fun g=>eu_R g.1 g.2.1 g.2.2.1 g.2.2.2.1 g.2.2.2.2) (fun g=>eu_side g.1 g.2.1 g.2.2.1 g.2.2.2.1 g.2.2.2.2) m default [.ret,.exit 0] eu_one (fun rd T B HL HB ds g=>by kernel_rfl) (fun rd T B HL HB ds g=>by kernel_rfl) hs hg eu_es
abbrev th_G:Type:=List Y×Int×Int×List Y
noncomputable def th_LP:LP 0 th_G:=.pair (.slot 0 6 dLY) (.pair (.slot 0 7 dI) (.pair (.slot 0 8 dI) (.row 0 3 tY eY)))
noncomputable def th_R (xs:List Y) (n:Int) (i:Int) (o:List Y):Ex×th_G:=
 bif decide (i<n) then bif decide ((xs.getD i.toNat eY.dflt).n > (0:Int)) then (Ex.normal,eY.lst xs.length (eY.els xs),n,IntKind.i64.wrap (i+(1:Int)),eY.lst (min (o.length+(1:Nat)) o.length) (eY.els o)++List.map (fun x=>xs.getD i.toNat eY.dflt) (List.range (o.length+(1:Nat) - o.length))) else (Ex.normal,eY.lst xs.length (eY.els xs),n,IntKind.i64.wrap (i+(1:Int)),eY.lst o.length (eY.els o))
 else (Ex.exit (0:Nat),eY.lst xs.length (eY.els xs),n,i,eY.lst o.length (eY.els o))
def th_side (xs:List Y) (n:Int) (i:Int) (o:List Y):Prop:=
 (decide (i<n)=true→((0:Int)≤i∧i<(↑xs.length:Int))∧(decide ((xs.getD i.toNat eY.dflt).n > (0:Int))=true→(o.length≤o.length∧True∧o.length+(1:Nat)≤maxLen∧(o.length+(1:Nat)) * Try.prog.types[(45:Nat)].bytes≤(140737488355328:Nat))∧(∀ (e:Nat),e<xs.length→eY.Ok (eY.els xs e))∧o.length+(1:Nat)≤o.length+(1:Nat)∧(∀ (e:Nat),e<min (o.length+(1:Nat)) o.length→True)∧∀ (e:Nat),e<o.length+(1:Nat) - o.length→True)∧(decide ((xs.getD i.toNat eY.dflt).n > (0:Int))=false→(∀ (e:Nat),e<xs.length→eY.Ok (eY.els xs e))∧o.length≤o.length∧∀ (e:Nat),e<o.length→True))∧(decide (i<n)=false→(∀ (e:Nat),e<xs.length→eY.Ok (eY.els xs e))∧o.length≤o.length∧∀ (e:Nat),e<o.length→True)
theorem th_one:((loopsOf Try.prog 97).filter fun c=>Nat.beq (lkey c) 3).length=1:=by kernel_rfl
abbrev th_GC:Type:=List Y×Int
abbrev th_GB:Type:=List Y
def th_f (g:th_G):Int×th_GC×th_GB:=(g.2.2.1,(g.1,g.2.1),g.2.2.2)
def th_g (d:Int×th_GC×th_GB):th_G:=(d.2.1.1,d.2.1.2,d.1,d.2.2)
theorem th_es (g:th_G):(th_R g.1 g.2.1 g.2.2.1 g.2.2.2).1=.normal∨(th_R g.1 g.2.1 g.2.2.1 g.2.2.2).1∈([.exit 0]:List Ex):=by
 unfold th_R
 repeat' (first | (left;rfl) | (right;simp only[cond_true,cond_false];simp;done) | (rw[Bool.cond_eq_ite];split))
noncomputable abbrev th_C (Inv:th_G→List Prop) (m:th_G→Nat):LCon:=loopR [.exit 0] (loopBody Try.prog 97 3) th_LP [] 21 Inv (fun g=>th_R g.1 g.2.1 g.2.2.1 g.2.2.2) m
theorem th_loop (Inv:th_G→List Prop) (m:th_G→Nat) (hs:∀ g,allP (Inv g)→th_side g.1 g.2.1 g.2.2.1 g.2.2.2) (hg:Goes (fun g:th_G=>th_R g.1 g.2.1 g.2.2.1 g.2.2.2) m fun g=>allP (Inv g)):∀ b∈loopsOf Try.prog 97,lkey b=3→LoopOk Try.prog b (th_C Inv m).g:=loop_run (Γ:=(MTab.gamz tabU2 [] [])) (Λ:=noΛ) (MTab.okz tabU2 [] []) noΛ_ok 100 97 3 21 th_LP [] Inv (fun g=>th_R g.1 g.2.1 g.2.2.1 g.2.2.2) (fun g=>th_side g.1 g.2.1 g.2.2.1 g.2.2.2) m default [.exit 0] th_one (fun rd T B HL HB ds g=>by kernel_rfl) (fun rd T B HL HB ds g=>by kernel_rfl) hs hg th_es
noncomputable def ob_q1 (xs:List Y) (n:Int) (i:Int) (_u:Unit) (mp:List (T×I2×Int)×Nat) (_u2:Unit) (r:Int):Nat:=
 kfind (fun e=>(xs.getD i.toNat eY.dflt).t.e==(mp.fst.getD e (eT.ent eM).dflt).fst.e&&((xs.getD i.toNat eY.dflt).t.d==(mp.fst.getD e (eT.ent eM).dflt).fst.d&&((xs.getD i.toNat eY.dflt).t.l0==(mp.fst.getD e (eT.ent eM).dflt).fst.l0&&((xs.getD i.toNat eY.dflt).t.l1==(mp.fst.getD e (eT.ent eM).dflt).fst.l1&&((xs.getD i.toNat eY.dflt).t.l2==(mp.fst.getD e (eT.ent eM).dflt).fst.l2&&(xs.getD i.toNat eY.dflt).t.l3==(mp.fst.getD e (eT.ent eM).dflt).fst.l3))))) mp.fst.length (0:Nat)
abbrev ob_G:Type:=List Y×Int×Int×Unit×(List (T×I2×Int)×Nat)×Unit×Int
noncomputable def ob_LP:LP 1 ob_G:=.pair (.slot 1 33 dLY) (.pair (.slot 1 34 dI) (.pair (.slot 1 35 dI) (.pair (.fix 1 7 (.mp 0)) (.pair (.mapO 1 0 true true eT eM) (.pair (.fix 1 2 nilV) (.slot 1 3 dI))))))
noncomputable def ob_R (xs:List Y) (n:Int) (i:Int) (_u:Unit) (mp:List (T×I2×Int)×Nat) (_u2:Unit) (r:Int):Ex×ob_G:=
 bif decide (i<n) then bif !ywi_F (xs.getD i.toNat eY.dflt).n then (Ex.ret,eY.lst xs.length (eY.els xs),n,i,(),((eT.ent eM).lst mp.fst.length ((eT.ent eM).els mp.fst),mp.snd),(),(40:Int)) else (Ex.normal,eY.lst xs.length (eY.els xs),n,IntKind.i64.wrap (i+(1:Int)),(),(((eT.ent eM).lst (bif decide ((ob_q1 xs n i _u mp _u2 r)<mp.fst.length) then mp.fst.length else mp.fst.length+(1:Nat)) ((eT.ent eM).els mp.fst)).set (ob_q1 xs n i _u mp _u2 r) ((xs.getD i.toNat eY.dflt).t,sad_F (bif decide ((ob_q1 xs n i _u mp _u2 r)<mp.fst.length) then (mp.fst.getD (ob_q1 xs n i _u mp _u2 r) (eT.ent eM).dflt).snd.fst.fst else (0:Int),bif decide ((ob_q1 xs n i _u mp _u2 r)<mp.fst.length) then (mp.fst.getD (ob_q1 xs n i _u mp _u2 r) (eT.ent eM).dflt).snd.fst.snd else (0:Int)) (xs.getD i.toNat eY.dflt).n,bif decide ((ob_q1 xs n i _u mp _u2 r)<mp.fst.length) then (mp.fst.getD (ob_q1 xs n i _u mp _u2 r) (eT.ent eM).dflt).snd.snd else (↑mp.snd:Int)),bif decide ((ob_q1 xs n i _u mp _u2 r)<mp.fst.length) then mp.snd else mp.snd+(1:Nat)),(),r)
 else (Ex.exit (2:Nat),eY.lst xs.length (eY.els xs),n,i,(),((eT.ent eM).lst mp.fst.length ((eT.ent eM).els mp.fst),mp.snd),(),r)
def ob_side (xs:List Y) (n:Int) (i:Int) (_u:Unit) (mp:List (T×I2×Int)×Nat) (_u2:Unit) (r:Int):Prop:=
 (decide (i<n)=true→((0:Int)≤i∧i<(↑xs.length:Int))∧((!ywi_F (xs.getD i.toNat eY.dflt).n)=true→(∀ (e:Nat),e<xs.length→eY.Ok (eY.els xs e))∧∀ (e:Nat),e<mp.fst.length→True)∧((!ywi_F (xs.getD i.toNat eY.dflt).n)=false→(∀ (e:Nat),e<mp.fst.length→(9:Nat)=(9:Nat))∧(∀ (e:Nat),e<mp.fst.length→True)∧(∀ (e:Nat),e<mp.fst.length→(9:Nat)=(9:Nat))∧(∀ (e:Nat),e<mp.fst.length→True)∧(∀ (e:Nat),e<xs.length→eY.Ok (eY.els xs e))∧True∧∀ (e:Nat),(e<bif decide ((ob_q1 xs n i _u mp _u2 r)<mp.fst.length) then mp.fst.length else mp.fst.length+(1:Nat))→True))∧(decide (i<n)=false→(∀ (e:Nat),e<xs.length→eY.Ok (eY.els xs e))∧∀ (e:Nat),e<mp.fst.length→True)
theorem ob_one:((loopsOf Try.prog 27).filter fun c=>Nat.beq (lkey c) 10).length=1:=by kernel_rfl
abbrev ob_GC:Type:=List Y×Int
abbrev ob_GB:Type:=(List (T×I2×Int)×Nat)×Int
def ob_f (g:ob_G):Int×ob_GC×ob_GB:=(g.2.2.1,(g.1,g.2.1),(g.2.2.2.2.1,g.2.2.2.2.2.2))
def ob_g (d:Int×ob_GC×ob_GB):ob_G:=(d.2.1.1,d.2.1.2,d.1,(),d.2.2.1,(),d.2.2.2)
theorem ob_es (g:ob_G):(ob_R g.1 g.2.1 g.2.2.1 g.2.2.2.1 g.2.2.2.2.1 g.2.2.2.2.2.1 g.2.2.2.2.2.2).1=.normal∨(ob_R g.1 g.2.1 g.2.2.1 g.2.2.2.1 g.2.2.2.2.1 g.2.2.2.2.2.1 g.2.2.2.2.2.2).1∈([.ret,.exit 2]:List Ex):=by
 unfold ob_R
 repeat' (first | (left;rfl) | (right;simp only[cond_true,cond_false];simp;done) | (rw[Bool.cond_eq_ite];split))
noncomputable abbrev ob_C (Inv:ob_G→List Prop) (m:ob_G→Nat):LCon:=loopR [.ret,.exit 2] (loopBody Try.prog 27 10) ob_LP [] 96 Inv (fun g=>ob_R g.1 g.2.1 g.2.2.1 g.2.2.2.1 g.2.2.2.2.1 g.2.2.2.2.2.1 g.2.2.2.2.2.2) m
theorem ob_loop (Inv:ob_G→List Prop) (m:ob_G→Nat) (hs:∀ g,allP (Inv g)→ob_side g.1 g.2.1 g.2.2.1 g.2.2.2.1 g.2.2.2.2.1 g.2.2.2.2.2.1 g.2.2.2.2.2.2) (hg:Goes (fun g:ob_G=>ob_R g.1 g.2.1 g.2.2.1 g.2.2.2.1 g.2.2.2.2.1 g.2.2.2.2.2.1 g.2.2.2.2.2.2) m fun g=>allP (Inv g)):∀ b∈loopsOf Try.prog 27,lkey b=10→LoopOk Try.prog b (ob_C Inv m).g:=loop_run (Γ:=(MTab.gamz tabU2 [] [])) (Λ:=noΛ) (MTab.okz tabU2 [] []) noΛ_ok 100 27 10 96 ob_LP [] Inv (fun g=>ob_R g.1 g.2.1 g.2.2.1 g.2.2.2.1 g.2.2.2.2.1 g.2.2.2.2.2.1 g.2.2.2.2.2.2) (fun g=>ob_side g.1 g.2.1 g.2.2.1 g.2.2.2.1 g.2.2.2.2.1 g.2.2.2.2.2.1 g.2.2.2.2.2.2) m default [.ret,.exit 2] ob_one (fun rd T B HL HB ds g=>by kernel_rfl) (fun rd T B HL HB ds g=>by kernel_rfl) hs hg ob_es
noncomputable def oc_q1 (cs:List Nat) (_u:Unit) (_u2:Unit) (mp:List (T×I2×Int)×Nat) (it:List Int×Nat):List
 Nat:=
 leftI (fun e=>(mp.fst.getD e (eT.ent eM).dflt).snd.snd) mp.fst.length (fun k=>it.fst.getD k (eInt IntKind.i64).dflt) it.fst.length
noncomputable def oc_q2 (cs:List Nat) (_u:Unit) (_u2:Unit) (mp:List (T×I2×Int)×Nat) (it:List Int×Nat):Nat:=
 pickI (oc_q1 cs _u _u2 mp it) (hdC cs)
noncomputable def oc_q3 (cs:List Nat) (_u:Unit) (_u2:Unit) (mp:List (T×I2×Int)×Nat) (it:List Int×Nat):Nat:=
 kfind (fun e=>(mp.fst.getD e (eT.ent eM).dflt).snd.snd==(mp.fst.getD (oc_q2 cs _u _u2 mp it) (eT.ent eM).dflt).snd.snd) mp.fst.length (0:Nat)
noncomputable def oc_q4 (cs:List Nat) (_u:Unit) (_u2:Unit) (mp:List (T×I2×Int)×Nat) (it:List Int×Nat):Nat:=
 kfind (fun e=>(mp.fst.getD (oc_q3 cs _u _u2 mp it) (eT.ent eM).dflt).fst.e==(mp.fst.getD e (eT.ent eM).dflt).fst.e&&((mp.fst.getD (oc_q3 cs _u _u2 mp it) (eT.ent eM).dflt).fst.d==(mp.fst.getD e (eT.ent eM).dflt).fst.d&&((mp.fst.getD (oc_q3 cs _u _u2 mp it) (eT.ent eM).dflt).fst.l0==(mp.fst.getD e (eT.ent eM).dflt).fst.l0&&((mp.fst.getD (oc_q3 cs _u _u2 mp it) (eT.ent eM).dflt).fst.l1==(mp.fst.getD e (eT.ent eM).dflt).fst.l1&&((mp.fst.getD (oc_q3 cs _u _u2 mp it) (eT.ent eM).dflt).fst.l2==(mp.fst.getD e (eT.ent eM).dflt).fst.l2&&(mp.fst.getD (oc_q3 cs _u _u2 mp it) (eT.ent eM).dflt).fst.l3==(mp.fst.getD e (eT.ent eM).dflt).fst.l3))))) mp.fst.length (0:Nat)
abbrev oc_G:Type:=Unit×Unit×(List (T×I2×Int)×Nat)×List Int×Nat
noncomputable def oc_LP:LP 2 oc_G:=.pair (.fix 2 7 (.mp 0)) (.pair (.fix 2 55 (.p 1 0)) (.pair (.mapO 2 0 true true eT eM) (.mit 2 1 0)))
noncomputable def oc_R (cs:List Nat) (_u:Unit) (_u2:Unit) (mp:List (T×I2×Int)×Nat) (it:List Int×Nat):Ex×oc_G:=
 bif decide ((oc_q1 cs _u _u2 mp it).length=(0:Nat)) then (Ex.exit (4:Nat),(),(),((eT.ent eM).lst mp.fst.length ((eT.ent eM).els mp.fst),mp.snd),(eInt IntKind.i64).lst it.fst.length ((eInt IntKind.i64).els it.fst),it.snd)
 else bif (swh_F (mp.fst.getD (oc_q3 cs _u _u2 mp it) (eT.ent eM).dflt).snd.fst).snd&&(swh_F (mp.fst.getD (oc_q3 cs _u _u2 mp it) (eT.ent eM).dflt).snd.fst).fst==(0:Int) then (Ex.normal,(),(),((eT.ent eM).lst (min (bif decide ((oc_q4 cs _u _u2 mp it)<mp.fst.length) then mp.fst.length - (1:Nat) else mp.fst.length) (oc_q4 cs _u _u2 mp it)) ((eT.ent eM).els mp.fst)++List.drop ((oc_q4 cs _u _u2 mp it)+(1:Nat)) ((eT.ent eM).lst ((oc_q4 cs _u _u2 mp it)+(1:Nat)+((bif decide ((oc_q4 cs _u _u2 mp it)<mp.fst.length) then mp.fst.length - (1:Nat) else mp.fst.length) - (oc_q4 cs _u _u2 mp it))) ((eT.ent eM).els mp.fst)),mp.snd),(eInt IntKind.i64).lst (min (it.fst.length+(1:Nat)) it.fst.length) ((eInt IntKind.i64).els it.fst)++List.map (fun x=>(mp.fst.getD (oc_q2 cs _u _u2 mp it) (eT.ent eM).dflt).snd.snd) (List.range (it.fst.length+(1:Nat) - it.fst.length)),it.snd) else (Ex.normal,(),(),((eT.ent eM).lst mp.fst.length ((eT.ent eM).els mp.fst),mp.snd),(eInt IntKind.i64).lst (min (it.fst.length+(1:Nat)) it.fst.length) ((eInt IntKind.i64).els it.fst)++List.map (fun x=>(mp.fst.getD (oc_q2 cs _u _u2 mp it) (eT.ent eM).dflt).snd.snd) (List.range (it.fst.length+(1:Nat) - it.fst.length)),it.snd)
def oc_side (cs:List Nat) (_u:Unit) (_u2:Unit) (mp:List (T×I2×Int)×Nat) (it:List Int×Nat):Prop:=
 (it.snd=mp.snd∧it.snd=mp.snd)∧(∀ (e:Nat),e<mp.fst.length→True)∧(∀ (k:Nat),k<it.fst.length→True)∧(decide ((oc_q1 cs _u _u2 mp it).length=(0:Nat))=true→(∀ (e:Nat),e<mp.fst.length→True)∧it.snd=it.snd∧∀ (e:Nat),e<it.fst.length→True)∧(decide ((oc_q1 cs _u _u2 mp it).length=(0:Nat))=false→it.snd=mp.snd∧(∀ (e:Nat),e<mp.fst.length→True)∧True∧(oc_q3 cs _u _u2 mp it)<mp.fst.length∧(((swh_F (mp.fst.getD (oc_q3 cs _u _u2 mp it) (eT.ent eM).dflt).snd.fst).snd&&(swh_F (mp.fst.getD (oc_q3 cs _u _u2 mp it) (eT.ent eM).dflt).snd.fst).fst==(0:Int))=true→(∀ (e:Nat),e<mp.fst.length→(9:Nat)=(9:Nat))∧(∀ (e:Nat),e<mp.fst.length→True)∧(∀ (e:Nat),e<min (bif decide ((oc_q4 cs _u _u2 mp it)<mp.fst.length) then mp.fst.length - (1:Nat) else mp.fst.length) (oc_q4 cs _u _u2 mp it)→True)∧(∀ (e:Nat),e<(oc_q4 cs _u _u2 mp it)+(1:Nat)+((bif decide ((oc_q4 cs _u _u2 mp it)<mp.fst.length) then mp.fst.length - (1:Nat) else mp.fst.length) - (oc_q4 cs _u _u2 mp it))→True)∧it.snd=it.snd∧(∀ (e:Nat),e<min (it.fst.length+(1:Nat)) it.fst.length→True)∧∀ (e:Nat),e<it.fst.length+(1:Nat) - it.fst.length→True)∧(((swh_F (mp.fst.getD (oc_q3 cs _u _u2 mp it) (eT.ent eM).dflt).snd.fst).snd&&(swh_F (mp.fst.getD (oc_q3 cs _u _u2 mp it) (eT.ent eM).dflt).snd.fst).fst==(0:Int))=false→(∀ (e:Nat),e<mp.fst.length→True)∧it.snd=it.snd∧(∀ (e:Nat),e<min (it.fst.length+(1:Nat)) it.fst.length→True)∧∀ (e:Nat),e<it.fst.length+(1:Nat) - it.fst.length→True))
theorem oc_one:((loopsOf Try.prog 27).filter fun c=>Nat.beq (lkey c) 17).length=1:=by kernel_rfl
abbrev oc_E:List Ex:=[.exit 4]
theorem oc_es (cs:List Nat) (g:oc_G):(oc_R cs g.1 g.2.1 g.2.2.1 g.2.2.2).1=.normal∨(oc_R cs g.1 g.2.1 g.2.2.1 g.2.2.2).1∈oc_E:=by
 unfold oc_R
 repeat' (first | (left;rfl) | (right;simp only[cond_true,cond_false];simp;done) | (rw[Bool.cond_eq_ite];split))
noncomputable abbrev oc_F (cs:List Nat) (g:oc_G):Ex×oc_G:=oc_R cs g.1 g.2.1 g.2.2.1 g.2.2.2
noncomputable abbrev oc_C (Inv:oc_G→List Prop) (m:oc_G→Nat):LCon:=loopRA oc_E (loopBody Try.prog 27 17) oc_LP [] 96 Inv oc_F m
theorem oc_loop (Inv:oc_G→List Prop) (m:oc_G→Nat) (hs:∀ cs g,allP (Inv g)→oc_side cs g.1 g.2.1 g.2.2.1 g.2.2.2) (hg:GoesA oc_F m fun g=>allP (Inv g)):∀ b∈loopsOf Try.prog 27,lkey b=17→LoopOk Try.prog b (oc_C Inv m).g:=loop_runA (Γ:=(MTab.gamz tabU2 [] [])) (Λ:=noΛ) (MTab.okz tabU2 [] []) noΛ_ok 100 27 17 96 oc_LP [] Inv oc_F (fun cs g=>oc_side cs g.1 g.2.1 g.2.2.1 g.2.2.2) m default oc_E oc_one (fun rd T B HL HB ds cs g=>by kernel_rfl) (fun rd T B HL HB ds cs g=>by kernel_rfl) hs hg oc_es
noncomputable def od_q1 (cs:List Nat) (_u:Unit) (_u2:Unit) (mp:List (T×I2×Int)×Nat) (it:List Int×Nat) (o:List Y) (_u3:Unit) (r:Int):List
 Nat:=
 leftI (fun e=>(mp.fst.getD e (eT.ent eM).dflt).snd.snd) mp.fst.length (fun k=>it.fst.getD k (eInt IntKind.i64).dflt) it.fst.length
noncomputable def od_q2 (cs:List Nat) (_u:Unit) (_u2:Unit) (mp:List (T×I2×Int)×Nat) (it:List Int×Nat) (o:List Y) (_u3:Unit) (r:Int):Nat:=
 pickI (od_q1 cs _u _u2 mp it o _u3 r) (hdC cs)
noncomputable def od_q3 (cs:List Nat) (_u:Unit) (_u2:Unit) (mp:List (T×I2×Int)×Nat) (it:List Int×Nat) (o:List Y) (_u3:Unit) (r:Int):Nat:=
 kfind (fun e=>(mp.fst.getD e (eT.ent eM).dflt).snd.snd==(mp.fst.getD (od_q2 cs _u _u2 mp it o _u3 r) (eT.ent eM).dflt).snd.snd) mp.fst.length (0:Nat)
abbrev od_G:Type:=Unit×Unit×(List (T×I2×Int)×Nat)×(List Int×Nat)×List Y×Unit×Int
noncomputable def od_LP:LP 3 od_G:=.pair (.fix 3 7 (.mp 0)) (.pair (.fix 3 74 (.p 2 0)) (.pair (.mapO 3 0 true true eT eM) (.pair (.mit 3 2 0) (.pair (.row 3 14 tY eY) (.pair (.fix 3 2 nilV) (.slot 3 3 dI))))))
noncomputable def od_R (cs:List Nat) (_u:Unit) (_u2:Unit) (mp:List (T×I2×Int)×Nat) (it:List Int×Nat) (o:List Y) (_u3:Unit) (r:Int):Ex×od_G:=
 bif decide ((od_q1 cs _u _u2 mp it o _u3 r).length=(0:Nat)) then (Ex.exit (6:Nat),(),(),((eT.ent eM).lst mp.fst.length ((eT.ent eM).els mp.fst),mp.snd),((eInt IntKind.i64).lst it.fst.length ((eInt IntKind.i64).els it.fst),it.snd),eY.lst o.length (eY.els o),(),r)
 else bif !(swh_F (mp.fst.getD (od_q3 cs _u _u2 mp it o _u3 r) (eT.ent eM).dflt).snd.fst).snd then (Ex.ret,(),(),((eT.ent eM).lst mp.fst.length ((eT.ent eM).els mp.fst),mp.snd),((eInt IntKind.i64).lst (min (it.fst.length+(1:Nat)) it.fst.length) ((eInt IntKind.i64).els it.fst)++List.map (fun x=>(mp.fst.getD (od_q2 cs _u _u2 mp it o _u3 r) (eT.ent eM).dflt).snd.snd) (List.range (it.fst.length+(1:Nat) - it.fst.length)),it.snd),eY.lst o.length (eY.els o),(),(40:Int)) else (Ex.normal,(),(),((eT.ent eM).lst mp.fst.length ((eT.ent eM).els mp.fst),mp.snd),((eInt IntKind.i64).lst (min (it.fst.length+(1:Nat)) it.fst.length) ((eInt IntKind.i64).els it.fst)++List.map (fun x=>(mp.fst.getD (od_q2 cs _u _u2 mp it o _u3 r) (eT.ent eM).dflt).snd.snd) (List.range (it.fst.length+(1:Nat) - it.fst.length)),it.snd),eY.lst (min (o.length+(1:Nat)) o.length) (eY.els o)++List.map (fun x=>Y.mk (mp.fst.getD (od_q3 cs _u _u2 mp it o _u3 r) (eT.ent eM).dflt).fst (swh_F (mp.fst.getD (od_q3 cs _u _u2 mp it o _u3 r) (eT.ent eM).dflt).snd.fst).fst) (List.range (o.length+(1:Nat) - o.length)),(),r)
def od_side (cs:List Nat) (_u:Unit) (_u2:Unit) (mp:List (T×I2×Int)×Nat) (it:List Int×Nat) (o:List Y) (_u3:Unit) (r:Int):Prop:=
 (it.snd=mp.snd∧it.snd=mp.snd)∧(∀ (e:Nat),e<mp.fst.length→True)∧(∀ (k:Nat),k<it.fst.length→True)∧(decide ((od_q1 cs _u _u2 mp it o _u3 r).length=(0:Nat))=true→(∀ (e:Nat),e<mp.fst.length→True)∧it.snd=it.snd∧(∀ (e:Nat),e<it.fst.length→True)∧o.length≤o.length∧∀ (e:Nat),e<o.length→True)∧(decide ((od_q1 cs _u _u2 mp it o _u3 r).length=(0:Nat))=false→it.snd=mp.snd∧(∀ (e:Nat),e<mp.fst.length→True)∧True∧(od_q3 cs _u _u2 mp it o _u3 r)<mp.fst.length∧((!(swh_F (mp.fst.getD (od_q3 cs _u _u2 mp it o _u3 r) (eT.ent eM).dflt).snd.fst).snd)=true→(∀ (e:Nat),e<mp.fst.length→True)∧it.snd=it.snd∧(∀ (e:Nat),e<min (it.fst.length+(1:Nat)) it.fst.length→True)∧(∀ (e:Nat),e<it.fst.length+(1:Nat) - it.fst.length→True)∧o.length≤o.length∧∀ (e:Nat),e<o.length→True)∧((!(swh_F (mp.fst.getD (od_q3 cs _u _u2 mp it o _u3 r) (eT.ent eM).dflt).snd.fst).snd)=false→(o.length≤o.length∧True∧o.length+(1:Nat)≤maxLen∧(o.length+(1:Nat)) * Try.prog.types[(45:Nat)].bytes≤(140737488355328:Nat))∧(∀ (e:Nat),e<mp.fst.length→True)∧it.snd=it.snd∧(∀ (e:Nat),e<min (it.fst.length+(1:Nat)) it.fst.length→True)∧(∀ (e:Nat),e<it.fst.length+(1:Nat) - it.fst.length→True)∧o.length+(1:Nat)≤o.length+(1:Nat)∧(∀ (e:Nat),e<min (o.length+(1:Nat)) o.length→True)∧∀ (e:Nat),e<o.length+(1:Nat) - o.length→True))
theorem od_one:((loopsOf Try.prog 27).filter fun c=>Nat.beq (lkey c) 24).length=1:=by kernel_rfl
abbrev od_E:List Ex:=[.exit 6,.ret]
theorem od_es (cs:List Nat) (g:od_G):(od_R cs g.1 g.2.1 g.2.2.1 g.2.2.2.1 g.2.2.2.2.1 g.2.2.2.2.2.1 g.2.2.2.2.2.2).1=.normal∨(od_R cs g.1 g.2.1 g.2.2.1 g.2.2.2.1 g.2.2.2.2.1 g.2.2.2.2.2.1 g.2.2.2.2.2.2).1∈od_E:=by
 unfold od_R
 repeat' (first | (left;rfl) | (right;simp only[cond_true,cond_false];simp;done) | (rw[Bool.cond_eq_ite];split))
noncomputable abbrev od_F (cs:List Nat) (g:od_G):Ex×od_G:=od_R cs g.1 g.2.1 g.2.2.1 g.2.2.2.1 g.2.2.2.2.1 g.2.2.2.2.2.1 g.2.2.2.2.2.2
noncomputable abbrev od_C (Inv:od_G→List Prop) (m:od_G→Nat):LCon:=loopRA od_E (loopBody Try.prog 27 24) od_LP [] 96 Inv od_F m
theorem od_loop (Inv:od_G→List Prop) (m:od_G→Nat) (hs:∀ cs g,allP (Inv g)→od_side cs g.1 g.2.1 g.2.2.1 g.2.2.2.1 g.2.2.2.2.1 g.2.2.2.2.2.1 g.2.2.2.2.2.2) (hg:GoesA od_F m fun g=>allP (Inv g)):∀ b∈loopsOf Try.prog 27,lkey b=24→LoopOk Try.prog b (od_C Inv m).g:=loop_runA (Γ:=(MTab.gamz tabU2 [] [])) (Λ:=noΛ) (MTab.okz tabU2 [] []) noΛ_ok 100 27 24 96 od_LP [] Inv od_F (fun cs g=>od_side cs g.1 g.2.1 g.2.2.1 g.2.2.2.1 g.2.2.2.2.1 g.2.2.2.2.2.1 g.2.2.2.2.2.2) m default od_E od_one (fun rd T B HL HB ds cs g=>by kernel_rfl) (fun rd T B HL HB ds cs g=>by kernel_rfl) hs hg od_es
end Go.Proofs.Ytiipneclghnfhaa

namespace Go.Proofs.Ytiipneclghnfhaa
open Go.RowKit Go.Sx Go.Lp
abbrev ME:=MpE T I2
noncomputable abbrev dE:ME:=(eT.ent eM).dflt
theorem eqK (a b:T):(a.e==b.e&&(a.d==b.d&&(a.l0==b.l0&&(a.l1==b.l1&&(a.l2==b.l2&&a.l3==b.l3)))))=decide (a=b):=by
 obtain ⟨e,d,p0,p1,p2,p3⟩:=a
 obtain ⟨e',d',p0',p1',p2',p3'⟩:=b
 rw[Bool.eq_iff_iff]
 simp
noncomputable def mputY (m:List ME×Nat) (x:Y):List ME×Nat:=
 if m.1.findIdx (fun e=>decide (x.t=e.1))<m.1.length then (m.1.set (m.1.findIdx fun e=>decide (x.t=e.1)) (x.t,sad_F (m.1.getD (m.1.findIdx fun e=>decide (x.t=e.1)) dE).2.1 x.n,(m.1.getD (m.1.findIdx fun e=>decide (x.t=e.1)) dE).2.2),m.2)
 else (m.1++[(x.t,sad_F (0,0) x.n,(m.2:Int))],m.2+1)
noncomputable def ob_S (_:ob_GC) (b:ob_GB) (_:Int) (v:Y):Ex×ob_GB:=bif !ywi_F v.n then (.ret,(b.1,40)) else (.normal,(mputY b.1 v,b.2))
def ob_K (_:ob_GC) (_:ob_GB) (_:Int):Prop:=True
abbrev ob_I (g:ob_G):List Prop:=ixI (fun c:ob_GC=>c.2) (fun c=>c.1) ob_K (ob_f g)
abbrev ob_M (g:ob_G):Nat:=ixM (fun c:ob_GC=>c.2) (ob_f g)
theorem ob_P:ixP ob_S (fun c:ob_GC=>c.1) ob_K:=fun _ _ _ _ h _ _=>h
noncomputable abbrev ob_RR (g:ob_G):Ex×ob_G:=ob_R g.1 g.2.1 g.2.2.1 g.2.2.2.1 g.2.2.2.2.1 g.2.2.2.2.2.1 g.2.2.2.2.2.2
theorem ob_q (xs:List Y) (n i:Int) (m:List ME×Nat) (r:Int):ob_q1 xs n i () m () r=m.1.findIdx fun e=>decide ((xs.getD i.toNat eY.dflt).t=e.1):=
 kfind_idx _ dE m.1 fun j _=>eqK _ _
theorem ob_RF (d:Int×ob_GC×ob_GB) (_:allP (ixI (fun c:ob_GC=>c.2) (fun c=>c.1) ob_K d)):ob_RR (ob_g d)=((ixF 2 (fun c:ob_GC=>c.2) (fun c=>c.1) eY.dflt ob_S d).1,ob_g (ixF 2 (fun c:ob_GC=>c.2) (fun c=>c.1) eY.dflt ob_S d).2):=by
 obtain ⟨i,⟨xs,n⟩,⟨m,r⟩⟩:=d
 show ob_R xs n i () m () r=_
 unfold ob_R ixF ob_S
 rw[ob_q]
 simp only[El.lst_els]
 generalize (xs.getD i.toNat eY.dflt)=v
 cases decide (i<n) with
 | false=>rfl
 | true=>
  simp only[cond_true]
  cases ywi_F v.n with
  | false=>rfl
  | true=>
   simp only[Bool.not_true,cond_false]
   have hle:(m.1.findIdx fun e=>decide (v.t=e.1))≤m.1.length:=List.findIdx_le_length
   rw[lst_put _ _ _ hle]
   unfold mputY
   by_cases hj:(m.1.findIdx fun e=>decide (v.t=e.1))<m.1.length
   ·simp only[hj,decide_true,cond_true,if_true];rfl
   ·simp only[hj,decide_false,cond_false,if_false];rfl
theorem ob_ok:∀ b∈loopsOf Try.prog 27,lkey b=10→LoopOk Try.prog b (ob_C ob_I ob_M).g:=by
 refine ob_loop ob_I ob_M (fun g hi=>?_) (ix_conj_goes (fun _=>rfl) (fun _=>rfl) ob_RF ob_P)
 obtain ⟨xs,n,i,⟨⟩,m,⟨⟩,r⟩:=g
 obtain ⟨h1,h2,h3,h4,h5⟩:=hi _ (List.mem_cons_self ..)
 have h1:n=(xs.length:Int):=h1
 have h3:0≤i:=h3
 show ob_side xs n i () m () r
 unfold ob_side
 simp only[decide_eq_true_eq,decide_eq_false_iff_not]
 have k0:∀ e:Nat,e<xs.length→eY.Ok (eY.els xs e):=fun e _=>eY.ok_els xs e
 exact ⟨fun hc=>⟨⟨h3,by omega⟩,fun _=>⟨k0,fun _ _=>trivial⟩,fun _=>⟨fun _ _=>trivial,fun _ _=>trivial,fun _ _=>trivial,fun _ _=>trivial,k0,trivial,fun _ _=>trivial⟩⟩,fun _=>⟨k0,fun _ _=>trivial⟩⟩
theorem ob_run (c:ob_GC) (b:ob_GB) (k1:c.2=((c.1).length:Int)) (k2:(c.1).length≤maxLen):loopF ob_RR ob_M (ob_g (0,c,b))=((scan 2 (ob_S c) 0 c.1 b).1,ob_g ((scan 2 (ob_S c) 0 c.1 b).2.1,c,(scan 2 (ob_S c) 0 c.1 b).2.2)):=ix_conj_run (φ:=ob_f) (ψ:=ob_g) (fun _=>rfl) (fun _=>rfl) ob_RF ob_P c b k1 k2 trivial
noncomputable def oc_p (e:ME):Bool:=(swh_F e.2.1).2&&(swh_F e.2.1).1==(0:Int)
def mapI (mp:List ME×Nat) (it:List Int×Nat):Prop:=Bn mp.1 mp.2∧Kd mp.1∧it.2=mp.2
abbrev oc_I (g:oc_G):List Prop:=[mapI g.2.2.1 g.2.2.2]
abbrev oc_M (g:oc_G):Nat:=(left g.2.2.1.1 g.2.2.2.1).length
def oc_up (g:oc_G) (a:List ME) (s:List Int):oc_G:=((),(),(a,g.2.2.1.2),s,g.2.2.2.2)
theorem oc_form (cs:List Nat) (g:oc_G) (hi:allP (oc_I g)):((left g.2.2.1.1 g.2.2.2.1).length=0∧oc_F cs g=(.exit 4,g)∧oc_side cs g.1 g.2.1 g.2.2.1 g.2.2.2)∨∃ i,∃ hn:Nxt g.2.2.1.1 g.2.2.2.1 i,oc_F cs g=(.normal,oc_up g (bif oc_p (g.2.2.1.1[i]'hn.1) then g.2.2.1.1.eraseIdx i else g.2.2.1.1) (g.2.2.2.1++[(g.2.2.1.1[i]'hn.1).2.2]))∧oc_side cs g.1 g.2.1 g.2.2.1 g.2.2.2:=by
 obtain ⟨⟨⟩,⟨⟩,⟨mp,clk⟩,⟨sn,si⟩⟩:=g
 obtain ⟨hb,hk,hs⟩:=hi _ (List.mem_cons_self ..)
 have hs:si=clk:=hs
 subst hs
 have hq1:oc_q1 cs () () (mp,si) (sn,si)=leftI (fun e=>(mp.getD e dE).2.2) mp.length (fun k=>sn.getD k (eInt IntKind.i64).dflt) sn.length:=rfl
 by_cases h0:(oc_q1 cs () () (mp,si) (sn,si)).length=0
 ·refine .inl ⟨by show (left mp sn).length=0;rw[← left_len hq1];exact h0,?_,?_⟩
  ·show oc_R cs () () (mp,si) (sn,si)=_
   unfold oc_R
   rw[decide_eq_true h0]
   simp only[cond_true,El.lst_els]
  ·show oc_side cs () () (mp,si) (sn,si)
   unfold oc_side
   rw[decide_eq_true h0]
   exact ⟨⟨rfl,rfl⟩,fun _ _=>trivial,fun _ _=>trivial,fun _=>⟨fun _ _=>trivial,rfl,fun _ _=>trivial⟩,fun h=>(by cases h)⟩
 ·obtain ⟨j,hj,hjl,_,hsn⟩:=left_pick hq1 h0 (hdC cs)
  have hg:mp.getD j dE=mp[j]:=by simp[List.getD_eq_getElem?_getD,hjl]
  have hq2:oc_q2 cs () () (mp,si) (sn,si)=j:=hj
  have hq3:oc_q3 cs () () (mp,si) (sn,si)=j:=stamp_at hb hjl (by unfold oc_q3;rw[hq2])
  have hq4:oc_q4 cs () () (mp,si) (sn,si)=j:=by
   have e:oc_q4 cs () () (mp,si) (sn,si)=mp.findIdx fun x=>decide ((mp.getD j dE).1=x.1):=by
    unfold oc_q4
    rw[hq3]
    exact kfind_idx _ dE mp fun i _=>eqK _ _
   rw[e]
   exact findIdx_one (fun x:ME=>x.1) hk hjl
  refine .inr ⟨j,⟨hjl,by rw[← hg];exact hsn⟩,?_,?_⟩
  ·show oc_R cs () () (mp,si) (sn,si)=_
   unfold oc_R
   rw[decide_eq_false h0,hq3,hq4,hq2]
   simp only[cond_false]
   rw[lst_del _ _ _ hjl,lst_snoc,El.lst_els]
   simp only[hg]
   show (bif oc_p mp[j] then _ else _)=_
   cases oc_p mp[j] <;> rfl
  ·show oc_side cs () () (mp,si) (sn,si)
   unfold oc_side
   rw[decide_eq_false h0,hq3]
   exact ⟨⟨rfl,rfl⟩,fun _ _=>trivial,fun _ _=>trivial,fun h=>(by cases h),fun _=>⟨rfl,fun _ _=>trivial,trivial,hjl,fun _=>⟨fun _ _=>rfl,fun _ _=>trivial,fun _ _=>trivial,fun _ _=>trivial,rfl,fun _ _=>trivial,fun _ _=>trivial⟩,fun _=>⟨fun _ _=>trivial,rfl,fun _ _=>trivial,fun _ _=>trivial⟩⟩⟩
theorem oc_all:GoesA oc_F oc_M (fun g=>allP (oc_I g))∧∀ cs g,allP (oc_I g)→∃ s,loopFA oc_F oc_M cs g=(.exit 4,oc_up g (dfin oc_p g.2.2.1.1 g.2.2.2.1) s):=
 del_loop (mp:=fun g:oc_G=>g.2.2.1.1) (sn:=fun g=>g.2.2.2.1) (clk:=fun g=>g.2.2.1.2) (up:=oc_up) (fun _ _ _=>rfl) (fun _ _ _=>rfl) (fun _ _ _ _ _=>rfl) (fun _=>rfl) (fun g h=>(h _ (List.mem_cons_self ..)).1) (fun _=>rfl)
  (fun g i s h=>by
   obtain ⟨hb,hk,hs⟩:=h _ (List.mem_cons_self ..)
   refine ⟨fun p hp=>?_,fun p hp=>?_⟩
   ·rw[List.mem_singleton.1 hp];exact ⟨hb,hk,hs⟩
   ·rw[List.mem_singleton.1 hp];exact ⟨bn_erase hb i,kd_erase hk i,hs⟩)
  fun cs g h=>by
   rcases oc_form cs g h with ⟨h1,h2,_⟩ | ⟨i,hn,h2,_⟩
   ·exact .inl ⟨h1,h2⟩
   ·exact .inr ⟨i,hn,h2⟩
theorem oc_ok:∀ b∈loopsOf Try.prog 27,lkey b=17→LoopOk Try.prog b (oc_C oc_I oc_M).g:=
 oc_loop oc_I oc_M (fun cs g hi=>by
  rcases oc_form cs g hi with ⟨_,_,h⟩ | ⟨_,_,_,h⟩
  ·exact h
  ·exact h) oc_all.1
noncomputable def oc_f (cs:List Nat) (g:oc_G):Ex×oc_G:=(.exit 4,oc_up g (dfin oc_p g.2.2.1.1 g.2.2.2.1) (loopFA oc_F oc_M cs g).2.2.2.2.1)
noncomputable abbrev oc_C2:LCon:=loopRC oc_E (loopBody Try.prog 27 17) oc_LP [] 96 oc_I oc_f
theorem oc_ok2:∀ b∈loopsOf Try.prog 27,lkey b=17→LoopOk Try.prog b oc_C2.g:=fun b hb hk=>
 loop_quotC (fun _ h=>h) (fun g hi cs=>⟨cs,by
  obtain ⟨s,hs⟩:=oc_all.2 cs g hi
  unfold oc_f
  rw[hs];rfl⟩) (oc_ok b hb hk)
noncomputable def od_S (e:ME) (b:List Y×Int):Ex×(List Y×Int):=bif !(swh_F e.2.1).2 then (.ret,(b.1,40)) else (.normal,(b.1++[⟨e.1,(swh_F e.2.1).1⟩],b.2))
abbrev od_I (g:od_G):List Prop:=[mapI g.2.2.1 g.2.2.2.1∧g.2.2.2.2.1.length+(left g.2.2.1.1 g.2.2.2.1.1).length≤KS]
abbrev od_M (g:od_G):Nat:=(left g.2.2.1.1 g.2.2.2.1.1).length
def od_up (g:od_G) (s:List Int) (b:List Y×Int):od_G:=((),(),g.2.2.1,(s,g.2.2.2.1.2),b.1,(),b.2)
theorem bytesY (h:45<Try.prog.types.size):(Try.prog.types[45]'h).bytes=56:=by kernel_rfl
theorem od_form (cs:List Nat) (g:od_G) (hi:allP (od_I g)):((left g.2.2.1.1 g.2.2.2.1.1).length=0∧od_F cs g=(.exit 6,g)∧od_side cs g.1 g.2.1 g.2.2.1 g.2.2.2.1 g.2.2.2.2.1 g.2.2.2.2.2.1 g.2.2.2.2.2.2)∨∃ e,(left g.2.2.1.1 g.2.2.2.1.1)[(hdC cs).headD 0 % (left g.2.2.1.1 g.2.2.2.1.1).length]?=some e∧od_F cs g=((od_S e (g.2.2.2.2.1,g.2.2.2.2.2.2)).1,od_up g (g.2.2.2.1.1++[e.2.2]) (od_S e (g.2.2.2.2.1,g.2.2.2.2.2.2)).2)∧od_side cs g.1 g.2.1 g.2.2.1 g.2.2.2.1 g.2.2.2.2.1 g.2.2.2.2.2.1 g.2.2.2.2.2.2:=by
 obtain ⟨⟨⟩,⟨⟩,⟨mp,clk⟩,⟨sn,si⟩,o,⟨⟩,r⟩:=g
 obtain ⟨⟨hb,hk,hs⟩,hlen⟩:=hi _ (List.mem_cons_self ..)
 have hs:si=clk:=hs
 have hlen:o.length+(left mp sn).length≤KS:=hlen
 subst hs
 have hq1:od_q1 cs () () (mp,si) (sn,si) o () r=leftI (fun e=>(mp.getD e dE).2.2) mp.length (fun k=>sn.getD k (eInt IntKind.i64).dflt) sn.length:=rfl
 have hq0:=left_len hq1
 by_cases h0:(od_q1 cs () () (mp,si) (sn,si) o () r).length=0
 ·refine .inl ⟨by show (left mp sn).length=0;rw[← hq0];exact h0,?_,?_⟩
  ·show od_R cs () () (mp,si) (sn,si) o () r=_
   unfold od_R
   rw[decide_eq_true h0]
   simp only[cond_true,El.lst_els]
  ·show od_side cs () () (mp,si) (sn,si) o () r
   unfold od_side
   rw[decide_eq_true h0]
   exact ⟨⟨rfl,rfl⟩,fun _ _=>trivial,fun _ _=>trivial,fun _=>⟨fun _ _=>trivial,rfl,fun _ _=>trivial,Nat.le_refl _,fun _ _=>trivial⟩,fun h=>(by cases h)⟩
 ·obtain ⟨j,hj,hjl,hat,hsn⟩:=left_pick hq1 h0 (hdC cs)
  have hg:mp.getD j dE=mp[j]:=by simp[List.getD_eq_getElem?_getD,hjl]
  have hq2:od_q2 cs () () (mp,si) (sn,si) o () r=j:=hj
  have hq3:od_q3 cs () () (mp,si) (sn,si) o () r=j:=stamp_at hb hjl (by unfold od_q3;rw[hq2])
  rw[hg] at hat
  refine .inr ⟨mp[j],hat,?_,?_⟩
  ·show od_R cs () () (mp,si) (sn,si) o () r=_
   unfold od_R od_S
   rw[decide_eq_false h0,hq3,hq2]
   simp only[cond_false]
   rw[lst_snoc,lst_snoc,El.lst_els,El.lst_els]
   simp only[hg]
   cases (swh_F mp[j].2.1).2 <;> rfl
  ·show od_side cs () () (mp,si) (sn,si) o () r
   unfold od_side
   rw[decide_eq_false h0,hq3]
   have b0':o.length≤KS:=by omega
   have b0:o.length≤1000000:=b0'
   have b1:o.length+1≤maxLen:=by unfold maxLen;omega
   refine ⟨⟨rfl,rfl⟩,fun _ _=>trivial,fun _ _=>trivial,fun h=>(by cases h),fun _=>⟨rfl,fun _ _=>trivial,trivial,hjl,fun _=>⟨fun _ _=>trivial,rfl,fun _ _=>trivial,fun _ _=>trivial,Nat.le_refl _,fun _ _=>trivial⟩,fun _=>⟨⟨Nat.le_refl _,trivial,b1,by rw[bytesY];omega⟩,fun _ _=>trivial,rfl,fun _ _=>trivial,fun _ _=>trivial,Nat.le_refl _,fun _ _=>trivial,fun _ _=>trivial⟩⟩⟩
theorem od_all:GoesA od_F od_M (fun g=>allP (od_I g))∧∀ cs g,allP (od_I g)→∃ s,loopFA od_F od_M cs g=((scanM 6 od_S (permC (left g.2.2.1.1 g.2.2.2.1.1).length cs (left g.2.2.1.1 g.2.2.2.1.1)) (g.2.2.2.2.1,g.2.2.2.2.2.2)).1,od_up g s (scanM 6 od_S (permC (left g.2.2.1.1 g.2.2.2.1.1).length cs (left g.2.2.1.1 g.2.2.2.1.1)) (g.2.2.2.2.1,g.2.2.2.2.2.2)).2):=
 fold_loop (mp:=fun g:od_G=>g.2.2.1.1) (sn:=fun g=>g.2.2.2.1.1) (clk:=fun g=>g.2.2.1.2) (bo:=fun g=>(g.2.2.2.2.1,g.2.2.2.2.2.2)) (up:=od_up) (fun _ _ _=>rfl) (fun _ _ _=>rfl) (fun _ _ _=>rfl) (fun _ _ _ _ _=>rfl) (fun _=>rfl) (fun g h=>(h _ (List.mem_cons_self ..)).1.1) (fun _=>rfl)
  (fun g e h he hlt hn p hp=>by
   rw[List.mem_singleton.1 hp]
   obtain ⟨hI,hlen⟩:=h _ (List.mem_cons_self ..)
   refine ⟨hI,?_⟩
   show (od_S e (g.2.2.2.2.1,g.2.2.2.2.2.2)).2.1.length+(left g.2.2.1.1 (g.2.2.2.1.1++[e.2.2])).length≤KS
   have:(od_S e (g.2.2.2.2.1,g.2.2.2.2.2.2)).2.1.length≤g.2.2.2.2.1.length+1:=by
    unfold od_S
    cases (swh_F e.2.1).2 <;> simp
   omega)
  fun cs g h=>by
   rcases od_form cs g h with ⟨h1,h2,_⟩ | ⟨e,he,h2,_⟩
   ·exact .inl ⟨h1,h2⟩
   ·exact .inr ⟨e,he,h2⟩
theorem od_ok:∀ b∈loopsOf Try.prog 27,lkey b=24→LoopOk Try.prog b (od_C od_I od_M).g:=
 od_loop od_I od_M (fun cs g hi=>by
  rcases od_form cs g hi with ⟨_,_,h⟩ | ⟨_,_,_,h⟩
  ·exact h
  ·exact h) od_all.1
noncomputable def od_q (cs:List Nat) (g:od_G):Ex×(List Y×Int):=scanM 6 od_S (permC (left g.2.2.1.1 g.2.2.2.1.1).length cs (left g.2.2.1.1 g.2.2.2.1.1)) (g.2.2.2.2.1,g.2.2.2.2.2.2)
noncomputable def od_f (cs:List Nat) (g:od_G):Ex×od_G:=((od_q cs g).1,od_up g (loopFA od_F od_M cs g).2.2.2.2.1.1 (od_q cs g).2)
noncomputable abbrev od_C2:LCon:=loopRC od_E (loopBody Try.prog 27 24) od_LP [] 96 od_I od_f
theorem od_ok2:∀ b∈loopsOf Try.prog 27,lkey b=24→LoopOk Try.prog b od_C2.g:=fun b hb hk=>
 loop_quotC (fun _ h=>h) (fun g hi cs=>⟨cs,by
  obtain ⟨s,hs⟩:=od_all.2 cs g hi
  unfold od_f od_q
  rw[hs];rfl⟩) (od_ok b hb hk)
end Go.Proofs.Ytiipneclghnfhaa

namespace Go.Proofs.Ytiipneclghnfhaa
open Go.RowKit Go.Sx Go.Lp
set_option maxRecDepth 100000
def eqY (a b:Y):Bool:=decide (a=b)
theorem conj_Y (a b:Y):conj ([a.t.e==b.t.e]++([a.t.d==b.t.d]++([a.t.l0==b.t.l0]++([a.t.l1==b.t.l1]++([a.t.l2==b.t.l2]++([a.t.l3==b.t.l3]++[])))++[]))++([a.n==b.n]++[]))=eqY a b:=by
 obtain ⟨⟨e,d,p0,p1,p2,p3⟩,n⟩:=a
 obtain ⟨⟨e',d',p0',p1',p2',p3'⟩,n'⟩:=b
 unfold eqY
 simp[conj]
 rw[Bool.eq_iff_iff]
 simp[and_assoc]
noncomputable def ka_S (c:ka_GC) (b:ka_GB) (i:Int) (v:Y):Ex×ka_GB:=bif tcheck_F v.t != (0:Int) then (.ret,tcheck_F v.t) else (.normal,b)
def ka_K (c:ka_GC) (b:ka_GB) (i:Int):Prop:=True
abbrev ka_I (g:ka_G):List Prop:=ixI (fun c:ka_GC=>c.2) (fun c:ka_GC=>c.1) ka_K (ka_f g)
abbrev ka_M (g:ka_G):Nat:=ixM (fun c:ka_GC=>c.2) (ka_f g)
theorem ka_P:ixP ka_S (fun c:ka_GC=>c.1) ka_K:=fun _ _ _ _ h _ _=>h
noncomputable abbrev ka_RR (g:ka_G):Ex×ka_G:=ka_R g.1 g.2.1 g.2.2.1 g.2.2.2
theorem ka_RF (d:Int×ka_GC×ka_GB) (_:allP (ixI (fun c:ka_GC=>c.2) (fun c:ka_GC=>c.1) ka_K d)):ka_RR (ka_g d)=((ixF 0 (fun c:ka_GC=>c.2) (fun c:ka_GC=>c.1) eY.dflt ka_S d).1,ka_g (ixF 0 (fun c:ka_GC=>c.2) (fun c:ka_GC=>c.1) eY.dflt ka_S d).2):=by
 obtain ⟨i,⟨xs,n⟩,r⟩:=d
 show ka_R xs n i r=_
 unfold ka_R ixF ka_S
 simp only[eY.lst_els]
 cases decide (i<n) with
 | false=>rfl
 | true=>
  simp only[cond_true]
  generalize (tcheck_F (xs.getD i.toNat eY.dflt).t != (0:Int))=z
  cases z <;> rfl
theorem ka_ok:∀ b∈loopsOf Try.prog 66,lkey b=2→LoopOk Try.prog b (ka_C ka_I ka_M).g:=by
 refine ka_loop ka_I ka_M (fun g hi=>?_) (ix_conj_goes (fun _=>rfl) (fun _=>rfl) ka_RF ka_P)
 obtain ⟨xs,n,i,r⟩:=g
 obtain ⟨h1,h2,h3,h4,h5⟩:=hi _ (List.mem_cons_self ..)
 have h1:n=(xs.length:Int):=h1
 have h3:0≤i:=h3
 have h5:True:=h5
 show ka_side xs n i r
 unfold ka_side
 simp only[decide_eq_true_eq,decide_eq_false_iff_not]
 have k0:∀ e:Nat,e<xs.length→eY.Ok (eY.els xs e):=fun e _=>eY.ok_els xs e
 clear hi
 repeat' (first | exact k0 | apply And.intro | intro _)
 all_goals omega
theorem ka_run (c:ka_GC) (b:ka_GB) (k1:c.2=((c.1).length:Int)) (k2:(c.1).length≤maxLen) (k3:ka_K c b 0):loopF ka_RR ka_M (ka_g (0,c,b))=((scan 0 (ka_S c) 0 (c.1) b).1,ka_g ((scan 0 (ka_S c) 0 (c.1) b).2.1,c,(scan 0 (ka_S c) 0 (c.1) b).2.2)):=ix_conj_run (φ:=ka_f) (ψ:=ka_g) (fun _=>rfl) (fun _=>rfl) ka_RF ka_P c b k1 k2 k3
noncomputable def kb_S (c:kb_GC) (b:kb_GB) (i:Int) (v:Y):Ex×kb_GB:=bif v.n==(0:Int)||(!ywi_F v.n||decide (i > (0:Int))&&decide (tcmp_F (c.1.getD (IntKind.i64.wrap (i - (1:Int))).toNat eY.dflt).t v.t≥(0:Int))) then (.ret,(40:Int)) else (.normal,b)
def kb_K (c:kb_GC) (b:kb_GB) (i:Int):Prop:=c.1=c.2.1
abbrev kb_I (g:kb_G):List Prop:=ixI (fun c:kb_GC=>c.2.2) (fun c:kb_GC=>c.2.1) kb_K (kb_f g)
abbrev kb_M (g:kb_G):Nat:=ixM (fun c:kb_GC=>c.2.2) (kb_f g)
theorem kb_P:ixP kb_S (fun c:kb_GC=>c.2.1) kb_K:=fun _ _ _ _ h _ _=>h
noncomputable abbrev kb_RR (g:kb_G):Ex×kb_G:=kb_R g.1 g.2.1 g.2.2.1 g.2.2.2.1 g.2.2.2.2
theorem kb_RF (d:Int×kb_GC×kb_GB) (_:allP (ixI (fun c:kb_GC=>c.2.2) (fun c:kb_GC=>c.2.1) kb_K d)):kb_RR (kb_g d)=((ixF 2 (fun c:kb_GC=>c.2.2) (fun c:kb_GC=>c.2.1) eY.dflt kb_S d).1,kb_g (ixF 2 (fun c:kb_GC=>c.2.2) (fun c:kb_GC=>c.2.1) eY.dflt kb_S d).2):=by
 obtain ⟨i,⟨l,xs,n⟩,r⟩:=d
 show kb_R l xs n i r=_
 unfold kb_R ixF kb_S
 simp only[eY.lst_els]
 cases decide (i<n) with
 | false=>rfl
 | true=>
  simp only[cond_true]
  generalize ((xs.getD i.toNat eY.dflt).n==(0:Int)||(!ywi_F (xs.getD i.toNat eY.dflt).n||decide (i > (0:Int))&&decide (tcmp_F (l.getD (IntKind.i64.wrap (i - (1:Int))).toNat eY.dflt).t (xs.getD i.toNat eY.dflt).t≥(0:Int))))=z
  cases z <;> rfl
theorem kb_ok:∀ b∈loopsOf Try.prog 66,lkey b=9→LoopOk Try.prog b (kb_C kb_I kb_M).g:=by
 refine kb_loop kb_I kb_M (fun g hi=>?_) (ix_conj_goes (fun _=>rfl) (fun _=>rfl) kb_RF kb_P)
 obtain ⟨l,xs,n,i,r⟩:=g
 obtain ⟨h1,h2,h3,h4,h5⟩:=hi _ (List.mem_cons_self ..)
 have h1:n=(xs.length:Int):=h1
 have h3:0≤i:=h3
 have h5:l=xs:=h5
 have h2':xs.length≤maxLen:=h2
 have h2:xs.length≤9223372036854775807:=by unfold maxLen at h2';omega
 have h4:i≤(xs.length:Int):=h4
 have w1:0<i→IntKind.i64.wrap (i - (1:Int))=i - 1:=fun h=>Lp.wr (by omega)
 have h6:l.length=xs.length:=by rw[h5]
 show kb_side l xs n i r
 unfold kb_side
 simp only[decide_eq_true_eq,decide_eq_false_iff_not]
 have k0:∀ e:Nat,e<xs.length→eY.Ok (eY.els xs e):=fun e _=>eY.ok_els xs e
 have k1:∀ e:Nat,e<l.length→eY.Ok (eY.els l e):=fun e _=>eY.ok_els l e
 clear hi
 repeat' (first | exact k0 | exact k1 | apply And.intro | intro _)
 all_goals (first | omega | (rw[w1 (by omega)];omega))
theorem kb_run (c:kb_GC) (b:kb_GB) (k1:c.2.2=((c.2.1).length:Int)) (k2:(c.2.1).length≤maxLen) (k3:kb_K c b 0):loopF kb_RR kb_M (kb_g (0,c,b))=((scan 2 (kb_S c) 0 (c.2.1) b).1,kb_g ((scan 2 (kb_S c) 0 (c.2.1) b).2.1,c,(scan 2 (kb_S c) 0 (c.2.1) b).2.2)):=ix_conj_run (φ:=kb_f) (ψ:=kb_g) (fun _=>rfl) (fun _=>rfl) kb_RF kb_P c b k1 k2 k3
noncomputable def kr_S (c:kr_GC) (b:kr_GB) (i:Int) (v:Y):Ex×kr_GB:=bif rtcheck_F v.t != (0:Int) then (.ret,rtcheck_F v.t) else (.normal,b)
def kr_K (c:kr_GC) (b:kr_GB) (i:Int):Prop:=True
abbrev kr_I (g:kr_G):List Prop:=ixI (fun c:kr_GC=>(c.length:Int)) (fun c:kr_GC=>c) kr_K (kr_f g)
abbrev kr_M (g:kr_G):Nat:=ixM (fun c:kr_GC=>(c.length:Int)) (kr_f g)
theorem kr_P:ixP kr_S (fun c:kr_GC=>c) kr_K:=fun _ _ _ _ h _ _=>h
noncomputable abbrev kr_RR (g:kr_G):Ex×kr_G:=kr_R g.1 g.2.1 g.2.2
theorem kr_RF (d:Int×kr_GC×kr_GB) (_:allP (ixI (fun c:kr_GC=>(c.length:Int)) (fun c:kr_GC=>c) kr_K d)):kr_RR (kr_g d)=((ixF 0 (fun c:kr_GC=>(c.length:Int)) (fun c:kr_GC=>c) eY.dflt kr_S d).1,kr_g (ixF 0 (fun c:kr_GC=>(c.length:Int)) (fun c:kr_GC=>c) eY.dflt kr_S d).2):=by
 obtain ⟨i,xs,r⟩:=d
 show kr_R xs i r=_
 unfold kr_R ixF kr_S
 simp only[eY.lst_els]
 cases decide (i<(xs.length:Int)) with
 | false=>rfl
 | true=>
  simp only[cond_true]
  generalize (rtcheck_F (xs.getD i.toNat eY.dflt).t != (0:Int))=z
  cases z <;> rfl
theorem kr_ok:∀ b∈loopsOf Try.prog 109,lkey b=2→LoopOk Try.prog b (kr_C kr_I kr_M).g:=by
 refine kr_loop kr_I kr_M (fun g hi=>?_) (ix_conj_goes (fun _=>rfl) (fun _=>rfl) kr_RF kr_P)
 obtain ⟨xs,i,r⟩:=g
 obtain ⟨h1,h2,h3,h4,h5⟩:=hi _ (List.mem_cons_self ..)
 have h1:(xs.length:Int)=(xs.length:Int):=h1
 have h3:0≤i:=h3
 have h5:True:=h5
 show kr_side xs i r
 unfold kr_side
 simp only[decide_eq_true_eq,decide_eq_false_iff_not]
 have k0:∀ e:Nat,e<xs.length→eY.Ok (eY.els xs e):=fun e _=>eY.ok_els xs e
 clear hi
 repeat' (first | exact k0 | apply And.intro | intro _)
 all_goals omega
theorem kr_run (c:kr_GC) (b:kr_GB) (k1:(c.length:Int)=((c).length:Int)) (k2:(c).length≤maxLen) (k3:kr_K c b 0):loopF kr_RR kr_M (kr_g (0,c,b))=((scan 0 (kr_S c) 0 (c) b).1,kr_g ((scan 0 (kr_S c) 0 (c) b).2.1,c,(scan 0 (kr_S c) 0 (c) b).2.2)):=ix_conj_run (φ:=kr_f) (ψ:=kr_g) (fun _=>rfl) (fun _=>rfl) kr_RF kr_P c b k1 k2 k3
noncomputable def kc_S (c:kc_GC) (b:kc_GB) (i:Int) (v:Y):Ex×kc_GB:=bif v.n==(0:Int)||(!rwi_F v.n||decide (i > (0:Int))&&decide (rtcmp_F (c.getD (IntKind.i64.wrap (i - (1:Int))).toNat eY.dflt).t v.t≥(0:Int))) then (.ret,(40:Int)) else (.normal,b)
def kc_K (c:kc_GC) (b:kc_GB) (i:Int):Prop:=True
abbrev kc_I (g:kc_G):List Prop:=ixI (fun c:kc_GC=>(c.length:Int)) (fun c:kc_GC=>c) kc_K (kc_f g)
abbrev kc_M (g:kc_G):Nat:=ixM (fun c:kc_GC=>(c.length:Int)) (kc_f g)
theorem kc_P:ixP kc_S (fun c:kc_GC=>c) kc_K:=fun _ _ _ _ h _ _=>h
noncomputable abbrev kc_RR (g:kc_G):Ex×kc_G:=kc_R g.1 g.2.1 g.2.2
theorem kc_RF (d:Int×kc_GC×kc_GB) (_:allP (ixI (fun c:kc_GC=>(c.length:Int)) (fun c:kc_GC=>c) kc_K d)):kc_RR (kc_g d)=((ixF 0 (fun c:kc_GC=>(c.length:Int)) (fun c:kc_GC=>c) eY.dflt kc_S d).1,kc_g (ixF 0 (fun c:kc_GC=>(c.length:Int)) (fun c:kc_GC=>c) eY.dflt kc_S d).2):=by
 obtain ⟨i,xs,r⟩:=d
 show kc_R xs i r=_
 unfold kc_R ixF kc_S
 simp only[eY.lst_els]
 cases decide (i<(xs.length:Int)) with
 | false=>rfl
 | true=>
  simp only[cond_true]
  generalize ((xs.getD i.toNat eY.dflt).n==(0:Int)||(!rwi_F (xs.getD i.toNat eY.dflt).n||decide (i > (0:Int))&&decide (rtcmp_F (xs.getD (IntKind.i64.wrap (i - (1:Int))).toNat eY.dflt).t (xs.getD i.toNat eY.dflt).t≥(0:Int))))=z
  cases z <;> rfl
theorem kc_ok:∀ b∈loopsOf Try.prog 67,lkey b=5→LoopOk Try.prog b (kc_C kc_I kc_M).g:=by
 refine kc_loop kc_I kc_M (fun g hi=>?_) (ix_conj_goes (fun _=>rfl) (fun _=>rfl) kc_RF kc_P)
 obtain ⟨xs,i,r⟩:=g
 obtain ⟨h1,h2,h3,h4,h5⟩:=hi _ (List.mem_cons_self ..)
 have h1:(xs.length:Int)=(xs.length:Int):=h1
 have h3:0≤i:=h3
 have h5:True:=h5
 have h2':xs.length≤maxLen:=h2
 have h2:xs.length≤9223372036854775807:=by unfold maxLen at h2';omega
 have h4:i≤(xs.length:Int):=h4
 have w1:0<i→IntKind.i64.wrap (i - (1:Int))=i - 1:=fun h=>Lp.wr (by omega)
 show kc_side xs i r
 unfold kc_side
 simp only[decide_eq_true_eq,decide_eq_false_iff_not]
 have k0:∀ e:Nat,e<xs.length→eY.Ok (eY.els xs e):=fun e _=>eY.ok_els xs e
 clear hi
 repeat' (first | exact k0 | apply And.intro | intro _)
 all_goals (first | omega | (rw[w1 (by omega)];omega))
theorem kc_run (c:kc_GC) (b:kc_GB) (k1:(c.length:Int)=((c).length:Int)) (k2:(c).length≤maxLen) (k3:kc_K c b 0):loopF kc_RR kc_M (kc_g (0,c,b))=((scan 0 (kc_S c) 0 (c) b).1,kc_g ((scan 0 (kc_S c) 0 (c) b).2.1,c,(scan 0 (kc_S c) 0 (c) b).2.2)):=ix_conj_run (φ:=kc_f) (ψ:=kc_g) (fun _=>rfl) (fun _=>rfl) kc_RF kc_P c b k1 k2 k3
noncomputable def oa_S (c:oa_GC) (b:oa_GB) (i:Int) (v:Y):Ex×oa_GB:=bif tcheck_F v.t != (0:Int) then (.ret,(),tcheck_F v.t) else (.normal,b.1,b.2)
def oa_K (c:oa_GC) (b:oa_GB) (i:Int):Prop:=True
abbrev oa_I (g:oa_G):List Prop:=ixI (fun c:oa_GC=>c.2) (fun c:oa_GC=>c.1) oa_K (oa_f g)
abbrev oa_M (g:oa_G):Nat:=ixM (fun c:oa_GC=>c.2) (oa_f g)
theorem oa_P:ixP oa_S (fun c:oa_GC=>c.1) oa_K:=fun _ _ _ _ h _ _=>h
noncomputable abbrev oa_RR (g:oa_G):Ex×oa_G:=oa_R g.1 g.2.1 g.2.2.1 g.2.2.2.1 g.2.2.2.2
theorem oa_RF (d:Int×oa_GC×oa_GB) (_:allP (ixI (fun c:oa_GC=>c.2) (fun c:oa_GC=>c.1) oa_K d)):oa_RR (oa_g d)=((ixF 0 (fun c:oa_GC=>c.2) (fun c:oa_GC=>c.1) eY.dflt oa_S d).1,oa_g (ixF 0 (fun c:oa_GC=>c.2) (fun c:oa_GC=>c.1) eY.dflt oa_S d).2):=by
 obtain ⟨i,⟨xs,n⟩,⟨⟨⟩,r⟩⟩:=d
 show oa_R xs n i () r=_
 unfold oa_R ixF oa_S
 simp only[eY.lst_els]
 cases decide (i<n) with
 | false=>rfl
 | true=>
  simp only[cond_true]
  generalize (tcheck_F (xs.getD i.toNat eY.dflt).t != (0:Int))=z
  cases z <;> rfl
theorem oa_ok:∀ b∈loopsOf Try.prog 27,lkey b=2→LoopOk Try.prog b (oa_C oa_I oa_M).g:=by
 refine oa_loop oa_I oa_M (fun g hi=>?_) (ix_conj_goes (fun _=>rfl) (fun _=>rfl) oa_RF oa_P)
 obtain ⟨xs,n,i,⟨⟩,r⟩:=g
 obtain ⟨h1,h2,h3,h4,h5⟩:=hi _ (List.mem_cons_self ..)
 have h1:n=(xs.length:Int):=h1
 have h3:0≤i:=h3
 have h5:True:=h5
 show oa_side xs n i () r
 unfold oa_side
 simp only[decide_eq_true_eq,decide_eq_false_iff_not]
 have k0:∀ e:Nat,e<xs.length→eY.Ok (eY.els xs e):=fun e _=>eY.ok_els xs e
 clear hi
 repeat' (first | exact k0 | apply And.intro | intro _)
 all_goals omega
theorem oa_run (c:oa_GC) (b:oa_GB) (k1:c.2=((c.1).length:Int)) (k2:(c.1).length≤maxLen) (k3:oa_K c b 0):loopF oa_RR oa_M (oa_g (0,c,b))=((scan 0 (oa_S c) 0 (c.1) b).1,oa_g ((scan 0 (oa_S c) 0 (c.1) b).2.1,c,(scan 0 (oa_S c) 0 (c.1) b).2.2)):=ix_conj_run (φ:=oa_f) (ψ:=oa_g) (fun _=>rfl) (fun _=>rfl) oa_RF oa_P c b k1 k2 k3
noncomputable def sm_S (c:sm_GC) (b:sm_GB) (i:Int) (v:Y):Ex×sm_GB:=bif !eqY v (c.2.getD i.toNat eY.dflt) then (.ret,false) else (.normal,b)
def sm_K (c:sm_GC) (b:sm_GB) (i:Int):Prop:=c.1.length=c.2.length
abbrev sm_I (g:sm_G):List Prop:=ixI (fun c:sm_GC=>(c.1.length:Int)) (fun c:sm_GC=>c.1) sm_K (sm_f g)
abbrev sm_M (g:sm_G):Nat:=ixM (fun c:sm_GC=>(c.1.length:Int)) (sm_f g)
theorem sm_P:ixP sm_S (fun c:sm_GC=>c.1) sm_K:=fun _ _ _ _ h _ _=>h
noncomputable abbrev sm_RR (g:sm_G):Ex×sm_G:=sm_R g.1 g.2.1 g.2.2.1 g.2.2.2
theorem sm_RF (d:Int×sm_GC×sm_GB) (_:allP (ixI (fun c:sm_GC=>(c.1.length:Int)) (fun c:sm_GC=>c.1) sm_K d)):sm_RR (sm_g d)=((ixF 0 (fun c:sm_GC=>(c.1.length:Int)) (fun c:sm_GC=>c.1) eY.dflt sm_S d).1,sm_g (ixF 0 (fun c:sm_GC=>(c.1.length:Int)) (fun c:sm_GC=>c.1) eY.dflt sm_S d).2):=by
 obtain ⟨i,⟨xs,ys⟩,r⟩:=d
 show sm_R xs ys i r=_
 unfold sm_R ixF sm_S
 simp only[eY.lst_els,conj_Y]
 cases decide (i<(xs.length:Int)) with
 | false=>rfl
 | true=>
  simp only[cond_true]
  generalize (!eqY (xs.getD i.toNat eY.dflt) (ys.getD i.toNat eY.dflt))=z
  cases z <;> rfl
theorem sm_ok:∀ b∈loopsOf Try.prog 30,lkey b=4→LoopOk Try.prog b (sm_C sm_I sm_M).g:=by
 refine sm_loop sm_I sm_M (fun g hi=>?_) (ix_conj_goes (fun _=>rfl) (fun _=>rfl) sm_RF sm_P)
 obtain ⟨xs,ys,i,r⟩:=g
 obtain ⟨h1,h2,h3,h4,h5⟩:=hi _ (List.mem_cons_self ..)
 have h1:(xs.length:Int)=(xs.length:Int):=h1
 have h3:0≤i:=h3
 have h5:xs.length=ys.length:=h5
 show sm_side xs ys i r
 unfold sm_side
 simp only[decide_eq_true_eq,decide_eq_false_iff_not]
 have k0:∀ e:Nat,e<xs.length→eY.Ok (eY.els xs e):=fun e _=>eY.ok_els xs e
 have k1:∀ e:Nat,e<ys.length→eY.Ok (eY.els ys e):=fun e _=>eY.ok_els ys e
 clear hi
 repeat' (first | exact k0 | exact k1 | apply And.intro | intro _)
 all_goals omega
theorem sm_run (c:sm_GC) (b:sm_GB) (k1:(c.1.length:Int)=((c.1).length:Int)) (k2:(c.1).length≤maxLen) (k3:sm_K c b 0):loopF sm_RR sm_M (sm_g (0,c,b))=((scan 0 (sm_S c) 0 (c.1) b).1,sm_g ((scan 0 (sm_S c) 0 (c.1) b).2.1,c,(scan 0 (sm_S c) 0 (c.1) b).2.2)):=ix_conj_run (φ:=sm_f) (ψ:=sm_g) (fun _=>rfl) (fun _=>rfl) sm_RF sm_P c b k1 k2 k3
noncomputable def eu_S (c:eu_GC) (b:eu_GB) (i:Int) (v:Y):Ex×eu_GB:=bif !eqY v (c.2.1.getD i.toNat eY.dflt) then (.ret,false) else (.normal,b)
def eu_K (c:eu_GC) (b:eu_GB) (i:Int):Prop:=c.1.length=c.2.1.length
abbrev eu_I (g:eu_G):List Prop:=ixI (fun c:eu_GC=>c.2.2) (fun c:eu_GC=>c.1) eu_K (eu_f g)
abbrev eu_M (g:eu_G):Nat:=ixM (fun c:eu_GC=>c.2.2) (eu_f g)
theorem eu_P:ixP eu_S (fun c:eu_GC=>c.1) eu_K:=fun _ _ _ _ h _ _=>h
noncomputable abbrev eu_RR (g:eu_G):Ex×eu_G:=eu_R g.1 g.2.1 g.2.2.1 g.2.2.2.1 g.2.2.2.2
theorem eu_RF (d:Int×eu_GC×eu_GB) (_:allP (ixI (fun c:eu_GC=>c.2.2) (fun c:eu_GC=>c.1) eu_K d)):eu_RR (eu_g d)=((ixF 0 (fun c:eu_GC=>c.2.2) (fun c:eu_GC=>c.1) eY.dflt eu_S d).1,eu_g (ixF 0 (fun c:eu_GC=>c.2.2) (fun c:eu_GC=>c.1) eY.dflt eu_S d).2):=by
 obtain ⟨i,⟨xs,ys,n⟩,r⟩:=d
 show eu_R xs ys n i r=_
 unfold eu_R ixF eu_S
 simp only[eY.lst_els,conj_Y]
 cases decide (i<n) with
 | false=>rfl
 | true=>
  simp only[cond_true]
  generalize (!eqY (xs.getD i.toNat eY.dflt) (ys.getD i.toNat eY.dflt))=z
  cases z <;> rfl
theorem eu_ok:∀ b∈loopsOf Try.prog 87,lkey b=4→LoopOk Try.prog b (eu_C eu_I eu_M).g:=by
 refine eu_loop eu_I eu_M (fun g hi=>?_) (ix_conj_goes (fun _=>rfl) (fun _=>rfl) eu_RF eu_P)
 obtain ⟨xs,ys,n,i,r⟩:=g
 obtain ⟨h1,h2,h3,h4,h5⟩:=hi _ (List.mem_cons_self ..)
 have h1:n=(xs.length:Int):=h1
 have h3:0≤i:=h3
 have h5:xs.length=ys.length:=h5
 show eu_side xs ys n i r
 unfold eu_side
 simp only[decide_eq_true_eq,decide_eq_false_iff_not]
 have k0:∀ e:Nat,e<xs.length→eY.Ok (eY.els xs e):=fun e _=>eY.ok_els xs e
 have k1:∀ e:Nat,e<ys.length→eY.Ok (eY.els ys e):=fun e _=>eY.ok_els ys e
 clear hi
 repeat' (first | exact k0 | exact k1 | apply And.intro | intro _)
 all_goals omega
theorem eu_run (c:eu_GC) (b:eu_GB) (k1:c.2.2=((c.1).length:Int)) (k2:(c.1).length≤maxLen) (k3:eu_K c b 0):loopF eu_RR eu_M (eu_g (0,c,b))=((scan 0 (eu_S c) 0 (c.1) b).1,eu_g ((scan 0 (eu_S c) 0 (c.1) b).2.1,c,(scan 0 (eu_S c) 0 (c.1) b).2.2)):=ix_conj_run (φ:=eu_f) (ψ:=eu_g) (fun _=>rfl) (fun _=>rfl) eu_RF eu_P c b k1 k2 k3
noncomputable def ltU5:LTab Try.prog:=(((((((LTab.nil.cons 66 2 (ka_C ka_I ka_M) ka_ok).cons 66 9 (kb_C kb_I kb_M) kb_ok).cons 109 2 (kr_C kr_I kr_M) kr_ok).cons 67 5 (kc_C kc_I kc_M) kc_ok).cons 27 2 (oa_C oa_I oa_M) oa_ok).cons 30 4 (sm_C sm_I sm_M) sm_ok).cons 87 4 (eu_C eu_I eu_M) eu_ok)
end Go.Proofs.Ytiipneclghnfhaa

namespace Go.Proofs.Ytiipneclghnfhaa
open Go.RowKit Go.Sx Go.Lp
noncomputable def ltU6:LTab Try.prog:=((ltU5.cons 27 10 (ob_C ob_I ob_M) ob_ok).cons 27 17 oc_C2 oc_ok2).cons 27 24 od_C2 od_ok2
noncomputable abbrev lamU6:Lam:=ltU6.lam
theorem lamU6_ok:∀ f k L,lamU6 f k=some L→∀ b∈loopsOf Try.prog f,lkey b=k→LoopOk Try.prog b L.g:=ltU6.ok
end Go.Proofs.Ytiipneclghnfhaa

namespace Go.Proofs.Ytiipneclghnfhaa
open Go.RowKit Go.Sx
set_option maxRecDepth 100000
set_option linter.unusedVariables false
abbrev dLYE:Dv (List Y×Int):=.tup (.cons dLY (.one dI))
abbrev aLLY:DA (List Y×List Y):=.cons dLY (.one dLY)
noncomputable def ychk_q1 (xs:List Y):Ex ×
 ka_G:=
 loopF (fun g=>ka_R g.fst g.snd.fst g.snd.snd.fst g.snd.snd.snd) ka_M (eY.lst xs.length (eY.els xs),(↑xs.length:Int),(0:Int),(0:Int))
noncomputable def ychk_q2 (xs:List Y):Ex ×
 kb_G:=
 loopF (fun g=>kb_R g.fst g.snd.fst g.snd.snd.fst g.snd.snd.snd.fst g.snd.snd.snd.snd) kb_M (eY.lst xs.length (eY.els xs),eY.lst xs.length (eY.els xs),(↑xs.length:Int),(0:Int),(ychk_q1 xs).snd.snd.snd.snd)
noncomputable def ychk_F (xs:List Y):Dv.T dI:=
 bif exB Ex.ret (ychk_q1 xs).fst then (ychk_q1 xs).snd.snd.snd.snd
 else bif exB Ex.ret (ychk_q2 xs).fst then (ychk_q2 xs).snd.snd.snd.snd.snd else (0:Int)
def ychk_side (xs:List Y):Prop:=
 (∀ (e:Nat),e<xs.length→eY.Ok (eY.els xs e))∧Lp.ixJ (fun c=>c.snd) (fun c=>c.fst) ka_K (ka_f (eY.lst xs.length (eY.els xs),(↑xs.length:Int),(0:Int),(0:Int)))∧(exB Ex.ret (ychk_q1 xs).fst=false→(∀ (e:Nat),e<xs.length→eY.Ok (eY.els xs e))∧(∀ (e:Nat),e<xs.length→eY.Ok (eY.els xs e))∧Lp.ixJ (fun c=>c.snd.snd) (fun c=>c.snd.fst) kb_K (kb_f (eY.lst xs.length (eY.els xs),eY.lst xs.length (eY.els xs),(↑xs.length:Int),(0:Int),(ychk_q1 xs).snd.snd.snd.snd)))
theorem ychk_okS (pre:DA.T aLY→List Prop) (h:∀ g,DA.bd aLY g→(∀ p∈pre g,p)→ychk_side g):FnPure Try.prog 66 aLY dI (fun g=>ychk_F g) pre:=pure_of_sideS (Γ:=(MTab.gamz tabU2 [] [])) (Λ:=lamU6) (MTab.okz tabU2 [] []) lamU6_ok 100 default (fun g=>ychk_side g) (fun g=>by kernel_rfl) (fun g=>by kernel_rfl) h
noncomputable def rkt_q1 (xs:List Y):Ex ×
 kr_G:=
 loopF (fun g=>kr_R g.fst g.snd.fst g.snd.snd) kr_M (eY.lst xs.length (eY.els xs),(0:Int),(0:Int))
noncomputable def rkt_F (xs:List Y):Dv.T dI:=
 bif exB Ex.ret (rkt_q1 xs).fst then (rkt_q1 xs).snd.snd.snd else (0:Int)
def rkt_side (xs:List Y):Prop:=
 (∀ (e:Nat),e<xs.length→eY.Ok (eY.els xs e))∧Lp.ixJ (fun c=>(↑(List.length c):Int)) (fun c=>c) kr_K (kr_f (eY.lst xs.length (eY.els xs),(0:Int),(0:Int)))
theorem rkt_okS (pre:DA.T aLY→List Prop) (h:∀ g,DA.bd aLY g→(∀ p∈pre g,p)→rkt_side g):FnPure Try.prog 109 aLY dI (fun g=>rkt_F g) pre:=pure_of_sideS (Γ:=(MTab.gamz tabU2 [] [])) (Λ:=lamU6) (MTab.okz tabU2 [] []) lamU6_ok 100 default (fun g=>rkt_side g) (fun g=>by kernel_rfl) (fun g=>by kernel_rfl) h
noncomputable def smy_q1 (xs:List Y) (ys:List Y):Ex ×
 sm_G:=
 loopF (fun g=>sm_R g.fst g.snd.fst g.snd.snd.fst g.snd.snd.snd) sm_M (eY.lst xs.length (eY.els xs),eY.lst ys.length (eY.els ys),(0:Int),false)
noncomputable def smy_F (xs:List Y) (ys:List Y):Dv.T dBool:=
 bif (↑xs.length:Int) != (↑ys.length:Int) then false
 else bif exB Ex.ret (smy_q1 xs ys).fst then (smy_q1 xs ys).snd.snd.snd.snd else true
def smy_side (xs:List Y) (ys:List Y):Prop:=
 ((↑xs.length:Int) != (↑ys.length:Int))=false→(∀ (e:Nat),e<xs.length→eY.Ok (eY.els xs e))∧(∀ (e:Nat),e<ys.length→eY.Ok (eY.els ys e))∧Lp.ixJ (fun c=>(↑c.fst.length:Int)) (fun c=>c.fst) sm_K (sm_f (eY.lst xs.length (eY.els xs),eY.lst ys.length (eY.els ys),(0:Int),false))
theorem smy_okS (pre:DA.T aLLY→List Prop) (h:∀ g,DA.bd aLLY g→(∀ p∈pre g,p)→smy_side g.1 g.2):FnPure Try.prog 30 aLLY dBool (fun g=>smy_F g.1 g.2) pre:=pure_of_sideS (Γ:=(MTab.gamz tabU2 [] [])) (Λ:=lamU6) (MTab.okz tabU2 [] []) lamU6_ok 100 default (fun g=>smy_side g.1 g.2) (fun g=>by kernel_rfl) (fun g=>by kernel_rfl) h
noncomputable def euy_q1 (xs:List Y) (ys:List Y):Ex ×
 eu_G:=
 loopF (fun g=>eu_R g.fst g.snd.fst g.snd.snd.fst g.snd.snd.snd.fst g.snd.snd.snd.snd) eu_M (eY.lst xs.length (eY.els xs),eY.lst ys.length (eY.els ys),(↑xs.length:Int),(0:Int),false)
noncomputable def euy_F (xs:List Y) (ys:List Y):Dv.T dBool:=
 bif (↑xs.length:Int) != (↑ys.length:Int) then false
 else bif exB Ex.ret (euy_q1 xs ys).fst then (euy_q1 xs ys).snd.snd.snd.snd.snd else true
def euy_side (xs:List Y) (ys:List Y):Prop:=
 ((↑xs.length:Int) != (↑ys.length:Int))=false→(∀ (e:Nat),e<xs.length→eY.Ok (eY.els xs e))∧(∀ (e:Nat),e<ys.length→eY.Ok (eY.els ys e))∧Lp.ixJ (fun c=>c.snd.snd) (fun c=>c.fst) eu_K (eu_f (eY.lst xs.length (eY.els xs),eY.lst ys.length (eY.els ys),(↑xs.length:Int),(0:Int),false))
theorem euy_okS (pre:DA.T aLLY→List Prop) (h:∀ g,DA.bd aLLY g→(∀ p∈pre g,p)→euy_side g.1 g.2):FnPure Try.prog 87 aLLY dBool (fun g=>euy_F g.1 g.2) pre:=pure_of_sideS (Γ:=(MTab.gamz tabU2 [] [])) (Λ:=lamU6) (MTab.okz tabU2 [] []) lamU6_ok 100 default (fun g=>euy_side g.1 g.2) (fun g=>by kernel_rfl) (fun g=>by kernel_rfl) h
noncomputable def yof_q1 (cs:List Nat) (xs:List Y):Ex ×
 oa_G:=
 loopF (fun g=>oa_R g.fst g.snd.fst g.snd.snd.fst g.snd.snd.snd.fst g.snd.snd.snd.snd) oa_M (eY.lst xs.length (eY.els xs),(↑xs.length:Int),(0:Int),(),(0:Int))
noncomputable def yof_q2 (cs:List Nat) (xs:List Y):Ex ×
 ob_G:=
 loopF (fun g=>ob_R g.fst g.snd.fst g.snd.snd.fst g.snd.snd.snd.fst g.snd.snd.snd.snd.fst g.snd.snd.snd.snd.snd.fst g.snd.snd.snd.snd.snd.snd) ob_M (eY.lst xs.length (eY.els xs),(↑xs.length:Int),(0:Int),(),(List.map (fun x=>(T.mk (0:Int) (0:Int) (0:Int) (0:Int) (0:Int) (0:Int),((0:Int),(0:Int)),(0:Int))) (List.range (0:Nat)),(0:Nat)),(),(yof_q1 cs xs).snd.snd.snd.snd.snd)
noncomputable def yof_q3 (cs:List Nat) (xs:List Y):Ex ×
 oc_G:=
 oc_f (hdC cs) ((),(),((eT.ent eM).lst (yof_q2 cs xs).snd.snd.snd.snd.snd.fst.fst.length ((eT.ent eM).els (yof_q2 cs xs).snd.snd.snd.snd.snd.fst.fst),(yof_q2 cs xs).snd.snd.snd.snd.snd.fst.snd),List.map (fun x=>(0:Int)) (List.range (0:Nat)),(yof_q2 cs xs).snd.snd.snd.snd.snd.fst.snd)
noncomputable def yof_q4 (cs:List Nat) (xs:List Y):Ex ×
 od_G:=
 od_f (hdC (tlC cs)) ((),(),((eT.ent eM).lst (yof_q3 cs xs).snd.snd.snd.fst.fst.length ((eT.ent eM).els (yof_q3 cs xs).snd.snd.snd.fst.fst),(yof_q3 cs xs).snd.snd.snd.fst.snd),(List.map (fun x=>(0:Int)) (List.range (0:Nat)),(yof_q3 cs xs).snd.snd.snd.fst.snd),[],(),(yof_q2 cs xs).snd.snd.snd.snd.snd.snd.snd)
noncomputable def yof_F (cs:List Nat) (xs:List Y):Dv.T dLYE:=
 bif exB Ex.ret (yof_q1 cs xs).fst then ([],(yof_q1 cs xs).snd.snd.snd.snd.snd)
 else bif exB Ex.ret (yof_q2 cs xs).fst then ([],(yof_q2 cs xs).snd.snd.snd.snd.snd.snd.snd) else bif exB (Ex.exit (6:Nat)) (yof_q4 cs xs).fst then (eY.lst (yof_q4 cs xs).snd.snd.snd.snd.snd.fst.length (ElE.fn (eY.els (srtBy cfY (eY.lst (yof_q4 cs xs).snd.snd.snd.snd.snd.fst.length (eY.els (yof_q4 cs xs).snd.snd.snd.snd.snd.fst))))).at,(0:Int)) else ([],(yof_q4 cs xs).snd.snd.snd.snd.snd.snd.snd)
def yof_side (cs:List Nat) (xs:List Y):Prop:=
 (∀ (e:Nat),e<xs.length→eY.Ok (eY.els xs e))∧Lp.ixJ (fun c=>c.snd) (fun c=>c.fst) oa_K (oa_f (eY.lst xs.length (eY.els xs),(↑xs.length:Int),(0:Int),(),(0:Int)))∧(exB Ex.ret (yof_q1 cs xs).fst=false→(∀ (e:Nat),e<xs.length→eY.Ok (eY.els xs e))∧(∀ (e:Nat),e<(0:Nat)→True)∧Lp.ixJ (fun c=>c.snd) (fun c=>c.fst) ob_K (ob_f (eY.lst xs.length (eY.els xs),(↑xs.length:Int),(0:Int),(),(List.map (fun x=>(T.mk (0:Int) (0:Int) (0:Int) (0:Int) (0:Int) (0:Int),((0:Int),(0:Int)),(0:Int))) (List.range (0:Nat)),(0:Nat)),(),(yof_q1 cs xs).snd.snd.snd.snd.snd))∧(exB Ex.ret (yof_q2 cs xs).fst=false→(∀ (e:Nat),e<(yof_q2 cs xs).snd.snd.snd.snd.snd.fst.fst.length→True)∧(yof_q2 cs xs).snd.snd.snd.snd.snd.fst.snd=(yof_q2 cs xs).snd.snd.snd.snd.snd.fst.snd∧(∀ (e:Nat),e<(0:Nat)→True)∧mapI ((eT.ent eM).lst (yof_q2 cs xs).snd.snd.snd.snd.snd.fst.fst.length ((eT.ent eM).els (yof_q2 cs xs).snd.snd.snd.snd.snd.fst.fst),(yof_q2 cs xs).snd.snd.snd.snd.snd.fst.snd) (List.map (fun x=>(0:Int)) (List.range (0:Nat)),(yof_q2 cs xs).snd.snd.snd.snd.snd.fst.snd)∧(∀ (e:Nat),e<(yof_q3 cs xs).snd.snd.snd.fst.fst.length→True)∧(yof_q3 cs xs).snd.snd.snd.fst.snd=(yof_q3 cs xs).snd.snd.snd.fst.snd∧(∀ (e:Nat),e<(0:Nat)→True)∧(mapI ((eT.ent eM).lst (yof_q3 cs xs).snd.snd.snd.fst.fst.length ((eT.ent eM).els (yof_q3 cs xs).snd.snd.snd.fst.fst),(yof_q3 cs xs).snd.snd.snd.fst.snd) (List.map (fun x=>(0:Int)) (List.range (0:Nat)),(yof_q3 cs xs).snd.snd.snd.fst.snd)∧(0:Nat)+(Lp.left ((eT.ent eM).lst (yof_q3 cs xs).snd.snd.snd.fst.fst.length ((eT.ent eM).els (yof_q3 cs xs).snd.snd.snd.fst.fst)) (List.map (fun x=>(0:Int)) (List.range (0:Nat)))).length≤KS)∧(exB (Ex.exit (6:Nat)) (yof_q4 cs xs).fst=true→(yof_q4 cs xs).snd.snd.snd.snd.snd.fst.length=(yof_q4 cs xs).snd.snd.snd.snd.snd.fst.length∧(∀ (e:Nat),e<(yof_q4 cs xs).snd.snd.snd.snd.snd.fst.length→True)∧(eY.lst (yof_q4 cs xs).snd.snd.snd.snd.snd.fst.length (eY.els (yof_q4 cs xs).snd.snd.snd.snd.snd.fst)).length<(4611686018427387904:Nat)∧Anti cfY (eY.lst (yof_q4 cs xs).snd.snd.snd.snd.snd.fst.length (eY.els (yof_q4 cs xs).snd.snd.snd.snd.snd.fst))∧(yof_q4 cs xs).snd.snd.snd.snd.snd.fst.length≤(srtBy cfY (eY.lst (yof_q4 cs xs).snd.snd.snd.snd.snd.fst.length (eY.els (yof_q4 cs xs).snd.snd.snd.snd.snd.fst))).length∧∀ (e:Nat),e<(yof_q4 cs xs).snd.snd.snd.snd.snd.fst.length→eY.Ok ((ElE.fn (eY.els (srtBy cfY (eY.lst (yof_q4 cs xs).snd.snd.snd.snd.snd.fst.length (eY.els (yof_q4 cs xs).snd.snd.snd.snd.snd.fst))))).at e))))
theorem yof_okA (fn:DA.T aLY→Dv.T dLYE) (pre:DA.T aLY→List Prop) (h:∀ cs g,DA.bd aLY g→(∀ p∈pre g,p)→yof_side cs g∧yof_F cs g=fn g):FnPure Try.prog 27 aLY dLYE fn pre:=pure_of_sideA (Γ:=(MTab.gamz tabU2 [] [])) (Λ:=lamU6) (MTab.okz tabU2 [] []) lamU6_ok 100 default (fun cs g=>yof_side cs g) (fun cs g=>yof_F cs g) (fun cs g=>by kernel_rfl) (fun cs g=>by kernel_rfl) h
end Go.Proofs.Ytiipneclghnfhaa

namespace Go.Proofs.Ytiipneclghnfhaa
open Go.RowKit Go.Sx Go.Lp
theorem wrS {x:Int} (h:-9223372036854775808≤x∧x≤9223372036854775807):IntKind.i64.wrap x=x:=by
 have:=IntKind.wrap_i64 x
 omega
def sval (s:I2):Int:=2199023255552 * s.1+s.2
def sOk (k:Int) (s:I2):Prop:=-k≤s.1∧s.1≤k∧-2199023255552<s.2∧s.2<2199023255552
theorem sad_val {s:I2} {n k:Int} (h:sOk k s) (hk:k≤1000000) (h1:-1099511627776≤n) (h2:n≤1099511627776):sval (sad_F s n)=sval s+n∧sOk (k+1) (sad_F s n):=by
 obtain ⟨a1,a2,a3,a4⟩:=h
 unfold sad_F sval sOk
 rw[wrS (x:=s.snd+n) (by omega)]
 have e:=Int.mul_tdiv_add_tmod (s.snd+n) 2199023255552
 have b1:=Int.tmod_lt_of_pos (s.snd+n) (b:=2199023255552) (by decide)
 have b2:=Int.lt_tmod_of_pos (s.snd+n) (b:=2199023255552) (by decide)
 have b3:((s.snd+n).tdiv 2199023255552).natAbs=(s.snd+n).natAbs / 2199023255552:=Int.natAbs_tdiv ..
 generalize (s.snd+n).tdiv 2199023255552=q at e b3 ⊢
 generalize (s.snd+n).tmod 2199023255552=r at e b1 b2 ⊢
 rw[wrS (x:=q) (by omega),wrS (by omega)]
 simp only
 omega
theorem ywi_iff (n:Int):ywi_F n=true↔-1099511627776≤n∧n≤1099511627776:=by
 unfold ywi_F
 simp
theorem swh_val {s:I2} {k:Int} (h:sOk k s) (hk:k≤1000000):(swh_F s).2=ywi_F (sval s)∧((swh_F s).2=true→(swh_F s).1=sval s):=by
 obtain ⟨a1,a2,a3,a4⟩:=h
 unfold swh_F
 by_cases hc:s.fst < -2∨s.fst > 2
 ·have:(decide (s.fst<(-2:Int))||decide (s.fst > (2:Int)))=true:=by simpa using hc
  rw[this]
  simp only[cond_true]
  refine ⟨?_,fun h=>by cases h⟩
  symm
  rw[Bool.eq_false_iff]
  intro h
  have:=(ywi_iff _).1 h
  unfold sval at this
  omega
 ·have:(decide (s.fst<(-2:Int))||decide (s.fst > (2:Int)))=false:=by
   rw[Bool.eq_false_iff];simpa using hc
  rw[this]
  simp only[cond_false]
  have hc1:-2≤s.fst∧s.fst≤2:=by omega
  rw[wrS (x:=2199023255552 * s.fst) (by omega),wrS (by omega)]
  exact ⟨rfl,fun _=>rfl⟩
theorem oc_val {e:ME} {k:Int} (h:sOk k e.2.1) (hk:k≤1000000):oc_p e=decide (sval e.2.1=0):=by
 obtain ⟨h1,h2⟩:=swh_val h hk
 unfold oc_p
 cases hb:(swh_F e.2.1).2 with
 | false=>
  rw[hb] at h1
  rw[Bool.false_and]
  symm
  rw[decide_eq_false_iff_not]
  intro h3
  rw[h3] at h1
  cases h1
 | true=>
  rw[h2 hb,Bool.true_and]
  rw[Bool.eq_iff_iff];simp
noncomputable abbrev accY (xs:List Y) (t:T):I2:=accK Y.t Y.n sad_F (0,0) xs t
abbrev sumY (xs:List Y) (t:T):Int:=sumK Y.t Y.n xs t
theorem acc_val':∀ (xs:List Y) (s:I2) (k:Int) (t:T),sOk k s→k+xs.length≤1000000→(∀ x∈xs,ywi_F x.n=true)→sval ((xs.filter fun x=>decide (x.t=t)).foldl (fun b x=>sad_F b x.n) s)=sval s+sumK Y.t Y.n xs t∧sOk (k+xs.length) ((xs.filter fun x=>decide (x.t=t)).foldl (fun b x=>sad_F b x.n) s)
 | [],s,k,t,h,_,_=>by
  refine ⟨by simp[sumK],?_⟩
  simpa using h
 | x :: xs,s,k,t,h,hk,hx=>by
  have hxk:k+(xs.length:Int)+1≤1000000:=by simp at hk;omega
  have hw:=(ywi_iff _).1 (hx x (List.mem_cons_self ..))
  by_cases ht:x.t=t
  ·have h1:=sad_val h (by omega) hw.1 hw.2
   obtain ⟨h2,h3⟩:=acc_val' xs (sad_F s x.n) (k+1) t h1.2 (by omega) fun y hy=>hx y (List.mem_cons_of_mem _ hy)
   rw[List.filter_cons,if_pos (by simpa using ht),List.foldl_cons]
   refine ⟨?_,?_⟩
   ·rw[h2,h1.1]
    simp only[sumK,ht,if_true]
    omega
   ·rw[List.length_cons,show k+((xs.length+1:Nat):Int)=k+1+xs.length by omega];exact h3
  ·obtain ⟨h2,h3⟩:=acc_val' xs s k t h (by omega) fun y hy=>hx y (List.mem_cons_of_mem _ hy)
   rw[List.filter_cons,if_neg (by simpa using ht)]
   refine ⟨?_,?_⟩
   ·rw[h2]
    simp only[sumK,ht,if_false]
    omega
   ·obtain ⟨b1,b2,b3⟩:=h3
    rw[List.length_cons]
    exact ⟨by omega,by omega,b3⟩
theorem acc_val {xs:List Y} (t:T) (h:xs.length≤1000000) (hx:∀ x∈xs,ywi_F x.n=true):sval (accY xs t)=sumY xs t∧sOk xs.length (accY xs t):=by
 have:=acc_val' xs (0,0) 0 t ⟨by decide,by decide,by decide,by decide⟩ (by omega) hx
 have h0:sval ((0,0):I2)=0:=rfl
 rw[h0,Int.zero_add,Int.zero_add] at this
 exact this
noncomputable def totY (xs:List Y):List Y:=totK Y.t Y.n Y.mk (fun a b=>tcmp_F a b) xs
theorem yext (a b:Y) (h1:a.t=b.t) (h2:a.n=b.n):a=b:=by cases a;cases b;simp_all
theorem totY_mem (xs:List Y) (y:Y):y∈totY xs↔(∃ x∈xs,x.t=y.t)∧y.n=sumY xs y.t:=totK_mem Y.t Y.n toT (fun _ _=>rfl) (fun _ _=>rfl) yext xs y
theorem totY_srt (xs:List Y):Srt Y.t (fun a b=>tcmp_F a b) (totY xs):=totK_srt Y.t Y.n toT (fun _ _=>rfl) (fun _ _=>rfl) xs
noncomputable def ofY (xs:List Y):List Y×Int:=bif xs.any (fun v=>tcheck_F v.t != 0) then ([],10) else bif xs.any (fun v=>!ywi_F v.n) then ([],40) else bif (totY xs).any (fun v=>!ywi_F v.n) then ([],40) else ((totY xs).filter (fun v=>v.n != 0),0)
noncomputable def mapY (xs:List Y):List ME×Nat:=xs.foldl mputY ([],0)
theorem mapY_of (xs:List Y):MapOf Y.t Y.n sad_F (0,0) xs (mapY xs):=mapOf_all Y.t Y.n sad_F (0,0) dE xs
theorem mapY_len (xs:List Y):(mapY xs).1.length≤xs.length:=by
 have:=map_len Y.t Y.n sad_F (0,0) dE xs ([],0)
 have h0:(([],0):List ME×Nat).1.length=0:=rfl
 rw[h0,Nat.zero_add] at this
 exact this
noncomputable def resY (xs:List Y):List ME:=(mapY xs).1.filter fun x=>!oc_p x
theorem resY_mem {xs:List Y} (h:xs.length≤1000000) (hx:∀ x∈xs,ywi_F x.n=true) {e:ME} (he:e∈resY xs):(∃ x∈xs,x.t=e.1)∧sval e.2.1=sumY xs e.1∧sumY xs e.1≠0∧sOk xs.length e.2.1:=by
 obtain ⟨hb,hk,h1,h2⟩:=mapY_of xs
 obtain ⟨he,hp⟩:=List.mem_filter.1 he
 have h3:=acc_val e.1 h hx
 rw[show accY xs e.1=e.2.1 from (h2 e he).symm] at h3
 rw[oc_val h3.2 (by omega)] at hp
 refine ⟨(h1 _).1 ⟨e,he,rfl⟩,h3.1,?_,h3.2⟩
 rw[← h3.1]
 simpa using hp
theorem resY_has {xs:List Y} (h:xs.length≤1000000) (hx:∀ x∈xs,ywi_F x.n=true) {t:T} (ht:∃ x∈xs,x.t=t) (hn:sumY xs t≠0):∃ e∈resY xs,e.1=t:=by
 obtain ⟨hb,hk,h1,h2⟩:=mapY_of xs
 obtain ⟨e,he,he'⟩:=(h1 t).2 ht
 have h3:=acc_val e.1 h hx
 rw[show accY xs e.1=e.2.1 from (h2 e he).symm] at h3
 refine ⟨e,List.mem_filter.2 ⟨he,?_⟩,he'⟩
 rw[oc_val h3.2 (by omega)]
 rw[he'] at h3
 rw[h3.1]
 simpa using hn
theorem foldl_fst {α β γ:Type} (f:α→β→α):∀ (l:List β) (a:α) (c:γ),l.foldl (fun b x=>(f b.1 x,b.2)) (a,c)=(l.foldl f a,c)
 | [],_,_=>rfl
 | _ :: l,a,c=>foldl_fst f l _ c
theorem foldl_snoc {α β γ:Type} (f:β→α):∀ (l:List β) (a:List α) (c:γ),l.foldl (fun b x=>(b.1++[f x],b.2)) (a,c)=(a++l.map f,c)
 | [],a,c=>by simp
 | x :: l,a,c=>by
  rw[List.foldl_cons,foldl_snoc f l]
  simp
theorem left_nil {α β:Type} (mp:List (MpE α β)):left mp []=mp:=by
 unfold left
 rw[List.filter_eq_self]
 intro a _;rfl
theorem rest_eq {xs:List Y} (h:xs.length≤1000000) (hx:∀ x∈xs,ywi_F x.n=true) {l:List ME} (hl:l.Perm (resY xs)) (hok:l.any (fun e=>!(swh_F e.2.1).2)=false) :
  srtBy cfY (l.map fun e=>(⟨e.1,(swh_F e.2.1).1⟩:Y))=(totY xs).filter (fun v=>v.n != 0)∧Anti cfY (l.map fun e=>(⟨e.1,(swh_F e.2.1).1⟩:Y)):=by
 obtain ⟨hb,hk,h1,h2⟩:=mapY_of xs
 have hkd:l.Pairwise fun a b=>a.1≠b.1:=(List.Perm.pairwise_iff (fun h=>Ne.symm h) hl).2 (kd_filter hk _)
 have hkm:(l.map fun e=>(⟨e.1,(swh_F e.2.1).1⟩:Y)).Pairwise fun a b=>a.t≠b.t:=List.pairwise_map.2 hkd
 have hv:∀ e∈l,(swh_F e.2.1).1=sumY xs e.1:=fun e he=>by
  obtain ⟨_,q2,_,q4⟩:=resY_mem h hx (hl.mem_iff.1 he)
  obtain ⟨r1,r2⟩:=swh_val q4 (by omega)
  have:(swh_F e.2.1).2=true:=by
   rw[List.any_eq_false] at hok
   simpa using hok e he
  rw[r2 this,q2]
 refine ⟨srt_unique Y.t Y.n (fun a b=>tcmp_F a b) toT yext ?_ ?_ fun y=>?_,fun x hxm y hym k1 k2=>?_⟩
 ·have hs:=srtBy_sorted cfY swoY (l.map fun e=>(⟨e.1,(swh_F e.2.1).1⟩:Y))
  have hd:(srtBy cfY (l.map fun e=>(⟨e.1,(swh_F e.2.1).1⟩:Y))).Pairwise fun a b=>a.t≠b.t:=(List.Perm.pairwise_iff (fun h=>Ne.symm h) (srtBy_perm cfY _)).2 hkm
  exact (hs.and hd).imp fun {a b} hab=>Classical.byContradiction fun hn=>by
   have:=toT.lt_or hab.2 hn
   exact hab.1 this
 ·exact (totY_srt xs).sublist List.filter_sublist
 ·rw[(srtBy_perm cfY _).mem_iff,List.mem_map,List.mem_filter,totY_mem]
  constructor
  ·rintro ⟨e,he,rfl⟩
   obtain ⟨q1,q2,q3,_⟩:=resY_mem h hx (hl.mem_iff.1 he)
   exact ⟨⟨q1,hv e he⟩,by simpa [hv e he] using q3⟩
  ·rintro ⟨⟨q1,q2⟩,q3⟩
   have q3:y.n≠0:=by simpa using q3
   obtain ⟨e,he,het⟩:=resY_has h hx q1 (by rw[← q2];exact q3)
   refine ⟨e,hl.mem_iff.2 he,yext _ _ het ?_⟩
   show (swh_F e.2.1).1=y.n
   rw[hv e (hl.mem_iff.2 he),het,q2]
 ·have ht:x.t=y.t:=toT.anti _ _ k1 k2
  obtain ⟨a,ha,rfl⟩:=List.mem_map.1 hxm
  obtain ⟨b,hb',rfl⟩:=List.mem_map.1 hym
  have ht:a.1=b.1:=ht
  refine yext _ _ ht ?_
  show (swh_F a.2.1).1=(swh_F b.2.1).1
  rw[hv a ha,hv b hb',ht]
theorem rest_bad {xs:List Y} (h:xs.length≤1000000) (hx:∀ x∈xs,ywi_F x.n=true) {l:List ME} (hl:l.Perm (resY xs)):l.any (fun e=>!(swh_F e.2.1).2)=(totY xs).any fun v=>!ywi_F v.n:=by
 rw[hl.any_eq,Bool.eq_iff_iff,List.any_eq_true,List.any_eq_true]
 constructor
 ·rintro ⟨e,he,hb⟩
  obtain ⟨q1,q2,_,q4⟩:=resY_mem h hx he
  refine ⟨⟨e.1,sumY xs e.1⟩,(totY_mem _ _).2 ⟨q1,rfl⟩,?_⟩
  rw[(swh_val q4 (by omega)).1,q2] at hb
  exact hb
 ·rintro ⟨y,hy,hb⟩
  obtain ⟨q1,q2⟩:=(totY_mem _ _).1 hy
  have q3:sumY xs y.t≠0:=fun h0=>by
   rw[q2,h0] at hb
   cases hb
  obtain ⟨e,he,het⟩:=resY_has h hx q1 q3
  obtain ⟨_,r2,_,r4⟩:=resY_mem h hx he
  refine ⟨e,he,?_⟩
  rw[(swh_val r4 (by omega)).1,r2,het,← q2]
  exact hb
end Go.Proofs.Ytiipneclghnfhaa

namespace Go.Proofs.Ytiipneclghnfhaa
open Go.RowKit Go.Sx Go.Lp
theorem okY (xs:List Y):∀ e:Nat,e<xs.length→eY.Ok (eY.els xs e):=fun e _=>eY.ok_els xs e
theorem tc10 {t:T} (h:(tcheck_F t != (0:Int))=true):tcheck_F t=10:=by
 rcases tcheck_or t with h1 | h1
 ·rw[h1] at h;cases h
 ·exact h1
theorem yof_q1_eq (cs:List Nat) (xs:List Y) (h:xs.length≤KS):(xs.any (fun v=>tcheck_F v.t != 0)=true∧(yof_q1 cs xs).1=.ret∧(yof_q1 cs xs).2.2.2.2.2=10)∨(xs.any (fun v=>tcheck_F v.t != 0)=false∧(yof_q1 cs xs).1=.exit 0∧(yof_q1 cs xs).2.2.2.2.2=0):=by
 have hm:xs.length≤maxLen:=Nat.le_trans h (by decide)
 have hr:=oa_run (xs,(xs.length:Int)) ((),(0:Int)) rfl hm trivial
 have h1:yof_q1 cs xs=loopF oa_RR oa_M (oa_g (0,(xs,(xs.length:Int)),((),(0:Int)))):=by
  unfold yof_q1
  rw[eY.lst_els]
  rfl
 rw[hr] at h1
 rcases search (x:=0) (st:=oa_S (xs,(xs.length:Int))) (p:=fun v=>tcheck_F v.t != 0) (r:=fun _ v _=>((),tcheck_F v.t)) (fun _ _ _=>rfl) xs ((),(0:Int)) with ⟨ha,j,hj,a,haa,hp,h2⟩ | ⟨ha,h2⟩
 ·have h2:scan 0 (oa_S (xs,(xs.length:Int))) 0 xs ((),(0:Int))=_:=h2
  refine .inl ⟨ha,?_,?_⟩
  ·rw[h1];show (scan 0 (oa_S (xs,(xs.length:Int))) 0 xs ((),(0:Int))).1=_;rw[h2]
  ·rw[h1];show (scan 0 (oa_S (xs,(xs.length:Int))) 0 xs ((),(0:Int))).2.2.2=_;rw[h2];exact tc10 hp
 ·have h2:scan 0 (oa_S (xs,(xs.length:Int))) 0 xs ((),(0:Int))=_:=h2
  refine .inr ⟨ha,?_,?_⟩
  ·rw[h1];show (scan 0 (oa_S (xs,(xs.length:Int))) 0 xs ((),(0:Int))).1=_;rw[h2]
  ·rw[h1];show (scan 0 (oa_S (xs,(xs.length:Int))) 0 xs ((),(0:Int))).2.2.2=_;rw[h2]
theorem yof_q2_eq (cs:List Nat) (xs:List Y) (h:xs.length≤KS):(xs.any (fun v=>!ywi_F v.n)=true∧(yof_q2 cs xs).1=.ret∧(yof_q2 cs xs).2.2.2.2.2.2.2=40)∨(xs.any (fun v=>!ywi_F v.n)=false∧(yof_q2 cs xs).1=.exit 2∧(yof_q2 cs xs).2.2.2.2.2.1=mapY xs):=by
 have hm:xs.length≤maxLen:=Nat.le_trans h (by decide)
 have hr:=ob_run (xs,(xs.length:Int)) (([],0),(yof_q1 cs xs).snd.snd.snd.snd.snd) rfl hm
 have h1:yof_q2 cs xs=loopF ob_RR ob_M (ob_g (0,(xs,(xs.length:Int)),(([],0),(yof_q1 cs xs).snd.snd.snd.snd.snd))):=by
  unfold yof_q2
  rw[eY.lst_els]
  rfl
 rw[hr] at h1
 generalize (yof_q1 cs xs).snd.snd.snd.snd.snd=r0 at h1
 rcases scan_bad (x:=2) (st:=ob_S (xs,(xs.length:Int))) (e:=.ret) (p:=fun v:Y=>!ywi_F v.n) (r:=fun _ b=>(b.1,(40:Int))) (f:=fun b v=>(mputY b.1 v,b.2)) (by simp) (fun _ _ _=>rfl) xs 0 (([],0),r0) with ⟨ha,h2,a,b',_,_,h3⟩ | ⟨ha,h2⟩
 ·refine .inl ⟨ha,?_,?_⟩
  ·rw[h1];exact h2
  ·rw[h1];show (scan 2 (ob_S (xs,(xs.length:Int))) 0 xs (([],0),r0)).2.2.2=_;rw[h3]
 ·refine .inr ⟨ha,?_,?_⟩
  ·rw[h1];show (scan 2 (ob_S (xs,(xs.length:Int))) 0 xs (([],0),r0)).1=_;rw[h2]
  ·rw[h1];show (scan 2 (ob_S (xs,(xs.length:Int))) 0 xs (([],0),r0)).2.2.1=_;rw[h2]
   show (xs.foldl (fun b v=>(mputY b.1 v,b.2)) (([],0),r0)).1=_
   rw[foldl_fst];rfl
theorem yof_q3_eq (cs:List Nat) (xs:List Y) (h:(yof_q2 cs xs).2.2.2.2.2.1=mapY xs):(yof_q3 cs xs).2.2.2.1=(resY xs,(mapY xs).2):=by
 unfold yof_q3 oc_f oc_up
 simp only[El.lst_els]
 rw[h]
 show (dfin oc_p (mapY xs).1 [],_)=_
 rw[dfin_nil]
 rfl
theorem yof_q4_eq (cs:List Nat) (xs:List Y) (h:(yof_q3 cs xs).2.2.2.1=(resY xs,(mapY xs).2)):(yof_q4 cs xs).1=(scanM 6 od_S (permC (resY xs).length (hdC (tlC cs)) (resY xs)) ([],(yof_q2 cs xs).2.2.2.2.2.2.2)).1∧((yof_q4 cs xs).2.2.2.2.2.1,(yof_q4 cs xs).2.2.2.2.2.2.2)=(scanM 6 od_S (permC (resY xs).length (hdC (tlC cs)) (resY xs)) ([],(yof_q2 cs xs).2.2.2.2.2.2.2)).2:=by
 unfold yof_q4 od_f od_up od_q
 simp only[El.lst_els]
 rw[h]
 have:left (resY xs) (List.map (fun _=>(0:Int)) (List.range 0))=resY xs:=left_nil _
 simp only[this]
 exact ⟨trivial,trivial⟩
theorem yof_eq (cs:List Nat) (xs:List Y) (h:xs.length≤KS):yof_side cs xs∧yof_F cs xs=ofY xs:=by
 have hm:xs.length≤maxLen:=Nat.le_trans h (by decide)
 unfold yof_side yof_F ofY
 rcases yof_q1_eq cs xs h with ⟨ha,e1,e2⟩ | ⟨ha,e1,e2⟩
 ·rw[e1,e2,ha]
  refine ⟨⟨okY xs,?_,fun hc=>by cases hc⟩,rfl⟩
  rw[eY.lst_els]
  exact ixJ0 rfl hm trivial
 rw[e1,ha]
 have hs2:Lp.ixJ (fun c=>c.snd) (fun c=>c.fst) ob_K (ob_f (eY.lst xs.length (eY.els xs),(↑xs.length:Int),(0:Int),(),(List.map (fun _=>(T.mk (0:Int) (0:Int) (0:Int) (0:Int) (0:Int) (0:Int),((0:Int),(0:Int)),(0:Int))) (List.range (0:Nat)),(0:Nat)),(),(yof_q1 cs xs).snd.snd.snd.snd.snd)):=by
  rw[eY.lst_els]
  exact ixJ0 rfl hm trivial
 have hs1:Lp.ixJ (fun c=>c.snd) (fun c=>c.fst) oa_K (oa_f (eY.lst xs.length (eY.els xs),(↑xs.length:Int),(0:Int),(),(0:Int))):=by
  rw[eY.lst_els]
  exact ixJ0 rfl hm trivial
 rcases yof_q2_eq cs xs h with ⟨hb,f1,f2⟩ | ⟨hb,f1,f2⟩
 ·rw[f1,f2,hb]
  exact ⟨⟨okY xs,hs1,fun _=>⟨okY xs,fun _ _=>trivial,hs2,fun hc=>by cases hc⟩⟩,rfl⟩
 rw[f1,hb]
 have hx:∀ x∈xs,ywi_F x.n=true:=fun x hxm=>by
  rw[List.any_eq_false] at hb
  simpa using hb x hxm
 have hk:xs.length≤1000000:=h
 have g3:=yof_q3_eq cs xs f2
 obtain ⟨g4,g5⟩:=yof_q4_eq cs xs g3
 have hperm:(permC (resY xs).length (hdC (tlC cs)) (resY xs)).Perm (resY xs):=permC_perm _ _ _ rfl
 have hmI:mapI (mapY xs) ([],(mapY xs).2):=⟨(mapY_of xs).1,(mapY_of xs).2.1,rfl⟩
 have hmI2:mapI (resY xs,(mapY xs).2) ([],(mapY xs).2):=⟨bn_filter (mapY_of xs).1 _,kd_filter (mapY_of xs).2.1 _,rfl⟩
 have hlen:(resY xs).length≤KS:=Nat.le_trans (List.length_filter_le _ _) (Nat.le_trans (mapY_len xs) h)
 simp only[El.lst_els] at hs1 hs2 ⊢
 rw[f2,g3]
 generalize hr:(yof_q2 cs xs).2.2.2.2.2.2.2=r0 at g4 g5
 have hsd:=scanM_bad (x:=6) (st:=od_S) (ex:=.ret) (p:=fun e:ME=>!(swh_F e.2.1).2) (r:=fun _ b=>(b.1,(40:Int))) (f:=fun b e=>(b.1++[(⟨e.1,(swh_F e.2.1).1⟩:Y)],b.2)) (by simp) (fun _ _=>rfl) (permC (resY xs).length (hdC (tlC cs)) (resY xs)) ([],r0)
 have hbad:=rest_bad hk hx hperm
 rcases hsd with ⟨hc,a,b',_,_,h2⟩ | ⟨hc,h2⟩
 ·rw[h2] at g4 g5
  simp only[Prod.mk.injEq] at g4 g5
  rw[g4,g5.2,← hbad,hc]
  refine ⟨⟨okY xs,hs1,fun _=>⟨okY xs,fun _ _=>trivial,hs2,fun _=>⟨fun _ _=>trivial,trivial,fun _ _=>trivial,hmI,fun _ _=>trivial,trivial,fun _ _=>trivial,⟨hmI2,?_⟩,fun hc=>by cases hc⟩⟩⟩,rfl⟩
  show 0+(left (resY xs) []).length≤KS
  rw[left_nil,Nat.zero_add];exact hlen
 ·rw[foldl_snoc] at h2
  rw[h2] at g4 g5
  simp only[Prod.mk.injEq,List.nil_append] at g4 g5
  obtain ⟨k1,k2⟩:=rest_eq hk hx hperm hc
  rw[g4,g5.1,← hbad,hc]
  have hl4:((permC (resY xs).length (hdC (tlC cs)) (resY xs)).map fun e:ME=>(⟨e.1,(swh_F e.2.1).1⟩:Y)).length≤1000000:=by
   rw[List.length_map,hperm.length_eq];exact hlen
  have hls:(srtBy cfY ((permC (resY xs).length (hdC (tlC cs)) (resY xs)).map fun e:ME=>(⟨e.1,(swh_F e.2.1).1⟩:Y))).length=((permC (resY xs).length (hdC (tlC cs)) (resY xs)).map fun e:ME=>(⟨e.1,(swh_F e.2.1).1⟩:Y)).length:=(srtBy_perm cfY _).length_eq
  refine ⟨⟨okY xs,hs1,fun _=>⟨okY xs,fun _ _=>trivial,hs2,fun _=>⟨fun _ _=>trivial,trivial,fun _ _=>trivial,hmI,fun _ _=>trivial,trivial,fun _ _=>trivial,⟨hmI2,?_⟩,fun _=>⟨trivial,fun _ _=>trivial,Nat.lt_of_le_of_lt hl4 (by omega),k2,Nat.le_of_eq hls.symm,fun e _=>eY.ok_els _ e⟩⟩⟩⟩,?_⟩
  ·show 0+(left (resY xs) []).length≤KS
   rw[left_nil,Nat.zero_add];exact hlen
  ·simp only[exB,cond_false,cond_true]
   show (eY.lst _ (eY.els (srtBy cfY _)),(0:Int))=_
   rw[← hls,eY.lst_els,k1]
theorem yof_ok:FnPure Try.prog 27 aLY dLYE ofY (fun g=>[g.length≤KS]):=
 yof_okA ofY _ fun cs g _ hp=>yof_eq cs g (hp _ (List.mem_cons_self ..))
end Go.Proofs.Ytiipneclghnfhaa

namespace Go.Proofs.Ytiipneclghnfhaa
open Go.RowKit Go.Sx Go.Lp
noncomputable def badP (xs:List Y) (i:Int) (v:Y):Bool:=v.n==(0:Int)||(!ywi_F v.n||decide (i > (0:Int))&&decide (tcmp_F (xs.getD (IntKind.i64.wrap (i - (1:Int))).toNat eY.dflt).t v.t≥(0:Int)))
noncomputable def badAt (xs:List Y):Bool:=(List.range xs.length).any fun i=>badP xs i (xs.getD i eY.dflt)
noncomputable def chkY (xs:List Y):Int:=bif xs.any (fun v=>tcheck_F v.t != 0) then 10 else bif badAt xs then 40 else 0
theorem badAt_of {xs:List Y} {n:Nat} {a:Y} (h:xs[n]?=some a) (hp:badP xs n a=true):badAt xs=true:=by
 have hn:n<xs.length:=(List.getElem?_eq_some_iff.1 h).1
 unfold badAt
 rw[List.any_eq_true]
 refine ⟨n,List.mem_range.2 hn,?_⟩
 rw[List.getD_eq_getElem?_getD,h];exact hp
theorem badAt_no {xs:List Y} (h:∀ (n:Nat) (a:Y),xs[n]?=some a→badP xs n a=false):badAt xs=false:=by
 unfold badAt
 rw[List.any_eq_false]
 intro n hn
 have hn:=List.mem_range.1 hn
 rw[h n (xs.getD n eY.dflt) (by rw[List.getD_eq_getElem?_getD,List.getElem?_eq_getElem hn];rfl)]
 decide
theorem ychk_eq (xs:List Y) (hm:xs.length≤maxLen):ychk_F xs=chkY xs∧ychk_side xs:=by
 unfold ychk_F ychk_side chkY ychk_q2 ychk_q1
 simp only[eY.lst_els]
 have h1:loopF (fun g:ka_G=>ka_R g.1 g.2.1 g.2.2.1 g.2.2.2) ka_M (xs,(xs.length:Int),0,0)=_:=ka_run (xs,(xs.length:Int)) (0:Int) rfl hm trivial
 rw[h1]
 have h2:∀ r0:Int,loopF (fun g:kb_G=>kb_R g.1 g.2.1 g.2.2.1 g.2.2.2.1 g.2.2.2.2) kb_M (xs,xs,(xs.length:Int),0,r0)=_:=fun r0=>kb_run (xs,xs,(xs.length:Int)) r0 rfl hm rfl
 rw[h2]
 rcases search (x:=0) (st:=ka_S (xs,(xs.length:Int))) (p:=fun v=>tcheck_F v.t != 0) (r:=fun _ v _=>tcheck_F v.t) (fun _ _ _=>rfl) xs 0 with ⟨ha,j,hj,a,haa,hp,h3⟩ | ⟨ha,h3⟩
 ·have h3:scan 0 (ka_S (xs,(xs.length:Int))) 0 xs 0=_:=h3
  rw[h3,ha]
  exact ⟨tc10 hp,okY xs,ixJ0 rfl hm trivial,fun hc=>by cases hc⟩
 ·have h3:scan 0 (ka_S (xs,(xs.length:Int))) 0 xs 0=_:=h3
  rw[h3,ha]
  refine ⟨?_,okY xs,ixJ0 rfl hm trivial,fun _=>⟨okY xs,okY xs,ixJ0 rfl hm rfl⟩⟩
  show (bif exB Ex.ret (scan 2 (kb_S (xs,xs,(xs.length:Int))) 0 xs 0).1 then (scan 2 (kb_S (xs,xs,(xs.length:Int))) 0 xs 0).2.2 else (0:Int))=bif badAt xs then 40 else 0
  rcases searchI (x:=2) (st:=kb_S (xs,xs,(xs.length:Int))) (p:=fun i v=>badP xs i v) (r:=fun _ _ _=>(40:Int)) (fun _ _ _=>rfl) xs (0:Int) with ⟨n,a,hna,hp,h4⟩ | ⟨hno,h4⟩
  ·have h4:scan 2 (kb_S (xs,xs,(xs.length:Int))) 0 xs 0=_:=h4
   rw[h4,badAt_of hna hp];rfl
  ·have h4:scan 2 (kb_S (xs,xs,(xs.length:Int))) 0 xs 0=_:=h4
   rw[h4,badAt_no hno];rfl
theorem ychk_ok:FnPure Try.prog 66 aLY dI chkY (fun _=>[]):=
 pure_congr (ychk_okS (fun _=>[]) fun g hb _=>(ychk_eq g hb.1).2) fun g hb _=>(ychk_eq g hb.1).1
noncomputable def tmY (xs:List Y):Int:=bif xs.any (fun v=>tcheck_F v.t != 0) then 10 else 0
theorem rkt_eq (xs:List Y) (hm:xs.length≤maxLen):rkt_F xs=tmY xs∧rkt_side xs:=by
 unfold rkt_F rkt_side tmY rkt_q1
 simp only[eY.lst_els]
 have h1:loopF (fun g:kr_G=>kr_R g.1 g.2.1 g.2.2) kr_M (xs,0,0)=_:=kr_run xs (0:Int) rfl hm trivial
 rw[h1]
 refine ⟨?_,okY xs,ixJ0 rfl hm trivial⟩
 rcases search (x:=0) (st:=kr_S xs) (p:=fun v=>tcheck_F v.t != 0) (r:=fun _ v _=>tcheck_F v.t) (fun _ _ _=>rfl) xs 0 with ⟨ha,j,hj,a,haa,hp,h3⟩ | ⟨ha,h3⟩
 ·have h3:scan 0 (kr_S xs) 0 xs 0=_:=h3
  rw[h3,ha]
  exact tc10 hp
 ·have h3:scan 0 (kr_S xs) 0 xs 0=_:=h3
  rw[h3,ha];rfl
theorem rkt_ok:FnPure Try.prog 109 aLY dI tmY (fun _=>[]):=
 pure_congr (rkt_okS (fun _=>[]) fun g hb _=>(rkt_eq g hb.1).2) fun g hb _=>(rkt_eq g hb.1).1
theorem smy_ok:FnPure Try.prog 30 aLLY dBool (fun g=>decide (g.1=g.2)) (fun _=>[]):=by
 have h:=smy_okS (fun _=>[]) fun g hb _=>by
  obtain ⟨a,b⟩:=g
  have ha:a.length≤maxLen:=hb.1.1
  show smy_side a b
  unfold smy_side
  simp only[eY.lst_els]
  exact fun hc=>⟨okY a,okY b,ixJ0 rfl ha (ne_len hc)⟩
 refine pure_congr h fun g hb _=>?_
 obtain ⟨a,b⟩:=g
 have ha:a.length≤maxLen:=hb.1.1
 show smy_F a b=decide (a=b)
 unfold smy_F smy_q1
 simp only[eY.lst_els]
 cases hc:((a.length:Int) != (b.length:Int)) with
 | true=>
  have:a≠b:=fun e=>by subst e;simp at hc
  simp[this]
 | false=>
  have hl:=ne_len hc
  have h1:loopF (fun g:sm_G=>sm_R g.1 g.2.1 g.2.2.1 g.2.2.2) sm_M (a,b,0,false)=_:=sm_run (a,b) false rfl ha hl
  rw[h1]
  rcases scan_same (x:=0) b eY.dflt (st:=sm_S (a,b)) (fun _ _ _=>rfl) a 0 false (by omega) with ⟨h2,h3⟩ | ⟨h2,h3,h4⟩
  ·have h3:scan 0 (sm_S (a,b)) 0 a false=_:=h3
   rw[h3]
   rw[List.drop_zero] at h2
   simp[h2,exB]
  ·have h3:(scan 0 (sm_S (a,b)) 0 a false).1=_:=h3
   have h4:(scan 0 (sm_S (a,b)) 0 a false).2.2=_:=h4
   rw[List.drop_zero] at h2
   show (bif exB .ret (scan 0 (sm_S (a,b)) 0 a false).1 then (scan 0 (sm_S (a,b)) 0 a false).2.2 else true)=_
   rw[h3,h4]
   simp[h2,exB]
theorem euy_ok:FnPure Try.prog 87 aLLY dBool (fun g=>decide (g.1=g.2)) (fun _=>[]):=by
 have h:=euy_okS (fun _=>[]) fun g hb _=>by
  obtain ⟨a,b⟩:=g
  have ha:a.length≤maxLen:=hb.1.1
  show euy_side a b
  unfold euy_side
  simp only[eY.lst_els]
  exact fun hc=>⟨okY a,okY b,ixJ0 rfl ha (ne_len hc)⟩
 refine pure_congr h fun g hb _=>?_
 obtain ⟨a,b⟩:=g
 have ha:a.length≤maxLen:=hb.1.1
 show euy_F a b=decide (a=b)
 unfold euy_F euy_q1
 simp only[eY.lst_els]
 cases hc:((a.length:Int) != (b.length:Int)) with
 | true=>
  have:a≠b:=fun e=>by subst e;simp at hc
  simp[this]
 | false=>
  have hl:=ne_len hc
  have h1:loopF (fun g:eu_G=>eu_R g.1 g.2.1 g.2.2.1 g.2.2.2.1 g.2.2.2.2) eu_M (a,b,(a.length:Int),0,false)=_:=eu_run (a,b,(a.length:Int)) false rfl ha hl
  rw[h1]
  rcases scan_same (x:=0) b eY.dflt (st:=eu_S (a,b,(a.length:Int))) (fun _ _ _=>rfl) a 0 false (by omega) with ⟨h2,h3⟩ | ⟨h2,h3,h4⟩
  ·have h3:scan 0 (eu_S (a,b,(a.length:Int))) 0 a false=_:=h3
   rw[h3]
   rw[List.drop_zero] at h2
   simp[h2,exB]
  ·have h3:(scan 0 (eu_S (a,b,(a.length:Int))) 0 a false).1=_:=h3
   have h4:(scan 0 (eu_S (a,b,(a.length:Int))) 0 a false).2.2=_:=h4
   rw[List.drop_zero] at h2
   show (bif exB .ret (scan 0 (eu_S (a,b,(a.length:Int))) 0 a false).1 then (scan 0 (eu_S (a,b,(a.length:Int))) 0 a false).2.2 else true)=_
   rw[h3,h4]
   simp[h2,exB]
noncomputable def tabU10:MTab Try.prog:=((((tabU2.cons 66 (pconP aLY dI chkY (fun _=>[])) (conP_ok ychk_ok puI)).cons 109 (pconP aLY dI tmY (fun _=>[])) (conP_ok rkt_ok puI)).cons 30 (pconP aLLY dBool (fun g=>decide (g.1=g.2)) (fun _=>[])) (conP_ok smy_ok puB)).cons 87 (pconP aLLY dBool (fun g=>decide (g.1=g.2)) (fun _=>[])) (conP_ok euy_ok puB)).consM 27 (lconR eY DA.none dLYE (fun g=>ofY g.1) (fun g=>[g.1.length≤KS])) (conL_ok (pure_none yof_ok))
end Go.Proofs.Ytiipneclghnfhaa
