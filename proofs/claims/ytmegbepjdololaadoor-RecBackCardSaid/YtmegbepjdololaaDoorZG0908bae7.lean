/- Chapters 5 and 6: more loops over texts. Printed by treegen.py. -/
import Derived.Test.YtmegbepjdololaaDoorZG08acb6d4
import Derived.Test.YtmegbepjdololaaDoorZG0678006a
set_option linter.unusedVariables false
set_option linter.unusedSimpArgs false
set_option linter.constructorNameAsVariable false
set_option linter.all false

namespace Go.Proofs.YtmegbepjdololaaDoor
open Go.RowKit Go.Sx
set_option maxRecDepth 100000
set_option linter.unusedVariables false
abbrev e8:El Int:=eInt .u8
abbrev sg_G:Type:=Unit×(BA×Nat)×Int
noncomputable def sg_LP:LP 1 sg_G:=.pair (.fix 1 5 (.p 0 0)) (.pair (.iter 1 0) (.slot 1 3 dI))
noncomputable def sg_R (_u:Unit) (q:BA×Nat) (n:Int):Ex×sg_G:=
 bif decide (q.snd<q.fst.size) then (Ex.normal,(),(q.fst,q.snd+(Utf8.decode q.fst q.snd).snd),IntKind.i64.wrap (n+(1:Int)))
 else (Ex.exit (0:Nat),(),q,n)
def sg_side (_u:Unit) (q:BA×Nat) (n:Int):Prop:=
 True
theorem sg_one:((loopsOf Tryd.prog 124).filter fun c=>Nat.beq (lkey c) 3).length=1:=by kernel_rfl
theorem sg_es (g:sg_G):(sg_R g.1 g.2.1 g.2.2).1=.normal∨(sg_R g.1 g.2.1 g.2.2).1∈([.exit 0]:List Ex):=by
 unfold sg_R
 repeat' (first | (left;rfl) | (right;simp only[cond_true,cond_false];simp;done) | (rw[Bool.cond_eq_ite];split))
noncomputable abbrev sg_C (Inv:sg_G→List Prop) (m:sg_G→Nat):LCon:=loopR [.exit 0] (loopBody Tryd.prog 124 3) sg_LP [] 16 Inv (fun g=>sg_R g.1 g.2.1 g.2.2) m
theorem sg_loop (Inv:sg_G→List Prop) (m:sg_G→Nat) (hs:∀ g,allP (Inv g)→sg_side g.1 g.2.1 g.2.2) (hg:Goes (fun g:sg_G=>sg_R g.1 g.2.1 g.2.2) m fun g=>allP (Inv g)):∀ b∈loopsOf Tryd.prog 124,lkey b=3→LoopOk Tryd.prog b (sg_C Inv m).g:=loop_run (Γ:=(PTab.gamz tabB5 [] [])) (Λ:=lamB5) (PTab.okz tabB5 [] []) lamB5_ok 100 124 3 16 sg_LP [] Inv (fun g=>sg_R g.1 g.2.1 g.2.2) (fun g=>sg_side g.1 g.2.1 g.2.2) m default [.exit 0] sg_one (fun rd T B HL HB ds g=>by kernel_rfl) (fun rd T B HL HB ds g=>by kernel_rfl) hs hg sg_es
abbrev up_G:Type:=Nat×Nat×List Int×Int×Int
noncomputable def up_LP:LP 1 up_G:=.pair (.owl 1 3 0) (.pair (.owl 1 8 0) (.pair (.rowO 1 0 5 e8) (.pair (.slot 1 9 dI) (.slot 1 10 dI))))
noncomputable def up_R (l:Nat) (k:Nat) (xs:List Int) (n:Int) (i:Int):Ex×up_G:=
 bif decide (i<n) then (Ex.normal,l,k,bif decide (xs.getD i.toNat e8.dflt≥(97:Int))&&decide (xs.getD i.toNat e8.dflt≤(122:Int)) then (e8.lst (bif decide (xs.getD i.toNat e8.dflt≥(97:Int))&&decide (xs.getD i.toNat e8.dflt≤(122:Int)) then xs.length else xs.length) (e8.els xs)).set i.toNat (IntKind.u8.wrap (IntKind.u8.wrap (xs.getD i.toNat e8.dflt - (97:Int))+(65:Int))) else e8.lst (bif decide (xs.getD i.toNat e8.dflt≥(97:Int))&&decide (xs.getD i.toNat e8.dflt≤(122:Int)) then xs.length else xs.length) (e8.els xs),n,IntKind.i64.wrap (i+(1:Int)))
 else (Ex.exit (0:Nat),l,k,e8.ag xs,n,i)
def up_side (l:Nat) (k:Nat) (xs:List Int) (n:Int) (i:Int):Prop:=
 (decide (i<n)=true→((0:Int)≤i∧i<(↑k:Int))∧i.toNat<xs.length∧((decide (xs.getD i.toNat e8.dflt≥(97:Int))&&decide (xs.getD i.toNat e8.dflt≤(122:Int)))=true→(0:Int)≤i∧i<(↑l:Int))∧((decide (xs.getD i.toNat e8.dflt≥(97:Int))&&decide (xs.getD i.toNat e8.dflt≤(122:Int)))=true→i.toNat<xs.length)∧True∧(∀ (e:Nat),(e<bif decide (xs.getD i.toNat e8.dflt≥(97:Int))&&decide (xs.getD i.toNat e8.dflt≤(122:Int)) then xs.length else xs.length)→True)∧∀ (e:Nat),(e<bif decide (xs.getD i.toNat e8.dflt≥(97:Int))&&decide (xs.getD i.toNat e8.dflt≤(122:Int)) then xs.length else xs.length)→True)∧(decide (i<n)=false→∀ (e:Nat),e<xs.length→True)
theorem up_one:((loopsOf Tryd.prog 94).filter fun c=>Nat.beq (lkey c) 3).length=1:=by kernel_rfl
theorem up_es (g:up_G):(up_R g.1 g.2.1 g.2.2.1 g.2.2.2.1 g.2.2.2.2).1=.normal∨(up_R g.1 g.2.1 g.2.2.1 g.2.2.2.1 g.2.2.2.2).1∈([.exit 0]:List Ex):=by
 unfold up_R
 repeat' (first | (left;rfl) | (right;simp only[cond_true,cond_false];simp;done) | (rw[Bool.cond_eq_ite];split))
noncomputable abbrev up_C (Inv:up_G→List Prop) (m:up_G→Nat):LCon:=loopR [.exit 0] (loopBody Tryd.prog 94 3) up_LP [] 30 Inv (fun g=>up_R g.1 g.2.1 g.2.2.1 g.2.2.2.1 g.2.2.2.2) m
theorem up_loop (Inv:up_G→List Prop) (m:up_G→Nat) (hs:∀ g,allP (Inv g)→up_side g.1 g.2.1 g.2.2.1 g.2.2.2.1 g.2.2.2.2) (hg:Goes (fun g:up_G=>up_R g.1 g.2.1 g.2.2.1 g.2.2.2.1 g.2.2.2.2) m fun g=>allP (Inv g)):∀ b∈loopsOf Tryd.prog 94,lkey b=3→LoopOk Tryd.prog b (up_C Inv m).g:=loop_run (Γ:=(PTab.gamz tabB5 [] [])) (Λ:=lamB5) (PTab.okz tabB5 [] []) lamB5_ok 100 94 3 30 up_LP [] Inv (fun g=>up_R g.1 g.2.1 g.2.2.1 g.2.2.2.1 g.2.2.2.2) (fun g=>up_side g.1 g.2.1 g.2.2.1 g.2.2.2.1 g.2.2.2.2) m default [.exit 0] up_one (fun rd T B HL HB ds g=>by kernel_rfl) (fun rd T B HL HB ds g=>by kernel_rfl) hs hg up_es
abbrev ru_G:Type:=Nat×List Int×Int
noncomputable def ru_LP:LP 1 ru_G:=.pair (.owl 1 3 0) (.pair (.rowO 1 0 5 e8) (.slot 1 4 dI))
noncomputable def ru_R (l:Nat) (xs:List Int) (i:Int):Ex×ru_G:=
 bif decide (i<(↑l:Int)) then (Ex.normal,l,bif decide (xs.getD i.toNat e8.dflt≥(97:Int))&&decide (xs.getD i.toNat e8.dflt≤(122:Int)) then (e8.lst (bif decide (xs.getD i.toNat e8.dflt≥(97:Int))&&decide (xs.getD i.toNat e8.dflt≤(122:Int)) then xs.length else xs.length) (e8.els xs)).set i.toNat (IntKind.u8.wrap (xs.getD i.toNat e8.dflt - (32:Int))) else e8.lst (bif decide (xs.getD i.toNat e8.dflt≥(97:Int))&&decide (xs.getD i.toNat e8.dflt≤(122:Int)) then xs.length else xs.length) (e8.els xs),IntKind.i64.wrap (i+(1:Int)))
 else (Ex.exit (0:Nat),l,e8.ag xs,i)
def ru_side (l:Nat) (xs:List Int) (i:Int):Prop:=
 (decide (i<(↑l:Int))=true→((0:Int)≤i∧i<(↑l:Int))∧i.toNat<xs.length∧(decide (xs.getD i.toNat e8.dflt≥(97:Int))=true→(0:Int)≤i∧i<(↑l:Int))∧(decide (xs.getD i.toNat e8.dflt≥(97:Int))=true→i.toNat<xs.length)∧((decide (xs.getD i.toNat e8.dflt≥(97:Int))&&decide (xs.getD i.toNat e8.dflt≤(122:Int)))=true→(0:Int)≤i∧i<(↑l:Int))∧((decide (xs.getD i.toNat e8.dflt≥(97:Int))&&decide (xs.getD i.toNat e8.dflt≤(122:Int)))=true→i.toNat<xs.length)∧((decide (xs.getD i.toNat e8.dflt≥(97:Int))&&decide (xs.getD i.toNat e8.dflt≤(122:Int)))=true→(0:Int)≤i∧i<(↑l:Int))∧((decide (xs.getD i.toNat e8.dflt≥(97:Int))&&decide (xs.getD i.toNat e8.dflt≤(122:Int)))=true→i.toNat<xs.length)∧True∧(∀ (e:Nat),(e<bif decide (xs.getD i.toNat e8.dflt≥(97:Int))&&decide (xs.getD i.toNat e8.dflt≤(122:Int)) then xs.length else xs.length)→True)∧∀ (e:Nat),(e<bif decide (xs.getD i.toNat e8.dflt≥(97:Int))&&decide (xs.getD i.toNat e8.dflt≤(122:Int)) then xs.length else xs.length)→True)∧(decide (i<(↑l:Int))=false→∀ (e:Nat),e<xs.length→True)
theorem ru_one:((loopsOf Tryd.prog 109).filter fun c=>Nat.beq (lkey c) 3).length=1:=by kernel_rfl
theorem ru_es (g:ru_G):(ru_R g.1 g.2.1 g.2.2).1=.normal∨(ru_R g.1 g.2.1 g.2.2).1∈([.exit 0]:List Ex):=by
 unfold ru_R
 repeat' (first | (left;rfl) | (right;simp only[cond_true,cond_false];simp;done) | (rw[Bool.cond_eq_ite];split))
noncomputable abbrev ru_C (Inv:ru_G→List Prop) (m:ru_G→Nat):LCon:=loopR [.exit 0] (loopBody Tryd.prog 109 3) ru_LP [] 33 Inv (fun g=>ru_R g.1 g.2.1 g.2.2) m
theorem ru_loop (Inv:ru_G→List Prop) (m:ru_G→Nat) (hs:∀ g,allP (Inv g)→ru_side g.1 g.2.1 g.2.2) (hg:Goes (fun g:ru_G=>ru_R g.1 g.2.1 g.2.2) m fun g=>allP (Inv g)):∀ b∈loopsOf Tryd.prog 109,lkey b=3→LoopOk Tryd.prog b (ru_C Inv m).g:=loop_run (Γ:=(PTab.gamz tabB5 [] [])) (Λ:=lamB5) (PTab.okz tabB5 [] []) lamB5_ok 100 109 3 33 ru_LP [] Inv (fun g=>ru_R g.1 g.2.1 g.2.2) (fun g=>ru_side g.1 g.2.1 g.2.2) m default [.exit 0] ru_one (fun rd T B HL HB ds g=>by kernel_rfl) (fun rd T B HL HB ds g=>by kernel_rfl) hs hg ru_es
abbrev rct_G:Type:=BA×Int×List Rune×Int×Int
noncomputable def rct_LP:LP 0 rct_G:=.pair (.slot 0 0 dStr) (.pair (.slot 0 1 dI) (.pair (.slot 0 5 dLU) (.pair (.slot 0 6 dI) (.slot 0 7 dI))))
noncomputable def rct_R (s:BA) (n:Int) (xs:List Rune) (r:Int) (i:Int):Ex×rct_G:=
 bif decide (i<(↑xs.length:Int)) then (Ex.normal,s,n,eU.ag xs,bif decide ((bif decide (IntKind.i64.wrap (i+(1:Int))<(↑xs.length:Int)) then (xs.getD (IntKind.i64.wrap (i+(1:Int))).toNat eU.dflt).at' else (↑(ByteArray.size s):Int))≤n) then bif decide (IntKind.i64.wrap (i+(1:Int))<(↑xs.length:Int)) then (xs.getD (IntKind.i64.wrap (i+(1:Int))).toNat eU.dflt).at' else (↑(ByteArray.size s):Int) else r,IntKind.i64.wrap (i+(1:Int)))
 else (Ex.exit (0:Nat),s,n,eU.ag xs,r,i)
def rct_side (s:BA) (n:Int) (xs:List Rune) (r:Int) (i:Int):Prop:=
 (decide (i<(↑xs.length:Int))=true→(decide (IntKind.i64.wrap (i+(1:Int))<(↑xs.length:Int))=true→(0:Int)≤IntKind.i64.wrap (i+(1:Int))∧IntKind.i64.wrap (i+(1:Int))<(↑xs.length:Int))∧eU.okL xs)∧(decide (i<(↑xs.length:Int))=false→eU.okL xs)
theorem rct_one:((loopsOf Tryd.prog 21).filter fun c=>Nat.beq (lkey c) 4).length=1:=by kernel_rfl
theorem rct_es (g:rct_G):(rct_R g.1 g.2.1 g.2.2.1 g.2.2.2.1 g.2.2.2.2).1=.normal∨(rct_R g.1 g.2.1 g.2.2.1 g.2.2.2.1 g.2.2.2.2).1∈([.exit 0]:List Ex):=by
 unfold rct_R
 repeat' (first | (left;rfl) | (right;simp only[cond_true,cond_false];simp;done) | (rw[Bool.cond_eq_ite];split))
noncomputable abbrev rct_C (Inv:rct_G→List Prop) (m:rct_G→Nat):LCon:=loopR [.exit 0] (loopBody Tryd.prog 21 4) rct_LP [] 37 Inv (fun g=>rct_R g.1 g.2.1 g.2.2.1 g.2.2.2.1 g.2.2.2.2) m
theorem rct_loop (Inv:rct_G→List Prop) (m:rct_G→Nat) (hs:∀ g,allP (Inv g)→rct_side g.1 g.2.1 g.2.2.1 g.2.2.2.1 g.2.2.2.2) (hg:Goes (fun g:rct_G=>rct_R g.1 g.2.1 g.2.2.1 g.2.2.2.1 g.2.2.2.2) m fun g=>allP (Inv g)):∀ b∈loopsOf Tryd.prog 21,lkey b=4→LoopOk Tryd.prog b (rct_C Inv m).g:=loop_run (Γ:=(PTab.gamz tabB5 [] [])) (Λ:=lamB5) (PTab.okz tabB5 [] []) lamB5_ok 100 21 4 37 rct_LP [] Inv (fun g=>rct_R g.1 g.2.1 g.2.2.1 g.2.2.2.1 g.2.2.2.2) (fun g=>rct_side g.1 g.2.1 g.2.2.1 g.2.2.2.1 g.2.2.2.2) m default [.exit 0] rct_one (fun rd T B HL HB ds g=>by kernel_rfl) (fun rd T B HL HB ds g=>by kernel_rfl) hs hg rct_es
abbrev wd_G:Type:=Unit×(BA×Nat)×Int×List BA×List Int
noncomputable def wd_LP:LP 1 wd_G:=.pair (.fix 1 10 (.p 0 0)) (.pair (.iter 1 0) (.pair (.slot 1 1 d3) (.pair (.row 1 5 9 eStr) (.row 1 6 21 e3))))
noncomputable def wd_R (_u:Unit) (q:BA×Nat) (c:Int) (o:List BA) (w:List Int):Ex×wd_G:=
 bif decide (q.snd<q.fst.size) then bif (↑(Utf8.decode q.fst q.snd).fst:Int) != c then (Ex.normal,(),(q.fst,q.snd+(Utf8.decode q.fst q.snd).snd),c,eStr.ag o,e3.lst (min (w.length+(1:Nat)) w.length) (e3.els w)++List.map (fun x=>(↑(Utf8.decode q.fst q.snd).fst:Int)) (List.range (w.length+(1:Nat) - w.length))) else (Ex.normal,(),(q.fst,q.snd+(Utf8.decode q.fst q.snd).snd),c,eStr.lst (min (o.length+(1:Nat)) o.length) (eStr.els o)++List.map (fun x=>runesBytes (intsOf IntKind.i32 w.length (e3.els w))) (List.range (o.length+(1:Nat) - o.length)),[])
 else (Ex.exit (0:Nat),(),q,c,eStr.ag o,e3.ag w)
def wd_side (_u:Unit) (q:BA×Nat) (c:Int) (o:List BA) (w:List Int):Prop:=
 (decide (q.snd<q.fst.size)=true→(((↑(Utf8.decode q.fst q.snd).fst:Int) != c)=true→(w.length≤w.length∧True∧w.length+(1:Nat)≤maxLen∧(w.length+(1:Nat)) * Tryd.prog.types[(21:Nat)].bytes≤(140737488355328:Nat))∧o.length≤o.length∧(∀ (e:Nat),e<o.length→True)∧w.length+(1:Nat)≤w.length+(1:Nat)∧(∀ (e:Nat),e<min (w.length+(1:Nat)) w.length→True)∧∀ (e:Nat),e<w.length+(1:Nat) - w.length→True)∧(((↑(Utf8.decode q.fst q.snd).fst:Int) != c)=false→(w.length≤w.length∧∀ (e:Nat),e<w.length→((ElE.fn (e3.els w)).at e).all SV.one=true)∧(∀ (e:Nat),e<w.length→(Sx.intOf IntKind.i32 ((ElE.fn (e3.els w)).at e)).isSome=true)∧(o.length≤o.length∧True∧o.length+(1:Nat)≤maxLen∧(o.length+(1:Nat)) * Tryd.prog.types[(9:Nat)].bytes≤(140737488355328:Nat))∧o.length+(1:Nat)≤o.length+(1:Nat)∧(∀ (e:Nat),e<min (o.length+(1:Nat)) o.length→True)∧∀ (e:Nat),e<o.length+(1:Nat) - o.length→True))∧(decide (q.snd<q.fst.size)=false→o.length≤o.length∧(∀ (e:Nat),e<o.length→True)∧w.length≤w.length∧∀ (e:Nat),e<w.length→True)
theorem wd_one:((loopsOf Tryd.prog 104).filter fun c=>Nat.beq (lkey c) 4).length=1:=by kernel_rfl
theorem wd_es (g:wd_G):(wd_R g.1 g.2.1 g.2.2.1 g.2.2.2.1 g.2.2.2.2).1=.normal∨(wd_R g.1 g.2.1 g.2.2.1 g.2.2.2.1 g.2.2.2.2).1∈([.exit 0]:List Ex):=by
 unfold wd_R
 repeat' (first | (left;rfl) | (right;simp only[cond_true,cond_false];simp;done) | (rw[Bool.cond_eq_ite];split))
noncomputable abbrev wd_C (Inv:wd_G→List Prop) (m:wd_G→Nat):LCon:=loopR [.exit 0] (loopBody Tryd.prog 104 4) wd_LP [] 31 Inv (fun g=>wd_R g.1 g.2.1 g.2.2.1 g.2.2.2.1 g.2.2.2.2) m
theorem wd_loop (Inv:wd_G→List Prop) (m:wd_G→Nat) (hs:∀ g,allP (Inv g)→wd_side g.1 g.2.1 g.2.2.1 g.2.2.2.1 g.2.2.2.2) (hg:Goes (fun g:wd_G=>wd_R g.1 g.2.1 g.2.2.1 g.2.2.2.1 g.2.2.2.2) m fun g=>allP (Inv g)):∀ b∈loopsOf Tryd.prog 104,lkey b=4→LoopOk Tryd.prog b (wd_C Inv m).g:=loop_run (Γ:=(PTab.gamz tabB5 [] [])) (Λ:=lamB5) (PTab.okz tabB5 [] []) lamB5_ok 100 104 4 31 wd_LP [] Inv (fun g=>wd_R g.1 g.2.1 g.2.2.1 g.2.2.2.1 g.2.2.2.2) (fun g=>wd_side g.1 g.2.1 g.2.2.1 g.2.2.2.1 g.2.2.2.2) m default [.exit 0] wd_one (fun rd T B HL HB ds g=>by kernel_rfl) (fun rd T B HL HB ds g=>by kernel_rfl) hs hg wd_es
noncomputable def frn_q1 (s:BA):Ex×fr_G:=
 loopF (fun g=>fr_R g.fst g.snd.fst g.snd.snd) fr_M ((),(s,(0:Nat)),[])
noncomputable def frn_F (s:BA):Dv.T dL3:=
 e3.ag (frn_q1 s).snd.snd.snd
def frn_side (s:BA):Prop:=
 (∃ p c b,((),(s,(0:Nat)),[])=fr_mk p c b∧p≤ByteArray.size c∧fr_P c b p)∧(frn_q1 s).snd.snd.snd.length≤(frn_q1 s).snd.snd.snd.length∧∀ (e:Nat),e<(frn_q1 s).snd.snd.snd.length→e3.Ok ((ElE.fn (e3.els (frn_q1 s).snd.snd.snd)).at e)
theorem frn_okS (pre:DA.T aB→List Prop) (h:∀ g,DA.bd aB g→(∀ p∈pre g,p)→frn_side g):FnPure Tryd.prog 93 aB dL3 (fun g=>frn_F g) pre:=pure_of_sideS (Γ:=(PTab.gamz tabB5 [] [])) (Λ:=lamB5) (PTab.okz tabB5 [] []) lamB5_ok 100 default (fun g=>frn_side g) (fun g=>by kernel_rfl) (fun g=>by kernel_rfl) h
noncomputable def rrn_q1 (s:BA):Ex×rr_G:=
 loopF (fun g=>rr_R g.fst g.snd.fst g.snd.snd) rr_M (s,[],(0:Int))
noncomputable def rrn_F (s:BA):Dv.T dLU:=
 eU.ag (rrn_q1 s).snd.snd.fst
def rrn_side (s:BA):Prop:=
 (∃ p c b,(s,[],(0:Int))=rr_mk p c b∧p≤ByteArray.size c∧rr_P c b p)∧(rrn_q1 s).snd.snd.fst.length≤(rrn_q1 s).snd.snd.fst.length∧∀ (e:Nat),e<(rrn_q1 s).snd.snd.fst.length→eU.Ok ((ElE.fn (eU.els (rrn_q1 s).snd.snd.fst)).at e)
theorem rrn_okS (pre:DA.T aB→List Prop) (h:∀ g,DA.bd aB g→(∀ p∈pre g,p)→rrn_side g):FnPure Tryd.prog 19 aB dLU (fun g=>rrn_F g) pre:=pure_of_sideS (Γ:=(PTab.gamz tabB5 [] [])) (Λ:=lamB5) (PTab.okz tabB5 [] []) lamB5_ok 100 default (fun g=>rrn_side g) (fun g=>by kernel_rfl) (fun g=>by kernel_rfl) h
end Go.Proofs.YtmegbepjdololaaDoor

namespace Go.Proofs.YtmegbepjdololaaDoor
open Go.RowKit Go.Sx Go.Lp
theorem ints_els (q:IntKind) (xs:List Int):intsOf q xs.length ((eInt q).els xs)=xs:=by
 unfold intsOf
 refine List.ext_getElem (by simp) fun i h1 h2=>?_
 simp only[List.getElem_map,List.getElem_range]
 have:(eInt q).els xs i=[.v (.int q xs[i])]:=by
  simp[El.els,eInt,El.one',dInt,List.getD_eq_getElem?_getD,h2]
 rw[this]
 simp[intAt,Sx.intOf,SV.int?]
theorem rns_len (s:BA):(runes06 s).length≤s.size:=by
 unfold runes06
 rw[List.length_map,← toL_len]
 have:∀ l:List UInt8,(rsL l).length≤l.length:=rsL_ind (Nat.le_refl _) fun l hne ih=>by
  have h1:=Lib.decodeL_width l
  have h2:=Lib.decodeL_le l hne
  rw[rsL_step l hne,List.length_cons]
  rw[List.length_drop] at ih
  omega
 exact this _
theorem frn_ok:FnPure Tryd.prog 93 aB dL3 runes06 (fun s=>[s.size≤KB]):=
 pure_congr (frn_okS _ fun s _ hp=>⟨⟨0,s,[],rfl,Nat.zero_le _,hp _ (List.mem_cons_self ..),Nat.le_refl _⟩,Nat.le_refl _,fun k _=>e3.ok_els _ k⟩) fun s _ hp=>by
  show e3.ag (frn_q1 s).2.2.2=_
  rw[e3.ag_eq]
  exact (fr_run s (hp _ (List.mem_cons_self ..))).2
theorem rrn_ok:FnPure Tryd.prog 19 aB dLU runes05 (fun s=>[s.size≤KB]):=
 pure_congr (rrn_okS _ fun s _ hp=>⟨⟨0,s,[],rfl,Nat.zero_le _,hp _ (List.mem_cons_self ..),Nat.le_refl _⟩,Nat.le_refl _,fun k _=>eU.ok_els _ k⟩) fun s _ hp=>by
  show eU.ag (rrn_q1 s).2.2.1=_
  rw[eU.ag_eq]
  exact (rr_run s (hp _ (List.mem_cons_self ..))).2
def sg_mk (p:Nat) (s:BA) (n:Int):sg_G:=((),(s,p),n)
def sg_st (_:BA) (n:Int) (_:Nat) (_:Nat×Nat):Ex×Int:=(.normal,IntKind.i64.wrap (n+1))
def sg_P (s:BA) (n:Int) (p:Nat):Prop:=s.size≤KB∧0≤n∧n≤p
noncomputable abbrev sg_I (g:sg_G):List Prop:=txI (fun s:BA=>s) sg_P sg_mk g
noncomputable abbrev sg_M (g:sg_G):Nat:=g.2.1.1.size - g.2.1.2
theorem sg_K:txK (fun s:BA=>s) sg_st sg_P:=fun s n p h hp _=>by
 have:=Lib.width_pos s p
 obtain ⟨h1,h2,h3⟩:=h
 have h1':=h1
 unfold KB at h1'
 have hp:p<s.size:=hp
 simp only[sg_st]
 rw[wrS (by omega)]
 exact ⟨h1,by omega,by push_cast;omega⟩
theorem sg_F (p:Nat) (s:BA) (n:Int):sg_R () (s,p) n=txR 0 (fun s:BA=>s) sg_st true sg_mk p s n:=by
 unfold sg_R txR sg_st sg_mk
 by_cases h:p<s.size
 ·rw[decide_eq_true h,if_pos h,cond_true]
 ·rw[decide_eq_false h,if_neg h,cond_false]
theorem sg_ok:∀ b∈loopsOf Tryd.prog 124,lkey b=3→LoopOk Tryd.prog b (sg_C sg_I sg_M).g:=
 sg_loop sg_I sg_M (fun g hi=>trivial) (tx_goes (fun p s r=>by simp[sg_M,sg_mk]) (fun p s r h1 h2=>sg_F p s r) sg_K)
theorem sg_scan (s:BA):∀ (l:List (Nat×Nat)) (p:Nat) (n:Int),0≤n→n+l.length≤9223372036854775807→((scanT 0 true (sg_st s) p l n).1,(scanT 0 true (sg_st s) p l n).2.2)=(.exit 0,n+l.length)
 | [],p,n,_,_=>by simp[scanT]
 | d :: l,p,n,h0,h1=>by
  simp only[List.length_cons,Int.natCast_add] at h1 ⊢
  simp only[scanT,sg_st]
  rw[wrS (by omega)]
  have:=sg_scan s l (p+d.2) (n+1) (by omega) (by omega)
  rw[this,show n+1+(l.length:Int)=n+((l.length:Int)+((1:Nat):Int)) by omega]
theorem sg_run (s:BA) (hs:s.size≤KB):(loopF (fun g:sg_G=>sg_R g.1 g.2.1 g.2.2) sg_M ((),(s,0),0)).1=.exit 0∧(loopF (fun g:sg_G=>sg_R g.1 g.2.1 g.2.2) sg_M ((),(s,0),0)).2.2.2=((runes06 s).length:Int):=by
 have h:=tx_run (F:=fun g:sg_G=>sg_R g.1 g.2.1 g.2.2) (m:=sg_M) (mk:=sg_mk) (x:=0) (adv:=true) (step:=sg_st) (P:=sg_P) (tx:=fun s:BA=>s) (fun p s r=>by simp[sg_M,sg_mk]) (fun p s r h1 h2=>sg_F p s r) sg_K s.size 0 s 0 (Nat.zero_le _) ⟨hs,by decide,by decide⟩ (Nat.sub_le _ _)
 have hl:=rns_len s
 unfold KB at hs
 have e:sg_mk 0 s 0=((),(s,0),0):=rfl
 rw[e] at h
 rw[h,List.drop_zero]
 have h2:=sg_scan s (rsL (toL s)) 0 0 (by omega) (by unfold runes06 at hl;rw[List.length_map] at hl;omega)
 simp only[Prod.mk.injEq] at h2
 refine ⟨h2.1,?_⟩
 simp only[sg_mk]
 rw[h2.2]
 unfold runes06
 rw[List.length_map]
 omega
section
variable {γ α:Type}
end
def upB (b:Int):Int:=bif decide (b≥97)&&decide (b≤122) then b - 32 else b
def up_mk (N:Nat) (xs:List Int) (i:Nat):up_G:=(N,N,xs,(N:Int),(i:Int))
noncomputable abbrev up_I (g:up_G):List Prop:=[∃ N xs i,g=up_mk N xs i∧xs.length=N∧i≤N∧N≤KB]
noncomputable abbrev up_M (g:up_G):Nat:=g.1 - g.2.2.2.2.toNat
theorem up_F (N:Nat) (xs:List Int) (i:Nat) (hl:xs.length=N) (hi:i≤N) (hN:N≤KB):up_R N N xs (N:Int) (i:Int)=if i<N then (.normal,up_mk N (xs.set i (upB (xs.getD i 0))) (i+1)) else (.exit 0,up_mk N xs i):=by
 unfold KB at hN
 unfold up_R up_mk
 by_cases h:i<N
 ·rw[decide_eq_true (by omega),if_pos h,cond_true,Int.toNat_natCast,wrS (x:=(i:Int)+1) (by omega)]
  simp only[Bool.cond_self,e8.lst_els]
  have hx:xs.set i (xs.getD i 0)=xs:=by
   rw[List.getD_eq_getElem?_getD,List.getElem?_eq_getElem (by omega)]
   exact List.set_getElem_self _
  unfold upB
  show (Ex.normal,N,N,(bif decide (xs.getD i 0≥97)&&decide (xs.getD i 0≤122) then xs.set i (IntKind.u8.wrap (IntKind.u8.wrap (xs.getD i 0 - 97)+65)) else xs),_)=_
  cases hc:decide (xs.getD i 0≥97)&&decide (xs.getD i 0≤122) with
  | true=>
   simp only[Bool.and_eq_true,decide_eq_true_eq] at hc
   rw[cond_true,cond_true]
   have e1:IntKind.u8.wrap (IntKind.u8.wrap (xs.getD i 0 - 97)+65)=xs.getD i 0 - 32:=by
    rw[IntKind.wrap_u8,IntKind.wrap_u8];omega
   rw[e1];rfl
  | false=>rw[cond_false,cond_false,hx];rfl
 ·rw[decide_eq_false (by omega),if_neg h,cond_false,e8.ag_eq]
theorem up_goes:Goes (fun g:up_G=>up_R g.1 g.2.1 g.2.2.1 g.2.2.2.1 g.2.2.2.2) up_M fun g=>allP (up_I g):=by
 intro g hi hn
 obtain ⟨N,xs,i,rfl,h1,h2,h3⟩:=hi _ (List.mem_cons_self ..)
 have e:=up_F N xs i h1 h2 h3
 change (up_R N N xs (N:Int) (i:Int)).1=.normal at hn
 change allP (up_I (up_R N N xs (N:Int) (i:Int)).2)∧up_M (up_R N N xs (N:Int) (i:Int)).2<_
 rw[e] at hn ⊢
 by_cases h:i<N
 ·rw[if_pos h] at hn ⊢
  refine ⟨fun q hq=>?_,?_⟩
  ·simp only[List.mem_singleton] at hq
   subst hq
   exact ⟨N,_,i+1,rfl,by simp[h1],h,h3⟩
  ·simp only[up_M,up_mk];omega
 ·rw[if_neg h] at hn;cases hn
theorem up_ok:∀ b∈loopsOf Tryd.prog 94,lkey b=3→LoopOk Tryd.prog b (up_C up_I up_M).g:=
 up_loop up_I up_M (fun g hi=>by
  obtain ⟨N,xs,i,rfl,h1,h2,h3⟩:=hi _ (List.mem_cons_self ..)
  show up_side N N xs (N:Int) (i:Int)
  unfold up_side
  simp only[decide_eq_true_eq,decide_eq_false_iff_not]
  repeat' (first | apply And.intro | intro _)
  all_goals first | trivial | omega) up_goes
theorem up_run (N:Nat) (hN:N≤KB):∀ (n i:Nat) (xs:List Int),xs.length=N→i≤N→N - i≤n→loopF (fun g:up_G=>up_R g.1 g.2.1 g.2.2.1 g.2.2.2.1 g.2.2.2.2) up_M (up_mk N xs i)=(.exit 0,up_mk N (xs.take i++(xs.drop i).map upB) N):=by
 have hI:∀ xs i,xs.length=N→i≤N→allP (up_I (up_mk N xs i)):=fun xs i h1 h2 q hq=>by
  simp only[List.mem_singleton] at hq
  subst hq
  exact ⟨N,xs,i,rfl,h1,h2,hN⟩
 intro n
 induction n with
 | zero=>
  intro i xs h1 h2 h3
  have e:=up_F N xs i h1 h2 hN
  rw[if_neg (by omega)] at e
  have hiN:i=N:=by omega
  subst hiN
  rw[loopF_end (by show (up_R i i xs (i:Int) (i:Int)).1≠_;rw[e];simp)]
  show up_R i i xs (i:Int) (i:Int)=_
  rw[e,List.drop_eq_nil_of_le (by omega),List.take_of_length_le (by omega),List.map_nil,List.append_nil]
 | succ n ih=>
  intro i xs h1 h2 h3
  have e:=up_F N xs i h1 h2 hN
  by_cases h:i<N
  ·rw[if_pos h] at e
   have hlt:i<xs.length:=by omega
   rw[loopF_next up_goes (hI xs i h1 h2) (show up_R N N xs (N:Int) (i:Int)=_ from e)]
   rw[ih (i+1) _ (by simp[h1]) h (by omega)]
   have e1:xs.getD i 0=xs[i]:=by rw[List.getD_eq_getElem?_getD,List.getElem?_eq_getElem hlt];rfl
   rw[e1,List.drop_set_of_lt (by omega),List.drop_eq_getElem_cons hlt,List.map_cons,List.take_succ_eq_append_getElem (by simpa using hlt),List.getElem_set_self,List.take_set_of_le (Nat.le_refl _),List.append_assoc]
   rfl
  ·rw[if_neg h] at e
   have hiN:i=N:=by omega
   subst hiN
   rw[loopF_end (by show (up_R i i xs (i:Int) (i:Int)).1≠_;rw[e];simp)]
   show up_R i i xs (i:Int) (i:Int)=_
   rw[e,List.drop_eq_nil_of_le (by omega),List.take_of_length_le (by omega),List.map_nil,List.append_nil]
def ru_mk (N:Nat) (xs:List Int) (i:Nat):ru_G:=(N,xs,(i:Int))
noncomputable abbrev ru_I (g:ru_G):List Prop:=[∃ N xs i,g=ru_mk N xs i∧xs.length=N∧i≤N∧N≤KB]
noncomputable abbrev ru_M (g:ru_G):Nat:=g.1 - g.2.2.toNat
theorem ru_F (N:Nat) (xs:List Int) (i:Nat) (hl:xs.length=N) (hi:i≤N) (hN:N≤KB):ru_R N xs (i:Int)=if i<N then (.normal,ru_mk N (xs.set i (upB (xs.getD i 0))) (i+1)) else (.exit 0,ru_mk N xs i):=by
 unfold KB at hN
 unfold ru_R ru_mk
 by_cases h:i<N
 ·rw[decide_eq_true (by omega),if_pos h,cond_true,Int.toNat_natCast,wrS (x:=(i:Int)+1) (by omega)]
  simp only[Bool.cond_self,e8.lst_els]
  have hx:xs.set i (xs.getD i 0)=xs:=by
   rw[List.getD_eq_getElem?_getD,List.getElem?_eq_getElem (by omega)]
   exact List.set_getElem_self _
  unfold upB
  show (Ex.normal,N,(bif decide (xs.getD i 0≥97)&&decide (xs.getD i 0≤122) then xs.set i (IntKind.u8.wrap (xs.getD i 0 - 32)) else xs),_)=_
  cases hc:decide (xs.getD i 0≥97)&&decide (xs.getD i 0≤122) with
  | true=>
   simp only[Bool.and_eq_true,decide_eq_true_eq] at hc
   rw[cond_true,cond_true]
   have e1:IntKind.u8.wrap (xs.getD i 0 - 32)=xs.getD i 0 - 32:=by
    rw[IntKind.wrap_u8];omega
   rw[e1];rfl
  | false=>rw[cond_false,cond_false,hx];rfl
 ·rw[decide_eq_false (by omega),if_neg h,cond_false,e8.ag_eq]
theorem ru_goes:Goes (fun g:ru_G=>ru_R g.1 g.2.1 g.2.2) ru_M fun g=>allP (ru_I g):=by
 intro g hi hn
 obtain ⟨N,xs,i,rfl,h1,h2,h3⟩:=hi _ (List.mem_cons_self ..)
 have e:=ru_F N xs i h1 h2 h3
 change (ru_R N xs (i:Int)).1=.normal at hn
 change allP (ru_I (ru_R N xs (i:Int)).2)∧ru_M (ru_R N xs (i:Int)).2<_
 rw[e] at hn ⊢
 by_cases h:i<N
 ·rw[if_pos h] at hn ⊢
  refine ⟨fun q hq=>?_,?_⟩
  ·simp only[List.mem_singleton] at hq
   subst hq
   exact ⟨N,_,i+1,rfl,by simp[h1],h,h3⟩
  ·simp only[ru_M,ru_mk];omega
 ·rw[if_neg h] at hn;cases hn
theorem ru_ok:∀ b∈loopsOf Tryd.prog 109,lkey b=3→LoopOk Tryd.prog b (ru_C ru_I ru_M).g:=
 ru_loop ru_I ru_M (fun g hi=>by
  obtain ⟨N,xs,i,rfl,h1,h2,h3⟩:=hi _ (List.mem_cons_self ..)
  show ru_side N xs (i:Int)
  unfold ru_side
  simp only[decide_eq_true_eq,decide_eq_false_iff_not]
  repeat' (first | apply And.intro | intro _)
  all_goals first | trivial | omega) ru_goes
theorem ru_run (N:Nat) (hN:N≤KB):∀ (n i:Nat) (xs:List Int),xs.length=N→i≤N→N - i≤n→loopF (fun g:ru_G=>ru_R g.1 g.2.1 g.2.2) ru_M (ru_mk N xs i)=(.exit 0,ru_mk N (xs.take i++(xs.drop i).map upB) N):=by
 have hI:∀ xs i,xs.length=N→i≤N→allP (ru_I (ru_mk N xs i)):=fun xs i h1 h2 q hq=>by
  simp only[List.mem_singleton] at hq
  subst hq
  exact ⟨N,xs,i,rfl,h1,h2,hN⟩
 intro n
 induction n with
 | zero=>
  intro i xs h1 h2 h3
  have e:=ru_F N xs i h1 h2 hN
  rw[if_neg (by omega)] at e
  have hiN:i=N:=by omega
  subst hiN
  rw[loopF_end (by show (ru_R i xs (i:Int)).1≠_;rw[e];simp)]
  show ru_R i xs (i:Int)=_
  rw[e,List.drop_eq_nil_of_le (by omega),List.take_of_length_le (by omega),List.map_nil,List.append_nil]
 | succ n ih=>
  intro i xs h1 h2 h3
  have e:=ru_F N xs i h1 h2 hN
  by_cases h:i<N
  ·rw[if_pos h] at e
   have hlt:i<xs.length:=by omega
   rw[loopF_next ru_goes (hI xs i h1 h2) (show ru_R N xs (i:Int)=_ from e)]
   rw[ih (i+1) _ (by simp[h1]) h (by omega)]
   have e1:xs.getD i 0=xs[i]:=by rw[List.getD_eq_getElem?_getD,List.getElem?_eq_getElem hlt];rfl
   rw[e1,List.drop_set_of_lt (by omega),List.drop_eq_getElem_cons hlt,List.map_cons,List.take_succ_eq_append_getElem (by simpa using hlt),List.getElem_set_self,List.take_set_of_le (Nat.le_refl _),List.append_assoc]
   rfl
  ·rw[if_neg h] at e
   have hiN:i=N:=by omega
   subst hiN
   rw[loopF_end (by show (ru_R i xs (i:Int)).1≠_;rw[e];simp)]
   show ru_R i xs (i:Int)=_
   rw[e,List.drop_eq_nil_of_le (by omega),List.take_of_length_le (by omega),List.map_nil,List.append_nil]
def wd_mk (p:Nat) (c:BA×Int) (b:List BA×List Int):wd_G:=((),(c.1,p),c.2,b.1,b.2)
def wd_st (c:BA×Int) (b:List BA×List Int) (_:Nat) (d:Nat×Nat):Ex×(List BA×List Int):=bif (d.1:Int) != c.2 then (.normal,b.1,b.2++[(d.1:Int)]) else (.normal,b.1++[runesBytes b.2],[])
def wd_P (c:BA×Int) (b:List BA×List Int) (p:Nat):Prop:=c.1.size≤KB∧b.1.length≤p∧b.2.length≤p
noncomputable abbrev wd_I (g:wd_G):List Prop:=txI (fun c:BA×Int=>c.1) wd_P wd_mk g
noncomputable abbrev wd_M (g:wd_G):Nat:=g.2.1.1.size - g.2.1.2
theorem wd_K:txK (fun c:BA×Int=>c.1) wd_st wd_P:=fun c b p h _ _=>by
 have:=Lib.width_pos c.1 p
 obtain ⟨h1,h2,h3⟩:=h
 unfold wd_st wd_P
 cases ((Utf8.decode c.1 p).1:Int) != c.2 with
 | true=>exact ⟨h1,by simp only[cond_true];omega,by simp only[cond_true,List.length_append,List.length_cons,List.length_nil];omega⟩
 | false=>exact ⟨h1,by simp only[cond_false,List.length_append,List.length_cons,List.length_nil];omega,by simp only[cond_false,List.length_nil];omega⟩
theorem wd_F (p:Nat) (c:BA×Int) (b:List BA×List Int):wd_R () (c.1,p) c.2 b.1 b.2=txR 0 (fun c:BA×Int=>c.1) wd_st true wd_mk p c b:=by
 unfold wd_R txR wd_st wd_mk
 by_cases h:p<c.1.size
 ·rw[decide_eq_true h,if_pos h,cond_true]
  simp only[app1,eStr.ag_eq,ints_els]
  cases ((Utf8.decode c.1 p).1:Int) != c.2 <;> rfl
 ·rw[decide_eq_false h,if_neg h,cond_false,eStr.ag_eq,e3.ag_eq]
theorem bytesS (h:9<Tryd.prog.types.size):(Tryd.prog.types[9]'h).bytes=16:=by kernel_rfl
theorem int_els_one (q:IntKind) (xs:List Int) (e:Nat):(ElE.fn ((eInt q).els xs)).at e=[.v (.int q (xs.getD e 0))]:=rfl
theorem wd_ok:∀ b∈loopsOf Tryd.prog 104,lkey b=4→LoopOk Tryd.prog b (wd_C wd_I wd_M).g:=
 wd_loop wd_I wd_M (fun g hi=>by
  obtain ⟨p,c,b,rfl,h1,h2,h3,h4⟩:=hi _ (List.mem_cons_self ..)
  unfold KB at h2
  show wd_side () (c.1,p) c.2 b.1 b.2
  unfold wd_side
  simp only[bytes3,bytesS,int_els_one]
  unfold maxLen
  have h1:p≤c.1.size:=h1
  refine ⟨fun h=>?_,fun _=>⟨Nat.le_refl _,fun _ _=>trivial,Nat.le_refl _,fun _ _=>trivial⟩⟩
  have hp:p<c.1.size:=of_decide_eq_true h
  repeat' (first | apply And.intro | intro _)
  all_goals first | trivial | rfl | omega) (tx_goes (fun p s r=>by simp[wd_M,wd_mk]) (fun p c b h1 h2=>wd_F p c b) wd_K)
def wordsF (c:Int):List Int→List BA→List Int→List BA
 | [],o,w=>o++[runesBytes w]
 | d :: l,o,w=>bif d != c then wordsF c l o (w++[d]) else wordsF c l (o++[runesBytes w]) []
theorem wd_scan (c:BA×Int):∀ (l:List (Nat×Nat)) (p:Nat) (b:List BA×List Int),(scanT 0 true (wd_st c) p l b).1=.exit 0∧(scanT 0 true (wd_st c) p l b).2.2.1++[runesBytes (scanT 0 true (wd_st c) p l b).2.2.2]=wordsF c.2 (l.map fun x=>(x.1:Int)) b.1 b.2
 | [],p,b=>by simp[scanT,wordsF]
 | d :: l,p,b=>by
  simp only[scanT,wd_st,List.map_cons,wordsF]
  cases hc:(d.1:Int) != c.2 with
  | true=>exact wd_scan c l _ _
  | false=>exact wd_scan c l _ _
theorem wd_run (s:BA) (c:Int) (hs:s.size≤KB):(loopF (fun g:wd_G=>wd_R g.1 g.2.1 g.2.2.1 g.2.2.2.1 g.2.2.2.2) wd_M ((),(s,0),c,[],[])).1=.exit 0∧(loopF (fun g:wd_G=>wd_R g.1 g.2.1 g.2.2.1 g.2.2.2.1 g.2.2.2.2) wd_M ((),(s,0),c,[],[])).2.2.2.2.1++[runesBytes (loopF (fun g:wd_G=>wd_R g.1 g.2.1 g.2.2.1 g.2.2.2.1 g.2.2.2.2) wd_M ((),(s,0),c,[],[])).2.2.2.2.2]=wordsF c (runes06 s) [] []∧(loopF (fun g:wd_G=>wd_R g.1 g.2.1 g.2.2.1 g.2.2.2.1 g.2.2.2.2) wd_M ((),(s,0),c,[],[])).2.2.2.2.1.length≤KB:=by
 have h:=tx_run (F:=fun g:wd_G=>wd_R g.1 g.2.1 g.2.2.1 g.2.2.2.1 g.2.2.2.2) (m:=wd_M) (mk:=wd_mk) (x:=0) (adv:=true) (step:=wd_st) (P:=wd_P) (tx:=fun c:BA×Int=>c.1) (fun p s r=>by simp[wd_M,wd_mk]) (fun p c b h1 h2=>wd_F p c b) wd_K s.size 0 (s,c) ([],[]) (Nat.zero_le _) ⟨hs,Nat.le_refl _,Nat.le_refl _⟩ (Nat.sub_le _ _)
 have e:wd_mk 0 (s,c) ([],[])=((),(s,0),c,[],[]):=rfl
 rw[e] at h
 rw[h,List.drop_zero]
 have h2:=wd_scan (s,c) (rsL (toL s)) 0 ([],[])
 have hlen:∀ (l:List (Nat×Nat)) (p:Nat) (b:List BA×List Int),(scanT 0 true (wd_st (s,c)) p l b).2.2.1.length≤b.1.length+l.length:=by
  intro l
  induction l with
  | nil=>intro p b;simp[scanT]
  | cons d l ih=>
   intro p b
   simp only[scanT,wd_st]
   cases hc:(d.1:Int) != c with
   | true=>have:=ih (p+d.2) (b.1,b.2++[(d.1:Int)]);simp only[List.length_cons,cond_true] at this ⊢;omega
   | false=>have:=ih (p+d.2) (b.1++[runesBytes b.2],[]);simp only[List.length_cons,List.length_append,List.length_nil] at this ⊢;simp only[cond_false];omega
 refine ⟨h2.1,h2.2,?_⟩
 have h3:=hlen (rsL (toL s)) 0 ([],[])
 have h4:=rns_len s
 unfold runes06 at h4
 rw[List.length_map] at h4
 simp only[wd_mk,toL,List.length_nil] at h3 h4 ⊢
 omega
noncomputable def ltB7:LTab Tryd.prog:=(LTab.cons (LTab.cons (LTab.cons (LTab.cons ltB5 124 3 (sg_C sg_I sg_M) sg_ok) 94 3 (up_C up_I up_M) up_ok) 109 3 (ru_C ru_I ru_M) ru_ok) 104 4 (wd_C wd_I wd_M) wd_ok)
noncomputable def tabB7:PTab Tryd.prog:=(tabB5.cons 93 (pconR aB dL3 runes06 (fun s=>[s.size≤KB])) (conR_ok frn_ok)).cons 19 (pconR aB dLU runes05 (fun s=>[s.size≤KB])) (conR_ok rrn_ok)
end Go.Proofs.YtmegbepjdololaaDoor

namespace Go.Proofs.YtmegbepjdololaaDoor
open Go.RowKit Go.Sx
set_option maxRecDepth 100000
set_option linter.unusedVariables false
abbrev lct_G:Type:=Unit×Unit×(BA×Nat)×BA×Int×BA×Int×LoopState×Option Code
noncomputable def lct_LP:LP 8 lct_G:=.pair (.fix 8 0 (.yl 6)) (.pair (.fix 8 6 (.p 7 0)) (.pair (.iter 8 7) (.pair (.obj 8 0 9 eStr) (.pair (.obj 8 1 3 eI) (.pair (.obj 8 2 9 eStr) (.pair (.obj 8 3 3 eI) (.rf 8 6 Tryd.prog 20 0 26 [(2,.p 0 0),(3,.p 1 0),(4,.p 2 0),(5,.p 3 0)] 5)))))))
noncomputable def lct_R (_u:Unit) (_u2:Unit) (q:BA×Nat) (s:BA) (n:Int) (r:BA) (z:Int):Ex×lct_G:=
 bif decide (q.snd<q.fst.size) then bif decide ((↑q.snd:Int) > n) then (Ex.ret,(),(),(q.fst,q.snd+(Utf8.decode q.fst q.snd).snd),s,n,ByteArray.extract s (0:Nat) z.toNat,z,LoopState.done,some Code.ret) else (Ex.normal,(),(),(q.fst,q.snd+(Utf8.decode q.fst q.snd).snd),s,n,r,(↑q.snd:Int),LoopState.ready,none)
 else (Ex.exit (0:Nat),(),(),q,s,n,r,z,LoopState.ready,none)
def lct_side (_u:Unit) (_u2:Unit) (q:BA×Nat) (s:BA) (n:Int) (r:BA) (z:Int):Prop:=
 (decide (q.snd<q.fst.size)=true→(decide ((↑q.snd:Int) > n)=true→((0:Int)≤z∧z≤(↑(ByteArray.size s):Int))∧CodeIs (rangeOf Tryd.prog (20:Nat) (0:Nat)).snd.fst (rangeOf Tryd.prog (20:Nat) (0:Nat)).snd.fst∧CodeIs (rangeOf Tryd.prog (20:Nat) (0:Nat)).snd.snd (rangeOf Tryd.prog (20:Nat) (0:Nat)).snd.snd)∧(decide ((↑q.snd:Int) > n)=false→CodeIs (rangeOf Tryd.prog (20:Nat) (0:Nat)).snd.fst (rangeOf Tryd.prog (20:Nat) (0:Nat)).snd.fst∧CodeIs (rangeOf Tryd.prog (20:Nat) (0:Nat)).snd.snd (rangeOf Tryd.prog (20:Nat) (0:Nat)).snd.snd))∧(decide (q.snd<q.fst.size)=false→CodeIs (rangeOf Tryd.prog (20:Nat) (0:Nat)).snd.fst (rangeOf Tryd.prog (20:Nat) (0:Nat)).snd.fst∧CodeIs (rangeOf Tryd.prog (20:Nat) (0:Nat)).snd.snd (rangeOf Tryd.prog (20:Nat) (0:Nat)).snd.snd)
theorem lct_one:((loopsOf Tryd.prog 113).filter fun c=>Nat.beq (lkey c) 1).length=1:=by kernel_rfl
def lct_E:List ((Ex×lct_G→Bool)×Ex×(lct_G→lct_G)):=[(fun x=>exB (.ret) x.1,.ret,fun g=>(g.1,g.2.1,g.2.2.1,g.2.2.2.1,g.2.2.2.2.1,g.2.2.2.2.2.1,g.2.2.2.2.2.2.1,(.done,some .ret))),(fun x=>exB (.exit 0) x.1,.exit 0,fun g=>(g.1,g.2.1,g.2.2.1,g.2.2.2.1,g.2.2.2.2.1,g.2.2.2.2.2.1,g.2.2.2.2.2.2.1,(.ready,none)))]
theorem lct_es (g:lct_G):(lct_R g.1 g.2.1 g.2.2.1 g.2.2.2.1 g.2.2.2.2.1 g.2.2.2.2.2.1 g.2.2.2.2.2.2.1).1=.normal∨exitsOk (lct_R g.1 g.2.1 g.2.2.1 g.2.2.2.1 g.2.2.2.2.1 g.2.2.2.2.2.1 g.2.2.2.2.2.2.1) lct_E:=by
 unfold lct_R
 repeat' (first | (left;rfl) | (right;exact ⟨fun _=>⟨rfl,rfl⟩,fun h=>absurd h (by simp[exB,pdB])⟩) | (right;exact ⟨fun h=>absurd h (by simp[exB,pdB]),fun _=>⟨rfl,rfl⟩⟩) | (rw[Bool.cond_eq_ite];split))
noncomputable abbrev lct_C (Inv:lct_G→List Prop) (m:lct_G→Nat):LCon:=loopRS lct_E (loopBody Tryd.prog 113 1) lct_LP [] 16 Inv (fun g=>lct_R g.1 g.2.1 g.2.2.1 g.2.2.2.1 g.2.2.2.2.1 g.2.2.2.2.2.1 g.2.2.2.2.2.2.1) m
noncomputable def lct_i (g:lct_G):lct_G:=(g.1,g.2.1,g.2.2.1,g.2.2.2.1,g.2.2.2.2.1,g.2.2.2.2.2.1,g.2.2.2.2.2.2.1,(LoopState.ready,none))
theorem lct_loop (Inv:lct_G→List Prop) (m:lct_G→Nat) (hs:∀ g,allP (Inv g)→lct_side g.1 g.2.1 g.2.2.1 g.2.2.2.1 g.2.2.2.2.1 g.2.2.2.2.2.1 g.2.2.2.2.2.2.1) (hι:∀ g,allP (Inv g)→lct_i g=g) (hg:Goes (fun g:lct_G=>lct_R g.1 g.2.1 g.2.2.1 g.2.2.2.1 g.2.2.2.2.1 g.2.2.2.2.2.1 g.2.2.2.2.2.2.1) m fun g=>allP (Inv g)):∀ b∈loopsOf Tryd.prog 113,lkey b=1→LoopOk Tryd.prog b (lct_C Inv m).g:=loop_runS lct_i (Γ:=(PTab.gamz tabB5 [] [])) (Λ:=lamB5) (PTab.okz tabB5 [] []) lamB5_ok 100 113 1 16 lct_LP [] Inv (fun g=>lct_R g.1 g.2.1 g.2.2.1 g.2.2.2.1 g.2.2.2.2.1 g.2.2.2.2.2.1 g.2.2.2.2.2.2.1) (fun g=>lct_side g.1 g.2.1 g.2.2.1 g.2.2.2.1 g.2.2.2.2.1 g.2.2.2.2.2.1 g.2.2.2.2.2.2.1) m default lct_E lct_one (fun rd T B HL HB ds g=>by kernel_rfl) (fun rd T B HL HB ds g=>by kernel_rfl) hι hs hg lct_es
abbrev lrl_G:Type:=Unit×Unit×(BA×Nat)×List Rune×LoopState×Option Code
noncomputable def lrl_LP:LP 5 lrl_G:=.pair (.fix 5 0 (.yl 3)) (.pair (.fix 5 6 (.p 4 0)) (.pair (.iter 5 4) (.pair (.objRow 5 1 24 26 eU) (.rf 5 3 Tryd.prog 18 0 21 [(4,.p 1 0)] 2))))
noncomputable def lrl_R (_u:Unit) (_u2:Unit) (q:BA×Nat) (o:List Rune):Ex×lrl_G:=
 bif decide (q.snd<q.fst.size) then (Ex.normal,(),(),(q.fst,q.snd+(Utf8.decode q.fst q.snd).snd),eU.lst (min (o.length+(1:Nat)) o.length) (eU.els o)++List.map (fun x=>Rune.mk (↑q.snd:Int) (↑(Utf8.decode q.fst q.snd).fst:Int)) (List.range (o.length+(1:Nat) - o.length)),LoopState.ready,none)
 else (Ex.exit (0:Nat),(),(),q,eU.ag o,LoopState.ready,none)
def lrl_side (_u:Unit) (_u2:Unit) (q:BA×Nat) (o:List Rune):Prop:=
 (decide (q.snd<q.fst.size)=true→(o.length≤o.length∧True∧o.length+(1:Nat)≤maxLen∧(o.length+(1:Nat)) * Tryd.prog.types[(26:Nat)].bytes≤(140737488355328:Nat))∧o.length+(1:Nat)≤o.length+(1:Nat)∧(∀ (e:Nat),e<min (o.length+(1:Nat)) o.length→True)∧(∀ (e:Nat),e<o.length+(1:Nat) - o.length→True)∧CodeIs (rangeOf Tryd.prog (18:Nat) (0:Nat)).snd.fst (rangeOf Tryd.prog (18:Nat) (0:Nat)).snd.fst∧CodeIs (rangeOf Tryd.prog (18:Nat) (0:Nat)).snd.snd (rangeOf Tryd.prog (18:Nat) (0:Nat)).snd.snd)∧(decide (q.snd<q.fst.size)=false→o.length≤o.length∧(∀ (e:Nat),e<o.length→True)∧CodeIs (rangeOf Tryd.prog (18:Nat) (0:Nat)).snd.fst (rangeOf Tryd.prog (18:Nat) (0:Nat)).snd.fst∧CodeIs (rangeOf Tryd.prog (18:Nat) (0:Nat)).snd.snd (rangeOf Tryd.prog (18:Nat) (0:Nat)).snd.snd)
theorem lrl_one:((loopsOf Tryd.prog 113).filter fun c=>Nat.beq (lkey c) 1).length=1:=by kernel_rfl
def lrl_E:List ((Ex×lrl_G→Bool)×Ex×(lrl_G→lrl_G)):=[(fun x=>exB (.exit 0) x.1,.exit 0,fun g=>(g.1,g.2.1,g.2.2.1,g.2.2.2.1,(.ready,none)))]
theorem lrl_es (g:lrl_G):(lrl_R g.1 g.2.1 g.2.2.1 g.2.2.2.1).1=.normal∨exitsOk (lrl_R g.1 g.2.1 g.2.2.1 g.2.2.2.1) lrl_E:=by
 unfold lrl_R
 repeat' (first | (left;rfl) | (right;exact ⟨rfl,rfl⟩) | (rw[Bool.cond_eq_ite];split))
noncomputable abbrev lrl_C (Inv:lrl_G→List Prop) (m:lrl_G→Nat):LCon:=loopRS lrl_E (loopBody Tryd.prog 113 1) lrl_LP [] 16 Inv (fun g=>lrl_R g.1 g.2.1 g.2.2.1 g.2.2.2.1) m
noncomputable def lrl_i (g:lrl_G):lrl_G:=(g.1,g.2.1,g.2.2.1,g.2.2.2.1,(LoopState.ready,none))
theorem lrl_loop (Inv:lrl_G→List Prop) (m:lrl_G→Nat) (hs:∀ g,allP (Inv g)→lrl_side g.1 g.2.1 g.2.2.1 g.2.2.2.1) (hι:∀ g,allP (Inv g)→lrl_i g=g) (hg:Goes (fun g:lrl_G=>lrl_R g.1 g.2.1 g.2.2.1 g.2.2.2.1) m fun g=>allP (Inv g)):∀ b∈loopsOf Tryd.prog 113,lkey b=1→LoopOk Tryd.prog b (lrl_C Inv m).g:=loop_runS lrl_i (Γ:=(PTab.gamz tabB5 [] [])) (Λ:=lamB5) (PTab.okz tabB5 [] []) lamB5_ok 100 113 1 16 lrl_LP [] Inv (fun g=>lrl_R g.1 g.2.1 g.2.2.1 g.2.2.2.1) (fun g=>lrl_side g.1 g.2.1 g.2.2.1 g.2.2.2.1) m default lrl_E lrl_one (fun rd T B HL HB ds g=>by kernel_rfl) (fun rd T B HL HB ds g=>by kernel_rfl) hι hs hg lrl_es
end Go.Proofs.YtmegbepjdololaaDoor

namespace Go.Proofs.YtmegbepjdololaaDoor
open Go.RowKit Go.Sx Go.Lp
structure CutC where
 t:BA
 s:BA
 n:Int
abbrev CutB:=BA×Int×LoopState×Option Code
def lct_mk (p:Nat) (c:CutC) (b:CutB):lct_G:=((),(),(c.t,p),c.s,c.n,b.1,b.2.1,b.2.2.1,b.2.2.2)
def lct_st (c:CutC) (b:CutB) (p:Nat) (_:Nat×Nat):Ex×CutB:=bif decide ((p:Int) > c.n) then (.ret,c.s.extract 0 b.2.1.toNat,b.2.1,.done,some .ret) else (.normal,b.1,(p:Int),.ready,none)
def lct_P (c:CutC) (b:CutB) (p:Nat):Prop:=b.2.2=(LoopState.ready,(none:Option Code))∧0≤b.2.1∧b.2.1≤p∧c.t=c.s
noncomputable abbrev lct_I (g:lct_G):List Prop:=txI (fun c:CutC=>c.t) lct_P lct_mk g
noncomputable abbrev lct_M (g:lct_G):Nat:=g.2.2.1.1.size - g.2.2.1.2
theorem lct_K:txK (fun c:CutC=>c.t) lct_st lct_P:=fun c b p h _ hn=>by
 have:=Lib.width_pos c.t p
 obtain ⟨h1,h2,h3,h4⟩:=h
 unfold lct_st at hn ⊢
 cases hc:decide ((p:Int) > c.n) with
 | true=>rw[hc] at hn;cases hn
 | false=>exact ⟨rfl,by simp only[cond_false];omega,by simp only[cond_false];push_cast;omega,h4⟩
theorem lct_F (p:Nat) (c:CutC) (b:CutB) (h:lct_P c b p):lct_R () () (c.t,p) c.s c.n b.1 b.2.1=txR 0 (fun c:CutC=>c.t) lct_st true lct_mk p c b:=by
 obtain ⟨r,z,f⟩:=b
 have h1:f=(LoopState.ready,(none:Option Code)):=h.1
 subst h1
 unfold lct_R txR lct_st lct_mk
 by_cases h:p<c.t.size
 ·rw[decide_eq_true h,if_pos h,cond_true]
  cases decide ((p:Int) > c.n) <;> rfl
 ·rw[decide_eq_false h,if_neg h,cond_false]
theorem lct_ok:∀ b∈loopsOf Tryd.prog 113,lkey b=1→LoopOk Tryd.prog b (lct_C lct_I lct_M).g:=
 lct_loop lct_I lct_M (fun g hi=>by
  obtain ⟨p,c,b,rfl,h1,h2,h3,h4,h5⟩:=hi _ (List.mem_cons_self ..)
  show lct_side () () (c.t,p) c.s c.n b.1 b.2.1
  unfold lct_side
  have h1:p≤c.t.size:=h1
  rw[h5] at h1
  exact ⟨fun _=>⟨fun _=>⟨⟨h3,by omega⟩,rfl,rfl⟩,fun _=>⟨rfl,rfl⟩⟩,fun _=>⟨rfl,rfl⟩⟩) (fun g hi=>by
  obtain ⟨p,c,b,rfl,h1,h2,h3,h4⟩:=hi _ (List.mem_cons_self ..)
  obtain ⟨r,z,f⟩:=b
  have h2:f=(LoopState.ready,(none:Option Code)):=h2
  subst h2
  rfl) (tx_goes (fun p s r=>by simp[lct_M,lct_mk]) (fun p c b h1 h2=>lct_F p c b h2) lct_K)
def cutP (n:Int):Nat→List (Nat×Nat)→Int→Bool×Int
 | _,[],z=>(false,z)
 | p,d :: l,z=>bif decide ((p:Int) > n) then (true,z) else cutP n (p+d.2) l p
theorem lct_scan1 (c:CutC):∀ (l:List (Nat×Nat)) (p:Nat) (r:BA) (z:Int),
  ((scanT 0 true (lct_st c) p l (r,z,.ready,none)).1,(scanT 0 true (lct_st c) p l (r,z,.ready,none)).2.2) =
    bif (cutP c.n p l z).1 then (.ret,c.s.extract 0 (cutP c.n p l z).2.toNat,(cutP c.n p l z).2,.done,some .ret) else (.exit 0,r,(cutP c.n p l z).2,.ready,none)
 | [],p,r,z=>by simp[scanT,cutP]
 | d :: l,p,r,z=>by
  simp only[scanT,lct_st,cutP]
  cases hc:decide ((p:Int) > c.n) with
  | true=>rfl
  | false=>
   simp only[cond_false]
   exact lct_scan1 c l (p+d.2) r p
theorem cutP_cut (n:Int):∀ (l:List (Nat×Nat)) (p:Nat) (z:Int),(∀ d∈l,1≤d.2)→(p:Int)≤n →
  (bif (cutP n p l z).1 then (cutP n p l z).2 else if ((p+wsum l:Nat):Int)≤n then ((p+wsum l:Nat):Int) else (cutP n p l z).2)=if l=[] then ((p:Nat):Int) else ((p+cutW l (n - p):Nat):Int)
 | [],p,z,_,hp=>by simp[cutP,wsum,hp]
 | (c,w) :: l,p,z,hw,hp=>by
  have hw1:=hw (c,w) (List.mem_cons_self ..)
  have hl:∀ d∈l,1≤d.2:=fun d hd=>hw d (List.mem_cons_of_mem _ hd)
  simp only[cutP]
  rw[decide_eq_false (by omega),cond_false,if_neg (show ¬ ((c,w) :: l=[]) by simp)]
  have hs:p+wsum ((c,w) :: l)=(p+w)+wsum l:=by simp only[wsum,List.map_cons,List.sum_cons];omega
  rw[hs]
  simp only[cutW]
  by_cases h:(w:Int)≤n - p
  ·have ih:=cutP_cut n l (p+w) p hl (by push_cast;omega)
   rw[ih,if_pos h]
   by_cases he:l=[]
   ·subst he;simp[cutW]
   ·rw[if_neg he]
    rw[show n - ((p+w:Nat):Int)=n - p - w by push_cast;omega]
    congr 1
    omega
  ·rw[if_neg h]
   cases l with
   | nil=>
    simp only[cutP,cond_false,wsum,List.map_nil,List.sum_nil,Nat.add_zero]
    rw[if_neg (by push_cast;omega)]
   | cons d l=>
    simp only[cutP]
    rw[decide_eq_true (by push_cast;omega),cond_true]
    simp
def cutS (s:BA) (n:Int):BA:=s.extract 0 (cutW (rsL (toL s)) n)
theorem rsL_pos:∀ l:List UInt8,∀ d∈rsL l,1≤d.2:=rsL_ind (by simp[rsL_nil]) fun l hne ih d hd=>by
 rw[rsL_step l hne] at hd
 rcases List.mem_cons.1 hd with rfl | hd
 ·exact Lib.decodeL_width l
 ·exact ih d hd
theorem cutW_neg:∀ (l:List (Nat×Nat)) (n:Int),n<0→cutW l n=0
 | [],_,_=>rfl
 | (c,w) :: l,n,h=>by simp only[cutW];rw[if_neg (by omega)]
theorem extract_all (s:BA):s.extract 0 s.size=s:=ByteArray.extract_zero_size
theorem cut_fin (s:BA) (n:Int):(bif (cutP n 0 (rsL (toL s)) 0).1 then s.extract 0 (cutP n 0 (rsL (toL s)) 0).2.toNat else bif decide ((s.size:Int)≤n) then s else s.extract 0 (cutP n 0 (rsL (toL s)) 0).2.toNat)=cutS s n:=by
 unfold cutS
 by_cases h0:(0:Int)≤n
 ·have h:=cutP_cut n (rsL (toL s)) 0 0 (rsL_pos _) (by simpa using h0)
  have hz:wsum (rsL (toL s))=s.size:=by rw[wsum_rsL,toL_len]
  simp only[Nat.zero_add,hz] at h
  rw[show n - ((0:Nat):Int)=n by simp] at h
  have hc:(if rsL (toL s)=[] then (0:Int) else ((cutW (rsL (toL s)) n:Nat):Int))=((cutW (rsL (toL s)) n:Nat):Int):=by
   by_cases he:rsL (toL s)=[]
   ·rw[if_pos he,he];rfl
   ·rw[if_neg he]
  have h:(bif (cutP n 0 (rsL (toL s)) 0).1 then (cutP n 0 (rsL (toL s)) 0).2 else if (s.size:Int)≤n then (s.size:Int) else (cutP n 0 (rsL (toL s)) 0).2)=((cutW (rsL (toL s)) n:Nat):Int):=h.trans hc
  cases hb:(cutP n 0 (rsL (toL s)) 0).1 with
  | true=>
   rw[hb,cond_true] at h
   rw[cond_true,h];rfl
  | false=>
   rw[hb,cond_false] at h
   rw[cond_false]
   by_cases hn:(s.size:Int)≤n
   ·rw[if_pos hn] at h
    rw[decide_eq_true hn,cond_true,← Int.natCast_inj.1 h,extract_all]
   ·rw[if_neg hn] at h
    rw[decide_eq_false hn,cond_false,h];rfl
 ·have hn:¬ ((s.size:Int)≤n):=by omega
  rw[decide_eq_false hn,cutW_neg _ _ (by omega),cond_false,Bool.cond_self]
  cases hr:rsL (toL s) with
  | nil=>rfl
  | cons d l=>simp only[cutP];rw[decide_eq_true (by omega),cond_true];rfl
theorem lct_run (s:BA) (n:Int) (r:BA):(loopF (fun g:lct_G=>lct_R g.1 g.2.1 g.2.2.1 g.2.2.2.1 g.2.2.2.2.1 g.2.2.2.2.2.1 g.2.2.2.2.2.2.1) lct_M ((),(),(s,0),s,n,r,0,.ready,none)).1=(bif (cutP n 0 (rsL (toL s)) 0).1 then .ret else .exit 0) ∧
  (loopF (fun g:lct_G=>lct_R g.1 g.2.1 g.2.2.1 g.2.2.2.1 g.2.2.2.2.1 g.2.2.2.2.2.1 g.2.2.2.2.2.2.1) lct_M ((),(),(s,0),s,n,r,0,.ready,none)).2.2.2.2=(s,n,bif (cutP n 0 (rsL (toL s)) 0).1 then (s.extract 0 (cutP n 0 (rsL (toL s)) 0).2.toNat,(cutP n 0 (rsL (toL s)) 0).2,.done,some .ret) else (r,(cutP n 0 (rsL (toL s)) 0).2,.ready,none)):=by
 have h:=tx_run (F:=fun g:lct_G=>lct_R g.1 g.2.1 g.2.2.1 g.2.2.2.1 g.2.2.2.2.1 g.2.2.2.2.2.1 g.2.2.2.2.2.2.1) (m:=lct_M) (mk:=lct_mk) (x:=0) (adv:=true) (step:=lct_st) (P:=lct_P) (tx:=fun c:CutC=>c.t) (fun p s r=>by simp[lct_M,lct_mk]) (fun p c b h1 h2=>lct_F p c b h2) lct_K s.size 0 ⟨s,s,n⟩ (r,0,.ready,none) (Nat.zero_le _) ⟨rfl,Int.le_refl _,Int.le_refl _,rfl⟩ (Nat.sub_le _ _)
 have e:lct_mk 0 ⟨s,s,n⟩ (r,0,.ready,none)=((),(),(s,0),s,n,r,0,.ready,none):=rfl
 rw[e] at h
 rw[h,List.drop_zero]
 have h2:=lct_scan1 ⟨s,s,n⟩ (rsL (toL s)) 0 r 0
 simp only[lct_mk]
 cases hb:(cutP n 0 (rsL (toL s)) 0).1 with
 | true=>rw[hb] at h2;simp only[cond_true,Prod.mk.injEq] at h2 ⊢;rw[h2.1,h2.2];simp
 | false=>rw[hb] at h2;simp only[cond_false,Prod.mk.injEq] at h2 ⊢;rw[h2.1,h2.2];simp
def lrl_mk (p:Nat) (s:BA) (b:List Rune×LoopState×Option Code):lrl_G:=((),(),(s,p),b.1,b.2.1,b.2.2)
def lrl_st (_:BA) (b:List Rune×LoopState×Option Code) (p:Nat) (d:Nat×Nat):Ex×(List Rune×LoopState×Option Code):=(.normal,b.1++[⟨(p:Int),(d.1:Int)⟩],.ready,none)
def lrl_P (s:BA) (b:List Rune×LoopState×Option Code) (p:Nat):Prop:=b.2=(LoopState.ready,(none:Option Code))∧s.size≤KB∧b.1.length≤p
noncomputable abbrev lrl_I (g:lrl_G):List Prop:=txI (fun s:BA=>s) lrl_P lrl_mk g
noncomputable abbrev lrl_M (g:lrl_G):Nat:=g.2.2.1.1.size - g.2.2.1.2
theorem lrl_K:txK (fun s:BA=>s) lrl_st lrl_P:=fun s b p h _ _=>⟨rfl,h.2.1,by
 have:=Lib.width_pos s p
 simp only[lrl_st,List.length_append,List.length_cons,List.length_nil]
 have:=h.2.2
 omega⟩
theorem lrl_F (p:Nat) (s:BA) (b:List Rune×LoopState×Option Code) (h:lrl_P s b p):lrl_R () () (s,p) b.1=txR 0 (fun s:BA=>s) lrl_st true lrl_mk p s b:=by
 obtain ⟨o,f⟩:=b
 have h1:f=(LoopState.ready,(none:Option Code)):=h.1
 subst h1
 unfold lrl_R txR lrl_st lrl_mk
 by_cases h:p<s.size
 ·rw[decide_eq_true h,if_pos h,cond_true,app1]
 ·rw[decide_eq_false h,if_neg h,cond_false,eU.ag_eq]
theorem lrl_ok:∀ b∈loopsOf Tryd.prog 113,lkey b=1→LoopOk Tryd.prog b (lrl_C lrl_I lrl_M).g:=
 lrl_loop lrl_I lrl_M (fun g hi=>by
  obtain ⟨p,s,b,rfl,h1,h2,h3,h4⟩:=hi _ (List.mem_cons_self ..)
  unfold KB at h3
  show lrl_side () () (s,p) b.1
  unfold lrl_side
  rw[bytesU]
  have h1:p≤s.size:=h1
  refine ⟨fun h=>?_,fun _=>⟨Nat.le_refl _,fun _ _=>trivial,rfl,rfl⟩⟩
  have hp:p<s.size:=of_decide_eq_true h
  unfold maxLen
  exact ⟨⟨Nat.le_refl _,trivial,by omega,by omega⟩,Nat.le_refl _,fun _ _=>trivial,fun _ _=>trivial,rfl,rfl⟩) (fun g hi=>by
  obtain ⟨p,s,b,rfl,h1,h2,h3,h4⟩:=hi _ (List.mem_cons_self ..)
  obtain ⟨o,f⟩:=b
  have h2:f=(LoopState.ready,(none:Option Code)):=h2
  subst h2
  rfl) (tx_goes (fun p s r=>by simp[lrl_M,lrl_mk]) (fun p c b h1 h2=>lrl_F p c b h2) lrl_K)
theorem lrl_scan (s:BA):∀ (l:List (Nat×Nat)) (p:Nat) (o:List Rune),((scanT 0 true (lrl_st s) p l (o,.ready,none)).1,(scanT 0 true (lrl_st s) p l (o,.ready,none)).2.2)=(.exit 0,o++(rpF p l).map (fun x=>⟨(x.1:Int),(x.2:Int)⟩),.ready,none)
 | [],p,o=>by simp[scanT,rpF]
 | d :: l,p,o=>by
  simp only[scanT,lrl_st]
  have:=lrl_scan s l (p+d.2) (o++[⟨(p:Int),(d.1:Int)⟩])
  rw[this,List.append_assoc]
  rfl
theorem lrl_run (s:BA) (hs:s.size≤KB):(loopF (fun g:lrl_G=>lrl_R g.1 g.2.1 g.2.2.1 g.2.2.2.1) lrl_M ((),(),(s,0),[],.ready,none)).1=.exit 0∧(loopF (fun g:lrl_G=>lrl_R g.1 g.2.1 g.2.2.1 g.2.2.2.1) lrl_M ((),(),(s,0),[],.ready,none)).2.2.2.2=(runes05 s,.ready,none):=by
 have h:=tx_run (F:=fun g:lrl_G=>lrl_R g.1 g.2.1 g.2.2.1 g.2.2.2.1) (m:=lrl_M) (mk:=lrl_mk) (x:=0) (adv:=true) (step:=lrl_st) (P:=lrl_P) (tx:=fun s:BA=>s) (fun p s r=>by simp[lrl_M,lrl_mk]) (fun p c b h1 h2=>lrl_F p c b h2) lrl_K s.size 0 s ([],.ready,none) (Nat.zero_le _) ⟨rfl,hs,Nat.le_refl _⟩ (Nat.sub_le _ _)
 have e:lrl_mk 0 s ([],.ready,none)=((),(),(s,0),[],.ready,none):=rfl
 rw[e] at h
 rw[h,List.drop_zero]
 have h2:=lrl_scan s (rsL (toL s)) 0 []
 simp only[Prod.mk.injEq] at h2
 simp only[lrl_mk]
 exact ⟨h2.1,h2.2⟩
def nxtR (s:BA):List Rune→Int
 | []=>(s.size:Int)
 | x :: _=>x.at'
def rcutF (s:BA) (n:Int):List Rune→Int→Int
 | [],r=>r
 | _ :: l,r=>rcutF s n l (bif decide (nxtR s l≤n) then nxtR s l else r)
noncomputable abbrev rct_I (g:rct_G):List Prop:=[0≤g.2.2.2.2∧g.2.2.2.2≤g.2.2.1.length∧g.2.2.1.length≤KB]
noncomputable abbrev rct_M (g:rct_G):Nat:=g.2.2.1.length - g.2.2.2.2.toNat
theorem rct_F (s:BA) (n:Int) (xs:List Rune) (r:Int) (i:Nat) (hi:i≤xs.length) (hN:xs.length≤KB):rct_R s n xs r (i:Int)=if i<xs.length then (.normal,s,n,xs,(bif decide (nxtR s (xs.drop (i+1))≤n) then nxtR s (xs.drop (i+1)) else r),((i+1:Nat):Int)) else (.exit 0,s,n,xs,r,(i:Int)):=by
 unfold KB at hN
 unfold rct_R
 by_cases h:i<xs.length
 ·rw[decide_eq_true (by omega),if_pos h,cond_true,wrS (x:=(i:Int)+1) (by omega),eU.ag_eq,show ((i:Int)+1).toNat=i+1 by omega]
  have e:(bif decide ((i:Int)+1<(xs.length:Int)) then (xs.getD (i+1) eU.dflt).at' else (s.size:Int))=nxtR s (xs.drop (i+1)):=by
   by_cases h1:i+1<xs.length
   ·rw[decide_eq_true (by omega),cond_true,List.drop_eq_getElem_cons h1,List.getD_eq_getElem?_getD,List.getElem?_eq_getElem h1];rfl
   ·rw[decide_eq_false (by omega),cond_false,List.drop_eq_nil_of_le (by omega)];rfl
  rw[e]
  rfl
 ·rw[decide_eq_false (by omega),if_neg h,cond_false,eU.ag_eq]
theorem rct_goes:Goes (fun g:rct_G=>rct_R g.1 g.2.1 g.2.2.1 g.2.2.2.1 g.2.2.2.2) rct_M fun g=>allP (rct_I g):=by
 rintro ⟨s,n,xs,r,i⟩ hi hn
 obtain ⟨h1,h2,h3⟩:=hi _ (List.mem_cons_self ..)
 simp only at h1 h2 h3
 obtain ⟨k,rfl⟩:∃ k:Nat,i=k:=⟨i.toNat,by omega⟩
 have e:=rct_F s n xs r k (by omega) h3
 change (rct_R s n xs r (k:Int)).1=.normal at hn
 change allP (rct_I (rct_R s n xs r (k:Int)).2)∧rct_M (rct_R s n xs r (k:Int)).2<_
 rw[e] at hn ⊢
 by_cases h:k<xs.length
 ·rw[if_pos h] at hn ⊢
  refine ⟨fun q hq=>?_,?_⟩
  ·simp only[List.mem_singleton] at hq
   subst hq
   exact ⟨by first | omega | (simp only;omega),by first | omega | (simp only;omega),h3⟩
  ·simp only[rct_M];omega
 ·rw[if_neg h] at hn;cases hn
theorem rct_ok:∀ b∈loopsOf Tryd.prog 21,lkey b=4→LoopOk Tryd.prog b (rct_C rct_I rct_M).g:=
 rct_loop rct_I rct_M (fun g hi=>by
  obtain ⟨s,n,xs,r,i⟩:=g
  obtain ⟨h1,h2,h3⟩:=hi _ (List.mem_cons_self ..)
  simp only at h1 h2 h3
  unfold KB at h3
  show rct_side s n xs r i
  unfold rct_side
  simp only[El.okL_eq,decide_eq_true_eq,and_true,implies_true]
  intro h
  rw[wrS (x:=i+1) (by omega)]
  intro h'
  omega) rct_goes
theorem rct_run (s:BA) (n:Int) (xs:List Rune) (hN:xs.length≤KB):∀ (m i:Nat) (r:Int),i≤xs.length→xs.length - i≤m→loopF (fun g:rct_G=>rct_R g.1 g.2.1 g.2.2.1 g.2.2.2.1 g.2.2.2.2) rct_M (s,n,xs,r,(i:Int))=(.exit 0,s,n,xs,rcutF s n (xs.drop i) r,(xs.length:Int)):=by
 have hI:∀ r (i:Nat),i≤xs.length→allP (rct_I (s,n,xs,r,(i:Int))):=fun r i h1 q hq=>by
  simp only[List.mem_singleton] at hq
  subst hq
  exact ⟨by first | omega | (simp only;omega),by first | omega | (simp only;omega),hN⟩
 intro m
 induction m with
 | zero=>
  intro i r h1 h3
  have e:=rct_F s n xs r i h1 hN
  rw[if_neg (by omega)] at e
  have hiN:i=xs.length:=by omega
  rw[loopF_end (by show (rct_R s n xs r (i:Int)).1≠_;rw[e];simp)]
  show rct_R s n xs r (i:Int)=_
  rw[e,List.drop_eq_nil_of_le (by omega),hiN];rfl
 | succ m ih=>
  intro i r h1 h3
  have e:=rct_F s n xs r i h1 hN
  by_cases h:i<xs.length
  ·rw[if_pos h] at e
   rw[loopF_next rct_goes (hI r i h1) (show rct_R s n xs r (i:Int)=_ from e),ih (i+1) _ h (by omega),List.drop_eq_getElem_cons h]
   rfl
  ·rw[if_neg h] at e
   have hiN:i=xs.length:=by omega
   rw[loopF_end (by show (rct_R s n xs r (i:Int)).1≠_;rw[e];simp)]
   show rct_R s n xs r (i:Int)=_
   rw[e,List.drop_eq_nil_of_le (by omega),hiN];rfl
theorem rcut_stay (s:BA) (n:Int):∀ (l:List (Nat×Nat)) (p:Nat) (r:Int),(p:Int)+wsum l=s.size→n<p→(∀ d∈l,1≤d.2)→rcutF s n ((rpF p l).map fun x=>⟨(x.1:Int),(x.2:Int)⟩) r=r
 | [],_,_,_,_,_=>rfl
 | (c,w) :: l,p,r,hs,hn,hw=>by
  have hw1:=hw (c,w) (List.mem_cons_self ..)
  have hs':(p:Int)+w+wsum l=s.size:=by simp only[wsum,List.map_cons,List.sum_cons] at hs ⊢;push_cast at hs ⊢;omega
  have e:nxtR s ((rpF (p+w) l).map fun x=>⟨(x.1:Int),(x.2:Int)⟩)=((p+w:Nat):Int):=by
   cases l with
   | nil=>simp only[rpF,List.map_nil,nxtR,wsum,List.sum_nil] at hs' ⊢;push_cast;omega
   | cons d l=>rfl
  simp only[rpF,List.map_cons,rcutF]
  rw[e,decide_eq_false (by push_cast;omega),cond_false]
  exact rcut_stay s n l (p+w) r (by push_cast;omega) (by push_cast;omega) fun d hd=>hw d (List.mem_cons_of_mem _ hd)
theorem rcut_law (s:BA) (n:Int):∀ (l:List (Nat×Nat)) (p:Nat),(p:Int)+wsum l=s.size→(∀ d∈l,1≤d.2)→rcutF s n ((rpF p l).map fun x=>⟨(x.1:Int),(x.2:Int)⟩) p=((p+cutW l (n - p):Nat):Int)
 | [],_,_,_=>by simp[rpF,rcutF,cutW]
 | (c,w) :: l,p,hs,hw=>by
  have hw1:=hw (c,w) (List.mem_cons_self ..)
  have hl:∀ d∈l,1≤d.2:=fun d hd=>hw d (List.mem_cons_of_mem _ hd)
  have hs':(p:Int)+w+wsum l=s.size:=by simp only[wsum,List.map_cons,List.sum_cons] at hs ⊢;push_cast at hs ⊢;omega
  have e:nxtR s ((rpF (p+w) l).map fun x=>⟨(x.1:Int),(x.2:Int)⟩)=((p+w:Nat):Int):=by
   cases l with
   | nil=>simp only[rpF,List.map_nil,nxtR,wsum,List.sum_nil] at hs' ⊢;push_cast;omega
   | cons d l=>rfl
  simp only[rpF,List.map_cons,rcutF,cutW]
  rw[e]
  by_cases h:(w:Int)≤n - p
  ·rw[decide_eq_true (by push_cast;omega),cond_true,if_pos h,rcut_law s n l (p+w) (by push_cast;omega) hl,show n - ((p+w:Nat):Int)=n - p - w by push_cast;omega]
   congr 1
   omega
  ·rw[decide_eq_false (by push_cast;omega),cond_false,if_neg h,rcut_stay s n l (p+w) p (by push_cast;omega) (by push_cast;omega) hl]
   simp
noncomputable def ltB9:LTab Tryd.prog:=(LTab.cons (LTab.cons ltB7 113 1 (lct_C lct_I lct_M) lct_ok) 21 4 (rct_C rct_I rct_M) rct_ok)
noncomputable abbrev lamB9:Lam:=ltB9.lam
theorem lamB9_ok:∀ f k L,lamB9 f k=some L→∀ b∈loopsOf Tryd.prog f,lkey b=k→LoopOk Tryd.prog b L.g:=ltB9.ok
end Go.Proofs.YtmegbepjdololaaDoor

namespace Go.Proofs.YtmegbepjdololaaDoor
open Go.RowKit Go.Sx
set_option maxRecDepth 100000
set_option linter.unusedVariables false
abbrev aB3:DA (BA×Int):=.cons dStr (.one d3)
noncomputable def sgl_q1 (s:BA):Ex×sg_G:=
 loopF (fun g=>sg_R g.fst g.snd.fst g.snd.snd) sg_M ((),(s,(0:Nat)),(0:Int))
noncomputable def sgl_F (s:BA):Dv.T dBool:=
 (sgl_q1 s).snd.snd.snd==(1:Int)&&Lib.validD s.data.toList
def sgl_side (s:BA):Prop:=
 (∃ p c b,((),(s,(0:Nat)),(0:Int))=sg_mk p c b∧p≤ByteArray.size c∧sg_P c b p)∧(((sgl_q1 s).snd.snd.snd==(1:Int))=true→ByteArray.size s≤KB)
theorem sgl_okS (pre:DA.T aB→List Prop) (h:∀ g,DA.bd aB g→(∀ p∈pre g,p)→sgl_side g):FnPure Tryd.prog 124 aB dBool (fun g=>sgl_F g) pre:=pure_of_sideS (Γ:=(PTab.gamz tabB7 [] [])) (Λ:=lamB9) (PTab.okz tabB7 [] []) lamB9_ok 100 default (fun g=>sgl_side g) (fun g=>by kernel_rfl) (fun g=>by kernel_rfl) h
noncomputable def upp_q1 (s:BA):Ex ×
 up_G:=
 loopF (fun g=>up_R g.fst g.snd.fst g.snd.snd.fst g.snd.snd.snd.fst g.snd.snd.snd.snd) up_M (ByteArray.size s,ByteArray.size s,e8.lst (ByteArray.size s) (byteEl s),(↑(ByteArray.size s):Int),(0:Int))
noncomputable def upp_F (s:BA):Dv.T dStr:=
 strOf (intsOf IntKind.u8 (upp_q1 s).snd.fst (e8.els (upp_q1 s).snd.snd.snd.fst))
def upp_side (s:BA):Prop:=
 ByteArray.size s≤maxLen∧(∀ (e:Nat),e<ByteArray.size s→True)∧(∃ N xs i,(ByteArray.size s,ByteArray.size s,e8.lst (ByteArray.size s) (byteEl s),(↑(ByteArray.size s):Int),(0:Int))=up_mk N xs i∧xs.length=N∧i≤N∧N≤KB)∧((upp_q1 s).snd.fst≤(upp_q1 s).snd.snd.snd.fst.length∧∀ (e:Nat),e<(upp_q1 s).snd.fst→((ElE.fn (e8.els (upp_q1 s).snd.snd.snd.fst)).at e).all SV.one=true)∧∀ (e:Nat),e<(upp_q1 s).snd.fst→(Sx.intOf IntKind.u8 ((ElE.fn (e8.els (upp_q1 s).snd.snd.snd.fst)).at e)).isSome=true
theorem upp_okS (pre:DA.T aB→List Prop) (h:∀ g,DA.bd aB g→(∀ p∈pre g,p)→upp_side g):FnPure Tryd.prog 94 aB dStr (fun g=>upp_F g) pre:=pure_of_sideS (Γ:=(PTab.gamz tabB7 [] [])) (Λ:=lamB9) (PTab.okz tabB7 [] []) lamB9_ok 100 default (fun g=>upp_side g) (fun g=>by kernel_rfl) (fun g=>by kernel_rfl) h
noncomputable def rup_q1 (s:BA):Ex ×
 ru_G:=
 loopF (fun g=>ru_R g.fst g.snd.fst g.snd.snd) ru_M (ByteArray.size s,e8.lst (ByteArray.size s) (byteEl s),(0:Int))
noncomputable def rup_F (s:BA):Dv.T dStr:=
 strOf (intsOf IntKind.u8 (rup_q1 s).snd.fst (e8.els (rup_q1 s).snd.snd.fst))
def rup_side (s:BA):Prop:=
 ByteArray.size s≤maxLen∧(∀ (e:Nat),e<ByteArray.size s→True)∧(∃ N xs i,(ByteArray.size s,e8.lst (ByteArray.size s) (byteEl s),(0:Int))=ru_mk N xs i∧xs.length=N∧i≤N∧N≤KB)∧((rup_q1 s).snd.fst≤(rup_q1 s).snd.snd.fst.length∧∀ (e:Nat),e<(rup_q1 s).snd.fst→((ElE.fn (e8.els (rup_q1 s).snd.snd.fst)).at e).all SV.one=true)∧∀ (e:Nat),e<(rup_q1 s).snd.fst→(Sx.intOf IntKind.u8 ((ElE.fn (e8.els (rup_q1 s).snd.snd.fst)).at e)).isSome=true
theorem rup_okS (pre:DA.T aB→List Prop) (h:∀ g,DA.bd aB g→(∀ p∈pre g,p)→rup_side g):FnPure Tryd.prog 109 aB dStr (fun g=>rup_F g) pre:=pure_of_sideS (Γ:=(PTab.gamz tabB7 [] [])) (Λ:=lamB9) (PTab.okz tabB7 [] []) lamB9_ok 100 default (fun g=>rup_side g) (fun g=>by kernel_rfl) (fun g=>by kernel_rfl) h
noncomputable def wds_q1 (s:BA) (c:Int):Ex ×
 wd_G:=
 loopF (fun g=>wd_R g.fst g.snd.fst g.snd.snd.fst g.snd.snd.snd.fst g.snd.snd.snd.snd) wd_M ((),(s,(0:Nat)),c,[],[])
noncomputable def wds_F (s:BA) (c:Int):Rv.T (.list eStr):=
 eStr.lst (min ((wds_q1 s c).snd.snd.snd.snd.fst.length+(1:Nat)) (wds_q1 s c).snd.snd.snd.snd.fst.length) (eStr.els (wds_q1 s c).snd.snd.snd.snd.fst)++List.map (fun x=>runesBytes (intsOf IntKind.i32 (wds_q1 s c).snd.snd.snd.snd.snd.length (e3.els (wds_q1 s c).snd.snd.snd.snd.snd))) (List.range ((wds_q1 s c).snd.snd.snd.snd.fst.length+(1:Nat) - (wds_q1 s c).snd.snd.snd.snd.fst.length))
def wds_side (s:BA) (c:Int):Prop:=
 (∃ p c_1 b,((),(s,(0:Nat)),c,[],[])=wd_mk p c_1 b∧p≤ByteArray.size c_1.fst∧wd_P c_1 b p)∧((wds_q1 s c).snd.snd.snd.snd.snd.length≤(wds_q1 s c).snd.snd.snd.snd.snd.length∧∀ (e:Nat),e<(wds_q1 s c).snd.snd.snd.snd.snd.length→((ElE.fn (e3.els (wds_q1 s c).snd.snd.snd.snd.snd)).at e).all SV.one=true)∧(∀ (e:Nat),e<(wds_q1 s c).snd.snd.snd.snd.snd.length→(Sx.intOf IntKind.i32 ((ElE.fn (e3.els (wds_q1 s c).snd.snd.snd.snd.snd)).at e)).isSome=true)∧((wds_q1 s c).snd.snd.snd.snd.fst.length≤(wds_q1 s c).snd.snd.snd.snd.fst.length∧True∧(wds_q1 s c).snd.snd.snd.snd.fst.length+(1:Nat)≤maxLen∧((wds_q1 s c).snd.snd.snd.snd.fst.length+(1:Nat)) * Tryd.prog.types[(9:Nat)].bytes≤(140737488355328:Nat))∧(wds_q1 s c).snd.snd.snd.snd.fst.length+(1:Nat)≤(wds_q1 s c).snd.snd.snd.snd.fst.length+(1:Nat)∧(∀ (e:Nat),e<min ((wds_q1 s c).snd.snd.snd.snd.fst.length+(1:Nat)) (wds_q1 s c).snd.snd.snd.snd.fst.length→True)∧∀ (e:Nat),e<(wds_q1 s c).snd.snd.snd.snd.fst.length+(1:Nat) - (wds_q1 s c).snd.snd.snd.snd.fst.length→True
theorem wds_okS (pre:DA.T aB3→List Prop) (h:∀ g,DA.bd aB3 g→(∀ p∈pre g,p)→wds_side g.1 g.2):FnPure Tryd.prog 104 aB3 (Rv.D (.list eStr)) (fun g=>wds_F g.1 g.2) pre:=res_of_side (R:=(.list eStr)) (Γ:=(PTab.gamz tabB7 [] [])) (Λ:=lamB9) (PTab.okz tabB7 [] []) lamB9_ok 100 default (fun g=>wds_side g.1 g.2) (fun g=>by kernel_rfl) (fun g=>by kernel_rfl) h
noncomputable def cut_q1 (s:BA) (n:Int):Ex ×
 lct_G:=
 loopF (fun g=>lct_R g.fst g.snd.fst g.snd.snd.fst g.snd.snd.snd.fst g.snd.snd.snd.snd.fst g.snd.snd.snd.snd.snd.fst g.snd.snd.snd.snd.snd.snd.fst) lct_M ((),(),(s,(0:Nat)),s,n,ByteArray.mk #[],(0:Int),LoopState.ready,none)
noncomputable def cut_F (s:BA) (n:Int):Dv.T dStr:=
 bif exB Ex.ret (cut_q1 s n).fst then (cut_q1 s n).snd.snd.snd.snd.snd.snd.fst
 else bif decide ((↑(ByteArray.size (cut_q1 s n).snd.snd.snd.snd.fst):Int)≤(cut_q1 s n).snd.snd.snd.snd.snd.fst) then (cut_q1 s n).snd.snd.snd.snd.fst else ByteArray.extract (cut_q1 s n).snd.snd.snd.snd.fst (0:Nat) (cut_q1 s n).snd.snd.snd.snd.snd.snd.snd.fst.toNat
def cut_side (s:BA) (n:Int):Prop:=
 CodeIs (rangeOf Tryd.prog (20:Nat) (0:Nat)).snd.fst (rangeOf Tryd.prog (20:Nat) (0:Nat)).snd.fst∧CodeIs (rangeOf Tryd.prog (20:Nat) (0:Nat)).snd.snd (rangeOf Tryd.prog (20:Nat) (0:Nat)).snd.snd∧(∃ p c b,((),(),(s,(0:Nat)),s,n,ByteArray.mk #[],(0:Int),LoopState.ready,none)=lct_mk p c b∧p≤ByteArray.size c.t∧lct_P c b p)∧(exB Ex.ret (cut_q1 s n).fst=false→decide ((↑(ByteArray.size (cut_q1 s n).snd.snd.snd.snd.fst):Int)≤(cut_q1 s n).snd.snd.snd.snd.snd.fst)=false→(0:Int)≤(cut_q1 s n).snd.snd.snd.snd.snd.snd.snd.fst∧(cut_q1 s n).snd.snd.snd.snd.snd.snd.snd.fst≤(↑(ByteArray.size (cut_q1 s n).snd.snd.snd.snd.fst):Int))
theorem cut_okS (pre:DA.T aBI→List Prop) (h:∀ g,DA.bd aBI g→(∀ p∈pre g,p)→cut_side g.1 g.2):FnPure Tryd.prog 20 aBI dStr (fun g=>cut_F g.1 g.2) pre:=pure_of_sideS (Γ:=(PTab.gamz tabB7 [] [])) (Λ:=lamB9) (PTab.okz tabB7 [] []) lamB9_ok 100 default (fun g=>cut_side g.1 g.2) (fun g=>by kernel_rfl) (fun g=>by kernel_rfl) h
noncomputable def rcu_q1 (s:BA) (n:Int):Ex ×
 rct_G:=
 loopF (fun g=>rct_R g.fst g.snd.fst g.snd.snd.fst g.snd.snd.snd.fst g.snd.snd.snd.snd) rct_M (s,n,eU.ag (runes05 s),(0:Int),(0:Int))
noncomputable def rcu_F (s:BA) (n:Int):Dv.T dStr:=
 ByteArray.extract (rcu_q1 s n).snd.fst (0:Nat) (rcu_q1 s n).snd.snd.snd.snd.fst.toNat
def rcu_side (s:BA) (n:Int):Prop:=
 ByteArray.size s≤KB∧eU.okL (runes05 s)∧((0:Int)≤(0:Int)∧(0:Int)≤(↑(eU.ag (runes05 s)).length:Int)∧(eU.ag (runes05 s)).length≤KB)∧(0:Int)≤(rcu_q1 s n).snd.snd.snd.snd.fst∧(rcu_q1 s n).snd.snd.snd.snd.fst≤(↑(ByteArray.size (rcu_q1 s n).snd.fst):Int)
theorem rcu_okS (pre:DA.T aBI→List Prop) (h:∀ g,DA.bd aBI g→(∀ p∈pre g,p)→rcu_side g.1 g.2):FnPure Tryd.prog 21 aBI dStr (fun g=>rcu_F g.1 g.2) pre:=pure_of_sideS (Γ:=(PTab.gamz tabB7 [] [])) (Λ:=lamB9) (PTab.okz tabB7 [] []) lamB9_ok 100 default (fun g=>rcu_side g.1 g.2) (fun g=>by kernel_rfl) (fun g=>by kernel_rfl) h
noncomputable def chk_F (r:Rec):Dv.T dI:=
 bif decide ((↑(ByteArray.size r.text):Int) > (64:Int))||!Lib.validD r.text.data.toList then (50:Int)
 else (0:Int)
def chk_side (r:Rec):Prop:=
 (!decide ((↑(ByteArray.size r.text):Int) > (64:Int)))=true→ByteArray.size r.text≤KB
theorem chk_okS (pre:DA.T aR→List Prop) (h:∀ g,DA.bd aR g→(∀ p∈pre g,p)→chk_side g):FnPure Tryd.prog 45 aR dI (fun g=>chk_F g) pre:=pure_of_sideS (Γ:=(PTab.gamz tabB7 [] [])) (Λ:=lamB9) (PTab.okz tabB7 [] []) lamB9_ok 100 default (fun g=>chk_side g) (fun g=>by kernel_rfl) (fun g=>by kernel_rfl) h
noncomputable def rchk_F (r:Rec):Dv.T dI:=
 bif decide ((↑(ByteArray.size r.text):Int) > (64:Int))||!validS r.text then (50:Int) else (0:Int)
def rchk_side (r:Rec):Prop:=
 (!decide ((↑(ByteArray.size r.text):Int) > (64:Int)))=true→ByteArray.size r.text≤KB
theorem rchk_okS (pre:DA.T aR→List Prop) (h:∀ g,DA.bd aR g→(∀ p∈pre g,p)→rchk_side g):FnPure Tryd.prog 46 aR dI (fun g=>rchk_F g) pre:=pure_of_sideS (Γ:=(PTab.gamz tabB7 [] [])) (Λ:=lamB9) (PTab.okz tabB7 [] []) lamB9_ok 100 default (fun g=>rchk_side g) (fun g=>by kernel_rfl) (fun g=>by kernel_rfl) h
end Go.Proofs.YtmegbepjdololaaDoor

namespace Go.Proofs.YtmegbepjdololaaDoor
open Go.RowKit Go.Sx
set_option maxRecDepth 100000
set_option linter.unusedVariables false
noncomputable def ltL:LTab Tryd.prog:=(LTab.nil.cons 113 1 (lrl_C lrl_I lrl_M) lrl_ok)
noncomputable abbrev lamL:Lam:=ltL.lam
theorem lamL_ok:∀ f k L,lamL f k=some L→∀ b∈loopsOf Tryd.prog f,lkey b=k→LoopOk Tryd.prog b L.g:=ltL.ok
noncomputable def lru_q1 (s:BA):Ex ×
 lrl_G:=
 loopF (fun g=>lrl_R g.fst g.snd.fst g.snd.snd.fst g.snd.snd.snd.fst) lrl_M ((),(),(s,(0:Nat)),[],LoopState.ready,none)
noncomputable def lru_F (s:BA):Rv.T (.list eU):=
 eU.ag (lru_q1 s).snd.snd.snd.snd.fst
def lru_side (s:BA):Prop:=
 CodeIs (rangeOf Tryd.prog (18:Nat) (0:Nat)).snd.fst (rangeOf Tryd.prog (18:Nat) (0:Nat)).snd.fst∧CodeIs (rangeOf Tryd.prog (18:Nat) (0:Nat)).snd.snd (rangeOf Tryd.prog (18:Nat) (0:Nat)).snd.snd∧(∃ p c b,((),(),(s,(0:Nat)),[],LoopState.ready,none)=lrl_mk p c b∧p≤ByteArray.size c∧lrl_P c b p)∧(lru_q1 s).snd.snd.snd.snd.fst.length≤(lru_q1 s).snd.snd.snd.snd.fst.length∧∀ (e:Nat),e<(lru_q1 s).snd.snd.snd.snd.fst.length→True
theorem lru_okS (pre:DA.T aB→List Prop) (h:∀ g,DA.bd aB g→(∀ p∈pre g,p)→lru_side g):FnPure Tryd.prog 18 aB (Rv.D (.list eU)) (fun g=>lru_F g) pre:=res_of_side (R:=(.list eU)) (Γ:=(PTab.gamz tabB7 [] [])) (Λ:=lamL) (PTab.okz tabB7 [] []) lamL_ok 100 default (fun g=>lru_side g) (fun g=>by kernel_rfl) (fun g=>by kernel_rfl) h
end Go.Proofs.YtmegbepjdololaaDoor

namespace Go.Proofs.YtmegbepjdololaaDoor
open Go.RowKit Go.Sx Go.Lp
def singleS (s:BA):Bool:=(runes06 s).length==1&&validS s
theorem sgl_ok:FnPure Tryd.prog 124 aB dBool singleS (fun s=>[s.size≤KB]):=
 pure_congr (sgl_okS _ fun s _ hp=>by
  have h:s.size≤KB:=hp _ (List.mem_cons_self ..)
  exact ⟨⟨0,s,0,rfl,Nat.zero_le _,h,Int.le_refl _,Int.le_refl _⟩,fun _=>h⟩) fun s _ hp=>by
  have h2:(sgl_q1 s).2.2.2=_:=(sg_run s (hp _ (List.mem_cons_self ..))).2
  show ((sgl_q1 s).2.2.2==(1:Int)&&validS s)=singleS s
  unfold singleS
  rw[h2]
  congr 1
  rw[Bool.eq_iff_iff]
  simp only[beq_iff_eq]
  omega
def intsL (s:BA):List Int:=(toL s).map fun x=>(x.toNat:Int)
def upS (s:BA):BA:=strOf ((intsL s).map upB)
theorem byte_lst (s:BA):e8.lst s.size (byteEl s)=intsL s:=by
 refine List.ext_getElem ?_ fun i h1 h2=>?_
 ·rw[e8.lst_length];unfold intsL;rw[List.length_map,toL_len]
 ·rw[e8.lst_length] at h1
  have hb:byteEl s i=e8.cells (((toL s)[i]'(by rw[toL_len];exact h1)).toNat:Int):=by
   unfold byteEl
   rw[get_toL,List.getD_eq_getElem?_getD,List.getElem?_eq_getElem (by rw[toL_len];exact h1)]
   rfl
  have:=e8.lst_getD s.size (byteEl s) _ h1
  rw[List.getD_eq_getElem?_getD,List.getElem?_eq_getElem (by rw[e8.lst_length];exact h1)] at this
  simp only[Option.getD_some] at this
  rw[this,hb]
  have e2:(intsL s)[i]=(((toL s)[i]'(by rw[toL_len];exact h1)).toNat:Int):=by simp[intsL]
  rw[e2]
  simp[El.get,e8,eInt,El.one',dInt,SV.int?]
theorem intsL_len (s:BA):(intsL s).length=s.size:=by unfold intsL;rw[List.length_map,toL_len]
theorem upp_q (s:BA) (h:s.size≤KB):upp_q1 s=(.exit 0,up_mk s.size ((intsL s).map upB) s.size):=by
 unfold upp_q1
 rw[byte_lst]
 have:=up_run s.size h s.size 0 (intsL s) (intsL_len s) (Nat.zero_le _) (Nat.sub_le _ _)
 simpa [up_mk] using this
theorem upp_ok:FnPure Tryd.prog 94 aB dStr upS (fun s=>[s.size≤KB]):=
 pure_congr (upp_okS _ fun s _ hp=>by
  have h:s.size≤KB:=hp _ (List.mem_cons_self ..)
  have h':=h
  unfold KB at h'
  unfold upp_side
  rw[upp_q s h]
  refine ⟨by unfold maxLen;omega,fun _ _=>trivial,⟨s.size,intsL s,0,by rw[byte_lst];rfl,intsL_len s,Nat.zero_le _,h⟩,⟨?_,fun k _=>rfl⟩,fun k _=>rfl⟩
  show s.size≤_
  simp only[up_mk,List.length_map,intsL_len]
  exact Nat.le_refl _) fun s _ hp=>by
  have h:s.size≤KB:=hp _ (List.mem_cons_self ..)
  show strOf (intsOf IntKind.u8 (upp_q1 s).2.1 (e8.els (upp_q1 s).2.2.2.1))=upS s
  rw[upp_q s h]
  have:=ints_els .u8 ((intsL s).map upB)
  rw[List.length_map,intsL_len] at this
  show strOf (intsOf IntKind.u8 s.size (e8.els ((intsL s).map upB)))=_
  rw[this];rfl
theorem rup_q (s:BA) (h:s.size≤KB):rup_q1 s=(.exit 0,ru_mk s.size ((intsL s).map upB) s.size):=by
 unfold rup_q1
 rw[byte_lst]
 have:=ru_run s.size h s.size 0 (intsL s) (intsL_len s) (Nat.zero_le _) (Nat.sub_le _ _)
 simpa [ru_mk] using this
theorem rup_ok:FnPure Tryd.prog 109 aB dStr upS (fun s=>[s.size≤KB]):=
 pure_congr (rup_okS _ fun s _ hp=>by
  have h:s.size≤KB:=hp _ (List.mem_cons_self ..)
  have h':=h
  unfold KB at h'
  unfold rup_side
  rw[rup_q s h]
  refine ⟨by unfold maxLen;omega,fun _ _=>trivial,⟨s.size,intsL s,0,by rw[byte_lst];rfl,intsL_len s,Nat.zero_le _,h⟩,⟨?_,fun k _=>rfl⟩,fun k _=>rfl⟩
  show s.size≤_
  simp only[ru_mk,List.length_map,intsL_len]
  exact Nat.le_refl _) fun s _ hp=>by
  have h:s.size≤KB:=hp _ (List.mem_cons_self ..)
  show strOf (intsOf IntKind.u8 (rup_q1 s).2.1 (e8.els (rup_q1 s).2.2.1))=upS s
  rw[rup_q s h]
  have:=ints_els .u8 ((intsL s).map upB)
  rw[List.length_map,intsL_len] at this
  show strOf (intsOf IntKind.u8 s.size (e8.els ((intsL s).map upB)))=_
  rw[this];rfl
theorem cut_ok:FnPure Tryd.prog 20 aBI dStr (fun g=>cutS g.1 g.2) (fun _=>[]):=
 pure_congr (cut_okS _ fun g _ _=>by
  obtain ⟨s,n⟩:=g
  obtain ⟨h1,h2⟩:=lct_run s n (ByteArray.mk #[])
  have e1:(cut_q1 s n).1=_:=h1
  have e2:(cut_q1 s n).2.2.2.2=_:=h2
  show cut_side s n
  refine ⟨rfl,rfl,⟨0,⟨s,s,n⟩,(_,0,.ready,none),rfl,Nat.zero_le _,rfl,Int.le_refl _,Int.le_refl _,rfl⟩,?_⟩
  rw[e1,e2]
  cases hb:(cutP n 0 (rsL (toL s)) 0).1 with
  | true=>intro h;cases h
  | false=>
   intro _ hn
   simp only[cond_false] at hn ⊢
   have hn:=of_decide_eq_false hn
   have hz:∀ (l:List (Nat×Nat)) (p:Nat) (z:Int),0≤z→z≤p→0≤(cutP n p l z).2∧(cutP n p l z).2≤((p+wsum l:Nat):Int):=by
    intro l
    induction l with
    | nil=>intro p z h1 h2;simp only[cutP,wsum,List.map_nil,List.sum_nil];omega
    | cons d l ih=>
     intro p z h1 h2
     simp only[cutP,wsum,List.map_cons,List.sum_cons]
     cases decide ((p:Int) > n) with
     | true=>simp only[cond_true];omega
     | false=>
      simp only[cond_false]
      have:=ih (p+d.2) p (by omega) (by omega)
      unfold wsum at this
      omega
   have:=hz (rsL (toL s)) 0 0 (Int.le_refl _) (Int.le_refl _)
   rw[wsum_rsL,toL_len] at this
   omega) fun g _ _=>by
  obtain ⟨s,n⟩:=g
  obtain ⟨h1,h2⟩:=lct_run s n (ByteArray.mk #[])
  have e1:(cut_q1 s n).1=_:=h1
  have e2:(cut_q1 s n).2.2.2.2=_:=h2
  show cut_F s n=cutS s n
  rw[← cut_fin s n]
  unfold cut_F
  rw[e1,e2]
  cases hb:(cutP n 0 (rsL (toL s)) 0).1 with
  | true=>rfl
  | false=>rfl
theorem runes05_len (s:BA):(runes05 s).length≤s.size:=by
 have h:=rns_len s
 unfold runes06 at h
 unfold runes05 rpL
 rw[List.length_map] at h ⊢
 have:∀ (l:List (Nat×Nat)) (p:Nat),(rpF p l).length=l.length:=by
  intro l
  induction l with
  | nil=>intro p;rfl
  | cons d l ih=>intro p;simp only[rpF,List.length_cons,ih]
 rw[this];exact h
theorem rcu_q (s:BA) (n:Int) (h:s.size≤KB):(rcu_q1 s n).2.1=s∧(rcu_q1 s n).2.2.2.2.1=((cutW (rsL (toL s)) n:Nat):Int):=by
 have hl:=runes05_len s
 have:=rct_run s n (runes05 s) (by omega) (runes05 s).length 0 0 (Nat.zero_le _) (Nat.sub_le _ _)
 have e:rcu_q1 s n=(Ex.exit 0,s,n,runes05 s,rcutF s n (List.drop 0 (runes05 s)) 0,((runes05 s).length:Int)):=by
  unfold rcu_q1
  rw[eU.ag_eq]
  exact this
 rw[e,List.drop_zero]
 refine ⟨rfl,?_⟩
 have h2:=rcut_law s n (rsL (toL s)) 0 (by rw[wsum_rsL,toL_len];omega) (rsL_pos _)
 rw[show n - ((0:Nat):Int)=n by omega,Nat.zero_add] at h2
 exact h2
theorem cutW_size (s:BA) (n:Int):cutW (rsL (toL s)) n≤s.size:=by
 have:=cutW_le (rsL (toL s)) n
 rw[wsum_rsL,toL_len] at this
 exact this
theorem rcu_ok:FnPure Tryd.prog 21 aBI dStr (fun g=>cutS g.1 g.2) (fun g=>[g.1.size≤KB]):=
 pure_congr (rcu_okS _ fun g _ hp=>by
  obtain ⟨s,n⟩:=g
  have h:s.size≤KB:=hp _ (List.mem_cons_self ..)
  obtain ⟨e1,e2⟩:=rcu_q s n h
  have hl:=runes05_len s
  show rcu_side s n
  unfold rcu_side
  rw[e1,e2,eU.ag_eq,eU.okL_eq]
  have:=cutW_size s n
  exact ⟨h,trivial,⟨Int.le_refl _,by omega,by omega⟩,by omega,by omega⟩) fun g _ hp=>by
  obtain ⟨s,n⟩:=g
  have h:s.size≤KB:=hp _ (List.mem_cons_self ..)
  obtain ⟨e1,e2⟩:=rcu_q s n h
  show ByteArray.extract (rcu_q1 s n).2.1 0 (rcu_q1 s n).2.2.2.2.1.toNat=_
  rw[e1,e2];rfl
def chkR (r:Rec):Int:=bif decide ((r.text.size:Int) > 64)||!validS r.text then 50 else 0
theorem chk_ok:FnPure Tryd.prog 45 aR dI chkR (fun _=>[]):=
 pure_congr (chk_okS _ fun r _ _ h=>by
  have h:=of_decide_eq_false (by simpa using h:decide ((r.text.size:Int) > 64)=false)
  unfold KB;omega) fun r _ _=>rfl
theorem rchk_ok:FnPure Tryd.prog 46 aR dI chkR (fun _=>[]):=
 pure_congr (rchk_okS _ fun r _ _ h=>by
  have h:=of_decide_eq_false (by simpa using h:decide ((r.text.size:Int) > 64)=false)
  unfold KB;omega) fun r _ _=>rfl
theorem wds_ok:FnPure Tryd.prog 104 aB3 dLB (fun g=>wordsF g.2 (runes06 g.1) [] []) (fun g=>[g.1.size≤KB]):=by
 refine pure_congr (wds_okS _ fun g _ hp=>?_) fun g _ hp=>?_
 ·obtain ⟨s,c⟩:=g
  have h:s.size≤KB:=hp _ (List.mem_cons_self ..)
  obtain ⟨h1,h2,h3⟩:=wd_run s c h
  have h3:(wds_q1 s c).2.2.2.2.1.length≤KB:=h3
  unfold KB at h3
  show wds_side s c
  unfold wds_side
  rw[bytesS]
  unfold maxLen
  refine ⟨⟨0,(s,c),([],[]),rfl,Nat.zero_le _,h,Nat.le_refl _,Nat.le_refl _⟩,⟨Nat.le_refl _,fun _ _=>rfl⟩,fun _ _=>rfl,⟨Nat.le_refl _,trivial,by omega,by omega⟩,Nat.le_refl _,fun _ _=>trivial,fun _ _=>trivial⟩
 ·obtain ⟨s,c⟩:=g
  have h:s.size≤KB:=hp _ (List.mem_cons_self ..)
  obtain ⟨h1,h2,h3⟩:=wd_run s c h
  show wds_F s c=_
  unfold wds_F
  rw[app1,ints_els]
  exact h2
theorem lru_ok:FnPure Tryd.prog 18 aB dLU runes05 (fun s=>[s.size≤KB]):=
 pure_congr (lru_okS _ fun s _ hp=>by
  have h:s.size≤KB:=hp _ (List.mem_cons_self ..)
  exact ⟨rfl,rfl,⟨0,s,([],.ready,none),rfl,Nat.zero_le _,rfl,h,Nat.le_refl _⟩,Nat.le_refl _,fun _ _=>trivial⟩) fun s _ hp=>by
  have h:s.size≤KB:=hp _ (List.mem_cons_self ..)
  obtain ⟨h1,h2⟩:=lrl_run s h
  show eU.ag (lru_q1 s).2.2.2.2.1=_
  rw[eU.ag_eq]
  exact congrArg (·.1) h2
noncomputable def tabB12:PTab Tryd.prog:=((((((((tabB7.cons 124 (pconP aB dBool singleS (fun s=>[s.size≤KB])) (conP_ok sgl_ok puB)).cons 94 (pconP aB dStr upS (fun s=>[s.size≤KB])) (conP_ok upp_ok puS)).cons 109 (pconP aB dStr upS (fun s=>[s.size≤KB])) (conP_ok rup_ok puS)).cons 20 (pconP aBI dStr (fun g=>cutS g.1 g.2) (fun _=>[])) (conP_ok cut_ok puS)).cons 21 (pconP aBI dStr (fun g=>cutS g.1 g.2) (fun g=>[g.1.size≤KB])) (conP_ok rcu_ok puS)).cons 45 (pconP aR dI chkR (fun _=>[])) (conP_ok chk_ok puI)).cons 46 (pconP aR dI chkR (fun _=>[])) (conP_ok rchk_ok puI)).cons 104 (pconR aB3 dLB (fun g=>wordsF g.2 (runes06 g.1) [] []) (fun g=>[g.1.size≤KB])) (conR_ok wds_ok)).cons 18 (pconR aB dLU runes05 (fun s=>[s.size≤KB])) (conR_ok lru_ok)
end Go.Proofs.YtmegbepjdololaaDoor

namespace Go.Proofs.YtmegbepjdololaaDoor
open Go.RowKit Go.Sx
set_option maxRecDepth 100000
set_option linter.unusedVariables false
noncomputable def txt_F (f:Fn):Dv.T dBool:=
 bif f.kind==(5:Int) then !decide (f.s=ByteArray.mk #[])&&(decide ((↑(ByteArray.size f.s):Int)≤(16:Int))&&Lib.validD f.s.data.toList)
 else bif bif f.kind==(12:Int) then f.kind==(12:Int) else f.kind==(22:Int) then singleS f.s else decide (f.s=ByteArray.mk #[])
def txt_side (f:Fn):Prop:=
 ((f.kind==(5:Int))=true→(!decide (f.s=ByteArray.mk #[]))=true→decide ((↑(ByteArray.size f.s):Int)≤(16:Int))=true→ByteArray.size f.s≤KB)∧((f.kind==(5:Int))=false→(bif f.kind==(12:Int) then f.kind==(12:Int) else f.kind==(22:Int))=true→ByteArray.size f.s≤KB)
theorem txt_okS (pre:DA.T aF→List Prop) (h:∀ g,DA.bd aF g→(∀ p∈pre g,p)→txt_side g):FnPure Tryd.prog 100 aF dBool (fun g=>txt_F g) pre:=pure_of_sideS (Γ:=(PTab.gamz tabB12 [] [])) (Λ:=noΛ) (PTab.okz tabB12 [] []) noΛ_ok 100 default (fun g=>txt_side g) (fun g=>by kernel_rfl) (fun g=>by kernel_rfl) h
noncomputable def rtx_F (f:Fn):Dv.T dBool:=
 bif f.kind==(5:Int) then decide ((↑(ByteArray.size f.s):Int)≥(1:Int))&&(decide ((↑(ByteArray.size f.s):Int)≤(16:Int))&&validS f.s)
 else bif bif f.kind==(12:Int) then f.kind==(12:Int) else f.kind==(22:Int) then decide ((↑(ByteArray.size f.s):Int)≤(4:Int))&&(validS f.s&&(↑(runes05 f.s).length:Int)==(1:Int)) else decide (f.s=ByteArray.mk #[])
def rtx_side (f:Fn):Prop:=
 ((f.kind==(5:Int))=true→decide ((↑(ByteArray.size f.s):Int)≥(1:Int))=true→decide ((↑(ByteArray.size f.s):Int)≤(16:Int))=true→ByteArray.size f.s≤KB)∧((f.kind==(5:Int))=false→(bif f.kind==(12:Int) then f.kind==(12:Int) else f.kind==(22:Int))=true→(decide ((↑(ByteArray.size f.s):Int)≤(4:Int))=true→ByteArray.size f.s≤KB)∧(decide ((↑(ByteArray.size f.s):Int)≤(4:Int))=true→validS f.s=true→ByteArray.size f.s≤KB))
theorem rtx_okS (pre:DA.T aF→List Prop) (h:∀ g,DA.bd aF g→(∀ p∈pre g,p)→rtx_side g):FnPure Tryd.prog 102 aF dBool (fun g=>rtx_F g) pre:=pure_of_sideS (Γ:=(PTab.gamz tabB12 [] [])) (Λ:=noΛ) (PTab.okz tabB12 [] []) noΛ_ok 100 default (fun g=>rtx_side g) (fun g=>by kernel_rfl) (fun g=>by kernel_rfl) h
noncomputable def tabB13:PTab Tryd.prog:=tabB12
end Go.Proofs.YtmegbepjdololaaDoor

namespace Go.Proofs.YtmegbepjdololaaDoor
open Go.RowKit Go.Sx Go.Lp
theorem single_size (s:BA) (h:singleS s=true):s.size≤4:=by
 unfold singleS at h
 simp only[Bool.and_eq_true,beq_iff_eq] at h
 obtain ⟨h1,h2⟩:=h
 have hv:=valid_rns (toL s) h2
 unfold runes06 at h1
 rw[List.length_map] at h1
 have h3:(rns (toL s)).length=1:=by unfold rns;rw[List.length_map];exact h1
 obtain ⟨c,hc⟩:=List.length_eq_one_iff.1 h3
 have hs:sc c:=rns_sc (toL s) c (by rw[hc];simp)
 rw[hc] at hv
 have:=congrArg List.length hv
 rw[toL_len] at this
 have h4:=(encL_len hs).2
 simp only[encs,List.flatMap_cons,List.flatMap_nil,List.append_nil] at this
 omega
theorem runes_len (s:BA):(runes05 s).length=(runes06 s).length:=by
 unfold runes05 runes06 rpL
 rw[List.length_map,List.length_map]
 have:∀ (l:List (Nat×Nat)) (p:Nat),(rpF p l).length=l.length:=by
  intro l
  induction l with
  | nil=>intro p;rfl
  | cons d l ih=>intro p;simp only[rpF,List.length_cons,ih]
 exact this _ _
def textF (f:Fn):Bool:=bif f.kind==(5:Int) then !decide (f.s=ByteArray.mk #[])&&(decide ((f.s.size:Int)≤16)&&validS f.s) else bif f.kind==(12:Int)||f.kind==(22:Int) then singleS f.s else decide (f.s=ByteArray.mk #[])
theorem size_emp (s:BA):s.size=0↔s=ByteArray.mk #[]:=by
 constructor
 ·intro h
  cases s with
  | mk d=>
   have:d.size=0:=h
   have:=Array.eq_empty_of_size_eq_zero this
   rw[this]
 ·rintro rfl;rfl
theorem txt_eq (f:Fn):txt_F f=textF f:=by
 unfold txt_F textF
 cases f.kind==(12:Int) <;> rfl
theorem rtx_eq (f:Fn):rtx_F f=textF f:=by
 unfold rtx_F textF
 have e1:decide ((f.s.size:Int)≥1)=!decide (f.s=ByteArray.mk #[]):=by
  rw[Bool.eq_iff_iff]
  simp only[decide_eq_true_eq,Bool.not_eq_true',decide_eq_false_iff_not,← size_emp]
  omega
 have e2:(decide ((f.s.size:Int)≤4)&&(validS f.s&&((runes05 f.s).length:Int)==(1:Int)))=singleS f.s:=by
  rw[runes_len]
  have e3:(((runes06 f.s).length:Int)==(1:Int))=((runes06 f.s).length==1):=by
   rw[Bool.eq_iff_iff];simp only[beq_iff_eq];omega
  rw[e3]
  cases hs:singleS f.s with
  | true=>
   have:=single_size f.s hs
   unfold singleS at hs
   simp only[Bool.and_eq_true] at hs
   rw[hs.1,hs.2,decide_eq_true (by omega)];rfl
  | false=>
   unfold singleS at hs
   cases h1:(runes06 f.s).length==1 with
   | false=>simp
   | true=>rw[h1] at hs;simp only[Bool.true_and] at hs;rw[hs];simp
 rw[e1,e2]
 cases f.kind==(12:Int) <;> rfl
theorem txt_ok:FnPure Tryd.prog 100 aF dBool textF (fun f=>[f.s.size≤KB]):=
 pure_congr (txt_okS _ fun f _ hp=>by
  have h:f.s.size≤KB:=hp _ (List.mem_cons_self ..)
  exact ⟨fun _ _ _=>h,fun _ _=>h⟩) fun f _ _=>txt_eq f
theorem rtx_ok:FnPure Tryd.prog 102 aF dBool textF (fun f=>[f.s.size≤KB]):=
 pure_congr (rtx_okS _ fun f _ hp=>by
  have h:f.s.size≤KB:=hp _ (List.mem_cons_self ..)
  exact ⟨fun _ _ _=>h,fun _ _=>⟨fun _=>h,fun _ _=>h⟩⟩) fun f _ _=>rtx_eq f
noncomputable def tabC1:PTab Tryd.prog:=(tabB13.cons 100 (pconP aF dBool textF (fun f=>[f.s.size≤KB])) (conP_ok txt_ok puB)).cons 102 (pconP aF dBool textF (fun f=>[f.s.size≤KB])) (conP_ok rtx_ok puB)
end Go.Proofs.YtmegbepjdololaaDoor

namespace Go.Proofs.YtmegbepjdololaaDoor
open Go.RowKit Go.Sx
set_option maxRecDepth 100000
set_option linter.unusedVariables false
abbrev pI:Dv Int:=dPr eI
abbrev dIt:Dv (Int×Int):=dFnA 103 (.cons pI (.one pI))
abbrev aIt:DA ((Int×Int)×Int):=.cons dIt (.one dI)
abbrev lfc_G:Type:=Unit×Unit×Int×Int×Fn×Int×LoopState×Option Code
noncomputable def lfc_LP:LP 6 lfc_G:=.pair (.fix 6 0 (.yl 5)) (.pair (.fix 6 2 (.p 3 0)) (.pair (.slot 6 4 dI) (.pair (.obj 6 3 3 eI) (.pair (.obj 6 0 66 eF) (.pair (.obj 6 1 35 eI) (.rf 6 5 Tryd.prog 54 0 33 [(3,.p 0 0),(4,.p 1 0)] 4))))))
noncomputable def lfc_R (_u:Unit) (_u2:Unit) (k:Int) (hi:Int) (f:Fn) (r:Int):Ex×lfc_G:=
 bif decide (k≤hi) then bif k==f.kind&&(num_F f&&textF f) then (Ex.ret,(),(),k,hi,f,(0:Int),LoopState.done,some Code.ret) else (Ex.normal,(),(),IntKind.i64.wrap (k+(1:Int)),hi,f,r,LoopState.ready,none)
 else (Ex.exit (0:Nat),(),(),k,hi,f,r,LoopState.ready,none)
def lfc_side (_u:Unit) (_u2:Unit) (k:Int) (hi:Int) (f:Fn) (r:Int):Prop:=
 (decide (k≤hi)=true→((k==f.kind)=true→num_F f=true→ByteArray.size f.s≤KB)∧((k==f.kind&&(num_F f&&textF f))=true→CodeIs (rangeOf Tryd.prog (54:Nat) (0:Nat)).snd.fst (rangeOf Tryd.prog (54:Nat) (0:Nat)).snd.fst∧CodeIs (rangeOf Tryd.prog (54:Nat) (0:Nat)).snd.snd (rangeOf Tryd.prog (54:Nat) (0:Nat)).snd.snd)∧((k==f.kind&&(num_F f&&textF f))=false→CodeIs (rangeOf Tryd.prog (54:Nat) (0:Nat)).snd.fst (rangeOf Tryd.prog (54:Nat) (0:Nat)).snd.fst∧CodeIs (rangeOf Tryd.prog (54:Nat) (0:Nat)).snd.snd (rangeOf Tryd.prog (54:Nat) (0:Nat)).snd.snd))∧(decide (k≤hi)=false→CodeIs (rangeOf Tryd.prog (54:Nat) (0:Nat)).snd.fst (rangeOf Tryd.prog (54:Nat) (0:Nat)).snd.fst∧CodeIs (rangeOf Tryd.prog (54:Nat) (0:Nat)).snd.snd (rangeOf Tryd.prog (54:Nat) (0:Nat)).snd.snd)
theorem lfc_one:((loopsOf Tryd.prog 103).filter fun c=>Nat.beq (lkey c) 1).length=1:=by kernel_rfl
def lfc_E:List ((Ex×lfc_G→Bool)×Ex×(lfc_G→lfc_G)):=[(fun x=>exB (.ret) x.1,.ret,fun g=>(g.1,g.2.1,g.2.2.1,g.2.2.2.1,g.2.2.2.2.1,g.2.2.2.2.2.1,(.done,some .ret))),(fun x=>exB (.exit 0) x.1,.exit 0,fun g=>(g.1,g.2.1,g.2.2.1,g.2.2.2.1,g.2.2.2.2.1,g.2.2.2.2.2.1,(.ready,none)))]
theorem lfc_es (g:lfc_G):(lfc_R g.1 g.2.1 g.2.2.1 g.2.2.2.1 g.2.2.2.2.1 g.2.2.2.2.2.1).1=.normal∨exitsOk (lfc_R g.1 g.2.1 g.2.2.1 g.2.2.2.1 g.2.2.2.2.1 g.2.2.2.2.2.1) lfc_E:=by
 unfold lfc_R
 repeat' (first | (left;rfl) | (right;exact ⟨fun _=>⟨rfl,rfl⟩,fun h=>absurd h (by simp[exB,pdB])⟩) | (right;exact ⟨fun h=>absurd h (by simp[exB,pdB]),fun _=>⟨rfl,rfl⟩⟩) | (rw[Bool.cond_eq_ite];split))
noncomputable abbrev lfc_C (Inv:lfc_G→List Prop) (m:lfc_G→Nat):LCon:=loopRS lfc_E (loopBody Tryd.prog 103 1) lfc_LP [] 15 Inv (fun g=>lfc_R g.1 g.2.1 g.2.2.1 g.2.2.2.1 g.2.2.2.2.1 g.2.2.2.2.2.1) m
noncomputable def lfc_i (g:lfc_G):lfc_G:=(g.1,g.2.1,g.2.2.1,g.2.2.2.1,g.2.2.2.2.1,g.2.2.2.2.2.1,(LoopState.ready,none))
theorem lfc_loop (Inv:lfc_G→List Prop) (m:lfc_G→Nat) (hs:∀ g,allP (Inv g)→lfc_side g.1 g.2.1 g.2.2.1 g.2.2.2.1 g.2.2.2.2.1 g.2.2.2.2.2.1) (hι:∀ g,allP (Inv g)→lfc_i g=g) (hg:Goes (fun g:lfc_G=>lfc_R g.1 g.2.1 g.2.2.1 g.2.2.2.1 g.2.2.2.2.1 g.2.2.2.2.2.1) m fun g=>allP (Inv g)):∀ b∈loopsOf Tryd.prog 103,lkey b=1→LoopOk Tryd.prog b (lfc_C Inv m).g:=loop_runS lfc_i (Γ:=(PTab.gamz tabC1 [] [])) (Λ:=noΛ) (PTab.okz tabC1 [] []) noΛ_ok 100 103 1 15 lfc_LP [] Inv (fun g=>lfc_R g.1 g.2.1 g.2.2.1 g.2.2.2.1 g.2.2.2.2.1 g.2.2.2.2.2.1) (fun g=>lfc_side g.1 g.2.1 g.2.2.1 g.2.2.2.1 g.2.2.2.2.1 g.2.2.2.2.2.1) m default lfc_E lfc_one (fun rd T B HL HB ds g=>by kernel_rfl) (fun rd T B HL HB ds g=>by kernel_rfl) hι hs hg lfc_es
abbrev ltl_G:Type:=Unit×Int×Int×Int×List Int×LoopState×Option Code
noncomputable def ltl_LP:LP 4 ltl_G:=.pair (.fix 4 0 (.yl 3)) (.pair (.slot 4 2 pI) (.pair (.slot 4 4 dI) (.pair (.obj 4 0 3 eI) (.pair (.objRow 4 1 72 3 eI) (.rf 4 3 Tryd.prog 57 0 20 [(3,.p 0 0),(5,.p 1 0)] 2)))))
noncomputable def ltl_R (_u:Unit) (hi:Int) (k:Int) (m:Int) (o:List Int):Ex×ltl_G:=
 bif decide (k≤hi) then bif decide ((↑o.length:Int)≥m) then (Ex.ret,(),hi,k,m,eI.ag o,LoopState.done,some (Code.exit (0:Nat))) else (Ex.normal,(),hi,IntKind.i64.wrap (k+(1:Int)),m,eI.lst (min (o.length+(1:Nat)) o.length) (eI.els o)++List.map (fun x=>k) (List.range (o.length+(1:Nat) - o.length)),LoopState.ready,none)
 else (Ex.exit (0:Nat),(),hi,k,m,eI.ag o,LoopState.ready,none)
def ltl_side (_u:Unit) (hi:Int) (k:Int) (m:Int) (o:List Int):Prop:=
 (decide (k≤hi)=true→(decide ((↑o.length:Int)≥m)=true→o.length≤o.length∧(∀ (e:Nat),e<o.length→True)∧CodeIs (rangeOf Tryd.prog (57:Nat) (0:Nat)).snd.fst (rangeOf Tryd.prog (57:Nat) (0:Nat)).snd.fst∧CodeIs (rangeOf Tryd.prog (57:Nat) (0:Nat)).snd.snd (rangeOf Tryd.prog (57:Nat) (0:Nat)).snd.snd)∧(decide ((↑o.length:Int)≥m)=false→(o.length≤o.length∧True∧o.length+(1:Nat)≤maxLen∧(o.length+(1:Nat)) * Tryd.prog.types[(3:Nat)].bytes≤(140737488355328:Nat))∧o.length+(1:Nat)≤o.length+(1:Nat)∧(∀ (e:Nat),e<min (o.length+(1:Nat)) o.length→True)∧(∀ (e:Nat),e<o.length+(1:Nat) - o.length→True)∧CodeIs (rangeOf Tryd.prog (57:Nat) (0:Nat)).snd.fst (rangeOf Tryd.prog (57:Nat) (0:Nat)).snd.fst∧CodeIs (rangeOf Tryd.prog (57:Nat) (0:Nat)).snd.snd (rangeOf Tryd.prog (57:Nat) (0:Nat)).snd.snd))∧(decide (k≤hi)=false→o.length≤o.length∧(∀ (e:Nat),e<o.length→True)∧CodeIs (rangeOf Tryd.prog (57:Nat) (0:Nat)).snd.fst (rangeOf Tryd.prog (57:Nat) (0:Nat)).snd.fst∧CodeIs (rangeOf Tryd.prog (57:Nat) (0:Nat)).snd.snd (rangeOf Tryd.prog (57:Nat) (0:Nat)).snd.snd)
theorem ltl_one:((loopsOf Tryd.prog 103).filter fun c=>Nat.beq (lkey c) 1).length=1:=by kernel_rfl
def ltl_E:List ((Ex×ltl_G→Bool)×Ex×(ltl_G→ltl_G)):=[(fun x=>exB (.ret) x.1,.ret,fun g=>(g.1,g.2.1,g.2.2.1,g.2.2.2.1,g.2.2.2.2.1,(.done,some (.exit 0)))),(fun x=>exB (.exit 0) x.1,.exit 0,fun g=>(g.1,g.2.1,g.2.2.1,g.2.2.2.1,g.2.2.2.2.1,(.ready,none)))]
theorem ltl_es (g:ltl_G):(ltl_R g.1 g.2.1 g.2.2.1 g.2.2.2.1 g.2.2.2.2.1).1=.normal∨exitsOk (ltl_R g.1 g.2.1 g.2.2.1 g.2.2.2.1 g.2.2.2.2.1) ltl_E:=by
 unfold ltl_R
 repeat' (first | (left;rfl) | (right;exact ⟨fun _=>⟨rfl,rfl⟩,fun h=>absurd h (by simp[exB,pdB])⟩) | (right;exact ⟨fun h=>absurd h (by simp[exB,pdB]),fun _=>⟨rfl,rfl⟩⟩) | (rw[Bool.cond_eq_ite];split))
noncomputable abbrev ltl_C (Inv:ltl_G→List Prop) (m:ltl_G→Nat):LCon:=loopRS ltl_E (loopBody Tryd.prog 103 1) ltl_LP [] 15 Inv (fun g=>ltl_R g.1 g.2.1 g.2.2.1 g.2.2.2.1 g.2.2.2.2.1) m
noncomputable def ltl_i (g:ltl_G):ltl_G:=(g.1,g.2.1,g.2.2.1,g.2.2.2.1,g.2.2.2.2.1,(LoopState.ready,none))
theorem ltl_loop (Inv:ltl_G→List Prop) (m:ltl_G→Nat) (hs:∀ g,allP (Inv g)→ltl_side g.1 g.2.1 g.2.2.1 g.2.2.2.1 g.2.2.2.2.1) (hι:∀ g,allP (Inv g)→ltl_i g=g) (hg:Goes (fun g:ltl_G=>ltl_R g.1 g.2.1 g.2.2.1 g.2.2.2.1 g.2.2.2.2.1) m fun g=>allP (Inv g)):∀ b∈loopsOf Tryd.prog 103,lkey b=1→LoopOk Tryd.prog b (ltl_C Inv m).g:=loop_runS ltl_i (Γ:=(PTab.gamz tabC1 [] [])) (Λ:=noΛ) (PTab.okz tabC1 [] []) noΛ_ok 100 103 1 15 ltl_LP [] Inv (fun g=>ltl_R g.1 g.2.1 g.2.2.1 g.2.2.2.1 g.2.2.2.2.1) (fun g=>ltl_side g.1 g.2.1 g.2.2.1 g.2.2.2.1 g.2.2.2.2.1) m default ltl_E ltl_one (fun rd T B HL HB ds g=>by kernel_rfl) (fun rd T B HL HB ds g=>by kernel_rfl) hι hs hg ltl_es
abbrev lru2_G:Type:=Int×List Int×Int
noncomputable def lru2_LP:LP 0 lru2_G:=.pair (.slot 0 4 dI) (.pair (.row 0 5 3 eI) (.slot 0 6 dI))
noncomputable def lru2_R (hi:Int) (o:List Int) (k:Int):Ex×lru2_G:=
 bif decide (k≤hi) then (Ex.normal,hi,eI.lst (min (o.length+(1:Nat)) o.length) (eI.els o)++List.map (fun x=>k) (List.range (o.length+(1:Nat) - o.length)),IntKind.i64.wrap (k+(1:Int)))
 else (Ex.exit (1:Nat),hi,eI.ag o,k)
def lru2_side (hi:Int) (o:List Int) (k:Int):Prop:=
 (decide (k≤hi)=true→(o.length≤o.length∧True∧o.length+(1:Nat)≤maxLen∧(o.length+(1:Nat)) * Tryd.prog.types[(3:Nat)].bytes≤(140737488355328:Nat))∧o.length+(1:Nat)≤o.length+(1:Nat)∧(∀ (e:Nat),e<min (o.length+(1:Nat)) o.length→True)∧∀ (e:Nat),e<o.length+(1:Nat) - o.length→True)∧(decide (k≤hi)=false→o.length≤o.length∧∀ (e:Nat),e<o.length→True)
theorem lru2_one:((loopsOf Tryd.prog 53).filter fun c=>Nat.beq (lkey c) 15).length=1:=by kernel_rfl
theorem lru2_es (g:lru2_G):(lru2_R g.1 g.2.1 g.2.2).1=.normal∨(lru2_R g.1 g.2.1 g.2.2).1∈([.exit 1]:List Ex):=by
 unfold lru2_R
 repeat' (first | (left;rfl) | (right;simp only[cond_true,cond_false];simp;done) | (rw[Bool.cond_eq_ite];split))
noncomputable abbrev lru2_C (Inv:lru2_G→List Prop) (m:lru2_G→Nat):LCon:=loopR [.exit 1] (loopBody Tryd.prog 53 15) lru2_LP [] 29 Inv (fun g=>lru2_R g.1 g.2.1 g.2.2) m
theorem lru2_loop (Inv:lru2_G→List Prop) (m:lru2_G→Nat) (hs:∀ g,allP (Inv g)→lru2_side g.1 g.2.1 g.2.2) (hg:Goes (fun g:lru2_G=>lru2_R g.1 g.2.1 g.2.2) m fun g=>allP (Inv g)):∀ b∈loopsOf Tryd.prog 53,lkey b=15→LoopOk Tryd.prog b (lru2_C Inv m).g:=loop_run (Γ:=(PTab.gamz tabC1 [] [])) (Λ:=noΛ) (PTab.okz tabC1 [] []) noΛ_ok 100 53 15 29 lru2_LP [] Inv (fun g=>lru2_R g.1 g.2.1 g.2.2) (fun g=>lru2_side g.1 g.2.1 g.2.2) m default [.exit 1] lru2_one (fun rd T B HL HB ds g=>by kernel_rfl) (fun rd T B HL HB ds g=>by kernel_rfl) hs hg lru2_es
abbrev lrc_G:Type:=List Int×Int×Unit×Fn×Int
noncomputable def lrc_LP:LP 1 lrc_G:=.pair (.slot 1 5 dLI) (.pair (.slot 1 6 dI) (.pair (.fix 1 3 (.p 0 0)) (.pair (.obj 1 0 66 eF) (.slot 1 4 dI))))
noncomputable def lrc_R (xs:List Int) (i:Int) (_u:Unit) (f:Fn) (r:Int):Ex×lrc_G:=
 bif decide (i<(↑xs.length:Int)) then bif xs.getD i.toNat eI.dflt==f.kind&&(rnum_F f&&textF f) then (Ex.ret,eI.ag xs,i,(),f,(0:Int)) else (Ex.normal,eI.ag xs,IntKind.i64.wrap (i+(1:Int)),(),f,r)
 else (Ex.exit (0:Nat),eI.ag xs,i,(),f,r)
def lrc_side (xs:List Int) (i:Int) (_u:Unit) (f:Fn) (r:Int):Prop:=
 (decide (i<(↑xs.length:Int))=true→((0:Int)≤i∧i<(↑xs.length:Int))∧((xs.getD i.toNat eI.dflt==f.kind)=true→rnum_F f=true→ByteArray.size f.s≤KB)∧((xs.getD i.toNat eI.dflt==f.kind&&(rnum_F f&&textF f))=true→eI.okL xs)∧((xs.getD i.toNat eI.dflt==f.kind&&(rnum_F f&&textF f))=false→eI.okL xs))∧(decide (i<(↑xs.length:Int))=false→eI.okL xs)
theorem lrc_one:((loopsOf Tryd.prog 55).filter fun c=>Nat.beq (lkey c) 5).length=1:=by kernel_rfl
abbrev lrc_GC:Type:=List Int×Fn
abbrev lrc_GB:Type:=Unit×Int
def lrc_f (g:lrc_G):Int×lrc_GC×lrc_GB:=(g.2.1,(g.1,g.2.2.2.1),(g.2.2.1,g.2.2.2.2))
def lrc_g (d:Int×lrc_GC×lrc_GB):lrc_G:=(d.2.1.1,d.1,d.2.2.1,d.2.1.2,d.2.2.2)
theorem lrc_es (g:lrc_G):(lrc_R g.1 g.2.1 g.2.2.1 g.2.2.2.1 g.2.2.2.2).1=.normal∨(lrc_R g.1 g.2.1 g.2.2.1 g.2.2.2.1 g.2.2.2.2).1∈([.ret,.exit 0]:List Ex):=by
 unfold lrc_R
 repeat' (first | (left;rfl) | (right;simp only[cond_true,cond_false];simp;done) | (rw[Bool.cond_eq_ite];split))
noncomputable abbrev lrc_C (Inv:lrc_G→List Prop) (m:lrc_G→Nat):LCon:=loopR [.ret,.exit 0] (loopBody Tryd.prog 55 5) lrc_LP [] 38 Inv (fun g=>lrc_R g.1 g.2.1 g.2.2.1 g.2.2.2.1 g.2.2.2.2) m
theorem lrc_loop (Inv:lrc_G→List Prop) (m:lrc_G→Nat) (hs:∀ g,allP (Inv g)→lrc_side g.1 g.2.1 g.2.2.1 g.2.2.2.1 g.2.2.2.2) (hg:Goes (fun g:lrc_G=>lrc_R g.1 g.2.1 g.2.2.1 g.2.2.2.1 g.2.2.2.2) m fun g=>allP (Inv g)):∀ b∈loopsOf Tryd.prog 55,lkey b=5→LoopOk Tryd.prog b (lrc_C Inv m).g:=loop_run (Γ:=(PTab.gamz tabC1 [] [])) (Λ:=noΛ) (PTab.okz tabC1 [] []) noΛ_ok 100 55 5 38 lrc_LP [] Inv (fun g=>lrc_R g.1 g.2.1 g.2.2.1 g.2.2.2.1 g.2.2.2.2) (fun g=>lrc_side g.1 g.2.1 g.2.2.1 g.2.2.2.1 g.2.2.2.2) m default [.ret,.exit 0] lrc_one (fun rd T B HL HB ds g=>by kernel_rfl) (fun rd T B HL HB ds g=>by kernel_rfl) hs hg lrc_es
end Go.Proofs.YtmegbepjdololaaDoor

namespace Go.Proofs.YtmegbepjdololaaDoor
open Go.RowKit Go.Sx Go.Lp
def upTo (lo hi:Int):List Int:=(List.range (hi+1 - lo).toNat).map fun (j:Nat)=>lo+(j:Int)
theorem upTo_step (lo hi:Int) (h:lo≤hi):upTo lo hi=lo :: upTo (lo+1) hi:=by
 unfold upTo
 obtain ⟨n,hn⟩:∃ n,(hi+1 - lo).toNat=n+1:=⟨(hi+1 - lo).toNat - 1,by omega⟩
 rw[hn,show (hi+1 - (lo+1)).toNat=n by omega,List.range_succ_eq_map,List.map_cons,List.map_map]
 congr 1
 ·simp
 ·refine List.map_congr_left fun j _=>?_
  simp only[Function.comp]
  omega
theorem upTo_nil (lo hi:Int) (h:hi<lo):upTo lo hi=[]:=by
 unfold upTo
 rw[show (hi+1 - lo).toNat=0 by omega];rfl
def smallI (k:Int):Prop:=-1000≤k∧k≤1000
structure FcC where
 hi:Int
 f:Fn
abbrev FcB:=Int×LoopState×Option Code
def lfc_mk (k:Int) (c:FcC) (b:FcB):lfc_G:=((),(),k,c.hi,c.f,b.1,b.2.1,b.2.2)
noncomputable def lfc_st (c:FcC) (b:FcB) (k:Int):Ex×FcB:=bif k==c.f.kind&&(num_F c.f&&textF c.f) then (.ret,0,.done,some .ret) else (.normal,b.1,.ready,none)
def lfc_P (c:FcC) (b:FcB) (k:Int):Prop:=b.2=(LoopState.ready,(none:Option Code))∧-1000≤k∧k≤1001∧smallI c.hi∧c.f.s.size≤KB
noncomputable abbrev lfc_J (g:lfc_G):List Prop:=ctI FcC.hi lfc_P lfc_mk g
noncomputable abbrev lfc_M (g:lfc_G):Nat:=(g.2.2.2.1+1 - g.2.2.1).toNat
theorem lfc_K:ctK FcC.hi lfc_st lfc_P:=fun c b k h hk hn=>by
 obtain ⟨h1,h2,h3,h4,h5⟩:=h
 have h4':=h4
 unfold smallI at h4'
 unfold lfc_st at hn ⊢
 cases hc:k==c.f.kind&&(num_F c.f&&textF c.f) with
 | true=>rw[hc] at hn;cases hn
 | false=>exact ⟨rfl,by omega,by omega,h4,h5⟩
theorem lfc_F (k:Int) (c:FcC) (b:FcB) (h:lfc_P c b k):lfc_R () () k c.hi c.f b.1=ctR 0 FcC.hi lfc_st lfc_mk k c b:=by
 obtain ⟨r,f⟩:=b
 obtain ⟨h1,h2,h3,h4,h5⟩:=h
 have h1:f=(LoopState.ready,(none:Option Code)):=h1
 subst h1
 unfold lfc_R ctR lfc_st lfc_mk
 by_cases h:k≤c.hi
 ·rw[decide_eq_true h,if_pos h,cond_true,wrS (by omega)]
  cases k==c.f.kind&&(num_F c.f&&textF c.f) <;> rfl
 ·rw[decide_eq_false h,if_neg h,cond_false]
theorem lfc_ok:∀ b∈loopsOf Tryd.prog 103,lkey b=1→LoopOk Tryd.prog b (lfc_C lfc_J lfc_M).g:=
 lfc_loop lfc_J lfc_M (fun g hi=>by
  obtain ⟨k,c,b,rfl,h1,h2,h3,h4,h5⟩:=hi _ (List.mem_cons_self ..)
  show lfc_side () () k c.hi c.f b.1
  exact ⟨fun _=>⟨fun _ _=>h5,fun _=>⟨rfl,rfl⟩,fun _=>⟨rfl,rfl⟩⟩,fun _=>⟨rfl,rfl⟩⟩) (fun g hi=>by
  obtain ⟨k,c,b,rfl,h1,h2⟩:=hi _ (List.mem_cons_self ..)
  obtain ⟨r,f⟩:=b
  have h1:f=(LoopState.ready,(none:Option Code)):=h1
  subst h1
  rfl) (ct_goes (fun k c b=>rfl) (fun k c b h=>lfc_F k c b h) lfc_K)
theorem lfc_scan (c:FcC):∀ (n:Nat) (k:Int) (r:Int),
  ((scanC 0 (lfc_st c) n k (r,.ready,none)).1,(scanC 0 (lfc_st c) n k (r,.ready,none)).2.2) =
    bif (decide (k≤c.f.kind)&&decide (c.f.kind<k+n))&&(num_F c.f&&textF c.f) then (.ret,0,.done,some .ret) else (.exit 0,r,.ready,none)
 | 0,k,r=>by
  have:(decide (k≤c.f.kind)&&decide (c.f.kind<k+((0:Nat):Int)))=false:=by
   cases h1:decide (k≤c.f.kind) with
   | false=>rfl
   | true=>rw[decide_eq_false (by have:=of_decide_eq_true h1;omega)];rfl
  rw[this];rfl
 | n+1,k,r=>by
  have es:lfc_st c (r,.ready,none) k=bif k==c.f.kind&&(num_F c.f&&textF c.f) then (.ret,0,.done,some .ret) else (.normal,r,.ready,none):=rfl
  simp only[scanC,es]
  by_cases hk:k=c.f.kind
  ·have e1:(k==c.f.kind)=true:=by simpa using hk
   have e2:(decide (k≤c.f.kind)&&decide (c.f.kind<k+((n+1:Nat):Int)))=true:=by
    rw[decide_eq_true (by omega),decide_eq_true (by omega)];rfl
   rw[e1,e2]
   cases hc:num_F c.f&&textF c.f with
   | true=>rfl
   | false=>
    have ih:=lfc_scan c n (k+1) r
    rw[hc,Bool.and_false] at ih
    exact ih
  ·have e1:(k==c.f.kind)=false:=by simpa using hk
   have e2:(decide (k≤c.f.kind)&&decide (c.f.kind<k+((n+1:Nat):Int)))=(decide (k+1≤c.f.kind)&&decide (c.f.kind<k+1+(n:Int))):=by
    rw[Bool.eq_iff_iff]
    simp only[Bool.and_eq_true,decide_eq_true_eq]
    omega
   rw[e1,e2]
   exact lfc_scan c n (k+1) r
noncomputable abbrev lfc_RR (g:lfc_G):Ex×lfc_G:=lfc_R g.1 g.2.1 g.2.2.1 g.2.2.2.1 g.2.2.2.2.1 g.2.2.2.2.2.1
theorem lfc_run (k hi:Int) (f:Fn) (r:Int) (h1:-1000≤k∧k≤1001) (h2:smallI hi) (h3:f.s.size≤KB):∃ k',loopF lfc_RR lfc_M ((),(),k,hi,f,r,.ready,none) =
  bif (decide (k≤f.kind)&&decide (f.kind≤hi))&&(num_F f&&textF f) then (.ret,(),(),k',hi,f,0,.done,some .ret) else (.exit 0,(),(),k',hi,f,r,.ready,none):=by
 have h:=ct_run (F:=lfc_RR) (m:=lfc_M) (mk:=lfc_mk) (x:=0) (step:=lfc_st) (P:=lfc_P) (hi:=FcC.hi) (fun k c b=>rfl) (fun k c b h=>lfc_F k c b h) lfc_K _ k ⟨hi,f⟩ (r,.ready,none) ⟨rfl,h1.1,h1.2,h2,h3⟩ rfl
 have e:lfc_mk k ⟨hi,f⟩ (r,.ready,none)=((),(),k,hi,f,r,.ready,none):=rfl
 rw[e] at h
 rw[h]
 have hs:=lfc_scan ⟨hi,f⟩ (hi+1 - k).toNat k r
 have e2:(decide (k≤f.kind)&&decide (f.kind<k+((hi+1 - k).toNat:Int)))=(decide (k≤f.kind)&&decide (f.kind≤hi)):=by
  rw[Bool.eq_iff_iff]
  simp only[Bool.and_eq_true,decide_eq_true_eq]
  omega
 simp only at hs
 rw[e2] at hs
 refine ⟨(scanC 0 (lfc_st ⟨hi,f⟩) (hi+1 - k).toNat k (r,.ready,none)).2.1,?_⟩
 show ((scanC 0 (lfc_st ⟨hi,f⟩) (hi+1 - k).toNat k (r,.ready,none)).1,lfc_mk _ ⟨hi,f⟩ (scanC 0 (lfc_st ⟨hi,f⟩) (hi+1 - k).toNat k (r,.ready,none)).2.2)=_
 rw[Prod.mk.injEq] at hs
 cases hb:(decide (k≤f.kind)&&decide (f.kind≤hi))&&(num_F f&&textF f) with
 | true=>rw[hb] at hs;rw[hs.1,hs.2];rfl
 | false=>rw[hb] at hs;rw[hs.1,hs.2];rfl
theorem bytesI (h:3<Tryd.prog.types.size):(Tryd.prog.types[3]'h).bytes=8:=by kernel_rfl
structure TlC where
 hi:Int
 m:Int
abbrev TlB:=List Int×LoopState×Option Code
def ltl_mk (k:Int) (c:TlC) (b:TlB):ltl_G:=((),c.hi,k,c.m,b.1,b.2.1,b.2.2)
def ltl_st (c:TlC) (b:TlB) (k:Int):Ex×TlB:=bif decide ((b.1.length:Int)≥c.m) then (.ret,b.1,.done,some (.exit 0)) else (.normal,b.1++[k],.ready,none)
def ltl_P (c:TlC) (b:TlB) (k:Int):Prop:=b.2=(LoopState.ready,(none:Option Code))∧-1000≤k∧k≤1001∧smallI c.hi∧(b.1.length:Int)≤k+1000
noncomputable abbrev ltl_J (g:ltl_G):List Prop:=ctI TlC.hi ltl_P ltl_mk g
noncomputable abbrev ltl_M (g:ltl_G):Nat:=(g.2.1+1 - g.2.2.1).toNat
theorem ltl_K:ctK TlC.hi ltl_st ltl_P:=fun c b k h hk hn=>by
 obtain ⟨h1,h2,h3,h4,h5⟩:=h
 have h4':=h4
 unfold smallI at h4'
 unfold ltl_st at hn ⊢
 cases hc:decide ((b.1.length:Int)≥c.m) with
 | true=>rw[hc] at hn;cases hn
 | false=>
  refine ⟨rfl,by omega,by omega,h4,?_⟩
  simp only[cond_false,List.length_append,List.length_cons,List.length_nil]
  omega
theorem ltl_F (k:Int) (c:TlC) (b:TlB) (h:ltl_P c b k):ltl_R () c.hi k c.m b.1=ctR 0 TlC.hi ltl_st ltl_mk k c b:=by
 obtain ⟨r,f⟩:=b
 obtain ⟨h1,h2,h3,h4,h5⟩:=h
 have h1:f=(LoopState.ready,(none:Option Code)):=h1
 subst h1
 unfold ltl_R ctR ltl_st ltl_mk
 by_cases h:k≤c.hi
 ·rw[decide_eq_true h,if_pos h,cond_true,wrS (by omega),app1,eI.ag_eq]
  cases decide ((r.length:Int)≥c.m) <;> rfl
 ·rw[decide_eq_false h,if_neg h,cond_false,eI.ag_eq]
theorem ltl_ok:∀ b∈loopsOf Tryd.prog 103,lkey b=1→LoopOk Tryd.prog b (ltl_C ltl_J ltl_M).g:=
 ltl_loop ltl_J ltl_M (fun g hi=>by
  obtain ⟨k,c,b,rfl,h1,h2,h3,h4,h5⟩:=hi _ (List.mem_cons_self ..)
  show ltl_side () c.hi k c.m b.1
  unfold ltl_side
  rw[bytesI]
  unfold maxLen
  repeat' (first | apply And.intro | intro _)
  all_goals first | trivial | rfl | omega) (fun g hi=>by
  obtain ⟨k,c,b,rfl,h1,h2⟩:=hi _ (List.mem_cons_self ..)
  obtain ⟨r,f⟩:=b
  have h1:f=(LoopState.ready,(none:Option Code)):=h1
  subst h1
  rfl) (ct_goes (fun k c b=>rfl) (fun k c b h=>ltl_F k c b h) ltl_K)
theorem ltl_scan (c:TlC):∀ (n:Nat) (k:Int) (o:List Int),(c.hi+1 - k).toNat=n→(scanC 0 (ltl_st c) n k (o,.ready,none)).2.2.1=o++(upTo k c.hi).take (c.m - o.length).toNat
 | 0,k,o,h=>by rw[upTo_nil k c.hi (by omega)];simp[scanC]
 | n+1,k,o,h=>by
  have es:ltl_st c (o,.ready,none) k=bif decide ((o.length:Int)≥c.m) then (.ret,o,.done,some (.exit 0)) else (.normal,o++[k],.ready,none):=rfl
  simp only[scanC,es]
  by_cases hm:(o.length:Int)≥c.m
  ·rw[decide_eq_true hm,show (c.m - (o.length:Int)).toNat=0 by omega]
   simp
  ·rw[decide_eq_false hm]
   have ih:=ltl_scan c n (k+1) (o++[k]) (by omega)
   simp only[cond_false]
   rw[ih,upTo_step k c.hi (by omega),List.append_assoc]
   congr 1
   rw[show (c.m - (o.length:Int)).toNat=(c.m - ((o++[k]).length:Int)).toNat+1 by simp only[List.length_append,List.length_cons,List.length_nil];omega]
   rfl
noncomputable abbrev ltl_RR (g:ltl_G):Ex×ltl_G:=ltl_R g.1 g.2.1 g.2.2.1 g.2.2.2.1 g.2.2.2.2.1
theorem ltl_run (k hi m:Int) (h1:-1000≤k∧k≤1001) (h2:smallI hi):(loopF ltl_RR ltl_M ((),hi,k,m,[],.ready,none)).2.2.2.2.2.1=(upTo k hi).take m.toNat:=by
 have h:=ct_run (F:=ltl_RR) (m:=ltl_M) (mk:=ltl_mk) (x:=0) (step:=ltl_st) (P:=ltl_P) (hi:=TlC.hi) (fun k c b=>rfl) (fun k c b h=>ltl_F k c b h) ltl_K _ k ⟨hi,m⟩ ([],.ready,none) ⟨rfl,h1.1,h1.2,h2,by simp only[List.length_nil];omega⟩ rfl
 have e:ltl_mk k ⟨hi,m⟩ ([],.ready,none)=((),hi,k,m,[],.ready,none):=rfl
 rw[e] at h
 rw[h]
 have hs:=ltl_scan ⟨hi,m⟩ (hi+1 - k).toNat k [] rfl
 simp only[List.length_nil,List.nil_append] at hs
 show (scanC 0 (ltl_st ⟨hi,m⟩) (hi+1 - k).toNat k ([],.ready,none)).2.2.1=_
 rw[hs]
 congr 1
 simp
def lru2_mk (k:Int) (hi:Int) (o:List Int):lru2_G:=(hi,o,k)
def lru2_st (_:Int) (o:List Int) (k:Int):Ex×List Int:=(.normal,o++[k])
def lru2_P (hi:Int) (o:List Int) (k:Int):Prop:=-1000≤k∧k≤1001∧smallI hi∧(o.length:Int)≤k+1000
noncomputable abbrev lru2_J (g:lru2_G):List Prop:=ctI (fun h:Int=>h) lru2_P lru2_mk g
noncomputable abbrev lru2_M (g:lru2_G):Nat:=(g.1+1 - g.2.2).toNat
theorem lru2_K:ctK (fun h:Int=>h) lru2_st lru2_P:=fun c b k h hk hn=>by
 obtain ⟨h2,h3,h4,h5⟩:=h
 have h4':=h4
 unfold smallI at h4'
 have hk:k≤c:=hk
 refine ⟨by omega,by omega,h4,?_⟩
 simp only[lru2_st,List.length_append,List.length_cons,List.length_nil]
 omega
theorem lru2_F (k:Int) (c:Int) (o:List Int) (h:lru2_P c o k):lru2_R c o k=ctR 1 (fun h:Int=>h) lru2_st lru2_mk k c o:=by
 obtain ⟨h2,h3,h4,h5⟩:=h
 unfold lru2_R ctR lru2_st lru2_mk
 by_cases h:k≤c
 ·rw[decide_eq_true h,if_pos h,cond_true,wrS (by omega),app1]
 ·rw[decide_eq_false h,if_neg h,cond_false,eI.ag_eq]
theorem lru2_ok:∀ b∈loopsOf Tryd.prog 53,lkey b=15→LoopOk Tryd.prog b (lru2_C lru2_J lru2_M).g:=
 lru2_loop lru2_J lru2_M (fun g hi=>by
  obtain ⟨k,c,o,rfl,h2,h3,h4,h5⟩:=hi _ (List.mem_cons_self ..)
  show lru2_side c o k
  unfold lru2_side
  rw[bytesI]
  unfold maxLen
  repeat' (first | apply And.intro | intro _)
  all_goals first | trivial | rfl | omega) (ct_goes (fun k c b=>rfl) (fun k c b h=>lru2_F k c b h) lru2_K)
theorem lru2_scan (c:Int):∀ (n:Nat) (k:Int) (o:List Int),(c+1 - k).toNat=n→(scanC 1 (lru2_st c) n k o).1=.exit 1∧(scanC 1 (lru2_st c) n k o).2.2=o++upTo k c
 | 0,k,o,h=>by rw[upTo_nil k c (by omega)];simp[scanC]
 | n+1,k,o,h=>by
  simp only[scanC,lru2_st]
  have ih:=lru2_scan c n (k+1) (o++[k]) (by omega)
  rw[upTo_step k c (by omega)]
  refine ⟨ih.1,ih.2.trans ?_⟩
  rw[List.append_assoc];rfl
noncomputable abbrev lru2_RR (g:lru2_G):Ex×lru2_G:=lru2_R g.1 g.2.1 g.2.2
theorem lru2_run (k hi:Int) (h1:-1000≤k∧k≤1001) (h2:smallI hi):(loopF lru2_RR lru2_M (hi,[],k)).1=.exit 1∧(loopF lru2_RR lru2_M (hi,[],k)).2.2.1=upTo k hi:=by
 have h:=ct_run (F:=lru2_RR) (m:=lru2_M) (mk:=lru2_mk) (x:=1) (step:=lru2_st) (P:=lru2_P) (hi:=fun h:Int=>h) (fun k c b=>rfl) (fun k c b h=>lru2_F k c b h) lru2_K _ k hi [] ⟨h1.1,h1.2,h2,by simp only[List.length_nil];omega⟩ rfl
 have e:lru2_mk k hi []=(hi,[],k):=rfl
 rw[e] at h
 rw[h]
 have hs:=lru2_scan hi (hi+1 - k).toNat k [] rfl
 exact hs
noncomputable def ltC3:LTab Tryd.prog:=(LTab.cons (LTab.cons ltB9 103 1 (lfc_C lfc_J lfc_M) lfc_ok) 53 15 (lru2_C lru2_J lru2_M) lru2_ok)
noncomputable def ltC3t:LTab Tryd.prog:=LTab.nil.cons 103 1 (ltl_C ltl_J ltl_M) ltl_ok
noncomputable abbrev lamC3t:Lam:=ltC3t.lam
theorem lamC3t_ok:∀ f k L,lamC3t f k=some L→∀ b∈loopsOf Tryd.prog f,lkey b=k→LoopOk Tryd.prog b L.g:=ltC3t.ok
end Go.Proofs.YtmegbepjdololaaDoor

namespace Go.Proofs.YtmegbepjdololaaDoor
open Go.RowKit Go.Sx Go.Lp
set_option maxRecDepth 100000
noncomputable def lrc_S (c:lrc_GC) (b:lrc_GB) (i:Int) (v:Int):Ex×lrc_GB:=bif v==c.2.kind&&(rnum_F c.2&&textF c.2) then (.ret,b.1,0) else (.normal,b.1,b.2)
def lrc_K (c:lrc_GC) (b:lrc_GB) (i:Int):Prop:=c.2.s.size≤KB
abbrev lrc_I (g:lrc_G):List Prop:=ixI (fun c:lrc_GC=>(c.1.length:Int)) (fun c:lrc_GC=>c.1) lrc_K (lrc_f g)
abbrev lrc_M (g:lrc_G):Nat:=ixM (fun c:lrc_GC=>(c.1.length:Int)) (lrc_f g)
theorem lrc_P:ixP lrc_S (fun c:lrc_GC=>c.1) lrc_K:=fun _ _ _ _ h _ _=>h
noncomputable abbrev lrc_RR (g:lrc_G):Ex×lrc_G:=lrc_R g.1 g.2.1 g.2.2.1 g.2.2.2.1 g.2.2.2.2
theorem lrc_RF (d:Int×lrc_GC×lrc_GB) (hi:allP (ixI (fun c:lrc_GC=>(c.1.length:Int)) (fun c:lrc_GC=>c.1) lrc_K d)):lrc_RR (lrc_g d)=((ixF 0 (fun c:lrc_GC=>(c.1.length:Int)) (fun c:lrc_GC=>c.1) eI.dflt lrc_S d).1,lrc_g (ixF 0 (fun c:lrc_GC=>(c.1.length:Int)) (fun c:lrc_GC=>c.1) eI.dflt lrc_S d).2):=by
 obtain ⟨i,⟨xs,f⟩,⟨⟨⟩,r⟩⟩:=d
 show lrc_R xs i () f r=_
 unfold lrc_R ixF lrc_S
 simp only[El.ag_eq]
 cases decide (i<(xs.length:Int)) with
 | false=>rfl
 | true=>
  simp only[cond_true]
  generalize ((xs.getD i.toNat eI.dflt)==f.kind&&(rnum_F f&&textF f))=z
  cases z <;> rfl
theorem lrc_ok:∀ b∈loopsOf Tryd.prog 55,lkey b=5→LoopOk Tryd.prog b (lrc_C lrc_I lrc_M).g:=by
 refine lrc_loop lrc_I lrc_M (fun g hi=>?_) (ix_conj_goes (fun _=>rfl) (fun _=>rfl) lrc_RF lrc_P)
 obtain ⟨xs,i,⟨⟩,f,r⟩:=g
 obtain ⟨h1,h2,h3,h4,h5⟩:=hi _ (List.mem_cons_self ..)
 have h1:(xs.length:Int)=(xs.length:Int):=h1
 have h3:0≤i:=h3
 have h5:f.s.size≤KB:=h5
 show lrc_side xs i () f r
 unfold lrc_side
 simp only[decide_eq_true_eq,decide_eq_false_iff_not]
 have k0:∀ e:Nat,e<xs.length→eI.Ok (eI.els xs e):=fun e _=>eI.ok_els xs e
 clear hi
 repeat' (first | exact k0 | apply And.intro | intro _)
 all_goals omega
theorem lrc_run (c:lrc_GC) (b:lrc_GB) (k1:(c.1.length:Int)=((c.1).length:Int)) (k2:(c.1).length≤maxLen) (k3:lrc_K c b 0):loopF lrc_RR lrc_M (lrc_g (0,c,b))=((scan 0 (lrc_S c) 0 (c.1) b).1,lrc_g ((scan 0 (lrc_S c) 0 (c.1) b).2.1,c,(scan 0 (lrc_S c) 0 (c.1) b).2.2)):=ix_conj_run (φ:=lrc_f) (ψ:=lrc_g) (fun _=>rfl) (fun _=>rfl) lrc_RF lrc_P c b k1 k2 k3
noncomputable def ltC4:LTab Tryd.prog:=(ltC3.cons 55 5 (lrc_C lrc_I lrc_M) lrc_ok)
noncomputable abbrev lamC4:Lam:=ltC4.lam
theorem lamC4_ok:∀ f k L,lamC4 f k=some L→∀ b∈loopsOf Tryd.prog f,lkey b=k→LoopOk Tryd.prog b L.g:=ltC4.ok
end Go.Proofs.YtmegbepjdololaaDoor
