/- Chapter 5: bags in order: loops. Printed by treegen.py. -/
import Derived.Test.YtmegbepjdololaaDoorZG114e1f87
import Derived.Test.YtmegbepjdololaaDoorZG064a11a0
import Derived.Test.YtmegbepjdololaaDoorZG08af0343
set_option linter.unusedVariables false
set_option linter.unusedSimpArgs false
set_option linter.constructorNameAsVariable false
set_option linter.all false

namespace Go.Proofs.YtmegbepjdololaaDoor
open Go.RowKit Go.Sx
set_option maxRecDepth 100000
set_option linter.unusedVariables false
abbrev cbg_G:Type:=List Many×List Many×Int×Int×Int
noncomputable def cbg_LP:LP 0 cbg_G:=.pair (.slot 0 0 dLM) (.pair (.slot 0 7 dLM) (.pair (.slot 0 8 dI) (.pair (.slot 0 9 dI) (.slot 0 2 dI))))
noncomputable def cbg_R (xs:List Many) (ys:List Many) (n:Int) (i:Int) (r:Int):Ex×cbg_G:=
 bif decide (i<n) then bif decide ((ys.getD i.toNat eM.dflt).n<(1:Int))||(decide ((ys.getD i.toNat eM.dflt).n > (1048576:Int))||decide (i > (0:Int))&&decide (cmpR (xs.getD (IntKind.i64.wrap (i - (1:Int))).toNat eM.dflt).r (ys.getD i.toNat eM.dflt).r≥(0:Int))) then (Ex.ret,eM.ag xs,eM.ag ys,n,i,(51:Int)) else (Ex.normal,eM.ag xs,eM.ag ys,n,IntKind.i64.wrap (i+(1:Int)),r)
 else (Ex.exit (0:Nat),eM.ag xs,eM.ag ys,n,i,r)
def cbg_side (xs:List Many) (ys:List Many) (n:Int) (i:Int) (r:Int):Prop:=
 (decide (i<n)=true→((0:Int)≤i∧i<(↑ys.length:Int))∧((!decide ((ys.getD i.toNat eM.dflt).n<(1:Int)))=true→(!decide ((ys.getD i.toNat eM.dflt).n > (1048576:Int)))=true→decide (i > (0:Int))=true→(0:Int)≤IntKind.i64.wrap (i - (1:Int))∧IntKind.i64.wrap (i - (1:Int))<(↑xs.length:Int))∧((decide ((ys.getD i.toNat eM.dflt).n<(1:Int))||(decide ((ys.getD i.toNat eM.dflt).n > (1048576:Int))||decide (i > (0:Int))&&decide (cmpR (xs.getD (IntKind.i64.wrap (i - (1:Int))).toNat eM.dflt).r (ys.getD i.toNat eM.dflt).r≥(0:Int))))=true→eM.okL xs∧eM.okL ys)∧((decide ((ys.getD i.toNat eM.dflt).n<(1:Int))||(decide ((ys.getD i.toNat eM.dflt).n > (1048576:Int))||decide (i > (0:Int))&&decide (cmpR (xs.getD (IntKind.i64.wrap (i - (1:Int))).toNat eM.dflt).r (ys.getD i.toNat eM.dflt).r≥(0:Int))))=false→eM.okL xs∧eM.okL ys))∧(decide (i<n)=false→eM.okL xs∧eM.okL ys)
theorem cbg_one:((loopsOf Tryd.prog 35).filter fun c=>Nat.beq (lkey c) 4).length=1:=by kernel_rfl
abbrev cbg_GC:Type:=List Many×List Many×Int
abbrev cbg_GB:Type:=Int
def cbg_f (g:cbg_G):Int×cbg_GC×cbg_GB:=(g.2.2.2.1,(g.1,g.2.1,g.2.2.1),g.2.2.2.2)
def cbg_g (d:Int×cbg_GC×cbg_GB):cbg_G:=(d.2.1.1,d.2.1.2.1,d.2.1.2.2,d.1,d.2.2)
theorem cbg_es (g:cbg_G):(cbg_R g.1 g.2.1 g.2.2.1 g.2.2.2.1 g.2.2.2.2).1=.normal∨(cbg_R g.1 g.2.1 g.2.2.1 g.2.2.2.1 g.2.2.2.2).1∈([.ret,.exit 0]:List Ex):=by
 unfold cbg_R
 repeat' (first | (left;rfl) | (right;simp only[cond_true,cond_false];simp;done) | (rw[Bool.cond_eq_ite];split))
noncomputable abbrev cbg_C (Inv:cbg_G→List Prop) (m:cbg_G→Nat):LCon:=loopR [.ret,.exit 0] (loopBody Tryd.prog 35 4) cbg_LP [] 39 Inv (fun g=>cbg_R g.1 g.2.1 g.2.2.1 g.2.2.2.1 g.2.2.2.2) m
theorem cbg_loop (Inv:cbg_G→List Prop) (m:cbg_G→Nat) (hs:∀ g,allP (Inv g)→cbg_side g.1 g.2.1 g.2.2.1 g.2.2.2.1 g.2.2.2.2) (hg:Goes (fun g:cbg_G=>cbg_R g.1 g.2.1 g.2.2.1 g.2.2.2.1 g.2.2.2.2) m fun g=>allP (Inv g)):∀ b∈loopsOf Tryd.prog 35,lkey b=4→LoopOk Tryd.prog b (cbg_C Inv m).g:=loop_run (Γ:=(PTab.gamz tabG6 [] [])) (Λ:=lamG2) (PTab.okz tabG6 [] []) lamG2_ok 100 35 4 39 cbg_LP [] Inv (fun g=>cbg_R g.1 g.2.1 g.2.2.1 g.2.2.2.1 g.2.2.2.2) (fun g=>cbg_side g.1 g.2.1 g.2.2.1 g.2.2.2.1 g.2.2.2.2) m default [.ret,.exit 0] cbg_one (fun rd T B HL HB ds g=>by kernel_rfl) (fun rd T B HL HB ds g=>by kernel_rfl) hs hg cbg_es
abbrev bga_G:Type:=List Many×Int×Int
noncomputable def bga_LP:LP 0 bga_G:=.pair (.slot 0 0 dLM) (.pair (.slot 0 3 dI) (.slot 0 2 dI))
noncomputable def bga_R (xs:List Many) (i:Int) (r:Int):Ex×bga_G:=
 bif decide (i<(↑xs.length:Int)) then bif chkR (xs.getD i.toNat eM.dflt).r != (0:Int) then (Ex.ret,eM.ag xs,i,chkR (xs.getD i.toNat eM.dflt).r) else (Ex.normal,eM.ag xs,IntKind.i64.wrap (i+(1:Int)),r)
 else (Ex.exit (0:Nat),eM.ag xs,i,r)
def bga_side (xs:List Many) (i:Int) (r:Int):Prop:=
 (decide (i<(↑xs.length:Int))=true→((0:Int)≤i∧i<(↑xs.length:Int))∧((chkR (xs.getD i.toNat eM.dflt).r != (0:Int))=true→eM.okL xs)∧((chkR (xs.getD i.toNat eM.dflt).r != (0:Int))=false→eM.okL xs))∧(decide (i<(↑xs.length:Int))=false→eM.okL xs)
theorem bga_one:((loopsOf Tryd.prog 36).filter fun c=>Nat.beq (lkey c) 2).length=1:=by kernel_rfl
abbrev bga_GC:Type:=List Many
abbrev bga_GB:Type:=Int
def bga_f (g:bga_G):Int×bga_GC×bga_GB:=(g.2.1,g.1,g.2.2)
def bga_g (d:Int×bga_GC×bga_GB):bga_G:=(d.2.1,d.1,d.2.2)
theorem bga_es (g:bga_G):(bga_R g.1 g.2.1 g.2.2).1=.normal∨(bga_R g.1 g.2.1 g.2.2).1∈([.ret,.exit 0]:List Ex):=by
 unfold bga_R
 repeat' (first | (left;rfl) | (right;simp only[cond_true,cond_false];simp;done) | (rw[Bool.cond_eq_ite];split))
noncomputable abbrev bga_C (Inv:bga_G→List Prop) (m:bga_G→Nat):LCon:=loopR [.ret,.exit 0] (loopBody Tryd.prog 36 2) bga_LP [] 60 Inv (fun g=>bga_R g.1 g.2.1 g.2.2) m
theorem bga_loop (Inv:bga_G→List Prop) (m:bga_G→Nat) (hs:∀ g,allP (Inv g)→bga_side g.1 g.2.1 g.2.2) (hg:Goes (fun g:bga_G=>bga_R g.1 g.2.1 g.2.2) m fun g=>allP (Inv g)):∀ b∈loopsOf Tryd.prog 36,lkey b=2→LoopOk Tryd.prog b (bga_C Inv m).g:=loop_run (Γ:=(PTab.gamz tabG6 [] [])) (Λ:=lamG2) (PTab.okz tabG6 [] []) lamG2_ok 100 36 2 60 bga_LP [] Inv (fun g=>bga_R g.1 g.2.1 g.2.2) (fun g=>bga_side g.1 g.2.1 g.2.2) m default [.ret,.exit 0] bga_one (fun rd T B HL HB ds g=>by kernel_rfl) (fun rd T B HL HB ds g=>by kernel_rfl) hs hg bga_es
abbrev bgb_G:Type:=List Many×Int×Int
noncomputable def bgb_LP:LP 0 bgb_G:=.pair (.slot 0 0 dLM) (.pair (.slot 0 5 dI) (.slot 0 2 dI))
noncomputable def bgb_R (xs:List Many) (i:Int) (r:Int):Ex×bgb_G:=
 bif decide (i<(↑xs.length:Int)) then bif decide ((xs.getD i.toNat eM.dflt).n<(1:Int))||(decide ((xs.getD i.toNat eM.dflt).n > (1048576:Int))||decide (i > (0:Int))&&decide (cmpR (xs.getD (IntKind.i64.wrap (i - (1:Int))).toNat eM.dflt).r (xs.getD i.toNat eM.dflt).r≥(0:Int))) then (Ex.ret,eM.ag xs,i,(51:Int)) else (Ex.normal,eM.ag xs,IntKind.i64.wrap (i+(1:Int)),r)
 else (Ex.exit (2:Nat),eM.ag xs,i,r)
def bgb_side (xs:List Many) (i:Int) (r:Int):Prop:=
 (decide (i<(↑xs.length:Int))=true→((0:Int)≤i∧i<(↑xs.length:Int))∧((!decide ((xs.getD i.toNat eM.dflt).n<(1:Int)))=true→(0:Int)≤i∧i<(↑xs.length:Int))∧((!decide ((xs.getD i.toNat eM.dflt).n<(1:Int)))=true→(!decide ((xs.getD i.toNat eM.dflt).n > (1048576:Int)))=true→decide (i > (0:Int))=true→(0:Int)≤IntKind.i64.wrap (i - (1:Int))∧IntKind.i64.wrap (i - (1:Int))<(↑xs.length:Int))∧((!decide ((xs.getD i.toNat eM.dflt).n<(1:Int)))=true→(!decide ((xs.getD i.toNat eM.dflt).n > (1048576:Int)))=true→decide (i > (0:Int))=true→(0:Int)≤i∧i<(↑xs.length:Int))∧((decide ((xs.getD i.toNat eM.dflt).n<(1:Int))||(decide ((xs.getD i.toNat eM.dflt).n > (1048576:Int))||decide (i > (0:Int))&&decide (cmpR (xs.getD (IntKind.i64.wrap (i - (1:Int))).toNat eM.dflt).r (xs.getD i.toNat eM.dflt).r≥(0:Int))))=true→eM.okL xs)∧((decide ((xs.getD i.toNat eM.dflt).n<(1:Int))||(decide ((xs.getD i.toNat eM.dflt).n > (1048576:Int))||decide (i > (0:Int))&&decide (cmpR (xs.getD (IntKind.i64.wrap (i - (1:Int))).toNat eM.dflt).r (xs.getD i.toNat eM.dflt).r≥(0:Int))))=false→eM.okL xs))∧(decide (i<(↑xs.length:Int))=false→eM.okL xs)
theorem bgb_one:((loopsOf Tryd.prog 36).filter fun c=>Nat.beq (lkey c) 8).length=1:=by kernel_rfl
abbrev bgb_GC:Type:=List Many
abbrev bgb_GB:Type:=Int
def bgb_f (g:bgb_G):Int×bgb_GC×bgb_GB:=(g.2.1,g.1,g.2.2)
def bgb_g (d:Int×bgb_GC×bgb_GB):bgb_G:=(d.2.1,d.1,d.2.2)
theorem bgb_es (g:bgb_G):(bgb_R g.1 g.2.1 g.2.2).1=.normal∨(bgb_R g.1 g.2.1 g.2.2).1∈([.ret,.exit 2]:List Ex):=by
 unfold bgb_R
 repeat' (first | (left;rfl) | (right;simp only[cond_true,cond_false];simp;done) | (rw[Bool.cond_eq_ite];split))
noncomputable abbrev bgb_C (Inv:bgb_G→List Prop) (m:bgb_G→Nat):LCon:=loopR [.ret,.exit 2] (loopBody Tryd.prog 36 8) bgb_LP [] 60 Inv (fun g=>bgb_R g.1 g.2.1 g.2.2) m
theorem bgb_loop (Inv:bgb_G→List Prop) (m:bgb_G→Nat) (hs:∀ g,allP (Inv g)→bgb_side g.1 g.2.1 g.2.2) (hg:Goes (fun g:bgb_G=>bgb_R g.1 g.2.1 g.2.2) m fun g=>allP (Inv g)):∀ b∈loopsOf Tryd.prog 36,lkey b=8→LoopOk Tryd.prog b (bgb_C Inv m).g:=loop_run (Γ:=(PTab.gamz tabG6 [] [])) (Λ:=lamG2) (PTab.okz tabG6 [] []) lamG2_ok 100 36 8 60 bgb_LP [] Inv (fun g=>bgb_R g.1 g.2.1 g.2.2) (fun g=>bgb_side g.1 g.2.1 g.2.2) m default [.ret,.exit 2] bgb_one (fun rd T B HL HB ds g=>by kernel_rfl) (fun rd T B HL HB ds g=>by kernel_rfl) hs hg bgb_es
end Go.Proofs.YtmegbepjdololaaDoor

namespace Go.Proofs.YtmegbepjdololaaDoor
open Go.RowKit Go.Sx Go.Lp
set_option maxRecDepth 100000
noncomputable def cbg_S (c:cbg_GC) (b:cbg_GB) (i:Int) (v:Many):Ex×cbg_GB:=bif decide (v.n<(1:Int))||(decide (v.n > (1048576:Int))||decide (i > (0:Int))&&decide (cmpR (c.1.getD (IntKind.i64.wrap (i - (1:Int))).toNat eM.dflt).r v.r≥(0:Int))) then (.ret,(51:Int)) else (.normal,b)
def cbg_K (c:cbg_GC) (b:cbg_GB) (i:Int):Prop:=c.1.length=c.2.1.length
abbrev cbg_I (g:cbg_G):List Prop:=ixI (fun c:cbg_GC=>c.2.2) (fun c:cbg_GC=>c.2.1) cbg_K (cbg_f g)
abbrev cbg_M (g:cbg_G):Nat:=ixM (fun c:cbg_GC=>c.2.2) (cbg_f g)
theorem cbg_P:ixP cbg_S (fun c:cbg_GC=>c.2.1) cbg_K:=fun _ _ _ _ h _ _=>h
noncomputable abbrev cbg_RR (g:cbg_G):Ex×cbg_G:=cbg_R g.1 g.2.1 g.2.2.1 g.2.2.2.1 g.2.2.2.2
theorem cbg_RF (d:Int×cbg_GC×cbg_GB) (hi:allP (ixI (fun c:cbg_GC=>c.2.2) (fun c:cbg_GC=>c.2.1) cbg_K d)):cbg_RR (cbg_g d)=((ixF 0 (fun c:cbg_GC=>c.2.2) (fun c:cbg_GC=>c.2.1) eM.dflt cbg_S d).1,cbg_g (ixF 0 (fun c:cbg_GC=>c.2.2) (fun c:cbg_GC=>c.2.1) eM.dflt cbg_S d).2):=by
 obtain ⟨i,⟨xs,ys,n⟩,r⟩:=d
 show cbg_R xs ys n i r=_
 unfold cbg_R ixF cbg_S
 simp only[El.ag_eq]
 cases decide (i<n) with
 | false=>rfl
 | true=>
  simp only[cond_true]
  generalize (decide ((ys.getD i.toNat eM.dflt).n<(1:Int))||(decide ((ys.getD i.toNat eM.dflt).n > (1048576:Int))||decide (i > (0:Int))&&decide (cmpR (xs.getD (IntKind.i64.wrap (i - (1:Int))).toNat eM.dflt).r (ys.getD i.toNat eM.dflt).r≥(0:Int))))=z
  cases z <;> rfl
theorem cbg_ok:∀ b∈loopsOf Tryd.prog 35,lkey b=4→LoopOk Tryd.prog b (cbg_C cbg_I cbg_M).g:=by
 refine cbg_loop cbg_I cbg_M (fun g hi=>?_) (ix_conj_goes (fun _=>rfl) (fun _=>rfl) cbg_RF cbg_P)
 obtain ⟨xs,ys,n,i,r⟩:=g
 obtain ⟨h1,h2,h3,h4,h5⟩:=hi _ (List.mem_cons_self ..)
 have h1:n=(ys.length:Int):=h1
 have h3:0≤i:=h3
 have h5:xs.length=ys.length:=h5
 have h2':ys.length≤maxLen:=h2
 have h2:ys.length≤9223372036854775807:=by unfold maxLen at h2';omega
 have h4:i≤(ys.length:Int):=h4
 have w1:0<i→IntKind.i64.wrap (i - (1:Int))=i - 1:=fun h=>Lp.wr (by omega)
 show cbg_side xs ys n i r
 unfold cbg_side
 simp only[decide_eq_true_eq,decide_eq_false_iff_not]
 have k0:∀ e:Nat,e<xs.length→eM.Ok (eM.els xs e):=fun e _=>eM.ok_els xs e
 have k1:∀ e:Nat,e<ys.length→eM.Ok (eM.els ys e):=fun e _=>eM.ok_els ys e
 clear hi
 repeat' (first | exact k0 | exact k1 | apply And.intro | intro _)
 all_goals (first | omega | (rw[w1 (by omega)];omega))
theorem cbg_run (c:cbg_GC) (b:cbg_GB) (k1:c.2.2=((c.2.1).length:Int)) (k2:(c.2.1).length≤maxLen) (k3:cbg_K c b 0):loopF cbg_RR cbg_M (cbg_g (0,c,b))=((scan 0 (cbg_S c) 0 (c.2.1) b).1,cbg_g ((scan 0 (cbg_S c) 0 (c.2.1) b).2.1,c,(scan 0 (cbg_S c) 0 (c.2.1) b).2.2)):=ix_conj_run (φ:=cbg_f) (ψ:=cbg_g) (fun _=>rfl) (fun _=>rfl) cbg_RF cbg_P c b k1 k2 k3
noncomputable def bga_S (c:bga_GC) (b:bga_GB) (i:Int) (v:Many):Ex×bga_GB:=bif chkR v.r != (0:Int) then (.ret,chkR v.r) else (.normal,b)
def bga_K (c:bga_GC) (b:bga_GB) (i:Int):Prop:=True
abbrev bga_I (g:bga_G):List Prop:=ixI (fun c:bga_GC=>(c.length:Int)) (fun c:bga_GC=>c) bga_K (bga_f g)
abbrev bga_M (g:bga_G):Nat:=ixM (fun c:bga_GC=>(c.length:Int)) (bga_f g)
theorem bga_P:ixP bga_S (fun c:bga_GC=>c) bga_K:=fun _ _ _ _ h _ _=>h
noncomputable abbrev bga_RR (g:bga_G):Ex×bga_G:=bga_R g.1 g.2.1 g.2.2
theorem bga_RF (d:Int×bga_GC×bga_GB) (hi:allP (ixI (fun c:bga_GC=>(c.length:Int)) (fun c:bga_GC=>c) bga_K d)):bga_RR (bga_g d)=((ixF 0 (fun c:bga_GC=>(c.length:Int)) (fun c:bga_GC=>c) eM.dflt bga_S d).1,bga_g (ixF 0 (fun c:bga_GC=>(c.length:Int)) (fun c:bga_GC=>c) eM.dflt bga_S d).2):=by
 obtain ⟨i,xs,r⟩:=d
 show bga_R xs i r=_
 unfold bga_R ixF bga_S
 simp only[El.ag_eq]
 cases decide (i<(xs.length:Int)) with
 | false=>rfl
 | true=>
  simp only[cond_true]
  generalize (chkR (xs.getD i.toNat eM.dflt).r != (0:Int))=z
  cases z <;> rfl
theorem bga_ok:∀ b∈loopsOf Tryd.prog 36,lkey b=2→LoopOk Tryd.prog b (bga_C bga_I bga_M).g:=by
 refine bga_loop bga_I bga_M (fun g hi=>?_) (ix_conj_goes (fun _=>rfl) (fun _=>rfl) bga_RF bga_P)
 obtain ⟨xs,i,r⟩:=g
 obtain ⟨h1,h2,h3,h4,h5⟩:=hi _ (List.mem_cons_self ..)
 have h1:(xs.length:Int)=(xs.length:Int):=h1
 have h3:0≤i:=h3
 have h5:True:=h5
 show bga_side xs i r
 unfold bga_side
 simp only[decide_eq_true_eq,decide_eq_false_iff_not]
 have k0:∀ e:Nat,e<xs.length→eM.Ok (eM.els xs e):=fun e _=>eM.ok_els xs e
 clear hi
 repeat' (first | exact k0 | apply And.intro | intro _)
 all_goals omega
theorem bga_run (c:bga_GC) (b:bga_GB) (k1:(c.length:Int)=((c).length:Int)) (k2:(c).length≤maxLen) (k3:bga_K c b 0):loopF bga_RR bga_M (bga_g (0,c,b))=((scan 0 (bga_S c) 0 (c) b).1,bga_g ((scan 0 (bga_S c) 0 (c) b).2.1,c,(scan 0 (bga_S c) 0 (c) b).2.2)):=ix_conj_run (φ:=bga_f) (ψ:=bga_g) (fun _=>rfl) (fun _=>rfl) bga_RF bga_P c b k1 k2 k3
noncomputable def bgb_S (c:bgb_GC) (b:bgb_GB) (i:Int) (v:Many):Ex×bgb_GB:=bif decide (v.n<(1:Int))||(decide (v.n > (1048576:Int))||decide (i > (0:Int))&&decide (cmpR (c.getD (IntKind.i64.wrap (i - (1:Int))).toNat eM.dflt).r v.r≥(0:Int))) then (.ret,(51:Int)) else (.normal,b)
def bgb_K (c:bgb_GC) (b:bgb_GB) (i:Int):Prop:=True
abbrev bgb_I (g:bgb_G):List Prop:=ixI (fun c:bgb_GC=>(c.length:Int)) (fun c:bgb_GC=>c) bgb_K (bgb_f g)
abbrev bgb_M (g:bgb_G):Nat:=ixM (fun c:bgb_GC=>(c.length:Int)) (bgb_f g)
theorem bgb_P:ixP bgb_S (fun c:bgb_GC=>c) bgb_K:=fun _ _ _ _ h _ _=>h
noncomputable abbrev bgb_RR (g:bgb_G):Ex×bgb_G:=bgb_R g.1 g.2.1 g.2.2
theorem bgb_RF (d:Int×bgb_GC×bgb_GB) (hi:allP (ixI (fun c:bgb_GC=>(c.length:Int)) (fun c:bgb_GC=>c) bgb_K d)):bgb_RR (bgb_g d)=((ixF 2 (fun c:bgb_GC=>(c.length:Int)) (fun c:bgb_GC=>c) eM.dflt bgb_S d).1,bgb_g (ixF 2 (fun c:bgb_GC=>(c.length:Int)) (fun c:bgb_GC=>c) eM.dflt bgb_S d).2):=by
 obtain ⟨i,xs,r⟩:=d
 show bgb_R xs i r=_
 unfold bgb_R ixF bgb_S
 simp only[El.ag_eq]
 cases decide (i<(xs.length:Int)) with
 | false=>rfl
 | true=>
  simp only[cond_true]
  generalize (decide ((xs.getD i.toNat eM.dflt).n<(1:Int))||(decide ((xs.getD i.toNat eM.dflt).n > (1048576:Int))||decide (i > (0:Int))&&decide (cmpR (xs.getD (IntKind.i64.wrap (i - (1:Int))).toNat eM.dflt).r (xs.getD i.toNat eM.dflt).r≥(0:Int))))=z
  cases z <;> rfl
theorem bgb_ok:∀ b∈loopsOf Tryd.prog 36,lkey b=8→LoopOk Tryd.prog b (bgb_C bgb_I bgb_M).g:=by
 refine bgb_loop bgb_I bgb_M (fun g hi=>?_) (ix_conj_goes (fun _=>rfl) (fun _=>rfl) bgb_RF bgb_P)
 obtain ⟨xs,i,r⟩:=g
 obtain ⟨h1,h2,h3,h4,h5⟩:=hi _ (List.mem_cons_self ..)
 have h1:(xs.length:Int)=(xs.length:Int):=h1
 have h3:0≤i:=h3
 have h5:True:=h5
 have h2':xs.length≤maxLen:=h2
 have h2:xs.length≤9223372036854775807:=by unfold maxLen at h2';omega
 have h4:i≤(xs.length:Int):=h4
 have w1:0<i→IntKind.i64.wrap (i - (1:Int))=i - 1:=fun h=>Lp.wr (by omega)
 show bgb_side xs i r
 unfold bgb_side
 simp only[decide_eq_true_eq,decide_eq_false_iff_not]
 have k0:∀ e:Nat,e<xs.length→eM.Ok (eM.els xs e):=fun e _=>eM.ok_els xs e
 clear hi
 repeat' (first | exact k0 | apply And.intro | intro _)
 all_goals (first | omega | (rw[w1 (by omega)];omega))
theorem bgb_run (c:bgb_GC) (b:bgb_GB) (k1:(c.length:Int)=((c).length:Int)) (k2:(c).length≤maxLen) (k3:bgb_K c b 0):loopF bgb_RR bgb_M (bgb_g (0,c,b))=((scan 2 (bgb_S c) 0 (c) b).1,bgb_g ((scan 2 (bgb_S c) 0 (c) b).2.1,c,(scan 2 (bgb_S c) 0 (c) b).2.2)):=ix_conj_run (φ:=bgb_f) (ψ:=bgb_g) (fun _=>rfl) (fun _=>rfl) bgb_RF bgb_P c b k1 k2 k3
noncomputable def ltG8:LTab Tryd.prog:=(((ltG2.cons 35 4 (cbg_C cbg_I cbg_M) cbg_ok).cons 36 2 (bga_C bga_I bga_M) bga_ok).cons 36 8 (bgb_C bgb_I bgb_M) bgb_ok)
noncomputable abbrev lamG8:Lam:=ltG8.lam
theorem lamG8_ok:∀ f k L,lamG8 f k=some L→∀ b∈loopsOf Tryd.prog f,lkey b=k→LoopOk Tryd.prog b L.g:=ltG8.ok
end Go.Proofs.YtmegbepjdololaaDoor

namespace Go.Proofs.YtmegbepjdololaaDoor
open Go.RowKit Go.Sx
set_option maxRecDepth 100000
set_option linter.unusedVariables false
abbrev aLM:DA (List Many):=.one dLM
noncomputable def cbb_q1 (xs:List Many):Ex ×
 ixf_G:=
 loopF (fun g=>ixf_R g.fst g.snd.fst g.snd.snd.fst g.snd.snd.snd.fst g.snd.snd.snd.snd) ixf_M (eM.ag xs,(),(↑xs.length:Int),(0:Int),(0:Int))
noncomputable def cbb_q2 (xs:List Many):Ex ×
 cbg_G:=
 loopF (fun g=>cbg_R g.fst g.snd.fst g.snd.snd.fst g.snd.snd.snd.fst g.snd.snd.snd.snd) cbg_M (eM.ag xs,eM.ag xs,(↑xs.length:Int),(0:Int),(0:Int))
noncomputable def cbb_F (xs:List Many):Dv.T dI:=
 bif exB Ex.ret (cbb_q1 xs).fst then bif decide ((cbb_q1 xs).snd.snd.snd.snd.snd≥(0:Int)) then (50:Int) else bif exB Ex.ret (cbb_q2 xs).fst then (cbb_q2 xs).snd.snd.snd.snd.snd else (0:Int)
 else bif exB Ex.ret (cbb_q2 xs).fst then (cbb_q2 xs).snd.snd.snd.snd.snd else (0:Int)
def cbb_side (xs:List Many):Prop:=
 eM.okL xs∧Lp.ixJ (fun c=>c.snd) (fun c=>c.fst) ixf_K (ixf_f (eM.ag xs,(),(↑xs.length:Int),(0:Int),(0:Int)))∧(exB Ex.ret (cbb_q1 xs).fst=true→decide ((cbb_q1 xs).snd.snd.snd.snd.snd≥(0:Int))=false→eM.okL xs∧eM.okL xs∧Lp.ixJ (fun c=>c.snd.snd) (fun c=>c.snd.fst) cbg_K (cbg_f (eM.ag xs,eM.ag xs,(↑xs.length:Int),(0:Int),(0:Int))))∧(exB Ex.ret (cbb_q1 xs).fst=false→eM.okL xs∧eM.okL xs∧Lp.ixJ (fun c=>c.snd.snd) (fun c=>c.snd.fst) cbg_K (cbg_f (eM.ag xs,eM.ag xs,(↑xs.length:Int),(0:Int),(0:Int))))
theorem cbb_okS (pre:DA.T aLM→List Prop) (h:∀ g,DA.bd aLM g→(∀ p∈pre g,p)→cbb_side g):FnPure Tryd.prog 35 aLM dI (fun g=>cbb_F g) pre:=pure_of_sideS (Γ:=(PTab.gamz tabG6 [] [])) (Λ:=lamG8) (PTab.okz tabG6 [] []) lamG8_ok 100 default (fun g=>cbb_side g) (fun g=>by kernel_rfl) (fun g=>by kernel_rfl) h
noncomputable def rcb_q1 (xs:List Many):Ex×bga_G:=
 loopF (fun g=>bga_R g.fst g.snd.fst g.snd.snd) bga_M (eM.ag xs,(0:Int),(0:Int))
noncomputable def rcb_q2 (xs:List Many):Ex ×
 bgb_G:=
 loopF (fun g=>bgb_R g.fst g.snd.fst g.snd.snd) bgb_M (eM.ag (rcb_q1 xs).snd.fst,(0:Int),(rcb_q1 xs).snd.snd.snd)
noncomputable def rcb_F (xs:List Many):Dv.T dI:=
 bif exB Ex.ret (rcb_q1 xs).fst then (rcb_q1 xs).snd.snd.snd else bif exB Ex.ret (rcb_q2 xs).fst then (rcb_q2 xs).snd.snd.snd else (0:Int)
def rcb_side (xs:List Many):Prop:=
 eM.okL xs∧Lp.ixJ (fun c=>(↑(List.length c):Int)) (fun c=>c) bga_K (bga_f (eM.ag xs,(0:Int),(0:Int)))∧(exB Ex.ret (rcb_q1 xs).fst=false→eM.okL (rcb_q1 xs).snd.fst∧Lp.ixJ (fun c=>(↑(List.length c):Int)) (fun c=>c) bgb_K (bgb_f (eM.ag (rcb_q1 xs).snd.fst,(0:Int),(rcb_q1 xs).snd.snd.snd)))
theorem rcb_okS (pre:DA.T aLM→List Prop) (h:∀ g,DA.bd aLM g→(∀ p∈pre g,p)→rcb_side g):FnPure Tryd.prog 36 aLM dI (fun g=>rcb_F g) pre:=pure_of_sideS (Γ:=(PTab.gamz tabG6 [] [])) (Λ:=lamG8) (PTab.okz tabG6 [] []) lamG8_ok 100 default (fun g=>rcb_side g) (fun g=>by kernel_rfl) (fun g=>by kernel_rfl) h
end Go.Proofs.YtmegbepjdololaaDoor

namespace Go.Proofs.YtmegbepjdololaaDoor
open Go.RowKit Go.Sx Go.Lp
noncomputable def bagBad (xs:List Many) (i:Int) (v:Many):Bool:=decide (v.n<(1:Int))||(decide (v.n > (1048576:Int))||decide (i > (0:Int))&&decide (cmpR (xs.getD (IntKind.i64.wrap (i - (1:Int))).toNat eM.dflt).r v.r≥(0:Int)))
noncomputable def bagF (xs:List Many):Int:=bif xs.any (fun v=>chkR v.r != (0:Int)) then 50 else bif (List.range xs.length).any (fun j=>bagBad xs (j:Int) (xs.getD j eM.dflt)) then 51 else 0
theorem chkR_two (r:Rec):chkR r=0∨chkR r=50:=by
 unfold chkR
 cases decide ((r.text.size:Int) > 64)||!validS r.text with
 | true=>exact .inr rfl
 | false=>exact .inl rfl
theorem bag_hit {xs:List Many} {n:Nat} {v:Many} (h:xs[n]?=some v) (hb:bagBad xs (n:Int) v=true):(List.range xs.length).any (fun j=>bagBad xs (j:Int) (xs.getD j eM.dflt))=true:=by
 obtain ⟨hn,hv⟩:=List.getElem?_eq_some_iff.1 h
 refine List.any_eq_true.2 ⟨n,List.mem_range.2 hn,?_⟩
 rw[List.getD_eq_getElem?_getD,h]
 exact hb
theorem bag_miss {xs:List Many} (h:∀ (n:Nat) (v:Many),xs[n]?=some v→bagBad xs (n:Int) v=false):(List.range xs.length).any (fun j=>bagBad xs (j:Int) (xs.getD j eM.dflt))=false:=by
 rw[Bool.eq_false_iff]
 intro ha
 obtain ⟨n,hn,hb⟩:=List.any_eq_true.1 ha
 have hn:=List.mem_range.1 hn
 rw[List.getD_eq_getElem?_getD,List.getElem?_eq_getElem hn,Option.getD_some,h n _ (List.getElem?_eq_getElem hn)] at hb
 cases hb
theorem cbb_q1_eq (xs:List Many) (h:xs.length≤KB):(xs.any (fun v=>chkR v.r != (0:Int))=true∧∃ n:Nat,cbb_q1 xs=(.ret,xs,(),(xs.length:Int),(n:Int),(n:Int)))∨(xs.any (fun v=>chkR v.r != (0:Int))=false∧(cbb_q1 xs).1=.exit 0):=by
 unfold KB at h
 have hrun:=ixf_run (xs,(xs.length:Int)) ((),0) rfl (by show xs.length≤maxLen;unfold maxLen;omega) trivial
 have hq:cbb_q1 xs=loopF ixf_RR ixf_M (ixf_g (0,(xs,(xs.length:Int)),((),0))):=by
  unfold cbb_q1
  rw[eM.ag_eq]
  rfl
 rcases searchI (x:=0) (st:=ixf_S (xs,(xs.length:Int))) (p:=fun _ v=>chkR v.r != (0:Int)) (r:=fun i _ _=>((),i)) (fun b i a=>rfl) xs ((),0) with ⟨n,v,h1,h2,hs⟩ | ⟨h1,hs⟩
 ·left
  refine ⟨List.any_eq_true.2 ⟨v,List.mem_of_getElem? h1,h2⟩,n,?_⟩
  rw[hq,hrun,hs]
  rfl
 ·right
  refine ⟨?_,by rw[hq,hrun,hs]⟩
  rw[Bool.eq_false_iff]
  intro ha
  obtain ⟨v,hv,hb⟩:=List.any_eq_true.1 ha
  obtain ⟨n,hn⟩:=List.getElem?_of_mem hv
  have:(chkR v.r != (0:Int))=false:=h1 n v hn
  rw[this] at hb
  cases hb
theorem cbb_q2_eq (xs:List Many) (h:xs.length≤KB):((List.range xs.length).any (fun j=>bagBad xs (j:Int) (xs.getD j eM.dflt))=true∧(cbb_q2 xs).1=.ret∧(cbb_q2 xs).2.2.2.2.2=51)∨((List.range xs.length).any (fun j=>bagBad xs (j:Int) (xs.getD j eM.dflt))=false∧(cbb_q2 xs).1=.exit 0):=by
 unfold KB at h
 have hrun:=cbg_run (xs,xs,(xs.length:Int)) 0 rfl (by show xs.length≤maxLen;unfold maxLen;omega) rfl
 have hq:cbb_q2 xs=loopF cbg_RR cbg_M (cbg_g (0,(xs,xs,(xs.length:Int)),0)):=by
  unfold cbb_q2
  rw[eM.ag_eq]
  rfl
 rcases searchI (x:=0) (st:=cbg_S (xs,xs,(xs.length:Int))) (p:=bagBad xs) (r:=fun _ _ _=>(51:Int)) (fun b i a=>rfl) xs 0 with ⟨n,v,h1,h2,hs⟩ | ⟨h1,hs⟩
 ·left
  refine ⟨bag_hit h1 h2,?_⟩
  rw[hq,hrun,hs]
  exact ⟨rfl,rfl⟩
 ·right
  exact ⟨bag_miss h1,by rw[hq,hrun,hs]⟩
theorem cbb_ok:FnPure Tryd.prog 35 aLM dI bagF (fun g=>[g.length≤KB]):=
 pure_congr (cbb_okS _ fun xs _ hp=>by
  have h:xs.length≤KB:=hp _ (List.mem_cons_self ..)
  have h':=h
  unfold KB at h'
  have hm:xs.length≤maxLen:=by unfold maxLen;omega
  show cbb_side xs
  unfold cbb_side
  rw[eM.okL_eq,eM.ag_eq]
  exact ⟨trivial,ixJ0 rfl hm trivial,fun _ _=>⟨trivial,trivial,ixJ0 rfl hm rfl⟩,fun _=>⟨trivial,trivial,ixJ0 rfl hm rfl⟩⟩) fun xs _ hp=>by
  have h:xs.length≤KB:=hp _ (List.mem_cons_self ..)
  show cbb_F xs=bagF xs
  unfold cbb_F bagF
  rcases cbb_q1_eq xs h with ⟨h1,n,h2⟩ | ⟨h1,h2⟩
  ·rw[h1,h2]
   have e:decide ((n:Int)≥(0:Int))=true:=decide_eq_true (by omega)
   show (bif true then bif decide ((n:Int)≥(0:Int)) then (50:Int) else _ else _)=_
   rw[e];rfl
  ·rw[h1,h2]
   show (bif false then _ else _)=_
   rw[cond_false,cond_false]
   rcases cbb_q2_eq xs h with ⟨k1,k2,k3⟩ | ⟨k1,k2⟩
   ·rw[k1,k2,k3];rfl
   ·rw[k1,k2];rfl
theorem rcb_q1_eq (xs:List Many) (h:xs.length≤KB):(xs.any (fun v=>chkR v.r != (0:Int))=true∧(rcb_q1 xs).1=.ret∧(rcb_q1 xs).2.2.2=50)∨(xs.any (fun v=>chkR v.r != (0:Int))=false∧rcb_q1 xs=(.exit 0,xs,(xs.length:Int),0)):=by
 unfold KB at h
 have hrun:=bga_run xs 0 rfl (by show xs.length≤maxLen;unfold maxLen;omega) trivial
 have hq:rcb_q1 xs=loopF bga_RR bga_M (bga_g (0,xs,0)):=by
  unfold rcb_q1
  rw[eM.ag_eq]
  rfl
 rcases search (x:=0) (st:=bga_S xs) (p:=fun v=>chkR v.r != (0:Int)) (r:=fun _ v _=>chkR v.r) (fun b i a=>rfl) xs 0 with ⟨h1,j,_,a,_,h3,hs⟩ | ⟨h1,hs⟩
 ·left
  refine ⟨h1,?_⟩
  rw[hq,hrun,hs]
  refine ⟨rfl,?_⟩
  show chkR a.r=50
  rcases chkR_two a.r with e | e
  ·rw[e] at h3;cases h3
  ·exact e
 ·right
  refine ⟨h1,?_⟩
  rw[hq,hrun,hs]
  rfl
theorem rcb_q2_eq (xs:List Many) (h:xs.length≤KB) (h1:rcb_q1 xs=(.exit 0,xs,(xs.length:Int),0)):((List.range xs.length).any (fun j=>bagBad xs (j:Int) (xs.getD j eM.dflt))=true∧(rcb_q2 xs).1=.ret∧(rcb_q2 xs).2.2.2=51)∨((List.range xs.length).any (fun j=>bagBad xs (j:Int) (xs.getD j eM.dflt))=false∧(rcb_q2 xs).1=.exit 2):=by
 unfold KB at h
 have hrun:=bgb_run xs 0 rfl (by show xs.length≤maxLen;unfold maxLen;omega) trivial
 have hq:rcb_q2 xs=loopF bgb_RR bgb_M (bgb_g (0,xs,0)):=by
  unfold rcb_q2
  rw[eM.ag_eq,h1]
  rfl
 rcases searchI (x:=2) (st:=bgb_S xs) (p:=bagBad xs) (r:=fun _ _ _=>(51:Int)) (fun b i a=>rfl) xs 0 with ⟨n,v,h1,h2,hs⟩ | ⟨h1,hs⟩
 ·left
  refine ⟨bag_hit h1 h2,?_⟩
  rw[hq,hrun,hs]
  exact ⟨rfl,rfl⟩
 ·right
  exact ⟨bag_miss h1,by rw[hq,hrun,hs]⟩
theorem rcb_ok:FnPure Tryd.prog 36 aLM dI bagF (fun g=>[g.length≤KB]):=
 pure_congr (rcb_okS _ fun xs _ hp=>by
  have h:xs.length≤KB:=hp _ (List.mem_cons_self ..)
  have h':=h
  unfold KB at h'
  have hm:xs.length≤maxLen:=by unfold maxLen;omega
  show rcb_side xs
  unfold rcb_side
  rw[eM.okL_eq,eM.okL_eq,eM.ag_eq]
  refine ⟨trivial,ixJ0 rfl hm trivial,fun hx=>⟨trivial,?_⟩⟩
  rcases rcb_q1_eq xs h with ⟨_,k2,_⟩ | ⟨_,k2⟩
  ·rw[k2] at hx;cases hx
  ·rw[eM.ag_eq,k2]
   exact ixJ0 rfl hm trivial) fun xs _ hp=>by
  have h:xs.length≤KB:=hp _ (List.mem_cons_self ..)
  show rcb_F xs=bagF xs
  unfold rcb_F bagF
  rcases rcb_q1_eq xs h with ⟨h1,h2,h3⟩ | ⟨h1,h2⟩
  ·rw[h1,h2,h3];rfl
  ·rw[h1]
   have e:(rcb_q1 xs).1=.exit 0:=by rw[h2]
   rw[e]
   show (bif false then _ else _)=_
   rw[cond_false,cond_false]
   rcases rcb_q2_eq xs h h2 with ⟨k1,k2,k3⟩ | ⟨k1,k2⟩
   ·rw[k1,k2,k3];rfl
   ·rw[k1,k2];rfl
end Go.Proofs.YtmegbepjdololaaDoor

namespace Go.Proofs.YtmegbepjdololaaDoor
open Go.RowKit Go.Sx
set_option maxRecDepth 100000
set_option linter.unusedVariables false
noncomputable def tabO9:MTab Tryd.prog:=(tabO8.cons 35 (pconP aLM dI bagF (fun g=>[g.length≤KB])) (conP_ok cbb_ok puI)).cons 36 (pconP aLM dI bagF (fun g=>[g.length≤KB])) (conP_ok rcb_ok puI)
abbrev rbb_G:Type:=List Rec×Int×List Many
noncomputable def rbb_LP:LP 0 rbb_G:=.pair (.slot 0 0 dLR) (.pair (.slot 0 7 dI) (.slot 0 6 dLM))
noncomputable def rbb_R (xs:List Rec) (i:Int) (o:List Many):Ex×rbb_G:=
 bif decide (i<(↑xs.length:Int)) then (Ex.normal,eR.ag xs,IntKind.i64.wrap (i+(1:Int)),eM.ag (putL (xs.getD i.toNat eR.dflt) (1:Int) (eM.ag o)))
 else (Ex.exit (2:Nat),eR.ag xs,i,eM.ag o)
def rbb_side (xs:List Rec) (i:Int) (o:List Many):Prop:=
 (decide (i<(↑xs.length:Int))=true→((0:Int)≤i∧i<(↑xs.length:Int))∧eM.okL o∧(eM.ag o).length≤(1000000:Nat)∧eR.okL xs∧eM.okL (putL (xs.getD i.toNat eR.dflt) (1:Int) (eM.ag o)))∧(decide (i<(↑xs.length:Int))=false→eR.okL xs∧eM.okL o)
theorem rbb_one:((loopsOf Tryd.prog 25).filter fun c=>Nat.beq (lkey c) 9).length=1:=by kernel_rfl
abbrev rbb_GC:Type:=List Rec
abbrev rbb_GB:Type:=List Many
def rbb_f (g:rbb_G):Int×rbb_GC×rbb_GB:=(g.2.1,g.1,g.2.2)
def rbb_g (d:Int×rbb_GC×rbb_GB):rbb_G:=(d.2.1,d.1,d.2.2)
theorem rbb_es (g:rbb_G):(rbb_R g.1 g.2.1 g.2.2).1=.normal∨(rbb_R g.1 g.2.1 g.2.2).1∈([.exit 2]:List Ex):=by
 unfold rbb_R
 repeat' (first | (left;rfl) | (right;simp only[cond_true,cond_false];simp;done) | (rw[Bool.cond_eq_ite];split))
noncomputable abbrev rbb_C (Inv:rbb_G→List Prop) (m:rbb_G→Nat):LCon:=loopR [.exit 2] (loopBody Tryd.prog 25 9) rbb_LP [] 41 Inv (fun g=>rbb_R g.1 g.2.1 g.2.2) m
theorem rbb_loop (Inv:rbb_G→List Prop) (m:rbb_G→Nat) (hs:∀ g,allP (Inv g)→rbb_side g.1 g.2.1 g.2.2) (hg:Goes (fun g:rbb_G=>rbb_R g.1 g.2.1 g.2.2) m fun g=>allP (Inv g)):∀ b∈loopsOf Tryd.prog 25,lkey b=9→LoopOk Tryd.prog b (rbb_C Inv m).g:=loop_run (Γ:=(MTab.gamz tabO9 [] [])) (Λ:=noΛ) (MTab.okz tabO9 [] []) noΛ_ok 100 25 9 41 rbb_LP [] Inv (fun g=>rbb_R g.1 g.2.1 g.2.2) (fun g=>rbb_side g.1 g.2.1 g.2.2) m default [.exit 2] rbb_one (fun rd T B HL HB ds g=>by kernel_rfl) (fun rd T B HL HB ds g=>by kernel_rfl) hs hg rbb_es
abbrev rsa_G:Type:=List Many×Int×List Many
noncomputable def rsa_LP:LP 0 rsa_G:=.pair (.slot 0 0 dLM) (.pair (.slot 0 9 dI) (.slot 0 8 dLM))
noncomputable def rsa_R (xs:List Many) (i:Int) (o:List Many):Ex×rsa_G:=
 bif decide (i<(↑xs.length:Int)) then (Ex.normal,eM.ag xs,IntKind.i64.wrap (i+(1:Int)),eM.ag (putL (xs.getD i.toNat eM.dflt).r (xs.getD i.toNat eM.dflt).n (eM.ag o)))
 else (Ex.exit (0:Nat),eM.ag xs,i,eM.ag o)
def rsa_side (xs:List Many) (i:Int) (o:List Many):Prop:=
 (decide (i<(↑xs.length:Int))=true→((0:Int)≤i∧i<(↑xs.length:Int))∧((0:Int)≤i∧i<(↑xs.length:Int))∧eM.okL o∧(eM.ag o).length≤(1000000:Nat)∧eM.okL xs∧eM.okL (putL (xs.getD i.toNat eM.dflt).r (xs.getD i.toNat eM.dflt).n (eM.ag o)))∧(decide (i<(↑xs.length:Int))=false→eM.okL xs∧eM.okL o)
theorem rsa_one:((loopsOf Tryd.prog 34).filter fun c=>Nat.beq (lkey c) 9).length=1:=by kernel_rfl
abbrev rsa_GC:Type:=List Many
abbrev rsa_GB:Type:=List Many
def rsa_f (g:rsa_G):Int×rsa_GC×rsa_GB:=(g.2.1,g.1,g.2.2)
def rsa_g (d:Int×rsa_GC×rsa_GB):rsa_G:=(d.2.1,d.1,d.2.2)
theorem rsa_es (g:rsa_G):(rsa_R g.1 g.2.1 g.2.2).1=.normal∨(rsa_R g.1 g.2.1 g.2.2).1∈([.exit 0]:List Ex):=by
 unfold rsa_R
 repeat' (first | (left;rfl) | (right;simp only[cond_true,cond_false];simp;done) | (rw[Bool.cond_eq_ite];split))
noncomputable abbrev rsa_C (Inv:rsa_G→List Prop) (m:rsa_G→Nat):LCon:=loopR [.exit 0] (loopBody Tryd.prog 34 9) rsa_LP [] 64 Inv (fun g=>rsa_R g.1 g.2.1 g.2.2) m
theorem rsa_loop (Inv:rsa_G→List Prop) (m:rsa_G→Nat) (hs:∀ g,allP (Inv g)→rsa_side g.1 g.2.1 g.2.2) (hg:Goes (fun g:rsa_G=>rsa_R g.1 g.2.1 g.2.2) m fun g=>allP (Inv g)):∀ b∈loopsOf Tryd.prog 34,lkey b=9→LoopOk Tryd.prog b (rsa_C Inv m).g:=loop_run (Γ:=(MTab.gamz tabO9 [] [])) (Λ:=noΛ) (MTab.okz tabO9 [] []) noΛ_ok 100 34 9 64 rsa_LP [] Inv (fun g=>rsa_R g.1 g.2.1 g.2.2) (fun g=>rsa_side g.1 g.2.1 g.2.2) m default [.exit 0] rsa_one (fun rd T B HL HB ds g=>by kernel_rfl) (fun rd T B HL HB ds g=>by kernel_rfl) hs hg rsa_es
abbrev rsb_G:Type:=List Many×Int×List Many
noncomputable def rsb_LP:LP 0 rsb_G:=.pair (.slot 0 1 dLM) (.pair (.slot 0 10 dI) (.slot 0 8 dLM))
noncomputable def rsb_R (xs:List Many) (i:Int) (o:List Many):Ex×rsb_G:=
 bif decide (i<(↑xs.length:Int)) then (Ex.normal,eM.ag xs,IntKind.i64.wrap (i+(1:Int)),eM.ag (putL (xs.getD i.toNat eM.dflt).r (xs.getD i.toNat eM.dflt).n (eM.ag o)))
 else (Ex.exit (2:Nat),eM.ag xs,i,eM.ag o)
def rsb_side (xs:List Many) (i:Int) (o:List Many):Prop:=
 (decide (i<(↑xs.length:Int))=true→((0:Int)≤i∧i<(↑xs.length:Int))∧((0:Int)≤i∧i<(↑xs.length:Int))∧eM.okL o∧(eM.ag o).length≤(1000000:Nat)∧eM.okL xs∧eM.okL (putL (xs.getD i.toNat eM.dflt).r (xs.getD i.toNat eM.dflt).n (eM.ag o)))∧(decide (i<(↑xs.length:Int))=false→eM.okL xs∧eM.okL o)
theorem rsb_one:((loopsOf Tryd.prog 34).filter fun c=>Nat.beq (lkey c) 13).length=1:=by kernel_rfl
abbrev rsb_GC:Type:=List Many
abbrev rsb_GB:Type:=List Many
def rsb_f (g:rsb_G):Int×rsb_GC×rsb_GB:=(g.2.1,g.1,g.2.2)
def rsb_g (d:Int×rsb_GC×rsb_GB):rsb_G:=(d.2.1,d.1,d.2.2)
theorem rsb_es (g:rsb_G):(rsb_R g.1 g.2.1 g.2.2).1=.normal∨(rsb_R g.1 g.2.1 g.2.2).1∈([.exit 2]:List Ex):=by
 unfold rsb_R
 repeat' (first | (left;rfl) | (right;simp only[cond_true,cond_false];simp;done) | (rw[Bool.cond_eq_ite];split))
noncomputable abbrev rsb_C (Inv:rsb_G→List Prop) (m:rsb_G→Nat):LCon:=loopR [.exit 2] (loopBody Tryd.prog 34 13) rsb_LP [] 64 Inv (fun g=>rsb_R g.1 g.2.1 g.2.2) m
theorem rsb_loop (Inv:rsb_G→List Prop) (m:rsb_G→Nat) (hs:∀ g,allP (Inv g)→rsb_side g.1 g.2.1 g.2.2) (hg:Goes (fun g:rsb_G=>rsb_R g.1 g.2.1 g.2.2) m fun g=>allP (Inv g)):∀ b∈loopsOf Tryd.prog 34,lkey b=13→LoopOk Tryd.prog b (rsb_C Inv m).g:=loop_run (Γ:=(MTab.gamz tabO9 [] [])) (Λ:=noΛ) (MTab.okz tabO9 [] []) noΛ_ok 100 34 13 64 rsb_LP [] Inv (fun g=>rsb_R g.1 g.2.1 g.2.2) (fun g=>rsb_side g.1 g.2.1 g.2.2) m default [.exit 2] rsb_one (fun rd T B HL HB ds g=>by kernel_rfl) (fun rd T B HL HB ds g=>by kernel_rfl) hs hg rsb_es
end Go.Proofs.YtmegbepjdololaaDoor

namespace Go.Proofs.YtmegbepjdololaaDoor
open Go.RowKit Go.Sx Go.Lp
set_option maxRecDepth 100000
def puf (b:Bool×List Many):Nat:=b.2.length+(bif b.1 then 0 else 1)
theorem puf_step (r:Rec) (n:Int) (b:Bool×List Many) (v:Many):puf (puStep r n b v)≤puf b+1:=by
 unfold puf puStep
 obtain ⟨d,o⟩:=b
 cases d <;> cases decide (cmpR r v.r<0) <;> cases cmpR r v.r==0 <;> simp
theorem putL_len (r:Rec) (n:Int) (l:List Many):(putL r n l).length≤l.length+1:=by
 have key:∀ (l:List Many) (b:Bool×List Many),puf (l.foldl (puStep r n) b)≤puf b+l.length:=by
  intro l
  induction l with
  | nil=>intro b;exact Nat.le_refl _
  | cons a l ih=>
   intro b
   have h1:=ih (puStep r n b a)
   have h2:=puf_step r n b a
   rw[List.foldl_cons,List.length_cons]
   omega
 have h:=key l (false,[])
 have h0:puf (false,[])=1:=rfl
 rw[h0] at h
 unfold putL
 unfold puf at h
 generalize l.foldl (puStep r n) (false,[])=b at h ⊢
 obtain ⟨d,o⟩:=b
 cases d with
 | true=>simp only[cond_true,Bool.not_true,cond_false] at h ⊢;omega
 | false=>simp only[cond_false,Bool.not_false,cond_true,List.length_append,List.length_cons,List.length_nil] at h ⊢;omega
def putM (o:List Many) (v:Many):List Many:=putL v.r v.n o
noncomputable def rbb_S (_:rbb_GC) (b:rbb_GB) (_:Int) (v:Rec):Ex×rbb_GB:=(.normal,putL v 1 b)
def rbb_K (c:rbb_GC) (b:rbb_GB) (i:Int):Prop:=c.length≤500000∧(List.length b:Int)≤i
abbrev rbb_I (g:rbb_G):List Prop:=ixI (fun c:rbb_GC=>(List.length c:Int)) (fun c=>c) rbb_K (rbb_f g)
abbrev rbb_M (g:rbb_G):Nat:=ixM (fun c:rbb_GC=>(List.length c:Int)) (rbb_f g)
theorem rbb_P:ixP rbb_S (fun c:rbb_GC=>c) rbb_K:=fun c b i a h _ _=>⟨h.1,by
 have:=h.2
 have hl:=putL_len a 1 b
 show ((putL a 1 b).length:Int)≤_
 omega⟩
noncomputable abbrev rbb_RR (g:rbb_G):Ex×rbb_G:=rbb_R g.1 g.2.1 g.2.2
theorem rbb_RF (d:Int×rbb_GC×rbb_GB) (_:allP (ixI (fun c:rbb_GC=>(List.length c:Int)) (fun c=>c) rbb_K d)):rbb_RR (rbb_g d)=((ixF 2 (fun c:rbb_GC=>(List.length c:Int)) (fun c=>c) eR.dflt rbb_S d).1,rbb_g (ixF 2 (fun c:rbb_GC=>(List.length c:Int)) (fun c=>c) eR.dflt rbb_S d).2):=by
 obtain ⟨i,xs,o⟩:=d
 show rbb_R xs i o=_
 unfold rbb_R ixF rbb_S
 simp only[El.ag_eq]
 cases decide (i<(List.length xs:Int)) <;> rfl
theorem rbb_ok:∀ b∈loopsOf Tryd.prog 25,lkey b=9→LoopOk Tryd.prog b (rbb_C rbb_I rbb_M).g:=by
 refine rbb_loop rbb_I rbb_M (fun g hi=>?_) (ix_conj_goes (fun _=>rfl) (fun _=>rfl) rbb_RF rbb_P)
 obtain ⟨xs,i,o⟩:=g
 obtain ⟨h1,h2,h3,h4,h5,h6⟩:=hi _ (List.mem_cons_self ..)
 have h3:0≤i:=h3
 have h4:i≤(xs.length:Int):=h4
 have h5:xs.length≤500000:=h5
 have h6:(o.length:Int)≤i:=h6
 show rbb_side xs i o
 unfold rbb_side
 simp only[El.okL_eq,El.ag_eq,decide_eq_true_eq,decide_eq_false_iff_not]
 refine ⟨fun hlt=>⟨⟨h3,hlt⟩,trivial,by omega,trivial,trivial⟩,fun _=>⟨trivial,trivial⟩⟩
noncomputable def rsa_S (_:rsa_GC) (b:rsa_GB) (_:Int) (v:Many):Ex×rsa_GB:=(.normal,putM b v)
def rsa_K (c:rsa_GC) (b:rsa_GB) (i:Int):Prop:=c.length≤400000∧(List.length b:Int)≤400000+i
abbrev rsa_I (g:rsa_G):List Prop:=ixI (fun c:rsa_GC=>(List.length c:Int)) (fun c=>c) rsa_K (rsa_f g)
abbrev rsa_M (g:rsa_G):Nat:=ixM (fun c:rsa_GC=>(List.length c:Int)) (rsa_f g)
theorem rsa_P:ixP rsa_S (fun c:rsa_GC=>c) rsa_K:=fun c b i a h _ _=>⟨h.1,by
 have:=h.2
 have hl:=putL_len a.r a.n b
 show ((putL a.r a.n b).length:Int)≤_
 omega⟩
noncomputable abbrev rsa_RR (g:rsa_G):Ex×rsa_G:=rsa_R g.1 g.2.1 g.2.2
theorem rsa_RF (d:Int×rsa_GC×rsa_GB) (_:allP (ixI (fun c:rsa_GC=>(List.length c:Int)) (fun c=>c) rsa_K d)):rsa_RR (rsa_g d)=((ixF 0 (fun c:rsa_GC=>(List.length c:Int)) (fun c=>c) eM.dflt rsa_S d).1,rsa_g (ixF 0 (fun c:rsa_GC=>(List.length c:Int)) (fun c=>c) eM.dflt rsa_S d).2):=by
 obtain ⟨i,xs,o⟩:=d
 show rsa_R xs i o=_
 unfold rsa_R ixF rsa_S putM
 simp only[El.ag_eq]
 cases decide (i<(List.length xs:Int)) <;> rfl
theorem rsa_ok:∀ b∈loopsOf Tryd.prog 34,lkey b=9→LoopOk Tryd.prog b (rsa_C rsa_I rsa_M).g:=by
 refine rsa_loop rsa_I rsa_M (fun g hi=>?_) (ix_conj_goes (fun _=>rfl) (fun _=>rfl) rsa_RF rsa_P)
 obtain ⟨xs,i,o⟩:=g
 obtain ⟨h1,h2,h3,h4,h5,h6⟩:=hi _ (List.mem_cons_self ..)
 have h3:0≤i:=h3
 have h4:i≤(xs.length:Int):=h4
 have h5:xs.length≤400000:=h5
 have h6:(o.length:Int)≤400000+i:=h6
 show rsa_side xs i o
 unfold rsa_side
 simp only[El.okL_eq,El.ag_eq,decide_eq_true_eq,decide_eq_false_iff_not]
 refine ⟨fun hlt=>⟨⟨h3,hlt⟩,⟨h3,hlt⟩,trivial,by omega,trivial,trivial⟩,fun _=>⟨trivial,trivial⟩⟩
theorem rsa_run (xs o:List Many) (k:xs.length≤400000) (ko:o.length≤400000):loopF rsa_RR rsa_M (rsa_g (0,xs,o))=(.exit 0,rsa_g ((xs.length:Int),xs,xs.foldl putM o)):=by
 have hr:loopF rsa_RR rsa_M (rsa_g (0,xs,o))=_:=ix_conj_run (φ:=rsa_f) (ψ:=rsa_g) (fun _=>rfl) (fun _=>rfl) rsa_RF rsa_P xs o rfl (Nat.le_trans k (by decide)) ⟨k,by show (o.length:Int)≤400000+0;omega⟩
 rw[hr]
 have hs:scan 0 (rsa_S xs) 0 xs o=_:=scan_fold (st:=rsa_S xs) (f:=putM) (fun _ _ _=>rfl) xs 0 o
 show ((scan 0 (rsa_S xs) 0 xs o).1,rsa_g ((scan 0 (rsa_S xs) 0 xs o).2.1,xs,(scan 0 (rsa_S xs) 0 xs o).2.2))=_
 rw[hs,Int.zero_add]
noncomputable def rsb_S (_:rsb_GC) (b:rsb_GB) (_:Int) (v:Many):Ex×rsb_GB:=(.normal,putM b v)
def rsb_K (c:rsb_GC) (b:rsb_GB) (i:Int):Prop:=c.length≤400000∧(List.length b:Int)≤400000+i
abbrev rsb_I (g:rsb_G):List Prop:=ixI (fun c:rsb_GC=>(List.length c:Int)) (fun c=>c) rsb_K (rsb_f g)
abbrev rsb_M (g:rsb_G):Nat:=ixM (fun c:rsb_GC=>(List.length c:Int)) (rsb_f g)
theorem rsb_P:ixP rsb_S (fun c:rsb_GC=>c) rsb_K:=fun c b i a h _ _=>⟨h.1,by
 have:=h.2
 have hl:=putL_len a.r a.n b
 show ((putL a.r a.n b).length:Int)≤_
 omega⟩
noncomputable abbrev rsb_RR (g:rsb_G):Ex×rsb_G:=rsb_R g.1 g.2.1 g.2.2
theorem rsb_RF (d:Int×rsb_GC×rsb_GB) (_:allP (ixI (fun c:rsb_GC=>(List.length c:Int)) (fun c=>c) rsb_K d)):rsb_RR (rsb_g d)=((ixF 2 (fun c:rsb_GC=>(List.length c:Int)) (fun c=>c) eM.dflt rsb_S d).1,rsb_g (ixF 2 (fun c:rsb_GC=>(List.length c:Int)) (fun c=>c) eM.dflt rsb_S d).2):=by
 obtain ⟨i,xs,o⟩:=d
 show rsb_R xs i o=_
 unfold rsb_R ixF rsb_S putM
 simp only[El.ag_eq]
 cases decide (i<(List.length xs:Int)) <;> rfl
theorem rsb_ok:∀ b∈loopsOf Tryd.prog 34,lkey b=13→LoopOk Tryd.prog b (rsb_C rsb_I rsb_M).g:=by
 refine rsb_loop rsb_I rsb_M (fun g hi=>?_) (ix_conj_goes (fun _=>rfl) (fun _=>rfl) rsb_RF rsb_P)
 obtain ⟨xs,i,o⟩:=g
 obtain ⟨h1,h2,h3,h4,h5,h6⟩:=hi _ (List.mem_cons_self ..)
 have h3:0≤i:=h3
 have h4:i≤(xs.length:Int):=h4
 have h5:xs.length≤400000:=h5
 have h6:(o.length:Int)≤400000+i:=h6
 show rsb_side xs i o
 unfold rsb_side
 simp only[El.okL_eq,El.ag_eq,decide_eq_true_eq,decide_eq_false_iff_not]
 refine ⟨fun hlt=>⟨⟨h3,hlt⟩,⟨h3,hlt⟩,trivial,by omega,trivial,trivial⟩,fun _=>⟨trivial,trivial⟩⟩
theorem rsb_run (xs o:List Many) (k:xs.length≤400000) (ko:o.length≤400000):loopF rsb_RR rsb_M (rsb_g (0,xs,o))=(.exit 2,rsb_g ((xs.length:Int),xs,xs.foldl putM o)):=by
 have hr:loopF rsb_RR rsb_M (rsb_g (0,xs,o))=_:=ix_conj_run (φ:=rsb_f) (ψ:=rsb_g) (fun _=>rfl) (fun _=>rfl) rsb_RF rsb_P xs o rfl (Nat.le_trans k (by decide)) ⟨k,by show (o.length:Int)≤400000+0;omega⟩
 rw[hr]
 have hs:scan 2 (rsb_S xs) 0 xs o=_:=scan_fold (st:=rsb_S xs) (f:=putM) (fun _ _ _=>rfl) xs 0 o
 show ((scan 2 (rsb_S xs) 0 xs o).1,rsb_g ((scan 2 (rsb_S xs) 0 xs o).2.1,xs,(scan 2 (rsb_S xs) 0 xs o).2.2))=_
 rw[hs,Int.zero_add]
noncomputable def ltO10:LTab Tryd.prog:=((ltO3.cons 25 9 (rbb_C rbb_I rbb_M) rbb_ok).cons 34 9 (rsa_C rsa_I rsa_M) rsa_ok).cons 34 13 (rsb_C rsb_I rsb_M) rsb_ok
noncomputable abbrev lamO10:Lam:=ltO10.lam
theorem lamO10_ok:∀ f k L,lamO10 f k=some L→∀ b∈loopsOf Tryd.prog f,lkey b=k→LoopOk Tryd.prog b L.g:=ltO10.ok
end Go.Proofs.YtmegbepjdololaaDoor

namespace Go.Proofs.YtmegbepjdololaaDoor
open Go.RowKit Go.Sx
set_option maxRecDepth 100000
set_option linter.unusedVariables false
abbrev aLR1:DA (List Rec):=.one dLR
abbrev aLMM2:DA (List Many×List Many):=.cons dLM (.one dLM)
noncomputable def bgA_q1 (l:List Rec):Ex ×
 ba_G:=
 loopF (fun g=>ba_R g.fst g.snd.fst g.snd.snd.fst g.snd.snd.snd.fst g.snd.snd.snd.snd.fst g.snd.snd.snd.snd.snd.fst g.snd.snd.snd.snd.snd.snd) ba_M (eR.ag l,(↑l.length:Int),(0:Int),(),(List.map (fun x=>(Rec.mk (0:Int) (ByteArray.mk #[]),(0:Int),(0:Int))) (List.range (0:Nat)),(0:Nat)),(),(0:Int))
noncomputable def bgA_F (l:List Rec):Dv.T dLME:=
 bif exB Ex.ret (bgA_q1 l).fst then ([],(bgA_q1 l).snd.snd.snd.snd.snd.snd.snd)
 else (eM.ag (bagE (List.map d3e ((eR.ent eI).ag (bgA_q1 l).snd.snd.snd.snd.snd.fst.fst))).fst,(bagE (List.map d3e ((eR.ent eI).ag (bgA_q1 l).snd.snd.snd.snd.snd.fst.fst))).snd)
def bgA_side (l:List Rec):Prop:=
 eR.okL l∧(∀ (e:Nat),e<(0:Nat)→True)∧Lp.ixJ (fun c=>c.snd) (fun c=>c.fst) ba_K (ba_f (eR.ag l,(↑l.length:Int),(0:Int),(),(List.map (fun x=>(Rec.mk (0:Int) (ByteArray.mk #[]),(0:Int),(0:Int))) (List.range (0:Nat)),(0:Nat)),(),(0:Int)))∧(exB Ex.ret (bgA_q1 l).fst=false→(∀ (e:Nat),e<(bgA_q1 l).snd.snd.snd.snd.snd.fst.fst.length→True)∧(List.map d3e ((eR.ent eI).ag (bgA_q1 l).snd.snd.snd.snd.snd.fst.fst)).length≤(1000000:Nat)∧KdE (List.map d3e ((eR.ent eI).ag (bgA_q1 l).snd.snd.snd.snd.snd.fst.fst))∧eM.okL (bagE (List.map d3e ((eR.ent eI).ag (bgA_q1 l).snd.snd.snd.snd.snd.fst.fst))).fst)
theorem bgA_okS (pre:DA.T aLR1→List Prop) (h:∀ g,DA.bd aLR1 g→(∀ p∈pre g,p)→bgA_side g):FnPure Tryd.prog 24 aLR1 dLME (fun g=>bgA_F g) pre:=pure_of_sideS (Γ:=(MTab.gamz tabO9 [] [(32,3,3)])) (Λ:=lamO10) (MTab.okz tabO9 [] [(32,3,3)]) lamO10_ok 100 default (fun g=>bgA_side g) (fun g=>by kernel_rfl) (fun g=>by kernel_rfl) h
noncomputable def smA_q1 (a:List Many) (b:List Many):Ex ×
 su_G:=
 loopF (fun g=>su_R g.fst g.snd.fst g.snd.snd.fst g.snd.snd.snd.fst g.snd.snd.snd.snd) su_M (eM.ag a,(↑a.length:Int),(0:Int),(),List.map (fun x=>(Rec.mk (0:Int) (ByteArray.mk #[]),(0:Int),(0:Int))) (List.range (0:Nat)),(0:Nat))
noncomputable def smA_q2 (a:List Many) (b:List Many):Ex ×
 su_G:=
 loopF (fun g=>su_R g.fst g.snd.fst g.snd.snd.fst g.snd.snd.snd.fst g.snd.snd.snd.snd) su_M (eM.ag b,(↑b.length:Int),(0:Int),(),(eR.ent eI).ag (smA_q1 a b).snd.snd.snd.snd.snd.fst,(smA_q1 a b).snd.snd.snd.snd.snd.snd)
noncomputable def smA_F (a:List Many) (b:List Many):Dv.T dLME:=
 bif bagF (eM.ag a) != (0:Int) then ([],bagF (eM.ag a))
 else bif bagF (eM.ag b) != (0:Int) then ([],bagF (eM.ag b)) else (eM.ag (bagE (List.map d3e ((eR.ent eI).ag (smA_q2 a b).snd.snd.snd.snd.snd.fst))).fst,(bagE (List.map d3e ((eR.ent eI).ag (smA_q2 a b).snd.snd.snd.snd.snd.fst))).snd)
def smA_side (a:List Many) (b:List Many):Prop:=
 eM.okL a∧(eM.ag a).length≤KB∧((bagF (eM.ag a) != (0:Int))=false→eM.okL a∧(∀ (e:Nat),e<(0:Nat)→True)∧Lp.ixJ (fun c=>c.snd) (fun c=>c.fst) su_K (su_f (eM.ag a,(↑a.length:Int),(0:Int),(),List.map (fun x=>(Rec.mk (0:Int) (ByteArray.mk #[]),(0:Int),(0:Int))) (List.range (0:Nat)),(0:Nat)))∧eM.okL b∧(eM.ag b).length≤KB∧((bagF (eM.ag b) != (0:Int))=false→eM.okL b∧(∀ (e:Nat),e<(smA_q1 a b).snd.snd.snd.snd.snd.fst.length→True)∧Lp.ixJ (fun c=>c.snd) (fun c=>c.fst) su_K (su_f (eM.ag b,(↑b.length:Int),(0:Int),(),(eR.ent eI).ag (smA_q1 a b).snd.snd.snd.snd.snd.fst,(smA_q1 a b).snd.snd.snd.snd.snd.snd))∧(∀ (e:Nat),e<(smA_q2 a b).snd.snd.snd.snd.snd.fst.length→True)∧(List.map d3e ((eR.ent eI).ag (smA_q2 a b).snd.snd.snd.snd.snd.fst)).length≤(1000000:Nat)∧KdE (List.map d3e ((eR.ent eI).ag (smA_q2 a b).snd.snd.snd.snd.snd.fst))∧eM.okL (bagE (List.map d3e ((eR.ent eI).ag (smA_q2 a b).snd.snd.snd.snd.snd.fst))).fst))
theorem smA_okS (pre:DA.T aLMM2→List Prop) (h:∀ g,DA.bd aLMM2 g→(∀ p∈pre g,p)→smA_side g.1 g.2):FnPure Tryd.prog 32 aLMM2 dLME (fun g=>smA_F g.1 g.2) pre:=pure_of_sideS (Γ:=(MTab.gamz tabO9 [] [(32,3,3)])) (Λ:=lamO10) (MTab.okz tabO9 [] [(32,3,3)]) lamO10_ok 100 default (fun g=>smA_side g.1 g.2) (fun g=>by kernel_rfl) (fun g=>by kernel_rfl) h
noncomputable def smB_q1 (a:List Many) (b:List Many):Ex×rsa_G:=
 loopF (fun g=>rsa_R g.fst g.snd.fst g.snd.snd) rsa_M (eM.ag a,(0:Int),[])
noncomputable def smB_q2 (a:List Many) (b:List Many):Ex×rsb_G:=
 loopF (fun g=>rsb_R g.fst g.snd.fst g.snd.snd) rsb_M (eM.ag b,(0:Int),eM.ag (smB_q1 a b).snd.snd.snd)
noncomputable def smB_F (a:List Many) (b:List Many):Dv.T dLME:=
 bif bagF (eM.ag a) != (0:Int) then ([],bagF (eM.ag a))
 else bif bagF (eM.ag b) != (0:Int) then ([],bagF (eM.ag b)) else bif overC (eM.ag (smB_q2 a b).snd.snd.snd) != (0:Int) then ([],overC (eM.ag (smB_q2 a b).snd.snd.snd)) else (eM.ag (smB_q2 a b).snd.snd.snd,(0:Int))
def smB_side (a:List Many) (b:List Many):Prop:=
 eM.okL a∧(eM.ag a).length≤KB∧((bagF (eM.ag a) != (0:Int))=false→eM.okL b∧(eM.ag b).length≤KB∧((bagF (eM.ag b) != (0:Int))=false→eM.okL a∧Lp.ixJ (fun c=>(↑(List.length c):Int)) (fun c=>c) rsa_K (rsa_f (eM.ag a,(0:Int),[]))∧eM.okL b∧eM.okL (smB_q1 a b).snd.snd.snd∧Lp.ixJ (fun c=>(↑(List.length c):Int)) (fun c=>c) rsb_K (rsb_f (eM.ag b,(0:Int),eM.ag (smB_q1 a b).snd.snd.snd))∧eM.okL (smB_q2 a b).snd.snd.snd∧(eM.ag (smB_q2 a b).snd.snd.snd).length≤KB∧((overC (eM.ag (smB_q2 a b).snd.snd.snd) != (0:Int))=false→eM.okL (smB_q2 a b).snd.snd.snd)))
theorem smB_okS (pre:DA.T aLMM2→List Prop) (h:∀ g,DA.bd aLMM2 g→(∀ p∈pre g,p)→smB_side g.1 g.2):FnPure Tryd.prog 34 aLMM2 dLME (fun g=>smB_F g.1 g.2) pre:=pure_of_sideS (Γ:=(MTab.gamz tabO9 [] [(32,3,3)])) (Λ:=lamO10) (MTab.okz tabO9 [] [(32,3,3)]) lamO10_ok 100 default (fun g=>smB_side g.1 g.2) (fun g=>by kernel_rfl) (fun g=>by kernel_rfl) h
end Go.Proofs.YtmegbepjdololaaDoor

namespace Go.Proofs.YtmegbepjdololaaDoor
open Go.RowKit Go.Sx Go.Lp
noncomputable abbrev sumM (l:List Many) (k:Rec):Int:=sumK Many.r Many.n l k
noncomputable def totM (l:List Many):List Many:=totK Many.r Many.n Many.mk cmpR l
theorem many_ext (a b:Many) (h1:a.r=b.r) (h2:a.n=b.n):a=b:=by cases a;cases b;simp_all
theorem totM_mem (l:List Many) (y:Many):y∈totM l↔(∃ x∈l,x.r=y.r)∧y.n=sumM l y.r:=totK_mem Many.r Many.n toR (fun _ _=>rfl) (fun _ _=>rfl) many_ext l y
theorem totM_srt (l:List Many):Srt Many.r cmpR (totM l):=totK_srt Many.r Many.n toR (fun _ _=>rfl) (fun _ _=>rfl) l
def Few (l:List Many):Prop:=l.length≤400000∧∀ x∈l,0≤x.n∧x.n≤1048576
noncomputable def mapM (l:List Many):List MEr×Nat:=l.foldl mputM ([],0)
theorem mapM_of (l:List Many):MapOf Many.r Many.n addW 0 l (mapM l):=mapOf_all Many.r Many.n addW 0 dEr l
theorem mapM_len (l:List Many):(mapM l).1.length≤l.length:=by
 have:=map_len Many.r Many.n addW 0 dEr l ([],0)
 have h0:(([],0):List MEr×Nat).1.length=0:=rfl
 rw[h0,Nat.zero_add] at this
 exact this
noncomputable def entM (l:List Many):List (Rec×Int):=(mapM l).1.map d3e
theorem entM_len (l:List Many):(entM l).length≤l.length:=by
 unfold entM
 rw[List.length_map]
 exact mapM_len l
theorem entM_kd (l:List Many):KdE (entM l):=by
 unfold entM KdE
 rw[List.pairwise_map]
 exact (mapM_of l).2.1
theorem acc_sum:∀ (l:List Many) (s:Int) (k:Rec),(∀ x∈l,0≤x.n∧x.n≤1048576)→0≤s→s+1048576 * (l.length:Int)≤9223372036854775807→(l.filter fun x=>decide (x.r=k)).foldl (fun b x=>addW b x.n) s=s+sumM l k
 | [],s,k,_,_,_=>by simp[sumM,sumK]
 | x :: l,s,k,h,h0,hs=>by
  have hx:=h x (List.mem_cons_self ..)
  rw[List.length_cons] at hs
  have hl:=fun s h0 hs=>acc_sum l s k (fun y hy=>h y (List.mem_cons_of_mem _ hy)) h0 hs
  have e:sumM (x :: l) k=(if x.r=k then x.n else 0)+sumM l k:=rfl
  rw[e]
  by_cases hk:x.r=k
  ·rw[List.filter_cons,if_pos (by simpa using hk),List.foldl_cons,if_pos hk]
   have:addW s x.n=s+x.n:=wr64 (by omega)
   rw[this,hl _ (by omega) (by omega)]
   omega
  ·rw[List.filter_cons,if_neg (by simpa using hk),if_neg hk,hl s h0 (by omega)]
   omega
theorem entM_mem {l:List Many} (h:Few l) (e:Rec×Int):e∈entM l↔(∃ x∈l,x.r=e.1)∧e.2=sumM l e.1:=by
 obtain ⟨_,hk,h1,h2⟩:=mapM_of l
 have hacc:∀ k,accK Many.r Many.n addW 0 l k=sumM l k:=fun k=>by
  unfold accK
  rw[acc_sum l 0 k h.2 (Int.le_refl _) (by have:=h.1;omega)]
  omega
 unfold entM
 rw[List.mem_map]
 constructor
 ·rintro ⟨x,hx,rfl⟩
  refine ⟨(h1 _).1 ⟨x,hx,rfl⟩,?_⟩
  show x.2.1=_
  rw[h2 x hx,hacc]
  rfl
 ·rintro ⟨hx,he⟩
  obtain ⟨x,hxm,hxk⟩:=(h1 _).2 hx
  refine ⟨x,hxm,?_⟩
  show (x.1,x.2.1)=e
  rw[h2 x hxm,hacc,hxk,← he]
noncomputable def bagT (l:List Many):List Many×Int:=bif (totM l).any (fun v=>decide (v.n > 1048576)) then ([],51) else (totM l,0)
theorem bagE_eq {l:List Many} (h:Few l):bagE (entM l)=bagT l:=by
 have hm:∀ y:Many,y∈(entM l).map mkM↔y∈totM l:=fun y=>by
  rw[List.mem_map,totM_mem]
  constructor
  ·rintro ⟨e,he,rfl⟩
   exact (entM_mem h e).1 he
  ·rintro h2
   exact ⟨(y.r,y.n),(entM_mem h (y.r,y.n)).2 h2,rfl⟩
 have hany:(entM l).any bgP=(totM l).any (fun v=>decide (v.n > 1048576)):=by
  rw[Bool.eq_iff_iff,List.any_eq_true,List.any_eq_true]
  constructor
  ·rintro ⟨e,he,hp⟩
   exact ⟨mkM e,(hm _).1 (List.mem_map.2 ⟨e,he,rfl⟩),hp⟩
  ·rintro ⟨y,hy,hp⟩
   obtain ⟨e,he,rfl⟩:=List.mem_map.1 ((hm y).2 hy)
   exact ⟨e,he,hp⟩
 have hkd:=kd_mk (entM_kd l)
 have hs:srtBy cmpM ((entM l).map mkM)=totM l:=by
  have h1:=srtBy_sorted cmpM swoM ((entM l).map mkM)
  have h2:(srtBy cmpM ((entM l).map mkM)).Pairwise fun a b=>a.r≠b.r:=(List.Perm.pairwise_iff (fun h=>Ne.symm h) (srtBy_perm cmpM _)).2 hkd
  refine srt_unique Many.r Many.n cmpR toR many_ext ?_ (totM_srt l) fun x=>?_
  ·exact (h1.and h2).imp fun {a b} h=>toR.lt_or (Ne.symm h.2) h.1
  ·rw[(srtBy_perm cmpM _).mem_iff,hm]
 unfold bagE bagT
 rw[hany,hs]
theorem cmpR_self (a:Rec):cmpR a a=0:=cmpR_same (rlt_irrefl a) rfl
theorem cmpR_zero {a b:Rec} (h:cmpR a b=0):a=b:=by
 unfold cmpR at h
 split at h
 ·cases h
 ·split at h
  ·assumption
  ·cases h
theorem put_done (r:Rec) (n:Int):∀ (l o:List Many),(∀ v∈l,cmpR r v.r<0)→l.foldl (puStep r n) (true,o)=(true,o++l)
 | [],o,_=>by simp
 | v :: l,o,h=>by
  have hv:=h v (List.mem_cons_self ..)
  have e:puStep r n (true,o) v=(true,o++[v]):=by
   unfold puStep
   have:(cmpR r v.r==0)=false:=by rw[beq_eq_false_iff_ne];omega
   rw[this]
   rfl
  rw[List.foldl_cons,e,put_done r n l _ (fun x hx=>h x (List.mem_cons_of_mem _ hx)),List.append_assoc]
  rfl
theorem put_go (x:Many) (h0:0≤x.n∧x.n≤1048576):∀ (l o:List Many),Srt Many.r cmpR l→(∀ y∈l,0≤y.n∧y.n≤4611686018427387904) →
  (bif !(l.foldl (puStep x.r x.n) (false,o)).1 then (l.foldl (puStep x.r x.n) (false,o)).2++[⟨x.r,x.n⟩] else (l.foldl (puStep x.r x.n) (false,o)).2)=o++putK Many.r Many.n Many.mk cmpR x l
 | [],o,_,_=>rfl
 | v :: l,o,hs,hb=>by
  have hs':=List.pairwise_cons.1 hs
  have hv:=hb v (List.mem_cons_self ..)
  unfold putK
  by_cases h1:cmpR x.r v.r<0
  ·have e:puStep x.r x.n (false,o) v=(true,o++[x]++[v]):=by
    unfold puStep
    have:(cmpR x.r v.r==0)=false:=by rw[beq_eq_false_iff_ne];omega
    rw[this,decide_eq_true h1]
    rfl
   rw[if_pos h1,List.foldl_cons,e,put_done x.r x.n l _ (fun y hy=>toR.trans h1 (hs'.1 y hy))]
   simp
  ·rw[if_neg h1]
   by_cases h2:x.r=v.r
   ·have hc:cmpR x.r v.r=0:=by rw[h2];exact cmpR_self _
    have e:puStep x.r x.n (false,o) v=(true,o++[⟨x.r,v.n+x.n⟩]):=by
     unfold puStep
     rw[hc,wr64 (x:=v.n+x.n) (by omega)]
     rfl
    rw[if_pos h2,List.foldl_cons,e,put_done x.r x.n l _ (fun y hy=>by rw[h2];exact hs'.1 y hy)]
    simp
   ·have hc:cmpR x.r v.r≠0:=fun h=>h2 (cmpR_zero h)
    have e:puStep x.r x.n (false,o) v=(false,o++[v]):=by
     unfold puStep
     have:(cmpR x.r v.r==0)=false:=by rw[beq_eq_false_iff_ne];exact hc
     rw[this,decide_eq_false h1]
     rfl
    rw[if_neg h2,List.foldl_cons,e,put_go x h0 l _ hs'.2 (fun y hy=>hb y (List.mem_cons_of_mem _ hy)),List.append_assoc]
    rfl
theorem putM_K {o:List Many} {x:Many} (h0:0≤x.n∧x.n≤1048576) (hs:Srt Many.r cmpR o) (hb:∀ y∈o,0≤y.n∧y.n≤4611686018427387904):putM o x=putK Many.r Many.n Many.mk cmpR x o:=put_go x h0 o [] hs hb
theorem putK_bound {x:Many} {B:Int} (h0:0≤x.n∧x.n≤1048576):∀ {o:List Many},0≤B→(∀ y∈o,0≤y.n∧y.n≤B)→∀ y∈putK Many.r Many.n Many.mk cmpR x o,0≤y.n∧y.n≤B+1048576
 | [],hB,_,y,hy=>by
  rw[List.mem_singleton.1 hy]
  omega
 | v :: o,hB,h,y,hy=>by
  have hv:=h v (List.mem_cons_self ..)
  unfold putK at hy
  split at hy
  ·rcases List.mem_cons.1 hy with rfl | hy
   ·omega
   ·have:=h y hy;omega
  ·split at hy
   ·rcases List.mem_cons.1 hy with rfl | hy
    ·show 0≤v.n+x.n∧v.n+x.n≤_;omega
    ·have:=h y (List.mem_cons_of_mem _ hy);omega
   ·rcases List.mem_cons.1 hy with rfl | hy
    ·omega
    ·exact putK_bound h0 hB (fun z hz=>h z (List.mem_cons_of_mem _ hz)) y hy
theorem putM_tot:∀ (l o:List Many) (B:Int),Srt Many.r cmpR o→0≤B→(∀ y∈o,0≤y.n∧y.n≤B)→(∀ x∈l,0≤x.n∧x.n≤1048576)→B+1048576 * (l.length:Int)≤4611686018427387904→l.foldl putM o=l.foldl (fun a x=>putK Many.r Many.n Many.mk cmpR x a) o
 | [],_,_,_,_,_,_,_=>rfl
 | x :: l,o,B,hs,hB,hb,hl,hle=>by
  rw[List.length_cons] at hle
  have hx:=hl x (List.mem_cons_self ..)
  rw[List.foldl_cons,List.foldl_cons,putM_K hx hs (fun y hy=>by have:=hb y hy;omega)]
  exact putM_tot l _ (B+1048576) (putK_srt Many.r Many.n toR (fun _ _=>rfl) x hs) (by omega) (putK_bound hx hB hb) (fun y hy=>hl y (List.mem_cons_of_mem _ hy)) (by omega)
theorem putM_all {l:List Many} (h:Few l):l.foldl putM []=totM l:=putM_tot l [] 0 List.Pairwise.nil (Int.le_refl _) (fun _ hy=>by cases hy) h.2 (by have:=h.1;omega)
def oneM (r:Rec):Many:=⟨r,1⟩
theorem few_one {l:List Rec} (h:l.length≤400000):Few (l.map oneM):=⟨by rw[List.length_map];exact h,fun x hx=>by
 obtain ⟨r,_,rfl⟩:=List.mem_map.1 hx
 exact ⟨by show (0:Int)≤1;decide,by show (1:Int)≤1048576;decide⟩⟩
theorem fold_oneR (l:List Rec) (m:List MEr×Nat):l.foldl mputR m=(l.map oneM).foldl mputM m:=by
 rw[List.foldl_map]
 rfl
noncomputable def bagC (l:List Rec):List Many×Int:=bif l.any (fun v=>chkR v != 0) then ([],50) else bagT (l.map oneM)
noncomputable def sumC (a b:List Many):List Many×Int:=bif bagF a != 0 then ([],bagF a) else bif bagF b != 0 then ([],bagF b) else bagT (a++b)
theorem bag_pos {xs:List Many} (h:bagF xs=0):∀ v∈xs,1≤v.n∧v.n≤1048576:=by
 intro v hv
 obtain ⟨n,hn⟩:=List.getElem?_of_mem hv
 unfold bagF at h
 cases h1:xs.any (fun v=>chkR v.r != (0:Int)) with
 | true=>rw[h1] at h;cases h
 | false=>
  rw[h1] at h
  cases h2:(List.range xs.length).any (fun j=>bagBad xs (j:Int) (xs.getD j eM.dflt)) with
  | true=>rw[h2] at h;cases h
  | false=>
   have hb:bagBad xs (n:Int) v=false:=by
    cases hb:bagBad xs (n:Int) v with
    | false=>rfl
    | true=>rw[bag_hit hn hb] at h2;cases h2
   unfold bagBad at hb
   simp only[Bool.or_eq_false_iff,decide_eq_false_iff_not] at hb
   omega
theorem few_two {a b:List Many} (ha:a.length≤200000) (hb:b.length≤200000) (h1:bagF a=0) (h2:bagF b=0):Few (a++b):=⟨by rw[List.length_append];omega,fun x hx=>by
 rcases List.mem_append.1 hx with hx | hx
 ·have:=bag_pos h1 x hx;omega
 ·have:=bag_pos h2 x hx;omega⟩
theorem overC_tot (l:List Many):(bif overC (totM l) != 0 then (([],overC (totM l)):List Many×Int) else (totM l,0))=bagT l:=by
 unfold overC bagT
 cases (totM l).any (fun v=>decide (v.n > 1048576)) <;> rfl
end Go.Proofs.YtmegbepjdololaaDoor

namespace Go.Proofs.YtmegbepjdololaaDoor
open Go.RowKit Go.Sx Go.Lp
set_option maxRecDepth 100000
theorem chk50 {r:Rec} (h:(chkR r != (0:Int))=true):chkR r=50:=by
 rcases chkR_two r with h1 | h1
 ·rw[h1] at h;cases h
 ·exact h1
theorem bgA_eq (l:List Rec) (h:l.length≤400000):bgA_side l∧bgA_F l=bagC l:=by
 have hm:l.length≤maxLen:=Nat.le_trans h (by decide)
 have hr:=ba_run l 0 hm
 have hq:bgA_q1 l=loopF ba_RR ba_M (ba_g (0,(l,(l.length:Int)),(([],0),0))):=by
  unfold bgA_q1
  rw[El.ag_eq]
  rfl
 rw[hr] at hq
 have hJ:Lp.ixJ (fun c=>c.snd) (fun c=>c.fst) ba_K (ba_f (l,(↑l.length:Int),(0:Int),(),(List.map (fun x=>(Rec.mk (0:Int) (ByteArray.mk #[]),(0:Int),(0:Int))) (List.range (0:Nat)),(0:Nat)),(),(0:Int))):=ixJ0 rfl hm trivial
 unfold bgA_side bgA_F bagC
 simp only[El.okL_eq,El.ag_eq]
 rw[hq]
 rcases scan_bad (x:=0) (st:=ba_S (l,(l.length:Int))) (e:=.ret) (p:=fun v:Rec=>chkR v != 0) (r:=fun v b=>(b.1,chkR v)) (f:=fun b v=>(mputR b.1 v,b.2)) (by simp) (fun _ _ _=>rfl) l 0 (([],0),(0:Int)) with ⟨ha,h2,a,b',_,hp,h3⟩ | ⟨ha,h2⟩
 ·rw[ha,h2]
  have h3:(scan 0 (ba_S (l,(l.length:Int))) 0 l (([],0),0)).2.2=(b'.1,chkR a):=h3
  refine ⟨⟨trivial,fun _ _=>trivial,hJ,fun h=>(by cases h)⟩,?_⟩
  show ([],(scan 0 (ba_S (l,(l.length:Int))) 0 l (([],0),0)).2.2.2)=_
  rw[h3,chk50 hp];rfl
 ·have hf:∀ (l:List Rec) (b:ba_GB),l.foldl (fun b v=>(mputR b.1 v,b.2)) b=(l.foldl mputR b.1,b.2):=by
   intro l
   induction l with
   | nil=>intro b;rfl
   | cons a l ih=>intro b;rw[List.foldl_cons,List.foldl_cons,ih]
  rw[hf] at h2
  have h2:scan 0 (ba_S (l,(l.length:Int))) 0 l (([],0),0)=(.exit 0,0+(l.length:Int),(l.foldl mputR ([],0),0)):=h2
  rw[ha,h2,fold_oneR]
  have hl:=entM_len (l.map oneM)
  rw[List.length_map] at hl
  refine ⟨⟨trivial,fun _ _=>trivial,hJ,fun _=>⟨fun _ _=>trivial,?_,entM_kd (l.map oneM),trivial⟩⟩,?_⟩
  ·show (entM (l.map oneM)).length≤1000000
   omega
  ·show ((bagE (entM (l.map oneM))).1,(bagE (entM (l.map oneM))).2)=_
   rw[bagE_eq (few_one h)]
   rfl
theorem bgA_ok:FnPure Tryd.prog 24 aLR1 dLME bagC (fun l=>[l.length≤400000]):=
 pure_congr (bgA_okS _ fun g _ hp=>(bgA_eq g (hp _ (List.mem_cons_self ..))).1) fun g _ hp=>(bgA_eq g (hp _ (List.mem_cons_self ..))).2
theorem smA_eq (a b:List Many) (ha:a.length≤200000) (hb:b.length≤200000):smA_side a b∧smA_F a b=sumC a b:=by
 have hma:a.length≤maxLen:=Nat.le_trans ha (by decide)
 have hmb:b.length≤maxLen:=Nat.le_trans hb (by decide)
 have hka:a.length≤KB:=Nat.le_trans ha (by decide)
 have hkb:b.length≤KB:=Nat.le_trans hb (by decide)
 have hq1:smA_q1 a b=loopF su_RR su_M (su_g (0,(a,(a.length:Int)),([],0))):=by
  unfold smA_q1
  rw[El.ag_eq]
  rfl
 rw[su_run a ([],0) hma] at hq1
 have h1:(smA_q1 a b).2.2.2.2.2=mapM a:=by rw[hq1];rfl
 have hq2:smA_q2 a b=loopF su_RR su_M (su_g (0,(b,(b.length:Int)),(smA_q1 a b).2.2.2.2.2)):=by
  unfold smA_q2
  rw[El.ag_eq,El.ag_eq]
  rfl
 rw[su_run b _ hmb] at hq2
 have h2:(smA_q2 a b).2.2.2.2.2=mapM (a++b):=by
  rw[hq2,h1]
  show b.foldl mputM (mapM a)=_
  unfold mapM
  rw[List.foldl_append]
 unfold smA_side smA_F sumC
 simp only[El.okL_eq,El.ag_eq]
 rw[h1,h2]
 have hJ:Lp.ixJ (fun c=>c.snd) (fun c=>c.fst) su_K (su_f (a,(↑a.length:Int),(0:Int),(),List.map (fun x=>(Rec.mk (0:Int) (ByteArray.mk #[]),(0:Int),(0:Int))) (List.range (0:Nat)),(0:Nat))):=ixJ0 rfl hma trivial
 have hJ2:Lp.ixJ (fun c=>c.snd) (fun c=>c.fst) su_K (su_f (b,(↑b.length:Int),(0:Int),(),(mapM a).1,(mapM a).2)):=ixJ0 rfl hmb trivial
 cases za:bagF a != 0 with
 | true=>exact ⟨⟨trivial,hka,fun h=>(by cases h)⟩,rfl⟩
 | false=>
  cases zb:bagF b != 0 with
  | true=>exact ⟨⟨trivial,hka,fun _=>⟨trivial,fun _ _=>trivial,hJ,trivial,hkb,fun h=>(by cases h)⟩⟩,rfl⟩
  | false=>
   have hf:=few_two ha hb (by simpa using za) (by simpa using zb)
   have hl:=entM_len (a++b)
   rw[List.length_append] at hl
   refine ⟨⟨trivial,hka,fun _=>⟨trivial,fun _ _=>trivial,hJ,trivial,hkb,fun _=>⟨trivial,fun _ _=>trivial,hJ2,fun _ _=>trivial,?_,entM_kd (a++b),trivial⟩⟩⟩,?_⟩
   ·show (entM (a++b)).length≤1000000
    omega
   ·show ((bagE (entM (a++b))).1,(bagE (entM (a++b))).2)=_
    rw[bagE_eq hf]
    rfl
theorem smA_ok:FnPure Tryd.prog 32 aLMM2 dLME (fun g=>sumC g.1 g.2) (fun g=>[g.1.length≤200000,g.2.length≤200000]):=
 pure_congr (smA_okS _ fun g _ hp=>(smA_eq g.1 g.2 (hp _ (List.mem_cons_self ..)) (hp _ (List.mem_cons_of_mem _ (List.mem_cons_self ..)))).1) fun g _ hp=>(smA_eq g.1 g.2 (hp _ (List.mem_cons_self ..)) (hp _ (List.mem_cons_of_mem _ (List.mem_cons_self ..)))).2
theorem putM_len:∀ (l o:List Many),(l.foldl putM o).length≤o.length+l.length
 | [],o=>Nat.le_refl _
 | a :: l,o=>by
  have h1:=putM_len l (putM o a)
  have h2:(putM o a).length≤o.length+1:=putL_len a.r a.n o
  rw[List.foldl_cons,List.length_cons]
  omega
theorem smB_eq (a b:List Many) (ha:a.length≤200000) (hb:b.length≤200000):smB_side a b∧smB_F a b=sumC a b:=by
 have hma:a.length≤maxLen:=Nat.le_trans ha (by decide)
 have hmb:b.length≤maxLen:=Nat.le_trans hb (by decide)
 have hka:a.length≤KB:=Nat.le_trans ha (by decide)
 have hkb:b.length≤KB:=Nat.le_trans hb (by decide)
 have hl1:=putM_len a []
 have e0:([]:List Many).length=0:=rfl
 rw[e0,Nat.zero_add] at hl1
 have hq1:smB_q1 a b=loopF rsa_RR rsa_M (rsa_g (0,a,[])):=by
  unfold smB_q1
  rw[El.ag_eq]
  rfl
 rw[rsa_run a [] (by omega) (by show 0≤400000;omega)] at hq1
 have h1:(smB_q1 a b).2.2.2=a.foldl putM []:=by rw[hq1];rfl
 have hq2:smB_q2 a b=loopF rsb_RR rsb_M (rsb_g (0,b,a.foldl putM [])):=by
  unfold smB_q2
  rw[El.ag_eq,El.ag_eq,h1]
  rfl
 rw[rsb_run b (a.foldl putM []) (by omega) (by omega)] at hq2
 have h2:(smB_q2 a b).2.2.2=(a++b).foldl putM []:=by
  rw[hq2]
  show b.foldl putM (a.foldl putM [])=_
  rw[List.foldl_append]
 have hl2:=putM_len (a++b) []
 rw[e0,Nat.zero_add,List.length_append] at hl2
 unfold smB_side smB_F sumC
 simp only[El.okL_eq,El.ag_eq]
 rw[h1,h2]
 have hJ:Lp.ixJ (fun c=>(↑(List.length c):Int)) (fun c=>c) rsa_K (rsa_f (a,(0:Int),[])):=ixJ0 rfl hma ⟨by show a.length≤400000;omega,by show (0:Int)≤400000+0;decide⟩
 have hJ2:Lp.ixJ (fun c=>(↑(List.length c):Int)) (fun c=>c) rsb_K (rsb_f (b,(0:Int),a.foldl putM [])):=ixJ0 rfl hmb ⟨by show b.length≤400000;omega,by show ((a.foldl putM []).length:Int)≤400000+0;omega⟩
 cases za:bagF a != 0 with
 | true=>exact ⟨⟨trivial,hka,fun h=>(by cases h)⟩,rfl⟩
 | false=>
  cases zb:bagF b != 0 with
  | true=>exact ⟨⟨trivial,hka,fun _=>⟨trivial,hkb,fun h=>(by cases h)⟩⟩,rfl⟩
  | false=>
   have hf:=few_two ha hb (by simpa using za) (by simpa using zb)
   refine ⟨⟨trivial,hka,fun _=>⟨trivial,hkb,fun _=>⟨trivial,hJ,trivial,trivial,hJ2,trivial,?_,fun _=>trivial⟩⟩⟩,?_⟩
   ·unfold KB;omega
   ·rw[putM_all hf]
    exact overC_tot _
theorem smB_ok:FnPure Tryd.prog 34 aLMM2 dLME (fun g=>sumC g.1 g.2) (fun g=>[g.1.length≤200000,g.2.length≤200000]):=
 pure_congr (smB_okS _ fun g _ hp=>(smB_eq g.1 g.2 (hp _ (List.mem_cons_self ..)) (hp _ (List.mem_cons_of_mem _ (List.mem_cons_self ..)))).1) fun g _ hp=>(smB_eq g.1 g.2 (hp _ (List.mem_cons_self ..)) (hp _ (List.mem_cons_of_mem _ (List.mem_cons_self ..)))).2
end Go.Proofs.YtmegbepjdololaaDoor

namespace Go.Proofs.YtmegbepjdololaaDoor
open Go.RowKit Go.Sx
set_option maxRecDepth 100000
set_option linter.unusedVariables false
abbrev e8u:El Int:=eInt .u8
abbrev dU64:Dv Int:=dInt .u64
abbrev A21:Type:=Int×Int×Int×Int×Int×Int×Int×Int×Int×Int×Int×Int×Int×Int×Int×Int×Int×Int×Int×Int×Int
def e21:El A21:=.pair e8u (.pair e8u (.pair e8u (.pair e8u (.pair e8u (.pair e8u (.pair e8u (.pair e8u (.pair e8u (.pair e8u (.pair e8u (.pair e8u (.pair e8u (.pair e8u (.pair e8u (.pair e8u (.pair e8u (.pair e8u (.pair e8u (.pair e8u e8u)))))))))))))))))))
abbrev nm_G:Type:=Unit×A21×Int×Int
noncomputable def nm_LP:LP 1 nm_G:=.pair (.fix 1 4 (.p 0 0)) (.pair (.obj 1 0 140 e21) (.pair (.slot 1 5 dI) (.slot 1 3 dU64)))
noncomputable def nm_R (_u:Unit) (b:A21) (i:Int) (u:Int):Ex×nm_G:=
 bif IntKind.u64.wrap (u.tdiv (10:Int))==(0:Int) then (Ex.exit (0:Nat),(),(bif decide ((IntKind.i64.wrap (i - (1:Int))).toNat=(0:Nat)) then IntKind.u8.wrap (IntKind.u64.wrap ((48:Int)+u.tmod (10:Int))) else b.fst,bif decide ((IntKind.i64.wrap (i - (1:Int))).toNat=(1:Nat)) then IntKind.u8.wrap (IntKind.u64.wrap ((48:Int)+u.tmod (10:Int))) else b.snd.fst,bif decide ((IntKind.i64.wrap (i - (1:Int))).toNat=(2:Nat)) then IntKind.u8.wrap (IntKind.u64.wrap ((48:Int)+u.tmod (10:Int))) else b.snd.snd.fst,bif decide ((IntKind.i64.wrap (i - (1:Int))).toNat=(3:Nat)) then IntKind.u8.wrap (IntKind.u64.wrap ((48:Int)+u.tmod (10:Int))) else b.snd.snd.snd.fst,bif decide ((IntKind.i64.wrap (i - (1:Int))).toNat=(4:Nat)) then IntKind.u8.wrap (IntKind.u64.wrap ((48:Int)+u.tmod (10:Int))) else b.snd.snd.snd.snd.fst,bif decide ((IntKind.i64.wrap (i - (1:Int))).toNat=(5:Nat)) then IntKind.u8.wrap (IntKind.u64.wrap ((48:Int)+u.tmod (10:Int))) else b.snd.snd.snd.snd.snd.fst,bif decide ((IntKind.i64.wrap (i - (1:Int))).toNat=(6:Nat)) then IntKind.u8.wrap (IntKind.u64.wrap ((48:Int)+u.tmod (10:Int))) else b.snd.snd.snd.snd.snd.snd.fst,bif decide ((IntKind.i64.wrap (i - (1:Int))).toNat=(7:Nat)) then IntKind.u8.wrap (IntKind.u64.wrap ((48:Int)+u.tmod (10:Int))) else b.snd.snd.snd.snd.snd.snd.snd.fst,bif decide ((IntKind.i64.wrap (i - (1:Int))).toNat=(8:Nat)) then IntKind.u8.wrap (IntKind.u64.wrap ((48:Int)+u.tmod (10:Int))) else b.snd.snd.snd.snd.snd.snd.snd.snd.fst,bif decide ((IntKind.i64.wrap (i - (1:Int))).toNat=(9:Nat)) then IntKind.u8.wrap (IntKind.u64.wrap ((48:Int)+u.tmod (10:Int))) else b.snd.snd.snd.snd.snd.snd.snd.snd.snd.fst,bif decide ((IntKind.i64.wrap (i - (1:Int))).toNat=(10:Nat)) then IntKind.u8.wrap (IntKind.u64.wrap ((48:Int)+u.tmod (10:Int))) else b.snd.snd.snd.snd.snd.snd.snd.snd.snd.snd.fst,bif decide ((IntKind.i64.wrap (i - (1:Int))).toNat=(11:Nat)) then IntKind.u8.wrap (IntKind.u64.wrap ((48:Int)+u.tmod (10:Int))) else b.snd.snd.snd.snd.snd.snd.snd.snd.snd.snd.snd.fst,bif decide ((IntKind.i64.wrap (i - (1:Int))).toNat=(12:Nat)) then IntKind.u8.wrap (IntKind.u64.wrap ((48:Int)+u.tmod (10:Int))) else b.snd.snd.snd.snd.snd.snd.snd.snd.snd.snd.snd.snd.fst,bif decide ((IntKind.i64.wrap (i - (1:Int))).toNat=(13:Nat)) then IntKind.u8.wrap (IntKind.u64.wrap ((48:Int)+u.tmod (10:Int))) else b.snd.snd.snd.snd.snd.snd.snd.snd.snd.snd.snd.snd.snd.fst,bif decide ((IntKind.i64.wrap (i - (1:Int))).toNat=(14:Nat)) then IntKind.u8.wrap (IntKind.u64.wrap ((48:Int)+u.tmod (10:Int))) else b.snd.snd.snd.snd.snd.snd.snd.snd.snd.snd.snd.snd.snd.snd.fst,bif decide ((IntKind.i64.wrap (i - (1:Int))).toNat=(15:Nat)) then IntKind.u8.wrap (IntKind.u64.wrap ((48:Int)+u.tmod (10:Int))) else b.snd.snd.snd.snd.snd.snd.snd.snd.snd.snd.snd.snd.snd.snd.snd.fst,bif decide ((IntKind.i64.wrap (i - (1:Int))).toNat=(16:Nat)) then IntKind.u8.wrap (IntKind.u64.wrap ((48:Int)+u.tmod (10:Int))) else b.snd.snd.snd.snd.snd.snd.snd.snd.snd.snd.snd.snd.snd.snd.snd.snd.fst,bif decide ((IntKind.i64.wrap (i - (1:Int))).toNat=(17:Nat)) then IntKind.u8.wrap (IntKind.u64.wrap ((48:Int)+u.tmod (10:Int))) else b.snd.snd.snd.snd.snd.snd.snd.snd.snd.snd.snd.snd.snd.snd.snd.snd.snd.fst,bif decide ((IntKind.i64.wrap (i - (1:Int))).toNat=(18:Nat)) then IntKind.u8.wrap (IntKind.u64.wrap ((48:Int)+u.tmod (10:Int))) else b.snd.snd.snd.snd.snd.snd.snd.snd.snd.snd.snd.snd.snd.snd.snd.snd.snd.snd.fst,bif decide ((IntKind.i64.wrap (i - (1:Int))).toNat=(19:Nat)) then IntKind.u8.wrap (IntKind.u64.wrap ((48:Int)+u.tmod (10:Int))) else b.snd.snd.snd.snd.snd.snd.snd.snd.snd.snd.snd.snd.snd.snd.snd.snd.snd.snd.snd.fst,bif decide ((IntKind.i64.wrap (i - (1:Int))).toNat=(20:Nat)) then IntKind.u8.wrap (IntKind.u64.wrap ((48:Int)+u.tmod (10:Int))) else b.snd.snd.snd.snd.snd.snd.snd.snd.snd.snd.snd.snd.snd.snd.snd.snd.snd.snd.snd.snd),IntKind.i64.wrap (i - (1:Int)),IntKind.u64.wrap (u.tdiv (10:Int)))
 else (Ex.normal,(),(bif decide ((IntKind.i64.wrap (i - (1:Int))).toNat=(0:Nat)) then IntKind.u8.wrap (IntKind.u64.wrap ((48:Int)+u.tmod (10:Int))) else b.fst,bif decide ((IntKind.i64.wrap (i - (1:Int))).toNat=(1:Nat)) then IntKind.u8.wrap (IntKind.u64.wrap ((48:Int)+u.tmod (10:Int))) else b.snd.fst,bif decide ((IntKind.i64.wrap (i - (1:Int))).toNat=(2:Nat)) then IntKind.u8.wrap (IntKind.u64.wrap ((48:Int)+u.tmod (10:Int))) else b.snd.snd.fst,bif decide ((IntKind.i64.wrap (i - (1:Int))).toNat=(3:Nat)) then IntKind.u8.wrap (IntKind.u64.wrap ((48:Int)+u.tmod (10:Int))) else b.snd.snd.snd.fst,bif decide ((IntKind.i64.wrap (i - (1:Int))).toNat=(4:Nat)) then IntKind.u8.wrap (IntKind.u64.wrap ((48:Int)+u.tmod (10:Int))) else b.snd.snd.snd.snd.fst,bif decide ((IntKind.i64.wrap (i - (1:Int))).toNat=(5:Nat)) then IntKind.u8.wrap (IntKind.u64.wrap ((48:Int)+u.tmod (10:Int))) else b.snd.snd.snd.snd.snd.fst,bif decide ((IntKind.i64.wrap (i - (1:Int))).toNat=(6:Nat)) then IntKind.u8.wrap (IntKind.u64.wrap ((48:Int)+u.tmod (10:Int))) else b.snd.snd.snd.snd.snd.snd.fst,bif decide ((IntKind.i64.wrap (i - (1:Int))).toNat=(7:Nat)) then IntKind.u8.wrap (IntKind.u64.wrap ((48:Int)+u.tmod (10:Int))) else b.snd.snd.snd.snd.snd.snd.snd.fst,bif decide ((IntKind.i64.wrap (i - (1:Int))).toNat=(8:Nat)) then IntKind.u8.wrap (IntKind.u64.wrap ((48:Int)+u.tmod (10:Int))) else b.snd.snd.snd.snd.snd.snd.snd.snd.fst,bif decide ((IntKind.i64.wrap (i - (1:Int))).toNat=(9:Nat)) then IntKind.u8.wrap (IntKind.u64.wrap ((48:Int)+u.tmod (10:Int))) else b.snd.snd.snd.snd.snd.snd.snd.snd.snd.fst,bif decide ((IntKind.i64.wrap (i - (1:Int))).toNat=(10:Nat)) then IntKind.u8.wrap (IntKind.u64.wrap ((48:Int)+u.tmod (10:Int))) else b.snd.snd.snd.snd.snd.snd.snd.snd.snd.snd.fst,bif decide ((IntKind.i64.wrap (i - (1:Int))).toNat=(11:Nat)) then IntKind.u8.wrap (IntKind.u64.wrap ((48:Int)+u.tmod (10:Int))) else b.snd.snd.snd.snd.snd.snd.snd.snd.snd.snd.snd.fst,bif decide ((IntKind.i64.wrap (i - (1:Int))).toNat=(12:Nat)) then IntKind.u8.wrap (IntKind.u64.wrap ((48:Int)+u.tmod (10:Int))) else b.snd.snd.snd.snd.snd.snd.snd.snd.snd.snd.snd.snd.fst,bif decide ((IntKind.i64.wrap (i - (1:Int))).toNat=(13:Nat)) then IntKind.u8.wrap (IntKind.u64.wrap ((48:Int)+u.tmod (10:Int))) else b.snd.snd.snd.snd.snd.snd.snd.snd.snd.snd.snd.snd.snd.fst,bif decide ((IntKind.i64.wrap (i - (1:Int))).toNat=(14:Nat)) then IntKind.u8.wrap (IntKind.u64.wrap ((48:Int)+u.tmod (10:Int))) else b.snd.snd.snd.snd.snd.snd.snd.snd.snd.snd.snd.snd.snd.snd.fst,bif decide ((IntKind.i64.wrap (i - (1:Int))).toNat=(15:Nat)) then IntKind.u8.wrap (IntKind.u64.wrap ((48:Int)+u.tmod (10:Int))) else b.snd.snd.snd.snd.snd.snd.snd.snd.snd.snd.snd.snd.snd.snd.snd.fst,bif decide ((IntKind.i64.wrap (i - (1:Int))).toNat=(16:Nat)) then IntKind.u8.wrap (IntKind.u64.wrap ((48:Int)+u.tmod (10:Int))) else b.snd.snd.snd.snd.snd.snd.snd.snd.snd.snd.snd.snd.snd.snd.snd.snd.fst,bif decide ((IntKind.i64.wrap (i - (1:Int))).toNat=(17:Nat)) then IntKind.u8.wrap (IntKind.u64.wrap ((48:Int)+u.tmod (10:Int))) else b.snd.snd.snd.snd.snd.snd.snd.snd.snd.snd.snd.snd.snd.snd.snd.snd.snd.fst,bif decide ((IntKind.i64.wrap (i - (1:Int))).toNat=(18:Nat)) then IntKind.u8.wrap (IntKind.u64.wrap ((48:Int)+u.tmod (10:Int))) else b.snd.snd.snd.snd.snd.snd.snd.snd.snd.snd.snd.snd.snd.snd.snd.snd.snd.snd.fst,bif decide ((IntKind.i64.wrap (i - (1:Int))).toNat=(19:Nat)) then IntKind.u8.wrap (IntKind.u64.wrap ((48:Int)+u.tmod (10:Int))) else b.snd.snd.snd.snd.snd.snd.snd.snd.snd.snd.snd.snd.snd.snd.snd.snd.snd.snd.snd.fst,bif decide ((IntKind.i64.wrap (i - (1:Int))).toNat=(20:Nat)) then IntKind.u8.wrap (IntKind.u64.wrap ((48:Int)+u.tmod (10:Int))) else b.snd.snd.snd.snd.snd.snd.snd.snd.snd.snd.snd.snd.snd.snd.snd.snd.snd.snd.snd.snd),IntKind.i64.wrap (i - (1:Int)),IntKind.u64.wrap (u.tdiv (10:Int)))
def nm_side (_u:Unit) (b:A21) (i:Int) (u:Int):Prop:=
 (10:Int)≠(0:Int)∧((0:Int)≤IntKind.i64.wrap (i - (1:Int))∧IntKind.i64.wrap (i - (1:Int))<(21:Int))∧(IntKind.i64.wrap (i - (1:Int))).toNat<(21:Nat)∧(10:Int)≠(0:Int)
theorem nm_one:((loopsOf Tryd.prog 86).filter fun c=>Nat.beq (lkey c) 6).length=1:=by kernel_rfl
theorem nm_es (g:nm_G):(nm_R g.1 g.2.1 g.2.2.1 g.2.2.2).1=.normal∨(nm_R g.1 g.2.1 g.2.2.1 g.2.2.2).1∈([.exit 0]:List Ex):=by
 unfold nm_R
 repeat' (first | (left;rfl) | (right;simp only[cond_true,cond_false];simp;done) | (rw[Bool.cond_eq_ite];split))
noncomputable abbrev nm_C (Inv:nm_G→List Prop) (m:nm_G→Nat):LCon:=loopR [.exit 0] (loopBody Tryd.prog 86 6) nm_LP [] 33 Inv (fun g=>nm_R g.1 g.2.1 g.2.2.1 g.2.2.2) m
theorem nm_loop (Inv:nm_G→List Prop) (m:nm_G→Nat) (hs:∀ g,allP (Inv g)→nm_side g.1 g.2.1 g.2.2.1 g.2.2.2) (hg:Goes (fun g:nm_G=>nm_R g.1 g.2.1 g.2.2.1 g.2.2.2) m fun g=>allP (Inv g)):∀ b∈loopsOf Tryd.prog 86,lkey b=6→LoopOk Tryd.prog b (nm_C Inv m).g:=loop_run (Γ:=(PTab.gamz tabA3 [] [])) (Λ:=noΛ) (PTab.okz tabA3 [] []) noΛ_ok 100 86 6 33 nm_LP [] Inv (fun g=>nm_R g.1 g.2.1 g.2.2.1 g.2.2.2) (fun g=>nm_side g.1 g.2.1 g.2.2.1 g.2.2.2) m default [.exit 0] nm_one (fun rd T B HL HB ds g=>by kernel_rfl) (fun rd T B HL HB ds g=>by kernel_rfl) hs hg nm_es
abbrev nd_G:Type:=Int×BA
noncomputable def nd_LP:LP 0 nd_G:=.pair (.slot 0 3 dU64) (.slot 0 4 dStr)
noncomputable def nd_R (u:Int) (s:BA):Ex×nd_G:=
 bif IntKind.u64.wrap (u.tdiv (10:Int))==(0:Int) then (Ex.exit (0:Nat),IntKind.u64.wrap (u.tdiv (10:Int)),(ByteArray.mk #[(48:UInt8),(49:UInt8),(50:UInt8),(51:UInt8),(52:UInt8),(53:UInt8),(54:UInt8),(55:UInt8),(56:UInt8),(57:UInt8),(97:UInt8),(98:UInt8),(99:UInt8),(100:UInt8),(101:UInt8),(102:UInt8)]).extract (u.tmod (10:Int)).toNat (IntKind.u64.wrap (u.tmod (10:Int)+(1:Int))).toNat++s)
 else (Ex.normal,IntKind.u64.wrap (u.tdiv (10:Int)),(ByteArray.mk #[(48:UInt8),(49:UInt8),(50:UInt8),(51:UInt8),(52:UInt8),(53:UInt8),(54:UInt8),(55:UInt8),(56:UInt8),(57:UInt8),(97:UInt8),(98:UInt8),(99:UInt8),(100:UInt8),(101:UInt8),(102:UInt8)]).extract (u.tmod (10:Int)).toNat (IntKind.u64.wrap (u.tmod (10:Int)+(1:Int))).toNat++s)
def nd_side (u:Int) (s:BA):Prop:=
 (10:Int)≠(0:Int)∧((0:Int)≤IntKind.u64.wrap (u.tmod (10:Int)+(1:Int))∧IntKind.u64.wrap (u.tmod (10:Int)+(1:Int))≤(16:Int))∧((0:Int)≤u.tmod (10:Int)∧u.tmod (10:Int)≤(↑(IntKind.u64.wrap (u.tmod (10:Int)+(1:Int))).toNat:Int))∧((ByteArray.mk #[(48:UInt8),(49:UInt8),(50:UInt8),(51:UInt8),(52:UInt8),(53:UInt8),(54:UInt8),(55:UInt8),(56:UInt8),(57:UInt8),(97:UInt8),(98:UInt8),(99:UInt8),(100:UInt8),(101:UInt8),(102:UInt8)]).extract (u.tmod (10:Int)).toNat (IntKind.u64.wrap (u.tmod (10:Int)+(1:Int))).toNat).size+ByteArray.size s≤(9223372036854775807:Nat)∧(10:Int)≠(0:Int)
theorem nd_one:((loopsOf Tryd.prog 87).filter fun c=>Nat.beq (lkey c) 5).length=1:=by kernel_rfl
theorem nd_es (g:nd_G):(nd_R g.1 g.2).1=.normal∨(nd_R g.1 g.2).1∈([.exit 0]:List Ex):=by
 unfold nd_R
 repeat' (first | (left;rfl) | (right;simp only[cond_true,cond_false];simp;done) | (rw[Bool.cond_eq_ite];split))
noncomputable abbrev nd_C (Inv:nd_G→List Prop) (m:nd_G→Nat):LCon:=loopR [.exit 0] (loopBody Tryd.prog 87 5) nd_LP [] 29 Inv (fun g=>nd_R g.1 g.2) m
theorem nd_loop (Inv:nd_G→List Prop) (m:nd_G→Nat) (hs:∀ g,allP (Inv g)→nd_side g.1 g.2) (hg:Goes (fun g:nd_G=>nd_R g.1 g.2) m fun g=>allP (Inv g)):∀ b∈loopsOf Tryd.prog 87,lkey b=5→LoopOk Tryd.prog b (nd_C Inv m).g:=loop_run (Γ:=(PTab.gamz tabA3 [] [])) (Λ:=noΛ) (PTab.okz tabA3 [] []) noΛ_ok 100 87 5 29 nd_LP [] Inv (fun g=>nd_R g.1 g.2) (fun g=>nd_side g.1 g.2) m default [.exit 0] nd_one (fun rd T B HL HB ds g=>by kernel_rfl) (fun rd T B HL HB ds g=>by kernel_rfl) hs hg nd_es
end Go.Proofs.YtmegbepjdololaaDoor

namespace Go.Proofs.YtmegbepjdololaaDoor
open Go.RowKit Go.Sx
set_option maxRecDepth 100000
set_option linter.unusedVariables false
abbrev tx_G:Type:=Unit×Rec×Int×Int×List Int
noncomputable def tx_LP:LP 2 tx_G:=.pair (.fix 2 1 (.p 0 0)) (.pair (.obj 2 0 46 eR) (.pair (.slot 2 16 dI) (.pair (.slot 2 17 dI) (.row 2 3 5 e8u))))
noncomputable def tx_R (_u:Unit) (r:Rec) (n:Int) (i:Int) (b:List Int):Ex×tx_G:=
 bif decide (i<n) then (Ex.normal,(),r,n,IntKind.i64.wrap (i+(1:Int)),bif decide ((↑(ByteArray.get! r.text i.toNat).toNat:Int) > (32:Int))&&(decide ((↑(ByteArray.get! r.text i.toNat).toNat:Int)<(127:Int))&&(↑(ByteArray.get! r.text i.toNat).toNat:Int) != (37:Int)) then e8u.lst (min (bif decide ((↑(ByteArray.get! r.text i.toNat).toNat:Int) > (32:Int))&&(decide ((↑(ByteArray.get! r.text i.toNat).toNat:Int)<(127:Int))&&(↑(ByteArray.get! r.text i.toNat).toNat:Int) != (37:Int)) then b.length+(1:Nat) else b.length+(3:Nat)) b.length) (e8u.els b)++List.map (fun x=>(↑(ByteArray.get! r.text i.toNat).toNat:Int)) (List.range ((bif decide ((↑(ByteArray.get! r.text i.toNat).toNat:Int) > (32:Int))&&(decide ((↑(ByteArray.get! r.text i.toNat).toNat:Int)<(127:Int))&&(↑(ByteArray.get! r.text i.toNat).toNat:Int) != (37:Int)) then b.length+(1:Nat) else b.length+(3:Nat)) - b.length)) else e8u.lst (min (bif decide ((↑(ByteArray.get! r.text i.toNat).toNat:Int) > (32:Int))&&(decide ((↑(ByteArray.get! r.text i.toNat).toNat:Int)<(127:Int))&&(↑(ByteArray.get! r.text i.toNat).toNat:Int) != (37:Int)) then b.length+(1:Nat) else b.length+(3:Nat)) b.length) (e8u.els b)++(List.map (fun x=>(37:Int)) (List.range (min ((bif decide ((↑(ByteArray.get! r.text i.toNat).toNat:Int) > (32:Int))&&(decide ((↑(ByteArray.get! r.text i.toNat).toNat:Int)<(127:Int))&&(↑(ByteArray.get! r.text i.toNat).toNat:Int) != (37:Int)) then b.length+(1:Nat) else b.length+(3:Nat)) - b.length) (1:Nat)))++(List.map (fun x=>(↑((ByteArray.mk #[(48:UInt8),(49:UInt8),(50:UInt8),(51:UInt8),(52:UInt8),(53:UInt8),(54:UInt8),(55:UInt8),(56:UInt8),(57:UInt8),(97:UInt8),(98:UInt8),(99:UInt8),(100:UInt8),(101:UInt8),(102:UInt8)]).get! (iShr IntKind.u8 (↑(ByteArray.get! r.text i.toNat).toNat:Int) (4:Int)).toNat).toNat:Int)) (List.range (min ((bif decide ((↑(ByteArray.get! r.text i.toNat).toNat:Int) > (32:Int))&&(decide ((↑(ByteArray.get! r.text i.toNat).toNat:Int)<(127:Int))&&(↑(ByteArray.get! r.text i.toNat).toNat:Int) != (37:Int)) then b.length+(1:Nat) else b.length+(3:Nat)) - b.length - (1:Nat)) (1:Nat)))++List.map (fun x=>(↑((ByteArray.mk #[(48:UInt8),(49:UInt8),(50:UInt8),(51:UInt8),(52:UInt8),(53:UInt8),(54:UInt8),(55:UInt8),(56:UInt8),(57:UInt8),(97:UInt8),(98:UInt8),(99:UInt8),(100:UInt8),(101:UInt8),(102:UInt8)]).get! (iAnd IntKind.u8 (↑(ByteArray.get! r.text i.toNat).toNat:Int) (15:Int)).toNat).toNat:Int)) (List.range ((bif decide ((↑(ByteArray.get! r.text i.toNat).toNat:Int) > (32:Int))&&(decide ((↑(ByteArray.get! r.text i.toNat).toNat:Int)<(127:Int))&&(↑(ByteArray.get! r.text i.toNat).toNat:Int) != (37:Int)) then b.length+(1:Nat) else b.length+(3:Nat)) - b.length - (1:Nat) - (1:Nat))))))
 else (Ex.exit (0:Nat),(),r,n,i,e8u.ag b)
def tx_side (_u:Unit) (r:Rec) (n:Int) (i:Int) (b:List Int):Prop:=
 (decide (i<n)=true→((0:Int)≤i∧i<(↑(ByteArray.size r.text):Int))∧((decide ((↑(ByteArray.get! r.text i.toNat).toNat:Int) > (32:Int))&&(decide ((↑(ByteArray.get! r.text i.toNat).toNat:Int)<(127:Int))&&(↑(ByteArray.get! r.text i.toNat).toNat:Int) != (37:Int)))=true→b.length≤b.length∧True∧b.length+(1:Nat)≤maxLen∧(b.length+(1:Nat)) * Tryd.prog.types[(5:Nat)].bytes≤(140737488355328:Nat))∧((!(decide ((↑(ByteArray.get! r.text i.toNat).toNat:Int) > (32:Int))&&(decide ((↑(ByteArray.get! r.text i.toNat).toNat:Int)<(127:Int))&&(↑(ByteArray.get! r.text i.toNat).toNat:Int) != (37:Int))))=true→(0:Int)≤iShr IntKind.u8 (↑(ByteArray.get! r.text i.toNat).toNat:Int) (4:Int)∧iShr IntKind.u8 (↑(ByteArray.get! r.text i.toNat).toNat:Int) (4:Int)<(16:Int))∧((!(decide ((↑(ByteArray.get! r.text i.toNat).toNat:Int) > (32:Int))&&(decide ((↑(ByteArray.get! r.text i.toNat).toNat:Int)<(127:Int))&&(↑(ByteArray.get! r.text i.toNat).toNat:Int) != (37:Int))))=true→(0:Int)≤iAnd IntKind.u8 (↑(ByteArray.get! r.text i.toNat).toNat:Int) (15:Int)∧iAnd IntKind.u8 (↑(ByteArray.get! r.text i.toNat).toNat:Int) (15:Int)<(16:Int))∧((!(decide ((↑(ByteArray.get! r.text i.toNat).toNat:Int) > (32:Int))&&(decide ((↑(ByteArray.get! r.text i.toNat).toNat:Int)<(127:Int))&&(↑(ByteArray.get! r.text i.toNat).toNat:Int) != (37:Int))))=true→b.length≤b.length∧True∧b.length+(3:Nat)≤maxLen∧(b.length+(3:Nat)) * Tryd.prog.types[(5:Nat)].bytes≤(140737488355328:Nat))∧((bif decide ((↑(ByteArray.get! r.text i.toNat).toNat:Int) > (32:Int))&&(decide ((↑(ByteArray.get! r.text i.toNat).toNat:Int)<(127:Int))&&(↑(ByteArray.get! r.text i.toNat).toNat:Int) != (37:Int)) then b.length+(1:Nat) else b.length+(3:Nat))≤bif decide ((↑(ByteArray.get! r.text i.toNat).toNat:Int) > (32:Int))&&(decide ((↑(ByteArray.get! r.text i.toNat).toNat:Int)<(127:Int))&&(↑(ByteArray.get! r.text i.toNat).toNat:Int) != (37:Int)) then b.length+(1:Nat) else b.length+(3:Nat))∧(∀ (e:Nat),e<min (bif decide ((↑(ByteArray.get! r.text i.toNat).toNat:Int) > (32:Int))&&(decide ((↑(ByteArray.get! r.text i.toNat).toNat:Int)<(127:Int))&&(↑(ByteArray.get! r.text i.toNat).toNat:Int) != (37:Int)) then b.length+(1:Nat) else b.length+(3:Nat)) b.length→True)∧(∀ (e:Nat),e<(bif decide ((↑(ByteArray.get! r.text i.toNat).toNat:Int) > (32:Int))&&(decide ((↑(ByteArray.get! r.text i.toNat).toNat:Int)<(127:Int))&&(↑(ByteArray.get! r.text i.toNat).toNat:Int) != (37:Int)) then b.length+(1:Nat) else b.length+(3:Nat)) - b.length→True)∧(∀ (e:Nat),e<min (bif decide ((↑(ByteArray.get! r.text i.toNat).toNat:Int) > (32:Int))&&(decide ((↑(ByteArray.get! r.text i.toNat).toNat:Int)<(127:Int))&&(↑(ByteArray.get! r.text i.toNat).toNat:Int) != (37:Int)) then b.length+(1:Nat) else b.length+(3:Nat)) b.length→True)∧(∀ (e:Nat),e<min ((bif decide ((↑(ByteArray.get! r.text i.toNat).toNat:Int) > (32:Int))&&(decide ((↑(ByteArray.get! r.text i.toNat).toNat:Int)<(127:Int))&&(↑(ByteArray.get! r.text i.toNat).toNat:Int) != (37:Int)) then b.length+(1:Nat) else b.length+(3:Nat)) - b.length) (1:Nat)→True)∧(∀ (e:Nat),e<min ((bif decide ((↑(ByteArray.get! r.text i.toNat).toNat:Int) > (32:Int))&&(decide ((↑(ByteArray.get! r.text i.toNat).toNat:Int)<(127:Int))&&(↑(ByteArray.get! r.text i.toNat).toNat:Int) != (37:Int)) then b.length+(1:Nat) else b.length+(3:Nat)) - b.length - (1:Nat)) (1:Nat)→True)∧∀ (e:Nat),e<(bif decide ((↑(ByteArray.get! r.text i.toNat).toNat:Int) > (32:Int))&&(decide ((↑(ByteArray.get! r.text i.toNat).toNat:Int)<(127:Int))&&(↑(ByteArray.get! r.text i.toNat).toNat:Int) != (37:Int)) then b.length+(1:Nat) else b.length+(3:Nat)) - b.length - (1:Nat) - (1:Nat)→True)∧(decide (i<n)=false→b.length≤b.length∧∀ (e:Nat),e<b.length→True)
theorem tx_one:((loopsOf Tryd.prog 43).filter fun c=>Nat.beq (lkey c) 5).length=1:=by kernel_rfl
abbrev tx_GC:Type:=Rec×Int
abbrev tx_GB:Type:=Unit×List Int
def tx_f (g:tx_G):Int×tx_GC×tx_GB:=(g.2.2.2.1,(g.2.1,g.2.2.1),(g.1,g.2.2.2.2))
def tx_g (d:Int×tx_GC×tx_GB):tx_G:=(d.2.2.1,d.2.1.1,d.2.1.2,d.1,d.2.2.2)
theorem tx_es (g:tx_G):(tx_R g.1 g.2.1 g.2.2.1 g.2.2.2.1 g.2.2.2.2).1=.normal∨(tx_R g.1 g.2.1 g.2.2.1 g.2.2.2.1 g.2.2.2.2).1∈([.exit 0]:List Ex):=by
 unfold tx_R
 repeat' (first | (left;rfl) | (right;simp only[cond_true,cond_false];simp;done) | (rw[Bool.cond_eq_ite];split))
noncomputable abbrev tx_C (Inv:tx_G→List Prop) (m:tx_G→Nat):LCon:=loopR [.exit 0] (loopBody Tryd.prog 43 5) tx_LP [] 50 Inv (fun g=>tx_R g.1 g.2.1 g.2.2.1 g.2.2.2.1 g.2.2.2.2) m
theorem tx_loop (Inv:tx_G→List Prop) (m:tx_G→Nat) (hs:∀ g,allP (Inv g)→tx_side g.1 g.2.1 g.2.2.1 g.2.2.2.1 g.2.2.2.2) (hg:Goes (fun g:tx_G=>tx_R g.1 g.2.1 g.2.2.1 g.2.2.2.1 g.2.2.2.2) m fun g=>allP (Inv g)):∀ b∈loopsOf Tryd.prog 43,lkey b=5→LoopOk Tryd.prog b (tx_C Inv m).g:=loop_run (Γ:=(PTab.gamz tabA3 [] [])) (Λ:=noΛ) (PTab.okz tabA3 [] []) noΛ_ok 100 43 5 50 tx_LP [] Inv (fun g=>tx_R g.1 g.2.1 g.2.2.1 g.2.2.2.1 g.2.2.2.2) (fun g=>tx_side g.1 g.2.1 g.2.2.1 g.2.2.2.1 g.2.2.2.2) m default [.exit 0] tx_one (fun rd T B HL HB ds g=>by kernel_rfl) (fun rd T B HL HB ds g=>by kernel_rfl) hs hg tx_es
abbrev rt_G:Type:=Unit×Rec×Int×BA
noncomputable def rt_LP:LP 1 rt_G:=.pair (.fix 1 1 (.p 0 0)) (.pair (.obj 1 0 46 eR) (.pair (.slot 1 4 dI) (.slot 1 3 dStr)))
noncomputable def rt_R (_u:Unit) (r:Rec) (i:Int) (s:BA):Ex×rt_G:=
 bif decide (i<(↑(ByteArray.size r.text):Int)) then (Ex.normal,(),r,IntKind.i64.wrap (i+(1:Int)),bif decide ((↑(ByteArray.get! r.text i.toNat).toNat:Int)≥(33:Int))&&(decide ((↑(ByteArray.get! r.text i.toNat).toNat:Int)≤(126:Int))&&(↑(ByteArray.get! r.text i.toNat).toNat:Int) != (37:Int)) then s++ByteArray.extract r.text i.toNat (IntKind.i64.wrap (i+(1:Int))).toNat else s++(ByteArray.mk #[(37:UInt8)]++(ByteArray.mk #[(48:UInt8),(49:UInt8),(50:UInt8),(51:UInt8),(52:UInt8),(53:UInt8),(54:UInt8),(55:UInt8),(56:UInt8),(57:UInt8),(97:UInt8),(98:UInt8),(99:UInt8),(100:UInt8),(101:UInt8),(102:UInt8)]).extract (IntKind.u8.wrap ((↑(ByteArray.get! r.text i.toNat).toNat:Int).tdiv (16:Int))).toNat (IntKind.u8.wrap (IntKind.u8.wrap ((↑(ByteArray.get! r.text i.toNat).toNat:Int).tdiv (16:Int))+(1:Int))).toNat++(ByteArray.mk #[(48:UInt8),(49:UInt8),(50:UInt8),(51:UInt8),(52:UInt8),(53:UInt8),(54:UInt8),(55:UInt8),(56:UInt8),(57:UInt8),(97:UInt8),(98:UInt8),(99:UInt8),(100:UInt8),(101:UInt8),(102:UInt8)]).extract ((↑(ByteArray.get! r.text i.toNat).toNat:Int).tmod (16:Int)).toNat (IntKind.u8.wrap ((↑(ByteArray.get! r.text i.toNat).toNat:Int).tmod (16:Int)+(1:Int))).toNat))
 else (Ex.exit (0:Nat),(),r,i,s)
def rt_side (_u:Unit) (r:Rec) (i:Int) (s:BA):Prop:=
 decide (i<(↑(ByteArray.size r.text):Int))=true→((0:Int)≤i∧i<(↑(ByteArray.size r.text):Int))∧((decide ((↑(ByteArray.get! r.text i.toNat).toNat:Int)≥(33:Int))&&(decide ((↑(ByteArray.get! r.text i.toNat).toNat:Int)≤(126:Int))&&(↑(ByteArray.get! r.text i.toNat).toNat:Int) != (37:Int)))=true→(0:Int)≤IntKind.i64.wrap (i+(1:Int))∧IntKind.i64.wrap (i+(1:Int))≤(↑(ByteArray.size r.text):Int))∧((decide ((↑(ByteArray.get! r.text i.toNat).toNat:Int)≥(33:Int))&&(decide ((↑(ByteArray.get! r.text i.toNat).toNat:Int)≤(126:Int))&&(↑(ByteArray.get! r.text i.toNat).toNat:Int) != (37:Int)))=true→(0:Int)≤i∧i≤(↑(IntKind.i64.wrap (i+(1:Int))).toNat:Int))∧((decide ((↑(ByteArray.get! r.text i.toNat).toNat:Int)≥(33:Int))&&(decide ((↑(ByteArray.get! r.text i.toNat).toNat:Int)≤(126:Int))&&(↑(ByteArray.get! r.text i.toNat).toNat:Int) != (37:Int)))=true→ByteArray.size s+(ByteArray.extract r.text i.toNat (IntKind.i64.wrap (i+(1:Int))).toNat).size≤(9223372036854775807:Nat))∧((!(decide ((↑(ByteArray.get! r.text i.toNat).toNat:Int)≥(33:Int))&&(decide ((↑(ByteArray.get! r.text i.toNat).toNat:Int)≤(126:Int))&&(↑(ByteArray.get! r.text i.toNat).toNat:Int) != (37:Int))))=true→(16:Int)≠(0:Int))∧((!(decide ((↑(ByteArray.get! r.text i.toNat).toNat:Int)≥(33:Int))&&(decide ((↑(ByteArray.get! r.text i.toNat).toNat:Int)≤(126:Int))&&(↑(ByteArray.get! r.text i.toNat).toNat:Int) != (37:Int))))=true→(16:Int)≠(0:Int))∧((!(decide ((↑(ByteArray.get! r.text i.toNat).toNat:Int)≥(33:Int))&&(decide ((↑(ByteArray.get! r.text i.toNat).toNat:Int)≤(126:Int))&&(↑(ByteArray.get! r.text i.toNat).toNat:Int) != (37:Int))))=true→(0:Int)≤IntKind.u8.wrap (IntKind.u8.wrap ((↑(ByteArray.get! r.text i.toNat).toNat:Int).tdiv (16:Int))+(1:Int))∧IntKind.u8.wrap (IntKind.u8.wrap ((↑(ByteArray.get! r.text i.toNat).toNat:Int).tdiv (16:Int))+(1:Int))≤(16:Int))∧((!(decide ((↑(ByteArray.get! r.text i.toNat).toNat:Int)≥(33:Int))&&(decide ((↑(ByteArray.get! r.text i.toNat).toNat:Int)≤(126:Int))&&(↑(ByteArray.get! r.text i.toNat).toNat:Int) != (37:Int))))=true→(0:Int)≤IntKind.u8.wrap ((↑(ByteArray.get! r.text i.toNat).toNat:Int).tdiv (16:Int))∧IntKind.u8.wrap ((↑(ByteArray.get! r.text i.toNat).toNat:Int).tdiv (16:Int))≤(↑(IntKind.u8.wrap (IntKind.u8.wrap ((↑(ByteArray.get! r.text i.toNat).toNat:Int).tdiv (16:Int))+(1:Int))).toNat:Int))∧((!(decide ((↑(ByteArray.get! r.text i.toNat).toNat:Int)≥(33:Int))&&(decide ((↑(ByteArray.get! r.text i.toNat).toNat:Int)≤(126:Int))&&(↑(ByteArray.get! r.text i.toNat).toNat:Int) != (37:Int))))=true→(1:Nat)+((ByteArray.mk #[(48:UInt8),(49:UInt8),(50:UInt8),(51:UInt8),(52:UInt8),(53:UInt8),(54:UInt8),(55:UInt8),(56:UInt8),(57:UInt8),(97:UInt8),(98:UInt8),(99:UInt8),(100:UInt8),(101:UInt8),(102:UInt8)]).extract (IntKind.u8.wrap ((↑(ByteArray.get! r.text i.toNat).toNat:Int).tdiv (16:Int))).toNat (IntKind.u8.wrap (IntKind.u8.wrap ((↑(ByteArray.get! r.text i.toNat).toNat:Int).tdiv (16:Int))+(1:Int))).toNat).size≤(9223372036854775807:Nat))∧((!(decide ((↑(ByteArray.get! r.text i.toNat).toNat:Int)≥(33:Int))&&(decide ((↑(ByteArray.get! r.text i.toNat).toNat:Int)≤(126:Int))&&(↑(ByteArray.get! r.text i.toNat).toNat:Int) != (37:Int))))=true→(16:Int)≠(0:Int))∧((!(decide ((↑(ByteArray.get! r.text i.toNat).toNat:Int)≥(33:Int))&&(decide ((↑(ByteArray.get! r.text i.toNat).toNat:Int)≤(126:Int))&&(↑(ByteArray.get! r.text i.toNat).toNat:Int) != (37:Int))))=true→(16:Int)≠(0:Int))∧((!(decide ((↑(ByteArray.get! r.text i.toNat).toNat:Int)≥(33:Int))&&(decide ((↑(ByteArray.get! r.text i.toNat).toNat:Int)≤(126:Int))&&(↑(ByteArray.get! r.text i.toNat).toNat:Int) != (37:Int))))=true→(0:Int)≤IntKind.u8.wrap ((↑(ByteArray.get! r.text i.toNat).toNat:Int).tmod (16:Int)+(1:Int))∧IntKind.u8.wrap ((↑(ByteArray.get! r.text i.toNat).toNat:Int).tmod (16:Int)+(1:Int))≤(16:Int))∧((!(decide ((↑(ByteArray.get! r.text i.toNat).toNat:Int)≥(33:Int))&&(decide ((↑(ByteArray.get! r.text i.toNat).toNat:Int)≤(126:Int))&&(↑(ByteArray.get! r.text i.toNat).toNat:Int) != (37:Int))))=true→(0:Int)≤(↑(ByteArray.get! r.text i.toNat).toNat:Int).tmod (16:Int)∧(↑(ByteArray.get! r.text i.toNat).toNat:Int).tmod (16:Int)≤(↑(IntKind.u8.wrap ((↑(ByteArray.get! r.text i.toNat).toNat:Int).tmod (16:Int)+(1:Int))).toNat:Int))∧((!(decide ((↑(ByteArray.get! r.text i.toNat).toNat:Int)≥(33:Int))&&(decide ((↑(ByteArray.get! r.text i.toNat).toNat:Int)≤(126:Int))&&(↑(ByteArray.get! r.text i.toNat).toNat:Int) != (37:Int))))=true→(ByteArray.mk #[(37:UInt8)]++(ByteArray.mk #[(48:UInt8),(49:UInt8),(50:UInt8),(51:UInt8),(52:UInt8),(53:UInt8),(54:UInt8),(55:UInt8),(56:UInt8),(57:UInt8),(97:UInt8),(98:UInt8),(99:UInt8),(100:UInt8),(101:UInt8),(102:UInt8)]).extract (IntKind.u8.wrap ((↑(ByteArray.get! r.text i.toNat).toNat:Int).tdiv (16:Int))).toNat (IntKind.u8.wrap (IntKind.u8.wrap ((↑(ByteArray.get! r.text i.toNat).toNat:Int).tdiv (16:Int))+(1:Int))).toNat).size+((ByteArray.mk #[(48:UInt8),(49:UInt8),(50:UInt8),(51:UInt8),(52:UInt8),(53:UInt8),(54:UInt8),(55:UInt8),(56:UInt8),(57:UInt8),(97:UInt8),(98:UInt8),(99:UInt8),(100:UInt8),(101:UInt8),(102:UInt8)]).extract ((↑(ByteArray.get! r.text i.toNat).toNat:Int).tmod (16:Int)).toNat (IntKind.u8.wrap ((↑(ByteArray.get! r.text i.toNat).toNat:Int).tmod (16:Int)+(1:Int))).toNat).size≤(9223372036854775807:Nat))∧((!(decide ((↑(ByteArray.get! r.text i.toNat).toNat:Int)≥(33:Int))&&(decide ((↑(ByteArray.get! r.text i.toNat).toNat:Int)≤(126:Int))&&(↑(ByteArray.get! r.text i.toNat).toNat:Int) != (37:Int))))=true→ByteArray.size s+(ByteArray.mk #[(37:UInt8)]++(ByteArray.mk #[(48:UInt8),(49:UInt8),(50:UInt8),(51:UInt8),(52:UInt8),(53:UInt8),(54:UInt8),(55:UInt8),(56:UInt8),(57:UInt8),(97:UInt8),(98:UInt8),(99:UInt8),(100:UInt8),(101:UInt8),(102:UInt8)]).extract (IntKind.u8.wrap ((↑(ByteArray.get! r.text i.toNat).toNat:Int).tdiv (16:Int))).toNat (IntKind.u8.wrap (IntKind.u8.wrap ((↑(ByteArray.get! r.text i.toNat).toNat:Int).tdiv (16:Int))+(1:Int))).toNat++(ByteArray.mk #[(48:UInt8),(49:UInt8),(50:UInt8),(51:UInt8),(52:UInt8),(53:UInt8),(54:UInt8),(55:UInt8),(56:UInt8),(57:UInt8),(97:UInt8),(98:UInt8),(99:UInt8),(100:UInt8),(101:UInt8),(102:UInt8)]).extract ((↑(ByteArray.get! r.text i.toNat).toNat:Int).tmod (16:Int)).toNat (IntKind.u8.wrap ((↑(ByteArray.get! r.text i.toNat).toNat:Int).tmod (16:Int)+(1:Int))).toNat).size≤(9223372036854775807:Nat))
theorem rt_one:((loopsOf Tryd.prog 44).filter fun c=>Nat.beq (lkey c) 5).length=1:=by kernel_rfl
abbrev rt_GC:Type:=Rec
abbrev rt_GB:Type:=Unit×BA
def rt_f (g:rt_G):Int×rt_GC×rt_GB:=(g.2.2.1,g.2.1,(g.1,g.2.2.2))
def rt_g (d:Int×rt_GC×rt_GB):rt_G:=(d.2.2.1,d.2.1,d.1,d.2.2.2)
theorem rt_es (g:rt_G):(rt_R g.1 g.2.1 g.2.2.1 g.2.2.2).1=.normal∨(rt_R g.1 g.2.1 g.2.2.1 g.2.2.2).1∈([.exit 0]:List Ex):=by
 unfold rt_R
 repeat' (first | (left;rfl) | (right;simp only[cond_true,cond_false];simp;done) | (rw[Bool.cond_eq_ite];split))
noncomputable abbrev rt_C (Inv:rt_G→List Prop) (m:rt_G→Nat):LCon:=loopR [.exit 0] (loopBody Tryd.prog 44 5) rt_LP [] 59 Inv (fun g=>rt_R g.1 g.2.1 g.2.2.1 g.2.2.2) m
theorem rt_loop (Inv:rt_G→List Prop) (m:rt_G→Nat) (hs:∀ g,allP (Inv g)→rt_side g.1 g.2.1 g.2.2.1 g.2.2.2) (hg:Goes (fun g:rt_G=>rt_R g.1 g.2.1 g.2.2.1 g.2.2.2) m fun g=>allP (Inv g)):∀ b∈loopsOf Tryd.prog 44,lkey b=5→LoopOk Tryd.prog b (rt_C Inv m).g:=loop_run (Γ:=(PTab.gamz tabA3 [] [])) (Λ:=noΛ) (PTab.okz tabA3 [] []) noΛ_ok 100 44 5 59 rt_LP [] Inv (fun g=>rt_R g.1 g.2.1 g.2.2.1 g.2.2.2) (fun g=>rt_side g.1 g.2.1 g.2.2.1 g.2.2.2) m default [.exit 0] rt_one (fun rd T B HL HB ds g=>by kernel_rfl) (fun rd T B HL HB ds g=>by kernel_rfl) hs hg rt_es
abbrev pa_G:Type:=BA×Int×Int×Int×Int×Bool
noncomputable def pa_LP:LP 0 pa_G:=.pair (.slot 0 4 dStr) (.pair (.slot 0 15 dI) (.pair (.slot 0 16 dI) (.pair (.slot 0 6 dU64) (.pair (.slot 0 2 dI) (.slot 0 3 dBool)))))
noncomputable def pa_R (d:BA) (n:Int) (i:Int) (u:Int) (r:Int) (o:Bool):Ex×pa_G:=
 bif decide (i<n) then bif decide ((↑(ByteArray.get! d i.toNat).toNat:Int)<(48:Int))||(decide ((↑(ByteArray.get! d i.toNat).toNat:Int) > (57:Int))||decide (i > (18:Int))) then (Ex.ret,d,n,i,u,(0:Int),false) else (Ex.normal,d,n,IntKind.i64.wrap (i+(1:Int)),IntKind.u64.wrap (IntKind.u64.wrap ((10:Int) * u)+IntKind.u64.wrap (IntKind.u8.wrap ((↑(ByteArray.get! d i.toNat).toNat:Int) - (48:Int)))),r,o)
 else (Ex.exit (0:Nat),d,n,i,u,r,o)
def pa_side (d:BA) (n:Int) (i:Int) (u:Int) (r:Int) (o:Bool):Prop:=
 decide (i<n)=true→((0:Int)≤i∧i<(↑(ByteArray.size d):Int))∧((!decide ((↑(ByteArray.get! d i.toNat).toNat:Int)<(48:Int)))=true→(0:Int)≤i∧i<(↑(ByteArray.size d):Int))∧((decide ((↑(ByteArray.get! d i.toNat).toNat:Int)<(48:Int))||(decide ((↑(ByteArray.get! d i.toNat).toNat:Int) > (57:Int))||decide (i > (18:Int))))=false→(0:Int)≤i∧i<(↑(ByteArray.size d):Int))
theorem pa_one:((loopsOf Tryd.prog 82).filter fun c=>Nat.beq (lkey c) 4).length=1:=by kernel_rfl
abbrev pa_GC:Type:=BA×Int
abbrev pa_GB:Type:=Int×Int×Bool
def pa_f (g:pa_G):Int×pa_GC×pa_GB:=(g.2.2.1,(g.1,g.2.1),(g.2.2.2.1,g.2.2.2.2.1,g.2.2.2.2.2))
def pa_g (d:Int×pa_GC×pa_GB):pa_G:=(d.2.1.1,d.2.1.2,d.1,d.2.2.1,d.2.2.2.1,d.2.2.2.2)
theorem pa_es (g:pa_G):(pa_R g.1 g.2.1 g.2.2.1 g.2.2.2.1 g.2.2.2.2.1 g.2.2.2.2.2).1=.normal∨(pa_R g.1 g.2.1 g.2.2.1 g.2.2.2.1 g.2.2.2.2.1 g.2.2.2.2.2).1∈([.ret,.exit 0]:List Ex):=by
 unfold pa_R
 repeat' (first | (left;rfl) | (right;simp only[cond_true,cond_false];simp;done) | (rw[Bool.cond_eq_ite];split))
noncomputable abbrev pa_C (Inv:pa_G→List Prop) (m:pa_G→Nat):LCon:=loopR [.ret,.exit 0] (loopBody Tryd.prog 82 4) pa_LP [] 52 Inv (fun g=>pa_R g.1 g.2.1 g.2.2.1 g.2.2.2.1 g.2.2.2.2.1 g.2.2.2.2.2) m
theorem pa_loop (Inv:pa_G→List Prop) (m:pa_G→Nat) (hs:∀ g,allP (Inv g)→pa_side g.1 g.2.1 g.2.2.1 g.2.2.2.1 g.2.2.2.2.1 g.2.2.2.2.2) (hg:Goes (fun g:pa_G=>pa_R g.1 g.2.1 g.2.2.1 g.2.2.2.1 g.2.2.2.2.1 g.2.2.2.2.2) m fun g=>allP (Inv g)):∀ b∈loopsOf Tryd.prog 82,lkey b=4→LoopOk Tryd.prog b (pa_C Inv m).g:=loop_run (Γ:=(PTab.gamz tabA3 [] [])) (Λ:=noΛ) (PTab.okz tabA3 [] []) noΛ_ok 100 82 4 52 pa_LP [] Inv (fun g=>pa_R g.1 g.2.1 g.2.2.1 g.2.2.2.1 g.2.2.2.2.1 g.2.2.2.2.2) (fun g=>pa_side g.1 g.2.1 g.2.2.1 g.2.2.2.1 g.2.2.2.2.1 g.2.2.2.2.2) m default [.ret,.exit 0] pa_one (fun rd T B HL HB ds g=>by kernel_rfl) (fun rd T B HL HB ds g=>by kernel_rfl) hs hg pa_es
abbrev pn_G:Type:=BA×Int×Int×Int×Bool
noncomputable def pn_LP:LP 0 pn_G:=.pair (.slot 0 4 dStr) (.pair (.slot 0 6 dI) (.pair (.slot 0 5 dU64) (.pair (.slot 0 2 dI) (.slot 0 3 dBool))))
noncomputable def pn_R (d:BA) (i:Int) (u:Int) (r:Int) (o:Bool):Ex×pn_G:=
 bif decide (i<(↑(ByteArray.size d):Int)) then bif decide ((↑(ByteArray.get! d i.toNat).toNat:Int)<(48:Int))||decide ((↑(ByteArray.get! d i.toNat).toNat:Int) > (57:Int)) then (Ex.ret,d,i,u,(0:Int),false) else (Ex.normal,d,IntKind.i64.wrap (i+(1:Int)),IntKind.u64.wrap (IntKind.u64.wrap ((10:Int) * u)+IntKind.u64.wrap (IntKind.u8.wrap ((↑(ByteArray.get! d i.toNat).toNat:Int) - (48:Int)))),r,o)
 else (Ex.exit (0:Nat),d,i,u,r,o)
def pn_side (d:BA) (i:Int) (u:Int) (r:Int) (o:Bool):Prop:=
 decide (i<(↑(ByteArray.size d):Int))=true→((0:Int)≤i∧i<(↑(ByteArray.size d):Int))∧((!decide ((↑(ByteArray.get! d i.toNat).toNat:Int)<(48:Int)))=true→(0:Int)≤i∧i<(↑(ByteArray.size d):Int))∧((decide ((↑(ByteArray.get! d i.toNat).toNat:Int)<(48:Int))||decide ((↑(ByteArray.get! d i.toNat).toNat:Int) > (57:Int)))=false→(0:Int)≤i∧i<(↑(ByteArray.size d):Int))
theorem pn_one:((loopsOf Tryd.prog 84).filter fun c=>Nat.beq (lkey c) 8).length=1:=by kernel_rfl
abbrev pn_GC:Type:=BA
abbrev pn_GB:Type:=Int×Int×Bool
def pn_f (g:pn_G):Int×pn_GC×pn_GB:=(g.2.1,g.1,(g.2.2.1,g.2.2.2.1,g.2.2.2.2))
def pn_g (d:Int×pn_GC×pn_GB):pn_G:=(d.2.1,d.1,d.2.2.1,d.2.2.2.1,d.2.2.2.2)
theorem pn_es (g:pn_G):(pn_R g.1 g.2.1 g.2.2.1 g.2.2.2.1 g.2.2.2.2).1=.normal∨(pn_R g.1 g.2.1 g.2.2.1 g.2.2.2.1 g.2.2.2.2).1∈([.ret,.exit 0]:List Ex):=by
 unfold pn_R
 repeat' (first | (left;rfl) | (right;simp only[cond_true,cond_false];simp;done) | (rw[Bool.cond_eq_ite];split))
noncomputable abbrev pn_C (Inv:pn_G→List Prop) (m:pn_G→Nat):LCon:=loopR [.ret,.exit 0] (loopBody Tryd.prog 84 8) pn_LP [] 60 Inv (fun g=>pn_R g.1 g.2.1 g.2.2.1 g.2.2.2.1 g.2.2.2.2) m
theorem pn_loop (Inv:pn_G→List Prop) (m:pn_G→Nat) (hs:∀ g,allP (Inv g)→pn_side g.1 g.2.1 g.2.2.1 g.2.2.2.1 g.2.2.2.2) (hg:Goes (fun g:pn_G=>pn_R g.1 g.2.1 g.2.2.1 g.2.2.2.1 g.2.2.2.2) m fun g=>allP (Inv g)):∀ b∈loopsOf Tryd.prog 84,lkey b=8→LoopOk Tryd.prog b (pn_C Inv m).g:=loop_run (Γ:=(PTab.gamz tabA3 [] [])) (Λ:=noΛ) (PTab.okz tabA3 [] []) noΛ_ok 100 84 8 60 pn_LP [] Inv (fun g=>pn_R g.1 g.2.1 g.2.2.1 g.2.2.2.1 g.2.2.2.2) (fun g=>pn_side g.1 g.2.1 g.2.2.1 g.2.2.2.1 g.2.2.2.2) m default [.ret,.exit 0] pn_one (fun rd T B HL HB ds g=>by kernel_rfl) (fun rd T B HL HB ds g=>by kernel_rfl) hs hg pn_es
end Go.Proofs.YtmegbepjdololaaDoor
