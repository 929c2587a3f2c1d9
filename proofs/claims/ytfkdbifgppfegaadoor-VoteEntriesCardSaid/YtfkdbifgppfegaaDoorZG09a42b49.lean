/- Equal. Printed by treegen.py. -/
import Derived.Test.YtfkdbifgppfegaaDoorZG0888f6ba
import Derived.Test.YtfkdbifgppfegaaDoorZG06f19b95
set_option linter.unusedVariables false
set_option linter.unusedSimpArgs false
set_option linter.constructorNameAsVariable false
set_option linter.all false

namespace Go.Proofs.YtfkdbifgppfegaaDoor
open Go.RowKit Go.Sx
set_option maxRecDepth 100000
noncomputable def eI1_q1(a:List Int)(b:List Int):Ex×
 qeI1_G:=
 loopF (λg=>qeI1_R g.fst g.snd.fst g.snd.snd.fst g.snd.snd.snd.fst g.snd.snd.snd.snd) qeI1_M (eI.ag a,eI.ag b,(↑a.length:Int),(0:Int),false)
noncomputable def eI1_F(a:List Int)(b:List Int):Dv.T dBool:=
 bif (↑a.length:Int)!=(↑b.length:Int)then false
 else bif exB Ex.ret (eI1_q1 a b).fst then(eI1_q1 a b).snd.snd.snd.snd.snd else true
def eI1_side(a:List Int)(b:List Int):Prop:=
 ((↑a.length:Int)!=(↑b.length:Int))=false->eI.okL a/\eI.okL b/\Lp.ixJ (λc=>c.snd.snd) (λc=>c.fst) qeI1_K (qeI1_f (eI.ag a,eI.ag b,(↑a.length:Int),(0:Int),false))
theorem eI1_okS(pre:DA.T (.cons (.list eI) (.one (.list eI)))->List Prop)(h:∀g,DA.bd (.cons (.list eI) (.one (.list eI))) g->(∀p∈pre g,p)->eI1_side g.1 g.2):FnPure Tryd.prog 21 (.cons (.list eI) (.one (.list eI))) dBool (λg=>eI1_F g.1 g.2) pre:=pure_of_sideS (Γ:=(PTab.gamz tab0 [] [])) (Λ:=lamD2) (PTab.okz tab0 [] []) lamD2_ok 100 default (λg=>eI1_side g.1 g.2) (λg=>by kernel_rfl) (λg=>by kernel_rfl) h
noncomputable def rI1_q1(a:List Int)(b:List Int):Ex×
 qrI1_G:=
 loopF (λg=>qrI1_R g.fst g.snd.fst g.snd.snd.fst g.snd.snd.snd) qrI1_M (eI.ag a,eI.ag b,(0:Int),false)
noncomputable def rI1_F(a:List Int)(b:List Int):Dv.T dBool:=
 bif (↑a.length:Int)!=(↑b.length:Int)then false
 else bif exB Ex.ret (rI1_q1 a b).fst then(rI1_q1 a b).snd.snd.snd.snd else true
def rI1_side(a:List Int)(b:List Int):Prop:=
 ((↑a.length:Int)!=(↑b.length:Int))=false->eI.okL a/\eI.okL b/\Lp.ixJ (λc=>(↑c.fst.length:Int)) (λc=>c.fst) qrI1_K (qrI1_f (eI.ag a,eI.ag b,(0:Int),false))
theorem rI1_okS(pre:DA.T (.cons (.list eI) (.one (.list eI)))->List Prop)(h:∀g,DA.bd (.cons (.list eI) (.one (.list eI))) g->(∀p∈pre g,p)->rI1_side g.1 g.2):FnPure Tryd.prog 62 (.cons (.list eI) (.one (.list eI))) dBool (λg=>rI1_F g.1 g.2) pre:=pure_of_sideS (Γ:=(PTab.gamz tab0 [] [])) (Λ:=lamD2) (PTab.okz tab0 [] []) lamD2_ok 100 default (λg=>rI1_side g.1 g.2) (λg=>by kernel_rfl) (λg=>by kernel_rfl) h
noncomputable def eB1_q1(a:List Bool)(b:List Bool):Ex×
 qeB1_G:=
 loopF (λg=>qeB1_R g.fst g.snd.fst g.snd.snd.fst g.snd.snd.snd.fst g.snd.snd.snd.snd) qeB1_M (eBool.ag a,eBool.ag b,(↑a.length:Int),(0:Int),false)
noncomputable def eB1_F(a:List Bool)(b:List Bool):Dv.T dBool:=
 bif (↑a.length:Int)!=(↑b.length:Int)then false
 else bif exB Ex.ret (eB1_q1 a b).fst then(eB1_q1 a b).snd.snd.snd.snd.snd else true
def eB1_side(a:List Bool)(b:List Bool):Prop:=
 ((↑a.length:Int)!=(↑b.length:Int))=false->eBool.okL a/\eBool.okL b/\Lp.ixJ (λc=>c.snd.snd) (λc=>c.fst) qeB1_K (qeB1_f (eBool.ag a,eBool.ag b,(↑a.length:Int),(0:Int),false))
theorem eB1_okS(pre:DA.T (.cons (.list eBool) (.one (.list eBool)))->List Prop)(h:∀g,DA.bd (.cons (.list eBool) (.one (.list eBool))) g->(∀p∈pre g,p)->eB1_side g.1 g.2):FnPure Tryd.prog 53 (.cons (.list eBool) (.one (.list eBool))) dBool (λg=>eB1_F g.1 g.2) pre:=pure_of_sideS (Γ:=(PTab.gamz tab0 [] [])) (Λ:=lamD2) (PTab.okz tab0 [] []) lamD2_ok 100 default (λg=>eB1_side g.1 g.2) (λg=>by kernel_rfl) (λg=>by kernel_rfl) h
noncomputable def rB1_q1(a:List Bool)(b:List Bool):Ex×
 qrB1_G:=
 loopF (λg=>qrB1_R g.fst g.snd.fst g.snd.snd.fst g.snd.snd.snd) qrB1_M (eBool.ag a,eBool.ag b,(0:Int),false)
noncomputable def rB1_F(a:List Bool)(b:List Bool):Dv.T dBool:=
 bif (↑a.length:Int)!=(↑b.length:Int)then false
 else bif exB Ex.ret (rB1_q1 a b).fst then(rB1_q1 a b).snd.snd.snd.snd else true
def rB1_side(a:List Bool)(b:List Bool):Prop:=
 ((↑a.length:Int)!=(↑b.length:Int))=false->eBool.okL a/\eBool.okL b/\Lp.ixJ (λc=>(↑c.fst.length:Int)) (λc=>c.fst) qrB1_K (qrB1_f (eBool.ag a,eBool.ag b,(0:Int),false))
theorem rB1_okS(pre:DA.T (.cons (.list eBool) (.one (.list eBool)))->List Prop)(h:∀g,DA.bd (.cons (.list eBool) (.one (.list eBool))) g->(∀p∈pre g,p)->rB1_side g.1 g.2):FnPure Tryd.prog 34 (.cons (.list eBool) (.one (.list eBool))) dBool (λg=>rB1_F g.1 g.2) pre:=pure_of_sideS (Γ:=(PTab.gamz tab0 [] [])) (Λ:=lamD2) (PTab.okz tab0 [] []) lamD2_ok 100 default (λg=>rB1_side g.1 g.2) (λg=>by kernel_rfl) (λg=>by kernel_rfl) h
noncomputable def eR1_q1(a:List Rec)(b:List Rec):Ex×
 qeR1_G:=
 loopF (λg=>qeR1_R g.fst g.snd.fst g.snd.snd.fst g.snd.snd.snd.fst g.snd.snd.snd.snd) qeR1_M (eR.ag a,eR.ag b,(↑a.length:Int),(0:Int),false)
noncomputable def eR1_F(a:List Rec)(b:List Rec):Dv.T dBool:=
 bif (↑a.length:Int)!=(↑b.length:Int)then false
 else bif exB Ex.ret (eR1_q1 a b).fst then(eR1_q1 a b).snd.snd.snd.snd.snd else true
def eR1_side(a:List Rec)(b:List Rec):Prop:=
 ((↑a.length:Int)!=(↑b.length:Int))=false->eR.okL a/\eR.okL b/\Lp.ixJ (λc=>c.snd.snd) (λc=>c.fst) qeR1_K (qeR1_f (eR.ag a,eR.ag b,(↑a.length:Int),(0:Int),false))
theorem eR1_okS(pre:DA.T (.cons (.list eR) (.one (.list eR)))->List Prop)(h:∀g,DA.bd (.cons (.list eR) (.one (.list eR))) g->(∀p∈pre g,p)->eR1_side g.1 g.2):FnPure Tryd.prog 97 (.cons (.list eR) (.one (.list eR))) dBool (λg=>eR1_F g.1 g.2) pre:=pure_of_sideS (Γ:=(PTab.gamz tab0 [] [])) (Λ:=lamD2) (PTab.okz tab0 [] []) lamD2_ok 100 default (λg=>eR1_side g.1 g.2) (λg=>by kernel_rfl) (λg=>by kernel_rfl) h
noncomputable def rR1_q1(a:List Rec)(b:List Rec):Ex×
 qrR1_G:=
 loopF (λg=>qrR1_R g.fst g.snd.fst g.snd.snd.fst g.snd.snd.snd) qrR1_M (eR.ag a,eR.ag b,(0:Int),false)
noncomputable def rR1_F(a:List Rec)(b:List Rec):Dv.T dBool:=
 bif (↑a.length:Int)!=(↑b.length:Int)then false
 else bif exB Ex.ret (rR1_q1 a b).fst then(rR1_q1 a b).snd.snd.snd.snd else true
def rR1_side(a:List Rec)(b:List Rec):Prop:=
 ((↑a.length:Int)!=(↑b.length:Int))=false->eR.okL a/\eR.okL b/\Lp.ixJ (λc=>(↑c.fst.length:Int)) (λc=>c.fst) qrR1_K (qrR1_f (eR.ag a,eR.ag b,(0:Int),false))
theorem rR1_okS(pre:DA.T (.cons (.list eR) (.one (.list eR)))->List Prop)(h:∀g,DA.bd (.cons (.list eR) (.one (.list eR))) g->(∀p∈pre g,p)->rR1_side g.1 g.2):FnPure Tryd.prog 64 (.cons (.list eR) (.one (.list eR))) dBool (λg=>rR1_F g.1 g.2) pre:=pure_of_sideS (Γ:=(PTab.gamz tab0 [] [])) (Λ:=lamD2) (PTab.okz tab0 [] []) lamD2_ok 100 default (λg=>rR1_side g.1 g.2) (λg=>by kernel_rfl) (λg=>by kernel_rfl) h
noncomputable def eC1_q1(a:List Change)(b:List Change):Ex×
 qeC1_G:=
 loopF (λg=>qeC1_R g.fst g.snd.fst g.snd.snd.fst g.snd.snd.snd.fst g.snd.snd.snd.snd) qeC1_M (eC.ag a,eC.ag b,(↑a.length:Int),(0:Int),false)
noncomputable def eC1_F(a:List Change)(b:List Change):Dv.T dBool:=
 bif (↑a.length:Int)!=(↑b.length:Int)then false
 else bif exB Ex.ret (eC1_q1 a b).fst then(eC1_q1 a b).snd.snd.snd.snd.snd else true
def eC1_side(a:List Change)(b:List Change):Prop:=
 ((↑a.length:Int)!=(↑b.length:Int))=false->eC.okL a/\eC.okL b/\Lp.ixJ (λc=>c.snd.snd) (λc=>c.fst) qeC1_K (qeC1_f (eC.ag a,eC.ag b,(↑a.length:Int),(0:Int),false))
theorem eC1_okS(pre:DA.T (.cons (.list eC) (.one (.list eC)))->List Prop)(h:∀g,DA.bd (.cons (.list eC) (.one (.list eC))) g->(∀p∈pre g,p)->eC1_side g.1 g.2):FnPure Tryd.prog 98 (.cons (.list eC) (.one (.list eC))) dBool (λg=>eC1_F g.1 g.2) pre:=pure_of_sideS (Γ:=(PTab.gamz tab0 [] [])) (Λ:=lamD2) (PTab.okz tab0 [] []) lamD2_ok 100 default (λg=>eC1_side g.1 g.2) (λg=>by kernel_rfl) (λg=>by kernel_rfl) h
noncomputable def rC1_q1(a:List Change)(b:List Change):Ex×
 qrC1_G:=
 loopF (λg=>qrC1_R g.fst g.snd.fst g.snd.snd.fst g.snd.snd.snd) qrC1_M (eC.ag a,eC.ag b,(0:Int),false)
noncomputable def rC1_F(a:List Change)(b:List Change):Dv.T dBool:=
 bif (↑a.length:Int)!=(↑b.length:Int)then false
 else bif exB Ex.ret (rC1_q1 a b).fst then(rC1_q1 a b).snd.snd.snd.snd else true
def rC1_side(a:List Change)(b:List Change):Prop:=
 ((↑a.length:Int)!=(↑b.length:Int))=false->eC.okL a/\eC.okL b/\Lp.ixJ (λc=>(↑c.fst.length:Int)) (λc=>c.fst) qrC1_K (qrC1_f (eC.ag a,eC.ag b,(0:Int),false))
theorem rC1_okS(pre:DA.T (.cons (.list eC) (.one (.list eC)))->List Prop)(h:∀g,DA.bd (.cons (.list eC) (.one (.list eC))) g->(∀p∈pre g,p)->rC1_side g.1 g.2):FnPure Tryd.prog 65 (.cons (.list eC) (.one (.list eC))) dBool (λg=>rC1_F g.1 g.2) pre:=pure_of_sideS (Γ:=(PTab.gamz tab0 [] [])) (Λ:=lamD2) (PTab.okz tab0 [] []) lamD2_ok 100 default (λg=>rC1_side g.1 g.2) (λg=>by kernel_rfl) (λg=>by kernel_rfl) h
noncomputable def eN1_q1(a:List Ent)(b:List Ent):Ex×
 qeN1_G:=
 loopF (λg=>qeN1_R g.fst g.snd.fst g.snd.snd.fst g.snd.snd.snd.fst g.snd.snd.snd.snd) qeN1_M (eN.ag a,eN.ag b,(↑a.length:Int),(0:Int),false)
noncomputable def eN1_F(a:List Ent)(b:List Ent):Dv.T dBool:=
 bif (↑a.length:Int)!=(↑b.length:Int)then false
 else bif exB Ex.ret (eN1_q1 a b).fst then(eN1_q1 a b).snd.snd.snd.snd.snd else true
def eN1_side(a:List Ent)(b:List Ent):Prop:=
 ((↑a.length:Int)!=(↑b.length:Int))=false->eN.okL a/\eN.okL b/\Lp.ixJ (λc=>c.snd.snd) (λc=>c.fst) qeN1_K (qeN1_f (eN.ag a,eN.ag b,(↑a.length:Int),(0:Int),false))
theorem eN1_okS(pre:DA.T (.cons (.list eN) (.one (.list eN)))->List Prop)(h:∀g,DA.bd (.cons (.list eN) (.one (.list eN))) g->(∀p∈pre g,p)->eN1_side g.1 g.2):FnPure Tryd.prog 30 (.cons (.list eN) (.one (.list eN))) dBool (λg=>eN1_F g.1 g.2) pre:=pure_of_sideS (Γ:=(PTab.gamz tab0 [] [])) (Λ:=lamD2) (PTab.okz tab0 [] []) lamD2_ok 100 default (λg=>eN1_side g.1 g.2) (λg=>by kernel_rfl) (λg=>by kernel_rfl) h
noncomputable def rN1_q1(a:List Ent)(b:List Ent):Ex×
 qrN1_G:=
 loopF (λg=>qrN1_R g.fst g.snd.fst g.snd.snd.fst g.snd.snd.snd) qrN1_M (eN.ag a,eN.ag b,(0:Int),false)
noncomputable def rN1_F(a:List Ent)(b:List Ent):Dv.T dBool:=
 bif (↑a.length:Int)!=(↑b.length:Int)then false
 else bif exB Ex.ret (rN1_q1 a b).fst then(rN1_q1 a b).snd.snd.snd.snd else true
def rN1_side(a:List Ent)(b:List Ent):Prop:=
 ((↑a.length:Int)!=(↑b.length:Int))=false->eN.okL a/\eN.okL b/\Lp.ixJ (λc=>(↑c.fst.length:Int)) (λc=>c.fst) qrN1_K (qrN1_f (eN.ag a,eN.ag b,(0:Int),false))
theorem rN1_okS(pre:DA.T (.cons (.list eN) (.one (.list eN)))->List Prop)(h:∀g,DA.bd (.cons (.list eN) (.one (.list eN))) g->(∀p∈pre g,p)->rN1_side g.1 g.2):FnPure Tryd.prog 35 (.cons (.list eN) (.one (.list eN))) dBool (λg=>rN1_F g.1 g.2) pre:=pure_of_sideS (Γ:=(PTab.gamz tab0 [] [])) (Λ:=lamD2) (PTab.okz tab0 [] []) lamD2_ok 100 default (λg=>rN1_side g.1 g.2) (λg=>by kernel_rfl) (λg=>by kernel_rfl) h
noncomputable def eV1_q1(a:List Mv)(b:List Mv):Ex×
 qeV1_G:=
 loopF (λg=>qeV1_R g.fst g.snd.fst g.snd.snd.fst g.snd.snd.snd.fst g.snd.snd.snd.snd) qeV1_M (eV.ag a,eV.ag b,(↑a.length:Int),(0:Int),false)
noncomputable def eV1_F(a:List Mv)(b:List Mv):Dv.T dBool:=
 bif (↑a.length:Int)!=(↑b.length:Int)then false
 else bif exB Ex.ret (eV1_q1 a b).fst then(eV1_q1 a b).snd.snd.snd.snd.snd else true
def eV1_side(a:List Mv)(b:List Mv):Prop:=
 ((↑a.length:Int)!=(↑b.length:Int))=false->eV.okL a/\eV.okL b/\Lp.ixJ (λc=>c.snd.snd) (λc=>c.fst) qeV1_K (qeV1_f (eV.ag a,eV.ag b,(↑a.length:Int),(0:Int),false))
theorem eV1_okS(pre:DA.T (.cons (.list eV) (.one (.list eV)))->List Prop)(h:∀g,DA.bd (.cons (.list eV) (.one (.list eV))) g->(∀p∈pre g,p)->eV1_side g.1 g.2):FnPure Tryd.prog 109 (.cons (.list eV) (.one (.list eV))) dBool (λg=>eV1_F g.1 g.2) pre:=pure_of_sideS (Γ:=(PTab.gamz tab0 [] [])) (Λ:=lamD2) (PTab.okz tab0 [] []) lamD2_ok 100 default (λg=>eV1_side g.1 g.2) (λg=>by kernel_rfl) (λg=>by kernel_rfl) h
end Go.Proofs.YtfkdbifgppfegaaDoor

namespace Go.Proofs.YtfkdbifgppfegaaDoor
open Go.RowKit Go.Sx Go.Lp
theorem eI1_ok:FnPure Tryd.prog 21 (.cons (.list eI) (.one (.list eI))) dBool (λg=>decide (g.1=g.2)) (λ_=>[]):=by
 refine pure_congr (eI1_okS (λ_=>[]) λg hb _=>?_) λg hb _=>?_
 all_goals (obtain⟨a,b⟩:=g;have ha:a.length<=maxLen:=hb.1.1)
 .show eI1_side a b;unfold eI1_side;simp only[El.okL_eq,El.ag_eq];exactλhc=>⟨trivial,trivial,ixJ0 rfl ha (ne_len hc)⟩
 show eI1_F a b=decide (a=b)
 have hq:eI1_q1 a b=loopF qeI1_RR qeI1_M (qeI1_g (0,(a,b,(a.length:Int)),false)):=by
  unfold eI1_q1;rw[El.ag_eq,El.ag_eq];rfl
 unfold eI1_F;cases hc:((a.length:Int)!=(b.length:Int))with
 |true=>
  have:a≠b:=λe=>by subst e;simp at hc
  simp[this]
 |false=>
  have hl:=ne_len hc;obtain⟨h3,h4⟩:=scanEq (x:=0) eI.dflt a b hl (st:=qeI1_S (a,b,(a.length:Int))) (r:=λ_=>false) (λ_ _ _=>rfl) false;rw[hq,qeI1_run (a,b,(a.length:Int)) false rfl ha hl];show(bif exB .ret (scan 0 (qeI1_S (a,b,(a.length:Int))) 0 a false).1 then(scan 0 (qeI1_S (a,b,(a.length:Int))) 0 a false).2.2 else true)=_;rw[h3,h4];cases decide (a=b)<;>rfl
theorem rI1_ok:FnPure Tryd.prog 62 (.cons (.list eI) (.one (.list eI))) dBool (λg=>decide (g.1=g.2)) (λ_=>[]):=by
 refine pure_congr (rI1_okS (λ_=>[]) λg hb _=>?_) λg hb _=>?_
 all_goals (obtain⟨a,b⟩:=g;have ha:a.length<=maxLen:=hb.1.1)
 .show rI1_side a b;unfold rI1_side;simp only[El.okL_eq,El.ag_eq];exactλhc=>⟨trivial,trivial,ixJ0 rfl ha (ne_len hc)⟩
 show rI1_F a b=decide (a=b)
 have hq:rI1_q1 a b=loopF qrI1_RR qrI1_M (qrI1_g (0,(a,b),false)):=by
  unfold rI1_q1;rw[El.ag_eq,El.ag_eq];rfl
 unfold rI1_F;cases hc:((a.length:Int)!=(b.length:Int))with
 |true=>
  have:a≠b:=λe=>by subst e;simp at hc
  simp[this]
 |false=>
  have hl:=ne_len hc;obtain⟨h3,h4⟩:=scanEq (x:=0) eI.dflt a b hl (st:=qrI1_S (a,b)) (r:=λ_=>false) (λ_ _ _=>rfl) false;rw[hq,qrI1_run (a,b) false rfl ha hl];show(bif exB .ret (scan 0 (qrI1_S (a,b)) 0 a false).1 then(scan 0 (qrI1_S (a,b)) 0 a false).2.2 else true)=_;rw[h3,h4];cases decide (a=b)<;>rfl
theorem eB1_ok:FnPure Tryd.prog 53 (.cons (.list eBool) (.one (.list eBool))) dBool (λg=>decide (g.1=g.2)) (λ_=>[]):=by
 refine pure_congr (eB1_okS (λ_=>[]) λg hb _=>?_) λg hb _=>?_
 all_goals (obtain⟨a,b⟩:=g;have ha:a.length<=maxLen:=hb.1.1)
 .show eB1_side a b;unfold eB1_side;simp only[El.okL_eq,El.ag_eq];exactλhc=>⟨trivial,trivial,ixJ0 rfl ha (ne_len hc)⟩
 show eB1_F a b=decide (a=b)
 have hq:eB1_q1 a b=loopF qeB1_RR qeB1_M (qeB1_g (0,(a,b,(a.length:Int)),false)):=by
  unfold eB1_q1;rw[El.ag_eq,El.ag_eq];rfl
 unfold eB1_F;cases hc:((a.length:Int)!=(b.length:Int))with
 |true=>
  have:a≠b:=λe=>by subst e;simp at hc
  simp[this]
 |false=>
  have hl:=ne_len hc;obtain⟨h3,h4⟩:=scanEq (x:=0) eBool.dflt a b hl (st:=qeB1_S (a,b,(a.length:Int))) (r:=λ_=>false) (λ_ _ _=>rfl) false;rw[hq,qeB1_run (a,b,(a.length:Int)) false rfl ha hl];show(bif exB .ret (scan 0 (qeB1_S (a,b,(a.length:Int))) 0 a false).1 then(scan 0 (qeB1_S (a,b,(a.length:Int))) 0 a false).2.2 else true)=_;rw[h3,h4];cases decide (a=b)<;>rfl
theorem rB1_ok:FnPure Tryd.prog 34 (.cons (.list eBool) (.one (.list eBool))) dBool (λg=>decide (g.1=g.2)) (λ_=>[]):=by
 refine pure_congr (rB1_okS (λ_=>[]) λg hb _=>?_) λg hb _=>?_
 all_goals (obtain⟨a,b⟩:=g;have ha:a.length<=maxLen:=hb.1.1)
 .show rB1_side a b;unfold rB1_side;simp only[El.okL_eq,El.ag_eq];exactλhc=>⟨trivial,trivial,ixJ0 rfl ha (ne_len hc)⟩
 show rB1_F a b=decide (a=b)
 have hq:rB1_q1 a b=loopF qrB1_RR qrB1_M (qrB1_g (0,(a,b),false)):=by
  unfold rB1_q1;rw[El.ag_eq,El.ag_eq];rfl
 unfold rB1_F;cases hc:((a.length:Int)!=(b.length:Int))with
 |true=>
  have:a≠b:=λe=>by subst e;simp at hc
  simp[this]
 |false=>
  have hl:=ne_len hc;obtain⟨h3,h4⟩:=scanEq (x:=0) eBool.dflt a b hl (st:=qrB1_S (a,b)) (r:=λ_=>false) (λ_ _ _=>rfl) false;rw[hq,qrB1_run (a,b) false rfl ha hl];show(bif exB .ret (scan 0 (qrB1_S (a,b)) 0 a false).1 then(scan 0 (qrB1_S (a,b)) 0 a false).2.2 else true)=_;rw[h3,h4];cases decide (a=b)<;>rfl
theorem eR1_ok:FnPure Tryd.prog 97 (.cons (.list eR) (.one (.list eR))) dBool (λg=>decide (g.1=g.2)) (λ_=>[]):=by
 refine pure_congr (eR1_okS (λ_=>[]) λg hb _=>?_) λg hb _=>?_
 all_goals (obtain⟨a,b⟩:=g;have ha:a.length<=maxLen:=hb.1.1)
 .show eR1_side a b;unfold eR1_side;simp only[El.okL_eq,El.ag_eq];exactλhc=>⟨trivial,trivial,ixJ0 rfl ha (ne_len hc)⟩
 show eR1_F a b=decide (a=b)
 have hq:eR1_q1 a b=loopF qeR1_RR qeR1_M (qeR1_g (0,(a,b,(a.length:Int)),false)):=by
  unfold eR1_q1;rw[El.ag_eq,El.ag_eq];rfl
 unfold eR1_F;cases hc:((a.length:Int)!=(b.length:Int))with
 |true=>
  have:a≠b:=λe=>by subst e;simp at hc
  simp[this]
 |false=>
  have hl:=ne_len hc;obtain⟨h3,h4⟩:=scanEq (x:=0) eR.dflt a b hl (st:=qeR1_S (a,b,(a.length:Int))) (r:=λ_=>false) (λ_ _ _=>rfl) false;rw[hq,qeR1_run (a,b,(a.length:Int)) false rfl ha hl];show(bif exB .ret (scan 0 (qeR1_S (a,b,(a.length:Int))) 0 a false).1 then(scan 0 (qeR1_S (a,b,(a.length:Int))) 0 a false).2.2 else true)=_;rw[h3,h4];cases decide (a=b)<;>rfl
theorem rR1_ok:FnPure Tryd.prog 64 (.cons (.list eR) (.one (.list eR))) dBool (λg=>decide (g.1=g.2)) (λ_=>[]):=by
 refine pure_congr (rR1_okS (λ_=>[]) λg hb _=>?_) λg hb _=>?_
 all_goals (obtain⟨a,b⟩:=g;have ha:a.length<=maxLen:=hb.1.1)
 .show rR1_side a b;unfold rR1_side;simp only[El.okL_eq,El.ag_eq];exactλhc=>⟨trivial,trivial,ixJ0 rfl ha (ne_len hc)⟩
 show rR1_F a b=decide (a=b)
 have hq:rR1_q1 a b=loopF qrR1_RR qrR1_M (qrR1_g (0,(a,b),false)):=by
  unfold rR1_q1;rw[El.ag_eq,El.ag_eq];rfl
 unfold rR1_F;cases hc:((a.length:Int)!=(b.length:Int))with
 |true=>
  have:a≠b:=λe=>by subst e;simp at hc
  simp[this]
 |false=>
  have hl:=ne_len hc;obtain⟨h3,h4⟩:=scanEq (x:=0) eR.dflt a b hl (st:=qrR1_S (a,b)) (r:=λ_=>false) (λ_ _ _=>rfl) false;rw[hq,qrR1_run (a,b) false rfl ha hl];show(bif exB .ret (scan 0 (qrR1_S (a,b)) 0 a false).1 then(scan 0 (qrR1_S (a,b)) 0 a false).2.2 else true)=_;rw[h3,h4];cases decide (a=b)<;>rfl
theorem eC1_ok:FnPure Tryd.prog 98 (.cons (.list eC) (.one (.list eC))) dBool (λg=>decide (g.1=g.2)) (λ_=>[]):=by
 refine pure_congr (eC1_okS (λ_=>[]) λg hb _=>?_) λg hb _=>?_
 all_goals (obtain⟨a,b⟩:=g;have ha:a.length<=maxLen:=hb.1.1)
 .show eC1_side a b;unfold eC1_side;simp only[El.okL_eq,El.ag_eq];exactλhc=>⟨trivial,trivial,ixJ0 rfl ha (ne_len hc)⟩
 show eC1_F a b=decide (a=b)
 have hq:eC1_q1 a b=loopF qeC1_RR qeC1_M (qeC1_g (0,(a,b,(a.length:Int)),false)):=by
  unfold eC1_q1;rw[El.ag_eq,El.ag_eq];rfl
 unfold eC1_F;cases hc:((a.length:Int)!=(b.length:Int))with
 |true=>
  have:a≠b:=λe=>by subst e;simp at hc
  simp[this]
 |false=>
  have hl:=ne_len hc;obtain⟨h3,h4⟩:=scanEq (x:=0) eC.dflt a b hl (st:=qeC1_S (a,b,(a.length:Int))) (r:=λ_=>false) (λ_ _ _=>rfl) false;rw[hq,qeC1_run (a,b,(a.length:Int)) false rfl ha hl];show(bif exB .ret (scan 0 (qeC1_S (a,b,(a.length:Int))) 0 a false).1 then(scan 0 (qeC1_S (a,b,(a.length:Int))) 0 a false).2.2 else true)=_;rw[h3,h4];cases decide (a=b)<;>rfl
theorem rC1_ok:FnPure Tryd.prog 65 (.cons (.list eC) (.one (.list eC))) dBool (λg=>decide (g.1=g.2)) (λ_=>[]):=by
 refine pure_congr (rC1_okS (λ_=>[]) λg hb _=>?_) λg hb _=>?_
 all_goals (obtain⟨a,b⟩:=g;have ha:a.length<=maxLen:=hb.1.1)
 .show rC1_side a b;unfold rC1_side;simp only[El.okL_eq,El.ag_eq];exactλhc=>⟨trivial,trivial,ixJ0 rfl ha (ne_len hc)⟩
 show rC1_F a b=decide (a=b)
 have hq:rC1_q1 a b=loopF qrC1_RR qrC1_M (qrC1_g (0,(a,b),false)):=by
  unfold rC1_q1;rw[El.ag_eq,El.ag_eq];rfl
 unfold rC1_F;cases hc:((a.length:Int)!=(b.length:Int))with
 |true=>
  have:a≠b:=λe=>by subst e;simp at hc
  simp[this]
 |false=>
  have hl:=ne_len hc;obtain⟨h3,h4⟩:=scanEq (x:=0) eC.dflt a b hl (st:=qrC1_S (a,b)) (r:=λ_=>false) (λ_ _ _=>rfl) false;rw[hq,qrC1_run (a,b) false rfl ha hl];show(bif exB .ret (scan 0 (qrC1_S (a,b)) 0 a false).1 then(scan 0 (qrC1_S (a,b)) 0 a false).2.2 else true)=_;rw[h3,h4];cases decide (a=b)<;>rfl
theorem eN1_ok:FnPure Tryd.prog 30 (.cons (.list eN) (.one (.list eN))) dBool (λg=>decide (g.1=g.2)) (λ_=>[]):=by
 refine pure_congr (eN1_okS (λ_=>[]) λg hb _=>?_) λg hb _=>?_
 all_goals (obtain⟨a,b⟩:=g;have ha:a.length<=maxLen:=hb.1.1)
 .show eN1_side a b;unfold eN1_side;simp only[El.okL_eq,El.ag_eq];exactλhc=>⟨trivial,trivial,ixJ0 rfl ha (ne_len hc)⟩
 show eN1_F a b=decide (a=b)
 have hq:eN1_q1 a b=loopF qeN1_RR qeN1_M (qeN1_g (0,(a,b,(a.length:Int)),false)):=by
  unfold eN1_q1;rw[El.ag_eq,El.ag_eq];rfl
 unfold eN1_F;cases hc:((a.length:Int)!=(b.length:Int))with
 |true=>
  have:a≠b:=λe=>by subst e;simp at hc
  simp[this]
 |false=>
  have hl:=ne_len hc;obtain⟨h3,h4⟩:=scanEq (x:=0) eN.dflt a b hl (st:=qeN1_S (a,b,(a.length:Int))) (r:=λ_=>false) (λ_ _ _=>rfl) false;rw[hq,qeN1_run (a,b,(a.length:Int)) false rfl ha hl];show(bif exB .ret (scan 0 (qeN1_S (a,b,(a.length:Int))) 0 a false).1 then(scan 0 (qeN1_S (a,b,(a.length:Int))) 0 a false).2.2 else true)=_;rw[h3,h4];cases decide (a=b)<;>rfl
theorem rN1_ok:FnPure Tryd.prog 35 (.cons (.list eN) (.one (.list eN))) dBool (λg=>decide (g.1=g.2)) (λ_=>[]):=by
 refine pure_congr (rN1_okS (λ_=>[]) λg hb _=>?_) λg hb _=>?_
 all_goals (obtain⟨a,b⟩:=g;have ha:a.length<=maxLen:=hb.1.1)
 .show rN1_side a b;unfold rN1_side;simp only[El.okL_eq,El.ag_eq];exactλhc=>⟨trivial,trivial,ixJ0 rfl ha (ne_len hc)⟩
 show rN1_F a b=decide (a=b)
 have hq:rN1_q1 a b=loopF qrN1_RR qrN1_M (qrN1_g (0,(a,b),false)):=by
  unfold rN1_q1;rw[El.ag_eq,El.ag_eq];rfl
 unfold rN1_F;cases hc:((a.length:Int)!=(b.length:Int))with
 |true=>
  have:a≠b:=λe=>by subst e;simp at hc
  simp[this]
 |false=>
  have hl:=ne_len hc;obtain⟨h3,h4⟩:=scanEq (x:=0) eN.dflt a b hl (st:=qrN1_S (a,b)) (r:=λ_=>false) (λ_ _ _=>rfl) false;rw[hq,qrN1_run (a,b) false rfl ha hl];show(bif exB .ret (scan 0 (qrN1_S (a,b)) 0 a false).1 then(scan 0 (qrN1_S (a,b)) 0 a false).2.2 else true)=_;rw[h3,h4];cases decide (a=b)<;>rfl
theorem eV1_ok:FnPure Tryd.prog 109 (.cons (.list eV) (.one (.list eV))) dBool (λg=>decide (g.1=g.2)) (λ_=>[]):=by
 refine pure_congr (eV1_okS (λ_=>[]) λg hb _=>?_) λg hb _=>?_
 all_goals (obtain⟨a,b⟩:=g;have ha:a.length<=maxLen:=hb.1.1)
 .show eV1_side a b;unfold eV1_side;simp only[El.okL_eq,El.ag_eq];exactλhc=>⟨trivial,trivial,ixJ0 rfl ha (ne_len hc)⟩
 show eV1_F a b=decide (a=b)
 have hq:eV1_q1 a b=loopF qeV1_RR qeV1_M (qeV1_g (0,(a,b,(a.length:Int)),false)):=by
  unfold eV1_q1;rw[El.ag_eq,El.ag_eq];rfl
 unfold eV1_F;cases hc:((a.length:Int)!=(b.length:Int))with
 |true=>
  have:a≠b:=λe=>by subst e;simp at hc
  simp[this]
 |false=>
  have hl:=ne_len hc;obtain⟨h3,h4⟩:=scanEq (x:=0) eV.dflt a b hl (st:=qeV1_S (a,b,(a.length:Int))) (r:=λ_=>false) (λ_ _ _=>rfl) false;rw[hq,qeV1_run (a,b,(a.length:Int)) false rfl ha hl];show(bif exB .ret (scan 0 (qeV1_S (a,b,(a.length:Int))) 0 a false).1 then(scan 0 (qeV1_S (a,b,(a.length:Int))) 0 a false).2.2 else true)=_;rw[h3,h4];cases decide (a=b)<;>rfl
noncomputable def tabD4:PTab Tryd.prog:=(((((((((((tab0.cons 21 (pconP (.cons (.list eI) (.one (.list eI))) dBool (λg=>decide (g.1=g.2)) (λ_=>[])) (conP_ok eI1_ok puB)).cons 62 (pconP (.cons (.list eI) (.one (.list eI))) dBool (λg=>decide (g.1=g.2)) (λ_=>[])) (conP_ok rI1_ok puB)).cons 53 (pconP (.cons (.list eBool) (.one (.list eBool))) dBool (λg=>decide (g.1=g.2)) (λ_=>[])) (conP_ok eB1_ok puB)).cons 34 (pconP (.cons (.list eBool) (.one (.list eBool))) dBool (λg=>decide (g.1=g.2)) (λ_=>[])) (conP_ok rB1_ok puB)).cons 97 (pconP (.cons (.list eR) (.one (.list eR))) dBool (λg=>decide (g.1=g.2)) (λ_=>[])) (conP_ok eR1_ok puB)).cons 64 (pconP (.cons (.list eR) (.one (.list eR))) dBool (λg=>decide (g.1=g.2)) (λ_=>[])) (conP_ok rR1_ok puB)).cons 98 (pconP (.cons (.list eC) (.one (.list eC))) dBool (λg=>decide (g.1=g.2)) (λ_=>[])) (conP_ok eC1_ok puB)).cons 65 (pconP (.cons (.list eC) (.one (.list eC))) dBool (λg=>decide (g.1=g.2)) (λ_=>[])) (conP_ok rC1_ok puB)).cons 30 (pconP (.cons (.list eN) (.one (.list eN))) dBool (λg=>decide (g.1=g.2)) (λ_=>[])) (conP_ok eN1_ok puB)).cons 35 (pconP (.cons (.list eN) (.one (.list eN))) dBool (λg=>decide (g.1=g.2)) (λ_=>[])) (conP_ok rN1_ok puB)).cons 109 (pconP (.cons (.list eV) (.one (.list eV))) dBool (λg=>decide (g.1=g.2)) (λ_=>[])) (conP_ok eV1_ok puB))
end Go.Proofs.YtfkdbifgppfegaaDoor

namespace Go.Proofs.YtfkdbifgppfegaaDoor
open Go.RowKit Go.Sx
set_option maxRecDepth 100000
noncomputable def snd_F(a:Nd)(b:Nd):Dv.T dBool:=
 a.id==b.id&&(a.kind==b.kind&&(conj ([a.fn.kind==b.fn.kind]++([a.fn.a==b.fn.a]++([decide (a.fn.s=b.fn.s)]++[])))&&(decide (a.name=b.name)&&(a.cap==b.cap&&(a.d==b.d&&decide (eI.ag a.ins=eI.ag b.ins))))))
def snd_side(a:Nd)(b:Nd):Prop:=
 ((a.id==b.id)=true->(a.kind==b.kind)=true->conj ([a.fn.kind==b.fn.kind]++([a.fn.a==b.fn.a]++([decide (a.fn.s=b.fn.s)]++[])))=true->decide (a.name=b.name)=true->(a.cap==b.cap)=true->(a.d==b.d)=true->eI.okL a.ins)/\((a.id==b.id)=true->(a.kind==b.kind)=true->conj ([a.fn.kind==b.fn.kind]++([a.fn.a==b.fn.a]++([decide (a.fn.s=b.fn.s)]++[])))=true->decide (a.name=b.name)=true->(a.cap==b.cap)=true->(a.d==b.d)=true->eI.okL b.ins)
theorem snd_okS(pre:DA.T aDD->List Prop)(h:∀g,DA.bd aDD g->(∀p∈pre g,p)->snd_side g.1 g.2):FnPure Tryd.prog 111 aDD dBool (λg=>snd_F g.1 g.2) pre:=pure_of_sideS (Γ:=(PTab.gamz tabD4 [] [])) (Λ:=noΛ) (PTab.okz tabD4 [] []) noΛ_ok 100 default (λg=>snd_side g.1 g.2) (λg=>by kernel_rfl) (λg=>by kernel_rfl) h
end Go.Proofs.YtfkdbifgppfegaaDoor

namespace Go.Proofs.YtfkdbifgppfegaaDoor
open Go.RowKit Go.Sx
theorem snd_ok:FnPure Tryd.prog 111 aDD dBool (λg=>decide (g.1=g.2)) (λ_=>[]):=by
 refine pure_congr (snd_okS (λ_=>[]) λg hb _=>?_) λg hb _=>?_
 .obtain⟨a,b⟩:=g;show snd_side a b;unfold snd_side;simp only[El.okL_eq];exact⟨λ_ _ _ _ _ _=>trivial,λ_ _ _ _ _ _=>trivial⟩
 .obtain⟨⟨a1,a2,a3,a4,a5,a6,a7⟩,⟨b1,b2,b3,b4,b5,b6,b7⟩⟩:=g;show snd_F _ _=_;unfold snd_F;simp only[conj_eF,El.ag_eq];rw[Bool.eq_iff_iff];simp only[Bool.and_eq_true,beq_iff_eq,decide_eq_true_eq,Nd.mk.injEq];exact⟨λ⟨h1,h2,h3,h4,h5,h6,h7⟩=>⟨h1,h2,h7,h3,h4,h5,h6⟩,λ⟨h1,h2,h7,h3,h4,h5,h6⟩=>⟨h1,h2,h3,h4,h5,h6,h7⟩⟩
noncomputable def tabE0k:PTab Tryd.prog:=tabD4.cons 111 (pconP aDD dBool (λg=>decide (g.1=g.2)) (λ_=>[])) (conP_ok snd_ok puB)
end Go.Proofs.YtfkdbifgppfegaaDoor

namespace Go.Proofs.YtfkdbifgppfegaaDoor
open Go.RowKit Go.Sx
set_option maxRecDepth 100000
abbrev gin_G:Type:=Unit×Nd×Unit×Nd×Int×Bool
noncomputable def gin_LP:LP 4 gin_G:=.pair (.fix 4 6 (.p 2 0)) (.pair (.obj 4 2 109 eD) (.pair (.fix 4 7 (.p 3 0)) (.pair (.obj 4 3 109 eD) (.pair (.slot 4 8 dI) (.slot 4 4 dBool)))))
noncomputable def gin_R(_u:Unit)(x:Nd)(_u2:Unit)(y:Nd)(i:Int)(r:Bool):Ex×gin_G:=
 bif decide (i<(↑x.ins.length:Int))then bif x.ins.getD i.toNat eI.dflt !=y.ins.getD i.toNat eI.dflt then(Ex.ret,(),Nd.mk x.id x.kind (eI.ag x.ins) x.fn x.name x.cap x.d,(),Nd.mk y.id y.kind (eI.ag y.ins) y.fn y.name y.cap y.d,i,false)else(Ex.normal,(),Nd.mk x.id x.kind (eI.ag x.ins) x.fn x.name x.cap x.d,(),Nd.mk y.id y.kind (eI.ag y.ins) y.fn y.name y.cap y.d,IntKind.i64.wrap (i+(1:Int)),r)
 else(Ex.exit (2:Nat),(),Nd.mk x.id x.kind (eI.ag x.ins) x.fn x.name x.cap x.d,(),Nd.mk y.id y.kind (eI.ag y.ins) y.fn y.name y.cap y.d,i,r)
def gin_side(_u:Unit)(x:Nd)(_u2:Unit)(y:Nd)(i:Int)(r:Bool):Prop:=
 (decide (i<(↑x.ins.length:Int))=true->((0:Int)<=i/\i<(↑x.ins.length:Int))/\((0:Int)<=i/\i<(↑y.ins.length:Int))/\((x.ins.getD i.toNat eI.dflt !=y.ins.getD i.toNat eI.dflt)=true->eI.okL x.ins/\eI.okL y.ins)/\((x.ins.getD i.toNat eI.dflt !=y.ins.getD i.toNat eI.dflt)=false->eI.okL x.ins/\eI.okL y.ins))/\(decide (i<(↑x.ins.length:Int))=false->eI.okL x.ins/\eI.okL y.ins)
theorem gin_one:((loopsOf Tryd.prog 63).filter λc=>Nat.beq (lkey c) 10).length=1:=by kernel_rfl
abbrev gin_GC:Type:=Nd×Nd
abbrev gin_GB:Type:=Bool×Unit×Unit
def gin_f(g:gin_G):Int×gin_GC×gin_GB:=(g.2.2.2.2.1,(g.2.1,g.2.2.2.1),(g.2.2.2.2.2,g.1,g.2.2.1))
def gin_g(d:Int×gin_GC×gin_GB):gin_G:=(d.2.2.2.1,d.2.1.1,d.2.2.2.2,d.2.1.2,d.1,d.2.2.1)
theorem gin_es(g:gin_G):(gin_R g.1 g.2.1 g.2.2.1 g.2.2.2.1 g.2.2.2.2.1 g.2.2.2.2.2).1=.normal\/(gin_R g.1 g.2.1 g.2.2.1 g.2.2.2.1 g.2.2.2.2.1 g.2.2.2.2.2).1∈([.ret,.exit 2]:List Ex):=by
 unfold gin_R
 repeat' (first|(left;rfl)|(right;simp only[cond_true,cond_false];simp;done)|(rw[Bool.cond_eq_ite];split))
noncomputable abbrev gin_C(Inv:gin_G->List Prop)(m:gin_G->Nat):LCon:=loopR [.ret,.exit 2] (loopBody Tryd.prog 63 10) gin_LP [] 100 Inv (λg=>gin_R g.1 g.2.1 g.2.2.1 g.2.2.2.1 g.2.2.2.2.1 g.2.2.2.2.2) m
theorem gin_loop(Inv:gin_G->List Prop)(m:gin_G->Nat)(hs:∀g,allP (Inv g)->gin_side g.1 g.2.1 g.2.2.1 g.2.2.2.1 g.2.2.2.2.1 g.2.2.2.2.2)(hg:Goes (λg:gin_G=>gin_R g.1 g.2.1 g.2.2.1 g.2.2.2.1 g.2.2.2.2.1 g.2.2.2.2.2) m λg=>allP (Inv g)):∀b∈loopsOf Tryd.prog 63,lkey b=10->LoopOk Tryd.prog b (gin_C Inv m).g:=loop_run (Γ:=(PTab.gamz tabE0k [] [])) (Λ:=noΛ) (PTab.okz tabE0k [] []) noΛ_ok 100 63 10 100 gin_LP [] Inv (λg=>gin_R g.1 g.2.1 g.2.2.1 g.2.2.2.1 g.2.2.2.2.1 g.2.2.2.2.2) (λg=>gin_side g.1 g.2.1 g.2.2.1 g.2.2.2.1 g.2.2.2.2.1 g.2.2.2.2.2) m default [.ret,.exit 2] gin_one (λrd T B HL HB ds g=>by kernel_rfl) (λrd T B HL HB ds g=>by kernel_rfl) hs hg gin_es
abbrev gio_G:Type:=Unit×Nd×Unit×Nd×Int×Bool
noncomputable def gio_LP:LP 4 gio_G:=.pair (.fix 4 6 (.p 3 0)) (.pair (.obj 4 3 109 eD) (.pair (.fix 4 7 (.p 2 0)) (.pair (.obj 4 2 109 eD) (.pair (.slot 4 8 dI) (.slot 4 4 dBool)))))
noncomputable def gio_R(_u:Unit)(x:Nd)(_u2:Unit)(y:Nd)(i:Int)(r:Bool):Ex×gio_G:=
 bif decide (i<(↑x.ins.length:Int))then bif x.ins.getD i.toNat eI.dflt !=y.ins.getD i.toNat eI.dflt then(Ex.ret,(),Nd.mk x.id x.kind (eI.ag x.ins) x.fn x.name x.cap x.d,(),Nd.mk y.id y.kind (eI.ag y.ins) y.fn y.name y.cap y.d,i,false)else(Ex.normal,(),Nd.mk x.id x.kind (eI.ag x.ins) x.fn x.name x.cap x.d,(),Nd.mk y.id y.kind (eI.ag y.ins) y.fn y.name y.cap y.d,IntKind.i64.wrap (i+(1:Int)),r)
 else(Ex.exit (2:Nat),(),Nd.mk x.id x.kind (eI.ag x.ins) x.fn x.name x.cap x.d,(),Nd.mk y.id y.kind (eI.ag y.ins) y.fn y.name y.cap y.d,i,r)
def gio_side(_u:Unit)(x:Nd)(_u2:Unit)(y:Nd)(i:Int)(r:Bool):Prop:=
 (decide (i<(↑x.ins.length:Int))=true->((0:Int)<=i/\i<(↑x.ins.length:Int))/\((0:Int)<=i/\i<(↑y.ins.length:Int))/\((x.ins.getD i.toNat eI.dflt !=y.ins.getD i.toNat eI.dflt)=true->eI.okL x.ins/\eI.okL y.ins)/\((x.ins.getD i.toNat eI.dflt !=y.ins.getD i.toNat eI.dflt)=false->eI.okL x.ins/\eI.okL y.ins))/\(decide (i<(↑x.ins.length:Int))=false->eI.okL x.ins/\eI.okL y.ins)
theorem gio_one:((loopsOf Tryd.prog 63).filter λc=>Nat.beq (lkey c) 10).length=1:=by kernel_rfl
abbrev gio_GC:Type:=Nd×Nd
abbrev gio_GB:Type:=Bool×Unit×Unit
def gio_f(g:gio_G):Int×gio_GC×gio_GB:=(g.2.2.2.2.1,(g.2.1,g.2.2.2.1),(g.2.2.2.2.2,g.1,g.2.2.1))
def gio_g(d:Int×gio_GC×gio_GB):gio_G:=(d.2.2.2.1,d.2.1.1,d.2.2.2.2,d.2.1.2,d.1,d.2.2.1)
theorem gio_es(g:gio_G):(gio_R g.1 g.2.1 g.2.2.1 g.2.2.2.1 g.2.2.2.2.1 g.2.2.2.2.2).1=.normal\/(gio_R g.1 g.2.1 g.2.2.1 g.2.2.2.1 g.2.2.2.2.1 g.2.2.2.2.2).1∈([.ret,.exit 2]:List Ex):=by
 unfold gio_R
 repeat' (first|(left;rfl)|(right;simp only[cond_true,cond_false];simp;done)|(rw[Bool.cond_eq_ite];split))
noncomputable abbrev gio_C(Inv:gio_G->List Prop)(m:gio_G->Nat):LCon:=loopR [.ret,.exit 2] (loopBody Tryd.prog 63 10) gio_LP [] 100 Inv (λg=>gio_R g.1 g.2.1 g.2.2.1 g.2.2.2.1 g.2.2.2.2.1 g.2.2.2.2.2) m
theorem gio_loop(Inv:gio_G->List Prop)(m:gio_G->Nat)(hs:∀g,allP (Inv g)->gio_side g.1 g.2.1 g.2.2.1 g.2.2.2.1 g.2.2.2.2.1 g.2.2.2.2.2)(hg:Goes (λg:gio_G=>gio_R g.1 g.2.1 g.2.2.1 g.2.2.2.1 g.2.2.2.2.1 g.2.2.2.2.2) m λg=>allP (Inv g)):∀b∈loopsOf Tryd.prog 63,lkey b=10->LoopOk Tryd.prog b (gio_C Inv m).g:=loop_run (Γ:=(PTab.gamz tabE0k [] [])) (Λ:=noΛ) (PTab.okz tabE0k [] []) noΛ_ok 100 63 10 100 gio_LP [] Inv (λg=>gio_R g.1 g.2.1 g.2.2.1 g.2.2.2.1 g.2.2.2.2.1 g.2.2.2.2.2) (λg=>gio_side g.1 g.2.1 g.2.2.1 g.2.2.2.1 g.2.2.2.2.1 g.2.2.2.2.2) m default [.ret,.exit 2] gio_one (λrd T B HL HB ds g=>by kernel_rfl) (λrd T B HL HB ds g=>by kernel_rfl) hs hg gio_es
abbrev mvl_G:Type:=Unit×Dl×Unit×Dl×Int×Bool
noncomputable def mvl_LP:LP 2 mvl_G:=.pair (.fix 2 2 (.p 0 0)) (.pair (.obj 2 0 26 eDl) (.pair (.fix 2 3 (.p 1 0)) (.pair (.obj 2 1 26 eDl) (.pair (.slot 2 5 dI) (.slot 2 4 dBool)))))
noncomputable def mvl_R(_u:Unit)(x:Dl)(_u2:Unit)(y:Dl)(i:Int)(r:Bool):Ex×mvl_G:=
 bif decide (i<(↑x.moves.length:Int))then bif !conj ([(x.moves.getD i.toNat eV.dflt).fr==(y.moves.getD i.toNat eV.dflt).fr]++([(x.moves.getD i.toNat eV.dflt).to==(y.moves.getD i.toNat eV.dflt).to]++([(x.moves.getD i.toNat eV.dflt).kind==(y.moves.getD i.toNat eV.dflt).kind]++([(x.moves.getD i.toNat eV.dflt).a==(y.moves.getD i.toNat eV.dflt).a]++([(x.moves.getD i.toNat eV.dflt).fn.kind==(y.moves.getD i.toNat eV.dflt).fn.kind]++([(x.moves.getD i.toNat eV.dflt).fn.a==(y.moves.getD i.toNat eV.dflt).fn.a]++([decide ((x.moves.getD i.toNat eV.dflt).fn.s=(y.moves.getD i.toNat eV.dflt).fn.s)]++[]))++[])))))then(Ex.ret,(),Dl.mk (eI.ag x.drop) (eD.ag x.put) (eV.ag x.moves),(),Dl.mk (eI.ag y.drop) (eD.ag y.put) (eV.ag y.moves),i,false)else(Ex.normal,(),Dl.mk (eI.ag x.drop) (eD.ag x.put) (eV.ag x.moves),(),Dl.mk (eI.ag y.drop) (eD.ag y.put) (eV.ag y.moves),IntKind.i64.wrap (i+(1:Int)),r)
 else(Ex.exit (0:Nat),(),Dl.mk (eI.ag x.drop) (eD.ag x.put) (eV.ag x.moves),(),Dl.mk (eI.ag y.drop) (eD.ag y.put) (eV.ag y.moves),i,r)
def mvl_side(_u:Unit)(x:Dl)(_u2:Unit)(y:Dl)(i:Int)(r:Bool):Prop:=
 (decide (i<(↑x.moves.length:Int))=true->((0:Int)<=i/\i<(↑x.moves.length:Int))/\((0:Int)<=i/\i<(↑y.moves.length:Int))/\((!conj ([(x.moves.getD i.toNat eV.dflt).fr==(y.moves.getD i.toNat eV.dflt).fr]++([(x.moves.getD i.toNat eV.dflt).to==(y.moves.getD i.toNat eV.dflt).to]++([(x.moves.getD i.toNat eV.dflt).kind==(y.moves.getD i.toNat eV.dflt).kind]++([(x.moves.getD i.toNat eV.dflt).a==(y.moves.getD i.toNat eV.dflt).a]++([(x.moves.getD i.toNat eV.dflt).fn.kind==(y.moves.getD i.toNat eV.dflt).fn.kind]++([(x.moves.getD i.toNat eV.dflt).fn.a==(y.moves.getD i.toNat eV.dflt).fn.a]++([decide ((x.moves.getD i.toNat eV.dflt).fn.s=(y.moves.getD i.toNat eV.dflt).fn.s)]++[]))++[]))))))=true->eI.okL x.drop/\eD.okL x.put/\eV.okL x.moves/\eI.okL y.drop/\eD.okL y.put/\eV.okL y.moves)/\((!conj ([(x.moves.getD i.toNat eV.dflt).fr==(y.moves.getD i.toNat eV.dflt).fr]++([(x.moves.getD i.toNat eV.dflt).to==(y.moves.getD i.toNat eV.dflt).to]++([(x.moves.getD i.toNat eV.dflt).kind==(y.moves.getD i.toNat eV.dflt).kind]++([(x.moves.getD i.toNat eV.dflt).a==(y.moves.getD i.toNat eV.dflt).a]++([(x.moves.getD i.toNat eV.dflt).fn.kind==(y.moves.getD i.toNat eV.dflt).fn.kind]++([(x.moves.getD i.toNat eV.dflt).fn.a==(y.moves.getD i.toNat eV.dflt).fn.a]++([decide ((x.moves.getD i.toNat eV.dflt).fn.s=(y.moves.getD i.toNat eV.dflt).fn.s)]++[]))++[]))))))=false->eI.okL x.drop/\eD.okL x.put/\eV.okL x.moves/\eI.okL y.drop/\eD.okL y.put/\eV.okL y.moves))/\(decide (i<(↑x.moves.length:Int))=false->eI.okL x.drop/\eD.okL x.put/\eV.okL x.moves/\eI.okL y.drop/\eD.okL y.put/\eV.okL y.moves)
theorem mvl_one:((loopsOf Tryd.prog 33).filter λc=>Nat.beq (lkey c) 4).length=1:=by kernel_rfl
abbrev mvl_GC:Type:=Dl×Dl
abbrev mvl_GB:Type:=Bool×Unit×Unit
def mvl_f(g:mvl_G):Int×mvl_GC×mvl_GB:=(g.2.2.2.2.1,(g.2.1,g.2.2.2.1),(g.2.2.2.2.2,g.1,g.2.2.1))
def mvl_g(d:Int×mvl_GC×mvl_GB):mvl_G:=(d.2.2.2.1,d.2.1.1,d.2.2.2.2,d.2.1.2,d.1,d.2.2.1)
theorem mvl_es(g:mvl_G):(mvl_R g.1 g.2.1 g.2.2.1 g.2.2.2.1 g.2.2.2.2.1 g.2.2.2.2.2).1=.normal\/(mvl_R g.1 g.2.1 g.2.2.1 g.2.2.2.1 g.2.2.2.2.1 g.2.2.2.2.2).1∈([.ret,.exit 0]:List Ex):=by
 unfold mvl_R
 repeat' (first|(left;rfl)|(right;simp only[cond_true,cond_false];simp;done)|(rw[Bool.cond_eq_ite];split))
noncomputable abbrev mvl_C(Inv:mvl_G->List Prop)(m:mvl_G->Nat):LCon:=loopR [.ret,.exit 0] (loopBody Tryd.prog 33 4) mvl_LP [] 49 Inv (λg=>mvl_R g.1 g.2.1 g.2.2.1 g.2.2.2.1 g.2.2.2.2.1 g.2.2.2.2.2) m
theorem mvl_loop(Inv:mvl_G->List Prop)(m:mvl_G->Nat)(hs:∀g,allP (Inv g)->mvl_side g.1 g.2.1 g.2.2.1 g.2.2.2.1 g.2.2.2.2.1 g.2.2.2.2.2)(hg:Goes (λg:mvl_G=>mvl_R g.1 g.2.1 g.2.2.1 g.2.2.2.1 g.2.2.2.2.1 g.2.2.2.2.2) m λg=>allP (Inv g)):∀b∈loopsOf Tryd.prog 33,lkey b=4->LoopOk Tryd.prog b (mvl_C Inv m).g:=loop_run (Γ:=(PTab.gamz tabE0k [] [])) (Λ:=noΛ) (PTab.okz tabE0k [] []) noΛ_ok 100 33 4 49 mvl_LP [] Inv (λg=>mvl_R g.1 g.2.1 g.2.2.1 g.2.2.2.1 g.2.2.2.2.1 g.2.2.2.2.2) (λg=>mvl_side g.1 g.2.1 g.2.2.1 g.2.2.2.1 g.2.2.2.2.1 g.2.2.2.2.2) m default [.ret,.exit 0] mvl_one (λrd T B HL HB ds g=>by kernel_rfl) (λrd T B HL HB ds g=>by kernel_rfl) hs hg mvl_es
abbrev qnd_G:Type:=List Nd×Unit×List Nd×Int×Int×Bool
noncomputable def qnd_LP:LP 0 qnd_G:=.pair (.slot 0 1 dLD) (.pair (.fix 0 2 (.fn 111 [])) (.pair (.slot 0 15 dLD) (.pair (.slot 0 16 dI) (.pair (.slot 0 17 dI) (.slot 0 6 dBool)))))
noncomputable def qnd_R(ys:List Nd)(_u:Unit)(xs:List Nd)(n:Int)(i:Int)(r:Bool):Ex×qnd_G:=
 bif decide (i<n)then bif !decide (Nd.mk (xs.getD i.toNat eD.dflt).id (xs.getD i.toNat eD.dflt).kind (eI.ag (xs.getD i.toNat eD.dflt).ins) (xs.getD i.toNat eD.dflt).fn (xs.getD i.toNat eD.dflt).name (xs.getD i.toNat eD.dflt).cap (xs.getD i.toNat eD.dflt).d=Nd.mk (ys.getD i.toNat eD.dflt).id (ys.getD i.toNat eD.dflt).kind (eI.ag (ys.getD i.toNat eD.dflt).ins) (ys.getD i.toNat eD.dflt).fn (ys.getD i.toNat eD.dflt).name (ys.getD i.toNat eD.dflt).cap (ys.getD i.toNat eD.dflt).d)then(Ex.ret,eD.ag ys,(),eD.ag xs,n,i,false)else(Ex.normal,eD.ag ys,(),eD.ag xs,n,IntKind.i64.wrap (i+(1:Int)),r)
 else(Ex.exit (0:Nat),eD.ag ys,(),eD.ag xs,n,i,r)
def qnd_side(ys:List Nd)(_u:Unit)(xs:List Nd)(n:Int)(i:Int)(r:Bool):Prop:=
 (decide (i<n)=true->((0:Int)<=i/\i<(↑xs.length:Int))/\((0:Int)<=i/\i<(↑ys.length:Int))/\eI.okL (xs.getD i.toNat eD.dflt).ins/\eI.okL (ys.getD i.toNat eD.dflt).ins/\((!decide (Nd.mk (xs.getD i.toNat eD.dflt).id (xs.getD i.toNat eD.dflt).kind (eI.ag (xs.getD i.toNat eD.dflt).ins) (xs.getD i.toNat eD.dflt).fn (xs.getD i.toNat eD.dflt).name (xs.getD i.toNat eD.dflt).cap (xs.getD i.toNat eD.dflt).d=Nd.mk (ys.getD i.toNat eD.dflt).id (ys.getD i.toNat eD.dflt).kind (eI.ag (ys.getD i.toNat eD.dflt).ins) (ys.getD i.toNat eD.dflt).fn (ys.getD i.toNat eD.dflt).name (ys.getD i.toNat eD.dflt).cap (ys.getD i.toNat eD.dflt).d))=true->eD.okL ys/\eD.okL xs)/\((!decide (Nd.mk (xs.getD i.toNat eD.dflt).id (xs.getD i.toNat eD.dflt).kind (eI.ag (xs.getD i.toNat eD.dflt).ins) (xs.getD i.toNat eD.dflt).fn (xs.getD i.toNat eD.dflt).name (xs.getD i.toNat eD.dflt).cap (xs.getD i.toNat eD.dflt).d=Nd.mk (ys.getD i.toNat eD.dflt).id (ys.getD i.toNat eD.dflt).kind (eI.ag (ys.getD i.toNat eD.dflt).ins) (ys.getD i.toNat eD.dflt).fn (ys.getD i.toNat eD.dflt).name (ys.getD i.toNat eD.dflt).cap (ys.getD i.toNat eD.dflt).d))=false->eD.okL ys/\eD.okL xs))/\(decide (i<n)=false->eD.okL ys/\eD.okL xs)
theorem qnd_one:((loopsOf Tryd.prog 110).filter λc=>Nat.beq (lkey c) 4).length=1:=by kernel_rfl
abbrev qnd_GC:Type:=List Nd×List Nd×Int
abbrev qnd_GB:Type:=Bool×Unit
def qnd_f(g:qnd_G):Int×qnd_GC×qnd_GB:=(g.2.2.2.2.1,(g.2.2.1,g.1,g.2.2.2.1),(g.2.2.2.2.2,g.2.1))
def qnd_g(d:Int×qnd_GC×qnd_GB):qnd_G:=(d.2.1.2.1,d.2.2.2,d.2.1.1,d.2.1.2.2,d.1,d.2.2.1)
theorem qnd_es(g:qnd_G):(qnd_R g.1 g.2.1 g.2.2.1 g.2.2.2.1 g.2.2.2.2.1 g.2.2.2.2.2).1=.normal\/(qnd_R g.1 g.2.1 g.2.2.1 g.2.2.2.1 g.2.2.2.2.1 g.2.2.2.2.2).1∈([.ret,.exit 0]:List Ex):=by
 unfold qnd_R
 repeat' (first|(left;rfl)|(right;simp only[cond_true,cond_false];simp;done)|(rw[Bool.cond_eq_ite];split))
noncomputable abbrev qnd_C(Inv:qnd_G->List Prop)(m:qnd_G->Nat):LCon:=loopR [.ret,.exit 0] (loopBody Tryd.prog 110 4) qnd_LP [] 32 Inv (λg=>qnd_R g.1 g.2.1 g.2.2.1 g.2.2.2.1 g.2.2.2.2.1 g.2.2.2.2.2) m
theorem qnd_loop(Inv:qnd_G->List Prop)(m:qnd_G->Nat)(hs:∀g,allP (Inv g)->qnd_side g.1 g.2.1 g.2.2.1 g.2.2.2.1 g.2.2.2.2.1 g.2.2.2.2.2)(hg:Goes (λg:qnd_G=>qnd_R g.1 g.2.1 g.2.2.1 g.2.2.2.1 g.2.2.2.2.1 g.2.2.2.2.2) m λg=>allP (Inv g)):∀b∈loopsOf Tryd.prog 110,lkey b=4->LoopOk Tryd.prog b (qnd_C Inv m).g:=loop_run (Γ:=(PTab.gamz tabE0k [] [])) (Λ:=noΛ) (PTab.okz tabE0k [] []) noΛ_ok 100 110 4 32 qnd_LP [] Inv (λg=>qnd_R g.1 g.2.1 g.2.2.1 g.2.2.2.1 g.2.2.2.2.1 g.2.2.2.2.2) (λg=>qnd_side g.1 g.2.1 g.2.2.1 g.2.2.2.1 g.2.2.2.2.1 g.2.2.2.2.2) m default [.ret,.exit 0] qnd_one (λrd T B HL HB ds g=>by kernel_rfl) (λrd T B HL HB ds g=>by kernel_rfl) hs hg qnd_es
end Go.Proofs.YtfkdbifgppfegaaDoor

namespace Go.Proofs.YtfkdbifgppfegaaDoor
open Go.RowKit Go.Sx Go.Lp
set_option maxRecDepth 100000
noncomputable def gin_S(c:gin_GC)(b:gin_GB)(i:Int)(v:Int):Ex×gin_GB:=bif !decide (v=c.2.ins.getD i.toNat eI.dflt)then(.ret,false,(),())else(.normal,b.1,b.2.1,b.2.2)
def gin_K(c:gin_GC)(b:gin_GB)(i:Int):Prop:=c.1.ins.length=c.2.ins.length
abbrev gin_I(g:gin_G):List Prop:=ixI (λc:gin_GC=>(c.1.ins.length:Int)) (λc:gin_GC=>c.1.ins) gin_K (gin_f g)
abbrev gin_M(g:gin_G):Nat:=ixM (λc:gin_GC=>(c.1.ins.length:Int)) (gin_f g)
theorem gin_P:ixP gin_S (λc:gin_GC=>c.1.ins) gin_K:=λ_ _ _ _ h _ _=>h
noncomputable abbrev gin_RR(g:gin_G):Ex×gin_G:=gin_R g.1 g.2.1 g.2.2.1 g.2.2.2.1 g.2.2.2.2.1 g.2.2.2.2.2
theorem gin_RF(d:Int×gin_GC×gin_GB)(hi:allP (ixI (λc:gin_GC=>(c.1.ins.length:Int)) (λc:gin_GC=>c.1.ins) gin_K d)):gin_RR (gin_g d)=((ixF 2 (λc:gin_GC=>(c.1.ins.length:Int)) (λc:gin_GC=>c.1.ins) eI.dflt gin_S d).1,gin_g (ixF 2 (λc:gin_GC=>(c.1.ins.length:Int)) (λc:gin_GC=>c.1.ins) eI.dflt gin_S d).2):=by
 obtain⟨i,⟨x,y⟩,⟨r,⟨⟩,⟨⟩⟩⟩:=d;show gin_R () x () y i r=_;unfold gin_R ixF gin_S;simp only[El.ag_eq,neI];cases decide (i<(x.ins.length:Int))with
 |false=>rfl
 |true=>
  simp only[cond_true];generalize (!decide ((x.ins.getD i.toNat eI.dflt)=y.ins.getD i.toNat eI.dflt))=z;cases z<;>rfl
theorem gin_ok:∀b∈loopsOf Tryd.prog 63,lkey b=10->LoopOk Tryd.prog b (gin_C gin_I gin_M).g:=by
 refine gin_loop gin_I gin_M (λg hi=>?_) (ix_conj_goes (λ_=>rfl) (λ_=>rfl) gin_RF gin_P);obtain⟨⟨⟩,x,⟨⟩,y,i,r⟩:=g;obtain⟨h1,h2,h3,h4,h5⟩:=hi _ (List.mem_cons_self ..);have h1:(x.ins.length:Int)=(x.ins.length:Int):=h1;have h3:0<=i:=h3;have h5:x.ins.length=y.ins.length:=h5;show gin_side () x () y i r;unfold gin_side;simp only[decide_eq_true_eq,decide_eq_false_iff_not];have k0:∀e:Nat,e<x.ins.length->eI.Ok (eI.els x.ins e):=λe _=>eI.ok_els x.ins e;have k1:∀e:Nat,e<y.ins.length->eI.Ok (eI.els y.ins e):=λe _=>eI.ok_els y.ins e;clear hi
 repeat' (first|exact k0|exact k1|apply And.intro|intro _)
 all_goals omega
theorem gin_run(c:gin_GC)(b:gin_GB)(k1:(c.1.ins.length:Int)=((c.1.ins).length:Int))(k2:(c.1.ins).length<=maxLen)(k3:gin_K c b 0):loopF gin_RR gin_M (gin_g (0,c,b))=((scan 2 (gin_S c) 0 (c.1.ins) b).1,gin_g ((scan 2 (gin_S c) 0 (c.1.ins) b).2.1,c,(scan 2 (gin_S c) 0 (c.1.ins) b).2.2)):=ix_conj_run (φ:=gin_f) (ψ:=gin_g) (λ_=>rfl) (λ_=>rfl) gin_RF gin_P c b k1 k2 k3
noncomputable def gio_S(c:gio_GC)(b:gio_GB)(i:Int)(v:Int):Ex×gio_GB:=bif !decide (v=c.2.ins.getD i.toNat eI.dflt)then(.ret,false,(),())else(.normal,b.1,b.2.1,b.2.2)
def gio_K(c:gio_GC)(b:gio_GB)(i:Int):Prop:=c.1.ins.length=c.2.ins.length
abbrev gio_I(g:gio_G):List Prop:=ixI (λc:gio_GC=>(c.1.ins.length:Int)) (λc:gio_GC=>c.1.ins) gio_K (gio_f g)
abbrev gio_M(g:gio_G):Nat:=ixM (λc:gio_GC=>(c.1.ins.length:Int)) (gio_f g)
theorem gio_P:ixP gio_S (λc:gio_GC=>c.1.ins) gio_K:=λ_ _ _ _ h _ _=>h
noncomputable abbrev gio_RR(g:gio_G):Ex×gio_G:=gio_R g.1 g.2.1 g.2.2.1 g.2.2.2.1 g.2.2.2.2.1 g.2.2.2.2.2
theorem gio_RF(d:Int×gio_GC×gio_GB)(hi:allP (ixI (λc:gio_GC=>(c.1.ins.length:Int)) (λc:gio_GC=>c.1.ins) gio_K d)):gio_RR (gio_g d)=((ixF 2 (λc:gio_GC=>(c.1.ins.length:Int)) (λc:gio_GC=>c.1.ins) eI.dflt gio_S d).1,gio_g (ixF 2 (λc:gio_GC=>(c.1.ins.length:Int)) (λc:gio_GC=>c.1.ins) eI.dflt gio_S d).2):=by
 obtain⟨i,⟨x,y⟩,⟨r,⟨⟩,⟨⟩⟩⟩:=d;show gio_R () x () y i r=_;unfold gio_R ixF gio_S;simp only[El.ag_eq,neI];cases decide (i<(x.ins.length:Int))with
 |false=>rfl
 |true=>
  simp only[cond_true];generalize (!decide ((x.ins.getD i.toNat eI.dflt)=y.ins.getD i.toNat eI.dflt))=z;cases z<;>rfl
theorem gio_ok:∀b∈loopsOf Tryd.prog 63,lkey b=10->LoopOk Tryd.prog b (gio_C gio_I gio_M).g:=by
 refine gio_loop gio_I gio_M (λg hi=>?_) (ix_conj_goes (λ_=>rfl) (λ_=>rfl) gio_RF gio_P);obtain⟨⟨⟩,x,⟨⟩,y,i,r⟩:=g;obtain⟨h1,h2,h3,h4,h5⟩:=hi _ (List.mem_cons_self ..);have h1:(x.ins.length:Int)=(x.ins.length:Int):=h1;have h3:0<=i:=h3;have h5:x.ins.length=y.ins.length:=h5;show gio_side () x () y i r;unfold gio_side;simp only[decide_eq_true_eq,decide_eq_false_iff_not];have k0:∀e:Nat,e<x.ins.length->eI.Ok (eI.els x.ins e):=λe _=>eI.ok_els x.ins e;have k1:∀e:Nat,e<y.ins.length->eI.Ok (eI.els y.ins e):=λe _=>eI.ok_els y.ins e;clear hi
 repeat' (first|exact k0|exact k1|apply And.intro|intro _)
 all_goals omega
noncomputable def mvl_S(c:mvl_GC)(b:mvl_GB)(i:Int)(v:Mv):Ex×mvl_GB:=bif !decide (v=c.2.moves.getD i.toNat eV.dflt)then(.ret,false,(),())else(.normal,b.1,b.2.1,b.2.2)
def mvl_K(c:mvl_GC)(b:mvl_GB)(i:Int):Prop:=c.1.moves.length=c.2.moves.length
abbrev mvl_I(g:mvl_G):List Prop:=ixI (λc:mvl_GC=>(c.1.moves.length:Int)) (λc:mvl_GC=>c.1.moves) mvl_K (mvl_f g)
abbrev mvl_M(g:mvl_G):Nat:=ixM (λc:mvl_GC=>(c.1.moves.length:Int)) (mvl_f g)
theorem mvl_P:ixP mvl_S (λc:mvl_GC=>c.1.moves) mvl_K:=λ_ _ _ _ h _ _=>h
noncomputable abbrev mvl_RR(g:mvl_G):Ex×mvl_G:=mvl_R g.1 g.2.1 g.2.2.1 g.2.2.2.1 g.2.2.2.2.1 g.2.2.2.2.2
theorem mvl_RF(d:Int×mvl_GC×mvl_GB)(hi:allP (ixI (λc:mvl_GC=>(c.1.moves.length:Int)) (λc:mvl_GC=>c.1.moves) mvl_K d)):mvl_RR (mvl_g d)=((ixF 0 (λc:mvl_GC=>(c.1.moves.length:Int)) (λc:mvl_GC=>c.1.moves) eV.dflt mvl_S d).1,mvl_g (ixF 0 (λc:mvl_GC=>(c.1.moves.length:Int)) (λc:mvl_GC=>c.1.moves) eV.dflt mvl_S d).2):=by
 obtain⟨i,⟨x,y⟩,⟨r,⟨⟩,⟨⟩⟩⟩:=d;show mvl_R () x () y i r=_;unfold mvl_R ixF mvl_S;simp only[El.ag_eq,conj_eV];cases decide (i<(x.moves.length:Int))with
 |false=>rfl
 |true=>
  simp only[cond_true];generalize (!decide ((x.moves.getD i.toNat eV.dflt)=y.moves.getD i.toNat eV.dflt))=z;cases z<;>rfl
theorem mvl_ok:∀b∈loopsOf Tryd.prog 33,lkey b=4->LoopOk Tryd.prog b (mvl_C mvl_I mvl_M).g:=by
 refine mvl_loop mvl_I mvl_M (λg hi=>?_) (ix_conj_goes (λ_=>rfl) (λ_=>rfl) mvl_RF mvl_P);obtain⟨⟨⟩,x,⟨⟩,y,i,r⟩:=g;obtain⟨h1,h2,h3,h4,h5⟩:=hi _ (List.mem_cons_self ..);have h1:(x.moves.length:Int)=(x.moves.length:Int):=h1;have h3:0<=i:=h3;have h5:x.moves.length=y.moves.length:=h5;show mvl_side () x () y i r;unfold mvl_side;simp only[decide_eq_true_eq,decide_eq_false_iff_not];have k0:∀e:Nat,e<x.drop.length->eI.Ok (eI.els x.drop e):=λe _=>eI.ok_els x.drop e;have k1:∀e:Nat,e<x.put.length->eD.Ok (eD.els x.put e):=λe _=>eD.ok_els x.put e;have k2:∀e:Nat,e<x.moves.length->eV.Ok (eV.els x.moves e):=λe _=>eV.ok_els x.moves e;have k3:∀e:Nat,e<y.drop.length->eI.Ok (eI.els y.drop e):=λe _=>eI.ok_els y.drop e;have k4:∀e:Nat,e<y.put.length->eD.Ok (eD.els y.put e):=λe _=>eD.ok_els y.put e;have k5:∀e:Nat,e<y.moves.length->eV.Ok (eV.els y.moves e):=λe _=>eV.ok_els y.moves e;clear hi
 repeat' (first|exact k0|exact k1|exact k2|exact k3|exact k4|exact k5|apply And.intro|intro _)
 all_goals omega
theorem mvl_run(c:mvl_GC)(b:mvl_GB)(k1:(c.1.moves.length:Int)=((c.1.moves).length:Int))(k2:(c.1.moves).length<=maxLen)(k3:mvl_K c b 0):loopF mvl_RR mvl_M (mvl_g (0,c,b))=((scan 0 (mvl_S c) 0 (c.1.moves) b).1,mvl_g ((scan 0 (mvl_S c) 0 (c.1.moves) b).2.1,c,(scan 0 (mvl_S c) 0 (c.1.moves) b).2.2)):=ix_conj_run (φ:=mvl_f) (ψ:=mvl_g) (λ_=>rfl) (λ_=>rfl) mvl_RF mvl_P c b k1 k2 k3
noncomputable def qnd_S(c:qnd_GC)(b:qnd_GB)(i:Int)(v:Nd):Ex×qnd_GB:=bif !decide (v=c.2.1.getD i.toNat eD.dflt)then(.ret,false,())else(.normal,b.1,b.2)
def qnd_K(c:qnd_GC)(b:qnd_GB)(i:Int):Prop:=c.1.length=c.2.1.length
abbrev qnd_I(g:qnd_G):List Prop:=ixI (λc:qnd_GC=>c.2.2) (λc:qnd_GC=>c.1) qnd_K (qnd_f g)
abbrev qnd_M(g:qnd_G):Nat:=ixM (λc:qnd_GC=>c.2.2) (qnd_f g)
theorem qnd_P:ixP qnd_S (λc:qnd_GC=>c.1) qnd_K:=λ_ _ _ _ h _ _=>h
noncomputable abbrev qnd_RR(g:qnd_G):Ex×qnd_G:=qnd_R g.1 g.2.1 g.2.2.1 g.2.2.2.1 g.2.2.2.2.1 g.2.2.2.2.2
theorem qnd_RF(d:Int×qnd_GC×qnd_GB)(hi:allP (ixI (λc:qnd_GC=>c.2.2) (λc:qnd_GC=>c.1) qnd_K d)):qnd_RR (qnd_g d)=((ixF 0 (λc:qnd_GC=>c.2.2) (λc:qnd_GC=>c.1) eD.dflt qnd_S d).1,qnd_g (ixF 0 (λc:qnd_GC=>c.2.2) (λc:qnd_GC=>c.1) eD.dflt qnd_S d).2):=by
 obtain⟨i,⟨xs,ys,n⟩,⟨r,⟨⟩⟩⟩:=d;show qnd_R ys () xs n i r=_;unfold qnd_R ixF qnd_S;simp only[El.ag_eq,El.okL_eq];cases decide (i<n)with
 |false=>rfl
 |true=>
  simp only[cond_true];generalize (!decide ((xs.getD i.toNat eD.dflt)=ys.getD i.toNat eD.dflt))=z;cases z<;>rfl
theorem qnd_ok:∀b∈loopsOf Tryd.prog 110,lkey b=4->LoopOk Tryd.prog b (qnd_C qnd_I qnd_M).g:=by
 refine qnd_loop qnd_I qnd_M (λg hi=>?_) (ix_conj_goes (λ_=>rfl) (λ_=>rfl) qnd_RF qnd_P);obtain⟨ys,⟨⟩,xs,n,i,r⟩:=g;obtain⟨h1,h2,h3,h4,h5⟩:=hi _ (List.mem_cons_self ..);have h1:n=(xs.length:Int):=h1;have h3:0<=i:=h3;have h5:xs.length=ys.length:=h5;show qnd_side ys () xs n i r;unfold qnd_side;simp only[El.okL_eq,decide_eq_true_eq,decide_eq_false_iff_not];have k0:∀e:Nat,e<xs.length->eD.Ok (eD.els xs e):=λe _=>eD.ok_els xs e;have k1:∀e:Nat,e<ys.length->eD.Ok (eD.els ys e):=λe _=>eD.ok_els ys e;clear hi
 repeat' (first|exact True.intro|exact k0|exact k1|apply And.intro|intro _)
 all_goals omega
theorem qnd_run(c:qnd_GC)(b:qnd_GB)(k1:c.2.2=((c.1).length:Int))(k2:(c.1).length<=maxLen)(k3:qnd_K c b 0):loopF qnd_RR qnd_M (qnd_g (0,c,b))=((scan 0 (qnd_S c) 0 (c.1) b).1,qnd_g ((scan 0 (qnd_S c) 0 (c.1) b).2.1,c,(scan 0 (qnd_S c) 0 (c.1) b).2.2)):=ix_conj_run (φ:=qnd_f) (ψ:=qnd_g) (λ_=>rfl) (λ_=>rfl) qnd_RF qnd_P c b k1 k2 k3
noncomputable def ltE2a:LTab Tryd.prog:=((LTab.nil.cons 33 4 (mvl_C mvl_I mvl_M) mvl_ok).cons 110 4 (qnd_C qnd_I qnd_M) qnd_ok)
noncomputable def ltE2:LTab Tryd.prog:=ltE2a.cons 63 10 (lconAltS 6 2 (gin_C gin_I gin_M) (gio_C gio_I gio_M)) (λb hb hk=>altS_ok (gin_ok b hb hk) (gio_ok b hb hk))
noncomputable abbrev lamE2:Lam:=ltE2.lam
theorem lamE2_ok:∀f k L,lamE2 f k=some L->∀b∈loopsOf Tryd.prog f,lkey b=k->LoopOk Tryd.prog b L.g:=ltE2.ok
end Go.Proofs.YtfkdbifgppfegaaDoor

namespace Go.Proofs.YtfkdbifgppfegaaDoor
open Go.RowKit Go.Sx
set_option maxRecDepth 100000
abbrev dSn:Dv Unit:=dFnA 111 .none
abbrev aNdF:DA (List Nd×List Nd×Unit):=.cons dLD (.cons dLD (.one dSn))
noncomputable def nsm_q1(a:List Nd)(b:List Nd)(_u:Unit):Ex×
 qnd_G:=
 loopF (λg=>qnd_R g.fst g.snd.fst g.snd.snd.fst g.snd.snd.snd.fst g.snd.snd.snd.snd.fst g.snd.snd.snd.snd.snd) qnd_M (eD.ag b,(),eD.ag a,(↑a.length:Int),(0:Int),false)
noncomputable def nsm_F(a:List Nd)(b:List Nd)(_u:Unit):Dv.T dBool:=
 bif (↑a.length:Int)!=(↑b.length:Int)then false
 else bif exB Ex.ret (nsm_q1 a b _u).fst then(nsm_q1 a b _u).snd.snd.snd.snd.snd.snd else true
def nsm_side(a:List Nd)(b:List Nd)(_u:Unit):Prop:=
 ((↑a.length:Int)!=(↑b.length:Int))=false->eD.okL b/\eD.okL a/\Lp.ixJ (λc=>c.snd.snd) (λc=>c.fst) qnd_K (qnd_f (eD.ag b,(),eD.ag a,(↑a.length:Int),(0:Int),false))
theorem nsm_okS(pre:DA.T aNdF->List Prop)(h:∀g,DA.bd aNdF g->(∀p∈pre g,p)->nsm_side g.1 g.2.1 g.2.2):FnPure Tryd.prog 110 aNdF dBool (λg=>nsm_F g.1 g.2.1 g.2.2) pre:=pure_of_sideS (Γ:=(PTab.gamz tabE0k [] [])) (Λ:=lamE2) (PTab.okz tabE0k [] []) lamE2_ok 100 default (λg=>nsm_side g.1 g.2.1 g.2.2) (λg=>by kernel_rfl) (λg=>by kernel_rfl) h
end Go.Proofs.YtfkdbifgppfegaaDoor

namespace Go.Proofs.YtfkdbifgppfegaaDoor
open Go.RowKit Go.Sx
set_option maxRecDepth 100000
noncomputable def gou_q1(xs:List Nd)(ys:List Nd)(i:Int)(r:Bool):Ex×
 gin_G:=
 loopF (λg=>gin_R g.fst g.snd.fst g.snd.snd.fst g.snd.snd.snd.fst g.snd.snd.snd.snd.fst g.snd.snd.snd.snd.snd) gin_M ((),Nd.mk (xs.getD i.toNat eD.dflt).id (xs.getD i.toNat eD.dflt).kind (eI.ag (xs.getD i.toNat eD.dflt).ins) (xs.getD i.toNat eD.dflt).fn (xs.getD i.toNat eD.dflt).name (xs.getD i.toNat eD.dflt).cap (xs.getD i.toNat eD.dflt).d,(),Nd.mk (ys.getD i.toNat eD.dflt).id (ys.getD i.toNat eD.dflt).kind (eI.ag (ys.getD i.toNat eD.dflt).ins) (ys.getD i.toNat eD.dflt).fn (ys.getD i.toNat eD.dflt).name (ys.getD i.toNat eD.dflt).cap (ys.getD i.toNat eD.dflt).d,(0:Int),r)
noncomputable def gou_q2(xs:List Nd)(ys:List Nd)(i:Int)(r:Bool):Ex×
 gio_G:=
 loopF (λg=>gio_R g.fst g.snd.fst g.snd.snd.fst g.snd.snd.snd.fst g.snd.snd.snd.snd.fst g.snd.snd.snd.snd.snd) gio_M ((),Nd.mk (xs.getD i.toNat eD.dflt).id (xs.getD i.toNat eD.dflt).kind (eI.ag (xs.getD i.toNat eD.dflt).ins) (xs.getD i.toNat eD.dflt).fn (xs.getD i.toNat eD.dflt).name (xs.getD i.toNat eD.dflt).cap (xs.getD i.toNat eD.dflt).d,(),Nd.mk (ys.getD i.toNat eD.dflt).id (ys.getD i.toNat eD.dflt).kind (eI.ag (ys.getD i.toNat eD.dflt).ins) (ys.getD i.toNat eD.dflt).fn (ys.getD i.toNat eD.dflt).name (ys.getD i.toNat eD.dflt).cap (ys.getD i.toNat eD.dflt).d,(0:Int),r)
abbrev gou_G:Type:=List Nd×List Nd×Int×Bool
noncomputable def gou_LP:LP 2 gou_G:=.pair (.slot 2 2 (dPr eLD)) (.pair (.slot 2 3 (dPr eLD)) (.pair (.slot 2 5 dI) (.slot 2 4 dBool)))
noncomputable def gou_R(xs:List Nd)(ys:List Nd)(i:Int)(r:Bool):Ex×gou_G:=
 bif decide (i<(↑xs.length:Int))then bif (xs.getD i.toNat eD.dflt).id !=(ys.getD i.toNat eD.dflt).id||((xs.getD i.toNat eD.dflt).kind !=(ys.getD i.toNat eD.dflt).kind||(!conj ([(xs.getD i.toNat eD.dflt).fn.kind==(ys.getD i.toNat eD.dflt).fn.kind]++([(xs.getD i.toNat eD.dflt).fn.a==(ys.getD i.toNat eD.dflt).fn.a]++([decide ((xs.getD i.toNat eD.dflt).fn.s=(ys.getD i.toNat eD.dflt).fn.s)]++[])))||(!decide ((xs.getD i.toNat eD.dflt).name=(ys.getD i.toNat eD.dflt).name)||((xs.getD i.toNat eD.dflt).cap !=(ys.getD i.toNat eD.dflt).cap||((xs.getD i.toNat eD.dflt).d !=(ys.getD i.toNat eD.dflt).d||(↑(xs.getD i.toNat eD.dflt).ins.length:Int)!=(↑(ys.getD i.toNat eD.dflt).ins.length:Int))))))then(Ex.ret,eD.ag xs,eD.ag ys,i,false)else bif exB Ex.ret (gou_q1 xs ys i r).fst then(Ex.ret,eD.ag xs,eD.ag ys,i,(gou_q1 xs ys i r).snd.snd.snd.snd.snd.snd)else(Ex.normal,eD.ag xs,eD.ag ys,IntKind.i64.wrap (i+(1:Int)),(gou_q1 xs ys i r).snd.snd.snd.snd.snd.snd)
 else(Ex.exit (0:Nat),eD.ag xs,eD.ag ys,i,r)
def gou_side(xs:List Nd)(ys:List Nd)(i:Int)(r:Bool):Prop:=
 (decide (i<(↑xs.length:Int))=true->∀(cs:List Nat),(cs.isEmpty=true->((0:Int)<=i/\i<(↑xs.length:Int))/\((0:Int)<=i/\i<(↑ys.length:Int))/\(((xs.getD i.toNat eD.dflt).id !=(ys.getD i.toNat eD.dflt).id||((xs.getD i.toNat eD.dflt).kind !=(ys.getD i.toNat eD.dflt).kind||(!conj ([(xs.getD i.toNat eD.dflt).fn.kind==(ys.getD i.toNat eD.dflt).fn.kind]++([(xs.getD i.toNat eD.dflt).fn.a==(ys.getD i.toNat eD.dflt).fn.a]++([decide ((xs.getD i.toNat eD.dflt).fn.s=(ys.getD i.toNat eD.dflt).fn.s)]++[])))||(!decide ((xs.getD i.toNat eD.dflt).name=(ys.getD i.toNat eD.dflt).name)||((xs.getD i.toNat eD.dflt).cap !=(ys.getD i.toNat eD.dflt).cap||((xs.getD i.toNat eD.dflt).d !=(ys.getD i.toNat eD.dflt).d||(↑(xs.getD i.toNat eD.dflt).ins.length:Int)!=(↑(ys.getD i.toNat eD.dflt).ins.length:Int)))))))=true->eD.okL xs/\eD.okL ys/\∀(d:Ex×List Nd×List Nd×Int×Bool),(Ex.ret,eD.ag xs,eD.ag ys,i,false)=bif (xs.getD i.toNat eD.dflt).id !=(ys.getD i.toNat eD.dflt).id||((xs.getD i.toNat eD.dflt).kind !=(ys.getD i.toNat eD.dflt).kind||(!conj ([(xs.getD i.toNat eD.dflt).fn.kind==(ys.getD i.toNat eD.dflt).fn.kind]++([(xs.getD i.toNat eD.dflt).fn.a==(ys.getD i.toNat eD.dflt).fn.a]++([decide ((xs.getD i.toNat eD.dflt).fn.s=(ys.getD i.toNat eD.dflt).fn.s)]++[])))||(!decide ((xs.getD i.toNat eD.dflt).name=(ys.getD i.toNat eD.dflt).name)||((xs.getD i.toNat eD.dflt).cap !=(ys.getD i.toNat eD.dflt).cap||((xs.getD i.toNat eD.dflt).d !=(ys.getD i.toNat eD.dflt).d||(↑(xs.getD i.toNat eD.dflt).ins.length:Int)!=(↑(ys.getD i.toNat eD.dflt).ins.length:Int))))))then(Ex.ret,eD.ag xs,eD.ag ys,i,false)else bif exB Ex.ret (gou_q1 xs ys i r).fst then(Ex.ret,eD.ag xs,eD.ag ys,i,(gou_q1 xs ys i r).snd.snd.snd.snd.snd.snd)else(Ex.normal,eD.ag xs,eD.ag ys,IntKind.i64.wrap (i+(1:Int)),(gou_q1 xs ys i r).snd.snd.snd.snd.snd.snd))/\(((xs.getD i.toNat eD.dflt).id !=(ys.getD i.toNat eD.dflt).id||((xs.getD i.toNat eD.dflt).kind !=(ys.getD i.toNat eD.dflt).kind||(!conj ([(xs.getD i.toNat eD.dflt).fn.kind==(ys.getD i.toNat eD.dflt).fn.kind]++([(xs.getD i.toNat eD.dflt).fn.a==(ys.getD i.toNat eD.dflt).fn.a]++([decide ((xs.getD i.toNat eD.dflt).fn.s=(ys.getD i.toNat eD.dflt).fn.s)]++[])))||(!decide ((xs.getD i.toNat eD.dflt).name=(ys.getD i.toNat eD.dflt).name)||((xs.getD i.toNat eD.dflt).cap !=(ys.getD i.toNat eD.dflt).cap||((xs.getD i.toNat eD.dflt).d !=(ys.getD i.toNat eD.dflt).d||(↑(xs.getD i.toNat eD.dflt).ins.length:Int)!=(↑(ys.getD i.toNat eD.dflt).ins.length:Int)))))))=false->eI.okL (xs.getD i.toNat eD.dflt).ins/\eI.okL (ys.getD i.toNat eD.dflt).ins/\Lp.ixJ (λc=>(↑c.fst.ins.length:Int)) (λc=>c.fst.ins) gin_K (gin_f ((),Nd.mk (xs.getD i.toNat eD.dflt).id (xs.getD i.toNat eD.dflt).kind (eI.ag (xs.getD i.toNat eD.dflt).ins) (xs.getD i.toNat eD.dflt).fn (xs.getD i.toNat eD.dflt).name (xs.getD i.toNat eD.dflt).cap (xs.getD i.toNat eD.dflt).d,(),Nd.mk (ys.getD i.toNat eD.dflt).id (ys.getD i.toNat eD.dflt).kind (eI.ag (ys.getD i.toNat eD.dflt).ins) (ys.getD i.toNat eD.dflt).fn (ys.getD i.toNat eD.dflt).name (ys.getD i.toNat eD.dflt).cap (ys.getD i.toNat eD.dflt).d,(0:Int),r))/\(exB Ex.ret (gou_q1 xs ys i r).fst=true->eD.okL xs/\eD.okL ys/\∀(d:Ex×List Nd×List Nd×Int×Bool),(Ex.ret,eD.ag xs,eD.ag ys,i,(gou_q1 xs ys i r).snd.snd.snd.snd.snd.snd)=bif (xs.getD i.toNat eD.dflt).id !=(ys.getD i.toNat eD.dflt).id||((xs.getD i.toNat eD.dflt).kind !=(ys.getD i.toNat eD.dflt).kind||(!conj ([(xs.getD i.toNat eD.dflt).fn.kind==(ys.getD i.toNat eD.dflt).fn.kind]++([(xs.getD i.toNat eD.dflt).fn.a==(ys.getD i.toNat eD.dflt).fn.a]++([decide ((xs.getD i.toNat eD.dflt).fn.s=(ys.getD i.toNat eD.dflt).fn.s)]++[])))||(!decide ((xs.getD i.toNat eD.dflt).name=(ys.getD i.toNat eD.dflt).name)||((xs.getD i.toNat eD.dflt).cap !=(ys.getD i.toNat eD.dflt).cap||((xs.getD i.toNat eD.dflt).d !=(ys.getD i.toNat eD.dflt).d||(↑(xs.getD i.toNat eD.dflt).ins.length:Int)!=(↑(ys.getD i.toNat eD.dflt).ins.length:Int))))))then(Ex.ret,eD.ag xs,eD.ag ys,i,false)else bif exB Ex.ret (gou_q1 xs ys i r).fst then(Ex.ret,eD.ag xs,eD.ag ys,i,(gou_q1 xs ys i r).snd.snd.snd.snd.snd.snd)else(Ex.normal,eD.ag xs,eD.ag ys,IntKind.i64.wrap (i+(1:Int)),(gou_q1 xs ys i r).snd.snd.snd.snd.snd.snd))/\(exB Ex.ret (gou_q1 xs ys i r).fst=false->eD.okL xs/\eD.okL ys/\∀(d:Ex×List Nd×List Nd×Int×Bool),(Ex.normal,eD.ag xs,eD.ag ys,IntKind.i64.wrap (i+(1:Int)),(gou_q1 xs ys i r).snd.snd.snd.snd.snd.snd)=bif (xs.getD i.toNat eD.dflt).id !=(ys.getD i.toNat eD.dflt).id||((xs.getD i.toNat eD.dflt).kind !=(ys.getD i.toNat eD.dflt).kind||(!conj ([(xs.getD i.toNat eD.dflt).fn.kind==(ys.getD i.toNat eD.dflt).fn.kind]++([(xs.getD i.toNat eD.dflt).fn.a==(ys.getD i.toNat eD.dflt).fn.a]++([decide ((xs.getD i.toNat eD.dflt).fn.s=(ys.getD i.toNat eD.dflt).fn.s)]++[])))||(!decide ((xs.getD i.toNat eD.dflt).name=(ys.getD i.toNat eD.dflt).name)||((xs.getD i.toNat eD.dflt).cap !=(ys.getD i.toNat eD.dflt).cap||((xs.getD i.toNat eD.dflt).d !=(ys.getD i.toNat eD.dflt).d||(↑(xs.getD i.toNat eD.dflt).ins.length:Int)!=(↑(ys.getD i.toNat eD.dflt).ins.length:Int))))))then(Ex.ret,eD.ag xs,eD.ag ys,i,false)else bif exB Ex.ret (gou_q1 xs ys i r).fst then(Ex.ret,eD.ag xs,eD.ag ys,i,(gou_q1 xs ys i r).snd.snd.snd.snd.snd.snd)else(Ex.normal,eD.ag xs,eD.ag ys,IntKind.i64.wrap (i+(1:Int)),(gou_q1 xs ys i r).snd.snd.snd.snd.snd.snd))))/\(cs.isEmpty=false->((0:Int)<=i/\i<(↑xs.length:Int))/\((0:Int)<=i/\i<(↑ys.length:Int))/\(((xs.getD i.toNat eD.dflt).id !=(ys.getD i.toNat eD.dflt).id||((xs.getD i.toNat eD.dflt).kind !=(ys.getD i.toNat eD.dflt).kind||(!conj ([(xs.getD i.toNat eD.dflt).fn.kind==(ys.getD i.toNat eD.dflt).fn.kind]++([(xs.getD i.toNat eD.dflt).fn.a==(ys.getD i.toNat eD.dflt).fn.a]++([decide ((xs.getD i.toNat eD.dflt).fn.s=(ys.getD i.toNat eD.dflt).fn.s)]++[])))||(!decide ((xs.getD i.toNat eD.dflt).name=(ys.getD i.toNat eD.dflt).name)||((xs.getD i.toNat eD.dflt).cap !=(ys.getD i.toNat eD.dflt).cap||((xs.getD i.toNat eD.dflt).d !=(ys.getD i.toNat eD.dflt).d||(↑(xs.getD i.toNat eD.dflt).ins.length:Int)!=(↑(ys.getD i.toNat eD.dflt).ins.length:Int)))))))=true->eD.okL xs/\eD.okL ys/\∀(d:Ex×List Nd×List Nd×Int×Bool),(Ex.ret,eD.ag xs,eD.ag ys,i,false)=bif (xs.getD i.toNat eD.dflt).id !=(ys.getD i.toNat eD.dflt).id||((xs.getD i.toNat eD.dflt).kind !=(ys.getD i.toNat eD.dflt).kind||(!conj ([(xs.getD i.toNat eD.dflt).fn.kind==(ys.getD i.toNat eD.dflt).fn.kind]++([(xs.getD i.toNat eD.dflt).fn.a==(ys.getD i.toNat eD.dflt).fn.a]++([decide ((xs.getD i.toNat eD.dflt).fn.s=(ys.getD i.toNat eD.dflt).fn.s)]++[])))||(!decide ((xs.getD i.toNat eD.dflt).name=(ys.getD i.toNat eD.dflt).name)||((xs.getD i.toNat eD.dflt).cap !=(ys.getD i.toNat eD.dflt).cap||((xs.getD i.toNat eD.dflt).d !=(ys.getD i.toNat eD.dflt).d||(↑(xs.getD i.toNat eD.dflt).ins.length:Int)!=(↑(ys.getD i.toNat eD.dflt).ins.length:Int))))))then(Ex.ret,eD.ag xs,eD.ag ys,i,false)else bif exB Ex.ret (gou_q1 xs ys i r).fst then(Ex.ret,eD.ag xs,eD.ag ys,i,(gou_q1 xs ys i r).snd.snd.snd.snd.snd.snd)else(Ex.normal,eD.ag xs,eD.ag ys,IntKind.i64.wrap (i+(1:Int)),(gou_q1 xs ys i r).snd.snd.snd.snd.snd.snd))/\(((xs.getD i.toNat eD.dflt).id !=(ys.getD i.toNat eD.dflt).id||((xs.getD i.toNat eD.dflt).kind !=(ys.getD i.toNat eD.dflt).kind||(!conj ([(xs.getD i.toNat eD.dflt).fn.kind==(ys.getD i.toNat eD.dflt).fn.kind]++([(xs.getD i.toNat eD.dflt).fn.a==(ys.getD i.toNat eD.dflt).fn.a]++([decide ((xs.getD i.toNat eD.dflt).fn.s=(ys.getD i.toNat eD.dflt).fn.s)]++[])))||(!decide ((xs.getD i.toNat eD.dflt).name=(ys.getD i.toNat eD.dflt).name)||((xs.getD i.toNat eD.dflt).cap !=(ys.getD i.toNat eD.dflt).cap||((xs.getD i.toNat eD.dflt).d !=(ys.getD i.toNat eD.dflt).d||(↑(xs.getD i.toNat eD.dflt).ins.length:Int)!=(↑(ys.getD i.toNat eD.dflt).ins.length:Int)))))))=false->eI.okL (xs.getD i.toNat eD.dflt).ins/\eI.okL (ys.getD i.toNat eD.dflt).ins/\Lp.ixJ (λc=>(↑c.fst.ins.length:Int)) (λc=>c.fst.ins) gio_K (gio_f ((),Nd.mk (xs.getD i.toNat eD.dflt).id (xs.getD i.toNat eD.dflt).kind (eI.ag (xs.getD i.toNat eD.dflt).ins) (xs.getD i.toNat eD.dflt).fn (xs.getD i.toNat eD.dflt).name (xs.getD i.toNat eD.dflt).cap (xs.getD i.toNat eD.dflt).d,(),Nd.mk (ys.getD i.toNat eD.dflt).id (ys.getD i.toNat eD.dflt).kind (eI.ag (ys.getD i.toNat eD.dflt).ins) (ys.getD i.toNat eD.dflt).fn (ys.getD i.toNat eD.dflt).name (ys.getD i.toNat eD.dflt).cap (ys.getD i.toNat eD.dflt).d,(0:Int),r))/\(exB Ex.ret (gou_q2 xs ys i r).fst=true->eD.okL xs/\eD.okL ys/\∀(d:Ex×List Nd×List Nd×Int×Bool),(Ex.ret,eD.ag xs,eD.ag ys,i,(gou_q2 xs ys i r).snd.snd.snd.snd.snd.snd)=bif (xs.getD i.toNat eD.dflt).id !=(ys.getD i.toNat eD.dflt).id||((xs.getD i.toNat eD.dflt).kind !=(ys.getD i.toNat eD.dflt).kind||(!conj ([(xs.getD i.toNat eD.dflt).fn.kind==(ys.getD i.toNat eD.dflt).fn.kind]++([(xs.getD i.toNat eD.dflt).fn.a==(ys.getD i.toNat eD.dflt).fn.a]++([decide ((xs.getD i.toNat eD.dflt).fn.s=(ys.getD i.toNat eD.dflt).fn.s)]++[])))||(!decide ((xs.getD i.toNat eD.dflt).name=(ys.getD i.toNat eD.dflt).name)||((xs.getD i.toNat eD.dflt).cap !=(ys.getD i.toNat eD.dflt).cap||((xs.getD i.toNat eD.dflt).d !=(ys.getD i.toNat eD.dflt).d||(↑(xs.getD i.toNat eD.dflt).ins.length:Int)!=(↑(ys.getD i.toNat eD.dflt).ins.length:Int))))))then(Ex.ret,eD.ag xs,eD.ag ys,i,false)else bif exB Ex.ret (gou_q1 xs ys i r).fst then(Ex.ret,eD.ag xs,eD.ag ys,i,(gou_q1 xs ys i r).snd.snd.snd.snd.snd.snd)else(Ex.normal,eD.ag xs,eD.ag ys,IntKind.i64.wrap (i+(1:Int)),(gou_q1 xs ys i r).snd.snd.snd.snd.snd.snd))/\(exB Ex.ret (gou_q2 xs ys i r).fst=false->eD.okL xs/\eD.okL ys/\∀(d:Ex×List Nd×List Nd×Int×Bool),(Ex.normal,eD.ag xs,eD.ag ys,IntKind.i64.wrap (i+(1:Int)),(gou_q2 xs ys i r).snd.snd.snd.snd.snd.snd)=bif (xs.getD i.toNat eD.dflt).id !=(ys.getD i.toNat eD.dflt).id||((xs.getD i.toNat eD.dflt).kind !=(ys.getD i.toNat eD.dflt).kind||(!conj ([(xs.getD i.toNat eD.dflt).fn.kind==(ys.getD i.toNat eD.dflt).fn.kind]++([(xs.getD i.toNat eD.dflt).fn.a==(ys.getD i.toNat eD.dflt).fn.a]++([decide ((xs.getD i.toNat eD.dflt).fn.s=(ys.getD i.toNat eD.dflt).fn.s)]++[])))||(!decide ((xs.getD i.toNat eD.dflt).name=(ys.getD i.toNat eD.dflt).name)||((xs.getD i.toNat eD.dflt).cap !=(ys.getD i.toNat eD.dflt).cap||((xs.getD i.toNat eD.dflt).d !=(ys.getD i.toNat eD.dflt).d||(↑(xs.getD i.toNat eD.dflt).ins.length:Int)!=(↑(ys.getD i.toNat eD.dflt).ins.length:Int))))))then(Ex.ret,eD.ag xs,eD.ag ys,i,false)else bif exB Ex.ret (gou_q1 xs ys i r).fst then(Ex.ret,eD.ag xs,eD.ag ys,i,(gou_q1 xs ys i r).snd.snd.snd.snd.snd.snd)else(Ex.normal,eD.ag xs,eD.ag ys,IntKind.i64.wrap (i+(1:Int)),(gou_q1 xs ys i r).snd.snd.snd.snd.snd.snd)))))/\(decide (i<(↑xs.length:Int))=false->eD.okL xs/\eD.okL ys)
theorem gou_one:((loopsOf Tryd.prog 63).filter λc=>Nat.beq (lkey c) 4).length=1:=by kernel_rfl
abbrev gou_GC:Type:=List Nd×List Nd
abbrev gou_GB:Type:=Bool
def gou_f(g:gou_G):Int×gou_GC×gou_GB:=(g.2.2.1,(g.1,g.2.1),g.2.2.2)
def gou_g(d:Int×gou_GC×gou_GB):gou_G:=(d.2.1.1,d.2.1.2,d.1,d.2.2)
theorem gou_es(g:gou_G):(gou_R g.1 g.2.1 g.2.2.1 g.2.2.2).1=.normal\/(gou_R g.1 g.2.1 g.2.2.1 g.2.2.2).1∈([.ret,.exit 0]:List Ex):=by
 unfold gou_R
 repeat' (first|(left;rfl)|(right;simp only[cond_true,cond_false];simp;done)|(rw[Bool.cond_eq_ite];split))
noncomputable abbrev gou_C(Inv:gou_G->List Prop)(m:gou_G->Nat):LCon:=loopR [.ret,.exit 0] (loopBody Tryd.prog 63 4) gou_LP [] 100 Inv (λg=>gou_R g.1 g.2.1 g.2.2.1 g.2.2.2) m
theorem gou_loop(Inv:gou_G->List Prop)(m:gou_G->Nat)(hs:∀g,allP (Inv g)->gou_side g.1 g.2.1 g.2.2.1 g.2.2.2)(hg:Goes (λg:gou_G=>gou_R g.1 g.2.1 g.2.2.1 g.2.2.2) m λg=>allP (Inv g)):∀b∈loopsOf Tryd.prog 63,lkey b=4->LoopOk Tryd.prog b (gou_C Inv m).g:=loop_run (Γ:=(PTab.gamz tabE0k [] [])) (Λ:=lamE2) (PTab.okz tabE0k [] []) lamE2_ok 100 63 4 100 gou_LP [] Inv (λg=>gou_R g.1 g.2.1 g.2.2.1 g.2.2.2) (λg=>gou_side g.1 g.2.1 g.2.2.1 g.2.2.2) m default [.ret,.exit 0] gou_one (λrd T B HL HB ds g=>by kernel_rfl) (λrd T B HL HB ds g=>by kernel_rfl) hs hg gou_es
end Go.Proofs.YtfkdbifgppfegaaDoor

namespace Go.Proofs.YtfkdbifgppfegaaDoor
open Go.RowKit Go.Sx Go.Lp
set_option maxRecDepth 100000
def nsZ(x y:Nd):Bool:=x.id !=y.id||(x.kind !=y.kind||(!decide (x.fn=y.fn)||(!decide (x.name=y.name)||(x.cap !=y.cap||(x.d !=y.d||(x.ins.length:Int)!=(y.ins.length:Int))))))
theorem nsZ_true{x y:Nd}(h:nsZ x y=true):decide (x=y)=false:=by
 refine decide_eq_false λe=>?_;subst e;simp[nsZ]at h
theorem nsZ_false{x y:Nd}(h:nsZ x y=false):x.ins.length=y.ins.length/\decide (x=y)=decide (x.ins=y.ins):=by
 obtain⟨x1,x2,x3,x4,x5,x6,x7⟩:=x;obtain⟨y1,y2,y3,y4,y5,y6,y7⟩:=y;simp only[nsZ,Bool.or_eq_false_iff,bne_eq_false_iff_eq,Bool.not_eq_false',decide_eq_true_eq]at h;obtain⟨h1,h2,h3,h4,h5,h6,h7⟩:=h;subst h1 h2 h3 h4 h5 h6;refine⟨by show x3.length=y3.length;omega,?_⟩;rw[Bool.eq_iff_iff];simp
theorem gin_res(x y:Nd)(r:Bool)(hm:x.ins.length<=maxLen)(hl:x.ins.length=y.ins.length):(loopF gin_RR gin_M (gin_g (0,(x,y),(r,(),())))).1=(bif decide (x.ins=y.ins)then .exit 2 else .ret)/\(loopF gin_RR gin_M (gin_g (0,(x,y),(r,(),())))).2.2.2.2.2.2=bif decide (x.ins=y.ins)then r else false:=by
 rw[gin_run (x,y) (r,(),()) rfl hm hl];obtain⟨h3,h4⟩:=scanEq (x:=2) eI.dflt x.ins y.ins hl (st:=gin_S (x,y)) (r:=λ_=>(false,(),())) (λ_ _ _=>rfl) (r,(),());refine⟨h3,?_⟩;show(scan 2 (gin_S (x,y)) 0 x.ins (r,(),())).2.2.1=_;rw[h4];cases decide (x.ins=y.ins)<;>rfl
def gou_S(c:gou_GC)(b:gou_GB)(i:Int)(v:Nd):Ex×gou_GB:=bif !decide (v=c.2.getD i.toNat eD.dflt)then(.ret,false)else(.normal,b)
def gou_K(c:gou_GC)(b:gou_GB)(i:Int):Prop:=c.1.length=c.2.length/\∀e:Nat,(c.1.getD e eD.dflt).ins.length<=maxLen
abbrev gou_I(g:gou_G):List Prop:=ixI (λc:gou_GC=>(c.1.length:Int)) (λc:gou_GC=>c.1) gou_K (gou_f g)
abbrev gou_M(g:gou_G):Nat:=ixM (λc:gou_GC=>(c.1.length:Int)) (gou_f g)
theorem gou_P:ixP gou_S (λc:gou_GC=>c.1) gou_K:=λ_ _ _ _ h _ _=>h
noncomputable abbrev gou_RR(g:gou_G):Ex×gou_G:=gou_R g.1 g.2.1 g.2.2.1 g.2.2.2
theorem gou_qs(xs ys:List Nd)(i:Int)(r:Bool):gou_q1 xs ys i r=loopF gin_RR gin_M (gin_g (0,(xs.getD i.toNat eD.dflt,ys.getD i.toNat eD.dflt),(r,(),()))):=by
 unfold gou_q1;simp only[El.ag_eq];rfl
theorem gou_qs2(xs ys:List Nd)(i:Int)(r:Bool):gou_q2 xs ys i r=gou_q1 xs ys i r:=rfl
theorem gou_step(xs ys:List Nd)(i:Int)(r:Bool)(hm:∀e:Nat,(xs.getD e eD.dflt).ins.length<=maxLen):(bif nsZ (xs.getD i.toNat eD.dflt) (ys.getD i.toNat eD.dflt)then((Ex.ret,xs,ys,i,false):Ex×gou_G)else bif exB Ex.ret (gou_q1 xs ys i r).fst then(Ex.ret,xs,ys,i,(gou_q1 xs ys i r).snd.snd.snd.snd.snd.snd)else(Ex.normal,xs,ys,IntKind.i64.wrap (i+(1:Int)),(gou_q1 xs ys i r).snd.snd.snd.snd.snd.snd))
  =bif !decide (xs.getD i.toNat eD.dflt=ys.getD i.toNat eD.dflt)then(.ret,xs,ys,i,false)else(.normal,xs,ys,IntKind.i64.wrap (i+1),r):=by
 cases hz:nsZ (xs.getD i.toNat eD.dflt) (ys.getD i.toNat eD.dflt)with
 |true=>rw[nsZ_true hz];rfl
 |false=>
  obtain⟨hl,he⟩:=nsZ_false hz;obtain⟨h1,h2⟩:=gin_res _ _ r (hm i.toNat) hl;rw[<-gou_qs]at h1 h2;rw[h1,h2,he];cases decide ((xs.getD i.toNat eD.dflt).ins=(ys.getD i.toNat eD.dflt).ins)<;>rfl
theorem gou_RF(d:Int×gou_GC×gou_GB)(hi:allP (ixI (λc:gou_GC=>(c.1.length:Int)) (λc:gou_GC=>c.1) gou_K d)):gou_RR (gou_g d)=((ixF 0 (λc:gou_GC=>(c.1.length:Int)) (λc:gou_GC=>c.1) eD.dflt gou_S d).1,gou_g (ixF 0 (λc:gou_GC=>(c.1.length:Int)) (λc:gou_GC=>c.1) eD.dflt gou_S d).2):=by
 obtain⟨i,⟨xs,ys⟩,r⟩:=d;have hm:=(hi _ (List.mem_cons_self ..)).2.2.2.2.2;show gou_R xs ys i r=_;unfold gou_R ixF gou_S;simp only[El.ag_eq,conj_eF];have hs:=gou_step xs ys i r hm;unfold nsZ at hs;rw[hs];cases decide (i<(xs.length:Int))with
 |false=>rfl
 |true=>
  simp only[cond_true];generalize (!decide ((xs.getD i.toNat eD.dflt)=ys.getD i.toNat eD.dflt))=z;cases z<;>rfl
theorem gou_ok:∀b∈loopsOf Tryd.prog 63,lkey b=4->LoopOk Tryd.prog b (gou_C gou_I gou_M).g:=by
 refine gou_loop gou_I gou_M (λg hi=>?_) (ix_conj_goes (λ_=>rfl) (λ_=>rfl) gou_RF gou_P);obtain⟨xs,ys,i,r⟩:=g;obtain⟨h1,h2,h3,h4,h5,h6⟩:=hi _ (List.mem_cons_self ..);have h3:0<=i:=h3;have h5:xs.length=ys.length:=h5;have hm:=h6;show gou_side xs ys i r;unfold gou_side;simp only[El.okL_eq,El.ag_eq,true_and,and_true,conj_eF,gou_qs2];have hs:=gou_step xs ys i r h6;have hj:nsZ (xs.getD i.toNat eD.dflt) (ys.getD i.toNat eD.dflt)=false->(xs.getD i.toNat eD.dflt).ins.length<=maxLen/\(xs.getD i.toNat eD.dflt).ins.length=(ys.getD i.toNat eD.dflt).ins.length:=λhz=>⟨hm _,(nsZ_false hz).1⟩;refine⟨λhlt cs=>?_,λ_=>trivial⟩;have hlt:=of_decide_eq_true hlt;have h0:(0<=i/\i<(xs.length:Int))/\0<=i/\i<(ys.length:Int):=⟨⟨h3,hlt⟩,h3,by omega⟩;clear hs hm h6 h1 h2 h4;have hz0:∀z,nsZ (xs.getD i.toNat eD.dflt) (ys.getD i.toNat eD.dflt)=z->nsZ (xs.getD i.toNat eD.dflt) (ys.getD i.toNat eD.dflt)=z:=λ_ h=>h;refine⟨λ_=>⟨h0.1,h0.2,λhz d=>?_,λhz=>⟨ixJ0 rfl (hj hz).1 (hj hz).2,λhe d=>?_,λhe d=>?_⟩⟩,λ_=>⟨h0.1,h0.2,λhz d=>?_,λhz=>⟨ixJ0 rfl (hj hz).1 (hj hz).2,λhe d=>?_,λhe d=>?_⟩⟩⟩
 all_goals (first|(rw[hz];rfl)|(rw[hz,cond_false,he];rfl))
theorem gou_run(xs ys:List Nd)(r:Bool)(hl:xs.length<=maxLen)(hK:gou_K (xs,ys) r 0):loopF gou_RR gou_M (gou_g (0,(xs,ys),r))=((scan 0 (gou_S (xs,ys)) 0 xs r).1,gou_g ((scan 0 (gou_S (xs,ys)) 0 xs r).2.1,(xs,ys),(scan 0 (gou_S (xs,ys)) 0 xs r).2.2)):=
 ix_conj_run (φ:=gou_f) (ψ:=gou_g) (λ_=>rfl) (λ_=>rfl) gou_RF gou_P (xs,ys) r rfl hl hK
noncomputable def ltE4:LTab Tryd.prog:=ltE2.cons 63 4 (lconFrz [2,3] (gou_C gou_I gou_M)) (λb hb hk=>frzLoop_ok (gou_ok b hb hk))
noncomputable abbrev lamE4:Lam:=ltE4.lam
theorem lamE4_ok:∀f k L,lamE4 f k=some L->∀b∈loopsOf Tryd.prog f,lkey b=k->LoopOk Tryd.prog b L.g:=ltE4.ok
end Go.Proofs.YtfkdbifgppfegaaDoor

namespace Go.Proofs.YtfkdbifgppfegaaDoor
open Go.RowKit Go.Sx
set_option maxRecDepth 100000
abbrev dG:Dv (List Nd):=.agg eLD
abbrev aGG:DA (List Nd×List Nd):=.cons dG (.one dG)
noncomputable def gsm_q1(a:List Nd)(b:List Nd):Ex×
 gou_G:=
 loopF (λg=>gou_R g.fst g.snd.fst g.snd.snd.fst g.snd.snd.snd) gou_M (eD.ag a,eD.ag b,(0:Int),false)
noncomputable def gsm_F(a:List Nd)(b:List Nd):Dv.T dBool:=
 bif (↑a.length:Int)!=(↑b.length:Int)then false
 else bif exB Ex.ret (gsm_q1 a b).fst then(gsm_q1 a b).snd.snd.snd.snd else true
def gsm_side(a:List Nd)(b:List Nd):Prop:=
 ((↑a.length:Int)!=(↑b.length:Int))=false->eD.okL a/\eD.okL b/\Lp.ixJ (λc=>(↑c.fst.length:Int)) (λc=>c.fst) gou_K (gou_f (eD.ag a,eD.ag b,(0:Int),false))
theorem gsm_okS(pre:DA.T aGG->List Prop)(h:∀g,DA.bd aGG g->(∀p∈pre g,p)->gsm_side g.1 g.2):FnPure Tryd.prog 63 aGG dBool (λg=>gsm_F g.1 g.2) pre:=pure_of_sideS (Γ:=(PTab.gamz tabE0k [] [])) (Λ:=lamE4) (PTab.okz tabE0k [] []) lamE4_ok 100 default (λg=>gsm_side g.1 g.2) (λg=>by kernel_rfl) (λg=>by kernel_rfl) h
end Go.Proofs.YtfkdbifgppfegaaDoor

namespace Go.Proofs.YtfkdbifgppfegaaDoor
open Go.RowKit Go.Sx Go.Lp
theorem nsm_ok:FnPure Tryd.prog 110 aNdF dBool (λg=>decide (g.1=g.2.1)) (λ_=>[]):=by
 refine pure_congr (nsm_okS (λ_=>[]) λg hb _=>?_) λg hb _=>?_
 all_goals (obtain⟨a,b,⟨⟩⟩:=g;have ha:a.length<=maxLen:=hb.1.1)
 .show nsm_side a b ();unfold nsm_side;simp only[El.okL_eq,El.ag_eq];exactλhc=>⟨trivial,trivial,ixJ0 rfl ha (ne_len hc)⟩
 show nsm_F a b ()=decide (a=b)
 have hq:nsm_q1 a b ()=loopF qnd_RR qnd_M (qnd_g (0,(a,b,(a.length:Int)),false,())):=by
  unfold nsm_q1;rw[El.ag_eq,El.ag_eq];rfl
 unfold nsm_F;cases hc:((a.length:Int)!=(b.length:Int))with
 |true=>
  have:a≠b:=λe=>by subst e;simp at hc
  simp[this]
 |false=>
  have hl:=ne_len hc;obtain⟨h3,h4⟩:=scanEq (x:=0) eD.dflt a b hl (st:=qnd_S (a,b,(a.length:Int))) (r:=λ_=>(false,())) (λ_ _ _=>rfl) (false,());rw[hq,qnd_run (a,b,(a.length:Int)) (false,()) rfl ha hl];show(bif exB .ret (scan 0 (qnd_S (a,b,(a.length:Int))) 0 a (false,())).1 then(scan 0 (qnd_S (a,b,(a.length:Int))) 0 a (false,())).2.2.1 else true)=_;rw[h3,h4];cases decide (a=b)<;>rfl
theorem nds_len(a:List Nd)(h:∀x∈a,eD.bd x)(e:Nat):(a.getD e eD.dflt).ins.length<=maxLen:=by
 by_cases he:e<a.length
 .rw[List.getD_eq_getElem?_getD,List.getElem?_eq_getElem he];have h:eD.bd a[e]:=h _ (List.getElem_mem he);exact h.2.2.1.1
 .rw[List.getD_eq_getElem?_getD,List.getElem?_eq_none (by omega)];exact Nat.zero_le _
theorem gsm_ok:FnPure Tryd.prog 63 aGG dBool (λg=>decide (g.1=g.2)) (λ_=>[]):=by
 refine pure_congr (gsm_okS (λ_=>[]) λg hb _=>?_) λg hb _=>?_
 all_goals (obtain⟨a,b⟩:=g;have ha:a.length<=maxLen:=hb.1.1;have hi:=nds_len a hb.1.2)
 .show gsm_side a b;unfold gsm_side;simp only[El.okL_eq,El.ag_eq];exactλhc=>⟨trivial,trivial,ixJ0 rfl ha ⟨ne_len hc,hi⟩⟩
 show gsm_F a b=decide (a=b)
 have hq:gsm_q1 a b=loopF gou_RR gou_M (gou_g (0,(a,b),false)):=by
  unfold gsm_q1;rw[El.ag_eq,El.ag_eq];rfl
 unfold gsm_F;cases hc:((a.length:Int)!=(b.length:Int))with
 |true=>
  have:a≠b:=λe=>by subst e;simp at hc
  simp[this]
 |false=>
  have hl:=ne_len hc;obtain⟨h3,h4⟩:=scanEq (x:=0) eD.dflt a b hl (st:=gou_S (a,b)) (r:=λ_=>false) (λ_ _ _=>rfl) false;rw[hq,gou_run a b false ha ⟨hl,hi⟩];show(bif exB .ret (scan 0 (gou_S (a,b)) 0 a false).1 then(scan 0 (gou_S (a,b)) 0 a false).2.2 else true)=_;rw[h3,h4];cases decide (a=b)<;>rfl
noncomputable def tabE6:PTab Tryd.prog:=(tabE0k.cons 110 (pconP aNdF dBool (λg=>decide (g.1=g.2.1)) (λ_=>[])) (conP_ok nsm_ok puB)).cons 63 (pconP aGG dBool (λg=>decide (g.1=g.2)) (λ_=>[])) (conP_ok gsm_ok puB)
end Go.Proofs.YtfkdbifgppfegaaDoor

namespace Go.Proofs.YtfkdbifgppfegaaDoor
open Go.RowKit Go.Sx
set_option maxRecDepth 100000
noncomputable def dsm_F(a:Dl)(b:Dl):Dv.T dBool:=
 decide (eI.ag a.drop=eI.ag b.drop)&&(decide (eV.ag a.moves=eV.ag b.moves)&&decide (eD.ag a.put=eD.ag b.put))
def dsm_side(a:Dl)(b:Dl):Prop:=
 eI.okL a.drop/\eI.okL b.drop/\(decide (eI.ag a.drop=eI.ag b.drop)=true->eV.okL a.moves)/\(decide (eI.ag a.drop=eI.ag b.drop)=true->eV.okL b.moves)/\(decide (eI.ag a.drop=eI.ag b.drop)=true->decide (eV.ag a.moves=eV.ag b.moves)=true->eD.okL a.put)/\(decide (eI.ag a.drop=eI.ag b.drop)=true->decide (eV.ag a.moves=eV.ag b.moves)=true->eD.okL b.put)
theorem dsm_okS(pre:DA.T aDlDl->List Prop)(h:∀g,DA.bd aDlDl g->(∀p∈pre g,p)->dsm_side g.1 g.2):FnPure Tryd.prog 99 aDlDl dBool (λg=>dsm_F g.1 g.2) pre:=pure_of_sideS (Γ:=(PTab.gamz tabE6 [] [])) (Λ:=lamE4) (PTab.okz tabE6 [] []) lamE4_ok 100 default (λg=>dsm_side g.1 g.2) (λg=>by kernel_rfl) (λg=>by kernel_rfl) h
noncomputable def rdsm_q1(a:Dl)(b:Dl):Ex×
 mvl_G:=
 loopF (λg=>mvl_R g.fst g.snd.fst g.snd.snd.fst g.snd.snd.snd.fst g.snd.snd.snd.snd.fst g.snd.snd.snd.snd.snd) mvl_M ((),Dl.mk (eI.ag a.drop) (eD.ag a.put) (eV.ag a.moves),(),Dl.mk (eI.ag b.drop) (eD.ag b.put) (eV.ag b.moves),(0:Int),false)
noncomputable def rdsm_F(a:Dl)(b:Dl):Dv.T dBool:=
 bif !decide (eI.ag a.drop=eI.ag b.drop)||(!decide (eD.ag a.put=eD.ag b.put)||(↑a.moves.length:Int)!=(↑b.moves.length:Int))then false
 else bif exB Ex.ret (rdsm_q1 a b).fst then(rdsm_q1 a b).snd.snd.snd.snd.snd.snd else true
def rdsm_side(a:Dl)(b:Dl):Prop:=
 eI.okL a.drop/\eI.okL b.drop/\((!!decide (eI.ag a.drop=eI.ag b.drop))=true->eD.okL a.put)/\((!!decide (eI.ag a.drop=eI.ag b.drop))=true->eD.okL b.put)/\((!decide (eI.ag a.drop=eI.ag b.drop)||(!decide (eD.ag a.put=eD.ag b.put)||(↑a.moves.length:Int)!=(↑b.moves.length:Int)))=false->eI.okL a.drop/\eD.okL a.put/\eV.okL a.moves/\eI.okL b.drop/\eD.okL b.put/\eV.okL b.moves/\Lp.ixJ (λc=>(↑c.fst.moves.length:Int)) (λc=>c.fst.moves) mvl_K (mvl_f ((),Dl.mk (eI.ag a.drop) (eD.ag a.put) (eV.ag a.moves),(),Dl.mk (eI.ag b.drop) (eD.ag b.put) (eV.ag b.moves),(0:Int),false)))
theorem rdsm_okS(pre:DA.T aDlDl->List Prop)(h:∀g,DA.bd aDlDl g->(∀p∈pre g,p)->rdsm_side g.1 g.2):FnPure Tryd.prog 33 aDlDl dBool (λg=>rdsm_F g.1 g.2) pre:=pure_of_sideS (Γ:=(PTab.gamz tabE6 [] [])) (Λ:=lamE4) (PTab.okz tabE6 [] []) lamE4_ok 100 default (λg=>rdsm_side g.1 g.2) (λg=>by kernel_rfl) (λg=>by kernel_rfl) h
end Go.Proofs.YtfkdbifgppfegaaDoor

namespace Go.Proofs.YtfkdbifgppfegaaDoor
open Go.RowKit Go.Sx Go.Lp
theorem dsm_ok:FnPure Tryd.prog 99 aDlDl dBool (λg=>decide (g.1=g.2)) (λ_=>[]):=by
 refine pure_congr (dsm_okS (λ_=>[]) λg hb _=>?_) λg hb _=>?_
 .obtain⟨a,b⟩:=g;show dsm_side a b;unfold dsm_side;simp only[El.okL_eq,implies_true,and_self]
 .obtain⟨⟨a1,a2,a3⟩,⟨b1,b2,b3⟩⟩:=g;show dsm_F _ _=_;unfold dsm_F;simp only[El.ag_eq];rw[Bool.eq_iff_iff];simp only[Bool.and_eq_true,decide_eq_true_eq,Dl.mk.injEq];exact⟨λ⟨h1,h2,h3⟩=>⟨h1,h3,h2⟩,λ⟨h1,h2,h3⟩=>⟨h1,h3,h2⟩⟩
theorem rdsm_ok:FnPure Tryd.prog 33 aDlDl dBool (λg=>decide (g.1=g.2)) (λ_=>[]):=by
 refine pure_congr (rdsm_okS (λ_=>[]) λg hb _=>?_) λg hb _=>?_
 all_goals (obtain⟨a,b⟩:=g;have ha:a.moves.length<=maxLen:=hb.1.2.2.1)
 .show rdsm_side a b;unfold rdsm_side;simp only[El.okL_eq,El.ag_eq,implies_true,true_and];intro h;simp only[Bool.or_eq_false_iff]at h;exact ixJ0 rfl ha (ne_len h.2.2)
 show rdsm_F a b=decide (a=b)
 have hq:rdsm_q1 a b=loopF mvl_RR mvl_M (mvl_g (0,(a,b),false,(),())):=by
  unfold rdsm_q1;simp only[El.ag_eq];rfl
 unfold rdsm_F;simp only[El.ag_eq];cases hc:(!decide (a.drop=b.drop)||(!decide (a.put=b.put)||(a.moves.length:Int)!=(b.moves.length:Int)))with
 |true=>
  have:a≠b:=λe=>by subst e;simp at hc
  simp[this]
 |false=>
  simp only[Bool.or_eq_false_iff,Bool.not_eq_false',decide_eq_true_eq]at hc;obtain⟨h1,h2,h3⟩:=hc;have hl:=ne_len h3;obtain⟨h3,h4⟩:=scanEq (x:=0) eV.dflt a.moves b.moves hl (st:=mvl_S (a,b)) (r:=λ_=>(false,(),())) (λ_ _ _=>rfl) (false,(),());rw[hq,mvl_run (a,b) (false,(),()) rfl ha hl];show(bif exB .ret (scan 0 (mvl_S (a,b)) 0 a.moves (false,(),())).1 then(scan 0 (mvl_S (a,b)) 0 a.moves (false,(),())).2.2.1 else true)=_;rw[h3,h4]
  have:decide (a=b)=decide (a.moves=b.moves):=by
   obtain⟨a1,a2,a3⟩:=a;obtain⟨b1,b2,b3⟩:=b;simp only at h1 h2;subst h1 h2;rw[Bool.eq_iff_iff];simp
  rw[this];cases decide (a.moves=b.moves)<;>rfl
noncomputable def tabE8:PTab Tryd.prog:=(tabE6.cons 99 (pconP aDlDl dBool (λg=>decide (g.1=g.2)) (λ_=>[])) (conP_ok dsm_ok puB)).cons 33 (pconP aDlDl dBool (λg=>decide (g.1=g.2)) (λ_=>[])) (conP_ok rdsm_ok puB)
end Go.Proofs.YtfkdbifgppfegaaDoor

namespace Go.Proofs.YtfkdbifgppfegaaDoor
open Go.RowKit Go.Sx
set_option maxRecDepth 100000
noncomputable def msm_F(a:Ms)(b:Ms):Dv.T dBool:=
 a.kind==b.kind&&(a.ver==b.ver&&(conj ([a.p.node==b.p.node]++([a.p.port==b.p.port]++[]))&&(conj ([a.t.e==b.t.e]++([a.t.d==b.t.d]++([a.t.l0==b.t.l0]++([a.t.l1==b.t.l1]++([a.t.l2==b.t.l2]++([a.t.l3==b.t.l3]++[])))++[])))&&(a.cut==b.cut&&(a.yes==b.yes&&(a.why==b.why&&(decide (eR.ag a.recs=eR.ag b.recs)&&(decide (eC.ag a.changes=eC.ag b.changes)&&(decide (eN.ag a.ents=eN.ag b.ents)&&decide (Dl.mk (eI.ag a.dl.drop) (eD.ag a.dl.put) (eV.ag a.dl.moves)=Dl.mk (eI.ag b.dl.drop) (eD.ag b.dl.put) (eV.ag b.dl.moves)))))))))))
def msm_side(a:Ms)(b:Ms):Prop:=
 ((a.kind==b.kind)=true->(a.ver==b.ver)=true->conj ([a.p.node==b.p.node]++([a.p.port==b.p.port]++[]))=true->conj ([a.t.e==b.t.e]++([a.t.d==b.t.d]++([a.t.l0==b.t.l0]++([a.t.l1==b.t.l1]++([a.t.l2==b.t.l2]++([a.t.l3==b.t.l3]++[])))++[])))=true->(a.cut==b.cut)=true->(a.yes==b.yes)=true->(a.why==b.why)=true->eR.okL a.recs)/\((a.kind==b.kind)=true->(a.ver==b.ver)=true->conj ([a.p.node==b.p.node]++([a.p.port==b.p.port]++[]))=true->conj ([a.t.e==b.t.e]++([a.t.d==b.t.d]++([a.t.l0==b.t.l0]++([a.t.l1==b.t.l1]++([a.t.l2==b.t.l2]++([a.t.l3==b.t.l3]++[])))++[])))=true->(a.cut==b.cut)=true->(a.yes==b.yes)=true->(a.why==b.why)=true->eR.okL b.recs)/\((a.kind==b.kind)=true->(a.ver==b.ver)=true->conj ([a.p.node==b.p.node]++([a.p.port==b.p.port]++[]))=true->conj ([a.t.e==b.t.e]++([a.t.d==b.t.d]++([a.t.l0==b.t.l0]++([a.t.l1==b.t.l1]++([a.t.l2==b.t.l2]++([a.t.l3==b.t.l3]++[])))++[])))=true->(a.cut==b.cut)=true->(a.yes==b.yes)=true->(a.why==b.why)=true->decide (eR.ag a.recs=eR.ag b.recs)=true->eC.okL a.changes)/\((a.kind==b.kind)=true->(a.ver==b.ver)=true->conj ([a.p.node==b.p.node]++([a.p.port==b.p.port]++[]))=true->conj ([a.t.e==b.t.e]++([a.t.d==b.t.d]++([a.t.l0==b.t.l0]++([a.t.l1==b.t.l1]++([a.t.l2==b.t.l2]++([a.t.l3==b.t.l3]++[])))++[])))=true->(a.cut==b.cut)=true->(a.yes==b.yes)=true->(a.why==b.why)=true->decide (eR.ag a.recs=eR.ag b.recs)=true->eC.okL b.changes)/\((a.kind==b.kind)=true->(a.ver==b.ver)=true->conj ([a.p.node==b.p.node]++([a.p.port==b.p.port]++[]))=true->conj ([a.t.e==b.t.e]++([a.t.d==b.t.d]++([a.t.l0==b.t.l0]++([a.t.l1==b.t.l1]++([a.t.l2==b.t.l2]++([a.t.l3==b.t.l3]++[])))++[])))=true->(a.cut==b.cut)=true->(a.yes==b.yes)=true->(a.why==b.why)=true->decide (eR.ag a.recs=eR.ag b.recs)=true->decide (eC.ag a.changes=eC.ag b.changes)=true->eN.okL a.ents)/\((a.kind==b.kind)=true->(a.ver==b.ver)=true->conj ([a.p.node==b.p.node]++([a.p.port==b.p.port]++[]))=true->conj ([a.t.e==b.t.e]++([a.t.d==b.t.d]++([a.t.l0==b.t.l0]++([a.t.l1==b.t.l1]++([a.t.l2==b.t.l2]++([a.t.l3==b.t.l3]++[])))++[])))=true->(a.cut==b.cut)=true->(a.yes==b.yes)=true->(a.why==b.why)=true->decide (eR.ag a.recs=eR.ag b.recs)=true->decide (eC.ag a.changes=eC.ag b.changes)=true->eN.okL b.ents)/\((a.kind==b.kind)=true->(a.ver==b.ver)=true->conj ([a.p.node==b.p.node]++([a.p.port==b.p.port]++[]))=true->conj ([a.t.e==b.t.e]++([a.t.d==b.t.d]++([a.t.l0==b.t.l0]++([a.t.l1==b.t.l1]++([a.t.l2==b.t.l2]++([a.t.l3==b.t.l3]++[])))++[])))=true->(a.cut==b.cut)=true->(a.yes==b.yes)=true->(a.why==b.why)=true->decide (eR.ag a.recs=eR.ag b.recs)=true->decide (eC.ag a.changes=eC.ag b.changes)=true->decide (eN.ag a.ents=eN.ag b.ents)=true->eI.okL a.dl.drop)/\((a.kind==b.kind)=true->(a.ver==b.ver)=true->conj ([a.p.node==b.p.node]++([a.p.port==b.p.port]++[]))=true->conj ([a.t.e==b.t.e]++([a.t.d==b.t.d]++([a.t.l0==b.t.l0]++([a.t.l1==b.t.l1]++([a.t.l2==b.t.l2]++([a.t.l3==b.t.l3]++[])))++[])))=true->(a.cut==b.cut)=true->(a.yes==b.yes)=true->(a.why==b.why)=true->decide (eR.ag a.recs=eR.ag b.recs)=true->decide (eC.ag a.changes=eC.ag b.changes)=true->decide (eN.ag a.ents=eN.ag b.ents)=true->eD.okL a.dl.put)/\((a.kind==b.kind)=true->(a.ver==b.ver)=true->conj ([a.p.node==b.p.node]++([a.p.port==b.p.port]++[]))=true->conj ([a.t.e==b.t.e]++([a.t.d==b.t.d]++([a.t.l0==b.t.l0]++([a.t.l1==b.t.l1]++([a.t.l2==b.t.l2]++([a.t.l3==b.t.l3]++[])))++[])))=true->(a.cut==b.cut)=true->(a.yes==b.yes)=true->(a.why==b.why)=true->decide (eR.ag a.recs=eR.ag b.recs)=true->decide (eC.ag a.changes=eC.ag b.changes)=true->decide (eN.ag a.ents=eN.ag b.ents)=true->eV.okL a.dl.moves)/\((a.kind==b.kind)=true->(a.ver==b.ver)=true->conj ([a.p.node==b.p.node]++([a.p.port==b.p.port]++[]))=true->conj ([a.t.e==b.t.e]++([a.t.d==b.t.d]++([a.t.l0==b.t.l0]++([a.t.l1==b.t.l1]++([a.t.l2==b.t.l2]++([a.t.l3==b.t.l3]++[])))++[])))=true->(a.cut==b.cut)=true->(a.yes==b.yes)=true->(a.why==b.why)=true->decide (eR.ag a.recs=eR.ag b.recs)=true->decide (eC.ag a.changes=eC.ag b.changes)=true->decide (eN.ag a.ents=eN.ag b.ents)=true->eI.okL b.dl.drop)/\((a.kind==b.kind)=true->(a.ver==b.ver)=true->conj ([a.p.node==b.p.node]++([a.p.port==b.p.port]++[]))=true->conj ([a.t.e==b.t.e]++([a.t.d==b.t.d]++([a.t.l0==b.t.l0]++([a.t.l1==b.t.l1]++([a.t.l2==b.t.l2]++([a.t.l3==b.t.l3]++[])))++[])))=true->(a.cut==b.cut)=true->(a.yes==b.yes)=true->(a.why==b.why)=true->decide (eR.ag a.recs=eR.ag b.recs)=true->decide (eC.ag a.changes=eC.ag b.changes)=true->decide (eN.ag a.ents=eN.ag b.ents)=true->eD.okL b.dl.put)/\((a.kind==b.kind)=true->(a.ver==b.ver)=true->conj ([a.p.node==b.p.node]++([a.p.port==b.p.port]++[]))=true->conj ([a.t.e==b.t.e]++([a.t.d==b.t.d]++([a.t.l0==b.t.l0]++([a.t.l1==b.t.l1]++([a.t.l2==b.t.l2]++([a.t.l3==b.t.l3]++[])))++[])))=true->(a.cut==b.cut)=true->(a.yes==b.yes)=true->(a.why==b.why)=true->decide (eR.ag a.recs=eR.ag b.recs)=true->decide (eC.ag a.changes=eC.ag b.changes)=true->decide (eN.ag a.ents=eN.ag b.ents)=true->eV.okL b.dl.moves)
theorem msm_okS(pre:DA.T aMM->List Prop)(h:∀g,DA.bd aMM g->(∀p∈pre g,p)->msm_side g.1 g.2):FnPure Tryd.prog 72 aMM dBool (λg=>msm_F g.1 g.2) pre:=pure_of_sideS (Γ:=(PTab.gamz tabE8 [] [])) (Λ:=noΛ) (PTab.okz tabE8 [] []) noΛ_ok 100 default (λg=>msm_side g.1 g.2) (λg=>by kernel_rfl) (λg=>by kernel_rfl) h
noncomputable def rmsm_F(a:Ms)(b:Ms):Dv.T dBool:=
 a.kind==b.kind&&(a.ver==b.ver&&(conj ([a.p.node==b.p.node]++([a.p.port==b.p.port]++[]))&&(conj ([a.t.e==b.t.e]++([a.t.d==b.t.d]++([a.t.l0==b.t.l0]++([a.t.l1==b.t.l1]++([a.t.l2==b.t.l2]++([a.t.l3==b.t.l3]++[])))++[])))&&(decide (eR.ag a.recs=eR.ag b.recs)&&(decide (eC.ag a.changes=eC.ag b.changes)&&(decide (Dl.mk (eI.ag a.dl.drop) (eD.ag a.dl.put) (eV.ag a.dl.moves)=Dl.mk (eI.ag b.dl.drop) (eD.ag b.dl.put) (eV.ag b.dl.moves))&&(a.cut==b.cut&&(decide (eN.ag a.ents=eN.ag b.ents)&&(a.yes==b.yes&&a.why==b.why)))))))))
def rmsm_side(a:Ms)(b:Ms):Prop:=
 ((a.kind==b.kind)=true->(a.ver==b.ver)=true->conj ([a.p.node==b.p.node]++([a.p.port==b.p.port]++[]))=true->conj ([a.t.e==b.t.e]++([a.t.d==b.t.d]++([a.t.l0==b.t.l0]++([a.t.l1==b.t.l1]++([a.t.l2==b.t.l2]++([a.t.l3==b.t.l3]++[])))++[])))=true->eR.okL a.recs)/\((a.kind==b.kind)=true->(a.ver==b.ver)=true->conj ([a.p.node==b.p.node]++([a.p.port==b.p.port]++[]))=true->conj ([a.t.e==b.t.e]++([a.t.d==b.t.d]++([a.t.l0==b.t.l0]++([a.t.l1==b.t.l1]++([a.t.l2==b.t.l2]++([a.t.l3==b.t.l3]++[])))++[])))=true->eR.okL b.recs)/\((a.kind==b.kind)=true->(a.ver==b.ver)=true->conj ([a.p.node==b.p.node]++([a.p.port==b.p.port]++[]))=true->conj ([a.t.e==b.t.e]++([a.t.d==b.t.d]++([a.t.l0==b.t.l0]++([a.t.l1==b.t.l1]++([a.t.l2==b.t.l2]++([a.t.l3==b.t.l3]++[])))++[])))=true->decide (eR.ag a.recs=eR.ag b.recs)=true->eC.okL a.changes)/\((a.kind==b.kind)=true->(a.ver==b.ver)=true->conj ([a.p.node==b.p.node]++([a.p.port==b.p.port]++[]))=true->conj ([a.t.e==b.t.e]++([a.t.d==b.t.d]++([a.t.l0==b.t.l0]++([a.t.l1==b.t.l1]++([a.t.l2==b.t.l2]++([a.t.l3==b.t.l3]++[])))++[])))=true->decide (eR.ag a.recs=eR.ag b.recs)=true->eC.okL b.changes)/\((a.kind==b.kind)=true->(a.ver==b.ver)=true->conj ([a.p.node==b.p.node]++([a.p.port==b.p.port]++[]))=true->conj ([a.t.e==b.t.e]++([a.t.d==b.t.d]++([a.t.l0==b.t.l0]++([a.t.l1==b.t.l1]++([a.t.l2==b.t.l2]++([a.t.l3==b.t.l3]++[])))++[])))=true->decide (eR.ag a.recs=eR.ag b.recs)=true->decide (eC.ag a.changes=eC.ag b.changes)=true->eI.okL a.dl.drop)/\((a.kind==b.kind)=true->(a.ver==b.ver)=true->conj ([a.p.node==b.p.node]++([a.p.port==b.p.port]++[]))=true->conj ([a.t.e==b.t.e]++([a.t.d==b.t.d]++([a.t.l0==b.t.l0]++([a.t.l1==b.t.l1]++([a.t.l2==b.t.l2]++([a.t.l3==b.t.l3]++[])))++[])))=true->decide (eR.ag a.recs=eR.ag b.recs)=true->decide (eC.ag a.changes=eC.ag b.changes)=true->eD.okL a.dl.put)/\((a.kind==b.kind)=true->(a.ver==b.ver)=true->conj ([a.p.node==b.p.node]++([a.p.port==b.p.port]++[]))=true->conj ([a.t.e==b.t.e]++([a.t.d==b.t.d]++([a.t.l0==b.t.l0]++([a.t.l1==b.t.l1]++([a.t.l2==b.t.l2]++([a.t.l3==b.t.l3]++[])))++[])))=true->decide (eR.ag a.recs=eR.ag b.recs)=true->decide (eC.ag a.changes=eC.ag b.changes)=true->eV.okL a.dl.moves)/\((a.kind==b.kind)=true->(a.ver==b.ver)=true->conj ([a.p.node==b.p.node]++([a.p.port==b.p.port]++[]))=true->conj ([a.t.e==b.t.e]++([a.t.d==b.t.d]++([a.t.l0==b.t.l0]++([a.t.l1==b.t.l1]++([a.t.l2==b.t.l2]++([a.t.l3==b.t.l3]++[])))++[])))=true->decide (eR.ag a.recs=eR.ag b.recs)=true->decide (eC.ag a.changes=eC.ag b.changes)=true->eI.okL b.dl.drop)/\((a.kind==b.kind)=true->(a.ver==b.ver)=true->conj ([a.p.node==b.p.node]++([a.p.port==b.p.port]++[]))=true->conj ([a.t.e==b.t.e]++([a.t.d==b.t.d]++([a.t.l0==b.t.l0]++([a.t.l1==b.t.l1]++([a.t.l2==b.t.l2]++([a.t.l3==b.t.l3]++[])))++[])))=true->decide (eR.ag a.recs=eR.ag b.recs)=true->decide (eC.ag a.changes=eC.ag b.changes)=true->eD.okL b.dl.put)/\((a.kind==b.kind)=true->(a.ver==b.ver)=true->conj ([a.p.node==b.p.node]++([a.p.port==b.p.port]++[]))=true->conj ([a.t.e==b.t.e]++([a.t.d==b.t.d]++([a.t.l0==b.t.l0]++([a.t.l1==b.t.l1]++([a.t.l2==b.t.l2]++([a.t.l3==b.t.l3]++[])))++[])))=true->decide (eR.ag a.recs=eR.ag b.recs)=true->decide (eC.ag a.changes=eC.ag b.changes)=true->eV.okL b.dl.moves)/\((a.kind==b.kind)=true->(a.ver==b.ver)=true->conj ([a.p.node==b.p.node]++([a.p.port==b.p.port]++[]))=true->conj ([a.t.e==b.t.e]++([a.t.d==b.t.d]++([a.t.l0==b.t.l0]++([a.t.l1==b.t.l1]++([a.t.l2==b.t.l2]++([a.t.l3==b.t.l3]++[])))++[])))=true->decide (eR.ag a.recs=eR.ag b.recs)=true->decide (eC.ag a.changes=eC.ag b.changes)=true->decide (Dl.mk (eI.ag a.dl.drop) (eD.ag a.dl.put) (eV.ag a.dl.moves)=Dl.mk (eI.ag b.dl.drop) (eD.ag b.dl.put) (eV.ag b.dl.moves))=true->(a.cut==b.cut)=true->eN.okL a.ents)/\((a.kind==b.kind)=true->(a.ver==b.ver)=true->conj ([a.p.node==b.p.node]++([a.p.port==b.p.port]++[]))=true->conj ([a.t.e==b.t.e]++([a.t.d==b.t.d]++([a.t.l0==b.t.l0]++([a.t.l1==b.t.l1]++([a.t.l2==b.t.l2]++([a.t.l3==b.t.l3]++[])))++[])))=true->decide (eR.ag a.recs=eR.ag b.recs)=true->decide (eC.ag a.changes=eC.ag b.changes)=true->decide (Dl.mk (eI.ag a.dl.drop) (eD.ag a.dl.put) (eV.ag a.dl.moves)=Dl.mk (eI.ag b.dl.drop) (eD.ag b.dl.put) (eV.ag b.dl.moves))=true->(a.cut==b.cut)=true->eN.okL b.ents)
theorem rmsm_okS(pre:DA.T aMM->List Prop)(h:∀g,DA.bd aMM g->(∀p∈pre g,p)->rmsm_side g.1 g.2):FnPure Tryd.prog 39 aMM dBool (λg=>rmsm_F g.1 g.2) pre:=pure_of_sideS (Γ:=(PTab.gamz tabE8 [] [])) (Λ:=noΛ) (PTab.okz tabE8 [] []) noΛ_ok 100 default (λg=>rmsm_side g.1 g.2) (λg=>by kernel_rfl) (λg=>by kernel_rfl) h
end Go.Proofs.YtfkdbifgppfegaaDoor

namespace Go.Proofs.YtfkdbifgppfegaaDoor
open Go.RowKit Go.Sx Go.Lp
theorem msm_ok:FnPure Tryd.prog 72 aMM dBool (λg=>decide (g.1=g.2)) (λ_=>[]):=by
 refine pure_congr (msm_okS (λ_=>[]) λg hb _=>?_) λg hb _=>?_
 .obtain⟨a,b⟩:=g;show msm_side a b;unfold msm_side;simp only[El.okL_eq,implies_true,and_self]
 .obtain⟨⟨a1,a2,a3,a4,a5,a6,a7,a8,a9,a10,a11⟩,⟨b1,b2,b3,b4,b5,b6,b7,b8,b9,b10,b11⟩⟩:=g;show msm_F _ _=_;unfold msm_F;simp only[El.ag_eq,conj_eP,conj_eT];rw[Bool.eq_iff_iff];simp only[Bool.and_eq_true,beq_iff_eq,decide_eq_true_eq,Ms.mk.injEq];exact⟨λ⟨h1,h2,h3,h4,h8,h10,h11,h5,h6,h9,h7⟩=>⟨h1,h2,h3,h4,h5,h6,h7,h8,h9,h10,h11⟩,λ⟨h1,h2,h3,h4,h5,h6,h7,h8,h9,h10,h11⟩=>⟨h1,h2,h3,h4,h8,h10,h11,h5,h6,h9,h7⟩⟩
theorem rmsm_ok:FnPure Tryd.prog 39 aMM dBool (λg=>decide (g.1=g.2)) (λ_=>[]):=by
 refine pure_congr (rmsm_okS (λ_=>[]) λg hb _=>?_) λg hb _=>?_
 .obtain⟨a,b⟩:=g;show rmsm_side a b;unfold rmsm_side;simp only[El.okL_eq,implies_true,and_self]
 .obtain⟨⟨a1,a2,a3,a4,a5,a6,a7,a8,a9,a10,a11⟩,⟨b1,b2,b3,b4,b5,b6,b7,b8,b9,b10,b11⟩⟩:=g;show rmsm_F _ _=_;unfold rmsm_F;simp only[El.ag_eq,conj_eP,conj_eT];rw[Bool.eq_iff_iff];simp only[Bool.and_eq_true,beq_iff_eq,decide_eq_true_eq,Ms.mk.injEq]
noncomputable def tabE10:PTab Tryd.prog:=(tabE8.cons 72 (pconP aMM dBool (λg=>decide (g.1=g.2)) (λ_=>[])) (conP_ok msm_ok puB)).cons 39 (pconP aMM dBool (λg=>decide (g.1=g.2)) (λ_=>[])) (conP_ok rmsm_ok puB)
end Go.Proofs.YtfkdbifgppfegaaDoor

namespace Go.Proofs.YtfkdbifgppfegaaDoor
open Go.RowKit Go.Sx
set_option maxRecDepth 100000
noncomputable def vsm_F(a:Ld)(b:Ld):Dv.T dBool:=
 conj ([a.workers==b.workers]++([a.stage==b.stage]++([a.ver==b.ver]++([a.cut==b.cut]++([a.yes==b.yes]++([a.why==b.why]++[]))))))&&(decide (Ms.mk (0:Int) (0:Int) (Place.mk (0:Int) (0:Int)) (T.mk (0:Int) (0:Int) (0:Int) (0:Int) (0:Int) (0:Int)) [] [] (Dl.mk (eI.ag a.dl.drop) (eD.ag a.dl.put) (eV.ag a.dl.moves)) (0:Int) [] false (0:Int)=Ms.mk (0:Int) (0:Int) (Place.mk (0:Int) (0:Int)) (T.mk (0:Int) (0:Int) (0:Int) (0:Int) (0:Int) (0:Int)) [] [] (Dl.mk (eI.ag b.dl.drop) (eD.ag b.dl.put) (eV.ag b.dl.moves)) (0:Int) [] false (0:Int))&&(decide (eBool.ag a.voted=eBool.ag b.voted)&&decide (eN.ag a.ents=eN.ag b.ents)))
def vsm_side(a:Ld)(b:Ld):Prop:=
 (conj ([a.workers==b.workers]++([a.stage==b.stage]++([a.ver==b.ver]++([a.cut==b.cut]++([a.yes==b.yes]++([a.why==b.why]++[]))))))=true->eI.okL a.dl.drop)/\(conj ([a.workers==b.workers]++([a.stage==b.stage]++([a.ver==b.ver]++([a.cut==b.cut]++([a.yes==b.yes]++([a.why==b.why]++[]))))))=true->eD.okL a.dl.put)/\(conj ([a.workers==b.workers]++([a.stage==b.stage]++([a.ver==b.ver]++([a.cut==b.cut]++([a.yes==b.yes]++([a.why==b.why]++[]))))))=true->eV.okL a.dl.moves)/\(conj ([a.workers==b.workers]++([a.stage==b.stage]++([a.ver==b.ver]++([a.cut==b.cut]++([a.yes==b.yes]++([a.why==b.why]++[]))))))=true->eI.okL b.dl.drop)/\(conj ([a.workers==b.workers]++([a.stage==b.stage]++([a.ver==b.ver]++([a.cut==b.cut]++([a.yes==b.yes]++([a.why==b.why]++[]))))))=true->eD.okL b.dl.put)/\(conj ([a.workers==b.workers]++([a.stage==b.stage]++([a.ver==b.ver]++([a.cut==b.cut]++([a.yes==b.yes]++([a.why==b.why]++[]))))))=true->eV.okL b.dl.moves)/\(conj ([a.workers==b.workers]++([a.stage==b.stage]++([a.ver==b.ver]++([a.cut==b.cut]++([a.yes==b.yes]++([a.why==b.why]++[]))))))=true->decide (Ms.mk (0:Int) (0:Int) (Place.mk (0:Int) (0:Int)) (T.mk (0:Int) (0:Int) (0:Int) (0:Int) (0:Int) (0:Int)) [] [] (Dl.mk (eI.ag a.dl.drop) (eD.ag a.dl.put) (eV.ag a.dl.moves)) (0:Int) [] false (0:Int)=Ms.mk (0:Int) (0:Int) (Place.mk (0:Int) (0:Int)) (T.mk (0:Int) (0:Int) (0:Int) (0:Int) (0:Int) (0:Int)) [] [] (Dl.mk (eI.ag b.dl.drop) (eD.ag b.dl.put) (eV.ag b.dl.moves)) (0:Int) [] false (0:Int))=true->eBool.okL a.voted)/\(conj ([a.workers==b.workers]++([a.stage==b.stage]++([a.ver==b.ver]++([a.cut==b.cut]++([a.yes==b.yes]++([a.why==b.why]++[]))))))=true->decide (Ms.mk (0:Int) (0:Int) (Place.mk (0:Int) (0:Int)) (T.mk (0:Int) (0:Int) (0:Int) (0:Int) (0:Int) (0:Int)) [] [] (Dl.mk (eI.ag a.dl.drop) (eD.ag a.dl.put) (eV.ag a.dl.moves)) (0:Int) [] false (0:Int)=Ms.mk (0:Int) (0:Int) (Place.mk (0:Int) (0:Int)) (T.mk (0:Int) (0:Int) (0:Int) (0:Int) (0:Int) (0:Int)) [] [] (Dl.mk (eI.ag b.dl.drop) (eD.ag b.dl.put) (eV.ag b.dl.moves)) (0:Int) [] false (0:Int))=true->eBool.okL b.voted)/\(conj ([a.workers==b.workers]++([a.stage==b.stage]++([a.ver==b.ver]++([a.cut==b.cut]++([a.yes==b.yes]++([a.why==b.why]++[]))))))=true->decide (Ms.mk (0:Int) (0:Int) (Place.mk (0:Int) (0:Int)) (T.mk (0:Int) (0:Int) (0:Int) (0:Int) (0:Int) (0:Int)) [] [] (Dl.mk (eI.ag a.dl.drop) (eD.ag a.dl.put) (eV.ag a.dl.moves)) (0:Int) [] false (0:Int)=Ms.mk (0:Int) (0:Int) (Place.mk (0:Int) (0:Int)) (T.mk (0:Int) (0:Int) (0:Int) (0:Int) (0:Int) (0:Int)) [] [] (Dl.mk (eI.ag b.dl.drop) (eD.ag b.dl.put) (eV.ag b.dl.moves)) (0:Int) [] false (0:Int))=true->decide (eBool.ag a.voted=eBool.ag b.voted)=true->eN.okL a.ents)/\(conj ([a.workers==b.workers]++([a.stage==b.stage]++([a.ver==b.ver]++([a.cut==b.cut]++([a.yes==b.yes]++([a.why==b.why]++[]))))))=true->decide (Ms.mk (0:Int) (0:Int) (Place.mk (0:Int) (0:Int)) (T.mk (0:Int) (0:Int) (0:Int) (0:Int) (0:Int) (0:Int)) [] [] (Dl.mk (eI.ag a.dl.drop) (eD.ag a.dl.put) (eV.ag a.dl.moves)) (0:Int) [] false (0:Int)=Ms.mk (0:Int) (0:Int) (Place.mk (0:Int) (0:Int)) (T.mk (0:Int) (0:Int) (0:Int) (0:Int) (0:Int) (0:Int)) [] [] (Dl.mk (eI.ag b.dl.drop) (eD.ag b.dl.put) (eV.ag b.dl.moves)) (0:Int) [] false (0:Int))=true->decide (eBool.ag a.voted=eBool.ag b.voted)=true->eN.okL b.ents)
theorem vsm_okS(pre:DA.T aLL->List Prop)(h:∀g,DA.bd aLL g->(∀p∈pre g,p)->vsm_side g.1 g.2):FnPure Tryd.prog 24 aLL dBool (λg=>vsm_F g.1 g.2) pre:=pure_of_sideS (Γ:=(PTab.gamz tabE10 [] [])) (Λ:=noΛ) (PTab.okz tabE10 [] []) noΛ_ok 100 default (λg=>vsm_side g.1 g.2) (λg=>by kernel_rfl) (λg=>by kernel_rfl) h
noncomputable def rvsm_F(a:Ld)(b:Ld):Dv.T dBool:=
 a.workers==b.workers&&(a.stage==b.stage&&(a.ver==b.ver&&(a.cut==b.cut&&(decide (Dl.mk (eI.ag a.dl.drop) (eD.ag a.dl.put) (eV.ag a.dl.moves)=Dl.mk (eI.ag b.dl.drop) (eD.ag b.dl.put) (eV.ag b.dl.moves))&&(decide (eBool.ag a.voted=eBool.ag b.voted)&&(a.yes==b.yes&&(a.why==b.why&&decide (eN.ag a.ents=eN.ag b.ents))))))))
def rvsm_side(a:Ld)(b:Ld):Prop:=
 ((a.workers==b.workers)=true->(a.stage==b.stage)=true->(a.ver==b.ver)=true->(a.cut==b.cut)=true->eI.okL a.dl.drop)/\((a.workers==b.workers)=true->(a.stage==b.stage)=true->(a.ver==b.ver)=true->(a.cut==b.cut)=true->eD.okL a.dl.put)/\((a.workers==b.workers)=true->(a.stage==b.stage)=true->(a.ver==b.ver)=true->(a.cut==b.cut)=true->eV.okL a.dl.moves)/\((a.workers==b.workers)=true->(a.stage==b.stage)=true->(a.ver==b.ver)=true->(a.cut==b.cut)=true->eI.okL b.dl.drop)/\((a.workers==b.workers)=true->(a.stage==b.stage)=true->(a.ver==b.ver)=true->(a.cut==b.cut)=true->eD.okL b.dl.put)/\((a.workers==b.workers)=true->(a.stage==b.stage)=true->(a.ver==b.ver)=true->(a.cut==b.cut)=true->eV.okL b.dl.moves)/\((a.workers==b.workers)=true->(a.stage==b.stage)=true->(a.ver==b.ver)=true->(a.cut==b.cut)=true->decide (Dl.mk (eI.ag a.dl.drop) (eD.ag a.dl.put) (eV.ag a.dl.moves)=Dl.mk (eI.ag b.dl.drop) (eD.ag b.dl.put) (eV.ag b.dl.moves))=true->eBool.okL a.voted)/\((a.workers==b.workers)=true->(a.stage==b.stage)=true->(a.ver==b.ver)=true->(a.cut==b.cut)=true->decide (Dl.mk (eI.ag a.dl.drop) (eD.ag a.dl.put) (eV.ag a.dl.moves)=Dl.mk (eI.ag b.dl.drop) (eD.ag b.dl.put) (eV.ag b.dl.moves))=true->eBool.okL b.voted)/\((a.workers==b.workers)=true->(a.stage==b.stage)=true->(a.ver==b.ver)=true->(a.cut==b.cut)=true->decide (Dl.mk (eI.ag a.dl.drop) (eD.ag a.dl.put) (eV.ag a.dl.moves)=Dl.mk (eI.ag b.dl.drop) (eD.ag b.dl.put) (eV.ag b.dl.moves))=true->decide (eBool.ag a.voted=eBool.ag b.voted)=true->(a.yes==b.yes)=true->(a.why==b.why)=true->eN.okL a.ents)/\((a.workers==b.workers)=true->(a.stage==b.stage)=true->(a.ver==b.ver)=true->(a.cut==b.cut)=true->decide (Dl.mk (eI.ag a.dl.drop) (eD.ag a.dl.put) (eV.ag a.dl.moves)=Dl.mk (eI.ag b.dl.drop) (eD.ag b.dl.put) (eV.ag b.dl.moves))=true->decide (eBool.ag a.voted=eBool.ag b.voted)=true->(a.yes==b.yes)=true->(a.why==b.why)=true->eN.okL b.ents)
theorem rvsm_okS(pre:DA.T aLL->List Prop)(h:∀g,DA.bd aLL g->(∀p∈pre g,p)->rvsm_side g.1 g.2):FnPure Tryd.prog 11 aLL dBool (λg=>rvsm_F g.1 g.2) pre:=pure_of_sideS (Γ:=(PTab.gamz tabE10 [] [])) (Λ:=noΛ) (PTab.okz tabE10 [] []) noΛ_ok 100 default (λg=>rvsm_side g.1 g.2) (λg=>by kernel_rfl) (λg=>by kernel_rfl) h
end Go.Proofs.YtfkdbifgppfegaaDoor

namespace Go.Proofs.YtfkdbifgppfegaaDoor
open Go.RowKit Go.Sx Go.Lp
theorem conj_eL(a b:Ld):conj ([a.workers==b.workers]++([a.stage==b.stage]++([a.ver==b.ver]++([a.cut==b.cut]++([a.yes==b.yes]++([a.why==b.why]++[]))))))=decide (a.workers=b.workers/\a.stage=b.stage/\a.ver=b.ver/\a.cut=b.cut/\a.yes=b.yes/\a.why=b.why):=by
 rw[Bool.eq_iff_iff];simp[conj]
theorem vsm_ok:FnPure Tryd.prog 24 aLL dBool (λg=>decide (g.1=g.2)) (λ_=>[]):=by
 refine pure_congr (vsm_okS (λ_=>[]) λg hb _=>?_) λg hb _=>?_
 .obtain⟨a,b⟩:=g;show vsm_side a b;unfold vsm_side;simp only[El.okL_eq,implies_true,and_self]
 .obtain⟨a,b⟩:=g;show vsm_F a b=_;unfold vsm_F;rw[conj_eL];obtain⟨a1,a2,a3,a4,⟨a5,a5',a5''⟩,a6,a7,a8,a9⟩:=a;obtain⟨b1,b2,b3,b4,⟨b5,b5',b5''⟩,b6,b7,b8,b9⟩:=b;simp only[El.ag_eq];rw[Bool.eq_iff_iff];simp only[Bool.and_eq_true,beq_iff_eq,decide_eq_true_eq,Ms.mk.injEq,Ld.mk.injEq,true_and,and_true];exact⟨λ⟨⟨h1,h2,h3,h4,h7,h8⟩,h5,h6,h9⟩=>⟨h1,h2,h3,h4,h5,h6,h7,h8,h9⟩,λ⟨h1,h2,h3,h4,h5,h6,h7,h8,h9⟩=>⟨⟨h1,h2,h3,h4,h7,h8⟩,h5,h6,h9⟩⟩
theorem rvsm_ok:FnPure Tryd.prog 11 aLL dBool (λg=>decide (g.1=g.2)) (λ_=>[]):=by
 refine pure_congr (rvsm_okS (λ_=>[]) λg hb _=>?_) λg hb _=>?_
 .obtain⟨a,b⟩:=g;show rvsm_side a b;unfold rvsm_side;simp only[El.okL_eq,implies_true,and_self]
 .obtain⟨⟨a1,a2,a3,a4,a5,a6,a7,a8,a9⟩,⟨b1,b2,b3,b4,b5,b6,b7,b8,b9⟩⟩:=g;show rvsm_F _ _=_;unfold rvsm_F;simp only[El.ag_eq];rw[Bool.eq_iff_iff];simp only[Bool.and_eq_true,beq_iff_eq,decide_eq_true_eq,Ld.mk.injEq]
noncomputable def tabG2:PTab Tryd.prog:=(tabE10.cons 24 (pconP aLL dBool (λg=>decide (g.1=g.2)) (λ_=>[])) (conP_ok vsm_ok puB)).cons 11 (pconP aLL dBool (λg=>decide (g.1=g.2)) (λ_=>[])) (conP_ok rvsm_ok puB)
end Go.Proofs.YtfkdbifgppfegaaDoor

namespace Go.Proofs.YtfkdbifgppfegaaDoor
open Go.RowKit Go.Sx
set_option maxRecDepth 100000
abbrev aLBB:DA (List Bool×Bool):=.cons dLB (.one dBool)
abbrev aLB:DA (List Bool):=.one dLB
noncomputable def cnt_q1(xs:List Bool)(v:Bool):Ex×
 ixb_G:=
 loopF (λg=>ixb_R g.fst g.snd.fst g.snd.snd.fst g.snd.snd.snd.fst g.snd.snd.snd.snd) ixb_M (eBool.ag xs,v,(↑xs.length:Int),(0:Int),(0:Int))
noncomputable def cnt_F(xs:List Bool)(v:Bool):Dv.T dBool:=
 bif exB Ex.ret (cnt_q1 xs v).fst then decide ((cnt_q1 xs v).snd.snd.snd.snd.snd>=(0:Int))else decide ((-1:Int)>=(0:Int))
def cnt_side(xs:List Bool)(v:Bool):Prop:=
 eBool.okL xs/\Lp.ixJ (λc=>c.snd.snd) (λc=>c.fst) ixb_K (ixb_f (eBool.ag xs,v,(↑xs.length:Int),(0:Int),(0:Int)))
theorem cnt_okS(pre:DA.T aLBB->List Prop)(h:∀g,DA.bd aLBB g->(∀p∈pre g,p)->cnt_side g.1 g.2):FnPure Tryd.prog 71 aLBB dBool (λg=>cnt_F g.1 g.2) pre:=pure_of_sideS (Γ:=(PTab.gamz tab0 [] [])) (Λ:=lamG4) (PTab.okz tab0 [] []) lamG4_ok 100 default (λg=>cnt_side g.1 g.2) (λg=>by kernel_rfl) (λg=>by kernel_rfl) h
noncomputable def rall_q1(xs:List Bool):Ex×alb_G:=
 loopF (λg=>alb_R g.fst g.snd.fst g.snd.snd) alb_M (eBool.ag xs,(0:Int),false)
noncomputable def rall_F(xs:List Bool):Dv.T dBool:=
 bif exB Ex.ret (rall_q1 xs).fst then(rall_q1 xs).snd.snd.snd else true
def rall_side(xs:List Bool):Prop:=
 eBool.okL xs/\Lp.ixJ (λc=>(↑(List.length c):Int)) (λc=>c) alb_K (alb_f (eBool.ag xs,(0:Int),false))
theorem rall_okS(pre:DA.T aLB->List Prop)(h:∀g,DA.bd aLB g->(∀p∈pre g,p)->rall_side g):FnPure Tryd.prog 46 aLB dBool (λg=>rall_F g) pre:=pure_of_sideS (Γ:=(PTab.gamz tab0 [] [])) (Λ:=lamG4) (PTab.okz tab0 [] []) lamG4_ok 100 default (λg=>rall_side g) (λg=>by kernel_rfl) (λg=>by kernel_rfl) h
end Go.Proofs.YtfkdbifgppfegaaDoor

namespace Go.Proofs.YtfkdbifgppfegaaDoor
open Go.RowKit Go.Sx Go.Lp
def hasB(xs:List Bool)(v:Bool):Bool:=xs.any λx=>decide (v=x)
theorem cnt_ok:FnPure Tryd.prog 71 aLBB dBool (λg=>hasB g.1 g.2) (λ_=>[]):=by
 refine pure_congr (cnt_okS (λ_=>[]) λg hb _=>?_) λg hb _=>?_
 all_goals (obtain⟨xs,v⟩:=g;have ha:xs.length<=maxLen:=hb.1.1)
 .show cnt_side xs v;unfold cnt_side;simp only[El.okL_eq,El.ag_eq];exact⟨trivial,ixJ0 rfl ha trivial⟩
 show cnt_F xs v=hasB xs v
 have hq:cnt_q1 xs v=loopF ixb_RR ixb_M (ixb_g (0,(xs,v,(xs.length:Int)),0)):=by
  unfold cnt_q1;rw[El.ag_eq];rfl
 unfold cnt_F hasB;rw[hq,ixb_run (xs,v,(xs.length:Int)) 0 rfl ha trivial];rcases search (x:=0) (st:=ixb_S (xs,v,(xs.length:Int))) (p:=λx=>decide (v=x)) (r:=λi _ _=>i) (λ_ _ _=>rfl) xs 0 with ⟨h1,j,hj,a,_,_,h2⟩|⟨h1,h2⟩
 .show(bif exB .ret (scan 0 (ixb_S (xs,v,(xs.length:Int))) 0 xs 0).1 then decide ((scan 0 (ixb_S (xs,v,(xs.length:Int))) 0 xs 0).2.2>=(0:Int))else _)=_;rw[h1,h2];exact decide_eq_true hj
 .show(bif exB .ret (scan 0 (ixb_S (xs,v,(xs.length:Int))) 0 xs 0).1 then decide ((scan 0 (ixb_S (xs,v,(xs.length:Int))) 0 xs 0).2.2>=(0:Int))else _)=_;rw[h1,h2];rfl
theorem rall_ok:FnPure Tryd.prog 46 aLB dBool (λxs=>!hasB xs false) (λ_=>[]):=by
 refine pure_congr (rall_okS (λ_=>[]) λxs hb _=>?_) λxs hb _=>?_
 all_goals (have ha:xs.length<=maxLen:=hb.1)
 .show rall_side xs;unfold rall_side;simp only[El.okL_eq,El.ag_eq];exact⟨trivial,ixJ0 rfl ha trivial⟩
 have hq:rall_q1 xs=loopF alb_RR alb_M (alb_g (0,xs,false)):=by
  unfold rall_q1;rw[El.ag_eq];rfl
 have e:hasB xs false=xs.any λv=>!v:=by
  unfold hasB;congr 1;funext v;cases v<;>rfl
 show rall_F xs=!hasB xs false;unfold rall_F;rw[e,hq,alb_run xs false rfl ha trivial];rcases search (x:=0) (st:=alb_S xs) (p:=λv=>!v) (r:=λ_ _ _=>false) (λ_ _ _=>rfl) xs false with ⟨h1,j,hj,a,_,_,h2⟩|⟨h1,h2⟩
 .show(bif exB .ret (scan 0 (alb_S xs) 0 xs false).1 then(scan 0 (alb_S xs) 0 xs false).2.2 else true)=_;rw[h1,h2];rfl
 .show(bif exB .ret (scan 0 (alb_S xs) 0 xs false).1 then(scan 0 (alb_S xs) 0 xs false).2.2 else true)=_;rw[h1,h2];rfl
noncomputable def tabG6:PTab Tryd.prog:=(tabG2.cons 71 (pconP aLBB dBool (λg=>hasB g.1 g.2) (λ_=>[])) (conP_ok cnt_ok puB)).cons 46 (pconP aLB dBool (λxs=>!hasB xs false) (λ_=>[])) (conP_ok rall_ok puB)
end Go.Proofs.YtfkdbifgppfegaaDoor
