/- Chapter 21: what is wrong with a message, the document's. Printed by treegen.py. -/
import Derived.Test.YtfkdbifgppfegaaDoorZG1121b5f8
import Derived.Test.YtfkdbifgppfegaaDoorZG0555ce6c
import Derived.Test.YtfkdbifgppfegaaDoorZG065e5f9a
import Derived.Test.YtfkdbifgppfegaaDoorZG087ac275
import Derived.Test.YtfkdbifgppfegaaDoorZG1031ef6d
import Derived.Test.YtfkdbifgppfegaaDoorTie
import Derived.Lib.LaidU8T
import Derived.Shelf.Vars
import Derived.ProofKit
import Derived.OpenShut
import Derived.LaidMore
import Derived.Lay
import Derived.SevenTiedAt
import Derived.HandedShaped
import Derived.ChangeMaps5
import Derived.Test.YtfkdbifgppfegaaDoorZG0765c201
set_option linter.unusedVariables false
set_option linter.unusedSimpArgs false
set_option linter.constructorNameAsVariable false
set_option linter.all false

namespace Go.Proofs.YtfkdbifgppfegaaDoor
open Go.RowKit Go.Sx
set_option maxRecDepth 100000
noncomputable def rmck_q1(m:Ms):dMs.T:=
 rbr_F (Ms.mk m.kind m.ver m.p m.t (eR.ag m.recs) (eC.ag m.changes) (Dl.mk (eI.ag m.dl.drop) (eD.ag m.dl.put) (eV.ag m.dl.moves)) m.cut (eN.ag m.ents) m.yes m.why)
noncomputable def rmck_F(m:Ms):Dv.T dI:=
 bif !bif m.kind==(1:Int)then decide (m.kind>=(1:Int))&&(decide (m.kind<=(6:Int))&&(decide (m.ver>=(0:Int))&&decide (Ms.mk (rmck_q1 m).kind (rmck_q1 m).ver (rmck_q1 m).p (rmck_q1 m).t (eR.ag (rmck_q1 m).recs) (eC.ag (rmck_q1 m).changes) (Dl.mk (eI.ag (rmck_q1 m).dl.drop) (eD.ag (rmck_q1 m).dl.put) (eV.ag (rmck_q1 m).dl.moves)) (rmck_q1 m).cut (eN.ag (rmck_q1 m).ents) (rmck_q1 m).yes (rmck_q1 m).why=Ms.mk m.kind m.ver m.p m.t (eR.ag m.recs) (eC.ag m.changes) (Dl.mk (eI.ag m.dl.drop) (eD.ag m.dl.put) (eV.ag m.dl.moves)) m.cut (eN.ag m.ents) m.yes m.why)))&&(rtck_F m.t==(0:Int)&&recsS (eR.ag m.recs))else bif m.kind==(2:Int)then decide (m.kind>=(1:Int))&&(decide (m.kind<=(6:Int))&&(decide (m.ver>=(0:Int))&&decide (Ms.mk (rmck_q1 m).kind (rmck_q1 m).ver (rmck_q1 m).p (rmck_q1 m).t (eR.ag (rmck_q1 m).recs) (eC.ag (rmck_q1 m).changes) (Dl.mk (eI.ag (rmck_q1 m).dl.drop) (eD.ag (rmck_q1 m).dl.put) (eV.ag (rmck_q1 m).dl.moves)) (rmck_q1 m).cut (eN.ag (rmck_q1 m).ents) (rmck_q1 m).yes (rmck_q1 m).why=Ms.mk m.kind m.ver m.p m.t (eR.ag m.recs) (eC.ag m.changes) (Dl.mk (eI.ag m.dl.drop) (eD.ag m.dl.put) (eV.ag m.dl.moves)) m.cut (eN.ag m.ents) m.yes m.why)))&&chgS (eC.ag m.changes)else bif m.kind==(3:Int)then decide (m.kind>=(1:Int))&&(decide (m.kind<=(6:Int))&&(decide (m.ver>=(0:Int))&&decide (Ms.mk (rmck_q1 m).kind (rmck_q1 m).ver (rmck_q1 m).p (rmck_q1 m).t (eR.ag (rmck_q1 m).recs) (eC.ag (rmck_q1 m).changes) (Dl.mk (eI.ag (rmck_q1 m).dl.drop) (eD.ag (rmck_q1 m).dl.put) (eV.ag (rmck_q1 m).dl.moves)) (rmck_q1 m).cut (eN.ag (rmck_q1 m).ents) (rmck_q1 m).yes (rmck_q1 m).why=Ms.mk m.kind m.ver m.p m.t (eR.ag m.recs) (eC.ag m.changes) (Dl.mk (eI.ag m.dl.drop) (eD.ag m.dl.put) (eV.ag m.dl.moves)) m.cut (eN.ag m.ents) m.yes m.why)))&&(decide (m.cut>=(0:Int))&&decide (m.cut<=(1073741824:Int)))else bif m.kind==(5:Int)then decide (m.kind>=(1:Int))&&(decide (m.kind<=(6:Int))&&(decide (m.ver>=(0:Int))&&decide (Ms.mk (rmck_q1 m).kind (rmck_q1 m).ver (rmck_q1 m).p (rmck_q1 m).t (eR.ag (rmck_q1 m).recs) (eC.ag (rmck_q1 m).changes) (Dl.mk (eI.ag (rmck_q1 m).dl.drop) (eD.ag (rmck_q1 m).dl.put) (eV.ag (rmck_q1 m).dl.moves)) (rmck_q1 m).cut (eN.ag (rmck_q1 m).ents) (rmck_q1 m).yes (rmck_q1 m).why=Ms.mk m.kind m.ver m.p m.t (eR.ag m.recs) (eC.ag m.changes) (Dl.mk (eI.ag m.dl.drop) (eD.ag m.dl.put) (eV.ag m.dl.moves)) m.cut (eN.ag m.ents) m.yes m.why)))&&bif m.yes then decide ((↑m.ents.length:Int)<=(1024:Int))else(↑m.ents.length:Int)==(0:Int)&&decide ((↑m.ents.length:Int)<=(1024:Int))else bif m.kind==(6:Int)then decide (m.kind>=(1:Int))&&(decide (m.kind<=(6:Int))&&(decide (m.ver>=(0:Int))&&decide (Ms.mk (rmck_q1 m).kind (rmck_q1 m).ver (rmck_q1 m).p (rmck_q1 m).t (eR.ag (rmck_q1 m).recs) (eC.ag (rmck_q1 m).changes) (Dl.mk (eI.ag (rmck_q1 m).dl.drop) (eD.ag (rmck_q1 m).dl.put) (eV.ag (rmck_q1 m).dl.moves)) (rmck_q1 m).cut (eN.ag (rmck_q1 m).ents) (rmck_q1 m).yes (rmck_q1 m).why=Ms.mk m.kind m.ver m.p m.t (eR.ag m.recs) (eC.ag m.changes) (Dl.mk (eI.ag m.dl.drop) (eD.ag m.dl.put) (eV.ag m.dl.moves)) m.cut (eN.ag m.ents) m.yes m.why)))&&bif m.yes then decide ((↑m.ents.length:Int)<=(1024:Int))&&m.yes==(m.why==(0:Int))else(↑m.ents.length:Int)==(0:Int)&&(decide ((↑m.ents.length:Int)<=(1024:Int))&&m.yes==(m.why==(0:Int)))else decide (m.kind>=(1:Int))&&(decide (m.kind<=(6:Int))&&(decide (m.ver>=(0:Int))&&decide (Ms.mk (rmck_q1 m).kind (rmck_q1 m).ver (rmck_q1 m).p (rmck_q1 m).t (eR.ag (rmck_q1 m).recs) (eC.ag (rmck_q1 m).changes) (Dl.mk (eI.ag (rmck_q1 m).dl.drop) (eD.ag (rmck_q1 m).dl.put) (eV.ag (rmck_q1 m).dl.moves)) (rmck_q1 m).cut (eN.ag (rmck_q1 m).ents) (rmck_q1 m).yes (rmck_q1 m).why=Ms.mk m.kind m.ver m.p m.t (eR.ag m.recs) (eC.ag m.changes) (Dl.mk (eI.ag m.dl.drop) (eD.ag m.dl.put) (eV.ag m.dl.moves)) m.cut (eN.ag m.ents) m.yes m.why)))then(130:Int)
 else(0:Int)
def rmck_side(m:Ms):Prop:=
 (decide (m.kind>=(1:Int))=true->decide (m.kind<=(6:Int))=true->decide (m.ver>=(0:Int))=true->eR.okL m.recs)/\(decide (m.kind>=(1:Int))=true->decide (m.kind<=(6:Int))=true->decide (m.ver>=(0:Int))=true->eC.okL m.changes)/\(decide (m.kind>=(1:Int))=true->decide (m.kind<=(6:Int))=true->decide (m.ver>=(0:Int))=true->eI.okL m.dl.drop)/\(decide (m.kind>=(1:Int))=true->decide (m.kind<=(6:Int))=true->decide (m.ver>=(0:Int))=true->eD.okL m.dl.put)/\(decide (m.kind>=(1:Int))=true->decide (m.kind<=(6:Int))=true->decide (m.ver>=(0:Int))=true->eV.okL m.dl.moves)/\(decide (m.kind>=(1:Int))=true->decide (m.kind<=(6:Int))=true->decide (m.ver>=(0:Int))=true->eN.okL m.ents)/\(decide (m.kind>=(1:Int))=true->decide (m.kind<=(6:Int))=true->decide (m.ver>=(0:Int))=true->eR.okL (rmck_q1 m).recs)/\(decide (m.kind>=(1:Int))=true->decide (m.kind<=(6:Int))=true->decide (m.ver>=(0:Int))=true->eC.okL (rmck_q1 m).changes)/\(decide (m.kind>=(1:Int))=true->decide (m.kind<=(6:Int))=true->decide (m.ver>=(0:Int))=true->eI.okL (rmck_q1 m).dl.drop)/\(decide (m.kind>=(1:Int))=true->decide (m.kind<=(6:Int))=true->decide (m.ver>=(0:Int))=true->eD.okL (rmck_q1 m).dl.put)/\(decide (m.kind>=(1:Int))=true->decide (m.kind<=(6:Int))=true->decide (m.ver>=(0:Int))=true->eV.okL (rmck_q1 m).dl.moves)/\(decide (m.kind>=(1:Int))=true->decide (m.kind<=(6:Int))=true->decide (m.ver>=(0:Int))=true->eN.okL (rmck_q1 m).ents)/\(decide (m.kind>=(1:Int))=true->decide (m.kind<=(6:Int))=true->decide (m.ver>=(0:Int))=true->eR.okL m.recs)/\(decide (m.kind>=(1:Int))=true->decide (m.kind<=(6:Int))=true->decide (m.ver>=(0:Int))=true->eC.okL m.changes)/\(decide (m.kind>=(1:Int))=true->decide (m.kind<=(6:Int))=true->decide (m.ver>=(0:Int))=true->eI.okL m.dl.drop)/\(decide (m.kind>=(1:Int))=true->decide (m.kind<=(6:Int))=true->decide (m.ver>=(0:Int))=true->eD.okL m.dl.put)/\(decide (m.kind>=(1:Int))=true->decide (m.kind<=(6:Int))=true->decide (m.ver>=(0:Int))=true->eV.okL m.dl.moves)/\(decide (m.kind>=(1:Int))=true->decide (m.kind<=(6:Int))=true->decide (m.ver>=(0:Int))=true->eN.okL m.ents)/\((m.kind==(1:Int))=true->(decide (m.kind>=(1:Int))&&(decide (m.kind<=(6:Int))&&(decide (m.ver>=(0:Int))&&decide (Ms.mk (rmck_q1 m).kind (rmck_q1 m).ver (rmck_q1 m).p (rmck_q1 m).t (eR.ag (rmck_q1 m).recs) (eC.ag (rmck_q1 m).changes) (Dl.mk (eI.ag (rmck_q1 m).dl.drop) (eD.ag (rmck_q1 m).dl.put) (eV.ag (rmck_q1 m).dl.moves)) (rmck_q1 m).cut (eN.ag (rmck_q1 m).ents) (rmck_q1 m).yes (rmck_q1 m).why=Ms.mk m.kind m.ver m.p m.t (eR.ag m.recs) (eC.ag m.changes) (Dl.mk (eI.ag m.dl.drop) (eD.ag m.dl.put) (eV.ag m.dl.moves)) m.cut (eN.ag m.ents) m.yes m.why))))=true->(rtck_F m.t==(0:Int))=true->eR.okL m.recs)/\((!m.kind==(1:Int))=true->(m.kind==(2:Int))=true->(decide (m.kind>=(1:Int))&&(decide (m.kind<=(6:Int))&&(decide (m.ver>=(0:Int))&&decide (Ms.mk (rmck_q1 m).kind (rmck_q1 m).ver (rmck_q1 m).p (rmck_q1 m).t (eR.ag (rmck_q1 m).recs) (eC.ag (rmck_q1 m).changes) (Dl.mk (eI.ag (rmck_q1 m).dl.drop) (eD.ag (rmck_q1 m).dl.put) (eV.ag (rmck_q1 m).dl.moves)) (rmck_q1 m).cut (eN.ag (rmck_q1 m).ents) (rmck_q1 m).yes (rmck_q1 m).why=Ms.mk m.kind m.ver m.p m.t (eR.ag m.recs) (eC.ag m.changes) (Dl.mk (eI.ag m.dl.drop) (eD.ag m.dl.put) (eV.ag m.dl.moves)) m.cut (eN.ag m.ents) m.yes m.why))))=true->eC.okL m.changes)
theorem rmck_okS(pre:DA.T aM->List Prop)(h:∀g,DA.bd aM g->(∀p∈pre g,p)->rmck_side g):FnPure Tryd.prog 68 aM dI (λg=>rmck_F g) pre:=pure_of_sideS (Γ:=(PTab.gamz tabF8 [] [])) (Λ:=noΛ) (PTab.okz tabF8 [] []) noΛ_ok 100 default (λg=>rmck_side g) (λg=>by kernel_rfl) (λg=>by kernel_rfl) h
end Go.Proofs.YtfkdbifgppfegaaDoor

namespace Go.Proofs.YtfkdbifgppfegaaDoor
open Go.RowKit Go.Sx Go.Lp
set_option maxRecDepth 100000
theorem ms_eta(m:Ms):Ms.mk m.kind m.ver m.p m.t m.recs m.changes (Dl.mk m.dl.drop m.dl.put m.dl.moves) m.cut m.ents m.yes m.why=m:=rfl
theorem p1(A B L1 L2 V E:Bool)(hV:V=!B):(!(A&&(L1&&(L2&&!E)))||(B||!true))=!((true&&(true&&(V&&true)))&&(A&&(bif E then false else L1&&L2))):=by
 subst hV;cases A<;>cases B<;>cases L1<;>cases L2<;>cases E<;>rfl
theorem ver_not(v:Int):decide (v>=0)=!decide (v<0):=by
 rw[Bool.eq_iff_iff];simp
theorem rec_sh(xs:List Rec):(decide ((xs.length:Int)>=1)&&(decide ((xs.length:Int)<=64)&&!badR xs))=recsS xs:=by
 unfold recsS;cases badR xs<;>cases decide ((xs.length:Int)>=1)<;>cases decide ((xs.length:Int)<=64)<;>rfl
theorem chg_sh(xs:List Change):(decide ((xs.length:Int)>=1)&&(decide ((xs.length:Int)<=512)&&!badC xs))=chgS xs:=by
 unfold chgS;cases badC xs<;>cases decide ((xs.length:Int)>=1)<;>cases decide ((xs.length:Int)<=512)<;>rfl
theorem rmck_eq(m:Ms):rmck_F m=mck_F m:=by
 have hq:rmck_q1 m=rbr_F m:=by
  unfold rmck_q1;simp only[El.ag_eq,ms_eta]
 unfold rmck_F mck_F;rw[hq];unfold rbr_F;simp only[El.ag_eq,rec_sh,chg_sh,ver_not];have ht:∀t,rtck_F t=tck_F t:=λ_=>rfl;simp only[ht];obtain⟨kind,ver,p,t,recs,changes,⟨d1,d2,d3⟩,cut,ents,yes,why⟩:=m;simp only;generalize tck_F t=tc;generalize recsS recs=rs;generalize chgS changes=cs;by_cases h1:kind=1
 .subst h1
  have e:decide (Ms.mk 1 ver p t recs [] (Dl.mk [] [] []) 0 [] false 0=Ms.mk 1 ver p t recs changes (Dl.mk d1 d2 d3) cut ents yes why)=decide (Ms.mk 1 ver ⟨0,0⟩ ⟨0,0,0,0,0,0⟩ [] changes (Dl.mk d1 d2 d3) cut ents yes why=Ms.mk 1 ver ⟨0,0⟩ ⟨0,0,0,0,0,0⟩ [] [] (Dl.mk [] [] []) 0 [] false 0):=by
   clear hq;rw[decide_eq_decide];simp only[Ms.mk.injEq,Dl.mk.injEq,true_and,and_true]
   repeat' (first|exact eq_comm|exact Iff.rfl|apply and_congr)
  simp only[show((1:Int)==1)=true from rfl,show((1:Int)==2)=false from rfl,show((1:Int)==3)=false from rfl,show((1:Int)==4)=false from rfl,show((1:Int)==5)=false from rfl,show((1:Int)==6)=false from rfl,cond_true,cond_false];rw[e];clear e hq;generalize decide (Ms.mk 1 ver ⟨0,0⟩ ⟨0,0,0,0,0,0⟩ [] changes (Dl.mk d1 d2 d3) cut ents yes why=Ms.mk 1 ver ⟨0,0⟩ ⟨0,0,0,0,0,0⟩ [] [] (Dl.mk [] [] []) 0 [] false 0)=z;generalize (tc==(0:Int))=a0;cases z<;>cases a0<;>cases rs<;>cases decide (ver<0)<;>rfl
 by_cases h2:kind=2
 .subst h2
  have e:decide (Ms.mk 2 ver ⟨0,0⟩ ⟨0,0,0,0,0,0⟩ [] changes (Dl.mk [] [] []) 0 [] false 0=Ms.mk 2 ver p t recs changes (Dl.mk d1 d2 d3) cut ents yes why)=decide (Ms.mk 2 ver p t recs [] (Dl.mk d1 d2 d3) cut ents yes why=Ms.mk 2 ver ⟨0,0⟩ ⟨0,0,0,0,0,0⟩ [] [] (Dl.mk [] [] []) 0 [] false 0):=by
   clear hq;rw[decide_eq_decide];simp only[Ms.mk.injEq,Dl.mk.injEq,true_and,and_true]
   repeat' (first|exact eq_comm|exact Iff.rfl|apply and_congr)
  simp only[show((2:Int)==1)=false from rfl,show((2:Int)==2)=true from rfl,show((2:Int)==3)=false from rfl,show((2:Int)==4)=false from rfl,show((2:Int)==5)=false from rfl,show((2:Int)==6)=false from rfl,cond_true,cond_false];rw[e];clear e hq;generalize decide (Ms.mk 2 ver p t recs [] (Dl.mk d1 d2 d3) cut ents yes why=Ms.mk 2 ver ⟨0,0⟩ ⟨0,0,0,0,0,0⟩ [] [] (Dl.mk [] [] []) 0 [] false 0)=z;cases z<;>cases cs<;>cases decide (ver<0)<;>rfl
 by_cases h3:kind=3
 .subst h3
  have e:decide (Ms.mk 3 ver ⟨0,0⟩ ⟨0,0,0,0,0,0⟩ [] [] (Dl.mk d1 d2 d3) cut [] false 0=Ms.mk 3 ver p t recs changes (Dl.mk d1 d2 d3) cut ents yes why)=decide (Ms.mk 3 ver p t recs changes (Dl.mk [] [] []) 0 ents yes why=Ms.mk 3 ver ⟨0,0⟩ ⟨0,0,0,0,0,0⟩ [] [] (Dl.mk [] [] []) 0 [] false 0):=by
   clear hq;rw[decide_eq_decide];simp only[Ms.mk.injEq,Dl.mk.injEq,true_and,and_true]
   repeat' (first|exact eq_comm|exact Iff.rfl|apply and_congr)
  simp only[show((3:Int)==1)=false from rfl,show((3:Int)==2)=false from rfl,show((3:Int)==3)=true from rfl,show((3:Int)==4)=false from rfl,show((3:Int)==5)=false from rfl,show((3:Int)==6)=false from rfl,cond_true,cond_false];rw[e];clear e hq;generalize decide (Ms.mk 3 ver p t recs changes (Dl.mk [] [] []) 0 ents yes why=Ms.mk 3 ver ⟨0,0⟩ ⟨0,0,0,0,0,0⟩ [] [] (Dl.mk [] [] []) 0 [] false 0)=z;generalize (decide (cut<0))=a0;generalize (decide (cut<=1073741824))=a1;cases z<;>cases a0<;>cases a1<;>cases decide (ver<0)<;>rfl
 by_cases h4:kind=4
 .subst h4
  have e:decide (Ms.mk 4 ver ⟨0,0⟩ ⟨0,0,0,0,0,0⟩ [] [] (Dl.mk [] [] []) 0 [] false 0=Ms.mk 4 ver p t recs changes (Dl.mk d1 d2 d3) cut ents yes why)=decide (Ms.mk 4 ver p t recs changes (Dl.mk d1 d2 d3) cut ents yes why=Ms.mk 4 ver ⟨0,0⟩ ⟨0,0,0,0,0,0⟩ [] [] (Dl.mk [] [] []) 0 [] false 0):=by
   clear hq;rw[decide_eq_decide];simp only[Ms.mk.injEq,Dl.mk.injEq,true_and,and_true]
   repeat' (first|exact eq_comm|exact Iff.rfl|apply and_congr)
  simp only[show((4:Int)==1)=false from rfl,show((4:Int)==2)=false from rfl,show((4:Int)==3)=false from rfl,show((4:Int)==4)=true from rfl,show((4:Int)==5)=false from rfl,show((4:Int)==6)=false from rfl,cond_true,cond_false];rw[e];clear e hq;generalize decide (Ms.mk 4 ver p t recs changes (Dl.mk d1 d2 d3) cut ents yes why=Ms.mk 4 ver ⟨0,0⟩ ⟨0,0,0,0,0,0⟩ [] [] (Dl.mk [] [] []) 0 [] false 0)=z;cases z<;>cases decide (ver<0)<;>rfl
 by_cases h5:kind=5
 .subst h5
  have e:decide (Ms.mk 5 ver ⟨0,0⟩ ⟨0,0,0,0,0,0⟩ [] [] (Dl.mk [] [] []) 0 ents yes 0=Ms.mk 5 ver p t recs changes (Dl.mk d1 d2 d3) cut ents yes why)=decide (Ms.mk 5 ver p t recs changes (Dl.mk d1 d2 d3) cut [] false why=Ms.mk 5 ver ⟨0,0⟩ ⟨0,0,0,0,0,0⟩ [] [] (Dl.mk [] [] []) 0 [] false 0):=by
   clear hq;rw[decide_eq_decide];simp only[Ms.mk.injEq,Dl.mk.injEq,true_and,and_true]
   repeat' (first|exact eq_comm|exact Iff.rfl|apply and_congr)
  simp only[show((5:Int)==1)=false from rfl,show((5:Int)==2)=false from rfl,show((5:Int)==3)=false from rfl,show((5:Int)==4)=false from rfl,show((5:Int)==5)=true from rfl,show((5:Int)==6)=false from rfl,cond_true,cond_false];rw[e];clear e hq;generalize decide (Ms.mk 5 ver p t recs changes (Dl.mk d1 d2 d3) cut [] false why=Ms.mk 5 ver ⟨0,0⟩ ⟨0,0,0,0,0,0⟩ [] [] (Dl.mk [] [] []) 0 [] false 0)=z;generalize (decide ((ents.length:Int)<=1024))=a0;generalize ((ents.length:Int)==0)=a1;cases z<;>cases a0<;>cases a1<;>cases yes<;>cases decide (ver<0)<;>rfl
 by_cases h6:kind=6
 .subst h6
  have e:decide (Ms.mk 6 ver ⟨0,0⟩ ⟨0,0,0,0,0,0⟩ [] [] (Dl.mk [] [] []) 0 ents yes why=Ms.mk 6 ver p t recs changes (Dl.mk d1 d2 d3) cut ents yes why)=decide (Ms.mk 6 ver p t recs changes (Dl.mk d1 d2 d3) cut [] false 0=Ms.mk 6 ver ⟨0,0⟩ ⟨0,0,0,0,0,0⟩ [] [] (Dl.mk [] [] []) 0 [] false 0):=by
   clear hq;rw[decide_eq_decide];simp only[Ms.mk.injEq,Dl.mk.injEq,true_and,and_true]
   repeat' (first|exact eq_comm|exact Iff.rfl|apply and_congr)
  simp only[show((6:Int)==1)=false from rfl,show((6:Int)==2)=false from rfl,show((6:Int)==3)=false from rfl,show((6:Int)==4)=false from rfl,show((6:Int)==5)=false from rfl,show((6:Int)==6)=true from rfl,cond_true,cond_false];rw[e];clear e hq;generalize decide (Ms.mk 6 ver p t recs changes (Dl.mk d1 d2 d3) cut [] false 0=Ms.mk 6 ver ⟨0,0⟩ ⟨0,0,0,0,0,0⟩ [] [] (Dl.mk [] [] []) 0 [] false 0)=z;generalize (decide ((ents.length:Int)<=1024))=a0;generalize ((ents.length:Int)==0)=a1;generalize (why==(0:Int))=a3;cases z<;>cases a0<;>cases a1<;>cases yes<;>cases a3<;>cases decide (ver<0)<;>rfl
 have b1:(kind==(1:Int))=false:=by simpa using h1
 have b2:(kind==(2:Int))=false:=by simpa using h2
 have b3:(kind==(3:Int))=false:=by simpa using h3
 have b4:(kind==(4:Int))=false:=by simpa using h4
 have b5:(kind==(5:Int))=false:=by simpa using h5
 have b6:(kind==(6:Int))=false:=by simpa using h6
 simp only[b1,b2,b3,b4,b5,b6,cond_false,Bool.false_and,Bool.not_false,Bool.and_self,cond_true]
 have hr:(decide (kind>=1)&&(decide (kind<=6)&&(!decide (ver<0)&&decide (Ms.mk kind ver ⟨0,0⟩ ⟨0,0,0,0,0,0⟩ [] [] (Dl.mk [] [] []) 0 [] false 0=Ms.mk kind ver p t recs changes (Dl.mk d1 d2 d3) cut ents yes why))))=false:=by
  by_cases hk:1<=kind
  .rw[decide_eq_false (show¬kind<=6 by omega)];simp
  .rw[decide_eq_false (show¬kind>=1 by omega)];simp
 rw[hr];rfl
theorem mck_ok:FnPure Tryd.prog 80 aM dI mck_F (λ_=>[]):=mck_okS (λ_=>[]) λm _ _=>by
 show mck_side m;unfold mck_side;simp only[El.okL_eq,implies_true,and_self]
theorem rmck_ok:FnPure Tryd.prog 68 aM dI mck_F (λ_=>[]):=
 pure_congr (rmck_okS (λ_=>[]) λm _ _=>by
  show rmck_side m;unfold rmck_side;simp only[El.okL_eq,implies_true,and_self]) λm _ _=>rmck_eq m
end Go.Proofs.YtfkdbifgppfegaaDoor

namespace Go.Proofs.YtfkdbifgppfegaaDoor
open Go.RowKit Go.Sx
def usV:List (Nat×Nat×Nat):=[(110,4,2),(18,4,3),(48,1,3),(10,8,3),(10,13,3),(61,4,9),(61,11,9)]
noncomputable def tabV1:MTab Tryd.prog:=((tabJ0.cons 25 (pconR aLDI dLME (λg=>subS g.1 g.2.1 g.2.2) (λg=>[fewD g.2.1])) (conR_ok sub_ok)).consM 27 (fconG aL dLME drnS (λg=>[fewL g])) (fconG_ok drn_ok)).cons 80 (pconP aM dI mck_F (λ_=>[])) (conP_ok mck_ok puI)
noncomputable def lvT:Tr Bool:=dTree Tryd.prog (MTab.gamz tabV1 [(4000000,0)] usV) noΛ 100 8 [] dBool
end Go.Proofs.YtfkdbifgppfegaaDoor

namespace Go.Proofs.YtfkdbifgppfegaaDoor
open Go.RowKit Go.Sx Go.Lp
set_option maxRecDepth 100000
abbrev lv0:Prop:=fewD (Dl.mk [] [] [])
theorem lv0p:lv0:=by first|trivial|exact⟨by decide,by decide⟩|omega|(intros;trivial)|(intros;rfl)|(refine⟨trivial,?_,?_,?_⟩<;>first|trivial|omega|(intros;rfl))|(simp;done)|decide
abbrev lv1:Prop:=∀(e:Nat),e<(0:Nat)->eI.Ok (eI.els [] e)
theorem lv1p:lv1:=λ_ _=>El.ok_els _ _ _
abbrev lv2:Prop:=∀(e:Nat),e<(0:Nat)->eD.Ok (eD.els (subS (Ld.mk (1:Int) (0:Int) (0:Int) (0:Int) (Dl.mk [] [] []) [] false (0:Int) []) (Dl.mk [] [] []) (3:Int)).fst.dl.put e)
theorem lv2p:lv2:=λ_ _=>El.ok_els _ _ _
abbrev lv3:Prop:=∀(e:Nat),e<(0:Nat)->eV.Ok (eV.els (subS (Ld.mk (1:Int) (0:Int) (0:Int) (0:Int) (Dl.mk [] [] []) [] false (0:Int) []) (Dl.mk [] [] []) (3:Int)).fst.dl.moves e)
theorem lv3p:lv3:=λ_ _=>El.ok_els _ _ _
abbrev lv4:Prop:=∀(e:Nat),e<(1:Nat)->eBool.Ok (eBool.els [false] e)
theorem lv4p:lv4:=λ_ _=>El.ok_els _ _ _
abbrev lv5:Prop:=∀(e:Nat),e<(0:Nat)->eN.Ok (eN.els (subS (Ld.mk (1:Int) (0:Int) (0:Int) (0:Int) (Dl.mk [] [] []) [] false (0:Int) []) (Dl.mk [] [] []) (3:Int)).fst.ents e)
theorem lv5p:lv5:=λ_ _=>El.ok_els _ _ _
abbrev lv6:Prop:=(0:Int)<=(0:Int)/\(0:Int)<(1:Int)
theorem lv6p:lv6:=by decide
abbrev lv7:Prop:=fewM (Ms.mk (0:Int) (0:Int) (Place.mk (0:Int) (0:Int)) (T.mk (0:Int) (0:Int) (0:Int) (0:Int) (0:Int) (0:Int)) [] [] (Dl.mk [] [] []) (0:Int) [] false (0:Int))
theorem lv7p:lv7:=by first|trivial|exact⟨by decide,by decide⟩|omega|(intros;trivial)|(intros;rfl)|(refine⟨trivial,?_,?_,?_⟩<;>first|trivial|omega|(intros;rfl))|(simp;done)|decide
abbrev lv8:Prop:=(1:Nat)<=(1000000:Nat)
theorem lv8p:lv8:=by decide
abbrev lv9:Prop:=(0:Nat)<=(1000000:Nat)
theorem lv9p:lv9:=by decide
abbrev lv10:Prop:=(0:Nat)<(1:Nat)
theorem lv10p:lv10:=by decide
abbrev lv11:Prop:=(0:Nat)<=(0:Nat)/\True/\(0:Nat)<=(9223372036854775807:Nat)/\(0:Nat)<=(140737488355328:Nat)
theorem lv11p:lv11:=by first|trivial|exact⟨by decide,by decide⟩|omega|(intros;trivial)|(intros;rfl)|(refine⟨trivial,?_,?_,?_⟩<;>first|trivial|omega|(intros;rfl))|(simp;done)|decide
abbrev lv12:Prop:=(1:Nat)<=(1:Nat)
theorem lv12p:lv12:=by decide
abbrev lv13:Prop:=(0:Nat)<=(0:Nat)
theorem lv13p:lv13:=by decide
abbrev lv14:Prop:=∀(e:Nat),e<(0:Nat)->eD.Ok (eD.els [] e)
theorem lv14p:lv14:=λ_ _=>El.ok_els _ _ _
abbrev lv15:Prop:=∀(e:Nat),e<(0:Nat)->eV.Ok (eV.els [] e)
theorem lv15p:lv15:=λ_ _=>El.ok_els _ _ _
abbrev lv16:Prop:=∀(e:Nat),e<(1:Nat)->eBool.Ok ((ElE.set (0:Nat) [SV.k (Value.bool true)] (ElE.fn (eBool.els [false]))).at e)
theorem lv16p:lv16:=λe he=>by obtain rfl:e=0:=(by omega);exact El.okP (A:=eBool) trivial
abbrev lv17:Prop:=∀(e:Nat),e<(0:Nat)->eN.Ok ((ElE.app (0:Nat) (ElE.fn (eN.els [])) (ElE.fn λx=>[])).at e)
theorem lv17p:lv17:=by first|trivial|exact⟨by decide,by decide⟩|omega|(intros;trivial)|(intros;rfl)|(refine⟨trivial,?_,?_,?_⟩<;>first|trivial|omega|(intros;rfl))|(simp;done)|decide
abbrev lv18:Prop:=fewL (Ld.mk (1:Int) (2:Int) (0:Int) (3:Int) (Dl.mk [] [] []) [] true (0:Int) [])
theorem lv18p:lv18:=by first|trivial|exact⟨by decide,by decide⟩|omega|(intros;trivial)|(intros;rfl)|(refine⟨trivial,?_,?_,?_⟩<;>first|trivial|omega|(intros;rfl))|(simp;done)|decide
abbrev lv19:Prop:=∀(e:Nat),e<(0:Nat)->eD.Ok (eD.els (drnS (Ld.mk (1:Int) (2:Int) (0:Int) (3:Int) (Dl.mk [] [] []) [] true (0:Int) [])).fst.dl.put e)
theorem lv19p:lv19:=λ_ _=>El.ok_els _ _ _
abbrev lv20:Prop:=∀(e:Nat),e<(0:Nat)->eV.Ok (eV.els (drnS (Ld.mk (1:Int) (2:Int) (0:Int) (3:Int) (Dl.mk [] [] []) [] true (0:Int) [])).fst.dl.moves e)
theorem lv20p:lv20:=λ_ _=>El.ok_els _ _ _
abbrev lv21:Prop:=∀(e:Nat),e<(0:Nat)->eN.Ok (eN.els (drnS (Ld.mk (1:Int) (2:Int) (0:Int) (3:Int) (Dl.mk [] [] []) [] true (0:Int) [])).fst.ents e)
theorem lv21p:lv21:=λ_ _=>El.ok_els _ _ _
abbrev lv22:Prop:=∀(e:Nat),e<(1:Nat)->eN.Ok (List.take (4:Nat) (List.drop ((0:Nat)+e*(4:Nat)) [SV.k (Value.int IntKind.i64 (2:Int)),SV.k (Value.int IntKind.i64 (7:Int)),SV.k (Value.string (ByteArray.mk #[])),SV.k (Value.int IntKind.i64 (1:Int))]))
theorem lv22p:lv22:=λe he=>by obtain rfl:e=0:=(by omega);exact El.okP (A:=eN) trivial
abbrev lv23:Prop:=(0:Nat)<=(0:Nat)/\True/\(1:Nat)<=(9223372036854775807:Nat)/\(40:Nat)<=(140737488355328:Nat)
theorem lv23p:lv23:=by first|trivial|exact⟨by decide,by decide⟩|omega|(intros;trivial)|(intros;rfl)|(refine⟨trivial,?_,?_,?_⟩<;>first|trivial|omega|(intros;rfl))|(simp;done)|decide
abbrev lv24:Prop:=∀(e:Nat),e<(1:Nat)->eN.Ok ((ElE.app (0:Nat) (ElE.fn (eN.els [])) (ElE.fn λx=>[SV.k (Value.int IntKind.i64 (2:Int)),SV.k (Value.int IntKind.i64 (7:Int)),SV.k (Value.string (ByteArray.mk #[])),SV.k (Value.int IntKind.i64 (1:Int))])).at e)
theorem lv24p:lv24:=λe he=>by obtain rfl:e=0:=(by omega);exact El.okP (A:=eN) trivial
abbrev lv25:Prop:=(0:Int)<=(1:Int)/\(1:Int)<=(1:Int)/\(1:Int)<=(9223372036854775807:Int)/\(248:Int)<=(140737488355328:Int)
theorem lv25p:lv25:=by decide
abbrev lv26:Prop:=(1:Int)≠(0:Int)
theorem lv26p:lv26:=by first|trivial|exact⟨by decide,by decide⟩|omega|(intros;trivial)|(intros;rfl)|(refine⟨trivial,?_,?_,?_⟩<;>first|trivial|omega|(intros;rfl))|(simp;done)|decide
abbrev lv27:Prop:=True/\True/\(1:Nat)<=(9223372036854775807:Nat)/\(40:Nat)<=(140737488355328:Nat)
theorem lv27p:lv27:=⟨trivial,trivial,by decide,by decide⟩
abbrev lv28:Prop:=true=true->true=true->true=true->true=true->(0:Int)<=(0:Int)/\(0:Int)<(1:Int)
theorem lv28p:lv28:=by first|trivial|exact⟨by decide,by decide⟩|omega|(intros;trivial)|(intros;rfl)|(refine⟨trivial,?_,?_,?_⟩<;>first|trivial|omega|(intros;rfl))|(simp;done)|decide
abbrev lv29:Prop:=true=true->true=true->true=true->true=true->(0:Nat)<(1:Nat)
theorem lv29p:lv29:=by first|trivial|exact⟨by decide,by decide⟩|omega|(intros;trivial)|(intros;rfl)|(refine⟨trivial,?_,?_,?_⟩<;>first|trivial|omega|(intros;rfl))|(simp;done)|decide
abbrev lv30:Prop:=true=true->true=true->true=true->true=true->true=true->(0:Int)<=(0:Int)/\(0:Int)<(1:Int)
theorem lv30p:lv30:=by first|trivial|exact⟨by decide,by decide⟩|omega|(intros;trivial)|(intros;rfl)|(refine⟨trivial,?_,?_,?_⟩<;>first|trivial|omega|(intros;rfl))|(simp;done)|decide
abbrev lv31:Prop:=true=true->true=true->true=true->true=true->true=true->(0:Nat)<(1:Nat)
theorem lv31p:lv31:=by first|trivial|exact⟨by decide,by decide⟩|omega|(intros;trivial)|(intros;rfl)|(refine⟨trivial,?_,?_,?_⟩<;>first|trivial|omega|(intros;rfl))|(simp;done)|decide
def lv_h_S:Prop:=lv0/\lv1/\lv2/\lv3/\lv4/\lv5/\lv6/\lv1/\lv2/\lv3/\lv7/\(lv4/\lv8/\lv5/\lv9/\lv6/\lv10/\lv11/\lv12/\lv13/\lv1/\lv14/\lv15/\lv16/\lv17/\lv13/\lv1/\lv14/\lv15/\lv17/\lv18/\lv1/\lv19/\lv20/\lv4/\lv21/\lv22/\lv6/\lv1/\lv19/\lv20/\lv7/\(lv4/\lv8/\lv21/\lv9/\lv6/\lv10/\lv23/\lv12/\lv12/\lv1/\lv14/\lv15/\lv16/\lv24/\lv12/\lv1/\lv14/\lv15/\lv24/\lv25/\lv6/\lv10/\lv6/\lv10/\lv26/\((lv6/\lv10/\lv27/\lv6/\lv10/\lv28/\lv29/\lv30/\lv31/\true=true)/\∀(_:Nat)(_:List Nat),lv6/\lv10/\lv27/\lv6/\lv10/\lv28/\lv29/\lv30/\lv31/\true=true)/\∀(_:Nat)(_:List Nat),lv6/\lv10/\lv27/\lv6/\lv10/\lv28/\lv29/\lv30/\lv31/\true=true)/\∀(_:Nat)(_:List Nat),lv4/\lv8/\lv21/\lv9/\lv6/\lv10/\lv23/\lv12/\lv12/\lv1/\lv14/\lv15/\lv16/\lv24/\lv12/\lv1/\lv14/\lv15/\lv24/\lv25/\lv6/\lv10/\lv6/\lv10/\lv26/\((lv6/\lv10/\lv27/\lv6/\lv10/\lv28/\lv29/\lv30/\lv31/\true=true)/\∀(_:Nat)(_:List Nat),lv6/\lv10/\lv27/\lv6/\lv10/\lv28/\lv29/\lv30/\lv31/\true=true)/\∀(_:Nat)(_:List Nat),lv6/\lv10/\lv27/\lv6/\lv10/\lv28/\lv29/\lv30/\lv31/\true=true)/\∀(_:Nat)(_:List Nat),lv4/\lv8/\lv5/\lv9/\lv6/\lv10/\lv11/\lv12/\lv13/\lv1/\lv14/\lv15/\lv16/\lv17/\lv13/\lv1/\lv14/\lv15/\lv17/\lv18/\lv1/\lv19/\lv20/\lv4/\lv21/\lv22/\lv6/\lv1/\lv19/\lv20/\lv7/\(lv4/\lv8/\lv21/\lv9/\lv6/\lv10/\lv23/\lv12/\lv12/\lv1/\lv14/\lv15/\lv16/\lv24/\lv12/\lv1/\lv14/\lv15/\lv24/\lv25/\lv6/\lv10/\lv6/\lv10/\lv26/\((lv6/\lv10/\lv27/\lv6/\lv10/\lv28/\lv29/\lv30/\lv31/\true=true)/\∀(_:Nat)(_:List Nat),lv6/\lv10/\lv27/\lv6/\lv10/\lv28/\lv29/\lv30/\lv31/\true=true)/\∀(_:Nat)(_:List Nat),lv6/\lv10/\lv27/\lv6/\lv10/\lv28/\lv29/\lv30/\lv31/\true=true)/\∀(_:Nat)(_:List Nat),lv4/\lv8/\lv21/\lv9/\lv6/\lv10/\lv23/\lv12/\lv12/\lv1/\lv14/\lv15/\lv16/\lv24/\lv12/\lv1/\lv14/\lv15/\lv24/\lv25/\lv6/\lv10/\lv6/\lv10/\lv26/\((lv6/\lv10/\lv27/\lv6/\lv10/\lv28/\lv29/\lv30/\lv31/\true=true)/\∀(_:Nat)(_:List Nat),lv6/\lv10/\lv27/\lv6/\lv10/\lv28/\lv29/\lv30/\lv31/\true=true)/\∀(_:Nat)(_:List Nat),lv6/\lv10/\lv27/\lv6/\lv10/\lv28/\lv29/\lv30/\lv31/\true=true
theorem lv_h_Sp:lv_h_S:=⟨lv0p,lv1p,lv2p,lv3p,lv4p,lv5p,lv6p,lv1p,lv2p,lv3p,lv7p,⟨lv4p,lv8p,lv5p,lv9p,lv6p,lv10p,lv11p,lv12p,lv13p,lv1p,lv14p,lv15p,lv16p,lv17p,lv13p,lv1p,lv14p,lv15p,lv17p,lv18p,lv1p,lv19p,lv20p,lv4p,lv21p,lv22p,lv6p,lv1p,lv19p,lv20p,lv7p,⟨lv4p,lv8p,lv21p,lv9p,lv6p,lv10p,lv23p,lv12p,lv12p,lv1p,lv14p,lv15p,lv16p,lv24p,lv12p,lv1p,lv14p,lv15p,lv24p,lv25p,lv6p,lv10p,lv6p,lv10p,lv26p,⟨⟨lv6p,lv10p,lv27p,lv6p,lv10p,lv28p,lv29p,lv30p,lv31p,rfl⟩,λ_ _=>⟨lv6p,lv10p,lv27p,lv6p,lv10p,lv28p,lv29p,lv30p,lv31p,rfl⟩⟩,λ_ _=>⟨lv6p,lv10p,lv27p,lv6p,lv10p,lv28p,lv29p,lv30p,lv31p,rfl⟩⟩,λ_ _=>⟨lv4p,lv8p,lv21p,lv9p,lv6p,lv10p,lv23p,lv12p,lv12p,lv1p,lv14p,lv15p,lv16p,lv24p,lv12p,lv1p,lv14p,lv15p,lv24p,lv25p,lv6p,lv10p,lv6p,lv10p,lv26p,⟨⟨lv6p,lv10p,lv27p,lv6p,lv10p,lv28p,lv29p,lv30p,lv31p,rfl⟩,λ_ _=>⟨lv6p,lv10p,lv27p,lv6p,lv10p,lv28p,lv29p,lv30p,lv31p,rfl⟩⟩,λ_ _=>⟨lv6p,lv10p,lv27p,lv6p,lv10p,lv28p,lv29p,lv30p,lv31p,rfl⟩⟩⟩,λ_ _=>⟨lv4p,lv8p,lv5p,lv9p,lv6p,lv10p,lv11p,lv12p,lv13p,lv1p,lv14p,lv15p,lv16p,lv17p,lv13p,lv1p,lv14p,lv15p,lv17p,lv18p,lv1p,lv19p,lv20p,lv4p,lv21p,lv22p,lv6p,lv1p,lv19p,lv20p,lv7p,⟨lv4p,lv8p,lv21p,lv9p,lv6p,lv10p,lv23p,lv12p,lv12p,lv1p,lv14p,lv15p,lv16p,lv24p,lv12p,lv1p,lv14p,lv15p,lv24p,lv25p,lv6p,lv10p,lv6p,lv10p,lv26p,⟨⟨lv6p,lv10p,lv27p,lv6p,lv10p,lv28p,lv29p,lv30p,lv31p,rfl⟩,λ_ _=>⟨lv6p,lv10p,lv27p,lv6p,lv10p,lv28p,lv29p,lv30p,lv31p,rfl⟩⟩,λ_ _=>⟨lv6p,lv10p,lv27p,lv6p,lv10p,lv28p,lv29p,lv30p,lv31p,rfl⟩⟩,λ_ _=>⟨lv4p,lv8p,lv21p,lv9p,lv6p,lv10p,lv23p,lv12p,lv12p,lv1p,lv14p,lv15p,lv16p,lv24p,lv12p,lv1p,lv14p,lv15p,lv24p,lv25p,lv6p,lv10p,lv6p,lv10p,lv26p,⟨⟨lv6p,lv10p,lv27p,lv6p,lv10p,lv28p,lv29p,lv30p,lv31p,rfl⟩,λ_ _=>⟨lv6p,lv10p,lv27p,lv6p,lv10p,lv28p,lv29p,lv30p,lv31p,rfl⟩⟩,λ_ _=>⟨lv6p,lv10p,lv27p,lv6p,lv10p,lv28p,lv29p,lv30p,lv31p,rfl⟩⟩⟩⟩
theorem lv_h_e:(lvT).hn true=lv_h_S:=by kernel_rfl
theorem lv_h:(lvT).Holds (·=true):=Tr.hn_holds (Eq.mpr lv_h_e lv_h_Sp)
theorem lv_ok:FnPure Tryd.prog 8 .none dBool (λ_=>true) (λ_=>[]):=pure_of_tree (MTab.okz tabV1 [(4000000,0)] usV) noΛ_ok 100 λg _ hp=>by
 have h:lvT.Holds (·=true):=lv_h;exact h
end Go.Proofs.YtfkdbifgppfegaaDoor

namespace Go.Proofs.YtfkdbifgppfegaaDoor
open Go.RowKit Go.Sx Go.Lp
theorem sml_ok:FnPure Tryd.prog 9 aL dBool sml_F (λ_=>[]):=sml_okS (λ_=>[]) λl _ _=>by
 show sml_side l;unfold sml_side;simp only[El.okL_eq,implies_true,and_self]
theorem few21_ok:FnPure Tryd.prog 13 (.one dO) dBool few21_F (λ_=>[]):=few21_okS (λ_=>[]) λd _ _=>by
 show few21_side d;unfold few21_side;simp only[El.okL_eq,implies_true,and_self]
end Go.Proofs.YtfkdbifgppfegaaDoor

namespace Go.Proofs.YtfkdbifgppfegaaDoor
open Go.RowKit Go.Sx
set_option maxRecDepth 100000
end Go.Proofs.YtfkdbifgppfegaaDoor

namespace Go.Proofs.YtfkdbifgppfegaaDoor
open Go.RowKit Go.Sx Go.Lp
set_option maxRecDepth 100000
end Go.Proofs.YtfkdbifgppfegaaDoor

namespace Go.Proofs.YtfkdbifgppfegaaDoor
open Go.RowKit Go.Sx
set_option maxRecDepth 100000
end Go.Proofs.YtfkdbifgppfegaaDoor

namespace Go.Proofs.YtfkdbifgppfegaaDoor
open Go.RowKit Go.Sx Go.Lp
set_option maxRecDepth 100000
end Go.Proofs.YtfkdbifgppfegaaDoor

namespace Go.Proofs.YtfkdbifgppfegaaDoor
open Go.ChangeShapes Go.WideShapes Go.ChangeAt Go.RowKit Go.Sx Go.Shelf
theorem cell_block{W:World}{b i:Nat}{v:Value}(h:W.cell? ⟨b,i,none⟩=some v):∃cs t fz,W.heap[b]?=some (.cells cs t fz)/\cs[i]?=some v:=by
 unfold World.cell? at h;simp only[Option.isSome_none,Bool.false_eq_true,if_false,id_eq]at h;cases hb:W.heap[b]? with
 |none=>rw[hb]at h;cases h
 |some o=>
  rw[hb]at h;cases o with
  |cells cs t fz=>exact⟨cs,t,fz,rfl,h⟩
  |_=>cases h
abbrev laidL:List (String×DataW Unit):=[("unicode/utf8.acceptRanges",Rows.laid_unicode_utf8_acceptRanges),("unicode/utf8.first",Rows.laid_unicode_utf8_first)]
theorem laidFirst:Rows.laid_unicode_utf8_first=Lib.firstData:=by kernel_rfl
theorem laidAccept:Rows.laid_unicode_utf8_acceptRanges=Lib.acceptData:=by kernel_rfl
set_option maxRecDepth 100000 in
theorem rowEnv{W:World}(h:laidMetH Tryd.prog laidL W)(hs:W.ShapedOpen Tryd.prog):EnvF (λb=>W.heap[b]?):=by
 rw[MakeChecks.laidMetH_plain _ _ _ (by kernel_rfl)]at h;have hT:Lib.Utf8Tabs 0 1 W:=utf8Tabs_of_readsT (U8Types.of196 lvVal) ⟨by kernel_rfl,by kernel_rfl,by kernel_rfl,by kernel_rfl,by kernel_rfl,by kernel_rfl,by kernel_rfl⟩ (by rw[<-laidFirst];exact Lib.laidMet.reads h (.tail _ (.head _))) (by rw[<-laidAccept];exact Lib.laidMet.reads h (.head _));refine⟨?_,?_⟩
 .obtain⟨cs,t,fz,h1,_⟩:=cell_block (hT.1 0 (by decide));refine⟨cs,t,fz,h1,λc hc=>?_⟩;obtain⟨cs',t',fz',k1,k2⟩:=cell_block (hT.1 c hc);rw[h1]at k1;cases k1;exact k2
 .obtain⟨cs,t,fz,h1,_⟩:=cell_block (hT.2 0 (by decide)).1;refine⟨cs,t,fz,h1,λi hi=>⟨?_,?_⟩⟩
  .obtain⟨cs',t',fz',k1,k2⟩:=cell_block (hT.2 i hi).1;rw[h1]at k1;cases k1;exact k2
  .obtain⟨cs',t',fz',k1,k2⟩:=cell_block (hT.2 i hi).2;rw[h1]at k1;cases k1;exact k2
theorem rowLaid{H:Type}{enc:TypeId×Value->H}{a:Assume}{C:Checked}{os:Os}{f:FuncId}{fn:Func}{s:ChangeSpec}{conds:List PathCond}{apart fresh handsOn again:Bool}{laid:List (String×DataW Unit)}
  (own:ownKnob C.prog.godebug=none) (started:os.Started) (noInit:C.prog.inits.idxOf? f=none) (hfn:C.prog.funcs[f]?=some fn)
  (witness:∃(w:World)(tape:Tape)(i:Input),w.os=os/\(w.forCall tape i).Shaped C.prog/\i.vars=[]/\Input.okWide C.prog (w.forCall tape i) .any w.heap.size f i/\
   ((s.pre enc C.prog fn conds apart (w.forCall tape i).memory i.args/\laidMetH C.prog laid (w.forCall tape i).memory)/\sizedMet enc C.prog fn (OpenSpec.ofChange s) apart (w.forCall tape i).memory i.args)/\a.holds C.prog (lone (Frame.enter C.prog f i.args .normal) [] (w.forCall tape i)))
  (contract:∀(W:World)(base:Nat)(args:Array Value)(ds gs:List (DataW H))(before:List MemPlace),
   (∀(j:Nat)t v,fn.params[j]?=some t->args[j]?=some v->Value.okWide C.prog W .any base t v)->
   DataW.Whole enc C.prog fn.params.toList s.vars apart W args.toList ds gs before->
   conds.all (PathCond.test C.prog ⟨fn.params.toList,ds,s.plain.varTypes C.prog,gs⟩)=true->
   laidMetH C.prog laid W->W.ShapedOpen C.prog->
   Calls C.prog f args W λe W'=>∃v,e=.returned v/\s.post enc C.prog fn apart fresh handsOn again W args v W') :
  ReturnsInHanded a C os f .any (λw args=>(s.pre enc C.prog fn conds apart w args/\laidMetH C.prog laid w)/\sizedMet enc C.prog fn (OpenSpec.ofChange s) apart w args) (s.post enc C.prog fn apart fresh handsOn again):=by
 refine returnsInHanded_of_calls own started noInit witness ?_;intro w tape i _ hsh _ hok hpre hholds;obtain⟨_,_,_,fn',hfn',_,_,_,_,hval⟩:=hok;have e:fn'=fn:=Option.some.inj (hfn'.symm.trans hfn);subst e;obtain⟨⟨⟨ds,gs,before,hw,hc⟩,hl⟩,hz⟩:=hpre;have hw':=DataW.Whole.of_heap (w':=w.forCall tape i) (by rfl) hw;refine(contract (w.forCall tape i) w.heap.size i.args ds gs before hval hw' hc (hl.of_heap (by rfl)) hsh).mono λe W'⟨v,he,hp⟩=>?_;subst he;exact ChangeSpec.post_blind hp
end Go.Proofs.YtfkdbifgppfegaaDoor

namespace Go.Proofs.YtfkdbifgppfegaaDoor
open Go.RowKit Go.Sx Go.ChangeShapes
def W1(n:Int):Prop:=(Lit.int .i64 n).wf=true
def WS(s:BA):Prop:=s.size<=maxLen
def WIIB(a:IIB):Prop:=W1 a.1/\W1 a.2.1/\WS a.2.2
def Fn.W(s:Fn):Prop:=WIIB s.toP
def WIIBI(a:IIBI):Prop:=W1 a.1/\W1 a.2.1/\WS a.2.2.1/\W1 a.2.2.2
def Ent.W(s:Ent):Prop:=WIIBI s.toP
def WLI(l:List Int):Prop:=∀n∈l,W1 n
def WNd(a:NdP):Prop:=W1 a.1/\W1 a.2.1/\WLI a.2.2.1/\Fn.W a.2.2.2.1/\WS a.2.2.2.2.1/\W1 a.2.2.2.2.2.1/\W1 a.2.2.2.2.2.2
def Nd.W(s:Nd):Prop:=WNd s.toP
def WMv(a:MvP):Prop:=W1 a.1/\W1 a.2.1/\W1 a.2.2.1/\W1 a.2.2.2.1/\Fn.W a.2.2.2.2
def Mv.W(s:Mv):Prop:=WMv s.toP
def WLD(l:List Nd):Prop:=∀n∈l,Nd.W n
def WLV(l:List Mv):Prop:=∀n∈l,Mv.W n
def WLN(l:List Ent):Prop:=∀n∈l,Ent.W n
def WDl(a:DlP):Prop:=WLI a.1/\WLD a.2.1/\WLV a.2.2
def Dl.W(s:Dl):Prop:=WDl s.toP
def WB(_:Bool):Prop:=True
def WLB(l:List Bool):Prop:=∀n∈l,WB n
def WLd(a:LdP):Prop:=W1 a.1/\W1 a.2.1/\W1 a.2.2.1/\W1 a.2.2.2.1/\Dl.W a.2.2.2.2.1/\WLB a.2.2.2.2.2.1/\WB a.2.2.2.2.2.2.1/\W1 a.2.2.2.2.2.2.2.1/\WLN a.2.2.2.2.2.2.2.2
def Ld.W(s:Ld):Prop:=WLd s.toP
theorem rd_str{P:Program}{t:TypeId}(ht:P.underlying t=some .string):Rd P t eStr WS:=λH enc w base spare held fuel cs x hx=>by
 obtain⟨s,rfl,_,hw⟩:=DataW.trod_string ht hx;exact⟨s,hw,by simp[eStr,El.one',dStr,SV.fits,SV.fit]⟩
theorem rd_bool{P:Program}{t:TypeId}(ht:P.underlying t=some .bool):Rd P t eBool WB:=λH enc w base spare held fuel cs x hx=>by
 obtain⟨s,rfl,_⟩:=DataW.trod_bool ht hx;exact⟨s,trivial,by simp[eBool,El.one',dBool,SV.fits,SV.fit]⟩
theorem rd2:Rd Tryd.prog 2 eI W1:=rd_int Tryd.underlying2
theorem rd3:Rd Tryd.prog 3 eI W1:=rd_int Tryd.underlying3
theorem rdEr:Rd Tryd.prog 28 eI W1:=rd_int Tryd.underlying28
theorem rdBo:Rd Tryd.prog 4 eBool WB:=rd_bool Tryd.underlying4
theorem rdSt:Rd Tryd.prog 9 eStr WS:=rd_str Tryd.underlying9
theorem rdFn:Rd Tryd.prog 105 eF Fn.W:=rd_iso (Q:=WIIB) (rd_struct (ts:=[3,2,9]) Tryd.underlying105 rfl (by kernel_rfl) (rds_cons rd3 (rds_cons rd2 (rds_one rdSt)))) _ _ _ _
theorem rdEn:Rd Tryd.prog 73 eN Ent.W:=rd_iso (Q:=WIIBI) (rd_struct (ts:=[3,2,9,2]) Tryd.underlying73 rfl (by kernel_rfl) (rds_cons rd3 (rds_cons rd2 (rds_cons rdSt (rds_one rd2))))) _ _ _ _
theorem rdLI:Rd Tryd.prog 22 eLI WLI:=rd_slice Tryd.underlying22 (by kernel_rfl) (by decide) rd3
theorem rdNd:Rd Tryd.prog 109 eD Nd.W:=rd_iso (Q:=WNd) (rd_struct (ts:=[3,3,22,105,9,2,3]) Tryd.underlying109 rfl (by kernel_rfl) (rds_cons rd3 (rds_cons rd3 (rds_cons rdLI (rds_cons rdFn (rds_cons rdSt (rds_cons rd2 (rds_one rd3)))))))) _ _ _ _
theorem rdMv:Rd Tryd.prog 107 eV Mv.W:=rd_iso (Q:=WMv) (rd_struct (ts:=[3,3,3,2,105]) Tryd.underlying107 rfl (by kernel_rfl) (rds_cons rd3 (rds_cons rd3 (rds_cons rd3 (rds_cons rd2 (rds_one rdFn)))))) _ _ _ _
theorem rdLD:Rd Tryd.prog 23 eLD WLD:=rd_slice Tryd.underlying23 (by kernel_rfl) (by decide) rdNd
theorem rdLV:Rd Tryd.prog 24 eLV WLV:=rd_slice Tryd.underlying24 (by kernel_rfl) (by decide) rdMv
theorem rdLN:Rd Tryd.prog 29 eLN WLN:=rd_slice Tryd.underlying29 (by kernel_rfl) (by decide) rdEn
theorem rdDl:Rd Tryd.prog 26 eDl Dl.W:=rd_iso (Q:=WDl) (rd_struct (ts:=[22,23,24]) Tryd.underlying26 rfl (by kernel_rfl) (rds_cons rdLI (rds_cons rdLD (rds_one rdLV)))) _ _ _ _
theorem Tryd.own:ownKnob Tryd.prog.godebug=none:=by kernel_rfl
theorem Tryd.laidOut:laidOutB Tryd.prog=true:=by kernel_rfl
end Go.Proofs.YtfkdbifgppfegaaDoor

namespace Go.Proofs.YtfkdbifgppfegaaDoor
open Go.RowKit Go.Sx
set_option maxRecDepth 100000
abbrev qmg_G:Type:=List Ms×Unit×List Ms×Int×Int×Bool
noncomputable def qmg_LP:LP 0 qmg_G:=.pair (.slot 0 1 dLMs) (.pair (.fix 0 2 (.fn 39 [])) (.pair (.slot 0 15 dLMs) (.pair (.slot 0 16 dI) (.pair (.slot 0 17 dI) (.slot 0 6 dBool)))))
noncomputable def qmg_R(ys:List Ms)(_u:Unit)(xs:List Ms)(n:Int)(i:Int)(r:Bool):Ex×qmg_G:=
 bif decide (i<n)then bif !decide (Ms.mk (xs.getD i.toNat eMs.dflt).kind (xs.getD i.toNat eMs.dflt).ver (xs.getD i.toNat eMs.dflt).p (xs.getD i.toNat eMs.dflt).t (eR.ag (xs.getD i.toNat eMs.dflt).recs) (eC.ag (xs.getD i.toNat eMs.dflt).changes) (Dl.mk (eI.ag (xs.getD i.toNat eMs.dflt).dl.drop) (eD.ag (xs.getD i.toNat eMs.dflt).dl.put) (eV.ag (xs.getD i.toNat eMs.dflt).dl.moves)) (xs.getD i.toNat eMs.dflt).cut (eN.ag (xs.getD i.toNat eMs.dflt).ents) (xs.getD i.toNat eMs.dflt).yes (xs.getD i.toNat eMs.dflt).why=Ms.mk (ys.getD i.toNat eMs.dflt).kind (ys.getD i.toNat eMs.dflt).ver (ys.getD i.toNat eMs.dflt).p (ys.getD i.toNat eMs.dflt).t (eR.ag (ys.getD i.toNat eMs.dflt).recs) (eC.ag (ys.getD i.toNat eMs.dflt).changes) (Dl.mk (eI.ag (ys.getD i.toNat eMs.dflt).dl.drop) (eD.ag (ys.getD i.toNat eMs.dflt).dl.put) (eV.ag (ys.getD i.toNat eMs.dflt).dl.moves)) (ys.getD i.toNat eMs.dflt).cut (eN.ag (ys.getD i.toNat eMs.dflt).ents) (ys.getD i.toNat eMs.dflt).yes (ys.getD i.toNat eMs.dflt).why)then(Ex.ret,eMs.ag ys,(),eMs.ag xs,n,i,false)else(Ex.normal,eMs.ag ys,(),eMs.ag xs,n,IntKind.i64.wrap (i+(1:Int)),r)
 else(Ex.exit (0:Nat),eMs.ag ys,(),eMs.ag xs,n,i,r)
def qmg_side(ys:List Ms)(_u:Unit)(xs:List Ms)(n:Int)(i:Int)(r:Bool):Prop:=
 (decide (i<n)=true->((0:Int)<=i/\i<(↑xs.length:Int))/\((0:Int)<=i/\i<(↑ys.length:Int))/\eR.okL (xs.getD i.toNat eMs.dflt).recs/\eC.okL (xs.getD i.toNat eMs.dflt).changes/\eI.okL (xs.getD i.toNat eMs.dflt).dl.drop/\eD.okL (xs.getD i.toNat eMs.dflt).dl.put/\eV.okL (xs.getD i.toNat eMs.dflt).dl.moves/\eN.okL (xs.getD i.toNat eMs.dflt).ents/\eR.okL (ys.getD i.toNat eMs.dflt).recs/\eC.okL (ys.getD i.toNat eMs.dflt).changes/\eI.okL (ys.getD i.toNat eMs.dflt).dl.drop/\eD.okL (ys.getD i.toNat eMs.dflt).dl.put/\eV.okL (ys.getD i.toNat eMs.dflt).dl.moves/\eN.okL (ys.getD i.toNat eMs.dflt).ents/\((!decide (Ms.mk (xs.getD i.toNat eMs.dflt).kind (xs.getD i.toNat eMs.dflt).ver (xs.getD i.toNat eMs.dflt).p (xs.getD i.toNat eMs.dflt).t (eR.ag (xs.getD i.toNat eMs.dflt).recs) (eC.ag (xs.getD i.toNat eMs.dflt).changes) (Dl.mk (eI.ag (xs.getD i.toNat eMs.dflt).dl.drop) (eD.ag (xs.getD i.toNat eMs.dflt).dl.put) (eV.ag (xs.getD i.toNat eMs.dflt).dl.moves)) (xs.getD i.toNat eMs.dflt).cut (eN.ag (xs.getD i.toNat eMs.dflt).ents) (xs.getD i.toNat eMs.dflt).yes (xs.getD i.toNat eMs.dflt).why=Ms.mk (ys.getD i.toNat eMs.dflt).kind (ys.getD i.toNat eMs.dflt).ver (ys.getD i.toNat eMs.dflt).p (ys.getD i.toNat eMs.dflt).t (eR.ag (ys.getD i.toNat eMs.dflt).recs) (eC.ag (ys.getD i.toNat eMs.dflt).changes) (Dl.mk (eI.ag (ys.getD i.toNat eMs.dflt).dl.drop) (eD.ag (ys.getD i.toNat eMs.dflt).dl.put) (eV.ag (ys.getD i.toNat eMs.dflt).dl.moves)) (ys.getD i.toNat eMs.dflt).cut (eN.ag (ys.getD i.toNat eMs.dflt).ents) (ys.getD i.toNat eMs.dflt).yes (ys.getD i.toNat eMs.dflt).why))=true->eMs.okL ys/\eMs.okL xs)/\((!decide (Ms.mk (xs.getD i.toNat eMs.dflt).kind (xs.getD i.toNat eMs.dflt).ver (xs.getD i.toNat eMs.dflt).p (xs.getD i.toNat eMs.dflt).t (eR.ag (xs.getD i.toNat eMs.dflt).recs) (eC.ag (xs.getD i.toNat eMs.dflt).changes) (Dl.mk (eI.ag (xs.getD i.toNat eMs.dflt).dl.drop) (eD.ag (xs.getD i.toNat eMs.dflt).dl.put) (eV.ag (xs.getD i.toNat eMs.dflt).dl.moves)) (xs.getD i.toNat eMs.dflt).cut (eN.ag (xs.getD i.toNat eMs.dflt).ents) (xs.getD i.toNat eMs.dflt).yes (xs.getD i.toNat eMs.dflt).why=Ms.mk (ys.getD i.toNat eMs.dflt).kind (ys.getD i.toNat eMs.dflt).ver (ys.getD i.toNat eMs.dflt).p (ys.getD i.toNat eMs.dflt).t (eR.ag (ys.getD i.toNat eMs.dflt).recs) (eC.ag (ys.getD i.toNat eMs.dflt).changes) (Dl.mk (eI.ag (ys.getD i.toNat eMs.dflt).dl.drop) (eD.ag (ys.getD i.toNat eMs.dflt).dl.put) (eV.ag (ys.getD i.toNat eMs.dflt).dl.moves)) (ys.getD i.toNat eMs.dflt).cut (eN.ag (ys.getD i.toNat eMs.dflt).ents) (ys.getD i.toNat eMs.dflt).yes (ys.getD i.toNat eMs.dflt).why))=false->eMs.okL ys/\eMs.okL xs))/\(decide (i<n)=false->eMs.okL ys/\eMs.okL xs)
theorem qmg_one:((loopsOf Tryd.prog 38).filter λc=>Nat.beq (lkey c) 4).length=1:=by kernel_rfl
abbrev qmg_GC:Type:=List Ms×List Ms×Int
abbrev qmg_GB:Type:=Bool×Unit
def qmg_f(g:qmg_G):Int×qmg_GC×qmg_GB:=(g.2.2.2.2.1,(g.2.2.1,g.1,g.2.2.2.1),(g.2.2.2.2.2,g.2.1))
def qmg_g(d:Int×qmg_GC×qmg_GB):qmg_G:=(d.2.1.2.1,d.2.2.2,d.2.1.1,d.2.1.2.2,d.1,d.2.2.1)
theorem qmg_es(g:qmg_G):(qmg_R g.1 g.2.1 g.2.2.1 g.2.2.2.1 g.2.2.2.2.1 g.2.2.2.2.2).1=.normal\/(qmg_R g.1 g.2.1 g.2.2.1 g.2.2.2.1 g.2.2.2.2.1 g.2.2.2.2.2).1∈([.ret,.exit 0]:List Ex):=by
 unfold qmg_R
 repeat' (first|(left;rfl)|(right;simp only[cond_true,cond_false];simp;done)|(rw[Bool.cond_eq_ite];split))
noncomputable abbrev qmg_C(Inv:qmg_G->List Prop)(m:qmg_G->Nat):LCon:=loopR [.ret,.exit 0] (loopBody Tryd.prog 38 4) qmg_LP [] 32 Inv (λg=>qmg_R g.1 g.2.1 g.2.2.1 g.2.2.2.1 g.2.2.2.2.1 g.2.2.2.2.2) m
theorem qmg_loop(Inv:qmg_G->List Prop)(m:qmg_G->Nat)(hs:∀g,allP (Inv g)->qmg_side g.1 g.2.1 g.2.2.1 g.2.2.2.1 g.2.2.2.2.1 g.2.2.2.2.2)(hg:Goes (λg:qmg_G=>qmg_R g.1 g.2.1 g.2.2.1 g.2.2.2.1 g.2.2.2.2.1 g.2.2.2.2.2) m λg=>allP (Inv g)):∀b∈loopsOf Tryd.prog 38,lkey b=4->LoopOk Tryd.prog b (qmg_C Inv m).g:=loop_run (Γ:=(PTab.gamz tabE10 [] [])) (Λ:=noΛ) (PTab.okz tabE10 [] []) noΛ_ok 100 38 4 32 qmg_LP [] Inv (λg=>qmg_R g.1 g.2.1 g.2.2.1 g.2.2.2.1 g.2.2.2.2.1 g.2.2.2.2.2) (λg=>qmg_side g.1 g.2.1 g.2.2.1 g.2.2.2.1 g.2.2.2.2.1 g.2.2.2.2.2) m default [.ret,.exit 0] qmg_one (λrd T B HL HB ds g=>by kernel_rfl) (λrd T B HL HB ds g=>by kernel_rfl) hs hg qmg_es
end Go.Proofs.YtfkdbifgppfegaaDoor

namespace Go.Proofs.YtfkdbifgppfegaaDoor
open Go.RowKit Go.Sx Go.Lp
set_option maxRecDepth 100000
noncomputable def qmg_S(c:qmg_GC)(b:qmg_GB)(i:Int)(v:Ms):Ex×qmg_GB:=bif !decide (v=c.2.1.getD i.toNat eMs.dflt)then(.ret,false,())else(.normal,b.1,b.2)
def qmg_K(c:qmg_GC)(b:qmg_GB)(i:Int):Prop:=c.1.length=c.2.1.length
abbrev qmg_I(g:qmg_G):List Prop:=ixI (λc:qmg_GC=>c.2.2) (λc:qmg_GC=>c.1) qmg_K (qmg_f g)
abbrev qmg_M(g:qmg_G):Nat:=ixM (λc:qmg_GC=>c.2.2) (qmg_f g)
theorem qmg_P:ixP qmg_S (λc:qmg_GC=>c.1) qmg_K:=λ_ _ _ _ h _ _=>h
noncomputable abbrev qmg_RR(g:qmg_G):Ex×qmg_G:=qmg_R g.1 g.2.1 g.2.2.1 g.2.2.2.1 g.2.2.2.2.1 g.2.2.2.2.2
theorem qmg_RF(d:Int×qmg_GC×qmg_GB)(hi:allP (ixI (λc:qmg_GC=>c.2.2) (λc:qmg_GC=>c.1) qmg_K d)):qmg_RR (qmg_g d)=((ixF 0 (λc:qmg_GC=>c.2.2) (λc:qmg_GC=>c.1) eMs.dflt qmg_S d).1,qmg_g (ixF 0 (λc:qmg_GC=>c.2.2) (λc:qmg_GC=>c.1) eMs.dflt qmg_S d).2):=by
 obtain⟨i,⟨xs,ys,n⟩,⟨r,⟨⟩⟩⟩:=d;show qmg_R ys () xs n i r=_;unfold qmg_R ixF qmg_S;simp only[El.ag_eq,El.okL_eq];cases decide (i<n)with
 |false=>rfl
 |true=>
  simp only[cond_true];generalize (!decide ((xs.getD i.toNat eMs.dflt)=ys.getD i.toNat eMs.dflt))=z;cases z<;>rfl
theorem qmg_ok:∀b∈loopsOf Tryd.prog 38,lkey b=4->LoopOk Tryd.prog b (qmg_C qmg_I qmg_M).g:=by
 refine qmg_loop qmg_I qmg_M (λg hi=>?_) (ix_conj_goes (λ_=>rfl) (λ_=>rfl) qmg_RF qmg_P);obtain⟨ys,⟨⟩,xs,n,i,r⟩:=g;obtain⟨h1,h2,h3,h4,h5⟩:=hi _ (List.mem_cons_self ..);have h1:n=(xs.length:Int):=h1;have h3:0<=i:=h3;have h5:xs.length=ys.length:=h5;show qmg_side ys () xs n i r;unfold qmg_side;simp only[El.okL_eq,decide_eq_true_eq,decide_eq_false_iff_not];have k0:∀e:Nat,e<xs.length->eMs.Ok (eMs.els xs e):=λe _=>eMs.ok_els xs e;have k1:∀e:Nat,e<ys.length->eMs.Ok (eMs.els ys e):=λe _=>eMs.ok_els ys e;clear hi
 repeat' (first|exact True.intro|exact k0|exact k1|apply And.intro|intro _)
 all_goals omega
theorem qmg_run(c:qmg_GC)(b:qmg_GB)(k1:c.2.2=((c.1).length:Int))(k2:(c.1).length<=maxLen)(k3:qmg_K c b 0):loopF qmg_RR qmg_M (qmg_g (0,c,b))=((scan 0 (qmg_S c) 0 (c.1) b).1,qmg_g ((scan 0 (qmg_S c) 0 (c.1) b).2.1,c,(scan 0 (qmg_S c) 0 (c.1) b).2.2)):=ix_conj_run (φ:=qmg_f) (ψ:=qmg_g) (λ_=>rfl) (λ_=>rfl) qmg_RF qmg_P c b k1 k2 k3
noncomputable def ltT2:LTab Tryd.prog:=(LTab.nil.cons 38 4 (qmg_C qmg_I qmg_M) qmg_ok)
noncomputable abbrev lamT2:Lam:=ltT2.lam
theorem lamT2_ok:∀f k L,lamT2 f k=some L->∀b∈loopsOf Tryd.prog f,lkey b=k->LoopOk Tryd.prog b L.g:=ltT2.ok
end Go.Proofs.YtfkdbifgppfegaaDoor

namespace Go.Proofs.YtfkdbifgppfegaaDoor
open Go.RowKit Go.Sx
set_option maxRecDepth 100000
abbrev dSm:Dv Unit:=dFnA 39 .none
abbrev aMsF:DA (List Ms×List Ms×Unit):=.cons dLMs (.cons dLMs (.one dSm))
noncomputable def mls_q1(a:List Ms)(b:List Ms)(_u:Unit):Ex×
 qmg_G:=
 loopF (λg=>qmg_R g.fst g.snd.fst g.snd.snd.fst g.snd.snd.snd.fst g.snd.snd.snd.snd.fst g.snd.snd.snd.snd.snd) qmg_M (eMs.ag b,(),eMs.ag a,(↑a.length:Int),(0:Int),false)
noncomputable def mls_F(a:List Ms)(b:List Ms)(_u:Unit):Dv.T dBool:=
 bif (↑a.length:Int)!=(↑b.length:Int)then false
 else bif exB Ex.ret (mls_q1 a b _u).fst then(mls_q1 a b _u).snd.snd.snd.snd.snd.snd else true
def mls_side(a:List Ms)(b:List Ms)(_u:Unit):Prop:=
 ((↑a.length:Int)!=(↑b.length:Int))=false->eMs.okL b/\eMs.okL a/\Lp.ixJ (λc=>c.snd.snd) (λc=>c.fst) qmg_K (qmg_f (eMs.ag b,(),eMs.ag a,(↑a.length:Int),(0:Int),false))
theorem mls_okS(pre:DA.T aMsF->List Prop)(h:∀g,DA.bd aMsF g->(∀p∈pre g,p)->mls_side g.1 g.2.1 g.2.2):FnPure Tryd.prog 38 aMsF dBool (λg=>mls_F g.1 g.2.1 g.2.2) pre:=pure_of_sideS (Γ:=(PTab.gamz tabE10 [] [])) (Λ:=lamT2) (PTab.okz tabE10 [] []) lamT2_ok 100 default (λg=>mls_side g.1 g.2.1 g.2.2) (λg=>by kernel_rfl) (λg=>by kernel_rfl) h
end Go.Proofs.YtfkdbifgppfegaaDoor

namespace Go.Proofs.YtfkdbifgppfegaaDoor
open Go.RowKit Go.Sx Go.Lp
set_option maxRecDepth 100000
theorem mls_ok:FnPure Tryd.prog 38 aMsF dBool (λg=>decide (g.1=g.2.1)) (λ_=>[]):=by
 refine pure_congr (mls_okS (λ_=>[]) λg hb _=>?_) λg hb _=>?_
 all_goals (obtain⟨a,b,⟨⟩⟩:=g;have ha:a.length<=maxLen:=hb.1.1)
 .show mls_side a b ();unfold mls_side;simp only[El.okL_eq,El.ag_eq];exactλhc=>⟨trivial,trivial,ixJ0 rfl ha (ne_len hc)⟩
 show mls_F a b ()=decide (a=b)
 have hq:mls_q1 a b ()=loopF qmg_RR qmg_M (qmg_g (0,(a,b,(a.length:Int)),false,())):=by
  unfold mls_q1;rw[El.ag_eq,El.ag_eq];rfl
 unfold mls_F;cases hc:((a.length:Int)!=(b.length:Int))with
 |true=>
  have:a≠b:=λe=>by subst e;simp at hc
  simp[this]
 |false=>
  have hl:=ne_len hc;obtain⟨h3,h4⟩:=scanEq (x:=0) eMs.dflt a b hl (st:=qmg_S (a,b,(a.length:Int))) (r:=λ_=>(false,())) (λ_ _ _=>rfl) (false,());rw[hq,qmg_run (a,b,(a.length:Int)) (false,()) rfl ha hl];show(bif exB .ret (scan 0 (qmg_S (a,b,(a.length:Int))) 0 a (false,())).1 then(scan 0 (qmg_S (a,b,(a.length:Int))) 0 a (false,())).2.2.1 else true)=_;rw[h3,h4];cases decide (a=b)<;>rfl
structure Sd where
 l:Ld
 ms:List Ms
 e:Int
deriving DecidableEq,Inhabited
abbrev eLMs:El (List Ms):=eList eMs
abbrev SdP:=Ld×List Ms×Int
def Sd.ofP:SdP->Sd:=λ(a,b,c)=>⟨a,b,c⟩
def Sd.toP(x:Sd):SdP:=(x.l,x.ms,x.e)
def eSd:El Sd:=.iso (.pair eL (.pair eLMs eI)) Sd.ofP Sd.toP (λ_=>rfl) (λ_=>rfl)
abbrev dSd:Dv Sd:=.agg eSd
abbrev aSS:DA (Sd×Sd):=.cons dSd (.one dSd)
abbrev aLO:DA (Ld×Do):=.cons dL (.one dO)
noncomputable def tabT4:PTab Tryd.prog:=tabE10.cons 38 (pconP aMsF dBool (λg=>decide (g.1=g.2.1)) (λ_=>[])) (conP_ok mls_ok puB)
end Go.Proofs.YtfkdbifgppfegaaDoor

namespace Go.Proofs.YtfkdbifgppfegaaDoor
open Go.RowKit Go.Sx Go.ChangeShapes
def W2(a:I2):Prop:=W1 a.1/\W1 a.2
def W4(a:I4):Prop:=W1 a.1/\W1 a.2.1/\W1 a.2.2.1/\W1 a.2.2.2
def W6(a:I6):Prop:=W1 a.1/\W1 a.2.1/\W4 a.2.2
def Place.W(s:Place):Prop:=W2 s.toP
def T.W(t:T):Prop:=W6 t.toP
def WPTI(a:PTI):Prop:=Place.W a.1/\T.W a.2.1/\W1 a.2.2
def Change.W(s:Change):Prop:=WPTI s.toP
def WIB(a:IB):Prop:=W1 a.1/\WS a.2
def Rec.W(s:Rec):Prop:=WIB s.toP
def WLR(l:List Rec):Prop:=∀n∈l,Rec.W n
def WLC(l:List Change):Prop:=∀n∈l,Change.W n
def WMs(a:MsP):Prop:=W1 a.1/\W1 a.2.1/\Place.W a.2.2.1/\T.W a.2.2.2.1/\WLR a.2.2.2.2.1/\WLC a.2.2.2.2.2.1/\Dl.W a.2.2.2.2.2.2.1/\W1 a.2.2.2.2.2.2.2.1/\WLN a.2.2.2.2.2.2.2.2.1/\WB a.2.2.2.2.2.2.2.2.2.1/\W1 a.2.2.2.2.2.2.2.2.2.2
def Ms.W(s:Ms):Prop:=WMs s.toP
def WDo(a:DoP):Prop:=W1 a.1/\W1 a.2.1/\W1 a.2.2.1/\W1 a.2.2.2.1/\Dl.W a.2.2.2.2.1/\Ms.W a.2.2.2.2.2
def Do.W(s:Do):Prop:=WDo s.toP
theorem rd4:Rd Tryd.prog 39 e4 W4:=rd_array (ts:=[2,2,2,2]) Tryd.underlying39 rfl (by kernel_rfl) (rds_cons rd2 (rds_cons rd2 (rds_cons rd2 (rds_one rd2))))
theorem rdT:Rd Tryd.prog 41 eT T.W:=rd_iso (Q:=W6) (rd_struct (ts:=[2,3,39]) Tryd.underlying41 rfl (by kernel_rfl) (rds_cons rd2 (rds_cons rd3 (rds_one rd4)))) _ _ _ _
theorem rdP:Rd Tryd.prog 38 eP Place.W:=rd_iso (Q:=W2) (rd_struct (ts:=[3,3]) Tryd.underlying38 rfl (by kernel_rfl) (rds_cons rd3 (rds_one rd3))) _ _ _ _
theorem rdC:Rd Tryd.prog 121 eC Change.W:=rd_iso (Q:=WPTI) (rd_struct (ts:=[38,41,2]) Tryd.underlying121 rfl (by kernel_rfl) (rds_cons rdP (rds_cons rdT (rds_one rd2)))) _ _ _ _
theorem rdR:Rd Tryd.prog 118 eR Rec.W:=rd_iso (Q:=WIB) (rd_struct (ts:=[2,9]) Tryd.underlying118 rfl (by kernel_rfl) (rds_cons rd2 (rds_one rdSt))) _ _ _ _
theorem rdLR:Rd Tryd.prog 42 eLR WLR:=rd_slice Tryd.underlying42 (by kernel_rfl) (by decide) rdR
theorem rdLC:Rd Tryd.prog 43 eLC WLC:=rd_slice Tryd.underlying43 (by kernel_rfl) (by decide) rdC
theorem rdMs:Rd Tryd.prog 45 eMs Ms.W:=rd_iso (Q:=WMs) (rd_struct (ts:=[3,2,38,41,42,43,26,2,29,4,28]) Tryd.underlying45 rfl (by kernel_rfl) (rds_cons rd3 (rds_cons rd2 (rds_cons rdP (rds_cons rdT (rds_cons rdLR (rds_cons rdLC (rds_cons rdDl (rds_cons rd2 (rds_cons rdLN (rds_cons rdBo (rds_one rdEr)))))))))))) _ _ _ _
theorem rdDo:Rd Tryd.prog 51 eO Do.W:=rd_iso (Q:=WDo) (rd_struct (ts:=[3,3,2,28,26,45]) Tryd.underlying51 rfl (by kernel_rfl) (rds_cons rd3 (rds_cons rd3 (rds_cons rd2 (rds_cons rdEr (rds_cons rdDl (rds_one rdMs))))))) _ _ _ _
end Go.Proofs.YtfkdbifgppfegaaDoor

namespace Go.Proofs.YtfkdbifgppfegaaDoor
open Go.RowKit Go.Sx Go.ChangeShapes
theorem rdv8:RdV Tryd.prog 5 d8 (λn=>(Lit.int .u8 n).wf=true):=rdv_int Tryd.underlying5
theorem rdvLO:RdV Tryd.prog 47 (Dv.list eO) (λl=>∀s∈l,Do.W s):=rdv_slice Tryd.underlying47 (by kernel_rfl) (by decide) rdDo
theorem wf8{n:Int}(h:(Lit.int .u8 n).wf=true):0<=n/\n<=255:=by
 simp[Lit.wf]at h;exact h
end Go.Proofs.YtfkdbifgppfegaaDoor

namespace Go.Proofs.YtfkdbifgppfegaaDoor
open Go.RowKit Go.Sx
set_option maxRecDepth 100000
noncomputable def nw1_F(n:Int):Rv.T rLE:=
 bif decide (n<(1:Int))||decide (n>(16:Int))then(Ld.mk (0:Int) (0:Int) (0:Int) (0:Int) (Dl.mk [] [] []) [] false (0:Int) [],(1:Int))
 else(Ld.mk n (0:Int) (0:Int) (0:Int) (Dl.mk [] [] []) [] false (0:Int) [],(0:Int))
def nw1_side(n:Int):Prop:=
 True
theorem nw1_okS(pre:DA.T aI->List Prop)(h:∀g,DA.bd aI g->(∀p∈pre g,p)->nw1_side g):FnPure Tryd.prog 12 aI (Rv.D rLE) (λg=>nw1_F g) pre:=res_of_side (R:=rLE) (Γ:=(MTab.gamz tabJ0 [] [])) (Λ:=noΛ) (MTab.okz tabJ0 [] []) noΛ_ok 100 default (λg=>nw1_side g) (λg=>by kernel_rfl) (λg=>by kernel_rfl) h
noncomputable def nw2_F(n:Int):Rv.T rLE:=
 bif decide (n<(1:Int))||decide (n>(16:Int))then(Ld.mk (0:Int) (0:Int) (0:Int) (0:Int) (Dl.mk [] [] []) [] false (0:Int) [],(1:Int))
 else(Ld.mk n (0:Int) (0:Int) (0:Int) (Dl.mk [] [] []) [] false (0:Int) [],(0:Int))
def nw2_side(n:Int):Prop:=
 True
theorem nw2_okS(pre:DA.T aI->List Prop)(h:∀g,DA.bd aI g->(∀p∈pre g,p)->nw2_side g):FnPure Tryd.prog 19 aI (Rv.D rLE) (λg=>nw2_F g) pre:=res_of_side (R:=rLE) (Γ:=(MTab.gamz tabJ0 [] [])) (Λ:=noΛ) (MTab.okz tabJ0 [] []) noΛ_ok 100 default (λg=>nw2_side g) (λg=>by kernel_rfl) (λg=>by kernel_rfl) h
end Go.Proofs.YtfkdbifgppfegaaDoor

namespace Go.Proofs.YtfkdbifgppfegaaDoor
open Go.RowKit Go.Sx Go.Lp
set_option maxRecDepth 100000
theorem chk_13(l:Ld)(hst:l.stage=1\/l.stage=3):chkL l=bif rgB l&&(ccB l&&(decide ((l.ents.length:Int)<=(1024:Int))&&(((l.ents.length:Int)==(0:Int)||(l.yes&&l.stage==(3:Int)))&&((l.voted.length:Int)==l.workers&&hasB l.voted false))))then(0:Int)else(213:Int):=by
 unfold chkL chkB;rcases hst with h|h<;>rw[h]<;>rfl
theorem bif213{b:Bool}(h:(bif b then(0:Int)else 213)=0):b=true:=by
 cases b
 .cases h
 .rfl
theorem st_13{l:Ld}(hs:(!l.stage==1&&!l.stage==3)=false):l.stage=1\/l.stage=3:=by
 simp only[Bool.and_eq_false_iff,Bool.not_eq_false',beq_iff_eq]at hs;exact hs
theorem chk_ask{l:Ld}(h:(chkL l !=0)=false)(hs:(!l.stage==1&&!l.stage==3)=false):rgB l=true/\ccB l=true/\(l.ents.length:Int)<=1024/\((l.ents.length:Int)==0||(l.yes&&l.stage==3))=true/\(l.voted.length:Int)=l.workers/\hasB l.voted false=true:=by
 have h:chkL l=0:=by simpa using h
 rw[chk_13 l (st_13 hs)]at h;have h:=bif213 h;simp only[Bool.and_eq_true,decide_eq_true_eq,beq_iff_eq]at h;obtain⟨h1,h2,h3,h4,h5,h6⟩:=h;exact⟨h1,h2,h3,h4,h5,h6⟩
theorem chk_x{l:Ld}(h:(chkL l !=0)=false)(hs:(!l.stage==1&&!l.stage==3)=false){v:List Bool}{y:Bool}{why:Int}{es:List Ent}(hv:v.length=l.voted.length)(hcc:((why==0)==y)=true)(h1:(es.length:Int)<=1024)(h0:((es.length:Int)==0||(y&&l.stage==3))=true):chkL ⟨l.workers,l.stage,l.ver,l.cut,l.dl,v,y,why,es⟩=bif hasB v false then(0:Int)else 213:=by
 obtain⟨k1,k2,_,_,k5,_⟩:=chk_ask h hs;rw[chk_13 ⟨l.workers,l.stage,l.ver,l.cut,l.dl,v,y,why,es⟩ (st_13 hs)];have e1:rgB ⟨l.workers,l.stage,l.ver,l.cut,l.dl,v,y,why,es⟩=true:=k1
 have e2:ccB ⟨l.workers,l.stage,l.ver,l.cut,l.dl,v,y,why,es⟩=true:=by
  unfold ccB at k2 ⊢;simp only[Bool.and_eq_true]at k2 ⊢;exact⟨k2.1,hcc⟩
 rw[e1,e2,h0,decide_eq_true h1,hv,k5];simp
theorem hasB_cons(a:Bool)(v:List Bool):hasB (a::v) false=(!a||hasB v false):=by
 cases a<;>rfl
end Go.Proofs.YtfkdbifgppfegaaDoor

namespace Go.Proofs.YtfkdbifgppfegaaDoor
open Go.RowKit Go.Sx
set_option maxRecDepth 100000
abbrev wtf_G:Type:=List Bool×Unit×List Int×Int×Int
noncomputable def wtf_LP:LP 3 wtf_G:=.pair (.slot 3 14 dLB) (.pair (.fix 3 3 (.p 1 0)) (.pair (.objRow 3 1 22 3 eI) (.pair (.slot 3 15 dI) (.slot 3 16 dI))))
noncomputable def wtf_R(v:List Bool)(_u:Unit)(ws:List Int)(n:Int)(i:Int):Ex×wtf_G:=
 bif decide (i<n)then bif !v.getD i.toNat eBool.dflt then(Ex.normal,eBool.ag v,(),eI.lst (min (ws.length+(1:Nat)) ws.length) (eI.els ws)++List.map (λx=>i) (List.range (ws.length+(1:Nat)-ws.length)),n,IntKind.i64.wrap (i+(1:Int)))else(Ex.normal,eBool.ag v,(),eI.ag ws,n,IntKind.i64.wrap (i+(1:Int)))
 else(Ex.exit (0:Nat),eBool.ag v,(),eI.ag ws,n,i)
def wtf_side(v:List Bool)(_u:Unit)(ws:List Int)(n:Int)(i:Int):Prop:=
 (decide (i<n)=true->((0:Int)<=i/\i<(↑v.length:Int))/\((!v.getD i.toNat eBool.dflt)=true->(ws.length<=ws.length/\True/\ws.length+(1:Nat)<=maxLen/\(ws.length+(1:Nat))*Tryd.prog.types[(3:Nat)].bytes<=(140737488355328:Nat))/\eBool.okL v/\ws.length+(1:Nat)<=ws.length+(1:Nat)/\(∀(e:Nat),e<min (ws.length+(1:Nat)) ws.length->True)/\∀(e:Nat),e<ws.length+(1:Nat)-ws.length->True)/\((!v.getD i.toNat eBool.dflt)=false->eBool.okL v/\ws.length<=ws.length/\∀(e:Nat),e<ws.length->True))/\(decide (i<n)=false->eBool.okL v/\ws.length<=ws.length/\∀(e:Nat),e<ws.length->True)
theorem wtf_one:((loopsOf Tryd.prog 18).filter λc=>Nat.beq (lkey c) 4).length=1:=by kernel_rfl
theorem wtf_es(g:wtf_G):(wtf_R g.1 g.2.1 g.2.2.1 g.2.2.2.1 g.2.2.2.2).1=.normal\/(wtf_R g.1 g.2.1 g.2.2.1 g.2.2.2.1 g.2.2.2.2).1∈([.exit 0]:List Ex):=by
 unfold wtf_R
 repeat' (first|(left;rfl)|(right;simp only[cond_true,cond_false];simp;done)|(rw[Bool.cond_eq_ite];split))
noncomputable abbrev wtf_C(Inv:wtf_G->List Prop)(m:wtf_G->Nat):LCon:=loopR [.exit 0] (loopBody Tryd.prog 18 4) wtf_LP [] 29 Inv (λg=>wtf_R g.1 g.2.1 g.2.2.1 g.2.2.2.1 g.2.2.2.2) m
theorem wtf_loop(Inv:wtf_G->List Prop)(m:wtf_G->Nat)(hs:∀g,allP (Inv g)->wtf_side g.1 g.2.1 g.2.2.1 g.2.2.2.1 g.2.2.2.2)(hg:Goes (λg:wtf_G=>wtf_R g.1 g.2.1 g.2.2.1 g.2.2.2.1 g.2.2.2.2) m λg=>allP (Inv g)):∀b∈loopsOf Tryd.prog 18,lkey b=4->LoopOk Tryd.prog b (wtf_C Inv m).g:=loop_run (Γ:=(PTab.gamz tabG8 [] [])) (Λ:=noΛ) (PTab.okz tabG8 [] []) noΛ_ok 100 18 4 29 wtf_LP [] Inv (λg=>wtf_R g.1 g.2.1 g.2.2.1 g.2.2.2.1 g.2.2.2.2) (λg=>wtf_side g.1 g.2.1 g.2.2.1 g.2.2.2.1 g.2.2.2.2) m default [.exit 0] wtf_one (λrd T B HL HB ds g=>by kernel_rfl) (λrd T B HL HB ds g=>by kernel_rfl) hs hg wtf_es
abbrev wcl_G:Type:=List Int×Int×Int×Unit×List Int×LoopState×Option Code
noncomputable def wcl_LP:LP 3 wcl_G:=.pair (.slot 3 5 dLI) (.pair (.slot 3 6 dI) (.pair (.slot 3 7 dI) (.pair (.fix 3 0 (.yl 2)) (.pair (.objRow 3 0 22 3 eI) (.rf 3 2 Tryd.prog 50 0 13 [(2,.p 0 0)] 1)))))
noncomputable def wcl_R(xs:List Int)(n:Int)(i:Int)(_u:Unit)(o:List Int):Ex×wcl_G:=
 bif decide (i<n)then(Ex.normal,eI.ag xs,n,IntKind.i64.wrap (i+(1:Int)),(),eI.lst (min (o.length+(1:Nat)) o.length) (eI.els o)++List.map (λx=>xs.getD i.toNat eI.dflt) (List.range (o.length+(1:Nat)-o.length)),LoopState.ready,none)
 else(Ex.exit (0:Nat),eI.ag xs,n,i,(),eI.ag o,LoopState.ready,none)
def wcl_side(xs:List Int)(n:Int)(i:Int)(_u:Unit)(o:List Int):Prop:=
 (decide (i<n)=true->((0:Int)<=i/\i<(↑xs.length:Int))/\(o.length<=o.length/\True/\o.length+(1:Nat)<=maxLen/\(o.length+(1:Nat))*Tryd.prog.types[(3:Nat)].bytes<=(140737488355328:Nat))/\eI.okL xs/\o.length+(1:Nat)<=o.length+(1:Nat)/\(∀(e:Nat),e<min (o.length+(1:Nat)) o.length->True)/\(∀(e:Nat),e<o.length+(1:Nat)-o.length->True)/\CodeIs (rangeOf Tryd.prog (50:Nat) (0:Nat)).snd.fst (rangeOf Tryd.prog (50:Nat) (0:Nat)).snd.fst/\CodeIs (rangeOf Tryd.prog (50:Nat) (0:Nat)).snd.snd (rangeOf Tryd.prog (50:Nat) (0:Nat)).snd.snd)/\(decide (i<n)=false->eI.okL xs/\o.length<=o.length/\(∀(e:Nat),e<o.length->True)/\CodeIs (rangeOf Tryd.prog (50:Nat) (0:Nat)).snd.fst (rangeOf Tryd.prog (50:Nat) (0:Nat)).snd.fst/\CodeIs (rangeOf Tryd.prog (50:Nat) (0:Nat)).snd.snd (rangeOf Tryd.prog (50:Nat) (0:Nat)).snd.snd)
theorem wcl_one:((loopsOf Tryd.prog 48).filter λc=>Nat.beq (lkey c) 1).length=1:=by kernel_rfl
abbrev wcl_GC:Type:=List Int×Int
abbrev wcl_GB:Type:=Unit×List Int×LoopState×Option Code
def wcl_f(g:wcl_G):Int×wcl_GC×wcl_GB:=(g.2.2.1,(g.1,g.2.1),(g.2.2.2.1,g.2.2.2.2.1,g.2.2.2.2.2))
def wcl_g(d:Int×wcl_GC×wcl_GB):wcl_G:=(d.2.1.1,d.2.1.2,d.1,d.2.2.1,d.2.2.2.1,d.2.2.2.2)
def wcl_E:List ((Ex×wcl_G->Bool)×Ex×(wcl_G->wcl_G)):=[(λx=>exB (.exit 0) x.1,.exit 0,λg=>(g.1,g.2.1,g.2.2.1,g.2.2.2.1,g.2.2.2.2.1,(.ready,none)))]
theorem wcl_es(g:wcl_G):(wcl_R g.1 g.2.1 g.2.2.1 g.2.2.2.1 g.2.2.2.2.1).1=.normal\/exitsOk (wcl_R g.1 g.2.1 g.2.2.1 g.2.2.2.1 g.2.2.2.2.1) wcl_E:=by
 unfold wcl_R
 repeat' (first|(left;rfl)|(right;exact⟨rfl,rfl⟩)|(rw[Bool.cond_eq_ite];split))
noncomputable abbrev wcl_C(Inv:wcl_G->List Prop)(m:wcl_G->Nat):LCon:=loopRS wcl_E (loopBody Tryd.prog 48 1) wcl_LP [] 16 Inv (λg=>wcl_R g.1 g.2.1 g.2.2.1 g.2.2.2.1 g.2.2.2.2.1) m
noncomputable def wcl_i(g:wcl_G):wcl_G:=(g.1,g.2.1,g.2.2.1,g.2.2.2.1,g.2.2.2.2.1,(LoopState.ready,none))
theorem wcl_loop(Inv:wcl_G->List Prop)(m:wcl_G->Nat)(hs:∀g,allP (Inv g)->wcl_side g.1 g.2.1 g.2.2.1 g.2.2.2.1 g.2.2.2.2.1)(hι:∀g,allP (Inv g)->wcl_i g=g)(hg:Goes (λg:wcl_G=>wcl_R g.1 g.2.1 g.2.2.1 g.2.2.2.1 g.2.2.2.2.1) m λg=>allP (Inv g)):∀b∈loopsOf Tryd.prog 48,lkey b=1->LoopOk Tryd.prog b (wcl_C Inv m).g:=loop_runS wcl_i (Γ:=(PTab.gamz tabG8 [] [])) (Λ:=noΛ) (PTab.okz tabG8 [] []) noΛ_ok 100 48 1 16 wcl_LP [] Inv (λg=>wcl_R g.1 g.2.1 g.2.2.1 g.2.2.2.1 g.2.2.2.2.1) (λg=>wcl_side g.1 g.2.1 g.2.2.1 g.2.2.2.1 g.2.2.2.2.1) m default wcl_E wcl_one (λrd T B HL HB ds g=>by kernel_rfl) (λrd T B HL HB ds g=>by kernel_rfl) hι hs hg wcl_es
abbrev dwt_G:Type:=Unit×Ld×List Int×Int
noncomputable def dwt_LP:LP 1 dwt_G:=.pair (.fix 1 1 (.p 0 0)) (.pair (.obj 1 0 31 eL) (.pair (.row 1 3 3 eI) (.slot 1 4 dI)))
noncomputable def dwt_R(_u:Unit)(l:Ld)(o:List Int)(i:Int):Ex×dwt_G:=
 bif decide (i<(↑l.voted.length:Int))&&(chkL (Ld.mk l.workers l.stage l.ver l.cut (Dl.mk (eI.ag l.dl.drop) (eD.ag l.dl.put) (eV.ag l.dl.moves)) (eBool.ag l.voted) l.yes l.why (eN.ag l.ents))==(0:Int)&&(l.stage==(1:Int)||l.stage==(3:Int)))then bif !l.voted.getD i.toNat eBool.dflt then(Ex.normal,(),Ld.mk l.workers l.stage l.ver l.cut (Dl.mk (eI.ag l.dl.drop) (eD.ag l.dl.put) (eV.ag l.dl.moves)) (eBool.ag l.voted) l.yes l.why (eN.ag l.ents),eI.lst (min (o.length+(1:Nat)) o.length) (eI.els o)++List.map (λx=>i) (List.range (o.length+(1:Nat)-o.length)),IntKind.i64.wrap (i+(1:Int)))else(Ex.normal,(),Ld.mk l.workers l.stage l.ver l.cut (Dl.mk (eI.ag l.dl.drop) (eD.ag l.dl.put) (eV.ag l.dl.moves)) (eBool.ag l.voted) l.yes l.why (eN.ag l.ents),eI.ag o,IntKind.i64.wrap (i+(1:Int)))
 else(Ex.exit (0:Nat),(),Ld.mk l.workers l.stage l.ver l.cut (Dl.mk (eI.ag l.dl.drop) (eD.ag l.dl.put) (eV.ag l.dl.moves)) (eBool.ag l.voted) l.yes l.why (eN.ag l.ents),eI.ag o,i)
def dwt_side(_u:Unit)(l:Ld)(o:List Int)(i:Int):Prop:=
 (decide (i<(↑l.voted.length:Int))=true->eI.okL l.dl.drop)/\(decide (i<(↑l.voted.length:Int))=true->eD.okL l.dl.put)/\(decide (i<(↑l.voted.length:Int))=true->eV.okL l.dl.moves)/\(decide (i<(↑l.voted.length:Int))=true->eBool.okL l.voted)/\(decide (i<(↑l.voted.length:Int))=true->eN.okL l.ents)/\((decide (i<(↑l.voted.length:Int))&&(chkL (Ld.mk l.workers l.stage l.ver l.cut (Dl.mk (eI.ag l.dl.drop) (eD.ag l.dl.put) (eV.ag l.dl.moves)) (eBool.ag l.voted) l.yes l.why (eN.ag l.ents))==(0:Int)&&(l.stage==(1:Int)||l.stage==(3:Int))))=true->((0:Int)<=i/\i<(↑l.voted.length:Int))/\((!l.voted.getD i.toNat eBool.dflt)=true->(o.length<=o.length/\True/\o.length+(1:Nat)<=maxLen/\(o.length+(1:Nat))*Tryd.prog.types[(3:Nat)].bytes<=(140737488355328:Nat))/\eI.okL l.dl.drop/\eD.okL l.dl.put/\eV.okL l.dl.moves/\eBool.okL l.voted/\eN.okL l.ents/\o.length+(1:Nat)<=o.length+(1:Nat)/\(∀(e:Nat),e<min (o.length+(1:Nat)) o.length->True)/\∀(e:Nat),e<o.length+(1:Nat)-o.length->True)/\((!l.voted.getD i.toNat eBool.dflt)=false->eI.okL l.dl.drop/\eD.okL l.dl.put/\eV.okL l.dl.moves/\eBool.okL l.voted/\eN.okL l.ents/\o.length<=o.length/\∀(e:Nat),e<o.length->True))/\((decide (i<(↑l.voted.length:Int))&&(chkL (Ld.mk l.workers l.stage l.ver l.cut (Dl.mk (eI.ag l.dl.drop) (eD.ag l.dl.put) (eV.ag l.dl.moves)) (eBool.ag l.voted) l.yes l.why (eN.ag l.ents))==(0:Int)&&(l.stage==(1:Int)||l.stage==(3:Int))))=false->eI.okL l.dl.drop/\eD.okL l.dl.put/\eV.okL l.dl.moves/\eBool.okL l.voted/\eN.okL l.ents/\o.length<=o.length/\∀(e:Nat),e<o.length->True)
theorem dwt_one:((loopsOf Tryd.prog 23).filter λc=>Nat.beq (lkey c) 3).length=1:=by kernel_rfl
theorem dwt_es(g:dwt_G):(dwt_R g.1 g.2.1 g.2.2.1 g.2.2.2).1=.normal\/(dwt_R g.1 g.2.1 g.2.2.1 g.2.2.2).1∈([.exit 0]:List Ex):=by
 unfold dwt_R
 repeat' (first|(left;rfl)|(right;simp only[cond_true,cond_false];simp;done)|(rw[Bool.cond_eq_ite];split))
noncomputable abbrev dwt_C(Inv:dwt_G->List Prop)(m:dwt_G->Nat):LCon:=loopR [.exit 0] (loopBody Tryd.prog 23 3) dwt_LP [] 33 Inv (λg=>dwt_R g.1 g.2.1 g.2.2.1 g.2.2.2) m
theorem dwt_loop(Inv:dwt_G->List Prop)(m:dwt_G->Nat)(hs:∀g,allP (Inv g)->dwt_side g.1 g.2.1 g.2.2.1 g.2.2.2)(hg:Goes (λg:dwt_G=>dwt_R g.1 g.2.1 g.2.2.1 g.2.2.2) m λg=>allP (Inv g)):∀b∈loopsOf Tryd.prog 23,lkey b=3->LoopOk Tryd.prog b (dwt_C Inv m).g:=loop_run (Γ:=(PTab.gamz tabG8 [] [])) (Λ:=noΛ) (PTab.okz tabG8 [] []) noΛ_ok 100 23 3 33 dwt_LP [] Inv (λg=>dwt_R g.1 g.2.1 g.2.2.1 g.2.2.2) (λg=>dwt_side g.1 g.2.1 g.2.2.1 g.2.2.2) m default [.exit 0] dwt_one (λrd T B HL HB ds g=>by kernel_rfl) (λrd T B HL HB ds g=>by kernel_rfl) hs hg dwt_es
end Go.Proofs.YtfkdbifgppfegaaDoor

namespace Go.Proofs.YtfkdbifgppfegaaDoor
open Go.RowKit Go.Sx Go.Lp
noncomputable def tabJ11:MTab Tryd.prog:=(tabJ0.cons 80 (pconP aM dI mck_F (λ_=>[])) (conP_ok mck_ok puI)).cons 68 (pconP aM dI mck_F (λ_=>[])) (conP_ok rmck_ok puI)
end Go.Proofs.YtfkdbifgppfegaaDoor

namespace Go.Proofs.YtfkdbifgppfegaaDoor
open Go.RowKit Go.Sx
set_option maxRecDepth 100000
noncomputable def hea_F(l:Ld)(w:Int)(m:Ms):Rv.T (.of dI):=
 bif chkL (Ld.mk l.workers l.stage l.ver l.cut (Dl.mk (eI.ag l.dl.drop) (eD.ag l.dl.put) (eV.ag l.dl.moves)) (eBool.ag l.voted) l.yes l.why (eN.ag l.ents))!=(0:Int)then chkL (Ld.mk l.workers l.stage l.ver l.cut (Dl.mk (eI.ag l.dl.drop) (eD.ag l.dl.put) (eV.ag l.dl.moves)) (eBool.ag l.voted) l.yes l.why (eN.ag l.ents))
 else bif decide (w<(0:Int))||decide (w>=l.workers)then(1:Int)else bif !l.stage==(1:Int)&&!l.stage==(3:Int)then(212:Int)else bif mck_F (Ms.mk m.kind m.ver m.p m.t (eR.ag m.recs) (eC.ag m.changes) (Dl.mk (eI.ag m.dl.drop) (eD.ag m.dl.put) (eV.ag m.dl.moves)) m.cut (eN.ag m.ents) m.yes m.why)!=(0:Int)then mck_F (Ms.mk m.kind m.ver m.p m.t (eR.ag m.recs) (eC.ag m.changes) (Dl.mk (eI.ag m.dl.drop) (eD.ag m.dl.put) (eV.ag m.dl.moves)) m.cut (eN.ag m.ents) m.yes m.why)else bif m.kind !=(6:Int)||(m.ver !=l.ver||decide ((↑m.ents.length:Int)>(0:Int))&&l.stage==(1:Int))then(130:Int)else bif l.voted.getD w.toNat eBool.dflt then(5:Int)else(0:Int)
def hea_side(l:Ld)(w:Int)(m:Ms):Prop:=
 eI.okL l.dl.drop/\eD.okL l.dl.put/\eV.okL l.dl.moves/\eBool.okL l.voted/\eN.okL l.ents/\((chkL (Ld.mk l.workers l.stage l.ver l.cut (Dl.mk (eI.ag l.dl.drop) (eD.ag l.dl.put) (eV.ag l.dl.moves)) (eBool.ag l.voted) l.yes l.why (eN.ag l.ents))!=(0:Int))=false->(decide (w<(0:Int))||decide (w>=l.workers))=false->(!l.stage==(1:Int)&&!l.stage==(3:Int))=false->eR.okL m.recs/\eC.okL m.changes/\eI.okL m.dl.drop/\eD.okL m.dl.put/\eV.okL m.dl.moves/\eN.okL m.ents/\((mck_F (Ms.mk m.kind m.ver m.p m.t (eR.ag m.recs) (eC.ag m.changes) (Dl.mk (eI.ag m.dl.drop) (eD.ag m.dl.put) (eV.ag m.dl.moves)) m.cut (eN.ag m.ents) m.yes m.why)!=(0:Int))=false->(m.kind !=(6:Int)||(m.ver !=l.ver||decide ((↑m.ents.length:Int)>(0:Int))&&l.stage==(1:Int)))=false->(0:Int)<=w/\w<(↑l.voted.length:Int)))
theorem hea_okS(pre:DA.T aLIM->List Prop)(h:∀g,DA.bd aLIM g->(∀p∈pre g,p)->hea_side g.1 g.2.1 g.2.2):FnPure Tryd.prog 56 aLIM (Rv.D (.of dI)) (λg=>hea_F g.1 g.2.1 g.2.2) pre:=res_of_side (R:=(.of dI)) (Γ:=(MTab.gamz tabJ11 [] [])) (Λ:=noΛ) (MTab.okz tabJ11 [] []) noΛ_ok 100 default (λg=>hea_side g.1 g.2.1 g.2.2) (λg=>by kernel_rfl) (λg=>by kernel_rfl) h
end Go.Proofs.YtfkdbifgppfegaaDoor

namespace Go.Proofs.YtfkdbifgppfegaaDoor
open Go.RowKit Go.Sx
set_option maxRecDepth 100000
noncomputable abbrev cLd:CT Ld:=.iso (.pair (.pl (.pair eI (.pair eI (.pair eI (.pair eI eDl))))) (.pair (.row 4 eBool) (.pair (.pl (.pair eBool eI)) (.row 73 eN)))) (λp=>⟨p.1.1,p.1.2.1,p.1.2.2.1,p.1.2.2.2.1,p.1.2.2.2.2,p.2.1,p.2.2.1.1,p.2.2.1.2,p.2.2.2⟩) (λl=>((l.workers,l.stage,l.ver,l.cut,l.dl),l.voted,(l.yes,l.why),l.ents)) (λ_=>rfl)
noncomputable def lct_F(_k:Unit)(l:Ld):TA.T TA.nil×TR.T (TR.agg cLd):=
 ((),Ld.mk l.workers l.stage l.ver l.cut (Dl.mk (eI.ag (eI.ag l.dl.drop)) (eD.ag (eD.ag l.dl.put)) (eV.ag (eV.ag l.dl.moves))) (eBool.ag (eBool.ag l.voted)) l.yes l.why (eN.ag (eN.ag l.ents)))
def lct_side(_k:Unit)(l:Ld):Prop:=
 eI.okL l.dl.drop/\eD.okL l.dl.put/\eV.okL l.dl.moves/\fewM (Ms.mk (0:Int) (0:Int) (Place.mk (0:Int) (0:Int)) (T.mk (0:Int) (0:Int) (0:Int) (0:Int) (0:Int) (0:Int)) [] [] (Dl.mk (eI.ag l.dl.drop) (eD.ag l.dl.put) (eV.ag l.dl.moves)) (0:Int) [] false (0:Int))/\∀(cs:List Nat),(cs.isEmpty=true->eBool.okL l.voted/\(eBool.ag l.voted).length<=KS/\eN.okL l.ents/\(eN.ag l.ents).length<=KS/\eI.okL (eI.ag l.dl.drop)/\eD.okL (eD.ag l.dl.put)/\eV.okL (eV.ag l.dl.moves)/\(eBool.ag l.voted).length<=(eBool.ag l.voted).length/\(∀(e:Nat),e<(eBool.ag l.voted).length->True)/\(eN.ag l.ents).length<=(eN.ag l.ents).length/\(∀(e:Nat),e<(eN.ag l.ents).length->True)/\∀(d:Unit×Ld),((),Ld.mk l.workers l.stage l.ver l.cut (Dl.mk (eI.ag (eI.ag l.dl.drop)) (eD.ag (eD.ag l.dl.put)) (eV.ag (eV.ag l.dl.moves))) (eBool.ag (eBool.ag l.voted)) l.yes l.why (eN.ag (eN.ag l.ents)))=((),Ld.mk l.workers l.stage l.ver l.cut (Dl.mk (eI.ag (eI.ag l.dl.drop)) (eD.ag (eD.ag l.dl.put)) (eV.ag (eV.ag l.dl.moves))) (eBool.ag (eBool.ag l.voted)) l.yes l.why (eN.ag (eN.ag l.ents))))/\(cs.isEmpty=false->eBool.okL l.voted/\(eBool.ag l.voted).length<=KS/\eN.okL l.ents/\(eN.ag l.ents).length<=KS/\eI.okL (eI.ag l.dl.drop)/\eD.okL (eD.ag l.dl.put)/\eV.okL (eV.ag l.dl.moves)/\(eBool.ag l.voted).length<=(eBool.ag l.voted).length/\(∀(e:Nat),e<(eBool.ag l.voted).length->True)/\(eN.ag l.ents).length<=(eN.ag l.ents).length/\(∀(e:Nat),e<(eN.ag l.ents).length->True)/\∀(d:Unit×Ld),((),Ld.mk l.workers l.stage l.ver l.cut (Dl.mk (eI.ag (eI.ag l.dl.drop)) (eD.ag (eD.ag l.dl.put)) (eV.ag (eV.ag l.dl.moves))) (eBool.ag (eBool.ag l.voted)) l.yes l.why (eN.ag (eN.ag l.ents)))=((),Ld.mk l.workers l.stage l.ver l.cut (Dl.mk (eI.ag (eI.ag l.dl.drop)) (eD.ag (eD.ag l.dl.put)) (eV.ag (eV.ag l.dl.moves))) (eBool.ag (eBool.ag l.voted)) l.yes l.why (eN.ag (eN.ag l.ents))))
theorem lct_okS(pre:TA.T TA.nil->DA.T aL->List Prop)(h:∀k g,DA.bd aL g->(∀p∈pre k g,p)->lct_side k g):FnT Tryd.prog 54 TA.nil aL (TR.agg cLd) (λk g=>lct_F k g) pre:=T_of_side (Γ:=(MTab.gamz tabJ0 [] [])) (Λ:=noΛ) (MTab.okz tabJ0 [] []) noΛ_ok 100 default (λk g=>lct_side k g) (λk g=>by kernel_rfl) (λk g=>by kernel_rfl) h
end Go.Proofs.YtfkdbifgppfegaaDoor

namespace Go.Proofs.YtfkdbifgppfegaaDoor
open Go.RowKit Go.Sx Go.Lp
theorem lct_ok:FnT Tryd.prog 54 TA.nil aL (TR.agg cLd) (λ_ l=>((),l)) (λ_ l=>[fewL l]):=by
 refine T_congr (lct_okS (λ_ l=>[fewL l]) λk l _ hp=>?_) (λ_ _ h=>h) λk l _ _=>?_
 .obtain⟨h1,h2,h3⟩:fewL l:=hp _ (List.mem_cons_self ..);unfold lct_side;simp only[El.okL_eq,El.ag_eq,ld_eta,implies_true,true_and,and_true,h2,h3,Nat.le_refl];exact few_dl h1 ..
 .unfold lct_F;simp only[El.ag_eq]
end Go.Proofs.YtfkdbifgppfegaaDoor

namespace Go.Proofs.YtfkdbifgppfegaaDoor
open Go.RowKit Go.Sx Go.Lp
set_option maxRecDepth 100000
noncomputable def heaE(l:Ld)(w:Int)(m:Ms):Int:=bif chkL l !=0 then chkL l else bif decide (w<0)||decide (w>=l.workers)then 1 else bif !l.stage==1&&!l.stage==3 then 212 else bif mck_F m !=0 then mck_F m else bif m.kind !=6||(m.ver !=l.ver||decide ((m.ents.length:Int)>0)&&l.stage==1)then 130 else bif l.voted.getD w.toNat false then 5 else 0
theorem hea_ok':FnPure Tryd.prog 56 aLIM dI (λg=>heaE g.1 g.2.1 g.2.2) (λ_=>[]):=by
 refine pure_congr (hea_okS (λ_=>[]) λg _ _=>?_) λg _ _=>?_
 .obtain⟨l,w,m⟩:=g;show hea_side l w m;unfold hea_side;simp only[El.okL_eq,El.ag_eq,ld_eta,true_and,and_true];intro hc h1 h2 _ _;have h3:=(chk_ask hc h2).2.2.2.2.1;simp only[Bool.or_eq_false_iff,decide_eq_false_iff_not]at h1;omega
 .obtain⟨l,w,m⟩:=g;show hea_F l w m=_;unfold hea_F heaE;simp only[El.ag_eq,ld_eta,ms_eta];rfl
noncomputable def tabQ5p:PTab Tryd.prog:=(((PTab.nil.cons 56 (pconP aLIM dI (λg=>heaE g.1 g.2.1 g.2.2) (λ_=>[])) (conP_ok hea_ok' puI)).cons 17 (pconP aL dI chkL (λ_=>[])) (conP_ok rck_ok puI)).cons 68 (pconP aM dI mck_F (λ_=>[])) (conP_ok rmck_ok puI)).cons 67 (pconR aM dMs (λm=>m) (λm=>[fewM m])) (conR_ok rmc_ok)
noncomputable def tabQ5:MTab Tryd.prog:=(((MTab.of tabQ5p).consM 54 (bconT TA.nil aL (TR.agg cLd) (λ_ l=>((),l)) (λ_ l=>[fewL l])) (bconT_ok lct_ok)).consM 20 (bconV rL dI chkL (λ_=>[])) (conV_ok ck_ok puI)).consM 46 (bconV (.list eBool) dBool (λxs=>!hasB xs false) (λ_=>[])) (conV_ok rall_ok puB)
end Go.Proofs.YtfkdbifgppfegaaDoor

namespace Go.Proofs.YtfkdbifgppfegaaDoor
open Go.RowKit Go.Sx
set_option maxRecDepth 100000
abbrev wta_G:Type:=Nat×List Bool×Unit×List Int×Int×Int
noncomputable def wta_LP:LP 10 wta_G:=.pair (.owl 10 14 4) (.pair (.rowO 10 4 4 eBool) (.pair (.fix 10 3 (.p 8 0)) (.pair (.ctO 10 8 22 (CT.row 3 eI)) (.pair (.slot 10 15 dI) (.slot 10 16 dI)))))
noncomputable def wta_R(k:Nat)(v:List Bool)(_u:Unit)(ws:List Int)(n:Int)(i:Int):Ex×wta_G:=
 bif decide (i<n)then bif !v.getD i.toNat eBool.dflt then(Ex.normal,k,eBool.ag v,(),eI.lst (min (ws.length+(1:Nat)) ws.length) (eI.els ws)++List.map (λx=>i) (List.range (ws.length+(1:Nat)-ws.length)),n,IntKind.i64.wrap (i+(1:Int)))else(Ex.normal,k,eBool.ag v,(),eI.ag ws,n,IntKind.i64.wrap (i+(1:Int)))
 else(Ex.exit (0:Nat),k,eBool.ag v,(),eI.ag ws,n,i)
def wta_side(k:Nat)(v:List Bool)(_u:Unit)(ws:List Int)(n:Int)(i:Int):Prop:=
 (decide (i<n)=true->((0:Int)<=i/\i<(↑k:Int))/\i.toNat<v.length/\((!v.getD i.toNat eBool.dflt)=true->(ws.length<=ws.length/\True/\ws.length+(1:Nat)<=maxLen/\(ws.length+(1:Nat))*Tryd.prog.types[(3:Nat)].bytes<=(140737488355328:Nat))/\(∀(e:Nat),e<v.length->True)/\ws.length+(1:Nat)<=ws.length+(1:Nat)/\(∀(e:Nat),e<min (ws.length+(1:Nat)) ws.length->True)/\∀(e:Nat),e<ws.length+(1:Nat)-ws.length->True)/\((!v.getD i.toNat eBool.dflt)=false->(∀(e:Nat),e<v.length->True)/\ws.length<=ws.length/\∀(e:Nat),e<ws.length->True))/\(decide (i<n)=false->(∀(e:Nat),e<v.length->True)/\ws.length<=ws.length/\∀(e:Nat),e<ws.length->True)
theorem wta_one:((loopsOf Tryd.prog 18).filter λc=>Nat.beq (lkey c) 4).length=1:=by kernel_rfl
theorem wta_es(g:wta_G):(wta_R g.1 g.2.1 g.2.2.1 g.2.2.2.1 g.2.2.2.2.1 g.2.2.2.2.2).1=.normal\/(wta_R g.1 g.2.1 g.2.2.1 g.2.2.2.1 g.2.2.2.2.1 g.2.2.2.2.2).1∈([.exit 0]:List Ex):=by
 unfold wta_R
 repeat' (first|(left;rfl)|(right;simp only[cond_true,cond_false];simp;done)|(rw[Bool.cond_eq_ite];split))
noncomputable abbrev wta_C(Inv:wta_G->List Prop)(m:wta_G->Nat):LCon:=loopR [.exit 0] (loopBody Tryd.prog 18 4) wta_LP [] 29 Inv (λg=>wta_R g.1 g.2.1 g.2.2.1 g.2.2.2.1 g.2.2.2.2.1 g.2.2.2.2.2) m
theorem wta_loop(Inv:wta_G->List Prop)(m:wta_G->Nat)(hs:∀g,allP (Inv g)->wta_side g.1 g.2.1 g.2.2.1 g.2.2.2.1 g.2.2.2.2.1 g.2.2.2.2.2)(hg:Goes (λg:wta_G=>wta_R g.1 g.2.1 g.2.2.1 g.2.2.2.1 g.2.2.2.2.1 g.2.2.2.2.2) m λg=>allP (Inv g)):∀b∈loopsOf Tryd.prog 18,lkey b=4->LoopOk Tryd.prog b (wta_C Inv m).g:=loop_run (Γ:=(MTab.gamz tabQ5 [] [])) (Λ:=noΛ) (MTab.okz tabQ5 [] []) noΛ_ok 100 18 4 29 wta_LP [] Inv (λg=>wta_R g.1 g.2.1 g.2.2.1 g.2.2.2.1 g.2.2.2.2.1 g.2.2.2.2.2) (λg=>wta_side g.1 g.2.1 g.2.2.1 g.2.2.2.1 g.2.2.2.2.1 g.2.2.2.2.2) m default [.exit 0] wta_one (λrd T B HL HB ds g=>by kernel_rfl) (λrd T B HL HB ds g=>by kernel_rfl) hs hg wta_es
abbrev wtb_G:Type:=Nat×List Bool×Unit×List Int×Int×Int
noncomputable def wtb_LP:LP 11 wtb_G:=.pair (.owl 11 14 4) (.pair (.rowO 11 4 4 eBool) (.pair (.fix 11 3 (.p 9 0)) (.pair (.ctO 11 9 22 (CT.row 3 eI)) (.pair (.slot 11 15 dI) (.slot 11 16 dI)))))
noncomputable def wtb_R(k:Nat)(v:List Bool)(_u:Unit)(ws:List Int)(n:Int)(i:Int):Ex×wtb_G:=
 bif decide (i<n)then bif !v.getD i.toNat eBool.dflt then(Ex.normal,k,eBool.ag v,(),eI.lst (min (ws.length+(1:Nat)) ws.length) (eI.els ws)++List.map (λx=>i) (List.range (ws.length+(1:Nat)-ws.length)),n,IntKind.i64.wrap (i+(1:Int)))else(Ex.normal,k,eBool.ag v,(),eI.ag ws,n,IntKind.i64.wrap (i+(1:Int)))
 else(Ex.exit (0:Nat),k,eBool.ag v,(),eI.ag ws,n,i)
def wtb_side(k:Nat)(v:List Bool)(_u:Unit)(ws:List Int)(n:Int)(i:Int):Prop:=
 (decide (i<n)=true->((0:Int)<=i/\i<(↑k:Int))/\i.toNat<v.length/\((!v.getD i.toNat eBool.dflt)=true->(ws.length<=ws.length/\True/\ws.length+(1:Nat)<=maxLen/\(ws.length+(1:Nat))*Tryd.prog.types[(3:Nat)].bytes<=(140737488355328:Nat))/\(∀(e:Nat),e<v.length->True)/\ws.length+(1:Nat)<=ws.length+(1:Nat)/\(∀(e:Nat),e<min (ws.length+(1:Nat)) ws.length->True)/\∀(e:Nat),e<ws.length+(1:Nat)-ws.length->True)/\((!v.getD i.toNat eBool.dflt)=false->(∀(e:Nat),e<v.length->True)/\ws.length<=ws.length/\∀(e:Nat),e<ws.length->True))/\(decide (i<n)=false->(∀(e:Nat),e<v.length->True)/\ws.length<=ws.length/\∀(e:Nat),e<ws.length->True)
theorem wtb_one:((loopsOf Tryd.prog 18).filter λc=>Nat.beq (lkey c) 4).length=1:=by kernel_rfl
theorem wtb_es(g:wtb_G):(wtb_R g.1 g.2.1 g.2.2.1 g.2.2.2.1 g.2.2.2.2.1 g.2.2.2.2.2).1=.normal\/(wtb_R g.1 g.2.1 g.2.2.1 g.2.2.2.1 g.2.2.2.2.1 g.2.2.2.2.2).1∈([.exit 0]:List Ex):=by
 unfold wtb_R
 repeat' (first|(left;rfl)|(right;simp only[cond_true,cond_false];simp;done)|(rw[Bool.cond_eq_ite];split))
noncomputable abbrev wtb_C(Inv:wtb_G->List Prop)(m:wtb_G->Nat):LCon:=loopR [.exit 0] (loopBody Tryd.prog 18 4) wtb_LP [] 29 Inv (λg=>wtb_R g.1 g.2.1 g.2.2.1 g.2.2.2.1 g.2.2.2.2.1 g.2.2.2.2.2) m
theorem wtb_loop(Inv:wtb_G->List Prop)(m:wtb_G->Nat)(hs:∀g,allP (Inv g)->wtb_side g.1 g.2.1 g.2.2.1 g.2.2.2.1 g.2.2.2.2.1 g.2.2.2.2.2)(hg:Goes (λg:wtb_G=>wtb_R g.1 g.2.1 g.2.2.1 g.2.2.2.1 g.2.2.2.2.1 g.2.2.2.2.2) m λg=>allP (Inv g)):∀b∈loopsOf Tryd.prog 18,lkey b=4->LoopOk Tryd.prog b (wtb_C Inv m).g:=loop_run (Γ:=(MTab.gamz tabQ5 [] [])) (Λ:=noΛ) (MTab.okz tabQ5 [] []) noΛ_ok 100 18 4 29 wtb_LP [] Inv (λg=>wtb_R g.1 g.2.1 g.2.2.1 g.2.2.2.1 g.2.2.2.2.1 g.2.2.2.2.2) (λg=>wtb_side g.1 g.2.1 g.2.2.1 g.2.2.2.1 g.2.2.2.2.1 g.2.2.2.2.2) m default [.exit 0] wtb_one (λrd T B HL HB ds g=>by kernel_rfl) (λrd T B HL HB ds g=>by kernel_rfl) hs hg wtb_es
abbrev wtc_G:Type:=Nat×List Bool×Unit×List Int×Int×Int
noncomputable def wtc_LP:LP 12 wtc_G:=.pair (.owl 12 14 4) (.pair (.rowO 12 4 4 eBool) (.pair (.fix 12 3 (.p 10 0)) (.pair (.ctO 12 10 22 (CT.row 3 eI)) (.pair (.slot 12 15 dI) (.slot 12 16 dI)))))
noncomputable def wtc_R(k:Nat)(v:List Bool)(_u:Unit)(ws:List Int)(n:Int)(i:Int):Ex×wtc_G:=
 bif decide (i<n)then bif !v.getD i.toNat eBool.dflt then(Ex.normal,k,eBool.ag v,(),eI.lst (min (ws.length+(1:Nat)) ws.length) (eI.els ws)++List.map (λx=>i) (List.range (ws.length+(1:Nat)-ws.length)),n,IntKind.i64.wrap (i+(1:Int)))else(Ex.normal,k,eBool.ag v,(),eI.ag ws,n,IntKind.i64.wrap (i+(1:Int)))
 else(Ex.exit (0:Nat),k,eBool.ag v,(),eI.ag ws,n,i)
def wtc_side(k:Nat)(v:List Bool)(_u:Unit)(ws:List Int)(n:Int)(i:Int):Prop:=
 (decide (i<n)=true->((0:Int)<=i/\i<(↑k:Int))/\i.toNat<v.length/\((!v.getD i.toNat eBool.dflt)=true->(ws.length<=ws.length/\True/\ws.length+(1:Nat)<=maxLen/\(ws.length+(1:Nat))*Tryd.prog.types[(3:Nat)].bytes<=(140737488355328:Nat))/\(∀(e:Nat),e<v.length->True)/\ws.length+(1:Nat)<=ws.length+(1:Nat)/\(∀(e:Nat),e<min (ws.length+(1:Nat)) ws.length->True)/\∀(e:Nat),e<ws.length+(1:Nat)-ws.length->True)/\((!v.getD i.toNat eBool.dflt)=false->(∀(e:Nat),e<v.length->True)/\ws.length<=ws.length/\∀(e:Nat),e<ws.length->True))/\(decide (i<n)=false->(∀(e:Nat),e<v.length->True)/\ws.length<=ws.length/\∀(e:Nat),e<ws.length->True)
theorem wtc_one:((loopsOf Tryd.prog 18).filter λc=>Nat.beq (lkey c) 4).length=1:=by kernel_rfl
theorem wtc_es(g:wtc_G):(wtc_R g.1 g.2.1 g.2.2.1 g.2.2.2.1 g.2.2.2.2.1 g.2.2.2.2.2).1=.normal\/(wtc_R g.1 g.2.1 g.2.2.1 g.2.2.2.1 g.2.2.2.2.1 g.2.2.2.2.2).1∈([.exit 0]:List Ex):=by
 unfold wtc_R
 repeat' (first|(left;rfl)|(right;simp only[cond_true,cond_false];simp;done)|(rw[Bool.cond_eq_ite];split))
noncomputable abbrev wtc_C(Inv:wtc_G->List Prop)(m:wtc_G->Nat):LCon:=loopR [.exit 0] (loopBody Tryd.prog 18 4) wtc_LP [] 29 Inv (λg=>wtc_R g.1 g.2.1 g.2.2.1 g.2.2.2.1 g.2.2.2.2.1 g.2.2.2.2.2) m
theorem wtc_loop(Inv:wtc_G->List Prop)(m:wtc_G->Nat)(hs:∀g,allP (Inv g)->wtc_side g.1 g.2.1 g.2.2.1 g.2.2.2.1 g.2.2.2.2.1 g.2.2.2.2.2)(hg:Goes (λg:wtc_G=>wtc_R g.1 g.2.1 g.2.2.1 g.2.2.2.1 g.2.2.2.2.1 g.2.2.2.2.2) m λg=>allP (Inv g)):∀b∈loopsOf Tryd.prog 18,lkey b=4->LoopOk Tryd.prog b (wtc_C Inv m).g:=loop_run (Γ:=(MTab.gamz tabQ5 [] [])) (Λ:=noΛ) (MTab.okz tabQ5 [] []) noΛ_ok 100 18 4 29 wtc_LP [] Inv (λg=>wtc_R g.1 g.2.1 g.2.2.1 g.2.2.2.1 g.2.2.2.2.1 g.2.2.2.2.2) (λg=>wtc_side g.1 g.2.1 g.2.2.1 g.2.2.2.1 g.2.2.2.2.1 g.2.2.2.2.2) m default [.exit 0] wtc_one (λrd T B HL HB ds g=>by kernel_rfl) (λrd T B HL HB ds g=>by kernel_rfl) hs hg wtc_es
end Go.Proofs.YtfkdbifgppfegaaDoor

namespace Go.Proofs.YtfkdbifgppfegaaDoor
open Go.RowKit Go.Sx Go.Lp
set_option maxRecDepth 100000
theorem byI3(h:3<Tryd.prog.types.size):(Tryd.prog.types[(3:Nat)]'h).bytes=8:=by kernel_rfl
def idxF:Int->List Bool->List Int
 |_,[]=>[]
 |k,a::l=>bif !a then k::idxF (k+1) l else idxF (k+1) l
abbrev wtC:=List Bool×Int×Nat
abbrev wtB:=List Int×Unit
def wt_S(_:wtC)(b:wtB)(i:Int)(a:Bool):Ex×wtB:=(.normal,bif !a then(b.1++[i],b.2)else b)
def wt_K(c:wtC)(b:wtB)(i:Int):Prop:=(b.1.length:Int)<=i/\c.1.length<=KS/\c.2.2=c.1.length
abbrev wt_xs(c:wtC):List Bool:=c.1
abbrev wt_lim(c:wtC):Int:=c.2.1
theorem wt_P:ixP wt_S wt_xs wt_K:=λc b i a h _ _=>⟨by
 have:=h.1;show(((bif !a then(b.1++[(i:Int)],b.2)else b).1.length:Nat):Int)<=_;cases a
 .simp only[Bool.not_false,cond_true,List.length_append,List.length_cons,List.length_nil];omega
 .simp only[Bool.not_true,cond_false];omega,h.2⟩
theorem wt_scan(c:wtC):∀(l:List Bool)(i:Int)(o:List Int),scan 0 (wt_S c) i l (o,())=(.exit 0,i+l.length,(o++idxF i l,()))
 | [],i,o=>by simp[scan,idxF]
 |a::l,i,o=>by
  cases a with
  |true=>
   show scan 0 (wt_S c) (i+1) l (o,())=_;rw[wt_scan c l];simp only[idxF,Bool.not_true,cond_false,List.length_cons];rw[show i+1+(l.length:Int)=i+((l.length+1:Nat):Int) by omega]
  |false=>
   show scan 0 (wt_S c) (i+1) l (o++[i],())=_;rw[wt_scan c l];simp only[idxF,Bool.not_false,cond_true,List.length_cons,List.append_assoc,List.singleton_append];rw[show i+1+(l.length:Int)=i+((l.length+1:Nat):Int) by omega]
def wta_f(g:wta_G):Int×wtC×wtB:=(g.2.2.2.2.2,(g.2.1,g.2.2.2.2.1,g.1),(g.2.2.2.1,g.2.2.1))
def wta_g(d:Int×wtC×wtB):wta_G:=(d.2.1.2.2,d.2.1.1,d.2.2.2,d.2.2.1,d.2.1.2.1,d.1)
abbrev wta_I(g:wta_G):List Prop:=ixI wt_lim wt_xs wt_K (wta_f g)
abbrev wta_M(g:wta_G):Nat:=ixM wt_lim (wta_f g)
noncomputable abbrev wta_RR(g:wta_G):Ex×wta_G:=wta_R g.1 g.2.1 g.2.2.1 g.2.2.2.1 g.2.2.2.2.1 g.2.2.2.2.2
theorem wta_RF(d:Int×wtC×wtB):wta_RR (wta_g d)=((ixF 0 wt_lim wt_xs eBool.dflt wt_S d).1,wta_g (ixF 0 wt_lim wt_xs eBool.dflt wt_S d).2):=by
 obtain⟨i,⟨v,n,k⟩,⟨o,⟨⟩⟩⟩:=d;show wta_R k v () o n i=_;unfold wta_R ixF wt_S;simp only[El.ag_eq,lst_app1];cases decide (i<n)
 .rfl
 .simp only[cond_true];cases v.getD i.toNat eBool.dflt<;>rfl
theorem wta_ok:∀b∈loopsOf Tryd.prog 18,lkey b=4->LoopOk Tryd.prog b (wta_C wta_I wta_M).g:=by
 refine wta_loop wta_I wta_M (λg hi=>?_) (ix_conj_goes (φ:=wta_f) (ψ:=wta_g) (λ_=>rfl) (λ_=>rfl) (λd _=>wta_RF d) wt_P);obtain⟨k,v,⟨⟩,o,n,i⟩:=g;obtain⟨h1,h2,h3,h4,h5,h6,h7⟩:=hi _ (List.mem_cons_self ..);have h1:n=(v.length:Int):=h1;have h3:0<=i:=h3;have h5:(o.length:Int)<=i:=h5;have h6:v.length<=KS:=h6;have h7:k=v.length:=h7;unfold KS at h6;show wta_side k v () o n i;unfold wta_side;simp only[byI3,Nat.le_refl,implies_true,true_and,and_true];intro hlt;have hlt:=of_decide_eq_true hlt;exact⟨⟨h3,by omega⟩,by omega,λ_=>⟨by unfold maxLen;omega,by omega⟩⟩
theorem wta_run(v:List Bool)(hx:v.length<=KS):loopF wta_RR wta_M (v.length,v,(),[],(v.length:Int),0)=(.exit 0,v.length,v,(),idxF 0 v,(v.length:Int),(v.length:Int)):=by
 have h:=ix_conj_run (φ:=wta_f) (ψ:=wta_g) (λ_=>rfl) (λ_=>rfl) (λd _=>wta_RF d) wt_P (v,(v.length:Int),v.length) ([],()) rfl (Nat.le_trans hx (by decide)) ⟨Int.le_refl _,hx,rfl⟩;rw[wt_scan]at h;simp only[Int.zero_add,List.nil_append]at h;exact h
def wtb_f(g:wtb_G):Int×wtC×wtB:=(g.2.2.2.2.2,(g.2.1,g.2.2.2.2.1,g.1),(g.2.2.2.1,g.2.2.1))
def wtb_g(d:Int×wtC×wtB):wtb_G:=(d.2.1.2.2,d.2.1.1,d.2.2.2,d.2.2.1,d.2.1.2.1,d.1)
abbrev wtb_I(g:wtb_G):List Prop:=ixI wt_lim wt_xs wt_K (wtb_f g)
abbrev wtb_M(g:wtb_G):Nat:=ixM wt_lim (wtb_f g)
noncomputable abbrev wtb_RR(g:wtb_G):Ex×wtb_G:=wtb_R g.1 g.2.1 g.2.2.1 g.2.2.2.1 g.2.2.2.2.1 g.2.2.2.2.2
theorem wtb_RF(d:Int×wtC×wtB):wtb_RR (wtb_g d)=((ixF 0 wt_lim wt_xs eBool.dflt wt_S d).1,wtb_g (ixF 0 wt_lim wt_xs eBool.dflt wt_S d).2):=by
 obtain⟨i,⟨v,n,k⟩,⟨o,⟨⟩⟩⟩:=d;show wtb_R k v () o n i=_;unfold wtb_R ixF wt_S;simp only[El.ag_eq,lst_app1];cases decide (i<n)
 .rfl
 .simp only[cond_true];cases v.getD i.toNat eBool.dflt<;>rfl
theorem wtb_ok:∀b∈loopsOf Tryd.prog 18,lkey b=4->LoopOk Tryd.prog b (wtb_C wtb_I wtb_M).g:=by
 refine wtb_loop wtb_I wtb_M (λg hi=>?_) (ix_conj_goes (φ:=wtb_f) (ψ:=wtb_g) (λ_=>rfl) (λ_=>rfl) (λd _=>wtb_RF d) wt_P);obtain⟨k,v,⟨⟩,o,n,i⟩:=g;obtain⟨h1,h2,h3,h4,h5,h6,h7⟩:=hi _ (List.mem_cons_self ..);have h1:n=(v.length:Int):=h1;have h3:0<=i:=h3;have h5:(o.length:Int)<=i:=h5;have h6:v.length<=KS:=h6;have h7:k=v.length:=h7;unfold KS at h6;show wtb_side k v () o n i;unfold wtb_side;simp only[byI3,Nat.le_refl,implies_true,true_and,and_true];intro hlt;have hlt:=of_decide_eq_true hlt;exact⟨⟨h3,by omega⟩,by omega,λ_=>⟨by unfold maxLen;omega,by omega⟩⟩
theorem wtb_run(v:List Bool)(hx:v.length<=KS):loopF wtb_RR wtb_M (v.length,v,(),[],(v.length:Int),0)=(.exit 0,v.length,v,(),idxF 0 v,(v.length:Int),(v.length:Int)):=by
 have h:=ix_conj_run (φ:=wtb_f) (ψ:=wtb_g) (λ_=>rfl) (λ_=>rfl) (λd _=>wtb_RF d) wt_P (v,(v.length:Int),v.length) ([],()) rfl (Nat.le_trans hx (by decide)) ⟨Int.le_refl _,hx,rfl⟩;rw[wt_scan]at h;simp only[Int.zero_add,List.nil_append]at h;exact h
def wtc_f(g:wtc_G):Int×wtC×wtB:=(g.2.2.2.2.2,(g.2.1,g.2.2.2.2.1,g.1),(g.2.2.2.1,g.2.2.1))
def wtc_g(d:Int×wtC×wtB):wtc_G:=(d.2.1.2.2,d.2.1.1,d.2.2.2,d.2.2.1,d.2.1.2.1,d.1)
abbrev wtc_I(g:wtc_G):List Prop:=ixI wt_lim wt_xs wt_K (wtc_f g)
abbrev wtc_M(g:wtc_G):Nat:=ixM wt_lim (wtc_f g)
noncomputable abbrev wtc_RR(g:wtc_G):Ex×wtc_G:=wtc_R g.1 g.2.1 g.2.2.1 g.2.2.2.1 g.2.2.2.2.1 g.2.2.2.2.2
theorem wtc_RF(d:Int×wtC×wtB):wtc_RR (wtc_g d)=((ixF 0 wt_lim wt_xs eBool.dflt wt_S d).1,wtc_g (ixF 0 wt_lim wt_xs eBool.dflt wt_S d).2):=by
 obtain⟨i,⟨v,n,k⟩,⟨o,⟨⟩⟩⟩:=d;show wtc_R k v () o n i=_;unfold wtc_R ixF wt_S;simp only[El.ag_eq,lst_app1];cases decide (i<n)
 .rfl
 .simp only[cond_true];cases v.getD i.toNat eBool.dflt<;>rfl
theorem wtc_ok:∀b∈loopsOf Tryd.prog 18,lkey b=4->LoopOk Tryd.prog b (wtc_C wtc_I wtc_M).g:=by
 refine wtc_loop wtc_I wtc_M (λg hi=>?_) (ix_conj_goes (φ:=wtc_f) (ψ:=wtc_g) (λ_=>rfl) (λ_=>rfl) (λd _=>wtc_RF d) wt_P);obtain⟨k,v,⟨⟩,o,n,i⟩:=g;obtain⟨h1,h2,h3,h4,h5,h6,h7⟩:=hi _ (List.mem_cons_self ..);have h1:n=(v.length:Int):=h1;have h3:0<=i:=h3;have h5:(o.length:Int)<=i:=h5;have h6:v.length<=KS:=h6;have h7:k=v.length:=h7;unfold KS at h6;show wtc_side k v () o n i;unfold wtc_side;simp only[byI3,Nat.le_refl,implies_true,true_and,and_true];intro hlt;have hlt:=of_decide_eq_true hlt;exact⟨⟨h3,by omega⟩,by omega,λ_=>⟨by unfold maxLen;omega,by omega⟩⟩
theorem wtc_run(v:List Bool)(hx:v.length<=KS):loopF wtc_RR wtc_M (v.length,v,(),[],(v.length:Int),0)=(.exit 0,v.length,v,(),idxF 0 v,(v.length:Int),(v.length:Int)):=by
 have h:=ix_conj_run (φ:=wtc_f) (ψ:=wtc_g) (λ_=>rfl) (λ_=>rfl) (λd _=>wtc_RF d) wt_P (v,(v.length:Int),v.length) ([],()) rfl (Nat.le_trans hx (by decide)) ⟨Int.le_refl _,hx,rfl⟩;rw[wt_scan]at h;simp only[Int.zero_add,List.nil_append]at h;exact h
noncomputable def ltQ9:LTab Tryd.prog:=LTab.nil.cons 18 4 (lconAlt 10 (wta_C wta_I wta_M) (lconAlt 11 (wtb_C wtb_I wtb_M) (wtc_C wtc_I wtc_M))) (λb hb hk=>altL_ok (wta_ok b hb hk) (altL_ok (wtb_ok b hb hk) (wtc_ok b hb hk)))
noncomputable abbrev lamQ9:Lam:=ltQ9.lam
theorem lamQ9_ok:∀f k L,lamQ9 f k=some L->∀b∈loopsOf Tryd.prog f,lkey b=k->LoopOk Tryd.prog b L.g:=ltQ9.ok
end Go.Proofs.YtfkdbifgppfegaaDoor

namespace Go.Proofs.YtfkdbifgppfegaaDoor
open Go.RowKit Go.Sx Go.Lp
set_option maxRecDepth 100000
theorem rngP(i n:Int)(l:Nat)(h1:n=(l:Int))(h3:0<=i)(h:decide (i<n)=true):0<=i/\i<(l:Int):=by
 have:=of_decide_eq_true h;omega
abbrev wfC:=List Bool×Int
def wf_S(_:wfC)(b:wtB)(i:Int)(a:Bool):Ex×wtB:=(.normal,bif !a then(b.1++[i],b.2)else b)
def wf_K(c:wfC)(b:wtB)(i:Int):Prop:=(b.1.length:Int)<=i/\c.1.length<=KS
abbrev wf_xs(c:wfC):List Bool:=c.1
abbrev wf_lim(c:wfC):Int:=c.2
theorem one_le(o:List Int)(u:Unit)(i:Int)(a:Bool)(h:(o.length:Int)<=i):(((bif !a then(o++[i],u)else(o,u)).1.length:Nat):Int)<=i+1:=by
 cases a
 .simp only[Bool.not_false,cond_true,List.length_append,List.length_cons,List.length_nil];omega
 .simp only[Bool.not_true,cond_false];omega
theorem wf_P:ixP wf_S wf_xs wf_K:=λ_ b i a h _ _=>⟨one_le b.1 b.2 i a h.1,h.2⟩
theorem wf_scan{C:Type}(c:C)(S:C->wtB->Int->Bool->Ex×wtB)(hS:∀b i a,S c b i a=(.normal,bif !a then(b.1++[i],b.2)else b)):∀(l:List Bool)(i:Int)(o:List Int),scan 0 (S c) i l (o,())=(.exit 0,i+l.length,(o++idxF i l,()))
 | [],i,o=>by simp[scan,idxF]
 |a::l,i,o=>by
  cases a with
  |true=>
   simp only[scan,hS,Bool.not_true,cond_false];rw[wf_scan c S hS l];simp only[idxF,Bool.not_true,cond_false,List.length_cons];rw[show i+1+(l.length:Int)=i+((l.length+1:Nat):Int) by omega]
  |false=>
   simp only[scan,hS,Bool.not_false,cond_true];rw[wf_scan c S hS l];simp only[idxF,Bool.not_false,cond_true,List.length_cons,List.append_assoc,List.singleton_append];rw[show i+1+(l.length:Int)=i+((l.length+1:Nat):Int) by omega]
def wtf_f(g:wtf_G):Int×wfC×wtB:=(g.2.2.2.2,(g.1,g.2.2.2.1),(g.2.2.1,g.2.1))
def wtf_g(d:Int×wfC×wtB):wtf_G:=(d.2.1.1,d.2.2.2,d.2.2.1,d.2.1.2,d.1)
abbrev wtf_I(g:wtf_G):List Prop:=ixI wf_lim wf_xs wf_K (wtf_f g)
abbrev wtf_M(g:wtf_G):Nat:=ixM wf_lim (wtf_f g)
noncomputable abbrev wtf_RR(g:wtf_G):Ex×wtf_G:=wtf_R g.1 g.2.1 g.2.2.1 g.2.2.2.1 g.2.2.2.2
theorem wtf_RF(d:Int×wfC×wtB):wtf_RR (wtf_g d)=((ixF 0 wf_lim wf_xs eBool.dflt wf_S d).1,wtf_g (ixF 0 wf_lim wf_xs eBool.dflt wf_S d).2):=by
 obtain⟨i,⟨v,n⟩,⟨o,⟨⟩⟩⟩:=d;show wtf_R v () o n i=_;unfold wtf_R ixF wf_S;simp only[El.ag_eq,lst_app1];cases decide (i<n)
 .rfl
 .simp only[cond_true];cases v.getD i.toNat eBool.dflt<;>rfl
theorem wtf_ok:∀b∈loopsOf Tryd.prog 18,lkey b=4->LoopOk Tryd.prog b (wtf_C wtf_I wtf_M).g:=by
 refine wtf_loop wtf_I wtf_M (λg hi=>?_) (ix_conj_goes (φ:=wtf_f) (ψ:=wtf_g) (λ_=>rfl) (λ_=>rfl) (λd _=>wtf_RF d) wf_P);obtain⟨v,⟨⟩,o,n,i⟩:=g;obtain⟨h1,h2,h3,h4,h5,h6⟩:=hi _ (List.mem_cons_self ..);have h1:n=(v.length:Int):=h1;have h3:0<=i:=h3;have h5:(o.length:Int)<=i:=h5;have h6:v.length<=KS:=h6;unfold KS at h6;show wtf_side v () o n i;unfold wtf_side;simp only[El.okL_eq,byI3,Nat.le_refl,implies_true,true_and,and_true];intro hlt;have hlt:=of_decide_eq_true hlt;exact⟨⟨h3,by omega⟩,λ_=>⟨by unfold maxLen;omega,by omega⟩⟩
theorem wtf_run(v:List Bool)(hx:v.length<=KS):loopF wtf_RR wtf_M (v,(),[],(v.length:Int),0)=(.exit 0,v,(),idxF 0 v,(v.length:Int),(v.length:Int)):=by
 have h:=ix_conj_run (φ:=wtf_f) (ψ:=wtf_g) (λ_=>rfl) (λ_=>rfl) (λd _=>wtf_RF d) wf_P (v,(v.length:Int)) ([],()) rfl (Nat.le_trans hx (by decide)) ⟨Int.le_refl _,hx⟩;rw[wf_scan _ wf_S (λ_ _ _=>rfl)]at h;simp only[Int.zero_add,List.nil_append]at h;exact h
def okA(l:Ld):Bool:=chkL l==0&&(l.stage==1||l.stage==3)
noncomputable def dw_S(_:Ld)(b:wtB)(i:Int)(a:Bool):Ex×wtB:=(.normal,bif !a then(b.1++[i],b.2)else b)
def dw_xs(l:Ld):List Bool:=bif okA l then l.voted else []
def dw_lim(l:Ld):Int:=((dw_xs l).length:Int)
def dw_K(l:Ld)(b:wtB)(i:Int):Prop:=(b.1.length:Int)<=i/\l.voted.length<=KS
theorem dw_P:ixP dw_S dw_xs dw_K:=λ_ b i a h _ _=>⟨one_le b.1 b.2 i a h.1,h.2⟩
def dwt_f(g:dwt_G):Int×Ld×wtB:=(g.2.2.2,g.2.1,(g.2.2.1,g.1))
def dwt_g(d:Int×Ld×wtB):dwt_G:=(d.2.2.2,d.2.1,d.2.2.1,d.1)
abbrev dwt_I(g:dwt_G):List Prop:=ixI dw_lim dw_xs dw_K (dwt_f g)
abbrev dwt_M(g:dwt_G):Nat:=ixM dw_lim (dwt_f g)
noncomputable abbrev dwt_RR(g:dwt_G):Ex×dwt_G:=dwt_R g.1 g.2.1 g.2.2.1 g.2.2.2
theorem dw_cond(l:Ld)(i:Int)(h:0<=i):(decide (i<(l.voted.length:Int))&&(chkL l==0&&(l.stage==1||l.stage==3)))=decide (i<dw_lim l):=by
 unfold dw_lim dw_xs;cases hk:okA l with
 |true=>
  unfold okA at hk;rw[hk,Bool.and_true];rfl
 |false=>
  unfold okA at hk;rw[hk,Bool.and_false];exact(decide_eq_false (by show¬i<((([]:List Bool).length:Nat):Int);simp only[List.length_nil];omega)).symm
theorem dw_at(l:Ld)(i:Int)(h0:0<=i)(h:i<dw_lim l):dw_xs l=l.voted:=by
 unfold dw_lim dw_xs at *;cases hk:okA l with
 |true=>rfl
 |false=>
  rw[hk]at h;have h:i<((([]:List Bool).length:Nat):Int):=h;simp only[List.length_nil]at h;omega
theorem dwt_RF(d:Int×Ld×wtB)(hi:allP (ixI dw_lim dw_xs dw_K d)):dwt_RR (dwt_g d)=((ixF 0 dw_lim dw_xs eBool.dflt dw_S d).1,dwt_g (ixF 0 dw_lim dw_xs eBool.dflt dw_S d).2):=by
 obtain⟨i,l,⟨o,⟨⟩⟩⟩:=d;have h0:0<=i:=(hi _ (List.mem_cons_self ..)).2.2.1;show dwt_R () l o i=_;unfold dwt_R ixF dw_S;simp only[El.ag_eq,lst_app1,ld_eta,dw_cond l i h0];cases hc:decide (i<dw_lim l)
 .rfl
 .simp only[cond_true];rw[dw_at l i h0 (of_decide_eq_true hc)];cases l.voted.getD i.toNat eBool.dflt<;>rfl
theorem dwt_ok:∀b∈loopsOf Tryd.prog 23,lkey b=3->LoopOk Tryd.prog b (dwt_C dwt_I dwt_M).g:=by
 refine dwt_loop dwt_I dwt_M (λg hi=>?_) (ix_conj_goes (φ:=dwt_f) (ψ:=dwt_g) (λ_=>rfl) (λ_=>rfl) dwt_RF dw_P);obtain⟨⟨⟩,l,o,i⟩:=g;obtain⟨h1,h2,h3,h4,h5,h6⟩:=hi _ (List.mem_cons_self ..);have h3:0<=i:=h3;have h4:i<=((dw_xs l).length:Int):=h4;have h5:(o.length:Int)<=i:=h5;have h6:l.voted.length<=KS:=h6;unfold KS at h6;show dwt_side () l o i;unfold dwt_side;simp only[El.okL_eq,El.ag_eq,ld_eta,byI3,Nat.le_refl,implies_true,true_and,and_true];intro hlt;simp only[Bool.and_eq_true,decide_eq_true_eq]at hlt;have hlt:=hlt.1;exact⟨⟨h3,hlt⟩,λ_=>⟨by unfold maxLen;omega,by omega⟩⟩
theorem dwt_run(l:Ld)(hx:l.voted.length<=KS):loopF dwt_RR dwt_M ((),l,[],0)=(.exit 0,(),l,idxF 0 (dw_xs l),dw_lim l):=by
 have hl:(dw_xs l).length<=KS:=by
  unfold dw_xs;cases okA l
  .exact Nat.zero_le _
  .exact hx
 have h:=ix_conj_run (φ:=dwt_f) (ψ:=dwt_g) (λ_=>rfl) (λ_=>rfl) dwt_RF dw_P l ([],()) rfl (Nat.le_trans hl (by decide)) ⟨Int.le_refl _,hx⟩;rw[wf_scan _ dw_S (λ_ _ _=>rfl)]at h;simp only[Int.zero_add,List.nil_append]at h;exact h
noncomputable def wcl_S(_:wcl_GC)(b:wcl_GB)(_:Int)(v:Int):Ex×wcl_GB:=(.normal,(),b.2.1++[v],.ready,none)
def wcl_K(c:wcl_GC)(b:wcl_GB)(i:Int):Prop:=b.2.2=(LoopState.ready,(none:Option Code))/\c.1.length<=KS/\(List.length b.2.1:Int)<=i
abbrev wcl_I(g:wcl_G):List Prop:=ixI (λc:wcl_GC=>c.2) (λc=>c.1) wcl_K (wcl_f g)
abbrev wcl_M(g:wcl_G):Nat:=ixM (λc:wcl_GC=>c.2) (wcl_f g)
theorem wcl_P:ixP wcl_S (λc:wcl_GC=>c.1) wcl_K:=by
 rintro⟨xs,n⟩ ⟨⟨⟩,out,f⟩ i a ⟨h1,h3,h4⟩ _ _;refine⟨rfl,h3,?_⟩;have h4:(List.length out:Int)<=(i:Int):=h4;show((out++[a]).length:Int)<=(i:Int)+1;rw[List.length_append];simp only[List.length_cons,List.length_nil];omega
noncomputable abbrev wcl_RR(g:wcl_G):Ex×wcl_G:=wcl_R g.1 g.2.1 g.2.2.1 g.2.2.2.1 g.2.2.2.2.1
theorem wcl_RF(d:Int×wcl_GC×wcl_GB)(hi:allP (ixI (λc:wcl_GC=>c.2) (λc=>c.1) wcl_K d)):wcl_RR (wcl_g d)=((ixF 0 (λc:wcl_GC=>c.2) (λc=>c.1) eI.dflt wcl_S d).1,wcl_g (ixF 0 (λc:wcl_GC=>c.2) (λc=>c.1) eI.dflt wcl_S d).2):=by
 obtain⟨hb,_⟩:=(hi _ (List.mem_cons_self ..)).2.2.2.2;obtain⟨i,⟨xs,n⟩,⟨⟨⟩,out,f⟩⟩:=d;have hb:f=(LoopState.ready,(none:Option Code)):=hb;subst hb;show wcl_R xs n i () out=_;unfold wcl_R ixF wcl_S;simp only[El.ag_eq,lst_app1];cases decide (i<n)<;>rfl
theorem wcl_ok:∀b∈loopsOf Tryd.prog 48,lkey b=1->LoopOk Tryd.prog b (wcl_C wcl_I wcl_M).g:=by
 refine wcl_loop wcl_I wcl_M (λg hi=>?_) (λg hi=>?_) (ix_conj_goes (λ_=>rfl) (λ_=>rfl) wcl_RF wcl_P)
 .obtain⟨xs,n,i,⟨⟩,out,⟨st,pd⟩⟩:=g;obtain⟨h1,h2,h3,h4,h5,h7,h8⟩:=hi _ (List.mem_cons_self ..);have h1:n=(xs.length:Int):=h1;have h3:0<=i:=h3;have h7:xs.length<=KS:=h7;have h8:(List.length out:Int)<=i:=h8;have h4:i<=(xs.length:Int):=h4;unfold KS at h7;show wcl_side xs n i () out;unfold wcl_side;simp only[El.okL_eq,byI3];clear hi;unfold maxLen;refine⟨λhlt=>?_,λ_=>?_⟩
  .have hr:=rngP i n _ h1 h3 hlt
   repeat' (first|exact hr|exact rfl|apply And.intro|intro _)
   all_goals (first|trivial|omega)
  .repeat' (first|exact rfl|apply And.intro|intro _)
   all_goals (first|trivial|omega)
 .obtain⟨xs,n,i,⟨⟩,out,⟨st,pd⟩⟩:=g;have h5:=(hi _ (List.mem_cons_self ..)).2.2.2.2.1;have h5:(st,pd)=(LoopState.ready,(none:Option Code)):=h5;cases h5;rfl
theorem wcl_run(xs:List Int)(h:xs.length<=KS):loopF wcl_RR wcl_M (xs,(xs.length:Int),0,(),[],(.ready,none))=(.exit 0,xs,(xs.length:Int),(xs.length:Int),(),xs,(.ready,none)):=by
 have hm:xs.length<=maxLen:=by unfold KS at h;unfold maxLen;omega
 have hr:loopF wcl_RR wcl_M (xs,(xs.length:Int),0,(),[],(.ready,none))=_:=ix_conj_run (φ:=wcl_f) (ψ:=wcl_g) (λ_=>rfl) (λ_=>rfl) wcl_RF wcl_P (xs,(xs.length:Int)) ((),[],.ready,none) rfl hm ⟨rfl,h,by show(0:Int)<=0;omega⟩
 have hf:∀(l b:List Int),l.foldl (λ(b:wcl_GB)(v:Int)=>(((),b.2.1++[v],LoopState.ready,(none:Option Code)):wcl_GB)) ((),b,LoopState.ready,(none:Option Code))=((),b++l,LoopState.ready,none):=by
  intro l
  induction l with
  |nil=>intro b;simp
  |cons a l ih=>intro b;rw[List.foldl_cons,ih];simp
 have hs:=scan_fold (x:=0) (st:=wcl_S (xs,(xs.length:Int))) (f:=λ(b:wcl_GB)(v:Int)=>((),b.2.1++[v],LoopState.ready,(none:Option Code))) (λ_ _ _=>rfl) xs 0 ((),[],LoopState.ready,none);rw[hf]at hs;rw[hr];show((scan 0 (wcl_S (xs,(xs.length:Int))) 0 xs ((),[],.ready,none)).1,wcl_g ((scan 0 (wcl_S (xs,(xs.length:Int))) 0 xs ((),[],.ready,none)).2.1,(xs,(xs.length:Int)),(scan 0 (wcl_S (xs,(xs.length:Int))) 0 xs ((),[],.ready,none)).2.2))=_;rw[hs,Int.zero_add];rfl
noncomputable def ltZ2:LTab Tryd.prog:=((LTab.nil.cons 18 4 (wtf_C wtf_I wtf_M) wtf_ok).cons 23 3 (dwt_C dwt_I dwt_M) dwt_ok).cons 48 1 (wcl_C wcl_I wcl_M) wcl_ok
noncomputable abbrev lamZ2:Lam:=ltZ2.lam
theorem lamZ2_ok:∀f k L,lamZ2 f k=some L->∀b∈loopsOf Tryd.prog f,lkey b=k->LoopOk Tryd.prog b L.g:=ltZ2.ok
end Go.Proofs.YtfkdbifgppfegaaDoor

namespace Go.Proofs.YtfkdbifgppfegaaDoor
open Go.RowKit Go.Sx
set_option maxRecDepth 100000
noncomputable abbrev rWt:Rv (List Int):=.fn1 48 (.list eI)
abbrev dWt:Dv (List Int):=dFn1 48 (.list eI)
abbrev aWt:DA (List Int):=.one dWt
noncomputable def wai_q1(l:Ld):Ex×
 wtf_G:=
 loopF (λg=>wtf_R g.fst g.snd.fst g.snd.snd.fst g.snd.snd.snd.fst g.snd.snd.snd.snd) wtf_M (eBool.ag l.voted,(),[],(↑l.voted.length:Int),(0:Int))
noncomputable def wai_F(l:Ld):Rv.T rWt:=
 bif chkL (Ld.mk l.workers l.stage l.ver l.cut (Dl.mk (eI.ag l.dl.drop) (eD.ag l.dl.put) (eV.ag l.dl.moves)) (eBool.ag l.voted) l.yes l.why (eN.ag l.ents))==(0:Int)then bif !l.stage==(1:Int)&&!l.stage==(3:Int)then []else eI.ag (wai_q1 l).snd.snd.snd.fst
 else []
def wai_side(l:Ld):Prop:=
 eI.okL l.dl.drop/\eD.okL l.dl.put/\eV.okL l.dl.moves/\eBool.okL l.voted/\eN.okL l.ents/\((chkL (Ld.mk l.workers l.stage l.ver l.cut (Dl.mk (eI.ag l.dl.drop) (eD.ag l.dl.put) (eV.ag l.dl.moves)) (eBool.ag l.voted) l.yes l.why (eN.ag l.ents))==(0:Int))=true->(!l.stage==(1:Int)&&!l.stage==(3:Int))=false->eBool.okL l.voted/\Lp.ixJ wf_lim wf_xs wf_K (wtf_f (eBool.ag l.voted,(),[],(↑l.voted.length:Int),(0:Int)))/\(wai_q1 l).snd.snd.snd.fst.length<=(wai_q1 l).snd.snd.snd.fst.length/\∀(e:Nat),e<(wai_q1 l).snd.snd.snd.fst.length->True)
theorem wai_okS(pre:DA.T aL->List Prop)(h:∀g,DA.bd aL g->(∀p∈pre g,p)->wai_side g):FnPure Tryd.prog 18 aL (Rv.D rWt) (λg=>wai_F g) pre:=res_of_side (R:=rWt) (Γ:=(PTab.gamz tabG8 [] [])) (Λ:=lamZ2) (PTab.okz tabG8 [] []) lamZ2_ok 100 default (λg=>wai_side g) (λg=>by kernel_rfl) (λg=>by kernel_rfl) h
noncomputable def dwa_q1(l:Ld):Ex×
 dwt_G:=
 loopF (λg=>dwt_R g.fst g.snd.fst g.snd.snd.fst g.snd.snd.snd) dwt_M ((),Ld.mk l.workers l.stage l.ver l.cut (Dl.mk (eI.ag l.dl.drop) (eD.ag l.dl.put) (eV.ag l.dl.moves)) (eBool.ag l.voted) l.yes l.why (eN.ag l.ents),[],(0:Int))
noncomputable def dwa_F(l:Ld):Rv.T (.list eI):=
 eI.ag (dwa_q1 l).snd.snd.snd.fst
def dwa_side(l:Ld):Prop:=
 eI.okL l.dl.drop/\eD.okL l.dl.put/\eV.okL l.dl.moves/\eBool.okL l.voted/\eN.okL l.ents/\Lp.ixJ dw_lim dw_xs dw_K (dwt_f ((),Ld.mk l.workers l.stage l.ver l.cut (Dl.mk (eI.ag l.dl.drop) (eD.ag l.dl.put) (eV.ag l.dl.moves)) (eBool.ag l.voted) l.yes l.why (eN.ag l.ents),[],(0:Int)))/\(dwa_q1 l).snd.snd.snd.fst.length<=(dwa_q1 l).snd.snd.snd.fst.length/\∀(e:Nat),e<(dwa_q1 l).snd.snd.snd.fst.length->True
theorem dwa_okS(pre:DA.T aL->List Prop)(h:∀g,DA.bd aL g->(∀p∈pre g,p)->dwa_side g):FnPure Tryd.prog 23 aL (Rv.D (.list eI)) (λg=>dwa_F g) pre:=res_of_side (R:=(.list eI)) (Γ:=(PTab.gamz tabG8 [] [])) (Λ:=lamZ2) (PTab.okz tabG8 [] []) lamZ2_ok 100 default (λg=>dwa_side g) (λg=>by kernel_rfl) (λg=>by kernel_rfl) h
noncomputable def col_q1(xs:List Int):Ex×
 wcl_G:=
 loopF (λg=>wcl_R g.fst g.snd.fst g.snd.snd.fst g.snd.snd.snd.fst g.snd.snd.snd.snd.fst) wcl_M (eI.ag xs,(↑xs.length:Int),(0:Int),(),[],LoopState.ready,none)
noncomputable def col_F(xs:List Int):Rv.T (.list eI):=
 eI.ag (col_q1 xs).snd.snd.snd.snd.snd.fst
def col_side(xs:List Int):Prop:=
 eI.okL xs/\CodeIs (rangeOf Tryd.prog (50:Nat) (0:Nat)).snd.fst (rangeOf Tryd.prog (50:Nat) (0:Nat)).snd.fst/\CodeIs (rangeOf Tryd.prog (50:Nat) (0:Nat)).snd.snd (rangeOf Tryd.prog (50:Nat) (0:Nat)).snd.snd/\Lp.ixJ (λc=>c.snd) (λc=>c.fst) wcl_K (wcl_f (eI.ag xs,(↑xs.length:Int),(0:Int),(),[],LoopState.ready,none))/\(col_q1 xs).snd.snd.snd.snd.snd.fst.length<=(col_q1 xs).snd.snd.snd.snd.snd.fst.length/\∀(e:Nat),e<(col_q1 xs).snd.snd.snd.snd.snd.fst.length->True
theorem col_okS(pre:DA.T aWt->List Prop)(h:∀g,DA.bd aWt g->(∀p∈pre g,p)->col_side g):FnPure Tryd.prog 22 aWt (Rv.D (.list eI)) (λg=>col_F g) pre:=res_of_side (R:=(.list eI)) (Γ:=(PTab.gamz tabG8 [] [])) (Λ:=lamZ2) (PTab.okz tabG8 [] []) lamZ2_ok 100 default (λg=>col_side g) (λg=>by kernel_rfl) (λg=>by kernel_rfl) h
end Go.Proofs.YtfkdbifgppfegaaDoor

namespace Go.Proofs.YtfkdbifgppfegaaDoor
open Go.RowKit Go.Sx Go.Lp
set_option maxRecDepth 100000
noncomputable def waiL(l:Ld):List Int:=idxF 0 (dw_xs l)
theorem wai_ok:FnPure Tryd.prog 18 aL dWt waiL (λl=>[l.voted.length<=KS]):=by
 have hq:∀l:Ld,l.voted.length<=KS->wai_q1 l=(.exit 0,l.voted,(),idxF 0 l.voted,(l.voted.length:Int),(l.voted.length:Int)):=λl hx=>by
  unfold wai_q1;simp only[El.ag_eq];exact wtf_run l.voted hx
 refine pure_congr (wai_okS (λl=>[l.voted.length<=KS]) λl _ hp=>?_) λl _ hp=>?_
 .have hx:l.voted.length<=KS:=hp _ (List.mem_cons_self ..);show wai_side l;unfold wai_side;simp only[El.okL_eq,El.ag_eq,Nat.le_refl,implies_true,true_and,and_true];exactλ_ _=>ixJ0 rfl (Nat.le_trans hx (by decide)) ⟨Int.le_refl _,hx⟩
 .have hx:l.voted.length<=KS:=hp _ (List.mem_cons_self ..);show wai_F l=waiL l;unfold wai_F waiL dw_xs okA;simp only[El.ag_eq,ld_eta,hq l hx];cases chkL l==0 with
  |false=>rfl
  |true=>cases l.stage==1<;>cases l.stage==3<;>rfl
theorem dwa_ok:FnPure Tryd.prog 23 aL dLI waiL (λl=>[l.voted.length<=KS]):=by
 have hq:∀l:Ld,l.voted.length<=KS->dwa_q1 l=(.exit 0,(),l,idxF 0 (dw_xs l),dw_lim l):=λl hx=>by
  unfold dwa_q1;simp only[El.ag_eq,ld_eta];exact dwt_run l hx
 refine pure_congr (dwa_okS (λl=>[l.voted.length<=KS]) λl _ hp=>?_) λl _ hp=>?_
 .have hx:l.voted.length<=KS:=hp _ (List.mem_cons_self ..)
  have hl:(dw_xs l).length<=KS:=by
   unfold dw_xs;cases okA l
   .exact Nat.zero_le _
   .exact hx
  show dwa_side l;unfold dwa_side;simp only[El.okL_eq,El.ag_eq,ld_eta,Nat.le_refl,implies_true,true_and,and_true];exact ixJ0 rfl (Nat.le_trans hl (by decide)) ⟨Int.le_refl _,hx⟩
 .have hx:l.voted.length<=KS:=hp _ (List.mem_cons_self ..);show dwa_F l=waiL l;unfold dwa_F;rw[hq l hx,El.ag_eq];rfl
theorem col_ok:FnPure Tryd.prog 22 aWt dLI (λxs=>xs) (λxs=>[xs.length<=KS]):=by
 have hq:∀xs:List Int,xs.length<=KS->col_q1 xs=(.exit 0,xs,(xs.length:Int),(xs.length:Int),(),xs,(.ready,none)):=λxs hx=>by
  unfold col_q1;simp only[El.ag_eq];exact wcl_run xs hx
 refine pure_congr (col_okS (λxs=>[xs.length<=KS]) λxs _ hp=>?_) λxs _ hp=>?_
 .have hx:xs.length<=KS:=hp _ (List.mem_cons_self ..);show col_side xs;unfold col_side;simp only[El.okL_eq,El.ag_eq,Nat.le_refl,implies_true,true_and,and_true,hq xs hx];exact⟨rfl,rfl,ixJ0 rfl (Nat.le_trans hx (by decide)) ⟨rfl,hx,Int.le_refl _⟩⟩
 .have hx:xs.length<=KS:=hp _ (List.mem_cons_self ..);show col_F xs=xs;unfold col_F;rw[hq xs hx,El.ag_eq]
end Go.Proofs.YtfkdbifgppfegaaDoor

namespace Go.Proofs.YtfkdbifgppfegaaDoor
open Go.RowKit Go.Sx
set_option maxRecDepth 100000
noncomputable def tabT5:PTab Tryd.prog:=tabT4.cons 11 (pconP aLL dBool (λg=>decide (g.1=g.2)) (λ_=>[])) (conP_ok rvsm_ok puB)
noncomputable def alk_F(a:Sd)(b:Sd):Dv.T dBool:=
 decide (Ld.mk a.l.workers a.l.stage a.l.ver a.l.cut (Dl.mk (eI.ag a.l.dl.drop) (eD.ag a.l.dl.put) (eV.ag a.l.dl.moves)) (eBool.ag a.l.voted) a.l.yes a.l.why (eN.ag a.l.ents)=Ld.mk b.l.workers b.l.stage b.l.ver b.l.cut (Dl.mk (eI.ag b.l.dl.drop) (eD.ag b.l.dl.put) (eV.ag b.l.dl.moves)) (eBool.ag b.l.voted) b.l.yes b.l.why (eN.ag b.l.ents))&&(a.e==b.e&&decide (eMs.ag a.ms=eMs.ag b.ms))
def alk_side(a:Sd)(b:Sd):Prop:=
 eI.okL a.l.dl.drop/\eD.okL a.l.dl.put/\eV.okL a.l.dl.moves/\eBool.okL a.l.voted/\eN.okL a.l.ents/\eI.okL b.l.dl.drop/\eD.okL b.l.dl.put/\eV.okL b.l.dl.moves/\eBool.okL b.l.voted/\eN.okL b.l.ents/\(decide (Ld.mk a.l.workers a.l.stage a.l.ver a.l.cut (Dl.mk (eI.ag a.l.dl.drop) (eD.ag a.l.dl.put) (eV.ag a.l.dl.moves)) (eBool.ag a.l.voted) a.l.yes a.l.why (eN.ag a.l.ents)=Ld.mk b.l.workers b.l.stage b.l.ver b.l.cut (Dl.mk (eI.ag b.l.dl.drop) (eD.ag b.l.dl.put) (eV.ag b.l.dl.moves)) (eBool.ag b.l.voted) b.l.yes b.l.why (eN.ag b.l.ents))=true->(a.e==b.e)=true->eMs.okL a.ms)/\(decide (Ld.mk a.l.workers a.l.stage a.l.ver a.l.cut (Dl.mk (eI.ag a.l.dl.drop) (eD.ag a.l.dl.put) (eV.ag a.l.dl.moves)) (eBool.ag a.l.voted) a.l.yes a.l.why (eN.ag a.l.ents)=Ld.mk b.l.workers b.l.stage b.l.ver b.l.cut (Dl.mk (eI.ag b.l.dl.drop) (eD.ag b.l.dl.put) (eV.ag b.l.dl.moves)) (eBool.ag b.l.voted) b.l.yes b.l.why (eN.ag b.l.ents))=true->(a.e==b.e)=true->eMs.okL b.ms)
theorem alk_okS(pre:DA.T aSS->List Prop)(h:∀g,DA.bd aSS g->(∀p∈pre g,p)->alk_side g.1 g.2):FnPure Tryd.prog 15 aSS dBool (λg=>alk_F g.1 g.2) pre:=pure_of_sideS (Γ:=(PTab.gamz tabT5 [] [])) (Λ:=noΛ) (PTab.okz tabT5 [] []) noΛ_ok 100 default (λg=>alk_side g.1 g.2) (λg=>by kernel_rfl) (λg=>by kernel_rfl) h
end Go.Proofs.YtfkdbifgppfegaaDoor
