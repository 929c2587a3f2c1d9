/- Chapter 21: Heard. Printed by treegen.py. -/
import Derived.Test.YtfkdbifgppfegaaDoorZG12f56d1d
import Derived.Test.YtfkdbifgppfegaaDoorZG0555ce6c
import Derived.Test.YtfkdbifgppfegaaDoorZG1031ef6d
import Derived.Test.YtfkdbifgppfegaaDoorZG065e5f9a
import Derived.Test.YtfkdbifgppfegaaDoorZG1121b5f8
import Derived.Test.YtfkdbifgppfegaaDoorZG087ac275
import Derived.Test.YtfkdbifgppfegaaDoorZG0765c201
set_option linter.unusedVariables false
set_option linter.unusedSimpArgs false
set_option linter.constructorNameAsVariable false
set_option linter.all false

namespace Go.Proofs.YtfkdbifgppfegaaDoor
open Go.RowKit Go.Sx
set_option maxRecDepth 100000
noncomputable def hrd_q1(l:Ld)(w:Int)(m:Ms):Ex×
 wtc_G:=
 loopF (λg=>wtc_R g.fst g.snd.fst g.snd.snd.fst g.snd.snd.snd.fst g.snd.snd.snd.snd.fst g.snd.snd.snd.snd.snd) wtc_M ((eBool.ag l.voted).length,(eBool.ag (eBool.ag l.voted)).set w.toNat true,(),[],(↑(eBool.ag l.voted).length:Int),(0:Int))
noncomputable def hrd_q2(l:Ld)(w:Int)(m:Ms):Ex×
 wtb_G:=
 loopF (λg=>wtb_R g.fst g.snd.fst g.snd.snd.fst g.snd.snd.snd.fst g.snd.snd.snd.snd.fst g.snd.snd.snd.snd.snd) wtb_M ((eBool.ag l.voted).length,(eBool.ag (eBool.ag l.voted)).set w.toNat true,(),[],(↑(eBool.ag l.voted).length:Int),(0:Int))
noncomputable def hrd_q3(l:Ld)(w:Int)(m:Ms):Ex×
 wta_G:=
 loopF (λg=>wta_R g.fst g.snd.fst g.snd.snd.fst g.snd.snd.snd.fst g.snd.snd.snd.snd.fst g.snd.snd.snd.snd.snd) wta_M ((eBool.ag l.voted).length,(eBool.ag (eBool.ag l.voted)).set w.toNat true,(),[],(↑(eBool.ag l.voted).length:Int),(0:Int))
noncomputable def hrd_F(l:Ld)(w:Int)(m:Ms):Rv.T rLE:=
 bif heaE (Ld.mk l.workers l.stage l.ver l.cut (Dl.mk (eI.ag l.dl.drop) (eD.ag l.dl.put) (eV.ag l.dl.moves)) (eBool.ag l.voted) l.yes l.why (eN.ag l.ents)) w (Ms.mk m.kind m.ver m.p m.t (eR.ag m.recs) (eC.ag m.changes) (Dl.mk (eI.ag m.dl.drop) (eD.ag m.dl.put) (eV.ag m.dl.moves)) m.cut (eN.ag m.ents) m.yes m.why)!=(0:Int)then(Ld.mk l.workers l.stage l.ver l.cut (Dl.mk (eI.ag l.dl.drop) (eD.ag l.dl.put) (eV.ag l.dl.moves)) (eBool.ag l.voted) l.yes l.why (eN.ag l.ents),heaE (Ld.mk l.workers l.stage l.ver l.cut (Dl.mk (eI.ag l.dl.drop) (eD.ag l.dl.put) (eV.ag l.dl.moves)) (eBool.ag l.voted) l.yes l.why (eN.ag l.ents)) w (Ms.mk m.kind m.ver m.p m.t (eR.ag m.recs) (eC.ag m.changes) (Dl.mk (eI.ag m.dl.drop) (eD.ag m.dl.put) (eV.ag m.dl.moves)) m.cut (eN.ag m.ents) m.yes m.why))
 else bif !m.yes then bif chkL (Ld.mk l.workers l.stage l.ver l.cut (Dl.mk (eI.ag (eI.ag l.dl.drop)) (eD.ag (eD.ag l.dl.put)) (eV.ag (eV.ag l.dl.moves))) ((eBool.ag (eBool.ag l.voted)).set w.toNat true) (!l.yes&&l.yes) (bif l.yes then m.why else l.why) [])==(0:Int)then bif !l.stage==(1:Int)&&!l.stage==(3:Int)then(Ld.mk l.workers (bif l.stage==(1:Int)&&(!l.yes&&l.yes)then(2:Int)else(4:Int)) l.ver l.cut (Dl.mk (eI.ag (eI.ag l.dl.drop)) (eD.ag (eD.ag l.dl.put)) (eV.ag (eV.ag l.dl.moves))) [] (!l.yes&&l.yes) (bif l.yes then m.why else l.why) [],(0:Int))else bif decide ((0:Int)<(↑(hrd_q1 l w m).snd.snd.snd.snd.fst.length:Int))then(Ld.mk l.workers l.stage l.ver l.cut (Dl.mk (eI.ag (eI.ag l.dl.drop)) (eD.ag (eD.ag l.dl.put)) (eV.ag (eV.ag l.dl.moves))) (eBool.lst (eBool.ag l.voted).length (eBool.els (hrd_q1 l w m).snd.snd.fst)) (!l.yes&&l.yes) (bif l.yes then m.why else l.why) [],(0:Int))else(Ld.mk l.workers (bif l.stage==(1:Int)&&(!l.yes&&l.yes)then(2:Int)else(4:Int)) l.ver l.cut (Dl.mk (eI.ag (eI.ag l.dl.drop)) (eD.ag (eD.ag l.dl.put)) (eV.ag (eV.ag l.dl.moves))) [] (!l.yes&&l.yes) (bif l.yes then m.why else l.why) [],(0:Int))else(Ld.mk l.workers (bif l.stage==(1:Int)&&(!l.yes&&l.yes)then(2:Int)else(4:Int)) l.ver l.cut (Dl.mk (eI.ag (eI.ag l.dl.drop)) (eD.ag (eD.ag l.dl.put)) (eV.ag (eV.ag l.dl.moves))) [] (!l.yes&&l.yes) (bif l.yes then m.why else l.why) [],(0:Int))else bif l.yes&&decide (IntKind.i64.wrap ((↑(eN.ag l.ents).length:Int)+(↑m.ents.length:Int))>(1024:Int))then bif chkL (Ld.mk l.workers l.stage l.ver l.cut (Dl.mk (eI.ag (eI.ag l.dl.drop)) (eD.ag (eD.ag l.dl.put)) (eV.ag (eV.ag l.dl.moves))) ((eBool.ag (eBool.ag l.voted)).set w.toNat true) (!l.yes&&l.yes) (bif l.yes then(7:Int)else l.why) [])==(0:Int)then bif !l.stage==(1:Int)&&!l.stage==(3:Int)then(Ld.mk l.workers (bif l.stage==(1:Int)&&(!l.yes&&l.yes)then(2:Int)else(4:Int)) l.ver l.cut (Dl.mk (eI.ag (eI.ag l.dl.drop)) (eD.ag (eD.ag l.dl.put)) (eV.ag (eV.ag l.dl.moves))) [] (!l.yes&&l.yes) (bif l.yes then(7:Int)else l.why) [],(0:Int))else bif decide ((0:Int)<(↑(hrd_q1 l w m).snd.snd.snd.snd.fst.length:Int))then(Ld.mk l.workers l.stage l.ver l.cut (Dl.mk (eI.ag (eI.ag l.dl.drop)) (eD.ag (eD.ag l.dl.put)) (eV.ag (eV.ag l.dl.moves))) (eBool.lst (eBool.ag l.voted).length (eBool.els (hrd_q1 l w m).snd.snd.fst)) (!l.yes&&l.yes) (bif l.yes then(7:Int)else l.why) [],(0:Int))else(Ld.mk l.workers (bif l.stage==(1:Int)&&(!l.yes&&l.yes)then(2:Int)else(4:Int)) l.ver l.cut (Dl.mk (eI.ag (eI.ag l.dl.drop)) (eD.ag (eD.ag l.dl.put)) (eV.ag (eV.ag l.dl.moves))) [] (!l.yes&&l.yes) (bif l.yes then(7:Int)else l.why) [],(0:Int))else(Ld.mk l.workers (bif l.stage==(1:Int)&&(!l.yes&&l.yes)then(2:Int)else(4:Int)) l.ver l.cut (Dl.mk (eI.ag (eI.ag l.dl.drop)) (eD.ag (eD.ag l.dl.put)) (eV.ag (eV.ag l.dl.moves))) [] (!l.yes&&l.yes) (bif l.yes then(7:Int)else l.why) [],(0:Int))else bif l.yes then bif chkL (Ld.mk l.workers l.stage l.ver l.cut (Dl.mk (eI.ag (eI.ag l.dl.drop)) (eD.ag (eD.ag l.dl.put)) (eV.ag (eV.ag l.dl.moves))) ((eBool.ag (eBool.ag l.voted)).set w.toNat true) l.yes l.why (eN.lst (min ((eN.ag l.ents).length+m.ents.length) (eN.ag l.ents).length) (eN.els (eN.ag l.ents))++eN.lst ((eN.ag l.ents).length+m.ents.length-(eN.ag l.ents).length) (eN.els m.ents)))==(0:Int)then bif !l.stage==(1:Int)&&!l.stage==(3:Int)then(Ld.mk l.workers (bif l.stage==(1:Int)&&l.yes then(2:Int)else(4:Int)) l.ver l.cut (Dl.mk (eI.ag (eI.ag l.dl.drop)) (eD.ag (eD.ag l.dl.put)) (eV.ag (eV.ag l.dl.moves))) [] l.yes l.why (eN.lst (min ((eN.ag l.ents).length+m.ents.length) (eN.ag l.ents).length) (eN.els (eN.ag l.ents))++eN.lst ((eN.ag l.ents).length+m.ents.length-(eN.ag l.ents).length) (eN.els m.ents)),(0:Int))else bif decide ((0:Int)<(↑(hrd_q2 l w m).snd.snd.snd.snd.fst.length:Int))then(Ld.mk l.workers l.stage l.ver l.cut (Dl.mk (eI.ag (eI.ag l.dl.drop)) (eD.ag (eD.ag l.dl.put)) (eV.ag (eV.ag l.dl.moves))) (eBool.lst (eBool.ag l.voted).length (eBool.els (hrd_q2 l w m).snd.snd.fst)) l.yes l.why (eN.lst (min ((eN.ag l.ents).length+m.ents.length) (eN.ag l.ents).length) (eN.els (eN.ag l.ents))++eN.lst ((eN.ag l.ents).length+m.ents.length-(eN.ag l.ents).length) (eN.els m.ents)),(0:Int))else(Ld.mk l.workers (bif l.stage==(1:Int)&&l.yes then(2:Int)else(4:Int)) l.ver l.cut (Dl.mk (eI.ag (eI.ag l.dl.drop)) (eD.ag (eD.ag l.dl.put)) (eV.ag (eV.ag l.dl.moves))) [] l.yes l.why (eN.lst (min ((eN.ag l.ents).length+m.ents.length) (eN.ag l.ents).length) (eN.els (eN.ag l.ents))++eN.lst ((eN.ag l.ents).length+m.ents.length-(eN.ag l.ents).length) (eN.els m.ents)),(0:Int))else(Ld.mk l.workers (bif l.stage==(1:Int)&&l.yes then(2:Int)else(4:Int)) l.ver l.cut (Dl.mk (eI.ag (eI.ag l.dl.drop)) (eD.ag (eD.ag l.dl.put)) (eV.ag (eV.ag l.dl.moves))) [] l.yes l.why (eN.lst (min ((eN.ag l.ents).length+m.ents.length) (eN.ag l.ents).length) (eN.els (eN.ag l.ents))++eN.lst ((eN.ag l.ents).length+m.ents.length-(eN.ag l.ents).length) (eN.els m.ents)),(0:Int))else bif chkL (Ld.mk l.workers l.stage l.ver l.cut (Dl.mk (eI.ag (eI.ag l.dl.drop)) (eD.ag (eD.ag l.dl.put)) (eV.ag (eV.ag l.dl.moves))) ((eBool.ag (eBool.ag l.voted)).set w.toNat true) l.yes l.why (eN.ag (eN.ag l.ents)))==(0:Int)then bif !l.stage==(1:Int)&&!l.stage==(3:Int)then(Ld.mk l.workers (bif l.stage==(1:Int)&&l.yes then(2:Int)else(4:Int)) l.ver l.cut (Dl.mk (eI.ag (eI.ag l.dl.drop)) (eD.ag (eD.ag l.dl.put)) (eV.ag (eV.ag l.dl.moves))) [] l.yes l.why (eN.ag (eN.ag l.ents)),(0:Int))else bif decide ((0:Int)<(↑(hrd_q3 l w m).snd.snd.snd.snd.fst.length:Int))then(Ld.mk l.workers l.stage l.ver l.cut (Dl.mk (eI.ag (eI.ag l.dl.drop)) (eD.ag (eD.ag l.dl.put)) (eV.ag (eV.ag l.dl.moves))) (eBool.lst (eBool.ag l.voted).length (eBool.els (hrd_q3 l w m).snd.snd.fst)) l.yes l.why (eN.ag (eN.ag l.ents)),(0:Int))else(Ld.mk l.workers (bif l.stage==(1:Int)&&l.yes then(2:Int)else(4:Int)) l.ver l.cut (Dl.mk (eI.ag (eI.ag l.dl.drop)) (eD.ag (eD.ag l.dl.put)) (eV.ag (eV.ag l.dl.moves))) [] l.yes l.why (eN.ag (eN.ag l.ents)),(0:Int))else(Ld.mk l.workers (bif l.stage==(1:Int)&&l.yes then(2:Int)else(4:Int)) l.ver l.cut (Dl.mk (eI.ag (eI.ag l.dl.drop)) (eD.ag (eD.ag l.dl.put)) (eV.ag (eV.ag l.dl.moves))) [] l.yes l.why (eN.ag (eN.ag l.ents)),(0:Int))
def hrd_side(l:Ld)(w:Int)(m:Ms):Prop:=
 eI.okL l.dl.drop/\eD.okL l.dl.put/\eV.okL l.dl.moves/\eBool.okL l.voted/\eN.okL l.ents/\eR.okL m.recs/\eC.okL m.changes/\eI.okL m.dl.drop/\eD.okL m.dl.put/\eV.okL m.dl.moves/\eN.okL m.ents/\((heaE (Ld.mk l.workers l.stage l.ver l.cut (Dl.mk (eI.ag l.dl.drop) (eD.ag l.dl.put) (eV.ag l.dl.moves)) (eBool.ag l.voted) l.yes l.why (eN.ag l.ents)) w (Ms.mk m.kind m.ver m.p m.t (eR.ag m.recs) (eC.ag m.changes) (Dl.mk (eI.ag m.dl.drop) (eD.ag m.dl.put) (eV.ag m.dl.moves)) m.cut (eN.ag m.ents) m.yes m.why)!=(0:Int))=true->eI.okL l.dl.drop/\eD.okL l.dl.put/\eV.okL l.dl.moves/\eBool.okL l.voted/\eN.okL l.ents)/\((heaE (Ld.mk l.workers l.stage l.ver l.cut (Dl.mk (eI.ag l.dl.drop) (eD.ag l.dl.put) (eV.ag l.dl.moves)) (eBool.ag l.voted) l.yes l.why (eN.ag l.ents)) w (Ms.mk m.kind m.ver m.p m.t (eR.ag m.recs) (eC.ag m.changes) (Dl.mk (eI.ag m.dl.drop) (eD.ag m.dl.put) (eV.ag m.dl.moves)) m.cut (eN.ag m.ents) m.yes m.why)!=(0:Int))=false->eI.okL l.dl.drop/\eD.okL l.dl.put/\eV.okL l.dl.moves/\eBool.okL l.voted/\eN.okL l.ents/\fewL (Ld.mk l.workers l.stage l.ver l.cut (Dl.mk (eI.ag l.dl.drop) (eD.ag l.dl.put) (eV.ag l.dl.moves)) (eBool.ag l.voted) l.yes l.why (eN.ag l.ents))/\((0:Int)<=w/\w<(↑(eBool.ag l.voted).length:Int))/\w.toNat<(eBool.ag l.voted).length/\((!m.yes)=true->eI.okL (eI.ag l.dl.drop)/\eD.okL (eD.ag l.dl.put)/\eV.okL (eV.ag l.dl.moves)/\(eBool.ag l.voted).length<=(eBool.ag l.voted).length/\True/\(∀(e:Nat),e<(eBool.ag l.voted).length->True)/\((chkL (Ld.mk l.workers l.stage l.ver l.cut (Dl.mk (eI.ag (eI.ag l.dl.drop)) (eD.ag (eD.ag l.dl.put)) (eV.ag (eV.ag l.dl.moves))) ((eBool.ag (eBool.ag l.voted)).set w.toNat true) (!l.yes&&l.yes) (bif l.yes then m.why else l.why) [])==(0:Int))=true->((!l.stage==(1:Int)&&!l.stage==(3:Int))=true->eI.okL (eI.ag l.dl.drop)/\eD.okL (eD.ag l.dl.put)/\eV.okL (eV.ag l.dl.moves))/\((!l.stage==(1:Int)&&!l.stage==(3:Int))=false->True/\(∀(e:Nat),e<(eBool.ag l.voted).length->True)/\Lp.ixJ wt_lim wt_xs wt_K (wtc_f ((eBool.ag l.voted).length,(eBool.ag (eBool.ag l.voted)).set w.toNat true,(),[],(↑(eBool.ag l.voted).length:Int),(0:Int)))/\(decide ((0:Int)<(↑(hrd_q1 l w m).snd.snd.snd.snd.fst.length:Int))=true->((0:Int)<=(0:Int)/\(0:Int)<(↑(hrd_q1 l w m).snd.snd.snd.snd.fst.length:Int))/\(0:Nat)<(hrd_q1 l w m).snd.snd.snd.snd.fst.length/\eI.okL (eI.ag l.dl.drop)/\eD.okL (eD.ag l.dl.put)/\eV.okL (eV.ag l.dl.moves)/\(eBool.ag l.voted).length<=(hrd_q1 l w m).snd.snd.fst.length/\∀(e:Nat),e<(eBool.ag l.voted).length->True)/\(decide ((0:Int)<(↑(hrd_q1 l w m).snd.snd.snd.snd.fst.length:Int))=false->eI.okL (eI.ag l.dl.drop)/\eD.okL (eD.ag l.dl.put)/\eV.okL (eV.ag l.dl.moves))))/\((chkL (Ld.mk l.workers l.stage l.ver l.cut (Dl.mk (eI.ag (eI.ag l.dl.drop)) (eD.ag (eD.ag l.dl.put)) (eV.ag (eV.ag l.dl.moves))) ((eBool.ag (eBool.ag l.voted)).set w.toNat true) (!l.yes&&l.yes) (bif l.yes then m.why else l.why) [])==(0:Int))=false->eI.okL (eI.ag l.dl.drop)/\eD.okL (eD.ag l.dl.put)/\eV.okL (eV.ag l.dl.moves)))/\((!m.yes)=false->((l.yes&&decide (IntKind.i64.wrap ((↑(eN.ag l.ents).length:Int)+(↑m.ents.length:Int))>(1024:Int)))=true->eI.okL (eI.ag l.dl.drop)/\eD.okL (eD.ag l.dl.put)/\eV.okL (eV.ag l.dl.moves)/\(eBool.ag l.voted).length<=(eBool.ag l.voted).length/\True/\(∀(e:Nat),e<(eBool.ag l.voted).length->True)/\((chkL (Ld.mk l.workers l.stage l.ver l.cut (Dl.mk (eI.ag (eI.ag l.dl.drop)) (eD.ag (eD.ag l.dl.put)) (eV.ag (eV.ag l.dl.moves))) ((eBool.ag (eBool.ag l.voted)).set w.toNat true) (!l.yes&&l.yes) (bif l.yes then(7:Int)else l.why) [])==(0:Int))=true->((!l.stage==(1:Int)&&!l.stage==(3:Int))=true->eI.okL (eI.ag l.dl.drop)/\eD.okL (eD.ag l.dl.put)/\eV.okL (eV.ag l.dl.moves))/\((!l.stage==(1:Int)&&!l.stage==(3:Int))=false->True/\(∀(e:Nat),e<(eBool.ag l.voted).length->True)/\Lp.ixJ wt_lim wt_xs wt_K (wtc_f ((eBool.ag l.voted).length,(eBool.ag (eBool.ag l.voted)).set w.toNat true,(),[],(↑(eBool.ag l.voted).length:Int),(0:Int)))/\(decide ((0:Int)<(↑(hrd_q1 l w m).snd.snd.snd.snd.fst.length:Int))=true->((0:Int)<=(0:Int)/\(0:Int)<(↑(hrd_q1 l w m).snd.snd.snd.snd.fst.length:Int))/\(0:Nat)<(hrd_q1 l w m).snd.snd.snd.snd.fst.length/\eI.okL (eI.ag l.dl.drop)/\eD.okL (eD.ag l.dl.put)/\eV.okL (eV.ag l.dl.moves)/\(eBool.ag l.voted).length<=(hrd_q1 l w m).snd.snd.fst.length/\∀(e:Nat),e<(eBool.ag l.voted).length->True)/\(decide ((0:Int)<(↑(hrd_q1 l w m).snd.snd.snd.snd.fst.length:Int))=false->eI.okL (eI.ag l.dl.drop)/\eD.okL (eD.ag l.dl.put)/\eV.okL (eV.ag l.dl.moves))))/\((chkL (Ld.mk l.workers l.stage l.ver l.cut (Dl.mk (eI.ag (eI.ag l.dl.drop)) (eD.ag (eD.ag l.dl.put)) (eV.ag (eV.ag l.dl.moves))) ((eBool.ag (eBool.ag l.voted)).set w.toNat true) (!l.yes&&l.yes) (bif l.yes then(7:Int)else l.why) [])==(0:Int))=false->eI.okL (eI.ag l.dl.drop)/\eD.okL (eD.ag l.dl.put)/\eV.okL (eV.ag l.dl.moves)))/\((l.yes&&decide (IntKind.i64.wrap ((↑(eN.ag l.ents).length:Int)+(↑m.ents.length:Int))>(1024:Int)))=false->(l.yes=true->((eN.ag l.ents).length<=(eN.ag l.ents).length/\(∀(e:Nat),e<m.ents.length->(eN.els m.ents e).all SV.one=true)/\(eN.ag l.ents).length+m.ents.length<=maxLen/\((eN.ag l.ents).length+m.ents.length)*Tryd.prog.types[(73:Nat)].bytes<=(140737488355328:Nat))/\eI.okL (eI.ag l.dl.drop)/\eD.okL (eD.ag l.dl.put)/\eV.okL (eV.ag l.dl.moves)/\(eBool.ag l.voted).length<=(eBool.ag l.voted).length/\True/\(∀(e:Nat),e<(eBool.ag l.voted).length->True)/\(eN.ag l.ents).length+m.ents.length<=(eN.ag l.ents).length+m.ents.length/\(∀(e:Nat),e<min ((eN.ag l.ents).length+m.ents.length) (eN.ag l.ents).length->True)/\(∀(e:Nat),e<(eN.ag l.ents).length+m.ents.length-(eN.ag l.ents).length->True)/\((chkL (Ld.mk l.workers l.stage l.ver l.cut (Dl.mk (eI.ag (eI.ag l.dl.drop)) (eD.ag (eD.ag l.dl.put)) (eV.ag (eV.ag l.dl.moves))) ((eBool.ag (eBool.ag l.voted)).set w.toNat true) l.yes l.why (eN.lst (min ((eN.ag l.ents).length+m.ents.length) (eN.ag l.ents).length) (eN.els (eN.ag l.ents))++eN.lst ((eN.ag l.ents).length+m.ents.length-(eN.ag l.ents).length) (eN.els m.ents)))==(0:Int))=true->((!l.stage==(1:Int)&&!l.stage==(3:Int))=true->eI.okL (eI.ag l.dl.drop)/\eD.okL (eD.ag l.dl.put)/\eV.okL (eV.ag l.dl.moves)/\(eN.ag l.ents).length+m.ents.length<=(eN.ag l.ents).length+m.ents.length/\(∀(e:Nat),e<min ((eN.ag l.ents).length+m.ents.length) (eN.ag l.ents).length->True)/\∀(e:Nat),e<(eN.ag l.ents).length+m.ents.length-(eN.ag l.ents).length->True)/\((!l.stage==(1:Int)&&!l.stage==(3:Int))=false->True/\(∀(e:Nat),e<(eBool.ag l.voted).length->True)/\Lp.ixJ wt_lim wt_xs wt_K (wtb_f ((eBool.ag l.voted).length,(eBool.ag (eBool.ag l.voted)).set w.toNat true,(),[],(↑(eBool.ag l.voted).length:Int),(0:Int)))/\(decide ((0:Int)<(↑(hrd_q2 l w m).snd.snd.snd.snd.fst.length:Int))=true->((0:Int)<=(0:Int)/\(0:Int)<(↑(hrd_q2 l w m).snd.snd.snd.snd.fst.length:Int))/\(0:Nat)<(hrd_q2 l w m).snd.snd.snd.snd.fst.length/\eI.okL (eI.ag l.dl.drop)/\eD.okL (eD.ag l.dl.put)/\eV.okL (eV.ag l.dl.moves)/\(eBool.ag l.voted).length<=(hrd_q2 l w m).snd.snd.fst.length/\(∀(e:Nat),e<(eBool.ag l.voted).length->True)/\(eN.ag l.ents).length+m.ents.length<=(eN.ag l.ents).length+m.ents.length/\(∀(e:Nat),e<min ((eN.ag l.ents).length+m.ents.length) (eN.ag l.ents).length->True)/\∀(e:Nat),e<(eN.ag l.ents).length+m.ents.length-(eN.ag l.ents).length->True)/\(decide ((0:Int)<(↑(hrd_q2 l w m).snd.snd.snd.snd.fst.length:Int))=false->eI.okL (eI.ag l.dl.drop)/\eD.okL (eD.ag l.dl.put)/\eV.okL (eV.ag l.dl.moves)/\(eN.ag l.ents).length+m.ents.length<=(eN.ag l.ents).length+m.ents.length/\(∀(e:Nat),e<min ((eN.ag l.ents).length+m.ents.length) (eN.ag l.ents).length->True)/\∀(e:Nat),e<(eN.ag l.ents).length+m.ents.length-(eN.ag l.ents).length->True)))/\((chkL (Ld.mk l.workers l.stage l.ver l.cut (Dl.mk (eI.ag (eI.ag l.dl.drop)) (eD.ag (eD.ag l.dl.put)) (eV.ag (eV.ag l.dl.moves))) ((eBool.ag (eBool.ag l.voted)).set w.toNat true) l.yes l.why (eN.lst (min ((eN.ag l.ents).length+m.ents.length) (eN.ag l.ents).length) (eN.els (eN.ag l.ents))++eN.lst ((eN.ag l.ents).length+m.ents.length-(eN.ag l.ents).length) (eN.els m.ents)))==(0:Int))=false->eI.okL (eI.ag l.dl.drop)/\eD.okL (eD.ag l.dl.put)/\eV.okL (eV.ag l.dl.moves)/\(eN.ag l.ents).length+m.ents.length<=(eN.ag l.ents).length+m.ents.length/\(∀(e:Nat),e<min ((eN.ag l.ents).length+m.ents.length) (eN.ag l.ents).length->True)/\∀(e:Nat),e<(eN.ag l.ents).length+m.ents.length-(eN.ag l.ents).length->True))/\(l.yes=false->eI.okL (eI.ag l.dl.drop)/\eD.okL (eD.ag l.dl.put)/\eV.okL (eV.ag l.dl.moves)/\(eBool.ag l.voted).length<=(eBool.ag l.voted).length/\True/\(∀(e:Nat),e<(eBool.ag l.voted).length->True)/\(eN.ag l.ents).length<=(eN.ag l.ents).length/\(∀(e:Nat),e<(eN.ag l.ents).length->True)/\((chkL (Ld.mk l.workers l.stage l.ver l.cut (Dl.mk (eI.ag (eI.ag l.dl.drop)) (eD.ag (eD.ag l.dl.put)) (eV.ag (eV.ag l.dl.moves))) ((eBool.ag (eBool.ag l.voted)).set w.toNat true) l.yes l.why (eN.ag (eN.ag l.ents)))==(0:Int))=true->((!l.stage==(1:Int)&&!l.stage==(3:Int))=true->eI.okL (eI.ag l.dl.drop)/\eD.okL (eD.ag l.dl.put)/\eV.okL (eV.ag l.dl.moves)/\(eN.ag l.ents).length<=(eN.ag l.ents).length/\∀(e:Nat),e<(eN.ag l.ents).length->True)/\((!l.stage==(1:Int)&&!l.stage==(3:Int))=false->True/\(∀(e:Nat),e<(eBool.ag l.voted).length->True)/\Lp.ixJ wt_lim wt_xs wt_K (wta_f ((eBool.ag l.voted).length,(eBool.ag (eBool.ag l.voted)).set w.toNat true,(),[],(↑(eBool.ag l.voted).length:Int),(0:Int)))/\(decide ((0:Int)<(↑(hrd_q3 l w m).snd.snd.snd.snd.fst.length:Int))=true->((0:Int)<=(0:Int)/\(0:Int)<(↑(hrd_q3 l w m).snd.snd.snd.snd.fst.length:Int))/\(0:Nat)<(hrd_q3 l w m).snd.snd.snd.snd.fst.length/\eI.okL (eI.ag l.dl.drop)/\eD.okL (eD.ag l.dl.put)/\eV.okL (eV.ag l.dl.moves)/\(eBool.ag l.voted).length<=(hrd_q3 l w m).snd.snd.fst.length/\(∀(e:Nat),e<(eBool.ag l.voted).length->True)/\(eN.ag l.ents).length<=(eN.ag l.ents).length/\∀(e:Nat),e<(eN.ag l.ents).length->True)/\(decide ((0:Int)<(↑(hrd_q3 l w m).snd.snd.snd.snd.fst.length:Int))=false->eI.okL (eI.ag l.dl.drop)/\eD.okL (eD.ag l.dl.put)/\eV.okL (eV.ag l.dl.moves)/\(eN.ag l.ents).length<=(eN.ag l.ents).length/\∀(e:Nat),e<(eN.ag l.ents).length->True)))/\((chkL (Ld.mk l.workers l.stage l.ver l.cut (Dl.mk (eI.ag (eI.ag l.dl.drop)) (eD.ag (eD.ag l.dl.put)) (eV.ag (eV.ag l.dl.moves))) ((eBool.ag (eBool.ag l.voted)).set w.toNat true) l.yes l.why (eN.ag (eN.ag l.ents)))==(0:Int))=false->eI.okL (eI.ag l.dl.drop)/\eD.okL (eD.ag l.dl.put)/\eV.okL (eV.ag l.dl.moves)/\(eN.ag l.ents).length<=(eN.ag l.ents).length/\∀(e:Nat),e<(eN.ag l.ents).length->True)))))
theorem hrd_okS(pre:DA.T aLIM->List Prop)(h:∀g,DA.bd aLIM g->(∀p∈pre g,p)->hrd_side g.1 g.2.1 g.2.2):FnPure Tryd.prog 26 aLIM (Rv.D rLE) (λg=>hrd_F g.1 g.2.1 g.2.2) pre:=res_of_side (R:=rLE) (Γ:=(MTab.gamz tabQ5 [] [(48,1,2)])) (Λ:=lamQ9) (MTab.okz tabQ5 [] [(48,1,2)]) lamQ9_ok 100 default (λg=>hrd_side g.1 g.2.1 g.2.2) (λg=>by kernel_rfl) (λg=>by kernel_rfl) h
end Go.Proofs.YtfkdbifgppfegaaDoor

namespace Go.Proofs.YtfkdbifgppfegaaDoor
open Go.RowKit Go.Sx
set_option maxRecDepth 100000
noncomputable def rhd_F(l:Ld)(w:Int)(m:Ms):Rv.T rLE:=
 bif chkL (Ld.mk l.workers l.stage l.ver l.cut (Dl.mk (eI.ag l.dl.drop) (eD.ag l.dl.put) (eV.ag l.dl.moves)) (eBool.ag l.voted) l.yes l.why (eN.ag l.ents))!=(0:Int)then(Ld.mk l.workers l.stage l.ver l.cut (Dl.mk (eI.ag l.dl.drop) (eD.ag l.dl.put) (eV.ag l.dl.moves)) (eBool.ag l.voted) l.yes l.why (eN.ag l.ents),chkL (Ld.mk l.workers l.stage l.ver l.cut (Dl.mk (eI.ag l.dl.drop) (eD.ag l.dl.put) (eV.ag l.dl.moves)) (eBool.ag l.voted) l.yes l.why (eN.ag l.ents)))
 else bif decide (w<(0:Int))||decide (w>=l.workers)then(Ld.mk l.workers l.stage l.ver l.cut (Dl.mk (eI.ag l.dl.drop) (eD.ag l.dl.put) (eV.ag l.dl.moves)) (eBool.ag l.voted) l.yes l.why (eN.ag l.ents),(1:Int))else bif !(l.stage==(1:Int)||l.stage==(3:Int))then(Ld.mk l.workers l.stage l.ver l.cut (Dl.mk (eI.ag l.dl.drop) (eD.ag l.dl.put) (eV.ag l.dl.moves)) (eBool.ag l.voted) l.yes l.why (eN.ag l.ents),(212:Int))else bif mck_F (Ms.mk m.kind m.ver m.p m.t (eR.ag m.recs) (eC.ag m.changes) (Dl.mk (eI.ag m.dl.drop) (eD.ag m.dl.put) (eV.ag m.dl.moves)) m.cut (eN.ag m.ents) m.yes m.why)!=(0:Int)then(Ld.mk l.workers l.stage l.ver l.cut (Dl.mk (eI.ag l.dl.drop) (eD.ag l.dl.put) (eV.ag l.dl.moves)) (eBool.ag l.voted) l.yes l.why (eN.ag l.ents),mck_F (Ms.mk m.kind m.ver m.p m.t (eR.ag m.recs) (eC.ag m.changes) (Dl.mk (eI.ag m.dl.drop) (eD.ag m.dl.put) (eV.ag m.dl.moves)) m.cut (eN.ag m.ents) m.yes m.why))else bif m.kind !=(6:Int)||(m.ver !=l.ver||decide ((↑m.ents.length:Int)>(0:Int))&&l.stage==(1:Int))then(Ld.mk l.workers l.stage l.ver l.cut (Dl.mk (eI.ag l.dl.drop) (eD.ag l.dl.put) (eV.ag l.dl.moves)) (eBool.ag l.voted) l.yes l.why (eN.ag l.ents),(130:Int))else bif l.voted.getD w.toNat eBool.dflt then(Ld.mk l.workers l.stage l.ver l.cut (Dl.mk (eI.ag l.dl.drop) (eD.ag l.dl.put) (eV.ag l.dl.moves)) (eBool.ag l.voted) l.yes l.why (eN.ag l.ents),(5:Int))else bif !m.yes then bif !hasB ((List.map (λx=>eBool.get []) (List.range (min ((0:Nat)+l.voted.length) (0:Nat)))++eBool.lst ((0:Nat)+l.voted.length-(0:Nat)) (eBool.els l.voted)).set w.toNat true) false then(Ld.mk l.workers (4:Int) l.ver l.cut (Dl.mk (eI.ag (eI.ag l.dl.drop)) (eD.ag (eD.ag l.dl.put)) (eV.ag (eV.ag l.dl.moves))) [] false (bif l.yes then m.why else l.why) [],(0:Int))else(Ld.mk l.workers l.stage l.ver l.cut (Dl.mk (eI.ag (eI.ag l.dl.drop)) (eD.ag (eD.ag l.dl.put)) (eV.ag (eV.ag l.dl.moves))) ((List.map (λx=>eBool.get []) (List.range (min ((0:Nat)+l.voted.length) (0:Nat)))++eBool.lst ((0:Nat)+l.voted.length-(0:Nat)) (eBool.els l.voted)).set w.toNat true) false (bif l.yes then m.why else l.why) [],(0:Int))else bif l.yes then bif decide ((↑((0:Nat)+l.ents.length+m.ents.length):Int)>(1024:Int))then bif !hasB ((List.map (λx=>eBool.get []) (List.range (min ((0:Nat)+l.voted.length) (0:Nat)))++eBool.lst ((0:Nat)+l.voted.length-(0:Nat)) (eBool.els l.voted)).set w.toNat true) false then(Ld.mk l.workers (4:Int) l.ver l.cut (Dl.mk (eI.ag (eI.ag l.dl.drop)) (eD.ag (eD.ag l.dl.put)) (eV.ag (eV.ag l.dl.moves))) [] false (bif l.yes then(7:Int)else l.why) [],(0:Int))else(Ld.mk l.workers l.stage l.ver l.cut (Dl.mk (eI.ag (eI.ag l.dl.drop)) (eD.ag (eD.ag l.dl.put)) (eV.ag (eV.ag l.dl.moves))) ((List.map (λx=>eBool.get []) (List.range (min ((0:Nat)+l.voted.length) (0:Nat)))++eBool.lst ((0:Nat)+l.voted.length-(0:Nat)) (eBool.els l.voted)).set w.toNat true) false (bif l.yes then(7:Int)else l.why) [],(0:Int))else bif !hasB ((List.map (λx=>eBool.get []) (List.range (min ((0:Nat)+l.voted.length) (0:Nat)))++eBool.lst ((0:Nat)+l.voted.length-(0:Nat)) (eBool.els l.voted)).set w.toNat true) false then(Ld.mk l.workers (bif l.stage==(1:Int)&&l.yes then(2:Int)else(4:Int)) l.ver l.cut (Dl.mk (eI.ag (eI.ag l.dl.drop)) (eD.ag (eD.ag l.dl.put)) (eV.ag (eV.ag l.dl.moves))) [] l.yes l.why (List.map (λx=>eN.get []) (List.range (min (min ((0:Nat)+l.ents.length+m.ents.length) ((0:Nat)+l.ents.length)) (0:Nat)))++eN.lst (min ((0:Nat)+l.ents.length+m.ents.length) ((0:Nat)+l.ents.length)-(0:Nat)) (eN.els l.ents)++eN.lst ((0:Nat)+l.ents.length+m.ents.length-((0:Nat)+l.ents.length)) (eN.els m.ents)),(0:Int))else(Ld.mk l.workers l.stage l.ver l.cut (Dl.mk (eI.ag (eI.ag l.dl.drop)) (eD.ag (eD.ag l.dl.put)) (eV.ag (eV.ag l.dl.moves))) ((List.map (λx=>eBool.get []) (List.range (min ((0:Nat)+l.voted.length) (0:Nat)))++eBool.lst ((0:Nat)+l.voted.length-(0:Nat)) (eBool.els l.voted)).set w.toNat true) l.yes l.why (List.map (λx=>eN.get []) (List.range (min (min ((0:Nat)+l.ents.length+m.ents.length) ((0:Nat)+l.ents.length)) (0:Nat)))++eN.lst (min ((0:Nat)+l.ents.length+m.ents.length) ((0:Nat)+l.ents.length)-(0:Nat)) (eN.els l.ents)++eN.lst ((0:Nat)+l.ents.length+m.ents.length-((0:Nat)+l.ents.length)) (eN.els m.ents)),(0:Int))else bif !hasB ((List.map (λx=>eBool.get []) (List.range (min ((0:Nat)+l.voted.length) (0:Nat)))++eBool.lst ((0:Nat)+l.voted.length-(0:Nat)) (eBool.els l.voted)).set w.toNat true) false then(Ld.mk l.workers (bif l.stage==(1:Int)&&l.yes then(2:Int)else(4:Int)) l.ver l.cut (Dl.mk (eI.ag (eI.ag l.dl.drop)) (eD.ag (eD.ag l.dl.put)) (eV.ag (eV.ag l.dl.moves))) [] l.yes l.why (List.map (λx=>eN.get []) (List.range (min ((0:Nat)+l.ents.length) (0:Nat)))++eN.lst ((0:Nat)+l.ents.length-(0:Nat)) (eN.els l.ents)),(0:Int))else(Ld.mk l.workers l.stage l.ver l.cut (Dl.mk (eI.ag (eI.ag l.dl.drop)) (eD.ag (eD.ag l.dl.put)) (eV.ag (eV.ag l.dl.moves))) ((List.map (λx=>eBool.get []) (List.range (min ((0:Nat)+l.voted.length) (0:Nat)))++eBool.lst ((0:Nat)+l.voted.length-(0:Nat)) (eBool.els l.voted)).set w.toNat true) l.yes l.why (List.map (λx=>eN.get []) (List.range (min ((0:Nat)+l.ents.length) (0:Nat)))++eN.lst ((0:Nat)+l.ents.length-(0:Nat)) (eN.els l.ents)),(0:Int))
def rhd_side(l:Ld)(w:Int)(m:Ms):Prop:=
 eI.okL l.dl.drop/\eD.okL l.dl.put/\eV.okL l.dl.moves/\eBool.okL l.voted/\eN.okL l.ents/\((chkL (Ld.mk l.workers l.stage l.ver l.cut (Dl.mk (eI.ag l.dl.drop) (eD.ag l.dl.put) (eV.ag l.dl.moves)) (eBool.ag l.voted) l.yes l.why (eN.ag l.ents))!=(0:Int))=true->eI.okL l.dl.drop/\eD.okL l.dl.put/\eV.okL l.dl.moves/\eBool.okL l.voted/\eN.okL l.ents)/\((chkL (Ld.mk l.workers l.stage l.ver l.cut (Dl.mk (eI.ag l.dl.drop) (eD.ag l.dl.put) (eV.ag l.dl.moves)) (eBool.ag l.voted) l.yes l.why (eN.ag l.ents))!=(0:Int))=false->((decide (w<(0:Int))||decide (w>=l.workers))=true->eI.okL l.dl.drop/\eD.okL l.dl.put/\eV.okL l.dl.moves/\eBool.okL l.voted/\eN.okL l.ents)/\((decide (w<(0:Int))||decide (w>=l.workers))=false->((!(l.stage==(1:Int)||l.stage==(3:Int)))=true->eI.okL l.dl.drop/\eD.okL l.dl.put/\eV.okL l.dl.moves/\eBool.okL l.voted/\eN.okL l.ents)/\((!(l.stage==(1:Int)||l.stage==(3:Int)))=false->eR.okL m.recs/\eC.okL m.changes/\eI.okL m.dl.drop/\eD.okL m.dl.put/\eV.okL m.dl.moves/\eN.okL m.ents/\((mck_F (Ms.mk m.kind m.ver m.p m.t (eR.ag m.recs) (eC.ag m.changes) (Dl.mk (eI.ag m.dl.drop) (eD.ag m.dl.put) (eV.ag m.dl.moves)) m.cut (eN.ag m.ents) m.yes m.why)!=(0:Int))=true->eI.okL l.dl.drop/\eD.okL l.dl.put/\eV.okL l.dl.moves/\eBool.okL l.voted/\eN.okL l.ents)/\((mck_F (Ms.mk m.kind m.ver m.p m.t (eR.ag m.recs) (eC.ag m.changes) (Dl.mk (eI.ag m.dl.drop) (eD.ag m.dl.put) (eV.ag m.dl.moves)) m.cut (eN.ag m.ents) m.yes m.why)!=(0:Int))=false->((m.kind !=(6:Int)||(m.ver !=l.ver||decide ((↑m.ents.length:Int)>(0:Int))&&l.stage==(1:Int)))=true->eI.okL l.dl.drop/\eD.okL l.dl.put/\eV.okL l.dl.moves/\eBool.okL l.voted/\eN.okL l.ents)/\((m.kind !=(6:Int)||(m.ver !=l.ver||decide ((↑m.ents.length:Int)>(0:Int))&&l.stage==(1:Int)))=false->((0:Int)<=w/\w<(↑l.voted.length:Int))/\(l.voted.getD w.toNat eBool.dflt=true->eI.okL l.dl.drop/\eD.okL l.dl.put/\eV.okL l.dl.moves/\eBool.okL l.voted/\eN.okL l.ents)/\(l.voted.getD w.toNat eBool.dflt=false->(True/\(∀(e:Nat),e<l.voted.length->(eBool.els l.voted e).all SV.one=true)/\(0:Nat)+l.voted.length<=maxLen/\((0:Nat)+l.voted.length)*Tryd.prog.types[(4:Nat)].bytes<=(140737488355328:Nat))/\(True/\(∀(e:Nat),e<l.ents.length->(eN.els l.ents e).all SV.one=true)/\(0:Nat)+l.ents.length<=maxLen/\((0:Nat)+l.ents.length)*Tryd.prog.types[(73:Nat)].bytes<=(140737488355328:Nat))/\eI.okL l.dl.drop/\eD.okL l.dl.put/\eV.okL l.dl.moves/\fewM (Ms.mk (0:Int) (0:Int) (Place.mk (0:Int) (0:Int)) (T.mk (0:Int) (0:Int) (0:Int) (0:Int) (0:Int) (0:Int)) [] [] (Dl.mk (eI.ag l.dl.drop) (eD.ag l.dl.put) (eV.ag l.dl.moves)) (0:Int) [] false (0:Int))/\((0:Int)<=w/\w<(↑((0:Nat)+l.voted.length):Int))/\w.toNat<(0:Nat)+l.voted.length/\((!m.yes)=true->(0:Nat)+l.voted.length<=(0:Nat)+l.voted.length/\True/\(∀(e:Nat),e<min ((0:Nat)+l.voted.length) (0:Nat)->eBool.OkP [])/\(∀(e:Nat),e<(0:Nat)+l.voted.length-(0:Nat)->True)/\((!hasB ((List.map (λx=>eBool.get []) (List.range (min ((0:Nat)+l.voted.length) (0:Nat)))++eBool.lst ((0:Nat)+l.voted.length-(0:Nat)) (eBool.els l.voted)).set w.toNat true) false)=true->eI.okL (eI.ag l.dl.drop)/\eD.okL (eD.ag l.dl.put)/\eV.okL (eV.ag l.dl.moves))/\((!hasB ((List.map (λx=>eBool.get []) (List.range (min ((0:Nat)+l.voted.length) (0:Nat)))++eBool.lst ((0:Nat)+l.voted.length-(0:Nat)) (eBool.els l.voted)).set w.toNat true) false)=false->eI.okL (eI.ag l.dl.drop)/\eD.okL (eD.ag l.dl.put)/\eV.okL (eV.ag l.dl.moves)/\(0:Nat)+l.voted.length<=(0:Nat)+l.voted.length/\True/\(∀(e:Nat),e<min ((0:Nat)+l.voted.length) (0:Nat)->eBool.OkP [])/\∀(e:Nat),e<(0:Nat)+l.voted.length-(0:Nat)->True))/\((!m.yes)=false->(l.yes=true->((0:Nat)+l.ents.length<=(0:Nat)+l.ents.length/\(∀(e:Nat),e<m.ents.length->(eN.els m.ents e).all SV.one=true)/\(0:Nat)+l.ents.length+m.ents.length<=maxLen/\((0:Nat)+l.ents.length+m.ents.length)*Tryd.prog.types[(73:Nat)].bytes<=(140737488355328:Nat))/\(decide ((↑((0:Nat)+l.ents.length+m.ents.length):Int)>(1024:Int))=true->(0:Nat)+l.voted.length<=(0:Nat)+l.voted.length/\True/\(∀(e:Nat),e<min ((0:Nat)+l.voted.length) (0:Nat)->eBool.OkP [])/\(∀(e:Nat),e<(0:Nat)+l.voted.length-(0:Nat)->True)/\((!hasB ((List.map (λx=>eBool.get []) (List.range (min ((0:Nat)+l.voted.length) (0:Nat)))++eBool.lst ((0:Nat)+l.voted.length-(0:Nat)) (eBool.els l.voted)).set w.toNat true) false)=true->eI.okL (eI.ag l.dl.drop)/\eD.okL (eD.ag l.dl.put)/\eV.okL (eV.ag l.dl.moves))/\((!hasB ((List.map (λx=>eBool.get []) (List.range (min ((0:Nat)+l.voted.length) (0:Nat)))++eBool.lst ((0:Nat)+l.voted.length-(0:Nat)) (eBool.els l.voted)).set w.toNat true) false)=false->eI.okL (eI.ag l.dl.drop)/\eD.okL (eD.ag l.dl.put)/\eV.okL (eV.ag l.dl.moves)/\(0:Nat)+l.voted.length<=(0:Nat)+l.voted.length/\True/\(∀(e:Nat),e<min ((0:Nat)+l.voted.length) (0:Nat)->eBool.OkP [])/\∀(e:Nat),e<(0:Nat)+l.voted.length-(0:Nat)->True))/\(decide ((↑((0:Nat)+l.ents.length+m.ents.length):Int)>(1024:Int))=false->(0:Nat)+l.voted.length<=(0:Nat)+l.voted.length/\True/\(∀(e:Nat),e<min ((0:Nat)+l.voted.length) (0:Nat)->eBool.OkP [])/\(∀(e:Nat),e<(0:Nat)+l.voted.length-(0:Nat)->True)/\((!hasB ((List.map (λx=>eBool.get []) (List.range (min ((0:Nat)+l.voted.length) (0:Nat)))++eBool.lst ((0:Nat)+l.voted.length-(0:Nat)) (eBool.els l.voted)).set w.toNat true) false)=true->eI.okL (eI.ag l.dl.drop)/\eD.okL (eD.ag l.dl.put)/\eV.okL (eV.ag l.dl.moves)/\(0:Nat)+l.ents.length+m.ents.length<=(0:Nat)+l.ents.length+m.ents.length/\(∀(e:Nat),e<min (min ((0:Nat)+l.ents.length+m.ents.length) ((0:Nat)+l.ents.length)) (0:Nat)->eN.OkP [])/\(∀(e:Nat),e<min ((0:Nat)+l.ents.length+m.ents.length) ((0:Nat)+l.ents.length)-(0:Nat)->True)/\∀(e:Nat),e<(0:Nat)+l.ents.length+m.ents.length-((0:Nat)+l.ents.length)->True)/\((!hasB ((List.map (λx=>eBool.get []) (List.range (min ((0:Nat)+l.voted.length) (0:Nat)))++eBool.lst ((0:Nat)+l.voted.length-(0:Nat)) (eBool.els l.voted)).set w.toNat true) false)=false->eI.okL (eI.ag l.dl.drop)/\eD.okL (eD.ag l.dl.put)/\eV.okL (eV.ag l.dl.moves)/\(0:Nat)+l.voted.length<=(0:Nat)+l.voted.length/\True/\(∀(e:Nat),e<min ((0:Nat)+l.voted.length) (0:Nat)->eBool.OkP [])/\(∀(e:Nat),e<(0:Nat)+l.voted.length-(0:Nat)->True)/\(0:Nat)+l.ents.length+m.ents.length<=(0:Nat)+l.ents.length+m.ents.length/\(∀(e:Nat),e<min (min ((0:Nat)+l.ents.length+m.ents.length) ((0:Nat)+l.ents.length)) (0:Nat)->eN.OkP [])/\(∀(e:Nat),e<min ((0:Nat)+l.ents.length+m.ents.length) ((0:Nat)+l.ents.length)-(0:Nat)->True)/\∀(e:Nat),e<(0:Nat)+l.ents.length+m.ents.length-((0:Nat)+l.ents.length)->True)))/\(l.yes=false->(0:Nat)+l.voted.length<=(0:Nat)+l.voted.length/\True/\(∀(e:Nat),e<min ((0:Nat)+l.voted.length) (0:Nat)->eBool.OkP [])/\(∀(e:Nat),e<(0:Nat)+l.voted.length-(0:Nat)->True)/\((!hasB ((List.map (λx=>eBool.get []) (List.range (min ((0:Nat)+l.voted.length) (0:Nat)))++eBool.lst ((0:Nat)+l.voted.length-(0:Nat)) (eBool.els l.voted)).set w.toNat true) false)=true->eI.okL (eI.ag l.dl.drop)/\eD.okL (eD.ag l.dl.put)/\eV.okL (eV.ag l.dl.moves)/\(0:Nat)+l.ents.length<=(0:Nat)+l.ents.length/\(∀(e:Nat),e<min ((0:Nat)+l.ents.length) (0:Nat)->eN.OkP [])/\∀(e:Nat),e<(0:Nat)+l.ents.length-(0:Nat)->True)/\((!hasB ((List.map (λx=>eBool.get []) (List.range (min ((0:Nat)+l.voted.length) (0:Nat)))++eBool.lst ((0:Nat)+l.voted.length-(0:Nat)) (eBool.els l.voted)).set w.toNat true) false)=false->eI.okL (eI.ag l.dl.drop)/\eD.okL (eD.ag l.dl.put)/\eV.okL (eV.ag l.dl.moves)/\(0:Nat)+l.voted.length<=(0:Nat)+l.voted.length/\True/\(∀(e:Nat),e<min ((0:Nat)+l.voted.length) (0:Nat)->eBool.OkP [])/\(∀(e:Nat),e<(0:Nat)+l.voted.length-(0:Nat)->True)/\(0:Nat)+l.ents.length<=(0:Nat)+l.ents.length/\(∀(e:Nat),e<min ((0:Nat)+l.ents.length) (0:Nat)->eN.OkP [])/\∀(e:Nat),e<(0:Nat)+l.ents.length-(0:Nat)->True)))))))))
theorem rhd_okS(pre:DA.T aLIM->List Prop)(h:∀g,DA.bd aLIM g->(∀p∈pre g,p)->rhd_side g.1 g.2.1 g.2.2):FnPure Tryd.prog 41 aLIM (Rv.D rLE) (λg=>rhd_F g.1 g.2.1 g.2.2) pre:=res_of_side (R:=rLE) (Γ:=(MTab.gamz tabQ5 [] [])) (Λ:=noΛ) (MTab.okz tabQ5 [] []) noΛ_ok 100 default (λg=>rhd_side g.1 g.2.1 g.2.2) (λg=>by kernel_rfl) (λg=>by kernel_rfl) h
end Go.Proofs.YtfkdbifgppfegaaDoor

namespace Go.Proofs.YtfkdbifgppfegaaDoor
open Go.RowKit Go.Sx Go.Lp
set_option maxRecDepth 100000
def finS(l:Ld)(v:List Bool)(y:Bool)(why:Int)(es:List Ent):Ld×Int:=bif hasB v false then(⟨l.workers,l.stage,l.ver,l.cut,l.dl,v,y,why,es⟩,0)else(⟨l.workers,bif l.stage==1&&y then 2 else 4,l.ver,l.cut,l.dl,[],y,why,es⟩,0)
noncomputable def heaS(l:Ld)(w:Int)(m:Ms):Ld×Int:=bif heaE l w m !=0 then(l,heaE l w m)else bif !m.yes then finS l (l.voted.set w.toNat true) false (bif l.yes then m.why else l.why) []else bif l.yes then(bif decide (((l.ents.length+m.ents.length:Nat):Int)>1024)then finS l (l.voted.set w.toNat true) false 7 []else finS l (l.voted.set w.toNat true) l.yes l.why (l.ents++m.ents))else finS l (l.voted.set w.toNat true) l.yes l.why l.ents
theorem idx_pos:∀(v:List Bool)(k:Int),decide ((0:Int)<((idxF k v).length:Int))=hasB v false
 | [],_=>rfl
 |a::v,k=>by
  rw[hasB_cons];cases a with
  |true=>
   show decide ((0:Int)<((idxF (k+1) v).length:Int))=_;rw[idx_pos v];rfl
  |false=>
   show decide ((0:Int)<((k::idxF (k+1) v).length:Int))=_;rw[decide_eq_true (by simp only[List.length_cons];omega)];rfl
structure HeaK(l:Ld)(w:Int)(m:Ms):Prop where
 c:(chkL l !=0)=false
 w0:0<=w
 w1:w<l.workers
 s:(!l.stage==1&&!l.stage==3)=false
 mm:mck_F m=0
 k:m.kind=6
 v:m.ver=l.ver
 e:(decide ((m.ents.length:Int)>0)&&l.stage==1)=false
 n:l.voted.getD w.toNat false=false
theorem heaK{l:Ld}{w:Int}{m:Ms}(h:(heaE l w m !=0)=false):HeaK l w m:=by
 have h:heaE l w m=0:=by simpa using h
 unfold heaE at h;cases h1:(chkL l !=0)with
 |true=>rw[h1,cond_true]at h;rw[h]at h1;simp at h1
 |false=>
  rw[h1,cond_false]at h;cases h2:(decide (w<0)||decide (w>=l.workers))with
  |true=>rw[h2]at h;cases h
  |false=>
   rw[h2,cond_false]at h;cases h3:(!l.stage==1&&!l.stage==3)with
   |true=>rw[h3]at h;cases h
   |false=>
    rw[h3,cond_false]at h;cases h4:(mck_F m !=0)with
    |true=>rw[h4,cond_true]at h;rw[h]at h4;simp at h4
    |false=>
     rw[h4,cond_false]at h;cases h5:(m.kind !=6||(m.ver !=l.ver||decide ((m.ents.length:Int)>0)&&l.stage==1))with
     |true=>rw[h5]at h;cases h
     |false=>
      rw[h5,cond_false]at h;cases h6:l.voted.getD w.toNat false with
      |true=>rw[h6]at h;cases h
      |false=>
       simp only[Bool.or_eq_false_iff,decide_eq_false_iff_not]at h2;simp only[Bool.or_eq_false_iff,bne_eq_false_iff_eq]at h5;exact⟨h1,by omega,by omega,h3,by simpa using h4,h5.1,h5.2.1,h5.2.2,h6⟩
theorem hea_at{l:Ld}{w:Int}{m:Ms}(h:HeaK l w m):w.toNat<l.voted.length:=by
 have h5:=(chk_ask h.c h.s).2.2.2.2.1;have:=h.w0;have:=h.w1;omega
theorem mck_why{m:Ms}(h:mck_F m=0)(hk:m.kind=6):((m.why==0)==m.yes)=true:=by
 unfold mck_F at h;rw[hk]at h;simp only[show((6:Int)==1)=false from rfl,show((6:Int)==2)=false from rfl,show((6:Int)==3)=false from rfl,show((6:Int)==4)=false from rfl,show((6:Int)==5)=false from rfl,show((6:Int)==6)=true from rfl,cond_false,Bool.true_and]at h;cases hz:((m.why==0)==m.yes)with
 |true=>rfl
 |false=>rw[hz]at h;cases h
theorem way_F{l:Ld}{w:Int}{m:Ms}(h:HeaK l w m){y:Bool}{why:Int}{es:List Ent}(hcc:((why==0)==y)=true)(h1:(es.length:Int)<=1024)(h0:((es.length:Int)==0||(y&&l.stage==3))=true)(A B:Ld×Int):(bif chkL ⟨l.workers,l.stage,l.ver,l.cut,l.dl,l.voted.set w.toNat true,y,why,es⟩==0 then(bif !l.stage==1&&!l.stage==3 then A else bif decide ((0:Int)<((idxF 0 (l.voted.set w.toNat true)).length:Int))then B else A)else A)=bif hasB (l.voted.set w.toNat true) false then B else A:=by
 rw[chk_x h.c h.s (by rw[List.length_set]) hcc h1 h0,h.s,cond_false,idx_pos];cases hasB (l.voted.set w.toNat true) false<;>rfl
theorem hq_(l:Ld)(w:Int)(m:Ms)(hx:l.voted.length<=KS):hrd_q1 l w m=(.exit 0,(l.voted.set w.toNat true).length,l.voted.set w.toNat true,(),idxF 0 (l.voted.set w.toNat true),((l.voted.set w.toNat true).length:Int),((l.voted.set w.toNat true).length:Int))/\hrd_q2 l w m=(.exit 0,(l.voted.set w.toNat true).length,l.voted.set w.toNat true,(),idxF 0 (l.voted.set w.toNat true),((l.voted.set w.toNat true).length:Int),((l.voted.set w.toNat true).length:Int))/\hrd_q3 l w m=(.exit 0,(l.voted.set w.toNat true).length,l.voted.set w.toNat true,(),idxF 0 (l.voted.set w.toNat true),((l.voted.set w.toNat true).length:Int),((l.voted.set w.toNat true).length:Int)):=by
 have hl:(l.voted.set w.toNat true).length=l.voted.length:=List.length_set;have hx':(l.voted.set w.toNat true).length<=KS:=by rw[hl];exact hx
 have a:=wta_run _ hx';have b:=wtb_run _ hx';have c:=wtc_run _ hx';refine⟨?_,?_,?_⟩
 .unfold hrd_q1;simp only[El.ag_eq,<-hl];exact c
 .unfold hrd_q2;simp only[El.ag_eq,<-hl];exact b
 .unfold hrd_q3;simp only[El.ag_eq,<-hl];exact a
theorem sums{a b:Nat}(ha:(a:Int)<=1024)(hb:b<=KS):IntKind.i64.wrap ((a:Int)+(b:Int))=((a+b:Nat):Int):=by
 unfold KS at hb;have e:IntKind.i64.wrap ((a:Int)+(b:Int))=(a:Int)+(b:Int):=Lp.wr (n:=(a:Int)+b) (by omega);rw[e];omega
theorem ents_app(xs ys:List Ent):eN.lst (min (xs.length+ys.length) xs.length) (eN.els xs)++eN.lst (xs.length+ys.length-xs.length) (eN.els ys)=xs++ys:=by
 rw[Nat.min_eq_right (Nat.le_add_right _ _),Nat.add_sub_cancel_left,eN.lst_els,eN.lst_els]
theorem vset(xs:List Bool)(k:Nat):eBool.lst xs.length (eBool.els (xs.set k true))=xs.set k true:=by
 have h:=eBool.lst_els (xs.set k true)
 rwa [List.length_set]at h
theorem app_len(xs ys:List Ent):eN.lst (xs.length+ys.length) (eN.els (xs++ys))=xs++ys:=by
 have h:=eN.lst_els (xs++ys)
 rwa [List.length_append]at h
theorem why_no{l:Ld}{w:Int}{m:Ms}(k:HeaK l w m)(h:m.yes=false):(((bif l.yes then m.why else l.why)==0)==false)=true:=by
 cases hy:l.yes with
 |true=>have:=mck_why k.mm k.k;rw[h]at this;exact this
 |false=>
  have:=(chk_ask k.c k.s).2.1;unfold ccB at this;rw[hy]at this;simp only[Bool.and_eq_true]at this;exact this.2
theorem hrd_eq(l:Ld)(w:Int)(m:Ms)(hx:l.voted.length<=KS)(hm:m.ents.length<=KS):hrd_F l w m=heaS l w m:=by
 obtain⟨q1,q2,q3⟩:=hq_ l w m hx;unfold hrd_F heaS;simp only[El.ag_eq,ld_eta,ms_eta,q1,q2,q3,ents_app,vset,app_len,Bool.not_and_self];cases h:(heaE l w m !=0)with
 |true=>rfl
 |false=>
  have k:=heaK h;obtain⟨k1,k2,k3,k4,k5,k6⟩:=chk_ask k.c k.s;simp only[cond_false];cases hy:m.yes with
  |false=>
   simp only[Bool.not_false,cond_true];rw[way_F k (why_no k hy) (by simp) rfl];rfl
  |true=>
   simp only[Bool.not_true,cond_false];rw[sums k3 hm];unfold ccB at k2;simp only[Bool.and_eq_true]at k2;cases hl:l.yes with
   |false=>
    rw[hl]at k2 k4;simp only[Bool.false_and,cond_false];rw[way_F k k2.2 k3 k4];rfl
   |true=>
    rw[hl]at k2 k4;simp only[Bool.true_and,cond_true];cases hg:decide (((l.ents.length+m.ents.length:Nat):Int)>1024)with
    |true=>
     simp only[cond_true];rw[way_F k (y:=false) (why:=7) (es:=[]) rfl (by simp) rfl];rfl
    |false=>
     simp only[cond_false];have hg:¬((l.ents.length+m.ents.length:Nat):Int)>1024:=of_decide_eq_false hg
     rw[way_F k (y:=true) (why:=l.why) (es:=l.ents++m.ents) k2.2 (by rw[List.length_append];omega) (by
      rcases st_13 k.s with e|e
      .rw[e]at k4;have he:=k.e;rw[e]at he;have h1:l.ents.length=0:=by simpa using k4
       have h2:m.ents.length=0:=by simpa using he
       rw[List.length_append,h1,h2];rfl
      .rw[e];simp)]
     rfl
end Go.Proofs.YtfkdbifgppfegaaDoor

namespace Go.Proofs.YtfkdbifgppfegaaDoor
open Go.RowKit Go.Sx Go.Lp
set_option maxRecDepth 100000
theorem wt0(v:List Bool)(n:Nat)(hx:v.length<=KS)(h:n=v.length)(f:Int×wtC×wtB)(hf:f=(0,(v,(n:Int),n),([],()))):ixJ wt_lim wt_xs wt_K f:=by
 rw[hf,h];exact ixJ0 rfl (Nat.le_trans hx (by decide)) ⟨Int.le_refl _,hx,rfl⟩
theorem hrd_si(l:Ld)(w:Int)(m:Ms)(hL:fewL l)(hm:m.ents.length<=KS):hrd_side l w m:=by
 obtain⟨hd,hx,he⟩:=hL;obtain⟨q1,q2,q3⟩:=hq_ l w m hx;unfold hrd_side;simp only[El.okL_eq,El.ag_eq,ld_eta,ms_eta,q1,q2,q3,ents_app,vset,app_len,implies_true,true_and,and_true,Nat.le_refl,List.length_set,byN,El.one_els];intro h;have k:=heaK h;obtain⟨k1,k2,k3,k4,k5,k6⟩:=chk_ask k.c k.s;have ha:=hea_at k;have hw:=k.w0;have hj:∀f:Int×wtC×wtB,f=(0,(l.voted.set w.toNat true,(l.voted.length:Int),l.voted.length),([],()))->ixJ wt_lim wt_xs wt_K f:=wt0 _ _ (by rw[List.length_set];exact hx) (by rw[List.length_set])
 have hp:∀n:Nat,decide ((0:Int)<(n:Int))=true->((0:Int)<=0/\(0:Int)<(n:Int))/\0<n:=λn h=>by
  have:=of_decide_eq_true h;omega
 have hk:l.ents.length+m.ents.length<=maxLen/\(l.ents.length+m.ents.length)*40<=140737488355328:=by
  unfold KS at hm;unfold maxLen;omega
 exact⟨⟨hd,hx,he⟩,⟨hw,by have:=k.w1;omega⟩,ha,λ_ _ _=>⟨hj _ rfl,hp _⟩,λ_=>⟨λ_ _ _=>⟨hj _ rfl,hp _⟩,λ_=>⟨λ_=>⟨hk,λ_ _=>⟨hj _ rfl,hp _⟩⟩,λ_ _ _=>⟨hj _ rfl,hp _⟩⟩⟩⟩
abbrev fewI(g:Ld×Int×Ms):Prop:=fewL g.1/\g.2.2.ents.length<=KS
theorem hrd_ok:FnPure Tryd.prog 26 aLIM dLE (λg=>heaS g.1 g.2.1 g.2.2) (λg=>[fewI g]):=
 pure_congr (hrd_okS (λg=>[fewI g]) λg _ hp=>hrd_si g.1 g.2.1 g.2.2 (hp _ (List.mem_cons_self ..)).1 (hp _ (List.mem_cons_self ..)).2) λg _ hp=>hrd_eq g.1 g.2.1 g.2.2 (hp _ (List.mem_cons_self ..)).1.2.1 (hp _ (List.mem_cons_self ..)).2
end Go.Proofs.YtfkdbifgppfegaaDoor

namespace Go.Proofs.YtfkdbifgppfegaaDoor
open Go.RowKit Go.Sx Go.Lp
set_option maxRecDepth 100000
theorem rhd_eq(l:Ld)(w:Int)(m:Ms):rhd_F l w m=heaS l w m:=by
 unfold rhd_F heaS heaE;simp only[El.ag_eq,ld_eta,ms_eta,Nat.zero_add,Nat.min_zero,List.range_zero,List.map_nil,List.nil_append,Nat.sub_zero,El.lst_els,ents_app,Bool.not_or,show eBool.dflt=false from rfl];cases h1:(chkL l !=0)with
 |true=>simp only[cond_true,h1]
 |false=>
  simp only[cond_false];cases h2:(decide (w<0)||decide (w>=l.workers))with
  |true=>rfl
  |false=>
   simp only[cond_false];cases h3:(!l.stage==1&&!l.stage==3)with
   |true=>rfl
   |false=>
    simp only[cond_false];cases h4:(mck_F m !=0)with
    |true=>simp only[cond_true,h4]
    |false=>
     simp only[cond_false];cases h5:(m.kind !=6||(m.ver !=l.ver||decide ((m.ents.length:Int)>0)&&l.stage==1))with
     |true=>rfl
     |false=>
      simp only[cond_false];cases h6:l.voted.getD w.toNat false with
      |true=>rfl
      |false=>
       simp only[cond_false];unfold finS;cases hy:m.yes with
       |false=>simp only[Bool.and_false];cases hasB (l.voted.set w.toNat true) false<;>rfl
       |true=>
        cases hl:l.yes with
        |false=>simp only[Bool.and_false];cases hasB (l.voted.set w.toNat true) false<;>rfl
        |true=>
         cases hg:decide (((l.ents.length+m.ents.length:Nat):Int)>1024)with
         |true=>simp only[Bool.and_false];cases hasB (l.voted.set w.toNat true) false<;>rfl
         |false=>cases hasB (l.voted.set w.toNat true) false<;>rfl
theorem rhd_si(l:Ld)(w:Int)(m:Ms)(hL:fewL l)(hm:m.ents.length<=KS):rhd_side l w m:=by
 obtain⟨hd,hx,he⟩:=hL;unfold rhd_side;simp only[El.okL_eq,El.ag_eq,ld_eta,ms_eta,clE,implies_true,true_and,and_true,Nat.le_refl,List.length_set,byN,byB,El.one_els,Nat.zero_add,Nat.min_zero,Nat.not_lt_zero,false_implies];intro h1 h2 h3 _ _;have h3:(!l.stage==1&&!l.stage==3)=false:=by rw[<-h3,Bool.not_or]
 have k5:=(chk_ask h1 h3).2.2.2.2.1;simp only[Bool.or_eq_false_iff,decide_eq_false_iff_not]at h2;unfold KS at hx he hm;have e:w.toNat<l.voted.length:=by omega
 have e1:0<=w/\w<(l.voted.length:Int):=by omega
 have e2:l.voted.length<=maxLen/\l.voted.length*1<=140737488355328:=by unfold maxLen;omega
 have e3:l.ents.length<=maxLen/\l.ents.length*40<=140737488355328:=by unfold maxLen;omega
 have e4:l.ents.length+m.ents.length<=maxLen/\(l.ents.length+m.ents.length)*40<=140737488355328:=by unfold maxLen;omega
 simp only[e,e1,e2,e3,e4,and_self,true_and,implies_true,and_true];exactλ_=>few_dl hd ..
theorem rhd_ok:FnPure Tryd.prog 41 aLIM dLE (λg=>heaS g.1 g.2.1 g.2.2) (λg=>[fewI g]):=
 pure_congr (rhd_okS (λg=>[fewI g]) λg _ hp=>rhd_si g.1 g.2.1 g.2.2 (hp _ (List.mem_cons_self ..)).1 (hp _ (List.mem_cons_self ..)).2) λg _ _=>rhd_eq g.1 g.2.1 g.2.2
end Go.Proofs.YtfkdbifgppfegaaDoor

namespace Go.Proofs.YtfkdbifgppfegaaDoor
open Go.RowKit Go.Sx
set_option maxRecDepth 100000
noncomputable def tabY1:MTab Tryd.prog:=(MTab.of tabG8).cons 70 (pconP aII dI (λg=>exo_F g.1 g.2) (λ_=>[])) (conP_ok rexo_ok puI)
abbrev rei_G:Type:=Unit×Ld×Int×Int×Unit×Mg
noncomputable def rei_LP:LP 5 rei_G:=.pair (.fix 5 1 (.p 0 0)) (.pair (.obj 5 0 31 eL) (.pair (.slot 5 8 dI) (.pair (.slot 5 10 dI) (.pair (.fix 5 9 (.p 4 0)) (.ctO 5 4 45 ctMg)))))
noncomputable def rei_R(_u:Unit)(l:Ld)(w:Int)(i:Int)(_u2:Unit)(m:Mg):Ex×rei_G:=
 bif decide (i<(↑l.ents.length:Int))then bif exo_F (l.ents.getD i.toNat eN.dflt).key l.workers==w then(Ex.normal,(),Ld.mk l.workers l.stage l.ver l.cut (Dl.mk (eI.ag l.dl.drop) (eD.ag l.dl.put) (eV.ag l.dl.moves)) (eBool.ag l.voted) l.yes l.why (eN.ag l.ents),w,IntKind.i64.wrap (i+(1:Int)),(),Mg.mk m.ver (eN.lst (min (m.ents.length+(1:Nat)) m.ents.length) (eN.els m.ents)++List.map (λx=>l.ents.getD i.toNat eN.dflt) (List.range (m.ents.length+(1:Nat)-m.ents.length))) m.yes)else(Ex.normal,(),Ld.mk l.workers l.stage l.ver l.cut (Dl.mk (eI.ag l.dl.drop) (eD.ag l.dl.put) (eV.ag l.dl.moves)) (eBool.ag l.voted) l.yes l.why (eN.ag l.ents),w,IntKind.i64.wrap (i+(1:Int)),(),Mg.mk m.ver (eN.ag m.ents) m.yes)
 else(Ex.exit (2:Nat),(),Ld.mk l.workers l.stage l.ver l.cut (Dl.mk (eI.ag l.dl.drop) (eD.ag l.dl.put) (eV.ag l.dl.moves)) (eBool.ag l.voted) l.yes l.why (eN.ag l.ents),w,i,(),Mg.mk m.ver (eN.ag m.ents) m.yes)
def rei_side(_u:Unit)(l:Ld)(w:Int)(i:Int)(_u2:Unit)(m:Mg):Prop:=
 (decide (i<(↑l.ents.length:Int))=true->((0:Int)<=i/\i<(↑l.ents.length:Int))/\((exo_F (l.ents.getD i.toNat eN.dflt).key l.workers==w)=true->∀(cs:List Nat),(cs.isEmpty=true->((0:Int)<=i/\i<(↑l.ents.length:Int))/\(m.ents.length<=m.ents.length/\True/\m.ents.length+(1:Nat)<=maxLen/\(m.ents.length+(1:Nat))*Tryd.prog.types[(73:Nat)].bytes<=(140737488355328:Nat))/\eI.okL l.dl.drop/\eD.okL l.dl.put/\eV.okL l.dl.moves/\eBool.okL l.voted/\eN.okL l.ents/\m.ents.length+(1:Nat)<=m.ents.length+(1:Nat)/\(∀(e:Nat),e<min (m.ents.length+(1:Nat)) m.ents.length->True)/\(∀(e:Nat),e<m.ents.length+(1:Nat)-m.ents.length->True)/\∀(d:Ex×Unit×Ld×Int×Int×Unit×Mg),(Ex.normal,(),Ld.mk l.workers l.stage l.ver l.cut (Dl.mk (eI.ag l.dl.drop) (eD.ag l.dl.put) (eV.ag l.dl.moves)) (eBool.ag l.voted) l.yes l.why (eN.ag l.ents),w,IntKind.i64.wrap (i+(1:Int)),(),Mg.mk m.ver (eN.lst (min (m.ents.length+(1:Nat)) m.ents.length) (eN.els m.ents)++List.map (λx=>l.ents.getD i.toNat eN.dflt) (List.range (m.ents.length+(1:Nat)-m.ents.length))) m.yes)=(Ex.normal,(),Ld.mk l.workers l.stage l.ver l.cut (Dl.mk (eI.ag l.dl.drop) (eD.ag l.dl.put) (eV.ag l.dl.moves)) (eBool.ag l.voted) l.yes l.why (eN.ag l.ents),w,IntKind.i64.wrap (i+(1:Int)),(),Mg.mk m.ver (eN.lst (min (m.ents.length+(1:Nat)) m.ents.length) (eN.els m.ents)++List.map (λx=>l.ents.getD i.toNat eN.dflt) (List.range (m.ents.length+(1:Nat)-m.ents.length))) m.yes))/\(cs.isEmpty=false->((0:Int)<=i/\i<(↑l.ents.length:Int))/\(m.ents.length<=m.ents.length/\True/\m.ents.length+(1:Nat)<=maxLen/\(m.ents.length+(1:Nat))*Tryd.prog.types[(73:Nat)].bytes<=(140737488355328:Nat))/\eI.okL l.dl.drop/\eD.okL l.dl.put/\eV.okL l.dl.moves/\eBool.okL l.voted/\eN.okL l.ents/\m.ents.length+(1:Nat)<=m.ents.length+(1:Nat)/\(∀(e:Nat),e<min (m.ents.length+(1:Nat)) m.ents.length->True)/\(∀(e:Nat),e<m.ents.length+(1:Nat)-m.ents.length->True)/\∀(d:Ex×Unit×Ld×Int×Int×Unit×Mg),(Ex.normal,(),Ld.mk l.workers l.stage l.ver l.cut (Dl.mk (eI.ag l.dl.drop) (eD.ag l.dl.put) (eV.ag l.dl.moves)) (eBool.ag l.voted) l.yes l.why (eN.ag l.ents),w,IntKind.i64.wrap (i+(1:Int)),(),Mg.mk m.ver (eN.lst (min (m.ents.length+(1:Nat)) m.ents.length) (eN.els m.ents)++List.map (λx=>l.ents.getD i.toNat eN.dflt) (List.range (m.ents.length+(1:Nat)-m.ents.length))) m.yes)=(Ex.normal,(),Ld.mk l.workers l.stage l.ver l.cut (Dl.mk (eI.ag l.dl.drop) (eD.ag l.dl.put) (eV.ag l.dl.moves)) (eBool.ag l.voted) l.yes l.why (eN.ag l.ents),w,IntKind.i64.wrap (i+(1:Int)),(),Mg.mk m.ver (eN.lst (min (m.ents.length+(1:Nat)) m.ents.length) (eN.els m.ents)++List.map (λx=>l.ents.getD i.toNat eN.dflt) (List.range (m.ents.length+(1:Nat)-m.ents.length))) m.yes)))/\((exo_F (l.ents.getD i.toNat eN.dflt).key l.workers==w)=false->eI.okL l.dl.drop/\eD.okL l.dl.put/\eV.okL l.dl.moves/\eBool.okL l.voted/\eN.okL l.ents/\m.ents.length<=m.ents.length/\∀(e:Nat),e<m.ents.length->True))/\(decide (i<(↑l.ents.length:Int))=false->eI.okL l.dl.drop/\eD.okL l.dl.put/\eV.okL l.dl.moves/\eBool.okL l.voted/\eN.okL l.ents/\m.ents.length<=m.ents.length/\∀(e:Nat),e<m.ents.length->True)
theorem rei_one:((loopsOf Tryd.prog 44).filter λc=>Nat.beq (lkey c) 15).length=1:=by kernel_rfl
theorem rei_es(g:rei_G):(rei_R g.1 g.2.1 g.2.2.1 g.2.2.2.1 g.2.2.2.2.1 g.2.2.2.2.2).1=.normal\/(rei_R g.1 g.2.1 g.2.2.1 g.2.2.2.1 g.2.2.2.2.1 g.2.2.2.2.2).1∈([.exit 2]:List Ex):=by
 unfold rei_R
 repeat' (first|(left;rfl)|(right;simp only[cond_true,cond_false];simp;done)|(rw[Bool.cond_eq_ite];split))
noncomputable abbrev rei_C(Inv:rei_G->List Prop)(m:rei_G->Nat):LCon:=loopR [.exit 2] (loopBody Tryd.prog 44 15) rei_LP [] 77 Inv (λg=>rei_R g.1 g.2.1 g.2.2.1 g.2.2.2.1 g.2.2.2.2.1 g.2.2.2.2.2) m
theorem rei_loop(Inv:rei_G->List Prop)(m:rei_G->Nat)(hs:∀g,allP (Inv g)->rei_side g.1 g.2.1 g.2.2.1 g.2.2.2.1 g.2.2.2.2.1 g.2.2.2.2.2)(hg:Goes (λg:rei_G=>rei_R g.1 g.2.1 g.2.2.1 g.2.2.2.1 g.2.2.2.2.1 g.2.2.2.2.2) m λg=>allP (Inv g)):∀b∈loopsOf Tryd.prog 44,lkey b=15->LoopOk Tryd.prog b (rei_C Inv m).g:=loop_run (Γ:=(MTab.gamz tabY1 [] [])) (Λ:=noΛ) (MTab.okz tabY1 [] []) noΛ_ok 100 44 15 77 rei_LP [] Inv (λg=>rei_R g.1 g.2.1 g.2.2.1 g.2.2.2.1 g.2.2.2.2.1 g.2.2.2.2.2) (λg=>rei_side g.1 g.2.1 g.2.2.1 g.2.2.2.1 g.2.2.2.2.1 g.2.2.2.2.2) m default [.exit 2] rei_one (λrd T B HL HB ds g=>by kernel_rfl) (λrd T B HL HB ds g=>by kernel_rfl) hs hg rei_es
end Go.Proofs.YtfkdbifgppfegaaDoor

namespace Go.Proofs.YtfkdbifgppfegaaDoor
open Go.RowKit Go.Sx Go.Lp
set_option maxRecDepth 100000
theorem byNy(h:73<Tryd.prog.types.size):(Tryd.prog.types[(73:Nat)]'h).bytes=40:=by kernel_rfl
abbrev reiC:=Ld×Int
abbrev reiB:=Mg×Unit×Unit
def rei_f(g:rei_G):Int×reiC×reiB:=(g.2.2.2.1,(g.2.1,g.2.2.1),(g.2.2.2.2.2,g.1,g.2.2.2.2.1))
def rei_g(d:Int×reiC×reiB):rei_G:=(d.2.2.2.1,d.2.1.1,d.2.1.2,d.1,d.2.2.2.2,d.2.2.1)
noncomputable def rei_S(c:reiC)(b:reiB)(_:Int)(v:Ent):Ex×reiB:=(.normal,(bif exo_F v.key c.1.workers==c.2 then⟨b.1.ver,b.1.ents++[v],b.1.yes⟩else b.1,b.2))
def rei_K(c:reiC)(b:reiB)(i:Int):Prop:=(b.1.ents.length:Int)<=i/\c.1.ents.length<=KS
abbrev rei_xs(c:reiC):List Ent:=c.1.ents
abbrev rei_lim(c:reiC):Int:=(c.1.ents.length:Int)
abbrev rei_I(g:rei_G):List Prop:=ixI rei_lim rei_xs rei_K (rei_f g)
abbrev rei_M(g:rei_G):Nat:=ixM rei_lim (rei_f g)
theorem rei_P:ixP rei_S rei_xs rei_K:=λc b i a h _ _=>⟨by
 have:=h.1;show(((rei_S c b i a).2.1.ents.length:Nat):Int)<=_;unfold rei_S;generalize (exo_F a.key c.1.workers==c.2)=z;cases z<;>simp only[cond_true,cond_false,List.length_append,List.length_cons,List.length_nil]<;>omega,h.2⟩
noncomputable abbrev rei_RR(g:rei_G):Ex×rei_G:=rei_R g.1 g.2.1 g.2.2.1 g.2.2.2.1 g.2.2.2.2.1 g.2.2.2.2.2
theorem rei_RF(d:Int×reiC×reiB)(hi:allP (ixI rei_lim rei_xs rei_K d)):rei_RR (rei_g d)=((ixF 2 rei_lim rei_xs eN.dflt rei_S d).1,rei_g (ixF 2 rei_lim rei_xs eN.dflt rei_S d).2):=by
 obtain⟨i,⟨l,w⟩,⟨m,⟨⟩,⟨⟩⟩⟩:=d;show rei_R () l w i () m=_;unfold rei_R ixF rei_S;simp only[El.ag_eq,lst_app1];cases hc:decide (i<(l.ents.length:Int))with
 |false=>rfl
 |true=>
  simp only[cond_true];generalize (exo_F (l.ents.getD i.toNat eN.dflt).key l.workers==w)=z;cases z<;>rfl
theorem rei_ok:∀b∈loopsOf Tryd.prog 44,lkey b=15->LoopOk Tryd.prog b (rei_C rei_I rei_M).g:=by
 refine rei_loop rei_I rei_M (λg hi=>?_) (ix_conj_goes (φ:=rei_f) (ψ:=rei_g) (λ_=>rfl) (λ_=>rfl) rei_RF rei_P);obtain⟨⟨⟩,l,w,i,⟨⟩,m⟩:=g;obtain⟨h1,h2,h3,h4,h5,h6⟩:=hi _ (List.mem_cons_self ..);have h3:0<=i:=h3;have h4:i<=(l.ents.length:Int):=h4;have h5:(m.ents.length:Int)<=i:=h5;have h6:l.ents.length<=KS:=h6;show rei_side () l w i () m;unfold rei_side;unfold KS at h6;simp only[byNy,El.okL_eq,Nat.le_refl,implies_true,true_and,decide_eq_true_eq,decide_eq_false_iff_not];clear hi
 repeat' (first|exact True.intro|apply And.intro|intro _)
 all_goals (first|omega|(unfold maxLen;omega))
theorem rei_run(c:reiC)(b:reiB)(k2:c.1.ents.length<=KS)(k3:b.1.ents.length=0):loopF rei_RR rei_M (rei_g (0,c,b))=((scan 2 (rei_S c) 0 c.1.ents b).1,rei_g ((scan 2 (rei_S c) 0 c.1.ents b).2.1,c,(scan 2 (rei_S c) 0 c.1.ents b).2.2)):=
 ix_conj_run (φ:=rei_f) (ψ:=rei_g) (λ_=>rfl) (λ_=>rfl) rei_RF rei_P c b rfl (Nat.le_trans k2 (by decide)) ⟨by rw[k3];decide,k2⟩
theorem rei_sc(c:reiC):∀(l:List Ent)(i:Int)(m:Mg),scan 2 (rei_S c) i l (m,(),())=(.exit 2,i+l.length,(⟨m.ver,m.ents++l.filter (λx=>exo_F x.key c.1.workers==c.2),m.yes⟩,(),()))
 | [],i,m=>by simp[scan]
 |a::l,i,m=>by
  show scan 2 (rei_S c) (i+1) l _=_;unfold rei_S;cases h:(exo_F a.key c.1.workers==c.2)with
  |true=>
   simp only[cond_true];rw[show(λb _(v:Ent)=>((Ex.normal,bif exo_F v.key c.1.workers==c.2 then(⟨b.1.ver,b.1.ents++[v],b.1.yes⟩:Mg)else b.1,b.2):Ex×reiB))=rei_S c from rfl,rei_sc c l,List.filter_cons,h];simp only[if_true,List.append_assoc,List.singleton_append,List.length_cons];rw[show i+1+(l.length:Int)=i+((l.length+1:Nat):Int) by omega]
  |false=>
   simp only[cond_false];rw[show(λb _(v:Ent)=>((Ex.normal,bif exo_F v.key c.1.workers==c.2 then(⟨b.1.ver,b.1.ents++[v],b.1.yes⟩:Mg)else b.1,b.2):Ex×reiB))=rei_S c from rfl,rei_sc c l,List.filter_cons,h];simp only[Bool.false_eq_true,if_false,List.length_cons];rw[show i+1+(l.length:Int)=i+((l.length+1:Nat):Int) by omega]
noncomputable def ltY2:LTab Tryd.prog:=LTab.nil.cons 44 15 (rei_C rei_I rei_M) rei_ok
noncomputable abbrev lamY2:Lam:=ltY2.lam
theorem lamY2_ok:∀f k L,lamY2 f k=some L->∀b∈loopsOf Tryd.prog f,lkey b=k->LoopOk Tryd.prog b L.g:=ltY2.ok
end Go.Proofs.YtfkdbifgppfegaaDoor

namespace Go.Proofs.YtfkdbifgppfegaaDoor
open Go.RowKit Go.Sx
set_option maxRecDepth 100000
noncomputable def reo_q1(_u:Unit)(l:Ld)(o:List Ms)(w:Int):Ex×
 rei_G:=
 loopF (λg=>rei_R g.fst g.snd.fst g.snd.snd.fst g.snd.snd.snd.fst g.snd.snd.snd.snd.fst g.snd.snd.snd.snd.snd) rei_M ((),Ld.mk l.workers l.stage l.ver l.cut (Dl.mk (eI.ag l.dl.drop) (eD.ag l.dl.put) (eV.ag l.dl.moves)) (eBool.ag l.voted) l.yes l.why (eN.ag l.ents),w,(0:Int),(),Mg.mk l.ver [] l.yes)
abbrev reo_G:Type:=Unit×Ld×List Ms×Int
noncomputable def reo_LP:LP 3 reo_G:=.pair (.fix 3 1 (.p 0 0)) (.pair (.obj 3 0 31 eL) (.pair (.row 3 7 45 eMs) (.slot 3 8 dI)))
noncomputable def reo_R(_u:Unit)(l:Ld)(o:List Ms)(w:Int):Ex×reo_G:=
 bif decide (w<l.workers)then(Ex.normal,(),Ld.mk (reo_q1 _u l o w).snd.snd.fst.workers (reo_q1 _u l o w).snd.snd.fst.stage (reo_q1 _u l o w).snd.snd.fst.ver (reo_q1 _u l o w).snd.snd.fst.cut (Dl.mk (eI.ag (reo_q1 _u l o w).snd.snd.fst.dl.drop) (eD.ag (reo_q1 _u l o w).snd.snd.fst.dl.put) (eV.ag (reo_q1 _u l o w).snd.snd.fst.dl.moves)) (eBool.ag (reo_q1 _u l o w).snd.snd.fst.voted) (reo_q1 _u l o w).snd.snd.fst.yes (reo_q1 _u l o w).snd.snd.fst.why (eN.ag (reo_q1 _u l o w).snd.snd.fst.ents),eMs.lst (min (o.length+(1:Nat)) o.length) (eMs.els o)++List.map (λx=>Ms.mk (5:Int) (reo_q1 _u l o w).snd.snd.snd.snd.snd.snd.ver (Place.mk (0:Int) (0:Int)) (T.mk (0:Int) (0:Int) (0:Int) (0:Int) (0:Int) (0:Int)) [] [] (Dl.mk [] [] []) (0:Int) (eN.ag (reo_q1 _u l o w).snd.snd.snd.snd.snd.snd.ents) (reo_q1 _u l o w).snd.snd.snd.snd.snd.snd.yes (0:Int)) (List.range (o.length+(1:Nat)-o.length)),IntKind.i64.wrap ((reo_q1 _u l o w).snd.snd.snd.fst+(1:Int)))
 else(Ex.exit (0:Nat),(),Ld.mk l.workers l.stage l.ver l.cut (Dl.mk (eI.ag l.dl.drop) (eD.ag l.dl.put) (eV.ag l.dl.moves)) (eBool.ag l.voted) l.yes l.why (eN.ag l.ents),eMs.ag o,w)
def reo_side(_u:Unit)(l:Ld)(o:List Ms)(w:Int):Prop:=
 (decide (w<l.workers)=true->eI.okL l.dl.drop/\eD.okL l.dl.put/\eV.okL l.dl.moves/\eBool.okL l.voted/\eN.okL l.ents/\Lp.ixJ rei_lim rei_xs rei_K (rei_f ((),Ld.mk l.workers l.stage l.ver l.cut (Dl.mk (eI.ag l.dl.drop) (eD.ag l.dl.put) (eV.ag l.dl.moves)) (eBool.ag l.voted) l.yes l.why (eN.ag l.ents),w,(0:Int),(),Mg.mk l.ver [] l.yes))/\(reo_q1 _u l o w).snd.snd.snd.snd.snd.snd.ents.length<=(reo_q1 _u l o w).snd.snd.snd.snd.snd.snd.ents.length/\(o.length<=o.length/\True/\o.length+(1:Nat)<=maxLen/\(o.length+(1:Nat))*Tryd.prog.types[(45:Nat)].bytes<=(140737488355328:Nat))/\eI.okL (reo_q1 _u l o w).snd.snd.fst.dl.drop/\eD.okL (reo_q1 _u l o w).snd.snd.fst.dl.put/\eV.okL (reo_q1 _u l o w).snd.snd.fst.dl.moves/\eBool.okL (reo_q1 _u l o w).snd.snd.fst.voted/\eN.okL (reo_q1 _u l o w).snd.snd.fst.ents/\o.length+(1:Nat)<=o.length+(1:Nat)/\(∀(e:Nat),e<min (o.length+(1:Nat)) o.length->∀(p:Prop),p∈[]++([]++([]++[]++([]++([]++([]++([]++([]++[]))))++([eR.okL (o.getD e eMs.dflt).recs]++([eC.okL (o.getD e eMs.dflt).changes]++([eI.okL (o.getD e eMs.dflt).dl.drop]++([eD.okL (o.getD e eMs.dflt).dl.put]++[eV.okL (o.getD e eMs.dflt).dl.moves])++([]++([eN.okL (o.getD e eMs.dflt).ents]++([]++[])))))))))->p)/\∀(e:Nat),e<o.length+(1:Nat)-o.length->∀(p:Prop),p∈[]++([]++([]++[]++([]++([]++([]++([]++([]++[]))))++([]++([]++([]++([]++[])++([]++([∀(e:Nat),e<(reo_q1 _u l o w).snd.snd.snd.snd.snd.snd.ents.length->eN.Ok ((ElE.fn (eN.els (reo_q1 _u l o w).snd.snd.snd.snd.snd.snd.ents)).at e)]++([]++[])))))))))->p)/\(decide (w<l.workers)=false->eI.okL l.dl.drop/\eD.okL l.dl.put/\eV.okL l.dl.moves/\eBool.okL l.voted/\eN.okL l.ents/\o.length<=o.length/\∀(e:Nat),e<o.length->∀(p:Prop),p∈[]++([]++([]++[]++([]++([]++([]++([]++([]++[]))))++([eR.okL (o.getD e eMs.dflt).recs]++([eC.okL (o.getD e eMs.dflt).changes]++([eI.okL (o.getD e eMs.dflt).dl.drop]++([eD.okL (o.getD e eMs.dflt).dl.put]++[eV.okL (o.getD e eMs.dflt).dl.moves])++([]++([eN.okL (o.getD e eMs.dflt).ents]++([]++[])))))))))->p)
theorem reo_one:((loopsOf Tryd.prog 44).filter λc=>Nat.beq (lkey c) 11).length=1:=by kernel_rfl
theorem reo_es(g:reo_G):(reo_R g.1 g.2.1 g.2.2.1 g.2.2.2).1=.normal\/(reo_R g.1 g.2.1 g.2.2.1 g.2.2.2).1∈([.exit 0]:List Ex):=by
 unfold reo_R
 repeat' (first|(left;rfl)|(right;simp only[cond_true,cond_false];simp;done)|(rw[Bool.cond_eq_ite];split))
noncomputable abbrev reo_C(Inv:reo_G->List Prop)(m:reo_G->Nat):LCon:=loopR [.exit 0] (loopBody Tryd.prog 44 11) reo_LP [] 77 Inv (λg=>reo_R g.1 g.2.1 g.2.2.1 g.2.2.2) m
theorem reo_loop(Inv:reo_G->List Prop)(m:reo_G->Nat)(hs:∀g,allP (Inv g)->reo_side g.1 g.2.1 g.2.2.1 g.2.2.2)(hg:Goes (λg:reo_G=>reo_R g.1 g.2.1 g.2.2.1 g.2.2.2) m λg=>allP (Inv g)):∀b∈loopsOf Tryd.prog 44,lkey b=11->LoopOk Tryd.prog b (reo_C Inv m).g:=loop_run (Γ:=(MTab.gamz tabY1 [] [])) (Λ:=lamY2) (MTab.okz tabY1 [] []) lamY2_ok 100 44 11 77 reo_LP [] Inv (λg=>reo_R g.1 g.2.1 g.2.2.1 g.2.2.2) (λg=>reo_side g.1 g.2.1 g.2.2.1 g.2.2.2) m default [.exit 0] reo_one (λrd T B HL HB ds g=>by kernel_rfl) (λrd T B HL HB ds g=>by kernel_rfl) hs hg reo_es
end Go.Proofs.YtfkdbifgppfegaaDoor

namespace Go.Proofs.YtfkdbifgppfegaaDoor
open Go.RowKit Go.Sx Go.Lp
set_option maxRecDepth 100000
theorem byM(h:45<Tryd.prog.types.size):(Tryd.prog.types[(45:Nat)]'h).bytes=248:=by kernel_rfl
abbrev reoB:=List Ms×Unit
noncomputable def msgI(l:Ld)(w:Int):Ms:=⟨5,l.ver,⟨0,0⟩,⟨0,0,0,0,0,0⟩,[],[],⟨[],[],[]⟩,0,l.ents.filter (λx=>exo_F x.key l.workers==w),l.yes,0⟩
def reo_f(g:reo_G):Int×Ld×reoB:=(g.2.2.2,g.2.1,(g.2.2.1,g.1))
def reo_g(d:Int×Ld×reoB):reo_G:=(d.2.2.2,d.2.1,d.2.2.1,d.1)
noncomputable def reo_S(c:Ld)(b:reoB)(i:Int)(_:Nat):Ex×reoB:=(.normal,(b.1++[msgI c i],b.2))
def reo_K(c:Ld)(b:reoB)(i:Int):Prop:=(b.1.length:Int)<=i/\c.ents.length<=KS/\0<=c.workers/\c.workers<=16
abbrev reo_xs(c:Ld):List Nat:=List.range c.workers.toNat
abbrev reo_lim(c:Ld):Int:=c.workers
abbrev reo_I(g:reo_G):List Prop:=ixI reo_lim reo_xs reo_K (reo_f g)
abbrev reo_M(g:reo_G):Nat:=ixM reo_lim (reo_f g)
theorem reo_P:ixP reo_S reo_xs reo_K:=λc b i a h _ _=>⟨by
 have:=h.1;show(((b.1++[msgI c i]).length:Nat):Int)<=_;simp only[List.length_append,List.length_cons,List.length_nil];omega,h.2⟩
noncomputable abbrev reo_RR(g:reo_G):Ex×reo_G:=reo_R g.1 g.2.1 g.2.2.1 g.2.2.2
theorem reo_q(l:Ld)(o:List Ms)(w:Int)(hx:l.ents.length<=KS):reo_q1 () l o w=(.exit 2,(),l,w,(l.ents.length:Int),(),⟨l.ver,l.ents.filter (λx=>exo_F x.key l.workers==w),l.yes⟩):=by
 unfold reo_q1;simp only[El.ag_eq];have h:=rei_run (l,w) (⟨l.ver,[],l.yes⟩,(),()) hx rfl;rw[rei_sc]at h;simp only[Int.zero_add,List.nil_append]at h;exact h
theorem reo_RF(d:Int×Ld×reoB)(hi:allP (ixI reo_lim reo_xs reo_K d)):reo_RR (reo_g d)=((ixF 0 reo_lim reo_xs 0 reo_S d).1,reo_g (ixF 0 reo_lim reo_xs 0 reo_S d).2):=by
 obtain⟨i,l,⟨o,⟨⟩⟩⟩:=d;have hx:l.ents.length<=KS:=(hi _ (List.mem_cons_self ..)).2.2.2.2.2.1;show reo_R () l o i=_;unfold reo_R ixF reo_S;simp only[reo_q l o i hx,El.ag_eq,lst_app1];cases hc:decide (i<l.workers)<;>rfl
theorem reo_ok:∀b∈loopsOf Tryd.prog 44,lkey b=11->LoopOk Tryd.prog b (reo_C reo_I reo_M).g:=by
 refine reo_loop reo_I reo_M (λg hi=>?_) (ix_conj_goes (φ:=reo_f) (ψ:=reo_g) (λ_=>rfl) (λ_=>rfl) reo_RF reo_P);obtain⟨⟨⟩,l,o,w⟩:=g;obtain⟨h1,h2,h3,h4,h5,h6,h7,h8⟩:=hi _ (List.mem_cons_self ..);have h3:0<=w:=h3;have h5:(o.length:Int)<=w:=h5;have h6:l.ents.length<=KS:=h6;have h7:0<=l.workers:=h7;have h8:l.workers<=16:=h8;show reo_side () l o w;unfold reo_side;simp only[reo_q l o w h6,byM,El.okL_eq,El.ag_eq,Nat.le_refl,implies_true,true_and,List.nil_append,List.append_nil,List.mem_singleton,List.singleton_append,decide_eq_true_eq,decide_eq_false_iff_not]
 have hO:(∀e,e<o.length->∀p,p∈[True,True,True,True,True,True]->p):=λe _ p hp=>by
  simp only[List.mem_cons,List.not_mem_nil,or_false,or_self]at hp;rw[hp];trivial
 refine⟨λhlt=>⟨?_,⟨by unfold maxLen;omega,by omega⟩,λe he=>hO e (by omega),λe _ p hp=>?_⟩,λ_=>hO⟩
 .exact ixJ0 rfl (Nat.le_trans h6 (by decide)) ⟨Int.le_refl _,h6⟩
 .rw[hp];intro e _;exact El.ok_els _ _ _
theorem reo_run(l:Ld)(k2:l.ents.length<=KS)(k3:1<=l.workers/\l.workers<=16):loopF reo_RR reo_M ((),l,[],0)=(.exit 0,(),l,(List.range l.workers.toNat).map (λ(w:Nat)=>msgI l (w:Int)),l.workers):=by
 have hn:(l.workers.toNat:Int)=l.workers:=Int.toNat_of_nonneg (by omega);have h:=ix_conj_run (φ:=reo_f) (ψ:=reo_g) (λ_=>rfl) (λ_=>rfl) reo_RF reo_P l ([],()) (by rw[List.length_range,hn]) (by rw[List.length_range];unfold maxLen;omega) ⟨Int.le_refl _,k2,by omega,k3.2⟩
 have key:∀(m k:Nat)(o:List Ms),scan 0 (reo_S l) (k:Int) (List.range' k m) (o,())=(.exit 0,((k+m:Nat):Int),(o++(List.range' k m).map (λ(w:Nat)=>msgI l (w:Int)),())):=by
  intro m
  induction m with
  |zero=>intro k o;simp[scan]
  |succ m ih=>
   intro k o;rw[List.range'_succ];show scan 0 (reo_S l) ((k:Int)+1) (List.range' (k+1) m) (o++[msgI l k],())=_;have e:((k:Int)+1)=((k+1:Nat):Int):=by omega
   rw[e,ih];simp only[List.map_cons,List.append_assoc,List.singleton_append];rw[show k+1+m=k+(m+1) by omega]
 have e:=key l.workers.toNat 0 [];rw[<-List.range_eq_range',Nat.zero_add,hn,List.nil_append]at e;rw[show((0:Nat):Int)=(0:Int)from rfl]at e;rw[e]at h;exact h
noncomputable def ltY4:LTab Tryd.prog:=ltY2.cons 44 11 (reo_C reo_I reo_M) reo_ok
noncomputable abbrev lamY4:Lam:=ltY4.lam
theorem lamY4_ok:∀f k L,lamY4 f k=some L->∀b∈loopsOf Tryd.prog f,lkey b=k->LoopOk Tryd.prog b L.g:=ltY4.ok
end Go.Proofs.YtfkdbifgppfegaaDoor

namespace Go.Proofs.YtfkdbifgppfegaaDoor
open Go.RowKit Go.Sx
set_option maxRecDepth 100000
noncomputable abbrev rEndD:Rv (Ld×List Ms×Int):=.tup (.cons (.of dL) (.cons (.list eMs) (.one (.of dI))))
noncomputable def red_q1(l:Ld):Ex×
 reo_G:=
 loopF (λg=>reo_R g.fst g.snd.fst g.snd.snd.fst g.snd.snd.snd) reo_M ((),Ld.mk l.workers l.stage l.ver l.cut (Dl.mk (eI.ag l.dl.drop) (eD.ag l.dl.put) (eV.ag l.dl.moves)) (eBool.ag l.voted) l.yes l.why (eN.ag l.ents),[],(0:Int))
noncomputable def red_F(l:Ld):Rv.T rEndD:=
 bif chkL (Ld.mk l.workers l.stage l.ver l.cut (Dl.mk (eI.ag l.dl.drop) (eD.ag l.dl.put) (eV.ag l.dl.moves)) (eBool.ag l.voted) l.yes l.why (eN.ag l.ents))!=(0:Int)then(Ld.mk l.workers l.stage l.ver l.cut (Dl.mk (eI.ag l.dl.drop) (eD.ag l.dl.put) (eV.ag l.dl.moves)) (eBool.ag l.voted) l.yes l.why (eN.ag l.ents),[],chkL (Ld.mk l.workers l.stage l.ver l.cut (Dl.mk (eI.ag l.dl.drop) (eD.ag l.dl.put) (eV.ag l.dl.moves)) (eBool.ag l.voted) l.yes l.why (eN.ag l.ents)))
 else bif l.stage !=(4:Int)then(Ld.mk l.workers l.stage l.ver l.cut (Dl.mk (eI.ag l.dl.drop) (eD.ag l.dl.put) (eV.ag l.dl.moves)) (eBool.ag l.voted) l.yes l.why (eN.ag l.ents),[],(212:Int))else(Ld.mk l.workers (0:Int) (bif l.yes then IntKind.i64.wrap (l.ver+(1:Int))else l.ver) (0:Int) (Dl.mk [] [] []) [] false (0:Int) [],eMs.ag (red_q1 l).snd.snd.snd.fst,(0:Int))
def red_side(l:Ld):Prop:=
 eI.okL l.dl.drop/\eD.okL l.dl.put/\eV.okL l.dl.moves/\eBool.okL l.voted/\eN.okL l.ents/\((chkL (Ld.mk l.workers l.stage l.ver l.cut (Dl.mk (eI.ag l.dl.drop) (eD.ag l.dl.put) (eV.ag l.dl.moves)) (eBool.ag l.voted) l.yes l.why (eN.ag l.ents))!=(0:Int))=true->eI.okL l.dl.drop/\eD.okL l.dl.put/\eV.okL l.dl.moves/\eBool.okL l.voted/\eN.okL l.ents)/\((chkL (Ld.mk l.workers l.stage l.ver l.cut (Dl.mk (eI.ag l.dl.drop) (eD.ag l.dl.put) (eV.ag l.dl.moves)) (eBool.ag l.voted) l.yes l.why (eN.ag l.ents))!=(0:Int))=false->((l.stage !=(4:Int))=true->eI.okL l.dl.drop/\eD.okL l.dl.put/\eV.okL l.dl.moves/\eBool.okL l.voted/\eN.okL l.ents)/\((l.stage !=(4:Int))=false->eI.okL l.dl.drop/\eD.okL l.dl.put/\eV.okL l.dl.moves/\eBool.okL l.voted/\eN.okL l.ents/\Lp.ixJ reo_lim reo_xs reo_K (reo_f ((),Ld.mk l.workers l.stage l.ver l.cut (Dl.mk (eI.ag l.dl.drop) (eD.ag l.dl.put) (eV.ag l.dl.moves)) (eBool.ag l.voted) l.yes l.why (eN.ag l.ents),[],(0:Int)))/\(red_q1 l).snd.snd.snd.fst.length<=(red_q1 l).snd.snd.snd.fst.length/\∀(e:Nat),e<(red_q1 l).snd.snd.snd.fst.length->∀(p:Prop),p∈[]++([]++([]++[]++([]++([]++([]++([]++([]++[]))))++([eR.okL ((red_q1 l).snd.snd.snd.fst.getD e eMs.dflt).recs]++([eC.okL ((red_q1 l).snd.snd.snd.fst.getD e eMs.dflt).changes]++([eI.okL ((red_q1 l).snd.snd.snd.fst.getD e eMs.dflt).dl.drop]++([eD.okL ((red_q1 l).snd.snd.snd.fst.getD e eMs.dflt).dl.put]++[eV.okL ((red_q1 l).snd.snd.snd.fst.getD e eMs.dflt).dl.moves])++([]++([eN.okL ((red_q1 l).snd.snd.snd.fst.getD e eMs.dflt).ents]++([]++[])))))))))->p))
theorem red_okS(pre:DA.T aL->List Prop)(h:∀g,DA.bd aL g->(∀p∈pre g,p)->red_side g):FnPure Tryd.prog 44 aL (Rv.D rEndD) (λg=>red_F g) pre:=res_of_side (R:=rEndD) (Γ:=(MTab.gamz tabY1 [] [])) (Λ:=lamY4) (MTab.okz tabY1 [] []) lamY4_ok 100 default (λg=>red_side g) (λg=>by kernel_rfl) (λg=>by kernel_rfl) h
end Go.Proofs.YtfkdbifgppfegaaDoor

namespace Go.Proofs.YtfkdbifgppfegaaDoor
open Go.RowKit Go.Sx Go.Lp
set_option maxRecDepth 100000
theorem msgI_L(l:Ld)(h:1<=l.workers/\l.workers<=16)(w:Nat):msgI l (w:Int)=msgL l w:=by
 unfold msgI msgL;congr 1;refine List.filter_congr λx _=>?_;have hr:(0:Int)<=(exo_F x.key l.workers:Int):=(exo_range x.key l.workers h).1;by_cases hw:exo_F x.key l.workers=(w:Int)
 .rw[hw,Int.toNat_natCast];simp
 .have h1:¬(exo_F x.key l.workers:Int).toNat=w:=λe=>hw (by rw[<-e];exact(Int.toNat_of_nonneg hr).symm);rw[decide_eq_false h1];exact beq_eq_false_iff_ne.2 hw
theorem red_ok:FnPure Tryd.prog 44 aL dLsE endM (λl=>[l.ents.length<=KS]):=by
 have hq:∀l:Ld,rgB l=true->l.ents.length<=KS->red_q1 l=(.exit 0,(),l,(List.range l.workers.toNat).map (λ(w:Nat)=>msgL l w),l.workers):=λl h hx=>by
  have h:=of_decide_eq_true h;have e:=reo_run l hx ⟨h.1,h.2.1⟩;rw[show(λ(w:Nat)=>msgI l (w:Int))=(λ(w:Nat)=>msgL l w)from funext λw=>msgI_L l ⟨h.1,h.2.1⟩ w]at e;unfold red_q1;simp only[El.ag_eq];exact e
 refine pure_congr (red_okS (λl=>[l.ents.length<=KS]) λl _ hp=>?_) λl _ hp=>?_
 .have hx:l.ents.length<=KS:=hp _ (List.mem_cons_self ..);unfold red_side;simp only[El.okL_eq,El.ag_eq,true_and,and_self,implies_true,Nat.le_refl];have e0:Ld.mk l.workers l.stage l.ver l.cut (Dl.mk l.dl.drop l.dl.put l.dl.moves) l.voted l.yes l.why l.ents=l:=rfl;rw[e0];refineλhc hs=>⟨?_,λe _ p hp=>?_⟩
  .have h:=of_decide_eq_true (chk_rg hc);refine ixJ0 (c:=l) (b:=([],())) ?_ ?_ ⟨Int.le_refl _,hx,by omega,h.2.1⟩
   .show l.workers=((List.range l.workers.toNat).length:Int);rw[List.length_range];omega
   .show(List.range l.workers.toNat).length<=maxLen;rw[List.length_range];unfold maxLen;omega
  .simp only[List.nil_append,List.append_nil,List.singleton_append,List.cons_append,List.mem_cons,List.not_mem_nil,or_false,or_self]at hp;rw[hp];trivial
 .have hx:l.ents.length<=KS:=hp _ (List.mem_cons_self ..);show red_F l=endM l;unfold red_F endM;simp only[El.ag_eq];have e:Ld.mk l.workers l.stage l.ver l.cut (Dl.mk l.dl.drop l.dl.put l.dl.moves) l.voted l.yes l.why l.ents=l:=rfl;rw[e];cases hc:(chkL l !=0)with
  |true=>rfl
  |false=>
   simp only[cond_false];cases hs:(l.stage !=4)with
   |true=>rfl
   |false=>
    have hr:=chk_rg hc;rw[hq l hr hx];have hr:=of_decide_eq_true hr;have hw:IntKind.i64.wrap (l.ver+1)=l.ver+1:=Lp.wr (n:=l.ver+1) (by omega);rw[hw];rfl
end Go.Proofs.YtfkdbifgppfegaaDoor

namespace Go.Proofs.YtfkdbifgppfegaaDoor
open Go.RowKit Go.Sx Go.Lp
noncomputable abbrev rvSd:RvE Sd:=.iso (.pair (.pl eL) (.pair (.listN eMs) (.pl eI))) Sd.ofP Sd.toP (λ_=>rfl) (λ_=>rfl)
noncomputable abbrev rSd:Rv Sd:=.agg rvSd
noncomputable def tabT6:PTab Tryd.prog:=((((PTab.nil.cons 25 (pconR aLDI dLME (λg=>subS g.1 g.2.1 g.2.2) (λg=>[fewD g.2.1])) (conR_ok sub_ok)).cons 26 (pconR aLIM dLE (λg=>heaS g.1 g.2.1 g.2.2) (λg=>[fewI g])) (conR_ok hrd_ok)).cons 27 (pconR aL dLME drnS (λg=>[fewL g])) (conR_ok drn_ok)).cons 37 (pconR aLI dLE (λg=>abtS g.1 g.2) (λg=>[fewL g.1])) (conR_ok abt_ok)).cons 10 (pconR aL dLsE endM (λl=>[l.ents.length<=KS])) (conR_ok edg_ok)
noncomputable def tabT7:PTab Tryd.prog:=((((PTab.nil.cons 40 (pconR aLDI dLME (λg=>subS g.1 g.2.1 g.2.2) (λg=>[fewD g.2.1])) (conR_ok rsub_ok)).cons 41 (pconR aLIM dLE (λg=>heaS g.1 g.2.1 g.2.2) (λg=>[fewI g])) (conR_ok rhd_ok)).cons 42 (pconR aL dLME drnS (λg=>[fewL g])) (conR_ok rdrn_ok)).cons 43 (pconR aLI dLE (λg=>abtS g.1 g.2) (λg=>[fewL g.1])) (conR_ok rabt_ok)).cons 44 (pconR aL dLsE endM (λl=>[l.ents.length<=KS])) (conR_ok red_ok)
noncomputable def doS(l:Ld)(d:Do):Sd:=bif d.kind==0 then⟨(subS l d.dl d.cut).1,[(subS l d.dl d.cut).2.1],(subS l d.dl d.cut).2.2⟩else bif d.kind==1 then⟨(heaS l d.worker d.m).1,[],(heaS l d.worker d.m).2⟩else bif d.kind==2 then⟨(drnS l).1,[(drnS l).2.1],(drnS l).2.2⟩else bif d.kind==3 then⟨(abtS l d.why).1,[],(abtS l d.why).2⟩else⟨(endM l).1,(endM l).2.1,(endM l).2.2⟩
end Go.Proofs.YtfkdbifgppfegaaDoor

namespace Go.Proofs.YtfkdbifgppfegaaDoor
open Go.RowKit Go.Sx
set_option maxRecDepth 100000
noncomputable def dos_q1(l:Ld)(d:Do):Ld×
 Ms×Int:=
 subS (Ld.mk l.workers l.stage l.ver l.cut (Dl.mk (eI.ag l.dl.drop) (eD.ag l.dl.put) (eV.ag l.dl.moves)) (eBool.ag l.voted) l.yes l.why (eN.ag l.ents)) (Dl.mk (eI.ag d.dl.drop) (eD.ag d.dl.put) (eV.ag d.dl.moves)) d.cut
noncomputable def dos_q2(l:Ld)(d:Do):Ld×
 Int:=
 heaS (Ld.mk l.workers l.stage l.ver l.cut (Dl.mk (eI.ag l.dl.drop) (eD.ag l.dl.put) (eV.ag l.dl.moves)) (eBool.ag l.voted) l.yes l.why (eN.ag l.ents)) d.worker (Ms.mk d.m.kind d.m.ver d.m.p d.m.t (eR.ag d.m.recs) (eC.ag d.m.changes) (Dl.mk (eI.ag d.m.dl.drop) (eD.ag d.m.dl.put) (eV.ag d.m.dl.moves)) d.m.cut (eN.ag d.m.ents) d.m.yes d.m.why)
noncomputable def dos_q3(l:Ld)(d:Do):Ld×
 Ms×Int:=
 drnS (Ld.mk l.workers l.stage l.ver l.cut (Dl.mk (eI.ag l.dl.drop) (eD.ag l.dl.put) (eV.ag l.dl.moves)) (eBool.ag l.voted) l.yes l.why (eN.ag l.ents))
noncomputable def dos_q4(l:Ld)(d:Do):Ld×
 Int:=
 abtS (Ld.mk l.workers l.stage l.ver l.cut (Dl.mk (eI.ag l.dl.drop) (eD.ag l.dl.put) (eV.ag l.dl.moves)) (eBool.ag l.voted) l.yes l.why (eN.ag l.ents)) d.why
noncomputable def dos_q5(l:Ld)(d:Do):Ld×
 List Ms×Int:=
 endM (Ld.mk l.workers l.stage l.ver l.cut (Dl.mk (eI.ag l.dl.drop) (eD.ag l.dl.put) (eV.ag l.dl.moves)) (eBool.ag l.voted) l.yes l.why (eN.ag l.ents))
noncomputable def dos_F(l:Ld)(d:Do):Rv.T rSd:=
 bif d.kind==(0:Int)then Sd.mk (Ld.mk (dos_q1 l d).fst.workers (dos_q1 l d).fst.stage (dos_q1 l d).fst.ver (dos_q1 l d).fst.cut (Dl.mk (eI.ag (dos_q1 l d).fst.dl.drop) (eD.ag (dos_q1 l d).fst.dl.put) (eV.ag (dos_q1 l d).fst.dl.moves)) (eBool.ag (dos_q1 l d).fst.voted) (dos_q1 l d).fst.yes (dos_q1 l d).fst.why (eN.ag (dos_q1 l d).fst.ents)) ([]++[Ms.mk (dos_q1 l d).snd.fst.kind (dos_q1 l d).snd.fst.ver (dos_q1 l d).snd.fst.p (dos_q1 l d).snd.fst.t (eR.ag (dos_q1 l d).snd.fst.recs) (eC.ag (dos_q1 l d).snd.fst.changes) (Dl.mk (eI.ag (dos_q1 l d).snd.fst.dl.drop) (eD.ag (dos_q1 l d).snd.fst.dl.put) (eV.ag (dos_q1 l d).snd.fst.dl.moves)) (dos_q1 l d).snd.fst.cut (eN.ag (dos_q1 l d).snd.fst.ents) (dos_q1 l d).snd.fst.yes (dos_q1 l d).snd.fst.why]) (dos_q1 l d).snd.snd
 else bif d.kind==(1:Int)then Sd.mk (Ld.mk (dos_q2 l d).fst.workers (dos_q2 l d).fst.stage (dos_q2 l d).fst.ver (dos_q2 l d).fst.cut (Dl.mk (eI.ag (dos_q2 l d).fst.dl.drop) (eD.ag (dos_q2 l d).fst.dl.put) (eV.ag (dos_q2 l d).fst.dl.moves)) (eBool.ag (dos_q2 l d).fst.voted) (dos_q2 l d).fst.yes (dos_q2 l d).fst.why (eN.ag (dos_q2 l d).fst.ents)) [] (dos_q2 l d).snd else bif d.kind==(2:Int)then Sd.mk (Ld.mk (dos_q3 l d).fst.workers (dos_q3 l d).fst.stage (dos_q3 l d).fst.ver (dos_q3 l d).fst.cut (Dl.mk (eI.ag (dos_q3 l d).fst.dl.drop) (eD.ag (dos_q3 l d).fst.dl.put) (eV.ag (dos_q3 l d).fst.dl.moves)) (eBool.ag (dos_q3 l d).fst.voted) (dos_q3 l d).fst.yes (dos_q3 l d).fst.why (eN.ag (dos_q3 l d).fst.ents)) ([]++[Ms.mk (dos_q3 l d).snd.fst.kind (dos_q3 l d).snd.fst.ver (dos_q3 l d).snd.fst.p (dos_q3 l d).snd.fst.t (eR.ag (dos_q3 l d).snd.fst.recs) (eC.ag (dos_q3 l d).snd.fst.changes) (Dl.mk (eI.ag (dos_q3 l d).snd.fst.dl.drop) (eD.ag (dos_q3 l d).snd.fst.dl.put) (eV.ag (dos_q3 l d).snd.fst.dl.moves)) (dos_q3 l d).snd.fst.cut (eN.ag (dos_q3 l d).snd.fst.ents) (dos_q3 l d).snd.fst.yes (dos_q3 l d).snd.fst.why]) (dos_q3 l d).snd.snd else bif d.kind==(3:Int)then Sd.mk (Ld.mk (dos_q4 l d).fst.workers (dos_q4 l d).fst.stage (dos_q4 l d).fst.ver (dos_q4 l d).fst.cut (Dl.mk (eI.ag (dos_q4 l d).fst.dl.drop) (eD.ag (dos_q4 l d).fst.dl.put) (eV.ag (dos_q4 l d).fst.dl.moves)) (eBool.ag (dos_q4 l d).fst.voted) (dos_q4 l d).fst.yes (dos_q4 l d).fst.why (eN.ag (dos_q4 l d).fst.ents)) [] (dos_q4 l d).snd else Sd.mk (Ld.mk (dos_q5 l d).fst.workers (dos_q5 l d).fst.stage (dos_q5 l d).fst.ver (dos_q5 l d).fst.cut (Dl.mk (eI.ag (dos_q5 l d).fst.dl.drop) (eD.ag (dos_q5 l d).fst.dl.put) (eV.ag (dos_q5 l d).fst.dl.moves)) (eBool.ag (dos_q5 l d).fst.voted) (dos_q5 l d).fst.yes (dos_q5 l d).fst.why (eN.ag (dos_q5 l d).fst.ents)) (eMs.ag (dos_q5 l d).snd.fst) (dos_q5 l d).snd.snd
def dos_side(l:Ld)(d:Do):Prop:=
 ((d.kind==(0:Int))=true->eI.okL l.dl.drop/\eD.okL l.dl.put/\eV.okL l.dl.moves/\eBool.okL l.voted/\eN.okL l.ents/\eI.okL d.dl.drop/\eD.okL d.dl.put/\eV.okL d.dl.moves/\fewD (Dl.mk (eI.ag d.dl.drop) (eD.ag d.dl.put) (eV.ag d.dl.moves))/\eI.okL (dos_q1 l d).fst.dl.drop/\eD.okL (dos_q1 l d).fst.dl.put/\eV.okL (dos_q1 l d).fst.dl.moves/\eBool.okL (dos_q1 l d).fst.voted/\eN.okL (dos_q1 l d).fst.ents/\eR.okL (dos_q1 l d).snd.fst.recs/\eC.okL (dos_q1 l d).snd.fst.changes/\eI.okL (dos_q1 l d).snd.fst.dl.drop/\eD.okL (dos_q1 l d).snd.fst.dl.put/\eV.okL (dos_q1 l d).snd.fst.dl.moves/\eN.okL (dos_q1 l d).snd.fst.ents)/\((d.kind==(0:Int))=false->((d.kind==(1:Int))=true->eI.okL l.dl.drop/\eD.okL l.dl.put/\eV.okL l.dl.moves/\eBool.okL l.voted/\eN.okL l.ents/\eR.okL d.m.recs/\eC.okL d.m.changes/\eI.okL d.m.dl.drop/\eD.okL d.m.dl.put/\eV.okL d.m.dl.moves/\eN.okL d.m.ents/\fewI (Ld.mk l.workers l.stage l.ver l.cut (Dl.mk (eI.ag l.dl.drop) (eD.ag l.dl.put) (eV.ag l.dl.moves)) (eBool.ag l.voted) l.yes l.why (eN.ag l.ents),d.worker,Ms.mk d.m.kind d.m.ver d.m.p d.m.t (eR.ag d.m.recs) (eC.ag d.m.changes) (Dl.mk (eI.ag d.m.dl.drop) (eD.ag d.m.dl.put) (eV.ag d.m.dl.moves)) d.m.cut (eN.ag d.m.ents) d.m.yes d.m.why)/\eI.okL (dos_q2 l d).fst.dl.drop/\eD.okL (dos_q2 l d).fst.dl.put/\eV.okL (dos_q2 l d).fst.dl.moves/\eBool.okL (dos_q2 l d).fst.voted/\eN.okL (dos_q2 l d).fst.ents)/\((d.kind==(1:Int))=false->((d.kind==(2:Int))=true->eI.okL l.dl.drop/\eD.okL l.dl.put/\eV.okL l.dl.moves/\eBool.okL l.voted/\eN.okL l.ents/\fewL (Ld.mk l.workers l.stage l.ver l.cut (Dl.mk (eI.ag l.dl.drop) (eD.ag l.dl.put) (eV.ag l.dl.moves)) (eBool.ag l.voted) l.yes l.why (eN.ag l.ents))/\eI.okL (dos_q3 l d).fst.dl.drop/\eD.okL (dos_q3 l d).fst.dl.put/\eV.okL (dos_q3 l d).fst.dl.moves/\eBool.okL (dos_q3 l d).fst.voted/\eN.okL (dos_q3 l d).fst.ents/\eR.okL (dos_q3 l d).snd.fst.recs/\eC.okL (dos_q3 l d).snd.fst.changes/\eI.okL (dos_q3 l d).snd.fst.dl.drop/\eD.okL (dos_q3 l d).snd.fst.dl.put/\eV.okL (dos_q3 l d).snd.fst.dl.moves/\eN.okL (dos_q3 l d).snd.fst.ents)/\((d.kind==(2:Int))=false->((d.kind==(3:Int))=true->eI.okL l.dl.drop/\eD.okL l.dl.put/\eV.okL l.dl.moves/\eBool.okL l.voted/\eN.okL l.ents/\fewL (Ld.mk l.workers l.stage l.ver l.cut (Dl.mk (eI.ag l.dl.drop) (eD.ag l.dl.put) (eV.ag l.dl.moves)) (eBool.ag l.voted) l.yes l.why (eN.ag l.ents))/\eI.okL (dos_q4 l d).fst.dl.drop/\eD.okL (dos_q4 l d).fst.dl.put/\eV.okL (dos_q4 l d).fst.dl.moves/\eBool.okL (dos_q4 l d).fst.voted/\eN.okL (dos_q4 l d).fst.ents)/\((d.kind==(3:Int))=false->eI.okL l.dl.drop/\eD.okL l.dl.put/\eV.okL l.dl.moves/\eBool.okL l.voted/\eN.okL l.ents/\(eN.ag l.ents).length<=KS/\eI.okL (dos_q5 l d).fst.dl.drop/\eD.okL (dos_q5 l d).fst.dl.put/\eV.okL (dos_q5 l d).fst.dl.moves/\eBool.okL (dos_q5 l d).fst.voted/\eN.okL (dos_q5 l d).fst.ents/\eMs.okL (dos_q5 l d).snd.fst))))
theorem dos_okS(pre:DA.T aLO->List Prop)(h:∀g,DA.bd aLO g->(∀p∈pre g,p)->dos_side g.1 g.2):FnPure Tryd.prog 14 aLO (Rv.D rSd) (λg=>dos_F g.1 g.2) pre:=res_of_side (R:=rSd) (Γ:=(PTab.gamz tabT6 [] [])) (Λ:=noΛ) (PTab.okz tabT6 [] []) noΛ_ok 100 default (λg=>dos_side g.1 g.2) (λg=>by kernel_rfl) (λg=>by kernel_rfl) h
end Go.Proofs.YtfkdbifgppfegaaDoor

namespace Go.Proofs.YtfkdbifgppfegaaDoor
open Go.RowKit Go.Sx
set_option maxRecDepth 100000
noncomputable def wts_q1(l:Ld)(d:Do):Ld×
 Ms×Int:=
 subS (Ld.mk l.workers l.stage l.ver l.cut (Dl.mk (eI.ag l.dl.drop) (eD.ag l.dl.put) (eV.ag l.dl.moves)) (eBool.ag l.voted) l.yes l.why (eN.ag l.ents)) (Dl.mk (eI.ag d.dl.drop) (eD.ag d.dl.put) (eV.ag d.dl.moves)) d.cut
noncomputable def wts_q2(l:Ld)(d:Do):Ld×
 Int:=
 heaS (Ld.mk l.workers l.stage l.ver l.cut (Dl.mk (eI.ag l.dl.drop) (eD.ag l.dl.put) (eV.ag l.dl.moves)) (eBool.ag l.voted) l.yes l.why (eN.ag l.ents)) d.worker (Ms.mk d.m.kind d.m.ver d.m.p d.m.t (eR.ag d.m.recs) (eC.ag d.m.changes) (Dl.mk (eI.ag d.m.dl.drop) (eD.ag d.m.dl.put) (eV.ag d.m.dl.moves)) d.m.cut (eN.ag d.m.ents) d.m.yes d.m.why)
noncomputable def wts_q3(l:Ld)(d:Do):Ld×
 Ms×Int:=
 drnS (Ld.mk l.workers l.stage l.ver l.cut (Dl.mk (eI.ag l.dl.drop) (eD.ag l.dl.put) (eV.ag l.dl.moves)) (eBool.ag l.voted) l.yes l.why (eN.ag l.ents))
noncomputable def wts_q4(l:Ld)(d:Do):Ld×
 Int:=
 abtS (Ld.mk l.workers l.stage l.ver l.cut (Dl.mk (eI.ag l.dl.drop) (eD.ag l.dl.put) (eV.ag l.dl.moves)) (eBool.ag l.voted) l.yes l.why (eN.ag l.ents)) d.why
noncomputable def wts_q5(l:Ld)(d:Do):Ld×
 List Ms×Int:=
 endM (Ld.mk l.workers l.stage l.ver l.cut (Dl.mk (eI.ag l.dl.drop) (eD.ag l.dl.put) (eV.ag l.dl.moves)) (eBool.ag l.voted) l.yes l.why (eN.ag l.ents))
noncomputable def wts_F(l:Ld)(d:Do):Rv.T rSd:=
 bif d.kind==(0:Int)then Sd.mk (Ld.mk (wts_q1 l d).fst.workers (wts_q1 l d).fst.stage (wts_q1 l d).fst.ver (wts_q1 l d).fst.cut (Dl.mk (eI.ag (wts_q1 l d).fst.dl.drop) (eD.ag (wts_q1 l d).fst.dl.put) (eV.ag (wts_q1 l d).fst.dl.moves)) (eBool.ag (wts_q1 l d).fst.voted) (wts_q1 l d).fst.yes (wts_q1 l d).fst.why (eN.ag (wts_q1 l d).fst.ents)) ([]++[Ms.mk (wts_q1 l d).snd.fst.kind (wts_q1 l d).snd.fst.ver (wts_q1 l d).snd.fst.p (wts_q1 l d).snd.fst.t (eR.ag (wts_q1 l d).snd.fst.recs) (eC.ag (wts_q1 l d).snd.fst.changes) (Dl.mk (eI.ag (wts_q1 l d).snd.fst.dl.drop) (eD.ag (wts_q1 l d).snd.fst.dl.put) (eV.ag (wts_q1 l d).snd.fst.dl.moves)) (wts_q1 l d).snd.fst.cut (eN.ag (wts_q1 l d).snd.fst.ents) (wts_q1 l d).snd.fst.yes (wts_q1 l d).snd.fst.why]) (wts_q1 l d).snd.snd
 else bif d.kind==(1:Int)then Sd.mk (Ld.mk (wts_q2 l d).fst.workers (wts_q2 l d).fst.stage (wts_q2 l d).fst.ver (wts_q2 l d).fst.cut (Dl.mk (eI.ag (wts_q2 l d).fst.dl.drop) (eD.ag (wts_q2 l d).fst.dl.put) (eV.ag (wts_q2 l d).fst.dl.moves)) (eBool.ag (wts_q2 l d).fst.voted) (wts_q2 l d).fst.yes (wts_q2 l d).fst.why (eN.ag (wts_q2 l d).fst.ents)) [] (wts_q2 l d).snd else bif d.kind==(2:Int)then Sd.mk (Ld.mk (wts_q3 l d).fst.workers (wts_q3 l d).fst.stage (wts_q3 l d).fst.ver (wts_q3 l d).fst.cut (Dl.mk (eI.ag (wts_q3 l d).fst.dl.drop) (eD.ag (wts_q3 l d).fst.dl.put) (eV.ag (wts_q3 l d).fst.dl.moves)) (eBool.ag (wts_q3 l d).fst.voted) (wts_q3 l d).fst.yes (wts_q3 l d).fst.why (eN.ag (wts_q3 l d).fst.ents)) ([]++[Ms.mk (wts_q3 l d).snd.fst.kind (wts_q3 l d).snd.fst.ver (wts_q3 l d).snd.fst.p (wts_q3 l d).snd.fst.t (eR.ag (wts_q3 l d).snd.fst.recs) (eC.ag (wts_q3 l d).snd.fst.changes) (Dl.mk (eI.ag (wts_q3 l d).snd.fst.dl.drop) (eD.ag (wts_q3 l d).snd.fst.dl.put) (eV.ag (wts_q3 l d).snd.fst.dl.moves)) (wts_q3 l d).snd.fst.cut (eN.ag (wts_q3 l d).snd.fst.ents) (wts_q3 l d).snd.fst.yes (wts_q3 l d).snd.fst.why]) (wts_q3 l d).snd.snd else bif d.kind==(3:Int)then Sd.mk (Ld.mk (wts_q4 l d).fst.workers (wts_q4 l d).fst.stage (wts_q4 l d).fst.ver (wts_q4 l d).fst.cut (Dl.mk (eI.ag (wts_q4 l d).fst.dl.drop) (eD.ag (wts_q4 l d).fst.dl.put) (eV.ag (wts_q4 l d).fst.dl.moves)) (eBool.ag (wts_q4 l d).fst.voted) (wts_q4 l d).fst.yes (wts_q4 l d).fst.why (eN.ag (wts_q4 l d).fst.ents)) [] (wts_q4 l d).snd else Sd.mk (Ld.mk (wts_q5 l d).fst.workers (wts_q5 l d).fst.stage (wts_q5 l d).fst.ver (wts_q5 l d).fst.cut (Dl.mk (eI.ag (wts_q5 l d).fst.dl.drop) (eD.ag (wts_q5 l d).fst.dl.put) (eV.ag (wts_q5 l d).fst.dl.moves)) (eBool.ag (wts_q5 l d).fst.voted) (wts_q5 l d).fst.yes (wts_q5 l d).fst.why (eN.ag (wts_q5 l d).fst.ents)) (eMs.ag (wts_q5 l d).snd.fst) (wts_q5 l d).snd.snd
def wts_side(l:Ld)(d:Do):Prop:=
 ((d.kind==(0:Int))=true->eI.okL l.dl.drop/\eD.okL l.dl.put/\eV.okL l.dl.moves/\eBool.okL l.voted/\eN.okL l.ents/\eI.okL d.dl.drop/\eD.okL d.dl.put/\eV.okL d.dl.moves/\fewD (Dl.mk (eI.ag d.dl.drop) (eD.ag d.dl.put) (eV.ag d.dl.moves))/\eI.okL (wts_q1 l d).fst.dl.drop/\eD.okL (wts_q1 l d).fst.dl.put/\eV.okL (wts_q1 l d).fst.dl.moves/\eBool.okL (wts_q1 l d).fst.voted/\eN.okL (wts_q1 l d).fst.ents/\eR.okL (wts_q1 l d).snd.fst.recs/\eC.okL (wts_q1 l d).snd.fst.changes/\eI.okL (wts_q1 l d).snd.fst.dl.drop/\eD.okL (wts_q1 l d).snd.fst.dl.put/\eV.okL (wts_q1 l d).snd.fst.dl.moves/\eN.okL (wts_q1 l d).snd.fst.ents)/\((d.kind==(0:Int))=false->((d.kind==(1:Int))=true->eI.okL l.dl.drop/\eD.okL l.dl.put/\eV.okL l.dl.moves/\eBool.okL l.voted/\eN.okL l.ents/\eR.okL d.m.recs/\eC.okL d.m.changes/\eI.okL d.m.dl.drop/\eD.okL d.m.dl.put/\eV.okL d.m.dl.moves/\eN.okL d.m.ents/\fewI (Ld.mk l.workers l.stage l.ver l.cut (Dl.mk (eI.ag l.dl.drop) (eD.ag l.dl.put) (eV.ag l.dl.moves)) (eBool.ag l.voted) l.yes l.why (eN.ag l.ents),d.worker,Ms.mk d.m.kind d.m.ver d.m.p d.m.t (eR.ag d.m.recs) (eC.ag d.m.changes) (Dl.mk (eI.ag d.m.dl.drop) (eD.ag d.m.dl.put) (eV.ag d.m.dl.moves)) d.m.cut (eN.ag d.m.ents) d.m.yes d.m.why)/\eI.okL (wts_q2 l d).fst.dl.drop/\eD.okL (wts_q2 l d).fst.dl.put/\eV.okL (wts_q2 l d).fst.dl.moves/\eBool.okL (wts_q2 l d).fst.voted/\eN.okL (wts_q2 l d).fst.ents)/\((d.kind==(1:Int))=false->((d.kind==(2:Int))=true->eI.okL l.dl.drop/\eD.okL l.dl.put/\eV.okL l.dl.moves/\eBool.okL l.voted/\eN.okL l.ents/\fewL (Ld.mk l.workers l.stage l.ver l.cut (Dl.mk (eI.ag l.dl.drop) (eD.ag l.dl.put) (eV.ag l.dl.moves)) (eBool.ag l.voted) l.yes l.why (eN.ag l.ents))/\eI.okL (wts_q3 l d).fst.dl.drop/\eD.okL (wts_q3 l d).fst.dl.put/\eV.okL (wts_q3 l d).fst.dl.moves/\eBool.okL (wts_q3 l d).fst.voted/\eN.okL (wts_q3 l d).fst.ents/\eR.okL (wts_q3 l d).snd.fst.recs/\eC.okL (wts_q3 l d).snd.fst.changes/\eI.okL (wts_q3 l d).snd.fst.dl.drop/\eD.okL (wts_q3 l d).snd.fst.dl.put/\eV.okL (wts_q3 l d).snd.fst.dl.moves/\eN.okL (wts_q3 l d).snd.fst.ents)/\((d.kind==(2:Int))=false->((d.kind==(3:Int))=true->eI.okL l.dl.drop/\eD.okL l.dl.put/\eV.okL l.dl.moves/\eBool.okL l.voted/\eN.okL l.ents/\fewL (Ld.mk l.workers l.stage l.ver l.cut (Dl.mk (eI.ag l.dl.drop) (eD.ag l.dl.put) (eV.ag l.dl.moves)) (eBool.ag l.voted) l.yes l.why (eN.ag l.ents))/\eI.okL (wts_q4 l d).fst.dl.drop/\eD.okL (wts_q4 l d).fst.dl.put/\eV.okL (wts_q4 l d).fst.dl.moves/\eBool.okL (wts_q4 l d).fst.voted/\eN.okL (wts_q4 l d).fst.ents)/\((d.kind==(3:Int))=false->eI.okL l.dl.drop/\eD.okL l.dl.put/\eV.okL l.dl.moves/\eBool.okL l.voted/\eN.okL l.ents/\(eN.ag l.ents).length<=KS/\eI.okL (wts_q5 l d).fst.dl.drop/\eD.okL (wts_q5 l d).fst.dl.put/\eV.okL (wts_q5 l d).fst.dl.moves/\eBool.okL (wts_q5 l d).fst.voted/\eN.okL (wts_q5 l d).fst.ents/\eMs.okL (wts_q5 l d).snd.fst))))
theorem wts_okS(pre:DA.T aLO->List Prop)(h:∀g,DA.bd aLO g->(∀p∈pre g,p)->wts_side g.1 g.2):FnPure Tryd.prog 16 aLO (Rv.D rSd) (λg=>wts_F g.1 g.2) pre:=res_of_side (R:=rSd) (Γ:=(PTab.gamz tabT7 [] [])) (Λ:=noΛ) (PTab.okz tabT7 [] []) noΛ_ok 100 default (λg=>wts_side g.1 g.2) (λg=>by kernel_rfl) (λg=>by kernel_rfl) h
end Go.Proofs.YtfkdbifgppfegaaDoor

namespace Go.Proofs.YtfkdbifgppfegaaDoor
open Go.RowKit Go.Sx Go.Lp
set_option maxRecDepth 100000
def fewO(d:Do):Prop:=fewD d.dl/\d.m.ents.length<=KS
def fewLO(g:Ld×Do):Prop:=fewL g.1/\fewO g.2
theorem dl_eta(d:Dl):Dl.mk d.drop d.put d.moves=d:=rfl
theorem dos_eq(l:Ld)(d:Do):dos_F l d=doS l d:=by
 have q1:dos_q1 l d=subS l d.dl d.cut:=by unfold dos_q1;simp only[El.ag_eq,ld_eta,dl_eta]
 have q2:dos_q2 l d=heaS l d.worker d.m:=by unfold dos_q2;simp only[El.ag_eq,ld_eta,ms_eta]
 have q3:dos_q3 l d=drnS l:=by unfold dos_q3;simp only[El.ag_eq,ld_eta]
 have q4:dos_q4 l d=abtS l d.why:=by unfold dos_q4;simp only[El.ag_eq,ld_eta]
 have q5:dos_q5 l d=endM l:=by unfold dos_q5;simp only[El.ag_eq,ld_eta]
 unfold dos_F doS;simp only[El.ag_eq,ld_eta,ms_eta,List.nil_append,q1,q2,q3,q4,q5]
theorem dos_ok:FnPure Tryd.prog 14 aLO dSd (λg=>doS g.1 g.2) (λg=>[fewLO g]):=
 pure_congr (dos_okS (λg=>[fewLO g]) λg _ hp=>by
  obtain⟨l,d⟩:=g;obtain⟨h1,h2,h3⟩:fewLO (l,d):=hp _ (List.mem_cons_self ..);have h4:l.ents.length<=KS:=h1.2.2;show dos_side l d;unfold dos_side;simp only[El.okL_eq,El.ag_eq,ld_eta,ms_eta,dl_eta,true_and,and_true,implies_true,h2,h1,h4]
  first|done|exactλ_ _=>h3|exactλ_ _=>⟨h1,h3⟩) λg _ _=>dos_eq g.1 g.2
theorem wts_eq(l:Ld)(d:Do):wts_F l d=doS l d:=by
 have q1:wts_q1 l d=subS l d.dl d.cut:=by unfold wts_q1;simp only[El.ag_eq,ld_eta,dl_eta]
 have q2:wts_q2 l d=heaS l d.worker d.m:=by unfold wts_q2;simp only[El.ag_eq,ld_eta,ms_eta]
 have q3:wts_q3 l d=drnS l:=by unfold wts_q3;simp only[El.ag_eq,ld_eta]
 have q4:wts_q4 l d=abtS l d.why:=by unfold wts_q4;simp only[El.ag_eq,ld_eta]
 have q5:wts_q5 l d=endM l:=by unfold wts_q5;simp only[El.ag_eq,ld_eta]
 unfold wts_F doS;simp only[El.ag_eq,ld_eta,ms_eta,List.nil_append,q1,q2,q3,q4,q5]
theorem wts_ok:FnPure Tryd.prog 16 aLO dSd (λg=>doS g.1 g.2) (λg=>[fewLO g]):=
 pure_congr (wts_okS (λg=>[fewLO g]) λg _ hp=>by
  obtain⟨l,d⟩:=g;obtain⟨h1,h2,h3⟩:fewLO (l,d):=hp _ (List.mem_cons_self ..);have h4:l.ents.length<=KS:=h1.2.2;show wts_side l d;unfold wts_side;simp only[El.okL_eq,El.ag_eq,ld_eta,ms_eta,dl_eta,true_and,and_true,implies_true,h2,h1,h4]
  first|done|exactλ_ _=>h3|exactλ_ _=>⟨h1,h3⟩) λg _ _=>wts_eq g.1 g.2
theorem alk_ok:FnPure Tryd.prog 15 aSS dBool (λg=>decide (g.1=g.2)) (λ_=>[]):=by
 refine pure_congr (alk_okS (λ_=>[]) λg _ _=>?_) λg _ _=>?_
 .show alk_side g.1 g.2;unfold alk_side;simp only[El.okL_eq,El.ag_eq,and_true,implies_true]
 .obtain⟨⟨l,ms,e⟩,⟨l',ms',e'⟩⟩:=g;show alk_F ⟨l,ms,e⟩ ⟨l',ms',e'⟩=_;unfold alk_F;simp only[El.ag_eq,ld_eta];rw[Bool.eq_iff_iff];simp only[Bool.and_eq_true,decide_eq_true_eq,beq_iff_eq,Sd.mk.injEq];constructor
  .rintro⟨h1,h2,h3⟩;exact⟨h1,h3,h2⟩
  .rintro⟨h1,h2,h3⟩;exact⟨h1,h3,h2⟩
end Go.Proofs.YtfkdbifgppfegaaDoor

namespace Go.Proofs.YtfkdbifgppfegaaDoor
open Go.RowKit Go.Sx Go.Lp
set_option maxRecDepth 100000
def newS(n:Int):Ld×Int:=bif decide (n<1)||decide (n>16)then(idleL 0 0,1)else(idleL n 0,0)
theorem nw1_ok:FnPure Tryd.prog 12 aI dLE newS (λ_=>[]):=
 pure_congr (nw1_okS (λ_=>[]) λn _ _=>by
  show nw1_side n;unfold nw1_side;simp only[El.okL_eq,and_true,implies_true]) λn _ _=>by
  show nw1_F n=newS n;unfold nw1_F newS;rfl
theorem nw2_ok:FnPure Tryd.prog 19 aI dLE newS (λ_=>[]):=
 pure_congr (nw2_okS (λ_=>[]) λn _ _=>by
  show nw2_side n;unfold nw2_side;simp only[El.okL_eq,and_true,implies_true]) λn _ _=>by
  show nw2_F n=newS n;unfold nw2_F newS;rfl
def alkD(a b:Sd):Bool:=decide (a=b)
def sameD(a b:Ld):Bool:=decide (a=b)
def eqD(a b:List Int):Bool:=decide (a=b)
noncomputable def tabZ6a:PTab Tryd.prog:=((((((tabG8.cons 9 (pconP aL dBool sml_F (λ_=>[])) (conP_ok sml_ok puB)).cons 13 (pconP (.one dO) dBool few21_F (λ_=>[])) (conP_ok few21_ok puB)).cons 8 (pconP .none dBool (λ_=>true) (λ_=>[])) (conP_ok lv_ok puB)).cons 14 (pconR aLO dSd (λg=>doS g.1 g.2) (λg=>[fewLO g])) (conR_ok dos_ok)).cons 16 (pconR aLO dSd (λg=>doS g.1 g.2) (λg=>[fewLO g])) (conR_ok wts_ok)).cons 15 (pconP aSS dBool (λg=>alkD g.1 g.2) (λ_=>[])) (conP_ok alk_ok puB))
noncomputable def tabZ6:PTab Tryd.prog:=(((((((tabZ6a.cons 18 (pconR aL dWt waiL (λl=>[l.voted.length<=KS])) (conR_ok wai_ok)).cons 23 (pconR aL dLI waiL (λl=>[l.voted.length<=KS])) (conR_ok dwa_ok)).cons 22 (pconR aWt dLI (λxs=>xs) (λxs=>[xs.length<=KS])) (conR_ok col_ok)).cons 12 (pconR aI dLE newS (λ_=>[])) (conR_ok nw1_ok)).cons 19 (pconR aI dLE newS (λ_=>[])) (conR_ok nw2_ok)).cons 21 (pconP (.cons (.list eI) (.one (.list eI))) dBool (λg=>eqD g.1 g.2) (λ_=>[])) (conP_ok eI1_ok puB)).cons 24 (pconP aLL dBool (λg=>sameD g.1 g.2) (λ_=>[])) (conP_ok vsm_ok puB)).cons 11 (pconP aLL dBool (λg=>sameD g.1 g.2) (λ_=>[])) (conP_ok rvsm_ok puB)
end Go.Proofs.YtfkdbifgppfegaaDoor

namespace Go.Proofs.YtfkdbifgppfegaaDoor
open Go.RowKit Go.Sx
set_option maxRecDepth 100000
end Go.Proofs.YtfkdbifgppfegaaDoor

namespace Go.Proofs.YtfkdbifgppfegaaDoor
open Go.RowKit Go.Sx Go.Lp
set_option maxRecDepth 100000
theorem inp_few{d:Dl}(h1:(d.drop.length:Int)<=60)(h2:(d.put.length:Int)<=60)(h3:(d.moves.length:Int)<=60)(h:inpS d=true):fewD d:=by
 refine⟨by unfold KS;omega,⟨by unfold KS;omega,λx hx=>?_⟩,by unfold KS;omega⟩;unfold inpS at h;simp only[Bool.not_eq_true',List.any_eq_false,decide_eq_true_eq]at h;have:=h x hx;unfold KS;omega
theorem few_few{d:Do}(h:few21_F d=true):fewO d:=by
 unfold few21_F at h;simp only[El.ag_eq,Bool.and_eq_true,decide_eq_true_eq]at h;obtain⟨h1,h2,h3,h4,_,_,_,_,_,h5,_⟩:=h;exact⟨inp_few h1 h2 h3 h5,by unfold KS;omega⟩
theorem do_eta(d:Do):Do.mk d.kind d.worker d.cut d.why d.dl d.m=d:=rfl
end Go.Proofs.YtfkdbifgppfegaaDoor

namespace Go.Proofs.YtfkdbifgppfegaaDoor
open Go.RowKit Go.Sx
set_option maxRecDepth 100000
abbrev dLO:Dv (List Do):=.list eO
end Go.Proofs.YtfkdbifgppfegaaDoor

namespace Go.Proofs.YtfkdbifgppfegaaDoor
open Go.RowKit Go.Sx Go.Lp
set_option maxRecDepth 100000
theorem chk_st0(l:Ld)(h:l.stage=0):chkL l=bif rgB l&&decide (l=idleL l.workers l.ver)then(0:Int)else(213:Int):=by
 unfold chkL chkB;rw[h];rfl
theorem chk_st2(l:Ld)(h:l.stage=2):chkL l=bif rgB l&&(ccB l&&(decide ((l.ents.length:Int)<=(1024:Int))&&(((l.ents.length:Int)==(0:Int)||(l.yes&&false))&&(l.yes&&(l.voted.length:Int)==(0:Int)))))then(0:Int)else(213:Int):=by
 unfold chkL chkB;rw[h];rfl
theorem chk_st4(l:Ld)(h:l.stage=4):chkL l=bif rgB l&&(ccB l&&(decide ((l.ents.length:Int)<=(1024:Int))&&(((l.ents.length:Int)==(0:Int)||(l.yes&&true))&&(l.voted.length:Int)==(0:Int))))then(0:Int)else(213:Int):=by
 unfold chkL chkB;rw[h];rfl
theorem chk_rg0{l:Ld}(h:chkL l=0):rgB l=true:=chk_rg (by rw[h];rfl)
structure Inv(l:Ld):Prop where
 c:chkL l=0
 d:fewD l.dl
 v:l.stage=0\/l.ver<1099511627776
theorem Inv.st{l:Ld}(h:Inv l):l.stage=0\/l.stage=2\/l.stage=4\/(!l.stage==1&&!l.stage==3)=false:=by
 have:=of_decide_eq_true (chk_rg0 h.c);have e:l.stage=0\/l.stage=1\/l.stage=2\/l.stage=3\/l.stage=4:=by omega
 rcases e with e|e|e|e|e<;>rw[e]<;>decide
theorem ne0{l:Ld}(h:chkL l=0):(chkL l !=0)=false:=by rw[h];rfl
theorem len0{α:Type}{l:List α}(h:((l.length:Int)==(0:Int))=true):l=[]:=by
 have:(l.length:Int)=0:=by simpa using h
 exact List.length_eq_zero_iff.1 (by omega)
theorem Inv.few{l:Ld}(h:Inv l):fewL l:=by
 have hr:=of_decide_eq_true (chk_rg0 h.c)
 have key:l.voted.length<=16/\l.ents.length<=1024:=by
  rcases h.st with e|e|e|e
  .have:=h.c;rw[chk_st0 l e]at this;have:=bif213 this;simp only[Bool.and_eq_true,decide_eq_true_eq]at this;rw[this.2];exact⟨Nat.zero_le _,Nat.zero_le _⟩
  .have:=h.c;rw[chk_st2 l e]at this;have:=bif213 this;simp only[Bool.and_eq_true,decide_eq_true_eq]at this;obtain⟨_,_,k1,_,_,k2⟩:=this;rw[len0 k2];exact⟨Nat.zero_le _,by omega⟩
  .have:=h.c;rw[chk_st4 l e]at this;have:=bif213 this;simp only[Bool.and_eq_true,decide_eq_true_eq]at this;obtain⟨_,_,k1,_,k2⟩:=this;rw[len0 k2];exact⟨Nat.zero_le _,by omega⟩
  .obtain⟨_,_,k1,_,k2,_⟩:=chk_ask (ne0 h.c) e;omega
 exact⟨h.d,by unfold KS;omega,by unfold KS;omega⟩
theorem few0:fewD ⟨[],[],[]⟩:=⟨Nat.zero_le _,⟨Nat.zero_le _,λx hx=>by cases hx⟩,Nat.zero_le _⟩
theorem inv_idle{w v:Int}(hw:1<=w/\w<=16)(hv:0<=v/\v<=1099511627776):Inv (idleL w v):=⟨by
 rw[chk_st0 _ rfl];have e1:rgB (idleL w v)=true:=decide_eq_true ⟨hw.1,hw.2,Int.le_refl _,by show(0:Int)<=4;decide,hv.1,hv.2⟩;rw[e1,decide_eq_true (show idleL w v=idleL (idleL w v).workers (idleL w v).ver from rfl)];rfl,few0,.inl rfl⟩
theorem has_rep{n:Nat}(h:1<=n):hasB (List.replicate n false) false=true:=by
 obtain⟨m,rfl⟩:∃m,n=m+1:=⟨n-1,by omega⟩;rw[List.replicate_succ,hasB_cons];rfl
theorem chk_mk{w s v c:Int}{dl:Dl}{vs:List Bool}{y:Bool}{why:Int}{es:List Ent}(hr:rgB ⟨w,s,v,c,dl,vs,y,why,es⟩=true)(hs:s=1\/s=3)(hc:ccB ⟨w,s,v,c,dl,vs,y,why,es⟩=true)(h1:(es.length:Int)<=1024)(h0:((es.length:Int)==0||(y&&s==3))=true)(hv:(vs.length:Int)=w)(hb:hasB vs false=true):chkL ⟨w,s,v,c,dl,vs,y,why,es⟩=0:=by
 rw[chk_13 _ hs];show(bif rgB ⟨w,s,v,c,dl,vs,y,why,es⟩&&(ccB ⟨w,s,v,c,dl,vs,y,why,es⟩&&(decide ((es.length:Int)<=(1024:Int))&&(((es.length:Int)==(0:Int)||(y&&s==(3:Int)))&&((vs.length:Int)==w&&hasB vs false))))then(0:Int)else(213:Int))=0;rw[hr,hc,decide_eq_true h1,h0,hb,hv];simp
theorem chk_mk4{w v c:Int}{dl:Dl}{y:Bool}{why:Int}{es:List Ent}(hr:rgB ⟨w,4,v,c,dl,[],y,why,es⟩=true)(hc:ccB ⟨w,4,v,c,dl,[],y,why,es⟩=true)(h1:(es.length:Int)<=1024)(h0:((es.length:Int)==0||y)=true):chkL ⟨w,4,v,c,dl,[],y,why,es⟩=0:=by
 rw[chk_st4 _ rfl];show(bif rgB ⟨w,4,v,c,dl,[],y,why,es⟩&&(ccB ⟨w,4,v,c,dl,[],y,why,es⟩&&(decide ((es.length:Int)<=(1024:Int))&&(((es.length:Int)==(0:Int)||(y&&true))&&true)))then(0:Int)else(213:Int))=0;rw[hr,hc,decide_eq_true h1,Bool.and_true y,h0];rfl
theorem chk_mk2{w v c:Int}{dl:Dl}{why:Int}(hr:rgB ⟨w,2,v,c,dl,[],true,why,[]⟩=true)(hc:ccB ⟨w,2,v,c,dl,[],true,why,[]⟩=true):chkL ⟨w,2,v,c,dl,[],true,why,[]⟩=0:=by
 rw[chk_st2 _ rfl];show(bif rgB ⟨w,2,v,c,dl,[],true,why,[]⟩&&(ccB ⟨w,2,v,c,dl,[],true,why,[]⟩&&true)then(0:Int)else(213:Int))=0;rw[hr,hc];rfl
theorem rg_mk{w s v c:Int}{dl:Dl}{vs:List Bool}{y:Bool}{why:Int}{es:List Ent}(hw:1<=w/\w<=16)(hs:0<=s/\s<=4)(hv:0<=v/\v<=1099511627776):rgB ⟨w,s,v,c,dl,vs,y,why,es⟩=true:=decide_eq_true ⟨hw.1,hw.2,hs.1,hs.2,hv.1,hv.2⟩
theorem cc_mk{w s v c:Int}{dl:Dl}{vs:List Bool}{y:Bool}{why:Int}{es:List Ent}(hc:1<=c/\c<=1073741824)(hy:((why==0)==y)=true):ccB ⟨w,s,v,c,dl,vs,y,why,es⟩=true:=by
 unfold ccB;rw[hy,decide_eq_true hc];rfl
theorem cc_of{l:Ld}(h:ccB l=true):(1<=l.cut/\l.cut<=1073741824)/\((l.why==0)==l.yes)=true:=by
 unfold ccB at h;simp only[Bool.and_eq_true,decide_eq_true_eq]at h;exact h
end Go.Proofs.YtfkdbifgppfegaaDoor

namespace Go.Proofs.YtfkdbifgppfegaaDoor
open Go.RowKit Go.Sx Go.Lp
set_option maxRecDepth 100000
theorem rng{l:Ld}(h:Inv l):(1<=l.workers/\l.workers<=16)/\0<=l.ver/\l.ver<=1099511627776:=by
 have:=of_decide_eq_true (chk_rg0 h.c);exact⟨⟨this.1,this.2.1⟩,this.2.2.2.2.1,this.2.2.2.2.2⟩
theorem inv_sub{l:Ld}{d:Dl}{c:Int}(h:Inv l)(hd:fewD d):Inv (subS l d c).1:=by
 obtain⟨hw,hv⟩:=rng h;unfold subS;rw[ne0 h.c,cond_false];cases h1:(l.stage !=0)with
 |true=>exact h
 |false=>
  rw[cond_false];cases h2:(decide (c<1)||decide (c>1073741824))with
  |true=>exact h
  |false=>
   rw[cond_false];cases h3:(l.ver==1099511627776)with
   |true=>exact h
   |false=>
    rw[cond_false];simp only[Bool.or_eq_false_iff,decide_eq_false_iff_not]at h2;have h3:l.ver≠1099511627776:=by simpa using h3
    exact⟨chk_mk (rg_mk hw ⟨by decide,by decide⟩ hv) (.inl rfl) (cc_mk ⟨by omega,by omega⟩ rfl) (by simp) rfl (by rw[List.length_replicate];omega) (has_rep (by omega)),hd,.inr (by show l.ver<1099511627776;omega)⟩
theorem inv_drn{l:Ld}(h:Inv l):Inv (drnS l).1:=by
 obtain⟨hw,hv⟩:=rng h;unfold drnS;rw[ne0 h.c,cond_false];cases h1:(l.stage !=2)with
 |true=>exact h
 |false=>
  rw[cond_false];have h1:l.stage=2:=by simpa using h1
  have hc:=h.c;rw[chk_st2 l h1]at hc;have hc:=bif213 hc;simp only[Bool.and_eq_true,decide_eq_true_eq]at hc;obtain⟨_,k1,k2,k3,k4,_⟩:=hc;have k3:((l.ents.length:Int)==0)=true:=by simpa using k3
  exact⟨chk_mk (rg_mk hw ⟨by decide,by decide⟩ hv) (.inr rfl) (cc_mk (cc_of k1).1 (cc_of k1).2) k2 (by rw[k3];rfl) (by rw[List.length_replicate];omega) (has_rep (by omega)),h.d,.inr (by have:=h.v;show l.ver<1099511627776;omega)⟩
theorem inv_abt{l:Ld}{why:Int}(h:Inv l):Inv (abtS l why).1:=by
 obtain⟨hw,hv⟩:=rng h;unfold abtS;rw[ne0 h.c,cond_false];cases h1:(l.stage==0||l.stage==4)with
 |true=>exact h
 |false=>
  rw[cond_false];cases h2:(why==0)with
  |true=>exact h
  |false=>
   rw[cond_false];simp only[Bool.or_eq_false_iff,beq_eq_false_iff_ne]at h1
   have hcc:∀k:ccB l=true,(((bif l.yes then why else l.why)==0)==false)=true:=λk=>by
    have k:=(cc_of k).2;cases hy:l.yes with
    |true=>rw[cond_true,h2];rfl
    |false=>rw[hy]at k;exact k
   have hvv:l.ver<1099511627776:=by have:=h.v;omega
   rcases h.st with e|e|e|e
   .omega
   .have hc:=h.c;rw[chk_st2 l e]at hc;have hc:=bif213 hc;simp only[Bool.and_eq_true,decide_eq_true_eq]at hc;obtain⟨_,k1,k2,k3,k4,k5⟩:=hc;rw[e,len0 k5];exact⟨chk_mk4 (rg_mk hw ⟨by decide,by decide⟩ hv) (cc_mk (cc_of k1).1 (hcc k1)) (by simp) rfl,h.d,.inr hvv⟩
   .omega
   .obtain⟨_,k1,k2,k3,k4,k5⟩:=chk_ask (ne0 h.c) e;have e13:=st_13 e;have e2:(l.stage==2)=false:=by rcases e13 with q|q<;>rw[q]<;>rfl
    rw[e2,cond_false];exact⟨chk_mk (rg_mk hw ⟨by omega,by omega⟩ hv) e13 (cc_mk (cc_of k1).1 (hcc k1)) (by simp) rfl k4 k5,h.d,.inr hvv⟩
theorem inv_end{l:Ld}(h:Inv l):Inv (endM l).1:=by
 obtain⟨hw,hv⟩:=rng h;unfold endM;rw[ne0 h.c,cond_false];cases h1:(l.stage !=4)with
 |true=>exact h
 |false=>
  rw[cond_false];have h1:l.stage=4:=by simpa using h1
  have hvv:l.ver<1099511627776:=by have:=h.v;omega
  refine inv_idle hw ?_;cases l.yes
  .exact hv
  .show 0<=l.ver+1/\l.ver+1<=1099511627776;omega
theorem inv_fin{l:Ld}{w:Int}{m:Ms}(h:Inv l)(k:HeaK l w m){y:Bool}{why:Int}{es:List Ent}(hcc:((why==0)==y)=true)(h1:(es.length:Int)<=1024)(h0:((es.length:Int)==0||(y&&l.stage==3))=true):Inv (finS l (l.voted.set w.toNat true) y why es).1:=by
 obtain⟨hw,hv⟩:=rng h;have e13:=st_13 k.s;have hvv:l.ver<1099511627776:=by have:=h.v;omega
 obtain⟨_,k1,_,_,k4,_⟩:=chk_ask k.c k.s;unfold finS;cases hb:hasB (l.voted.set w.toNat true) false with
 |true=>
  refine⟨?_,h.d,.inr hvv⟩;have:=chk_x k.c k.s (v:=l.voted.set w.toNat true) (by rw[List.length_set]) hcc h1 h0;rw[hb]at this;exact this
 |false=>
  rw[cond_false];cases hz:(l.stage==1&&y)with
  |false=>
   refine⟨chk_mk4 (rg_mk hw ⟨by decide,by decide⟩ hv) (cc_mk (cc_of k1).1 hcc) h1 ?_,h.d,.inr hvv⟩;simp only[Bool.or_eq_true,Bool.and_eq_true]at h0 ⊢;rcases h0 with q|q
   .exact .inl q
   .exact .inr q.1
  |true=>
   simp only[Bool.and_eq_true,beq_iff_eq]at hz;obtain⟨z1,z2⟩:=hz;subst z2;rw[z1]at h0;have h0:((es.length:Int)==0)=true:=by simpa using h0
   rw[len0 h0];exact⟨chk_mk2 (rg_mk hw ⟨by decide,by decide⟩ hv) (cc_mk (cc_of k1).1 hcc),h.d,.inr hvv⟩
theorem inv_hea{l:Ld}{w:Int}{m:Ms}(h:Inv l):Inv (heaS l w m).1:=by
 unfold heaS;cases hh:(heaE l w m !=0)with
 |true=>exact h
 |false=>
  have k:=heaK hh;obtain⟨k1,k2,k3,k4,k5,k6⟩:=chk_ask k.c k.s;have k2:=cc_of k2;rw[cond_false];cases hy:m.yes with
  |false=>exact inv_fin h k (why_no k hy) (by simp) rfl
  |true=>
   simp only[Bool.not_true,cond_false];cases hl:l.yes with
   |false=>
    rw[hl]at k2 k4;exact inv_fin h k k2.2 k3 k4
   |true=>
    rw[hl]at k2 k4;simp only[cond_true];cases hg:decide (((l.ents.length+m.ents.length:Nat):Int)>1024)with
    |true=>exact inv_fin h k rfl (by simp) rfl
    |false=>
     simp only[cond_false];have hg:¬((l.ents.length+m.ents.length:Nat):Int)>1024:=of_decide_eq_false hg
     exact inv_fin h k k2.2 (by rw[List.length_append];omega) (by
      rcases st_13 k.s with e|e
      .rw[e]at k4;have he:=k.e;rw[e]at he;have h1:l.ents.length=0:=by simpa using k4
       have h2:m.ents.length=0:=by simpa using he
       rw[List.length_append,h1,h2];rfl
      .rw[e];simp)
theorem inv_do{l:Ld}{d:Do}(h:Inv l)(hd:fewO d):Inv (doS l d).l:=by
 unfold doS;cases d.kind==0
 .rw[cond_false];cases d.kind==1
  .rw[cond_false];cases d.kind==2
   .rw[cond_false];cases d.kind==3
    .exact inv_end h
    .exact inv_abt h
   .exact inv_drn h
  .exact inv_hea h
 .exact inv_sub h hd.1
theorem inv_new{n:Int}(h:1<=n/\n<=16):Inv (newS n).1/\(newS n).2=0:=by
 unfold newS;rw[decide_eq_false (by omega),decide_eq_false (by omega)];exact⟨inv_idle h ⟨Int.le_refl _,by decide⟩,rfl⟩
end Go.Proofs.YtfkdbifgppfegaaDoor

namespace Go.Proofs.YtfkdbifgppfegaaDoor
open Go.RowKit Go.Sx Go.Lp
set_option maxRecDepth 100000
end Go.Proofs.YtfkdbifgppfegaaDoor

namespace Go.Proofs.YtfkdbifgppfegaaDoor
open Go.RowKit Go.Sx
set_option maxRecDepth 100000
abbrev aUO:DA (Int×List Do):=.cons d8 (.one dLO)
end Go.Proofs.YtfkdbifgppfegaaDoor

namespace Go.Proofs.YtfkdbifgppfegaaDoor
open Go.RowKit Go.Sx Go.Lp
set_option maxRecDepth 100000
def mn100(n:Int):Int:=List.foldl (λa(x:Bool×IntKind×Int)=>bif false then if x.2.2>a then x.2.2 else a else if x.2.2<a then x.2.2 else a) n [(true,IntKind.i64,(100:Int))]
theorem mn100_le(n:Int)(h:0<=n):0<=mn100 n/\mn100 n<=n/\mn100 n<=100:=by
 show 0<=(if(100:Int)<n then(100:Int)else n)/\(if(100:Int)<n then(100:Int)else n)<=n/\(if(100:Int)<n then(100:Int)else n)<=100;split<;>omega
theorem new_q{w:Int}(h:0<=w/\w<=255):Inv (newS (IntKind.i64.wrap ((IntKind.i64.wrap w).tmod (4:Int)+(1:Int)))).1/\(newS (IntKind.i64.wrap ((IntKind.i64.wrap w).tmod (4:Int)+(1:Int)))).2=0:=by
 have e:IntKind.i64.wrap w=w:=Lp.wr (n:=w) (by omega)
 have h1:0<=w.tmod 4/\w.tmod 4<4:=by
  rw[Int.tmod_eq_emod_of_nonneg h.1];omega
 have e2:IntKind.i64.wrap (w.tmod 4+1)=w.tmod 4+1:=Lp.wr (n:=w.tmod 4+1) (by omega);rw[e,e2];exact inv_new ⟨by omega,by omega⟩
end Go.Proofs.YtfkdbifgppfegaaDoor
