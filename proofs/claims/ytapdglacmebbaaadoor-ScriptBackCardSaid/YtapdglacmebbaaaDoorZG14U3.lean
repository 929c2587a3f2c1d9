/- Chapter 27: a line of a script. Printed by treegen.py. -/
import Derived.Test.YtapdglacmebbaaaDoorZG13e124c8
import Derived.Test.YtapdglacmebbaaaDoorZG06339971
import Derived.Test.YtapdglacmebbaaaDoorZG0781ad55
import Derived.Test.YtapdglacmebbaaaDoorZG128ca745
import Derived.Test.YtapdglacmebbaaaDoorCards
set_option maxRecDepth 100000
set_option linter.unusedVariables false
set_option linter.unusedSimpArgs false
set_option linter.constructorNameAsVariable false
set_option linter.all false

namespace Go.Proofs.YtapdglacmebbaaaDoor
noncomputable section
open Go.RowKit Go.Sx
def q1u(ps:Ps)(s:BA):Ex×
 wl_G:=
 loopF (λg=>wl_R g.fst g.snd.fst g.snd.snd.fst g.snd.snd.snd.fst g.snd.snd.snd.snd.fst) wl_M (eStr.ag (q1l (s,ByteArray.mk #[(32:UInt8)])),(↑(q1l (s,ByteArray.mk #[(32:UInt8)])).length:Int),(0:Int),(),[],LoopState.ready,none)
def q6s(ps:Ps)(s:BA):Bool×Int:=
 numR false ((q1u ps s).snd.snd.snd.snd.snd.fst.getD (1:Nat) eStr.dflt)
def q3e(ps:Ps)(s:BA):Bool×Int:=
 numR (q6s ps s).fst ((q1u ps s).snd.snd.snd.snd.snd.fst.getD (2:Nat) eStr.dflt)
def q0w(ps:Ps)(s:BA):Nd×
 Int:=
 q2v (ByteArray.mk (Lib.trimPrefix s.data.toList #[(110:UInt8),(111:UInt8),(100:UInt8),(101:UInt8),(32:UInt8)].toList).toArray)
def q0m(ps:Ps)(s:BA):Opn×Int:=
 q1d s
def pln_F(ps:Ps)(s:BA):TA.T taP×TR.T (TR.pure dBool):=
 bif ps.part==(0:Int)then bif (↑(q1u ps s).snd.snd.snd.snd.snd.fst.length:Int)!=(3:Int)||!decide ((q1u ps s).snd.snd.snd.snd.snd.fst.getD (0:Nat) eStr.dflt=ByteArray.mk #[(114:UInt8),(105:UInt8),(118:UInt8),(117:UInt8),(108:UInt8),(101:UInt8),(116:UInt8)])then(Ps.mk ps.part ps.wk ps.room (eD.ag ps.nodes) (eO.ag ps.ops),false)else(Ps.mk (1:Int) (q6s ps s).snd (q3e ps s).snd (eD.ag ps.nodes) (eO.ag ps.ops),!(q3e ps s).fst)
 else bif ps.part==(1:Int)&&decide (s=ByteArray.mk #[(103:UInt8),(111:UInt8)])then(Ps.mk (2:Int) ps.wk ps.room (eD.ag ps.nodes) (eO.ag ps.ops),true)else bif ps.part==(1:Int)then(Ps.mk ps.part ps.wk ps.room (eD.lst (min (ps.nodes.length+(1:Nat)) ps.nodes.length) (eD.els ps.nodes)++List.map (λx=>Nd.mk (q0w ps s).fst.id (q0w ps s).fst.kind (eI.ag (q0w ps s).fst.ins) (q0w ps s).fst.fn (q0w ps s).fst.name (q0w ps s).fst.cap (q0w ps s).fst.d) (List.range (ps.nodes.length+(1:Nat)-ps.nodes.length))) (eO.ag ps.ops),Lib.hasPrefix s.data.toList #[(110:UInt8),(111:UInt8),(100:UInt8),(101:UInt8),(32:UInt8)].toList&&((q0w ps s).snd==(0:Int)&&decide ((↑(ps.nodes.length+(1:Nat)):Int)<=(32:Int))))else(Ps.mk ps.part ps.wk ps.room (eD.ag ps.nodes) (eO.lst (min (ps.ops.length+(1:Nat)) ps.ops.length) (eO.els ps.ops)++List.map (λx=>Opn.mk (q0m ps s).fst.kind (q0m ps s).fst.wk (q0m ps s).fst.dst (q0m ps s).fst.nd (q0m ps s).fst.ep (eR.ag (q0m ps s).fst.recs) (Dl.mk (eI.ag (q0m ps s).fst.dl.drop) (eD.ag (q0m ps s).fst.dl.put) (eV.ag (q0m ps s).fst.dl.moves))) (List.range (ps.ops.length+(1:Nat)-ps.ops.length))),(q0m ps s).snd==(0:Int)&&decide ((↑(ps.ops.length+(1:Nat)):Int)<=(16384:Int)))
def pln_side(ps:Ps)(s:BA):Prop:=
 ((ps.part==(0:Int))=true->ByteArray.size s<=KS/\(1:Nat)<=(1:Nat)/\eStr.okL (q1l (s,ByteArray.mk #[(32:UInt8)]))/\q5d (q1c Tryd.prog (41:Nat) (0:Nat)).snd.fst (q1c Tryd.prog (41:Nat) (0:Nat)).snd.fst/\q5d (q1c Tryd.prog (41:Nat) (0:Nat)).snd.snd (q1c Tryd.prog (41:Nat) (0:Nat)).snd.snd/\Lp.ixJ qam wl_xs wl_K (wl_f (eStr.ag (q1l (s,ByteArray.mk #[(32:UInt8)])),(↑(q1l (s,ByteArray.mk #[(32:UInt8)])).length:Int),(0:Int),(),[],LoopState.ready,none))/\((!(↑(q1u ps s).snd.snd.snd.snd.snd.fst.length:Int)!=(3:Int))=true->(0:Int)<=(0:Int)/\(0:Int)<(↑(q1u ps s).snd.snd.snd.snd.snd.fst.length:Int))/\((!(↑(q1u ps s).snd.snd.snd.snd.snd.fst.length:Int)!=(3:Int))=true->(0:Nat)<(q1u ps s).snd.snd.snd.snd.snd.fst.length)/\(((↑(q1u ps s).snd.snd.snd.snd.snd.fst.length:Int)!=(3:Int)||!decide ((q1u ps s).snd.snd.snd.snd.snd.fst.getD (0:Nat) eStr.dflt=ByteArray.mk #[(114:UInt8),(105:UInt8),(118:UInt8),(117:UInt8),(108:UInt8),(101:UInt8),(116:UInt8)]))=true->ps.nodes.length<=ps.nodes.length/\(∀(e:Nat),e<ps.nodes.length->∀(p:Prop),p∈[]++([]++([eI.okL (ps.nodes.getD e eD.dflt).ins]++([]++([]++[])++([]++([]++[])))))->p)/\ps.ops.length<=ps.ops.length/\∀(e:Nat),e<ps.ops.length->∀(p:Prop),p∈[]++([]++([]++([]++([]++([eR.okL (ps.ops.getD e eO.dflt).recs]++([eI.okL (ps.ops.getD e eO.dflt).dl.drop]++([eD.okL (ps.ops.getD e eO.dflt).dl.put]++[eV.okL (ps.ops.getD e eO.dflt).dl.moves])))))))->p)/\(((↑(q1u ps s).snd.snd.snd.snd.snd.fst.length:Int)!=(3:Int)||!decide ((q1u ps s).snd.snd.snd.snd.snd.fst.getD (0:Nat) eStr.dflt=ByteArray.mk #[(114:UInt8),(105:UInt8),(118:UInt8),(117:UInt8),(108:UInt8),(101:UInt8),(116:UInt8)]))=false->∀(cs:List Nat),(cs.isEmpty=true->((0:Int)<=(1:Int)/\(1:Int)<(↑(q1u ps s).snd.snd.snd.snd.snd.fst.length:Int))/\(1:Nat)<(q1u ps s).snd.snd.snd.snd.snd.fst.length/\((0:Int)<=(2:Int)/\(2:Int)<(↑(q1u ps s).snd.snd.snd.snd.snd.fst.length:Int))/\(2:Nat)<(q1u ps s).snd.snd.snd.snd.snd.fst.length/\ps.nodes.length<=ps.nodes.length/\(∀(e:Nat),e<ps.nodes.length->∀(p:Prop),p∈[]++([]++([eI.okL (ps.nodes.getD e eD.dflt).ins]++([]++([]++[])++([]++([]++[])))))->p)/\ps.ops.length<=ps.ops.length/\(∀(e:Nat),e<ps.ops.length->∀(p:Prop),p∈[]++([]++([]++([]++([]++([eR.okL (ps.ops.getD e eO.dflt).recs]++([eI.okL (ps.ops.getD e eO.dflt).dl.drop]++([eD.okL (ps.ops.getD e eO.dflt).dl.put]++[eV.okL (ps.ops.getD e eO.dflt).dl.moves])))))))->p)/\∀(d:Ps×Bool),(Ps.mk (1:Int) (q6s ps s).snd (q3e ps s).snd (eD.ag ps.nodes) (eO.ag ps.ops),!(q3e ps s).fst)=(Ps.mk (1:Int) (q6s ps s).snd (q3e ps s).snd (eD.ag ps.nodes) (eO.ag ps.ops),!(q3e ps s).fst))/\(cs.isEmpty=false->∀(cs:List Nat),(cs.isEmpty=true->((0:Int)<=(1:Int)/\(1:Int)<(↑(q1u ps s).snd.snd.snd.snd.snd.fst.length:Int))/\(1:Nat)<(q1u ps s).snd.snd.snd.snd.snd.fst.length/\((0:Int)<=(2:Int)/\(2:Int)<(↑(q1u ps s).snd.snd.snd.snd.snd.fst.length:Int))/\(2:Nat)<(q1u ps s).snd.snd.snd.snd.snd.fst.length/\ps.nodes.length<=ps.nodes.length/\(∀(e:Nat),e<ps.nodes.length->∀(p:Prop),p∈[]++([]++([eI.okL (ps.nodes.getD e eD.dflt).ins]++([]++([]++[])++([]++([]++[])))))->p)/\ps.ops.length<=ps.ops.length/\(∀(e:Nat),e<ps.ops.length->∀(p:Prop),p∈[]++([]++([]++([]++([]++([eR.okL (ps.ops.getD e eO.dflt).recs]++([eI.okL (ps.ops.getD e eO.dflt).dl.drop]++([eD.okL (ps.ops.getD e eO.dflt).dl.put]++[eV.okL (ps.ops.getD e eO.dflt).dl.moves])))))))->p)/\∀(d:Ps×Bool),(Ps.mk (1:Int) (q6s ps s).snd (q3e ps s).snd (eD.ag ps.nodes) (eO.ag ps.ops),!(q3e ps s).fst)=(Ps.mk (1:Int) (q6s ps s).snd (q3e ps s).snd (eD.ag ps.nodes) (eO.ag ps.ops),!(q3e ps s).fst))/\(cs.isEmpty=false->∀(cs:List Nat),(cs.isEmpty=true->((0:Int)<=(1:Int)/\(1:Int)<(↑(q1u ps s).snd.snd.snd.snd.snd.fst.length:Int))/\(1:Nat)<(q1u ps s).snd.snd.snd.snd.snd.fst.length/\((0:Int)<=(2:Int)/\(2:Int)<(↑(q1u ps s).snd.snd.snd.snd.snd.fst.length:Int))/\(2:Nat)<(q1u ps s).snd.snd.snd.snd.snd.fst.length/\ps.nodes.length<=ps.nodes.length/\(∀(e:Nat),e<ps.nodes.length->∀(p:Prop),p∈[]++([]++([eI.okL (ps.nodes.getD e eD.dflt).ins]++([]++([]++[])++([]++([]++[])))))->p)/\ps.ops.length<=ps.ops.length/\(∀(e:Nat),e<ps.ops.length->∀(p:Prop),p∈[]++([]++([]++([]++([]++([eR.okL (ps.ops.getD e eO.dflt).recs]++([eI.okL (ps.ops.getD e eO.dflt).dl.drop]++([eD.okL (ps.ops.getD e eO.dflt).dl.put]++[eV.okL (ps.ops.getD e eO.dflt).dl.moves])))))))->p)/\∀(d:Ps×Bool),(Ps.mk (1:Int) (q6s ps s).snd (q3e ps s).snd (eD.ag ps.nodes) (eO.ag ps.ops),!(q3e ps s).fst)=(Ps.mk (1:Int) (q6s ps s).snd (q3e ps s).snd (eD.ag ps.nodes) (eO.ag ps.ops),!(q3e ps s).fst))/\(cs.isEmpty=false->((0:Int)<=(1:Int)/\(1:Int)<(↑(q1u ps s).snd.snd.snd.snd.snd.fst.length:Int))/\(1:Nat)<(q1u ps s).snd.snd.snd.snd.snd.fst.length/\((0:Int)<=(2:Int)/\(2:Int)<(↑(q1u ps s).snd.snd.snd.snd.snd.fst.length:Int))/\(2:Nat)<(q1u ps s).snd.snd.snd.snd.snd.fst.length/\ps.nodes.length<=ps.nodes.length/\(∀(e:Nat),e<ps.nodes.length->∀(p:Prop),p∈[]++([]++([eI.okL (ps.nodes.getD e eD.dflt).ins]++([]++([]++[])++([]++([]++[])))))->p)/\ps.ops.length<=ps.ops.length/\(∀(e:Nat),e<ps.ops.length->∀(p:Prop),p∈[]++([]++([]++([]++([]++([eR.okL (ps.ops.getD e eO.dflt).recs]++([eI.okL (ps.ops.getD e eO.dflt).dl.drop]++([eD.okL (ps.ops.getD e eO.dflt).dl.put]++[eV.okL (ps.ops.getD e eO.dflt).dl.moves])))))))->p)/\∀(d:Ps×Bool),(Ps.mk (1:Int) (q6s ps s).snd (q3e ps s).snd (eD.ag ps.nodes) (eO.ag ps.ops),!(q3e ps s).fst)=(Ps.mk (1:Int) (q6s ps s).snd (q3e ps s).snd (eD.ag ps.nodes) (eO.ag ps.ops),!(q3e ps s).fst))))))/\((ps.part==(0:Int))=false->((ps.part==(1:Int)&&decide (s=ByteArray.mk #[(103:UInt8),(111:UInt8)]))=true->ps.nodes.length<=ps.nodes.length/\(∀(e:Nat),e<ps.nodes.length->∀(p:Prop),p∈[]++([]++([eI.okL (ps.nodes.getD e eD.dflt).ins]++([]++([]++[])++([]++([]++[])))))->p)/\ps.ops.length<=ps.ops.length/\∀(e:Nat),e<ps.ops.length->∀(p:Prop),p∈[]++([]++([]++([]++([]++([eR.okL (ps.ops.getD e eO.dflt).recs]++([eI.okL (ps.ops.getD e eO.dflt).dl.drop]++([eD.okL (ps.ops.getD e eO.dflt).dl.put]++[eV.okL (ps.ops.getD e eO.dflt).dl.moves])))))))->p)/\((ps.part==(1:Int)&&decide (s=ByteArray.mk #[(103:UInt8),(111:UInt8)]))=false->((ps.part==(1:Int))=true->(ByteArray.mk (Lib.trimPrefix s.data.toList #[(110:UInt8),(111:UInt8),(100:UInt8),(101:UInt8),(32:UInt8)].toList).toArray).size<=KP/\∀(cs:List Nat),(cs.isEmpty=true->(ps.nodes.length<=ps.nodes.length/\True/\ps.nodes.length+(1:Nat)<=maxLen/\(ps.nodes.length+(1:Nat))*Tryd.prog.types[(44:Nat)].bytes<=(140737488355328:Nat))/\ps.nodes.length+(1:Nat)<=ps.nodes.length+(1:Nat)/\(∀(e:Nat),e<min (ps.nodes.length+(1:Nat)) ps.nodes.length->∀(p:Prop),p∈[]++([]++([eI.okL (ps.nodes.getD e eD.dflt).ins]++([]++([]++[])++([]++([]++[])))))->p)/\(∀(e:Nat),e<ps.nodes.length+(1:Nat)-ps.nodes.length->∀(p:Prop),p∈[]++([]++([eI.okL (q0w ps s).fst.ins]++([]++([]++[])++([]++([]++[])))))->p)/\ps.ops.length<=ps.ops.length/\(∀(e:Nat),e<ps.ops.length->∀(p:Prop),p∈[]++([]++([]++([]++([]++([eR.okL (ps.ops.getD e eO.dflt).recs]++([eI.okL (ps.ops.getD e eO.dflt).dl.drop]++([eD.okL (ps.ops.getD e eO.dflt).dl.put]++[eV.okL (ps.ops.getD e eO.dflt).dl.moves])))))))->p)/\∀(d:Ps×Bool),(Ps.mk ps.part ps.wk ps.room (eD.lst (min (ps.nodes.length+(1:Nat)) ps.nodes.length) (eD.els ps.nodes)++List.map (λx=>Nd.mk (q0w ps s).fst.id (q0w ps s).fst.kind (eI.ag (q0w ps s).fst.ins) (q0w ps s).fst.fn (q0w ps s).fst.name (q0w ps s).fst.cap (q0w ps s).fst.d) (List.range (ps.nodes.length+(1:Nat)-ps.nodes.length))) (eO.ag ps.ops),Lib.hasPrefix s.data.toList #[(110:UInt8),(111:UInt8),(100:UInt8),(101:UInt8),(32:UInt8)].toList&&((q0w ps s).snd==(0:Int)&&decide ((↑(ps.nodes.length+(1:Nat)):Int)<=(32:Int))))=(Ps.mk ps.part ps.wk ps.room (eD.lst (min (ps.nodes.length+(1:Nat)) ps.nodes.length) (eD.els ps.nodes)++List.map (λx=>Nd.mk (q0w ps s).fst.id (q0w ps s).fst.kind (eI.ag (q0w ps s).fst.ins) (q0w ps s).fst.fn (q0w ps s).fst.name (q0w ps s).fst.cap (q0w ps s).fst.d) (List.range (ps.nodes.length+(1:Nat)-ps.nodes.length))) (eO.ag ps.ops),Lib.hasPrefix s.data.toList #[(110:UInt8),(111:UInt8),(100:UInt8),(101:UInt8),(32:UInt8)].toList&&((q0w ps s).snd==(0:Int)&&decide ((↑(ps.nodes.length+(1:Nat)):Int)<=(32:Int)))))/\(cs.isEmpty=false->(ps.nodes.length<=ps.nodes.length/\True/\ps.nodes.length+(1:Nat)<=maxLen/\(ps.nodes.length+(1:Nat))*Tryd.prog.types[(44:Nat)].bytes<=(140737488355328:Nat))/\ps.nodes.length+(1:Nat)<=ps.nodes.length+(1:Nat)/\(∀(e:Nat),e<min (ps.nodes.length+(1:Nat)) ps.nodes.length->∀(p:Prop),p∈[]++([]++([eI.okL (ps.nodes.getD e eD.dflt).ins]++([]++([]++[])++([]++([]++[])))))->p)/\(∀(e:Nat),e<ps.nodes.length+(1:Nat)-ps.nodes.length->∀(p:Prop),p∈[]++([]++([eI.okL (q0w ps s).fst.ins]++([]++([]++[])++([]++([]++[])))))->p)/\ps.ops.length<=ps.ops.length/\(∀(e:Nat),e<ps.ops.length->∀(p:Prop),p∈[]++([]++([]++([]++([]++([eR.okL (ps.ops.getD e eO.dflt).recs]++([eI.okL (ps.ops.getD e eO.dflt).dl.drop]++([eD.okL (ps.ops.getD e eO.dflt).dl.put]++[eV.okL (ps.ops.getD e eO.dflt).dl.moves])))))))->p)/\∀(d:Ps×Bool),(Ps.mk ps.part ps.wk ps.room (eD.lst (min (ps.nodes.length+(1:Nat)) ps.nodes.length) (eD.els ps.nodes)++List.map (λx=>Nd.mk (q0w ps s).fst.id (q0w ps s).fst.kind (eI.ag (q0w ps s).fst.ins) (q0w ps s).fst.fn (q0w ps s).fst.name (q0w ps s).fst.cap (q0w ps s).fst.d) (List.range (ps.nodes.length+(1:Nat)-ps.nodes.length))) (eO.ag ps.ops),Lib.hasPrefix s.data.toList #[(110:UInt8),(111:UInt8),(100:UInt8),(101:UInt8),(32:UInt8)].toList&&((q0w ps s).snd==(0:Int)&&decide ((↑(ps.nodes.length+(1:Nat)):Int)<=(32:Int))))=(Ps.mk ps.part ps.wk ps.room (eD.lst (min (ps.nodes.length+(1:Nat)) ps.nodes.length) (eD.els ps.nodes)++List.map (λx=>Nd.mk (q0w ps s).fst.id (q0w ps s).fst.kind (eI.ag (q0w ps s).fst.ins) (q0w ps s).fst.fn (q0w ps s).fst.name (q0w ps s).fst.cap (q0w ps s).fst.d) (List.range (ps.nodes.length+(1:Nat)-ps.nodes.length))) (eO.ag ps.ops),Lib.hasPrefix s.data.toList #[(110:UInt8),(111:UInt8),(100:UInt8),(101:UInt8),(32:UInt8)].toList&&((q0w ps s).snd==(0:Int)&&decide ((↑(ps.nodes.length+(1:Nat)):Int)<=(32:Int))))))/\((ps.part==(1:Int))=false->ByteArray.size s<=KP/\∀(cs:List Nat),(cs.isEmpty=true->(ps.ops.length<=ps.ops.length/\True/\ps.ops.length+(1:Nat)<=maxLen/\(ps.ops.length+(1:Nat))*Tryd.prog.types[(29:Nat)].bytes<=(140737488355328:Nat))/\ps.nodes.length<=ps.nodes.length/\(∀(e:Nat),e<ps.nodes.length->∀(p:Prop),p∈[]++([]++([eI.okL (ps.nodes.getD e eD.dflt).ins]++([]++([]++[])++([]++([]++[])))))->p)/\ps.ops.length+(1:Nat)<=ps.ops.length+(1:Nat)/\(∀(e:Nat),e<min (ps.ops.length+(1:Nat)) ps.ops.length->∀(p:Prop),p∈[]++([]++([]++([]++([]++([eR.okL (ps.ops.getD e eO.dflt).recs]++([eI.okL (ps.ops.getD e eO.dflt).dl.drop]++([eD.okL (ps.ops.getD e eO.dflt).dl.put]++[eV.okL (ps.ops.getD e eO.dflt).dl.moves])))))))->p)/\(∀(e:Nat),e<ps.ops.length+(1:Nat)-ps.ops.length->∀(p:Prop),p∈[]++([]++([]++([]++([]++([eR.okL (q0m ps s).fst.recs]++([eI.okL (q0m ps s).fst.dl.drop]++([eD.okL (q0m ps s).fst.dl.put]++[eV.okL (q0m ps s).fst.dl.moves])))))))->p)/\∀(d:Ps×Bool),(Ps.mk ps.part ps.wk ps.room (eD.ag ps.nodes) (eO.lst (min (ps.ops.length+(1:Nat)) ps.ops.length) (eO.els ps.ops)++List.map (λx=>Opn.mk (q0m ps s).fst.kind (q0m ps s).fst.wk (q0m ps s).fst.dst (q0m ps s).fst.nd (q0m ps s).fst.ep (eR.ag (q0m ps s).fst.recs) (Dl.mk (eI.ag (q0m ps s).fst.dl.drop) (eD.ag (q0m ps s).fst.dl.put) (eV.ag (q0m ps s).fst.dl.moves))) (List.range (ps.ops.length+(1:Nat)-ps.ops.length))),(q0m ps s).snd==(0:Int)&&decide ((↑(ps.ops.length+(1:Nat)):Int)<=(16384:Int)))=(Ps.mk ps.part ps.wk ps.room (eD.ag ps.nodes) (eO.lst (min (ps.ops.length+(1:Nat)) ps.ops.length) (eO.els ps.ops)++List.map (λx=>Opn.mk (q0m ps s).fst.kind (q0m ps s).fst.wk (q0m ps s).fst.dst (q0m ps s).fst.nd (q0m ps s).fst.ep (eR.ag (q0m ps s).fst.recs) (Dl.mk (eI.ag (q0m ps s).fst.dl.drop) (eD.ag (q0m ps s).fst.dl.put) (eV.ag (q0m ps s).fst.dl.moves))) (List.range (ps.ops.length+(1:Nat)-ps.ops.length))),(q0m ps s).snd==(0:Int)&&decide ((↑(ps.ops.length+(1:Nat)):Int)<=(16384:Int))))/\(cs.isEmpty=false->(ps.ops.length<=ps.ops.length/\True/\ps.ops.length+(1:Nat)<=maxLen/\(ps.ops.length+(1:Nat))*Tryd.prog.types[(29:Nat)].bytes<=(140737488355328:Nat))/\ps.nodes.length<=ps.nodes.length/\(∀(e:Nat),e<ps.nodes.length->∀(p:Prop),p∈[]++([]++([eI.okL (ps.nodes.getD e eD.dflt).ins]++([]++([]++[])++([]++([]++[])))))->p)/\ps.ops.length+(1:Nat)<=ps.ops.length+(1:Nat)/\(∀(e:Nat),e<min (ps.ops.length+(1:Nat)) ps.ops.length->∀(p:Prop),p∈[]++([]++([]++([]++([]++([eR.okL (ps.ops.getD e eO.dflt).recs]++([eI.okL (ps.ops.getD e eO.dflt).dl.drop]++([eD.okL (ps.ops.getD e eO.dflt).dl.put]++[eV.okL (ps.ops.getD e eO.dflt).dl.moves])))))))->p)/\(∀(e:Nat),e<ps.ops.length+(1:Nat)-ps.ops.length->∀(p:Prop),p∈[]++([]++([]++([]++([]++([eR.okL (q0m ps s).fst.recs]++([eI.okL (q0m ps s).fst.dl.drop]++([eD.okL (q0m ps s).fst.dl.put]++[eV.okL (q0m ps s).fst.dl.moves])))))))->p)/\∀(d:Ps×Bool),(Ps.mk ps.part ps.wk ps.room (eD.ag ps.nodes) (eO.lst (min (ps.ops.length+(1:Nat)) ps.ops.length) (eO.els ps.ops)++List.map (λx=>Opn.mk (q0m ps s).fst.kind (q0m ps s).fst.wk (q0m ps s).fst.dst (q0m ps s).fst.nd (q0m ps s).fst.ep (eR.ag (q0m ps s).fst.recs) (Dl.mk (eI.ag (q0m ps s).fst.dl.drop) (eD.ag (q0m ps s).fst.dl.put) (eV.ag (q0m ps s).fst.dl.moves))) (List.range (ps.ops.length+(1:Nat)-ps.ops.length))),(q0m ps s).snd==(0:Int)&&decide ((↑(ps.ops.length+(1:Nat)):Int)<=(16384:Int)))=(Ps.mk ps.part ps.wk ps.room (eD.ag ps.nodes) (eO.lst (min (ps.ops.length+(1:Nat)) ps.ops.length) (eO.els ps.ops)++List.map (λx=>Opn.mk (q0m ps s).fst.kind (q0m ps s).fst.wk (q0m ps s).fst.dst (q0m ps s).fst.nd (q0m ps s).fst.ep (eR.ag (q0m ps s).fst.recs) (Dl.mk (eI.ag (q0m ps s).fst.dl.drop) (eD.ag (q0m ps s).fst.dl.put) (eV.ag (q0m ps s).fst.dl.moves))) (List.range (ps.ops.length+(1:Nat)-ps.ops.length))),(q0m ps s).snd==(0:Int)&&decide ((↑(ps.ops.length+(1:Nat)):Int)<=(16384:Int)))))))
theorem pln_okS(pre:TA.T taP->DA.T aB->List Prop)(h:∀k g,DA.bd aB g->(∀p∈pre k g,p)->pln_side k g):FnT Tryd.prog 41 taP aB (TR.pure dBool) (λk g=>pln_F k g) pre:=q2q (Γ:=(MTab.gamz tabV1 [] [])) (Λ:=lamV7) (MTab.okz tabV1 [] []) lamV7_ok 100 default (λk g=>pln_side k g) (λk g=>by kernel_rfl) (λk g=>by kernel_rfl) h
open Go.RowKit Go.Sx Go.Lp
theorem byO(h:29<Tryd.prog.types.size):(Tryd.prog.types[(29:Nat)]'h).bytes=136:=by kernel_rfl
def bRiv:BA:=ByteArray.mk #[(114:UInt8),(105:UInt8),(118:UInt8),(117:UInt8),(108:UInt8),(101:UInt8),(116:UInt8)]
def bGo:BA:=ByteArray.mk #[(103:UInt8),(111:UInt8)]
def nodL:List UInt8:=[110,111,100,101,32]
def trimN(s:BA):BA:=⟨(Lib.trimPrefix s.data.toList nodL).toArray⟩
def hasN(s:BA):Bool:=Lib.hasPrefix s.data.toList nodL
def lineZ(ps:Ps)(s:BA):Ps×Bool:=
 bif ps.part==(0:Int)then
  bif ((splS 32 s).length:Int)!=(3:Int)||!decide ((splS 32 s).getD 0 eStr.dflt=bRiv)then(ps,false)
  else(⟨1,(numR false ((splS 32 s).getD 1 eStr.dflt)).2,(numR (numR false ((splS 32 s).getD 1 eStr.dflt)).1 ((splS 32 s).getD 2 eStr.dflt)).2,ps.nodes,ps.ops⟩,!(numR (numR false ((splS 32 s).getD 1 eStr.dflt)).1 ((splS 32 s).getD 2 eStr.dflt)).1)
 else bif ps.part==(1:Int)&&decide (s=bGo)then(⟨2,ps.wk,ps.room,ps.nodes,ps.ops⟩,true)
 else bif ps.part==(1:Int)then(⟨ps.part,ps.wk,ps.room,ps.nodes++[(q2v (trimN s)).1],ps.ops⟩,hasN s&&((q2v (trimN s)).2==(0:Int)&&decide (((ps.nodes.length+1:Nat):Int)<=(32:Int))))
 else(⟨ps.part,ps.wk,ps.room,ps.nodes,ps.ops++[(q1d s).1]⟩,(q1d s).2==(0:Int)&&decide (((ps.ops.length+1:Nat):Int)<=(16384:Int)))
theorem trimN_sz(s:BA):(trimN s).size<=s.size:=by
 show(Lib.trimPrefix s.data.toList nodL).toArray.size<=s.data.size;rw[List.size_toArray];unfold Lib.trimPrefix;split
 .rw[List.length_drop];have:s.data.toList.length=s.data.size:=rfl;omega
 .exact Nat.le_refl _
theorem pln_eq(ps:Ps)(s:BA)(hs:s.size<=KP)(hn:ps.nodes.length<=100)(ho:ps.ops.length<=20000):pln_side ps s/\pln_F ps s=lineZ ps s:=by
 have kp:KP=5000000:=rfl;have ks:KS=4294967280:=rfl;have hl:=q59 32 s
 have hq1:q1u ps s=(.exit 0,splS 32 s,((splS 32 s).length:Int),((splS 32 s).length:Int),(),splS 32 s,.ready,none):=by
  unfold q1u;rw[El.ag_eq,q3u];exact wl_run (splS 32 s) (by omega)
 have hq2:q6s ps s=numR false ((splS 32 s).getD 1 eStr.dflt):=by
  unfold q6s;rw[hq1]
 have hq3:q3e ps s=numR (numR false ((splS 32 s).getD 1 eStr.dflt)).1 ((splS 32 s).getD 2 eStr.dflt):=by
  unfold q3e;rw[hq1,hq2]
 have hq4:q0w ps s=q2v (trimN s):=rfl;have hq5:q0m ps s=q1d s:=rfl;have hJ:Lp.ixJ qam wl_xs wl_K (0,(splS 32 s,((splS 32 s).length:Int)),((),[],LoopState.ready,none)):=ixJ0 (lim:=qam) (xs:=wl_xs) (P:=wl_K) (c:=(splS 32 s,((splS 32 s).length:Int))) (b:=((),[],LoopState.ready,none)) rfl (by show(splS 32 s).length<=maxLen;unfold maxLen;omega) ⟨Int.le_refl _,by show(splS 32 s).length<=KS+1;omega,rfl⟩;constructor
 .unfold pln_side;rw[hq1,hq2,hq3,q3u];simp only[El.okL_eq,El.ag_eq,List.nil_append,List.append_nil,List.cons_append,List.mem_cons,List.not_mem_nil,or_false,or_self,forall_eq,implies_true,true_and,and_true,Nat.le_refl,byN,byO];have htr:(ByteArray.mk (Lib.trimPrefix s.data.toList #[(110:UInt8),(111:UInt8),(100:UInt8),(101:UInt8),(32:UInt8)].toList).toArray).size<=KP:=Nat.le_trans (trimN_sz s) hs;have hml:maxLen=9223372036854775807:=rfl
  have h3:(((splS 32 s).length:Int)!=(3:Int)||!decide ((splS 32 s).getD 0 eStr.dflt=bRiv))=false->(splS 32 s).length=3:=λh=>by
   rw[Bool.or_eq_false_iff]at h;have:=bne_eq_false_iff_eq.1 h.1;omega
  have h3':(!((splS 32 s).length:Int)!=(3:Int))=true->(splS 32 s).length=3:=λh=>by
   rw[Bool.not_eq_true']at h;have:=bne_eq_false_iff_eq.1 h;omega
  have hbs:ByteArray.size s<=KS:=by omega
  refine⟨λ_=>⟨hbs,rfl,rfl,hJ,?_⟩,?_⟩
  .refine⟨λh=>?_,λh=>?_,λh=>?_⟩
   .have:=h3' h;omega
   .have:=h3' h;omega
   .have:=h3 h;rw[this]
    repeat' (first|exact True.intro|apply And.intro|intro _)
    all_goals first|omega|trivial
  .repeat' (first|exact True.intro|exact htr|apply And.intro|intro _)
   all_goals first|exact htr|omega|trivial
 .unfold pln_F lineZ;rw[hq1,hq2,hq3,hq4,hq5];simp only[El.ag_eq,q62,q4i,q3n]
  have e1:∀n:Nd,eD.lst (min (ps.nodes.length+1) ps.nodes.length) (eD.els ps.nodes)++List.map (λ_=>n) (List.range (ps.nodes.length+1-ps.nodes.length))=ps.nodes++[n]:=λn=>by
   rw[Nat.min_eq_right (Nat.le_add_right _ _),Nat.add_sub_cancel_left,eD.lst_els];rfl
  have e2:∀n:Opn,eO.lst (min (ps.ops.length+1) ps.ops.length) (eO.els ps.ops)++List.map (λ_=>n) (List.range (ps.ops.length+1-ps.ops.length))=ps.ops++[n]:=λn=>by
   rw[Nat.min_eq_right (Nat.le_add_right _ _),Nat.add_sub_cancel_left,eO.lst_els];rfl
  rw[e1,e2];rfl
theorem pln_c:FnT Tryd.prog 41 taP aB (TR.pure dBool) (λps s=>lineZ ps s) (λps s=>[s.size<=KP,ps.nodes.length<=100,ps.ops.length<=20000]):=
 q5g (pln_okS (λps s=>[s.size<=KP,ps.nodes.length<=100,ps.ops.length<=20000]) λps s _ hp=>(pln_eq ps s (hp _ (List.mem_cons_self ..)) (hp _ (List.mem_cons_of_mem _ (List.mem_cons_self ..))) (hp _ (List.mem_cons_of_mem _ (List.mem_cons_of_mem _ (List.mem_cons_self ..))))).1) (λ_ _ h=>h)
  λps s _ hp=>(pln_eq ps s (hp _ (List.mem_cons_self ..)) (hp _ (List.mem_cons_of_mem _ (List.mem_cons_self ..))) (hp _ (List.mem_cons_of_mem _ (List.mem_cons_of_mem _ (List.mem_cons_self ..))))).2
def tabV9:MTab Tryd.prog:=tabV1.consM 41 (bconT taP aB (TR.pure dBool) (λps s=>lineZ ps s) (λps s=>[s.size<=KP,ps.nodes.length<=100,ps.ops.length<=20000])) (q48 pln_c)
def q1a(s:BA)(n:Int)(_u:Unit)(ps:Ps)(_v:Unit)(q:Pn)(a:Int)(b:Int):Ps×
 Bool:=
 lineZ (Ps.mk ps.part ps.wk ps.room (eD.ag ps.nodes) (eO.ag ps.ops)) (ByteArray.mk (Lib.cut s.data.toList #[(10:UInt8)].toList).fst.toArray)
abbrev plp_G:Type:=BA×Int×Unit×Ps×Unit×Pn×Int×Int
def plp_LP:LP 2 plp_G:=.pair (.slot 2 0 dStr) (.pair (.slot 2 6 dI) (.pair (.fix 2 5 (.p 1 0)) (.pair (.ctO 2 1 100 cPs) (.pair (.fix 2 2 (.p 0 0)) (.pair (.obj 2 0 55 eP') (.pair (.slot 2 3 dI) (.slot 2 4 dI)))))))
def plp_R(s:BA)(n:Int)(_u:Unit)(ps:Ps)(_v:Unit)(q:Pn)(a:Int)(b:Int):Ex×plp_G:=
 bif !decide (s=ByteArray.mk #[])then bif !(Lib.cut s.data.toList #[(10:UInt8)].toList).snd.snd then(Ex.ret,s,IntKind.i64.wrap (n+(1:Int)),(),Ps.mk ps.part ps.wk ps.room (eD.ag ps.nodes) (eO.ag ps.ops),(),Pn.mk (0:Int) (0:Int) [] [],IntKind.i64.wrap (n+(1:Int)),(271:Int))else bif !(q1a s n _u ps _v q a b).snd then(Ex.ret,s,IntKind.i64.wrap (n+(1:Int)),(),Ps.mk (q1a s n _u ps _v q a b).fst.part (q1a s n _u ps _v q a b).fst.wk (q1a s n _u ps _v q a b).fst.room (eD.ag (q1a s n _u ps _v q a b).fst.nodes) (eO.ag (q1a s n _u ps _v q a b).fst.ops),(),Pn.mk (0:Int) (0:Int) [] [],IntKind.i64.wrap (n+(1:Int)),(271:Int))else(Ex.normal,ByteArray.mk (Lib.cut s.data.toList #[(10:UInt8)].toList).snd.fst.toArray,IntKind.i64.wrap (n+(1:Int)),(),Ps.mk (q1a s n _u ps _v q a b).fst.part (q1a s n _u ps _v q a b).fst.wk (q1a s n _u ps _v q a b).fst.room (eD.ag (q1a s n _u ps _v q a b).fst.nodes) (eO.ag (q1a s n _u ps _v q a b).fst.ops),(),Pn.mk q.wk q.room (eD.ag q.nodes) (eO.ag q.ops),a,b)
 else(Ex.exit (0:Nat),s,n,(),Ps.mk ps.part ps.wk ps.room (eD.ag ps.nodes) (eO.ag ps.ops),(),Pn.mk q.wk q.room (eD.ag q.nodes) (eO.ag q.ops),a,b)
def plp_side(s:BA)(n:Int)(_u:Unit)(ps:Ps)(_v:Unit)(q:Pn)(a:Int)(b:Int):Prop:=
 ((!decide (s=ByteArray.mk #[]))=true->ByteArray.size s<=KS/\((!(Lib.cut s.data.toList #[(10:UInt8)].toList).snd.snd)=true->ps.nodes.length<=ps.nodes.length/\(∀(e:Nat),e<ps.nodes.length->∀(p:Prop),p∈[]++([]++([eI.okL (ps.nodes.getD e eD.dflt).ins]++([]++([]++[])++([]++([]++[])))))->p)/\ps.ops.length<=ps.ops.length/\∀(e:Nat),e<ps.ops.length->∀(p:Prop),p∈[]++([]++([]++([]++([]++([eR.okL (ps.ops.getD e eO.dflt).recs]++([eI.okL (ps.ops.getD e eO.dflt).dl.drop]++([eD.okL (ps.ops.getD e eO.dflt).dl.put]++[eV.okL (ps.ops.getD e eO.dflt).dl.moves])))))))->p)/\((!(Lib.cut s.data.toList #[(10:UInt8)].toList).snd.snd)=false->ps.nodes.length<=ps.nodes.length/\(∀(e:Nat),e<ps.nodes.length->∀(p:Prop),p∈[]++([]++([eI.okL (ps.nodes.getD e eD.dflt).ins]++([]++([]++[])++([]++([]++[])))))->p)/\ps.ops.length<=ps.ops.length/\(∀(e:Nat),e<ps.ops.length->∀(p:Prop),p∈[]++([]++([]++([]++([]++([eR.okL (ps.ops.getD e eO.dflt).recs]++([eI.okL (ps.ops.getD e eO.dflt).dl.drop]++([eD.okL (ps.ops.getD e eO.dflt).dl.put]++[eV.okL (ps.ops.getD e eO.dflt).dl.moves])))))))->p)/\(ByteArray.mk (Lib.cut s.data.toList #[(10:UInt8)].toList).fst.toArray).size<=KP/\(eD.ag ps.nodes).length<=(100:Nat)/\(eO.ag ps.ops).length<=(20000:Nat)/\((!(q1a s n _u ps _v q a b).snd)=true->(q1a s n _u ps _v q a b).fst.nodes.length<=(q1a s n _u ps _v q a b).fst.nodes.length/\(∀(e:Nat),e<(q1a s n _u ps _v q a b).fst.nodes.length->∀(p:Prop),p∈[]++([]++([eI.okL ((q1a s n _u ps _v q a b).fst.nodes.getD e eD.dflt).ins]++([]++([]++[])++([]++([]++[])))))->p)/\(q1a s n _u ps _v q a b).fst.ops.length<=(q1a s n _u ps _v q a b).fst.ops.length/\∀(e:Nat),e<(q1a s n _u ps _v q a b).fst.ops.length->∀(p:Prop),p∈[]++([]++([]++([]++([]++([eR.okL ((q1a s n _u ps _v q a b).fst.ops.getD e eO.dflt).recs]++([eI.okL ((q1a s n _u ps _v q a b).fst.ops.getD e eO.dflt).dl.drop]++([eD.okL ((q1a s n _u ps _v q a b).fst.ops.getD e eO.dflt).dl.put]++[eV.okL ((q1a s n _u ps _v q a b).fst.ops.getD e eO.dflt).dl.moves])))))))->p)/\((!(q1a s n _u ps _v q a b).snd)=false->(q1a s n _u ps _v q a b).fst.nodes.length<=(q1a s n _u ps _v q a b).fst.nodes.length/\(∀(e:Nat),e<(q1a s n _u ps _v q a b).fst.nodes.length->∀(p:Prop),p∈[]++([]++([eI.okL ((q1a s n _u ps _v q a b).fst.nodes.getD e eD.dflt).ins]++([]++([]++[])++([]++([]++[])))))->p)/\(q1a s n _u ps _v q a b).fst.ops.length<=(q1a s n _u ps _v q a b).fst.ops.length/\(∀(e:Nat),e<(q1a s n _u ps _v q a b).fst.ops.length->∀(p:Prop),p∈[]++([]++([]++([]++([]++([eR.okL ((q1a s n _u ps _v q a b).fst.ops.getD e eO.dflt).recs]++([eI.okL ((q1a s n _u ps _v q a b).fst.ops.getD e eO.dflt).dl.drop]++([eD.okL ((q1a s n _u ps _v q a b).fst.ops.getD e eO.dflt).dl.put]++[eV.okL ((q1a s n _u ps _v q a b).fst.ops.getD e eO.dflt).dl.moves])))))))->p)/\eD.okL q.nodes/\eO.okL q.ops)))/\((!decide (s=ByteArray.mk #[]))=false->ps.nodes.length<=ps.nodes.length/\(∀(e:Nat),e<ps.nodes.length->∀(p:Prop),p∈[]++([]++([eI.okL (ps.nodes.getD e eD.dflt).ins]++([]++([]++[])++([]++([]++[])))))->p)/\ps.ops.length<=ps.ops.length/\(∀(e:Nat),e<ps.ops.length->∀(p:Prop),p∈[]++([]++([]++([]++([]++([eR.okL (ps.ops.getD e eO.dflt).recs]++([eI.okL (ps.ops.getD e eO.dflt).dl.drop]++([eD.okL (ps.ops.getD e eO.dflt).dl.put]++[eV.okL (ps.ops.getD e eO.dflt).dl.moves])))))))->p)/\eD.okL q.nodes/\eO.okL q.ops)
theorem plp_one:((q00 Tryd.prog 20).filter λc=>Nat.beq (lkey c) 5).length=1:=by kernel_rfl
abbrev plp_rr(g:plp_G):Ex×plp_G:=plp_R g.1 g.2.1 g.2.2.1 g.2.2.2.1 g.2.2.2.2.1 g.2.2.2.2.2.1 g.2.2.2.2.2.2.1 g.2.2.2.2.2.2.2
abbrev plp_ss(g:plp_G):Prop:=plp_side g.1 g.2.1 g.2.2.1 g.2.2.2.1 g.2.2.2.2.1 g.2.2.2.2.2.1 g.2.2.2.2.2.2.1 g.2.2.2.2.2.2.2
theorem plp_es(g:plp_G):(plp_rr g).1=.normal\/(plp_rr g).1∈([.ret,.exit 0]:List Ex):=by
 unfold plp_rr plp_R
 repeat' (first|(left;rfl)|(right;simp only[cond_true,cond_false];simp;done)|(rw[Bool.cond_eq_ite];split))
abbrev plp_C(Inv:plp_G->List Prop)(m:plp_G->Nat):LCon:=loopR [.ret,.exit 0] (loopBody Tryd.prog 20 5) plp_LP [] 49 Inv plp_rr m
theorem plp_loop(Inv:plp_G->List Prop)(m:plp_G->Nat)(hs:∀g,allP (Inv g)->plp_ss g)(hg:Goes plp_rr m λg=>allP (Inv g)):∀b∈q00 Tryd.prog 20,lkey b=5->q04 Tryd.prog b (plp_C Inv m).g:=q0h (Γ:=(MTab.gamz tabV9 [] [])) (Λ:=lamV7) (MTab.okz tabV9 [] []) lamV7_ok 100 20 5 49 plp_LP [] Inv plp_rr plp_ss m default [.ret,.exit 0] plp_one (λrd T B HL HB ds g=>by kernel_rfl) (λrd T B HL HB ds g=>by kernel_rfl) hs hg plp_es
abbrev cutL(s:BA):List UInt8×List UInt8×Bool:=Lib.cut s.data.toList #[(10:UInt8)].toList
theorem cut_nl(s:BA):(cutL s=(s.data.toList,[],false)/\splS 10 s=[s])\/∃a b:BA,cutL s=(a.data.toList,b.data.toList,true)/\splS 10 s=a::splS 10 b/\a.size+1+b.size=s.size:=by
 have hne:∀l:List UInt8,(∀a∈l,a≠(10:UInt8))->∀c∈l.map (λx=>(x.toNat:Int)),c≠(10:Int):=λl h c hc e=>by
  obtain⟨x,hx,rfl⟩:=List.mem_map.1 hc;exact h x hx (u8_inj x 10 e)
 rcases index_one 10 s.data.toList with ⟨h1,h2⟩|⟨p,r,h1,h2,h3⟩
 .refine .inl ⟨?_,?_⟩
  .show Lib.cut s.data.toList [10]=_;unfold Lib.cut;rw[h1];rfl
  .unfold splS;rw[q93 (p:=bts s) (hne _ h2)];show [strOf (bts s)]=[s];rw[q1q]
 .refine .inr ⟨⟨p.toArray⟩,⟨r.toArray⟩,?_,?_,?_⟩
  .show Lib.cut s.data.toList [10]=_;unfold Lib.cut;rw[h3,if_pos (by omega),h1];simp
  .have hb:bts s=bts ⟨p.toArray⟩++10::bts ⟨r.toArray⟩:=by
    show s.data.toList.map (λx=>(x.toNat:Int))=p.map (λx=>(x.toNat:Int))++10::r.map (λx=>(x.toNat:Int));rw[h1,List.map_append,List.map_cons];rfl
   show(splG 10 (bts s)).map strOf=_::(splG 10 (bts ⟨r.toArray⟩)).map strOf;rw[hb,qbm (p:=bts ⟨p.toArray⟩) (hne p h2),List.map_cons,q1q]
  .have:s.data.toList.length=s.size:=rfl;rw[<-this,h1,List.length_append,List.length_cons];show p.length+1+r.length=_;omega
def pn0:Pn:=⟨0,0,[],[]⟩
def q0u:Int->Ps->List BA->Bool×Int×Ps
 |n,ps,[]=>(false,n,ps)
 |n,ps,[x]=>bif decide (x=bE)then(true,n,ps)else(false,n+1,ps)
 |n,ps,x::y::r=>bif (lineZ ps x).2 then q0u (n+1) (lineZ ps x).1 (y::r)else(false,n+1,(lineZ ps x).1)
theorem q28{n:Int}{ps:Ps}{x:BA}{r:List BA}(h:r≠[]):q0u n ps (x::r)=bif (lineZ ps x).2 then q0u (n+1) (lineZ ps x).1 r else(false,n+1,(lineZ ps x).1):=by
 cases r with
 |nil=>exact absurd rfl h
 |cons y r=>rfl
def plp_P(s:BA)(n:Int)(ps:Ps):Prop:=0<=n/\n+(s.size:Int)<=1048576/\ps.nodes.length<=32/\ps.ops.length<=16384
theorem line_le{ps:Ps}{s:BA}(h1:ps.nodes.length<=32)(h2:ps.ops.length<=16384)(h:(lineZ ps s).2=true):(lineZ ps s).1.nodes.length<=32/\(lineZ ps s).1.ops.length<=16384:=by
 unfold lineZ at h ⊢;cases hc:ps.part==(0:Int)with
 |true=>
  rw[hc]at h;simp only[cond_true]at h ⊢;cases hd:((splS 32 s).length:Int)!=(3:Int)||!decide ((splS 32 s).getD 0 eStr.dflt=bRiv)with
  |true=>exact⟨h1,h2⟩
  |false=>exact⟨h1,h2⟩
 |false=>
  rw[hc]at h;simp only[cond_false]at h ⊢;cases hd:ps.part==(1:Int)&&decide (s=bGo)with
  |true=>exact⟨h1,h2⟩
  |false=>
   rw[hd]at h;simp only[cond_false]at h ⊢;cases he:ps.part==(1:Int)with
   |true=>
    rw[he]at h;simp only[cond_true,Bool.and_eq_true,decide_eq_true_eq]at h ⊢;have:=h.2.2;refine⟨?_,h2⟩;rw[List.length_append];simp only[List.length_cons,List.length_nil];omega
   |false=>
    rw[he]at h;simp only[cond_false,Bool.and_eq_true,decide_eq_true_eq]at h ⊢;have:=h.2;refine⟨h1,?_⟩;rw[List.length_append];simp only[List.length_cons,List.length_nil];omega
abbrev plp_I(g:plp_G):List Prop:=[plp_P g.1 g.2.1 g.2.2.2.1]
abbrev plp_M(g:plp_G):Nat:=g.1.size
abbrev qb3(g:plp_G):Ex×plp_G:=plp_R g.1 g.2.1 g.2.2.1 g.2.2.2.1 g.2.2.2.2.1 g.2.2.2.2.2.1 g.2.2.2.2.2.2.1 g.2.2.2.2.2.2.2
theorem plp_RF(s:BA)(n:Int)(ps:Ps)(q:Pn)(a b:Int)(h:plp_P s n ps):plp_R s n () ps () q a b=bif decide (s=bE)then(.exit 0,s,n,(),ps,(),q,a,b)else
  bif (cutL s).2.2 then bif (lineZ ps ⟨(cutL s).1.toArray⟩).2 then(.normal,⟨(cutL s).2.1.toArray⟩,n+1,(),(lineZ ps ⟨(cutL s).1.toArray⟩).1,(),q,a,b)else(.ret,s,n+1,(),(lineZ ps ⟨(cutL s).1.toArray⟩).1,(),pn0,n+1,271)
  else(.ret,s,n+1,(),ps,(),pn0,n+1,271):=by
 obtain⟨h1,h2,_⟩:=h;have hw:s≠bE->IntKind.i64.wrap (n+1)=n+1:=λhs=>wr64 (by omega)
 have hq:q1a s n () ps () q a b=lineZ ps ⟨(cutL s).1.toArray⟩:=by
  unfold q1a;simp only[El.ag_eq]
 unfold plp_R;rw[hq];simp only[El.ag_eq];show(bif !decide (s=bE)then _ else _)=_;by_cases hs:s=bE
 .rw[decide_eq_true hs];rfl
 .rw[decide_eq_false hs,hw hs];simp only[Bool.not_false,cond_true,cond_false];show(bif !(cutL s).2.2 then _ else _)=_;cases(cutL s).2.2 with
  |false=>rfl
  |true=>
   simp only[Bool.not_true,cond_true,cond_false];cases(lineZ ps ⟨(cutL s).1.toArray⟩).2<;>rfl
theorem plp_goes:Goes qb3 plp_M λg=>allP (plp_I g):=by
 rintro⟨s,n,⟨⟩,ps,⟨⟩,q,a,b⟩ hi hn;have h:plp_P s n ps:=hi _ (List.mem_cons_self ..);have eq:qb3 (s,n,(),ps,(),q,a,b)=_:=plp_RF s n ps q a b h;rw[eq]at hn ⊢;cases hs:decide (s=bE)with
 |true=>rw[hs]at hn;cases hn
 |false=>
  rw[hs]at hn;simp only[cond_false]at hn ⊢;rcases cut_nl s with ⟨hc,_⟩|⟨x,y,hc,_,hsz⟩
  .rw[hc]at hn;cases hn
  .rw[hc]at hn ⊢;simp only[cond_true]at hn ⊢;cases hl:(lineZ ps ⟨x.data.toList.toArray⟩).2 with
   |false=>rw[hl]at hn;cases hn
   |true=>
    simp only[cond_true];obtain⟨k1,k2⟩:=line_le h.2.2.1 h.2.2.2 hl;have hy:ByteArray.size ⟨y.data.toList.toArray⟩=y.size:=rfl;have:=h.1;have:=h.2.1;refine⟨λp hp=>?_,?_⟩
    .rw[List.mem_singleton.1 hp];refine⟨?_,?_,k1,k2⟩
     .show 0<=n+1;omega
     .show n+1+(ByteArray.size ⟨y.data.toList.toArray⟩:Int)<=1048576;rw[hy];omega
    .show ByteArray.size ⟨y.data.toList.toArray⟩<s.size;rw[hy];omega
theorem plp_ok:∀b∈q00 Tryd.prog 20,lkey b=5->q04 Tryd.prog b (plp_C plp_I plp_M).g:=by
 refine plp_loop plp_I plp_M (λg hi=>?_) plp_goes;obtain⟨s,n,⟨⟩,ps,⟨⟩,q,a,b⟩:=g;have h:plp_P s n ps:=hi _ (List.mem_cons_self ..);obtain⟨h1,h2,h3,h4⟩:=h;show plp_side s n () ps () q a b;unfold plp_side;simp only[El.okL_eq,El.ag_eq,List.nil_append,List.append_nil,List.cons_append,List.mem_cons,List.not_mem_nil,or_false,or_self,forall_eq,implies_true,true_and,and_true,Nat.le_refl];have kp:KP=5000000:=rfl;have ks:KS=4294967280:=rfl
 have hc:(ByteArray.mk (Lib.cut s.data.toList #[(10:UInt8)].toList).1.toArray).size<=s.size:=by
  show(ByteArray.mk (cutL s).1.toArray).size<=s.size;rcases cut_nl s with ⟨hc,_⟩|⟨x,y,hc,_,hsz⟩
  .rw[hc];exact Nat.le_refl _
  .rw[hc];show x.size<=s.size;omega
 have hc2:(ByteArray.mk (Lib.cut s.data.toList [(10:UInt8)]).1.toArray).size<=s.size:=hc;intro _
 repeat' (first|exact True.intro|apply And.intro|intro _)
 all_goals first|omega|exact Nat.le_trans hc (by omega)
theorem plp_run(s:BA)(n:Int)(ps:Ps)(q:Pn)(a b:Int)(h:plp_P s n ps):
  ((q0u n ps (splS 10 s)).1=true/\loopF qb3 plp_M (s,n,(),ps,(),q,a,b)=(.exit 0,bE,(q0u n ps (splS 10 s)).2.1,(),(q0u n ps (splS 10 s)).2.2,(),q,a,b))\/
  ((q0u n ps (splS 10 s)).1=false/\(loopF qb3 plp_M (s,n,(),ps,(),q,a,b)).1=.ret/\(loopF qb3 plp_M (s,n,(),ps,(),q,a,b)).2.2.2.2.2.2=(pn0,(q0u n ps (splS 10 s)).2.1,271)):=by
 refine q1m plp_goes (Q:=λg r=>((q0u g.2.1 g.2.2.2.1 (splS 10 g.1)).1=true/\r=(.exit 0,bE,(q0u g.2.1 g.2.2.2.1 (splS 10 g.1)).2.1,(),(q0u g.2.1 g.2.2.2.1 (splS 10 g.1)).2.2,(),g.2.2.2.2.2.1,g.2.2.2.2.2.2.1,g.2.2.2.2.2.2.2))\/
  ((q0u g.2.1 g.2.2.2.1 (splS 10 g.1)).1=false/\r.1=.ret/\r.2.2.2.2.2.2=(pn0,(q0u g.2.1 g.2.2.2.1 (splS 10 g.1)).2.1,271))) ?_ ?_ (s,n,(),ps,(),q,a,b) (λp hp=>by rw[List.mem_singleton.1 hp];exact h)
 .rintro⟨s,n,⟨⟩,ps,⟨⟩,q,a,b⟩ hi hn;have h:plp_P s n ps:=hi _ (List.mem_cons_self ..);have eq:qb3 (s,n,(),ps,(),q,a,b)=_:=plp_RF s n ps q a b h;rw[eq]at hn ⊢;by_cases hs:s=bE
  .subst hs;rw[decide_eq_true rfl,cond_true];exact .inl ⟨rfl,rfl⟩
  .rw[decide_eq_false hs]at hn ⊢;simp only[cond_false]at hn ⊢;rcases cut_nl s with ⟨hc,hsp⟩|⟨x,y,hc,hsp,hsz⟩
   .rw[hc,hsp]
    have e:q0u n ps [s]=(false,n+1,ps):=by
     show(bif decide (s=bE)then _ else _)=_;rw[decide_eq_false hs];rfl
    rw[e];exact .inr ⟨rfl,rfl,rfl⟩
   .rw[hc]at hn ⊢;simp only[cond_true]at hn ⊢;rw[hsp,q28 (splS_ne _ _)];have hx:(⟨x.data.toList.toArray⟩:BA)=x:=rfl;rw[hx]at hn ⊢;cases hl:(lineZ ps x).2 with
    |true=>rw[hl]at hn;exact absurd rfl hn
    |false=>exact .inr ⟨rfl,rfl,rfl⟩
 .rintro⟨s,n,⟨⟩,ps,⟨⟩,q,a,b⟩ g' r hi he _ _ hq;have h:plp_P s n ps:=hi _ (List.mem_cons_self ..);have eq:qb3 (s,n,(),ps,(),q,a,b)=_:=plp_RF s n ps q a b h;rw[eq]at he;by_cases hs:s=bE
  .rw[decide_eq_true hs]at he;cases he
  .rw[decide_eq_false hs]at he;simp only[cond_false]at he;rcases cut_nl s with ⟨hc,hsp⟩|⟨x,y,hc,hsp,hsz⟩
   .rw[hc]at he;cases he
   .rw[hc]at he;simp only[cond_true]at he;have hx:(⟨x.data.toList.toArray⟩:BA)=x:=rfl;have hy:(⟨y.data.toList.toArray⟩:BA)=y:=rfl;rw[hx,hy]at he;cases hl:(lineZ ps x).2 with
    |false=>rw[hl]at he;cases he
    |true=>
     rw[hl]at he;simp only[cond_true,Prod.mk.injEq,true_and]at he;subst he;show((q0u n ps (splS 10 s)).1=true/\_)\/((q0u n ps (splS 10 s)).1=false/\_);rw[hsp,q28 (splS_ne _ _),hl,cond_true];exact hq
def ltV11:LTab Tryd.prog:=ltV7.cons 20 5 (plp_C plp_I plp_M) plp_ok
abbrev lamV11:Lam:=ltV11.lam
theorem lamV11_ok:∀f k L,lamV11 f k=some L->∀b∈q00 Tryd.prog f,lkey b=k->q04 Tryd.prog b L.g:=ltV11.ok
abbrev rvPn:RvE Pn:=.iso (.pair (.pl eI) (.pair (.pl eI) (.pair (.list eD) (.list eO)))) Pn.ofP Pn.toP (λ_=>rfl) (λ_=>rfl)
abbrev rPnIE:Rv (Pn×Int×Int):=.tup (.cons (.agg rvPn) (.cons (.of dI) (.one (.of dI))))
def q1v(s:BA):Ex×
 plp_G:=
 loopF (λg=>plp_R g.fst g.snd.fst g.snd.snd.fst g.snd.snd.snd.fst g.snd.snd.snd.snd.fst g.snd.snd.snd.snd.snd.fst g.snd.snd.snd.snd.snd.snd.fst g.snd.snd.snd.snd.snd.snd.snd) plp_M (s,(0:Int),(),Ps.mk (0:Int) (0:Int) (0:Int) [] [],(),Pn.mk (0:Int) (0:Int) [] [],(0:Int),(0:Int))
def prs_F(s:BA):Rv.T rPnIE:=
 bif decide ((↑(ByteArray.size s):Int)>(1048576:Int))then(Pn.mk (0:Int) (0:Int) [] [],(1:Int),(271:Int))
 else bif exB Ex.ret (q1v s).fst then(Pn.mk (q1v s).snd.snd.snd.snd.snd.snd.fst.wk (q1v s).snd.snd.snd.snd.snd.snd.fst.room (eD.ag (q1v s).snd.snd.snd.snd.snd.snd.fst.nodes) (eO.ag (q1v s).snd.snd.snd.snd.snd.snd.fst.ops),(q1v s).snd.snd.snd.snd.snd.snd.snd)else bif decide ((q1v s).snd.snd.snd.snd.fst.part<(2:Int))then(Pn.mk (0:Int) (0:Int) [] [],IntKind.i64.wrap ((q1v s).snd.snd.fst+(1:Int)),(271:Int))else(Pn.mk (q1v s).snd.snd.snd.snd.fst.wk (q1v s).snd.snd.snd.snd.fst.room (eD.ag (q1v s).snd.snd.snd.snd.fst.nodes) (eO.ag (q1v s).snd.snd.snd.snd.fst.ops),(0:Int),(0:Int))
def prs_side(s:BA):Prop:=
 decide ((↑(ByteArray.size s):Int)>(1048576:Int))=false->plp_P s (0:Int) (Ps.mk (0:Int) (0:Int) (0:Int) [] [])/\(exB Ex.ret (q1v s).fst=true->eD.okL (q1v s).snd.snd.snd.snd.snd.snd.fst.nodes/\eO.okL (q1v s).snd.snd.snd.snd.snd.snd.fst.ops)/\(exB Ex.ret (q1v s).fst=false->decide ((q1v s).snd.snd.snd.snd.fst.part<(2:Int))=false->(q1v s).snd.snd.snd.snd.fst.nodes.length<=(q1v s).snd.snd.snd.snd.fst.nodes.length/\(∀(e:Nat),e<(q1v s).snd.snd.snd.snd.fst.nodes.length->∀(p:Prop),p∈[]++([]++([eI.okL ((q1v s).snd.snd.snd.snd.fst.nodes.getD e eD.dflt).ins]++([]++([]++[])++([]++([]++[])))))->p)/\(q1v s).snd.snd.snd.snd.fst.ops.length<=(q1v s).snd.snd.snd.snd.fst.ops.length/\∀(e:Nat),e<(q1v s).snd.snd.snd.snd.fst.ops.length->∀(p:Prop),p∈[]++([]++([]++([]++([]++([eR.okL ((q1v s).snd.snd.snd.snd.fst.ops.getD e eO.dflt).recs]++([eI.okL ((q1v s).snd.snd.snd.snd.fst.ops.getD e eO.dflt).dl.drop]++([eD.okL ((q1v s).snd.snd.snd.snd.fst.ops.getD e eO.dflt).dl.put]++[eV.okL ((q1v s).snd.snd.snd.snd.fst.ops.getD e eO.dflt).dl.moves])))))))->p)
theorem prs_okS(pre:DA.T aB->List Prop)(h:∀g,DA.bd aB g->(∀p∈pre g,p)->prs_side g):FnPure Tryd.prog 20 aB (Rv.D rPnIE) (λg=>prs_F g) pre:=q68 (R:=rPnIE) (Γ:=(MTab.gamz tabV9 [] [])) (Λ:=lamV11) (MTab.okz tabV9 [] []) lamV11_ok 100 default (λg=>prs_side g) (λg=>by kernel_rfl) (λg=>by kernel_rfl) h
def ps0:Ps:=⟨0,0,0,[],[]⟩
def q21(s:BA):Pn×Int×Int:=
 bif decide ((s.size:Int)>(1048576:Int))then(pn0,1,271)else
 bif !(q0u 0 ps0 (splS 10 s)).1 then(pn0,(q0u 0 ps0 (splS 10 s)).2.1,271)else
 bif decide ((q0u 0 ps0 (splS 10 s)).2.2.part<(2:Int))then(pn0,(q0u 0 ps0 (splS 10 s)).2.1+1,271)else
 (⟨(q0u 0 ps0 (splS 10 s)).2.2.wk,(q0u 0 ps0 (splS 10 s)).2.2.room,(q0u 0 ps0 (splS 10 s)).2.2.nodes,(q0u 0 ps0 (splS 10 s)).2.2.ops⟩,0,0)
theorem parseL_n:∀(l:List BA)(n:Int)(ps:Ps),0<=n->0<=(q0u n ps l).2.1/\(q0u n ps l).2.1<=n+l.length
 | [],n,ps,h=>⟨h,by show n<=n+((0:Nat):Int);omega⟩
 | [x],n,ps,h=>by
  show 0<=(bif decide (x=bE)then(true,n,ps)else(false,n+1,ps)).2.1/\(bif decide (x=bE)then(true,n,ps)else(false,n+1,ps)).2.1<=n+((1:Nat):Int);cases decide (x=bE)
  .exact⟨by show 0<=n+1;omega,by show n+1<=_;omega⟩
  .exact⟨h,by show n<=_;omega⟩
 |x::y::r,n,ps,h=>by
  rw[q28 (by simp)];cases(lineZ ps x).2 with
  |true=>
   have:=parseL_n (y::r) (n+1) (lineZ ps x).1 (by omega);rw[cond_true];simp only[List.length_cons]at this ⊢;omega
  |false=>
   rw[cond_false];simp only[List.length_cons];exact⟨by show 0<=n+1;omega,by show n+1<=_;omega⟩
theorem prs_eq(s:BA):prs_side s/\prs_F s=q21 s:=by
 unfold prs_side prs_F q21;cases hb:decide ((s.size:Int)>(1048576:Int))with
 |true=>exact⟨λh=>(by cases h),rfl⟩
 |false=>
  have hsz:=of_decide_eq_false hb;have hP:plp_P s 0 ps0:=⟨Int.le_refl _,by omega,Nat.zero_le _,Nat.zero_le _⟩;have hr:=plp_run s 0 ps0 pn0 0 0 hP;have hq:q1v s=loopF qb3 plp_M (s,0,(),ps0,(),pn0,0,0):=rfl;rw[<-hq]at hr;have hn:=parseL_n (splS 10 s) 0 ps0 (Int.le_refl _);have hl:=q59 10 s;simp only[cond_false,El.okL_eq,El.ag_eq,List.nil_append,List.append_nil,List.cons_append,List.mem_cons,List.not_mem_nil,or_false,or_self,forall_eq,implies_true,true_and,and_true,Nat.le_refl];rcases hr with ⟨h1,h2⟩|⟨h1,h2,h3⟩
  .rw[h1,h2];refine⟨λ_=>hP,?_⟩;have hw:IntKind.i64.wrap ((q0u 0 ps0 (splS 10 s)).2.1+1)=(q0u 0 ps0 (splS 10 s)).2.1+1:=wr64 (by omega);show(bif decide ((q0u 0 ps0 (splS 10 s)).2.2.part<(2:Int))then(_,IntKind.i64.wrap ((q0u 0 ps0 (splS 10 s)).2.1+1),_)else _)=_;rw[hw];rfl
  .rw[h1,h2,h3];exact⟨λ_=>hP,rfl⟩
theorem prs_ok:FnPure Tryd.prog 20 aB dPnIE q21 (λ_=>[]):=
 q0d (prs_okS _ λs _ _=>(prs_eq s).1) λs _ _=>(prs_eq s).2
def q8x:MTab Tryd.prog:=((tabV9.cons 20 (pconR aB dPnIE q21 (λ_=>[])) (q7k prs_ok)).cons 19 (pconP aPn dSE q3d (λp=>[wfP p])) (q0o prt_ok puSE)).cons 15 (pconP aGG dBool (λg=>decide (g.1=g.2)) (λ_=>[])) (q0o gsm_ok puB)
abbrev sp2_G:Type:=Unit×Pn×Unit×Pn×Int×Bool
def sp2_LP:LP 2 sp2_G:=.pair (.fix 2 2 (.p 0 0)) (.pair (.obj 2 0 55 eP') (.pair (.fix 2 3 (.p 1 0)) (.pair (.obj 2 1 55 eP') (.pair (.slot 2 5 dI) (.slot 2 4 dBool)))))
def sp2_R(_u:Unit)(xa:Pn)(_v:Unit)(ya:Pn)(i:Int)(r:Bool):Ex×sp2_G:=
 bif decide (i<(↑xa.ops.length:Int))then bif !decide (Opn.mk (xa.ops.getD i.toNat eO.dflt).kind (xa.ops.getD i.toNat eO.dflt).wk (xa.ops.getD i.toNat eO.dflt).dst (xa.ops.getD i.toNat eO.dflt).nd (xa.ops.getD i.toNat eO.dflt).ep (eR.ag (xa.ops.getD i.toNat eO.dflt).recs) (Dl.mk (eI.ag (xa.ops.getD i.toNat eO.dflt).dl.drop) (eD.ag (xa.ops.getD i.toNat eO.dflt).dl.put) (eV.ag (xa.ops.getD i.toNat eO.dflt).dl.moves))=Opn.mk (ya.ops.getD i.toNat eO.dflt).kind (ya.ops.getD i.toNat eO.dflt).wk (ya.ops.getD i.toNat eO.dflt).dst (ya.ops.getD i.toNat eO.dflt).nd (ya.ops.getD i.toNat eO.dflt).ep (eR.ag (ya.ops.getD i.toNat eO.dflt).recs) (Dl.mk (eI.ag (ya.ops.getD i.toNat eO.dflt).dl.drop) (eD.ag (ya.ops.getD i.toNat eO.dflt).dl.put) (eV.ag (ya.ops.getD i.toNat eO.dflt).dl.moves)))then(Ex.ret,(),Pn.mk xa.wk xa.room (eD.ag xa.nodes) (eO.ag xa.ops),(),Pn.mk ya.wk ya.room (eD.ag ya.nodes) (eO.ag ya.ops),i,false)else(Ex.normal,(),Pn.mk xa.wk xa.room (eD.ag xa.nodes) (eO.ag xa.ops),(),Pn.mk ya.wk ya.room (eD.ag ya.nodes) (eO.ag ya.ops),IntKind.i64.wrap (i+(1:Int)),r)
 else(Ex.exit (0:Nat),(),Pn.mk xa.wk xa.room (eD.ag xa.nodes) (eO.ag xa.ops),(),Pn.mk ya.wk ya.room (eD.ag ya.nodes) (eO.ag ya.ops),i,r)
def sp2_side(_u:Unit)(xa:Pn)(_v:Unit)(ya:Pn)(i:Int)(r:Bool):Prop:=
 (decide (i<(↑xa.ops.length:Int))=true->((0:Int)<=i/\i<(↑xa.ops.length:Int))/\((0:Int)<=i/\i<(↑ya.ops.length:Int))/\eR.okL (xa.ops.getD i.toNat eO.dflt).recs/\eI.okL (xa.ops.getD i.toNat eO.dflt).dl.drop/\eD.okL (xa.ops.getD i.toNat eO.dflt).dl.put/\eV.okL (xa.ops.getD i.toNat eO.dflt).dl.moves/\eR.okL (ya.ops.getD i.toNat eO.dflt).recs/\eI.okL (ya.ops.getD i.toNat eO.dflt).dl.drop/\eD.okL (ya.ops.getD i.toNat eO.dflt).dl.put/\eV.okL (ya.ops.getD i.toNat eO.dflt).dl.moves/\((!decide (Opn.mk (xa.ops.getD i.toNat eO.dflt).kind (xa.ops.getD i.toNat eO.dflt).wk (xa.ops.getD i.toNat eO.dflt).dst (xa.ops.getD i.toNat eO.dflt).nd (xa.ops.getD i.toNat eO.dflt).ep (eR.ag (xa.ops.getD i.toNat eO.dflt).recs) (Dl.mk (eI.ag (xa.ops.getD i.toNat eO.dflt).dl.drop) (eD.ag (xa.ops.getD i.toNat eO.dflt).dl.put) (eV.ag (xa.ops.getD i.toNat eO.dflt).dl.moves))=Opn.mk (ya.ops.getD i.toNat eO.dflt).kind (ya.ops.getD i.toNat eO.dflt).wk (ya.ops.getD i.toNat eO.dflt).dst (ya.ops.getD i.toNat eO.dflt).nd (ya.ops.getD i.toNat eO.dflt).ep (eR.ag (ya.ops.getD i.toNat eO.dflt).recs) (Dl.mk (eI.ag (ya.ops.getD i.toNat eO.dflt).dl.drop) (eD.ag (ya.ops.getD i.toNat eO.dflt).dl.put) (eV.ag (ya.ops.getD i.toNat eO.dflt).dl.moves))))=true->eD.okL xa.nodes/\eO.okL xa.ops/\eD.okL ya.nodes/\eO.okL ya.ops)/\((!decide (Opn.mk (xa.ops.getD i.toNat eO.dflt).kind (xa.ops.getD i.toNat eO.dflt).wk (xa.ops.getD i.toNat eO.dflt).dst (xa.ops.getD i.toNat eO.dflt).nd (xa.ops.getD i.toNat eO.dflt).ep (eR.ag (xa.ops.getD i.toNat eO.dflt).recs) (Dl.mk (eI.ag (xa.ops.getD i.toNat eO.dflt).dl.drop) (eD.ag (xa.ops.getD i.toNat eO.dflt).dl.put) (eV.ag (xa.ops.getD i.toNat eO.dflt).dl.moves))=Opn.mk (ya.ops.getD i.toNat eO.dflt).kind (ya.ops.getD i.toNat eO.dflt).wk (ya.ops.getD i.toNat eO.dflt).dst (ya.ops.getD i.toNat eO.dflt).nd (ya.ops.getD i.toNat eO.dflt).ep (eR.ag (ya.ops.getD i.toNat eO.dflt).recs) (Dl.mk (eI.ag (ya.ops.getD i.toNat eO.dflt).dl.drop) (eD.ag (ya.ops.getD i.toNat eO.dflt).dl.put) (eV.ag (ya.ops.getD i.toNat eO.dflt).dl.moves))))=false->eD.okL xa.nodes/\eO.okL xa.ops/\eD.okL ya.nodes/\eO.okL ya.ops))/\(decide (i<(↑xa.ops.length:Int))=false->eD.okL xa.nodes/\eO.okL xa.ops/\eD.okL ya.nodes/\eO.okL ya.ops)
theorem sp2_one:((q00 Tryd.prog 21).filter λc=>Nat.beq (lkey c) 4).length=1:=by kernel_rfl
abbrev q4j:Type:=Pn×Pn
abbrev sp2_GB:Type:=Bool×Unit×Unit
def sp2_f(g:sp2_G):Int×q4j×sp2_GB:=(g.2.2.2.2.1,(g.2.1,g.2.2.2.1),(g.2.2.2.2.2,g.1,g.2.2.1))
def sp2_g(d:Int×q4j×sp2_GB):sp2_G:=(d.2.2.2.1,d.2.1.1,d.2.2.2.2,d.2.1.2,d.1,d.2.2.1)
abbrev sp2_rr(g:sp2_G):Ex×sp2_G:=sp2_R g.1 g.2.1 g.2.2.1 g.2.2.2.1 g.2.2.2.2.1 g.2.2.2.2.2
abbrev sp2_ss(g:sp2_G):Prop:=sp2_side g.1 g.2.1 g.2.2.1 g.2.2.2.1 g.2.2.2.2.1 g.2.2.2.2.2
theorem sp2_es(g:sp2_G):(sp2_rr g).1=.normal\/(sp2_rr g).1∈([.ret,.exit 0]:List Ex):=by
 unfold sp2_rr sp2_R
 repeat' (first|(left;rfl)|(right;simp only[cond_true,cond_false];simp;done)|(rw[Bool.cond_eq_ite];split))
abbrev sp2_C(Inv:sp2_G->List Prop)(m:sp2_G->Nat):LCon:=loopR [.ret,.exit 0] (loopBody Tryd.prog 21 4) sp2_LP [] 54 Inv sp2_rr m
theorem sp2_loop(Inv:sp2_G->List Prop)(m:sp2_G->Nat)(hs:∀g,allP (Inv g)->sp2_ss g)(hg:Goes sp2_rr m λg=>allP (Inv g)):∀b∈q00 Tryd.prog 21,lkey b=4->q04 Tryd.prog b (sp2_C Inv m).g:=q0h (Γ:=(MTab.gamz q8x [] [])) (Λ:=lamV11) (MTab.okz q8x [] []) lamV11_ok 100 21 4 54 sp2_LP [] Inv sp2_rr sp2_ss m default [.ret,.exit 0] sp2_one (λrd T B HL HB ds g=>by kernel_rfl) (λrd T B HL HB ds g=>by kernel_rfl) hs hg sp2_es
def sml_q1(xs:List Opn)(n:Int)(i:Int)(r:Bool):dBool.T:=
 few_F (Opn.mk (xs.getD i.toNat eO.dflt).kind (xs.getD i.toNat eO.dflt).wk (xs.getD i.toNat eO.dflt).dst (xs.getD i.toNat eO.dflt).nd (xs.getD i.toNat eO.dflt).ep (eR.ag (xs.getD i.toNat eO.dflt).recs) (Dl.mk (eI.ag (xs.getD i.toNat eO.dflt).dl.drop) (eD.ag (xs.getD i.toNat eO.dflt).dl.put) (eV.ag (xs.getD i.toNat eO.dflt).dl.moves)))
abbrev sml_G:Type:=List Opn×Int×Int×Bool
def sml_LP:LP 1 sml_G:=.pair (.slot 1 26 dLO) (.pair (.slot 1 27 dI) (.pair (.slot 1 28 dI) (.slot 1 2 dBool)))
def sml_R(xs:List Opn)(n:Int)(i:Int)(r:Bool):Ex×sml_G:=
 bif decide (i<n)then bif !(sml_q1 xs n i r)then(Ex.ret,eO.ag xs,n,i,false)else(Ex.normal,eO.ag xs,n,IntKind.i64.wrap (i+(1:Int)),r)
 else(Ex.exit (0:Nat),eO.ag xs,n,i,r)
def sml_side(xs:List Opn)(n:Int)(i:Int)(r:Bool):Prop:=
 (decide (i<n)=true->((0:Int)<=i/\i<(↑xs.length:Int))/\eR.okL (xs.getD i.toNat eO.dflt).recs/\eI.okL (xs.getD i.toNat eO.dflt).dl.drop/\eD.okL (xs.getD i.toNat eO.dflt).dl.put/\eV.okL (xs.getD i.toNat eO.dflt).dl.moves/\((!(sml_q1 xs n i r))=true->eO.okL xs)/\((!(sml_q1 xs n i r))=false->eO.okL xs))/\(decide (i<n)=false->eO.okL xs)
theorem sml_one:((q00 Tryd.prog 18).filter λc=>Nat.beq (lkey c) 4).length=1:=by kernel_rfl
abbrev q4w:Type:=List Opn×Int
abbrev sml_GB:Type:=Bool
def sml_f(g:sml_G):Int×q4w×sml_GB:=(g.2.2.1,(g.1,g.2.1),g.2.2.2)
def sml_g(d:Int×q4w×sml_GB):sml_G:=(d.2.1.1,d.2.1.2,d.1,d.2.2)
abbrev sml_rr(g:sml_G):Ex×sml_G:=sml_R g.1 g.2.1 g.2.2.1 g.2.2.2
abbrev sml_ss(g:sml_G):Prop:=sml_side g.1 g.2.1 g.2.2.1 g.2.2.2
theorem sml_es(g:sml_G):(sml_rr g).1=.normal\/(sml_rr g).1∈([.ret,.exit 0]:List Ex):=by
 unfold sml_rr sml_R
 repeat' (first|(left;rfl)|(right;simp only[cond_true,cond_false];simp;done)|(rw[Bool.cond_eq_ite];split))
abbrev sml_C(Inv:sml_G->List Prop)(m:sml_G->Nat):LCon:=loopR [.ret,.exit 0] (loopBody Tryd.prog 18 4) sml_LP [] 36 Inv sml_rr m
theorem sml_loop(Inv:sml_G->List Prop)(m:sml_G->Nat)(hs:∀g,allP (Inv g)->sml_ss g)(hg:Goes sml_rr m λg=>allP (Inv g)):∀b∈q00 Tryd.prog 18,lkey b=4->q04 Tryd.prog b (sml_C Inv m).g:=q0h (Γ:=(MTab.gamz q8x [] [])) (Λ:=lamV11) (MTab.okz q8x [] []) lamV11_ok 100 18 4 36 sml_LP [] Inv sml_rr sml_ss m default [.ret,.exit 0] sml_one (λrd T B HL HB ds g=>by kernel_rfl) (λrd T B HL HB ds g=>by kernel_rfl) hs hg sml_es
def sp2_S(c:q4j)(b:sp2_GB)(i:Int)(v:Opn):Ex×sp2_GB:=bif !decide (v=c.2.ops.getD i.toNat eO.dflt)then(.ret,false,(),())else(.normal,b.1,b.2.1,b.2.2)
def sp2_K(c:q4j)(b:sp2_GB)(i:Int):Prop:=c.1.ops.length=c.2.ops.length
abbrev sp2_I(g:sp2_G):List Prop:=ixI (λc:q4j=>(c.1.ops.length:Int)) (λc:q4j=>c.1.ops) sp2_K (sp2_f g)
abbrev sp2_M(g:sp2_G):Nat:=ixM (λc:q4j=>(c.1.ops.length:Int)) (sp2_f g)
theorem sp2_P:ixP sp2_S (λc:q4j=>c.1.ops) sp2_K:=λ_ _ _ _ h _ _=>h
abbrev sp2_RR(g:sp2_G):Ex×sp2_G:=sp2_R g.1 g.2.1 g.2.2.1 g.2.2.2.1 g.2.2.2.2.1 g.2.2.2.2.2
theorem sp2_RF(d:Int×q4j×sp2_GB)(hi:allP (ixI (λc:q4j=>(c.1.ops.length:Int)) (λc:q4j=>c.1.ops) sp2_K d)):sp2_RR (sp2_g d)=((ixF 0 (λc:q4j=>(c.1.ops.length:Int)) (λc:q4j=>c.1.ops) eO.dflt sp2_S d).1,sp2_g (ixF 0 (λc:q4j=>(c.1.ops.length:Int)) (λc:q4j=>c.1.ops) eO.dflt sp2_S d).2):=by
 obtain⟨i,⟨xa,ya⟩,⟨r,⟨⟩,_v⟩⟩:=d;show sp2_R () xa _v ya i r=_;unfold sp2_R ixF sp2_S;simp only[El.ag_eq,El.okL_eq,q4i,q3n,Pn_eta];cases decide (i<(xa.ops.length:Int))with
 |false=>rfl
 |true=>
  simp only[cond_true];generalize (!decide ((xa.ops.getD i.toNat eO.dflt)=ya.ops.getD i.toNat eO.dflt))=z;cases z<;>rfl
theorem sp2_ok:∀b∈q00 Tryd.prog 21,lkey b=4->q04 Tryd.prog b (sp2_C sp2_I sp2_M).g:=by
 refine sp2_loop sp2_I sp2_M (λg hi=>?_) (q09 (λ_=>rfl) (λ_=>rfl) sp2_RF sp2_P);obtain⟨⟨⟩,xa,_v,ya,i,r⟩:=g;obtain⟨h1,h2,h3,h4,h5⟩:=hi _ (List.mem_cons_self ..);have h1:(xa.ops.length:Int)=(xa.ops.length:Int):=h1;have h3:0<=i:=h3;have h5:xa.ops.length=ya.ops.length:=h5;show sp2_side () xa _v ya i r;unfold sp2_side;simp only[El.okL_eq,decide_eq_true_eq,decide_eq_false_iff_not];have k0:∀e:Nat,e<xa.ops.length->eO.Ok (eO.els xa.ops e):=λe _=>eO.ok_els xa.ops e;have k1:∀e:Nat,e<ya.ops.length->eO.Ok (eO.els ya.ops e):=λe _=>eO.ok_els ya.ops e;clear hi
 repeat' (first|exact True.intro|exact k0|exact k1|apply And.intro|intro _)
 all_goals omega
theorem sp2_run(c:q4j)(b:sp2_GB)(k1:(c.1.ops.length:Int)=((c.1.ops).length:Int))(k2:(c.1.ops).length<=maxLen)(k3:sp2_K c b 0):loopF sp2_RR sp2_M (sp2_g (0,c,b))=((scan 0 (sp2_S c) 0 (c.1.ops) b).1,sp2_g ((scan 0 (sp2_S c) 0 (c.1.ops) b).2.1,c,(scan 0 (sp2_S c) 0 (c.1.ops) b).2.2)):=q0e (φ:=sp2_f) (ψ:=sp2_g) (λ_=>rfl) (λ_=>rfl) sp2_RF sp2_P c b k1 k2 k3
def sml_S(c:q4w)(b:sml_GB)(i:Int)(v:Opn):Ex×sml_GB:=bif !few_F v then(.ret,false)else(.normal,b)
def sml_K(c:q4w)(b:sml_GB)(i:Int):Prop:=True
abbrev sml_I(g:sml_G):List Prop:=ixI (λc:q4w=>c.2) (λc:q4w=>c.1) sml_K (sml_f g)
abbrev sml_M(g:sml_G):Nat:=ixM (λc:q4w=>c.2) (sml_f g)
theorem sml_P:ixP sml_S (λc:q4w=>c.1) sml_K:=λ_ _ _ _ h _ _=>h
abbrev sml_RR(g:sml_G):Ex×sml_G:=sml_R g.1 g.2.1 g.2.2.1 g.2.2.2
theorem sml_RF(d:Int×q4w×sml_GB)(hi:allP (ixI (λc:q4w=>c.2) (λc:q4w=>c.1) sml_K d)):sml_RR (sml_g d)=((ixF 0 (λc:q4w=>c.2) (λc:q4w=>c.1) eO.dflt sml_S d).1,sml_g (ixF 0 (λc:q4w=>c.2) (λc:q4w=>c.1) eO.dflt sml_S d).2):=by
 obtain⟨i,⟨xs,n⟩,r⟩:=d;show sml_R xs n i r=_;unfold sml_R ixF sml_S;simp only[El.ag_eq,El.okL_eq,sml_q1,q4i,q3n];cases decide (i<n)with
 |false=>rfl
 |true=>
  simp only[cond_true];generalize (!few_F (xs.getD i.toNat eO.dflt))=z;cases z<;>rfl
theorem sml_ok:∀b∈q00 Tryd.prog 18,lkey b=4->q04 Tryd.prog b (sml_C sml_I sml_M).g:=by
 refine sml_loop sml_I sml_M (λg hi=>?_) (q09 (λ_=>rfl) (λ_=>rfl) sml_RF sml_P);obtain⟨xs,n,i,r⟩:=g;obtain⟨h1,h2,h3,h4,h5⟩:=hi _ (List.mem_cons_self ..);have h1:n=(xs.length:Int):=h1;have h3:0<=i:=h3;have h5:True:=h5;show sml_side xs n i r;unfold sml_side;simp only[El.okL_eq,decide_eq_true_eq,decide_eq_false_iff_not];have k0:∀e:Nat,e<xs.length->eO.Ok (eO.els xs e):=λe _=>eO.ok_els xs e;clear hi
 repeat' (first|exact True.intro|exact k0|apply And.intro|intro _)
 all_goals omega
def ltV15:LTab Tryd.prog:=((ltV11.cons 21 4 (sp2_C sp2_I sp2_M) sp2_ok).cons 18 4 (sml_C sml_I sml_M) sml_ok)
abbrev lamV15:Lam:=ltV15.lam
theorem lamV15_ok:∀f k L,lamV15 f k=some L->∀b∈q00 Tryd.prog f,lkey b=k->q04 Tryd.prog b L.g:=ltV15.ok
def spn_q1(xa:Pn)(ya:Pn):Ex×
 sp2_G:=
 loopF (λg=>sp2_R g.fst g.snd.fst g.snd.snd.fst g.snd.snd.snd.fst g.snd.snd.snd.snd.fst g.snd.snd.snd.snd.snd) sp2_M ((),Pn.mk xa.wk xa.room (eD.ag xa.nodes) (eO.ag xa.ops),(),Pn.mk ya.wk ya.room (eD.ag ya.nodes) (eO.ag ya.ops),(0:Int),false)
def spn_F(xa:Pn)(ya:Pn):Dv.T dBool:=
 bif xa.wk !=ya.wk||(xa.room !=ya.room||(!decide (eD.ag xa.nodes=eD.ag ya.nodes)||(↑xa.ops.length:Int)!=(↑ya.ops.length:Int)))then false
 else bif exB Ex.ret (spn_q1 xa ya).fst then(spn_q1 xa ya).snd.snd.snd.snd.snd.snd else true
def qbk(xa:Pn)(ya:Pn):Prop:=
 ((!xa.wk !=ya.wk)=true->(!xa.room !=ya.room)=true->eD.okL xa.nodes)/\((!xa.wk !=ya.wk)=true->(!xa.room !=ya.room)=true->eD.okL ya.nodes)/\((xa.wk !=ya.wk||(xa.room !=ya.room||(!decide (eD.ag xa.nodes=eD.ag ya.nodes)||(↑xa.ops.length:Int)!=(↑ya.ops.length:Int))))=false->eD.okL xa.nodes/\eO.okL xa.ops/\eD.okL ya.nodes/\eO.okL ya.ops/\Lp.ixJ (λc=>(↑c.fst.ops.length:Int)) (λc=>c.fst.ops) sp2_K (sp2_f ((),Pn.mk xa.wk xa.room (eD.ag xa.nodes) (eO.ag xa.ops),(),Pn.mk ya.wk ya.room (eD.ag ya.nodes) (eO.ag ya.ops),(0:Int),false)))
theorem spn_okS(pre:DA.T aPnPn->List Prop)(h:∀g,DA.bd aPnPn g->(∀p∈pre g,p)->qbk g.1 g.2):FnPure Tryd.prog 21 aPnPn dBool (λg=>spn_F g.1 g.2) pre:=q05 (Γ:=(MTab.gamz q8x [] [])) (Λ:=lamV15) (MTab.okz q8x [] []) lamV15_ok 100 default (λg=>qbk g.1 g.2) (λg=>by kernel_rfl) (λg=>by kernel_rfl) h
def sma_q1(pa:Pn):dBool.T:=
 few_F (Opn.mk (0:Int) (0:Int) (0:Int) (0:Int) (0:Int) [] (Dl.mk [] (eD.ag pa.nodes) []))
def sma_q2(pa:Pn):Ex×
 sml_G:=
 loopF (λg=>sml_R g.fst g.snd.fst g.snd.snd.fst g.snd.snd.snd) sml_M (eO.ag pa.ops,(↑pa.ops.length:Int),(0:Int),false)
def sma_F(pa:Pn):Dv.T dBool:=
 bif decide ((↑pa.nodes.length:Int)>(60:Int))||(decide ((↑pa.ops.length:Int)>(40:Int))||!(sma_q1 pa))then false
 else bif exB Ex.ret (sma_q2 pa).fst then(sma_q2 pa).snd.snd.snd.snd else true
def sma_side(pa:Pn):Prop:=
 ((!decide ((↑pa.nodes.length:Int)>(60:Int)))=true->(!decide ((↑pa.ops.length:Int)>(40:Int)))=true->eD.okL pa.nodes)/\((decide ((↑pa.nodes.length:Int)>(60:Int))||(decide ((↑pa.ops.length:Int)>(40:Int))||!(sma_q1 pa)))=false->eO.okL pa.ops/\Lp.ixJ (λc=>c.snd) (λc=>c.fst) sml_K (sml_f (eO.ag pa.ops,(↑pa.ops.length:Int),(0:Int),false)))
theorem sma_okS(pre:DA.T aPn->List Prop)(h:∀g,DA.bd aPn g->(∀p∈pre g,p)->sma_side g):FnPure Tryd.prog 18 aPn dBool (λg=>sma_F g) pre:=q05 (Γ:=(MTab.gamz q8x [] [])) (Λ:=lamV15) (MTab.okz q8x [] []) lamV15_ok 100 default (λg=>sma_side g) (λg=>by kernel_rfl) (λg=>by kernel_rfl) h
theorem spn_ok:FnPure Tryd.prog 21 aPnPn dBool (λg=>decide (g.1=g.2)) (λ_=>[]):=by
 refine q0d (spn_okS (λ_=>[]) λg hb _=>?_) λg hb _=>?_
 all_goals (obtain⟨x,y⟩:=g;have ha:x.ops.length<=maxLen:=hb.1.2.2.2.1)
 .show qbk x y;unfold qbk;simp only[El.okL_eq,El.ag_eq,Pn_eta,implies_true,true_and,and_true];intro h;simp only[Bool.or_eq_false_iff]at h;have hl:=qb5 h.2.2.2;exact ixJ0 (c:=(x,y)) (b:=(false,(),())) rfl ha hl
 show spn_F x y=decide (x=y)
 have hq:spn_q1 x y=loopF sp2_RR sp2_M (sp2_g (0,(x,y),(false,(),()))):=by
  unfold spn_q1;simp only[El.ag_eq,Pn_eta];rfl
 unfold spn_F;simp only[El.ag_eq];cases hc:(x.wk !=y.wk||(x.room !=y.room||(!decide (x.nodes=y.nodes)||(x.ops.length:Int)!=(y.ops.length:Int))))with
 |true=>
  have:x≠y:=λe=>by subst e;simp at hc
  simp[this]
 |false=>
  simp only[Bool.or_eq_false_iff,Bool.not_eq_false',decide_eq_true_eq,bne_eq_false_iff_eq]at hc;obtain⟨h1,h2,h3,h4⟩:=hc;have hl:x.ops.length=y.ops.length:=by omega
  obtain⟨k3,k4⟩:=scanEq (x:=0) eO.dflt x.ops y.ops hl (st:=sp2_S (x,y)) (r:=λ_=>(false,(),())) (λ_ _ _=>rfl) (false,(),());rw[hq,sp2_run (x,y) (false,(),()) rfl ha hl];show(bif exB .ret (scan 0 (sp2_S (x,y)) 0 x.ops (false,(),())).1 then(scan 0 (sp2_S (x,y)) 0 x.ops (false,(),())).2.2.1 else true)=_;rw[k3,k4]
  have:decide (x=y)=decide (x.ops=y.ops):=by
   obtain⟨a1,a2,a3,a4⟩:=x;obtain⟨b1,b2,b3,b4⟩:=y;simp only at h1 h2 h3;subst h1 h2 h3;rw[Bool.eq_iff_iff];simp
  rw[this];cases decide (x.ops=y.ops)<;>rfl
theorem sma_ok:FnPure Tryd.prog 18 aPn dBool sma_F (λ_=>[]):=
 sma_okS _ λp hb _=>by
  have ha:p.ops.length<=maxLen:=hb.2.2.2.1;unfold sma_side;simp only[El.okL_eq,El.ag_eq,implies_true,true_and];exactλ_=>ixJ0 (c:=(p.ops,(p.ops.length:Int))) (b:=false) rfl ha trivial
def tabV17:MTab Tryd.prog:=(q8x.cons 21 (pconP aPnPn dBool (λg=>decide (g.1=g.2)) (λ_=>[])) (q0o spn_ok puB)).cons 18 (pconP aPn dBool sma_F (λ_=>[])) (q0o sma_ok puB)
def lsb_q1(pa:Pn)(s:BA):dBool.T:=
 sma_F (Pn.mk pa.wk pa.room (eD.ag pa.nodes) (eO.ag pa.ops))
def q9l(pa:Pn)(s:BA):BA×Int:=
 q3d (Pn.mk pa.wk pa.room (eD.ag pa.nodes) (eO.ag pa.ops))
def q2j(pa:Pn)(s:BA):Pn×Int×Int:=
 q21 (q9l pa s).fst
def q50(pa:Pn)(s:BA):Pn×Int×Int:=
 q21 s
def lsb_q5(pa:Pn)(s:BA):BA×Int:=
 q3d (Pn.mk (q50 pa s).fst.wk (q50 pa s).fst.room (eD.ag (q50 pa s).fst.nodes) (eO.ag (q50 pa s).fst.ops))
def lsb_F(pa:Pn)(s:BA):Dv.T dBool:=
 bif !(lsb_q1 pa s)||decide ((↑(ByteArray.size s):Int)>(5000:Int))then true
 else bif (q9l pa s).snd==(0:Int)&&((q2j pa s).snd.snd !=(0:Int)||((q2j pa s).snd.fst !=(0:Int)||!decide (Pn.mk (q2j pa s).fst.wk (q2j pa s).fst.room (eD.ag (q2j pa s).fst.nodes) (eO.ag (q2j pa s).fst.ops)=Pn.mk pa.wk pa.room (eD.ag pa.nodes) (eO.ag pa.ops))))then false else bif (q50 pa s).snd.snd !=(0:Int)then decide ((q50 pa s).snd.fst>(0:Int))else(lsb_q5 pa s).snd==(0:Int)&&((q50 pa s).snd.fst==(0:Int)&&decide ((lsb_q5 pa s).fst=s))
def q9k(pa:Pn)(s:BA):Prop:=
 (!true)=false->eD.okL pa.nodes/\eO.okL pa.ops/\((!(lsb_q1 pa s)||decide ((↑(ByteArray.size s):Int)>(5000:Int)))=false->eD.okL pa.nodes/\eO.okL pa.ops/\wfP (Pn.mk pa.wk pa.room (eD.ag pa.nodes) (eO.ag pa.ops))/\(((q9l pa s).snd==(0:Int))=true->(!(q2j pa s).snd.snd !=(0:Int))=true->(!(q2j pa s).snd.fst !=(0:Int))=true->eD.okL (q2j pa s).fst.nodes)/\(((q9l pa s).snd==(0:Int))=true->(!(q2j pa s).snd.snd !=(0:Int))=true->(!(q2j pa s).snd.fst !=(0:Int))=true->eO.okL (q2j pa s).fst.ops)/\(((q9l pa s).snd==(0:Int))=true->(!(q2j pa s).snd.snd !=(0:Int))=true->(!(q2j pa s).snd.fst !=(0:Int))=true->eD.okL pa.nodes)/\(((q9l pa s).snd==(0:Int))=true->(!(q2j pa s).snd.snd !=(0:Int))=true->(!(q2j pa s).snd.fst !=(0:Int))=true->eO.okL pa.ops)/\(((q9l pa s).snd==(0:Int)&&((q2j pa s).snd.snd !=(0:Int)||((q2j pa s).snd.fst !=(0:Int)||!decide (Pn.mk (q2j pa s).fst.wk (q2j pa s).fst.room (eD.ag (q2j pa s).fst.nodes) (eO.ag (q2j pa s).fst.ops)=Pn.mk pa.wk pa.room (eD.ag pa.nodes) (eO.ag pa.ops)))))=false->((q50 pa s).snd.snd !=(0:Int))=false->eD.okL (q50 pa s).fst.nodes/\eO.okL (q50 pa s).fst.ops/\wfP (Pn.mk (q50 pa s).fst.wk (q50 pa s).fst.room (eD.ag (q50 pa s).fst.nodes) (eO.ag (q50 pa s).fst.ops))))
theorem lsb_okS(pre:DA.T aPnB->List Prop)(h:∀g,DA.bd aPnB g->(∀p∈pre g,p)->q9k g.1 g.2):FnPure Tryd.prog 5 aPnB dBool (λg=>lsb_F g.1 g.2) pre:=q05 (Γ:=(MTab.gamz tabV17 [] [])) (Λ:=lamV15) (MTab.okz tabV17 [] []) lamV15_ok 100 default (λg=>q9k g.1 g.2) (λg=>by kernel_rfl) (λg=>by kernel_rfl) h
theorem recsR_len(z:Bool)(xs:List BA):(recsR z xs).2.length<=xs.length:=by
 unfold recsR;cases xs.all recOk
 .exact Nat.zero_le _
 .show(xs.map _).length<=_;rw[List.length_map];exact Nat.le_refl _
theorem dStep_le(z:Bool)(d:Dl)(a b:BA):(dStep z d a b).2.put.length<=d.put.length+1/\(dStep z d a b).2.moves.length<=d.moves.length+1:=by
 unfold dStep;cases decide (a=bDrop)with
 |true=>exact⟨Nat.le_succ _,Nat.le_succ _⟩
 |false=>
  cases decide (a=bNode)with
  |true=>
   refine⟨?_,Nat.le_succ _⟩;show(d.put++[_]).length<=_;rw[List.length_append];exact Nat.le_refl _
  |false=>
   cases decide (a=bMove)with
   |true=>
    refine⟨Nat.le_succ _,?_⟩;show(d.moves++[_]).length<=_;rw[List.length_append];exact Nat.le_refl _
   |false=>exact⟨Nat.le_succ _,Nat.le_succ _⟩
theorem dlF_len:∀(xs:List BA)(z:Bool)(d:Dl),(dlF z d xs).2.put.length<=d.put.length+xs.length/\(dlF z d xs).2.moves.length<=d.moves.length+xs.length
 | [],z,d=>by cases z<;>exact⟨Nat.le_refl _,Nat.le_refl _⟩
 | [a],z,d=>by cases z<;>exact⟨Nat.le_succ _,Nat.le_succ _⟩
 |a::b::l,true,d=>by
  show d.put.length<=d.put.length+(a::b::l).length/\d.moves.length<=d.moves.length+(a::b::l).length;omega
 |a::b::l,false,d=>by
  have h1:=dlF_len l (dStep false d a b).1 (dStep false d a b).2;have h2:=dStep_le false d a b;show(dlF (dStep false d a b).1 (dStep false d a b).2 l).2.put.length<=d.put.length+(a::b::l).length/\(dlF (dStep false d a b).1 (dStep false d a b).2 l).2.moves.length<=d.moves.length+(a::b::l).length;simp only[List.length_cons];omega
theorem opR_len(z:Bool)(xs:List BA):(opR z xs).2.recs.length<=xs.length/\(opR z xs).2.dl.put.length<=xs.length/\(opR z xs).2.dl.moves.length<=xs.length:=by
 have h4:(q0q z xs).2.length<=xs.length:=by
  unfold q0q;rw[q7v];refine Nat.le_trans (recsR_len _ _) ?_;rw[List.length_drop];omega
 have h6:(q1r z xs).2.put.length<=xs.length/\(q1r z xs).2.moves.length<=xs.length:=by
  unfold q1r;rw[q7v];unfold q8g;have:=dlF_len (xs.drop 2) (((xs.drop 2).length:Int).tmod 2 !=(0:Int)||(q14 z xs).1) dl0;rw[List.length_drop]at this;have e1:dl0.put.length=0:=rfl;have e2:dl0.moves.length=0:=rfl;rw[List.length_drop];omega
 unfold opR rop_F;simp only[El.ag_eq];cases !(q76 z xs).snd||decide ((↑xs.length:Int)<=(q76 z xs).fst)with
 |true=>exact⟨Nat.zero_le _,Nat.zero_le _,Nat.zero_le _⟩
 |false=>
  simp only[cond_false]
  repeat' (rw[Bool.cond_eq_ite];split)
  all_goals first|exact⟨h4,Nat.zero_le _,Nat.zero_le _⟩|exact⟨Nat.zero_le _,h6.1,h6.2⟩|exact⟨Nat.zero_le _,Nat.zero_le _,Nat.zero_le _⟩
def bNodS:BA:=ByteArray.mk #[(110:UInt8),(111:UInt8),(100:UInt8),(101:UInt8),(32:UInt8)]
theorem pre_iff(s:BA)(h:hasN s=true):s=bNodS++trimN s:=by
 refine ba_inj ?_;rw[ba_app];show s.data.toList=nodL++Lib.trimPrefix s.data.toList nodL;have h:nodL.isPrefixOf s.data.toList=true:=h;unfold Lib.trimPrefix Lib.hasPrefix;rw[if_pos h];obtain⟨t,ht⟩:=List.isPrefixOf_iff_prefix.1 h;rw[<-ht,List.drop_left]
theorem has_pre(x:BA):hasN (bNodS++x)=true/\trimN (bNodS++x)=x:=by
 have e:(bNodS++x).data.toList=nodL++x.data.toList:=ba_app bNodS x
 have h:nodL.isPrefixOf (bNodS++x).data.toList=true:=by
  rw[e];exact List.isPrefixOf_iff_prefix.2 ⟨_,rfl⟩
 refine⟨h,?_⟩;refine ba_inj ?_;show Lib.trimPrefix (bNodS++x).data.toList nodL=x.data.toList;unfold Lib.trimPrefix Lib.hasPrefix;rw[if_pos h,e,List.drop_left]
def headL(a b:Int):BA:=ByteArray.mk #[(114:UInt8),(105:UInt8),(118:UInt8),(117:UInt8),(108:UInt8),(101:UInt8),(116:UInt8),(32:UInt8)]++numS a++ByteArray.mk #[(32:UInt8)]++numS b
theorem joi32_2(x y:BA)(r:List BA):joiS 32 (x::y::r)=x++ByteArray.mk #[(32:UInt8)]++joiS 32 (y::r):=by
 refine q8s ?_;rw[q5f,q5f,q6k ⟨by decide,by decide⟩,q6k ⟨by decide,by decide⟩];have:bts (ByteArray.mk #[(32:UInt8)])=[32]:=rfl;rw[this];simp[joiG]
theorem joi32_1(x:BA):joiS 32 [x]=x:=by
 refine q8s ?_;rw[q6k ⟨by decide,by decide⟩];simp[joiG]
theorem headL_joi(a b:Int):headL a b=joiS 32 [bRiv,numS a,numS b]:=by
 rw[joi32_2,joi32_2,joi32_1];unfold headL;refine q8s ?_;simp only[q5f];have e1:bts (ByteArray.mk #[(114:UInt8),(105:UInt8),(118:UInt8),(117:UInt8),(108:UInt8),(101:UInt8),(116:UInt8),(32:UInt8)])=bts bRiv++bts (ByteArray.mk #[(32:UInt8)]):=by decide
 rw[e1];simp only[List.append_assoc]
theorem num_no{n c:Int}(h:i64 n)(hc:c<33):∀a∈bts (numS n),a≠c:=λa ha=>by
 have:=q17 h a ha;unfold wd at this;omega
theorem headL_spl{a b:Int}(ha:i64 a)(hb:i64 b):splS 32 (headL a b)=[bRiv,numS a,numS b]:=by
 rw[headL_joi];refine q4v ⟨by decide,by decide⟩ (by simp) λx hx=>?_;simp only[List.mem_cons,List.not_mem_nil,or_false]at hx;rcases hx with rfl|rfl|rfl
 .decide
 .exact num_no ha (by decide)
 .exact num_no hb (by decide)
def nodLn(n:Nd):BA:=bNodS++nodeS n
def linesP(ps:Ps):List BA:=
 bif ps.part==(0:Int)then []else headL ps.wk ps.room::(ps.nodes.map nodLn++bif ps.part==(1:Int)then []else bGo::ps.ops.map λo=>(opE o).1)
def lenO(o:Opn):Prop:=wfO o/\o.recs.length<=maxLen/\o.dl.put.length<=maxLen/\o.dl.moves.length<=maxLen
structure OkPs(ps:Ps):Prop where
 part:ps.part=0\/ps.part=1\/ps.part=2
 p0:ps.part=0->ps.nodes=[]/\ps.ops=[]
 p1:ps.part=1->ps.ops=[]
 num:ps.part≠0->i64 ps.wk/\i64 ps.room
 nds:∀n∈ps.nodes,wfD n/\chkD n=0
 nln:ps.nodes.length<=32
 ops:∀o∈ps.ops,lenO o/\(opE o).2=0
 oln:ps.ops.length<=16384
theorem numR_two{w1 w2:BA}(h:(numR (numR false w1).1 w2).1=false):numS (numR false w1).2=w1/\numS (numR (numR false w1).1 w2).2=w2:=by
 unfold numR at h ⊢;cases h1:(q07 w1).2 with
 |false=>
  rw[h1]at h;simp only[cond_false]at h;cases h2:(q07 w2).2 with
  |false=>rw[h2]at h;cases h
  |true=>rw[h2]at h;cases h
 |true=>
  rw[h1]at h;simp only[cond_true]at h ⊢;cases h2:(q07 w2).2 with
  |false=>rw[h2]at h;cases h
  |true=>exact⟨q5m h1,q5m h2⟩
theorem three{α:Type}{p:List α}(d:α)(h:p.length=3):p=[p.getD 0 d,p.getD 1 d,p.getD 2 d]:=by
 match p,h with
 | [a,b,c],_=>rfl
theorem mem_add{α:Type}{P:α->Prop}{l:List α}{a:α}(h:∀x∈l,P x)(ha:P a):∀x∈l++[a],P x:=mem_snoc h ha
theorem parseOpZ_len{s:BA}(hs:s.size<=2000000)(h:(q1d s).2=0):lenO (q1d s).1:=by
 have h0:=opR_len false (splS 32 s);have h1:=q59 32 s;have hw:=opR_wf false (splS 32 s)
 have key:(q1d s).1=(opR false (splS 32 s)).2:=by
  unfold q1d at h ⊢;cases h1:(opR false (splS 32 s)).1 with
  |true=>rw[h1]at h;cases h
  |false=>
   rw[h1]at h;simp only[cond_false]at h ⊢;cases h2:(opE (opR false (splS 32 s)).2).2 !=(0:Int)||!decide ((opE (opR false (splS 32 s)).2).1=s)with
   |true=>rw[h2]at h;cases h
   |false=>rfl
 rw[key];have hm:maxLen=9223372036854775807:=rfl;exact⟨hw,by omega,by omega,by omega⟩
theorem line_fwd{ps:Ps}{x:BA}(hp:OkPs ps)(hx:x.size<=2000000)(h:(lineZ ps x).2=true):OkPs (lineZ ps x).1/\linesP (lineZ ps x).1=linesP ps++[x]:=by
 obtain⟨part,wk,room,nodes,ops⟩:=ps;obtain⟨g1,g2,g3,g4,g5,g6,g7,g8⟩:=hp;rcases g1 with rfl|rfl|rfl
 .obtain⟨rfl,rfl⟩:=g2 rfl;unfold lineZ at h ⊢;simp only[beq_self_eq_true,cond_true]at h ⊢;cases hc:((splS 32 x).length:Int)!=(3:Int)||!decide ((splS 32 x).getD 0 eStr.dflt=bRiv)with
  |true=>rw[hc]at h;cases h
  |false=>
   rw[hc]at h;rw[Bool.or_eq_false_iff]at hc;have hl:(splS 32 x).length=3:=by have:=bne_eq_false_iff_eq.1 hc.1;omega
   have hr:(splS 32 x).getD 0 eStr.dflt=bRiv:=by simpa using hc.2
   simp only[cond_false,Bool.not_eq_true']at h ⊢;have hn:=numR_two h;have i1:=q29 false ((splS 32 x).getD 1 eStr.dflt);have i2:=q29 (numR false ((splS 32 x).getD 1 eStr.dflt)).1 ((splS 32 x).getD 2 eStr.dflt);refine⟨⟨.inr (.inl rfl),λe=>(by cases e),λ_=>rfl,λ_=>⟨i1,i2⟩,g5,g6,g7,g8⟩,?_⟩;show [headL _ _]=[x];rw[headL_joi,hn.1,hn.2,<-hr,<-three eStr.dflt hl,q9r]
 .have ho:=g3 rfl;have ho:ops=[]:=ho;subst ho;unfold lineZ at h ⊢;have e10:((1:Int)==(0:Int))=false:=rfl;simp only[e10,beq_self_eq_true,cond_false,cond_true,Bool.true_and]at h ⊢;cases hg:decide (x=bGo)with
  |true=>
   have hg:=of_decide_eq_true hg;subst hg;simp only[cond_true];refine⟨⟨.inr (.inr rfl),λe=>(by cases e),λe=>(by cases e),λ_=>g4 (by show(1:Int)≠0;decide),g5,g6,g7,g8⟩,?_⟩;show headL wk room::(nodes.map nodLn++[bGo])=headL wk room::(nodes.map nodLn++[])++[bGo];simp
  |false=>
   rw[hg]at h;simp only[cond_false,Bool.and_eq_true,decide_eq_true_eq,beq_iff_eq]at h ⊢;obtain⟨k1,k2,k3⟩:=h;have hpz:q2v (trimN x)=((q2v (trimN x)).1,0):=Prod.ext rfl k2;obtain⟨z1,z2,z3⟩:=parseZ_ok hpz;refine⟨⟨.inr (.inl rfl),λe=>(by cases e),λ_=>rfl,λ_=>g4 (by show(1:Int)≠0;decide),mem_add g5 ⟨z2,z3⟩,?_,g7,g8⟩,?_⟩
   .show(nodes++[_]).length<=32;rw[List.length_append];have k3:((nodes.length+1:Nat):Int)<=32:=k3;simp only[List.length_cons,List.length_nil];omega
   .show headL wk room::((nodes++[(q2v (trimN x)).1]).map nodLn++[])=headL wk room::(nodes.map nodLn++[])++[x]
    have:nodLn (q2v (trimN x)).1=x:=by
     unfold nodLn;rw[z1,<-pre_iff x k1]
    simp[this]
 .unfold lineZ at h ⊢;have e20:((2:Int)==(0:Int))=false:=rfl;have e21:((2:Int)==(1:Int))=false:=rfl;simp only[e20,e21,cond_false,Bool.false_and,Bool.and_eq_true,decide_eq_true_eq,beq_iff_eq]at h ⊢;obtain⟨k1,k2⟩:=h;have hz:=parseOpZ_ok k1;have hl:=parseOpZ_len hx k1;refine⟨⟨.inr (.inr rfl),λe=>(by cases e),λe=>(by cases e),λ_=>g4 (by show(2:Int)≠0;decide),g5,g6,mem_add g7 ⟨hl,by rw[hz]⟩,?_⟩,?_⟩
  .show(ops++[_]).length<=16384;rw[List.length_append];have k2:((ops.length+1:Nat):Int)<=16384:=k2;simp only[List.length_cons,List.length_nil];omega
  .show headL wk room::(nodes.map nodLn++bGo::(ops++[(q1d x).1]).map λo=>(opE o).1)=headL wk room::(nodes.map nodLn++bGo::ops.map λo=>(opE o).1)++[x];simp[hz]
theorem parse_fwd:∀(l:List BA)(n:Int)(ps:Ps),OkPs ps->(∀x∈l,ByteArray.size x<=2000000)->(q0u n ps l).1=true->OkPs (q0u n ps l).2.2/\∃ls,l=ls++[bE]/\linesP (q0u n ps l).2.2=linesP ps++ls
 | [],n,ps,hp,hl,h=>by cases h
 | [x],n,ps,hp,hl,h=>by
  by_cases hx:x=bE
  .have e:q0u n ps [x]=(true,n,ps):=by
    show(bif decide (x=bE)then(true,n,ps)else(false,n+1,ps))=_;rw[decide_eq_true hx];rfl
   rw[e];exact⟨hp,[],by rw[hx];rfl,by simp⟩
  .have e:q0u n ps [x]=(false,n+1,ps):=by
    show(bif decide (x=bE)then(true,n,ps)else(false,n+1,ps))=_;rw[decide_eq_false hx];rfl
   rw[e]at h;cases h
 |x::y::r,n,ps,hp,hl,h=>by
  rw[q28 (by simp)]at h ⊢;cases hz:(lineZ ps x).2 with
  |false=>rw[hz]at h;cases h
  |true=>
   rw[hz]at h;simp only[cond_true]at h ⊢;obtain⟨k1,k2⟩:=line_fwd hp (hl x (List.mem_cons_self ..)) hz;obtain⟨k3,ls,k4,k5⟩:=parse_fwd (y::r) (n+1) (lineZ ps x).1 k1 (λz hz=>hl z (List.mem_cons_of_mem _ hz)) h;exact⟨k3,x::ls,by rw[k4];rfl,by rw[k5,k2];simp⟩
def joinNl(ls:List BA):List Int:=ls.flatMap λx=>bts x++[10]
theorem joi_nl(ls:List (List Int)):joiG 10 (ls++[[]])=ls.flatMap λx=>x++[10]:=by
 have aux:∀r:List (List Int),((r++[[]]).map ((10:Int)::·)).flatten=10::r.flatMap λx=>x++[10]:=λr=>by
  induction r with
  |nil=>rfl
  |cons y r ih=>
   rw[List.cons_append,List.map_cons,List.flatten_cons,ih,List.flatMap_cons];simp
 cases ls with
 |nil=>rfl
 |cons x r=>
  show x++((r++[[]]).map ((10:Int)::·)).flatten=_;rw[aux,List.flatMap_cons];simp
theorem joiS_nl(ls:List BA):joiS 10 (ls++[bE])=strOf (joinNl ls):=by
 unfold joiS joinNl;rw[List.map_append];have:[bE].map bts=[[]]:=rfl;rw[this,joi_nl,List.flatMap_map]
theorem prG_ok{α:Type}{f:α->BA×Int}{t:BA->BA}:∀{l:List α}{b:List Int},(∀a∈l,(f a).2=0)->prG f t l b=(0,b++l.flatMap λa=>bts (t (f a).1))
 | [],b,_=>by simp[prG]
 |a::l,b,h=>by
  have h0:=h a (List.mem_cons_self ..);unfold prG;rw[h0];show prG f t l _=_;rw[prG_ok λx hx=>h x (List.mem_cons_of_mem _ hx),List.flatMap_cons,List.append_assoc]
theorem prG_zero{α:Type}{f:α->BA×Int}{t:BA->BA}:∀{l:List α}{b:List Int},(prG f t l b).1=0->∀a∈l,(f a).2=0
 | [],b,_,a,ha=>by cases ha
 |c::l,b,h,a,ha=>by
  unfold prG at h;cases hz:(f c).2 !=(0:Int)with
  |true=>
   rw[hz]at h;have:(f c).2=0:=h;rw[this]at hz;cases hz
  |false=>
   rw[hz]at h;rcases List.mem_cons.1 ha with rfl|ha
   .exact bne0 hz
   .exact prG_zero (l:=l) h a ha
theorem nodeE_zero{n:Nd}:(nodeE n).2=0↔chkD n=0:=by
 unfold nodeE;cases h:chkD n !=(0:Int)with
 |true=>exact Iff.rfl
 |false=>exact⟨λ_=>bne0 h,λ_=>rfl⟩
theorem nodeE_fst{n:Nd}(h:chkD n=0):(nodeE n).1=nodeS n:=by
 unfold nodeE;rw[h];rfl
theorem opE_zero{o:Opn}:(opE o).2=0↔chkO o=0:=by
 unfold opE;cases h:chkO o !=(0:Int)with
 |true=>exact Iff.rfl
 |false=>exact⟨λ_=>bne0 h,λ_=>rfl⟩
theorem opE_fst{o:Opn}(h:chkO o=0):(opE o).1=joiS 32 (q1k o):=by
 unfold opE;rw[h];rfl
def q9n(p:Pn):List BA:=headL p.wk p.room::(p.nodes.map nodLn++bGo::p.ops.map λo=>(opE o).1)
theorem bts_nl:bts (ByteArray.mk #[(10:UInt8)])=[10]:=rfl
theorem qb8{α β:Type}{f g:α->List β}{l:List α}(h:∀a∈l,f a=g a):l.flatMap f=l.flatMap g:=by
 induction l with
 |nil=>rfl
 |cons a l ih=>rw[List.flatMap_cons,List.flatMap_cons,h a (List.mem_cons_self ..),ih λx hx=>h x (List.mem_cons_of_mem _ hx)]
theorem prO_ok{p:Pn}(h1:∀n∈p.nodes,chkD n=0)(h2:∀o∈p.ops,(opE o).2=0):(prN p).1=0/\prO p=(0,joinNl (q9n p)):=by
 have e1:prN p=(0,bts (headS p)++p.nodes.flatMap λa=>bts (tNd (nodeE a).1)):=prG_ok λa ha=>nodeE_zero.2 (h1 a ha);refine⟨by rw[e1],?_⟩;unfold prO;rw[e1,prG_ok h2]
 have e2:(p.nodes.flatMap λa=>bts (tNd (nodeE a).1))=(p.nodes.map nodLn).flatMap λx=>bts x++[10]:=by
  rw[List.flatMap_map];refine qb8 λa ha=>?_;rw[nodeE_fst (h1 a ha)];show bts (bNodS++nodeS a++_)=bts (bNodS++nodeS a)++[10];rw[q5f,bts_nl]
 have e3:(p.ops.flatMap λa=>bts (tOp (opE a).1))=(p.ops.map λo=>(opE o).1).flatMap λx=>bts x++[10]:=by
  rw[List.flatMap_map];refine qb8 λa _=>?_;unfold tOp;rw[q5f,bts_nl]
 have e4:bts (headS p)=bts (headL p.wk p.room)++[10]:=by
  show bts (headL p.wk p.room++ByteArray.mk #[(10:UInt8)])=_;rw[q5f,bts_nl]
 have e5:bts goS=bts bGo++[10]:=by decide
 show(0,bts (headS p)++(p.nodes.flatMap λa=>bts (tNd (nodeE a).1))++bts goS++_)=_;unfold joinNl q9n;rw[e2,e3,e4,e5];simp only[List.flatMap_cons,List.flatMap_append,List.append_assoc]
theorem parse_print{s:BA}{q:Pn}{n:Int}(h:q21 s=(q,n,0)):n=0/\wfP q/\q3d q=(s,0):=by
 unfold q21 at h;cases hb:decide ((s.size:Int)>(1048576:Int))with
 |true=>rw[hb]at h;cases h
 |false=>
  rw[hb]at h;have hsz:=of_decide_eq_false hb;simp only[cond_false]at h;cases h1:(q0u 0 ps0 (splS 10 s)).1 with
  |false=>rw[h1]at h;cases h
  |true=>
   rw[h1]at h;simp only[Bool.not_true,cond_false]at h;have hx:∀x∈splS 10 s,ByteArray.size x<=2000000:=λx hx=>by have:=q7r hx;omega
   obtain⟨k1,ls,k2,k3⟩:=parse_fwd (splS 10 s) 0 ps0 ⟨.inl rfl,λ_=>⟨rfl,rfl⟩,λ_=>rfl,λe=>absurd rfl e,λ_ hn=>(by cases hn),Nat.zero_le _,λ_ ho=>(by cases ho),Nat.zero_le _⟩ hx h1;generalize (q0u 0 ps0 (splS 10 s)).2.2=ps at h k1 k3;obtain⟨part,wk,room,nodes,ops⟩:=ps;cases h2:decide (part<(2:Int))with
   |true=>rw[h2]at h;cases h
   |false=>
    have hp2:=of_decide_eq_false h2;rw[h2]at h;simp only[cond_false,Prod.mk.injEq]at h;obtain⟨rfl,rfl,_⟩:=h;obtain⟨g1,g2,g3,g4,g5,g6,g7,g8⟩:=k1
    have hp:part=2:=by
     rcases g1 with h|h|h
     .have h:part=0:=h;omega
     .have h:part=1:=h;omega
     .exact h
    subst hp;have k3:q9n ⟨wk,room,nodes,ops⟩=ls:=k3;obtain⟨i1,i2⟩:=g4 (by show(2:Int)≠0;decide);have hw:wfP ⟨wk,room,nodes,ops⟩:=⟨i1,i2,λn hn=>(g5 n hn).1,λo ho=>(g7 o ho).1⟩;refine⟨rfl,hw,?_⟩;obtain⟨f1,f2⟩:=prO_ok (p:=⟨wk,room,nodes,ops⟩) (λn hn=>(g5 n hn).2) (λo ho=>(g7 o ho).2);have hs:strOf (joinNl ls)=s:=by rw[<-joiS_nl,<-k2,q9r]
    unfold q3d bigP
    have hbig:(decide ((nodes.length:Int)>(32:Int))||decide ((ops.length:Int)>(16384:Int)))=false:=by
     have g6:nodes.length<=32:=g6;have g8:ops.length<=16384:=g8;rw[Bool.or_eq_false_iff];exact⟨decide_eq_false (by omega),decide_eq_false (by omega)⟩
    have hlen:(joinNl ls).length=s.size:=by rw[<-hs,q1b]
    rw[show(decide (((⟨wk,room,nodes,ops⟩:Pn).nodes.length:Int)>(32:Int))||decide (((⟨wk,room,nodes,ops⟩:Pn).ops.length:Int)>(16384:Int)))=false from hbig,f1,f2,k3,hlen,hb,hs];rfl
theorem parse_bad{s:BA}(h:(q21 s).2.2≠0):0<(q21 s).2.1:=by
 have hn:∀(l:List BA)(n:Int)(ps:Ps),0<=n->l≠[]->(q0u n ps l).1=false->0<(q0u n ps l).2.1:=by
  intro l
  induction l with
  |nil=>intro n ps _ hl _;exact absurd rfl hl
  |cons x r ih=>
   intro n ps h0 _ h;cases r with
   |nil=>
    show 0<(bif decide (x=bE)then(true,n,ps)else(false,n+1,ps)).2.1;have h:(bif decide (x=bE)then(true,n,ps)else(false,n+1,ps)).1=false:=h;cases hd:decide (x=bE)with
    |true=>rw[hd]at h;cases h
    |false=>show 0<n+1;omega
   |cons y r=>
    rw[q28 (by simp)]at h ⊢;cases hz:(lineZ ps x).2 with
    |true=>
     rw[hz]at h;exact ih (n+1) (lineZ ps x).1 (by omega) (by simp) h
    |false=>show 0<n+1;omega
 have h0:=parseL_n (splS 10 s) 0 ps0 (Int.le_refl _);unfold q21 at h ⊢;cases hb:decide ((s.size:Int)>(1048576:Int))with
 |true=>show(0:Int)<1;decide
 |false=>
  rw[hb]at h;simp only[cond_false]at h ⊢;cases h1:(q0u 0 ps0 (splS 10 s)).1 with
  |false=>exact hn _ _ _ (Int.le_refl _) (splS_ne _ _) h1
  |true=>
   rw[h1]at h;simp only[Bool.not_true,cond_false]at h ⊢;cases h2:decide ((q0u 0 ps0 (splS 10 s)).2.2.part<(2:Int))with
   |true=>show 0<(q0u 0 ps0 (splS 10 s)).2.1+1;omega
   |false=>rw[h2]at h;exact absurd rfl h
theorem line_head{a b:Int}(ha:i64 a)(hb:i64 b):lineZ ps0 (headL a b)=(⟨1,a,b,[],[]⟩,true):=by
 unfold lineZ;rw[headL_spl ha hb];have e0:(ps0.part==(0:Int))=true:=rfl;have e3:((([bRiv,numS a,numS b]:List BA).length:Int)!=(3:Int))=false:=rfl;have e4:([bRiv,numS a,numS b]:List BA).getD 0 eStr.dflt=bRiv:=rfl;rw[e0,e3,e4,cond_true];have e1:([bRiv,numS a,numS b]:List BA).getD 1 eStr.dflt=numS a:=rfl;have e2:([bRiv,numS a,numS b]:List BA).getD 2 eStr.dflt=numS b:=rfl;rw[e1,e2,q4y ha,q4y hb,decide_eq_true rfl];rfl
theorem nodLn_ne(n:Nd):nodLn n≠bGo:=λe=>by
 have h:=congrArg bts e;unfold nodLn at h;rw[q5f]at h;have e1:bts bNodS=[110,111,100,101,32]:=by decide
 have e2:bts bGo=[103,111]:=by decide
 rw[e1,e2]at h;cases h
theorem line_node{wk room:Int}{nodes:List Nd}{n:Nd}(h:wfD n)(hc:chkD n=0)(hl:nodes.length<32):lineZ ⟨1,wk,room,nodes,[]⟩ (nodLn n)=(⟨1,wk,room,nodes++[n],[]⟩,true):=by
 have e10:((1:Int)==(0:Int))=false:=rfl;have hp:=has_pre (nodeS n);have hz:=parseZ_back h hc;have hz:q2v (trimN (nodLn n))=(n,0):=by show q2v (trimN (bNodS++nodeS n))=_;rw[hp.2];exact hz
 have hh:hasN (nodLn n)=true:=hp.1;unfold lineZ;simp only[e10,beq_self_eq_true,cond_false,cond_true,Bool.true_and,decide_eq_false (nodLn_ne n),hz,hh];have:((nodes.length+1:Nat):Int)<=32:=by omega
 rw[decide_eq_true this]
theorem line_op{wk room:Int}{nodes:List Nd}{ops:List Opn}{o:Opn}(h:lenO o)(hc:(opE o).2=0)(hl:ops.length<16384):lineZ ⟨2,wk,room,nodes,ops⟩ (opE o).1=(⟨2,wk,room,nodes,ops++[o]⟩,true):=by
 have e20:((2:Int)==(0:Int))=false:=rfl;have e21:((2:Int)==(1:Int))=false:=rfl;have hk:=opE_zero.1 hc;have hz:=parseOp_back h.1 (chkO_ok o h.2.1 h.2.2.1 h.2.2.2 hk);rw[<-opE_fst hk]at hz;unfold lineZ;simp only[e20,e21,cond_false,Bool.false_and,hz,beq_self_eq_true,Bool.true_and];have:((ops.length+1:Nat):Int)<=16384:=by omega
 rw[decide_eq_true this]
theorem parse_nodes{wk room:Int}:∀(l:List Nd)(n:Int)(nodes:List Nd)(r:List BA),r≠[]->(∀x∈l,wfD x/\chkD x=0)->nodes.length+l.length<=32->q0u n ⟨1,wk,room,nodes,[]⟩ (l.map nodLn++r)=q0u (n+l.length) ⟨1,wk,room,nodes++l,[]⟩ r
 | [],n,nodes,r,hr,h,hl=>by simp
 |a::l,n,nodes,r,hr,h,hl=>by
  have h0:=h a (List.mem_cons_self ..);simp only[List.length_cons]at hl;rw[List.map_cons,List.cons_append,q28 (by simp[hr]),line_node h0.1 h0.2 (by omega),cond_true,parse_nodes l (n+1) (nodes++[a]) r hr (λx hx=>h x (List.mem_cons_of_mem _ hx)) (by rw[List.length_append];simp only[List.length_cons,List.length_nil];omega)];rw[List.length_cons,show n+1+(l.length:Int)=n+((l.length+1:Nat):Int) by omega,List.append_assoc];rfl
theorem parse_ops{wk room:Int}{nodes:List Nd}:∀(l:List Opn)(n:Int)(ops:List Opn)(r:List BA),r≠[]->(∀x∈l,lenO x/\(opE x).2=0)->ops.length+l.length<=16384->q0u n ⟨2,wk,room,nodes,ops⟩ ((l.map λo=>(opE o).1)++r)=q0u (n+l.length) ⟨2,wk,room,nodes,ops++l⟩ r
 | [],n,ops,r,hr,h,hl=>by simp
 |a::l,n,ops,r,hr,h,hl=>by
  have h0:=h a (List.mem_cons_self ..);simp only[List.length_cons]at hl;rw[List.map_cons,List.cons_append,q28 (by simp[hr]),line_op h0.1 h0.2 (by omega),cond_true,parse_ops l (n+1) (ops++[a]) r hr (λx hx=>h x (List.mem_cons_of_mem _ hx)) (by rw[List.length_append];simp only[List.length_cons,List.length_nil];omega)];rw[List.length_cons,show n+1+(l.length:Int)=n+((l.length+1:Nat):Int) by omega,List.append_assoc];rfl
theorem line_go{wk room:Int}{nodes:List Nd}:lineZ ⟨1,wk,room,nodes,[]⟩ bGo=(⟨2,wk,room,nodes,[]⟩,true):=by
 unfold lineZ;have e10:((1:Int)==(0:Int))=false:=rfl;simp only[e10,beq_self_eq_true,cond_false,cond_true,Bool.true_and,decide_true]
theorem parse_lines{p:Pn}(hw:wfP p)(h1:∀n∈p.nodes,chkD n=0)(h2:∀o∈p.ops,(opE o).2=0)(l1:p.nodes.length<=32)(l2:p.ops.length<=16384):∃n,q0u 0 ps0 (q9n p++[bE])=(true,n,⟨2,p.wk,p.room,p.nodes,p.ops⟩):=by
 obtain⟨i1,i2,hn,ho⟩:=hw;unfold q9n;rw[List.cons_append,q28 (by simp),line_head i1 i2,cond_true,List.append_assoc,parse_nodes p.nodes _ [] _ (by simp) (λx hx=>⟨hn x hx,h1 x hx⟩) (by simpa using l1),List.nil_append,List.cons_append,q28 (by simp),line_go,cond_true,parse_ops p.ops _ [] _ (by simp) (λx hx=>⟨ho x hx,h2 x hx⟩) (by simpa using l2),List.nil_append];exact⟨_,rfl⟩
theorem lines_ch{p:Pn}(hw:wfP p)(h1:∀n∈p.nodes,chkD n=0)(h2:∀o∈p.ops,(opE o).2=0):∀x∈q9n p++[bE],∀c∈bts x,c≠10:=by
 obtain⟨i1,i2,hn,ho⟩:=hw;intro x hx c hc;rcases List.mem_append.1 hx with hx|hx
 .unfold q9n at hx;rcases List.mem_cons.1 hx with rfl|hx
  .unfold headL at hc;simp only[q5f,List.mem_append]at hc;rcases hc with ((hc|hc)|hc)|hc
   .have:∀c∈bts (ByteArray.mk #[(114:UInt8),(105:UInt8),(118:UInt8),(117:UInt8),(108:UInt8),(101:UInt8),(116:UInt8),(32:UInt8)]),c≠10:=by decide
    exact this c hc
   .exact num_no i1 (by decide) c hc
   .have:∀c∈bts (ByteArray.mk #[(32:UInt8)]),c≠10:=by decide
    exact this c hc
   .exact num_no i2 (by decide) c hc
  .rcases List.mem_append.1 hx with hx|hx
   .obtain⟨n,hnm,rfl⟩:=List.mem_map.1 hx;unfold nodLn at hc;rw[q5f]at hc;rcases List.mem_append.1 hc with hc|hc
    .have:∀c∈bts bNodS,c≠10:=by decide
     exact this c hc
    .have:=nodeS_ch (hn n hnm) c hc;omega
   .rcases List.mem_cons.1 hx with rfl|hx
    .have:∀c∈bts bGo,c≠10:=by decide
     exact this c hc
    .obtain⟨o,hom,rfl⟩:=List.mem_map.1 hx;have hk:=opE_zero.1 (h2 o hom);have hl:=ho o hom;rw[opE_fst hk]at hc;have:=line_ch hl.1 (chkO_ok o hl.2.1 hl.2.2.1 hl.2.2.2 hk) c hc;omega
 .rw[List.mem_singleton.1 hx]at hc;cases hc
theorem print_parse{p:Pn}{t:BA}(hw:wfP p)(h:q3d p=(t,0)):q21 t=(p,0,0):=by
 unfold q3d at h;cases hb:bigP p with
 |true=>rw[hb]at h;cases h
 |false=>
  rw[hb]at h;simp only[cond_false]at h;cases k1:(prN p).1 !=(0:Int)with
  |true=>
   rw[k1]at h;simp only[cond_true,Prod.mk.injEq]at h;rw[h.2]at k1;cases k1
  |false=>
   rw[k1]at h;simp only[cond_false]at h;cases k2:(prO p).1 !=(0:Int)with
   |true=>
    rw[k2]at h;simp only[cond_true,Prod.mk.injEq]at h;rw[h.2]at k2;cases k2
   |false=>
    rw[k2]at h;simp only[cond_false]at h;cases k3:decide (((prO p).2.length:Int)>(1048576:Int))with
    |true=>rw[k3]at h;cases h
    |false=>
     rw[k3]at h;simp only[cond_false,Prod.mk.injEq,and_true]at h;have h1:∀n∈p.nodes,chkD n=0:=λn hn=>nodeE_zero.1 (prG_zero (bne0 k1) n hn);have h2:∀o∈p.ops,(opE o).2=0:=prG_zero (bne0 k2);have hO:=(prO_ok h1 h2).2;rw[hO]at h k3;have k3:=of_decide_eq_false k3;unfold bigP at hb;rw[Bool.or_eq_false_iff]at hb;have l1:=of_decide_eq_false hb.1;have l2:=of_decide_eq_false hb.2;obtain⟨n,hn⟩:=parse_lines hw h1 h2 (by omega) (by omega)
     have hsp:splS 10 t=q9n p++[bE]:=by
      rw[<-h,<-joiS_nl];exact q4v ⟨by decide,by decide⟩ (by simp) (lines_ch hw h1 h2)
     have hsz:t.size=(joinNl (q9n p)).length:=by rw[<-h,q1b]
     unfold q21;have k3':¬((t.size:Int)>1048576):=by rw[hsz];exact k3
     rw[hsp,hn,decide_eq_false k3'];rfl
end
end Go.Proofs.YtapdglacmebbaaaDoor

namespace Go.Proofs.YtapdglacmebbaaaDoor
open Go.RowKit Go.Sx Go.Lp
def wfQ(p:Pn):Prop:=i64 p.wk/\i64 p.room/\(∀n∈p.nodes,wfD n)/\∀o∈p.ops,wfO o
theorem wfQ_P{p:Pn}(h:wfQ p)(hb:eLO.bd p.ops):wfP p:=⟨h.1,h.2.1,h.2.2.1,λo ho=>by
 have hb:=hb.2 o ho;exact⟨h.2.2.2 o ho,hb.2.2.2.2.2.1.1,hb.2.2.2.2.2.2.2.1.1,hb.2.2.2.2.2.2.2.2.1⟩⟩
theorem lsb_eq(p:Pn)(s:BA)(hw:wfP p):q9k p s/\lsb_F p s=true:=by
 have q2:q9l p s=q3d p:=by
  unfold q9l;simp only[El.ag_eq,Pn_eta]
 have q3:q2j p s=q21 (q3d p).1:=by
  unfold q2j;rw[q2]
 have q4:q50 p s=q21 s:=rfl
 have q5:lsb_q5 p s=q3d (q21 s).1:=by
  unfold lsb_q5;rw[q4];simp only[El.ag_eq,Pn_eta]
 have hback:((q3d p).2==(0:Int))=true->q21 (q3d p).1=(p,0,0):=λh=>print_parse hw (Prod.ext rfl (by simpa using h));unfold q9k lsb_F;rw[q2,q3,q4,q5];simp only[El.okL_eq,El.ag_eq,Pn_eta,implies_true,true_and,and_true];constructor
 .intro _ _;refine⟨hw,λ_ h2=>?_⟩;have h2:(q21 s).2.2=0:=bne0 h2;exact(parse_print (q:=(q21 s).1) (n:=(q21 s).2.1) (Prod.ext rfl (Prod.ext rfl h2))).2.1
 .cases !(lsb_q1 p s)||decide ((s.size:Int)>(5000:Int))with
  |true=>rfl
  |false=>
   rw[cond_false]
   have h1:((q3d p).2==(0:Int)&&((q21 (q3d p).1).2.2 !=(0:Int)||((q21 (q3d p).1).2.1 !=(0:Int)||!decide ((q21 (q3d p).1).1=p))))=false:=by
    cases hz:(q3d p).2==(0:Int)with
    |false=>rfl
    |true=>
     rw[hback hz,decide_eq_true rfl];rfl
   rw[h1,cond_false];cases h2:(q21 s).2.2 !=(0:Int)with
   |true=>
    have:=parse_bad (s:=s) (by simpa using h2);rw[cond_true];exact decide_eq_true this
   |false=>
    rw[cond_false];obtain⟨k1,_,k3⟩:=parse_print (q:=(q21 s).1) (n:=(q21 s).2.1) (Prod.ext rfl (Prod.ext rfl (bne0 h2)));rw[k3,k1,decide_eq_true rfl];rfl
theorem lsb_ok:FnPure Tryd.prog 5 aPnB dBool (λ_=>true) (λg=>[wfQ g.1]):=by
 have key:∀g:Pn×BA,DA.bd aPnB g->(∀p∈[wfQ g.1],p)->q9k g.1 g.2/\lsb_F g.1 g.2=true:=λg hb hp=>
  lsb_eq g.1 g.2 (wfQ_P (hp _ (List.mem_cons_self ..)) hb.1.2.2.2)
 exact q0d (lsb_okS _ λg hb hp=>(key g hb hp).1) λg hb hp=>(key g hb hp).2
end Go.Proofs.YtapdglacmebbaaaDoor

namespace Go.Proofs.YtapdglacmebbaaaDoor
open Go.RowKit Go.Sx Go.ChangeShapes
def WLO(l:List Opn):Prop:=∀n∈l,Opn.W n
def WPn(a:PnP):Prop:=W1 a.1/\W1 a.2.1/\WLD a.2.2.1/\WLO a.2.2.2
def Pn.W(s:Pn):Prop:=WPn s.toP
theorem rdGr:Rd Tryd.prog 50 eLD WLD:=q4c (ts:=[24]) Tryd.underlying50 rfl (by kernel_rfl) (q77 rdLD)
theorem rdLO:Rd Tryd.prog 53 eLO WLO:=q9c Tryd.underlying53 (by kernel_rfl) (by decide) rdOp
theorem rdPn:Rd Tryd.prog 55 eP' Pn.W:=rd_iso (Q:=WPn) (q4c (ts:=[3,3,50,53]) Tryd.underlying55 rfl (by kernel_rfl) (q15 rd3 (q15 rd3 (q15 rdGr (q77 rdLO))))) _ _ _ _
theorem rdvPn:RdV Tryd.prog 55 dPn Pn.W:=rdv_struct Tryd.underlying55 rdPn
theorem wfQ_W{p:Pn}(h:Pn.W p):wfQ p:=by
 obtain⟨h1,h2,h3,h4⟩:=h;exact⟨wf64 h1,wf64 h2,λn hn=>wfD_W (h3 n hn),λo ho=>wfO_W (h4 o ho)⟩
end Go.Proofs.YtapdglacmebbaaaDoor

namespace Go.Proofs.YtapdglacmebbaaaDoor
open Go.ChangeShapes Go.WideShapes Go.ChangeAt Go.RowKit Go.Sx
set_option maxRecDepth 100000 in
theorem scriptBack_lifted(law:FnPure Tryd.prog 5 aPnB dBool (λ_=>true) (λg=>[wfQ g.1]))(os:Os)(started:os.Started)(H:Type)(enc:TypeId×Value->H):
  ReturnsInHanded {} Tryd.checked os 5 .any (λw args=>(Rows.scriptBackSpec.pre enc Tryd.prog Tryd.f5 Rows.scriptBackRow.domain false w args/\laidMetH Tryd.prog Rows.scriptBackRow.laid w)/\sizedMet enc Tryd.prog Tryd.f5 (OpenSpec.ofChange Rows.scriptBackSpec) false w args) (Rows.scriptBackSpec.post enc Tryd.prog Tryd.f5 false true false false):=by
 refine rowLaid (C:=Tryd.checked) (laid:=Rows.scriptBackRow.laid) Tryd.own started (by kernel_rfl) Tryd.func5
  (ChangeSpec.witness_shaped (enc:=enc) (C:=Tryd.checked) (os:=os) (X:=λw _=>laidMetH Tryd.prog Rows.scriptBackRow.laid w) false (World.laidAll Tryd.prog os Rows.scriptBackRow.laid) #[.agg #[.int .i64 0,.int .i64 0,.slice none 0 0,.slice none 0 0],.string ByteArray.empty] 8 (World.laidAll_os _ _ _)
   (World.shaped_of_ZipB (by kernel_rfl) (by kernel_rfl)) (by kernel_rfl) (by kernel_rfl) (by kernel_rfl)
   (by rw[MakeChecks.laidMetH_plain _ _ _ (by kernel_rfl)];exact laidMet_laidAll _ (by kernel_rfl) (by kernel_rfl))) ?_
 intro W base args ds gs before hval0 hW hcnd hL hsh;have hval:∀(j:Nat)t v,Tryd.f5.params[j]?=some t->args[j]?=some v->Value.okWide Tryd.prog W .any base t v:=hval0;have hW':=hW;obtain⟨p,q,hA0,hV,rfl,hfz,hnd⟩:=hW;have hA:DataW.TrodAll enc Tryd.prog W 0 (λ_=>true) true Tryd.f5.params.toList args.toList ds p:=hA0;rw[Tryd.params5]at hA hval;obtain⟨v0,vs0,d0,ds0,p0,qq0,hargs,rfl,rfl,h0,r0⟩:=trodAll_cons hA;obtain⟨v1,vs1,d1,ds1,p1,qq1,rfl,rfl,rfl,h1,r1⟩:=trodAll_cons r0;obtain⟨rfl,rfl,rfl⟩:=trodAll_nil r1;obtain rfl:args=#[v0,v1]:=by cases args;simp_all
 obtain⟨rfl,rfl⟩:=trodVars_none hV;obtain⟨a0,q0,f0⟩:=rdvPn _ _ _ _ _ _ _ _ _ _ _ (hval 0 55 v0 rfl rfl) h0;obtain⟨a1,q1,f1⟩:=rdvS _ _ _ _ _ _ _ _ _ _ _ (hval 1 9 v1 rfl rfl) h1
 have lt:∀{t:TypeId}{v:Value}{d:DataW H}{ps:List MemPlace},DataW.Trod enc Tryd.prog W 0 (λ_=>true) true t v d ps->∀x∈ps,x.block<W.heap.size:=by
  rintro t v d ps ⟨m,hm⟩;exact DataW.trod_lt m _ _ _ hm
 clear hA0 hval0;refine(law W (λb=>W.heap[b]?) (a0,a1) [v0,v1] (λ_ _ h=>h) (rowEnv hL hsh) (by intro p hp;rw[List.mem_singleton.1 hp];exact wfQ_W q0) ⟨f0,f1,trivial⟩).mono λe W'⟨x,he,bel,hx⟩=>?_;obtain rfl:x=.bool true:=by simpa [dBool,SV.fit]using hx
 subst he
 exact⟨_,rfl,_,_,_,[],_,[],hW',trodAll_mk1 (shut_bool Tryd.underlying4 _),
  (trodAll_cons_mk (Below.trod Tryd.laidOut (by kernel_rfl) (of_decide_eq_true (by kernel_rfl)) h0 bel (lt h0))
  (trodAll_cons_mk (Below.trod Tryd.laidOut (by kernel_rfl) (of_decide_eq_true (by kernel_rfl)) h1 bel (lt h1)) trodAll_mk0)),rfl,bel.frame _,λh=>by cases h⟩
theorem scriptBack_row:Rows.ScriptBackSaid:=
 OpenClaim.holds_of_wide 5 Tryd.f5 rfl rfl rfl rfl rfl rfl rfl ⟨rfl,rfl,rfl,rfl,rfl⟩ rfl rfl rfl rfl rfl (by kernel_rfl) Tryd.func5 (by kernel_rfl)
  (of_decide_eq_true (by kernel_rfl)) (by unfold Func.isWrapper;first|(rw[if_pos (by decide+kernel)];kernel_rfl)|(rw[if_neg (by decide+kernel)];exact⟨rfl,rfl⟩))
  (λos started H enc _=>scriptBack_lifted lsb_ok os started H enc)
theorem scriptBack_holds:Rows.ScriptBackCardSaid:=
 Claim7.holds_tied_plain_at .later [] [.data,.pinned] true (true, "1fa8a138a45b84df1300b1ffcb2fc2d8977eac32ce63debdf0ebdf7f8e425af6") false scriptBack_row (λ_ h=>by cases h) (by kernel_rfl) (λ_ h=>by cases h) scriptBack_row_tie rfl ⟨rfl,rfl⟩ (by kernel_rfl) rfl
  (λf fn hf hfn=>by
   obtain rfl:f=5:=Option.some.inj ((show Tryd.prog.funcNamed "rivulet/rivuletlaw27.ScriptBack" =some 5 by kernel_rfl).symm.trans hf) |>.symm;obtain rfl:fn=Tryd.f5:=(Option.some.inj (Tryd.func5.symm.trans hfn)).symm
   exact⟨by kernel_rfl,λj t ht=>by
    rw[Tryd.params5]at ht;have hm:t∈[55,9]:=by simpa using Array.mem_of_getElem? ht
    have hall:([55,9].all λu=>!Tryd.prog.wantsStandIn u)=true:=by kernel_rfl
    exact(show Tryd.prog.wantsStandIn t=false by simpa using List.all_eq_true.1 hall t hm)⟩)
  (by kernel_rfl)
end Go.Proofs.YtapdglacmebbaaaDoor
