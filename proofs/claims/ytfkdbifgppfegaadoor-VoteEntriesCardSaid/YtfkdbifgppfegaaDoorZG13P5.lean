/- Chapter 21: the kit's SortFunc at entries. Laid by lay.py, with a tail. -/
import Derived.Test.YtfkdbifgppfegaaDoorZG12f52a1a
import Derived.Test.YtfkdbifgppfegaaDoorZG07c57bd8
import Derived.Test.YtfkdbifgppfegaaDoorZG053af284
import Derived.Test.YtfkdbifgppfegaaDoorZG09a42b49
import Derived.Test.YtfkdbifgppfegaaDoorZG06f19b95
import Derived.Test.YtfkdbifgppfegaaDoorCards
set_option linter.unusedVariables false
set_option linter.unusedSimpArgs false
set_option linter.constructorNameAsVariable false
set_option linter.all false

namespace Go.Proofs.YtfkdbifgppfegaaDoor
open Go.RowKit Go.Sx Go.Lp Go.Shelf Go.Sort
def sortE_ren:Go.Shelf.Ren:=⟨λ|6=>28|15=>59|14=>58|28=>89|29=>90|20=>81|21=>82|22=>83|23=>84|24=>85|25=>86|26=>87|27=>88|46=>103|47=>104|48=>105|49=>106|50=>107|57=>115|n=>n,λ|22=>29|24=>73|25=>74|3=>3|39=>97|0=>0|53=>134|55=>99|4=>4|46=>127|45=>126|50=>131|5=>5|9=>9|66=>143|70=>147|76=>153|77=>154|n=>n,λ|n=>n⟩
theorem sortE:SlLaysF0.n6 Tryd.prog sortE_ren:={
 mixed:=by kernel_rfl,
 f6:=⟨Tryd.f28.name,by decide,Tryd.func28.trans (congrArg some (by kernel_rfl))⟩,
 f14:=⟨Tryd.f58.name,by decide,Tryd.func58.trans (congrArg some (by kernel_rfl))⟩,
 f15:=Tryd.func59.trans (congrArg some (by kernel_rfl)),
 f20:=⟨Tryd.f81.name,by decide,Tryd.func81.trans (congrArg some (by kernel_rfl))⟩,
 f21:=⟨Tryd.f82.name,by decide,Tryd.func82.trans (congrArg some (by kernel_rfl))⟩,
 f22:=⟨Tryd.f83.name,by decide,Tryd.func83.trans (congrArg some (by kernel_rfl))⟩,
 f23:=⟨Tryd.f84.name,by decide,Tryd.func84.trans (congrArg some (by kernel_rfl))⟩,
 f24:=⟨Tryd.f85.name,by decide,Tryd.func85.trans (congrArg some (by kernel_rfl))⟩,
 f25:=⟨Tryd.f86.name,by decide,Tryd.func86.trans (congrArg some (by kernel_rfl))⟩,
 f26:=⟨Tryd.f87.name,by decide,Tryd.func87.trans (congrArg some (by kernel_rfl))⟩,
 f27:=⟨Tryd.f88.name,by decide,Tryd.func88.trans (congrArg some (by kernel_rfl))⟩,
 f28:=Tryd.func89.trans (congrArg some (by kernel_rfl)),
 f29:=Tryd.func90.trans (congrArg some (by kernel_rfl)),
 f46:=⟨Tryd.f103.name,by decide,Tryd.func103.trans (congrArg some (by kernel_rfl))⟩,
 f47:=Tryd.func104.trans (congrArg some (by kernel_rfl)),
 f48:=Tryd.func105.trans (congrArg some (by kernel_rfl)),
 f49:=⟨Tryd.f106.name,by decide,Tryd.func106.trans (congrArg some (by kernel_rfl))⟩,
 f50:=⟨Tryd.f107.name,by decide,Tryd.func107.trans (congrArg some (by kernel_rfl))⟩,
 f57:=⟨Tryd.f115.name,by decide,Tryd.func115.trans (congrArg some (by kernel_rfl))⟩,
 t0:=Tryd.underlying0,
 a0:=Tryd.isAgg0,
 z0:=Tryd.sizeOf0,
 v0:=Tryd.zeroValue0,
 t3:=Tryd.underlying3,
 a3:=Tryd.isAgg3,
 z3:=Tryd.sizeOf3,
 v3:=Tryd.zeroValue3,
 t4:=Tryd.underlying4,
 a4:=Tryd.isAgg4,
 z4:=Tryd.sizeOf4,
 v4:=Tryd.zeroValue4,
 t5:=Tryd.underlying5,
 a5:=Tryd.isAgg5,
 z5:=Tryd.sizeOf5,
 v5:=Tryd.zeroValue5,
 t9:=Tryd.underlying9,
 a9:=Tryd.isAgg9,
 z9:=Tryd.sizeOf9,
 v9:=Tryd.zeroValue9,
 t22:=Tryd.underlying29,
 a22:=Tryd.isAgg29,
 z22:=Tryd.sizeOf29,
 v22:=Tryd.zeroValue29,
 t25:=Tryd.underlying74,
 a25:=Tryd.isAgg74,
 z25:=Tryd.sizeOf74,
 v25:=Tryd.zeroValue74,
 t39:=Tryd.underlying97,
 a39:=Tryd.isAgg97,
 z39:=Tryd.sizeOf97,
 v39:=Tryd.zeroValue97,
 t45:=Tryd.underlying126,
 a45:=Tryd.isAgg126,
 z45:=Tryd.sizeOf126,
 v45:=Tryd.zeroValue126,
 t46:=Tryd.underlying127,
 a46:=Tryd.isAgg127,
 z46:=Tryd.sizeOf127,
 v46:=Tryd.zeroValue127,
 t50:=Tryd.underlying131,
 a50:=Tryd.isAgg131,
 z50:=Tryd.sizeOf131,
 v50:=Tryd.zeroValue131,
 t53:=Tryd.underlying134,
 a53:=Tryd.isAgg134,
 z53:=Tryd.sizeOf134,
 v53:=Tryd.zeroValue134,
 t55:=Tryd.underlying99,
 a55:=Tryd.isAgg99,
 z55:=Tryd.sizeOf99,
 v55:=Tryd.zeroValue99,
 t66:=Tryd.underlying143,
 a66:=Tryd.isAgg143,
 z66:=Tryd.sizeOf143,
 v66:=Tryd.zeroValue143,
 t70:=Tryd.underlying147,
 a70:=Tryd.isAgg147,
 z70:=Tryd.sizeOf147,
 v70:=Tryd.zeroValue147,
 t76:=Tryd.underlying153,
 a76:=Tryd.isAgg153,
 z76:=Tryd.sizeOf153,
 v76:=Tryd.zeroValue153,
 t77:=Tryd.underlying154,
 a77:=Tryd.isAgg154,
 z77:=Tryd.sizeOf154,
 v77:=Tryd.zeroValue154}
noncomputable def cmpE(a b:Ent):Int:=ord_F a b
noncomputable def srtE(xs:List Ent):List Ent:=srtBy cmpE xs
theorem srtE_len(a:List Ent):(srtE a).length=a.length:=(srtBy_perm cmpE a).length_eq
theorem srtE_perm{a b:List Ent}(h:a.Perm b):srtE a=srtE b:=srtBy_unique (cf:=cmpE) swoE (antiE b) ((srtBy_perm cmpE a).trans h) (srtBy_sorted cmpE swoE a)
abbrev dUn0:Dv Unit:=.tup .none
abbrev aFnO:DA Unit:=.one (dFn 29)
theorem sortE_ok:FnMut Tryd.prog 28 73 eN aFnO (.pure dUn0) (λxs _=>(srtE xs,())) (λxs _=>[xs.length<4611686018427387904]):=by
 have h:=sort_mut (P:=Tryd.prog) (A:=eN) (t:=73) (g:=29) (cf:=cmpE) (pre:=λ_=>[]) sortE Tryd.isAgg73 Tryd.sizeOf73 (by decide) (Go.Proofs.enters_of Tryd.func29 (by kernel_rfl) rfl) swoE ord_ok;intro w F L xs g v0 vs h1 h2 hE h3 h4 h5 h6;refine h w F L xs g v0 vs h1 h2 hE h3 (λp hp=>?_) h5 h6;simp only[List.mem_cons,List.not_mem_nil,or_false]at hp;rcases hp with rfl|rfl|rfl
 .exact h4 _ (List.mem_cons_self ..)
 .exact antiE xs
 .exactλx _ y _ p hp=>by cases hp
end Go.Proofs.YtfkdbifgppfegaaDoor

namespace Go.Proofs.YtfkdbifgppfegaaDoor
open Go.RowKit Go.Sx
set_option maxRecDepth 100000
noncomputable def tabL7:MTab Tryd.prog:=(MTab.of (tabL3p.cons 30 (pconP (.cons (.list eN) (.one (.list eN))) dBool (λg=>decide (g.1=g.2)) (λ_=>[])) (conP_ok eN1_ok puB))).consM 28 (bconM 73 eN aFnO (.pure dUn0) (λxs _=>(srtE xs,())) (λxs _=>[xs.length<4611686018427387904])) (conM_ok sortE_ok)
abbrev aULL:DA (Int×LLN):=.cons d8 (.one dLLN)
noncomputable def lve_q1(w:Int)(s:LLN):Ld×Int:=
 newS (IntKind.i64.wrap ((IntKind.i64.wrap w).tmod (4:Int)+(1:Int)))
noncomputable def lve_q2(w:Int)(s:LLN):Ld×
 Ms×Int:=
 subS (Ld.mk (lve_q1 w s).fst.workers (lve_q1 w s).fst.stage (lve_q1 w s).fst.ver (lve_q1 w s).fst.cut (Dl.mk (eI.ag (lve_q1 w s).fst.dl.drop) (eD.ag (lve_q1 w s).fst.dl.put) (eV.ag (lve_q1 w s).fst.dl.moves)) (eBool.ag (lve_q1 w s).fst.voted) (lve_q1 w s).fst.yes (lve_q1 w s).fst.why (eN.ag (lve_q1 w s).fst.ents)) (Dl.mk [] [] []) (1:Int)
noncomputable def lve_q3(w:Int)(s:LLN):Ex×
 vea_G:=
 loopF (λg=>vea_R g.fst g.snd.fst g.snd.snd.fst g.snd.snd.snd.fst g.snd.snd.snd.snd) vea_M (IntKind.i64.wrap ((IntKind.i64.wrap w).tmod (4:Int)+(1:Int)),(0:Int),false,(),Ld.mk (lve_q2 w s).fst.workers (lve_q2 w s).fst.stage (lve_q2 w s).fst.ver (lve_q2 w s).fst.cut (Dl.mk (eI.ag (lve_q2 w s).fst.dl.drop) (eD.ag (lve_q2 w s).fst.dl.put) (eV.ag (lve_q2 w s).fst.dl.moves)) (eBool.ag (lve_q2 w s).fst.voted) (lve_q2 w s).fst.yes (lve_q2 w s).fst.why (eN.ag (lve_q2 w s).fst.ents))
noncomputable def lve_q4(w:Int)(s:LLN):Ld×
 Ms×Int:=
 drnS (Ld.mk (lve_q3 w s).snd.snd.snd.snd.snd.workers (lve_q3 w s).snd.snd.snd.snd.snd.stage (lve_q3 w s).snd.snd.snd.snd.snd.ver (lve_q3 w s).snd.snd.snd.snd.snd.cut (Dl.mk (eI.ag (lve_q3 w s).snd.snd.snd.snd.snd.dl.drop) (eD.ag (lve_q3 w s).snd.snd.snd.snd.snd.dl.put) (eV.ag (lve_q3 w s).snd.snd.snd.snd.snd.dl.moves)) (eBool.ag (lve_q3 w s).snd.snd.snd.snd.snd.voted) (lve_q3 w s).snd.snd.snd.snd.snd.yes (lve_q3 w s).snd.snd.snd.snd.snd.why (eN.ag (lve_q3 w s).snd.snd.snd.snd.snd.ents))
noncomputable def lve_q5(w:Int)(s:LLN):Ex×
 veb_G:=
 loopF (λg=>veb_R g.fst g.snd.fst g.snd.snd.fst g.snd.snd.snd.fst g.snd.snd.snd.snd.fst g.snd.snd.snd.snd.snd.fst g.snd.snd.snd.snd.snd.snd) veb_M (eLLN.ag s,IntKind.i64.wrap ((IntKind.i64.wrap w).tmod (4:Int)+(1:Int)),(0:Int),(lve_q3 w s).snd.snd.snd.fst,(),Ld.mk (lve_q4 w s).fst.workers (lve_q4 w s).fst.stage (lve_q4 w s).fst.ver (lve_q4 w s).fst.cut (Dl.mk (eI.ag (lve_q4 w s).fst.dl.drop) (eD.ag (lve_q4 w s).fst.dl.put) (eV.ag (lve_q4 w s).fst.dl.moves)) (eBool.ag (lve_q4 w s).fst.voted) (lve_q4 w s).fst.yes (lve_q4 w s).fst.why (eN.ag (lve_q4 w s).fst.ents),[])
noncomputable def lve_q6(w:Int)(s:LLN):Ld×
 List Ms×Int:=
 endM (Ld.mk (lve_q5 w s).snd.snd.snd.snd.snd.snd.fst.workers (lve_q5 w s).snd.snd.snd.snd.snd.snd.fst.stage (lve_q5 w s).snd.snd.snd.snd.snd.snd.fst.ver (lve_q5 w s).snd.snd.snd.snd.snd.snd.fst.cut (Dl.mk (eI.ag (lve_q5 w s).snd.snd.snd.snd.snd.snd.fst.dl.drop) (eD.ag (lve_q5 w s).snd.snd.snd.snd.snd.snd.fst.dl.put) (eV.ag (lve_q5 w s).snd.snd.snd.snd.snd.snd.fst.dl.moves)) (eBool.ag (lve_q5 w s).snd.snd.snd.snd.snd.snd.fst.voted) (lve_q5 w s).snd.snd.snd.snd.snd.snd.fst.yes (lve_q5 w s).snd.snd.snd.snd.snd.snd.fst.why (eN.ag (lve_q5 w s).snd.snd.snd.snd.snd.snd.fst.ents))
noncomputable def lve_q7(w:Int)(s:LLN):Ex×
 vec_G:=
 loopF (λg=>vec_R g.fst g.snd.fst g.snd.snd.fst g.snd.snd.snd) vec_M (eMs.ag (lve_q6 w s).snd.fst,(↑(lve_q6 w s).snd.fst.length:Int),(0:Int),[])
noncomputable def lve_F(w:Int)(s:LLN):Dv.T dBool:=
 bif (lve_q1 w s).snd !=(0:Int)||(lve_q2 w s).snd.snd !=(0:Int)then false
 else bif exB Ex.ret (lve_q3 w s).fst then(lve_q3 w s).snd.snd.snd.fst else bif (lve_q4 w s).snd.snd !=(0:Int)then false else bif exB Ex.ret (lve_q5 w s).fst then(lve_q5 w s).snd.snd.snd.snd.fst else bif (lve_q6 w s).snd.snd !=(0:Int)||((lve_q6 w s).fst.ver !=(1:Int)||(↑(lve_q6 w s).snd.fst.length:Int)!=IntKind.i64.wrap ((IntKind.i64.wrap w).tmod (4:Int)+(1:Int)))then false else decide (eN.lst (lve_q5 w s).snd.snd.snd.snd.snd.snd.snd.length (eN.els (srtE (eN.ag (lve_q5 w s).snd.snd.snd.snd.snd.snd.snd)))=eN.lst (lve_q7 w s).snd.snd.snd.snd.length (eN.els (srtE (eN.ag (lve_q7 w s).snd.snd.snd.snd))))
def lve_side(w:Int)(s:LLN):Prop:=
 (!true)=false->(4:Int)≠(0:Int)/\eI.okL (lve_q1 w s).fst.dl.drop/\eD.okL (lve_q1 w s).fst.dl.put/\eV.okL (lve_q1 w s).fst.dl.moves/\eBool.okL (lve_q1 w s).fst.voted/\eN.okL (lve_q1 w s).fst.ents/\fewD (Dl.mk [] [] [])/\(((lve_q1 w s).snd !=(0:Int)||(lve_q2 w s).snd.snd !=(0:Int))=false->eI.okL (lve_q2 w s).fst.dl.drop/\eD.okL (lve_q2 w s).fst.dl.put/\eV.okL (lve_q2 w s).fst.dl.moves/\eBool.okL (lve_q2 w s).fst.voted/\eN.okL (lve_q2 w s).fst.ents/\Lp.ixJ ve_lim ve_xs ve_K (vea_f (IntKind.i64.wrap ((IntKind.i64.wrap w).tmod (4:Int)+(1:Int)),(0:Int),false,(),Ld.mk (lve_q2 w s).fst.workers (lve_q2 w s).fst.stage (lve_q2 w s).fst.ver (lve_q2 w s).fst.cut (Dl.mk (eI.ag (lve_q2 w s).fst.dl.drop) (eD.ag (lve_q2 w s).fst.dl.put) (eV.ag (lve_q2 w s).fst.dl.moves)) (eBool.ag (lve_q2 w s).fst.voted) (lve_q2 w s).fst.yes (lve_q2 w s).fst.why (eN.ag (lve_q2 w s).fst.ents)))/\(exB Ex.ret (lve_q3 w s).fst=false->eI.okL (lve_q3 w s).snd.snd.snd.snd.snd.dl.drop/\eD.okL (lve_q3 w s).snd.snd.snd.snd.snd.dl.put/\eV.okL (lve_q3 w s).snd.snd.snd.snd.snd.dl.moves/\eBool.okL (lve_q3 w s).snd.snd.snd.snd.snd.voted/\eN.okL (lve_q3 w s).snd.snd.snd.snd.snd.ents/\fewL (Ld.mk (lve_q3 w s).snd.snd.snd.snd.snd.workers (lve_q3 w s).snd.snd.snd.snd.snd.stage (lve_q3 w s).snd.snd.snd.snd.snd.ver (lve_q3 w s).snd.snd.snd.snd.snd.cut (Dl.mk (eI.ag (lve_q3 w s).snd.snd.snd.snd.snd.dl.drop) (eD.ag (lve_q3 w s).snd.snd.snd.snd.snd.dl.put) (eV.ag (lve_q3 w s).snd.snd.snd.snd.snd.dl.moves)) (eBool.ag (lve_q3 w s).snd.snd.snd.snd.snd.voted) (lve_q3 w s).snd.snd.snd.snd.snd.yes (lve_q3 w s).snd.snd.snd.snd.snd.why (eN.ag (lve_q3 w s).snd.snd.snd.snd.snd.ents))/\(((lve_q4 w s).snd.snd !=(0:Int))=false->eLLN.okL s/\eI.okL (lve_q4 w s).fst.dl.drop/\eD.okL (lve_q4 w s).fst.dl.put/\eV.okL (lve_q4 w s).fst.dl.moves/\eBool.okL (lve_q4 w s).fst.voted/\eN.okL (lve_q4 w s).fst.ents/\Lp.ixJ vf_lim vf_xs vf_K (veb_f (eLLN.ag s,IntKind.i64.wrap ((IntKind.i64.wrap w).tmod (4:Int)+(1:Int)),(0:Int),(lve_q3 w s).snd.snd.snd.fst,(),Ld.mk (lve_q4 w s).fst.workers (lve_q4 w s).fst.stage (lve_q4 w s).fst.ver (lve_q4 w s).fst.cut (Dl.mk (eI.ag (lve_q4 w s).fst.dl.drop) (eD.ag (lve_q4 w s).fst.dl.put) (eV.ag (lve_q4 w s).fst.dl.moves)) (eBool.ag (lve_q4 w s).fst.voted) (lve_q4 w s).fst.yes (lve_q4 w s).fst.why (eN.ag (lve_q4 w s).fst.ents),[]))/\(exB Ex.ret (lve_q5 w s).fst=false->eI.okL (lve_q5 w s).snd.snd.snd.snd.snd.snd.fst.dl.drop/\eD.okL (lve_q5 w s).snd.snd.snd.snd.snd.snd.fst.dl.put/\eV.okL (lve_q5 w s).snd.snd.snd.snd.snd.snd.fst.dl.moves/\eBool.okL (lve_q5 w s).snd.snd.snd.snd.snd.snd.fst.voted/\eN.okL (lve_q5 w s).snd.snd.snd.snd.snd.snd.fst.ents/\(eN.ag (lve_q5 w s).snd.snd.snd.snd.snd.snd.fst.ents).length<=KS/\(((lve_q6 w s).snd.snd !=(0:Int)||((lve_q6 w s).fst.ver !=(1:Int)||(↑(lve_q6 w s).snd.fst.length:Int)!=IntKind.i64.wrap ((IntKind.i64.wrap w).tmod (4:Int)+(1:Int))))=false->eMs.okL (lve_q6 w s).snd.fst/\Lp.ixJ vg_lim vg_xs vg_K (vec_f (eMs.ag (lve_q6 w s).snd.fst,(↑(lve_q6 w s).snd.fst.length:Int),(0:Int),[]))/\(lve_q5 w s).snd.snd.snd.snd.snd.snd.snd.length=(lve_q5 w s).snd.snd.snd.snd.snd.snd.snd.length/\(∀(e:Nat),e<(lve_q5 w s).snd.snd.snd.snd.snd.snd.snd.length->True)/\(eN.ag (lve_q5 w s).snd.snd.snd.snd.snd.snd.snd).length<(4611686018427387904:Nat)/\(lve_q7 w s).snd.snd.snd.snd.length=(lve_q7 w s).snd.snd.snd.snd.length/\(∀(e:Nat),e<(lve_q7 w s).snd.snd.snd.snd.length->True)/\(eN.ag (lve_q7 w s).snd.snd.snd.snd).length<(4611686018427387904:Nat)/\(lve_q5 w s).snd.snd.snd.snd.snd.snd.snd.length<=(srtE (eN.ag (lve_q5 w s).snd.snd.snd.snd.snd.snd.snd)).length/\(lve_q7 w s).snd.snd.snd.snd.length<=(srtE (eN.ag (lve_q7 w s).snd.snd.snd.snd)).length/\(∀(e:Nat),e<(lve_q5 w s).snd.snd.snd.snd.snd.snd.snd.length->eN.Ok ((ElE.fn (eN.els (srtE (eN.ag (lve_q5 w s).snd.snd.snd.snd.snd.snd.snd)))).at e))/\∀(e:Nat),e<(lve_q7 w s).snd.snd.snd.snd.length->eN.Ok ((ElE.fn (eN.els (srtE (eN.ag (lve_q7 w s).snd.snd.snd.snd)))).at e))))))
theorem lve_okS(pre:DA.T aULL->List Prop)(h:∀g,DA.bd aULL g->(∀p∈pre g,p)->lve_side g.1 g.2):FnPure Tryd.prog 7 aULL dBool (λg=>lve_F g.1 g.2) pre:=pure_of_sideS (Γ:=(MTab.gamz tabL7 [(4000000,0)] [])) (Λ:=lamL5) (MTab.okz tabL7 [(4000000,0)] []) lamL5_ok 100 default (λg=>lve_side g.1 g.2) (λg=>by kernel_rfl) (λg=>by kernel_rfl) h
end Go.Proofs.YtfkdbifgppfegaaDoor

namespace Go.Proofs.YtfkdbifgppfegaaDoor
open Go.RowKit Go.Sx Go.Lp
set_option maxRecDepth 100000
theorem sum_at(f:Nat)(c:Nat):∀n:Nat,((List.range n).map λw=>if f=w then c else 0).sum=if f<n then c else 0
 |0=>by simp
 |n+1=>by
  rw[List.range_succ,List.map_append,List.sum_append_nat,sum_at f c n];simp only[List.map_cons,List.map_nil,List.sum_cons,List.sum_nil,Nat.add_zero];by_cases h:f=n
  .subst h;simp
  .by_cases h2:f<n
   .rw[if_pos h2,if_neg h,if_pos (by omega),Nat.add_zero]
   .rw[if_neg h2,if_neg h,if_neg (by omega)]
theorem perm_parts(es:List Ent)(f:Ent->Nat)(n:Nat)(h:∀x,f x<n):((List.range n).flatMap λw=>es.filter λx=>decide (f x=w)).Perm es:=by
 rw[List.perm_iff_count];intro a;rw[List.count_flatMap]
 have e:(List.count a∘λw=>es.filter λx=>decide (f x=w))=λw=>if f a=w then List.count a es else 0:=by
  funext w;show List.count a (es.filter λx=>decide (f x=w))=_;by_cases hw:f a=w
  .rw[if_pos hw,List.count_filter (by simpa using hw)]
  .rw[if_neg hw];refine List.count_eq_zero.2 λhm=>?_;have:=(List.mem_filter.1 hm).2;exact hw (of_decide_eq_true this)
 rw[e,sum_at,if_pos (h a)]
theorem new_n{w:Int}(h:0<=w/\w<=255):1<=IntKind.i64.wrap ((IntKind.i64.wrap w).tmod (4:Int)+(1:Int))/\IntKind.i64.wrap ((IntKind.i64.wrap w).tmod (4:Int)+(1:Int))<=4:=by
 have e:IntKind.i64.wrap w=w:=Lp.wr (n:=w) (by omega)
 have h1:0<=w.tmod 4/\w.tmod 4<4:=by
  rw[Int.tmod_eq_emod_of_nonneg h.1];omega
 have e2:IntKind.i64.wrap (w.tmod 4+1)=w.tmod 4+1:=Lp.wr (n:=w.tmod 4+1) (by omega);rw[e,e2];omega
theorem new_at{n:Int}(h:1<=n/\n<=4):newS n=(idleL n 0,0):=by
 unfold newS;rw[decide_eq_false (by omega),decide_eq_false (by omega)];rfl
theorem sub_at{n:Int}(h:1<=n/\n<=4):(subS (idleL n 0) d0 1).1=stg 1 n.toNat 0 []/\(subS (idleL n 0) d0 1).2.2=0:=by
 have hc:chkL (idleL n 0)=0:=(inv_idle ⟨h.1,by omega⟩ ⟨Int.le_refl _,by decide⟩).c;have hn:((n.toNat:Nat):Int)=n:=Int.toNat_of_nonneg (by omega);unfold subS;rw[hc];refine⟨?_,rfl⟩;unfold stg;rw[decide_eq_true (show 0<n.toNat by omega),hn];rfl
theorem drn_at{n:Int}(h:1<=n/\n<=4):(drnS (stg 1 n.toNat n.toNat [])).1=stg 3 n.toNat 0 []/\(drnS (stg 1 n.toNat n.toNat [])).2.2=0:=by
 have hn:((n.toNat:Nat):Int)=n:=Int.toNat_of_nonneg (by omega)
 have e:stg 1 n.toNat n.toNat []=⟨n,2,0,1,d0,[],true,0,[]⟩:=by
  unfold stg;rw[decide_eq_false (Nat.lt_irrefl _),hn];rfl
 have hc:chkL ⟨n,2,0,1,d0,[],true,0,[]⟩=0:=chk_mk2 (rg_mk ⟨h.1,by omega⟩ ⟨by decide,by decide⟩ ⟨by decide,by decide⟩) (cc_mk ⟨by decide,by decide⟩ rfl);rw[e];unfold drnS;rw[hc];refine⟨?_,rfl⟩;unfold stg;rw[decide_eq_true (show 0<n.toNat by omega),hn];rfl
theorem end_st{n:Int}(h:1<=n/\n<=4){es:List Ent}(he:es.length<=800):endM (stg 3 n.toNat n.toNat es)=(idleL n 1,(List.range n.toNat).map (msgL ⟨n,4,0,1,d0,[],true,0,es⟩),0):=by
 have hn:((n.toNat:Nat):Int)=n:=Int.toNat_of_nonneg (by omega)
 have e:stg 3 n.toNat n.toNat es=⟨n,4,0,1,d0,[],true,0,es⟩:=by
  unfold stg;rw[decide_eq_false (Nat.lt_irrefl _),hn];rfl
 have hc:chkL ⟨n,4,0,1,d0,[],true,0,es⟩=0:=chk_mk4 (rg_mk ⟨h.1,by omega⟩ ⟨by decide,by decide⟩ ⟨by decide,by decide⟩) (cc_mk ⟨by decide,by decide⟩ rfl) (by omega) (by simp);rw[e];unfold endM;rw[hc];rfl
theorem out_perm{n:Int}(h:1<=n/\n<=4)(es:List Ent):(((List.range n.toNat).map (msgL ⟨n,4,0,1,d0,[],true,0,es⟩)).flatMap λm=>m.ents).Perm es:=by
 rw[List.flatMap_map];refine perm_parts es (λx=>(exo_F x.key n:Int).toNat) n.toNat λx=>?_;have:=exo_range x.key n ⟨h.1,by omega⟩;exact(Int.toNat_lt_toNat (show 0<n by omega)).2 this.2
theorem out_len{n:Int}{es:List Ent}(he:es.length<=800):∀m∈(List.range n.toNat).map (msgL ⟨n,4,0,1,d0,[],true,0,es⟩),m.ents.length<=1000:=λm hm=>by
 obtain⟨w,_,rfl⟩:=List.mem_map.1 hm;have:((msgL ⟨n,4,0,1,d0,[],true,0,es⟩ w).ents).length<=es.length:=List.length_filter_le _ _;omega
end Go.Proofs.YtfkdbifgppfegaaDoor

namespace Go.Proofs.YtfkdbifgppfegaaDoor
open Go.RowKit Go.Sx Go.Lp
set_option maxRecDepth 100000
structure LveQ(w:Int)(s:LLN)(n:Int):Prop where
 q1:lve_q1 w s=(idleL n 0,0)
 q2a:(lve_q2 w s).1=stg 1 n.toNat 0 []
 q2b:(lve_q2 w s).2.2=0
 q3:lve_q3 w s=(.exit 0,n,n,false,(),stg 1 n.toNat n.toNat [])
 q4a:(lve_q4 w s).1=stg 3 n.toNat 0 []
 q4b:(lve_q4 w s).2.2=0
 q5:lve_q5 w s=(.exit 2,s,n,n,false,(),stg 3 n.toNat n.toNat (acc s n.toNat),acc s n.toNat)
 q6:lve_q6 w s=(idleL n 1,(List.range n.toNat).map (msgL ⟨n,4,0,1,d0,[],true,0,acc s n.toNat⟩),0)
 q7:lve_q7 w s=(.exit 4,(List.range n.toNat).map (msgL ⟨n,4,0,1,d0,[],true,0,acc s n.toNat⟩),(((List.range n.toNat).map (msgL ⟨n,4,0,1,d0,[],true,0,acc s n.toNat⟩)).length:Int),(((List.range n.toNat).map (msgL ⟨n,4,0,1,d0,[],true,0,acc s n.toNat⟩)).length:Int),((List.range n.toNat).map (msgL ⟨n,4,0,1,d0,[],true,0,acc s n.toNat⟩)).flatMap λm=>m.ents)
theorem lve_qs{w:Int}{s:LLN}{n:Int}(hw:IntKind.i64.wrap ((IntKind.i64.wrap w).tmod (4:Int)+(1:Int))=n)(h:1<=n/\n<=4):LveQ w s n:=by
 have q1:lve_q1 w s=(idleL n 0,0):=by unfold lve_q1;rw[hw];exact new_at h
 have hs:=sub_at h
 have q2:lve_q2 w s=subS (idleL n 0) d0 1:=by
  unfold lve_q2;simp only[El.ag_eq,ld_eta,q1];rfl
 have q2a:(lve_q2 w s).1=stg 1 n.toNat 0 []:=by rw[q2];exact hs.1
 have q2b:(lve_q2 w s).2.2=0:=by rw[q2];exact hs.2
 have q3:lve_q3 w s=(.exit 0,n,n,false,(),stg 1 n.toNat n.toNat []):=by
  unfold lve_q3;simp only[El.ag_eq,ld_eta,q2a,hw];exact vea_run n ⟨h.1,by omega⟩ false
 have hd:=drn_at h
 have q4:lve_q4 w s=drnS (stg 1 n.toNat n.toNat []):=by
  unfold lve_q4;simp only[El.ag_eq,ld_eta,q3]
 have q4a:(lve_q4 w s).1=stg 3 n.toNat 0 []:=by rw[q4];exact hd.1
 have q4b:(lve_q4 w s).2.2=0:=by rw[q4];exact hd.2
 have q5:lve_q5 w s=(.exit 2,s,n,n,false,(),stg 3 n.toNat n.toNat (acc s n.toNat),acc s n.toNat):=by
  unfold lve_q5;simp only[El.ag_eq,ld_eta,q4a,q3,hw];exact veb_run s n h false
 have ha:=acc_len s n.toNat
 have q6:lve_q6 w s=(idleL n 1,(List.range n.toNat).map (msgL ⟨n,4,0,1,d0,[],true,0,acc s n.toNat⟩),0):=by
  unfold lve_q6;simp only[El.ag_eq,ld_eta,q5];exact end_st h (by omega)
 refine⟨q1,q2a,q2b,q3,q4a,q4b,q5,q6,?_⟩;unfold lve_q7;simp only[El.ag_eq,q6];exact vec_run _ (by rw[List.length_map,List.length_range];omega) (out_len (by omega))
theorem lve_eq{w:Int}{s:LLN}(hb:0<=w/\w<=255):lve_F w s=true:=by
 obtain⟨n,hw⟩:∃n,IntKind.i64.wrap ((IntKind.i64.wrap w).tmod (4:Int)+(1:Int))=n:=⟨_,rfl⟩;have h:=new_n hb;rw[hw]at h;have Q:=lve_qs (s:=s) hw h;have hp:=out_perm h (acc s n.toNat);unfold lve_F;simp only[El.ag_eq,Q.q1,Q.q2b,Q.q3,Q.q4b,Q.q5,Q.q6,Q.q7,hw]
 have e1:((((List.range n.toNat).map (msgL ⟨n,4,0,1,d0,[],true,0,acc s n.toNat⟩)).length:Int)!=n)=false:=by
  rw[List.length_map,List.length_range,bne_eq_false_iff_eq];omega
 rw[e1];show decide (_=_)=true;refine decide_eq_true ?_;have l1:=srtE_len (acc s n.toNat);have l2:=srtE_len (((List.range n.toNat).map (msgL ⟨n,4,0,1,d0,[],true,0,acc s n.toNat⟩)).flatMap λm=>m.ents);have a1:=eN.lst_els (srtE (acc s n.toNat));have a2:=eN.lst_els (srtE (((List.range n.toNat).map (msgL ⟨n,4,0,1,d0,[],true,0,acc s n.toNat⟩)).flatMap λm=>m.ents));rw[l1]at a1;rw[l2]at a2;rw[a1,a2];exact srtE_perm hp.symm
end Go.Proofs.YtfkdbifgppfegaaDoor

namespace Go.Proofs.YtfkdbifgppfegaaDoor
open Go.RowKit Go.Sx Go.Lp
set_option maxRecDepth 100000
theorem lve_si{w:Int}{s:LLN}(hb:0<=w/\w<=255):lve_side w s:=by
 obtain⟨n,hw⟩:∃n,IntKind.i64.wrap ((IntKind.i64.wrap w).tmod (4:Int)+(1:Int))=n:=⟨_,rfl⟩;have h:=new_n hb;rw[hw]at h;have Q:=lve_qs (s:=s) hw h;have ha:=acc_len s n.toNat;have hp:=(out_perm h (acc s n.toNat)).length_eq;have hk:(acc s n.toNat).length<=KS:=by unfold KS;omega
 have f3:fewL (stg 1 n.toNat n.toNat []):=few_stg (by omega) (Nat.le_refl _) (by simp)
 have hs5:(stg 3 n.toNat n.toNat (acc s n.toNat)).ents=acc s n.toNat:=by
  unfold stg;cases decide (n.toNat<n.toNat)<;>rfl
 have j1:=ixJ0 (lim:=ve_lim) (xs:=ve_xs) (P:=ve_K) (c:=n) (b:=(false,(),stg 1 n.toNat 0 [])) (by show n=((List.range n.toNat).length:Int);rw[List.length_range];exact(Int.toNat_of_nonneg (by omega)).symm) (by rw[List.length_range];unfold maxLen;omega) ⟨⟨h.1,by omega⟩,rfl⟩;have j2:=ixJ0 (lim:=vf_lim) (xs:=vf_xs) (P:=vf_K) (c:=(s,n)) (b:=(false,(),stg 3 n.toNat 0 [],[])) (by show n=((List.range n.toNat).length:Int);rw[List.length_range];exact(Int.toNat_of_nonneg (by omega)).symm) (by show(List.range n.toNat).length<=maxLen;rw[List.length_range];unfold maxLen;omega) ⟨h,rfl,rfl⟩;have hl:((List.range n.toNat).map (msgL ⟨n,4,0,1,d0,[],true,0,acc s n.toNat⟩)).length<=16:=by rw[List.length_map,List.length_range];omega
 have j3:=ixJ0 (lim:=vg_lim) (xs:=vg_xs) (P:=vg_K) (c:=((List.range n.toNat).map (msgL ⟨n,4,0,1,d0,[],true,0,acc s n.toNat⟩),(((List.range n.toNat).map (msgL ⟨n,4,0,1,d0,[],true,0,acc s n.toNat⟩)).length:Int))) (b:=[]) rfl (by show((List.range n.toNat).map (msgL ⟨n,4,0,1,d0,[],true,0,acc s n.toNat⟩)).length<=maxLen;unfold maxLen;omega) ⟨hl,out_len (by omega),Int.le_refl _⟩;unfold lve_side;simp only[El.okL_eq,El.ag_eq,ld_eta,Q.q1,Q.q2a,Q.q2b,Q.q3,Q.q4a,Q.q4b,Q.q5,Q.q6,Q.q7,hw,hs5,srtE_len,Nat.le_refl,implies_true,true_and,and_true];exactλ_=>⟨by decide,few0,λ_=>⟨j1,λ_=>⟨f3,λ_=>⟨j2,λ_=>⟨hk,λ_=>⟨j3,by omega,by rw[hp];omega,λe _=>eN.ok_els _ _,λe _=>eN.ok_els _ _⟩⟩⟩⟩⟩⟩
theorem lve_ok:FnPure Tryd.prog 7 aULL dBool (λ_=>true) (λg=>[0<=g.1/\g.1<=255]):=
 pure_congr (lve_okS (λg=>[0<=g.1/\g.1<=255]) λg _ hp=>lve_si (hp _ (List.mem_cons_self ..))) λg _ hp=>lve_eq (hp _ (List.mem_cons_self ..))
end Go.Proofs.YtfkdbifgppfegaaDoor

namespace Go.Proofs.YtfkdbifgppfegaaDoor
open Go.ChangeShapes Go.WideShapes Go.ChangeAt Go.RowKit Go.Sx
set_option maxRecDepth 100000 in
theorem voteEntries_lifted(law:FnPure Tryd.prog 7 aULL dBool (λ_=>true) (λg=>[0<=g.1/\g.1<=255]))(os:Os)(started:os.Started)(H:Type)(enc:TypeId×Value->H):
  ReturnsInHanded {} Tryd.checked os 7 .any (λw args=>(Rows.voteEntriesSpec.pre enc Tryd.prog Tryd.f7 Rows.voteEntriesRow.domain false w args/\laidMetH Tryd.prog Rows.voteEntriesRow.laid w)/\sizedMet enc Tryd.prog Tryd.f7 (OpenSpec.ofChange Rows.voteEntriesSpec) false w args) (Rows.voteEntriesSpec.post enc Tryd.prog Tryd.f7 false true false false):=by
 refine rowLaid (C:=Tryd.checked) (laid:=Rows.voteEntriesRow.laid) Tryd.own started (by kernel_rfl) Tryd.func7
  (ChangeSpec.witness_shaped (enc:=enc) (C:=Tryd.checked) (os:=os) (X:=λw _=>laidMetH Tryd.prog Rows.voteEntriesRow.laid w) false (World.laidAll Tryd.prog os Rows.voteEntriesRow.laid) #[.int .u8 0,.slice none 0 0] 8 (World.laidAll_os _ _ _)
   (World.shaped_of_ZipB (by kernel_rfl) (by kernel_rfl)) (by kernel_rfl) (by kernel_rfl) (by kernel_rfl)
   (by rw[MakeChecks.laidMetH_plain _ _ _ (by kernel_rfl)];exact laidMet_laidAll _ (by kernel_rfl) (by kernel_rfl))) ?_
 intro W base args ds gs before hval0 hW hcnd hL hsh;have hval:∀(j:Nat)t v,Tryd.f7.params[j]?=some t->args[j]?=some v->Value.okWide Tryd.prog W .any base t v:=hval0;have hW':=hW;obtain⟨p,q,hA0,hV,rfl,hfz,hnd⟩:=hW;have hA:DataW.TrodAll enc Tryd.prog W 0 (λ_=>true) true Tryd.f7.params.toList args.toList ds p:=hA0;rw[Tryd.params7]at hA hval;obtain⟨v0,vs0,d0,ds0,p0,qq0,hargs,rfl,rfl,h0,r0⟩:=trodAll_cons hA;obtain⟨v1,vs1,d1,ds1,p1,qq1,rfl,rfl,rfl,h1,r1⟩:=trodAll_cons r0;obtain⟨rfl,rfl,rfl⟩:=trodAll_nil r1;obtain rfl:args=#[v0,v1]:=by cases args;simp_all
 obtain⟨rfl,rfl⟩:=trodVars_none hV;obtain⟨a0,q0,f0⟩:=rdv8 _ _ _ _ _ _ _ _ _ _ _ (hval 0 5 v0 rfl rfl) h0;obtain⟨a1,q1,f1⟩:=rdvLLN _ _ _ _ _ _ _ _ _ _ _ (hval 1 66 v1 rfl rfl) h1
 have lt:∀{t:TypeId}{v:Value}{d:DataW H}{ps:List MemPlace},DataW.Trod enc Tryd.prog W 0 (λ_=>true) true t v d ps->∀x∈ps,x.block<W.heap.size:=by
  rintro t v d ps ⟨m,hm⟩;exact DataW.trod_lt m _ _ _ hm
 clear hA0 hval0;refine(law W (λb=>W.heap[b]?) (a0,a1) [v0,v1] (λ_ _ h=>h) (rowEnv hL hsh) (by intro p hp;rw[List.mem_singleton.1 hp];exact wf8 q0) ⟨f0,f1,trivial⟩).mono λe W'⟨x,he,bel,hx⟩=>?_;obtain rfl:x=.bool true:=by simpa [dBool,SV.fit]using hx
 subst he
 exact⟨_,rfl,_,_,_,[],_,[],hW',trodAll_mk1 (shut_bool Tryd.underlying4 _),
  (trodAll_cons_mk (Below.trod Tryd.laidOut (by kernel_rfl) (of_decide_eq_true (by kernel_rfl)) h0 bel (lt h0))
  (trodAll_cons_mk (Below.trod Tryd.laidOut (by kernel_rfl) (of_decide_eq_true (by kernel_rfl)) h1 bel (lt h1)) trodAll_mk0)),rfl,bel.frame _,λh=>by cases h⟩
theorem voteEntries_row:Rows.VoteEntriesSaid:=
 OpenClaim.holds_of_wide 7 Tryd.f7 rfl rfl rfl rfl rfl rfl rfl ⟨rfl,rfl,rfl,rfl,rfl⟩ rfl rfl rfl rfl rfl (by kernel_rfl) Tryd.func7 (by kernel_rfl)
  (of_decide_eq_true (by kernel_rfl)) (by unfold Func.isWrapper;first|(rw[if_pos (by decide+kernel)];kernel_rfl)|(rw[if_neg (by decide+kernel)];exact⟨rfl,rfl⟩))
  (λos started H enc _=>voteEntries_lifted lve_ok os started H enc)
theorem voteEntries_holds:Rows.VoteEntriesCardSaid:=
 Claim7.holds_tied_plain_at .later [] [.data,.pinned] true (true, "52912e261b64727618714ac4c8b505d61cbd702586b223c189c270799d03a0f4") false voteEntries_row (λ_ h=>by cases h) (by kernel_rfl) (λ_ h=>by cases h) voteEntries_row_tie rfl ⟨rfl,rfl⟩ (by kernel_rfl) rfl
  (λf fn hf hfn=>by
   obtain rfl:f=7:=Option.some.inj ((show Tryd.prog.funcNamed "rivulet/rivuletlaw21.VoteEntries" =some 7 by kernel_rfl).symm.trans hf) |>.symm;obtain rfl:fn=Tryd.f7:=(Option.some.inj (Tryd.func7.symm.trans hfn)).symm
   exact⟨by kernel_rfl,λj t ht=>by
    rw[Tryd.params7]at ht;have hm:t∈[5,66]:=by simpa using Array.mem_of_getElem? ht
    have hall:([5,66].all λu=>!Tryd.prog.wantsStandIn u)=true:=by kernel_rfl
    exact(show Tryd.prog.wantsStandIn t=false by simpa using List.all_eq_true.1 hall t hm)⟩)
  (by kernel_rfl)
end Go.Proofs.YtfkdbifgppfegaaDoor
