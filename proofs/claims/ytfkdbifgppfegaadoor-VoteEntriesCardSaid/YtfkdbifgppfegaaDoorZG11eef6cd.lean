/- Chapter 21: New, Submit, Drained, Abort. Printed by treegen.py. -/
import Derived.Test.YtfkdbifgppfegaaDoorZG102d8233
import Derived.Test.YtfkdbifgppfegaaDoorZG06f19b95
import Derived.Test.YtfkdbifgppfegaaDoorZG0888f6ba
import Derived.Test.YtfkdbifgppfegaaDoorZG09a42b49
import Derived.Test.YtfkdbifgppfegaaDoorZG053af284
import Derived.Test.YtfkdbifgppfegaaDoorTie
import Derived.Lib.LaidU8T
import Derived.Shelf.Vars
import Derived.ProofKit
import Derived.OpenShut
import Derived.LaidMore
import Derived.Lay
import Derived.SevenTiedAt
import Derived.HandedShaped
import Derived.ChangeMaps5
set_option linter.unusedVariables false
set_option linter.unusedSimpArgs false
set_option linter.constructorNameAsVariable false
set_option linter.all false

namespace Go.Proofs.YtfkdbifgppfegaaDoor
open Go.RowKit Go.Sx
set_option maxRecDepth 100000
noncomputable def drn_F(l:Ld):Rv.T rLME:=
 bif chkL (Ld.mk l.workers l.stage l.ver l.cut (Dl.mk (eI.ag l.dl.drop) (eD.ag l.dl.put) (eV.ag l.dl.moves)) (eBool.ag l.voted) l.yes l.why (eN.ag l.ents))!=(0:Int)then(Ld.mk l.workers l.stage l.ver l.cut (Dl.mk (eI.ag l.dl.drop) (eD.ag l.dl.put) (eV.ag l.dl.moves)) (eBool.ag l.voted) l.yes l.why (eN.ag l.ents),Ms.mk (0:Int) (0:Int) (Place.mk (0:Int) (0:Int)) (T.mk (0:Int) (0:Int) (0:Int) (0:Int) (0:Int) (0:Int)) [] [] (Dl.mk [] [] []) (0:Int) [] false (0:Int),chkL (Ld.mk l.workers l.stage l.ver l.cut (Dl.mk (eI.ag l.dl.drop) (eD.ag l.dl.put) (eV.ag l.dl.moves)) (eBool.ag l.voted) l.yes l.why (eN.ag l.ents)))
 else bif l.stage !=(2:Int)then(Ld.mk l.workers l.stage l.ver l.cut (Dl.mk (eI.ag l.dl.drop) (eD.ag l.dl.put) (eV.ag l.dl.moves)) (eBool.ag l.voted) l.yes l.why (eN.ag l.ents),Ms.mk (0:Int) (0:Int) (Place.mk (0:Int) (0:Int)) (T.mk (0:Int) (0:Int) (0:Int) (0:Int) (0:Int) (0:Int)) [] [] (Dl.mk [] [] []) (0:Int) [] false (0:Int),(212:Int))else(Ld.mk l.workers (3:Int) l.ver l.cut (Dl.mk (eI.ag (eI.ag l.dl.drop)) (eD.ag (eD.ag l.dl.put)) (eV.ag (eV.ag l.dl.moves))) (eBool.lst l.workers.toNat (zeroEl (Value.bool false))) l.yes l.why (eN.ag (eN.ag l.ents)),Ms.mk (4:Int) l.ver (Place.mk (0:Int) (0:Int)) (T.mk (0:Int) (0:Int) (0:Int) (0:Int) (0:Int) (0:Int)) [] [] (Dl.mk [] [] []) (0:Int) [] false (0:Int),(0:Int))
def drn_side(l:Ld):Prop:=
 eI.okL l.dl.drop/\eD.okL l.dl.put/\eV.okL l.dl.moves/\eBool.okL l.voted/\eN.okL l.ents/\((chkL (Ld.mk l.workers l.stage l.ver l.cut (Dl.mk (eI.ag l.dl.drop) (eD.ag l.dl.put) (eV.ag l.dl.moves)) (eBool.ag l.voted) l.yes l.why (eN.ag l.ents))!=(0:Int))=true->eI.okL l.dl.drop/\eD.okL l.dl.put/\eV.okL l.dl.moves/\eBool.okL l.voted/\eN.okL l.ents)/\((chkL (Ld.mk l.workers l.stage l.ver l.cut (Dl.mk (eI.ag l.dl.drop) (eD.ag l.dl.put) (eV.ag l.dl.moves)) (eBool.ag l.voted) l.yes l.why (eN.ag l.ents))!=(0:Int))=false->((l.stage !=(2:Int))=true->eI.okL l.dl.drop/\eD.okL l.dl.put/\eV.okL l.dl.moves/\eBool.okL l.voted/\eN.okL l.ents)/\((l.stage !=(2:Int))=false->eI.okL l.dl.drop/\eD.okL l.dl.put/\eV.okL l.dl.moves/\fewM (Ms.mk (0:Int) (0:Int) (Place.mk (0:Int) (0:Int)) (T.mk (0:Int) (0:Int) (0:Int) (0:Int) (0:Int) (0:Int)) [] [] (Dl.mk (eI.ag l.dl.drop) (eD.ag l.dl.put) (eV.ag l.dl.moves)) (0:Int) [] false (0:Int))/\∀(cs:List Nat),(cs.isEmpty=true->eBool.okL l.voted/\(eBool.ag l.voted).length<=KS/\eN.okL l.ents/\(eN.ag l.ents).length<=KS/\∀(cs:List Nat),(cs.isEmpty=true->∀(cs:List Nat),(cs.isEmpty=true->((0:Int)<=l.workers/\l.workers<=l.workers/\l.workers<=(9223372036854775807:Int)/\(1:Int)*l.workers<=(140737488355328:Int))/\eI.okL (eI.ag l.dl.drop)/\eD.okL (eD.ag l.dl.put)/\eV.okL (eV.ag l.dl.moves)/\l.workers.toNat<=l.workers.toNat/\(∀(e:Nat),e<l.workers.toNat->True)/\(eN.ag l.ents).length<=(eN.ag l.ents).length/\(∀(e:Nat),e<(eN.ag l.ents).length->True)/\∀(d:Ld×Ms×Int),(Ld.mk l.workers (3:Int) l.ver l.cut (Dl.mk (eI.ag (eI.ag l.dl.drop)) (eD.ag (eD.ag l.dl.put)) (eV.ag (eV.ag l.dl.moves))) (eBool.lst l.workers.toNat (zeroEl (Value.bool false))) l.yes l.why (eN.ag (eN.ag l.ents)),Ms.mk (4:Int) l.ver (Place.mk (0:Int) (0:Int)) (T.mk (0:Int) (0:Int) (0:Int) (0:Int) (0:Int) (0:Int)) [] [] (Dl.mk [] [] []) (0:Int) [] false (0:Int),(0:Int))=(Ld.mk l.workers (3:Int) l.ver l.cut (Dl.mk (eI.ag (eI.ag l.dl.drop)) (eD.ag (eD.ag l.dl.put)) (eV.ag (eV.ag l.dl.moves))) (eBool.lst l.workers.toNat (zeroEl (Value.bool false))) l.yes l.why (eN.ag (eN.ag l.ents)),Ms.mk (4:Int) l.ver (Place.mk (0:Int) (0:Int)) (T.mk (0:Int) (0:Int) (0:Int) (0:Int) (0:Int) (0:Int)) [] [] (Dl.mk [] [] []) (0:Int) [] false (0:Int),(0:Int)))/\(cs.isEmpty=false->((0:Int)<=l.workers/\l.workers<=l.workers/\l.workers<=(9223372036854775807:Int)/\(1:Int)*l.workers<=(140737488355328:Int))/\eI.okL (eI.ag l.dl.drop)/\eD.okL (eD.ag l.dl.put)/\eV.okL (eV.ag l.dl.moves)/\l.workers.toNat<=l.workers.toNat/\(∀(e:Nat),e<l.workers.toNat->True)/\(eN.ag l.ents).length<=(eN.ag l.ents).length/\(∀(e:Nat),e<(eN.ag l.ents).length->True)/\∀(d:Ld×Ms×Int),(Ld.mk l.workers (3:Int) l.ver l.cut (Dl.mk (eI.ag (eI.ag l.dl.drop)) (eD.ag (eD.ag l.dl.put)) (eV.ag (eV.ag l.dl.moves))) (eBool.lst l.workers.toNat (zeroEl (Value.bool false))) l.yes l.why (eN.ag (eN.ag l.ents)),Ms.mk (4:Int) l.ver (Place.mk (0:Int) (0:Int)) (T.mk (0:Int) (0:Int) (0:Int) (0:Int) (0:Int) (0:Int)) [] [] (Dl.mk [] [] []) (0:Int) [] false (0:Int),(0:Int))=(Ld.mk l.workers (3:Int) l.ver l.cut (Dl.mk (eI.ag (eI.ag l.dl.drop)) (eD.ag (eD.ag l.dl.put)) (eV.ag (eV.ag l.dl.moves))) (eBool.lst l.workers.toNat (zeroEl (Value.bool false))) l.yes l.why (eN.ag (eN.ag l.ents)),Ms.mk (4:Int) l.ver (Place.mk (0:Int) (0:Int)) (T.mk (0:Int) (0:Int) (0:Int) (0:Int) (0:Int) (0:Int)) [] [] (Dl.mk [] [] []) (0:Int) [] false (0:Int),(0:Int))))/\(cs.isEmpty=false->((0:Int)<=l.workers/\l.workers<=l.workers/\l.workers<=(9223372036854775807:Int)/\(1:Int)*l.workers<=(140737488355328:Int))/\eI.okL (eI.ag l.dl.drop)/\eD.okL (eD.ag l.dl.put)/\eV.okL (eV.ag l.dl.moves)/\l.workers.toNat<=l.workers.toNat/\(∀(e:Nat),e<l.workers.toNat->True)/\(eN.ag l.ents).length<=(eN.ag l.ents).length/\(∀(e:Nat),e<(eN.ag l.ents).length->True)/\∀(d:Ld×Ms×Int),(Ld.mk l.workers (3:Int) l.ver l.cut (Dl.mk (eI.ag (eI.ag l.dl.drop)) (eD.ag (eD.ag l.dl.put)) (eV.ag (eV.ag l.dl.moves))) (eBool.lst l.workers.toNat (zeroEl (Value.bool false))) l.yes l.why (eN.ag (eN.ag l.ents)),Ms.mk (4:Int) l.ver (Place.mk (0:Int) (0:Int)) (T.mk (0:Int) (0:Int) (0:Int) (0:Int) (0:Int) (0:Int)) [] [] (Dl.mk [] [] []) (0:Int) [] false (0:Int),(0:Int))=(Ld.mk l.workers (3:Int) l.ver l.cut (Dl.mk (eI.ag (eI.ag l.dl.drop)) (eD.ag (eD.ag l.dl.put)) (eV.ag (eV.ag l.dl.moves))) (eBool.lst l.workers.toNat (zeroEl (Value.bool false))) l.yes l.why (eN.ag (eN.ag l.ents)),Ms.mk (4:Int) l.ver (Place.mk (0:Int) (0:Int)) (T.mk (0:Int) (0:Int) (0:Int) (0:Int) (0:Int) (0:Int)) [] [] (Dl.mk [] [] []) (0:Int) [] false (0:Int),(0:Int))))/\(cs.isEmpty=false->eBool.okL l.voted/\(eBool.ag l.voted).length<=KS/\eN.okL l.ents/\(eN.ag l.ents).length<=KS/\∀(cs:List Nat),(cs.isEmpty=true->∀(cs:List Nat),(cs.isEmpty=true->((0:Int)<=l.workers/\l.workers<=l.workers/\l.workers<=(9223372036854775807:Int)/\(1:Int)*l.workers<=(140737488355328:Int))/\eI.okL (eI.ag l.dl.drop)/\eD.okL (eD.ag l.dl.put)/\eV.okL (eV.ag l.dl.moves)/\l.workers.toNat<=l.workers.toNat/\(∀(e:Nat),e<l.workers.toNat->True)/\(eN.ag l.ents).length<=(eN.ag l.ents).length/\(∀(e:Nat),e<(eN.ag l.ents).length->True)/\∀(d:Ld×Ms×Int),(Ld.mk l.workers (3:Int) l.ver l.cut (Dl.mk (eI.ag (eI.ag l.dl.drop)) (eD.ag (eD.ag l.dl.put)) (eV.ag (eV.ag l.dl.moves))) (eBool.lst l.workers.toNat (zeroEl (Value.bool false))) l.yes l.why (eN.ag (eN.ag l.ents)),Ms.mk (4:Int) l.ver (Place.mk (0:Int) (0:Int)) (T.mk (0:Int) (0:Int) (0:Int) (0:Int) (0:Int) (0:Int)) [] [] (Dl.mk [] [] []) (0:Int) [] false (0:Int),(0:Int))=(Ld.mk l.workers (3:Int) l.ver l.cut (Dl.mk (eI.ag (eI.ag l.dl.drop)) (eD.ag (eD.ag l.dl.put)) (eV.ag (eV.ag l.dl.moves))) (eBool.lst l.workers.toNat (zeroEl (Value.bool false))) l.yes l.why (eN.ag (eN.ag l.ents)),Ms.mk (4:Int) l.ver (Place.mk (0:Int) (0:Int)) (T.mk (0:Int) (0:Int) (0:Int) (0:Int) (0:Int) (0:Int)) [] [] (Dl.mk [] [] []) (0:Int) [] false (0:Int),(0:Int)))/\(cs.isEmpty=false->((0:Int)<=l.workers/\l.workers<=l.workers/\l.workers<=(9223372036854775807:Int)/\(1:Int)*l.workers<=(140737488355328:Int))/\eI.okL (eI.ag l.dl.drop)/\eD.okL (eD.ag l.dl.put)/\eV.okL (eV.ag l.dl.moves)/\l.workers.toNat<=l.workers.toNat/\(∀(e:Nat),e<l.workers.toNat->True)/\(eN.ag l.ents).length<=(eN.ag l.ents).length/\(∀(e:Nat),e<(eN.ag l.ents).length->True)/\∀(d:Ld×Ms×Int),(Ld.mk l.workers (3:Int) l.ver l.cut (Dl.mk (eI.ag (eI.ag l.dl.drop)) (eD.ag (eD.ag l.dl.put)) (eV.ag (eV.ag l.dl.moves))) (eBool.lst l.workers.toNat (zeroEl (Value.bool false))) l.yes l.why (eN.ag (eN.ag l.ents)),Ms.mk (4:Int) l.ver (Place.mk (0:Int) (0:Int)) (T.mk (0:Int) (0:Int) (0:Int) (0:Int) (0:Int) (0:Int)) [] [] (Dl.mk [] [] []) (0:Int) [] false (0:Int),(0:Int))=(Ld.mk l.workers (3:Int) l.ver l.cut (Dl.mk (eI.ag (eI.ag l.dl.drop)) (eD.ag (eD.ag l.dl.put)) (eV.ag (eV.ag l.dl.moves))) (eBool.lst l.workers.toNat (zeroEl (Value.bool false))) l.yes l.why (eN.ag (eN.ag l.ents)),Ms.mk (4:Int) l.ver (Place.mk (0:Int) (0:Int)) (T.mk (0:Int) (0:Int) (0:Int) (0:Int) (0:Int) (0:Int)) [] [] (Dl.mk [] [] []) (0:Int) [] false (0:Int),(0:Int))))/\(cs.isEmpty=false->((0:Int)<=l.workers/\l.workers<=l.workers/\l.workers<=(9223372036854775807:Int)/\(1:Int)*l.workers<=(140737488355328:Int))/\eI.okL (eI.ag l.dl.drop)/\eD.okL (eD.ag l.dl.put)/\eV.okL (eV.ag l.dl.moves)/\l.workers.toNat<=l.workers.toNat/\(∀(e:Nat),e<l.workers.toNat->True)/\(eN.ag l.ents).length<=(eN.ag l.ents).length/\(∀(e:Nat),e<(eN.ag l.ents).length->True)/\∀(d:Ld×Ms×Int),(Ld.mk l.workers (3:Int) l.ver l.cut (Dl.mk (eI.ag (eI.ag l.dl.drop)) (eD.ag (eD.ag l.dl.put)) (eV.ag (eV.ag l.dl.moves))) (eBool.lst l.workers.toNat (zeroEl (Value.bool false))) l.yes l.why (eN.ag (eN.ag l.ents)),Ms.mk (4:Int) l.ver (Place.mk (0:Int) (0:Int)) (T.mk (0:Int) (0:Int) (0:Int) (0:Int) (0:Int) (0:Int)) [] [] (Dl.mk [] [] []) (0:Int) [] false (0:Int),(0:Int))=(Ld.mk l.workers (3:Int) l.ver l.cut (Dl.mk (eI.ag (eI.ag l.dl.drop)) (eD.ag (eD.ag l.dl.put)) (eV.ag (eV.ag l.dl.moves))) (eBool.lst l.workers.toNat (zeroEl (Value.bool false))) l.yes l.why (eN.ag (eN.ag l.ents)),Ms.mk (4:Int) l.ver (Place.mk (0:Int) (0:Int)) (T.mk (0:Int) (0:Int) (0:Int) (0:Int) (0:Int) (0:Int)) [] [] (Dl.mk [] [] []) (0:Int) [] false (0:Int),(0:Int))))))
theorem drn_okS(pre:DA.T aL->List Prop)(h:∀g,DA.bd aL g->(∀p∈pre g,p)->drn_side g):FnPure Tryd.prog 27 aL (Rv.D rLME) (λg=>drn_F g) pre:=res_of_side (R:=rLME) (Γ:=(MTab.gamz tabJ0 [] [])) (Λ:=noΛ) (MTab.okz tabJ0 [] []) noΛ_ok 100 default (λg=>drn_side g) (λg=>by kernel_rfl) (λg=>by kernel_rfl) h
end Go.Proofs.YtfkdbifgppfegaaDoor

namespace Go.Proofs.YtfkdbifgppfegaaDoor
open Go.RowKit Go.Sx
set_option maxRecDepth 100000
end Go.Proofs.YtfkdbifgppfegaaDoor

namespace Go.Proofs.YtfkdbifgppfegaaDoor
open Go.RowKit Go.Sx
set_option maxRecDepth 100000
end Go.Proofs.YtfkdbifgppfegaaDoor

namespace Go.Proofs.YtfkdbifgppfegaaDoor
open Go.RowKit Go.Sx
set_option maxRecDepth 100000
end Go.Proofs.YtfkdbifgppfegaaDoor

namespace Go.Proofs.YtfkdbifgppfegaaDoor
open Go.RowKit Go.Sx Go.Lp
set_option maxRecDepth 100000
def ms0:Ms:=⟨0,0,⟨0,0⟩,⟨0,0,0,0,0,0⟩,[],[],⟨[],[],[]⟩,0,[],false,0⟩
def fewL(l:Ld):Prop:=fewD l.dl/\l.voted.length<=KS/\l.ents.length<=KS
theorem zB(n:Nat):eBool.lst n (zeroEl (Value.bool false))=List.replicate n false:=by
 unfold El.lst;rw[List.eq_replicate_iff];refine⟨by simp,λb hb=>?_⟩;obtain⟨e,_,rfl⟩:=List.mem_map.1 hb;rfl
theorem ld_eta(l:Ld):Ld.mk l.workers l.stage l.ver l.cut (Dl.mk l.dl.drop l.dl.put l.dl.moves) l.voted l.yes l.why l.ents=l:=rfl
def abtS(l:Ld)(w:Int):Ld×Int:=bif chkL l !=0 then(l,chkL l)else bif l.stage==0||l.stage==4 then(l,212)else bif w==0 then(l,1)else(⟨l.workers,bif l.stage==2 then 4 else l.stage,l.ver,l.cut,l.dl,l.voted,false,bif l.yes then w else l.why,[]⟩,0)
def drnS(l:Ld):Ld×Ms×Int:=bif chkL l !=0 then(l,ms0,chkL l)else bif l.stage !=2 then(l,ms0,212)else(⟨l.workers,3,l.ver,l.cut,l.dl,List.replicate l.workers.toNat false,l.yes,l.why,l.ents⟩,⟨4,l.ver,⟨0,0⟩,⟨0,0,0,0,0,0⟩,[],[],⟨[],[],[]⟩,0,[],false,0⟩,0)
def subS(l:Ld)(d:Dl)(c:Int):Ld×Ms×Int:=bif chkL l !=0 then(l,ms0,213)else bif l.stage !=0 then(l,ms0,9)else bif decide (c<1)||decide (c>1073741824)then(l,ms0,1)else bif l.ver==1099511627776 then(l,ms0,8)else(⟨l.workers,1,l.ver,c,d,List.replicate l.workers.toNat false,true,0,[]⟩,⟨3,l.ver,⟨0,0⟩,⟨0,0,0,0,0,0⟩,[],[],d,c,[],false,0⟩,0)
theorem abt_eq(l:Ld)(w:Int):abt_F l w=abtS l w:=by
 unfold abt_F abtS;simp only[El.ag_eq,Bool.not_and_self]
theorem drn_eq(l:Ld):drn_F l=drnS l:=by
 unfold drn_F drnS;simp only[El.ag_eq,zB];rfl
theorem chk_work{l:Ld}(h:(chkL l !=0)=false):1<=l.workers/\l.workers<=16:=by
 have h:chkL l=0:=by simpa using h
 unfold chkL chkB at h;cases hr:rgB l with
 |true=>have:=of_decide_eq_true hr;exact⟨this.1,this.2.1⟩
 |false=>rw[hr]at h;cases h
theorem few_dl{d:Dl}(h:fewD d)(a b:Int)(p:Place)(t:T)(c:Int)(y:Bool)(w:Int):fewM ⟨a,b,p,t,[],[],⟨d.drop,d.put,d.moves⟩,c,[],y,w⟩:=⟨Nat.zero_le _,Nat.zero_le _,Nat.zero_le _,h⟩
theorem few_wk{l:Ld}(h:(chkL l !=0)=false):0<=l.workers/\l.workers<=l.workers/\l.workers<=9223372036854775807/\1*l.workers<=140737488355328:=by
 have:=chk_work h;omega
theorem abt_si(l:Ld)(w:Int)(h:fewL l):abt_side l w:=by
 obtain⟨h1,h2,h3⟩:=h;unfold abt_side;simp only[El.okL_eq,El.ag_eq,ld_eta,implies_true,true_and,and_true,h2,h3,Nat.le_refl];exactλ_ _ _=>few_dl h1 ..
theorem drn_si(l:Ld)(h:fewL l):drn_side l:=by
 obtain⟨h1,h2,h3⟩:=h;unfold drn_side;simp only[El.okL_eq,El.ag_eq,ld_eta,implies_true,true_and,and_true,h2,h3,Nat.le_refl];intro hc _;simp only[few_wk hc,and_self,implies_true,and_true];exact few_dl h1 ..
theorem abt_ok:FnPure Tryd.prog 37 aLI dLE (λg=>abtS g.1 g.2) (λg=>[fewL g.1]):=
 pure_congr (abt_okS _ λg _ hp=>abt_si g.1 g.2 (hp _ (List.mem_cons_self ..))) λg _ _=>abt_eq g.1 g.2
theorem drn_ok:FnPure Tryd.prog 27 aL dLME drnS (λg=>[fewL g]):=
 pure_congr (drn_okS _ λg _ hp=>drn_si g (hp _ (List.mem_cons_self ..))) λg _ _=>drn_eq g
end Go.Proofs.YtfkdbifgppfegaaDoor

namespace Go.Proofs.YtfkdbifgppfegaaDoor
open Go.RowKit Go.Sx Go.Lp
theorem lcn_ok:FnPure Tryd.prog 54 aL dL (λl=>l) (λl=>[fewL l]):=by
 refine pure_congr (lcn_okS (λl=>[fewL l]) λl _ hp=>?_) λl _ _=>?_
 .obtain⟨h1,h2,h3⟩:fewL l:=hp _ (List.mem_cons_self ..);unfold lcn_side;simp only[El.okL_eq,El.ag_eq,ld_eta,implies_true,true_and,and_true,h2,h3,Nat.le_refl];exact few_dl h1 ..
 .show lcn_F l=l;unfold lcn_F;simp only[El.ag_eq]
noncomputable def tabJ9:MTab Tryd.prog:=(MTab.of tabJ0p).consM 54 (fconG aL dL (λl=>l) (λl=>[fewL l])) (fconG_ok lcn_ok)
end Go.Proofs.YtfkdbifgppfegaaDoor

namespace Go.Proofs.YtfkdbifgppfegaaDoor
open Go.RowKit Go.Sx
set_option maxRecDepth 100000
noncomputable def sub_F(l:Ld)(d:Dl)(c:Int):Rv.T rLME:=
 bif chkL (Ld.mk l.workers l.stage l.ver l.cut (Dl.mk (eI.ag l.dl.drop) (eD.ag l.dl.put) (eV.ag l.dl.moves)) (eBool.ag l.voted) l.yes l.why (eN.ag l.ents))!=(0:Int)then(Ld.mk l.workers l.stage l.ver l.cut (Dl.mk (eI.ag l.dl.drop) (eD.ag l.dl.put) (eV.ag l.dl.moves)) (eBool.ag l.voted) l.yes l.why (eN.ag l.ents),Ms.mk (0:Int) (0:Int) (Place.mk (0:Int) (0:Int)) (T.mk (0:Int) (0:Int) (0:Int) (0:Int) (0:Int) (0:Int)) [] [] (Dl.mk [] [] []) (0:Int) [] false (0:Int),chkL (Ld.mk l.workers l.stage l.ver l.cut (Dl.mk (eI.ag l.dl.drop) (eD.ag l.dl.put) (eV.ag l.dl.moves)) (eBool.ag l.voted) l.yes l.why (eN.ag l.ents)))
 else bif l.stage !=(0:Int)then(Ld.mk l.workers l.stage l.ver l.cut (Dl.mk (eI.ag l.dl.drop) (eD.ag l.dl.put) (eV.ag l.dl.moves)) (eBool.ag l.voted) l.yes l.why (eN.ag l.ents),Ms.mk (0:Int) (0:Int) (Place.mk (0:Int) (0:Int)) (T.mk (0:Int) (0:Int) (0:Int) (0:Int) (0:Int) (0:Int)) [] [] (Dl.mk [] [] []) (0:Int) [] false (0:Int),(9:Int))else bif decide (c<(1:Int))||decide (c>(1073741824:Int))then(Ld.mk l.workers l.stage l.ver l.cut (Dl.mk (eI.ag l.dl.drop) (eD.ag l.dl.put) (eV.ag l.dl.moves)) (eBool.ag l.voted) l.yes l.why (eN.ag l.ents),Ms.mk (0:Int) (0:Int) (Place.mk (0:Int) (0:Int)) (T.mk (0:Int) (0:Int) (0:Int) (0:Int) (0:Int) (0:Int)) [] [] (Dl.mk [] [] []) (0:Int) [] false (0:Int),(1:Int))else bif l.ver==(1099511627776:Int)then(Ld.mk l.workers l.stage l.ver l.cut (Dl.mk (eI.ag l.dl.drop) (eD.ag l.dl.put) (eV.ag l.dl.moves)) (eBool.ag l.voted) l.yes l.why (eN.ag l.ents),Ms.mk (0:Int) (0:Int) (Place.mk (0:Int) (0:Int)) (T.mk (0:Int) (0:Int) (0:Int) (0:Int) (0:Int) (0:Int)) [] [] (Dl.mk [] [] []) (0:Int) [] false (0:Int),(8:Int))else(Ld.mk l.workers (1:Int) l.ver c (Dl.mk (eI.ag (eI.ag d.drop)) (eD.ag (eD.ag d.put)) (eV.ag (eV.ag d.moves))) (eBool.ag (eBool.lst l.workers.toNat (zeroEl (Value.bool false)))) true (0:Int) [],Ms.mk (3:Int) l.ver (Place.mk (0:Int) (0:Int)) (T.mk (0:Int) (0:Int) (0:Int) (0:Int) (0:Int) (0:Int)) [] [] (Dl.mk (eI.ag (eI.ag d.drop)) (eD.ag (eD.ag d.put)) (eV.ag (eV.ag d.moves))) c [] false (0:Int),(0:Int))
def sub_side(l:Ld)(d:Dl)(c:Int):Prop:=
 eI.okL l.dl.drop/\eD.okL l.dl.put/\eV.okL l.dl.moves/\eBool.okL l.voted/\eN.okL l.ents/\((chkL (Ld.mk l.workers l.stage l.ver l.cut (Dl.mk (eI.ag l.dl.drop) (eD.ag l.dl.put) (eV.ag l.dl.moves)) (eBool.ag l.voted) l.yes l.why (eN.ag l.ents))!=(0:Int))=true->eI.okL l.dl.drop/\eD.okL l.dl.put/\eV.okL l.dl.moves/\eBool.okL l.voted/\eN.okL l.ents)/\((chkL (Ld.mk l.workers l.stage l.ver l.cut (Dl.mk (eI.ag l.dl.drop) (eD.ag l.dl.put) (eV.ag l.dl.moves)) (eBool.ag l.voted) l.yes l.why (eN.ag l.ents))!=(0:Int))=false->((l.stage !=(0:Int))=true->eI.okL l.dl.drop/\eD.okL l.dl.put/\eV.okL l.dl.moves/\eBool.okL l.voted/\eN.okL l.ents)/\((l.stage !=(0:Int))=false->((decide (c<(1:Int))||decide (c>(1073741824:Int)))=true->eI.okL l.dl.drop/\eD.okL l.dl.put/\eV.okL l.dl.moves/\eBool.okL l.voted/\eN.okL l.ents)/\((decide (c<(1:Int))||decide (c>(1073741824:Int)))=false->((l.ver==(1099511627776:Int))=true->eI.okL l.dl.drop/\eD.okL l.dl.put/\eV.okL l.dl.moves/\eBool.okL l.voted/\eN.okL l.ents)/\((l.ver==(1099511627776:Int))=false->∀(cs:List Nat),(cs.isEmpty=true->∀(cs:List Nat),(cs.isEmpty=true->((0:Int)<=l.workers/\l.workers<=l.workers/\l.workers<=(9223372036854775807:Int)/\(1:Int)*l.workers<=(140737488355328:Int))/\l.workers.toNat<=l.workers.toNat/\eI.okL d.drop/\eD.okL d.put/\eV.okL d.moves/\(∀(e:Nat),e<l.workers.toNat->eBool.Ok ((ElE.fn (zeroEl (Value.bool false))).at e))/\fewL (Ld.mk l.workers (1:Int) l.ver c (Dl.mk (eI.ag d.drop) (eD.ag d.put) (eV.ag d.moves)) (eBool.lst l.workers.toNat (zeroEl (Value.bool false))) true (0:Int) [])/\eI.okL d.drop/\eD.okL d.put/\eV.okL d.moves/\fewM (Ms.mk (3:Int) l.ver (Place.mk (0:Int) (0:Int)) (T.mk (0:Int) (0:Int) (0:Int) (0:Int) (0:Int) (0:Int)) [] [] (Dl.mk (eI.ag d.drop) (eD.ag d.put) (eV.ag d.moves)) c [] false (0:Int))/\eI.okL (eI.ag d.drop)/\eD.okL (eD.ag d.put)/\eV.okL (eV.ag d.moves)/\eBool.okL (eBool.lst l.workers.toNat (zeroEl (Value.bool false)))/\(∀(e:Nat),e<(0:Nat)->eN.Ok (eN.els [] e))/\(∀(e:Nat),e<(0:Nat)->eR.Ok (eR.els [] e))/\(∀(e:Nat),e<(0:Nat)->eC.Ok (eC.els [] e))/\eI.okL (eI.ag d.drop)/\eD.okL (eD.ag d.put)/\eV.okL (eV.ag d.moves)/\(∀(e:Nat),e<(0:Nat)->eN.Ok (eN.els [] e))/\∀(d_1:Ld×Ms×Int),(Ld.mk l.workers (1:Int) l.ver c (Dl.mk (eI.ag (eI.ag d.drop)) (eD.ag (eD.ag d.put)) (eV.ag (eV.ag d.moves))) (eBool.ag (eBool.lst l.workers.toNat (zeroEl (Value.bool false)))) true (0:Int) [],Ms.mk (3:Int) l.ver (Place.mk (0:Int) (0:Int)) (T.mk (0:Int) (0:Int) (0:Int) (0:Int) (0:Int) (0:Int)) [] [] (Dl.mk (eI.ag (eI.ag d.drop)) (eD.ag (eD.ag d.put)) (eV.ag (eV.ag d.moves))) c [] false (0:Int),(0:Int))=(Ld.mk l.workers (1:Int) l.ver c (Dl.mk (eI.ag (eI.ag d.drop)) (eD.ag (eD.ag d.put)) (eV.ag (eV.ag d.moves))) (eBool.ag (eBool.lst l.workers.toNat (zeroEl (Value.bool false)))) true (0:Int) [],Ms.mk (3:Int) l.ver (Place.mk (0:Int) (0:Int)) (T.mk (0:Int) (0:Int) (0:Int) (0:Int) (0:Int) (0:Int)) [] [] (Dl.mk (eI.ag (eI.ag d.drop)) (eD.ag (eD.ag d.put)) (eV.ag (eV.ag d.moves))) c [] false (0:Int),(0:Int)))/\(cs.isEmpty=false->((0:Int)<=l.workers/\l.workers<=l.workers/\l.workers<=(9223372036854775807:Int)/\(1:Int)*l.workers<=(140737488355328:Int))/\l.workers.toNat<=l.workers.toNat/\eI.okL d.drop/\eD.okL d.put/\eV.okL d.moves/\(∀(e:Nat),e<l.workers.toNat->eBool.Ok ((ElE.fn (zeroEl (Value.bool false))).at e))/\fewL (Ld.mk l.workers (1:Int) l.ver c (Dl.mk (eI.ag d.drop) (eD.ag d.put) (eV.ag d.moves)) (eBool.lst l.workers.toNat (zeroEl (Value.bool false))) true (0:Int) [])/\eI.okL d.drop/\eD.okL d.put/\eV.okL d.moves/\fewM (Ms.mk (3:Int) l.ver (Place.mk (0:Int) (0:Int)) (T.mk (0:Int) (0:Int) (0:Int) (0:Int) (0:Int) (0:Int)) [] [] (Dl.mk (eI.ag d.drop) (eD.ag d.put) (eV.ag d.moves)) c [] false (0:Int))/\eI.okL (eI.ag d.drop)/\eD.okL (eD.ag d.put)/\eV.okL (eV.ag d.moves)/\eBool.okL (eBool.lst l.workers.toNat (zeroEl (Value.bool false)))/\(∀(e:Nat),e<(0:Nat)->eN.Ok (eN.els [] e))/\(∀(e:Nat),e<(0:Nat)->eR.Ok (eR.els [] e))/\(∀(e:Nat),e<(0:Nat)->eC.Ok (eC.els [] e))/\eI.okL (eI.ag d.drop)/\eD.okL (eD.ag d.put)/\eV.okL (eV.ag d.moves)/\(∀(e:Nat),e<(0:Nat)->eN.Ok (eN.els [] e))/\∀(d_1:Ld×Ms×Int),(Ld.mk l.workers (1:Int) l.ver c (Dl.mk (eI.ag (eI.ag d.drop)) (eD.ag (eD.ag d.put)) (eV.ag (eV.ag d.moves))) (eBool.ag (eBool.lst l.workers.toNat (zeroEl (Value.bool false)))) true (0:Int) [],Ms.mk (3:Int) l.ver (Place.mk (0:Int) (0:Int)) (T.mk (0:Int) (0:Int) (0:Int) (0:Int) (0:Int) (0:Int)) [] [] (Dl.mk (eI.ag (eI.ag d.drop)) (eD.ag (eD.ag d.put)) (eV.ag (eV.ag d.moves))) c [] false (0:Int),(0:Int))=(Ld.mk l.workers (1:Int) l.ver c (Dl.mk (eI.ag (eI.ag d.drop)) (eD.ag (eD.ag d.put)) (eV.ag (eV.ag d.moves))) (eBool.ag (eBool.lst l.workers.toNat (zeroEl (Value.bool false)))) true (0:Int) [],Ms.mk (3:Int) l.ver (Place.mk (0:Int) (0:Int)) (T.mk (0:Int) (0:Int) (0:Int) (0:Int) (0:Int) (0:Int)) [] [] (Dl.mk (eI.ag (eI.ag d.drop)) (eD.ag (eD.ag d.put)) (eV.ag (eV.ag d.moves))) c [] false (0:Int),(0:Int))))/\(cs.isEmpty=false->((0:Int)<=l.workers/\l.workers<=l.workers/\l.workers<=(9223372036854775807:Int)/\(1:Int)*l.workers<=(140737488355328:Int))/\l.workers.toNat<=l.workers.toNat/\eI.okL d.drop/\eD.okL d.put/\eV.okL d.moves/\(∀(e:Nat),e<l.workers.toNat->eBool.Ok ((ElE.fn (zeroEl (Value.bool false))).at e))/\fewL (Ld.mk l.workers (1:Int) l.ver c (Dl.mk (eI.ag d.drop) (eD.ag d.put) (eV.ag d.moves)) (eBool.lst l.workers.toNat (zeroEl (Value.bool false))) true (0:Int) [])/\eI.okL d.drop/\eD.okL d.put/\eV.okL d.moves/\fewM (Ms.mk (3:Int) l.ver (Place.mk (0:Int) (0:Int)) (T.mk (0:Int) (0:Int) (0:Int) (0:Int) (0:Int) (0:Int)) [] [] (Dl.mk (eI.ag d.drop) (eD.ag d.put) (eV.ag d.moves)) c [] false (0:Int))/\eI.okL (eI.ag d.drop)/\eD.okL (eD.ag d.put)/\eV.okL (eV.ag d.moves)/\eBool.okL (eBool.lst l.workers.toNat (zeroEl (Value.bool false)))/\(∀(e:Nat),e<(0:Nat)->eN.Ok (eN.els [] e))/\(∀(e:Nat),e<(0:Nat)->eR.Ok (eR.els [] e))/\(∀(e:Nat),e<(0:Nat)->eC.Ok (eC.els [] e))/\eI.okL (eI.ag d.drop)/\eD.okL (eD.ag d.put)/\eV.okL (eV.ag d.moves)/\(∀(e:Nat),e<(0:Nat)->eN.Ok (eN.els [] e))/\∀(d_1:Ld×Ms×Int),(Ld.mk l.workers (1:Int) l.ver c (Dl.mk (eI.ag (eI.ag d.drop)) (eD.ag (eD.ag d.put)) (eV.ag (eV.ag d.moves))) (eBool.ag (eBool.lst l.workers.toNat (zeroEl (Value.bool false)))) true (0:Int) [],Ms.mk (3:Int) l.ver (Place.mk (0:Int) (0:Int)) (T.mk (0:Int) (0:Int) (0:Int) (0:Int) (0:Int) (0:Int)) [] [] (Dl.mk (eI.ag (eI.ag d.drop)) (eD.ag (eD.ag d.put)) (eV.ag (eV.ag d.moves))) c [] false (0:Int),(0:Int))=(Ld.mk l.workers (1:Int) l.ver c (Dl.mk (eI.ag (eI.ag d.drop)) (eD.ag (eD.ag d.put)) (eV.ag (eV.ag d.moves))) (eBool.ag (eBool.lst l.workers.toNat (zeroEl (Value.bool false)))) true (0:Int) [],Ms.mk (3:Int) l.ver (Place.mk (0:Int) (0:Int)) (T.mk (0:Int) (0:Int) (0:Int) (0:Int) (0:Int) (0:Int)) [] [] (Dl.mk (eI.ag (eI.ag d.drop)) (eD.ag (eD.ag d.put)) (eV.ag (eV.ag d.moves))) c [] false (0:Int),(0:Int)))))))
theorem sub_okS(pre:DA.T aLDI->List Prop)(h:∀g,DA.bd aLDI g->(∀p∈pre g,p)->sub_side g.1 g.2.1 g.2.2):FnPure Tryd.prog 25 aLDI (Rv.D rLME) (λg=>sub_F g.1 g.2.1 g.2.2) pre:=res_of_side (R:=rLME) (Γ:=(MTab.gamz tabJ9 [(5000000,0)] [])) (Λ:=noΛ) (MTab.okz tabJ9 [(5000000,0)] []) noΛ_ok 100 default (λg=>sub_side g.1 g.2.1 g.2.2) (λg=>by kernel_rfl) (λg=>by kernel_rfl) h
end Go.Proofs.YtfkdbifgppfegaaDoor

namespace Go.Proofs.YtfkdbifgppfegaaDoor
open Go.RowKit Go.Sx Go.Lp
set_option maxRecDepth 100000
theorem cond_213(z:Bool)(h:(bif z then(0:Int)else 213)≠0):(bif z then(0:Int)else 213)=213:=by
 cases z
 .rfl
 .exact absurd rfl h
theorem chk_213{l:Ld}(h:(chkL l !=0)=true):chkL l=213:=by
 have h:chkL l≠0:=by simpa using h
 exact cond_213 _ h
theorem sub_eq(l:Ld)(d:Dl)(c:Int):sub_F l d c=subS l d c:=by
 unfold sub_F subS;simp only[El.ag_eq,zB,ld_eta];cases h:(chkL l !=0)with
 |true=>rw[cond_true,cond_true,chk_213 h];rfl
 |false=>rfl
theorem sub_si(l:Ld)(d:Dl)(c:Int)(hd:fewD d):sub_side l d c:=by
 unfold sub_side;simp only[El.okL_eq,El.ag_eq,zB,ld_eta,implies_true,true_and,and_true,Nat.le_refl];intro hc _ _ _;have hw:=chk_work hc
 have hl:∀(A B C D:Int),fewL ⟨l.workers,A,B,C,⟨d.drop,d.put,d.moves⟩,List.replicate l.workers.toNat false,true,D,[]⟩:=λ_ _ _ _=>⟨hd,by
  show(List.replicate l.workers.toNat false).length<=KS;unfold KS;rw[List.length_replicate];omega,Nat.zero_le _⟩
 have hz:∀e:Nat,e<l.workers.toNat->eBool.Ok ((ElE.fn (zeroEl (Value.bool false))).at e):=λe _=>⟨false,[],rfl,by simp⟩;have L:=And.intro (few_wk hc) (And.intro hz (And.intro (hl 1 l.ver c 0) (And.intro (few_dl hd 3 l.ver ⟨0,0⟩ ⟨0,0,0,0,0,0⟩ c false 0) (And.intro (λe(he:e<0)=>absurd he (Nat.not_lt_zero e):∀e:Nat,e<0->eN.Ok (eN.els [] e)) (And.intro (λe(he:e<0)=>absurd he (Nat.not_lt_zero e):∀e:Nat,e<0->eR.Ok (eR.els [] e)) (And.intro (λe(he:e<0)=>absurd he (Nat.not_lt_zero e):∀e:Nat,e<0->eC.Ok (eC.els [] e)) (λe(he:e<0)=>absurd he (Nat.not_lt_zero e):∀e:Nat,e<0->eN.Ok (eN.els [] e))))))));exactλcs=>⟨λ_ cs=>⟨λ_=>L,λ_=>L⟩,λ_=>L⟩
theorem sub_ok:FnPure Tryd.prog 25 aLDI dLME (λg=>subS g.1 g.2.1 g.2.2) (λg=>[fewD g.2.1]):=
 pure_congr (sub_okS _ λg _ hp=>sub_si g.1 g.2.1 g.2.2 (hp _ (List.mem_cons_self ..))) λg _ _=>sub_eq g.1 g.2.1 g.2.2
end Go.Proofs.YtfkdbifgppfegaaDoor

namespace Go.Proofs.YtfkdbifgppfegaaDoor
open Go.RowKit Go.Sx
set_option maxRecDepth 100000
abbrev vl_G:Type:=BA×Int×Bool
noncomputable def vl_LP:LP 0 vl_G:=.pair (.slot 0 0 dStr) (.pair (.slot 0 3 dI) (.slot 0 2 dBool))
noncomputable def vl_R(s:BA)(i:Int)(r:Bool):Ex×vl_G:=
 bif decide (i<(↑(ByteArray.size s):Int))then bif widZ s i.toNat==(0:Int)then(Ex.ret,s,i,false)else(Ex.normal,s,IntKind.i64.wrap (i+widZ s i.toNat),r)
 else(Ex.exit (0:Nat),s,i,r)
def vl_side(s:BA)(i:Int)(r:Bool):Prop:=
 decide (i<(↑(ByteArray.size s):Int))=true->((0:Int)<=i/\i<(↑(ByteArray.size s):Int))/\ByteArray.size s<=KB
theorem vl_one:((loopsOf Tryd.prog 116).filter λc=>Nat.beq (lkey c) 2).length=1:=by kernel_rfl
theorem vl_es(g:vl_G):(vl_R g.1 g.2.1 g.2.2).1=.normal\/(vl_R g.1 g.2.1 g.2.2).1∈([.ret,.exit 0]:List Ex):=by
 unfold vl_R
 repeat' (first|(left;rfl)|(right;simp only[cond_true,cond_false];simp;done)|(rw[Bool.cond_eq_ite];split))
noncomputable abbrev vl_C(Inv:vl_G->List Prop)(m:vl_G->Nat):LCon:=loopR [.ret,.exit 0] (loopBody Tryd.prog 116 2) vl_LP [] 17 Inv (λg=>vl_R g.1 g.2.1 g.2.2) m
theorem vl_loop(Inv:vl_G->List Prop)(m:vl_G->Nat)(hs:∀g,allP (Inv g)->vl_side g.1 g.2.1 g.2.2)(hg:Goes (λg:vl_G=>vl_R g.1 g.2.1 g.2.2) m λg=>allP (Inv g)):∀b∈loopsOf Tryd.prog 116,lkey b=2->LoopOk Tryd.prog b (vl_C Inv m).g:=loop_run (Γ:=(PTab.gamz tabB1 [] [])) (Λ:=noΛ) (PTab.okz tabB1 [] []) noΛ_ok 100 116 2 17 vl_LP [] Inv (λg=>vl_R g.1 g.2.1 g.2.2) (λg=>vl_side g.1 g.2.1 g.2.2) m default [.ret,.exit 0] vl_one (λrd T B HL HB ds g=>by kernel_rfl) (λrd T B HL HB ds g=>by kernel_rfl) hs hg vl_es
end Go.Proofs.YtfkdbifgppfegaaDoor

namespace Go.Proofs.YtfkdbifgppfegaaDoor
open Go.RowKit Go.Sx Go.Lp
abbrev toL(s:BA):List UInt8:=s.data.toList
def badD(d:Nat×Nat):Bool:=d.1==65533&&d.2==1
theorem badD_iff(d:Nat×Nat):badD d=true↔d.1=65533/\d.2=1:=by unfold badD;simp
def validS(s:BA):Bool:=Lib.validD (toL s)
theorem validL_step(l:List UInt8)(hne:l≠[]):Lib.validD l=bif badD (Lib.decodeL l)then false else Lib.validD (l.drop (Lib.decodeL l).2):=by
 rw[Lib.validD_step l hne];cases h:badD (Lib.decodeL l)with
 |true=>rw[if_pos ((badD_iff _).1 h)];rfl
 |false=>rw[if_neg λhc=>by rw[(badD_iff _).2 hc]at h;cases h];rfl
theorem widZ_bad(s:BA)(p:Nat):widZ s p=bif badD (Utf8.decode s p)then 0 else((Utf8.decode s p).2:Int):=by
 unfold widZ;cases h:badD (Utf8.decode s p)with
 |true=>rw[if_pos ((badD_iff _).1 h)];rfl
 |false=>rw[if_neg λhc=>by rw[(badD_iff _).2 hc]at h;cases h];rfl
theorem widZ_zero(s:BA)(p:Nat):(widZ s p==(0:Int))=badD (Utf8.decode s p):=by
 rw[widZ_bad];have:=Lib.width_pos s p;cases badD (Utf8.decode s p)with
 |true=>rfl
 |false=>
  simp only[cond_false];rw[beq_eq_false_iff_ne];omega
def vl_mk(p:Nat)(s:BA)(r:Bool):vl_G:=(s,(p:Int),r)
def vl_st(s:BA)(r:Bool)(p:Nat)(d:Nat×Nat):Ex×Bool:=bif badD d then(.ret,false)else(.normal,r)
noncomputable abbrev vl_I(g:vl_G):List Prop:=txI (λs:BA=>s) (λs _ _=>s.size<=KB) vl_mk g
noncomputable abbrev vl_M(g:vl_G):Nat:=g.1.size-g.2.1.toNat
theorem vl_F(p:Nat)(s:BA)(r:Bool)(hp:p<=s.size)(hs:s.size<=KB):vl_R s (p:Int) r=txR 0 (λs:BA=>s) vl_st false vl_mk p s r:=by
 unfold KB at hs;unfold vl_R txR vl_st vl_mk;by_cases h:p<s.size
 .have he:=dec_end s p h;rw[decide_eq_true (by omega),if_pos h,Int.toNat_natCast,widZ_zero,cond_true,widZ_bad];cases badD (Utf8.decode s p)with
  |true=>rfl
  |false=>
   simp only[cond_false];rw[wrS (by omega)];rfl
 .rw[decide_eq_false (by omega),if_neg h];rfl
theorem vl_ok:∀b∈loopsOf Tryd.prog 116,lkey b=2->LoopOk Tryd.prog b (vl_C vl_I vl_M).g:=
 vl_loop vl_I vl_M (λg hi=>by
  obtain⟨p,s,r,rfl,h1,h2⟩:=hi _ (List.mem_cons_self ..);intro h;have h':=of_decide_eq_true h;simp only[vl_mk]at h' ⊢;exact⟨by omega,h2⟩) (tx_goes (λp s r=>by simp[vl_M,vl_mk]) (λp s r h1 h2=>vl_F p s r h1 h2) (λs r p h1 _ _=>h1))
theorem vl_scan:∀(l:List UInt8)(s:BA)(p:Nat)(r:Bool),((scanT 0 false (vl_st s) p (rsL l) r).1,(scanT 0 false (vl_st s) p (rsL l) r).2.2)=if Lib.validD l=true then(.exit 0,r)else(.ret,false):=by
 refine rsL_ind (λs p r=>rfl) λl hne ih s p r=>?_;rw[rsL_step l hne,validL_step l hne];simp only[scanT,vl_st];cases badD (Lib.decodeL l)with
 |true=>rfl
 |false=>exact ih s _ r
theorem vl_run(s:BA)(r:Bool)(hs:s.size<=KB):(loopF (λg:vl_G=>vl_R g.1 g.2.1 g.2.2) vl_M (s,(0:Int),r)).1=(if validS s=true then .exit 0 else .ret)/\(loopF (λg:vl_G=>vl_R g.1 g.2.1 g.2.2) vl_M (s,(0:Int),r)).2.2.2=(if validS s=true then r else false):=by
 have h:=tx_run (F:=λg:vl_G=>vl_R g.1 g.2.1 g.2.2) (m:=vl_M) (mk:=vl_mk) (x:=0) (adv:=false) (step:=vl_st) (P:=λs _ _=>s.size<=KB) (tx:=λs:BA=>s) (λp s r=>by simp[vl_M,vl_mk]) (λp s r h1 h2=>vl_F p s r h1 h2) (λs r p h1 _ _=>h1) s.size 0 s r (Nat.zero_le _) hs (Nat.sub_le _ _);have e:vl_mk 0 s r=(s,(0:Int),r):=rfl;rw[e]at h;rw[h,List.drop_zero];have h2:=vl_scan (toL s) s 0 r;unfold validS;simp only[vl_mk];by_cases hv:Lib.validD (toL s)=true
 .rw[if_pos hv]at h2 ⊢;simp only[Prod.mk.injEq]at h2;rw[if_pos hv];exact h2
 .rw[if_neg hv]at h2 ⊢;simp only[Prod.mk.injEq]at h2;rw[if_neg hv];exact h2
noncomputable def ltB3:LTab Tryd.prog:=(LTab.nil.cons 116 2 (vl_C vl_I vl_M) vl_ok)
noncomputable abbrev lamB3:Lam:=ltB3.lam
theorem lamB3_ok:∀f k L,lamB3 f k=some L->∀b∈loopsOf Tryd.prog f,lkey b=k->LoopOk Tryd.prog b L.g:=ltB3.ok
end Go.Proofs.YtfkdbifgppfegaaDoor

namespace Go.Proofs.YtfkdbifgppfegaaDoor
open Go.RowKit Go.Sx
set_option maxRecDepth 100000
noncomputable def vld_q1(s:BA):Ex×vl_G:=
 loopF (λg=>vl_R g.fst g.snd.fst g.snd.snd) vl_M (s,(0:Int),false)
noncomputable def vld_F(s:BA):Dv.T dBool:=
 bif exB Ex.ret (vld_q1 s).fst then(vld_q1 s).snd.snd.snd else true
def vld_side(s:BA):Prop:=
 ∃p c b,(s,(0:Int),false)=vl_mk p c b/\p<=ByteArray.size c/\ByteArray.size c<=KB
theorem vld_okS(pre:DA.T aB->List Prop)(h:∀g,DA.bd aB g->(∀p∈pre g,p)->vld_side g):FnPure Tryd.prog 116 aB dBool (λg=>vld_F g) pre:=pure_of_sideS (Γ:=(PTab.gamz tabB1 [] [])) (Λ:=lamB3) (PTab.okz tabB1 [] []) lamB3_ok 100 default (λg=>vld_side g) (λg=>by kernel_rfl) (λg=>by kernel_rfl) h
noncomputable def tabB4:PTab Tryd.prog:=tabB1
end Go.Proofs.YtfkdbifgppfegaaDoor

namespace Go.Proofs.YtfkdbifgppfegaaDoor
open Go.RowKit Go.Sx Go.Lp
theorem vld_ok:FnPure Tryd.prog 116 aB dBool validS (λs=>[s.size<=KB]):=
 pure_congr (vld_okS _ λs _ hp=>⟨0,s,false,rfl,Nat.zero_le _,hp _ (List.mem_cons_self ..)⟩) λs _ hp=>by
  obtain⟨h1,h2⟩:=vl_run s false (hp _ (List.mem_cons_self ..));show(bif exB Ex.ret (vld_q1 s).1 then(vld_q1 s).2.2.2 else true)=_;have e1:(vld_q1 s).1=(if validS s=true then .exit 0 else .ret):=h1;have e2:(vld_q1 s).2.2.2=(if validS s=true then false else false):=h2;rw[e1,e2];cases validS s<;>rfl
noncomputable def tabB5:PTab Tryd.prog:=tabB4.cons 116 (pconP aB dBool validS (λs=>[s.size<=KB])) (conP_ok vld_ok puB)
end Go.Proofs.YtfkdbifgppfegaaDoor

namespace Go.Proofs.YtfkdbifgppfegaaDoor
open Go.RowKit Go.Sx
set_option maxRecDepth 100000
noncomputable def chk_F(r:Rec):Dv.T dI:=
 bif decide ((↑(ByteArray.size r.text):Int)>(64:Int))||!Lib.validD r.text.data.toList then(50:Int)
 else(0:Int)
def chk_side(r:Rec):Prop:=
 (!decide ((↑(ByteArray.size r.text):Int)>(64:Int)))=true->ByteArray.size r.text<=KB
theorem chk_okS(pre:DA.T aR->List Prop)(h:∀g,DA.bd aR g->(∀p∈pre g,p)->chk_side g):FnPure Tryd.prog 119 aR dI (λg=>chk_F g) pre:=pure_of_sideS (Γ:=(PTab.gamz tabB5 [] [])) (Λ:=noΛ) (PTab.okz tabB5 [] []) noΛ_ok 100 default (λg=>chk_side g) (λg=>by kernel_rfl) (λg=>by kernel_rfl) h
noncomputable def rchk_F(r:Rec):Dv.T dI:=
 bif decide ((↑(ByteArray.size r.text):Int)>(64:Int))||!validS r.text then(50:Int)else(0:Int)
def rchk_side(r:Rec):Prop:=
 (!decide ((↑(ByteArray.size r.text):Int)>(64:Int)))=true->ByteArray.size r.text<=KB
theorem rchk_okS(pre:DA.T aR->List Prop)(h:∀g,DA.bd aR g->(∀p∈pre g,p)->rchk_side g):FnPure Tryd.prog 108 aR dI (λg=>rchk_F g) pre:=pure_of_sideS (Γ:=(PTab.gamz tabB5 [] [])) (Λ:=noΛ) (PTab.okz tabB5 [] []) noΛ_ok 100 default (λg=>rchk_side g) (λg=>by kernel_rfl) (λg=>by kernel_rfl) h
noncomputable def tck_F(t:T):Dv.T dI:=
 bif decide (t.e<(0:Int))||(decide (t.e>(1073741824:Int))||(decide (t.d<(0:Int))||decide (t.d>(4:Int))))then(10:Int)
 else bif decide (t.l0<(0:Int))||(decide (t.l0>(1048576:Int))||decide ((0:Int)>=t.d)&&t.l0 !=(0:Int))then(10:Int)else bif decide (t.l1<(0:Int))||(decide (t.l1>(1048576:Int))||decide ((1:Int)>=t.d)&&t.l1 !=(0:Int))then(10:Int)else bif decide (t.l2<(0:Int))||(decide (t.l2>(1048576:Int))||decide ((2:Int)>=t.d)&&t.l2 !=(0:Int))then(10:Int)else bif decide (t.l3<(0:Int))||(decide (t.l3>(1048576:Int))||decide ((3:Int)>=t.d)&&t.l3 !=(0:Int))then(10:Int)else(0:Int)
theorem tck_ok:FnPure Tryd.prog 112 aT dI (λg=>tck_F g) (λ_=>[]):=pure_of_safe (Γ:=(PTab.gamz tabB5 [] [])) (Λ:=noΛ) (PTab.okz tabB5 [] []) noΛ_ok 100 default (λg=>by kernel_rfl) (λg=>by kernel_rfl)
noncomputable def rtck_F(t:T):Dv.T dI:=
 bif decide (t.e<(0:Int))||(decide (t.e>(1073741824:Int))||(decide (t.d<(0:Int))||decide (t.d>(4:Int))))then(10:Int)
 else bif decide (t.l0<(0:Int))||(decide (t.l0>(1048576:Int))||decide ((0:Int)>=t.d)&&t.l0 !=(0:Int))then(10:Int)else bif decide (t.l1<(0:Int))||(decide (t.l1>(1048576:Int))||decide ((1:Int)>=t.d)&&t.l1 !=(0:Int))then(10:Int)else bif decide (t.l2<(0:Int))||(decide (t.l2>(1048576:Int))||decide ((2:Int)>=t.d)&&t.l2 !=(0:Int))then(10:Int)else bif decide (t.l3<(0:Int))||(decide (t.l3>(1048576:Int))||decide ((3:Int)>=t.d)&&t.l3 !=(0:Int))then(10:Int)else(0:Int)
theorem rtck_ok:FnPure Tryd.prog 92 aT dI (λg=>rtck_F g) (λ_=>[]):=pure_of_safe (Γ:=(PTab.gamz tabB5 [] [])) (Λ:=noΛ) (PTab.okz tabB5 [] []) noΛ_ok 100 default (λg=>by kernel_rfl) (λg=>by kernel_rfl)
end Go.Proofs.YtfkdbifgppfegaaDoor

namespace Go.Proofs.YtfkdbifgppfegaaDoor
open Go.RowKit Go.Sx Go.Lp
def chkR(r:Rec):Int:=bif decide ((r.text.size:Int)>64)||!validS r.text then 50 else 0
theorem chk_ok:FnPure Tryd.prog 119 aR dI chkR (λ_=>[]):=
 pure_congr (chk_okS _ λr _ _ h=>by
  have h:=of_decide_eq_false (by simpa using h:decide ((r.text.size:Int)>64)=false);unfold KB;omega) λr _ _=>rfl
theorem rchk_ok:FnPure Tryd.prog 108 aR dI chkR (λ_=>[]):=
 pure_congr (rchk_okS _ λr _ _ h=>by
  have h:=of_decide_eq_false (by simpa using h:decide ((r.text.size:Int)>64)=false);unfold KB;omega) λr _ _=>rfl
end Go.Proofs.YtfkdbifgppfegaaDoor

namespace Go.Proofs.YtfkdbifgppfegaaDoor
open Go.RowKit Go.Sx
noncomputable def tabF0:PTab Tryd.prog:=(((tabE10.cons 119 (pconP aR dI chkR (λ_=>[])) (conP_ok chk_ok puI)).cons 108 (pconP aR dI chkR (λ_=>[])) (conP_ok rchk_ok puI)).cons 112 (pconP aT dI (λt=>tck_F t) (λ_=>[])) (conP_ok tck_ok puI)).cons 92 (pconP aT dI (λt=>rtck_F t) (λ_=>[])) (conP_ok rtck_ok puI)
end Go.Proofs.YtfkdbifgppfegaaDoor

namespace Go.Proofs.YtfkdbifgppfegaaDoor
open Go.RowKit Go.Sx
set_option maxRecDepth 100000
abbrev ixr_G:Type:=List Rec×Unit×Int×Int×Int
noncomputable def ixr_LP:LP 0 ixr_G:=.pair (.slot 0 0 dLR) (.pair (.fix 0 1 (.fn 118 [])) (.pair (.slot 0 7 dI) (.pair (.slot 0 8 dI) (.slot 0 4 dI))))
noncomputable def ixr_R(xs:List Rec)(_u:Unit)(n:Int)(i:Int)(r:Int):Ex×ixr_G:=
 bif decide (i<n)then bif chkR (xs.getD i.toNat eR.dflt)!=(0:Int)then(Ex.ret,eR.ag xs,(),n,i,i)else(Ex.normal,eR.ag xs,(),n,IntKind.i64.wrap (i+(1:Int)),r)
 else(Ex.exit (0:Nat),eR.ag xs,(),n,i,r)
def ixr_side(xs:List Rec)(_u:Unit)(n:Int)(i:Int)(r:Int):Prop:=
 (decide (i<n)=true->((0:Int)<=i/\i<(↑xs.length:Int))/\((chkR (xs.getD i.toNat eR.dflt)!=(0:Int))=true->eR.okL xs)/\((chkR (xs.getD i.toNat eR.dflt)!=(0:Int))=false->eR.okL xs))/\(decide (i<n)=false->eR.okL xs)
theorem ixr_one:((loopsOf Tryd.prog 123).filter λc=>Nat.beq (lkey c) 2).length=1:=by kernel_rfl
abbrev ixr_GC:Type:=List Rec×Int
abbrev ixr_GB:Type:=Int×Unit
def ixr_f(g:ixr_G):Int×ixr_GC×ixr_GB:=(g.2.2.2.1,(g.1,g.2.2.1),(g.2.2.2.2,g.2.1))
def ixr_g(d:Int×ixr_GC×ixr_GB):ixr_G:=(d.2.1.1,d.2.2.2,d.2.1.2,d.1,d.2.2.1)
theorem ixr_es(g:ixr_G):(ixr_R g.1 g.2.1 g.2.2.1 g.2.2.2.1 g.2.2.2.2).1=.normal\/(ixr_R g.1 g.2.1 g.2.2.1 g.2.2.2.1 g.2.2.2.2).1∈([.ret,.exit 0]:List Ex):=by
 unfold ixr_R
 repeat' (first|(left;rfl)|(right;simp only[cond_true,cond_false];simp;done)|(rw[Bool.cond_eq_ite];split))
noncomputable abbrev ixr_C(Inv:ixr_G->List Prop)(m:ixr_G->Nat):LCon:=loopR [.ret,.exit 0] (loopBody Tryd.prog 123 2) ixr_LP [] 19 Inv (λg=>ixr_R g.1 g.2.1 g.2.2.1 g.2.2.2.1 g.2.2.2.2) m
theorem ixr_loop(Inv:ixr_G->List Prop)(m:ixr_G->Nat)(hs:∀g,allP (Inv g)->ixr_side g.1 g.2.1 g.2.2.1 g.2.2.2.1 g.2.2.2.2)(hg:Goes (λg:ixr_G=>ixr_R g.1 g.2.1 g.2.2.1 g.2.2.2.1 g.2.2.2.2) m λg=>allP (Inv g)):∀b∈loopsOf Tryd.prog 123,lkey b=2->LoopOk Tryd.prog b (ixr_C Inv m).g:=loop_run (Γ:=(PTab.gamz tabF0 [] [])) (Λ:=noΛ) (PTab.okz tabF0 [] []) noΛ_ok 100 123 2 19 ixr_LP [] Inv (λg=>ixr_R g.1 g.2.1 g.2.2.1 g.2.2.2.1 g.2.2.2.2) (λg=>ixr_side g.1 g.2.1 g.2.2.1 g.2.2.2.1 g.2.2.2.2) m default [.ret,.exit 0] ixr_one (λrd T B HL HB ds g=>by kernel_rfl) (λrd T B HL HB ds g=>by kernel_rfl) hs hg ixr_es
abbrev ixc_G:Type:=List Change×Unit×Int×Int×Int
noncomputable def ixc_LP:LP 0 ixc_G:=.pair (.slot 0 0 dLC) (.pair (.fix 0 1 (.fn 121 [])) (.pair (.slot 0 7 dI) (.pair (.slot 0 8 dI) (.slot 0 4 dI))))
noncomputable def ixc_R(xs:List Change)(_u:Unit)(n:Int)(i:Int)(r:Int):Ex×ixc_G:=
 bif decide (i<n)then bif (xs.getD i.toNat eC.dflt).n==(0:Int)||tck_F (xs.getD i.toNat eC.dflt).t !=(0:Int)then(Ex.ret,eC.ag xs,(),n,i,i)else(Ex.normal,eC.ag xs,(),n,IntKind.i64.wrap (i+(1:Int)),r)
 else(Ex.exit (0:Nat),eC.ag xs,(),n,i,r)
def ixc_side(xs:List Change)(_u:Unit)(n:Int)(i:Int)(r:Int):Prop:=
 (decide (i<n)=true->((0:Int)<=i/\i<(↑xs.length:Int))/\(((xs.getD i.toNat eC.dflt).n==(0:Int)||tck_F (xs.getD i.toNat eC.dflt).t !=(0:Int))=true->eC.okL xs)/\(((xs.getD i.toNat eC.dflt).n==(0:Int)||tck_F (xs.getD i.toNat eC.dflt).t !=(0:Int))=false->eC.okL xs))/\(decide (i<n)=false->eC.okL xs)
theorem ixc_one:((loopsOf Tryd.prog 125).filter λc=>Nat.beq (lkey c) 2).length=1:=by kernel_rfl
abbrev ixc_GC:Type:=List Change×Int
abbrev ixc_GB:Type:=Int×Unit
def ixc_f(g:ixc_G):Int×ixc_GC×ixc_GB:=(g.2.2.2.1,(g.1,g.2.2.1),(g.2.2.2.2,g.2.1))
def ixc_g(d:Int×ixc_GC×ixc_GB):ixc_G:=(d.2.1.1,d.2.2.2,d.2.1.2,d.1,d.2.2.1)
theorem ixc_es(g:ixc_G):(ixc_R g.1 g.2.1 g.2.2.1 g.2.2.2.1 g.2.2.2.2).1=.normal\/(ixc_R g.1 g.2.1 g.2.2.1 g.2.2.2.1 g.2.2.2.2).1∈([.ret,.exit 0]:List Ex):=by
 unfold ixc_R
 repeat' (first|(left;rfl)|(right;simp only[cond_true,cond_false];simp;done)|(rw[Bool.cond_eq_ite];split))
noncomputable abbrev ixc_C(Inv:ixc_G->List Prop)(m:ixc_G->Nat):LCon:=loopR [.ret,.exit 0] (loopBody Tryd.prog 125 2) ixc_LP [] 19 Inv (λg=>ixc_R g.1 g.2.1 g.2.2.1 g.2.2.2.1 g.2.2.2.2) m
theorem ixc_loop(Inv:ixc_G->List Prop)(m:ixc_G->Nat)(hs:∀g,allP (Inv g)->ixc_side g.1 g.2.1 g.2.2.1 g.2.2.2.1 g.2.2.2.2)(hg:Goes (λg:ixc_G=>ixc_R g.1 g.2.1 g.2.2.1 g.2.2.2.1 g.2.2.2.2) m λg=>allP (Inv g)):∀b∈loopsOf Tryd.prog 125,lkey b=2->LoopOk Tryd.prog b (ixc_C Inv m).g:=loop_run (Γ:=(PTab.gamz tabF0 [] [])) (Λ:=noΛ) (PTab.okz tabF0 [] []) noΛ_ok 100 125 2 19 ixc_LP [] Inv (λg=>ixc_R g.1 g.2.1 g.2.2.1 g.2.2.2.1 g.2.2.2.2) (λg=>ixc_side g.1 g.2.1 g.2.2.1 g.2.2.2.1 g.2.2.2.2) m default [.ret,.exit 0] ixc_one (λrd T B HL HB ds g=>by kernel_rfl) (λrd T B HL HB ds g=>by kernel_rfl) hs hg ixc_es
abbrev rrl_G:Type:=List Rec×Int×Bool
noncomputable def rrl_LP:LP 0 rrl_G:=.pair (.slot 0 0 dLR) (.pair (.slot 0 3 dI) (.slot 0 2 dBool))
noncomputable def rrl_R(xs:List Rec)(i:Int)(r:Bool):Ex×rrl_G:=
 bif decide (i<(↑xs.length:Int))then bif chkR (xs.getD i.toNat eR.dflt)!=(0:Int)then(Ex.ret,eR.ag xs,i,false)else(Ex.normal,eR.ag xs,IntKind.i64.wrap (i+(1:Int)),r)
 else(Ex.exit (0:Nat),eR.ag xs,i,r)
def rrl_side(xs:List Rec)(i:Int)(r:Bool):Prop:=
 (decide (i<(↑xs.length:Int))=true->((0:Int)<=i/\i<(↑xs.length:Int))/\((chkR (xs.getD i.toNat eR.dflt)!=(0:Int))=true->eR.okL xs)/\((chkR (xs.getD i.toNat eR.dflt)!=(0:Int))=false->eR.okL xs))/\(decide (i<(↑xs.length:Int))=false->eR.okL xs)
theorem rrl_one:((loopsOf Tryd.prog 93).filter λc=>Nat.beq (lkey c) 2).length=1:=by kernel_rfl
abbrev rrl_GC:Type:=List Rec
abbrev rrl_GB:Type:=Bool
def rrl_f(g:rrl_G):Int×rrl_GC×rrl_GB:=(g.2.1,g.1,g.2.2)
def rrl_g(d:Int×rrl_GC×rrl_GB):rrl_G:=(d.2.1,d.1,d.2.2)
theorem rrl_es(g:rrl_G):(rrl_R g.1 g.2.1 g.2.2).1=.normal\/(rrl_R g.1 g.2.1 g.2.2).1∈([.ret,.exit 0]:List Ex):=by
 unfold rrl_R
 repeat' (first|(left;rfl)|(right;simp only[cond_true,cond_false];simp;done)|(rw[Bool.cond_eq_ite];split))
noncomputable abbrev rrl_C(Inv:rrl_G->List Prop)(m:rrl_G->Nat):LCon:=loopR [.ret,.exit 0] (loopBody Tryd.prog 93 2) rrl_LP [] 24 Inv (λg=>rrl_R g.1 g.2.1 g.2.2) m
theorem rrl_loop(Inv:rrl_G->List Prop)(m:rrl_G->Nat)(hs:∀g,allP (Inv g)->rrl_side g.1 g.2.1 g.2.2)(hg:Goes (λg:rrl_G=>rrl_R g.1 g.2.1 g.2.2) m λg=>allP (Inv g)):∀b∈loopsOf Tryd.prog 93,lkey b=2->LoopOk Tryd.prog b (rrl_C Inv m).g:=loop_run (Γ:=(PTab.gamz tabF0 [] [])) (Λ:=noΛ) (PTab.okz tabF0 [] []) noΛ_ok 100 93 2 24 rrl_LP [] Inv (λg=>rrl_R g.1 g.2.1 g.2.2) (λg=>rrl_side g.1 g.2.1 g.2.2) m default [.ret,.exit 0] rrl_one (λrd T B HL HB ds g=>by kernel_rfl) (λrd T B HL HB ds g=>by kernel_rfl) hs hg rrl_es
abbrev rcg_G:Type:=List Change×Int×Bool
noncomputable def rcg_LP:LP 0 rcg_G:=.pair (.slot 0 0 dLC) (.pair (.slot 0 3 dI) (.slot 0 2 dBool))
noncomputable def rcg_R(xs:List Change)(i:Int)(r:Bool):Ex×rcg_G:=
 bif decide (i<(↑xs.length:Int))then bif rtck_F (xs.getD i.toNat eC.dflt).t !=(0:Int)||(xs.getD i.toNat eC.dflt).n==(0:Int)then(Ex.ret,eC.ag xs,i,false)else(Ex.normal,eC.ag xs,IntKind.i64.wrap (i+(1:Int)),r)
 else(Ex.exit (0:Nat),eC.ag xs,i,r)
def rcg_side(xs:List Change)(i:Int)(r:Bool):Prop:=
 (decide (i<(↑xs.length:Int))=true->((0:Int)<=i/\i<(↑xs.length:Int))/\((!rtck_F (xs.getD i.toNat eC.dflt).t !=(0:Int))=true->(0:Int)<=i/\i<(↑xs.length:Int))/\((rtck_F (xs.getD i.toNat eC.dflt).t !=(0:Int)||(xs.getD i.toNat eC.dflt).n==(0:Int))=true->eC.okL xs)/\((rtck_F (xs.getD i.toNat eC.dflt).t !=(0:Int)||(xs.getD i.toNat eC.dflt).n==(0:Int))=false->eC.okL xs))/\(decide (i<(↑xs.length:Int))=false->eC.okL xs)
theorem rcg_one:((loopsOf Tryd.prog 94).filter λc=>Nat.beq (lkey c) 2).length=1:=by kernel_rfl
abbrev rcg_GC:Type:=List Change
abbrev rcg_GB:Type:=Bool
def rcg_f(g:rcg_G):Int×rcg_GC×rcg_GB:=(g.2.1,g.1,g.2.2)
def rcg_g(d:Int×rcg_GC×rcg_GB):rcg_G:=(d.2.1,d.1,d.2.2)
theorem rcg_es(g:rcg_G):(rcg_R g.1 g.2.1 g.2.2).1=.normal\/(rcg_R g.1 g.2.1 g.2.2).1∈([.ret,.exit 0]:List Ex):=by
 unfold rcg_R
 repeat' (first|(left;rfl)|(right;simp only[cond_true,cond_false];simp;done)|(rw[Bool.cond_eq_ite];split))
noncomputable abbrev rcg_C(Inv:rcg_G->List Prop)(m:rcg_G->Nat):LCon:=loopR [.ret,.exit 0] (loopBody Tryd.prog 94 2) rcg_LP [] 33 Inv (λg=>rcg_R g.1 g.2.1 g.2.2) m
theorem rcg_loop(Inv:rcg_G->List Prop)(m:rcg_G->Nat)(hs:∀g,allP (Inv g)->rcg_side g.1 g.2.1 g.2.2)(hg:Goes (λg:rcg_G=>rcg_R g.1 g.2.1 g.2.2) m λg=>allP (Inv g)):∀b∈loopsOf Tryd.prog 94,lkey b=2->LoopOk Tryd.prog b (rcg_C Inv m).g:=loop_run (Γ:=(PTab.gamz tabF0 [] [])) (Λ:=noΛ) (PTab.okz tabF0 [] []) noΛ_ok 100 94 2 33 rcg_LP [] Inv (λg=>rcg_R g.1 g.2.1 g.2.2) (λg=>rcg_side g.1 g.2.1 g.2.2) m default [.ret,.exit 0] rcg_one (λrd T B HL HB ds g=>by kernel_rfl) (λrd T B HL HB ds g=>by kernel_rfl) hs hg rcg_es
end Go.Proofs.YtfkdbifgppfegaaDoor

namespace Go.Proofs.YtfkdbifgppfegaaDoor
open Go.RowKit Go.Sx Go.Lp
set_option maxRecDepth 100000
noncomputable def ixr_S(c:ixr_GC)(b:ixr_GB)(i:Int)(v:Rec):Ex×ixr_GB:=bif chkR v !=(0:Int)then(.ret,i,())else(.normal,b.1,b.2)
def ixr_K(c:ixr_GC)(b:ixr_GB)(i:Int):Prop:=True
abbrev ixr_I(g:ixr_G):List Prop:=ixI (λc:ixr_GC=>c.2) (λc:ixr_GC=>c.1) ixr_K (ixr_f g)
abbrev ixr_M(g:ixr_G):Nat:=ixM (λc:ixr_GC=>c.2) (ixr_f g)
theorem ixr_P:ixP ixr_S (λc:ixr_GC=>c.1) ixr_K:=λ_ _ _ _ h _ _=>h
noncomputable abbrev ixr_RR(g:ixr_G):Ex×ixr_G:=ixr_R g.1 g.2.1 g.2.2.1 g.2.2.2.1 g.2.2.2.2
theorem ixr_RF(d:Int×ixr_GC×ixr_GB)(hi:allP (ixI (λc:ixr_GC=>c.2) (λc:ixr_GC=>c.1) ixr_K d)):ixr_RR (ixr_g d)=((ixF 0 (λc:ixr_GC=>c.2) (λc:ixr_GC=>c.1) eR.dflt ixr_S d).1,ixr_g (ixF 0 (λc:ixr_GC=>c.2) (λc:ixr_GC=>c.1) eR.dflt ixr_S d).2):=by
 obtain⟨i,⟨xs,n⟩,⟨r,⟨⟩⟩⟩:=d;show ixr_R xs () n i r=_;unfold ixr_R ixF ixr_S;simp only[El.ag_eq];cases decide (i<n)with
 |false=>rfl
 |true=>
  simp only[cond_true];generalize (chkR (xs.getD i.toNat eR.dflt)!=(0:Int))=z;cases z<;>rfl
theorem ixr_ok:∀b∈loopsOf Tryd.prog 123,lkey b=2->LoopOk Tryd.prog b (ixr_C ixr_I ixr_M).g:=by
 refine ixr_loop ixr_I ixr_M (λg hi=>?_) (ix_conj_goes (λ_=>rfl) (λ_=>rfl) ixr_RF ixr_P);obtain⟨xs,⟨⟩,n,i,r⟩:=g;obtain⟨h1,h2,h3,h4,h5⟩:=hi _ (List.mem_cons_self ..);have h1:n=(xs.length:Int):=h1;have h3:0<=i:=h3;have h5:True:=h5;show ixr_side xs () n i r;unfold ixr_side;simp only[decide_eq_true_eq,decide_eq_false_iff_not];have k0:∀e:Nat,e<xs.length->eR.Ok (eR.els xs e):=λe _=>eR.ok_els xs e;clear hi
 repeat' (first|exact k0|apply And.intro|intro _)
 all_goals omega
theorem ixr_run(c:ixr_GC)(b:ixr_GB)(k1:c.2=((c.1).length:Int))(k2:(c.1).length<=maxLen)(k3:ixr_K c b 0):loopF ixr_RR ixr_M (ixr_g (0,c,b))=((scan 0 (ixr_S c) 0 (c.1) b).1,ixr_g ((scan 0 (ixr_S c) 0 (c.1) b).2.1,c,(scan 0 (ixr_S c) 0 (c.1) b).2.2)):=ix_conj_run (φ:=ixr_f) (ψ:=ixr_g) (λ_=>rfl) (λ_=>rfl) ixr_RF ixr_P c b k1 k2 k3
noncomputable def ixc_S(c:ixc_GC)(b:ixc_GB)(i:Int)(v:Change):Ex×ixc_GB:=bif v.n==(0:Int)||tck_F v.t !=(0:Int)then(.ret,i,())else(.normal,b.1,b.2)
def ixc_K(c:ixc_GC)(b:ixc_GB)(i:Int):Prop:=True
abbrev ixc_I(g:ixc_G):List Prop:=ixI (λc:ixc_GC=>c.2) (λc:ixc_GC=>c.1) ixc_K (ixc_f g)
abbrev ixc_M(g:ixc_G):Nat:=ixM (λc:ixc_GC=>c.2) (ixc_f g)
theorem ixc_P:ixP ixc_S (λc:ixc_GC=>c.1) ixc_K:=λ_ _ _ _ h _ _=>h
noncomputable abbrev ixc_RR(g:ixc_G):Ex×ixc_G:=ixc_R g.1 g.2.1 g.2.2.1 g.2.2.2.1 g.2.2.2.2
theorem ixc_RF(d:Int×ixc_GC×ixc_GB)(hi:allP (ixI (λc:ixc_GC=>c.2) (λc:ixc_GC=>c.1) ixc_K d)):ixc_RR (ixc_g d)=((ixF 0 (λc:ixc_GC=>c.2) (λc:ixc_GC=>c.1) eC.dflt ixc_S d).1,ixc_g (ixF 0 (λc:ixc_GC=>c.2) (λc:ixc_GC=>c.1) eC.dflt ixc_S d).2):=by
 obtain⟨i,⟨xs,n⟩,⟨r,⟨⟩⟩⟩:=d;show ixc_R xs () n i r=_;unfold ixc_R ixF ixc_S;simp only[El.ag_eq];cases decide (i<n)with
 |false=>rfl
 |true=>
  simp only[cond_true];generalize ((xs.getD i.toNat eC.dflt).n==(0:Int)||tck_F (xs.getD i.toNat eC.dflt).t !=(0:Int))=z;cases z<;>rfl
theorem ixc_ok:∀b∈loopsOf Tryd.prog 125,lkey b=2->LoopOk Tryd.prog b (ixc_C ixc_I ixc_M).g:=by
 refine ixc_loop ixc_I ixc_M (λg hi=>?_) (ix_conj_goes (λ_=>rfl) (λ_=>rfl) ixc_RF ixc_P);obtain⟨xs,⟨⟩,n,i,r⟩:=g;obtain⟨h1,h2,h3,h4,h5⟩:=hi _ (List.mem_cons_self ..);have h1:n=(xs.length:Int):=h1;have h3:0<=i:=h3;have h5:True:=h5;show ixc_side xs () n i r;unfold ixc_side;simp only[decide_eq_true_eq,decide_eq_false_iff_not];have k0:∀e:Nat,e<xs.length->eC.Ok (eC.els xs e):=λe _=>eC.ok_els xs e;clear hi
 repeat' (first|exact k0|apply And.intro|intro _)
 all_goals omega
theorem ixc_run(c:ixc_GC)(b:ixc_GB)(k1:c.2=((c.1).length:Int))(k2:(c.1).length<=maxLen)(k3:ixc_K c b 0):loopF ixc_RR ixc_M (ixc_g (0,c,b))=((scan 0 (ixc_S c) 0 (c.1) b).1,ixc_g ((scan 0 (ixc_S c) 0 (c.1) b).2.1,c,(scan 0 (ixc_S c) 0 (c.1) b).2.2)):=ix_conj_run (φ:=ixc_f) (ψ:=ixc_g) (λ_=>rfl) (λ_=>rfl) ixc_RF ixc_P c b k1 k2 k3
noncomputable def rrl_S(c:rrl_GC)(b:rrl_GB)(i:Int)(v:Rec):Ex×rrl_GB:=bif chkR v !=(0:Int)then(.ret,false)else(.normal,b)
def rrl_K(c:rrl_GC)(b:rrl_GB)(i:Int):Prop:=True
abbrev rrl_I(g:rrl_G):List Prop:=ixI (λc:rrl_GC=>(c.length:Int)) (λc:rrl_GC=>c) rrl_K (rrl_f g)
abbrev rrl_M(g:rrl_G):Nat:=ixM (λc:rrl_GC=>(c.length:Int)) (rrl_f g)
theorem rrl_P:ixP rrl_S (λc:rrl_GC=>c) rrl_K:=λ_ _ _ _ h _ _=>h
noncomputable abbrev rrl_RR(g:rrl_G):Ex×rrl_G:=rrl_R g.1 g.2.1 g.2.2
theorem rrl_RF(d:Int×rrl_GC×rrl_GB)(hi:allP (ixI (λc:rrl_GC=>(c.length:Int)) (λc:rrl_GC=>c) rrl_K d)):rrl_RR (rrl_g d)=((ixF 0 (λc:rrl_GC=>(c.length:Int)) (λc:rrl_GC=>c) eR.dflt rrl_S d).1,rrl_g (ixF 0 (λc:rrl_GC=>(c.length:Int)) (λc:rrl_GC=>c) eR.dflt rrl_S d).2):=by
 obtain⟨i,xs,r⟩:=d;show rrl_R xs i r=_;unfold rrl_R ixF rrl_S;simp only[El.ag_eq];cases decide (i<(xs.length:Int))with
 |false=>rfl
 |true=>
  simp only[cond_true];generalize (chkR (xs.getD i.toNat eR.dflt)!=(0:Int))=z;cases z<;>rfl
theorem rrl_ok:∀b∈loopsOf Tryd.prog 93,lkey b=2->LoopOk Tryd.prog b (rrl_C rrl_I rrl_M).g:=by
 refine rrl_loop rrl_I rrl_M (λg hi=>?_) (ix_conj_goes (λ_=>rfl) (λ_=>rfl) rrl_RF rrl_P);obtain⟨xs,i,r⟩:=g;obtain⟨h1,h2,h3,h4,h5⟩:=hi _ (List.mem_cons_self ..);have h1:(xs.length:Int)=(xs.length:Int):=h1;have h3:0<=i:=h3;have h5:True:=h5;show rrl_side xs i r;unfold rrl_side;simp only[decide_eq_true_eq,decide_eq_false_iff_not];have k0:∀e:Nat,e<xs.length->eR.Ok (eR.els xs e):=λe _=>eR.ok_els xs e;clear hi
 repeat' (first|exact k0|apply And.intro|intro _)
 all_goals omega
theorem rrl_run(c:rrl_GC)(b:rrl_GB)(k1:(c.length:Int)=((c).length:Int))(k2:(c).length<=maxLen)(k3:rrl_K c b 0):loopF rrl_RR rrl_M (rrl_g (0,c,b))=((scan 0 (rrl_S c) 0 (c) b).1,rrl_g ((scan 0 (rrl_S c) 0 (c) b).2.1,c,(scan 0 (rrl_S c) 0 (c) b).2.2)):=ix_conj_run (φ:=rrl_f) (ψ:=rrl_g) (λ_=>rfl) (λ_=>rfl) rrl_RF rrl_P c b k1 k2 k3
noncomputable def rcg_S(c:rcg_GC)(b:rcg_GB)(i:Int)(v:Change):Ex×rcg_GB:=bif rtck_F v.t !=(0:Int)||v.n==(0:Int)then(.ret,false)else(.normal,b)
def rcg_K(c:rcg_GC)(b:rcg_GB)(i:Int):Prop:=True
abbrev rcg_I(g:rcg_G):List Prop:=ixI (λc:rcg_GC=>(c.length:Int)) (λc:rcg_GC=>c) rcg_K (rcg_f g)
abbrev rcg_M(g:rcg_G):Nat:=ixM (λc:rcg_GC=>(c.length:Int)) (rcg_f g)
theorem rcg_P:ixP rcg_S (λc:rcg_GC=>c) rcg_K:=λ_ _ _ _ h _ _=>h
noncomputable abbrev rcg_RR(g:rcg_G):Ex×rcg_G:=rcg_R g.1 g.2.1 g.2.2
theorem rcg_RF(d:Int×rcg_GC×rcg_GB)(hi:allP (ixI (λc:rcg_GC=>(c.length:Int)) (λc:rcg_GC=>c) rcg_K d)):rcg_RR (rcg_g d)=((ixF 0 (λc:rcg_GC=>(c.length:Int)) (λc:rcg_GC=>c) eC.dflt rcg_S d).1,rcg_g (ixF 0 (λc:rcg_GC=>(c.length:Int)) (λc:rcg_GC=>c) eC.dflt rcg_S d).2):=by
 obtain⟨i,xs,r⟩:=d;show rcg_R xs i r=_;unfold rcg_R ixF rcg_S;simp only[El.ag_eq];cases decide (i<(xs.length:Int))with
 |false=>rfl
 |true=>
  simp only[cond_true];generalize (rtck_F (xs.getD i.toNat eC.dflt).t !=(0:Int)||(xs.getD i.toNat eC.dflt).n==(0:Int))=z;cases z<;>rfl
theorem rcg_ok:∀b∈loopsOf Tryd.prog 94,lkey b=2->LoopOk Tryd.prog b (rcg_C rcg_I rcg_M).g:=by
 refine rcg_loop rcg_I rcg_M (λg hi=>?_) (ix_conj_goes (λ_=>rfl) (λ_=>rfl) rcg_RF rcg_P);obtain⟨xs,i,r⟩:=g;obtain⟨h1,h2,h3,h4,h5⟩:=hi _ (List.mem_cons_self ..);have h1:(xs.length:Int)=(xs.length:Int):=h1;have h3:0<=i:=h3;have h5:True:=h5;show rcg_side xs i r;unfold rcg_side;simp only[decide_eq_true_eq,decide_eq_false_iff_not];have k0:∀e:Nat,e<xs.length->eC.Ok (eC.els xs e):=λe _=>eC.ok_els xs e;clear hi
 repeat' (first|exact k0|apply And.intro|intro _)
 all_goals omega
theorem rcg_run(c:rcg_GC)(b:rcg_GB)(k1:(c.length:Int)=((c).length:Int))(k2:(c).length<=maxLen)(k3:rcg_K c b 0):loopF rcg_RR rcg_M (rcg_g (0,c,b))=((scan 0 (rcg_S c) 0 (c) b).1,rcg_g ((scan 0 (rcg_S c) 0 (c) b).2.1,c,(scan 0 (rcg_S c) 0 (c) b).2.2)):=ix_conj_run (φ:=rcg_f) (ψ:=rcg_g) (λ_=>rfl) (λ_=>rfl) rcg_RF rcg_P c b k1 k2 k3
noncomputable def ltF2:LTab Tryd.prog:=((((LTab.nil.cons 123 2 (ixr_C ixr_I ixr_M) ixr_ok).cons 125 2 (ixc_C ixc_I ixc_M) ixc_ok).cons 93 2 (rrl_C rrl_I rrl_M) rrl_ok).cons 94 2 (rcg_C rcg_I rcg_M) rcg_ok)
noncomputable abbrev lamF2:Lam:=ltF2.lam
theorem lamF2_ok:∀f k L,lamF2 f k=some L->∀b∈loopsOf Tryd.prog f,lkey b=k->LoopOk Tryd.prog b L.g:=ltF2.ok
end Go.Proofs.YtfkdbifgppfegaaDoor

namespace Go.Proofs.YtfkdbifgppfegaaDoor
open Go.RowKit Go.Sx
set_option maxRecDepth 100000
abbrev aRF:DA (List Rec×Unit):=.cons dLR (.one (dFnA 118 .none))
abbrev aCF:DA (List Change×Unit):=.cons dLC (.one (dFnA 121 .none))
noncomputable def cnr_q1(xs:List Rec)(_u:Unit):Ex×
 ixr_G:=
 loopF (λg=>ixr_R g.fst g.snd.fst g.snd.snd.fst g.snd.snd.snd.fst g.snd.snd.snd.snd) ixr_M (eR.ag xs,(),(↑xs.length:Int),(0:Int),(0:Int))
noncomputable def cnr_F(xs:List Rec)(_u:Unit):Dv.T dBool:=
 bif exB Ex.ret (cnr_q1 xs _u).fst then decide ((cnr_q1 xs _u).snd.snd.snd.snd.snd>=(0:Int))else decide ((-1:Int)>=(0:Int))
def cnr_side(xs:List Rec)(_u:Unit):Prop:=
 eR.okL xs/\Lp.ixJ (λc=>c.snd) (λc=>c.fst) ixr_K (ixr_f (eR.ag xs,(),(↑xs.length:Int),(0:Int),(0:Int)))
theorem cnr_okS(pre:DA.T aRF->List Prop)(h:∀g,DA.bd aRF g->(∀p∈pre g,p)->cnr_side g.1 g.2):FnPure Tryd.prog 117 aRF dBool (λg=>cnr_F g.1 g.2) pre:=pure_of_sideS (Γ:=(PTab.gamz tabF0 [] [])) (Λ:=lamF2) (PTab.okz tabF0 [] []) lamF2_ok 100 default (λg=>cnr_side g.1 g.2) (λg=>by kernel_rfl) (λg=>by kernel_rfl) h
noncomputable def cnc_q1(xs:List Change)(_u:Unit):Ex×
 ixc_G:=
 loopF (λg=>ixc_R g.fst g.snd.fst g.snd.snd.fst g.snd.snd.snd.fst g.snd.snd.snd.snd) ixc_M (eC.ag xs,(),(↑xs.length:Int),(0:Int),(0:Int))
noncomputable def cnc_F(xs:List Change)(_u:Unit):Dv.T dBool:=
 bif exB Ex.ret (cnc_q1 xs _u).fst then decide ((cnc_q1 xs _u).snd.snd.snd.snd.snd>=(0:Int))else decide ((-1:Int)>=(0:Int))
def cnc_side(xs:List Change)(_u:Unit):Prop:=
 eC.okL xs/\Lp.ixJ (λc=>c.snd) (λc=>c.fst) ixc_K (ixc_f (eC.ag xs,(),(↑xs.length:Int),(0:Int),(0:Int)))
theorem cnc_okS(pre:DA.T aCF->List Prop)(h:∀g,DA.bd aCF g->(∀p∈pre g,p)->cnc_side g.1 g.2):FnPure Tryd.prog 120 aCF dBool (λg=>cnc_F g.1 g.2) pre:=pure_of_sideS (Γ:=(PTab.gamz tabF0 [] [])) (Λ:=lamF2) (PTab.okz tabF0 [] []) lamF2_ok 100 default (λg=>cnc_side g.1 g.2) (λg=>by kernel_rfl) (λg=>by kernel_rfl) h
noncomputable def rrs_q1(xs:List Rec):Ex×rrl_G:=
 loopF (λg=>rrl_R g.fst g.snd.fst g.snd.snd) rrl_M (eR.ag xs,(0:Int),false)
noncomputable def rrs_F(xs:List Rec):Dv.T dBool:=
 bif exB Ex.ret (rrs_q1 xs).fst then(rrs_q1 xs).snd.snd.snd
 else decide ((↑(rrs_q1 xs).snd.fst.length:Int)>=(1:Int))&&decide ((↑(rrs_q1 xs).snd.fst.length:Int)<=(64:Int))
def rrs_side(xs:List Rec):Prop:=
 eR.okL xs/\Lp.ixJ (λc=>(↑(List.length c):Int)) (λc=>c) rrl_K (rrl_f (eR.ag xs,(0:Int),false))
theorem rrs_okS(pre:DA.T (.one dLR)->List Prop)(h:∀g,DA.bd (.one dLR) g->(∀p∈pre g,p)->rrs_side g):FnPure Tryd.prog 93 (.one dLR) dBool (λg=>rrs_F g) pre:=pure_of_sideS (Γ:=(PTab.gamz tabF0 [] [])) (Λ:=lamF2) (PTab.okz tabF0 [] []) lamF2_ok 100 default (λg=>rrs_side g) (λg=>by kernel_rfl) (λg=>by kernel_rfl) h
noncomputable def rch_q1(xs:List Change):Ex×rcg_G:=
 loopF (λg=>rcg_R g.fst g.snd.fst g.snd.snd) rcg_M (eC.ag xs,(0:Int),false)
noncomputable def rch_F(xs:List Change):Dv.T dBool:=
 bif exB Ex.ret (rch_q1 xs).fst then(rch_q1 xs).snd.snd.snd
 else decide ((↑(rch_q1 xs).snd.fst.length:Int)>=(1:Int))&&decide ((↑(rch_q1 xs).snd.fst.length:Int)<=(512:Int))
def rch_side(xs:List Change):Prop:=
 eC.okL xs/\Lp.ixJ (λc=>(↑(List.length c):Int)) (λc=>c) rcg_K (rcg_f (eC.ag xs,(0:Int),false))
theorem rch_okS(pre:DA.T (.one dLC)->List Prop)(h:∀g,DA.bd (.one dLC) g->(∀p∈pre g,p)->rch_side g):FnPure Tryd.prog 94 (.one dLC) dBool (λg=>rch_F g) pre:=pure_of_sideS (Γ:=(PTab.gamz tabF0 [] [])) (Λ:=lamF2) (PTab.okz tabF0 [] []) lamF2_ok 100 default (λg=>rch_side g) (λg=>by kernel_rfl) (λg=>by kernel_rfl) h
end Go.Proofs.YtfkdbifgppfegaaDoor

namespace Go.Proofs.YtfkdbifgppfegaaDoor
open Go.RowKit Go.Sx Go.Lp
def badR(xs:List Rec):Bool:=xs.any λv=>chkR v !=(0:Int)
noncomputable def badC(xs:List Change):Bool:=xs.any λv=>v.n==(0:Int)||tck_F v.t !=(0:Int)
theorem cnr_ok:FnPure Tryd.prog 117 aRF dBool (λg=>badR g.1) (λ_=>[]):=by
 refine pure_congr (cnr_okS (λ_=>[]) λg hb _=>?_) λg hb _=>?_
 all_goals (obtain⟨xs,⟨⟩⟩:=g;have ha:xs.length<=maxLen:=hb.1.1)
 .show cnr_side xs ();unfold cnr_side;simp only[El.okL_eq,El.ag_eq];exact⟨trivial,ixJ0 rfl ha trivial⟩
 show cnr_F xs ()=badR xs
 have hq:cnr_q1 xs ()=loopF ixr_RR ixr_M (ixr_g (0,(xs,(xs.length:Int)),(0,()))):=by
  unfold cnr_q1;rw[El.ag_eq];rfl
 unfold cnr_F badR;rw[hq,ixr_run (xs,(xs.length:Int)) (0,()) rfl ha trivial];show(bif exB .ret (scan 0 (ixr_S (xs,(xs.length:Int))) 0 xs (0,())).1 then decide ((scan 0 (ixr_S (xs,(xs.length:Int))) 0 xs (0,())).2.2.1>=(0:Int))else _)=_;rcases search (x:=0) (st:=ixr_S (xs,(xs.length:Int))) (p:=λv=>chkR v !=(0:Int)) (r:=λi _ _=>(i,())) (λ_ _ _=>rfl) xs (0,())with ⟨h1,j,hj,a,_,_,h2⟩|⟨h1,h2⟩
 .rw[h1,h2];exact decide_eq_true hj
 .rw[h1,h2];rfl
theorem cnc_ok:FnPure Tryd.prog 120 aCF dBool (λg=>badC g.1) (λ_=>[]):=by
 refine pure_congr (cnc_okS (λ_=>[]) λg hb _=>?_) λg hb _=>?_
 all_goals (obtain⟨xs,⟨⟩⟩:=g;have ha:xs.length<=maxLen:=hb.1.1)
 .show cnc_side xs ();unfold cnc_side;simp only[El.okL_eq,El.ag_eq];exact⟨trivial,ixJ0 rfl ha trivial⟩
 show cnc_F xs ()=badC xs
 have hq:cnc_q1 xs ()=loopF ixc_RR ixc_M (ixc_g (0,(xs,(xs.length:Int)),(0,()))):=by
  unfold cnc_q1;rw[El.ag_eq];rfl
 unfold cnc_F badC;rw[hq,ixc_run (xs,(xs.length:Int)) (0,()) rfl ha trivial];show(bif exB .ret (scan 0 (ixc_S (xs,(xs.length:Int))) 0 xs (0,())).1 then decide ((scan 0 (ixc_S (xs,(xs.length:Int))) 0 xs (0,())).2.2.1>=(0:Int))else _)=_;rcases search (x:=0) (st:=ixc_S (xs,(xs.length:Int))) (p:=λv=>v.n==(0:Int)||tck_F v.t !=(0:Int)) (r:=λi _ _=>(i,())) (λ_ _ _=>rfl) xs (0,())with ⟨h1,j,hj,a,_,_,h2⟩|⟨h1,h2⟩
 .rw[h1,h2];exact decide_eq_true hj
 .rw[h1,h2];rfl
def recsS(xs:List Rec):Bool:=bif badR xs then false else decide ((xs.length:Int)>=1)&&decide ((xs.length:Int)<=64)
noncomputable def chgS(xs:List Change):Bool:=bif badC xs then false else decide ((xs.length:Int)>=1)&&decide ((xs.length:Int)<=512)
theorem rrs_ok:FnPure Tryd.prog 93 (.one dLR) dBool recsS (λ_=>[]):=by
 refine pure_congr (rrs_okS (λ_=>[]) λxs hb _=>?_) λxs hb _=>?_
 all_goals have ha:xs.length<=maxLen:=hb.1
 .show rrs_side xs;unfold rrs_side;simp only[El.okL_eq,El.ag_eq];exact⟨trivial,ixJ0 rfl ha trivial⟩
 show rrs_F xs=recsS xs
 have hq:rrs_q1 xs=loopF rrl_RR rrl_M (rrl_g (0,xs,false)):=by
  unfold rrs_q1;rw[El.ag_eq];rfl
 unfold rrs_F recsS badR;rw[hq,rrl_run xs false rfl ha trivial];show(bif exB .ret (scan 0 (rrl_S xs) 0 xs false).1 then(scan 0 (rrl_S xs) 0 xs false).2.2 else decide ((xs.length:Int)>=1)&&decide ((xs.length:Int)<=64))=_;rcases search (x:=0) (st:=rrl_S xs) (p:=λv=>chkR v !=(0:Int)) (r:=λ_ _ _=>false) (λ_ _ _=>rfl) xs false with ⟨h1,j,hj,a,_,_,h2⟩|⟨h1,h2⟩
 .rw[h1,h2];rfl
 .rw[h1,h2];rfl
theorem rch_ok:FnPure Tryd.prog 94 (.one dLC) dBool chgS (λ_=>[]):=by
 refine pure_congr (rch_okS (λ_=>[]) λxs hb _=>?_) λxs hb _=>?_
 all_goals have ha:xs.length<=maxLen:=hb.1
 .show rch_side xs;unfold rch_side;simp only[El.okL_eq,El.ag_eq];exact⟨trivial,ixJ0 rfl ha trivial⟩
 show rch_F xs=chgS xs
 have hq:rch_q1 xs=loopF rcg_RR rcg_M (rcg_g (0,xs,false)):=by
  unfold rch_q1;rw[El.ag_eq];rfl
 have e:badC xs=xs.any λv=>rtck_F v.t !=(0:Int)||v.n==(0:Int):=by
  unfold badC;congr 1;funext v;rw[Bool.or_comm];rfl
 unfold rch_F chgS;rw[hq,rcg_run xs false rfl ha trivial,e];show(bif exB .ret (scan 0 (rcg_S xs) 0 xs false).1 then(scan 0 (rcg_S xs) 0 xs false).2.2 else decide ((xs.length:Int)>=1)&&decide ((xs.length:Int)<=512))=_;rcases search (x:=0) (st:=rcg_S xs) (p:=λv=>rtck_F v.t !=(0:Int)||v.n==(0:Int)) (r:=λ_ _ _=>false) (λ_ _ _=>rfl) xs false with ⟨h1,j,hj,a,_,_,h2⟩|⟨h1,h2⟩
 .rw[h1,h2];rfl
 .rw[h1,h2];rfl
noncomputable def tabF4:PTab Tryd.prog:=(((tabF0.cons 117 (pconP aRF dBool (λg=>badR g.1) (λ_=>[])) (conP_ok cnr_ok puB)).cons 120 (pconP aCF dBool (λg=>badC g.1) (λ_=>[])) (conP_ok cnc_ok puB)).cons 93 (pconP (.one dLR) dBool recsS (λ_=>[])) (conP_ok rrs_ok puB)).cons 94 (pconP (.one dLC) dBool chgS (λ_=>[])) (conP_ok rch_ok puB)
end Go.Proofs.YtfkdbifgppfegaaDoor

namespace Go.Proofs.YtfkdbifgppfegaaDoor
open Go.RowKit Go.Sx
set_option maxRecDepth 100000
noncomputable def mck_F(m:Ms):Dv.T dI:=
 bif m.kind==(1:Int)then bif !(tck_F m.t==(0:Int)&&(decide ((↑m.recs.length:Int)>=(1:Int))&&(decide ((↑m.recs.length:Int)<=(64:Int))&&!badR (eR.ag m.recs))))||(decide (m.ver<(0:Int))||!decide (Ms.mk m.kind m.ver (Place.mk (0:Int) (0:Int)) (T.mk (0:Int) (0:Int) (0:Int) (0:Int) (0:Int) (0:Int)) [] (eC.ag m.changes) (Dl.mk (eI.ag m.dl.drop) (eD.ag m.dl.put) (eV.ag m.dl.moves)) m.cut (eN.ag m.ents) m.yes m.why=Ms.mk m.kind m.ver (Place.mk (0:Int) (0:Int)) (T.mk (0:Int) (0:Int) (0:Int) (0:Int) (0:Int) (0:Int)) [] [] (Dl.mk [] [] []) (0:Int) [] false (0:Int)))then(130:Int)else(0:Int)
 else bif m.kind==(2:Int)then bif !(decide ((↑m.changes.length:Int)>=(1:Int))&&(decide ((↑m.changes.length:Int)<=(512:Int))&&!badC (eC.ag m.changes)))||(decide (m.ver<(0:Int))||!decide (Ms.mk m.kind m.ver m.p m.t (eR.ag m.recs) [] (Dl.mk (eI.ag m.dl.drop) (eD.ag m.dl.put) (eV.ag m.dl.moves)) m.cut (eN.ag m.ents) m.yes m.why=Ms.mk m.kind m.ver (Place.mk (0:Int) (0:Int)) (T.mk (0:Int) (0:Int) (0:Int) (0:Int) (0:Int) (0:Int)) [] [] (Dl.mk [] [] []) (0:Int) [] false (0:Int)))then(130:Int)else(0:Int)else bif m.kind==(3:Int)then bif !(decide (m.cut>=(0:Int))&&decide (m.cut<=(1073741824:Int)))||(decide (m.ver<(0:Int))||!decide (Ms.mk m.kind m.ver m.p m.t (eR.ag m.recs) (eC.ag m.changes) (Dl.mk [] [] []) (0:Int) (eN.ag m.ents) m.yes m.why=Ms.mk m.kind m.ver (Place.mk (0:Int) (0:Int)) (T.mk (0:Int) (0:Int) (0:Int) (0:Int) (0:Int) (0:Int)) [] [] (Dl.mk [] [] []) (0:Int) [] false (0:Int)))then(130:Int)else(0:Int)else bif m.kind==(4:Int)then bif decide (m.ver<(0:Int))||!decide (Ms.mk m.kind m.ver m.p m.t (eR.ag m.recs) (eC.ag m.changes) (Dl.mk (eI.ag m.dl.drop) (eD.ag m.dl.put) (eV.ag m.dl.moves)) m.cut (eN.ag m.ents) m.yes m.why=Ms.mk m.kind m.ver (Place.mk (0:Int) (0:Int)) (T.mk (0:Int) (0:Int) (0:Int) (0:Int) (0:Int) (0:Int)) [] [] (Dl.mk [] [] []) (0:Int) [] false (0:Int))then(130:Int)else(0:Int)else bif m.kind==(6:Int)&&!(m.why==(0:Int))==m.yes then(130:Int)else bif !m.kind==(6:Int)&&!m.kind==(5:Int)then(130:Int)else bif !(decide ((↑m.ents.length:Int)<=(1024:Int))&&(m.yes||(↑m.ents.length:Int)==(0:Int)))||(decide (m.ver<(0:Int))||!decide (Ms.mk m.kind m.ver m.p m.t (eR.ag m.recs) (eC.ag m.changes) (Dl.mk (eI.ag m.dl.drop) (eD.ag m.dl.put) (eV.ag m.dl.moves)) m.cut [] false (bif m.kind==(6:Int)then(0:Int)else m.why)=Ms.mk m.kind m.ver (Place.mk (0:Int) (0:Int)) (T.mk (0:Int) (0:Int) (0:Int) (0:Int) (0:Int) (0:Int)) [] [] (Dl.mk [] [] []) (0:Int) [] false (0:Int)))then(130:Int)else(0:Int)
def mck_side(m:Ms):Prop:=
 ((m.kind==(1:Int))=true->((tck_F m.t==(0:Int))=true->decide ((↑m.recs.length:Int)>=(1:Int))=true->decide ((↑m.recs.length:Int)<=(64:Int))=true->eR.okL m.recs)/\((!!(tck_F m.t==(0:Int)&&(decide ((↑m.recs.length:Int)>=(1:Int))&&(decide ((↑m.recs.length:Int)<=(64:Int))&&!badR (eR.ag m.recs)))))=true->(!decide (m.ver<(0:Int)))=true->eC.okL m.changes)/\((!!(tck_F m.t==(0:Int)&&(decide ((↑m.recs.length:Int)>=(1:Int))&&(decide ((↑m.recs.length:Int)<=(64:Int))&&!badR (eR.ag m.recs)))))=true->(!decide (m.ver<(0:Int)))=true->eI.okL m.dl.drop)/\((!!(tck_F m.t==(0:Int)&&(decide ((↑m.recs.length:Int)>=(1:Int))&&(decide ((↑m.recs.length:Int)<=(64:Int))&&!badR (eR.ag m.recs)))))=true->(!decide (m.ver<(0:Int)))=true->eD.okL m.dl.put)/\((!!(tck_F m.t==(0:Int)&&(decide ((↑m.recs.length:Int)>=(1:Int))&&(decide ((↑m.recs.length:Int)<=(64:Int))&&!badR (eR.ag m.recs)))))=true->(!decide (m.ver<(0:Int)))=true->eV.okL m.dl.moves)/\((!!(tck_F m.t==(0:Int)&&(decide ((↑m.recs.length:Int)>=(1:Int))&&(decide ((↑m.recs.length:Int)<=(64:Int))&&!badR (eR.ag m.recs)))))=true->(!decide (m.ver<(0:Int)))=true->eN.okL m.ents))/\((m.kind==(1:Int))=false->((m.kind==(2:Int))=true->(decide ((↑m.changes.length:Int)>=(1:Int))=true->decide ((↑m.changes.length:Int)<=(512:Int))=true->eC.okL m.changes)/\((!!(decide ((↑m.changes.length:Int)>=(1:Int))&&(decide ((↑m.changes.length:Int)<=(512:Int))&&!badC (eC.ag m.changes))))=true->(!decide (m.ver<(0:Int)))=true->eR.okL m.recs)/\((!!(decide ((↑m.changes.length:Int)>=(1:Int))&&(decide ((↑m.changes.length:Int)<=(512:Int))&&!badC (eC.ag m.changes))))=true->(!decide (m.ver<(0:Int)))=true->eI.okL m.dl.drop)/\((!!(decide ((↑m.changes.length:Int)>=(1:Int))&&(decide ((↑m.changes.length:Int)<=(512:Int))&&!badC (eC.ag m.changes))))=true->(!decide (m.ver<(0:Int)))=true->eD.okL m.dl.put)/\((!!(decide ((↑m.changes.length:Int)>=(1:Int))&&(decide ((↑m.changes.length:Int)<=(512:Int))&&!badC (eC.ag m.changes))))=true->(!decide (m.ver<(0:Int)))=true->eV.okL m.dl.moves)/\((!!(decide ((↑m.changes.length:Int)>=(1:Int))&&(decide ((↑m.changes.length:Int)<=(512:Int))&&!badC (eC.ag m.changes))))=true->(!decide (m.ver<(0:Int)))=true->eN.okL m.ents))/\((m.kind==(2:Int))=false->((m.kind==(3:Int))=true->((!!(decide (m.cut>=(0:Int))&&decide (m.cut<=(1073741824:Int))))=true->(!decide (m.ver<(0:Int)))=true->eR.okL m.recs)/\((!!(decide (m.cut>=(0:Int))&&decide (m.cut<=(1073741824:Int))))=true->(!decide (m.ver<(0:Int)))=true->eC.okL m.changes)/\((!!(decide (m.cut>=(0:Int))&&decide (m.cut<=(1073741824:Int))))=true->(!decide (m.ver<(0:Int)))=true->eN.okL m.ents))/\((m.kind==(3:Int))=false->((m.kind==(4:Int))=true->((!decide (m.ver<(0:Int)))=true->eR.okL m.recs)/\((!decide (m.ver<(0:Int)))=true->eC.okL m.changes)/\((!decide (m.ver<(0:Int)))=true->eI.okL m.dl.drop)/\((!decide (m.ver<(0:Int)))=true->eD.okL m.dl.put)/\((!decide (m.ver<(0:Int)))=true->eV.okL m.dl.moves)/\((!decide (m.ver<(0:Int)))=true->eN.okL m.ents))/\((m.kind==(4:Int))=false->(m.kind==(6:Int)&&!(m.why==(0:Int))==m.yes)=false->(!m.kind==(6:Int)&&!m.kind==(5:Int))=false->((!!(decide ((↑m.ents.length:Int)<=(1024:Int))&&(m.yes||(↑m.ents.length:Int)==(0:Int))))=true->(!decide (m.ver<(0:Int)))=true->eR.okL m.recs)/\((!!(decide ((↑m.ents.length:Int)<=(1024:Int))&&(m.yes||(↑m.ents.length:Int)==(0:Int))))=true->(!decide (m.ver<(0:Int)))=true->eC.okL m.changes)/\((!!(decide ((↑m.ents.length:Int)<=(1024:Int))&&(m.yes||(↑m.ents.length:Int)==(0:Int))))=true->(!decide (m.ver<(0:Int)))=true->eI.okL m.dl.drop)/\((!!(decide ((↑m.ents.length:Int)<=(1024:Int))&&(m.yes||(↑m.ents.length:Int)==(0:Int))))=true->(!decide (m.ver<(0:Int)))=true->eD.okL m.dl.put)/\((!!(decide ((↑m.ents.length:Int)<=(1024:Int))&&(m.yes||(↑m.ents.length:Int)==(0:Int))))=true->(!decide (m.ver<(0:Int)))=true->eV.okL m.dl.moves)))))
theorem mck_okS(pre:DA.T aM->List Prop)(h:∀g,DA.bd aM g->(∀p∈pre g,p)->mck_side g):FnPure Tryd.prog 80 aM dI (λg=>mck_F g) pre:=pure_of_sideS (Γ:=(PTab.gamz tabF4 [] [])) (Λ:=noΛ) (PTab.okz tabF4 [] []) noΛ_ok 100 default (λg=>mck_side g) (λg=>by kernel_rfl) (λg=>by kernel_rfl) h
end Go.Proofs.YtfkdbifgppfegaaDoor

namespace Go.Proofs.YtfkdbifgppfegaaDoor
open Go.RowKit Go.Sx
set_option maxRecDepth 100000
noncomputable def rbr_F(m:Ms):Dv.T dMs:=
 bif m.kind==(1:Int)then Ms.mk m.kind m.ver m.p m.t (eR.ag m.recs) [] (Dl.mk [] [] []) (0:Int) [] false (0:Int)
 else bif m.kind==(2:Int)then Ms.mk m.kind m.ver (Place.mk (0:Int) (0:Int)) (T.mk (0:Int) (0:Int) (0:Int) (0:Int) (0:Int) (0:Int)) [] (eC.ag m.changes) (Dl.mk [] [] []) (0:Int) [] false (0:Int)else bif m.kind==(3:Int)then Ms.mk m.kind m.ver (Place.mk (0:Int) (0:Int)) (T.mk (0:Int) (0:Int) (0:Int) (0:Int) (0:Int) (0:Int)) [] [] (Dl.mk (eI.ag m.dl.drop) (eD.ag m.dl.put) (eV.ag m.dl.moves)) m.cut [] false (0:Int)else bif m.kind==(5:Int)then Ms.mk m.kind m.ver (Place.mk (0:Int) (0:Int)) (T.mk (0:Int) (0:Int) (0:Int) (0:Int) (0:Int) (0:Int)) [] [] (Dl.mk [] [] []) (0:Int) (eN.ag m.ents) m.yes (0:Int)else bif m.kind==(6:Int)then Ms.mk m.kind m.ver (Place.mk (0:Int) (0:Int)) (T.mk (0:Int) (0:Int) (0:Int) (0:Int) (0:Int) (0:Int)) [] [] (Dl.mk [] [] []) (0:Int) (eN.ag m.ents) m.yes m.why else Ms.mk m.kind m.ver (Place.mk (0:Int) (0:Int)) (T.mk (0:Int) (0:Int) (0:Int) (0:Int) (0:Int) (0:Int)) [] [] (Dl.mk [] [] []) (0:Int) [] false (0:Int)
def rbr_side(m:Ms):Prop:=
 ((m.kind==(1:Int))=true->eR.okL m.recs)/\((m.kind==(1:Int))=false->((m.kind==(2:Int))=true->eC.okL m.changes)/\((m.kind==(2:Int))=false->((m.kind==(3:Int))=true->eI.okL m.dl.drop/\eD.okL m.dl.put/\eV.okL m.dl.moves)/\((m.kind==(3:Int))=false->((m.kind==(5:Int))=true->eN.okL m.ents)/\((m.kind==(5:Int))=false->(m.kind==(6:Int))=true->eN.okL m.ents))))
theorem rbr_okS(pre:DA.T aM->List Prop)(h:∀g,DA.bd aM g->(∀p∈pre g,p)->rbr_side g):FnPure Tryd.prog 91 aM dMs (λg=>rbr_F g) pre:=pure_of_sideS (Γ:=(PTab.gamz tabF4 [(4000000,0)] [])) (Λ:=noΛ) (PTab.okz tabF4 [(4000000,0)] []) noΛ_ok 100 default (λg=>rbr_side g) (λg=>by kernel_rfl) (λg=>by kernel_rfl) h
end Go.Proofs.YtfkdbifgppfegaaDoor

namespace Go.Proofs.YtfkdbifgppfegaaDoor
open Go.RowKit Go.Sx Go.Lp
theorem rbr_ok:FnPure Tryd.prog 91 aM dMs (λm=>rbr_F m) (λ_=>[]):=rbr_okS (λ_=>[]) λm _ _=>by
 show rbr_side m;unfold rbr_side;simp only[El.okL_eq,implies_true,and_self,true_and]
 try (repeat' (first|trivial|apply And.intro|intro _))
 try (all_goals (exact absurd ‹_› (Nat.not_lt_zero _)))
noncomputable def tabF8:PTab Tryd.prog:=tabF4.cons 91 (pconR aM dMs (λm=>rbr_F m) (λ_=>[])) (conR_ok rbr_ok)
end Go.Proofs.YtfkdbifgppfegaaDoor

namespace Go.Proofs.YtfkdbifgppfegaaDoor
open Go.RowKit Go.Sx
set_option maxRecDepth 100000
noncomputable def rmck_q1(m:Ms):dMs.T:=
 rbr_F (Ms.mk m.kind m.ver m.p m.t (eR.ag m.recs) (eC.ag m.changes) (Dl.mk (eI.ag m.dl.drop) (eD.ag m.dl.put) (eV.ag m.dl.moves)) m.cut (eN.ag m.ents) m.yes m.why)
noncomputable def rmck_F(m:Ms):Dv.T dI:=
 bif !bif m.kind==(1:Int)then decide (m.kind>=(1:Int))&&(decide (m.kind<=(6:Int))&&(decide (m.ver>=(0:Int))&&decide (Ms.mk (rmck_q1 m).kind (rmck_q1 m).ver (rmck_q1 m).p (rmck_q1 m).t (eR.ag (rmck_q1 m).recs) (eC.ag (rmck_q1 m).changes) (Dl.mk (eI.ag (rmck_q1 m).dl.drop) (eD.ag (rmck_q1 m).dl.put) (eV.ag (rmck_q1 m).dl.moves)) (rmck_q1 m).cut (eN.ag (rmck_q1 m).ents) (rmck_q1 m).yes (rmck_q1 m).why=Ms.mk m.kind m.ver m.p m.t (eR.ag m.recs) (eC.ag m.changes) (Dl.mk (eI.ag m.dl.drop) (eD.ag m.dl.put) (eV.ag m.dl.moves)) m.cut (eN.ag m.ents) m.yes m.why)))&&(rtck_F m.t==(0:Int)&&recsS (eR.ag m.recs))else bif m.kind==(2:Int)then decide (m.kind>=(1:Int))&&(decide (m.kind<=(6:Int))&&(decide (m.ver>=(0:Int))&&decide (Ms.mk (rmck_q1 m).kind (rmck_q1 m).ver (rmck_q1 m).p (rmck_q1 m).t (eR.ag (rmck_q1 m).recs) (eC.ag (rmck_q1 m).changes) (Dl.mk (eI.ag (rmck_q1 m).dl.drop) (eD.ag (rmck_q1 m).dl.put) (eV.ag (rmck_q1 m).dl.moves)) (rmck_q1 m).cut (eN.ag (rmck_q1 m).ents) (rmck_q1 m).yes (rmck_q1 m).why=Ms.mk m.kind m.ver m.p m.t (eR.ag m.recs) (eC.ag m.changes) (Dl.mk (eI.ag m.dl.drop) (eD.ag m.dl.put) (eV.ag m.dl.moves)) m.cut (eN.ag m.ents) m.yes m.why)))&&chgS (eC.ag m.changes)else bif m.kind==(3:Int)then decide (m.kind>=(1:Int))&&(decide (m.kind<=(6:Int))&&(decide (m.ver>=(0:Int))&&decide (Ms.mk (rmck_q1 m).kind (rmck_q1 m).ver (rmck_q1 m).p (rmck_q1 m).t (eR.ag (rmck_q1 m).recs) (eC.ag (rmck_q1 m).changes) (Dl.mk (eI.ag (rmck_q1 m).dl.drop) (eD.ag (rmck_q1 m).dl.put) (eV.ag (rmck_q1 m).dl.moves)) (rmck_q1 m).cut (eN.ag (rmck_q1 m).ents) (rmck_q1 m).yes (rmck_q1 m).why=Ms.mk m.kind m.ver m.p m.t (eR.ag m.recs) (eC.ag m.changes) (Dl.mk (eI.ag m.dl.drop) (eD.ag m.dl.put) (eV.ag m.dl.moves)) m.cut (eN.ag m.ents) m.yes m.why)))&&(decide (m.cut>=(0:Int))&&decide (m.cut<=(1073741824:Int)))else bif m.kind==(5:Int)then decide (m.kind>=(1:Int))&&(decide (m.kind<=(6:Int))&&(decide (m.ver>=(0:Int))&&decide (Ms.mk (rmck_q1 m).kind (rmck_q1 m).ver (rmck_q1 m).p (rmck_q1 m).t (eR.ag (rmck_q1 m).recs) (eC.ag (rmck_q1 m).changes) (Dl.mk (eI.ag (rmck_q1 m).dl.drop) (eD.ag (rmck_q1 m).dl.put) (eV.ag (rmck_q1 m).dl.moves)) (rmck_q1 m).cut (eN.ag (rmck_q1 m).ents) (rmck_q1 m).yes (rmck_q1 m).why=Ms.mk m.kind m.ver m.p m.t (eR.ag m.recs) (eC.ag m.changes) (Dl.mk (eI.ag m.dl.drop) (eD.ag m.dl.put) (eV.ag m.dl.moves)) m.cut (eN.ag m.ents) m.yes m.why)))&&bif m.yes then decide ((↑m.ents.length:Int)<=(1024:Int))else(↑m.ents.length:Int)==(0:Int)&&decide ((↑m.ents.length:Int)<=(1024:Int))else bif m.kind==(6:Int)then decide (m.kind>=(1:Int))&&(decide (m.kind<=(6:Int))&&(decide (m.ver>=(0:Int))&&decide (Ms.mk (rmck_q1 m).kind (rmck_q1 m).ver (rmck_q1 m).p (rmck_q1 m).t (eR.ag (rmck_q1 m).recs) (eC.ag (rmck_q1 m).changes) (Dl.mk (eI.ag (rmck_q1 m).dl.drop) (eD.ag (rmck_q1 m).dl.put) (eV.ag (rmck_q1 m).dl.moves)) (rmck_q1 m).cut (eN.ag (rmck_q1 m).ents) (rmck_q1 m).yes (rmck_q1 m).why=Ms.mk m.kind m.ver m.p m.t (eR.ag m.recs) (eC.ag m.changes) (Dl.mk (eI.ag m.dl.drop) (eD.ag m.dl.put) (eV.ag m.dl.moves)) m.cut (eN.ag m.ents) m.yes m.why)))&&bif m.yes then decide ((↑m.ents.length:Int)<=(1024:Int))&&m.yes==(m.why==(0:Int))else(↑m.ents.length:Int)==(0:Int)&&(decide ((↑m.ents.length:Int)<=(1024:Int))&&m.yes==(m.why==(0:Int)))else decide (m.kind>=(1:Int))&&(decide (m.kind<=(6:Int))&&(decide (m.ver>=(0:Int))&&decide (Ms.mk (rmck_q1 m).kind (rmck_q1 m).ver (rmck_q1 m).p (rmck_q1 m).t (eR.ag (rmck_q1 m).recs) (eC.ag (rmck_q1 m).changes) (Dl.mk (eI.ag (rmck_q1 m).dl.drop) (eD.ag (rmck_q1 m).dl.put) (eV.ag (rmck_q1 m).dl.moves)) (rmck_q1 m).cut (eN.ag (rmck_q1 m).ents) (rmck_q1 m).yes (rmck_q1 m).why=Ms.mk m.kind m.ver m.p m.t (eR.ag m.recs) (eC.ag m.changes) (Dl.mk (eI.ag m.dl.drop) (eD.ag m.dl.put) (eV.ag m.dl.moves)) m.cut (eN.ag m.ents) m.yes m.why)))then(130:Int)
 else(0:Int)
def rmck_side(m:Ms):Prop:=
 (decide (m.kind>=(1:Int))=true->decide (m.kind<=(6:Int))=true->decide (m.ver>=(0:Int))=true->eR.okL m.recs)/\(decide (m.kind>=(1:Int))=true->decide (m.kind<=(6:Int))=true->decide (m.ver>=(0:Int))=true->eC.okL m.changes)/\(decide (m.kind>=(1:Int))=true->decide (m.kind<=(6:Int))=true->decide (m.ver>=(0:Int))=true->eI.okL m.dl.drop)/\(decide (m.kind>=(1:Int))=true->decide (m.kind<=(6:Int))=true->decide (m.ver>=(0:Int))=true->eD.okL m.dl.put)/\(decide (m.kind>=(1:Int))=true->decide (m.kind<=(6:Int))=true->decide (m.ver>=(0:Int))=true->eV.okL m.dl.moves)/\(decide (m.kind>=(1:Int))=true->decide (m.kind<=(6:Int))=true->decide (m.ver>=(0:Int))=true->eN.okL m.ents)/\(decide (m.kind>=(1:Int))=true->decide (m.kind<=(6:Int))=true->decide (m.ver>=(0:Int))=true->eR.okL (rmck_q1 m).recs)/\(decide (m.kind>=(1:Int))=true->decide (m.kind<=(6:Int))=true->decide (m.ver>=(0:Int))=true->eC.okL (rmck_q1 m).changes)/\(decide (m.kind>=(1:Int))=true->decide (m.kind<=(6:Int))=true->decide (m.ver>=(0:Int))=true->eI.okL (rmck_q1 m).dl.drop)/\(decide (m.kind>=(1:Int))=true->decide (m.kind<=(6:Int))=true->decide (m.ver>=(0:Int))=true->eD.okL (rmck_q1 m).dl.put)/\(decide (m.kind>=(1:Int))=true->decide (m.kind<=(6:Int))=true->decide (m.ver>=(0:Int))=true->eV.okL (rmck_q1 m).dl.moves)/\(decide (m.kind>=(1:Int))=true->decide (m.kind<=(6:Int))=true->decide (m.ver>=(0:Int))=true->eN.okL (rmck_q1 m).ents)/\(decide (m.kind>=(1:Int))=true->decide (m.kind<=(6:Int))=true->decide (m.ver>=(0:Int))=true->eR.okL m.recs)/\(decide (m.kind>=(1:Int))=true->decide (m.kind<=(6:Int))=true->decide (m.ver>=(0:Int))=true->eC.okL m.changes)/\(decide (m.kind>=(1:Int))=true->decide (m.kind<=(6:Int))=true->decide (m.ver>=(0:Int))=true->eI.okL m.dl.drop)/\(decide (m.kind>=(1:Int))=true->decide (m.kind<=(6:Int))=true->decide (m.ver>=(0:Int))=true->eD.okL m.dl.put)/\(decide (m.kind>=(1:Int))=true->decide (m.kind<=(6:Int))=true->decide (m.ver>=(0:Int))=true->eV.okL m.dl.moves)/\(decide (m.kind>=(1:Int))=true->decide (m.kind<=(6:Int))=true->decide (m.ver>=(0:Int))=true->eN.okL m.ents)/\((m.kind==(1:Int))=true->(decide (m.kind>=(1:Int))&&(decide (m.kind<=(6:Int))&&(decide (m.ver>=(0:Int))&&decide (Ms.mk (rmck_q1 m).kind (rmck_q1 m).ver (rmck_q1 m).p (rmck_q1 m).t (eR.ag (rmck_q1 m).recs) (eC.ag (rmck_q1 m).changes) (Dl.mk (eI.ag (rmck_q1 m).dl.drop) (eD.ag (rmck_q1 m).dl.put) (eV.ag (rmck_q1 m).dl.moves)) (rmck_q1 m).cut (eN.ag (rmck_q1 m).ents) (rmck_q1 m).yes (rmck_q1 m).why=Ms.mk m.kind m.ver m.p m.t (eR.ag m.recs) (eC.ag m.changes) (Dl.mk (eI.ag m.dl.drop) (eD.ag m.dl.put) (eV.ag m.dl.moves)) m.cut (eN.ag m.ents) m.yes m.why))))=true->(rtck_F m.t==(0:Int))=true->eR.okL m.recs)/\((!m.kind==(1:Int))=true->(m.kind==(2:Int))=true->(decide (m.kind>=(1:Int))&&(decide (m.kind<=(6:Int))&&(decide (m.ver>=(0:Int))&&decide (Ms.mk (rmck_q1 m).kind (rmck_q1 m).ver (rmck_q1 m).p (rmck_q1 m).t (eR.ag (rmck_q1 m).recs) (eC.ag (rmck_q1 m).changes) (Dl.mk (eI.ag (rmck_q1 m).dl.drop) (eD.ag (rmck_q1 m).dl.put) (eV.ag (rmck_q1 m).dl.moves)) (rmck_q1 m).cut (eN.ag (rmck_q1 m).ents) (rmck_q1 m).yes (rmck_q1 m).why=Ms.mk m.kind m.ver m.p m.t (eR.ag m.recs) (eC.ag m.changes) (Dl.mk (eI.ag m.dl.drop) (eD.ag m.dl.put) (eV.ag m.dl.moves)) m.cut (eN.ag m.ents) m.yes m.why))))=true->eC.okL m.changes)
theorem rmck_okS(pre:DA.T aM->List Prop)(h:∀g,DA.bd aM g->(∀p∈pre g,p)->rmck_side g):FnPure Tryd.prog 68 aM dI (λg=>rmck_F g) pre:=pure_of_sideS (Γ:=(PTab.gamz tabF8 [] [])) (Λ:=noΛ) (PTab.okz tabF8 [] []) noΛ_ok 100 default (λg=>rmck_side g) (λg=>by kernel_rfl) (λg=>by kernel_rfl) h
end Go.Proofs.YtfkdbifgppfegaaDoor

namespace Go.Proofs.YtfkdbifgppfegaaDoor
open Go.RowKit Go.Sx Go.Lp
set_option maxRecDepth 100000
theorem ms_eta(m:Ms):Ms.mk m.kind m.ver m.p m.t m.recs m.changes (Dl.mk m.dl.drop m.dl.put m.dl.moves) m.cut m.ents m.yes m.why=m:=rfl
theorem p1(A B L1 L2 V E:Bool)(hV:V=!B):(!(A&&(L1&&(L2&&!E)))||(B||!true))=!((true&&(true&&(V&&true)))&&(A&&(bif E then false else L1&&L2))):=by
 subst hV;cases A<;>cases B<;>cases L1<;>cases L2<;>cases E<;>rfl
theorem ver_not(v:Int):decide (v>=0)=!decide (v<0):=by
 rw[Bool.eq_iff_iff];simp
theorem rec_sh(xs:List Rec):(decide ((xs.length:Int)>=1)&&(decide ((xs.length:Int)<=64)&&!badR xs))=recsS xs:=by
 unfold recsS;cases badR xs<;>cases decide ((xs.length:Int)>=1)<;>cases decide ((xs.length:Int)<=64)<;>rfl
theorem chg_sh(xs:List Change):(decide ((xs.length:Int)>=1)&&(decide ((xs.length:Int)<=512)&&!badC xs))=chgS xs:=by
 unfold chgS;cases badC xs<;>cases decide ((xs.length:Int)>=1)<;>cases decide ((xs.length:Int)<=512)<;>rfl
theorem rmck_eq(m:Ms):rmck_F m=mck_F m:=by
 have hq:rmck_q1 m=rbr_F m:=by
  unfold rmck_q1;simp only[El.ag_eq,ms_eta]
 unfold rmck_F mck_F;rw[hq];unfold rbr_F;simp only[El.ag_eq,rec_sh,chg_sh,ver_not];have ht:∀t,rtck_F t=tck_F t:=λ_=>rfl;simp only[ht];obtain⟨kind,ver,p,t,recs,changes,⟨d1,d2,d3⟩,cut,ents,yes,why⟩:=m;simp only;generalize tck_F t=tc;generalize recsS recs=rs;generalize chgS changes=cs;by_cases h1:kind=1
 .subst h1
  have e:decide (Ms.mk 1 ver p t recs [] (Dl.mk [] [] []) 0 [] false 0=Ms.mk 1 ver p t recs changes (Dl.mk d1 d2 d3) cut ents yes why)=decide (Ms.mk 1 ver ⟨0,0⟩ ⟨0,0,0,0,0,0⟩ [] changes (Dl.mk d1 d2 d3) cut ents yes why=Ms.mk 1 ver ⟨0,0⟩ ⟨0,0,0,0,0,0⟩ [] [] (Dl.mk [] [] []) 0 [] false 0):=by
   clear hq;rw[decide_eq_decide];simp only[Ms.mk.injEq,Dl.mk.injEq,true_and,and_true]
   repeat' (first|exact eq_comm|exact Iff.rfl|apply and_congr)
  simp only[show((1:Int)==1)=true from rfl,show((1:Int)==2)=false from rfl,show((1:Int)==3)=false from rfl,show((1:Int)==4)=false from rfl,show((1:Int)==5)=false from rfl,show((1:Int)==6)=false from rfl,cond_true,cond_false];rw[e];clear e hq;generalize decide (Ms.mk 1 ver ⟨0,0⟩ ⟨0,0,0,0,0,0⟩ [] changes (Dl.mk d1 d2 d3) cut ents yes why=Ms.mk 1 ver ⟨0,0⟩ ⟨0,0,0,0,0,0⟩ [] [] (Dl.mk [] [] []) 0 [] false 0)=z;generalize (tc==(0:Int))=a0;cases z<;>cases a0<;>cases rs<;>cases decide (ver<0)<;>rfl
 by_cases h2:kind=2
 .subst h2
  have e:decide (Ms.mk 2 ver ⟨0,0⟩ ⟨0,0,0,0,0,0⟩ [] changes (Dl.mk [] [] []) 0 [] false 0=Ms.mk 2 ver p t recs changes (Dl.mk d1 d2 d3) cut ents yes why)=decide (Ms.mk 2 ver p t recs [] (Dl.mk d1 d2 d3) cut ents yes why=Ms.mk 2 ver ⟨0,0⟩ ⟨0,0,0,0,0,0⟩ [] [] (Dl.mk [] [] []) 0 [] false 0):=by
   clear hq;rw[decide_eq_decide];simp only[Ms.mk.injEq,Dl.mk.injEq,true_and,and_true]
   repeat' (first|exact eq_comm|exact Iff.rfl|apply and_congr)
  simp only[show((2:Int)==1)=false from rfl,show((2:Int)==2)=true from rfl,show((2:Int)==3)=false from rfl,show((2:Int)==4)=false from rfl,show((2:Int)==5)=false from rfl,show((2:Int)==6)=false from rfl,cond_true,cond_false];rw[e];clear e hq;generalize decide (Ms.mk 2 ver p t recs [] (Dl.mk d1 d2 d3) cut ents yes why=Ms.mk 2 ver ⟨0,0⟩ ⟨0,0,0,0,0,0⟩ [] [] (Dl.mk [] [] []) 0 [] false 0)=z;cases z<;>cases cs<;>cases decide (ver<0)<;>rfl
 by_cases h3:kind=3
 .subst h3
  have e:decide (Ms.mk 3 ver ⟨0,0⟩ ⟨0,0,0,0,0,0⟩ [] [] (Dl.mk d1 d2 d3) cut [] false 0=Ms.mk 3 ver p t recs changes (Dl.mk d1 d2 d3) cut ents yes why)=decide (Ms.mk 3 ver p t recs changes (Dl.mk [] [] []) 0 ents yes why=Ms.mk 3 ver ⟨0,0⟩ ⟨0,0,0,0,0,0⟩ [] [] (Dl.mk [] [] []) 0 [] false 0):=by
   clear hq;rw[decide_eq_decide];simp only[Ms.mk.injEq,Dl.mk.injEq,true_and,and_true]
   repeat' (first|exact eq_comm|exact Iff.rfl|apply and_congr)
  simp only[show((3:Int)==1)=false from rfl,show((3:Int)==2)=false from rfl,show((3:Int)==3)=true from rfl,show((3:Int)==4)=false from rfl,show((3:Int)==5)=false from rfl,show((3:Int)==6)=false from rfl,cond_true,cond_false];rw[e];clear e hq;generalize decide (Ms.mk 3 ver p t recs changes (Dl.mk [] [] []) 0 ents yes why=Ms.mk 3 ver ⟨0,0⟩ ⟨0,0,0,0,0,0⟩ [] [] (Dl.mk [] [] []) 0 [] false 0)=z;generalize (decide (cut<0))=a0;generalize (decide (cut<=1073741824))=a1;cases z<;>cases a0<;>cases a1<;>cases decide (ver<0)<;>rfl
 by_cases h4:kind=4
 .subst h4
  have e:decide (Ms.mk 4 ver ⟨0,0⟩ ⟨0,0,0,0,0,0⟩ [] [] (Dl.mk [] [] []) 0 [] false 0=Ms.mk 4 ver p t recs changes (Dl.mk d1 d2 d3) cut ents yes why)=decide (Ms.mk 4 ver p t recs changes (Dl.mk d1 d2 d3) cut ents yes why=Ms.mk 4 ver ⟨0,0⟩ ⟨0,0,0,0,0,0⟩ [] [] (Dl.mk [] [] []) 0 [] false 0):=by
   clear hq;rw[decide_eq_decide];simp only[Ms.mk.injEq,Dl.mk.injEq,true_and,and_true]
   repeat' (first|exact eq_comm|exact Iff.rfl|apply and_congr)
  simp only[show((4:Int)==1)=false from rfl,show((4:Int)==2)=false from rfl,show((4:Int)==3)=false from rfl,show((4:Int)==4)=true from rfl,show((4:Int)==5)=false from rfl,show((4:Int)==6)=false from rfl,cond_true,cond_false];rw[e];clear e hq;generalize decide (Ms.mk 4 ver p t recs changes (Dl.mk d1 d2 d3) cut ents yes why=Ms.mk 4 ver ⟨0,0⟩ ⟨0,0,0,0,0,0⟩ [] [] (Dl.mk [] [] []) 0 [] false 0)=z;cases z<;>cases decide (ver<0)<;>rfl
 by_cases h5:kind=5
 .subst h5
  have e:decide (Ms.mk 5 ver ⟨0,0⟩ ⟨0,0,0,0,0,0⟩ [] [] (Dl.mk [] [] []) 0 ents yes 0=Ms.mk 5 ver p t recs changes (Dl.mk d1 d2 d3) cut ents yes why)=decide (Ms.mk 5 ver p t recs changes (Dl.mk d1 d2 d3) cut [] false why=Ms.mk 5 ver ⟨0,0⟩ ⟨0,0,0,0,0,0⟩ [] [] (Dl.mk [] [] []) 0 [] false 0):=by
   clear hq;rw[decide_eq_decide];simp only[Ms.mk.injEq,Dl.mk.injEq,true_and,and_true]
   repeat' (first|exact eq_comm|exact Iff.rfl|apply and_congr)
  simp only[show((5:Int)==1)=false from rfl,show((5:Int)==2)=false from rfl,show((5:Int)==3)=false from rfl,show((5:Int)==4)=false from rfl,show((5:Int)==5)=true from rfl,show((5:Int)==6)=false from rfl,cond_true,cond_false];rw[e];clear e hq;generalize decide (Ms.mk 5 ver p t recs changes (Dl.mk d1 d2 d3) cut [] false why=Ms.mk 5 ver ⟨0,0⟩ ⟨0,0,0,0,0,0⟩ [] [] (Dl.mk [] [] []) 0 [] false 0)=z;generalize (decide ((ents.length:Int)<=1024))=a0;generalize ((ents.length:Int)==0)=a1;cases z<;>cases a0<;>cases a1<;>cases yes<;>cases decide (ver<0)<;>rfl
 by_cases h6:kind=6
 .subst h6
  have e:decide (Ms.mk 6 ver ⟨0,0⟩ ⟨0,0,0,0,0,0⟩ [] [] (Dl.mk [] [] []) 0 ents yes why=Ms.mk 6 ver p t recs changes (Dl.mk d1 d2 d3) cut ents yes why)=decide (Ms.mk 6 ver p t recs changes (Dl.mk d1 d2 d3) cut [] false 0=Ms.mk 6 ver ⟨0,0⟩ ⟨0,0,0,0,0,0⟩ [] [] (Dl.mk [] [] []) 0 [] false 0):=by
   clear hq;rw[decide_eq_decide];simp only[Ms.mk.injEq,Dl.mk.injEq,true_and,and_true]
   repeat' (first|exact eq_comm|exact Iff.rfl|apply and_congr)
  simp only[show((6:Int)==1)=false from rfl,show((6:Int)==2)=false from rfl,show((6:Int)==3)=false from rfl,show((6:Int)==4)=false from rfl,show((6:Int)==5)=false from rfl,show((6:Int)==6)=true from rfl,cond_true,cond_false];rw[e];clear e hq;generalize decide (Ms.mk 6 ver p t recs changes (Dl.mk d1 d2 d3) cut [] false 0=Ms.mk 6 ver ⟨0,0⟩ ⟨0,0,0,0,0,0⟩ [] [] (Dl.mk [] [] []) 0 [] false 0)=z;generalize (decide ((ents.length:Int)<=1024))=a0;generalize ((ents.length:Int)==0)=a1;generalize (why==(0:Int))=a3;cases z<;>cases a0<;>cases a1<;>cases yes<;>cases a3<;>cases decide (ver<0)<;>rfl
 have b1:(kind==(1:Int))=false:=by simpa using h1
 have b2:(kind==(2:Int))=false:=by simpa using h2
 have b3:(kind==(3:Int))=false:=by simpa using h3
 have b4:(kind==(4:Int))=false:=by simpa using h4
 have b5:(kind==(5:Int))=false:=by simpa using h5
 have b6:(kind==(6:Int))=false:=by simpa using h6
 simp only[b1,b2,b3,b4,b5,b6,cond_false,Bool.false_and,Bool.not_false,Bool.and_self,cond_true]
 have hr:(decide (kind>=1)&&(decide (kind<=6)&&(!decide (ver<0)&&decide (Ms.mk kind ver ⟨0,0⟩ ⟨0,0,0,0,0,0⟩ [] [] (Dl.mk [] [] []) 0 [] false 0=Ms.mk kind ver p t recs changes (Dl.mk d1 d2 d3) cut ents yes why))))=false:=by
  by_cases hk:1<=kind
  .rw[decide_eq_false (show¬kind<=6 by omega)];simp
  .rw[decide_eq_false (show¬kind>=1 by omega)];simp
 rw[hr];rfl
theorem mck_ok:FnPure Tryd.prog 80 aM dI mck_F (λ_=>[]):=mck_okS (λ_=>[]) λm _ _=>by
 show mck_side m;unfold mck_side;simp only[El.okL_eq,implies_true,and_self]
theorem rmck_ok:FnPure Tryd.prog 68 aM dI mck_F (λ_=>[]):=
 pure_congr (rmck_okS (λ_=>[]) λm _ _=>by
  show rmck_side m;unfold rmck_side;simp only[El.okL_eq,implies_true,and_self]) λm _ _=>rmck_eq m
end Go.Proofs.YtfkdbifgppfegaaDoor

namespace Go.Proofs.YtfkdbifgppfegaaDoor
open Go.RowKit Go.Sx
def usV:List (Nat×Nat×Nat):=[(110,4,2),(18,4,3),(48,1,3),(10,8,3),(10,13,3),(61,4,9),(61,11,9)]
noncomputable def tabV1:MTab Tryd.prog:=((tabJ0.cons 25 (pconR aLDI dLME (λg=>subS g.1 g.2.1 g.2.2) (λg=>[fewD g.2.1])) (conR_ok sub_ok)).consM 27 (fconG aL dLME drnS (λg=>[fewL g])) (fconG_ok drn_ok)).cons 80 (pconP aM dI mck_F (λ_=>[])) (conP_ok mck_ok puI)
noncomputable def lvT:Tr Bool:=dTree Tryd.prog (MTab.gamz tabV1 [(4000000,0)] usV) noΛ 100 8 [] dBool
end Go.Proofs.YtfkdbifgppfegaaDoor

namespace Go.Proofs.YtfkdbifgppfegaaDoor
open Go.RowKit Go.Sx Go.Lp
set_option maxRecDepth 100000
abbrev lv0:Prop:=fewD (Dl.mk [] [] [])
theorem lv0p:lv0:=by first|trivial|exact⟨by decide,by decide⟩|omega|(intros;trivial)|(intros;rfl)|(refine⟨trivial,?_,?_,?_⟩<;>first|trivial|omega|(intros;rfl))|(simp;done)|decide
abbrev lv1:Prop:=∀(e:Nat),e<(0:Nat)->eI.Ok (eI.els [] e)
theorem lv1p:lv1:=λ_ _=>El.ok_els _ _ _
abbrev lv2:Prop:=∀(e:Nat),e<(0:Nat)->eD.Ok (eD.els (subS (Ld.mk (1:Int) (0:Int) (0:Int) (0:Int) (Dl.mk [] [] []) [] false (0:Int) []) (Dl.mk [] [] []) (3:Int)).fst.dl.put e)
theorem lv2p:lv2:=λ_ _=>El.ok_els _ _ _
abbrev lv3:Prop:=∀(e:Nat),e<(0:Nat)->eV.Ok (eV.els (subS (Ld.mk (1:Int) (0:Int) (0:Int) (0:Int) (Dl.mk [] [] []) [] false (0:Int) []) (Dl.mk [] [] []) (3:Int)).fst.dl.moves e)
theorem lv3p:lv3:=λ_ _=>El.ok_els _ _ _
abbrev lv4:Prop:=∀(e:Nat),e<(1:Nat)->eBool.Ok (eBool.els [false] e)
theorem lv4p:lv4:=λ_ _=>El.ok_els _ _ _
abbrev lv5:Prop:=∀(e:Nat),e<(0:Nat)->eN.Ok (eN.els (subS (Ld.mk (1:Int) (0:Int) (0:Int) (0:Int) (Dl.mk [] [] []) [] false (0:Int) []) (Dl.mk [] [] []) (3:Int)).fst.ents e)
theorem lv5p:lv5:=λ_ _=>El.ok_els _ _ _
abbrev lv6:Prop:=(0:Int)<=(0:Int)/\(0:Int)<(1:Int)
theorem lv6p:lv6:=by decide
abbrev lv7:Prop:=fewM (Ms.mk (0:Int) (0:Int) (Place.mk (0:Int) (0:Int)) (T.mk (0:Int) (0:Int) (0:Int) (0:Int) (0:Int) (0:Int)) [] [] (Dl.mk [] [] []) (0:Int) [] false (0:Int))
theorem lv7p:lv7:=by first|trivial|exact⟨by decide,by decide⟩|omega|(intros;trivial)|(intros;rfl)|(refine⟨trivial,?_,?_,?_⟩<;>first|trivial|omega|(intros;rfl))|(simp;done)|decide
abbrev lv8:Prop:=(1:Nat)<=(1000000:Nat)
theorem lv8p:lv8:=by decide
abbrev lv9:Prop:=(0:Nat)<=(1000000:Nat)
theorem lv9p:lv9:=by decide
abbrev lv10:Prop:=(0:Nat)<(1:Nat)
theorem lv10p:lv10:=by decide
abbrev lv11:Prop:=(0:Nat)<=(0:Nat)/\True/\(0:Nat)<=(9223372036854775807:Nat)/\(0:Nat)<=(140737488355328:Nat)
theorem lv11p:lv11:=by first|trivial|exact⟨by decide,by decide⟩|omega|(intros;trivial)|(intros;rfl)|(refine⟨trivial,?_,?_,?_⟩<;>first|trivial|omega|(intros;rfl))|(simp;done)|decide
abbrev lv12:Prop:=(1:Nat)<=(1:Nat)
theorem lv12p:lv12:=by decide
abbrev lv13:Prop:=(0:Nat)<=(0:Nat)
theorem lv13p:lv13:=by decide
abbrev lv14:Prop:=∀(e:Nat),e<(0:Nat)->eD.Ok (eD.els [] e)
theorem lv14p:lv14:=λ_ _=>El.ok_els _ _ _
abbrev lv15:Prop:=∀(e:Nat),e<(0:Nat)->eV.Ok (eV.els [] e)
theorem lv15p:lv15:=λ_ _=>El.ok_els _ _ _
abbrev lv16:Prop:=∀(e:Nat),e<(1:Nat)->eBool.Ok ((ElE.set (0:Nat) [SV.k (Value.bool true)] (ElE.fn (eBool.els [false]))).at e)
theorem lv16p:lv16:=λe he=>by obtain rfl:e=0:=(by omega);exact El.okP (A:=eBool) trivial
abbrev lv17:Prop:=∀(e:Nat),e<(0:Nat)->eN.Ok ((ElE.app (0:Nat) (ElE.fn (eN.els [])) (ElE.fn λx=>[])).at e)
theorem lv17p:lv17:=by first|trivial|exact⟨by decide,by decide⟩|omega|(intros;trivial)|(intros;rfl)|(refine⟨trivial,?_,?_,?_⟩<;>first|trivial|omega|(intros;rfl))|(simp;done)|decide
abbrev lv18:Prop:=fewL (Ld.mk (1:Int) (2:Int) (0:Int) (3:Int) (Dl.mk [] [] []) [] true (0:Int) [])
theorem lv18p:lv18:=by first|trivial|exact⟨by decide,by decide⟩|omega|(intros;trivial)|(intros;rfl)|(refine⟨trivial,?_,?_,?_⟩<;>first|trivial|omega|(intros;rfl))|(simp;done)|decide
abbrev lv19:Prop:=∀(e:Nat),e<(0:Nat)->eD.Ok (eD.els (drnS (Ld.mk (1:Int) (2:Int) (0:Int) (3:Int) (Dl.mk [] [] []) [] true (0:Int) [])).fst.dl.put e)
theorem lv19p:lv19:=λ_ _=>El.ok_els _ _ _
abbrev lv20:Prop:=∀(e:Nat),e<(0:Nat)->eV.Ok (eV.els (drnS (Ld.mk (1:Int) (2:Int) (0:Int) (3:Int) (Dl.mk [] [] []) [] true (0:Int) [])).fst.dl.moves e)
theorem lv20p:lv20:=λ_ _=>El.ok_els _ _ _
abbrev lv21:Prop:=∀(e:Nat),e<(0:Nat)->eN.Ok (eN.els (drnS (Ld.mk (1:Int) (2:Int) (0:Int) (3:Int) (Dl.mk [] [] []) [] true (0:Int) [])).fst.ents e)
theorem lv21p:lv21:=λ_ _=>El.ok_els _ _ _
abbrev lv22:Prop:=∀(e:Nat),e<(1:Nat)->eN.Ok (List.take (4:Nat) (List.drop ((0:Nat)+e*(4:Nat)) [SV.k (Value.int IntKind.i64 (2:Int)),SV.k (Value.int IntKind.i64 (7:Int)),SV.k (Value.string (ByteArray.mk #[])),SV.k (Value.int IntKind.i64 (1:Int))]))
theorem lv22p:lv22:=λe he=>by obtain rfl:e=0:=(by omega);exact El.okP (A:=eN) trivial
abbrev lv23:Prop:=(0:Nat)<=(0:Nat)/\True/\(1:Nat)<=(9223372036854775807:Nat)/\(40:Nat)<=(140737488355328:Nat)
theorem lv23p:lv23:=by first|trivial|exact⟨by decide,by decide⟩|omega|(intros;trivial)|(intros;rfl)|(refine⟨trivial,?_,?_,?_⟩<;>first|trivial|omega|(intros;rfl))|(simp;done)|decide
abbrev lv24:Prop:=∀(e:Nat),e<(1:Nat)->eN.Ok ((ElE.app (0:Nat) (ElE.fn (eN.els [])) (ElE.fn λx=>[SV.k (Value.int IntKind.i64 (2:Int)),SV.k (Value.int IntKind.i64 (7:Int)),SV.k (Value.string (ByteArray.mk #[])),SV.k (Value.int IntKind.i64 (1:Int))])).at e)
theorem lv24p:lv24:=λe he=>by obtain rfl:e=0:=(by omega);exact El.okP (A:=eN) trivial
abbrev lv25:Prop:=(0:Int)<=(1:Int)/\(1:Int)<=(1:Int)/\(1:Int)<=(9223372036854775807:Int)/\(248:Int)<=(140737488355328:Int)
theorem lv25p:lv25:=by decide
abbrev lv26:Prop:=(1:Int)≠(0:Int)
theorem lv26p:lv26:=by first|trivial|exact⟨by decide,by decide⟩|omega|(intros;trivial)|(intros;rfl)|(refine⟨trivial,?_,?_,?_⟩<;>first|trivial|omega|(intros;rfl))|(simp;done)|decide
abbrev lv27:Prop:=True/\True/\(1:Nat)<=(9223372036854775807:Nat)/\(40:Nat)<=(140737488355328:Nat)
theorem lv27p:lv27:=⟨trivial,trivial,by decide,by decide⟩
abbrev lv28:Prop:=true=true->true=true->true=true->true=true->(0:Int)<=(0:Int)/\(0:Int)<(1:Int)
theorem lv28p:lv28:=by first|trivial|exact⟨by decide,by decide⟩|omega|(intros;trivial)|(intros;rfl)|(refine⟨trivial,?_,?_,?_⟩<;>first|trivial|omega|(intros;rfl))|(simp;done)|decide
abbrev lv29:Prop:=true=true->true=true->true=true->true=true->(0:Nat)<(1:Nat)
theorem lv29p:lv29:=by first|trivial|exact⟨by decide,by decide⟩|omega|(intros;trivial)|(intros;rfl)|(refine⟨trivial,?_,?_,?_⟩<;>first|trivial|omega|(intros;rfl))|(simp;done)|decide
abbrev lv30:Prop:=true=true->true=true->true=true->true=true->true=true->(0:Int)<=(0:Int)/\(0:Int)<(1:Int)
theorem lv30p:lv30:=by first|trivial|exact⟨by decide,by decide⟩|omega|(intros;trivial)|(intros;rfl)|(refine⟨trivial,?_,?_,?_⟩<;>first|trivial|omega|(intros;rfl))|(simp;done)|decide
abbrev lv31:Prop:=true=true->true=true->true=true->true=true->true=true->(0:Nat)<(1:Nat)
theorem lv31p:lv31:=by first|trivial|exact⟨by decide,by decide⟩|omega|(intros;trivial)|(intros;rfl)|(refine⟨trivial,?_,?_,?_⟩<;>first|trivial|omega|(intros;rfl))|(simp;done)|decide
def lv_h_S:Prop:=lv0/\lv1/\lv2/\lv3/\lv4/\lv5/\lv6/\lv1/\lv2/\lv3/\lv7/\(lv4/\lv8/\lv5/\lv9/\lv6/\lv10/\lv11/\lv12/\lv13/\lv1/\lv14/\lv15/\lv16/\lv17/\lv13/\lv1/\lv14/\lv15/\lv17/\lv18/\lv1/\lv19/\lv20/\lv4/\lv21/\lv22/\lv6/\lv1/\lv19/\lv20/\lv7/\(lv4/\lv8/\lv21/\lv9/\lv6/\lv10/\lv23/\lv12/\lv12/\lv1/\lv14/\lv15/\lv16/\lv24/\lv12/\lv1/\lv14/\lv15/\lv24/\lv25/\lv6/\lv10/\lv6/\lv10/\lv26/\((lv6/\lv10/\lv27/\lv6/\lv10/\lv28/\lv29/\lv30/\lv31/\true=true)/\∀(_:Nat)(_:List Nat),lv6/\lv10/\lv27/\lv6/\lv10/\lv28/\lv29/\lv30/\lv31/\true=true)/\∀(_:Nat)(_:List Nat),lv6/\lv10/\lv27/\lv6/\lv10/\lv28/\lv29/\lv30/\lv31/\true=true)/\∀(_:Nat)(_:List Nat),lv4/\lv8/\lv21/\lv9/\lv6/\lv10/\lv23/\lv12/\lv12/\lv1/\lv14/\lv15/\lv16/\lv24/\lv12/\lv1/\lv14/\lv15/\lv24/\lv25/\lv6/\lv10/\lv6/\lv10/\lv26/\((lv6/\lv10/\lv27/\lv6/\lv10/\lv28/\lv29/\lv30/\lv31/\true=true)/\∀(_:Nat)(_:List Nat),lv6/\lv10/\lv27/\lv6/\lv10/\lv28/\lv29/\lv30/\lv31/\true=true)/\∀(_:Nat)(_:List Nat),lv6/\lv10/\lv27/\lv6/\lv10/\lv28/\lv29/\lv30/\lv31/\true=true)/\∀(_:Nat)(_:List Nat),lv4/\lv8/\lv5/\lv9/\lv6/\lv10/\lv11/\lv12/\lv13/\lv1/\lv14/\lv15/\lv16/\lv17/\lv13/\lv1/\lv14/\lv15/\lv17/\lv18/\lv1/\lv19/\lv20/\lv4/\lv21/\lv22/\lv6/\lv1/\lv19/\lv20/\lv7/\(lv4/\lv8/\lv21/\lv9/\lv6/\lv10/\lv23/\lv12/\lv12/\lv1/\lv14/\lv15/\lv16/\lv24/\lv12/\lv1/\lv14/\lv15/\lv24/\lv25/\lv6/\lv10/\lv6/\lv10/\lv26/\((lv6/\lv10/\lv27/\lv6/\lv10/\lv28/\lv29/\lv30/\lv31/\true=true)/\∀(_:Nat)(_:List Nat),lv6/\lv10/\lv27/\lv6/\lv10/\lv28/\lv29/\lv30/\lv31/\true=true)/\∀(_:Nat)(_:List Nat),lv6/\lv10/\lv27/\lv6/\lv10/\lv28/\lv29/\lv30/\lv31/\true=true)/\∀(_:Nat)(_:List Nat),lv4/\lv8/\lv21/\lv9/\lv6/\lv10/\lv23/\lv12/\lv12/\lv1/\lv14/\lv15/\lv16/\lv24/\lv12/\lv1/\lv14/\lv15/\lv24/\lv25/\lv6/\lv10/\lv6/\lv10/\lv26/\((lv6/\lv10/\lv27/\lv6/\lv10/\lv28/\lv29/\lv30/\lv31/\true=true)/\∀(_:Nat)(_:List Nat),lv6/\lv10/\lv27/\lv6/\lv10/\lv28/\lv29/\lv30/\lv31/\true=true)/\∀(_:Nat)(_:List Nat),lv6/\lv10/\lv27/\lv6/\lv10/\lv28/\lv29/\lv30/\lv31/\true=true
theorem lv_h_Sp:lv_h_S:=⟨lv0p,lv1p,lv2p,lv3p,lv4p,lv5p,lv6p,lv1p,lv2p,lv3p,lv7p,⟨lv4p,lv8p,lv5p,lv9p,lv6p,lv10p,lv11p,lv12p,lv13p,lv1p,lv14p,lv15p,lv16p,lv17p,lv13p,lv1p,lv14p,lv15p,lv17p,lv18p,lv1p,lv19p,lv20p,lv4p,lv21p,lv22p,lv6p,lv1p,lv19p,lv20p,lv7p,⟨lv4p,lv8p,lv21p,lv9p,lv6p,lv10p,lv23p,lv12p,lv12p,lv1p,lv14p,lv15p,lv16p,lv24p,lv12p,lv1p,lv14p,lv15p,lv24p,lv25p,lv6p,lv10p,lv6p,lv10p,lv26p,⟨⟨lv6p,lv10p,lv27p,lv6p,lv10p,lv28p,lv29p,lv30p,lv31p,rfl⟩,λ_ _=>⟨lv6p,lv10p,lv27p,lv6p,lv10p,lv28p,lv29p,lv30p,lv31p,rfl⟩⟩,λ_ _=>⟨lv6p,lv10p,lv27p,lv6p,lv10p,lv28p,lv29p,lv30p,lv31p,rfl⟩⟩,λ_ _=>⟨lv4p,lv8p,lv21p,lv9p,lv6p,lv10p,lv23p,lv12p,lv12p,lv1p,lv14p,lv15p,lv16p,lv24p,lv12p,lv1p,lv14p,lv15p,lv24p,lv25p,lv6p,lv10p,lv6p,lv10p,lv26p,⟨⟨lv6p,lv10p,lv27p,lv6p,lv10p,lv28p,lv29p,lv30p,lv31p,rfl⟩,λ_ _=>⟨lv6p,lv10p,lv27p,lv6p,lv10p,lv28p,lv29p,lv30p,lv31p,rfl⟩⟩,λ_ _=>⟨lv6p,lv10p,lv27p,lv6p,lv10p,lv28p,lv29p,lv30p,lv31p,rfl⟩⟩⟩,λ_ _=>⟨lv4p,lv8p,lv5p,lv9p,lv6p,lv10p,lv11p,lv12p,lv13p,lv1p,lv14p,lv15p,lv16p,lv17p,lv13p,lv1p,lv14p,lv15p,lv17p,lv18p,lv1p,lv19p,lv20p,lv4p,lv21p,lv22p,lv6p,lv1p,lv19p,lv20p,lv7p,⟨lv4p,lv8p,lv21p,lv9p,lv6p,lv10p,lv23p,lv12p,lv12p,lv1p,lv14p,lv15p,lv16p,lv24p,lv12p,lv1p,lv14p,lv15p,lv24p,lv25p,lv6p,lv10p,lv6p,lv10p,lv26p,⟨⟨lv6p,lv10p,lv27p,lv6p,lv10p,lv28p,lv29p,lv30p,lv31p,rfl⟩,λ_ _=>⟨lv6p,lv10p,lv27p,lv6p,lv10p,lv28p,lv29p,lv30p,lv31p,rfl⟩⟩,λ_ _=>⟨lv6p,lv10p,lv27p,lv6p,lv10p,lv28p,lv29p,lv30p,lv31p,rfl⟩⟩,λ_ _=>⟨lv4p,lv8p,lv21p,lv9p,lv6p,lv10p,lv23p,lv12p,lv12p,lv1p,lv14p,lv15p,lv16p,lv24p,lv12p,lv1p,lv14p,lv15p,lv24p,lv25p,lv6p,lv10p,lv6p,lv10p,lv26p,⟨⟨lv6p,lv10p,lv27p,lv6p,lv10p,lv28p,lv29p,lv30p,lv31p,rfl⟩,λ_ _=>⟨lv6p,lv10p,lv27p,lv6p,lv10p,lv28p,lv29p,lv30p,lv31p,rfl⟩⟩,λ_ _=>⟨lv6p,lv10p,lv27p,lv6p,lv10p,lv28p,lv29p,lv30p,lv31p,rfl⟩⟩⟩⟩
theorem lv_h_e:(lvT).hn true=lv_h_S:=by kernel_rfl
theorem lv_h:(lvT).Holds (·=true):=Tr.hn_holds (Eq.mpr lv_h_e lv_h_Sp)
theorem lv_ok:FnPure Tryd.prog 8 .none dBool (λ_=>true) (λ_=>[]):=pure_of_tree (MTab.okz tabV1 [(4000000,0)] usV) noΛ_ok 100 λg _ hp=>by
 have h:lvT.Holds (·=true):=lv_h;exact h
end Go.Proofs.YtfkdbifgppfegaaDoor

namespace Go.Proofs.YtfkdbifgppfegaaDoor
open Go.RowKit Go.Sx Go.Lp
end Go.Proofs.YtfkdbifgppfegaaDoor

namespace Go.Proofs.YtfkdbifgppfegaaDoor
open Go.RowKit Go.Sx
set_option maxRecDepth 100000
end Go.Proofs.YtfkdbifgppfegaaDoor

namespace Go.Proofs.YtfkdbifgppfegaaDoor
open Go.RowKit Go.Sx Go.Lp
set_option maxRecDepth 100000
end Go.Proofs.YtfkdbifgppfegaaDoor

namespace Go.Proofs.YtfkdbifgppfegaaDoor
open Go.RowKit Go.Sx
set_option maxRecDepth 100000
end Go.Proofs.YtfkdbifgppfegaaDoor

namespace Go.Proofs.YtfkdbifgppfegaaDoor
open Go.RowKit Go.Sx Go.Lp
set_option maxRecDepth 100000
end Go.Proofs.YtfkdbifgppfegaaDoor

namespace Go.Proofs.YtfkdbifgppfegaaDoor
open Go.ChangeShapes Go.WideShapes Go.ChangeAt Go.RowKit Go.Sx Go.Shelf
theorem cell_block{W:World}{b i:Nat}{v:Value}(h:W.cell? ⟨b,i,none⟩=some v):∃cs t fz,W.heap[b]?=some (.cells cs t fz)/\cs[i]?=some v:=by
 unfold World.cell? at h;simp only[Option.isSome_none,Bool.false_eq_true,if_false,id_eq]at h;cases hb:W.heap[b]? with
 |none=>rw[hb]at h;cases h
 |some o=>
  rw[hb]at h;cases o with
  |cells cs t fz=>exact⟨cs,t,fz,rfl,h⟩
  |_=>cases h
abbrev laidL:List (String×DataW Unit):=[("unicode/utf8.acceptRanges",Rows.laid_unicode_utf8_acceptRanges),("unicode/utf8.first",Rows.laid_unicode_utf8_first)]
theorem laidFirst:Rows.laid_unicode_utf8_first=Lib.firstData:=by kernel_rfl
theorem laidAccept:Rows.laid_unicode_utf8_acceptRanges=Lib.acceptData:=by kernel_rfl
set_option maxRecDepth 100000 in
theorem rowEnv{W:World}(h:laidMetH Tryd.prog laidL W)(hs:W.ShapedOpen Tryd.prog):EnvF (λb=>W.heap[b]?):=by
 rw[MakeChecks.laidMetH_plain _ _ _ (by kernel_rfl)]at h;have hT:Lib.Utf8Tabs 0 1 W:=utf8Tabs_of_readsT (U8Types.of196 lvVal) ⟨by kernel_rfl,by kernel_rfl,by kernel_rfl,by kernel_rfl,by kernel_rfl,by kernel_rfl,by kernel_rfl⟩ (by rw[<-laidFirst];exact Lib.laidMet.reads h (.tail _ (.head _))) (by rw[<-laidAccept];exact Lib.laidMet.reads h (.head _));refine⟨?_,?_⟩
 .obtain⟨cs,t,fz,h1,_⟩:=cell_block (hT.1 0 (by decide));refine⟨cs,t,fz,h1,λc hc=>?_⟩;obtain⟨cs',t',fz',k1,k2⟩:=cell_block (hT.1 c hc);rw[h1]at k1;cases k1;exact k2
 .obtain⟨cs,t,fz,h1,_⟩:=cell_block (hT.2 0 (by decide)).1;refine⟨cs,t,fz,h1,λi hi=>⟨?_,?_⟩⟩
  .obtain⟨cs',t',fz',k1,k2⟩:=cell_block (hT.2 i hi).1;rw[h1]at k1;cases k1;exact k2
  .obtain⟨cs',t',fz',k1,k2⟩:=cell_block (hT.2 i hi).2;rw[h1]at k1;cases k1;exact k2
theorem rowLaid{H:Type}{enc:TypeId×Value->H}{a:Assume}{C:Checked}{os:Os}{f:FuncId}{fn:Func}{s:ChangeSpec}{conds:List PathCond}{apart fresh handsOn again:Bool}{laid:List (String×DataW Unit)}
  (own:ownKnob C.prog.godebug=none) (started:os.Started) (noInit:C.prog.inits.idxOf? f=none) (hfn:C.prog.funcs[f]?=some fn)
  (witness:∃(w:World)(tape:Tape)(i:Input),w.os=os/\(w.forCall tape i).Shaped C.prog/\i.vars=[]/\Input.okWide C.prog (w.forCall tape i) .any w.heap.size f i/\
   ((s.pre enc C.prog fn conds apart (w.forCall tape i).memory i.args/\laidMetH C.prog laid (w.forCall tape i).memory)/\sizedMet enc C.prog fn (OpenSpec.ofChange s) apart (w.forCall tape i).memory i.args)/\a.holds C.prog (lone (Frame.enter C.prog f i.args .normal) [] (w.forCall tape i)))
  (contract:∀(W:World)(base:Nat)(args:Array Value)(ds gs:List (DataW H))(before:List MemPlace),
   (∀(j:Nat)t v,fn.params[j]?=some t->args[j]?=some v->Value.okWide C.prog W .any base t v)->
   DataW.Whole enc C.prog fn.params.toList s.vars apart W args.toList ds gs before->
   conds.all (PathCond.test C.prog ⟨fn.params.toList,ds,s.plain.varTypes C.prog,gs⟩)=true->
   laidMetH C.prog laid W->W.ShapedOpen C.prog->
   Calls C.prog f args W λe W'=>∃v,e=.returned v/\s.post enc C.prog fn apart fresh handsOn again W args v W') :
  ReturnsInHanded a C os f .any (λw args=>(s.pre enc C.prog fn conds apart w args/\laidMetH C.prog laid w)/\sizedMet enc C.prog fn (OpenSpec.ofChange s) apart w args) (s.post enc C.prog fn apart fresh handsOn again):=by
 refine returnsInHanded_of_calls own started noInit witness ?_;intro w tape i _ hsh _ hok hpre hholds;obtain⟨_,_,_,fn',hfn',_,_,_,_,hval⟩:=hok;have e:fn'=fn:=Option.some.inj (hfn'.symm.trans hfn);subst e;obtain⟨⟨⟨ds,gs,before,hw,hc⟩,hl⟩,hz⟩:=hpre;have hw':=DataW.Whole.of_heap (w':=w.forCall tape i) (by rfl) hw;refine(contract (w.forCall tape i) w.heap.size i.args ds gs before hval hw' hc (hl.of_heap (by rfl)) hsh).mono λe W'⟨v,he,hp⟩=>?_;subst he;exact ChangeSpec.post_blind hp
end Go.Proofs.YtfkdbifgppfegaaDoor

namespace Go.Proofs.YtfkdbifgppfegaaDoor
open Go.RowKit Go.Sx Go.ChangeShapes
def W1(n:Int):Prop:=(Lit.int .i64 n).wf=true
def WS(s:BA):Prop:=s.size<=maxLen
def WIIB(a:IIB):Prop:=W1 a.1/\W1 a.2.1/\WS a.2.2
def Fn.W(s:Fn):Prop:=WIIB s.toP
def WIIBI(a:IIBI):Prop:=W1 a.1/\W1 a.2.1/\WS a.2.2.1/\W1 a.2.2.2
def Ent.W(s:Ent):Prop:=WIIBI s.toP
def WLI(l:List Int):Prop:=∀n∈l,W1 n
def WNd(a:NdP):Prop:=W1 a.1/\W1 a.2.1/\WLI a.2.2.1/\Fn.W a.2.2.2.1/\WS a.2.2.2.2.1/\W1 a.2.2.2.2.2.1/\W1 a.2.2.2.2.2.2
def Nd.W(s:Nd):Prop:=WNd s.toP
def WMv(a:MvP):Prop:=W1 a.1/\W1 a.2.1/\W1 a.2.2.1/\W1 a.2.2.2.1/\Fn.W a.2.2.2.2
def Mv.W(s:Mv):Prop:=WMv s.toP
def WLD(l:List Nd):Prop:=∀n∈l,Nd.W n
def WLV(l:List Mv):Prop:=∀n∈l,Mv.W n
def WLN(l:List Ent):Prop:=∀n∈l,Ent.W n
def WDl(a:DlP):Prop:=WLI a.1/\WLD a.2.1/\WLV a.2.2
def Dl.W(s:Dl):Prop:=WDl s.toP
def WB(_:Bool):Prop:=True
def WLB(l:List Bool):Prop:=∀n∈l,WB n
def WLd(a:LdP):Prop:=W1 a.1/\W1 a.2.1/\W1 a.2.2.1/\W1 a.2.2.2.1/\Dl.W a.2.2.2.2.1/\WLB a.2.2.2.2.2.1/\WB a.2.2.2.2.2.2.1/\W1 a.2.2.2.2.2.2.2.1/\WLN a.2.2.2.2.2.2.2.2
def Ld.W(s:Ld):Prop:=WLd s.toP
theorem rd_str{P:Program}{t:TypeId}(ht:P.underlying t=some .string):Rd P t eStr WS:=λH enc w base spare held fuel cs x hx=>by
 obtain⟨s,rfl,_,hw⟩:=DataW.trod_string ht hx;exact⟨s,hw,by simp[eStr,El.one',dStr,SV.fits,SV.fit]⟩
theorem rd2:Rd Tryd.prog 2 eI W1:=rd_int Tryd.underlying2
theorem rd3:Rd Tryd.prog 3 eI W1:=rd_int Tryd.underlying3
theorem rdSt:Rd Tryd.prog 9 eStr WS:=rd_str Tryd.underlying9
theorem rdEn:Rd Tryd.prog 73 eN Ent.W:=rd_iso (Q:=WIIBI) (rd_struct (ts:=[3,2,9,2]) Tryd.underlying73 rfl (by kernel_rfl) (rds_cons rd3 (rds_cons rd2 (rds_cons rdSt (rds_one rd2))))) _ _ _ _
theorem rdLN:Rd Tryd.prog 29 eLN WLN:=rd_slice Tryd.underlying29 (by kernel_rfl) (by decide) rdEn
theorem Tryd.own:ownKnob Tryd.prog.godebug=none:=by kernel_rfl
theorem Tryd.laidOut:laidOutB Tryd.prog=true:=by kernel_rfl
end Go.Proofs.YtfkdbifgppfegaaDoor

namespace Go.Proofs.YtfkdbifgppfegaaDoor
open Go.RowKit Go.Sx
set_option maxRecDepth 100000
end Go.Proofs.YtfkdbifgppfegaaDoor

namespace Go.Proofs.YtfkdbifgppfegaaDoor
open Go.RowKit Go.Sx Go.Lp
set_option maxRecDepth 100000
end Go.Proofs.YtfkdbifgppfegaaDoor

namespace Go.Proofs.YtfkdbifgppfegaaDoor
open Go.RowKit Go.Sx
set_option maxRecDepth 100000
end Go.Proofs.YtfkdbifgppfegaaDoor

namespace Go.Proofs.YtfkdbifgppfegaaDoor
open Go.RowKit Go.Sx Go.Lp
set_option maxRecDepth 100000
structure Sd where
 l:Ld
 ms:List Ms
 e:Int
deriving DecidableEq,Inhabited
abbrev SdP:=Ld×List Ms×Int
def Sd.ofP:SdP->Sd:=λ(a,b,c)=>⟨a,b,c⟩
def Sd.toP(x:Sd):SdP:=(x.l,x.ms,x.e)
end Go.Proofs.YtfkdbifgppfegaaDoor
