/- Chapter 5: records as texts: loops. Printed by treegen.py. -/
import Derived.Test.YtmegbepjdololaaDoorZG08acb6d4
import Derived.Test.YtmegbepjdololaaDoorZG0678006a
import Derived.Test.YtmegbepjdololaaDoorZG0908bae7
set_option linter.unusedVariables false
set_option linter.unusedSimpArgs false
set_option linter.constructorNameAsVariable false
set_option linter.all false

namespace Go.Proofs.YtmegbepjdololaaDoor
open Go.RowKit Go.Sx
set_option maxRecDepth 100000
set_option linter.unusedVariables false
abbrev tx_G:Type:=Unit×Rec×Int×Int×List Int
noncomputable def tx_LP:LP 2 tx_G:=.pair (.fix 2 1 (.p 0 0)) (.pair (.obj 2 0 46 eR) (.pair (.slot 2 16 dI) (.pair (.slot 2 17 dI) (.row 2 3 5 e8u))))
noncomputable def tx_R (_u:Unit) (r:Rec) (n:Int) (i:Int) (b:List Int):Ex×tx_G:=
 bif decide (i<n) then (Ex.normal,(),r,n,IntKind.i64.wrap (i+(1:Int)),bif decide ((↑(ByteArray.get! r.text i.toNat).toNat:Int) > (32:Int))&&(decide ((↑(ByteArray.get! r.text i.toNat).toNat:Int)<(127:Int))&&(↑(ByteArray.get! r.text i.toNat).toNat:Int) != (37:Int)) then e8u.lst (min (bif decide ((↑(ByteArray.get! r.text i.toNat).toNat:Int) > (32:Int))&&(decide ((↑(ByteArray.get! r.text i.toNat).toNat:Int)<(127:Int))&&(↑(ByteArray.get! r.text i.toNat).toNat:Int) != (37:Int)) then b.length+(1:Nat) else b.length+(3:Nat)) b.length) (e8u.els b)++List.map (fun x=>(↑(ByteArray.get! r.text i.toNat).toNat:Int)) (List.range ((bif decide ((↑(ByteArray.get! r.text i.toNat).toNat:Int) > (32:Int))&&(decide ((↑(ByteArray.get! r.text i.toNat).toNat:Int)<(127:Int))&&(↑(ByteArray.get! r.text i.toNat).toNat:Int) != (37:Int)) then b.length+(1:Nat) else b.length+(3:Nat)) - b.length)) else e8u.lst (min (bif decide ((↑(ByteArray.get! r.text i.toNat).toNat:Int) > (32:Int))&&(decide ((↑(ByteArray.get! r.text i.toNat).toNat:Int)<(127:Int))&&(↑(ByteArray.get! r.text i.toNat).toNat:Int) != (37:Int)) then b.length+(1:Nat) else b.length+(3:Nat)) b.length) (e8u.els b)++(List.map (fun x=>(37:Int)) (List.range (min ((bif decide ((↑(ByteArray.get! r.text i.toNat).toNat:Int) > (32:Int))&&(decide ((↑(ByteArray.get! r.text i.toNat).toNat:Int)<(127:Int))&&(↑(ByteArray.get! r.text i.toNat).toNat:Int) != (37:Int)) then b.length+(1:Nat) else b.length+(3:Nat)) - b.length) (1:Nat)))++(List.map (fun x=>(↑((ByteArray.mk #[(48:UInt8),(49:UInt8),(50:UInt8),(51:UInt8),(52:UInt8),(53:UInt8),(54:UInt8),(55:UInt8),(56:UInt8),(57:UInt8),(97:UInt8),(98:UInt8),(99:UInt8),(100:UInt8),(101:UInt8),(102:UInt8)]).get! (iShr IntKind.u8 (↑(ByteArray.get! r.text i.toNat).toNat:Int) (4:Int)).toNat).toNat:Int)) (List.range (min ((bif decide ((↑(ByteArray.get! r.text i.toNat).toNat:Int) > (32:Int))&&(decide ((↑(ByteArray.get! r.text i.toNat).toNat:Int)<(127:Int))&&(↑(ByteArray.get! r.text i.toNat).toNat:Int) != (37:Int)) then b.length+(1:Nat) else b.length+(3:Nat)) - b.length - (1:Nat)) (1:Nat)))++List.map (fun x=>(↑((ByteArray.mk #[(48:UInt8),(49:UInt8),(50:UInt8),(51:UInt8),(52:UInt8),(53:UInt8),(54:UInt8),(55:UInt8),(56:UInt8),(57:UInt8),(97:UInt8),(98:UInt8),(99:UInt8),(100:UInt8),(101:UInt8),(102:UInt8)]).get! (iAnd IntKind.u8 (↑(ByteArray.get! r.text i.toNat).toNat:Int) (15:Int)).toNat).toNat:Int)) (List.range ((bif decide ((↑(ByteArray.get! r.text i.toNat).toNat:Int) > (32:Int))&&(decide ((↑(ByteArray.get! r.text i.toNat).toNat:Int)<(127:Int))&&(↑(ByteArray.get! r.text i.toNat).toNat:Int) != (37:Int)) then b.length+(1:Nat) else b.length+(3:Nat)) - b.length - (1:Nat) - (1:Nat))))))
 else (Ex.exit (0:Nat),(),r,n,i,e8u.ag b)
def tx_side (_u:Unit) (r:Rec) (n:Int) (i:Int) (b:List Int):Prop:=
 (decide (i<n)=true→((0:Int)≤i∧i<(↑(ByteArray.size r.text):Int))∧((decide ((↑(ByteArray.get! r.text i.toNat).toNat:Int) > (32:Int))&&(decide ((↑(ByteArray.get! r.text i.toNat).toNat:Int)<(127:Int))&&(↑(ByteArray.get! r.text i.toNat).toNat:Int) != (37:Int)))=true→b.length≤b.length∧True∧b.length+(1:Nat)≤maxLen∧(b.length+(1:Nat)) * Tryd.prog.types[(5:Nat)].bytes≤(140737488355328:Nat))∧((!(decide ((↑(ByteArray.get! r.text i.toNat).toNat:Int) > (32:Int))&&(decide ((↑(ByteArray.get! r.text i.toNat).toNat:Int)<(127:Int))&&(↑(ByteArray.get! r.text i.toNat).toNat:Int) != (37:Int))))=true→(0:Int)≤iShr IntKind.u8 (↑(ByteArray.get! r.text i.toNat).toNat:Int) (4:Int)∧iShr IntKind.u8 (↑(ByteArray.get! r.text i.toNat).toNat:Int) (4:Int)<(16:Int))∧((!(decide ((↑(ByteArray.get! r.text i.toNat).toNat:Int) > (32:Int))&&(decide ((↑(ByteArray.get! r.text i.toNat).toNat:Int)<(127:Int))&&(↑(ByteArray.get! r.text i.toNat).toNat:Int) != (37:Int))))=true→(0:Int)≤iAnd IntKind.u8 (↑(ByteArray.get! r.text i.toNat).toNat:Int) (15:Int)∧iAnd IntKind.u8 (↑(ByteArray.get! r.text i.toNat).toNat:Int) (15:Int)<(16:Int))∧((!(decide ((↑(ByteArray.get! r.text i.toNat).toNat:Int) > (32:Int))&&(decide ((↑(ByteArray.get! r.text i.toNat).toNat:Int)<(127:Int))&&(↑(ByteArray.get! r.text i.toNat).toNat:Int) != (37:Int))))=true→b.length≤b.length∧True∧b.length+(3:Nat)≤maxLen∧(b.length+(3:Nat)) * Tryd.prog.types[(5:Nat)].bytes≤(140737488355328:Nat))∧((bif decide ((↑(ByteArray.get! r.text i.toNat).toNat:Int) > (32:Int))&&(decide ((↑(ByteArray.get! r.text i.toNat).toNat:Int)<(127:Int))&&(↑(ByteArray.get! r.text i.toNat).toNat:Int) != (37:Int)) then b.length+(1:Nat) else b.length+(3:Nat))≤bif decide ((↑(ByteArray.get! r.text i.toNat).toNat:Int) > (32:Int))&&(decide ((↑(ByteArray.get! r.text i.toNat).toNat:Int)<(127:Int))&&(↑(ByteArray.get! r.text i.toNat).toNat:Int) != (37:Int)) then b.length+(1:Nat) else b.length+(3:Nat))∧(∀ (e:Nat),e<min (bif decide ((↑(ByteArray.get! r.text i.toNat).toNat:Int) > (32:Int))&&(decide ((↑(ByteArray.get! r.text i.toNat).toNat:Int)<(127:Int))&&(↑(ByteArray.get! r.text i.toNat).toNat:Int) != (37:Int)) then b.length+(1:Nat) else b.length+(3:Nat)) b.length→True)∧(∀ (e:Nat),e<(bif decide ((↑(ByteArray.get! r.text i.toNat).toNat:Int) > (32:Int))&&(decide ((↑(ByteArray.get! r.text i.toNat).toNat:Int)<(127:Int))&&(↑(ByteArray.get! r.text i.toNat).toNat:Int) != (37:Int)) then b.length+(1:Nat) else b.length+(3:Nat)) - b.length→True)∧(∀ (e:Nat),e<min (bif decide ((↑(ByteArray.get! r.text i.toNat).toNat:Int) > (32:Int))&&(decide ((↑(ByteArray.get! r.text i.toNat).toNat:Int)<(127:Int))&&(↑(ByteArray.get! r.text i.toNat).toNat:Int) != (37:Int)) then b.length+(1:Nat) else b.length+(3:Nat)) b.length→True)∧(∀ (e:Nat),e<min ((bif decide ((↑(ByteArray.get! r.text i.toNat).toNat:Int) > (32:Int))&&(decide ((↑(ByteArray.get! r.text i.toNat).toNat:Int)<(127:Int))&&(↑(ByteArray.get! r.text i.toNat).toNat:Int) != (37:Int)) then b.length+(1:Nat) else b.length+(3:Nat)) - b.length) (1:Nat)→True)∧(∀ (e:Nat),e<min ((bif decide ((↑(ByteArray.get! r.text i.toNat).toNat:Int) > (32:Int))&&(decide ((↑(ByteArray.get! r.text i.toNat).toNat:Int)<(127:Int))&&(↑(ByteArray.get! r.text i.toNat).toNat:Int) != (37:Int)) then b.length+(1:Nat) else b.length+(3:Nat)) - b.length - (1:Nat)) (1:Nat)→True)∧∀ (e:Nat),e<(bif decide ((↑(ByteArray.get! r.text i.toNat).toNat:Int) > (32:Int))&&(decide ((↑(ByteArray.get! r.text i.toNat).toNat:Int)<(127:Int))&&(↑(ByteArray.get! r.text i.toNat).toNat:Int) != (37:Int)) then b.length+(1:Nat) else b.length+(3:Nat)) - b.length - (1:Nat) - (1:Nat)→True)∧(decide (i<n)=false→b.length≤b.length∧∀ (e:Nat),e<b.length→True)
theorem tx_one:((loopsOf Tryd.prog 43).filter fun c=>Nat.beq (lkey c) 5).length=1:=by kernel_rfl
abbrev tx_GC:Type:=Rec×Int
abbrev tx_GB:Type:=Unit×List Int
def tx_f (g:tx_G):Int×tx_GC×tx_GB:=(g.2.2.2.1,(g.2.1,g.2.2.1),(g.1,g.2.2.2.2))
def tx_g (d:Int×tx_GC×tx_GB):tx_G:=(d.2.2.1,d.2.1.1,d.2.1.2,d.1,d.2.2.2)
theorem tx_es (g:tx_G):(tx_R g.1 g.2.1 g.2.2.1 g.2.2.2.1 g.2.2.2.2).1=.normal∨(tx_R g.1 g.2.1 g.2.2.1 g.2.2.2.1 g.2.2.2.2).1∈([.exit 0]:List Ex):=by
 unfold tx_R
 repeat' (first | (left;rfl) | (right;simp only[cond_true,cond_false];simp;done) | (rw[Bool.cond_eq_ite];split))
noncomputable abbrev tx_C (Inv:tx_G→List Prop) (m:tx_G→Nat):LCon:=loopR [.exit 0] (loopBody Tryd.prog 43 5) tx_LP [] 50 Inv (fun g=>tx_R g.1 g.2.1 g.2.2.1 g.2.2.2.1 g.2.2.2.2) m
theorem tx_loop (Inv:tx_G→List Prop) (m:tx_G→Nat) (hs:∀ g,allP (Inv g)→tx_side g.1 g.2.1 g.2.2.1 g.2.2.2.1 g.2.2.2.2) (hg:Goes (fun g:tx_G=>tx_R g.1 g.2.1 g.2.2.1 g.2.2.2.1 g.2.2.2.2) m fun g=>allP (Inv g)):∀ b∈loopsOf Tryd.prog 43,lkey b=5→LoopOk Tryd.prog b (tx_C Inv m).g:=loop_run (Γ:=(PTab.gamz tabA3 [] [])) (Λ:=noΛ) (PTab.okz tabA3 [] []) noΛ_ok 100 43 5 50 tx_LP [] Inv (fun g=>tx_R g.1 g.2.1 g.2.2.1 g.2.2.2.1 g.2.2.2.2) (fun g=>tx_side g.1 g.2.1 g.2.2.1 g.2.2.2.1 g.2.2.2.2) m default [.exit 0] tx_one (fun rd T B HL HB ds g=>by kernel_rfl) (fun rd T B HL HB ds g=>by kernel_rfl) hs hg tx_es
abbrev rt_G:Type:=Unit×Rec×Int×BA
noncomputable def rt_LP:LP 1 rt_G:=.pair (.fix 1 1 (.p 0 0)) (.pair (.obj 1 0 46 eR) (.pair (.slot 1 4 dI) (.slot 1 3 dStr)))
noncomputable def rt_R (_u:Unit) (r:Rec) (i:Int) (s:BA):Ex×rt_G:=
 bif decide (i<(↑(ByteArray.size r.text):Int)) then (Ex.normal,(),r,IntKind.i64.wrap (i+(1:Int)),bif decide ((↑(ByteArray.get! r.text i.toNat).toNat:Int)≥(33:Int))&&(decide ((↑(ByteArray.get! r.text i.toNat).toNat:Int)≤(126:Int))&&(↑(ByteArray.get! r.text i.toNat).toNat:Int) != (37:Int)) then s++ByteArray.extract r.text i.toNat (IntKind.i64.wrap (i+(1:Int))).toNat else s++(ByteArray.mk #[(37:UInt8)]++(ByteArray.mk #[(48:UInt8),(49:UInt8),(50:UInt8),(51:UInt8),(52:UInt8),(53:UInt8),(54:UInt8),(55:UInt8),(56:UInt8),(57:UInt8),(97:UInt8),(98:UInt8),(99:UInt8),(100:UInt8),(101:UInt8),(102:UInt8)]).extract (IntKind.u8.wrap ((↑(ByteArray.get! r.text i.toNat).toNat:Int).tdiv (16:Int))).toNat (IntKind.u8.wrap (IntKind.u8.wrap ((↑(ByteArray.get! r.text i.toNat).toNat:Int).tdiv (16:Int))+(1:Int))).toNat++(ByteArray.mk #[(48:UInt8),(49:UInt8),(50:UInt8),(51:UInt8),(52:UInt8),(53:UInt8),(54:UInt8),(55:UInt8),(56:UInt8),(57:UInt8),(97:UInt8),(98:UInt8),(99:UInt8),(100:UInt8),(101:UInt8),(102:UInt8)]).extract ((↑(ByteArray.get! r.text i.toNat).toNat:Int).tmod (16:Int)).toNat (IntKind.u8.wrap ((↑(ByteArray.get! r.text i.toNat).toNat:Int).tmod (16:Int)+(1:Int))).toNat))
 else (Ex.exit (0:Nat),(),r,i,s)
def rt_side (_u:Unit) (r:Rec) (i:Int) (s:BA):Prop:=
 decide (i<(↑(ByteArray.size r.text):Int))=true→((0:Int)≤i∧i<(↑(ByteArray.size r.text):Int))∧((decide ((↑(ByteArray.get! r.text i.toNat).toNat:Int)≥(33:Int))&&(decide ((↑(ByteArray.get! r.text i.toNat).toNat:Int)≤(126:Int))&&(↑(ByteArray.get! r.text i.toNat).toNat:Int) != (37:Int)))=true→(0:Int)≤IntKind.i64.wrap (i+(1:Int))∧IntKind.i64.wrap (i+(1:Int))≤(↑(ByteArray.size r.text):Int))∧((decide ((↑(ByteArray.get! r.text i.toNat).toNat:Int)≥(33:Int))&&(decide ((↑(ByteArray.get! r.text i.toNat).toNat:Int)≤(126:Int))&&(↑(ByteArray.get! r.text i.toNat).toNat:Int) != (37:Int)))=true→(0:Int)≤i∧i≤(↑(IntKind.i64.wrap (i+(1:Int))).toNat:Int))∧((decide ((↑(ByteArray.get! r.text i.toNat).toNat:Int)≥(33:Int))&&(decide ((↑(ByteArray.get! r.text i.toNat).toNat:Int)≤(126:Int))&&(↑(ByteArray.get! r.text i.toNat).toNat:Int) != (37:Int)))=true→ByteArray.size s+(ByteArray.extract r.text i.toNat (IntKind.i64.wrap (i+(1:Int))).toNat).size≤(9223372036854775807:Nat))∧((!(decide ((↑(ByteArray.get! r.text i.toNat).toNat:Int)≥(33:Int))&&(decide ((↑(ByteArray.get! r.text i.toNat).toNat:Int)≤(126:Int))&&(↑(ByteArray.get! r.text i.toNat).toNat:Int) != (37:Int))))=true→(16:Int)≠(0:Int))∧((!(decide ((↑(ByteArray.get! r.text i.toNat).toNat:Int)≥(33:Int))&&(decide ((↑(ByteArray.get! r.text i.toNat).toNat:Int)≤(126:Int))&&(↑(ByteArray.get! r.text i.toNat).toNat:Int) != (37:Int))))=true→(16:Int)≠(0:Int))∧((!(decide ((↑(ByteArray.get! r.text i.toNat).toNat:Int)≥(33:Int))&&(decide ((↑(ByteArray.get! r.text i.toNat).toNat:Int)≤(126:Int))&&(↑(ByteArray.get! r.text i.toNat).toNat:Int) != (37:Int))))=true→(0:Int)≤IntKind.u8.wrap (IntKind.u8.wrap ((↑(ByteArray.get! r.text i.toNat).toNat:Int).tdiv (16:Int))+(1:Int))∧IntKind.u8.wrap (IntKind.u8.wrap ((↑(ByteArray.get! r.text i.toNat).toNat:Int).tdiv (16:Int))+(1:Int))≤(16:Int))∧((!(decide ((↑(ByteArray.get! r.text i.toNat).toNat:Int)≥(33:Int))&&(decide ((↑(ByteArray.get! r.text i.toNat).toNat:Int)≤(126:Int))&&(↑(ByteArray.get! r.text i.toNat).toNat:Int) != (37:Int))))=true→(0:Int)≤IntKind.u8.wrap ((↑(ByteArray.get! r.text i.toNat).toNat:Int).tdiv (16:Int))∧IntKind.u8.wrap ((↑(ByteArray.get! r.text i.toNat).toNat:Int).tdiv (16:Int))≤(↑(IntKind.u8.wrap (IntKind.u8.wrap ((↑(ByteArray.get! r.text i.toNat).toNat:Int).tdiv (16:Int))+(1:Int))).toNat:Int))∧((!(decide ((↑(ByteArray.get! r.text i.toNat).toNat:Int)≥(33:Int))&&(decide ((↑(ByteArray.get! r.text i.toNat).toNat:Int)≤(126:Int))&&(↑(ByteArray.get! r.text i.toNat).toNat:Int) != (37:Int))))=true→(1:Nat)+((ByteArray.mk #[(48:UInt8),(49:UInt8),(50:UInt8),(51:UInt8),(52:UInt8),(53:UInt8),(54:UInt8),(55:UInt8),(56:UInt8),(57:UInt8),(97:UInt8),(98:UInt8),(99:UInt8),(100:UInt8),(101:UInt8),(102:UInt8)]).extract (IntKind.u8.wrap ((↑(ByteArray.get! r.text i.toNat).toNat:Int).tdiv (16:Int))).toNat (IntKind.u8.wrap (IntKind.u8.wrap ((↑(ByteArray.get! r.text i.toNat).toNat:Int).tdiv (16:Int))+(1:Int))).toNat).size≤(9223372036854775807:Nat))∧((!(decide ((↑(ByteArray.get! r.text i.toNat).toNat:Int)≥(33:Int))&&(decide ((↑(ByteArray.get! r.text i.toNat).toNat:Int)≤(126:Int))&&(↑(ByteArray.get! r.text i.toNat).toNat:Int) != (37:Int))))=true→(16:Int)≠(0:Int))∧((!(decide ((↑(ByteArray.get! r.text i.toNat).toNat:Int)≥(33:Int))&&(decide ((↑(ByteArray.get! r.text i.toNat).toNat:Int)≤(126:Int))&&(↑(ByteArray.get! r.text i.toNat).toNat:Int) != (37:Int))))=true→(16:Int)≠(0:Int))∧((!(decide ((↑(ByteArray.get! r.text i.toNat).toNat:Int)≥(33:Int))&&(decide ((↑(ByteArray.get! r.text i.toNat).toNat:Int)≤(126:Int))&&(↑(ByteArray.get! r.text i.toNat).toNat:Int) != (37:Int))))=true→(0:Int)≤IntKind.u8.wrap ((↑(ByteArray.get! r.text i.toNat).toNat:Int).tmod (16:Int)+(1:Int))∧IntKind.u8.wrap ((↑(ByteArray.get! r.text i.toNat).toNat:Int).tmod (16:Int)+(1:Int))≤(16:Int))∧((!(decide ((↑(ByteArray.get! r.text i.toNat).toNat:Int)≥(33:Int))&&(decide ((↑(ByteArray.get! r.text i.toNat).toNat:Int)≤(126:Int))&&(↑(ByteArray.get! r.text i.toNat).toNat:Int) != (37:Int))))=true→(0:Int)≤(↑(ByteArray.get! r.text i.toNat).toNat:Int).tmod (16:Int)∧(↑(ByteArray.get! r.text i.toNat).toNat:Int).tmod (16:Int)≤(↑(IntKind.u8.wrap ((↑(ByteArray.get! r.text i.toNat).toNat:Int).tmod (16:Int)+(1:Int))).toNat:Int))∧((!(decide ((↑(ByteArray.get! r.text i.toNat).toNat:Int)≥(33:Int))&&(decide ((↑(ByteArray.get! r.text i.toNat).toNat:Int)≤(126:Int))&&(↑(ByteArray.get! r.text i.toNat).toNat:Int) != (37:Int))))=true→(ByteArray.mk #[(37:UInt8)]++(ByteArray.mk #[(48:UInt8),(49:UInt8),(50:UInt8),(51:UInt8),(52:UInt8),(53:UInt8),(54:UInt8),(55:UInt8),(56:UInt8),(57:UInt8),(97:UInt8),(98:UInt8),(99:UInt8),(100:UInt8),(101:UInt8),(102:UInt8)]).extract (IntKind.u8.wrap ((↑(ByteArray.get! r.text i.toNat).toNat:Int).tdiv (16:Int))).toNat (IntKind.u8.wrap (IntKind.u8.wrap ((↑(ByteArray.get! r.text i.toNat).toNat:Int).tdiv (16:Int))+(1:Int))).toNat).size+((ByteArray.mk #[(48:UInt8),(49:UInt8),(50:UInt8),(51:UInt8),(52:UInt8),(53:UInt8),(54:UInt8),(55:UInt8),(56:UInt8),(57:UInt8),(97:UInt8),(98:UInt8),(99:UInt8),(100:UInt8),(101:UInt8),(102:UInt8)]).extract ((↑(ByteArray.get! r.text i.toNat).toNat:Int).tmod (16:Int)).toNat (IntKind.u8.wrap ((↑(ByteArray.get! r.text i.toNat).toNat:Int).tmod (16:Int)+(1:Int))).toNat).size≤(9223372036854775807:Nat))∧((!(decide ((↑(ByteArray.get! r.text i.toNat).toNat:Int)≥(33:Int))&&(decide ((↑(ByteArray.get! r.text i.toNat).toNat:Int)≤(126:Int))&&(↑(ByteArray.get! r.text i.toNat).toNat:Int) != (37:Int))))=true→ByteArray.size s+(ByteArray.mk #[(37:UInt8)]++(ByteArray.mk #[(48:UInt8),(49:UInt8),(50:UInt8),(51:UInt8),(52:UInt8),(53:UInt8),(54:UInt8),(55:UInt8),(56:UInt8),(57:UInt8),(97:UInt8),(98:UInt8),(99:UInt8),(100:UInt8),(101:UInt8),(102:UInt8)]).extract (IntKind.u8.wrap ((↑(ByteArray.get! r.text i.toNat).toNat:Int).tdiv (16:Int))).toNat (IntKind.u8.wrap (IntKind.u8.wrap ((↑(ByteArray.get! r.text i.toNat).toNat:Int).tdiv (16:Int))+(1:Int))).toNat++(ByteArray.mk #[(48:UInt8),(49:UInt8),(50:UInt8),(51:UInt8),(52:UInt8),(53:UInt8),(54:UInt8),(55:UInt8),(56:UInt8),(57:UInt8),(97:UInt8),(98:UInt8),(99:UInt8),(100:UInt8),(101:UInt8),(102:UInt8)]).extract ((↑(ByteArray.get! r.text i.toNat).toNat:Int).tmod (16:Int)).toNat (IntKind.u8.wrap ((↑(ByteArray.get! r.text i.toNat).toNat:Int).tmod (16:Int)+(1:Int))).toNat).size≤(9223372036854775807:Nat))
theorem rt_one:((loopsOf Tryd.prog 44).filter fun c=>Nat.beq (lkey c) 5).length=1:=by kernel_rfl
abbrev rt_GC:Type:=Rec
abbrev rt_GB:Type:=Unit×BA
def rt_f (g:rt_G):Int×rt_GC×rt_GB:=(g.2.2.1,g.2.1,(g.1,g.2.2.2))
def rt_g (d:Int×rt_GC×rt_GB):rt_G:=(d.2.2.1,d.2.1,d.1,d.2.2.2)
theorem rt_es (g:rt_G):(rt_R g.1 g.2.1 g.2.2.1 g.2.2.2).1=.normal∨(rt_R g.1 g.2.1 g.2.2.1 g.2.2.2).1∈([.exit 0]:List Ex):=by
 unfold rt_R
 repeat' (first | (left;rfl) | (right;simp only[cond_true,cond_false];simp;done) | (rw[Bool.cond_eq_ite];split))
noncomputable abbrev rt_C (Inv:rt_G→List Prop) (m:rt_G→Nat):LCon:=loopR [.exit 0] (loopBody Tryd.prog 44 5) rt_LP [] 59 Inv (fun g=>rt_R g.1 g.2.1 g.2.2.1 g.2.2.2) m
theorem rt_loop (Inv:rt_G→List Prop) (m:rt_G→Nat) (hs:∀ g,allP (Inv g)→rt_side g.1 g.2.1 g.2.2.1 g.2.2.2) (hg:Goes (fun g:rt_G=>rt_R g.1 g.2.1 g.2.2.1 g.2.2.2) m fun g=>allP (Inv g)):∀ b∈loopsOf Tryd.prog 44,lkey b=5→LoopOk Tryd.prog b (rt_C Inv m).g:=loop_run (Γ:=(PTab.gamz tabA3 [] [])) (Λ:=noΛ) (PTab.okz tabA3 [] []) noΛ_ok 100 44 5 59 rt_LP [] Inv (fun g=>rt_R g.1 g.2.1 g.2.2.1 g.2.2.2) (fun g=>rt_side g.1 g.2.1 g.2.2.1 g.2.2.2) m default [.exit 0] rt_one (fun rd T B HL HB ds g=>by kernel_rfl) (fun rd T B HL HB ds g=>by kernel_rfl) hs hg rt_es
abbrev pa_G:Type:=BA×Int×Int×Int×Int×Bool
noncomputable def pa_LP:LP 0 pa_G:=.pair (.slot 0 4 dStr) (.pair (.slot 0 15 dI) (.pair (.slot 0 16 dI) (.pair (.slot 0 6 dU64) (.pair (.slot 0 2 dI) (.slot 0 3 dBool)))))
noncomputable def pa_R (d:BA) (n:Int) (i:Int) (u:Int) (r:Int) (o:Bool):Ex×pa_G:=
 bif decide (i<n) then bif decide ((↑(ByteArray.get! d i.toNat).toNat:Int)<(48:Int))||(decide ((↑(ByteArray.get! d i.toNat).toNat:Int) > (57:Int))||decide (i > (18:Int))) then (Ex.ret,d,n,i,u,(0:Int),false) else (Ex.normal,d,n,IntKind.i64.wrap (i+(1:Int)),IntKind.u64.wrap (IntKind.u64.wrap ((10:Int) * u)+IntKind.u64.wrap (IntKind.u8.wrap ((↑(ByteArray.get! d i.toNat).toNat:Int) - (48:Int)))),r,o)
 else (Ex.exit (0:Nat),d,n,i,u,r,o)
def pa_side (d:BA) (n:Int) (i:Int) (u:Int) (r:Int) (o:Bool):Prop:=
 decide (i<n)=true→((0:Int)≤i∧i<(↑(ByteArray.size d):Int))∧((!decide ((↑(ByteArray.get! d i.toNat).toNat:Int)<(48:Int)))=true→(0:Int)≤i∧i<(↑(ByteArray.size d):Int))∧((decide ((↑(ByteArray.get! d i.toNat).toNat:Int)<(48:Int))||(decide ((↑(ByteArray.get! d i.toNat).toNat:Int) > (57:Int))||decide (i > (18:Int))))=false→(0:Int)≤i∧i<(↑(ByteArray.size d):Int))
theorem pa_one:((loopsOf Tryd.prog 82).filter fun c=>Nat.beq (lkey c) 4).length=1:=by kernel_rfl
abbrev pa_GC:Type:=BA×Int
abbrev pa_GB:Type:=Int×Int×Bool
def pa_f (g:pa_G):Int×pa_GC×pa_GB:=(g.2.2.1,(g.1,g.2.1),(g.2.2.2.1,g.2.2.2.2.1,g.2.2.2.2.2))
def pa_g (d:Int×pa_GC×pa_GB):pa_G:=(d.2.1.1,d.2.1.2,d.1,d.2.2.1,d.2.2.2.1,d.2.2.2.2)
theorem pa_es (g:pa_G):(pa_R g.1 g.2.1 g.2.2.1 g.2.2.2.1 g.2.2.2.2.1 g.2.2.2.2.2).1=.normal∨(pa_R g.1 g.2.1 g.2.2.1 g.2.2.2.1 g.2.2.2.2.1 g.2.2.2.2.2).1∈([.ret,.exit 0]:List Ex):=by
 unfold pa_R
 repeat' (first | (left;rfl) | (right;simp only[cond_true,cond_false];simp;done) | (rw[Bool.cond_eq_ite];split))
noncomputable abbrev pa_C (Inv:pa_G→List Prop) (m:pa_G→Nat):LCon:=loopR [.ret,.exit 0] (loopBody Tryd.prog 82 4) pa_LP [] 52 Inv (fun g=>pa_R g.1 g.2.1 g.2.2.1 g.2.2.2.1 g.2.2.2.2.1 g.2.2.2.2.2) m
theorem pa_loop (Inv:pa_G→List Prop) (m:pa_G→Nat) (hs:∀ g,allP (Inv g)→pa_side g.1 g.2.1 g.2.2.1 g.2.2.2.1 g.2.2.2.2.1 g.2.2.2.2.2) (hg:Goes (fun g:pa_G=>pa_R g.1 g.2.1 g.2.2.1 g.2.2.2.1 g.2.2.2.2.1 g.2.2.2.2.2) m fun g=>allP (Inv g)):∀ b∈loopsOf Tryd.prog 82,lkey b=4→LoopOk Tryd.prog b (pa_C Inv m).g:=loop_run (Γ:=(PTab.gamz tabA3 [] [])) (Λ:=noΛ) (PTab.okz tabA3 [] []) noΛ_ok 100 82 4 52 pa_LP [] Inv (fun g=>pa_R g.1 g.2.1 g.2.2.1 g.2.2.2.1 g.2.2.2.2.1 g.2.2.2.2.2) (fun g=>pa_side g.1 g.2.1 g.2.2.1 g.2.2.2.1 g.2.2.2.2.1 g.2.2.2.2.2) m default [.ret,.exit 0] pa_one (fun rd T B HL HB ds g=>by kernel_rfl) (fun rd T B HL HB ds g=>by kernel_rfl) hs hg pa_es
abbrev pn_G:Type:=BA×Int×Int×Int×Bool
noncomputable def pn_LP:LP 0 pn_G:=.pair (.slot 0 4 dStr) (.pair (.slot 0 6 dI) (.pair (.slot 0 5 dU64) (.pair (.slot 0 2 dI) (.slot 0 3 dBool))))
noncomputable def pn_R (d:BA) (i:Int) (u:Int) (r:Int) (o:Bool):Ex×pn_G:=
 bif decide (i<(↑(ByteArray.size d):Int)) then bif decide ((↑(ByteArray.get! d i.toNat).toNat:Int)<(48:Int))||decide ((↑(ByteArray.get! d i.toNat).toNat:Int) > (57:Int)) then (Ex.ret,d,i,u,(0:Int),false) else (Ex.normal,d,IntKind.i64.wrap (i+(1:Int)),IntKind.u64.wrap (IntKind.u64.wrap ((10:Int) * u)+IntKind.u64.wrap (IntKind.u8.wrap ((↑(ByteArray.get! d i.toNat).toNat:Int) - (48:Int)))),r,o)
 else (Ex.exit (0:Nat),d,i,u,r,o)
def pn_side (d:BA) (i:Int) (u:Int) (r:Int) (o:Bool):Prop:=
 decide (i<(↑(ByteArray.size d):Int))=true→((0:Int)≤i∧i<(↑(ByteArray.size d):Int))∧((!decide ((↑(ByteArray.get! d i.toNat).toNat:Int)<(48:Int)))=true→(0:Int)≤i∧i<(↑(ByteArray.size d):Int))∧((decide ((↑(ByteArray.get! d i.toNat).toNat:Int)<(48:Int))||decide ((↑(ByteArray.get! d i.toNat).toNat:Int) > (57:Int)))=false→(0:Int)≤i∧i<(↑(ByteArray.size d):Int))
theorem pn_one:((loopsOf Tryd.prog 84).filter fun c=>Nat.beq (lkey c) 8).length=1:=by kernel_rfl
abbrev pn_GC:Type:=BA
abbrev pn_GB:Type:=Int×Int×Bool
def pn_f (g:pn_G):Int×pn_GC×pn_GB:=(g.2.1,g.1,(g.2.2.1,g.2.2.2.1,g.2.2.2.2))
def pn_g (d:Int×pn_GC×pn_GB):pn_G:=(d.2.1,d.1,d.2.2.1,d.2.2.2.1,d.2.2.2.2)
theorem pn_es (g:pn_G):(pn_R g.1 g.2.1 g.2.2.1 g.2.2.2.1 g.2.2.2.2).1=.normal∨(pn_R g.1 g.2.1 g.2.2.1 g.2.2.2.1 g.2.2.2.2).1∈([.ret,.exit 0]:List Ex):=by
 unfold pn_R
 repeat' (first | (left;rfl) | (right;simp only[cond_true,cond_false];simp;done) | (rw[Bool.cond_eq_ite];split))
noncomputable abbrev pn_C (Inv:pn_G→List Prop) (m:pn_G→Nat):LCon:=loopR [.ret,.exit 0] (loopBody Tryd.prog 84 8) pn_LP [] 60 Inv (fun g=>pn_R g.1 g.2.1 g.2.2.1 g.2.2.2.1 g.2.2.2.2) m
theorem pn_loop (Inv:pn_G→List Prop) (m:pn_G→Nat) (hs:∀ g,allP (Inv g)→pn_side g.1 g.2.1 g.2.2.1 g.2.2.2.1 g.2.2.2.2) (hg:Goes (fun g:pn_G=>pn_R g.1 g.2.1 g.2.2.1 g.2.2.2.1 g.2.2.2.2) m fun g=>allP (Inv g)):∀ b∈loopsOf Tryd.prog 84,lkey b=8→LoopOk Tryd.prog b (pn_C Inv m).g:=loop_run (Γ:=(PTab.gamz tabA3 [] [])) (Λ:=noΛ) (PTab.okz tabA3 [] []) noΛ_ok 100 84 8 60 pn_LP [] Inv (fun g=>pn_R g.1 g.2.1 g.2.2.1 g.2.2.2.1 g.2.2.2.2) (fun g=>pn_side g.1 g.2.1 g.2.2.1 g.2.2.2.1 g.2.2.2.2) m default [.ret,.exit 0] pn_one (fun rd T B HL HB ds g=>by kernel_rfl) (fun rd T B HL HB ds g=>by kernel_rfl) hs hg pn_es
abbrev rc_G:Type:=BA×Int
noncomputable def rc_LP:LP 1 rc_G:=.pair (.slot 1 0 dStr) (.slot 1 4 dI)
noncomputable def rc_R (s:BA) (i:Int):Ex×rc_G:=
 bif decide (i<(↑(ByteArray.size s):Int))&&(↑(ByteArray.get! s i.toNat).toNat:Int) != (58:Int) then (Ex.normal,s,IntKind.i64.wrap (i+(1:Int)))
 else (Ex.exit (0:Nat),s,i)
def rc_side (s:BA) (i:Int):Prop:=
 decide (i<(↑(ByteArray.size s):Int))=true→(0:Int)≤i∧i<(↑(ByteArray.size s):Int)
theorem rc_one:((loopsOf Tryd.prog 42).filter fun c=>Nat.beq (lkey c) 2).length=1:=by kernel_rfl
theorem rc_es (g:rc_G):(rc_R g.1 g.2).1=.normal∨(rc_R g.1 g.2).1∈([.exit 0]:List Ex):=by
 unfold rc_R
 repeat' (first | (left;rfl) | (right;simp only[cond_true,cond_false];simp;done) | (rw[Bool.cond_eq_ite];split))
noncomputable abbrev rc_C (Inv:rc_G→List Prop) (m:rc_G→Nat):LCon:=loopR [.exit 0] (loopBody Tryd.prog 42 2) rc_LP [] 116 Inv (fun g=>rc_R g.1 g.2) m
theorem rc_loop (Inv:rc_G→List Prop) (m:rc_G→Nat) (hs:∀ g,allP (Inv g)→rc_side g.1 g.2) (hg:Goes (fun g:rc_G=>rc_R g.1 g.2) m fun g=>allP (Inv g)):∀ b∈loopsOf Tryd.prog 42,lkey b=2→LoopOk Tryd.prog b (rc_C Inv m).g:=loop_run (Γ:=(PTab.gamz tabA3 [] [])) (Λ:=noΛ) (PTab.okz tabA3 [] []) noΛ_ok 100 42 2 116 rc_LP [] Inv (fun g=>rc_R g.1 g.2) (fun g=>rc_side g.1 g.2) m default [.exit 0] rc_one (fun rd T B HL HB ds g=>by kernel_rfl) (fun rd T B HL HB ds g=>by kernel_rfl) hs hg rc_es
end Go.Proofs.YtmegbepjdololaaDoor

namespace Go.Proofs.YtmegbepjdololaaDoor
open Go.RowKit Go.Sx Go.Lp
set_option maxRecDepth 100000
theorem escQ (v:Int):(decide (v > 32)&&(decide (v<127)&&v != 37))=escP v:=by
 unfold escP
 rw[Bool.eq_iff_iff]
 simp only[Bool.and_eq_true,decide_eq_true_eq,bne_iff_ne,ne_eq,Bool.not_eq_true',decide_eq_false_iff_not]
 omega
theorem escR (v:Int):(decide (v≥33)&&(decide (v≤126)&&v != 37))=escP v:=by
 unfold escP
 rw[Bool.eq_iff_iff]
 simp only[Bool.and_eq_true,decide_eq_true_eq,bne_iff_ne,ne_eq,Bool.not_eq_true',decide_eq_false_iff_not]
theorem hxS {v:Int} (h0:0≤v) (h1:v≤255):(bts HEX).getD (iShr .u8 v 4).toNat 0=hexD (v / 16)∧0≤iShr .u8 v 4∧iShr .u8 v 4<16:=by
 obtain ⟨k,rfl⟩:∃ k:Nat,v=k:=⟨v.toNat,by omega⟩
 exact ⟨by rw[← bts_get];exact hx_shr k (by omega),hx_shrR k (by omega)⟩
theorem hxA {v:Int} (h0:0≤v) (h1:v≤255):(bts HEX).getD (iAnd .u8 v 15).toNat 0=hexD (v % 16)∧0≤iAnd .u8 v 15∧iAnd .u8 v 15<16:=by
 obtain ⟨k,rfl⟩:∃ k:Nat,v=k:=⟨v.toNat,by omega⟩
 exact ⟨by rw[← bts_get];exact hx_and k (by omega),hx_andR k (by omega)⟩
abbrev tx_xs (c:tx_GC):List Int:=bts c.1.text
abbrev tx_lim (c:tx_GC):Int:=c.2
def tx_S (_:tx_GC) (b:tx_GB) (_:Int) (v:Int):Ex×tx_GB:=(.normal,((),b.2++esc1 v))
def tx_K (c:tx_GC) (b:tx_GB) (i:Int):Prop:=c.1.text.size≤64∧(b.2.length:Int)≤64+3 * i
abbrev tx_I (g:tx_G):List Prop:=ixI tx_lim tx_xs tx_K (tx_f g)
abbrev tx_M (g:tx_G):Nat:=ixM tx_lim (tx_f g)
theorem tx_P:ixP tx_S tx_xs tx_K:=fun c b i a h _ _=>⟨h.1,by
 have:=h.2
 have hl:=(esc1_len a).2
 show ((b.2++esc1 a).length:Int)≤_
 rw[List.length_append]
 omega⟩
noncomputable abbrev tx_RR (g:tx_G):Ex×tx_G:=tx_R g.1 g.2.1 g.2.2.1 g.2.2.2.1 g.2.2.2.2
theorem tx_app1 (b:List Int) (v:Int):e8u.lst (min (b.length+1) b.length) (e8u.els b)++List.map (fun _=>v) (List.range (b.length+1 - b.length))=b++[v]:=by
 rw[Nat.min_eq_right (Nat.le_add_right _ _),Nat.add_sub_cancel_left,e8u.lst_els];rfl
theorem tx_RF (d:Int×tx_GC×tx_GB) (hi:allP (ixI tx_lim tx_xs tx_K d)):tx_RR (tx_g d)=((ixF 0 tx_lim tx_xs 0 tx_S d).1,tx_g (ixF 0 tx_lim tx_xs 0 tx_S d).2):=by
 obtain ⟨i,⟨r,n⟩,⟨⟨⟩,b⟩⟩:=d
 show tx_R () r n i b=_
 unfold tx_R ixF tx_S
 simp only[bts_get,tx_lim,tx_xs,El.ag_eq]
 have hv:=bts_getD r.text i.toNat
 generalize (bts r.text).getD i.toNat 0=v at hv
 cases decide (i<n) with
 | false=>rfl
 | true=>
  simp only[cond_true,escQ,esc1]
  cases escP v with
  | true=>
   simp only[cond_true,if_true]
   rw[tx_app1];rfl
  | false=>
   simp only[cond_false]
   have h1:=(hxS hv.1 hv.2).1
   have h2:=(hxA hv.1 hv.2).1
   rw[h1,h2,Nat.min_eq_right (Nat.le_add_right _ _),Nat.add_sub_cancel_left,e8u.lst_els]
   rfl
theorem tx_ok:∀ b∈loopsOf Tryd.prog 43,lkey b=5→LoopOk Tryd.prog b (tx_C tx_I tx_M).g:=by
 refine tx_loop tx_I tx_M (fun g hi=>?_) (ix_conj_goes (fun _=>rfl) (fun _=>rfl) tx_RF tx_P)
 obtain ⟨⟨⟩,r,n,i,b⟩:=g
 obtain ⟨h1,h2,h3,h4,h5,h6⟩:=hi _ (List.mem_cons_self ..)
 have h1:n=((bts r.text).length:Int):=h1
 have h3:0≤i:=h3
 have h5:r.text.size≤64:=h5
 have h6:(b.length:Int)≤64+3 * i:=h6
 rw[bts_len] at h1
 have hb:Tryd.prog.types[(5:Nat)].bytes=1:=by kernel_rfl
 show tx_side () r n i b
 unfold tx_side
 simp only[bts_get,El.okL_eq,El.ag_eq,decide_eq_true_eq,hb]
 have hv:=bts_getD r.text i.toNat
 generalize (bts r.text).getD i.toNat 0=v at hv
 have h7:=(hxS hv.1 hv.2).2
 have h8:=(hxA hv.1 hv.2).2
 unfold maxLen
 repeat' (first | apply And.intro | intro _)
 all_goals first | trivial | omega
abbrev rt_xs (c:rt_GC):List Int:=bts c.text
abbrev rt_lim (c:rt_GC):Int:=(c.text.size:Int)
def rt_S (_:rt_GC) (b:rt_GB) (_:Int) (v:Int):Ex×rt_GB:=(.normal,((),b.2++strOf (esc1 v)))
def rt_K (c:rt_GC) (b:rt_GB) (i:Int):Prop:=c.text.size≤64∧(b.2.size:Int)≤64+3 * i
abbrev rt_I (g:rt_G):List Prop:=ixI rt_lim rt_xs rt_K (rt_f g)
abbrev rt_M (g:rt_G):Nat:=ixM rt_lim (rt_f g)
theorem rt_P:ixP rt_S rt_xs rt_K:=fun c b i a h _ _=>⟨h.1,by
 have:=h.2
 have hl:=(esc1_len a).2
 show ((b.2++strOf (esc1 a)).size:Int)≤_
 rw[ByteArray.size_append,strOf_size]
 omega⟩
noncomputable abbrev rt_RR (g:rt_G):Ex×rt_G:=rt_R g.1 g.2.1 g.2.2.1 g.2.2.2
theorem s37:ByteArray.mk #[(37:UInt8)]=strOf [37]:=rfl
theorem dgD {v:Int} (h0:0≤v) (h1:v≤255):HEX.extract (IntKind.u8.wrap (v.tdiv 16)).toNat (IntKind.u8.wrap (IntKind.u8.wrap (v.tdiv 16)+1)).toNat=strOf [hexD (v / 16)]:=by
 rw[Int.tdiv_eq_ediv_of_nonneg h0,wrB (x:=v / 16) (by omega),wrB (by omega),dgx (by omega) (by omega)]
theorem dgM {v:Int} (h0:0≤v) (h1:v≤255):HEX.extract (v.tmod 16).toNat (IntKind.u8.wrap (v.tmod 16+1)).toNat=strOf [hexD (v % 16)]:=by
 rw[Int.tmod_eq_emod_of_nonneg h0,wrB (by omega),dgx (by omega) (by omega)]
theorem rt_RF (d:Int×rt_GC×rt_GB) (hi:allP (ixI rt_lim rt_xs rt_K d)):rt_RR (rt_g d)=((ixF 0 rt_lim rt_xs 0 rt_S d).1,rt_g (ixF 0 rt_lim rt_xs 0 rt_S d).2):=by
 obtain ⟨i,r,⟨⟨⟩,b⟩⟩:=d
 obtain ⟨_,_,h3,_,h5,_⟩:=hi _ (List.mem_cons_self ..)
 have h3:0≤i:=h3
 have h5:r.text.size≤64:=h5
 show rt_R () r i b=_
 unfold rt_R ixF rt_S
 simp only[bts_get,rt_lim,rt_xs]
 have hx:i<(r.text.size:Int)→r.text.extract i.toNat (IntKind.i64.wrap (i+1)).toNat=strOf [(bts r.text).getD i.toNat 0]:=fun hlt=>by
  rw[wr64 (by omega),show (i+1).toNat=i.toNat+1 by omega]
  exact ext_one _ _ (by omega)
 have hv:=bts_getD r.text i.toNat
 generalize (bts r.text).getD i.toNat 0=v at hv hx
 by_cases hlt:i<(r.text.size:Int)
 ·rw[decide_eq_true hlt,hx hlt]
  simp only[cond_true,escR,esc1]
  rw[dgD hv.1 hv.2,dgM hv.1 hv.2,s37,strOf_app,strOf_app]
  cases escP v <;> rfl
 ·rw[decide_eq_false hlt];rfl
theorem rt_ok:∀ b∈loopsOf Tryd.prog 44,lkey b=5→LoopOk Tryd.prog b (rt_C rt_I rt_M).g:=by
 refine rt_loop rt_I rt_M (fun g hi=>?_) (ix_conj_goes (fun _=>rfl) (fun _=>rfl) rt_RF rt_P)
 obtain ⟨⟨⟩,r,i,b⟩:=g
 obtain ⟨h1,h2,h3,h4,h5,h6⟩:=hi _ (List.mem_cons_self ..)
 have h3:0≤i:=h3
 have h5:r.text.size≤64:=h5
 have h6:(b.size:Int)≤64+3 * i:=h6
 show rt_side () r i b
 unfold rt_side
 intro hlt
 have hlt:=of_decide_eq_true hlt
 have hx:r.text.extract i.toNat (IntKind.i64.wrap (i+1)).toNat=strOf [(bts r.text).getD i.toNat 0]:=by
  rw[wr64 (by omega),show (i+1).toNat=i.toNat+1 by omega]
  exact ext_one _ _ (by omega)
 rw[hx]
 simp only[bts_get]
 have hv:=bts_getD r.text i.toNat
 generalize (bts r.text).getD i.toNat 0=v at hv
 have e1:=dgD hv.1 hv.2
 have e2:=dgM hv.1 hv.2
 rw[e1,e2,s37,strOf_app,strOf_app,Int.tdiv_eq_ediv_of_nonneg hv.1,Int.tmod_eq_emod_of_nonneg hv.1,wrB (x:=v / 16) (by omega),wrB (x:=v / 16+1) (by omega),wrB (x:=v % 16+1) (by omega),wr64 (by omega)]
 simp only[strOf_size,List.length_cons,List.length_nil,List.length_append]
 repeat' (first | apply And.intro | intro _)
 all_goals first | trivial | omega
abbrev pa_xs (c:pa_GC):List Int:=bts c.1
abbrev pa_lim (c:pa_GC):Int:=c.2
def dstep (u v:Int):Int:=IntKind.u64.wrap (IntKind.u64.wrap (10 * u)+IntKind.u64.wrap (IntKind.u8.wrap (v - 48)))
def pa_S (_:pa_GC) (b:pa_GB) (i:Int) (v:Int):Ex×pa_GB:=bif decide (v<48)||(decide (v > 57)||decide (i > 18)) then (.ret,(b.1,0,false)) else (.normal,(dstep b.1 v,b.2))
def pa_K (_:pa_GC) (_:pa_GB) (_:Int):Prop:=True
abbrev pa_I (g:pa_G):List Prop:=ixI pa_lim pa_xs pa_K (pa_f g)
abbrev pa_M (g:pa_G):Nat:=ixM pa_lim (pa_f g)
theorem pa_P:ixP pa_S pa_xs pa_K:=fun _ _ _ _ _ _ _=>trivial
noncomputable abbrev pa_RR (g:pa_G):Ex×pa_G:=pa_R g.1 g.2.1 g.2.2.1 g.2.2.2.1 g.2.2.2.2.1 g.2.2.2.2.2
theorem pa_RF (d:Int×pa_GC×pa_GB) (_:allP (ixI pa_lim pa_xs pa_K d)):pa_RR (pa_g d)=((ixF 0 pa_lim pa_xs 0 pa_S d).1,pa_g (ixF 0 pa_lim pa_xs 0 pa_S d).2):=by
 obtain ⟨i,⟨s,n⟩,⟨u,r,o⟩⟩:=d
 show pa_R s n i u r o=_
 unfold pa_R ixF pa_S
 simp only[bts_get,pa_lim,pa_xs]
 generalize (bts s).getD i.toNat 0=v
 cases decide (i<n) with
 | false=>rfl
 | true=>
  simp only[cond_true]
  cases decide (v<48)||(decide (v > 57)||decide (i > 18)) <;> rfl
theorem pa_ok:∀ b∈loopsOf Tryd.prog 82,lkey b=4→LoopOk Tryd.prog b (pa_C pa_I pa_M).g:=by
 refine pa_loop pa_I pa_M (fun g hi=>?_) (ix_conj_goes (fun _=>rfl) (fun _=>rfl) pa_RF pa_P)
 obtain ⟨s,n,i,u,r,o⟩:=g
 obtain ⟨h1,h2,h3,h4,h5⟩:=hi _ (List.mem_cons_self ..)
 have h1:n=((bts s).length:Int):=h1
 have h3:0≤i:=h3
 rw[bts_len] at h1
 show pa_side s n i u r o
 unfold pa_side
 intro hlt
 have hlt:=of_decide_eq_true hlt
 exact ⟨⟨h3,by omega⟩,fun _=>⟨h3,by omega⟩,fun _=>⟨h3,by omega⟩⟩
abbrev pn_xs (c:pn_GC):List Int:=bts c
abbrev pn_lim (c:pn_GC):Int:=(c.size:Int)
def pn_S (_:pn_GC) (b:pn_GB) (_:Int) (v:Int):Ex×pn_GB:=bif decide (v<48)||decide (v > 57) then (.ret,(b.1,0,false)) else (.normal,(dstep b.1 v,b.2))
def pn_K (_:pn_GC) (_:pn_GB) (_:Int):Prop:=True
abbrev pn_I (g:pn_G):List Prop:=ixI pn_lim pn_xs pn_K (pn_f g)
abbrev pn_M (g:pn_G):Nat:=ixM pn_lim (pn_f g)
theorem pn_P:ixP pn_S pn_xs pn_K:=fun _ _ _ _ _ _ _=>trivial
noncomputable abbrev pn_RR (g:pn_G):Ex×pn_G:=pn_R g.1 g.2.1 g.2.2.1 g.2.2.2.1 g.2.2.2.2
theorem pn_RF (d:Int×pn_GC×pn_GB) (_:allP (ixI pn_lim pn_xs pn_K d)):pn_RR (pn_g d)=((ixF 0 pn_lim pn_xs 0 pn_S d).1,pn_g (ixF 0 pn_lim pn_xs 0 pn_S d).2):=by
 obtain ⟨i,s,⟨u,r,o⟩⟩:=d
 show pn_R s i u r o=_
 unfold pn_R ixF pn_S
 simp only[bts_get,pn_lim,pn_xs]
 generalize (bts s).getD i.toNat 0=v
 cases decide (i<(s.size:Int)) with
 | false=>rfl
 | true=>
  simp only[cond_true]
  cases decide (v<48)||decide (v > 57) <;> rfl
theorem pn_ok:∀ b∈loopsOf Tryd.prog 84,lkey b=8→LoopOk Tryd.prog b (pn_C pn_I pn_M).g:=by
 refine pn_loop pn_I pn_M (fun g hi=>?_) (ix_conj_goes (fun _=>rfl) (fun _=>rfl) pn_RF pn_P)
 obtain ⟨s,i,u,r,o⟩:=g
 obtain ⟨h1,h2,h3,h4,h5⟩:=hi _ (List.mem_cons_self ..)
 have h3:0≤i:=h3
 show pn_side s i u r o
 unfold pn_side
 intro hlt
 have hlt:=of_decide_eq_true hlt
 refine ⟨⟨h3,by omega⟩,?_⟩
 repeat' (first | apply And.intro | intro _)
 all_goals first | trivial | omega
def rc_P (s:BA) (i:Int):Prop:=s.size≤KB∧0≤i∧i≤(s.size:Int)
abbrev rc_I (g:rc_G):List Prop:=[rc_P g.1 g.2]
abbrev rc_M (g:rc_G):Nat:=g.1.size - g.2.toNat
noncomputable abbrev rc_RR (g:rc_G):Ex×rc_G:=rc_R g.1 g.2
theorem rc_RF (s:BA) (i:Int) (h:rc_P s i):rc_R s i=if i<(s.size:Int)∧(bts s).getD i.toNat 0≠58 then (.normal,s,i+1) else (.exit 0,s,i):=by
 obtain ⟨h1,h2,h3⟩:=h
 unfold KB at h1
 unfold rc_R
 simp only[bts_get]
 rw[wr64 (by omega)]
 generalize (bts s).getD i.toNat 0=v
 by_cases hlt:i<(s.size:Int)
 ·by_cases hv:v=58
  ·subst hv;rw[if_neg (by simp),decide_eq_true hlt];rfl
  ·rw[if_pos ⟨hlt,hv⟩,decide_eq_true hlt,bne_iff_ne.2 hv];rfl
 ·rw[if_neg (by simp[hlt]),decide_eq_false hlt];rfl
theorem rc_goes:Goes rc_RR rc_M fun g=>allP (rc_I g):=by
 rintro ⟨s,i⟩ hi hn
 have h:rc_P s i:=hi _ (List.mem_cons_self ..)
 have e:rc_RR (s,i)=_:=rc_RF s i h
 rw[e] at hn ⊢
 obtain ⟨h1,h2,h3⟩:=h
 split at hn
 ·rename_i hc
  rw[if_pos hc]
  refine ⟨fun p hp=>?_,?_⟩
  ·rw[List.mem_singleton.1 hp];exact ⟨h1,by show 0≤i+1;omega,by show i+1≤(s.size:Int);omega⟩
  ·show s.size - (i+1).toNat<s.size - i.toNat
   omega
 ·cases hn
theorem rc_ok:∀ b∈loopsOf Tryd.prog 42,lkey b=2→LoopOk Tryd.prog b (rc_C rc_I rc_M).g:=by
 refine rc_loop rc_I rc_M (fun g hi=>?_) rc_goes
 obtain ⟨s,i⟩:=g
 have h:rc_P s i:=hi _ (List.mem_cons_self ..)
 show rc_side s i
 unfold rc_side
 intro hlt
 have hlt:=of_decide_eq_true hlt
 exact ⟨h.2.1,hlt⟩
noncomputable def ltN7:LTab Tryd.prog:=(((LTab.nil.cons 43 5 (tx_C tx_I tx_M) tx_ok).cons 44 5 (rt_C rt_I rt_M) rt_ok).cons 82 4 (pa_C pa_I pa_M) pa_ok).cons 84 8 (pn_C pn_I pn_M) pn_ok
noncomputable abbrev lamN7:Lam:=ltN7.lam
theorem lamN7_ok:∀ f k L,lamN7 f k=some L→∀ b∈loopsOf Tryd.prog f,lkey b=k→LoopOk Tryd.prog b L.g:=ltN7.ok
noncomputable def tabN7:PTab Tryd.prog:=(tabB12.cons 86 (pconP aI dStr numS (fun n=>[i64 n])) (conP_ok nuA_ok puS)).cons 87 (pconP aI dStr numS (fun n=>[i64 n])) (conP_ok nuB_ok puS)
end Go.Proofs.YtmegbepjdololaaDoor

namespace Go.Proofs.YtmegbepjdololaaDoor
open Go.RowKit Go.Sx
set_option maxRecDepth 100000
set_option linter.unusedVariables false
abbrev dIBo:Dv (Int×Bool):=.tup (.cons dI (.one dBool))
theorem puIBo (r:Int×Bool):Pu (dIBo.enc r):=pu_tup (pus_cons (pu_v _) (pus_cons (pu_v _) pus_nil))
noncomputable def teA_q1 (r:Rec):Ex ×
 tx_G:=
 loopF (fun g=>tx_R g.fst g.snd.fst g.snd.snd.fst g.snd.snd.snd.fst g.snd.snd.snd.snd) tx_M ((),r,(↑(ByteArray.size r.text):Int),(0:Int),e8u.lst (numS r.key++ByteArray.mk #[(58:UInt8)]).size (byteEl (numS r.key++ByteArray.mk #[(58:UInt8)])))
noncomputable def teA_F (r:Rec):Dv.T dStr:=
 bif chkR r != (0:Int) then ByteArray.mk #[]
 else strOf (intsOf IntKind.u8 (teA_q1 r).snd.snd.snd.snd.snd.length (e8u.els (teA_q1 r).snd.snd.snd.snd.snd))
def teA_side (r:Rec):Prop:=
 (chkR r != (0:Int))=false→i64 r.key∧ByteArray.size (numS r.key)+(1:Nat)≤(9223372036854775807:Nat)∧(numS r.key++ByteArray.mk #[(58:UInt8)]).size≤maxLen∧(numS r.key++ByteArray.mk #[(58:UInt8)]).size≤(numS r.key++ByteArray.mk #[(58:UInt8)]).size∧(∀ (e:Nat),e<(numS r.key++ByteArray.mk #[(58:UInt8)]).size→True)∧Lp.ixJ tx_lim tx_xs tx_K (tx_f ((),r,(↑(ByteArray.size r.text):Int),(0:Int),e8u.lst (numS r.key++ByteArray.mk #[(58:UInt8)]).size (byteEl (numS r.key++ByteArray.mk #[(58:UInt8)]))))∧((teA_q1 r).snd.snd.snd.snd.snd.length≤(teA_q1 r).snd.snd.snd.snd.snd.length∧∀ (e:Nat),e<(teA_q1 r).snd.snd.snd.snd.snd.length→((ElE.fn (e8u.els (teA_q1 r).snd.snd.snd.snd.snd)).at e).all SV.one=true)∧∀ (e:Nat),e<(teA_q1 r).snd.snd.snd.snd.snd.length→(Sx.intOf IntKind.u8 ((ElE.fn (e8u.els (teA_q1 r).snd.snd.snd.snd.snd)).at e)).isSome=true
theorem teA_okS (pre:DA.T aR→List Prop) (h:∀ g,DA.bd aR g→(∀ p∈pre g,p)→teA_side g):FnPure Tryd.prog 43 aR dStr (fun g=>teA_F g) pre:=pure_of_sideS (Γ:=(PTab.gamz tabN7 [] [])) (Λ:=lamN7) (PTab.okz tabN7 [] []) lamN7_ok 100 default (fun g=>teA_side g) (fun g=>by kernel_rfl) (fun g=>by kernel_rfl) h
noncomputable def teB_q1 (r:Rec):Ex ×
 rt_G:=
 loopF (fun g=>rt_R g.fst g.snd.fst g.snd.snd.fst g.snd.snd.snd) rt_M ((),r,(0:Int),numS r.key++ByteArray.mk #[(58:UInt8)])
noncomputable def teB_F (r:Rec):Dv.T dStr:=
 bif chkR r != (0:Int) then ByteArray.mk #[] else (teB_q1 r).snd.snd.snd.snd
def teB_side (r:Rec):Prop:=
 (chkR r != (0:Int))=false→i64 r.key∧ByteArray.size (numS r.key)+(1:Nat)≤(9223372036854775807:Nat)∧Lp.ixJ rt_lim rt_xs rt_K (rt_f ((),r,(0:Int),numS r.key++ByteArray.mk #[(58:UInt8)]))
theorem teB_okS (pre:DA.T aR→List Prop) (h:∀ g,DA.bd aR g→(∀ p∈pre g,p)→teB_side g):FnPure Tryd.prog 44 aR dStr (fun g=>teB_F g) pre:=pure_of_sideS (Γ:=(PTab.gamz tabN7 [] [])) (Λ:=lamN7) (PTab.okz tabN7 [] []) lamN7_ok 100 default (fun g=>teB_side g) (fun g=>by kernel_rfl) (fun g=>by kernel_rfl) h
noncomputable def paA_q1 (s:BA):Ex ×
 pa_G:=
 loopF (fun g=>pa_R g.fst g.snd.fst g.snd.snd.fst g.snd.snd.snd.fst g.snd.snd.snd.snd.fst g.snd.snd.snd.snd.snd) pa_M (ByteArray.mk (Lib.trimPrefix s.data.toList #[(45:UInt8)].toList).toArray,(↑(ByteArray.mk (Lib.trimPrefix s.data.toList #[(45:UInt8)].toList).toArray).size:Int),(0:Int),(0:Int),(0:Int),false)
noncomputable def paA_F (s:BA):Dv.T dIBo:=
 bif exB Ex.ret (paA_q1 s).fst then (paA_q1 s).snd.snd.snd.snd.snd
 else (bif Lib.hasPrefix s.data.toList #[(45:UInt8)].toList then IntKind.i64.wrap ((0:Int) - IntKind.i64.wrap (paA_q1 s).snd.snd.snd.snd.fst) else IntKind.i64.wrap (paA_q1 s).snd.snd.snd.snd.fst,decide (numS (bif Lib.hasPrefix s.data.toList #[(45:UInt8)].toList then IntKind.i64.wrap ((0:Int) - IntKind.i64.wrap (paA_q1 s).snd.snd.snd.snd.fst) else IntKind.i64.wrap (paA_q1 s).snd.snd.snd.snd.fst)=s))
def paA_side (s:BA):Prop:=
 Lp.ixJ pa_lim pa_xs pa_K (pa_f (ByteArray.mk (Lib.trimPrefix s.data.toList #[(45:UInt8)].toList).toArray,(↑(ByteArray.mk (Lib.trimPrefix s.data.toList #[(45:UInt8)].toList).toArray).size:Int),(0:Int),(0:Int),(0:Int),false))∧(exB Ex.ret (paA_q1 s).fst=false→i64 (bif Lib.hasPrefix s.data.toList #[(45:UInt8)].toList then IntKind.i64.wrap ((0:Int) - IntKind.i64.wrap (paA_q1 s).snd.snd.snd.snd.fst) else IntKind.i64.wrap (paA_q1 s).snd.snd.snd.snd.fst))
theorem paA_okS (pre:DA.T aB→List Prop) (h:∀ g,DA.bd aB g→(∀ p∈pre g,p)→paA_side g):FnPure Tryd.prog 82 aB dIBo (fun g=>paA_F g) pre:=pure_of_sideS (Γ:=(PTab.gamz tabN7 [] [])) (Λ:=lamN7) (PTab.okz tabN7 [] []) lamN7_ok 100 default (fun g=>paA_side g) (fun g=>by kernel_rfl) (fun g=>by kernel_rfl) h
noncomputable def paB_q1 (s:BA):Ex ×
 pn_G:=
 loopF (fun g=>pn_R g.fst g.snd.fst g.snd.snd.fst g.snd.snd.snd.fst g.snd.snd.snd.snd) pn_M (bif decide ((↑(ByteArray.size s):Int) > (0:Int))&&(↑(ByteArray.get! s (0:Nat)).toNat:Int)==(45:Int) then ByteArray.extract s (1:Nat) (ByteArray.size s) else s,(0:Int),(0:Int),(0:Int),false)
noncomputable def paB_F (s:BA):Dv.T dIBo:=
 bif decide ((↑(bif decide ((↑(ByteArray.size s):Int) > (0:Int))&&(↑(ByteArray.get! s (0:Nat)).toNat:Int)==(45:Int) then ByteArray.extract s (1:Nat) (ByteArray.size s) else s).size:Int) > (19:Int)) then ((0:Int),false)
 else bif exB Ex.ret (paB_q1 s).fst then (paB_q1 s).snd.snd.snd.snd else (bif decide ((↑(ByteArray.size (paB_q1 s).snd.fst):Int)<(↑(ByteArray.size s):Int)) then IntKind.i64.wrap ((0:Int) - IntKind.i64.wrap (paB_q1 s).snd.snd.snd.fst) else IntKind.i64.wrap (paB_q1 s).snd.snd.snd.fst,decide (numS (bif decide ((↑(ByteArray.size (paB_q1 s).snd.fst):Int)<(↑(ByteArray.size s):Int)) then IntKind.i64.wrap ((0:Int) - IntKind.i64.wrap (paB_q1 s).snd.snd.snd.fst) else IntKind.i64.wrap (paB_q1 s).snd.snd.snd.fst)=s))
def paB_side (s:BA):Prop:=
 (decide ((↑(ByteArray.size s):Int) > (0:Int))=true→(0:Int)≤(0:Int)∧(0:Int)<(↑(ByteArray.size s):Int))∧((decide ((↑(ByteArray.size s):Int) > (0:Int))&&(↑(ByteArray.get! s (0:Nat)).toNat:Int)==(45:Int))=true→ByteArray.size s≤ByteArray.size s)∧((decide ((↑(ByteArray.size s):Int) > (0:Int))&&(↑(ByteArray.get! s (0:Nat)).toNat:Int)==(45:Int))=true→(0:Int)≤(1:Int)∧(1:Int)≤(↑(ByteArray.size s):Int))∧(decide ((↑(bif decide ((↑(ByteArray.size s):Int) > (0:Int))&&(↑(ByteArray.get! s (0:Nat)).toNat:Int)==(45:Int) then ByteArray.extract s (1:Nat) (ByteArray.size s) else s).size:Int) > (19:Int))=false→Lp.ixJ pn_lim pn_xs pn_K (pn_f (bif decide ((↑(ByteArray.size s):Int) > (0:Int))&&(↑(ByteArray.get! s (0:Nat)).toNat:Int)==(45:Int) then ByteArray.extract s (1:Nat) (ByteArray.size s) else s,(0:Int),(0:Int),(0:Int),false))∧(exB Ex.ret (paB_q1 s).fst=false→i64 (bif decide ((↑(ByteArray.size (paB_q1 s).snd.fst):Int)<(↑(ByteArray.size s):Int)) then IntKind.i64.wrap ((0:Int) - IntKind.i64.wrap (paB_q1 s).snd.snd.snd.fst) else IntKind.i64.wrap (paB_q1 s).snd.snd.snd.fst)))
theorem paB_okS (pre:DA.T aB→List Prop) (h:∀ g,DA.bd aB g→(∀ p∈pre g,p)→paB_side g):FnPure Tryd.prog 84 aB dIBo (fun g=>paB_F g) pre:=pure_of_sideS (Γ:=(PTab.gamz tabN7 [] [])) (Λ:=lamN7) (PTab.okz tabN7 [] []) lamN7_ok 100 default (fun g=>paB_side g) (fun g=>by kernel_rfl) (fun g=>by kernel_rfl) h
end Go.Proofs.YtmegbepjdololaaDoor

namespace Go.Proofs.YtmegbepjdololaaDoor
open Go.RowKit Go.Sx Go.Lp
def textS (r:Rec):BA:=bif chkR r != (0:Int) then ByteArray.mk #[] else strOf (numL r.key++58 :: escL (bts r.text))
theorem chkR_le {r:Rec} (h:(chkR r != (0:Int))=false):r.text.size≤64:=by
 have h:chkR r=0:=by simpa using h
 unfold chkR at h
 by_cases hc:(r.text.size:Int) > 64
 ·rw[decide_eq_true hc] at h;cases h
 ·omega
theorem numL_len {n:Int} (h:i64 n):1≤(numL n).length∧(numL n).length≤20:=by
 obtain ⟨hb1,hb2⟩:=abs_b h
 have e:numL n=(if n<0 then [45] else [])++dgt 20 (absI n):=rfl
 have hl1:=dgt_len 20 19 (absI n) hb1 (by rw[p10_19];omega) (by decide)
 have hl2:1≤(dgt 20 (absI n)).length:=dgt_pos 19 _
 rw[e,List.length_append]
 split <;> simp only[List.length_cons,List.length_nil] <;> omega
theorem numL_range {n:Int} (h:i64 n):∀ c∈numL n,0≤c∧c≤255:=by
 obtain ⟨hb1,hb2⟩:=abs_b h
 have e:numL n=(if n<0 then [45] else [])++dgt 20 (absI n):=rfl
 rw[e]
 intro c hc
 rcases List.mem_append.1 hc with hc | hc
 ·split at hc
  ·rw[List.mem_singleton.1 hc];decide
  ·cases hc
 ·have:=dgt_digit 20 _ hb1 c hc
  omega
theorem head_lst (n:Int) (h:i64 n):e8u.lst (numS n++ByteArray.mk #[(58:UInt8)]).size (byteEl (numS n++ByteArray.mk #[(58:UInt8)]))=numL n++[58]:=by
 have e:e8u.lst (numS n++ByteArray.mk #[(58:UInt8)]).size (byteEl (numS n++ByteArray.mk #[(58:UInt8)]))=bts (numS n++ByteArray.mk #[(58:UInt8)]):=byte_lst _
 rw[e,bts_app]
 unfold numS
 rw[bts_strOf (numL_range h)]
 rfl
theorem tx_scan (c:tx_GC) (l:List Int) (b:List Int):scan 0 (tx_S c) 0 l ((),b)=(.exit 0,(l.length:Int),(),b++escL l):=by
 rw[scan_fold (st:=tx_S c) (f:=fun (b:tx_GB) v=>((),b.2++esc1 v)) (fun _ _ _=>rfl),Int.zero_add]
 have:∀ (l:List Int) (b:List Int),l.foldl (fun (b:tx_GB) v=>((),b.2++esc1 v)) ((),b)=((),b++escL l):=by
  intro l
  induction l with
  | nil=>intro b;simp[escL]
  | cons a l ih=>intro b;rw[List.foldl_cons,ih,List.append_assoc];rfl
 rw[this]
theorem ints_lst (l:List Int):intsOf .u8 l.length (e8u.els l)=l:=by
 refine List.ext_getElem (by simp[intsOf]) fun i h1 h2=>?_
 simp only[intsOf,List.getElem_map,List.getElem_range,El.els,List.getD_eq_getElem?_getD,List.getElem?_eq_getElem h2,Option.getD_some]
 simp[intAt,Go.Sx.intOf,El.one',eInt,dInt,SV.int?]
theorem teA_eq (r:Rec) (hk:i64 r.key):teA_side r∧teA_F r=textS r:=by
 unfold teA_side teA_F textS
 cases hc:(chkR r != (0:Int)) with
 | true=>exact ⟨fun h=>(by cases h),rfl⟩
 | false=>
  have h64:=chkR_le hc
  have hn:=numL_len hk
  have hsz:(numS r.key).size=(numL r.key).length:=strOf_size _
  have hq:teA_q1 r=loopF tx_RR tx_M (tx_g (0,(r,(r.text.size:Int)),((),numL r.key++[58]))):=by
   unfold teA_q1
   rw[head_lst _ hk]
   rfl
  have hK:tx_K (r,(r.text.size:Int)) ((),numL r.key++[58]) 0:=⟨h64,by
   show ((numL r.key++[58]).length:Int)≤_
   rw[List.length_append]
   simp only[List.length_cons,List.length_nil]
   omega⟩
  have hl:(r.text.size:Int)=((bts r.text).length:Int):=by rw[bts_len]
  have hm:(bts r.text).length≤maxLen:=by rw[bts_len];unfold maxLen;omega
  have hr:loopF tx_RR tx_M (tx_g (0,(r,(r.text.size:Int)),((),numL r.key++[58])))=_:=ix_conj_run (φ:=tx_f) (ψ:=tx_g) (fun _=>rfl) (fun _=>rfl) tx_RF tx_P (r,(r.text.size:Int)) ((),numL r.key++[58]) hl hm hK
  have hs:scan 0 (tx_S (r,(r.text.size:Int))) 0 (bts r.text) ((),numL r.key++[58])=_:=tx_scan _ _ _
  have hb:(teA_q1 r).2.2.2.2.2=numL r.key++[58]++escL (bts r.text):=by
   rw[hq,hr]
   show (scan 0 (tx_S (r,(r.text.size:Int))) 0 (bts r.text) ((),numL r.key++[58])).2.2.2=_
   rw[hs]
  rw[hb,head_lst _ hk]
  refine ⟨fun _=>⟨hk,by omega,?_,Nat.le_refl _,fun _ _=>trivial,?_,⟨Nat.le_refl _,fun e _=>e8u.one_els _ e⟩,fun e _=>rfl⟩,?_⟩
  ·rw[ByteArray.size_append,hsz]
   unfold maxLen
   show (numL r.key).length+1≤_
   omega
  ·exact ⟨hl,hm,Int.le_refl _,by show (0:Int)≤_;omega,hK⟩
  ·rw[cond_false,cond_false,ints_lst,List.append_assoc]
   rfl
theorem teA_ok:FnPure Tryd.prog 43 aR dStr textS (fun r=>[i64 r.key]):=
 pure_congr (teA_okS _ fun r _ hp=>(teA_eq r (hp _ (List.mem_cons_self ..))).1) fun r _ hp=>(teA_eq r (hp _ (List.mem_cons_self ..))).2
theorem rt_scan (c:rt_GC) (l:List Int) (b:List Int):scan 0 (rt_S c) 0 l ((),strOf b)=(.exit 0,(l.length:Int),(),strOf (b++escL l)):=by
 rw[scan_fold (st:=rt_S c) (f:=fun (b:rt_GB) v=>((),b.2++strOf (esc1 v))) (fun _ _ _=>rfl),Int.zero_add]
 have:∀ (l:List Int) (b:List Int),l.foldl (fun (b:rt_GB) v=>((),b.2++strOf (esc1 v))) ((),strOf b)=((),strOf (b++escL l)):=by
  intro l
  induction l with
  | nil=>intro b;simp[escL]
  | cons a l ih=>intro b;rw[List.foldl_cons,strOf_app,ih,List.append_assoc];rfl
 rw[this]
theorem teB_eq (r:Rec) (hk:i64 r.key):teB_side r∧teB_F r=textS r:=by
 unfold teB_side teB_F textS
 cases hc:(chkR r != (0:Int)) with
 | true=>exact ⟨fun h=>(by cases h),rfl⟩
 | false=>
  have h64:=chkR_le hc
  have hn:=numL_len hk
  have hsz:(numS r.key).size=(numL r.key).length:=strOf_size _
  have h58:numS r.key++ByteArray.mk #[(58:UInt8)]=strOf (numL r.key++[58]):=strOf_app _ [58]
  rw[h58]
  have hK:rt_K r ((),strOf (numL r.key++[58])) 0:=⟨h64,by
   show ((strOf (numL r.key++[58])).size:Int)≤_
   rw[strOf_size,List.length_append]
   simp only[List.length_cons,List.length_nil]
   omega⟩
  have hl:(r.text.size:Int)=((bts r.text).length:Int):=by rw[bts_len]
  have hm:(bts r.text).length≤maxLen:=by rw[bts_len];unfold maxLen;omega
  have hq:teB_q1 r=loopF rt_RR rt_M (rt_g (0,r,((),strOf (numL r.key++[58])))):=by
   unfold teB_q1
   rw[h58]
   rfl
  have hr:loopF rt_RR rt_M (rt_g (0,r,((),strOf (numL r.key++[58]))))=_:=ix_conj_run (φ:=rt_f) (ψ:=rt_g) (fun _=>rfl) (fun _=>rfl) rt_RF rt_P r ((),strOf (numL r.key++[58])) hl hm hK
  have hs:scan 0 (rt_S r) 0 (bts r.text) ((),strOf (numL r.key++[58]))=_:=rt_scan _ _ _
  have hb:(teB_q1 r).2.2.2.2=strOf (numL r.key++[58]++escL (bts r.text)):=by
   rw[hq,hr]
   show (scan 0 (rt_S r) 0 (bts r.text) ((),strOf (numL r.key++[58]))).2.2.2=_
   rw[hs]
  rw[hb]
  refine ⟨fun _=>⟨hk,by omega,⟨hl,hm,Int.le_refl _,by show (0:Int)≤_;omega,hK⟩⟩,?_⟩
  rw[cond_false,cond_false,List.append_assoc]
  rfl
theorem teB_ok:FnPure Tryd.prog 44 aR dStr textS (fun r=>[i64 r.key]):=
 pure_congr (teB_okS _ fun r _ hp=>(teB_eq r (hp _ (List.mem_cons_self ..))).1) fun r _ hp=>(teB_eq r (hp _ (List.mem_cons_self ..))).2
def parseN (s:BA):Int×Bool:=bif numOk (bts s) then (numV (bts s),decide (numS (numV (bts s))=s)) else (0,false)
def digB (v:Int):Bool:=decide (48≤v)&&decide (v≤57)
theorem digB_iff (v:Int):(decide (v<48)||decide (v > 57))=!digB v:=by
 unfold digB
 rw[Bool.eq_iff_iff]
 simp only[Bool.or_eq_true,decide_eq_true_eq,Bool.not_eq_true',Bool.and_eq_false_iff,decide_eq_false_iff_not]
 omega
theorem dstep_eq {u v:Int} (h0:0≤u) (h1:u<1000000000000000000) (hv:digB v=true):dstep u v=10 * u+(v - 48):=by
 unfold digB at hv
 simp only[Bool.and_eq_true,decide_eq_true_eq] at hv
 unfold dstep
 rw[wrB (by omega),wrU (x:=10 * u) (by omega),wrU (x:=v - 48) (by omega),wrU (by omega)]
theorem pow_le18 {i:Nat} (h:i≤18):(10:Int) ^ i≤1000000000000000000:=by
 have:(10:Nat) ^ i≤10 ^ 18:=Nat.pow_le_pow_right (by decide) h
 have e:((10 ^ i:Nat):Int)=(10:Int) ^ i:=by simp
 rw[← e]
 have e2:(10:Nat) ^ 18=1000000000000000000:=by decide
 omega
theorem pa_scan (c:pa_GC):∀ (l:List Int) (i:Nat) (u r:Int) (o:Bool),0≤u→u<10 ^ i→i≤19 →
  (bif decide (i+l.length≤19)&&l.all digB then scan 0 (pa_S c) i l (u,r,o)=(.exit 0,((i+l.length:Nat):Int),(l.foldl (fun a c=>10 * a+(c - 48)) u,r,o)) else ∃ j u',scan 0 (pa_S c) i l (u,r,o)=(.ret,j,(u',0,false)))
 | [],i,u,r,o,_,_,hi=>by
  rw[show (decide (i+([]:List Int).length≤19)&&([]:List Int).all digB)=true by simpa using hi]
  rfl
 | v :: l,i,u,r,o,h0,h1,hi=>by
  have hs:pa_S c (u,r,o) (i:Int) v=bif !digB v||decide ((i:Int) > 18) then (.ret,(u,0,false)) else (.normal,(dstep u v,r,o)):=by
   unfold pa_S
   rw[← digB_iff,Bool.or_assoc]
  simp only[scan,hs,List.all_cons,List.length_cons]
  cases hv:digB v with
  | false=>
   simp only[Bool.false_and,Bool.and_false,cond_false,Bool.not_false,Bool.true_or,cond_true]
   exact ⟨_,_,rfl⟩
  | true=>
   simp only[Bool.not_true,Bool.false_or,Bool.true_and]
   by_cases h18:i≤18
   ·have hd:=dstep_eq h0 (Int.lt_of_lt_of_le h1 (pow_le18 h18)) hv
    have hv':=hv
    unfold digB at hv'
    simp only[Bool.and_eq_true,decide_eq_true_eq] at hv'
    have hp:(10:Int) ^ (i+1)=10 ^ i * 10:=Int.pow_succ ..
    have ih:=pa_scan c l (i+1) (10 * u+(v - 48)) r o (by omega) (by omega) (by omega)
    rw[decide_eq_false (by omega:¬ (i:Int) > 18),cond_false]
    simp only[hd]
    rw[show (((i+1:Nat):Int))=(i:Int)+1 by omega,show i+1+l.length=i+(l.length+1) by omega] at ih
    exact ih
   ·rw[decide_eq_true (by omega:(i:Int) > 18),cond_true,decide_eq_false (by omega)]
    exact ⟨_,_,rfl⟩
theorem pn_scan (c:pn_GC):∀ (l:List Int) (i:Nat) (u r:Int) (o:Bool),0≤u→u<10 ^ i→i+l.length≤19 →
  (bif l.all digB then scan 0 (pn_S c) i l (u,r,o)=(.exit 0,((i+l.length:Nat):Int),(l.foldl (fun a c=>10 * a+(c - 48)) u,r,o)) else ∃ j u',scan 0 (pn_S c) i l (u,r,o)=(.ret,j,(u',0,false)))
 | [],i,u,r,o,_,_,hi=>rfl
 | v :: l,i,u,r,o,h0,h1,hi=>by
  have hs:pn_S c (u,r,o) (i:Int) v=bif !digB v then (.ret,(u,0,false)) else (.normal,(dstep u v,r,o)):=by
   unfold pn_S
   rw[← digB_iff]
  simp only[List.length_cons] at hi
  simp only[scan,hs,List.all_cons,List.length_cons]
  cases hv:digB v with
  | false=>
   simp only[Bool.false_and,cond_false,Bool.not_false,cond_true]
   exact ⟨_,_,rfl⟩
  | true=>
   simp only[Bool.not_true,Bool.true_and,cond_false]
   have hd:=dstep_eq h0 (Int.lt_of_lt_of_le h1 (pow_le18 (by omega))) hv
   have hv':=hv
   unfold digB at hv'
   simp only[Bool.and_eq_true,decide_eq_true_eq] at hv'
   have hp:(10:Int) ^ (i+1)=10 ^ i * 10:=Int.pow_succ ..
   have ih:=pn_scan c l (i+1) (10 * u+(v - 48)) r o (by omega) (by omega) (by omega)
   simp only[hd]
   rw[show (((i+1:Nat):Int))=(i:Int)+1 by omega,show i+1+l.length=i+(l.length+1) by omega] at ih
   exact ih
def tailL (l:List Int):List Int:=if l.head?=some 45 then l.drop 1 else l
theorem pre45 (s:BA):Lib.hasPrefix s.data.toList #[(45:UInt8)].toList=decide ((bts s).head?=some 45)∧bts (ByteArray.mk (Lib.trimPrefix s.data.toList #[(45:UInt8)].toList).toArray)=tailL (bts s):=by
 have e:bts s=s.data.toList.map fun x=>(x.toNat:Int):=rfl
 have e2:bts (ByteArray.mk (Lib.trimPrefix s.data.toList #[(45:UInt8)].toList).toArray)=(Lib.trimPrefix s.data.toList #[(45:UInt8)].toList).map fun x=>(x.toNat:Int):=rfl
 rw[e2,e]
 generalize s.data.toList=l
 unfold Lib.trimPrefix tailL
 cases l with
 | nil=>exact ⟨rfl,rfl⟩
 | cons c l=>
  have hp:Lib.hasPrefix (c :: l) #[(45:UInt8)].toList=(45==c):=by
   show ([45]:List UInt8).isPrefixOf (c :: l)=_
   simp[List.isPrefixOf]
  rw[hp]
  simp only[List.map_cons,List.head?_cons,Option.some.injEq]
  by_cases h:c=45
  ·subst h;exact ⟨rfl,rfl⟩
  ·have h1:((45:UInt8)==c)=false:=by
    rw[beq_eq_false_iff_ne];exact fun h'=>h h'.symm
   have h2:(c.toNat:Int)≠45:=fun h'=>h (by
    apply UInt8.toNat_inj.1
    show c.toNat=45
    omega)
   rw[h1,decide_eq_false h2,if_neg h2]
   exact ⟨rfl,rfl⟩
theorem neg_wrap (x:Int):IntKind.i64.wrap ((0:Int) - x)=IntKind.i64.wrap (-x):=by rw[Int.zero_sub]
theorem wrap_i64 (x:Int):i64 (IntKind.i64.wrap x):=by
 have:=IntKind.wrap_i64 x
 unfold i64
 omega
theorem numV_eq (l:List Int):numV l=bif decide (l.head?=some 45) then IntKind.i64.wrap ((0:Int) - IntKind.i64.wrap (dval (tailL l))) else IntKind.i64.wrap (dval (tailL l)):=by
 unfold numV tailL
 by_cases h:l.head?=some 45
 ·simp only[h,if_true,decide_true,cond_true,neg_wrap]
 ·simp only[h,if_false,decide_false,cond_false]
theorem numOk_eq (l:List Int):numOk l=(decide (0+(tailL l).length≤19)&&(tailL l).all digB):=by
 rw[Nat.zero_add]
 rfl
theorem pa_fin (t:BA) (ht:t.size≤KB):bif decide (0+(bts t).length≤19)&&(bts t).all digB then (loopF pa_RR pa_M (pa_g (0,(t,(t.size:Int)),(0,0,false)))).1=.exit 0∧(loopF pa_RR pa_M (pa_g (0,(t,(t.size:Int)),(0,0,false)))).2.2.2.2.1=dval (bts t) else (loopF pa_RR pa_M (pa_g (0,(t,(t.size:Int)),(0,0,false)))).1=.ret∧(loopF pa_RR pa_M (pa_g (0,(t,(t.size:Int)),(0,0,false)))).2.2.2.2.2=(0,false):=by
 unfold KB at ht
 have hr:loopF pa_RR pa_M (pa_g (0,(t,(t.size:Int)),(0,0,false)))=_:=ix_conj_run (φ:=pa_f) (ψ:=pa_g) (fun _=>rfl) (fun _=>rfl) pa_RF pa_P (t,(t.size:Int)) (0,0,false) (by rw[bts_len]) (by show (bts t).length≤maxLen;rw[bts_len];unfold maxLen;omega) trivial
 rw[hr]
 have hp:=pa_scan (t,(t.size:Int)) (bts t) 0 0 0 false (Int.le_refl _) (by decide) (by decide)
 have e0:((0:Nat):Int)=0:=rfl
 rw[e0] at hp
 cases hb:decide (0+(bts t).length≤19)&&(bts t).all digB with
 | true=>
  rw[hb] at hp
  have hp:scan 0 (pa_S (t,(t.size:Int))) 0 (bts t) (0,0,false)=_:=hp
  show (scan 0 (pa_S (t,(t.size:Int))) 0 (bts t) (0,0,false)).1=_∧(scan 0 (pa_S (t,(t.size:Int))) 0 (bts t) (0,0,false)).2.2.1=_
  rw[hp]
  exact ⟨rfl,rfl⟩
 | false=>
  rw[hb] at hp
  obtain ⟨j,u',hp⟩:∃ j u',scan 0 (pa_S (t,(t.size:Int))) 0 (bts t) (0,0,false)=(.ret,j,(u',0,false)):=hp
  show (scan 0 (pa_S (t,(t.size:Int))) 0 (bts t) (0,0,false)).1=_∧(scan 0 (pa_S (t,(t.size:Int))) 0 (bts t) (0,0,false)).2.2.2=_
  rw[hp]
  exact ⟨rfl,rfl⟩
theorem pn_fin (t:BA) (ht:t.size≤19):bif (bts t).all digB then (loopF pn_RR pn_M (pn_g (0,t,(0,0,false)))).1=.exit 0∧(loopF pn_RR pn_M (pn_g (0,t,(0,0,false)))).2.1=t∧(loopF pn_RR pn_M (pn_g (0,t,(0,0,false)))).2.2.2.1=dval (bts t) else (loopF pn_RR pn_M (pn_g (0,t,(0,0,false)))).1=.ret∧(loopF pn_RR pn_M (pn_g (0,t,(0,0,false)))).2.2.2.2=(0,false):=by
 have hr:loopF pn_RR pn_M (pn_g (0,t,(0,0,false)))=_:=ix_conj_run (φ:=pn_f) (ψ:=pn_g) (fun _=>rfl) (fun _=>rfl) pn_RF pn_P t (0,0,false) (by rw[bts_len]) (by rw[bts_len];unfold maxLen;omega) trivial
 rw[hr]
 have hp:=pn_scan t (bts t) 0 0 0 false (Int.le_refl _) (by decide) (by rw[bts_len];omega)
 have e0:((0:Nat):Int)=0:=rfl
 rw[e0] at hp
 cases hb:(bts t).all digB with
 | true=>
  rw[hb] at hp
  have hp:scan 0 (pn_S t) 0 (bts t) (0,0,false)=_:=hp
  show (scan 0 (pn_S t) 0 (bts t) (0,0,false)).1=_∧t=t∧(scan 0 (pn_S t) 0 (bts t) (0,0,false)).2.2.1=_
  rw[hp]
  exact ⟨rfl,rfl,rfl⟩
 | false=>
  rw[hb] at hp
  obtain ⟨j,u',hp⟩:∃ j u',scan 0 (pn_S t) 0 (bts t) (0,0,false)=(.ret,j,(u',0,false)):=hp
  show (scan 0 (pn_S t) 0 (bts t) (0,0,false)).1=_∧(scan 0 (pn_S t) 0 (bts t) (0,0,false)).2.2.2=_
  rw[hp]
  exact ⟨rfl,rfl⟩
theorem tailL_len (l:List Int):(tailL l).length≤l.length∧((tailL l).length<l.length↔l.head?=some 45):=by
 unfold tailL
 cases l with
 | nil=>simp
 | cons c l=>
  by_cases h:(c :: l).head?=some 45
  ·rw[if_pos h];simp[h]
  ·rw[if_neg h];simp;simpa using h
theorem paA_eq (s:BA) (hs:s.size≤KB):paA_side s∧paA_F s=parseN s:=by
 obtain ⟨h1,h2⟩:=pre45 s
 have hlen:=(tailL_len (bts s)).1
 rw[bts_len] at hlen
 have hsz:(ByteArray.mk (Lib.trimPrefix s.data.toList #[(45:UInt8)].toList).toArray).size=(tailL (bts s)).length:=by rw[← bts_len,h2]
 unfold paA_side paA_F parseN paA_q1
 rw[h1]
 generalize ByteArray.mk (Lib.trimPrefix s.data.toList #[(45:UInt8)].toList).toArray=t at h2 hsz ⊢
 have ht:t.size≤KB:=by omega
 have hf:=pa_fin t ht
 rw[h2,← numOk_eq,] at hf
 rw[numV_eq]
 have hJ:Lp.ixJ pa_lim pa_xs pa_K (pa_f (t,(t.size:Int),(0:Int),(0:Int),(0:Int),false)):=⟨by show (t.size:Int)=((bts t).length:Int);rw[bts_len],by show (bts t).length≤maxLen;rw[bts_len];unfold KB at ht;unfold maxLen;omega,Int.le_refl _,by show (0:Int)≤_;omega,trivial⟩
 have hq:loopF (fun g=>pa_R g.fst g.snd.fst g.snd.snd.fst g.snd.snd.snd.fst g.snd.snd.snd.snd.fst g.snd.snd.snd.snd.snd) pa_M (t,(t.size:Int),(0:Int),(0:Int),(0:Int),false)=loopF pa_RR pa_M (pa_g (0,(t,(t.size:Int)),(0,0,false))):=rfl
 rw[hq]
 generalize loopF pa_RR pa_M (pa_g (0,(t,(t.size:Int)),(0,0,false)))=q at hf
 cases hb:numOk (bts s) with
 | true=>
  rw[hb] at hf
  obtain ⟨f1,f2⟩:=hf
  rw[f1,f2]
  refine ⟨⟨hJ,fun _=>?_⟩,rfl⟩
  cases decide ((bts s).head?=some 45) <;> exact wrap_i64 _
 | false=>
  rw[hb] at hf
  obtain ⟨f1,f2⟩:=hf
  rw[f1,f2]
  exact ⟨⟨hJ,fun h=>(by cases h)⟩,rfl⟩
theorem paA_ok:FnPure Tryd.prog 82 aB dIBo parseN (fun s=>[s.size≤KB]):=
 pure_congr (paA_okS _ fun r _ hp=>(paA_eq r (hp _ (List.mem_cons_self ..))).1) fun r _ hp=>(paA_eq r (hp _ (List.mem_cons_self ..))).2
theorem cutS45 (s:BA):∀ t,t=(bif decide ((↑(ByteArray.size s):Int) > (0:Int))&&(↑(ByteArray.get! s (0:Nat)).toNat:Int)==(45:Int) then ByteArray.extract s (1:Nat) (ByteArray.size s) else s)→bts t=tailL (bts s):=by
 rintro t rfl
 rw[bts_get]
 have hl:=bts_len s
 unfold tailL
 cases h:bts s with
 | nil=>
  have h0:s.size=0:=by rw[← hl,h];rfl
  rw[h0]
  show bts (bif false&&_ then _ else s)=_
  rw[Bool.false_and,cond_false,h];rfl
 | cons c l=>
  have h0:s.size=l.length+1:=by rw[← hl,h];rfl
  rw[h0,decide_eq_true (by omega),Bool.true_and]
  show bts (bif c==45 then _ else s)=_
  simp only[List.head?_cons,Option.some.injEq]
  by_cases hc:c=45
  ·subst hc
   show bts (s.extract 1 (l.length+1))=_
   rw[bts_ext,h,if_pos rfl,List.take_of_length_le (by simp)]
  ·rw[beq_eq_false_iff_ne.2 hc,cond_false,if_neg hc,h]
theorem paB_eq (s:BA) (hs:s.size≤KB):paB_side s∧paB_F s=parseN s:=by
 unfold paB_side paB_F parseN paB_q1
 have hcut:=cutS45 s
 have hl:=tailL_len (bts s)
 rw[bts_len] at hl
 have hd:decide ((↑(ByteArray.size s):Int) > (0:Int))=true→(0:Int)≤(0:Int)∧(0:Int)<(↑(ByteArray.size s):Int):=fun h=>⟨Int.le_refl _,of_decide_eq_true h⟩
 have hd2:(decide ((↑(ByteArray.size s):Int) > (0:Int))&&(↑(ByteArray.get! s (0:Nat)).toNat:Int)==(45:Int))=true→(0:Int)≤(1:Int)∧(1:Int)≤(↑(ByteArray.size s):Int):=fun h=>by
  rw[Bool.and_eq_true] at h
  have:=of_decide_eq_true h.1
  omega
 generalize (bif decide ((↑(ByteArray.size s):Int) > (0:Int))&&(↑(ByteArray.get! s (0:Nat)).toNat:Int)==(45:Int) then ByteArray.extract s (1:Nat) (ByteArray.size s) else s)=t at hcut ⊢
 have h2:=hcut t rfl
 have hsz:t.size=(tailL (bts s)).length:=by rw[← bts_len,h2]
 have hle:t.size≤s.size:=by omega
 have hq:loopF (fun g=>pn_R g.fst g.snd.fst g.snd.snd.fst g.snd.snd.snd.fst g.snd.snd.snd.snd) pn_M (t,(0:Int),(0:Int),(0:Int),false)=loopF pn_RR pn_M (pn_g (0,t,(0,0,false))):=rfl
 rw[hq]
 have hN:=numOk_eq (bts s)
 rw[Nat.zero_add,← hsz] at hN
 by_cases h19:(t.size:Int) > 19
 ·rw[decide_eq_true h19]
  rw[decide_eq_false (by omega),Bool.false_and] at hN
  rw[hN]
  exact ⟨⟨hd,fun _=>Nat.le_refl _,hd2,fun h=>(by cases h)⟩,rfl⟩
 ·rw[decide_eq_false h19]
  rw[decide_eq_true (by omega),Bool.true_and] at hN
  have hf:=pn_fin t (by omega)
  rw[h2,← hN] at hf
  have hJ:Lp.ixJ pn_lim pn_xs pn_K (pn_f (t,(0:Int),(0:Int),(0:Int),false)):=⟨by show (t.size:Int)=((bts t).length:Int);rw[bts_len],by show (bts t).length≤maxLen;rw[bts_len];unfold maxLen;omega,Int.le_refl _,by show (0:Int)≤_;omega,trivial⟩
  generalize loopF pn_RR pn_M (pn_g (0,t,(0,0,false)))=q at hf
  rw[numV_eq]
  cases hb:numOk (bts s) with
  | true=>
   rw[hb] at hf
   obtain ⟨f1,f2,f3⟩:=hf
   have e:decide ((t.size:Int)<(s.size:Int))=decide ((bts s).head?=some 45):=by
    rw[decide_eq_decide,← hl.2]
    omega
   rw[f1,f2,f3,e]
   refine ⟨⟨hd,fun _=>Nat.le_refl _,hd2,fun _=>⟨hJ,fun _=>?_⟩⟩,rfl⟩
   cases decide ((bts s).head?=some 45) <;> exact wrap_i64 _
  | false=>
   rw[hb] at hf
   obtain ⟨f1,f2⟩:=hf
   rw[f1,f2]
   exact ⟨⟨hd,fun _=>Nat.le_refl _,hd2,fun _=>⟨hJ,fun h=>(by cases h)⟩⟩,rfl⟩
theorem paB_ok:FnPure Tryd.prog 84 aB dIBo parseN (fun s=>[s.size≤KB]):=
 pure_congr (paB_okS _ fun r _ hp=>(paB_eq r (hp _ (List.mem_cons_self ..))).1) fun r _ hp=>(paB_eq r (hp _ (List.mem_cons_self ..))).2
noncomputable def tabN9:PTab Tryd.prog:=(((tabN7.cons 43 (pconP aR dStr textS (fun r=>[i64 r.key])) (conP_ok teA_ok puS)).cons 44 (pconP aR dStr textS (fun r=>[i64 r.key])) (conP_ok teB_ok puS)).cons 82 (pconP aB dIBo parseN (fun s=>[s.size≤KB])) (conP_ok paA_ok puIBo)).cons 84 (pconP aB dIBo parseN (fun s=>[s.size≤KB])) (conP_ok paB_ok puIBo)
end Go.Proofs.YtmegbepjdololaaDoor

namespace Go.Proofs.YtmegbepjdololaaDoor
open Go.RowKit Go.Sx
set_option maxRecDepth 100000
set_option linter.unusedVariables false
noncomputable def rhx_F (c:Int):Dv.T dI:=
 bif (48:Int)==c then (0:Int)
 else bif (49:Int)==c then (1:Int) else bif (50:Int)==c then (2:Int) else bif (51:Int)==c then (3:Int) else bif (52:Int)==c then (4:Int) else bif (53:Int)==c then (5:Int) else bif (54:Int)==c then (6:Int) else bif (55:Int)==c then (7:Int) else bif (56:Int)==c then (8:Int) else bif (57:Int)==c then (9:Int) else bif (97:Int)==c then (10:Int) else bif (98:Int)==c then (11:Int) else bif (99:Int)==c then (12:Int) else bif (100:Int)==c then (13:Int) else bif (101:Int)==c then (14:Int) else bif (102:Int)==c then (15:Int) else (-1:Int)
def rhx_side (c:Int):Prop:=
 ((0:Int)≤(0:Int)∧(0:Int)<(16:Int))∧(((48:Int)==c)=false→((0:Int)≤(1:Int)∧(1:Int)<(16:Int))∧(((49:Int)==c)=false→((0:Int)≤(2:Int)∧(2:Int)<(16:Int))∧(((50:Int)==c)=false→((0:Int)≤(3:Int)∧(3:Int)<(16:Int))∧(((51:Int)==c)=false→((0:Int)≤(4:Int)∧(4:Int)<(16:Int))∧(((52:Int)==c)=false→((0:Int)≤(5:Int)∧(5:Int)<(16:Int))∧(((53:Int)==c)=false→((0:Int)≤(6:Int)∧(6:Int)<(16:Int))∧(((54:Int)==c)=false→((0:Int)≤(7:Int)∧(7:Int)<(16:Int))∧(((55:Int)==c)=false→((0:Int)≤(8:Int)∧(8:Int)<(16:Int))∧(((56:Int)==c)=false→((0:Int)≤(9:Int)∧(9:Int)<(16:Int))∧(((57:Int)==c)=false→((0:Int)≤(10:Int)∧(10:Int)<(16:Int))∧(((97:Int)==c)=false→((0:Int)≤(11:Int)∧(11:Int)<(16:Int))∧(((98:Int)==c)=false→((0:Int)≤(12:Int)∧(12:Int)<(16:Int))∧(((99:Int)==c)=false→((0:Int)≤(13:Int)∧(13:Int)<(16:Int))∧(((100:Int)==c)=false→((0:Int)≤(14:Int)∧(14:Int)<(16:Int))∧(((101:Int)==c)=false→(0:Int)≤(15:Int)∧(15:Int)<(16:Int))))))))))))))))
theorem rhx_okS (pre:DA.T a8→List Prop) (h:∀ g,DA.bd a8 g→(∀ p∈pre g,p)→rhx_side g):FnPure Tryd.prog 85 a8 dI (fun g=>rhx_F g) pre:=pure_of_sideS (Γ:=(PTab.gamz tabN9 [] [(85,2,17)])) (Λ:=noΛ) (PTab.okz tabN9 [] [(85,2,17)]) noΛ_ok 100 default (fun g=>rhx_side g) (fun g=>by kernel_rfl) (fun g=>by kernel_rfl) h
end Go.Proofs.YtmegbepjdololaaDoor

namespace Go.Proofs.YtmegbepjdololaaDoor
open Go.RowKit Go.Sx Go.Lp
set_option maxRecDepth 100000
theorem rhx_all:∀ c<256,rhx_F ((c:Nat):Int)=hexV ((c:Nat):Int):=by
 unfold rhx_F
 decide
theorem sixb_all:∀ c<256,Lib.indexByte HEX.data.toList (((c:Nat):Int).toNat.toUInt8)=hexV ((c:Nat):Int):=by decide
theorem hexOk {c:Int} (h:0≤c∧c≤255):rhx_F c=hexV c∧Lib.indexByte HEX.data.toList c.toNat.toUInt8=hexV c:=by
 obtain ⟨k,rfl⟩:∃ k:Nat,c=k:=⟨c.toNat,by omega⟩
 exact ⟨rhx_all k (by omega),sixb_all k (by omega)⟩
theorem rhx_ok':FnPure Tryd.prog 85 a8 dI hexV (fun c=>[0≤c∧c≤255]):=
 pure_congr (rhx_okS _ fun c _ _=>by
  show rhx_side c
  unfold rhx_side
  repeat' (first | apply And.intro | intro _)
  all_goals omega) fun c _ hp=>(hexOk (hp _ (List.mem_cons_self ..))).1
noncomputable def tabN10:PTab Tryd.prog:=tabN9.cons 85 (pconP a8 dI hexV (fun c=>[0≤c∧c≤255])) (conP_ok rhx_ok' puI)
end Go.Proofs.YtmegbepjdololaaDoor

namespace Go.Proofs.YtmegbepjdololaaDoor
open Go.RowKit Go.Sx
set_option maxRecDepth 100000
set_option linter.unusedVariables false
abbrev ps_G:Type:=Unit×Rec×BA×List Int×Int
noncomputable def ps_LP:LP 1 ps_G:=.pair (.fix 1 2 (.p 0 0)) (.pair (.obj 1 0 46 eR) (.pair (.slot 1 5 dStr) (.pair (.row 1 9 5 e8u) (.slot 1 3 dI))))
noncomputable def ps_R (_u:Unit) (w:Rec) (s:BA) (b:List Int) (e:Int):Ex×ps_G:=
 bif !decide (s=ByteArray.mk #[]) then bif !(↑(ByteArray.get! s (0:Nat)).toNat:Int) != (37:Int)&&decide ((↑(ByteArray.size s):Int)<(3:Int)) then (Ex.ret,(),Rec.mk (0:Int) (ByteArray.mk #[]),s,e8u.ag b,(50:Int)) else bif !(↑(ByteArray.get! s (0:Nat)).toNat:Int) != (37:Int)&&(decide (Lib.indexByte #[(48:UInt8),(49:UInt8),(50:UInt8),(51:UInt8),(52:UInt8),(53:UInt8),(54:UInt8),(55:UInt8),(56:UInt8),(57:UInt8),(97:UInt8),(98:UInt8),(99:UInt8),(100:UInt8),(101:UInt8),(102:UInt8)].toList (↑(ByteArray.get! s (1:Nat)).toNat:Int).toNat.toUInt8<(0:Int))||decide (Lib.indexByte #[(48:UInt8),(49:UInt8),(50:UInt8),(51:UInt8),(52:UInt8),(53:UInt8),(54:UInt8),(55:UInt8),(56:UInt8),(57:UInt8),(97:UInt8),(98:UInt8),(99:UInt8),(100:UInt8),(101:UInt8),(102:UInt8)].toList (↑(ByteArray.get! s (2:Nat)).toNat:Int).toNat.toUInt8<(0:Int))) then (Ex.ret,(),Rec.mk (0:Int) (ByteArray.mk #[]),s,e8u.ag b,(50:Int)) else (Ex.normal,(),w,bif (↑(ByteArray.get! s (0:Nat)).toNat:Int) != (37:Int) then ByteArray.extract s (1:Nat) (ByteArray.size s) else ByteArray.extract s (3:Nat) (ByteArray.size s),bif (↑(ByteArray.get! s (0:Nat)).toNat:Int) != (37:Int) then e8u.lst (min (bif (↑(ByteArray.get! s (0:Nat)).toNat:Int) != (37:Int) then b.length+(1:Nat) else b.length+(1:Nat)) b.length) (e8u.els b)++List.map (fun x=>(↑(ByteArray.get! s (0:Nat)).toNat:Int)) (List.range ((bif (↑(ByteArray.get! s (0:Nat)).toNat:Int) != (37:Int) then b.length+(1:Nat) else b.length+(1:Nat)) - b.length)) else e8u.lst (min (bif (↑(ByteArray.get! s (0:Nat)).toNat:Int) != (37:Int) then b.length+(1:Nat) else b.length+(1:Nat)) b.length) (e8u.els b)++List.map (fun x=>IntKind.u8.wrap (iOr IntKind.i64 (iShl IntKind.i64 (Lib.indexByte #[(48:UInt8),(49:UInt8),(50:UInt8),(51:UInt8),(52:UInt8),(53:UInt8),(54:UInt8),(55:UInt8),(56:UInt8),(57:UInt8),(97:UInt8),(98:UInt8),(99:UInt8),(100:UInt8),(101:UInt8),(102:UInt8)].toList (↑(ByteArray.get! s (1:Nat)).toNat:Int).toNat.toUInt8) (4:Int)) (Lib.indexByte #[(48:UInt8),(49:UInt8),(50:UInt8),(51:UInt8),(52:UInt8),(53:UInt8),(54:UInt8),(55:UInt8),(56:UInt8),(57:UInt8),(97:UInt8),(98:UInt8),(99:UInt8),(100:UInt8),(101:UInt8),(102:UInt8)].toList (↑(ByteArray.get! s (2:Nat)).toNat:Int).toNat.toUInt8))) (List.range ((bif (↑(ByteArray.get! s (0:Nat)).toNat:Int) != (37:Int) then b.length+(1:Nat) else b.length+(1:Nat)) - b.length)),e)
 else (Ex.exit (0:Nat),(),w,s,e8u.ag b,e)
def ps_side (_u:Unit) (w:Rec) (s:BA) (b:List Int) (e:Int):Prop:=
 ((!decide (s=ByteArray.mk #[]))=true→((0:Int)≤(0:Int)∧(0:Int)<(↑(ByteArray.size s):Int))∧(((↑(ByteArray.get! s (0:Nat)).toNat:Int) != (37:Int))=true→(0:Int)≤(0:Int)∧(0:Int)<(↑(ByteArray.size s):Int))∧(((↑(ByteArray.get! s (0:Nat)).toNat:Int) != (37:Int))=true→b.length≤b.length∧True∧b.length+(1:Nat)≤maxLen∧(b.length+(1:Nat)) * Tryd.prog.types[(5:Nat)].bytes≤(140737488355328:Nat))∧(((↑(ByteArray.get! s (0:Nat)).toNat:Int) != (37:Int))=true→ByteArray.size s≤ByteArray.size s)∧(((↑(ByteArray.get! s (0:Nat)).toNat:Int) != (37:Int))=true→(0:Int)≤(1:Int)∧(1:Int)≤(↑(ByteArray.size s):Int))∧((!(↑(ByteArray.get! s (0:Nat)).toNat:Int) != (37:Int)&&decide ((↑(ByteArray.size s):Int)<(3:Int)))=true→b.length≤b.length∧∀ (e:Nat),e<b.length→True)∧((!(↑(ByteArray.get! s (0:Nat)).toNat:Int) != (37:Int)&&decide ((↑(ByteArray.size s):Int)<(3:Int)))=false→((!(↑(ByteArray.get! s (0:Nat)).toNat:Int) != (37:Int))=true→(0:Int)≤(1:Int)∧(1:Int)<(↑(ByteArray.size s):Int))∧((!(↑(ByteArray.get! s (0:Nat)).toNat:Int) != (37:Int))=true→(0:Int)≤(2:Int)∧(2:Int)<(↑(ByteArray.size s):Int))∧((!(↑(ByteArray.get! s (0:Nat)).toNat:Int) != (37:Int)&&(decide (Lib.indexByte #[(48:UInt8),(49:UInt8),(50:UInt8),(51:UInt8),(52:UInt8),(53:UInt8),(54:UInt8),(55:UInt8),(56:UInt8),(57:UInt8),(97:UInt8),(98:UInt8),(99:UInt8),(100:UInt8),(101:UInt8),(102:UInt8)].toList (↑(ByteArray.get! s (1:Nat)).toNat:Int).toNat.toUInt8<(0:Int))||decide (Lib.indexByte #[(48:UInt8),(49:UInt8),(50:UInt8),(51:UInt8),(52:UInt8),(53:UInt8),(54:UInt8),(55:UInt8),(56:UInt8),(57:UInt8),(97:UInt8),(98:UInt8),(99:UInt8),(100:UInt8),(101:UInt8),(102:UInt8)].toList (↑(ByteArray.get! s (2:Nat)).toNat:Int).toNat.toUInt8<(0:Int))))=true→b.length≤b.length∧∀ (e:Nat),e<b.length→True)∧((!(↑(ByteArray.get! s (0:Nat)).toNat:Int) != (37:Int)&&(decide (Lib.indexByte #[(48:UInt8),(49:UInt8),(50:UInt8),(51:UInt8),(52:UInt8),(53:UInt8),(54:UInt8),(55:UInt8),(56:UInt8),(57:UInt8),(97:UInt8),(98:UInt8),(99:UInt8),(100:UInt8),(101:UInt8),(102:UInt8)].toList (↑(ByteArray.get! s (1:Nat)).toNat:Int).toNat.toUInt8<(0:Int))||decide (Lib.indexByte #[(48:UInt8),(49:UInt8),(50:UInt8),(51:UInt8),(52:UInt8),(53:UInt8),(54:UInt8),(55:UInt8),(56:UInt8),(57:UInt8),(97:UInt8),(98:UInt8),(99:UInt8),(100:UInt8),(101:UInt8),(102:UInt8)].toList (↑(ByteArray.get! s (2:Nat)).toNat:Int).toNat.toUInt8<(0:Int))))=false→((!(↑(ByteArray.get! s (0:Nat)).toNat:Int) != (37:Int))=true→b.length≤b.length∧True∧b.length+(1:Nat)≤maxLen∧(b.length+(1:Nat)) * Tryd.prog.types[(5:Nat)].bytes≤(140737488355328:Nat))∧((!(↑(ByteArray.get! s (0:Nat)).toNat:Int) != (37:Int))=true→ByteArray.size s≤ByteArray.size s)∧((!(↑(ByteArray.get! s (0:Nat)).toNat:Int) != (37:Int))=true→(0:Int)≤(3:Int)∧(3:Int)≤(↑(ByteArray.size s):Int))∧((bif (↑(ByteArray.get! s (0:Nat)).toNat:Int) != (37:Int) then b.length+(1:Nat) else b.length+(1:Nat))≤bif (↑(ByteArray.get! s (0:Nat)).toNat:Int) != (37:Int) then b.length+(1:Nat) else b.length+(1:Nat))∧(∀ (e:Nat),e<min (bif (↑(ByteArray.get! s (0:Nat)).toNat:Int) != (37:Int) then b.length+(1:Nat) else b.length+(1:Nat)) b.length→True)∧(∀ (e:Nat),e<(bif (↑(ByteArray.get! s (0:Nat)).toNat:Int) != (37:Int) then b.length+(1:Nat) else b.length+(1:Nat)) - b.length→True)∧(∀ (e:Nat),e<min (bif (↑(ByteArray.get! s (0:Nat)).toNat:Int) != (37:Int) then b.length+(1:Nat) else b.length+(1:Nat)) b.length→True)∧∀ (e:Nat),e<(bif (↑(ByteArray.get! s (0:Nat)).toNat:Int) != (37:Int) then b.length+(1:Nat) else b.length+(1:Nat)) - b.length→True)))∧((!decide (s=ByteArray.mk #[]))=false→b.length≤b.length∧∀ (e:Nat),e<b.length→True)
theorem ps_one:((loopsOf Tryd.prog 41).filter fun c=>Nat.beq (lkey c) 6).length=1:=by kernel_rfl
theorem ps_es (g:ps_G):(ps_R g.1 g.2.1 g.2.2.1 g.2.2.2.1 g.2.2.2.2).1=.normal∨(ps_R g.1 g.2.1 g.2.2.1 g.2.2.2.1 g.2.2.2.2).1∈([.ret,.exit 0]:List Ex):=by
 unfold ps_R
 repeat' (first | (left;rfl) | (right;simp only[cond_true,cond_false];simp;done) | (rw[Bool.cond_eq_ite];split))
noncomputable abbrev ps_C (Inv:ps_G→List Prop) (m:ps_G→Nat):LCon:=loopR [.ret,.exit 0] (loopBody Tryd.prog 41 6) ps_LP [] 85 Inv (fun g=>ps_R g.1 g.2.1 g.2.2.1 g.2.2.2.1 g.2.2.2.2) m
theorem ps_loop (Inv:ps_G→List Prop) (m:ps_G→Nat) (hs:∀ g,allP (Inv g)→ps_side g.1 g.2.1 g.2.2.1 g.2.2.2.1 g.2.2.2.2) (hg:Goes (fun g:ps_G=>ps_R g.1 g.2.1 g.2.2.1 g.2.2.2.1 g.2.2.2.2) m fun g=>allP (Inv g)):∀ b∈loopsOf Tryd.prog 41,lkey b=6→LoopOk Tryd.prog b (ps_C Inv m).g:=loop_run (Γ:=(PTab.gamz tabN10 [] [])) (Λ:=noΛ) (PTab.okz tabN10 [] []) noΛ_ok 100 41 6 85 ps_LP [] Inv (fun g=>ps_R g.1 g.2.1 g.2.2.1 g.2.2.2.1 g.2.2.2.2) (fun g=>ps_side g.1 g.2.1 g.2.2.1 g.2.2.2.1 g.2.2.2.2) m default [.ret,.exit 0] ps_one (fun rd T B HL HB ds g=>by kernel_rfl) (fun rd T B HL HB ds g=>by kernel_rfl) hs hg ps_es
abbrev rp_G:Type:=Unit×Rec×BA×Int×List Int×Int
noncomputable def rp_LP:LP 1 rp_G:=.pair (.fix 1 2 (.p 0 0)) (.pair (.obj 1 0 46 eR) (.pair (.slot 1 0 dStr) (.pair (.slot 1 8 dI) (.pair (.row 1 7 5 e8u) (.slot 1 3 dI)))))
noncomputable def rp_R (_u:Unit) (w:Rec) (s:BA) (i:Int) (b:List Int) (e:Int):Ex×rp_G:=
 bif decide (i<(↑(ByteArray.size s):Int)) then bif !(↑(ByteArray.get! s i.toNat).toNat:Int) != (37:Int)&&(decide (IntKind.i64.wrap (i+(2:Int))≥(↑(ByteArray.size s):Int))||(decide (Lp.hexV (↑(ByteArray.get! s (IntKind.i64.wrap (i+(1:Int))).toNat).toNat:Int)<(0:Int))||decide (Lp.hexV (↑(ByteArray.get! s (IntKind.i64.wrap (i+(2:Int))).toNat).toNat:Int)<(0:Int)))) then (Ex.ret,(),Rec.mk (0:Int) (ByteArray.mk #[]),s,i,e8u.ag b,(50:Int)) else (Ex.normal,(),w,s,IntKind.i64.wrap ((bif (↑(ByteArray.get! s i.toNat).toNat:Int) != (37:Int) then i else IntKind.i64.wrap (i+(2:Int)))+(1:Int)),bif (↑(ByteArray.get! s i.toNat).toNat:Int) != (37:Int) then e8u.lst (min (bif (↑(ByteArray.get! s i.toNat).toNat:Int) != (37:Int) then b.length+(1:Nat) else b.length+(1:Nat)) b.length) (e8u.els b)++List.map (fun x=>(↑(ByteArray.get! s i.toNat).toNat:Int)) (List.range ((bif (↑(ByteArray.get! s i.toNat).toNat:Int) != (37:Int) then b.length+(1:Nat) else b.length+(1:Nat)) - b.length)) else e8u.lst (min (bif (↑(ByteArray.get! s i.toNat).toNat:Int) != (37:Int) then b.length+(1:Nat) else b.length+(1:Nat)) b.length) (e8u.els b)++List.map (fun x=>IntKind.u8.wrap (IntKind.i64.wrap (IntKind.i64.wrap ((16:Int) * Lp.hexV (↑(ByteArray.get! s (IntKind.i64.wrap (i+(1:Int))).toNat).toNat:Int))+Lp.hexV (↑(ByteArray.get! s (IntKind.i64.wrap (i+(2:Int))).toNat).toNat:Int)))) (List.range ((bif (↑(ByteArray.get! s i.toNat).toNat:Int) != (37:Int) then b.length+(1:Nat) else b.length+(1:Nat)) - b.length)),e)
 else (Ex.exit (2:Nat),(),w,s,i,e8u.ag b,e)
def rp_side (_u:Unit) (w:Rec) (s:BA) (i:Int) (b:List Int) (e:Int):Prop:=
 (decide (i<(↑(ByteArray.size s):Int))=true→((0:Int)≤i∧i<(↑(ByteArray.size s):Int))∧(((↑(ByteArray.get! s i.toNat).toNat:Int) != (37:Int))=true→(0:Int)≤i∧i<(↑(ByteArray.size s):Int))∧(((↑(ByteArray.get! s i.toNat).toNat:Int) != (37:Int))=true→b.length≤b.length∧True∧b.length+(1:Nat)≤maxLen∧(b.length+(1:Nat)) * Tryd.prog.types[(5:Nat)].bytes≤(140737488355328:Nat))∧((!(↑(ByteArray.get! s i.toNat).toNat:Int) != (37:Int))=true→(!decide (IntKind.i64.wrap (i+(2:Int))≥(↑(ByteArray.size s):Int)))=true→(0:Int)≤IntKind.i64.wrap (i+(1:Int))∧IntKind.i64.wrap (i+(1:Int))<(↑(ByteArray.size s):Int))∧((!(↑(ByteArray.get! s i.toNat).toNat:Int) != (37:Int))=true→(!decide (IntKind.i64.wrap (i+(2:Int))≥(↑(ByteArray.size s):Int)))=true→(0:Int)≤(↑(ByteArray.get! s (IntKind.i64.wrap (i+(1:Int))).toNat).toNat:Int)∧(↑(ByteArray.get! s (IntKind.i64.wrap (i+(1:Int))).toNat).toNat:Int)≤(255:Int))∧((!(↑(ByteArray.get! s i.toNat).toNat:Int) != (37:Int))=true→(!decide (IntKind.i64.wrap (i+(2:Int))≥(↑(ByteArray.size s):Int)))=true→(!decide (Lp.hexV (↑(ByteArray.get! s (IntKind.i64.wrap (i+(1:Int))).toNat).toNat:Int)<(0:Int)))=true→(0:Int)≤IntKind.i64.wrap (i+(2:Int))∧IntKind.i64.wrap (i+(2:Int))<(↑(ByteArray.size s):Int))∧((!(↑(ByteArray.get! s i.toNat).toNat:Int) != (37:Int))=true→(!decide (IntKind.i64.wrap (i+(2:Int))≥(↑(ByteArray.size s):Int)))=true→(!decide (Lp.hexV (↑(ByteArray.get! s (IntKind.i64.wrap (i+(1:Int))).toNat).toNat:Int)<(0:Int)))=true→(0:Int)≤(↑(ByteArray.get! s (IntKind.i64.wrap (i+(2:Int))).toNat).toNat:Int)∧(↑(ByteArray.get! s (IntKind.i64.wrap (i+(2:Int))).toNat).toNat:Int)≤(255:Int))∧((!(↑(ByteArray.get! s i.toNat).toNat:Int) != (37:Int)&&(decide (IntKind.i64.wrap (i+(2:Int))≥(↑(ByteArray.size s):Int))||(decide (Lp.hexV (↑(ByteArray.get! s (IntKind.i64.wrap (i+(1:Int))).toNat).toNat:Int)<(0:Int))||decide (Lp.hexV (↑(ByteArray.get! s (IntKind.i64.wrap (i+(2:Int))).toNat).toNat:Int)<(0:Int)))))=true→b.length≤b.length∧∀ (e:Nat),e<b.length→True)∧((!(↑(ByteArray.get! s i.toNat).toNat:Int) != (37:Int)&&(decide (IntKind.i64.wrap (i+(2:Int))≥(↑(ByteArray.size s):Int))||(decide (Lp.hexV (↑(ByteArray.get! s (IntKind.i64.wrap (i+(1:Int))).toNat).toNat:Int)<(0:Int))||decide (Lp.hexV (↑(ByteArray.get! s (IntKind.i64.wrap (i+(2:Int))).toNat).toNat:Int)<(0:Int)))))=false→((!(↑(ByteArray.get! s i.toNat).toNat:Int) != (37:Int))=true→(0:Int)≤IntKind.i64.wrap (i+(1:Int))∧IntKind.i64.wrap (i+(1:Int))<(↑(ByteArray.size s):Int))∧((!(↑(ByteArray.get! s i.toNat).toNat:Int) != (37:Int))=true→(0:Int)≤(↑(ByteArray.get! s (IntKind.i64.wrap (i+(1:Int))).toNat).toNat:Int)∧(↑(ByteArray.get! s (IntKind.i64.wrap (i+(1:Int))).toNat).toNat:Int)≤(255:Int))∧((!(↑(ByteArray.get! s i.toNat).toNat:Int) != (37:Int))=true→(0:Int)≤IntKind.i64.wrap (i+(2:Int))∧IntKind.i64.wrap (i+(2:Int))<(↑(ByteArray.size s):Int))∧((!(↑(ByteArray.get! s i.toNat).toNat:Int) != (37:Int))=true→(0:Int)≤(↑(ByteArray.get! s (IntKind.i64.wrap (i+(2:Int))).toNat).toNat:Int)∧(↑(ByteArray.get! s (IntKind.i64.wrap (i+(2:Int))).toNat).toNat:Int)≤(255:Int))∧((!(↑(ByteArray.get! s i.toNat).toNat:Int) != (37:Int))=true→b.length≤b.length∧True∧b.length+(1:Nat)≤maxLen∧(b.length+(1:Nat)) * Tryd.prog.types[(5:Nat)].bytes≤(140737488355328:Nat))∧((bif (↑(ByteArray.get! s i.toNat).toNat:Int) != (37:Int) then b.length+(1:Nat) else b.length+(1:Nat))≤bif (↑(ByteArray.get! s i.toNat).toNat:Int) != (37:Int) then b.length+(1:Nat) else b.length+(1:Nat))∧(∀ (e:Nat),e<min (bif (↑(ByteArray.get! s i.toNat).toNat:Int) != (37:Int) then b.length+(1:Nat) else b.length+(1:Nat)) b.length→True)∧(∀ (e:Nat),e<(bif (↑(ByteArray.get! s i.toNat).toNat:Int) != (37:Int) then b.length+(1:Nat) else b.length+(1:Nat)) - b.length→True)∧(∀ (e:Nat),e<min (bif (↑(ByteArray.get! s i.toNat).toNat:Int) != (37:Int) then b.length+(1:Nat) else b.length+(1:Nat)) b.length→True)∧∀ (e:Nat),e<(bif (↑(ByteArray.get! s i.toNat).toNat:Int) != (37:Int) then b.length+(1:Nat) else b.length+(1:Nat)) - b.length→True))∧(decide (i<(↑(ByteArray.size s):Int))=false→b.length≤b.length∧∀ (e:Nat),e<b.length→True)
theorem rp_one:((loopsOf Tryd.prog 42).filter fun c=>Nat.beq (lkey c) 9).length=1:=by kernel_rfl
theorem rp_es (g:rp_G):(rp_R g.1 g.2.1 g.2.2.1 g.2.2.2.1 g.2.2.2.2.1 g.2.2.2.2.2).1=.normal∨(rp_R g.1 g.2.1 g.2.2.1 g.2.2.2.1 g.2.2.2.2.1 g.2.2.2.2.2).1∈([.ret,.exit 2]:List Ex):=by
 unfold rp_R
 repeat' (first | (left;rfl) | (right;simp only[cond_true,cond_false];simp;done) | (rw[Bool.cond_eq_ite];split))
noncomputable abbrev rp_C (Inv:rp_G→List Prop) (m:rp_G→Nat):LCon:=loopR [.ret,.exit 2] (loopBody Tryd.prog 42 9) rp_LP [] 116 Inv (fun g=>rp_R g.1 g.2.1 g.2.2.1 g.2.2.2.1 g.2.2.2.2.1 g.2.2.2.2.2) m
theorem rp_loop (Inv:rp_G→List Prop) (m:rp_G→Nat) (hs:∀ g,allP (Inv g)→rp_side g.1 g.2.1 g.2.2.1 g.2.2.2.1 g.2.2.2.2.1 g.2.2.2.2.2) (hg:Goes (fun g:rp_G=>rp_R g.1 g.2.1 g.2.2.1 g.2.2.2.1 g.2.2.2.2.1 g.2.2.2.2.2) m fun g=>allP (Inv g)):∀ b∈loopsOf Tryd.prog 42,lkey b=9→LoopOk Tryd.prog b (rp_C Inv m).g:=loop_run (Γ:=(PTab.gamz tabN10 [] [])) (Λ:=noΛ) (PTab.okz tabN10 [] []) noΛ_ok 100 42 9 116 rp_LP [] Inv (fun g=>rp_R g.1 g.2.1 g.2.2.1 g.2.2.2.1 g.2.2.2.2.1 g.2.2.2.2.2) (fun g=>rp_side g.1 g.2.1 g.2.2.1 g.2.2.2.1 g.2.2.2.2.1 g.2.2.2.2.2) m default [.ret,.exit 2] rp_one (fun rd T B HL HB ds g=>by kernel_rfl) (fun rd T B HL HB ds g=>by kernel_rfl) hs hg rp_es
end Go.Proofs.YtmegbepjdololaaDoor

namespace Go.Proofs.YtmegbepjdololaaDoor
open Go.RowKit Go.Sx Go.Lp
set_option maxRecDepth 100000
def uStep (l:List Int) (p:Nat):Option (Nat×Int):=
 if l.getD p 0=37 then if p+2≥l.length∨hexV (l.getD (p+1) 0)<0∨hexV (l.getD (p+2) 0)<0 then none else some (3,16 * hexV (l.getD (p+1) 0)+hexV (l.getD (p+2) 0)) else some (1,l.getD p 0)
theorem uStep_le {l:List Int} {p k:Nat} {v:Int} (hp:p<l.length) (h:uStep l p=some (k,v)):1≤k∧p+k≤l.length:=by
 unfold uStep at h
 split at h
 ·split at h
  ·cases h
  ·cases h;omega
 ·cases h;omega
theorem unesc_step (l:List Int) (p:Nat) (hp:p<l.length) (b:List Int):unescF (l.length - p) (l.drop p) b=match uStep l p with
  | none=>none
  | some (k,v)=>unescF (l.length - (p+k)) (l.drop (p+k)) (b++[v]):=by
 obtain ⟨n,hn⟩:∃ n,l.length - p=n+1:=⟨l.length - p - 1,by omega⟩
 rw[hn,List.drop_eq_getElem_cons hp]
 have e0:l.getD p 0=l[p]:=by rw[List.getD_eq_getElem?_getD,List.getElem?_eq_getElem hp];rfl
 conv=>lhs;unfold unescF
 unfold uStep
 rw[e0]
 by_cases h37:l[p]=37
 ·rw[if_pos h37,if_pos h37]
  by_cases h2:p+2<l.length
  ·have h1:p+1<l.length:=by omega
   have e1:l.getD (p+1) 0=l[p+1]:=by rw[List.getD_eq_getElem?_getD,List.getElem?_eq_getElem h1];rfl
   have e2:l.getD (p+2) 0=l[p+2]:=by rw[List.getD_eq_getElem?_getD,List.getElem?_eq_getElem h2];rfl
   rw[List.drop_eq_getElem_cons h1,List.drop_eq_getElem_cons h2,e1,e2]
   simp only
   by_cases hh:hexV l[p+1]<0∨hexV l[p+2]<0
   ·rw[if_pos hh,if_pos (.inr hh)]
   ·rw[if_neg hh,if_neg (by rintro (h | h);omega;exact hh h)]
    simp only
    refine unescF_more _ _ _ _ ?_ ?_ <;> rw[List.length_drop] <;> omega
  ·rw[if_pos (.inl (by omega))]
   simp only
   have hl:(l.drop (p+1)).length≤1:=by rw[List.length_drop];omega
   match hd:l.drop (p+1) with
   | []=>rfl
   | [_]=>rfl
   | _ :: _ :: _=>rw[hd] at hl;simp at hl
 ·rw[if_neg h37,if_neg h37]
  simp only
  refine unescF_more _ _ _ _ ?_ ?_ <;> rw[List.length_drop] <;> omega
theorem unesc_end (l:List Int) (p:Nat) (hp:l.length≤p) (b:List Int):unescF (l.length - p) (l.drop p) b=some b:=by
 rw[show l.length - p=0 by omega];rfl
theorem or16:∀ h<16,∀ l<16,IntKind.u8.wrap (iOr .i64 (iShl .i64 ((h:Nat):Int) 4) ((l:Nat):Int))=16 * ((h:Nat):Int)+((l:Nat):Int):=by decide +kernel
theorem orH {h l:Int} (h1:¬ h<0) (h2:h<16) (h3:¬ l<0) (h4:l<16):IntKind.u8.wrap (iOr .i64 (iShl .i64 h 4) l)=16 * h+l:=by
 obtain ⟨a,rfl⟩:∃ a:Nat,h=a:=⟨h.toNat,by omega⟩
 obtain ⟨c,rfl⟩:∃ c:Nat,l=c:=⟨l.toNat,by omega⟩
 exact or16 a (by omega) c (by omega)
theorem hexV_lt (c:Int):hexV c<16:=by rcases hexV_range c with h | h <;> omega
theorem ap1 (b:List Int) (v:Int):e8u.lst (min (b.length+1) b.length) (e8u.els b)++List.map (fun _=>v) (List.range (b.length+1 - b.length))=b++[v]:=tx_app1 b v
def ps_P (s:BA) (b:List Int):Prop:=b.length+s.size≤KB
abbrev ps_I (g:ps_G):List Prop:=[ps_P g.2.2.1 g.2.2.2.1]
abbrev ps_M (g:ps_G):Nat:=g.2.2.1.size
noncomputable abbrev ps_RR (g:ps_G):Ex×ps_G:=ps_R g.1 g.2.1 g.2.2.1 g.2.2.2.1 g.2.2.2.2
theorem emp_iff (s:BA):s=ByteArray.mk #[]↔s.size=0:=by
 constructor
 ·rintro rfl;rfl
 ·intro h
  have e:bts s=[]:=List.eq_nil_of_length_eq_zero (by rw[bts_len];exact h)
  exact bts_inj e
theorem ixb (k:Nat) (s:BA):Lib.indexByte [(48:UInt8),(49:UInt8),(50:UInt8),(51:UInt8),(52:UInt8),(53:UInt8),(54:UInt8),(55:UInt8),(56:UInt8),(57:UInt8),(97:UInt8),(98:UInt8),(99:UInt8),(100:UInt8),(101:UInt8),(102:UInt8)] (((bts s).getD k 0).toNat.toUInt8)=hexV ((bts s).getD k 0):=
 (hexOk (bts_getD s k)).2
theorem ps_RF (w:Rec) (s:BA) (b:List Int) (e:Int):ps_R () w s b e=if s.size=0 then (.exit 0,(),w,s,b,e) else match uStep (bts s) 0 with
  | none=>(.ret,(),Rec.mk 0 (ByteArray.mk #[]),s,b,50)
  | some (k,v)=>(.normal,(),w,s.extract k s.size,b++[v],e):=by
 unfold ps_R uStep
 simp only[bts_get,El.ag_eq,ixb]
 by_cases h0:s.size=0
 ·rw[if_pos h0,decide_eq_true ((emp_iff s).2 h0)];rfl
 ·rw[if_neg h0,decide_eq_false (fun h=>h0 ((emp_iff s).1 h))]
  have hl:=bts_len s
  simp only[Bool.not_false,cond_true,Nat.zero_add,hl]
  by_cases h37:(bts s).getD 0 0=37
  ·rw[h37]
   simp only[bne_self_eq_false,Bool.not_false,Bool.true_and,cond_false,if_true]
   by_cases h3:(s.size:Int)<3
   ·rw[decide_eq_true h3,if_pos (.inl (by omega))];rfl
   ·rw[decide_eq_false h3]
    simp only[cond_false]
    have r1:=hexV_lt ((bts s).getD 1 0)
    have r2:=hexV_lt ((bts s).getD 2 0)
    generalize hexV ((bts s).getD 1 0)=x at r1 ⊢
    generalize hexV ((bts s).getD 2 0)=y at r2 ⊢
    by_cases hx:x<0
    ·rw[decide_eq_true hx,if_pos (.inr (.inl hx))];rfl
    ·by_cases hy:y<0
     ·rw[decide_eq_true hy,if_pos (.inr (.inr hy)),Bool.or_true];rfl
     ·rw[decide_eq_false hx,decide_eq_false hy,if_neg (by rintro (h | h | h);omega;exact hx h;exact hy h),orH hx r1 hy r2,ap1]
      rfl
  ·rw[if_neg h37,bne_iff_ne.2 h37]
   simp only[Bool.not_true,Bool.false_and,cond_false,cond_true]
   rw[ap1]
theorem ps_step {s:BA} {b:List Int} (h:ps_P s b) {k:Nat} {v:Int} (h0:s.size≠0) (hs:uStep (bts s) 0=some (k,v)):ps_P (s.extract k s.size) (b++[v])∧(s.extract k s.size).size<s.size∧bts (s.extract k s.size)=(bts s).drop k:=by
 have:=uStep_le (by rw[bts_len];omega) hs
 rw[bts_len] at this
 have hsz:(s.extract k s.size).size=s.size - k:=by rw[ByteArray.size_extract];omega
 refine ⟨?_,by omega,?_⟩
 ·unfold ps_P at h ⊢
  rw[hsz,List.length_append]
  simp only[List.length_cons,List.length_nil]
  omega
 ·rw[bts_ext,List.take_of_length_le (by rw[bts_len];exact Nat.le_refl _)]
theorem ps_goes:Goes ps_RR ps_M fun g=>allP (ps_I g):=by
 rintro ⟨⟨⟩,w,s,b,e⟩ hi hn
 have h:ps_P s b:=hi _ (List.mem_cons_self ..)
 have eq:ps_RR ((),w,s,b,e)=_:=ps_RF w s b e
 rw[eq] at hn ⊢
 by_cases h0:s.size=0
 ·rw[if_pos h0] at hn;cases hn
 ·rw[if_neg h0] at hn ⊢
  cases hu:uStep (bts s) 0 with
  | none=>rw[hu] at hn;cases hn
  | some x=>
   obtain ⟨k,v⟩:=x
   obtain ⟨h1,h2,_⟩:=ps_step h h0 hu
   refine ⟨fun p hp=>?_,h2⟩
   rw[List.mem_singleton.1 hp];exact h1
theorem byt5 (h:5<Tryd.prog.types.size):(Tryd.prog.types[(5:Nat)]'h).bytes=1:=by kernel_rfl
theorem ps_ok:∀ b∈loopsOf Tryd.prog 41,lkey b=6→LoopOk Tryd.prog b (ps_C ps_I ps_M).g:=by
 refine ps_loop ps_I ps_M (fun g hi=>?_) ps_goes
 obtain ⟨⟨⟩,w,s,b,e⟩:=g
 have h:ps_P s b:=hi _ (List.mem_cons_self ..)
 unfold ps_P KB at h
 show ps_side () w s b e
 unfold ps_side
 simp only[El.okL_eq,El.ag_eq,byt5]
 by_cases h0:s.size=0
 ·rw[decide_eq_true ((emp_iff s).2 h0)]
  refine ⟨fun h=>(by cases h),fun _=>?_⟩
  repeat' (first | apply And.intro | intro _)
  all_goals first | trivial | omega
 ·rw[decide_eq_false (fun h=>h0 ((emp_iff s).1 h))]
  generalize ((↑(ByteArray.get! s (0:Nat)).toNat:Int) != (37:Int))=z
  by_cases h3:(s.size:Int)<3
  ·rw[decide_eq_true h3]
   unfold maxLen
   cases z
   ·refine ⟨fun _=>⟨⟨by omega,by omega⟩,fun h=>(by cases h),fun h=>(by cases h),fun h=>(by cases h),fun h=>(by cases h),?_⟩,fun h=>(by cases h)⟩
    refine ⟨fun _=>⟨by omega,fun _ _=>trivial⟩,fun h=>(by cases h)⟩
   ·refine ⟨fun _=>?_,fun h=>(by cases h)⟩
    simp only[Bool.not_true,Bool.false_and,Bool.false_eq_true,false_implies,true_and,forall_const]
    repeat' (first | apply And.intro | intro _)
    all_goals first | trivial | omega
  ·rw[decide_eq_false h3]
   unfold maxLen
   refine ⟨fun _=>?_,fun h=>(by cases h)⟩
   repeat' (first | apply And.intro | intro _)
   all_goals first | trivial | omega
theorem ps_run (w:Rec) (s:BA) (b:List Int) (e:Int) (h:ps_P s b):(∃ b',unescF s.size (bts s) b=some b'∧(loopF ps_RR ps_M ((),w,s,b,e)).1=.exit 0∧(loopF ps_RR ps_M ((),w,s,b,e)).2.2.1=w∧(loopF ps_RR ps_M ((),w,s,b,e)).2.2.2.2.1=b'∧(loopF ps_RR ps_M ((),w,s,b,e)).2.2.2.2.2=e)∨(unescF s.size (bts s) b=none∧(loopF ps_RR ps_M ((),w,s,b,e)).1=.ret∧(loopF ps_RR ps_M ((),w,s,b,e)).2.2.1=Rec.mk 0 (ByteArray.mk #[])∧(loopF ps_RR ps_M ((),w,s,b,e)).2.2.2.2.2=50):=by
 refine loopF_induct ps_goes (Q:=fun g r=>(∃ b',unescF g.2.2.1.size (bts g.2.2.1) g.2.2.2.1=some b'∧r.1=.exit 0∧r.2.2.1=g.2.1∧r.2.2.2.2.1=b'∧r.2.2.2.2.2=g.2.2.2.2)∨(unescF g.2.2.1.size (bts g.2.2.1) g.2.2.2.1=none∧r.1=.ret∧r.2.2.1=Rec.mk 0 (ByteArray.mk #[])∧r.2.2.2.2.2=50)) ?_ ?_ ((),w,s,b,e) (fun p hp=>by rw[List.mem_singleton.1 hp];exact h)
 ·rintro ⟨⟨⟩,w,s,b,e⟩ hi hn
  have eq:ps_RR ((),w,s,b,e)=_:=ps_RF w s b e
  rw[eq] at hn ⊢
  by_cases h0:s.size=0
  ·rw[if_pos h0]
   refine Or.inl ⟨b,?_,rfl,rfl,rfl,rfl⟩
   show unescF s.size (bts s) b=some b
   rw[h0];rfl
  ·rw[if_neg h0] at hn ⊢
   have hst:=unesc_step (bts s) 0 (by rw[bts_len];omega) b
   rw[Nat.sub_zero,List.drop_zero,bts_len] at hst
   cases hu:uStep (bts s) 0 with
   | none=>
    rw[hu] at hst
    exact .inr ⟨hst,rfl,rfl,rfl⟩
   | some x=>rw[hu] at hn;exact absurd rfl hn
 ·rintro ⟨⟨⟩,w,s,b,e⟩ g' r hi he _ _ hq
  have h:ps_P s b:=hi _ (List.mem_cons_self ..)
  have eq:ps_RR ((),w,s,b,e)=_:=ps_RF w s b e
  rw[eq] at he
  by_cases h0:s.size=0
  ·rw[if_pos h0] at he;cases he
  ·rw[if_neg h0] at he
   have hst:=unesc_step (bts s) 0 (by rw[bts_len];omega) b
   rw[Nat.sub_zero,List.drop_zero,bts_len] at hst
   cases hu:uStep (bts s) 0 with
   | none=>rw[hu] at he;cases he
   | some x=>
    obtain ⟨k,v⟩:=x
    rw[hu] at he hst
    simp only[Prod.mk.injEq,true_and] at he
    subst he
    obtain ⟨_,_,h3⟩:=ps_step h h0 hu
    simp only[Nat.zero_add] at hst
    have hk:=uStep_le (by rw[bts_len];omega) hu
    rw[bts_len] at hk
    have hsz:(s.extract k s.size).size=s.size - k:=by rw[ByteArray.size_extract];omega
    simp only[h3,hsz] at hq
    rw[← hst] at hq
    exact hq
def rp_P (s:BA) (i:Int) (b:List Int):Prop:=s.size≤KB∧0≤i∧i≤(s.size:Int)∧(b.length:Int)≤i
abbrev rp_I (g:rp_G):List Prop:=[rp_P g.2.2.1 g.2.2.2.1 g.2.2.2.2.1]
abbrev rp_M (g:rp_G):Nat:=g.2.2.1.size - g.2.2.2.1.toNat
noncomputable abbrev rp_RR (g:rp_G):Ex×rp_G:=rp_R g.1 g.2.1 g.2.2.1 g.2.2.2.1 g.2.2.2.2.1 g.2.2.2.2.2
theorem mulH {h l:Int} (h1:¬ h<0) (h2:h<16) (h3:¬ l<0) (h4:l<16):IntKind.u8.wrap (IntKind.i64.wrap (IntKind.i64.wrap (16 * h)+l))=16 * h+l:=by
 rw[wr64 (x:=16 * h) (by omega),wr64 (by omega),wrB (by omega)]
theorem rp_RF (w:Rec) (s:BA) (i:Int) (b:List Int) (e:Int) (h:rp_P s i b):rp_R () w s i b e=if i<(s.size:Int) then match uStep (bts s) i.toNat with
  | none=>(.ret,(),Rec.mk 0 (ByteArray.mk #[]),s,i,b,50)
  | some (k,v)=>(.normal,(),w,s,i+k,b++[v],e)
  else (.exit 2,(),w,s,i,b,e):=by
 obtain ⟨h1,h2,h3,h4⟩:=h
 unfold KB at h1
 unfold rp_R uStep
 rw[wr64 (x:=i+1) (by omega),wr64 (x:=i+2) (by omega)]
 simp only[bts_get,El.ag_eq]
 rw[show (i+1).toNat=i.toNat+1 by omega,show (i+2).toNat=i.toNat+2 by omega,bts_len]
 by_cases hlt:i<(s.size:Int)
 ·rw[if_pos hlt,decide_eq_true hlt]
  simp only[cond_true]
  by_cases h37:(bts s).getD i.toNat 0=37
  ·rw[h37]
   simp only[bne_self_eq_false,Bool.not_false,Bool.true_and,cond_false,if_true]
   by_cases h5:i+2≥(s.size:Int)
   ·rw[decide_eq_true h5,if_pos (.inl (by omega))];rfl
   ·rw[decide_eq_false h5]
    have r1:=hexV_lt ((bts s).getD (i.toNat+1) 0)
    have r2:=hexV_lt ((bts s).getD (i.toNat+2) 0)
    generalize hexV ((bts s).getD (i.toNat+1) 0)=x at r1 ⊢
    generalize hexV ((bts s).getD (i.toNat+2) 0)=y at r2 ⊢
    by_cases hx:x<0
    ·rw[decide_eq_true hx,if_pos (.inr (.inl hx))];rfl
    ·by_cases hy:y<0
     ·rw[decide_eq_true hy,if_pos (.inr (.inr hy)),Bool.or_true];rfl
     ·rw[decide_eq_false hx,decide_eq_false hy,if_neg (by rintro (h | h | h);omega;exact hx h;exact hy h),mulH hx r1 hy r2,ap1,wr64 (by omega),Int.add_assoc]
      rfl
  ·rw[if_neg h37,bne_iff_ne.2 h37]
   simp only[Bool.not_true,Bool.false_and,cond_false,cond_true]
   rw[ap1,wr64 (by omega)]
   rfl
 ·rw[if_neg hlt,decide_eq_false hlt];rfl
theorem rp_step {s:BA} {i:Int} {b:List Int} (h:rp_P s i b) {k:Nat} {v:Int} (hlt:i<(s.size:Int)) (hs:uStep (bts s) i.toNat=some (k,v)):rp_P s (i+k) (b++[v])∧1≤k:=by
 obtain ⟨h1,h2,h3,h4⟩:=h
 have:=uStep_le (by rw[bts_len];omega) hs
 rw[bts_len] at this
 refine ⟨⟨h1,by omega,by omega,?_⟩,this.1⟩
 rw[List.length_append]
 simp only[List.length_cons,List.length_nil]
 omega
theorem rp_goes:Goes rp_RR rp_M fun g=>allP (rp_I g):=by
 rintro ⟨⟨⟩,w,s,i,b,e⟩ hi hn
 have h:rp_P s i b:=hi _ (List.mem_cons_self ..)
 have eq:rp_RR ((),w,s,i,b,e)=_:=rp_RF w s i b e h
 rw[eq] at hn ⊢
 by_cases hlt:i<(s.size:Int)
 ·rw[if_pos hlt] at hn ⊢
  cases hu:uStep (bts s) i.toNat with
  | none=>rw[hu] at hn;cases hn
  | some x=>
   obtain ⟨k,v⟩:=x
   obtain ⟨h1,h2⟩:=rp_step h hlt hu
   refine ⟨fun p hp=>?_,?_⟩
   ·rw[List.mem_singleton.1 hp];exact h1
   ·show s.size - (i+k).toNat<s.size - i.toNat
    have:=h.2.1
    omega
 ·rw[if_neg hlt] at hn;cases hn
theorem rp_ok:∀ b∈loopsOf Tryd.prog 42,lkey b=9→LoopOk Tryd.prog b (rp_C rp_I rp_M).g:=by
 refine rp_loop rp_I rp_M (fun g hi=>?_) rp_goes
 obtain ⟨⟨⟩,w,s,i,b,e⟩:=g
 have h:rp_P s i b:=hi _ (List.mem_cons_self ..)
 obtain ⟨h1,h2,h3,h4⟩:=h
 unfold KB at h1
 show rp_side () w s i b e
 unfold rp_side
 rw[wr64 (x:=i+1) (by omega),wr64 (x:=i+2) (by omega)]
 simp only[El.okL_eq,El.ag_eq,byt5,bts_get]
 have r1:=bts_getD s (i+1).toNat
 have r2:=bts_getD s (i+2).toNat
 generalize (bts s).getD (i+1).toNat 0=x at r1 ⊢
 generalize (bts s).getD (i+2).toNat 0=y at r2 ⊢
 generalize ((bts s).getD i.toNat 0 != (37:Int))=z
 unfold maxLen
 by_cases hlt:i<(s.size:Int)
 ·rw[decide_eq_true hlt]
  refine ⟨fun _=>?_,fun h=>(by cases h)⟩
  by_cases h5:i+2≥(s.size:Int)
  ·rw[decide_eq_true h5]
   cases z
   ·simp only[Bool.not_true,Bool.not_false,Bool.true_or,Bool.true_and,Bool.false_eq_true,false_implies,true_implies,true_and,forall_const,and_true,Bool.true_eq_false]
    repeat' (first | apply And.intro | intro _)
    all_goals first | trivial | omega
   ·simp only[Bool.not_true,Bool.not_false,Bool.false_and,Bool.false_eq_true,false_implies,true_implies,true_and,forall_const,and_true,Bool.true_eq_false]
    repeat' (first | apply And.intro | intro _)
    all_goals first | trivial | omega
  ·rw[decide_eq_false h5]
   repeat' (first | apply And.intro | intro _)
   all_goals first | trivial | omega
 ·rw[decide_eq_false hlt]
  refine ⟨fun h=>(by cases h),fun _=>?_⟩
  repeat' (first | apply And.intro | intro _)
  all_goals first | trivial | omega
theorem rp_run (w:Rec) (s:BA) (i:Int) (b:List Int) (e:Int) (h:rp_P s i b):(∃ b',unescF (s.size - i.toNat) ((bts s).drop i.toNat) b=some b'∧(loopF rp_RR rp_M ((),w,s,i,b,e)).1=.exit 2∧(loopF rp_RR rp_M ((),w,s,i,b,e)).2.2.1=w∧(loopF rp_RR rp_M ((),w,s,i,b,e)).2.2.2.1=s∧(loopF rp_RR rp_M ((),w,s,i,b,e)).2.2.2.2.2.1=b'∧(loopF rp_RR rp_M ((),w,s,i,b,e)).2.2.2.2.2.2=e)∨(unescF (s.size - i.toNat) ((bts s).drop i.toNat) b=none∧(loopF rp_RR rp_M ((),w,s,i,b,e)).1=.ret∧(loopF rp_RR rp_M ((),w,s,i,b,e)).2.2.1=Rec.mk 0 (ByteArray.mk #[])∧(loopF rp_RR rp_M ((),w,s,i,b,e)).2.2.2.2.2.2=50):=by
 refine loopF_induct rp_goes (Q:=fun g r=>(∃ b',unescF (g.2.2.1.size - g.2.2.2.1.toNat) ((bts g.2.2.1).drop g.2.2.2.1.toNat) g.2.2.2.2.1=some b'∧r.1=.exit 2∧r.2.2.1=g.2.1∧r.2.2.2.1=g.2.2.1∧r.2.2.2.2.2.1=b'∧r.2.2.2.2.2.2=g.2.2.2.2.2)∨(unescF (g.2.2.1.size - g.2.2.2.1.toNat) ((bts g.2.2.1).drop g.2.2.2.1.toNat) g.2.2.2.2.1=none∧r.1=.ret∧r.2.2.1=Rec.mk 0 (ByteArray.mk #[])∧r.2.2.2.2.2.2=50)) ?_ ?_ ((),w,s,i,b,e) (fun p hp=>by rw[List.mem_singleton.1 hp];exact h)
 ·rintro ⟨⟨⟩,w,s,i,b,e⟩ hi hn
  have h:rp_P s i b:=hi _ (List.mem_cons_self ..)
  have eq:rp_RR ((),w,s,i,b,e)=_:=rp_RF w s i b e h
  rw[eq] at hn ⊢
  by_cases hlt:i<(s.size:Int)
  ·rw[if_pos hlt] at hn ⊢
   have h0i:=h.2.1
   have hst:=unesc_step (bts s) i.toNat (by rw[bts_len];omega) b
   rw[bts_len] at hst
   cases hu:uStep (bts s) i.toNat with
   | none=>
    rw[hu] at hst
    exact .inr ⟨hst,rfl,rfl,rfl⟩
   | some x=>rw[hu] at hn;exact absurd rfl hn
  ·rw[if_neg hlt]
   have h0i:=h.2.1
   have hst:=unesc_end (bts s) i.toNat (by rw[bts_len];omega) b
   rw[bts_len] at hst
   exact .inl ⟨b,hst,rfl,rfl,rfl,rfl,rfl⟩
 ·rintro ⟨⟨⟩,w,s,i,b,e⟩ g' r hi he _ _ hq
  have h:rp_P s i b:=hi _ (List.mem_cons_self ..)
  have eq:rp_RR ((),w,s,i,b,e)=_:=rp_RF w s i b e h
  rw[eq] at he
  by_cases hlt:i<(s.size:Int)
  ·rw[if_pos hlt] at he
   have h0i:=h.2.1
   have hst:=unesc_step (bts s) i.toNat (by rw[bts_len];omega) b
   rw[bts_len] at hst
   cases hu:uStep (bts s) i.toNat with
   | none=>rw[hu] at he;cases he
   | some x=>
    obtain ⟨k,v⟩:=x
    rw[hu] at he hst
    simp only[Prod.mk.injEq,true_and] at he
    subst he
    simp only at hst
    have e1:(i+(k:Int)).toNat=i.toNat+k:=by have:=h.2.1;omega
    simp only[e1] at hq
    rw[← hst] at hq
    exact hq
  ·rw[if_neg hlt] at he;cases he
noncomputable def ltN12:LTab Tryd.prog:=((LTab.nil.cons 41 6 (ps_C ps_I ps_M) ps_ok).cons 42 2 (rc_C rc_I rc_M) rc_ok).cons 42 9 (rp_C rp_I rp_M) rp_ok
noncomputable abbrev lamN12:Lam:=ltN12.lam
theorem lamN12_ok:∀ f k L,lamN12 f k=some L→∀ b∈loopsOf Tryd.prog f,lkey b=k→LoopOk Tryd.prog b L.g:=ltN12.ok
end Go.Proofs.YtmegbepjdololaaDoor

namespace Go.Proofs.YtmegbepjdololaaDoor
open Go.RowKit Go.Sx
set_option maxRecDepth 100000
set_option linter.unusedVariables false
noncomputable def prA_q1 (s:BA):Ex ×
 ps_G:=
 loopF (fun g=>ps_R g.fst g.snd.fst g.snd.snd.fst g.snd.snd.snd.fst g.snd.snd.snd.snd) ps_M ((),Rec.mk (0:Int) (ByteArray.mk #[]),ByteArray.mk (Lib.cut s.data.toList #[(58:UInt8)].toList).snd.fst.toArray,[],(0:Int))
noncomputable def prA_F (s:BA):Dv.T dRE:=
 bif !(Lib.cut s.data.toList #[(58:UInt8)].toList).snd.snd||!(parseN (ByteArray.mk (Lib.cut s.data.toList #[(58:UInt8)].toList).fst.toArray)).snd then (Rec.mk (0:Int) (ByteArray.mk #[]),(50:Int))
 else bif exB Ex.ret (prA_q1 s).fst then ((prA_q1 s).snd.snd.fst,(prA_q1 s).snd.snd.snd.snd.snd) else bif chkR (Rec.mk (parseN (ByteArray.mk (Lib.cut s.data.toList #[(58:UInt8)].toList).fst.toArray)).fst (strOf (intsOf IntKind.u8 (prA_q1 s).snd.snd.snd.snd.fst.length (e8u.els (prA_q1 s).snd.snd.snd.snd.fst)))) != (0:Int)||!decide (textS (Rec.mk (parseN (ByteArray.mk (Lib.cut s.data.toList #[(58:UInt8)].toList).fst.toArray)).fst (strOf (intsOf IntKind.u8 (prA_q1 s).snd.snd.snd.snd.fst.length (e8u.els (prA_q1 s).snd.snd.snd.snd.fst))))=s) then (Rec.mk (0:Int) (ByteArray.mk #[]),(50:Int)) else (Rec.mk (parseN (ByteArray.mk (Lib.cut s.data.toList #[(58:UInt8)].toList).fst.toArray)).fst (strOf (intsOf IntKind.u8 (prA_q1 s).snd.snd.snd.snd.fst.length (e8u.els (prA_q1 s).snd.snd.snd.snd.fst))),(0:Int))
def prA_side (s:BA):Prop:=
 ByteArray.size s≤KS∧(ByteArray.mk (Lib.cut s.data.toList #[(58:UInt8)].toList).fst.toArray).size≤KB∧((!(Lib.cut s.data.toList #[(58:UInt8)].toList).snd.snd||!(parseN (ByteArray.mk (Lib.cut s.data.toList #[(58:UInt8)].toList).fst.toArray)).snd)=false→ps_P (ByteArray.mk (Lib.cut s.data.toList #[(58:UInt8)].toList).snd.fst.toArray) []∧(exB Ex.ret (prA_q1 s).fst=false→((prA_q1 s).snd.snd.snd.snd.fst.length≤(prA_q1 s).snd.snd.snd.snd.fst.length∧∀ (e:Nat),e<(prA_q1 s).snd.snd.snd.snd.fst.length→((ElE.fn (e8u.els (prA_q1 s).snd.snd.snd.snd.fst)).at e).all SV.one=true)∧(∀ (e:Nat),e<(prA_q1 s).snd.snd.snd.snd.fst.length→(Sx.intOf IntKind.u8 ((ElE.fn (e8u.els (prA_q1 s).snd.snd.snd.snd.fst)).at e)).isSome=true)∧((!chkR (Rec.mk (parseN (ByteArray.mk (Lib.cut s.data.toList #[(58:UInt8)].toList).fst.toArray)).fst (strOf (intsOf IntKind.u8 (prA_q1 s).snd.snd.snd.snd.fst.length (e8u.els (prA_q1 s).snd.snd.snd.snd.fst)))) != (0:Int))=true→i64 (parseN (ByteArray.mk (Lib.cut s.data.toList #[(58:UInt8)].toList).fst.toArray)).fst)))
theorem prA_okS (pre:DA.T aB→List Prop) (h:∀ g,DA.bd aB g→(∀ p∈pre g,p)→prA_side g):FnPure Tryd.prog 41 aB dRE (fun g=>prA_F g) pre:=pure_of_sideS (Γ:=(PTab.gamz tabN10 [] [])) (Λ:=lamN12) (PTab.okz tabN10 [] []) lamN12_ok 100 default (fun g=>prA_side g) (fun g=>by kernel_rfl) (fun g=>by kernel_rfl) h
noncomputable def prB_q1 (s:BA):Ex×rc_G:=
 loopF (fun g=>rc_R g.fst g.snd) rc_M (s,(0:Int))
noncomputable def prB_q2 (s:BA):Ex ×
 rp_G:=
 loopF (fun g=>rp_R g.fst g.snd.fst g.snd.snd.fst g.snd.snd.snd.fst g.snd.snd.snd.snd.fst g.snd.snd.snd.snd.snd) rp_M ((),Rec.mk (0:Int) (ByteArray.mk #[]),(prB_q1 s).snd.fst,IntKind.i64.wrap ((prB_q1 s).snd.snd+(1:Int)),[],(0:Int))
noncomputable def prB_F (s:BA):Dv.T dRE:=
 bif (prB_q1 s).snd.snd==(↑(ByteArray.size (prB_q1 s).snd.fst):Int)||decide ((↑(ByteArray.size (prB_q1 s).snd.fst):Int) > (300:Int)) then (Rec.mk (0:Int) (ByteArray.mk #[]),(50:Int))
 else bif exB Ex.ret (prB_q2 s).fst then ((prB_q2 s).snd.snd.fst,(prB_q2 s).snd.snd.snd.snd.snd.snd) else bif !(parseN (ByteArray.extract (prB_q1 s).snd.fst (0:Nat) (prB_q1 s).snd.snd.toNat)).snd||(chkR (Rec.mk (parseN (ByteArray.extract (prB_q1 s).snd.fst (0:Nat) (prB_q1 s).snd.snd.toNat)).fst (strOf (intsOf IntKind.u8 (prB_q2 s).snd.snd.snd.snd.snd.fst.length (e8u.els (prB_q2 s).snd.snd.snd.snd.snd.fst)))) != (0:Int)||!decide (textS (Rec.mk (parseN (ByteArray.extract (prB_q1 s).snd.fst (0:Nat) (prB_q1 s).snd.snd.toNat)).fst (strOf (intsOf IntKind.u8 (prB_q2 s).snd.snd.snd.snd.snd.fst.length (e8u.els (prB_q2 s).snd.snd.snd.snd.snd.fst))))=(prB_q2 s).snd.snd.snd.fst)) then (Rec.mk (0:Int) (ByteArray.mk #[]),(50:Int)) else (Rec.mk (parseN (ByteArray.extract (prB_q1 s).snd.fst (0:Nat) (prB_q1 s).snd.snd.toNat)).fst (strOf (intsOf IntKind.u8 (prB_q2 s).snd.snd.snd.snd.snd.fst.length (e8u.els (prB_q2 s).snd.snd.snd.snd.snd.fst))),(0:Int))
def prB_side (s:BA):Prop:=
 rc_P s (0:Int)∧(((prB_q1 s).snd.snd==(↑(ByteArray.size (prB_q1 s).snd.fst):Int)||decide ((↑(ByteArray.size (prB_q1 s).snd.fst):Int) > (300:Int)))=false→((0:Int)≤(prB_q1 s).snd.snd∧(prB_q1 s).snd.snd≤(↑(ByteArray.size (prB_q1 s).snd.fst):Int))∧(ByteArray.extract (prB_q1 s).snd.fst (0:Nat) (prB_q1 s).snd.snd.toNat).size≤KB∧rp_P (prB_q1 s).snd.fst (IntKind.i64.wrap ((prB_q1 s).snd.snd+(1:Int))) []∧(exB Ex.ret (prB_q2 s).fst=false→((prB_q2 s).snd.snd.snd.snd.snd.fst.length≤(prB_q2 s).snd.snd.snd.snd.snd.fst.length∧∀ (e:Nat),e<(prB_q2 s).snd.snd.snd.snd.snd.fst.length→((ElE.fn (e8u.els (prB_q2 s).snd.snd.snd.snd.snd.fst)).at e).all SV.one=true)∧(∀ (e:Nat),e<(prB_q2 s).snd.snd.snd.snd.snd.fst.length→(Sx.intOf IntKind.u8 ((ElE.fn (e8u.els (prB_q2 s).snd.snd.snd.snd.snd.fst)).at e)).isSome=true)∧((!!(parseN (ByteArray.extract (prB_q1 s).snd.fst (0:Nat) (prB_q1 s).snd.snd.toNat)).snd)=true→(!chkR (Rec.mk (parseN (ByteArray.extract (prB_q1 s).snd.fst (0:Nat) (prB_q1 s).snd.snd.toNat)).fst (strOf (intsOf IntKind.u8 (prB_q2 s).snd.snd.snd.snd.snd.fst.length (e8u.els (prB_q2 s).snd.snd.snd.snd.snd.fst)))) != (0:Int))=true→i64 (parseN (ByteArray.extract (prB_q1 s).snd.fst (0:Nat) (prB_q1 s).snd.snd.toNat)).fst)))
theorem prB_okS (pre:DA.T aB→List Prop) (h:∀ g,DA.bd aB g→(∀ p∈pre g,p)→prB_side g):FnPure Tryd.prog 42 aB dRE (fun g=>prB_F g) pre:=pure_of_sideS (Γ:=(PTab.gamz tabN10 [] [])) (Λ:=lamN12) (PTab.okz tabN10 [] []) lamN12_ok 100 default (fun g=>prB_side g) (fun g=>by kernel_rfl) (fun g=>by kernel_rfl) h
end Go.Proofs.YtmegbepjdololaaDoor
