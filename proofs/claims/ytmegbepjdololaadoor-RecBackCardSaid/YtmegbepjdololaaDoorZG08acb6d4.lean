/- The environment of chapters 5 and 6: the tables of unicode/utf8, and a number of the library's. -/
import Derived.Test.YtmegbepjdololaaDoorRows
import Derived.Test.YtmegbepjdololaaDoorZG0678006a
import Derived.Shelf.Unicode.DecodeSlow
import Derived.Shelf.Unicode.ValidAny
import Derived.Shelf.Strings.Search3
import Derived.Shelf.Strings.Prefix
import Derived.Shelf.Small.Strs
import Derived.Shelf.Small.Wraps
import Derived.Shelf.Strings.Cut
import Derived.Test.YtmegbepjdololaaDoorTie
import Derived.Lib.LaidU8T
import Derived.Shelf.Vars
import Derived.ProofKit
import Derived.OpenShut
import Derived.LaidMore
import Derived.Lay
import Derived.SevenTiedAt
import Derived.HandedShaped
import Derived.ChangeMaps5
import Derived.Handy
set_option linter.unusedVariables false
set_option linter.unusedSimpArgs false
set_option linter.constructorNameAsVariable false
set_option linter.all false

namespace Go.Proofs.YtmegbepjdololaaDoor
open Go.RowKit Go.Sx
def HoldsC (F:Nat→Option Obj) (b:Nat) (p:Array Value→Prop):Prop:=∃ cs t fz,F b=some (.cells cs t fz)∧p cs
theorem HoldsC.mono {F G:Nat→Option Obj} {b:Nat} {p:Array Value→Prop} (h:∀ b o,F b=some o→dataO o→G b=some o) (hp:HoldsC F b p):HoldsC G b p:=by
 obtain ⟨cs,t,fz,h1,h2⟩:=hp
 exact ⟨cs,t,fz,h _ _ h1 trivial,h2⟩
def EnvF (F:Nat→Option Obj):Prop:=
 HoldsC F 0 (fun cs=>∀ c,c<256→cs[c]?=some (.int .u8 (Lib.firstT c))) ∧
 HoldsC F 1 (fun cs=>∀ i,i<16→cs[2 * i]?=some (.int .u8 (Lib.accLo i))∧cs[2 * i+1]?=some (.int .u8 (Lib.accHi i))) ∧
 HoldsC F 2 (fun cs=>∃ m,cs[0]?=some (.int .i64 m))
instance envU:Env:=⟨EnvF,fun F G h hE=>⟨hE.1.mono h,hE.2.1.mono h,hE.2.2.mono h⟩⟩
theorem HoldsC.cell {F:Nat→Option Obj} {w:World} {b:Nat} {p:Array Value→Prop} (hF:∀ b o,F b=some o→w.heap[b]?=some o) (hp:HoldsC F b p):∃ cs,p cs∧∀ i v,cs[i]?=some v→w.cell? ⟨b,i,none⟩=some v:=by
 obtain ⟨cs,t,fz,h1,h2⟩:=hp
 refine ⟨cs,h2,fun i v hv=>?_⟩
 simp only[World.cell?,hF _ _ h1,Option.isSome_none,Bool.false_eq_true,if_false,id_eq]
 exact hv
theorem envTabs {F:Nat→Option Obj} {w:World} (hF:∀ b o,F b=some o→w.heap[b]?=some o) (hE:EnvF F):Lib.Utf8Tabs 0 1 w:=by
 obtain ⟨c1,h1,k1⟩:=hE.1.cell hF
 obtain ⟨c2,h2,k2⟩:=hE.2.1.cell hF
 exact ⟨fun c hc=>k1 _ _ (h1 c hc),fun i hi=>⟨k2 _ _ (h2 i hi).1,k2 _ _ (h2 i hi).2⟩⟩
theorem envMax {F:Nat→Option Obj} {w:World} (hF:∀ b o,F b=some o→w.heap[b]?=some o) (hE:EnvF F):∃ m,w.cell? ⟨2,0,none⟩=some (.int .i64 m):=by
 obtain ⟨c1,⟨m,h1⟩,k1⟩:=hE.2.2.cell hF
 exact ⟨m,k1 _ _ h1⟩
end Go.Proofs.YtmegbepjdololaaDoor

namespace Go.Proofs.YtmegbepjdololaaDoor
open Go.RowKit Go.Sx
abbrev eI:El Int:=eInt .i64
abbrev e3:El Int:=eInt .i32
abbrev dI:Dv Int:=dInt .i64
abbrev d3:Dv Int:=dInt .i32
abbrev d8:Dv Int:=dInt .u8
abbrev BA:=ByteArray
structure Rec where
 key:Int
 text:BA
deriving DecidableEq,Inhabited
abbrev IB:=Int×BA
def Rec.ofP:IB→Rec:=fun (k,t)=>⟨k,t⟩
def Rec.toP (r:Rec):IB:=(r.key,r.text)
def eR:El Rec:=.iso (.pair eI eStr) Rec.ofP Rec.toP (fun _=>rfl) (fun _=>rfl)
structure Fn where
 kind:Int
 a:Int
 s:BA
deriving DecidableEq,Inhabited
abbrev IIB:=Int×Int×BA
def Fn.ofP:IIB→Fn:=fun (k,a,t)=>⟨k,a,t⟩
def Fn.toP (r:Fn):IIB:=(r.kind,r.a,r.s)
def eF:El Fn:=.iso (.pair eI (.pair eI eStr)) Fn.ofP Fn.toP (fun _=>rfl) (fun _=>rfl)
structure Many where
 r:Rec
 n:Int
deriving DecidableEq,Inhabited
def Many.ofP:Rec×Int→Many:=fun (k,a)=>⟨k,a⟩
def Many.toP (r:Many):Rec×Int:=(r.r,r.n)
def eM:El Many:=.iso (.pair eR eI) Many.ofP Many.toP (fun _=>rfl) (fun _=>rfl)
structure Rune where
 at':Int
 r:Int
deriving DecidableEq,Inhabited
def Rune.ofP:Int×Int→Rune:=fun (k,a)=>⟨k,a⟩
def Rune.toP (r:Rune):Int×Int:=(r.at',r.r)
def eU:El Rune:=.iso (.pair eI e3) Rune.ofP Rune.toP (fun _=>rfl) (fun _=>rfl)
abbrev dR:Dv Rec:=.agg eR
abbrev dF:Dv Fn:=.agg eF
abbrev dM:Dv Many:=.agg eM
abbrev dLR:Dv (List Rec):=.list eR
abbrev dLM:Dv (List Many):=.list eM
abbrev dLU:Dv (List Rune):=.list eU
abbrev dL3:Dv (List Int):=.list e3
abbrev dLI:Dv (List Int):=.list eI
abbrev dLB:Dv (List BA):=.list eStr
abbrev dRE:Dv (Rec×Int):=.tup (.cons dR (.one dI))
abbrev aB:DA BA:=.one dStr
abbrev aBB:DA (BA×BA):=.cons dStr (.one dStr)
abbrev aBI:DA (BA×Int):=.cons dStr (.one dI)
abbrev aI:DA Int:=.one dI
abbrev aII:DA (Int×Int):=.cons dI (.one dI)
abbrev aR:DA Rec:=.one dR
abbrev aF:DA Fn:=.one dF
abbrev aRR:DA (Rec×Rec):=.cons dR (.one dR)
abbrev aMM:DA (Many×Many):=.cons dM (.one dM)
abbrev aIF:DA (Int×Fn):=.cons dI (.one dF)
abbrev aIFR:DA (Int×Fn×Rec):=.cons dI (.cons dF (.one dR))
theorem puI (r:Int):Pu (dI.enc r):=pu_v _
theorem puB (r:Bool):Pu (dBool.enc r):=pu_v _
theorem puS (r:BA):Pu (dStr.enc r):=pu_v _
theorem puR (r:Rec):Pu (dR.enc r):=pu_agg (pus_cons (pu_v _) (pus_cons (pu_v _) pus_nil))
theorem puRE (r:Rec×Int):Pu (dRE.enc r):=pu_tup (pus_cons (puR _) (pus_cons (pu_v _) pus_nil))
abbrev dII:Dv (Int×Int):=.tup (.cons dI (.one dI))
theorem puII (r:Int×Int):Pu (dII.enc r):=pu_tup (pus_cons (pu_v _) (pus_cons (pu_v _) pus_nil))
noncomputable def tab0:PTab Tryd.prog:=PTab.nil
end Go.Proofs.YtmegbepjdololaaDoor

namespace Go.Proofs.YtmegbepjdololaaDoor
open Go.RowKit Go.Sx
set_option maxRecDepth 100000
set_option linter.unusedVariables false
abbrev a8:DA Int:=.one d8
noncomputable def tail_F (c:Int):Dv.T dBool:=
 decide (c≥(128:Int))&&decide (c≤(191:Int))
theorem tail_ok:FnPure Tryd.prog 114 a8 dBool (fun g=>tail_F g) (fun _=>[]):=pure_of_safe (Γ:=(PTab.gamz tab0 [] [])) (Λ:=noΛ) (PTab.okz tab0 [] []) noΛ_ok 100 default (fun g=>by kernel_rfl) (fun g=>by kernel_rfl)
noncomputable def uses_F (k:Int):Dv.T dII:=
 bif k==(2:Int) then ((1:Int),(8:Int))
 else bif k==(3:Int) then ((11:Int),(13:Int)) else bif k==(4:Int) then ((21:Int),(22:Int)) else bif k==(8:Int) then ((31:Int),(34:Int)) else bif k==(11:Int) then ((41:Int),(42:Int)) else ((0:Int),(-1:Int))
theorem uses_ok:FnPure Tryd.prog 98 aI dII (fun g=>uses_F g) (fun _=>[]):=pure_of_safe (Γ:=(PTab.gamz tab0 [] [])) (Λ:=noΛ) (PTab.okz tab0 [] []) noΛ_ok 100 default (fun g=>by kernel_rfl) (fun g=>by kernel_rfl)
noncomputable def num_F (f:Fn):Dv.T dBool:=
 bif bif f.kind==(3:Int) then f.kind==(3:Int) else f.kind==(13:Int) then decide (f.a≥(0:Int))&&decide (f.a≤(64:Int))
 else bif bif f.kind==(6:Int) then f.kind==(6:Int) else f.kind==(11:Int) then decide (f.a≥(1:Int))&&decide (f.a≤(1048576:Int)) else f.a==(0:Int)
theorem num_ok:FnPure Tryd.prog 99 aF dBool (fun g=>num_F g) (fun _=>[]):=pure_of_safe (Γ:=(PTab.gamz tab0 [] [])) (Λ:=noΛ) (PTab.okz tab0 [] []) noΛ_ok 100 default (fun g=>by kernel_rfl) (fun g=>by kernel_rfl)
noncomputable def rnum_F (f:Fn):Dv.T dBool:=
 bif bif f.kind==(3:Int) then f.kind==(3:Int) else f.kind==(13:Int) then decide (f.a≥(0:Int))&&decide (f.a≤(64:Int))
 else bif bif f.kind==(6:Int) then f.kind==(6:Int) else f.kind==(11:Int) then decide (f.a≥(1:Int))&&decide (f.a≤(1048576:Int)) else f.a==(0:Int)
theorem rnum_ok:FnPure Tryd.prog 101 aF dBool (fun g=>rnum_F g) (fun _=>[]):=pure_of_safe (Γ:=(PTab.gamz tab0 [] [])) (Λ:=noΛ) (PTab.okz tab0 [] []) noΛ_ok 100 default (fun g=>by kernel_rfl) (fun g=>by kernel_rfl)
noncomputable def cmp64_F (a:Int) (b:Int):Dv.T dI:=
 bif a != a then bif b != b then (0:Int) else (-1:Int)
 else bif b != b then (1:Int) else bif decide (a<b) then (-1:Int) else bif decide (a > b) then (1:Int) else (0:Int)
theorem cmp64_ok:FnPure Tryd.prog 90 aII dI (fun g=>cmp64_F g.1 g.2) (fun _=>[]):=pure_of_safe (Γ:=(PTab.gamz tab0 [] [])) (Λ:=noΛ) (PTab.okz tab0 [] []) noΛ_ok 100 default (fun g=>by kernel_rfl) (fun g=>by kernel_rfl)
noncomputable def tabA1:PTab Tryd.prog:=(((((tab0).cons 114 (pconP a8 dBool (fun g=>tail_F g) (fun _=>[])) (conP_ok tail_ok puB)).cons 98 (pconP aI dII (fun g=>uses_F g) (fun _=>[])) (conP_ok uses_ok puII)).cons 99 (pconP aF dBool (fun g=>num_F g) (fun _=>[])) (conP_ok num_ok puB)).cons 101 (pconP aF dBool (fun g=>rnum_F g) (fun _=>[])) (conP_ok rnum_ok puB)).cons 90 (pconP aII dI (fun g=>cmp64_F g.1 g.2) (fun _=>[])) (conP_ok cmp64_ok puI)
end Go.Proofs.YtmegbepjdololaaDoor

namespace Go.Proofs.YtmegbepjdololaaDoor
open Go.RowKit Go.Sx
set_option maxRecDepth 100000
set_option linter.unusedVariables false
noncomputable def wid_F (s:BA) (i:Int):Dv.T dI:=
 bif decide ((↑(ByteArray.get! s i.toNat).toNat:Int)<(128:Int)) then (1:Int)
 else bif decide ((↑(ByteArray.get! s i.toNat).toNat:Int)≥(194:Int))&&(decide ((↑(ByteArray.get! s i.toNat).toNat:Int)≤(223:Int))&&(decide (IntKind.i64.wrap ((↑(ByteArray.size s):Int) - i)≥(2:Int))&&tail_F (bif decide (IntKind.i64.wrap ((↑(ByteArray.size s):Int) - i) > (1:Int)) then (↑(ByteArray.get! s (IntKind.i64.wrap (i+(1:Int))).toNat).toNat:Int) else (0:Int)))) then (2:Int) else bif decide ((↑(ByteArray.get! s i.toNat).toNat:Int)≥(224:Int))&&(decide ((↑(ByteArray.get! s i.toNat).toNat:Int)≤(239:Int))&&(decide (IntKind.i64.wrap ((↑(ByteArray.size s):Int) - i)≥(3:Int))&&(tail_F (bif decide (IntKind.i64.wrap ((↑(ByteArray.size s):Int) - i) > (1:Int)) then (↑(ByteArray.get! s (IntKind.i64.wrap (i+(1:Int))).toNat).toNat:Int) else (0:Int))&&tail_F (↑(ByteArray.get! s (IntKind.i64.wrap (i+(2:Int))).toNat).toNat:Int)))) then bif bif (↑(ByteArray.get! s i.toNat).toNat:Int)==(224:Int) then decide ((bif decide (IntKind.i64.wrap ((↑(ByteArray.size s):Int) - i) > (1:Int)) then (↑(ByteArray.get! s (IntKind.i64.wrap (i+(1:Int))).toNat).toNat:Int) else (0:Int))<(160:Int))||(↑(ByteArray.get! s i.toNat).toNat:Int)==(237:Int)&&decide ((bif decide (IntKind.i64.wrap ((↑(ByteArray.size s):Int) - i) > (1:Int)) then (↑(ByteArray.get! s (IntKind.i64.wrap (i+(1:Int))).toNat).toNat:Int) else (0:Int)) > (159:Int)) else (↑(ByteArray.get! s i.toNat).toNat:Int)==(237:Int)&&decide ((bif decide (IntKind.i64.wrap ((↑(ByteArray.size s):Int) - i) > (1:Int)) then (↑(ByteArray.get! s (IntKind.i64.wrap (i+(1:Int))).toNat).toNat:Int) else (0:Int)) > (159:Int)) then (0:Int) else (3:Int) else bif decide ((↑(ByteArray.get! s i.toNat).toNat:Int)≥(240:Int))&&(decide ((↑(ByteArray.get! s i.toNat).toNat:Int)≤(244:Int))&&(decide (IntKind.i64.wrap ((↑(ByteArray.size s):Int) - i)≥(4:Int))&&(tail_F (bif decide (IntKind.i64.wrap ((↑(ByteArray.size s):Int) - i) > (1:Int)) then (↑(ByteArray.get! s (IntKind.i64.wrap (i+(1:Int))).toNat).toNat:Int) else (0:Int))&&(tail_F (↑(ByteArray.get! s (IntKind.i64.wrap (i+(2:Int))).toNat).toNat:Int)&&tail_F (↑(ByteArray.get! s (IntKind.i64.wrap (i+(3:Int))).toNat).toNat:Int))))) then bif bif (↑(ByteArray.get! s i.toNat).toNat:Int)==(240:Int) then decide ((bif decide (IntKind.i64.wrap ((↑(ByteArray.size s):Int) - i) > (1:Int)) then (↑(ByteArray.get! s (IntKind.i64.wrap (i+(1:Int))).toNat).toNat:Int) else (0:Int))<(144:Int))||(↑(ByteArray.get! s i.toNat).toNat:Int)==(244:Int)&&decide ((bif decide (IntKind.i64.wrap ((↑(ByteArray.size s):Int) - i) > (1:Int)) then (↑(ByteArray.get! s (IntKind.i64.wrap (i+(1:Int))).toNat).toNat:Int) else (0:Int)) > (143:Int)) else (↑(ByteArray.get! s i.toNat).toNat:Int)==(244:Int)&&decide ((bif decide (IntKind.i64.wrap ((↑(ByteArray.size s):Int) - i) > (1:Int)) then (↑(ByteArray.get! s (IntKind.i64.wrap (i+(1:Int))).toNat).toNat:Int) else (0:Int)) > (143:Int)) then (0:Int) else (4:Int) else (0:Int)
def wid_side (s:BA) (i:Int):Prop:=
 ((0:Int)≤i∧i<(↑(ByteArray.size s):Int))∧(decide (IntKind.i64.wrap ((↑(ByteArray.size s):Int) - i) > (1:Int))=true→(0:Int)≤IntKind.i64.wrap (i+(1:Int))∧IntKind.i64.wrap (i+(1:Int))<(↑(ByteArray.size s):Int))∧(decide ((↑(ByteArray.get! s i.toNat).toNat:Int)<(128:Int))=false→(decide ((↑(ByteArray.get! s i.toNat).toNat:Int)≥(194:Int))&&(decide ((↑(ByteArray.get! s i.toNat).toNat:Int)≤(223:Int))&&(decide (IntKind.i64.wrap ((↑(ByteArray.size s):Int) - i)≥(2:Int))&&tail_F (bif decide (IntKind.i64.wrap ((↑(ByteArray.size s):Int) - i) > (1:Int)) then (↑(ByteArray.get! s (IntKind.i64.wrap (i+(1:Int))).toNat).toNat:Int) else (0:Int)))))=false→(decide ((↑(ByteArray.get! s i.toNat).toNat:Int)≥(224:Int))=true→decide ((↑(ByteArray.get! s i.toNat).toNat:Int)≤(239:Int))=true→decide (IntKind.i64.wrap ((↑(ByteArray.size s):Int) - i)≥(3:Int))=true→tail_F (bif decide (IntKind.i64.wrap ((↑(ByteArray.size s):Int) - i) > (1:Int)) then (↑(ByteArray.get! s (IntKind.i64.wrap (i+(1:Int))).toNat).toNat:Int) else (0:Int))=true→(0:Int)≤IntKind.i64.wrap (i+(2:Int))∧IntKind.i64.wrap (i+(2:Int))<(↑(ByteArray.size s):Int))∧((decide ((↑(ByteArray.get! s i.toNat).toNat:Int)≥(224:Int))&&(decide ((↑(ByteArray.get! s i.toNat).toNat:Int)≤(239:Int))&&(decide (IntKind.i64.wrap ((↑(ByteArray.size s):Int) - i)≥(3:Int))&&(tail_F (bif decide (IntKind.i64.wrap ((↑(ByteArray.size s):Int) - i) > (1:Int)) then (↑(ByteArray.get! s (IntKind.i64.wrap (i+(1:Int))).toNat).toNat:Int) else (0:Int))&&tail_F (↑(ByteArray.get! s (IntKind.i64.wrap (i+(2:Int))).toNat).toNat:Int)))))=false→(decide ((↑(ByteArray.get! s i.toNat).toNat:Int)≥(240:Int))=true→decide ((↑(ByteArray.get! s i.toNat).toNat:Int)≤(244:Int))=true→decide (IntKind.i64.wrap ((↑(ByteArray.size s):Int) - i)≥(4:Int))=true→tail_F (bif decide (IntKind.i64.wrap ((↑(ByteArray.size s):Int) - i) > (1:Int)) then (↑(ByteArray.get! s (IntKind.i64.wrap (i+(1:Int))).toNat).toNat:Int) else (0:Int))=true→(0:Int)≤IntKind.i64.wrap (i+(2:Int))∧IntKind.i64.wrap (i+(2:Int))<(↑(ByteArray.size s):Int))∧(decide ((↑(ByteArray.get! s i.toNat).toNat:Int)≥(240:Int))=true→decide ((↑(ByteArray.get! s i.toNat).toNat:Int)≤(244:Int))=true→decide (IntKind.i64.wrap ((↑(ByteArray.size s):Int) - i)≥(4:Int))=true→tail_F (bif decide (IntKind.i64.wrap ((↑(ByteArray.size s):Int) - i) > (1:Int)) then (↑(ByteArray.get! s (IntKind.i64.wrap (i+(1:Int))).toNat).toNat:Int) else (0:Int))=true→tail_F (↑(ByteArray.get! s (IntKind.i64.wrap (i+(2:Int))).toNat).toNat:Int)=true→(0:Int)≤IntKind.i64.wrap (i+(3:Int))∧IntKind.i64.wrap (i+(3:Int))<(↑(ByteArray.size s):Int))))
theorem wid_okS (pre:DA.T aBI→List Prop) (h:∀ g,DA.bd aBI g→(∀ p∈pre g,p)→wid_side g.1 g.2):FnPure Tryd.prog 73 aBI dI (fun g=>wid_F g.1 g.2) pre:=pure_of_sideS (Γ:=(PTab.gamz tabA1 [] [])) (Λ:=noΛ) (PTab.okz tabA1 [] []) noΛ_ok 100 default (fun g=>wid_side g.1 g.2) (fun g=>by kernel_rfl) (fun g=>by kernel_rfl) h
noncomputable def tabA2:PTab Tryd.prog:=tabA1
end Go.Proofs.YtmegbepjdololaaDoor

namespace Go.Proofs.YtmegbepjdololaaDoor
open Go.RowKit Go.Sx Go.Lp
def KB:Nat:=1099511627776
theorem wrS {x:Int} (h:-9223372036854775808≤x∧x≤9223372036854775807):IntKind.i64.wrap x=x:=by
 have:IntKind.i64.wrap x=(if 9223372036854775808≤x % 18446744073709551616 then x % 18446744073709551616 - 18446744073709551616 else x % 18446744073709551616):=by
  unfold IntKind.wrap
  simp[IntKind.bits,IntKind.signed]
 rw[this]
 split <;> omega
def widN (n b0 b1 b2 b3:Nat):Int:=if (Lib.decodeN n b0 b1 b2 b3).1=65533∧(Lib.decodeN n b0 b1 b2 b3).2=1 then 0 else (Lib.decodeN n b0 b1 b2 b3).2
def widZ (s:BA) (i:Nat):Int:=if (Utf8.decode s i).1=65533∧(Utf8.decode s i).2=1 then 0 else (Utf8.decode s i).2
theorem widZ_eq (s:BA) (i:Nat):widZ s i=widN (s.size - i) (s.get! i).toNat (s.get! (i+1)).toNat (s.get! (i+2)).toNat (s.get! (i+3)).toNat:=by
 unfold widZ widN
 rw[Lib.decode_at]
theorem wid_law (n b0 b1 b2 b3:Nat) (h0:b0<256) (h1:b1<256) (h2:b2<256) (h3:b3<256) (hn:1≤n) :
  widN n b0 b1 b2 b3=if b0<128 then 1 else if 194≤b0∧b0≤223∧2≤n∧128≤b1∧b1≤191 then 2 else
   if 224≤b0∧b0≤239∧3≤n∧128≤b1∧b1≤191∧128≤b2∧b2≤191 then (if b0=224∧b1<160∨b0=237∧159<b1 then 0 else 3) else
   if 240≤b0∧b0≤244∧4≤n∧128≤b1∧b1≤191∧128≤b2∧b2≤191∧128≤b3∧b3≤191 then (if b0=240∧b1<144∨b0=244∧143<b1 then 0 else 4) else 0:=by
 unfold widN
 rcases Lib.decodeN_shape n b0 b1 b2 b3 with ⟨c,e⟩ | ⟨c1,c2,c3,cv,e⟩ | ⟨c1,c2,c3,c4,cv,cs,e⟩ | ⟨c1,c2,c3,c4,c5,cv,cw,e⟩ | e
 ·rw[e,if_pos c,if_neg (by intro h;have:=h.1;dsimp only at this;omega)];rfl
 ·rw[e,if_neg (by intro h;have:=h.2;dsimp only at this;omega),if_neg (by omega),if_pos (by omega)];rfl
 ·rw[e,if_neg (by intro h;have:=h.2;dsimp only at this;omega),if_neg (by omega),if_neg (by omega),if_pos (by omega),if_neg (by omega)];rfl
 ·rw[e,if_neg (by intro h;have:=h.2;dsimp only at this;omega),if_neg (by omega),if_neg (by omega),if_neg (by omega),if_pos (by omega),if_neg (by omega)];rfl
 ·rw[e,if_pos ⟨rfl,rfl⟩]
  unfold Lib.decodeN at e
  split at e
  ·simp only[Prod.mk.injEq] at e;omega
  split at e
  ·split at e
   ·simp only[Prod.mk.injEq] at e;omega
   ·rw[if_neg (by omega),if_neg (by omega),if_neg (by omega),if_neg (by omega)]
  split at e
  ·split at e
   ·simp only[Prod.mk.injEq] at e;omega
   ·rw[if_neg (by omega),if_neg (by omega)]
    split
    ·rw[if_pos (by omega)]
    ·rw[if_neg (by omega)]
  split at e
  ·split at e
   ·simp only[Prod.mk.injEq] at e;omega
   ·rw[if_neg (by omega),if_neg (by omega),if_neg (by omega)]
    split
    ·rw[if_pos (by omega)]
    ·rfl
  ·rw[if_neg (by omega),if_neg (by omega),if_neg (by omega),if_neg (by omega)]
def widB (n b0 b1 b2 b3:Int):Int:=
 bif decide (b0<128) then 1 else
 bif decide (b0≥194)&&(decide (b0≤223)&&(decide (n≥2)&&(decide (b1≥128)&&decide (b1≤191)))) then 2 else
 bif decide (b0≥224)&&(decide (b0≤239)&&(decide (n≥3)&&((decide (b1≥128)&&decide (b1≤191))&&(decide (b2≥128)&&decide (b2≤191))))) then
  (bif (bif b0==224 then decide (b1<160)||b0==237&&decide (b1 > 159) else b0==237&&decide (b1 > 159)) then 0 else 3) else
 bif decide (b0≥240)&&(decide (b0≤244)&&(decide (n≥4)&&((decide (b1≥128)&&decide (b1≤191))&&((decide (b2≥128)&&decide (b2≤191))&&(decide (b3≥128)&&decide (b3≤191)))))) then
  (bif (bif b0==240 then decide (b1<144)||b0==244&&decide (b1 > 143) else b0==244&&decide (b1 > 143)) then 0 else 4) else 0
theorem widB_law (n b0 b1 b2 b3:Nat) (m:Int) (hm:2≤n→m=b1) (hm':n<2→m=0) :
  widB n b0 m b2 b3=if b0<128 then 1 else if 194≤b0∧b0≤223∧2≤n∧128≤b1∧b1≤191 then 2 else
   if 224≤b0∧b0≤239∧3≤n∧128≤b1∧b1≤191∧128≤b2∧b2≤191 then (if b0=224∧b1<160∨b0=237∧159<b1 then 0 else 3) else
   if 240≤b0∧b0≤244∧4≤n∧128≤b1∧b1≤191∧128≤b2∧b2≤191∧128≤b3∧b3≤191 then (if b0=240∧b1<144∨b0=244∧143<b1 then 0 else 4) else 0:=by
 have q:∀ a c l u:Int,(bif (b0:Int)==a then decide (m<l)||(b0:Int)==c&&decide (m > u) else (b0:Int)==c&&decide (m > u))=decide ((b0:Int)=a∧m<l∨(b0:Int)=c∧u<m):=fun a c l u=>by
  rw[Bool.eq_iff_iff]
  by_cases h1:(b0:Int)=a
  ·have e:((b0:Int)==a)=true:=by simpa using h1
   rw[e,cond_true]
   simp only[Bool.or_eq_true,Bool.and_eq_true,decide_eq_true_eq,beq_iff_eq]
   omega
  ·have e:((b0:Int)==a)=false:=by simpa using h1
   rw[e,cond_false]
   simp only[Bool.and_eq_true,decide_eq_true_eq,beq_iff_eq]
   omega
 unfold widB
 rw[q,q]
 simp only[Bool.cond_eq_ite,Bool.and_eq_true,Bool.or_eq_true,decide_eq_true_eq,beq_iff_eq]
 repeat' split
 all_goals first | rfl | (exfalso;omega)
theorem wid_B (s:BA) (k:Nat) (hk:k<s.size) (hs:s.size≤KB):wid_F s (k:Int)=widB ((s.size - k:Nat):Int) (s.get! k).toNat (bif decide (((s.size - k:Nat):Int) > 1) then ((s.get! (k+1)).toNat:Int) else 0) (s.get! (k+2)).toNat (s.get! (k+3)).toNat:=by
 unfold KB at hs
 have e:((s.size:Nat):Int) - (k:Int)=((s.size - k:Nat):Int):=by omega
 unfold wid_F tail_F
 rw[wrS (x:=(s.size:Int) - (k:Int)) (by omega),wrS (x:=(k:Int)+1) (by omega),wrS (x:=(k:Int)+2) (by omega),wrS (x:=(k:Int)+3) (by omega)]
 rw[show ((k:Int)+1).toNat=k+1 by omega,show ((k:Int)+2).toNat=k+2 by omega,show ((k:Int)+3).toNat=k+3 by omega,Int.toNat_natCast,e]
 rfl
theorem wid_eq (s:BA) (k:Nat) (hk:k<s.size) (hs:s.size≤KB):wid_F s (k:Int)=widZ s k:=by
 rw[wid_B s k hk hs,widZ_eq,wid_law _ _ _ _ _ (UInt8.toNat_lt _) (UInt8.toNat_lt _) (UInt8.toNat_lt _) (UInt8.toNat_lt _) (by omega)]
 refine widB_law _ _ _ _ _ _ (fun h=>?_) fun h=>?_
 ·rw[decide_eq_true (by omega)];rfl
 ·rw[decide_eq_false (by omega)];rfl
theorem wid_si (s:BA) (k:Nat) (hk:k<s.size) (hs:s.size≤KB):wid_side s (k:Int):=by
 unfold KB at hs
 unfold wid_side
 rw[wrS (x:=(s.size:Int) - (k:Int)) (by omega),wrS (x:=(k:Int)+1) (by omega),wrS (x:=(k:Int)+2) (by omega),wrS (x:=(k:Int)+3) (by omega)]
 refine ⟨by omega,fun h=>?_,fun _ _=>⟨fun _ _ h _=>?_,fun _=>⟨fun _ _ h _=>?_,fun _ _ h _ _=>?_⟩⟩⟩
 all_goals (have h':=of_decide_eq_true h;omega)
theorem wid_ok:FnPure Tryd.prog 73 aBI dI (fun g=>widZ g.1 g.2.toNat) (fun g=>[0≤g.2∧g.2<g.1.size,g.1.size≤KB]):=
 pure_congr (wid_okS _ fun g _ hp=>by
  obtain ⟨s,i⟩:=g
  have h1:=hp _ (List.mem_cons_self ..)
  have h2:=hp _ (List.mem_cons_of_mem _ (List.mem_cons_self ..))
  obtain ⟨k,rfl⟩:∃ k:Nat,i=k:=⟨i.toNat,by simp only at h1;omega⟩
  exact wid_si s k (by simp only at h1;omega) h2) fun g _ hp=>by
  obtain ⟨s,i⟩:=g
  have h1:=hp _ (List.mem_cons_self ..)
  have h2:=hp _ (List.mem_cons_of_mem _ (List.mem_cons_self ..))
  obtain ⟨k,rfl⟩:∃ k:Nat,i=k:=⟨i.toNat,by simp only at h1;omega⟩
  exact wid_eq s k (by simp only at h1;omega) h2
noncomputable def tabA3:PTab Tryd.prog:=tabA2.cons 73 (pconP aBI dI (fun g=>widZ g.1 g.2.toNat) (fun g=>[0≤g.2∧g.2<g.1.size,g.1.size≤KB])) (conP_ok wid_ok puI)
end Go.Proofs.YtmegbepjdololaaDoor

namespace Go.Proofs.YtmegbepjdololaaDoor
open Go.RowKit Go.Sx Go.Lp Go.Shelf
abbrev aB8:DA (ByteArray×Int):=.cons dStr (.one (dInt .u8))
abbrev dBB:Dv (ByteArray×Bool):=.tup (.cons dStr (.one dBool))
abbrev dBBB:Dv (ByteArray×ByteArray×Bool):=.tup (.cons dStr (.cons dStr (.one dBool)))
theorem puBB (r:ByteArray×Bool):Pu (dBB.enc r):=pu_tup (pus_cons (pu_v _) (pus_cons (pu_v _) pus_nil))
theorem puBBB (r:ByteArray×ByteArray×Bool):Pu (dBBB.enc r):=pu_tup (pus_cons (pu_v _) (pus_cons (pu_v _) (pus_cons (pu_v _) pus_nil)))
theorem below_drewM {B:Nat} {a w:World} (h:Below B a w):∀ q,Below B a (w.drewN q)
 | 0=>h
 | q+1=>(below_drewM h q).drew
def KS:Nat:=4294967280
def lvVal_ren:Go.Shelf.Ren:=⟨fun | 196=>88 | 259=>121 | n=>n,fun | 9=>9 | 4=>4 | 3=>3 | 5=>5 | 12=>12 | 119=>142 | 0=>0 | 46=>112 | 139=>145 | 138=>144 | 53=>139 | n=>n,fun | 3=>0 | 4=>1 | n=>n⟩
theorem lvVal:Lays.n196 Tryd.prog lvVal_ren:={
 mixed:=by kernel_rfl,
 f196:=Tryd.func88.trans (congrArg some (by kernel_rfl)),
 f259:=Tryd.func121.trans (congrArg some (by kernel_rfl)),
 t0:=Tryd.underlying0,
 a0:=Tryd.isAgg0,
 z0:=Tryd.sizeOf0,
 v0:=Tryd.zeroValue0,
 t3:=Tryd.underlying3,
 a3:=Tryd.isAgg3,
 z3:=Tryd.sizeOf3,
 v3:=Tryd.zeroValue3,
 t4:=Tryd.underlying4,
 a4:=Tryd.isAgg4,
 z4:=Tryd.sizeOf4,
 v4:=Tryd.zeroValue4,
 t5:=Tryd.underlying5,
 a5:=Tryd.isAgg5,
 z5:=Tryd.sizeOf5,
 v5:=Tryd.zeroValue5,
 t9:=Tryd.underlying9,
 a9:=Tryd.isAgg9,
 z9:=Tryd.sizeOf9,
 v9:=Tryd.zeroValue9,
 t12:=Tryd.underlying12,
 a12:=Tryd.isAgg12,
 z12:=Tryd.sizeOf12,
 v12:=Tryd.zeroValue12,
 t46:=Tryd.underlying112,
 a46:=Tryd.isAgg112,
 z46:=Tryd.sizeOf112,
 v46:=Tryd.zeroValue112,
 t53:=Tryd.underlying139,
 a53:=Tryd.isAgg139,
 z53:=Tryd.sizeOf139,
 v53:=Tryd.zeroValue139,
 t119:=Tryd.underlying142,
 a119:=Tryd.isAgg142,
 z119:=Tryd.sizeOf142,
 t138:=Tryd.underlying144,
 a138:=Tryd.isAgg144,
 z138:=Tryd.sizeOf144,
 v138:=Tryd.zeroValue144,
 t139:=Tryd.underlying145,
 a139:=Tryd.isAgg145,
 z139:=Tryd.sizeOf145,
 v139:=Tryd.zeroValue145,
 g3:=by kernel_rfl,
 g4:=by kernel_rfl }
theorem val_ok:FnPure Tryd.prog 88 aB dBool (fun g=>Lib.validD g.data.toList) (fun g=>[g.size≤KB]):=by
 intro w F g vs hF hE hp hf
 obtain ⟨x,r,rfl,hx,hr⟩:=fits_cons hf
 have:=fits_nil hr
 subst this
 have hx:x=_:=hx
 subst hx
 refine ((Any.utf8_ValidString lvVal g w (by have:=hp _ (List.mem_cons_self ..);unfold KB at this;omega) (envTabs hF hE))).mono ?_
 rintro e w' ⟨rfl,hb⟩
 exact ⟨_,rfl,hb,rfl⟩
noncomputable abbrev val_con:PCon:=pconP aB dBool (fun g=>Lib.validD g.data.toList) (fun g=>[g.size≤KB])
theorem val_fok:FnOk Tryd.prog 88 val_con.g:=conP_ok val_ok puB
def lvCon_ren:Go.Shelf.Ren:=⟨fun | 144=>63 | 143=>107 | 219=>125 | 217=>120 | 225=>131 | 224=>132 | 267=>133 | 266=>129 | 314=>144 | n=>n,fun | 9=>9 | 4=>4 | 3=>3 | 5=>5 | 46=>112 | 146=>161 | 51=>159 | n=>n,fun | 1=>2 | n=>n⟩
theorem lvCon:Lays.n144 Tryd.prog lvCon_ren:={
 mixed:=by kernel_rfl,
 f143:=Tryd.func107.trans (congrArg some (by kernel_rfl)),
 f144:=Tryd.func63.trans (congrArg some (by kernel_rfl)),
 f217:=Tryd.func120.trans (congrArg some (by kernel_rfl)),
 f219:=Tryd.func125.trans (congrArg some (by kernel_rfl)),
 f224:=Tryd.func132.trans (congrArg some (by kernel_rfl)),
 f225:=Tryd.func131.trans (congrArg some (by kernel_rfl)),
 f266:=Tryd.func129.trans (congrArg some (by kernel_rfl)),
 f267:=Tryd.func133.trans (congrArg some (by kernel_rfl)),
 f314:=Tryd.func144.trans (congrArg some (by kernel_rfl)),
 t3:=Tryd.underlying3,
 a3:=Tryd.isAgg3,
 z3:=Tryd.sizeOf3,
 v3:=Tryd.zeroValue3,
 t4:=Tryd.underlying4,
 a4:=Tryd.isAgg4,
 z4:=Tryd.sizeOf4,
 v4:=Tryd.zeroValue4,
 t5:=Tryd.underlying5,
 a5:=Tryd.isAgg5,
 z5:=Tryd.sizeOf5,
 v5:=Tryd.zeroValue5,
 t9:=Tryd.underlying9,
 a9:=Tryd.isAgg9,
 z9:=Tryd.sizeOf9,
 v9:=Tryd.zeroValue9,
 t46:=Tryd.underlying112,
 a46:=Tryd.isAgg112,
 z46:=Tryd.sizeOf112,
 v46:=Tryd.zeroValue112,
 t51:=Tryd.underlying159,
 a51:=Tryd.isAgg159,
 z51:=Tryd.sizeOf159,
 v51:=Tryd.zeroValue159,
 t146:=Tryd.underlying161,
 a146:=Tryd.isAgg161,
 z146:=Tryd.sizeOf161,
 v146:=Tryd.zeroValue161,
 g1:=by kernel_rfl }
theorem scon_ok:FnPure Tryd.prog 63 aBB dBool (fun g=>Lib.contains g.1.data.toList g.2.data.toList) (fun g=>[g.1.size≤KS]):=by
 intro w F g vs hF hE hp hf
 obtain ⟨x,r,rfl,hx,hr⟩:=fits_cons hf
 obtain ⟨y,r,rfl,hy,hr⟩:=fits_cons hr
 have:=fits_nil hr
 subst this
 have hx:x=_:=hx
 subst hx
 have hy:y=_:=hy
 subst hy
 obtain ⟨m,hm⟩:=envMax hF hE
 refine ((Any.strings_Contains lvCon g.1 g.2 m w (by have:=hp _ (List.mem_cons_self ..);unfold KS at this;omega) hm)).mono ?_
 rintro e w' ⟨rfl,rfl⟩
 exact ⟨_,rfl,Below.refl _ _,rfl⟩
noncomputable abbrev scon_con:PCon:=pconP aBB dBool (fun g=>Lib.contains g.1.data.toList g.2.data.toList) (fun g=>[g.1.size≤KS])
theorem scon_fok:FnOk Tryd.prog 63 scon_con.g:=conP_ok scon_ok puB
def lvPre_ren:Go.Shelf.Ren:=⟨fun | 99=>52 | 206=>97 | n=>n,fun | 9=>9 | 4=>4 | 3=>3 | n=>n,fun | n=>n⟩
theorem lvPre:Lays.n99 Tryd.prog lvPre_ren:={
 mixed:=by kernel_rfl,
 f99:=Tryd.func52.trans (congrArg some (by kernel_rfl)),
 f206:=Tryd.func97.trans (congrArg some (by kernel_rfl)),
 t3:=Tryd.underlying3,
 a3:=Tryd.isAgg3,
 z3:=Tryd.sizeOf3,
 v3:=Tryd.zeroValue3,
 t4:=Tryd.underlying4,
 a4:=Tryd.isAgg4,
 z4:=Tryd.sizeOf4,
 v4:=Tryd.zeroValue4,
 t9:=Tryd.underlying9,
 a9:=Tryd.isAgg9,
 z9:=Tryd.sizeOf9,
 v9:=Tryd.zeroValue9 }
theorem spre_ok:FnPure Tryd.prog 52 aBB dBool (fun g=>Lib.hasPrefix g.1.data.toList g.2.data.toList) (fun g=>[]):=by
 intro w F g vs hF hE hp hf
 obtain ⟨x,r,rfl,hx,hr⟩:=fits_cons hf
 obtain ⟨y,r,rfl,hy,hr⟩:=fits_cons hr
 have:=fits_nil hr
 subst this
 have hx:x=_:=hx
 subst hx
 have hy:y=_:=hy
 subst hy
 refine ((Any.strings_HasPrefix lvPre g.1 g.2 w)).mono ?_
 rintro e w' ⟨rfl,rfl⟩
 exact ⟨_,rfl,Below.refl _ _,rfl⟩
noncomputable abbrev spre_con:PCon:=pconP aBB dBool (fun g=>Lib.hasPrefix g.1.data.toList g.2.data.toList) (fun g=>[])
theorem spre_fok:FnOk Tryd.prog 52 spre_con.g:=conP_ok spre_ok puB
def lvCmp_ren:Go.Shelf.Ren:=⟨fun | 106=>91 | 213=>123 | 265=>130 | n=>n,fun | 9=>9 | 3=>3 | n=>n,fun | n=>n⟩
theorem lvCmp:Lays.n106 Tryd.prog lvCmp_ren:={
 mixed:=by kernel_rfl,
 f106:=Tryd.func91.trans (congrArg some (by kernel_rfl)),
 f213:=Tryd.func123.trans (congrArg some (by kernel_rfl)),
 f265:=Tryd.func130.trans (congrArg some (by kernel_rfl)),
 t3:=Tryd.underlying3,
 a3:=Tryd.isAgg3,
 z3:=Tryd.sizeOf3,
 v3:=Tryd.zeroValue3,
 t9:=Tryd.underlying9,
 a9:=Tryd.isAgg9,
 z9:=Tryd.sizeOf9,
 v9:=Tryd.zeroValue9 }
theorem scmp_ok:FnPure Tryd.prog 91 aBB dI (fun g=>Lib.compareBytes g.1.data.toList g.2.data.toList) (fun g=>[]):=by
 intro w F g vs hF hE hp hf
 obtain ⟨x,r,rfl,hx,hr⟩:=fits_cons hf
 obtain ⟨y,r,rfl,hy,hr⟩:=fits_cons hr
 have:=fits_nil hr
 subst this
 have hx:x=_:=hx
 subst hx
 have hy:y=_:=hy
 subst hy
 refine ((Any.strings_Compare lvCmp g.1 g.2 w)).mono ?_
 rintro e w' ⟨rfl,rfl⟩
 exact ⟨_,rfl,Below.refl _ _,rfl⟩
noncomputable abbrev scmp_con:PCon:=pconP aBB dI (fun g=>Lib.compareBytes g.1.data.toList g.2.data.toList) (fun g=>[])
theorem scmp_fok:FnOk Tryd.prog 91 scmp_con.g:=conP_ok scmp_ok puI
def lvIxb_ren:Go.Shelf.Ren:=⟨fun | 137=>83 | 217=>120 | 266=>129 | n=>n,fun | 9=>9 | 5=>5 | 3=>3 | n=>n,fun | n=>n⟩
theorem lvIxb:Lays.n137 Tryd.prog lvIxb_ren:={
 mixed:=by kernel_rfl,
 f137:=Tryd.func83.trans (congrArg some (by kernel_rfl)),
 f217:=Tryd.func120.trans (congrArg some (by kernel_rfl)),
 f266:=Tryd.func129.trans (congrArg some (by kernel_rfl)),
 t3:=Tryd.underlying3,
 a3:=Tryd.isAgg3,
 z3:=Tryd.sizeOf3,
 v3:=Tryd.zeroValue3,
 t5:=Tryd.underlying5,
 a5:=Tryd.isAgg5,
 z5:=Tryd.sizeOf5,
 v5:=Tryd.zeroValue5,
 t9:=Tryd.underlying9,
 a9:=Tryd.isAgg9,
 z9:=Tryd.sizeOf9,
 v9:=Tryd.zeroValue9 }
theorem sixb_ok:FnPure Tryd.prog 83 aB8 dI (fun g=>Lib.indexByte g.1.data.toList g.2.toNat.toUInt8) (fun g=>[]):=by
 intro w F g vs hF hE hp hf
 obtain ⟨x,r,rfl,hx,hr⟩:=fits_cons hf
 obtain ⟨y,r,rfl,hy,hr⟩:=fits_cons hr
 have:=fits_nil hr
 subst this
 have hx:x=_:=hx
 subst hx
 have hy:y=_:=hy
 subst hy
 refine ((Any.strings_IndexByte lvIxb g.1 g.2 w)).mono ?_
 rintro e w' ⟨rfl,rfl⟩
 exact ⟨_,rfl,Below.refl _ _,rfl⟩
noncomputable abbrev sixb_con:PCon:=pconP aB8 dI (fun g=>Lib.indexByte g.1.data.toList g.2.toNat.toUInt8) (fun g=>[])
theorem sixb_fok:FnOk Tryd.prog 83 sixb_con.g:=conP_ok sixb_ok puI
def lvCpf_ren:Go.Shelf.Ren:=⟨fun | 103=>119 | 210=>128 | 206=>97 | n=>n,fun | 9=>9 | 4=>4 | 24=>137 | 3=>3 | n=>n,fun | n=>n⟩
theorem lvCpf:Lays.n103 Tryd.prog lvCpf_ren:={
 mixed:=by kernel_rfl,
 f103:=Tryd.func119.trans (congrArg some (by kernel_rfl)),
 f206:=Tryd.func97.trans (congrArg some (by kernel_rfl)),
 f210:=Tryd.func128.trans (congrArg some (by kernel_rfl)),
 t3:=Tryd.underlying3,
 a3:=Tryd.isAgg3,
 z3:=Tryd.sizeOf3,
 v3:=Tryd.zeroValue3,
 t4:=Tryd.underlying4,
 a4:=Tryd.isAgg4,
 z4:=Tryd.sizeOf4,
 v4:=Tryd.zeroValue4,
 t9:=Tryd.underlying9,
 a9:=Tryd.isAgg9,
 z9:=Tryd.sizeOf9,
 v9:=Tryd.zeroValue9,
 t24:=Tryd.underlying137,
 a24:=Tryd.isAgg137,
 z24:=Tryd.sizeOf137,
 v24:=Tryd.zeroValue137 }
theorem scpf_ok:FnPure Tryd.prog 119 aBB dBB (fun g=>((⟨(Lib.trimPrefix g.1.data.toList g.2.data.toList).toArray⟩:ByteArray),Lib.hasPrefix g.1.data.toList g.2.data.toList)) (fun g=>[]):=by
 intro w F g vs hF hE hp hf
 obtain ⟨x,r,rfl,hx,hr⟩:=fits_cons hf
 obtain ⟨y,r,rfl,hy,hr⟩:=fits_cons hr
 have:=fits_nil hr
 subst this
 have hx:x=_:=hx
 subst hx
 have hy:y=_:=hy
 subst hy
 refine ((Any.strings_CutPrefix lvCpf g.1 g.2 w)).mono ?_
 rintro e w' ⟨rfl,rfl⟩
 exact ⟨_,rfl,Below.refl _ _,⟨_,rfl,rfl,rfl,trivial⟩⟩
noncomputable abbrev scpf_con:PCon:=pconP aBB dBB (fun g=>((⟨(Lib.trimPrefix g.1.data.toList g.2.data.toList).toArray⟩:ByteArray),Lib.hasPrefix g.1.data.toList g.2.data.toList)) (fun g=>[])
theorem scpf_fok:FnOk Tryd.prog 119 scpf_con.g:=conP_ok scpf_ok puBB
def lvCut_ren:Go.Shelf.Ren:=⟨fun | 145=>81 | 220=>118 | 219=>125 | 217=>120 | 225=>131 | 224=>132 | 267=>133 | 266=>129 | 314=>144 | n=>n,fun | 9=>9 | 4=>4 | 59=>106 | 3=>3 | 5=>5 | 46=>112 | 146=>161 | 51=>159 | n=>n,fun | 1=>2 | n=>n⟩
theorem lvCut:Lays.n145 Tryd.prog lvCut_ren:={
 mixed:=by kernel_rfl,
 f145:=Tryd.func81.trans (congrArg some (by kernel_rfl)),
 f217:=Tryd.func120.trans (congrArg some (by kernel_rfl)),
 f219:=Tryd.func125.trans (congrArg some (by kernel_rfl)),
 f220:=Tryd.func118.trans (congrArg some (by kernel_rfl)),
 f224:=Tryd.func132.trans (congrArg some (by kernel_rfl)),
 f225:=Tryd.func131.trans (congrArg some (by kernel_rfl)),
 f266:=Tryd.func129.trans (congrArg some (by kernel_rfl)),
 f267:=Tryd.func133.trans (congrArg some (by kernel_rfl)),
 f314:=Tryd.func144.trans (congrArg some (by kernel_rfl)),
 t3:=Tryd.underlying3,
 a3:=Tryd.isAgg3,
 z3:=Tryd.sizeOf3,
 v3:=Tryd.zeroValue3,
 t4:=Tryd.underlying4,
 a4:=Tryd.isAgg4,
 z4:=Tryd.sizeOf4,
 v4:=Tryd.zeroValue4,
 t5:=Tryd.underlying5,
 a5:=Tryd.isAgg5,
 z5:=Tryd.sizeOf5,
 v5:=Tryd.zeroValue5,
 t9:=Tryd.underlying9,
 a9:=Tryd.isAgg9,
 z9:=Tryd.sizeOf9,
 v9:=Tryd.zeroValue9,
 t46:=Tryd.underlying112,
 a46:=Tryd.isAgg112,
 z46:=Tryd.sizeOf112,
 v46:=Tryd.zeroValue112,
 t51:=Tryd.underlying159,
 a51:=Tryd.isAgg159,
 z51:=Tryd.sizeOf159,
 v51:=Tryd.zeroValue159,
 t59:=Tryd.underlying106,
 a59:=Tryd.isAgg106,
 z59:=Tryd.sizeOf106,
 v59:=Tryd.zeroValue106,
 t146:=Tryd.underlying161,
 a146:=Tryd.isAgg161,
 z146:=Tryd.sizeOf161,
 v146:=Tryd.zeroValue161,
 g1:=by kernel_rfl }
theorem scut_ok:FnPure Tryd.prog 81 aBB dBBB (fun g=>((⟨(Lib.cut g.1.data.toList g.2.data.toList).1.toArray⟩:ByteArray),(⟨(Lib.cut g.1.data.toList g.2.data.toList).2.1.toArray⟩:ByteArray),(Lib.cut g.1.data.toList g.2.data.toList).2.2)) (fun g=>[g.1.size≤KS]):=by
 intro w F g vs hF hE hp hf
 obtain ⟨x,r,rfl,hx,hr⟩:=fits_cons hf
 obtain ⟨y,r,rfl,hy,hr⟩:=fits_cons hr
 have:=fits_nil hr
 subst this
 have hx:x=_:=hx
 subst hx
 have hy:y=_:=hy
 subst hy
 obtain ⟨m,hm⟩:=envMax hF hE
 refine ((Any.strings_Cut lvCut g.1 g.2 m w (by have:=hp _ (List.mem_cons_self ..);unfold KS at this;omega) hm)).mono ?_
 rintro e w' ⟨rfl,n,rfl⟩
 exact ⟨_,rfl,below_drewM (Below.refl _ _) n,⟨_,rfl,rfl,rfl,rfl,trivial⟩⟩
noncomputable abbrev scut_con:PCon:=pconP aBB dBBB (fun g=>((⟨(Lib.cut g.1.data.toList g.2.data.toList).1.toArray⟩:ByteArray),(⟨(Lib.cut g.1.data.toList g.2.data.toList).2.1.toArray⟩:ByteArray),(Lib.cut g.1.data.toList g.2.data.toList).2.2)) (fun g=>[g.1.size≤KS])
theorem scut_fok:FnOk Tryd.prog 81 scut_con.g:=conP_ok scut_ok puBBB
noncomputable def tabB1:PTab Tryd.prog:=(((((((tabA3.cons 88 val_con val_fok).cons 63 scon_con scon_fok).cons 52 spre_con spre_fok).cons 91 scmp_con scmp_fok).cons 83 sixb_con sixb_fok).cons 119 scpf_con scpf_fok).cons 81 scut_con scut_fok)
end Go.Proofs.YtmegbepjdololaaDoor

namespace Go.Proofs.YtmegbepjdololaaDoor
open Go.ChangeShapes Go.WideShapes Go.ChangeAt Go.RowKit Go.Sx Go.Shelf
theorem cell_block {W:World} {b i:Nat} {v:Value} (h:W.cell? ⟨b,i,none⟩=some v):∃ cs t fz,W.heap[b]?=some (.cells cs t fz)∧cs[i]?=some v:=by
 unfold World.cell? at h
 simp only[Option.isSome_none,Bool.false_eq_true,if_false,id_eq] at h
 cases hb:W.heap[b]? with
 | none=>rw[hb] at h;cases h
 | some o=>
  rw[hb] at h
  cases o with
  | cells cs t fz=>exact ⟨cs,t,fz,rfl,h⟩
  | _=>cases h
abbrev laidL:List (String×DataW Unit):=[("unicode/utf8.acceptRanges",Rows.laid_unicode_utf8_acceptRanges),("unicode/utf8.first",Rows.laid_unicode_utf8_first)]
theorem laidFirst:Rows.laid_unicode_utf8_first=Lib.firstData:=by kernel_rfl
theorem laidAccept:Rows.laid_unicode_utf8_acceptRanges=Lib.acceptData:=by kernel_rfl
set_option maxRecDepth 100000 in
theorem rowEnv {W:World} (h:laidMetH Tryd.prog laidL W) (hs:W.ShapedOpen Tryd.prog):EnvF (fun b=>W.heap[b]?):=by
 rw[MakeChecks.laidMetH_plain _ _ _ (by kernel_rfl)] at h
 have hT:Lib.Utf8Tabs 0 1 W:=utf8Tabs_of_readsT (U8Types.of196 lvVal) ⟨by kernel_rfl,by kernel_rfl,by kernel_rfl,by kernel_rfl,by kernel_rfl,by kernel_rfl,by kernel_rfl⟩ (by rw[← laidFirst];exact Lib.laidMet.reads h (.tail _ (.head _))) (by rw[← laidAccept];exact Lib.laidMet.reads h (.head _))
 obtain ⟨m,hm⟩:∃ m,W.cell? ⟨2,0,none⟩=some (.int .i64 m):=cell_of_shapedOpen_int (t:=3) (zero:=#[.int .i64 0]) hs (of_decide_eq_true (by kernel_rfl)) (by kernel_rfl) rfl (by kernel_rfl) (by kernel_rfl) Tryd.underlying3
 refine ⟨?_,?_,?_⟩
 ·obtain ⟨cs,t,fz,h1,_⟩:=cell_block (hT.1 0 (by decide))
  refine ⟨cs,t,fz,h1,fun c hc=>?_⟩
  obtain ⟨cs',t',fz',k1,k2⟩:=cell_block (hT.1 c hc)
  rw[h1] at k1
  cases k1
  exact k2
 ·obtain ⟨cs,t,fz,h1,_⟩:=cell_block (hT.2 0 (by decide)).1
  refine ⟨cs,t,fz,h1,fun i hi=>⟨?_,?_⟩⟩
  ·obtain ⟨cs',t',fz',k1,k2⟩:=cell_block (hT.2 i hi).1
   rw[h1] at k1
   cases k1
   exact k2
  ·obtain ⟨cs',t',fz',k1,k2⟩:=cell_block (hT.2 i hi).2
   rw[h1] at k1
   cases k1
   exact k2
 ·obtain ⟨cs,t,fz,h1,h2⟩:=cell_block hm
  exact ⟨cs,t,fz,h1,m,h2⟩
theorem rowLaid {H:Type} {enc:TypeId×Value→H} {a:Assume} {C:Checked} {os:Os} {f:FuncId} {fn:Func} {s:ChangeSpec} {conds:List PathCond} {apart fresh handsOn again:Bool} {laid:List (String×DataW Unit)}
  (own:ownKnob C.prog.godebug=none) (started:os.Started) (noInit:C.prog.inits.idxOf? f=none) (hfn:C.prog.funcs[f]?=some fn)
  (witness:∃ (w:World) (tape:Tape) (i:Input),w.os=os∧(w.forCall tape i).Shaped C.prog∧i.vars=[]∧Input.okWide C.prog (w.forCall tape i) .any w.heap.size f i ∧
   ((s.pre enc C.prog fn conds apart (w.forCall tape i).memory i.args∧laidMetH C.prog laid (w.forCall tape i).memory)∧sizedMet enc C.prog fn (OpenSpec.ofChange s) apart (w.forCall tape i).memory i.args)∧a.holds C.prog (lone (Frame.enter C.prog f i.args .normal) [] (w.forCall tape i)))
  (contract:∀ (W:World) (base:Nat) (args:Array Value) (ds gs:List (DataW H)) (before:List MemPlace),
   (∀ (j:Nat) t v,fn.params[j]?=some t→args[j]?=some v→Value.okWide C.prog W .any base t v) →
   DataW.Whole enc C.prog fn.params.toList s.vars apart W args.toList ds gs before →
   conds.all (PathCond.test C.prog ⟨fn.params.toList,ds,s.plain.varTypes C.prog,gs⟩)=true →
   laidMetH C.prog laid W→W.ShapedOpen C.prog →
   Calls C.prog f args W fun e W'=>∃ v,e=.returned v∧s.post enc C.prog fn apart fresh handsOn again W args v W') :
  ReturnsInHanded a C os f .any (fun w args=>(s.pre enc C.prog fn conds apart w args∧laidMetH C.prog laid w)∧sizedMet enc C.prog fn (OpenSpec.ofChange s) apart w args) (s.post enc C.prog fn apart fresh handsOn again):=by
 refine returnsInHanded_of_calls own started noInit witness ?_
 intro w tape i _ hsh _ hok hpre hholds
 obtain ⟨_,_,_,fn',hfn',_,_,_,_,hval⟩:=hok
 have e:fn'=fn:=Option.some.inj (hfn'.symm.trans hfn)
 subst e
 obtain ⟨⟨⟨ds,gs,before,hw,hc⟩,hl⟩,hz⟩:=hpre
 have hw':=DataW.Whole.of_heap (w':=w.forCall tape i) (by rfl) hw
 refine (contract (w.forCall tape i) w.heap.size i.args ds gs before hval hw' hc (hl.of_heap (by rfl)) hsh).mono fun e W' ⟨v,he,hp⟩=>?_
 subst he
 exact ChangeSpec.post_blind hp
end Go.Proofs.YtmegbepjdololaaDoor

namespace Go.Proofs.YtmegbepjdololaaDoor
open Go.RowKit Go.Sx Go.ChangeShapes
def W1 (n:Int):Prop:=(Lit.int .i64 n).wf=true
def WS (s:BA):Prop:=s.size≤maxLen
def WIB (a:IB):Prop:=W1 a.1∧WS a.2
def WIIB (a:IIB):Prop:=W1 a.1∧W1 a.2.1∧WS a.2.2
def Rec.W (s:Rec):Prop:=WIB s.toP
def Fn.W (s:Fn):Prop:=WIIB s.toP
def Many.W (s:Many):Prop:=Rec.W s.toP.1∧W1 s.toP.2
theorem rd_str {P:Program} {t:TypeId} (ht:P.underlying t=some .string):Rd P t eStr WS:=fun H enc w base spare held fuel cs x hx=>by
 obtain ⟨s,rfl,_,hw⟩:=DataW.trod_string ht hx
 exact ⟨s,hw,by simp[eStr,El.one',dStr,SV.fits,SV.fit]⟩
theorem rd2:Rd Tryd.prog 2 eI W1:=rd_int Tryd.underlying2
theorem rd9:Rd Tryd.prog 9 eStr WS:=rd_str Tryd.underlying9
theorem rd46:Rd Tryd.prog 46 eR Rec.W:=rd_iso (Q:=WIB) (rd_struct (ts:=[2,9]) Tryd.underlying46 rfl (by kernel_rfl) (rds_cons rd2 (rds_one rd9))) _ _ _ _
theorem rd84:Rd Tryd.prog 84 eM Many.W:=rd_iso (Q:=fun a:Rec×Int=>Rec.W a.1∧W1 a.2) (rd_struct (ts:=[46,2]) Tryd.underlying84 rfl (by kernel_rfl) (rds_cons rd46 (rds_one rd2))) _ _ _ _
theorem rdvR:RdV Tryd.prog 46 dR Rec.W:=rdv_struct Tryd.underlying46 rd46
theorem rdvLR:RdV Tryd.prog 32 dLR (fun l=>∀ s∈l,Rec.W s):=rdv_slice Tryd.underlying32 (by kernel_rfl) (by decide) rd46
theorem rdvLM:RdV Tryd.prog 34 dLM (fun l=>∀ s∈l,Many.W s):=rdv_slice Tryd.underlying34 (by kernel_rfl) (by decide) rd84
theorem Tryd.own:ownKnob Tryd.prog.godebug=none:=by kernel_rfl
theorem Tryd.laidOut:laidOutB Tryd.prog=true:=by kernel_rfl
end Go.Proofs.YtmegbepjdololaaDoor

namespace Go.Proofs.YtmegbepjdololaaDoor
open Go.RowKit Go.Sx
set_option maxRecDepth 100000
set_option linter.unusedVariables false
abbrev e8u:El Int:=eInt .u8
abbrev dU64:Dv Int:=dInt .u64
abbrev A21:Type:=Int×Int×Int×Int×Int×Int×Int×Int×Int×Int×Int×Int×Int×Int×Int×Int×Int×Int×Int×Int×Int
def e21:El A21:=.pair e8u (.pair e8u (.pair e8u (.pair e8u (.pair e8u (.pair e8u (.pair e8u (.pair e8u (.pair e8u (.pair e8u (.pair e8u (.pair e8u (.pair e8u (.pair e8u (.pair e8u (.pair e8u (.pair e8u (.pair e8u (.pair e8u (.pair e8u e8u)))))))))))))))))))
abbrev nm_G:Type:=Unit×A21×Int×Int
noncomputable def nm_LP:LP 1 nm_G:=.pair (.fix 1 4 (.p 0 0)) (.pair (.obj 1 0 140 e21) (.pair (.slot 1 5 dI) (.slot 1 3 dU64)))
noncomputable def nm_R (_u:Unit) (b:A21) (i:Int) (u:Int):Ex×nm_G:=
 bif IntKind.u64.wrap (u.tdiv (10:Int))==(0:Int) then (Ex.exit (0:Nat),(),(bif decide ((IntKind.i64.wrap (i - (1:Int))).toNat=(0:Nat)) then IntKind.u8.wrap (IntKind.u64.wrap ((48:Int)+u.tmod (10:Int))) else b.fst,bif decide ((IntKind.i64.wrap (i - (1:Int))).toNat=(1:Nat)) then IntKind.u8.wrap (IntKind.u64.wrap ((48:Int)+u.tmod (10:Int))) else b.snd.fst,bif decide ((IntKind.i64.wrap (i - (1:Int))).toNat=(2:Nat)) then IntKind.u8.wrap (IntKind.u64.wrap ((48:Int)+u.tmod (10:Int))) else b.snd.snd.fst,bif decide ((IntKind.i64.wrap (i - (1:Int))).toNat=(3:Nat)) then IntKind.u8.wrap (IntKind.u64.wrap ((48:Int)+u.tmod (10:Int))) else b.snd.snd.snd.fst,bif decide ((IntKind.i64.wrap (i - (1:Int))).toNat=(4:Nat)) then IntKind.u8.wrap (IntKind.u64.wrap ((48:Int)+u.tmod (10:Int))) else b.snd.snd.snd.snd.fst,bif decide ((IntKind.i64.wrap (i - (1:Int))).toNat=(5:Nat)) then IntKind.u8.wrap (IntKind.u64.wrap ((48:Int)+u.tmod (10:Int))) else b.snd.snd.snd.snd.snd.fst,bif decide ((IntKind.i64.wrap (i - (1:Int))).toNat=(6:Nat)) then IntKind.u8.wrap (IntKind.u64.wrap ((48:Int)+u.tmod (10:Int))) else b.snd.snd.snd.snd.snd.snd.fst,bif decide ((IntKind.i64.wrap (i - (1:Int))).toNat=(7:Nat)) then IntKind.u8.wrap (IntKind.u64.wrap ((48:Int)+u.tmod (10:Int))) else b.snd.snd.snd.snd.snd.snd.snd.fst,bif decide ((IntKind.i64.wrap (i - (1:Int))).toNat=(8:Nat)) then IntKind.u8.wrap (IntKind.u64.wrap ((48:Int)+u.tmod (10:Int))) else b.snd.snd.snd.snd.snd.snd.snd.snd.fst,bif decide ((IntKind.i64.wrap (i - (1:Int))).toNat=(9:Nat)) then IntKind.u8.wrap (IntKind.u64.wrap ((48:Int)+u.tmod (10:Int))) else b.snd.snd.snd.snd.snd.snd.snd.snd.snd.fst,bif decide ((IntKind.i64.wrap (i - (1:Int))).toNat=(10:Nat)) then IntKind.u8.wrap (IntKind.u64.wrap ((48:Int)+u.tmod (10:Int))) else b.snd.snd.snd.snd.snd.snd.snd.snd.snd.snd.fst,bif decide ((IntKind.i64.wrap (i - (1:Int))).toNat=(11:Nat)) then IntKind.u8.wrap (IntKind.u64.wrap ((48:Int)+u.tmod (10:Int))) else b.snd.snd.snd.snd.snd.snd.snd.snd.snd.snd.snd.fst,bif decide ((IntKind.i64.wrap (i - (1:Int))).toNat=(12:Nat)) then IntKind.u8.wrap (IntKind.u64.wrap ((48:Int)+u.tmod (10:Int))) else b.snd.snd.snd.snd.snd.snd.snd.snd.snd.snd.snd.snd.fst,bif decide ((IntKind.i64.wrap (i - (1:Int))).toNat=(13:Nat)) then IntKind.u8.wrap (IntKind.u64.wrap ((48:Int)+u.tmod (10:Int))) else b.snd.snd.snd.snd.snd.snd.snd.snd.snd.snd.snd.snd.snd.fst,bif decide ((IntKind.i64.wrap (i - (1:Int))).toNat=(14:Nat)) then IntKind.u8.wrap (IntKind.u64.wrap ((48:Int)+u.tmod (10:Int))) else b.snd.snd.snd.snd.snd.snd.snd.snd.snd.snd.snd.snd.snd.snd.fst,bif decide ((IntKind.i64.wrap (i - (1:Int))).toNat=(15:Nat)) then IntKind.u8.wrap (IntKind.u64.wrap ((48:Int)+u.tmod (10:Int))) else b.snd.snd.snd.snd.snd.snd.snd.snd.snd.snd.snd.snd.snd.snd.snd.fst,bif decide ((IntKind.i64.wrap (i - (1:Int))).toNat=(16:Nat)) then IntKind.u8.wrap (IntKind.u64.wrap ((48:Int)+u.tmod (10:Int))) else b.snd.snd.snd.snd.snd.snd.snd.snd.snd.snd.snd.snd.snd.snd.snd.snd.fst,bif decide ((IntKind.i64.wrap (i - (1:Int))).toNat=(17:Nat)) then IntKind.u8.wrap (IntKind.u64.wrap ((48:Int)+u.tmod (10:Int))) else b.snd.snd.snd.snd.snd.snd.snd.snd.snd.snd.snd.snd.snd.snd.snd.snd.snd.fst,bif decide ((IntKind.i64.wrap (i - (1:Int))).toNat=(18:Nat)) then IntKind.u8.wrap (IntKind.u64.wrap ((48:Int)+u.tmod (10:Int))) else b.snd.snd.snd.snd.snd.snd.snd.snd.snd.snd.snd.snd.snd.snd.snd.snd.snd.snd.fst,bif decide ((IntKind.i64.wrap (i - (1:Int))).toNat=(19:Nat)) then IntKind.u8.wrap (IntKind.u64.wrap ((48:Int)+u.tmod (10:Int))) else b.snd.snd.snd.snd.snd.snd.snd.snd.snd.snd.snd.snd.snd.snd.snd.snd.snd.snd.snd.fst,bif decide ((IntKind.i64.wrap (i - (1:Int))).toNat=(20:Nat)) then IntKind.u8.wrap (IntKind.u64.wrap ((48:Int)+u.tmod (10:Int))) else b.snd.snd.snd.snd.snd.snd.snd.snd.snd.snd.snd.snd.snd.snd.snd.snd.snd.snd.snd.snd),IntKind.i64.wrap (i - (1:Int)),IntKind.u64.wrap (u.tdiv (10:Int)))
 else (Ex.normal,(),(bif decide ((IntKind.i64.wrap (i - (1:Int))).toNat=(0:Nat)) then IntKind.u8.wrap (IntKind.u64.wrap ((48:Int)+u.tmod (10:Int))) else b.fst,bif decide ((IntKind.i64.wrap (i - (1:Int))).toNat=(1:Nat)) then IntKind.u8.wrap (IntKind.u64.wrap ((48:Int)+u.tmod (10:Int))) else b.snd.fst,bif decide ((IntKind.i64.wrap (i - (1:Int))).toNat=(2:Nat)) then IntKind.u8.wrap (IntKind.u64.wrap ((48:Int)+u.tmod (10:Int))) else b.snd.snd.fst,bif decide ((IntKind.i64.wrap (i - (1:Int))).toNat=(3:Nat)) then IntKind.u8.wrap (IntKind.u64.wrap ((48:Int)+u.tmod (10:Int))) else b.snd.snd.snd.fst,bif decide ((IntKind.i64.wrap (i - (1:Int))).toNat=(4:Nat)) then IntKind.u8.wrap (IntKind.u64.wrap ((48:Int)+u.tmod (10:Int))) else b.snd.snd.snd.snd.fst,bif decide ((IntKind.i64.wrap (i - (1:Int))).toNat=(5:Nat)) then IntKind.u8.wrap (IntKind.u64.wrap ((48:Int)+u.tmod (10:Int))) else b.snd.snd.snd.snd.snd.fst,bif decide ((IntKind.i64.wrap (i - (1:Int))).toNat=(6:Nat)) then IntKind.u8.wrap (IntKind.u64.wrap ((48:Int)+u.tmod (10:Int))) else b.snd.snd.snd.snd.snd.snd.fst,bif decide ((IntKind.i64.wrap (i - (1:Int))).toNat=(7:Nat)) then IntKind.u8.wrap (IntKind.u64.wrap ((48:Int)+u.tmod (10:Int))) else b.snd.snd.snd.snd.snd.snd.snd.fst,bif decide ((IntKind.i64.wrap (i - (1:Int))).toNat=(8:Nat)) then IntKind.u8.wrap (IntKind.u64.wrap ((48:Int)+u.tmod (10:Int))) else b.snd.snd.snd.snd.snd.snd.snd.snd.fst,bif decide ((IntKind.i64.wrap (i - (1:Int))).toNat=(9:Nat)) then IntKind.u8.wrap (IntKind.u64.wrap ((48:Int)+u.tmod (10:Int))) else b.snd.snd.snd.snd.snd.snd.snd.snd.snd.fst,bif decide ((IntKind.i64.wrap (i - (1:Int))).toNat=(10:Nat)) then IntKind.u8.wrap (IntKind.u64.wrap ((48:Int)+u.tmod (10:Int))) else b.snd.snd.snd.snd.snd.snd.snd.snd.snd.snd.fst,bif decide ((IntKind.i64.wrap (i - (1:Int))).toNat=(11:Nat)) then IntKind.u8.wrap (IntKind.u64.wrap ((48:Int)+u.tmod (10:Int))) else b.snd.snd.snd.snd.snd.snd.snd.snd.snd.snd.snd.fst,bif decide ((IntKind.i64.wrap (i - (1:Int))).toNat=(12:Nat)) then IntKind.u8.wrap (IntKind.u64.wrap ((48:Int)+u.tmod (10:Int))) else b.snd.snd.snd.snd.snd.snd.snd.snd.snd.snd.snd.snd.fst,bif decide ((IntKind.i64.wrap (i - (1:Int))).toNat=(13:Nat)) then IntKind.u8.wrap (IntKind.u64.wrap ((48:Int)+u.tmod (10:Int))) else b.snd.snd.snd.snd.snd.snd.snd.snd.snd.snd.snd.snd.snd.fst,bif decide ((IntKind.i64.wrap (i - (1:Int))).toNat=(14:Nat)) then IntKind.u8.wrap (IntKind.u64.wrap ((48:Int)+u.tmod (10:Int))) else b.snd.snd.snd.snd.snd.snd.snd.snd.snd.snd.snd.snd.snd.snd.fst,bif decide ((IntKind.i64.wrap (i - (1:Int))).toNat=(15:Nat)) then IntKind.u8.wrap (IntKind.u64.wrap ((48:Int)+u.tmod (10:Int))) else b.snd.snd.snd.snd.snd.snd.snd.snd.snd.snd.snd.snd.snd.snd.snd.fst,bif decide ((IntKind.i64.wrap (i - (1:Int))).toNat=(16:Nat)) then IntKind.u8.wrap (IntKind.u64.wrap ((48:Int)+u.tmod (10:Int))) else b.snd.snd.snd.snd.snd.snd.snd.snd.snd.snd.snd.snd.snd.snd.snd.snd.fst,bif decide ((IntKind.i64.wrap (i - (1:Int))).toNat=(17:Nat)) then IntKind.u8.wrap (IntKind.u64.wrap ((48:Int)+u.tmod (10:Int))) else b.snd.snd.snd.snd.snd.snd.snd.snd.snd.snd.snd.snd.snd.snd.snd.snd.snd.fst,bif decide ((IntKind.i64.wrap (i - (1:Int))).toNat=(18:Nat)) then IntKind.u8.wrap (IntKind.u64.wrap ((48:Int)+u.tmod (10:Int))) else b.snd.snd.snd.snd.snd.snd.snd.snd.snd.snd.snd.snd.snd.snd.snd.snd.snd.snd.fst,bif decide ((IntKind.i64.wrap (i - (1:Int))).toNat=(19:Nat)) then IntKind.u8.wrap (IntKind.u64.wrap ((48:Int)+u.tmod (10:Int))) else b.snd.snd.snd.snd.snd.snd.snd.snd.snd.snd.snd.snd.snd.snd.snd.snd.snd.snd.snd.fst,bif decide ((IntKind.i64.wrap (i - (1:Int))).toNat=(20:Nat)) then IntKind.u8.wrap (IntKind.u64.wrap ((48:Int)+u.tmod (10:Int))) else b.snd.snd.snd.snd.snd.snd.snd.snd.snd.snd.snd.snd.snd.snd.snd.snd.snd.snd.snd.snd),IntKind.i64.wrap (i - (1:Int)),IntKind.u64.wrap (u.tdiv (10:Int)))
def nm_side (_u:Unit) (b:A21) (i:Int) (u:Int):Prop:=
 (10:Int)≠(0:Int)∧((0:Int)≤IntKind.i64.wrap (i - (1:Int))∧IntKind.i64.wrap (i - (1:Int))<(21:Int))∧(IntKind.i64.wrap (i - (1:Int))).toNat<(21:Nat)∧(10:Int)≠(0:Int)
theorem nm_one:((loopsOf Tryd.prog 86).filter fun c=>Nat.beq (lkey c) 6).length=1:=by kernel_rfl
theorem nm_es (g:nm_G):(nm_R g.1 g.2.1 g.2.2.1 g.2.2.2).1=.normal∨(nm_R g.1 g.2.1 g.2.2.1 g.2.2.2).1∈([.exit 0]:List Ex):=by
 unfold nm_R
 repeat' (first | (left;rfl) | (right;simp only[cond_true,cond_false];simp;done) | (rw[Bool.cond_eq_ite];split))
noncomputable abbrev nm_C (Inv:nm_G→List Prop) (m:nm_G→Nat):LCon:=loopR [.exit 0] (loopBody Tryd.prog 86 6) nm_LP [] 33 Inv (fun g=>nm_R g.1 g.2.1 g.2.2.1 g.2.2.2) m
theorem nm_loop (Inv:nm_G→List Prop) (m:nm_G→Nat) (hs:∀ g,allP (Inv g)→nm_side g.1 g.2.1 g.2.2.1 g.2.2.2) (hg:Goes (fun g:nm_G=>nm_R g.1 g.2.1 g.2.2.1 g.2.2.2) m fun g=>allP (Inv g)):∀ b∈loopsOf Tryd.prog 86,lkey b=6→LoopOk Tryd.prog b (nm_C Inv m).g:=loop_run (Γ:=(PTab.gamz tabA3 [] [])) (Λ:=noΛ) (PTab.okz tabA3 [] []) noΛ_ok 100 86 6 33 nm_LP [] Inv (fun g=>nm_R g.1 g.2.1 g.2.2.1 g.2.2.2) (fun g=>nm_side g.1 g.2.1 g.2.2.1 g.2.2.2) m default [.exit 0] nm_one (fun rd T B HL HB ds g=>by kernel_rfl) (fun rd T B HL HB ds g=>by kernel_rfl) hs hg nm_es
abbrev nd_G:Type:=Int×BA
noncomputable def nd_LP:LP 0 nd_G:=.pair (.slot 0 3 dU64) (.slot 0 4 dStr)
noncomputable def nd_R (u:Int) (s:BA):Ex×nd_G:=
 bif IntKind.u64.wrap (u.tdiv (10:Int))==(0:Int) then (Ex.exit (0:Nat),IntKind.u64.wrap (u.tdiv (10:Int)),(ByteArray.mk #[(48:UInt8),(49:UInt8),(50:UInt8),(51:UInt8),(52:UInt8),(53:UInt8),(54:UInt8),(55:UInt8),(56:UInt8),(57:UInt8),(97:UInt8),(98:UInt8),(99:UInt8),(100:UInt8),(101:UInt8),(102:UInt8)]).extract (u.tmod (10:Int)).toNat (IntKind.u64.wrap (u.tmod (10:Int)+(1:Int))).toNat++s)
 else (Ex.normal,IntKind.u64.wrap (u.tdiv (10:Int)),(ByteArray.mk #[(48:UInt8),(49:UInt8),(50:UInt8),(51:UInt8),(52:UInt8),(53:UInt8),(54:UInt8),(55:UInt8),(56:UInt8),(57:UInt8),(97:UInt8),(98:UInt8),(99:UInt8),(100:UInt8),(101:UInt8),(102:UInt8)]).extract (u.tmod (10:Int)).toNat (IntKind.u64.wrap (u.tmod (10:Int)+(1:Int))).toNat++s)
def nd_side (u:Int) (s:BA):Prop:=
 (10:Int)≠(0:Int)∧((0:Int)≤IntKind.u64.wrap (u.tmod (10:Int)+(1:Int))∧IntKind.u64.wrap (u.tmod (10:Int)+(1:Int))≤(16:Int))∧((0:Int)≤u.tmod (10:Int)∧u.tmod (10:Int)≤(↑(IntKind.u64.wrap (u.tmod (10:Int)+(1:Int))).toNat:Int))∧((ByteArray.mk #[(48:UInt8),(49:UInt8),(50:UInt8),(51:UInt8),(52:UInt8),(53:UInt8),(54:UInt8),(55:UInt8),(56:UInt8),(57:UInt8),(97:UInt8),(98:UInt8),(99:UInt8),(100:UInt8),(101:UInt8),(102:UInt8)]).extract (u.tmod (10:Int)).toNat (IntKind.u64.wrap (u.tmod (10:Int)+(1:Int))).toNat).size+ByteArray.size s≤(9223372036854775807:Nat)∧(10:Int)≠(0:Int)
theorem nd_one:((loopsOf Tryd.prog 87).filter fun c=>Nat.beq (lkey c) 5).length=1:=by kernel_rfl
theorem nd_es (g:nd_G):(nd_R g.1 g.2).1=.normal∨(nd_R g.1 g.2).1∈([.exit 0]:List Ex):=by
 unfold nd_R
 repeat' (first | (left;rfl) | (right;simp only[cond_true,cond_false];simp;done) | (rw[Bool.cond_eq_ite];split))
noncomputable abbrev nd_C (Inv:nd_G→List Prop) (m:nd_G→Nat):LCon:=loopR [.exit 0] (loopBody Tryd.prog 87 5) nd_LP [] 29 Inv (fun g=>nd_R g.1 g.2) m
theorem nd_loop (Inv:nd_G→List Prop) (m:nd_G→Nat) (hs:∀ g,allP (Inv g)→nd_side g.1 g.2) (hg:Goes (fun g:nd_G=>nd_R g.1 g.2) m fun g=>allP (Inv g)):∀ b∈loopsOf Tryd.prog 87,lkey b=5→LoopOk Tryd.prog b (nd_C Inv m).g:=loop_run (Γ:=(PTab.gamz tabA3 [] [])) (Λ:=noΛ) (PTab.okz tabA3 [] []) noΛ_ok 100 87 5 29 nd_LP [] Inv (fun g=>nd_R g.1 g.2) (fun g=>nd_side g.1 g.2) m default [.exit 0] nd_one (fun rd T B HL HB ds g=>by kernel_rfl) (fun rd T B HL HB ds g=>by kernel_rfl) hs hg nd_es
end Go.Proofs.YtmegbepjdololaaDoor

namespace Go.Proofs.YtmegbepjdololaaDoor
open Go.RowKit Go.Sx Go.Lp
theorem wrU {x:Int} (h:0≤x∧x<18446744073709551616):IntKind.u64.wrap x=x:=by
 simp[IntKind.wrap,IntKind.signed,IntKind.bits]
 omega
theorem wrB {x:Int} (h:0≤x∧x<256):IntKind.u8.wrap x=x:=by
 simp[IntKind.wrap,IntKind.signed,IntKind.bits]
 omega
def put21 (b:A21) (k:Nat) (x:Int):A21:=
 (bif decide (k=0) then x else b.1,bif decide (k=1) then x else b.2.1,bif decide (k=2) then x else b.2.2.1,bif decide (k=3) then x else b.2.2.2.1,bif decide (k=4) then x else b.2.2.2.2.1,bif decide (k=5) then x else b.2.2.2.2.2.1,bif decide (k=6) then x else b.2.2.2.2.2.2.1,bif decide (k=7) then x else b.2.2.2.2.2.2.2.1,bif decide (k=8) then x else b.2.2.2.2.2.2.2.2.1,bif decide (k=9) then x else b.2.2.2.2.2.2.2.2.2.1,bif decide (k=10) then x else b.2.2.2.2.2.2.2.2.2.2.1,bif decide (k=11) then x else b.2.2.2.2.2.2.2.2.2.2.2.1,bif decide (k=12) then x else b.2.2.2.2.2.2.2.2.2.2.2.2.1,bif decide (k=13) then x else b.2.2.2.2.2.2.2.2.2.2.2.2.2.1,bif decide (k=14) then x else b.2.2.2.2.2.2.2.2.2.2.2.2.2.2.1,bif decide (k=15) then x else b.2.2.2.2.2.2.2.2.2.2.2.2.2.2.2.1,bif decide (k=16) then x else b.2.2.2.2.2.2.2.2.2.2.2.2.2.2.2.2.1,bif decide (k=17) then x else b.2.2.2.2.2.2.2.2.2.2.2.2.2.2.2.2.2.1,bif decide (k=18) then x else b.2.2.2.2.2.2.2.2.2.2.2.2.2.2.2.2.2.2.1,bif decide (k=19) then x else b.2.2.2.2.2.2.2.2.2.2.2.2.2.2.2.2.2.2.2.1,bif decide (k=20) then x else b.2.2.2.2.2.2.2.2.2.2.2.2.2.2.2.2.2.2.2.2)
def t21 (b:A21):List Int:=[b.1,b.2.1,b.2.2.1,b.2.2.2.1,b.2.2.2.2.1,b.2.2.2.2.2.1,b.2.2.2.2.2.2.1,b.2.2.2.2.2.2.2.1,b.2.2.2.2.2.2.2.2.1,b.2.2.2.2.2.2.2.2.2.1,b.2.2.2.2.2.2.2.2.2.2.1,b.2.2.2.2.2.2.2.2.2.2.2.1,b.2.2.2.2.2.2.2.2.2.2.2.2.1,b.2.2.2.2.2.2.2.2.2.2.2.2.2.1,b.2.2.2.2.2.2.2.2.2.2.2.2.2.2.1,b.2.2.2.2.2.2.2.2.2.2.2.2.2.2.2.1,b.2.2.2.2.2.2.2.2.2.2.2.2.2.2.2.2.1,b.2.2.2.2.2.2.2.2.2.2.2.2.2.2.2.2.2.1,b.2.2.2.2.2.2.2.2.2.2.2.2.2.2.2.2.2.2.1,b.2.2.2.2.2.2.2.2.2.2.2.2.2.2.2.2.2.2.2.1,b.2.2.2.2.2.2.2.2.2.2.2.2.2.2.2.2.2.2.2.2]
theorem t21_put (b:A21) (k:Nat) (x:Int) (h:k<21):t21 (put21 b k x)=(t21 b).set k x:=by
 match k with
 | 0=>rfl | 1=>rfl | 2=>rfl | 3=>rfl | 4=>rfl | 5=>rfl | 6=>rfl | 7=>rfl | 8=>rfl | 9=>rfl | 10=>rfl | 11=>rfl | 12=>rfl | 13=>rfl | 14=>rfl | 15=>rfl | 16=>rfl | 17=>rfl | 18=>rfl | 19=>rfl | 20=>rfl
 | k+21=>omega
theorem t21_drop (b:A21) (k:Nat) (x:Int) (h:k<21):(t21 (put21 b k x)).drop k=x :: (t21 b).drop (k+1):=by
 rw[t21_put b k x h]
 have hl:k<((t21 b).set k x).length:=by rw[List.length_set];exact h
 rw[List.drop_eq_getElem_cons hl,List.getElem_set_self,List.drop_set_of_lt (by omega)]
def nm_P (u i:Int):Prop:=(0≤u∧u<18446744073709551616)∧(1≤i∧i≤21)∧u<10 ^ i.toNat
abbrev nm_I (g:nm_G):List Prop:=[nm_P g.2.2.2 g.2.2.1]
abbrev nm_M (g:nm_G):Nat:=g.2.2.1.toNat
noncomputable abbrev nm_RR (g:nm_G):Ex×nm_G:=nm_R g.1 g.2.1 g.2.2.1 g.2.2.2
theorem nm_RF (b:A21) (i u:Int) (h:nm_P u i):nm_R () b i u=(if u / 10=0 then .exit 0 else .normal,(),put21 b (i - 1).toNat (48+u % 10),i - 1,u / 10):=by
 obtain ⟨⟨h1,h2⟩,⟨h3,h4⟩,_⟩:=h
 unfold nm_R
 rw[Int.tdiv_eq_ediv_of_nonneg h1,Int.tmod_eq_emod_of_nonneg h1,wrU (x:=u / 10) (by omega),wrU (x:=48+u % 10) (by omega),wrB (by omega),wr64 (by omega)]
 by_cases hz:u / 10=0
 ·rw[if_pos hz,hz];rfl
 ·rw[if_neg hz,beq_eq_false_iff_ne.2 hz];rfl
theorem pow_pred {u:Int} {i:Nat} (h:u<(10:Int) ^ (i+1)):u / 10<10 ^ i:=by
 have hp:(10:Int) ^ (i+1)=10 ^ i * 10:=Int.pow_succ ..
 omega
theorem nm_step {u i:Int} (h:nm_P u i) (hz:u / 10≠0):nm_P (u / 10) (i - 1):=by
 obtain ⟨⟨h1,h2⟩,⟨h3,h4⟩,h5⟩:=h
 obtain ⟨k,hk⟩:∃ k:Nat,i=k+1:=⟨(i - 1).toNat,by omega⟩
 subst hk
 have e1:((k:Int)+1).toNat=k+1:=by omega
 have e2:((k:Int)+1 - 1).toNat=k:=by omega
 rw[e1] at h5
 have h6:=pow_pred h5
 refine ⟨⟨by omega,by omega⟩,⟨?_,by omega⟩,by rw[e2];exact h6⟩
 rcases Nat.eq_zero_or_pos k with rfl | hk
 ·have:(10:Int) ^ 0=1:=rfl
  omega
 ·omega
theorem nm_goes:Goes nm_RR nm_M fun g=>allP (nm_I g):=by
 rintro ⟨⟨⟩,b,i,u⟩ hi hn
 have h:nm_P u i:=hi _ (List.mem_cons_self ..)
 have e:nm_RR ((),b,i,u)=_:=nm_RF b i u h
 rw[e] at hn ⊢
 have hz:u / 10≠0:=fun hz=>by
  simp only[hz,if_true] at hn;cases hn
 have h':=nm_step h hz
 refine ⟨fun p hp=>?_,?_⟩
 ·rw[List.mem_singleton.1 hp];exact h'
 ·show (i - 1).toNat<i.toNat
  have:=h.2.1
  omega
theorem nm_ok:∀ b∈loopsOf Tryd.prog 86,lkey b=6→LoopOk Tryd.prog b (nm_C nm_I nm_M).g:=by
 refine nm_loop nm_I nm_M (fun g hi=>?_) nm_goes
 obtain ⟨⟨⟩,b,i,u⟩:=g
 have h:nm_P u i:=hi _ (List.mem_cons_self ..)
 obtain ⟨⟨h1,h2⟩,⟨h3,h4⟩,_⟩:=h
 show nm_side () b i u
 unfold nm_side
 rw[wr64 (by omega)]
 exact ⟨by decide,⟨by omega,by omega⟩,by omega,by decide⟩
theorem nm_run (b:A21) (i u:Int) (h:nm_P u i):(loopF nm_RR nm_M ((),b,i,u)).1=.exit 0∧∃ i':Nat,(loopF nm_RR nm_M ((),b,i,u)).2.2.2.1=(i':Int)∧i'+(dgt i.toNat u).length=i.toNat∧(t21 (loopF nm_RR nm_M ((),b,i,u)).2.2.1).drop i'=dgt i.toNat u++(t21 b).drop i.toNat:=by
 have key:=loopF_induct nm_goes (Q:=fun g r=>r.1=.exit 0∧∃ i':Nat,r.2.2.2.1=(i':Int)∧i'+(dgt g.2.2.1.toNat g.2.2.2).length=g.2.2.1.toNat∧(t21 r.2.2.1).drop i'=dgt g.2.2.1.toNat g.2.2.2++(t21 g.2.1).drop g.2.2.1.toNat) ?_ ?_ ((),b,i,u) (fun p hp=>by rw[List.mem_singleton.1 hp];exact h)
 ·exact key
 ·rintro ⟨⟨⟩,b,i,u⟩ hi hn
  have h:nm_P u i:=hi _ (List.mem_cons_self ..)
  have e:nm_RR ((),b,i,u)=_:=nm_RF b i u h
  rw[e] at hn ⊢
  obtain ⟨k,hk⟩:∃ k:Nat,i=k+1:=⟨(i - 1).toNat,by have:=h.2.1;omega⟩
  subst hk
  have e1:((k:Int)+1).toNat=k+1:=by omega
  have e2:((k:Int)+1 - 1).toNat=k:=by omega
  by_cases hz:u / 10=0
  ·simp only[hz,if_true,e1,e2]
   refine ⟨trivial,k,by omega,?_,?_⟩
   ·unfold dgt;rw[if_pos hz];rfl
   ·rw[t21_drop _ _ _ (by have:=h.2.1;omega)]
    unfold dgt;rw[if_pos hz];rfl
  ·simp only[hz,if_false] at hn
   exact absurd rfl hn
 ·rintro ⟨⟨⟩,b,i,u⟩ g' r hi he _ _ hq
  have h:nm_P u i:=hi _ (List.mem_cons_self ..)
  have e:nm_RR ((),b,i,u)=_:=nm_RF b i u h
  rw[e] at he
  obtain ⟨k,hk⟩:∃ k:Nat,i=k+1:=⟨(i - 1).toNat,by have:=h.2.1;omega⟩
  subst hk
  have e1:((k:Int)+1).toNat=k+1:=by omega
  have e2:((k:Int)+1 - 1).toNat=k:=by omega
  by_cases hz:u / 10=0
  ·simp only[hz,if_true,Prod.mk.injEq] at he
   cases he.1
  ·simp only[hz,if_false,Prod.mk.injEq,true_and] at he
   subst he
   simp only[e1,e2] at hq ⊢
   obtain ⟨q1,i',q2,q3,q4⟩:=hq
   refine ⟨q1,i',q2,?_,?_⟩
   ·conv=>lhs;unfold dgt
    rw[if_neg hz,List.length_append]
    simp only[List.length_cons,List.length_nil]
    omega
   ·rw[q4,t21_drop _ _ _ (by have:=h.2.1;omega)]
    conv=>rhs;unfold dgt
    rw[if_neg hz,List.append_assoc]
    rfl
def nd_P (u:Int) (s:BA):Prop:=(0≤u∧u<18446744073709551616)∧∃ j:Nat,1≤j∧u<10 ^ j∧s.size+j≤20
abbrev nd_I (g:nd_G):List Prop:=[nd_P g.1 g.2]
abbrev nd_M (g:nd_G):Nat:=g.1.toNat
noncomputable abbrev nd_RR (g:nd_G):Ex×nd_G:=nd_R g.1 g.2
theorem dgi {u:Int} (h1:0≤u) (h2:u<18446744073709551616):(ByteArray.mk #[(48:UInt8),(49:UInt8),(50:UInt8),(51:UInt8),(52:UInt8),(53:UInt8),(54:UInt8),(55:UInt8),(56:UInt8),(57:UInt8),(97:UInt8),(98:UInt8),(99:UInt8),(100:UInt8),(101:UInt8),(102:UInt8)]).extract (u.tmod (10:Int)).toNat (IntKind.u64.wrap (u.tmod (10:Int)+(1:Int))).toNat=strOf [48+u % 10]:=by
 rw[Int.tmod_eq_emod_of_nonneg h1,wrU (by omega)]
 obtain ⟨k,hk⟩:∃ k:Nat,u % 10=k:=⟨(u % 10).toNat,by omega⟩
 rw[hk]
 have:=dg16 k (by omega)
 rw[show ((k:Int)).toNat=k from rfl,show ((k:Int)+1).toNat=k+1 by omega,this]
 unfold hexD
 rw[if_pos (by omega)]
theorem nd_RF (u:Int) (s:BA) (h:nd_P u s):nd_R u s=(if u / 10=0 then .exit 0 else .normal,u / 10,strOf [48+u % 10]++s):=by
 obtain ⟨⟨h1,h2⟩,_⟩:=h
 unfold nd_R
 rw[dgi h1 h2,Int.tdiv_eq_ediv_of_nonneg h1,wrU (x:=u / 10) (by omega)]
 by_cases hz:u / 10=0
 ·rw[if_pos hz,hz];rfl
 ·rw[if_neg hz,beq_eq_false_iff_ne.2 hz];rfl
theorem nd_goes:Goes nd_RR nd_M fun g=>allP (nd_I g):=by
 rintro ⟨u,s⟩ hi hn
 have h:nd_P u s:=hi _ (List.mem_cons_self ..)
 have e:nd_RR (u,s)=_:=nd_RF u s h
 rw[e] at hn ⊢
 have hz:u / 10≠0:=fun hz=>by
  simp only[hz,if_true] at hn;cases hn
 obtain ⟨⟨h1,h2⟩,j,h3,h4,h5⟩:=h
 refine ⟨fun p hp=>?_,?_⟩
 ·rw[List.mem_singleton.1 hp]
  obtain ⟨i,rfl⟩:∃ i,j=i+1:=⟨j - 1,by omega⟩
  have h6:=pow_pred h4
  refine ⟨⟨by show 0≤u / 10;omega,by show u / 10<_;omega⟩,i,?_,h6,?_⟩
  ·rcases Nat.eq_zero_or_pos i with rfl | hk
   ·have:(10:Int) ^ 0=1:=rfl
    omega
   ·omega
  ·show (strOf [48+u % 10]++s).size+i≤20
   rw[ByteArray.size_append,strOf_size]
   simp only[List.length_cons,List.length_nil]
   omega
 ·show (u / 10).toNat<u.toNat
  omega
theorem nd_ok:∀ b∈loopsOf Tryd.prog 87,lkey b=5→LoopOk Tryd.prog b (nd_C nd_I nd_M).g:=by
 refine nd_loop nd_I nd_M (fun g hi=>?_) nd_goes
 obtain ⟨u,s⟩:=g
 have h:nd_P u s:=hi _ (List.mem_cons_self ..)
 obtain ⟨⟨h1,h2⟩,j,h3,h4,h5⟩:=h
 show nd_side u s
 unfold nd_side
 rw[dgi h1 h2,Int.tmod_eq_emod_of_nonneg h1,wrU (by omega),strOf_size]
 simp only[List.length_cons,List.length_nil]
 refine ⟨by decide,⟨by omega,by omega⟩,⟨by omega,by omega⟩,by omega,by decide⟩
theorem nd_run (u:Int) (h1:0≤u) (h2:u<10000000000000000000) (l:List Int) (h3:l.length=0):(loopF nd_RR nd_M (u,strOf l)).1=.exit 0∧(loopF nd_RR nd_M (u,strOf l)).2.2=strOf (dgt 20 u++l):=by
 have hP:nd_P u (strOf l):=⟨⟨h1,by omega⟩,20,by decide,by
  have:(10:Int) ^ 20=100000000000000000000:=by decide
  omega,by
  rw[strOf_size];omega⟩
 have key:=loopF_induct nd_goes (Q:=fun g r=>r.1=.exit 0∧∀ k,g.1<10 ^ k→r.2.2=strOf (dgt (k+1) g.1)++g.2) ?_ ?_ (u,strOf l) (fun p hp=>by rw[List.mem_singleton.1 hp];exact hP)
 ·refine ⟨key.1,?_⟩
  have h19:(10:Int) ^ 19=10000000000000000000:=by decide
  rw[key.2 19 (by rw[h19];exact h2)]
  exact strOf_app _ _
 ·rintro ⟨u,s⟩ hi hn
  have h:nd_P u s:=hi _ (List.mem_cons_self ..)
  have e:nd_RR (u,s)=_:=nd_RF u s h
  rw[e] at hn ⊢
  by_cases hz:u / 10=0
  ·simp only[hz,if_true]
   refine ⟨trivial,fun k _=>?_⟩
   unfold dgt;rw[if_pos hz];rfl
  ·simp only[hz,if_false] at hn
   exact absurd rfl hn
 ·rintro ⟨u,s⟩ g' r hi he _ _ hq
  have h:nd_P u s:=hi _ (List.mem_cons_self ..)
  have e:nd_RR (u,s)=_:=nd_RF u s h
  rw[e] at he
  by_cases hz:u / 10=0
  ·simp only[hz,if_true,Prod.mk.injEq] at he
   cases he.1
  ·simp only[hz,if_false,Prod.mk.injEq,true_and] at he
   subst he
   refine ⟨hq.1,fun k hk=>?_⟩
   have hk':u<(10:Int) ^ k:=hk
   obtain ⟨j,rfl⟩:∃ j,k=j+1:=⟨k - 1,by
    rcases Nat.eq_zero_or_pos k with rfl | h0
    ·have:(10:Int) ^ 0=1:=rfl
     have:=h.1.1
     omega
    ·omega⟩
   have hq2:=hq.2 j (pow_pred hk')
   rw[hq2]
   show strOf (dgt (j+1) (u / 10))++(strOf [48+u % 10]++s)=strOf (dgt (j+1+1) u)++s
   conv=>rhs;unfold dgt
   rw[if_neg hz,← strOf_app,ByteArray.append_assoc]
noncomputable def ltN4:LTab Tryd.prog:=(LTab.nil.cons 86 6 (nm_C nm_I nm_M) nm_ok).cons 87 5 (nd_C nd_I nd_M) nd_ok
noncomputable abbrev lamN4:Lam:=ltN4.lam
theorem lamN4_ok:∀ f k L,lamN4 f k=some L→∀ b∈loopsOf Tryd.prog f,lkey b=k→LoopOk Tryd.prog b L.g:=ltN4.ok
end Go.Proofs.YtmegbepjdololaaDoor

namespace Go.Proofs.YtmegbepjdololaaDoor
open Go.RowKit Go.Sx
set_option maxRecDepth 100000
set_option linter.unusedVariables false
noncomputable def nuB_q1 (n:Int):Ex ×
 nd_G:=
 loopF (fun g=>nd_R g.fst g.snd) nd_M (bif decide (n<(0:Int)) then IntKind.u64.wrap ((0:Int) - IntKind.u64.wrap n) else IntKind.u64.wrap n,ByteArray.mk #[])
noncomputable def nuB_F (n:Int):Dv.T dStr:=
 bif decide (n<(0:Int)) then ByteArray.mk #[(45:UInt8)]++(nuB_q1 n).snd.snd else (nuB_q1 n).snd.snd
def nuB_side (n:Int):Prop:=
 nd_P (bif decide (n<(0:Int)) then IntKind.u64.wrap ((0:Int) - IntKind.u64.wrap n) else IntKind.u64.wrap n) (ByteArray.mk #[])∧(decide (n<(0:Int))=true→(1:Nat)+ByteArray.size (nuB_q1 n).snd.snd≤(9223372036854775807:Nat))
theorem nuB_okS (pre:DA.T aI→List Prop) (h:∀ g,DA.bd aI g→(∀ p∈pre g,p)→nuB_side g):FnPure Tryd.prog 87 aI dStr (fun g=>nuB_F g) pre:=pure_of_sideS (Γ:=(PTab.gamz tabA3 [] [])) (Λ:=lamN4) (PTab.okz tabA3 [] []) lamN4_ok 100 default (fun g=>nuB_side g) (fun g=>by kernel_rfl) (fun g=>by kernel_rfl) h
end Go.Proofs.YtmegbepjdololaaDoor

namespace Go.Proofs.YtmegbepjdololaaDoor
open Go.RowKit Go.Sx Go.Lp
set_option maxRecDepth 100000
abbrev z21:A21:=((0:Int),(0:Int),(0:Int),(0:Int),(0:Int),(0:Int),(0:Int),(0:Int),(0:Int),(0:Int),(0:Int),(0:Int),(0:Int),(0:Int),(0:Int),(0:Int),(0:Int),(0:Int),(0:Int),(0:Int),(0:Int))
noncomputable def nuA_q1 (n:Int):Ex×nm_G:=
 loopF (fun g=>nm_R g.fst g.snd.fst g.snd.snd.fst g.snd.snd.snd) nm_M
  ((),z21,
    (21:Int),bif decide (n<(0:Int)) then IntKind.u64.wrap ((0:Int) - IntKind.u64.wrap n) else IntKind.u64.wrap n)
def zipC (z:Bool):List Int→List Int→List Int
 | x :: xs,y :: ys=>(bif z then x else y) :: zipC z xs ys
 | _,_=>[]
theorem zipC_eq (z:Bool):∀ {a b:List Int},a.length=b.length→zipC z a b=bif z then a else b
 | [],[],_=>by cases z <;> rfl
 | x :: a,y :: b,h=>by
  unfold zipC
  rw[zipC_eq z (by simpa using h)]
  cases z <;> rfl
 | [],_ :: _,h=>by simp at h
 | _ :: _,[],h=>by simp at h
def pickF (i:Int) (cs:List Int):Nat→BA
 | 0=>default
 | k+1=>bif decide (i=(k:Int)) then strOf (cs.drop k) else pickF i cs k
def pickS (i:Int):Nat→Prop
 | 0=>False
 | k+1=>(decide (i=(k:Int))=true→True)∧(decide (i=(k:Int))=false→pickS i k)
theorem pick_at (i:Nat) (cs:List Int):∀ k,i<k→pickF (i:Int) cs k=strOf (cs.drop i)∧pickS (i:Int) k
 | 0,h=>by omega
 | k+1,h=>by
  unfold pickF pickS
  by_cases he:i=k
  ·subst he
   rw[decide_eq_true rfl]
   exact ⟨rfl,⟨fun _=>trivial,fun h=>(by cases h)⟩⟩
  ·rw[decide_eq_false (by omega)]
   obtain ⟨h1,h2⟩:=pick_at i cs k (by omega)
   exact ⟨h1,⟨fun _=>trivial,fun _=>h2⟩⟩
noncomputable def nuA_F (n:Int):Dv.T dStr:=
 pickF (bif decide (n<(0:Int)) then IntKind.i64.wrap ((nuA_q1 n).snd.snd.snd.fst - (1:Int)) else (nuA_q1 n).snd.snd.snd.fst)
  (zipC (decide (n<(0:Int))) (t21 (put21 (nuA_q1 n).snd.snd.fst (IntKind.i64.wrap ((nuA_q1 n).snd.snd.snd.fst - (1:Int))).toNat (45:Int))) (t21 (nuA_q1 n).snd.snd.fst)) 22
def nuA_side (n:Int):Prop:=
 nm_P (bif decide (n<(0:Int)) then IntKind.u64.wrap ((0:Int) - IntKind.u64.wrap n) else IntKind.u64.wrap n) (21:Int) ∧
  (decide (n<(0:Int))=true→(0:Int)≤IntKind.i64.wrap ((nuA_q1 n).snd.snd.snd.fst - (1:Int))∧IntKind.i64.wrap ((nuA_q1 n).snd.snd.snd.fst - (1:Int))<(21:Int)) ∧
   (decide (n<(0:Int))=true→(IntKind.i64.wrap ((nuA_q1 n).snd.snd.snd.fst - (1:Int))).toNat<(21:Nat)) ∧
    pickS (bif decide (n<(0:Int)) then IntKind.i64.wrap ((nuA_q1 n).snd.snd.snd.fst - (1:Int)) else (nuA_q1 n).snd.snd.snd.fst) 22
theorem nuA_okS (pre:DA.T aI→List Prop) (h:∀ g,DA.bd aI g→(∀ p∈pre g,p)→nuA_side g):FnPure Tryd.prog 86 aI dStr (fun g=>nuA_F g) pre:=pure_of_sideS (Γ:=(PTab.gamz tabA3 [] [])) (Λ:=lamN4) (PTab.okz tabA3 [] []) lamN4_ok 100 default (fun g=>nuA_side g) (fun g=>by kernel_rfl) (fun g=>by kernel_rfl) h
def i64 (n:Int):Prop:=-9223372036854775808≤n∧n≤9223372036854775807
def numS (n:Int):BA:=strOf (numL n)
def absI (n:Int):Int:=if n<0 then -n else n
theorem abs_u {n:Int} (h:i64 n):(bif decide (n<(0:Int)) then IntKind.u64.wrap ((0:Int) - IntKind.u64.wrap n) else IntKind.u64.wrap n)=absI n:=by
 obtain ⟨h1,h2⟩:=h
 unfold absI
 by_cases hn:n<0
 ·rw[decide_eq_true hn,if_pos hn,cond_true]
  simp[IntKind.wrap,IntKind.signed,IntKind.bits]
  omega
 ·rw[decide_eq_false hn,if_neg hn,cond_false]
  exact wrU (by omega)
theorem p10_19:(10:Int) ^ 19=10000000000000000000:=by decide
theorem p10_21:(10:Int) ^ 21=1000000000000000000000:=by decide
theorem abs_b {n:Int} (h:i64 n):0≤absI n∧absI n≤9223372036854775808:=by
 obtain ⟨h1,h2⟩:=h
 unfold absI
 split <;> omega
theorem nuA_eq {n:Int} (h:i64 n):nuA_side n∧nuA_F n=numS n:=by
 have hu:=abs_u h
 obtain ⟨hb1,hb2⟩:=abs_b h
 have hP:nm_P (absI n) 21:=⟨⟨hb1,by omega⟩,⟨by decide,by decide⟩,by show absI n<10 ^ 21;rw[p10_21];omega⟩
 have hq:nuA_q1 n=loopF nm_RR nm_M ((),z21,21,absI n):=by
  unfold nuA_q1
  rw[hu]
 obtain ⟨_,i',h2,h3,h4⟩:=nm_run z21 _ _ hP
 rw[← hq] at h2 h4
 have e21:(21:Int).toNat=21:=rfl
 rw[e21] at h3 h4
 have hd:dgt 21 (absI n)=dgt 20 (absI n):=dgt_more 19 1 (absI n) hb1 (by rw[p10_19];omega)
 have hl1:=dgt_len 20 19 (absI n) hb1 (by rw[p10_19];omega) (by decide)
 have hl2:=dgt_pos 19 (absI n)
 rw[hd] at h3 h4
 have h4:(t21 (nuA_q1 n).2.2.1).drop i'=dgt 20 (absI n):=by
  rw[h4]
  show _++[]=_
  rw[List.append_nil]
 have hlen:(t21 (put21 (nuA_q1 n).2.2.1 (IntKind.i64.wrap ((nuA_q1 n).2.2.2.1 - 1)).toNat 45)).length=(t21 (nuA_q1 n).2.2.1).length:=rfl
 unfold nuA_side nuA_F numS numL
 rw[hu,zipC_eq _ hlen,h2]
 have hw:IntKind.i64.wrap ((i':Int) - 1)=(i':Int) - 1:=wr64 (by omega)
 rw[hw]
 by_cases hn:n<0
 ·rw[decide_eq_true hn,if_pos hn]
  simp only[cond_true,forall_const]
  obtain ⟨k,rfl⟩:∃ k,i'=k+1:=⟨i' - 1,by omega⟩
  have e1:((k+1:Nat):Int) - 1=(k:Int):=by omega
  rw[e1]
  have e2:(k:Int).toNat=k:=rfl
  rw[e2]
  obtain ⟨p1,p2⟩:=pick_at k (t21 (put21 (nuA_q1 n).2.2.1 k 45)) 22 (by omega)
  refine ⟨⟨hP,⟨by omega,by omega⟩,by omega,p2⟩,?_⟩
  rw[p1,t21_drop _ _ _ (by omega),h4]
  have ea:absI n=-n:=by unfold absI;rw[if_pos hn]
  rw[ea,if_pos hn];rfl
 ·rw[decide_eq_false hn,if_neg hn]
  simp only[cond_false]
  obtain ⟨p1,p2⟩:=pick_at i' (t21 (nuA_q1 n).2.2.1) 22 (by omega)
  refine ⟨⟨hP,fun h=>(by cases h),fun h=>(by cases h),p2⟩,?_⟩
  rw[p1,h4]
  have ea:absI n=n:=by unfold absI;rw[if_neg hn]
  rw[ea,if_neg hn];rfl
theorem nuA_ok:FnPure Tryd.prog 86 aI dStr numS (fun n=>[i64 n]):=
 pure_congr (nuA_okS _ fun n _ hp=>(nuA_eq (hp _ (List.mem_cons_self ..))).1) fun n _ hp=>(nuA_eq (hp _ (List.mem_cons_self ..))).2
theorem nuB_eq {n:Int} (h:i64 n):nuB_side n∧nuB_F n=numS n:=by
 have hu:=abs_u h
 obtain ⟨hb1,hb2⟩:=abs_b h
 obtain ⟨h1,h2⟩:=nd_run (absI n) hb1 (by omega) [] rfl
 have h0:strOf []=ByteArray.mk #[]:=rfl
 have hq:nuB_q1 n=loopF nd_RR nd_M (absI n,strOf []):=by
  unfold nuB_q1
  rw[hu];rfl
 rw[← hq,List.append_nil] at h2
 have hl1:=dgt_len 20 19 (absI n) hb1 (by rw[p10_19];omega) (by decide)
 unfold nuB_side nuB_F numS numL
 rw[hu,h2,strOf_size]
 refine ⟨⟨⟨⟨hb1,by omega⟩,20,by decide,by have:(10:Int) ^ 20=100000000000000000000:=(by decide);omega,by decide⟩,fun _=>by omega⟩,?_⟩
 by_cases hn:n<0
 ·rw[decide_eq_true hn,if_pos hn,if_pos hn]
  have ea:absI n=-n:=by unfold absI;rw[if_pos hn]
  rw[ea,cond_true]
  exact strOf_cons 45 _
 ·rw[decide_eq_false hn,if_neg hn,if_neg hn]
  have ea:absI n=n:=by unfold absI;rw[if_neg hn]
  rw[ea];rfl
theorem nuB_ok:FnPure Tryd.prog 87 aI dStr numS (fun n=>[i64 n]):=
 pure_congr (nuB_okS _ fun n _ hp=>(nuB_eq (hp _ (List.mem_cons_self ..))).1) fun n _ hp=>(nuB_eq (hp _ (List.mem_cons_self ..))).2
end Go.Proofs.YtmegbepjdololaaDoor

namespace Go.Proofs.YtmegbepjdololaaDoor
open Go.RowKit Go.Sx Go.ChangeShapes
theorem wf64 {n:Int} (h:W1 n):i64 n:=by
 unfold W1 at h
 simp[Lit.wf] at h
 exact h
end Go.Proofs.YtmegbepjdololaaDoor

namespace Go.Proofs.YtmegbepjdololaaDoor
open Go.RowKit Go.Sx
set_option maxRecDepth 100000
set_option linter.unusedVariables false
abbrev vl_G:Type:=BA×Int×Bool
noncomputable def vl_LP:LP 0 vl_G:=.pair (.slot 0 0 dStr) (.pair (.slot 0 3 dI) (.slot 0 2 dBool))
noncomputable def vl_R (s:BA) (i:Int) (r:Bool):Ex×vl_G:=
 bif decide (i<(↑(ByteArray.size s):Int)) then bif widZ s i.toNat==(0:Int) then (Ex.ret,s,i,false) else (Ex.normal,s,IntKind.i64.wrap (i+widZ s i.toNat),r)
 else (Ex.exit (0:Nat),s,i,r)
def vl_side (s:BA) (i:Int) (r:Bool):Prop:=
 decide (i<(↑(ByteArray.size s):Int))=true→((0:Int)≤i∧i<(↑(ByteArray.size s):Int))∧ByteArray.size s≤KB
theorem vl_one:((loopsOf Tryd.prog 22).filter fun c=>Nat.beq (lkey c) 2).length=1:=by kernel_rfl
theorem vl_es (g:vl_G):(vl_R g.1 g.2.1 g.2.2).1=.normal∨(vl_R g.1 g.2.1 g.2.2).1∈([.ret,.exit 0]:List Ex):=by
 unfold vl_R
 repeat' (first | (left;rfl) | (right;simp only[cond_true,cond_false];simp;done) | (rw[Bool.cond_eq_ite];split))
noncomputable abbrev vl_C (Inv:vl_G→List Prop) (m:vl_G→Nat):LCon:=loopR [.ret,.exit 0] (loopBody Tryd.prog 22 2) vl_LP [] 17 Inv (fun g=>vl_R g.1 g.2.1 g.2.2) m
theorem vl_loop (Inv:vl_G→List Prop) (m:vl_G→Nat) (hs:∀ g,allP (Inv g)→vl_side g.1 g.2.1 g.2.2) (hg:Goes (fun g:vl_G=>vl_R g.1 g.2.1 g.2.2) m fun g=>allP (Inv g)):∀ b∈loopsOf Tryd.prog 22,lkey b=2→LoopOk Tryd.prog b (vl_C Inv m).g:=loop_run (Γ:=(PTab.gamz tabB1 [] [])) (Λ:=noΛ) (PTab.okz tabB1 [] []) noΛ_ok 100 22 2 17 vl_LP [] Inv (fun g=>vl_R g.1 g.2.1 g.2.2) (fun g=>vl_side g.1 g.2.1 g.2.2) m default [.ret,.exit 0] vl_one (fun rd T B HL HB ds g=>by kernel_rfl) (fun rd T B HL HB ds g=>by kernel_rfl) hs hg vl_es
abbrev rr_G:Type:=BA×List Rune×Int
noncomputable def rr_LP:LP 0 rr_G:=.pair (.slot 0 0 dStr) (.pair (.row 0 3 26 eU) (.slot 0 4 dI))
noncomputable def rr_R (s:BA) (o:List Rune) (i:Int):Ex×rr_G:=
 bif decide (i<(↑(ByteArray.size s):Int)) then (Ex.normal,s,eU.lst (min (o.length+(1:Nat)) o.length) (eU.els o)++List.map (fun x=>Rune.mk i (bif widZ s i.toNat==(1:Int) then IntKind.i32.wrap (↑(ByteArray.get! s i.toNat).toNat:Int) else bif widZ s i.toNat==(2:Int) then IntKind.i32.wrap (IntKind.i32.wrap (IntKind.i32.wrap ((↑(ByteArray.get! s i.toNat).toNat:Int).tmod (32:Int)) * (64:Int))+IntKind.i32.wrap ((↑(ByteArray.get! s (IntKind.i64.wrap (i+(1:Int))).toNat).toNat:Int).tmod (64:Int))) else bif widZ s i.toNat==(3:Int) then IntKind.i32.wrap (IntKind.i32.wrap (IntKind.i32.wrap (IntKind.i32.wrap (IntKind.i32.wrap ((↑(ByteArray.get! s i.toNat).toNat:Int).tmod (16:Int)) * (64:Int))+IntKind.i32.wrap ((↑(ByteArray.get! s (IntKind.i64.wrap (i+(1:Int))).toNat).toNat:Int).tmod (64:Int))) * (64:Int))+IntKind.i32.wrap ((↑(ByteArray.get! s (IntKind.i64.wrap (i+(2:Int))).toNat).toNat:Int).tmod (64:Int))) else bif widZ s i.toNat==(4:Int) then IntKind.i32.wrap (IntKind.i32.wrap (IntKind.i32.wrap (IntKind.i32.wrap (IntKind.i32.wrap (IntKind.i32.wrap (IntKind.i32.wrap ((↑(ByteArray.get! s i.toNat).toNat:Int).tmod (8:Int)) * (64:Int))+IntKind.i32.wrap ((↑(ByteArray.get! s (IntKind.i64.wrap (i+(1:Int))).toNat).toNat:Int).tmod (64:Int))) * (64:Int))+IntKind.i32.wrap ((↑(ByteArray.get! s (IntKind.i64.wrap (i+(2:Int))).toNat).toNat:Int).tmod (64:Int))) * (64:Int))+IntKind.i32.wrap ((↑(ByteArray.get! s (IntKind.i64.wrap (i+(3:Int))).toNat).toNat:Int).tmod (64:Int))) else (65533:Int))) (List.range (o.length+(1:Nat) - o.length)),IntKind.i64.wrap (i+bif widZ s i.toNat==(1:Int) then widZ s i.toNat else bif widZ s i.toNat==(2:Int) then widZ s i.toNat else bif widZ s i.toNat==(3:Int) then widZ s i.toNat else bif widZ s i.toNat==(4:Int) then widZ s i.toNat else (1:Int)))
 else (Ex.exit (0:Nat),s,eU.ag o,i)
def rr_side (s:BA) (o:List Rune) (i:Int):Prop:=
 (decide (i<(↑(ByteArray.size s):Int))=true→((0:Int)≤i∧i<(↑(ByteArray.size s):Int))∧ByteArray.size s≤KB∧((widZ s i.toNat==(1:Int))=true→(0:Int)≤i∧i<(↑(ByteArray.size s):Int))∧((!widZ s i.toNat==(1:Int))=true→(widZ s i.toNat==(2:Int))=true→(0:Int)≤i∧i<(↑(ByteArray.size s):Int))∧((!widZ s i.toNat==(1:Int))=true→(widZ s i.toNat==(2:Int))=true→(32:Int)≠(0:Int))∧((!widZ s i.toNat==(1:Int))=true→(widZ s i.toNat==(2:Int))=true→(0:Int)≤IntKind.i64.wrap (i+(1:Int))∧IntKind.i64.wrap (i+(1:Int))<(↑(ByteArray.size s):Int))∧((!widZ s i.toNat==(1:Int))=true→(widZ s i.toNat==(2:Int))=true→(64:Int)≠(0:Int))∧((!widZ s i.toNat==(1:Int))=true→(!widZ s i.toNat==(2:Int))=true→(widZ s i.toNat==(3:Int))=true→(0:Int)≤i∧i<(↑(ByteArray.size s):Int))∧((!widZ s i.toNat==(1:Int))=true→(!widZ s i.toNat==(2:Int))=true→(widZ s i.toNat==(3:Int))=true→(16:Int)≠(0:Int))∧((!widZ s i.toNat==(1:Int))=true→(!widZ s i.toNat==(2:Int))=true→(widZ s i.toNat==(3:Int))=true→(0:Int)≤IntKind.i64.wrap (i+(1:Int))∧IntKind.i64.wrap (i+(1:Int))<(↑(ByteArray.size s):Int))∧((!widZ s i.toNat==(1:Int))=true→(!widZ s i.toNat==(2:Int))=true→(widZ s i.toNat==(3:Int))=true→(64:Int)≠(0:Int))∧((!widZ s i.toNat==(1:Int))=true→(!widZ s i.toNat==(2:Int))=true→(widZ s i.toNat==(3:Int))=true→(0:Int)≤IntKind.i64.wrap (i+(2:Int))∧IntKind.i64.wrap (i+(2:Int))<(↑(ByteArray.size s):Int))∧((!widZ s i.toNat==(1:Int))=true→(!widZ s i.toNat==(2:Int))=true→(widZ s i.toNat==(3:Int))=true→(64:Int)≠(0:Int))∧((!widZ s i.toNat==(1:Int))=true→(!widZ s i.toNat==(2:Int))=true→(!widZ s i.toNat==(3:Int))=true→(widZ s i.toNat==(4:Int))=true→(0:Int)≤i∧i<(↑(ByteArray.size s):Int))∧((!widZ s i.toNat==(1:Int))=true→(!widZ s i.toNat==(2:Int))=true→(!widZ s i.toNat==(3:Int))=true→(widZ s i.toNat==(4:Int))=true→(8:Int)≠(0:Int))∧((!widZ s i.toNat==(1:Int))=true→(!widZ s i.toNat==(2:Int))=true→(!widZ s i.toNat==(3:Int))=true→(widZ s i.toNat==(4:Int))=true→(0:Int)≤IntKind.i64.wrap (i+(1:Int))∧IntKind.i64.wrap (i+(1:Int))<(↑(ByteArray.size s):Int))∧((!widZ s i.toNat==(1:Int))=true→(!widZ s i.toNat==(2:Int))=true→(!widZ s i.toNat==(3:Int))=true→(widZ s i.toNat==(4:Int))=true→(64:Int)≠(0:Int))∧((!widZ s i.toNat==(1:Int))=true→(!widZ s i.toNat==(2:Int))=true→(!widZ s i.toNat==(3:Int))=true→(widZ s i.toNat==(4:Int))=true→(0:Int)≤IntKind.i64.wrap (i+(2:Int))∧IntKind.i64.wrap (i+(2:Int))<(↑(ByteArray.size s):Int))∧((!widZ s i.toNat==(1:Int))=true→(!widZ s i.toNat==(2:Int))=true→(!widZ s i.toNat==(3:Int))=true→(widZ s i.toNat==(4:Int))=true→(64:Int)≠(0:Int))∧((!widZ s i.toNat==(1:Int))=true→(!widZ s i.toNat==(2:Int))=true→(!widZ s i.toNat==(3:Int))=true→(widZ s i.toNat==(4:Int))=true→(0:Int)≤IntKind.i64.wrap (i+(3:Int))∧IntKind.i64.wrap (i+(3:Int))<(↑(ByteArray.size s):Int))∧((!widZ s i.toNat==(1:Int))=true→(!widZ s i.toNat==(2:Int))=true→(!widZ s i.toNat==(3:Int))=true→(widZ s i.toNat==(4:Int))=true→(64:Int)≠(0:Int))∧(o.length≤o.length∧True∧o.length+(1:Nat)≤maxLen∧(o.length+(1:Nat)) * Tryd.prog.types[(26:Nat)].bytes≤(140737488355328:Nat))∧o.length+(1:Nat)≤o.length+(1:Nat)∧(∀ (e:Nat),e<min (o.length+(1:Nat)) o.length→True)∧∀ (e:Nat),e<o.length+(1:Nat) - o.length→True)∧(decide (i<(↑(ByteArray.size s):Int))=false→o.length≤o.length∧∀ (e:Nat),e<o.length→True)
theorem rr_one:((loopsOf Tryd.prog 19).filter fun c=>Nat.beq (lkey c) 3).length=1:=by kernel_rfl
theorem rr_es (g:rr_G):(rr_R g.1 g.2.1 g.2.2).1=.normal∨(rr_R g.1 g.2.1 g.2.2).1∈([.exit 0]:List Ex):=by
 unfold rr_R
 repeat' (first | (left;rfl) | (right;simp only[cond_true,cond_false];simp;done) | (rw[Bool.cond_eq_ite];split))
noncomputable abbrev rr_C (Inv:rr_G→List Prop) (m:rr_G→Nat):LCon:=loopR [.exit 0] (loopBody Tryd.prog 19 3) rr_LP [] 100 Inv (fun g=>rr_R g.1 g.2.1 g.2.2) m
theorem rr_loop (Inv:rr_G→List Prop) (m:rr_G→Nat) (hs:∀ g,allP (Inv g)→rr_side g.1 g.2.1 g.2.2) (hg:Goes (fun g:rr_G=>rr_R g.1 g.2.1 g.2.2) m fun g=>allP (Inv g)):∀ b∈loopsOf Tryd.prog 19,lkey b=3→LoopOk Tryd.prog b (rr_C Inv m).g:=loop_run (Γ:=(PTab.gamz tabB1 [] [])) (Λ:=noΛ) (PTab.okz tabB1 [] []) noΛ_ok 100 19 3 100 rr_LP [] Inv (fun g=>rr_R g.1 g.2.1 g.2.2) (fun g=>rr_side g.1 g.2.1 g.2.2) m default [.exit 0] rr_one (fun rd T B HL HB ds g=>by kernel_rfl) (fun rd T B HL HB ds g=>by kernel_rfl) hs hg rr_es
abbrev fr_G:Type:=Unit×(BA×Nat)×List Int
noncomputable def fr_LP:LP 1 fr_G:=.pair (.fix 1 7 (.p 0 0)) (.pair (.iter 1 0) (.row 1 3 21 e3))
noncomputable def fr_R (_u:Unit) (q:BA×Nat) (o:List Int):Ex×fr_G:=
 bif decide (q.snd<q.fst.size) then (Ex.normal,(),(q.fst,q.snd+(Utf8.decode q.fst q.snd).snd),e3.lst (min (o.length+(1:Nat)) o.length) (e3.els o)++List.map (fun x=>(↑(Utf8.decode q.fst q.snd).fst:Int)) (List.range (o.length+(1:Nat) - o.length)))
 else (Ex.exit (0:Nat),(),q,e3.ag o)
def fr_side (_u:Unit) (q:BA×Nat) (o:List Int):Prop:=
 (decide (q.snd<q.fst.size)=true→(o.length≤o.length∧True∧o.length+(1:Nat)≤maxLen∧(o.length+(1:Nat)) * Tryd.prog.types[(21:Nat)].bytes≤(140737488355328:Nat))∧o.length+(1:Nat)≤o.length+(1:Nat)∧(∀ (e:Nat),e<min (o.length+(1:Nat)) o.length→True)∧∀ (e:Nat),e<o.length+(1:Nat) - o.length→True)∧(decide (q.snd<q.fst.size)=false→o.length≤o.length∧∀ (e:Nat),e<o.length→True)
theorem fr_one:((loopsOf Tryd.prog 93).filter fun c=>Nat.beq (lkey c) 3).length=1:=by kernel_rfl
theorem fr_es (g:fr_G):(fr_R g.1 g.2.1 g.2.2).1=.normal∨(fr_R g.1 g.2.1 g.2.2).1∈([.exit 0]:List Ex):=by
 unfold fr_R
 repeat' (first | (left;rfl) | (right;simp only[cond_true,cond_false];simp;done) | (rw[Bool.cond_eq_ite];split))
noncomputable abbrev fr_C (Inv:fr_G→List Prop) (m:fr_G→Nat):LCon:=loopR [.exit 0] (loopBody Tryd.prog 93 3) fr_LP [] 16 Inv (fun g=>fr_R g.1 g.2.1 g.2.2) m
theorem fr_loop (Inv:fr_G→List Prop) (m:fr_G→Nat) (hs:∀ g,allP (Inv g)→fr_side g.1 g.2.1 g.2.2) (hg:Goes (fun g:fr_G=>fr_R g.1 g.2.1 g.2.2) m fun g=>allP (Inv g)):∀ b∈loopsOf Tryd.prog 93,lkey b=3→LoopOk Tryd.prog b (fr_C Inv m).g:=loop_run (Γ:=(PTab.gamz tabB1 [] [])) (Λ:=noΛ) (PTab.okz tabB1 [] []) noΛ_ok 100 93 3 16 fr_LP [] Inv (fun g=>fr_R g.1 g.2.1 g.2.2) (fun g=>fr_side g.1 g.2.1 g.2.2) m default [.exit 0] fr_one (fun rd T B HL HB ds g=>by kernel_rfl) (fun rd T B HL HB ds g=>by kernel_rfl) hs hg fr_es
end Go.Proofs.YtmegbepjdololaaDoor

namespace Go.Proofs.YtmegbepjdololaaDoor
open Go.RowKit Go.Sx Go.Lp
abbrev toL (s:BA):List UInt8:=s.data.toList
def badD (d:Nat×Nat):Bool:=d.1==65533&&d.2==1
theorem badD_iff (d:Nat×Nat):badD d=true↔d.1=65533∧d.2=1:=by unfold badD;simp
def validS (s:BA):Bool:=Lib.validD (toL s)
theorem validL_step (l:List UInt8) (hne:l≠[]):Lib.validD l=bif badD (Lib.decodeL l) then false else Lib.validD (l.drop (Lib.decodeL l).2):=by
 rw[Lib.validD_step l hne]
 cases h:badD (Lib.decodeL l) with
 | true=>rw[if_pos ((badD_iff _).1 h)];rfl
 | false=>rw[if_neg fun hc=>by rw[(badD_iff _).2 hc] at h;cases h];rfl
theorem widZ_bad (s:BA) (p:Nat):widZ s p=bif badD (Utf8.decode s p) then 0 else ((Utf8.decode s p).2:Int):=by
 unfold widZ
 cases h:badD (Utf8.decode s p) with
 | true=>rw[if_pos ((badD_iff _).1 h)];rfl
 | false=>rw[if_neg fun hc=>by rw[(badD_iff _).2 hc] at h;cases h];rfl
theorem widZ_zero (s:BA) (p:Nat):(widZ s p==(0:Int))=badD (Utf8.decode s p):=by
 rw[widZ_bad]
 have:=Lib.width_pos s p
 cases badD (Utf8.decode s p) with
 | true=>rfl
 | false=>
  simp only[cond_false]
  rw[beq_eq_false_iff_ne]
  omega
def vl_mk (p:Nat) (s:BA) (r:Bool):vl_G:=(s,(p:Int),r)
def vl_st (s:BA) (r:Bool) (p:Nat) (d:Nat×Nat):Ex×Bool:=bif badD d then (.ret,false) else (.normal,r)
noncomputable abbrev vl_I (g:vl_G):List Prop:=txI (fun s:BA=>s) (fun s _ _=>s.size≤KB) vl_mk g
noncomputable abbrev vl_M (g:vl_G):Nat:=g.1.size - g.2.1.toNat
theorem vl_F (p:Nat) (s:BA) (r:Bool) (hp:p≤s.size) (hs:s.size≤KB):vl_R s (p:Int) r=txR 0 (fun s:BA=>s) vl_st false vl_mk p s r:=by
 unfold KB at hs
 unfold vl_R txR vl_st vl_mk
 by_cases h:p<s.size
 ·have he:=dec_end s p h
  rw[decide_eq_true (by omega),if_pos h,Int.toNat_natCast,widZ_zero,cond_true,widZ_bad]
  cases badD (Utf8.decode s p) with
  | true=>rfl
  | false=>
   simp only[cond_false]
   rw[wrS (by omega)]
   rfl
 ·rw[decide_eq_false (by omega),if_neg h];rfl
theorem vl_ok:∀ b∈loopsOf Tryd.prog 22,lkey b=2→LoopOk Tryd.prog b (vl_C vl_I vl_M).g:=
 vl_loop vl_I vl_M (fun g hi=>by
  obtain ⟨p,s,r,rfl,h1,h2⟩:=hi _ (List.mem_cons_self ..)
  intro h
  have h':=of_decide_eq_true h
  simp only[vl_mk] at h' ⊢
  exact ⟨by omega,h2⟩) (tx_goes (fun p s r=>by simp[vl_M,vl_mk]) (fun p s r h1 h2=>vl_F p s r h1 h2) (fun s r p h1 _ _=>h1))
theorem vl_scan:∀ (l:List UInt8) (s:BA) (p:Nat) (r:Bool),((scanT 0 false (vl_st s) p (rsL l) r).1,(scanT 0 false (vl_st s) p (rsL l) r).2.2)=if Lib.validD l=true then (.exit 0,r) else (.ret,false):=by
 refine rsL_ind (fun s p r=>rfl) fun l hne ih s p r=>?_
 rw[rsL_step l hne,validL_step l hne]
 simp only[scanT,vl_st]
 cases badD (Lib.decodeL l) with
 | true=>rfl
 | false=>exact ih s _ r
theorem vl_run (s:BA) (r:Bool) (hs:s.size≤KB):(loopF (fun g:vl_G=>vl_R g.1 g.2.1 g.2.2) vl_M (s,(0:Int),r)).1=(if validS s=true then .exit 0 else .ret)∧(loopF (fun g:vl_G=>vl_R g.1 g.2.1 g.2.2) vl_M (s,(0:Int),r)).2.2.2=(if validS s=true then r else false):=by
 have h:=tx_run (F:=fun g:vl_G=>vl_R g.1 g.2.1 g.2.2) (m:=vl_M) (mk:=vl_mk) (x:=0) (adv:=false) (step:=vl_st) (P:=fun s _ _=>s.size≤KB) (tx:=fun s:BA=>s) (fun p s r=>by simp[vl_M,vl_mk]) (fun p s r h1 h2=>vl_F p s r h1 h2) (fun s r p h1 _ _=>h1) s.size 0 s r (Nat.zero_le _) hs (Nat.sub_le _ _)
 have e:vl_mk 0 s r=(s,(0:Int),r):=rfl
 rw[e] at h
 rw[h,List.drop_zero]
 have h2:=vl_scan (toL s) s 0 r
 unfold validS
 simp only[vl_mk]
 by_cases hv:Lib.validD (toL s)=true
 ·rw[if_pos hv] at h2 ⊢
  simp only[Prod.mk.injEq] at h2
  rw[if_pos hv]
  exact h2
 ·rw[if_neg hv] at h2 ⊢
  simp only[Prod.mk.injEq] at h2
  rw[if_neg hv]
  exact h2
noncomputable def ltB3:LTab Tryd.prog:=(LTab.nil.cons 22 2 (vl_C vl_I vl_M) vl_ok)
noncomputable abbrev lamB3:Lam:=ltB3.lam
theorem lamB3_ok:∀ f k L,lamB3 f k=some L→∀ b∈loopsOf Tryd.prog f,lkey b=k→LoopOk Tryd.prog b L.g:=ltB3.ok
end Go.Proofs.YtmegbepjdololaaDoor

namespace Go.Proofs.YtmegbepjdololaaDoor
open Go.RowKit Go.Sx
set_option maxRecDepth 100000
set_option linter.unusedVariables false
noncomputable def vld_q1 (s:BA):Ex×vl_G:=
 loopF (fun g=>vl_R g.fst g.snd.fst g.snd.snd) vl_M (s,(0:Int),false)
noncomputable def vld_F (s:BA):Dv.T dBool:=
 bif exB Ex.ret (vld_q1 s).fst then (vld_q1 s).snd.snd.snd else true
def vld_side (s:BA):Prop:=
 ∃ p c b,(s,(0:Int),false)=vl_mk p c b∧p≤ByteArray.size c∧ByteArray.size c≤KB
theorem vld_okS (pre:DA.T aB→List Prop) (h:∀ g,DA.bd aB g→(∀ p∈pre g,p)→vld_side g):FnPure Tryd.prog 22 aB dBool (fun g=>vld_F g) pre:=pure_of_sideS (Γ:=(PTab.gamz tabB1 [] [])) (Λ:=lamB3) (PTab.okz tabB1 [] []) lamB3_ok 100 default (fun g=>vld_side g) (fun g=>by kernel_rfl) (fun g=>by kernel_rfl) h
noncomputable def tabB4:PTab Tryd.prog:=tabB1
end Go.Proofs.YtmegbepjdololaaDoor

namespace Go.Proofs.YtmegbepjdololaaDoor
open Go.RowKit Go.Sx Go.Lp
theorem vld_ok:FnPure Tryd.prog 22 aB dBool validS (fun s=>[s.size≤KB]):=
 pure_congr (vld_okS _ fun s _ hp=>⟨0,s,false,rfl,Nat.zero_le _,hp _ (List.mem_cons_self ..)⟩) fun s _ hp=>by
  obtain ⟨h1,h2⟩:=vl_run s false (hp _ (List.mem_cons_self ..))
  show (bif exB Ex.ret (vld_q1 s).1 then (vld_q1 s).2.2.2 else true)=_
  have e1:(vld_q1 s).1=(if validS s=true then .exit 0 else .ret):=h1
  have e2:(vld_q1 s).2.2.2=(if validS s=true then false else false):=h2
  rw[e1,e2]
  cases validS s <;> rfl
theorem app1 {α:Type} (A:El α) (o:List α) (v:α):A.lst (min (o.length+1) o.length) (A.els o)++List.map (fun _=>v) (List.range (o.length+1 - o.length))=o++[v]:=by
 rw[Nat.min_eq_right (Nat.le_succ _),A.lst_els,show o.length+1 - o.length=1 by omega]
 rfl
theorem bytesU (h:26<Tryd.prog.types.size):(Tryd.prog.types[26]'h).bytes=16:=by kernel_rfl
theorem bytes3 (h:21<Tryd.prog.types.size):(Tryd.prog.types[21]'h).bytes=4:=by kernel_rfl
def rrV (w b0 b1 b2 b3:Int):Int:=
 bif w==1 then IntKind.i32.wrap b0 else
 bif w==2 then IntKind.i32.wrap (IntKind.i32.wrap (IntKind.i32.wrap (b0.tmod 32) * 64)+IntKind.i32.wrap (b1.tmod 64)) else
 bif w==3 then IntKind.i32.wrap (IntKind.i32.wrap (IntKind.i32.wrap (IntKind.i32.wrap (IntKind.i32.wrap (b0.tmod 16) * 64)+IntKind.i32.wrap (b1.tmod 64)) * 64)+IntKind.i32.wrap (b2.tmod 64)) else
 bif w==4 then IntKind.i32.wrap (IntKind.i32.wrap (IntKind.i32.wrap (IntKind.i32.wrap (IntKind.i32.wrap (IntKind.i32.wrap (IntKind.i32.wrap (b0.tmod 8) * 64)+IntKind.i32.wrap (b1.tmod 64)) * 64)+IntKind.i32.wrap (b2.tmod 64)) * 64)+IntKind.i32.wrap (b3.tmod 64)) else 65533
theorem w3 {n:Int} (h:-2147483648≤n∧n≤2147483647):IntKind.i32.wrap n=n:=by rw[IntKind.wrap_i32];omega
theorem tm (a k:Nat):((a:Int)).tmod (k:Int)=((a % k:Nat):Int):=by rw[Int.tmod_eq_emod_of_nonneg (by omega)];omega
theorem rrV_dec (n b0 b1 b2 b3:Nat) (h0:b0<256) (h1:b1<256) (h2:b2<256) (h3:b3<256):rrV (widN n b0 b1 b2 b3) b0 b1 b2 b3=((Lib.decodeN n b0 b1 b2 b3).1:Int):=by
 have m1:∀ k:Nat,0<k→b0 % k<k:=fun k h=>Nat.mod_lt _ h
 unfold widN
 rcases Lib.decodeN_shape n b0 b1 b2 b3 with ⟨c,e⟩ | ⟨c1,c2,c3,cv,e⟩ | ⟨c1,c2,c3,c4,cv,cs,e⟩ | ⟨c1,c2,c3,c4,c5,cv,cw,e⟩ | e
 ·rw[e,if_neg (by intro h;have:=h.1;dsimp only at this;omega)]
  show IntKind.i32.wrap (b0:Int)=_
  rw[w3 (by omega)]
 ·rw[e,if_neg (by intro h;have:=h.2;dsimp only at this;omega)]
  show IntKind.i32.wrap (IntKind.i32.wrap (IntKind.i32.wrap ((b0:Int).tmod (32:Nat)) * 64)+IntKind.i32.wrap ((b1:Int).tmod (64:Nat)))=_
  rw[tm,tm]
  have k0:b0 % 32<32:=Nat.mod_lt _ (by decide)
  have k1:b1 % 64<64:=Nat.mod_lt _ (by decide)
  dsimp only
  generalize b0 % 32=x0 at *
  generalize b1 % 64=x1 at *
  rw[w3 (n:=(x0:Int)) (by omega),w3 (n:=(x0:Int) * 64) (by omega),w3 (n:=(x1:Int)) (by omega),w3 (by omega)]
  omega
 ·rw[e,if_neg (by intro h;have:=h.2;dsimp only at this;omega)]
  show IntKind.i32.wrap (IntKind.i32.wrap (IntKind.i32.wrap (IntKind.i32.wrap (IntKind.i32.wrap ((b0:Int).tmod (16:Nat)) * 64)+IntKind.i32.wrap ((b1:Int).tmod (64:Nat))) * 64)+IntKind.i32.wrap ((b2:Int).tmod (64:Nat)))=_
  rw[tm,tm,tm]
  have k0:b0 % 16<16:=Nat.mod_lt _ (by decide)
  have k1:b1 % 64<64:=Nat.mod_lt _ (by decide)
  have k2:b2 % 64<64:=Nat.mod_lt _ (by decide)
  dsimp only
  clear cs cv e
  generalize b0 % 16=x0 at *
  generalize b1 % 64=x1 at *
  generalize b2 % 64=x2 at *
  rw[w3 (n:=(x0:Int)) (by omega),w3 (n:=(x0:Int) * 64) (by omega),w3 (n:=(x1:Int)) (by omega),w3 (n:=(x0:Int) * 64+(x1:Int)) (by omega),w3 (n:=((x0:Int) * 64+(x1:Int)) * 64) (by omega),w3 (n:=(x2:Int)) (by omega),w3 (by omega)]
  omega
 ·rw[e,if_neg (by intro h;have:=h.2;dsimp only at this;omega)]
  show IntKind.i32.wrap (IntKind.i32.wrap (IntKind.i32.wrap (IntKind.i32.wrap (IntKind.i32.wrap (IntKind.i32.wrap (IntKind.i32.wrap ((b0:Int).tmod (8:Nat)) * 64)+IntKind.i32.wrap ((b1:Int).tmod (64:Nat))) * 64)+IntKind.i32.wrap ((b2:Int).tmod (64:Nat))) * 64)+IntKind.i32.wrap ((b3:Int).tmod (64:Nat)))=_
  rw[tm,tm,tm,tm]
  have k0:b0 % 8<8:=Nat.mod_lt _ (by decide)
  have k1:b1 % 64<64:=Nat.mod_lt _ (by decide)
  have k2:b2 % 64<64:=Nat.mod_lt _ (by decide)
  have k3:b3 % 64<64:=Nat.mod_lt _ (by decide)
  dsimp only
  clear cw cv e
  generalize b0 % 8=x0 at *
  generalize b1 % 64=x1 at *
  generalize b2 % 64=x2 at *
  generalize b3 % 64=x3 at *
  rw[w3 (n:=(x0:Int)) (by omega),w3 (n:=(x0:Int) * 64) (by omega),w3 (n:=(x1:Int)) (by omega),w3 (n:=(x0:Int) * 64+(x1:Int)) (by omega),w3 (n:=((x0:Int) * 64+(x1:Int)) * 64) (by omega),w3 (n:=(x2:Int)) (by omega),w3 (n:=((x0:Int) * 64+(x1:Int)) * 64+(x2:Int)) (by omega),w3 (n:=(((x0:Int) * 64+(x1:Int)) * 64+(x2:Int)) * 64) (by omega),w3 (n:=(x3:Int)) (by omega),w3 (by omega)]
  omega
 ·rw[e,if_pos ⟨rfl,rfl⟩];rfl
theorem widZ_cases (s:BA) (p:Nat) (h:p<s.size):(widZ s p=0∧Utf8.decode s p=(65533,1))∨(widZ s p=1∧(Utf8.decode s p).2=1)∨(widZ s p=2∧(Utf8.decode s p).2=2∧p+2≤s.size)∨(widZ s p=3∧(Utf8.decode s p).2=3∧p+3≤s.size)∨(widZ s p=4∧(Utf8.decode s p).2=4∧p+4≤s.size):=by
 have he:=dec_end s p h
 unfold widZ
 rw[Lib.decode_at] at he ⊢
 rcases Lib.decodeN_shape (s.size - p) (s.get! p).toNat (s.get! (p+1)).toNat (s.get! (p+2)).toNat (s.get! (p+3)).toNat with ⟨c,e⟩ | ⟨c1,c2,c3,cv,e⟩ | ⟨c1,c2,c3,c4,cv,cs,e⟩ | ⟨c1,c2,c3,c4,c5,cv,cw,e⟩ | e
 ·right;left
  rw[e,if_neg (by intro h;have:=h.1;dsimp only at this;omega)]
  exact ⟨rfl,rfl⟩
 ·right;right;left
  rw[e] at he ⊢
  rw[if_neg (by intro h;have:=h.2;dsimp only at this;omega)]
  exact ⟨rfl,rfl,he⟩
 ·right;right;right;left
  rw[e] at he ⊢
  rw[if_neg (by intro h;have:=h.2;dsimp only at this;omega)]
  exact ⟨rfl,rfl,he⟩
 ·right;right;right;right
  rw[e] at he ⊢
  rw[if_neg (by intro h;have:=h.2;dsimp only at this;omega)]
  exact ⟨rfl,rfl,he⟩
 ·left
  rw[e,if_pos ⟨rfl,rfl⟩]
  exact ⟨rfl,rfl⟩
def rr_mk (p:Nat) (s:BA) (o:List Rune):rr_G:=(s,o,(p:Int))
def rr_st (_:BA) (o:List Rune) (p:Nat) (d:Nat×Nat):Ex×List Rune:=(.normal,o++[⟨(p:Int),(d.1:Int)⟩])
def rr_P (s:BA) (o:List Rune) (p:Nat):Prop:=s.size≤KB∧o.length≤p
noncomputable abbrev rr_I (g:rr_G):List Prop:=txI (fun s:BA=>s) rr_P rr_mk g
noncomputable abbrev rr_M (g:rr_G):Nat:=g.1.size - g.2.2.toNat
theorem rr_K:txK (fun s:BA=>s) rr_st rr_P:=fun s o p h _ _=>⟨h.1,by
 have:=Lib.width_pos s p
 simp only[rr_st,List.length_append,List.length_cons,List.length_nil]
 have:=h.2
 omega⟩
theorem rr_F (p:Nat) (s:BA) (o:List Rune) (hp:p≤s.size) (hs:rr_P s o p):rr_R s o (p:Int)=txR 0 (fun s:BA=>s) rr_st false rr_mk p s o:=by
 have hs:=hs.1
 unfold KB at hs
 unfold rr_R txR rr_st rr_mk
 by_cases h:p<s.size
 ·have he:=dec_end s p h
  have hv:=rrV_dec (s.size - p) (s.get! p).toNat (s.get! (p+1)).toNat (s.get! (p+2)).toNat (s.get! (p+3)).toNat (UInt8.toNat_lt _) (UInt8.toNat_lt _) (UInt8.toNat_lt _) (UInt8.toNat_lt _)
  rw[← widZ_eq,← Lib.decode_at] at hv
  rw[decide_eq_true (by omega),if_pos h,Int.toNat_natCast,cond_true,wrS (x:=(p:Int)+1) (by omega),wrS (x:=(p:Int)+2) (by omega),wrS (x:=(p:Int)+3) (by omega)]
  rw[show ((p:Int)+1).toNat=p+1 by omega,show ((p:Int)+2).toNat=p+2 by omega,show ((p:Int)+3).toNat=p+3 by omega]
  have hw:(bif widZ s p==(1:Int) then widZ s p else bif widZ s p==(2:Int) then widZ s p else bif widZ s p==(3:Int) then widZ s p else bif widZ s p==(4:Int) then widZ s p else (1:Int))=((Utf8.decode s p).2:Int):=by
   rcases widZ_cases s p h with ⟨e1,e2⟩ | ⟨e1,e2⟩ | ⟨e1,e2,_⟩ | ⟨e1,e2,_⟩ | ⟨e1,e2,_⟩ <;> rw[e1,e2] <;> rfl
  rw[hw,wrS (x:=(p:Int)+((Utf8.decode s p).2:Int)) (by omega),app1]
  show (_,_,o++[Rune.mk (p:Int) (rrV (widZ s p) (s.get! p).toNat (s.get! (p+1)).toNat (s.get! (p+2)).toNat (s.get! (p+3)).toNat)],_)=_
  rw[hv]
  rfl
 ·rw[decide_eq_false (by omega),if_neg h,cond_false,eU.ag_eq]
theorem rr_ok:∀ b∈loopsOf Tryd.prog 19,lkey b=3→LoopOk Tryd.prog b (rr_C rr_I rr_M).g:=
 rr_loop rr_I rr_M (fun g hi=>by
  obtain ⟨p,s,o,rfl,h1,h2⟩:=hi _ (List.mem_cons_self ..)
  have h3:=h2.1
  have h4:=h2.2
  unfold KB at h3
  show rr_side s o (p:Int)
  unfold rr_side
  rw[bytesU]
  refine ⟨fun h=>?_,fun _=>⟨Nat.le_refl _,fun _ _=>trivial⟩⟩
  have hp:p<s.size:=by have:=of_decide_eq_true h;omega
  rw[Int.toNat_natCast,wrS (x:=(p:Int)+1) (by omega),wrS (x:=(p:Int)+2) (by omega),wrS (x:=(p:Int)+3) (by omega)]
  have hc:=widZ_cases s p hp
  generalize widZ s p=w at hc
  have hk:s.size≤KB:=h3
  simp only[beq_iff_eq,Bool.not_eq_true',beq_eq_false_iff_ne,hk]
  clear h hk
  unfold maxLen
  repeat' (first | apply And.intro | intro _)
  all_goals first | trivial | omega) (tx_goes (fun p s r=>by simp[rr_M,rr_mk]) (fun p s r h1 h2=>rr_F p s r h1 h2) rr_K)
def runes05 (s:BA):List Rune:=(rpL (toL s)).map fun x=>⟨(x.1:Int),(x.2:Int)⟩
theorem rr_scan (s:BA):∀ (l:List (Nat×Nat)) (p:Nat) (o:List Rune),((scanT 0 false (rr_st s) p l o).1,(scanT 0 false (rr_st s) p l o).2.2)=(.exit 0,o++(rpF p l).map fun x=>⟨(x.1:Int),(x.2:Int)⟩)
 | [],p,o=>by simp[scanT,rpF]
 | d :: l,p,o=>by
  simp only[scanT,rr_st]
  have:=rr_scan s l (p+d.2) (o++[⟨(p:Int),(d.1:Int)⟩])
  rw[this,List.append_assoc]
  rfl
theorem rr_run (s:BA) (hs:s.size≤KB):(loopF (fun g:rr_G=>rr_R g.1 g.2.1 g.2.2) rr_M (s,[],(0:Int))).1=.exit 0∧(loopF (fun g:rr_G=>rr_R g.1 g.2.1 g.2.2) rr_M (s,[],(0:Int))).2.2.1=runes05 s:=by
 have h:=tx_run (F:=fun g:rr_G=>rr_R g.1 g.2.1 g.2.2) (m:=rr_M) (mk:=rr_mk) (x:=0) (adv:=false) (step:=rr_st) (P:=rr_P) (tx:=fun s:BA=>s) (fun p s r=>by simp[rr_M,rr_mk]) (fun p s r h1 h2=>rr_F p s r h1 h2) rr_K s.size 0 s [] (Nat.zero_le _) ⟨hs,Nat.le_refl _⟩ (Nat.sub_le _ _)
 have e:rr_mk 0 s []=(s,[],(0:Int)):=rfl
 rw[e] at h
 rw[h,List.drop_zero]
 have h2:=rr_scan s (rsL (toL s)) 0 []
 simp only[Prod.mk.injEq] at h2
 exact ⟨h2.1,h2.2⟩
def fr_mk (p:Nat) (s:BA) (o:List Int):fr_G:=((),(s,p),o)
def fr_st (_:BA) (o:List Int) (_:Nat) (d:Nat×Nat):Ex×List Int:=(.normal,o++[(d.1:Int)])
def fr_P (s:BA) (o:List Int) (p:Nat):Prop:=s.size≤KB∧o.length≤p
noncomputable abbrev fr_I (g:fr_G):List Prop:=txI (fun s:BA=>s) fr_P fr_mk g
noncomputable abbrev fr_M (g:fr_G):Nat:=g.2.1.1.size - g.2.1.2
theorem fr_K:txK (fun s:BA=>s) fr_st fr_P:=fun s o p h _ _=>⟨h.1,by
 have:=Lib.width_pos s p
 simp only[fr_st,List.length_append,List.length_cons,List.length_nil]
 have:=h.2
 omega⟩
theorem fr_F (p:Nat) (s:BA) (o:List Int):fr_R () (s,p) o=txR 0 (fun s:BA=>s) fr_st true fr_mk p s o:=by
 unfold fr_R txR fr_st fr_mk
 by_cases h:p<s.size
 ·rw[decide_eq_true h,if_pos h,cond_true,app1]
 ·rw[decide_eq_false h,if_neg h,cond_false,e3.ag_eq]
theorem fr_ok:∀ b∈loopsOf Tryd.prog 93,lkey b=3→LoopOk Tryd.prog b (fr_C fr_I fr_M).g:=
 fr_loop fr_I fr_M (fun g hi=>by
  obtain ⟨p,s,o,rfl,h1,h2⟩:=hi _ (List.mem_cons_self ..)
  have h3:=h2.1
  have h4:=h2.2
  unfold KB at h3
  show fr_side () (s,p) o
  unfold fr_side
  rw[bytes3]
  refine ⟨fun h=>?_,fun _=>⟨Nat.le_refl _,fun _ _=>trivial⟩⟩
  have hp:p<s.size:=of_decide_eq_true h
  unfold maxLen
  repeat' (first | apply And.intro | intro _)
  all_goals first | trivial | omega) (tx_goes (fun p s r=>by simp[fr_M,fr_mk]) (fun p s r h1 h2=>fr_F p s r) fr_K)
def runes06 (s:BA):List Int:=(rsL (toL s)).map fun x=>(x.1:Int)
theorem fr_scan (s:BA):∀ (l:List (Nat×Nat)) (p:Nat) (o:List Int),((scanT 0 true (fr_st s) p l o).1,(scanT 0 true (fr_st s) p l o).2.2)=(.exit 0,o++l.map fun x=>(x.1:Int))
 | [],p,o=>by simp[scanT]
 | d :: l,p,o=>by
  simp only[scanT,fr_st]
  have:=fr_scan s l (p+d.2) (o++[(d.1:Int)])
  rw[this,List.append_assoc]
  rfl
theorem fr_run (s:BA) (hs:s.size≤KB):(loopF (fun g:fr_G=>fr_R g.1 g.2.1 g.2.2) fr_M ((),(s,0),[])).1=.exit 0∧(loopF (fun g:fr_G=>fr_R g.1 g.2.1 g.2.2) fr_M ((),(s,0),[])).2.2.2=runes06 s:=by
 have h:=tx_run (F:=fun g:fr_G=>fr_R g.1 g.2.1 g.2.2) (m:=fr_M) (mk:=fr_mk) (x:=0) (adv:=true) (step:=fr_st) (P:=fr_P) (tx:=fun s:BA=>s) (fun p s r=>by simp[fr_M,fr_mk]) (fun p s r h1 h2=>fr_F p s r) fr_K s.size 0 s [] (Nat.zero_le _) ⟨hs,Nat.le_refl _⟩ (Nat.sub_le _ _)
 have e:fr_mk 0 s []=((),(s,0),[]):=rfl
 rw[e] at h
 rw[h,List.drop_zero]
 have h2:=fr_scan s (rsL (toL s)) 0 []
 simp only[Prod.mk.injEq] at h2
 exact ⟨h2.1,h2.2⟩
noncomputable def ltB5:LTab Tryd.prog:=(LTab.cons (LTab.cons ltB3 19 3 (rr_C rr_I rr_M) rr_ok) 93 3 (fr_C fr_I fr_M) fr_ok)
noncomputable abbrev lamB5:Lam:=ltB5.lam
theorem lamB5_ok:∀ f k L,lamB5 f k=some L→∀ b∈loopsOf Tryd.prog f,lkey b=k→LoopOk Tryd.prog b L.g:=ltB5.ok
noncomputable def tabB5:PTab Tryd.prog:=tabB4.cons 22 (pconP aB dBool validS (fun s=>[s.size≤KB])) (conP_ok vld_ok puB)
end Go.Proofs.YtmegbepjdololaaDoor
