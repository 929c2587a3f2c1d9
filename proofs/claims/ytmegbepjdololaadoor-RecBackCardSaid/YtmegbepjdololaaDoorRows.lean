/-
  NARROWER THAN 'FOR EVERY INPUT', by the rows' own cells (each row's printed sentence says how): RecRunes: laid · RecCuts: laid · RecBags: laid · RecBag: laid · RecSums: laid · RecTexts: laid · RecBack: laid · FnTwice: laid · FnChecks: laid · FnRecords: laid · FnReduces: laid · FnPieces: laid · FnMakes: laid.
  DERIVED. THE GIVEN ROWS OF THIS SEAT. 13 by the template 'for every input the law returns true; each argument reads behind the call as it read before'; 0 by the template 'total and deterministic' (their statements: YtmegbepjdololaaDoorTotals.lean).
  GIVEN WITH THE SEED: the statements are not yours to turn. If you find one false, say at which input.
  Laid BY PROGRAM, IN A SANDBOX (cutbox-rows.mjs): the forced cells as the released guide's own fill.sh prints them over the translation 5b52335e7273b8ad… (all of the seat's roots in one cut). By AI agents, Wed Nov 11 2026. No macro, syntax, notation, axiom, sorry.
-/
import Derived.Test.YtmegbepjdololaaDoorChecked
import GoSem.PinnedTables
import GoSem.Claim
import GoSem.ClaimJoined
import GoSem.ClaimMapViews
import Derived.JoinedTies
import Derived.KernelRfl
namespace Go.Proofs.YtmegbepjdololaaDoor
/- THE CELL 'sum', in the pinned program and in every row, IS THE sha256 OF THE DUMP (.gsa) THAT YtmegbepjdololaaDoorProg.lean LOADS. Nothing in Lean hashes anything: it is a label: what it is worth is what the hold of that sum in a sandbox is worth. -/
noncomputable def Tryd.pinned : Pinned := { name := "ytmegbepjdololaadoor", sum := "5b52335e7273b8ade18a6bf1591055cb68a018f17e0144bd3b53a1ca77e69716", checked := Tryd.checked }
namespace Rows
def none {H : Type} : Left H := { results := [], args := [] }

/- WHAT THE LISTED PACKAGE-LEVEL VARIABLES READ AS WHEN THE CALL BEGINS. Each datum BY PROGRAM (the guide's laid-datum.mjs) off the statement by which the dump's own 'gosem.cut.vars' lays the variable. In a bare row this is a premise. The card (YtmegbepjdololaaDoorCards.lean) ties it to the program's text. -/
def laid_unicode_utf8_acceptRanges {H : Type} : DataW H := .agg [.agg [.lit (.int .u8 128), .lit (.int .u8 191)], .agg [.lit (.int .u8 160), .lit (.int .u8 191)], .agg [.lit (.int .u8 128), .lit (.int .u8 159)], .agg [.lit (.int .u8 144), .lit (.int .u8 191)], .agg [.lit (.int .u8 128), .lit (.int .u8 143)], .agg [.lit (.int .u8 0), .lit (.int .u8 0)], .agg [.lit (.int .u8 0), .lit (.int .u8 0)], .agg [.lit (.int .u8 0), .lit (.int .u8 0)], .agg [.lit (.int .u8 0), .lit (.int .u8 0)], .agg [.lit (.int .u8 0), .lit (.int .u8 0)], .agg [.lit (.int .u8 0), .lit (.int .u8 0)], .agg [.lit (.int .u8 0), .lit (.int .u8 0)], .agg [.lit (.int .u8 0), .lit (.int .u8 0)], .agg [.lit (.int .u8 0), .lit (.int .u8 0)], .agg [.lit (.int .u8 0), .lit (.int .u8 0)], .agg [.lit (.int .u8 0), .lit (.int .u8 0)]]
/-- One of Go's own tables, pinned by name: the form's constant. -/
def laid_unicode_utf8_first : DataW Unit := Go.Pinned.utf8First

/-- 'rivuletlaw05.RecRunes': WHATEVER THE INPUT: true; the input reads as it did. -/
def recRunesSpec : ChangeSpec := { name := "recRunes", fn := fun _ => fun
  | [d1, d2] => { results := [.lit (.bool true)], args := [d1, d2] }
  | _ => none }
def recRunesRow : OpenClaim := { program := "ytmegbepjdololaadoor", sum := "5b52335e7273b8ade18a6bf1591055cb68a018f17e0144bd3b53a1ca77e69716", func := "rivulet/rivuletlaw05.RecRunes", spec := "recRunes", inPlace := ["internal/bytealg.abigen_runtime_cmpstring"], unfollowed := true, recurses := true, named := ["unicode/utf8.first", "unicode/utf8.acceptRanges"], plainKeys := false, apart := false, laid := [("unicode/utf8.acceptRanges", laid_unicode_utf8_acceptRanges), ("unicode/utf8.first", laid_unicode_utf8_first)] }
def RecRunesSaid : Prop := recRunesRow.holds Tryd.pinned (OpenSpec.ofChange recRunesSpec)

/-- ITS FALSE NEIGHBOUR: 'it returns false'. Refute it at one input. -/
def recRunesWrong : ChangeSpec := { name := "recRunes", fn := fun _ => fun
  | [d1, d2] => { results := [.lit (.bool false)], args := [d1, d2] }
  | _ => none }
def RecRunesWrongFalsely : Prop := recRunesRow.holds Tryd.pinned (OpenSpec.ofChange recRunesWrong)

/-- 'rivuletlaw05.RecCuts': WHATEVER THE INPUT: true; the input reads as it did. -/
def recCutsSpec : ChangeSpec := { name := "recCuts", fn := fun _ => fun
  | [d1, d2, d3] => { results := [.lit (.bool true)], args := [d1, d2, d3] }
  | _ => none }
def recCutsRow : OpenClaim := { program := "ytmegbepjdololaadoor", sum := "5b52335e7273b8ade18a6bf1591055cb68a018f17e0144bd3b53a1ca77e69716", func := "rivulet/rivuletlaw05.RecCuts", spec := "recCuts", inPlace := ["internal/bytealg.abigen_runtime_cmpstring"], unfollowed := true, recurses := true, named := ["unicode/utf8.first", "unicode/utf8.acceptRanges"], plainKeys := false, apart := false, laid := [("unicode/utf8.acceptRanges", laid_unicode_utf8_acceptRanges), ("unicode/utf8.first", laid_unicode_utf8_first)] }
def RecCutsSaid : Prop := recCutsRow.holds Tryd.pinned (OpenSpec.ofChange recCutsSpec)

/-- ITS FALSE NEIGHBOUR: 'it returns false'. Refute it at one input. -/
def recCutsWrong : ChangeSpec := { name := "recCuts", fn := fun _ => fun
  | [d1, d2, d3] => { results := [.lit (.bool false)], args := [d1, d2, d3] }
  | _ => none }
def RecCutsWrongFalsely : Prop := recCutsRow.holds Tryd.pinned (OpenSpec.ofChange recCutsWrong)

/-- 'rivuletlaw05.RecBags': WHATEVER THE INPUT: true; the input reads as it did. -/
def recBagsSpec : ChangeSpec := { name := "recBags", fn := fun _ => fun
  | [d] => { results := [.lit (.bool true)], args := [d] }
  | _ => none }
def recBagsRow : OpenClaim := { program := "ytmegbepjdololaadoor", sum := "5b52335e7273b8ade18a6bf1591055cb68a018f17e0144bd3b53a1ca77e69716", func := "rivulet/rivuletlaw05.RecBags", spec := "recBags", inPlace := ["internal/bytealg.abigen_runtime_cmpstring"], unfollowed := true, recurses := true, named := ["unicode/utf8.first", "unicode/utf8.acceptRanges"], plainKeys := false, apart := false, laid := [("unicode/utf8.acceptRanges", laid_unicode_utf8_acceptRanges), ("unicode/utf8.first", laid_unicode_utf8_first)] }
def RecBagsSaid : Prop := recBagsRow.holds Tryd.pinned (OpenSpec.ofChange recBagsSpec)

/-- ITS FALSE NEIGHBOUR: 'it returns false'. Refute it at one input. -/
def recBagsWrong : ChangeSpec := { name := "recBags", fn := fun _ => fun
  | [d] => { results := [.lit (.bool false)], args := [d] }
  | _ => none }
def RecBagsWrongFalsely : Prop := recBagsRow.holds Tryd.pinned (OpenSpec.ofChange recBagsWrong)

/-- 'rivuletlaw05.RecBag': WHATEVER THE INPUT: true; the input reads as it did. -/
def recBagSpec : ChangeSpec := { name := "recBag", fn := fun _ => fun
  | [d1, d2, d3] => { results := [.lit (.bool true)], args := [d1, d2, d3] }
  | _ => none }
def recBagRow : OpenClaim := { program := "ytmegbepjdololaadoor", sum := "5b52335e7273b8ade18a6bf1591055cb68a018f17e0144bd3b53a1ca77e69716", func := "rivulet/rivuletlaw05.RecBag", spec := "recBag", inPlace := ["internal/bytealg.abigen_runtime_cmpstring"], unfollowed := true, recurses := true, named := ["unicode/utf8.first", "unicode/utf8.acceptRanges"], plainKeys := false, apart := false, laid := [("unicode/utf8.acceptRanges", laid_unicode_utf8_acceptRanges), ("unicode/utf8.first", laid_unicode_utf8_first)] }
def RecBagSaid : Prop := recBagRow.holds Tryd.pinned (OpenSpec.ofChange recBagSpec)

/-- ITS FALSE NEIGHBOUR: 'it returns false'. Refute it at one input. -/
def recBagWrong : ChangeSpec := { name := "recBag", fn := fun _ => fun
  | [d1, d2, d3] => { results := [.lit (.bool false)], args := [d1, d2, d3] }
  | _ => none }
def RecBagWrongFalsely : Prop := recBagRow.holds Tryd.pinned (OpenSpec.ofChange recBagWrong)

/-- 'rivuletlaw05.RecSums': WHATEVER THE INPUT: true; the input reads as it did. -/
def recSumsSpec : ChangeSpec := { name := "recSums", fn := fun _ => fun
  | [d1, d2] => { results := [.lit (.bool true)], args := [d1, d2] }
  | _ => none }
def recSumsRow : OpenClaim := { program := "ytmegbepjdololaadoor", sum := "5b52335e7273b8ade18a6bf1591055cb68a018f17e0144bd3b53a1ca77e69716", func := "rivulet/rivuletlaw05.RecSums", spec := "recSums", inPlace := ["internal/bytealg.abigen_runtime_cmpstring"], unfollowed := true, recurses := true, named := ["unicode/utf8.first", "unicode/utf8.acceptRanges"], plainKeys := false, apart := false, laid := [("unicode/utf8.acceptRanges", laid_unicode_utf8_acceptRanges), ("unicode/utf8.first", laid_unicode_utf8_first)] }
def RecSumsSaid : Prop := recSumsRow.holds Tryd.pinned (OpenSpec.ofChange recSumsSpec)

/-- ITS FALSE NEIGHBOUR: 'it returns false'. Refute it at one input. -/
def recSumsWrong : ChangeSpec := { name := "recSums", fn := fun _ => fun
  | [d1, d2] => { results := [.lit (.bool false)], args := [d1, d2] }
  | _ => none }
def RecSumsWrongFalsely : Prop := recSumsRow.holds Tryd.pinned (OpenSpec.ofChange recSumsWrong)

/-- 'rivuletlaw05.RecTexts': WHATEVER THE INPUT: true; the input reads as it did. -/
def recTextsSpec : ChangeSpec := { name := "recTexts", fn := fun _ => fun
  | [d1, d2, d3] => { results := [.lit (.bool true)], args := [d1, d2, d3] }
  | _ => none }
def recTextsRow : OpenClaim := { program := "ytmegbepjdololaadoor", sum := "5b52335e7273b8ade18a6bf1591055cb68a018f17e0144bd3b53a1ca77e69716", func := "rivulet/rivuletlaw05.RecTexts", spec := "recTexts", inPlace := ["internal/bytealg.abigen_runtime_cmpstring", "internal/bytealg.IndexByteString", "internal/bytealg.IndexString"], unfollowed := true, recurses := true, named := ["unicode/utf8.first", "unicode/utf8.acceptRanges", "internal/bytealg.MaxLen"], plainKeys := false, apart := false, laid := [("unicode/utf8.acceptRanges", laid_unicode_utf8_acceptRanges), ("unicode/utf8.first", laid_unicode_utf8_first)] }
def RecTextsSaid : Prop := recTextsRow.holds Tryd.pinned (OpenSpec.ofChange recTextsSpec)

/-- ITS FALSE NEIGHBOUR: 'it returns false'. Refute it at one input. -/
def recTextsWrong : ChangeSpec := { name := "recTexts", fn := fun _ => fun
  | [d1, d2, d3] => { results := [.lit (.bool false)], args := [d1, d2, d3] }
  | _ => none }
def RecTextsWrongFalsely : Prop := recTextsRow.holds Tryd.pinned (OpenSpec.ofChange recTextsWrong)

/-- 'rivuletlaw05.RecBack': WHATEVER THE INPUT: true; the input reads as it did. -/
def recBackSpec : ChangeSpec := { name := "recBack", fn := fun _ => fun
  | [d1, d2, d3] => { results := [.lit (.bool true)], args := [d1, d2, d3] }
  | _ => none }
def recBackRow : OpenClaim := { program := "ytmegbepjdololaadoor", sum := "5b52335e7273b8ade18a6bf1591055cb68a018f17e0144bd3b53a1ca77e69716", func := "rivulet/rivuletlaw05.RecBack", spec := "recBack", inPlace := ["internal/bytealg.abigen_runtime_cmpstring", "internal/bytealg.IndexByteString", "internal/bytealg.IndexString"], unfollowed := true, recurses := true, named := ["unicode/utf8.first", "unicode/utf8.acceptRanges", "internal/bytealg.MaxLen"], plainKeys := false, apart := false, laid := [("unicode/utf8.acceptRanges", laid_unicode_utf8_acceptRanges), ("unicode/utf8.first", laid_unicode_utf8_first)] }
def RecBackSaid : Prop := recBackRow.holds Tryd.pinned (OpenSpec.ofChange recBackSpec)

/-- ITS FALSE NEIGHBOUR: 'it returns false'. Refute it at one input. -/
def recBackWrong : ChangeSpec := { name := "recBack", fn := fun _ => fun
  | [d1, d2, d3] => { results := [.lit (.bool false)], args := [d1, d2, d3] }
  | _ => none }
def RecBackWrongFalsely : Prop := recBackRow.holds Tryd.pinned (OpenSpec.ofChange recBackWrong)

/-- 'rivuletlaw06.FnTwice': WHATEVER THE INPUT: true; the input reads as it did. -/
def fnTwiceSpec : ChangeSpec := { name := "fnTwice", fn := fun _ => fun
  | [d1, d2] => { results := [.lit (.bool true)], args := [d1, d2] }
  | _ => none }
def fnTwiceRow : OpenClaim := { program := "ytmegbepjdololaadoor", sum := "5b52335e7273b8ade18a6bf1591055cb68a018f17e0144bd3b53a1ca77e69716", func := "rivulet/rivuletlaw06.FnTwice", spec := "fnTwice", unfollowed := true, recurses := true, named := ["unicode/utf8.first", "unicode/utf8.acceptRanges"], plainKeys := false, apart := false, laid := [("unicode/utf8.acceptRanges", laid_unicode_utf8_acceptRanges), ("unicode/utf8.first", laid_unicode_utf8_first)] }
def FnTwiceSaid : Prop := fnTwiceRow.holds Tryd.pinned (OpenSpec.ofChange fnTwiceSpec)

/-- ITS FALSE NEIGHBOUR: 'it returns false'. Refute it at one input. -/
def fnTwiceWrong : ChangeSpec := { name := "fnTwice", fn := fun _ => fun
  | [d1, d2] => { results := [.lit (.bool false)], args := [d1, d2] }
  | _ => none }
def FnTwiceWrongFalsely : Prop := fnTwiceRow.holds Tryd.pinned (OpenSpec.ofChange fnTwiceWrong)

/-- 'rivuletlaw06.FnChecks': WHATEVER THE INPUT: true; the input reads as it did. -/
def fnChecksSpec : ChangeSpec := { name := "fnChecks", fn := fun _ => fun
  | [d1, d2, d3] => { results := [.lit (.bool true)], args := [d1, d2, d3] }
  | _ => none }
def fnChecksRow : OpenClaim := { program := "ytmegbepjdololaadoor", sum := "5b52335e7273b8ade18a6bf1591055cb68a018f17e0144bd3b53a1ca77e69716", func := "rivulet/rivuletlaw06.FnChecks", spec := "fnChecks", unfollowed := true, recurses := true, named := ["unicode/utf8.first", "unicode/utf8.acceptRanges"], plainKeys := false, apart := false, laid := [("unicode/utf8.acceptRanges", laid_unicode_utf8_acceptRanges), ("unicode/utf8.first", laid_unicode_utf8_first)] }
def FnChecksSaid : Prop := fnChecksRow.holds Tryd.pinned (OpenSpec.ofChange fnChecksSpec)

/-- ITS FALSE NEIGHBOUR: 'it returns false'. Refute it at one input. -/
def fnChecksWrong : ChangeSpec := { name := "fnChecks", fn := fun _ => fun
  | [d1, d2, d3] => { results := [.lit (.bool false)], args := [d1, d2, d3] }
  | _ => none }
def FnChecksWrongFalsely : Prop := fnChecksRow.holds Tryd.pinned (OpenSpec.ofChange fnChecksWrong)

/-- 'rivuletlaw06.FnRecords': WHATEVER THE INPUT: true; the input reads as it did. -/
def fnRecordsSpec : ChangeSpec := { name := "fnRecords", fn := fun _ => fun
  | [d1, d2, d3] => { results := [.lit (.bool true)], args := [d1, d2, d3] }
  | _ => none }
def fnRecordsRow : OpenClaim := { program := "ytmegbepjdololaadoor", sum := "5b52335e7273b8ade18a6bf1591055cb68a018f17e0144bd3b53a1ca77e69716", func := "rivulet/rivuletlaw06.FnRecords", spec := "fnRecords", inPlace := ["internal/bytealg.abigen_runtime_cmpstring"], unfollowed := true, recurses := true, named := ["unicode/utf8.first", "unicode/utf8.acceptRanges"], plainKeys := false, apart := false, laid := [("unicode/utf8.acceptRanges", laid_unicode_utf8_acceptRanges), ("unicode/utf8.first", laid_unicode_utf8_first)] }
def FnRecordsSaid : Prop := fnRecordsRow.holds Tryd.pinned (OpenSpec.ofChange fnRecordsSpec)

/-- ITS FALSE NEIGHBOUR: 'it returns false'. Refute it at one input. -/
def fnRecordsWrong : ChangeSpec := { name := "fnRecords", fn := fun _ => fun
  | [d1, d2, d3] => { results := [.lit (.bool false)], args := [d1, d2, d3] }
  | _ => none }
def FnRecordsWrongFalsely : Prop := fnRecordsRow.holds Tryd.pinned (OpenSpec.ofChange fnRecordsWrong)

/-- 'rivuletlaw06.FnReduces': WHATEVER THE INPUT: true; the input reads as it did. -/
def fnReducesSpec : ChangeSpec := { name := "fnReduces", fn := fun _ => fun
  | [d1, d2, d3] => { results := [.lit (.bool true)], args := [d1, d2, d3] }
  | _ => none }
def fnReducesRow : OpenClaim := { program := "ytmegbepjdololaadoor", sum := "5b52335e7273b8ade18a6bf1591055cb68a018f17e0144bd3b53a1ca77e69716", func := "rivulet/rivuletlaw06.FnReduces", spec := "fnReduces", inPlace := ["internal/bytealg.abigen_runtime_cmpstring"], unfollowed := true, recurses := true, named := ["unicode/utf8.first", "unicode/utf8.acceptRanges"], plainKeys := false, apart := false, laid := [("unicode/utf8.acceptRanges", laid_unicode_utf8_acceptRanges), ("unicode/utf8.first", laid_unicode_utf8_first)] }
def FnReducesSaid : Prop := fnReducesRow.holds Tryd.pinned (OpenSpec.ofChange fnReducesSpec)

/-- ITS FALSE NEIGHBOUR: 'it returns false'. Refute it at one input. -/
def fnReducesWrong : ChangeSpec := { name := "fnReduces", fn := fun _ => fun
  | [d1, d2, d3] => { results := [.lit (.bool false)], args := [d1, d2, d3] }
  | _ => none }
def FnReducesWrongFalsely : Prop := fnReducesRow.holds Tryd.pinned (OpenSpec.ofChange fnReducesWrong)

/-- 'rivuletlaw06.FnPieces': WHATEVER THE INPUT: true; the input reads as it did. -/
def fnPiecesSpec : ChangeSpec := { name := "fnPieces", fn := fun _ => fun
  | [d1, d2] => { results := [.lit (.bool true)], args := [d1, d2] }
  | _ => none }
def fnPiecesRow : OpenClaim := { program := "ytmegbepjdololaadoor", sum := "5b52335e7273b8ade18a6bf1591055cb68a018f17e0144bd3b53a1ca77e69716", func := "rivulet/rivuletlaw06.FnPieces", spec := "fnPieces", inPlace := ["internal/bytealg.IndexByteString", "internal/bytealg.IndexString"], unfollowed := true, recurses := true, named := ["unicode/utf8.first", "unicode/utf8.acceptRanges", "internal/bytealg.MaxLen"], plainKeys := false, apart := false, laid := [("unicode/utf8.acceptRanges", laid_unicode_utf8_acceptRanges), ("unicode/utf8.first", laid_unicode_utf8_first)] }
def FnPiecesSaid : Prop := fnPiecesRow.holds Tryd.pinned (OpenSpec.ofChange fnPiecesSpec)

/-- ITS FALSE NEIGHBOUR: 'it returns false'. Refute it at one input. -/
def fnPiecesWrong : ChangeSpec := { name := "fnPieces", fn := fun _ => fun
  | [d1, d2] => { results := [.lit (.bool false)], args := [d1, d2] }
  | _ => none }
def FnPiecesWrongFalsely : Prop := fnPiecesRow.holds Tryd.pinned (OpenSpec.ofChange fnPiecesWrong)

/-- 'rivuletlaw06.FnMakes': WHATEVER THE INPUT: true; the input reads as it did. -/
def fnMakesSpec : ChangeSpec := { name := "fnMakes", fn := fun _ => fun
  | [d1, d2] => { results := [.lit (.bool true)], args := [d1, d2] }
  | _ => none }
def fnMakesRow : OpenClaim := { program := "ytmegbepjdololaadoor", sum := "5b52335e7273b8ade18a6bf1591055cb68a018f17e0144bd3b53a1ca77e69716", func := "rivulet/rivuletlaw06.FnMakes", spec := "fnMakes", inPlace := ["internal/bytealg.IndexByteString", "internal/bytealg.IndexString"], unfollowed := true, recurses := true, named := ["unicode/utf8.first", "unicode/utf8.acceptRanges", "internal/bytealg.MaxLen"], plainKeys := false, apart := false, laid := [("unicode/utf8.acceptRanges", laid_unicode_utf8_acceptRanges), ("unicode/utf8.first", laid_unicode_utf8_first)] }
def FnMakesSaid : Prop := fnMakesRow.holds Tryd.pinned (OpenSpec.ofChange fnMakesSpec)

/-- ITS FALSE NEIGHBOUR: 'it returns false'. Refute it at one input. -/
def fnMakesWrong : ChangeSpec := { name := "fnMakes", fn := fun _ => fun
  | [d1, d2] => { results := [.lit (.bool false)], args := [d1, d2] }
  | _ => none }
def FnMakesWrongFalsely : Prop := fnMakesRow.holds Tryd.pinned (OpenSpec.ofChange fnMakesWrong)

/- THE SECOND FORM. 'bulk': how many values and letters a reading holds, each counted each time it is reached (what is shared counts as often as it is met; a slice's spare places count too). A statement '..UptoSaid' is the law's where the arguments, and the package variables that the reading takes, are together of bulk at most 1048576: NARROWER than '..Said'. Prove '..Said' where nothing that the law and all that it calls make is longer than what came in: it says more and counts as full. Else prove '..UptoSaid'. A law counts once. -/
mutual
def uptoBulk {H : Type} : DataW H → Nat
  | .lit (.string bytes) => bytes.length + 1
  | .lit _ => 1
  | .nil => 1
  | .ptr d => uptoBulk d + 1
  | .slice elems spare => uptoBulkAll elems + uptoBulkAll spare + 1
  | .agg parts => uptoBulkAll parts + 1
  | .iface _ d => uptoBulk d + 1
  | .map entries => uptoBulkEntries entries + 1
  | .held _ => 1
def uptoBulkAll {H : Type} : List (DataW H) → Nat
  | [] => 0
  | d :: r => uptoBulk d + uptoBulkAll r
def uptoBulkEntries {H : Type} : List (Lit × DataW H) → Nat
  | [] => 0
  | x :: r => uptoBulkEntry x + uptoBulkEntries r
def uptoBulkEntry {H : Type} : Lit × DataW H → Nat
  | (.string bytes, d) => bytes.length + uptoBulk d + 1
  | (_, d) => uptoBulk d + 1
 end
def uptoSmall : (H : Type) → List (DataW H) → Bool := fun _ ds => decide (uptoBulkAll ds ≤ 1048576)
def OpenSpec.upto (s : _root_.Go.ChangeSpec) : _root_.Go.OpenSpec := { _root_.Go.OpenSpec.ofChange s with cond := some uptoSmall }

/-- 'rivuletlaw05.RecRunes', WHERE WHAT IT READS IS OF BULK AT MOST 1048576: true; the input reads as it did. -/
def recRunesUptoRow : OpenClaim := { program := "ytmegbepjdololaadoor", sum := "5b52335e7273b8ade18a6bf1591055cb68a018f17e0144bd3b53a1ca77e69716", func := "rivulet/rivuletlaw05.RecRunes", spec := "recRunes", inPlace := ["internal/bytealg.abigen_runtime_cmpstring"], unfollowed := true, recurses := true, named := ["unicode/utf8.first", "unicode/utf8.acceptRanges"], plainKeys := false, apart := false, laid := [("unicode/utf8.acceptRanges", laid_unicode_utf8_acceptRanges), ("unicode/utf8.first", laid_unicode_utf8_first)], narrowed := true }
def RecRunesUptoSaid : Prop := recRunesUptoRow.holds Tryd.pinned (OpenSpec.upto recRunesSpec)

/-- 'rivuletlaw05.RecCuts', WHERE WHAT IT READS IS OF BULK AT MOST 1048576: true; the input reads as it did. -/
def recCutsUptoRow : OpenClaim := { program := "ytmegbepjdololaadoor", sum := "5b52335e7273b8ade18a6bf1591055cb68a018f17e0144bd3b53a1ca77e69716", func := "rivulet/rivuletlaw05.RecCuts", spec := "recCuts", inPlace := ["internal/bytealg.abigen_runtime_cmpstring"], unfollowed := true, recurses := true, named := ["unicode/utf8.first", "unicode/utf8.acceptRanges"], plainKeys := false, apart := false, laid := [("unicode/utf8.acceptRanges", laid_unicode_utf8_acceptRanges), ("unicode/utf8.first", laid_unicode_utf8_first)], narrowed := true }
def RecCutsUptoSaid : Prop := recCutsUptoRow.holds Tryd.pinned (OpenSpec.upto recCutsSpec)

/-- 'rivuletlaw05.RecBags', WHERE WHAT IT READS IS OF BULK AT MOST 1048576: true; the input reads as it did. -/
def recBagsUptoRow : OpenClaim := { program := "ytmegbepjdololaadoor", sum := "5b52335e7273b8ade18a6bf1591055cb68a018f17e0144bd3b53a1ca77e69716", func := "rivulet/rivuletlaw05.RecBags", spec := "recBags", inPlace := ["internal/bytealg.abigen_runtime_cmpstring"], unfollowed := true, recurses := true, named := ["unicode/utf8.first", "unicode/utf8.acceptRanges"], plainKeys := false, apart := false, laid := [("unicode/utf8.acceptRanges", laid_unicode_utf8_acceptRanges), ("unicode/utf8.first", laid_unicode_utf8_first)], narrowed := true }
def RecBagsUptoSaid : Prop := recBagsUptoRow.holds Tryd.pinned (OpenSpec.upto recBagsSpec)

/-- 'rivuletlaw05.RecBag', WHERE WHAT IT READS IS OF BULK AT MOST 1048576: true; the input reads as it did. -/
def recBagUptoRow : OpenClaim := { program := "ytmegbepjdololaadoor", sum := "5b52335e7273b8ade18a6bf1591055cb68a018f17e0144bd3b53a1ca77e69716", func := "rivulet/rivuletlaw05.RecBag", spec := "recBag", inPlace := ["internal/bytealg.abigen_runtime_cmpstring"], unfollowed := true, recurses := true, named := ["unicode/utf8.first", "unicode/utf8.acceptRanges"], plainKeys := false, apart := false, laid := [("unicode/utf8.acceptRanges", laid_unicode_utf8_acceptRanges), ("unicode/utf8.first", laid_unicode_utf8_first)], narrowed := true }
def RecBagUptoSaid : Prop := recBagUptoRow.holds Tryd.pinned (OpenSpec.upto recBagSpec)

/-- 'rivuletlaw05.RecSums', WHERE WHAT IT READS IS OF BULK AT MOST 1048576: true; the input reads as it did. -/
def recSumsUptoRow : OpenClaim := { program := "ytmegbepjdololaadoor", sum := "5b52335e7273b8ade18a6bf1591055cb68a018f17e0144bd3b53a1ca77e69716", func := "rivulet/rivuletlaw05.RecSums", spec := "recSums", inPlace := ["internal/bytealg.abigen_runtime_cmpstring"], unfollowed := true, recurses := true, named := ["unicode/utf8.first", "unicode/utf8.acceptRanges"], plainKeys := false, apart := false, laid := [("unicode/utf8.acceptRanges", laid_unicode_utf8_acceptRanges), ("unicode/utf8.first", laid_unicode_utf8_first)], narrowed := true }
def RecSumsUptoSaid : Prop := recSumsUptoRow.holds Tryd.pinned (OpenSpec.upto recSumsSpec)

/-- 'rivuletlaw05.RecTexts', WHERE WHAT IT READS IS OF BULK AT MOST 1048576: true; the input reads as it did. -/
def recTextsUptoRow : OpenClaim := { program := "ytmegbepjdololaadoor", sum := "5b52335e7273b8ade18a6bf1591055cb68a018f17e0144bd3b53a1ca77e69716", func := "rivulet/rivuletlaw05.RecTexts", spec := "recTexts", inPlace := ["internal/bytealg.abigen_runtime_cmpstring", "internal/bytealg.IndexByteString", "internal/bytealg.IndexString"], unfollowed := true, recurses := true, named := ["unicode/utf8.first", "unicode/utf8.acceptRanges", "internal/bytealg.MaxLen"], plainKeys := false, apart := false, laid := [("unicode/utf8.acceptRanges", laid_unicode_utf8_acceptRanges), ("unicode/utf8.first", laid_unicode_utf8_first)], narrowed := true }
def RecTextsUptoSaid : Prop := recTextsUptoRow.holds Tryd.pinned (OpenSpec.upto recTextsSpec)

/-- 'rivuletlaw05.RecBack', WHERE WHAT IT READS IS OF BULK AT MOST 1048576: true; the input reads as it did. -/
def recBackUptoRow : OpenClaim := { program := "ytmegbepjdololaadoor", sum := "5b52335e7273b8ade18a6bf1591055cb68a018f17e0144bd3b53a1ca77e69716", func := "rivulet/rivuletlaw05.RecBack", spec := "recBack", inPlace := ["internal/bytealg.abigen_runtime_cmpstring", "internal/bytealg.IndexByteString", "internal/bytealg.IndexString"], unfollowed := true, recurses := true, named := ["unicode/utf8.first", "unicode/utf8.acceptRanges", "internal/bytealg.MaxLen"], plainKeys := false, apart := false, laid := [("unicode/utf8.acceptRanges", laid_unicode_utf8_acceptRanges), ("unicode/utf8.first", laid_unicode_utf8_first)], narrowed := true }
def RecBackUptoSaid : Prop := recBackUptoRow.holds Tryd.pinned (OpenSpec.upto recBackSpec)

/-- 'rivuletlaw06.FnTwice', WHERE WHAT IT READS IS OF BULK AT MOST 1048576: true; the input reads as it did. -/
def fnTwiceUptoRow : OpenClaim := { program := "ytmegbepjdololaadoor", sum := "5b52335e7273b8ade18a6bf1591055cb68a018f17e0144bd3b53a1ca77e69716", func := "rivulet/rivuletlaw06.FnTwice", spec := "fnTwice", unfollowed := true, recurses := true, named := ["unicode/utf8.first", "unicode/utf8.acceptRanges"], plainKeys := false, apart := false, laid := [("unicode/utf8.acceptRanges", laid_unicode_utf8_acceptRanges), ("unicode/utf8.first", laid_unicode_utf8_first)], narrowed := true }
def FnTwiceUptoSaid : Prop := fnTwiceUptoRow.holds Tryd.pinned (OpenSpec.upto fnTwiceSpec)

/-- 'rivuletlaw06.FnChecks', WHERE WHAT IT READS IS OF BULK AT MOST 1048576: true; the input reads as it did. -/
def fnChecksUptoRow : OpenClaim := { program := "ytmegbepjdololaadoor", sum := "5b52335e7273b8ade18a6bf1591055cb68a018f17e0144bd3b53a1ca77e69716", func := "rivulet/rivuletlaw06.FnChecks", spec := "fnChecks", unfollowed := true, recurses := true, named := ["unicode/utf8.first", "unicode/utf8.acceptRanges"], plainKeys := false, apart := false, laid := [("unicode/utf8.acceptRanges", laid_unicode_utf8_acceptRanges), ("unicode/utf8.first", laid_unicode_utf8_first)], narrowed := true }
def FnChecksUptoSaid : Prop := fnChecksUptoRow.holds Tryd.pinned (OpenSpec.upto fnChecksSpec)

/-- 'rivuletlaw06.FnRecords', WHERE WHAT IT READS IS OF BULK AT MOST 1048576: true; the input reads as it did. -/
def fnRecordsUptoRow : OpenClaim := { program := "ytmegbepjdololaadoor", sum := "5b52335e7273b8ade18a6bf1591055cb68a018f17e0144bd3b53a1ca77e69716", func := "rivulet/rivuletlaw06.FnRecords", spec := "fnRecords", inPlace := ["internal/bytealg.abigen_runtime_cmpstring"], unfollowed := true, recurses := true, named := ["unicode/utf8.first", "unicode/utf8.acceptRanges"], plainKeys := false, apart := false, laid := [("unicode/utf8.acceptRanges", laid_unicode_utf8_acceptRanges), ("unicode/utf8.first", laid_unicode_utf8_first)], narrowed := true }
def FnRecordsUptoSaid : Prop := fnRecordsUptoRow.holds Tryd.pinned (OpenSpec.upto fnRecordsSpec)

/-- 'rivuletlaw06.FnReduces', WHERE WHAT IT READS IS OF BULK AT MOST 1048576: true; the input reads as it did. -/
def fnReducesUptoRow : OpenClaim := { program := "ytmegbepjdololaadoor", sum := "5b52335e7273b8ade18a6bf1591055cb68a018f17e0144bd3b53a1ca77e69716", func := "rivulet/rivuletlaw06.FnReduces", spec := "fnReduces", inPlace := ["internal/bytealg.abigen_runtime_cmpstring"], unfollowed := true, recurses := true, named := ["unicode/utf8.first", "unicode/utf8.acceptRanges"], plainKeys := false, apart := false, laid := [("unicode/utf8.acceptRanges", laid_unicode_utf8_acceptRanges), ("unicode/utf8.first", laid_unicode_utf8_first)], narrowed := true }
def FnReducesUptoSaid : Prop := fnReducesUptoRow.holds Tryd.pinned (OpenSpec.upto fnReducesSpec)

/-- 'rivuletlaw06.FnPieces', WHERE WHAT IT READS IS OF BULK AT MOST 1048576: true; the input reads as it did. -/
def fnPiecesUptoRow : OpenClaim := { program := "ytmegbepjdololaadoor", sum := "5b52335e7273b8ade18a6bf1591055cb68a018f17e0144bd3b53a1ca77e69716", func := "rivulet/rivuletlaw06.FnPieces", spec := "fnPieces", inPlace := ["internal/bytealg.IndexByteString", "internal/bytealg.IndexString"], unfollowed := true, recurses := true, named := ["unicode/utf8.first", "unicode/utf8.acceptRanges", "internal/bytealg.MaxLen"], plainKeys := false, apart := false, laid := [("unicode/utf8.acceptRanges", laid_unicode_utf8_acceptRanges), ("unicode/utf8.first", laid_unicode_utf8_first)], narrowed := true }
def FnPiecesUptoSaid : Prop := fnPiecesUptoRow.holds Tryd.pinned (OpenSpec.upto fnPiecesSpec)

/-- 'rivuletlaw06.FnMakes', WHERE WHAT IT READS IS OF BULK AT MOST 1048576: true; the input reads as it did. -/
def fnMakesUptoRow : OpenClaim := { program := "ytmegbepjdololaadoor", sum := "5b52335e7273b8ade18a6bf1591055cb68a018f17e0144bd3b53a1ca77e69716", func := "rivulet/rivuletlaw06.FnMakes", spec := "fnMakes", inPlace := ["internal/bytealg.IndexByteString", "internal/bytealg.IndexString"], unfollowed := true, recurses := true, named := ["unicode/utf8.first", "unicode/utf8.acceptRanges", "internal/bytealg.MaxLen"], plainKeys := false, apart := false, laid := [("unicode/utf8.acceptRanges", laid_unicode_utf8_acceptRanges), ("unicode/utf8.first", laid_unicode_utf8_first)], narrowed := true }
def FnMakesUptoSaid : Prop := fnMakesUptoRow.holds Tryd.pinned (OpenSpec.upto fnMakesSpec)

end Rows
end Go.Proofs.YtmegbepjdololaaDoor
