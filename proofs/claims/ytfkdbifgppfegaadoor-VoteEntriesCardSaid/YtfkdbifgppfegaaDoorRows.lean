/-
  NARROWER THAN 'FOR EVERY INPUT', by the rows' own cells (each row's printed sentence says how): VoteBack: laid · VoteRuns: laid · VoteAll: laid · VoteOne: laid · VoteEntries: laid.
  DERIVED. THE GIVEN ROWS OF THIS SEAT. 5 by the template 'for every input the law returns true; each argument reads behind the call as it read before'; 0 by the template 'total and deterministic' (their statements: YtfkdbifgppfegaaDoorTotals.lean).
  GIVEN WITH THE SEED: the statements are not yours to turn. If you find one false, say at which input.
  Laid BY PROGRAM, IN A SANDBOX (cutbox-rows.mjs): the forced cells as the released guide's own fill.sh prints them over the translation 99fa4beaf8126c66… (all of the seat's roots in one cut). By AI agents, Wed Nov 11 2026. No macro, syntax, notation, axiom, sorry.
-/
import Derived.Test.YtfkdbifgppfegaaDoorChecked
import GoSem.PinnedTables
import GoSem.Claim
import GoSem.ClaimJoined
import GoSem.ClaimMapViews
import Derived.JoinedTies
import Derived.KernelRfl
namespace Go.Proofs.YtfkdbifgppfegaaDoor
/- THE CELL 'sum', in the pinned program and in every row, IS THE sha256 OF THE DUMP (.gsa) THAT YtfkdbifgppfegaaDoorProg.lean LOADS. Nothing in Lean hashes anything: it is a label: what it is worth is what the hold of that sum in a sandbox is worth. -/
noncomputable def Tryd.pinned : Pinned := { name := "ytfkdbifgppfegaadoor", sum := "99fa4beaf8126c66dfe5fcb11b2c8421d4707b7f8e1912450c80aa894d4825a4", checked := Tryd.checked }
namespace Rows
def none {H : Type} : Left H := { results := [], args := [] }

/- WHAT THE LISTED PACKAGE-LEVEL VARIABLES READ AS WHEN THE CALL BEGINS. Each datum BY PROGRAM (the guide's laid-datum.mjs) off the statement by which the dump's own 'gosem.cut.vars' lays the variable. In a bare row this is a premise. The card (YtfkdbifgppfegaaDoorCards.lean) ties it to the program's text. -/
def laid_unicode_utf8_acceptRanges {H : Type} : DataW H := .agg [.agg [.lit (.int .u8 128), .lit (.int .u8 191)], .agg [.lit (.int .u8 160), .lit (.int .u8 191)], .agg [.lit (.int .u8 128), .lit (.int .u8 159)], .agg [.lit (.int .u8 144), .lit (.int .u8 191)], .agg [.lit (.int .u8 128), .lit (.int .u8 143)], .agg [.lit (.int .u8 0), .lit (.int .u8 0)], .agg [.lit (.int .u8 0), .lit (.int .u8 0)], .agg [.lit (.int .u8 0), .lit (.int .u8 0)], .agg [.lit (.int .u8 0), .lit (.int .u8 0)], .agg [.lit (.int .u8 0), .lit (.int .u8 0)], .agg [.lit (.int .u8 0), .lit (.int .u8 0)], .agg [.lit (.int .u8 0), .lit (.int .u8 0)], .agg [.lit (.int .u8 0), .lit (.int .u8 0)], .agg [.lit (.int .u8 0), .lit (.int .u8 0)], .agg [.lit (.int .u8 0), .lit (.int .u8 0)], .agg [.lit (.int .u8 0), .lit (.int .u8 0)]]
/-- One of Go's own tables, pinned by name: the form's constant. -/
def laid_unicode_utf8_first : DataW Unit := Go.Pinned.utf8First

/-- 'rivuletlaw21.VoteBack': WHATEVER THE INPUT: true; the input reads as it did. -/
def voteBackSpec : ChangeSpec := { name := "voteBack", fn := fun _ => fun
  | [d] => { results := [.lit (.bool true)], args := [d] }
  | _ => none }
def voteBackRow : OpenClaim := { program := "ytfkdbifgppfegaadoor", sum := "99fa4beaf8126c66dfe5fcb11b2c8421d4707b7f8e1912450c80aa894d4825a4", func := "rivulet/rivuletlaw21.VoteBack", spec := "voteBack", unfollowed := true, recurses := true, named := ["unicode/utf8.first", "unicode/utf8.acceptRanges"], apart := false, laid := [("unicode/utf8.acceptRanges", laid_unicode_utf8_acceptRanges), ("unicode/utf8.first", laid_unicode_utf8_first)] }
def VoteBackSaid : Prop := voteBackRow.holds Tryd.pinned (OpenSpec.ofChange voteBackSpec)

/-- ITS FALSE NEIGHBOUR: 'it returns false'. Refute it at one input. -/
def voteBackWrong : ChangeSpec := { name := "voteBack", fn := fun _ => fun
  | [d] => { results := [.lit (.bool false)], args := [d] }
  | _ => none }
def VoteBackWrongFalsely : Prop := voteBackRow.holds Tryd.pinned (OpenSpec.ofChange voteBackWrong)

/-- 'rivuletlaw21.VoteRuns': WHATEVER THE INPUT: true; the input reads as it did. -/
def voteRunsSpec : ChangeSpec := { name := "voteRuns", fn := fun _ => fun
  | [d1, d2] => { results := [.lit (.bool true)], args := [d1, d2] }
  | _ => none }
def voteRunsRow : OpenClaim := { program := "ytfkdbifgppfegaadoor", sum := "99fa4beaf8126c66dfe5fcb11b2c8421d4707b7f8e1912450c80aa894d4825a4", func := "rivulet/rivuletlaw21.VoteRuns", spec := "voteRuns", unfollowed := true, recurses := true, named := ["unicode/utf8.first", "unicode/utf8.acceptRanges"], apart := false, laid := [("unicode/utf8.acceptRanges", laid_unicode_utf8_acceptRanges), ("unicode/utf8.first", laid_unicode_utf8_first)] }
def VoteRunsSaid : Prop := voteRunsRow.holds Tryd.pinned (OpenSpec.ofChange voteRunsSpec)

/-- ITS FALSE NEIGHBOUR: 'it returns false'. Refute it at one input. -/
def voteRunsWrong : ChangeSpec := { name := "voteRuns", fn := fun _ => fun
  | [d1, d2] => { results := [.lit (.bool false)], args := [d1, d2] }
  | _ => none }
def VoteRunsWrongFalsely : Prop := voteRunsRow.holds Tryd.pinned (OpenSpec.ofChange voteRunsWrong)

/-- 'rivuletlaw21.VoteAll': WHATEVER THE INPUT: true; the input reads as it did. -/
def voteAllSpec : ChangeSpec := { name := "voteAll", fn := fun _ => fun
  | [d1, d2] => { results := [.lit (.bool true)], args := [d1, d2] }
  | _ => none }
def voteAllRow : OpenClaim := { program := "ytfkdbifgppfegaadoor", sum := "99fa4beaf8126c66dfe5fcb11b2c8421d4707b7f8e1912450c80aa894d4825a4", func := "rivulet/rivuletlaw21.VoteAll", spec := "voteAll", unfollowed := true, recurses := true, named := ["unicode/utf8.first", "unicode/utf8.acceptRanges"], apart := false, laid := [("unicode/utf8.acceptRanges", laid_unicode_utf8_acceptRanges), ("unicode/utf8.first", laid_unicode_utf8_first)] }
def VoteAllSaid : Prop := voteAllRow.holds Tryd.pinned (OpenSpec.ofChange voteAllSpec)

/-- ITS FALSE NEIGHBOUR: 'it returns false'. Refute it at one input. -/
def voteAllWrong : ChangeSpec := { name := "voteAll", fn := fun _ => fun
  | [d1, d2] => { results := [.lit (.bool false)], args := [d1, d2] }
  | _ => none }
def VoteAllWrongFalsely : Prop := voteAllRow.holds Tryd.pinned (OpenSpec.ofChange voteAllWrong)

/-- 'rivuletlaw21.VoteOne': WHATEVER THE INPUT: true; the input reads as it did. -/
def voteOneSpec : ChangeSpec := { name := "voteOne", fn := fun _ => fun
  | [d1, d2, d3] => { results := [.lit (.bool true)], args := [d1, d2, d3] }
  | _ => none }
def voteOneRow : OpenClaim := { program := "ytfkdbifgppfegaadoor", sum := "99fa4beaf8126c66dfe5fcb11b2c8421d4707b7f8e1912450c80aa894d4825a4", func := "rivulet/rivuletlaw21.VoteOne", spec := "voteOne", unfollowed := true, recurses := true, named := ["unicode/utf8.first", "unicode/utf8.acceptRanges"], apart := false, laid := [("unicode/utf8.acceptRanges", laid_unicode_utf8_acceptRanges), ("unicode/utf8.first", laid_unicode_utf8_first)] }
def VoteOneSaid : Prop := voteOneRow.holds Tryd.pinned (OpenSpec.ofChange voteOneSpec)

/-- ITS FALSE NEIGHBOUR: 'it returns false'. Refute it at one input. -/
def voteOneWrong : ChangeSpec := { name := "voteOne", fn := fun _ => fun
  | [d1, d2, d3] => { results := [.lit (.bool false)], args := [d1, d2, d3] }
  | _ => none }
def VoteOneWrongFalsely : Prop := voteOneRow.holds Tryd.pinned (OpenSpec.ofChange voteOneWrong)

/-- 'rivuletlaw21.VoteEntries': WHATEVER THE INPUT: true; the input reads as it did. -/
def voteEntriesSpec : ChangeSpec := { name := "voteEntries", fn := fun _ => fun
  | [d1, d2] => { results := [.lit (.bool true)], args := [d1, d2] }
  | _ => none }
def voteEntriesRow : OpenClaim := { program := "ytfkdbifgppfegaadoor", sum := "99fa4beaf8126c66dfe5fcb11b2c8421d4707b7f8e1912450c80aa894d4825a4", func := "rivulet/rivuletlaw21.VoteEntries", spec := "voteEntries", unfollowed := true, recurses := true, named := ["unicode/utf8.first", "unicode/utf8.acceptRanges"], apart := false, laid := [("unicode/utf8.acceptRanges", laid_unicode_utf8_acceptRanges), ("unicode/utf8.first", laid_unicode_utf8_first)] }
def VoteEntriesSaid : Prop := voteEntriesRow.holds Tryd.pinned (OpenSpec.ofChange voteEntriesSpec)

/-- ITS FALSE NEIGHBOUR: 'it returns false'. Refute it at one input. -/
def voteEntriesWrong : ChangeSpec := { name := "voteEntries", fn := fun _ => fun
  | [d1, d2] => { results := [.lit (.bool false)], args := [d1, d2] }
  | _ => none }
def VoteEntriesWrongFalsely : Prop := voteEntriesRow.holds Tryd.pinned (OpenSpec.ofChange voteEntriesWrong)

/- THE SECOND FORM. 'bulk': how many values and letters a reading holds, each counted each time it is reached (what is shared counts as often as it is met; a slice's spare places count too). A statement '..UptoSaid' is the law's where the arguments, and the package variables that the reading takes, are together of bulk at most 1048576: NARROWER than '..Said'. Prove '..Said' where nothing that the law and all that it calls make is longer than what came in: it says more and counts as full. Else prove '..UptoSaid'. A law counts once. -/
mutual
def uptoBulk {H : Type} : DataW H → Nat
  | .lit (.string bytes) => bytes.length + 1
  | .lit _ => 1
  | .nil => 1
  | .ptr d => uptoBulk d + 1
  | .slice elems spare => uptoBulkAll elems + uptoBulkAll spare + 1
  | .agg parts => uptoBulkAll parts + 1
  | .iface _ d => uptoBulk d + 1
  | .map entries => uptoBulkEntries entries + 1
  | .held _ => 1
def uptoBulkAll {H : Type} : List (DataW H) → Nat
  | [] => 0
  | d :: r => uptoBulk d + uptoBulkAll r
def uptoBulkEntries {H : Type} : List (Lit × DataW H) → Nat
  | [] => 0
  | x :: r => uptoBulkEntry x + uptoBulkEntries r
def uptoBulkEntry {H : Type} : Lit × DataW H → Nat
  | (.string bytes, d) => bytes.length + uptoBulk d + 1
  | (_, d) => uptoBulk d + 1
 end
def uptoSmall : (H : Type) → List (DataW H) → Bool := fun _ ds => decide (uptoBulkAll ds ≤ 1048576)
def OpenSpec.upto (s : _root_.Go.ChangeSpec) : _root_.Go.OpenSpec := { _root_.Go.OpenSpec.ofChange s with cond := some uptoSmall }

/-- 'rivuletlaw21.VoteBack', WHERE WHAT IT READS IS OF BULK AT MOST 1048576: true; the input reads as it did. -/
def voteBackUptoRow : OpenClaim := { program := "ytfkdbifgppfegaadoor", sum := "99fa4beaf8126c66dfe5fcb11b2c8421d4707b7f8e1912450c80aa894d4825a4", func := "rivulet/rivuletlaw21.VoteBack", spec := "voteBack", unfollowed := true, recurses := true, named := ["unicode/utf8.first", "unicode/utf8.acceptRanges"], apart := false, laid := [("unicode/utf8.acceptRanges", laid_unicode_utf8_acceptRanges), ("unicode/utf8.first", laid_unicode_utf8_first)], narrowed := true }
def VoteBackUptoSaid : Prop := voteBackUptoRow.holds Tryd.pinned (OpenSpec.upto voteBackSpec)

/-- 'rivuletlaw21.VoteRuns', WHERE WHAT IT READS IS OF BULK AT MOST 1048576: true; the input reads as it did. -/
def voteRunsUptoRow : OpenClaim := { program := "ytfkdbifgppfegaadoor", sum := "99fa4beaf8126c66dfe5fcb11b2c8421d4707b7f8e1912450c80aa894d4825a4", func := "rivulet/rivuletlaw21.VoteRuns", spec := "voteRuns", unfollowed := true, recurses := true, named := ["unicode/utf8.first", "unicode/utf8.acceptRanges"], apart := false, laid := [("unicode/utf8.acceptRanges", laid_unicode_utf8_acceptRanges), ("unicode/utf8.first", laid_unicode_utf8_first)], narrowed := true }
def VoteRunsUptoSaid : Prop := voteRunsUptoRow.holds Tryd.pinned (OpenSpec.upto voteRunsSpec)

/-- 'rivuletlaw21.VoteAll', WHERE WHAT IT READS IS OF BULK AT MOST 1048576: true; the input reads as it did. -/
def voteAllUptoRow : OpenClaim := { program := "ytfkdbifgppfegaadoor", sum := "99fa4beaf8126c66dfe5fcb11b2c8421d4707b7f8e1912450c80aa894d4825a4", func := "rivulet/rivuletlaw21.VoteAll", spec := "voteAll", unfollowed := true, recurses := true, named := ["unicode/utf8.first", "unicode/utf8.acceptRanges"], apart := false, laid := [("unicode/utf8.acceptRanges", laid_unicode_utf8_acceptRanges), ("unicode/utf8.first", laid_unicode_utf8_first)], narrowed := true }
def VoteAllUptoSaid : Prop := voteAllUptoRow.holds Tryd.pinned (OpenSpec.upto voteAllSpec)

/-- 'rivuletlaw21.VoteOne', WHERE WHAT IT READS IS OF BULK AT MOST 1048576: true; the input reads as it did. -/
def voteOneUptoRow : OpenClaim := { program := "ytfkdbifgppfegaadoor", sum := "99fa4beaf8126c66dfe5fcb11b2c8421d4707b7f8e1912450c80aa894d4825a4", func := "rivulet/rivuletlaw21.VoteOne", spec := "voteOne", unfollowed := true, recurses := true, named := ["unicode/utf8.first", "unicode/utf8.acceptRanges"], apart := false, laid := [("unicode/utf8.acceptRanges", laid_unicode_utf8_acceptRanges), ("unicode/utf8.first", laid_unicode_utf8_first)], narrowed := true }
def VoteOneUptoSaid : Prop := voteOneUptoRow.holds Tryd.pinned (OpenSpec.upto voteOneSpec)

/-- 'rivuletlaw21.VoteEntries', WHERE WHAT IT READS IS OF BULK AT MOST 1048576: true; the input reads as it did. -/
def voteEntriesUptoRow : OpenClaim := { program := "ytfkdbifgppfegaadoor", sum := "99fa4beaf8126c66dfe5fcb11b2c8421d4707b7f8e1912450c80aa894d4825a4", func := "rivulet/rivuletlaw21.VoteEntries", spec := "voteEntries", unfollowed := true, recurses := true, named := ["unicode/utf8.first", "unicode/utf8.acceptRanges"], apart := false, laid := [("unicode/utf8.acceptRanges", laid_unicode_utf8_acceptRanges), ("unicode/utf8.first", laid_unicode_utf8_first)], narrowed := true }
def VoteEntriesUptoSaid : Prop := voteEntriesUptoRow.holds Tryd.pinned (OpenSpec.upto voteEntriesSpec)

end Rows
end Go.Proofs.YtfkdbifgppfegaaDoor
