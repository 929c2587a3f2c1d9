/-
  No cell of these rows narrows 'for every input' (looked for: loops, veiled, ifaces, maps, wideKeys, modest, calm, conditions, laid).
  DERIVED. THE GIVEN ROWS OF THIS SEAT. 8 by the template 'for every input the law returns true; each argument reads behind the call as it read before'; 0 by the template 'total and deterministic' (their statements: YthnojkbkojpadaaGreatTotals.lean).
  GIVEN WITH THE SEED: the statements are not yours to turn. If you find one false, say at which input.
  Laid BY PROGRAM, IN A SANDBOX (cutbox-rows.mjs): the forced cells as the released guide's own fill.sh prints them over the translation e247f2740d24deb4… (all of the seat's roots in one cut). By AI agents, Wed Nov 11 2026. No macro, syntax, notation, axiom, sorry.
-/
import Derived.Test.YthnojkbkojpadaaGreatChecked
import GoSem.Claim
import GoSem.ClaimJoined
import GoSem.ClaimMapViews
import Derived.JoinedTies
import Derived.KernelRfl
namespace Go.Proofs.YthnojkbkojpadaaGreat
/- THE CELL 'sum', in the pinned program and in every row, IS THE sha256 OF THE DUMP (.gsa) THAT YthnojkbkojpadaaGreatProg.lean LOADS. Nothing in Lean hashes anything: it is a label: what it is worth is what the hold of that sum in a sandbox is worth. -/
noncomputable def Tryz.pinned : Pinned := { name := "ythnojkbkojpadaagreat", sum := "e247f2740d24deb442dbaf9e07a102a42e80a1afb7320c3a6de134c59c5b93c9", checked := Tryz.checked }
namespace Rows
def none {H : Type} : Left H := { results := [], args := [] }

/-- 'rivuletlaw11.ReachTells': WHATEVER THE INPUT: true; the input reads as it did. -/
def reachTellsSpec : ChangeSpec := { name := "reachTells", fn := fun _ => fun
  | [d1, d2, d3] => { results := [.lit (.bool true)], args := [d1, d2, d3] }
  | _ => none }
def reachTellsRow : OpenClaim := { program := "ythnojkbkojpadaagreat", sum := "e247f2740d24deb442dbaf9e07a102a42e80a1afb7320c3a6de134c59c5b93c9", func := "rivulet/rivuletlaw11.ReachTells", spec := "reachTells", unfollowed := true, recurses := true, plainKeys := false, apart := false }
def ReachTellsSaid : Prop := reachTellsRow.holds Tryz.pinned (OpenSpec.ofChange reachTellsSpec)

/-- ITS FALSE NEIGHBOUR: 'it returns false'. Refute it at one input. -/
def reachTellsWrong : ChangeSpec := { name := "reachTells", fn := fun _ => fun
  | [d1, d2, d3] => { results := [.lit (.bool false)], args := [d1, d2, d3] }
  | _ => none }
def ReachTellsWrongFalsely : Prop := reachTellsRow.holds Tryz.pinned (OpenSpec.ofChange reachTellsWrong)

/-- 'rivuletlaw11.ReachFrontiers': WHATEVER THE INPUT: true; the input reads as it did. -/
def reachFrontiersSpec : ChangeSpec := { name := "reachFrontiers", fn := fun _ => fun
  | [d1, d2] => { results := [.lit (.bool true)], args := [d1, d2] }
  | _ => none }
def reachFrontiersRow : OpenClaim := { program := "ythnojkbkojpadaagreat", sum := "e247f2740d24deb442dbaf9e07a102a42e80a1afb7320c3a6de134c59c5b93c9", func := "rivulet/rivuletlaw11.ReachFrontiers", spec := "reachFrontiers", unfollowed := true, recurses := true, plainKeys := false, apart := false }
def ReachFrontiersSaid : Prop := reachFrontiersRow.holds Tryz.pinned (OpenSpec.ofChange reachFrontiersSpec)

/-- ITS FALSE NEIGHBOUR: 'it returns false'. Refute it at one input. -/
def reachFrontiersWrong : ChangeSpec := { name := "reachFrontiers", fn := fun _ => fun
  | [d1, d2] => { results := [.lit (.bool false)], args := [d1, d2] }
  | _ => none }
def ReachFrontiersWrongFalsely : Prop := reachFrontiersRow.holds Tryz.pinned (OpenSpec.ofChange reachFrontiersWrong)

/-- 'rivuletlaw11.ReachCovers': WHATEVER THE INPUT: true; the input reads as it did. -/
def reachCoversSpec : ChangeSpec := { name := "reachCovers", fn := fun _ => fun
  | [d1, d2] => { results := [.lit (.bool true)], args := [d1, d2] }
  | _ => none }
def reachCoversRow : OpenClaim := { program := "ythnojkbkojpadaagreat", sum := "e247f2740d24deb442dbaf9e07a102a42e80a1afb7320c3a6de134c59c5b93c9", func := "rivulet/rivuletlaw11.ReachCovers", spec := "reachCovers", unfollowed := true, recurses := true, plainKeys := false, apart := false }
def ReachCoversSaid : Prop := reachCoversRow.holds Tryz.pinned (OpenSpec.ofChange reachCoversSpec)

/-- ITS FALSE NEIGHBOUR: 'it returns false'. Refute it at one input. -/
def reachCoversWrong : ChangeSpec := { name := "reachCovers", fn := fun _ => fun
  | [d1, d2] => { results := [.lit (.bool false)], args := [d1, d2] }
  | _ => none }
def ReachCoversWrongFalsely : Prop := reachCoversRow.holds Tryz.pinned (OpenSpec.ofChange reachCoversWrong)

/-- 'rivuletlaw15.LedgerNets': WHATEVER THE INPUT: true; the input reads as it did. -/
def ledgerNetsSpec : ChangeSpec := { name := "ledgerNets", fn := fun _ => fun
  | [d] => { results := [.lit (.bool true)], args := [d] }
  | _ => none }
def ledgerNetsRow : OpenClaim := { program := "ythnojkbkojpadaagreat", sum := "e247f2740d24deb442dbaf9e07a102a42e80a1afb7320c3a6de134c59c5b93c9", func := "rivulet/rivuletlaw15.LedgerNets", spec := "ledgerNets", unfollowed := true, recurses := true, plainKeys := false, apart := false }
def LedgerNetsSaid : Prop := ledgerNetsRow.holds Tryz.pinned (OpenSpec.ofChange ledgerNetsSpec)

/-- ITS FALSE NEIGHBOUR: 'it returns false'. Refute it at one input. -/
def ledgerNetsWrong : ChangeSpec := { name := "ledgerNets", fn := fun _ => fun
  | [d] => { results := [.lit (.bool false)], args := [d] }
  | _ => none }
def LedgerNetsWrongFalsely : Prop := ledgerNetsRow.holds Tryz.pinned (OpenSpec.ofChange ledgerNetsWrong)

/-- 'rivuletlaw15.LedgerEmpty': WHATEVER THE INPUT: true; the input reads as it did. -/
def ledgerEmptySpec : ChangeSpec := { name := "ledgerEmpty", fn := fun _ => fun
  | [d1, d2, d3] => { results := [.lit (.bool true)], args := [d1, d2, d3] }
  | _ => none }
def ledgerEmptyRow : OpenClaim := { program := "ythnojkbkojpadaagreat", sum := "e247f2740d24deb442dbaf9e07a102a42e80a1afb7320c3a6de134c59c5b93c9", func := "rivulet/rivuletlaw15.LedgerEmpty", spec := "ledgerEmpty", unfollowed := true, recurses := true, plainKeys := false, apart := false }
def LedgerEmptySaid : Prop := ledgerEmptyRow.holds Tryz.pinned (OpenSpec.ofChange ledgerEmptySpec)

/-- ITS FALSE NEIGHBOUR: 'it returns false'. Refute it at one input. -/
def ledgerEmptyWrong : ChangeSpec := { name := "ledgerEmpty", fn := fun _ => fun
  | [d1, d2, d3] => { results := [.lit (.bool false)], args := [d1, d2, d3] }
  | _ => none }
def LedgerEmptyWrongFalsely : Prop := ledgerEmptyRow.holds Tryz.pinned (OpenSpec.ofChange ledgerEmptyWrong)

/-- 'rivuletlaw15.LedgerOrder': WHATEVER THE INPUT: true; the input reads as it did. -/
def ledgerOrderSpec : ChangeSpec := { name := "ledgerOrder", fn := fun _ => fun
  | [d1, d2, d3] => { results := [.lit (.bool true)], args := [d1, d2, d3] }
  | _ => none }
def ledgerOrderRow : OpenClaim := { program := "ythnojkbkojpadaagreat", sum := "e247f2740d24deb442dbaf9e07a102a42e80a1afb7320c3a6de134c59c5b93c9", func := "rivulet/rivuletlaw15.LedgerOrder", spec := "ledgerOrder", unfollowed := true, recurses := true, plainKeys := false, apart := false }
def LedgerOrderSaid : Prop := ledgerOrderRow.holds Tryz.pinned (OpenSpec.ofChange ledgerOrderSpec)

/-- ITS FALSE NEIGHBOUR: 'it returns false'. Refute it at one input. -/
def ledgerOrderWrong : ChangeSpec := { name := "ledgerOrder", fn := fun _ => fun
  | [d1, d2, d3] => { results := [.lit (.bool false)], args := [d1, d2, d3] }
  | _ => none }
def LedgerOrderWrongFalsely : Prop := ledgerOrderRow.holds Tryz.pinned (OpenSpec.ofChange ledgerOrderWrong)

/-- 'rivuletlaw15.LedgerNone': WHATEVER THE INPUT: true; the input reads as it did. -/
def ledgerNoneSpec : ChangeSpec := { name := "ledgerNone", fn := fun _ => fun
  | [d1, d2] => { results := [.lit (.bool true)], args := [d1, d2] }
  | _ => none }
def ledgerNoneRow : OpenClaim := { program := "ythnojkbkojpadaagreat", sum := "e247f2740d24deb442dbaf9e07a102a42e80a1afb7320c3a6de134c59c5b93c9", func := "rivulet/rivuletlaw15.LedgerNone", spec := "ledgerNone", inPlace := ["maps.clone"], unfollowed := true, recurses := true, plainKeys := false, apart := false }
def LedgerNoneSaid : Prop := ledgerNoneRow.holds Tryz.pinned (OpenSpec.ofChange ledgerNoneSpec)

/-- ITS FALSE NEIGHBOUR: 'it returns false'. Refute it at one input. -/
def ledgerNoneWrong : ChangeSpec := { name := "ledgerNone", fn := fun _ => fun
  | [d1, d2] => { results := [.lit (.bool false)], args := [d1, d2] }
  | _ => none }
def LedgerNoneWrongFalsely : Prop := ledgerNoneRow.holds Tryz.pinned (OpenSpec.ofChange ledgerNoneWrong)

/-- 'rivuletlaw15.LedgerRuns': WHATEVER THE INPUT: true; the input reads as it did. -/
def ledgerRunsSpec : ChangeSpec := { name := "ledgerRuns", fn := fun _ => fun
  | [d1, d2, d3] => { results := [.lit (.bool true)], args := [d1, d2, d3] }
  | _ => none }
def ledgerRunsRow : OpenClaim := { program := "ythnojkbkojpadaagreat", sum := "e247f2740d24deb442dbaf9e07a102a42e80a1afb7320c3a6de134c59c5b93c9", func := "rivulet/rivuletlaw15.LedgerRuns", spec := "ledgerRuns", inPlace := ["maps.clone"], unfollowed := true, recurses := true, plainKeys := false, apart := false }
def LedgerRunsSaid : Prop := ledgerRunsRow.holds Tryz.pinned (OpenSpec.ofChange ledgerRunsSpec)

/-- ITS FALSE NEIGHBOUR: 'it returns false'. Refute it at one input. -/
def ledgerRunsWrong : ChangeSpec := { name := "ledgerRuns", fn := fun _ => fun
  | [d1, d2, d3] => { results := [.lit (.bool false)], args := [d1, d2, d3] }
  | _ => none }
def LedgerRunsWrongFalsely : Prop := ledgerRunsRow.holds Tryz.pinned (OpenSpec.ofChange ledgerRunsWrong)

/- THE SECOND FORM. 'bulk': how many values and letters a reading holds, each counted each time it is reached (what is shared counts as often as it is met; a slice's spare places count too). A statement '..UptoSaid' is the law's where the arguments, and the package variables that the reading takes, are together of bulk at most 1048576: NARROWER than '..Said'. Prove '..Said' where nothing that the law and all that it calls make is longer than what came in: it says more and counts as full. Else prove '..UptoSaid'. A law counts once. -/
mutual
def uptoBulk {H : Type} : DataW H → Nat
  | .lit (.string bytes) => bytes.length + 1
  | .lit _ => 1
  | .nil => 1
  | .ptr d => uptoBulk d + 1
  | .slice elems spare => uptoBulkAll elems + uptoBulkAll spare + 1
  | .agg parts => uptoBulkAll parts + 1
  | .iface _ d => uptoBulk d + 1
  | .map entries => uptoBulkEntries entries + 1
  | .held _ => 1
def uptoBulkAll {H : Type} : List (DataW H) → Nat
  | [] => 0
  | d :: r => uptoBulk d + uptoBulkAll r
def uptoBulkEntries {H : Type} : List (Lit × DataW H) → Nat
  | [] => 0
  | x :: r => uptoBulkEntry x + uptoBulkEntries r
def uptoBulkEntry {H : Type} : Lit × DataW H → Nat
  | (.string bytes, d) => bytes.length + uptoBulk d + 1
  | (_, d) => uptoBulk d + 1
 end
def uptoSmall : (H : Type) → List (DataW H) → Bool := fun _ ds => decide (uptoBulkAll ds ≤ 1048576)
def OpenSpec.upto (s : _root_.Go.ChangeSpec) : _root_.Go.OpenSpec := { _root_.Go.OpenSpec.ofChange s with cond := some uptoSmall }

/-- 'rivuletlaw11.ReachTells', WHERE WHAT IT READS IS OF BULK AT MOST 1048576: true; the input reads as it did. -/
def reachTellsUptoRow : OpenClaim := { program := "ythnojkbkojpadaagreat", sum := "e247f2740d24deb442dbaf9e07a102a42e80a1afb7320c3a6de134c59c5b93c9", func := "rivulet/rivuletlaw11.ReachTells", spec := "reachTells", unfollowed := true, recurses := true, plainKeys := false, apart := false, narrowed := true }
def ReachTellsUptoSaid : Prop := reachTellsUptoRow.holds Tryz.pinned (OpenSpec.upto reachTellsSpec)

/-- 'rivuletlaw11.ReachFrontiers', WHERE WHAT IT READS IS OF BULK AT MOST 1048576: true; the input reads as it did. -/
def reachFrontiersUptoRow : OpenClaim := { program := "ythnojkbkojpadaagreat", sum := "e247f2740d24deb442dbaf9e07a102a42e80a1afb7320c3a6de134c59c5b93c9", func := "rivulet/rivuletlaw11.ReachFrontiers", spec := "reachFrontiers", unfollowed := true, recurses := true, plainKeys := false, apart := false, narrowed := true }
def ReachFrontiersUptoSaid : Prop := reachFrontiersUptoRow.holds Tryz.pinned (OpenSpec.upto reachFrontiersSpec)

/-- 'rivuletlaw11.ReachCovers', WHERE WHAT IT READS IS OF BULK AT MOST 1048576: true; the input reads as it did. -/
def reachCoversUptoRow : OpenClaim := { program := "ythnojkbkojpadaagreat", sum := "e247f2740d24deb442dbaf9e07a102a42e80a1afb7320c3a6de134c59c5b93c9", func := "rivulet/rivuletlaw11.ReachCovers", spec := "reachCovers", unfollowed := true, recurses := true, plainKeys := false, apart := false, narrowed := true }
def ReachCoversUptoSaid : Prop := reachCoversUptoRow.holds Tryz.pinned (OpenSpec.upto reachCoversSpec)

/-- 'rivuletlaw15.LedgerNets', WHERE WHAT IT READS IS OF BULK AT MOST 1048576: true; the input reads as it did. -/
def ledgerNetsUptoRow : OpenClaim := { program := "ythnojkbkojpadaagreat", sum := "e247f2740d24deb442dbaf9e07a102a42e80a1afb7320c3a6de134c59c5b93c9", func := "rivulet/rivuletlaw15.LedgerNets", spec := "ledgerNets", unfollowed := true, recurses := true, plainKeys := false, apart := false, narrowed := true }
def LedgerNetsUptoSaid : Prop := ledgerNetsUptoRow.holds Tryz.pinned (OpenSpec.upto ledgerNetsSpec)

/-- 'rivuletlaw15.LedgerEmpty', WHERE WHAT IT READS IS OF BULK AT MOST 1048576: true; the input reads as it did. -/
def ledgerEmptyUptoRow : OpenClaim := { program := "ythnojkbkojpadaagreat", sum := "e247f2740d24deb442dbaf9e07a102a42e80a1afb7320c3a6de134c59c5b93c9", func := "rivulet/rivuletlaw15.LedgerEmpty", spec := "ledgerEmpty", unfollowed := true, recurses := true, plainKeys := false, apart := false, narrowed := true }
def LedgerEmptyUptoSaid : Prop := ledgerEmptyUptoRow.holds Tryz.pinned (OpenSpec.upto ledgerEmptySpec)

/-- 'rivuletlaw15.LedgerOrder', WHERE WHAT IT READS IS OF BULK AT MOST 1048576: true; the input reads as it did. -/
def ledgerOrderUptoRow : OpenClaim := { program := "ythnojkbkojpadaagreat", sum := "e247f2740d24deb442dbaf9e07a102a42e80a1afb7320c3a6de134c59c5b93c9", func := "rivulet/rivuletlaw15.LedgerOrder", spec := "ledgerOrder", unfollowed := true, recurses := true, plainKeys := false, apart := false, narrowed := true }
def LedgerOrderUptoSaid : Prop := ledgerOrderUptoRow.holds Tryz.pinned (OpenSpec.upto ledgerOrderSpec)

/-- 'rivuletlaw15.LedgerNone', WHERE WHAT IT READS IS OF BULK AT MOST 1048576: true; the input reads as it did. -/
def ledgerNoneUptoRow : OpenClaim := { program := "ythnojkbkojpadaagreat", sum := "e247f2740d24deb442dbaf9e07a102a42e80a1afb7320c3a6de134c59c5b93c9", func := "rivulet/rivuletlaw15.LedgerNone", spec := "ledgerNone", inPlace := ["maps.clone"], unfollowed := true, recurses := true, plainKeys := false, apart := false, narrowed := true }
def LedgerNoneUptoSaid : Prop := ledgerNoneUptoRow.holds Tryz.pinned (OpenSpec.upto ledgerNoneSpec)

/-- 'rivuletlaw15.LedgerRuns', WHERE WHAT IT READS IS OF BULK AT MOST 1048576: true; the input reads as it did. -/
def ledgerRunsUptoRow : OpenClaim := { program := "ythnojkbkojpadaagreat", sum := "e247f2740d24deb442dbaf9e07a102a42e80a1afb7320c3a6de134c59c5b93c9", func := "rivulet/rivuletlaw15.LedgerRuns", spec := "ledgerRuns", inPlace := ["maps.clone"], unfollowed := true, recurses := true, plainKeys := false, apart := false, narrowed := true }
def LedgerRunsUptoSaid : Prop := ledgerRunsUptoRow.holds Tryz.pinned (OpenSpec.upto ledgerRunsSpec)

end Rows
end Go.Proofs.YthnojkbkojpadaaGreat
