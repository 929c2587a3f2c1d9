/-
  No cell of these rows narrows 'for every input' (looked for: loops, veiled, ifaces, maps, wideKeys, modest, calm, conditions, laid).
  DERIVED. THE GIVEN ROWS OF THIS SEAT. 13 by the template 'for every input the law returns true; each argument reads behind the call as it read before'; 0 by the template 'total and deterministic' (their statements: YtiipneclghnfhaaTotals.lean).
  GIVEN WITH THE SEED: the statements are not yours to turn. If you find one false, say at which input.
  Laid BY PROGRAM, IN A SANDBOX (cutbox-rows.mjs): the forced cells as the released guide's own fill.sh prints them over the translation e5010c1bfa939f7b… (all of the seat's roots in one cut). By AI agents, Wed Nov 11 2026. No macro, syntax, notation, axiom, sorry.
-/
import Derived.Test.YtiipneclghnfhaaChecked
import GoSem.Claim
import GoSem.ClaimJoined
import GoSem.ClaimMapViews
import Derived.JoinedTies
import Derived.KernelRfl
namespace Go.Proofs.Ytiipneclghnfhaa
/- THE CELL 'sum', in the pinned program and in every row, IS THE sha256 OF THE DUMP (.gsa) THAT YtiipneclghnfhaaProg.lean LOADS. Nothing in Lean hashes anything: it is a label: what it is worth is what the hold of that sum in a sandbox is worth. -/
noncomputable def Try.pinned : Pinned := { name := "ytiipneclghnfhaa", sum := "e5010c1bfa939f7b9ad2e1144d5542ba37c5e24399a667af9884839980d2f419", checked := Try.checked }
namespace Rows
def none {H : Type} : Left H := { results := [], args := [] }

/-- 'rivuletlaw03.ChainLeast': WHATEVER THE INPUT: true; the input reads as it did. -/
def chainLeastSpec : ChangeSpec := { name := "chainLeast", fn := fun _ => fun
  | [d] => { results := [.lit (.bool true)], args := [d] }
  | _ => none }
def chainLeastRow : OpenClaim := { program := "ytiipneclghnfhaa", sum := "e5010c1bfa939f7b9ad2e1144d5542ba37c5e24399a667af9884839980d2f419", func := "rivulet/rivuletlaw03.ChainLeast", spec := "chainLeast", unfollowed := true, recurses := true, plainKeys := false, apart := false }
def ChainLeastSaid : Prop := chainLeastRow.holds Try.pinned (OpenSpec.ofChange chainLeastSpec)

/-- ITS FALSE NEIGHBOUR: 'it returns false'. Refute it at one input. -/
def chainLeastWrong : ChangeSpec := { name := "chainLeast", fn := fun _ => fun
  | [d] => { results := [.lit (.bool false)], args := [d] }
  | _ => none }
def ChainLeastWrongFalsely : Prop := chainLeastRow.holds Try.pinned (OpenSpec.ofChange chainLeastWrong)

/-- 'rivuletlaw03.ChainAgain': WHATEVER THE INPUT: true; the input reads as it did. -/
def chainAgainSpec : ChangeSpec := { name := "chainAgain", fn := fun _ => fun
  | [d1, d2, d3] => { results := [.lit (.bool true)], args := [d1, d2, d3] }
  | _ => none }
def chainAgainRow : OpenClaim := { program := "ytiipneclghnfhaa", sum := "e5010c1bfa939f7b9ad2e1144d5542ba37c5e24399a667af9884839980d2f419", func := "rivulet/rivuletlaw03.ChainAgain", spec := "chainAgain", unfollowed := true, recurses := true, plainKeys := false, apart := false }
def ChainAgainSaid : Prop := chainAgainRow.holds Try.pinned (OpenSpec.ofChange chainAgainSpec)

/-- ITS FALSE NEIGHBOUR: 'it returns false'. Refute it at one input. -/
def chainAgainWrong : ChangeSpec := { name := "chainAgain", fn := fun _ => fun
  | [d1, d2, d3] => { results := [.lit (.bool false)], args := [d1, d2, d3] }
  | _ => none }
def ChainAgainWrongFalsely : Prop := chainAgainRow.holds Try.pinned (OpenSpec.ofChange chainAgainWrong)

/-- 'rivuletlaw04.MultAny': WHATEVER THE INPUT: true; the input reads as it did. -/
def multAnySpec : ChangeSpec := { name := "multAny", fn := fun _ => fun
  | [d1, d2, d3] => { results := [.lit (.bool true)], args := [d1, d2, d3] }
  | _ => none }
def multAnyRow : OpenClaim := { program := "ytiipneclghnfhaa", sum := "e5010c1bfa939f7b9ad2e1144d5542ba37c5e24399a667af9884839980d2f419", func := "rivulet/rivuletlaw04.MultAny", spec := "multAny", unfollowed := true, recurses := true, plainKeys := false, apart := false }
def MultAnySaid : Prop := multAnyRow.holds Try.pinned (OpenSpec.ofChange multAnySpec)

/-- ITS FALSE NEIGHBOUR: 'it returns false'. Refute it at one input. -/
def multAnyWrong : ChangeSpec := { name := "multAny", fn := fun _ => fun
  | [d1, d2, d3] => { results := [.lit (.bool false)], args := [d1, d2, d3] }
  | _ => none }
def MultAnyWrongFalsely : Prop := multAnyRow.holds Try.pinned (OpenSpec.ofChange multAnyWrong)

/-- 'rivuletlaw03.ChainOf': WHATEVER THE INPUT: true; the input reads as it did. -/
def chainOfSpec : ChangeSpec := { name := "chainOf", fn := fun _ => fun
  | [d1, d2] => { results := [.lit (.bool true)], args := [d1, d2] }
  | _ => none }
def chainOfRow : OpenClaim := { program := "ytiipneclghnfhaa", sum := "e5010c1bfa939f7b9ad2e1144d5542ba37c5e24399a667af9884839980d2f419", func := "rivulet/rivuletlaw03.ChainOf", spec := "chainOf", unfollowed := true, recurses := true, plainKeys := false, apart := false }
def ChainOfSaid : Prop := chainOfRow.holds Try.pinned (OpenSpec.ofChange chainOfSpec)

/-- ITS FALSE NEIGHBOUR: 'it returns false'. Refute it at one input. -/
def chainOfWrong : ChangeSpec := { name := "chainOf", fn := fun _ => fun
  | [d1, d2] => { results := [.lit (.bool false)], args := [d1, d2] }
  | _ => none }
def ChainOfWrongFalsely : Prop := chainOfRow.holds Try.pinned (OpenSpec.ofChange chainOfWrong)

/-- 'rivuletlaw03.ChainThrough': WHATEVER THE INPUT: true; the input reads as it did. -/
def chainThroughSpec : ChangeSpec := { name := "chainThrough", fn := fun _ => fun
  | [d1, d2] => { results := [.lit (.bool true)], args := [d1, d2] }
  | _ => none }
def chainThroughRow : OpenClaim := { program := "ytiipneclghnfhaa", sum := "e5010c1bfa939f7b9ad2e1144d5542ba37c5e24399a667af9884839980d2f419", func := "rivulet/rivuletlaw03.ChainThrough", spec := "chainThrough", unfollowed := true, recurses := true, plainKeys := false, apart := false }
def ChainThroughSaid : Prop := chainThroughRow.holds Try.pinned (OpenSpec.ofChange chainThroughSpec)

/-- ITS FALSE NEIGHBOUR: 'it returns false'. Refute it at one input. -/
def chainThroughWrong : ChangeSpec := { name := "chainThrough", fn := fun _ => fun
  | [d1, d2] => { results := [.lit (.bool false)], args := [d1, d2] }
  | _ => none }
def ChainThroughWrongFalsely : Prop := chainThroughRow.holds Try.pinned (OpenSpec.ofChange chainThroughWrong)

/-- 'rivuletlaw04.MultTells': WHATEVER THE INPUT: true; the input reads as it did. -/
def multTellsSpec : ChangeSpec := { name := "multTells", fn := fun _ => fun
  | [d1, d2, d3] => { results := [.lit (.bool true)], args := [d1, d2, d3] }
  | _ => none }
def multTellsRow : OpenClaim := { program := "ytiipneclghnfhaa", sum := "e5010c1bfa939f7b9ad2e1144d5542ba37c5e24399a667af9884839980d2f419", func := "rivulet/rivuletlaw04.MultTells", spec := "multTells", unfollowed := true, recurses := true, plainKeys := false, apart := false }
def MultTellsSaid : Prop := multTellsRow.holds Try.pinned (OpenSpec.ofChange multTellsSpec)

/-- ITS FALSE NEIGHBOUR: 'it returns false'. Refute it at one input. -/
def multTellsWrong : ChangeSpec := { name := "multTells", fn := fun _ => fun
  | [d1, d2, d3] => { results := [.lit (.bool false)], args := [d1, d2, d3] }
  | _ => none }
def MultTellsWrongFalsely : Prop := multTellsRow.holds Try.pinned (OpenSpec.ofChange multTellsWrong)

/-- 'rivuletlaw03.ChainCovered': WHATEVER THE INPUT: true; the input reads as it did. -/
def chainCoveredSpec : ChangeSpec := { name := "chainCovered", fn := fun _ => fun
  | [d1, d2, d3] => { results := [.lit (.bool true)], args := [d1, d2, d3] }
  | _ => none }
def chainCoveredRow : OpenClaim := { program := "ytiipneclghnfhaa", sum := "e5010c1bfa939f7b9ad2e1144d5542ba37c5e24399a667af9884839980d2f419", func := "rivulet/rivuletlaw03.ChainCovered", spec := "chainCovered", unfollowed := true, recurses := true, plainKeys := false, apart := false }
def ChainCoveredSaid : Prop := chainCoveredRow.holds Try.pinned (OpenSpec.ofChange chainCoveredSpec)

/-- ITS FALSE NEIGHBOUR: 'it returns false'. Refute it at one input. -/
def chainCoveredWrong : ChangeSpec := { name := "chainCovered", fn := fun _ => fun
  | [d1, d2, d3] => { results := [.lit (.bool false)], args := [d1, d2, d3] }
  | _ => none }
def ChainCoveredWrongFalsely : Prop := chainCoveredRow.holds Try.pinned (OpenSpec.ofChange chainCoveredWrong)

/-- 'rivuletlaw03.ChainTwo': WHATEVER THE INPUT: true; the input reads as it did. -/
def chainTwoSpec : ChangeSpec := { name := "chainTwo", fn := fun _ => fun
  | [d1, d2, d3] => { results := [.lit (.bool true)], args := [d1, d2, d3] }
  | _ => none }
def chainTwoRow : OpenClaim := { program := "ytiipneclghnfhaa", sum := "e5010c1bfa939f7b9ad2e1144d5542ba37c5e24399a667af9884839980d2f419", func := "rivulet/rivuletlaw03.ChainTwo", spec := "chainTwo", unfollowed := true, recurses := true, plainKeys := false, apart := false }
def ChainTwoSaid : Prop := chainTwoRow.holds Try.pinned (OpenSpec.ofChange chainTwoSpec)

/-- ITS FALSE NEIGHBOUR: 'it returns false'. Refute it at one input. -/
def chainTwoWrong : ChangeSpec := { name := "chainTwo", fn := fun _ => fun
  | [d1, d2, d3] => { results := [.lit (.bool false)], args := [d1, d2, d3] }
  | _ => none }
def ChainTwoWrongFalsely : Prop := chainTwoRow.holds Try.pinned (OpenSpec.ofChange chainTwoWrong)

/-- 'rivuletlaw03.ChainOrder': WHATEVER THE INPUT: true; the input reads as it did. -/
def chainOrderSpec : ChangeSpec := { name := "chainOrder", fn := fun _ => fun
  | [d1, d2, d3] => { results := [.lit (.bool true)], args := [d1, d2, d3] }
  | _ => none }
def chainOrderRow : OpenClaim := { program := "ytiipneclghnfhaa", sum := "e5010c1bfa939f7b9ad2e1144d5542ba37c5e24399a667af9884839980d2f419", func := "rivulet/rivuletlaw03.ChainOrder", spec := "chainOrder", unfollowed := true, recurses := true, plainKeys := false, apart := false }
def ChainOrderSaid : Prop := chainOrderRow.holds Try.pinned (OpenSpec.ofChange chainOrderSpec)

/-- ITS FALSE NEIGHBOUR: 'it returns false'. Refute it at one input. -/
def chainOrderWrong : ChangeSpec := { name := "chainOrder", fn := fun _ => fun
  | [d1, d2, d3] => { results := [.lit (.bool false)], args := [d1, d2, d3] }
  | _ => none }
def ChainOrderWrongFalsely : Prop := chainOrderRow.holds Try.pinned (OpenSpec.ofChange chainOrderWrong)

/-- 'rivuletlaw04.MultFrontier': WHATEVER THE INPUT: true; the input reads as it did. -/
def multFrontierSpec : ChangeSpec := { name := "multFrontier", fn := fun _ => fun
  | [d1, d2] => { results := [.lit (.bool true)], args := [d1, d2] }
  | _ => none }
def multFrontierRow : OpenClaim := { program := "ytiipneclghnfhaa", sum := "e5010c1bfa939f7b9ad2e1144d5542ba37c5e24399a667af9884839980d2f419", func := "rivulet/rivuletlaw04.MultFrontier", spec := "multFrontier", unfollowed := true, recurses := true, plainKeys := false, apart := false }
def MultFrontierSaid : Prop := multFrontierRow.holds Try.pinned (OpenSpec.ofChange multFrontierSpec)

/-- ITS FALSE NEIGHBOUR: 'it returns false'. Refute it at one input. -/
def multFrontierWrong : ChangeSpec := { name := "multFrontier", fn := fun _ => fun
  | [d1, d2] => { results := [.lit (.bool false)], args := [d1, d2] }
  | _ => none }
def MultFrontierWrongFalsely : Prop := multFrontierRow.holds Try.pinned (OpenSpec.ofChange multFrontierWrong)

/-- 'rivuletlaw04.MultReckons': WHATEVER THE INPUT: true; the input reads as it did. -/
def multReckonsSpec : ChangeSpec := { name := "multReckons", fn := fun _ => fun
  | [d1, d2, d3] => { results := [.lit (.bool true)], args := [d1, d2, d3] }
  | _ => none }
def multReckonsRow : OpenClaim := { program := "ytiipneclghnfhaa", sum := "e5010c1bfa939f7b9ad2e1144d5542ba37c5e24399a667af9884839980d2f419", func := "rivulet/rivuletlaw04.MultReckons", spec := "multReckons", unfollowed := true, recurses := true, plainKeys := false, apart := false }
def MultReckonsSaid : Prop := multReckonsRow.holds Try.pinned (OpenSpec.ofChange multReckonsSpec)

/-- ITS FALSE NEIGHBOUR: 'it returns false'. Refute it at one input. -/
def multReckonsWrong : ChangeSpec := { name := "multReckons", fn := fun _ => fun
  | [d1, d2, d3] => { results := [.lit (.bool false)], args := [d1, d2, d3] }
  | _ => none }
def MultReckonsWrongFalsely : Prop := multReckonsRow.holds Try.pinned (OpenSpec.ofChange multReckonsWrong)

/-- 'rivuletlaw04.MultUndoes': WHATEVER THE INPUT: true; the input reads as it did. -/
def multUndoesSpec : ChangeSpec := { name := "multUndoes", fn := fun _ => fun
  | [d1, d2] => { results := [.lit (.bool true)], args := [d1, d2] }
  | _ => none }
def multUndoesRow : OpenClaim := { program := "ytiipneclghnfhaa", sum := "e5010c1bfa939f7b9ad2e1144d5542ba37c5e24399a667af9884839980d2f419", func := "rivulet/rivuletlaw04.MultUndoes", spec := "multUndoes", unfollowed := true, recurses := true, plainKeys := false, apart := false }
def MultUndoesSaid : Prop := multUndoesRow.holds Try.pinned (OpenSpec.ofChange multUndoesSpec)

/-- ITS FALSE NEIGHBOUR: 'it returns false'. Refute it at one input. -/
def multUndoesWrong : ChangeSpec := { name := "multUndoes", fn := fun _ => fun
  | [d1, d2] => { results := [.lit (.bool false)], args := [d1, d2] }
  | _ => none }
def MultUndoesWrongFalsely : Prop := multUndoesRow.holds Try.pinned (OpenSpec.ofChange multUndoesWrong)

/-- 'rivuletlaw04.MultAdds': WHATEVER THE INPUT: true; the input reads as it did. -/
def multAddsSpec : ChangeSpec := { name := "multAdds", fn := fun _ => fun
  | [d1, d2, d3] => { results := [.lit (.bool true)], args := [d1, d2, d3] }
  | _ => none }
def multAddsRow : OpenClaim := { program := "ytiipneclghnfhaa", sum := "e5010c1bfa939f7b9ad2e1144d5542ba37c5e24399a667af9884839980d2f419", func := "rivulet/rivuletlaw04.MultAdds", spec := "multAdds", unfollowed := true, recurses := true, plainKeys := false, apart := false }
def MultAddsSaid : Prop := multAddsRow.holds Try.pinned (OpenSpec.ofChange multAddsSpec)

/-- ITS FALSE NEIGHBOUR: 'it returns false'. Refute it at one input. -/
def multAddsWrong : ChangeSpec := { name := "multAdds", fn := fun _ => fun
  | [d1, d2, d3] => { results := [.lit (.bool false)], args := [d1, d2, d3] }
  | _ => none }
def MultAddsWrongFalsely : Prop := multAddsRow.holds Try.pinned (OpenSpec.ofChange multAddsWrong)

/- THE SECOND FORM. 'bulk': how many values and letters a reading holds, each counted each time it is reached (what is shared counts as often as it is met; a slice's spare places count too). A statement '..UptoSaid' is the law's where the arguments, and the package variables that the reading takes, are together of bulk at most 1048576: NARROWER than '..Said'. Prove '..Said' where nothing that the law and all that it calls make is longer than what came in: it says more and counts as full. Else prove '..UptoSaid'. A law counts once. -/
mutual
def uptoBulk {H : Type} : DataW H → Nat
  | .lit (.string bytes) => bytes.length + 1
  | .lit _ => 1
  | .nil => 1
  | .ptr d => uptoBulk d + 1
  | .slice elems spare => uptoBulkAll elems + uptoBulkAll spare + 1
  | .agg parts => uptoBulkAll parts + 1
  | .iface _ d => uptoBulk d + 1
  | .map entries => uptoBulkEntries entries + 1
  | .held _ => 1
def uptoBulkAll {H : Type} : List (DataW H) → Nat
  | [] => 0
  | d :: r => uptoBulk d + uptoBulkAll r
def uptoBulkEntries {H : Type} : List (Lit × DataW H) → Nat
  | [] => 0
  | x :: r => uptoBulkEntry x + uptoBulkEntries r
def uptoBulkEntry {H : Type} : Lit × DataW H → Nat
  | (.string bytes, d) => bytes.length + uptoBulk d + 1
  | (_, d) => uptoBulk d + 1
 end
def uptoSmall : (H : Type) → List (DataW H) → Bool := fun _ ds => decide (uptoBulkAll ds ≤ 1048576)
def OpenSpec.upto (s : _root_.Go.ChangeSpec) : _root_.Go.OpenSpec := { _root_.Go.OpenSpec.ofChange s with cond := some uptoSmall }

/-- 'rivuletlaw03.ChainLeast', WHERE WHAT IT READS IS OF BULK AT MOST 1048576: true; the input reads as it did. -/
def chainLeastUptoRow : OpenClaim := { program := "ytiipneclghnfhaa", sum := "e5010c1bfa939f7b9ad2e1144d5542ba37c5e24399a667af9884839980d2f419", func := "rivulet/rivuletlaw03.ChainLeast", spec := "chainLeast", unfollowed := true, recurses := true, plainKeys := false, apart := false, narrowed := true }
def ChainLeastUptoSaid : Prop := chainLeastUptoRow.holds Try.pinned (OpenSpec.upto chainLeastSpec)

/-- 'rivuletlaw03.ChainAgain', WHERE WHAT IT READS IS OF BULK AT MOST 1048576: true; the input reads as it did. -/
def chainAgainUptoRow : OpenClaim := { program := "ytiipneclghnfhaa", sum := "e5010c1bfa939f7b9ad2e1144d5542ba37c5e24399a667af9884839980d2f419", func := "rivulet/rivuletlaw03.ChainAgain", spec := "chainAgain", unfollowed := true, recurses := true, plainKeys := false, apart := false, narrowed := true }
def ChainAgainUptoSaid : Prop := chainAgainUptoRow.holds Try.pinned (OpenSpec.upto chainAgainSpec)

/-- 'rivuletlaw04.MultAny', WHERE WHAT IT READS IS OF BULK AT MOST 1048576: true; the input reads as it did. -/
def multAnyUptoRow : OpenClaim := { program := "ytiipneclghnfhaa", sum := "e5010c1bfa939f7b9ad2e1144d5542ba37c5e24399a667af9884839980d2f419", func := "rivulet/rivuletlaw04.MultAny", spec := "multAny", unfollowed := true, recurses := true, plainKeys := false, apart := false, narrowed := true }
def MultAnyUptoSaid : Prop := multAnyUptoRow.holds Try.pinned (OpenSpec.upto multAnySpec)

/-- 'rivuletlaw03.ChainOf', WHERE WHAT IT READS IS OF BULK AT MOST 1048576: true; the input reads as it did. -/
def chainOfUptoRow : OpenClaim := { program := "ytiipneclghnfhaa", sum := "e5010c1bfa939f7b9ad2e1144d5542ba37c5e24399a667af9884839980d2f419", func := "rivulet/rivuletlaw03.ChainOf", spec := "chainOf", unfollowed := true, recurses := true, plainKeys := false, apart := false, narrowed := true }
def ChainOfUptoSaid : Prop := chainOfUptoRow.holds Try.pinned (OpenSpec.upto chainOfSpec)

/-- 'rivuletlaw03.ChainThrough', WHERE WHAT IT READS IS OF BULK AT MOST 1048576: true; the input reads as it did. -/
def chainThroughUptoRow : OpenClaim := { program := "ytiipneclghnfhaa", sum := "e5010c1bfa939f7b9ad2e1144d5542ba37c5e24399a667af9884839980d2f419", func := "rivulet/rivuletlaw03.ChainThrough", spec := "chainThrough", unfollowed := true, recurses := true, plainKeys := false, apart := false, narrowed := true }
def ChainThroughUptoSaid : Prop := chainThroughUptoRow.holds Try.pinned (OpenSpec.upto chainThroughSpec)

/-- 'rivuletlaw04.MultTells', WHERE WHAT IT READS IS OF BULK AT MOST 1048576: true; the input reads as it did. -/
def multTellsUptoRow : OpenClaim := { program := "ytiipneclghnfhaa", sum := "e5010c1bfa939f7b9ad2e1144d5542ba37c5e24399a667af9884839980d2f419", func := "rivulet/rivuletlaw04.MultTells", spec := "multTells", unfollowed := true, recurses := true, plainKeys := false, apart := false, narrowed := true }
def MultTellsUptoSaid : Prop := multTellsUptoRow.holds Try.pinned (OpenSpec.upto multTellsSpec)

/-- 'rivuletlaw03.ChainCovered', WHERE WHAT IT READS IS OF BULK AT MOST 1048576: true; the input reads as it did. -/
def chainCoveredUptoRow : OpenClaim := { program := "ytiipneclghnfhaa", sum := "e5010c1bfa939f7b9ad2e1144d5542ba37c5e24399a667af9884839980d2f419", func := "rivulet/rivuletlaw03.ChainCovered", spec := "chainCovered", unfollowed := true, recurses := true, plainKeys := false, apart := false, narrowed := true }
def ChainCoveredUptoSaid : Prop := chainCoveredUptoRow.holds Try.pinned (OpenSpec.upto chainCoveredSpec)

/-- 'rivuletlaw03.ChainTwo', WHERE WHAT IT READS IS OF BULK AT MOST 1048576: true; the input reads as it did. -/
def chainTwoUptoRow : OpenClaim := { program := "ytiipneclghnfhaa", sum := "e5010c1bfa939f7b9ad2e1144d5542ba37c5e24399a667af9884839980d2f419", func := "rivulet/rivuletlaw03.ChainTwo", spec := "chainTwo", unfollowed := true, recurses := true, plainKeys := false, apart := false, narrowed := true }
def ChainTwoUptoSaid : Prop := chainTwoUptoRow.holds Try.pinned (OpenSpec.upto chainTwoSpec)

/-- 'rivuletlaw03.ChainOrder', WHERE WHAT IT READS IS OF BULK AT MOST 1048576: true; the input reads as it did. -/
def chainOrderUptoRow : OpenClaim := { program := "ytiipneclghnfhaa", sum := "e5010c1bfa939f7b9ad2e1144d5542ba37c5e24399a667af9884839980d2f419", func := "rivulet/rivuletlaw03.ChainOrder", spec := "chainOrder", unfollowed := true, recurses := true, plainKeys := false, apart := false, narrowed := true }
def ChainOrderUptoSaid : Prop := chainOrderUptoRow.holds Try.pinned (OpenSpec.upto chainOrderSpec)

/-- 'rivuletlaw04.MultFrontier', WHERE WHAT IT READS IS OF BULK AT MOST 1048576: true; the input reads as it did. -/
def multFrontierUptoRow : OpenClaim := { program := "ytiipneclghnfhaa", sum := "e5010c1bfa939f7b9ad2e1144d5542ba37c5e24399a667af9884839980d2f419", func := "rivulet/rivuletlaw04.MultFrontier", spec := "multFrontier", unfollowed := true, recurses := true, plainKeys := false, apart := false, narrowed := true }
def MultFrontierUptoSaid : Prop := multFrontierUptoRow.holds Try.pinned (OpenSpec.upto multFrontierSpec)

/-- 'rivuletlaw04.MultReckons', WHERE WHAT IT READS IS OF BULK AT MOST 1048576: true; the input reads as it did. -/
def multReckonsUptoRow : OpenClaim := { program := "ytiipneclghnfhaa", sum := "e5010c1bfa939f7b9ad2e1144d5542ba37c5e24399a667af9884839980d2f419", func := "rivulet/rivuletlaw04.MultReckons", spec := "multReckons", unfollowed := true, recurses := true, plainKeys := false, apart := false, narrowed := true }
def MultReckonsUptoSaid : Prop := multReckonsUptoRow.holds Try.pinned (OpenSpec.upto multReckonsSpec)

/-- 'rivuletlaw04.MultUndoes', WHERE WHAT IT READS IS OF BULK AT MOST 1048576: true; the input reads as it did. -/
def multUndoesUptoRow : OpenClaim := { program := "ytiipneclghnfhaa", sum := "e5010c1bfa939f7b9ad2e1144d5542ba37c5e24399a667af9884839980d2f419", func := "rivulet/rivuletlaw04.MultUndoes", spec := "multUndoes", unfollowed := true, recurses := true, plainKeys := false, apart := false, narrowed := true }
def MultUndoesUptoSaid : Prop := multUndoesUptoRow.holds Try.pinned (OpenSpec.upto multUndoesSpec)

/-- 'rivuletlaw04.MultAdds', WHERE WHAT IT READS IS OF BULK AT MOST 1048576: true; the input reads as it did. -/
def multAddsUptoRow : OpenClaim := { program := "ytiipneclghnfhaa", sum := "e5010c1bfa939f7b9ad2e1144d5542ba37c5e24399a667af9884839980d2f419", func := "rivulet/rivuletlaw04.MultAdds", spec := "multAdds", unfollowed := true, recurses := true, plainKeys := false, apart := false, narrowed := true }
def MultAddsUptoSaid : Prop := multAddsUptoRow.holds Try.pinned (OpenSpec.upto multAddsSpec)

end Rows
end Go.Proofs.Ytiipneclghnfhaa
