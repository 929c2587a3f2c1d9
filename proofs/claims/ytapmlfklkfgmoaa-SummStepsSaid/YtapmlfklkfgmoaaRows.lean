/-
  No cell of these rows narrows 'for every input' (looked for: loops, veiled, ifaces, maps, wideKeys, modest, calm, conditions, laid).
  DERIVED. THE GIVEN ROWS OF THIS SEAT. 6 by the template 'for every input the law returns true; each argument reads behind the call as it read before'; 0 by the template 'total and deterministic' (their statements: YtapmlfklkfgmoaaTotals.lean).
  GIVEN WITH THE SEED: the statements are not yours to turn. If you find one false, say at which input.
  Laid BY PROGRAM, IN A SANDBOX (cutbox-rows.mjs): the forced cells as the released guide's own fill.sh prints them over the translation 506c3cad7352367b… (all of the seat's roots in one cut). By AI agents, Wed Nov 11 2026. No macro, syntax, notation, axiom, sorry.
-/
import Derived.Test.YtapmlfklkfgmoaaChecked
import GoSem.Claim
import GoSem.ClaimJoined
import GoSem.ClaimMapViews
import Derived.JoinedTies
import Derived.KernelRfl
namespace Go.Proofs.Ytapmlfklkfgmoaa
/- THE CELL 'sum', in the pinned program and in every row, IS THE sha256 OF THE DUMP (.gsa) THAT YtapmlfklkfgmoaaProg.lean LOADS. Nothing in Lean hashes anything: it is a label: what it is worth is what the hold of that sum in a sandbox is worth. -/
noncomputable def Try.pinned : Pinned := { name := "ytapmlfklkfgmoaa", sum := "506c3cad7352367bed335f2e317e581aa220b8f17ac9cc7f8921bdb92ffa2bfe", checked := Try.checked }
namespace Rows
def none {H : Type} : Left H := { results := [], args := [] }

/-- 'rivuletlaw02.SummMakes': WHATEVER THE INPUT: true; the input reads as it did. -/
def summMakesSpec : ChangeSpec := { name := "summMakes", fn := fun _ => fun
  | [d1, d2, d3, d4, d5] => { results := [.lit (.bool true)], args := [d1, d2, d3, d4, d5] }
  | _ => none }
def summMakesRow : OpenClaim := { program := "ytapmlfklkfgmoaa", sum := "506c3cad7352367bed335f2e317e581aa220b8f17ac9cc7f8921bdb92ffa2bfe", func := "rivulet/rivuletlaw02.SummMakes", spec := "summMakes", apart := false }
def SummMakesSaid : Prop := summMakesRow.holds Try.pinned (OpenSpec.ofChange summMakesSpec)

/-- ITS FALSE NEIGHBOUR: 'it returns false'. Refute it at one input. -/
def summMakesWrong : ChangeSpec := { name := "summMakes", fn := fun _ => fun
  | [d1, d2, d3, d4, d5] => { results := [.lit (.bool false)], args := [d1, d2, d3, d4, d5] }
  | _ => none }
def SummMakesWrongFalsely : Prop := summMakesRow.holds Try.pinned (OpenSpec.ofChange summMakesWrong)

/-- 'rivuletlaw02.SummBehind': WHATEVER THE INPUT: true; the input reads as it did. -/
def summBehindSpec : ChangeSpec := { name := "summBehind", fn := fun _ => fun
  | [d1, d2, d3, d4] => { results := [.lit (.bool true)], args := [d1, d2, d3, d4] }
  | _ => none }
def summBehindRow : OpenClaim := { program := "ytapmlfklkfgmoaa", sum := "506c3cad7352367bed335f2e317e581aa220b8f17ac9cc7f8921bdb92ffa2bfe", func := "rivulet/rivuletlaw02.SummBehind", spec := "summBehind", apart := false }
def SummBehindSaid : Prop := summBehindRow.holds Try.pinned (OpenSpec.ofChange summBehindSpec)

/-- ITS FALSE NEIGHBOUR: 'it returns false'. Refute it at one input. -/
def summBehindWrong : ChangeSpec := { name := "summBehind", fn := fun _ => fun
  | [d1, d2, d3, d4] => { results := [.lit (.bool false)], args := [d1, d2, d3, d4] }
  | _ => none }
def SummBehindWrongFalsely : Prop := summBehindRow.holds Try.pinned (OpenSpec.ofChange summBehindWrong)

/-- 'rivuletlaw02.SummOrder': WHATEVER THE INPUT: true; the input reads as it did. -/
def summOrderSpec : ChangeSpec := { name := "summOrder", fn := fun _ => fun
  | [d1, d2, d3, d4] => { results := [.lit (.bool true)], args := [d1, d2, d3, d4] }
  | _ => none }
def summOrderRow : OpenClaim := { program := "ytapmlfklkfgmoaa", sum := "506c3cad7352367bed335f2e317e581aa220b8f17ac9cc7f8921bdb92ffa2bfe", func := "rivulet/rivuletlaw02.SummOrder", spec := "summOrder", unfollowed := true, recurses := true, apart := false }
def SummOrderSaid : Prop := summOrderRow.holds Try.pinned (OpenSpec.ofChange summOrderSpec)

/-- ITS FALSE NEIGHBOUR: 'it returns false'. Refute it at one input. -/
def summOrderWrong : ChangeSpec := { name := "summOrder", fn := fun _ => fun
  | [d1, d2, d3, d4] => { results := [.lit (.bool false)], args := [d1, d2, d3, d4] }
  | _ => none }
def SummOrderWrongFalsely : Prop := summOrderRow.holds Try.pinned (OpenSpec.ofChange summOrderWrong)

/-- 'rivuletlaw02.SummSteps': WHATEVER THE INPUT: true; the input reads as it did. -/
def summStepsSpec : ChangeSpec := { name := "summSteps", fn := fun _ => fun
  | [d1, d2, d3] => { results := [.lit (.bool true)], args := [d1, d2, d3] }
  | _ => none }
def summStepsRow : OpenClaim := { program := "ytapmlfklkfgmoaa", sum := "506c3cad7352367bed335f2e317e581aa220b8f17ac9cc7f8921bdb92ffa2bfe", func := "rivulet/rivuletlaw02.SummSteps", spec := "summSteps", unfollowed := true, recurses := true, apart := false }
def SummStepsSaid : Prop := summStepsRow.holds Try.pinned (OpenSpec.ofChange summStepsSpec)

/-- ITS FALSE NEIGHBOUR: 'it returns false'. Refute it at one input. -/
def summStepsWrong : ChangeSpec := { name := "summSteps", fn := fun _ => fun
  | [d1, d2, d3] => { results := [.lit (.bool false)], args := [d1, d2, d3] }
  | _ => none }
def SummStepsWrongFalsely : Prop := summStepsRow.holds Try.pinned (OpenSpec.ofChange summStepsWrong)

/-- 'rivuletlaw02.SummKeeps': WHATEVER THE INPUT: true; the input reads as it did. -/
def summKeepsSpec : ChangeSpec := { name := "summKeeps", fn := fun _ => fun
  | [d1, d2, d3, d4, d5] => { results := [.lit (.bool true)], args := [d1, d2, d3, d4, d5] }
  | _ => none }
def summKeepsRow : OpenClaim := { program := "ytapmlfklkfgmoaa", sum := "506c3cad7352367bed335f2e317e581aa220b8f17ac9cc7f8921bdb92ffa2bfe", func := "rivulet/rivuletlaw02.SummKeeps", spec := "summKeeps", unfollowed := true, recurses := true, apart := false }
def SummKeepsSaid : Prop := summKeepsRow.holds Try.pinned (OpenSpec.ofChange summKeepsSpec)

/-- ITS FALSE NEIGHBOUR: 'it returns false'. Refute it at one input. -/
def summKeepsWrong : ChangeSpec := { name := "summKeeps", fn := fun _ => fun
  | [d1, d2, d3, d4, d5] => { results := [.lit (.bool false)], args := [d1, d2, d3, d4, d5] }
  | _ => none }
def SummKeepsWrongFalsely : Prop := summKeepsRow.holds Try.pinned (OpenSpec.ofChange summKeepsWrong)

/-- 'rivuletlaw02.SummLeast': WHATEVER THE INPUT: true; the input reads as it did. -/
def summLeastSpec : ChangeSpec := { name := "summLeast", fn := fun _ => fun
  | [d1, d2, d3] => { results := [.lit (.bool true)], args := [d1, d2, d3] }
  | _ => none }
def summLeastRow : OpenClaim := { program := "ytapmlfklkfgmoaa", sum := "506c3cad7352367bed335f2e317e581aa220b8f17ac9cc7f8921bdb92ffa2bfe", func := "rivulet/rivuletlaw02.SummLeast", spec := "summLeast", unfollowed := true, recurses := true, apart := false }
def SummLeastSaid : Prop := summLeastRow.holds Try.pinned (OpenSpec.ofChange summLeastSpec)

/-- ITS FALSE NEIGHBOUR: 'it returns false'. Refute it at one input. -/
def summLeastWrong : ChangeSpec := { name := "summLeast", fn := fun _ => fun
  | [d1, d2, d3] => { results := [.lit (.bool false)], args := [d1, d2, d3] }
  | _ => none }
def SummLeastWrongFalsely : Prop := summLeastRow.holds Try.pinned (OpenSpec.ofChange summLeastWrong)

/- THE SECOND FORM. 'bulk': how many values and letters a reading holds, each counted each time it is reached (what is shared counts as often as it is met; a slice's spare places count too). A statement '..UptoSaid' is the law's where the arguments, and the package variables that the reading takes, are together of bulk at most 1048576: NARROWER than '..Said'. Prove '..Said' where nothing that the law and all that it calls make is longer than what came in: it says more and counts as full. Else prove '..UptoSaid'. A law counts once. -/
mutual
def uptoBulk {H : Type} : DataW H → Nat
  | .lit (.string bytes) => bytes.length + 1
  | .lit _ => 1
  | .nil => 1
  | .ptr d => uptoBulk d + 1
  | .slice elems spare => uptoBulkAll elems + uptoBulkAll spare + 1
  | .agg parts => uptoBulkAll parts + 1
  | .iface _ d => uptoBulk d + 1
  | .map entries => uptoBulkEntries entries + 1
  | .held _ => 1
def uptoBulkAll {H : Type} : List (DataW H) → Nat
  | [] => 0
  | d :: r => uptoBulk d + uptoBulkAll r
def uptoBulkEntries {H : Type} : List (Lit × DataW H) → Nat
  | [] => 0
  | x :: r => uptoBulkEntry x + uptoBulkEntries r
def uptoBulkEntry {H : Type} : Lit × DataW H → Nat
  | (.string bytes, d) => bytes.length + uptoBulk d + 1
  | (_, d) => uptoBulk d + 1
 end
def uptoSmall : (H : Type) → List (DataW H) → Bool := fun _ ds => decide (uptoBulkAll ds ≤ 1048576)
def OpenSpec.upto (s : _root_.Go.ChangeSpec) : _root_.Go.OpenSpec := { _root_.Go.OpenSpec.ofChange s with cond := some uptoSmall }

/-- 'rivuletlaw02.SummMakes', WHERE WHAT IT READS IS OF BULK AT MOST 1048576: true; the input reads as it did. -/
def summMakesUptoRow : OpenClaim := { program := "ytapmlfklkfgmoaa", sum := "506c3cad7352367bed335f2e317e581aa220b8f17ac9cc7f8921bdb92ffa2bfe", func := "rivulet/rivuletlaw02.SummMakes", spec := "summMakes", apart := false, narrowed := true }
def SummMakesUptoSaid : Prop := summMakesUptoRow.holds Try.pinned (OpenSpec.upto summMakesSpec)

/-- 'rivuletlaw02.SummBehind', WHERE WHAT IT READS IS OF BULK AT MOST 1048576: true; the input reads as it did. -/
def summBehindUptoRow : OpenClaim := { program := "ytapmlfklkfgmoaa", sum := "506c3cad7352367bed335f2e317e581aa220b8f17ac9cc7f8921bdb92ffa2bfe", func := "rivulet/rivuletlaw02.SummBehind", spec := "summBehind", apart := false, narrowed := true }
def SummBehindUptoSaid : Prop := summBehindUptoRow.holds Try.pinned (OpenSpec.upto summBehindSpec)

/-- 'rivuletlaw02.SummOrder', WHERE WHAT IT READS IS OF BULK AT MOST 1048576: true; the input reads as it did. -/
def summOrderUptoRow : OpenClaim := { program := "ytapmlfklkfgmoaa", sum := "506c3cad7352367bed335f2e317e581aa220b8f17ac9cc7f8921bdb92ffa2bfe", func := "rivulet/rivuletlaw02.SummOrder", spec := "summOrder", unfollowed := true, recurses := true, apart := false, narrowed := true }
def SummOrderUptoSaid : Prop := summOrderUptoRow.holds Try.pinned (OpenSpec.upto summOrderSpec)

/-- 'rivuletlaw02.SummSteps', WHERE WHAT IT READS IS OF BULK AT MOST 1048576: true; the input reads as it did. -/
def summStepsUptoRow : OpenClaim := { program := "ytapmlfklkfgmoaa", sum := "506c3cad7352367bed335f2e317e581aa220b8f17ac9cc7f8921bdb92ffa2bfe", func := "rivulet/rivuletlaw02.SummSteps", spec := "summSteps", unfollowed := true, recurses := true, apart := false, narrowed := true }
def SummStepsUptoSaid : Prop := summStepsUptoRow.holds Try.pinned (OpenSpec.upto summStepsSpec)

/-- 'rivuletlaw02.SummKeeps', WHERE WHAT IT READS IS OF BULK AT MOST 1048576: true; the input reads as it did. -/
def summKeepsUptoRow : OpenClaim := { program := "ytapmlfklkfgmoaa", sum := "506c3cad7352367bed335f2e317e581aa220b8f17ac9cc7f8921bdb92ffa2bfe", func := "rivulet/rivuletlaw02.SummKeeps", spec := "summKeeps", unfollowed := true, recurses := true, apart := false, narrowed := true }
def SummKeepsUptoSaid : Prop := summKeepsUptoRow.holds Try.pinned (OpenSpec.upto summKeepsSpec)

/-- 'rivuletlaw02.SummLeast', WHERE WHAT IT READS IS OF BULK AT MOST 1048576: true; the input reads as it did. -/
def summLeastUptoRow : OpenClaim := { program := "ytapmlfklkfgmoaa", sum := "506c3cad7352367bed335f2e317e581aa220b8f17ac9cc7f8921bdb92ffa2bfe", func := "rivulet/rivuletlaw02.SummLeast", spec := "summLeast", unfollowed := true, recurses := true, apart := false, narrowed := true }
def SummLeastUptoSaid : Prop := summLeastUptoRow.holds Try.pinned (OpenSpec.upto summLeastSpec)

end Rows
end Go.Proofs.Ytapmlfklkfgmoaa
