/- Chapter 2: the reference's Then, case by case of Keep and N. -/
import Derived.Test.YtapmlfklkfgmoaaZA4
set_option linter.unusedVariables false
namespace Go.Proofs.Ytapmlfklkfgmoaa
open Go.RowKit Go.Sx
set_option maxHeartbeats 4000000 in
theorem rthen_tree (a b : S) (k n k' n' : Nat) (h1 : k + n ≤ 4) (h2 : k' ≤ k + n) (h3 : k' + n' ≤ 4) : dTree Try.prog g3 noΛ 100 13 [encK a k n, encK b k' n'] dSE = rthenTr a b k n k' n' := by
  rcases four (show k ≤ 4 by omega) with rfl | rfl | rfl | rfl | rfl <;> rcases four (show n ≤ 4 by omega) with rfl | rfl | rfl | rfl | rfl <;> first
    | (exfalso; omega)
    | (rcases four (show k' ≤ 4 by omega) with rfl | rfl | rfl | rfl | rfl <;> first
        | (exfalso; omega)
        | (rcases four (show n' ≤ 4 by omega) with rfl | rfl | rfl | rfl | rfl <;> first
            | (exfalso; omega)
            | as_aux_lemma => kernel_rfl))
end Go.Proofs.Ytapmlfklkfgmoaa
