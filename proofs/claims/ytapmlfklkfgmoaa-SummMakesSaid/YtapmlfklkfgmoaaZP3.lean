/- The law SummMakes of chapter 2 is proved: for every input the function returns true, and its arguments read as they did. No condition. -/
import Derived.Test.YtapmlfklkfgmoaaZT10
import Derived.Test.YtapmlfklkfgmoaaZR3
set_option linter.unusedVariables false
namespace Go.Proofs.Ytapmlfklkfgmoaa
open Go.RowKit Go.Sx
theorem makes_F_true (s u : S) (t : T) (d : Int) (l : List S) : makes_F s u t d l = true := by
  unfold makes_F
  simp only [BEq.rfl, List.cons_append, List.nil_append, List.append_nil, Bool.true_and, Bool.and_true]
  rfl
theorem makes_law : FnPure Try.prog 3 aLaw1 dBool (fun _ => true) (fun _ => []) := by
  have h := makes_okS (fun _ => []) (fun g _ _ => ⟨fun e _ => eS.ok_els _ e, fun e _ => eS.ok_els _ e, fun e _ => eS.ok_els _ e⟩)
  have e : (fun g : DA.T aLaw1 => makes_F g.1 g.2.1 g.2.2.1 g.2.2.2.1 g.2.2.2.2) = fun _ => true := by
    funext g
    exact makes_F_true ..
  rw [e] at h
  exact h
theorem summMakes_holds : Rows.SummMakesSaid := makes_over makes_law
end Go.Proofs.Ytapmlfklkfgmoaa
