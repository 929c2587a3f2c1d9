/- The law SummOrder of chapter 2 is proved: for every input the function returns true, and its arguments read as they did. No condition. -/
import Derived.Test.YtapmlfklkfgmoaaZT11
import Derived.Test.YtapmlfklkfgmoaaZA16
import Derived.Test.YtapmlfklkfgmoaaZR5
set_option linter.unusedVariables false
namespace Go.Proofs.Ytapmlfklkfgmoaa
open Go.RowKit Go.Sx
theorem cond_false_of' {c : Bool} {x y : Bool} (h : c = false) : (bif c then x else y) = y := by rw [h]; rfl
theorem conj6 {a b c d e f : Bool} (h : conj ([a] ++ ([b] ++ ([c] ++ ([d] ++ ([e] ++ ([f] ++ []))) ++ []))) = true) : c = true ∧ d = true ∧ e = true ∧ f = true := by
  simp only [List.cons_append, List.nil_append, List.append_nil, conj, Bool.and_eq_true] at h
  exact ⟨h.2.2.1, h.2.2.2.1, h.2.2.2.2.1, h.2.2.2.2.2⟩
theorem cond_false_of2 (x : Int) (y : Bool) (h : ¬ x = 0) : (!true || (bif x == (0 : Int) then !y || false else false)) = false := by
  rw [show (x == (0 : Int)) = false by simpa using h]; rfl
theorem order_F_true (s u v : S) (t : T) : order_F s u v t = true := by
  unfold order_F
  rw [cond_false_of', cond_false_of']
  · cases hb : (adv_F s && ((applyF s t).snd == (0 : Int))) with
    | false =>
      simp only [Bool.and_eq_false_iff] at hb
      rcases hb with h | h
      · simp only [h, Bool.not_false, Bool.true_or]
      · have : ((applyF s t).snd != (0 : Int)) = true := by simpa [bne] using h
        simp only [this, Bool.true_or, Bool.or_true]
    | true =>
      simp only [Bool.and_eq_true, beq_iff_eq] at hb
      obtain ⟨h1, h2⟩ := adv_ok' hb.1 hb.2
      rw [hb.1, hb.2, h1]
      simp only [Bool.not_true, bne_self_eq_false, Bool.false_or, Bool.true_and, Bool.not_eq_true']
      cases hc : conj _ with
      | false => rfl
      | true =>
        exfalso
        obtain ⟨e0, e1, e2, e3⟩ := conj6 hc
        simp only [beq_iff_eq] at e0 e1 e2 e3
        apply h2
        simp only [T.l, ← e0, ← e1, ← e2, ← e3]
  · cases hb : (leqC s u && ((thenF s v).snd == (0 : Int) && ((thenF u v).snd == (0 : Int)))) with
    | false =>
      simp only [Bool.and_eq_false_iff] at hb
      rcases hb with h | h | h <;> simp only [h, Bool.false_and, Bool.and_false]
    | true =>
      simp only [Bool.and_eq_true, beq_iff_eq] at hb
      obtain ⟨h1, h2, h3⟩ := hb
      rw [leq_then h1 h2 h3]
      simp only [Bool.not_true, Bool.and_false]
  · have h2 : (leqC s u && (leqC u v && !leqC s v)) = false := by
      cases hb : (leqC s u && leqC u v) with
      | false =>
        simp only [Bool.and_eq_false_iff] at hb
        rcases hb with h | h <;> simp only [h, Bool.false_and, Bool.and_false]
      | true =>
        simp only [Bool.and_eq_true] at hb
        rw [leq_trans hb.1 hb.2]
        simp only [Bool.not_true, Bool.and_false]
    rw [h2]
    by_cases hc : check_F s = 0
    · rw [leq_refl ((check_iff s).1 hc)]
      simp
    · exact cond_false_of2 _ _ hc
theorem order_law : FnPure Try.prog 5 aLaw4 dBool (fun _ => true) (fun _ => []) := by
  have h := order_ok
  have e : (fun g : DA.T aLaw4 => order_F g.1 g.2.1 g.2.2.1 g.2.2.2) = fun _ => true := by
    funext g
    exact order_F_true ..
  rw [e] at h
  exact h
theorem summOrder_holds : Rows.SummOrderSaid := summOrder_over order_law
end Go.Proofs.Ytapmlfklkfgmoaa
