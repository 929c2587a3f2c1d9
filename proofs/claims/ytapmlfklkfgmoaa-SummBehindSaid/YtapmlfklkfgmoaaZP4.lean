/- The law SummBehind of chapter 2 is proved: for every input the function returns true, and its arguments read as they did. No condition. -/
import Derived.Test.YtapmlfklkfgmoaaZT11
import Derived.Test.YtapmlfklkfgmoaaZA16
import Derived.Test.YtapmlfklkfgmoaaZR4
set_option linter.unusedVariables false
namespace Go.Proofs.Ytapmlfklkfgmoaa
open Go.RowKit Go.Sx
theorem conj_true {l : List Bool} (h : ∀ b ∈ l, b = true) : conj l = true := by
  induction l with
  | nil => rfl
  | cons b r ih => rw [conj_cons, h b (List.mem_cons_self ..), ih fun x hx => h x (List.mem_cons_of_mem _ hx)]; rfl
theorem cond_false_of {c : Bool} {x y : Bool} (h : c = false) : (bif c then x else y) = y := by rw [h]; rfl
theorem behind_F_true (s u v : S) (t : T) : behind_F s u v t = true := by
  unfold behind_F
  rw [cond_false_of (by rfl), cond_false_of, cond_false_of]
  · by_cases hc : check_F s = 0
    · have os := (check_iff s).1 hc
      have hf := os.1
      have i1 := id_then os
      have i2 := then_id os
      rw [hc, i1, i2, ends_eq os, id_eq (d := s.f) (by omega), id_eq (d := s.k + s.n) (by omega)]
      simp only [BEq.rfl, List.cons_append, List.nil_append, List.append_nil, Bool.true_and, Bool.and_true]
      rfl
    · rw [show (check_F s != 0) = true by simpa using hc]; rfl
  · cases hb : ((thenF s u).snd == (0 : Int) && ((thenF u v).snd == (0 : Int) && ((thenF (thenF s u).fst v).snd == (0 : Int) && ((thenF s (thenF u v).fst).snd == (0 : Int))))) with
    | false =>
      simp only [Bool.and_eq_false_iff] at hb
      rcases hb with h | h | h | h <;> simp only [h, Bool.false_and, Bool.and_false]
    | true =>
      simp only [Bool.and_eq_true, beq_iff_eq] at hb
      obtain ⟨h1, h2, h3, h4⟩ := hb
      rw [then_assoc h1 h2 h3 h4]
      simp only [BEq.rfl, List.cons_append, List.nil_append, List.append_nil, Bool.true_and, Bool.and_true]
      simp only [conj, Bool.and_self, Bool.not_true, Bool.and_false]
  · cases hb : ((applyF s t).snd == (0 : Int) && ((applyF u (applyF s t).fst).snd == (0 : Int) && ((thenF s u).snd == (0 : Int)))) with
    | false =>
      simp only [Bool.and_eq_false_iff] at hb
      rcases hb with h | h | h <;> simp only [h, Bool.false_and, Bool.and_false]
    | true =>
      simp only [Bool.and_eq_true, beq_iff_eq] at hb
      obtain ⟨h1, h2, h3⟩ := hb
      rw [behind_apply h1 h2 h3]
      simp only [BEq.rfl, List.cons_append, List.nil_append, List.append_nil, Bool.true_and, Bool.and_true]
      simp only [conj, Bool.and_self, Bool.not_true, bne_self_eq_false, Bool.or_self, Bool.and_false]
theorem behind_law : FnPure Try.prog 4 aLaw4 dBool (fun _ => true) (fun _ => []) := by
  have h := behind_ok
  have e : (fun g : DA.T aLaw4 => behind_F g.1 g.2.1 g.2.2.1 g.2.2.2) = fun _ => true := by
    funext g
    exact behind_F_true ..
  rw [e] at h
  exact h
theorem summBehind_holds : Rows.SummBehindSaid := summBehind_over behind_law
end Go.Proofs.Ytapmlfklkfgmoaa
