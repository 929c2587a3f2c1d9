/- The law SummKeeps of chapter 2 is proved: for every input the function returns true, and its arguments read as they did. No condition. -/
import Derived.Test.YtapmlfklkfgmoaaZT13
import Derived.Test.YtapmlfklkfgmoaaZA17
import Derived.Test.YtapmlfklkfgmoaaZR7
set_option linter.unusedVariables false
namespace Go.Proofs.Ytapmlfklkfgmoaa
open Go.RowKit Go.Sx
theorem cff {c : Bool} {x y : Bool} (h : c = false) : (bif c then x else y) = y := by rw [h]; rfl
theorem cor (c y : Bool) : (bif c then true else y) = (c || y) := by cases c <;> rfl
def keepsC (s u : S) (t v : T) : Bool :=
  bif !true || ((applyF s t).snd == (0 : Int) && ((applyF s v).snd == (0 : Int) && (rtleq_F t v && !rtleq_F (applyF s t).fst (applyF s v).fst))) then false
  else bif (applyF s t).snd == (0 : Int) && ((applyF u t).snd == (0 : Int) && (leqC s u && !rtleq_F (applyF s t).fst (applyF u t).fst)) then false
  else bif check_F s != (0 : Int) || (check_F u != (0 : Int) || (s.f != u.f || (ends_F s != ends_F u || leqC s u))) then true
  else bif decide ((-1 : Int) < s.f) && apart s u (v0 s t.e) then true
  else bif decide ((-1 : Int) < s.f) && (decide ((0 : Int) < s.f) && apart s u (vt s t.e 0)) then true
  else bif decide ((-1 : Int) < s.f) && (decide ((0 : Int) < s.f) && (decide ((1 : Int) < s.f) && apart s u (vt s t.e 1))) then true
  else bif decide ((-1 : Int) < s.f) && (decide ((0 : Int) < s.f) && (decide ((1 : Int) < s.f) && (decide ((2 : Int) < s.f) && apart s u (vt s t.e 2)))) then true
  else bif decide ((-1 : Int) < s.f) && (decide ((0 : Int) < s.f) && (decide ((1 : Int) < s.f) && (decide ((2 : Int) < s.f) && (decide ((3 : Int) < s.f) && apart s u (vt s t.e 3))))) then true
  else bif (decide ((-1 : Int) < s.f) && (decide ((0 : Int) < s.f) && (decide ((1 : Int) < s.f) && (decide ((2 : Int) < s.f) && (decide ((3 : Int) < s.f) && decide ((4 : Int) < s.f)))))) then default else false
theorem keepsC_eq (s u : S) (t v : T) (a : Int) : keeps_F s u t v a = keepsC s u t v := rfl
theorem keeps_F_true (s u : S) (t v : T) (a : Int) : keeps_F s u t v a = true := by
  rw [keepsC_eq]
  unfold keepsC
  rw [cff, cff]
  · cases hc : (check_F s != (0 : Int) || (check_F u != (0 : Int) || (s.f != u.f || (ends_F s != ends_F u || leqC s u)))) with
    | true => rfl
    | false =>
      simp only [Bool.or_eq_false_iff, bne_eq_false_iff_eq] at hc
      obtain ⟨hs, hu, hf, he, hl⟩ := hc
      have os := (check_iff s).1 hs
      have ou := (check_iff u).1 hu
      rw [ends_eq os, ends_eq ou] at he
      have hf1 := os.1
      rw [cond_false, decide_eq_true (p := (-1 : Int) < s.f) (by omega), cor, cor, cor, cor, cor]
      rcases tell os ou hf he (by rw [hl]; simp) t.e with h | ⟨j, hj, h⟩
      · rw [h]; simp
      · match j, hj, h with
        | 0, hj, h => rw [h, decide_eq_true (p := (0 : Int) < s.f) (by omega)]; simp
        | 1, hj, h => rw [h, decide_eq_true (p := (0 : Int) < s.f) (by omega), decide_eq_true (p := (1 : Int) < s.f) (by omega)]; simp
        | 2, hj, h => rw [h, decide_eq_true (p := (0 : Int) < s.f) (by omega), decide_eq_true (p := (1 : Int) < s.f) (by omega), decide_eq_true (p := (2 : Int) < s.f) (by omega)]; simp
        | 3, hj, h => rw [h, decide_eq_true (p := (0 : Int) < s.f) (by omega), decide_eq_true (p := (1 : Int) < s.f) (by omega), decide_eq_true (p := (2 : Int) < s.f) (by omega), decide_eq_true (p := (3 : Int) < s.f) (by omega)]; simp
        | j + 4, hj, h => omega
  · cases hb : ((applyF s t).snd == (0 : Int) && ((applyF u t).snd == (0 : Int) && leqC s u)) with
    | false =>
      simp only [Bool.and_eq_false_iff] at hb
      rcases hb with h | h | h <;> simp only [h, Bool.false_and, Bool.and_false]
    | true =>
      simp only [Bool.and_eq_true, beq_iff_eq] at hb
      obtain ⟨h1, h2, h3⟩ := hb
      rw [leq_apply h3 h1 h2]
      simp only [Bool.not_true, Bool.and_false]
  · cases hb : ((applyF s t).snd == (0 : Int) && ((applyF s v).snd == (0 : Int) && rtleq_F t v)) with
    | false =>
      simp only [Bool.and_eq_false_iff] at hb
      rcases hb with h | h | h <;> simp only [h, Bool.false_and, Bool.and_false, Bool.not_true, Bool.or_false]
    | true =>
      simp only [Bool.and_eq_true, beq_iff_eq] at hb
      obtain ⟨h1, h2, h3⟩ := hb
      obtain ⟨os, ot, _, b1, q1⟩ := applyF_zero h1
      obtain ⟨_, ov, _, b2, q2⟩ := applyF_zero h2
      have := made_mono os (made_ok os ot b1) (made_ok os ov b2) h3
      rw [q1, q2, this]
      simp only [Bool.not_true, Bool.and_false, Bool.or_false]
theorem keeps_law : FnPure Try.prog 7 aLaw7 dBool (fun _ => true) (fun _ => []) := by
  have h := keeps_okS (fun _ => []) (fun g _ _ => by
    obtain ⟨s, u, t, v, a⟩ := g
    show keeps_side s u t v a
    unfold keeps_side
    intro _ _ hc _ _ _ _ _ h4
    simp only [Bool.or_eq_false_iff, bne_eq_false_iff_eq] at hc
    have := ((check_iff s).1 hc.1).1
    simp only [Bool.and_eq_true, decide_eq_true_eq] at h4
    omega)
  have e : (fun g : DA.T aLaw7 => keeps_F g.1 g.2.1 g.2.2.1 g.2.2.2.1 g.2.2.2.2) = fun _ => true := by
    funext g
    exact keeps_F_true ..
  rw [e] at h
  exact h
theorem summKeeps_holds : Rows.SummKeepsSaid := summKeeps_over keeps_law
end Go.Proofs.Ytapmlfklkfgmoaa
