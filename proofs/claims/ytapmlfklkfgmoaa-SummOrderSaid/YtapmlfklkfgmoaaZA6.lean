/- Chapter 2: Apply: the contracts of both sides. -/
import Derived.Test.YtapmlfklkfgmoaaZA5
set_option linter.unusedVariables false
namespace Go.Proofs.Ytapmlfklkfgmoaa
open Go.RowKit Go.Sx
def applyC (k n : Nat) (s : S) (t : T) : T × Int :=
  match k with
  | 0 => (mkT t.e (n : Int) (s.p.take n), 0)
  | j + 1 => bif decide (t.l.getD j 0 + s.a > 1048576) then (zT, 12) else (mkT t.e ((j + 1 + n : Nat) : Int) ((t.l.take j ++ [t.l.getD j 0 + s.a]) ++ s.p.take n), 0)
def applyF (s : S) (t : T) : T × Int :=
  bif !may_F s then (zT, 20) else bif tcheck_F t != 0 then (zT, tcheck_F t) else bif t.d != s.f then (zT, 11) else applyC s.k.toNat s.n.toNat s t
theorem l_mem {t : T} (h : t.Ok) : ∀ x ∈ t.l, 0 ≤ x ∧ x ≤ 1048576 := by
  unfold T.Ok at h
  intro x hx
  simp only [T.l, List.mem_cons, List.not_mem_nil, or_false] at hx
  rcases hx with rfl | rfl | rfl | rfl <;> omega
theorem l_get {t : T} (h : t.Ok) (i : Nat) : 0 ≤ t.l.getD i 0 ∧ t.l.getD i 0 ≤ 1048576 := by
  by_cases hi : i < t.l.length
  · rw [List.getD_eq_getElem?_getD, List.getElem?_eq_getElem hi]
    exact l_mem h _ (List.getElem_mem hi)
  · rw [List.getD_eq_getElem?_getD, List.getElem?_eq_none (by omega)]
    simp
theorem len_l (t : T) : t.l.length = 4 := rfl
theorem okmt {e : Int} {d : Nat} {l : List Int} (hl : l.length = d) (hd : d ≤ 4) (he : 0 ≤ e ∧ e ≤ 1073741824) : (mkT e d l).Ok ↔ ∀ x ∈ l, 0 ≤ x ∧ x ≤ 1048576 := by
  subst hl
  match l, hd with
  | [], _ => simp [mkT, T.Ok]; omega
  | [x0], _ => simp [mkT, T.Ok]; omega
  | [x0, x1], _ => simp [mkT, T.Ok]; omega
  | [x0, x1, x2], _ => simp [mkT, T.Ok]; omega
  | [x0, x1, x2, x3], _ => simp [mkT, T.Ok]; omega
theorem tc_ne (t : T) : (tcheck_F t != 0) = !decide (tcheck_F t = 0) := by
  cases h : decide (tcheck_F t = 0) <;> simp_all
theorem applyF_core {s : S} {t : T} (hs : may_F s = true) (ht : tcheck_F t = 0) (he : t.d = s.f) : applyF s t = applyC s.k.toNat s.n.toNat s t := by
  unfold applyF
  rw [hs, ht, he]
  simp
theorem apply_ok : FnPure Try.prog 10 aST dTE (fun g => applyF g.1 g.2) (fun _ => []) := by
  refine pure_of_cases (Γ := g3) (Λ := noΛ) (tab3.okz [] []) noΛ_ok 100 fun g _ _ => ?_
  obtain ⟨s, t⟩ := g
  show ∃ args, (∀ n ρ x, SV.fits n ρ (aST.enc (s, t)) x → SV.fits n ρ args x) ∧ (dTree Try.prog g3 noΛ 100 10 args dTE).Holds (· = applyF s t)
  cases hs : may_F s with
  | false =>
    refine ⟨_, fun _ _ _ h => h, ?_⟩
    rw [apply_no, hs]
    generalize els (dTree Try.prog g3 noΛ 100 10 (aST.enc (s, t)) dTE) = r
    refine ⟨fun _ => ?_, fun hc => (by cases hc)⟩
    show (zT, (20 : Int)) = applyF s t
    unfold applyF; rw [hs]; rfl
  | true =>
    by_cases ht : tcheck_F t = 0
    · by_cases he : t.d = s.f
      · have os := (may_iff s).1 hs
        have ot := (tcheck_iff t).1 ht
        obtain ⟨ks, ns, h4⟩ := sizes os
        refine ⟨[encK s s.k.toNat s.n.toNat, dT.enc t], fun _ _ _ h => encKT_fit ks ns h, ?_⟩
        rw [apply_tree s t _ _ h4, applyF_core hs ht he]
        unfold applyTr
        rw [litS_eq ks ns, hs, ht, he]
        refine ⟨fun hc => (by cases hc), fun _ => ⟨fun hc => (by cases hc), fun _ => ⟨fun hc => (by simp at hc), fun _ => ?_⟩⟩⟩
        have ga := os.2.1
        generalize s.k.toNat = k at h4 ⊢
        cases k with
        | zero =>
          show (mkT t.e ((0 + s.n.toNat : Nat) : Int) (s.p.take s.n.toNat), (0 : Int)) = _
          rw [Nat.zero_add]; rfl
        | succ j =>
          have hl := l_get ot j
          have hw : w64 (t.l.getD j 0 + s.a) = t.l.getD j 0 + s.a := wr (by omega)
          simp only [applyC, applyL, hw]
          exact ⟨fun h => by rw [h]; rfl, fun h => by rw [h]; rfl⟩
      · refine ⟨_, fun _ _ _ h => h, ?_⟩
        rw [apply_no, hs]
        refine ⟨fun hc => (by cases hc), fun _ => ?_⟩
        rw [apply_no2, ht]
        refine ⟨fun hc => (by cases hc), fun _ => ?_⟩
        rw [apply_no3]
        generalize els (els (els (dTree Try.prog g3 noΛ 100 10 (aST.enc (s, t)) dTE))) = r
        refine ⟨fun _ => ?_, fun hc => absurd (bne_eq_false_iff_eq.1 hc) he⟩
        show (zT, (11 : Int)) = applyF s t
        unfold applyF; rw [hs, ht, show (t.d != s.f) = true by simpa using he]; rfl
    · refine ⟨_, fun _ _ _ h => h, ?_⟩
      rw [apply_no, hs]
      refine ⟨fun hc => (by cases hc), fun _ => ?_⟩
      rw [apply_no2]
      generalize els (els (dTree Try.prog g3 noΛ 100 10 (aST.enc (s, t)) dTE)) = r
      refine ⟨fun hc => ?_, fun hc => absurd (bne_eq_false_iff_eq.1 hc) ht⟩
      show (zT, tcheck_F t) = applyF s t
      unfold applyF; rw [hs, hc]; rfl
theorem rt_ne (t : T) : (rtcheck_F t != 0) = (tcheck_F t != 0) := rfl
theorem rapply_ok : FnPure Try.prog 11 aST dTE (fun g => applyF g.1 g.2) (fun _ => []) := by
  refine pure_of_cases (Γ := g3) (Λ := noΛ) (tab3.okz [] []) noΛ_ok 100 fun g _ _ => ?_
  obtain ⟨s, t⟩ := g
  show ∃ args, (∀ n ρ x, SV.fits n ρ (aST.enc (s, t)) x → SV.fits n ρ args x) ∧ (dTree Try.prog g3 noΛ 100 11 args dTE).Holds (· = applyF s t)
  cases hs : may_F s with
  | false =>
    refine ⟨_, fun _ _ _ h => h, ?_⟩
    rw [rapply_no, rc_ne, hs, rcheck_eq, hs]
    generalize els (dTree Try.prog g3 noΛ 100 11 (aST.enc (s, t)) dTE) = r
    refine ⟨fun _ => ?_, fun hc => (by cases hc)⟩
    show (zT, (20 : Int)) = applyF s t
    unfold applyF; rw [hs]; rfl
  | true =>
    by_cases ht : tcheck_F t = 0
    · by_cases he : t.d = s.f
      · have os := (may_iff s).1 hs
        have ot := (tcheck_iff t).1 ht
        obtain ⟨ks, ns, h4⟩ := sizes os
        refine ⟨[encK s s.k.toNat s.n.toNat, dT.enc t], fun _ _ _ h => encKT_fit ks ns h, ?_⟩
        rw [rapply_tree s t _ _ h4, applyF_core hs ht he]
        unfold rapplyTr
        rw [litS_eq ks ns, rc_ne, hs, rt_ne, ht, he]
        refine ⟨fun hc => (by cases hc), fun _ => ⟨fun hc => (by cases hc), fun _ => ⟨fun hc => (by simp at hc), fun _ => ?_⟩⟩⟩
        have ga := os.2.1
        have pm := p_mem os
        have lm := l_mem ot
        have te := ot.1
        generalize s.k.toNat = k at h4 ⊢
        rw [rt_ne, tc_ne]
        cases k with
        | zero =>
          rw [Nat.zero_add]
          have hok := okmt (e := t.e) (d := s.n.toNat) (l := applyL 0 s.n.toNat s t) (by simp only [applyL, List.length_take, len_p]; omega) (by omega) (by omega)
          rw [(tcheck_iff _).2 (hok.2 fun x hx => pm x (List.mem_of_mem_take hx))]
          exact ⟨fun h => (by simp at h), fun _ => rfl⟩
        | succ j =>
          have hl := l_get ot j
          have hw : w64 (t.l.getD j 0 + s.a) = t.l.getD j 0 + s.a := wr (by omega)
          have hok := okmt (e := t.e) (d := j + 1 + s.n.toNat) (l := applyL (j + 1) s.n.toNat s t) (by simp only [applyL, List.length_append, List.length_take, len_p, len_l, List.length_cons, List.length_nil]; omega) (by omega) (by omega)
          simp only [applyL, hw] at hok ⊢
          simp only [applyC]
          by_cases hx : t.l.getD j 0 + s.a > 1048576
          · have hno : ¬ tcheck_F (mkT t.e ((j + 1 + s.n.toNat : Nat) : Int) ((t.l.take j ++ [t.l.getD j 0 + s.a]) ++ s.p.take s.n.toNat)) = 0 := fun h => by
              have := hok.1 ((tcheck_iff _).1 h) _ (List.mem_append_left _ (List.mem_append_right _ (List.mem_singleton.2 rfl)))
              omega
            rw [decide_eq_false hno, decide_eq_true hx]
            exact ⟨fun _ => rfl, fun h => (by cases h)⟩
          · rw [(tcheck_iff _).2 (hok.2 fun x hx' => by
              rcases List.mem_append.1 hx' with h | h
              · rcases List.mem_append.1 h with h | h
                · exact lm x (List.mem_of_mem_take h)
                · rw [List.mem_singleton.1 h]; omega
              · exact pm x (List.mem_of_mem_take h)), decide_eq_false hx]
            exact ⟨fun h => (by simp at h), fun _ => rfl⟩
      · refine ⟨_, fun _ _ _ h => h, ?_⟩
        rw [rapply_no, rc_ne, hs]
        refine ⟨fun hc => (by cases hc), fun _ => ?_⟩
        rw [rapply_no2, rt_ne, ht]
        refine ⟨fun hc => (by cases hc), fun _ => ?_⟩
        rw [rapply_no3]
        generalize els (els (els (dTree Try.prog g3 noΛ 100 11 (aST.enc (s, t)) dTE))) = r
        refine ⟨fun _ => ?_, fun hc => absurd (bne_eq_false_iff_eq.1 hc) he⟩
        show (zT, (11 : Int)) = applyF s t
        unfold applyF; rw [hs, ht, show (t.d != s.f) = true by simpa using he]; rfl
    · refine ⟨_, fun _ _ _ h => h, ?_⟩
      rw [rapply_no, rc_ne, hs]
      refine ⟨fun hc => (by cases hc), fun _ => ?_⟩
      rw [rapply_no2, rt_ne]
      generalize els (els (dTree Try.prog g3 noΛ 100 11 (aST.enc (s, t)) dTE)) = r
      refine ⟨fun hc => ?_, fun hc => absurd (bne_eq_false_iff_eq.1 hc) ht⟩
      show (zT, rtcheck_F t) = applyF s t
      rw [rtcheck_eq]
      unfold applyF; rw [hs, hc]; rfl
/-- The contracts so far. -/
def tab4 : PTab Try.prog := (((tab3.cons 12 (pconP aSS dSE (fun g => thenF g.1 g.2) (fun _ => [])) (conP_ok then_ok puSE)).cons 13 (pconP aSS dSE (fun g => thenF g.1 g.2) (fun _ => [])) (conP_ok rthen_ok puSE)).cons 10 (pconP aST dTE (fun g => applyF g.1 g.2) (fun _ => [])) (conP_ok apply_ok puTE)).cons 11 (pconP aST dTE (fun g => applyF g.1 g.2) (fun _ => [])) (conP_ok rapply_ok puTE)
end Go.Proofs.Ytapmlfklkfgmoaa
