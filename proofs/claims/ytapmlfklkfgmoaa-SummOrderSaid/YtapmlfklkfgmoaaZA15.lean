/- Chapter 2: Apply and Leq upon lists of counters; the laws SummBehind and SummOrder in plain words. -/
import Derived.Test.YtapmlfklkfgmoaaZA14
set_option linter.unusedVariables false
namespace Go.Proofs.Ytapmlfklkfgmoaa
open Go.RowKit Go.Sx
theorem mkT_l {e d : Int} {L : List Int} (h : L.length ≤ 4) : (mkT e d L).l = L ++ List.replicate (4 - L.length) 0 := by
  match L, h with
  | [], _ => rfl
  | [_], _ => rfl
  | [_, _], _ => rfl
  | [_, _, _], _ => rfl
  | [_, _, _, _], _ => rfl
theorem G_pad {α : Type} (A : Ac α) (r : Rep) (L Z : List α) (h : r.1 ≤ L.length) : G A r (L ++ Z) = G A r L := by
  unfold G
  rw [List.take_append_of_le_length h]
theorem G_length {α : Type} (A : Ac α) (r : Rep) (L : List α) (h : r.1 ≤ L.length) : (G A r L).length = r.1 + r.2.2.length := by
  unfold G
  rw [List.length_append, inc_length, List.length_take, List.length_map, Nat.min_eq_left h]
def BdL (l : List Int) : Prop := ∀ x ∈ l, x ≤ 1048576
def made (s : S) (t : T) : T := mkT t.e (s.k + s.n) (G acI s.rep t.l)
theorem applyF_eq {s : S} {t : T} (hs : s.Ok) (ht : t.Ok) (he : t.d = s.f) : (BdL (G acI s.rep t.l) → applyF s t = (made s t, 0)) ∧ (¬ BdL (G acI s.rep t.l) → applyF s t = (zT, 12)) := by
  rw [applyF_core ((may_iff s).2 hs) ((tcheck_iff t).2 ht) he]
  obtain ⟨ks, ns, h4⟩ := sizes hs
  have ga := hs.2.1
  have pm := p_mem hs
  have lm := l_mem ht
  unfold made
  have e0 : s.k + s.n = ((s.k.toNat + s.n.toNat : Nat) : Int) := by omega
  rw [e0]
  have eG : G acI s.rep t.l = inc acI s.a (t.l.take s.k.toNat) ++ s.p.take s.n.toNat := by
    unfold G; simp only [S.rep]; congr 1; exact List.map_id _
  rw [eG]
  generalize s.k.toNat = k at h4 ⊢
  cases k with
  | zero =>
    simp only [applyC, List.take_zero, inc, List.nil_append, Nat.zero_add]
    refine ⟨fun _ => trivial, fun h => absurd (fun x hx => (pm x (List.mem_of_mem_take hx)).2) h⟩
  | succ j =>
    rw [inc_take acI s.a 0 (by rw [len_l]; omega)]
    simp only [applyC]
    show (BdL ((t.l.take j ++ [t.l.getD j 0 + s.a]) ++ s.p.take s.n.toNat) → _) ∧ (¬ BdL ((t.l.take j ++ [t.l.getD j 0 + s.a]) ++ s.p.take s.n.toNat) → _)
    refine ⟨fun h => ?_, fun h => ?_⟩
    · have := h _ (List.mem_append_left _ (List.mem_append_right _ (List.mem_singleton.2 rfl)))
      rw [decide_eq_false (by omega)]; rfl
    · suffices hx : t.l.getD j 0 + s.a > 1048576 by simp only [decide_eq_true hx, cond_true]
      apply Classical.byContradiction
      intro hn
      refine h fun x hx => ?_
      rcases List.mem_append.1 hx with hx | hx
      · rcases List.mem_append.1 hx with hx | hx
        · exact (lm x (List.mem_of_mem_take hx)).2
        · rw [List.mem_singleton.1 hx]; omega
      · exact (pm x (List.mem_of_mem_take hx)).2
theorem applyF_zero {s : S} {t : T} (h : (applyF s t).2 = 0) : s.Ok ∧ t.Ok ∧ t.d = s.f ∧ BdL (G acI s.rep t.l) ∧ applyF s t = (made s t, 0) := by
  by_cases hs : s.Ok
  · by_cases ht : t.Ok
    · by_cases he : t.d = s.f
      · obtain ⟨h1, h2⟩ := applyF_eq hs ht he
        by_cases hB : BdL (G acI s.rep t.l)
        · exact ⟨hs, ht, he, hB, h1 hB⟩
        · rw [h2 hB] at h; cases h
      · unfold applyF at h
        rw [(may_iff s).2 hs, (tcheck_iff t).2 ht, show (t.d != s.f) = true by simpa using he] at h
        cases h
    · unfold applyF at h
      have hne : tcheck_F t ≠ 0 := fun h => ht ((tcheck_iff t).1 h)
      rw [(may_iff s).2 hs, show (tcheck_F t != 0) = true by simpa using hne] at h
      exact absurd h hne
  · unfold applyF at h
    rw [may_false hs] at h
    cases h
theorem rep_len {s : S} (hs : s.Ok) : ((s.rep.1 : Int) + s.rep.2.2.length) = s.k + s.n := by
  obtain ⟨_, _, l⟩ := rep_ok hs
  have := hs.1
  rw [l]; simp only [S.rep]; omega
theorem rep4 {s : S} (hs : s.Ok) : s.rep.1 ≤ 4 := by
  have := (rep_ok hs).1.kf
  have := (rep_ok hs).1.f4
  omega
theorem made_ok {s : S} {t : T} (hs : s.Ok) (ht : t.Ok) (hB : BdL (G acI s.rep t.l)) : (made s t).Ok := by
  have hl := G_length acI s.rep t.l (by rw [len_l]; exact rep4 hs)
  have h3 := (rep_ok hs).1.len
  have := rep_len hs
  have h := (okmt (e := t.e) (d := s.rep.1 + s.rep.2.2.length) (l := G acI s.rep t.l) hl h3 ⟨ht.1.1, ht.1.2.1⟩).2
  unfold made
  rw [show s.k + s.n = ((s.rep.1 + s.rep.2.2.length : Nat) : Int) by omega]
  refine h fun x hx => ⟨?_, hB x hx⟩
  unfold G at hx
  rcases List.mem_append.1 hx with hx | hx
  · have hk : s.rep.1 ≤ 4 := rep4 hs
    have ga := hs.2.1
    simp only [S.rep] at hx hk
    cases hk' : s.k.toNat with
    | zero => rw [hk'] at hx; simp [inc] at hx
    | succ j =>
      rw [hk', inc_take acI s.a 0 (by rw [len_l]; omega)] at hx
      rcases List.mem_append.1 hx with hx | hx
      · exact (l_mem ht x (List.mem_of_mem_take hx)).1
      · rw [List.mem_singleton.1 hx]
        have := l_get ht j
        show 0 ≤ t.l.getD j 0 + s.a
        omega
  · obtain ⟨y, hy, rfl⟩ := List.mem_map.1 hx
    exact (rep_ok hs).1.p0 y hy
theorem id_eq {d : Int} (h : 0 ≤ d ∧ d ≤ 4) : id_F d = (⟨d, d, 0, 0, 0, 0, 0, 0⟩, 0) := by
  unfold id_F
  rw [show (decide (d < 0) || decide (d > 4)) = false by simp; omega]; rfl
theorem idS_ok {d : Int} (h : 0 ≤ d ∧ d ≤ 4) : S.Ok ⟨d, d, 0, 0, 0, 0, 0, 0⟩ := by unfold S.Ok; simp; omega
theorem check_iff (s : S) : check_F s = 0 ↔ s.Ok := by
  unfold check_F
  by_cases h : s.Ok
  · rw [(may_iff s).2 h]; simp [h]
  · rw [may_false h]; simp [h]
theorem ends_eq {s : S} (h : s.Ok) : ends_F s = s.k + s.n := by
  unfold ends_F
  rw [(may_iff s).2 h]
  have := h.1
  exact wr (by omega)
/-! ### one behind the other -/
theorem behind_apply {a b : S} {t : T} (h1 : (applyF a t).2 = 0) (h2 : (applyF b (applyF a t).1).2 = 0) (h3 : (thenF a b).2 = 0) : applyF (thenF a b).1 t = ((applyF b (applyF a t).1).1, 0) := by
  obtain ⟨oa, ot, e1, b1, q1⟩ := applyF_zero h1
  rw [q1] at h2 ⊢
  obtain ⟨ob, ox, e2, b2, q2⟩ := applyF_zero h2
  obtain ⟨_, _, e3, b3, q3⟩ := thenF_zero h3
  rw [q2, q3]
  obtain ⟨rc, hk⟩ := comp_rel oa ob e3
  have os : (mk a.f (comp a.rep b.rep)).Ok := (ok_mk rc).2 b3
  have hl := G_length acI a.rep t.l (by rw [len_l]; exact rep4 oa)
  have h4 := (rep_ok oa).1.len
  have eG : G acI (mk a.f (comp a.rep b.rep)).rep t.l = G acI b.rep (made a t).l := by
    rw [rep_mk rc, G_comp acI _ _ _ (by rw [len_l]; exact rep4 oa) hk]
    unfold made
    rw [mkT_l (by omega), G_pad]
    omega
  have h := (applyF_eq os ot e1).1 (by rw [eG]; exact b2)
  rw [h]
  simp only [Prod.mk.injEq, and_true]
  show mkT t.e _ (G acI (mk a.f (comp a.rep b.rep)).rep t.l) = mkT t.e _ _
  rw [eG]
  congr 1
  have hc := comp_len hk
  have := rep_len ob
  simp only [mk_k, mk_n]
  omega
theorem id_then {a : S} (oa : a.Ok) : thenF (id_F a.f).1 a = (a, 0) := by
  have hf := oa.1
  rw [id_eq (by omega)]
  have oi := idS_ok (d := a.f) (by omega)
  obtain ⟨ra, ba, la⟩ := rep_ok oa
  have ec : comp (S.rep ⟨a.f, a.f, 0, 0, 0, 0, 0, 0⟩) a.rep = a.rep := by
    by_cases h : a.k.toNat = a.f.toNat
    · refine (if_pos h).trans ?_
      show (a.f.toNat, 0 + a.a, a.p.take a.n.toNat) = (a.k.toNat, a.a, a.p.take a.n.toNat)
      rw [h, Int.zero_add]
    · refine (if_neg h).trans (if_neg ?_)
      show ¬ a.f.toNat < a.k.toNat
      omega
  have h := (thenF_eq oi oa (by show a.f + 0 = a.f; omega)).1 (by rw [ec]; exact ba)
  rw [ec] at h
  rw [h]
  exact congrArg (·, (0 : Int)) (mk_rep oa)
theorem then_id {a : S} (oa : a.Ok) : thenF a (id_F (ends_F a)).1 = (a, 0) := by
  have hf := oa.1
  rw [ends_eq oa, id_eq (by omega)]
  have oi := idS_ok (d := a.k + a.n) (by omega)
  obtain ⟨ra, ba, la⟩ := rep_ok oa
  have ec : comp a.rep (S.rep ⟨a.k + a.n, a.k + a.n, 0, 0, 0, 0, 0, 0⟩) = a.rep := by
    have hl := rep_len oa
    unfold comp
    have e1 : (S.rep ⟨a.k + a.n, a.k + a.n, 0, 0, 0, 0, 0, 0⟩).1 = a.rep.1 + a.rep.2.2.length := by
      show (a.k + a.n).toNat = _
      omega
    have e2 : (S.rep ⟨a.k + a.n, a.k + a.n, 0, 0, 0, 0, 0, 0⟩).2 = (0, []) := by
      show ((0 : Int), List.take (0 : Int).toNat _) = _
      simp
    rw [e1, e2]
    split
    · rename_i h
      have : a.rep.2.2 = [] := List.length_eq_zero_iff.1 (by omega)
      simp only [Int.add_zero, ← this]
    · rw [if_pos (by omega)]
      simp only [List.append_nil, inc_zero, Nat.add_sub_cancel_left, List.take_length]
  have h := (thenF_eq oa oi (by show a.k + a.n = a.k + a.n; rfl)).1 (by rw [ec]; exact ba)
  rw [ec, mk_rep oa] at h
  exact h
end Go.Proofs.Ytapmlfklkfgmoaa
