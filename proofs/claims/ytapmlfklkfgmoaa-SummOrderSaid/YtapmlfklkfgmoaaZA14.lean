/- Chapter 2: summaries as what they do to lists of counters: Then is composition. -/
import Derived.Test.YtapmlfklkfgmoaaZA13
set_option linter.unusedVariables false
namespace Go.Proofs.Ytapmlfklkfgmoaa
open Go.RowKit Go.Sx
/-- Things to which a number can be added, and numbers among them. -/
structure Ac (α : Type) where
  add : α → Int → α
  c : Int → α
  h0 : ∀ x, add x 0 = x
  ha : ∀ x a b, add (add x a) b = add x (a + b)
  hc : ∀ x a, add (c x) a = c (x + a)
def acI : Ac Int := ⟨(· + ·), id, fun x => Int.add_zero x, fun x a b => Int.add_assoc x a b, fun _ _ => rfl⟩
def acC : Ac C := ⟨fun x a => (x.1, x.2 + a), fun n => (false, n), fun x => by simp, fun x a b => by simp [Int.add_assoc], fun _ _ => rfl⟩
section
variable {α : Type} (A : Ac α)
/-- The last one more. -/
def inc (a : Int) : List α → List α
  | [] => []
  | [x] => [A.add x a]
  | x :: y :: r => x :: inc a (y :: r)
theorem inc_length (a : Int) : ∀ l : List α, (inc A a l).length = l.length
  | [] => rfl
  | [_] => rfl
  | x :: y :: r => by simp only [inc, List.length_cons, inc_length a (y :: r)]
theorem inc_snoc (a : Int) (x : α) : ∀ l : List α, inc A a (l ++ [x]) = l ++ [A.add x a]
  | [] => rfl
  | [_] => rfl
  | y :: z :: r => by
    have := inc_snoc a x (z :: r)
    simp only [List.cons_append] at this ⊢
    simp only [inc, this]
theorem snoc_of {l : List α} (h : l ≠ []) : ∃ i x, l = i ++ [x] := ⟨l.dropLast, l.getLast h, (List.dropLast_concat_getLast h).symm⟩
theorem inc_append (a : Int) (l : List α) {r : List α} (h : r ≠ []) : inc A a (l ++ r) = l ++ inc A a r := by
  obtain ⟨i, x, rfl⟩ := snoc_of h
  rw [← List.append_assoc, inc_snoc, inc_snoc, List.append_assoc]
theorem inc_inc (a b : Int) (l : List α) : inc A b (inc A a l) = inc A (a + b) l := by
  by_cases h : l = []
  · subst h; rfl
  · obtain ⟨i, x, rfl⟩ := snoc_of h
    rw [inc_snoc, inc_snoc, inc_snoc, A.ha]
theorem inc_zero (l : List α) : inc A 0 l = l := by
  by_cases h : l = []
  · subst h; rfl
  · obtain ⟨i, x, rfl⟩ := snoc_of h
    rw [inc_snoc, A.h0]
theorem inc_map (a : Int) (l : List Int) : inc A a (l.map A.c) = (inc acI a l).map A.c := by
  by_cases h : l = []
  · subst h; rfl
  · obtain ⟨i, x, rfl⟩ := snoc_of h
    rw [List.map_append, List.map_cons, List.map_nil, inc_snoc, inc_snoc, List.map_append, A.hc]; rfl
theorem take_inc (a : Int) {k : Nat} {l : List α} (h : k < l.length) : (inc A a l).take k = l.take k := by
  obtain ⟨i, x, rfl⟩ := snoc_of (l := l) (by intro h'; subst h'; simp at h)
  simp at h
  rw [inc_snoc, List.take_append_of_le_length (by omega), List.take_append_of_le_length (by omega)]
theorem inc_take (a : Int) (d : α) {j : Nat} {l : List α} (h : j < l.length) : inc A a (l.take (j + 1)) = l.take j ++ [A.add (l.getD j d) a] := by
  rw [List.take_succ_eq_append_getElem h, inc_snoc, List.getD_eq_getElem?_getD, List.getElem?_eq_getElem h]; rfl
abbrev Rep := Nat × Int × List Int
def G (r : Rep) (L : List α) : List α := inc A r.2.1 (L.take r.1) ++ r.2.2.map A.c
end
def comp (x y : Rep) : Rep :=
  if y.1 = x.1 then (x.1, x.2.1 + y.2.1, y.2.2) else if x.1 < y.1 then (x.1, x.2.1, inc acI y.2.1 (x.2.2.take (y.1 - x.1)) ++ y.2.2) else (y.1, y.2.1, y.2.2)
theorem G_comp {α : Type} (A : Ac α) (x y : Rep) (L : List α) (hL : x.1 ≤ L.length) (hy : y.1 ≤ x.1 + x.2.2.length) : G A (comp x y) L = G A y (G A x L) := by
  obtain ⟨k, a, P⟩ := x
  obtain ⟨k', a', P'⟩ := y
  simp only at hL hy
  have hk : (L.take k).length = k := by simp; omega
  unfold comp G
  simp only
  split
  · rename_i h
    subst h
    simp only
    rw [List.take_append_of_le_length (by rw [inc_length, hk]; exact Nat.le_refl _), List.take_of_length_le (l := inc A a (L.take k')) (by rw [inc_length, hk]; exact Nat.le_refl _), inc_inc]
  · split
    · rename_i h1 h2
      simp only
      have e : (inc A a (L.take k) ++ P.map A.c).take k' = inc A a (L.take k) ++ (P.take (k' - k)).map A.c := by
        rw [List.take_append, inc_length, hk, List.take_of_length_le (l := inc A a (L.take k)) (by rw [inc_length, hk]; omega), List.map_take]
      rw [e, inc_append, inc_map, List.map_append, List.append_assoc]
      intro h
      have := congrArg List.length h
      rw [List.length_map, List.length_take, List.length_nil] at this
      omega
    · rename_i h1 h2
      simp only
      rw [List.take_append_of_le_length (by rw [inc_length, hk]; omega), take_inc A a (by omega), List.take_take, Nat.min_eq_left (by omega)]
/-! ### summaries -/
def S.rep (s : S) : Rep := (s.k.toNat, s.a, s.p.take s.n.toNat)
def mk (f : Int) (r : Rep) : S := mkS f r.1 r.2.1 r.2.2.length r.2.2
def Bd (r : Rep) : Prop := r.2.1 ≤ 1048576 ∧ ∀ x ∈ r.2.2, x ≤ 1048576
structure ROk (f : Int) (r : Rep) : Prop where
  kf : (r.1 : Int) ≤ f
  f4 : f ≤ 4
  len : r.1 + r.2.2.length ≤ 4
  z : r.1 = 0 → r.2.1 = 0
  a0 : 0 ≤ r.2.1
  p0 : ∀ x ∈ r.2.2, 0 ≤ x
theorem rep_ok {s : S} (h : s.Ok) : ROk s.f s.rep ∧ Bd s.rep ∧ s.rep.2.2.length = s.n.toNat := by
  obtain ⟨h1, h2, h3⟩ := sizes h
  have hl : s.rep.2.2.length = s.n.toNat := by simp only [S.rep, List.length_take, len_p]; omega
  have g1 := h.1
  have g2 := h.2.1
  refine ⟨⟨?_, ?_, ?_, ?_, ?_, ?_⟩, ⟨?_, ?_⟩, hl⟩
  · simp only [S.rep]; omega
  · omega
  · rw [hl]; exact h3
  · intro hz; simp only [S.rep] at hz ⊢; omega
  · simp only [S.rep]; omega
  · intro x hx; exact (p_mem h x (List.mem_of_mem_take hx)).1
  · simp only [S.rep]; omega
  · intro x hx; exact (p_mem h x (List.mem_of_mem_take hx)).2
theorem mk_rep {s : S} (h : s.Ok) : mk s.f s.rep = s := by
  obtain ⟨_, _, hl⟩ := rep_ok h
  obtain ⟨h1, h2, h3⟩ := sizes h
  unfold mk
  rw [hl]
  simp only [S.rep]
  rw [mkS_take h h2, ← h1, ← h2]; rfl
theorem ok_mk {f : Int} {r : Rep} (h : ROk f r) : (mk f r).Ok ↔ Bd r := by
  have := okmk (f := f) (k := (r.1 : Int)) (a := r.2.1) (n := r.2.2.length) (l := r.2.2) rfl (by have := h.1; have := h.2; have := h.3; omega)
  unfold mk
  rw [this]
  have h1 := h.a0
  have h2 := h.z
  constructor
  · exact fun ⟨x, y⟩ => ⟨x.2.1, fun z hz => (y z hz).2⟩
  · exact fun ⟨x, y⟩ => ⟨⟨h1, x, fun hz => h2 (by omega)⟩, fun z hz => ⟨h.p0 z hz, y z hz⟩⟩
theorem rep_mk {f : Int} {r : Rep} (h : ROk f r) : (mk f r).rep = r := by
  obtain ⟨k, a, P⟩ := r
  have hl := h.len
  simp only at hl
  have h4 : P.length ≤ 4 := by omega
  simp only [mk, mkS, S.rep, S.p]
  match P, h4 with
  | [], _ => simp
  | [x0], _ => simp
  | [x0, x1], _ => simp
  | [x0, x1, x2], _ => simp
  | [x0, x1, x2, x3], _ => simp
theorem sym_eq {s : S} (h : s.Ok) : s.sym = G acC s.rep (List.replicate s.f.toNat (true, 0)) := by
  have hk : s.k.toNat ≤ s.f.toNat := by have := h.1; omega
  unfold S.sym symC G
  simp only [S.rep]
  congr 1
  generalize s.k.toNat = k at hk
  cases k with
  | zero => simp [inc]
  | succ j =>
    rw [List.take_replicate, Nat.min_eq_left hk, List.replicate_succ', inc_snoc]
    simp [acC]
theorem comp_ok {f g : Int} {x y : Rep} (hx : ROk f x) (hy : ROk g y) (h : (x.1 + x.2.2.length : Int) = g) : ROk f (comp x y) := by
  obtain ⟨k, a, P⟩ := x
  obtain ⟨k', a', P'⟩ := y
  obtain ⟨x1, x2, x3, x4, x5, x6⟩ := hx
  obtain ⟨y1, y2, y3, y4, y5, y6⟩ := hy
  simp only at x1 x2 x3 x4 x5 x6 y1 y2 y3 y4 y5 y6 h
  unfold comp
  simp only
  split
  · rename_i he
    subst he
    refine ⟨x1, x2, y3, fun hz => ?_, ?_, y6⟩
    · simp only at hz ⊢; have := x4 hz; have := y4 hz; omega
    · simp only; omega
  · split
    · rename_i h1 h2
      refine ⟨x1, x2, ?_, x4, x5, fun z hz => ?_⟩
      · simp only [List.length_append, inc_length, List.length_take]; omega
      · simp only at hz
        rcases List.mem_append.1 hz with hz | hz
        · have hlt : k' - k - 1 < P.length := by omega
          rw [show k' - k = (k' - k - 1) + 1 by omega, inc_take acI a' 0 hlt] at hz
          rcases List.mem_append.1 hz with hz | hz
          · exact x6 z (List.mem_of_mem_take hz)
          · rw [List.mem_singleton.1 hz]
            have : 0 ≤ P.getD (k' - k - 1) 0 := by
              rw [List.getD_eq_getElem?_getD, List.getElem?_eq_getElem hlt]
              exact x6 _ (List.getElem_mem hlt)
            show 0 ≤ P.getD (k' - k - 1) 0 + a'
            omega
        · exact y6 z hz
    · rename_i h1 h2
      exact ⟨by simp only; omega, x2, y3, y4, y5, y6⟩
/-- What Then makes, if both may be and fit. -/
theorem thenF_eq {a b : S} (ha : a.Ok) (hb : b.Ok) (he : a.k + a.n = b.f) : (Bd (comp a.rep b.rep) → thenF a b = (mk a.f (comp a.rep b.rep), 0)) ∧ (¬ Bd (comp a.rep b.rep) → thenF a b = (zS, 12)) := by
  have ma := (may_iff a).2 ha
  have mb := (may_iff b).2 hb
  obtain ⟨h1, h2, h3⟩ := then_facts ma mb he
  obtain ⟨ra, ba, la⟩ := rep_ok ha
  obtain ⟨rb, bb, lb⟩ := rep_ok hb
  obtain ⟨kb, nb, _⟩ := sizes hb
  rw [thenF_core ma mb he]
  unfold thenC
  simp only [S.rep] at ba bb la lb
  have hbA : b.a ≤ 1048576 := bb.1
  have haA : a.a ≤ 1048576 := ba.1
  cases hk : Nat.beq b.k.toNat a.k.toNat with
  | true =>
    have hkk := beq_of hk
    have ec : comp a.rep b.rep = (a.k.toNat, a.a + b.a, b.p.take b.n.toNat) := if_pos hkk
    rw [ec]
    simp only [cond_true, Bd]
    refine ⟨fun h => ?_, fun h => ?_⟩
    · rw [decide_eq_false (by have := h.1; omega)]
      simp only [cond_false, mk, lb]
      rw [mkS_take hb nb, Int.add_comm]
    · rw [decide_eq_true]; · rfl
      apply Classical.byContradiction
      intro hn
      exact h ⟨by omega, bb.2⟩
  | false =>
    have hne : ¬ b.k.toNat = a.k.toNat := fun h => by rw [h, Nat.beq_refl] at hk; cases hk
    simp only [cond_false]
    cases hl : Nat.blt a.k.toNat b.k.toNat with
    | true =>
      have hlt : a.k.toNat < b.k.toNat := Nat.le_of_ble_eq_true hl
      have ec : comp a.rep b.rep = (a.k.toNat, a.a, inc acI b.a ((a.p.take a.n.toNat).take (b.k.toNat - a.k.toNat)) ++ b.p.take b.n.toNat) := (if_neg hne).trans (if_pos hlt)
      rw [ec]
      simp only [cond_true]
      have hP : b.k.toNat - a.k.toNat - 1 < (a.p.take a.n.toNat).length := by simp [len_p]; omega
      have e1 : inc acI b.a ((a.p.take a.n.toNat).take (b.k.toNat - a.k.toNat)) = a.p.take (b.k.toNat - a.k.toNat - 1) ++ [a.p.getD (b.k.toNat - a.k.toNat - 1) 0 + b.a] := by
        rw [List.take_take, Nat.min_eq_left (by omega), show b.k.toNat - a.k.toNat = (b.k.toNat - a.k.toNat - 1) + 1 by omega, inc_take acI b.a 0 (by simp [len_p]; omega)]
        rfl
      rw [e1]
      have hpa := p_get ha (b.k.toNat - a.k.toNat - 1)
      refine ⟨fun h => ?_, fun h => ?_⟩
      · have := h.2 (a.p.getD (b.k.toNat - a.k.toNat - 1) 0 + b.a) (List.mem_append_left _ (List.mem_append_right _ (List.mem_singleton.2 rfl)))
        rw [decide_eq_false (by omega)]
        simp only [cond_false, mk]
        congr 2
        simp only [List.length_append, List.length_take, len_p, List.length_cons, List.length_nil]
        omega
      · rw [decide_eq_true]; · rfl
        apply Classical.byContradiction
        intro hn
        refine h ⟨haA, fun x hx => ?_⟩
        rcases List.mem_append.1 hx with hx | hx
        · rcases List.mem_append.1 hx with hx | hx
          · exact (p_mem ha x (List.mem_of_mem_take hx)).2
          · rw [List.mem_singleton.1 hx]; omega
        · exact (p_mem hb x (List.mem_of_mem_take hx)).2
    | false =>
      have hlt : ¬ a.k.toNat < b.k.toNat := fun h => by rw [show Nat.blt a.k.toNat b.k.toNat = true from Nat.ble_eq_true_of_le h] at hl; cases hl
      have ec : comp a.rep b.rep = (b.k.toNat, b.a, b.p.take b.n.toNat) := (if_neg hne).trans (if_neg hlt)
      rw [ec]
      simp only [cond_false]
      refine ⟨fun _ => ?_, fun h => absurd ⟨hbA, bb.2⟩ h⟩
      simp only [mk, lb]
      rw [mkS_take hb nb]
theorem thenF_zero {a b : S} (h : (thenF a b).2 = 0) : a.Ok ∧ b.Ok ∧ a.k + a.n = b.f ∧ Bd (comp a.rep b.rep) ∧ thenF a b = (mk a.f (comp a.rep b.rep), 0) := by
  by_cases ha : a.Ok
  · by_cases hb : b.Ok
    · by_cases he : a.k + a.n = b.f
      · obtain ⟨h1, h2⟩ := thenF_eq ha hb he
        by_cases hB : Bd (comp a.rep b.rep)
        · exact ⟨ha, hb, he, hB, h1 hB⟩
        · rw [h2 hB] at h; cases h
      · unfold thenF at h
        rw [(may_iff a).2 ha, (may_iff b).2 hb, show (a.k + a.n != b.f) = true by simpa using he] at h
        cases h
    · unfold thenF at h
      rw [may_false hb] at h
      simp at h
  · unfold thenF at h
    rw [may_false ha] at h
    simp at h
theorem comp_rel {a b : S} (ha : a.Ok) (hb : b.Ok) (he : a.k + a.n = b.f) : ROk a.f (comp a.rep b.rep) ∧ b.rep.1 ≤ a.rep.1 + a.rep.2.2.length := by
  obtain ⟨ra, _, la⟩ := rep_ok ha
  obtain ⟨rb, _, lb⟩ := rep_ok hb
  have g1 := ha.1
  have g2 := hb.1
  have hc : ((a.rep.1 : Int) + a.rep.2.2.length) = b.f := by rw [la]; simp only [S.rep]; omega
  exact ⟨comp_ok ra rb hc, by have := rb.kf; omega⟩
theorem comp_len {x y : Rep} (h : y.1 ≤ x.1 + x.2.2.length) : (comp x y).1 + (comp x y).2.2.length = y.1 + y.2.2.length := by
  unfold comp
  split
  · rename_i h'; simp only; omega
  · split
    · simp only [List.length_append, inc_length, List.length_take]; omega
    · rfl
/-- What is made of all counters tells all. -/
theorem G_inj {f : Nat} {x y : Rep} (hx : x.1 ≤ f) (hy : y.1 ≤ f) (zx : x.1 = 0 → x.2.1 = 0) (zy : y.1 = 0 → y.2.1 = 0) (h : G acC x (List.replicate f (true, 0)) = G acC y (List.replicate f (true, 0))) : x = y := by
  obtain ⟨k, a, P⟩ := x
  obtain ⟨k', a', P'⟩ := y
  simp only [G] at h hx hy zx zy
  rw [List.take_replicate, List.take_replicate, Nat.min_eq_left hx, Nat.min_eq_left hy] at h
  have hc : ∀ (k : Nat) (a : Int) (P : List Int), (inc acC a (List.replicate k (true, 0)) ++ P.map acC.c).countP (·.1) = k := fun k a P => by
    rw [List.countP_append]
    have h2 : (P.map acC.c).countP (·.1) = 0 := by
      rw [List.countP_eq_zero]
      intro z hz
      obtain ⟨w, _, rfl⟩ := List.mem_map.1 hz
      simp [acC]
    rw [h2]
    cases k with
    | zero => rfl
    | succ j =>
      rw [List.replicate_succ', inc_snoc, List.countP_append, List.countP_replicate]
      simp [acC]
  have hk : k = k' := by rw [← hc k a P, h, hc]
  subst hk
  obtain ⟨h1, h2⟩ := List.append_inj h (by rw [inc_length, inc_length])
  have hP : P = P' := (List.map_inj_right (fun x y hxy => by simpa [acC] using hxy)).1 h2
  subst hP
  congr 1
  congr 1
  cases k with
  | zero => rw [zx rfl, zy rfl]
  | succ j =>
    rw [List.replicate_succ', inc_snoc, inc_snoc] at h1
    have := List.append_inj_right h1 rfl
    simpa [acC] using this
theorem mk_f (f : Int) (r : Rep) : (mk f r).f = f := rfl
theorem mk_k (f : Int) (r : Rep) : (mk f r).k = r.1 := rfl
theorem mk_n (f : Int) (r : Rep) : (mk f r).n = r.2.2.length := rfl
theorem then_assoc {a b c : S} (h1 : (thenF a b).2 = 0) (h2 : (thenF b c).2 = 0) (h3 : (thenF (thenF a b).1 c).2 = 0) (h4 : (thenF a (thenF b c).1).2 = 0) : (thenF (thenF a b).1 c).1 = (thenF a (thenF b c).1).1 := by
  obtain ⟨oa, ob, e1, b1, q1⟩ := thenF_zero h1
  obtain ⟨_, oc, e2, b2, q2⟩ := thenF_zero h2
  obtain ⟨_, _, e3, _, q3⟩ := thenF_zero h3
  obtain ⟨_, _, e4, _, q4⟩ := thenF_zero h4
  rw [q3, q4]
  rw [q1, q2]
  obtain ⟨r1, k1⟩ := comp_rel oa ob e1
  obtain ⟨r2, k2⟩ := comp_rel ob oc e2
  obtain ⟨ra, _, la⟩ := rep_ok oa
  obtain ⟨rb, _, lb⟩ := rep_ok ob
  obtain ⟨rc, _, lc⟩ := rep_ok oc
  simp only [mk_f]
  rw [rep_mk r1, rep_mk r2]
  congr 1
  have l1 := comp_len k1
  have l2 := comp_len k2
  have g1 := oa.1
  have ha1 : ((a.rep.1 : Int) + a.rep.2.2.length) = b.f := by rw [la]; simp only [S.rep]; omega
  have hf : a.rep.1 ≤ a.f.toNat := by have := ra.kf; omega
  have hbf := rb.kf
  have kb : c.rep.1 ≤ (comp a.rep b.rep).1 + (comp a.rep b.rep).2.2.length := by omega
  have kc : (comp b.rep c.rep).1 ≤ a.rep.1 + a.rep.2.2.length := by have := r2.kf; omega
  have o3 : ROk a.f (comp (comp a.rep b.rep) c.rep) := comp_ok r1 rc (by
    have g2 := ob.1
    have : ((comp a.rep b.rep).1 : Int) + (comp a.rep b.rep).2.2.length = b.rep.1 + b.rep.2.2.length := by omega
    rw [this, lb]; simp only [S.rep]; omega)
  have o4 : ROk a.f (comp a.rep (comp b.rep c.rep)) := comp_ok ra r2 ha1
  refine G_inj (f := a.f.toNat) (by have := o3.kf; omega) (by have := o4.kf; omega) o3.z o4.z ?_
  have hrl : a.rep.1 ≤ (List.replicate a.f.toNat ((true, 0) : C)).length := by simpa using hf
  have hc1 : (comp a.rep b.rep).1 ≤ (List.replicate a.f.toNat ((true, 0) : C)).length := by have := r1.kf; simp; omega
  rw [G_comp _ _ _ _ hc1 kb, G_comp _ _ _ _ hrl k1, G_comp _ _ _ _ hrl kc, G_comp _ _ _ _ ?_ k2]
  rw [G, List.length_append, inc_length, List.length_take, List.length_map]
  simp only [List.length_replicate]
  omega
end Go.Proofs.Ytapmlfklkfgmoaa
