/- Chapter 2: what a summary makes of a counter; a time that tells two summaries apart. -/
import Derived.Test.YtapmlfklkfgmoaaZA16
set_option linter.unusedVariables false
namespace Go.Proofs.Ytapmlfklkfgmoaa
open Go.RowKit Go.Sx
def ev (t : Int) (x : C) : Int := (bif x.1 then t else 0) + x.2
theorem iAnd_one (x : Int) : 0 ≤ iAnd .i64 x 1 ∧ iAnd .i64 x 1 ≤ 1 := by
  unfold iAnd
  have h : (BitVec.ofInt (IntKind.i64).bits x &&& BitVec.ofInt (IntKind.i64).bits 1).toNat ≤ 1 := by
    rw [BitVec.toNat_and]
    have : (BitVec.ofInt (IntKind.i64).bits 1).toNat = 1 := by decide
    rw [this, Nat.and_one_is_mod]
    omega
  generalize (BitVec.ofInt (IntKind.i64).bits x &&& BitVec.ofInt (IntKind.i64).bits 1).toNat = n at h
  have : IntKind.i64.wrap (n : Int) = n := wr (by omega)
  rw [this]
  omega
/-- Counter by counter. -/
theorem G_get {f n : Nat} {r : Rep} (hr : r.1 ≤ f) {L : List Int} (hL : r.1 ≤ L.length) (hn : f ≤ n) (j : Nat) :
    (G acI r L)[j]? = ((G acC r (List.replicate n (true, 0)))[j]?).map (ev (L.getD j 0)) := by
  obtain ⟨k, a, P⟩ := r
  simp only at hr hL
  unfold G
  simp only
  rw [List.take_replicate, Nat.min_eq_left (by omega)]
  cases k with
  | zero =>
    simp only [List.take_zero, inc, List.nil_append, List.replicate_zero, List.getElem?_map]
    cases P[j]? <;> simp [acI, acC, ev]
  | succ i =>
    rw [inc_take acI a 0 (by omega), List.replicate_succ', inc_snoc]
    have l1 : (L.take i).length = i := by rw [List.length_take]; omega
    by_cases h1 : j < i
    · rw [List.getElem?_append_left (by simp; omega), List.getElem?_append_left (by omega), List.getElem?_append_left (by simp; omega), List.getElem?_append_left (by simp; omega), List.getElem?_take, if_pos h1, List.getElem?_replicate, if_pos h1, List.getD_eq_getElem?_getD, List.getElem?_eq_getElem (by omega)]
      simp [ev]
    · by_cases h2 : j = i
      · subst h2
        rw [List.getElem?_append_left (by simp; omega), List.getElem?_append_right (by omega), l1, List.getElem?_append_left (by simp), List.getElem?_append_right (by simp), List.length_replicate, Nat.sub_self]
        simp [ev, acI, acC]
      · rw [List.getElem?_append_right (by simp; omega), List.getElem?_append_right (by simp; omega), List.length_append, List.length_append, l1, List.length_replicate, List.getElem?_map, List.getElem?_map]
        simp only [List.length_cons, List.length_nil]
        cases P[j - (i + (0 + 1))]? <;> simp [acI, acC, ev]
theorem sym_get {s : S} (h : s.Ok) {L : List Int} (hL : s.rep.1 ≤ L.length) (j : Nat) : (G acI s.rep L)[j]? = (s.sym[j]?).map (ev (L.getD j 0)) := by
  have h2 := (rep_ok h).1.kf
  rw [sym_eq h]
  exact G_get (f := s.f.toNat) (by omega) hL (Nat.le_refl _) j
theorem bd_of {s : S} (h : s.Ok) {L : List Int} (hL : s.rep.1 ≤ L.length) (hb : ∀ j x, s.sym[j]? = some x → ev (L.getD j 0) x ≤ 1048576) : BdL (G acI s.rep L) := by
  intro v hv
  obtain ⟨j, hj, rfl⟩ := List.getElem_of_mem hv
  have h1 := sym_get h hL j
  rw [List.getElem?_eq_getElem hj] at h1
  cases hx : s.sym[j]? with
  | none => rw [hx] at h1; simp at h1
  | some x =>
    rw [hx] at h1
    simp only [Option.map_some, Option.some.injEq] at h1
    rw [h1]
    exact hb j x hx
theorem made_get {s : S} {t : T} (h : s.Ok) {j : Nat} {x : C} (hx : s.sym[j]? = some x) : (made s t).l[j]? = some (ev (t.l.getD j 0) x) := by
  have hL : s.rep.1 ≤ t.l.length := by rw [len_l]; exact rep4 h
  have h1 := sym_get h hL j
  rw [hx] at h1
  have hj : j < (G acI s.rep t.l).length := (List.getElem?_eq_some_iff.1 h1).1
  unfold made
  rw [mkT_l (by rw [G_length _ _ _ hL]; exact (rep_ok h).1.len), List.getElem?_append_left hj, h1]
  rfl
/-- What stays: how much is added. -/
theorem sym_stay {s : S} (h : s.Ok) {j : Nat} {n : Int} (hx : s.sym[j]? = some (true, n)) : (j : Int) < s.k ∧ n = if (j : Int) = s.k - 1 then s.a else 0 := by
  have hk : s.k.toNat ≤ s.f.toNat := by have := h.1; omega
  have h0 : 0 ≤ s.k := by have := h.1; omega
  have hz := h.2.1.2.2
  rw [sym_eq h] at hx
  unfold G at hx
  simp only [S.rep] at hx
  rw [List.take_replicate, Nat.min_eq_left hk] at hx
  obtain ⟨k, hkk⟩ : ∃ k, s.k.toNat = k := ⟨_, rfl⟩
  rw [hkk] at hx
  have hno : ∀ m : Nat, ((s.p.take s.n.toNat).map acC.c)[m]? = some (true, n) → False := fun m hm => by
    rw [List.getElem?_map] at hm
    cases hp : (s.p.take s.n.toNat)[m]? <;> rw [hp] at hm <;> simp [acC] at hm
  cases k with
  | zero => exact (hno j (by simpa [inc] using hx)).elim
  | succ i =>
    rw [List.replicate_succ', inc_snoc] at hx
    by_cases h1 : j < i
    · rw [List.getElem?_append_left (by simp; omega), List.getElem?_append_left (by simp; omega), List.getElem?_replicate, if_pos h1] at hx
      simp only [Option.some.injEq, Prod.mk.injEq, true_and] at hx
      exact ⟨by omega, by rw [if_neg (by omega)]; exact hx.symm⟩
    · by_cases h2 : j = i
      · subst h2
        rw [List.getElem?_append_left (by simp), List.getElem?_append_right (by simp), List.length_replicate, Nat.sub_self] at hx
        simp only [acC, List.getElem?_cons_zero, Option.some.injEq, Prod.mk.injEq, true_and] at hx
        exact ⟨by omega, by rw [if_pos (by omega)]; omega⟩
      · rw [List.getElem?_append_right (by simp; omega)] at hx
        exact (hno _ hx).elim
theorem sym_push {s : S} (h : s.Ok) {j : Nat} {m : Int} (hx : s.sym[j]? = some (false, m)) : s.k ≤ j := by
  have hk : s.k.toNat ≤ s.f.toNat := by have := h.1; omega
  rw [sym_eq h] at hx
  unfold G at hx
  simp only [S.rep] at hx
  rw [List.take_replicate, Nat.min_eq_left hk] at hx
  apply Classical.byContradiction
  intro hn
  obtain ⟨i, hi⟩ : ∃ i, s.k.toNat = i + 1 := ⟨s.k.toNat - 1, by omega⟩
  rw [hi, List.replicate_succ', inc_snoc] at hx
  by_cases h1 : j < i
  · rw [List.getElem?_append_left (by simp; omega), List.getElem?_append_left (by simp; omega), List.getElem?_replicate, if_pos h1] at hx
    simp at hx
  · have h2 : j = i := by omega
    subst h2
    rw [List.getElem?_append_left (by simp), List.getElem?_append_right (by simp), List.length_replicate, Nat.sub_self] at hx
    simp [acC] at hx
theorem pw_not {l l' : List C} (hl : l.length = l'.length) (h : ¬ pw Le1 l l') : ∃ (j : Nat) (x y : C), l[j]? = some x ∧ l'[j]? = some y ∧ ¬ Le1 x y := by
  induction l generalizing l' with
  | nil => cases l' with
    | nil => exact absurd trivial h
    | cons => simp at hl
  | cons a r ih => cases l' with
    | nil => simp at hl
    | cons b r' =>
      by_cases h1 : Le1 a b
      · obtain ⟨j, x, y, e1, e2, e3⟩ := ih (by simpa using hl) fun h2 => h ⟨h1, h2⟩
        exact ⟨j + 1, x, y, by simpa using e1, by simpa using e2, e3⟩
      · exact ⟨0, a, b, rfl, rfl, h1⟩
/-- Both have an answer, and the first one's is not below the second one's. -/
def apart (s u : S) (w : T) : Bool := (applyF s w).snd == (0 : Int) && ((applyF u w).snd == (0 : Int) && !rtleq_F (applyF s w).fst (applyF u w).fst)
theorem apart_of {s u : S} {w : T} (hs : s.Ok) (hu : u.Ok) (hw : w.Ok) (h1 : w.d = s.f) (h2 : w.d = u.f) (b1 : BdL (G acI s.rep w.l)) (b2 : BdL (G acI u.rep w.l)) {j : Nat} {x y : C} (hx : s.sym[j]? = some x) (hy : u.sym[j]? = some y) (hlt : ev (w.l.getD j 0) y < ev (w.l.getD j 0) x) : apart s u w = true := by
  unfold apart
  rw [(applyF_eq hs hw h1).1 b1, (applyF_eq hu hw h2).1 b2]
  cases hc : rtleq_F (made s w) (made u w) with
  | false => rfl
  | true =>
    have := pw_get j ((rtleq_iff _ _).1 hc).2.2.2.2 (made_get hs hx) (made_get hu hy)
    omega
def val (s : S) (i : Int) : Int := bif i == w64 (s.k - 1) then w64 (1048576 - s.a) else 1048576
def v0 (s : S) (e : Int) : T := ⟨iAnd .i64 e 1, s.f, 0, 0, 0, 0⟩
def vt (s : S) (e : Int) : Nat → T
  | 0 => ⟨iAnd .i64 e 1, s.f, val s 0, 0, 0, 0⟩
  | 1 => ⟨iAnd .i64 e 1, s.f, 0, val s 1, 0, 0⟩
  | 2 => ⟨iAnd .i64 e 1, s.f, 0, 0, val s 2, 0⟩
  | _ => ⟨iAnd .i64 e 1, s.f, 0, 0, 0, val s 3⟩
theorem val_eq {s : S} (h : s.Ok) (i : Int) : val s i = (if i = s.k - 1 then 1048576 - s.a else 1048576) ∧ 0 ≤ val s i ∧ val s i ≤ 1048576 := by
  have h1 := h.1
  have h2 := h.2.1
  unfold val
  rw [show w64 (s.k - 1) = s.k - 1 from wr (by omega), show w64 (1048576 - s.a) = 1048576 - s.a from wr (by omega)]
  by_cases hi : i = s.k - 1
  · rw [if_pos hi, show (i == s.k - 1) = true by simpa using hi]; simp only [cond_true]; exact ⟨trivial, by omega, by omega⟩
  · rw [if_neg hi, show (i == s.k - 1) = false by simpa using hi]; simp only [cond_false]; exact ⟨trivial, by omega, by omega⟩
theorem v0_ok {s : S} (h : s.Ok) (e : Int) : (v0 s e).Ok := by
  have := iAnd_one e
  have := h.1
  unfold T.Ok v0
  simp
  omega
theorem vt_ok {s : S} (h : s.Ok) (e : Int) {j : Nat} (hj : (j : Int) < s.f) : (vt s e j).Ok := by
  have h1 := iAnd_one e
  have h2 := h.1
  have e0 := (val_eq h 0).2
  have e1 := (val_eq h 1).2
  have e2 := (val_eq h 2).2
  have e3 := (val_eq h 3).2
  match j, hj with
  | 0, hj | 1, hj | 2, hj | 3, hj => unfold T.Ok vt; simp; omega
  | j + 4, hj => omega
theorem vt_get (s : S) (e : Int) {j : Nat} (hj : j < 4) (i : Nat) : (vt s e j).l.getD i 0 = if i = j then val s j else 0 := by
  match j, hj with
  | 0, _ | 1, _ | 2, _ | 3, _ =>
    match i with
    | 0 | 1 | 2 | 3 => rfl
    | i + 4 => rfl
theorem tell {s u : S} (hs : s.Ok) (hu : u.Ok) (hf : s.f = u.f) (he : s.k + s.n = u.k + u.n) (hn : leqC s u ≠ true) (e : Int) : apart s u (v0 s e) = true ∨ ∃ j : Nat, (j : Int) < s.f ∧ apart s u (vt s e j) = true := by
  rw [Ne, leqC_iff] at hn
  have hl : s.sym.length = u.sym.length := by have := sym_len hs; have := sym_len hu; omega
  obtain ⟨j, x, y, hx, hy, hxy⟩ := pw_not hl fun h => hn ⟨hs, hu, hf, h⟩
  have ks : ∀ w : T, s.rep.1 ≤ w.l.length := fun w => by rw [len_l]; exact rep4 hs
  have ku : ∀ w : T, u.rep.1 ≤ w.l.length := fun w => by rw [len_l]; exact rep4 hu
  have bs := sym_bd hs
  have bu := sym_bd hu
  rw [le1_iff] at hxy
  obtain ⟨x1, x2⟩ := x
  obtain ⟨y1, y2⟩ := y
  have bx := bs _ (List.mem_of_getElem? hx)
  have by' := bu _ (List.mem_of_getElem? hy)
  simp only at hxy bx by'
  by_cases hc : x1 = true ∧ y1 = false
  · obtain ⟨rfl, rfl⟩ := hc
    have hm : y2 ≠ 1048576 := fun h => hxy ⟨fun _ => h, fun h => absurd ⟨rfl, rfl⟩ h⟩
    obtain ⟨hjk, hxn⟩ := sym_stay hs hx
    have g1 := hs.1
    have hjf : (j : Int) < s.f := by omega
    have hj4 : j < 4 := by omega
    obtain ⟨hv, hv0, hv1⟩ := val_eq hs j
    refine .inr ⟨j, hjf, apart_of hs hu (vt_ok hs e hjf) ?_ ?_ (bd_of hs (ks _) fun i z hz => ?_) (bd_of hu (ku _) fun i z hz => ?_) hx hy ?_⟩
    · match j with
      | 0 | 1 | 2 | _ + 3 => rfl
    · rw [← hf]
      match j with
      | 0 | 1 | 2 | _ + 3 => rfl
    · rw [vt_get s e hj4]
      split
      · rename_i hij
        subst hij
        rw [hx] at hz
        obtain rfl := Option.some.inj hz
        simp only [ev, cond_true, hv, hxn]
        split <;> omega
      · have := bs _ (List.mem_of_getElem? hz)
        unfold ev
        cases z.1 <;> simp <;> omega
    · rw [vt_get s e hj4]
      split
      · rename_i hij
        subst hij
        rw [hy] at hz
        obtain rfl := Option.some.inj hz
        simp only [ev, cond_false]
        omega
      · have := bu _ (List.mem_of_getElem? hz)
        unfold ev
        cases z.1 <;> simp <;> omega
    · rw [vt_get s e hj4, if_pos rfl]
      simp only [ev, cond_true, cond_false, hv, hxn]
      split <;> omega
  · have hgt : y2 < x2 := by
      apply Classical.byContradiction
      intro h
      exact hxy ⟨fun h' => absurd h' hc, fun _ => by omega⟩
    have hz0 : ∀ i : Nat, (v0 s e).l.getD i 0 = 0 := fun i => by
      match i with
      | 0 | 1 | 2 | 3 => rfl
      | i + 4 => rfl
    refine .inl (apart_of hs hu (v0_ok hs e) rfl hf (bd_of hs (ks _) fun i z hz => ?_) (bd_of hu (ku _) fun i z hz => ?_) hx hy ?_)
    · rw [hz0]
      have := bs _ (List.mem_of_getElem? hz)
      unfold ev
      cases z.1 <;> simp <;> omega
    · rw [hz0]
      have := bu _ (List.mem_of_getElem? hz)
      unfold ev
      cases z.1 <;> simp <;> omega
    · rw [hz0]
      unfold ev
      cases x1 <;> cases y1 <;> simp <;> omega
/-! ### lesser times, lesser summaries -/
theorem made_mono {s : S} {t v : T} (hs : s.Ok) (h1 : (made s t).Ok) (h2 : (made s v).Ok) (h : rtleq_F t v = true) : rtleq_F (made s t) (made s v) = true := by
  obtain ⟨_, _, _, he, hp⟩ := (rtleq_iff _ _).1 h
  refine (rtleq_iff _ _).2 ⟨h1, h2, rfl, he, ?_⟩
  unfold made
  have l1 : (G acI s.rep t.l).length ≤ 4 := by rw [G_length _ _ _ (by rw [len_l]; exact rep4 hs)]; exact (rep_ok hs).1.len
  have l2 : (G acI s.rep v.l).length ≤ 4 := by rw [G_length _ _ _ (by rw [len_l]; exact rep4 hs)]; exact (rep_ok hs).1.len
  rw [mkT_l l1, mkT_l l2]
  exact pad_pw (pw_G hp (fun x y hxy _ _ => by simp only [acI]; omega) fun p _ => Int.le_refl _)
theorem pw_of_get {l l' : List Int} (hl : l.length = l'.length) (h : ∀ (j : Nat) (x y : Int), l[j]? = some x → l'[j]? = some y → x ≤ y) : pw (· ≤ ·) l l' := by
  induction l generalizing l' with
  | nil => cases l' with
    | nil => exact trivial
    | cons => simp at hl
  | cons a r ih => cases l' with
    | nil => simp at hl
    | cons b r' => exact ⟨h 0 a b rfl rfl, ih (by simpa using hl) fun j x y h1 h2 => h (j + 1) x y (by simpa using h1) (by simpa using h2)⟩
theorem leq_apply {s u : S} {t : T} (h : leqC s u = true) (h1 : (applyF s t).2 = 0) (h2 : (applyF u t).2 = 0) : rtleq_F (applyF s t).1 (applyF u t).1 = true := by
  obtain ⟨os, ot, e1, b1, q1⟩ := applyF_zero h1
  obtain ⟨ou, _, e2, b2, q2⟩ := applyF_zero h2
  rw [q1, q2]
  obtain ⟨_, _, hf, hp⟩ := (leqC_iff s u).1 h
  have ks : s.rep.1 ≤ t.l.length := by rw [len_l]; exact rep4 os
  have ku : u.rep.1 ≤ t.l.length := by rw [len_l]; exact rep4 ou
  have hl := pw_length hp
  have l1 := sym_len os
  have l2 := sym_len ou
  have g1 := G_length acI s.rep t.l ks
  have g2 := G_length acI u.rep t.l ku
  have r1 := rep_len os
  have r2 := rep_len ou
  have c1 := (rep_ok os).1.len
  have c2 := (rep_ok ou).1.len
  refine (rtleq_iff _ _).2 ⟨made_ok os ot b1, made_ok ou ot b2, ?_, Int.le_refl _, ?_⟩
  · show s.k + s.n = u.k + u.n
    omega
  · unfold made
    rw [mkT_l (by omega), mkT_l (by omega)]
    refine pad_pw (pw_of_get (by omega) fun j x y hx hy => ?_)
    have bx := b1 x (List.mem_of_getElem? hx)
    have hx0 := hx
    rw [sym_get os ks] at hx
    rw [sym_get ou ku] at hy
    cases hs : s.sym[j]? with
    | none => rw [hs] at hx; simp at hx
    | some c => cases hu : u.sym[j]? with
      | none => rw [hu] at hy; simp at hy
      | some d =>
        rw [hs] at hx
        rw [hu] at hy
        simp only [Option.map_some, Option.some.injEq] at hx hy
        have hcd := (le1_iff c d).1 (pw_get j hp hs hu)
        have ht := (l_get ot j).1
        subst hx
        subst hy
        obtain ⟨cs, cn⟩ := c
        obtain ⟨ds, dn⟩ := d
        unfold ev at bx ⊢
        generalize t.l.getD j 0 = q at bx ht ⊢
        cases cs <;> cases ds <;> simp at hcd bx ⊢ <;> omega
end Go.Proofs.Ytapmlfklkfgmoaa
