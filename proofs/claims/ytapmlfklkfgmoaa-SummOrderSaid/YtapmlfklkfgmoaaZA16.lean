/- Chapter 2: lists held against each other, counter by counter. -/
import Derived.Test.YtapmlfklkfgmoaaZA15
set_option linter.unusedVariables false
namespace Go.Proofs.Ytapmlfklkfgmoaa
open Go.RowKit Go.Sx
/-- Pair by pair. -/
def pw {α β : Type} (R : α → β → Prop) : List α → List β → Prop
  | [], [] => True
  | x :: r, y :: r' => R x y ∧ pw R r r'
  | _, _ => False
section
variable {α β : Type} {R : α → β → Prop}
theorem pw_length : ∀ {l : List α} {l' : List β}, pw R l l' → l.length = l'.length
  | [], [], _ => rfl
  | _ :: _, _ :: _, h => by simp only [List.length_cons, pw_length h.2]
  | [], _ :: _, h => h.elim
  | _ :: _, [], h => h.elim
theorem pw_append : ∀ {l : List α} {l' : List β} {m : List α} {m' : List β}, pw R l l' → pw R m m' → pw R (l ++ m) (l' ++ m')
  | [], [], _, _, _, h => h
  | _ :: _, _ :: _, _, _, h, h' => ⟨h.1, pw_append h.2 h'⟩
  | [], _ :: _, _, _, h, _ => h.elim
  | _ :: _, [], _, _, h, _ => h.elim
theorem pw_take : ∀ (k : Nat) {l : List α} {l' : List β}, pw R l l' → pw R (l.take k) (l'.take k)
  | 0, _, _, _ => by simp [pw]
  | _ + 1, [], [], _ => by simp [pw]
  | k + 1, _ :: _, _ :: _, h => ⟨h.1, pw_take k h.2⟩
  | _ + 1, [], _ :: _, h => h.elim
  | _ + 1, _ :: _, [], h => h.elim
theorem pw_unsnoc : ∀ {l : List α} {l' : List β} {x : α} {y : β}, pw R (l ++ [x]) (l' ++ [y]) → pw R l l' ∧ R x y
  | [], [], _, _, h => ⟨trivial, h.1⟩
  | _ :: _, _ :: _, _, _, h => by
    obtain ⟨h1, h2⟩ := pw_unsnoc h.2
    exact ⟨⟨h.1, h1⟩, h2⟩
  | [], _ :: l', _, _, h => by have := pw_length h.2; simp at this
  | _ :: l, [], _, _, h => by have := pw_length h.2; simp at this
theorem pw_inc {A : Ac α} {B : Ac β} {c : Int} {l : List α} {l' : List β} (h : pw R l l') (hc : ∀ x y, R x y → A.add x c ∈ inc A c l → B.add y c ∈ inc B c l' → R (A.add x c) (B.add y c)) : pw R (inc A c l) (inc B c l') := by
  by_cases hl : l = []
  · subst hl
    cases l' with
    | nil => exact trivial
    | cons => exact h.elim
  · obtain ⟨i, x, rfl⟩ := snoc_of hl
    have hl' : l' ≠ [] := by
      rintro rfl
      have := pw_length h
      simp at this
    obtain ⟨j, y, rfl⟩ := snoc_of hl'
    obtain ⟨h1, h2⟩ := pw_unsnoc h
    rw [inc_snoc, inc_snoc] at hc ⊢
    exact pw_append h1 ⟨hc x y h2 (by simp) (by simp), trivial⟩
theorem pw_map {γ : Type} {f : γ → α} {g : γ → β} : ∀ (l : List γ), (∀ x ∈ l, R (f x) (g x)) → pw R (l.map f) (l.map g)
  | [], _ => trivial
  | x :: l, h => ⟨h x (List.mem_cons_self ..), pw_map l fun y hy => h y (List.mem_cons_of_mem _ hy)⟩
theorem pw_get : ∀ {l : List α} {l' : List β} (i : Nat) {x : α} {y : β}, pw R l l' → l[i]? = some x → l'[i]? = some y → R x y
  | [], [], _, _, _, _, h, _ => by simp at h
  | _ :: _, _ :: _, 0, _, _, h, hx, hy => by simp at hx hy; rw [← hx, ← hy]; exact h.1
  | _ :: _, _ :: _, i + 1, _, _, h, hx, hy => pw_get i h.2 (by simpa using hx) (by simpa using hy)
  | [], _ :: _, _, _, _, h, _, _ => h.elim
  | _ :: _, [], _, _, _, h, _, _ => h.elim
theorem pw_G {A : Ac α} {B : Ac β} {r : Rep} {l : List α} {l' : List β} (h : pw R l l') (hc : ∀ x y, R x y → A.add x r.2.1 ∈ G A r l → B.add y r.2.1 ∈ G B r l' → R (A.add x r.2.1) (B.add y r.2.1)) (hp : ∀ p ∈ r.2.2, R (A.c p) (B.c p)) : pw R (G A r l) (G B r l') :=
  pw_append (pw_inc (pw_take _ h) fun x y h1 h2 h3 => hc x y h1 (List.mem_append_left _ h2) (List.mem_append_left _ h3)) (pw_map _ hp)
end
def Le1 (x y : C) : Prop := le1 x y = true
theorem leB_iff : ∀ {l l' : List C}, l.length = l'.length → (leB l l' = true ↔ pw Le1 l l')
  | [], [], _ => by simp [leB, pw]
  | x :: l, y :: l', h => by
    simp only [leB, pw, Bool.and_eq_true]
    rw [leB_iff (by simpa using h)]; rfl
  | [], _ :: _, h => by simp at h
  | _ :: _, [], h => by simp at h
theorem le1_iff (x y : C) : Le1 x y ↔ (x.1 = true ∧ y.1 = false → y.2 = 1048576) ∧ (¬ (x.1 = true ∧ y.1 = false) → x.2 ≤ y.2) := by
  obtain ⟨s, n⟩ := x
  obtain ⟨t, m⟩ := y
  unfold Le1 le1
  cases s <;> cases t <;> simp
theorem le1_refl (x : C) : Le1 x x := by
  rw [le1_iff]
  refine ⟨fun h => ?_, fun _ => Int.le_refl _⟩
  rw [h.1] at h
  exact absurd h.2 (by simp)
theorem le1_trans {x y z : C} (hx : x.2 ≤ 1048576) (hy : y.2 ≤ 1048576) (hz : z.2 ≤ 1048576) (h : Le1 x y) (h' : Le1 y z) : Le1 x z := by
  rw [le1_iff] at h h' ⊢
  obtain ⟨s, n⟩ := x
  obtain ⟨t, m⟩ := y
  obtain ⟨u, p⟩ := z
  cases s <;> cases t <;> cases u <;> simp at h h' ⊢ <;> simp at hx hy hz <;> omega
theorem le1_add {x y : C} {c : Int} (hc : 0 ≤ c) (hy : y.2 + c ≤ 1048576) (h : Le1 x y) : Le1 (acC.add x c) (acC.add y c) := by
  rw [le1_iff] at h ⊢
  obtain ⟨s, n⟩ := x
  obtain ⟨t, m⟩ := y
  simp only [acC] at h hy ⊢
  refine ⟨fun h1 => ?_, fun h1 => ?_⟩
  · have := h.1 h1; omega
  · have := h.2 h1; omega
theorem pw_refl (l : List C) : pw Le1 l l := by
  have := pw_map (R := Le1) (f := id) (g := id) l fun x _ => le1_refl x
  simpa using this
theorem pw_trans : ∀ {a b c : List C}, (∀ x ∈ a, x.2 ≤ 1048576) → (∀ x ∈ b, x.2 ≤ 1048576) → (∀ x ∈ c, x.2 ≤ 1048576) → pw Le1 a b → pw Le1 b c → pw Le1 a c
  | [], [], [], _, _, _, _, _ => trivial
  | _ :: _, _ :: _, _ :: _, h1, h2, h3, h, h' => ⟨le1_trans (h1 _ (List.mem_cons_self ..)) (h2 _ (List.mem_cons_self ..)) (h3 _ (List.mem_cons_self ..)) h.1 h'.1,
      pw_trans (fun x hx => h1 x (List.mem_cons_of_mem _ hx)) (fun x hx => h2 x (List.mem_cons_of_mem _ hx)) (fun x hx => h3 x (List.mem_cons_of_mem _ hx)) h.2 h'.2⟩
  | [], _ :: _, _, _, _, _, h, _ => h.elim
  | _ :: _, [], _, _, _, _, h, _ => h.elim
  | [], [], _ :: _, _, _, _, _, h => h.elim
  | _ :: _, _ :: _, [], _, _, _, _, h => h.elim
def BdC (l : List C) : Prop := ∀ x ∈ l, x.2 ≤ 1048576
theorem bdC_G {f : Int} {r : Rep} (h : ROk f r) (hB : Bd r) (n : Nat) : BdC (G acC r (List.replicate n (true, 0))) := by
  intro x hx
  unfold G at hx
  rcases List.mem_append.1 hx with hx | hx
  · rw [List.take_replicate] at hx
    cases hm : min r.1 n with
    | zero => rw [hm] at hx; simp [inc] at hx
    | succ j =>
      rw [hm, List.replicate_succ', inc_snoc] at hx
      rcases List.mem_append.1 hx with hx | hx
      · rw [(List.mem_replicate.1 hx).2]; show (0 : Int) ≤ 1048576; omega
      · rw [List.mem_singleton.1 hx]
        have := hB.1
        simp only [acC]
        omega
  · obtain ⟨y, hy, rfl⟩ := List.mem_map.1 hx
    exact hB.2 y hy
theorem sym_bd {s : S} (h : s.Ok) : BdC s.sym := by
  rw [sym_eq h]
  exact bdC_G (rep_ok h).1 (rep_ok h).2.1 _
theorem sym_len {s : S} (h : s.Ok) : (s.sym.length : Int) = s.k + s.n := by
  have := rep_len h
  have h2 := (rep_ok h).1.kf
  rw [sym_eq h, G_length _ _ _ (by simp; omega)]
  omega
theorem leqC_iff (a b : S) : leqC a b = true ↔ a.Ok ∧ b.Ok ∧ a.f = b.f ∧ pw Le1 a.sym b.sym := by
  unfold leqC
  simp only [Bool.and_eq_true, may_iff, beq_iff_eq]
  constructor
  · rintro ⟨ha, hb, hf, he, h⟩
    have := sym_len ha
    have := sym_len hb
    exact ⟨ha, hb, hf, (leB_iff (by omega)).1 h⟩
  · rintro ⟨ha, hb, hf, h⟩
    have hl := pw_length h
    have := sym_len ha
    have := sym_len hb
    exact ⟨ha, hb, hf, by omega, (leB_iff hl).2 h⟩
theorem then_sym {a b : S} (h : (thenF a b).2 = 0) : a.Ok ∧ b.Ok ∧ (thenF a b).1.Ok ∧ (thenF a b).1.f = a.f ∧ (thenF a b).1.sym = G acC b.rep a.sym := by
  obtain ⟨oa, ob, e1, b1, q1⟩ := thenF_zero h
  obtain ⟨rc, hk⟩ := comp_rel oa ob e1
  have oc : (mk a.f (comp a.rep b.rep)).Ok := (ok_mk rc).2 b1
  rw [q1]
  refine ⟨oa, ob, oc, rfl, ?_⟩
  rw [sym_eq oc, rep_mk rc, sym_eq oa, mk_f]
  have h2 := (rep_ok oa).1.kf
  rw [G_comp acC _ _ _ (by simp; omega) hk]
theorem leq_then {a b c : S} (h : leqC a b = true) (h1 : (thenF a c).2 = 0) (h2 : (thenF b c).2 = 0) : leqC (thenF a c).1 (thenF b c).1 = true := by
  obtain ⟨oa, ob, hf, hp⟩ := (leqC_iff a b).1 h
  obtain ⟨_, oc, o1, f1, s1⟩ := then_sym h1
  obtain ⟨_, _, o2, f2, s2⟩ := then_sym h2
  rw [leqC_iff]
  refine ⟨o1, o2, by rw [f1, f2, hf], ?_⟩
  have b2 := sym_bd o2
  rw [s2] at b2
  rw [s1, s2]
  refine pw_G hp (fun x y hxy _ hy => ?_) fun p _ => le1_refl _
  exact le1_add (rep_ok oc).1.a0 (b2 _ hy) hxy
theorem leq_refl {a : S} (h : a.Ok) : leqC a a = true := (leqC_iff a a).2 ⟨h, h, rfl, pw_refl _⟩
theorem leq_trans {a b c : S} (h : leqC a b = true) (h' : leqC b c = true) : leqC a c = true := by
  obtain ⟨oa, ob, hf, hp⟩ := (leqC_iff a b).1 h
  obtain ⟨_, oc, hf', hp'⟩ := (leqC_iff b c).1 h'
  exact (leqC_iff a c).2 ⟨oa, oc, hf.trans hf', pw_trans (sym_bd oa) (sym_bd ob) (sym_bd oc) hp hp'⟩
/-! ### times -/
theorem rtleq_iff (a b : T) : rtleq_F a b = true ↔ a.Ok ∧ b.Ok ∧ a.d = b.d ∧ a.e ≤ b.e ∧ pw (· ≤ ·) a.l b.l := by
  unfold rtleq_F
  rw [← tcheck_iff, ← tcheck_iff, rtcheck_eq, rtcheck_eq]
  simp only [cond_ff, Bool.or_eq_false_iff, bne_eq_false_iff_eq, decide_eq_false_iff_not, T.l, pw, eq_self, and_true]
  constructor
  · rintro ⟨⟨h1, h2, h3, h4⟩, h5, h6, h7, h8⟩
    exact ⟨h1, h2, h3, by omega, by omega, by omega, by omega, by omega⟩
  · rintro ⟨h1, h2, h3, h4, h5, h6, h7, h8⟩
    exact ⟨⟨h1, h2, h3, by omega⟩, by omega, by omega, by omega, by omega⟩
theorem pad_pw {L L' : List Int} (h : pw (· ≤ ·) L L') : pw (· ≤ ·) (L ++ List.replicate (4 - L.length) 0) (L' ++ List.replicate (4 - L'.length) 0) := by
  refine pw_append h ?_
  rw [pw_length h]
  generalize 4 - L'.length = n
  induction n with
  | zero => exact trivial
  | succ n ih => rw [List.replicate_succ]; exact ⟨Int.le_refl _, ih⟩
theorem adv_ok' {s : S} {t : T} (h : adv_F s = true) (h1 : (applyF s t).2 = 0) : rtleq_F t (applyF s t).1 = true ∧ t.l ≠ (applyF s t).1.l := by
  obtain ⟨os, ot, e, hB, q⟩ := applyF_zero h1
  rw [q]
  have om := made_ok os ot hB
  unfold adv_F at h
  simp only [Bool.and_eq_true, beq_iff_eq, decide_eq_true_eq] at h
  obtain ⟨_, hk, hn, ha⟩ := h
  have hf := os.1
  have hz := os.2.1
  have hr4 := rep4 os
  have hp : s.rep.2.2 = [] := List.length_eq_zero_iff.1 (by rw [(rep_ok os).2.2, hn]; rfl)
  obtain ⟨j, hj⟩ : ∃ j, s.rep.1 = j + 1 := ⟨s.rep.1 - 1, by simp only [S.rep]; omega⟩
  have hjl : j < t.l.length := by rw [len_l]; omega
  have eG : G acI s.rep t.l = t.l.take j ++ [t.l.getD j 0 + s.a] := by
    unfold G
    rw [hp, hj, inc_take acI _ 0 hjl]
    simp only [List.map_nil, List.append_nil]
    rfl
  have el : (made s t).l = t.l.take j ++ [t.l.getD j 0 + s.a] ++ List.replicate (4 - (j + 1)) 0 := by
    have hlen : (t.l.take j ++ [t.l.getD j 0 + s.a]).length = j + 1 := by
      rw [List.length_append, List.length_take]; simp; omega
    unfold made
    rw [eG, mkT_l (by omega), hlen]
  have hd : ∀ i, j + 1 ≤ i → t.l.getD i 0 = 0 := fun i hi => by
    have hdj : t.d ≤ (j + 1 : Nat) := by rw [e, ← hk]; have : s.rep.1 = s.k.toNat := rfl; omega
    obtain ⟨_, q0, q1, q2, q3⟩ := ot
    match i, hi with
    | 1, _ => exact q1.2.2 (by omega)
    | 2, _ => exact q2.2.2 (by omega)
    | 3, _ => exact q3.2.2 (by omega)
    | i + 4, _ => rfl
  have et : t.l = t.l.take j ++ [t.l.getD j 0] ++ List.replicate (4 - (j + 1)) 0 := by
    apply List.ext_getElem?
    intro i
    have hl1 : (t.l.take j).length = j := by rw [List.length_take]; omega
    by_cases h1 : i < j
    · rw [List.getElem?_append_left (by simp; omega), List.getElem?_append_left (by omega), List.getElem?_take, if_pos h1]
    · by_cases h2 : i = j
      · subst h2
        rw [List.getElem?_append_left (by simp; omega), List.getElem?_append_right (by omega), hl1, Nat.sub_self]
        simp only [List.getElem?_cons_zero, List.getD_eq_getElem?_getD, List.getElem?_eq_getElem hjl, Option.getD_some]
      · rw [List.getElem?_append_right (by simp; omega), List.getElem?_replicate]
        have h3 := hd i (by omega)
        rw [List.getD_eq_getElem?_getD] at h3
        by_cases h4 : i < 4
        · rw [List.getElem?_eq_getElem (by rw [len_l]; omega)] at h3 ⊢
          rw [if_pos (by simp; omega)]
          simpa using h3
        · rw [List.getElem?_eq_none (by rw [len_l]; omega), if_neg (by simp; omega)]
  refine ⟨(rtleq_iff _ _).2 ⟨ot, om, ?_, Int.le_refl _, ?_⟩, fun hc => ?_⟩
  · show t.d = s.k + s.n
    omega
  · rw [el]
    rw (occs := [1]) [et]
    have hrefl : ∀ l : List Int, pw (· ≤ ·) l l := fun l => by
      have := pw_map (R := fun x y : Int => x ≤ y) (f := id) (g := id) l fun x _ => Int.le_refl _
      simpa using this
    exact pw_append (pw_append (hrefl _) ⟨by omega, trivial⟩) (hrefl _)
  · show False
    have hc : t.l = (made s t).l := hc
    rw [el] at hc
    have := congrArg (fun l => l.getD j 0) hc
    have hl1 : (t.l.take j).length = j := by rw [List.length_take]; omega
    simp only [List.getD_eq_getElem?_getD] at this
    rw [List.getElem?_append_left (by simp; omega), List.getElem?_append_right (by omega), hl1, Nat.sub_self, List.getElem?_eq_getElem hjl] at this
    simp at this
    omega
end Go.Proofs.Ytapmlfklkfgmoaa
