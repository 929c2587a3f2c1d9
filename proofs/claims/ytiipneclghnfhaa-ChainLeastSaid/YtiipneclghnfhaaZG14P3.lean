/- Antichains: the least of lists, met, joined, put in: plain laws. -/
import Derived.Test.YtiipneclghnfhaaZG09P3
import Derived.Test.YtiipneclghnfhaaZG13P3
import Derived.Test.YtiipneclghnfhaaZG06P3
import Derived.ProofKit
import Derived.OpenShut
import Derived.ShutString
import Derived.ChangeOld
import Derived.Below
import Derived.Deep.Slices
import Derived.Test.YtiipneclghnfhaaZG07P3
import Derived.Test.YtiipneclghnfhaaZG11P3
set_option linter.unusedVariables false
set_option linter.unusedSimpArgs false
set_option linter.constructorNameAsVariable false
set_option linter.all false

namespace Go.Lp
section
variable {α : Type} [DecidableEq α] {cf : α → α → Int} {le : α → α → Bool}
def Rfl (le : α → α → Bool) (l : List α) : Prop := ∀ x ∈ l, le x x = true
theorem cov_mem {l : List α} {x : α} (hr : Rfl le l) (hx : x ∈ l) : l.any (le · x) = true := List.any_eq_true.2 ⟨x, hx, hr x hx⟩
theorem cov_mins (h : TO cf) (p : PO cf le) {l : List α} (hr : Rfl le l) {x : α} (hx : x ∈ l) : ∃ y ∈ mins cf le l, le y x = true := by
  have := mins_cover h p (l := l) (t := x)
  rw [cov_mem hr hx, List.any_eq_true] at this
  exact this
theorem mins_sub (h : TO cf) {l : List α} {x : α} (hx : x ∈ mins cf le l) : x ∈ l := ((mins_mem h).1 hx).1
theorem mins_mins (h : TO cf) (p : PO cf le) {a c : List α} (hr : Rfl le (a ++ c)) : mins cf le (mins cf le a ++ c) = mins cf le (a ++ c) := by
  have hs : ∀ x ∈ mins cf le a ++ c, x ∈ a ++ c := fun x hx => by
    rcases List.mem_append.1 hx with h1 | h1
    · exact List.mem_append_left _ (mins_sub h h1)
    · exact List.mem_append_right _ h1
  have hr2 : Rfl le (mins cf le a ++ c) := fun x hx => hr x (hs x hx)
  have hra : Rfl le a := fun x hx => hr x (List.mem_append_left _ hx)
  refine ac_ext p h (mins_ac h _) (mins_ac h _) (fun x hx => cov_mins h p hr (hs x (mins_sub h hx))) fun x hx => ?_
  rcases List.mem_append.1 (mins_sub h hx) with h1 | h1
  · obtain ⟨y, hy, e1⟩ := cov_mins h p hra h1
    obtain ⟨z, hz, e2⟩ := cov_mins h p hr2 (List.mem_append_left c hy)
    exact ⟨z, hz, p.trans _ _ _ e2 e1⟩
  · exact cov_mins h p hr2 (List.mem_append_right _ h1)
theorem mins_swap (h : TO cf) {a b c : List α} : mins cf le (a ++ b ++ c) = mins cf le (a ++ c ++ b) :=
  mins_congr h fun x => by simp only [List.mem_append]; constructor <;> (rintro ((h | h) | h) <;> simp [h])
/-- What is covered changes nothing. -/
theorem mins_add (h : TO cf) (p : PO cf le) {l : List α} {t : α} (ha : isAC cf le l) (hr : Rfl le (l ++ [t])) (hc : l.any (le · t) = true) : mins cf le (l ++ [t]) = l := by
  refine ac_ext p h (mins_ac h _) ha (fun x hx => ?_) fun x hx => cov_mins h p hr (List.mem_append_left _ hx)
  rcases List.mem_append.1 (mins_sub h hx) with h1 | h1
  · exact ⟨x, h1, hr x (List.mem_append_left _ h1)⟩
  · rw [List.mem_singleton] at h1
    subst h1
    exact List.any_eq_true.1 hc
theorem add_cov (h : TO cf) (p : PO cf le) {l : List α} {t : α} (hr : Rfl le (l ++ [t])) : (mins cf le (l ++ [t])).any (le · t) = true := by
  rw [mins_cover h p]
  exact cov_mem hr (List.mem_append_right _ (List.mem_singleton.2 rfl))
theorem add_same (h : TO cf) (p : PO cf le) {l : List α} {t : α} (ha : isAC cf le l) (hr : Rfl le (l ++ [t])) : (mins cf le (l ++ [t]) = l) ↔ l.any (le · t) = true := by
  refine ⟨fun e => ?_, mins_add h p ha hr⟩
  have := add_cov h p hr
  rwa [e] at this
theorem mins_len_ac (h : TO cf) {l : List α} (ha : isAC cf le l) : mins cf le l = l := mins_of_ac h ha
/-- All of b is covered by a. -/
def lq (le : α → α → Bool) (a b : List α) : Bool := b.all fun v => a.any (le · v)
theorem lq_iff {a b : List α} : lq le a b = true ↔ ∀ x ∈ b, ∃ y ∈ a, le y x = true := by
  unfold lq
  simp only [List.all_eq_true, List.any_eq_true]
theorem lq_refl {a : List α} (hr : Rfl le a) : lq le a a = true := lq_iff.2 fun x hx => ⟨x, hx, hr x hx⟩
theorem lq_trans (p : PO cf le) {a b c : List α} (h1 : lq le a b = true) (h2 : lq le b c = true) : lq le a c = true := by
  rw [lq_iff] at *
  intro x hx
  obtain ⟨y, hy, e1⟩ := h2 x hx
  obtain ⟨z, hz, e2⟩ := h1 y hy
  exact ⟨z, hz, p.trans _ _ _ e2 e1⟩
theorem lq_anti (h : TO cf) (p : PO cf le) {a b : List α} (ha : isAC cf le a) (hb : isAC cf le b) (h1 : lq le a b = true) (h2 : lq le b a = true) : a = b := by
  rw [lq_iff] at *
  exact ac_ext p h ha hb h2 h1
theorem lq_mins (h : TO cf) (p : PO cf le) {c l : List α} (hr : Rfl le l) : lq le c (mins cf le l) = lq le c l := by
  rw [Bool.eq_iff_iff, lq_iff, lq_iff]
  constructor
  · intro h1 x hx
    obtain ⟨m, hm, e1⟩ := cov_mins h p hr hx
    obtain ⟨y, hy, e2⟩ := h1 m hm
    exact ⟨y, hy, p.trans _ _ _ e2 e1⟩
  · exact fun h1 x hx => h1 x (mins_sub h hx)
theorem lq_append {c a b : List α} : lq le c (a ++ b) = (lq le c a && lq le c b) := by unfold lq; rw [List.all_append]
theorem lq_and {a b j c : List α} (hj : ∀ t, j.any (le · t) = (a.any (le · t) && b.any (le · t))) : lq le j c = (lq le a c && lq le b c) := by
  rw [Bool.eq_iff_iff, Bool.and_eq_true]
  unfold lq
  simp only [List.all_eq_true]
  constructor
  · intro h1
    exact ⟨fun x hx => (Bool.and_eq_true _ _ ▸ hj x ▸ h1 x hx : _ ∧ _).1, fun x hx => (Bool.and_eq_true _ _ ▸ hj x ▸ h1 x hx : _ ∧ _).2⟩
  · rintro ⟨h1, h2⟩ x hx
    rw [hj, h1 x hx, h2 x hx]; rfl
/-- Each of the one joined with each of the other. -/
def joins (jn : α → α → α) (a b : List α) : List α := a.flatMap fun x => b.map fun y => jn x y
theorem joins_cover {jn : α → α → α} {a b : List α} (hj : ∀ x ∈ a, ∀ y ∈ b, ∀ t, le (jn x y) t = (le x t && le y t)) (t : α) : (joins jn a b).any (le · t) = (a.any (le · t) && b.any (le · t)) := by
  unfold joins
  rw [Bool.eq_iff_iff, Bool.and_eq_true]
  simp only [List.any_eq_true, List.mem_flatMap, List.mem_map]
  constructor
  · rintro ⟨_, ⟨x, hx, y, hy, rfl⟩, h⟩
    rw [hj x hx y hy, Bool.and_eq_true] at h
    exact ⟨⟨x, hx, h.1⟩, y, hy, h.2⟩
  · rintro ⟨⟨x, hx, h1⟩, y, hy, h2⟩
    exact ⟨_, ⟨x, hx, y, hy, rfl⟩, by rw [hj x hx y hy, h1, h2]; rfl⟩
end
end Go.Lp

/- Chapter 3: plain facts of antichains. -/
namespace Go.Proofs.Ytiipneclghnfhaa
open Go.RowKit Go.Sx Go.Lp
theorem bad_iff (xs : List T) : badC xs = 0 ↔ (∀ x ∈ xs, x.Ok) ∧ ∀ x ∈ xs, ∀ y ∈ xs, x.d = y.d := by
  unfold badC
  have h1 : (xs.any fun v => tcheck_F v != 0) = false ↔ ∀ x ∈ xs, x.Ok := by
    rw [List.any_eq_false]
    constructor
    · intro h x hx
      have := h x hx
      exact (tcheck_iff x).1 (by simpa using this)
    · intro h x hx
      simpa using (tcheck_iff x).2 (h x hx)
  have h2 : xs.any (difD xs) = false ↔ ∀ x ∈ xs, ∀ y ∈ xs, x.d = y.d := by
    rw [List.any_eq_false]
    cases xs with
    | nil => simp
    | cons z r =>
      have hd : ∀ x, difD (z :: r) x = (x.d != z.d) := fun x => rfl
      constructor
      · intro h x hx y hy
        have k1 := h x hx
        have k2 := h y hy
        rw [hd] at k1 k2
        have k1 : x.d = z.d := by simpa using k1
        have k2 : y.d = z.d := by simpa using k2
        rw [k1, k2]
      · intro h x hx
        rw [hd, h x hx z (List.mem_cons_self ..)]
        simp
  rw [← h1, ← h2]
  cases (xs.any fun v => tcheck_F v != 0) <;> cases xs.any (difD xs) <;> simp
theorem bad_rfl {xs : List T} (h : badC xs = 0) : Rfl tleq_F xs := fun x hx => tleq_refl (((bad_iff xs).1 h).1 x hx)
theorem bad_sub {xs ys : List T} (h : badC xs = 0) (hs : ∀ x ∈ ys, x ∈ xs) : badC ys = 0 := by
  rw [bad_iff] at *
  exact ⟨fun x hx => h.1 x (hs x hx), fun x hx y hy => h.2 x (hs x hx) y (hs y hy)⟩
abbrev acT (xs : List T) : Prop := isAC cfT tleq_F xs
theorem clashes_iff (xs : List T) : clashes xs = false ↔ acT xs := by
  rw [clashes_false]
  constructor
  · intro h
    have hg : ∀ j (hj : j < xs.length), xs.getD j eT.dflt = xs[j] := fun j hj => by rw [List.getD_eq_getElem?_getD, List.getElem?_eq_getElem hj]; rfl
    refine ⟨List.pairwise_iff_getElem.2 fun i j hi hj hij => ?_, fun x hx y hy hle => ?_⟩
    · have := ((clash_false _ _).1 (h j i hj hij)).1
      rw [hg i hi, hg j hj] at this
      exact this
    · obtain ⟨i, hi, rfl⟩ := List.mem_iff_getElem.1 hx
      obtain ⟨j, hj, rfl⟩ := List.mem_iff_getElem.1 hy
      rcases Nat.lt_trichotomy i j with hij | hij | hij
      · have := ((clash_false _ _).1 (h j i hj hij)).2.1
        rw [hg i hi, hg j hj, hle] at this
        cases this
      · subst hij; rfl
      · have := ((clash_false _ _).1 (h i j hi hij)).2.2
        rw [hg i hi, hg j hj, hle] at this
        cases this
  · rintro ⟨h1, h2⟩ k j hk hj
    have hg : ∀ j (hj : j < xs.length), xs.getD j eT.dflt = xs[j] := fun j hj => by rw [List.getD_eq_getElem?_getD, List.getElem?_eq_getElem hj]; rfl
    rw [hg k hk, hg j (by omega)]
    have hlt := List.pairwise_iff_getElem.1 h1 j k (by omega) hk hj
    have hne : xs[j] ≠ xs[k] := fun e => by rw [e] at hlt; exact toT.irrefl _ hlt
    refine (clash_false _ _).2 ⟨hlt, ?_, ?_⟩
    · cases hc : tleq_F xs[j] xs[k] with
      | false => rfl
      | true => exact absurd (h2 _ (List.getElem_mem _) _ (List.getElem_mem _) hc) hne
    · cases hc : tleq_F xs[k] xs[j] with
      | false => rfl
      | true => exact absurd (h2 _ (List.getElem_mem _) _ (List.getElem_mem _) hc).symm hne
theorem chk_iff (xs : List T) : chkC xs = 0 ↔ xs.length ≤ 1024 ∧ badC xs = 0 ∧ acT xs := by
  rw [← clashes_iff]
  unfold chkC
  by_cases h : (xs.length : Int) > 1024
  · have : ¬ xs.length ≤ 1024 := by omega
    simp [h, this]
  · have h' : xs.length ≤ 1024 := by omega
    simp only [h, decide_false, cond_false, h', true_and]
    by_cases hb : badC xs = 0
    · simp only [hb, bne_self_eq_false, cond_false, true_and]
      cases clashes xs <;> simp
    · have : (badC xs != 0) = true := by simpa using hb
      simp [this, hb]
theorem of_iff (xs : List T) : (ofC xs).2 = 0 ↔ badC xs = 0 ∧ (minsT xs).length ≤ 1024 := by
  unfold ofC
  by_cases hb : badC xs = 0
  · simp only [hb, bne_self_eq_false, cond_false, true_and]
    by_cases h : ((minsT xs).length : Int) > 1024
    · have : ¬ (minsT xs).length ≤ 1024 := by omega
      simp [h, this]
    · have : (minsT xs).length ≤ 1024 := by omega
      simp [h, this]
  · have : (badC xs != 0) = true := by simpa using hb
    simp [this, hb]
theorem of_eq {xs : List T} (h : (ofC xs).2 = 0) : (ofC xs).1 = minsT xs := by
  obtain ⟨h1, h2⟩ := (of_iff xs).1 h
  unfold ofC
  have h3 : ¬ ((minsT xs).length : Int) > 1024 := by omega
  simp [h1, h3]
theorem minsT_sub {xs : List T} {x : T} (h : x ∈ minsT xs) : x ∈ xs := mins_sub toT h
theorem of_chk {xs : List T} (h : (ofC xs).2 = 0) : chkC (ofC xs).1 = 0 := by
  rw [of_eq h]
  obtain ⟨h1, h2⟩ := (of_iff xs).1 h
  exact (chk_iff _).2 ⟨h2, bad_sub h1 fun x hx => minsT_sub hx, mins_ac toT xs⟩
theorem cov_minsT (xs : List T) (t : T) : (minsT xs).any (tleq_F · t) = xs.any (tleq_F · t) := mins_cover toT poT
theorem leqC_lq (a b : List T) : leqC a b = lq tleq_F a b := rfl
end Go.Proofs.Ytiipneclghnfhaa

/- Chapter 3: the law ChainLeast holds. -/
namespace Go.Proofs.Ytiipneclghnfhaa
open Go.RowKit Go.Sx Go.Lp
theorem l1_all (xs a : List T) (n : Int) (hn : n = (xs.length : Int)) (hm : xs.length ≤ maxLen) (h : ∀ x ∈ xs, (a.any fun y => tleq_F y x) = true) : ∃ i, loopF l1_RR l1_M (xs, n, 0, a, false) = (.exit 0, xs, n, i, a, false) := by
  subst hn
  have h1 : loopF l1_RR l1_M (xs, (xs.length : Int), 0, a, false) = _ := l1_run (xs, (xs.length : Int), a) false rfl hm trivial
  rcases search (x := 0) (st := l1_S (xs, (xs.length : Int), a)) (p := fun v => !a.any fun x => tleq_F x v) (r := fun _ _ _ => false) (fun _ _ _ => rfl) xs false with ⟨_, j, hj, b, hb, hp, _⟩ | ⟨ha, h2⟩
  · rw [h b hb] at hp; cases hp
  · have h2 : scan 0 (l1_S (xs, (xs.length : Int), a)) 0 xs false = _ := h2
    refine ⟨(xs.length : Int), h1.trans ?_⟩
    show ((scan 0 (l1_S (xs, (xs.length : Int), a)) 0 xs false).1, l1_g ((scan 0 (l1_S (xs, (xs.length : Int), a)) 0 xs false).2.1, (xs, (xs.length : Int), a), (scan 0 (l1_S (xs, (xs.length : Int), a)) 0 xs false).2.2)) = _
    rw [h2]; rfl
theorem l2_all (xs a : List T) (n : Int) (hn : n = (xs.length : Int)) (hm : xs.length ≤ maxLen) (h : ∀ x ∈ xs, x ∈ a) : ∃ i, loopF l2_RR l2_M (xs, n, 0, a, false) = (.exit 2, xs, n, i, a, false) := by
  subst hn
  have h1 : loopF l2_RR l2_M (xs, (xs.length : Int), 0, a, false) = _ := l2_run (xs, (xs.length : Int), a) false rfl hm trivial
  rcases search (x := 2) (st := l2_S (xs, (xs.length : Int), a)) (p := fun v => !decide (v ∈ a)) (r := fun _ _ _ => false) (fun _ _ _ => rfl) xs false with ⟨_, j, hj, b, hb, hp, _⟩ | ⟨ha, h2⟩
  · rw [decide_eq_true (h b hb)] at hp; cases hp
  · have h2 : scan 2 (l2_S (xs, (xs.length : Int), a)) 0 xs false = _ := h2
    refine ⟨(xs.length : Int), h1.trans ?_⟩
    show ((scan 2 (l2_S (xs, (xs.length : Int), a)) 0 xs false).1, l2_g ((scan 2 (l2_S (xs, (xs.length : Int), a)) 0 xs false).2.1, (xs, (xs.length : Int), a), (scan 2 (l2_S (xs, (xs.length : Int), a)) 0 xs false).2.2)) = _
    rw [h2]; rfl
theorem lst_eq (xs : List T) : lst_F xs = true ∧ lst_side xs := by
  unfold lst_F lst_side
  by_cases hl : (xs.length : Int) > 40
  · simp [hl]
  simp only [hl, decide_false, cond_false, eT.lst_els]
  by_cases he : (ofC xs).2 = 0
  · have hm : xs.length ≤ maxLen := by unfold maxLen; omega
    have hk : xs.length ≤ KS := by unfold KS; omega
    obtain ⟨b1, b2⟩ := (of_iff xs).1 he
    have hc : ∀ x ∈ xs, ((ofC xs).1.any fun y => tleq_F y x) = true := fun x hx => by
      rw [of_eq he]
      have := cov_minsT xs x
      rw [cov_mem (bad_rfl b1) hx] at this
      exact this
    have hs : ∀ x ∈ (ofC xs).1, x ∈ xs := fun x hx => by rw [of_eq he] at hx; exact minsT_sub hx
    have hm2 : (ofC xs).1.length ≤ maxLen := by rw [of_eq he]; unfold maxLen; omega
    obtain ⟨i, h1⟩ := l1_all xs (ofC xs).1 (xs.length : Int) rfl hm hc
    obtain ⟨i2, h2⟩ := l2_all (ofC xs).1 xs ((ofC xs).1.length : Int) rfl hm2 hs
    have q1 : lst_q1 xs = (.exit 0, xs, (xs.length : Int), i, (ofC xs).1, false) := by
      unfold lst_q1
      simp only [eT.lst_els]
      exact h1
    have q2 : lst_q2 xs = (.exit 2, (ofC xs).1, ((ofC xs).1.length : Int), i2, xs, false) := by
      unfold lst_q2
      rw [q1]
      simp only [eT.lst_els]
      exact h2
    rw [q1, q2]
    simp only [he, bne_self_eq_false, cond_false, eT.lst_els, of_chk he]
    refine ⟨rfl, fun _ _ => ⟨okT xs, hk, fun _ => ⟨okT xs, okT _, ixJ0 rfl hm trivial, fun _ => ⟨okT _, okT xs, ixJ0 rfl hm2 trivial, fun _ => okT _⟩⟩⟩⟩
  · have : ((ofC xs).2 != 0) = true := by simpa using he
    simp only [this, cond_true, Bool.true_eq_false, false_implies, and_true, true_and, implies_true]
    exact fun _ _ => ⟨okT xs, by unfold KS; omega⟩
theorem lst_ok : FnPure Try.prog 3 aL dBool (fun _ => true) (fun _ => []) :=
  pure_congr (lst_okS _ fun g _ _ => (lst_eq g).2) fun g _ _ => (lst_eq g).1
end Go.Proofs.Ytiipneclghnfhaa

/- From what a statement reads of its arguments to known values. -/
namespace Go.Sx
open Go.RowKit Go.ChangeShapes Go.WideShapes Go.ChangeAt Go.Deep

theorem add_none (b o n : Nat) : (⟨b, o, none⟩ : Addr).add n = ⟨b, o + n, none⟩ := by
  by_cases h : n = 0
  · subst h; simp [Addr.add]
  · simp [Addr.add, h]
abbrev wh (w : World) : Rh := emp fun b => w.heap[b]?
/-- Cells of that type are plain data. -/
def Rd {α : Type} (P : Program) (t : TypeId) (A : El α) (Q : α → Prop) : Prop :=
  ∀ (H : Type) (enc : TypeId × Value → H) (w : World) (base : Nat) (spare : Nat → Bool) (held : Bool) (fuel : Nat) (cs : List Value) (x : DataW H × List MemPlace),
    DataW.trod enc P w base spare held fuel t cs = some x → ∃ a, Q a ∧ SV.fits 0 (wh w) (A.cells a) cs
section
variable {H : Type} (enc : TypeId × Value → H) (P : Program) (w : World) (base : Nat) (spare : Nat → Bool) (held : Bool) (fuel : Nat)
def Cut : List TypeId → List Value → Prop
  | [], cs => cs = []
  | t :: ts, cs => (∃ x, DataW.trod enc P w base spare held fuel t (cs.take (P.cellsOf t)) = some x) ∧ Cut ts (cs.drop (P.cellsOf t))
def consec : Nat → List (Nat × TypeId) → Nat → Bool
  | o, [], n => Nat.beq o n
  | o, p :: r, n => Nat.beq p.1 o && consec (o + P.cellsOf p.2) r n
theorem cut_of (cs : List Value) : ∀ (fs : List (Nat × TypeId)) (o : Nat), consec P o fs cs.length = true → (∀ p ∈ fs, ∃ x, DataW.trod enc P w base spare held fuel p.2 ((cs.drop p.1).take (P.cellsOf p.2)) = some x) → Cut enc P w base spare held fuel (fs.map (·.2)) (cs.drop o)
  | [], o, hc, _ => by
    have := beq_of hc
    show cs.drop o = []
    exact List.drop_eq_nil_of_le (by omega)
  | p :: r, o, hc, h => by
    simp only [consec, Bool.and_eq_true] at hc
    have h0 := beq_of hc.1
    refine ⟨?_, ?_⟩
    · have := h p (List.mem_cons_self ..)
      rwa [h0] at this
    · have := cut_of cs r (o + P.cellsOf p.2) hc.2 fun q hq => h q (List.mem_cons_of_mem _ hq)
      rwa [List.drop_drop]
end
def Rds {α : Type} (P : Program) (ts : List TypeId) (A : El α) (Q : α → Prop) : Prop :=
  ∀ (H : Type) (enc : TypeId × Value → H) (w : World) (base : Nat) (spare : Nat → Bool) (held : Bool) (fuel : Nat) (cs : List Value),
    Cut enc P w base spare held fuel ts cs → ∃ a, Q a ∧ SV.fits 0 (wh w) (A.cells a) cs
section
variable {P : Program} {t e : TypeId} {α β : Type} {A : El α} {B : El β} {Q : α → Prop} {Q' : β → Prop}
theorem rds_one (h : Rd P t A Q) : Rds P [t] A Q := fun H enc w base spare held fuel cs hc => by
  obtain ⟨⟨x, hx⟩, hd⟩ := hc
  have hd : cs.drop (P.cellsOf t) = [] := hd
  have h2 := List.take_append_drop (P.cellsOf t) cs
  rw [hd, List.append_nil] at h2
  rw [h2] at hx
  exact h H enc w base spare held fuel cs x hx
theorem rds_cons {ts : List TypeId} (h : Rd P t A Q) (h' : Rds P ts B Q') : Rds P (t :: ts) (.pair A B) (fun a => Q a.1 ∧ Q' a.2) := fun H enc w base spare held fuel cs hc => by
  obtain ⟨⟨x, hx⟩, hd⟩ := hc
  obtain ⟨a, qa, fa⟩ := h H enc w base spare held fuel _ x hx
  obtain ⟨b, qb, fb⟩ := h' H enc w base spare held fuel _ hd
  refine ⟨(a, b), ⟨qa, qb⟩, ?_⟩
  have := fits_append fa fb
  rwa [List.take_append_drop] at this
theorem rd_iso (h : Rd P t A Q) (f : α → β) (g : β → α) (hfg : ∀ b, f (g b) = b) (hgf : ∀ a, g (f a) = a) : Rd P t (A.iso f g hfg hgf) (fun b => Q (g b)) := fun H enc w base spare held fuel cs x hx => by
  obtain ⟨a, qa, fa⟩ := h H enc w base spare held fuel cs x hx
  refine ⟨f a, (show Q (g (f a)) by rwa [hgf]), ?_⟩
  show SV.fits 0 _ (A.cells (g (f a))) cs
  rwa [hgf]
theorem rd_int {k : IntKind} (ht : P.underlying t = some (.int k)) : Rd P t (eInt k) (fun n => (Lit.int k n).wf = true) := fun H enc w base spare held fuel cs x hx => by
  obtain ⟨n, rfl, _, hw⟩ := DataW.trod_int ht hx
  exact ⟨n, hw, by simp [eInt, El.one', dInt, SV.fits, SV.fit]⟩
theorem rd_struct {fs : Array Field} {ts : List TypeId} (ht : P.underlying t = some (.struct fs)) (hts : fs.toList.map (·.type) = ts) (hc : consec P 0 (fs.toList.map fun f => (f.offset, f.type)) (P.cellsOf t) = true) (h : Rds P ts A Q) : Rd P t A Q := fun H enc w base spare held fuel cs x hx => by
  obtain ⟨xs, n, rfl, _, hl, hxl, hf⟩ := DataW.trod_struct ht hx
  rw [← hl] at hc
  have := cut_of enc P w base spare held n cs _ 0 hc fun p hp => by
    obtain ⟨f, hfm, rfl⟩ := List.mem_map.1 hp
    obtain ⟨i, hi, rfl⟩ := List.getElem_of_mem hfm
    have hi' : i < fs.size := by simpa using hi
    have := hf i fs[i] (by simp [hi'])
    exact ⟨xs[i]'(by omega), by simpa [hxl, hi'] using this⟩
  rw [List.map_map, List.drop_zero] at this
  refine h H enc w base spare held n cs ?_
  rw [← hts]
  exact this
theorem rd_array {n : Nat} {ts : List TypeId} (ht : P.underlying t = some (.array n e)) (hts : ((List.range n).map fun _ => e) = ts) (hc : consec P 0 ((List.range n).map fun i => (i * P.cellsOf e, e)) (P.cellsOf t) = true) (h : Rds P ts A Q) : Rd P t A Q := fun H enc w base spare held fuel cs x hx => by
  obtain ⟨xs, m, rfl, _, hl, hxl, hf⟩ := DataW.trod_array ht hx
  rw [← hl] at hc
  have := cut_of enc P w base spare held m cs _ 0 hc fun p hp => by
    obtain ⟨i, hi, rfl⟩ := List.mem_map.1 hp
    have hi' : i < n := by simpa using hi
    have := hf i hi'
    exact ⟨xs[i]'(by omega), by rw [this]; simp [hxl, hi']⟩
  rw [List.map_map, List.drop_zero] at this
  refine h H enc w base spare held m cs ?_
  rw [← hts]
  exact this
end
/-- An argument is plain data. -/
def RdV {α : Type} (P : Program) (t : TypeId) (D : Dv α) (Q : α → Prop) : Prop :=
  ∀ (H : Type) (enc : TypeId × Value → H) (w : World) (base : Nat) (spare : Nat → Bool) (held : Bool) (r : Reach) (b0 : Nat) (v : Value) (d : DataW H) (ps : List MemPlace),
    Value.okWide P w r b0 t v → DataW.Trod enc P w base spare held t v d ps → ∃ a, Q a ∧ (D.enc a).fit 0 (wh w) v
section
variable {P : Program} {t e : TypeId} {α β : Type} {A : El α} {Q : α → Prop}
theorem rdv_int {k : IntKind} (ht : P.underlying t = some (.int k)) : RdV P t (dInt k) (fun n => (Lit.int k n).wf = true) := fun H enc w base spare held r b0 v d ps hv hx => by
  obtain ⟨n, rfl, _, _, hw⟩ := open_int ht hv hx
  exact ⟨n, hw, by simp [dInt, SV.fit]⟩
theorem rdv_struct {fs : Array Field} (ht : P.underlying t = some (.struct fs)) (h : Rd P t A Q) : RdV P t (.agg A) Q := fun H enc w base spare held r b0 v d ps hv hx => by
  obtain ⟨cs, rfl, _⟩ := okWide_struct ht hv
  obtain ⟨fuel, hf⟩ := hx
  obtain ⟨a, qa, fa⟩ := h H enc w base spare held fuel _ _ hf
  exact ⟨a, qa, cs.toList, by simp, by simpa [Value.cells] using fa⟩
theorem rdv_slice (ht : P.underlying t = some (.slice e)) (hs : P.cellsOf e = A.sz) (hz : 0 < A.sz) (h : Rd P e A Q) : RdV P t (.list A) (fun xs => ∀ a ∈ xs, Q a) := fun H enc w base spare held r b0 v d ps hv hx => by
  obtain ⟨a0, len0, cap0, rfl⟩ := okWide_slice ht hv
  obtain ⟨fuel, hf⟩ := hx
  rcases open_slice ht hf with ⟨hcs, _⟩ | ⟨a, len, cap, m, n, D, Pl, hcs, hb, hl, hm, hmm, _, hel⟩
  · simp [Value.cells] at hcs
    obtain ⟨rfl, rfl, rfl⟩ := hcs
    exact ⟨[], by simp, rs_nil _ _⟩
  · simp [Value.cells] at hcs
    obtain ⟨rfl, rfl, rfl⟩ := hcs
    have hle : len0 ≤ m := by subst hmm; split <;> omega
    have key : ∀ i, i < len0 → ∃ x : α, Q x ∧ ∃ cs', cs'.length = A.sz ∧ SV.fits 0 (wh w) (A.cells x) cs' ∧ ∀ j, j < A.sz → w.cell? ((a.add (i * A.sz)).add j) = cs'[j]? := fun i hi => by
      obtain ⟨cs', h1, h2⟩ := hel i (by omega)
      obtain ⟨x, qx, fx⟩ := h H enc w base spare held n cs' _ h2
      rw [hs] at h1
      obtain ⟨_, h3, h4⟩ := World.cells?_some h1
      exact ⟨x, qx, cs', h3, fx, h4⟩
    haveI : Inhabited α := ⟨A.dflt⟩
    obtain ⟨f, hf⟩ := choose_lt (α := α) (fun i hi => key i hi)
    refine ⟨(List.range len0).map f, ?_, ?_⟩
    · intro x hx
      obtain ⟨i, hi, rfl⟩ := List.mem_map.1 hx
      exact (hf i (by simpa using hi)).1
    · simp only [Dv.list, SV.fit]
      refine ⟨some a, cap0, by simp, by simpa using hl, hm, fun hpos => ?_⟩
      have hpos : 0 < len0 := by simpa using hpos
      obtain ⟨_, cs0, q1, q2, q3⟩ := hf 0 hpos
      have q4 := q3 0 hz
      obtain ⟨b, o, spot⟩ := a
      have hsome : ∃ v0, cs0[0]? = some v0 := ⟨cs0[0]'(by omega), by simp⟩
      obtain ⟨v0, hv0⟩ := hsome
      rw [hv0] at q4
      have hspot : spot = none := by simpa [Addr.add] using World.cell?_spot q4
      subst hspot
      have hblk : ∃ cs t fz, w.heap[b]? = some (.cells cs t fz) := by
        simp only [add_none, World.cell?] at q4
        split at q4
        · rename_i c _ _ hh
          exact ⟨_, _, _, hh⟩
        · cases q4
      obtain ⟨cs, t', fz, hh⟩ := hblk
      refine ⟨b, o, cs, t', fz, rfl, hh, fun i hi => ?_⟩
      have hi : i < len0 := by simpa using hi
      obtain ⟨_, cs', k1, k2, k3⟩ := hf i hi
      refine ⟨cs', k1, ?_, fun j v hjv => ?_⟩
      · simpa [El.els, List.getD_eq_getElem?_getD, hi] using k2
      · have hj : j < A.sz := by
          have := (List.getElem?_eq_some_iff.1 hjv).1
          omega
        have := k3 j hj
        rw [hjv] at this
        simp only [add_none, World.cell?, hh] at this
        simpa using this
end
end Go.Sx

/- Chapter 3: what the rows read of their arguments. -/
namespace Go.Proofs.Ytiipneclghnfhaa
open Go.RowKit Go.Sx
def W1 (n : Int) : Prop := (Lit.int .i64 n).wf = true
def W4 (a : I4) : Prop := W1 a.1 ∧ W1 a.2.1 ∧ W1 a.2.2.1 ∧ W1 a.2.2.2
def W6 (a : I6) : Prop := W1 a.1 ∧ W1 a.2.1 ∧ W4 a.2.2
def W8 (a : I8) : Prop := W1 a.1 ∧ W1 a.2.1 ∧ W1 a.2.2.1 ∧ W1 a.2.2.2.1 ∧ W4 a.2.2.2.2
def S.W (s : S) : Prop := W8 s.toP
def T.W (t : T) : Prop := W6 t.toP
theorem rd2 : Rd Try.prog 2 eI W1 := rd_int Try.underlying2
theorem rd3 : Rd Try.prog 3 eI W1 := rd_int Try.underlying3
theorem rd28 : Rd Try.prog 28 e4 W4 := rd_array (ts := [2, 2, 2, 2]) Try.underlying28 rfl (by kernel_rfl) (rds_cons rd2 (rds_cons rd2 (rds_cons rd2 (rds_one rd2))))
theorem rd30 : Rd Try.prog 30 eT T.W := rd_iso (Q := W6) (rd_struct (ts := [2, 3, 28]) Try.underlying30 rfl (by kernel_rfl) (rds_cons rd2 (rds_cons rd3 (rds_one rd28)))) _ _ _ _
theorem rdvT : RdV Try.prog 30 dT T.W := rdv_struct Try.underlying30 rd30
theorem rdvLT : RdV Try.prog 22 dLT (fun l => ∀ s ∈ l, T.W s) := rdv_slice Try.underlying22 (by kernel_rfl) (by decide) rd30
end Go.Proofs.Ytiipneclghnfhaa

/- The row of ChainLeastSaid, from the law's contract. Printed by rowgen.py. -/
namespace Go.Proofs.Ytiipneclghnfhaa
open Go.ChangeShapes Go.WideShapes Go.ChangeAt Go.RowKit Go.Sx

theorem Try.own : ownKnob Try.prog.godebug = none := by kernel_rfl
theorem Try.laidOut : laidOutB Try.prog = true := by kernel_rfl
set_option maxRecDepth 100000 in
theorem chainLeast_lifted (law : FnPure Try.prog 3 aL dBool (fun _ => true) (fun _ => [])) (os : Os) (started : os.Started) (H : Type) (enc : TypeId × Value → H) :
    ReturnsInHanded {} Try.checked os 3 .any (Rows.chainLeastSpec.pre6 enc Try.prog Try.f3 Rows.chainLeastRow.domain false) (Rows.chainLeastSpec.post enc Try.prog Try.f3 false true false false) := by
  refine returnsInHanded_of_change (C := Try.checked) Try.own started (by kernel_rfl) Try.func3
    (ChangeSpec.witness6 (enc := enc) (C := Try.checked) false ⟨#[], #[.slice none 0 0], []⟩ 8 (by kernel_rfl) (by kernel_rfl) (by kernel_rfl) (by kernel_rfl)) ?_
  intro W base args ds gs before hval0 hW hcnd _
  have hval : ∀ (j : Nat) t v, Try.f3.params[j]? = some t → args[j]? = some v → Value.okWide Try.prog W .any base t v := hval0
  have hW' := hW
  obtain ⟨p, q, hA0, hV, rfl, hfz, hnd⟩ := hW
  have hA : DataW.TrodAll enc Try.prog W 0 (fun _ => true) true Try.f3.params.toList args.toList ds p := hA0
  rw [Try.params3] at hA hval
  obtain ⟨v0, vs0, d0, ds0, p0, qq0, hargs, rfl, rfl, h0, r0⟩ := trodAll_cons hA
  obtain ⟨rfl, rfl, rfl⟩ := trodAll_nil r0
  obtain rfl : args = #[v0] := by cases args; simp_all
  obtain ⟨rfl, rfl⟩ := trodVars_none hV
  obtain ⟨a0, q0, f0⟩ := rdvLT _ _ _ _ _ _ _ _ _ _ _ (hval 0 22 v0 rfl rfl) h0
  have lt : ∀ {t : TypeId} {v : Value} {d : DataW H} {ps : List MemPlace}, DataW.Trod enc Try.prog W 0 (fun _ => true) true t v d ps → ∀ x ∈ ps, x.block < W.heap.size := by
    rintro t v d ps ⟨m, hm⟩
    exact DataW.trod_lt m _ _ _ hm
  clear hA0 hval0
  refine (law W (fun b => W.heap[b]?) (a0) [v0] (fun _ _ h => h) (by simp) ⟨f0, trivial⟩).mono fun e W' ⟨x, he, bel, hx⟩ => ?_
  obtain rfl : x = .bool true := by simpa [dBool, SV.fit] using hx
  subst he
  exact ⟨_, rfl, _, _, _, [], _, [], hW', trodAll_mk1 (shut_bool Try.underlying4 _),
    (trodAll_cons_mk (Below.trod Try.laidOut (by kernel_rfl) (of_decide_eq_true (by kernel_rfl)) h0 bel (lt h0)) trodAll_mk0), rfl, bel.frame _, fun h => by cases h⟩

theorem chainLeast_over (law : FnPure Try.prog 3 aL dBool (fun _ => true) (fun _ => [])) : Rows.ChainLeastSaid :=
  OpenClaim.holds_of_wide 3 Try.f3 rfl rfl rfl rfl rfl rfl rfl ⟨rfl, rfl, rfl, rfl, rfl⟩ rfl rfl rfl rfl rfl (by kernel_rfl) Try.func3 (by kernel_rfl)
    (of_decide_eq_true (by kernel_rfl)) (by unfold Func.isWrapper; first | (rw [if_pos (by decide +kernel)]; kernel_rfl) | (rw [if_neg (by decide +kernel)]; exact ⟨rfl, rfl⟩))
    (fun os started H enc _ => chainLeast_lifted law os started H enc)
end Go.Proofs.Ytiipneclghnfhaa

/- The law ChainLeast of chapter 3 is proved: for every input the function returns true, and its arguments read as they did. No condition. -/
namespace Go.Proofs.Ytiipneclghnfhaa
open Go.RowKit Go.Sx
theorem chainLeast_holds : Rows.ChainLeastSaid := chainLeast_over lst_ok
end Go.Proofs.Ytiipneclghnfhaa
