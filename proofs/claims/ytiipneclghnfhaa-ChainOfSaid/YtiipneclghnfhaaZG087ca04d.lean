/- Loops over lists, and what they come to: plain laws for all chapters. -/
import Derived.Test.YtiipneclghnfhaaZG078a2f4a
import Derived.Calls
import Derived.RunT
import Derived.StepT
import Derived.Shelf.SlSortCmp.WholeK
import Derived.Shelf.SlSortCmp.NoneTotal
set_option linter.unusedVariables false
set_option linter.unusedSimpArgs false
set_option linter.constructorNameAsVariable false
set_option linter.all false

namespace Go.Lp
open Go.Sx
abbrev w64 (n : Int) : Int := IntKind.i64.wrap n
theorem wr {n : Int} (h : 0 ≤ n ∧ n ≤ 9223372036854775807) : w64 n = n := by
  unfold w64
  simp [IntKind.wrap, IntKind.bits, IntKind.signed]
  omega
/-- What asks of lists is given. -/
def inR (n i : Int) : Prop := 0 ≤ i ∧ i ≤ n ∧ n ≤ 9223372036854775807

section
variable {α σ : Type}
/-! ### where the first is of which something holds -/
abbrev FiG (α σ : Type) := List α × σ × Int × Int × Int
def fiF (d : α) (p : σ → α → Bool) (g : FiG α σ) : Ex × FiG α σ :=
  bif decide (g.2.2.2.1 < g.2.2.1) then
    bif p g.2.1 (g.1.getD g.2.2.2.1.toNat d) then (.ret, g.1, g.2.1, g.2.2.1, g.2.2.2.1, g.2.2.2.1) else (.normal, g.1, g.2.1, g.2.2.1, w64 (g.2.2.2.1 + 1), g.2.2.2.2)
  else (.exit 0, g)
def fiI (g : FiG α σ) : List Prop := [g.2.2.1 = (g.1.length : Int) ∧ g.1.length ≤ maxLen ∧ 0 ≤ g.2.2.2.1 ∧ g.2.2.2.1 ≤ (g.1.length : Int)]
def fiM (g : FiG α σ) : Nat := (g.2.2.1 - g.2.2.2.1).toNat
theorem fi_goes (d : α) (p : σ → α → Bool) : Goes (fiF d p) fiM fun g => allP (fiI g) := by
  rintro ⟨xs, s, n, i, r0⟩ hi hn
  obtain ⟨h1, h2, h3, h4⟩ := hi _ (List.mem_cons_self ..)
  simp only at h1 h2 h3 h4
  unfold maxLen at h2
  unfold fiF at hn ⊢
  simp only at hn ⊢
  by_cases hlt : i < n
  · simp only [hlt, decide_true, cond_true] at hn ⊢
    cases hp : p s (xs.getD i.toNat d) with
    | true => rw [hp] at hn; cases hn
    | false =>
      simp only [cond_false]
      rw [wr (by omega)]
      refine ⟨fun q hq => ?_, ?_⟩
      · simp only [fiI, List.mem_singleton] at hq
        subst hq
        exact ⟨h1, by unfold maxLen; omega, by show (0 : Int) ≤ i + 1; omega, by show i + 1 ≤ (xs.length : Int); omega⟩
      · simp only [fiM]; omega
  · simp only [hlt, decide_false, cond_false] at hn
    cases hn
/-- What it comes to. -/
theorem fi_run (d : α) (p : σ → α → Bool) : ∀ g : FiG α σ, allP (fiI g) →
    (((loopF (fiF d p) fiM g).1 = .ret ∧ 0 ≤ (loopF (fiF d p) fiM g).2.2.2.2.2 ∧ (loopF (fiF d p) fiM g).2.2.2.2.2 < (g.1.length : Int) ∧ (g.1.drop g.2.2.2.1.toNat).any (p g.2.1) = true) ∨
     ((loopF (fiF d p) fiM g).1 = .exit 0 ∧ (g.1.drop g.2.2.2.1.toNat).any (p g.2.1) = false)) := by
  refine loopF_induct (fi_goes d p) (Q := fun g r => ((r.1 = .ret ∧ 0 ≤ r.2.2.2.2.2 ∧ r.2.2.2.2.2 < (g.1.length : Int) ∧ (g.1.drop g.2.2.2.1.toNat).any (p g.2.1) = true) ∨ (r.1 = .exit 0 ∧ (g.1.drop g.2.2.2.1.toNat).any (p g.2.1) = false))) ?_ ?_
  · rintro ⟨xs, s, n, i, r0⟩ hi hn
    obtain ⟨h1, h2, h3, h4⟩ := hi _ (List.mem_cons_self ..)
    simp only at h1 h2 h3 h4
    unfold fiF at hn ⊢
    simp only at hn ⊢
    by_cases hlt : i < n
    · simp only [hlt, decide_true, cond_true] at hn ⊢
      have hlt' : i.toNat < xs.length := by omega
      have hd : xs.drop i.toNat = xs.getD i.toNat d :: xs.drop (i.toNat + 1) := by
        rw [List.drop_eq_getElem_cons hlt']
        simp [List.getD_eq_getElem?_getD, hlt']
      cases hp : p s (xs.getD i.toNat d) with
      | true =>
        left
        simp only [cond_true]
        refine ⟨trivial, h3, by omega, ?_⟩
        rw [hd, List.any_cons, hp]; rfl
      | false => rw [hp] at hn; exact absurd rfl hn
    · right
      simp only [hlt, decide_false, cond_false]
      refine ⟨trivial, ?_⟩
      rw [List.drop_eq_nil_of_le (by omega)]; rfl
  · rintro ⟨xs, s, n, i, r0⟩ g' r hi he hi' _ hq
    obtain ⟨h1, h2, h3, h4⟩ := hi _ (List.mem_cons_self ..)
    simp only at h1 h2 h3 h4
    unfold maxLen at h2
    unfold fiF at he
    simp only at he
    by_cases hlt : i < n
    · simp only [hlt, decide_true, cond_true] at he
      have hlt' : i.toNat < xs.length := by omega
      have hd : xs.drop i.toNat = xs.getD i.toNat d :: xs.drop (i.toNat + 1) := by
        rw [List.drop_eq_getElem_cons hlt']
        simp [List.getD_eq_getElem?_getD, hlt']
      cases hp : p s (xs.getD i.toNat d) with
      | true => rw [hp] at he; cases he
      | false =>
        rw [hp] at he
        simp only [cond_false, Prod.mk.injEq, true_and] at he
        subst he
        simp only at hq ⊢
        rw [wr (by omega)] at hq
        rw [hd, List.any_cons, hp, Bool.false_or]
        have : (i + 1).toNat = i.toNat + 1 := by omega
        rw [this] at hq
        exact hq
    · simp only [hlt, decide_false, cond_false] at he
      cases he
theorem fi_any (d : α) (p : σ → α → Bool) (xs : List α) (s : σ) (r0 : Int) (h : xs.length ≤ maxLen) :
    ((exB .ret (loopF (fiF d p) fiM (xs, s, (xs.length : Int), 0, r0)).1) = xs.any (p s)) ∧ ((loopF (fiF d p) fiM (xs, s, (xs.length : Int), 0, r0)).1 = .ret → 0 ≤ (loopF (fiF d p) fiM (xs, s, (xs.length : Int), 0, r0)).2.2.2.2.2) := by
  have h0 : allP (fiI ((xs, s, (xs.length : Int), (0 : Int), r0) : FiG α σ)) := fun q hq => by
    simp only [fiI, List.mem_singleton] at hq
    subst hq
    exact ⟨trivial, h, Int.le_refl _, by show (0 : Int) ≤ (xs.length : Int); omega⟩
  rcases fi_run d p (xs, s, (xs.length : Int), 0, r0) h0 with ⟨h1, h2, _, h3⟩ | ⟨h1, h3⟩
  · refine ⟨?_, fun _ => h2⟩
    rw [h1]
    have h4 : (xs.drop 0).any (p s) = true := h3
    rw [List.drop_zero] at h4
    exact h4.symm
  · refine ⟨?_, fun h => ?_⟩
    · rw [h1]
      have : (xs.drop 0).any (p s) = false := h3
      simp only [List.drop_zero] at this
      rw [this]; rfl
    · rw [h1] at h; cases h

/-! ### are two lists the same -/
abbrev SaG (α : Type) := List α × List α × Int × Bool
def saF (d : α) (eq : α → α → Bool) (g : SaG α) : Ex × SaG α :=
  bif decide (g.2.2.1 < (g.1.length : Int)) then
    bif !eq (g.1.getD g.2.2.1.toNat d) (g.2.1.getD g.2.2.1.toNat d) then (.ret, g.1, g.2.1, g.2.2.1, false) else (.normal, g.1, g.2.1, w64 (g.2.2.1 + 1), g.2.2.2)
  else (.exit 0, g)
def saI (g : SaG α) : List Prop := [g.1.length = g.2.1.length ∧ g.1.length ≤ maxLen ∧ 0 ≤ g.2.2.1 ∧ g.2.2.1 ≤ (g.1.length : Int)]
def saM (g : SaG α) : Nat := ((g.1.length : Int) - g.2.2.1).toNat
theorem sa_goes (d : α) (eq : α → α → Bool) : Goes (saF d eq) saM fun g => allP (saI g) := by
  rintro ⟨xs, ys, i, r0⟩ hi hn
  obtain ⟨h1, h2, h3, h4⟩ := hi _ (List.mem_cons_self ..)
  simp only at h1 h2 h3 h4
  unfold maxLen at h2
  unfold saF at hn ⊢
  simp only at hn ⊢
  by_cases hlt : i < (xs.length : Int)
  · simp only [hlt, decide_true, cond_true] at hn ⊢
    cases hp : !eq (xs.getD i.toNat d) (ys.getD i.toNat d) with
    | true => rw [hp] at hn; cases hn
    | false =>
      simp only [cond_false]
      rw [wr (by omega)]
      refine ⟨fun q hq => ?_, ?_⟩
      · simp only [saI, List.mem_singleton] at hq
        subst hq
        exact ⟨h1, by unfold maxLen; omega, by show (0 : Int) ≤ i + 1; omega, by show i + 1 ≤ (xs.length : Int); omega⟩
      · simp only [saM]; omega
  · simp only [hlt, decide_false, cond_false] at hn
    cases hn
theorem sa_run (d : α) (eq : α → α → Bool) (heq : ∀ a b, eq a b = true ↔ a = b) : ∀ g : SaG α, allP (saI g) →
    (((loopF (saF d eq) saM g).1 = .ret ∧ (loopF (saF d eq) saM g).2.2.2.2 = false ∧ g.1.drop g.2.2.1.toNat ≠ g.2.1.drop g.2.2.1.toNat) ∨ ((loopF (saF d eq) saM g).1 = .exit 0 ∧ g.1.drop g.2.2.1.toNat = g.2.1.drop g.2.2.1.toNat)) := by
  refine loopF_induct (sa_goes d eq) (Q := fun g r => ((r.1 = .ret ∧ r.2.2.2.2 = false ∧ g.1.drop g.2.2.1.toNat ≠ g.2.1.drop g.2.2.1.toNat) ∨ (r.1 = .exit 0 ∧ g.1.drop g.2.2.1.toNat = g.2.1.drop g.2.2.1.toNat))) ?_ ?_
  · rintro ⟨xs, ys, i, r0⟩ hi hn
    obtain ⟨h1, h2, h3, h4⟩ := hi _ (List.mem_cons_self ..)
    simp only at h1 h2 h3 h4
    unfold saF at hn ⊢
    simp only at hn ⊢
    by_cases hlt : i < (xs.length : Int)
    · simp only [hlt, decide_true, cond_true] at hn ⊢
      have l1 : i.toNat < xs.length := by omega
      have l2 : i.toNat < ys.length := by omega
      cases hp : !eq (xs.getD i.toNat d) (ys.getD i.toNat d) with
      | true =>
        left
        simp only [cond_true]
        refine ⟨trivial, trivial, fun hc => ?_⟩
        rw [List.drop_eq_getElem_cons l1, List.drop_eq_getElem_cons l2] at hc
        injection hc with hc _
        have : eq (xs.getD i.toNat d) (ys.getD i.toNat d) = true := (heq _ _).2 (by simp [List.getD_eq_getElem?_getD, l1, l2, hc])
        rw [this] at hp; cases hp
      | false => rw [hp] at hn; exact absurd rfl hn
    · right
      simp only [hlt, decide_false, cond_false]
      refine ⟨trivial, ?_⟩
      rw [List.drop_eq_nil_of_le (by omega), List.drop_eq_nil_of_le (by omega)]
  · rintro ⟨xs, ys, i, r0⟩ g' r hi he hi' _ hq
    obtain ⟨h1, h2, h3, h4⟩ := hi _ (List.mem_cons_self ..)
    simp only at h1 h2 h3 h4
    unfold maxLen at h2
    unfold saF at he
    simp only at he
    by_cases hlt : i < (xs.length : Int)
    · simp only [hlt, decide_true, cond_true] at he
      have l1 : i.toNat < xs.length := by omega
      have l2 : i.toNat < ys.length := by omega
      cases hp : !eq (xs.getD i.toNat d) (ys.getD i.toNat d) with
      | true => rw [hp] at he; cases he
      | false =>
        rw [hp] at he
        simp only [cond_false, Prod.mk.injEq, true_and] at he
        subst he
        simp only at hq ⊢
        rw [wr (by omega)] at hq
        have e1 : (i + 1).toNat = i.toNat + 1 := by omega
        rw [e1] at hq
        have e2 : xs[i.toNat] = ys[i.toNat] := by
          have h5 : eq (xs.getD i.toNat d) (ys.getD i.toNat d) = true := by simpa using hp
          have h6 := (heq _ _).1 h5
          simpa [List.getD_eq_getElem?_getD, l1, l2] using h6
        rw [List.drop_eq_getElem_cons l1, List.drop_eq_getElem_cons l2, e2]
        simp only [List.cons.injEq, true_and, ne_eq]
        exact hq
    · simp only [hlt, decide_false, cond_false] at he
      cases he
theorem sa_eq [DecidableEq α] (d : α) (eq : α → α → Bool) (heq : ∀ a b, eq a b = true ↔ a = b) (xs ys : List α) (r0 : Bool) (h : xs.length ≤ maxLen) (hl : xs.length = ys.length) :
    (bif exB .ret (loopF (saF d eq) saM (xs, ys, 0, r0)).1 then (loopF (saF d eq) saM (xs, ys, 0, r0)).2.2.2.2 else true) = decide (xs = ys) := by
  have h0 : allP (saI ((xs, ys, (0 : Int), r0) : SaG α)) := fun q hq => by
    simp only [saI, List.mem_singleton] at hq
    subst hq
    exact ⟨hl, h, Int.le_refl _, by show (0 : Int) ≤ (xs.length : Int); omega⟩
  rcases sa_run d eq heq (xs, ys, 0, r0) h0 with ⟨h1, h3, h2⟩ | ⟨h1, h2⟩
  · rw [h1, h3]
    have : xs ≠ ys := by simpa using h2
    simp [this, exB]
  · rw [h1]
    have : xs = ys := by simpa using h2
    simp [this, exB]
end
end Go.Lp

/- The loops of slices.Compact, and what they come to. -/
namespace Go.Lp
open Go.Sx
section
variable {α : Type} [DecidableEq α]
/-- Of equal ones that stand side by side the first, behind one. -/
def dd (p : α) : List α → List α
  | [] => []
  | y :: r => if y = p then dd p r else y :: dd y r
def compL : List α → List α
  | [] => []
  | x :: r => x :: dd x r
abbrev CpG (α : Type) := Nat × List α × Int × (Nat × Nat) × Int
def cpF (d : α) (g : CpG α) : Ex × CpG α :=
  bif decide (g.2.2.2.2 < (g.2.2.2.1.2 : Int)) then
    (.normal, g.1,
      (bif !decide (g.2.1.getD (g.2.2.2.1.1 + g.2.2.2.2.toNat) d = g.2.1.getD (g.2.2.2.1.1 + (w64 (g.2.2.2.2 - 1)).toNat) d) then g.2.1.set g.2.2.1.toNat (g.2.1.getD (g.2.2.2.1.1 + g.2.2.2.2.toNat) d) else g.2.1),
      (bif !decide (g.2.1.getD (g.2.2.2.1.1 + g.2.2.2.2.toNat) d = g.2.1.getD (g.2.2.2.1.1 + (w64 (g.2.2.2.2 - 1)).toNat) d) then w64 (g.2.2.1 + 1) else g.2.2.1),
      g.2.2.2.1, w64 (g.2.2.2.2 + 1))
  else (.exit 2, g)
def cpI (g : CpG α) : List Prop := [g.1 = g.2.1.length ∧ g.2.1.length ≤ maxLen ∧ g.2.2.2.1.1 + g.2.2.2.1.2 = g.2.1.length ∧ 1 ≤ g.2.2.2.2 ∧ g.2.2.2.2 ≤ (g.2.2.2.1.2 : Int) ∧ 0 ≤ g.2.2.1 ∧ g.2.2.1 ≤ (g.2.2.2.1.1 : Int) + g.2.2.2.2 - 1]
def cpM (g : CpG α) : Nat := ((g.2.2.2.1.2 : Int) - g.2.2.2.2).toNat
theorem cp_goes (d : α) : Goes (cpF d) cpM fun g => allP (cpI g) := by
  rintro ⟨l, xs, k, ⟨o, n⟩, j⟩ hi hn
  obtain ⟨h1, h2, h3, h4, h5, h6, h7⟩ := hi _ (List.mem_cons_self ..)
  simp only at h1 h2 h3 h4 h5 h6 h7
  unfold maxLen at h2
  unfold cpF at hn ⊢
  simp only at hn ⊢
  by_cases hlt : j < (n : Int)
  · simp only [hlt, decide_true, cond_true] at hn ⊢
    rw [wr (n := j + 1) (by omega), wr (n := k + 1) (by omega)]
    generalize (!decide (xs.getD (o + j.toNat) d = xs.getD (o + (w64 (j - 1)).toNat) d)) = c
    refine ⟨fun q hq => ?_, ?_⟩
    · simp only [cpI, List.mem_singleton] at hq
      subst hq
      have hl : (bif c then xs.set k.toNat (xs.getD (o + j.toNat) d) else xs).length = xs.length := by cases c <;> simp
      simp only [hl]
      cases c
      · exact ⟨h1, by unfold maxLen; omega, h3, by omega, by omega, by simp only [cond_false]; omega, by simp only [cond_false]; omega⟩
      · exact ⟨h1, by unfold maxLen; omega, h3, by omega, by omega, by simp only [cond_true]; omega, by simp only [cond_true]; omega⟩
    · simp only [cpM]; omega
  · simp only [hlt, decide_false, cond_false] at hn
    cases hn
theorem cp_run (d : α) : ∀ g : CpG α, allP (cpI g) →
    (loopF (cpF d) cpM g).1 = .exit 2 ∧ (loopF (cpF d) cpM g).2.1 = g.1 ∧ (loopF (cpF d) cpM g).2.2.1.length = g.2.1.length ∧ 0 ≤ (loopF (cpF d) cpM g).2.2.2.1 ∧ (loopF (cpF d) cpM g).2.2.2.1 < (g.2.1.length : Int) ∧
      (loopF (cpF d) cpM g).2.2.1.take (loopF (cpF d) cpM g).2.2.2.1.toNat = g.2.1.take g.2.2.1.toNat ++ dd (g.2.1.getD (g.2.2.2.1.1 + g.2.2.2.2.toNat - 1) d) (g.2.1.drop (g.2.2.2.1.1 + g.2.2.2.2.toNat)) := by
  refine loopF_induct (cp_goes d) (Q := fun g r => r.1 = .exit 2 ∧ r.2.1 = g.1 ∧ r.2.2.1.length = g.2.1.length ∧ 0 ≤ r.2.2.2.1 ∧ r.2.2.2.1 < (g.2.1.length : Int) ∧
      r.2.2.1.take r.2.2.2.1.toNat = g.2.1.take g.2.2.1.toNat ++ dd (g.2.1.getD (g.2.2.2.1.1 + g.2.2.2.2.toNat - 1) d) (g.2.1.drop (g.2.2.2.1.1 + g.2.2.2.2.toNat))) ?_ ?_
  · rintro ⟨l, xs, k, ⟨o, n⟩, j⟩ hi hn
    obtain ⟨h1, h2, h3, h4, h5, h6, h7⟩ := hi _ (List.mem_cons_self ..)
    simp only at h1 h2 h3 h4 h5 h6 h7
    unfold cpF at hn ⊢
    simp only at hn ⊢
    by_cases hlt : j < (n : Int)
    · simp only [hlt, decide_true, cond_true] at hn
      exact absurd rfl hn
    · simp only [hlt, decide_false, cond_false]
      refine ⟨trivial, trivial, trivial, h6, by omega, ?_⟩
      rw [List.drop_eq_nil_of_le (by omega)]
      simp [dd]
  · rintro ⟨l, xs, k, ⟨o, n⟩, j⟩ g' r hi he hi' _ hq
    obtain ⟨h1, h2, h3, h4, h5, h6, h7⟩ := hi _ (List.mem_cons_self ..)
    simp only at h1 h2 h3 h4 h5 h6 h7
    unfold maxLen at h2
    unfold cpF at he
    simp only at he
    by_cases hlt : j < (n : Int)
    · simp only [hlt, decide_true, cond_true, Prod.mk.injEq, true_and] at he
      subst he
      rw [wr (n := j + 1) (by omega), wr (n := k + 1) (by omega), wr (n := j - 1) (by omega)] at hq
      simp only at hq ⊢
      have hy : o + j.toNat < xs.length := by omega
      have e1 : o + (j - 1).toNat = o + j.toNat - 1 := by omega
      have e2 : o + (j + 1).toNat - 1 = o + j.toNat := by omega
      have e3 : o + (j + 1).toNat = o + j.toNat + 1 := by omega
      rw [e1, e2, e3] at hq
      have hd : xs.drop (o + j.toNat) = xs.getD (o + j.toNat) d :: xs.drop (o + j.toNat + 1) := by
        rw [List.drop_eq_getElem_cons hy]
        simp [List.getD_eq_getElem?_getD, hy]
      rw [hd]
      simp only [dd]
      by_cases hc : xs.getD (o + j.toNat) d = xs.getD (o + j.toNat - 1) d
      · simp only [hc, decide_true, Bool.not_true, cond_false] at hq
        rw [if_pos hc]
        exact hq
      · simp only [hc, decide_false, Bool.not_false, cond_true] at hq
        rw [if_neg hc]
        obtain ⟨q1, q2, q3, q4, q5, q6⟩ := hq
        simp only [List.length_set] at q3 q5
        refine ⟨q1, q2, q3, q4, q5, ?_⟩
        rw [q6]
        have hk : k.toNat < xs.length := by omega
        have e4 : (k + 1).toNat = k.toNat + 1 := by omega
        rw [e4]
        have e5 : (xs.set k.toNat (xs.getD (o + j.toNat) d)).take (k.toNat + 1) = xs.take k.toNat ++ [xs.getD (o + j.toNat) d] := by
          rw [List.take_add_one, List.take_set_of_le (Nat.le_refl _), List.getElem?_set_self hk]
          rfl
        have e6 : (xs.set k.toNat (xs.getD (o + j.toNat) d)).drop (o + j.toNat + 1) = xs.drop (o + j.toNat + 1) := by
          rw [List.drop_set_of_lt (by omega)]
        have e7 : (xs.set k.toNat (xs.getD (o + j.toNat) d)).getD (o + j.toNat) d = xs.getD (o + j.toNat) d := by
          simp only [List.getD_eq_getElem?_getD]
          by_cases h8 : k.toNat = o + j.toNat
          · omega
          · rw [List.getElem?_set_ne h8]
        rw [e5, e6, e7]
        simp
    · simp only [hlt, decide_false, cond_false] at he
      cases he
end
end Go.Lp

/- slices.Compact: the outer loop, and what all comes to. -/
namespace Go.Lp
open Go.Sx
section
variable {α : Type} [DecidableEq α]
/-- The first of a list, so many. -/
def pfx (d : α) (n : Nat) (xs : List α) : List α := (List.range n).map fun e => xs.getD e d
theorem pfx_take (d : α) {n : Nat} {xs : List α} (h : n ≤ xs.length) : pfx d n xs = xs.take n := by
  apply List.ext_getElem
  · simp [pfx]; omega
  · intro i h1 h2
    simp only [pfx, List.length_map, List.length_range] at h1
    have : i < xs.length := by omega
    simp [pfx, List.getD_eq_getElem?_getD, this]
theorem lst_pfx (A : El α) (n : Nat) (xs : List α) : A.lst n (A.els xs) = pfx A.dflt n xs := by
  simp only [El.lst, El.els, El.get_cells, pfx]
abbrev CoG (α : Type) := Nat × List α × Int × (Bool × Nat)
noncomputable def coQ (d : α) (g : CoG α) : Ex × CpG α := loopF (cpF d) cpM (g.1, g.2.1, g.2.2.1, (g.2.2.1.toNat, g.1 - g.2.2.1.toNat), 1)
noncomputable def coF (d : α) (g : CoG α) : Ex × CoG α :=
  bif decide (g.2.2.1 < (g.1 : Int)) then
    bif decide (g.2.1.getD g.2.2.1.toNat d = g.2.1.getD (w64 (g.2.2.1 - 1)).toNat d) then
      (.ret, (coQ d g).2.1, pfx d (coQ d g).2.2.2.1.toNat (coQ d g).2.2.1, (coQ d g).2.2.2.1, (true, (coQ d g).2.2.2.1.toNat))
    else (.normal, g.1, g.2.1, w64 (g.2.2.1 + 1), g.2.2.2)
  else (.exit 0, g)
def coI (d : α) (g : CoG α) : List Prop := [g.1 = g.2.1.length ∧ g.2.1.length ≤ maxLen ∧ 1 ≤ g.2.2.1 ∧ g.2.2.1 ≤ (g.2.1.length : Int) ∧ compL g.2.1 = g.2.1.take g.2.2.1.toNat ++ dd (g.2.1.getD (g.2.2.1.toNat - 1) d) (g.2.1.drop g.2.2.1.toNat)]
def coM (g : CoG α) : Nat := ((g.1 : Int) - g.2.2.1).toNat
theorem co_goes (d : α) : Goes (coF d) coM fun g => allP (coI d g) := by
  rintro ⟨l, xs, k, r⟩ hi hn
  obtain ⟨h1, h2, h3, h4, h5⟩ := hi _ (List.mem_cons_self ..)
  simp only at h1 h2 h3 h4 h5
  unfold maxLen at h2
  unfold coF at hn ⊢
  simp only at hn ⊢
  by_cases hlt : k < (l : Int)
  · simp only [hlt, decide_true, cond_true] at hn ⊢
    by_cases hc : xs.getD k.toNat d = xs.getD (w64 (k - 1)).toNat d
    · simp only [hc, decide_true, cond_true] at hn
      cases hn
    · simp only [hc, decide_false, cond_false]
      rw [wr (n := k + 1) (by omega)]
      refine ⟨fun q hq => ?_, ?_⟩
      · simp only [coI, List.mem_singleton] at hq
        subst hq
        refine ⟨h1, by unfold maxLen; omega, by show 1 ≤ k + 1; omega, by show k + 1 ≤ (xs.length : Int); omega, ?_⟩
        show compL xs = xs.take (k + 1).toNat ++ dd (xs.getD ((k + 1).toNat - 1) d) (xs.drop (k + 1).toNat)
        rw [wr (n := k - 1) (by omega)] at hc
        have hk : k.toNat < xs.length := by omega
        have e1 : (k + 1).toNat = k.toNat + 1 := by omega
        have e2 : (k - 1).toNat = k.toNat - 1 := by omega
        rw [e2] at hc
        have hd : xs.drop k.toNat = xs.getD k.toNat d :: xs.drop (k.toNat + 1) := by
          rw [List.drop_eq_getElem_cons hk]
          simp [List.getD_eq_getElem?_getD, hk]
        have ht : xs.take (k.toNat + 1) = xs.take k.toNat ++ [xs.getD k.toNat d] := by
          rw [List.take_add_one]
          simp [List.getD_eq_getElem?_getD, hk]
        rw [h5, hd, e1, Nat.add_sub_cancel, ht]
        simp only [dd]
        rw [if_neg hc]
        simp
      · simp only [coM]; omega
  · simp only [hlt, decide_false, cond_false] at hn
    cases hn
theorem co_run (d : α) : ∀ g : CoG α, allP (coI d g) →
    ((loopF (coF d) coM g).1 = .ret ∧ (loopF (coF d) coM g).2.1 = g.1 ∧ (loopF (coF d) coM g).2.2.1 = compL g.2.1 ∧ (loopF (coF d) coM g).2.2.2.2 = (true, (compL g.2.1).length)) ∨
    ((loopF (coF d) coM g).1 = .exit 0 ∧ (loopF (coF d) coM g).2.1 = g.1 ∧ (loopF (coF d) coM g).2.2.1 = g.2.1 ∧ compL g.2.1 = g.2.1) := by
  refine loopF_induct (co_goes d) (Q := fun g r => (r.1 = .ret ∧ r.2.1 = g.1 ∧ r.2.2.1 = compL g.2.1 ∧ r.2.2.2.2 = (true, (compL g.2.1).length)) ∨ (r.1 = .exit 0 ∧ r.2.1 = g.1 ∧ r.2.2.1 = g.2.1 ∧ compL g.2.1 = g.2.1)) ?_ ?_
  · rintro ⟨l, xs, k, r⟩ hi hn
    obtain ⟨h1, h2, h3, h4, h5⟩ := hi _ (List.mem_cons_self ..)
    simp only at h1 h2 h3 h4 h5
    have h2' := h2
    unfold maxLen at h2
    unfold coF at hn ⊢
    simp only at hn ⊢
    by_cases hlt : k < (l : Int)
    · simp only [hlt, decide_true, cond_true] at hn ⊢
      by_cases hc : xs.getD k.toNat d = xs.getD (w64 (k - 1)).toNat d
      · left
        simp only [hc, decide_true, cond_true]
        rw [wr (n := k - 1) (by omega)] at hc
        have hk : k.toNat < xs.length := by omega
        have e2 : (k - 1).toNat = k.toNat - 1 := by omega
        rw [e2] at hc
        have hI : allP (cpI ((l, xs, k, (k.toNat, l - k.toNat), 1) : CpG α)) := fun q hq => by
          simp only [cpI, List.mem_singleton] at hq
          subst hq
          exact ⟨h1, h2', by show k.toNat + (l - k.toNat) = xs.length; omega, Int.le_refl _, by show (1 : Int) ≤ ((l - k.toNat : Nat) : Int); omega, by show 0 ≤ k; omega, by show k ≤ (k.toNat : Int) + 1 - 1; omega⟩
        obtain ⟨c1, c2, c3, c4, c5, c6⟩ := cp_run d _ hI
        simp only at c2 c3 c5 c6
        unfold coQ
        simp only
        have e3 : k.toNat + (1 : Int).toNat - 1 = k.toNat := by
          have : (1 : Int).toNat = 1 := rfl
          omega
        have e4 : k.toNat + (1 : Int).toNat = k.toNat + 1 := rfl
        rw [e3, e4] at c6
        have hd : xs.drop k.toNat = xs.getD k.toNat d :: xs.drop (k.toNat + 1) := by
          rw [List.drop_eq_getElem_cons hk]
          simp [List.getD_eq_getElem?_getD, hk]
        have hcomp : compL xs = xs.take k.toNat ++ dd (xs.getD k.toNat d) (xs.drop (k.toNat + 1)) := by
          rw [h5, hd]
          simp only [dd]
          rw [if_pos hc, hc]
        rw [← hcomp] at c6
        generalize loopF (cpF d) cpM (l, xs, k, (k.toNat, l - k.toNat), 1) = q at c1 c2 c3 c4 c5 c6 ⊢
        have hle : q.2.2.2.1.toNat ≤ q.2.2.1.length := by omega
        rw [pfx_take d hle, c6]
        refine ⟨trivial, c2, rfl, ?_⟩
        rw [← c6, List.length_take]
        congr 1
        omega
      · simp only [hc, decide_false, cond_false] at hn
        exact absurd rfl hn
    · right
      simp only [hlt, decide_false, cond_false]
      refine ⟨trivial, trivial, trivial, ?_⟩
      rw [h5, List.drop_eq_nil_of_le (by omega), List.take_of_length_le (by omega)]
      simp [dd]
  · rintro ⟨l, xs, k, r⟩ g' r' hi he hi' _ hq
    unfold coF at he
    simp only at he
    by_cases hlt : k < (l : Int)
    · simp only [hlt, decide_true, cond_true] at he
      by_cases hc : xs.getD k.toNat d = xs.getD (w64 (k - 1)).toNat d
      · simp only [hc, decide_true, cond_true] at he
        cases he
      · simp only [hc, decide_false, cond_false, Prod.mk.injEq, true_and] at he
        subst he
        exact hq
    · simp only [hlt, decide_false, cond_false] at he
      cases he
theorem comp_small {xs : List α} (h : xs.length < 2) : compL xs = xs := by
  match xs, h with
  | [], _ => rfl
  | [x], _ => rfl
end
end Go.Lp

/- A run draws from the tape only forwards: what has been drawn is never given back. -/
namespace Go.Sx

def rw' {α : Type} : Result α → World
  | .ok _ w => w
  | .halt _ w => w

theorem ask_drawn {α : Type} : ∀ (a : Ask α) (w : World), w.drawn ≤ (w.ask a).2.drawn
  | .done _, w => by simp [World.ask]
  | .ask what range k, w => by
    rw [World.ask]
    split
    · exact ask_drawn (k 0) w
    · exact Nat.le_trans (Nat.le_succ _) (ask_drawn _ { w with drawn := w.drawn + 1 })

theorem sys_drawn (w : World) (c : Sys) : w.drawn ≤ (w.sys c).2.drawn := by
  have h := ask_drawn (Kernel.perform c w.os) w
  unfold World.sys
  split
  · exact Nat.le_refl _
  · rename_i he
    rw [he] at h
    exact h

theorem farStore_drawn {P : Program} {w w' : World} {a : Addr} {v : Value} {b : Bool} {l : List Addr} (h : w.farStore P a v b = .ok (w', l)) : w.drawn ≤ w'.drawn := by
  unfold World.farStore at h
  split at h
  · rename_i at_ u _
    split at h
    · rename_i r hr
      injection h with h
      subst h
      unfold World.viewStore at hr
      simp only [bind, Except.bind, pure, Except.pure, throw, throwThe, MonadExceptOf.throw] at hr
      repeat' (first | (split at hr) | (cases hr))
      all_goals (first | exact Nat.le_refl _ | (simp at hr; done) | skip)
    · cases h
  · cases h

theorem run_drawn {α : Type} (P : Program) : ∀ (s : Sem α) (w : World), w.drawn ≤ (rw' (s.run P w)).drawn := by
  intro s
  induction s with
  | pure a => intro w; exact Nat.le_refl _
  | load m a k ih =>
    intro w
    simp only [Sem.run]
    split
    · exact ih _ _
    · split
      · exact ih _ _
      · exact Nat.le_refl _
  | store m a v k ih =>
    intro w
    cases v <;> simp only [Sem.run] <;> (try exact Nat.le_refl _)
    all_goals
      split
      · split
        · exact Nat.le_refl _
        · exact ih (w.setCell a _)
      · split
        · rename_i h
          exact Nat.le_trans (farStore_drawn h) (ih _)
        · exact Nat.le_refl _
  | new o k ih => intro w; exact ih _ { w with heap := w.heap.push o }
  | shape r k ih => intro w; exact ih _ _
  | freeze a n k ih =>
    intro w
    have h : (w.freeze a n).drawn = w.drawn := by unfold World.freeze; split <;> rfl
    have := ih (w.freeze a n)
    rw [h] at this
    exact this
  | frozen a k ih => intro w; exact ih _ _
  | getObj r k ih =>
    intro w
    simp only [Sem.run]
    split
    · exact Nat.le_refl _
    · exact ih _ _
    · exact Nat.le_refl _
  | setObj r o k ih =>
    intro w
    simp only [Sem.run]
    split
    · exact Nat.le_refl _
    · exact ih { w with heap := w.heap.setIfInBounds r o }
    · exact Nat.le_refl _
  | choose q k ih =>
    intro w
    simp only [Sem.run]
    split
    · exact ih _ _
    · exact Nat.le_trans (Nat.le_succ _) (ih _ { w with drawn := w.drawn + 1 })
  | sys c k ih => intro w; exact Nat.le_trans (sys_drawn w c) (ih _ _)
  | program k ih => intro w; exact ih _ _
  | mark m k ih => intro w; exact ih _
  | halt h => intro w; exact Nat.le_refl _

theorem runT_drawn {α : Type} (P : Program) (s : Sem α) (w : World) (es : Array Event) : w.drawn ≤ (rw' (s.runT P w es).1).drawn := by
  rw [Sem.runT_fst]; exact run_drawn P s w

section
variable {α : Type} {P : Program} {s : Sem α} {w w' : World} {a : α} {es es' : Array Event} {x : Halt}
theorem run_ok (h : s.run P w = .ok a w') : w.drawn ≤ w'.drawn := by have := run_drawn P s w; rw [h] at this; exact this
theorem run_halt (h : s.run P w = .halt x w') : w.drawn ≤ w'.drawn := by have := run_drawn P s w; rw [h] at this; exact this
theorem runT_ok (h : s.runT P w es = (.ok a w', es')) : w.drawn ≤ w'.drawn := by have := runT_drawn P s w es; rw [h] at this; exact this
theorem runT_halt (h : s.runT P w es = (.halt x w', es')) : w.drawn ≤ w'.drawn := by have := runT_drawn P s w es; rw [h] at this; exact this
theorem runT1_ok (h : (s.runT P w es).1 = .ok a w') : w.drawn ≤ w'.drawn := by have := runT_drawn P s w es; rw [h] at this; exact this
theorem runT1_halt (h : (s.runT P w es).1 = .halt x w') : w.drawn ≤ w'.drawn := by have := runT_drawn P s w es; rw [h] at this; exact this
end
/-- What is drawn behind a step of a goroutine. -/
def Up (n : Nat) : GStep → Prop
  | .go _ w _ => n ≤ w.drawn
  | .comm _ _ _ _ w _ => n ≤ w.drawn
  | .spawn _ _ w _ => n ≤ w.drawn
  | .count _ w _ => n ≤ w.drawn
  | .timer _ _ w _ => n ≤ w.drawn
  | .alone _ _ w _ => n ≤ w.drawn
  | .newcoro _ _ _ w _ => n ≤ w.drawn
  | .coroswitch _ _ _ w _ => n ≤ w.drawn
  | .collect _ w _ => n ≤ w.drawn
  | .watch _ w _ => n ≤ w.drawn
  | .ended _ _ _ => True
theorem up_after {n : Nat} {es : Array Event} {s : GStep} : Up n (GStep.after es s) ↔ Up n s := by cases s <;> exact Iff.rfl
theorem up_mono {n m : Nat} {s : GStep} (h : n ≤ m) (hu : Up m s) : Up n s := by
  cases s <;> first | exact trivial | exact Nat.le_trans h hu

theorem ite_up {n : Nat} {c : Prop} [Decidable c] {x y : GStep} (hx : Up n x) (hy : Up n y) : Up n (if c then x else y) := by
  split
  · exact hx
  · exact hy
theorem elim_up {n : Nat} {α : Type} {o : Option α} {x : GStep} {f : α → GStep} (hx : Up n x) (hf : ∀ a, Up n (f a)) : Up n (o.elim x f) := by
  cases o
  · exact hx
  · exact hf _
theorem endWith_up (w : World) (fd : Nat) (text : ByteArray) (o : Outcome) : Up w.drawn (endWith w fd text o) := by
  unfold endWith
  have := sys_drawn w (.write fd text)
  generalize w.sys (.write fd text) = x at this ⊢
  obtain ⟨r, w'⟩ := x
  cases r <;> simp only <;> (try split) <;> exact trivial
theorem dieOf_up (fr : Frame) (l : List ByteArray) (m : String) (b : Bool) (w : World) : Up w.drawn (dieOf fr l m b w) := Nat.le_refl _
theorem endThrow_up (fr : Frame) (m : String) (w : World) : Up w.drawn (endThrow fr m w) := Nat.le_refl _
theorem endPrinting_up (P : Program) (fr : Frame) (v : Value) (w : World) : Up w.drawn (endPrinting P fr v w) := by
  have : ∀ o : Option String, Up w.drawn (match o with
    | some s => endThrow fr ("panic while printing panic value" ++ s) w
    | none => .ended (.unsupported (.noEntry "a panic in Error or String during the report of a panic, with a value that cannot be shown") "") w) := fun o => by
    cases o with
    | some s => exact endThrow_up _ _ _
    | none => trivial
  exact this _
theorem endFatal_up (P : Program) (fr : Frame) (cs : List Frame) (d : Option Dying) (m : String) (w : World) : Up w.drawn (endFatal P fr cs d m w) := by
  unfold endFatal
  simp only
  split
  · rename_i w' h
    exact up_mono (run_ok h) (dieOf_up _ _ _ _ _)
  · trivial
  · trivial
theorem writeOn_up (P : Program) (fr : Frame) (d : Dying) (f : Fatal) (w : World) : Up w.drawn (writeOn P fr d f w) := by
  unfold writeOn
  simp only
  split
  · trivial
  · split
    · rename_i h
      exact runT_ok h
    · rename_i h
      exact runT_halt h
    · trivial
    · trivial
theorem die_up (P : Program) (fr : Frame) (d : Dying) (w : World) : Up w.drawn (die P fr d w) := by
  unfold die
  split
  · exact writeOn_up _ _ _ _ _
  · split
    · split
      · exact Nat.le_refl _
      · exact endWith_up _ _ _ _
    · simp only
      split
      · exact Nat.le_refl _
      · split
        · rename_i h
          exact run_ok h
        · trivial
      · rw [up_after]
        split
        · rename_i h; exact runT1_ok h
        · rename_i h; exact runT1_ok h
        · trivial
        · rename_i h; exact up_mono (runT1_halt h) (endPrinting_up _ _ _ _)
        · trivial
      · trivial

theorem early_up (P : Program) (fr : Frame) (cs : List Frame) (d : Option Dying) (g : Nat) (w : World) : Up w.drawn (early P fr cs d g w) := by
  have hn : ∀ w' : World, w.drawn ≤ w'.drawn → Up w.drawn (match w'.heap[g]? with
    | some (.pending c elem) =>
      .go { frame := fr, callers := cs, status := .running, dying := d } { w' with heap := w'.heap.setIfInBounds g (.cells c elem) }
    | _ => .ended (.stuck "early: the variable does not wait" (fr.pos P)) w') := fun w' h => by
    split
    · exact h
    · trivial
  unfold early
  simp only
  repeat' split
  all_goals (first | exact trivial | exact Nat.le_refl _ | exact hn _ (Nat.le_refl _) | skip)
  all_goals (first | (rename_i h; have h9 := run_ok h; exact h9) | (rename_i h _; have h9 := run_ok h; exact h9) | (rename_i h _ _; have h9 := run_ok h; exact h9) | (rename_i h _ _ _; have h9 := run_ok h; exact h9) | (rename_i h _ _ _ _; have h9 := run_ok h; exact h9) | (rename_i h _ _ _ _ _; have h9 := run_ok h; exact h9) | (rename_i h _ _ _ _ _ _; have h9 := run_ok h; exact h9))
theorem doReturn_up (P : Program) (main : Bool) (fr : Frame) (cs : List Frame) (d : Option Dying) (v : Value) (w : World) : Up w.drawn (doReturn P main fr cs d v w) := by
  unfold doReturn
  repeat' split
  all_goals (first | exact trivial | exact Nat.le_refl _)
theorem callDeferred_up (P : Program) (fr : Frame) (cs : List Frame) (dy : Option Dying) (d : Deferred) (w : World) : Up w.drawn (callDeferred P fr cs dy d w) := by
  unfold callDeferred
  refine ite_up trivial ?_
  · have := runT_drawn P (invoke d.target d.args) w #[]
    simp only
    rw [up_after]
    generalize ((invoke d.target d.args).runT P w #[]).1 = r at this ⊢
    repeat' split
    all_goals (first | exact trivial | exact this | exact up_mono this (endFatal_up _ _ _ _ _ _) | exact up_mono this (endThrow_up _ _ _))
theorem unwind_up (P : Program) (main : Bool) (fr : Frame) (cs : List Frame) (dy : Option Dying) (w : World) : Up w.drawn (unwind P main fr cs dy w) := by
  unfold unwind
  split
  · rename_i block _ _ _
    have := runT_drawn P (Instr.takeDeferred block) w #[]
    simp only
    rw [up_after]
    generalize ((Instr.takeDeferred block).runT P w #[]).1 = r at this ⊢
    split
    · exact this
    · trivial
  · exact callDeferred_up _ _ _ _ _ _
  · split
    · trivial
    · split
      · trivial
      · split
        · exact Nat.le_refl _
        · split
          · split
            · exact Nat.le_refl _
            · split
              · rename_i h
                exact run_ok h
              · trivial
              · trivial
          · split
            · exact endPrinting_up _ _ _ _
            · trivial
    · split
      · exact doReturn_up _ _ _ _ _ _ _
      · rename_i fn _
        have := runT_drawn P (results fn fr.tmps) w #[]
        simp only
        rw [up_after]
        generalize ((results fn fr.tmps).runT P w #[]).1 = r at this ⊢
        split
        · exact up_mono this (doReturn_up _ _ _ _ _ _ _)
        · trivial
        · trivial
theorem apply_up (P : Program) (b : Bool) (fr : Frame) (cs : List Frame) (dy : Option Dying) (s : Sem Next) (w : World) : Up w.drawn (stepG.apply P b fr cs dy s w) := by
  unfold stepG.apply
  have hr : w.drawn ≤ (rw' (if b = true then s.runT P w #[] else (s.run P w, #[])).1).drawn := by
    split
    · exact runT_drawn P s w #[]
    · exact run_drawn P s w
  simp only
  rw [up_after]
  generalize (if b = true then s.runT P w #[] else (s.run P w, #[])) = x at hr ⊢
  obtain ⟨r, es⟩ := x
  simp only at hr ⊢
  split
  all_goals (try split)
  all_goals (first | exact trivial | exact hr | exact up_mono hr (endFatal_up _ _ _ _ _ _) | exact up_mono hr (endThrow_up _ _ _) | exact up_mono hr (early_up _ _ _ _ _ _) | exact ite_up (up_mono hr (endThrow_up _ _ _)) hr)
theorem oper_up (P : Program) (b : Bool) (fr : Frame) (cs : List Frame) (dy : Option Dying) (w : World) : Up w.drawn (stepG.oper P b fr cs dy w) := by
  unfold stepG.oper
  split
  · trivial
  · split <;> exact apply_up _ _ _ _ _ _ _
theorem exec_up (P : Program) (main b : Bool) (fr : Frame) (cs : List Frame) (dy : Option Dying) (w : World) : Up w.drawn (stepG.exec P main b fr cs dy w) := by
  unfold stepG.exec
  simp only
  split
  all_goals (try first | exact trivial | exact Nat.le_refl _ | exact apply_up _ _ _ _ _ _ _ | exact oper_up _ _ _ _ _ _)
  all_goals repeat' (first | exact trivial | exact Nat.le_refl _ | exact apply_up _ _ _ _ _ _ _ | exact oper_up _ _ _ _ _ _ | rw [up_after] | refine elim_up ?_ fun _ => ?_ | split)
  all_goals (first | (exact up_mono (runT1_ok (by assumption)) (doReturn_up _ _ _ _ _ _ _)) | (exact up_mono (runT1_ok (by assumption)) (apply_up _ _ _ _ _ _ _)) | exact runT1_ok (by assumption) | exact runT1_halt (by assumption) | exact run_ok (by assumption))
theorem stepG_up (P : Program) (main : Bool) (g : Goroutine) (w : World) (b : Bool) : Up w.drawn (stepG P main g w b) := by
  unfold stepG
  simp only
  split
  · exact die_up _ _ _ _
  · exact exec_up _ _ _ _ _ _ _
  · exact unwind_up _ _ _ _ _ _

/-- What is drawn behind a step of a machine. -/
def UpS (n : Nat) : Stepped → Prop
  | .next m => n ≤ m.world.drawn
  | .ended _ _ => True
theorem upS_mono {n m : Nat} {s : Stepped} (h : n ≤ m) (hu : UpS m s) : UpS n s := by
  cases s <;> first | exact trivial | exact Nat.le_trans h hu
theorem look_up (P : Program) (gs : Array Goroutine) (rest : Rest) (w : World) : UpS w.drawn (Go.look P gs rest w) := by
  unfold Go.look
  simp only
  repeat' split
  all_goals (first | exact trivial | (rename_i h; have h9 := run_ok h; exact h9) | (rename_i h _; have h9 := run_ok h; exact h9) | (rename_i h _ _; have h9 := run_ok h; exact h9) | (rename_i h _ _ _; have h9 := run_ok h; exact h9) | (rename_i h _ _ _ _; have h9 := run_ok h; exact h9) | (rename_i h _ _ _ _ _; have h9 := run_ok h; exact h9) | (rename_i h _ _ _ _ _ _; have h9 := run_ok h; exact h9))
theorem serve_up (P : Program) (m : Machine) (k : Nat) : UpS m.world.drawn (serve P m k) := by
  unfold serve
  simp only
  repeat' split
  all_goals (first | exact trivial | exact Nat.le_refl _)
theorem drain_up (w : World) (c : Nat) : w.drawn ≤ (drain w c).2.drawn := by
  unfold drain
  split <;> exact Nat.le_refl _
theorem retime_up (m : Machine) (k : Nat) (t : Timer) (a b : Nat) : m.world.drawn ≤ (retime m k t a b).2.world.drawn := by
  unfold retime
  simp only
  split
  · exact drain_up _ _
  · exact Nat.le_refl _
theorem timerOp_up {m m' : Machine} {op : TimerOp} {v : Value} (h : timerOp m op = .ok (v, m')) : m.world.drawn ≤ m'.world.drawn := by
  have hnm : ∀ (m0 : Machine) (var : Addr) (f : Nat → Timer → Value × Machine), (∀ k t, m.world.drawn ≤ (f k t).2.world.drawn) → timerOp.named m0 var f = .ok (v, m') → m.world.drawn ≤ m'.world.drawn := fun m0 var f hf h => by
    unfold timerOp.named at h
    split at h
    · rename_i k _
      injection h with h
      have := hf k (m0.rest.timers.getD k default)
      rw [h] at this
      exact this
    · cases h
  unfold timerOp at h
  split at h
  · split at h
    · cases h; exact Nat.le_refl _
    · split at h
      · split at h
        · cases h
        · cases h; exact Nat.le_refl _
      · cases h
  · exact hnm _ _ _ (fun k t => retime_up m k t _ _) h
  · split at h
    · rename_i m1 ho
      refine hnm _ _ _ (fun k t => Nat.le_trans ?_ (retime_up m1 k t _ _)) h
      unfold timerOp.opened at ho
      split at ho
      · split at ho
        · cases ho; exact Nat.le_refl _
        · cases ho
      · cases ho; exact Nat.le_refl _
    · cases h
  · cases h; exact Nat.le_refl _
theorem communicate_up (P : Program) (rest : Rest) (gs : Array Goroutine) (i : Nat) (g : Goroutine) (cases_ : Array CommCase) (b : Bool) (shape : CommShape) (w : World) : UpS w.drawn (communicate P rest gs i g cases_ b shape w).1 := by
  unfold communicate
  simp only
  split
  · trivial
  · split
    · split
      · split
        · rename_i h
          unfold waitingAt at h
          split at h
          · split at h
            · cases h; exact Nat.le_refl _
            · cases h
          · cases h; exact Nat.le_refl _
        · trivial
      · exact Nat.le_refl _
    · split
      · trivial
      · rename_i hr
        have hr := run_ok hr
        refine upS_mono hr ?_
        repeat' split
        all_goals (first | exact trivial | exact Nat.le_refl _ | (rename_i h; have h9 := run_ok h; exact h9) | (rename_i h _; have h9 := run_ok h; exact h9) | (rename_i h _ _; have h9 := run_ok h; exact h9) | (rename_i h _ _ _; have h9 := run_ok h; exact h9) | (rename_i h _ _ _ _; have h9 := run_ok h; exact h9) | (rename_i h _ _ _ _ _; have h9 := run_ok h; exact h9) | (rename_i h _ _ _ _ _ _; have h9 := run_ok h; exact h9) | (rename_i h; have h9 := run_halt h; exact h9) | (rename_i h _; have h9 := run_halt h; exact h9) | (rename_i h _ _; have h9 := run_halt h; exact h9) | (rename_i h _ _ _; have h9 := run_halt h; exact h9) | (rename_i h _ _ _ _; have h9 := run_halt h; exact h9) | (rename_i h _ _ _ _ _; have h9 := run_halt h; exact h9) | (rename_i h _ _ _ _ _ _; have h9 := run_halt h; exact h9))
theorem runT_up (P : Program) (m : Machine) (i : Nat) (b : Bool) : UpS m.world.drawn (runT P m i b).1 := by
  unfold runT
  simp only
  generalize hs : stepG P (i == 0) _ m.world b = s
  have hu := stepG_up P (i == 0) (m.gs.swapAt! i { (default : Goroutine) with status := .finished }).1 m.world b
  rw [hs] at hu
  split
  · trivial
  · exact upS_mono hu (communicate_up _ _ _ _ _ _ _ _ _)
  · exact hu
  · exact hu
  · split
    · trivial
    · exact hu
  · exact hu
  · exact upS_mono hu (look_up _ _ _ _)
  · exact hu
  · exact hu
  · split
    · exact hu
    · split
      · rename_i h
        cases h; exact hu
      · trivial
    · trivial
  · split
    · rename_i h
      have := timerOp_up h
      exact Nat.le_trans hu this
    · split
      · rename_i h
        cases h; exact hu
      · trivial
    · trivial
    · trivial
def UpM (n : Nat) : Move → Prop
  | .goroutine m _ => n ≤ m.world.drawn
  | .machine s _ => UpS n s
theorem upM_mono {n m : Nat} {s : Move} (h : n ≤ m) (hu : UpM m s) : UpM n s := by
  cases s
  · exact Nat.le_trans h hu
  · exact upS_mono h hu
theorem pick_up (P : Program) (rs : List Nat) (m : Machine) : UpM m.world.drawn (match (choose (.sched rs.length)).run P m.world with
      | .halt _ w => .machine (.ended (.stuck "sched" "") w)
      | .ok k world =>
        if rs.length ≤ 1 then .goroutine { m with world } (rs.getD k 0) else
        match (choose (.extern "sched.slice" 65536)).run P world with
        | .halt _ w => .machine (.ended (.stuck "sched.slice" "") w)
        | .ok n world => .goroutine { m with world, rest := { m.rest with slice := if n = 0 then none else some (rs.getD k 0, n) } } (rs.getD k 0)) := by
  split
  · trivial
  · rename_i h1
    split
    · exact run_ok h1
    · split
      · trivial
      · rename_i h2
        exact Nat.le_trans (run_ok h1) (run_ok h2)
theorem askOn_up (P : Program) (m : Machine) : UpM m.world.drawn (askOn P m) := by
  unfold askOn
  simp only
  split
  · trivial
  · rename_i world h
    have h0 := run_ok h
    split
    · exact upS_mono h0 (serve_up P { m with world } _)
    · split
      · split
        · exact h0
        · split
          · exact h0
          · split <;> trivial
      · split
        · exact upM_mono h0 (pick_up P _ { m with world })
        · split
          · trivial
          · rename_i h2
            have h3 := run_ok h2
            exact upM_mono (Nat.le_trans h0 h3) (pick_up P (runnable m.gs m.world.os.mono) { m with world := _ })
          · rename_i h2
            have h3 := run_ok h2
            exact Nat.le_trans h0 h3
          · rename_i h2
            have h3 := run_ok h2
            exact upM_mono (Nat.le_trans h0 h3) (pick_up P (runnable m.gs m.world.os.mono) (Machine.advanceTo { m with world := _ } _))
theorem ask_up (P : Program) (m : Machine) : UpM m.world.drawn (ask P m) := by
  unfold ask
  split
  · split
    · trivial
    · rename_i h
      have h1 := run_ok h
      have h2 := look_up P m.gs m.rest (by assumption)
      split
      · rename_i h3
        rw [h3] at h2
        exact upM_mono (Nat.le_trans h1 h2) (askOn_up _ _)
      · exact upS_mono h1 h2
    · rename_i h
      exact upM_mono (run_ok h) (askOn_up _ _)
  · exact askOn_up _ _
theorem move_up (P : Program) (m : Machine) : UpM m.world.drawn (move P m) := by
  unfold move
  repeat' split
  all_goals (first | exact trivial | exact Nat.le_refl _ | exact ask_up _ _)
theorem step_up (P : Program) (m : Machine) : UpS m.world.drawn (step P m) := by
  unfold step stepT
  have := move_up P m
  split
  · rename_i h
    rw [h] at this
    exact upS_mono this (runT_up _ _ _ _)
  · rename_i h
    rw [h] at this
    exact this
theorem steps_up {P : Program} {m m' : Machine} (h : Steps P m m') : m.world.drawn ≤ m'.world.drawn := by
  obtain ⟨n, h⟩ := h
  induction n generalizing m with
  | zero => simp only [runN, Stepped.next.injEq] at h; subst h; exact Nat.le_refl _
  | succ n ih =>
    simp only [runN] at h
    have := step_up P m
    cases hst : step P m with
    | next m1 =>
      rw [hst] at this h
      exact Nat.le_trans this (ih h)
    | ended o w =>
      rw [hst] at h
      cases h
theorem comes_up {P : Program} {m m' : Machine} {v : Value} (h : Comes P m m' (.returned v)) : m.world.drawn ≤ m'.world.drawn := steps_up h
/-- What a call returns lies behind what it has drawn. -/
theorem calls_drawn {P : Program} {f : FuncId} {args : Array Value} {w : World} {R : Ending → World → Prop} (h : Calls P f args w R) : Calls P f args w fun e w' => R e w' ∧ ∀ v, e = .returned v → w.drawn ≤ w'.drawn := by
  intro cs
  obtain ⟨e, w', fr, h1, h2, h3⟩ := h cs
  refine ⟨e, w', fr, ⟨h1, ?_⟩, h2, h3⟩
  rintro v rfl
  exact comes_up h2
end Go.Sx

/- The library's SortFunc at structs, as a function that writes a row of one's own: the shelf's contract, led over to plain lists. -/
namespace Go.Sx
open Go.RowKit Go.Proofs Go.Sort

theorem grow_of_below {w w' : World} (h : Go.RowKit.Below w.heap.size w w') (hd : w.drawn ≤ w'.drawn) : ∃ q os, w' = grow (w.drewN q) os := by
  refine ⟨w'.drawn - w.drawn, w'.heap.extract w.heap.size w'.heap.size, ?_⟩
  have h1 : w'.heap = w.heap ++ w'.heap.extract w.heap.size w'.heap.size := by
    have hs := h.size
    apply Array.ext_getElem?
    intro i
    by_cases hi : i < w.heap.size
    · rw [h.block i hi, Array.getElem?_append_left hi]
    · rw [Array.getElem?_append_right (by omega), Array.getElem?_extract]
      simp only [Nat.min_self]
      by_cases h2 : i < w'.heap.size
      · rw [if_pos (by omega)]; congr 1; omega
      · rw [if_neg (by omega)]; exact Array.getElem?_eq_none (by omega)
  cases w'
  cases w
  simp only [grow, World.drewN] at *
  have e1 := h.os; have e2 := h.tape; have e3 := h.output
  simp only at e1 e2 e3
  subst e1; subst e2; subst e3
  rw [← h1]
  simp only [World.mk.injEq, true_and, and_true]
  omega

/-- No two of a list that are not one come out alike. -/
def Anti {α : Type} (cf : α → α → Int) (xs : List α) : Prop := ∀ x ∈ xs, ∀ y ∈ xs, ¬ cf x y < 0 → ¬ cf y x < 0 → x = y
/-- A list, sorted. -/
def srtBy {α : Type} (cf : α → α → Int) (xs : List α) : List α := xs.mergeSort fun x y => !decide (cf y x < 0)
theorem pair_unique {α : Type} {le : α → α → Prop} : ∀ {xs ys : List α}, (∀ x ∈ xs, ∀ y ∈ xs, le x y → le y x → x = y) → xs.Perm ys → xs.Pairwise le → ys.Pairwise le → xs = ys
  | [], ys, _, h, _, _ => by simpa using h
  | x :: xs, [], _, h, _, _ => by simp at h
  | x :: xs, y :: ys, ha, h, h1, h2 => by
    have hxy : x = y := by
      have m1 : x ∈ y :: ys := h.subset (List.mem_cons_self ..)
      have m2 : y ∈ x :: xs := h.symm.subset (List.mem_cons_self ..)
      rcases List.mem_cons.1 m1 with rfl | m1
      · rfl
      · rcases List.mem_cons.1 m2 with rfl | m2
        · rfl
        · exact ha x (List.mem_cons_self ..) y (List.mem_cons_of_mem _ m2) ((List.pairwise_cons.1 h1).1 _ m2) ((List.pairwise_cons.1 h2).1 _ m1)
    subst hxy
    rw [pair_unique (fun a h3 b h4 => ha a (List.mem_cons_of_mem _ h3) b (List.mem_cons_of_mem _ h4)) (List.Perm.cons_inv h) (List.pairwise_cons.1 h1).2 (List.pairwise_cons.1 h2).2]
theorem srtBy_perm {α : Type} (cf : α → α → Int) (xs : List α) : (srtBy cf xs).Perm xs := List.mergeSort_perm _ _
theorem srtBy_sorted {α : Type} (cf : α → α → Int) (hO : SWO fun x y => decide (cf x y < 0)) (xs : List α) : (srtBy cf xs).Pairwise fun x y => ¬ cf y x < 0 := by
  have := List.pairwise_mergeSort (le := fun x y : α => !decide (cf y x < 0)) (fun a b c h1 h2 => by
    have := hO.ntrans c b a
    simp_all) (fun a b => by
    cases h : decide (cf b a < 0) with
    | false => simp
    | true =>
      cases h' : decide (cf a b < 0) with
      | false => simp
      | true =>
        have := hO.trans _ _ _ h h'
        rw [hO.irrefl] at this
        cases this) xs
  exact this.imp fun h => by simpa using h
theorem srtBy_unique {α : Type} {cf : α → α → Int} (hO : SWO fun x y => decide (cf x y < 0)) {xs ys : List α} (ha : Anti cf xs) (hp : ys.Perm xs) (hs : ys.Pairwise fun x y => ¬ cf y x < 0) : ys = srtBy cf xs := by
  refine pair_unique (le := fun x y => ¬ cf y x < 0) (fun x hx y hy h1 h2 => ?_) (hp.trans (srtBy_perm cf xs).symm) hs (srtBy_sorted cf hO xs)
  exact ha x (hp.subset hx) y (hp.subset hy) h2 h1

theorem fits_map1 {n : Nat} {ρ : Rh} {l : List SV} {v : List Value} (h : l.all SV.one = true) (hf : SV.fits n ρ l v) : ∀ x ∈ v, x.oneCell' = true := by
  induction l generalizing v with
  | nil => have := fits_nil hf; subst this; simp
  | cons s l ih =>
    obtain ⟨x, r, rfl, h1, h2⟩ := fits_cons hf
    simp only [List.all_cons, Bool.and_eq_true] at h
    intro y hy
    rcases List.mem_cons.1 hy with rfl | hy
    · exact SV.one_fit h.1 h1
    · exact ih h.2 h2 y hy

section
variable {P : Program} {ρ : Go.Shelf.Ren} {α : Type} {A : El α} {t g : Nat} {cf : α → α → Int} {pre : α × α → List Prop}
set_option maxHeartbeats 1000000 in
/-- SortFunc at structs. -/
theorem sort_mut (L : SlLaysF0.n6 P ρ) (aE : ∀ w, (isAgg (ρ.t 24)).run P w = .ok true w) (zE : ∀ w, (Go.sizeOf (ρ.t 24)).run P w = .ok A.sz w) (hz : 0 < A.sz) (eg : ∀ args w, (callFunc g args).run P w = .ok (.enter g args) w)
    (hO : SWO fun x y => decide (cf x y < 0)) (hcmp : FnPure P g (DA.cons (Dv.agg A) (DA.one (Dv.agg A))) (dInt .i64) (fun x => cf x.1 x.2) pre) :
    FnMut P (ρ.f 6) t A (DA.one (dFn g)) (RM.pure (Dv.tup DA.none)) (fun xs _ => (srtBy cf xs, ())) (fun xs _ => [xs.length < 4611686018427387904, Anti cf xs, ∀ x ∈ xs, ∀ y ∈ xs, ∀ p ∈ pre (x, y), p]) := by
  intro w F Lc0 xs _ v0 vs hF hFo hv0 hpre hrow hfit
  have hlen := hpre _ (List.mem_cons_self ..)
  have hanti := hpre _ (List.mem_cons_of_mem _ (List.mem_cons_self ..))
  have hpp := hpre _ (List.mem_cons_of_mem _ (List.mem_cons_of_mem _ (List.mem_cons_self ..)))
  obtain ⟨vf, r, rfl, hvf, hr⟩ := fits_cons hfit
  have := fits_nil hr
  subst this
  obtain ⟨lf, rfl, hlf⟩ := hvf
  have := fits_nil hlf
  subst this
  cases hxs : xs with
  | nil =>
    subst hxs
    have hv : ∃ p c, v0 = .slice p 0 c := by
      rcases hv0 with ⟨_, _, a, rfl⟩ | ⟨_, rfl⟩
      · exact ⟨_, _, rfl⟩
      · exact ⟨_, _, rfl⟩
    obtain ⟨p, c, rfl⟩ := hv
    refine (AnyF.slices_SortFunc_none L p c (.func (.func g) #[] #[]) w).mono ?_
    rintro e w' ⟨rfl, rfl⟩
    refine ⟨_, rfl, ⟨rfl, rfl, rfl, Nat.le_refl _, fun _ _ _ => rfl⟩, ?_, fun m i ρ' _ _ _ => ⟨[], rfl, trivial⟩⟩
    have : srtBy cf ([] : List α) = [] := by simp [srtBy]
    simp only [this]
    exact rowA_cl A (ρ := emp F) (fun b o h => by
      simp only [emp, memAt]
      have := (Array.getElem?_eq_some_iff.1 (hF b o h)).1
      rw [if_pos this]; exact h) hrow
  | cons x0 xs0 =>
    have hpos : 0 < xs.length := by rw [hxs]; simp
    rw [← hxs]
    rcases hv0 with ⟨_, h0, _⟩ | ⟨hnl, rfl⟩
    · omega
    rcases hrow.2 with ⟨h0, _⟩ | ⟨_, hoff, c, fz, hob, hfz, hcs, hmc, hcm, hall⟩
    · rw [hnl] at h0; cases h0
    have hblk : Lc0.blk < w.heap.size := (Array.getElem?_eq_some_iff.1 hob).1
    -- elements with their cells
    let β : Type := { p : α × List Value // p.1 ∈ xs ∧ p.2.length = A.sz ∧ SV.fits 0 (emp F) (A.cells p.1) p.2 }
    have hcell : ∀ i (hi : i < xs.length), ∃ l : List Value, l.length = A.sz ∧ SV.fits 0 (emp F) (A.cells xs[i]) l ∧ ∀ j x, l[j]? = some x → c[i * A.sz + j]? = some x := fun i hi => by
      obtain ⟨l, q1, q2, q3⟩ := hall i hi
      refine ⟨l, q1, ?_, fun j x h => by simpa using q3 j x h⟩
      have e0 : A.els xs i = A.cells xs[i] := by simp [El.els, List.getD_eq_getElem?_getD, hi]
      rw [← e0]
      exact q2
    let mk : Fin xs.length → β := fun i => ⟨(xs[i], Classical.choose (hcell i i.2)), List.getElem_mem _, (Classical.choose_spec (hcell i i.2)).1, (Classical.choose_spec (hcell i i.2)).2.1⟩
    letI : Inhabited β := ⟨mk ⟨0, hpos⟩⟩
    let d : Array β := Array.ofFn mk
    have hds : d.size = xs.length := by simp [d]
    have hdi : ∀ i (hi : i < xs.length), d[i]! = mk ⟨i, hi⟩ := fun i hi => by
      rw [getElem!_pos d i (by omega)]
      simp [d]
    let enc : β → List Value := fun x => x.1.2
    let cf' : β → β → Int := fun x y => cf x.1.1 y.1.1
    have hO' : SWO (ltOf cf') := { irrefl := fun x => hO.irrefl x.1.1, trans := fun x y z => hO.trans x.1.1 y.1.1 z.1.1, ntrans := fun x y z => hO.ntrans x.1.1 y.1.1 z.1.1 }
    have hkl : ∀ x, (enc x).length = A.sz := fun x => x.2.2.1
    have hflat : ∀ j, j < xs.length * A.sz → c[j]? = some (flatK enc A.sz d)[j]! := fun j hj => by
      rw [get_flatK _ _ _ _ (by rw [hds]; exact hj)]
      have hdv : j / A.sz < xs.length := Nat.div_lt_of_lt_mul (by rw [Nat.mul_comm]; exact hj)
      rw [hdi _ hdv]
      have hspec := (Classical.choose_spec (hcell (j / A.sz) hdv)).2.2 (j % A.sz)
      have hl : (Classical.choose (hcell (j / A.sz) hdv)).length = A.sz := (Classical.choose_spec (hcell (j / A.sz) hdv)).1
      have hm : j % A.sz < A.sz := Nat.mod_lt _ hz
      have := hspec (Classical.choose (hcell (j / A.sz) hdv))[j % A.sz] (by rw [List.getElem?_eq_getElem])
      rw [Nat.div_add_mod'] at this
      rw [this]
      show some _ = some ((enc (mk ⟨j / A.sz, hdv⟩))[j % A.sz]!)
      rw [getElem!_pos]
    have hsz : (flatK enc A.sz d).size = xs.length * A.sz := by rw [size_flatK, hds]
    have hcb : xs.length * A.sz ≤ c.size := by rw [hcs]; exact Nat.mul_le_mul_right _ hmc
    have hH : HoldsK enc A.sz w Lc0.blk 0 d := by
      intro j hj
      rw [hsz] at hj
      constructor
      · simp only [World.cell?, hob, Option.isSome_none, Bool.false_eq_true, if_false, id_eq, Nat.zero_add]
        exact hflat j hj
      · simp only [World.frozen?, hob, Nat.zero_add]
        have := hfz j (by omega)
        simp only [Bool.and_eq_false_iff, decide_eq_false_iff_not]
        exact Classical.not_and_iff_not_or_not.1 this
    have hmem : ∀ (m : Nat) (dk : Array β) (os : Array Obj) b o, F b = some o → (sortWorldK enc A.sz w Lc0.blk 0 m dk os).heap[b]? = some o := fun m dk os b o hb => by
      have hne : b ≠ Lc0.blk := by
        rintro rfl
        rw [hFo _ ⟨hnl, rfl⟩] at hb; cases hb
      have hlt := (Array.getElem?_eq_some_iff.1 (hF b o hb)).1
      simp only [sortWorldK, grow, putRowK, putRow, mapBlock]
      rw [Array.getElem?_append_left (by simpa using hlt), Array.getElem?_modify, if_neg (fun h => hne h.symm)]
      exact hF b o hb
    have hC : CmpLays P g #[] enc A.sz cf' Lc0.blk 0 d.size w := by
      intro m os dk _ x y
      have hfx : ∀ x : β, (SV.agg (A.cells x.1.1)).fit 0 (emp F) (.agg (enc x).toArray) := fun x => ⟨_, rfl, x.2.2.2⟩
      have := calls_drawn (hcmp (sortWorldK enc A.sz w Lc0.blk 0 m dk os) F (x.1.1, y.1.1) [.agg (enc x).toArray, .agg (enc y).toArray] (hmem m dk os) (hpp _ x.2.1 _ y.2.1) ⟨hfx x, hfx y, trivial⟩)
      refine this.mono ?_
      rintro e w' ⟨⟨x', rfl, hb, hx⟩, hd⟩
      exact ⟨by have hx : x' = _ := hx; rw [hx], grow_of_below hb (hd _ rfl)⟩
    have hmain := AnyQ.slices_SortFunc L A.sz aE zE enc hkl (fun x v hv => fits_map1 (A.one x.1.1) x.2.2.2 v hv) cf' hO' g #[] Lc0.blk 0 Lc0.cap d w eg hC hH hblk (by rw [hds]; exact hlen)
    rw [hds] at hmain
    refine hmain.mono ?_
    rintro e w' ⟨rfl, d', n, os, hp, hs, rfl⟩
    have hd's : d'.size = xs.length := hp.1.trans hds
    -- what the row holds as a list
    have hys : d'.toList.map (fun x => x.1.1) = srtBy cf xs := by
      apply srtBy_unique hO hanti
      · have h1 := hp.2.2
        have e1 : d'.extract 0 xs.length = d' := by rw [← hd's]; simp
        have e2 : d.extract 0 xs.length = d := by rw [← hds]; simp
        rw [e1, e2] at h1
        have h2 := h1.map (fun x : β => x.1.1)
        have e3 : d.toList.map (fun x : β => x.1.1) = xs := by
          apply List.ext_getElem
          · simp [hds]
          · intro i h1 h2
            simp [d, mk]
        rw [e3] at h2
        exact h2
      · rw [List.pairwise_map, List.pairwise_iff_getElem]
        intro i j hi hj hij
        have hi' : i < d'.size := by simpa using hi
        have hj' : j < d'.size := by simpa using hj
        have := hs i j (Nat.zero_le _) hij (by omega)
        rw [getElem!_pos d' i hi', getElem!_pos d' j hj'] at this
        simpa [ltOf, cf'] using this
    have hblock : ∀ k, k < w.heap.size → k ≠ Lc0.blk → (sortWorldK enc A.sz w Lc0.blk 0 n d' os).heap[k]? = w.heap[k]? := fun k hk hne => by
      simp only [sortWorldK, grow, putRowK, putRow, mapBlock]
      rw [Array.getElem?_append_left (by simpa using hk), Array.getElem?_modify, if_neg (fun h => hne h.symm)]
      rfl
    have hnew : (sortWorldK enc A.sz w Lc0.blk 0 n d' os).heap[Lc0.blk]? = some (.cells (putCells id 0 (flatK enc A.sz d') c) t fz) := by
      simp only [sortWorldK, grow, putRowK, putRow, mapBlock]
      rw [Array.getElem?_append_left (by simpa using hblk), Array.getElem?_modify, if_pos rfl]
      show (w.heap[Lc0.blk]?).map _ = _
      rw [hob]
      rfl
    have hle : w.heap.size ≤ (sortWorldK enc A.sz w Lc0.blk 0 n d' os).heap.size := size_sortWorldK_c enc A.sz w Lc0.blk 0 n d' os
    refine ⟨_, rfl, ⟨rfl, rfl, rfl, hle, fun k hk hB => hblock k hk fun h => hB ⟨hnl, h⟩⟩, ?_, fun m i ρ' _ _ _ => ⟨[], rfl, trivial⟩⟩
    have hylen : (srtBy cf xs).length = xs.length := (srtBy_perm cf xs).length_eq
    have hmF : ∀ b o, F b = some o → memAt F w (sortWorldK enc A.sz w Lc0.blk 0 n d' os) b = some o := fun b o h => by
      simp only [memAt]
      rw [if_pos (Array.getElem?_eq_some_iff.1 (hF b o h)).1]; exact h
    refine ⟨by rw [hylen]; exact hrow.1, .inr ⟨hnl, hoff, _, fz, hnew, by simpa [putCells] using hfz, by simpa [putCells] using hcs, by rw [hylen]; exact hmc, hcm, fun e he => ?_⟩⟩
    rw [hylen] at he
    have hed : e < d'.size := by omega
    refine ⟨enc d'[e], hkl _, ?_, fun j x hx => ?_⟩
    · have h1 : (srtBy cf xs).getD e A.dflt = d'[e].1.1 := by
        rw [← hys, List.getD_eq_getElem?_getD]
        simp [hed]
      show SV.fits 0 _ (A.cells ((srtBy cf xs).getD e A.dflt)) _
      rw [h1]
      exact A.cl _ _ _ (emp F) _ _ hmF d'[e].2.2.2
    · have hj : j < A.sz := by
        have := (List.getElem?_eq_some_iff.1 hx).1
        rw [hkl] at this; exact this
      have hlt : e * A.sz + j < xs.length * A.sz := by
        have := Nat.mul_le_mul_right A.sz (show e + 1 ≤ xs.length from he)
        rw [Nat.add_mul, Nat.one_mul] at this; omega
      have hcz : e * A.sz + j < c.size := by omega
      simp only [putCells, Nat.zero_add, Array.getElem?_mapIdx, Array.getElem?_eq_getElem hcz, Option.map_some]
      rw [if_pos ⟨Nat.zero_le _, by rw [size_flatK, hd's]; exact hlt⟩, Nat.sub_zero, id_eq, get_flatK _ _ _ _ (by rw [hd's]; exact hlt)]
      have e1 : (e * A.sz + j) / A.sz = e := by
        rw [Nat.mul_comm, Nat.mul_add_div hz, Nat.div_eq_of_lt hj]; rfl
      have e2 : (e * A.sz + j) % A.sz = j := by
        rw [Nat.mul_comm, Nat.mul_add_mod, Nat.mod_eq_of_lt hj]
      rw [e1, e2, getElem!_pos d' e hed]
      have hj2 : j < (enc d'[e]).length := by rw [hkl]; exact hj
      rw [getElem!_pos (enc d'[e]) j hj2]
      rw [List.getElem?_eq_getElem hj2] at hx
      exact hx
end
end Go.Sx

/- Lists in order: sorted and freed of what stands twice, or put in one by one: the same. -/
namespace Go.Lp
open Go.Sx Go.Sort
section
variable {α : Type} [DecidableEq α] {cf : α → α → Int}
/-- A total order. -/
structure TO (cf : α → α → Int) : Prop where
  swo : SWO fun x y => decide (cf x y < 0)
  anti : ∀ x y, ¬ cf x y < 0 → ¬ cf y x < 0 → x = y
theorem TO.irrefl (h : TO cf) (x : α) : ¬ cf x x < 0 := by have := h.swo.irrefl x; simpa using this
theorem TO.trans (h : TO cf) {x y z : α} (h1 : cf x y < 0) (h2 : cf y z < 0) : cf x z < 0 := by
  have := h.swo.trans x y z (by simpa using h1) (by simpa using h2)
  simpa using this
theorem TO.asymm (h : TO cf) {x y : α} (h1 : cf x y < 0) : ¬ cf y x < 0 := fun h2 => h.irrefl x (h.trans h1 h2)
theorem TO.lt_or (h : TO cf) {x y : α} (hne : x ≠ y) (h1 : ¬ cf x y < 0) : cf y x < 0 := Classical.byContradiction fun h2 => hne (h.anti x y h1 h2)
theorem strict_unique (h : TO cf) : ∀ {l m : List α}, l.Pairwise (fun x y => cf x y < 0) → m.Pairwise (fun x y => cf x y < 0) → (∀ x, x ∈ l ↔ x ∈ m) → l = m
  | [], [], _, _, _ => rfl
  | [], y :: m, _, _, he => by have := (he y).2 (List.mem_cons_self ..); cases this
  | x :: l, [], _, _, he => by have := (he x).1 (List.mem_cons_self ..); cases this
  | x :: l, y :: m, h1, h2, he => by
    rw [List.pairwise_cons] at h1 h2
    have hxy : x = y := by
      have a := (he x).1 (List.mem_cons_self ..)
      have b := (he y).2 (List.mem_cons_self ..)
      rcases List.mem_cons.1 a with e | a
      · exact e
      · rcases List.mem_cons.1 b with e | b
        · exact e.symm
        · exact absurd (h1.1 y b) (h.asymm (h2.1 x a))
    subst hxy
    congr 1
    refine strict_unique h h1.2 h2.2 fun z => ?_
    have := he z
    simp only [List.mem_cons] at this
    constructor
    · intro hz
      rcases this.1 (.inr hz) with e | h3
      · subst e; exact absurd (h1.1 z hz) (h.irrefl z)
      · exact h3
    · intro hz
      rcases this.2 (.inr hz) with e | h3
      · subst e; exact absurd (h2.1 z hz) (h.irrefl z)
      · exact h3
theorem dd_mem : ∀ {r : List α} {p x : α}, x ∈ p :: dd p r ↔ x ∈ p :: r
  | [], _, _ => Iff.rfl
  | y :: r, p, x => by
    simp only [dd]
    by_cases hy : y = p
    · subst hy
      rw [if_pos rfl, dd_mem (r := r)]
      simp
    · rw [if_neg hy]
      have := dd_mem (r := r) (p := y) (x := x)
      simp only [List.mem_cons] at this ⊢
      rw [this]
theorem dd_sub {r : List α} {p x : α} (h : x ∈ dd p r) : x ∈ r := by
  induction r generalizing p with
  | nil => cases h
  | cons y r ih =>
    simp only [dd] at h
    by_cases hy : y = p
    · rw [if_pos hy] at h; exact List.mem_cons_of_mem _ (ih h)
    · rw [if_neg hy] at h
      rcases List.mem_cons.1 h with e | h
      · rw [e]; exact List.mem_cons_self ..
      · exact List.mem_cons_of_mem _ (ih h)
theorem dd_strict (h : TO cf) : ∀ {r : List α} {p : α}, (p :: r).Pairwise (fun x y => ¬ cf y x < 0) → (p :: dd p r).Pairwise (fun x y => cf x y < 0)
  | [], _, _ => by simp [dd]
  | y :: r, p, hs => by
    rw [List.pairwise_cons] at hs
    simp only [dd]
    by_cases hy : y = p
    · rw [if_pos hy]
      subst hy
      exact dd_strict h hs.2
    · rw [if_neg hy]
      have ih := dd_strict h hs.2
      rw [List.pairwise_cons]
      refine ⟨fun z hz => ?_, ih⟩
      have hpy : cf p y < 0 := h.lt_or hy (hs.1 y (List.mem_cons_self ..))
      rcases List.mem_cons.1 hz with e | hz
      · rw [e]; exact hpy
      · rw [List.pairwise_cons] at ih
        exact h.trans hpy (ih.1 z hz)
theorem comp_strict (h : TO cf) {xs : List α} (hs : xs.Pairwise (fun x y => ¬ cf y x < 0)) : (compL xs).Pairwise (fun x y => cf x y < 0) := by
  cases xs with
  | nil => exact List.Pairwise.nil
  | cons x r => exact dd_strict h hs
theorem comp_mem {xs : List α} {x : α} : x ∈ compL xs ↔ x ∈ xs := by
  cases xs with
  | nil => exact Iff.rfl
  | cons y r => exact dd_mem
/-- Put in at its place, if it is not there. -/
def insU (cf : α → α → Int) (s : α) : List α → List α
  | [] => [s]
  | y :: r => if y = s then y :: r else if cf s y < 0 then s :: y :: r else y :: insU cf s r
theorem insU_mem {s x : α} : ∀ {l : List α}, x ∈ insU cf s l ↔ x = s ∨ x ∈ l
  | [] => by simp [insU]
  | y :: r => by
    simp only [insU]
    by_cases hy : y = s
    · rw [if_pos hy]
      subst hy
      simp
    · rw [if_neg hy]
      by_cases hl : cf s y < 0
      · rw [if_pos hl]; simp
      · rw [if_neg hl, List.mem_cons, insU_mem (l := r), List.mem_cons]
        constructor
        · rintro (h | h | h) <;> simp [h]
        · rintro (h | h | h) <;> simp [h]
theorem insU_strict (h : TO cf) {s : α} : ∀ {l : List α}, l.Pairwise (fun x y => cf x y < 0) → (insU cf s l).Pairwise (fun x y => cf x y < 0)
  | [], _ => by simp [insU]
  | y :: r, hs => by
    simp only [insU]
    rw [List.pairwise_cons] at hs
    by_cases hy : y = s
    · rw [if_pos hy, List.pairwise_cons]; exact hs
    · rw [if_neg hy]
      by_cases hl : cf s y < 0
      · rw [if_pos hl, List.pairwise_cons]
        refine ⟨fun z hz => ?_, List.pairwise_cons.2 hs⟩
        rcases List.mem_cons.1 hz with e | hz
        · rw [e]; exact hl
        · exact h.trans hl (hs.1 z hz)
      · rw [if_neg hl, List.pairwise_cons]
        refine ⟨fun z hz => ?_, insU_strict h hs.2⟩
        rcases insU_mem.1 hz with e | hz
        · rw [e]; exact h.lt_or (fun e => hy e.symm) hl
        · exact hs.1 z hz
/-- All put in, one behind the other. -/
def putAll (cf : α → α → Int) (xs : List α) : List α := xs.foldl (fun l s => insU cf s l) []
theorem foldl_insU (h : TO cf) : ∀ {xs l : List α}, l.Pairwise (fun x y => cf x y < 0) → (xs.foldl (fun l s => insU cf s l) l).Pairwise (fun x y => cf x y < 0) ∧ ∀ x, x ∈ xs.foldl (fun l s => insU cf s l) l ↔ x ∈ xs ∨ x ∈ l
  | [], l, hl => ⟨hl, fun x => by simp⟩
  | y :: xs, l, hl => by
    obtain ⟨h1, h2⟩ := foldl_insU h (xs := xs) (insU_strict h (s := y) hl)
    refine ⟨h1, fun x => ?_⟩
    rw [List.foldl_cons, h2 x, insU_mem, List.mem_cons]
    constructor
    · rintro (h | h | h) <;> simp [h]
    · rintro ((h | h) | h) <;> simp [h]
/-- Sorted and freed of what stands twice: as put in one by one. -/
theorem sorted_put (h : TO cf) (xs : List α) : compL (srtBy cf xs) = putAll cf xs := by
  obtain ⟨h1, h2⟩ := foldl_insU h (xs := xs) (l := []) List.Pairwise.nil
  refine strict_unique h (comp_strict h (srtBy_sorted cf h.swo xs)) h1 fun x => ?_
  unfold putAll
  rw [comp_mem, (srtBy_perm cf xs).mem_iff, h2 x]
  simp
end
end Go.Lp

/- Orders of structs: field by field. -/
namespace Go.Lp
open Go.Sx Go.Sort
def lexC : List Int → List Int → Int
  | [], [] => 0
  | [], _ :: _ => -1
  | _ :: _, [] => 1
  | x :: r, y :: s => if x < y then -1 else if y < x then 1 else lexC r s
theorem lex_irrefl : ∀ x : List Int, ¬ lexC x x < 0
  | [] => by simp [lexC]
  | x :: r => by simp only [lexC]; rw [if_neg (by omega), if_neg (by omega)]; exact lex_irrefl r
theorem lex_trans : ∀ x y z : List Int, lexC x y < 0 → lexC y z < 0 → lexC x z < 0
  | [], [], _, h, _ => by simp [lexC] at h
  | [], _ :: _, [], _, h => by simp [lexC] at h
  | [], _ :: _, _ :: _, _, _ => by simp [lexC]
  | _ :: _, [], _, h, _ => by simp [lexC] at h
  | _ :: _, _ :: _, [], _, h => by simp [lexC] at h
  | x :: r, y :: s, z :: t, h1, h2 => by
    simp only [lexC] at h1 h2 ⊢
    by_cases a : x < y
    · by_cases b : y < z
      · rw [if_pos (by omega)]; omega
      · rw [if_neg b] at h2
        by_cases c : z < y
        · rw [if_pos c] at h2; omega
        · rw [if_pos (by omega)]; omega
    · rw [if_neg a] at h1
      by_cases b : y < x
      · rw [if_pos b] at h1; omega
      · rw [if_neg b] at h1
        have : x = y := by omega
        subst this
        by_cases c : x < z
        · rw [if_pos c]; omega
        · rw [if_neg c] at h2 ⊢
          by_cases d : z < x
          · rw [if_pos d] at h2; omega
          · rw [if_neg d] at h2 ⊢
            exact lex_trans r s t h1 h2
theorem lex_anti : ∀ x y : List Int, ¬ lexC x y < 0 → ¬ lexC y x < 0 → x = y
  | [], [], _, _ => rfl
  | [], _ :: _, h, _ => by simp [lexC] at h
  | _ :: _, [], _, h => by simp [lexC] at h
  | x :: r, y :: s, h1, h2 => by
    simp only [lexC] at h1 h2
    by_cases a : x < y
    · rw [if_pos a] at h1; omega
    · rw [if_neg a] at h1
      by_cases b : y < x
      · rw [if_pos b] at h2; omega
      · rw [if_neg b] at h1 h2
        rw [if_neg a] at h2
        rw [lex_anti r s h1 h2]
        congr 1
        omega
theorem lex_tot {x y : List Int} (h : ¬ lexC x y < 0) : x = y ∨ lexC y x < 0 := by
  by_cases h2 : lexC y x < 0
  · exact .inr h2
  · exact .inl (lex_anti x y h h2)
theorem to_lex {α : Type} (key : α → List Int) (hk : ∀ a b, key a = key b → a = b) {cf : α → α → Int} (he : ∀ a b, cf a b < 0 ↔ lexC (key a) (key b) < 0) : TO cf where
  swo := {
    irrefl := fun x => by simp only [decide_eq_false_iff_not, he]; exact lex_irrefl _
    trans := fun x y z h1 h2 => by
      simp only [decide_eq_true_eq, he] at *
      exact lex_trans _ _ _ h1 h2
    ntrans := fun x y z h1 h2 => by
      simp only [decide_eq_false_iff_not, he] at *
      intro h3
      rcases lex_tot h1 with e | e
      · rw [e] at h3; exact h2 h3
      · exact h2 (lex_trans _ _ _ e h3) }
  anti := fun x y h1 h2 => by
    rw [he] at h1 h2
    exact hk _ _ (lex_anti _ _ h1 h2)
end Go.Lp

/- The least of a list, in order: plain laws. -/
namespace Go.Lp
open Go.Sx Go.Sort
theorem filter_lt' {α : Type} {p q : α → Bool} (hpq : ∀ x, p x = true → q x = true) : ∀ {l : List α} {z : α}, z ∈ l → q z = true → p z = false → (l.filter p).length < (l.filter q).length
  | x :: l, z, hz, h1, h2 => by
    have hle : ∀ l : List α, (l.filter p).length ≤ (l.filter q).length := fun l => by
      induction l with
      | nil => simp
      | cons y l ih =>
        rw [List.filter_cons, List.filter_cons]
        cases hp : p y with
        | true => rw [hpq y hp]; simp; exact ih
        | false => cases q y <;> simp <;> omega
    rw [List.filter_cons, List.filter_cons]
    rcases List.mem_cons.1 hz with rfl | hz
    · rw [h1, h2]
      have := hle l
      simp; omega
    · have ih := filter_lt' hpq hz h1 h2
      cases hp : p x with
      | true => rw [hpq x hp]; simp; exact ih
      | false => cases q x <;> simp <;> omega
/-- Below each one of a list stands one than which none is less. -/
theorem least_below' {α : Type} (R : α → α → Bool) (hi : ∀ x, R x x = false) (ht : ∀ x y z, R x y = true → R y z = true → R x z = true) (l : List α) : ∀ (n : Nat) (y : α), y ∈ l → (l.filter (R · y)).length ≤ n → ∃ m, m ∈ l ∧ (∀ z ∈ l, R z m = false) ∧ (m = y ∨ R m y = true) := by
  intro n
  induction n with
  | zero =>
    intro y hy hn
    refine ⟨y, hy, fun z hz => ?_, .inl rfl⟩
    cases h : R z y with
    | false => rfl
    | true =>
      have : z ∈ l.filter (R · y) := List.mem_filter.2 ⟨hz, h⟩
      rw [List.length_eq_zero_iff.1 (Nat.le_zero.1 hn)] at this
      cases this
  | succ n ih =>
    intro y hy hn
    by_cases h : ∃ z ∈ l, R z y = true
    · obtain ⟨z, hz, hzy⟩ := h
      have := filter_lt' (p := (R · z)) (q := (R · y)) (fun x hx => ht x z y hx hzy) hz hzy (hi z)
      obtain ⟨m, h1, h2, h3⟩ := ih z hz (by omega)
      refine ⟨m, h1, h2, .inr ?_⟩
      rcases h3 with rfl | h3
      · exact hzy
      · exact ht _ _ _ h3 hzy
    · refine ⟨y, hy, fun z hz => ?_, .inl rfl⟩
      cases h5 : R z y with
      | false => rfl
      | true => exact absurd ⟨z, hz, h5⟩ h
section
variable {α : Type} [DecidableEq α] {cf : α → α → Int} {le : α → α → Bool}
/-- An order in parts, which goes along with the total one. -/
structure PO (cf : α → α → Int) (le : α → α → Bool) : Prop where
  trans : ∀ x y z, le x y = true → le y z = true → le x z = true
  anti : ∀ x y, le x y = true → le y x = true → x = y
  ext : ∀ x y, le x y = true → x ≠ y → cf x y < 0
/-- None of the list is less. -/
def isMin (le : α → α → Bool) (l : List α) (t : α) : Bool := !(l.any fun u => decide (u ≠ t) && le u t)
theorem isMin_iff {l : List α} {t : α} : isMin le l t = true ↔ ∀ u ∈ l, le u t = true → u = t := by
  unfold isMin
  rw [Bool.not_eq_true', List.any_eq_false]
  constructor
  · intro h u hu hle
    have := h u hu
    rw [hle] at this
    simpa using this
  · intro h u hu hc
    simp only [Bool.and_eq_true, decide_eq_true_eq] at hc
    exact hc.1 (h u hu hc.2)
def mins (cf : α → α → Int) (le : α → α → Bool) (l : List α) : List α := (putAll cf l).filter (isMin le l)
theorem putAll_strict (h : TO cf) (l : List α) : (putAll cf l).Pairwise (fun x y => cf x y < 0) := (foldl_insU h (xs := l) (l := []) List.Pairwise.nil).1
theorem putAll_mem (h : TO cf) {l : List α} {x : α} : x ∈ putAll cf l ↔ x ∈ l := by
  have := (foldl_insU h (xs := l) (l := []) List.Pairwise.nil).2 x
  unfold putAll
  rw [this]; simp
theorem mins_mem (h : TO cf) {l : List α} {x : α} : x ∈ mins cf le l ↔ x ∈ l ∧ ∀ u ∈ l, le u x = true → u = x := by
  unfold mins
  rw [List.mem_filter, putAll_mem h, isMin_iff]
theorem mins_strict (h : TO cf) (l : List α) : (mins cf le l).Pairwise (fun x y => cf x y < 0) := (putAll_strict h l).filter _
theorem below_min (p : PO cf le) {l : List α} {y : α} (hy : y ∈ l) : ∃ m ∈ l, (∀ u ∈ l, le u m = true → u = m) ∧ (m = y ∨ le m y = true) := by
  obtain ⟨m, h1, h2, h3⟩ := least_below' (fun x y => decide (x ≠ y) && le x y) (fun x => by simp) (fun x y z h1 h2 => by
    simp only [Bool.and_eq_true, decide_eq_true_eq] at *
    refine ⟨fun e => ?_, p.trans _ _ _ h1.2 h2.2⟩
    subst e
    exact h1.1 (p.anti _ _ h1.2 h2.2)) l _ y hy (Nat.le_refl _)
  refine ⟨m, h1, fun u hu hle => ?_, ?_⟩
  · have := h2 u hu
    simp only [hle, Bool.and_true, decide_eq_false_iff_not, Classical.not_not] at this
    exact this
  · rcases h3 with h3 | h3
    · exact .inl h3
    · simp only [Bool.and_eq_true] at h3
      exact .inr h3.2
/-- What is covered by all is covered by the least. -/
theorem mins_cover (h : TO cf) (p : PO cf le) {l : List α} {t : α} : (mins cf le l).any (le · t) = l.any (le · t) := by
  rw [Bool.eq_iff_iff, List.any_eq_true, List.any_eq_true]
  constructor
  · rintro ⟨u, hu, hle⟩
    exact ⟨u, ((mins_mem h).1 hu).1, hle⟩
  · rintro ⟨u, hu, hle⟩
    obtain ⟨m, h1, h2, h3⟩ := below_min p hu
    refine ⟨m, (mins_mem h).2 ⟨h1, h2⟩, ?_⟩
    rcases h3 with rfl | h3
    · exact hle
    · exact p.trans _ _ _ h3 hle
/-- One behind the other, without those that are covered. -/
def greedy (le : α → α → Bool) : List α → List α → List α
  | out, [] => out
  | out, t :: r => greedy le (bif out.any (le · t) then out else out ++ [t]) r
theorem greedy_go (p : PO cf le) (h : TO cf) {L : List α} (hs : L.Pairwise (fun x y => cf x y < 0)) : ∀ (r P : List α), L = P ++ r → greedy le (P.filter (isMin le L)) r = L.filter (isMin le L)
  | [], P, e => by
    rw [List.append_nil] at e
    subst e; rfl
  | t :: r, P, e => by
    have ht : t ∈ L := by rw [e]; simp
    have hP : ∀ u ∈ P, cf u t < 0 := fun u hu => by
      rw [e, List.pairwise_append] at hs
      exact hs.2.2 u hu t (List.mem_cons_self ..)
    have hr : ∀ u ∈ r, cf t u < 0 := fun u hu => by
      rw [e, List.pairwise_append, List.pairwise_cons] at hs
      exact hs.2.1.1 u hu
    have hany : (P.filter (isMin le L)).any (le · t) = !isMin le L t := by
      cases hm : isMin le L t with
      | true =>
        rw [Bool.not_true, List.any_eq_false]
        intro u hu hle
        have huP := (List.mem_filter.1 hu).1
        have := isMin_iff.1 hm u (by rw [e]; exact List.mem_append_left _ huP) hle
        subst this
        exact h.irrefl _ (hP _ huP)
      | false =>
        rw [Bool.not_false, List.any_eq_true]
        obtain ⟨m, h1, h2, h3⟩ := below_min p ht
        have hne : m ≠ t := fun e' => by
          subst e'
          have := isMin_iff.2 h2
          rw [hm] at this; cases this
        have hle : le m t = true := h3.resolve_left hne
        have hlt := p.ext m t hle hne
        refine ⟨m, List.mem_filter.2 ⟨?_, isMin_iff.2 h2⟩, hle⟩
        rw [e] at h1
        rcases List.mem_append.1 h1 with h1 | h1
        · exact h1
        · rcases List.mem_cons.1 h1 with h1 | h1
          · exact absurd h1 hne
          · exact absurd hlt (h.asymm (hr m h1))
    have e2 : L = (P ++ [t]) ++ r := by rw [e]; simp
    have ih := greedy_go p h hs r (P ++ [t]) e2
    simp only [greedy]
    rw [hany]
    rw [List.filter_append] at ih
    cases hm : isMin le L t with
    | true =>
      rw [show List.filter (isMin le L) [t] = [t] by simp [List.filter_cons, hm]] at ih
      simpa using ih
    | false =>
      rw [show List.filter (isMin le L) [t] = [] by simp [List.filter_cons, hm]] at ih
      simpa using ih
theorem isMin_congr {l l' : List α} (he : ∀ x, x ∈ l ↔ x ∈ l') (t : α) : isMin le l t = isMin le l' t := by
  rw [Bool.eq_iff_iff, isMin_iff, isMin_iff]
  exact ⟨fun h u hu => h u ((he u).2 hu), fun h u hu => h u ((he u).1 hu)⟩
/-- Sorted, freed of what stands twice, freed of what is covered: the least. -/
theorem greedy_mins (p : PO cf le) (h : TO cf) (l : List α) : greedy le [] (compL (srtBy cf l)) = mins cf le l := by
  rw [sorted_put h]
  have := greedy_go p h (putAll_strict h l) (putAll cf l) [] rfl
  simp only [List.filter_nil] at this
  rw [this]
  unfold mins
  congr 1
  funext t
  exact isMin_congr (fun x => putAll_mem h) t
/-- The least, put in one by one. -/
theorem mins_put (h : TO cf) (l : List α) : mins cf le l = putAll cf (l.filter (isMin le l)) := by
  refine strict_unique h (mins_strict h l) (putAll_strict h _) fun x => ?_
  rw [putAll_mem h, mins_mem h, List.mem_filter, isMin_iff]
theorem mins_congr (h : TO cf) {l l' : List α} (he : ∀ x, x ∈ l ↔ x ∈ l') : mins cf le l = mins cf le l' := by
  refine strict_unique h (mins_strict h l) (mins_strict h _) fun x => ?_
  rw [mins_mem h, mins_mem h, he x]
  constructor
  · rintro ⟨h1, h2⟩; exact ⟨h1, fun u hu => h2 u ((he u).2 hu)⟩
  · rintro ⟨h1, h2⟩; exact ⟨h1, fun u hu => h2 u ((he u).1 hu)⟩
/-- An antichain, in order. -/
def isAC (cf : α → α → Int) (le : α → α → Bool) (l : List α) : Prop := l.Pairwise (fun x y => cf x y < 0) ∧ ∀ x ∈ l, ∀ y ∈ l, le x y = true → x = y
theorem mins_ac (h : TO cf) (l : List α) : isAC cf le (mins cf le l) := by
  refine ⟨mins_strict h l, fun x hx y hy hle => ?_⟩
  exact ((mins_mem h).1 hy).2 x ((mins_mem h).1 hx).1 hle
theorem mins_of_ac (h : TO cf) {l : List α} (ha : isAC cf le l) : mins cf le l = l := by
  refine strict_unique h (mins_strict h l) ha.1 fun x => ?_
  rw [mins_mem h]
  exact ⟨fun h => h.1, fun hx => ⟨hx, fun u hu hle => ha.2 u hu x hx hle⟩⟩
theorem ac_ext (p : PO cf le) (h : TO cf) {a b : List α} (ha : isAC cf le a) (hb : isAC cf le b) (h1 : ∀ x ∈ a, ∃ y ∈ b, le y x = true) (h2 : ∀ x ∈ b, ∃ y ∈ a, le y x = true) : a = b := by
  refine strict_unique h ha.1 hb.1 fun x => ⟨fun hx => ?_, fun hx => ?_⟩
  · obtain ⟨y, hy, e1⟩ := h1 x hx
    obtain ⟨z, hz, e2⟩ := h2 y hy
    have := ha.2 z hz x hx (p.trans _ _ _ e2 e1)
    subst this
    rw [p.anti _ _ e2 e1]; exact hy
  · obtain ⟨y, hy, e1⟩ := h2 x hx
    obtain ⟨z, hz, e2⟩ := h1 y hy
    have := hb.2 z hz x hx (p.trans _ _ _ e2 e1)
    subst this
    rw [p.anti _ _ e2 e1]; exact hy
end
end Go.Lp

/- Chapter 3: the orders of times. -/
namespace Go.Proofs.Ytiipneclghnfhaa
open Go.RowKit Go.Sx Go.Lp
def keyT (a : T) : List Int := [a.e, a.d, a.l0, a.l1, a.l2, a.l3]
theorem keyT_inj (a b : T) (h : keyT a = keyT b) : a = b := by
  obtain ⟨f, k, p0, p1, p2, p3⟩ := a
  obtain ⟨f', k', p0', p1', p2', p3'⟩ := b
  simp only [keyT, List.cons.injEq, and_true] at h
  obtain ⟨rfl, rfl, rfl, rfl, rfl, rfl⟩ := h
  rfl
theorem cmp3 (x y : Int) : (x < y ∧ cmp64_F x y = -1) ∨ (y < x ∧ cmp64_F x y = 1) ∨ (x = y ∧ cmp64_F x y = 0) := by
  unfold cmp64_F
  by_cases h : x < y
  · left; simp [h]
  · by_cases h2 : y < x
    · right; left; simp [h, h2]
    · right; right
      refine ⟨by omega, ?_⟩
      simp [h, h2]
theorem cmpi_same (x y : Int) : cmpi_F x y = cmp64_F x y := rfl
theorem or_self {x : Int} : (bif x != 0 then x else 0) = x := by
  by_cases h : x = 0
  · subst h; rfl
  · have : (x != 0) = true := by simpa using h
    rw [this]; rfl
theorem or_nz {x y : Int} (h : x ≠ 0) : (bif x != 0 then x else y) = x := by
  have : (x != 0) = true := by simpa using h
  rw [this]; rfl
theorem tcmp_lex (a b : T) : tcmp_F a b = lexC (keyT a) (keyT b) := by
  unfold tcmp_F keyT
  simp only [cmpi_same, lexC, or_self, conj, List.append_nil, List.cons_append, List.nil_append]
  rcases cmp3 a.e b.e with ⟨h, e⟩ | ⟨h, e⟩ | ⟨h, e⟩ <;> simp only [e]
  · simp [h]
  · have : ¬ a.e < b.e := by omega
    simp [h, this]
  rw [if_neg (by omega), if_neg (by omega)]
  rcases cmp3 a.d b.d with ⟨h, e⟩ | ⟨h, e⟩ | ⟨h, e⟩ <;> simp only [e]
  · simp [h]
  · have : ¬ a.d < b.d := by omega
    simp [h, this]
  rw [if_neg (by omega), if_neg (by omega)]
  rcases cmp3 a.l0 b.l0 with ⟨h, e⟩ | ⟨h, e⟩ | ⟨h, e⟩ <;> simp only [e]
  · have h2 : (a.l0 == b.l0) = false := beq_eq_false_iff_ne.2 (by omega)
    simp [h, h2]
  · have h2 : ¬ a.l0 < b.l0 := by omega
    have h3 : (a.l0 == b.l0) = false := beq_eq_false_iff_ne.2 (by omega)
    simp [h, h2, h3]
  rw [if_neg (by omega), if_neg (by omega)]
  rcases cmp3 a.l1 b.l1 with ⟨h1, e⟩ | ⟨h1, e⟩ | ⟨h1, e⟩ <;> simp only [e]
  · have h2 : (a.l1 == b.l1) = false := beq_eq_false_iff_ne.2 (by omega)
    simp [h, h1, h2]
  · have h2 : ¬ a.l1 < b.l1 := by omega
    have h3 : (a.l1 == b.l1) = false := beq_eq_false_iff_ne.2 (by omega)
    simp [h, h1, h2, h3]
  rw [if_neg (by omega), if_neg (by omega)]
  rcases cmp3 a.l2 b.l2 with ⟨h1, e⟩ | ⟨h1, e⟩ | ⟨h1, e⟩ <;> simp only [e]
  · have h2 : (a.l2 == b.l2) = false := beq_eq_false_iff_ne.2 (by omega)
    simp [h, h1, h2]
  · have h2 : ¬ a.l2 < b.l2 := by omega
    have h3 : (a.l2 == b.l2) = false := beq_eq_false_iff_ne.2 (by omega)
    simp [h, h1, h2, h3]
  rw [if_neg (by omega), if_neg (by omega)]
  rcases cmp3 a.l3 b.l3 with ⟨h1, e⟩ | ⟨h1, e⟩ | ⟨h1, e⟩ <;> simp only [e]
  · have h2 : (a.l3 == b.l3) = false := beq_eq_false_iff_ne.2 (by omega)
    simp [h, h1, h2]
  · have h2 : ¬ a.l3 < b.l3 := by omega
    have h3 : (a.l3 == b.l3) = false := beq_eq_false_iff_ne.2 (by omega)
    simp [h, h1, h2, h3]
  rw [if_neg (by omega), if_neg (by omega)]
  simp
theorem or_zero {x : Int} : (bif x != 0 then x else 0) = x := or_self
theorem sg (x y : Int) : (bif decide (x < y) then (-1 : Int) else bif decide (x > y) then (1 : Int) else (0 : Int)) = cmp64_F x y := by
  unfold cmp64_F
  simp
theorem rtcmp_lex (a b : T) : rtcmp_F a b = lexC (keyT a) (keyT b) := by
  unfold rtcmp_F keyT
  simp only [sg, lexC, or_self]
  by_cases h : a.e < b.e
  · simp [h]
  by_cases h2 : b.e < a.e
  · simp [h, h2]
  by_cases h3 : a.d < b.d
  · simp [h, h2, h3]
  by_cases h4 : b.d < a.d
  · simp [h, h2, h3, h4]
  simp only [h, h2, h3, h4, if_false, decide_false, cond_false, gt_iff_lt]
  rcases cmp3 a.l0 b.l0 with ⟨h1, e⟩ | ⟨h1, e⟩ | ⟨h1, e⟩ <;> simp only [e]
  · simp [h1]
  · have : ¬ a.l0 < b.l0 := by omega
    simp [h1, this]
  rw [if_neg (by omega), if_neg (by omega)]
  rcases cmp3 a.l1 b.l1 with ⟨h1, e⟩ | ⟨h1, e⟩ | ⟨h1, e⟩ <;> simp only [e]
  · simp [h1]
  · have : ¬ a.l1 < b.l1 := by omega
    simp [h1, this]
  rw [if_neg (by omega), if_neg (by omega)]
  rcases cmp3 a.l2 b.l2 with ⟨h1, e⟩ | ⟨h1, e⟩ | ⟨h1, e⟩ <;> simp only [e]
  · simp [h1]
  · have : ¬ a.l2 < b.l2 := by omega
    simp [h1, this]
  rw [if_neg (by omega), if_neg (by omega)]
  rcases cmp3 a.l3 b.l3 with ⟨h1, e⟩ | ⟨h1, e⟩ | ⟨h1, e⟩ <;> simp only [e]
  · simp [h1]
  · have : ¬ a.l3 < b.l3 := by omega
    simp [h1, this]
  rw [if_neg (by omega), if_neg (by omega)]
  rfl
theorem rtcmp_eq (a b : T) : rtcmp_F a b = tcmp_F a b := by rw [rtcmp_lex, tcmp_lex]
theorem rtleq_eq (a b : T) : rtleq_F a b = tleq_F a b := rfl
theorem toT : TO fun a b => tcmp_F a b := to_lex keyT keyT_inj fun a b => by rw [tcmp_lex]
theorem tleq_iff (a b : T) : tleq_F a b = true ↔ a.Ok ∧ b.Ok ∧ a.d = b.d ∧ a.e ≤ b.e ∧ a.l0 ≤ b.l0 ∧ a.l1 ≤ b.l1 ∧ a.l2 ≤ b.l2 ∧ a.l3 ≤ b.l3 := by
  unfold tleq_F
  simp only [cond_ff, Bool.or_eq_false_iff, bne_eq_false_iff_eq, tcheck_iff, decide_eq_false_iff_not, gt_iff_lt, Int.not_lt, and_true]
  constructor
  · rintro ⟨⟨h1, h2, h3, h4⟩, h5, h6, h7, h8⟩
    exact ⟨h1, h2, h3, h4, h5, h6, h7, h8⟩
  · rintro ⟨h1, h2, h3, h4, h5, h6, h7, h8⟩
    exact ⟨⟨h1, h2, h3, h4⟩, h5, h6, h7, h8⟩
theorem poT : PO (fun a b => tcmp_F a b) tleq_F where
  trans x y z h1 h2 := by
    rw [tleq_iff] at *
    obtain ⟨a1, _, a3, a4, a5, a6, a7, a8⟩ := h1
    obtain ⟨_, b2, b3, b4, b5, b6, b7, b8⟩ := h2
    exact ⟨a1, b2, by omega, by omega, by omega, by omega, by omega, by omega⟩
  anti x y h1 h2 := by
    rw [tleq_iff] at *
    obtain ⟨_, _, a3, a4, a5, a6, a7, a8⟩ := h1
    obtain ⟨_, _, b3, b4, b5, b6, b7, b8⟩ := h2
    apply keyT_inj
    simp only [keyT, List.cons.injEq, and_true]
    omega
  ext x y h hn := by
    rw [tleq_iff] at h
    obtain ⟨_, _, a3, a4, a5, a6, a7, a8⟩ := h
    show tcmp_F x y < 0
    rw [tcmp_lex]
    have hk : keyT x ≠ keyT y := fun hk => hn (keyT_inj _ _ hk)
    have step : ∀ (p q : Int) (r t : List Int), p ≤ q → (p = q → lexC r t < 0) → lexC (p :: r) (q :: t) < 0 := fun p q r t h1 h2 => by
      unfold lexC
      by_cases hpq : p < q
      · rw [if_pos hpq]; decide
      · rw [if_neg hpq, if_neg (by omega)]; exact h2 (by omega)
    refine step _ _ _ _ a4 fun e1 => step _ _ _ _ (Int.le_of_eq a3) fun _ => step _ _ _ _ a5 fun e2 => step _ _ _ _ a6 fun e3 => step _ _ _ _ a7 fun e4 => step _ _ _ _ a8 fun e5 => ?_
    exact absurd (by simp only [keyT, e1, a3, e2, e3, e4, e5]) hk
theorem tleq_refl {t : T} (h : t.Ok) : tleq_F t t = true := (tleq_iff t t).2 ⟨h, h, rfl, Int.le_refl _, Int.le_refl _, Int.le_refl _, Int.le_refl _, Int.le_refl _⟩
end Go.Proofs.Ytiipneclghnfhaa
