/- Chapter 2: what the leaves say. -/
import Derived.Test.YtapmlfklkfgmoaaZT2
set_option linter.unusedVariables false
namespace Go.Proofs.Ytapmlfklkfgmoaa
open Go.RowKit Go.Sx
theorem wr {x : Int} (h : -9223372036854775808 ≤ x ∧ x ≤ 9223372036854775807) : IntKind.i64.wrap x = x := by
  have := IntKind.wrap_i64 x
  omega
/-- What it is for a summary to be one. -/
def S.Ok (s : S) : Prop := (0 ≤ s.f ∧ s.f ≤ 4 ∧ 0 ≤ s.n ∧ s.n ≤ 4 ∧ 0 ≤ s.k ∧ s.k ≤ s.f ∧ s.k + s.n ≤ 4) ∧ (0 ≤ s.a ∧ s.a ≤ 1048576 ∧ (s.k = 0 → s.a = 0)) ∧
   (0 ≤ s.p0 ∧ s.p0 ≤ 1048576 ∧ (s.n ≤ 0 → s.p0 = 0)) ∧ (0 ≤ s.p1 ∧ s.p1 ≤ 1048576 ∧ (s.n ≤ 1 → s.p1 = 0)) ∧ (0 ≤ s.p2 ∧ s.p2 ≤ 1048576 ∧ (s.n ≤ 2 → s.p2 = 0)) ∧ (0 ≤ s.p3 ∧ s.p3 ≤ 1048576 ∧ (s.n ≤ 3 → s.p3 = 0))
theorem cond_ff {c b : Bool} : (bif c then false else b) = true ↔ c = false ∧ b = true := by cases c <;> simp
theorem cond_bf {c b : Bool} : (bif c then b else false) = true ↔ c = true ∧ b = true := by cases c <;> simp
theorem may_iff (s : S) : may_F s = true ↔ s.Ok := by
  unfold may_F S.Ok
  simp only [cond_ff, cond_bf, Bool.and_eq_true, Bool.or_eq_false_iff, Bool.not_eq_true', Bool.not_eq_false', decide_eq_false_iff_not, decide_eq_true_eq, Bool.and_eq_false_iff, bne_eq_false_iff_eq, beq_eq_false_iff_ne, beq_iff_eq, IntKind.wrap_i64, and_true, ne_eq, true_and]
  omega
theorem cond_20 {c : Bool} {x : Int} : (bif c then (20 : Int) else x) = 0 ↔ c = false ∧ x = 0 := by cases c <;> simp
theorem cond_10 {c : Bool} {x : Int} : (bif c then (10 : Int) else x) = 0 ↔ c = false ∧ x = 0 := by cases c <;> simp
theorem rcheck_iff (s : S) : rcheck_F s = 0 ↔ s.Ok := by
  unfold rcheck_F S.Ok
  simp only [cond_20, Bool.and_eq_true, Bool.or_eq_false_iff, Bool.not_eq_true', Bool.not_eq_false', decide_eq_false_iff_not, decide_eq_true_eq, Bool.and_eq_false_iff, bne_eq_false_iff_eq, beq_eq_false_iff_ne, beq_iff_eq, IntKind.wrap_i64, and_true, ne_eq, true_and]
  omega
theorem rcheck_or (s : S) : rcheck_F s = 0 ∨ rcheck_F s = 20 := by
  unfold rcheck_F
  repeat' (rw [Bool.cond_eq_ite]; split)
  all_goals simp
theorem rcheck_eq (s : S) : rcheck_F s = bif may_F s then 0 else 20 := by
  cases h : may_F s with
  | true => exact (rcheck_iff s).2 ((may_iff s).1 h)
  | false =>
    rcases rcheck_or s with h1 | h1
    · rw [(may_iff s).2 ((rcheck_iff s).1 h1)] at h; cases h
    · exact h1
theorem rtcheck_eq (t : T) : rtcheck_F t = tcheck_F t := rfl
def T.Ok (t : T) : Prop := (0 ≤ t.e ∧ t.e ≤ 1073741824 ∧ 0 ≤ t.d ∧ t.d ≤ 4) ∧
   (0 ≤ t.l0 ∧ t.l0 ≤ 1048576 ∧ (t.d ≤ 0 → t.l0 = 0)) ∧ (0 ≤ t.l1 ∧ t.l1 ≤ 1048576 ∧ (t.d ≤ 1 → t.l1 = 0)) ∧ (0 ≤ t.l2 ∧ t.l2 ≤ 1048576 ∧ (t.d ≤ 2 → t.l2 = 0)) ∧ (0 ≤ t.l3 ∧ t.l3 ≤ 1048576 ∧ (t.d ≤ 3 → t.l3 = 0))
theorem tcheck_iff (t : T) : tcheck_F t = 0 ↔ t.Ok := by
  unfold tcheck_F T.Ok
  simp only [cond_10, Bool.and_eq_true, Bool.or_eq_false_iff, decide_eq_false_iff_not, Bool.and_eq_false_iff, bne_eq_false_iff_eq, and_true]
  omega
theorem tcheck_or (t : T) : tcheck_F t = 0 ∨ tcheck_F t = 10 := by
  unfold tcheck_F
  repeat' (rw [Bool.cond_eq_ite]; split)
  all_goals simp
theorem not_beq {a b : Int} (h : (!a == b) = true) : a ≠ b := by simpa using h
end Go.Proofs.Ytapmlfklkfgmoaa
