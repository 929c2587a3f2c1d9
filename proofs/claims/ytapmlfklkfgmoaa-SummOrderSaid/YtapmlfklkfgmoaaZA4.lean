/- Chapter 2: Then and Apply, case by case of Keep and N. -/
import Derived.Test.YtapmlfklkfgmoaaZA3
set_option linter.unusedVariables false
namespace Go.Proofs.Ytapmlfklkfgmoaa
open Go.RowKit Go.Sx
def els {α : Type} : Tr α → Tr α
  | .br _ _ b => b
  | t => t
def zS : S := ⟨0, 0, 0, 0, 0, 0, 0, 0⟩
def zT : T := ⟨0, 0, 0, 0, 0, 0⟩
def S.p (s : S) : List Int := [s.p0, s.p1, s.p2, s.p3]
def T.l (t : T) : List Int := [t.l0, t.l1, t.l2, t.l3]
def mkS (f k a n : Int) (l : List Int) : S := ⟨f, k, a, n, l.getD 0 0, l.getD 1 0, l.getD 2 0, l.getD 3 0⟩
def mkT (e d : Int) (l : List Int) : T := ⟨e, d, l.getD 0 0, l.getD 1 0, l.getD 2 0, l.getD 3 0⟩
abbrev w64 (x : Int) : Int := IntKind.i64.wrap x
def thenRest (a b : S) (k k' n' : Nat) : Tr (S × Int) :=
  bif Nat.beq k' k then
    .br (decide (w64 (b.a + a.a) > 1048576)) (.ret (zS, 12)) (.ret (mkS a.f k' (w64 (b.a + a.a)) n' b.p, 0))
  else bif Nat.blt k k' then
    .br (decide (w64 (a.p.getD (k' - k - 1) 0 + b.a) > 1048576)) (.ret (zS, 12)) (.br (decide (a.a > 1048576)) (.ret (zS, 12)) (.ret (mkS a.f k a.a (k' - k + n' : Nat) ((a.p.take (k' - k - 1) ++ [w64 (a.p.getD (k' - k - 1) 0 + b.a)]) ++ b.p.take n'), 0)))
  else
    .br (decide (b.a > 1048576)) (.ret (zS, 12)) (.ret (mkS a.f k' b.a n' b.p, 0))
def thenTr (a b : S) (k n k' n' : Nat) : Tr (S × Int) :=
  .br (!may_F (litS a k n) || !may_F (litS b k' n')) (.ret (zS, 20)) (.br (w64 ((k : Int) + n) != b.f) (.ret (zS, 11)) (thenRest a b k k' n'))
def rthenS (a b : S) (k k' n' : Nat) : S :=
  bif Nat.beq k' k then mkS a.f k (w64 (a.a + b.a)) n' (b.p.take n')
  else bif Nat.blt k k' then mkS a.f k a.a (k' - k + n' : Nat) ((a.p.take (k' - k - 1) ++ [w64 (a.p.getD (k' - k - 1) 0 + b.a)]) ++ b.p.take n')
  else mkS a.f k' (w64 (0 + b.a)) n' (b.p.take n')
def rthenTr (a b : S) (k n k' n' : Nat) : Tr (S × Int) :=
  .br (rcheck_F (litS a k n) != 0 || rcheck_F (litS b k' n') != 0) (.ret (zS, 20)) (.br (w64 ((k : Int) + n) != b.f) (.ret (zS, 11)) (.br (rcheck_F (rthenS a b k k' n') != 0) (.ret (zS, 12)) (.ret (rthenS a b k k' n', 0))))
theorem four {k : Nat} (h : k ≤ 4) : k = 0 ∨ k = 1 ∨ k = 2 ∨ k = 3 ∨ k = 4 := by omega
abbrev g3 : Gam := tab3.gamz [] []
set_option maxHeartbeats 4000000 in
theorem then_tree (a b : S) (k n k' n' : Nat) (h1 : k + n ≤ 4) (h2 : k' ≤ k + n) (h3 : k' + n' ≤ 4) : dTree Try.prog g3 noΛ 100 12 [encK a k n, encK b k' n'] dSE = thenTr a b k n k' n' := by
  rcases four (show k ≤ 4 by omega) with rfl | rfl | rfl | rfl | rfl <;> rcases four (show n ≤ 4 by omega) with rfl | rfl | rfl | rfl | rfl <;> first
    | (exfalso; omega)
    | (rcases four (show k' ≤ 4 by omega) with rfl | rfl | rfl | rfl | rfl <;> first
        | (exfalso; omega)
        | (rcases four (show n' ≤ 4 by omega) with rfl | rfl | rfl | rfl | rfl <;> first
            | (exfalso; omega)
            | as_aux_lemma => kernel_rfl))
theorem then_no (a b : S) : dTree Try.prog g3 noΛ 100 12 (aSS.enc (a, b)) dSE = .br (!may_F a || !may_F b) (.ret (zS, 20)) (els (dTree Try.prog g3 noΛ 100 12 (aSS.enc (a, b)) dSE)) := by kernel_rfl
theorem then_no2 (a b : S) : els (dTree Try.prog g3 noΛ 100 12 (aSS.enc (a, b)) dSE) = .br (w64 (a.k + a.n) != b.f) (.ret (zS, 11)) (els (els (dTree Try.prog g3 noΛ 100 12 (aSS.enc (a, b)) dSE))) := by kernel_rfl
theorem rthen_no (a b : S) : dTree Try.prog g3 noΛ 100 13 (aSS.enc (a, b)) dSE = .br (rcheck_F a != 0 || rcheck_F b != 0) (.ret (zS, 20)) (els (dTree Try.prog g3 noΛ 100 13 (aSS.enc (a, b)) dSE)) := by kernel_rfl
theorem rthen_no2 (a b : S) : els (dTree Try.prog g3 noΛ 100 13 (aSS.enc (a, b)) dSE) = .br (w64 (a.k + a.n) != b.f) (.ret (zS, 11)) (els (els (dTree Try.prog g3 noΛ 100 13 (aSS.enc (a, b)) dSE))) := by kernel_rfl
/-! ### Apply -/
def applyL (k n : Nat) (s : S) (t : T) : List Int :=
  match k with
  | 0 => s.p.take n
  | j + 1 => (t.l.take j ++ [w64 (t.l.getD j 0 + s.a)]) ++ s.p.take n
def applyTr (s : S) (t : T) (k n : Nat) : Tr (T × Int) :=
  .br (!may_F (litS s k n)) (.ret (zT, 20)) (.br (tcheck_F t != 0) (.ret (zT, tcheck_F t)) (.br (t.d != s.f) (.ret (zT, 11)) (match k with
    | 0 => .ret (mkT t.e (0 + n : Nat) (applyL 0 n s t), 0)
    | j + 1 => .br (decide (w64 (t.l.getD j 0 + s.a) > 1048576)) (.ret (zT, 12)) (.ret (mkT t.e (j + 1 + n : Nat) (applyL (j + 1) n s t), 0)))))
def rapplyTr (s : S) (t : T) (k n : Nat) : Tr (T × Int) :=
  .br (rcheck_F (litS s k n) != 0) (.ret (zT, rcheck_F (litS s k n))) (.br (rtcheck_F t != 0) (.ret (zT, rtcheck_F t)) (.br (t.d != s.f) (.ret (zT, 11))
    (.br (rtcheck_F (mkT t.e (k + n : Nat) (applyL k n s t)) != 0) (.ret (zT, 12)) (.ret (mkT t.e (k + n : Nat) (applyL k n s t), 0)))))
theorem apply_tree (s : S) (t : T) (k n : Nat) (h1 : k + n ≤ 4) : dTree Try.prog g3 noΛ 100 10 [encK s k n, dT.enc t] dTE = applyTr s t k n := by
  rcases four (show k ≤ 4 by omega) with rfl | rfl | rfl | rfl | rfl <;> rcases four (show n ≤ 4 by omega) with rfl | rfl | rfl | rfl | rfl <;> first
    | (exfalso; omega)
    | kernel_rfl
theorem rapply_tree (s : S) (t : T) (k n : Nat) (h1 : k + n ≤ 4) : dTree Try.prog g3 noΛ 100 11 [encK s k n, dT.enc t] dTE = rapplyTr s t k n := by
  rcases four (show k ≤ 4 by omega) with rfl | rfl | rfl | rfl | rfl <;> rcases four (show n ≤ 4 by omega) with rfl | rfl | rfl | rfl | rfl <;> first
    | (exfalso; omega)
    | kernel_rfl
theorem apply_no (s : S) (t : T) : dTree Try.prog g3 noΛ 100 10 (aST.enc (s, t)) dTE = .br (!may_F s) (.ret (zT, 20)) (els (dTree Try.prog g3 noΛ 100 10 (aST.enc (s, t)) dTE)) := by kernel_rfl
theorem apply_no2 (s : S) (t : T) : els (dTree Try.prog g3 noΛ 100 10 (aST.enc (s, t)) dTE) = .br (tcheck_F t != 0) (.ret (zT, tcheck_F t)) (els (els (dTree Try.prog g3 noΛ 100 10 (aST.enc (s, t)) dTE))) := by kernel_rfl
theorem apply_no3 (s : S) (t : T) : els (els (dTree Try.prog g3 noΛ 100 10 (aST.enc (s, t)) dTE)) = .br (t.d != s.f) (.ret (zT, 11)) (els (els (els (dTree Try.prog g3 noΛ 100 10 (aST.enc (s, t)) dTE)))) := by kernel_rfl
theorem rapply_no (s : S) (t : T) : dTree Try.prog g3 noΛ 100 11 (aST.enc (s, t)) dTE = .br (rcheck_F s != 0) (.ret (zT, rcheck_F s)) (els (dTree Try.prog g3 noΛ 100 11 (aST.enc (s, t)) dTE)) := by kernel_rfl
theorem rapply_no2 (s : S) (t : T) : els (dTree Try.prog g3 noΛ 100 11 (aST.enc (s, t)) dTE) = .br (rtcheck_F t != 0) (.ret (zT, rtcheck_F t)) (els (els (dTree Try.prog g3 noΛ 100 11 (aST.enc (s, t)) dTE))) := by kernel_rfl
theorem rapply_no3 (s : S) (t : T) : els (els (dTree Try.prog g3 noΛ 100 11 (aST.enc (s, t)) dTE)) = .br (t.d != s.f) (.ret (zT, 11)) (els (els (els (dTree Try.prog g3 noΛ 100 11 (aST.enc (s, t)) dTE)))) := by kernel_rfl
end Go.Proofs.Ytapmlfklkfgmoaa
