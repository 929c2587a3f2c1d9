/- Chapter 2: arguments with written out sizes. -/
import Derived.Test.YtapmlfklkfgmoaaZA2
set_option linter.unusedVariables false
namespace Go.Proofs.Ytapmlfklkfgmoaa
open Go.RowKit Go.Sx
theorem neq0 {x : Int} (h : (x != 0) = false) : x = 0 := bne_eq_false_iff_eq.1 h
def tab3 : PTab Try.prog := tab2
def vi (n : Int) : SV := .v (.int .i64 n)
def ki (n : Int) : SV := .k (.int .i64 n)
def encK (s : S) (k n : Nat) : SV := .agg [vi s.f, ki k, vi s.a, ki n, vi s.p0, vi s.p1, vi s.p2, vi s.p3]
def encD (t : T) (d : Nat) : SV := .agg [vi t.e, ki d, vi t.l0, vi t.l1, vi t.l2, vi t.l3]
def litS (s : S) (k n : Nat) : S := ⟨s.f, k, s.a, n, s.p0, s.p1, s.p2, s.p3⟩
theorem litS_eq {s : S} {k n : Nat} (h1 : s.k = k) (h2 : s.n = n) : litS s k n = s := by unfold litS; rw [← h1, ← h2]
def vv1 : SV → SV
  | .k x => .v x
  | s => s
theorem vv1_fit {s : SV} {n : Nat} {ρ : Rh} {x : Value} : (vv1 s).fit n ρ x ↔ s.fit n ρ x := by cases s <;> simp [vv1, SV.fit]
theorem fits_vv1 {n : Nat} {ρ : Rh} : ∀ {xs ys : List SV} {l : List Value}, xs.map vv1 = ys.map vv1 → SV.fits n ρ xs l → SV.fits n ρ ys l
  | [], [], _, _, h => h
  | x :: xs, y :: ys, l, he, h => by
    obtain ⟨a, r, rfl, ha, hr⟩ := fits_cons h
    simp only [List.map_cons, List.cons.injEq] at he
    exact ⟨vv1_fit.1 (he.1 ▸ vv1_fit.2 ha), fits_vv1 he.2 hr⟩
  | [], _ :: _, _, he, _ => by simp at he
  | _ :: _, [], _, he, _ => by simp at he
theorem encK_fit {s : S} {k n : Nat} (h1 : s.k = k) (h2 : s.n = n) {m : Nat} {ρ : Rh} {x : Value} (h : (dS.enc s).fit m ρ x) : (encK s k n).fit m ρ x := by
  rw [← litS_eq h1 h2] at h
  obtain ⟨l, hx, hl⟩ := h
  exact ⟨l, hx, fits_vv1 (xs := eS.cells (litS s k n)) rfl hl⟩
theorem encKK_fit {a b : S} {k n k' n' : Nat} (h1 : a.k = k) (h2 : a.n = n) (h3 : b.k = k') (h4 : b.n = n') {m : Nat} {ρ : Rh} {x : List Value} (h : SV.fits m ρ (aSS.enc (a, b)) x) : SV.fits m ρ [encK a k n, encK b k' n'] x := by
  obtain ⟨y, r, rfl, hy, hr⟩ := fits_cons h
  obtain ⟨z, r', rfl, hz, hr'⟩ := fits_cons hr
  exact ⟨encK_fit h1 h2 hy, encK_fit h3 h4 hz, hr'⟩
theorem encKT_fit {a : S} {t : T} {k n : Nat} (h1 : a.k = k) (h2 : a.n = n) {m : Nat} {ρ : Rh} {x : List Value} (h : SV.fits m ρ (aST.enc (a, t)) x) : SV.fits m ρ [encK a k n, dT.enc t] x := by
  obtain ⟨y, r, rfl, hy, hr⟩ := fits_cons h
  exact ⟨encK_fit h1 h2 hy, hr⟩
end Go.Proofs.Ytapmlfklkfgmoaa
