/- Chapter 2: All: the contracts; the steps. -/
import Derived.Test.YtapmlfklkfgmoaaZT8
set_option linter.unusedVariables false
namespace Go.Proofs.Ytapmlfklkfgmoaa
open Go.RowKit Go.Sx
def allF (d : Int) (l : List S) : S × Int := ((allRun l.length l 0 (id_F d).2 (id_F d).1).2.2, (allRun l.length l 0 (id_F d).2 (id_F d).1).2.1)
theorem all_ok : FnPure Try.prog 14 aIL dSE (fun g => allF g.1 g.2) (fun _ => []) := by
  have h := all_okS (fun _ => []) (fun g hb _ => by
    obtain ⟨_, hl, _⟩ := hb
    unfold all_side
    rw [eS.lst_els]
    exact ⟨fun e _ => eS.ok_els _ e, rfl, Int.le_refl _, Int.natCast_nonneg _, hl⟩)
  have e : (fun g : DA.T aIL => all_F g.1 g.2) = fun g : DA.T aIL => allF g.1 g.2 := by
    funext g
    unfold all_F allF
    rw [eS.lst_els]
    rfl
  rw [e] at h
  exact h
theorem rid_eq (d : Int) : rid_F d = id_F d := by
  unfold rid_F id_F
  rw [rc_ne]
  by_cases h : 0 ≤ d ∧ d ≤ 4
  · rw [(may_iff _).2 (by unfold S.Ok; simp; omega), show (decide (d < 0) || decide (d > 4)) = false by simp; omega]
    rfl
  · rw [may_false (by unfold S.Ok; simp; omega), show (decide (d < 0) || decide (d > 4)) = true by simp; omega]
    rfl
theorem rall_ok : FnPure Try.prog 15 aIL dSE (fun g => allF g.1 g.2) (fun _ => []) := by
  have h := rall_okS (fun _ => []) (fun g hb _ => by
    obtain ⟨_, hl, _⟩ := hb
    unfold rall_side
    rw [eS.lst_els]
    exact ⟨fun e _ => eS.ok_els _ e, Int.le_refl _, Int.natCast_nonneg _, hl⟩)
  have e : (fun g : DA.T aIL => rall_F g.1 g.2) = fun g : DA.T aIL => allF g.1 g.2 := by
    funext g
    unfold rall_F allF
    rw [eS.lst_els, rid_eq]
    rfl
  rw [e] at h
  exact h
def tab5 : PTab Try.prog := (tab4.cons 14 (pconP aIL dSE (fun g => allF g.1 g.2) (fun _ => [])) (conP_ok all_ok puSE)).cons 15 (pconP aIL dSE (fun g => allF g.1 g.2) (fun _ => [])) (conP_ok rall_ok puSE)
abbrev aLS : DA (List S) := .one dLS
abbrev aLaw1 : DA (S × S × T × Int × List S) := .cons dS (.cons dS (.cons dT (.cons dI (.one dLS))))
end Go.Proofs.Ytapmlfklkfgmoaa
