/- Chapter 2: begun. -/
import Derived.Test.YtapmlfklkfgmoaaZA11
set_option linter.unusedVariables false
namespace Go.Sx
section
variable {α : Type} (A : El α)
def okAll (n : Nat) (el : Nat → List SV) : Bool := (List.range n).all fun e => match A.decs (el e) with
  | some (_, []) => true
  | _ => false
variable {A}
theorem okAll_ok {n : Nat} {el : Nat → List SV} (h : okAll A n el = true) : ∀ e, e < n → A.Ok (el e) := fun e he => by
  have := List.all_eq_true.1 h e (by simpa using he)
  split at this
  · rename_i a hd
    exact ⟨a, [], hd, by simp⟩
  · cases this
end
/-- As Dv.list, where the elements are looked at one by one. -/
def Dv.listB {α : Type} (A : El α) : Dv (List α) where
  dec s := match s with
    | .rs sz n el => bif Nat.beq sz A.sz && okAll A n el then some (A.lst n el, []) else none
    | _ => none
  enc := (Dv.list A).enc
  bd := (Dv.list A).bd
  cl := (Dv.list A).cl
  ok s a ps n ρ x hd hp hf := by
    split at hd
    · rename_i sz m el
      cases hb : (Nat.beq sz A.sz && okAll A m el) with
      | false => rw [hb] at hd; cases hd
      | true =>
        rw [hb] at hd
        simp only [cond_true, Option.some.injEq, Prod.mk.injEq] at hd
        obtain ⟨rfl, rfl⟩ := hd
        simp only [Bool.and_eq_true] at hb
        exact (Dv.list A).ok (.rs sz m el) _ [∀ e, e < m → A.Ok (el e)] n ρ x (by simp [Dv.list, hb.1]) (by
          intro p hp
          simp only [List.mem_singleton] at hp
          subst hp
          exact okAll_ok hb.2) hf
    · cases hd
  fb := (Dv.list A).fb
def Tr.sure {α : Type} : Tr α → Bool
  | .ret _ => true
  | .br c a b => bif c then a.sure else b.sure
  | _ => false
theorem Tr.sure_holds {α : Type} (d : α) : ∀ {t : Tr α}, t.sure = true → t.Holds (· = t.ev d)
  | .ret _, _ => rfl
  | .br true a b, h => ⟨fun _ => Tr.sure_holds d (t := a) h, fun h => by cases h⟩
  | .br false a b, h => ⟨fun h => (by cases h), fun _ => Tr.sure_holds d (t := b) h⟩
end Go.Sx
namespace Go.Proofs.Ytapmlfklkfgmoaa
open Go.RowKit Go.Sx
abbrev aILB : DA (Int × List S) := .cons dI (.one (.listB eS))
theorem all_okB : FnPure Try.prog 14 aILB dSE (fun g => allF g.1 g.2) (fun _ => []) := all_ok
def tab5b : PTab Try.prog := tab4.cons 14 (pconP aILB dSE (fun g => allF g.1 g.2) (fun _ => [])) (conP_ok all_okB puSE)
set_option maxRecDepth 100000
theorem begun_ev : (dTree Try.prog (PTab.gamz tab5b [] []) noΛ 100 16 (DA.enc .none ()) dBool).ev false = true := by kernel_rfl
theorem begun_sure : (dTree Try.prog (PTab.gamz tab5b [] []) noΛ 100 16 (DA.enc .none ()) dBool).sure = true := by kernel_rfl
theorem begun_ok : FnPure Try.prog 16 .none dBool (fun _ => true) (fun _ => []) := pure_of_tree (PTab.okz tab5b [] []) noΛ_ok 100 fun g _ _ => by
  have h := Tr.sure_holds false begun_sure
  rw [begun_ev] at h
  exact h
def tab6 : PTab Try.prog := tab6a.cons 16 (pconP .none dBool (fun _ => true) (fun _ => [])) (conP_ok begun_ok puB)
end Go.Proofs.Ytapmlfklkfgmoaa
