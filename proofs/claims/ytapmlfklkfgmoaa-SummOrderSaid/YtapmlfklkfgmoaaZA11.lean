/- Chapter 2: few. -/
import Derived.Test.YtapmlfklkfgmoaaZT9
set_option linter.unusedVariables false
namespace Go.Proofs.Ytapmlfklkfgmoaa
open Go.RowKit Go.Sx
theorem few_min (n : Nat) : (List.foldl (fun a x => bif false then if x.snd.snd > a then x.snd.snd else a else if x.snd.snd < a then x.snd.snd else a) (↑n : Int) [(true, IntKind.i64, (40 : Int))]) = ((min n 40 : Nat) : Int) := by
  simp only [List.foldl_cons, List.foldl_nil, cond_false]
  split <;> omega
theorem few_ok : FnPure Try.prog 9 aLS dLS (fun l => l.take 40) (fun _ => []) := by
  have h := few_okS (fun _ => []) (fun g hb _ => by
    unfold few_side
    rw [few_min]
    exact ⟨⟨by omega, by omega⟩, fun e _ => eS.ok_els _ e⟩)
  have e : (fun g : DA.T aLS => few_F g) = fun g : DA.T aLS => List.take 40 g := by
    funext g
    unfold few_F
    rw [few_min, Int.toNat_natCast, eS.lst_take _ _ (by omega), Nat.min_comm]
    exact (List.take_eq_take_min ..).symm
  rw [e] at h
  exact h
def tab6a : PTab Try.prog := tab5.cons 9 (pconR aLS dLS (fun l => l.take 40) (fun _ => [])) (conR_ok few_ok)
end Go.Proofs.Ytapmlfklkfgmoaa
