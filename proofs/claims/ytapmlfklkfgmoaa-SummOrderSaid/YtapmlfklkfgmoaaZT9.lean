/- Chapter 2: what the laws share. Printed by treegen.py. -/
import Derived.Test.YtapmlfklkfgmoaaZA9
set_option linter.unusedVariables false
namespace Go.Proofs.Ytapmlfklkfgmoaa
open Go.RowKit Go.Sx
set_option maxRecDepth 100000
set_option linter.unusedVariables false
def few_F (l : List S) : Dv.T dLS :=
  eS.lst
    (List.foldl
        (fun a x => bif false then if x.snd.snd > a then x.snd.snd else a else if x.snd.snd < a then x.snd.snd else a)
        (↑l.length : Int) [(true, IntKind.i64, (40 : Int))]).toNat
    (eS.els l)
def few_side (l : List S) : Prop :=
  ((0 : Int) ≤
        List.foldl
          (fun a x => bif false then if x.snd.snd > a then x.snd.snd else a else if x.snd.snd < a then x.snd.snd else a)
          (↑l.length : Int) [(true, IntKind.i64, (40 : Int))] ∧
      List.foldl
          (fun a x => bif false then if x.snd.snd > a then x.snd.snd else a else if x.snd.snd < a then x.snd.snd else a)
          (↑l.length : Int) [(true, IntKind.i64, (40 : Int))] ≤
        (↑l.length : Int)) ∧
    ∀ (e : Nat),
      e <
          (List.foldl
              (fun a x =>
                bif false then if x.snd.snd > a then x.snd.snd else a else if x.snd.snd < a then x.snd.snd else a)
              (↑l.length : Int) [(true, IntKind.i64, (40 : Int))]).toNat →
        eS.Ok (eS.els l e)
theorem few_okS (pre : DA.T aLS → List Prop) (h : ∀ g, DA.bd aLS g → (∀ p ∈ pre g, p) → few_side g) : FnPure Try.prog 9 aLS dLS (fun g => few_F g) pre := pure_of_sideS (Γ := (PTab.gamz tab5 [] [])) (Λ := noΛ) (PTab.okz tab5 [] []) noΛ_ok 100 default (fun g => few_side g) (fun g => by kernel_rfl) (fun g => by kernel_rfl) h
def tab6x : PTab Try.prog := tab5
end Go.Proofs.Ytapmlfklkfgmoaa
