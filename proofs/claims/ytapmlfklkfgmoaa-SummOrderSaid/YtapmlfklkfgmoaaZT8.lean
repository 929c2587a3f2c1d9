/- Chapter 2: All. Printed by treegen.py. -/
import Derived.Test.YtapmlfklkfgmoaaZA8
set_option linter.unusedVariables false
namespace Go.Proofs.Ytapmlfklkfgmoaa
open Go.RowKit Go.Sx
set_option maxRecDepth 100000
set_option linter.unusedVariables false
def all_F (d : Int) (l : List S) : Dv.T dSE :=
  ((allRun ((eS.lst l.length (eS.els l)).length - (0 : Nat)) (eS.lst l.length (eS.els l)) (0 : Int) (id_F d).snd
          (id_F d).fst).snd.snd,
    (allRun ((eS.lst l.length (eS.els l)).length - (0 : Nat)) (eS.lst l.length (eS.els l)) (0 : Int) (id_F d).snd
          (id_F d).fst).snd.fst)
def all_side (d : Int) (l : List S) : Prop :=
  (∀ (e : Nat), e < l.length → eS.Ok (eS.els l e)) ∧
    (↑l.length : Int) = (↑(eS.lst l.length (eS.els l)).length : Int) ∧
      (0 : Int) ≤ (0 : Int) ∧
        (0 : Int) ≤ (↑(eS.lst l.length (eS.els l)).length : Int) ∧ (eS.lst l.length (eS.els l)).length ≤ maxLen
theorem all_okS (pre : DA.T aIL → List Prop) (h : ∀ g, DA.bd aIL g → (∀ p ∈ pre g, p) → all_side g.1 g.2) : FnPure Try.prog 14 aIL dSE (fun g => all_F g.1 g.2) pre := pure_of_sideS (Γ := (PTab.gamz tab4 [] [])) (Λ := lam1) (PTab.okz tab4 [] []) lam1_ok 100 default (fun g => all_side g.1 g.2) (fun g => by kernel_rfl) (fun g => by kernel_rfl) h
def rall_F (d : Int) (l : List S) : Dv.T dSE :=
  ((allRun ((eS.lst l.length (eS.els l)).length - (0 : Nat)) (eS.lst l.length (eS.els l)) (0 : Int) (rid_F d).snd
          (rid_F d).fst).snd.snd,
    (allRun ((eS.lst l.length (eS.els l)).length - (0 : Nat)) (eS.lst l.length (eS.els l)) (0 : Int) (rid_F d).snd
          (rid_F d).fst).snd.fst)
def rall_side (d : Int) (l : List S) : Prop :=
  (∀ (e : Nat), e < l.length → eS.Ok (eS.els l e)) ∧
    (0 : Int) ≤ (0 : Int) ∧
      (0 : Int) ≤ (↑(eS.lst l.length (eS.els l)).length : Int) ∧ (eS.lst l.length (eS.els l)).length ≤ maxLen
theorem rall_okS (pre : DA.T aIL → List Prop) (h : ∀ g, DA.bd aIL g → (∀ p ∈ pre g, p) → rall_side g.1 g.2) : FnPure Try.prog 15 aIL dSE (fun g => rall_F g.1 g.2) pre := pure_of_sideS (Γ := (PTab.gamz tab4 [] [])) (Λ := lam1) (PTab.okz tab4 [] []) lam1_ok 100 default (fun g => rall_side g.1 g.2) (fun g => by kernel_rfl) (fun g => by kernel_rfl) h
def tab4x : PTab Try.prog := tab4
end Go.Proofs.Ytapmlfklkfgmoaa
