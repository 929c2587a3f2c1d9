/- Chapter 3: Leq, both, the document's two, Insert, Meet; All. Printed by treegen.py. -/
import Derived.Test.YtiipneclghnfhaaZG11adaa1d
import Derived.Test.YtiipneclghnfhaaZG087ca04d
import Derived.Test.YtiipneclghnfhaaZG078a2f4a
import Derived.Test.YtiipneclghnfhaaZG10b5e5a6
set_option linter.unusedVariables false
set_option linter.unusedSimpArgs false
set_option linter.constructorNameAsVariable false
set_option linter.all false

namespace Go.Proofs.Ytiipneclghnfhaa
open Go.RowKit Go.Sx
set_option maxRecDepth 100000
set_option linter.unusedVariables false
abbrev dLBE : Dv (List T × Bool × Int) := .tup (.cons dLT (.cons dBool (.one dI)))
noncomputable def clq_F (ys : List T) (xs : List T) : Dv.T dBool :=
  !(eT.lst xs.length (eT.els xs)).any fun v => !(eT.lst ys.length (eT.els ys)).any fun x => tleq_F x v
def clq_side (ys : List T) (xs : List T) : Prop :=
  (∀ (e : Nat), e < xs.length → eT.Ok (eT.els xs e)) ∧ ∀ (e : Nat), e < ys.length → eT.Ok (eT.els ys e)
theorem clq_okS (pre : DA.T aLL → List Prop) (h : ∀ g, DA.bd aLL g → (∀ p ∈ pre g, p) → clq_side g.1 g.2) : FnPure Try.prog 55 aLL dBool (fun g => clq_F g.1 g.2) pre := pure_of_sideS (Γ := (MTab.gamz tabW [] [])) (Λ := noΛ) (MTab.okz tabW [] []) noΛ_ok 100 default (fun g => clq_side g.1 g.2) (fun g => by kernel_rfl) (fun g => by kernel_rfl) h
noncomputable def bth_F (xs : List T) (ys : List T) : Dv.T dI :=
  bif chkC (eT.lst xs.length (eT.els xs)) != (0 : Int) then chkC (eT.lst xs.length (eT.els xs))
  else bif chkC (eT.lst ys.length (eT.els ys)) != (0 : Int) then chkC (eT.lst ys.length (eT.els ys)) else bif decide ((↑xs.length : Int) > (0 : Int)) && (decide ((↑ys.length : Int) > (0 : Int)) && (xs.getD (0 : Nat) eT.dflt).d != (ys.getD (0 : Nat) eT.dflt).d) then (11 : Int) else (0 : Int)
def bth_side (xs : List T) (ys : List T) : Prop :=
  (∀ (e : Nat), e < xs.length → eT.Ok (eT.els xs e)) ∧ ((chkC (eT.lst xs.length (eT.els xs)) != (0 : Int)) = false → (∀ (e : Nat), e < ys.length → eT.Ok (eT.els ys e)) ∧ ((chkC (eT.lst ys.length (eT.els ys)) != (0 : Int)) = false → (decide ((↑xs.length : Int) > (0 : Int)) = true → decide ((↑ys.length : Int) > (0 : Int)) = true → (0 : Int) ≤ (0 : Int) ∧ (0 : Int) < (↑xs.length : Int)) ∧ (decide ((↑xs.length : Int) > (0 : Int)) = true → decide ((↑ys.length : Int) > (0 : Int)) = true → (0 : Int) ≤ (0 : Int) ∧ (0 : Int) < (↑ys.length : Int))))
theorem bth_okS (pre : DA.T aLL → List Prop) (h : ∀ g, DA.bd aLL g → (∀ p ∈ pre g, p) → bth_side g.1 g.2) : FnPure Try.prog 99 aLL dI (fun g => bth_F g.1 g.2) pre := pure_of_sideS (Γ := (MTab.gamz tabW [] [])) (Λ := noΛ) (MTab.okz tabW [] []) noΛ_ok 100 default (fun g => bth_side g.1 g.2) (fun g => by kernel_rfl) (fun g => by kernel_rfl) h
noncomputable def two_F (xs : List T) (ys : List T) : Dv.T dI :=
  bif chkC (eT.lst xs.length (eT.els xs)) != (0 : Int) then chkC (eT.lst xs.length (eT.els xs))
  else bif chkC (eT.lst ys.length (eT.els ys)) != (0 : Int) then chkC (eT.lst ys.length (eT.els ys)) else bif decide ((↑xs.length : Int) > (0 : Int)) && (decide ((↑ys.length : Int) > (0 : Int)) && (xs.getD (0 : Nat) eT.dflt).d != (ys.getD (0 : Nat) eT.dflt).d) then (11 : Int) else (0 : Int)
def two_side (xs : List T) (ys : List T) : Prop :=
  (∀ (e : Nat), e < xs.length → eT.Ok (eT.els xs e)) ∧ ((chkC (eT.lst xs.length (eT.els xs)) != (0 : Int)) = false → (∀ (e : Nat), e < ys.length → eT.Ok (eT.els ys e)) ∧ ((chkC (eT.lst ys.length (eT.els ys)) != (0 : Int)) = false → (decide ((↑xs.length : Int) > (0 : Int)) = true → decide ((↑ys.length : Int) > (0 : Int)) = true → (0 : Int) ≤ (0 : Int) ∧ (0 : Int) < (↑xs.length : Int)) ∧ (decide ((↑xs.length : Int) > (0 : Int)) = true → decide ((↑ys.length : Int) > (0 : Int)) = true → (0 : Int) ≤ (0 : Int) ∧ (0 : Int) < (↑ys.length : Int))))
theorem two_okS (pre : DA.T aLL → List Prop) (h : ∀ g, DA.bd aLL g → (∀ p ∈ pre g, p) → two_side g.1 g.2) : FnPure Try.prog 102 aLL dI (fun g => two_F g.1 g.2) pre := pure_of_sideS (Γ := (MTab.gamz tabW [] [])) (Λ := noΛ) (MTab.okz tabW [] []) noΛ_ok 100 default (fun g => two_side g.1 g.2) (fun g => by kernel_rfl) (fun g => by kernel_rfl) h
noncomputable def tabX39 : MTab Try.prog := tabW
end Go.Proofs.Ytiipneclghnfhaa

/- Chapter 3: Leq, both, the document's two: contracts. -/
namespace Go.Proofs.Ytiipneclghnfhaa
open Go.RowKit Go.Sx Go.Lp
theorem clq_ok : FnPure Try.prog 55 aLL dBool (fun g => leqC g.1 g.2) (fun _ => []) := by
  refine pure_congr (clq_okS _ fun g hb hp => ⟨okT g.2, okT g.1⟩) fun g hb hp => ?_
  show clq_F g.1 g.2 = _
  unfold clq_F leqC
  simp only [eT.lst_els]
  rw [any_not_all, Bool.not_not]
noncomputable def bothC (xs ys : List T) : Int := bif chkC xs != 0 then chkC xs else bif chkC ys != 0 then chkC ys else bif decide ((xs.length : Int) > 0) && (decide ((ys.length : Int) > 0) && (xs.getD (0 : Nat) eT.dflt).d != (ys.getD (0 : Nat) eT.dflt).d) then 11 else 0
theorem bth_ok : FnPure Try.prog 99 aLL dI (fun g => bothC g.1 g.2) (fun _ => []) := by
  refine pure_congr (bth_okS _ fun g hb hp => ?_) fun g hb hp => ?_
  · show bth_side g.1 g.2
    unfold bth_side
    simp only [eT.lst_els]
    exact ⟨okT _, fun _ => ⟨okT _, fun _ => ⟨fun h _ => ⟨Int.le_refl _, of_decide_eq_true h⟩, fun _ h => ⟨Int.le_refl _, of_decide_eq_true h⟩⟩⟩⟩
  · show bth_F g.1 g.2 = _
    unfold bth_F bothC
    simp only [eT.lst_els]
theorem two_ok : FnPure Try.prog 102 aLL dI (fun g => bothC g.1 g.2) (fun _ => []) := by
  refine pure_congr (two_okS _ fun g hb hp => ?_) fun g hb hp => ?_
  · show two_side g.1 g.2
    unfold two_side
    simp only [eT.lst_els]
    exact ⟨okT _, fun _ => ⟨okT _, fun _ => ⟨fun h _ => ⟨Int.le_refl _, of_decide_eq_true h⟩, fun _ h => ⟨Int.le_refl _, of_decide_eq_true h⟩⟩⟩⟩
  · show two_F g.1 g.2 = _
    unfold two_F bothC
    simp only [eT.lst_els]
noncomputable def tabXa : PTab Try.prog := ((tabV.cons 55 (pconP aLL dBool (fun g => leqC g.1 g.2) (fun _ => [])) (conP_ok clq_ok puB)).cons 99 (pconP aLL dI (fun g => bothC g.1 g.2) (fun _ => [])) (conP_ok bth_ok puI)).cons 102 (pconP aLL dI (fun g => bothC g.1 g.2) (fun _ => [])) (conP_ok two_ok puI)
noncomputable def tabY : MTab Try.prog := (MTab.of tabXa).consM 31 (lconR eT DA.none dLE (fun g => ofC g.1) (fun g => [g.1.length ≤ KS])) (conL_ok (pure_none rof_ok))
end Go.Proofs.Ytiipneclghnfhaa

/- Chapter 3: the document's Insert, Meet; All. Printed by treegen.py. -/
namespace Go.Proofs.Ytiipneclghnfhaa
open Go.RowKit Go.Sx
set_option maxRecDepth 100000
set_option linter.unusedVariables false
noncomputable def rins_F (xs : List T) (t : T) : Dv.T dLBE :=
  bif chkC (eT.lst xs.length (eT.els xs)) != (0 : Int) then ([], false, chkC (eT.lst xs.length (eT.els xs)))
  else bif rtcheck_F t != (0 : Int) then ([], false, rtcheck_F t) else bif (ofC (List.map (fun x => eT.get []) (List.range (min (min ((0 : Nat) + xs.length + (1 : Nat)) ((0 : Nat) + xs.length)) (0 : Nat))) ++ eT.lst (min ((0 : Nat) + xs.length + (1 : Nat)) ((0 : Nat) + xs.length) - (0 : Nat)) (eT.els xs) ++ List.map (fun x => t) (List.range ((0 : Nat) + xs.length + (1 : Nat) - ((0 : Nat) + xs.length))))).snd != (0 : Int) then ([], false, (ofC (List.map (fun x => eT.get []) (List.range (min (min ((0 : Nat) + xs.length + (1 : Nat)) ((0 : Nat) + xs.length)) (0 : Nat))) ++ eT.lst (min ((0 : Nat) + xs.length + (1 : Nat)) ((0 : Nat) + xs.length) - (0 : Nat)) (eT.els xs) ++ List.map (fun x => t) (List.range ((0 : Nat) + xs.length + (1 : Nat) - ((0 : Nat) + xs.length))))).snd) else (eT.lst (ofC (List.map (fun x => eT.get []) (List.range (min (min ((0 : Nat) + xs.length + (1 : Nat)) ((0 : Nat) + xs.length)) (0 : Nat))) ++ eT.lst (min ((0 : Nat) + xs.length + (1 : Nat)) ((0 : Nat) + xs.length) - (0 : Nat)) (eT.els xs) ++ List.map (fun x => t) (List.range ((0 : Nat) + xs.length + (1 : Nat) - ((0 : Nat) + xs.length))))).fst.length (eT.els (ofC (List.map (fun x => eT.get []) (List.range (min (min ((0 : Nat) + xs.length + (1 : Nat)) ((0 : Nat) + xs.length)) (0 : Nat))) ++ eT.lst (min ((0 : Nat) + xs.length + (1 : Nat)) ((0 : Nat) + xs.length) - (0 : Nat)) (eT.els xs) ++ List.map (fun x => t) (List.range ((0 : Nat) + xs.length + (1 : Nat) - ((0 : Nat) + xs.length))))).fst), !decide (eT.lst (ofC (List.map (fun x => eT.get []) (List.range (min (min ((0 : Nat) + xs.length + (1 : Nat)) ((0 : Nat) + xs.length)) (0 : Nat))) ++ eT.lst (min ((0 : Nat) + xs.length + (1 : Nat)) ((0 : Nat) + xs.length) - (0 : Nat)) (eT.els xs) ++ List.map (fun x => t) (List.range ((0 : Nat) + xs.length + (1 : Nat) - ((0 : Nat) + xs.length))))).fst.length (eT.els (ofC (List.map (fun x => eT.get []) (List.range (min (min ((0 : Nat) + xs.length + (1 : Nat)) ((0 : Nat) + xs.length)) (0 : Nat))) ++ eT.lst (min ((0 : Nat) + xs.length + (1 : Nat)) ((0 : Nat) + xs.length) - (0 : Nat)) (eT.els xs) ++ List.map (fun x => t) (List.range ((0 : Nat) + xs.length + (1 : Nat) - ((0 : Nat) + xs.length))))).fst) = eT.lst xs.length (eT.els xs)), (0 : Int))
def rins_side (xs : List T) (t : T) : Prop :=
  (∀ (e : Nat), e < xs.length → eT.Ok (eT.els xs e)) ∧ ((chkC (eT.lst xs.length (eT.els xs)) != (0 : Int)) = false → (rtcheck_F t != (0 : Int)) = false → (True ∧ (∀ (e : Nat), e < xs.length → (eT.els xs e).all SV.one = true) ∧ (0 : Nat) + xs.length ≤ maxLen ∧ ((0 : Nat) + xs.length) * Try.prog.types[(30 : Nat)].bytes ≤ (140737488355328 : Nat)) ∧ ((0 : Nat) + xs.length ≤ (0 : Nat) + xs.length ∧ True ∧ (0 : Nat) + xs.length + (1 : Nat) ≤ maxLen ∧ ((0 : Nat) + xs.length + (1 : Nat)) * Try.prog.types[(30 : Nat)].bytes ≤ (140737488355328 : Nat)) ∧ (0 : Nat) + xs.length + (1 : Nat) ≤ (0 : Nat) + xs.length + (1 : Nat) ∧ (∀ (e : Nat), e < min (min ((0 : Nat) + xs.length + (1 : Nat)) ((0 : Nat) + xs.length)) (0 : Nat) → eT.OkP []) ∧ (∀ (e : Nat), e < min ((0 : Nat) + xs.length + (1 : Nat)) ((0 : Nat) + xs.length) - (0 : Nat) → True) ∧ (∀ (e : Nat), e < (0 : Nat) + xs.length + (1 : Nat) - ((0 : Nat) + xs.length) → True) ∧ (List.map (fun x => eT.get []) (List.range (min (min ((0 : Nat) + xs.length + (1 : Nat)) ((0 : Nat) + xs.length)) (0 : Nat))) ++ eT.lst (min ((0 : Nat) + xs.length + (1 : Nat)) ((0 : Nat) + xs.length) - (0 : Nat)) (eT.els xs) ++ List.map (fun x => t) (List.range ((0 : Nat) + xs.length + (1 : Nat) - ((0 : Nat) + xs.length)))).length ≤ KS ∧ (((ofC (List.map (fun x => eT.get []) (List.range (min (min ((0 : Nat) + xs.length + (1 : Nat)) ((0 : Nat) + xs.length)) (0 : Nat))) ++ eT.lst (min ((0 : Nat) + xs.length + (1 : Nat)) ((0 : Nat) + xs.length) - (0 : Nat)) (eT.els xs) ++ List.map (fun x => t) (List.range ((0 : Nat) + xs.length + (1 : Nat) - ((0 : Nat) + xs.length))))).snd != (0 : Int)) = false → (∀ (e : Nat), e < (ofC (List.map (fun x => eT.get []) (List.range (min (min ((0 : Nat) + xs.length + (1 : Nat)) ((0 : Nat) + xs.length)) (0 : Nat))) ++ eT.lst (min ((0 : Nat) + xs.length + (1 : Nat)) ((0 : Nat) + xs.length) - (0 : Nat)) (eT.els xs) ++ List.map (fun x => t) (List.range ((0 : Nat) + xs.length + (1 : Nat) - ((0 : Nat) + xs.length))))).fst.length → eT.Ok (eT.els (ofC (List.map (fun x => eT.get []) (List.range (min (min ((0 : Nat) + xs.length + (1 : Nat)) ((0 : Nat) + xs.length)) (0 : Nat))) ++ eT.lst (min ((0 : Nat) + xs.length + (1 : Nat)) ((0 : Nat) + xs.length) - (0 : Nat)) (eT.els xs) ++ List.map (fun x => t) (List.range ((0 : Nat) + xs.length + (1 : Nat) - ((0 : Nat) + xs.length))))).fst e)) ∧ (∀ (e : Nat), e < xs.length → eT.Ok (eT.els xs e)) ∧ ∀ (e : Nat), e < (ofC (List.map (fun x => eT.get []) (List.range (min (min ((0 : Nat) + xs.length + (1 : Nat)) ((0 : Nat) + xs.length)) (0 : Nat))) ++ eT.lst (min ((0 : Nat) + xs.length + (1 : Nat)) ((0 : Nat) + xs.length) - (0 : Nat)) (eT.els xs) ++ List.map (fun x => t) (List.range ((0 : Nat) + xs.length + (1 : Nat) - ((0 : Nat) + xs.length))))).fst.length → eT.Ok (eT.els (ofC (List.map (fun x => eT.get []) (List.range (min (min ((0 : Nat) + xs.length + (1 : Nat)) ((0 : Nat) + xs.length)) (0 : Nat))) ++ eT.lst (min ((0 : Nat) + xs.length + (1 : Nat)) ((0 : Nat) + xs.length) - (0 : Nat)) (eT.els xs) ++ List.map (fun x => t) (List.range ((0 : Nat) + xs.length + (1 : Nat) - ((0 : Nat) + xs.length))))).fst e)))
theorem rins_okS (pre : DA.T aLT → List Prop) (h : ∀ g, DA.bd aLT g → (∀ p ∈ pre g, p) → rins_side g.1 g.2) : FnPure Try.prog 32 aLT dLBE (fun g => rins_F g.1 g.2) pre := pure_of_sideS (Γ := (MTab.gamz tabY [] [])) (Λ := noΛ) (MTab.okz tabY [] []) noΛ_ok 100 default (fun g => rins_side g.1 g.2) (fun g => by kernel_rfl) (fun g => by kernel_rfl) h
noncomputable def rmt_F (xs : List T) (ys : List T) : Dv.T dLE :=
  bif bothC (eT.lst xs.length (eT.els xs)) (eT.lst ys.length (eT.els ys)) != (0 : Int) then ([], bothC (eT.lst xs.length (eT.els xs)) (eT.lst ys.length (eT.els ys)))
  else (eT.lst (ofC (List.map (fun x => eT.get []) (List.range (min (min ((0 : Nat) + xs.length + ys.length) ((0 : Nat) + xs.length)) (0 : Nat))) ++ eT.lst (min ((0 : Nat) + xs.length + ys.length) ((0 : Nat) + xs.length) - (0 : Nat)) (eT.els xs) ++ eT.lst ((0 : Nat) + xs.length + ys.length - ((0 : Nat) + xs.length)) (eT.els ys))).fst.length (eT.els (ofC (List.map (fun x => eT.get []) (List.range (min (min ((0 : Nat) + xs.length + ys.length) ((0 : Nat) + xs.length)) (0 : Nat))) ++ eT.lst (min ((0 : Nat) + xs.length + ys.length) ((0 : Nat) + xs.length) - (0 : Nat)) (eT.els xs) ++ eT.lst ((0 : Nat) + xs.length + ys.length - ((0 : Nat) + xs.length)) (eT.els ys))).fst), (ofC (List.map (fun x => eT.get []) (List.range (min (min ((0 : Nat) + xs.length + ys.length) ((0 : Nat) + xs.length)) (0 : Nat))) ++ eT.lst (min ((0 : Nat) + xs.length + ys.length) ((0 : Nat) + xs.length) - (0 : Nat)) (eT.els xs) ++ eT.lst ((0 : Nat) + xs.length + ys.length - ((0 : Nat) + xs.length)) (eT.els ys))).snd)
def rmt_side (xs : List T) (ys : List T) : Prop :=
  (∀ (e : Nat), e < xs.length → eT.Ok (eT.els xs e)) ∧ (∀ (e : Nat), e < ys.length → eT.Ok (eT.els ys e)) ∧ ((bothC (eT.lst xs.length (eT.els xs)) (eT.lst ys.length (eT.els ys)) != (0 : Int)) = false → (True ∧ (∀ (e : Nat), e < xs.length → (eT.els xs e).all SV.one = true) ∧ (0 : Nat) + xs.length ≤ maxLen ∧ ((0 : Nat) + xs.length) * Try.prog.types[(30 : Nat)].bytes ≤ (140737488355328 : Nat)) ∧ ((0 : Nat) + xs.length ≤ (0 : Nat) + xs.length ∧ (∀ (e : Nat), e < ys.length → (eT.els ys e).all SV.one = true) ∧ (0 : Nat) + xs.length + ys.length ≤ maxLen ∧ ((0 : Nat) + xs.length + ys.length) * Try.prog.types[(30 : Nat)].bytes ≤ (140737488355328 : Nat)) ∧ (0 : Nat) + xs.length + ys.length ≤ (0 : Nat) + xs.length + ys.length ∧ (∀ (e : Nat), e < min (min ((0 : Nat) + xs.length + ys.length) ((0 : Nat) + xs.length)) (0 : Nat) → eT.OkP []) ∧ (∀ (e : Nat), e < min ((0 : Nat) + xs.length + ys.length) ((0 : Nat) + xs.length) - (0 : Nat) → True) ∧ (∀ (e : Nat), e < (0 : Nat) + xs.length + ys.length - ((0 : Nat) + xs.length) → True) ∧ (List.map (fun x => eT.get []) (List.range (min (min ((0 : Nat) + xs.length + ys.length) ((0 : Nat) + xs.length)) (0 : Nat))) ++ eT.lst (min ((0 : Nat) + xs.length + ys.length) ((0 : Nat) + xs.length) - (0 : Nat)) (eT.els xs) ++ eT.lst ((0 : Nat) + xs.length + ys.length - ((0 : Nat) + xs.length)) (eT.els ys)).length ≤ KS ∧ ∀ (e : Nat), e < (ofC (List.map (fun x => eT.get []) (List.range (min (min ((0 : Nat) + xs.length + ys.length) ((0 : Nat) + xs.length)) (0 : Nat))) ++ eT.lst (min ((0 : Nat) + xs.length + ys.length) ((0 : Nat) + xs.length) - (0 : Nat)) (eT.els xs) ++ eT.lst ((0 : Nat) + xs.length + ys.length - ((0 : Nat) + xs.length)) (eT.els ys))).fst.length → eT.Ok (eT.els (ofC (List.map (fun x => eT.get []) (List.range (min (min ((0 : Nat) + xs.length + ys.length) ((0 : Nat) + xs.length)) (0 : Nat))) ++ eT.lst (min ((0 : Nat) + xs.length + ys.length) ((0 : Nat) + xs.length) - (0 : Nat)) (eT.els xs) ++ eT.lst ((0 : Nat) + xs.length + ys.length - ((0 : Nat) + xs.length)) (eT.els ys))).fst e))
theorem rmt_okS (pre : DA.T aLL → List Prop) (h : ∀ g, DA.bd aLL g → (∀ p ∈ pre g, p) → rmt_side g.1 g.2) : FnPure Try.prog 52 aLL dLE (fun g => rmt_F g.1 g.2) pre := pure_of_sideS (Γ := (MTab.gamz tabY [] [])) (Λ := noΛ) (MTab.okz tabY [] []) noΛ_ok 100 default (fun g => rmt_side g.1 g.2) (fun g => by kernel_rfl) (fun g => by kernel_rfl) h
noncomputable def tabX41 : MTab Try.prog := tabY
end Go.Proofs.Ytiipneclghnfhaa

/- Chapter 3: the document's Insert and Meet: contracts. -/
namespace Go.Proofs.Ytiipneclghnfhaa
open Go.RowKit Go.Sx Go.Lp
theorem chk_len {xs : List T} (h : (chkC xs != 0) = false) : xs.length ≤ 1024 := by
  unfold chkC at h
  by_cases hl : (xs.length : Int) > 1024
  · simp [hl] at h
  · omega
theorem j1_eq (xs : List T) (t : T) : List.map (fun _ => eT.get []) (List.range (min (min (0 + xs.length + 1) (0 + xs.length)) 0)) ++ eT.lst (min (0 + xs.length + 1) (0 + xs.length) - 0) (eT.els xs) ++ List.map (fun _ => t) (List.range (0 + xs.length + 1 - (0 + xs.length))) = xs ++ [t] := by
  have h1 : min (0 + xs.length + 1) (0 + xs.length) = xs.length := by omega
  have h2 : min xs.length 0 = 0 := by omega
  have h3 : 0 + xs.length + 1 - (0 + xs.length) = 1 := by omega
  rw [h1, h2, h3, Nat.sub_zero, eT.lst_els]
  rfl
theorem j2_eq (xs ys : List T) : List.map (fun _ => eT.get []) (List.range (min (min (0 + xs.length + ys.length) (0 + xs.length)) 0)) ++ eT.lst (min (0 + xs.length + ys.length) (0 + xs.length) - 0) (eT.els xs) ++ eT.lst (0 + xs.length + ys.length - (0 + xs.length)) (eT.els ys) = xs ++ ys := jnd_eq xs ys
noncomputable def insC (xs : List T) (t : T) : List T × Bool × Int :=
  bif chkC xs != 0 then ([], false, chkC xs)
  else bif tcheck_F t != 0 then ([], false, tcheck_F t)
  else bif (ofC (xs ++ [t])).2 != 0 then ([], false, (ofC (xs ++ [t])).2)
  else ((ofC (xs ++ [t])).1, !decide ((ofC (xs ++ [t])).1 = xs), 0)
theorem rins_ok : FnPure Try.prog 32 aLT dLBE (fun g => insC g.1 g.2) (fun _ => []) := by
  refine pure_congr (rins_okS _ fun g hb hp => ?_) fun g hb hp => ?_
  · obtain ⟨xs, t⟩ := g
    show rins_side xs t
    unfold rins_side
    simp only [eT.lst_els, j1_eq, bytesT]
    refine ⟨okT _, fun hc _ => ?_⟩
    have hl := chk_len hc
    have ha := okT xs
    have hb := okT (ofC (xs ++ [t])).1
    have hk : (xs ++ [t]).length ≤ KS := by unfold KS; simp; omega
    have ho := fun e => onesT xs e
    unfold maxLen
    repeat' (first | exact ha | exact hb | exact hk | exact ho _ | exact rfl | apply And.intro | intro _)
    all_goals (first | trivial | omega)
  · obtain ⟨xs, t⟩ := g
    show rins_F xs t = insC xs t
    unfold rins_F insC
    simp only [eT.lst_els, j1_eq, rtcheck_eq]
noncomputable def meetC (xs ys : List T) : List T × Int := bif bothC xs ys != 0 then ([], bothC xs ys) else ofC (xs ++ ys)
theorem both_len {xs ys : List T} (h : (bothC xs ys != 0) = false) : xs.length ≤ 1024 ∧ ys.length ≤ 1024 := by
  unfold bothC at h
  cases h1 : (chkC xs != 0) with
  | true => simp only [h1, cond_true] at h; cases h
  | false =>
    simp only [h1, cond_false] at h
    cases h2 : (chkC ys != 0) with
    | true => simp only [h2, cond_true] at h; cases h
    | false => exact ⟨chk_len h1, chk_len h2⟩
theorem rmt_ok : FnPure Try.prog 52 aLL dLE (fun g => meetC g.1 g.2) (fun _ => []) := by
  refine pure_congr (rmt_okS _ fun g hb hp => ?_) fun g hb hp => ?_
  · obtain ⟨xs, ys⟩ := g
    show rmt_side xs ys
    unfold rmt_side
    simp only [eT.lst_els, j2_eq, bytesT]
    have ha := okT xs
    have hb := okT ys
    have hd := okT (ofC (xs ++ ys)).1
    refine ⟨ha, hb, fun hc => ?_⟩
    obtain ⟨hl, hl2⟩ := both_len hc
    have hk : (xs ++ ys).length ≤ KS := by unfold KS; simp; omega
    have ho := fun e => onesT xs e
    have ho2 := fun e => onesT ys e
    unfold maxLen
    repeat' (first | exact ha | exact hb | exact hd | exact hk | exact ho _ | exact ho2 _ | exact rfl | apply And.intro | intro _)
    all_goals (first | trivial | omega)
  · obtain ⟨xs, ys⟩ := g
    show rmt_F xs ys = meetC xs ys
    unfold rmt_F meetC
    simp only [eT.lst_els, j2_eq]
noncomputable def tabZ : PTab Try.prog := (tabXa.cons 32 (pconR aLT dLBE (fun g => insC g.1 g.2) (fun _ => [])) (conR_ok rins_ok)).cons 52 (pconR aLL dLE (fun g => meetC g.1 g.2) (fun _ => [])) (conR_ok rmt_ok)
end Go.Proofs.Ytiipneclghnfhaa

/- Chapter 3: chain.Of is the document's: its contract. -/
namespace Go.Proofs.Ytiipneclghnfhaa
open Go.RowKit Go.Sx Go.Lp
theorem cl0 (xs : List T) : List.map (fun _ => eT.get []) (List.range (min (0 + xs.length) 0)) ++ eT.lst (0 + xs.length - 0) (eT.els xs) = xs := by
  have h2 : min (0 + xs.length) 0 = 0 := by omega
  rw [h2, show 0 + xs.length - 0 = xs.length by omega, eT.lst_els]
  rfl
theorem srt_len (xs : List T) : (srtBy cfT xs).length = xs.length := (List.mergeSort_perm _ _).length_eq
theorem dd_len : ∀ (r : List T) (p : T), (dd p r).length ≤ r.length
  | [], _ => Nat.le_refl _
  | y :: r, p => by
    unfold dd
    split
    · exact Nat.le_succ_of_le (dd_len r _)
    · exact Nat.succ_le_succ (dd_len r _)
theorem comp_len (xs : List T) : (compL xs).length ≤ xs.length := by
  cases xs with
  | nil => exact Nat.le_refl _
  | cons x r => exact Nat.succ_le_succ (dd_len r x)
theorem cof_q (xs : List T) (h : xs.length ≤ KS) : ∃ a b c d, cof_q1 xs = (.exit 0, minsT xs, a, b, c, d) := by
  unfold cof_q1
  simp only [cl0, eT.lst_els]
  have hl : (compL (srtBy cfT xs)).length ≤ KS := Nat.le_trans (comp_len _) (by rw [srt_len]; exact h)
  have h1 := of2_run (compL (srtBy cfT xs)) hl
  rw [greedy_mins poT toT] at h1
  exact ⟨_, _, _, _, h1⟩
theorem cof_q0 (xs : List T) : ∃ a b c d, cof_q2 xs = (.exit 0, [], a, b, c, d) := ⟨_, _, _, _, of2_run [] (Nat.zero_le _)⟩
theorem cof_eq (xs : List T) (h : xs.length ≤ KS) : cof_F xs = ofC xs ∧ cof_side xs := by
  have hm : xs.length ≤ 1000000 := h
  have hl : (compL (srtBy cfT xs)).length ≤ KS := Nat.le_trans (comp_len _) (by rw [srt_len]; exact h)
  have hl2 : (compL (srtBy cfT xs)).length ≤ maxLen := Nat.le_trans hl (by unfold KS maxLen; omega)
  obtain ⟨a, b, c, d, h1⟩ := cof_q xs h
  obtain ⟨a', b', c', d', h2⟩ := cof_q0 xs
  unfold cof_F cof_side
  rw [h1, h2]
  simp only [cl0, eT.lst_els, bytesT]
  refine ⟨rfl, okT xs, fun _ cs hcs => ⟨fun hc => ?_, fun _ => ?_⟩⟩
  · have hx : xs = [] := List.length_eq_zero_iff.1 (hcs (by cases hh : cs.isEmpty with
      | true => rw [hh] at hc; cases hc
      | false => rfl))
    subst hx
    refine ⟨trivial, fun e he => by omega, by omega, trivial, fun e he => by omega, fun _ _ => trivial, ?_, fun hc => (by cases hc), fun _ => ⟨fun hc => (by cases hc), fun _ => ⟨Nat.le_refl _, fun _ _ => trivial, fun _ => rfl⟩⟩⟩
    exact ixJ0 (lim := fun c : of2_GC => c.2.1) (xs := fun c : of2_GC => c.1) (P := of2_K) (c := ([], 0, 0)) (b := []) rfl (Nat.zero_le _) ⟨Nat.zero_le _, Int.le_refl _, rfl⟩
  · refine ⟨⟨Nat.le_refl _, fun e _ => onesT xs e, by unfold maxLen; omega, by omega⟩, trivial, fun e he => by omega, fun _ _ => trivial, by omega, by rw [show (fun a b => tcmp_F a b) = cfT from rfl, srt_len]; omega, fun _ _ => trivial, fun _ _ => trivial, ?_, fun hc => (by cases hc), fun _ => ⟨fun hc d => ?_, fun hc => ⟨Nat.le_refl _, fun _ _ => trivial, fun d => ?_⟩⟩⟩
    · exact ixJ0 (lim := fun c : of2_GC => c.2.1) (xs := fun c : of2_GC => c.1) (P := of2_K) (c := (compL (srtBy cfT xs), ((compL (srtBy cfT xs)).length : Int), (compL (srtBy cfT xs)).length)) (b := []) rfl hl2 ⟨hl, Int.le_refl _, rfl⟩
    · rw [hc]; rfl
    · rw [hc]; rfl
theorem cof_ok : FnPure Try.prog 18 aL dLE ofC (fun g => [g.length ≤ KS]) :=
  pure_congr (cof_okS _ fun g _ hp => (cof_eq g (hp _ (List.mem_cons_self ..))).2) fun g _ hp => (cof_eq g (hp _ (List.mem_cons_self ..))).1
noncomputable def tabA : MTab Try.prog := ((MTab.of tabZ).consM 31 (lconR eT DA.none dLE (fun g => ofC g.1) (fun g => [g.1.length ≤ KS])) (conL_ok (pure_none rof_ok))).consM 18 (lconR eT DA.none dLE (fun g => ofC g.1) (fun g => [g.1.length ≤ KS])) (conL_ok (pure_none cof_ok))
end Go.Proofs.Ytiipneclghnfhaa

/- Antichains: the least of lists, met, joined, put in: plain laws. -/
namespace Go.Lp
section
variable {α : Type} [DecidableEq α] {cf : α → α → Int} {le : α → α → Bool}
def Rfl (le : α → α → Bool) (l : List α) : Prop := ∀ x ∈ l, le x x = true
theorem cov_mem {l : List α} {x : α} (hr : Rfl le l) (hx : x ∈ l) : l.any (le · x) = true := List.any_eq_true.2 ⟨x, hx, hr x hx⟩
theorem cov_mins (h : TO cf) (p : PO cf le) {l : List α} (hr : Rfl le l) {x : α} (hx : x ∈ l) : ∃ y ∈ mins cf le l, le y x = true := by
  have := mins_cover h p (l := l) (t := x)
  rw [cov_mem hr hx, List.any_eq_true] at this
  exact this
theorem mins_sub (h : TO cf) {l : List α} {x : α} (hx : x ∈ mins cf le l) : x ∈ l := ((mins_mem h).1 hx).1
theorem mins_mins (h : TO cf) (p : PO cf le) {a c : List α} (hr : Rfl le (a ++ c)) : mins cf le (mins cf le a ++ c) = mins cf le (a ++ c) := by
  have hs : ∀ x ∈ mins cf le a ++ c, x ∈ a ++ c := fun x hx => by
    rcases List.mem_append.1 hx with h1 | h1
    · exact List.mem_append_left _ (mins_sub h h1)
    · exact List.mem_append_right _ h1
  have hr2 : Rfl le (mins cf le a ++ c) := fun x hx => hr x (hs x hx)
  have hra : Rfl le a := fun x hx => hr x (List.mem_append_left _ hx)
  refine ac_ext p h (mins_ac h _) (mins_ac h _) (fun x hx => cov_mins h p hr (hs x (mins_sub h hx))) fun x hx => ?_
  rcases List.mem_append.1 (mins_sub h hx) with h1 | h1
  · obtain ⟨y, hy, e1⟩ := cov_mins h p hra h1
    obtain ⟨z, hz, e2⟩ := cov_mins h p hr2 (List.mem_append_left c hy)
    exact ⟨z, hz, p.trans _ _ _ e2 e1⟩
  · exact cov_mins h p hr2 (List.mem_append_right _ h1)
theorem mins_swap (h : TO cf) {a b c : List α} : mins cf le (a ++ b ++ c) = mins cf le (a ++ c ++ b) :=
  mins_congr h fun x => by simp only [List.mem_append]; constructor <;> (rintro ((h | h) | h) <;> simp [h])
/-- What is covered changes nothing. -/
theorem mins_add (h : TO cf) (p : PO cf le) {l : List α} {t : α} (ha : isAC cf le l) (hr : Rfl le (l ++ [t])) (hc : l.any (le · t) = true) : mins cf le (l ++ [t]) = l := by
  refine ac_ext p h (mins_ac h _) ha (fun x hx => ?_) fun x hx => cov_mins h p hr (List.mem_append_left _ hx)
  rcases List.mem_append.1 (mins_sub h hx) with h1 | h1
  · exact ⟨x, h1, hr x (List.mem_append_left _ h1)⟩
  · rw [List.mem_singleton] at h1
    subst h1
    exact List.any_eq_true.1 hc
theorem add_cov (h : TO cf) (p : PO cf le) {l : List α} {t : α} (hr : Rfl le (l ++ [t])) : (mins cf le (l ++ [t])).any (le · t) = true := by
  rw [mins_cover h p]
  exact cov_mem hr (List.mem_append_right _ (List.mem_singleton.2 rfl))
theorem add_same (h : TO cf) (p : PO cf le) {l : List α} {t : α} (ha : isAC cf le l) (hr : Rfl le (l ++ [t])) : (mins cf le (l ++ [t]) = l) ↔ l.any (le · t) = true := by
  refine ⟨fun e => ?_, mins_add h p ha hr⟩
  have := add_cov h p hr
  rwa [e] at this
theorem mins_len_ac (h : TO cf) {l : List α} (ha : isAC cf le l) : mins cf le l = l := mins_of_ac h ha
/-- All of b is covered by a. -/
def lq (le : α → α → Bool) (a b : List α) : Bool := b.all fun v => a.any (le · v)
theorem lq_iff {a b : List α} : lq le a b = true ↔ ∀ x ∈ b, ∃ y ∈ a, le y x = true := by
  unfold lq
  simp only [List.all_eq_true, List.any_eq_true]
theorem lq_refl {a : List α} (hr : Rfl le a) : lq le a a = true := lq_iff.2 fun x hx => ⟨x, hx, hr x hx⟩
theorem lq_trans (p : PO cf le) {a b c : List α} (h1 : lq le a b = true) (h2 : lq le b c = true) : lq le a c = true := by
  rw [lq_iff] at *
  intro x hx
  obtain ⟨y, hy, e1⟩ := h2 x hx
  obtain ⟨z, hz, e2⟩ := h1 y hy
  exact ⟨z, hz, p.trans _ _ _ e2 e1⟩
theorem lq_anti (h : TO cf) (p : PO cf le) {a b : List α} (ha : isAC cf le a) (hb : isAC cf le b) (h1 : lq le a b = true) (h2 : lq le b a = true) : a = b := by
  rw [lq_iff] at *
  exact ac_ext p h ha hb h2 h1
theorem lq_mins (h : TO cf) (p : PO cf le) {c l : List α} (hr : Rfl le l) : lq le c (mins cf le l) = lq le c l := by
  rw [Bool.eq_iff_iff, lq_iff, lq_iff]
  constructor
  · intro h1 x hx
    obtain ⟨m, hm, e1⟩ := cov_mins h p hr hx
    obtain ⟨y, hy, e2⟩ := h1 m hm
    exact ⟨y, hy, p.trans _ _ _ e2 e1⟩
  · exact fun h1 x hx => h1 x (mins_sub h hx)
theorem lq_append {c a b : List α} : lq le c (a ++ b) = (lq le c a && lq le c b) := by unfold lq; rw [List.all_append]
theorem lq_and {a b j c : List α} (hj : ∀ t, j.any (le · t) = (a.any (le · t) && b.any (le · t))) : lq le j c = (lq le a c && lq le b c) := by
  rw [Bool.eq_iff_iff, Bool.and_eq_true]
  unfold lq
  simp only [List.all_eq_true]
  constructor
  · intro h1
    exact ⟨fun x hx => (Bool.and_eq_true _ _ ▸ hj x ▸ h1 x hx : _ ∧ _).1, fun x hx => (Bool.and_eq_true _ _ ▸ hj x ▸ h1 x hx : _ ∧ _).2⟩
  · rintro ⟨h1, h2⟩ x hx
    rw [hj, h1 x hx, h2 x hx]; rfl
/-- Each of the one joined with each of the other. -/
def joins (jn : α → α → α) (a b : List α) : List α := a.flatMap fun x => b.map fun y => jn x y
theorem joins_cover {jn : α → α → α} {a b : List α} (hj : ∀ x ∈ a, ∀ y ∈ b, ∀ t, le (jn x y) t = (le x t && le y t)) (t : α) : (joins jn a b).any (le · t) = (a.any (le · t) && b.any (le · t)) := by
  unfold joins
  rw [Bool.eq_iff_iff, Bool.and_eq_true]
  simp only [List.any_eq_true, List.mem_flatMap, List.mem_map]
  constructor
  · rintro ⟨_, ⟨x, hx, y, hy, rfl⟩, h⟩
    rw [hj x hx y hy, Bool.and_eq_true] at h
    exact ⟨⟨x, hx, h.1⟩, y, hy, h.2⟩
  · rintro ⟨⟨x, hx, h1⟩, y, hy, h2⟩
    exact ⟨_, ⟨x, hx, y, hy, rfl⟩, by rw [hj x hx y hy, h1, h2]; rfl⟩
end
end Go.Lp

/- Chapter 3: plain facts of antichains. -/
namespace Go.Proofs.Ytiipneclghnfhaa
open Go.RowKit Go.Sx Go.Lp
theorem bad_iff (xs : List T) : badC xs = 0 ↔ (∀ x ∈ xs, x.Ok) ∧ ∀ x ∈ xs, ∀ y ∈ xs, x.d = y.d := by
  unfold badC
  have h1 : (xs.any fun v => tcheck_F v != 0) = false ↔ ∀ x ∈ xs, x.Ok := by
    rw [List.any_eq_false]
    constructor
    · intro h x hx
      have := h x hx
      exact (tcheck_iff x).1 (by simpa using this)
    · intro h x hx
      simpa using (tcheck_iff x).2 (h x hx)
  have h2 : xs.any (difD xs) = false ↔ ∀ x ∈ xs, ∀ y ∈ xs, x.d = y.d := by
    rw [List.any_eq_false]
    cases xs with
    | nil => simp
    | cons z r =>
      have hd : ∀ x, difD (z :: r) x = (x.d != z.d) := fun x => rfl
      constructor
      · intro h x hx y hy
        have k1 := h x hx
        have k2 := h y hy
        rw [hd] at k1 k2
        have k1 : x.d = z.d := by simpa using k1
        have k2 : y.d = z.d := by simpa using k2
        rw [k1, k2]
      · intro h x hx
        rw [hd, h x hx z (List.mem_cons_self ..)]
        simp
  rw [← h1, ← h2]
  cases (xs.any fun v => tcheck_F v != 0) <;> cases xs.any (difD xs) <;> simp
theorem bad_rfl {xs : List T} (h : badC xs = 0) : Rfl tleq_F xs := fun x hx => tleq_refl (((bad_iff xs).1 h).1 x hx)
theorem bad_sub {xs ys : List T} (h : badC xs = 0) (hs : ∀ x ∈ ys, x ∈ xs) : badC ys = 0 := by
  rw [bad_iff] at *
  exact ⟨fun x hx => h.1 x (hs x hx), fun x hx y hy => h.2 x (hs x hx) y (hs y hy)⟩
abbrev acT (xs : List T) : Prop := isAC cfT tleq_F xs
theorem clashes_iff (xs : List T) : clashes xs = false ↔ acT xs := by
  rw [clashes_false]
  constructor
  · intro h
    have hg : ∀ j (hj : j < xs.length), xs.getD j eT.dflt = xs[j] := fun j hj => by rw [List.getD_eq_getElem?_getD, List.getElem?_eq_getElem hj]; rfl
    refine ⟨List.pairwise_iff_getElem.2 fun i j hi hj hij => ?_, fun x hx y hy hle => ?_⟩
    · have := ((clash_false _ _).1 (h j i hj hij)).1
      rw [hg i hi, hg j hj] at this
      exact this
    · obtain ⟨i, hi, rfl⟩ := List.mem_iff_getElem.1 hx
      obtain ⟨j, hj, rfl⟩ := List.mem_iff_getElem.1 hy
      rcases Nat.lt_trichotomy i j with hij | hij | hij
      · have := ((clash_false _ _).1 (h j i hj hij)).2.1
        rw [hg i hi, hg j hj, hle] at this
        cases this
      · subst hij; rfl
      · have := ((clash_false _ _).1 (h i j hi hij)).2.2
        rw [hg i hi, hg j hj, hle] at this
        cases this
  · rintro ⟨h1, h2⟩ k j hk hj
    have hg : ∀ j (hj : j < xs.length), xs.getD j eT.dflt = xs[j] := fun j hj => by rw [List.getD_eq_getElem?_getD, List.getElem?_eq_getElem hj]; rfl
    rw [hg k hk, hg j (by omega)]
    have hlt := List.pairwise_iff_getElem.1 h1 j k (by omega) hk hj
    have hne : xs[j] ≠ xs[k] := fun e => by rw [e] at hlt; exact toT.irrefl _ hlt
    refine (clash_false _ _).2 ⟨hlt, ?_, ?_⟩
    · cases hc : tleq_F xs[j] xs[k] with
      | false => rfl
      | true => exact absurd (h2 _ (List.getElem_mem _) _ (List.getElem_mem _) hc) hne
    · cases hc : tleq_F xs[k] xs[j] with
      | false => rfl
      | true => exact absurd (h2 _ (List.getElem_mem _) _ (List.getElem_mem _) hc).symm hne
theorem chk_iff (xs : List T) : chkC xs = 0 ↔ xs.length ≤ 1024 ∧ badC xs = 0 ∧ acT xs := by
  rw [← clashes_iff]
  unfold chkC
  by_cases h : (xs.length : Int) > 1024
  · have : ¬ xs.length ≤ 1024 := by omega
    simp [h, this]
  · have h' : xs.length ≤ 1024 := by omega
    simp only [h, decide_false, cond_false, h', true_and]
    by_cases hb : badC xs = 0
    · simp only [hb, bne_self_eq_false, cond_false, true_and]
      cases clashes xs <;> simp
    · have : (badC xs != 0) = true := by simpa using hb
      simp [this, hb]
theorem of_iff (xs : List T) : (ofC xs).2 = 0 ↔ badC xs = 0 ∧ (minsT xs).length ≤ 1024 := by
  unfold ofC
  by_cases hb : badC xs = 0
  · simp only [hb, bne_self_eq_false, cond_false, true_and]
    by_cases h : ((minsT xs).length : Int) > 1024
    · have : ¬ (minsT xs).length ≤ 1024 := by omega
      simp [h, this]
    · have : (minsT xs).length ≤ 1024 := by omega
      simp [h, this]
  · have : (badC xs != 0) = true := by simpa using hb
    simp [this, hb]
theorem of_eq {xs : List T} (h : (ofC xs).2 = 0) : (ofC xs).1 = minsT xs := by
  obtain ⟨h1, h2⟩ := (of_iff xs).1 h
  unfold ofC
  have h3 : ¬ ((minsT xs).length : Int) > 1024 := by omega
  simp [h1, h3]
theorem minsT_sub {xs : List T} {x : T} (h : x ∈ minsT xs) : x ∈ xs := mins_sub toT h
theorem of_chk {xs : List T} (h : (ofC xs).2 = 0) : chkC (ofC xs).1 = 0 := by
  rw [of_eq h]
  obtain ⟨h1, h2⟩ := (of_iff xs).1 h
  exact (chk_iff _).2 ⟨h2, bad_sub h1 fun x hx => minsT_sub hx, mins_ac toT xs⟩
theorem cov_minsT (xs : List T) (t : T) : (minsT xs).any (tleq_F · t) = xs.any (tleq_F · t) := mins_cover toT poT
theorem leqC_lq (a b : List T) : leqC a b = lq tleq_F a b := rfl
end Go.Proofs.Ytiipneclghnfhaa

/- Chapter 3: put in again: plain laws. -/
namespace Go.Proofs.Ytiipneclghnfhaa
open Go.RowKit Go.Sx Go.Lp
theorem ins_ok {xs : List T} {t : T} (h : (insC xs t).2.2 = 0) : chkC xs = 0 ∧ t.Ok ∧ (ofC (xs ++ [t])).2 = 0 ∧ insC xs t = (minsT (xs ++ [t]), !decide (minsT (xs ++ [t]) = xs), 0) := by
  unfold insC at *
  by_cases h1 : chkC xs = 0
  · by_cases h2 : tcheck_F t = 0
    · by_cases h3 : (ofC (xs ++ [t])).2 = 0
      · refine ⟨h1, (tcheck_iff t).1 h2, h3, ?_⟩
        simp only [h1, h2, h3, bne_self_eq_false, cond_false, of_eq h3]
      · have : ((ofC (xs ++ [t])).2 != 0) = true := by simpa using h3
        simp only [h1, h2, this, bne_self_eq_false, cond_false, cond_true] at h
        exact absurd h h3
    · have : (tcheck_F t != 0) = true := by simpa using h2
      simp only [h1, this, bne_self_eq_false, cond_false, cond_true] at h
      exact absurd h h2
  · have : (chkC xs != 0) = true := by simpa using h1
    simp only [this, cond_true] at h
    exact absurd h h1
theorem ins_of {xs : List T} {t : T} (h1 : chkC xs = 0) (h2 : t.Ok) (h3 : badC (xs ++ [t]) = 0) (h4 : (minsT (xs ++ [t])).length ≤ 1024) : insC xs t = (minsT (xs ++ [t]), !decide (minsT (xs ++ [t]) = xs), 0) := by
  have ho : (ofC (xs ++ [t])).2 = 0 := (of_iff _).2 ⟨h3, h4⟩
  unfold insC
  simp only [h1, (tcheck_iff t).2 h2, ho, bne_self_eq_false, cond_false, of_eq ho]
theorem ins_bad {xs : List T} {t : T} (h : (insC xs t).2.2 = 0) : badC (xs ++ [t]) = 0 ∧ (minsT (xs ++ [t])).length ≤ 1024 := (of_iff _).1 (ins_ok h).2.2.1
/-- It is another one just if the time was not covered. -/
theorem ins_is {xs : List T} {t : T} (h : (insC xs t).2.2 = 0) : (insC xs t).2.1 = !xs.any (tleq_F · t) := by
  obtain ⟨h1, _, _, e⟩ := ins_ok h
  have hr := bad_rfl (ins_bad h).1
  have : minsT (xs ++ [t]) = xs ↔ xs.any (tleq_F · t) = true := add_same toT poT ((chk_iff xs).1 h1).2.2 hr
  rw [e]
  show (!decide (minsT (xs ++ [t]) = xs)) = _
  cases hc : xs.any (tleq_F · t) with
  | true => rw [decide_eq_true (this.2 hc)]
  | false =>
    rw [decide_eq_false]
    intro hh
    rw [this.1 hh] at hc
    cases hc
theorem ins_cov {xs : List T} {t : T} (h : (insC xs t).2.2 = 0) : (insC xs t).1.any (tleq_F · t) = true := by
  rw [(ins_ok h).2.2.2]
  exact add_cov toT poT (bad_rfl (ins_bad h).1)
theorem ins_chk {xs : List T} {t : T} (h : (insC xs t).2.2 = 0) : chkC (insC xs t).1 = 0 := by
  obtain ⟨_, _, h3, e⟩ := ins_ok h
  rw [e]
  have := of_chk h3
  rwa [of_eq h3] at this
theorem ins_sub {xs : List T} {t x : T} (h : (insC xs t).2.2 = 0) (hx : x ∈ (insC xs t).1) : x ∈ xs ++ [t] := by
  rw [(ins_ok h).2.2.2] at hx
  exact minsT_sub hx
/-- Put in again, it changes nothing. -/
theorem ins_again {xs : List T} {t : T} (h : (insC xs t).2.2 = 0) : insC (insC xs t).1 t = ((insC xs t).1, false, 0) := by
  have hb := (ins_bad h).1
  have hb2 : badC ((insC xs t).1 ++ [t]) = 0 := bad_sub hb fun x hx => by
    rcases List.mem_append.1 hx with h1 | h1
    · exact ins_sub h h1
    · exact List.mem_append_right _ h1
  have hc := ins_chk h
  have hm : minsT ((insC xs t).1 ++ [t]) = (insC xs t).1 := mins_add toT poT ((chk_iff _).1 hc).2.2 (bad_rfl hb2) (ins_cov h)
  rw [ins_of hc (ins_ok h).2.1 hb2 (by rw [hm]; exact ((chk_iff _).1 hc).1), hm]
  simp
/-- The order counts for nothing. -/
theorem ins_swap {xs : List T} {t u : T} (h : (insC xs t).2.2 = 0) (hg : (insC (insC xs t).1 u).2.2 = 0) (hh : (insC xs u).2.2 = 0) : (insC (insC xs u).1 t).2.2 = 0 ∧ (insC (insC xs u).1 t).1 = (insC (insC xs t).1 u).1 := by
  have b1 := (bad_iff _).1 (ins_bad h).1
  have b2 := (bad_iff _).1 (ins_bad hg).1
  have b3 := (bad_iff _).1 (ins_bad hh).1
  have ha := (ins_ok h).2.2.2
  have hbb := (ins_ok hh).2.2.2
  obtain ⟨v, hv, _⟩ := List.any_eq_true.1 (ins_cov h)
  have hall : ∀ x ∈ xs ++ [t] ++ [u], x.d = v.d := fun x hx => by
    rcases List.mem_append.1 hx with h1 | h1
    · exact b1.2 x h1 v (ins_sub h hv)
    · exact b2.2 x (List.mem_append_right _ h1) v (List.mem_append_left _ hv)
  have hbad : badC (xs ++ [t] ++ [u]) = 0 := (bad_iff _).2 ⟨fun x hx => by
    rcases List.mem_append.1 hx with h1 | h1
    · exact b1.1 x h1
    · exact b3.1 x (List.mem_append_right _ h1), fun x hx y hy => by rw [hall x hx, hall y hy]⟩
  have hbad2 : badC (xs ++ [u] ++ [t]) = 0 := bad_sub hbad fun x hx => by
    simp only [List.mem_append] at hx ⊢
    rcases hx with (h | h) | h <;> simp [h]
  have e1 : minsT (minsT (xs ++ [t]) ++ [u]) = minsT (xs ++ [t] ++ [u]) := mins_mins toT poT (bad_rfl hbad)
  have e2 : minsT (minsT (xs ++ [u]) ++ [t]) = minsT (xs ++ [u] ++ [t]) := mins_mins toT poT (bad_rfl hbad2)
  have e3 : minsT (xs ++ [t] ++ [u]) = minsT (xs ++ [u] ++ [t]) := mins_swap toT
  have k1 : (insC xs t).1 = minsT (xs ++ [t]) := by rw [ha]
  have k2 : (insC xs u).1 = minsT (xs ++ [u]) := by rw [hbb]
  have hx : (insC (insC xs t).1 u).1 = minsT (xs ++ [t] ++ [u]) := by rw [(ins_ok hg).2.2.2, k1, e1]
  have hl : (minsT (minsT (xs ++ [u]) ++ [t])).length ≤ 1024 := by
    rw [e2, ← e3, ← e1, ← k1]
    exact (ins_bad hg).2
  have hbu : badC (minsT (xs ++ [u]) ++ [t]) = 0 := bad_sub hbad2 fun x hx => by
    rcases List.mem_append.1 hx with h1 | h1
    · exact List.mem_append_left _ (minsT_sub h1)
    · exact List.mem_append_right _ h1
  have hcu := ins_chk hh
  rw [k2] at hcu
  have hf := ins_of hcu (ins_ok h).2.1 hbu hl
  rw [hx, k2, hf]
  exact ⟨rfl, by rw [e2, e3]⟩
end Go.Proofs.Ytiipneclghnfhaa

/- A function whose answer is a row of the caller's own. -/
namespace Go.Sx
open Go.RowKit
section
variable {α γ : Type}
/-- What is frozen, but for one block. -/
def memR (F : Nat → Option Obj) (w w' : World) (L : Lc) : Nat → Option Obj := fun b => if L.nl = false ∧ b = L.blk then none else memAt F w w' b
def FnRow (P : Program) (f : Nat) (t : TypeId) (A : El α) (D : DA γ) (fn : γ → List α) (pre : γ → List Prop) : Prop :=
  ∀ (w : World) (F : Nat → Option Obj) (g : γ) (vs : List Value), (∀ b o, F b = some o → w.heap[b]? = some o) → (∀ p ∈ pre g, p) → SV.fits 0 (emp F) (D.enc g) vs →
    Calls P f vs.toArray w fun e w' => ∃ x L, e = .returned x ∧ Below w.heap.size w w' ∧ OwV L (fn g).length x ∧ (L.nl = false → w.heap.size ≤ L.blk) ∧ (rowA A t (fn g)).fit 0 (emp (memR F w w' L)) L w'.heap[L.blk]?
/-- The row that a function makes of plain data, as a tree. -/
def wTree (P : Program) (Γ : Gam) (Λ : Lam) (n f : Nat) (t : TypeId) (A : El α) (args : List SV) : Tr (List α) :=
  (fnTree P Γ Λ n f args ⟨0, [], []⟩).bind fun y => match y.1 with
    | .ow i l => match y.2.get i with
      | .row t' sz el m => match Nat.beq t' t && Nat.beq sz A.sz with
        | true => asks ((l = m) :: A.okE m el) (.ret (A.lstE m el))
        | false => .bad 690
      | _ => .bad 691
    | .k x => match nilK x with
      | true => .ret []
      | false => .bad 692
    | _ => .bad 693
variable {P : Program} {Γ : Gam} {Λ : Lam} {f t : Nat} {A : El α} {D : DA γ} {fn : γ → List α} {pre : γ → List Prop}
theorem row_of_tree (hΓ : ∀ f g, Γ.g f = some g → FnOk P f g) (hΛ : ∀ f k L, Λ f k = some L → ∀ b ∈ loopsOf P f, lkey b = k → LoopOk P b L.g) (n : Nat)
    (hT : ∀ g, D.bd g → (∀ p ∈ pre g, p) → (wTree P Γ Λ n f t A (D.enc g)).Holds (· = fn g)) : FnRow P f t A D fn pre := by
  intro w F g vs hF hpre hfit
  have hbd := D.fb _ _ _ _ hfit
  have hT := hT g hbd hpre
  have h0 := fnTree_ok hΓ hΛ n (fun _ => False) w w (emp F) ⟨0, [], []⟩ _ vs _ (Tr.holds_bind hT) (HM.start w (emp F) hF fun _ _ h => h) hfit
  refine h0.mono ?_
  rintro e w' ⟨s, h', ρ', x, h1, h2, h3, h4, h5, rfl⟩
  simp only at h1
  split at h1
  · rename_i i l
    split at h1
    · rename_i t' sz el m hg
      split at h1
      · rename_i hb
        simp only [Bool.and_eq_true] at hb
        have e1 := beq_of hb.1
        have e2 := beq_of hb.2
        subst e1; subst e2
        obtain ⟨hq, h1⟩ := asks_holds h1
        have hl : l = m := hq _ (List.mem_cons_self ..)
        have hok : ∀ e, e < m → A.Ok (el e) := A.okE_ok m el fun p h' => hq p (List.mem_cons_of_mem _ h')
        subst hl
        have h1 : A.lstE l el = fn g := h1
        have hob := h4.ob i
        rw [hg] at hob
        have hlen : (fn g).length = l := by rw [← h1, A.lstE_eq, A.lst_length]
        have hmem : ∀ b o, ρ'.mem b = some o → memR F w w' (ρ' i) b = some o := fun b o hb' => by
          unfold memR
          rw [if_neg]
          · unfold memAt
            split
            · rename_i hlt
              have := h4.old b o hb' hlt (fun h => h)
              rw [h3.2.2] at this
              exact this
            · exact h4.fz b o hb'
          · rintro ⟨hn, rfl⟩
            have := h4.sep i (by rw [hg]; exact hn)
            rw [this] at hb'
            cases hb'
        refine ⟨x, ρ' i, rfl, h4.toBelow, ?_, fun hn => ?_, ?_⟩
        · rw [hlen]
          rcases h5.2 with ⟨k1, k2, a, k3⟩ | ⟨k1, _, k3⟩
          · exact .inl ⟨k1, k2, a, k3⟩
          · exact .inr ⟨k1, k3⟩
        · rcases h4.ow i (by rw [hg]; exact hn) with h | h
          · exact h
          · exact h.elim
        · rw [← h1]
          exact rowA_of A hmem hok hob
      · exact h1.elim
    · exact h1.elim
  · rename_i y
    split at h1
    · rename_i hy
      have hy := nilK_eq hy
      subst hy
      have h1 : [] = fn g := h1
      simp only [SV.fit] at h5
      subst h5
      refine ⟨_, ⟨0, 0, 0, true⟩, rfl, h4.toBelow, ?_, fun h => (by cases h), ?_⟩
      · rw [← h1]; exact .inl ⟨rfl, rfl, _, rfl⟩
      · rw [← h1]; exact ⟨Nat.zero_le _, .inl ⟨rfl, rfl⟩⟩
    · exact h1.elim
  · exact h1.elim
/-- The contract: a row more. -/
def conRow (t : TypeId) (A : El α) (D : DA γ) (fn : γ → List α) (pre : γ → List Prop) : Con := fun args h =>
  match D.dec args with
  | some (g, ps) => asks (ps ++ pre g) (.ret (.ow h.nx (fn g).length, h.push (rowA A t (fn g))))
  | none => .bad 694
theorem conRow_ok (hp : FnRow P f t A D fn pre) : FnOk P f (conRow t A D fn pre) := by
  intro M w0 w ρ h args vs K hK hm hfits
  unfold conRow at hK
  split at hK
  · rename_i g ps hd
    obtain ⟨hq, hK⟩ := asks_holds hK
    have hv2 := D.ok _ _ _ _ _ _ hd (fun p h' => hq p (List.mem_append_left _ h')) hfits
    have hv3 := D.cl _ _ 0 ρ (emp ρ.mem) vs (fun _ _ h => h) hv2
    refine (hp w ρ.mem g vs hm.fz (fun p h' => hq p (List.mem_append_right _ h')) hv3).mono ?_
    rintro e w' ⟨x, L, rfl, hb, hx, hfresh, hrow⟩
    have hm1 := hm.below hb
    have hmem : ∀ b o, ρ.mem b = some o → memR ρ.mem w w' L b = some o := fun b o ho => by
      have hlt := hm.lt_mem ho
      unfold memR memAt
      rw [if_neg (fun hc => by have := hfresh hc.1; omega), if_pos hlt]
      exact ho
    have hag : Agree h.nx ρ ⟨ρ.lc, memR ρ.mem w w' L, ρ.lo⟩ := ⟨fun _ _ => rfl, hmem, rfl⟩
    have hm2 : HM M w0 ⟨ρ.lc, memR ρ.mem w w' L, ρ.lo⟩ h w' := {
      os := hm1.os
      tape := hm1.tape
      output := hm1.output
      size := hm1.size
      block := hm1.block
      lt := hm1.lt
      ob := fun i => SO.fit_mono (Nat.le_refl _) hag (hm1.ob i)
      ow := hm1.ow
      fz := fun b o hb' => by
        simp only [memR, memAt] at hb'
        split at hb'
        · cases hb'
        · split at hb'
          · exact hm1.fz b o hb'
          · exact hb'
      sep := fun i hi => by
        have h1 := hm.sep i hi
        have h2 := hm.lt_heap hi
        simp only [memR, memAt]
        split
        · rfl
        · first | exact h1 | (rw [if_pos h2]; exact h1)
      old := fun b o hb' hlt hM => by
        simp only [memR, memAt] at hb'
        have hs := hm.size
        split at hb'
        · cases hb'
        · rw [if_pos (by omega)] at hb'
          exact hm.old b o hb' hlt hM
      inj := hm1.inj }
    have hm3 : HM M w0 (upd ⟨ρ.lc, memR ρ.mem w w' L, ρ.lo⟩ h.nx L) (h.push (rowA A t (fn g))) w' := by
      refine hm2.learn (rowA_cl A (ρ := emp (memR ρ.mem w w' L)) (fun _ _ h => h) hrow) fun ho => ?_
      have hn : L.nl = false := ho
      have hf := hfresh hn
      refine ⟨.inl (Nat.le_trans hm.size hf), ?_, fun j hj => ?_⟩
      · simp only [memR, hn, true_and, if_pos]
      · have := hm.lt_heap hj
        show (ρ j).blk ≠ L.blk
        omega
    refine ⟨_, _, upd ⟨ρ.lc, memR ρ.mem w w' L, ρ.lo⟩ h.nx L, x, hK, Nat.le_succ _, hag.trans (Nat.le_refl _) (agree_upd _ _ _), hm3, ⟨Nat.lt_succ_self _, ?_⟩, rfl⟩
    have hu : (upd ⟨ρ.lc, memR ρ.mem w w' L, ρ.lo⟩ h.nx L) h.nx = L := by simp [upd]
    rw [hu]
    rcases hx with ⟨h1, h2, a, h3⟩ | ⟨h1, h3⟩
    · exact .inl ⟨h1, h2, a, h3⟩
    · refine .inr ⟨h1, ?_, h3⟩
      rcases hrow.2 with ⟨h4, _⟩ | ⟨_, _, c, fz, _, _, _, h8, _⟩
      · rw [h1] at h4; cases h4
      · exact h8
  · exact hK.elim
def bconRow (t : TypeId) (A : El α) (D : DA γ) (fn : γ → List α) (pre : γ → List Prop) : BCon := ⟨conRow t A D fn pre, fun args h => by
  unfold conRow
  split
  · exact asks_each rfl
  · trivial⟩
end
end Go.Sx

/- Chapter 3: slices.Clone. Printed by treegen.py. -/
namespace Go.Proofs.Ytiipneclghnfhaa
open Go.RowKit Go.Sx
set_option maxRecDepth 100000
set_option linter.unusedVariables false
theorem cln (xs : List T) : wTree Try.prog (PTab.gamz (PTab.nil : PTab Try.prog) [] []) noΛ 100 69 30 eT (aL.enc xs) =
  Tr.all fun cs => Tr.giv (cs.isEmpty = false → xs.length = (0 : Nat)) (Tr.br (false != !cs.isEmpty) (Tr.ret []) (Tr.ask ((0 : Nat) ≤ (0 : Nat) ∧ (∀ (e : Nat), e < xs.length → (eT.els xs e).all SV.one = true) ∧ (0 : Nat) + xs.length ≤ maxLen ∧ ((0 : Nat) + xs.length) * Try.prog.types[(30 : Nat)].bytes ≤ (140737488355328 : Nat)) (Tr.ask ((0 : Nat) + xs.length = (0 : Nat) + xs.length) (Tr.ask (∀ (e : Nat), e < min ((0 : Nat) + xs.length) (0 : Nat) → eT.OkP []) (Tr.ask (∀ (e : Nat), e < (0 : Nat) + xs.length - (0 : Nat) → True) (Tr.ret (List.map (fun x => eT.get []) (List.range (min ((0 : Nat) + xs.length) (0 : Nat))) ++ eT.lst ((0 : Nat) + xs.length - (0 : Nat)) (eT.els xs)))))))) := by kernel_rfl
noncomputable def tabXK1 : PTab Try.prog := PTab.nil
end Go.Proofs.Ytiipneclghnfhaa

/- Chapter 3: slices.Clone: a row of the caller's own. -/
namespace Go.Proofs.Ytiipneclghnfhaa
open Go.RowKit Go.Sx Go.Lp
theorem clone_row : FnRow Try.prog 69 30 eT aL (fun xs => xs) (fun xs => [xs.length ≤ KS]) :=
  row_of_tree (PTab.okz (PTab.nil : PTab Try.prog) [] []) noΛ_ok 100 fun xs _ hp => by
    have h : xs.length ≤ KS := hp _ (List.mem_cons_self ..)
    unfold KS at h
    rw [cln]
    intro cs hcs
    refine ⟨fun hc => ?_, fun _ => ⟨⟨Nat.le_refl _, fun e _ => onesT xs e, by unfold maxLen; omega, by rw [bytesT]; omega⟩, rfl, fun e he => by omega, fun _ _ => trivial, ?_⟩⟩
    · have hx : xs = [] := List.length_eq_zero_iff.1 (hcs (by cases hh : cs.isEmpty with
        | true => rw [hh] at hc; cases hc
        | false => rfl))
      exact hx.symm
    · exact cl0 xs
theorem clone_ok : FnOk Try.prog 69 (bconRow 30 eT aL (fun xs => xs) (fun xs => [xs.length ≤ KS])).g := conRow_ok clone_row
end Go.Proofs.Ytiipneclghnfhaa

/- Chapter 3: numbers as texts. Printed by treegen.py. -/
namespace Go.Proofs.Ytiipneclghnfhaa
open Go.RowKit Go.Sx
set_option maxRecDepth 100000
set_option linter.unusedVariables false
theorem puStr (r : ByteArray) : Pu (dStr.enc r) := pu_v _
noncomputable def dig_F (n : Int) : Dv.T dStr :=
  bif IntKind.i64.wrap (n.tdiv (10 : Int)) == (0 : Int) then strOf [IntKind.u8.wrap (IntKind.i64.wrap ((48 : Int) + n.tmod (10 : Int)))]
  else bif IntKind.i64.wrap ((IntKind.i64.wrap (n.tdiv (10 : Int))).tdiv (10 : Int)) == (0 : Int) then strOf [IntKind.u8.wrap (IntKind.i64.wrap ((48 : Int) + (IntKind.i64.wrap (n.tdiv (10 : Int))).tmod (10 : Int))), IntKind.u8.wrap (IntKind.i64.wrap ((48 : Int) + n.tmod (10 : Int)))] else bif IntKind.i64.wrap ((IntKind.i64.wrap ((IntKind.i64.wrap (n.tdiv (10 : Int))).tdiv (10 : Int))).tdiv (10 : Int)) == (0 : Int) then strOf [IntKind.u8.wrap (IntKind.i64.wrap ((48 : Int) + (IntKind.i64.wrap ((IntKind.i64.wrap (n.tdiv (10 : Int))).tdiv (10 : Int))).tmod (10 : Int))), IntKind.u8.wrap (IntKind.i64.wrap ((48 : Int) + (IntKind.i64.wrap (n.tdiv (10 : Int))).tmod (10 : Int))), IntKind.u8.wrap (IntKind.i64.wrap ((48 : Int) + n.tmod (10 : Int)))] else bif IntKind.i64.wrap ((IntKind.i64.wrap ((IntKind.i64.wrap ((IntKind.i64.wrap (n.tdiv (10 : Int))).tdiv (10 : Int))).tdiv (10 : Int))).tdiv (10 : Int)) == (0 : Int) then strOf [IntKind.u8.wrap (IntKind.i64.wrap ((48 : Int) + (IntKind.i64.wrap ((IntKind.i64.wrap ((IntKind.i64.wrap (n.tdiv (10 : Int))).tdiv (10 : Int))).tdiv (10 : Int))).tmod (10 : Int))), IntKind.u8.wrap (IntKind.i64.wrap ((48 : Int) + (IntKind.i64.wrap ((IntKind.i64.wrap (n.tdiv (10 : Int))).tdiv (10 : Int))).tmod (10 : Int))), IntKind.u8.wrap (IntKind.i64.wrap ((48 : Int) + (IntKind.i64.wrap (n.tdiv (10 : Int))).tmod (10 : Int))), IntKind.u8.wrap (IntKind.i64.wrap ((48 : Int) + n.tmod (10 : Int)))] else bif IntKind.i64.wrap ((IntKind.i64.wrap ((IntKind.i64.wrap ((IntKind.i64.wrap ((IntKind.i64.wrap (n.tdiv (10 : Int))).tdiv (10 : Int))).tdiv (10 : Int))).tdiv (10 : Int))).tdiv (10 : Int)) == (0 : Int) then strOf [IntKind.u8.wrap (IntKind.i64.wrap ((48 : Int) + (IntKind.i64.wrap ((IntKind.i64.wrap ((IntKind.i64.wrap ((IntKind.i64.wrap (n.tdiv (10 : Int))).tdiv (10 : Int))).tdiv (10 : Int))).tdiv (10 : Int))).tmod (10 : Int))), IntKind.u8.wrap (IntKind.i64.wrap ((48 : Int) + (IntKind.i64.wrap ((IntKind.i64.wrap ((IntKind.i64.wrap (n.tdiv (10 : Int))).tdiv (10 : Int))).tdiv (10 : Int))).tmod (10 : Int))), IntKind.u8.wrap (IntKind.i64.wrap ((48 : Int) + (IntKind.i64.wrap ((IntKind.i64.wrap (n.tdiv (10 : Int))).tdiv (10 : Int))).tmod (10 : Int))), IntKind.u8.wrap (IntKind.i64.wrap ((48 : Int) + (IntKind.i64.wrap (n.tdiv (10 : Int))).tmod (10 : Int))), IntKind.u8.wrap (IntKind.i64.wrap ((48 : Int) + n.tmod (10 : Int)))] else bif IntKind.i64.wrap ((IntKind.i64.wrap ((IntKind.i64.wrap ((IntKind.i64.wrap ((IntKind.i64.wrap ((IntKind.i64.wrap (n.tdiv (10 : Int))).tdiv (10 : Int))).tdiv (10 : Int))).tdiv (10 : Int))).tdiv (10 : Int))).tdiv (10 : Int)) == (0 : Int) then strOf [IntKind.u8.wrap (IntKind.i64.wrap ((48 : Int) + (IntKind.i64.wrap ((IntKind.i64.wrap ((IntKind.i64.wrap ((IntKind.i64.wrap ((IntKind.i64.wrap (n.tdiv (10 : Int))).tdiv (10 : Int))).tdiv (10 : Int))).tdiv (10 : Int))).tdiv (10 : Int))).tmod (10 : Int))), IntKind.u8.wrap (IntKind.i64.wrap ((48 : Int) + (IntKind.i64.wrap ((IntKind.i64.wrap ((IntKind.i64.wrap ((IntKind.i64.wrap (n.tdiv (10 : Int))).tdiv (10 : Int))).tdiv (10 : Int))).tdiv (10 : Int))).tmod (10 : Int))), IntKind.u8.wrap (IntKind.i64.wrap ((48 : Int) + (IntKind.i64.wrap ((IntKind.i64.wrap ((IntKind.i64.wrap (n.tdiv (10 : Int))).tdiv (10 : Int))).tdiv (10 : Int))).tmod (10 : Int))), IntKind.u8.wrap (IntKind.i64.wrap ((48 : Int) + (IntKind.i64.wrap ((IntKind.i64.wrap (n.tdiv (10 : Int))).tdiv (10 : Int))).tmod (10 : Int))), IntKind.u8.wrap (IntKind.i64.wrap ((48 : Int) + (IntKind.i64.wrap (n.tdiv (10 : Int))).tmod (10 : Int))), IntKind.u8.wrap (IntKind.i64.wrap ((48 : Int) + n.tmod (10 : Int)))] else bif IntKind.i64.wrap ((IntKind.i64.wrap ((IntKind.i64.wrap ((IntKind.i64.wrap ((IntKind.i64.wrap ((IntKind.i64.wrap ((IntKind.i64.wrap (n.tdiv (10 : Int))).tdiv (10 : Int))).tdiv (10 : Int))).tdiv (10 : Int))).tdiv (10 : Int))).tdiv (10 : Int))).tdiv (10 : Int)) == (0 : Int) then strOf [IntKind.u8.wrap (IntKind.i64.wrap ((48 : Int) + (IntKind.i64.wrap ((IntKind.i64.wrap ((IntKind.i64.wrap ((IntKind.i64.wrap ((IntKind.i64.wrap ((IntKind.i64.wrap (n.tdiv (10 : Int))).tdiv (10 : Int))).tdiv (10 : Int))).tdiv (10 : Int))).tdiv (10 : Int))).tdiv (10 : Int))).tmod (10 : Int))), IntKind.u8.wrap (IntKind.i64.wrap ((48 : Int) + (IntKind.i64.wrap ((IntKind.i64.wrap ((IntKind.i64.wrap ((IntKind.i64.wrap ((IntKind.i64.wrap (n.tdiv (10 : Int))).tdiv (10 : Int))).tdiv (10 : Int))).tdiv (10 : Int))).tdiv (10 : Int))).tmod (10 : Int))), IntKind.u8.wrap (IntKind.i64.wrap ((48 : Int) + (IntKind.i64.wrap ((IntKind.i64.wrap ((IntKind.i64.wrap ((IntKind.i64.wrap (n.tdiv (10 : Int))).tdiv (10 : Int))).tdiv (10 : Int))).tdiv (10 : Int))).tmod (10 : Int))), IntKind.u8.wrap (IntKind.i64.wrap ((48 : Int) + (IntKind.i64.wrap ((IntKind.i64.wrap ((IntKind.i64.wrap (n.tdiv (10 : Int))).tdiv (10 : Int))).tdiv (10 : Int))).tmod (10 : Int))), IntKind.u8.wrap (IntKind.i64.wrap ((48 : Int) + (IntKind.i64.wrap ((IntKind.i64.wrap (n.tdiv (10 : Int))).tdiv (10 : Int))).tmod (10 : Int))), IntKind.u8.wrap (IntKind.i64.wrap ((48 : Int) + (IntKind.i64.wrap (n.tdiv (10 : Int))).tmod (10 : Int))), IntKind.u8.wrap (IntKind.i64.wrap ((48 : Int) + n.tmod (10 : Int)))] else bif IntKind.i64.wrap ((IntKind.i64.wrap ((IntKind.i64.wrap ((IntKind.i64.wrap ((IntKind.i64.wrap ((IntKind.i64.wrap ((IntKind.i64.wrap ((IntKind.i64.wrap (n.tdiv (10 : Int))).tdiv (10 : Int))).tdiv (10 : Int))).tdiv (10 : Int))).tdiv (10 : Int))).tdiv (10 : Int))).tdiv (10 : Int))).tdiv (10 : Int)) == (0 : Int) then strOf [IntKind.u8.wrap (IntKind.i64.wrap ((48 : Int) + (IntKind.i64.wrap ((IntKind.i64.wrap ((IntKind.i64.wrap ((IntKind.i64.wrap ((IntKind.i64.wrap ((IntKind.i64.wrap ((IntKind.i64.wrap (n.tdiv (10 : Int))).tdiv (10 : Int))).tdiv (10 : Int))).tdiv (10 : Int))).tdiv (10 : Int))).tdiv (10 : Int))).tdiv (10 : Int))).tmod (10 : Int))), IntKind.u8.wrap (IntKind.i64.wrap ((48 : Int) + (IntKind.i64.wrap ((IntKind.i64.wrap ((IntKind.i64.wrap ((IntKind.i64.wrap ((IntKind.i64.wrap ((IntKind.i64.wrap (n.tdiv (10 : Int))).tdiv (10 : Int))).tdiv (10 : Int))).tdiv (10 : Int))).tdiv (10 : Int))).tdiv (10 : Int))).tmod (10 : Int))), IntKind.u8.wrap (IntKind.i64.wrap ((48 : Int) + (IntKind.i64.wrap ((IntKind.i64.wrap ((IntKind.i64.wrap ((IntKind.i64.wrap ((IntKind.i64.wrap (n.tdiv (10 : Int))).tdiv (10 : Int))).tdiv (10 : Int))).tdiv (10 : Int))).tdiv (10 : Int))).tmod (10 : Int))), IntKind.u8.wrap (IntKind.i64.wrap ((48 : Int) + (IntKind.i64.wrap ((IntKind.i64.wrap ((IntKind.i64.wrap ((IntKind.i64.wrap (n.tdiv (10 : Int))).tdiv (10 : Int))).tdiv (10 : Int))).tdiv (10 : Int))).tmod (10 : Int))), IntKind.u8.wrap (IntKind.i64.wrap ((48 : Int) + (IntKind.i64.wrap ((IntKind.i64.wrap ((IntKind.i64.wrap (n.tdiv (10 : Int))).tdiv (10 : Int))).tdiv (10 : Int))).tmod (10 : Int))), IntKind.u8.wrap (IntKind.i64.wrap ((48 : Int) + (IntKind.i64.wrap ((IntKind.i64.wrap (n.tdiv (10 : Int))).tdiv (10 : Int))).tmod (10 : Int))), IntKind.u8.wrap (IntKind.i64.wrap ((48 : Int) + (IntKind.i64.wrap (n.tdiv (10 : Int))).tmod (10 : Int))), IntKind.u8.wrap (IntKind.i64.wrap ((48 : Int) + n.tmod (10 : Int)))] else bif IntKind.i64.wrap ((IntKind.i64.wrap ((IntKind.i64.wrap ((IntKind.i64.wrap ((IntKind.i64.wrap ((IntKind.i64.wrap ((IntKind.i64.wrap ((IntKind.i64.wrap ((IntKind.i64.wrap (n.tdiv (10 : Int))).tdiv (10 : Int))).tdiv (10 : Int))).tdiv (10 : Int))).tdiv (10 : Int))).tdiv (10 : Int))).tdiv (10 : Int))).tdiv (10 : Int))).tdiv (10 : Int)) == (0 : Int) then strOf [IntKind.u8.wrap (IntKind.i64.wrap ((48 : Int) + (IntKind.i64.wrap ((IntKind.i64.wrap ((IntKind.i64.wrap ((IntKind.i64.wrap ((IntKind.i64.wrap ((IntKind.i64.wrap ((IntKind.i64.wrap ((IntKind.i64.wrap (n.tdiv (10 : Int))).tdiv (10 : Int))).tdiv (10 : Int))).tdiv (10 : Int))).tdiv (10 : Int))).tdiv (10 : Int))).tdiv (10 : Int))).tdiv (10 : Int))).tmod (10 : Int))), IntKind.u8.wrap (IntKind.i64.wrap ((48 : Int) + (IntKind.i64.wrap ((IntKind.i64.wrap ((IntKind.i64.wrap ((IntKind.i64.wrap ((IntKind.i64.wrap ((IntKind.i64.wrap ((IntKind.i64.wrap (n.tdiv (10 : Int))).tdiv (10 : Int))).tdiv (10 : Int))).tdiv (10 : Int))).tdiv (10 : Int))).tdiv (10 : Int))).tdiv (10 : Int))).tmod (10 : Int))), IntKind.u8.wrap (IntKind.i64.wrap ((48 : Int) + (IntKind.i64.wrap ((IntKind.i64.wrap ((IntKind.i64.wrap ((IntKind.i64.wrap ((IntKind.i64.wrap ((IntKind.i64.wrap (n.tdiv (10 : Int))).tdiv (10 : Int))).tdiv (10 : Int))).tdiv (10 : Int))).tdiv (10 : Int))).tdiv (10 : Int))).tmod (10 : Int))), IntKind.u8.wrap (IntKind.i64.wrap ((48 : Int) + (IntKind.i64.wrap ((IntKind.i64.wrap ((IntKind.i64.wrap ((IntKind.i64.wrap ((IntKind.i64.wrap (n.tdiv (10 : Int))).tdiv (10 : Int))).tdiv (10 : Int))).tdiv (10 : Int))).tdiv (10 : Int))).tmod (10 : Int))), IntKind.u8.wrap (IntKind.i64.wrap ((48 : Int) + (IntKind.i64.wrap ((IntKind.i64.wrap ((IntKind.i64.wrap ((IntKind.i64.wrap (n.tdiv (10 : Int))).tdiv (10 : Int))).tdiv (10 : Int))).tdiv (10 : Int))).tmod (10 : Int))), IntKind.u8.wrap (IntKind.i64.wrap ((48 : Int) + (IntKind.i64.wrap ((IntKind.i64.wrap ((IntKind.i64.wrap (n.tdiv (10 : Int))).tdiv (10 : Int))).tdiv (10 : Int))).tmod (10 : Int))), IntKind.u8.wrap (IntKind.i64.wrap ((48 : Int) + (IntKind.i64.wrap ((IntKind.i64.wrap (n.tdiv (10 : Int))).tdiv (10 : Int))).tmod (10 : Int))), IntKind.u8.wrap (IntKind.i64.wrap ((48 : Int) + (IntKind.i64.wrap (n.tdiv (10 : Int))).tmod (10 : Int))), IntKind.u8.wrap (IntKind.i64.wrap ((48 : Int) + n.tmod (10 : Int)))] else bif IntKind.i64.wrap ((IntKind.i64.wrap ((IntKind.i64.wrap ((IntKind.i64.wrap ((IntKind.i64.wrap ((IntKind.i64.wrap ((IntKind.i64.wrap ((IntKind.i64.wrap ((IntKind.i64.wrap ((IntKind.i64.wrap (n.tdiv (10 : Int))).tdiv (10 : Int))).tdiv (10 : Int))).tdiv (10 : Int))).tdiv (10 : Int))).tdiv (10 : Int))).tdiv (10 : Int))).tdiv (10 : Int))).tdiv (10 : Int))).tdiv (10 : Int)) == (0 : Int) then strOf [IntKind.u8.wrap (IntKind.i64.wrap ((48 : Int) + (IntKind.i64.wrap ((IntKind.i64.wrap ((IntKind.i64.wrap ((IntKind.i64.wrap ((IntKind.i64.wrap ((IntKind.i64.wrap ((IntKind.i64.wrap ((IntKind.i64.wrap ((IntKind.i64.wrap (n.tdiv (10 : Int))).tdiv (10 : Int))).tdiv (10 : Int))).tdiv (10 : Int))).tdiv (10 : Int))).tdiv (10 : Int))).tdiv (10 : Int))).tdiv (10 : Int))).tdiv (10 : Int))).tmod (10 : Int))), IntKind.u8.wrap (IntKind.i64.wrap ((48 : Int) + (IntKind.i64.wrap ((IntKind.i64.wrap ((IntKind.i64.wrap ((IntKind.i64.wrap ((IntKind.i64.wrap ((IntKind.i64.wrap ((IntKind.i64.wrap ((IntKind.i64.wrap (n.tdiv (10 : Int))).tdiv (10 : Int))).tdiv (10 : Int))).tdiv (10 : Int))).tdiv (10 : Int))).tdiv (10 : Int))).tdiv (10 : Int))).tdiv (10 : Int))).tmod (10 : Int))), IntKind.u8.wrap (IntKind.i64.wrap ((48 : Int) + (IntKind.i64.wrap ((IntKind.i64.wrap ((IntKind.i64.wrap ((IntKind.i64.wrap ((IntKind.i64.wrap ((IntKind.i64.wrap ((IntKind.i64.wrap (n.tdiv (10 : Int))).tdiv (10 : Int))).tdiv (10 : Int))).tdiv (10 : Int))).tdiv (10 : Int))).tdiv (10 : Int))).tdiv (10 : Int))).tmod (10 : Int))), IntKind.u8.wrap (IntKind.i64.wrap ((48 : Int) + (IntKind.i64.wrap ((IntKind.i64.wrap ((IntKind.i64.wrap ((IntKind.i64.wrap ((IntKind.i64.wrap ((IntKind.i64.wrap (n.tdiv (10 : Int))).tdiv (10 : Int))).tdiv (10 : Int))).tdiv (10 : Int))).tdiv (10 : Int))).tdiv (10 : Int))).tmod (10 : Int))), IntKind.u8.wrap (IntKind.i64.wrap ((48 : Int) + (IntKind.i64.wrap ((IntKind.i64.wrap ((IntKind.i64.wrap ((IntKind.i64.wrap ((IntKind.i64.wrap (n.tdiv (10 : Int))).tdiv (10 : Int))).tdiv (10 : Int))).tdiv (10 : Int))).tdiv (10 : Int))).tmod (10 : Int))), IntKind.u8.wrap (IntKind.i64.wrap ((48 : Int) + (IntKind.i64.wrap ((IntKind.i64.wrap ((IntKind.i64.wrap ((IntKind.i64.wrap (n.tdiv (10 : Int))).tdiv (10 : Int))).tdiv (10 : Int))).tdiv (10 : Int))).tmod (10 : Int))), IntKind.u8.wrap (IntKind.i64.wrap ((48 : Int) + (IntKind.i64.wrap ((IntKind.i64.wrap ((IntKind.i64.wrap (n.tdiv (10 : Int))).tdiv (10 : Int))).tdiv (10 : Int))).tmod (10 : Int))), IntKind.u8.wrap (IntKind.i64.wrap ((48 : Int) + (IntKind.i64.wrap ((IntKind.i64.wrap (n.tdiv (10 : Int))).tdiv (10 : Int))).tmod (10 : Int))), IntKind.u8.wrap (IntKind.i64.wrap ((48 : Int) + (IntKind.i64.wrap (n.tdiv (10 : Int))).tmod (10 : Int))), IntKind.u8.wrap (IntKind.i64.wrap ((48 : Int) + n.tmod (10 : Int)))] else bif IntKind.i64.wrap ((IntKind.i64.wrap ((IntKind.i64.wrap ((IntKind.i64.wrap ((IntKind.i64.wrap ((IntKind.i64.wrap ((IntKind.i64.wrap ((IntKind.i64.wrap ((IntKind.i64.wrap ((IntKind.i64.wrap ((IntKind.i64.wrap (n.tdiv (10 : Int))).tdiv (10 : Int))).tdiv (10 : Int))).tdiv (10 : Int))).tdiv (10 : Int))).tdiv (10 : Int))).tdiv (10 : Int))).tdiv (10 : Int))).tdiv (10 : Int))).tdiv (10 : Int))).tdiv (10 : Int)) == (0 : Int) then strOf [IntKind.u8.wrap (IntKind.i64.wrap ((48 : Int) + (IntKind.i64.wrap ((IntKind.i64.wrap ((IntKind.i64.wrap ((IntKind.i64.wrap ((IntKind.i64.wrap ((IntKind.i64.wrap ((IntKind.i64.wrap ((IntKind.i64.wrap ((IntKind.i64.wrap ((IntKind.i64.wrap (n.tdiv (10 : Int))).tdiv (10 : Int))).tdiv (10 : Int))).tdiv (10 : Int))).tdiv (10 : Int))).tdiv (10 : Int))).tdiv (10 : Int))).tdiv (10 : Int))).tdiv (10 : Int))).tdiv (10 : Int))).tmod (10 : Int))), IntKind.u8.wrap (IntKind.i64.wrap ((48 : Int) + (IntKind.i64.wrap ((IntKind.i64.wrap ((IntKind.i64.wrap ((IntKind.i64.wrap ((IntKind.i64.wrap ((IntKind.i64.wrap ((IntKind.i64.wrap ((IntKind.i64.wrap ((IntKind.i64.wrap (n.tdiv (10 : Int))).tdiv (10 : Int))).tdiv (10 : Int))).tdiv (10 : Int))).tdiv (10 : Int))).tdiv (10 : Int))).tdiv (10 : Int))).tdiv (10 : Int))).tdiv (10 : Int))).tmod (10 : Int))), IntKind.u8.wrap (IntKind.i64.wrap ((48 : Int) + (IntKind.i64.wrap ((IntKind.i64.wrap ((IntKind.i64.wrap ((IntKind.i64.wrap ((IntKind.i64.wrap ((IntKind.i64.wrap ((IntKind.i64.wrap ((IntKind.i64.wrap (n.tdiv (10 : Int))).tdiv (10 : Int))).tdiv (10 : Int))).tdiv (10 : Int))).tdiv (10 : Int))).tdiv (10 : Int))).tdiv (10 : Int))).tdiv (10 : Int))).tmod (10 : Int))), IntKind.u8.wrap (IntKind.i64.wrap ((48 : Int) + (IntKind.i64.wrap ((IntKind.i64.wrap ((IntKind.i64.wrap ((IntKind.i64.wrap ((IntKind.i64.wrap ((IntKind.i64.wrap ((IntKind.i64.wrap (n.tdiv (10 : Int))).tdiv (10 : Int))).tdiv (10 : Int))).tdiv (10 : Int))).tdiv (10 : Int))).tdiv (10 : Int))).tdiv (10 : Int))).tmod (10 : Int))), IntKind.u8.wrap (IntKind.i64.wrap ((48 : Int) + (IntKind.i64.wrap ((IntKind.i64.wrap ((IntKind.i64.wrap ((IntKind.i64.wrap ((IntKind.i64.wrap ((IntKind.i64.wrap (n.tdiv (10 : Int))).tdiv (10 : Int))).tdiv (10 : Int))).tdiv (10 : Int))).tdiv (10 : Int))).tdiv (10 : Int))).tmod (10 : Int))), IntKind.u8.wrap (IntKind.i64.wrap ((48 : Int) + (IntKind.i64.wrap ((IntKind.i64.wrap ((IntKind.i64.wrap ((IntKind.i64.wrap ((IntKind.i64.wrap (n.tdiv (10 : Int))).tdiv (10 : Int))).tdiv (10 : Int))).tdiv (10 : Int))).tdiv (10 : Int))).tmod (10 : Int))), IntKind.u8.wrap (IntKind.i64.wrap ((48 : Int) + (IntKind.i64.wrap ((IntKind.i64.wrap ((IntKind.i64.wrap ((IntKind.i64.wrap (n.tdiv (10 : Int))).tdiv (10 : Int))).tdiv (10 : Int))).tdiv (10 : Int))).tmod (10 : Int))), IntKind.u8.wrap (IntKind.i64.wrap ((48 : Int) + (IntKind.i64.wrap ((IntKind.i64.wrap ((IntKind.i64.wrap (n.tdiv (10 : Int))).tdiv (10 : Int))).tdiv (10 : Int))).tmod (10 : Int))), IntKind.u8.wrap (IntKind.i64.wrap ((48 : Int) + (IntKind.i64.wrap ((IntKind.i64.wrap (n.tdiv (10 : Int))).tdiv (10 : Int))).tmod (10 : Int))), IntKind.u8.wrap (IntKind.i64.wrap ((48 : Int) + (IntKind.i64.wrap (n.tdiv (10 : Int))).tmod (10 : Int))), IntKind.u8.wrap (IntKind.i64.wrap ((48 : Int) + n.tmod (10 : Int)))] else default
def dig_side (n : Int) : Prop :=
  (10 : Int) ≠ (0 : Int) ∧ (10 : Int) ≠ (0 : Int) ∧ ((IntKind.i64.wrap (n.tdiv (10 : Int)) == (0 : Int)) = true → True) ∧ ((IntKind.i64.wrap (n.tdiv (10 : Int)) == (0 : Int)) = false → (10 : Int) ≠ (0 : Int) ∧ (10 : Int) ≠ (0 : Int) ∧ ((IntKind.i64.wrap ((IntKind.i64.wrap (n.tdiv (10 : Int))).tdiv (10 : Int)) == (0 : Int)) = true → True) ∧ ((IntKind.i64.wrap ((IntKind.i64.wrap (n.tdiv (10 : Int))).tdiv (10 : Int)) == (0 : Int)) = false → (10 : Int) ≠ (0 : Int) ∧ (10 : Int) ≠ (0 : Int) ∧ ((IntKind.i64.wrap ((IntKind.i64.wrap ((IntKind.i64.wrap (n.tdiv (10 : Int))).tdiv (10 : Int))).tdiv (10 : Int)) == (0 : Int)) = true → True) ∧ ((IntKind.i64.wrap ((IntKind.i64.wrap ((IntKind.i64.wrap (n.tdiv (10 : Int))).tdiv (10 : Int))).tdiv (10 : Int)) == (0 : Int)) = false → (10 : Int) ≠ (0 : Int) ∧ (10 : Int) ≠ (0 : Int) ∧ ((IntKind.i64.wrap ((IntKind.i64.wrap ((IntKind.i64.wrap ((IntKind.i64.wrap (n.tdiv (10 : Int))).tdiv (10 : Int))).tdiv (10 : Int))).tdiv (10 : Int)) == (0 : Int)) = true → True) ∧ ((IntKind.i64.wrap ((IntKind.i64.wrap ((IntKind.i64.wrap ((IntKind.i64.wrap (n.tdiv (10 : Int))).tdiv (10 : Int))).tdiv (10 : Int))).tdiv (10 : Int)) == (0 : Int)) = false → (10 : Int) ≠ (0 : Int) ∧ (10 : Int) ≠ (0 : Int) ∧ ((IntKind.i64.wrap ((IntKind.i64.wrap ((IntKind.i64.wrap ((IntKind.i64.wrap ((IntKind.i64.wrap (n.tdiv (10 : Int))).tdiv (10 : Int))).tdiv (10 : Int))).tdiv (10 : Int))).tdiv (10 : Int)) == (0 : Int)) = true → True) ∧ ((IntKind.i64.wrap ((IntKind.i64.wrap ((IntKind.i64.wrap ((IntKind.i64.wrap ((IntKind.i64.wrap (n.tdiv (10 : Int))).tdiv (10 : Int))).tdiv (10 : Int))).tdiv (10 : Int))).tdiv (10 : Int)) == (0 : Int)) = false → (10 : Int) ≠ (0 : Int) ∧ (10 : Int) ≠ (0 : Int) ∧ ((IntKind.i64.wrap ((IntKind.i64.wrap ((IntKind.i64.wrap ((IntKind.i64.wrap ((IntKind.i64.wrap ((IntKind.i64.wrap (n.tdiv (10 : Int))).tdiv (10 : Int))).tdiv (10 : Int))).tdiv (10 : Int))).tdiv (10 : Int))).tdiv (10 : Int)) == (0 : Int)) = true → True) ∧ ((IntKind.i64.wrap ((IntKind.i64.wrap ((IntKind.i64.wrap ((IntKind.i64.wrap ((IntKind.i64.wrap ((IntKind.i64.wrap (n.tdiv (10 : Int))).tdiv (10 : Int))).tdiv (10 : Int))).tdiv (10 : Int))).tdiv (10 : Int))).tdiv (10 : Int)) == (0 : Int)) = false → (10 : Int) ≠ (0 : Int) ∧ (10 : Int) ≠ (0 : Int) ∧ ((IntKind.i64.wrap ((IntKind.i64.wrap ((IntKind.i64.wrap ((IntKind.i64.wrap ((IntKind.i64.wrap ((IntKind.i64.wrap ((IntKind.i64.wrap (n.tdiv (10 : Int))).tdiv (10 : Int))).tdiv (10 : Int))).tdiv (10 : Int))).tdiv (10 : Int))).tdiv (10 : Int))).tdiv (10 : Int)) == (0 : Int)) = true → True) ∧ ((IntKind.i64.wrap ((IntKind.i64.wrap ((IntKind.i64.wrap ((IntKind.i64.wrap ((IntKind.i64.wrap ((IntKind.i64.wrap ((IntKind.i64.wrap (n.tdiv (10 : Int))).tdiv (10 : Int))).tdiv (10 : Int))).tdiv (10 : Int))).tdiv (10 : Int))).tdiv (10 : Int))).tdiv (10 : Int)) == (0 : Int)) = false → (10 : Int) ≠ (0 : Int) ∧ (10 : Int) ≠ (0 : Int) ∧ ((IntKind.i64.wrap ((IntKind.i64.wrap ((IntKind.i64.wrap ((IntKind.i64.wrap ((IntKind.i64.wrap ((IntKind.i64.wrap ((IntKind.i64.wrap ((IntKind.i64.wrap (n.tdiv (10 : Int))).tdiv (10 : Int))).tdiv (10 : Int))).tdiv (10 : Int))).tdiv (10 : Int))).tdiv (10 : Int))).tdiv (10 : Int))).tdiv (10 : Int)) == (0 : Int)) = true → True) ∧ ((IntKind.i64.wrap ((IntKind.i64.wrap ((IntKind.i64.wrap ((IntKind.i64.wrap ((IntKind.i64.wrap ((IntKind.i64.wrap ((IntKind.i64.wrap ((IntKind.i64.wrap (n.tdiv (10 : Int))).tdiv (10 : Int))).tdiv (10 : Int))).tdiv (10 : Int))).tdiv (10 : Int))).tdiv (10 : Int))).tdiv (10 : Int))).tdiv (10 : Int)) == (0 : Int)) = false → (10 : Int) ≠ (0 : Int) ∧ (10 : Int) ≠ (0 : Int) ∧ ((IntKind.i64.wrap ((IntKind.i64.wrap ((IntKind.i64.wrap ((IntKind.i64.wrap ((IntKind.i64.wrap ((IntKind.i64.wrap ((IntKind.i64.wrap ((IntKind.i64.wrap ((IntKind.i64.wrap (n.tdiv (10 : Int))).tdiv (10 : Int))).tdiv (10 : Int))).tdiv (10 : Int))).tdiv (10 : Int))).tdiv (10 : Int))).tdiv (10 : Int))).tdiv (10 : Int))).tdiv (10 : Int)) == (0 : Int)) = true → True) ∧ ((IntKind.i64.wrap ((IntKind.i64.wrap ((IntKind.i64.wrap ((IntKind.i64.wrap ((IntKind.i64.wrap ((IntKind.i64.wrap ((IntKind.i64.wrap ((IntKind.i64.wrap ((IntKind.i64.wrap (n.tdiv (10 : Int))).tdiv (10 : Int))).tdiv (10 : Int))).tdiv (10 : Int))).tdiv (10 : Int))).tdiv (10 : Int))).tdiv (10 : Int))).tdiv (10 : Int))).tdiv (10 : Int)) == (0 : Int)) = false → (10 : Int) ≠ (0 : Int) ∧ (10 : Int) ≠ (0 : Int) ∧ ((IntKind.i64.wrap ((IntKind.i64.wrap ((IntKind.i64.wrap ((IntKind.i64.wrap ((IntKind.i64.wrap ((IntKind.i64.wrap ((IntKind.i64.wrap ((IntKind.i64.wrap ((IntKind.i64.wrap ((IntKind.i64.wrap (n.tdiv (10 : Int))).tdiv (10 : Int))).tdiv (10 : Int))).tdiv (10 : Int))).tdiv (10 : Int))).tdiv (10 : Int))).tdiv (10 : Int))).tdiv (10 : Int))).tdiv (10 : Int))).tdiv (10 : Int)) == (0 : Int)) = true → True) ∧ ((IntKind.i64.wrap ((IntKind.i64.wrap ((IntKind.i64.wrap ((IntKind.i64.wrap ((IntKind.i64.wrap ((IntKind.i64.wrap ((IntKind.i64.wrap ((IntKind.i64.wrap ((IntKind.i64.wrap ((IntKind.i64.wrap (n.tdiv (10 : Int))).tdiv (10 : Int))).tdiv (10 : Int))).tdiv (10 : Int))).tdiv (10 : Int))).tdiv (10 : Int))).tdiv (10 : Int))).tdiv (10 : Int))).tdiv (10 : Int))).tdiv (10 : Int)) == (0 : Int)) = false → (10 : Int) ≠ (0 : Int) ∧ (10 : Int) ≠ (0 : Int) ∧ ((IntKind.i64.wrap ((IntKind.i64.wrap ((IntKind.i64.wrap ((IntKind.i64.wrap ((IntKind.i64.wrap ((IntKind.i64.wrap ((IntKind.i64.wrap ((IntKind.i64.wrap ((IntKind.i64.wrap ((IntKind.i64.wrap ((IntKind.i64.wrap (n.tdiv (10 : Int))).tdiv (10 : Int))).tdiv (10 : Int))).tdiv (10 : Int))).tdiv (10 : Int))).tdiv (10 : Int))).tdiv (10 : Int))).tdiv (10 : Int))).tdiv (10 : Int))).tdiv (10 : Int))).tdiv (10 : Int)) == (0 : Int)) = true → True) ∧ ((IntKind.i64.wrap ((IntKind.i64.wrap ((IntKind.i64.wrap ((IntKind.i64.wrap ((IntKind.i64.wrap ((IntKind.i64.wrap ((IntKind.i64.wrap ((IntKind.i64.wrap ((IntKind.i64.wrap ((IntKind.i64.wrap ((IntKind.i64.wrap (n.tdiv (10 : Int))).tdiv (10 : Int))).tdiv (10 : Int))).tdiv (10 : Int))).tdiv (10 : Int))).tdiv (10 : Int))).tdiv (10 : Int))).tdiv (10 : Int))).tdiv (10 : Int))).tdiv (10 : Int))).tdiv (10 : Int)) == (0 : Int)) = false → False)))))))))))
theorem dig_okS (pre : DA.T aI → List Prop) (h : ∀ g, DA.bd aI g → (∀ p ∈ pre g, p) → dig_side g) : FnPure Try.prog 130 aI dStr (fun g => dig_F g) pre := pure_of_sideS (Γ := (PTab.gamz tabL [] [(130, 3, 11)])) (Λ := noΛ) (PTab.okz tabL [] [(130, 3, 11)]) noΛ_ok 100 default (fun g => dig_side g) (fun g => by kernel_rfl) (fun g => by kernel_rfl) h
noncomputable def tabXD1 : PTab Try.prog := tabL
end Go.Proofs.Ytiipneclghnfhaa

/- Chapter 3: numbers as texts: the contract. -/
namespace Go.Proofs.Ytiipneclghnfhaa
open Go.RowKit Go.Sx Go.Lp
def NX : Int := 2147483648
theorem td10 {n d : Int} (h : IntKind.i64.wrap (n.tdiv 10) = d) (h0 : 0 ≤ n ∧ n < NX) : d = n / 10 ∧ 0 ≤ d ∧ d < NX := by
  unfold NX at *
  have h1 : n.tdiv 10 = n / 10 := Int.tdiv_eq_ediv_of_nonneg h0.1
  rw [h1, wr (by omega)] at h
  omega
set_option maxHeartbeats 4000000 in
theorem dig_si (n : Int) (h0 : 0 ≤ n ∧ n < NX) : dig_side n := by
  unfold dig_side
  generalize h1 : IntKind.i64.wrap (n.tdiv 10) = d1
  generalize h2 : IntKind.i64.wrap (d1.tdiv 10) = d2
  generalize h3 : IntKind.i64.wrap (d2.tdiv 10) = d3
  generalize h4 : IntKind.i64.wrap (d3.tdiv 10) = d4
  generalize h5 : IntKind.i64.wrap (d4.tdiv 10) = d5
  generalize h6 : IntKind.i64.wrap (d5.tdiv 10) = d6
  generalize h7 : IntKind.i64.wrap (d6.tdiv 10) = d7
  generalize h8 : IntKind.i64.wrap (d7.tdiv 10) = d8
  generalize h9 : IntKind.i64.wrap (d8.tdiv 10) = d9
  generalize h10 : IntKind.i64.wrap (d9.tdiv 10) = d10
  generalize h11 : IntKind.i64.wrap (d10.tdiv 10) = d11
  obtain ⟨e1, b1⟩ := td10 h1 h0
  obtain ⟨e2, b2⟩ := td10 h2 b1
  obtain ⟨e3, b3⟩ := td10 h3 b2
  obtain ⟨e4, b4⟩ := td10 h4 b3
  obtain ⟨e5, b5⟩ := td10 h5 b4
  obtain ⟨e6, b6⟩ := td10 h6 b5
  obtain ⟨e7, b7⟩ := td10 h7 b6
  obtain ⟨e8, b8⟩ := td10 h8 b7
  obtain ⟨e9, b9⟩ := td10 h9 b8
  obtain ⟨e10, b10⟩ := td10 h10 b9
  obtain ⟨e11, b11⟩ := td10 h11 b10
  have hz : d11 = 0 := by unfold NX at *; omega
  have ht : (10 : Int) ≠ 0 := by decide
  subst hz
  clear h1 h2 h3 h4 h5 h6 h7 h8 h9 h10 h11 e1 e2 e3 e4 e5 e6 e7 e8 e9 e10 e11 b1 b2 b3 b4 b5 b6 b7 b8 b9 b10 b11 h0
  repeat' (first | exact ht | exact True.intro | apply And.intro | intro _)
  all_goals (first | trivial | (rename_i h; cases h))
theorem dig_ok : FnPure Try.prog 130 aI dStr dig_F (fun n => [0 ≤ n ∧ n < NX]) :=
  dig_okS _ fun g _ hp => dig_si g (hp _ (List.mem_cons_self ..))
noncomputable def tabD3 : PTab Try.prog := tabL.cons 130 (pconP aI dStr dig_F (fun n => [0 ≤ n ∧ n < NX])) (conP_ok dig_ok puStr)
end Go.Proofs.Ytiipneclghnfhaa

/- Chapter 3: times as texts. Printed by treegen.py. -/
namespace Go.Proofs.Ytiipneclghnfhaa
open Go.RowKit Go.Sx
set_option maxRecDepth 100000
set_option linter.unusedVariables false
noncomputable def ttx_F (t : T) : Dv.T dStr :=
  bif tcheck_F t != (0 : Int) then ByteArray.mk #[]
  else bif !tcheck_F t != (0 : Int) && (!decide (t.d = (4 : Int)) && (!decide (t.d = (3 : Int)) && (!decide (t.d = (2 : Int)) && (!decide (t.d = (1 : Int)) && !decide (t.d = (0 : Int)))))) then default else bif tcheck_F t != (0 : Int) then dig_F t.e else bif decide (t.d = (4 : Int)) then dig_F t.e ++ (ByteArray.mk #[(46 : UInt8)] ++ dig_F t.l0) ++ (ByteArray.mk #[(46 : UInt8)] ++ dig_F t.l1) ++ (ByteArray.mk #[(46 : UInt8)] ++ dig_F t.l2) ++ (ByteArray.mk #[(46 : UInt8)] ++ dig_F t.l3) else bif decide (t.d = (3 : Int)) then dig_F t.e ++ (ByteArray.mk #[(46 : UInt8)] ++ dig_F t.l0) ++ (ByteArray.mk #[(46 : UInt8)] ++ dig_F t.l1) ++ (ByteArray.mk #[(46 : UInt8)] ++ dig_F t.l2) else bif decide (t.d = (2 : Int)) then dig_F t.e ++ (ByteArray.mk #[(46 : UInt8)] ++ dig_F t.l0) ++ (ByteArray.mk #[(46 : UInt8)] ++ dig_F t.l1) else bif decide (t.d = (1 : Int)) then dig_F t.e ++ (ByteArray.mk #[(46 : UInt8)] ++ dig_F t.l0) else dig_F t.e
def ttx_side (t : T) : Prop :=
  (tcheck_F t != (0 : Int)) = false → ((0 : Int) ≤ t.e ∧ t.e < NX) ∧ ((!tcheck_F t != (0 : Int)) = true → decide (t.d = (4 : Int)) = true → (0 : Int) ≤ t.l0 ∧ t.l0 < NX) ∧ ((!tcheck_F t != (0 : Int)) = true → decide (t.d = (4 : Int)) = true → (1 : Nat) + ByteArray.size (dig_F t.l0) ≤ (9223372036854775807 : Nat)) ∧ ((!tcheck_F t != (0 : Int)) = true → decide (t.d = (4 : Int)) = true → ByteArray.size (dig_F t.e) + (ByteArray.mk #[(46 : UInt8)] ++ dig_F t.l0).size ≤ (9223372036854775807 : Nat)) ∧ ((!tcheck_F t != (0 : Int)) = true → decide (t.d = (4 : Int)) = true → (0 : Int) ≤ t.l1 ∧ t.l1 < NX) ∧ ((!tcheck_F t != (0 : Int)) = true → decide (t.d = (4 : Int)) = true → (1 : Nat) + ByteArray.size (dig_F t.l1) ≤ (9223372036854775807 : Nat)) ∧ ((!tcheck_F t != (0 : Int)) = true → decide (t.d = (4 : Int)) = true → (dig_F t.e ++ (ByteArray.mk #[(46 : UInt8)] ++ dig_F t.l0)).size + (ByteArray.mk #[(46 : UInt8)] ++ dig_F t.l1).size ≤ (9223372036854775807 : Nat)) ∧ ((!tcheck_F t != (0 : Int)) = true → decide (t.d = (4 : Int)) = true → (0 : Int) ≤ t.l2 ∧ t.l2 < NX) ∧ ((!tcheck_F t != (0 : Int)) = true → decide (t.d = (4 : Int)) = true → (1 : Nat) + ByteArray.size (dig_F t.l2) ≤ (9223372036854775807 : Nat)) ∧ ((!tcheck_F t != (0 : Int)) = true → decide (t.d = (4 : Int)) = true → (dig_F t.e ++ (ByteArray.mk #[(46 : UInt8)] ++ dig_F t.l0) ++ (ByteArray.mk #[(46 : UInt8)] ++ dig_F t.l1)).size + (ByteArray.mk #[(46 : UInt8)] ++ dig_F t.l2).size ≤ (9223372036854775807 : Nat)) ∧ ((!tcheck_F t != (0 : Int)) = true → decide (t.d = (4 : Int)) = true → (0 : Int) ≤ t.l3 ∧ t.l3 < NX) ∧ ((!tcheck_F t != (0 : Int)) = true → decide (t.d = (4 : Int)) = true → (1 : Nat) + ByteArray.size (dig_F t.l3) ≤ (9223372036854775807 : Nat)) ∧ ((!tcheck_F t != (0 : Int)) = true → decide (t.d = (4 : Int)) = true → (dig_F t.e ++ (ByteArray.mk #[(46 : UInt8)] ++ dig_F t.l0) ++ (ByteArray.mk #[(46 : UInt8)] ++ dig_F t.l1) ++ (ByteArray.mk #[(46 : UInt8)] ++ dig_F t.l2)).size + (ByteArray.mk #[(46 : UInt8)] ++ dig_F t.l3).size ≤ (9223372036854775807 : Nat)) ∧ ((!tcheck_F t != (0 : Int)) = true → (!decide (t.d = (4 : Int))) = true → decide (t.d = (3 : Int)) = true → (0 : Int) ≤ t.l0 ∧ t.l0 < NX) ∧ ((!tcheck_F t != (0 : Int)) = true → (!decide (t.d = (4 : Int))) = true → decide (t.d = (3 : Int)) = true → (1 : Nat) + ByteArray.size (dig_F t.l0) ≤ (9223372036854775807 : Nat)) ∧ ((!tcheck_F t != (0 : Int)) = true → (!decide (t.d = (4 : Int))) = true → decide (t.d = (3 : Int)) = true → ByteArray.size (dig_F t.e) + (ByteArray.mk #[(46 : UInt8)] ++ dig_F t.l0).size ≤ (9223372036854775807 : Nat)) ∧ ((!tcheck_F t != (0 : Int)) = true → (!decide (t.d = (4 : Int))) = true → decide (t.d = (3 : Int)) = true → (0 : Int) ≤ t.l1 ∧ t.l1 < NX) ∧ ((!tcheck_F t != (0 : Int)) = true → (!decide (t.d = (4 : Int))) = true → decide (t.d = (3 : Int)) = true → (1 : Nat) + ByteArray.size (dig_F t.l1) ≤ (9223372036854775807 : Nat)) ∧ ((!tcheck_F t != (0 : Int)) = true → (!decide (t.d = (4 : Int))) = true → decide (t.d = (3 : Int)) = true → (dig_F t.e ++ (ByteArray.mk #[(46 : UInt8)] ++ dig_F t.l0)).size + (ByteArray.mk #[(46 : UInt8)] ++ dig_F t.l1).size ≤ (9223372036854775807 : Nat)) ∧ ((!tcheck_F t != (0 : Int)) = true → (!decide (t.d = (4 : Int))) = true → decide (t.d = (3 : Int)) = true → (0 : Int) ≤ t.l2 ∧ t.l2 < NX) ∧ ((!tcheck_F t != (0 : Int)) = true → (!decide (t.d = (4 : Int))) = true → decide (t.d = (3 : Int)) = true → (1 : Nat) + ByteArray.size (dig_F t.l2) ≤ (9223372036854775807 : Nat)) ∧ ((!tcheck_F t != (0 : Int)) = true → (!decide (t.d = (4 : Int))) = true → decide (t.d = (3 : Int)) = true → (dig_F t.e ++ (ByteArray.mk #[(46 : UInt8)] ++ dig_F t.l0) ++ (ByteArray.mk #[(46 : UInt8)] ++ dig_F t.l1)).size + (ByteArray.mk #[(46 : UInt8)] ++ dig_F t.l2).size ≤ (9223372036854775807 : Nat)) ∧ ((!tcheck_F t != (0 : Int)) = true → (!decide (t.d = (4 : Int))) = true → (!decide (t.d = (3 : Int))) = true → decide (t.d = (2 : Int)) = true → (0 : Int) ≤ t.l0 ∧ t.l0 < NX) ∧ ((!tcheck_F t != (0 : Int)) = true → (!decide (t.d = (4 : Int))) = true → (!decide (t.d = (3 : Int))) = true → decide (t.d = (2 : Int)) = true → (1 : Nat) + ByteArray.size (dig_F t.l0) ≤ (9223372036854775807 : Nat)) ∧ ((!tcheck_F t != (0 : Int)) = true → (!decide (t.d = (4 : Int))) = true → (!decide (t.d = (3 : Int))) = true → decide (t.d = (2 : Int)) = true → ByteArray.size (dig_F t.e) + (ByteArray.mk #[(46 : UInt8)] ++ dig_F t.l0).size ≤ (9223372036854775807 : Nat)) ∧ ((!tcheck_F t != (0 : Int)) = true → (!decide (t.d = (4 : Int))) = true → (!decide (t.d = (3 : Int))) = true → decide (t.d = (2 : Int)) = true → (0 : Int) ≤ t.l1 ∧ t.l1 < NX) ∧ ((!tcheck_F t != (0 : Int)) = true → (!decide (t.d = (4 : Int))) = true → (!decide (t.d = (3 : Int))) = true → decide (t.d = (2 : Int)) = true → (1 : Nat) + ByteArray.size (dig_F t.l1) ≤ (9223372036854775807 : Nat)) ∧ ((!tcheck_F t != (0 : Int)) = true → (!decide (t.d = (4 : Int))) = true → (!decide (t.d = (3 : Int))) = true → decide (t.d = (2 : Int)) = true → (dig_F t.e ++ (ByteArray.mk #[(46 : UInt8)] ++ dig_F t.l0)).size + (ByteArray.mk #[(46 : UInt8)] ++ dig_F t.l1).size ≤ (9223372036854775807 : Nat)) ∧ ((!tcheck_F t != (0 : Int)) = true → (!decide (t.d = (4 : Int))) = true → (!decide (t.d = (3 : Int))) = true → (!decide (t.d = (2 : Int))) = true → decide (t.d = (1 : Int)) = true → (0 : Int) ≤ t.l0 ∧ t.l0 < NX) ∧ ((!tcheck_F t != (0 : Int)) = true → (!decide (t.d = (4 : Int))) = true → (!decide (t.d = (3 : Int))) = true → (!decide (t.d = (2 : Int))) = true → decide (t.d = (1 : Int)) = true → (1 : Nat) + ByteArray.size (dig_F t.l0) ≤ (9223372036854775807 : Nat)) ∧ ((!tcheck_F t != (0 : Int)) = true → (!decide (t.d = (4 : Int))) = true → (!decide (t.d = (3 : Int))) = true → (!decide (t.d = (2 : Int))) = true → decide (t.d = (1 : Int)) = true → ByteArray.size (dig_F t.e) + (ByteArray.mk #[(46 : UInt8)] ++ dig_F t.l0).size ≤ (9223372036854775807 : Nat)) ∧ ((!tcheck_F t != (0 : Int) && (!decide (t.d = (4 : Int)) && (!decide (t.d = (3 : Int)) && (!decide (t.d = (2 : Int)) && (!decide (t.d = (1 : Int)) && !decide (t.d = (0 : Int))))))) = true → False)
theorem ttx_okS (pre : DA.T aT → List Prop) (h : ∀ g, DA.bd aT g → (∀ p ∈ pre g, p) → ttx_side g) : FnPure Try.prog 105 aT dStr (fun g => ttx_F g) pre := pure_of_sideS (Γ := (PTab.gamz tabD3 [] [(156, 2, 6)])) (Λ := noΛ) (PTab.okz tabD3 [] [(156, 2, 6)]) noΛ_ok 100 default (fun g => ttx_side g) (fun g => by kernel_rfl) (fun g => by kernel_rfl) h
noncomputable def tabXD4 : PTab Try.prog := tabD3
end Go.Proofs.Ytiipneclghnfhaa

/- Chapter 3: times as texts: the contract. -/
namespace Go.Proofs.Ytiipneclghnfhaa
open Go.RowKit Go.Sx Go.Lp
theorem sz_cond {c : Bool} {a b : ByteArray} {k : Nat} (ha : a.size ≤ k) (hb : b.size ≤ k) : (bif c then a else b).size ≤ k := by cases c <;> assumption
theorem sz_str {l : List Int} {k : Nat} (h : l.length ≤ k) : (strOf l).size ≤ k := by
  have : (strOf l).size = l.length := by unfold strOf; show (List.toArray _).size = _; simp
  omega
theorem sz_dflt (k : Nat) : (default : ByteArray).size ≤ k := Nat.zero_le k
theorem dig_sz (n : Int) : (dig_F n).size ≤ 11 := by
  unfold dig_F
  repeat' (first | exact sz_str (Nat.le_of_ble_eq_true rfl) | exact sz_dflt 11 | exact Nat.zero_le _ | apply sz_cond)
theorem dotS : (ByteArray.mk #[(46 : UInt8)]).size = 1 := rfl
set_option maxHeartbeats 4000000 in
theorem ttx_si (t : T) : ttx_side t := by
  unfold ttx_side
  intro h
  have ok : t.Ok := (tcheck_iff t).1 (bne_eq_false_iff_eq.1 h)
  have s0 := dig_sz t.e
  have s1 := dig_sz t.l0
  have s2 := dig_sz t.l1
  have s3 := dig_sz t.l2
  have s4 := dig_sz t.l3
  unfold T.Ok at ok
  simp only [ByteArray.size_append, dotS, NX] at *
  generalize ByteArray.size (dig_F t.e) = z0 at *
  generalize ByteArray.size (dig_F t.l0) = z1 at *
  generalize ByteArray.size (dig_F t.l1) = z2 at *
  generalize ByteArray.size (dig_F t.l2) = z3 at *
  generalize ByteArray.size (dig_F t.l3) = z4 at *
  have hd : t.d = 0 ∨ t.d = 1 ∨ t.d = 2 ∨ t.d = 3 ∨ t.d = 4 := by omega
  clear h
  have fin : ∀ c : Bool, (c && (!decide (t.d = (4 : Int)) && (!decide (t.d = (3 : Int)) && (!decide (t.d = (2 : Int)) && (!decide (t.d = (1 : Int)) && !decide (t.d = (0 : Int))))))) = false := fun c => by
    rcases hd with h | h | h | h | h <;> rw [h] <;> cases c <;> rfl
  simp only [fin]
  repeat' (first | apply And.intro | intro _)
  all_goals (first | omega | trivial)
theorem ttx_ok : FnPure Try.prog 105 aT dStr ttx_F (fun _ => []) := ttx_okS _ fun g _ _ => ttx_si g
noncomputable def tabD5 : PTab Try.prog := tabL.cons 105 (pconP aT dStr ttx_F (fun _ => [])) (conP_ok ttx_ok puStr)
end Go.Proofs.Ytiipneclghnfhaa

/- Chapter 3: lists of times as texts: the loop. Printed by treegen.py. -/
namespace Go.Proofs.Ytiipneclghnfhaa
open Go.RowKit Go.Sx
set_option maxRecDepth 100000
set_option linter.unusedVariables false
abbrev tl_G : Type := List T × Int × Int × ByteArray
noncomputable def tl_LP : LP 0 tl_G := .pair (.slot 0 6 dLT) (.pair (.slot 0 7 dI) (.pair (.slot 0 8 dI) (.slot 0 3 dStr)))
noncomputable def tl_R (xs : List T) (n : Int) (i : Int) (s : ByteArray) : Ex × tl_G :=
  bif decide (i < n) then (Ex.normal, eT.lst xs.length (eT.els xs), n, IntKind.i64.wrap (i + (1 : Int)), (bif decide (i > (0 : Int)) then s ++ ByteArray.mk #[(44 : UInt8)] else s) ++ ttx_F (xs.getD i.toNat eT.dflt))
  else (Ex.exit (0 : Nat), eT.lst xs.length (eT.els xs), n, i, s)
def tl_side (xs : List T) (n : Int) (i : Int) (s : ByteArray) : Prop :=
  (decide (i < n) = true → ((0 : Int) ≤ i ∧ i < (↑xs.length : Int)) ∧ (decide (i > (0 : Int)) = true → s.size + (1 : Nat) ≤ (9223372036854775807 : Nat)) ∧ (bif decide (i > (0 : Int)) then s ++ ByteArray.mk #[(44 : UInt8)] else s).size + ByteArray.size (ttx_F (xs.getD i.toNat eT.dflt)) ≤ (9223372036854775807 : Nat) ∧ ∀ (e : Nat), e < xs.length → eT.Ok (eT.els xs e)) ∧ (decide (i < n) = false → ∀ (e : Nat), e < xs.length → eT.Ok (eT.els xs e))
theorem tl_one : ((loopsOf Try.prog 57).filter fun c => Nat.beq (lkey c) 3).length = 1 := by kernel_rfl
abbrev tl_GC : Type := List T × Int
abbrev tl_GB : Type := ByteArray
def tl_f (g : tl_G) : Int × tl_GC × tl_GB := (g.2.2.1, (g.1, g.2.1), g.2.2.2)
def tl_g (d : Int × tl_GC × tl_GB) : tl_G := (d.2.1.1, d.2.1.2, d.1, d.2.2)
theorem tl_es (g : tl_G) : (tl_R g.1 g.2.1 g.2.2.1 g.2.2.2).1 = .normal ∨ (tl_R g.1 g.2.1 g.2.2.1 g.2.2.2).1 ∈ ([.exit 0] : List Ex) := by
  unfold tl_R
  repeat' (first | (left; rfl) | (right; simp only [cond_true, cond_false]; simp; done) | (rw [Bool.cond_eq_ite]; split))
noncomputable abbrev tl_C (Inv : tl_G → List Prop) (m : tl_G → Nat) : LCon := loopR [.exit 0] (loopBody Try.prog 57 3) tl_LP [] 24 Inv (fun g => tl_R g.1 g.2.1 g.2.2.1 g.2.2.2) m
theorem tl_loop (Inv : tl_G → List Prop) (m : tl_G → Nat) (hs : ∀ g, allP (Inv g) → tl_side g.1 g.2.1 g.2.2.1 g.2.2.2) (hg : Goes (fun g : tl_G => tl_R g.1 g.2.1 g.2.2.1 g.2.2.2) m fun g => allP (Inv g)) : ∀ b ∈ loopsOf Try.prog 57, lkey b = 3 → LoopOk Try.prog b (tl_C Inv m).g := loop_run (Γ := (PTab.gamz tabD5 [] [])) (Λ := noΛ) (PTab.okz tabD5 [] []) noΛ_ok 100 57 3 24 tl_LP [] Inv (fun g => tl_R g.1 g.2.1 g.2.2.1 g.2.2.2) (fun g => tl_side g.1 g.2.1 g.2.2.1 g.2.2.2) m default [.exit 0] tl_one (fun rd T B HL HB ds g => by kernel_rfl) (fun rd T B HL HB ds g => by kernel_rfl) hs hg tl_es
noncomputable def tabXD6 : PTab Try.prog := tabD5
end Go.Proofs.Ytiipneclghnfhaa

/- Chapter 3: lists of times as texts: the loop's contract. -/
namespace Go.Proofs.Ytiipneclghnfhaa
open Go.RowKit Go.Sx Go.Lp
theorem ttx_sz (t : T) : (ttx_F t).size ≤ 59 := by
  have s0 := dig_sz t.e
  have s1 := dig_sz t.l0
  have s2 := dig_sz t.l1
  have s3 := dig_sz t.l2
  have s4 := dig_sz t.l3
  have e0 : (ByteArray.mk #[]).size ≤ 59 := Nat.zero_le _
  unfold ttx_F
  repeat' (first | exact e0 | exact sz_dflt 59 | (simp only [ByteArray.size_append, dotS]; omega) | omega | apply sz_cond)
noncomputable def tl_S (_ : tl_GC) (b : tl_GB) (i : Int) (v : T) : Ex × tl_GB := (.normal, (bif decide (i > 0) then b ++ ByteArray.mk #[(44 : UInt8)] else b) ++ ttx_F v)
def tl_K (c : tl_GC) (b : tl_GB) (i : Int) : Prop := c.1.length ≤ KS ∧ (ByteArray.size b : Int) ≤ 60 * i + 1
abbrev tl_I (g : tl_G) : List Prop := ixI (fun c : tl_GC => c.2) (fun c => c.1) tl_K (tl_f g)
abbrev tl_M (g : tl_G) : Nat := ixM (fun c : tl_GC => c.2) (tl_f g)
theorem comS : (ByteArray.mk #[(44 : UInt8)]).size = 1 := rfl
theorem com_sz (i : Int) (b : ByteArray) : (bif decide (i > 0) then b ++ ByteArray.mk #[(44 : UInt8)] else b).size ≤ b.size + 1 := sz_cond (by simp only [ByteArray.size_append, comS]; omega) (by omega)
theorem tl_P : ixP tl_S (fun c : tl_GC => c.1) tl_K := by
  rintro ⟨xs, n⟩ b i a ⟨h1, h2⟩ _ _
  refine ⟨h1, ?_⟩
  have h2 : (ByteArray.size b : Int) ≤ 60 * (i : Int) + 1 := h2
  show (((bif decide ((i : Int) > 0) then b ++ ByteArray.mk #[(44 : UInt8)] else b) ++ ttx_F a).size : Int) ≤ 60 * ((i : Int) + 1) + 1
  have h3 := com_sz i b
  have h4 := ttx_sz a
  rw [ByteArray.size_append]
  omega
noncomputable abbrev tl_RR (g : tl_G) : Ex × tl_G := tl_R g.1 g.2.1 g.2.2.1 g.2.2.2
theorem tl_RF (d : Int × tl_GC × tl_GB) (_ : allP (ixI (fun c : tl_GC => c.2) (fun c => c.1) tl_K d)) : tl_RR (tl_g d) = ((ixF 0 (fun c : tl_GC => c.2) (fun c => c.1) eT.dflt tl_S d).1, tl_g (ixF 0 (fun c : tl_GC => c.2) (fun c => c.1) eT.dflt tl_S d).2) := by
  obtain ⟨i, ⟨xs, n⟩, s⟩ := d
  show tl_R xs n i s = _
  unfold tl_R ixF tl_S
  simp only [eT.lst_els]
  cases decide (i < n) with
  | false => rfl
  | true => rfl
theorem tl_ok : ∀ b ∈ loopsOf Try.prog 57, lkey b = 3 → LoopOk Try.prog b (tl_C tl_I tl_M).g := by
  refine tl_loop tl_I tl_M (fun g hi => ?_) (ix_conj_goes (fun _ => rfl) (fun _ => rfl) tl_RF tl_P)
  obtain ⟨xs, n, i, s⟩ := g
  obtain ⟨h1, h2, h3, h4, h5, h6⟩ := hi _ (List.mem_cons_self ..)
  have h1 : n = (xs.length : Int) := h1
  have h3 : 0 ≤ i := h3
  have h4 : i ≤ (xs.length : Int) := h4
  have h5 : xs.length ≤ KS := h5
  have h6 : (ByteArray.size s : Int) ≤ 60 * i + 1 := h6
  unfold KS at h5
  have ha := okT xs
  have k1 := com_sz i s
  have k2 := ttx_sz (xs.getD i.toNat eT.dflt)
  clear hi
  show tl_side xs n i s
  unfold tl_side
  simp only [decide_eq_true_eq, decide_eq_false_iff_not]
  exact ⟨fun hc => ⟨⟨h3, by omega⟩, fun _ => by omega, by omega, ha⟩, fun _ => ha⟩
/-- The text of times. -/
noncomputable def txC (xs : List T) : ByteArray := (scan 0 (tl_S (xs, (xs.length : Int))) 0 xs (ByteArray.mk #[(123 : UInt8)])).2.2 ++ ByteArray.mk #[(125 : UInt8)]
theorem tl_run (xs : List T) (h : xs.length ≤ KS) : ∃ i, loopF tl_RR tl_M (xs, (xs.length : Int), 0, ByteArray.mk #[(123 : UInt8)]) = (.exit 0, xs, (xs.length : Int), i, (scan 0 (tl_S (xs, (xs.length : Int))) 0 xs (ByteArray.mk #[(123 : UInt8)])).2.2) := by
  have hm : xs.length ≤ maxLen := by unfold KS at h; unfold maxLen; omega
  have h1 : loopF tl_RR tl_M (xs, (xs.length : Int), 0, ByteArray.mk #[(123 : UInt8)]) = _ := ix_conj_run (φ := tl_f) (ψ := tl_g) (fun _ => rfl) (fun _ => rfl) tl_RF tl_P (xs, (xs.length : Int)) (ByteArray.mk #[(123 : UInt8)]) rfl hm ⟨h, by show (1 : Int) ≤ 60 * 0 + 1; omega⟩
  have hs : ∀ (l : List T) (i : Int) (b : ByteArray), (scan 0 (tl_S (xs, (xs.length : Int))) i l b).1 = .exit 0 := by
    intro l
    induction l with
    | nil => intro i b; rfl
    | cons a l ih => intro i b; exact ih _ _
  refine ⟨(scan 0 (tl_S (xs, (xs.length : Int))) 0 xs (ByteArray.mk #[(123 : UInt8)])).2.1, h1.trans ?_⟩
  show ((scan 0 (tl_S (xs, (xs.length : Int))) 0 xs (ByteArray.mk #[(123 : UInt8)])).1, _) = _
  rw [hs]
  rfl
theorem scan_sz (c : tl_GC) : ∀ (l : List T) (i : Int) (b : ByteArray), (scan 0 (tl_S c) i l b).2.2.size ≤ b.size + 60 * l.length
  | [], _, _ => Nat.le_refl _
  | a :: l, i, b => by
    have h := scan_sz c l (i + 1) (tl_S c b i a).2
    have h3 := com_sz i b
    have h4 := ttx_sz a
    have h5 : (tl_S c b i a).2.size ≤ b.size + 60 := by
      show ((bif decide (i > 0) then b ++ ByteArray.mk #[(44 : UInt8)] else b) ++ ttx_F a).size ≤ _
      rw [ByteArray.size_append]
      omega
    have h6 : (scan 0 (tl_S c) i (a :: l) b).2.2 = (scan 0 (tl_S c) (i + 1) l (tl_S c b i a).2).2.2 := rfl
    rw [h6, List.length_cons]
    omega
noncomputable def ltT : LTab Try.prog := LTab.nil.cons 57 3 (tl_C tl_I tl_M) tl_ok
noncomputable abbrev lamT : Lam := ltT.lam
theorem lamT_ok : ∀ f k L, lamT f k = some L → ∀ b ∈ loopsOf Try.prog f, lkey b = k → LoopOk Try.prog b L.g := ltT.ok
end Go.Proofs.Ytiipneclghnfhaa

/- Chapter 3: lists of times as texts. Printed by treegen.py. -/
namespace Go.Proofs.Ytiipneclghnfhaa
open Go.RowKit Go.Sx
set_option maxRecDepth 100000
set_option linter.unusedVariables false
noncomputable def txt_q1 (xs : List T) : Ex ×
  tl_G :=
  loopF (fun g => tl_R g.fst g.snd.fst g.snd.snd.fst g.snd.snd.snd) tl_M (eT.lst xs.length (eT.els xs), (↑xs.length : Int), (0 : Int), ByteArray.mk #[(123 : UInt8)])
noncomputable def txt_F (xs : List T) : Dv.T dStr :=
  (txt_q1 xs).snd.snd.snd.snd ++ ByteArray.mk #[(125 : UInt8)]
def txt_side (xs : List T) : Prop :=
  (∀ (e : Nat), e < xs.length → eT.Ok (eT.els xs e)) ∧ Lp.ixJ (fun c => c.snd) (fun c => c.fst) tl_K (tl_f (eT.lst xs.length (eT.els xs), (↑xs.length : Int), (0 : Int), ByteArray.mk #[(123 : UInt8)])) ∧ (txt_q1 xs).snd.snd.snd.snd.size + (1 : Nat) ≤ (9223372036854775807 : Nat)
theorem txt_okS (pre : DA.T aL → List Prop) (h : ∀ g, DA.bd aL g → (∀ p ∈ pre g, p) → txt_side g) : FnPure Try.prog 57 aL dStr (fun g => txt_F g) pre := pure_of_sideS (Γ := (PTab.gamz tabD5 [] [])) (Λ := lamT) (PTab.okz tabD5 [] []) lamT_ok 100 default (fun g => txt_side g) (fun g => by kernel_rfl) (fun g => by kernel_rfl) h
noncomputable def tabXD8 : PTab Try.prog := tabD5
end Go.Proofs.Ytiipneclghnfhaa

/- Chapter 3: lists of times as texts: the contract. -/
namespace Go.Proofs.Ytiipneclghnfhaa
open Go.RowKit Go.Sx Go.Lp
theorem txt_eq (xs : List T) (h : xs.length ≤ KS) : txt_F xs = txC xs ∧ txt_side xs := by
  have hm : xs.length ≤ maxLen := by unfold KS at h; unfold maxLen; omega
  obtain ⟨i, h1⟩ := tl_run xs h
  have hs := scan_sz (xs, (xs.length : Int)) xs 0 (ByteArray.mk #[(123 : UInt8)])
  have hb : (ByteArray.mk #[(123 : UInt8)]).size = 1 := rfl
  unfold txt_F txt_side txt_q1 txC
  rw [eT.lst_els]
  have h1 : loopF (fun g : tl_G => tl_R g.1 g.2.1 g.2.2.1 g.2.2.2) tl_M (xs, (xs.length : Int), 0, ByteArray.mk #[(123 : UInt8)]) = _ := h1
  rw [h1]
  refine ⟨rfl, okT xs, ?_, ?_⟩
  · exact ixJ0 (lim := fun c : tl_GC => c.2) (xs := fun c : tl_GC => c.1) (P := tl_K) (c := (xs, (xs.length : Int))) (b := ByteArray.mk #[(123 : UInt8)]) rfl hm ⟨h, by show (1 : Int) ≤ 60 * 0 + 1; omega⟩
  · unfold KS at h
    show (scan 0 (tl_S (xs, (xs.length : Int))) 0 xs (ByteArray.mk #[(123 : UInt8)])).2.2.size + 1 ≤ _
    omega
theorem txt_ok : FnPure Try.prog 57 aL dStr txC (fun g => [g.length ≤ KS]) :=
  pure_congr (txt_okS _ fun g _ hp => (txt_eq g (hp _ (List.mem_cons_self ..))).2) fun g _ hp => (txt_eq g (hp _ (List.mem_cons_self ..))).1
noncomputable def tabB : MTab Try.prog := tabA.cons 57 (pconP aL dStr txC (fun g => [g.length ≤ KS])) (conP_ok txt_ok puStr)
abbrev aLB : DA (List T) := .one (.listB eT)
theorem cof_okB : FnPure Try.prog 18 aLB dLE ofC (fun g => [g.length ≤ KS]) := cof_ok
/-- For lists that are written out. -/
noncomputable def tabBk : MTab Try.prog := tabB.consM 18 (fconR aLB dLE ofC (fun g => [g.length ≤ KS])) (fconR_ok cof_okB)
end Go.Proofs.Ytiipneclghnfhaa

/- Chapter 3: the self-test. Printed by treegen.py. -/
namespace Go.Proofs.Ytiipneclghnfhaa
open Go.RowKit Go.Sx
set_option maxRecDepth 100000
set_option linter.unusedVariables false
noncomputable def lv_F (_u : Unit) : Dv.T dBool :=
  (ofC [T.mk (2 : Int) (1 : Int) (2 : Int) (0 : Int) (0 : Int) (0 : Int), T.mk (1 : Int) (1 : Int) (2 : Int) (0 : Int) (0 : Int) (0 : Int), T.mk (2 : Int) (1 : Int) (1 : Int) (0 : Int) (0 : Int) (0 : Int)]).snd == (0 : Int) && (decide (txC [(ofC [T.mk (2 : Int) (1 : Int) (2 : Int) (0 : Int) (0 : Int) (0 : Int), T.mk (1 : Int) (1 : Int) (2 : Int) (0 : Int) (0 : Int) (0 : Int), T.mk (2 : Int) (1 : Int) (1 : Int) (0 : Int) (0 : Int) (0 : Int)]).fst.getD (0 : Nat) eT.dflt, (ofC [T.mk (2 : Int) (1 : Int) (2 : Int) (0 : Int) (0 : Int) (0 : Int), T.mk (1 : Int) (1 : Int) (2 : Int) (0 : Int) (0 : Int) (0 : Int), T.mk (2 : Int) (1 : Int) (1 : Int) (0 : Int) (0 : Int) (0 : Int)]).fst.getD (1 : Nat) eT.dflt] = ByteArray.mk #[(123 : UInt8), (49 : UInt8), (46 : UInt8), (50 : UInt8), (44 : UInt8), (50 : UInt8), (46 : UInt8), (49 : UInt8), (125 : UInt8)]) && (([(ofC [T.mk (2 : Int) (1 : Int) (2 : Int) (0 : Int) (0 : Int) (0 : Int), T.mk (1 : Int) (1 : Int) (2 : Int) (0 : Int) (0 : Int) (0 : Int), T.mk (2 : Int) (1 : Int) (1 : Int) (0 : Int) (0 : Int) (0 : Int)]).fst.getD (0 : Nat) eT.dflt, (ofC [T.mk (2 : Int) (1 : Int) (2 : Int) (0 : Int) (0 : Int) (0 : Int), T.mk (1 : Int) (1 : Int) (2 : Int) (0 : Int) (0 : Int) (0 : Int), T.mk (2 : Int) (1 : Int) (1 : Int) (0 : Int) (0 : Int) (0 : Int)]).fst.getD (1 : Nat) eT.dflt].any fun x => tleq_F x (T.mk (3 : Int) (1 : Int) (1 : Int) (0 : Int) (0 : Int) (0 : Int))) && ![(ofC [T.mk (2 : Int) (1 : Int) (2 : Int) (0 : Int) (0 : Int) (0 : Int), T.mk (1 : Int) (1 : Int) (2 : Int) (0 : Int) (0 : Int) (0 : Int), T.mk (2 : Int) (1 : Int) (1 : Int) (0 : Int) (0 : Int) (0 : Int)]).fst.getD (0 : Nat) eT.dflt, (ofC [T.mk (2 : Int) (1 : Int) (2 : Int) (0 : Int) (0 : Int) (0 : Int), T.mk (1 : Int) (1 : Int) (2 : Int) (0 : Int) (0 : Int) (0 : Int), T.mk (2 : Int) (1 : Int) (1 : Int) (0 : Int) (0 : Int) (0 : Int)]).fst.getD (1 : Nat) eT.dflt].any fun x => tleq_F x (T.mk (1 : Int) (1 : Int) (1 : Int) (0 : Int) (0 : Int) (0 : Int))))
def lv_side (_u : Unit) : Prop :=
  (3 : Nat) ≤ KS ∧ (((ofC [T.mk (2 : Int) (1 : Int) (2 : Int) (0 : Int) (0 : Int) (0 : Int), T.mk (1 : Int) (1 : Int) (2 : Int) (0 : Int) (0 : Int) (0 : Int), T.mk (2 : Int) (1 : Int) (1 : Int) (0 : Int) (0 : Int) (0 : Int)]).snd == (0 : Int)) = true → ∀ (e : Nat), e < (2 : Nat) → eT.Ok (eT.els (ofC [T.mk (2 : Int) (1 : Int) (2 : Int) (0 : Int) (0 : Int) (0 : Int), T.mk (1 : Int) (1 : Int) (2 : Int) (0 : Int) (0 : Int) (0 : Int), T.mk (2 : Int) (1 : Int) (1 : Int) (0 : Int) (0 : Int) (0 : Int)]).fst e)) ∧ (((ofC [T.mk (2 : Int) (1 : Int) (2 : Int) (0 : Int) (0 : Int) (0 : Int), T.mk (1 : Int) (1 : Int) (2 : Int) (0 : Int) (0 : Int) (0 : Int), T.mk (2 : Int) (1 : Int) (1 : Int) (0 : Int) (0 : Int) (0 : Int)]).snd == (0 : Int)) = true → (2 : Nat) ≤ KS) ∧ (((ofC [T.mk (2 : Int) (1 : Int) (2 : Int) (0 : Int) (0 : Int) (0 : Int), T.mk (1 : Int) (1 : Int) (2 : Int) (0 : Int) (0 : Int) (0 : Int), T.mk (2 : Int) (1 : Int) (1 : Int) (0 : Int) (0 : Int) (0 : Int)]).snd == (0 : Int)) = true → decide (txC [(ofC [T.mk (2 : Int) (1 : Int) (2 : Int) (0 : Int) (0 : Int) (0 : Int), T.mk (1 : Int) (1 : Int) (2 : Int) (0 : Int) (0 : Int) (0 : Int), T.mk (2 : Int) (1 : Int) (1 : Int) (0 : Int) (0 : Int) (0 : Int)]).fst.getD (0 : Nat) eT.dflt, (ofC [T.mk (2 : Int) (1 : Int) (2 : Int) (0 : Int) (0 : Int) (0 : Int), T.mk (1 : Int) (1 : Int) (2 : Int) (0 : Int) (0 : Int) (0 : Int), T.mk (2 : Int) (1 : Int) (1 : Int) (0 : Int) (0 : Int) (0 : Int)]).fst.getD (1 : Nat) eT.dflt] = ByteArray.mk #[(123 : UInt8), (49 : UInt8), (46 : UInt8), (50 : UInt8), (44 : UInt8), (50 : UInt8), (46 : UInt8), (49 : UInt8), (125 : UInt8)]) = true → ∀ (e : Nat), e < (2 : Nat) → eT.Ok (eT.els (ofC [T.mk (2 : Int) (1 : Int) (2 : Int) (0 : Int) (0 : Int) (0 : Int), T.mk (1 : Int) (1 : Int) (2 : Int) (0 : Int) (0 : Int) (0 : Int), T.mk (2 : Int) (1 : Int) (1 : Int) (0 : Int) (0 : Int) (0 : Int)]).fst e)) ∧ (((ofC [T.mk (2 : Int) (1 : Int) (2 : Int) (0 : Int) (0 : Int) (0 : Int), T.mk (1 : Int) (1 : Int) (2 : Int) (0 : Int) (0 : Int) (0 : Int), T.mk (2 : Int) (1 : Int) (1 : Int) (0 : Int) (0 : Int) (0 : Int)]).snd == (0 : Int)) = true → decide (txC [(ofC [T.mk (2 : Int) (1 : Int) (2 : Int) (0 : Int) (0 : Int) (0 : Int), T.mk (1 : Int) (1 : Int) (2 : Int) (0 : Int) (0 : Int) (0 : Int), T.mk (2 : Int) (1 : Int) (1 : Int) (0 : Int) (0 : Int) (0 : Int)]).fst.getD (0 : Nat) eT.dflt, (ofC [T.mk (2 : Int) (1 : Int) (2 : Int) (0 : Int) (0 : Int) (0 : Int), T.mk (1 : Int) (1 : Int) (2 : Int) (0 : Int) (0 : Int) (0 : Int), T.mk (2 : Int) (1 : Int) (1 : Int) (0 : Int) (0 : Int) (0 : Int)]).fst.getD (1 : Nat) eT.dflt] = ByteArray.mk #[(123 : UInt8), (49 : UInt8), (46 : UInt8), (50 : UInt8), (44 : UInt8), (50 : UInt8), (46 : UInt8), (49 : UInt8), (125 : UInt8)]) = true → ([(ofC [T.mk (2 : Int) (1 : Int) (2 : Int) (0 : Int) (0 : Int) (0 : Int), T.mk (1 : Int) (1 : Int) (2 : Int) (0 : Int) (0 : Int) (0 : Int), T.mk (2 : Int) (1 : Int) (1 : Int) (0 : Int) (0 : Int) (0 : Int)]).fst.getD (0 : Nat) eT.dflt, (ofC [T.mk (2 : Int) (1 : Int) (2 : Int) (0 : Int) (0 : Int) (0 : Int), T.mk (1 : Int) (1 : Int) (2 : Int) (0 : Int) (0 : Int) (0 : Int), T.mk (2 : Int) (1 : Int) (1 : Int) (0 : Int) (0 : Int) (0 : Int)]).fst.getD (1 : Nat) eT.dflt].any fun x => tleq_F x (T.mk (3 : Int) (1 : Int) (1 : Int) (0 : Int) (0 : Int) (0 : Int))) = true → ∀ (e : Nat), e < (2 : Nat) → eT.Ok (eT.els (ofC [T.mk (2 : Int) (1 : Int) (2 : Int) (0 : Int) (0 : Int) (0 : Int), T.mk (1 : Int) (1 : Int) (2 : Int) (0 : Int) (0 : Int) (0 : Int), T.mk (2 : Int) (1 : Int) (1 : Int) (0 : Int) (0 : Int) (0 : Int)]).fst e))
theorem lv_okS (pre : DA.T DA.none → List Prop) (h : ∀ g, DA.bd DA.none g → (∀ p ∈ pre g, p) → lv_side g) : FnPure Try.prog 16 DA.none dBool (fun g => lv_F g) pre := pure_of_sideS (Γ := (MTab.gamz tabBk [] [])) (Λ := noΛ) (MTab.okz tabBk [] []) noΛ_ok 100 default (fun g => lv_side g) (fun g => by kernel_rfl) (fun g => by kernel_rfl) h
noncomputable def tabXD10 : MTab Try.prog := tabBk
end Go.Proofs.Ytiipneclghnfhaa

/- Chapter 3: the self-test holds. -/
namespace Go.Proofs.Ytiipneclghnfhaa
open Go.RowKit Go.Sx Go.Lp
set_option maxRecDepth 100000
theorem lv_of : ofC [T.mk (2 : Int) (1 : Int) (2 : Int) (0 : Int) (0 : Int) (0 : Int), T.mk (1 : Int) (1 : Int) (2 : Int) (0 : Int) (0 : Int) (0 : Int), T.mk (2 : Int) (1 : Int) (1 : Int) (0 : Int) (0 : Int) (0 : Int)] = ([T.mk 1 1 2 0 0 0, T.mk 2 1 1 0 0 0], 0) := by kernel_rfl
theorem lv_tx : txC [T.mk 1 1 2 0 0 0, T.mk 2 1 1 0 0 0] = ByteArray.mk #[(123 : UInt8), (49 : UInt8), (46 : UInt8), (50 : UInt8), (44 : UInt8), (50 : UInt8), (46 : UInt8), (49 : UInt8), (125 : UInt8)] := by kernel_rfl
theorem lv_eq (u : Unit) : lv_F u = true := by
  unfold lv_F
  rw [lv_of]
  simp only [List.getD_cons_zero, List.getD_cons_succ, lv_tx, decide_true]
  kernel_rfl
end Go.Proofs.Ytiipneclghnfhaa

/- Chapter 3: the self-test: its contract. -/
namespace Go.Proofs.Ytiipneclghnfhaa
open Go.RowKit Go.Sx Go.Lp
theorem lv_si (u : Unit) : lv_side u := by
  have h1 := okT [T.mk 1 1 2 0 0 0, T.mk 2 1 1 0 0 0]
  unfold lv_side
  rw [lv_of]
  unfold KS
  repeat' (first | exact h1 | apply And.intro | intro _)
  all_goals (first | exact h1 | omega | trivial)
theorem lv_ok : FnPure Try.prog 16 .none dBool (fun _ => true) (fun _ => []) :=
  pure_congr (lv_okS _ fun g _ _ => lv_si g) fun g _ _ => lv_eq g
noncomputable def tabC : MTab Try.prog := tabB.cons 16 (pconP .none dBool (fun _ => true) (fun _ => [])) (conP_ok lv_ok puB)
end Go.Proofs.Ytiipneclghnfhaa
