/- Chapter 3: chain.Insert. Printed by treegen.py. -/
import Derived.Test.YtiipneclghnfhaaZG12f4aa16
import Derived.Test.YtiipneclghnfhaaZG0692ae73
import Derived.ProofKit
import Derived.OpenShut
import Derived.ShutString
import Derived.ChangeOld
import Derived.Below
import Derived.Deep.Slices
import Derived.Test.YtiipneclghnfhaaZG078a2f4a
import Derived.Test.YtiipneclghnfhaaZG10b5e5a6
set_option linter.unusedVariables false
set_option linter.unusedSimpArgs false
set_option linter.constructorNameAsVariable false
set_option linter.all false

namespace Go.Proofs.Ytiipneclghnfhaa
open Go.RowKit Go.Sx
set_option maxRecDepth 100000
set_option linter.unusedVariables false
noncomputable def tabIn : MTab Try.prog := tabC.consM 69 (bconRow 30 eT aL (fun xs => xs) (fun xs => [xs.length ≤ KS])) clone_ok
noncomputable def cins_F (xs : List T) (t : T) : Dv.T dLBE :=
  bif chkC (eT.lst xs.length (eT.els xs)) != (0 : Int) then ([], false, chkC (eT.lst xs.length (eT.els xs)))
  else bif tcheck_F t != (0 : Int) then ([], false, tcheck_F t) else bif decide ((↑xs.length : Int) > (0 : Int)) && (xs.getD (0 : Nat) eT.dflt).d != t.d then ([], false, (11 : Int)) else bif (ofC (eT.lst (min ((eT.lst xs.length (eT.els xs)).length + (1 : Nat)) (eT.lst xs.length (eT.els xs)).length) (eT.els (eT.lst xs.length (eT.els xs))) ++ List.map (fun x => t) (List.range ((eT.lst xs.length (eT.els xs)).length + (1 : Nat) - (eT.lst xs.length (eT.els xs)).length)))).snd != (0 : Int) then ([], false, (ofC (eT.lst (min ((eT.lst xs.length (eT.els xs)).length + (1 : Nat)) (eT.lst xs.length (eT.els xs)).length) (eT.els (eT.lst xs.length (eT.els xs))) ++ List.map (fun x => t) (List.range ((eT.lst xs.length (eT.els xs)).length + (1 : Nat) - (eT.lst xs.length (eT.els xs)).length)))).snd) else (eT.lst (ofC (eT.lst (min ((eT.lst xs.length (eT.els xs)).length + (1 : Nat)) (eT.lst xs.length (eT.els xs)).length) (eT.els (eT.lst xs.length (eT.els xs))) ++ List.map (fun x => t) (List.range ((eT.lst xs.length (eT.els xs)).length + (1 : Nat) - (eT.lst xs.length (eT.els xs)).length)))).fst.length (eT.els (ofC (eT.lst (min ((eT.lst xs.length (eT.els xs)).length + (1 : Nat)) (eT.lst xs.length (eT.els xs)).length) (eT.els (eT.lst xs.length (eT.els xs))) ++ List.map (fun x => t) (List.range ((eT.lst xs.length (eT.els xs)).length + (1 : Nat) - (eT.lst xs.length (eT.els xs)).length)))).fst), !decide (eT.lst (ofC (eT.lst (min ((eT.lst xs.length (eT.els xs)).length + (1 : Nat)) (eT.lst xs.length (eT.els xs)).length) (eT.els (eT.lst xs.length (eT.els xs))) ++ List.map (fun x => t) (List.range ((eT.lst xs.length (eT.els xs)).length + (1 : Nat) - (eT.lst xs.length (eT.els xs)).length)))).fst.length (eT.els (ofC (eT.lst (min ((eT.lst xs.length (eT.els xs)).length + (1 : Nat)) (eT.lst xs.length (eT.els xs)).length) (eT.els (eT.lst xs.length (eT.els xs))) ++ List.map (fun x => t) (List.range ((eT.lst xs.length (eT.els xs)).length + (1 : Nat) - (eT.lst xs.length (eT.els xs)).length)))).fst) = eT.lst xs.length (eT.els xs)), (0 : Int))
def cins_side (xs : List T) (t : T) : Prop :=
  (∀ (e : Nat), e < xs.length → eT.Ok (eT.els xs e)) ∧ ((chkC (eT.lst xs.length (eT.els xs)) != (0 : Int)) = false → (tcheck_F t != (0 : Int)) = false → (decide ((↑xs.length : Int) > (0 : Int)) = true → (0 : Int) ≤ (0 : Int) ∧ (0 : Int) < (↑xs.length : Int)) ∧ ((decide ((↑xs.length : Int) > (0 : Int)) && (xs.getD (0 : Nat) eT.dflt).d != t.d) = false → ∀ (cs : List Nat), (cs.isEmpty = true → (∀ (e : Nat), e < xs.length → eT.Ok (eT.els xs e)) ∧ (eT.lst xs.length (eT.els xs)).length ≤ KS ∧ ((eT.lst xs.length (eT.els xs)).length ≤ (eT.lst xs.length (eT.els xs)).length ∧ True ∧ (eT.lst xs.length (eT.els xs)).length + (1 : Nat) ≤ maxLen ∧ ((eT.lst xs.length (eT.els xs)).length + (1 : Nat)) * Try.prog.types[(30 : Nat)].bytes ≤ (140737488355328 : Nat)) ∧ (eT.lst xs.length (eT.els xs)).length + (1 : Nat) ≤ (eT.lst xs.length (eT.els xs)).length + (1 : Nat) ∧ (∀ (e : Nat), e < min ((eT.lst xs.length (eT.els xs)).length + (1 : Nat)) (eT.lst xs.length (eT.els xs)).length → True) ∧ (∀ (e : Nat), e < (eT.lst xs.length (eT.els xs)).length + (1 : Nat) - (eT.lst xs.length (eT.els xs)).length → True) ∧ (eT.lst (min ((eT.lst xs.length (eT.els xs)).length + (1 : Nat)) (eT.lst xs.length (eT.els xs)).length) (eT.els (eT.lst xs.length (eT.els xs))) ++ List.map (fun x => t) (List.range ((eT.lst xs.length (eT.els xs)).length + (1 : Nat) - (eT.lst xs.length (eT.els xs)).length))).length ≤ KS ∧ (((ofC (eT.lst (min ((eT.lst xs.length (eT.els xs)).length + (1 : Nat)) (eT.lst xs.length (eT.els xs)).length) (eT.els (eT.lst xs.length (eT.els xs))) ++ List.map (fun x => t) (List.range ((eT.lst xs.length (eT.els xs)).length + (1 : Nat) - (eT.lst xs.length (eT.els xs)).length)))).snd != (0 : Int)) = true → ∀ (d : List T × Bool × Int), ([], false, (ofC (eT.lst (min ((eT.lst xs.length (eT.els xs)).length + (1 : Nat)) (eT.lst xs.length (eT.els xs)).length) (eT.els (eT.lst xs.length (eT.els xs))) ++ List.map (fun x => t) (List.range ((eT.lst xs.length (eT.els xs)).length + (1 : Nat) - (eT.lst xs.length (eT.els xs)).length)))).snd) = bif (ofC (eT.lst (min ((eT.lst xs.length (eT.els xs)).length + (1 : Nat)) (eT.lst xs.length (eT.els xs)).length) (eT.els (eT.lst xs.length (eT.els xs))) ++ List.map (fun x => t) (List.range ((eT.lst xs.length (eT.els xs)).length + (1 : Nat) - (eT.lst xs.length (eT.els xs)).length)))).snd != (0 : Int) then ([], false, (ofC (eT.lst (min ((eT.lst xs.length (eT.els xs)).length + (1 : Nat)) (eT.lst xs.length (eT.els xs)).length) (eT.els (eT.lst xs.length (eT.els xs))) ++ List.map (fun x => t) (List.range ((eT.lst xs.length (eT.els xs)).length + (1 : Nat) - (eT.lst xs.length (eT.els xs)).length)))).snd) else (eT.lst (ofC (eT.lst (min ((eT.lst xs.length (eT.els xs)).length + (1 : Nat)) (eT.lst xs.length (eT.els xs)).length) (eT.els (eT.lst xs.length (eT.els xs))) ++ List.map (fun x => t) (List.range ((eT.lst xs.length (eT.els xs)).length + (1 : Nat) - (eT.lst xs.length (eT.els xs)).length)))).fst.length (eT.els (ofC (eT.lst (min ((eT.lst xs.length (eT.els xs)).length + (1 : Nat)) (eT.lst xs.length (eT.els xs)).length) (eT.els (eT.lst xs.length (eT.els xs))) ++ List.map (fun x => t) (List.range ((eT.lst xs.length (eT.els xs)).length + (1 : Nat) - (eT.lst xs.length (eT.els xs)).length)))).fst), !decide (eT.lst (ofC (eT.lst (min ((eT.lst xs.length (eT.els xs)).length + (1 : Nat)) (eT.lst xs.length (eT.els xs)).length) (eT.els (eT.lst xs.length (eT.els xs))) ++ List.map (fun x => t) (List.range ((eT.lst xs.length (eT.els xs)).length + (1 : Nat) - (eT.lst xs.length (eT.els xs)).length)))).fst.length (eT.els (ofC (eT.lst (min ((eT.lst xs.length (eT.els xs)).length + (1 : Nat)) (eT.lst xs.length (eT.els xs)).length) (eT.els (eT.lst xs.length (eT.els xs))) ++ List.map (fun x => t) (List.range ((eT.lst xs.length (eT.els xs)).length + (1 : Nat) - (eT.lst xs.length (eT.els xs)).length)))).fst) = eT.lst xs.length (eT.els xs)), (0 : Int))) ∧ (((ofC (eT.lst (min ((eT.lst xs.length (eT.els xs)).length + (1 : Nat)) (eT.lst xs.length (eT.els xs)).length) (eT.els (eT.lst xs.length (eT.els xs))) ++ List.map (fun x => t) (List.range ((eT.lst xs.length (eT.els xs)).length + (1 : Nat) - (eT.lst xs.length (eT.els xs)).length)))).snd != (0 : Int)) = false → (∀ (e : Nat), e < (ofC (eT.lst (min ((eT.lst xs.length (eT.els xs)).length + (1 : Nat)) (eT.lst xs.length (eT.els xs)).length) (eT.els (eT.lst xs.length (eT.els xs))) ++ List.map (fun x => t) (List.range ((eT.lst xs.length (eT.els xs)).length + (1 : Nat) - (eT.lst xs.length (eT.els xs)).length)))).fst.length → eT.Ok (eT.els (ofC (eT.lst (min ((eT.lst xs.length (eT.els xs)).length + (1 : Nat)) (eT.lst xs.length (eT.els xs)).length) (eT.els (eT.lst xs.length (eT.els xs))) ++ List.map (fun x => t) (List.range ((eT.lst xs.length (eT.els xs)).length + (1 : Nat) - (eT.lst xs.length (eT.els xs)).length)))).fst e)) ∧ (∀ (e : Nat), e < xs.length → eT.Ok (eT.els xs e)) ∧ (∀ (e : Nat), e < (ofC (eT.lst (min ((eT.lst xs.length (eT.els xs)).length + (1 : Nat)) (eT.lst xs.length (eT.els xs)).length) (eT.els (eT.lst xs.length (eT.els xs))) ++ List.map (fun x => t) (List.range ((eT.lst xs.length (eT.els xs)).length + (1 : Nat) - (eT.lst xs.length (eT.els xs)).length)))).fst.length → eT.Ok (eT.els (ofC (eT.lst (min ((eT.lst xs.length (eT.els xs)).length + (1 : Nat)) (eT.lst xs.length (eT.els xs)).length) (eT.els (eT.lst xs.length (eT.els xs))) ++ List.map (fun x => t) (List.range ((eT.lst xs.length (eT.els xs)).length + (1 : Nat) - (eT.lst xs.length (eT.els xs)).length)))).fst e)) ∧ ∀ (d : List T × Bool × Int), (eT.lst (ofC (eT.lst (min ((eT.lst xs.length (eT.els xs)).length + (1 : Nat)) (eT.lst xs.length (eT.els xs)).length) (eT.els (eT.lst xs.length (eT.els xs))) ++ List.map (fun x => t) (List.range ((eT.lst xs.length (eT.els xs)).length + (1 : Nat) - (eT.lst xs.length (eT.els xs)).length)))).fst.length (eT.els (ofC (eT.lst (min ((eT.lst xs.length (eT.els xs)).length + (1 : Nat)) (eT.lst xs.length (eT.els xs)).length) (eT.els (eT.lst xs.length (eT.els xs))) ++ List.map (fun x => t) (List.range ((eT.lst xs.length (eT.els xs)).length + (1 : Nat) - (eT.lst xs.length (eT.els xs)).length)))).fst), !decide (eT.lst (ofC (eT.lst (min ((eT.lst xs.length (eT.els xs)).length + (1 : Nat)) (eT.lst xs.length (eT.els xs)).length) (eT.els (eT.lst xs.length (eT.els xs))) ++ List.map (fun x => t) (List.range ((eT.lst xs.length (eT.els xs)).length + (1 : Nat) - (eT.lst xs.length (eT.els xs)).length)))).fst.length (eT.els (ofC (eT.lst (min ((eT.lst xs.length (eT.els xs)).length + (1 : Nat)) (eT.lst xs.length (eT.els xs)).length) (eT.els (eT.lst xs.length (eT.els xs))) ++ List.map (fun x => t) (List.range ((eT.lst xs.length (eT.els xs)).length + (1 : Nat) - (eT.lst xs.length (eT.els xs)).length)))).fst) = eT.lst xs.length (eT.els xs)), (0 : Int)) = bif (ofC (eT.lst (min ((eT.lst xs.length (eT.els xs)).length + (1 : Nat)) (eT.lst xs.length (eT.els xs)).length) (eT.els (eT.lst xs.length (eT.els xs))) ++ List.map (fun x => t) (List.range ((eT.lst xs.length (eT.els xs)).length + (1 : Nat) - (eT.lst xs.length (eT.els xs)).length)))).snd != (0 : Int) then ([], false, (ofC (eT.lst (min ((eT.lst xs.length (eT.els xs)).length + (1 : Nat)) (eT.lst xs.length (eT.els xs)).length) (eT.els (eT.lst xs.length (eT.els xs))) ++ List.map (fun x => t) (List.range ((eT.lst xs.length (eT.els xs)).length + (1 : Nat) - (eT.lst xs.length (eT.els xs)).length)))).snd) else (eT.lst (ofC (eT.lst (min ((eT.lst xs.length (eT.els xs)).length + (1 : Nat)) (eT.lst xs.length (eT.els xs)).length) (eT.els (eT.lst xs.length (eT.els xs))) ++ List.map (fun x => t) (List.range ((eT.lst xs.length (eT.els xs)).length + (1 : Nat) - (eT.lst xs.length (eT.els xs)).length)))).fst.length (eT.els (ofC (eT.lst (min ((eT.lst xs.length (eT.els xs)).length + (1 : Nat)) (eT.lst xs.length (eT.els xs)).length) (eT.els (eT.lst xs.length (eT.els xs))) ++ List.map (fun x => t) (List.range ((eT.lst xs.length (eT.els xs)).length + (1 : Nat) - (eT.lst xs.length (eT.els xs)).length)))).fst), !decide (eT.lst (ofC (eT.lst (min ((eT.lst xs.length (eT.els xs)).length + (1 : Nat)) (eT.lst xs.length (eT.els xs)).length) (eT.els (eT.lst xs.length (eT.els xs))) ++ List.map (fun x => t) (List.range ((eT.lst xs.length (eT.els xs)).length + (1 : Nat) - (eT.lst xs.length (eT.els xs)).length)))).fst.length (eT.els (ofC (eT.lst (min ((eT.lst xs.length (eT.els xs)).length + (1 : Nat)) (eT.lst xs.length (eT.els xs)).length) (eT.els (eT.lst xs.length (eT.els xs))) ++ List.map (fun x => t) (List.range ((eT.lst xs.length (eT.els xs)).length + (1 : Nat) - (eT.lst xs.length (eT.els xs)).length)))).fst) = eT.lst xs.length (eT.els xs)), (0 : Int)))) ∧ (cs.isEmpty = false → ∀ (cs : List Nat), (cs.isEmpty = true → (∀ (e : Nat), e < xs.length → eT.Ok (eT.els xs e)) ∧ (eT.lst xs.length (eT.els xs)).length ≤ KS ∧ ((eT.lst xs.length (eT.els xs)).length ≤ (eT.lst xs.length (eT.els xs)).length ∧ True ∧ (eT.lst xs.length (eT.els xs)).length + (1 : Nat) ≤ maxLen ∧ ((eT.lst xs.length (eT.els xs)).length + (1 : Nat)) * Try.prog.types[(30 : Nat)].bytes ≤ (140737488355328 : Nat)) ∧ (eT.lst xs.length (eT.els xs)).length + (1 : Nat) ≤ (eT.lst xs.length (eT.els xs)).length + (1 : Nat) ∧ (∀ (e : Nat), e < min ((eT.lst xs.length (eT.els xs)).length + (1 : Nat)) (eT.lst xs.length (eT.els xs)).length → True) ∧ (∀ (e : Nat), e < (eT.lst xs.length (eT.els xs)).length + (1 : Nat) - (eT.lst xs.length (eT.els xs)).length → True) ∧ (eT.lst (min ((eT.lst xs.length (eT.els xs)).length + (1 : Nat)) (eT.lst xs.length (eT.els xs)).length) (eT.els (eT.lst xs.length (eT.els xs))) ++ List.map (fun x => t) (List.range ((eT.lst xs.length (eT.els xs)).length + (1 : Nat) - (eT.lst xs.length (eT.els xs)).length))).length ≤ KS ∧ (((ofC (eT.lst (min ((eT.lst xs.length (eT.els xs)).length + (1 : Nat)) (eT.lst xs.length (eT.els xs)).length) (eT.els (eT.lst xs.length (eT.els xs))) ++ List.map (fun x => t) (List.range ((eT.lst xs.length (eT.els xs)).length + (1 : Nat) - (eT.lst xs.length (eT.els xs)).length)))).snd != (0 : Int)) = true → ∀ (d : List T × Bool × Int), ([], false, (ofC (eT.lst (min ((eT.lst xs.length (eT.els xs)).length + (1 : Nat)) (eT.lst xs.length (eT.els xs)).length) (eT.els (eT.lst xs.length (eT.els xs))) ++ List.map (fun x => t) (List.range ((eT.lst xs.length (eT.els xs)).length + (1 : Nat) - (eT.lst xs.length (eT.els xs)).length)))).snd) = bif (ofC (eT.lst (min ((eT.lst xs.length (eT.els xs)).length + (1 : Nat)) (eT.lst xs.length (eT.els xs)).length) (eT.els (eT.lst xs.length (eT.els xs))) ++ List.map (fun x => t) (List.range ((eT.lst xs.length (eT.els xs)).length + (1 : Nat) - (eT.lst xs.length (eT.els xs)).length)))).snd != (0 : Int) then ([], false, (ofC (eT.lst (min ((eT.lst xs.length (eT.els xs)).length + (1 : Nat)) (eT.lst xs.length (eT.els xs)).length) (eT.els (eT.lst xs.length (eT.els xs))) ++ List.map (fun x => t) (List.range ((eT.lst xs.length (eT.els xs)).length + (1 : Nat) - (eT.lst xs.length (eT.els xs)).length)))).snd) else (eT.lst (ofC (eT.lst (min ((eT.lst xs.length (eT.els xs)).length + (1 : Nat)) (eT.lst xs.length (eT.els xs)).length) (eT.els (eT.lst xs.length (eT.els xs))) ++ List.map (fun x => t) (List.range ((eT.lst xs.length (eT.els xs)).length + (1 : Nat) - (eT.lst xs.length (eT.els xs)).length)))).fst.length (eT.els (ofC (eT.lst (min ((eT.lst xs.length (eT.els xs)).length + (1 : Nat)) (eT.lst xs.length (eT.els xs)).length) (eT.els (eT.lst xs.length (eT.els xs))) ++ List.map (fun x => t) (List.range ((eT.lst xs.length (eT.els xs)).length + (1 : Nat) - (eT.lst xs.length (eT.els xs)).length)))).fst), !decide (eT.lst (ofC (eT.lst (min ((eT.lst xs.length (eT.els xs)).length + (1 : Nat)) (eT.lst xs.length (eT.els xs)).length) (eT.els (eT.lst xs.length (eT.els xs))) ++ List.map (fun x => t) (List.range ((eT.lst xs.length (eT.els xs)).length + (1 : Nat) - (eT.lst xs.length (eT.els xs)).length)))).fst.length (eT.els (ofC (eT.lst (min ((eT.lst xs.length (eT.els xs)).length + (1 : Nat)) (eT.lst xs.length (eT.els xs)).length) (eT.els (eT.lst xs.length (eT.els xs))) ++ List.map (fun x => t) (List.range ((eT.lst xs.length (eT.els xs)).length + (1 : Nat) - (eT.lst xs.length (eT.els xs)).length)))).fst) = eT.lst xs.length (eT.els xs)), (0 : Int))) ∧ (((ofC (eT.lst (min ((eT.lst xs.length (eT.els xs)).length + (1 : Nat)) (eT.lst xs.length (eT.els xs)).length) (eT.els (eT.lst xs.length (eT.els xs))) ++ List.map (fun x => t) (List.range ((eT.lst xs.length (eT.els xs)).length + (1 : Nat) - (eT.lst xs.length (eT.els xs)).length)))).snd != (0 : Int)) = false → (∀ (e : Nat), e < (ofC (eT.lst (min ((eT.lst xs.length (eT.els xs)).length + (1 : Nat)) (eT.lst xs.length (eT.els xs)).length) (eT.els (eT.lst xs.length (eT.els xs))) ++ List.map (fun x => t) (List.range ((eT.lst xs.length (eT.els xs)).length + (1 : Nat) - (eT.lst xs.length (eT.els xs)).length)))).fst.length → eT.Ok (eT.els (ofC (eT.lst (min ((eT.lst xs.length (eT.els xs)).length + (1 : Nat)) (eT.lst xs.length (eT.els xs)).length) (eT.els (eT.lst xs.length (eT.els xs))) ++ List.map (fun x => t) (List.range ((eT.lst xs.length (eT.els xs)).length + (1 : Nat) - (eT.lst xs.length (eT.els xs)).length)))).fst e)) ∧ (∀ (e : Nat), e < xs.length → eT.Ok (eT.els xs e)) ∧ (∀ (e : Nat), e < (ofC (eT.lst (min ((eT.lst xs.length (eT.els xs)).length + (1 : Nat)) (eT.lst xs.length (eT.els xs)).length) (eT.els (eT.lst xs.length (eT.els xs))) ++ List.map (fun x => t) (List.range ((eT.lst xs.length (eT.els xs)).length + (1 : Nat) - (eT.lst xs.length (eT.els xs)).length)))).fst.length → eT.Ok (eT.els (ofC (eT.lst (min ((eT.lst xs.length (eT.els xs)).length + (1 : Nat)) (eT.lst xs.length (eT.els xs)).length) (eT.els (eT.lst xs.length (eT.els xs))) ++ List.map (fun x => t) (List.range ((eT.lst xs.length (eT.els xs)).length + (1 : Nat) - (eT.lst xs.length (eT.els xs)).length)))).fst e)) ∧ ∀ (d : List T × Bool × Int), (eT.lst (ofC (eT.lst (min ((eT.lst xs.length (eT.els xs)).length + (1 : Nat)) (eT.lst xs.length (eT.els xs)).length) (eT.els (eT.lst xs.length (eT.els xs))) ++ List.map (fun x => t) (List.range ((eT.lst xs.length (eT.els xs)).length + (1 : Nat) - (eT.lst xs.length (eT.els xs)).length)))).fst.length (eT.els (ofC (eT.lst (min ((eT.lst xs.length (eT.els xs)).length + (1 : Nat)) (eT.lst xs.length (eT.els xs)).length) (eT.els (eT.lst xs.length (eT.els xs))) ++ List.map (fun x => t) (List.range ((eT.lst xs.length (eT.els xs)).length + (1 : Nat) - (eT.lst xs.length (eT.els xs)).length)))).fst), !decide (eT.lst (ofC (eT.lst (min ((eT.lst xs.length (eT.els xs)).length + (1 : Nat)) (eT.lst xs.length (eT.els xs)).length) (eT.els (eT.lst xs.length (eT.els xs))) ++ List.map (fun x => t) (List.range ((eT.lst xs.length (eT.els xs)).length + (1 : Nat) - (eT.lst xs.length (eT.els xs)).length)))).fst.length (eT.els (ofC (eT.lst (min ((eT.lst xs.length (eT.els xs)).length + (1 : Nat)) (eT.lst xs.length (eT.els xs)).length) (eT.els (eT.lst xs.length (eT.els xs))) ++ List.map (fun x => t) (List.range ((eT.lst xs.length (eT.els xs)).length + (1 : Nat) - (eT.lst xs.length (eT.els xs)).length)))).fst) = eT.lst xs.length (eT.els xs)), (0 : Int)) = bif (ofC (eT.lst (min ((eT.lst xs.length (eT.els xs)).length + (1 : Nat)) (eT.lst xs.length (eT.els xs)).length) (eT.els (eT.lst xs.length (eT.els xs))) ++ List.map (fun x => t) (List.range ((eT.lst xs.length (eT.els xs)).length + (1 : Nat) - (eT.lst xs.length (eT.els xs)).length)))).snd != (0 : Int) then ([], false, (ofC (eT.lst (min ((eT.lst xs.length (eT.els xs)).length + (1 : Nat)) (eT.lst xs.length (eT.els xs)).length) (eT.els (eT.lst xs.length (eT.els xs))) ++ List.map (fun x => t) (List.range ((eT.lst xs.length (eT.els xs)).length + (1 : Nat) - (eT.lst xs.length (eT.els xs)).length)))).snd) else (eT.lst (ofC (eT.lst (min ((eT.lst xs.length (eT.els xs)).length + (1 : Nat)) (eT.lst xs.length (eT.els xs)).length) (eT.els (eT.lst xs.length (eT.els xs))) ++ List.map (fun x => t) (List.range ((eT.lst xs.length (eT.els xs)).length + (1 : Nat) - (eT.lst xs.length (eT.els xs)).length)))).fst.length (eT.els (ofC (eT.lst (min ((eT.lst xs.length (eT.els xs)).length + (1 : Nat)) (eT.lst xs.length (eT.els xs)).length) (eT.els (eT.lst xs.length (eT.els xs))) ++ List.map (fun x => t) (List.range ((eT.lst xs.length (eT.els xs)).length + (1 : Nat) - (eT.lst xs.length (eT.els xs)).length)))).fst), !decide (eT.lst (ofC (eT.lst (min ((eT.lst xs.length (eT.els xs)).length + (1 : Nat)) (eT.lst xs.length (eT.els xs)).length) (eT.els (eT.lst xs.length (eT.els xs))) ++ List.map (fun x => t) (List.range ((eT.lst xs.length (eT.els xs)).length + (1 : Nat) - (eT.lst xs.length (eT.els xs)).length)))).fst.length (eT.els (ofC (eT.lst (min ((eT.lst xs.length (eT.els xs)).length + (1 : Nat)) (eT.lst xs.length (eT.els xs)).length) (eT.els (eT.lst xs.length (eT.els xs))) ++ List.map (fun x => t) (List.range ((eT.lst xs.length (eT.els xs)).length + (1 : Nat) - (eT.lst xs.length (eT.els xs)).length)))).fst) = eT.lst xs.length (eT.els xs)), (0 : Int)))) ∧ (cs.isEmpty = false → (∀ (e : Nat), e < xs.length → eT.Ok (eT.els xs e)) ∧ (eT.lst xs.length (eT.els xs)).length ≤ KS ∧ ((eT.lst xs.length (eT.els xs)).length ≤ (eT.lst xs.length (eT.els xs)).length ∧ True ∧ (eT.lst xs.length (eT.els xs)).length + (1 : Nat) ≤ maxLen ∧ ((eT.lst xs.length (eT.els xs)).length + (1 : Nat)) * Try.prog.types[(30 : Nat)].bytes ≤ (140737488355328 : Nat)) ∧ (eT.lst xs.length (eT.els xs)).length + (1 : Nat) ≤ (eT.lst xs.length (eT.els xs)).length + (1 : Nat) ∧ (∀ (e : Nat), e < min ((eT.lst xs.length (eT.els xs)).length + (1 : Nat)) (eT.lst xs.length (eT.els xs)).length → True) ∧ (∀ (e : Nat), e < (eT.lst xs.length (eT.els xs)).length + (1 : Nat) - (eT.lst xs.length (eT.els xs)).length → True) ∧ (eT.lst (min ((eT.lst xs.length (eT.els xs)).length + (1 : Nat)) (eT.lst xs.length (eT.els xs)).length) (eT.els (eT.lst xs.length (eT.els xs))) ++ List.map (fun x => t) (List.range ((eT.lst xs.length (eT.els xs)).length + (1 : Nat) - (eT.lst xs.length (eT.els xs)).length))).length ≤ KS ∧ (((ofC (eT.lst (min ((eT.lst xs.length (eT.els xs)).length + (1 : Nat)) (eT.lst xs.length (eT.els xs)).length) (eT.els (eT.lst xs.length (eT.els xs))) ++ List.map (fun x => t) (List.range ((eT.lst xs.length (eT.els xs)).length + (1 : Nat) - (eT.lst xs.length (eT.els xs)).length)))).snd != (0 : Int)) = true → ∀ (d : List T × Bool × Int), ([], false, (ofC (eT.lst (min ((eT.lst xs.length (eT.els xs)).length + (1 : Nat)) (eT.lst xs.length (eT.els xs)).length) (eT.els (eT.lst xs.length (eT.els xs))) ++ List.map (fun x => t) (List.range ((eT.lst xs.length (eT.els xs)).length + (1 : Nat) - (eT.lst xs.length (eT.els xs)).length)))).snd) = bif (ofC (eT.lst (min ((eT.lst xs.length (eT.els xs)).length + (1 : Nat)) (eT.lst xs.length (eT.els xs)).length) (eT.els (eT.lst xs.length (eT.els xs))) ++ List.map (fun x => t) (List.range ((eT.lst xs.length (eT.els xs)).length + (1 : Nat) - (eT.lst xs.length (eT.els xs)).length)))).snd != (0 : Int) then ([], false, (ofC (eT.lst (min ((eT.lst xs.length (eT.els xs)).length + (1 : Nat)) (eT.lst xs.length (eT.els xs)).length) (eT.els (eT.lst xs.length (eT.els xs))) ++ List.map (fun x => t) (List.range ((eT.lst xs.length (eT.els xs)).length + (1 : Nat) - (eT.lst xs.length (eT.els xs)).length)))).snd) else (eT.lst (ofC (eT.lst (min ((eT.lst xs.length (eT.els xs)).length + (1 : Nat)) (eT.lst xs.length (eT.els xs)).length) (eT.els (eT.lst xs.length (eT.els xs))) ++ List.map (fun x => t) (List.range ((eT.lst xs.length (eT.els xs)).length + (1 : Nat) - (eT.lst xs.length (eT.els xs)).length)))).fst.length (eT.els (ofC (eT.lst (min ((eT.lst xs.length (eT.els xs)).length + (1 : Nat)) (eT.lst xs.length (eT.els xs)).length) (eT.els (eT.lst xs.length (eT.els xs))) ++ List.map (fun x => t) (List.range ((eT.lst xs.length (eT.els xs)).length + (1 : Nat) - (eT.lst xs.length (eT.els xs)).length)))).fst), !decide (eT.lst (ofC (eT.lst (min ((eT.lst xs.length (eT.els xs)).length + (1 : Nat)) (eT.lst xs.length (eT.els xs)).length) (eT.els (eT.lst xs.length (eT.els xs))) ++ List.map (fun x => t) (List.range ((eT.lst xs.length (eT.els xs)).length + (1 : Nat) - (eT.lst xs.length (eT.els xs)).length)))).fst.length (eT.els (ofC (eT.lst (min ((eT.lst xs.length (eT.els xs)).length + (1 : Nat)) (eT.lst xs.length (eT.els xs)).length) (eT.els (eT.lst xs.length (eT.els xs))) ++ List.map (fun x => t) (List.range ((eT.lst xs.length (eT.els xs)).length + (1 : Nat) - (eT.lst xs.length (eT.els xs)).length)))).fst) = eT.lst xs.length (eT.els xs)), (0 : Int))) ∧ (((ofC (eT.lst (min ((eT.lst xs.length (eT.els xs)).length + (1 : Nat)) (eT.lst xs.length (eT.els xs)).length) (eT.els (eT.lst xs.length (eT.els xs))) ++ List.map (fun x => t) (List.range ((eT.lst xs.length (eT.els xs)).length + (1 : Nat) - (eT.lst xs.length (eT.els xs)).length)))).snd != (0 : Int)) = false → (∀ (e : Nat), e < (ofC (eT.lst (min ((eT.lst xs.length (eT.els xs)).length + (1 : Nat)) (eT.lst xs.length (eT.els xs)).length) (eT.els (eT.lst xs.length (eT.els xs))) ++ List.map (fun x => t) (List.range ((eT.lst xs.length (eT.els xs)).length + (1 : Nat) - (eT.lst xs.length (eT.els xs)).length)))).fst.length → eT.Ok (eT.els (ofC (eT.lst (min ((eT.lst xs.length (eT.els xs)).length + (1 : Nat)) (eT.lst xs.length (eT.els xs)).length) (eT.els (eT.lst xs.length (eT.els xs))) ++ List.map (fun x => t) (List.range ((eT.lst xs.length (eT.els xs)).length + (1 : Nat) - (eT.lst xs.length (eT.els xs)).length)))).fst e)) ∧ (∀ (e : Nat), e < xs.length → eT.Ok (eT.els xs e)) ∧ (∀ (e : Nat), e < (ofC (eT.lst (min ((eT.lst xs.length (eT.els xs)).length + (1 : Nat)) (eT.lst xs.length (eT.els xs)).length) (eT.els (eT.lst xs.length (eT.els xs))) ++ List.map (fun x => t) (List.range ((eT.lst xs.length (eT.els xs)).length + (1 : Nat) - (eT.lst xs.length (eT.els xs)).length)))).fst.length → eT.Ok (eT.els (ofC (eT.lst (min ((eT.lst xs.length (eT.els xs)).length + (1 : Nat)) (eT.lst xs.length (eT.els xs)).length) (eT.els (eT.lst xs.length (eT.els xs))) ++ List.map (fun x => t) (List.range ((eT.lst xs.length (eT.els xs)).length + (1 : Nat) - (eT.lst xs.length (eT.els xs)).length)))).fst e)) ∧ ∀ (d : List T × Bool × Int), (eT.lst (ofC (eT.lst (min ((eT.lst xs.length (eT.els xs)).length + (1 : Nat)) (eT.lst xs.length (eT.els xs)).length) (eT.els (eT.lst xs.length (eT.els xs))) ++ List.map (fun x => t) (List.range ((eT.lst xs.length (eT.els xs)).length + (1 : Nat) - (eT.lst xs.length (eT.els xs)).length)))).fst.length (eT.els (ofC (eT.lst (min ((eT.lst xs.length (eT.els xs)).length + (1 : Nat)) (eT.lst xs.length (eT.els xs)).length) (eT.els (eT.lst xs.length (eT.els xs))) ++ List.map (fun x => t) (List.range ((eT.lst xs.length (eT.els xs)).length + (1 : Nat) - (eT.lst xs.length (eT.els xs)).length)))).fst), !decide (eT.lst (ofC (eT.lst (min ((eT.lst xs.length (eT.els xs)).length + (1 : Nat)) (eT.lst xs.length (eT.els xs)).length) (eT.els (eT.lst xs.length (eT.els xs))) ++ List.map (fun x => t) (List.range ((eT.lst xs.length (eT.els xs)).length + (1 : Nat) - (eT.lst xs.length (eT.els xs)).length)))).fst.length (eT.els (ofC (eT.lst (min ((eT.lst xs.length (eT.els xs)).length + (1 : Nat)) (eT.lst xs.length (eT.els xs)).length) (eT.els (eT.lst xs.length (eT.els xs))) ++ List.map (fun x => t) (List.range ((eT.lst xs.length (eT.els xs)).length + (1 : Nat) - (eT.lst xs.length (eT.els xs)).length)))).fst) = eT.lst xs.length (eT.els xs)), (0 : Int)) = bif (ofC (eT.lst (min ((eT.lst xs.length (eT.els xs)).length + (1 : Nat)) (eT.lst xs.length (eT.els xs)).length) (eT.els (eT.lst xs.length (eT.els xs))) ++ List.map (fun x => t) (List.range ((eT.lst xs.length (eT.els xs)).length + (1 : Nat) - (eT.lst xs.length (eT.els xs)).length)))).snd != (0 : Int) then ([], false, (ofC (eT.lst (min ((eT.lst xs.length (eT.els xs)).length + (1 : Nat)) (eT.lst xs.length (eT.els xs)).length) (eT.els (eT.lst xs.length (eT.els xs))) ++ List.map (fun x => t) (List.range ((eT.lst xs.length (eT.els xs)).length + (1 : Nat) - (eT.lst xs.length (eT.els xs)).length)))).snd) else (eT.lst (ofC (eT.lst (min ((eT.lst xs.length (eT.els xs)).length + (1 : Nat)) (eT.lst xs.length (eT.els xs)).length) (eT.els (eT.lst xs.length (eT.els xs))) ++ List.map (fun x => t) (List.range ((eT.lst xs.length (eT.els xs)).length + (1 : Nat) - (eT.lst xs.length (eT.els xs)).length)))).fst.length (eT.els (ofC (eT.lst (min ((eT.lst xs.length (eT.els xs)).length + (1 : Nat)) (eT.lst xs.length (eT.els xs)).length) (eT.els (eT.lst xs.length (eT.els xs))) ++ List.map (fun x => t) (List.range ((eT.lst xs.length (eT.els xs)).length + (1 : Nat) - (eT.lst xs.length (eT.els xs)).length)))).fst), !decide (eT.lst (ofC (eT.lst (min ((eT.lst xs.length (eT.els xs)).length + (1 : Nat)) (eT.lst xs.length (eT.els xs)).length) (eT.els (eT.lst xs.length (eT.els xs))) ++ List.map (fun x => t) (List.range ((eT.lst xs.length (eT.els xs)).length + (1 : Nat) - (eT.lst xs.length (eT.els xs)).length)))).fst.length (eT.els (ofC (eT.lst (min ((eT.lst xs.length (eT.els xs)).length + (1 : Nat)) (eT.lst xs.length (eT.els xs)).length) (eT.els (eT.lst xs.length (eT.els xs))) ++ List.map (fun x => t) (List.range ((eT.lst xs.length (eT.els xs)).length + (1 : Nat) - (eT.lst xs.length (eT.els xs)).length)))).fst) = eT.lst xs.length (eT.els xs)), (0 : Int)))))))
theorem cins_okS (pre : DA.T aLT → List Prop) (h : ∀ g, DA.bd aLT g → (∀ p ∈ pre g, p) → cins_side g.1 g.2) : FnPure Try.prog 24 aLT dLBE (fun g => cins_F g.1 g.2) pre := pure_of_sideS (Γ := (MTab.gamz tabIn [] [])) (Λ := noΛ) (MTab.okz tabIn [] []) noΛ_ok 100 default (fun g => cins_side g.1 g.2) (fun g => by kernel_rfl) (fun g => by kernel_rfl) h
noncomputable def tabXL1 : MTab Try.prog := tabIn
end Go.Proofs.Ytiipneclghnfhaa

/- Chapter 3: chain.Insert: its contract. -/
namespace Go.Proofs.Ytiipneclghnfhaa
open Go.RowKit Go.Sx Go.Lp
theorem bad_hd {xs : List T} {t : T} (hc : chkC xs = 0) (h : (decide ((xs.length : Int) > 0) && (xs.getD (0 : Nat) eT.dflt).d != t.d) = true) (ht : t.Ok) : badC (xs ++ [t]) = 11 := by
  rw [Bool.and_eq_true] at h
  cases xs with
  | nil => simp at h
  | cons p r =>
    have hp := (bad_iff _).1 ((chk_iff _).1 hc).2.1
    have hd : p.d ≠ t.d := by simpa using h.2
    have h1 : ((p :: r ++ [t]).any fun v => tcheck_F v != 0) = false := by
      rw [List.any_eq_false]
      intro x hx
      have : x.Ok := by
        rcases List.mem_append.1 hx with h | h
        · exact hp.1 x h
        · rw [List.mem_singleton.1 h]; exact ht
      simpa using (tcheck_iff x).2 this
    have h2 : (p :: r ++ [t]).any (difD (p :: r ++ [t])) = true := by
      rw [List.any_eq_true]
      refine ⟨t, by simp, ?_⟩
      show (t.d != p.d) = true
      simpa using fun e : t.d = p.d => hd e.symm
    unfold badC
    rw [h1, h2]
    rfl
set_option maxHeartbeats 4000000 in
theorem cins_eq (xs : List T) (t : T) : cins_F xs t = insC xs t ∧ cins_side xs t := by
  have ha := okT xs
  have hb := okT (ofC (xs ++ [t])).1
  have hone := fun e => onesT xs e
  unfold cins_F cins_side
  simp only [eT.lst_els, lst_app1, bytesT]
  refine ⟨?_, ?_⟩
  · unfold insC
    cases h1 : (chkC xs != 0) with
    | true => rfl
    | false =>
      cases h2 : (tcheck_F t != 0) with
      | true => rfl
      | false =>
        cases h3 : (decide ((xs.length : Int) > 0) && (xs.getD (0 : Nat) eT.dflt).d != t.d) with
        | false => rfl
        | true =>
          have hbad := bad_hd (bne_eq_false_iff_eq.1 h1) h3 ((tcheck_iff t).1 (bne_eq_false_iff_eq.1 h2))
          have ho : (ofC (xs ++ [t])).2 = 11 := by unfold ofC; rw [hbad]; rfl
          simp only [ho, cond_false, cond_true]
          rfl
  · refine ⟨ha, fun hc _ => ?_⟩
    have hl := chk_len hc
    have hk : (xs ++ [t]).length ≤ KS := by unfold KS; simp; omega
    have hk2 : xs.length ≤ KS := by unfold KS; omega
    unfold maxLen
    repeat' (first | exact ha | exact hb | exact hk | exact hk2 | exact hone _ | exact rfl | apply And.intro | intro _)
    all_goals (first | trivial | omega | (rename_i h0; exact of_decide_eq_true h0) | (rename_i h0 _; rw [h0]; rfl) | (rename_i h0 _; simp only [h0, cond_true, cond_false]))
theorem cins_ok : FnPure Try.prog 24 aLT dLBE (fun g => insC g.1 g.2) (fun _ => []) :=
  pure_congr (cins_okS _ fun g _ _ => (cins_eq g.1 g.2).2) fun g _ _ => (cins_eq g.1 g.2).1
noncomputable def tabIns : MTab Try.prog := tabC.cons 24 (pconR aLT dLBE (fun g => insC g.1 g.2) (fun _ => [])) (conR_ok cins_ok)
end Go.Proofs.Ytiipneclghnfhaa

/- Chapter 3: the law ChainAgain. Printed by treegen.py. -/
namespace Go.Proofs.Ytiipneclghnfhaa
open Go.RowKit Go.Sx
set_option maxRecDepth 100000
set_option linter.unusedVariables false
abbrev aLTT : DA (List T × T × T) := .cons dLT (.cons dT (.one dT))
noncomputable def agn_F (xs : List T) (t : T) (u : T) : Dv.T dBool :=
  bif decide ((↑xs.length : Int) > (40 : Int)) then true
  else bif chkC (eT.lst xs.length (eT.els xs)) != (0 : Int) || (rtcheck_F t != (0 : Int) || rtcheck_F u != (0 : Int)) then true else bif (insC (eT.lst xs.length (eT.els xs)) t).snd.snd != (0 : Int) then true else bif ((insC (eT.lst xs.length (eT.els xs)) t).snd.fst == (eT.lst xs.length (eT.els xs)).any fun x => tleq_F x t) || !(eT.lst (insC (eT.lst xs.length (eT.els xs)) t).fst.length (eT.els (insC (eT.lst xs.length (eT.els xs)) t).fst)).any fun x => tleq_F x t then false else bif (insC (eT.lst (insC (eT.lst xs.length (eT.els xs)) t).fst.length (eT.els (insC (eT.lst xs.length (eT.els xs)) t).fst)) t).snd.snd != (0 : Int) || ((insC (eT.lst (insC (eT.lst xs.length (eT.els xs)) t).fst.length (eT.els (insC (eT.lst xs.length (eT.els xs)) t).fst)) t).snd.fst || !decide (eT.lst (insC (eT.lst (insC (eT.lst xs.length (eT.els xs)) t).fst.length (eT.els (insC (eT.lst xs.length (eT.els xs)) t).fst)) t).fst.length (eT.els (insC (eT.lst (insC (eT.lst xs.length (eT.els xs)) t).fst.length (eT.els (insC (eT.lst xs.length (eT.els xs)) t).fst)) t).fst) = eT.lst (insC (eT.lst xs.length (eT.els xs)) t).fst.length (eT.els (insC (eT.lst xs.length (eT.els xs)) t).fst))) then false else bif (insC (eT.lst (insC (eT.lst xs.length (eT.els xs)) t).fst.length (eT.els (insC (eT.lst xs.length (eT.els xs)) t).fst)) u).snd.snd != (0 : Int) || (insC (eT.lst xs.length (eT.els xs)) u).snd.snd != (0 : Int) then true else (insC (eT.lst (insC (eT.lst xs.length (eT.els xs)) u).fst.length (eT.els (insC (eT.lst xs.length (eT.els xs)) u).fst)) t).snd.snd == (0 : Int) && decide (eT.lst (insC (eT.lst (insC (eT.lst xs.length (eT.els xs)) t).fst.length (eT.els (insC (eT.lst xs.length (eT.els xs)) t).fst)) u).fst.length (eT.els (insC (eT.lst (insC (eT.lst xs.length (eT.els xs)) t).fst.length (eT.els (insC (eT.lst xs.length (eT.els xs)) t).fst)) u).fst) = eT.lst (insC (eT.lst (insC (eT.lst xs.length (eT.els xs)) u).fst.length (eT.els (insC (eT.lst xs.length (eT.els xs)) u).fst)) t).fst.length (eT.els (insC (eT.lst (insC (eT.lst xs.length (eT.els xs)) u).fst.length (eT.els (insC (eT.lst xs.length (eT.els xs)) u).fst)) t).fst))
def agn_side (xs : List T) (t : T) (u : T) : Prop :=
  (!true) = false → decide ((↑xs.length : Int) > (40 : Int)) = false → (∀ (e : Nat), e < xs.length → eT.Ok (eT.els xs e)) ∧ ((chkC (eT.lst xs.length (eT.els xs)) != (0 : Int) || (rtcheck_F t != (0 : Int) || rtcheck_F u != (0 : Int))) = false → (∀ (e : Nat), e < xs.length → eT.Ok (eT.els xs e)) ∧ (((insC (eT.lst xs.length (eT.els xs)) t).snd.snd != (0 : Int)) = false → (∀ (e : Nat), e < xs.length → eT.Ok (eT.els xs e)) ∧ ((!(insC (eT.lst xs.length (eT.els xs)) t).snd.fst == (eT.lst xs.length (eT.els xs)).any fun x => tleq_F x t) = true → ∀ (e : Nat), e < (insC (eT.lst xs.length (eT.els xs)) t).fst.length → eT.Ok (eT.els (insC (eT.lst xs.length (eT.els xs)) t).fst e)) ∧ ((((insC (eT.lst xs.length (eT.els xs)) t).snd.fst == (eT.lst xs.length (eT.els xs)).any fun x => tleq_F x t) || !(eT.lst (insC (eT.lst xs.length (eT.els xs)) t).fst.length (eT.els (insC (eT.lst xs.length (eT.els xs)) t).fst)).any fun x => tleq_F x t) = false → (∀ (e : Nat), e < (insC (eT.lst xs.length (eT.els xs)) t).fst.length → eT.Ok (eT.els (insC (eT.lst xs.length (eT.els xs)) t).fst e)) ∧ ((!(insC (eT.lst (insC (eT.lst xs.length (eT.els xs)) t).fst.length (eT.els (insC (eT.lst xs.length (eT.els xs)) t).fst)) t).snd.snd != (0 : Int)) = true → (!(insC (eT.lst (insC (eT.lst xs.length (eT.els xs)) t).fst.length (eT.els (insC (eT.lst xs.length (eT.els xs)) t).fst)) t).snd.fst) = true → ∀ (e : Nat), e < (insC (eT.lst (insC (eT.lst xs.length (eT.els xs)) t).fst.length (eT.els (insC (eT.lst xs.length (eT.els xs)) t).fst)) t).fst.length → eT.Ok (eT.els (insC (eT.lst (insC (eT.lst xs.length (eT.els xs)) t).fst.length (eT.els (insC (eT.lst xs.length (eT.els xs)) t).fst)) t).fst e)) ∧ ((!(insC (eT.lst (insC (eT.lst xs.length (eT.els xs)) t).fst.length (eT.els (insC (eT.lst xs.length (eT.els xs)) t).fst)) t).snd.snd != (0 : Int)) = true → (!(insC (eT.lst (insC (eT.lst xs.length (eT.els xs)) t).fst.length (eT.els (insC (eT.lst xs.length (eT.els xs)) t).fst)) t).snd.fst) = true → ∀ (e : Nat), e < (insC (eT.lst xs.length (eT.els xs)) t).fst.length → eT.Ok (eT.els (insC (eT.lst xs.length (eT.els xs)) t).fst e)) ∧ (((insC (eT.lst (insC (eT.lst xs.length (eT.els xs)) t).fst.length (eT.els (insC (eT.lst xs.length (eT.els xs)) t).fst)) t).snd.snd != (0 : Int) || ((insC (eT.lst (insC (eT.lst xs.length (eT.els xs)) t).fst.length (eT.els (insC (eT.lst xs.length (eT.els xs)) t).fst)) t).snd.fst || !decide (eT.lst (insC (eT.lst (insC (eT.lst xs.length (eT.els xs)) t).fst.length (eT.els (insC (eT.lst xs.length (eT.els xs)) t).fst)) t).fst.length (eT.els (insC (eT.lst (insC (eT.lst xs.length (eT.els xs)) t).fst.length (eT.els (insC (eT.lst xs.length (eT.els xs)) t).fst)) t).fst) = eT.lst (insC (eT.lst xs.length (eT.els xs)) t).fst.length (eT.els (insC (eT.lst xs.length (eT.els xs)) t).fst)))) = false → (∀ (e : Nat), e < (insC (eT.lst xs.length (eT.els xs)) t).fst.length → eT.Ok (eT.els (insC (eT.lst xs.length (eT.els xs)) t).fst e)) ∧ (∀ (e : Nat), e < xs.length → eT.Ok (eT.els xs e)) ∧ (((insC (eT.lst (insC (eT.lst xs.length (eT.els xs)) t).fst.length (eT.els (insC (eT.lst xs.length (eT.els xs)) t).fst)) u).snd.snd != (0 : Int) || (insC (eT.lst xs.length (eT.els xs)) u).snd.snd != (0 : Int)) = false → (∀ (e : Nat), e < (insC (eT.lst xs.length (eT.els xs)) u).fst.length → eT.Ok (eT.els (insC (eT.lst xs.length (eT.els xs)) u).fst e)) ∧ (((insC (eT.lst (insC (eT.lst xs.length (eT.els xs)) u).fst.length (eT.els (insC (eT.lst xs.length (eT.els xs)) u).fst)) t).snd.snd == (0 : Int)) = true → ∀ (e : Nat), e < (insC (eT.lst (insC (eT.lst xs.length (eT.els xs)) t).fst.length (eT.els (insC (eT.lst xs.length (eT.els xs)) t).fst)) u).fst.length → eT.Ok (eT.els (insC (eT.lst (insC (eT.lst xs.length (eT.els xs)) t).fst.length (eT.els (insC (eT.lst xs.length (eT.els xs)) t).fst)) u).fst e)) ∧ (((insC (eT.lst (insC (eT.lst xs.length (eT.els xs)) u).fst.length (eT.els (insC (eT.lst xs.length (eT.els xs)) u).fst)) t).snd.snd == (0 : Int)) = true → ∀ (e : Nat), e < (insC (eT.lst (insC (eT.lst xs.length (eT.els xs)) u).fst.length (eT.els (insC (eT.lst xs.length (eT.els xs)) u).fst)) t).fst.length → eT.Ok (eT.els (insC (eT.lst (insC (eT.lst xs.length (eT.els xs)) u).fst.length (eT.els (insC (eT.lst xs.length (eT.els xs)) u).fst)) t).fst e)))))))
theorem agn_okS (pre : DA.T aLTT → List Prop) (h : ∀ g, DA.bd aLTT g → (∀ p ∈ pre g, p) → agn_side g.1 g.2.1 g.2.2) : FnPure Try.prog 4 aLTT dBool (fun g => agn_F g.1 g.2.1 g.2.2) pre := pure_of_sideS (Γ := (MTab.gamz tabIns [] [(17, 2, 3)])) (Λ := noΛ) (MTab.okz tabIns [] [(17, 2, 3)]) noΛ_ok 100 default (fun g => agn_side g.1 g.2.1 g.2.2) (fun g => by kernel_rfl) (fun g => by kernel_rfl) h
noncomputable def tabXL3 : MTab Try.prog := tabIns
end Go.Proofs.Ytiipneclghnfhaa

/- Chapter 3: the law ChainAgain holds. -/
namespace Go.Proofs.Ytiipneclghnfhaa
open Go.RowKit Go.Sx Go.Lp
theorem agn_si (xs : List T) (t u : T) : agn_side xs t u := by
  have h1 := okT xs
  have h2 := okT (insC xs t).1
  have h3 := okT (insC (insC xs t).1 t).1
  have h4 := okT (insC (insC xs t).1 u).1
  have h5 := okT (insC xs u).1
  have h6 := okT (insC (insC xs u).1 t).1
  unfold agn_side
  simp only [eT.lst_els]
  repeat' (first | exact h1 | exact h2 | exact h3 | exact h4 | exact h5 | exact h6 | apply And.intro | intro _)
theorem agn_eq (xs : List T) (t u : T) : agn_F xs t u = true := by
  unfold agn_F
  simp only [eT.lst_els]
  cases decide ((xs.length : Int) > 40)
  case true => rfl
  simp only [cond_false]
  cases (chkC xs != 0 || (rtcheck_F t != 0 || rtcheck_F u != 0))
  case true => rfl
  simp only [cond_false]
  by_cases h : (insC xs t).2.2 = 0
  case neg =>
    have : ((insC xs t).2.2 != 0) = true := by simpa using h
    simp only [this, cond_true]
  simp only [h, bne_self_eq_false, cond_false, ins_is h, ins_cov h, ins_again h, decide_true, Bool.not_true, Bool.or_false]
  have hx : ((!xs.any (tleq_F · t)) == xs.any (tleq_F · t)) = false := by cases xs.any (tleq_F · t) <;> rfl
  simp only [hx, cond_false]
  by_cases hg : (insC (insC xs t).1 u).2.2 = 0
  · by_cases hh : (insC xs u).2.2 = 0
    · obtain ⟨k1, k2⟩ := ins_swap h hg hh
      simp only [hg, hh, bne_self_eq_false, Bool.or_false, cond_false, k1, k2, decide_true, beq_self_eq_true, Bool.and_true]
    · have : ((insC xs u).2.2 != 0) = true := by simpa using hh
      simp only [this, Bool.or_true, cond_true]
  · have : ((insC (insC xs t).1 u).2.2 != 0) = true := by simpa using hg
    simp only [this, Bool.true_or, cond_true]
theorem agn_ok : FnPure Try.prog 4 aLTT dBool (fun _ => true) (fun _ => []) :=
  pure_congr (agn_okS _ fun g _ _ => agn_si g.1 g.2.1 g.2.2) fun g _ _ => agn_eq g.1 g.2.1 g.2.2
end Go.Proofs.Ytiipneclghnfhaa

/- From what a statement reads of its arguments to known values. -/
namespace Go.Sx
open Go.RowKit Go.ChangeShapes Go.WideShapes Go.ChangeAt Go.Deep

theorem add_none (b o n : Nat) : (⟨b, o, none⟩ : Addr).add n = ⟨b, o + n, none⟩ := by
  by_cases h : n = 0
  · subst h; simp [Addr.add]
  · simp [Addr.add, h]
abbrev wh (w : World) : Rh := emp fun b => w.heap[b]?
/-- Cells of that type are plain data. -/
def Rd {α : Type} (P : Program) (t : TypeId) (A : El α) (Q : α → Prop) : Prop :=
  ∀ (H : Type) (enc : TypeId × Value → H) (w : World) (base : Nat) (spare : Nat → Bool) (held : Bool) (fuel : Nat) (cs : List Value) (x : DataW H × List MemPlace),
    DataW.trod enc P w base spare held fuel t cs = some x → ∃ a, Q a ∧ SV.fits 0 (wh w) (A.cells a) cs
section
variable {H : Type} (enc : TypeId × Value → H) (P : Program) (w : World) (base : Nat) (spare : Nat → Bool) (held : Bool) (fuel : Nat)
def Cut : List TypeId → List Value → Prop
  | [], cs => cs = []
  | t :: ts, cs => (∃ x, DataW.trod enc P w base spare held fuel t (cs.take (P.cellsOf t)) = some x) ∧ Cut ts (cs.drop (P.cellsOf t))
def consec : Nat → List (Nat × TypeId) → Nat → Bool
  | o, [], n => Nat.beq o n
  | o, p :: r, n => Nat.beq p.1 o && consec (o + P.cellsOf p.2) r n
theorem cut_of (cs : List Value) : ∀ (fs : List (Nat × TypeId)) (o : Nat), consec P o fs cs.length = true → (∀ p ∈ fs, ∃ x, DataW.trod enc P w base spare held fuel p.2 ((cs.drop p.1).take (P.cellsOf p.2)) = some x) → Cut enc P w base spare held fuel (fs.map (·.2)) (cs.drop o)
  | [], o, hc, _ => by
    have := beq_of hc
    show cs.drop o = []
    exact List.drop_eq_nil_of_le (by omega)
  | p :: r, o, hc, h => by
    simp only [consec, Bool.and_eq_true] at hc
    have h0 := beq_of hc.1
    refine ⟨?_, ?_⟩
    · have := h p (List.mem_cons_self ..)
      rwa [h0] at this
    · have := cut_of cs r (o + P.cellsOf p.2) hc.2 fun q hq => h q (List.mem_cons_of_mem _ hq)
      rwa [List.drop_drop]
end
def Rds {α : Type} (P : Program) (ts : List TypeId) (A : El α) (Q : α → Prop) : Prop :=
  ∀ (H : Type) (enc : TypeId × Value → H) (w : World) (base : Nat) (spare : Nat → Bool) (held : Bool) (fuel : Nat) (cs : List Value),
    Cut enc P w base spare held fuel ts cs → ∃ a, Q a ∧ SV.fits 0 (wh w) (A.cells a) cs
section
variable {P : Program} {t e : TypeId} {α β : Type} {A : El α} {B : El β} {Q : α → Prop} {Q' : β → Prop}
theorem rds_one (h : Rd P t A Q) : Rds P [t] A Q := fun H enc w base spare held fuel cs hc => by
  obtain ⟨⟨x, hx⟩, hd⟩ := hc
  have hd : cs.drop (P.cellsOf t) = [] := hd
  have h2 := List.take_append_drop (P.cellsOf t) cs
  rw [hd, List.append_nil] at h2
  rw [h2] at hx
  exact h H enc w base spare held fuel cs x hx
theorem rds_cons {ts : List TypeId} (h : Rd P t A Q) (h' : Rds P ts B Q') : Rds P (t :: ts) (.pair A B) (fun a => Q a.1 ∧ Q' a.2) := fun H enc w base spare held fuel cs hc => by
  obtain ⟨⟨x, hx⟩, hd⟩ := hc
  obtain ⟨a, qa, fa⟩ := h H enc w base spare held fuel _ x hx
  obtain ⟨b, qb, fb⟩ := h' H enc w base spare held fuel _ hd
  refine ⟨(a, b), ⟨qa, qb⟩, ?_⟩
  have := fits_append fa fb
  rwa [List.take_append_drop] at this
theorem rd_iso (h : Rd P t A Q) (f : α → β) (g : β → α) (hfg : ∀ b, f (g b) = b) (hgf : ∀ a, g (f a) = a) : Rd P t (A.iso f g hfg hgf) (fun b => Q (g b)) := fun H enc w base spare held fuel cs x hx => by
  obtain ⟨a, qa, fa⟩ := h H enc w base spare held fuel cs x hx
  refine ⟨f a, (show Q (g (f a)) by rwa [hgf]), ?_⟩
  show SV.fits 0 _ (A.cells (g (f a))) cs
  rwa [hgf]
theorem rd_int {k : IntKind} (ht : P.underlying t = some (.int k)) : Rd P t (eInt k) (fun n => (Lit.int k n).wf = true) := fun H enc w base spare held fuel cs x hx => by
  obtain ⟨n, rfl, _, hw⟩ := DataW.trod_int ht hx
  exact ⟨n, hw, by simp [eInt, El.one', dInt, SV.fits, SV.fit]⟩
theorem rd_struct {fs : Array Field} {ts : List TypeId} (ht : P.underlying t = some (.struct fs)) (hts : fs.toList.map (·.type) = ts) (hc : consec P 0 (fs.toList.map fun f => (f.offset, f.type)) (P.cellsOf t) = true) (h : Rds P ts A Q) : Rd P t A Q := fun H enc w base spare held fuel cs x hx => by
  obtain ⟨xs, n, rfl, _, hl, hxl, hf⟩ := DataW.trod_struct ht hx
  rw [← hl] at hc
  have := cut_of enc P w base spare held n cs _ 0 hc fun p hp => by
    obtain ⟨f, hfm, rfl⟩ := List.mem_map.1 hp
    obtain ⟨i, hi, rfl⟩ := List.getElem_of_mem hfm
    have hi' : i < fs.size := by simpa using hi
    have := hf i fs[i] (by simp [hi'])
    exact ⟨xs[i]'(by omega), by simpa [hxl, hi'] using this⟩
  rw [List.map_map, List.drop_zero] at this
  refine h H enc w base spare held n cs ?_
  rw [← hts]
  exact this
theorem rd_array {n : Nat} {ts : List TypeId} (ht : P.underlying t = some (.array n e)) (hts : ((List.range n).map fun _ => e) = ts) (hc : consec P 0 ((List.range n).map fun i => (i * P.cellsOf e, e)) (P.cellsOf t) = true) (h : Rds P ts A Q) : Rd P t A Q := fun H enc w base spare held fuel cs x hx => by
  obtain ⟨xs, m, rfl, _, hl, hxl, hf⟩ := DataW.trod_array ht hx
  rw [← hl] at hc
  have := cut_of enc P w base spare held m cs _ 0 hc fun p hp => by
    obtain ⟨i, hi, rfl⟩ := List.mem_map.1 hp
    have hi' : i < n := by simpa using hi
    have := hf i hi'
    exact ⟨xs[i]'(by omega), by rw [this]; simp [hxl, hi']⟩
  rw [List.map_map, List.drop_zero] at this
  refine h H enc w base spare held m cs ?_
  rw [← hts]
  exact this
end
/-- An argument is plain data. -/
def RdV {α : Type} (P : Program) (t : TypeId) (D : Dv α) (Q : α → Prop) : Prop :=
  ∀ (H : Type) (enc : TypeId × Value → H) (w : World) (base : Nat) (spare : Nat → Bool) (held : Bool) (r : Reach) (b0 : Nat) (v : Value) (d : DataW H) (ps : List MemPlace),
    Value.okWide P w r b0 t v → DataW.Trod enc P w base spare held t v d ps → ∃ a, Q a ∧ (D.enc a).fit 0 (wh w) v
section
variable {P : Program} {t e : TypeId} {α β : Type} {A : El α} {Q : α → Prop}
theorem rdv_int {k : IntKind} (ht : P.underlying t = some (.int k)) : RdV P t (dInt k) (fun n => (Lit.int k n).wf = true) := fun H enc w base spare held r b0 v d ps hv hx => by
  obtain ⟨n, rfl, _, _, hw⟩ := open_int ht hv hx
  exact ⟨n, hw, by simp [dInt, SV.fit]⟩
theorem rdv_struct {fs : Array Field} (ht : P.underlying t = some (.struct fs)) (h : Rd P t A Q) : RdV P t (.agg A) Q := fun H enc w base spare held r b0 v d ps hv hx => by
  obtain ⟨cs, rfl, _⟩ := okWide_struct ht hv
  obtain ⟨fuel, hf⟩ := hx
  obtain ⟨a, qa, fa⟩ := h H enc w base spare held fuel _ _ hf
  exact ⟨a, qa, cs.toList, by simp, by simpa [Value.cells] using fa⟩
theorem rdv_slice (ht : P.underlying t = some (.slice e)) (hs : P.cellsOf e = A.sz) (hz : 0 < A.sz) (h : Rd P e A Q) : RdV P t (.list A) (fun xs => ∀ a ∈ xs, Q a) := fun H enc w base spare held r b0 v d ps hv hx => by
  obtain ⟨a0, len0, cap0, rfl⟩ := okWide_slice ht hv
  obtain ⟨fuel, hf⟩ := hx
  rcases open_slice ht hf with ⟨hcs, _⟩ | ⟨a, len, cap, m, n, D, Pl, hcs, hb, hl, hm, hmm, _, hel⟩
  · simp [Value.cells] at hcs
    obtain ⟨rfl, rfl, rfl⟩ := hcs
    exact ⟨[], by simp, rs_nil _ _⟩
  · simp [Value.cells] at hcs
    obtain ⟨rfl, rfl, rfl⟩ := hcs
    have hle : len0 ≤ m := by subst hmm; split <;> omega
    have key : ∀ i, i < len0 → ∃ x : α, Q x ∧ ∃ cs', cs'.length = A.sz ∧ SV.fits 0 (wh w) (A.cells x) cs' ∧ ∀ j, j < A.sz → w.cell? ((a.add (i * A.sz)).add j) = cs'[j]? := fun i hi => by
      obtain ⟨cs', h1, h2⟩ := hel i (by omega)
      obtain ⟨x, qx, fx⟩ := h H enc w base spare held n cs' _ h2
      rw [hs] at h1
      obtain ⟨_, h3, h4⟩ := World.cells?_some h1
      exact ⟨x, qx, cs', h3, fx, h4⟩
    haveI : Inhabited α := ⟨A.dflt⟩
    obtain ⟨f, hf⟩ := choose_lt (α := α) (fun i hi => key i hi)
    refine ⟨(List.range len0).map f, ?_, ?_⟩
    · intro x hx
      obtain ⟨i, hi, rfl⟩ := List.mem_map.1 hx
      exact (hf i (by simpa using hi)).1
    · simp only [Dv.list, SV.fit]
      refine ⟨some a, cap0, by simp, by simpa using hl, hm, fun hpos => ?_⟩
      have hpos : 0 < len0 := by simpa using hpos
      obtain ⟨_, cs0, q1, q2, q3⟩ := hf 0 hpos
      have q4 := q3 0 hz
      obtain ⟨b, o, spot⟩ := a
      have hsome : ∃ v0, cs0[0]? = some v0 := ⟨cs0[0]'(by omega), by simp⟩
      obtain ⟨v0, hv0⟩ := hsome
      rw [hv0] at q4
      have hspot : spot = none := by simpa [Addr.add] using World.cell?_spot q4
      subst hspot
      have hblk : ∃ cs t fz, w.heap[b]? = some (.cells cs t fz) := by
        simp only [add_none, World.cell?] at q4
        split at q4
        · rename_i c _ _ hh
          exact ⟨_, _, _, hh⟩
        · cases q4
      obtain ⟨cs, t', fz, hh⟩ := hblk
      refine ⟨b, o, cs, t', fz, rfl, hh, fun i hi => ?_⟩
      have hi : i < len0 := by simpa using hi
      obtain ⟨_, cs', k1, k2, k3⟩ := hf i hi
      refine ⟨cs', k1, ?_, fun j v hjv => ?_⟩
      · simpa [El.els, List.getD_eq_getElem?_getD, hi] using k2
      · have hj : j < A.sz := by
          have := (List.getElem?_eq_some_iff.1 hjv).1
          omega
        have := k3 j hj
        rw [hjv] at this
        simp only [add_none, World.cell?, hh] at this
        simpa using this
end
end Go.Sx

/- Chapter 3: what the rows read of their arguments. -/
namespace Go.Proofs.Ytiipneclghnfhaa
open Go.RowKit Go.Sx
def W1 (n : Int) : Prop := (Lit.int .i64 n).wf = true
def W4 (a : I4) : Prop := W1 a.1 ∧ W1 a.2.1 ∧ W1 a.2.2.1 ∧ W1 a.2.2.2
def W6 (a : I6) : Prop := W1 a.1 ∧ W1 a.2.1 ∧ W4 a.2.2
def W8 (a : I8) : Prop := W1 a.1 ∧ W1 a.2.1 ∧ W1 a.2.2.1 ∧ W1 a.2.2.2.1 ∧ W4 a.2.2.2.2
def S.W (s : S) : Prop := W8 s.toP
def T.W (t : T) : Prop := W6 t.toP
theorem rd2 : Rd Try.prog 2 eI W1 := rd_int Try.underlying2
theorem rd3 : Rd Try.prog 3 eI W1 := rd_int Try.underlying3
theorem rd28 : Rd Try.prog 28 e4 W4 := rd_array (ts := [2, 2, 2, 2]) Try.underlying28 rfl (by kernel_rfl) (rds_cons rd2 (rds_cons rd2 (rds_cons rd2 (rds_one rd2))))
theorem rd30 : Rd Try.prog 30 eT T.W := rd_iso (Q := W6) (rd_struct (ts := [2, 3, 28]) Try.underlying30 rfl (by kernel_rfl) (rds_cons rd2 (rds_cons rd3 (rds_one rd28)))) _ _ _ _
theorem rdvT : RdV Try.prog 30 dT T.W := rdv_struct Try.underlying30 rd30
theorem rdvLT : RdV Try.prog 22 dLT (fun l => ∀ s ∈ l, T.W s) := rdv_slice Try.underlying22 (by kernel_rfl) (by decide) rd30
end Go.Proofs.Ytiipneclghnfhaa

/- The row of ChainAgainSaid, from the law's contract. Printed by rowgen.py. -/
namespace Go.Proofs.Ytiipneclghnfhaa
open Go.ChangeShapes Go.WideShapes Go.ChangeAt Go.RowKit Go.Sx

theorem Try.own : ownKnob Try.prog.godebug = none := by kernel_rfl
theorem Try.laidOut : laidOutB Try.prog = true := by kernel_rfl
set_option maxRecDepth 100000 in
theorem chainAgain_lifted (law : FnPure Try.prog 4 aLTT dBool (fun _ => true) (fun _ => [])) (os : Os) (started : os.Started) (H : Type) (enc : TypeId × Value → H) :
    ReturnsInHanded {} Try.checked os 4 .any (Rows.chainAgainSpec.pre6 enc Try.prog Try.f4 Rows.chainAgainRow.domain false) (Rows.chainAgainSpec.post enc Try.prog Try.f4 false true false false) := by
  refine returnsInHanded_of_change (C := Try.checked) Try.own started (by kernel_rfl) Try.func4
    (ChangeSpec.witness6 (enc := enc) (C := Try.checked) false ⟨#[], #[.slice none 0 0, .agg #[.int .i64 0, .int .i64 0, .int .i64 0, .int .i64 0, .int .i64 0, .int .i64 0], .agg #[.int .i64 0, .int .i64 0, .int .i64 0, .int .i64 0, .int .i64 0, .int .i64 0]], []⟩ 8 (by kernel_rfl) (by kernel_rfl) (by kernel_rfl) (by kernel_rfl)) ?_
  intro W base args ds gs before hval0 hW hcnd _
  have hval : ∀ (j : Nat) t v, Try.f4.params[j]? = some t → args[j]? = some v → Value.okWide Try.prog W .any base t v := hval0
  have hW' := hW
  obtain ⟨p, q, hA0, hV, rfl, hfz, hnd⟩ := hW
  have hA : DataW.TrodAll enc Try.prog W 0 (fun _ => true) true Try.f4.params.toList args.toList ds p := hA0
  rw [Try.params4] at hA hval
  obtain ⟨v0, vs0, d0, ds0, p0, qq0, hargs, rfl, rfl, h0, r0⟩ := trodAll_cons hA
  obtain ⟨v1, vs1, d1, ds1, p1, qq1, rfl, rfl, rfl, h1, r1⟩ := trodAll_cons r0
  obtain ⟨v2, vs2, d2, ds2, p2, qq2, rfl, rfl, rfl, h2, r2⟩ := trodAll_cons r1
  obtain ⟨rfl, rfl, rfl⟩ := trodAll_nil r2
  obtain rfl : args = #[v0, v1, v2] := by cases args; simp_all
  obtain ⟨rfl, rfl⟩ := trodVars_none hV
  obtain ⟨a0, q0, f0⟩ := rdvLT _ _ _ _ _ _ _ _ _ _ _ (hval 0 22 v0 rfl rfl) h0
  obtain ⟨a1, q1, f1⟩ := rdvT _ _ _ _ _ _ _ _ _ _ _ (hval 1 30 v1 rfl rfl) h1
  obtain ⟨a2, q2, f2⟩ := rdvT _ _ _ _ _ _ _ _ _ _ _ (hval 2 30 v2 rfl rfl) h2
  have lt : ∀ {t : TypeId} {v : Value} {d : DataW H} {ps : List MemPlace}, DataW.Trod enc Try.prog W 0 (fun _ => true) true t v d ps → ∀ x ∈ ps, x.block < W.heap.size := by
    rintro t v d ps ⟨m, hm⟩
    exact DataW.trod_lt m _ _ _ hm
  clear hA0 hval0
  refine (law W (fun b => W.heap[b]?) (a0, a1, a2) [v0, v1, v2] (fun _ _ h => h) (by simp) ⟨f0, f1, f2, trivial⟩).mono fun e W' ⟨x, he, bel, hx⟩ => ?_
  obtain rfl : x = .bool true := by simpa [dBool, SV.fit] using hx
  subst he
  exact ⟨_, rfl, _, _, _, [], _, [], hW', trodAll_mk1 (shut_bool Try.underlying4 _),
    (trodAll_cons_mk (Below.trod Try.laidOut (by kernel_rfl) (of_decide_eq_true (by kernel_rfl)) h0 bel (lt h0))
    (trodAll_cons_mk (Below.trod Try.laidOut (by kernel_rfl) (of_decide_eq_true (by kernel_rfl)) h1 bel (lt h1))
    (trodAll_cons_mk (Below.trod Try.laidOut (by kernel_rfl) (of_decide_eq_true (by kernel_rfl)) h2 bel (lt h2)) trodAll_mk0))), rfl, bel.frame _, fun h => by cases h⟩

theorem chainAgain_over (law : FnPure Try.prog 4 aLTT dBool (fun _ => true) (fun _ => [])) : Rows.ChainAgainSaid :=
  OpenClaim.holds_of_wide 4 Try.f4 rfl rfl rfl rfl rfl rfl rfl ⟨rfl, rfl, rfl, rfl, rfl⟩ rfl rfl rfl rfl rfl (by kernel_rfl) Try.func4 (by kernel_rfl)
    (of_decide_eq_true (by kernel_rfl)) (by unfold Func.isWrapper; first | (rw [if_pos (by decide +kernel)]; kernel_rfl) | (rw [if_neg (by decide +kernel)]; exact ⟨rfl, rfl⟩))
    (fun os started H enc _ => chainAgain_lifted law os started H enc)
end Go.Proofs.Ytiipneclghnfhaa

/- The law ChainAgain of chapter 3 is proved: for every input the function returns true, and its arguments read as they did. No condition. -/
namespace Go.Proofs.Ytiipneclghnfhaa
open Go.RowKit Go.Sx
theorem chainAgain_holds : Rows.ChainAgainSaid := chainAgain_over agn_ok
end Go.Proofs.Ytiipneclghnfhaa
