/- Chapter 3: chain.Insert. Printed by treegen.py. -/
import Derived.Test.YtiipneclghnfhaaZG12f4aa16
import Derived.Test.YtiipneclghnfhaaZG11adaa1d
import Derived.Test.YtiipneclghnfhaaZG0692ae73
import Derived.ProofKit
import Derived.OpenShut
import Derived.ShutString
import Derived.ChangeOld
import Derived.Below
import Derived.Deep.Slices
import Derived.Test.YtiipneclghnfhaaZG078a2f4a
import Derived.Test.YtiipneclghnfhaaZG10b5e5a6
set_option linter.unusedVariables false
set_option linter.unusedSimpArgs false
set_option linter.constructorNameAsVariable false
set_option linter.all false

namespace Go.Proofs.Ytiipneclghnfhaa
open Go.RowKit Go.Sx
set_option maxRecDepth 100000
set_option linter.unusedVariables false
noncomputable def tabIn : MTab Try.prog := tabC.consM 69 (bconRow 30 eT aL (fun xs => xs) (fun xs => [xs.length ≤ KS])) clone_ok
noncomputable def cins_F (xs : List T) (t : T) : Dv.T dLBE :=
  bif chkC (eT.lst xs.length (eT.els xs)) != (0 : Int) then ([], false, chkC (eT.lst xs.length (eT.els xs)))
  else bif tcheck_F t != (0 : Int) then ([], false, tcheck_F t) else bif decide ((↑xs.length : Int) > (0 : Int)) && (xs.getD (0 : Nat) eT.dflt).d != t.d then ([], false, (11 : Int)) else bif (ofC (eT.lst (min ((eT.lst xs.length (eT.els xs)).length + (1 : Nat)) (eT.lst xs.length (eT.els xs)).length) (eT.els (eT.lst xs.length (eT.els xs))) ++ List.map (fun x => t) (List.range ((eT.lst xs.length (eT.els xs)).length + (1 : Nat) - (eT.lst xs.length (eT.els xs)).length)))).snd != (0 : Int) then ([], false, (ofC (eT.lst (min ((eT.lst xs.length (eT.els xs)).length + (1 : Nat)) (eT.lst xs.length (eT.els xs)).length) (eT.els (eT.lst xs.length (eT.els xs))) ++ List.map (fun x => t) (List.range ((eT.lst xs.length (eT.els xs)).length + (1 : Nat) - (eT.lst xs.length (eT.els xs)).length)))).snd) else (eT.lst (ofC (eT.lst (min ((eT.lst xs.length (eT.els xs)).length + (1 : Nat)) (eT.lst xs.length (eT.els xs)).length) (eT.els (eT.lst xs.length (eT.els xs))) ++ List.map (fun x => t) (List.range ((eT.lst xs.length (eT.els xs)).length + (1 : Nat) - (eT.lst xs.length (eT.els xs)).length)))).fst.length (eT.els (ofC (eT.lst (min ((eT.lst xs.length (eT.els xs)).length + (1 : Nat)) (eT.lst xs.length (eT.els xs)).length) (eT.els (eT.lst xs.length (eT.els xs))) ++ List.map (fun x => t) (List.range ((eT.lst xs.length (eT.els xs)).length + (1 : Nat) - (eT.lst xs.length (eT.els xs)).length)))).fst), !decide (eT.lst (ofC (eT.lst (min ((eT.lst xs.length (eT.els xs)).length + (1 : Nat)) (eT.lst xs.length (eT.els xs)).length) (eT.els (eT.lst xs.length (eT.els xs))) ++ List.map (fun x => t) (List.range ((eT.lst xs.length (eT.els xs)).length + (1 : Nat) - (eT.lst xs.length (eT.els xs)).length)))).fst.length (eT.els (ofC (eT.lst (min ((eT.lst xs.length (eT.els xs)).length + (1 : Nat)) (eT.lst xs.length (eT.els xs)).length) (eT.els (eT.lst xs.length (eT.els xs))) ++ List.map (fun x => t) (List.range ((eT.lst xs.length (eT.els xs)).length + (1 : Nat) - (eT.lst xs.length (eT.els xs)).length)))).fst) = eT.lst xs.length (eT.els xs)), (0 : Int))
def cins_side (xs : List T) (t : T) : Prop :=
  (∀ (e : Nat), e < xs.length → eT.Ok (eT.els xs e)) ∧ ((chkC (eT.lst xs.length (eT.els xs)) != (0 : Int)) = false → (tcheck_F t != (0 : Int)) = false → (decide ((↑xs.length : Int) > (0 : Int)) = true → (0 : Int) ≤ (0 : Int) ∧ (0 : Int) < (↑xs.length : Int)) ∧ ((decide ((↑xs.length : Int) > (0 : Int)) && (xs.getD (0 : Nat) eT.dflt).d != t.d) = false → ∀ (cs : List Nat), (cs.isEmpty = true → (∀ (e : Nat), e < xs.length → eT.Ok (eT.els xs e)) ∧ (eT.lst xs.length (eT.els xs)).length ≤ KS ∧ ((eT.lst xs.length (eT.els xs)).length ≤ (eT.lst xs.length (eT.els xs)).length ∧ True ∧ (eT.lst xs.length (eT.els xs)).length + (1 : Nat) ≤ maxLen ∧ ((eT.lst xs.length (eT.els xs)).length + (1 : Nat)) * Try.prog.types[(30 : Nat)].bytes ≤ (140737488355328 : Nat)) ∧ (eT.lst xs.length (eT.els xs)).length + (1 : Nat) ≤ (eT.lst xs.length (eT.els xs)).length + (1 : Nat) ∧ (∀ (e : Nat), e < min ((eT.lst xs.length (eT.els xs)).length + (1 : Nat)) (eT.lst xs.length (eT.els xs)).length → True) ∧ (∀ (e : Nat), e < (eT.lst xs.length (eT.els xs)).length + (1 : Nat) - (eT.lst xs.length (eT.els xs)).length → True) ∧ (eT.lst (min ((eT.lst xs.length (eT.els xs)).length + (1 : Nat)) (eT.lst xs.length (eT.els xs)).length) (eT.els (eT.lst xs.length (eT.els xs))) ++ List.map (fun x => t) (List.range ((eT.lst xs.length (eT.els xs)).length + (1 : Nat) - (eT.lst xs.length (eT.els xs)).length))).length ≤ KS ∧ (((ofC (eT.lst (min ((eT.lst xs.length (eT.els xs)).length + (1 : Nat)) (eT.lst xs.length (eT.els xs)).length) (eT.els (eT.lst xs.length (eT.els xs))) ++ List.map (fun x => t) (List.range ((eT.lst xs.length (eT.els xs)).length + (1 : Nat) - (eT.lst xs.length (eT.els xs)).length)))).snd != (0 : Int)) = true → ∀ (d : List T × Bool × Int), ([], false, (ofC (eT.lst (min ((eT.lst xs.length (eT.els xs)).length + (1 : Nat)) (eT.lst xs.length (eT.els xs)).length) (eT.els (eT.lst xs.length (eT.els xs))) ++ List.map (fun x => t) (List.range ((eT.lst xs.length (eT.els xs)).length + (1 : Nat) - (eT.lst xs.length (eT.els xs)).length)))).snd) = bif (ofC (eT.lst (min ((eT.lst xs.length (eT.els xs)).length + (1 : Nat)) (eT.lst xs.length (eT.els xs)).length) (eT.els (eT.lst xs.length (eT.els xs))) ++ List.map (fun x => t) (List.range ((eT.lst xs.length (eT.els xs)).length + (1 : Nat) - (eT.lst xs.length (eT.els xs)).length)))).snd != (0 : Int) then ([], false, (ofC (eT.lst (min ((eT.lst xs.length (eT.els xs)).length + (1 : Nat)) (eT.lst xs.length (eT.els xs)).length) (eT.els (eT.lst xs.length (eT.els xs))) ++ List.map (fun x => t) (List.range ((eT.lst xs.length (eT.els xs)).length + (1 : Nat) - (eT.lst xs.length (eT.els xs)).length)))).snd) else (eT.lst (ofC (eT.lst (min ((eT.lst xs.length (eT.els xs)).length + (1 : Nat)) (eT.lst xs.length (eT.els xs)).length) (eT.els (eT.lst xs.length (eT.els xs))) ++ List.map (fun x => t) (List.range ((eT.lst xs.length (eT.els xs)).length + (1 : Nat) - (eT.lst xs.length (eT.els xs)).length)))).fst.length (eT.els (ofC (eT.lst (min ((eT.lst xs.length (eT.els xs)).length + (1 : Nat)) (eT.lst xs.length (eT.els xs)).length) (eT.els (eT.lst xs.length (eT.els xs))) ++ List.map (fun x => t) (List.range ((eT.lst xs.length (eT.els xs)).length + (1 : Nat) - (eT.lst xs.length (eT.els xs)).length)))).fst), !decide (eT.lst (ofC (eT.lst (min ((eT.lst xs.length (eT.els xs)).length + (1 : Nat)) (eT.lst xs.length (eT.els xs)).length) (eT.els (eT.lst xs.length (eT.els xs))) ++ List.map (fun x => t) (List.range ((eT.lst xs.length (eT.els xs)).length + (1 : Nat) - (eT.lst xs.length (eT.els xs)).length)))).fst.length (eT.els (ofC (eT.lst (min ((eT.lst xs.length (eT.els xs)).length + (1 : Nat)) (eT.lst xs.length (eT.els xs)).length) (eT.els (eT.lst xs.length (eT.els xs))) ++ List.map (fun x => t) (List.range ((eT.lst xs.length (eT.els xs)).length + (1 : Nat) - (eT.lst xs.length (eT.els xs)).length)))).fst) = eT.lst xs.length (eT.els xs)), (0 : Int))) ∧ (((ofC (eT.lst (min ((eT.lst xs.length (eT.els xs)).length + (1 : Nat)) (eT.lst xs.length (eT.els xs)).length) (eT.els (eT.lst xs.length (eT.els xs))) ++ List.map (fun x => t) (List.range ((eT.lst xs.length (eT.els xs)).length + (1 : Nat) - (eT.lst xs.length (eT.els xs)).length)))).snd != (0 : Int)) = false → (∀ (e : Nat), e < (ofC (eT.lst (min ((eT.lst xs.length (eT.els xs)).length + (1 : Nat)) (eT.lst xs.length (eT.els xs)).length) (eT.els (eT.lst xs.length (eT.els xs))) ++ List.map (fun x => t) (List.range ((eT.lst xs.length (eT.els xs)).length + (1 : Nat) - (eT.lst xs.length (eT.els xs)).length)))).fst.length → eT.Ok (eT.els (ofC (eT.lst (min ((eT.lst xs.length (eT.els xs)).length + (1 : Nat)) (eT.lst xs.length (eT.els xs)).length) (eT.els (eT.lst xs.length (eT.els xs))) ++ List.map (fun x => t) (List.range ((eT.lst xs.length (eT.els xs)).length + (1 : Nat) - (eT.lst xs.length (eT.els xs)).length)))).fst e)) ∧ (∀ (e : Nat), e < xs.length → eT.Ok (eT.els xs e)) ∧ (∀ (e : Nat), e < (ofC (eT.lst (min ((eT.lst xs.length (eT.els xs)).length + (1 : Nat)) (eT.lst xs.length (eT.els xs)).length) (eT.els (eT.lst xs.length (eT.els xs))) ++ List.map (fun x => t) (List.range ((eT.lst xs.length (eT.els xs)).length + (1 : Nat) - (eT.lst xs.length (eT.els xs)).length)))).fst.length → eT.Ok (eT.els (ofC (eT.lst (min ((eT.lst xs.length (eT.els xs)).length + (1 : Nat)) (eT.lst xs.length (eT.els xs)).length) (eT.els (eT.lst xs.length (eT.els xs))) ++ List.map (fun x => t) (List.range ((eT.lst xs.length (eT.els xs)).length + (1 : Nat) - (eT.lst xs.length (eT.els xs)).length)))).fst e)) ∧ ∀ (d : List T × Bool × Int), (eT.lst (ofC (eT.lst (min ((eT.lst xs.length (eT.els xs)).length + (1 : Nat)) (eT.lst xs.length (eT.els xs)).length) (eT.els (eT.lst xs.length (eT.els xs))) ++ List.map (fun x => t) (List.range ((eT.lst xs.length (eT.els xs)).length + (1 : Nat) - (eT.lst xs.length (eT.els xs)).length)))).fst.length (eT.els (ofC (eT.lst (min ((eT.lst xs.length (eT.els xs)).length + (1 : Nat)) (eT.lst xs.length (eT.els xs)).length) (eT.els (eT.lst xs.length (eT.els xs))) ++ List.map (fun x => t) (List.range ((eT.lst xs.length (eT.els xs)).length + (1 : Nat) - (eT.lst xs.length (eT.els xs)).length)))).fst), !decide (eT.lst (ofC (eT.lst (min ((eT.lst xs.length (eT.els xs)).length + (1 : Nat)) (eT.lst xs.length (eT.els xs)).length) (eT.els (eT.lst xs.length (eT.els xs))) ++ List.map (fun x => t) (List.range ((eT.lst xs.length (eT.els xs)).length + (1 : Nat) - (eT.lst xs.length (eT.els xs)).length)))).fst.length (eT.els (ofC (eT.lst (min ((eT.lst xs.length (eT.els xs)).length + (1 : Nat)) (eT.lst xs.length (eT.els xs)).length) (eT.els (eT.lst xs.length (eT.els xs))) ++ List.map (fun x => t) (List.range ((eT.lst xs.length (eT.els xs)).length + (1 : Nat) - (eT.lst xs.length (eT.els xs)).length)))).fst) = eT.lst xs.length (eT.els xs)), (0 : Int)) = bif (ofC (eT.lst (min ((eT.lst xs.length (eT.els xs)).length + (1 : Nat)) (eT.lst xs.length (eT.els xs)).length) (eT.els (eT.lst xs.length (eT.els xs))) ++ List.map (fun x => t) (List.range ((eT.lst xs.length (eT.els xs)).length + (1 : Nat) - (eT.lst xs.length (eT.els xs)).length)))).snd != (0 : Int) then ([], false, (ofC (eT.lst (min ((eT.lst xs.length (eT.els xs)).length + (1 : Nat)) (eT.lst xs.length (eT.els xs)).length) (eT.els (eT.lst xs.length (eT.els xs))) ++ List.map (fun x => t) (List.range ((eT.lst xs.length (eT.els xs)).length + (1 : Nat) - (eT.lst xs.length (eT.els xs)).length)))).snd) else (eT.lst (ofC (eT.lst (min ((eT.lst xs.length (eT.els xs)).length + (1 : Nat)) (eT.lst xs.length (eT.els xs)).length) (eT.els (eT.lst xs.length (eT.els xs))) ++ List.map (fun x => t) (List.range ((eT.lst xs.length (eT.els xs)).length + (1 : Nat) - (eT.lst xs.length (eT.els xs)).length)))).fst.length (eT.els (ofC (eT.lst (min ((eT.lst xs.length (eT.els xs)).length + (1 : Nat)) (eT.lst xs.length (eT.els xs)).length) (eT.els (eT.lst xs.length (eT.els xs))) ++ List.map (fun x => t) (List.range ((eT.lst xs.length (eT.els xs)).length + (1 : Nat) - (eT.lst xs.length (eT.els xs)).length)))).fst), !decide (eT.lst (ofC (eT.lst (min ((eT.lst xs.length (eT.els xs)).length + (1 : Nat)) (eT.lst xs.length (eT.els xs)).length) (eT.els (eT.lst xs.length (eT.els xs))) ++ List.map (fun x => t) (List.range ((eT.lst xs.length (eT.els xs)).length + (1 : Nat) - (eT.lst xs.length (eT.els xs)).length)))).fst.length (eT.els (ofC (eT.lst (min ((eT.lst xs.length (eT.els xs)).length + (1 : Nat)) (eT.lst xs.length (eT.els xs)).length) (eT.els (eT.lst xs.length (eT.els xs))) ++ List.map (fun x => t) (List.range ((eT.lst xs.length (eT.els xs)).length + (1 : Nat) - (eT.lst xs.length (eT.els xs)).length)))).fst) = eT.lst xs.length (eT.els xs)), (0 : Int)))) ∧ (cs.isEmpty = false → ∀ (cs : List Nat), (cs.isEmpty = true → (∀ (e : Nat), e < xs.length → eT.Ok (eT.els xs e)) ∧ (eT.lst xs.length (eT.els xs)).length ≤ KS ∧ ((eT.lst xs.length (eT.els xs)).length ≤ (eT.lst xs.length (eT.els xs)).length ∧ True ∧ (eT.lst xs.length (eT.els xs)).length + (1 : Nat) ≤ maxLen ∧ ((eT.lst xs.length (eT.els xs)).length + (1 : Nat)) * Try.prog.types[(30 : Nat)].bytes ≤ (140737488355328 : Nat)) ∧ (eT.lst xs.length (eT.els xs)).length + (1 : Nat) ≤ (eT.lst xs.length (eT.els xs)).length + (1 : Nat) ∧ (∀ (e : Nat), e < min ((eT.lst xs.length (eT.els xs)).length + (1 : Nat)) (eT.lst xs.length (eT.els xs)).length → True) ∧ (∀ (e : Nat), e < (eT.lst xs.length (eT.els xs)).length + (1 : Nat) - (eT.lst xs.length (eT.els xs)).length → True) ∧ (eT.lst (min ((eT.lst xs.length (eT.els xs)).length + (1 : Nat)) (eT.lst xs.length (eT.els xs)).length) (eT.els (eT.lst xs.length (eT.els xs))) ++ List.map (fun x => t) (List.range ((eT.lst xs.length (eT.els xs)).length + (1 : Nat) - (eT.lst xs.length (eT.els xs)).length))).length ≤ KS ∧ (((ofC (eT.lst (min ((eT.lst xs.length (eT.els xs)).length + (1 : Nat)) (eT.lst xs.length (eT.els xs)).length) (eT.els (eT.lst xs.length (eT.els xs))) ++ List.map (fun x => t) (List.range ((eT.lst xs.length (eT.els xs)).length + (1 : Nat) - (eT.lst xs.length (eT.els xs)).length)))).snd != (0 : Int)) = true → ∀ (d : List T × Bool × Int), ([], false, (ofC (eT.lst (min ((eT.lst xs.length (eT.els xs)).length + (1 : Nat)) (eT.lst xs.length (eT.els xs)).length) (eT.els (eT.lst xs.length (eT.els xs))) ++ List.map (fun x => t) (List.range ((eT.lst xs.length (eT.els xs)).length + (1 : Nat) - (eT.lst xs.length (eT.els xs)).length)))).snd) = bif (ofC (eT.lst (min ((eT.lst xs.length (eT.els xs)).length + (1 : Nat)) (eT.lst xs.length (eT.els xs)).length) (eT.els (eT.lst xs.length (eT.els xs))) ++ List.map (fun x => t) (List.range ((eT.lst xs.length (eT.els xs)).length + (1 : Nat) - (eT.lst xs.length (eT.els xs)).length)))).snd != (0 : Int) then ([], false, (ofC (eT.lst (min ((eT.lst xs.length (eT.els xs)).length + (1 : Nat)) (eT.lst xs.length (eT.els xs)).length) (eT.els (eT.lst xs.length (eT.els xs))) ++ List.map (fun x => t) (List.range ((eT.lst xs.length (eT.els xs)).length + (1 : Nat) - (eT.lst xs.length (eT.els xs)).length)))).snd) else (eT.lst (ofC (eT.lst (min ((eT.lst xs.length (eT.els xs)).length + (1 : Nat)) (eT.lst xs.length (eT.els xs)).length) (eT.els (eT.lst xs.length (eT.els xs))) ++ List.map (fun x => t) (List.range ((eT.lst xs.length (eT.els xs)).length + (1 : Nat) - (eT.lst xs.length (eT.els xs)).length)))).fst.length (eT.els (ofC (eT.lst (min ((eT.lst xs.length (eT.els xs)).length + (1 : Nat)) (eT.lst xs.length (eT.els xs)).length) (eT.els (eT.lst xs.length (eT.els xs))) ++ List.map (fun x => t) (List.range ((eT.lst xs.length (eT.els xs)).length + (1 : Nat) - (eT.lst xs.length (eT.els xs)).length)))).fst), !decide (eT.lst (ofC (eT.lst (min ((eT.lst xs.length (eT.els xs)).length + (1 : Nat)) (eT.lst xs.length (eT.els xs)).length) (eT.els (eT.lst xs.length (eT.els xs))) ++ List.map (fun x => t) (List.range ((eT.lst xs.length (eT.els xs)).length + (1 : Nat) - (eT.lst xs.length (eT.els xs)).length)))).fst.length (eT.els (ofC (eT.lst (min ((eT.lst xs.length (eT.els xs)).length + (1 : Nat)) (eT.lst xs.length (eT.els xs)).length) (eT.els (eT.lst xs.length (eT.els xs))) ++ List.map (fun x => t) (List.range ((eT.lst xs.length (eT.els xs)).length + (1 : Nat) - (eT.lst xs.length (eT.els xs)).length)))).fst) = eT.lst xs.length (eT.els xs)), (0 : Int))) ∧ (((ofC (eT.lst (min ((eT.lst xs.length (eT.els xs)).length + (1 : Nat)) (eT.lst xs.length (eT.els xs)).length) (eT.els (eT.lst xs.length (eT.els xs))) ++ List.map (fun x => t) (List.range ((eT.lst xs.length (eT.els xs)).length + (1 : Nat) - (eT.lst xs.length (eT.els xs)).length)))).snd != (0 : Int)) = false → (∀ (e : Nat), e < (ofC (eT.lst (min ((eT.lst xs.length (eT.els xs)).length + (1 : Nat)) (eT.lst xs.length (eT.els xs)).length) (eT.els (eT.lst xs.length (eT.els xs))) ++ List.map (fun x => t) (List.range ((eT.lst xs.length (eT.els xs)).length + (1 : Nat) - (eT.lst xs.length (eT.els xs)).length)))).fst.length → eT.Ok (eT.els (ofC (eT.lst (min ((eT.lst xs.length (eT.els xs)).length + (1 : Nat)) (eT.lst xs.length (eT.els xs)).length) (eT.els (eT.lst xs.length (eT.els xs))) ++ List.map (fun x => t) (List.range ((eT.lst xs.length (eT.els xs)).length + (1 : Nat) - (eT.lst xs.length (eT.els xs)).length)))).fst e)) ∧ (∀ (e : Nat), e < xs.length → eT.Ok (eT.els xs e)) ∧ (∀ (e : Nat), e < (ofC (eT.lst (min ((eT.lst xs.length (eT.els xs)).length + (1 : Nat)) (eT.lst xs.length (eT.els xs)).length) (eT.els (eT.lst xs.length (eT.els xs))) ++ List.map (fun x => t) (List.range ((eT.lst xs.length (eT.els xs)).length + (1 : Nat) - (eT.lst xs.length (eT.els xs)).length)))).fst.length → eT.Ok (eT.els (ofC (eT.lst (min ((eT.lst xs.length (eT.els xs)).length + (1 : Nat)) (eT.lst xs.length (eT.els xs)).length) (eT.els (eT.lst xs.length (eT.els xs))) ++ List.map (fun x => t) (List.range ((eT.lst xs.length (eT.els xs)).length + (1 : Nat) - (eT.lst xs.length (eT.els xs)).length)))).fst e)) ∧ ∀ (d : List T × Bool × Int), (eT.lst (ofC (eT.lst (min ((eT.lst xs.length (eT.els xs)).length + (1 : Nat)) (eT.lst xs.length (eT.els xs)).length) (eT.els (eT.lst xs.length (eT.els xs))) ++ List.map (fun x => t) (List.range ((eT.lst xs.length (eT.els xs)).length + (1 : Nat) - (eT.lst xs.length (eT.els xs)).length)))).fst.length (eT.els (ofC (eT.lst (min ((eT.lst xs.length (eT.els xs)).length + (1 : Nat)) (eT.lst xs.length (eT.els xs)).length) (eT.els (eT.lst xs.length (eT.els xs))) ++ List.map (fun x => t) (List.range ((eT.lst xs.length (eT.els xs)).length + (1 : Nat) - (eT.lst xs.length (eT.els xs)).length)))).fst), !decide (eT.lst (ofC (eT.lst (min ((eT.lst xs.length (eT.els xs)).length + (1 : Nat)) (eT.lst xs.length (eT.els xs)).length) (eT.els (eT.lst xs.length (eT.els xs))) ++ List.map (fun x => t) (List.range ((eT.lst xs.length (eT.els xs)).length + (1 : Nat) - (eT.lst xs.length (eT.els xs)).length)))).fst.length (eT.els (ofC (eT.lst (min ((eT.lst xs.length (eT.els xs)).length + (1 : Nat)) (eT.lst xs.length (eT.els xs)).length) (eT.els (eT.lst xs.length (eT.els xs))) ++ List.map (fun x => t) (List.range ((eT.lst xs.length (eT.els xs)).length + (1 : Nat) - (eT.lst xs.length (eT.els xs)).length)))).fst) = eT.lst xs.length (eT.els xs)), (0 : Int)) = bif (ofC (eT.lst (min ((eT.lst xs.length (eT.els xs)).length + (1 : Nat)) (eT.lst xs.length (eT.els xs)).length) (eT.els (eT.lst xs.length (eT.els xs))) ++ List.map (fun x => t) (List.range ((eT.lst xs.length (eT.els xs)).length + (1 : Nat) - (eT.lst xs.length (eT.els xs)).length)))).snd != (0 : Int) then ([], false, (ofC (eT.lst (min ((eT.lst xs.length (eT.els xs)).length + (1 : Nat)) (eT.lst xs.length (eT.els xs)).length) (eT.els (eT.lst xs.length (eT.els xs))) ++ List.map (fun x => t) (List.range ((eT.lst xs.length (eT.els xs)).length + (1 : Nat) - (eT.lst xs.length (eT.els xs)).length)))).snd) else (eT.lst (ofC (eT.lst (min ((eT.lst xs.length (eT.els xs)).length + (1 : Nat)) (eT.lst xs.length (eT.els xs)).length) (eT.els (eT.lst xs.length (eT.els xs))) ++ List.map (fun x => t) (List.range ((eT.lst xs.length (eT.els xs)).length + (1 : Nat) - (eT.lst xs.length (eT.els xs)).length)))).fst.length (eT.els (ofC (eT.lst (min ((eT.lst xs.length (eT.els xs)).length + (1 : Nat)) (eT.lst xs.length (eT.els xs)).length) (eT.els (eT.lst xs.length (eT.els xs))) ++ List.map (fun x => t) (List.range ((eT.lst xs.length (eT.els xs)).length + (1 : Nat) - (eT.lst xs.length (eT.els xs)).length)))).fst), !decide (eT.lst (ofC (eT.lst (min ((eT.lst xs.length (eT.els xs)).length + (1 : Nat)) (eT.lst xs.length (eT.els xs)).length) (eT.els (eT.lst xs.length (eT.els xs))) ++ List.map (fun x => t) (List.range ((eT.lst xs.length (eT.els xs)).length + (1 : Nat) - (eT.lst xs.length (eT.els xs)).length)))).fst.length (eT.els (ofC (eT.lst (min ((eT.lst xs.length (eT.els xs)).length + (1 : Nat)) (eT.lst xs.length (eT.els xs)).length) (eT.els (eT.lst xs.length (eT.els xs))) ++ List.map (fun x => t) (List.range ((eT.lst xs.length (eT.els xs)).length + (1 : Nat) - (eT.lst xs.length (eT.els xs)).length)))).fst) = eT.lst xs.length (eT.els xs)), (0 : Int)))) ∧ (cs.isEmpty = false → (∀ (e : Nat), e < xs.length → eT.Ok (eT.els xs e)) ∧ (eT.lst xs.length (eT.els xs)).length ≤ KS ∧ ((eT.lst xs.length (eT.els xs)).length ≤ (eT.lst xs.length (eT.els xs)).length ∧ True ∧ (eT.lst xs.length (eT.els xs)).length + (1 : Nat) ≤ maxLen ∧ ((eT.lst xs.length (eT.els xs)).length + (1 : Nat)) * Try.prog.types[(30 : Nat)].bytes ≤ (140737488355328 : Nat)) ∧ (eT.lst xs.length (eT.els xs)).length + (1 : Nat) ≤ (eT.lst xs.length (eT.els xs)).length + (1 : Nat) ∧ (∀ (e : Nat), e < min ((eT.lst xs.length (eT.els xs)).length + (1 : Nat)) (eT.lst xs.length (eT.els xs)).length → True) ∧ (∀ (e : Nat), e < (eT.lst xs.length (eT.els xs)).length + (1 : Nat) - (eT.lst xs.length (eT.els xs)).length → True) ∧ (eT.lst (min ((eT.lst xs.length (eT.els xs)).length + (1 : Nat)) (eT.lst xs.length (eT.els xs)).length) (eT.els (eT.lst xs.length (eT.els xs))) ++ List.map (fun x => t) (List.range ((eT.lst xs.length (eT.els xs)).length + (1 : Nat) - (eT.lst xs.length (eT.els xs)).length))).length ≤ KS ∧ (((ofC (eT.lst (min ((eT.lst xs.length (eT.els xs)).length + (1 : Nat)) (eT.lst xs.length (eT.els xs)).length) (eT.els (eT.lst xs.length (eT.els xs))) ++ List.map (fun x => t) (List.range ((eT.lst xs.length (eT.els xs)).length + (1 : Nat) - (eT.lst xs.length (eT.els xs)).length)))).snd != (0 : Int)) = true → ∀ (d : List T × Bool × Int), ([], false, (ofC (eT.lst (min ((eT.lst xs.length (eT.els xs)).length + (1 : Nat)) (eT.lst xs.length (eT.els xs)).length) (eT.els (eT.lst xs.length (eT.els xs))) ++ List.map (fun x => t) (List.range ((eT.lst xs.length (eT.els xs)).length + (1 : Nat) - (eT.lst xs.length (eT.els xs)).length)))).snd) = bif (ofC (eT.lst (min ((eT.lst xs.length (eT.els xs)).length + (1 : Nat)) (eT.lst xs.length (eT.els xs)).length) (eT.els (eT.lst xs.length (eT.els xs))) ++ List.map (fun x => t) (List.range ((eT.lst xs.length (eT.els xs)).length + (1 : Nat) - (eT.lst xs.length (eT.els xs)).length)))).snd != (0 : Int) then ([], false, (ofC (eT.lst (min ((eT.lst xs.length (eT.els xs)).length + (1 : Nat)) (eT.lst xs.length (eT.els xs)).length) (eT.els (eT.lst xs.length (eT.els xs))) ++ List.map (fun x => t) (List.range ((eT.lst xs.length (eT.els xs)).length + (1 : Nat) - (eT.lst xs.length (eT.els xs)).length)))).snd) else (eT.lst (ofC (eT.lst (min ((eT.lst xs.length (eT.els xs)).length + (1 : Nat)) (eT.lst xs.length (eT.els xs)).length) (eT.els (eT.lst xs.length (eT.els xs))) ++ List.map (fun x => t) (List.range ((eT.lst xs.length (eT.els xs)).length + (1 : Nat) - (eT.lst xs.length (eT.els xs)).length)))).fst.length (eT.els (ofC (eT.lst (min ((eT.lst xs.length (eT.els xs)).length + (1 : Nat)) (eT.lst xs.length (eT.els xs)).length) (eT.els (eT.lst xs.length (eT.els xs))) ++ List.map (fun x => t) (List.range ((eT.lst xs.length (eT.els xs)).length + (1 : Nat) - (eT.lst xs.length (eT.els xs)).length)))).fst), !decide (eT.lst (ofC (eT.lst (min ((eT.lst xs.length (eT.els xs)).length + (1 : Nat)) (eT.lst xs.length (eT.els xs)).length) (eT.els (eT.lst xs.length (eT.els xs))) ++ List.map (fun x => t) (List.range ((eT.lst xs.length (eT.els xs)).length + (1 : Nat) - (eT.lst xs.length (eT.els xs)).length)))).fst.length (eT.els (ofC (eT.lst (min ((eT.lst xs.length (eT.els xs)).length + (1 : Nat)) (eT.lst xs.length (eT.els xs)).length) (eT.els (eT.lst xs.length (eT.els xs))) ++ List.map (fun x => t) (List.range ((eT.lst xs.length (eT.els xs)).length + (1 : Nat) - (eT.lst xs.length (eT.els xs)).length)))).fst) = eT.lst xs.length (eT.els xs)), (0 : Int))) ∧ (((ofC (eT.lst (min ((eT.lst xs.length (eT.els xs)).length + (1 : Nat)) (eT.lst xs.length (eT.els xs)).length) (eT.els (eT.lst xs.length (eT.els xs))) ++ List.map (fun x => t) (List.range ((eT.lst xs.length (eT.els xs)).length + (1 : Nat) - (eT.lst xs.length (eT.els xs)).length)))).snd != (0 : Int)) = false → (∀ (e : Nat), e < (ofC (eT.lst (min ((eT.lst xs.length (eT.els xs)).length + (1 : Nat)) (eT.lst xs.length (eT.els xs)).length) (eT.els (eT.lst xs.length (eT.els xs))) ++ List.map (fun x => t) (List.range ((eT.lst xs.length (eT.els xs)).length + (1 : Nat) - (eT.lst xs.length (eT.els xs)).length)))).fst.length → eT.Ok (eT.els (ofC (eT.lst (min ((eT.lst xs.length (eT.els xs)).length + (1 : Nat)) (eT.lst xs.length (eT.els xs)).length) (eT.els (eT.lst xs.length (eT.els xs))) ++ List.map (fun x => t) (List.range ((eT.lst xs.length (eT.els xs)).length + (1 : Nat) - (eT.lst xs.length (eT.els xs)).length)))).fst e)) ∧ (∀ (e : Nat), e < xs.length → eT.Ok (eT.els xs e)) ∧ (∀ (e : Nat), e < (ofC (eT.lst (min ((eT.lst xs.length (eT.els xs)).length + (1 : Nat)) (eT.lst xs.length (eT.els xs)).length) (eT.els (eT.lst xs.length (eT.els xs))) ++ List.map (fun x => t) (List.range ((eT.lst xs.length (eT.els xs)).length + (1 : Nat) - (eT.lst xs.length (eT.els xs)).length)))).fst.length → eT.Ok (eT.els (ofC (eT.lst (min ((eT.lst xs.length (eT.els xs)).length + (1 : Nat)) (eT.lst xs.length (eT.els xs)).length) (eT.els (eT.lst xs.length (eT.els xs))) ++ List.map (fun x => t) (List.range ((eT.lst xs.length (eT.els xs)).length + (1 : Nat) - (eT.lst xs.length (eT.els xs)).length)))).fst e)) ∧ ∀ (d : List T × Bool × Int), (eT.lst (ofC (eT.lst (min ((eT.lst xs.length (eT.els xs)).length + (1 : Nat)) (eT.lst xs.length (eT.els xs)).length) (eT.els (eT.lst xs.length (eT.els xs))) ++ List.map (fun x => t) (List.range ((eT.lst xs.length (eT.els xs)).length + (1 : Nat) - (eT.lst xs.length (eT.els xs)).length)))).fst.length (eT.els (ofC (eT.lst (min ((eT.lst xs.length (eT.els xs)).length + (1 : Nat)) (eT.lst xs.length (eT.els xs)).length) (eT.els (eT.lst xs.length (eT.els xs))) ++ List.map (fun x => t) (List.range ((eT.lst xs.length (eT.els xs)).length + (1 : Nat) - (eT.lst xs.length (eT.els xs)).length)))).fst), !decide (eT.lst (ofC (eT.lst (min ((eT.lst xs.length (eT.els xs)).length + (1 : Nat)) (eT.lst xs.length (eT.els xs)).length) (eT.els (eT.lst xs.length (eT.els xs))) ++ List.map (fun x => t) (List.range ((eT.lst xs.length (eT.els xs)).length + (1 : Nat) - (eT.lst xs.length (eT.els xs)).length)))).fst.length (eT.els (ofC (eT.lst (min ((eT.lst xs.length (eT.els xs)).length + (1 : Nat)) (eT.lst xs.length (eT.els xs)).length) (eT.els (eT.lst xs.length (eT.els xs))) ++ List.map (fun x => t) (List.range ((eT.lst xs.length (eT.els xs)).length + (1 : Nat) - (eT.lst xs.length (eT.els xs)).length)))).fst) = eT.lst xs.length (eT.els xs)), (0 : Int)) = bif (ofC (eT.lst (min ((eT.lst xs.length (eT.els xs)).length + (1 : Nat)) (eT.lst xs.length (eT.els xs)).length) (eT.els (eT.lst xs.length (eT.els xs))) ++ List.map (fun x => t) (List.range ((eT.lst xs.length (eT.els xs)).length + (1 : Nat) - (eT.lst xs.length (eT.els xs)).length)))).snd != (0 : Int) then ([], false, (ofC (eT.lst (min ((eT.lst xs.length (eT.els xs)).length + (1 : Nat)) (eT.lst xs.length (eT.els xs)).length) (eT.els (eT.lst xs.length (eT.els xs))) ++ List.map (fun x => t) (List.range ((eT.lst xs.length (eT.els xs)).length + (1 : Nat) - (eT.lst xs.length (eT.els xs)).length)))).snd) else (eT.lst (ofC (eT.lst (min ((eT.lst xs.length (eT.els xs)).length + (1 : Nat)) (eT.lst xs.length (eT.els xs)).length) (eT.els (eT.lst xs.length (eT.els xs))) ++ List.map (fun x => t) (List.range ((eT.lst xs.length (eT.els xs)).length + (1 : Nat) - (eT.lst xs.length (eT.els xs)).length)))).fst.length (eT.els (ofC (eT.lst (min ((eT.lst xs.length (eT.els xs)).length + (1 : Nat)) (eT.lst xs.length (eT.els xs)).length) (eT.els (eT.lst xs.length (eT.els xs))) ++ List.map (fun x => t) (List.range ((eT.lst xs.length (eT.els xs)).length + (1 : Nat) - (eT.lst xs.length (eT.els xs)).length)))).fst), !decide (eT.lst (ofC (eT.lst (min ((eT.lst xs.length (eT.els xs)).length + (1 : Nat)) (eT.lst xs.length (eT.els xs)).length) (eT.els (eT.lst xs.length (eT.els xs))) ++ List.map (fun x => t) (List.range ((eT.lst xs.length (eT.els xs)).length + (1 : Nat) - (eT.lst xs.length (eT.els xs)).length)))).fst.length (eT.els (ofC (eT.lst (min ((eT.lst xs.length (eT.els xs)).length + (1 : Nat)) (eT.lst xs.length (eT.els xs)).length) (eT.els (eT.lst xs.length (eT.els xs))) ++ List.map (fun x => t) (List.range ((eT.lst xs.length (eT.els xs)).length + (1 : Nat) - (eT.lst xs.length (eT.els xs)).length)))).fst) = eT.lst xs.length (eT.els xs)), (0 : Int)))))))
theorem cins_okS (pre : DA.T aLT → List Prop) (h : ∀ g, DA.bd aLT g → (∀ p ∈ pre g, p) → cins_side g.1 g.2) : FnPure Try.prog 24 aLT dLBE (fun g => cins_F g.1 g.2) pre := pure_of_sideS (Γ := (MTab.gamz tabIn [] [])) (Λ := noΛ) (MTab.okz tabIn [] []) noΛ_ok 100 default (fun g => cins_side g.1 g.2) (fun g => by kernel_rfl) (fun g => by kernel_rfl) h
noncomputable def tabXL1 : MTab Try.prog := tabIn
end Go.Proofs.Ytiipneclghnfhaa

/- Chapter 3: chain.Insert: its contract. -/
namespace Go.Proofs.Ytiipneclghnfhaa
open Go.RowKit Go.Sx Go.Lp
theorem bad_hd {xs : List T} {t : T} (hc : chkC xs = 0) (h : (decide ((xs.length : Int) > 0) && (xs.getD (0 : Nat) eT.dflt).d != t.d) = true) (ht : t.Ok) : badC (xs ++ [t]) = 11 := by
  rw [Bool.and_eq_true] at h
  cases xs with
  | nil => simp at h
  | cons p r =>
    have hp := (bad_iff _).1 ((chk_iff _).1 hc).2.1
    have hd : p.d ≠ t.d := by simpa using h.2
    have h1 : ((p :: r ++ [t]).any fun v => tcheck_F v != 0) = false := by
      rw [List.any_eq_false]
      intro x hx
      have : x.Ok := by
        rcases List.mem_append.1 hx with h | h
        · exact hp.1 x h
        · rw [List.mem_singleton.1 h]; exact ht
      simpa using (tcheck_iff x).2 this
    have h2 : (p :: r ++ [t]).any (difD (p :: r ++ [t])) = true := by
      rw [List.any_eq_true]
      refine ⟨t, by simp, ?_⟩
      show (t.d != p.d) = true
      simpa using fun e : t.d = p.d => hd e.symm
    unfold badC
    rw [h1, h2]
    rfl
set_option maxHeartbeats 4000000 in
theorem cins_eq (xs : List T) (t : T) : cins_F xs t = insC xs t ∧ cins_side xs t := by
  have ha := okT xs
  have hb := okT (ofC (xs ++ [t])).1
  have hone := fun e => onesT xs e
  unfold cins_F cins_side
  simp only [eT.lst_els, lst_app1, bytesT]
  refine ⟨?_, ?_⟩
  · unfold insC
    cases h1 : (chkC xs != 0) with
    | true => rfl
    | false =>
      cases h2 : (tcheck_F t != 0) with
      | true => rfl
      | false =>
        cases h3 : (decide ((xs.length : Int) > 0) && (xs.getD (0 : Nat) eT.dflt).d != t.d) with
        | false => rfl
        | true =>
          have hbad := bad_hd (bne_eq_false_iff_eq.1 h1) h3 ((tcheck_iff t).1 (bne_eq_false_iff_eq.1 h2))
          have ho : (ofC (xs ++ [t])).2 = 11 := by unfold ofC; rw [hbad]; rfl
          simp only [ho, cond_false, cond_true]
          rfl
  · refine ⟨ha, fun hc _ => ?_⟩
    have hl := chk_len hc
    have hk : (xs ++ [t]).length ≤ KS := by unfold KS; simp; omega
    have hk2 : xs.length ≤ KS := by unfold KS; omega
    unfold maxLen
    repeat' (first | exact ha | exact hb | exact hk | exact hk2 | exact hone _ | exact rfl | apply And.intro | intro _)
    all_goals (first | trivial | omega | (rename_i h0; exact of_decide_eq_true h0) | (rename_i h0 _; rw [h0]; rfl) | (rename_i h0 _; simp only [h0, cond_true, cond_false]))
theorem cins_ok : FnPure Try.prog 24 aLT dLBE (fun g => insC g.1 g.2) (fun _ => []) :=
  pure_congr (cins_okS _ fun g _ _ => (cins_eq g.1 g.2).2) fun g _ _ => (cins_eq g.1 g.2).1
noncomputable def tabIns : MTab Try.prog := tabC.cons 24 (pconR aLT dLBE (fun g => insC g.1 g.2) (fun _ => [])) (conR_ok cins_ok)
end Go.Proofs.Ytiipneclghnfhaa

/- Chapter 3: the times of a list, gathered: the loop. Printed by treegen.py. -/
namespace Go.Proofs.Ytiipneclghnfhaa
open Go.RowKit Go.Sx
set_option maxRecDepth 100000
set_option linter.unusedVariables false
abbrev cl_G : Type := Int × Int × Unit × List T × Nat × List T × LoopState × Option Code
noncomputable def cl_LP : LP 8 cl_G := .pair (.slot 8 6 dI) (.pair (.slot 8 7 dI) (.pair (.fix 8 0 (.yl 7)) (.pair (.objRow 8 5 22 30 eT) (.pair (.owl 8 5 3) (.pair (.rowO 8 3 30 eT) (.rf 8 7 Try.prog 92 0 13 [(2, .p 5 0)] 6))))))
noncomputable def cl_R (n : Int) (i : Int) (_u : Unit) (out : List T) (l : Nat) (xs : List T) : Ex × cl_G :=
  bif decide (i < n) then (Ex.normal, n, IntKind.i64.wrap (i + (1 : Int)), (), eT.lst (min (out.length + (1 : Nat)) out.length) (eT.els out) ++ List.map (fun x => xs.getD i.toNat eT.dflt) (List.range (out.length + (1 : Nat) - out.length)), l, eT.lst xs.length (eT.els xs), LoopState.ready, none)
  else (Ex.exit (0 : Nat), n, i, (), eT.lst out.length (eT.els out), l, eT.lst xs.length (eT.els xs), LoopState.ready, none)
def cl_side (n : Int) (i : Int) (_u : Unit) (out : List T) (l : Nat) (xs : List T) : Prop :=
  (decide (i < n) = true → ((0 : Int) ≤ i ∧ i < (↑l : Int)) ∧ i.toNat < xs.length ∧ (out.length ≤ out.length ∧ True ∧ out.length + (1 : Nat) ≤ maxLen ∧ (out.length + (1 : Nat)) * Try.prog.types[(30 : Nat)].bytes ≤ (140737488355328 : Nat)) ∧ out.length + (1 : Nat) ≤ out.length + (1 : Nat) ∧ (∀ (e : Nat), e < min (out.length + (1 : Nat)) out.length → True) ∧ (∀ (e : Nat), e < out.length + (1 : Nat) - out.length → True) ∧ (∀ (e : Nat), e < xs.length → True) ∧ CodeIs (rangeOf Try.prog (92 : Nat) (0 : Nat)).snd.fst (rangeOf Try.prog (92 : Nat) (0 : Nat)).snd.fst ∧ CodeIs (rangeOf Try.prog (92 : Nat) (0 : Nat)).snd.snd (rangeOf Try.prog (92 : Nat) (0 : Nat)).snd.snd) ∧ (decide (i < n) = false → out.length ≤ out.length ∧ (∀ (e : Nat), e < out.length → True) ∧ (∀ (e : Nat), e < xs.length → True) ∧ CodeIs (rangeOf Try.prog (92 : Nat) (0 : Nat)).snd.fst (rangeOf Try.prog (92 : Nat) (0 : Nat)).snd.fst ∧ CodeIs (rangeOf Try.prog (92 : Nat) (0 : Nat)).snd.snd (rangeOf Try.prog (92 : Nat) (0 : Nat)).snd.snd)
theorem cl_one : ((loopsOf Try.prog 119).filter fun c => Nat.beq (lkey c) 1).length = 1 := by kernel_rfl
abbrev cl_GC : Type := Int × Nat × List T
abbrev cl_GB : Type := Unit × List T × LoopState × Option Code
def cl_f (g : cl_G) : Int × cl_GC × cl_GB := (g.2.1, (g.1, g.2.2.2.2.1, g.2.2.2.2.2.1), (g.2.2.1, g.2.2.2.1, g.2.2.2.2.2.2))
def cl_g (d : Int × cl_GC × cl_GB) : cl_G := (d.2.1.1, d.1, d.2.2.1, d.2.2.2.1, d.2.1.2.1, d.2.1.2.2, d.2.2.2.2)
def cl_E : List ((Ex × cl_G → Bool) × Ex × (cl_G → cl_G)) := [(fun x => exB (.exit 0) x.1, .exit 0, fun g => (g.1, g.2.1, g.2.2.1, g.2.2.2.1, g.2.2.2.2.1, g.2.2.2.2.2.1, (.ready, none)))]
theorem cl_es (g : cl_G) : (cl_R g.1 g.2.1 g.2.2.1 g.2.2.2.1 g.2.2.2.2.1 g.2.2.2.2.2.1).1 = .normal ∨ exitsOk (cl_R g.1 g.2.1 g.2.2.1 g.2.2.2.1 g.2.2.2.2.1 g.2.2.2.2.2.1) cl_E := by
  unfold cl_R
  repeat' (first | (left; rfl) | (right; exact ⟨rfl, rfl⟩) | (rw [Bool.cond_eq_ite]; split))
noncomputable abbrev cl_C (Inv : cl_G → List Prop) (m : cl_G → Nat) : LCon := loopRS cl_E (loopBody Try.prog 119 1) cl_LP [] 16 Inv (fun g => cl_R g.1 g.2.1 g.2.2.1 g.2.2.2.1 g.2.2.2.2.1 g.2.2.2.2.2.1) m
noncomputable def cl_i (g : cl_G) : cl_G := (g.1, g.2.1, g.2.2.1, g.2.2.2.1, g.2.2.2.2.1, g.2.2.2.2.2.1, (LoopState.ready, none))
theorem cl_loop (Inv : cl_G → List Prop) (m : cl_G → Nat) (hs : ∀ g, allP (Inv g) → cl_side g.1 g.2.1 g.2.2.1 g.2.2.2.1 g.2.2.2.2.1 g.2.2.2.2.2.1) (hι : ∀ g, allP (Inv g) → cl_i g = g) (hg : Goes (fun g : cl_G => cl_R g.1 g.2.1 g.2.2.1 g.2.2.2.1 g.2.2.2.2.1 g.2.2.2.2.2.1) m fun g => allP (Inv g)) : ∀ b ∈ loopsOf Try.prog 119, lkey b = 1 → LoopOk Try.prog b (cl_C Inv m).g := loop_runS cl_i (Γ := (MTab.gamz tabIns [] [])) (Λ := noΛ) (MTab.okz tabIns [] []) noΛ_ok 100 119 1 16 cl_LP [] Inv (fun g => cl_R g.1 g.2.1 g.2.2.1 g.2.2.2.1 g.2.2.2.2.1 g.2.2.2.2.2.1) (fun g => cl_side g.1 g.2.1 g.2.2.1 g.2.2.2.1 g.2.2.2.2.1 g.2.2.2.2.2.1) m default cl_E cl_one (fun rd T B HL HB ds g => by kernel_rfl) (fun rd T B HL HB ds g => by kernel_rfl) hι hs hg cl_es
noncomputable def tabXM2 : MTab Try.prog := tabIns
end Go.Proofs.Ytiipneclghnfhaa

/- Chapter 3: the times of a list, gathered: the loop's contract. -/
namespace Go.Proofs.Ytiipneclghnfhaa
open Go.RowKit Go.Sx Go.Lp
noncomputable def cl_S (_ : cl_GC) (b : cl_GB) (_ : Int) (v : T) : Ex × cl_GB := (.normal, (), b.2.1 ++ [v], .ready, none)
def cl_K (c : cl_GC) (b : cl_GB) (i : Int) : Prop := b.2.2 = (LoopState.ready, (none : Option Code)) ∧ c.2.1 = c.2.2.length ∧ c.2.2.length ≤ KS ∧ (List.length b.2.1 : Int) ≤ i
abbrev cl_I (g : cl_G) : List Prop := ixI (fun c : cl_GC => c.1) (fun c => c.2.2) cl_K (cl_f g)
abbrev cl_M (g : cl_G) : Nat := ixM (fun c : cl_GC => c.1) (cl_f g)
theorem cl_P : ixP cl_S (fun c : cl_GC => c.2.2) cl_K := by
  rintro ⟨n, l, xs⟩ ⟨⟨⟩, out, f⟩ i a ⟨h1, h2, h3, h4⟩ _ _
  refine ⟨rfl, h2, h3, ?_⟩
  have h4 : (List.length out : Int) ≤ (i : Int) := h4
  show ((out ++ [a]).length : Int) ≤ (i : Int) + 1
  rw [List.length_append]
  simp only [List.length_cons, List.length_nil]
  omega
noncomputable abbrev cl_RR (g : cl_G) : Ex × cl_G := cl_R g.1 g.2.1 g.2.2.1 g.2.2.2.1 g.2.2.2.2.1 g.2.2.2.2.2.1
theorem cl_RF (d : Int × cl_GC × cl_GB) (hi : allP (ixI (fun c : cl_GC => c.1) (fun c => c.2.2) cl_K d)) : cl_RR (cl_g d) = ((ixF 0 (fun c : cl_GC => c.1) (fun c => c.2.2) eT.dflt cl_S d).1, cl_g (ixF 0 (fun c : cl_GC => c.1) (fun c => c.2.2) eT.dflt cl_S d).2) := by
  obtain ⟨hb, _⟩ := (hi _ (List.mem_cons_self ..)).2.2.2.2
  obtain ⟨i, ⟨n, l, xs⟩, ⟨⟨⟩, out, f⟩⟩ := d
  have hb : f = (LoopState.ready, (none : Option Code)) := hb
  subst hb
  show cl_R n i () out l xs = _
  unfold cl_R ixF cl_S
  simp only [eT.lst_els, lst_app1]
  cases decide (i < n) <;> rfl
theorem cl_ok : ∀ b ∈ loopsOf Try.prog 119, lkey b = 1 → LoopOk Try.prog b (cl_C cl_I cl_M).g := by
  refine cl_loop cl_I cl_M (fun g hi => ?_) (fun g hi => ?_) (ix_conj_goes (fun _ => rfl) (fun _ => rfl) cl_RF cl_P)
  · obtain ⟨n, i, ⟨⟩, out, l, xs, ⟨st, pd⟩⟩ := g
    obtain ⟨h1, h2, h3, h4, h5, h6, h7, h8⟩ := hi _ (List.mem_cons_self ..)
    have h1 : n = (xs.length : Int) := h1
    have h3 : 0 ≤ i := h3
    have h6 : l = xs.length := h6
    have h7 : xs.length ≤ KS := h7
    have h8 : (List.length out : Int) ≤ i := h8
    have h4 : i ≤ (xs.length : Int) := h4
    unfold KS at h7
    show cl_side n i () out l xs
    unfold cl_side
    simp only [bytesT, decide_eq_true_eq, decide_eq_false_iff_not]
    subst h6
    clear hi
    unfold maxLen
    repeat' (first | exact rfl | apply And.intro | intro _)
    all_goals (first | trivial | omega)
  · obtain ⟨n, i, ⟨⟩, out, l, xs, ⟨st, pd⟩⟩ := g
    have h5 := (hi _ (List.mem_cons_self ..)).2.2.2.2.1
    have h5 : (st, pd) = (LoopState.ready, (none : Option Code)) := h5
    cases h5
    rfl
theorem cl_run (xs : List T) (h : xs.length ≤ KS) : loopF cl_RR cl_M ((xs.length : Int), 0, (), [], xs.length, xs, (.ready, none)) = (.exit 0, (xs.length : Int), (xs.length : Int), (), xs, xs.length, xs, (.ready, none)) := by
  have hm : xs.length ≤ maxLen := by unfold KS at h; unfold maxLen; omega
  have hr : loopF cl_RR cl_M ((xs.length : Int), 0, (), [], xs.length, xs, (.ready, none)) = _ := ix_conj_run (φ := cl_f) (ψ := cl_g) (fun _ => rfl) (fun _ => rfl) cl_RF cl_P ((xs.length : Int), xs.length, xs) ((), [], .ready, none) rfl hm ⟨rfl, rfl, h, by show (0 : Int) ≤ 0; omega⟩
  have hf : ∀ (l b : List T), l.foldl (fun (b : cl_GB) (v : T) => ((), b.2.1 ++ [v], LoopState.ready, (none : Option Code))) ((), b, LoopState.ready, (none : Option Code)) = ((), b ++ l, LoopState.ready, none) := by
    intro l
    induction l with
    | nil => intro b; simp
    | cons a l ih => intro b; rw [List.foldl_cons, ih]; simp
  have hs := scan_fold (x := 0) (st := cl_S ((xs.length : Int), xs.length, xs)) (f := fun (b : cl_GB) (v : T) => ((), b.2.1 ++ [v], LoopState.ready, (none : Option Code))) (fun _ _ _ => rfl) xs 0 ((), [], LoopState.ready, none)
  rw [hf] at hs
  rw [hr]
  show ((scan 0 (cl_S ((xs.length : Int), xs.length, xs)) 0 xs ((), [], .ready, none)).1, cl_g ((scan 0 (cl_S ((xs.length : Int), xs.length, xs)) 0 xs ((), [], .ready, none)).2.1, ((xs.length : Int), xs.length, xs), (scan 0 (cl_S ((xs.length : Int), xs.length, xs)) 0 xs ((), [], .ready, none)).2.2)) = _
  rw [hs, Int.zero_add]
  rfl
end Go.Proofs.Ytiipneclghnfhaa

/- Chapter 3: the times of nothing, gathered: the loop. Printed by treegen.py. -/
namespace Go.Proofs.Ytiipneclghnfhaa
open Go.RowKit Go.Sx
set_option maxRecDepth 100000
set_option linter.unusedVariables false
abbrev cz_G : Type := Int × Int × Unit × List T × Unit × LoopState × Option Code
noncomputable def cz_LP : LP 6 cz_G := .pair (.slot 6 6 dI) (.pair (.slot 6 7 dI) (.pair (.fix 6 0 (.yl 5)) (.pair (.objRow 6 3 22 30 eT) (.pair (.fix 6 5 (.k (.slice none 0 0))) (.rf 6 5 Try.prog 92 0 13 [(2, .p 3 0)] 4)))))
noncomputable def cz_R (n : Int) (i : Int) (_u : Unit) (out : List T) (_u2 : Unit) : Ex × cz_G :=
  bif decide (i < n) then default
  else (Ex.exit (0 : Nat), n, i, (), eT.lst out.length (eT.els out), (), LoopState.ready, none)
def cz_side (n : Int) (i : Int) (_u : Unit) (out : List T) (_u2 : Unit) : Prop :=
  (decide (i < n) = true → False) ∧ (decide (i < n) = false → out.length ≤ out.length ∧ (∀ (e : Nat), e < out.length → True) ∧ CodeIs (rangeOf Try.prog (92 : Nat) (0 : Nat)).snd.fst (rangeOf Try.prog (92 : Nat) (0 : Nat)).snd.fst ∧ CodeIs (rangeOf Try.prog (92 : Nat) (0 : Nat)).snd.snd (rangeOf Try.prog (92 : Nat) (0 : Nat)).snd.snd)
theorem cz_one : ((loopsOf Try.prog 119).filter fun c => Nat.beq (lkey c) 1).length = 1 := by kernel_rfl
abbrev cz_GC : Type := Int
abbrev cz_GB : Type := Unit × List T × Unit × LoopState × Option Code
def cz_f (g : cz_G) : Int × cz_GC × cz_GB := (g.2.1, g.1, (g.2.2.1, g.2.2.2.1, g.2.2.2.2.1, g.2.2.2.2.2))
def cz_g (d : Int × cz_GC × cz_GB) : cz_G := (d.2.1, d.1, d.2.2.1, d.2.2.2.1, d.2.2.2.2.1, d.2.2.2.2.2)
def cz_E : List ((Ex × cz_G → Bool) × Ex × (cz_G → cz_G)) := [(fun x => exB (.exit 0) x.1, .exit 0, fun g => (g.1, g.2.1, g.2.2.1, g.2.2.2.1, g.2.2.2.2.1, (.ready, none)))]
theorem cz_es (g : cz_G) : (cz_R g.1 g.2.1 g.2.2.1 g.2.2.2.1 g.2.2.2.2.1).1 = .normal ∨ exitsOk (cz_R g.1 g.2.1 g.2.2.1 g.2.2.2.1 g.2.2.2.2.1) cz_E := by
  unfold cz_R
  repeat' (first | (left; rfl) | (right; exact ⟨rfl, rfl⟩) | (rw [Bool.cond_eq_ite]; split))
noncomputable abbrev cz_C (Inv : cz_G → List Prop) (m : cz_G → Nat) : LCon := loopRS cz_E (loopBody Try.prog 119 1) cz_LP [] 16 Inv (fun g => cz_R g.1 g.2.1 g.2.2.1 g.2.2.2.1 g.2.2.2.2.1) m
noncomputable def cz_i (g : cz_G) : cz_G := (g.1, g.2.1, g.2.2.1, g.2.2.2.1, g.2.2.2.2.1, (LoopState.ready, none))
theorem cz_loop (Inv : cz_G → List Prop) (m : cz_G → Nat) (hs : ∀ g, allP (Inv g) → cz_side g.1 g.2.1 g.2.2.1 g.2.2.2.1 g.2.2.2.2.1) (hι : ∀ g, allP (Inv g) → cz_i g = g) (hg : Goes (fun g : cz_G => cz_R g.1 g.2.1 g.2.2.1 g.2.2.2.1 g.2.2.2.2.1) m fun g => allP (Inv g)) : ∀ b ∈ loopsOf Try.prog 119, lkey b = 1 → LoopOk Try.prog b (cz_C Inv m).g := loop_runS cz_i (Γ := (MTab.gamz tabIns [] [])) (Λ := noΛ) (MTab.okz tabIns [] []) noΛ_ok 100 119 1 16 cz_LP [] Inv (fun g => cz_R g.1 g.2.1 g.2.2.1 g.2.2.2.1 g.2.2.2.2.1) (fun g => cz_side g.1 g.2.1 g.2.2.1 g.2.2.2.1 g.2.2.2.2.1) m default cz_E cz_one (fun rd T B HL HB ds g => by kernel_rfl) (fun rd T B HL HB ds g => by kernel_rfl) hι hs hg cz_es
noncomputable def tabXM4 : MTab Try.prog := tabIns
end Go.Proofs.Ytiipneclghnfhaa

/- Chapter 3: the times of nothing, gathered: the loop's contract. -/
namespace Go.Proofs.Ytiipneclghnfhaa
open Go.RowKit Go.Sx Go.Lp
def czX (_ : cz_GC) : List T := []
def cz_S (_ : cz_GC) (b : cz_GB) (_ : Int) (_ : T) : Ex × cz_GB := (.normal, b)
def cz_K (_ : cz_GC) (b : cz_GB) (_ : Int) : Prop := b.2.2.2 = (LoopState.ready, (none : Option Code))
abbrev cz_I (g : cz_G) : List Prop := ixI (fun c : cz_GC => c) czX cz_K (cz_f g)
abbrev cz_M (g : cz_G) : Nat := ixM (fun c : cz_GC => c) (cz_f g)
theorem cz_P : ixP cz_S czX cz_K := fun _ _ _ _ h _ _ => h
noncomputable abbrev cz_RR (g : cz_G) : Ex × cz_G := cz_R g.1 g.2.1 g.2.2.1 g.2.2.2.1 g.2.2.2.2.1
theorem cz_RF (d : Int × cz_GC × cz_GB) (hi : allP (ixI (fun c : cz_GC => c) czX cz_K d)) : cz_RR (cz_g d) = ((ixF 0 (fun c : cz_GC => c) czX eT.dflt cz_S d).1, cz_g (ixF 0 (fun c : cz_GC => c) czX eT.dflt cz_S d).2) := by
  obtain ⟨h1, _, h3, h4, hb⟩ := hi _ (List.mem_cons_self ..)
  obtain ⟨i, n, ⟨⟩, out, ⟨⟩, f⟩ := d
  have kb : f = (LoopState.ready, (none : Option Code)) := hb
  have k1 : n = (0 : Int) := h1
  have k3 : 0 ≤ i := h3
  clear hi h1 h3 h4 hb
  cases kb
  cases k1
  have hc : decide (i < 0) = false := decide_eq_false (by omega)
  show cz_R 0 i () out () = _
  unfold cz_R ixF cz_S
  simp only [eT.lst_els, hc, cond_false]
  rfl
theorem cz_ok : ∀ b ∈ loopsOf Try.prog 119, lkey b = 1 → LoopOk Try.prog b (cz_C cz_I cz_M).g := by
  refine cz_loop cz_I cz_M (fun g hi => ?_) (fun g hi => ?_) (ix_conj_goes (fun _ => rfl) (fun _ => rfl) cz_RF cz_P)
  · obtain ⟨n, i, ⟨⟩, out, ⟨⟩, ⟨st, pd⟩⟩ := g
    obtain ⟨h1, h2, h3, h4, h5⟩ := hi _ (List.mem_cons_self ..)
    have k1 : n = (0 : Int) := h1
    have k3 : 0 ≤ i := h3
    clear hi h1 h2 h3 h4 h5
    cases k1
    show cz_side 0 i () out ()
    unfold cz_side
    simp only [decide_eq_true_eq, decide_eq_false_iff_not]
    repeat' (first | exact rfl | apply And.intro | intro _)
    all_goals (first | trivial | omega)
  · obtain ⟨n, i, ⟨⟩, out, ⟨⟩, ⟨st, pd⟩⟩ := g
    have h5 := (hi _ (List.mem_cons_self ..)).2.2.2.2
    have h5 : (st, pd) = (LoopState.ready, (none : Option Code)) := h5
    cases h5
    rfl
theorem cz_run : loopF cz_RR cz_M (0, 0, (), [], (), (.ready, none)) = (.exit 0, 0, 0, (), [], (), (.ready, none)) := by
  have hr : loopF cz_RR cz_M (0, 0, (), [], (), (.ready, none)) = _ := ix_conj_run (φ := cz_f) (ψ := cz_g) (fun _ => rfl) (fun _ => rfl) cz_RF cz_P (0 : Int) ((), [], (), .ready, none) rfl (Nat.zero_le _) rfl
  rw [hr]
  rfl
noncomputable def ltCo : LTab Try.prog := LTab.nil.cons 119 1 (lconAlt 8 (cl_C cl_I cl_M) (cz_C cz_I cz_M)) (fun b hb hk => altL_ok (cl_ok b hb hk) (cz_ok b hb hk))
noncomputable abbrev lamCo : Lam := ltCo.lam
theorem lamCo_ok : ∀ f k L, lamCo f k = some L → ∀ b ∈ loopsOf Try.prog f, lkey b = k → LoopOk Try.prog b L.g := ltCo.ok
end Go.Proofs.Ytiipneclghnfhaa

/- Chapter 3: the law ChainOf. Printed by treegen.py. -/
namespace Go.Proofs.Ytiipneclghnfhaa
open Go.RowKit Go.Sx
set_option maxRecDepth 100000
set_option linter.unusedVariables false
noncomputable def lof_q1 (xs : List T) (t : T) : Ex ×
  cz_G :=
  loopF (fun g => cz_R g.fst g.snd.fst g.snd.snd.fst g.snd.snd.snd.fst g.snd.snd.snd.snd.fst) cz_M ((0 : Int), (0 : Int), (), [], (), LoopState.ready, none)
noncomputable def lof_q2 (xs : List T) (t : T) : Ex ×
  cl_G :=
  loopF (fun g => cl_R g.fst g.snd.fst g.snd.snd.fst g.snd.snd.snd.fst g.snd.snd.snd.snd.fst g.snd.snd.snd.snd.snd.fst) cl_M ((↑((0 : Nat) + xs.length) : Int), (0 : Int), (), [], (0 : Nat) + xs.length, List.map (fun x => eT.get []) (List.range (min ((0 : Nat) + xs.length) (0 : Nat))) ++ eT.lst ((0 : Nat) + xs.length - (0 : Nat)) (eT.els xs), LoopState.ready, none)
noncomputable def lof_F (xs : List T) (t : T) : Dv.T dBool :=
  bif decide ((↑xs.length : Int) > (40 : Int)) then true
  else bif chkC (eT.lst xs.length (eT.els xs)) != (0 : Int) then decide (eT.lst (ofC (eT.lst xs.length (eT.els xs))).fst.length (eT.els (ofC (eT.lst xs.length (eT.els xs))).fst) = eT.lst (ofC (eT.lst xs.length (eT.els xs))).fst.length (eT.els (ofC (eT.lst xs.length (eT.els xs))).fst)) && ((ofC (eT.lst xs.length (eT.els xs))).snd == (ofC (eT.lst xs.length (eT.els xs))).snd && (decide (eT.lst (insC (eT.lst xs.length (eT.els xs)) t).fst.length (eT.els (insC (eT.lst xs.length (eT.els xs)) t).fst) = eT.lst (insC (eT.lst xs.length (eT.els xs)) t).fst.length (eT.els (insC (eT.lst xs.length (eT.els xs)) t).fst)) && ((insC (eT.lst xs.length (eT.els xs)) t).snd.fst == (insC (eT.lst xs.length (eT.els xs)) t).snd.fst && ((insC (eT.lst xs.length (eT.els xs)) t).snd.snd == (insC (eT.lst xs.length (eT.els xs)) t).snd.snd && (chkC (eT.lst xs.length (eT.els xs)) == chkC (eT.lst xs.length (eT.els xs)) && decide (eT.lst (lof_q1 xs t).snd.snd.snd.snd.fst.length (ElE.fn (eT.els (lof_q1 xs t).snd.snd.snd.snd.fst)).at = eT.lst (bif chkC (eT.lst xs.length (eT.els xs)) != (0 : Int) then (0 : Nat) else xs.length) (eT.els xs))))))) else decide (eT.lst (ofC (eT.lst xs.length (eT.els xs))).fst.length (eT.els (ofC (eT.lst xs.length (eT.els xs))).fst) = eT.lst (ofC (eT.lst xs.length (eT.els xs))).fst.length (eT.els (ofC (eT.lst xs.length (eT.els xs))).fst)) && ((ofC (eT.lst xs.length (eT.els xs))).snd == (ofC (eT.lst xs.length (eT.els xs))).snd && (decide (eT.lst (insC (eT.lst xs.length (eT.els xs)) t).fst.length (eT.els (insC (eT.lst xs.length (eT.els xs)) t).fst) = eT.lst (insC (eT.lst xs.length (eT.els xs)) t).fst.length (eT.els (insC (eT.lst xs.length (eT.els xs)) t).fst)) && ((insC (eT.lst xs.length (eT.els xs)) t).snd.fst == (insC (eT.lst xs.length (eT.els xs)) t).snd.fst && ((insC (eT.lst xs.length (eT.els xs)) t).snd.snd == (insC (eT.lst xs.length (eT.els xs)) t).snd.snd && (chkC (eT.lst xs.length (eT.els xs)) == chkC (eT.lst xs.length (eT.els xs)) && decide (eT.lst (lof_q2 xs t).snd.snd.snd.snd.fst.length (ElE.fn (eT.els (lof_q2 xs t).snd.snd.snd.snd.fst)).at = eT.lst (bif chkC (eT.lst xs.length (eT.els xs)) != (0 : Int) then (0 : Nat) else xs.length) (eT.els xs)))))))
def lof_side (xs : List T) (t : T) : Prop :=
  (!true) = false → decide ((↑xs.length : Int) > (40 : Int)) = false → (∀ (e : Nat), e < xs.length → eT.Ok (eT.els xs e)) ∧ (eT.lst xs.length (eT.els xs)).length ≤ KS ∧ (∀ (e : Nat), e < xs.length → eT.Ok (eT.els xs e)) ∧ (eT.lst xs.length (eT.els xs)).length ≤ KS ∧ (∀ (e : Nat), e < xs.length → eT.Ok (eT.els xs e)) ∧ (∀ (e : Nat), e < xs.length → eT.Ok (eT.els xs e)) ∧ (∀ (e : Nat), e < xs.length → eT.Ok (eT.els xs e)) ∧ ((chkC (eT.lst xs.length (eT.els xs)) != (0 : Int)) = true → CodeIs (rangeOf Try.prog (92 : Nat) (0 : Nat)).snd.fst (rangeOf Try.prog (92 : Nat) (0 : Nat)).snd.fst ∧ CodeIs (rangeOf Try.prog (92 : Nat) (0 : Nat)).snd.snd (rangeOf Try.prog (92 : Nat) (0 : Nat)).snd.snd ∧ Lp.ixJ (fun c => c) czX cz_K (cz_f ((0 : Int), (0 : Int), (), [], (), LoopState.ready, none)) ∧ (∀ (e : Nat), e < xs.length → eT.Ok (eT.els xs e)) ∧ (∀ (e : Nat), e < (ofC (eT.lst xs.length (eT.els xs))).fst.length → eT.Ok (eT.els (ofC (eT.lst xs.length (eT.els xs))).fst e)) ∧ (∀ (e : Nat), e < (ofC (eT.lst xs.length (eT.els xs))).fst.length → eT.Ok (eT.els (ofC (eT.lst xs.length (eT.els xs))).fst e)) ∧ (decide (eT.lst (ofC (eT.lst xs.length (eT.els xs))).fst.length (eT.els (ofC (eT.lst xs.length (eT.els xs))).fst) = eT.lst (ofC (eT.lst xs.length (eT.els xs))).fst.length (eT.els (ofC (eT.lst xs.length (eT.els xs))).fst)) = true → ((ofC (eT.lst xs.length (eT.els xs))).snd == (ofC (eT.lst xs.length (eT.els xs))).snd) = true → ∀ (e : Nat), e < (insC (eT.lst xs.length (eT.els xs)) t).fst.length → eT.Ok (eT.els (insC (eT.lst xs.length (eT.els xs)) t).fst e)) ∧ (decide (eT.lst (ofC (eT.lst xs.length (eT.els xs))).fst.length (eT.els (ofC (eT.lst xs.length (eT.els xs))).fst) = eT.lst (ofC (eT.lst xs.length (eT.els xs))).fst.length (eT.els (ofC (eT.lst xs.length (eT.els xs))).fst)) = true → ((ofC (eT.lst xs.length (eT.els xs))).snd == (ofC (eT.lst xs.length (eT.els xs))).snd) = true → ∀ (e : Nat), e < (insC (eT.lst xs.length (eT.els xs)) t).fst.length → eT.Ok (eT.els (insC (eT.lst xs.length (eT.els xs)) t).fst e)) ∧ (decide (eT.lst (ofC (eT.lst xs.length (eT.els xs))).fst.length (eT.els (ofC (eT.lst xs.length (eT.els xs))).fst) = eT.lst (ofC (eT.lst xs.length (eT.els xs))).fst.length (eT.els (ofC (eT.lst xs.length (eT.els xs))).fst)) = true → ((ofC (eT.lst xs.length (eT.els xs))).snd == (ofC (eT.lst xs.length (eT.els xs))).snd) = true → decide (eT.lst (insC (eT.lst xs.length (eT.els xs)) t).fst.length (eT.els (insC (eT.lst xs.length (eT.els xs)) t).fst) = eT.lst (insC (eT.lst xs.length (eT.els xs)) t).fst.length (eT.els (insC (eT.lst xs.length (eT.els xs)) t).fst)) = true → ((insC (eT.lst xs.length (eT.els xs)) t).snd.fst == (insC (eT.lst xs.length (eT.els xs)) t).snd.fst) = true → ((insC (eT.lst xs.length (eT.els xs)) t).snd.snd == (insC (eT.lst xs.length (eT.els xs)) t).snd.snd) = true → ∀ (e : Nat), e < xs.length → eT.Ok (eT.els xs e)) ∧ (decide (eT.lst (ofC (eT.lst xs.length (eT.els xs))).fst.length (eT.els (ofC (eT.lst xs.length (eT.els xs))).fst) = eT.lst (ofC (eT.lst xs.length (eT.els xs))).fst.length (eT.els (ofC (eT.lst xs.length (eT.els xs))).fst)) = true → ((ofC (eT.lst xs.length (eT.els xs))).snd == (ofC (eT.lst xs.length (eT.els xs))).snd) = true → decide (eT.lst (insC (eT.lst xs.length (eT.els xs)) t).fst.length (eT.els (insC (eT.lst xs.length (eT.els xs)) t).fst) = eT.lst (insC (eT.lst xs.length (eT.els xs)) t).fst.length (eT.els (insC (eT.lst xs.length (eT.els xs)) t).fst)) = true → ((insC (eT.lst xs.length (eT.els xs)) t).snd.fst == (insC (eT.lst xs.length (eT.els xs)) t).snd.fst) = true → ((insC (eT.lst xs.length (eT.els xs)) t).snd.snd == (insC (eT.lst xs.length (eT.els xs)) t).snd.snd) = true → ∀ (e : Nat), e < xs.length → eT.Ok (eT.els xs e)) ∧ (decide (eT.lst (ofC (eT.lst xs.length (eT.els xs))).fst.length (eT.els (ofC (eT.lst xs.length (eT.els xs))).fst) = eT.lst (ofC (eT.lst xs.length (eT.els xs))).fst.length (eT.els (ofC (eT.lst xs.length (eT.els xs))).fst)) = true → ((ofC (eT.lst xs.length (eT.els xs))).snd == (ofC (eT.lst xs.length (eT.els xs))).snd) = true → decide (eT.lst (insC (eT.lst xs.length (eT.els xs)) t).fst.length (eT.els (insC (eT.lst xs.length (eT.els xs)) t).fst) = eT.lst (insC (eT.lst xs.length (eT.els xs)) t).fst.length (eT.els (insC (eT.lst xs.length (eT.els xs)) t).fst)) = true → ((insC (eT.lst xs.length (eT.els xs)) t).snd.fst == (insC (eT.lst xs.length (eT.els xs)) t).snd.fst) = true → ((insC (eT.lst xs.length (eT.els xs)) t).snd.snd == (insC (eT.lst xs.length (eT.els xs)) t).snd.snd) = true → (chkC (eT.lst xs.length (eT.els xs)) == chkC (eT.lst xs.length (eT.els xs))) = true → (lof_q1 xs t).snd.snd.snd.snd.fst.length ≤ (lof_q1 xs t).snd.snd.snd.snd.fst.length) ∧ (decide (eT.lst (ofC (eT.lst xs.length (eT.els xs))).fst.length (eT.els (ofC (eT.lst xs.length (eT.els xs))).fst) = eT.lst (ofC (eT.lst xs.length (eT.els xs))).fst.length (eT.els (ofC (eT.lst xs.length (eT.els xs))).fst)) = true → ((ofC (eT.lst xs.length (eT.els xs))).snd == (ofC (eT.lst xs.length (eT.els xs))).snd) = true → decide (eT.lst (insC (eT.lst xs.length (eT.els xs)) t).fst.length (eT.els (insC (eT.lst xs.length (eT.els xs)) t).fst) = eT.lst (insC (eT.lst xs.length (eT.els xs)) t).fst.length (eT.els (insC (eT.lst xs.length (eT.els xs)) t).fst)) = true → ((insC (eT.lst xs.length (eT.els xs)) t).snd.fst == (insC (eT.lst xs.length (eT.els xs)) t).snd.fst) = true → ((insC (eT.lst xs.length (eT.els xs)) t).snd.snd == (insC (eT.lst xs.length (eT.els xs)) t).snd.snd) = true → (chkC (eT.lst xs.length (eT.els xs)) == chkC (eT.lst xs.length (eT.els xs))) = true → ∀ (e : Nat), e < (lof_q1 xs t).snd.snd.snd.snd.fst.length → eT.Ok ((ElE.fn (eT.els (lof_q1 xs t).snd.snd.snd.snd.fst)).at e)) ∧ (decide (eT.lst (ofC (eT.lst xs.length (eT.els xs))).fst.length (eT.els (ofC (eT.lst xs.length (eT.els xs))).fst) = eT.lst (ofC (eT.lst xs.length (eT.els xs))).fst.length (eT.els (ofC (eT.lst xs.length (eT.els xs))).fst)) = true → ((ofC (eT.lst xs.length (eT.els xs))).snd == (ofC (eT.lst xs.length (eT.els xs))).snd) = true → decide (eT.lst (insC (eT.lst xs.length (eT.els xs)) t).fst.length (eT.els (insC (eT.lst xs.length (eT.els xs)) t).fst) = eT.lst (insC (eT.lst xs.length (eT.els xs)) t).fst.length (eT.els (insC (eT.lst xs.length (eT.els xs)) t).fst)) = true → ((insC (eT.lst xs.length (eT.els xs)) t).snd.fst == (insC (eT.lst xs.length (eT.els xs)) t).snd.fst) = true → ((insC (eT.lst xs.length (eT.els xs)) t).snd.snd == (insC (eT.lst xs.length (eT.els xs)) t).snd.snd) = true → (chkC (eT.lst xs.length (eT.els xs)) == chkC (eT.lst xs.length (eT.els xs))) = true → ∀ (e : Nat), (e < bif chkC (eT.lst xs.length (eT.els xs)) != (0 : Int) then (0 : Nat) else xs.length) → eT.Ok (eT.els xs e))) ∧ ((chkC (eT.lst xs.length (eT.els xs)) != (0 : Int)) = false → ∀ (cs : List Nat), (cs.isEmpty = false → xs.length = (0 : Nat)) → ((false != !cs.isEmpty) = true → CodeIs (rangeOf Try.prog (92 : Nat) (0 : Nat)).snd.fst (rangeOf Try.prog (92 : Nat) (0 : Nat)).snd.fst ∧ CodeIs (rangeOf Try.prog (92 : Nat) (0 : Nat)).snd.snd (rangeOf Try.prog (92 : Nat) (0 : Nat)).snd.snd ∧ Lp.ixJ (fun c => c) czX cz_K (cz_f ((0 : Int), (0 : Int), (), [], (), LoopState.ready, none)) ∧ (∀ (e : Nat), e < xs.length → eT.Ok (eT.els xs e)) ∧ (∀ (e : Nat), e < (ofC (eT.lst xs.length (eT.els xs))).fst.length → eT.Ok (eT.els (ofC (eT.lst xs.length (eT.els xs))).fst e)) ∧ (∀ (e : Nat), e < (ofC (eT.lst xs.length (eT.els xs))).fst.length → eT.Ok (eT.els (ofC (eT.lst xs.length (eT.els xs))).fst e)) ∧ (decide (eT.lst (ofC (eT.lst xs.length (eT.els xs))).fst.length (eT.els (ofC (eT.lst xs.length (eT.els xs))).fst) = eT.lst (ofC (eT.lst xs.length (eT.els xs))).fst.length (eT.els (ofC (eT.lst xs.length (eT.els xs))).fst)) = true → ((ofC (eT.lst xs.length (eT.els xs))).snd == (ofC (eT.lst xs.length (eT.els xs))).snd) = true → ∀ (e : Nat), e < (insC (eT.lst xs.length (eT.els xs)) t).fst.length → eT.Ok (eT.els (insC (eT.lst xs.length (eT.els xs)) t).fst e)) ∧ (decide (eT.lst (ofC (eT.lst xs.length (eT.els xs))).fst.length (eT.els (ofC (eT.lst xs.length (eT.els xs))).fst) = eT.lst (ofC (eT.lst xs.length (eT.els xs))).fst.length (eT.els (ofC (eT.lst xs.length (eT.els xs))).fst)) = true → ((ofC (eT.lst xs.length (eT.els xs))).snd == (ofC (eT.lst xs.length (eT.els xs))).snd) = true → ∀ (e : Nat), e < (insC (eT.lst xs.length (eT.els xs)) t).fst.length → eT.Ok (eT.els (insC (eT.lst xs.length (eT.els xs)) t).fst e)) ∧ (decide (eT.lst (ofC (eT.lst xs.length (eT.els xs))).fst.length (eT.els (ofC (eT.lst xs.length (eT.els xs))).fst) = eT.lst (ofC (eT.lst xs.length (eT.els xs))).fst.length (eT.els (ofC (eT.lst xs.length (eT.els xs))).fst)) = true → ((ofC (eT.lst xs.length (eT.els xs))).snd == (ofC (eT.lst xs.length (eT.els xs))).snd) = true → decide (eT.lst (insC (eT.lst xs.length (eT.els xs)) t).fst.length (eT.els (insC (eT.lst xs.length (eT.els xs)) t).fst) = eT.lst (insC (eT.lst xs.length (eT.els xs)) t).fst.length (eT.els (insC (eT.lst xs.length (eT.els xs)) t).fst)) = true → ((insC (eT.lst xs.length (eT.els xs)) t).snd.fst == (insC (eT.lst xs.length (eT.els xs)) t).snd.fst) = true → ((insC (eT.lst xs.length (eT.els xs)) t).snd.snd == (insC (eT.lst xs.length (eT.els xs)) t).snd.snd) = true → ∀ (e : Nat), e < xs.length → eT.Ok (eT.els xs e)) ∧ (decide (eT.lst (ofC (eT.lst xs.length (eT.els xs))).fst.length (eT.els (ofC (eT.lst xs.length (eT.els xs))).fst) = eT.lst (ofC (eT.lst xs.length (eT.els xs))).fst.length (eT.els (ofC (eT.lst xs.length (eT.els xs))).fst)) = true → ((ofC (eT.lst xs.length (eT.els xs))).snd == (ofC (eT.lst xs.length (eT.els xs))).snd) = true → decide (eT.lst (insC (eT.lst xs.length (eT.els xs)) t).fst.length (eT.els (insC (eT.lst xs.length (eT.els xs)) t).fst) = eT.lst (insC (eT.lst xs.length (eT.els xs)) t).fst.length (eT.els (insC (eT.lst xs.length (eT.els xs)) t).fst)) = true → ((insC (eT.lst xs.length (eT.els xs)) t).snd.fst == (insC (eT.lst xs.length (eT.els xs)) t).snd.fst) = true → ((insC (eT.lst xs.length (eT.els xs)) t).snd.snd == (insC (eT.lst xs.length (eT.els xs)) t).snd.snd) = true → ∀ (e : Nat), e < xs.length → eT.Ok (eT.els xs e)) ∧ (decide (eT.lst (ofC (eT.lst xs.length (eT.els xs))).fst.length (eT.els (ofC (eT.lst xs.length (eT.els xs))).fst) = eT.lst (ofC (eT.lst xs.length (eT.els xs))).fst.length (eT.els (ofC (eT.lst xs.length (eT.els xs))).fst)) = true → ((ofC (eT.lst xs.length (eT.els xs))).snd == (ofC (eT.lst xs.length (eT.els xs))).snd) = true → decide (eT.lst (insC (eT.lst xs.length (eT.els xs)) t).fst.length (eT.els (insC (eT.lst xs.length (eT.els xs)) t).fst) = eT.lst (insC (eT.lst xs.length (eT.els xs)) t).fst.length (eT.els (insC (eT.lst xs.length (eT.els xs)) t).fst)) = true → ((insC (eT.lst xs.length (eT.els xs)) t).snd.fst == (insC (eT.lst xs.length (eT.els xs)) t).snd.fst) = true → ((insC (eT.lst xs.length (eT.els xs)) t).snd.snd == (insC (eT.lst xs.length (eT.els xs)) t).snd.snd) = true → (chkC (eT.lst xs.length (eT.els xs)) == chkC (eT.lst xs.length (eT.els xs))) = true → (lof_q1 xs t).snd.snd.snd.snd.fst.length ≤ (lof_q1 xs t).snd.snd.snd.snd.fst.length) ∧ (decide (eT.lst (ofC (eT.lst xs.length (eT.els xs))).fst.length (eT.els (ofC (eT.lst xs.length (eT.els xs))).fst) = eT.lst (ofC (eT.lst xs.length (eT.els xs))).fst.length (eT.els (ofC (eT.lst xs.length (eT.els xs))).fst)) = true → ((ofC (eT.lst xs.length (eT.els xs))).snd == (ofC (eT.lst xs.length (eT.els xs))).snd) = true → decide (eT.lst (insC (eT.lst xs.length (eT.els xs)) t).fst.length (eT.els (insC (eT.lst xs.length (eT.els xs)) t).fst) = eT.lst (insC (eT.lst xs.length (eT.els xs)) t).fst.length (eT.els (insC (eT.lst xs.length (eT.els xs)) t).fst)) = true → ((insC (eT.lst xs.length (eT.els xs)) t).snd.fst == (insC (eT.lst xs.length (eT.els xs)) t).snd.fst) = true → ((insC (eT.lst xs.length (eT.els xs)) t).snd.snd == (insC (eT.lst xs.length (eT.els xs)) t).snd.snd) = true → (chkC (eT.lst xs.length (eT.els xs)) == chkC (eT.lst xs.length (eT.els xs))) = true → ∀ (e : Nat), e < (lof_q1 xs t).snd.snd.snd.snd.fst.length → eT.Ok ((ElE.fn (eT.els (lof_q1 xs t).snd.snd.snd.snd.fst)).at e)) ∧ (decide (eT.lst (ofC (eT.lst xs.length (eT.els xs))).fst.length (eT.els (ofC (eT.lst xs.length (eT.els xs))).fst) = eT.lst (ofC (eT.lst xs.length (eT.els xs))).fst.length (eT.els (ofC (eT.lst xs.length (eT.els xs))).fst)) = true → ((ofC (eT.lst xs.length (eT.els xs))).snd == (ofC (eT.lst xs.length (eT.els xs))).snd) = true → decide (eT.lst (insC (eT.lst xs.length (eT.els xs)) t).fst.length (eT.els (insC (eT.lst xs.length (eT.els xs)) t).fst) = eT.lst (insC (eT.lst xs.length (eT.els xs)) t).fst.length (eT.els (insC (eT.lst xs.length (eT.els xs)) t).fst)) = true → ((insC (eT.lst xs.length (eT.els xs)) t).snd.fst == (insC (eT.lst xs.length (eT.els xs)) t).snd.fst) = true → ((insC (eT.lst xs.length (eT.els xs)) t).snd.snd == (insC (eT.lst xs.length (eT.els xs)) t).snd.snd) = true → (chkC (eT.lst xs.length (eT.els xs)) == chkC (eT.lst xs.length (eT.els xs))) = true → ∀ (e : Nat), (e < bif chkC (eT.lst xs.length (eT.els xs)) != (0 : Int) then (0 : Nat) else xs.length) → eT.Ok (eT.els xs e)) ∧ ∀ (d : Bool), (decide (eT.lst (ofC (eT.lst xs.length (eT.els xs))).fst.length (eT.els (ofC (eT.lst xs.length (eT.els xs))).fst) = eT.lst (ofC (eT.lst xs.length (eT.els xs))).fst.length (eT.els (ofC (eT.lst xs.length (eT.els xs))).fst)) && ((ofC (eT.lst xs.length (eT.els xs))).snd == (ofC (eT.lst xs.length (eT.els xs))).snd && (decide (eT.lst (insC (eT.lst xs.length (eT.els xs)) t).fst.length (eT.els (insC (eT.lst xs.length (eT.els xs)) t).fst) = eT.lst (insC (eT.lst xs.length (eT.els xs)) t).fst.length (eT.els (insC (eT.lst xs.length (eT.els xs)) t).fst)) && ((insC (eT.lst xs.length (eT.els xs)) t).snd.fst == (insC (eT.lst xs.length (eT.els xs)) t).snd.fst && ((insC (eT.lst xs.length (eT.els xs)) t).snd.snd == (insC (eT.lst xs.length (eT.els xs)) t).snd.snd && (chkC (eT.lst xs.length (eT.els xs)) == chkC (eT.lst xs.length (eT.els xs)) && decide (eT.lst (lof_q1 xs t).snd.snd.snd.snd.fst.length (ElE.fn (eT.els (lof_q1 xs t).snd.snd.snd.snd.fst)).at = eT.lst (bif chkC (eT.lst xs.length (eT.els xs)) != (0 : Int) then (0 : Nat) else xs.length) (eT.els xs)))))))) = (decide (eT.lst (ofC (eT.lst xs.length (eT.els xs))).fst.length (eT.els (ofC (eT.lst xs.length (eT.els xs))).fst) = eT.lst (ofC (eT.lst xs.length (eT.els xs))).fst.length (eT.els (ofC (eT.lst xs.length (eT.els xs))).fst)) && ((ofC (eT.lst xs.length (eT.els xs))).snd == (ofC (eT.lst xs.length (eT.els xs))).snd && (decide (eT.lst (insC (eT.lst xs.length (eT.els xs)) t).fst.length (eT.els (insC (eT.lst xs.length (eT.els xs)) t).fst) = eT.lst (insC (eT.lst xs.length (eT.els xs)) t).fst.length (eT.els (insC (eT.lst xs.length (eT.els xs)) t).fst)) && ((insC (eT.lst xs.length (eT.els xs)) t).snd.fst == (insC (eT.lst xs.length (eT.els xs)) t).snd.fst && ((insC (eT.lst xs.length (eT.els xs)) t).snd.snd == (insC (eT.lst xs.length (eT.els xs)) t).snd.snd && (chkC (eT.lst xs.length (eT.els xs)) == chkC (eT.lst xs.length (eT.els xs)) && decide (eT.lst (lof_q2 xs t).snd.snd.snd.snd.fst.length (ElE.fn (eT.els (lof_q2 xs t).snd.snd.snd.snd.fst)).at = eT.lst (bif chkC (eT.lst xs.length (eT.els xs)) != (0 : Int) then (0 : Nat) else xs.length) (eT.els xs))))))))) ∧ ((false != !cs.isEmpty) = false → ((0 : Nat) ≤ (0 : Nat) ∧ (∀ (e : Nat), e < xs.length → (eT.els xs e).all SV.one = true) ∧ (0 : Nat) + xs.length ≤ maxLen ∧ ((0 : Nat) + xs.length) * Try.prog.types[(30 : Nat)].bytes ≤ (140737488355328 : Nat)) ∧ (∀ (e : Nat), e < min ((0 : Nat) + xs.length) (0 : Nat) → eT.OkP []) ∧ (∀ (e : Nat), e < (0 : Nat) + xs.length - (0 : Nat) → True) ∧ CodeIs (rangeOf Try.prog (92 : Nat) (0 : Nat)).snd.fst (rangeOf Try.prog (92 : Nat) (0 : Nat)).snd.fst ∧ CodeIs (rangeOf Try.prog (92 : Nat) (0 : Nat)).snd.snd (rangeOf Try.prog (92 : Nat) (0 : Nat)).snd.snd ∧ Lp.ixJ (fun c => c.fst) (fun c => c.snd.snd) cl_K (cl_f ((↑((0 : Nat) + xs.length) : Int), (0 : Int), (), [], (0 : Nat) + xs.length, List.map (fun x => eT.get []) (List.range (min ((0 : Nat) + xs.length) (0 : Nat))) ++ eT.lst ((0 : Nat) + xs.length - (0 : Nat)) (eT.els xs), LoopState.ready, none)) ∧ (∀ (e : Nat), e < xs.length → eT.Ok (eT.els xs e)) ∧ (∀ (e : Nat), e < (ofC (eT.lst xs.length (eT.els xs))).fst.length → eT.Ok (eT.els (ofC (eT.lst xs.length (eT.els xs))).fst e)) ∧ (∀ (e : Nat), e < (ofC (eT.lst xs.length (eT.els xs))).fst.length → eT.Ok (eT.els (ofC (eT.lst xs.length (eT.els xs))).fst e)) ∧ (decide (eT.lst (ofC (eT.lst xs.length (eT.els xs))).fst.length (eT.els (ofC (eT.lst xs.length (eT.els xs))).fst) = eT.lst (ofC (eT.lst xs.length (eT.els xs))).fst.length (eT.els (ofC (eT.lst xs.length (eT.els xs))).fst)) = true → ((ofC (eT.lst xs.length (eT.els xs))).snd == (ofC (eT.lst xs.length (eT.els xs))).snd) = true → ∀ (e : Nat), e < (insC (eT.lst xs.length (eT.els xs)) t).fst.length → eT.Ok (eT.els (insC (eT.lst xs.length (eT.els xs)) t).fst e)) ∧ (decide (eT.lst (ofC (eT.lst xs.length (eT.els xs))).fst.length (eT.els (ofC (eT.lst xs.length (eT.els xs))).fst) = eT.lst (ofC (eT.lst xs.length (eT.els xs))).fst.length (eT.els (ofC (eT.lst xs.length (eT.els xs))).fst)) = true → ((ofC (eT.lst xs.length (eT.els xs))).snd == (ofC (eT.lst xs.length (eT.els xs))).snd) = true → ∀ (e : Nat), e < (insC (eT.lst xs.length (eT.els xs)) t).fst.length → eT.Ok (eT.els (insC (eT.lst xs.length (eT.els xs)) t).fst e)) ∧ (decide (eT.lst (ofC (eT.lst xs.length (eT.els xs))).fst.length (eT.els (ofC (eT.lst xs.length (eT.els xs))).fst) = eT.lst (ofC (eT.lst xs.length (eT.els xs))).fst.length (eT.els (ofC (eT.lst xs.length (eT.els xs))).fst)) = true → ((ofC (eT.lst xs.length (eT.els xs))).snd == (ofC (eT.lst xs.length (eT.els xs))).snd) = true → decide (eT.lst (insC (eT.lst xs.length (eT.els xs)) t).fst.length (eT.els (insC (eT.lst xs.length (eT.els xs)) t).fst) = eT.lst (insC (eT.lst xs.length (eT.els xs)) t).fst.length (eT.els (insC (eT.lst xs.length (eT.els xs)) t).fst)) = true → ((insC (eT.lst xs.length (eT.els xs)) t).snd.fst == (insC (eT.lst xs.length (eT.els xs)) t).snd.fst) = true → ((insC (eT.lst xs.length (eT.els xs)) t).snd.snd == (insC (eT.lst xs.length (eT.els xs)) t).snd.snd) = true → ∀ (e : Nat), e < xs.length → eT.Ok (eT.els xs e)) ∧ (decide (eT.lst (ofC (eT.lst xs.length (eT.els xs))).fst.length (eT.els (ofC (eT.lst xs.length (eT.els xs))).fst) = eT.lst (ofC (eT.lst xs.length (eT.els xs))).fst.length (eT.els (ofC (eT.lst xs.length (eT.els xs))).fst)) = true → ((ofC (eT.lst xs.length (eT.els xs))).snd == (ofC (eT.lst xs.length (eT.els xs))).snd) = true → decide (eT.lst (insC (eT.lst xs.length (eT.els xs)) t).fst.length (eT.els (insC (eT.lst xs.length (eT.els xs)) t).fst) = eT.lst (insC (eT.lst xs.length (eT.els xs)) t).fst.length (eT.els (insC (eT.lst xs.length (eT.els xs)) t).fst)) = true → ((insC (eT.lst xs.length (eT.els xs)) t).snd.fst == (insC (eT.lst xs.length (eT.els xs)) t).snd.fst) = true → ((insC (eT.lst xs.length (eT.els xs)) t).snd.snd == (insC (eT.lst xs.length (eT.els xs)) t).snd.snd) = true → ∀ (e : Nat), e < xs.length → eT.Ok (eT.els xs e)) ∧ (decide (eT.lst (ofC (eT.lst xs.length (eT.els xs))).fst.length (eT.els (ofC (eT.lst xs.length (eT.els xs))).fst) = eT.lst (ofC (eT.lst xs.length (eT.els xs))).fst.length (eT.els (ofC (eT.lst xs.length (eT.els xs))).fst)) = true → ((ofC (eT.lst xs.length (eT.els xs))).snd == (ofC (eT.lst xs.length (eT.els xs))).snd) = true → decide (eT.lst (insC (eT.lst xs.length (eT.els xs)) t).fst.length (eT.els (insC (eT.lst xs.length (eT.els xs)) t).fst) = eT.lst (insC (eT.lst xs.length (eT.els xs)) t).fst.length (eT.els (insC (eT.lst xs.length (eT.els xs)) t).fst)) = true → ((insC (eT.lst xs.length (eT.els xs)) t).snd.fst == (insC (eT.lst xs.length (eT.els xs)) t).snd.fst) = true → ((insC (eT.lst xs.length (eT.els xs)) t).snd.snd == (insC (eT.lst xs.length (eT.els xs)) t).snd.snd) = true → (chkC (eT.lst xs.length (eT.els xs)) == chkC (eT.lst xs.length (eT.els xs))) = true → (lof_q2 xs t).snd.snd.snd.snd.fst.length ≤ (lof_q2 xs t).snd.snd.snd.snd.fst.length) ∧ (decide (eT.lst (ofC (eT.lst xs.length (eT.els xs))).fst.length (eT.els (ofC (eT.lst xs.length (eT.els xs))).fst) = eT.lst (ofC (eT.lst xs.length (eT.els xs))).fst.length (eT.els (ofC (eT.lst xs.length (eT.els xs))).fst)) = true → ((ofC (eT.lst xs.length (eT.els xs))).snd == (ofC (eT.lst xs.length (eT.els xs))).snd) = true → decide (eT.lst (insC (eT.lst xs.length (eT.els xs)) t).fst.length (eT.els (insC (eT.lst xs.length (eT.els xs)) t).fst) = eT.lst (insC (eT.lst xs.length (eT.els xs)) t).fst.length (eT.els (insC (eT.lst xs.length (eT.els xs)) t).fst)) = true → ((insC (eT.lst xs.length (eT.els xs)) t).snd.fst == (insC (eT.lst xs.length (eT.els xs)) t).snd.fst) = true → ((insC (eT.lst xs.length (eT.els xs)) t).snd.snd == (insC (eT.lst xs.length (eT.els xs)) t).snd.snd) = true → (chkC (eT.lst xs.length (eT.els xs)) == chkC (eT.lst xs.length (eT.els xs))) = true → ∀ (e : Nat), e < (lof_q2 xs t).snd.snd.snd.snd.fst.length → eT.Ok ((ElE.fn (eT.els (lof_q2 xs t).snd.snd.snd.snd.fst)).at e)) ∧ (decide (eT.lst (ofC (eT.lst xs.length (eT.els xs))).fst.length (eT.els (ofC (eT.lst xs.length (eT.els xs))).fst) = eT.lst (ofC (eT.lst xs.length (eT.els xs))).fst.length (eT.els (ofC (eT.lst xs.length (eT.els xs))).fst)) = true → ((ofC (eT.lst xs.length (eT.els xs))).snd == (ofC (eT.lst xs.length (eT.els xs))).snd) = true → decide (eT.lst (insC (eT.lst xs.length (eT.els xs)) t).fst.length (eT.els (insC (eT.lst xs.length (eT.els xs)) t).fst) = eT.lst (insC (eT.lst xs.length (eT.els xs)) t).fst.length (eT.els (insC (eT.lst xs.length (eT.els xs)) t).fst)) = true → ((insC (eT.lst xs.length (eT.els xs)) t).snd.fst == (insC (eT.lst xs.length (eT.els xs)) t).snd.fst) = true → ((insC (eT.lst xs.length (eT.els xs)) t).snd.snd == (insC (eT.lst xs.length (eT.els xs)) t).snd.snd) = true → (chkC (eT.lst xs.length (eT.els xs)) == chkC (eT.lst xs.length (eT.els xs))) = true → ∀ (e : Nat), (e < bif chkC (eT.lst xs.length (eT.els xs)) != (0 : Int) then (0 : Nat) else xs.length) → eT.Ok (eT.els xs e)) ∧ ∀ (d : Bool), (decide (eT.lst (ofC (eT.lst xs.length (eT.els xs))).fst.length (eT.els (ofC (eT.lst xs.length (eT.els xs))).fst) = eT.lst (ofC (eT.lst xs.length (eT.els xs))).fst.length (eT.els (ofC (eT.lst xs.length (eT.els xs))).fst)) && ((ofC (eT.lst xs.length (eT.els xs))).snd == (ofC (eT.lst xs.length (eT.els xs))).snd && (decide (eT.lst (insC (eT.lst xs.length (eT.els xs)) t).fst.length (eT.els (insC (eT.lst xs.length (eT.els xs)) t).fst) = eT.lst (insC (eT.lst xs.length (eT.els xs)) t).fst.length (eT.els (insC (eT.lst xs.length (eT.els xs)) t).fst)) && ((insC (eT.lst xs.length (eT.els xs)) t).snd.fst == (insC (eT.lst xs.length (eT.els xs)) t).snd.fst && ((insC (eT.lst xs.length (eT.els xs)) t).snd.snd == (insC (eT.lst xs.length (eT.els xs)) t).snd.snd && (chkC (eT.lst xs.length (eT.els xs)) == chkC (eT.lst xs.length (eT.els xs)) && decide (eT.lst (lof_q2 xs t).snd.snd.snd.snd.fst.length (ElE.fn (eT.els (lof_q2 xs t).snd.snd.snd.snd.fst)).at = eT.lst (bif chkC (eT.lst xs.length (eT.els xs)) != (0 : Int) then (0 : Nat) else xs.length) (eT.els xs)))))))) = (decide (eT.lst (ofC (eT.lst xs.length (eT.els xs))).fst.length (eT.els (ofC (eT.lst xs.length (eT.els xs))).fst) = eT.lst (ofC (eT.lst xs.length (eT.els xs))).fst.length (eT.els (ofC (eT.lst xs.length (eT.els xs))).fst)) && ((ofC (eT.lst xs.length (eT.els xs))).snd == (ofC (eT.lst xs.length (eT.els xs))).snd && (decide (eT.lst (insC (eT.lst xs.length (eT.els xs)) t).fst.length (eT.els (insC (eT.lst xs.length (eT.els xs)) t).fst) = eT.lst (insC (eT.lst xs.length (eT.els xs)) t).fst.length (eT.els (insC (eT.lst xs.length (eT.els xs)) t).fst)) && ((insC (eT.lst xs.length (eT.els xs)) t).snd.fst == (insC (eT.lst xs.length (eT.els xs)) t).snd.fst && ((insC (eT.lst xs.length (eT.els xs)) t).snd.snd == (insC (eT.lst xs.length (eT.els xs)) t).snd.snd && (chkC (eT.lst xs.length (eT.els xs)) == chkC (eT.lst xs.length (eT.els xs)) && decide (eT.lst (lof_q2 xs t).snd.snd.snd.snd.fst.length (ElE.fn (eT.els (lof_q2 xs t).snd.snd.snd.snd.fst)).at = eT.lst (bif chkC (eT.lst xs.length (eT.els xs)) != (0 : Int) then (0 : Nat) else xs.length) (eT.els xs))))))))))
theorem lof_okS (pre : DA.T aLT → List Prop) (h : ∀ g, DA.bd aLT g → (∀ p ∈ pre g, p) → lof_side g.1 g.2) : FnPure Try.prog 6 aLT dBool (fun g => lof_F g.1 g.2) pre := pure_of_sideS (Γ := (MTab.gamz tabIns [] [(17, 2, 3)])) (Λ := lamCo) (MTab.okz tabIns [] [(17, 2, 3)]) lamCo_ok 100 default (fun g => lof_side g.1 g.2) (fun g => by kernel_rfl) (fun g => by kernel_rfl) h
noncomputable def tabXM6 : MTab Try.prog := tabIns
end Go.Proofs.Ytiipneclghnfhaa

/- Chapter 3: the law ChainOf holds. -/
namespace Go.Proofs.Ytiipneclghnfhaa
open Go.RowKit Go.Sx Go.Lp
theorem cl_in (xs : List T) : List.map (fun _ => eT.get []) (List.range 0) ++ eT.lst (xs.length - 0) (eT.els xs) = xs := by
  rw [Nat.sub_zero, eT.lst_els]
  rfl
theorem lof_q1_eq (xs : List T) (t : T) : lof_q1 xs t = (.exit 0, 0, 0, (), [], (), (.ready, none)) := cz_run
theorem lof_q2_eq (xs : List T) (t : T) (h : xs.length ≤ KS) : lof_q2 xs t = (.exit 0, (xs.length : Int), (xs.length : Int), (), xs, xs.length, xs, (.ready, none)) := by
  have hr := cl_run xs h
  unfold lof_q2
  rw [Nat.zero_add, Nat.min_zero, cl_in]
  exact hr
theorem lof_cz : ixJ (fun c => c) czX cz_K (cz_f ((0 : Int), (0 : Int), (), [], (), LoopState.ready, none)) := by
  refine ⟨rfl, ?_, ?_, ?_, rfl⟩
  · show 0 ≤ maxLen; exact Nat.zero_le _
  · show (0 : Int) ≤ 0; omega
  · show (0 : Int) ≤ 0; omega
theorem lof_cl (xs : List T) (h : xs.length ≤ KS) : ixJ (fun c => c.1) (fun c => c.2.2) cl_K (cl_f ((xs.length : Int), (0 : Int), (), [], xs.length, xs, LoopState.ready, none)) := by
  refine ⟨rfl, ?_, ?_, ?_, rfl, rfl, h, ?_⟩
  · show xs.length ≤ maxLen; unfold KS at h; unfold maxLen; omega
  · show (0 : Int) ≤ 0; omega
  · show (0 : Int) ≤ xs.length; omega
  · show (0 : Int) ≤ 0; omega
theorem atFn (l : List T) : (ElE.fn (eT.els l)).at = eT.els l := rfl
theorem lof_si (xs : List T) (t : T) : lof_side xs t := by
  have h1 := okT xs
  have h2 := okT (ofC xs).1
  have h3 := okT (insC xs t).1
  have h4 := okT (lof_q1 xs t).2.2.2.2.1
  have h5 := okT (lof_q2 xs t).2.2.2.2.1
  have hb : ∀ (b : Bool), ∀ e, e < (bif b then 0 else xs.length) → eT.Ok (eT.els xs e) := fun b e h => h1 e (by cases b with | true => exact absurd h (Nat.not_lt_zero _) | false => exact h)
  unfold lof_side
  simp only [eT.lst_els, atFn, Nat.zero_add, Nat.min_zero, cl_in, bytesT]
  intro _ hl
  have hk : xs.length ≤ KS := by
    have := of_decide_eq_false hl
    unfold KS
    omega
  have hm : xs.length ≤ maxLen := by
    unfold KS at hk
    unfold maxLen
    omega
  have hz := lof_cz
  have hy := lof_cl xs hk
  have e1 : (lof_q1 xs t).2.2.2.2.1 = [] := by rw [lof_q1_eq]
  have e2 : (lof_q2 xs t).2.2.2.2.1 = xs := by rw [lof_q2_eq xs t hk]
  revert hz
  generalize lof_q1 xs t = q1 at h4 e1 ⊢
  generalize lof_q2 xs t = q2 at h5 e2 ⊢
  generalize ofC xs = o at h2 ⊢
  generalize insC xs t = i at h3 ⊢
  generalize chkC xs = c at ⊢
  intro hz
  repeat' (first | with_reducible apply And.intro | intro _ | with_reducible exact hz | with_reducible exact hk | with_reducible exact hy | with_reducible exact hm)
  all_goals (first | with_reducible exact h1 _ (by assumption) | with_reducible exact h2 _ (by assumption) | with_reducible exact h3 _ (by assumption) | with_reducible exact hb _ _ (by assumption) | with_reducible exact h4 _ (by assumption) | with_reducible exact h5 _ (by assumption) | with_reducible exact Nat.le_refl _ | with_reducible rfl | trivial | exact absurd (by assumption) (Nat.not_lt_zero _) | skip)
  · rename_i hc cs hi hcs d
    have hc : c = 0 := by simpa using hc
    have h0 : xs.length = 0 := hi (by cases hh : cs.isEmpty with | false => rfl | true => rw [hh] at hcs; exact absurd hcs (by decide))
    have h0 : xs = [] := List.length_eq_zero_iff.1 h0
    subst h0
    subst hc
    rw [e1, e2]
  · unfold maxLen at hm
    unfold KS at hk
    omega
theorem lof_eq (xs : List T) (t : T) : lof_F xs t = true := by
  unfold lof_F
  simp only [eT.lst_els, atFn, decide_true, beq_self_eq_true, Bool.true_and]
  cases hl : decide ((xs.length : Int) > 40)
  case true => rfl
  have hk : xs.length ≤ KS := by
    have := of_decide_eq_false hl
    unfold KS
    omega
  rw [lof_q1_eq, lof_q2_eq xs t hk]
  cases (chkC xs != 0)
  case true => simp only [cond_true, cond_false]; exact decide_eq_true rfl
  case false => simp only [cond_true, cond_false, eT.lst_els, decide_true]
theorem lof_ok : FnPure Try.prog 6 aLT dBool (fun _ => true) (fun _ => []) :=
  pure_congr (lof_okS _ fun g _ _ => lof_si g.1 g.2) fun g _ _ => lof_eq g.1 g.2
end Go.Proofs.Ytiipneclghnfhaa

/- From what a statement reads of its arguments to known values. -/
namespace Go.Sx
open Go.RowKit Go.ChangeShapes Go.WideShapes Go.ChangeAt Go.Deep

theorem add_none (b o n : Nat) : (⟨b, o, none⟩ : Addr).add n = ⟨b, o + n, none⟩ := by
  by_cases h : n = 0
  · subst h; simp [Addr.add]
  · simp [Addr.add, h]
abbrev wh (w : World) : Rh := emp fun b => w.heap[b]?
/-- Cells of that type are plain data. -/
def Rd {α : Type} (P : Program) (t : TypeId) (A : El α) (Q : α → Prop) : Prop :=
  ∀ (H : Type) (enc : TypeId × Value → H) (w : World) (base : Nat) (spare : Nat → Bool) (held : Bool) (fuel : Nat) (cs : List Value) (x : DataW H × List MemPlace),
    DataW.trod enc P w base spare held fuel t cs = some x → ∃ a, Q a ∧ SV.fits 0 (wh w) (A.cells a) cs
section
variable {H : Type} (enc : TypeId × Value → H) (P : Program) (w : World) (base : Nat) (spare : Nat → Bool) (held : Bool) (fuel : Nat)
def Cut : List TypeId → List Value → Prop
  | [], cs => cs = []
  | t :: ts, cs => (∃ x, DataW.trod enc P w base spare held fuel t (cs.take (P.cellsOf t)) = some x) ∧ Cut ts (cs.drop (P.cellsOf t))
def consec : Nat → List (Nat × TypeId) → Nat → Bool
  | o, [], n => Nat.beq o n
  | o, p :: r, n => Nat.beq p.1 o && consec (o + P.cellsOf p.2) r n
theorem cut_of (cs : List Value) : ∀ (fs : List (Nat × TypeId)) (o : Nat), consec P o fs cs.length = true → (∀ p ∈ fs, ∃ x, DataW.trod enc P w base spare held fuel p.2 ((cs.drop p.1).take (P.cellsOf p.2)) = some x) → Cut enc P w base spare held fuel (fs.map (·.2)) (cs.drop o)
  | [], o, hc, _ => by
    have := beq_of hc
    show cs.drop o = []
    exact List.drop_eq_nil_of_le (by omega)
  | p :: r, o, hc, h => by
    simp only [consec, Bool.and_eq_true] at hc
    have h0 := beq_of hc.1
    refine ⟨?_, ?_⟩
    · have := h p (List.mem_cons_self ..)
      rwa [h0] at this
    · have := cut_of cs r (o + P.cellsOf p.2) hc.2 fun q hq => h q (List.mem_cons_of_mem _ hq)
      rwa [List.drop_drop]
end
def Rds {α : Type} (P : Program) (ts : List TypeId) (A : El α) (Q : α → Prop) : Prop :=
  ∀ (H : Type) (enc : TypeId × Value → H) (w : World) (base : Nat) (spare : Nat → Bool) (held : Bool) (fuel : Nat) (cs : List Value),
    Cut enc P w base spare held fuel ts cs → ∃ a, Q a ∧ SV.fits 0 (wh w) (A.cells a) cs
section
variable {P : Program} {t e : TypeId} {α β : Type} {A : El α} {B : El β} {Q : α → Prop} {Q' : β → Prop}
theorem rds_one (h : Rd P t A Q) : Rds P [t] A Q := fun H enc w base spare held fuel cs hc => by
  obtain ⟨⟨x, hx⟩, hd⟩ := hc
  have hd : cs.drop (P.cellsOf t) = [] := hd
  have h2 := List.take_append_drop (P.cellsOf t) cs
  rw [hd, List.append_nil] at h2
  rw [h2] at hx
  exact h H enc w base spare held fuel cs x hx
theorem rds_cons {ts : List TypeId} (h : Rd P t A Q) (h' : Rds P ts B Q') : Rds P (t :: ts) (.pair A B) (fun a => Q a.1 ∧ Q' a.2) := fun H enc w base spare held fuel cs hc => by
  obtain ⟨⟨x, hx⟩, hd⟩ := hc
  obtain ⟨a, qa, fa⟩ := h H enc w base spare held fuel _ x hx
  obtain ⟨b, qb, fb⟩ := h' H enc w base spare held fuel _ hd
  refine ⟨(a, b), ⟨qa, qb⟩, ?_⟩
  have := fits_append fa fb
  rwa [List.take_append_drop] at this
theorem rd_iso (h : Rd P t A Q) (f : α → β) (g : β → α) (hfg : ∀ b, f (g b) = b) (hgf : ∀ a, g (f a) = a) : Rd P t (A.iso f g hfg hgf) (fun b => Q (g b)) := fun H enc w base spare held fuel cs x hx => by
  obtain ⟨a, qa, fa⟩ := h H enc w base spare held fuel cs x hx
  refine ⟨f a, (show Q (g (f a)) by rwa [hgf]), ?_⟩
  show SV.fits 0 _ (A.cells (g (f a))) cs
  rwa [hgf]
theorem rd_int {k : IntKind} (ht : P.underlying t = some (.int k)) : Rd P t (eInt k) (fun n => (Lit.int k n).wf = true) := fun H enc w base spare held fuel cs x hx => by
  obtain ⟨n, rfl, _, hw⟩ := DataW.trod_int ht hx
  exact ⟨n, hw, by simp [eInt, El.one', dInt, SV.fits, SV.fit]⟩
theorem rd_struct {fs : Array Field} {ts : List TypeId} (ht : P.underlying t = some (.struct fs)) (hts : fs.toList.map (·.type) = ts) (hc : consec P 0 (fs.toList.map fun f => (f.offset, f.type)) (P.cellsOf t) = true) (h : Rds P ts A Q) : Rd P t A Q := fun H enc w base spare held fuel cs x hx => by
  obtain ⟨xs, n, rfl, _, hl, hxl, hf⟩ := DataW.trod_struct ht hx
  rw [← hl] at hc
  have := cut_of enc P w base spare held n cs _ 0 hc fun p hp => by
    obtain ⟨f, hfm, rfl⟩ := List.mem_map.1 hp
    obtain ⟨i, hi, rfl⟩ := List.getElem_of_mem hfm
    have hi' : i < fs.size := by simpa using hi
    have := hf i fs[i] (by simp [hi'])
    exact ⟨xs[i]'(by omega), by simpa [hxl, hi'] using this⟩
  rw [List.map_map, List.drop_zero] at this
  refine h H enc w base spare held n cs ?_
  rw [← hts]
  exact this
theorem rd_array {n : Nat} {ts : List TypeId} (ht : P.underlying t = some (.array n e)) (hts : ((List.range n).map fun _ => e) = ts) (hc : consec P 0 ((List.range n).map fun i => (i * P.cellsOf e, e)) (P.cellsOf t) = true) (h : Rds P ts A Q) : Rd P t A Q := fun H enc w base spare held fuel cs x hx => by
  obtain ⟨xs, m, rfl, _, hl, hxl, hf⟩ := DataW.trod_array ht hx
  rw [← hl] at hc
  have := cut_of enc P w base spare held m cs _ 0 hc fun p hp => by
    obtain ⟨i, hi, rfl⟩ := List.mem_map.1 hp
    have hi' : i < n := by simpa using hi
    have := hf i hi'
    exact ⟨xs[i]'(by omega), by rw [this]; simp [hxl, hi']⟩
  rw [List.map_map, List.drop_zero] at this
  refine h H enc w base spare held m cs ?_
  rw [← hts]
  exact this
end
/-- An argument is plain data. -/
def RdV {α : Type} (P : Program) (t : TypeId) (D : Dv α) (Q : α → Prop) : Prop :=
  ∀ (H : Type) (enc : TypeId × Value → H) (w : World) (base : Nat) (spare : Nat → Bool) (held : Bool) (r : Reach) (b0 : Nat) (v : Value) (d : DataW H) (ps : List MemPlace),
    Value.okWide P w r b0 t v → DataW.Trod enc P w base spare held t v d ps → ∃ a, Q a ∧ (D.enc a).fit 0 (wh w) v
section
variable {P : Program} {t e : TypeId} {α β : Type} {A : El α} {Q : α → Prop}
theorem rdv_int {k : IntKind} (ht : P.underlying t = some (.int k)) : RdV P t (dInt k) (fun n => (Lit.int k n).wf = true) := fun H enc w base spare held r b0 v d ps hv hx => by
  obtain ⟨n, rfl, _, _, hw⟩ := open_int ht hv hx
  exact ⟨n, hw, by simp [dInt, SV.fit]⟩
theorem rdv_struct {fs : Array Field} (ht : P.underlying t = some (.struct fs)) (h : Rd P t A Q) : RdV P t (.agg A) Q := fun H enc w base spare held r b0 v d ps hv hx => by
  obtain ⟨cs, rfl, _⟩ := okWide_struct ht hv
  obtain ⟨fuel, hf⟩ := hx
  obtain ⟨a, qa, fa⟩ := h H enc w base spare held fuel _ _ hf
  exact ⟨a, qa, cs.toList, by simp, by simpa [Value.cells] using fa⟩
theorem rdv_slice (ht : P.underlying t = some (.slice e)) (hs : P.cellsOf e = A.sz) (hz : 0 < A.sz) (h : Rd P e A Q) : RdV P t (.list A) (fun xs => ∀ a ∈ xs, Q a) := fun H enc w base spare held r b0 v d ps hv hx => by
  obtain ⟨a0, len0, cap0, rfl⟩ := okWide_slice ht hv
  obtain ⟨fuel, hf⟩ := hx
  rcases open_slice ht hf with ⟨hcs, _⟩ | ⟨a, len, cap, m, n, D, Pl, hcs, hb, hl, hm, hmm, _, hel⟩
  · simp [Value.cells] at hcs
    obtain ⟨rfl, rfl, rfl⟩ := hcs
    exact ⟨[], by simp, rs_nil _ _⟩
  · simp [Value.cells] at hcs
    obtain ⟨rfl, rfl, rfl⟩ := hcs
    have hle : len0 ≤ m := by subst hmm; split <;> omega
    have key : ∀ i, i < len0 → ∃ x : α, Q x ∧ ∃ cs', cs'.length = A.sz ∧ SV.fits 0 (wh w) (A.cells x) cs' ∧ ∀ j, j < A.sz → w.cell? ((a.add (i * A.sz)).add j) = cs'[j]? := fun i hi => by
      obtain ⟨cs', h1, h2⟩ := hel i (by omega)
      obtain ⟨x, qx, fx⟩ := h H enc w base spare held n cs' _ h2
      rw [hs] at h1
      obtain ⟨_, h3, h4⟩ := World.cells?_some h1
      exact ⟨x, qx, cs', h3, fx, h4⟩
    haveI : Inhabited α := ⟨A.dflt⟩
    obtain ⟨f, hf⟩ := choose_lt (α := α) (fun i hi => key i hi)
    refine ⟨(List.range len0).map f, ?_, ?_⟩
    · intro x hx
      obtain ⟨i, hi, rfl⟩ := List.mem_map.1 hx
      exact (hf i (by simpa using hi)).1
    · simp only [Dv.list, SV.fit]
      refine ⟨some a, cap0, by simp, by simpa using hl, hm, fun hpos => ?_⟩
      have hpos : 0 < len0 := by simpa using hpos
      obtain ⟨_, cs0, q1, q2, q3⟩ := hf 0 hpos
      have q4 := q3 0 hz
      obtain ⟨b, o, spot⟩ := a
      have hsome : ∃ v0, cs0[0]? = some v0 := ⟨cs0[0]'(by omega), by simp⟩
      obtain ⟨v0, hv0⟩ := hsome
      rw [hv0] at q4
      have hspot : spot = none := by simpa [Addr.add] using World.cell?_spot q4
      subst hspot
      have hblk : ∃ cs t fz, w.heap[b]? = some (.cells cs t fz) := by
        simp only [add_none, World.cell?] at q4
        split at q4
        · rename_i c _ _ hh
          exact ⟨_, _, _, hh⟩
        · cases q4
      obtain ⟨cs, t', fz, hh⟩ := hblk
      refine ⟨b, o, cs, t', fz, rfl, hh, fun i hi => ?_⟩
      have hi : i < len0 := by simpa using hi
      obtain ⟨_, cs', k1, k2, k3⟩ := hf i hi
      refine ⟨cs', k1, ?_, fun j v hjv => ?_⟩
      · simpa [El.els, List.getD_eq_getElem?_getD, hi] using k2
      · have hj : j < A.sz := by
          have := (List.getElem?_eq_some_iff.1 hjv).1
          omega
        have := k3 j hj
        rw [hjv] at this
        simp only [add_none, World.cell?, hh] at this
        simpa using this
end
end Go.Sx

/- Chapter 3: what the rows read of their arguments. -/
namespace Go.Proofs.Ytiipneclghnfhaa
open Go.RowKit Go.Sx
def W1 (n : Int) : Prop := (Lit.int .i64 n).wf = true
def W4 (a : I4) : Prop := W1 a.1 ∧ W1 a.2.1 ∧ W1 a.2.2.1 ∧ W1 a.2.2.2
def W6 (a : I6) : Prop := W1 a.1 ∧ W1 a.2.1 ∧ W4 a.2.2
def W8 (a : I8) : Prop := W1 a.1 ∧ W1 a.2.1 ∧ W1 a.2.2.1 ∧ W1 a.2.2.2.1 ∧ W4 a.2.2.2.2
def S.W (s : S) : Prop := W8 s.toP
def T.W (t : T) : Prop := W6 t.toP
theorem rd2 : Rd Try.prog 2 eI W1 := rd_int Try.underlying2
theorem rd3 : Rd Try.prog 3 eI W1 := rd_int Try.underlying3
theorem rd28 : Rd Try.prog 28 e4 W4 := rd_array (ts := [2, 2, 2, 2]) Try.underlying28 rfl (by kernel_rfl) (rds_cons rd2 (rds_cons rd2 (rds_cons rd2 (rds_one rd2))))
theorem rd30 : Rd Try.prog 30 eT T.W := rd_iso (Q := W6) (rd_struct (ts := [2, 3, 28]) Try.underlying30 rfl (by kernel_rfl) (rds_cons rd2 (rds_cons rd3 (rds_one rd28)))) _ _ _ _
theorem rdvT : RdV Try.prog 30 dT T.W := rdv_struct Try.underlying30 rd30
theorem rdvLT : RdV Try.prog 22 dLT (fun l => ∀ s ∈ l, T.W s) := rdv_slice Try.underlying22 (by kernel_rfl) (by decide) rd30
end Go.Proofs.Ytiipneclghnfhaa

/- The row of ChainOfSaid, from the law's contract. Printed by rowgen.py. -/
namespace Go.Proofs.Ytiipneclghnfhaa
open Go.ChangeShapes Go.WideShapes Go.ChangeAt Go.RowKit Go.Sx

theorem Try.own : ownKnob Try.prog.godebug = none := by kernel_rfl
theorem Try.laidOut : laidOutB Try.prog = true := by kernel_rfl
set_option maxRecDepth 100000 in
theorem chainOf_lifted (law : FnPure Try.prog 6 aLT dBool (fun _ => true) (fun _ => [])) (os : Os) (started : os.Started) (H : Type) (enc : TypeId × Value → H) :
    ReturnsInHanded {} Try.checked os 6 .any (Rows.chainOfSpec.pre6 enc Try.prog Try.f6 Rows.chainOfRow.domain false) (Rows.chainOfSpec.post enc Try.prog Try.f6 false true false false) := by
  refine returnsInHanded_of_change (C := Try.checked) Try.own started (by kernel_rfl) Try.func6
    (ChangeSpec.witness6 (enc := enc) (C := Try.checked) false ⟨#[], #[.slice none 0 0, .agg #[.int .i64 0, .int .i64 0, .int .i64 0, .int .i64 0, .int .i64 0, .int .i64 0]], []⟩ 8 (by kernel_rfl) (by kernel_rfl) (by kernel_rfl) (by kernel_rfl)) ?_
  intro W base args ds gs before hval0 hW hcnd _
  have hval : ∀ (j : Nat) t v, Try.f6.params[j]? = some t → args[j]? = some v → Value.okWide Try.prog W .any base t v := hval0
  have hW' := hW
  obtain ⟨p, q, hA0, hV, rfl, hfz, hnd⟩ := hW
  have hA : DataW.TrodAll enc Try.prog W 0 (fun _ => true) true Try.f6.params.toList args.toList ds p := hA0
  rw [Try.params6] at hA hval
  obtain ⟨v0, vs0, d0, ds0, p0, qq0, hargs, rfl, rfl, h0, r0⟩ := trodAll_cons hA
  obtain ⟨v1, vs1, d1, ds1, p1, qq1, rfl, rfl, rfl, h1, r1⟩ := trodAll_cons r0
  obtain ⟨rfl, rfl, rfl⟩ := trodAll_nil r1
  obtain rfl : args = #[v0, v1] := by cases args; simp_all
  obtain ⟨rfl, rfl⟩ := trodVars_none hV
  obtain ⟨a0, q0, f0⟩ := rdvLT _ _ _ _ _ _ _ _ _ _ _ (hval 0 22 v0 rfl rfl) h0
  obtain ⟨a1, q1, f1⟩ := rdvT _ _ _ _ _ _ _ _ _ _ _ (hval 1 30 v1 rfl rfl) h1
  have lt : ∀ {t : TypeId} {v : Value} {d : DataW H} {ps : List MemPlace}, DataW.Trod enc Try.prog W 0 (fun _ => true) true t v d ps → ∀ x ∈ ps, x.block < W.heap.size := by
    rintro t v d ps ⟨m, hm⟩
    exact DataW.trod_lt m _ _ _ hm
  clear hA0 hval0
  refine (law W (fun b => W.heap[b]?) (a0, a1) [v0, v1] (fun _ _ h => h) (by simp) ⟨f0, f1, trivial⟩).mono fun e W' ⟨x, he, bel, hx⟩ => ?_
  obtain rfl : x = .bool true := by simpa [dBool, SV.fit] using hx
  subst he
  exact ⟨_, rfl, _, _, _, [], _, [], hW', trodAll_mk1 (shut_bool Try.underlying4 _),
    (trodAll_cons_mk (Below.trod Try.laidOut (by kernel_rfl) (of_decide_eq_true (by kernel_rfl)) h0 bel (lt h0))
    (trodAll_cons_mk (Below.trod Try.laidOut (by kernel_rfl) (of_decide_eq_true (by kernel_rfl)) h1 bel (lt h1)) trodAll_mk0)), rfl, bel.frame _, fun h => by cases h⟩

theorem chainOf_over (law : FnPure Try.prog 6 aLT dBool (fun _ => true) (fun _ => [])) : Rows.ChainOfSaid :=
  OpenClaim.holds_of_wide 6 Try.f6 rfl rfl rfl rfl rfl rfl rfl ⟨rfl, rfl, rfl, rfl, rfl⟩ rfl rfl rfl rfl rfl (by kernel_rfl) Try.func6 (by kernel_rfl)
    (of_decide_eq_true (by kernel_rfl)) (by unfold Func.isWrapper; first | (rw [if_pos (by decide +kernel)]; kernel_rfl) | (rw [if_neg (by decide +kernel)]; exact ⟨rfl, rfl⟩))
    (fun os started H enc _ => chainOf_lifted law os started H enc)
end Go.Proofs.Ytiipneclghnfhaa

/- The law ChainOf of chapter 3 is proved: for every input the function returns true, and its arguments read as they did. No condition. -/
namespace Go.Proofs.Ytiipneclghnfhaa
open Go.RowKit Go.Sx
theorem chainOf_holds : Rows.ChainOfSaid := chainOf_over lof_ok
end Go.Proofs.Ytiipneclghnfhaa
