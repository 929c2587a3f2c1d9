/- What stands below a state's logs stays. -/
import Derived.Test.YtapmlfklkfgmoaaZSxDraw4
set_option linter.unusedVariables false
namespace Go.Sx
open Go.RowKit

/-- The base of the memory's log stays. -/
def ConB (g : Con) : Prop := ∀ args h, (g args h).Each fun y => y.2.b = h.b
section
variable {P : Program} {run yld : Nat → Con} {h : SH}
theorem each_ret {α : Type} {p : α → Prop} {x : α} (hx : p x) : (Tr.ret x).Each p := hx
theorem each_bad {α : Type} {p : α → Prop} {n : Nat} : (Tr.bad n : Tr α).Each p := trivial
theorem eq_b {t : Tr (SV × SH)} (ht : t.Each fun y => y.2 = h) : t.Each fun y => y.2.b = h.b := by
  induction t with
  | ret x => exact congrArg SH.b ht
  | br c a b iha ihb => exact ⟨iha ht.1, ihb ht.2⟩
  | ask q a ih => exact ih ht
  | giv q a ih => exact ih ht
  | all k ih => exact fun n => ih n (ht n)
  | bad _ => trivial
theorem each_bifb {α : Type} {p : α → Prop} {c : Bool} {a b : Tr α} (ha : a.Each p) (hb : b.Each p) : (bif c then a else b).Each p := by cases c <;> assumption
theorem each_copyb {t : TypeId} {d s : SV} : (copyS P h t d s).Each fun y => y.2.b = h.b := by
  unfold copyS
  repeat' split
  all_goals first | trivial | exact rfl | (refine each_bifb ?_ trivial; first | exact rfl | exact SH.setCs_b _ _ _ _)
theorem each_appendb {t t' : TypeId} {d s : SV} : (appendS P h t t' d s).Each fun y => y.2.b = h.b := by
  unfold appendS
  split
  · split
    · split
      · refine each_bifb ?_ trivial
        split
        · exact rfl
        · trivial
      · trivial
    · trivial
  · trivial
theorem each_builtinb {b : Builtin} {ts : List TypeId} {as : List SV} : (builtinS P h b ts as).Each fun y => y.2.b = h.b := by
  unfold builtinS
  repeat' split
  all_goals first | trivial | exact each_copyb | exact each_appendb | (refine Tr.each_bind (fun _ => ?_) _; exact rfl)
theorem each_opb (hr : ∀ f, ConB (run f)) (hy : ∀ l, ConB (yld l)) {ev : Operand → SV} {o : Op} : (opS P run yld ev h o).Each fun y => y.2.b = h.b := by
  unfold opS
  split
  · exact rfl
  · exact rfl
  · repeat' split
    all_goals first | trivial | exact rfl | exact ⟨rfl, rfl⟩
  · unfold allocS; split <;> first | exact rfl | trivial
  · exact each_bifb rfl trivial
  · unfold buildS; repeat' split
    all_goals first | trivial | exact rfl
  · unfold buildSliceS; repeat' split
    all_goals first | trivial | exact rfl | (refine each_bifb ?_ trivial; first | exact rfl | trivial)
  · exact eq_b each_load
  · unfold storeS; repeat' split
    all_goals first | trivial | (refine each_bifb ?_ trivial; first | exact rfl | exact SH.setCs_b _ _ _ _)
  · repeat' split
    all_goals first | trivial | exact rfl | (refine Tr.each_bind (fun _ => ?_) _; exact rfl)
  · (refine Tr.each_bind (fun _ => ?_) _; exact rfl)
  · (refine Tr.each_bind (fun _ => ?_) _; exact rfl)
  · exact each_bifb rfl trivial
  · exact eq_b each_slice
  · exact eq_b each_fieldAddr
  · exact eq_b each_field
  · exact eq_b each_indexAddr
  · exact eq_b each_index
  · exact eq_b each_extract
  · split
    · exact each_builtinb
    · split
      · exact each_bifb (hr _ _ _) trivial
      · exact hy _ _ _
      · trivial
    · trivial
  · trivial

theorem put_on {σ : St} {d : Option Nat} {s : SV} {h' : SH} (hb : h'.b = σ.h.b) : (σ.put d s h').On σ.b σ.h.b := by cases d <;> exact ⟨rfl, hb⟩
theorem guardM_on {ops : Array Oper} {σ : St} {o : Oper} {go : Bool → St → Tr St} (hgo : ∀ g σ' B HB, σ'.On B HB → (go g σ').Each (St.On B HB)) : (guardM ops σ o go).Each (St.On σ.b σ.h.b) := by
  unfold guardM
  split
  · exact hgo _ _ _ _ ⟨rfl, rfl⟩
  · split
    · refine each_bifb ?_ trivial
      split
      · exact hgo _ _ _ _ ⟨rfl, rfl⟩
      · exact Tr.each_map (q := St.On (σ.t ++ σ.b) (σ.h.l ++ σ.h.b)) (fun x _ => pop_on σ x) (mergeX_each (joinSt_ok _ _ _ _) (hgo _ _ _ _ ⟨rfl, rfl⟩) (hgo _ _ _ _ ⟨rfl, rfl⟩))
      · exact hgo _ _ _ _ ⟨rfl, rfl⟩
      · trivial
    · exact hgo _ _ _ _ ⟨rfl, rfl⟩
theorem opsRun_on (hr : ∀ f, ConB (run f)) (hy : ∀ l, ConB (yld l)) {ops : Array Oper} : ∀ (l : List Oper) (σ : St) (B : List (Nat × SV)) (HB : List (Nat × SE)), σ.On B HB → (opsRun P run yld ops l σ).Each (St.On B HB)
  | [], σ, B, HB, h => h
  | o :: r, σ, B, HB, h => by
    obtain ⟨rfl, rfl⟩ := h
    refine guardM_on fun g σ' B HB hon => ?_
    cases g with
    | true =>
      refine Tr.each_bind' (p := fun y => y.2.b = σ'.h.b) (fun x hx => ?_) (each_opb hr hy)
      refine opsRun_on hr hy r _ B HB ?_
      have := put_on (d := o.dst) (s := x.1) hx
      rwa [hon.1, hon.2] at this
    | false =>
      refine opsRun_on hr hy r _ B HB ?_
      have := put_on (σ := σ') (d := o.dst) (s := .k undef) (h' := σ'.h) rfl
      rwa [hon.1, hon.2] at this
theorem strip_each {α : Type} {p : α → Prop} {t : Tr α} (h : t.Each p) : t.strip.Each p := by
  induction t with
  | ret x => exact h
  | br c a b iha ihb => exact ⟨iha h.1, ihb h.2⟩
  | ask q a ih => exact ih h
  | giv q a ih => trivial
  | all k ih => trivial
  | bad _ => trivial
theorem guardS_on {ops : Array Oper} {σ : St} {o : Oper} {go : Bool → St → Tr St} {p : St → Prop} (hgo : ∀ g σ', σ'.On σ.b σ.h.b → (go g σ').Each p) : (guardS ops σ o go).Each p := by
  unfold guardS
  split
  · exact hgo _ _ ⟨rfl, rfl⟩
  · split
    · refine each_bifb ?_ trivial
      split
      · exact hgo _ _ ⟨rfl, rfl⟩
      · exact ⟨hgo _ _ ⟨rfl, rfl⟩, hgo _ _ ⟨rfl, rfl⟩⟩
      · exact hgo _ _ ⟨rfl, rfl⟩
      · trivial
    · exact hgo _ _ ⟨rfl, rfl⟩
theorem drawOps_on (hr : ∀ f, ConB (run f)) (hy : ∀ l, ConB (yld l)) {ops : Array Oper} : ∀ (l : List Oper) (σ : St) (B : List (Nat × SV)) (HB : List (Nat × SE)), σ.On B HB → (drawOps P run yld ops l σ).Each (St.On B HB)
  | [], σ, B, HB, h => h
  | o :: r, σ, B, HB, h => by
    obtain ⟨rfl, rfl⟩ := h
    refine guardS_on fun g σ' hon => ?_
    cases g with
    | true =>
      refine Tr.each_bind' (p := fun y => y.2.b = σ'.h.b) (fun x hx => ?_) (strip_each (each_opb hr hy))
      refine drawOps_on hr hy r _ _ _ ?_
      have := put_on (d := o.dst) (s := x.1) hx
      rwa [hon.1, hon.2] at this
    | false =>
      refine drawOps_on hr hy r _ _ _ ?_
      have := put_on (σ := σ') (d := o.dst) (s := .k undef) (h' := σ'.h) rfl
      rwa [hon.1, hon.2] at this
end
end Go.Sx
