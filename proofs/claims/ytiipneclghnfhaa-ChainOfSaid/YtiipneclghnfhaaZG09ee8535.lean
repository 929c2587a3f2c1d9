/- Chapter 3: loops over lists of times. Printed by treegen.py. -/
import Derived.Test.YtiipneclghnfhaaZG087ca04d
import Derived.Test.YtiipneclghnfhaaZG078a2f4a
set_option linter.unusedVariables false
set_option linter.unusedSimpArgs false
set_option linter.constructorNameAsVariable false
set_option linter.all false

namespace Go.Proofs.Ytiipneclghnfhaa
open Go.RowKit Go.Sx
set_option maxRecDepth 100000
set_option linter.unusedVariables false
abbrev dLT : Dv (List T) := .list eT
abbrev tLT : Nat := 22
abbrev dFt : Dv (List T) := dFn1 113 dLT
abbrev dFc : Dv T := dFnE 76 eT
abbrev ia_G : Type := List T × List T × Int × Int × Int
noncomputable def ia_LP : LP 0 ia_G := .pair (.slot 0 0 dLT) (.pair (.slot 0 1 dFt) (.pair (.slot 0 7 dI) (.pair (.slot 0 8 dI) (.slot 0 4 dI))))
noncomputable def ia_R (xs : List T) (l : List T) (n : Int) (i : Int) (r : Int) : Ex × ia_G :=
  bif decide (i < n) then bif (xs.getD i.toNat eT.dflt).d != (l.getD (0 : Nat) eT.dflt).d then (Ex.ret, eT.lst xs.length (eT.els xs), eT.lst l.length (eT.els l), n, i, i) else (Ex.normal, eT.lst xs.length (eT.els xs), eT.lst l.length (eT.els l), n, IntKind.i64.wrap (i + (1 : Int)), r)
  else (Ex.exit (0 : Nat), eT.lst xs.length (eT.els xs), eT.lst l.length (eT.els l), n, i, r)
def ia_side (xs : List T) (l : List T) (n : Int) (i : Int) (r : Int) : Prop :=
  (decide (i < n) = true → ((0 : Int) ≤ i ∧ i < (↑xs.length : Int)) ∧ ((0 : Int) ≤ (0 : Int) ∧ (0 : Int) < (↑l.length : Int)) ∧ (((xs.getD i.toNat eT.dflt).d != (l.getD (0 : Nat) eT.dflt).d) = true → (∀ (e : Nat), e < xs.length → eT.Ok (eT.els xs e)) ∧ ∀ (e : Nat), e < l.length → eT.Ok (eT.els l e)) ∧ (((xs.getD i.toNat eT.dflt).d != (l.getD (0 : Nat) eT.dflt).d) = false → (∀ (e : Nat), e < xs.length → eT.Ok (eT.els xs e)) ∧ ∀ (e : Nat), e < l.length → eT.Ok (eT.els l e))) ∧ (decide (i < n) = false → (∀ (e : Nat), e < xs.length → eT.Ok (eT.els xs e)) ∧ ∀ (e : Nat), e < l.length → eT.Ok (eT.els l e))
theorem ia_one : ((loopsOf Try.prog 120).filter fun c => Nat.beq (lkey c) 2).length = 1 := by kernel_rfl
abbrev ia_GC : Type := List T × List T × Int
abbrev ia_GB : Type := Int
def ia_f (g : ia_G) : Int × ia_GC × ia_GB := (g.2.2.2.1, (g.1, g.2.1, g.2.2.1), g.2.2.2.2)
def ia_g (d : Int × ia_GC × ia_GB) : ia_G := (d.2.1.1, d.2.1.2.1, d.2.1.2.2, d.1, d.2.2)
theorem ia_es (g : ia_G) : (ia_R g.1 g.2.1 g.2.2.1 g.2.2.2.1 g.2.2.2.2).1 = .normal ∨ (ia_R g.1 g.2.1 g.2.2.1 g.2.2.2.1 g.2.2.2.2).1 ∈ ([.ret, .exit 0] : List Ex) := by
  unfold ia_R
  repeat' (first | (left; rfl) | (right; simp only [cond_true, cond_false]; simp; done) | (rw [Bool.cond_eq_ite]; split))
noncomputable abbrev ia_C (Inv : ia_G → List Prop) (m : ia_G → Nat) : LCon := loopR [.ret, .exit 0] (loopBody Try.prog 120 2) ia_LP [] 19 Inv (fun g => ia_R g.1 g.2.1 g.2.2.1 g.2.2.2.1 g.2.2.2.2) m
theorem ia_loop (Inv : ia_G → List Prop) (m : ia_G → Nat) (hs : ∀ g, allP (Inv g) → ia_side g.1 g.2.1 g.2.2.1 g.2.2.2.1 g.2.2.2.2) (hg : Goes (fun g : ia_G => ia_R g.1 g.2.1 g.2.2.1 g.2.2.2.1 g.2.2.2.2) m fun g => allP (Inv g)) : ∀ b ∈ loopsOf Try.prog 120, lkey b = 2 → LoopOk Try.prog b (ia_C Inv m).g := loop_run (Γ := (PTab.gamz tabL [] [])) (Λ := noΛ) (PTab.okz tabL [] []) noΛ_ok 100 120 2 19 ia_LP [] Inv (fun g => ia_R g.1 g.2.1 g.2.2.1 g.2.2.2.1 g.2.2.2.2) (fun g => ia_side g.1 g.2.1 g.2.2.1 g.2.2.2.1 g.2.2.2.2) m default [.ret, .exit 0] ia_one (fun rd T B HL HB ds g => by kernel_rfl) (fun rd T B HL HB ds g => by kernel_rfl) hs hg ia_es
abbrev ib_G : Type := List T × T × Int × Int × Int
noncomputable def ib_LP : LP 0 ib_G := .pair (.slot 0 0 dLT) (.pair (.slot 0 1 dFc) (.pair (.slot 0 7 dI) (.pair (.slot 0 8 dI) (.slot 0 4 dI))))
noncomputable def ib_R (xs : List T) (t : T) (n : Int) (i : Int) (r : Int) : Ex × ib_G :=
  bif decide (i < n) then bif tleq_F (xs.getD i.toNat eT.dflt) t then (Ex.ret, eT.lst xs.length (eT.els xs), t, n, i, i) else (Ex.normal, eT.lst xs.length (eT.els xs), t, n, IntKind.i64.wrap (i + (1 : Int)), r)
  else (Ex.exit (0 : Nat), eT.lst xs.length (eT.els xs), t, n, i, r)
def ib_side (xs : List T) (t : T) (n : Int) (i : Int) (r : Int) : Prop :=
  (decide (i < n) = true → ((0 : Int) ≤ i ∧ i < (↑xs.length : Int)) ∧ (tleq_F (xs.getD i.toNat eT.dflt) t = true → ∀ (e : Nat), e < xs.length → eT.Ok (eT.els xs e)) ∧ (tleq_F (xs.getD i.toNat eT.dflt) t = false → ∀ (e : Nat), e < xs.length → eT.Ok (eT.els xs e))) ∧ (decide (i < n) = false → ∀ (e : Nat), e < xs.length → eT.Ok (eT.els xs e))
theorem ib_one : ((loopsOf Try.prog 120).filter fun c => Nat.beq (lkey c) 2).length = 1 := by kernel_rfl
abbrev ib_GC : Type := List T × T × Int
abbrev ib_GB : Type := Int
def ib_f (g : ib_G) : Int × ib_GC × ib_GB := (g.2.2.2.1, (g.1, g.2.1, g.2.2.1), g.2.2.2.2)
def ib_g (d : Int × ib_GC × ib_GB) : ib_G := (d.2.1.1, d.2.1.2.1, d.2.1.2.2, d.1, d.2.2)
theorem ib_es (g : ib_G) : (ib_R g.1 g.2.1 g.2.2.1 g.2.2.2.1 g.2.2.2.2).1 = .normal ∨ (ib_R g.1 g.2.1 g.2.2.1 g.2.2.2.1 g.2.2.2.2).1 ∈ ([.ret, .exit 0] : List Ex) := by
  unfold ib_R
  repeat' (first | (left; rfl) | (right; simp only [cond_true, cond_false]; simp; done) | (rw [Bool.cond_eq_ite]; split))
noncomputable abbrev ib_C (Inv : ib_G → List Prop) (m : ib_G → Nat) : LCon := loopR [.ret, .exit 0] (loopBody Try.prog 120 2) ib_LP [] 19 Inv (fun g => ib_R g.1 g.2.1 g.2.2.1 g.2.2.2.1 g.2.2.2.2) m
theorem ib_loop (Inv : ib_G → List Prop) (m : ib_G → Nat) (hs : ∀ g, allP (Inv g) → ib_side g.1 g.2.1 g.2.2.1 g.2.2.2.1 g.2.2.2.2) (hg : Goes (fun g : ib_G => ib_R g.1 g.2.1 g.2.2.1 g.2.2.2.1 g.2.2.2.2) m fun g => allP (Inv g)) : ∀ b ∈ loopsOf Try.prog 120, lkey b = 2 → LoopOk Try.prog b (ib_C Inv m).g := loop_run (Γ := (PTab.gamz tabL [] [])) (Λ := noΛ) (PTab.okz tabL [] []) noΛ_ok 100 120 2 19 ib_LP [] Inv (fun g => ib_R g.1 g.2.1 g.2.2.1 g.2.2.2.1 g.2.2.2.2) (fun g => ib_side g.1 g.2.1 g.2.2.1 g.2.2.2.1 g.2.2.2.2) m default [.ret, .exit 0] ib_one (fun rd T B HL HB ds g => by kernel_rfl) (fun rd T B HL HB ds g => by kernel_rfl) hs hg ib_es
abbrev ii_G : Type := List T × Unit × T × Int × Int × Int
noncomputable def ii_LP : LP 1 ii_G := .pair (.slot 1 0 dLT) (.pair (.fix 1 3 (.p 0 0)) (.pair (.obj 1 0 30 eT) (.pair (.slot 1 7 dI) (.pair (.slot 1 8 dI) (.slot 1 4 dI)))))
noncomputable def ii_R (xs : List T) (_u : Unit) (t : T) (n : Int) (i : Int) (r : Int) : Ex × ii_G :=
  bif decide (i < n) then bif conj ([t.e == (xs.getD i.toNat eT.dflt).e] ++ ([t.d == (xs.getD i.toNat eT.dflt).d] ++ ([t.l0 == (xs.getD i.toNat eT.dflt).l0] ++ ([t.l1 == (xs.getD i.toNat eT.dflt).l1] ++ ([t.l2 == (xs.getD i.toNat eT.dflt).l2] ++ ([t.l3 == (xs.getD i.toNat eT.dflt).l3] ++ []))) ++ []))) then (Ex.ret, eT.lst xs.length (eT.els xs), (), t, n, i, i) else (Ex.normal, eT.lst xs.length (eT.els xs), (), t, n, IntKind.i64.wrap (i + (1 : Int)), r)
  else (Ex.exit (0 : Nat), eT.lst xs.length (eT.els xs), (), t, n, i, r)
def ii_side (xs : List T) (_u : Unit) (t : T) (n : Int) (i : Int) (r : Int) : Prop :=
  (decide (i < n) = true → ((0 : Int) ≤ i ∧ i < (↑xs.length : Int)) ∧ (conj ([t.e == (xs.getD i.toNat eT.dflt).e] ++ ([t.d == (xs.getD i.toNat eT.dflt).d] ++ ([t.l0 == (xs.getD i.toNat eT.dflt).l0] ++ ([t.l1 == (xs.getD i.toNat eT.dflt).l1] ++ ([t.l2 == (xs.getD i.toNat eT.dflt).l2] ++ ([t.l3 == (xs.getD i.toNat eT.dflt).l3] ++ []))) ++ []))) = true → ∀ (e : Nat), e < xs.length → eT.Ok (eT.els xs e)) ∧ (conj ([t.e == (xs.getD i.toNat eT.dflt).e] ++ ([t.d == (xs.getD i.toNat eT.dflt).d] ++ ([t.l0 == (xs.getD i.toNat eT.dflt).l0] ++ ([t.l1 == (xs.getD i.toNat eT.dflt).l1] ++ ([t.l2 == (xs.getD i.toNat eT.dflt).l2] ++ ([t.l3 == (xs.getD i.toNat eT.dflt).l3] ++ []))) ++ []))) = false → ∀ (e : Nat), e < xs.length → eT.Ok (eT.els xs e))) ∧ (decide (i < n) = false → ∀ (e : Nat), e < xs.length → eT.Ok (eT.els xs e))
theorem ii_one : ((loopsOf Try.prog 77).filter fun c => Nat.beq (lkey c) 2).length = 1 := by kernel_rfl
abbrev ii_GC : Type := List T × T × Int
abbrev ii_GB : Type := Unit × Int
def ii_f (g : ii_G) : Int × ii_GC × ii_GB := (g.2.2.2.2.1, (g.1, g.2.2.1, g.2.2.2.1), (g.2.1, g.2.2.2.2.2))
def ii_g (d : Int × ii_GC × ii_GB) : ii_G := (d.2.1.1, d.2.2.1, d.2.1.2.1, d.2.1.2.2, d.1, d.2.2.2)
theorem ii_es (g : ii_G) : (ii_R g.1 g.2.1 g.2.2.1 g.2.2.2.1 g.2.2.2.2.1 g.2.2.2.2.2).1 = .normal ∨ (ii_R g.1 g.2.1 g.2.2.1 g.2.2.2.1 g.2.2.2.2.1 g.2.2.2.2.2).1 ∈ ([.ret, .exit 0] : List Ex) := by
  unfold ii_R
  repeat' (first | (left; rfl) | (right; simp only [cond_true, cond_false]; simp; done) | (rw [Bool.cond_eq_ite]; split))
noncomputable abbrev ii_C (Inv : ii_G → List Prop) (m : ii_G → Nat) : LCon := loopR [.ret, .exit 0] (loopBody Try.prog 77 2) ii_LP [] 19 Inv (fun g => ii_R g.1 g.2.1 g.2.2.1 g.2.2.2.1 g.2.2.2.2.1 g.2.2.2.2.2) m
theorem ii_loop (Inv : ii_G → List Prop) (m : ii_G → Nat) (hs : ∀ g, allP (Inv g) → ii_side g.1 g.2.1 g.2.2.1 g.2.2.2.1 g.2.2.2.2.1 g.2.2.2.2.2) (hg : Goes (fun g : ii_G => ii_R g.1 g.2.1 g.2.2.1 g.2.2.2.1 g.2.2.2.2.1 g.2.2.2.2.2) m fun g => allP (Inv g)) : ∀ b ∈ loopsOf Try.prog 77, lkey b = 2 → LoopOk Try.prog b (ii_C Inv m).g := loop_run (Γ := (PTab.gamz tabL [] [])) (Λ := noΛ) (PTab.okz tabL [] []) noΛ_ok 100 77 2 19 ii_LP [] Inv (fun g => ii_R g.1 g.2.1 g.2.2.1 g.2.2.2.1 g.2.2.2.2.1 g.2.2.2.2.2) (fun g => ii_side g.1 g.2.1 g.2.2.1 g.2.2.2.1 g.2.2.2.2.1 g.2.2.2.2.2) m default [.ret, .exit 0] ii_one (fun rd T B HL HB ds g => by kernel_rfl) (fun rd T B HL HB ds g => by kernel_rfl) hs hg ii_es
abbrev tms_G : Type := List T × Int × Int × Int × Unit × List T
noncomputable def tms_LP : LP 1 tms_G := .pair (.slot 1 6 dLT) (.pair (.slot 1 7 dI) (.pair (.slot 1 8 dI) (.pair (.slot 1 2 dI) (.pair (.fix 1 1 (.p 0 0)) (.obj 1 0 tLT (eList eT))))))
noncomputable def tms_R (xs : List T) (n : Int) (i : Int) (r : Int) (_u : Unit) (l : List T) : Ex × tms_G :=
  bif decide (i < n) then bif tcheck_F (xs.getD i.toNat eT.dflt) != (0 : Int) then (Ex.ret, eT.lst xs.length (eT.els xs), n, i, tcheck_F (xs.getD i.toNat eT.dflt), (), eT.lst l.length (eT.els l)) else (Ex.normal, eT.lst xs.length (eT.els xs), n, IntKind.i64.wrap (i + (1 : Int)), r, (), eT.lst l.length (eT.els l))
  else (Ex.exit (0 : Nat), eT.lst xs.length (eT.els xs), n, i, r, (), eT.lst l.length (eT.els l))
def tms_side (xs : List T) (n : Int) (i : Int) (r : Int) (_u : Unit) (l : List T) : Prop :=
  (decide (i < n) = true → ((0 : Int) ≤ i ∧ i < (↑xs.length : Int)) ∧ ((tcheck_F (xs.getD i.toNat eT.dflt) != (0 : Int)) = true → (∀ (e : Nat), e < xs.length → eT.Ok (eT.els xs e)) ∧ ∀ (e : Nat), e < l.length → eT.Ok (eT.els l e)) ∧ ((tcheck_F (xs.getD i.toNat eT.dflt) != (0 : Int)) = false → (∀ (e : Nat), e < xs.length → eT.Ok (eT.els xs e)) ∧ ∀ (e : Nat), e < l.length → eT.Ok (eT.els l e))) ∧ (decide (i < n) = false → (∀ (e : Nat), e < xs.length → eT.Ok (eT.els xs e)) ∧ ∀ (e : Nat), e < l.length → eT.Ok (eT.els l e))
theorem tms_one : ((loopsOf Try.prog 68).filter fun c => Nat.beq (lkey c) 2).length = 1 := by kernel_rfl
abbrev tms_GC : Type := List T × Int × List T
abbrev tms_GB : Type := Int × Unit
def tms_f (g : tms_G) : Int × tms_GC × tms_GB := (g.2.2.1, (g.1, g.2.1, g.2.2.2.2.2), (g.2.2.2.1, g.2.2.2.2.1))
def tms_g (d : Int × tms_GC × tms_GB) : tms_G := (d.2.1.1, d.2.1.2.1, d.1, d.2.2.1, d.2.2.2, d.2.1.2.2)
theorem tms_es (g : tms_G) : (tms_R g.1 g.2.1 g.2.2.1 g.2.2.2.1 g.2.2.2.2.1 g.2.2.2.2.2).1 = .normal ∨ (tms_R g.1 g.2.1 g.2.2.1 g.2.2.2.1 g.2.2.2.2.1 g.2.2.2.2.2).1 ∈ ([.ret, .exit 0] : List Ex) := by
  unfold tms_R
  repeat' (first | (left; rfl) | (right; simp only [cond_true, cond_false]; simp; done) | (rw [Bool.cond_eq_ite]; split))
noncomputable abbrev tms_C (Inv : tms_G → List Prop) (m : tms_G → Nat) : LCon := loopR [.ret, .exit 0] (loopBody Try.prog 68 2) tms_LP [] 21 Inv (fun g => tms_R g.1 g.2.1 g.2.2.1 g.2.2.2.1 g.2.2.2.2.1 g.2.2.2.2.2) m
theorem tms_loop (Inv : tms_G → List Prop) (m : tms_G → Nat) (hs : ∀ g, allP (Inv g) → tms_side g.1 g.2.1 g.2.2.1 g.2.2.2.1 g.2.2.2.2.1 g.2.2.2.2.2) (hg : Goes (fun g : tms_G => tms_R g.1 g.2.1 g.2.2.1 g.2.2.2.1 g.2.2.2.2.1 g.2.2.2.2.2) m fun g => allP (Inv g)) : ∀ b ∈ loopsOf Try.prog 68, lkey b = 2 → LoopOk Try.prog b (tms_C Inv m).g := loop_run (Γ := (PTab.gamz tabL [] [])) (Λ := noΛ) (PTab.okz tabL [] []) noΛ_ok 100 68 2 21 tms_LP [] Inv (fun g => tms_R g.1 g.2.1 g.2.2.1 g.2.2.2.1 g.2.2.2.2.1 g.2.2.2.2.2) (fun g => tms_side g.1 g.2.1 g.2.2.1 g.2.2.2.1 g.2.2.2.2.1 g.2.2.2.2.2) m default [.ret, .exit 0] tms_one (fun rd T B HL HB ds g => by kernel_rfl) (fun rd T B HL HB ds g => by kernel_rfl) hs hg tms_es
abbrev ra_G : Type := List T × Int × Int
noncomputable def ra_LP : LP 0 ra_G := .pair (.slot 0 0 dLT) (.pair (.slot 0 3 dI) (.slot 0 2 dI))
noncomputable def ra_R (xs : List T) (i : Int) (r : Int) : Ex × ra_G :=
  bif decide (i < (↑xs.length : Int)) then bif rtcheck_F (xs.getD i.toNat eT.dflt) != (0 : Int) then (Ex.ret, eT.lst xs.length (eT.els xs), i, (10 : Int)) else (Ex.normal, eT.lst xs.length (eT.els xs), IntKind.i64.wrap (i + (1 : Int)), r)
  else (Ex.exit (0 : Nat), eT.lst xs.length (eT.els xs), i, r)
def ra_side (xs : List T) (i : Int) (r : Int) : Prop :=
  (decide (i < (↑xs.length : Int)) = true → ((0 : Int) ≤ i ∧ i < (↑xs.length : Int)) ∧ ((rtcheck_F (xs.getD i.toNat eT.dflt) != (0 : Int)) = true → ∀ (e : Nat), e < xs.length → eT.Ok (eT.els xs e)) ∧ ((rtcheck_F (xs.getD i.toNat eT.dflt) != (0 : Int)) = false → ∀ (e : Nat), e < xs.length → eT.Ok (eT.els xs e))) ∧ (decide (i < (↑xs.length : Int)) = false → ∀ (e : Nat), e < xs.length → eT.Ok (eT.els xs e))
theorem ra_one : ((loopsOf Try.prog 78).filter fun c => Nat.beq (lkey c) 2).length = 1 := by kernel_rfl
abbrev ra_GC : Type := List T
abbrev ra_GB : Type := Int
def ra_f (g : ra_G) : Int × ra_GC × ra_GB := (g.2.1, g.1, g.2.2)
def ra_g (d : Int × ra_GC × ra_GB) : ra_G := (d.2.1, d.1, d.2.2)
theorem ra_es (g : ra_G) : (ra_R g.1 g.2.1 g.2.2).1 = .normal ∨ (ra_R g.1 g.2.1 g.2.2).1 ∈ ([.ret, .exit 0] : List Ex) := by
  unfold ra_R
  repeat' (first | (left; rfl) | (right; simp only [cond_true, cond_false]; simp; done) | (rw [Bool.cond_eq_ite]; split))
noncomputable abbrev ra_C (Inv : ra_G → List Prop) (m : ra_G → Nat) : LCon := loopR [.ret, .exit 0] (loopBody Try.prog 78 2) ra_LP [] 33 Inv (fun g => ra_R g.1 g.2.1 g.2.2) m
theorem ra_loop (Inv : ra_G → List Prop) (m : ra_G → Nat) (hs : ∀ g, allP (Inv g) → ra_side g.1 g.2.1 g.2.2) (hg : Goes (fun g : ra_G => ra_R g.1 g.2.1 g.2.2) m fun g => allP (Inv g)) : ∀ b ∈ loopsOf Try.prog 78, lkey b = 2 → LoopOk Try.prog b (ra_C Inv m).g := loop_run (Γ := (PTab.gamz tabL [] [])) (Λ := noΛ) (PTab.okz tabL [] []) noΛ_ok 100 78 2 33 ra_LP [] Inv (fun g => ra_R g.1 g.2.1 g.2.2) (fun g => ra_side g.1 g.2.1 g.2.2) m default [.ret, .exit 0] ra_one (fun rd T B HL HB ds g => by kernel_rfl) (fun rd T B HL HB ds g => by kernel_rfl) hs hg ra_es
abbrev rb_G : Type := List T × Int × Int
noncomputable def rb_LP : LP 0 rb_G := .pair (.slot 0 0 dLT) (.pair (.slot 0 4 dI) (.slot 0 2 dI))
noncomputable def rb_R (xs : List T) (i : Int) (r : Int) : Ex × rb_G :=
  bif decide (i < (↑xs.length : Int)) then bif (xs.getD i.toNat eT.dflt).d != (xs.getD (0 : Nat) eT.dflt).d then (Ex.ret, eT.lst xs.length (eT.els xs), i, (11 : Int)) else (Ex.normal, eT.lst xs.length (eT.els xs), IntKind.i64.wrap (i + (1 : Int)), r)
  else (Ex.exit (2 : Nat), eT.lst xs.length (eT.els xs), i, r)
def rb_side (xs : List T) (i : Int) (r : Int) : Prop :=
  (decide (i < (↑xs.length : Int)) = true → ((0 : Int) ≤ i ∧ i < (↑xs.length : Int)) ∧ ((0 : Int) ≤ (0 : Int) ∧ (0 : Int) < (↑xs.length : Int)) ∧ (((xs.getD i.toNat eT.dflt).d != (xs.getD (0 : Nat) eT.dflt).d) = true → ∀ (e : Nat), e < xs.length → eT.Ok (eT.els xs e)) ∧ (((xs.getD i.toNat eT.dflt).d != (xs.getD (0 : Nat) eT.dflt).d) = false → ∀ (e : Nat), e < xs.length → eT.Ok (eT.els xs e))) ∧ (decide (i < (↑xs.length : Int)) = false → ∀ (e : Nat), e < xs.length → eT.Ok (eT.els xs e))
theorem rb_one : ((loopsOf Try.prog 78).filter fun c => Nat.beq (lkey c) 7).length = 1 := by kernel_rfl
abbrev rb_GC : Type := List T
abbrev rb_GB : Type := Int
def rb_f (g : rb_G) : Int × rb_GC × rb_GB := (g.2.1, g.1, g.2.2)
def rb_g (d : Int × rb_GC × rb_GB) : rb_G := (d.2.1, d.1, d.2.2)
theorem rb_es (g : rb_G) : (rb_R g.1 g.2.1 g.2.2).1 = .normal ∨ (rb_R g.1 g.2.1 g.2.2).1 ∈ ([.ret, .exit 2] : List Ex) := by
  unfold rb_R
  repeat' (first | (left; rfl) | (right; simp only [cond_true, cond_false]; simp; done) | (rw [Bool.cond_eq_ite]; split))
noncomputable abbrev rb_C (Inv : rb_G → List Prop) (m : rb_G → Nat) : LCon := loopR [.ret, .exit 2] (loopBody Try.prog 78 7) rb_LP [] 33 Inv (fun g => rb_R g.1 g.2.1 g.2.2) m
theorem rb_loop (Inv : rb_G → List Prop) (m : rb_G → Nat) (hs : ∀ g, allP (Inv g) → rb_side g.1 g.2.1 g.2.2) (hg : Goes (fun g : rb_G => rb_R g.1 g.2.1 g.2.2) m fun g => allP (Inv g)) : ∀ b ∈ loopsOf Try.prog 78, lkey b = 7 → LoopOk Try.prog b (rb_C Inv m).g := loop_run (Γ := (PTab.gamz tabL [] [])) (Λ := noΛ) (PTab.okz tabL [] []) noΛ_ok 100 78 7 33 rb_LP [] Inv (fun g => rb_R g.1 g.2.1 g.2.2) (fun g => rb_side g.1 g.2.1 g.2.2) m default [.ret, .exit 2] rb_one (fun rd T B HL HB ds g => by kernel_rfl) (fun rd T B HL HB ds g => by kernel_rfl) hs hg rb_es
abbrev hs_G : Type := List T × Unit × T × Int × Bool
noncomputable def hs_LP : LP 1 hs_G := .pair (.slot 1 0 dLT) (.pair (.fix 1 3 (.p 0 0)) (.pair (.obj 1 0 30 eT) (.pair (.slot 1 5 dI) (.slot 1 4 dBool))))
noncomputable def hs_R (xs : List T) (_u : Unit) (t : T) (i : Int) (r : Bool) : Ex × hs_G :=
  bif decide (i < (↑xs.length : Int)) then bif conj ([(xs.getD i.toNat eT.dflt).e == t.e] ++ ([(xs.getD i.toNat eT.dflt).d == t.d] ++ ([(xs.getD i.toNat eT.dflt).l0 == t.l0] ++ ([(xs.getD i.toNat eT.dflt).l1 == t.l1] ++ ([(xs.getD i.toNat eT.dflt).l2 == t.l2] ++ ([(xs.getD i.toNat eT.dflt).l3 == t.l3] ++ []))) ++ []))) then (Ex.ret, eT.lst xs.length (eT.els xs), (), t, i, true) else (Ex.normal, eT.lst xs.length (eT.els xs), (), t, IntKind.i64.wrap (i + (1 : Int)), r)
  else (Ex.exit (0 : Nat), eT.lst xs.length (eT.els xs), (), t, i, r)
def hs_side (xs : List T) (_u : Unit) (t : T) (i : Int) (r : Bool) : Prop :=
  (decide (i < (↑xs.length : Int)) = true → ((0 : Int) ≤ i ∧ i < (↑xs.length : Int)) ∧ (conj ([(xs.getD i.toNat eT.dflt).e == t.e] ++ ([(xs.getD i.toNat eT.dflt).d == t.d] ++ ([(xs.getD i.toNat eT.dflt).l0 == t.l0] ++ ([(xs.getD i.toNat eT.dflt).l1 == t.l1] ++ ([(xs.getD i.toNat eT.dflt).l2 == t.l2] ++ ([(xs.getD i.toNat eT.dflt).l3 == t.l3] ++ []))) ++ []))) = true → ∀ (e : Nat), e < xs.length → eT.Ok (eT.els xs e)) ∧ (conj ([(xs.getD i.toNat eT.dflt).e == t.e] ++ ([(xs.getD i.toNat eT.dflt).d == t.d] ++ ([(xs.getD i.toNat eT.dflt).l0 == t.l0] ++ ([(xs.getD i.toNat eT.dflt).l1 == t.l1] ++ ([(xs.getD i.toNat eT.dflt).l2 == t.l2] ++ ([(xs.getD i.toNat eT.dflt).l3 == t.l3] ++ []))) ++ []))) = false → ∀ (e : Nat), e < xs.length → eT.Ok (eT.els xs e))) ∧ (decide (i < (↑xs.length : Int)) = false → ∀ (e : Nat), e < xs.length → eT.Ok (eT.els xs e))
theorem hs_one : ((loopsOf Try.prog 88).filter fun c => Nat.beq (lkey c) 2).length = 1 := by kernel_rfl
abbrev hs_GC : Type := List T × T
abbrev hs_GB : Type := Unit × Bool
def hs_f (g : hs_G) : Int × hs_GC × hs_GB := (g.2.2.2.1, (g.1, g.2.2.1), (g.2.1, g.2.2.2.2))
def hs_g (d : Int × hs_GC × hs_GB) : hs_G := (d.2.1.1, d.2.2.1, d.2.1.2, d.1, d.2.2.2)
theorem hs_es (g : hs_G) : (hs_R g.1 g.2.1 g.2.2.1 g.2.2.2.1 g.2.2.2.2).1 = .normal ∨ (hs_R g.1 g.2.1 g.2.2.1 g.2.2.2.1 g.2.2.2.2).1 ∈ ([.ret, .exit 0] : List Ex) := by
  unfold hs_R
  repeat' (first | (left; rfl) | (right; simp only [cond_true, cond_false]; simp; done) | (rw [Bool.cond_eq_ite]; split))
noncomputable abbrev hs_C (Inv : hs_G → List Prop) (m : hs_G → Nat) : LCon := loopR [.ret, .exit 0] (loopBody Try.prog 88 2) hs_LP [] 18 Inv (fun g => hs_R g.1 g.2.1 g.2.2.1 g.2.2.2.1 g.2.2.2.2) m
theorem hs_loop (Inv : hs_G → List Prop) (m : hs_G → Nat) (hs : ∀ g, allP (Inv g) → hs_side g.1 g.2.1 g.2.2.1 g.2.2.2.1 g.2.2.2.2) (hg : Goes (fun g : hs_G => hs_R g.1 g.2.1 g.2.2.1 g.2.2.2.1 g.2.2.2.2) m fun g => allP (Inv g)) : ∀ b ∈ loopsOf Try.prog 88, lkey b = 2 → LoopOk Try.prog b (hs_C Inv m).g := loop_run (Γ := (PTab.gamz tabL [] [])) (Λ := noΛ) (PTab.okz tabL [] []) noΛ_ok 100 88 2 18 hs_LP [] Inv (fun g => hs_R g.1 g.2.1 g.2.2.1 g.2.2.2.1 g.2.2.2.2) (fun g => hs_side g.1 g.2.1 g.2.2.1 g.2.2.2.1 g.2.2.2.2) m default [.ret, .exit 0] hs_one (fun rd T B HL HB ds g => by kernel_rfl) (fun rd T B HL HB ds g => by kernel_rfl) hs hg hs_es
abbrev rs_G : Type := List T × List T × Int × Bool
noncomputable def rs_LP : LP 0 rs_G := .pair (.slot 0 0 dLT) (.pair (.slot 0 1 dLT) (.pair (.slot 0 5 dI) (.slot 0 4 dBool)))
noncomputable def rs_R (xs : List T) (ys : List T) (i : Int) (r : Bool) : Ex × rs_G :=
  bif decide (i < (↑xs.length : Int)) then bif !conj ([(xs.getD i.toNat eT.dflt).e == (ys.getD i.toNat eT.dflt).e] ++ ([(xs.getD i.toNat eT.dflt).d == (ys.getD i.toNat eT.dflt).d] ++ ([(xs.getD i.toNat eT.dflt).l0 == (ys.getD i.toNat eT.dflt).l0] ++ ([(xs.getD i.toNat eT.dflt).l1 == (ys.getD i.toNat eT.dflt).l1] ++ ([(xs.getD i.toNat eT.dflt).l2 == (ys.getD i.toNat eT.dflt).l2] ++ ([(xs.getD i.toNat eT.dflt).l3 == (ys.getD i.toNat eT.dflt).l3] ++ []))) ++ []))) then (Ex.ret, eT.lst xs.length (eT.els xs), eT.lst ys.length (eT.els ys), i, false) else (Ex.normal, eT.lst xs.length (eT.els xs), eT.lst ys.length (eT.els ys), IntKind.i64.wrap (i + (1 : Int)), r)
  else (Ex.exit (0 : Nat), eT.lst xs.length (eT.els xs), eT.lst ys.length (eT.els ys), i, r)
def rs_side (xs : List T) (ys : List T) (i : Int) (r : Bool) : Prop :=
  (decide (i < (↑xs.length : Int)) = true → ((0 : Int) ≤ i ∧ i < (↑xs.length : Int)) ∧ ((0 : Int) ≤ i ∧ i < (↑ys.length : Int)) ∧ ((!conj ([(xs.getD i.toNat eT.dflt).e == (ys.getD i.toNat eT.dflt).e] ++ ([(xs.getD i.toNat eT.dflt).d == (ys.getD i.toNat eT.dflt).d] ++ ([(xs.getD i.toNat eT.dflt).l0 == (ys.getD i.toNat eT.dflt).l0] ++ ([(xs.getD i.toNat eT.dflt).l1 == (ys.getD i.toNat eT.dflt).l1] ++ ([(xs.getD i.toNat eT.dflt).l2 == (ys.getD i.toNat eT.dflt).l2] ++ ([(xs.getD i.toNat eT.dflt).l3 == (ys.getD i.toNat eT.dflt).l3] ++ []))) ++ [])))) = true → (∀ (e : Nat), e < xs.length → eT.Ok (eT.els xs e)) ∧ ∀ (e : Nat), e < ys.length → eT.Ok (eT.els ys e)) ∧ ((!conj ([(xs.getD i.toNat eT.dflt).e == (ys.getD i.toNat eT.dflt).e] ++ ([(xs.getD i.toNat eT.dflt).d == (ys.getD i.toNat eT.dflt).d] ++ ([(xs.getD i.toNat eT.dflt).l0 == (ys.getD i.toNat eT.dflt).l0] ++ ([(xs.getD i.toNat eT.dflt).l1 == (ys.getD i.toNat eT.dflt).l1] ++ ([(xs.getD i.toNat eT.dflt).l2 == (ys.getD i.toNat eT.dflt).l2] ++ ([(xs.getD i.toNat eT.dflt).l3 == (ys.getD i.toNat eT.dflt).l3] ++ []))) ++ [])))) = false → (∀ (e : Nat), e < xs.length → eT.Ok (eT.els xs e)) ∧ ∀ (e : Nat), e < ys.length → eT.Ok (eT.els ys e))) ∧ (decide (i < (↑xs.length : Int)) = false → (∀ (e : Nat), e < xs.length → eT.Ok (eT.els xs e)) ∧ ∀ (e : Nat), e < ys.length → eT.Ok (eT.els ys e))
theorem rs_one : ((loopsOf Try.prog 91).filter fun c => Nat.beq (lkey c) 4).length = 1 := by kernel_rfl
abbrev rs_GC : Type := List T × List T
abbrev rs_GB : Type := Bool
def rs_f (g : rs_G) : Int × rs_GC × rs_GB := (g.2.2.1, (g.1, g.2.1), g.2.2.2)
def rs_g (d : Int × rs_GC × rs_GB) : rs_G := (d.2.1.1, d.2.1.2, d.1, d.2.2)
theorem rs_es (g : rs_G) : (rs_R g.1 g.2.1 g.2.2.1 g.2.2.2).1 = .normal ∨ (rs_R g.1 g.2.1 g.2.2.1 g.2.2.2).1 ∈ ([.ret, .exit 0] : List Ex) := by
  unfold rs_R
  repeat' (first | (left; rfl) | (right; simp only [cond_true, cond_false]; simp; done) | (rw [Bool.cond_eq_ite]; split))
noncomputable abbrev rs_C (Inv : rs_G → List Prop) (m : rs_G → Nat) : LCon := loopR [.ret, .exit 0] (loopBody Try.prog 91 4) rs_LP [] 26 Inv (fun g => rs_R g.1 g.2.1 g.2.2.1 g.2.2.2) m
theorem rs_loop (Inv : rs_G → List Prop) (m : rs_G → Nat) (hs : ∀ g, allP (Inv g) → rs_side g.1 g.2.1 g.2.2.1 g.2.2.2) (hg : Goes (fun g : rs_G => rs_R g.1 g.2.1 g.2.2.1 g.2.2.2) m fun g => allP (Inv g)) : ∀ b ∈ loopsOf Try.prog 91, lkey b = 4 → LoopOk Try.prog b (rs_C Inv m).g := loop_run (Γ := (PTab.gamz tabL [] [])) (Λ := noΛ) (PTab.okz tabL [] []) noΛ_ok 100 91 4 26 rs_LP [] Inv (fun g => rs_R g.1 g.2.1 g.2.2.1 g.2.2.2) (fun g => rs_side g.1 g.2.1 g.2.2.1 g.2.2.2) m default [.ret, .exit 0] rs_one (fun rd T B HL HB ds g => by kernel_rfl) (fun rd T B HL HB ds g => by kernel_rfl) hs hg rs_es
abbrev eq_G : Type := List T × List T × Int × Int × Bool
noncomputable def eq_LP : LP 0 eq_G := .pair (.slot 0 0 dLT) (.pair (.slot 0 1 dLT) (.pair (.slot 0 12 dI) (.pair (.slot 0 13 dI) (.slot 0 4 dBool))))
noncomputable def eq_R (xs : List T) (ys : List T) (n : Int) (i : Int) (r : Bool) : Ex × eq_G :=
  bif decide (i < n) then bif !conj ([(xs.getD i.toNat eT.dflt).e == (ys.getD i.toNat eT.dflt).e] ++ ([(xs.getD i.toNat eT.dflt).d == (ys.getD i.toNat eT.dflt).d] ++ ([(xs.getD i.toNat eT.dflt).l0 == (ys.getD i.toNat eT.dflt).l0] ++ ([(xs.getD i.toNat eT.dflt).l1 == (ys.getD i.toNat eT.dflt).l1] ++ ([(xs.getD i.toNat eT.dflt).l2 == (ys.getD i.toNat eT.dflt).l2] ++ ([(xs.getD i.toNat eT.dflt).l3 == (ys.getD i.toNat eT.dflt).l3] ++ []))) ++ []))) then (Ex.ret, eT.lst xs.length (eT.els xs), eT.lst ys.length (eT.els ys), n, i, false) else (Ex.normal, eT.lst xs.length (eT.els xs), eT.lst ys.length (eT.els ys), n, IntKind.i64.wrap (i + (1 : Int)), r)
  else (Ex.exit (0 : Nat), eT.lst xs.length (eT.els xs), eT.lst ys.length (eT.els ys), n, i, r)
def eq_side (xs : List T) (ys : List T) (n : Int) (i : Int) (r : Bool) : Prop :=
  (decide (i < n) = true → ((0 : Int) ≤ i ∧ i < (↑xs.length : Int)) ∧ ((0 : Int) ≤ i ∧ i < (↑ys.length : Int)) ∧ ((!conj ([(xs.getD i.toNat eT.dflt).e == (ys.getD i.toNat eT.dflt).e] ++ ([(xs.getD i.toNat eT.dflt).d == (ys.getD i.toNat eT.dflt).d] ++ ([(xs.getD i.toNat eT.dflt).l0 == (ys.getD i.toNat eT.dflt).l0] ++ ([(xs.getD i.toNat eT.dflt).l1 == (ys.getD i.toNat eT.dflt).l1] ++ ([(xs.getD i.toNat eT.dflt).l2 == (ys.getD i.toNat eT.dflt).l2] ++ ([(xs.getD i.toNat eT.dflt).l3 == (ys.getD i.toNat eT.dflt).l3] ++ []))) ++ [])))) = true → (∀ (e : Nat), e < xs.length → eT.Ok (eT.els xs e)) ∧ ∀ (e : Nat), e < ys.length → eT.Ok (eT.els ys e)) ∧ ((!conj ([(xs.getD i.toNat eT.dflt).e == (ys.getD i.toNat eT.dflt).e] ++ ([(xs.getD i.toNat eT.dflt).d == (ys.getD i.toNat eT.dflt).d] ++ ([(xs.getD i.toNat eT.dflt).l0 == (ys.getD i.toNat eT.dflt).l0] ++ ([(xs.getD i.toNat eT.dflt).l1 == (ys.getD i.toNat eT.dflt).l1] ++ ([(xs.getD i.toNat eT.dflt).l2 == (ys.getD i.toNat eT.dflt).l2] ++ ([(xs.getD i.toNat eT.dflt).l3 == (ys.getD i.toNat eT.dflt).l3] ++ []))) ++ [])))) = false → (∀ (e : Nat), e < xs.length → eT.Ok (eT.els xs e)) ∧ ∀ (e : Nat), e < ys.length → eT.Ok (eT.els ys e))) ∧ (decide (i < n) = false → (∀ (e : Nat), e < xs.length → eT.Ok (eT.els xs e)) ∧ ∀ (e : Nat), e < ys.length → eT.Ok (eT.els ys e))
theorem eq_one : ((loopsOf Try.prog 25).filter fun c => Nat.beq (lkey c) 4).length = 1 := by kernel_rfl
abbrev eq_GC : Type := List T × List T × Int
abbrev eq_GB : Type := Bool
def eq_f (g : eq_G) : Int × eq_GC × eq_GB := (g.2.2.2.1, (g.1, g.2.1, g.2.2.1), g.2.2.2.2)
def eq_g (d : Int × eq_GC × eq_GB) : eq_G := (d.2.1.1, d.2.1.2.1, d.2.1.2.2, d.1, d.2.2)
theorem eq_es (g : eq_G) : (eq_R g.1 g.2.1 g.2.2.1 g.2.2.2.1 g.2.2.2.2).1 = .normal ∨ (eq_R g.1 g.2.1 g.2.2.1 g.2.2.2.1 g.2.2.2.2).1 ∈ ([.ret, .exit 0] : List Ex) := by
  unfold eq_R
  repeat' (first | (left; rfl) | (right; simp only [cond_true, cond_false]; simp; done) | (rw [Bool.cond_eq_ite]; split))
noncomputable abbrev eq_C (Inv : eq_G → List Prop) (m : eq_G → Nat) : LCon := loopR [.ret, .exit 0] (loopBody Try.prog 25 4) eq_LP [] 26 Inv (fun g => eq_R g.1 g.2.1 g.2.2.1 g.2.2.2.1 g.2.2.2.2) m
theorem eq_loop (Inv : eq_G → List Prop) (m : eq_G → Nat) (hs : ∀ g, allP (Inv g) → eq_side g.1 g.2.1 g.2.2.1 g.2.2.2.1 g.2.2.2.2) (hg : Goes (fun g : eq_G => eq_R g.1 g.2.1 g.2.2.1 g.2.2.2.1 g.2.2.2.2) m fun g => allP (Inv g)) : ∀ b ∈ loopsOf Try.prog 25, lkey b = 4 → LoopOk Try.prog b (eq_C Inv m).g := loop_run (Γ := (PTab.gamz tabL [] [])) (Λ := noΛ) (PTab.okz tabL [] []) noΛ_ok 100 25 4 26 eq_LP [] Inv (fun g => eq_R g.1 g.2.1 g.2.2.1 g.2.2.2.1 g.2.2.2.2) (fun g => eq_side g.1 g.2.1 g.2.2.1 g.2.2.2.1 g.2.2.2.2) m default [.ret, .exit 0] eq_one (fun rd T B HL HB ds g => by kernel_rfl) (fun rd T B HL HB ds g => by kernel_rfl) hs hg eq_es
abbrev rc_G : Type := List T × Unit × T × Int × Bool
noncomputable def rc_LP : LP 1 rc_G := .pair (.slot 1 0 dLT) (.pair (.fix 1 3 (.p 0 0)) (.pair (.obj 1 0 30 eT) (.pair (.slot 1 5 dI) (.slot 1 4 dBool))))
noncomputable def rc_R (xs : List T) (_u : Unit) (t : T) (i : Int) (r : Bool) : Ex × rc_G :=
  bif decide (i < (↑xs.length : Int)) then bif rtleq_F (xs.getD i.toNat eT.dflt) t then (Ex.ret, eT.lst xs.length (eT.els xs), (), t, i, true) else (Ex.normal, eT.lst xs.length (eT.els xs), (), t, IntKind.i64.wrap (i + (1 : Int)), r)
  else (Ex.exit (0 : Nat), eT.lst xs.length (eT.els xs), (), t, i, r)
def rc_side (xs : List T) (_u : Unit) (t : T) (i : Int) (r : Bool) : Prop :=
  (decide (i < (↑xs.length : Int)) = true → ((0 : Int) ≤ i ∧ i < (↑xs.length : Int)) ∧ (rtleq_F (xs.getD i.toNat eT.dflt) t = true → ∀ (e : Nat), e < xs.length → eT.Ok (eT.els xs e)) ∧ (rtleq_F (xs.getD i.toNat eT.dflt) t = false → ∀ (e : Nat), e < xs.length → eT.Ok (eT.els xs e))) ∧ (decide (i < (↑xs.length : Int)) = false → ∀ (e : Nat), e < xs.length → eT.Ok (eT.els xs e))
theorem rc_one : ((loopsOf Try.prog 54).filter fun c => Nat.beq (lkey c) 2).length = 1 := by kernel_rfl
abbrev rc_GC : Type := List T × T
abbrev rc_GB : Type := Unit × Bool
def rc_f (g : rc_G) : Int × rc_GC × rc_GB := (g.2.2.2.1, (g.1, g.2.2.1), (g.2.1, g.2.2.2.2))
def rc_g (d : Int × rc_GC × rc_GB) : rc_G := (d.2.1.1, d.2.2.1, d.2.1.2, d.1, d.2.2.2)
theorem rc_es (g : rc_G) : (rc_R g.1 g.2.1 g.2.2.1 g.2.2.2.1 g.2.2.2.2).1 = .normal ∨ (rc_R g.1 g.2.1 g.2.2.1 g.2.2.2.1 g.2.2.2.2).1 ∈ ([.ret, .exit 0] : List Ex) := by
  unfold rc_R
  repeat' (first | (left; rfl) | (right; simp only [cond_true, cond_false]; simp; done) | (rw [Bool.cond_eq_ite]; split))
noncomputable abbrev rc_C (Inv : rc_G → List Prop) (m : rc_G → Nat) : LCon := loopR [.ret, .exit 0] (loopBody Try.prog 54 2) rc_LP [] 18 Inv (fun g => rc_R g.1 g.2.1 g.2.2.1 g.2.2.2.1 g.2.2.2.2) m
theorem rc_loop (Inv : rc_G → List Prop) (m : rc_G → Nat) (hs : ∀ g, allP (Inv g) → rc_side g.1 g.2.1 g.2.2.1 g.2.2.2.1 g.2.2.2.2) (hg : Goes (fun g : rc_G => rc_R g.1 g.2.1 g.2.2.1 g.2.2.2.1 g.2.2.2.2) m fun g => allP (Inv g)) : ∀ b ∈ loopsOf Try.prog 54, lkey b = 2 → LoopOk Try.prog b (rc_C Inv m).g := loop_run (Γ := (PTab.gamz tabL [] [])) (Λ := noΛ) (PTab.okz tabL [] []) noΛ_ok 100 54 2 18 rc_LP [] Inv (fun g => rc_R g.1 g.2.1 g.2.2.1 g.2.2.2.1 g.2.2.2.2) (fun g => rc_side g.1 g.2.1 g.2.2.1 g.2.2.2.1 g.2.2.2.2) m default [.ret, .exit 0] rc_one (fun rd T B HL HB ds g => by kernel_rfl) (fun rd T B HL HB ds g => by kernel_rfl) hs hg rc_es
noncomputable def tabX : PTab Try.prog := tabL
end Go.Proofs.Ytiipneclghnfhaa

/- Loops that look for a fault, that pick from a list, that ask all: plain laws. -/
namespace Go.Lp
open Go.Sx
section
variable {α β : Type}
theorem drop_at (d : α) {xs : List α} {i : Nat} (h : i < xs.length) : xs.drop i = xs.getD i d :: xs.drop (i + 1) := by
  rw [List.drop_eq_getElem_cons h]
  simp [List.getD_eq_getElem?_getD, h]
theorem take_at (d : α) {xs : List α} {i : Nat} (h : i < xs.length) : xs.take (i + 1) = xs.take i ++ [xs.getD i d] := by
  rw [List.take_add_one]
  simp [List.getD_eq_getElem?_getD, h]
/-! ### a fault: 'for range xs { if p(x) { return .., c } }' -/
abbrev ErG (α : Type) := List α × Int × Int × Unit × Int
def erF (x : Nat) (d : α) (p : α → Bool) (c : Int) (g : ErG α) : Ex × ErG α :=
  bif decide (g.2.2.1 < g.2.1) then
    bif p (g.1.getD g.2.2.1.toNat d) then (.ret, g.1, g.2.1, g.2.2.1, (), c) else (.normal, g.1, g.2.1, w64 (g.2.2.1 + 1), (), g.2.2.2.2)
  else (.exit x, g)
def erI (g : ErG α) : List Prop := [g.2.1 = (g.1.length : Int) ∧ g.1.length ≤ maxLen ∧ 0 ≤ g.2.2.1 ∧ g.2.2.1 ≤ (g.1.length : Int)]
def erM (g : ErG α) : Nat := (g.2.1 - g.2.2.1).toNat
theorem er_goes (x : Nat) (d : α) (p : α → Bool) (c : Int) : Goes (erF x d p c) erM fun g => allP (erI g) := by
  rintro ⟨xs, n, i, ⟨⟩, e⟩ hi hn
  obtain ⟨h1, h2, h3, h4⟩ := hi _ (List.mem_cons_self ..)
  simp only at h1 h2 h3 h4
  unfold maxLen at h2
  unfold erF at hn ⊢
  simp only at hn ⊢
  by_cases hlt : i < n
  · simp only [hlt, decide_true, cond_true] at hn ⊢
    cases hp : p (xs.getD i.toNat d) with
    | true => rw [hp] at hn; cases hn
    | false =>
      simp only [cond_false]
      rw [wr (by omega)]
      refine ⟨fun q hq => ?_, ?_⟩
      · simp only [erI, List.mem_singleton] at hq
        subst hq
        exact ⟨h1, by unfold maxLen; omega, by show (0 : Int) ≤ i + 1; omega, by show i + 1 ≤ (xs.length : Int); omega⟩
      · simp only [erM]; omega
  · simp only [hlt, decide_false, cond_false] at hn
    cases hn
theorem er_run (x : Nat) (d : α) (p : α → Bool) (c : Int) : ∀ g : ErG α, allP (erI g) →
    (((loopF (erF x d p c) erM g).1 = .ret ∧ (loopF (erF x d p c) erM g).2.2.2.2.2 = c ∧ (loopF (erF x d p c) erM g).2.1 = g.1 ∧ (g.1.drop g.2.2.1.toNat).any p = true) ∨
     ((loopF (erF x d p c) erM g).1 = .exit x ∧ (loopF (erF x d p c) erM g).2.2.2.2.2 = g.2.2.2.2 ∧ (loopF (erF x d p c) erM g).2.1 = g.1 ∧ (g.1.drop g.2.2.1.toNat).any p = false)) := by
  refine loopF_induct (er_goes x d p c) (Q := fun g r => ((r.1 = .ret ∧ r.2.2.2.2.2 = c ∧ r.2.1 = g.1 ∧ (g.1.drop g.2.2.1.toNat).any p = true) ∨ (r.1 = .exit x ∧ r.2.2.2.2.2 = g.2.2.2.2 ∧ r.2.1 = g.1 ∧ (g.1.drop g.2.2.1.toNat).any p = false))) ?_ ?_
  · rintro ⟨xs, n, i, ⟨⟩, e⟩ hi hn
    obtain ⟨h1, h2, h3, h4⟩ := hi _ (List.mem_cons_self ..)
    simp only at h1 h2 h3 h4
    unfold erF at hn ⊢
    simp only at hn ⊢
    by_cases hlt : i < n
    · simp only [hlt, decide_true, cond_true] at hn ⊢
      have hlt' : i.toNat < xs.length := by omega
      cases hp : p (xs.getD i.toNat d) with
      | true =>
        left
        simp only [cond_true]
        refine ⟨trivial, trivial, trivial, ?_⟩
        rw [drop_at d hlt', List.any_cons, hp]; rfl
      | false => rw [hp] at hn; exact absurd rfl hn
    · right
      simp only [hlt, decide_false, cond_false]
      refine ⟨trivial, trivial, trivial, ?_⟩
      rw [List.drop_eq_nil_of_le (by omega)]; rfl
  · rintro ⟨xs, n, i, ⟨⟩, e⟩ g' r hi he hi' _ hq
    obtain ⟨h1, h2, h3, h4⟩ := hi _ (List.mem_cons_self ..)
    simp only at h1 h2 h3 h4
    unfold maxLen at h2
    unfold erF at he
    simp only at he
    by_cases hlt : i < n
    · simp only [hlt, decide_true, cond_true] at he
      have hlt' : i.toNat < xs.length := by omega
      cases hp : p (xs.getD i.toNat d) with
      | true => rw [hp] at he; cases he
      | false =>
        rw [hp] at he
        simp only [cond_false, Prod.mk.injEq, true_and] at he
        subst he
        simp only at hq ⊢
        rw [wr (by omega)] at hq
        rw [drop_at d hlt', List.any_cons, hp, Bool.false_or]
        have : (i + 1).toNat = i.toNat + 1 := by omega
        rw [this] at hq
        exact hq
    · simp only [hlt, decide_false, cond_false] at he
      cases he
theorem er_any (x : Nat) (d : α) (p : α → Bool) (c : Int) (xs : List α) (e : Int) (h : xs.length ≤ maxLen) :
    exB .ret (loopF (erF x d p c) erM (xs, (xs.length : Int), 0, (), e)).1 = xs.any p ∧ (loopF (erF x d p c) erM (xs, (xs.length : Int), 0, (), e)).2.2.2.2.2 = (bif xs.any p then c else e) := by
  have h0 : allP (erI ((xs, (xs.length : Int), (0 : Int), (), e) : ErG α)) := fun q hq => by
    simp only [erI, List.mem_singleton] at hq
    subst hq
    exact ⟨trivial, h, Int.le_refl _, by show (0 : Int) ≤ (xs.length : Int); omega⟩
  rcases er_run x d p c _ h0 with ⟨h1, h2, _, h3⟩ | ⟨h1, h2, _, h3⟩
  · have h4 : (xs.drop 0).any p = true := h3
    rw [List.drop_zero] at h4
    rw [h1, h2, h4]; exact ⟨rfl, rfl⟩
  · have h4 : (xs.drop 0).any p = false := h3
    rw [List.drop_zero] at h4
    rw [h1, h2, h4]; exact ⟨rfl, rfl⟩
/-! ### pick: 'for range xs { if bad(x) { return .., c }; out = step(out, x) }' -/
abbrev FlG (α β : Type) := List α × β × List α × Int × Int × Unit × Int
def flF (x : Nat) (d : α) (bad : List α → α → Bool) (step : List α → β → α → β) (c : Int) (g : FlG α β) : Ex × FlG α β :=
  bif decide (g.2.2.2.2.1 < g.2.2.2.1) then
    bif bad g.1 (g.2.2.1.getD g.2.2.2.2.1.toNat d) then (.ret, g.1, g.2.1, g.2.2.1, g.2.2.2.1, g.2.2.2.2.1, (), c)
    else (.normal, g.1, step g.1 g.2.1 (g.2.2.1.getD g.2.2.2.2.1.toNat d), g.2.2.1, g.2.2.2.1, w64 (g.2.2.2.2.1 + 1), (), g.2.2.2.2.2.2)
  else (.exit x, g)
/-- 'ok': what is kept of what has been made of a beginning. -/
def flI (ok : List α → β → Nat → Prop) (g : FlG α β) : List Prop := [g.2.2.2.1 = (g.1.length : Int) ∧ g.2.2.1 = g.1 ∧ g.1.length ≤ maxLen ∧ 0 ≤ g.2.2.2.2.1 ∧ g.2.2.2.2.1 ≤ (g.1.length : Int) ∧ ok g.1 g.2.1 g.2.2.2.2.1.toNat]
def flM (g : FlG α β) : Nat := (g.2.2.2.1 - g.2.2.2.2.1).toNat
section
variable (x : Nat) (d : α) (bad : List α → α → Bool) (step : List α → β → α → β) (c : Int) (ok : List α → β → Nat → Prop)
variable (hok : ∀ xs b i, i < xs.length → ok xs b i → ok xs (step xs b (xs.getD i d)) (i + 1))
include hok
theorem fl_goes : Goes (flF x d bad step c) flM fun g => allP (flI ok g) := by
  rintro ⟨xs, b, ys, n, i, ⟨⟩, e⟩ hi hn
  obtain ⟨h1, h0, h2, h3, h4, h5⟩ := hi _ (List.mem_cons_self ..)
  simp only at h1 h0 h2 h3 h4 h5
  subst h0
  have h2' := h2
  unfold maxLen at h2
  unfold flF at hn ⊢
  simp only at hn ⊢
  by_cases hlt : i < n
  · simp only [hlt, decide_true, cond_true] at hn ⊢
    cases hp : bad ys (ys.getD i.toNat d) with
    | true => rw [hp] at hn; cases hn
    | false =>
      simp only [cond_false]
      rw [wr (by omega)]
      refine ⟨fun q hq => ?_, ?_⟩
      · simp only [flI, List.mem_singleton] at hq
        subst hq
        refine ⟨h1, trivial, h2', by show (0 : Int) ≤ i + 1; omega, by show i + 1 ≤ (ys.length : Int); omega, ?_⟩
        have := hok ys b i.toNat (by omega) h5
        have e1 : (i + 1).toNat = i.toNat + 1 := by omega
        rw [e1]; exact this
      · simp only [flM]; omega
  · simp only [hlt, decide_false, cond_false] at hn
    cases hn
theorem fl_run : ∀ g : FlG α β, allP (flI ok g) →
    (((loopF (flF x d bad step c) flM g).1 = .ret ∧ (loopF (flF x d bad step c) flM g).2.2.2.2.2.2.2 = c ∧ (g.1.drop g.2.2.2.2.1.toNat).any (bad g.1) = true) ∨
     ((loopF (flF x d bad step c) flM g).1 = .exit x ∧ (loopF (flF x d bad step c) flM g).2.2.2.2.2.2.2 = g.2.2.2.2.2.2 ∧ (loopF (flF x d bad step c) flM g).2.1 = g.1 ∧ (loopF (flF x d bad step c) flM g).2.2.1 = (g.1.drop g.2.2.2.2.1.toNat).foldl (step g.1) g.2.1 ∧ ok g.1 (loopF (flF x d bad step c) flM g).2.2.1 g.1.length ∧ (g.1.drop g.2.2.2.2.1.toNat).any (bad g.1) = false)) := by
  refine loopF_induct (fl_goes x d bad step c ok hok) (Q := fun g r => ((r.1 = .ret ∧ r.2.2.2.2.2.2.2 = c ∧ (g.1.drop g.2.2.2.2.1.toNat).any (bad g.1) = true) ∨
     (r.1 = .exit x ∧ r.2.2.2.2.2.2.2 = g.2.2.2.2.2.2 ∧ r.2.1 = g.1 ∧ r.2.2.1 = (g.1.drop g.2.2.2.2.1.toNat).foldl (step g.1) g.2.1 ∧ ok g.1 r.2.2.1 g.1.length ∧ (g.1.drop g.2.2.2.2.1.toNat).any (bad g.1) = false))) ?_ ?_
  · rintro ⟨xs, b, ys, n, i, ⟨⟩, e⟩ hi hn
    obtain ⟨h1, h0, h2, h3, h4, h5⟩ := hi _ (List.mem_cons_self ..)
    simp only at h1 h0 h2 h3 h4 h5
    subst h0
    unfold flF at hn ⊢
    simp only at hn ⊢
    by_cases hlt : i < n
    · simp only [hlt, decide_true, cond_true] at hn ⊢
      have hlt' : i.toNat < ys.length := by omega
      cases hp : bad ys (ys.getD i.toNat d) with
      | true =>
        left
        simp only [cond_true]
        refine ⟨trivial, trivial, ?_⟩
        rw [drop_at d hlt', List.any_cons, hp]; rfl
      | false => rw [hp] at hn; exact absurd rfl hn
    · right
      simp only [hlt, decide_false, cond_false]
      have e1 : i.toNat = ys.length := by omega
      refine ⟨trivial, trivial, trivial, ?_, ?_, ?_⟩
      · rw [List.drop_eq_nil_of_le (by omega)]; rfl
      · rw [← e1]; exact h5
      · rw [List.drop_eq_nil_of_le (by omega)]; rfl
  · rintro ⟨xs, b, ys, n, i, ⟨⟩, e⟩ g' r hi he hi' _ hq
    obtain ⟨h1, h0, h2, h3, h4, h5⟩ := hi _ (List.mem_cons_self ..)
    simp only at h1 h0 h2 h3 h4 h5
    subst h0
    unfold maxLen at h2
    unfold flF at he
    simp only at he
    by_cases hlt : i < n
    · simp only [hlt, decide_true, cond_true] at he
      have hlt' : i.toNat < ys.length := by omega
      cases hp : bad ys (ys.getD i.toNat d) with
      | true => rw [hp] at he; cases he
      | false =>
        rw [hp] at he
        simp only [cond_false, Prod.mk.injEq, true_and] at he
        subst he
        simp only at hq ⊢
        rw [wr (by omega)] at hq
        rw [drop_at d hlt', List.any_cons, hp, Bool.false_or, List.foldl_cons]
        have : (i + 1).toNat = i.toNat + 1 := by omega
        rw [this] at hq
        exact hq
    · simp only [hlt, decide_false, cond_false] at he
      cases he
end
/-! ### the same, where the length is asked for each time -/
abbrev Er2G (α : Type) := List α × Int × Unit × Int
def er2F (x : Nat) (d : α) (p : α → Bool) (c : Int) (g : Er2G α) : Ex × Er2G α :=
  bif decide (g.2.1 < (g.1.length : Int)) then
    bif p (g.1.getD g.2.1.toNat d) then (.ret, g.1, g.2.1, (), c) else (.normal, g.1, w64 (g.2.1 + 1), (), g.2.2.2)
  else (.exit x, g)
def er2I (g : Er2G α) : List Prop := [g.1.length ≤ maxLen ∧ 0 ≤ g.2.1 ∧ g.2.1 ≤ (g.1.length : Int)]
def er2M (g : Er2G α) : Nat := ((g.1.length : Int) - g.2.1).toNat
theorem er2_goes (x : Nat) (d : α) (p : α → Bool) (c : Int) : Goes (er2F x d p c) er2M fun g => allP (er2I g) := by
  rintro ⟨xs, i, ⟨⟩, e⟩ hi hn
  obtain ⟨h2, h3, h4⟩ := hi _ (List.mem_cons_self ..)
  simp only at h2 h3 h4
  unfold maxLen at h2
  unfold er2F at hn ⊢
  simp only at hn ⊢
  by_cases hlt : i < (xs.length : Int)
  · simp only [hlt, decide_true, cond_true] at hn ⊢
    cases hp : p (xs.getD i.toNat d) with
    | true => rw [hp] at hn; cases hn
    | false =>
      simp only [cond_false]
      rw [wr (by omega)]
      refine ⟨fun q hq => ?_, ?_⟩
      · simp only [er2I, List.mem_singleton] at hq
        subst hq
        exact ⟨by unfold maxLen; omega, by show (0 : Int) ≤ i + 1; omega, by show i + 1 ≤ (xs.length : Int); omega⟩
      · simp only [er2M]; omega
  · simp only [hlt, decide_false, cond_false] at hn
    cases hn
theorem er2_run (x : Nat) (d : α) (p : α → Bool) (c : Int) : ∀ g : Er2G α, allP (er2I g) →
    (((loopF (er2F x d p c) er2M g).1 = .ret ∧ (loopF (er2F x d p c) er2M g).2.2.2.2 = c ∧ (loopF (er2F x d p c) er2M g).2.1 = g.1 ∧ (g.1.drop g.2.1.toNat).any p = true) ∨
     ((loopF (er2F x d p c) er2M g).1 = .exit x ∧ (loopF (er2F x d p c) er2M g).2.2.2.2 = g.2.2.2 ∧ (loopF (er2F x d p c) er2M g).2.1 = g.1 ∧ (g.1.drop g.2.1.toNat).any p = false)) := by
  refine loopF_induct (er2_goes x d p c) (Q := fun g r => ((r.1 = .ret ∧ r.2.2.2.2 = c ∧ r.2.1 = g.1 ∧ (g.1.drop g.2.1.toNat).any p = true) ∨ (r.1 = .exit x ∧ r.2.2.2.2 = g.2.2.2 ∧ r.2.1 = g.1 ∧ (g.1.drop g.2.1.toNat).any p = false))) ?_ ?_
  · rintro ⟨xs, i, ⟨⟩, e⟩ hi hn
    obtain ⟨h2, h3, h4⟩ := hi _ (List.mem_cons_self ..)
    simp only at h2 h3 h4
    unfold er2F at hn ⊢
    simp only at hn ⊢
    by_cases hlt : i < (xs.length : Int)
    · simp only [hlt, decide_true, cond_true] at hn ⊢
      have hlt' : i.toNat < xs.length := by omega
      cases hp : p (xs.getD i.toNat d) with
      | true =>
        left
        simp only [cond_true]
        refine ⟨trivial, trivial, trivial, ?_⟩
        rw [drop_at d hlt', List.any_cons, hp]; rfl
      | false => rw [hp] at hn; exact absurd rfl hn
    · right
      simp only [hlt, decide_false, cond_false]
      refine ⟨trivial, trivial, trivial, ?_⟩
      rw [List.drop_eq_nil_of_le (by omega)]; rfl
  · rintro ⟨xs, i, ⟨⟩, e⟩ g' r hi he hi' _ hq
    obtain ⟨h2, h3, h4⟩ := hi _ (List.mem_cons_self ..)
    simp only at h2 h3 h4
    unfold maxLen at h2
    unfold er2F at he
    simp only at he
    by_cases hlt : i < (xs.length : Int)
    · simp only [hlt, decide_true, cond_true] at he
      have hlt' : i.toNat < xs.length := by omega
      cases hp : p (xs.getD i.toNat d) with
      | true => rw [hp] at he; cases he
      | false =>
        rw [hp] at he
        simp only [cond_false, Prod.mk.injEq, true_and] at he
        subst he
        simp only at hq ⊢
        rw [wr (by omega)] at hq
        rw [drop_at d hlt', List.any_cons, hp, Bool.false_or]
        have : (i + 1).toNat = i.toNat + 1 := by omega
        rw [this] at hq
        exact hq
    · simp only [hlt, decide_false, cond_false] at he
      cases he
theorem er2_any (x : Nat) (d : α) (p : α → Bool) (c : Int) (xs : List α) (e : Int) (h : xs.length ≤ maxLen) :
    exB .ret (loopF (er2F x d p c) er2M (xs, 0, (), e)).1 = xs.any p ∧ (loopF (er2F x d p c) er2M (xs, 0, (), e)).2.2.2.2 = (bif xs.any p then c else e) := by
  have h0 : allP (er2I ((xs, (0 : Int), (), e) : Er2G α)) := fun q hq => by
    simp only [er2I, List.mem_singleton] at hq
    subst hq
    exact ⟨h, Int.le_refl _, by show (0 : Int) ≤ (xs.length : Int); omega⟩
  rcases er2_run x d p c _ h0 with ⟨h1, h2, _, h3⟩ | ⟨h1, h2, _, h3⟩
  · have h4 : (xs.drop 0).any p = true := h3
    rw [List.drop_zero] at h4
    rw [h1, h2, h4]; exact ⟨rfl, rfl⟩
  · have h4 : (xs.drop 0).any p = false := h3
    rw [List.drop_zero] at h4
    rw [h1, h2, h4]; exact ⟨rfl, rfl⟩
abbrev Fl2G (α β : Type) := List α × β × Int × Unit × Int
def fl2F (x : Nat) (d : α) (bad : List α → α → Bool) (step : List α → β → α → β) (c : Int) (g : Fl2G α β) : Ex × Fl2G α β :=
  bif decide (g.2.2.1 < (g.1.length : Int)) then
    bif bad g.1 (g.1.getD g.2.2.1.toNat d) then (.ret, g.1, g.2.1, g.2.2.1, (), c)
    else (.normal, g.1, step g.1 g.2.1 (g.1.getD g.2.2.1.toNat d), w64 (g.2.2.1 + 1), (), g.2.2.2.2)
  else (.exit x, g)
def fl2I (ok : List α → β → Nat → Prop) (g : Fl2G α β) : List Prop := [g.1.length ≤ maxLen ∧ 0 ≤ g.2.2.1 ∧ g.2.2.1 ≤ (g.1.length : Int) ∧ ok g.1 g.2.1 g.2.2.1.toNat]
def fl2M (g : Fl2G α β) : Nat := ((g.1.length : Int) - g.2.2.1).toNat
section
variable (x : Nat) (d : α) (bad : List α → α → Bool) (step : List α → β → α → β) (c : Int) (ok : List α → β → Nat → Prop)
variable (hok : ∀ xs b i, i < xs.length → ok xs b i → ok xs (step xs b (xs.getD i d)) (i + 1))
include hok
theorem fl2_goes : Goes (fl2F x d bad step c) fl2M fun g => allP (fl2I ok g) := by
  rintro ⟨ys, b, i, ⟨⟩, e⟩ hi hn
  obtain ⟨h2, h3, h4, h5⟩ := hi _ (List.mem_cons_self ..)
  simp only at h2 h3 h4 h5
  have h2' := h2
  unfold maxLen at h2
  unfold fl2F at hn ⊢
  simp only at hn ⊢
  by_cases hlt : i < (ys.length : Int)
  · simp only [hlt, decide_true, cond_true] at hn ⊢
    cases hp : bad ys (ys.getD i.toNat d) with
    | true => rw [hp] at hn; cases hn
    | false =>
      simp only [cond_false]
      rw [wr (by omega)]
      refine ⟨fun q hq => ?_, ?_⟩
      · simp only [fl2I, List.mem_singleton] at hq
        subst hq
        refine ⟨h2', by show (0 : Int) ≤ i + 1; omega, by show i + 1 ≤ (ys.length : Int); omega, ?_⟩
        have := hok ys b i.toNat (by omega) h5
        have e1 : (i + 1).toNat = i.toNat + 1 := by omega
        rw [e1]; exact this
      · simp only [fl2M]; omega
  · simp only [hlt, decide_false, cond_false] at hn
    cases hn
theorem fl2_run : ∀ g : Fl2G α β, allP (fl2I ok g) →
    (((loopF (fl2F x d bad step c) fl2M g).1 = .ret ∧ (loopF (fl2F x d bad step c) fl2M g).2.2.2.2.2 = c ∧ (g.1.drop g.2.2.1.toNat).any (bad g.1) = true) ∨
     ((loopF (fl2F x d bad step c) fl2M g).1 = .exit x ∧ (loopF (fl2F x d bad step c) fl2M g).2.2.2.2.2 = g.2.2.2.2 ∧ (loopF (fl2F x d bad step c) fl2M g).2.1 = g.1 ∧ (loopF (fl2F x d bad step c) fl2M g).2.2.1 = (g.1.drop g.2.2.1.toNat).foldl (step g.1) g.2.1 ∧ ok g.1 (loopF (fl2F x d bad step c) fl2M g).2.2.1 g.1.length ∧ (g.1.drop g.2.2.1.toNat).any (bad g.1) = false)) := by
  refine loopF_induct (fl2_goes x d bad step c ok hok) (Q := fun g r => ((r.1 = .ret ∧ r.2.2.2.2.2 = c ∧ (g.1.drop g.2.2.1.toNat).any (bad g.1) = true) ∨
     (r.1 = .exit x ∧ r.2.2.2.2.2 = g.2.2.2.2 ∧ r.2.1 = g.1 ∧ r.2.2.1 = (g.1.drop g.2.2.1.toNat).foldl (step g.1) g.2.1 ∧ ok g.1 r.2.2.1 g.1.length ∧ (g.1.drop g.2.2.1.toNat).any (bad g.1) = false))) ?_ ?_
  · rintro ⟨ys, b, i, ⟨⟩, e⟩ hi hn
    obtain ⟨h2, h3, h4, h5⟩ := hi _ (List.mem_cons_self ..)
    simp only at h2 h3 h4 h5
    unfold fl2F at hn ⊢
    simp only at hn ⊢
    by_cases hlt : i < (ys.length : Int)
    · simp only [hlt, decide_true, cond_true] at hn ⊢
      have hlt' : i.toNat < ys.length := by omega
      cases hp : bad ys (ys.getD i.toNat d) with
      | true =>
        left
        simp only [cond_true]
        refine ⟨trivial, trivial, ?_⟩
        rw [drop_at d hlt', List.any_cons, hp]; rfl
      | false => rw [hp] at hn; exact absurd rfl hn
    · right
      simp only [hlt, decide_false, cond_false]
      have e1 : i.toNat = ys.length := by omega
      refine ⟨trivial, trivial, trivial, ?_, ?_, ?_⟩
      · rw [List.drop_eq_nil_of_le (by omega)]; rfl
      · rw [← e1]; exact h5
      · rw [List.drop_eq_nil_of_le (by omega)]; rfl
  · rintro ⟨ys, b, i, ⟨⟩, e⟩ g' r hi he hi' _ hq
    obtain ⟨h2, h3, h4, h5⟩ := hi _ (List.mem_cons_self ..)
    simp only at h2 h3 h4 h5
    unfold maxLen at h2
    unfold fl2F at he
    simp only at he
    by_cases hlt : i < (ys.length : Int)
    · simp only [hlt, decide_true, cond_true] at he
      have hlt' : i.toNat < ys.length := by omega
      cases hp : bad ys (ys.getD i.toNat d) with
      | true => rw [hp] at he; cases he
      | false =>
        rw [hp] at he
        simp only [cond_false, Prod.mk.injEq, true_and] at he
        subst he
        simp only at hq ⊢
        rw [wr (by omega)] at hq
        rw [drop_at d hlt', List.any_cons, hp, Bool.false_or, List.foldl_cons]
        have : (i + 1).toNat = i.toNat + 1 := by omega
        rw [this] at hq
        exact hq
    · simp only [hlt, decide_false, cond_false] at he
      cases he
end
theorem foldl_pick (p : α → Bool) : ∀ (xs out : List α), xs.foldl (fun o x => bif p x then o ++ [x] else o) out = out ++ xs.filter p
  | [], out => by simp
  | x :: xs, out => by
    rw [List.foldl_cons, foldl_pick p xs, List.filter_cons]
    cases p x <;> simp
/-! ### all are asked: 'for range xs { if p(x) { ok = false } }' -/
abbrev AnG (α σ : Type) := List α × σ × Int × Bool
variable {σ : Type}
def anF (x : Nat) (d : α) (p : List α → σ → α → Bool) (g : AnG α σ) : Ex × AnG α σ :=
  bif decide (g.2.2.1 < (g.1.length : Int)) then (.normal, g.1, g.2.1, w64 (g.2.2.1 + 1), bif p g.1 g.2.1 (g.1.getD g.2.2.1.toNat d) then false else g.2.2.2)
  else (.exit x, g)
def anI (ok : List α → σ → Prop) (g : AnG α σ) : List Prop := [g.1.length ≤ maxLen ∧ 0 ≤ g.2.2.1 ∧ g.2.2.1 ≤ (g.1.length : Int) ∧ ok g.1 g.2.1]
def anM (g : AnG α σ) : Nat := ((g.1.length : Int) - g.2.2.1).toNat
theorem an_goes (x : Nat) (d : α) (p : List α → σ → α → Bool) (ok : List α → σ → Prop) : Goes (anF x d p) anM fun g => allP (anI ok g) := by
  rintro ⟨xs, s, i, b⟩ hi hn
  obtain ⟨h2, h3, h4, h5⟩ := hi _ (List.mem_cons_self ..)
  simp only at h2 h3 h4 h5
  have h2' := h2
  unfold maxLen at h2
  unfold anF at hn ⊢
  simp only at hn ⊢
  by_cases hlt : i < (xs.length : Int)
  · simp only [hlt, decide_true, cond_true]
    rw [wr (by omega)]
    refine ⟨fun q hq => ?_, ?_⟩
    · simp only [anI, List.mem_singleton] at hq
      subst hq
      exact ⟨h2', by show (0 : Int) ≤ i + 1; omega, by show i + 1 ≤ (xs.length : Int); omega, h5⟩
    · simp only [anM]; omega
  · simp only [hlt, decide_false, cond_false] at hn
    cases hn
theorem an_run (x : Nat) (d : α) (p : List α → σ → α → Bool) (ok : List α → σ → Prop) : ∀ g : AnG α σ, allP (anI ok g) →
    (loopF (anF x d p) anM g).1 = .exit x ∧ (loopF (anF x d p) anM g).2.1 = g.1 ∧ (loopF (anF x d p) anM g).2.2.1 = g.2.1 ∧ (loopF (anF x d p) anM g).2.2.2.2 = (g.2.2.2 && !(g.1.drop g.2.2.1.toNat).any (p g.1 g.2.1)) := by
  refine loopF_induct (an_goes x d p ok) (Q := fun g r => r.1 = .exit x ∧ r.2.1 = g.1 ∧ r.2.2.1 = g.2.1 ∧ r.2.2.2.2 = (g.2.2.2 && !(g.1.drop g.2.2.1.toNat).any (p g.1 g.2.1))) ?_ ?_
  · rintro ⟨xs, s, i, b⟩ hi hn
    obtain ⟨h2, h3, h4, h5⟩ := hi _ (List.mem_cons_self ..)
    simp only at h2 h3 h4 h5
    unfold anF at hn ⊢
    simp only at hn ⊢
    by_cases hlt : i < (xs.length : Int)
    · simp only [hlt, decide_true, cond_true] at hn
      exact absurd rfl hn
    · simp only [hlt, decide_false, cond_false]
      refine ⟨trivial, trivial, trivial, ?_⟩
      rw [List.drop_eq_nil_of_le (by omega)]; simp
  · rintro ⟨xs, s, i, b⟩ g' r hi he hi' _ hq
    obtain ⟨h2, h3, h4, h5⟩ := hi _ (List.mem_cons_self ..)
    simp only at h2 h3 h4 h5
    unfold maxLen at h2
    unfold anF at he
    simp only at he
    by_cases hlt : i < (xs.length : Int)
    · simp only [hlt, decide_true, cond_true, Prod.mk.injEq, true_and] at he
      subst he
      have hlt' : i.toNat < xs.length := by omega
      simp only at hq ⊢
      rw [wr (by omega)] at hq
      have : (i + 1).toNat = i.toNat + 1 := by omega
      rw [this] at hq
      rw [drop_at d hlt', List.any_cons]
      refine ⟨hq.1, hq.2.1, hq.2.2.1, ?_⟩
      rw [hq.2.2.2]
      cases p xs s (xs.getD i.toNat d) <;> simp
    · simp only [hlt, decide_false, cond_false] at he
      cases he
end
end Go.Lp

/- Loops over lists by their places: what they come to, for all chapters. -/
namespace Go.Lp
open Go.Sx
/-! ### the same loop under another name -/
theorem runL_conj {γ δ : Type} {F : γ → Ex × γ} {F' : δ → Ex × δ} {m' : δ → Nat} {I' : δ → Prop} (φ : γ → δ) (ψ : δ → γ) (h2 : ∀ d, φ (ψ d) = d) (hF : ∀ d, I' d → F (ψ d) = ((F' d).1, ψ (F' d).2)) (hg : Goes F' m' I') : ∀ (n : Nat) (d : δ), I' d → runL F n (ψ d) = ((runL F' n d).1, ψ (runL F' n d).2)
  | 0, d, _ => by simp [runL]
  | n + 1, d, hi => by
    simp only [runL]
    have h := hF d hi
    have hk := hg d hi
    rw [h]
    generalize F' d = x at hk
    obtain ⟨e, d'⟩ := x
    cases e with
    | normal =>
      simp only
      rw [runL_conj φ ψ h2 hF hg n d' (hk rfl).1]
    | _ => rfl
theorem loopF_conj {γ δ : Type} {F : γ → Ex × γ} {F' : δ → Ex × δ} {m : γ → Nat} {m' : δ → Nat} {I' : δ → Prop} (φ : γ → δ) (ψ : δ → γ) (h1 : ∀ g, ψ (φ g) = g) (h2 : ∀ d, φ (ψ d) = d) (hm : ∀ d, m (ψ d) = m' d) (hF : ∀ d, I' d → F (ψ d) = ((F' d).1, ψ (F' d).2)) (hg : Goes F' m' I') (g : γ) (hi : I' (φ g)) :
    loopF F m g = ((loopF F' m' (φ g)).1, ψ (loopF F' m' (φ g)).2) := by
  have e := hm (φ g)
  have r := runL_conj φ ψ h2 hF hg (m' (φ g) + 1) (φ g) hi
  rw [h1] at e r
  rw [loopF_def, loopF_def, e]
  exact r
theorem goes_conj {γ δ : Type} {F : γ → Ex × γ} {F' : δ → Ex × δ} {m : γ → Nat} {m' : δ → Nat} {I : γ → Prop} {I' : δ → Prop} (φ : γ → δ) (ψ : δ → γ) (h1 : ∀ g, ψ (φ g) = g) (hm : ∀ d, m (ψ d) = m' d) (hI : ∀ d, I (ψ d) ↔ I' d) (hF : ∀ d, I' d → F (ψ d) = ((F' d).1, ψ (F' d).2)) (h : Goes F' m' I') : Goes F m I := by
  intro g hi hn
  rw [← h1 g] at hi hn ⊢
  have hi' := (hI _).1 hi
  rw [hF _ hi'] at hn ⊢
  rw [hI]
  rw [hm, hm]
  exact h _ hi' hn
/-! ### from place to place -/
section
variable {α β C : Type}
/-- 'x': how the loop is left at its end. -/
def ixF (x : Nat) (lim : C → Int) (xs : C → List α) (d : α) (step : C → β → Int → α → Ex × β) (g : Int × C × β) : Ex × (Int × C × β) :=
  bif decide (g.1 < lim g.2.1) then
    match step g.2.1 g.2.2 g.1 ((xs g.2.1).getD g.1.toNat d) with
    | (.normal, b) => (.normal, w64 (g.1 + 1), g.2.1, b)
    | (e, b) => (e, g.1, g.2.1, b)
  else (.exit x, g)
/-- 'P': what is kept of what has been made. -/
def ixJ (lim : C → Int) (xs : C → List α) (P : C → β → Int → Prop) (g : Int × C × β) : Prop := lim g.2.1 = ((xs g.2.1).length : Int) ∧ (xs g.2.1).length ≤ maxLen ∧ 0 ≤ g.1 ∧ g.1 ≤ ((xs g.2.1).length : Int) ∧ P g.2.1 g.2.2 g.1
def ixI (lim : C → Int) (xs : C → List α) (P : C → β → Int → Prop) (g : Int × C × β) : List Prop := [ixJ lim xs P g]
def ixM (lim : C → Int) (g : Int × C × β) : Nat := (lim g.2.1 - g.1).toNat
def scan (x : Nat) (step : β → Int → α → Ex × β) : Int → List α → β → Ex × Int × β
  | i, [], b => (.exit x, i, b)
  | i, a :: l, b => match step b i a with
    | (.normal, b') => scan x step (i + 1) l b'
    | (e, b') => (e, i, b')
def ixP (step : C → β → Int → α → Ex × β) (xs : C → List α) (P : C → β → Int → Prop) : Prop := ∀ c b (i : Nat) a, P c b i → (xs c)[i]? = some a → (step c b i a).1 = .normal → P c (step c b i a).2 (i + 1)
variable {x : Nat} {lim : C → Int} {xs : C → List α} {d : α} {step : C → β → Int → α → Ex × β} {P : C → β → Int → Prop}
theorem ix_goes (hP : ixP step xs P) : Goes (ixF x lim xs d step) (ixM lim) fun g => allP (ixI lim xs P g) := by
  rintro ⟨i, c, b⟩ hi hn
  obtain ⟨h1, h2, h3, h4, h5⟩ := hi _ (List.mem_cons_self ..)
  simp only at h1 h2 h3 h4 h5
  unfold ixF at hn ⊢
  simp only at hn ⊢
  unfold maxLen at h2
  by_cases hlt : i < lim c
  · simp only [hlt, decide_true, cond_true] at hn ⊢
    have hlt' : i.toNat < (xs c).length := by omega
    have hp := hP c b i.toNat ((xs c).getD i.toNat d) (by rw [show (i.toNat : Int) = i by omega]; exact h5) (by rw [List.getD_eq_getElem?_getD, List.getElem?_eq_getElem hlt']; rfl)
    rw [show (i.toNat : Int) = i by omega] at hp
    generalize step c b i ((xs c).getD i.toNat d) = s at hn hp ⊢
    obtain ⟨e, b'⟩ := s
    cases e with
    | normal =>
      rw [wr (n := i + 1) (by omega)]
      refine ⟨fun q hq => ?_, ?_⟩
      · simp only [ixI, List.mem_singleton] at hq
        subst hq
        exact ⟨h1, by unfold maxLen; exact h2, by show (0 : Int) ≤ i + 1; omega, by show i + 1 ≤ ((xs c).length : Int); omega, hp rfl⟩
      · simp only [ixM]; omega
    | _ => cases hn
  · simp only [hlt, decide_false, cond_false] at hn
    cases hn
theorem ix_run (hP : ixP step xs P) : ∀ g : Int × C × β, allP (ixI lim xs P g) →
    loopF (ixF x lim xs d step) (ixM lim) g = ((scan x (step g.2.1) g.1 ((xs g.2.1).drop g.1.toNat) g.2.2).1, (scan x (step g.2.1) g.1 ((xs g.2.1).drop g.1.toNat) g.2.2).2.1, g.2.1, (scan x (step g.2.1) g.1 ((xs g.2.1).drop g.1.toNat) g.2.2).2.2) := by
  refine loopF_induct (ix_goes (x := x) (d := d) hP) (Q := fun g r => r = ((scan x (step g.2.1) g.1 ((xs g.2.1).drop g.1.toNat) g.2.2).1, (scan x (step g.2.1) g.1 ((xs g.2.1).drop g.1.toNat) g.2.2).2.1, g.2.1, (scan x (step g.2.1) g.1 ((xs g.2.1).drop g.1.toNat) g.2.2).2.2)) ?_ ?_
  · rintro ⟨i, c, b⟩ hi hn
    obtain ⟨h1, h2, h3, h4, h5⟩ := hi _ (List.mem_cons_self ..)
    simp only at h1 h2 h3 h4 h5
    unfold ixF at hn ⊢
    simp only at hn ⊢
    by_cases hlt : i < lim c
    · simp only [hlt, decide_true, cond_true] at hn ⊢
      have hlt' : i.toNat < (xs c).length := by omega
      rw [drop_at d hlt']
      simp only [scan]
      generalize step c b i ((xs c).getD i.toNat d) = s at hn ⊢
      obtain ⟨e, b'⟩ := s
      cases e with
      | normal => exact absurd rfl hn
      | _ => rfl
    · simp only [hlt, decide_false, cond_false]
      rw [List.drop_eq_nil_of_le (by omega)]
      rfl
  · rintro ⟨i, c, b⟩ g' r hi he hi' _ hq
    obtain ⟨h1, h2, h3, h4, h5⟩ := hi _ (List.mem_cons_self ..)
    simp only at h1 h2 h3 h4 h5
    unfold maxLen at h2
    unfold ixF at he
    simp only at he
    by_cases hlt : i < lim c
    · simp only [hlt, decide_true, cond_true] at he
      have hlt' : i.toNat < (xs c).length := by omega
      rw [hq]
      simp only
      rw [drop_at d hlt']
      simp only [scan]
      generalize step c b i ((xs c).getD i.toNat d) = s at he ⊢
      obtain ⟨e, b'⟩ := s
      cases e with
      | normal =>
        rw [wr (n := i + 1) (by omega)] at he
        simp only [Prod.mk.injEq, true_and] at he
        subst he
        simp only
        rw [show (i + 1).toNat = i.toNat + 1 by omega]
      | _ => simp at he
    · simp only [hlt, decide_false, cond_false] at he
      cases he
/-- From the beginning. -/
theorem ix_run0 (hP : ixP step xs P) (c : C) (b : β) (h1 : lim c = ((xs c).length : Int)) (h2 : (xs c).length ≤ maxLen) (h3 : P c b 0) :
    loopF (ixF x lim xs d step) (ixM lim) (0, c, b) = ((scan x (step c) 0 (xs c) b).1, (scan x (step c) 0 (xs c) b).2.1, c, (scan x (step c) 0 (xs c) b).2.2) := by
  have := ix_run (x := x) (lim := lim) (d := d) hP (0, c, b) (fun q hq => by
    simp only [ixI, List.mem_singleton] at hq
    subst hq
    exact ⟨h1, h2, Int.le_refl _, by show (0 : Int) ≤ ((xs c).length : Int); omega, h3⟩)
  simpa using this
theorem ixJ0 {c : C} {b : β} (h1 : lim c = ((xs c).length : Int)) (h2 : (xs c).length ≤ maxLen) (h3 : P c b 0) : ixJ lim xs P (0, c, b) := ⟨h1, h2, Int.le_refl _, by show (0 : Int) ≤ ((xs c).length : Int); omega, h3⟩
theorem ix_inv0 {c : C} {b : β} (h1 : lim c = ((xs c).length : Int)) (h2 : (xs c).length ≤ maxLen) (h3 : P c b 0) : allP (ixI lim xs P (0, c, b)) := fun q hq => by
  simp only [ixI, List.mem_singleton] at hq
  subst hq
  exact ⟨h1, h2, Int.le_refl _, by show (0 : Int) ≤ ((xs c).length : Int); omega, h3⟩
/-! ### under another name -/
section
variable {γ : Type} {F : γ → Ex × γ} {φ : γ → Int × C × β} {ψ : Int × C × β → γ}
theorem ix_conj_goes (h1 : ∀ g, ψ (φ g) = g) (h2 : ∀ d, φ (ψ d) = d) {d0 : α} (hF : ∀ d, allP (ixI lim xs P d) → F (ψ d) = ((ixF x lim xs d0 step d).1, ψ (ixF x lim xs d0 step d).2)) (hP : ixP step xs P) : Goes F (fun g => ixM lim (φ g)) fun g => allP (ixI lim xs P (φ g)) :=
  goes_conj (m' := ixM lim) (I' := fun d => allP (ixI lim xs P d)) φ ψ h1 (fun d => by rw [h2]) (fun d => by rw [h2]) hF (ix_goes hP)
theorem ix_conj_run (h1 : ∀ g, ψ (φ g) = g) (h2 : ∀ d, φ (ψ d) = d) {d0 : α} (hF : ∀ d, allP (ixI lim xs P d) → F (ψ d) = ((ixF x lim xs d0 step d).1, ψ (ixF x lim xs d0 step d).2)) (hP : ixP step xs P) (c : C) (b : β) (k1 : lim c = ((xs c).length : Int)) (k2 : (xs c).length ≤ maxLen) (k3 : P c b 0) :
    loopF F (fun g => ixM lim (φ g)) (ψ (0, c, b)) = ((scan x (step c) 0 (xs c) b).1, ψ ((scan x (step c) 0 (xs c) b).2.1, c, (scan x (step c) 0 (xs c) b).2.2)) := by
  have h := loopF_conj (F := F) (F' := ixF x lim xs d0 step) (m := fun g => ixM lim (φ g)) (m' := ixM lim) (I' := fun d => allP (ixI lim xs P d)) φ ψ h1 h2 (fun d => by rw [h2]) hF (ix_goes hP) (ψ (0, c, b)) (by rw [h2]; exact ix_inv0 k1 k2 k3)
  rw [h, h2, ix_run0 hP c b k1 k2 k3]
end
/-! ### what a scan comes to -/
section
variable {st : β → Int → α → Ex × β}
/-- It stops at the first of which something holds. -/
theorem scan_any {p : α → Bool} {r : α → β → β} {e : Ex} (he : e ≠ .normal) (h : ∀ b i a, st b i a = bif p a then (e, r a b) else (.normal, b)) : ∀ (l : List α) (i : Int) (b : β),
    (l.any p = true ∧ ∃ a ∈ l, p a = true ∧ l.find? p = some a ∧ (scan x st i l b).1 = e ∧ (scan x st i l b).2.2 = r a b) ∨ (l.any p = false ∧ scan x st i l b = (.exit x, i + l.length, b))
  | [], i, b => .inr ⟨rfl, by simp [scan]⟩
  | a :: l, i, b => by
    simp only [scan, h]
    cases hp : p a with
    | true =>
      left
      refine ⟨by simp [hp], a, List.mem_cons_self .., hp, by simp [hp], ?_⟩
      cases e <;> first | exact absurd rfl he | exact ⟨rfl, rfl⟩
    | false =>
      simp only [cond_false]
      rcases scan_any he h l (i + 1) b with ⟨h1, a', h2, h3, h4, h5⟩ | ⟨h1, h2⟩
      · exact .inl ⟨by simp [h1], a', List.mem_cons_of_mem _ h2, h3, by simp [hp, h4], h5⟩
      · refine .inr ⟨by simp [hp, h1], ?_⟩
        rw [h2]
        simp; omega
/-- It goes to the end. -/
theorem scan_fold {f : β → α → β} (h : ∀ b i a, st b i a = (.normal, f b a)) : ∀ (l : List α) (i : Int) (b : β), scan x st i l b = (.exit x, i + l.length, l.foldl f b)
  | [], i, b => by simp [scan]
  | a :: l, i, b => by
    simp only [scan, h, List.foldl_cons, List.length_cons]
    rw [scan_fold h l]
    simp; omega
/-- It stops at something bad; else all is put together. -/
theorem scan_bad {p : α → Bool} {r : α → β → β} {f : β → α → β} {e : Ex} (he : e ≠ .normal) (h : ∀ b i a, st b i a = bif p a then (e, r a b) else (.normal, f b a)) : ∀ (l : List α) (i : Int) (b : β),
    (l.any p = true ∧ (scan x st i l b).1 = e ∧ ∃ a b', a ∈ l ∧ p a = true ∧ (scan x st i l b).2.2 = r a b') ∨ (l.any p = false ∧ scan x st i l b = (.exit x, i + l.length, l.foldl f b))
  | [], i, b => .inr ⟨rfl, by simp [scan]⟩
  | a :: l, i, b => by
    simp only [scan, h]
    cases hp : p a with
    | true =>
      left
      refine ⟨by simp [hp], ?_⟩
      cases e <;> first | exact absurd rfl he | exact ⟨rfl, a, b, List.mem_cons_self .., hp, rfl⟩
    | false =>
      simp only [cond_false]
      rcases scan_bad he h l (i + 1) (f b a) with ⟨h1, h2, a', b', h3, h4, h5⟩ | ⟨h1, h2⟩
      · exact .inl ⟨by simp [h1], h2, a', b', List.mem_cons_of_mem _ h3, h4, h5⟩
      · refine .inr ⟨by simp [hp, h1], ?_⟩
        rw [h2]
        simp; omega
end
end
/-- Two lists are gone through together. -/
theorem scan_same {α : Type} [DecidableEq α] {x : Nat} (b : List α) (d : α) {st : Bool → Int → α → Ex × Bool} (h : ∀ r (i : Int) a, st r i a = bif !decide (a = b.getD i.toNat d) then (.ret, false) else (.normal, r)) : ∀ (l : List α) (i : Nat) (r : Bool), l.length + i = b.length →
    (l = b.drop i ∧ scan x st (i : Int) l r = (.exit x, (i : Int) + l.length, r)) ∨ (l ≠ b.drop i ∧ (scan x st (i : Int) l r).1 = .ret ∧ (scan x st (i : Int) l r).2.2 = false)
  | [], i, r, hl => .inl ⟨by rw [List.drop_eq_nil_of_le (by simp at hl; omega)], by simp [scan]⟩
  | a :: l, i, r, hl => by
    simp only [List.length_cons] at hl
    have hlt : i < b.length := by omega
    rw [drop_at d hlt]
    simp only [scan, h, Int.toNat_natCast]
    by_cases hab : a = b.getD i d
    · simp only [hab, decide_true, Bool.not_true, cond_false]
      have ih := scan_same (x := x) b d h l (i + 1) r (by omega)
      rw [show ((i + 1 : Nat) : Int) = (i : Int) + 1 by omega] at ih
      rcases ih with ⟨h1, h2⟩ | ⟨h1, h2⟩
      · refine .inl ⟨by rw [h1], ?_⟩
        rw [h2]
        simp; omega
      · refine .inr ⟨fun e => h1 (by injection e), h2⟩
    · right
      refine ⟨fun e => hab (by injection e), ?_⟩
      simp only [hab, decide_false, Bool.not_false, cond_true]
      exact ⟨trivial, trivial⟩
/-- What comes of appending one. -/
theorem lst_app1 {α : Type} (A : El α) (out : List α) (y : α) : A.lst (min (out.length + 1) out.length) (A.els out) ++ List.map (fun _ => y) (List.range (out.length + 1 - out.length)) = out ++ [y] := by
  rw [Nat.min_eq_right (Nat.le_succ _), A.lst_els, Nat.add_sub_cancel_left]; rfl
end Go.Lp

/- Chapter 3: loops over lists of times: their contracts. Printed by ixgen.py. -/
namespace Go.Proofs.Ytiipneclghnfhaa
open Go.RowKit Go.Sx Go.Lp
set_option maxRecDepth 100000
def eqT (a b : T) : Bool := decide (a = b)
theorem conj_T (a b : T) : conj ([a.e == b.e] ++ ([a.d == b.d] ++ ([a.l0 == b.l0] ++ ([a.l1 == b.l1] ++ ([a.l2 == b.l2] ++ ([a.l3 == b.l3] ++ []))) ++ []))) = eqT a b := by
  obtain ⟨e, d, p0, p1, p2, p3⟩ := a
  obtain ⟨e', d', p0', p1', p2', p3'⟩ := b
  unfold eqT
  simp [conj]
  rw [Bool.eq_iff_iff]
  simp
noncomputable def ia_S (c : ia_GC) (b : ia_GB) (i : Int) (v : T) : Ex × ia_GB := bif v.d != (c.2.1.getD (0 : Nat) eT.dflt).d then (.ret, i) else (.normal, b)
def ia_K (c : ia_GC) (b : ia_GB) (i : Int) : Prop := 0 < c.1.length → 0 < c.2.1.length
abbrev ia_I (g : ia_G) : List Prop := ixI (fun c : ia_GC => c.2.2) (fun c : ia_GC => c.1) ia_K (ia_f g)
abbrev ia_M (g : ia_G) : Nat := ixM (fun c : ia_GC => c.2.2) (ia_f g)
theorem ia_P : ixP ia_S (fun c : ia_GC => c.1) ia_K := fun _ _ _ _ h _ _ => h
noncomputable abbrev ia_RR (g : ia_G) : Ex × ia_G := ia_R g.1 g.2.1 g.2.2.1 g.2.2.2.1 g.2.2.2.2
theorem ia_RF (d : Int × ia_GC × ia_GB) (_ : allP (ixI (fun c : ia_GC => c.2.2) (fun c : ia_GC => c.1) ia_K d)) : ia_RR (ia_g d) = ((ixF 0 (fun c : ia_GC => c.2.2) (fun c : ia_GC => c.1) eT.dflt ia_S d).1, ia_g (ixF 0 (fun c : ia_GC => c.2.2) (fun c : ia_GC => c.1) eT.dflt ia_S d).2) := by
  obtain ⟨i, ⟨xs, l, n⟩, r⟩ := d
  show ia_R xs l n i r = _
  unfold ia_R ixF ia_S
  simp only [eT.lst_els]
  cases decide (i < n) with
  | false => rfl
  | true =>
    simp only [cond_true]
    generalize ((xs.getD i.toNat eT.dflt).d != (l.getD (0 : Nat) eT.dflt).d) = z
    cases z <;> rfl
theorem ia_ok : ∀ b ∈ loopsOf Try.prog 120, lkey b = 2 → LoopOk Try.prog b (ia_C ia_I ia_M).g := by
  refine ia_loop ia_I ia_M (fun g hi => ?_) (ix_conj_goes (fun _ => rfl) (fun _ => rfl) ia_RF ia_P)
  obtain ⟨xs, l, n, i, r⟩ := g
  obtain ⟨h1, h2, h3, h4, h5⟩ := hi _ (List.mem_cons_self ..)
  have h1 : n = (xs.length : Int) := h1
  have h3 : 0 ≤ i := h3
  have h5 : 0 < xs.length → 0 < l.length := h5
  show ia_side xs l n i r
  unfold ia_side
  simp only [decide_eq_true_eq, decide_eq_false_iff_not]
  have k0 : ∀ e : Nat, e < xs.length → eT.Ok (eT.els xs e) := fun e _ => eT.ok_els xs e
  have k1 : ∀ e : Nat, e < l.length → eT.Ok (eT.els l e) := fun e _ => eT.ok_els l e
  clear hi
  repeat' (first | exact k0 | exact k1 | apply And.intro | intro _)
  all_goals omega
theorem ia_run (c : ia_GC) (b : ia_GB) (k1 : c.2.2 = ((c.1).length : Int)) (k2 : (c.1).length ≤ maxLen) (k3 : ia_K c b 0) : loopF ia_RR ia_M (ia_g (0, c, b)) = ((scan 0 (ia_S c) 0 (c.1) b).1, ia_g ((scan 0 (ia_S c) 0 (c.1) b).2.1, c, (scan 0 (ia_S c) 0 (c.1) b).2.2)) := ix_conj_run (φ := ia_f) (ψ := ia_g) (fun _ => rfl) (fun _ => rfl) ia_RF ia_P c b k1 k2 k3
noncomputable def ib_S (c : ib_GC) (b : ib_GB) (i : Int) (v : T) : Ex × ib_GB := bif tleq_F v c.2.1 then (.ret, i) else (.normal, b)
def ib_K (c : ib_GC) (b : ib_GB) (i : Int) : Prop := True
abbrev ib_I (g : ib_G) : List Prop := ixI (fun c : ib_GC => c.2.2) (fun c : ib_GC => c.1) ib_K (ib_f g)
abbrev ib_M (g : ib_G) : Nat := ixM (fun c : ib_GC => c.2.2) (ib_f g)
theorem ib_P : ixP ib_S (fun c : ib_GC => c.1) ib_K := fun _ _ _ _ h _ _ => h
noncomputable abbrev ib_RR (g : ib_G) : Ex × ib_G := ib_R g.1 g.2.1 g.2.2.1 g.2.2.2.1 g.2.2.2.2
theorem ib_RF (d : Int × ib_GC × ib_GB) (_ : allP (ixI (fun c : ib_GC => c.2.2) (fun c : ib_GC => c.1) ib_K d)) : ib_RR (ib_g d) = ((ixF 0 (fun c : ib_GC => c.2.2) (fun c : ib_GC => c.1) eT.dflt ib_S d).1, ib_g (ixF 0 (fun c : ib_GC => c.2.2) (fun c : ib_GC => c.1) eT.dflt ib_S d).2) := by
  obtain ⟨i, ⟨xs, t, n⟩, r⟩ := d
  show ib_R xs t n i r = _
  unfold ib_R ixF ib_S
  simp only [eT.lst_els]
  cases decide (i < n) with
  | false => rfl
  | true =>
    simp only [cond_true]
    generalize (tleq_F (xs.getD i.toNat eT.dflt) t) = z
    cases z <;> rfl
theorem ib_ok : ∀ b ∈ loopsOf Try.prog 120, lkey b = 2 → LoopOk Try.prog b (ib_C ib_I ib_M).g := by
  refine ib_loop ib_I ib_M (fun g hi => ?_) (ix_conj_goes (fun _ => rfl) (fun _ => rfl) ib_RF ib_P)
  obtain ⟨xs, t, n, i, r⟩ := g
  obtain ⟨h1, h2, h3, h4, h5⟩ := hi _ (List.mem_cons_self ..)
  have h1 : n = (xs.length : Int) := h1
  have h3 : 0 ≤ i := h3
  have h5 : True := h5
  show ib_side xs t n i r
  unfold ib_side
  simp only [decide_eq_true_eq, decide_eq_false_iff_not]
  have k0 : ∀ e : Nat, e < xs.length → eT.Ok (eT.els xs e) := fun e _ => eT.ok_els xs e
  clear hi
  repeat' (first | exact k0 | apply And.intro | intro _)
  all_goals omega
theorem ib_run (c : ib_GC) (b : ib_GB) (k1 : c.2.2 = ((c.1).length : Int)) (k2 : (c.1).length ≤ maxLen) (k3 : ib_K c b 0) : loopF ib_RR ib_M (ib_g (0, c, b)) = ((scan 0 (ib_S c) 0 (c.1) b).1, ib_g ((scan 0 (ib_S c) 0 (c.1) b).2.1, c, (scan 0 (ib_S c) 0 (c.1) b).2.2)) := ix_conj_run (φ := ib_f) (ψ := ib_g) (fun _ => rfl) (fun _ => rfl) ib_RF ib_P c b k1 k2 k3
noncomputable def ii_S (c : ii_GC) (b : ii_GB) (i : Int) (v : T) : Ex × ii_GB := bif eqT c.2.1 v then (.ret, (), i) else (.normal, b.1, b.2)
def ii_K (c : ii_GC) (b : ii_GB) (i : Int) : Prop := True
abbrev ii_I (g : ii_G) : List Prop := ixI (fun c : ii_GC => c.2.2) (fun c : ii_GC => c.1) ii_K (ii_f g)
abbrev ii_M (g : ii_G) : Nat := ixM (fun c : ii_GC => c.2.2) (ii_f g)
theorem ii_P : ixP ii_S (fun c : ii_GC => c.1) ii_K := fun _ _ _ _ h _ _ => h
noncomputable abbrev ii_RR (g : ii_G) : Ex × ii_G := ii_R g.1 g.2.1 g.2.2.1 g.2.2.2.1 g.2.2.2.2.1 g.2.2.2.2.2
theorem ii_RF (d : Int × ii_GC × ii_GB) (_ : allP (ixI (fun c : ii_GC => c.2.2) (fun c : ii_GC => c.1) ii_K d)) : ii_RR (ii_g d) = ((ixF 0 (fun c : ii_GC => c.2.2) (fun c : ii_GC => c.1) eT.dflt ii_S d).1, ii_g (ixF 0 (fun c : ii_GC => c.2.2) (fun c : ii_GC => c.1) eT.dflt ii_S d).2) := by
  obtain ⟨i, ⟨xs, t, n⟩, ⟨⟨⟩, r⟩⟩ := d
  show ii_R xs () t n i r = _
  unfold ii_R ixF ii_S
  simp only [eT.lst_els, conj_T]
  cases decide (i < n) with
  | false => rfl
  | true =>
    simp only [cond_true]
    generalize (eqT t (xs.getD i.toNat eT.dflt)) = z
    cases z <;> rfl
theorem ii_ok : ∀ b ∈ loopsOf Try.prog 77, lkey b = 2 → LoopOk Try.prog b (ii_C ii_I ii_M).g := by
  refine ii_loop ii_I ii_M (fun g hi => ?_) (ix_conj_goes (fun _ => rfl) (fun _ => rfl) ii_RF ii_P)
  obtain ⟨xs, ⟨⟩, t, n, i, r⟩ := g
  obtain ⟨h1, h2, h3, h4, h5⟩ := hi _ (List.mem_cons_self ..)
  have h1 : n = (xs.length : Int) := h1
  have h3 : 0 ≤ i := h3
  have h5 : True := h5
  show ii_side xs () t n i r
  unfold ii_side
  simp only [decide_eq_true_eq, decide_eq_false_iff_not]
  have k0 : ∀ e : Nat, e < xs.length → eT.Ok (eT.els xs e) := fun e _ => eT.ok_els xs e
  clear hi
  repeat' (first | exact k0 | apply And.intro | intro _)
  all_goals omega
theorem ii_run (c : ii_GC) (b : ii_GB) (k1 : c.2.2 = ((c.1).length : Int)) (k2 : (c.1).length ≤ maxLen) (k3 : ii_K c b 0) : loopF ii_RR ii_M (ii_g (0, c, b)) = ((scan 0 (ii_S c) 0 (c.1) b).1, ii_g ((scan 0 (ii_S c) 0 (c.1) b).2.1, c, (scan 0 (ii_S c) 0 (c.1) b).2.2)) := ix_conj_run (φ := ii_f) (ψ := ii_g) (fun _ => rfl) (fun _ => rfl) ii_RF ii_P c b k1 k2 k3
noncomputable def tms_S (c : tms_GC) (b : tms_GB) (i : Int) (v : T) : Ex × tms_GB := bif tcheck_F v != (0 : Int) then (.ret, tcheck_F v, ()) else (.normal, b.1, b.2)
def tms_K (c : tms_GC) (b : tms_GB) (i : Int) : Prop := True
abbrev tms_I (g : tms_G) : List Prop := ixI (fun c : tms_GC => c.2.1) (fun c : tms_GC => c.1) tms_K (tms_f g)
abbrev tms_M (g : tms_G) : Nat := ixM (fun c : tms_GC => c.2.1) (tms_f g)
theorem tms_P : ixP tms_S (fun c : tms_GC => c.1) tms_K := fun _ _ _ _ h _ _ => h
noncomputable abbrev tms_RR (g : tms_G) : Ex × tms_G := tms_R g.1 g.2.1 g.2.2.1 g.2.2.2.1 g.2.2.2.2.1 g.2.2.2.2.2
theorem tms_RF (d : Int × tms_GC × tms_GB) (_ : allP (ixI (fun c : tms_GC => c.2.1) (fun c : tms_GC => c.1) tms_K d)) : tms_RR (tms_g d) = ((ixF 0 (fun c : tms_GC => c.2.1) (fun c : tms_GC => c.1) eT.dflt tms_S d).1, tms_g (ixF 0 (fun c : tms_GC => c.2.1) (fun c : tms_GC => c.1) eT.dflt tms_S d).2) := by
  obtain ⟨i, ⟨xs, n, l⟩, ⟨r, ⟨⟩⟩⟩ := d
  show tms_R xs n i r () l = _
  unfold tms_R ixF tms_S
  simp only [eT.lst_els]
  cases decide (i < n) with
  | false => rfl
  | true =>
    simp only [cond_true]
    generalize (tcheck_F (xs.getD i.toNat eT.dflt) != (0 : Int)) = z
    cases z <;> rfl
theorem tms_ok : ∀ b ∈ loopsOf Try.prog 68, lkey b = 2 → LoopOk Try.prog b (tms_C tms_I tms_M).g := by
  refine tms_loop tms_I tms_M (fun g hi => ?_) (ix_conj_goes (fun _ => rfl) (fun _ => rfl) tms_RF tms_P)
  obtain ⟨xs, n, i, r, ⟨⟩, l⟩ := g
  obtain ⟨h1, h2, h3, h4, h5⟩ := hi _ (List.mem_cons_self ..)
  have h1 : n = (xs.length : Int) := h1
  have h3 : 0 ≤ i := h3
  have h5 : True := h5
  show tms_side xs n i r () l
  unfold tms_side
  simp only [decide_eq_true_eq, decide_eq_false_iff_not]
  have k0 : ∀ e : Nat, e < xs.length → eT.Ok (eT.els xs e) := fun e _ => eT.ok_els xs e
  have k1 : ∀ e : Nat, e < l.length → eT.Ok (eT.els l e) := fun e _ => eT.ok_els l e
  clear hi
  repeat' (first | exact k0 | exact k1 | apply And.intro | intro _)
  all_goals omega
theorem tms_run (c : tms_GC) (b : tms_GB) (k1 : c.2.1 = ((c.1).length : Int)) (k2 : (c.1).length ≤ maxLen) (k3 : tms_K c b 0) : loopF tms_RR tms_M (tms_g (0, c, b)) = ((scan 0 (tms_S c) 0 (c.1) b).1, tms_g ((scan 0 (tms_S c) 0 (c.1) b).2.1, c, (scan 0 (tms_S c) 0 (c.1) b).2.2)) := ix_conj_run (φ := tms_f) (ψ := tms_g) (fun _ => rfl) (fun _ => rfl) tms_RF tms_P c b k1 k2 k3
noncomputable def ra_S (c : ra_GC) (b : ra_GB) (i : Int) (v : T) : Ex × ra_GB := bif rtcheck_F v != (0 : Int) then (.ret, (10 : Int)) else (.normal, b)
def ra_K (c : ra_GC) (b : ra_GB) (i : Int) : Prop := True
abbrev ra_I (g : ra_G) : List Prop := ixI (fun c : ra_GC => (c.length : Int)) (fun c : ra_GC => c) ra_K (ra_f g)
abbrev ra_M (g : ra_G) : Nat := ixM (fun c : ra_GC => (c.length : Int)) (ra_f g)
theorem ra_P : ixP ra_S (fun c : ra_GC => c) ra_K := fun _ _ _ _ h _ _ => h
noncomputable abbrev ra_RR (g : ra_G) : Ex × ra_G := ra_R g.1 g.2.1 g.2.2
theorem ra_RF (d : Int × ra_GC × ra_GB) (_ : allP (ixI (fun c : ra_GC => (c.length : Int)) (fun c : ra_GC => c) ra_K d)) : ra_RR (ra_g d) = ((ixF 0 (fun c : ra_GC => (c.length : Int)) (fun c : ra_GC => c) eT.dflt ra_S d).1, ra_g (ixF 0 (fun c : ra_GC => (c.length : Int)) (fun c : ra_GC => c) eT.dflt ra_S d).2) := by
  obtain ⟨i, xs, r⟩ := d
  show ra_R xs i r = _
  unfold ra_R ixF ra_S
  simp only [eT.lst_els]
  cases decide (i < (xs.length : Int)) with
  | false => rfl
  | true =>
    simp only [cond_true]
    generalize (rtcheck_F (xs.getD i.toNat eT.dflt) != (0 : Int)) = z
    cases z <;> rfl
theorem ra_ok : ∀ b ∈ loopsOf Try.prog 78, lkey b = 2 → LoopOk Try.prog b (ra_C ra_I ra_M).g := by
  refine ra_loop ra_I ra_M (fun g hi => ?_) (ix_conj_goes (fun _ => rfl) (fun _ => rfl) ra_RF ra_P)
  obtain ⟨xs, i, r⟩ := g
  obtain ⟨h1, h2, h3, h4, h5⟩ := hi _ (List.mem_cons_self ..)
  have h1 : (xs.length : Int) = (xs.length : Int) := h1
  have h3 : 0 ≤ i := h3
  have h5 : True := h5
  show ra_side xs i r
  unfold ra_side
  simp only [decide_eq_true_eq, decide_eq_false_iff_not]
  have k0 : ∀ e : Nat, e < xs.length → eT.Ok (eT.els xs e) := fun e _ => eT.ok_els xs e
  clear hi
  repeat' (first | exact k0 | apply And.intro | intro _)
  all_goals omega
theorem ra_run (c : ra_GC) (b : ra_GB) (k1 : (c.length : Int) = ((c).length : Int)) (k2 : (c).length ≤ maxLen) (k3 : ra_K c b 0) : loopF ra_RR ra_M (ra_g (0, c, b)) = ((scan 0 (ra_S c) 0 (c) b).1, ra_g ((scan 0 (ra_S c) 0 (c) b).2.1, c, (scan 0 (ra_S c) 0 (c) b).2.2)) := ix_conj_run (φ := ra_f) (ψ := ra_g) (fun _ => rfl) (fun _ => rfl) ra_RF ra_P c b k1 k2 k3
noncomputable def rb_S (c : rb_GC) (b : rb_GB) (i : Int) (v : T) : Ex × rb_GB := bif v.d != (c.getD (0 : Nat) eT.dflt).d then (.ret, (11 : Int)) else (.normal, b)
def rb_K (c : rb_GC) (b : rb_GB) (i : Int) : Prop := True
abbrev rb_I (g : rb_G) : List Prop := ixI (fun c : rb_GC => (c.length : Int)) (fun c : rb_GC => c) rb_K (rb_f g)
abbrev rb_M (g : rb_G) : Nat := ixM (fun c : rb_GC => (c.length : Int)) (rb_f g)
theorem rb_P : ixP rb_S (fun c : rb_GC => c) rb_K := fun _ _ _ _ h _ _ => h
noncomputable abbrev rb_RR (g : rb_G) : Ex × rb_G := rb_R g.1 g.2.1 g.2.2
theorem rb_RF (d : Int × rb_GC × rb_GB) (_ : allP (ixI (fun c : rb_GC => (c.length : Int)) (fun c : rb_GC => c) rb_K d)) : rb_RR (rb_g d) = ((ixF 2 (fun c : rb_GC => (c.length : Int)) (fun c : rb_GC => c) eT.dflt rb_S d).1, rb_g (ixF 2 (fun c : rb_GC => (c.length : Int)) (fun c : rb_GC => c) eT.dflt rb_S d).2) := by
  obtain ⟨i, xs, r⟩ := d
  show rb_R xs i r = _
  unfold rb_R ixF rb_S
  simp only [eT.lst_els]
  cases decide (i < (xs.length : Int)) with
  | false => rfl
  | true =>
    simp only [cond_true]
    generalize ((xs.getD i.toNat eT.dflt).d != (xs.getD (0 : Nat) eT.dflt).d) = z
    cases z <;> rfl
theorem rb_ok : ∀ b ∈ loopsOf Try.prog 78, lkey b = 7 → LoopOk Try.prog b (rb_C rb_I rb_M).g := by
  refine rb_loop rb_I rb_M (fun g hi => ?_) (ix_conj_goes (fun _ => rfl) (fun _ => rfl) rb_RF rb_P)
  obtain ⟨xs, i, r⟩ := g
  obtain ⟨h1, h2, h3, h4, h5⟩ := hi _ (List.mem_cons_self ..)
  have h1 : (xs.length : Int) = (xs.length : Int) := h1
  have h3 : 0 ≤ i := h3
  have h5 : True := h5
  show rb_side xs i r
  unfold rb_side
  simp only [decide_eq_true_eq, decide_eq_false_iff_not]
  have k0 : ∀ e : Nat, e < xs.length → eT.Ok (eT.els xs e) := fun e _ => eT.ok_els xs e
  clear hi
  repeat' (first | exact k0 | apply And.intro | intro _)
  all_goals omega
theorem rb_run (c : rb_GC) (b : rb_GB) (k1 : (c.length : Int) = ((c).length : Int)) (k2 : (c).length ≤ maxLen) (k3 : rb_K c b 0) : loopF rb_RR rb_M (rb_g (0, c, b)) = ((scan 2 (rb_S c) 0 (c) b).1, rb_g ((scan 2 (rb_S c) 0 (c) b).2.1, c, (scan 2 (rb_S c) 0 (c) b).2.2)) := ix_conj_run (φ := rb_f) (ψ := rb_g) (fun _ => rfl) (fun _ => rfl) rb_RF rb_P c b k1 k2 k3
noncomputable def hs_S (c : hs_GC) (b : hs_GB) (i : Int) (v : T) : Ex × hs_GB := bif eqT v c.2 then (.ret, (), true) else (.normal, b.1, b.2)
def hs_K (c : hs_GC) (b : hs_GB) (i : Int) : Prop := True
abbrev hs_I (g : hs_G) : List Prop := ixI (fun c : hs_GC => (c.1.length : Int)) (fun c : hs_GC => c.1) hs_K (hs_f g)
abbrev hs_M (g : hs_G) : Nat := ixM (fun c : hs_GC => (c.1.length : Int)) (hs_f g)
theorem hs_P : ixP hs_S (fun c : hs_GC => c.1) hs_K := fun _ _ _ _ h _ _ => h
noncomputable abbrev hs_RR (g : hs_G) : Ex × hs_G := hs_R g.1 g.2.1 g.2.2.1 g.2.2.2.1 g.2.2.2.2
theorem hs_RF (d : Int × hs_GC × hs_GB) (_ : allP (ixI (fun c : hs_GC => (c.1.length : Int)) (fun c : hs_GC => c.1) hs_K d)) : hs_RR (hs_g d) = ((ixF 0 (fun c : hs_GC => (c.1.length : Int)) (fun c : hs_GC => c.1) eT.dflt hs_S d).1, hs_g (ixF 0 (fun c : hs_GC => (c.1.length : Int)) (fun c : hs_GC => c.1) eT.dflt hs_S d).2) := by
  obtain ⟨i, ⟨xs, t⟩, ⟨⟨⟩, r⟩⟩ := d
  show hs_R xs () t i r = _
  unfold hs_R ixF hs_S
  simp only [eT.lst_els, conj_T]
  cases decide (i < (xs.length : Int)) with
  | false => rfl
  | true =>
    simp only [cond_true]
    generalize (eqT (xs.getD i.toNat eT.dflt) t) = z
    cases z <;> rfl
theorem hs_ok : ∀ b ∈ loopsOf Try.prog 88, lkey b = 2 → LoopOk Try.prog b (hs_C hs_I hs_M).g := by
  refine hs_loop hs_I hs_M (fun g hi => ?_) (ix_conj_goes (fun _ => rfl) (fun _ => rfl) hs_RF hs_P)
  obtain ⟨xs, ⟨⟩, t, i, r⟩ := g
  obtain ⟨h1, h2, h3, h4, h5⟩ := hi _ (List.mem_cons_self ..)
  have h1 : (xs.length : Int) = (xs.length : Int) := h1
  have h3 : 0 ≤ i := h3
  have h5 : True := h5
  show hs_side xs () t i r
  unfold hs_side
  simp only [decide_eq_true_eq, decide_eq_false_iff_not]
  have k0 : ∀ e : Nat, e < xs.length → eT.Ok (eT.els xs e) := fun e _ => eT.ok_els xs e
  clear hi
  repeat' (first | exact k0 | apply And.intro | intro _)
  all_goals omega
theorem hs_run (c : hs_GC) (b : hs_GB) (k1 : (c.1.length : Int) = ((c.1).length : Int)) (k2 : (c.1).length ≤ maxLen) (k3 : hs_K c b 0) : loopF hs_RR hs_M (hs_g (0, c, b)) = ((scan 0 (hs_S c) 0 (c.1) b).1, hs_g ((scan 0 (hs_S c) 0 (c.1) b).2.1, c, (scan 0 (hs_S c) 0 (c.1) b).2.2)) := ix_conj_run (φ := hs_f) (ψ := hs_g) (fun _ => rfl) (fun _ => rfl) hs_RF hs_P c b k1 k2 k3
noncomputable def rs_S (c : rs_GC) (b : rs_GB) (i : Int) (v : T) : Ex × rs_GB := bif !eqT v (c.2.getD i.toNat eT.dflt) then (.ret, false) else (.normal, b)
def rs_K (c : rs_GC) (b : rs_GB) (i : Int) : Prop := c.1.length = c.2.length
abbrev rs_I (g : rs_G) : List Prop := ixI (fun c : rs_GC => (c.1.length : Int)) (fun c : rs_GC => c.1) rs_K (rs_f g)
abbrev rs_M (g : rs_G) : Nat := ixM (fun c : rs_GC => (c.1.length : Int)) (rs_f g)
theorem rs_P : ixP rs_S (fun c : rs_GC => c.1) rs_K := fun _ _ _ _ h _ _ => h
noncomputable abbrev rs_RR (g : rs_G) : Ex × rs_G := rs_R g.1 g.2.1 g.2.2.1 g.2.2.2
theorem rs_RF (d : Int × rs_GC × rs_GB) (_ : allP (ixI (fun c : rs_GC => (c.1.length : Int)) (fun c : rs_GC => c.1) rs_K d)) : rs_RR (rs_g d) = ((ixF 0 (fun c : rs_GC => (c.1.length : Int)) (fun c : rs_GC => c.1) eT.dflt rs_S d).1, rs_g (ixF 0 (fun c : rs_GC => (c.1.length : Int)) (fun c : rs_GC => c.1) eT.dflt rs_S d).2) := by
  obtain ⟨i, ⟨xs, ys⟩, r⟩ := d
  show rs_R xs ys i r = _
  unfold rs_R ixF rs_S
  simp only [eT.lst_els, conj_T]
  cases decide (i < (xs.length : Int)) with
  | false => rfl
  | true =>
    simp only [cond_true]
    generalize (!eqT (xs.getD i.toNat eT.dflt) (ys.getD i.toNat eT.dflt)) = z
    cases z <;> rfl
theorem rs_ok : ∀ b ∈ loopsOf Try.prog 91, lkey b = 4 → LoopOk Try.prog b (rs_C rs_I rs_M).g := by
  refine rs_loop rs_I rs_M (fun g hi => ?_) (ix_conj_goes (fun _ => rfl) (fun _ => rfl) rs_RF rs_P)
  obtain ⟨xs, ys, i, r⟩ := g
  obtain ⟨h1, h2, h3, h4, h5⟩ := hi _ (List.mem_cons_self ..)
  have h1 : (xs.length : Int) = (xs.length : Int) := h1
  have h3 : 0 ≤ i := h3
  have h5 : xs.length = ys.length := h5
  show rs_side xs ys i r
  unfold rs_side
  simp only [decide_eq_true_eq, decide_eq_false_iff_not]
  have k0 : ∀ e : Nat, e < xs.length → eT.Ok (eT.els xs e) := fun e _ => eT.ok_els xs e
  have k1 : ∀ e : Nat, e < ys.length → eT.Ok (eT.els ys e) := fun e _ => eT.ok_els ys e
  clear hi
  repeat' (first | exact k0 | exact k1 | apply And.intro | intro _)
  all_goals omega
theorem rs_run (c : rs_GC) (b : rs_GB) (k1 : (c.1.length : Int) = ((c.1).length : Int)) (k2 : (c.1).length ≤ maxLen) (k3 : rs_K c b 0) : loopF rs_RR rs_M (rs_g (0, c, b)) = ((scan 0 (rs_S c) 0 (c.1) b).1, rs_g ((scan 0 (rs_S c) 0 (c.1) b).2.1, c, (scan 0 (rs_S c) 0 (c.1) b).2.2)) := ix_conj_run (φ := rs_f) (ψ := rs_g) (fun _ => rfl) (fun _ => rfl) rs_RF rs_P c b k1 k2 k3
noncomputable def eq_S (c : eq_GC) (b : eq_GB) (i : Int) (v : T) : Ex × eq_GB := bif !eqT v (c.2.1.getD i.toNat eT.dflt) then (.ret, false) else (.normal, b)
def eq_K (c : eq_GC) (b : eq_GB) (i : Int) : Prop := c.1.length = c.2.1.length
abbrev eq_I (g : eq_G) : List Prop := ixI (fun c : eq_GC => c.2.2) (fun c : eq_GC => c.1) eq_K (eq_f g)
abbrev eq_M (g : eq_G) : Nat := ixM (fun c : eq_GC => c.2.2) (eq_f g)
theorem eq_P : ixP eq_S (fun c : eq_GC => c.1) eq_K := fun _ _ _ _ h _ _ => h
noncomputable abbrev eq_RR (g : eq_G) : Ex × eq_G := eq_R g.1 g.2.1 g.2.2.1 g.2.2.2.1 g.2.2.2.2
theorem eq_RF (d : Int × eq_GC × eq_GB) (_ : allP (ixI (fun c : eq_GC => c.2.2) (fun c : eq_GC => c.1) eq_K d)) : eq_RR (eq_g d) = ((ixF 0 (fun c : eq_GC => c.2.2) (fun c : eq_GC => c.1) eT.dflt eq_S d).1, eq_g (ixF 0 (fun c : eq_GC => c.2.2) (fun c : eq_GC => c.1) eT.dflt eq_S d).2) := by
  obtain ⟨i, ⟨xs, ys, n⟩, r⟩ := d
  show eq_R xs ys n i r = _
  unfold eq_R ixF eq_S
  simp only [eT.lst_els, conj_T]
  cases decide (i < n) with
  | false => rfl
  | true =>
    simp only [cond_true]
    generalize (!eqT (xs.getD i.toNat eT.dflt) (ys.getD i.toNat eT.dflt)) = z
    cases z <;> rfl
theorem eq_ok : ∀ b ∈ loopsOf Try.prog 25, lkey b = 4 → LoopOk Try.prog b (eq_C eq_I eq_M).g := by
  refine eq_loop eq_I eq_M (fun g hi => ?_) (ix_conj_goes (fun _ => rfl) (fun _ => rfl) eq_RF eq_P)
  obtain ⟨xs, ys, n, i, r⟩ := g
  obtain ⟨h1, h2, h3, h4, h5⟩ := hi _ (List.mem_cons_self ..)
  have h1 : n = (xs.length : Int) := h1
  have h3 : 0 ≤ i := h3
  have h5 : xs.length = ys.length := h5
  show eq_side xs ys n i r
  unfold eq_side
  simp only [decide_eq_true_eq, decide_eq_false_iff_not]
  have k0 : ∀ e : Nat, e < xs.length → eT.Ok (eT.els xs e) := fun e _ => eT.ok_els xs e
  have k1 : ∀ e : Nat, e < ys.length → eT.Ok (eT.els ys e) := fun e _ => eT.ok_els ys e
  clear hi
  repeat' (first | exact k0 | exact k1 | apply And.intro | intro _)
  all_goals omega
theorem eq_run (c : eq_GC) (b : eq_GB) (k1 : c.2.2 = ((c.1).length : Int)) (k2 : (c.1).length ≤ maxLen) (k3 : eq_K c b 0) : loopF eq_RR eq_M (eq_g (0, c, b)) = ((scan 0 (eq_S c) 0 (c.1) b).1, eq_g ((scan 0 (eq_S c) 0 (c.1) b).2.1, c, (scan 0 (eq_S c) 0 (c.1) b).2.2)) := ix_conj_run (φ := eq_f) (ψ := eq_g) (fun _ => rfl) (fun _ => rfl) eq_RF eq_P c b k1 k2 k3
noncomputable def rc_S (c : rc_GC) (b : rc_GB) (i : Int) (v : T) : Ex × rc_GB := bif rtleq_F v c.2 then (.ret, (), true) else (.normal, b.1, b.2)
def rc_K (c : rc_GC) (b : rc_GB) (i : Int) : Prop := True
abbrev rc_I (g : rc_G) : List Prop := ixI (fun c : rc_GC => (c.1.length : Int)) (fun c : rc_GC => c.1) rc_K (rc_f g)
abbrev rc_M (g : rc_G) : Nat := ixM (fun c : rc_GC => (c.1.length : Int)) (rc_f g)
theorem rc_P : ixP rc_S (fun c : rc_GC => c.1) rc_K := fun _ _ _ _ h _ _ => h
noncomputable abbrev rc_RR (g : rc_G) : Ex × rc_G := rc_R g.1 g.2.1 g.2.2.1 g.2.2.2.1 g.2.2.2.2
theorem rc_RF (d : Int × rc_GC × rc_GB) (_ : allP (ixI (fun c : rc_GC => (c.1.length : Int)) (fun c : rc_GC => c.1) rc_K d)) : rc_RR (rc_g d) = ((ixF 0 (fun c : rc_GC => (c.1.length : Int)) (fun c : rc_GC => c.1) eT.dflt rc_S d).1, rc_g (ixF 0 (fun c : rc_GC => (c.1.length : Int)) (fun c : rc_GC => c.1) eT.dflt rc_S d).2) := by
  obtain ⟨i, ⟨xs, t⟩, ⟨⟨⟩, r⟩⟩ := d
  show rc_R xs () t i r = _
  unfold rc_R ixF rc_S
  simp only [eT.lst_els]
  cases decide (i < (xs.length : Int)) with
  | false => rfl
  | true =>
    simp only [cond_true]
    generalize (rtleq_F (xs.getD i.toNat eT.dflt) t) = z
    cases z <;> rfl
theorem rc_ok : ∀ b ∈ loopsOf Try.prog 54, lkey b = 2 → LoopOk Try.prog b (rc_C rc_I rc_M).g := by
  refine rc_loop rc_I rc_M (fun g hi => ?_) (ix_conj_goes (fun _ => rfl) (fun _ => rfl) rc_RF rc_P)
  obtain ⟨xs, ⟨⟩, t, i, r⟩ := g
  obtain ⟨h1, h2, h3, h4, h5⟩ := hi _ (List.mem_cons_self ..)
  have h1 : (xs.length : Int) = (xs.length : Int) := h1
  have h3 : 0 ≤ i := h3
  have h5 : True := h5
  show rc_side xs () t i r
  unfold rc_side
  simp only [decide_eq_true_eq, decide_eq_false_iff_not]
  have k0 : ∀ e : Nat, e < xs.length → eT.Ok (eT.els xs e) := fun e _ => eT.ok_els xs e
  clear hi
  repeat' (first | exact k0 | apply And.intro | intro _)
  all_goals omega
theorem rc_run (c : rc_GC) (b : rc_GB) (k1 : (c.1.length : Int) = ((c.1).length : Int)) (k2 : (c.1).length ≤ maxLen) (k3 : rc_K c b 0) : loopF rc_RR rc_M (rc_g (0, c, b)) = ((scan 0 (rc_S c) 0 (c.1) b).1, rc_g ((scan 0 (rc_S c) 0 (c.1) b).2.1, c, (scan 0 (rc_S c) 0 (c.1) b).2.2)) := ix_conj_run (φ := rc_f) (ψ := rc_g) (fun _ => rfl) (fun _ => rfl) rc_RF rc_P c b k1 k2 k3
noncomputable def ltA : LTab Try.prog := (((((((((LTab.nil.cons 120 2 (ia_C ia_I ia_M) ia_ok).cons 77 2 (ii_C ii_I ii_M) ii_ok).cons 68 2 (tms_C tms_I tms_M) tms_ok).cons 78 2 (ra_C ra_I ra_M) ra_ok).cons 78 7 (rb_C rb_I rb_M) rb_ok).cons 88 2 (hs_C hs_I hs_M) hs_ok).cons 91 4 (rs_C rs_I rs_M) rs_ok).cons 25 4 (eq_C eq_I eq_M) eq_ok).cons 54 2 (rc_C rc_I rc_M) rc_ok)
noncomputable abbrev lamA : Lam := ltA.lam
theorem lamA_ok : ∀ f k L, lamA f k = some L → ∀ b ∈ loopsOf Try.prog f, lkey b = k → LoopOk Try.prog b L.g := ltA.ok
noncomputable def ltB : LTab Try.prog := (LTab.nil.cons 120 2 (ib_C ib_I ib_M) ib_ok)
noncomputable abbrev lamB : Lam := ltB.lam
theorem lamB_ok : ∀ f k L, lamB f k = some L → ∀ b ∈ loopsOf Try.prog f, lkey b = k → LoopOk Try.prog b L.g := ltB.ok
end Go.Proofs.Ytiipneclghnfhaa

/- Chapter 3: functions over lists of times. Printed by treegen.py. -/
namespace Go.Proofs.Ytiipneclghnfhaa
open Go.RowKit Go.Sx
set_option maxRecDepth 100000
set_option linter.unusedVariables false
abbrev aFt : DA (List T × List T) := .cons dLT (.one dFt)
abbrev aFc : DA (List T × T) := .cons dLT (.one dFc)
abbrev aLT : DA (List T × T) := .cons dLT (.one dT)
abbrev aLL : DA (List T × List T) := .cons dLT (.one dLT)
abbrev aL : DA (List T) := .one dLT
noncomputable def ixa_q1 (xs : List T) (l : List T) : Ex ×
  ia_G :=
  loopF (fun g => ia_R g.fst g.snd.fst g.snd.snd.fst g.snd.snd.snd.fst g.snd.snd.snd.snd) ia_M (eT.lst xs.length (eT.els xs), eT.lst l.length (eT.els l), (↑xs.length : Int), (0 : Int), (0 : Int))
noncomputable def ixa_F (xs : List T) (l : List T) : Dv.T dI :=
  bif exB Ex.ret (ixa_q1 xs l).fst then (ixa_q1 xs l).snd.snd.snd.snd.snd else (-1 : Int)
def ixa_side (xs : List T) (l : List T) : Prop :=
  (∀ (e : Nat), e < xs.length → eT.Ok (eT.els xs e)) ∧ (∀ (e : Nat), e < l.length → eT.Ok (eT.els l e)) ∧ Lp.ixJ (fun c => c.snd.snd) (fun c => c.fst) ia_K (ia_f (eT.lst xs.length (eT.els xs), eT.lst l.length (eT.els l), (↑xs.length : Int), (0 : Int), (0 : Int)))
theorem ixa_okS (pre : DA.T aFt → List Prop) (h : ∀ g, DA.bd aFt g → (∀ p ∈ pre g, p) → ixa_side g.1 g.2) : FnPure Try.prog 120 aFt dI (fun g => ixa_F g.1 g.2) pre := pure_of_sideS (Γ := (PTab.gamz tabL [] [])) (Λ := lamA) (PTab.okz tabL [] []) lamA_ok 100 default (fun g => ixa_side g.1 g.2) (fun g => by kernel_rfl) (fun g => by kernel_rfl) h
noncomputable def ind_q1 (xs : List T) (t : T) : Ex ×
  ii_G :=
  loopF (fun g => ii_R g.fst g.snd.fst g.snd.snd.fst g.snd.snd.snd.fst g.snd.snd.snd.snd.fst g.snd.snd.snd.snd.snd) ii_M (eT.lst xs.length (eT.els xs), (), t, (↑xs.length : Int), (0 : Int), (0 : Int))
noncomputable def ind_F (xs : List T) (t : T) : Dv.T dI :=
  bif exB Ex.ret (ind_q1 xs t).fst then (ind_q1 xs t).snd.snd.snd.snd.snd.snd else (-1 : Int)
def ind_side (xs : List T) (t : T) : Prop :=
  (∀ (e : Nat), e < xs.length → eT.Ok (eT.els xs e)) ∧ Lp.ixJ (fun c => c.snd.snd) (fun c => c.fst) ii_K (ii_f (eT.lst xs.length (eT.els xs), (), t, (↑xs.length : Int), (0 : Int), (0 : Int)))
theorem ind_okS (pre : DA.T aLT → List Prop) (h : ∀ g, DA.bd aLT g → (∀ p ∈ pre g, p) → ind_side g.1 g.2) : FnPure Try.prog 77 aLT dI (fun g => ind_F g.1 g.2) pre := pure_of_sideS (Γ := (PTab.gamz tabL [] [])) (Λ := lamA) (PTab.okz tabL [] []) lamA_ok 100 default (fun g => ind_side g.1 g.2) (fun g => by kernel_rfl) (fun g => by kernel_rfl) h
noncomputable def hsf_q1 (xs : List T) (t : T) : Ex ×
  hs_G :=
  loopF (fun g => hs_R g.fst g.snd.fst g.snd.snd.fst g.snd.snd.snd.fst g.snd.snd.snd.snd) hs_M (eT.lst xs.length (eT.els xs), (), t, (0 : Int), false)
noncomputable def hsf_F (xs : List T) (t : T) : Dv.T dBool :=
  bif exB Ex.ret (hsf_q1 xs t).fst then (hsf_q1 xs t).snd.snd.snd.snd.snd else false
def hsf_side (xs : List T) (t : T) : Prop :=
  (∀ (e : Nat), e < xs.length → eT.Ok (eT.els xs e)) ∧ Lp.ixJ (fun c => (↑c.fst.length : Int)) (fun c => c.fst) hs_K (hs_f (eT.lst xs.length (eT.els xs), (), t, (0 : Int), false))
theorem hsf_okS (pre : DA.T aLT → List Prop) (h : ∀ g, DA.bd aLT g → (∀ p ∈ pre g, p) → hsf_side g.1 g.2) : FnPure Try.prog 88 aLT dBool (fun g => hsf_F g.1 g.2) pre := pure_of_sideS (Γ := (PTab.gamz tabL [] [])) (Λ := lamA) (PTab.okz tabL [] []) lamA_ok 100 default (fun g => hsf_side g.1 g.2) (fun g => by kernel_rfl) (fun g => by kernel_rfl) h
noncomputable def smf_q1 (xs : List T) (ys : List T) : Ex ×
  rs_G :=
  loopF (fun g => rs_R g.fst g.snd.fst g.snd.snd.fst g.snd.snd.snd) rs_M (eT.lst xs.length (eT.els xs), eT.lst ys.length (eT.els ys), (0 : Int), false)
noncomputable def smf_F (xs : List T) (ys : List T) : Dv.T dBool :=
  bif (↑xs.length : Int) != (↑ys.length : Int) then false
  else bif exB Ex.ret (smf_q1 xs ys).fst then (smf_q1 xs ys).snd.snd.snd.snd else true
def smf_side (xs : List T) (ys : List T) : Prop :=
  ((↑xs.length : Int) != (↑ys.length : Int)) = false → (∀ (e : Nat), e < xs.length → eT.Ok (eT.els xs e)) ∧ (∀ (e : Nat), e < ys.length → eT.Ok (eT.els ys e)) ∧ Lp.ixJ (fun c => (↑c.fst.length : Int)) (fun c => c.fst) rs_K (rs_f (eT.lst xs.length (eT.els xs), eT.lst ys.length (eT.els ys), (0 : Int), false))
theorem smf_okS (pre : DA.T aLL → List Prop) (h : ∀ g, DA.bd aLL g → (∀ p ∈ pre g, p) → smf_side g.1 g.2) : FnPure Try.prog 91 aLL dBool (fun g => smf_F g.1 g.2) pre := pure_of_sideS (Γ := (PTab.gamz tabL [] [])) (Λ := lamA) (PTab.okz tabL [] []) lamA_ok 100 default (fun g => smf_side g.1 g.2) (fun g => by kernel_rfl) (fun g => by kernel_rfl) h
noncomputable def eqf_q1 (xs : List T) (ys : List T) : Ex ×
  eq_G :=
  loopF (fun g => eq_R g.fst g.snd.fst g.snd.snd.fst g.snd.snd.snd.fst g.snd.snd.snd.snd) eq_M (eT.lst xs.length (eT.els xs), eT.lst ys.length (eT.els ys), (↑xs.length : Int), (0 : Int), false)
noncomputable def eqf_F (xs : List T) (ys : List T) : Dv.T dBool :=
  bif (↑xs.length : Int) != (↑ys.length : Int) then false
  else bif exB Ex.ret (eqf_q1 xs ys).fst then (eqf_q1 xs ys).snd.snd.snd.snd.snd else true
def eqf_side (xs : List T) (ys : List T) : Prop :=
  ((↑xs.length : Int) != (↑ys.length : Int)) = false → (∀ (e : Nat), e < xs.length → eT.Ok (eT.els xs e)) ∧ (∀ (e : Nat), e < ys.length → eT.Ok (eT.els ys e)) ∧ Lp.ixJ (fun c => c.snd.snd) (fun c => c.fst) eq_K (eq_f (eT.lst xs.length (eT.els xs), eT.lst ys.length (eT.els ys), (↑xs.length : Int), (0 : Int), false))
theorem eqf_okS (pre : DA.T aLL → List Prop) (h : ∀ g, DA.bd aLL g → (∀ p ∈ pre g, p) → eqf_side g.1 g.2) : FnPure Try.prog 25 aLL dBool (fun g => eqf_F g.1 g.2) pre := pure_of_sideS (Γ := (PTab.gamz tabL [] [])) (Λ := lamA) (PTab.okz tabL [] []) lamA_ok 100 default (fun g => eqf_side g.1 g.2) (fun g => by kernel_rfl) (fun g => by kernel_rfl) h
noncomputable def rcf_q1 (xs : List T) (t : T) : Ex ×
  rc_G :=
  loopF (fun g => rc_R g.fst g.snd.fst g.snd.snd.fst g.snd.snd.snd.fst g.snd.snd.snd.snd) rc_M (eT.lst xs.length (eT.els xs), (), t, (0 : Int), false)
noncomputable def rcf_F (xs : List T) (t : T) : Dv.T dBool :=
  bif exB Ex.ret (rcf_q1 xs t).fst then (rcf_q1 xs t).snd.snd.snd.snd.snd else false
def rcf_side (xs : List T) (t : T) : Prop :=
  (∀ (e : Nat), e < xs.length → eT.Ok (eT.els xs e)) ∧ Lp.ixJ (fun c => (↑c.fst.length : Int)) (fun c => c.fst) rc_K (rc_f (eT.lst xs.length (eT.els xs), (), t, (0 : Int), false))
theorem rcf_okS (pre : DA.T aLT → List Prop) (h : ∀ g, DA.bd aLT g → (∀ p ∈ pre g, p) → rcf_side g.1 g.2) : FnPure Try.prog 54 aLT dBool (fun g => rcf_F g.1 g.2) pre := pure_of_sideS (Γ := (PTab.gamz tabL [] [])) (Λ := lamA) (PTab.okz tabL [] []) lamA_ok 100 default (fun g => rcf_side g.1 g.2) (fun g => by kernel_rfl) (fun g => by kernel_rfl) h
noncomputable def rtm_q1 (xs : List T) : Ex ×
  ra_G :=
  loopF (fun g => ra_R g.fst g.snd.fst g.snd.snd) ra_M (eT.lst xs.length (eT.els xs), (0 : Int), (0 : Int))
noncomputable def rtm_q2 (xs : List T) : Ex ×
  rb_G :=
  loopF (fun g => rb_R g.fst g.snd.fst g.snd.snd) rb_M (eT.lst (rtm_q1 xs).snd.fst.length (eT.els (rtm_q1 xs).snd.fst), (0 : Int), (rtm_q1 xs).snd.snd.snd)
noncomputable def rtm_F (xs : List T) : Dv.T dI :=
  bif exB Ex.ret (rtm_q1 xs).fst then (rtm_q1 xs).snd.snd.snd else bif exB Ex.ret (rtm_q2 xs).fst then (rtm_q2 xs).snd.snd.snd else (0 : Int)
def rtm_side (xs : List T) : Prop :=
  (∀ (e : Nat), e < xs.length → eT.Ok (eT.els xs e)) ∧ Lp.ixJ (fun c => (↑(List.length c) : Int)) (fun c => c) ra_K (ra_f (eT.lst xs.length (eT.els xs), (0 : Int), (0 : Int))) ∧ (exB Ex.ret (rtm_q1 xs).fst = false → (∀ (e : Nat), e < (rtm_q1 xs).snd.fst.length → eT.Ok (eT.els (rtm_q1 xs).snd.fst e)) ∧ Lp.ixJ (fun c => (↑(List.length c) : Int)) (fun c => c) rb_K (rb_f (eT.lst (rtm_q1 xs).snd.fst.length (eT.els (rtm_q1 xs).snd.fst), (0 : Int), (rtm_q1 xs).snd.snd.snd)))
theorem rtm_okS (pre : DA.T aL → List Prop) (h : ∀ g, DA.bd aL g → (∀ p ∈ pre g, p) → rtm_side g) : FnPure Try.prog 78 aL dI (fun g => rtm_F g) pre := pure_of_sideS (Γ := (PTab.gamz tabL [] [])) (Λ := lamA) (PTab.okz tabL [] []) lamA_ok 100 default (fun g => rtm_side g) (fun g => by kernel_rfl) (fun g => by kernel_rfl) h
noncomputable def tabX5 : PTab Try.prog := tabL
end Go.Proofs.Ytiipneclghnfhaa

/- Chapter 3: the first that is less. Printed by treegen.py. -/
namespace Go.Proofs.Ytiipneclghnfhaa
open Go.RowKit Go.Sx
set_option maxRecDepth 100000
set_option linter.unusedVariables false
noncomputable def ixb_q1 (xs : List T) (t : T) : Ex ×
  ib_G :=
  loopF (fun g => ib_R g.fst g.snd.fst g.snd.snd.fst g.snd.snd.snd.fst g.snd.snd.snd.snd) ib_M (eT.lst xs.length (eT.els xs), t, (↑xs.length : Int), (0 : Int), (0 : Int))
noncomputable def ixb_F (xs : List T) (t : T) : Dv.T dI :=
  bif exB Ex.ret (ixb_q1 xs t).fst then (ixb_q1 xs t).snd.snd.snd.snd.snd else (-1 : Int)
def ixb_side (xs : List T) (t : T) : Prop :=
  (∀ (e : Nat), e < xs.length → eT.Ok (eT.els xs e)) ∧ Lp.ixJ (fun c => c.snd.snd) (fun c => c.fst) ib_K (ib_f (eT.lst xs.length (eT.els xs), t, (↑xs.length : Int), (0 : Int), (0 : Int)))
theorem ixb_okS (pre : DA.T aFc → List Prop) (h : ∀ g, DA.bd aFc g → (∀ p ∈ pre g, p) → ixb_side g.1 g.2) : FnPure Try.prog 120 aFc dI (fun g => ixb_F g.1 g.2) pre := pure_of_sideS (Γ := (PTab.gamz tabL [] [])) (Λ := lamB) (PTab.okz tabL [] []) lamB_ok 100 default (fun g => ixb_side g.1 g.2) (fun g => by kernel_rfl) (fun g => by kernel_rfl) h
noncomputable def tabX6 : PTab Try.prog := tabL
end Go.Proofs.Ytiipneclghnfhaa

/- Loops that look for something: plain laws. -/
namespace Go.Lp
open Go.Sx
section
variable {α β : Type}
theorem search' {x : Nat} {st : β → Int → α → Ex × β} {p : α → Bool} {r : Int → α → β → β} (h : ∀ b i a, st b i a = bif p a then (.ret, r i a b) else (.normal, b)) : ∀ (l : List α) (i : Int) (b : β),
    (l.any p = true ∧ ∃ j, i ≤ j ∧ ∃ a, a ∈ l ∧ p a = true ∧ scan x st i l b = (.ret, j, r j a b)) ∨ (l.any p = false ∧ scan x st i l b = (.exit x, i + (l.length : Int), b))
  | [], i, b => .inr ⟨rfl, by simp [scan]⟩
  | a :: l, i, b => by
    simp only [scan, h]
    cases hp : p a with
    | true => exact .inl ⟨by simp [hp], i, Int.le_refl _, a, List.mem_cons_self .., hp, rfl⟩
    | false =>
      simp only [cond_false]
      rcases search' h l (i + 1) b with ⟨h1, j, hj, a', h2, h3, h4⟩ | ⟨h1, h2⟩
      · exact .inl ⟨by simp [h1], j, by omega, a', List.mem_cons_of_mem _ h2, h3, h4⟩
      · refine .inr ⟨by simp [hp, h1], ?_⟩
        rw [h2]
        simp; omega
/-- It stops at the first of which something holds. -/
theorem search {x : Nat} {st : β → Int → α → Ex × β} {p : α → Bool} {r : Int → α → β → β} (h : ∀ b i a, st b i a = bif p a then (.ret, r i a b) else (.normal, b)) (l : List α) (b : β) :
    (l.any p = true ∧ ∃ j, 0 ≤ j ∧ ∃ a, a ∈ l ∧ p a = true ∧ scan x st 0 l b = (.ret, j, r j a b)) ∨ (l.any p = false ∧ scan x st 0 l b = (.exit x, (l.length : Int), b)) := by
  have := search' (x := x) h l 0 b
  rwa [Int.zero_add] at this
theorem searchI' {x : Nat} {st : β → Int → α → Ex × β} {p : Int → α → Bool} {r : Int → α → β → β} (h : ∀ b i a, st b i a = bif p i a then (.ret, r i a b) else (.normal, b)) : ∀ (l : List α) (i : Int) (b : β),
    (∃ (n : Nat) (a : α), l[n]? = some a ∧ p (i + n) a = true ∧ scan x st i l b = (.ret, i + n, r (i + n) a b)) ∨ ((∀ (n : Nat) (a : α), l[n]? = some a → p (i + n) a = false) ∧ scan x st i l b = (.exit x, i + (l.length : Int), b))
  | [], i, b => .inr ⟨fun n a h => by simp at h, by simp [scan]⟩
  | a :: l, i, b => by
    simp only [scan, h]
    cases hp : p i a with
    | true => exact .inl ⟨0, a, rfl, by simpa using hp, by simp⟩
    | false =>
      simp only [cond_false]
      rcases searchI' h l (i + 1) b with ⟨n, a', h2, h3, h4⟩ | ⟨h1, h2⟩
      · exact .inl ⟨n + 1, a', h2, by rw [show i + ((n + 1 : Nat) : Int) = i + 1 + n by omega]; exact h3, by rw [show i + ((n + 1 : Nat) : Int) = i + 1 + n by omega]; exact h4⟩
      · refine .inr ⟨fun n a' hn => ?_, ?_⟩
        · cases n with
          | zero => injection hn with hn; subst hn; simpa using hp
          | succ n => rw [show i + ((n + 1 : Nat) : Int) = i + 1 + n by omega]; exact h1 n a' hn
        · rw [h2]
          simp; omega
/-- The same, where it hangs on the place. -/
theorem searchI {x : Nat} {st : β → Int → α → Ex × β} {p : Int → α → Bool} {r : Int → α → β → β} (h : ∀ b i a, st b i a = bif p i a then (.ret, r i a b) else (.normal, b)) (l : List α) (b : β) :
    (∃ (n : Nat) (a : α), l[n]? = some a ∧ p n a = true ∧ scan x st 0 l b = (.ret, (n : Int), r n a b)) ∨ ((∀ (n : Nat) (a : α), l[n]? = some a → p n a = false) ∧ scan x st 0 l b = (.exit x, (l.length : Int), b)) := by
  have := searchI' (x := x) h l 0 b
  simpa only [Int.zero_add] using this
theorem any_congr' {l : List α} {p q : α → Bool} (h : ∀ x ∈ l, p x = q x) : l.any p = l.any q := by
  rw [Bool.eq_iff_iff, List.any_eq_true, List.any_eq_true]
  constructor
  · rintro ⟨x, h1, h2⟩; exact ⟨x, h1, (h x h1) ▸ h2⟩
  · rintro ⟨x, h1, h2⟩; exact ⟨x, h1, (h x h1).symm ▸ h2⟩
theorem any_eq_mem {α : Type} [DecidableEq α] (l : List α) (t : α) : l.any (fun v => decide (v = t)) = decide (t ∈ l) := by
  rw [Bool.eq_iff_iff, List.any_eq_true]
  simp
theorem ne_len {α β : Type} {a : List α} {b : List β} (h : ((a.length : Int) != (b.length : Int)) = false) : a.length = b.length := by
  have : (a.length : Int) = (b.length : Int) := by simpa using h
  omega
end
end Go.Lp

/- A function with several contracts: by the closure that is handed in. -/
namespace Go.Sx
open Go.RowKit
def isFn (k : Nat) : List SV → Bool
  | [_, .fn f _] => Nat.beq f k
  | _ => false
def pconAlt (k : Nat) (c1 c2 : PCon) : PCon := ⟨fun args h => bif isFn k args then c1.g args h else c2.g args h, fun args h => by
  cases isFn k args with
  | true => exact c1.e args h
  | false => exact c2.e args h, fun args ha => indep_bif (c1.i args ha) (c2.i args ha)⟩
theorem alt_ok {P : Program} {f k : Nat} {c1 c2 : PCon} (h1 : FnOk P f c1.g) (h2 : FnOk P f c2.g) : FnOk P f (pconAlt k c1 c2).g := by
  intro M w0 w ρ h args vs K hK hm hf
  have hK : (bif isFn k args then c1.g args h else c2.g args h).Holds K := hK
  cases hc : isFn k args with
  | true => rw [hc] at hK; exact h1 M w0 w ρ h args vs K hK hm hf
  | false => rw [hc] at hK; exact h2 M w0 w ρ h args vs K hK hm hf
end Go.Sx
