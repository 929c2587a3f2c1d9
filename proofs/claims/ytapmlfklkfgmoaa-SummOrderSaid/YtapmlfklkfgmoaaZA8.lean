/- Chapter 2: the loops of All. -/
import Derived.Test.YtapmlfklkfgmoaaZT7
set_option linter.unusedVariables false
namespace Go.Proofs.Ytapmlfklkfgmoaa
open Go.RowKit Go.Sx
set_option maxRecDepth 100000
/-- From the i-th on, so many to come. -/
def allRun : Nat → List S → Int → Int → S → Int × Int × S
  | 0, _, i, e, s => (i, e, s)
  | r + 1, l, i, e, s => bif e != 0 then (i, e, s) else allRun r l (i + 1) (thenF s (l.getD i.toNat eS.dflt)).2 (thenF s (l.getD i.toNat eS.dflt)).1
def allG (g : GA) : Tr (Ex × GA) :=
  let x := allRun (g.1.length - g.2.2.1.toNat) g.1 g.2.2.1 g.2.2.2.2.1 g.2.2.2.2.2
  .ret (.exit 0, g.1, g.2.1, x.1, (), x.2.1, x.2.2)
def allInv (g : GA) : List Prop := [g.2.1 = (g.1.length : Int) ∧ 0 ≤ g.2.2.1 ∧ g.2.2.1 ≤ (g.1.length : Int) ∧ g.1.length ≤ maxLen]
noncomputable def allLoop : LCon := loopC (loopBody Try.prog 14 3) lpAll [] 32 allInv allG
theorem noΛ4 : ∀ f k L, noΛ f k = some L → ∀ b ∈ loopsOf Try.prog f, lkey b = k → LoopOk Try.prog b L.g := noΛ_ok
theorem all_one : ((loopsOf Try.prog 14).filter fun c => Nat.beq (lkey c) 3).length = 1 := by kernel_rfl
theorem rall_one : ((loopsOf Try.prog 15).filter fun c => Nat.beq (lkey c) 3).length = 1 := by kernel_rfl
theorem all_loop : ∀ b ∈ loopsOf Try.prog 14, lkey b = 3 → LoopOk Try.prog b allLoop.g := by
  unfold allLoop
  refine loop_ok (P := Try.prog) (Γ := g4) (Λ := noΛ) (tab4.okz [] []) noΛ4 100 14 3 32 lpAll [] allInv allG (fun g => g.1.length - g.2.2.1.toNat) all_one ?_
  rintro rd T B HL HB ds ⟨l, n, i, ⟨⟩, e, s⟩ hi K hK
  obtain ⟨h1, h2, h3, h4⟩ := hi _ (List.mem_cons_self ..)
  simp only at h1 h2 h3 h4
  unfold maxLen at h4
  rw [all_round, eS.lst_els]
  have hok : ∀ e : Nat, e < l.length → eS.Ok (eS.els l e) := fun e _ => eS.ok_els l e
  have hG : K (.exit 0, l, n, (allRun (l.length - i.toNat) l i e s).1, (), (allRun (l.length - i.toNat) l i e s).2.1, (allRun (l.length - i.toNat) l i e s).2.2) := hK
  refine ⟨fun hc => ⟨by have := of_decide_eq_true hc; omega, fun he => ⟨hok, ?_⟩, fun he => ⟨hok, ?_⟩⟩, fun hc => ⟨hok, ?_⟩⟩
  · have hlt : i < n := of_decide_eq_true hc
    obtain ⟨r, hr⟩ : ∃ r, l.length - i.toNat = r + 1 := ⟨l.length - i.toNat - 1, by omega⟩
    rw [hr] at hG
    simp only [allRun, he, cond_true] at hG
    exact hG
  · have hlt : i < n := of_decide_eq_true hc
    obtain ⟨r, hr⟩ : ∃ r, l.length - i.toNat = r + 1 := ⟨l.length - i.toNat - 1, by omega⟩
    rw [hr] at hG
    simp only [allRun, he, cond_false] at hG
    have hw : IntKind.i64.wrap (i + 1) = i + 1 := wr (by omega)
    rw [hw]
    refine ⟨fun p hp => ?_, ?_, ?_⟩
    · simp only [allInv, List.mem_singleton] at hp
      subst hp
      exact ⟨h1, by show (0 : Int) ≤ i + 1; omega, by show i + 1 ≤ (l.length : Int); omega, by unfold maxLen; exact h4⟩
    · show l.length - (i + 1).toNat < l.length - i.toNat
      omega
    · show K _
      have : l.length - (i + 1).toNat = r := by omega
      rw [this]
      exact hG
  · have hge := of_decide_eq_false hc
    have : l.length - i.toNat = 0 := by omega
    rw [this] at hG
    exact hG
def rallG (g : GR) : Tr (Ex × GR) :=
  let x := allRun (g.1.length - g.2.1.toNat) g.1 g.2.1 g.2.2.2.1 g.2.2.2.2
  .ret (.exit 0, g.1, x.1, (), x.2.1, x.2.2)
def rallInv (g : GR) : List Prop := [0 ≤ g.2.1 ∧ g.2.1 ≤ (g.1.length : Int) ∧ g.1.length ≤ maxLen]
noncomputable def rallLoop : LCon := loopC (loopBody Try.prog 15 3) lpRall [] 35 rallInv rallG
set_option maxHeartbeats 2000000 in
theorem rall_loop : ∀ b ∈ loopsOf Try.prog 15, lkey b = 3 → LoopOk Try.prog b rallLoop.g := by
  unfold rallLoop
  refine loop_ok (P := Try.prog) (Γ := g4) (Λ := noΛ) (tab4.okz [] []) noΛ4 100 15 3 35 lpRall [] rallInv rallG (fun g => g.1.length - g.2.1.toNat) rall_one ?_
  rintro rd T B HL HB ds ⟨l, i, ⟨⟩, e, s⟩ hi K hK
  obtain ⟨h2, h3, h4⟩ := hi _ (List.mem_cons_self ..)
  simp only at h2 h3 h4
  unfold maxLen at h4
  rw [rall_round, eS.lst_els]
  have hok : ∀ e : Nat, e < l.length → eS.Ok (eS.els l e) := fun e _ => eS.ok_els l e
  have hG : K (.exit 0, l, (allRun (l.length - i.toNat) l i e s).1, (), (allRun (l.length - i.toNat) l i e s).2.1, (allRun (l.length - i.toNat) l i e s).2.2) := hK
  refine ⟨fun hc => ?_, fun hc => ⟨hok, ?_⟩⟩
  · simp only [Bool.and_eq_true, decide_eq_true_eq, beq_iff_eq] at hc
    obtain ⟨hlt, he⟩ := hc
    subst he
    refine ⟨by omega, hok, ?_⟩
    obtain ⟨r, hr⟩ : ∃ r, l.length - i.toNat = r + 1 := ⟨l.length - i.toNat - 1, by omega⟩
    rw [hr] at hG
    have hz : ((0 : Int) != 0) = false := rfl
    simp only [allRun, hz, cond_false] at hG
    have hw : IntKind.i64.wrap (i + 1) = i + 1 := wr (by omega)
    rw [hw]
    refine ⟨fun p hp => ?_, ?_, ?_⟩
    · simp only [rallInv, List.mem_singleton] at hp
      subst hp
      exact ⟨by show (0 : Int) ≤ i + 1; omega, by show i + 1 ≤ (l.length : Int); omega, by unfold maxLen; exact h4⟩
    · show l.length - (i + 1).toNat < l.length - i.toNat
      omega
    · show K _
      have : l.length - (i + 1).toNat = r := by omega
      rw [this]
      exact hG
  · have hout : allRun (l.length - i.toNat) l i e s = (i, e, s) := by
      by_cases hlt : i < (l.length : Int)
      · obtain ⟨r, hr⟩ : ∃ r, l.length - i.toNat = r + 1 := ⟨l.length - i.toNat - 1, by omega⟩
        rw [hr]
        have he : (e != 0) = true := by
          cases h : e == 0 with
          | true => rw [h] at hc; simp [hlt] at hc
          | false => simp [bne, h]
        simp only [allRun, he, cond_true]
      · have : l.length - i.toNat = 0 := by omega
        rw [this]; rfl
    rw [hout] at hG
    exact hG
noncomputable def lt1 : LTab Try.prog := (LTab.nil.cons 14 3 allLoop all_loop).cons 15 3 rallLoop rall_loop
noncomputable abbrev lam1 : Lam := lt1.lam
theorem lam1_ok : ∀ f k L, lam1 f k = some L → ∀ b ∈ loopsOf Try.prog f, lkey b = k → LoopOk Try.prog b L.g := lt1.ok
abbrev dLS : Dv (List S) := .list eS
abbrev aIL : DA (Int × List S) := .cons dI (.one dLS)
end Go.Proofs.Ytapmlfklkfgmoaa
