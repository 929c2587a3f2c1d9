/- Chapter 2: Apply: the contracts of both sides. -/
import Derived.Test.YtapmlfklkfgmoaaZG05P6
import Derived.Test.YtapmlfklkfgmoaaZG04P6
import Derived.ProofKit
import Derived.OpenShut
import Derived.ShutString
import Derived.ChangeOld
import Derived.Below
import Derived.Deep.Slices
set_option linter.unusedVariables false
set_option linter.unusedSimpArgs false
set_option linter.constructorNameAsVariable false
set_option linter.all false

namespace Go.Proofs.Ytapmlfklkfgmoaa
open Go.RowKit Go.Sx
def applyC (k n : Nat) (s : S) (t : T) : T × Int :=
  match k with
  | 0 => (mkT t.e (n : Int) (s.p.take n), 0)
  | j + 1 => bif decide (t.l.getD j 0 + s.a > 1048576) then (zT, 12) else (mkT t.e ((j + 1 + n : Nat) : Int) ((t.l.take j ++ [t.l.getD j 0 + s.a]) ++ s.p.take n), 0)
def applyF (s : S) (t : T) : T × Int :=
  bif !may_F s then (zT, 20) else bif tcheck_F t != 0 then (zT, tcheck_F t) else bif t.d != s.f then (zT, 11) else applyC s.k.toNat s.n.toNat s t
theorem l_mem {t : T} (h : t.Ok) : ∀ x ∈ t.l, 0 ≤ x ∧ x ≤ 1048576 := by
  unfold T.Ok at h
  intro x hx
  simp only [T.l, List.mem_cons, List.not_mem_nil, or_false] at hx
  rcases hx with rfl | rfl | rfl | rfl <;> omega
theorem l_get {t : T} (h : t.Ok) (i : Nat) : 0 ≤ t.l.getD i 0 ∧ t.l.getD i 0 ≤ 1048576 := by
  by_cases hi : i < t.l.length
  · rw [List.getD_eq_getElem?_getD, List.getElem?_eq_getElem hi]
    exact l_mem h _ (List.getElem_mem hi)
  · rw [List.getD_eq_getElem?_getD, List.getElem?_eq_none (by omega)]
    simp
theorem len_l (t : T) : t.l.length = 4 := rfl
theorem okmt {e : Int} {d : Nat} {l : List Int} (hl : l.length = d) (hd : d ≤ 4) (he : 0 ≤ e ∧ e ≤ 1073741824) : (mkT e d l).Ok ↔ ∀ x ∈ l, 0 ≤ x ∧ x ≤ 1048576 := by
  subst hl
  match l, hd with
  | [], _ => simp [mkT, T.Ok]; omega
  | [x0], _ => simp [mkT, T.Ok]; omega
  | [x0, x1], _ => simp [mkT, T.Ok]; omega
  | [x0, x1, x2], _ => simp [mkT, T.Ok]; omega
  | [x0, x1, x2, x3], _ => simp [mkT, T.Ok]; omega
theorem tc_ne (t : T) : (tcheck_F t != 0) = !decide (tcheck_F t = 0) := by
  cases h : decide (tcheck_F t = 0) <;> simp_all
theorem applyF_core {s : S} {t : T} (hs : may_F s = true) (ht : tcheck_F t = 0) (he : t.d = s.f) : applyF s t = applyC s.k.toNat s.n.toNat s t := by
  unfold applyF
  rw [hs, ht, he]
  simp
theorem apply_ok : FnPure Try.prog 10 aST dTE (fun g => applyF g.1 g.2) (fun _ => []) := by
  refine pure_of_cases (Γ := g3) (Λ := noΛ) (tab3.okz [] []) noΛ_ok 100 fun g _ _ => ?_
  obtain ⟨s, t⟩ := g
  show ∃ args, (∀ n ρ x, SV.fits n ρ (aST.enc (s, t)) x → SV.fits n ρ args x) ∧ (dTree Try.prog g3 noΛ 100 10 args dTE).Holds (· = applyF s t)
  cases hs : may_F s with
  | false =>
    refine ⟨_, fun _ _ _ h => h, ?_⟩
    rw [apply_no, hs]
    generalize els (dTree Try.prog g3 noΛ 100 10 (aST.enc (s, t)) dTE) = r
    refine ⟨fun _ => ?_, fun hc => (by cases hc)⟩
    show (zT, (20 : Int)) = applyF s t
    unfold applyF; rw [hs]; rfl
  | true =>
    by_cases ht : tcheck_F t = 0
    · by_cases he : t.d = s.f
      · have os := (may_iff s).1 hs
        have ot := (tcheck_iff t).1 ht
        obtain ⟨ks, ns, h4⟩ := sizes os
        refine ⟨[encK s s.k.toNat s.n.toNat, dT.enc t], fun _ _ _ h => encKT_fit ks ns h, ?_⟩
        rw [apply_tree s t _ _ h4, applyF_core hs ht he]
        unfold applyTr
        rw [litS_eq ks ns, hs, ht, he]
        refine ⟨fun hc => (by cases hc), fun _ => ⟨fun hc => (by cases hc), fun _ => ⟨fun hc => (by simp at hc), fun _ => ?_⟩⟩⟩
        have ga := os.2.1
        generalize s.k.toNat = k at h4 ⊢
        cases k with
        | zero =>
          show (mkT t.e ((0 + s.n.toNat : Nat) : Int) (s.p.take s.n.toNat), (0 : Int)) = _
          rw [Nat.zero_add]; rfl
        | succ j =>
          have hl := l_get ot j
          have hw : w64 (t.l.getD j 0 + s.a) = t.l.getD j 0 + s.a := wr (by omega)
          simp only [applyC, applyL, hw]
          exact ⟨fun h => by rw [h]; rfl, fun h => by rw [h]; rfl⟩
      · refine ⟨_, fun _ _ _ h => h, ?_⟩
        rw [apply_no, hs]
        refine ⟨fun hc => (by cases hc), fun _ => ?_⟩
        rw [apply_no2, ht]
        refine ⟨fun hc => (by cases hc), fun _ => ?_⟩
        rw [apply_no3]
        generalize els (els (els (dTree Try.prog g3 noΛ 100 10 (aST.enc (s, t)) dTE))) = r
        refine ⟨fun _ => ?_, fun hc => absurd (bne_eq_false_iff_eq.1 hc) he⟩
        show (zT, (11 : Int)) = applyF s t
        unfold applyF; rw [hs, ht, show (t.d != s.f) = true by simpa using he]; rfl
    · refine ⟨_, fun _ _ _ h => h, ?_⟩
      rw [apply_no, hs]
      refine ⟨fun hc => (by cases hc), fun _ => ?_⟩
      rw [apply_no2]
      generalize els (els (dTree Try.prog g3 noΛ 100 10 (aST.enc (s, t)) dTE)) = r
      refine ⟨fun hc => ?_, fun hc => absurd (bne_eq_false_iff_eq.1 hc) ht⟩
      show (zT, tcheck_F t) = applyF s t
      unfold applyF; rw [hs, hc]; rfl
theorem rt_ne (t : T) : (rtcheck_F t != 0) = (tcheck_F t != 0) := rfl
theorem rapply_ok : FnPure Try.prog 11 aST dTE (fun g => applyF g.1 g.2) (fun _ => []) := by
  refine pure_of_cases (Γ := g3) (Λ := noΛ) (tab3.okz [] []) noΛ_ok 100 fun g _ _ => ?_
  obtain ⟨s, t⟩ := g
  show ∃ args, (∀ n ρ x, SV.fits n ρ (aST.enc (s, t)) x → SV.fits n ρ args x) ∧ (dTree Try.prog g3 noΛ 100 11 args dTE).Holds (· = applyF s t)
  cases hs : may_F s with
  | false =>
    refine ⟨_, fun _ _ _ h => h, ?_⟩
    rw [rapply_no, rc_ne, hs, rcheck_eq, hs]
    generalize els (dTree Try.prog g3 noΛ 100 11 (aST.enc (s, t)) dTE) = r
    refine ⟨fun _ => ?_, fun hc => (by cases hc)⟩
    show (zT, (20 : Int)) = applyF s t
    unfold applyF; rw [hs]; rfl
  | true =>
    by_cases ht : tcheck_F t = 0
    · by_cases he : t.d = s.f
      · have os := (may_iff s).1 hs
        have ot := (tcheck_iff t).1 ht
        obtain ⟨ks, ns, h4⟩ := sizes os
        refine ⟨[encK s s.k.toNat s.n.toNat, dT.enc t], fun _ _ _ h => encKT_fit ks ns h, ?_⟩
        rw [rapply_tree s t _ _ h4, applyF_core hs ht he]
        unfold rapplyTr
        rw [litS_eq ks ns, rc_ne, hs, rt_ne, ht, he]
        refine ⟨fun hc => (by cases hc), fun _ => ⟨fun hc => (by cases hc), fun _ => ⟨fun hc => (by simp at hc), fun _ => ?_⟩⟩⟩
        have ga := os.2.1
        have pm := p_mem os
        have lm := l_mem ot
        have te := ot.1
        generalize s.k.toNat = k at h4 ⊢
        rw [rt_ne, tc_ne]
        cases k with
        | zero =>
          rw [Nat.zero_add]
          have hok := okmt (e := t.e) (d := s.n.toNat) (l := applyL 0 s.n.toNat s t) (by simp only [applyL, List.length_take, len_p]; omega) (by omega) (by omega)
          rw [(tcheck_iff _).2 (hok.2 fun x hx => pm x (List.mem_of_mem_take hx))]
          exact ⟨fun h => (by simp at h), fun _ => rfl⟩
        | succ j =>
          have hl := l_get ot j
          have hw : w64 (t.l.getD j 0 + s.a) = t.l.getD j 0 + s.a := wr (by omega)
          have hok := okmt (e := t.e) (d := j + 1 + s.n.toNat) (l := applyL (j + 1) s.n.toNat s t) (by simp only [applyL, List.length_append, List.length_take, len_p, len_l, List.length_cons, List.length_nil]; omega) (by omega) (by omega)
          simp only [applyL, hw] at hok ⊢
          simp only [applyC]
          by_cases hx : t.l.getD j 0 + s.a > 1048576
          · have hno : ¬ tcheck_F (mkT t.e ((j + 1 + s.n.toNat : Nat) : Int) ((t.l.take j ++ [t.l.getD j 0 + s.a]) ++ s.p.take s.n.toNat)) = 0 := fun h => by
              have := hok.1 ((tcheck_iff _).1 h) _ (List.mem_append_left _ (List.mem_append_right _ (List.mem_singleton.2 rfl)))
              omega
            rw [decide_eq_false hno, decide_eq_true hx]
            exact ⟨fun _ => rfl, fun h => (by cases h)⟩
          · rw [(tcheck_iff _).2 (hok.2 fun x hx' => by
              rcases List.mem_append.1 hx' with h | h
              · rcases List.mem_append.1 h with h | h
                · exact lm x (List.mem_of_mem_take h)
                · rw [List.mem_singleton.1 h]; omega
              · exact pm x (List.mem_of_mem_take h)), decide_eq_false hx]
            exact ⟨fun h => (by simp at h), fun _ => rfl⟩
      · refine ⟨_, fun _ _ _ h => h, ?_⟩
        rw [rapply_no, rc_ne, hs]
        refine ⟨fun hc => (by cases hc), fun _ => ?_⟩
        rw [rapply_no2, rt_ne, ht]
        refine ⟨fun hc => (by cases hc), fun _ => ?_⟩
        rw [rapply_no3]
        generalize els (els (els (dTree Try.prog g3 noΛ 100 11 (aST.enc (s, t)) dTE))) = r
        refine ⟨fun _ => ?_, fun hc => absurd (bne_eq_false_iff_eq.1 hc) he⟩
        show (zT, (11 : Int)) = applyF s t
        unfold applyF; rw [hs, ht, show (t.d != s.f) = true by simpa using he]; rfl
    · refine ⟨_, fun _ _ _ h => h, ?_⟩
      rw [rapply_no, rc_ne, hs]
      refine ⟨fun hc => (by cases hc), fun _ => ?_⟩
      rw [rapply_no2, rt_ne]
      generalize els (els (dTree Try.prog g3 noΛ 100 11 (aST.enc (s, t)) dTE)) = r
      refine ⟨fun hc => ?_, fun hc => absurd (bne_eq_false_iff_eq.1 hc) ht⟩
      show (zT, rtcheck_F t) = applyF s t
      rw [rtcheck_eq]
      unfold applyF; rw [hs, hc]; rfl
/-- The contracts so far. -/
def tab4 : PTab Try.prog := (((tab3.cons 12 (pconP aSS dSE (fun g => thenF g.1 g.2) (fun _ => [])) (conP_ok then_ok puSE)).cons 13 (pconP aSS dSE (fun g => thenF g.1 g.2) (fun _ => [])) (conP_ok rthen_ok puSE)).cons 10 (pconP aST dTE (fun g => applyF g.1 g.2) (fun _ => [])) (conP_ok apply_ok puTE)).cons 11 (pconP aST dTE (fun g => applyF g.1 g.2) (fun _ => [])) (conP_ok rapply_ok puTE)
end Go.Proofs.Ytapmlfklkfgmoaa

/- Chapter 2: All: what its loops carry. -/
namespace Go.Proofs.Ytapmlfklkfgmoaa
open Go.RowKit Go.Sx
abbrev g4 : Gam := tab4.gamz [] []
abbrev GA : Type := List S × Int × Int × Unit × Int × S
def lpAll : LP 2 GA := .pair (.slot 2 15 (.list eS)) (.pair (.slot 2 16 dI) (.pair (.slot 2 17 dI) (.pair (.fix 2 6 (.p 1 0)) (.pair (.slot 2 7 dI) (.obj 2 1 24 eS)))))
abbrev GR : Type := List S × Int × Unit × Int × S
def lpRall : LP 2 GR := .pair (.slot 2 1 (.list eS)) (.pair (.slot 2 8 dI) (.pair (.fix 2 6 (.p 1 0)) (.pair (.slot 2 7 dI) (.obj 2 1 24 eS))))
end Go.Proofs.Ytapmlfklkfgmoaa

/- Chapter 2: a round of All. Printed by treegen.py. -/
namespace Go.Proofs.Ytapmlfklkfgmoaa
open Go.RowKit Go.Sx
set_option maxRecDepth 100000
set_option linter.unusedVariables false
theorem all_round (rd : Option Nat) (T B : List (Nat × SV)) (HL HB : List (Nat × SE)) (ds : List Nat) (l : List S) (n i e : Int) (s : S) : bT Try.prog g4 noΛ 100 14 rd (loopBody Try.prog 14 3) lpAll [] 32 ⟨32, T, ⟨2, HL, HB⟩, [], B⟩ ds (l, n, i, (), e, s) =
  Tr.br (decide (i < n))
    (Tr.ask (0 ≤ i ∧ i < ↑l.length)
      (Tr.br (e != 0)
        (Tr.ask (∀ (e : Nat), e < l.length → eS.Ok (eS.els l e))
          (Tr.ret (Ex.exit 0, eS.lst l.length (eS.els l), n, i, (), e, s)))
        (Tr.ask (∀ (e : Nat), e < l.length → eS.Ok (eS.els l e))
          (Tr.ret
            (Ex.normal, eS.lst l.length (eS.els l), n, IntKind.i64.wrap (i + 1), (),
              (thenF s (l.getD i.toNat eS.dflt)).snd, (thenF s (l.getD i.toNat eS.dflt)).fst)))))
    (Tr.ask (∀ (e : Nat), e < l.length → eS.Ok (eS.els l e))
      (Tr.ret (Ex.exit 0, eS.lst l.length (eS.els l), n, i, (), e, s))) := by kernel_rfl
theorem rall_round (rd : Option Nat) (T B : List (Nat × SV)) (HL HB : List (Nat × SE)) (ds : List Nat) (l : List S) (i e : Int) (s : S) : bT Try.prog g4 noΛ 100 15 rd (loopBody Try.prog 15 3) lpRall [] 35 ⟨35, T, ⟨2, HL, HB⟩, [], B⟩ ds (l, i, (), e, s) =
  Tr.br (decide (i < ↑l.length) && e == 0)
    (Tr.ask (0 ≤ i ∧ i < ↑l.length)
      (Tr.ask (∀ (e : Nat), e < l.length → eS.Ok (eS.els l e))
        (Tr.ret
          (Ex.normal, eS.lst l.length (eS.els l), IntKind.i64.wrap (i + 1), (), (thenF s (l.getD i.toNat eS.dflt)).snd,
            (thenF s (l.getD i.toNat eS.dflt)).fst))))
    (Tr.ask (∀ (e : Nat), e < l.length → eS.Ok (eS.els l e))
      (Tr.ret (Ex.exit 0, eS.lst l.length (eS.els l), i, (), e, s))) := by kernel_rfl
end Go.Proofs.Ytapmlfklkfgmoaa

/- Chapter 2: the loops of All. -/
namespace Go.Proofs.Ytapmlfklkfgmoaa
open Go.RowKit Go.Sx
set_option maxRecDepth 100000
/-- From the i-th on, so many to come. -/
def allRun : Nat → List S → Int → Int → S → Int × Int × S
  | 0, _, i, e, s => (i, e, s)
  | r + 1, l, i, e, s => bif e != 0 then (i, e, s) else allRun r l (i + 1) (thenF s (l.getD i.toNat eS.dflt)).2 (thenF s (l.getD i.toNat eS.dflt)).1
def allG (g : GA) : Tr (Ex × GA) :=
  let x := allRun (g.1.length - g.2.2.1.toNat) g.1 g.2.2.1 g.2.2.2.2.1 g.2.2.2.2.2
  .ret (.exit 0, g.1, g.2.1, x.1, (), x.2.1, x.2.2)
def allInv (g : GA) : List Prop := [g.2.1 = (g.1.length : Int) ∧ 0 ≤ g.2.2.1 ∧ g.2.2.1 ≤ (g.1.length : Int) ∧ g.1.length ≤ maxLen]
noncomputable def allLoop : LCon := loopC (loopBody Try.prog 14 3) lpAll [] 32 allInv allG
theorem noΛ4 : ∀ f k L, noΛ f k = some L → ∀ b ∈ loopsOf Try.prog f, lkey b = k → LoopOk Try.prog b L.g := noΛ_ok
theorem all_one : ((loopsOf Try.prog 14).filter fun c => Nat.beq (lkey c) 3).length = 1 := by kernel_rfl
theorem rall_one : ((loopsOf Try.prog 15).filter fun c => Nat.beq (lkey c) 3).length = 1 := by kernel_rfl
theorem all_loop : ∀ b ∈ loopsOf Try.prog 14, lkey b = 3 → LoopOk Try.prog b allLoop.g := by
  unfold allLoop
  refine loop_ok (P := Try.prog) (Γ := g4) (Λ := noΛ) (tab4.okz [] []) noΛ4 100 14 3 32 lpAll [] allInv allG (fun g => g.1.length - g.2.2.1.toNat) all_one ?_
  rintro rd T B HL HB ds ⟨l, n, i, ⟨⟩, e, s⟩ hi K hK
  obtain ⟨h1, h2, h3, h4⟩ := hi _ (List.mem_cons_self ..)
  simp only at h1 h2 h3 h4
  unfold maxLen at h4
  rw [all_round, eS.lst_els]
  have hok : ∀ e : Nat, e < l.length → eS.Ok (eS.els l e) := fun e _ => eS.ok_els l e
  have hG : K (.exit 0, l, n, (allRun (l.length - i.toNat) l i e s).1, (), (allRun (l.length - i.toNat) l i e s).2.1, (allRun (l.length - i.toNat) l i e s).2.2) := hK
  refine ⟨fun hc => ⟨by have := of_decide_eq_true hc; omega, fun he => ⟨hok, ?_⟩, fun he => ⟨hok, ?_⟩⟩, fun hc => ⟨hok, ?_⟩⟩
  · have hlt : i < n := of_decide_eq_true hc
    obtain ⟨r, hr⟩ : ∃ r, l.length - i.toNat = r + 1 := ⟨l.length - i.toNat - 1, by omega⟩
    rw [hr] at hG
    simp only [allRun, he, cond_true] at hG
    exact hG
  · have hlt : i < n := of_decide_eq_true hc
    obtain ⟨r, hr⟩ : ∃ r, l.length - i.toNat = r + 1 := ⟨l.length - i.toNat - 1, by omega⟩
    rw [hr] at hG
    simp only [allRun, he, cond_false] at hG
    have hw : IntKind.i64.wrap (i + 1) = i + 1 := wr (by omega)
    rw [hw]
    refine ⟨fun p hp => ?_, ?_, ?_⟩
    · simp only [allInv, List.mem_singleton] at hp
      subst hp
      exact ⟨h1, by show (0 : Int) ≤ i + 1; omega, by show i + 1 ≤ (l.length : Int); omega, by unfold maxLen; exact h4⟩
    · show l.length - (i + 1).toNat < l.length - i.toNat
      omega
    · show K _
      have : l.length - (i + 1).toNat = r := by omega
      rw [this]
      exact hG
  · have hge := of_decide_eq_false hc
    have : l.length - i.toNat = 0 := by omega
    rw [this] at hG
    exact hG
def rallG (g : GR) : Tr (Ex × GR) :=
  let x := allRun (g.1.length - g.2.1.toNat) g.1 g.2.1 g.2.2.2.1 g.2.2.2.2
  .ret (.exit 0, g.1, x.1, (), x.2.1, x.2.2)
def rallInv (g : GR) : List Prop := [0 ≤ g.2.1 ∧ g.2.1 ≤ (g.1.length : Int) ∧ g.1.length ≤ maxLen]
noncomputable def rallLoop : LCon := loopC (loopBody Try.prog 15 3) lpRall [] 35 rallInv rallG
set_option maxHeartbeats 2000000 in
theorem rall_loop : ∀ b ∈ loopsOf Try.prog 15, lkey b = 3 → LoopOk Try.prog b rallLoop.g := by
  unfold rallLoop
  refine loop_ok (P := Try.prog) (Γ := g4) (Λ := noΛ) (tab4.okz [] []) noΛ4 100 15 3 35 lpRall [] rallInv rallG (fun g => g.1.length - g.2.1.toNat) rall_one ?_
  rintro rd T B HL HB ds ⟨l, i, ⟨⟩, e, s⟩ hi K hK
  obtain ⟨h2, h3, h4⟩ := hi _ (List.mem_cons_self ..)
  simp only at h2 h3 h4
  unfold maxLen at h4
  rw [rall_round, eS.lst_els]
  have hok : ∀ e : Nat, e < l.length → eS.Ok (eS.els l e) := fun e _ => eS.ok_els l e
  have hG : K (.exit 0, l, (allRun (l.length - i.toNat) l i e s).1, (), (allRun (l.length - i.toNat) l i e s).2.1, (allRun (l.length - i.toNat) l i e s).2.2) := hK
  refine ⟨fun hc => ?_, fun hc => ⟨hok, ?_⟩⟩
  · simp only [Bool.and_eq_true, decide_eq_true_eq, beq_iff_eq] at hc
    obtain ⟨hlt, he⟩ := hc
    subst he
    refine ⟨by omega, hok, ?_⟩
    obtain ⟨r, hr⟩ : ∃ r, l.length - i.toNat = r + 1 := ⟨l.length - i.toNat - 1, by omega⟩
    rw [hr] at hG
    have hz : ((0 : Int) != 0) = false := rfl
    simp only [allRun, hz, cond_false] at hG
    have hw : IntKind.i64.wrap (i + 1) = i + 1 := wr (by omega)
    rw [hw]
    refine ⟨fun p hp => ?_, ?_, ?_⟩
    · simp only [rallInv, List.mem_singleton] at hp
      subst hp
      exact ⟨by show (0 : Int) ≤ i + 1; omega, by show i + 1 ≤ (l.length : Int); omega, by unfold maxLen; exact h4⟩
    · show l.length - (i + 1).toNat < l.length - i.toNat
      omega
    · show K _
      have : l.length - (i + 1).toNat = r := by omega
      rw [this]
      exact hG
  · have hout : allRun (l.length - i.toNat) l i e s = (i, e, s) := by
      by_cases hlt : i < (l.length : Int)
      · obtain ⟨r, hr⟩ : ∃ r, l.length - i.toNat = r + 1 := ⟨l.length - i.toNat - 1, by omega⟩
        rw [hr]
        have he : (e != 0) = true := by
          cases h : e == 0 with
          | true => rw [h] at hc; simp [hlt] at hc
          | false => simp [bne, h]
        simp only [allRun, he, cond_true]
      · have : l.length - i.toNat = 0 := by omega
        rw [this]; rfl
    rw [hout] at hG
    exact hG
noncomputable def lt1 : LTab Try.prog := (LTab.nil.cons 14 3 allLoop all_loop).cons 15 3 rallLoop rall_loop
noncomputable abbrev lam1 : Lam := lt1.lam
theorem lam1_ok : ∀ f k L, lam1 f k = some L → ∀ b ∈ loopsOf Try.prog f, lkey b = k → LoopOk Try.prog b L.g := lt1.ok
abbrev dLS : Dv (List S) := .list eS
abbrev aIL : DA (Int × List S) := .cons dI (.one dLS)
end Go.Proofs.Ytapmlfklkfgmoaa

/- Chapter 2: All. Printed by treegen.py. -/
namespace Go.Proofs.Ytapmlfklkfgmoaa
open Go.RowKit Go.Sx
set_option maxRecDepth 100000
set_option linter.unusedVariables false
def all_F (d : Int) (l : List S) : Dv.T dSE :=
  ((allRun ((eS.lst l.length (eS.els l)).length - (0 : Nat)) (eS.lst l.length (eS.els l)) (0 : Int) (id_F d).snd
          (id_F d).fst).snd.snd,
    (allRun ((eS.lst l.length (eS.els l)).length - (0 : Nat)) (eS.lst l.length (eS.els l)) (0 : Int) (id_F d).snd
          (id_F d).fst).snd.fst)
def all_side (d : Int) (l : List S) : Prop :=
  (∀ (e : Nat), e < l.length → eS.Ok (eS.els l e)) ∧
    (↑l.length : Int) = (↑(eS.lst l.length (eS.els l)).length : Int) ∧
      (0 : Int) ≤ (0 : Int) ∧
        (0 : Int) ≤ (↑(eS.lst l.length (eS.els l)).length : Int) ∧ (eS.lst l.length (eS.els l)).length ≤ maxLen
theorem all_okS (pre : DA.T aIL → List Prop) (h : ∀ g, DA.bd aIL g → (∀ p ∈ pre g, p) → all_side g.1 g.2) : FnPure Try.prog 14 aIL dSE (fun g => all_F g.1 g.2) pre := pure_of_sideS (Γ := (PTab.gamz tab4 [] [])) (Λ := lam1) (PTab.okz tab4 [] []) lam1_ok 100 default (fun g => all_side g.1 g.2) (fun g => by kernel_rfl) (fun g => by kernel_rfl) h
def rall_F (d : Int) (l : List S) : Dv.T dSE :=
  ((allRun ((eS.lst l.length (eS.els l)).length - (0 : Nat)) (eS.lst l.length (eS.els l)) (0 : Int) (rid_F d).snd
          (rid_F d).fst).snd.snd,
    (allRun ((eS.lst l.length (eS.els l)).length - (0 : Nat)) (eS.lst l.length (eS.els l)) (0 : Int) (rid_F d).snd
          (rid_F d).fst).snd.fst)
def rall_side (d : Int) (l : List S) : Prop :=
  (∀ (e : Nat), e < l.length → eS.Ok (eS.els l e)) ∧
    (0 : Int) ≤ (0 : Int) ∧
      (0 : Int) ≤ (↑(eS.lst l.length (eS.els l)).length : Int) ∧ (eS.lst l.length (eS.els l)).length ≤ maxLen
theorem rall_okS (pre : DA.T aIL → List Prop) (h : ∀ g, DA.bd aIL g → (∀ p ∈ pre g, p) → rall_side g.1 g.2) : FnPure Try.prog 15 aIL dSE (fun g => rall_F g.1 g.2) pre := pure_of_sideS (Γ := (PTab.gamz tab4 [] [])) (Λ := lam1) (PTab.okz tab4 [] []) lam1_ok 100 default (fun g => rall_side g.1 g.2) (fun g => by kernel_rfl) (fun g => by kernel_rfl) h
def tab4x : PTab Try.prog := tab4
end Go.Proofs.Ytapmlfklkfgmoaa

/- Chapter 2: All: the contracts; the steps. -/
namespace Go.Proofs.Ytapmlfklkfgmoaa
open Go.RowKit Go.Sx
def allF (d : Int) (l : List S) : S × Int := ((allRun l.length l 0 (id_F d).2 (id_F d).1).2.2, (allRun l.length l 0 (id_F d).2 (id_F d).1).2.1)
theorem all_ok : FnPure Try.prog 14 aIL dSE (fun g => allF g.1 g.2) (fun _ => []) := by
  have h := all_okS (fun _ => []) (fun g hb _ => by
    obtain ⟨_, hl, _⟩ := hb
    unfold all_side
    rw [eS.lst_els]
    exact ⟨fun e _ => eS.ok_els _ e, rfl, Int.le_refl _, Int.natCast_nonneg _, hl⟩)
  have e : (fun g : DA.T aIL => all_F g.1 g.2) = fun g : DA.T aIL => allF g.1 g.2 := by
    funext g
    unfold all_F allF
    rw [eS.lst_els]
    rfl
  rw [e] at h
  exact h
theorem rid_eq (d : Int) : rid_F d = id_F d := by
  unfold rid_F id_F
  rw [rc_ne]
  by_cases h : 0 ≤ d ∧ d ≤ 4
  · rw [(may_iff _).2 (by unfold S.Ok; simp; omega), show (decide (d < 0) || decide (d > 4)) = false by simp; omega]
    rfl
  · rw [may_false (by unfold S.Ok; simp; omega), show (decide (d < 0) || decide (d > 4)) = true by simp; omega]
    rfl
theorem rall_ok : FnPure Try.prog 15 aIL dSE (fun g => allF g.1 g.2) (fun _ => []) := by
  have h := rall_okS (fun _ => []) (fun g hb _ => by
    obtain ⟨_, hl, _⟩ := hb
    unfold rall_side
    rw [eS.lst_els]
    exact ⟨fun e _ => eS.ok_els _ e, Int.le_refl _, Int.natCast_nonneg _, hl⟩)
  have e : (fun g : DA.T aIL => rall_F g.1 g.2) = fun g : DA.T aIL => allF g.1 g.2 := by
    funext g
    unfold rall_F allF
    rw [eS.lst_els, rid_eq]
    rfl
  rw [e] at h
  exact h
def tab5 : PTab Try.prog := (tab4.cons 14 (pconP aIL dSE (fun g => allF g.1 g.2) (fun _ => [])) (conP_ok all_ok puSE)).cons 15 (pconP aIL dSE (fun g => allF g.1 g.2) (fun _ => [])) (conP_ok rall_ok puSE)
abbrev aLS : DA (List S) := .one dLS
abbrev aLaw1 : DA (S × S × T × Int × List S) := .cons dS (.cons dS (.cons dT (.cons dI (.one dLS))))
end Go.Proofs.Ytapmlfklkfgmoaa

/- From what a statement reads of its arguments to known values. -/
namespace Go.Sx
open Go.RowKit Go.ChangeShapes Go.WideShapes Go.ChangeAt Go.Deep

theorem add_none (b o n : Nat) : (⟨b, o, none⟩ : Addr).add n = ⟨b, o + n, none⟩ := by
  by_cases h : n = 0
  · subst h; simp [Addr.add]
  · simp [Addr.add, h]
abbrev wh (w : World) : Rh := emp fun b => w.heap[b]?
/-- Cells of that type are plain data. -/
def Rd {α : Type} (P : Program) (t : TypeId) (A : El α) (Q : α → Prop) : Prop :=
  ∀ (H : Type) (enc : TypeId × Value → H) (w : World) (base : Nat) (spare : Nat → Bool) (held : Bool) (fuel : Nat) (cs : List Value) (x : DataW H × List MemPlace),
    DataW.trod enc P w base spare held fuel t cs = some x → ∃ a, Q a ∧ SV.fits 0 (wh w) (A.cells a) cs
section
variable {H : Type} (enc : TypeId × Value → H) (P : Program) (w : World) (base : Nat) (spare : Nat → Bool) (held : Bool) (fuel : Nat)
def Cut : List TypeId → List Value → Prop
  | [], cs => cs = []
  | t :: ts, cs => (∃ x, DataW.trod enc P w base spare held fuel t (cs.take (P.cellsOf t)) = some x) ∧ Cut ts (cs.drop (P.cellsOf t))
def consec : Nat → List (Nat × TypeId) → Nat → Bool
  | o, [], n => Nat.beq o n
  | o, p :: r, n => Nat.beq p.1 o && consec (o + P.cellsOf p.2) r n
theorem cut_of (cs : List Value) : ∀ (fs : List (Nat × TypeId)) (o : Nat), consec P o fs cs.length = true → (∀ p ∈ fs, ∃ x, DataW.trod enc P w base spare held fuel p.2 ((cs.drop p.1).take (P.cellsOf p.2)) = some x) → Cut enc P w base spare held fuel (fs.map (·.2)) (cs.drop o)
  | [], o, hc, _ => by
    have := beq_of hc
    show cs.drop o = []
    exact List.drop_eq_nil_of_le (by omega)
  | p :: r, o, hc, h => by
    simp only [consec, Bool.and_eq_true] at hc
    have h0 := beq_of hc.1
    refine ⟨?_, ?_⟩
    · have := h p (List.mem_cons_self ..)
      rwa [h0] at this
    · have := cut_of cs r (o + P.cellsOf p.2) hc.2 fun q hq => h q (List.mem_cons_of_mem _ hq)
      rwa [List.drop_drop]
end
def Rds {α : Type} (P : Program) (ts : List TypeId) (A : El α) (Q : α → Prop) : Prop :=
  ∀ (H : Type) (enc : TypeId × Value → H) (w : World) (base : Nat) (spare : Nat → Bool) (held : Bool) (fuel : Nat) (cs : List Value),
    Cut enc P w base spare held fuel ts cs → ∃ a, Q a ∧ SV.fits 0 (wh w) (A.cells a) cs
section
variable {P : Program} {t e : TypeId} {α β : Type} {A : El α} {B : El β} {Q : α → Prop} {Q' : β → Prop}
theorem rds_one (h : Rd P t A Q) : Rds P [t] A Q := fun H enc w base spare held fuel cs hc => by
  obtain ⟨⟨x, hx⟩, hd⟩ := hc
  have hd : cs.drop (P.cellsOf t) = [] := hd
  have h2 := List.take_append_drop (P.cellsOf t) cs
  rw [hd, List.append_nil] at h2
  rw [h2] at hx
  exact h H enc w base spare held fuel cs x hx
theorem rds_cons {ts : List TypeId} (h : Rd P t A Q) (h' : Rds P ts B Q') : Rds P (t :: ts) (.pair A B) (fun a => Q a.1 ∧ Q' a.2) := fun H enc w base spare held fuel cs hc => by
  obtain ⟨⟨x, hx⟩, hd⟩ := hc
  obtain ⟨a, qa, fa⟩ := h H enc w base spare held fuel _ x hx
  obtain ⟨b, qb, fb⟩ := h' H enc w base spare held fuel _ hd
  refine ⟨(a, b), ⟨qa, qb⟩, ?_⟩
  have := fits_append fa fb
  rwa [List.take_append_drop] at this
theorem rd_iso (h : Rd P t A Q) (f : α → β) (g : β → α) (hfg : ∀ b, f (g b) = b) (hgf : ∀ a, g (f a) = a) : Rd P t (A.iso f g hfg hgf) (fun b => Q (g b)) := fun H enc w base spare held fuel cs x hx => by
  obtain ⟨a, qa, fa⟩ := h H enc w base spare held fuel cs x hx
  refine ⟨f a, (show Q (g (f a)) by rwa [hgf]), ?_⟩
  show SV.fits 0 _ (A.cells (g (f a))) cs
  rwa [hgf]
theorem rd_int {k : IntKind} (ht : P.underlying t = some (.int k)) : Rd P t (eInt k) (fun n => (Lit.int k n).wf = true) := fun H enc w base spare held fuel cs x hx => by
  obtain ⟨n, rfl, _, hw⟩ := DataW.trod_int ht hx
  exact ⟨n, hw, by simp [eInt, El.one', dInt, SV.fits, SV.fit]⟩
theorem rd_struct {fs : Array Field} {ts : List TypeId} (ht : P.underlying t = some (.struct fs)) (hts : fs.toList.map (·.type) = ts) (hc : consec P 0 (fs.toList.map fun f => (f.offset, f.type)) (P.cellsOf t) = true) (h : Rds P ts A Q) : Rd P t A Q := fun H enc w base spare held fuel cs x hx => by
  obtain ⟨xs, n, rfl, _, hl, hxl, hf⟩ := DataW.trod_struct ht hx
  rw [← hl] at hc
  have := cut_of enc P w base spare held n cs _ 0 hc fun p hp => by
    obtain ⟨f, hfm, rfl⟩ := List.mem_map.1 hp
    obtain ⟨i, hi, rfl⟩ := List.getElem_of_mem hfm
    have hi' : i < fs.size := by simpa using hi
    have := hf i fs[i] (by simp [hi'])
    exact ⟨xs[i]'(by omega), by simpa [hxl, hi'] using this⟩
  rw [List.map_map, List.drop_zero] at this
  refine h H enc w base spare held n cs ?_
  rw [← hts]
  exact this
theorem rd_array {n : Nat} {ts : List TypeId} (ht : P.underlying t = some (.array n e)) (hts : ((List.range n).map fun _ => e) = ts) (hc : consec P 0 ((List.range n).map fun i => (i * P.cellsOf e, e)) (P.cellsOf t) = true) (h : Rds P ts A Q) : Rd P t A Q := fun H enc w base spare held fuel cs x hx => by
  obtain ⟨xs, m, rfl, _, hl, hxl, hf⟩ := DataW.trod_array ht hx
  rw [← hl] at hc
  have := cut_of enc P w base spare held m cs _ 0 hc fun p hp => by
    obtain ⟨i, hi, rfl⟩ := List.mem_map.1 hp
    have hi' : i < n := by simpa using hi
    have := hf i hi'
    exact ⟨xs[i]'(by omega), by rw [this]; simp [hxl, hi']⟩
  rw [List.map_map, List.drop_zero] at this
  refine h H enc w base spare held m cs ?_
  rw [← hts]
  exact this
end
/-- An argument is plain data. -/
def RdV {α : Type} (P : Program) (t : TypeId) (D : Dv α) (Q : α → Prop) : Prop :=
  ∀ (H : Type) (enc : TypeId × Value → H) (w : World) (base : Nat) (spare : Nat → Bool) (held : Bool) (r : Reach) (b0 : Nat) (v : Value) (d : DataW H) (ps : List MemPlace),
    Value.okWide P w r b0 t v → DataW.Trod enc P w base spare held t v d ps → ∃ a, Q a ∧ (D.enc a).fit 0 (wh w) v
section
variable {P : Program} {t e : TypeId} {α β : Type} {A : El α} {Q : α → Prop}
theorem rdv_int {k : IntKind} (ht : P.underlying t = some (.int k)) : RdV P t (dInt k) (fun n => (Lit.int k n).wf = true) := fun H enc w base spare held r b0 v d ps hv hx => by
  obtain ⟨n, rfl, _, _, hw⟩ := open_int ht hv hx
  exact ⟨n, hw, by simp [dInt, SV.fit]⟩
theorem rdv_struct {fs : Array Field} (ht : P.underlying t = some (.struct fs)) (h : Rd P t A Q) : RdV P t (.agg A) Q := fun H enc w base spare held r b0 v d ps hv hx => by
  obtain ⟨cs, rfl, _⟩ := okWide_struct ht hv
  obtain ⟨fuel, hf⟩ := hx
  obtain ⟨a, qa, fa⟩ := h H enc w base spare held fuel _ _ hf
  exact ⟨a, qa, cs.toList, by simp, by simpa [Value.cells] using fa⟩
theorem rdv_slice (ht : P.underlying t = some (.slice e)) (hs : P.cellsOf e = A.sz) (hz : 0 < A.sz) (h : Rd P e A Q) : RdV P t (.list A) (fun xs => ∀ a ∈ xs, Q a) := fun H enc w base spare held r b0 v d ps hv hx => by
  obtain ⟨a0, len0, cap0, rfl⟩ := okWide_slice ht hv
  obtain ⟨fuel, hf⟩ := hx
  rcases open_slice ht hf with ⟨hcs, _⟩ | ⟨a, len, cap, m, n, D, Pl, hcs, hb, hl, hm, hmm, _, hel⟩
  · simp [Value.cells] at hcs
    obtain ⟨rfl, rfl, rfl⟩ := hcs
    exact ⟨[], by simp, rs_nil _ _⟩
  · simp [Value.cells] at hcs
    obtain ⟨rfl, rfl, rfl⟩ := hcs
    have hle : len0 ≤ m := by subst hmm; split <;> omega
    have key : ∀ i, i < len0 → ∃ x : α, Q x ∧ ∃ cs', cs'.length = A.sz ∧ SV.fits 0 (wh w) (A.cells x) cs' ∧ ∀ j, j < A.sz → w.cell? ((a.add (i * A.sz)).add j) = cs'[j]? := fun i hi => by
      obtain ⟨cs', h1, h2⟩ := hel i (by omega)
      obtain ⟨x, qx, fx⟩ := h H enc w base spare held n cs' _ h2
      rw [hs] at h1
      obtain ⟨_, h3, h4⟩ := World.cells?_some h1
      exact ⟨x, qx, cs', h3, fx, h4⟩
    haveI : Inhabited α := ⟨A.dflt⟩
    obtain ⟨f, hf⟩ := choose_lt (α := α) (fun i hi => key i hi)
    refine ⟨(List.range len0).map f, ?_, ?_⟩
    · intro x hx
      obtain ⟨i, hi, rfl⟩ := List.mem_map.1 hx
      exact (hf i (by simpa using hi)).1
    · simp only [Dv.list, SV.fit]
      refine ⟨some a, cap0, by simp, by simpa using hl, hm, fun hpos => ?_⟩
      have hpos : 0 < len0 := by simpa using hpos
      obtain ⟨_, cs0, q1, q2, q3⟩ := hf 0 hpos
      have q4 := q3 0 hz
      obtain ⟨b, o, spot⟩ := a
      have hsome : ∃ v0, cs0[0]? = some v0 := ⟨cs0[0]'(by omega), by simp⟩
      obtain ⟨v0, hv0⟩ := hsome
      rw [hv0] at q4
      have hspot : spot = none := by simpa [Addr.add] using World.cell?_spot q4
      subst hspot
      have hblk : ∃ cs t fz, w.heap[b]? = some (.cells cs t fz) := by
        simp only [add_none, World.cell?] at q4
        split at q4
        · rename_i c _ _ hh
          exact ⟨_, _, _, hh⟩
        · cases q4
      obtain ⟨cs, t', fz, hh⟩ := hblk
      refine ⟨b, o, cs, t', fz, rfl, hh, fun i hi => ?_⟩
      have hi : i < len0 := by simpa using hi
      obtain ⟨_, cs', k1, k2, k3⟩ := hf i hi
      refine ⟨cs', k1, ?_, fun j v hjv => ?_⟩
      · simpa [El.els, List.getD_eq_getElem?_getD, hi] using k2
      · have hj : j < A.sz := by
          have := (List.getElem?_eq_some_iff.1 hjv).1
          omega
        have := k3 j hj
        rw [hjv] at this
        simp only [add_none, World.cell?, hh] at this
        simpa using this
end
end Go.Sx

/- Chapter 2: what the rows read of their arguments. -/
namespace Go.Proofs.Ytapmlfklkfgmoaa
open Go.RowKit Go.Sx

def W1 (n : Int) : Prop := (Lit.int .i64 n).wf = true
def W4 (a : I4) : Prop := W1 a.1 ∧ W1 a.2.1 ∧ W1 a.2.2.1 ∧ W1 a.2.2.2
def W8 (a : I8) : Prop := W1 a.1 ∧ W1 a.2.1 ∧ W1 a.2.2.1 ∧ W1 a.2.2.2.1 ∧ W4 a.2.2.2.2
def W6 (a : I6) : Prop := W1 a.1 ∧ W1 a.2.1 ∧ W4 a.2.2
def S.W (s : S) : Prop := W8 s.toP
def T.W (t : T) : Prop := W6 t.toP
theorem rd2 : Rd Try.prog 2 eI W1 := rd_int Try.underlying2
theorem rd3 : Rd Try.prog 3 eI W1 := rd_int Try.underlying3
theorem rd22 : Rd Try.prog 22 e4 W4 := rd_array (ts := [2, 2, 2, 2]) Try.underlying22 rfl (by kernel_rfl) (rds_cons rd2 (rds_cons rd2 (rds_cons rd2 (rds_one rd2))))
theorem rd24 : Rd Try.prog 24 eS S.W := rd_iso (Q := W8) (rd_struct (ts := [3, 3, 2, 3, 22]) Try.underlying24 rfl (by kernel_rfl) (rds_cons rd3 (rds_cons rd3 (rds_cons rd2 (rds_cons rd3 (rds_one rd22)))))) _ _ _ _
theorem rd26 : Rd Try.prog 26 eT T.W := rd_iso (Q := W6) (rd_struct (ts := [2, 3, 22]) Try.underlying26 rfl (by kernel_rfl) (rds_cons rd2 (rds_cons rd3 (rds_one rd22)))) _ _ _ _
theorem rdvI : RdV Try.prog 3 dI W1 := rdv_int Try.underlying3
theorem rdvU : RdV Try.prog 5 (dInt .u8) (fun n => (Lit.int .u8 n).wf = true) := rdv_int Try.underlying5
theorem rdvS : RdV Try.prog 24 dS S.W := rdv_struct Try.underlying24 rd24
theorem rdvT : RdV Try.prog 26 dT T.W := rdv_struct Try.underlying26 rd26
theorem rdvLS : RdV Try.prog 27 dLS (fun l => ∀ s ∈ l, S.W s) := rdv_slice Try.underlying27 (by kernel_rfl) (by decide) rd24
end Go.Proofs.Ytapmlfklkfgmoaa

/- Chapter 2: what the laws share. Printed by treegen.py. -/
namespace Go.Proofs.Ytapmlfklkfgmoaa
open Go.RowKit Go.Sx
set_option maxRecDepth 100000
set_option linter.unusedVariables false
def few_F (l : List S) : Dv.T dLS :=
  eS.lst
    (List.foldl
        (fun a x => bif false then if x.snd.snd > a then x.snd.snd else a else if x.snd.snd < a then x.snd.snd else a)
        (↑l.length : Int) [(true, IntKind.i64, (40 : Int))]).toNat
    (eS.els l)
def few_side (l : List S) : Prop :=
  ((0 : Int) ≤
        List.foldl
          (fun a x => bif false then if x.snd.snd > a then x.snd.snd else a else if x.snd.snd < a then x.snd.snd else a)
          (↑l.length : Int) [(true, IntKind.i64, (40 : Int))] ∧
      List.foldl
          (fun a x => bif false then if x.snd.snd > a then x.snd.snd else a else if x.snd.snd < a then x.snd.snd else a)
          (↑l.length : Int) [(true, IntKind.i64, (40 : Int))] ≤
        (↑l.length : Int)) ∧
    ∀ (e : Nat),
      e <
          (List.foldl
              (fun a x =>
                bif false then if x.snd.snd > a then x.snd.snd else a else if x.snd.snd < a then x.snd.snd else a)
              (↑l.length : Int) [(true, IntKind.i64, (40 : Int))]).toNat →
        eS.Ok (eS.els l e)
theorem few_okS (pre : DA.T aLS → List Prop) (h : ∀ g, DA.bd aLS g → (∀ p ∈ pre g, p) → few_side g) : FnPure Try.prog 9 aLS dLS (fun g => few_F g) pre := pure_of_sideS (Γ := (PTab.gamz tab5 [] [])) (Λ := noΛ) (PTab.okz tab5 [] []) noΛ_ok 100 default (fun g => few_side g) (fun g => by kernel_rfl) (fun g => by kernel_rfl) h
def tab6x : PTab Try.prog := tab5
end Go.Proofs.Ytapmlfklkfgmoaa

/- Chapter 2: few. -/
namespace Go.Proofs.Ytapmlfklkfgmoaa
open Go.RowKit Go.Sx
theorem few_min (n : Nat) : (List.foldl (fun a x => bif false then if x.snd.snd > a then x.snd.snd else a else if x.snd.snd < a then x.snd.snd else a) (↑n : Int) [(true, IntKind.i64, (40 : Int))]) = ((min n 40 : Nat) : Int) := by
  simp only [List.foldl_cons, List.foldl_nil, cond_false]
  split <;> omega
theorem few_ok : FnPure Try.prog 9 aLS dLS (fun l => l.take 40) (fun _ => []) := by
  have h := few_okS (fun _ => []) (fun g hb _ => by
    unfold few_side
    rw [few_min]
    exact ⟨⟨by omega, by omega⟩, fun e _ => eS.ok_els _ e⟩)
  have e : (fun g : DA.T aLS => few_F g) = fun g : DA.T aLS => List.take 40 g := by
    funext g
    unfold few_F
    rw [few_min, Int.toNat_natCast, eS.lst_take _ _ (by omega), Nat.min_comm]
    exact (List.take_eq_take_min ..).symm
  rw [e] at h
  exact h
def tab6a : PTab Try.prog := tab5.cons 9 (pconR aLS dLS (fun l => l.take 40) (fun _ => [])) (conR_ok few_ok)
end Go.Proofs.Ytapmlfklkfgmoaa

/- Chapter 2: begun. -/
namespace Go.Sx
section
variable {α : Type} (A : El α)
def okAll (n : Nat) (el : Nat → List SV) : Bool := (List.range n).all fun e => match A.decs (el e) with
  | some (_, []) => true
  | _ => false
variable {A}
theorem okAll_ok {n : Nat} {el : Nat → List SV} (h : okAll A n el = true) : ∀ e, e < n → A.Ok (el e) := fun e he => by
  have := List.all_eq_true.1 h e (by simpa using he)
  split at this
  · rename_i a hd
    exact ⟨a, [], hd, by simp⟩
  · cases this
end
/-- As Dv.list, where the elements are looked at one by one. -/
def Dv.listB {α : Type} (A : El α) : Dv (List α) where
  dec s := match s with
    | .rs sz n el => bif Nat.beq sz A.sz && okAll A n el then some (A.lst n el, []) else none
    | _ => none
  enc := (Dv.list A).enc
  bd := (Dv.list A).bd
  cl := (Dv.list A).cl
  ok s a ps n ρ x hd hp hf := by
    split at hd
    · rename_i sz m el
      cases hb : (Nat.beq sz A.sz && okAll A m el) with
      | false => rw [hb] at hd; cases hd
      | true =>
        rw [hb] at hd
        simp only [cond_true, Option.some.injEq, Prod.mk.injEq] at hd
        obtain ⟨rfl, rfl⟩ := hd
        simp only [Bool.and_eq_true] at hb
        exact (Dv.list A).ok (.rs sz m el) _ [∀ e, e < m → A.Ok (el e)] n ρ x (by simp [Dv.list, hb.1]) (by
          intro p hp
          simp only [List.mem_singleton] at hp
          subst hp
          exact okAll_ok hb.2) hf
    · cases hd
  fb := (Dv.list A).fb
def Tr.sure {α : Type} : Tr α → Bool
  | .ret _ => true
  | .br c a b => bif c then a.sure else b.sure
  | _ => false
theorem Tr.sure_holds {α : Type} (d : α) : ∀ {t : Tr α}, t.sure = true → t.Holds (· = t.ev d)
  | .ret _, _ => rfl
  | .br true a b, h => ⟨fun _ => Tr.sure_holds d (t := a) h, fun h => by cases h⟩
  | .br false a b, h => ⟨fun h => (by cases h), fun _ => Tr.sure_holds d (t := b) h⟩
end Go.Sx
namespace Go.Proofs.Ytapmlfklkfgmoaa
open Go.RowKit Go.Sx
abbrev aILB : DA (Int × List S) := .cons dI (.one (.listB eS))
theorem all_okB : FnPure Try.prog 14 aILB dSE (fun g => allF g.1 g.2) (fun _ => []) := all_ok
def tab5b : PTab Try.prog := tab4.cons 14 (pconP aILB dSE (fun g => allF g.1 g.2) (fun _ => [])) (conP_ok all_okB puSE)
set_option maxRecDepth 100000
theorem begun_ev : (dTree Try.prog (PTab.gamz tab5b [] []) noΛ 100 16 (DA.enc .none ()) dBool).ev false = true := by kernel_rfl
theorem begun_sure : (dTree Try.prog (PTab.gamz tab5b [] []) noΛ 100 16 (DA.enc .none ()) dBool).sure = true := by kernel_rfl
theorem begun_ok : FnPure Try.prog 16 .none dBool (fun _ => true) (fun _ => []) := pure_of_tree (PTab.okz tab5b [] []) noΛ_ok 100 fun g _ _ => by
  have h := Tr.sure_holds false begun_sure
  rw [begun_ev] at h
  exact h
def tab6 : PTab Try.prog := tab6a.cons 16 (pconP .none dBool (fun _ => true) (fun _ => [])) (conP_ok begun_ok puB)
end Go.Proofs.Ytapmlfklkfgmoaa

/- Chapter 2: Leq, counter by counter: the contracts of both sides. -/
namespace Go.Proofs.Ytapmlfklkfgmoaa
open Go.RowKit Go.Sx
set_option maxRecDepth 100000
/-- What comes of a counter: it stays and something is added, or a number comes. -/
abbrev C := Bool × Int
abbrev CZ := Bool × Bool × Int
def symZ (s : S) (k n : Nat) : List CZ :=
  (match k with
    | 0 => []
    | j + 1 => List.replicate j (true, true, (0 : Int)) ++ [(true, false, s.a)]) ++ (s.p.take n).map fun x => (false, false, x)
def symC (s : S) (k n : Nat) : List C :=
  (match k with
    | 0 => []
    | j + 1 => List.replicate j (true, (0 : Int)) ++ [(true, s.a)]) ++ (s.p.take n).map fun x => (false, x)
def leqT : List CZ → List CZ → Tr Bool
  | (s, z, n) :: r, (s', z', m) :: r' => bif s && !s' then .br (m != 1048576) (.ret false) (leqT r r') else bif z && z' then leqT r r' else .br (decide (n > m)) (.ret false) (leqT r r')
  | _, _ => .ret true
def rleqT : List CZ → List CZ → Tr Bool
  | (s, z, n) :: r, (s', z', m) :: r' => bif s && !s' then .br (!m == 1048576) (.ret false) (rleqT r r') else bif z && z' then rleqT r r' else .br (!decide (n ≤ m)) (.ret false) (rleqT r r')
  | _, _ => .ret true
def le1 (x y : C) : Bool := bif x.1 && !y.1 then y.2 == 1048576 else decide (x.2 ≤ y.2)
def leB : List C → List C → Bool
  | x :: r, y :: r' => le1 x y && leB r r'
  | _, _ => true
def S.sym (s : S) : List C := symC s s.k.toNat s.n.toNat
def leqC (a b : S) : Bool := may_F a && (may_F b && (a.f == b.f && (a.k + a.n == b.k + b.n && leB a.sym b.sym)))
def unZ (x : CZ) : C := (x.1, x.2.2)
def ZOk (l : List CZ) : Prop := ∀ x ∈ l, x.2.1 = true → x.2.2 = 0
theorem leqT_holds : ∀ (l l' : List CZ), ZOk l → ZOk l' → (leqT l l').Holds (· = leB (l.map unZ) (l'.map unZ))
  | [], [], _, _ => rfl
  | [], _ :: _, _, _ => rfl
  | _ :: _, [], _, _ => rfl
  | (s, z, n) :: r, (s', z', m) :: r', h, h' => by
    have ih := leqT_holds r r' (fun x hx => h x (List.mem_cons_of_mem _ hx)) (fun x hx => h' x (List.mem_cons_of_mem _ hx))
    simp only [leqT, List.map_cons, leB, unZ, le1]
    cases hs : (s && !s') with
    | true =>
      simp only [cond_true]
      refine ⟨fun hc => ?_, fun hc => ?_⟩
      · show false = _
        rw [show (m == 1048576) = false by simpa [bne] using hc]; rfl
      · rw [show (m == 1048576) = true by simpa [bne] using hc]; simpa using ih
    | false =>
      simp only [cond_false]
      cases hz : (z && z') with
      | true =>
        simp only [Bool.and_eq_true] at hz
        have h1 := h _ (List.mem_cons_self ..) hz.1
        have h2 := h' _ (List.mem_cons_self ..) hz.2
        simp only at h1 h2
        subst h1; subst h2
        simpa using ih
      | false =>
        simp only [cond_false]
        refine ⟨fun hc => ?_, fun hc => ?_⟩
        · show false = _
          rw [decide_eq_false (by have := of_decide_eq_true hc; omega)]; rfl
        · rw [decide_eq_true (p := n ≤ m) (by have := of_decide_eq_false hc; omega)]; simpa using ih
theorem rleqT_eq : ∀ (l l' : List CZ), (rleqT l l').Holds (· = leB (l.map unZ) (l'.map unZ)) ↔ (leqT l l').Holds (· = leB (l.map unZ) (l'.map unZ)) := fun l l' => by
  have : rleqT l l' = leqT l l' := by
    induction l generalizing l' with
    | nil => cases l' <;> rfl
    | cons x r ih =>
      obtain ⟨s, z, n⟩ := x
      cases l' with
      | nil => rfl
      | cons y r' =>
        obtain ⟨s', z', m⟩ := y
        simp only [rleqT, leqT, ih]
        have e1 : (!m == 1048576) = (m != 1048576) := rfl
        have e2 : (!decide (n ≤ m)) = decide (n > m) := by
          by_cases h : n ≤ m
          · rw [decide_eq_true h, decide_eq_false (by omega)]; rfl
          · rw [decide_eq_false h, decide_eq_true (by omega)]; rfl
        rw [e1, e2]
  rw [this]
theorem zok_sym (s : S) (k n : Nat) : ZOk (symZ s k n) := by
  intro x hx hz
  unfold symZ at hx
  rcases List.mem_append.1 hx with h | h
  · cases k with
    | zero => simp at h
    | succ j =>
      simp only [List.mem_append, List.mem_replicate, List.mem_singleton] at h
      rcases h with ⟨_, rfl⟩ | rfl
      · rfl
      · cases hz
  · obtain ⟨y, _, rfl⟩ := List.mem_map.1 h
    cases hz
theorem unZ_sym (s : S) (k n : Nat) : (symZ s k n).map unZ = symC s k n := by
  unfold symZ symC
  cases k <;> simp [unZ, Function.comp_def]
abbrev g1 : Gam := tab1.gamz [] [(20, 0, 5), (66, 0, 5), (39, 4, 5)]
def leqTr (a b : S) (k n k' n' : Nat) : Tr Bool :=
  .br (!may_F (litS a k n) || (!may_F (litS b k' n') || a.f != b.f)) (.ret false) (leqT (symZ a k n) (symZ b k' n'))
def rleqTr (a b : S) (k n k' n' : Nat) : Tr Bool :=
  .br (rcheck_F (litS a k n) != 0 || (rcheck_F (litS b k' n') != 0 || a.f != b.f)) (.ret false) (rleqT (symZ a k n) (symZ b k' n'))
set_option maxHeartbeats 4000000 in
theorem leq_tree (a b : S) (k n k' n' : Nat) (h1 : k + n ≤ 4) (h2 : k' + n' = k + n) : dTree Try.prog g1 noΛ 100 20 [encK a k n, encK b k' n'] dBool = leqTr a b k n k' n' := by
  rcases four (show k ≤ 4 by omega) with rfl | rfl | rfl | rfl | rfl <;> rcases four (show n ≤ 4 by omega) with rfl | rfl | rfl | rfl | rfl <;> first
    | (exfalso; omega)
    | (rcases four (show k' ≤ 4 by omega) with rfl | rfl | rfl | rfl | rfl <;> first
        | (exfalso; omega)
        | (rcases four (show n' ≤ 4 by omega) with rfl | rfl | rfl | rfl | rfl <;> first
            | (exfalso; omega)
            | as_aux_lemma => kernel_rfl))
set_option maxHeartbeats 4000000 in
theorem rleq_tree (a b : S) (k n k' n' : Nat) (h1 : k + n ≤ 4) (h2 : k' + n' = k + n) : dTree Try.prog g1 noΛ 100 39 [encK a k n, encK b k' n'] dBool = rleqTr a b k n k' n' := by
  rcases four (show k ≤ 4 by omega) with rfl | rfl | rfl | rfl | rfl <;> rcases four (show n ≤ 4 by omega) with rfl | rfl | rfl | rfl | rfl <;> first
    | (exfalso; omega)
    | (rcases four (show k' ≤ 4 by omega) with rfl | rfl | rfl | rfl | rfl <;> first
        | (exfalso; omega)
        | (rcases four (show n' ≤ 4 by omega) with rfl | rfl | rfl | rfl | rfl <;> first
            | (exfalso; omega)
            | as_aux_lemma => kernel_rfl))
theorem leq_no (a b : S) : dTree Try.prog g1 noΛ 100 20 (aSS.enc (a, b)) dBool = .br (!may_F a || (!may_F b || (a.f != b.f || w64 (a.k + a.n) != w64 (b.k + b.n)))) (.ret false) (els (dTree Try.prog g1 noΛ 100 20 (aSS.enc (a, b)) dBool)) := by kernel_rfl
theorem rleq_no (a b : S) : dTree Try.prog g1 noΛ 100 39 (aSS.enc (a, b)) dBool = .br (rcheck_F a != 0 || (rcheck_F b != 0 || (a.f != b.f || w64 (a.k + a.n) != w64 (b.k + b.n)))) (.ret false) (els (dTree Try.prog g1 noΛ 100 39 (aSS.enc (a, b)) dBool)) := by kernel_rfl
theorem leqC_cases (a b : S) : (leqC a b = false ∧ (!may_F a || (!may_F b || (a.f != b.f || w64 (a.k + a.n) != w64 (b.k + b.n)))) = true) ∨
    (may_F a = true ∧ may_F b = true ∧ a.f = b.f ∧ a.k + a.n = b.k + b.n ∧ leqC a b = leB a.sym b.sym) := by
  cases ha : may_F a with
  | false => exact .inl ⟨by simp [leqC, ha], rfl⟩
  | true =>
    cases hb : may_F b with
    | false => exact .inl ⟨by simp [leqC, hb], rfl⟩
    | true =>
      have fa := ((may_iff a).1 ha).1
      have fb := ((may_iff b).1 hb).1
      have wa : w64 (a.k + a.n) = a.k + a.n := wr (by omega)
      have wb : w64 (b.k + b.n) = b.k + b.n := wr (by omega)
      rw [wa, wb]
      by_cases hf : a.f = b.f
      · by_cases he : a.k + a.n = b.k + b.n
        · exact .inr ⟨rfl, rfl, hf, he, by simp [leqC, ha, hb, hf, he]⟩
        · exact .inl ⟨by simp [leqC, he], by simp [he]⟩
      · exact .inl ⟨by simp [leqC, hf], by simp [hf]⟩
theorem leqC_ok : FnPure Try.prog 20 aSS dBool (fun g => leqC g.1 g.2) (fun _ => []) := by
  refine pure_of_cases (Γ := g1) (Λ := noΛ) (tab1.okz [] _) noΛ_ok 100 fun g _ _ => ?_
  obtain ⟨a, b⟩ := g
  show ∃ args, (∀ n ρ x, SV.fits n ρ (aSS.enc (a, b)) x → SV.fits n ρ args x) ∧ (dTree Try.prog g1 noΛ 100 20 args dBool).Holds (· = leqC a b)
  rcases leqC_cases a b with ⟨h1, h2⟩ | ⟨ha, hb, hf, he, h⟩
  · refine ⟨_, fun _ _ _ h => h, ?_⟩
    rw [leq_no, h2]
    generalize els (dTree Try.prog g1 noΛ 100 20 (aSS.enc (a, b)) dBool) = r
    exact ⟨fun _ => h1.symm, fun hc => by cases hc⟩
  · obtain ⟨ka, na, h4⟩ := sizes ((may_iff a).1 ha)
    obtain ⟨kb, nb, _⟩ := sizes ((may_iff b).1 hb)
    refine ⟨[encK a a.k.toNat a.n.toNat, encK b b.k.toNat b.n.toNat], fun _ _ _ h => encKK_fit ka na kb nb h, ?_⟩
    rw [leq_tree a b _ _ _ _ h4 (by omega)]
    unfold leqTr
    rw [litS_eq ka na, litS_eq kb nb, ha, hb, hf, h]
    have := leqT_holds _ _ (zok_sym a a.k.toNat a.n.toNat) (zok_sym b b.k.toNat b.n.toNat)
    rw [unZ_sym, unZ_sym] at this
    exact ⟨fun hc => by simp at hc, fun _ => this⟩
theorem rleqC_ok : FnPure Try.prog 39 aSS dBool (fun g => leqC g.1 g.2) (fun _ => []) := by
  refine pure_of_cases (Γ := g1) (Λ := noΛ) (tab1.okz [] _) noΛ_ok 100 fun g _ _ => ?_
  obtain ⟨a, b⟩ := g
  show ∃ args, (∀ n ρ x, SV.fits n ρ (aSS.enc (a, b)) x → SV.fits n ρ args x) ∧ (dTree Try.prog g1 noΛ 100 39 args dBool).Holds (· = leqC a b)
  rcases leqC_cases a b with ⟨h1, h2⟩ | ⟨ha, hb, hf, he, h⟩
  · refine ⟨_, fun _ _ _ h => h, ?_⟩
    rw [rleq_no, rc_ne, rc_ne, h2]
    generalize els (dTree Try.prog g1 noΛ 100 39 (aSS.enc (a, b)) dBool) = r
    exact ⟨fun _ => h1.symm, fun hc => by cases hc⟩
  · obtain ⟨ka, na, h4⟩ := sizes ((may_iff a).1 ha)
    obtain ⟨kb, nb, _⟩ := sizes ((may_iff b).1 hb)
    refine ⟨[encK a a.k.toNat a.n.toNat, encK b b.k.toNat b.n.toNat], fun _ _ _ h => encKK_fit ka na kb nb h, ?_⟩
    rw [rleq_tree a b _ _ _ _ h4 (by omega)]
    unfold rleqTr
    rw [litS_eq ka na, litS_eq kb nb, rc_ne, rc_ne, ha, hb, hf, h]
    have := (rleqT_eq _ _).2 (leqT_holds _ _ (zok_sym a a.k.toNat a.n.toNat) (zok_sym b b.k.toNat b.n.toNat))
    rw [unZ_sym, unZ_sym] at this
    exact ⟨fun hc => by simp at hc, fun _ => this⟩
def tab7 : PTab Try.prog := (tab6.cons 20 (pconP aSS dBool (fun g => leqC g.1 g.2) (fun _ => [])) (conP_ok leqC_ok puB)).cons 39 (pconP aSS dBool (fun g => leqC g.1 g.2) (fun _ => [])) (conP_ok rleqC_ok puB)
end Go.Proofs.Ytapmlfklkfgmoaa

/- Contracts of loops: rounds, one behind the other. -/
namespace Go.Sx
open Go.RowKit
instance : Inhabited Ex := ⟨.normal⟩
def runL {γ : Type} (F : γ → Ex × γ) : Nat → γ → Ex × γ
  | 0, g => (.ret, g)
  | n + 1, g => match F g with
    | (.normal, g') => runL F n g'
    | x => x
/-- A number at which the kernel does not look. -/
noncomputable def hush (n : Nat) : Nat := Classical.choose (⟨n, rfl⟩ : ∃ k, k = n)
theorem hush_eq (n : Nat) : hush n = n := Classical.choose_spec (⟨n, rfl⟩ : ∃ k, k = n)
/-- All rounds; 'm': how many there are at most. -/
noncomputable def loopF {γ : Type} (F : γ → Ex × γ) (m : γ → Nat) (g : γ) : Ex × γ := runL F (hush (m g + 1)) g
theorem loopF_def {γ : Type} (F : γ → Ex × γ) (m : γ → Nat) (g : γ) : loopF F m g = runL F (m g + 1) g := by unfold loopF; rw [hush_eq]
section
variable {γ : Type} {F : γ → Ex × γ} {m : γ → Nat} {Inv : γ → Prop}
/-- What each round keeps, and that it comes nearer to the end. -/
def Goes (F : γ → Ex × γ) (m : γ → Nat) (Inv : γ → Prop) : Prop := ∀ g, Inv g → (F g).1 = .normal → Inv (F g).2 ∧ m (F g).2 < m g
theorem runL_fuel (h : Goes F m Inv) : ∀ (n k : Nat) (g : γ), Inv g → m g < n → m g < k → runL F n g = runL F k g
  | 0, _, _, _, h1, _ => by omega
  | _, 0, _, _, _, h1 => by omega
  | n + 1, k + 1, g, hi, hn, hk => by
    simp only [runL]
    have hg := h g hi
    generalize F g = x at hg ⊢
    obtain ⟨e, g'⟩ := x
    cases e with
    | normal =>
      obtain ⟨h1, h2⟩ := hg rfl
      exact runL_fuel h n k g' h1 (by simp only at h2; omega) (by simp only at h2; omega)
    | _ => rfl
theorem loopF_next (h : Goes F m Inv) {g g' : γ} (hi : Inv g) (he : F g = (.normal, g')) : loopF F m g = loopF F m g' := by
  have h2 := h g hi (by rw [he])
  rw [he] at h2
  rw [loopF_def, loopF_def]
  show (match F g with
    | (.normal, g') => runL F (m g) g'
    | x => x) = _
  rw [he]
  exact runL_fuel h _ _ g' h2.1 h2.2 (Nat.lt_succ_self _)
theorem loopF_end {g : γ} (he : (F g).1 ≠ .normal) : loopF F m g = F g := by
  rw [loopF_def]
  show (match F g with
    | (.normal, g') => runL F (m g) g'
    | x => x) = _
  generalize F g = x at he
  obtain ⟨e, g'⟩ := x
  cases e with
  | normal => exact absurd rfl he
  | _ => rfl
/-- What holds of all rounds. -/
theorem loopF_induct (h : Goes F m Inv) {Q : γ → Ex × γ → Prop} (h1 : ∀ g, Inv g → (F g).1 ≠ .normal → Q g (F g)) (h2 : ∀ g g' r, Inv g → F g = (.normal, g') → Inv g' → m g' < m g → Q g' r → Q g r) : ∀ (g : γ), Inv g → Q g (loopF F m g) := by
  intro g
  induction hn : m g using Nat.strongRecOn generalizing g with
  | _ n ih =>
    intro hi
    by_cases he : (F g).1 = .normal
    · obtain ⟨k1, k2⟩ := h g hi he
      have hF : F g = (.normal, (F g).2) := by rw [← he]
      rw [loopF_next h hi hF]
      exact h2 g _ _ hi hF k1 k2 (ih _ (by omega) _ rfl k1)
    · rw [loopF_end he]
      exact h1 g hi he
end
def allP (l : List Prop) : Prop := ∀ p ∈ l, p
section
variable {P : Program} {Γ : Gam} {Λ : Lam} {N : Nat} {γ : Type}
def exB : Ex → Ex → Bool
  | .normal, .normal => true
  | .exit a, .exit b => Nat.beq a b
  | .goto a, .goto b => Nat.beq a b
  | .ret, .ret => true
  | _, _ => false
theorem exB_eq {a b : Ex} (h : exB a b = true) : a = b := by
  cases a <;> cases b <;> simp [exB] at h <;> first | rfl | (rw [h])
theorem exB_refl (a : Ex) : exB a a = true := by cases a <;> simp [exB]
/-- How a loop may end, written out. -/
def exitsT {γ : Type} (x : Ex × γ) : List Ex → Tr (Ex × γ)
  | [] => .bad 645
  | [e] => .ret (e, x.2)
  | e :: e' :: r => .br (exB e x.1) (.ret (e, x.2)) (exitsT x (e' :: r))
theorem exitsT_holds {γ : Type} {x : Ex × γ} {K : Ex × γ → Prop} : ∀ {l : List Ex}, x.1 ∈ l → (exitsT x l).Holds K → K x
  | [], h, _ => by simp at h
  | [e], h, hk => by
    have : x.1 = e := by simpa using h
    have hk : K (e, x.2) := hk
    rw [← this] at hk
    exact hk
  | e :: e' :: r, h, hk => by
    cases hb : exB e x.1 with
    | true =>
      have hk := hk.1 hb
      have hk : K (e, x.2) := hk
      rw [exB_eq hb] at hk
      exact hk
    | false =>
      refine exitsT_holds (l := e' :: r) ?_ (hk.2 hb)
      rcases List.mem_cons.1 h with h | h
      · rw [h, exB_refl] at hb; cases hb
      · exact h
theorem exitsT_each {γ : Type} {x : Ex × γ} : ∀ {l : List Ex}, (exitsT x l).Each fun _ => True
  | [] => trivial
  | [_] => trivial
  | _ :: e' :: r => ⟨trivial, exitsT_each (l := e' :: r)⟩
theorem loopF_exit {γ : Type} {F : γ → Ex × γ} {m : γ → Nat} {Inv : γ → Prop} {es : List Ex} (h : Goes F m Inv) (he : ∀ g, (F g).1 = .normal ∨ (F g).1 ∈ es) {g : γ} (hi : Inv g) : (loopF F m g).1 ∈ es :=
  loopF_induct h (Q := fun _ r => r.1 ∈ es) (fun g _ hn => (he g).resolve_left hn) (fun _ _ _ _ _ _ _ ih => ih) g hi
noncomputable def loopR (es : List Ex) (body : Code) (A : LP N γ) (DL : List Nat) (n0 : Nat) (Inv : γ → List Prop) (F : γ → Ex × γ) (m : γ → Nat) : LCon := loopC body A DL n0 Inv fun g => exitsT (loopF F m g) es
theorem loop_run (hΓ : ∀ f g, Γ.g f = some g → FnOk P f g) (hΛ : ∀ f k L, Λ f k = some L → ∀ b ∈ loopsOf P f, lkey b = k → LoopOk P b L.g) (n f key n0 : Nat) (A : LP N γ) (DL : List Nat) (Inv : γ → List Prop) (F : γ → Ex × γ) (S : γ → Prop) (m : γ → Nat) (d : Ex × γ) (es : List Ex)
    (hu : ((loopsOf P f).filter fun c => Nat.beq (lkey c) key).length = 1)
    (hS : ∀ (rd : Option Nat) (T B : List (Nat × SV)) (HL HB : List (Nat × SE)) (ds : List Nat) (g : γ), (bT P Γ Λ n f rd (loopBody P f key) A DL n0 ⟨n0, T, ⟨N, HL, HB⟩, DL, B⟩ ds g).side = S g)
    (hF : ∀ (rd : Option Nat) (T B : List (Nat × SV)) (HL HB : List (Nat × SE)) (ds : List Nat) (g : γ), (bT P Γ Λ n f rd (loopBody P f key) A DL n0 ⟨n0, T, ⟨N, HL, HB⟩, DL, B⟩ ds g).ev d = F g)
    (hs : ∀ g, allP (Inv g) → S g) (hg : Goes F m fun g => allP (Inv g)) (hes : ∀ g, (F g).1 = .normal ∨ (F g).1 ∈ es) : ∀ b ∈ loopsOf P f, lkey b = key → LoopOk P b (loopR es (loopBody P f key) A DL n0 Inv F m).g := by
  refine loop_ok hΓ hΛ n f key n0 A DL Inv _ m hu ?_
  intro rd T B HL HB ds g hi K hK
  have h1 : (bT P Γ Λ n f rd (loopBody P f key) A DL n0 ⟨n0, T, ⟨N, HL, HB⟩, DL, B⟩ ds g).side := by rw [hS]; exact hs g hi
  have h2 := Tr.side_holds d h1
  rw [hF] at h2
  refine Tr.mono ?_ h2
  rintro _ rfl
  have hK0 := hK
  have hK : K (loopF F m g) := exitsT_holds (loopF_exit hg hes hi) hK
  unfold StepP
  split
  · rename_i he
    obtain ⟨k1, k2⟩ := hg g hi he
    refine ⟨k1, k2, ?_⟩
    show (exitsT (loopF F m (F g).2) es).Holds K
    rw [← loopF_next hg hi (g' := (F g).2) (by rw [← he])]
    exact hK0
  · rename_i he
    rw [loopF_end (by intro h; exact he h)] at hK
    exact hK
end
end Go.Sx

/- Contracts of functions that write a slice which is handed in: a row of the caller's own. -/
namespace Go.Sx
open Go.RowKit
/-- The block of a row of one's own. -/
def ownB (L : Lc) : Nat → Prop := fun b => L.nl = false ∧ b = L.blk
/-- All old blocks but some are as they were. -/
structure BelowM (B : Nat → Prop) (w w' : World) : Prop where
  os : w'.os = w.os
  tape : w'.tape = w.tape
  output : w'.output = w.output
  size : w.heap.size ≤ w'.heap.size
  block : ∀ k, k < w.heap.size → ¬ B k → w'.heap[k]? = w.heap[k]?
/-- Results: plain data, or beginnings of the row that was handed in. -/
structure RM (δ : Type) where
  dec : SV → Option (δ × List Prop)
  enc : Nat → δ → SV
  ok : ∀ (s : SV) (d : δ) (ps : List Prop), dec s = some (d, ps) → (∀ p ∈ ps, p) → ∀ (n m i : Nat) (ρ ρ' : Rh) (x : Value), (∀ b o, ρ.mem b = some o → ρ'.mem b = some o) → ρ' i = ρ 0 → i < m → s.fit n ρ x → (enc i d).fit m ρ' x
  cl : ∀ (i : Nat) (d : δ) (n m : Nat) (ρ ρ' : Rh) (x : Value), (∀ b o, ρ.mem b = some o → ρ'.mem b = some o) → ρ' i = ρ i → i < m → (enc i d).fit n ρ x → (enc i d).fit m ρ' x
def RM.pure {δ : Type} (R : Dv δ) : RM δ where
  dec := R.dec
  enc _ d := R.enc d
  ok s d ps hd hp n m i ρ ρ' x hm _ _ hf := R.cl d n m ρ ρ' x hm (R.ok _ _ _ _ _ _ hd hp hf)
  cl i d n m ρ ρ' x hm _ _ hf := R.cl d n m ρ ρ' x hm hf
def RM.self : RM Nat where
  dec s := match s with
    | .ow 0 k => some (k, [])
    | .opt b (.ow 0 k) => some (k, [b = true])
    | _ => none
  enc i k := .ow i k
  ok s d ps hd hp n m i ρ ρ' x hm hi him hf := by
    split at hd
    · simp only [Option.some.injEq, Prod.mk.injEq] at hd
      obtain ⟨rfl, rfl⟩ := hd
      obtain ⟨_, hf⟩ := hf
      exact ⟨him, by rw [hi]; exact hf⟩
    · simp only [Option.some.injEq, Prod.mk.injEq] at hd
      obtain ⟨rfl, rfl⟩ := hd
      obtain ⟨_, hf⟩ := hf (hp _ (List.mem_cons_self ..))
      exact ⟨him, by rw [hi]; exact hf⟩
    · cases hd
  cl i d n m ρ ρ' x hm hi him hf := by
    obtain ⟨_, hf⟩ := hf
    exact ⟨him, by rw [hi]; exact hf⟩
section
variable {α : Type} (A : El α)
abbrev rowA (t : TypeId) (xs : List α) : SO := .row t A.sz (.fn (A.els xs)) xs.length
theorem rowA_cl {t : TypeId} {xs : List α} {n m : Nat} {ρ ρ' : Rh} {L : Lc} {o : Option Obj} (hm : ∀ b o, ρ.mem b = some o → ρ'.mem b = some o) (h : (rowA A t xs).fit n ρ L o) : (rowA A t xs).fit m ρ' L o := by
  refine ⟨h.1, ?_⟩
  rcases h.2 with h2 | ⟨h1, h2, c, fz, h3, h3', h4, h5, h6, h7⟩
  · exact .inl h2
  · refine .inr ⟨h1, h2, c, fz, h3, h3', h4, h5, h6, fun e he => ?_⟩
    obtain ⟨l, q1, q2, q3⟩ := h7 e he
    exact ⟨l, q1, A.cl _ _ _ _ _ _ hm q2, q3⟩
/-- A row of which the elements are known as plain data. -/
theorem rowA_of {t : TypeId} {el : ElE} {k n m : Nat} {ρ ρ' : Rh} {L : Lc} {o : Option Obj} (hm : ∀ b o, ρ.mem b = some o → ρ'.mem b = some o) (hk : ∀ e, e < k → A.Ok (el e)) (h : (SO.row t A.sz el k).fit n ρ L o) : (rowA A t (A.lstE k el)).fit m ρ' L o := by
  rw [A.lstE_eq]
  refine ⟨by rw [A.lst_length]; exact h.1, ?_⟩
  rw [A.lst_length]
  rcases h.2 with h2 | ⟨h1, h2, c, fz, h3, h3', h4, h5, h6, h7⟩
  · exact .inl h2
  · refine .inr ⟨h1, h2, c, fz, h3, h3', h4, h5, h6, fun e he => ?_⟩
    obtain ⟨l, q1, q2, q3⟩ := h7 e he
    obtain ⟨a, ps, d1, d2⟩ := hk e he
    refine ⟨l, q1, ?_, q3⟩
    have := A.cl a n m ρ ρ' l hm (A.ok _ _ _ _ _ _ d1 d2 q2)
    show SV.fits m ρ' (A.cells ((A.lst k el).getD e A.dflt)) l
    rw [A.lst_getD _ _ _ he]
    simpa only [El.get, d1] using this
end
/-- A function that writes the row that is its first argument. -/
def FnMut {α γ δ : Type} (P : Program) (f : Nat) (t : TypeId) (A : El α) (D : DA γ) (R : RM δ) (fn : List α → γ → List α × δ) (pre : List α → γ → List Prop) : Prop :=
  ∀ (w : World) (F : Nat → Option Obj) (L : Lc) (xs : List α) (g : γ) (v0 : Value) (vs : List Value), (∀ b o, F b = some o → w.heap[b]? = some o) → (∀ b, ownB L b → F b = none) → OwV L xs.length v0 →
    (∀ p ∈ pre xs g, p) → (rowA A t xs).fit 0 (emp F) L w.heap[L.blk]? → SV.fits 0 (emp F) (D.enc g) vs →
    Calls P f (v0 :: vs).toArray w fun e w' => ∃ x, e = .returned x ∧ BelowM (ownB L) w w' ∧ (rowA A t (fn xs g).1).fit 0 (emp (memAt F w w')) L w'.heap[L.blk]? ∧
      ∀ (m i : Nat) (ρ' : Rh), (∀ b o, memAt F w w' b = some o → ρ'.mem b = some o) → ρ' i = L → i < m → (R.enc i (fn xs g).2).fit m ρ' x
def mTree {α δ : Type} (P : Program) (Γ : Gam) (Λ : Lam) (n f : Nat) (t : TypeId) (A : El α) (R : RM δ) (xs : List α) (args : List SV) : Tr (List α × δ) :=
  (fnTree P Γ Λ n f (.ow 0 xs.length :: args) ⟨1, [(0, .o (rowA A t xs))], []⟩).bind fun y =>
    match y.2.get 0 with
    | .row t' sz el m => match Nat.beq t' t && Nat.beq sz A.sz with
      | true => asks (A.okE m el) (match R.dec y.1 with
        | some (r, ps) => asks ps (.ret (A.lstE m el, r))
        | none => .bad 650)
      | false => .bad 651
    | _ => .bad 652
section
variable {P : Program} {Γ : Gam} {Λ : Lam} {f t : Nat} {α γ δ : Type} {A : El α} {D : DA γ} {R : RM δ} {fn : List α → γ → List α × δ} {pre : List α → γ → List Prop}
theorem ow_of_owv {L : Lc} {l : Nat} {v : Value} {n i : Nat} {ρ : Rh} (hi : i < n) (hρ : ρ i = L) (h : OwV L l v) (hc : L.nl = false → l ≤ L.cap) : (SV.ow i l).fit n ρ v := by
  refine ⟨hi, ?_⟩
  rw [hρ]
  rcases h with ⟨h1, h2, a, h3⟩ | ⟨h1, h2⟩
  · exact .inl ⟨h1, h2, a, h3⟩
  · exact .inr ⟨h1, hc h1, h2⟩
theorem mut_of_tree (hΓ : ∀ f g, Γ.g f = some g → FnOk P f g) (hΛ : ∀ f k L, Λ f k = some L → ∀ b ∈ loopsOf P f, lkey b = k → LoopOk P b L.g) (n : Nat)
    (hT : ∀ xs g, D.bd g → xs.length ≤ maxLen → (∀ p ∈ pre xs g, p) → (mTree P Γ Λ n f t A R xs (D.enc g)).Holds (· = fn xs g)) : FnMut P f t A D R fn pre := by
  intro w F L xs g v0 vs hF hFo hv0 hpre hrow hfit
  have hbd := D.fb _ _ _ _ hfit
  have hT := hT xs g hbd hrow.1 hpre
  let ρ0 : Rh := ⟨fun _ => L, F, F⟩
  have hg0 : ∀ i, (⟨1, [(0, .o (rowA A t xs))], []⟩ : SH).get i = if i = 0 then rowA A t xs else .dead := fun i => by
    simp only [SH.get, lookE, SE.act]
    by_cases h : i = 0
    · subst h; rfl
    · rw [if_neg h]
      have : Nat.beq i 0 = false := by
        cases hb : Nat.beq i 0 with
        | false => rfl
        | true => exact absurd (beq_of hb) h
      rw [this]; rfl
  have hm0 : HM (ownB L) w ρ0 ⟨1, [(0, .o (rowA A t xs))], []⟩ w := {
    os := rfl
    tape := rfl
    output := rfl
    size := Nat.le_refl _
    block := fun _ _ _ => rfl
    lt := fun i h => by
      rw [hg0] at h
      by_cases hi : i = 0
      · subst hi; exact Nat.lt_succ_self _
      · rw [if_neg hi] at h; cases h
    ob := fun i => by
      rw [hg0]
      by_cases hi : i = 0
      · rw [if_pos hi]
        exact rowA_cl A (ρ := emp F) (fun _ _ h => h) hrow
      · rw [if_neg hi]; trivial
    ow := fun i h => by
      rw [hg0] at h
      by_cases hi : i = 0
      · rw [if_pos hi] at h
        exact .inr ⟨h, rfl⟩
      · rw [if_neg hi] at h; exact h.elim
    fz := hF
    sep := fun i h => by
      rw [hg0] at h
      by_cases hi : i = 0
      · rw [if_pos hi] at h
        exact hFo _ ⟨h, rfl⟩
      · rw [if_neg hi] at h; exact h.elim
    old := fun b o hb _ _ => hb
    inj := fun i j hi hj _ => by
      rw [hg0] at hi hj
      by_cases h1 : i = 0
      · by_cases h2 : j = 0
        · omega
        · rw [if_neg h2] at hj; exact hj.elim
      · rw [if_neg h1] at hi; exact hi.elim }
  have hcap : L.nl = false → xs.length ≤ L.cap := fun hnl => by
    rcases hrow.2 with ⟨h, _⟩ | ⟨_, _, _, _, _, _, _, h5, _⟩
    · rw [hnl] at h; cases h
    · exact h5
  have hargs : SV.fits 1 ρ0 (.ow 0 xs.length :: D.enc g) (v0 :: vs) := ⟨ow_of_owv (Nat.lt_succ_self _) rfl hv0 hcap, D.cl g 0 1 (emp F) ρ0 vs (fun _ _ h => h) hfit⟩
  have h0 := fnTree_ok hΓ hΛ n (ownB L) w w ρ0 ⟨1, [(0, .o (rowA A t xs))], []⟩ _ (v0 :: vs) _ (Tr.holds_bind hT) hm0 hargs
  refine h0.mono ?_
  rintro e w' ⟨s, h', ρ', x, h1, h2, h3, h4, h5, rfl⟩
  have hρ0 : ρ' 0 = L := h3.1 0 (Nat.lt_succ_self _)
  refine ⟨x, rfl, ⟨h4.os, h4.tape, h4.output, h4.size, fun k hk hB => h4.block k hk hB⟩, ?_⟩
  simp only at h1
  split at h1
  · rename_i t' sz el m hg
    split at h1
    · rename_i hb
      simp only [Bool.and_eq_true] at hb
      have e1 := beq_of hb.1
      have e2 := beq_of hb.2
      subst e1; subst e2
      obtain ⟨hok, h1⟩ := asks_holds h1
      have hok : ∀ e, e < m → A.Ok (el e) := A.okE_ok m el hok
      split at h1
      · rename_i r ps hr
        obtain ⟨hps, h1⟩ := asks_holds h1
        have h1 : (A.lstE m el, r) = fn xs g := h1
        have hmem : ∀ b o, ρ'.mem b = some o → memAt F w w' b = some o := fun b o hb => by
          unfold memAt
          split
          · rename_i hlt
            by_cases hM : ownB L b
            · exfalso
              have hs := h4.sep 0
              rw [hg, hρ0] at hs
              rw [hM.2] at hb
              rw [hs hM.1] at hb
              cases hb
            · have := h4.old b o hb hlt hM
              rw [h3.2.2] at this
              exact this
          · exact h4.fz b o hb
        have hob := h4.ob 0
        rw [hg, hρ0] at hob
        rw [← h1]
        refine ⟨rowA_of A hmem hok hob, fun m' i ρ'' hmem' hi him => ?_⟩
        exact R.ok s r ps hr hps _ m' i ρ' ρ'' x (fun b o hb => hmem' b o (hmem b o hb)) (by rw [hi, hρ0]) him h5
      · exact h1.elim
    · exact h1.elim
  · exact h1.elim

/-- The contract of a function that writes the row that is its first argument. -/
def conM0 (t : TypeId) (A : El α) (D : DA γ) (R : RM δ) (fn : List α → γ → List α × δ) (pre : List α → γ → List Prop) (i l : Nat) (rest : List SV) (h : SH) : Tr (SV × SH) :=
  match h.get i with
  | .row t' sz el m => match Nat.beq t' t && Nat.beq sz A.sz with
    | true => match D.dec rest with
      | some (g, ps) => asks ((l = m) :: (A.okE m el ++ (ps ++ pre (A.lstE m el) g))) (.ret (R.enc i (fn (A.lstE m el) g).2, h.set i (rowA A t (fn (A.lstE m el) g).1)))
      | none => .bad 653
    | false => .bad 654
  | _ => .bad 655
def conM (t : TypeId) (A : El α) (D : DA γ) (R : RM δ) (fn : List α → γ → List α × δ) (pre : List α → γ → List Prop) : Con := fun args h =>
  match args with
  | .ow i l :: rest => conM0 t A D R fn pre i l rest h
  | .k y :: rest => match nilK y with
    | true => conM0 t A D R fn pre h.nx 0 rest (h.push (.row t A.sz (.fn fun _ => []) 0))
    | false => .bad 656
  | _ => .bad 657
theorem conM0_ok (hp : FnMut P f t A D R fn pre) {M : Nat → Prop} {w0 w : World} {ρ : Rh} {h : SH} {i l : Nat} {rest : List SV} {v0 : Value} {vs : List Value} {K : SV × SH → Prop} (hK : (conM0 t A D R fn pre i l rest h).Holds K) (hm : HM M w0 ρ h w)
    (h0 : (SV.ow i l).fit h.nx ρ v0) (hr : SV.fits h.nx ρ rest vs) : Calls P f (v0 :: vs).toArray w (FnGood M w0 ρ h K) := by
  unfold conM0 at hK
  split at hK
  · rename_i t' sz el m hg
    split at hK
    · rename_i hb
      simp only [Bool.and_eq_true] at hb
      have e1 := beq_of hb.1
      have e2 := beq_of hb.2
      subst e1; subst e2
      split at hK
      · rename_i g ps hd
        obtain ⟨hq, hK⟩ := asks_holds hK
        have hl : l = m := hq _ (List.mem_cons_self ..)
        have hok : ∀ e, e < m → A.Ok (el e) := A.okE_ok m el fun p h' => hq p (List.mem_cons_of_mem _ (List.mem_append_left _ h'))
        have hps : ∀ p ∈ ps, p := fun p h' => hq p (List.mem_cons_of_mem _ (List.mem_append_right _ (List.mem_append_left _ h')))
        have hpre : ∀ p ∈ pre (A.lstE m el) g, p := fun p h' => hq p (List.mem_cons_of_mem _ (List.mem_append_right _ (List.mem_append_right _ h')))
        subst hl
        have hob := hm.ob i
        rw [hg] at hob
        have hown : ∀ b, ownB (ρ i) b → (h.get i).own (ρ i) := fun b hb => by rw [hg]; exact hb.1
        have hilt : i < h.nx := h0.1
        have hrow : (rowA A t' (A.lstE l el)).fit 0 (emp ρ.mem) (ρ i) w.heap[(ρ i).blk]? := rowA_of A (ρ := ρ) (fun _ _ h => h) hok hob
        have hv0 : OwV (ρ i) (A.lstE l el).length v0 := by
          rw [A.lstE_eq, A.lst_length]
          rcases h0.2 with ⟨h1, h2, a, h3⟩ | ⟨h1, _, h3⟩
          · exact .inl ⟨h1, h2, a, h3⟩
          · exact .inr ⟨h1, h3⟩
        have hvs := D.cl _ _ 0 ρ (emp ρ.mem) vs (fun _ _ h => h) (D.ok _ _ _ _ _ _ hd hps hr)
        refine (hp w ρ.mem (ρ i) (A.lstE l el) g v0 vs hm.fz (fun b hb => by rw [hb.2]; exact hm.sep i (hown b hb)) hv0 hpre hrow hvs).mono ?_
        rintro e w' ⟨x, rfl, hbm, hrow', hx⟩
        have hmem : ∀ b o, ρ.mem b = some o → memAt ρ.mem w w' b = some o := fun b o ho => by
          unfold memAt
          rw [if_pos (hm.lt_mem ho)]; exact ho
        have hag : Agree h.nx ρ ⟨ρ.lc, memAt ρ.mem w w', ρ.lo⟩ := ⟨fun _ _ => rfl, hmem, rfl⟩
        have hgs : ∀ j, (h.set i (rowA A t' (fn (A.lstE l el) g).1)).get j = if j = i then rowA A t' (fn (A.lstE l el) g).1 else h.get j := fun j => SH.get_set _ _ _ _
        have hown' : ∀ j, ((h.set i (rowA A t' (fn (A.lstE l el) g).1)).get j).own (ρ j) → (h.get j).own (ρ j) := fun j hj => by
          rw [hgs] at hj
          by_cases hji : j = i
          · subst hji; rw [if_pos rfl] at hj; rw [hg]; exact hj
          · rw [if_neg hji] at hj; exact hj
        have hunc : ∀ k, k < w.heap.size → ¬ ownB (ρ i) k → w'.heap[k]? = w.heap[k]? := hbm.block
        refine ⟨_, _, ⟨ρ.lc, memAt ρ.mem w w', ρ.lo⟩, x, hK, Nat.le_refl _, hag, ?_, hx h.nx i _ (fun _ _ h => h) rfl hilt, rfl⟩
        exact {
          os := hbm.os.trans hm.os
          tape := hbm.tape.trans hm.tape
          output := hbm.output.trans hm.output
          size := Nat.le_trans hm.size hbm.size
          block := fun k hk hM => by
            rw [hunc k (Nat.lt_of_lt_of_le hk hm.size) fun hB => ?_]
            · exact hm.block k hk hM
            · rcases hm.ow i (hown k hB) with h | h
              · rw [← hB.2] at h; omega
              · rw [← hB.2] at h; exact hM h
          lt := fun j hj => by
            rw [hgs] at hj
            by_cases hji : j = i
            · subst hji; exact hilt
            · rw [if_neg hji] at hj; exact hm.lt j hj
          ob := fun j => by
            rw [hgs]
            by_cases hji : j = i
            · subst hji
              rw [if_pos rfl]
              exact rowA_cl A (ρ := emp (memAt ρ.mem w w')) (fun _ _ h => h) hrow'
            · rw [if_neg hji]
              refine SO.fit_mono (Nat.le_refl _) hag (hm.ob_other fun hj => hunc _ (hm.lt_heap hj) fun hB => ?_)
              exact hm.ne_own (hown _ hB) hj hji hB.2
          ow := fun j hj => hm.ow j (hown' j hj)
          fz := fun b o hb => by
            simp only [memAt] at hb
            split at hb
            · rename_i hlt
              rw [hunc b hlt fun hB => ?_]
              · exact hm.fz b o hb
              · have := hm.sep i (hown b hB)
                rw [← hB.2, hb] at this
                cases this
            · exact hb
          sep := fun j hj => by
            have h1 := hm.sep j (hown' j hj)
            have h2 := hm.lt_heap (hown' j hj)
            simp only [memAt]
            rw [if_pos h2]; exact h1
          old := fun b o hb hlt hM => by
            simp only [memAt] at hb
            have hs := hm.size
            rw [if_pos (by omega)] at hb
            exact hm.old b o hb hlt hM
          inj := fun j k hj hk => hm.inj j k (hown' j hj) (hown' k hk) }
      · exact hK.elim
    · exact hK.elim
  · exact hK.elim
theorem conM_ok (hp : FnMut P f t A D R fn pre) : FnOk P f (conM t A D R fn pre) := by
  intro M w0 w ρ h args vs K hK hm hfits
  unfold conM at hK
  split at hK
  · rename_i i l rest
    obtain ⟨v0, r, rfl, h0, hr⟩ := fits_cons hfits
    exact conM0_ok hp hK hm h0 hr
  · rename_i y rest
    obtain ⟨v0, r, rfl, h0, hr⟩ := fits_cons hfits
    split at hK
    · rename_i hy
      have hm1 : HM M w0 (upd ρ h.nx ⟨0, 0, 0, true⟩) (h.push (.row t A.sz (.fn fun _ => []) 0)) w := hm.learn ⟨Nat.zero_le _, .inl ⟨rfl, rfl⟩⟩ (fun h => by cases h)
      have hy := nilK_eq hy
      subst hy
      simp only [SV.fit] at h0
      subst h0
      have := conM0_ok hp hK hm1 (v0 := .slice none 0 0) (vs := r) ⟨Nat.lt_succ_self _, .inl ⟨by simp [upd], rfl, _, rfl⟩⟩ (SV.fits_mono (Nat.le_succ _) (agree_upd _ _ _) _ _ hr)
      refine this.mono ?_
      rintro e w' ⟨s, h', ρ', x, h1, h2, h3, h4, h5, rfl⟩
      exact ⟨s, h', ρ', x, h1, by have : h.nx + 1 ≤ h'.nx := h2; omega, (agree_upd ρ h.nx _).trans (Nat.le_succ _) h3, h4, h5, rfl⟩
    · exact hK.elim
  · exact hK.elim
theorem conM0_b {i l : Nat} {rest : List SV} {h : SH} : (conM0 t A D R fn pre i l rest h).Each fun y => y.2.b = h.b := by
  unfold conM0
  split
  · split
    · split
      · exact asks_each rfl
      · trivial
    · trivial
  · trivial
def bconM (t : TypeId) (A : El α) (D : DA γ) (R : RM δ) (fn : List α → γ → List α × δ) (pre : List α → γ → List Prop) : BCon := ⟨conM t A D R fn pre, fun args h => by
  unfold conM
  split
  · exact conM0_b
  · split
    · exact conM0_b (h := h.push _)
    · trivial
  · trivial⟩
end
end Go.Sx
namespace Go.Sx
/-- Contracts that change no known block, and contracts that do. -/
structure MTab (P : Program) where
  p : PTab P
  m : { l : List (Nat × BCon) // ∀ x ∈ l, FnOk P x.1 x.2.g }
section
variable {P : Program}
def MTab.of (t : PTab P) : MTab P := ⟨t, ⟨[], fun x h => by simp at h⟩⟩
def MTab.cons (t : MTab P) (f : Nat) (c : PCon) (h : FnOk P f c.g) : MTab P := ⟨t.p.cons f c h, t.m⟩
def MTab.consM (t : MTab P) (f : Nat) (c : BCon) (h : FnOk P f c.g) : MTab P := ⟨t.p, ⟨(f, c) :: t.m.1, fun x hx => by
  rcases List.mem_cons.1 hx with rfl | hx
  · exact h
  · exact t.m.2 x hx⟩⟩
def MTab.gamz (t : MTab P) (zs : List (Nat × Nat)) (us : List (Nat × Nat × Nat)) : Gam := Go.Sx.gam t.p.1 t.m.1 zs us
theorem MTab.okz (t : MTab P) (zs : List (Nat × Nat)) (us : List (Nat × Nat × Nat)) : ∀ f g, (t.gamz zs us).g f = some g → FnOk P f g := gam_ok t.p.2 t.m.2
theorem mut_of_side {f t : Nat} {α γ δ : Type} {A : El α} {D : DA γ} {R : RM δ} {fn : List α → γ → List α × δ} {pre : List α → γ → List Prop} {Γ : Gam} {Λ : Lam}
    (hΓ : ∀ f g, Γ.g f = some g → FnOk P f g) (hΛ : ∀ f k L, Λ f k = some L → ∀ b ∈ loopsOf P f, lkey b = k → LoopOk P b L.g) (n : Nat) (d : List α × δ) (S : List α → γ → Prop)
    (hS : ∀ xs g, (mTree P Γ Λ n f t A R xs (D.enc g)).side = S xs g) (he : ∀ xs g, (mTree P Γ Λ n f t A R xs (D.enc g)).ev d = fn xs g) (hs : ∀ xs g, D.bd g → xs.length ≤ maxLen → (∀ p ∈ pre xs g, p) → S xs g) : FnMut P f t A D R fn pre :=
  mut_of_tree hΓ hΛ n fun xs g h1 h2 h3 => by
    have := Tr.side_holds d (by rw [hS]; exact hs xs g h1 h2 h3 : (mTree P Γ Λ n f t A R xs (D.enc g)).side)
    rw [he xs g] at this
    exact this
/-- A function as an argument. -/
def dFn (f : Nat) : Dv Unit where
  dec s := match s with
    | .fn f' [] => bif Nat.beq f f' then some ((), []) else none
    | _ => none
  enc _ := .fn f []
  bd _ := True
  cl _ n m ρ ρ' x hm hf := by
    obtain ⟨l, e, hl⟩ := hf
    have := fits_nil hl
    subst this
    exact ⟨[], e, trivial⟩
  ok s a ps n ρ x hd hp hf := by
    split at hd
    · rename_i f'
      cases hb : Nat.beq f f' with
      | false => rw [hb] at hd; cases hd
      | true =>
        rw [beq_of hb]; exact hf
    · cases hd
  fb _ _ _ _ _ := trivial
end
end Go.Sx
namespace Go.Sx
abbrev RM.T {δ : Type} (_ : RM δ) : Type := δ
end Go.Sx

/- Contracts of functions that write a variable which is handed in by its address. -/
namespace Go.Sx
open Go.RowKit
/-- A function that writes the variable whose address stands between its other arguments. -/
def FnPtr {γ γ' κ δ : Type} (P : Program) (f : Nat) (t : TypeId) (C : El κ) (D : DA γ) (D' : DA γ') (R : Dv δ) (fn : γ → κ → γ' → κ × δ) (pre : γ → κ → γ' → List Prop) : Prop :=
  ∀ (w : World) (F : Nat → Option Obj) (b : Nat) (l : List Value) (k : κ) (g : γ) (g' : γ') (vs vs' : List Value), (∀ b o, F b = some o → w.heap[b]? = some o) → F b = none → w.heap[b]? = some (.cells l.toArray t (0, 0)) → SV.fits 0 (emp F) (C.cells k) l →
    (∀ p ∈ pre g k g', p) → SV.fits 0 (emp F) (D.enc g) vs → SV.fits 0 (emp F) (D'.enc g') vs' →
    Calls P f (vs ++ .pointer (some ⟨b, 0, none⟩) :: vs').toArray w fun e w' => ∃ x l', e = .returned x ∧ BelowM (· = b) w w' ∧ w'.heap[b]? = some (.cells (List.toArray l') t (0, 0)) ∧ SV.fits 0 (emp (memAt F w w')) (C.cells (fn g k g').1) l' ∧
      (R.enc (fn g k g').2).fit 0 (emp (memAt F w w')) x
def pTree {κ δ : Type} (P : Program) (Γ : Gam) (Λ : Lam) (n f : Nat) (t : TypeId) (C : El κ) (R : Dv δ) (k : κ) (args args' : List SV) : Tr (κ × δ) :=
  (fnTree P Γ Λ n f (args ++ .p 0 0 :: args') ⟨1, [(0, .o (.cells (C.cells k) t))], []⟩).bind fun y =>
    match y.2.get 0 with
    | .cells xs t' => match Nat.beq t' t with
      | true => match C.decs xs with
        | some (k', qs) => match R.dec y.1 with
          | some (r, ps) => asks (qs ++ ps) (.ret (k', r))
          | none => .bad 660
        | none => .bad 661
      | false => .bad 662
    | _ => .bad 663
section
variable {P : Program} {Γ : Gam} {Λ : Lam} {f t : Nat} {γ γ' κ δ : Type} {C : El κ} {D : DA γ} {D' : DA γ'} {R : Dv δ} {fn : γ → κ → γ' → κ × δ} {pre : γ → κ → γ' → List Prop}
theorem one_get (so : SO) (i : Nat) : (⟨1, [(0, .o so)], []⟩ : SH).get i = if i = 0 then so else .dead := by
  simp only [SH.get, lookE, SE.act]
  by_cases h : i = 0
  · subst h; rfl
  · rw [if_neg h]
    have : Nat.beq i 0 = false := by
      cases hb : Nat.beq i 0 with
      | false => rfl
      | true => exact absurd (beq_of hb) h
    rw [this]; rfl
/-- The memory of a call that knows one block. -/
theorem hm_one {w : World} {F : Nat → Option Obj} {L : Lc} {so : SO} {B : Nat → Prop} (hF : ∀ b o, F b = some o → w.heap[b]? = some o) (hfit : so.fit 1 ⟨fun _ => L, F, F⟩ L w.heap[L.blk]?) (hB : so.own L → B L.blk ∧ F L.blk = none) : HM B w ⟨fun _ => L, F, F⟩ ⟨1, [(0, .o so)], []⟩ w where
  os := rfl
  tape := rfl
  output := rfl
  size := Nat.le_refl _
  block := fun _ _ _ => rfl
  lt := fun i h => by
    rw [one_get] at h
    by_cases hi : i = 0
    · subst hi; exact Nat.lt_succ_self _
    · rw [if_neg hi] at h; cases h
  ob := fun i => by
    rw [one_get]
    by_cases hi : i = 0
    · rw [if_pos hi]; exact hfit
    · rw [if_neg hi]; trivial
  ow := fun i h => by
    rw [one_get] at h
    by_cases hi : i = 0
    · rw [if_pos hi] at h
      exact .inr (hB h).1
    · rw [if_neg hi] at h; exact h.elim
  fz := hF
  sep := fun i h => by
    rw [one_get] at h
    by_cases hi : i = 0
    · rw [if_pos hi] at h
      exact (hB h).2
    · rw [if_neg hi] at h; exact h.elim
  old := fun b o hb _ _ => hb
  inj := fun i j hi hj _ => by
    rw [one_get] at hi hj
    by_cases h1 : i = 0
    · by_cases h2 : j = 0
      · omega
      · rw [if_neg h2] at hj; exact hj.elim
    · rw [if_neg h1] at hi; exact hi.elim
theorem ptr_of_tree (hΓ : ∀ f g, Γ.g f = some g → FnOk P f g) (hΛ : ∀ f k L, Λ f k = some L → ∀ b ∈ loopsOf P f, lkey b = k → LoopOk P b L.g) (n : Nat)
    (hT : ∀ g k g', D.bd g → D'.bd g' → C.bd k → (∀ p ∈ pre g k g', p) → (pTree P Γ Λ n f t C R k (D.enc g) (D'.enc g')).Holds (· = fn g k g')) : FnPtr P f t C D D' R fn pre := by
  intro w F b l k g g' vs vs' hF hFb hob hl hpre hfit hfit'
  have hT := hT g k g' (D.fb _ _ _ _ hfit) (D'.fb _ _ _ _ hfit') (C.fb _ _ _ _ hl) hpre
  let L : Lc := ⟨b, 0, 0, false⟩
  let ρ0 : Rh := ⟨fun _ => L, F, F⟩
  have hm0 : HM (· = b) w ρ0 ⟨1, [(0, .o (.cells (C.cells k) t))], []⟩ w := hm_one hF ⟨rfl, rfl, l, hob, C.cl k 0 1 (emp F) ρ0 l (fun _ _ h => h) hl⟩ (fun _ => ⟨rfl, hFb⟩)
  have hargs : SV.fits 1 ρ0 (D.enc g ++ .p 0 0 :: D'.enc g') (vs ++ .pointer (some ⟨b, 0, none⟩) :: vs') :=
    fits_append (D.cl g 0 1 (emp F) ρ0 vs (fun _ _ h => h) hfit) ⟨⟨Nat.lt_succ_self _, rfl⟩, D'.cl g' 0 1 (emp F) ρ0 vs' (fun _ _ h => h) hfit'⟩
  have h0 := fnTree_ok hΓ hΛ n (· = b) w w ρ0 _ _ _ _ (Tr.holds_bind hT) hm0 hargs
  refine h0.mono ?_
  rintro e w' ⟨s, h', ρ', x, h1, h2, h3, h4, h5, rfl⟩
  have hρ0 : ρ' 0 = L := h3.1 0 (Nat.lt_succ_self _)
  simp only at h1
  split at h1
  · rename_i xs t' hg
    split at h1
    · rename_i hb
      have e1 := beq_of hb
      subst e1
      split at h1
      · rename_i k' qs hk
        split at h1
        · rename_i r ps hr
          obtain ⟨hq, h1⟩ := asks_holds h1
          have h1 : (k', r) = fn g k g' := h1
          have hmem : ∀ c o, ρ'.mem c = some o → memAt F w w' c = some o := fun c o hc => by
            unfold memAt
            split
            · rename_i hlt
              by_cases hM : c = b
              · exfalso
                have hs := h4.sep 0 (by rw [hg]; trivial)
                rw [hρ0] at hs
                rw [hM, hs] at hc
                cases hc
              · have := h4.old c o hc hlt hM
                rw [h3.2.2] at this
                exact this
            · exact h4.fz c o hc
          have hob' := h4.ob 0
          rw [hg, hρ0] at hob'
          obtain ⟨_, _, l', ho', hf'⟩ := hob'
          rw [← h1]
          refine ⟨x, l', rfl, ⟨h4.os, h4.tape, h4.output, h4.size, fun k hk hB => h4.block k hk hB⟩, ho', ?_, ?_⟩
          · exact C.cl _ _ _ _ _ _ hmem (C.ok _ _ _ _ _ _ hk (fun p hp => hq p (List.mem_append_left _ hp)) hf')
          · exact R.cl _ _ _ _ _ _ hmem (R.ok _ _ _ _ _ _ hr (fun p hp => hq p (List.mem_append_right _ hp)) h5)
        · exact h1.elim
      · exact h1.elim
    · exact h1.elim
  · exact h1.elim
theorem ptr_of_side (hΓ : ∀ f g, Γ.g f = some g → FnOk P f g) (hΛ : ∀ f k L, Λ f k = some L → ∀ b ∈ loopsOf P f, lkey b = k → LoopOk P b L.g) (n : Nat) (d : κ × δ) (S : γ → κ → γ' → Prop)
    (hS : ∀ g k g', (pTree P Γ Λ n f t C R k (D.enc g) (D'.enc g')).side = S g k g') (he : ∀ g k g', (pTree P Γ Λ n f t C R k (D.enc g) (D'.enc g')).ev d = fn g k g') (hs : ∀ g k g', D.bd g → D'.bd g' → C.bd k → (∀ p ∈ pre g k g', p) → S g k g') : FnPtr P f t C D D' R fn pre :=
  ptr_of_tree hΓ hΛ n fun g k g' h1 h2 h3 h4 => by
    have := Tr.side_holds d (by rw [hS]; exact hs g k g' h1 h2 h3 h4 : (pTree P Γ Λ n f t C R k (D.enc g) (D'.enc g')).side)
    rw [he g k g'] at this
    exact this
/-- The contract of such a function; 'q': how many arguments stand ahead of the address. -/
def conC (q : Nat) (t : TypeId) (C : El κ) (D : DA γ) (D' : DA γ') (R : Dv δ) (fn : γ → κ → γ' → κ × δ) (pre : γ → κ → γ' → List Prop) : Con := fun args h =>
  match args.drop q with
  | .p i 0 :: rest => match h.get i with
    | .cells xs t' => match Nat.beq t' t with
      | true => match C.decs xs, D.dec (vwA (h.set i .dead) (args.take q)).1, D'.dec (vwA (h.set i .dead) rest).1 with
        | some (k, ks), some (g, ps), some (g', qs) => asks (ks ++ (((vwA (h.set i .dead) (args.take q)).2 ++ ps) ++ (((vwA (h.set i .dead) rest).2 ++ qs) ++ pre g k g'))) (.ret (R.enc (fn g k g').2, h.set i (.cells (C.cells (fn g k g').1) t)))
        | _, _, _ => .bad 664
      | false => .bad 665
    | _ => .bad 666
  | _ => .bad 667
theorem conC_ok {q : Nat} (hp : FnPtr P f t C D D' R fn pre) (hR : ∀ r, Pu (R.enc r)) (hC : ∀ k, Pus (C.cells k)) : FnOk P f (conC q t C D D' R fn pre) := by
  intro M w0 w ρ h args vs K hK hm hfits
  unfold conC at hK
  split at hK
  · rename_i i rest hdrop
    have hargs : args = args.take q ++ .p i 0 :: rest := by rw [← hdrop, List.take_append_drop]
    have hf1 := fits_take q hfits
    have hf2 := fits_drop q hfits
    rw [hdrop] at hf2
    obtain ⟨v0, vs', hvs', hv0, hr⟩ := fits_cons hf2
    have hvs : vs = vs.take q ++ v0 :: vs' := by rw [← hvs', List.take_append_drop]
    obtain ⟨hil, rfl⟩ := hv0
    split at hK
    · rename_i xs t' hg
      split at hK
      · rename_i hb
        have e1 := beq_of hb
        subst e1
        split at hK
        · rename_i k ks g ps g' qs hk hd hd'
          obtain ⟨hq, hK⟩ := asks_holds hK
          have q1 : ∀ p ∈ ks, p := fun p h' => hq p (List.mem_append_left _ h')
          have q2 : ∀ p ∈ (vwA (h.set i .dead) (args.take q)).2, p := fun p h' => hq p (List.mem_append_right _ (List.mem_append_left _ (List.mem_append_left _ h')))
          have q3 : ∀ p ∈ ps, p := fun p h' => hq p (List.mem_append_right _ (List.mem_append_left _ (List.mem_append_right _ h')))
          have q4 : ∀ p ∈ (vwA (h.set i .dead) rest).2, p := fun p h' => hq p (List.mem_append_right _ (List.mem_append_right _ (List.mem_append_left _ (List.mem_append_left _ h'))))
          have q5 : ∀ p ∈ qs, p := fun p h' => hq p (List.mem_append_right _ (List.mem_append_right _ (List.mem_append_left _ (List.mem_append_right _ h'))))
          have q6 : ∀ p ∈ pre g k g', p := fun p h' => hq p (List.mem_append_right _ (List.mem_append_right _ (List.mem_append_right _ h')))
          have hob := hm.ob i
          have hown : (h.get i).own (ρ i) := by rw [hg]; trivial
          rw [hg] at hob
          obtain ⟨hnl, hoff, l, ho, hl⟩ := hob
          let F : Nat → Option Obj := fun b => if b = (ρ i).blk then none else w.heap[b]?
          have hF : ∀ b o, F b = some o → w.heap[b]? = some o := fun b o hb => by
            simp only [F] at hb
            split at hb
            · cases hb
            · exact hb
          have hmd := hm.forget i
          have hG : ∀ b o, ρ.mem b = some o → F b = some o := fun b o hb => by
            simp only [F]
            rw [if_neg (hm.ne_mem hown hb)]
            exact hm.fz b o hb
          have hO : ∀ j o, ((h.set i .dead).get j).own (ρ j) → w.heap[(ρ j).blk]? = some o → F (ρ j).blk = some o := fun j o hj hjo => by
            rw [SH.get_set] at hj
            by_cases hji : j = i
            · rw [if_pos hji] at hj; exact hj.elim
            · rw [if_neg hji] at hj
              simp only [F]
              rw [if_neg (hm.ne_own hown hj hji)]
              exact hjo
          have a1 := vwA_ok (G := F) hmd hG hO hf1 q2
          have a2 := D.cl _ _ 0 ⟨ρ.lc, F, ρ.lo⟩ (emp F) _ (fun _ _ h => h) (D.ok _ _ _ _ _ _ hd q3 a1)
          have b1 := vwA_ok (G := F) hmd hG hO hr q4
          have b2 := D'.cl _ _ 0 ⟨ρ.lc, F, ρ.lo⟩ (emp F) _ (fun _ _ h => h) (D'.ok _ _ _ _ _ _ hd' q5 b1)
          have c1 := hC k _ 0 ρ (emp F) _ (C.ok _ _ _ _ _ _ hk q1 hl)
          have hcall := hp w F (ρ i).blk l k g g' (vs.take q) vs' hF (by simp [F]) ho c1 q6 a2 b2
          rw [hvs]
          rw [show (ρ i).off + 0 = 0 by omega]
          refine hcall.mono ?_
          rintro e w' ⟨x, l', rfl, hbm, ho', hl', hx⟩
          have hlt : (ρ i).blk < w.heap.size := hm.lt_heap hown
          refine ⟨_, _, ρ, x, hK, Nat.le_refl _, Agree.refl _ _, ?_, hR _ _ _ _ _ _ hx, rfl⟩
          exact {
            os := hbm.os.trans hm.os
            tape := hbm.tape.trans hm.tape
            output := hbm.output.trans hm.output
            size := Nat.le_trans hm.size hbm.size
            block := fun c hc hM => by
              rw [hbm.block c (Nat.lt_of_lt_of_le hc hm.size) fun hB => ?_]
              · exact hm.block c hc hM
              · rcases hm.ow i hown with h | h
                · omega
                · rw [← hB] at h; exact hM h
            lt := fun j hj => by
              rw [SH.get_set] at hj
              by_cases hji : j = i
              · subst hji; exact hil
              · rw [if_neg hji] at hj; exact hm.lt j hj
            ob := fun j => by
              rw [SH.get_set]
              by_cases hji : j = i
              · subst hji
                rw [if_pos rfl]
                exact ⟨hnl, hoff, l', ho', hC _ _ _ _ _ _ hl'⟩
              · rw [if_neg hji]
                exact hm.ob_other fun hj => hbm.block _ (hm.lt_heap hj) (hm.ne_own hown hj hji)
            ow := fun j hj => by
              rw [SH.get_set] at hj
              by_cases hji : j = i
              · subst hji; exact hm.ow j hown
              · rw [if_neg hji] at hj; exact hm.ow j hj
            fz := fun c o hc => by
              rw [hbm.block c (hm.lt_mem hc) (hm.ne_mem hown hc)]
              exact hm.fz c o hc
            sep := fun j hj => by
              rw [SH.get_set] at hj
              by_cases hji : j = i
              · subst hji; exact hm.sep j hown
              · rw [if_neg hji] at hj; exact hm.sep j hj
            old := hm.old
            inj := fun j c hj hc => by
              rw [SH.get_set] at hj hc
              have k1 : (h.get j).own (ρ j) := by
                by_cases hji : j = i
                · subst hji; exact hown
                · rw [if_neg hji] at hj; exact hj
              have k2 : (h.get c).own (ρ c) := by
                by_cases hci : c = i
                · subst hci; exact hown
                · rw [if_neg hci] at hc; exact hc
              exact hm.inj j c k1 k2 }
        · exact hK.elim
      · exact hK.elim
    · exact hK.elim
  · exact hK.elim
def bconC (q : Nat) (t : TypeId) (C : El κ) (D : DA γ) (D' : DA γ') (R : Dv δ) (fn : γ → κ → γ' → κ × δ) (pre : γ → κ → γ' → List Prop) : BCon := ⟨conC q t C D D' R fn pre, fun args h => by
  unfold conC
  split
  · split
    · split
      · split
        · exact asks_each rfl
        · trivial
      · trivial
    · trivial
  · trivial⟩
end
end Go.Sx

/- Functions with captured variables as plain data: iterators that are handed on. -/
namespace Go.Sx
open Go.RowKit

theorem cl_pr {xs : List SV} (h : Cls xs) : Cl (.pr xs) := by
  intro n m ρ ρ' x hm hf
  obtain ⟨b, o, cs, t, fz, k1, k2, vs, k3, k4⟩ := hf
  exact ⟨b, o, cs, t, fz, k1, hm _ _ k2, vs, h n m ρ ρ' vs hm k3, k4⟩
theorem cl_fn {f : Nat} {xs : List SV} (h : Cls xs) : Cl (.fn f xs) := by
  intro n m ρ ρ' x hm hf
  obtain ⟨l, rfl, hl⟩ := hf
  exact ⟨l, rfl, h n m ρ ρ' l hm hl⟩
/-- A function that has captured one variable of one cell. -/
def dFn1 {α : Type} (f : Nat) (A : Dv α) : Dv α where
  dec s := match s with
    | .fn f' [.pr [s]] => bif Nat.beq f f' then A.dec s else none
    | _ => none
  enc a := .fn f [.pr [A.enc a]]
  bd := A.bd
  cl a := cl_fn (cls_cons (cl_pr (cls_cons (A.cl a) cls_nil)) cls_nil)
  ok s a ps n ρ x hd hp hf := by
    split at hd
    · rename_i f' s
      cases hb : Nat.beq f f' with
      | false => rw [hb] at hd; cases hd
      | true =>
        rw [hb] at hd
        rw [beq_of hb]
        obtain ⟨l, rfl, hl⟩ := hf
        refine ⟨l, rfl, ?_⟩
        obtain ⟨y, r, rfl, hy, hr⟩ := fits_cons hl
        refine ⟨?_, hr⟩
        obtain ⟨b, o, cs, t, fz, k1, k2, vs, k3, k4⟩ := hy
        obtain ⟨z, r', rfl, hz, hr'⟩ := fits_cons k3
        exact ⟨b, o, cs, t, fz, k1, k2, z :: r', ⟨A.ok _ _ _ _ _ _ hd hp hz, hr'⟩, k4⟩
    · cases hd
  fb a n ρ x hf := by
    obtain ⟨l, rfl, hl⟩ := hf
    obtain ⟨y, r, rfl, hy, hr⟩ := fits_cons hl
    obtain ⟨b, o, cs, t, fz, k1, k2, vs, k3, k4⟩ := hy
    obtain ⟨z, r', rfl, hz, hr'⟩ := fits_cons k3
    exact A.fb _ _ _ _ hz
/-- A function that has captured one variable. -/
def dFnE {α : Type} (f : Nat) (A : El α) : Dv α where
  dec s := match s with
    | .fn f' [.pr l] => bif Nat.beq f f' then A.decs l else none
    | _ => none
  enc a := .fn f [.pr (A.cells a)]
  bd := A.bd
  cl a := cl_fn (cls_cons (cl_pr (A.cl a)) cls_nil)
  ok s a ps n ρ x hd hp hf := by
    split at hd
    · rename_i f' s
      cases hb : Nat.beq f f' with
      | false => rw [hb] at hd; cases hd
      | true =>
        rw [hb] at hd
        rw [beq_of hb]
        obtain ⟨l, rfl, hl⟩ := hf
        refine ⟨l, rfl, ?_⟩
        obtain ⟨y, r, rfl, hy, hr⟩ := fits_cons hl
        refine ⟨?_, hr⟩
        obtain ⟨b, o, cs, t, fz, k1, k2, vs, k3, k4⟩ := hy
        exact ⟨b, o, cs, t, fz, k1, k2, vs, A.ok _ _ _ _ _ _ hd hp k3, k4⟩
    · cases hd
  fb a n ρ x hf := by
    obtain ⟨l, rfl, hl⟩ := hf
    obtain ⟨y, r, rfl, hy, hr⟩ := fits_cons hl
    obtain ⟨b, o, cs, t, fz, k1, k2, vs, k3, k4⟩ := hy
    exact A.fb _ _ _ _ k3
end Go.Sx

/- Results that a function has made itself, rows among them, as plain data: what came about is said by list operations. -/
namespace Go.Sx
open Go.RowKit

/-- What the machine's memory says of what is known, looked at as if it were only read. -/
structure Vwd (M : Nat → Prop) (w0 : World) (ρ : Rh) (h : SH) (w : World) (G : Nat → Option Obj) : Prop where
  hm : HM M w0 ρ h w
  hG : ∀ b o, ρ.mem b = some o → G b = some o
  hO : ∀ i o, (h.get i).own (ρ i) → w.heap[(ρ i).blk]? = some o → G (ρ i).blk = some o

/-- How a result is read. -/
structure Rv (δ : Type) where
  D : Dv δ
  dec : SH → SV → Option (δ × List Prop)
  ok : ∀ {M : Nat → Prop} {w0 : World} {ρ : Rh} {h : SH} {w : World} {G : Nat → Option Obj}, Vwd M w0 ρ h w G → ∀ {s : SV} {r : δ} {ps : List Prop} {x : Value}, dec h s = some (r, ps) → (∀ p ∈ ps, p) → s.fit h.nx ρ x → (D.enc r).fit h.nx ⟨ρ.lc, G, ρ.lo⟩ x
abbrev Rv.T {δ : Type} (_ : Rv δ) : Type := δ
def Rv.of {δ : Type} (D : Dv δ) : Rv δ where
  D := D
  dec h s := match D.dec (vw2 h s).1 with
    | some (r, ps) => some (r, (vw2 h s).2 ++ ps)
    | none => none
  ok {_ _ _ _ _ _} hv {_ _ _ _} hd hp hf := by
    split at hd
    · rename_i r ps hr
      simp only [Option.some.injEq, Prod.mk.injEq] at hd
      obtain ⟨rfl, rfl⟩ := hd
      exact D.ok _ _ _ _ _ _ hr (fun p h' => hp p (List.mem_append_right _ h')) (vw2_ok hv.hm hv.hG hv.hO hf fun p h' => hp p (List.mem_append_left _ h'))
    · cases hd
/-- A list: of rows of one's own it is known how they came about. -/
def Rv.list {α : Type} (A : El α) : Rv (List α) where
  D := .list A
  dec h s := match s with
    | .ow i l => match h.get i with
      | .row _ sz el m => bif Nat.beq sz A.sz then some (A.lstE l el, (l ≤ m) :: A.okE l el) else none
      | _ => none
    | .se i sz o l => match h.get i with
      | .row _ s el m => bif Nat.beq s sz && Nat.beq sz A.sz then some (A.lstE l (.sh o el), (o + l ≤ m) :: A.okE l (.sh o el)) else none
      | _ => none
    | s => (Rv.of (.list A)).dec h s
  ok {M w0 ρ h w G} hv {s r ps x} hd hp hf := by
    split at hd
    · rename_i i l
      split at hd
      · rename_i t sz el m hg
        cases hb : Nat.beq sz A.sz with
        | false => rw [hb] at hd; cases hd
        | true =>
          rw [hb] at hd
          simp only [cond_true, Option.some.injEq, Prod.mk.injEq] at hd
          obtain ⟨rfl, rfl⟩ := hd
          have e0 : vw0 h (.ow i l) = (.rs sz l el, [l ≤ m]) := by simp only [vw0, hg]
          have h1 := vw0_ok hv.hm hv.hG hv.hO hf (by rw [e0]; intro p hp'; simp only [List.mem_singleton] at hp'; subst hp'; exact hp _ (List.mem_cons_self ..))
          rw [e0] at h1
          rw [A.lstE_eq]
          exact (Dv.list A).ok (.rs sz l el.at) _ [∀ e, e < l → A.Ok (el.at e)] _ _ _ (by simp [Dv.list, hb]) (by
            intro p hp'
            simp only [List.mem_singleton] at hp'
            subst hp'
            exact A.okE_ok l el fun p h' => hp p (List.mem_cons_of_mem _ h')) h1
      · cases hd
    · rename_i i sz o l
      split at hd
      · rename_i t s el m hg
        cases hb : (Nat.beq s sz && Nat.beq sz A.sz) with
        | false => rw [hb] at hd; cases hd
        | true =>
          rw [hb] at hd
          simp only [cond_true, Option.some.injEq, Prod.mk.injEq] at hd
          obtain ⟨rfl, rfl⟩ := hd
          simp only [Bool.and_eq_true] at hb
          have e0 : vw0 h (.se i sz o l) = (.rs sz l (ElE.sh o el), [o + l ≤ m]) := by simp only [vw0, hg, hb.1, cond_true]
          have h1 := vw0_ok hv.hm hv.hG hv.hO hf (by rw [e0]; intro p hp'; simp only [List.mem_singleton] at hp'; subst hp'; exact hp _ (List.mem_cons_self ..))
          rw [e0] at h1
          rw [A.lstE_eq]
          exact (Dv.list A).ok (.rs sz l (ElE.sh o el).at) _ [∀ e, e < l → A.Ok ((ElE.sh o el).at e)] _ _ _ (by simp [Dv.list, hb.2]) (by
            intro p hp'
            simp only [List.mem_singleton] at hp'
            subst hp'
            exact A.okE_ok l (ElE.sh o el) fun p h' => hp p (List.mem_cons_of_mem _ h')) h1
      · cases hd
    · exact (Rv.of (.list A)).ok hv hd hp hf
/-- Several. -/
structure RvA (γ : Type) where
  D : DA γ
  dec : SH → List SV → Option (γ × List Prop)
  ok : ∀ {M : Nat → Prop} {w0 : World} {ρ : Rh} {h : SH} {w : World} {G : Nat → Option Obj}, Vwd M w0 ρ h w G → ∀ {s : List SV} {r : γ} {ps : List Prop} {x : List Value}, dec h s = some (r, ps) → (∀ p ∈ ps, p) → SV.fits h.nx ρ s x → SV.fits h.nx ⟨ρ.lc, G, ρ.lo⟩ (D.enc r) x
def RvA.one {α : Type} (R : Rv α) : RvA α where
  D := .one R.D
  dec h l := match l with
    | [s] => R.dec h s
    | _ => Option.none
  ok {_ _ _ _ _ _} hv {s r ps x} hd hp hf := by
    split at hd
    · obtain ⟨y, r', rfl, hy, hr⟩ := fits_cons hf
      have := fits_nil hr
      subst this
      exact ⟨R.ok hv hd hp hy, trivial⟩
    · cases hd
def RvA.cons {α γ : Type} (R : Rv α) (A : RvA γ) : RvA (α × γ) where
  D := .cons R.D A.D
  dec h l := match l with
    | s :: r => match R.dec h s with
      | some (a, ps) => match A.dec h r with
        | some (g, qs) => some ((a, g), ps ++ qs)
        | Option.none => Option.none
      | Option.none => Option.none
    | [] => Option.none
  ok {_ _ _ _ _ _} hv {s r ps x} hd hp hf := by
    split at hd
    · rename_i s r
      split at hd
      · rename_i a ps0 h1
        split at hd
        · rename_i g0 qs0 h2
          simp only [Option.some.injEq, Prod.mk.injEq] at hd
          obtain ⟨rfl, rfl⟩ := hd
          obtain ⟨y, r', rfl, hy, hr⟩ := fits_cons hf
          exact ⟨R.ok hv h1 (fun p hp' => hp p (List.mem_append_left _ hp')) hy, A.ok hv h2 (fun p hp' => hp p (List.mem_append_right _ hp')) hr⟩
        · cases hd
      · cases hd
    · cases hd
def Rv.tup {γ : Type} (A : RvA γ) : Rv γ where
  D := .tup A.D
  dec h s := match s with
    | .tup l => A.dec h l
    | _ => none
  ok {_ _ _ _ _ _} hv {s r ps x} hd hp hf := by
    split at hd
    · obtain ⟨v, rfl, hv'⟩ := hf
      exact ⟨v, rfl, A.ok hv hd hp hv'⟩
    · cases hd
/-- What a function makes of plain data, as a tree of plain data. -/
def rTree {δ : Type} (P : Program) (Γ : Gam) (Λ : Lam) (n f : Nat) (args : List SV) (R : Rv δ) : Tr δ :=
  (fnTree P Γ Λ n f args ⟨0, [], []⟩).bind fun y => match R.dec y.2 y.1 with
    | some (r, ps) => asks ps (.ret r)
    | none => .bad 620
section
variable {P : Program} {Γ : Gam} {Λ : Lam} {f : Nat} {γ δ : Type} {D : DA γ} {R : Rv δ} {fn : γ → δ} {pre : γ → List Prop}
theorem res_of_tree (hΓ : ∀ f g, Γ.g f = some g → FnOk P f g) (hΛ : ∀ f k L, Λ f k = some L → ∀ b ∈ loopsOf P f, lkey b = k → LoopOk P b L.g) (n : Nat)
    (hT : ∀ g, D.bd g → (∀ p ∈ pre g, p) → (rTree P Γ Λ n f (D.enc g) R).Holds (· = fn g)) : FnPure P f D R.D fn pre := by
  intro w F g vs hF hpre hfit
  have hbd := D.fb _ _ _ _ hfit
  have hT := hT g hbd hpre
  have h0 := fnTree_ok hΓ hΛ n (fun _ => False) w w (emp F) ⟨0, [], []⟩ _ vs _ (Tr.holds_bind hT) (HM.start w (emp F) hF fun _ _ h => h) hfit
  refine h0.mono ?_
  rintro e w' ⟨s, h', ρ', x, h1, h2, h3, h4, h5, rfl⟩
  refine ⟨x, rfl, h4.toBelow, ?_⟩
  simp only at h1
  have hv : Vwd (fun _ => False) w ρ' h' w' (memAt F w w') := {
    hm := h4
    hG := fun b o hb => by
      unfold memAt
      split
      · rename_i hlt
        have := h4.old b o hb hlt (fun h => h)
        rw [h3.2.2] at this
        exact this
      · exact h4.fz b o hb
    hO := fun i o hown ho => by
      unfold memAt
      rcases h4.ow i hown with h | h
      · rw [if_neg (by omega)]; exact ho
      · exact h.elim }
  split at h1
  · rename_i r ps hr
    obtain ⟨hq, h1⟩ := asks_holds h1
    have h1 : r = fn g := h1
    have := R.ok hv hr hq h5
    rw [h1] at this
    exact R.D.cl _ _ 0 ⟨ρ'.lc, memAt F w w', ρ'.lo⟩ (emp (memAt F w w')) x (fun _ _ h => h) this
  · exact h1.elim
theorem res_of_side (hΓ : ∀ f g, Γ.g f = some g → FnOk P f g) (hΛ : ∀ f k L, Λ f k = some L → ∀ b ∈ loopsOf P f, lkey b = k → LoopOk P b L.g) (n : Nat) (d : δ) (S : γ → Prop)
    (hS : ∀ g, (rTree P Γ Λ n f (D.enc g) R).side = S g) (he : ∀ g, (rTree P Γ Λ n f (D.enc g) R).ev d = fn g) (hs : ∀ g, D.bd g → (∀ p ∈ pre g, p) → S g) : FnPure P f D R.D fn pre :=
  res_of_tree hΓ hΛ n fun g h1 h2 => by
    have := Tr.side_holds d (by rw [hS]; exact hs g h1 h2 : (rTree P Γ Λ n f (D.enc g) R).side)
    rw [he g] at this
    exact this
end
end Go.Sx
