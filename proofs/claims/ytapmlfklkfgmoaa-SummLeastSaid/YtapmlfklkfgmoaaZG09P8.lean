/- Chapter 2: the document's insert, as a function; its loop that asks all. -/
import Derived.Test.YtapmlfklkfgmoaaZG08P8
import Derived.Test.YtapmlfklkfgmoaaZG06P8
set_option linter.unusedVariables false
set_option linter.unusedSimpArgs false
set_option linter.constructorNameAsVariable false
set_option linter.all false

namespace Go.Proofs.Ytapmlfklkfgmoaa
open Go.RowKit Go.Sx Go.Lp
abbrev cR (a b : S) : Int := rcompare_F a b
theorem rin_fun : (fun g : rin_G => rin_R g.1 g.2.1 g.2.2.1 g.2.2.2.1 g.2.2.2.2.1 g.2.2.2.2.2) = isF 0 eS.dflt cR := funext rin_RF
theorem rin_inv (xs : List S) (s : S) (h : xs.length ≤ KS) : allP (isI KS ((xs, (), s, [], false, 0) : IsG S)) := fun q hq => by
  simp only [isI, List.mem_singleton] at hq
  subst hq
  exact ⟨h, Int.le_refl _, by show (0 : Int) ≤ (xs.length : Int); omega, by simp⟩
theorem rinsF_ok : FnPure Try.prog 58 aLS1 dLS (fun g => insU cR g.2 g.1) (fun g => [g.1.length ≤ KS]) := by
  have hK : KS ≤ 9223372036854775807 := by unfold KS; omega
  have h := rins_okS (fun g => [g.1.length ≤ KS]) fun g _ hp => by
    obtain ⟨xs, s⟩ := g
    have hl : xs.length ≤ KS := hp _ (List.mem_cons_self ..)
    have hI := rin_inv xs s hl
    have hr := is_run 0 eS.dflt cR hK _ hI
    show rins_side xs s
    unfold rins_side rins_q1
    simp only [eS.lst_els, rin_fun, bytesS]
    generalize loopF (isF 0 eS.dflt cR) isM (xs, (), s, [], false, 0) = r at hr ⊢
    obtain ⟨_, _, _, _, h5⟩ := hr
    simp only at h5
    unfold KS at hl
    have ha := ok_all xs
    have hI := hI _ (List.mem_cons_self ..)
    refine ⟨ha, hI, fun _ => ⟨⟨Nat.le_refl _, trivial, by unfold maxLen; omega, by omega⟩, Nat.le_refl _, fun _ _ => trivial, fun _ _ => trivial⟩, fun _ => ⟨Nat.le_refl _, fun _ _ => trivial⟩⟩
  refine pure_congr h fun g _ hp => ?_
  obtain ⟨xs, s⟩ := g
  have hl : xs.length ≤ KS := hp _ (List.mem_cons_self ..)
  have hr := is_run 0 eS.dflt cR hK _ (rin_inv xs s hl)
  show rins_F xs s = insU cR s xs
  unfold rins_F rins_q1
  simp only [eS.lst_els, rin_fun]
  generalize loopF (isF 0 eS.dflt cR) isM (xs, (), s, [], false, 0) = r at hr ⊢
  obtain ⟨_, _, h3, h4, _⟩ := hr
  simp only [List.nil_append, insG_false] at h3 h4
  have e0 : (0 : Int).toNat = 0 := rfl
  rw [e0, List.drop_zero] at h4
  rw [← h4, app1, h3]
  cases r.2.2.2.2.2.1 <;> simp
abbrev undS (xs : List S) (j : Int) (y : S) : Bool := under_F y (xs.getD j.toNat eS.dflt)
theorem ran_RF (g : ran_G) : ran_R g.1 g.2.1 g.2.2.1 g.2.2.2 = anF 4 eS.dflt undS g := by
  obtain ⟨xs, j, i, b⟩ := g
  show ran_R xs j i b = anF 4 eS.dflt undS (xs, j, i, b)
  unfold ran_R anF
  rw [eS.lst_els]
  simp only [undS]
  generalize under_F (xs.getD i.toNat eS.dflt) (xs.getD j.toNat eS.dflt) = c
  cases c <;> rfl
abbrev okJ (xs : List S) (j : Int) : Prop := 0 ≤ j ∧ j < (xs.length : Int)
theorem ran_ok : ∀ b ∈ loopsOf Try.prog 38, lkey b = 14 → LoopOk Try.prog b (ran_C (anI okJ) anM).g := by
  refine ran_loop (anI okJ) anM (fun g hi => ?_) ?_
  · obtain ⟨xs, j, i, b⟩ := g
    obtain ⟨h2, h3, h4, h5⟩ := hi _ (List.mem_cons_self ..)
    simp only at h2 h3 h4 h5
    refine ⟨fun hc => ?_, fun _ => ok_all xs⟩
    have hc : i < (xs.length : Int) := of_decide_eq_true hc
    exact ⟨⟨h3, hc⟩, h5, ok_all xs⟩
  · rw [show (fun g : ran_G => ran_R g.1 g.2.1 g.2.2.1 g.2.2.2) = anF 4 eS.dflt undS from funext ran_RF]
    exact an_goes _ _ _ _
noncomputable def lt28 : LTab Try.prog := ((LTab.nil.cons 38 2 (rla_C er2I er2M) rla_ok).cons 38 14 (ran_C (anI okJ) anM) ran_ok)
noncomputable abbrev lam28 : Lam := lt28.lam
theorem lam28_ok : ∀ f k L, lam28 f k = some L → ∀ b ∈ loopsOf Try.prog f, lkey b = k → LoopOk Try.prog b L.g := lt28.ok
noncomputable def tab28a : PTab Try.prog := tab26p.cons 58 (pconR aLS1 dLS (fun g => insU cR g.2 g.1) (fun g => [g.1.length ≤ KS])) (conR_ok rinsF_ok)
end Go.Proofs.Ytapmlfklkfgmoaa

/- Chapter 2: the document's Least, its outer loop. Printed by treegen.py. -/
namespace Go.Proofs.Ytapmlfklkfgmoaa
open Go.RowKit Go.Sx
set_option maxRecDepth 100000
set_option linter.unusedVariables false
noncomputable def rlb_q1 (xs : List S) (out : List S) (i : Int) (_u : Unit) (e : Int) : Ex ×
  ran_G :=
  loopF (fun g => ran_R g.fst g.snd.fst g.snd.snd.fst g.snd.snd.snd) Lp.anM
    (eS.lst xs.length (eS.els xs), i, (0 : Int), true)
noncomputable def rlb_q2 (xs : List S) (out : List S) (i : Int) (_u : Unit) (e : Int) : Ex ×
  ran_G :=
  loopF (fun g => ran_R g.fst g.snd.fst g.snd.snd.fst g.snd.snd.snd) Lp.anM
    (eS.lst (xs, out, i, (), e).fst.length (eS.els (xs, out, i, (), e).fst), (xs, out, i, (), e).snd.snd.fst, (0 : Int),
      true)
abbrev rlb_G : Type := List S × List S × Int × Unit × Int
def rlb_LP : LP 0 rlb_G := .pair (.slot 0 0 dLS) (.pair (.slot 0 5 dLS) (.pair (.slot 0 6 dI) (.pair (.fix 0 2 (.k (.slice none 0 0))) (.slot 0 3 dI))))
noncomputable def rlb_R (xs : List S) (out : List S) (i : Int) (_u : Unit) (e : Int) : Ex × rlb_G :=
  bif decide (i < (↑xs.length : Int)) then
    bif
        (xs.getD i.toNat eS.dflt).f != (xs.getD (0 : Nat) eS.dflt).f ||
          IntKind.i64.wrap ((xs.getD i.toNat eS.dflt).k + (xs.getD i.toNat eS.dflt).n) !=
            IntKind.i64.wrap ((xs.getD (0 : Nat) eS.dflt).k + (xs.getD (0 : Nat) eS.dflt).n) then
      (Ex.ret, eS.lst xs.length (eS.els xs), eS.lst out.length (eS.els out), i, (), (11 : Int))
    else
      (Ex.normal, eS.lst (rlb_q1 xs out i _u e).snd.fst.length (eS.els (rlb_q1 xs out i _u e).snd.fst),
        eS.lst
          (bif (rlb_q1 xs out i _u e).snd.snd.snd.snd then
            (Lp.insU cR ((rlb_q1 xs out i _u e).snd.fst.getD (rlb_q1 xs out i _u e).snd.snd.fst.toNat eS.dflt) (eS.lst out.length (eS.els out))).length
          else out.length)
          (bif (rlb_q1 xs out i _u e).snd.snd.snd.snd then
            eS.els (Lp.insU cR ((rlb_q1 xs out i _u e).snd.fst.getD (rlb_q1 xs out i _u e).snd.snd.fst.toNat eS.dflt) (eS.lst out.length (eS.els out)))
          else eS.els out),
        IntKind.i64.wrap ((rlb_q1 xs out i _u e).snd.snd.fst + (1 : Int)), (), e)
  else (Ex.exit (2 : Nat), eS.lst xs.length (eS.els xs), eS.lst out.length (eS.els out), i, (), e)
def rlb_side (xs : List S) (out : List S) (i : Int) (_u : Unit) (e : Int) : Prop :=
  (decide (i < (↑xs.length : Int)) = true →
      ((0 : Int) ≤ i ∧ i < (↑xs.length : Int)) ∧
        ((0 : Int) ≤ (0 : Int) ∧ (0 : Int) < (↑xs.length : Int)) ∧
          ((!((xs, out, i, (), e).fst.getD (xs, out, i, (), e).snd.snd.fst.toNat eS.dflt).toP.fst !=
                    ((xs, out, i, (), e).fst.getD (Int.toNat (0 : Int)) eS.dflt).toP.fst) =
                true →
              (0 : Int) ≤ i ∧ i < (↑xs.length : Int)) ∧
            ((!((xs, out, i, (), e).fst.getD (xs, out, i, (), e).snd.snd.fst.toNat eS.dflt).toP.fst !=
                      ((xs, out, i, (), e).fst.getD (Int.toNat (0 : Int)) eS.dflt).toP.fst) =
                  true →
                (0 : Int) ≤ i ∧ i < (↑xs.length : Int)) ∧
              ((!((xs, out, i, (), e).fst.getD (xs, out, i, (), e).snd.snd.fst.toNat eS.dflt).toP.fst !=
                        ((xs, out, i, (), e).fst.getD (Int.toNat (0 : Int)) eS.dflt).toP.fst) =
                    true →
                  (0 : Int) ≤ (0 : Int) ∧ (0 : Int) < (↑xs.length : Int)) ∧
                ((!((xs, out, i, (), e).fst.getD (xs, out, i, (), e).snd.snd.fst.toNat eS.dflt).toP.fst !=
                          ((xs, out, i, (), e).fst.getD (Int.toNat (0 : Int)) eS.dflt).toP.fst) =
                      true →
                    (0 : Int) ≤ (0 : Int) ∧ (0 : Int) < (↑xs.length : Int)) ∧
                  (((xs.getD i.toNat eS.dflt).f != (xs.getD (0 : Nat) eS.dflt).f ||
                          IntKind.i64.wrap ((xs.getD i.toNat eS.dflt).k + (xs.getD i.toNat eS.dflt).n) !=
                            IntKind.i64.wrap ((xs.getD (0 : Nat) eS.dflt).k + (xs.getD (0 : Nat) eS.dflt).n)) =
                        true →
                      (∀ (e_1 : Nat), e_1 < (xs, out, i, (), e).fst.length → eS.Ok (eS.els xs e_1)) ∧
                        ∀ (e_1 : Nat), e_1 < (xs, out, i, (), e).snd.fst.length → eS.Ok (eS.els out e_1)) ∧
                    (((xs.getD i.toNat eS.dflt).f != (xs.getD (0 : Nat) eS.dflt).f ||
                          IntKind.i64.wrap ((xs.getD i.toNat eS.dflt).k + (xs.getD i.toNat eS.dflt).n) !=
                            IntKind.i64.wrap ((xs.getD (0 : Nat) eS.dflt).k + (xs.getD (0 : Nat) eS.dflt).n)) =
                        false →
                      (∀ (e_1 : Nat), e_1 < (xs, out, i, (), e).fst.length → eS.Ok (eS.els xs e_1)) ∧
                        ((eS.lst xs.length (eS.els xs)).length ≤ maxLen ∧
                            (0 : Int) ≤ (0 : Int) ∧
                              (0 : Int) ≤ (↑(eS.lst xs.length (eS.els xs)).length : Int) ∧
                                okJ (eS.lst xs.length (eS.els xs)) i) ∧
                          ((Ex.exit (4 : Nat), (rlb_q2 xs out i _u e).snd).snd.snd.snd.snd = true →
                              (0 : Int) ≤ (rlb_q1 xs out i _u e).snd.snd.fst ∧ (rlb_q1 xs out i _u e).snd.snd.fst < (↑(rlb_q1 xs out i _u e).snd.fst.length : Int)) ∧
                            ((Ex.exit (4 : Nat), (rlb_q2 xs out i _u e).snd).snd.snd.snd.snd = true →
                                ∀ (e_1 : Nat), e_1 < (xs, out, i, (), e).snd.fst.length → eS.Ok (eS.els out e_1)) ∧
                              ((Ex.exit (4 : Nat), (rlb_q2 xs out i _u e).snd).snd.snd.snd.snd = true →
                                  (eS.lst out.length (eS.els out)).length ≤ KS) ∧
                                (∀ (e : Nat),
                                    e < (Ex.exit (4 : Nat), (rlb_q2 xs out i _u e).snd).snd.fst.length → eS.Ok (eS.els (rlb_q1 xs out i _u e).snd.fst e)) ∧
                                  ∀ (e_1 : Nat),
                                    (e_1 <
                                        bif (Ex.exit (4 : Nat), (rlb_q2 xs out i _u e).snd).snd.snd.snd.snd then
                                          ((fun g => Lp.insU cR g.snd g.fst)
                                              (eS.lst (xs, out, i, (), e).snd.fst.length
                                                  (eS.els (xs, out, i, (), e).snd.fst),
                                                S.ofP
                                                  (((Ex.exit (4 : Nat), (rlb_q2 xs out i _u e).snd).snd.fst.getD
                                                          (Ex.exit (4 : Nat), (rlb_q2 xs out i _u e).snd).snd.snd.fst.toNat eS.dflt).toP.fst,
                                                    ((Ex.exit (4 : Nat), (rlb_q2 xs out i _u e).snd).snd.fst.getD
                                                            (Ex.exit (4 : Nat), (rlb_q2 xs out i _u e).snd).snd.snd.fst.toNat
                                                            eS.dflt).toP.snd.fst,
                                                    ((Ex.exit (4 : Nat), (rlb_q2 xs out i _u e).snd).snd.fst.getD
                                                              (Ex.exit (4 : Nat), (rlb_q2 xs out i _u e).snd).snd.snd.fst.toNat
                                                              eS.dflt).toP.snd.snd.fst,
                                                    ((Ex.exit (4 : Nat), (rlb_q2 xs out i _u e).snd).snd.fst.getD
                                                                (Ex.exit (4 : Nat), (rlb_q2 xs out i _u e).snd).snd.snd.fst.toNat
                                                                eS.dflt).toP.snd.snd.snd.fst,
                                                    ((Ex.exit (4 : Nat), (rlb_q2 xs out i _u e).snd).snd.fst.getD
                                                                  (Ex.exit (4 : Nat), (rlb_q2 xs out i _u e).snd).snd.snd.fst.toNat
                                                                  eS.dflt).toP.snd.snd.snd.snd.fst,
                                                    ((Ex.exit (4 : Nat), (rlb_q2 xs out i _u e).snd).snd.fst.getD
                                                                    (Ex.exit (4 : Nat), (rlb_q2 xs out i _u e).snd).snd.snd.fst.toNat
                                                                    eS.dflt).toP.snd.snd.snd.snd.snd.fst,
                                                    ((Ex.exit (4 : Nat), (rlb_q2 xs out i _u e).snd).snd.fst.getD
                                                                      (Ex.exit (4 : Nat), (rlb_q2 xs out i _u e).snd).snd.snd.fst.toNat
                                                                      eS.dflt).toP.snd.snd.snd.snd.snd.snd.fst,
                                                    ((Ex.exit (4 : Nat), (rlb_q2 xs out i _u e).snd).snd.fst.getD
                                                                      (Ex.exit (4 : Nat), (rlb_q2 xs out i _u e).snd).snd.snd.fst.toNat
                                                                      eS.dflt).toP.snd.snd.snd.snd.snd.snd.snd))).length
                                        else (xs, out, i, (), e).snd.fst.length) →
                                      eS.Ok
                                        ((bif (rlb_q1 xs out i _u e).snd.snd.snd.snd then
                                            eS.els
                                              (Lp.insU cR ((rlb_q1 xs out i _u e).snd.fst.getD (rlb_q1 xs out i _u e).snd.snd.fst.toNat eS.dflt)
                                                (eS.lst out.length (eS.els out)))
                                          else eS.els out)
                                          e_1))) ∧
    (decide (i < (↑xs.length : Int)) = false →
      (∀ (e_1 : Nat), e_1 < (xs, out, i, (), e).fst.length → eS.Ok (eS.els xs e_1)) ∧
        ∀ (e_1 : Nat), e_1 < (xs, out, i, (), e).snd.fst.length → eS.Ok (eS.els out e_1))
theorem rlb_one : ((loopsOf Try.prog 38).filter fun c => Nat.beq (lkey c) 8).length = 1 := by kernel_rfl
theorem rlb_es (g : rlb_G) : (rlb_R g.1 g.2.1 g.2.2.1 g.2.2.2.1 g.2.2.2.2).1 = .normal ∨ (rlb_R g.1 g.2.1 g.2.2.1 g.2.2.2.1 g.2.2.2.2).1 ∈ ([.ret, .exit 2] : List Ex) := by
  unfold rlb_R
  repeat' (first | (left; rfl) | (right; simp only [cond_true, cond_false]; simp; done) | (rw [Bool.cond_eq_ite]; split))
noncomputable abbrev rlb_C (Inv : rlb_G → List Prop) (m : rlb_G → Nat) : LCon := loopR [.ret, .exit 2] (loopBody Try.prog 38 8) rlb_LP [] 83 Inv (fun g => rlb_R g.1 g.2.1 g.2.2.1 g.2.2.2.1 g.2.2.2.2) m
theorem rlb_loop (Inv : rlb_G → List Prop) (m : rlb_G → Nat) (hs : ∀ g, allP (Inv g) → rlb_side g.1 g.2.1 g.2.2.1 g.2.2.2.1 g.2.2.2.2) (hg : Goes (fun g : rlb_G => rlb_R g.1 g.2.1 g.2.2.1 g.2.2.2.1 g.2.2.2.2) m fun g => allP (Inv g)) : ∀ b ∈ loopsOf Try.prog 38, lkey b = 8 → LoopOk Try.prog b (rlb_C Inv m).g := loop_run (Γ := (PTab.gamz tab28a [] [])) (Λ := lam28) (PTab.okz tab28a [] []) lam28_ok 100 38 8 83 rlb_LP [] Inv (fun g => rlb_R g.1 g.2.1 g.2.2.1 g.2.2.2.1 g.2.2.2.2) (fun g => rlb_side g.1 g.2.1 g.2.2.1 g.2.2.2.1 g.2.2.2.2) m default [.ret, .exit 2] rlb_one (fun rd T B HL HB ds g => by kernel_rfl) (fun rd T B HL HB ds g => by kernel_rfl) hs hg rlb_es
noncomputable def tab31 : PTab Try.prog := tab28a
end Go.Proofs.Ytapmlfklkfgmoaa

/- Chapter 2: the document's Least: the contract of its outer loop; Least's contract. -/
namespace Go.Sx
theorem goes_congr {γ : Type} {F F' : γ → Ex × γ} {m : γ → Nat} {Inv : γ → Prop} (h : Goes F' m Inv) (e : ∀ g, Inv g → F g = F' g) : Goes F m Inv := fun g hi hn => by
  rw [e g hi] at hn ⊢
  exact h g hi hn
theorem loopF_congr {γ : Type} {F F' : γ → Ex × γ} {m : γ → Nat} {Inv : γ → Prop} (h : Goes F' m Inv) (e : ∀ g, Inv g → F g = F' g) : ∀ g, Inv g → loopF F m g = loopF F' m g := by
  have h0 := goes_congr h e
  refine loopF_induct h0 (Q := fun g r => r = loopF F' m g) ?_ ?_
  · intro g hi hn
    rw [e g hi] at hn ⊢
    exact (loopF_end hn).symm
  · intro g g' r hi he _ _ hq
    rw [e g hi] at he
    rw [hq, loopF_next h hi he]
end Go.Sx
namespace Go.Proofs.Ytapmlfklkfgmoaa
open Go.RowKit Go.Sx Go.Lp
theorem insU_len (s : S) : ∀ l : List S, (insU cR s l).length ≤ l.length + 1
  | [] => by simp [insU]
  | y :: r => by
    have := insU_len s r
    simp only [insU]
    split
    · simp
    · split
      · simp
      · simp; omega
abbrev badR (xs : List S) (y : S) : Bool := y.f != (xs.getD 0 eS.dflt).f || w64 (y.k + y.n) != w64 ((xs.getD 0 eS.dflt).k + (xs.getD 0 eS.dflt).n)
abbrev stepR (xs : List S) (out : List S) (y : S) : List S := bif !(xs.any fun x => under_F x y) then insU cR y out else out
theorem okLen_stepR (K : Nat) : ∀ xs out i, i < xs.length → okLen K xs out i → okLen K xs (stepR xs out (xs.getD i eS.dflt)) (i + 1) := by
  rintro xs out i _ ⟨h1, h2⟩
  refine ⟨h1, ?_⟩
  unfold stepR
  generalize (!xs.any fun x => under_F x (xs.getD i eS.dflt)) = c
  have := insU_len (xs.getD i eS.dflt) out
  cases c
  · simp only [cond_false]; omega
  · simp only [cond_true]; omega
theorem ran_fun : (fun g : ran_G => ran_R g.1 g.2.1 g.2.2.1 g.2.2.2) = anF 4 eS.dflt undS := funext ran_RF
theorem ran_q {xs : List S} {i : Int} (h : xs.length ≤ KS) (h0 : 0 ≤ i) (h1 : i < (xs.length : Int)) : ∃ k : Int, loopF (anF 4 eS.dflt undS) anM (xs, i, 0, true) = (.exit 4, xs, i, k, !(xs.any fun x => under_F x (xs.getD i.toNat eS.dflt))) := by
  have hI : allP (anI okJ ((xs, i, 0, true) : AnG S Int)) := fun q hq => by
    simp only [anI, List.mem_singleton] at hq
    subst hq
    exact ⟨by unfold KS at h; unfold maxLen; show xs.length ≤ _; omega, Int.le_refl _, by show (0 : Int) ≤ (xs.length : Int); omega, h0, h1⟩
  obtain ⟨a, b, c, d⟩ := an_run 4 eS.dflt undS okJ _ hI
  generalize loopF (anF 4 eS.dflt undS) anM (xs, i, 0, true) = r at a b c d
  obtain ⟨r1, r2, r3, r4, r5⟩ := r
  simp only at a b c d
  subst a b c d
  refine ⟨r4, ?_⟩
  have e0 : (0 : Int).toNat = 0 := rfl
  simp only [Bool.true_and, e0, List.drop_zero]
theorem rlb_RF (g : rlb_G) (hi : allP (fl2I (okLen KS) g)) : rlb_R g.1 g.2.1 g.2.2.1 g.2.2.2.1 g.2.2.2.2 = fl2F 2 eS.dflt badR stepR 11 g := by
  obtain ⟨xs, out, i, ⟨⟩, e⟩ := g
  obtain ⟨h2, h3, h4, h5, h6⟩ := hi _ (List.mem_cons_self ..)
  simp only at h2 h3 h4 h5 h6
  show rlb_R xs out i () e = fl2F 2 eS.dflt badR stepR 11 (xs, out, i, (), e)
  unfold rlb_R fl2F rlb_q1
  simp only [eS.lst_els, ran_fun]
  by_cases hlt : i < (xs.length : Int)
  · obtain ⟨k, hk⟩ := ran_q h5 h3 hlt
    rw [hk]
    simp only [hlt, decide_true, cond_true, eS.lst_els]
    unfold stepR
    generalize (!xs.any fun x => under_F x (xs.getD i.toNat eS.dflt)) = c2
    cases c2 <;> simp only [cond_false, cond_true, eS.lst_els] <;> rfl
  · simp only [hlt, decide_false, cond_false]
theorem rlb_ok : ∀ b ∈ loopsOf Try.prog 38, lkey b = 8 → LoopOk Try.prog b (rlb_C (fl2I (okLen KS)) fl2M).g := by
  refine rlb_loop (fl2I (okLen KS)) fl2M (fun g hi => ?_) ?_
  · obtain ⟨xs, out, i, ⟨⟩, e⟩ := g
    obtain ⟨h2, h3, h4, h5, h6⟩ := hi _ (List.mem_cons_self ..)
    simp only at h2 h3 h4 h5 h6
    have h5' := h5
    unfold KS at h5
    show rlb_side xs out i () e
    have hx := ok_all xs
    have ho := ok_all out
    refine ⟨fun hc => ?_, fun _ => ⟨hx, ho⟩⟩
    have hc : i < (xs.length : Int) := of_decide_eq_true hc
    obtain ⟨k, hk⟩ := ran_q h5' h3 hc
    have hq : ∀ e, rlb_q1 xs out i () e = (.exit 4, xs, i, k, !(xs.any fun x => under_F x (xs.getD i.toNat eS.dflt))) := by
      intro e
      unfold rlb_q1
      rw [eS.lst_els, ran_fun]
      exact hk
    have hq2 : ∀ e, rlb_q2 xs out i () e = (.exit 4, xs, i, k, !(xs.any fun x => under_F x (xs.getD i.toNat eS.dflt))) := hq
    simp only [hq, hq2, eS.lst_els]
    generalize (!xs.any fun x => under_F x (xs.getD i.toNat eS.dflt)) = c2
    refine ⟨⟨h3, hc⟩, ⟨by omega, by omega⟩, fun _ => ⟨h3, hc⟩, fun _ => ⟨h3, hc⟩, fun _ => ⟨by omega, by omega⟩, fun _ => ⟨by omega, by omega⟩, fun _ => ⟨hx, ho⟩, fun _ => ⟨hx, ⟨h2, by omega, by omega, h3, hc⟩, fun _ => ⟨h3, hc⟩, fun _ => ho, fun _ => by unfold KS; omega, hx, ?_⟩⟩
    cases c2
    · exact ho
    · exact fun e _ => eS.ok_els _ e
  · exact goes_congr (fl2_goes 2 eS.dflt badR stepR 11 (okLen KS) (okLen_stepR KS)) rlb_RF
noncomputable def lt29 : LTab Try.prog := lt28.cons 38 8 (rlb_C (fl2I (okLen KS)) fl2M) rlb_ok
noncomputable abbrev lam29 : Lam := lt29.lam
theorem lam29_ok : ∀ f k L, lam29 f k = some L → ∀ b ∈ loopsOf Try.prog f, lkey b = k → LoopOk Try.prog b L.g := lt29.ok
end Go.Proofs.Ytapmlfklkfgmoaa

/- Chapter 2: the document's Least. Printed by treegen.py. -/
namespace Go.Proofs.Ytapmlfklkfgmoaa
open Go.RowKit Go.Sx
set_option maxRecDepth 100000
set_option linter.unusedVariables false
noncomputable def rleast_q1 (xs : List S) : Ex ×
  rla_G :=
  loopF (fun g => rla_R g.fst g.snd.fst g.snd.snd.fst g.snd.snd.snd) Lp.er2M
    (eS.lst xs.length (eS.els xs), (0 : Int), (), (0 : Int))
noncomputable def rleast_q2 (xs : List S) : Ex ×
  rlb_G :=
  loopF (fun g => rlb_R g.fst g.snd.fst g.snd.snd.fst g.snd.snd.snd.fst g.snd.snd.snd.snd) Lp.fl2M
    (eS.lst (rleast_q1 xs).snd.fst.length (eS.els (rleast_q1 xs).snd.fst), [], (0 : Int), (), (rleast_q1 xs).snd.snd.snd.snd)
noncomputable def rleast_q3 (xs : List S) : Ex ×
  rlb_G :=
  loopF (fun g => rlb_R g.fst g.snd.fst g.snd.snd.fst g.snd.snd.snd.fst g.snd.snd.snd.snd) Lp.fl2M
    (eS.lst (Ex.exit (0 : Nat), (rleast_q1 xs).snd).snd.fst.length (eS.els (Ex.exit (0 : Nat), (rleast_q1 xs).snd).snd.fst), [], (0 : Int), (),
      (Ex.exit (0 : Nat), (rleast_q1 xs).snd).snd.snd.snd.snd)
noncomputable def rleast_F (xs : List S) : Rv.T rLE :=
  bif exB Ex.ret (rleast_q1 xs).fst then ([], (rleast_q1 xs).snd.snd.snd.snd)
  else
    bif exB Ex.ret (rleast_q2 xs).fst then ([], (rleast_q2 xs).snd.snd.snd.snd.snd)
    else (eS.lst (rleast_q2 xs).snd.snd.fst.length (eS.els (rleast_q2 xs).snd.snd.fst), (0 : Int))
def rleast_side (xs : List S) : Prop :=
  (∀ (e : Nat), e < xs.length → eS.Ok (eS.els xs e)) ∧
    ((eS.lst xs.length (eS.els xs)).length ≤ maxLen ∧
        (0 : Int) ≤ (0 : Int) ∧ (0 : Int) ≤ (↑(eS.lst xs.length (eS.els xs)).length : Int)) ∧
      (exB Ex.ret (rleast_q1 xs).fst = false →
        (∀ (e : Nat), e < (Ex.exit (0 : Nat), (rleast_q1 xs).snd).snd.fst.length → eS.Ok (eS.els (rleast_q1 xs).snd.fst e)) ∧
          ((eS.lst (rleast_q1 xs).snd.fst.length (eS.els (rleast_q1 xs).snd.fst)).length ≤ maxLen ∧
              (0 : Int) ≤ (0 : Int) ∧
                (0 : Int) ≤ (↑(eS.lst (rleast_q1 xs).snd.fst.length (eS.els (rleast_q1 xs).snd.fst)).length : Int) ∧
                  okLen KS (eS.lst (rleast_q1 xs).snd.fst.length (eS.els (rleast_q1 xs).snd.fst)) [] (0 : Nat)) ∧
            (exB Ex.ret (rleast_q2 xs).fst = false →
              ∀ (e : Nat), e < (Ex.exit (2 : Nat), (rleast_q3 xs).snd).snd.snd.fst.length → eS.Ok (eS.els (rleast_q2 xs).snd.snd.fst e)))
theorem rleast_okS (pre : DA.T aL1 → List Prop) (h : ∀ g, DA.bd aL1 g → (∀ p ∈ pre g, p) → rleast_side g) : FnPure Try.prog 38 aL1 (Rv.D rLE) (fun g => rleast_F g) pre := res_of_side (R := rLE) (Γ := (PTab.gamz tab28a [] [])) (Λ := lam29) (PTab.okz tab28a [] []) lam29_ok 100 default (fun g => rleast_side g) (fun g => by kernel_rfl) (fun g => by kernel_rfl) h
noncomputable def tab32 : PTab Try.prog := tab28a
end Go.Proofs.Ytapmlfklkfgmoaa

/- Chapter 2: Least and the document's Least: what they come to. -/
namespace Go.Proofs.Ytapmlfklkfgmoaa
open Go.RowKit Go.Sx Go.Lp
abbrev cS (a b : S) : Int := compare_F a b
theorem cR_eq : cR = cS := by funext a b; show rcompare_F a b = compare_F a b; rw [compare_lex, rcompare_lex]
theorem eqS_less (a b : S) : less_F a b = (!eqS a b && (leqC a b && (!leqC b a || decide (cS a b < 0)))) := by
  unfold less_F
  rw [conj_S]
theorem under_less (a b : S) : under_F a b = less_F a b := by
  rw [eqS_less]
  unfold under_F
  rw [show rcompare_F a b = cS a b from congrFun (congrFun cR_eq a) b]
  by_cases h : a = b
  · subst h
    have h0 : ¬ cS a a < 0 := toS.irrefl a
    simp [eqS, h0]
  · simp [eqS, h]
/-- None is less. -/
def keepS (xs : List S) (y : S) : Bool := !(xs.any fun x => less_F x y)
def leastS (xs : List S) : List S × Int := bif xs.any mayN then ([], 20) else bif xs.any (badS xs) then ([], 11) else (putAll cS (xs.filter (keepS xs)), 0)
theorem la_fun : (fun g : la_G => la_R g.1 g.2.1 g.2.2.1 g.2.2.2.1 g.2.2.2.2) = erF 0 eS.dflt mayN 20 := funext la_RF
theorem lb_fun : (fun g : lb_G => lb_R g.1 g.2.1 g.2.2.1 g.2.2.2.1 g.2.2.2.2.1 g.2.2.2.2.2.1 g.2.2.2.2.2.2) = flF 2 eS.dflt badS stepS 11 := funext lb_RF
theorem rla_fun : (fun g : rla_G => rla_R g.1 g.2.1 g.2.2.1 g.2.2.2) = er2F 0 eS.dflt (fun a => rcheck_F a != 0) 20 := funext rla_RF
theorem lb_inv (xs : List S) (e : Int) (h : xs.length ≤ KS) : allP (flI (okLen KS) ((xs, [], xs, (xs.length : Int), 0, (), e) : FlG S (List S))) := fun q hq => by
  simp only [flI, List.mem_singleton] at hq
  subst hq
  exact ⟨trivial, trivial, by unfold KS at h; unfold maxLen; show xs.length ≤ _; omega, Int.le_refl _, by show (0 : Int) ≤ (xs.length : Int); omega, h, Nat.le_refl _⟩
theorem rlb_inv (xs : List S) (e : Int) (h : xs.length ≤ KS) : allP (fl2I (okLen KS) ((xs, [], 0, (), e) : Fl2G S (List S))) := fun q hq => by
  simp only [fl2I, List.mem_singleton] at hq
  subst hq
  exact ⟨by unfold KS at h; unfold maxLen; show xs.length ≤ _; omega, Int.le_refl _, by show (0 : Int) ≤ (xs.length : Int); omega, h, Nat.le_refl _⟩
theorem fold_stepS (xs : List S) : ∀ (ys out : List S), ys.foldl (stepS xs) out = out ++ ys.filter (keepS xs) := foldl_pick (keepS xs)
theorem leastF_ok : FnPure Try.prog 37 aL1 (Rv.D rLE) leastS (fun xs => [xs.length ≤ KS]) := by
  have h := least_okS (fun xs => [xs.length ≤ KS]) fun xs _ hp => by
    have hl : xs.length ≤ KS := hp _ (List.mem_cons_self ..)
    have hm : xs.length ≤ maxLen := by unfold KS at hl; unfold maxLen; omega
    have ha := ok_all xs
    show least_side xs
    unfold least_side
    simp only [eS.lst_els]
    have e1 := (er_any 0 eS.dflt mayN 20 xs 0 hm).2
    have hq1 : least_q1 xs = loopF (erF 0 eS.dflt mayN 20) erM (xs, (xs.length : Int), 0, (), 0) := by unfold least_q1; rw [eS.lst_els, la_fun]
    have hq2 : least_q2 xs = loopF (flF 2 eS.dflt badS stepS 11) flM (xs, [], xs, (xs.length : Int), 0, (), (least_q1 xs).2.2.2.2.2) := by unfold least_q2; rw [eS.lst_els, lb_fun]
    have hr := fl_run 2 eS.dflt badS stepS 11 (okLen KS) (okLen_step KS) _ (lb_inv xs (least_q1 xs).2.2.2.2.2 hl)
    rw [← hq2] at hr
    refine ⟨ha, ⟨trivial, hm, by omega, by omega⟩, fun _ => ⟨ha, ha, ⟨trivial, trivial, hm, by omega, by omega, hl, Nat.zero_le _⟩, fun h2 => ?_⟩⟩
    rcases hr with ⟨k1, _⟩ | ⟨_, _, _, _, k5, _⟩
    · rw [k1] at h2; cases h2
    · have k6 := k5.2
      unfold KS at hl
      refine ⟨trivial, fun _ _ => trivial, by simp only at k6; omega, (srtBy_perm _ _).length_eq.symm, fun _ _ => trivial, Nat.le_refl _, fun _ _ => trivial⟩
  refine pure_congr h fun xs _ hp => ?_
  have hl : xs.length ≤ KS := hp _ (List.mem_cons_self ..)
  have hm : xs.length ≤ maxLen := by unfold KS at hl; unfold maxLen; omega
  show least_F xs = leastS xs
  unfold least_F leastS
  simp only [eS.lst_els]
  obtain ⟨e1, e2⟩ := er_any 0 eS.dflt mayN 20 xs 0 hm
  have hq1 : least_q1 xs = loopF (erF 0 eS.dflt mayN 20) erM (xs, (xs.length : Int), 0, (), 0) := by unfold least_q1; rw [eS.lst_els, la_fun]
  have hq2 : least_q2 xs = loopF (flF 2 eS.dflt badS stepS 11) flM (xs, [], xs, (xs.length : Int), 0, (), (least_q1 xs).2.2.2.2.2) := by unfold least_q2; rw [eS.lst_els, lb_fun]
  have hr := fl_run 2 eS.dflt badS stepS 11 (okLen KS) (okLen_step KS) _ (lb_inv xs (least_q1 xs).2.2.2.2.2 hl)
  rw [← hq2] at hr
  rw [← hq1] at e1 e2
  rw [e1, e2]
  cases h1 : xs.any mayN with
  | true => rfl
  | false =>
    simp only [cond_false]
    rcases hr with ⟨k1, k2, k3⟩ | ⟨k1, _, _, k4, _, k6⟩
    · have k3 : (xs.drop 0).any (badS xs) = true := k3
      rw [List.drop_zero] at k3
      rw [k1, k2, k3]; rfl
    · have k6 : (xs.drop 0).any (badS xs) = false := k6
      have k4 : (least_q2 xs).2.2.1 = (xs.drop 0).foldl (stepS xs) [] := k4
      rw [List.drop_zero] at k6 k4
      rw [k1, k6, k4, fold_stepS, List.nil_append, sorted_put toS]; rfl
theorem fold_stepR (xs : List S) : ∀ (ys out : List S), ys.foldl (stepR xs) out = (ys.filter (keepS xs)).foldl (fun l s => insU cS s l) out
  | [], out => rfl
  | y :: ys, out => by
    rw [List.foldl_cons, fold_stepR xs ys, List.filter_cons]
    have e : stepR xs out y = (bif keepS xs y then insU cS y out else out) := by
      unfold stepR keepS
      simp only [under_less]
      rw [cR_eq]
    rw [e]
    cases keepS xs y <;> rfl
theorem bad_eq {xs : List S} (h : xs.any mayN = false) (hl : xs ≠ []) {y : S} (hy : y ∈ xs) : badR xs y = badS xs y := by
  have hm : ∀ z ∈ xs, may_F z = true := fun z hz => by
    have := List.any_eq_false.1 h z hz
    simpa [mayN] using this
  have h0 : xs.getD 0 eS.dflt ∈ xs := by
    cases xs with
    | nil => exact absurd rfl hl
    | cons a r => exact List.mem_cons_self ..
  have e : ∀ z ∈ xs, ends_F z = w64 (z.k + z.n) := fun z hz => by
    unfold ends_F
    rw [hm z hz]; rfl
  show (_ || _) = (_ || _)
  rw [e y hy, e _ h0]
theorem rleastF_ok : FnPure Try.prog 38 aL1 (Rv.D rLE) leastS (fun xs => [xs.length ≤ KS]) := by
  have hQ : ∀ xs : List S, xs.length ≤ KS → rleast_q1 xs = loopF (er2F 0 eS.dflt (fun a => rcheck_F a != 0) 20) er2M (xs, 0, (), 0) := fun xs _ => by unfold rleast_q1; rw [eS.lst_els, rla_fun]
  have hX : ∀ xs : List S, xs.length ≤ KS → (rleast_q1 xs).2.1 = xs := fun xs hl => by
    have hm : xs.length ≤ maxLen := by unfold KS at hl; unfold maxLen; omega
    rw [hQ xs hl]
    have h0 : allP (er2I ((xs, (0 : Int), (), 0) : Er2G S)) := fun q hq => by
      simp only [er2I, List.mem_singleton] at hq
      subst hq
      exact ⟨hm, Int.le_refl _, by show (0 : Int) ≤ (xs.length : Int); omega⟩
    rcases er2_run 0 eS.dflt (fun a => rcheck_F a != 0) 20 _ h0 with ⟨_, _, h3, _⟩ | ⟨_, _, h3, _⟩ <;> exact h3
  have hQ2 : ∀ xs : List S, xs.length ≤ KS → rleast_q2 xs = loopF (fl2F 2 eS.dflt badR stepR 11) fl2M (xs, [], 0, (), (rleast_q1 xs).2.2.2.2) := fun xs hl => by
    unfold rleast_q2
    rw [eS.lst_els, hX xs hl]
    exact loopF_congr (fl2_goes 2 eS.dflt badR stepR 11 (okLen KS) (okLen_stepR KS)) rlb_RF _ (rlb_inv xs _ hl)
  have h := rleast_okS (fun xs => [xs.length ≤ KS]) fun xs _ hp => by
    have hl : xs.length ≤ KS := hp _ (List.mem_cons_self ..)
    have hm : xs.length ≤ maxLen := by unfold KS at hl; unfold maxLen; omega
    have ha := ok_all xs
    show rleast_side xs
    unfold rleast_side
    simp only [eS.lst_els, hX xs hl]
    exact ⟨ha, ⟨hm, by omega, by omega⟩, fun _ => ⟨ha, ⟨hm, by omega, by omega, hl, Nat.zero_le _⟩, fun _ e _ => eS.ok_els _ e⟩⟩
  refine pure_congr h fun xs _ hp => ?_
  have hl : xs.length ≤ KS := hp _ (List.mem_cons_self ..)
  have hm : xs.length ≤ maxLen := by unfold KS at hl; unfold maxLen; omega
  show rleast_F xs = leastS xs
  unfold rleast_F leastS
  simp only [eS.lst_els]
  obtain ⟨e1, e2⟩ := er2_any 0 eS.dflt (fun a => rcheck_F a != 0) 20 xs 0 hm
  rw [← hQ xs hl] at e1 e2
  have hr := fl2_run 2 eS.dflt badR stepR 11 (okLen KS) (okLen_stepR KS) _ (rlb_inv xs (rleast_q1 xs).2.2.2.2 hl)
  rw [← hQ2 xs hl] at hr
  have e3 : xs.any (fun a => rcheck_F a != 0) = xs.any mayN := by
    congr 1
    funext a
    exact rc_ne a
  rw [e1, e2, e3]
  cases h1 : xs.any mayN with
  | true => rfl
  | false =>
    simp only [cond_false]
    have e4 : xs.any (badR xs) = xs.any (badS xs) := by
      by_cases hx : xs = []
      · subst hx; rfl
      · rw [Bool.eq_iff_iff, List.any_eq_true, List.any_eq_true]
        constructor
        · rintro ⟨y, hy, hb⟩; exact ⟨y, hy, by rw [← bad_eq h1 hx hy]; exact hb⟩
        · rintro ⟨y, hy, hb⟩; exact ⟨y, hy, by rw [bad_eq h1 hx hy]; exact hb⟩
    rcases hr with ⟨k1, k2, k3⟩ | ⟨k1, _, _, k4, _, k6⟩
    · have k3 : (xs.drop 0).any (badR xs) = true := k3
      rw [List.drop_zero, e4] at k3
      rw [k1, k2, k3]; rfl
    · have k6 : (xs.drop 0).any (badR xs) = false := k6
      have k4 : (rleast_q2 xs).2.2.1 = (xs.drop 0).foldl (stepR xs) [] := k4
      rw [List.drop_zero, e4] at k6
      rw [List.drop_zero] at k4
      rw [k1, k6, k4, fold_stepR]; rfl
end Go.Proofs.Ytapmlfklkfgmoaa

/- Chapter 2: where the first is, for the law. Printed by treegen.py. -/
namespace Go.Proofs.Ytapmlfklkfgmoaa
open Go.RowKit Go.Sx
set_option maxRecDepth 100000
set_option linter.unusedVariables false
abbrev idy_G : Type := List S × S × Int × Int × Int
def idy_LP : LP 0 idy_G := .pair (.slot 0 0 dLS) (.pair (.slot 0 1 (dFnE 44 eS)) (.pair (.slot 0 7 dI) (.pair (.slot 0 8 dI) (.slot 0 4 dI))))
noncomputable def idy_R (xs : List S) (s : S) (n : Int) (i : Int) (r : Int) : Ex × idy_G :=
  bif decide (i < n) then
    bif leqC (xs.getD i.toNat eS.dflt) s then (Ex.ret, eS.lst xs.length (eS.els xs), s, n, i, i)
    else (Ex.normal, eS.lst xs.length (eS.els xs), s, n, IntKind.i64.wrap (i + (1 : Int)), r)
  else (Ex.exit (0 : Nat), eS.lst xs.length (eS.els xs), s, n, i, r)
def idy_side (xs : List S) (s : S) (n : Int) (i : Int) (r : Int) : Prop :=
  (decide (i < n) = true →
      ((0 : Int) ≤ i ∧ i < (↑xs.length : Int)) ∧
        (leqC (xs.getD i.toNat eS.dflt) s = true → ∀ (e : Nat), e < (xs, s, n, i, r).fst.length → eS.Ok (eS.els xs e)) ∧
          (leqC (xs.getD i.toNat eS.dflt) s = false →
            ∀ (e : Nat), e < (xs, s, n, i, r).fst.length → eS.Ok (eS.els xs e))) ∧
    (decide (i < n) = false → ∀ (e : Nat), e < (xs, s, n, i, r).fst.length → eS.Ok (eS.els xs e))
theorem idy_one : ((loopsOf Try.prog 64).filter fun c => Nat.beq (lkey c) 2).length = 1 := by kernel_rfl
theorem idy_es (g : idy_G) : (idy_R g.1 g.2.1 g.2.2.1 g.2.2.2.1 g.2.2.2.2).1 = .normal ∨ (idy_R g.1 g.2.1 g.2.2.1 g.2.2.2.1 g.2.2.2.2).1 ∈ ([.ret, .exit 0] : List Ex) := by
  unfold idy_R
  repeat' (first | (left; rfl) | (right; simp only [cond_true, cond_false]; simp; done) | (rw [Bool.cond_eq_ite]; split))
noncomputable abbrev idy_C (Inv : idy_G → List Prop) (m : idy_G → Nat) : LCon := loopR [.ret, .exit 0] (loopBody Try.prog 64 2) idy_LP [] 19 Inv (fun g => idy_R g.1 g.2.1 g.2.2.1 g.2.2.2.1 g.2.2.2.2) m
theorem idy_loop (Inv : idy_G → List Prop) (m : idy_G → Nat) (hs : ∀ g, allP (Inv g) → idy_side g.1 g.2.1 g.2.2.1 g.2.2.2.1 g.2.2.2.2) (hg : Goes (fun g : idy_G => idy_R g.1 g.2.1 g.2.2.1 g.2.2.2.1 g.2.2.2.2) m fun g => allP (Inv g)) : ∀ b ∈ loopsOf Try.prog 64, lkey b = 2 → LoopOk Try.prog b (idy_C Inv m).g := loop_run (Γ := (PTab.gamz tab15 [] [])) (Λ := noΛ) (PTab.okz tab15 [] []) noΛ_ok 100 64 2 19 idy_LP [] Inv (fun g => idy_R g.1 g.2.1 g.2.2.1 g.2.2.2.1 g.2.2.2.2) (fun g => idy_side g.1 g.2.1 g.2.2.1 g.2.2.2.1 g.2.2.2.2) m default [.ret, .exit 0] idy_one (fun rd T B HL HB ds g => by kernel_rfl) (fun rd T B HL HB ds g => by kernel_rfl) hs hg idy_es
noncomputable def tab33 : PTab Try.prog := tab15
end Go.Proofs.Ytapmlfklkfgmoaa

/- Chapter 2: where the first is, for the law: contracts. -/
namespace Go.Proofs.Ytapmlfklkfgmoaa
open Go.RowKit Go.Sx Go.Lp
theorem idy_RF (g : idy_G) : idy_R g.1 g.2.1 g.2.2.1 g.2.2.2.1 g.2.2.2.2 = fiF eS.dflt (fun s x => leqC x s) g := by
  unfold idy_R
  rw [eS.lst_els]
  rfl
theorem idy_fun : (fun g : idy_G => idy_R g.1 g.2.1 g.2.2.1 g.2.2.2.1 g.2.2.2.2) = fiF eS.dflt (fun s x => leqC x s) := funext idy_RF
theorem idy_ok : ∀ b ∈ loopsOf Try.prog 64, lkey b = 2 → LoopOk Try.prog b (idy_C fiI fiM).g := by
  refine idy_loop fiI fiM (fun g hi => ?_) ?_
  · obtain ⟨xs, s, n, i, r⟩ := g
    obtain ⟨h1, h2, h3, h4⟩ := hi _ (List.mem_cons_self ..)
    simp only at h1 h2 h3 h4
    refine ⟨fun hc => ?_, fun _ => ok_all xs⟩
    have hc : i < n := of_decide_eq_true hc
    exact ⟨⟨h3, by simp only; omega⟩, fun _ => ok_all xs, fun _ => ok_all xs⟩
  · rw [idy_fun]
    exact fi_goes _ _
noncomputable def lt31 : LTab Try.prog := LTab.nil.cons 64 2 (idy_C fiI fiM) idy_ok
noncomputable abbrev lam31 : Lam := lt31.lam
theorem lam31_ok : ∀ f k L, lam31 f k = some L → ∀ b ∈ loopsOf Try.prog f, lkey b = k → LoopOk Try.prog b L.g := lt31.ok
abbrev aLE2 : DA (List S × S) := .cons dLS (.one (dFnE 44 eS))
end Go.Proofs.Ytapmlfklkfgmoaa

/- Chapter 2: whether one is there, for the law. Printed by treegen.py. -/
namespace Go.Proofs.Ytapmlfklkfgmoaa
open Go.RowKit Go.Sx
set_option maxRecDepth 100000
set_option linter.unusedVariables false
noncomputable def ixg_q1 (xs : List S) (s : S) : Ex ×
  idy_G :=
  loopF (fun g => idy_R g.fst g.snd.fst g.snd.snd.fst g.snd.snd.snd.fst g.snd.snd.snd.snd) Lp.fiM
    (eS.lst xs.length (eS.els xs), s, (↑xs.length : Int), (0 : Int), (0 : Int))
noncomputable def ixg_F (xs : List S) (s : S) : Dv.T dI :=
  bif exB Ex.ret (ixg_q1 xs s).fst then (ixg_q1 xs s).snd.snd.snd.snd.snd else (-1 : Int)
def ixg_side (xs : List S) (s : S) : Prop :=
  (∀ (e : Nat), e < (xs, s).fst.length → eS.Ok (eS.els xs e)) ∧
    (↑xs.length : Int) = (↑(eS.lst xs.length (eS.els xs)).length : Int) ∧
      (eS.lst xs.length (eS.els xs)).length ≤ maxLen ∧
        (0 : Int) ≤ (0 : Int) ∧ (0 : Int) ≤ (↑(eS.lst xs.length (eS.els xs)).length : Int)
theorem ixg_okS (pre : DA.T aLE2 → List Prop) (h : ∀ g, DA.bd aLE2 g → (∀ p ∈ pre g, p) → ixg_side g.1 g.2) : FnPure Try.prog 64 aLE2 dI (fun g => ixg_F g.1 g.2) pre := pure_of_sideS (Γ := (PTab.gamz tab15 [] [])) (Λ := lam31) (PTab.okz tab15 [] []) lam31_ok 100 default (fun g => ixg_side g.1 g.2) (fun g => by kernel_rfl) (fun g => by kernel_rfl) h
noncomputable def tab34 : PTab Try.prog := tab15
end Go.Proofs.Ytapmlfklkfgmoaa

/- Chapter 2: whether one is there, for the law; the law's table. -/
namespace Go.Proofs.Ytapmlfklkfgmoaa
open Go.RowKit Go.Sx Go.Lp
theorem ixg_ok : FnPure Try.prog 64 aLE2 dI (fun g => ixg_F g.1 g.2) (fun _ => []) := ixg_okS _ fun g hb _ => by
  obtain ⟨xs, s⟩ := g
  have hl : xs.length ≤ maxLen := hb.1.1
  unfold ixg_side
  rw [eS.lst_els]
  exact ⟨ok_all xs, rfl, hl, by omega, by omega⟩
theorem ixg_has (xs : List S) (s : S) (h : xs.length ≤ maxLen) : decide (0 ≤ ixg_F xs s) = xs.any (leqC · s) := by
  unfold ixg_F ixg_q1
  rw [eS.lst_els, idy_fun]
  obtain ⟨h1, h2⟩ := fi_any eS.dflt (fun s x => leqC x s) xs s 0 h
  generalize loopF (fiF eS.dflt (fun s x => leqC x s)) fiM (xs, s, (xs.length : Int), 0, 0) = r at h1 h2
  rw [← h1]
  cases he : exB Ex.ret r.1 with
  | true =>
    have := h2 (exB_eq he).symm
    simpa using this
  | false => rfl
noncomputable def tab35 : PTab Try.prog := tab15.cons 64 (pconP aLE2 dI (fun g => ixg_F g.1 g.2) (fun _ => [])) (conP_ok ixg_ok puI)
end Go.Proofs.Ytapmlfklkfgmoaa

/- Chapter 2: whether one is there, for the law. Printed by treegen.py. -/
namespace Go.Proofs.Ytapmlfklkfgmoaa
open Go.RowKit Go.Sx
set_option maxRecDepth 100000
set_option linter.unusedVariables false
noncomputable def hag_F (xs : List S) (s : S) : Dv.T dBool :=
  decide (ixg_F (eS.lst xs.length (eS.els xs)) s ≥ (0 : Int))
def hag_side (xs : List S) (s : S) : Prop :=
  ∀ (e : Nat), e < (xs, s).fst.length → eS.Ok (eS.els xs e)
theorem hag_okS (pre : DA.T aLE2 → List Prop) (h : ∀ g, DA.bd aLE2 g → (∀ p ∈ pre g, p) → hag_side g.1 g.2) : FnPure Try.prog 43 aLE2 dBool (fun g => hag_F g.1 g.2) pre := pure_of_sideS (Γ := (PTab.gamz tab35 [] [])) (Λ := noΛ) (PTab.okz tab35 [] []) noΛ_ok 100 default (fun g => hag_side g.1 g.2) (fun g => by kernel_rfl) (fun g => by kernel_rfl) h
noncomputable def tab36 : PTab Try.prog := tab35
end Go.Proofs.Ytapmlfklkfgmoaa

/- Chapter 2: the law's table. -/
namespace Go.Proofs.Ytapmlfklkfgmoaa
open Go.RowKit Go.Sx Go.Lp
theorem hagF_ok : FnPure Try.prog 43 aLE2 dBool (fun g => g.1.any (leqC · g.2)) (fun _ => []) := by
  have h := hag_okS (fun _ => []) fun g _ _ => ok_all g.1
  refine pure_congr h fun g hb _ => ?_
  show hag_F g.1 g.2 = _
  unfold hag_F
  rw [eS.lst_els]
  exact ixg_has g.1 g.2 hb.1.1
noncomputable def tab37 : PTab Try.prog := (((tab15.cons 43 (pconP aLE2 dBool (fun g => g.1.any (leqC · g.2)) (fun _ => [])) (conP_ok hagF_ok puB)).cons 42 (pconP aLL dBool (fun g => decide (g.1 = g.2)) (fun _ => [])) (conP_ok same_ok puB)).cons 37 (pconR aL1 (Rv.D rLE) leastS (fun xs => [xs.length ≤ KS])) (conR_ok leastF_ok)).cons 38 (pconR aL1 (Rv.D rLE) leastS (fun xs => [xs.length ≤ KS])) (conR_ok rleastF_ok)
end Go.Proofs.Ytapmlfklkfgmoaa

/- A law's loop over a list: false at the first of which something holds: a plain law. -/
namespace Go.Lp
open Go.Sx
section
variable {α σ : Type}
abbrev AlG (α σ : Type) := σ × List α × Int × Int × Bool
def alF (x : Nat) (d : α) (p : σ → α → Bool) (g : AlG α σ) : Ex × AlG α σ :=
  bif decide (g.2.2.2.1 < g.2.2.1) then
    bif p g.1 (g.2.1.getD g.2.2.2.1.toNat d) then (.ret, g.1, g.2.1, g.2.2.1, g.2.2.2.1, false) else (.normal, g.1, g.2.1, g.2.2.1, w64 (g.2.2.2.1 + 1), g.2.2.2.2)
  else (.exit x, g)
def alI (g : AlG α σ) : List Prop := [g.2.2.1 = (g.2.1.length : Int) ∧ g.2.1.length ≤ maxLen ∧ 0 ≤ g.2.2.2.1 ∧ g.2.2.2.1 ≤ (g.2.1.length : Int)]
def alM (g : AlG α σ) : Nat := (g.2.2.1 - g.2.2.2.1).toNat
theorem al_goes (x : Nat) (d : α) (p : σ → α → Bool) : Goes (alF x d p) alM fun g => allP (alI g) := by
  rintro ⟨s, xs, n, i, r0⟩ hi hn
  obtain ⟨h1, h2, h3, h4⟩ := hi _ (List.mem_cons_self ..)
  simp only at h1 h2 h3 h4
  unfold maxLen at h2
  unfold alF at hn ⊢
  simp only at hn ⊢
  by_cases hlt : i < n
  · simp only [hlt, decide_true, cond_true] at hn ⊢
    cases hp : p s (xs.getD i.toNat d) with
    | true => rw [hp] at hn; cases hn
    | false =>
      simp only [cond_false]
      rw [wr (by omega)]
      refine ⟨fun q hq => ?_, ?_⟩
      · simp only [alI, List.mem_singleton] at hq
        subst hq
        exact ⟨h1, by unfold maxLen; omega, by show (0 : Int) ≤ i + 1; omega, by show i + 1 ≤ (xs.length : Int); omega⟩
      · simp only [alM]; omega
  · simp only [hlt, decide_false, cond_false] at hn
    cases hn
theorem al_run (x : Nat) (d : α) (p : σ → α → Bool) : ∀ g : AlG α σ, allP (alI g) → (∀ y ∈ g.2.1, p g.1 y = false) → (loopF (alF x d p) alM g).1 = .exit x := by
  refine loopF_induct (al_goes x d p) (Q := fun g r => (∀ y ∈ g.2.1, p g.1 y = false) → r.1 = .exit x) ?_ ?_
  · rintro ⟨s, xs, n, i, r0⟩ hi hn hp
    obtain ⟨h1, h2, h3, h4⟩ := hi _ (List.mem_cons_self ..)
    simp only at h1 h2 h3 h4 hp
    unfold alF at hn ⊢
    simp only at hn ⊢
    by_cases hlt : i < n
    · have hlt' : i.toNat < xs.length := by omega
      have hy : p s (xs.getD i.toNat d) = false := hp _ (by simp [List.getD_eq_getElem?_getD, hlt'])
      simp only [hlt, decide_true, cond_true, hy, cond_false] at hn
      exact absurd rfl hn
    · simp only [hlt, decide_false, cond_false]
  · rintro ⟨s, xs, n, i, r0⟩ g' r hi he hi' _ hq hp
    obtain ⟨h1, h2, h3, h4⟩ := hi _ (List.mem_cons_self ..)
    simp only at h1 h2 h3 h4 hp
    unfold alF at he
    simp only at he
    by_cases hlt : i < n
    · have hlt' : i.toNat < xs.length := by omega
      have hy : p s (xs.getD i.toNat d) = false := hp _ (by simp [List.getD_eq_getElem?_getD, hlt'])
      simp only [hlt, decide_true, cond_true, hy, cond_false, Prod.mk.injEq, true_and] at he
      subst he
      exact hq hp
    · simp only [hlt, decide_false, cond_false] at he
      cases he
end
end Go.Lp

/- Chapter 2: the law SummLeast, its loop. Printed by treegen.py. -/
namespace Go.Proofs.Ytapmlfklkfgmoaa
open Go.RowKit Go.Sx
set_option maxRecDepth 100000
set_option linter.unusedVariables false
abbrev lw_G : Type := List S × List S × Int × Int × Bool
def lw_LP : LP 2 lw_G := .pair (.slot 2 7 dLS) (.pair (.slot 2 58 dLS) (.pair (.slot 2 59 dI) (.pair (.slot 2 60 dI) (.slot 2 6 dBool))))
noncomputable def lw_R (m : List S) (xs : List S) (n : Int) (i : Int) (r : Bool) : Ex × lw_G :=
  bif decide (i < n) then
    bif !(eS.lst m.length (eS.els m)).any fun x => leqC x (xs.getD i.toNat eS.dflt) then
      (Ex.ret, eS.lst m.length (eS.els m), eS.lst xs.length (eS.els xs), n, i, false)
    else (Ex.normal, eS.lst m.length (eS.els m), eS.lst xs.length (eS.els xs), n, IntKind.i64.wrap (i + (1 : Int)), r)
  else (Ex.exit (0 : Nat), eS.lst m.length (eS.els m), eS.lst xs.length (eS.els xs), n, i, r)
def lw_side (m : List S) (xs : List S) (n : Int) (i : Int) (r : Bool) : Prop :=
  (decide (i < n) = true →
      ((0 : Int) ≤ i ∧ i < (↑xs.length : Int)) ∧
        (∀ (e : Nat), e < (m, xs, n, i, r).fst.length → eS.Ok (eS.els m e)) ∧
          ((!(eS.lst m.length (eS.els m)).any fun x => leqC x (xs.getD i.toNat eS.dflt)) = true →
              (∀ (e : Nat), e < (m, xs, n, i, r).fst.length → eS.Ok (eS.els m e)) ∧
                ∀ (e : Nat), e < (m, xs, n, i, r).snd.fst.length → eS.Ok (eS.els xs e)) ∧
            ((!(eS.lst m.length (eS.els m)).any fun x => leqC x (xs.getD i.toNat eS.dflt)) = false →
              (∀ (e : Nat), e < (m, xs, n, i, r).fst.length → eS.Ok (eS.els m e)) ∧
                ∀ (e : Nat), e < (m, xs, n, i, r).snd.fst.length → eS.Ok (eS.els xs e))) ∧
    (decide (i < n) = false →
      (∀ (e : Nat), e < (m, xs, n, i, r).fst.length → eS.Ok (eS.els m e)) ∧
        ∀ (e : Nat), e < (m, xs, n, i, r).snd.fst.length → eS.Ok (eS.els xs e))
theorem lw_one : ((loopsOf Try.prog 8).filter fun c => Nat.beq (lkey c) 9).length = 1 := by kernel_rfl
theorem lw_es (g : lw_G) : (lw_R g.1 g.2.1 g.2.2.1 g.2.2.2.1 g.2.2.2.2).1 = .normal ∨ (lw_R g.1 g.2.1 g.2.2.1 g.2.2.2.1 g.2.2.2.2).1 ∈ ([.ret, .exit 0] : List Ex) := by
  unfold lw_R
  repeat' (first | (left; rfl) | (right; simp only [cond_true, cond_false]; simp; done) | (rw [Bool.cond_eq_ite]; split))
noncomputable abbrev lw_C (Inv : lw_G → List Prop) (m : lw_G → Nat) : LCon := loopR [.ret, .exit 0] (loopBody Try.prog 8 9) lw_LP [] 69 Inv (fun g => lw_R g.1 g.2.1 g.2.2.1 g.2.2.2.1 g.2.2.2.2) m
theorem lw_loop (Inv : lw_G → List Prop) (m : lw_G → Nat) (hs : ∀ g, allP (Inv g) → lw_side g.1 g.2.1 g.2.2.1 g.2.2.2.1 g.2.2.2.2) (hg : Goes (fun g : lw_G => lw_R g.1 g.2.1 g.2.2.1 g.2.2.2.1 g.2.2.2.2) m fun g => allP (Inv g)) : ∀ b ∈ loopsOf Try.prog 8, lkey b = 9 → LoopOk Try.prog b (lw_C Inv m).g := loop_run (Γ := (PTab.gamz tab37 [] [])) (Λ := noΛ) (PTab.okz tab37 [] []) noΛ_ok 100 8 9 69 lw_LP [] Inv (fun g => lw_R g.1 g.2.1 g.2.2.1 g.2.2.2.1 g.2.2.2.2) (fun g => lw_side g.1 g.2.1 g.2.2.1 g.2.2.2.1 g.2.2.2.2) m default [.ret, .exit 0] lw_one (fun rd T B HL HB ds g => by kernel_rfl) (fun rd T B HL HB ds g => by kernel_rfl) hs hg lw_es
noncomputable def tab38 : PTab Try.prog := tab37
end Go.Proofs.Ytapmlfklkfgmoaa

/- Chapter 2: the law SummLeast: the contract of its loop. -/
namespace Go.Proofs.Ytapmlfklkfgmoaa
open Go.RowKit Go.Sx Go.Lp
abbrev noL (m : List S) (y : S) : Bool := !(m.any fun x => leqC x y)
theorem lw_RF (g : lw_G) : lw_R g.1 g.2.1 g.2.2.1 g.2.2.2.1 g.2.2.2.2 = alF 0 eS.dflt noL g := by
  obtain ⟨m, xs, n, i, r⟩ := g
  show lw_R m xs n i r = alF 0 eS.dflt noL (m, xs, n, i, r)
  unfold lw_R
  rw [eS.lst_els, eS.lst_els]
  rfl
theorem lw_fun : (fun g : lw_G => lw_R g.1 g.2.1 g.2.2.1 g.2.2.2.1 g.2.2.2.2) = alF 0 eS.dflt noL := funext lw_RF
theorem lw_ok : ∀ b ∈ loopsOf Try.prog 8, lkey b = 9 → LoopOk Try.prog b (lw_C alI alM).g := by
  refine lw_loop alI alM (fun g hi => ?_) ?_
  · obtain ⟨m, xs, n, i, r⟩ := g
    obtain ⟨h1, h2, h3, h4⟩ := hi _ (List.mem_cons_self ..)
    simp only at h1 h2 h3 h4
    have hm := ok_all m
    have hx := ok_all xs
    refine ⟨fun hc => ?_, fun _ => ⟨hm, hx⟩⟩
    have hc : i < n := of_decide_eq_true hc
    exact ⟨⟨h3, by simp only; omega⟩, hm, fun _ => ⟨hm, hx⟩, fun _ => ⟨hm, hx⟩⟩
  · rw [lw_fun]
    exact al_goes _ _ _
noncomputable def lt34 : LTab Try.prog := LTab.nil.cons 8 9 (lw_C alI alM) lw_ok
noncomputable abbrev lam34 : Lam := lt34.lam
theorem lam34_ok : ∀ f k L, lam34 f k = some L → ∀ b ∈ loopsOf Try.prog f, lkey b = k → LoopOk Try.prog b L.g := lt34.ok
abbrev aLaw8 : DA (S × S × List S) := .cons dS (.cons dS (.one dLS))
end Go.Proofs.Ytapmlfklkfgmoaa

/- Chapter 2: the law SummLeast. Printed by treegen.py. -/
namespace Go.Proofs.Ytapmlfklkfgmoaa
open Go.RowKit Go.Sx
set_option maxRecDepth 100000
set_option linter.unusedVariables false
noncomputable def lw8_q1 (a : S) (b : S) (xs : List S) : Ex ×
  lw_G :=
  loopF (fun g => lw_R g.fst g.snd.fst g.snd.snd.fst g.snd.snd.snd.fst g.snd.snd.snd.snd) Lp.alM
    (eS.lst
        (leastS
              (eS.lst (List.take (40 : Nat) (eS.lst xs.length (eS.els xs))).length
                (eS.els (List.take (40 : Nat) (eS.lst xs.length (eS.els xs)))))).fst.length
        (eS.els
          (leastS
              (eS.lst (List.take (40 : Nat) (eS.lst xs.length (eS.els xs))).length
                (eS.els (List.take (40 : Nat) (eS.lst xs.length (eS.els xs)))))).fst),
      eS.lst (List.take (40 : Nat) (eS.lst xs.length (eS.els xs))).length
        (eS.els (List.take (40 : Nat) (eS.lst xs.length (eS.els xs)))),
      (↑(List.take (40 : Nat) (eS.lst xs.length (eS.els xs))).length : Int), (0 : Int), false)
noncomputable def lw8_F (a : S) (b : S) (xs : List S) : Dv.T dBool :=
  bif
      !true ||
        (!leqC a b == leqC a b ||
          (compare_F a b != rcompare_F a b ||
            (!decide
                  (eS.lst
                      (leastS
                            (eS.lst (List.take (40 : Nat) (eS.lst xs.length (eS.els xs))).length
                              (eS.els (List.take (40 : Nat) (eS.lst xs.length (eS.els xs)))))).fst.length
                      (eS.els
                        (leastS
                            (eS.lst (List.take (40 : Nat) (eS.lst xs.length (eS.els xs))).length
                              (eS.els (List.take (40 : Nat) (eS.lst xs.length (eS.els xs)))))).fst) =
                    eS.lst
                      (leastS
                            (eS.lst (List.take (40 : Nat) (eS.lst xs.length (eS.els xs))).length
                              (eS.els (List.take (40 : Nat) (eS.lst xs.length (eS.els xs)))))).fst.length
                      (eS.els
                        (leastS
                            (eS.lst (List.take (40 : Nat) (eS.lst xs.length (eS.els xs))).length
                              (eS.els (List.take (40 : Nat) (eS.lst xs.length (eS.els xs)))))).fst)) ||
              (leastS
                    (eS.lst (List.take (40 : Nat) (eS.lst xs.length (eS.els xs))).length
                      (eS.els (List.take (40 : Nat) (eS.lst xs.length (eS.els xs)))))).snd !=
                (leastS
                    (eS.lst (List.take (40 : Nat) (eS.lst xs.length (eS.els xs))).length
                      (eS.els (List.take (40 : Nat) (eS.lst xs.length (eS.els xs)))))).snd))) then
    false
  else
    bif
        (leastS
              (eS.lst (List.take (40 : Nat) (eS.lst xs.length (eS.els xs))).length
                (eS.els (List.take (40 : Nat) (eS.lst xs.length (eS.els xs)))))).snd !=
          (0 : Int) then
      true
    else bif exB Ex.ret (lw8_q1 a b xs).fst then (lw8_q1 a b xs).snd.snd.snd.snd.snd else true
def lw8_side (a : S) (b : S) (xs : List S) : Prop :=
  (∀ (e : Nat), e < (a, b, xs).snd.snd.length → eS.Ok (eS.els xs e)) ∧
    (∀ (e : Nat),
        e < ((fun l => List.take (40 : Nat) l) (eS.lst (a, b, xs).snd.snd.length (eS.els (a, b, xs).snd.snd))).length →
          eS.Ok (eS.els (List.take (40 : Nat) (eS.lst xs.length (eS.els xs))) e)) ∧
      (eS.lst (List.take (40 : Nat) (eS.lst xs.length (eS.els xs))).length
              (eS.els (List.take (40 : Nat) (eS.lst xs.length (eS.els xs))))).length ≤
          KS ∧
        (∀ (e : Nat),
            e <
                ((fun l => List.take (40 : Nat) l)
                    (eS.lst (a, b, xs).snd.snd.length (eS.els (a, b, xs).snd.snd))).length →
              eS.Ok (eS.els (List.take (40 : Nat) (eS.lst xs.length (eS.els xs))) e)) ∧
          (eS.lst (List.take (40 : Nat) (eS.lst xs.length (eS.els xs))).length
                  (eS.els (List.take (40 : Nat) (eS.lst xs.length (eS.els xs))))).length ≤
              KS ∧
            ((!!(fun x => true) ()) = true →
                (!!(fun g => leqC g.fst g.snd)
                            (S.ofP
                                ((a, b, xs).fst.toP.fst, (a, b, xs).fst.toP.snd.fst, (a, b, xs).fst.toP.snd.snd.fst,
                                  (a, b, xs).fst.toP.snd.snd.snd.fst, (a, b, xs).fst.toP.snd.snd.snd.snd.fst,
                                  (a, b, xs).fst.toP.snd.snd.snd.snd.snd.fst,
                                  (a, b, xs).fst.toP.snd.snd.snd.snd.snd.snd.fst,
                                  (a, b, xs).fst.toP.snd.snd.snd.snd.snd.snd.snd),
                              S.ofP
                                ((a, b, xs).snd.fst.toP.fst, (a, b, xs).snd.fst.toP.snd.fst,
                                  (a, b, xs).snd.fst.toP.snd.snd.fst, (a, b, xs).snd.fst.toP.snd.snd.snd.fst,
                                  (a, b, xs).snd.fst.toP.snd.snd.snd.snd.fst,
                                  (a, b, xs).snd.fst.toP.snd.snd.snd.snd.snd.fst,
                                  (a, b, xs).snd.fst.toP.snd.snd.snd.snd.snd.snd.fst,
                                  (a, b, xs).snd.fst.toP.snd.snd.snd.snd.snd.snd.snd)) ==
                          (fun g => leqC g.fst g.snd)
                            (S.ofP
                                ((a, b, xs).fst.toP.fst, (a, b, xs).fst.toP.snd.fst, (a, b, xs).fst.toP.snd.snd.fst,
                                  (a, b, xs).fst.toP.snd.snd.snd.fst, (a, b, xs).fst.toP.snd.snd.snd.snd.fst,
                                  (a, b, xs).fst.toP.snd.snd.snd.snd.snd.fst,
                                  (a, b, xs).fst.toP.snd.snd.snd.snd.snd.snd.fst,
                                  (a, b, xs).fst.toP.snd.snd.snd.snd.snd.snd.snd),
                              S.ofP
                                ((a, b, xs).snd.fst.toP.fst, (a, b, xs).snd.fst.toP.snd.fst,
                                  (a, b, xs).snd.fst.toP.snd.snd.fst, (a, b, xs).snd.fst.toP.snd.snd.snd.fst,
                                  (a, b, xs).snd.fst.toP.snd.snd.snd.snd.fst,
                                  (a, b, xs).snd.fst.toP.snd.snd.snd.snd.snd.fst,
                                  (a, b, xs).snd.fst.toP.snd.snd.snd.snd.snd.snd.fst,
                                  (a, b, xs).snd.fst.toP.snd.snd.snd.snd.snd.snd.snd))) =
                    true →
                  (!(fun g => compare_F g.fst g.snd)
                            (S.ofP
                                ((a, b, xs).fst.toP.fst, (a, b, xs).fst.toP.snd.fst, (a, b, xs).fst.toP.snd.snd.fst,
                                  (a, b, xs).fst.toP.snd.snd.snd.fst, (a, b, xs).fst.toP.snd.snd.snd.snd.fst,
                                  (a, b, xs).fst.toP.snd.snd.snd.snd.snd.fst,
                                  (a, b, xs).fst.toP.snd.snd.snd.snd.snd.snd.fst,
                                  (a, b, xs).fst.toP.snd.snd.snd.snd.snd.snd.snd),
                              S.ofP
                                ((a, b, xs).snd.fst.toP.fst, (a, b, xs).snd.fst.toP.snd.fst,
                                  (a, b, xs).snd.fst.toP.snd.snd.fst, (a, b, xs).snd.fst.toP.snd.snd.snd.fst,
                                  (a, b, xs).snd.fst.toP.snd.snd.snd.snd.fst,
                                  (a, b, xs).snd.fst.toP.snd.snd.snd.snd.snd.fst,
                                  (a, b, xs).snd.fst.toP.snd.snd.snd.snd.snd.snd.fst,
                                  (a, b, xs).snd.fst.toP.snd.snd.snd.snd.snd.snd.snd)) !=
                          (fun g => rcompare_F g.fst g.snd)
                            (S.ofP
                                ((a, b, xs).fst.toP.fst, (a, b, xs).fst.toP.snd.fst, (a, b, xs).fst.toP.snd.snd.fst,
                                  (a, b, xs).fst.toP.snd.snd.snd.fst, (a, b, xs).fst.toP.snd.snd.snd.snd.fst,
                                  (a, b, xs).fst.toP.snd.snd.snd.snd.snd.fst,
                                  (a, b, xs).fst.toP.snd.snd.snd.snd.snd.snd.fst,
                                  (a, b, xs).fst.toP.snd.snd.snd.snd.snd.snd.snd),
                              S.ofP
                                ((a, b, xs).snd.fst.toP.fst, (a, b, xs).snd.fst.toP.snd.fst,
                                  (a, b, xs).snd.fst.toP.snd.snd.fst, (a, b, xs).snd.fst.toP.snd.snd.snd.fst,
                                  (a, b, xs).snd.fst.toP.snd.snd.snd.snd.fst,
                                  (a, b, xs).snd.fst.toP.snd.snd.snd.snd.snd.fst,
                                  (a, b, xs).snd.fst.toP.snd.snd.snd.snd.snd.snd.fst,
                                  (a, b, xs).snd.fst.toP.snd.snd.snd.snd.snd.snd.snd))) =
                      true →
                    ∀ (e : Nat),
                      e <
                          (leastS
                                (eS.lst
                                  ((fun l => List.take (40 : Nat) l)
                                      (eS.lst (a, b, xs).snd.snd.length (eS.els (a, b, xs).snd.snd))).length
                                  (eS.els
                                    ((fun l => List.take (40 : Nat) l)
                                      (eS.lst (a, b, xs).snd.snd.length (eS.els (a, b, xs).snd.snd)))))).fst.length →
                        eS.Ok
                          (eS.els
                            (leastS
                                (eS.lst (List.take (40 : Nat) (eS.lst xs.length (eS.els xs))).length
                                  (eS.els (List.take (40 : Nat) (eS.lst xs.length (eS.els xs)))))).fst
                            e)) ∧
              ((!!(fun x => true) ()) = true →
                  (!!(fun g => leqC g.fst g.snd)
                              (S.ofP
                                  ((a, b, xs).fst.toP.fst, (a, b, xs).fst.toP.snd.fst, (a, b, xs).fst.toP.snd.snd.fst,
                                    (a, b, xs).fst.toP.snd.snd.snd.fst, (a, b, xs).fst.toP.snd.snd.snd.snd.fst,
                                    (a, b, xs).fst.toP.snd.snd.snd.snd.snd.fst,
                                    (a, b, xs).fst.toP.snd.snd.snd.snd.snd.snd.fst,
                                    (a, b, xs).fst.toP.snd.snd.snd.snd.snd.snd.snd),
                                S.ofP
                                  ((a, b, xs).snd.fst.toP.fst, (a, b, xs).snd.fst.toP.snd.fst,
                                    (a, b, xs).snd.fst.toP.snd.snd.fst, (a, b, xs).snd.fst.toP.snd.snd.snd.fst,
                                    (a, b, xs).snd.fst.toP.snd.snd.snd.snd.fst,
                                    (a, b, xs).snd.fst.toP.snd.snd.snd.snd.snd.fst,
                                    (a, b, xs).snd.fst.toP.snd.snd.snd.snd.snd.snd.fst,
                                    (a, b, xs).snd.fst.toP.snd.snd.snd.snd.snd.snd.snd)) ==
                            (fun g => leqC g.fst g.snd)
                              (S.ofP
                                  ((a, b, xs).fst.toP.fst, (a, b, xs).fst.toP.snd.fst, (a, b, xs).fst.toP.snd.snd.fst,
                                    (a, b, xs).fst.toP.snd.snd.snd.fst, (a, b, xs).fst.toP.snd.snd.snd.snd.fst,
                                    (a, b, xs).fst.toP.snd.snd.snd.snd.snd.fst,
                                    (a, b, xs).fst.toP.snd.snd.snd.snd.snd.snd.fst,
                                    (a, b, xs).fst.toP.snd.snd.snd.snd.snd.snd.snd),
                                S.ofP
                                  ((a, b, xs).snd.fst.toP.fst, (a, b, xs).snd.fst.toP.snd.fst,
                                    (a, b, xs).snd.fst.toP.snd.snd.fst, (a, b, xs).snd.fst.toP.snd.snd.snd.fst,
                                    (a, b, xs).snd.fst.toP.snd.snd.snd.snd.fst,
                                    (a, b, xs).snd.fst.toP.snd.snd.snd.snd.snd.fst,
                                    (a, b, xs).snd.fst.toP.snd.snd.snd.snd.snd.snd.fst,
                                    (a, b, xs).snd.fst.toP.snd.snd.snd.snd.snd.snd.snd))) =
                      true →
                    (!(fun g => compare_F g.fst g.snd)
                              (S.ofP
                                  ((a, b, xs).fst.toP.fst, (a, b, xs).fst.toP.snd.fst, (a, b, xs).fst.toP.snd.snd.fst,
                                    (a, b, xs).fst.toP.snd.snd.snd.fst, (a, b, xs).fst.toP.snd.snd.snd.snd.fst,
                                    (a, b, xs).fst.toP.snd.snd.snd.snd.snd.fst,
                                    (a, b, xs).fst.toP.snd.snd.snd.snd.snd.snd.fst,
                                    (a, b, xs).fst.toP.snd.snd.snd.snd.snd.snd.snd),
                                S.ofP
                                  ((a, b, xs).snd.fst.toP.fst, (a, b, xs).snd.fst.toP.snd.fst,
                                    (a, b, xs).snd.fst.toP.snd.snd.fst, (a, b, xs).snd.fst.toP.snd.snd.snd.fst,
                                    (a, b, xs).snd.fst.toP.snd.snd.snd.snd.fst,
                                    (a, b, xs).snd.fst.toP.snd.snd.snd.snd.snd.fst,
                                    (a, b, xs).snd.fst.toP.snd.snd.snd.snd.snd.snd.fst,
                                    (a, b, xs).snd.fst.toP.snd.snd.snd.snd.snd.snd.snd)) !=
                            (fun g => rcompare_F g.fst g.snd)
                              (S.ofP
                                  ((a, b, xs).fst.toP.fst, (a, b, xs).fst.toP.snd.fst, (a, b, xs).fst.toP.snd.snd.fst,
                                    (a, b, xs).fst.toP.snd.snd.snd.fst, (a, b, xs).fst.toP.snd.snd.snd.snd.fst,
                                    (a, b, xs).fst.toP.snd.snd.snd.snd.snd.fst,
                                    (a, b, xs).fst.toP.snd.snd.snd.snd.snd.snd.fst,
                                    (a, b, xs).fst.toP.snd.snd.snd.snd.snd.snd.snd),
                                S.ofP
                                  ((a, b, xs).snd.fst.toP.fst, (a, b, xs).snd.fst.toP.snd.fst,
                                    (a, b, xs).snd.fst.toP.snd.snd.fst, (a, b, xs).snd.fst.toP.snd.snd.snd.fst,
                                    (a, b, xs).snd.fst.toP.snd.snd.snd.snd.fst,
                                    (a, b, xs).snd.fst.toP.snd.snd.snd.snd.snd.fst,
                                    (a, b, xs).snd.fst.toP.snd.snd.snd.snd.snd.snd.fst,
                                    (a, b, xs).snd.fst.toP.snd.snd.snd.snd.snd.snd.snd))) =
                        true →
                      ∀ (e : Nat),
                        e <
                            (leastS
                                  (eS.lst
                                    ((fun l => List.take (40 : Nat) l)
                                        (eS.lst (a, b, xs).snd.snd.length (eS.els (a, b, xs).snd.snd))).length
                                    (eS.els
                                      ((fun l => List.take (40 : Nat) l)
                                        (eS.lst (a, b, xs).snd.snd.length (eS.els (a, b, xs).snd.snd)))))).fst.length →
                          eS.Ok
                            (eS.els
                              (leastS
                                  (eS.lst (List.take (40 : Nat) (eS.lst xs.length (eS.els xs))).length
                                    (eS.els (List.take (40 : Nat) (eS.lst xs.length (eS.els xs)))))).fst
                              e)) ∧
                ((!true ||
                      (!leqC a b == leqC a b ||
                        (compare_F a b != rcompare_F a b ||
                          (!decide
                                (eS.lst
                                    (leastS
                                          (eS.lst (List.take (40 : Nat) (eS.lst xs.length (eS.els xs))).length
                                            (eS.els (List.take (40 : Nat) (eS.lst xs.length (eS.els xs)))))).fst.length
                                    (eS.els
                                      (leastS
                                          (eS.lst (List.take (40 : Nat) (eS.lst xs.length (eS.els xs))).length
                                            (eS.els (List.take (40 : Nat) (eS.lst xs.length (eS.els xs)))))).fst) =
                                  eS.lst
                                    (leastS
                                          (eS.lst (List.take (40 : Nat) (eS.lst xs.length (eS.els xs))).length
                                            (eS.els (List.take (40 : Nat) (eS.lst xs.length (eS.els xs)))))).fst.length
                                    (eS.els
                                      (leastS
                                          (eS.lst (List.take (40 : Nat) (eS.lst xs.length (eS.els xs))).length
                                            (eS.els (List.take (40 : Nat) (eS.lst xs.length (eS.els xs)))))).fst)) ||
                            (leastS
                                  (eS.lst (List.take (40 : Nat) (eS.lst xs.length (eS.els xs))).length
                                    (eS.els (List.take (40 : Nat) (eS.lst xs.length (eS.els xs)))))).snd !=
                              (leastS
                                  (eS.lst (List.take (40 : Nat) (eS.lst xs.length (eS.els xs))).length
                                    (eS.els (List.take (40 : Nat) (eS.lst xs.length (eS.els xs)))))).snd)))) =
                    false →
                  ((leastS
                            (eS.lst (List.take (40 : Nat) (eS.lst xs.length (eS.els xs))).length
                              (eS.els (List.take (40 : Nat) (eS.lst xs.length (eS.els xs)))))).snd !=
                        (0 : Int)) =
                      false →
                    (∀ (e : Nat),
                        e <
                            (leastS
                                  (eS.lst
                                    ((fun l => List.take (40 : Nat) l)
                                        (eS.lst (a, b, xs).snd.snd.length (eS.els (a, b, xs).snd.snd))).length
                                    (eS.els
                                      ((fun l => List.take (40 : Nat) l)
                                        (eS.lst (a, b, xs).snd.snd.length (eS.els (a, b, xs).snd.snd)))))).fst.length →
                          eS.Ok
                            (eS.els
                              (leastS
                                  (eS.lst (List.take (40 : Nat) (eS.lst xs.length (eS.els xs))).length
                                    (eS.els (List.take (40 : Nat) (eS.lst xs.length (eS.els xs)))))).fst
                              e)) ∧
                      (∀ (e : Nat),
                          e <
                              ((fun l => List.take (40 : Nat) l)
                                  (eS.lst (a, b, xs).snd.snd.length (eS.els (a, b, xs).snd.snd))).length →
                            eS.Ok (eS.els (List.take (40 : Nat) (eS.lst xs.length (eS.els xs))) e)) ∧
                        (↑(List.take (40 : Nat) (eS.lst xs.length (eS.els xs))).length : Int) =
                            (↑(eS.lst (List.take (40 : Nat) (eS.lst xs.length (eS.els xs))).length
                                    (eS.els (List.take (40 : Nat) (eS.lst xs.length (eS.els xs))))).length :
                              Int) ∧
                          (eS.lst (List.take (40 : Nat) (eS.lst xs.length (eS.els xs))).length
                                  (eS.els (List.take (40 : Nat) (eS.lst xs.length (eS.els xs))))).length ≤
                              maxLen ∧
                            (0 : Int) ≤ (0 : Int) ∧
                              (0 : Int) ≤
                                (↑(eS.lst (List.take (40 : Nat) (eS.lst xs.length (eS.els xs))).length
                                        (eS.els (List.take (40 : Nat) (eS.lst xs.length (eS.els xs))))).length :
                                  Int))
theorem lw8_okS (pre : DA.T aLaw8 → List Prop) (h : ∀ g, DA.bd aLaw8 g → (∀ p ∈ pre g, p) → lw8_side g.1 g.2.1 g.2.2) : FnPure Try.prog 8 aLaw8 dBool (fun g => lw8_F g.1 g.2.1 g.2.2) pre := pure_of_sideS (Γ := (PTab.gamz tab37 [] [])) (Λ := lam34) (PTab.okz tab37 [] []) lam34_ok 100 default (fun g => lw8_side g.1 g.2.1 g.2.2) (fun g => by kernel_rfl) (fun g => by kernel_rfl) h
noncomputable def tab39 : PTab Try.prog := tab37
end Go.Proofs.Ytapmlfklkfgmoaa

/- Chapter 2: summaries as what they do to lists of counters: Then is composition. -/
namespace Go.Proofs.Ytapmlfklkfgmoaa
open Go.RowKit Go.Sx
/-- Things to which a number can be added, and numbers among them. -/
structure Ac (α : Type) where
  add : α → Int → α
  c : Int → α
  h0 : ∀ x, add x 0 = x
  ha : ∀ x a b, add (add x a) b = add x (a + b)
  hc : ∀ x a, add (c x) a = c (x + a)
def acI : Ac Int := ⟨(· + ·), id, fun x => Int.add_zero x, fun x a b => Int.add_assoc x a b, fun _ _ => rfl⟩
def acC : Ac C := ⟨fun x a => (x.1, x.2 + a), fun n => (false, n), fun x => by simp, fun x a b => by simp [Int.add_assoc], fun _ _ => rfl⟩
section
variable {α : Type} (A : Ac α)
/-- The last one more. -/
def inc (a : Int) : List α → List α
  | [] => []
  | [x] => [A.add x a]
  | x :: y :: r => x :: inc a (y :: r)
theorem inc_length (a : Int) : ∀ l : List α, (inc A a l).length = l.length
  | [] => rfl
  | [_] => rfl
  | x :: y :: r => by simp only [inc, List.length_cons, inc_length a (y :: r)]
theorem inc_snoc (a : Int) (x : α) : ∀ l : List α, inc A a (l ++ [x]) = l ++ [A.add x a]
  | [] => rfl
  | [_] => rfl
  | y :: z :: r => by
    have := inc_snoc a x (z :: r)
    simp only [List.cons_append] at this ⊢
    simp only [inc, this]
theorem snoc_of {l : List α} (h : l ≠ []) : ∃ i x, l = i ++ [x] := ⟨l.dropLast, l.getLast h, (List.dropLast_concat_getLast h).symm⟩
theorem inc_append (a : Int) (l : List α) {r : List α} (h : r ≠ []) : inc A a (l ++ r) = l ++ inc A a r := by
  obtain ⟨i, x, rfl⟩ := snoc_of h
  rw [← List.append_assoc, inc_snoc, inc_snoc, List.append_assoc]
theorem inc_inc (a b : Int) (l : List α) : inc A b (inc A a l) = inc A (a + b) l := by
  by_cases h : l = []
  · subst h; rfl
  · obtain ⟨i, x, rfl⟩ := snoc_of h
    rw [inc_snoc, inc_snoc, inc_snoc, A.ha]
theorem inc_zero (l : List α) : inc A 0 l = l := by
  by_cases h : l = []
  · subst h; rfl
  · obtain ⟨i, x, rfl⟩ := snoc_of h
    rw [inc_snoc, A.h0]
theorem inc_map (a : Int) (l : List Int) : inc A a (l.map A.c) = (inc acI a l).map A.c := by
  by_cases h : l = []
  · subst h; rfl
  · obtain ⟨i, x, rfl⟩ := snoc_of h
    rw [List.map_append, List.map_cons, List.map_nil, inc_snoc, inc_snoc, List.map_append, A.hc]; rfl
theorem take_inc (a : Int) {k : Nat} {l : List α} (h : k < l.length) : (inc A a l).take k = l.take k := by
  obtain ⟨i, x, rfl⟩ := snoc_of (l := l) (by intro h'; subst h'; simp at h)
  simp at h
  rw [inc_snoc, List.take_append_of_le_length (by omega), List.take_append_of_le_length (by omega)]
theorem inc_take (a : Int) (d : α) {j : Nat} {l : List α} (h : j < l.length) : inc A a (l.take (j + 1)) = l.take j ++ [A.add (l.getD j d) a] := by
  rw [List.take_succ_eq_append_getElem h, inc_snoc, List.getD_eq_getElem?_getD, List.getElem?_eq_getElem h]; rfl
abbrev Rep := Nat × Int × List Int
def G (r : Rep) (L : List α) : List α := inc A r.2.1 (L.take r.1) ++ r.2.2.map A.c
end
def comp (x y : Rep) : Rep :=
  if y.1 = x.1 then (x.1, x.2.1 + y.2.1, y.2.2) else if x.1 < y.1 then (x.1, x.2.1, inc acI y.2.1 (x.2.2.take (y.1 - x.1)) ++ y.2.2) else (y.1, y.2.1, y.2.2)
theorem G_comp {α : Type} (A : Ac α) (x y : Rep) (L : List α) (hL : x.1 ≤ L.length) (hy : y.1 ≤ x.1 + x.2.2.length) : G A (comp x y) L = G A y (G A x L) := by
  obtain ⟨k, a, P⟩ := x
  obtain ⟨k', a', P'⟩ := y
  simp only at hL hy
  have hk : (L.take k).length = k := by simp; omega
  unfold comp G
  simp only
  split
  · rename_i h
    subst h
    simp only
    rw [List.take_append_of_le_length (by rw [inc_length, hk]; exact Nat.le_refl _), List.take_of_length_le (l := inc A a (L.take k')) (by rw [inc_length, hk]; exact Nat.le_refl _), inc_inc]
  · split
    · rename_i h1 h2
      simp only
      have e : (inc A a (L.take k) ++ P.map A.c).take k' = inc A a (L.take k) ++ (P.take (k' - k)).map A.c := by
        rw [List.take_append, inc_length, hk, List.take_of_length_le (l := inc A a (L.take k)) (by rw [inc_length, hk]; omega), List.map_take]
      rw [e, inc_append, inc_map, List.map_append, List.append_assoc]
      intro h
      have := congrArg List.length h
      rw [List.length_map, List.length_take, List.length_nil] at this
      omega
    · rename_i h1 h2
      simp only
      rw [List.take_append_of_le_length (by rw [inc_length, hk]; omega), take_inc A a (by omega), List.take_take, Nat.min_eq_left (by omega)]
/-! ### summaries -/
def S.rep (s : S) : Rep := (s.k.toNat, s.a, s.p.take s.n.toNat)
def mk (f : Int) (r : Rep) : S := mkS f r.1 r.2.1 r.2.2.length r.2.2
def Bd (r : Rep) : Prop := r.2.1 ≤ 1048576 ∧ ∀ x ∈ r.2.2, x ≤ 1048576
structure ROk (f : Int) (r : Rep) : Prop where
  kf : (r.1 : Int) ≤ f
  f4 : f ≤ 4
  len : r.1 + r.2.2.length ≤ 4
  z : r.1 = 0 → r.2.1 = 0
  a0 : 0 ≤ r.2.1
  p0 : ∀ x ∈ r.2.2, 0 ≤ x
theorem rep_ok {s : S} (h : s.Ok) : ROk s.f s.rep ∧ Bd s.rep ∧ s.rep.2.2.length = s.n.toNat := by
  obtain ⟨h1, h2, h3⟩ := sizes h
  have hl : s.rep.2.2.length = s.n.toNat := by simp only [S.rep, List.length_take, len_p]; omega
  have g1 := h.1
  have g2 := h.2.1
  refine ⟨⟨?_, ?_, ?_, ?_, ?_, ?_⟩, ⟨?_, ?_⟩, hl⟩
  · simp only [S.rep]; omega
  · omega
  · rw [hl]; exact h3
  · intro hz; simp only [S.rep] at hz ⊢; omega
  · simp only [S.rep]; omega
  · intro x hx; exact (p_mem h x (List.mem_of_mem_take hx)).1
  · simp only [S.rep]; omega
  · intro x hx; exact (p_mem h x (List.mem_of_mem_take hx)).2
theorem mk_rep {s : S} (h : s.Ok) : mk s.f s.rep = s := by
  obtain ⟨_, _, hl⟩ := rep_ok h
  obtain ⟨h1, h2, h3⟩ := sizes h
  unfold mk
  rw [hl]
  simp only [S.rep]
  rw [mkS_take h h2, ← h1, ← h2]; rfl
theorem ok_mk {f : Int} {r : Rep} (h : ROk f r) : (mk f r).Ok ↔ Bd r := by
  have := okmk (f := f) (k := (r.1 : Int)) (a := r.2.1) (n := r.2.2.length) (l := r.2.2) rfl (by have := h.1; have := h.2; have := h.3; omega)
  unfold mk
  rw [this]
  have h1 := h.a0
  have h2 := h.z
  constructor
  · exact fun ⟨x, y⟩ => ⟨x.2.1, fun z hz => (y z hz).2⟩
  · exact fun ⟨x, y⟩ => ⟨⟨h1, x, fun hz => h2 (by omega)⟩, fun z hz => ⟨h.p0 z hz, y z hz⟩⟩
theorem rep_mk {f : Int} {r : Rep} (h : ROk f r) : (mk f r).rep = r := by
  obtain ⟨k, a, P⟩ := r
  have hl := h.len
  simp only at hl
  have h4 : P.length ≤ 4 := by omega
  simp only [mk, mkS, S.rep, S.p]
  match P, h4 with
  | [], _ => simp
  | [x0], _ => simp
  | [x0, x1], _ => simp
  | [x0, x1, x2], _ => simp
  | [x0, x1, x2, x3], _ => simp
theorem sym_eq {s : S} (h : s.Ok) : s.sym = G acC s.rep (List.replicate s.f.toNat (true, 0)) := by
  have hk : s.k.toNat ≤ s.f.toNat := by have := h.1; omega
  unfold S.sym symC G
  simp only [S.rep]
  congr 1
  generalize s.k.toNat = k at hk
  cases k with
  | zero => simp [inc]
  | succ j =>
    rw [List.take_replicate, Nat.min_eq_left hk, List.replicate_succ', inc_snoc]
    simp [acC]
theorem comp_ok {f g : Int} {x y : Rep} (hx : ROk f x) (hy : ROk g y) (h : (x.1 + x.2.2.length : Int) = g) : ROk f (comp x y) := by
  obtain ⟨k, a, P⟩ := x
  obtain ⟨k', a', P'⟩ := y
  obtain ⟨x1, x2, x3, x4, x5, x6⟩ := hx
  obtain ⟨y1, y2, y3, y4, y5, y6⟩ := hy
  simp only at x1 x2 x3 x4 x5 x6 y1 y2 y3 y4 y5 y6 h
  unfold comp
  simp only
  split
  · rename_i he
    subst he
    refine ⟨x1, x2, y3, fun hz => ?_, ?_, y6⟩
    · simp only at hz ⊢; have := x4 hz; have := y4 hz; omega
    · simp only; omega
  · split
    · rename_i h1 h2
      refine ⟨x1, x2, ?_, x4, x5, fun z hz => ?_⟩
      · simp only [List.length_append, inc_length, List.length_take]; omega
      · simp only at hz
        rcases List.mem_append.1 hz with hz | hz
        · have hlt : k' - k - 1 < P.length := by omega
          rw [show k' - k = (k' - k - 1) + 1 by omega, inc_take acI a' 0 hlt] at hz
          rcases List.mem_append.1 hz with hz | hz
          · exact x6 z (List.mem_of_mem_take hz)
          · rw [List.mem_singleton.1 hz]
            have : 0 ≤ P.getD (k' - k - 1) 0 := by
              rw [List.getD_eq_getElem?_getD, List.getElem?_eq_getElem hlt]
              exact x6 _ (List.getElem_mem hlt)
            show 0 ≤ P.getD (k' - k - 1) 0 + a'
            omega
        · exact y6 z hz
    · rename_i h1 h2
      exact ⟨by simp only; omega, x2, y3, y4, y5, y6⟩
/-- What Then makes, if both may be and fit. -/
theorem thenF_eq {a b : S} (ha : a.Ok) (hb : b.Ok) (he : a.k + a.n = b.f) : (Bd (comp a.rep b.rep) → thenF a b = (mk a.f (comp a.rep b.rep), 0)) ∧ (¬ Bd (comp a.rep b.rep) → thenF a b = (zS, 12)) := by
  have ma := (may_iff a).2 ha
  have mb := (may_iff b).2 hb
  obtain ⟨h1, h2, h3⟩ := then_facts ma mb he
  obtain ⟨ra, ba, la⟩ := rep_ok ha
  obtain ⟨rb, bb, lb⟩ := rep_ok hb
  obtain ⟨kb, nb, _⟩ := sizes hb
  rw [thenF_core ma mb he]
  unfold thenC
  simp only [S.rep] at ba bb la lb
  have hbA : b.a ≤ 1048576 := bb.1
  have haA : a.a ≤ 1048576 := ba.1
  cases hk : Nat.beq b.k.toNat a.k.toNat with
  | true =>
    have hkk := beq_of hk
    have ec : comp a.rep b.rep = (a.k.toNat, a.a + b.a, b.p.take b.n.toNat) := if_pos hkk
    rw [ec]
    simp only [cond_true, Bd]
    refine ⟨fun h => ?_, fun h => ?_⟩
    · rw [decide_eq_false (by have := h.1; omega)]
      simp only [cond_false, mk, lb]
      rw [mkS_take hb nb, Int.add_comm]
    · rw [decide_eq_true]; · rfl
      apply Classical.byContradiction
      intro hn
      exact h ⟨by omega, bb.2⟩
  | false =>
    have hne : ¬ b.k.toNat = a.k.toNat := fun h => by rw [h, Nat.beq_refl] at hk; cases hk
    simp only [cond_false]
    cases hl : Nat.blt a.k.toNat b.k.toNat with
    | true =>
      have hlt : a.k.toNat < b.k.toNat := Nat.le_of_ble_eq_true hl
      have ec : comp a.rep b.rep = (a.k.toNat, a.a, inc acI b.a ((a.p.take a.n.toNat).take (b.k.toNat - a.k.toNat)) ++ b.p.take b.n.toNat) := (if_neg hne).trans (if_pos hlt)
      rw [ec]
      simp only [cond_true]
      have hP : b.k.toNat - a.k.toNat - 1 < (a.p.take a.n.toNat).length := by simp [len_p]; omega
      have e1 : inc acI b.a ((a.p.take a.n.toNat).take (b.k.toNat - a.k.toNat)) = a.p.take (b.k.toNat - a.k.toNat - 1) ++ [a.p.getD (b.k.toNat - a.k.toNat - 1) 0 + b.a] := by
        rw [List.take_take, Nat.min_eq_left (by omega), show b.k.toNat - a.k.toNat = (b.k.toNat - a.k.toNat - 1) + 1 by omega, inc_take acI b.a 0 (by simp [len_p]; omega)]
        rfl
      rw [e1]
      have hpa := p_get ha (b.k.toNat - a.k.toNat - 1)
      refine ⟨fun h => ?_, fun h => ?_⟩
      · have := h.2 (a.p.getD (b.k.toNat - a.k.toNat - 1) 0 + b.a) (List.mem_append_left _ (List.mem_append_right _ (List.mem_singleton.2 rfl)))
        rw [decide_eq_false (by omega)]
        simp only [cond_false, mk]
        congr 2
        simp only [List.length_append, List.length_take, len_p, List.length_cons, List.length_nil]
        omega
      · rw [decide_eq_true]; · rfl
        apply Classical.byContradiction
        intro hn
        refine h ⟨haA, fun x hx => ?_⟩
        rcases List.mem_append.1 hx with hx | hx
        · rcases List.mem_append.1 hx with hx | hx
          · exact (p_mem ha x (List.mem_of_mem_take hx)).2
          · rw [List.mem_singleton.1 hx]; omega
        · exact (p_mem hb x (List.mem_of_mem_take hx)).2
    | false =>
      have hlt : ¬ a.k.toNat < b.k.toNat := fun h => by rw [show Nat.blt a.k.toNat b.k.toNat = true from Nat.ble_eq_true_of_le h] at hl; cases hl
      have ec : comp a.rep b.rep = (b.k.toNat, b.a, b.p.take b.n.toNat) := (if_neg hne).trans (if_neg hlt)
      rw [ec]
      simp only [cond_false]
      refine ⟨fun _ => ?_, fun h => absurd ⟨hbA, bb.2⟩ h⟩
      simp only [mk, lb]
      rw [mkS_take hb nb]
theorem thenF_zero {a b : S} (h : (thenF a b).2 = 0) : a.Ok ∧ b.Ok ∧ a.k + a.n = b.f ∧ Bd (comp a.rep b.rep) ∧ thenF a b = (mk a.f (comp a.rep b.rep), 0) := by
  by_cases ha : a.Ok
  · by_cases hb : b.Ok
    · by_cases he : a.k + a.n = b.f
      · obtain ⟨h1, h2⟩ := thenF_eq ha hb he
        by_cases hB : Bd (comp a.rep b.rep)
        · exact ⟨ha, hb, he, hB, h1 hB⟩
        · rw [h2 hB] at h; cases h
      · unfold thenF at h
        rw [(may_iff a).2 ha, (may_iff b).2 hb, show (a.k + a.n != b.f) = true by simpa using he] at h
        cases h
    · unfold thenF at h
      rw [may_false hb] at h
      simp at h
  · unfold thenF at h
    rw [may_false ha] at h
    simp at h
theorem comp_rel {a b : S} (ha : a.Ok) (hb : b.Ok) (he : a.k + a.n = b.f) : ROk a.f (comp a.rep b.rep) ∧ b.rep.1 ≤ a.rep.1 + a.rep.2.2.length := by
  obtain ⟨ra, _, la⟩ := rep_ok ha
  obtain ⟨rb, _, lb⟩ := rep_ok hb
  have g1 := ha.1
  have g2 := hb.1
  have hc : ((a.rep.1 : Int) + a.rep.2.2.length) = b.f := by rw [la]; simp only [S.rep]; omega
  exact ⟨comp_ok ra rb hc, by have := rb.kf; omega⟩
theorem comp_len {x y : Rep} (h : y.1 ≤ x.1 + x.2.2.length) : (comp x y).1 + (comp x y).2.2.length = y.1 + y.2.2.length := by
  unfold comp
  split
  · rename_i h'; simp only; omega
  · split
    · simp only [List.length_append, inc_length, List.length_take]; omega
    · rfl
/-- What is made of all counters tells all. -/
theorem G_inj {f : Nat} {x y : Rep} (hx : x.1 ≤ f) (hy : y.1 ≤ f) (zx : x.1 = 0 → x.2.1 = 0) (zy : y.1 = 0 → y.2.1 = 0) (h : G acC x (List.replicate f (true, 0)) = G acC y (List.replicate f (true, 0))) : x = y := by
  obtain ⟨k, a, P⟩ := x
  obtain ⟨k', a', P'⟩ := y
  simp only [G] at h hx hy zx zy
  rw [List.take_replicate, List.take_replicate, Nat.min_eq_left hx, Nat.min_eq_left hy] at h
  have hc : ∀ (k : Nat) (a : Int) (P : List Int), (inc acC a (List.replicate k (true, 0)) ++ P.map acC.c).countP (·.1) = k := fun k a P => by
    rw [List.countP_append]
    have h2 : (P.map acC.c).countP (·.1) = 0 := by
      rw [List.countP_eq_zero]
      intro z hz
      obtain ⟨w, _, rfl⟩ := List.mem_map.1 hz
      simp [acC]
    rw [h2]
    cases k with
    | zero => rfl
    | succ j =>
      rw [List.replicate_succ', inc_snoc, List.countP_append, List.countP_replicate]
      simp [acC]
  have hk : k = k' := by rw [← hc k a P, h, hc]
  subst hk
  obtain ⟨h1, h2⟩ := List.append_inj h (by rw [inc_length, inc_length])
  have hP : P = P' := (List.map_inj_right (fun x y hxy => by simpa [acC] using hxy)).1 h2
  subst hP
  congr 1
  congr 1
  cases k with
  | zero => rw [zx rfl, zy rfl]
  | succ j =>
    rw [List.replicate_succ', inc_snoc, inc_snoc] at h1
    have := List.append_inj_right h1 rfl
    simpa [acC] using this
theorem mk_f (f : Int) (r : Rep) : (mk f r).f = f := rfl
theorem mk_k (f : Int) (r : Rep) : (mk f r).k = r.1 := rfl
theorem mk_n (f : Int) (r : Rep) : (mk f r).n = r.2.2.length := rfl
theorem then_assoc {a b c : S} (h1 : (thenF a b).2 = 0) (h2 : (thenF b c).2 = 0) (h3 : (thenF (thenF a b).1 c).2 = 0) (h4 : (thenF a (thenF b c).1).2 = 0) : (thenF (thenF a b).1 c).1 = (thenF a (thenF b c).1).1 := by
  obtain ⟨oa, ob, e1, b1, q1⟩ := thenF_zero h1
  obtain ⟨_, oc, e2, b2, q2⟩ := thenF_zero h2
  obtain ⟨_, _, e3, _, q3⟩ := thenF_zero h3
  obtain ⟨_, _, e4, _, q4⟩ := thenF_zero h4
  rw [q3, q4]
  rw [q1, q2]
  obtain ⟨r1, k1⟩ := comp_rel oa ob e1
  obtain ⟨r2, k2⟩ := comp_rel ob oc e2
  obtain ⟨ra, _, la⟩ := rep_ok oa
  obtain ⟨rb, _, lb⟩ := rep_ok ob
  obtain ⟨rc, _, lc⟩ := rep_ok oc
  simp only [mk_f]
  rw [rep_mk r1, rep_mk r2]
  congr 1
  have l1 := comp_len k1
  have l2 := comp_len k2
  have g1 := oa.1
  have ha1 : ((a.rep.1 : Int) + a.rep.2.2.length) = b.f := by rw [la]; simp only [S.rep]; omega
  have hf : a.rep.1 ≤ a.f.toNat := by have := ra.kf; omega
  have hbf := rb.kf
  have kb : c.rep.1 ≤ (comp a.rep b.rep).1 + (comp a.rep b.rep).2.2.length := by omega
  have kc : (comp b.rep c.rep).1 ≤ a.rep.1 + a.rep.2.2.length := by have := r2.kf; omega
  have o3 : ROk a.f (comp (comp a.rep b.rep) c.rep) := comp_ok r1 rc (by
    have g2 := ob.1
    have : ((comp a.rep b.rep).1 : Int) + (comp a.rep b.rep).2.2.length = b.rep.1 + b.rep.2.2.length := by omega
    rw [this, lb]; simp only [S.rep]; omega)
  have o4 : ROk a.f (comp a.rep (comp b.rep c.rep)) := comp_ok ra r2 ha1
  refine G_inj (f := a.f.toNat) (by have := o3.kf; omega) (by have := o4.kf; omega) o3.z o4.z ?_
  have hrl : a.rep.1 ≤ (List.replicate a.f.toNat ((true, 0) : C)).length := by simpa using hf
  have hc1 : (comp a.rep b.rep).1 ≤ (List.replicate a.f.toNat ((true, 0) : C)).length := by have := r1.kf; simp; omega
  rw [G_comp _ _ _ _ hc1 kb, G_comp _ _ _ _ hrl k1, G_comp _ _ _ _ hrl kc, G_comp _ _ _ _ ?_ k2]
  rw [G, List.length_append, inc_length, List.length_take, List.length_map]
  simp only [List.length_replicate]
  omega
end Go.Proofs.Ytapmlfklkfgmoaa

/- Chapter 2: Apply and Leq upon lists of counters; the laws SummBehind and SummOrder in plain words. -/
namespace Go.Proofs.Ytapmlfklkfgmoaa
open Go.RowKit Go.Sx
theorem mkT_l {e d : Int} {L : List Int} (h : L.length ≤ 4) : (mkT e d L).l = L ++ List.replicate (4 - L.length) 0 := by
  match L, h with
  | [], _ => rfl
  | [_], _ => rfl
  | [_, _], _ => rfl
  | [_, _, _], _ => rfl
  | [_, _, _, _], _ => rfl
theorem G_pad {α : Type} (A : Ac α) (r : Rep) (L Z : List α) (h : r.1 ≤ L.length) : G A r (L ++ Z) = G A r L := by
  unfold G
  rw [List.take_append_of_le_length h]
theorem G_length {α : Type} (A : Ac α) (r : Rep) (L : List α) (h : r.1 ≤ L.length) : (G A r L).length = r.1 + r.2.2.length := by
  unfold G
  rw [List.length_append, inc_length, List.length_take, List.length_map, Nat.min_eq_left h]
def BdL (l : List Int) : Prop := ∀ x ∈ l, x ≤ 1048576
def made (s : S) (t : T) : T := mkT t.e (s.k + s.n) (G acI s.rep t.l)
theorem applyF_eq {s : S} {t : T} (hs : s.Ok) (ht : t.Ok) (he : t.d = s.f) : (BdL (G acI s.rep t.l) → applyF s t = (made s t, 0)) ∧ (¬ BdL (G acI s.rep t.l) → applyF s t = (zT, 12)) := by
  rw [applyF_core ((may_iff s).2 hs) ((tcheck_iff t).2 ht) he]
  obtain ⟨ks, ns, h4⟩ := sizes hs
  have ga := hs.2.1
  have pm := p_mem hs
  have lm := l_mem ht
  unfold made
  have e0 : s.k + s.n = ((s.k.toNat + s.n.toNat : Nat) : Int) := by omega
  rw [e0]
  have eG : G acI s.rep t.l = inc acI s.a (t.l.take s.k.toNat) ++ s.p.take s.n.toNat := by
    unfold G; simp only [S.rep]; congr 1; exact List.map_id _
  rw [eG]
  generalize s.k.toNat = k at h4 ⊢
  cases k with
  | zero =>
    simp only [applyC, List.take_zero, inc, List.nil_append, Nat.zero_add]
    refine ⟨fun _ => trivial, fun h => absurd (fun x hx => (pm x (List.mem_of_mem_take hx)).2) h⟩
  | succ j =>
    rw [inc_take acI s.a 0 (by rw [len_l]; omega)]
    simp only [applyC]
    show (BdL ((t.l.take j ++ [t.l.getD j 0 + s.a]) ++ s.p.take s.n.toNat) → _) ∧ (¬ BdL ((t.l.take j ++ [t.l.getD j 0 + s.a]) ++ s.p.take s.n.toNat) → _)
    refine ⟨fun h => ?_, fun h => ?_⟩
    · have := h _ (List.mem_append_left _ (List.mem_append_right _ (List.mem_singleton.2 rfl)))
      rw [decide_eq_false (by omega)]; rfl
    · suffices hx : t.l.getD j 0 + s.a > 1048576 by simp only [decide_eq_true hx, cond_true]
      apply Classical.byContradiction
      intro hn
      refine h fun x hx => ?_
      rcases List.mem_append.1 hx with hx | hx
      · rcases List.mem_append.1 hx with hx | hx
        · exact (lm x (List.mem_of_mem_take hx)).2
        · rw [List.mem_singleton.1 hx]; omega
      · exact (pm x (List.mem_of_mem_take hx)).2
theorem applyF_zero {s : S} {t : T} (h : (applyF s t).2 = 0) : s.Ok ∧ t.Ok ∧ t.d = s.f ∧ BdL (G acI s.rep t.l) ∧ applyF s t = (made s t, 0) := by
  by_cases hs : s.Ok
  · by_cases ht : t.Ok
    · by_cases he : t.d = s.f
      · obtain ⟨h1, h2⟩ := applyF_eq hs ht he
        by_cases hB : BdL (G acI s.rep t.l)
        · exact ⟨hs, ht, he, hB, h1 hB⟩
        · rw [h2 hB] at h; cases h
      · unfold applyF at h
        rw [(may_iff s).2 hs, (tcheck_iff t).2 ht, show (t.d != s.f) = true by simpa using he] at h
        cases h
    · unfold applyF at h
      have hne : tcheck_F t ≠ 0 := fun h => ht ((tcheck_iff t).1 h)
      rw [(may_iff s).2 hs, show (tcheck_F t != 0) = true by simpa using hne] at h
      exact absurd h hne
  · unfold applyF at h
    rw [may_false hs] at h
    cases h
theorem rep_len {s : S} (hs : s.Ok) : ((s.rep.1 : Int) + s.rep.2.2.length) = s.k + s.n := by
  obtain ⟨_, _, l⟩ := rep_ok hs
  have := hs.1
  rw [l]; simp only [S.rep]; omega
theorem rep4 {s : S} (hs : s.Ok) : s.rep.1 ≤ 4 := by
  have := (rep_ok hs).1.kf
  have := (rep_ok hs).1.f4
  omega
theorem made_ok {s : S} {t : T} (hs : s.Ok) (ht : t.Ok) (hB : BdL (G acI s.rep t.l)) : (made s t).Ok := by
  have hl := G_length acI s.rep t.l (by rw [len_l]; exact rep4 hs)
  have h3 := (rep_ok hs).1.len
  have := rep_len hs
  have h := (okmt (e := t.e) (d := s.rep.1 + s.rep.2.2.length) (l := G acI s.rep t.l) hl h3 ⟨ht.1.1, ht.1.2.1⟩).2
  unfold made
  rw [show s.k + s.n = ((s.rep.1 + s.rep.2.2.length : Nat) : Int) by omega]
  refine h fun x hx => ⟨?_, hB x hx⟩
  unfold G at hx
  rcases List.mem_append.1 hx with hx | hx
  · have hk : s.rep.1 ≤ 4 := rep4 hs
    have ga := hs.2.1
    simp only [S.rep] at hx hk
    cases hk' : s.k.toNat with
    | zero => rw [hk'] at hx; simp [inc] at hx
    | succ j =>
      rw [hk', inc_take acI s.a 0 (by rw [len_l]; omega)] at hx
      rcases List.mem_append.1 hx with hx | hx
      · exact (l_mem ht x (List.mem_of_mem_take hx)).1
      · rw [List.mem_singleton.1 hx]
        have := l_get ht j
        show 0 ≤ t.l.getD j 0 + s.a
        omega
  · obtain ⟨y, hy, rfl⟩ := List.mem_map.1 hx
    exact (rep_ok hs).1.p0 y hy
theorem id_eq {d : Int} (h : 0 ≤ d ∧ d ≤ 4) : id_F d = (⟨d, d, 0, 0, 0, 0, 0, 0⟩, 0) := by
  unfold id_F
  rw [show (decide (d < 0) || decide (d > 4)) = false by simp; omega]; rfl
theorem idS_ok {d : Int} (h : 0 ≤ d ∧ d ≤ 4) : S.Ok ⟨d, d, 0, 0, 0, 0, 0, 0⟩ := by unfold S.Ok; simp; omega
theorem check_iff (s : S) : check_F s = 0 ↔ s.Ok := by
  unfold check_F
  by_cases h : s.Ok
  · rw [(may_iff s).2 h]; simp [h]
  · rw [may_false h]; simp [h]
theorem ends_eq {s : S} (h : s.Ok) : ends_F s = s.k + s.n := by
  unfold ends_F
  rw [(may_iff s).2 h]
  have := h.1
  exact wr (by omega)
/-! ### one behind the other -/
theorem behind_apply {a b : S} {t : T} (h1 : (applyF a t).2 = 0) (h2 : (applyF b (applyF a t).1).2 = 0) (h3 : (thenF a b).2 = 0) : applyF (thenF a b).1 t = ((applyF b (applyF a t).1).1, 0) := by
  obtain ⟨oa, ot, e1, b1, q1⟩ := applyF_zero h1
  rw [q1] at h2 ⊢
  obtain ⟨ob, ox, e2, b2, q2⟩ := applyF_zero h2
  obtain ⟨_, _, e3, b3, q3⟩ := thenF_zero h3
  rw [q2, q3]
  obtain ⟨rc, hk⟩ := comp_rel oa ob e3
  have os : (mk a.f (comp a.rep b.rep)).Ok := (ok_mk rc).2 b3
  have hl := G_length acI a.rep t.l (by rw [len_l]; exact rep4 oa)
  have h4 := (rep_ok oa).1.len
  have eG : G acI (mk a.f (comp a.rep b.rep)).rep t.l = G acI b.rep (made a t).l := by
    rw [rep_mk rc, G_comp acI _ _ _ (by rw [len_l]; exact rep4 oa) hk]
    unfold made
    rw [mkT_l (by omega), G_pad]
    omega
  have h := (applyF_eq os ot e1).1 (by rw [eG]; exact b2)
  rw [h]
  simp only [Prod.mk.injEq, and_true]
  show mkT t.e _ (G acI (mk a.f (comp a.rep b.rep)).rep t.l) = mkT t.e _ _
  rw [eG]
  congr 1
  have hc := comp_len hk
  have := rep_len ob
  simp only [mk_k, mk_n]
  omega
theorem id_then {a : S} (oa : a.Ok) : thenF (id_F a.f).1 a = (a, 0) := by
  have hf := oa.1
  rw [id_eq (by omega)]
  have oi := idS_ok (d := a.f) (by omega)
  obtain ⟨ra, ba, la⟩ := rep_ok oa
  have ec : comp (S.rep ⟨a.f, a.f, 0, 0, 0, 0, 0, 0⟩) a.rep = a.rep := by
    by_cases h : a.k.toNat = a.f.toNat
    · refine (if_pos h).trans ?_
      show (a.f.toNat, 0 + a.a, a.p.take a.n.toNat) = (a.k.toNat, a.a, a.p.take a.n.toNat)
      rw [h, Int.zero_add]
    · refine (if_neg h).trans (if_neg ?_)
      show ¬ a.f.toNat < a.k.toNat
      omega
  have h := (thenF_eq oi oa (by show a.f + 0 = a.f; omega)).1 (by rw [ec]; exact ba)
  rw [ec] at h
  rw [h]
  exact congrArg (·, (0 : Int)) (mk_rep oa)
theorem then_id {a : S} (oa : a.Ok) : thenF a (id_F (ends_F a)).1 = (a, 0) := by
  have hf := oa.1
  rw [ends_eq oa, id_eq (by omega)]
  have oi := idS_ok (d := a.k + a.n) (by omega)
  obtain ⟨ra, ba, la⟩ := rep_ok oa
  have ec : comp a.rep (S.rep ⟨a.k + a.n, a.k + a.n, 0, 0, 0, 0, 0, 0⟩) = a.rep := by
    have hl := rep_len oa
    unfold comp
    have e1 : (S.rep ⟨a.k + a.n, a.k + a.n, 0, 0, 0, 0, 0, 0⟩).1 = a.rep.1 + a.rep.2.2.length := by
      show (a.k + a.n).toNat = _
      omega
    have e2 : (S.rep ⟨a.k + a.n, a.k + a.n, 0, 0, 0, 0, 0, 0⟩).2 = (0, []) := by
      show ((0 : Int), List.take (0 : Int).toNat _) = _
      simp
    rw [e1, e2]
    split
    · rename_i h
      have : a.rep.2.2 = [] := List.length_eq_zero_iff.1 (by omega)
      simp only [Int.add_zero, ← this]
    · rw [if_pos (by omega)]
      simp only [List.append_nil, inc_zero, Nat.add_sub_cancel_left, List.take_length]
  have h := (thenF_eq oa oi (by show a.k + a.n = a.k + a.n; rfl)).1 (by rw [ec]; exact ba)
  rw [ec, mk_rep oa] at h
  exact h
end Go.Proofs.Ytapmlfklkfgmoaa

/- Chapter 2: lists held against each other, counter by counter. -/
namespace Go.Proofs.Ytapmlfklkfgmoaa
open Go.RowKit Go.Sx
/-- Pair by pair. -/
def pw {α β : Type} (R : α → β → Prop) : List α → List β → Prop
  | [], [] => True
  | x :: r, y :: r' => R x y ∧ pw R r r'
  | _, _ => False
section
variable {α β : Type} {R : α → β → Prop}
theorem pw_length : ∀ {l : List α} {l' : List β}, pw R l l' → l.length = l'.length
  | [], [], _ => rfl
  | _ :: _, _ :: _, h => by simp only [List.length_cons, pw_length h.2]
  | [], _ :: _, h => h.elim
  | _ :: _, [], h => h.elim
theorem pw_append : ∀ {l : List α} {l' : List β} {m : List α} {m' : List β}, pw R l l' → pw R m m' → pw R (l ++ m) (l' ++ m')
  | [], [], _, _, _, h => h
  | _ :: _, _ :: _, _, _, h, h' => ⟨h.1, pw_append h.2 h'⟩
  | [], _ :: _, _, _, h, _ => h.elim
  | _ :: _, [], _, _, h, _ => h.elim
theorem pw_take : ∀ (k : Nat) {l : List α} {l' : List β}, pw R l l' → pw R (l.take k) (l'.take k)
  | 0, _, _, _ => by simp [pw]
  | _ + 1, [], [], _ => by simp [pw]
  | k + 1, _ :: _, _ :: _, h => ⟨h.1, pw_take k h.2⟩
  | _ + 1, [], _ :: _, h => h.elim
  | _ + 1, _ :: _, [], h => h.elim
theorem pw_unsnoc : ∀ {l : List α} {l' : List β} {x : α} {y : β}, pw R (l ++ [x]) (l' ++ [y]) → pw R l l' ∧ R x y
  | [], [], _, _, h => ⟨trivial, h.1⟩
  | _ :: _, _ :: _, _, _, h => by
    obtain ⟨h1, h2⟩ := pw_unsnoc h.2
    exact ⟨⟨h.1, h1⟩, h2⟩
  | [], _ :: l', _, _, h => by have := pw_length h.2; simp at this
  | _ :: l, [], _, _, h => by have := pw_length h.2; simp at this
theorem pw_inc {A : Ac α} {B : Ac β} {c : Int} {l : List α} {l' : List β} (h : pw R l l') (hc : ∀ x y, R x y → A.add x c ∈ inc A c l → B.add y c ∈ inc B c l' → R (A.add x c) (B.add y c)) : pw R (inc A c l) (inc B c l') := by
  by_cases hl : l = []
  · subst hl
    cases l' with
    | nil => exact trivial
    | cons => exact h.elim
  · obtain ⟨i, x, rfl⟩ := snoc_of hl
    have hl' : l' ≠ [] := by
      rintro rfl
      have := pw_length h
      simp at this
    obtain ⟨j, y, rfl⟩ := snoc_of hl'
    obtain ⟨h1, h2⟩ := pw_unsnoc h
    rw [inc_snoc, inc_snoc] at hc ⊢
    exact pw_append h1 ⟨hc x y h2 (by simp) (by simp), trivial⟩
theorem pw_map {γ : Type} {f : γ → α} {g : γ → β} : ∀ (l : List γ), (∀ x ∈ l, R (f x) (g x)) → pw R (l.map f) (l.map g)
  | [], _ => trivial
  | x :: l, h => ⟨h x (List.mem_cons_self ..), pw_map l fun y hy => h y (List.mem_cons_of_mem _ hy)⟩
theorem pw_get : ∀ {l : List α} {l' : List β} (i : Nat) {x : α} {y : β}, pw R l l' → l[i]? = some x → l'[i]? = some y → R x y
  | [], [], _, _, _, _, h, _ => by simp at h
  | _ :: _, _ :: _, 0, _, _, h, hx, hy => by simp at hx hy; rw [← hx, ← hy]; exact h.1
  | _ :: _, _ :: _, i + 1, _, _, h, hx, hy => pw_get i h.2 (by simpa using hx) (by simpa using hy)
  | [], _ :: _, _, _, _, h, _, _ => h.elim
  | _ :: _, [], _, _, _, h, _, _ => h.elim
theorem pw_G {A : Ac α} {B : Ac β} {r : Rep} {l : List α} {l' : List β} (h : pw R l l') (hc : ∀ x y, R x y → A.add x r.2.1 ∈ G A r l → B.add y r.2.1 ∈ G B r l' → R (A.add x r.2.1) (B.add y r.2.1)) (hp : ∀ p ∈ r.2.2, R (A.c p) (B.c p)) : pw R (G A r l) (G B r l') :=
  pw_append (pw_inc (pw_take _ h) fun x y h1 h2 h3 => hc x y h1 (List.mem_append_left _ h2) (List.mem_append_left _ h3)) (pw_map _ hp)
end
def Le1 (x y : C) : Prop := le1 x y = true
theorem leB_iff : ∀ {l l' : List C}, l.length = l'.length → (leB l l' = true ↔ pw Le1 l l')
  | [], [], _ => by simp [leB, pw]
  | x :: l, y :: l', h => by
    simp only [leB, pw, Bool.and_eq_true]
    rw [leB_iff (by simpa using h)]; rfl
  | [], _ :: _, h => by simp at h
  | _ :: _, [], h => by simp at h
theorem le1_iff (x y : C) : Le1 x y ↔ (x.1 = true ∧ y.1 = false → y.2 = 1048576) ∧ (¬ (x.1 = true ∧ y.1 = false) → x.2 ≤ y.2) := by
  obtain ⟨s, n⟩ := x
  obtain ⟨t, m⟩ := y
  unfold Le1 le1
  cases s <;> cases t <;> simp
theorem le1_refl (x : C) : Le1 x x := by
  rw [le1_iff]
  refine ⟨fun h => ?_, fun _ => Int.le_refl _⟩
  rw [h.1] at h
  exact absurd h.2 (by simp)
theorem le1_trans {x y z : C} (hx : x.2 ≤ 1048576) (hy : y.2 ≤ 1048576) (hz : z.2 ≤ 1048576) (h : Le1 x y) (h' : Le1 y z) : Le1 x z := by
  rw [le1_iff] at h h' ⊢
  obtain ⟨s, n⟩ := x
  obtain ⟨t, m⟩ := y
  obtain ⟨u, p⟩ := z
  cases s <;> cases t <;> cases u <;> simp at h h' ⊢ <;> simp at hx hy hz <;> omega
theorem le1_add {x y : C} {c : Int} (hc : 0 ≤ c) (hy : y.2 + c ≤ 1048576) (h : Le1 x y) : Le1 (acC.add x c) (acC.add y c) := by
  rw [le1_iff] at h ⊢
  obtain ⟨s, n⟩ := x
  obtain ⟨t, m⟩ := y
  simp only [acC] at h hy ⊢
  refine ⟨fun h1 => ?_, fun h1 => ?_⟩
  · have := h.1 h1; omega
  · have := h.2 h1; omega
theorem pw_refl (l : List C) : pw Le1 l l := by
  have := pw_map (R := Le1) (f := id) (g := id) l fun x _ => le1_refl x
  simpa using this
theorem pw_trans : ∀ {a b c : List C}, (∀ x ∈ a, x.2 ≤ 1048576) → (∀ x ∈ b, x.2 ≤ 1048576) → (∀ x ∈ c, x.2 ≤ 1048576) → pw Le1 a b → pw Le1 b c → pw Le1 a c
  | [], [], [], _, _, _, _, _ => trivial
  | _ :: _, _ :: _, _ :: _, h1, h2, h3, h, h' => ⟨le1_trans (h1 _ (List.mem_cons_self ..)) (h2 _ (List.mem_cons_self ..)) (h3 _ (List.mem_cons_self ..)) h.1 h'.1,
      pw_trans (fun x hx => h1 x (List.mem_cons_of_mem _ hx)) (fun x hx => h2 x (List.mem_cons_of_mem _ hx)) (fun x hx => h3 x (List.mem_cons_of_mem _ hx)) h.2 h'.2⟩
  | [], _ :: _, _, _, _, _, h, _ => h.elim
  | _ :: _, [], _, _, _, _, h, _ => h.elim
  | [], [], _ :: _, _, _, _, _, h => h.elim
  | _ :: _, _ :: _, [], _, _, _, _, h => h.elim
def BdC (l : List C) : Prop := ∀ x ∈ l, x.2 ≤ 1048576
theorem bdC_G {f : Int} {r : Rep} (h : ROk f r) (hB : Bd r) (n : Nat) : BdC (G acC r (List.replicate n (true, 0))) := by
  intro x hx
  unfold G at hx
  rcases List.mem_append.1 hx with hx | hx
  · rw [List.take_replicate] at hx
    cases hm : min r.1 n with
    | zero => rw [hm] at hx; simp [inc] at hx
    | succ j =>
      rw [hm, List.replicate_succ', inc_snoc] at hx
      rcases List.mem_append.1 hx with hx | hx
      · rw [(List.mem_replicate.1 hx).2]; show (0 : Int) ≤ 1048576; omega
      · rw [List.mem_singleton.1 hx]
        have := hB.1
        simp only [acC]
        omega
  · obtain ⟨y, hy, rfl⟩ := List.mem_map.1 hx
    exact hB.2 y hy
theorem sym_bd {s : S} (h : s.Ok) : BdC s.sym := by
  rw [sym_eq h]
  exact bdC_G (rep_ok h).1 (rep_ok h).2.1 _
theorem sym_len {s : S} (h : s.Ok) : (s.sym.length : Int) = s.k + s.n := by
  have := rep_len h
  have h2 := (rep_ok h).1.kf
  rw [sym_eq h, G_length _ _ _ (by simp; omega)]
  omega
theorem leqC_iff (a b : S) : leqC a b = true ↔ a.Ok ∧ b.Ok ∧ a.f = b.f ∧ pw Le1 a.sym b.sym := by
  unfold leqC
  simp only [Bool.and_eq_true, may_iff, beq_iff_eq]
  constructor
  · rintro ⟨ha, hb, hf, he, h⟩
    have := sym_len ha
    have := sym_len hb
    exact ⟨ha, hb, hf, (leB_iff (by omega)).1 h⟩
  · rintro ⟨ha, hb, hf, h⟩
    have hl := pw_length h
    have := sym_len ha
    have := sym_len hb
    exact ⟨ha, hb, hf, by omega, (leB_iff hl).2 h⟩
theorem then_sym {a b : S} (h : (thenF a b).2 = 0) : a.Ok ∧ b.Ok ∧ (thenF a b).1.Ok ∧ (thenF a b).1.f = a.f ∧ (thenF a b).1.sym = G acC b.rep a.sym := by
  obtain ⟨oa, ob, e1, b1, q1⟩ := thenF_zero h
  obtain ⟨rc, hk⟩ := comp_rel oa ob e1
  have oc : (mk a.f (comp a.rep b.rep)).Ok := (ok_mk rc).2 b1
  rw [q1]
  refine ⟨oa, ob, oc, rfl, ?_⟩
  rw [sym_eq oc, rep_mk rc, sym_eq oa, mk_f]
  have h2 := (rep_ok oa).1.kf
  rw [G_comp acC _ _ _ (by simp; omega) hk]
theorem leq_then {a b c : S} (h : leqC a b = true) (h1 : (thenF a c).2 = 0) (h2 : (thenF b c).2 = 0) : leqC (thenF a c).1 (thenF b c).1 = true := by
  obtain ⟨oa, ob, hf, hp⟩ := (leqC_iff a b).1 h
  obtain ⟨_, oc, o1, f1, s1⟩ := then_sym h1
  obtain ⟨_, _, o2, f2, s2⟩ := then_sym h2
  rw [leqC_iff]
  refine ⟨o1, o2, by rw [f1, f2, hf], ?_⟩
  have b2 := sym_bd o2
  rw [s2] at b2
  rw [s1, s2]
  refine pw_G hp (fun x y hxy _ hy => ?_) fun p _ => le1_refl _
  exact le1_add (rep_ok oc).1.a0 (b2 _ hy) hxy
theorem leq_refl {a : S} (h : a.Ok) : leqC a a = true := (leqC_iff a a).2 ⟨h, h, rfl, pw_refl _⟩
theorem leq_trans {a b c : S} (h : leqC a b = true) (h' : leqC b c = true) : leqC a c = true := by
  obtain ⟨oa, ob, hf, hp⟩ := (leqC_iff a b).1 h
  obtain ⟨_, oc, hf', hp'⟩ := (leqC_iff b c).1 h'
  exact (leqC_iff a c).2 ⟨oa, oc, hf.trans hf', pw_trans (sym_bd oa) (sym_bd ob) (sym_bd oc) hp hp'⟩
/-! ### times -/
theorem rtleq_iff (a b : T) : rtleq_F a b = true ↔ a.Ok ∧ b.Ok ∧ a.d = b.d ∧ a.e ≤ b.e ∧ pw (· ≤ ·) a.l b.l := by
  unfold rtleq_F
  rw [← tcheck_iff, ← tcheck_iff, rtcheck_eq, rtcheck_eq]
  simp only [cond_ff, Bool.or_eq_false_iff, bne_eq_false_iff_eq, decide_eq_false_iff_not, T.l, pw, eq_self, and_true]
  constructor
  · rintro ⟨⟨h1, h2, h3, h4⟩, h5, h6, h7, h8⟩
    exact ⟨h1, h2, h3, by omega, by omega, by omega, by omega, by omega⟩
  · rintro ⟨h1, h2, h3, h4, h5, h6, h7, h8⟩
    exact ⟨⟨h1, h2, h3, by omega⟩, by omega, by omega, by omega, by omega⟩
theorem pad_pw {L L' : List Int} (h : pw (· ≤ ·) L L') : pw (· ≤ ·) (L ++ List.replicate (4 - L.length) 0) (L' ++ List.replicate (4 - L'.length) 0) := by
  refine pw_append h ?_
  rw [pw_length h]
  generalize 4 - L'.length = n
  induction n with
  | zero => exact trivial
  | succ n ih => rw [List.replicate_succ]; exact ⟨Int.le_refl _, ih⟩
theorem adv_ok' {s : S} {t : T} (h : adv_F s = true) (h1 : (applyF s t).2 = 0) : rtleq_F t (applyF s t).1 = true ∧ t.l ≠ (applyF s t).1.l := by
  obtain ⟨os, ot, e, hB, q⟩ := applyF_zero h1
  rw [q]
  have om := made_ok os ot hB
  unfold adv_F at h
  simp only [Bool.and_eq_true, beq_iff_eq, decide_eq_true_eq] at h
  obtain ⟨_, hk, hn, ha⟩ := h
  have hf := os.1
  have hz := os.2.1
  have hr4 := rep4 os
  have hp : s.rep.2.2 = [] := List.length_eq_zero_iff.1 (by rw [(rep_ok os).2.2, hn]; rfl)
  obtain ⟨j, hj⟩ : ∃ j, s.rep.1 = j + 1 := ⟨s.rep.1 - 1, by simp only [S.rep]; omega⟩
  have hjl : j < t.l.length := by rw [len_l]; omega
  have eG : G acI s.rep t.l = t.l.take j ++ [t.l.getD j 0 + s.a] := by
    unfold G
    rw [hp, hj, inc_take acI _ 0 hjl]
    simp only [List.map_nil, List.append_nil]
    rfl
  have el : (made s t).l = t.l.take j ++ [t.l.getD j 0 + s.a] ++ List.replicate (4 - (j + 1)) 0 := by
    have hlen : (t.l.take j ++ [t.l.getD j 0 + s.a]).length = j + 1 := by
      rw [List.length_append, List.length_take]; simp; omega
    unfold made
    rw [eG, mkT_l (by omega), hlen]
  have hd : ∀ i, j + 1 ≤ i → t.l.getD i 0 = 0 := fun i hi => by
    have hdj : t.d ≤ (j + 1 : Nat) := by rw [e, ← hk]; have : s.rep.1 = s.k.toNat := rfl; omega
    obtain ⟨_, q0, q1, q2, q3⟩ := ot
    match i, hi with
    | 1, _ => exact q1.2.2 (by omega)
    | 2, _ => exact q2.2.2 (by omega)
    | 3, _ => exact q3.2.2 (by omega)
    | i + 4, _ => rfl
  have et : t.l = t.l.take j ++ [t.l.getD j 0] ++ List.replicate (4 - (j + 1)) 0 := by
    apply List.ext_getElem?
    intro i
    have hl1 : (t.l.take j).length = j := by rw [List.length_take]; omega
    by_cases h1 : i < j
    · rw [List.getElem?_append_left (by simp; omega), List.getElem?_append_left (by omega), List.getElem?_take, if_pos h1]
    · by_cases h2 : i = j
      · subst h2
        rw [List.getElem?_append_left (by simp; omega), List.getElem?_append_right (by omega), hl1, Nat.sub_self]
        simp only [List.getElem?_cons_zero, List.getD_eq_getElem?_getD, List.getElem?_eq_getElem hjl, Option.getD_some]
      · rw [List.getElem?_append_right (by simp; omega), List.getElem?_replicate]
        have h3 := hd i (by omega)
        rw [List.getD_eq_getElem?_getD] at h3
        by_cases h4 : i < 4
        · rw [List.getElem?_eq_getElem (by rw [len_l]; omega)] at h3 ⊢
          rw [if_pos (by simp; omega)]
          simpa using h3
        · rw [List.getElem?_eq_none (by rw [len_l]; omega), if_neg (by simp; omega)]
  refine ⟨(rtleq_iff _ _).2 ⟨ot, om, ?_, Int.le_refl _, ?_⟩, fun hc => ?_⟩
  · show t.d = s.k + s.n
    omega
  · rw [el]
    rw (occs := [1]) [et]
    have hrefl : ∀ l : List Int, pw (· ≤ ·) l l := fun l => by
      have := pw_map (R := fun x y : Int => x ≤ y) (f := id) (g := id) l fun x _ => Int.le_refl _
      simpa using this
    exact pw_append (pw_append (hrefl _) ⟨by omega, trivial⟩) (hrefl _)
  · show False
    have hc : t.l = (made s t).l := hc
    rw [el] at hc
    have := congrArg (fun l => l.getD j 0) hc
    have hl1 : (t.l.take j).length = j := by rw [List.length_take]; omega
    simp only [List.getD_eq_getElem?_getD] at this
    rw [List.getElem?_append_left (by simp; omega), List.getElem?_append_right (by omega), hl1, Nat.sub_self, List.getElem?_eq_getElem hjl] at this
    simp at this
    omega
end Go.Proofs.Ytapmlfklkfgmoaa
