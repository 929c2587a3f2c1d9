/- slices.Compact: the outer loop, and what all comes to. -/
import Derived.Test.YtapmlfklkfgmoaaZG07P8
set_option linter.unusedVariables false
set_option linter.unusedSimpArgs false
set_option linter.constructorNameAsVariable false
set_option linter.all false

namespace Go.Lp
open Go.Sx
section
variable {α : Type} [DecidableEq α]
/-- The first of a list, so many. -/
def pfx (d : α) (n : Nat) (xs : List α) : List α := (List.range n).map fun e => xs.getD e d
theorem pfx_take (d : α) {n : Nat} {xs : List α} (h : n ≤ xs.length) : pfx d n xs = xs.take n := by
  apply List.ext_getElem
  · simp [pfx]; omega
  · intro i h1 h2
    simp only [pfx, List.length_map, List.length_range] at h1
    have : i < xs.length := by omega
    simp [pfx, List.getD_eq_getElem?_getD, this]
theorem lst_pfx (A : El α) (n : Nat) (xs : List α) : A.lst n (A.els xs) = pfx A.dflt n xs := by
  simp only [El.lst, El.els, El.get_cells, pfx]
abbrev CoG (α : Type) := Nat × List α × Int × (Bool × Nat)
noncomputable def coQ (d : α) (g : CoG α) : Ex × CpG α := loopF (cpF d) cpM (g.1, g.2.1, g.2.2.1, (g.2.2.1.toNat, g.1 - g.2.2.1.toNat), 1)
noncomputable def coF (d : α) (g : CoG α) : Ex × CoG α :=
  bif decide (g.2.2.1 < (g.1 : Int)) then
    bif decide (g.2.1.getD g.2.2.1.toNat d = g.2.1.getD (w64 (g.2.2.1 - 1)).toNat d) then
      (.ret, (coQ d g).2.1, pfx d (coQ d g).2.2.2.1.toNat (coQ d g).2.2.1, (coQ d g).2.2.2.1, (true, (coQ d g).2.2.2.1.toNat))
    else (.normal, g.1, g.2.1, w64 (g.2.2.1 + 1), g.2.2.2)
  else (.exit 0, g)
def coI (d : α) (g : CoG α) : List Prop := [g.1 = g.2.1.length ∧ g.2.1.length ≤ maxLen ∧ 1 ≤ g.2.2.1 ∧ g.2.2.1 ≤ (g.2.1.length : Int) ∧ compL g.2.1 = g.2.1.take g.2.2.1.toNat ++ dd (g.2.1.getD (g.2.2.1.toNat - 1) d) (g.2.1.drop g.2.2.1.toNat)]
def coM (g : CoG α) : Nat := ((g.1 : Int) - g.2.2.1).toNat
theorem co_goes (d : α) : Goes (coF d) coM fun g => allP (coI d g) := by
  rintro ⟨l, xs, k, r⟩ hi hn
  obtain ⟨h1, h2, h3, h4, h5⟩ := hi _ (List.mem_cons_self ..)
  simp only at h1 h2 h3 h4 h5
  unfold maxLen at h2
  unfold coF at hn ⊢
  simp only at hn ⊢
  by_cases hlt : k < (l : Int)
  · simp only [hlt, decide_true, cond_true] at hn ⊢
    by_cases hc : xs.getD k.toNat d = xs.getD (w64 (k - 1)).toNat d
    · simp only [hc, decide_true, cond_true] at hn
      cases hn
    · simp only [hc, decide_false, cond_false]
      rw [wr (n := k + 1) (by omega)]
      refine ⟨fun q hq => ?_, ?_⟩
      · simp only [coI, List.mem_singleton] at hq
        subst hq
        refine ⟨h1, by unfold maxLen; omega, by show 1 ≤ k + 1; omega, by show k + 1 ≤ (xs.length : Int); omega, ?_⟩
        show compL xs = xs.take (k + 1).toNat ++ dd (xs.getD ((k + 1).toNat - 1) d) (xs.drop (k + 1).toNat)
        rw [wr (n := k - 1) (by omega)] at hc
        have hk : k.toNat < xs.length := by omega
        have e1 : (k + 1).toNat = k.toNat + 1 := by omega
        have e2 : (k - 1).toNat = k.toNat - 1 := by omega
        rw [e2] at hc
        have hd : xs.drop k.toNat = xs.getD k.toNat d :: xs.drop (k.toNat + 1) := by
          rw [List.drop_eq_getElem_cons hk]
          simp [List.getD_eq_getElem?_getD, hk]
        have ht : xs.take (k.toNat + 1) = xs.take k.toNat ++ [xs.getD k.toNat d] := by
          rw [List.take_add_one]
          simp [List.getD_eq_getElem?_getD, hk]
        rw [h5, hd, e1, Nat.add_sub_cancel, ht]
        simp only [dd]
        rw [if_neg hc]
        simp
      · simp only [coM]; omega
  · simp only [hlt, decide_false, cond_false] at hn
    cases hn
theorem co_run (d : α) : ∀ g : CoG α, allP (coI d g) →
    ((loopF (coF d) coM g).1 = .ret ∧ (loopF (coF d) coM g).2.1 = g.1 ∧ (loopF (coF d) coM g).2.2.1 = compL g.2.1 ∧ (loopF (coF d) coM g).2.2.2.2 = (true, (compL g.2.1).length)) ∨
    ((loopF (coF d) coM g).1 = .exit 0 ∧ (loopF (coF d) coM g).2.1 = g.1 ∧ (loopF (coF d) coM g).2.2.1 = g.2.1 ∧ compL g.2.1 = g.2.1) := by
  refine loopF_induct (co_goes d) (Q := fun g r => (r.1 = .ret ∧ r.2.1 = g.1 ∧ r.2.2.1 = compL g.2.1 ∧ r.2.2.2.2 = (true, (compL g.2.1).length)) ∨ (r.1 = .exit 0 ∧ r.2.1 = g.1 ∧ r.2.2.1 = g.2.1 ∧ compL g.2.1 = g.2.1)) ?_ ?_
  · rintro ⟨l, xs, k, r⟩ hi hn
    obtain ⟨h1, h2, h3, h4, h5⟩ := hi _ (List.mem_cons_self ..)
    simp only at h1 h2 h3 h4 h5
    have h2' := h2
    unfold maxLen at h2
    unfold coF at hn ⊢
    simp only at hn ⊢
    by_cases hlt : k < (l : Int)
    · simp only [hlt, decide_true, cond_true] at hn ⊢
      by_cases hc : xs.getD k.toNat d = xs.getD (w64 (k - 1)).toNat d
      · left
        simp only [hc, decide_true, cond_true]
        rw [wr (n := k - 1) (by omega)] at hc
        have hk : k.toNat < xs.length := by omega
        have e2 : (k - 1).toNat = k.toNat - 1 := by omega
        rw [e2] at hc
        have hI : allP (cpI ((l, xs, k, (k.toNat, l - k.toNat), 1) : CpG α)) := fun q hq => by
          simp only [cpI, List.mem_singleton] at hq
          subst hq
          exact ⟨h1, h2', by show k.toNat + (l - k.toNat) = xs.length; omega, Int.le_refl _, by show (1 : Int) ≤ ((l - k.toNat : Nat) : Int); omega, by show 0 ≤ k; omega, by show k ≤ (k.toNat : Int) + 1 - 1; omega⟩
        obtain ⟨c1, c2, c3, c4, c5, c6⟩ := cp_run d _ hI
        simp only at c2 c3 c5 c6
        unfold coQ
        simp only
        have e3 : k.toNat + (1 : Int).toNat - 1 = k.toNat := by
          have : (1 : Int).toNat = 1 := rfl
          omega
        have e4 : k.toNat + (1 : Int).toNat = k.toNat + 1 := rfl
        rw [e3, e4] at c6
        have hd : xs.drop k.toNat = xs.getD k.toNat d :: xs.drop (k.toNat + 1) := by
          rw [List.drop_eq_getElem_cons hk]
          simp [List.getD_eq_getElem?_getD, hk]
        have hcomp : compL xs = xs.take k.toNat ++ dd (xs.getD k.toNat d) (xs.drop (k.toNat + 1)) := by
          rw [h5, hd]
          simp only [dd]
          rw [if_pos hc, hc]
        rw [← hcomp] at c6
        generalize loopF (cpF d) cpM (l, xs, k, (k.toNat, l - k.toNat), 1) = q at c1 c2 c3 c4 c5 c6 ⊢
        have hle : q.2.2.2.1.toNat ≤ q.2.2.1.length := by omega
        rw [pfx_take d hle, c6]
        refine ⟨trivial, c2, rfl, ?_⟩
        rw [← c6, List.length_take]
        congr 1
        omega
      · simp only [hc, decide_false, cond_false] at hn
        exact absurd rfl hn
    · right
      simp only [hlt, decide_false, cond_false]
      refine ⟨trivial, trivial, trivial, ?_⟩
      rw [h5, List.drop_eq_nil_of_le (by omega), List.take_of_length_le (by omega)]
      simp [dd]
  · rintro ⟨l, xs, k, r⟩ g' r' hi he hi' _ hq
    unfold coF at he
    simp only at he
    by_cases hlt : k < (l : Int)
    · simp only [hlt, decide_true, cond_true] at he
      by_cases hc : xs.getD k.toNat d = xs.getD (w64 (k - 1)).toNat d
      · simp only [hc, decide_true, cond_true] at he
        cases he
      · simp only [hc, decide_false, cond_false, Prod.mk.injEq, true_and] at he
        subst he
        exact hq
    · simp only [hlt, decide_false, cond_false] at he
      cases he
theorem comp_small {xs : List α} (h : xs.length < 2) : compL xs = xs := by
  match xs, h with
  | [], _ => rfl
  | [x], _ => rfl
end
end Go.Lp

/- Chapter 2: Compact: the contract of its outer loop. -/
namespace Go.Proofs.Ytapmlfklkfgmoaa
open Go.RowKit Go.Sx Go.Lp
theorem cp2_fun : (fun g : cp2_G => cp2_R g.1 g.2.1 g.2.2.1 g.2.2.2.1 g.2.2.2.2) = cpF eS.dflt := funext cp2_RF
theorem cp1_RF (g : cp1_G) : cp1_R g.1 g.2.1 g.2.2.1 g.2.2.2 = coF eS.dflt g := by
  obtain ⟨l, xs, k, r⟩ := g
  show cp1_R l xs k r = coF eS.dflt (l, xs, k, r)
  unfold cp1_R cp1_q1 coF coQ
  simp only [conj_S, eqS, eS.lst_els, cp2_fun, lst_pfx]
theorem cp1_ok : ∀ b ∈ loopsOf Try.prog 56, lkey b = 4 → LoopOk Try.prog b (cp1_C (coI eS.dflt) coM).g := by
  refine cp1_loop (coI eS.dflt) coM (fun g hi => ?_) ?_
  · obtain ⟨l, xs, k, r⟩ := g
    obtain ⟨h1, h2, h3, h4, h5⟩ := hi _ (List.mem_cons_self ..)
    simp only at h1 h2 h3 h4 h5
    have h2' := h2
    unfold maxLen at h2
    show cp1_side l xs k r
    unfold cp1_side cp1_q1
    simp only [conj_S, eS.lst_els, cp2_fun]
    have w1 : k ≤ (xs.length : Int) → IntKind.i64.wrap (k - 1) = k - 1 := fun h => Lp.wr (by omega)
    rw [w1 h4]
    have hI : k < (l : Int) → allP (cpI ((l, xs, k, (k.toNat, l - k.toNat), 1) : CpG S)) := fun hk q hq => by
      simp only [cpI, List.mem_singleton] at hq
      subst hq
      exact ⟨h1, h2', by show k.toNat + (l - k.toNat) = xs.length; omega, Int.le_refl _, by show (1 : Int) ≤ ((l - k.toNat : Nat) : Int); omega, by show 0 ≤ k; omega, by show k ≤ (k.toNat : Int) + 1 - 1; omega⟩
    have hrun := fun hk => cp_run eS.dflt _ (hI hk)
    simp only at hrun
    generalize loopF (cpF eS.dflt) cpM (l, xs, k, (k.toNat, l - k.toNat), 1) = q at hrun ⊢
    refine ⟨fun hc => ?_, ?_⟩
    · have hc : k < (l : Int) := of_decide_eq_true hc
      obtain ⟨c1, c2, c3, c4, c5, c6⟩ := hrun hc
      repeat' (first | apply And.intro | intro h)
      all_goals (first | trivial | omega | (unfold maxLen; omega) | skip)
    · repeat' (first | apply And.intro | intro h)
      all_goals (first | trivial | omega | skip)
  · have e : (fun g : cp1_G => cp1_R g.1 g.2.1 g.2.2.1 g.2.2.2) = coF eS.dflt := funext cp1_RF
    rw [e]
    exact co_goes _
noncomputable def lt23 : LTab Try.prog := (LTab.nil.cons 56 9 (cp2_C cpI cpM) cp2_ok).cons 56 4 (cp1_C (coI eS.dflt) coM) cp1_ok
noncomputable abbrev lam23 : Lam := lt23.lam
theorem lam23_ok : ∀ f k L, lam23 f k = some L → ∀ b ∈ loopsOf Try.prog f, lkey b = k → LoopOk Try.prog b L.g := lt23.ok
end Go.Proofs.Ytapmlfklkfgmoaa

/- Chapter 2: Compact. Printed by treegen.py. -/
namespace Go.Proofs.Ytapmlfklkfgmoaa
open Go.RowKit Go.Sx
set_option maxRecDepth 100000
set_option linter.unusedVariables false
noncomputable def cpt_q1 (xs : List S) (_u : Unit) : Ex ×
  cp1_G :=
  loopF (fun g => cp1_R g.fst g.snd.fst g.snd.snd.fst g.snd.snd.snd) Lp.coM
    (xs.length, eS.lst xs.length (eS.els xs), (1 : Int), false, (0 : Nat))
noncomputable def cpt_F (xs : List S) (_u : Unit) : List S × RM.T RM.self :=
  bif decide ((↑xs.length : Int) < (2 : Int)) then (eS.lst xs.length (eS.els xs), xs.length)
  else
    bif exB Ex.ret (cpt_q1 xs _u).fst then (eS.lst (cpt_q1 xs _u).snd.snd.fst.length (eS.els (cpt_q1 xs _u).snd.snd.fst), (cpt_q1 xs _u).snd.snd.snd.snd.snd)
    else (eS.lst (cpt_q1 xs _u).snd.snd.fst.length (eS.els (cpt_q1 xs _u).snd.snd.fst), (cpt_q1 xs _u).snd.fst)
def cpt_side (xs : List S) (_u : Unit) : Prop :=
  (decide ((↑xs.length : Int) < (2 : Int)) = true → ∀ (e : Nat), e < xs.length → True) ∧
    (decide ((↑xs.length : Int) < (2 : Int)) = false →
      (∀ (e : Nat), e < xs.length → True) ∧
        (xs.length = (eS.lst xs.length (eS.els xs)).length ∧
            (eS.lst xs.length (eS.els xs)).length ≤ maxLen ∧
              (1 : Int) ≤ (1 : Int) ∧
                (1 : Int) ≤ (↑(eS.lst xs.length (eS.els xs)).length : Int) ∧
                  Lp.compL (eS.lst xs.length (eS.els xs)) =
                    List.take (1 : Nat) (eS.lst xs.length (eS.els xs)) ++
                      Lp.dd ((eS.lst xs.length (eS.els xs)).getD (0 : Nat) eS.dflt)
                        (List.drop (1 : Nat) (eS.lst xs.length (eS.els xs)))) ∧
          (exB Ex.ret (cpt_q1 xs _u).fst = true →
              (∀ (e : Nat), e < (cpt_q1 xs _u).snd.snd.fst.length → True) ∧ (cpt_q1 xs _u).snd.snd.snd.snd.fst = true) ∧
            (exB Ex.ret (cpt_q1 xs _u).fst = false → ∀ (e : Nat), e < (cpt_q1 xs _u).snd.snd.fst.length → True))
theorem cpt_okS (pre : List S → DA.T DA.none → List Prop) (h : ∀ xs g, DA.bd DA.none g → xs.length ≤ maxLen → (∀ p ∈ pre xs g, p) → cpt_side xs g) : FnMut Try.prog 56 24 eS DA.none RM.self (fun xs g => cpt_F xs g) pre := mut_of_side (Γ := (MTab.gamz (MTab.of tab15) [] [])) (Λ := lam23) (MTab.okz (MTab.of tab15) [] []) lam23_ok 100 default (fun xs g => cpt_side xs g) (fun xs g => by kernel_rfl) (fun xs g => by kernel_rfl) h
def tab22 : MTab Try.prog := (MTab.of tab15)
end Go.Proofs.Ytapmlfklkfgmoaa

/- Chapter 2: whether one is there, whether lists are the same. Printed by treegen.py. -/
namespace Go.Proofs.Ytapmlfklkfgmoaa
open Go.RowKit Go.Sx
set_option maxRecDepth 100000
set_option linter.unusedVariables false
noncomputable def ixf_q1 (xs : List S) (s : S) : Ex ×
  idx_G :=
  loopF (fun g => idx_R g.fst g.snd.fst g.snd.snd.fst g.snd.snd.snd.fst g.snd.snd.snd.snd) Lp.fiM
    (eS.lst xs.length (eS.els xs), s, (↑xs.length : Int), (0 : Int), (0 : Int))
noncomputable def ixf_F (xs : List S) (s : S) : Dv.T dI :=
  bif exB Ex.ret (ixf_q1 xs s).fst then (ixf_q1 xs s).snd.snd.snd.snd.snd else (-1 : Int)
def ixf_side (xs : List S) (s : S) : Prop :=
  (∀ (e : Nat), e < (xs, s).fst.length → eS.Ok (eS.els xs e)) ∧
    (↑xs.length : Int) = (↑(eS.lst xs.length (eS.els xs)).length : Int) ∧
      (eS.lst xs.length (eS.els xs)).length ≤ maxLen ∧
        (0 : Int) ≤ (0 : Int) ∧ (0 : Int) ≤ (↑(eS.lst xs.length (eS.els xs)).length : Int)
theorem ixf_okS (pre : DA.T aLE → List Prop) (h : ∀ g, DA.bd aLE g → (∀ p ∈ pre g, p) → ixf_side g.1 g.2) : FnPure Try.prog 64 aLE dI (fun g => ixf_F g.1 g.2) pre := pure_of_sideS (Γ := (PTab.gamz tab15 [] [])) (Λ := lam20) (PTab.okz tab15 [] []) lam20_ok 100 default (fun g => ixf_side g.1 g.2) (fun g => by kernel_rfl) (fun g => by kernel_rfl) h
noncomputable def same_q1 (xs : List S) (ys : List S) : Ex ×
  sam_G :=
  loopF (fun g => sam_R g.fst g.snd.fst g.snd.snd.fst g.snd.snd.snd) Lp.saM
    (eS.lst xs.length (eS.els xs), eS.lst ys.length (eS.els ys), (0 : Int), false)
noncomputable def same_F (xs : List S) (ys : List S) : Dv.T dBool :=
  bif (↑xs.length : Int) != (↑ys.length : Int) then false
  else bif exB Ex.ret (same_q1 xs ys).fst then (same_q1 xs ys).snd.snd.snd.snd else true
def same_side (xs : List S) (ys : List S) : Prop :=
  ((↑xs.length : Int) != (↑ys.length : Int)) = false →
    (∀ (e : Nat), e < (xs, ys).fst.length → eS.Ok (eS.els xs e)) ∧
      (∀ (e : Nat), e < (xs, ys).snd.length → eS.Ok (eS.els ys e)) ∧
        (eS.lst xs.length (eS.els xs)).length = (eS.lst ys.length (eS.els ys)).length ∧
          (eS.lst xs.length (eS.els xs)).length ≤ maxLen ∧
            (0 : Int) ≤ (0 : Int) ∧ (0 : Int) ≤ (↑(eS.lst xs.length (eS.els xs)).length : Int)
theorem same_okS (pre : DA.T aLL → List Prop) (h : ∀ g, DA.bd aLL g → (∀ p ∈ pre g, p) → same_side g.1 g.2) : FnPure Try.prog 42 aLL dBool (fun g => same_F g.1 g.2) pre := pure_of_sideS (Γ := (PTab.gamz tab15 [] [])) (Λ := lam20) (PTab.okz tab15 [] []) lam20_ok 100 default (fun g => same_side g.1 g.2) (fun g => by kernel_rfl) (fun g => by kernel_rfl) h
def tab17 : PTab Try.prog := tab15
end Go.Proofs.Ytapmlfklkfgmoaa

/- Chapter 2: where the first is, and whether lists are the same: contracts. -/
namespace Go.Proofs.Ytapmlfklkfgmoaa
open Go.RowKit Go.Sx Go.Lp
theorem idx_fun : (fun g : idx_G => idx_R g.1 g.2.1 g.2.2.1 g.2.2.2.1 g.2.2.2.2) = fiF eS.dflt (fun s x => less_F x s) := funext idx_RF
theorem sam_fun : (fun g : sam_G => sam_R g.1 g.2.1 g.2.2.1 g.2.2.2) = saF eS.dflt eqS := funext sam_RF
theorem ixf_ok : FnPure Try.prog 64 aLE dI (fun g => ixf_F g.1 g.2) (fun _ => []) := ixf_okS _ fun g hb _ => by
  obtain ⟨xs, s⟩ := g
  have hl : xs.length ≤ maxLen := hb.1.1
  unfold ixf_side
  rw [eS.lst_els]
  exact ⟨ok_all xs, rfl, hl, by omega, by omega⟩
theorem ixf_has (xs : List S) (s : S) (h : xs.length ≤ maxLen) : decide (0 ≤ ixf_F xs s) = xs.any (less_F · s) := by
  unfold ixf_F ixf_q1
  rw [eS.lst_els, idx_fun]
  obtain ⟨h1, h2⟩ := fi_any eS.dflt (fun s x => less_F x s) xs s 0 h
  generalize loopF (fiF eS.dflt (fun s x => less_F x s)) fiM (xs, s, (xs.length : Int), 0, 0) = r at h1 h2
  rw [← h1]
  cases he : exB Ex.ret r.1 with
  | true =>
    have := h2 (exB_eq he).symm
    simpa using this
  | false => rfl
theorem same_ok : FnPure Try.prog 42 aLL dBool (fun g => decide (g.1 = g.2)) (fun _ => []) := by
  have h := same_okS (fun _ => []) fun g hb _ => by
    obtain ⟨xs, ys⟩ := g
    have hl : xs.length ≤ maxLen := hb.1.1
    unfold same_side
    rw [eS.lst_els, eS.lst_els]
    intro hc
    have hc : (xs.length : Int) = (ys.length : Int) := by simpa using hc
    exact ⟨ok_all xs, ok_all ys, by simp only; omega, hl, by omega, by omega⟩
  refine pure_congr h fun g hb _ => ?_
  obtain ⟨xs, ys⟩ := g
  have hl : xs.length ≤ maxLen := hb.1.1
  show same_F xs ys = decide (xs = ys)
  unfold same_F same_q1
  rw [eS.lst_els, eS.lst_els, sam_fun]
  cases hc : ((xs.length : Int) != (ys.length : Int)) with
  | true =>
    have : xs ≠ ys := fun h => by subst h; simp at hc
    simp [this]
  | false =>
    have hc : xs.length = ys.length := by
      have : (xs.length : Int) = (ys.length : Int) := by simpa using hc
      omega
    exact sa_eq eS.dflt eqS (fun a b => by simp [eqS]) xs ys false hl hc
noncomputable def tab21 : PTab Try.prog := (tab15.cons 64 (pconP aLE dI (fun g => ixf_F g.1 g.2) (fun _ => [])) (conP_ok ixf_ok puI)).cons 42 (pconP aLL dBool (fun g => decide (g.1 = g.2)) (fun _ => [])) (conP_ok same_ok puB)
end Go.Proofs.Ytapmlfklkfgmoaa

/- Chapter 2: whether one is there. Printed by treegen.py. -/
namespace Go.Proofs.Ytapmlfklkfgmoaa
open Go.RowKit Go.Sx
set_option maxRecDepth 100000
set_option linter.unusedVariables false
noncomputable def has_F (xs : List S) (s : S) : Dv.T dBool :=
  decide (ixf_F (eS.lst xs.length (eS.els xs)) s ≥ (0 : Int))
def has_side (xs : List S) (s : S) : Prop :=
  ∀ (e : Nat), e < (xs, s).fst.length → eS.Ok (eS.els xs e)
theorem has_okS (pre : DA.T aLE → List Prop) (h : ∀ g, DA.bd aLE g → (∀ p ∈ pre g, p) → has_side g.1 g.2) : FnPure Try.prog 43 aLE dBool (fun g => has_F g.1 g.2) pre := pure_of_sideS (Γ := (PTab.gamz tab21 [] [])) (Λ := noΛ) (PTab.okz tab21 [] []) noΛ_ok 100 default (fun g => has_side g.1 g.2) (fun g => by kernel_rfl) (fun g => by kernel_rfl) h
noncomputable def tab19 : PTab Try.prog := tab21
end Go.Proofs.Ytapmlfklkfgmoaa

/- Lists in order: sorted and freed of what stands twice, or put in one by one: the same. -/
namespace Go.Lp
open Go.Sx Go.Sort
section
variable {α : Type} [DecidableEq α] {cf : α → α → Int}
/-- A total order. -/
structure TO (cf : α → α → Int) : Prop where
  swo : SWO fun x y => decide (cf x y < 0)
  anti : ∀ x y, ¬ cf x y < 0 → ¬ cf y x < 0 → x = y
theorem TO.irrefl (h : TO cf) (x : α) : ¬ cf x x < 0 := by have := h.swo.irrefl x; simpa using this
theorem TO.trans (h : TO cf) {x y z : α} (h1 : cf x y < 0) (h2 : cf y z < 0) : cf x z < 0 := by
  have := h.swo.trans x y z (by simpa using h1) (by simpa using h2)
  simpa using this
theorem TO.asymm (h : TO cf) {x y : α} (h1 : cf x y < 0) : ¬ cf y x < 0 := fun h2 => h.irrefl x (h.trans h1 h2)
theorem TO.lt_or (h : TO cf) {x y : α} (hne : x ≠ y) (h1 : ¬ cf x y < 0) : cf y x < 0 := Classical.byContradiction fun h2 => hne (h.anti x y h1 h2)
theorem strict_unique (h : TO cf) : ∀ {l m : List α}, l.Pairwise (fun x y => cf x y < 0) → m.Pairwise (fun x y => cf x y < 0) → (∀ x, x ∈ l ↔ x ∈ m) → l = m
  | [], [], _, _, _ => rfl
  | [], y :: m, _, _, he => by have := (he y).2 (List.mem_cons_self ..); cases this
  | x :: l, [], _, _, he => by have := (he x).1 (List.mem_cons_self ..); cases this
  | x :: l, y :: m, h1, h2, he => by
    rw [List.pairwise_cons] at h1 h2
    have hxy : x = y := by
      have a := (he x).1 (List.mem_cons_self ..)
      have b := (he y).2 (List.mem_cons_self ..)
      rcases List.mem_cons.1 a with e | a
      · exact e
      · rcases List.mem_cons.1 b with e | b
        · exact e.symm
        · exact absurd (h1.1 y b) (h.asymm (h2.1 x a))
    subst hxy
    congr 1
    refine strict_unique h h1.2 h2.2 fun z => ?_
    have := he z
    simp only [List.mem_cons] at this
    constructor
    · intro hz
      rcases this.1 (.inr hz) with e | h3
      · subst e; exact absurd (h1.1 z hz) (h.irrefl z)
      · exact h3
    · intro hz
      rcases this.2 (.inr hz) with e | h3
      · subst e; exact absurd (h2.1 z hz) (h.irrefl z)
      · exact h3
theorem dd_mem : ∀ {r : List α} {p x : α}, x ∈ p :: dd p r ↔ x ∈ p :: r
  | [], _, _ => Iff.rfl
  | y :: r, p, x => by
    simp only [dd]
    by_cases hy : y = p
    · subst hy
      rw [if_pos rfl, dd_mem (r := r)]
      simp
    · rw [if_neg hy]
      have := dd_mem (r := r) (p := y) (x := x)
      simp only [List.mem_cons] at this ⊢
      rw [this]
theorem dd_sub {r : List α} {p x : α} (h : x ∈ dd p r) : x ∈ r := by
  induction r generalizing p with
  | nil => cases h
  | cons y r ih =>
    simp only [dd] at h
    by_cases hy : y = p
    · rw [if_pos hy] at h; exact List.mem_cons_of_mem _ (ih h)
    · rw [if_neg hy] at h
      rcases List.mem_cons.1 h with e | h
      · rw [e]; exact List.mem_cons_self ..
      · exact List.mem_cons_of_mem _ (ih h)
theorem dd_strict (h : TO cf) : ∀ {r : List α} {p : α}, (p :: r).Pairwise (fun x y => ¬ cf y x < 0) → (p :: dd p r).Pairwise (fun x y => cf x y < 0)
  | [], _, _ => by simp [dd]
  | y :: r, p, hs => by
    rw [List.pairwise_cons] at hs
    simp only [dd]
    by_cases hy : y = p
    · rw [if_pos hy]
      subst hy
      exact dd_strict h hs.2
    · rw [if_neg hy]
      have ih := dd_strict h hs.2
      rw [List.pairwise_cons]
      refine ⟨fun z hz => ?_, ih⟩
      have hpy : cf p y < 0 := h.lt_or hy (hs.1 y (List.mem_cons_self ..))
      rcases List.mem_cons.1 hz with e | hz
      · rw [e]; exact hpy
      · rw [List.pairwise_cons] at ih
        exact h.trans hpy (ih.1 z hz)
theorem comp_strict (h : TO cf) {xs : List α} (hs : xs.Pairwise (fun x y => ¬ cf y x < 0)) : (compL xs).Pairwise (fun x y => cf x y < 0) := by
  cases xs with
  | nil => exact List.Pairwise.nil
  | cons x r => exact dd_strict h hs
theorem comp_mem {xs : List α} {x : α} : x ∈ compL xs ↔ x ∈ xs := by
  cases xs with
  | nil => exact Iff.rfl
  | cons y r => exact dd_mem
/-- Put in at its place, if it is not there. -/
def insU (cf : α → α → Int) (s : α) : List α → List α
  | [] => [s]
  | y :: r => if y = s then y :: r else if cf s y < 0 then s :: y :: r else y :: insU cf s r
theorem insU_mem {s x : α} : ∀ {l : List α}, x ∈ insU cf s l ↔ x = s ∨ x ∈ l
  | [] => by simp [insU]
  | y :: r => by
    simp only [insU]
    by_cases hy : y = s
    · rw [if_pos hy]
      subst hy
      simp
    · rw [if_neg hy]
      by_cases hl : cf s y < 0
      · rw [if_pos hl]; simp
      · rw [if_neg hl, List.mem_cons, insU_mem (l := r), List.mem_cons]
        constructor
        · rintro (h | h | h) <;> simp [h]
        · rintro (h | h | h) <;> simp [h]
theorem insU_strict (h : TO cf) {s : α} : ∀ {l : List α}, l.Pairwise (fun x y => cf x y < 0) → (insU cf s l).Pairwise (fun x y => cf x y < 0)
  | [], _ => by simp [insU]
  | y :: r, hs => by
    simp only [insU]
    rw [List.pairwise_cons] at hs
    by_cases hy : y = s
    · rw [if_pos hy, List.pairwise_cons]; exact hs
    · rw [if_neg hy]
      by_cases hl : cf s y < 0
      · rw [if_pos hl, List.pairwise_cons]
        refine ⟨fun z hz => ?_, List.pairwise_cons.2 hs⟩
        rcases List.mem_cons.1 hz with e | hz
        · rw [e]; exact hl
        · exact h.trans hl (hs.1 z hz)
      · rw [if_neg hl, List.pairwise_cons]
        refine ⟨fun z hz => ?_, insU_strict h hs.2⟩
        rcases insU_mem.1 hz with e | hz
        · rw [e]; exact h.lt_or (fun e => hy e.symm) hl
        · exact hs.1 z hz
/-- All put in, one behind the other. -/
def putAll (cf : α → α → Int) (xs : List α) : List α := xs.foldl (fun l s => insU cf s l) []
theorem foldl_insU (h : TO cf) : ∀ {xs l : List α}, l.Pairwise (fun x y => cf x y < 0) → (xs.foldl (fun l s => insU cf s l) l).Pairwise (fun x y => cf x y < 0) ∧ ∀ x, x ∈ xs.foldl (fun l s => insU cf s l) l ↔ x ∈ xs ∨ x ∈ l
  | [], l, hl => ⟨hl, fun x => by simp⟩
  | y :: xs, l, hl => by
    obtain ⟨h1, h2⟩ := foldl_insU h (xs := xs) (insU_strict h (s := y) hl)
    refine ⟨h1, fun x => ?_⟩
    rw [List.foldl_cons, h2 x, insU_mem, List.mem_cons]
    constructor
    · rintro (h | h | h) <;> simp [h]
    · rintro ((h | h) | h) <;> simp [h]
/-- Sorted and freed of what stands twice: as put in one by one. -/
theorem sorted_put (h : TO cf) (xs : List α) : compL (srtBy cf xs) = putAll cf xs := by
  obtain ⟨h1, h2⟩ := foldl_insU h (xs := xs) (l := []) List.Pairwise.nil
  refine strict_unique h (comp_strict h (srtBy_sorted cf h.swo xs)) h1 fun x => ?_
  unfold putAll
  rw [comp_mem, (srtBy_perm cf xs).mem_iff, h2 x]
  simp
end
end Go.Lp

/- Orders of structs: field by field. -/
namespace Go.Lp
open Go.Sx Go.Sort
def lexC : List Int → List Int → Int
  | [], [] => 0
  | [], _ :: _ => -1
  | _ :: _, [] => 1
  | x :: r, y :: s => if x < y then -1 else if y < x then 1 else lexC r s
theorem lex_irrefl : ∀ x : List Int, ¬ lexC x x < 0
  | [] => by simp [lexC]
  | x :: r => by simp only [lexC]; rw [if_neg (by omega), if_neg (by omega)]; exact lex_irrefl r
theorem lex_trans : ∀ x y z : List Int, lexC x y < 0 → lexC y z < 0 → lexC x z < 0
  | [], [], _, h, _ => by simp [lexC] at h
  | [], _ :: _, [], _, h => by simp [lexC] at h
  | [], _ :: _, _ :: _, _, _ => by simp [lexC]
  | _ :: _, [], _, h, _ => by simp [lexC] at h
  | _ :: _, _ :: _, [], _, h => by simp [lexC] at h
  | x :: r, y :: s, z :: t, h1, h2 => by
    simp only [lexC] at h1 h2 ⊢
    by_cases a : x < y
    · by_cases b : y < z
      · rw [if_pos (by omega)]; omega
      · rw [if_neg b] at h2
        by_cases c : z < y
        · rw [if_pos c] at h2; omega
        · rw [if_pos (by omega)]; omega
    · rw [if_neg a] at h1
      by_cases b : y < x
      · rw [if_pos b] at h1; omega
      · rw [if_neg b] at h1
        have : x = y := by omega
        subst this
        by_cases c : x < z
        · rw [if_pos c]; omega
        · rw [if_neg c] at h2 ⊢
          by_cases d : z < x
          · rw [if_pos d] at h2; omega
          · rw [if_neg d] at h2 ⊢
            exact lex_trans r s t h1 h2
theorem lex_anti : ∀ x y : List Int, ¬ lexC x y < 0 → ¬ lexC y x < 0 → x = y
  | [], [], _, _ => rfl
  | [], _ :: _, h, _ => by simp [lexC] at h
  | _ :: _, [], _, h => by simp [lexC] at h
  | x :: r, y :: s, h1, h2 => by
    simp only [lexC] at h1 h2
    by_cases a : x < y
    · rw [if_pos a] at h1; omega
    · rw [if_neg a] at h1
      by_cases b : y < x
      · rw [if_pos b] at h2; omega
      · rw [if_neg b] at h1 h2
        rw [if_neg a] at h2
        rw [lex_anti r s h1 h2]
        congr 1
        omega
theorem lex_tot {x y : List Int} (h : ¬ lexC x y < 0) : x = y ∨ lexC y x < 0 := by
  by_cases h2 : lexC y x < 0
  · exact .inr h2
  · exact .inl (lex_anti x y h h2)
theorem to_lex {α : Type} (key : α → List Int) (hk : ∀ a b, key a = key b → a = b) {cf : α → α → Int} (he : ∀ a b, cf a b < 0 ↔ lexC (key a) (key b) < 0) : TO cf where
  swo := {
    irrefl := fun x => by simp only [decide_eq_false_iff_not, he]; exact lex_irrefl _
    trans := fun x y z h1 h2 => by
      simp only [decide_eq_true_eq, he] at *
      exact lex_trans _ _ _ h1 h2
    ntrans := fun x y z h1 h2 => by
      simp only [decide_eq_false_iff_not, he] at *
      intro h3
      rcases lex_tot h1 with e | e
      · rw [e] at h3; exact h2 h3
      · exact h2 (lex_trans _ _ _ e h3) }
  anti := fun x y h1 h2 => by
    rw [he] at h1 h2
    exact hk _ _ (lex_anti _ _ h1 h2)
end Go.Lp

/- Chapter 2: the order of summaries; SortFunc at summaries. -/
namespace Go.Proofs.Ytapmlfklkfgmoaa
open Go.RowKit Go.Sx Go.Lp
def keyS (a : S) : List Int := [a.f, a.k, a.a, a.n, a.p0, a.p1, a.p2, a.p3]
theorem keyS_inj (a b : S) (h : keyS a = keyS b) : a = b := by
  obtain ⟨f, k, c, n, p0, p1, p2, p3⟩ := a
  obtain ⟨f', k', c', n', p0', p1', p2', p3'⟩ := b
  simp only [keyS, List.cons.injEq, and_true] at h
  obtain ⟨rfl, rfl, rfl, rfl, rfl, rfl, rfl, rfl⟩ := h
  rfl
theorem cmp3 (x y : Int) : (x < y ∧ cmp60_F x y = -1) ∨ (y < x ∧ cmp60_F x y = 1) ∨ (x = y ∧ cmp60_F x y = 0) := by
  unfold cmp60_F
  by_cases h : x < y
  · left; simp [h]
  · by_cases h2 : y < x
    · right; left; simp [h, h2]
    · right; right
      refine ⟨by omega, ?_⟩
      simp [h, h2]
theorem cmp_same (x y : Int) : cmp62_F x y = cmp60_F x y := rfl
theorem compare_lex (a b : S) : compare_F a b = lexC (keyS a) (keyS b) := by
  unfold compare_F keyS
  simp only [cmp_same, lexC]
  rcases cmp3 a.f b.f with ⟨h, e⟩ | ⟨h, e⟩ | ⟨h, e⟩ <;> simp only [e]
  · simp [h]
  · have : ¬ a.f < b.f := by omega
    simp [h, this]
  rw [if_neg (by omega), if_neg (by omega)]
  rcases cmp3 a.k b.k with ⟨h, e⟩ | ⟨h, e⟩ | ⟨h, e⟩ <;> simp only [e]
  · simp [h]
  · have : ¬ a.k < b.k := by omega
    simp [h, this]
  rw [if_neg (by omega), if_neg (by omega)]
  rcases cmp3 a.a b.a with ⟨h, e⟩ | ⟨h, e⟩ | ⟨h, e⟩ <;> simp only [e]
  · simp [h]
  · have : ¬ a.a < b.a := by omega
    simp [h, this]
  rw [if_neg (by omega), if_neg (by omega)]
  rcases cmp3 a.n b.n with ⟨h, e⟩ | ⟨h, e⟩ | ⟨h, e⟩ <;> simp only [e]
  · simp [h]
  · have : ¬ a.n < b.n := by omega
    simp [h, this]
  rw [if_neg (by omega), if_neg (by omega)]
  rcases cmp3 a.p0 b.p0 with ⟨h, e⟩ | ⟨h, e⟩ | ⟨h, e⟩ <;> simp only [e]
  · simp [h]
  · have : ¬ a.p0 < b.p0 := by omega
    simp [h, this]
  rw [if_neg (by omega), if_neg (by omega)]
  rcases cmp3 a.p1 b.p1 with ⟨h, e⟩ | ⟨h, e⟩ | ⟨h, e⟩ <;> simp only [e]
  · simp [h]
  · have : ¬ a.p1 < b.p1 := by omega
    simp [h, this]
  rw [if_neg (by omega), if_neg (by omega)]
  rcases cmp3 a.p2 b.p2 with ⟨h, e⟩ | ⟨h, e⟩ | ⟨h, e⟩ <;> simp only [e]
  · simp [h]
  · have : ¬ a.p2 < b.p2 := by omega
    simp [h, this]
  rw [if_neg (by omega), if_neg (by omega)]
  rcases cmp3 a.p3 b.p3 with ⟨h, e⟩ | ⟨h, e⟩ | ⟨h, e⟩ <;> simp only [e]
  · simp [h]
  · have : ¬ a.p3 < b.p3 := by omega
    simp [h, this]
  rw [if_neg (by omega), if_neg (by omega)]
  simp
theorem rcompare_lex (a b : S) : rcompare_F a b = lexC (keyS a) (keyS b) := by
  unfold rcompare_F keyS
  simp only [lexC, Bool.cond_decide, gt_iff_lt]
theorem toS : TO fun a b => compare_F a b := to_lex keyS keyS_inj fun a b => by rw [compare_lex]
end Go.Proofs.Ytapmlfklkfgmoaa

/- Chapter 2: SortFunc at summaries. -/
namespace Go.Proofs.Ytapmlfklkfgmoaa
open Go.RowKit Go.Sx Go.Lp Go.Shelf
def sortSum_ren : Go.Shelf.Ren := ⟨fun | 6 => 55 | 15 => 69 | 14 => 68 | 28 => 80 | 29 => 81 | 20 => 72 | 21 => 73 | 22 => 74 | 23 => 75 | 24 => 76 | 25 => 77 | 26 => 78 | 27 => 79 | 46 => 82 | 47 => 83 | 48 => 84 | 49 => 85 | 50 => 86 | 57 => 87 | n => n, fun | 22 => 27 | 24 => 24 | 25 => 57 | 3 => 3 | 39 => 84 | 0 => 0 | 53 => 96 | 55 => 98 | 4 => 4 | 46 => 89 | 45 => 88 | 50 => 93 | 5 => 5 | 9 => 9 | 66 => 99 | 70 => 103 | 76 => 105 | 77 => 106 | n => n, fun  | n => n⟩
theorem sortSum : SlLaysF0.n6 Try.prog sortSum_ren := {
  mixed := by kernel_rfl,
  f6 := ⟨Try.f55.name, by decide, Try.func55.trans (congrArg some (by kernel_rfl))⟩,
  f14 := ⟨Try.f68.name, by decide, Try.func68.trans (congrArg some (by kernel_rfl))⟩,
  f15 := Try.func69.trans (congrArg some (by kernel_rfl)),
  f20 := ⟨Try.f72.name, by decide, Try.func72.trans (congrArg some (by kernel_rfl))⟩,
  f21 := ⟨Try.f73.name, by decide, Try.func73.trans (congrArg some (by kernel_rfl))⟩,
  f22 := ⟨Try.f74.name, by decide, Try.func74.trans (congrArg some (by kernel_rfl))⟩,
  f23 := ⟨Try.f75.name, by decide, Try.func75.trans (congrArg some (by kernel_rfl))⟩,
  f24 := ⟨Try.f76.name, by decide, Try.func76.trans (congrArg some (by kernel_rfl))⟩,
  f25 := ⟨Try.f77.name, by decide, Try.func77.trans (congrArg some (by kernel_rfl))⟩,
  f26 := ⟨Try.f78.name, by decide, Try.func78.trans (congrArg some (by kernel_rfl))⟩,
  f27 := ⟨Try.f79.name, by decide, Try.func79.trans (congrArg some (by kernel_rfl))⟩,
  f28 := Try.func80.trans (congrArg some (by kernel_rfl)),
  f29 := Try.func81.trans (congrArg some (by kernel_rfl)),
  f46 := ⟨Try.f82.name, by decide, Try.func82.trans (congrArg some (by kernel_rfl))⟩,
  f47 := Try.func83.trans (congrArg some (by kernel_rfl)),
  f48 := Try.func84.trans (congrArg some (by kernel_rfl)),
  f49 := ⟨Try.f85.name, by decide, Try.func85.trans (congrArg some (by kernel_rfl))⟩,
  f50 := ⟨Try.f86.name, by decide, Try.func86.trans (congrArg some (by kernel_rfl))⟩,
  f57 := ⟨Try.f87.name, by decide, Try.func87.trans (congrArg some (by kernel_rfl))⟩,
  t0 := Try.underlying0,
  a0 := Try.isAgg0,
  z0 := Try.sizeOf0,
  v0 := Try.zeroValue0,
  t3 := Try.underlying3,
  a3 := Try.isAgg3,
  z3 := Try.sizeOf3,
  v3 := Try.zeroValue3,
  t4 := Try.underlying4,
  a4 := Try.isAgg4,
  z4 := Try.sizeOf4,
  v4 := Try.zeroValue4,
  t5 := Try.underlying5,
  a5 := Try.isAgg5,
  z5 := Try.sizeOf5,
  v5 := Try.zeroValue5,
  t9 := Try.underlying9,
  a9 := Try.isAgg9,
  z9 := Try.sizeOf9,
  v9 := Try.zeroValue9,
  t22 := Try.underlying27,
  a22 := Try.isAgg27,
  z22 := Try.sizeOf27,
  v22 := Try.zeroValue27,
  t25 := Try.underlying57,
  a25 := Try.isAgg57,
  z25 := Try.sizeOf57,
  v25 := Try.zeroValue57,
  t39 := Try.underlying84,
  a39 := Try.isAgg84,
  z39 := Try.sizeOf84,
  v39 := Try.zeroValue84,
  t45 := Try.underlying88,
  a45 := Try.isAgg88,
  z45 := Try.sizeOf88,
  v45 := Try.zeroValue88,
  t46 := Try.underlying89,
  a46 := Try.isAgg89,
  z46 := Try.sizeOf89,
  v46 := Try.zeroValue89,
  t50 := Try.underlying93,
  a50 := Try.isAgg93,
  z50 := Try.sizeOf93,
  v50 := Try.zeroValue93,
  t53 := Try.underlying96,
  a53 := Try.isAgg96,
  z53 := Try.sizeOf96,
  v53 := Try.zeroValue96,
  t55 := Try.underlying98,
  a55 := Try.isAgg98,
  z55 := Try.sizeOf98,
  v55 := Try.zeroValue98,
  t66 := Try.underlying99,
  a66 := Try.isAgg99,
  z66 := Try.sizeOf99,
  v66 := Try.zeroValue99,
  t70 := Try.underlying103,
  a70 := Try.isAgg103,
  z70 := Try.sizeOf103,
  v70 := Try.zeroValue103,
  t76 := Try.underlying105,
  a76 := Try.isAgg105,
  z76 := Try.sizeOf105,
  v76 := Try.zeroValue105,
  t77 := Try.underlying106,
  a77 := Try.isAgg106,
  z77 := Try.sizeOf106,
  v77 := Try.zeroValue106 }
abbrev dUn0 : Dv Unit := .tup .none
abbrev aFn40 : DA Unit := .one (dFn 40)
def preSort (xs : List S) (_ : Unit) : List Prop := [xs.length < 4611686018427387904]
theorem sortF_ok : FnMut Try.prog 55 24 eS aFn40 (.pure dUn0) (fun xs _ => (srtBy (fun a b => compare_F a b) xs, ())) preSort := by
  have h := sort_mut (P := Try.prog) (A := eS) (t := 24) (g := 40) (cf := fun a b => compare_F a b) (pre := fun _ => []) sortSum Try.isAgg24 Try.sizeOf24 (by decide) (Go.Proofs.enters_of Try.func40 (by kernel_rfl) rfl) toS.swo compare_ok
  intro w F L xs g v0 vs h1 h2 h3 h4 h5 h6
  refine h w F L xs g v0 vs h1 h2 h3 (fun p hp => ?_) h5 h6
  simp only [List.mem_cons, List.not_mem_nil, or_false] at hp
  rcases hp with rfl | rfl | rfl
  · exact h4 _ (List.mem_cons_self ..)
  · exact fun x _ y _ k1 k2 => toS.anti x y k1 k2
  · exact fun x _ y _ p hp => by cases hp
end Go.Proofs.Ytapmlfklkfgmoaa

/- Chapter 2: Compact: its contract; the table for Least. -/
namespace Go.Sx
theorem mut_congr {α γ δ : Type} {P : Program} {f t : Nat} {A : El α} {D : DA γ} {R : RM δ} {fn fn' : List α → γ → List α × δ} {pre : List α → γ → List Prop} (h : FnMut P f t A D R fn pre) (e : ∀ xs g, D.bd g → xs.length ≤ maxLen → (∀ p ∈ pre xs g, p) → fn xs g = fn' xs g) : FnMut P f t A D R fn' pre := by
  intro w F L xs g v0 vs h1 h2 h3 h4 h5 h6
  refine (h w F L xs g v0 vs h1 h2 h3 h4 h5 h6).mono ?_
  rintro e' w' ⟨x, k1, k2, k3, k4⟩
  rw [e xs g (D.fb _ _ _ _ h6) h5.1 h4] at k3 k4
  exact ⟨x, k1, k2, k3, k4⟩
end Go.Sx
namespace Go.Proofs.Ytapmlfklkfgmoaa
open Go.RowKit Go.Sx Go.Lp
theorem cp1_fun : (fun g : cp1_G => cp1_R g.1 g.2.1 g.2.2.1 g.2.2.2) = coF eS.dflt := funext cp1_RF
theorem cpt_inv (xs : List S) (h : xs.length ≤ maxLen) (h2 : ¬ (xs.length : Int) < 2) : allP (coI eS.dflt ((xs.length, xs, 1, false, 0) : CoG S)) := fun q hq => by
  simp only [coI, List.mem_singleton] at hq
  subst hq
  refine ⟨trivial, h, Int.le_refl _, by show (1 : Int) ≤ (xs.length : Int); omega, ?_⟩
  match xs, h2 with
  | x :: r, _ => rfl
theorem cptF_ok : FnMut Try.prog 56 24 eS DA.none RM.self (fun xs _ => (compL xs, (compL xs).length)) (fun _ _ => []) := by
  have h := cpt_okS (fun _ _ => []) fun xs g _ hl _ => by
    unfold cpt_side cpt_q1
    rw [eS.lst_els, cp1_fun]
    refine ⟨fun _ _ _ => trivial, fun hc => ?_⟩
    have hc : ¬ (xs.length : Int) < 2 := of_decide_eq_false hc
    have hI := cpt_inv xs hl hc
    refine ⟨fun _ _ => trivial, hI _ (List.mem_cons_self ..), fun he => ⟨fun _ _ => trivial, ?_⟩, fun _ _ _ => trivial⟩
    rcases co_run eS.dflt _ hI with ⟨h1, h2, h3, h4⟩ | ⟨h1, _⟩
    · rw [h4]
    · rw [h1] at he; cases he
  refine mut_congr h fun xs g _ hl _ => ?_
  show cpt_F xs g = _
  unfold cpt_F cpt_q1
  rw [eS.lst_els, eS.lst_els, cp1_fun]
  by_cases hc : (xs.length : Int) < 2
  · simp only [hc, decide_true, cond_true]
    rw [comp_small (by omega)]
  · simp only [hc, decide_false, cond_false]
    rcases co_run eS.dflt _ (cpt_inv xs hl hc) with ⟨h1, h2, h3, h4⟩ | ⟨h1, h2, h3, h4⟩
    · rw [h1, h3, h4]; rfl
    · rw [h1, h3, h2]
      simp only at h4
      rw [h4]; rfl
theorem hasF_ok : FnPure Try.prog 43 aLE dBool (fun g => g.1.any (less_F · g.2)) (fun _ => []) := by
  have h := has_okS (fun _ => []) fun g _ _ => ok_all g.1
  refine pure_congr h fun g hb _ => ?_
  show has_F g.1 g.2 = _
  unfold has_F
  rw [eS.lst_els]
  exact ixf_has g.1 g.2 hb.1.1
noncomputable def tab26p : PTab Try.prog := tab21.cons 43 (pconP aLE dBool (fun g => g.1.any (less_F · g.2)) (fun _ => [])) (conP_ok hasF_ok puB)
noncomputable def tab26 : MTab Try.prog := ((MTab.of tab26p).consM 55 (bconM 24 eS aFn40 (.pure dUn0) (fun xs _ => (srtBy (fun a b => compare_F a b) xs, ())) preSort) (conM_ok sortF_ok)).consM 56 (bconM 24 eS DA.none RM.self (fun xs _ => (compL xs, (compL xs).length)) (fun _ _ => [])) (conM_ok cptF_ok)
end Go.Proofs.Ytapmlfklkfgmoaa

/- Chapter 2: Least, its loops. Printed by treegen.py. -/
namespace Go.Proofs.Ytapmlfklkfgmoaa
open Go.RowKit Go.Sx
set_option maxRecDepth 100000
set_option linter.unusedVariables false
abbrev la_G : Type := List S × Int × Int × Unit × Int
def la_LP : LP 0 la_G := .pair (.slot 0 9 dLS) (.pair (.slot 0 10 dI) (.pair (.slot 0 11 dI) (.pair (.fix 0 2 (.k (.slice none 0 0))) (.slot 0 3 dI))))
noncomputable def la_R (xs : List S) (n : Int) (i : Int) (_u : Unit) (e : Int) : Ex × la_G :=
  bif decide (i < n) then
    bif !may_F (xs.getD i.toNat eS.dflt) then (Ex.ret, eS.lst xs.length (eS.els xs), n, i, (), (20 : Int))
    else (Ex.normal, eS.lst xs.length (eS.els xs), n, IntKind.i64.wrap (i + (1 : Int)), (), e)
  else (Ex.exit (0 : Nat), eS.lst xs.length (eS.els xs), n, i, (), e)
def la_side (xs : List S) (n : Int) (i : Int) (_u : Unit) (e : Int) : Prop :=
  (decide (i < n) = true →
      ((0 : Int) ≤ i ∧ i < (↑xs.length : Int)) ∧
        ((!may_F (xs.getD i.toNat eS.dflt)) = true →
            ∀ (e_1 : Nat), e_1 < (xs, n, i, (), e).fst.length → eS.Ok (eS.els xs e_1)) ∧
          ((!may_F (xs.getD i.toNat eS.dflt)) = false →
            ∀ (e_1 : Nat), e_1 < (xs, n, i, (), e).fst.length → eS.Ok (eS.els xs e_1))) ∧
    (decide (i < n) = false → ∀ (e_1 : Nat), e_1 < (xs, n, i, (), e).fst.length → eS.Ok (eS.els xs e_1))
theorem la_one : ((loopsOf Try.prog 37).filter fun c => Nat.beq (lkey c) 2).length = 1 := by kernel_rfl
theorem la_es (g : la_G) : (la_R g.1 g.2.1 g.2.2.1 g.2.2.2.1 g.2.2.2.2).1 = .normal ∨ (la_R g.1 g.2.1 g.2.2.1 g.2.2.2.1 g.2.2.2.2).1 ∈ ([.ret, .exit 0] : List Ex) := by
  unfold la_R
  repeat' (first | (left; rfl) | (right; simp only [cond_true, cond_false]; simp; done) | (rw [Bool.cond_eq_ite]; split))
noncomputable abbrev la_C (Inv : la_G → List Prop) (m : la_G → Nat) : LCon := loopR [.ret, .exit 0] (loopBody Try.prog 37 2) la_LP [] 54 Inv (fun g => la_R g.1 g.2.1 g.2.2.1 g.2.2.2.1 g.2.2.2.2) m
theorem la_loop (Inv : la_G → List Prop) (m : la_G → Nat) (hs : ∀ g, allP (Inv g) → la_side g.1 g.2.1 g.2.2.1 g.2.2.2.1 g.2.2.2.2) (hg : Goes (fun g : la_G => la_R g.1 g.2.1 g.2.2.1 g.2.2.2.1 g.2.2.2.2) m fun g => allP (Inv g)) : ∀ b ∈ loopsOf Try.prog 37, lkey b = 2 → LoopOk Try.prog b (la_C Inv m).g := loop_run (Γ := (MTab.gamz tab26 [] [])) (Λ := noΛ) (MTab.okz tab26 [] []) noΛ_ok 100 37 2 54 la_LP [] Inv (fun g => la_R g.1 g.2.1 g.2.2.1 g.2.2.2.1 g.2.2.2.2) (fun g => la_side g.1 g.2.1 g.2.2.1 g.2.2.2.1 g.2.2.2.2) m default [.ret, .exit 0] la_one (fun rd T B HL HB ds g => by kernel_rfl) (fun rd T B HL HB ds g => by kernel_rfl) hs hg la_es
abbrev lb_G : Type := List S × List S × List S × Int × Int × Unit × Int
def lb_LP : LP 0 lb_G := .pair (.slot 0 0 dLS) (.pair (.row 0 6 24 eS) (.pair (.slot 0 19 dLS) (.pair (.slot 0 20 dI) (.pair (.slot 0 21 dI) (.pair (.fix 0 2 (.k (.slice none 0 0))) (.slot 0 3 dI))))))
noncomputable def lb_R (xs : List S) (out : List S) (ys : List S) (n : Int) (i : Int) (_u : Unit) (e : Int) : Ex × lb_G :=
  bif decide (i < n) then
    bif
        (ys.getD i.toNat eS.dflt).f != (xs.getD (0 : Nat) eS.dflt).f ||
          ends_F (ys.getD i.toNat eS.dflt) != ends_F (xs.getD (0 : Nat) eS.dflt) then
      (Ex.ret, eS.lst xs.length (eS.els xs), eS.lst out.length (eS.els out), eS.lst ys.length (eS.els ys), n, i, (),
        (11 : Int))
    else
      bif !(eS.lst xs.length (eS.els xs)).any fun x => less_F x (ys.getD i.toNat eS.dflt) then
        (Ex.normal, eS.lst xs.length (eS.els xs),
          eS.lst (min (out.length + (1 : Nat)) out.length) (eS.els out) ++
            List.map (fun x => ys.getD i.toNat eS.dflt) (List.range (out.length + (1 : Nat) - out.length)),
          eS.lst ys.length (eS.els ys), n, IntKind.i64.wrap (i + (1 : Int)), (), e)
      else
        (Ex.normal, eS.lst xs.length (eS.els xs), eS.lst out.length (eS.els out), eS.lst ys.length (eS.els ys), n,
          IntKind.i64.wrap (i + (1 : Int)), (), e)
  else
    (Ex.exit (2 : Nat), eS.lst xs.length (eS.els xs), eS.lst out.length (eS.els out), eS.lst ys.length (eS.els ys), n, i,
      (), e)
def lb_side (xs : List S) (out : List S) (ys : List S) (n : Int) (i : Int) (_u : Unit) (e : Int) : Prop :=
  (decide (i < n) = true →
      ((0 : Int) ≤ i ∧ i < (↑ys.length : Int)) ∧
        ((0 : Int) ≤ (0 : Int) ∧ (0 : Int) < (↑xs.length : Int)) ∧
          ((!((xs, out, ys, n, i, (), e).snd.snd.fst.getD (xs, out, ys, n, i, (), e).snd.snd.snd.snd.fst.toNat
                          eS.dflt).toP.fst !=
                    ((xs, out, ys, n, i, (), e).fst.getD (Int.toNat (0 : Int)) eS.dflt).toP.fst) =
                true →
              (0 : Int) ≤ (0 : Int) ∧ (0 : Int) < (↑xs.length : Int)) ∧
            (((ys.getD i.toNat eS.dflt).f != (xs.getD (0 : Nat) eS.dflt).f ||
                    ends_F (ys.getD i.toNat eS.dflt) != ends_F (xs.getD (0 : Nat) eS.dflt)) =
                  true →
                (∀ (e_1 : Nat), e_1 < (xs, out, ys, n, i, (), e).fst.length → eS.Ok (eS.els xs e_1)) ∧
                  out.length ≤ out.length ∧
                    (∀ (e : Nat), e < out.length → True) ∧
                      ∀ (e_1 : Nat), e_1 < (xs, out, ys, n, i, (), e).snd.snd.fst.length → eS.Ok (eS.els ys e_1)) ∧
              (((ys.getD i.toNat eS.dflt).f != (xs.getD (0 : Nat) eS.dflt).f ||
                    ends_F (ys.getD i.toNat eS.dflt) != ends_F (xs.getD (0 : Nat) eS.dflt)) =
                  false →
                (∀ (e_1 : Nat), e_1 < (xs, out, ys, n, i, (), e).fst.length → eS.Ok (eS.els xs e_1)) ∧
                  ((!(eS.lst xs.length (eS.els xs)).any fun x => less_F x (ys.getD i.toNat eS.dflt)) = true →
                      (out.length ≤ out.length ∧
                          True ∧
                            out.length + (1 : Nat) ≤ maxLen ∧
                              (out.length + (1 : Nat)) * Try.prog.types[(24 : Nat)].bytes ≤ (140737488355328 : Nat)) ∧
                        (∀ (e_1 : Nat), e_1 < (xs, out, ys, n, i, (), e).fst.length → eS.Ok (eS.els xs e_1)) ∧
                          out.length + (1 : Nat) ≤ out.length + (1 : Nat) ∧
                            (∀ (e : Nat), e < min (out.length + (1 : Nat)) out.length → True) ∧
                              (∀ (e : Nat), e < out.length + (1 : Nat) - out.length → True) ∧
                                ∀ (e_1 : Nat),
                                  e_1 < (xs, out, ys, n, i, (), e).snd.snd.fst.length → eS.Ok (eS.els ys e_1)) ∧
                    ((!(eS.lst xs.length (eS.els xs)).any fun x => less_F x (ys.getD i.toNat eS.dflt)) = false →
                      (∀ (e_1 : Nat), e_1 < (xs, out, ys, n, i, (), e).fst.length → eS.Ok (eS.els xs e_1)) ∧
                        out.length ≤ out.length ∧
                          (∀ (e : Nat), e < out.length → True) ∧
                            ∀ (e_1 : Nat),
                              e_1 < (xs, out, ys, n, i, (), e).snd.snd.fst.length → eS.Ok (eS.els ys e_1)))) ∧
    (decide (i < n) = false →
      (∀ (e_1 : Nat), e_1 < (xs, out, ys, n, i, (), e).fst.length → eS.Ok (eS.els xs e_1)) ∧
        out.length ≤ out.length ∧
          (∀ (e : Nat), e < out.length → True) ∧
            ∀ (e_1 : Nat), e_1 < (xs, out, ys, n, i, (), e).snd.snd.fst.length → eS.Ok (eS.els ys e_1))
theorem lb_one : ((loopsOf Try.prog 37).filter fun c => Nat.beq (lkey c) 9).length = 1 := by kernel_rfl
theorem lb_es (g : lb_G) : (lb_R g.1 g.2.1 g.2.2.1 g.2.2.2.1 g.2.2.2.2.1 g.2.2.2.2.2.1 g.2.2.2.2.2.2).1 = .normal ∨ (lb_R g.1 g.2.1 g.2.2.1 g.2.2.2.1 g.2.2.2.2.1 g.2.2.2.2.2.1 g.2.2.2.2.2.2).1 ∈ ([.ret, .exit 2] : List Ex) := by
  unfold lb_R
  repeat' (first | (left; rfl) | (right; simp only [cond_true, cond_false]; simp; done) | (rw [Bool.cond_eq_ite]; split))
noncomputable abbrev lb_C (Inv : lb_G → List Prop) (m : lb_G → Nat) : LCon := loopR [.ret, .exit 2] (loopBody Try.prog 37 9) lb_LP [] 54 Inv (fun g => lb_R g.1 g.2.1 g.2.2.1 g.2.2.2.1 g.2.2.2.2.1 g.2.2.2.2.2.1 g.2.2.2.2.2.2) m
theorem lb_loop (Inv : lb_G → List Prop) (m : lb_G → Nat) (hs : ∀ g, allP (Inv g) → lb_side g.1 g.2.1 g.2.2.1 g.2.2.2.1 g.2.2.2.2.1 g.2.2.2.2.2.1 g.2.2.2.2.2.2) (hg : Goes (fun g : lb_G => lb_R g.1 g.2.1 g.2.2.1 g.2.2.2.1 g.2.2.2.2.1 g.2.2.2.2.2.1 g.2.2.2.2.2.2) m fun g => allP (Inv g)) : ∀ b ∈ loopsOf Try.prog 37, lkey b = 9 → LoopOk Try.prog b (lb_C Inv m).g := loop_run (Γ := (MTab.gamz tab26 [] [])) (Λ := noΛ) (MTab.okz tab26 [] []) noΛ_ok 100 37 9 54 lb_LP [] Inv (fun g => lb_R g.1 g.2.1 g.2.2.1 g.2.2.2.1 g.2.2.2.2.1 g.2.2.2.2.2.1 g.2.2.2.2.2.2) (fun g => lb_side g.1 g.2.1 g.2.2.1 g.2.2.2.1 g.2.2.2.2.1 g.2.2.2.2.2.1 g.2.2.2.2.2.2) m default [.ret, .exit 2] lb_one (fun rd T B HL HB ds g => by kernel_rfl) (fun rd T B HL HB ds g => by kernel_rfl) hs hg lb_es
noncomputable def tab27 : MTab Try.prog := tab26
end Go.Proofs.Ytapmlfklkfgmoaa

/- Chapter 2: the document's Least, its loops. Printed by treegen.py. -/
namespace Go.Proofs.Ytapmlfklkfgmoaa
open Go.RowKit Go.Sx
set_option maxRecDepth 100000
set_option linter.unusedVariables false
abbrev rin_G : Type := List S × Unit × S × List S × Bool × Int
def rin_LP : LP 1 rin_G := .pair (.slot 1 0 dLS) (.pair (.fix 1 3 (.p 0 0)) (.pair (.obj 1 0 24 eS) (.pair (.row 1 5 24 eS) (.pair (.slot 1 6 dBool) (.slot 1 7 dI)))))
noncomputable def rin_R (xs : List S) (_u : Unit) (s : S) (out : List S) (b : Bool) (i : Int) : Ex × rin_G :=
  bif decide (i < (↑xs.length : Int)) then
    bif
        !(conj
                ([(xs.getD i.toNat eS.dflt).f == s.f] ++
                  ([(xs.getD i.toNat eS.dflt).k == s.k] ++
                    ([(xs.getD i.toNat eS.dflt).a == s.a] ++
                      ([(xs.getD i.toNat eS.dflt).n == s.n] ++
                        ([(xs.getD i.toNat eS.dflt).p0 == s.p0] ++
                            ([(xs.getD i.toNat eS.dflt).p1 == s.p1] ++
                              ([(xs.getD i.toNat eS.dflt).p2 == s.p2] ++
                                ([(xs.getD i.toNat eS.dflt).p3 == s.p3] ++ []))) ++
                          []))))) ||
              b) &&
          decide (rcompare_F s (xs.getD i.toNat eS.dflt) < (0 : Int)) then
      (Ex.normal, eS.lst xs.length (eS.els xs), (), s,
        eS.lst (min (min (out.length + (1 : Nat) + (1 : Nat)) (out.length + (1 : Nat))) out.length) (eS.els out) ++
            List.map (fun x => s)
              (List.range (min (out.length + (1 : Nat) + (1 : Nat)) (out.length + (1 : Nat)) - out.length)) ++
          List.map (fun x => xs.getD i.toNat eS.dflt)
            (List.range (out.length + (1 : Nat) + (1 : Nat) - (out.length + (1 : Nat)))),
        true, IntKind.i64.wrap (i + (1 : Int)))
    else
      (Ex.normal, eS.lst xs.length (eS.els xs), (), s,
        eS.lst (min (out.length + (1 : Nat)) out.length) (eS.els out) ++
          List.map (fun x => xs.getD i.toNat eS.dflt) (List.range (out.length + (1 : Nat) - out.length)),
        conj
            ([(xs.getD i.toNat eS.dflt).f == s.f] ++
              ([(xs.getD i.toNat eS.dflt).k == s.k] ++
                ([(xs.getD i.toNat eS.dflt).a == s.a] ++
                  ([(xs.getD i.toNat eS.dflt).n == s.n] ++
                    ([(xs.getD i.toNat eS.dflt).p0 == s.p0] ++
                        ([(xs.getD i.toNat eS.dflt).p1 == s.p1] ++
                          ([(xs.getD i.toNat eS.dflt).p2 == s.p2] ++ ([(xs.getD i.toNat eS.dflt).p3 == s.p3] ++ []))) ++
                      []))))) ||
          b,
        IntKind.i64.wrap (i + (1 : Int)))
  else (Ex.exit (0 : Nat), eS.lst xs.length (eS.els xs), (), s, eS.lst out.length (eS.els out), b, i)
def rin_side (xs : List S) (_u : Unit) (s : S) (out : List S) (b : Bool) (i : Int) : Prop :=
  (decide (i < (↑xs.length : Int)) = true →
      ((0 : Int) ≤ i ∧ i < (↑xs.length : Int)) ∧
        ((!(conj
                    ([((xs, (), s, out, b, i).fst.getD (xs, (), s, out, b, i).snd.snd.snd.snd.snd.toNat
                                eS.dflt).toP.fst ==
                          (xs, (), s, out, b, i).snd.snd.fst.toP.fst] ++
                      ([((xs, (), s, out, b, i).fst.getD (xs, (), s, out, b, i).snd.snd.snd.snd.snd.toNat
                                    eS.dflt).toP.snd.fst ==
                            (xs, (), s, out, b, i).snd.snd.fst.toP.snd.fst] ++
                        ([((xs, (), s, out, b, i).fst.getD (xs, (), s, out, b, i).snd.snd.snd.snd.snd.toNat
                                        eS.dflt).toP.snd.snd.fst ==
                              (xs, (), s, out, b, i).snd.snd.fst.toP.snd.snd.fst] ++
                          ([((xs, (), s, out, b, i).fst.getD (xs, (), s, out, b, i).snd.snd.snd.snd.snd.toNat
                                            eS.dflt).toP.snd.snd.snd.fst ==
                                (xs, (), s, out, b, i).snd.snd.fst.toP.snd.snd.snd.fst] ++
                            ([((xs, (), s, out, b, i).fst.getD (xs, (), s, out, b, i).snd.snd.snd.snd.snd.toNat
                                                  eS.dflt).toP.snd.snd.snd.snd.fst ==
                                    (xs, (), s, out, b, i).snd.snd.fst.toP.snd.snd.snd.snd.fst] ++
                                ([((xs, (), s, out, b, i).fst.getD (xs, (), s, out, b, i).snd.snd.snd.snd.snd.toNat
                                                      eS.dflt).toP.snd.snd.snd.snd.snd.fst ==
                                      (xs, (), s, out, b, i).snd.snd.fst.toP.snd.snd.snd.snd.snd.fst] ++
                                  ([((xs, (), s, out, b, i).fst.getD (xs, (), s, out, b, i).snd.snd.snd.snd.snd.toNat
                                                          eS.dflt).toP.snd.snd.snd.snd.snd.snd.fst ==
                                        (xs, (), s, out, b, i).snd.snd.fst.toP.snd.snd.snd.snd.snd.snd.fst] ++
                                    ([((xs, (), s, out, b, i).fst.getD (xs, (), s, out, b, i).snd.snd.snd.snd.snd.toNat
                                                            eS.dflt).toP.snd.snd.snd.snd.snd.snd.snd ==
                                          (xs, (), s, out, b, i).snd.snd.fst.toP.snd.snd.snd.snd.snd.snd.snd] ++
                                      []))) ++
                              []))))) ||
                  (xs, (), s, out, b, i).snd.snd.snd.snd.fst)) =
              true →
            (0 : Int) ≤ i ∧ i < (↑xs.length : Int)) ∧
          ((!(conj
                        ([(xs.getD i.toNat eS.dflt).f == s.f] ++
                          ([(xs.getD i.toNat eS.dflt).k == s.k] ++
                            ([(xs.getD i.toNat eS.dflt).a == s.a] ++
                              ([(xs.getD i.toNat eS.dflt).n == s.n] ++
                                ([(xs.getD i.toNat eS.dflt).p0 == s.p0] ++
                                    ([(xs.getD i.toNat eS.dflt).p1 == s.p1] ++
                                      ([(xs.getD i.toNat eS.dflt).p2 == s.p2] ++
                                        ([(xs.getD i.toNat eS.dflt).p3 == s.p3] ++ []))) ++
                                  []))))) ||
                      b) &&
                  decide (rcompare_F s (xs.getD i.toNat eS.dflt) < (0 : Int))) =
                true →
              (out.length ≤ out.length ∧
                  True ∧
                    out.length + (1 : Nat) ≤ maxLen ∧
                      (out.length + (1 : Nat)) * Try.prog.types[(24 : Nat)].bytes ≤ (140737488355328 : Nat)) ∧
                ((0 : Int) ≤ i ∧ i < (↑xs.length : Int)) ∧
                  (out.length + (1 : Nat) ≤ out.length + (1 : Nat) ∧
                      True ∧
                        out.length + (1 : Nat) + (1 : Nat) ≤ maxLen ∧
                          (out.length + (1 : Nat) + (1 : Nat)) * Try.prog.types[(24 : Nat)].bytes ≤
                            (140737488355328 : Nat)) ∧
                    (∀ (e : Nat), e < (xs, (), s, out, b, i).fst.length → eS.Ok (eS.els xs e)) ∧
                      out.length + (1 : Nat) + (1 : Nat) ≤ out.length + (1 : Nat) + (1 : Nat) ∧
                        (∀ (e : Nat),
                            e < min (min (out.length + (1 : Nat) + (1 : Nat)) (out.length + (1 : Nat))) out.length →
                              True) ∧
                          (∀ (e : Nat),
                              e < min (out.length + (1 : Nat) + (1 : Nat)) (out.length + (1 : Nat)) - out.length → True) ∧
                            ∀ (e : Nat), e < out.length + (1 : Nat) + (1 : Nat) - (out.length + (1 : Nat)) → True) ∧
            ((!(conj
                        ([(xs.getD i.toNat eS.dflt).f == s.f] ++
                          ([(xs.getD i.toNat eS.dflt).k == s.k] ++
                            ([(xs.getD i.toNat eS.dflt).a == s.a] ++
                              ([(xs.getD i.toNat eS.dflt).n == s.n] ++
                                ([(xs.getD i.toNat eS.dflt).p0 == s.p0] ++
                                    ([(xs.getD i.toNat eS.dflt).p1 == s.p1] ++
                                      ([(xs.getD i.toNat eS.dflt).p2 == s.p2] ++
                                        ([(xs.getD i.toNat eS.dflt).p3 == s.p3] ++ []))) ++
                                  []))))) ||
                      b) &&
                  decide (rcompare_F s (xs.getD i.toNat eS.dflt) < (0 : Int))) =
                false →
              ((0 : Int) ≤ i ∧ i < (↑xs.length : Int)) ∧
                (out.length ≤ out.length ∧
                    True ∧
                      out.length + (1 : Nat) ≤ maxLen ∧
                        (out.length + (1 : Nat)) * Try.prog.types[(24 : Nat)].bytes ≤ (140737488355328 : Nat)) ∧
                  (∀ (e : Nat), e < (xs, (), s, out, b, i).fst.length → eS.Ok (eS.els xs e)) ∧
                    out.length + (1 : Nat) ≤ out.length + (1 : Nat) ∧
                      (∀ (e : Nat), e < min (out.length + (1 : Nat)) out.length → True) ∧
                        ∀ (e : Nat), e < out.length + (1 : Nat) - out.length → True)) ∧
    (decide (i < (↑xs.length : Int)) = false →
      (∀ (e : Nat), e < (xs, (), s, out, b, i).fst.length → eS.Ok (eS.els xs e)) ∧
        out.length ≤ out.length ∧ ∀ (e : Nat), e < out.length → True)
theorem rin_one : ((loopsOf Try.prog 58).filter fun c => Nat.beq (lkey c) 4).length = 1 := by kernel_rfl
theorem rin_es (g : rin_G) : (rin_R g.1 g.2.1 g.2.2.1 g.2.2.2.1 g.2.2.2.2.1 g.2.2.2.2.2).1 = .normal ∨ (rin_R g.1 g.2.1 g.2.2.1 g.2.2.2.1 g.2.2.2.2.1 g.2.2.2.2.2).1 ∈ ([.exit 0] : List Ex) := by
  unfold rin_R
  repeat' (first | (left; rfl) | (right; simp only [cond_true, cond_false]; simp; done) | (rw [Bool.cond_eq_ite]; split))
noncomputable abbrev rin_C (Inv : rin_G → List Prop) (m : rin_G → Nat) : LCon := loopR [.exit 0] (loopBody Try.prog 58 4) rin_LP [] 49 Inv (fun g => rin_R g.1 g.2.1 g.2.2.1 g.2.2.2.1 g.2.2.2.2.1 g.2.2.2.2.2) m
theorem rin_loop (Inv : rin_G → List Prop) (m : rin_G → Nat) (hs : ∀ g, allP (Inv g) → rin_side g.1 g.2.1 g.2.2.1 g.2.2.2.1 g.2.2.2.2.1 g.2.2.2.2.2) (hg : Goes (fun g : rin_G => rin_R g.1 g.2.1 g.2.2.1 g.2.2.2.1 g.2.2.2.2.1 g.2.2.2.2.2) m fun g => allP (Inv g)) : ∀ b ∈ loopsOf Try.prog 58, lkey b = 4 → LoopOk Try.prog b (rin_C Inv m).g := loop_run (Γ := (MTab.gamz tab26 [] [])) (Λ := noΛ) (MTab.okz tab26 [] []) noΛ_ok 100 58 4 49 rin_LP [] Inv (fun g => rin_R g.1 g.2.1 g.2.2.1 g.2.2.2.1 g.2.2.2.2.1 g.2.2.2.2.2) (fun g => rin_side g.1 g.2.1 g.2.2.1 g.2.2.2.1 g.2.2.2.2.1 g.2.2.2.2.2) m default [.exit 0] rin_one (fun rd T B HL HB ds g => by kernel_rfl) (fun rd T B HL HB ds g => by kernel_rfl) hs hg rin_es
abbrev rla_G : Type := List S × Int × Unit × Int
def rla_LP : LP 0 rla_G := .pair (.slot 0 0 dLS) (.pair (.slot 0 4 dI) (.pair (.fix 0 2 (.k (.slice none 0 0))) (.slot 0 3 dI)))
noncomputable def rla_R (xs : List S) (i : Int) (_u : Unit) (e : Int) : Ex × rla_G :=
  bif decide (i < (↑xs.length : Int)) then
    bif rcheck_F (xs.getD i.toNat eS.dflt) != (0 : Int) then (Ex.ret, eS.lst xs.length (eS.els xs), i, (), (20 : Int))
    else (Ex.normal, eS.lst xs.length (eS.els xs), IntKind.i64.wrap (i + (1 : Int)), (), e)
  else (Ex.exit (0 : Nat), eS.lst xs.length (eS.els xs), i, (), e)
def rla_side (xs : List S) (i : Int) (_u : Unit) (e : Int) : Prop :=
  (decide (i < (↑xs.length : Int)) = true →
      ((0 : Int) ≤ i ∧ i < (↑xs.length : Int)) ∧
        ((rcheck_F (xs.getD i.toNat eS.dflt) != (0 : Int)) = true →
            ∀ (e_1 : Nat), e_1 < (xs, i, (), e).fst.length → eS.Ok (eS.els xs e_1)) ∧
          ((rcheck_F (xs.getD i.toNat eS.dflt) != (0 : Int)) = false →
            ∀ (e_1 : Nat), e_1 < (xs, i, (), e).fst.length → eS.Ok (eS.els xs e_1))) ∧
    (decide (i < (↑xs.length : Int)) = false → ∀ (e_1 : Nat), e_1 < (xs, i, (), e).fst.length → eS.Ok (eS.els xs e_1))
theorem rla_one : ((loopsOf Try.prog 38).filter fun c => Nat.beq (lkey c) 2).length = 1 := by kernel_rfl
theorem rla_es (g : rla_G) : (rla_R g.1 g.2.1 g.2.2.1 g.2.2.2).1 = .normal ∨ (rla_R g.1 g.2.1 g.2.2.1 g.2.2.2).1 ∈ ([.ret, .exit 0] : List Ex) := by
  unfold rla_R
  repeat' (first | (left; rfl) | (right; simp only [cond_true, cond_false]; simp; done) | (rw [Bool.cond_eq_ite]; split))
noncomputable abbrev rla_C (Inv : rla_G → List Prop) (m : rla_G → Nat) : LCon := loopR [.ret, .exit 0] (loopBody Try.prog 38 2) rla_LP [] 83 Inv (fun g => rla_R g.1 g.2.1 g.2.2.1 g.2.2.2) m
theorem rla_loop (Inv : rla_G → List Prop) (m : rla_G → Nat) (hs : ∀ g, allP (Inv g) → rla_side g.1 g.2.1 g.2.2.1 g.2.2.2) (hg : Goes (fun g : rla_G => rla_R g.1 g.2.1 g.2.2.1 g.2.2.2) m fun g => allP (Inv g)) : ∀ b ∈ loopsOf Try.prog 38, lkey b = 2 → LoopOk Try.prog b (rla_C Inv m).g := loop_run (Γ := (MTab.gamz tab26 [] [])) (Λ := noΛ) (MTab.okz tab26 [] []) noΛ_ok 100 38 2 83 rla_LP [] Inv (fun g => rla_R g.1 g.2.1 g.2.2.1 g.2.2.2) (fun g => rla_side g.1 g.2.1 g.2.2.1 g.2.2.2) m default [.ret, .exit 0] rla_one (fun rd T B HL HB ds g => by kernel_rfl) (fun rd T B HL HB ds g => by kernel_rfl) hs hg rla_es
noncomputable def tab28 : MTab Try.prog := tab26
end Go.Proofs.Ytapmlfklkfgmoaa

/- Loops that look for a fault, that pick from a list, that ask all: plain laws. -/
namespace Go.Lp
open Go.Sx
section
variable {α β : Type}
theorem drop_at (d : α) {xs : List α} {i : Nat} (h : i < xs.length) : xs.drop i = xs.getD i d :: xs.drop (i + 1) := by
  rw [List.drop_eq_getElem_cons h]
  simp [List.getD_eq_getElem?_getD, h]
theorem take_at (d : α) {xs : List α} {i : Nat} (h : i < xs.length) : xs.take (i + 1) = xs.take i ++ [xs.getD i d] := by
  rw [List.take_add_one]
  simp [List.getD_eq_getElem?_getD, h]
/-! ### a fault: 'for range xs { if p(x) { return .., c } }' -/
abbrev ErG (α : Type) := List α × Int × Int × Unit × Int
def erF (x : Nat) (d : α) (p : α → Bool) (c : Int) (g : ErG α) : Ex × ErG α :=
  bif decide (g.2.2.1 < g.2.1) then
    bif p (g.1.getD g.2.2.1.toNat d) then (.ret, g.1, g.2.1, g.2.2.1, (), c) else (.normal, g.1, g.2.1, w64 (g.2.2.1 + 1), (), g.2.2.2.2)
  else (.exit x, g)
def erI (g : ErG α) : List Prop := [g.2.1 = (g.1.length : Int) ∧ g.1.length ≤ maxLen ∧ 0 ≤ g.2.2.1 ∧ g.2.2.1 ≤ (g.1.length : Int)]
def erM (g : ErG α) : Nat := (g.2.1 - g.2.2.1).toNat
theorem er_goes (x : Nat) (d : α) (p : α → Bool) (c : Int) : Goes (erF x d p c) erM fun g => allP (erI g) := by
  rintro ⟨xs, n, i, ⟨⟩, e⟩ hi hn
  obtain ⟨h1, h2, h3, h4⟩ := hi _ (List.mem_cons_self ..)
  simp only at h1 h2 h3 h4
  unfold maxLen at h2
  unfold erF at hn ⊢
  simp only at hn ⊢
  by_cases hlt : i < n
  · simp only [hlt, decide_true, cond_true] at hn ⊢
    cases hp : p (xs.getD i.toNat d) with
    | true => rw [hp] at hn; cases hn
    | false =>
      simp only [cond_false]
      rw [wr (by omega)]
      refine ⟨fun q hq => ?_, ?_⟩
      · simp only [erI, List.mem_singleton] at hq
        subst hq
        exact ⟨h1, by unfold maxLen; omega, by show (0 : Int) ≤ i + 1; omega, by show i + 1 ≤ (xs.length : Int); omega⟩
      · simp only [erM]; omega
  · simp only [hlt, decide_false, cond_false] at hn
    cases hn
theorem er_run (x : Nat) (d : α) (p : α → Bool) (c : Int) : ∀ g : ErG α, allP (erI g) →
    (((loopF (erF x d p c) erM g).1 = .ret ∧ (loopF (erF x d p c) erM g).2.2.2.2.2 = c ∧ (loopF (erF x d p c) erM g).2.1 = g.1 ∧ (g.1.drop g.2.2.1.toNat).any p = true) ∨
     ((loopF (erF x d p c) erM g).1 = .exit x ∧ (loopF (erF x d p c) erM g).2.2.2.2.2 = g.2.2.2.2 ∧ (loopF (erF x d p c) erM g).2.1 = g.1 ∧ (g.1.drop g.2.2.1.toNat).any p = false)) := by
  refine loopF_induct (er_goes x d p c) (Q := fun g r => ((r.1 = .ret ∧ r.2.2.2.2.2 = c ∧ r.2.1 = g.1 ∧ (g.1.drop g.2.2.1.toNat).any p = true) ∨ (r.1 = .exit x ∧ r.2.2.2.2.2 = g.2.2.2.2 ∧ r.2.1 = g.1 ∧ (g.1.drop g.2.2.1.toNat).any p = false))) ?_ ?_
  · rintro ⟨xs, n, i, ⟨⟩, e⟩ hi hn
    obtain ⟨h1, h2, h3, h4⟩ := hi _ (List.mem_cons_self ..)
    simp only at h1 h2 h3 h4
    unfold erF at hn ⊢
    simp only at hn ⊢
    by_cases hlt : i < n
    · simp only [hlt, decide_true, cond_true] at hn ⊢
      have hlt' : i.toNat < xs.length := by omega
      cases hp : p (xs.getD i.toNat d) with
      | true =>
        left
        simp only [cond_true]
        refine ⟨trivial, trivial, trivial, ?_⟩
        rw [drop_at d hlt', List.any_cons, hp]; rfl
      | false => rw [hp] at hn; exact absurd rfl hn
    · right
      simp only [hlt, decide_false, cond_false]
      refine ⟨trivial, trivial, trivial, ?_⟩
      rw [List.drop_eq_nil_of_le (by omega)]; rfl
  · rintro ⟨xs, n, i, ⟨⟩, e⟩ g' r hi he hi' _ hq
    obtain ⟨h1, h2, h3, h4⟩ := hi _ (List.mem_cons_self ..)
    simp only at h1 h2 h3 h4
    unfold maxLen at h2
    unfold erF at he
    simp only at he
    by_cases hlt : i < n
    · simp only [hlt, decide_true, cond_true] at he
      have hlt' : i.toNat < xs.length := by omega
      cases hp : p (xs.getD i.toNat d) with
      | true => rw [hp] at he; cases he
      | false =>
        rw [hp] at he
        simp only [cond_false, Prod.mk.injEq, true_and] at he
        subst he
        simp only at hq ⊢
        rw [wr (by omega)] at hq
        rw [drop_at d hlt', List.any_cons, hp, Bool.false_or]
        have : (i + 1).toNat = i.toNat + 1 := by omega
        rw [this] at hq
        exact hq
    · simp only [hlt, decide_false, cond_false] at he
      cases he
theorem er_any (x : Nat) (d : α) (p : α → Bool) (c : Int) (xs : List α) (e : Int) (h : xs.length ≤ maxLen) :
    exB .ret (loopF (erF x d p c) erM (xs, (xs.length : Int), 0, (), e)).1 = xs.any p ∧ (loopF (erF x d p c) erM (xs, (xs.length : Int), 0, (), e)).2.2.2.2.2 = (bif xs.any p then c else e) := by
  have h0 : allP (erI ((xs, (xs.length : Int), (0 : Int), (), e) : ErG α)) := fun q hq => by
    simp only [erI, List.mem_singleton] at hq
    subst hq
    exact ⟨trivial, h, Int.le_refl _, by show (0 : Int) ≤ (xs.length : Int); omega⟩
  rcases er_run x d p c _ h0 with ⟨h1, h2, _, h3⟩ | ⟨h1, h2, _, h3⟩
  · have h4 : (xs.drop 0).any p = true := h3
    rw [List.drop_zero] at h4
    rw [h1, h2, h4]; exact ⟨rfl, rfl⟩
  · have h4 : (xs.drop 0).any p = false := h3
    rw [List.drop_zero] at h4
    rw [h1, h2, h4]; exact ⟨rfl, rfl⟩
/-! ### pick: 'for range xs { if bad(x) { return .., c }; out = step(out, x) }' -/
abbrev FlG (α β : Type) := List α × β × List α × Int × Int × Unit × Int
def flF (x : Nat) (d : α) (bad : List α → α → Bool) (step : List α → β → α → β) (c : Int) (g : FlG α β) : Ex × FlG α β :=
  bif decide (g.2.2.2.2.1 < g.2.2.2.1) then
    bif bad g.1 (g.2.2.1.getD g.2.2.2.2.1.toNat d) then (.ret, g.1, g.2.1, g.2.2.1, g.2.2.2.1, g.2.2.2.2.1, (), c)
    else (.normal, g.1, step g.1 g.2.1 (g.2.2.1.getD g.2.2.2.2.1.toNat d), g.2.2.1, g.2.2.2.1, w64 (g.2.2.2.2.1 + 1), (), g.2.2.2.2.2.2)
  else (.exit x, g)
/-- 'ok': what is kept of what has been made of a beginning. -/
def flI (ok : List α → β → Nat → Prop) (g : FlG α β) : List Prop := [g.2.2.2.1 = (g.1.length : Int) ∧ g.2.2.1 = g.1 ∧ g.1.length ≤ maxLen ∧ 0 ≤ g.2.2.2.2.1 ∧ g.2.2.2.2.1 ≤ (g.1.length : Int) ∧ ok g.1 g.2.1 g.2.2.2.2.1.toNat]
def flM (g : FlG α β) : Nat := (g.2.2.2.1 - g.2.2.2.2.1).toNat
section
variable (x : Nat) (d : α) (bad : List α → α → Bool) (step : List α → β → α → β) (c : Int) (ok : List α → β → Nat → Prop)
variable (hok : ∀ xs b i, i < xs.length → ok xs b i → ok xs (step xs b (xs.getD i d)) (i + 1))
include hok
theorem fl_goes : Goes (flF x d bad step c) flM fun g => allP (flI ok g) := by
  rintro ⟨xs, b, ys, n, i, ⟨⟩, e⟩ hi hn
  obtain ⟨h1, h0, h2, h3, h4, h5⟩ := hi _ (List.mem_cons_self ..)
  simp only at h1 h0 h2 h3 h4 h5
  subst h0
  have h2' := h2
  unfold maxLen at h2
  unfold flF at hn ⊢
  simp only at hn ⊢
  by_cases hlt : i < n
  · simp only [hlt, decide_true, cond_true] at hn ⊢
    cases hp : bad ys (ys.getD i.toNat d) with
    | true => rw [hp] at hn; cases hn
    | false =>
      simp only [cond_false]
      rw [wr (by omega)]
      refine ⟨fun q hq => ?_, ?_⟩
      · simp only [flI, List.mem_singleton] at hq
        subst hq
        refine ⟨h1, trivial, h2', by show (0 : Int) ≤ i + 1; omega, by show i + 1 ≤ (ys.length : Int); omega, ?_⟩
        have := hok ys b i.toNat (by omega) h5
        have e1 : (i + 1).toNat = i.toNat + 1 := by omega
        rw [e1]; exact this
      · simp only [flM]; omega
  · simp only [hlt, decide_false, cond_false] at hn
    cases hn
theorem fl_run : ∀ g : FlG α β, allP (flI ok g) →
    (((loopF (flF x d bad step c) flM g).1 = .ret ∧ (loopF (flF x d bad step c) flM g).2.2.2.2.2.2.2 = c ∧ (g.1.drop g.2.2.2.2.1.toNat).any (bad g.1) = true) ∨
     ((loopF (flF x d bad step c) flM g).1 = .exit x ∧ (loopF (flF x d bad step c) flM g).2.2.2.2.2.2.2 = g.2.2.2.2.2.2 ∧ (loopF (flF x d bad step c) flM g).2.1 = g.1 ∧ (loopF (flF x d bad step c) flM g).2.2.1 = (g.1.drop g.2.2.2.2.1.toNat).foldl (step g.1) g.2.1 ∧ ok g.1 (loopF (flF x d bad step c) flM g).2.2.1 g.1.length ∧ (g.1.drop g.2.2.2.2.1.toNat).any (bad g.1) = false)) := by
  refine loopF_induct (fl_goes x d bad step c ok hok) (Q := fun g r => ((r.1 = .ret ∧ r.2.2.2.2.2.2.2 = c ∧ (g.1.drop g.2.2.2.2.1.toNat).any (bad g.1) = true) ∨
     (r.1 = .exit x ∧ r.2.2.2.2.2.2.2 = g.2.2.2.2.2.2 ∧ r.2.1 = g.1 ∧ r.2.2.1 = (g.1.drop g.2.2.2.2.1.toNat).foldl (step g.1) g.2.1 ∧ ok g.1 r.2.2.1 g.1.length ∧ (g.1.drop g.2.2.2.2.1.toNat).any (bad g.1) = false))) ?_ ?_
  · rintro ⟨xs, b, ys, n, i, ⟨⟩, e⟩ hi hn
    obtain ⟨h1, h0, h2, h3, h4, h5⟩ := hi _ (List.mem_cons_self ..)
    simp only at h1 h0 h2 h3 h4 h5
    subst h0
    unfold flF at hn ⊢
    simp only at hn ⊢
    by_cases hlt : i < n
    · simp only [hlt, decide_true, cond_true] at hn ⊢
      have hlt' : i.toNat < ys.length := by omega
      cases hp : bad ys (ys.getD i.toNat d) with
      | true =>
        left
        simp only [cond_true]
        refine ⟨trivial, trivial, ?_⟩
        rw [drop_at d hlt', List.any_cons, hp]; rfl
      | false => rw [hp] at hn; exact absurd rfl hn
    · right
      simp only [hlt, decide_false, cond_false]
      have e1 : i.toNat = ys.length := by omega
      refine ⟨trivial, trivial, trivial, ?_, ?_, ?_⟩
      · rw [List.drop_eq_nil_of_le (by omega)]; rfl
      · rw [← e1]; exact h5
      · rw [List.drop_eq_nil_of_le (by omega)]; rfl
  · rintro ⟨xs, b, ys, n, i, ⟨⟩, e⟩ g' r hi he hi' _ hq
    obtain ⟨h1, h0, h2, h3, h4, h5⟩ := hi _ (List.mem_cons_self ..)
    simp only at h1 h0 h2 h3 h4 h5
    subst h0
    unfold maxLen at h2
    unfold flF at he
    simp only at he
    by_cases hlt : i < n
    · simp only [hlt, decide_true, cond_true] at he
      have hlt' : i.toNat < ys.length := by omega
      cases hp : bad ys (ys.getD i.toNat d) with
      | true => rw [hp] at he; cases he
      | false =>
        rw [hp] at he
        simp only [cond_false, Prod.mk.injEq, true_and] at he
        subst he
        simp only at hq ⊢
        rw [wr (by omega)] at hq
        rw [drop_at d hlt', List.any_cons, hp, Bool.false_or, List.foldl_cons]
        have : (i + 1).toNat = i.toNat + 1 := by omega
        rw [this] at hq
        exact hq
    · simp only [hlt, decide_false, cond_false] at he
      cases he
end
/-! ### the same, where the length is asked for each time -/
abbrev Er2G (α : Type) := List α × Int × Unit × Int
def er2F (x : Nat) (d : α) (p : α → Bool) (c : Int) (g : Er2G α) : Ex × Er2G α :=
  bif decide (g.2.1 < (g.1.length : Int)) then
    bif p (g.1.getD g.2.1.toNat d) then (.ret, g.1, g.2.1, (), c) else (.normal, g.1, w64 (g.2.1 + 1), (), g.2.2.2)
  else (.exit x, g)
def er2I (g : Er2G α) : List Prop := [g.1.length ≤ maxLen ∧ 0 ≤ g.2.1 ∧ g.2.1 ≤ (g.1.length : Int)]
def er2M (g : Er2G α) : Nat := ((g.1.length : Int) - g.2.1).toNat
theorem er2_goes (x : Nat) (d : α) (p : α → Bool) (c : Int) : Goes (er2F x d p c) er2M fun g => allP (er2I g) := by
  rintro ⟨xs, i, ⟨⟩, e⟩ hi hn
  obtain ⟨h2, h3, h4⟩ := hi _ (List.mem_cons_self ..)
  simp only at h2 h3 h4
  unfold maxLen at h2
  unfold er2F at hn ⊢
  simp only at hn ⊢
  by_cases hlt : i < (xs.length : Int)
  · simp only [hlt, decide_true, cond_true] at hn ⊢
    cases hp : p (xs.getD i.toNat d) with
    | true => rw [hp] at hn; cases hn
    | false =>
      simp only [cond_false]
      rw [wr (by omega)]
      refine ⟨fun q hq => ?_, ?_⟩
      · simp only [er2I, List.mem_singleton] at hq
        subst hq
        exact ⟨by unfold maxLen; omega, by show (0 : Int) ≤ i + 1; omega, by show i + 1 ≤ (xs.length : Int); omega⟩
      · simp only [er2M]; omega
  · simp only [hlt, decide_false, cond_false] at hn
    cases hn
theorem er2_run (x : Nat) (d : α) (p : α → Bool) (c : Int) : ∀ g : Er2G α, allP (er2I g) →
    (((loopF (er2F x d p c) er2M g).1 = .ret ∧ (loopF (er2F x d p c) er2M g).2.2.2.2 = c ∧ (loopF (er2F x d p c) er2M g).2.1 = g.1 ∧ (g.1.drop g.2.1.toNat).any p = true) ∨
     ((loopF (er2F x d p c) er2M g).1 = .exit x ∧ (loopF (er2F x d p c) er2M g).2.2.2.2 = g.2.2.2 ∧ (loopF (er2F x d p c) er2M g).2.1 = g.1 ∧ (g.1.drop g.2.1.toNat).any p = false)) := by
  refine loopF_induct (er2_goes x d p c) (Q := fun g r => ((r.1 = .ret ∧ r.2.2.2.2 = c ∧ r.2.1 = g.1 ∧ (g.1.drop g.2.1.toNat).any p = true) ∨ (r.1 = .exit x ∧ r.2.2.2.2 = g.2.2.2 ∧ r.2.1 = g.1 ∧ (g.1.drop g.2.1.toNat).any p = false))) ?_ ?_
  · rintro ⟨xs, i, ⟨⟩, e⟩ hi hn
    obtain ⟨h2, h3, h4⟩ := hi _ (List.mem_cons_self ..)
    simp only at h2 h3 h4
    unfold er2F at hn ⊢
    simp only at hn ⊢
    by_cases hlt : i < (xs.length : Int)
    · simp only [hlt, decide_true, cond_true] at hn ⊢
      have hlt' : i.toNat < xs.length := by omega
      cases hp : p (xs.getD i.toNat d) with
      | true =>
        left
        simp only [cond_true]
        refine ⟨trivial, trivial, trivial, ?_⟩
        rw [drop_at d hlt', List.any_cons, hp]; rfl
      | false => rw [hp] at hn; exact absurd rfl hn
    · right
      simp only [hlt, decide_false, cond_false]
      refine ⟨trivial, trivial, trivial, ?_⟩
      rw [List.drop_eq_nil_of_le (by omega)]; rfl
  · rintro ⟨xs, i, ⟨⟩, e⟩ g' r hi he hi' _ hq
    obtain ⟨h2, h3, h4⟩ := hi _ (List.mem_cons_self ..)
    simp only at h2 h3 h4
    unfold maxLen at h2
    unfold er2F at he
    simp only at he
    by_cases hlt : i < (xs.length : Int)
    · simp only [hlt, decide_true, cond_true] at he
      have hlt' : i.toNat < xs.length := by omega
      cases hp : p (xs.getD i.toNat d) with
      | true => rw [hp] at he; cases he
      | false =>
        rw [hp] at he
        simp only [cond_false, Prod.mk.injEq, true_and] at he
        subst he
        simp only at hq ⊢
        rw [wr (by omega)] at hq
        rw [drop_at d hlt', List.any_cons, hp, Bool.false_or]
        have : (i + 1).toNat = i.toNat + 1 := by omega
        rw [this] at hq
        exact hq
    · simp only [hlt, decide_false, cond_false] at he
      cases he
theorem er2_any (x : Nat) (d : α) (p : α → Bool) (c : Int) (xs : List α) (e : Int) (h : xs.length ≤ maxLen) :
    exB .ret (loopF (er2F x d p c) er2M (xs, 0, (), e)).1 = xs.any p ∧ (loopF (er2F x d p c) er2M (xs, 0, (), e)).2.2.2.2 = (bif xs.any p then c else e) := by
  have h0 : allP (er2I ((xs, (0 : Int), (), e) : Er2G α)) := fun q hq => by
    simp only [er2I, List.mem_singleton] at hq
    subst hq
    exact ⟨h, Int.le_refl _, by show (0 : Int) ≤ (xs.length : Int); omega⟩
  rcases er2_run x d p c _ h0 with ⟨h1, h2, _, h3⟩ | ⟨h1, h2, _, h3⟩
  · have h4 : (xs.drop 0).any p = true := h3
    rw [List.drop_zero] at h4
    rw [h1, h2, h4]; exact ⟨rfl, rfl⟩
  · have h4 : (xs.drop 0).any p = false := h3
    rw [List.drop_zero] at h4
    rw [h1, h2, h4]; exact ⟨rfl, rfl⟩
abbrev Fl2G (α β : Type) := List α × β × Int × Unit × Int
def fl2F (x : Nat) (d : α) (bad : List α → α → Bool) (step : List α → β → α → β) (c : Int) (g : Fl2G α β) : Ex × Fl2G α β :=
  bif decide (g.2.2.1 < (g.1.length : Int)) then
    bif bad g.1 (g.1.getD g.2.2.1.toNat d) then (.ret, g.1, g.2.1, g.2.2.1, (), c)
    else (.normal, g.1, step g.1 g.2.1 (g.1.getD g.2.2.1.toNat d), w64 (g.2.2.1 + 1), (), g.2.2.2.2)
  else (.exit x, g)
def fl2I (ok : List α → β → Nat → Prop) (g : Fl2G α β) : List Prop := [g.1.length ≤ maxLen ∧ 0 ≤ g.2.2.1 ∧ g.2.2.1 ≤ (g.1.length : Int) ∧ ok g.1 g.2.1 g.2.2.1.toNat]
def fl2M (g : Fl2G α β) : Nat := ((g.1.length : Int) - g.2.2.1).toNat
section
variable (x : Nat) (d : α) (bad : List α → α → Bool) (step : List α → β → α → β) (c : Int) (ok : List α → β → Nat → Prop)
variable (hok : ∀ xs b i, i < xs.length → ok xs b i → ok xs (step xs b (xs.getD i d)) (i + 1))
include hok
theorem fl2_goes : Goes (fl2F x d bad step c) fl2M fun g => allP (fl2I ok g) := by
  rintro ⟨ys, b, i, ⟨⟩, e⟩ hi hn
  obtain ⟨h2, h3, h4, h5⟩ := hi _ (List.mem_cons_self ..)
  simp only at h2 h3 h4 h5
  have h2' := h2
  unfold maxLen at h2
  unfold fl2F at hn ⊢
  simp only at hn ⊢
  by_cases hlt : i < (ys.length : Int)
  · simp only [hlt, decide_true, cond_true] at hn ⊢
    cases hp : bad ys (ys.getD i.toNat d) with
    | true => rw [hp] at hn; cases hn
    | false =>
      simp only [cond_false]
      rw [wr (by omega)]
      refine ⟨fun q hq => ?_, ?_⟩
      · simp only [fl2I, List.mem_singleton] at hq
        subst hq
        refine ⟨h2', by show (0 : Int) ≤ i + 1; omega, by show i + 1 ≤ (ys.length : Int); omega, ?_⟩
        have := hok ys b i.toNat (by omega) h5
        have e1 : (i + 1).toNat = i.toNat + 1 := by omega
        rw [e1]; exact this
      · simp only [fl2M]; omega
  · simp only [hlt, decide_false, cond_false] at hn
    cases hn
theorem fl2_run : ∀ g : Fl2G α β, allP (fl2I ok g) →
    (((loopF (fl2F x d bad step c) fl2M g).1 = .ret ∧ (loopF (fl2F x d bad step c) fl2M g).2.2.2.2.2 = c ∧ (g.1.drop g.2.2.1.toNat).any (bad g.1) = true) ∨
     ((loopF (fl2F x d bad step c) fl2M g).1 = .exit x ∧ (loopF (fl2F x d bad step c) fl2M g).2.2.2.2.2 = g.2.2.2.2 ∧ (loopF (fl2F x d bad step c) fl2M g).2.1 = g.1 ∧ (loopF (fl2F x d bad step c) fl2M g).2.2.1 = (g.1.drop g.2.2.1.toNat).foldl (step g.1) g.2.1 ∧ ok g.1 (loopF (fl2F x d bad step c) fl2M g).2.2.1 g.1.length ∧ (g.1.drop g.2.2.1.toNat).any (bad g.1) = false)) := by
  refine loopF_induct (fl2_goes x d bad step c ok hok) (Q := fun g r => ((r.1 = .ret ∧ r.2.2.2.2.2 = c ∧ (g.1.drop g.2.2.1.toNat).any (bad g.1) = true) ∨
     (r.1 = .exit x ∧ r.2.2.2.2.2 = g.2.2.2.2 ∧ r.2.1 = g.1 ∧ r.2.2.1 = (g.1.drop g.2.2.1.toNat).foldl (step g.1) g.2.1 ∧ ok g.1 r.2.2.1 g.1.length ∧ (g.1.drop g.2.2.1.toNat).any (bad g.1) = false))) ?_ ?_
  · rintro ⟨ys, b, i, ⟨⟩, e⟩ hi hn
    obtain ⟨h2, h3, h4, h5⟩ := hi _ (List.mem_cons_self ..)
    simp only at h2 h3 h4 h5
    unfold fl2F at hn ⊢
    simp only at hn ⊢
    by_cases hlt : i < (ys.length : Int)
    · simp only [hlt, decide_true, cond_true] at hn ⊢
      have hlt' : i.toNat < ys.length := by omega
      cases hp : bad ys (ys.getD i.toNat d) with
      | true =>
        left
        simp only [cond_true]
        refine ⟨trivial, trivial, ?_⟩
        rw [drop_at d hlt', List.any_cons, hp]; rfl
      | false => rw [hp] at hn; exact absurd rfl hn
    · right
      simp only [hlt, decide_false, cond_false]
      have e1 : i.toNat = ys.length := by omega
      refine ⟨trivial, trivial, trivial, ?_, ?_, ?_⟩
      · rw [List.drop_eq_nil_of_le (by omega)]; rfl
      · rw [← e1]; exact h5
      · rw [List.drop_eq_nil_of_le (by omega)]; rfl
  · rintro ⟨ys, b, i, ⟨⟩, e⟩ g' r hi he hi' _ hq
    obtain ⟨h2, h3, h4, h5⟩ := hi _ (List.mem_cons_self ..)
    simp only at h2 h3 h4 h5
    unfold maxLen at h2
    unfold fl2F at he
    simp only at he
    by_cases hlt : i < (ys.length : Int)
    · simp only [hlt, decide_true, cond_true] at he
      have hlt' : i.toNat < ys.length := by omega
      cases hp : bad ys (ys.getD i.toNat d) with
      | true => rw [hp] at he; cases he
      | false =>
        rw [hp] at he
        simp only [cond_false, Prod.mk.injEq, true_and] at he
        subst he
        simp only at hq ⊢
        rw [wr (by omega)] at hq
        rw [drop_at d hlt', List.any_cons, hp, Bool.false_or, List.foldl_cons]
        have : (i + 1).toNat = i.toNat + 1 := by omega
        rw [this] at hq
        exact hq
    · simp only [hlt, decide_false, cond_false] at he
      cases he
end
theorem foldl_pick (p : α → Bool) : ∀ (xs out : List α), xs.foldl (fun o x => bif p x then o ++ [x] else o) out = out ++ xs.filter p
  | [], out => by simp
  | x :: xs, out => by
    rw [List.foldl_cons, foldl_pick p xs, List.filter_cons]
    cases p x <;> simp
/-! ### all are asked: 'for range xs { if p(x) { ok = false } }' -/
abbrev AnG (α σ : Type) := List α × σ × Int × Bool
variable {σ : Type}
def anF (x : Nat) (d : α) (p : List α → σ → α → Bool) (g : AnG α σ) : Ex × AnG α σ :=
  bif decide (g.2.2.1 < (g.1.length : Int)) then (.normal, g.1, g.2.1, w64 (g.2.2.1 + 1), bif p g.1 g.2.1 (g.1.getD g.2.2.1.toNat d) then false else g.2.2.2)
  else (.exit x, g)
def anI (ok : List α → σ → Prop) (g : AnG α σ) : List Prop := [g.1.length ≤ maxLen ∧ 0 ≤ g.2.2.1 ∧ g.2.2.1 ≤ (g.1.length : Int) ∧ ok g.1 g.2.1]
def anM (g : AnG α σ) : Nat := ((g.1.length : Int) - g.2.2.1).toNat
theorem an_goes (x : Nat) (d : α) (p : List α → σ → α → Bool) (ok : List α → σ → Prop) : Goes (anF x d p) anM fun g => allP (anI ok g) := by
  rintro ⟨xs, s, i, b⟩ hi hn
  obtain ⟨h2, h3, h4, h5⟩ := hi _ (List.mem_cons_self ..)
  simp only at h2 h3 h4 h5
  have h2' := h2
  unfold maxLen at h2
  unfold anF at hn ⊢
  simp only at hn ⊢
  by_cases hlt : i < (xs.length : Int)
  · simp only [hlt, decide_true, cond_true]
    rw [wr (by omega)]
    refine ⟨fun q hq => ?_, ?_⟩
    · simp only [anI, List.mem_singleton] at hq
      subst hq
      exact ⟨h2', by show (0 : Int) ≤ i + 1; omega, by show i + 1 ≤ (xs.length : Int); omega, h5⟩
    · simp only [anM]; omega
  · simp only [hlt, decide_false, cond_false] at hn
    cases hn
theorem an_run (x : Nat) (d : α) (p : List α → σ → α → Bool) (ok : List α → σ → Prop) : ∀ g : AnG α σ, allP (anI ok g) →
    (loopF (anF x d p) anM g).1 = .exit x ∧ (loopF (anF x d p) anM g).2.1 = g.1 ∧ (loopF (anF x d p) anM g).2.2.1 = g.2.1 ∧ (loopF (anF x d p) anM g).2.2.2.2 = (g.2.2.2 && !(g.1.drop g.2.2.1.toNat).any (p g.1 g.2.1)) := by
  refine loopF_induct (an_goes x d p ok) (Q := fun g r => r.1 = .exit x ∧ r.2.1 = g.1 ∧ r.2.2.1 = g.2.1 ∧ r.2.2.2.2 = (g.2.2.2 && !(g.1.drop g.2.2.1.toNat).any (p g.1 g.2.1))) ?_ ?_
  · rintro ⟨xs, s, i, b⟩ hi hn
    obtain ⟨h2, h3, h4, h5⟩ := hi _ (List.mem_cons_self ..)
    simp only at h2 h3 h4 h5
    unfold anF at hn ⊢
    simp only at hn ⊢
    by_cases hlt : i < (xs.length : Int)
    · simp only [hlt, decide_true, cond_true] at hn
      exact absurd rfl hn
    · simp only [hlt, decide_false, cond_false]
      refine ⟨trivial, trivial, trivial, ?_⟩
      rw [List.drop_eq_nil_of_le (by omega)]; simp
  · rintro ⟨xs, s, i, b⟩ g' r hi he hi' _ hq
    obtain ⟨h2, h3, h4, h5⟩ := hi _ (List.mem_cons_self ..)
    simp only at h2 h3 h4 h5
    unfold maxLen at h2
    unfold anF at he
    simp only at he
    by_cases hlt : i < (xs.length : Int)
    · simp only [hlt, decide_true, cond_true, Prod.mk.injEq, true_and] at he
      subst he
      have hlt' : i.toNat < xs.length := by omega
      simp only at hq ⊢
      rw [wr (by omega)] at hq
      have : (i + 1).toNat = i.toNat + 1 := by omega
      rw [this] at hq
      rw [drop_at d hlt', List.any_cons]
      refine ⟨hq.1, hq.2.1, hq.2.2.1, ?_⟩
      rw [hq.2.2.2]
      cases p xs s (xs.getD i.toNat d) <;> simp
    · simp only [hlt, decide_false, cond_false] at he
      cases he
end
end Go.Lp

/- The loop that puts one into a list that is in order, once: a plain law. -/
namespace Go.Lp
open Go.Sx
section
variable {α : Type} [DecidableEq α]
def insG (cf : α → α → Int) (s : α) : Bool → List α → List α
  | b, [] => bif b then [] else [s]
  | b, y :: r => bif b || decide (y = s) then y :: insG cf s true r else bif decide (cf s y < 0) then s :: y :: insG cf s true r else y :: insG cf s false r
theorem insG_true (cf : α → α → Int) (s : α) : ∀ l : List α, insG cf s true l = l
  | [] => rfl
  | y :: r => by simp [insG, insG_true cf s r]
theorem insG_false (cf : α → α → Int) (s : α) : ∀ l : List α, insG cf s false l = insU cf s l
  | [] => rfl
  | y :: r => by
    simp only [insG, insU, insG_true, insG_false cf s r, Bool.false_or]
    by_cases h : y = s
    · simp [h]
    · by_cases h2 : cf s y < 0 <;> simp [h, h2]
abbrev IsG (α : Type) := List α × Unit × α × List α × Bool × Int
def isF (x : Nat) (d : α) (cf : α → α → Int) (g : IsG α) : Ex × IsG α :=
  bif decide (g.2.2.2.2.2 < (g.1.length : Int)) then
    bif !(bif decide (g.1.getD g.2.2.2.2.2.toNat d = g.2.2.1) then true else g.2.2.2.2.1) && decide (cf g.2.2.1 (g.1.getD g.2.2.2.2.2.toNat d) < 0) then
      (.normal, g.1, (), g.2.2.1, (g.2.2.2.1 ++ [g.2.2.1]) ++ [g.1.getD g.2.2.2.2.2.toNat d], true, w64 (g.2.2.2.2.2 + 1))
    else (.normal, g.1, (), g.2.2.1, g.2.2.2.1 ++ [g.1.getD g.2.2.2.2.2.toNat d], (bif decide (g.1.getD g.2.2.2.2.2.toNat d = g.2.2.1) then true else g.2.2.2.2.1), w64 (g.2.2.2.2.2 + 1))
  else (.exit x, g)
def isI (K : Nat) (g : IsG α) : List Prop := [g.1.length ≤ K ∧ 0 ≤ g.2.2.2.2.2 ∧ g.2.2.2.2.2 ≤ (g.1.length : Int) ∧ (g.2.2.2.1.length : Int) ≤ g.2.2.2.2.2 + (bif g.2.2.2.2.1 then 1 else 0)]
def isM (g : IsG α) : Nat := ((g.1.length : Int) - g.2.2.2.2.2).toNat
theorem is_goes (x : Nat) (d : α) (cf : α → α → Int) {K : Nat} (hK : K ≤ 9223372036854775807) : Goes (isF x d cf) isM fun g => allP (isI K g) := by
  rintro ⟨xs, ⟨⟩, s, out, b, i⟩ hi hn
  obtain ⟨h2, h3, h4, h5⟩ := hi _ (List.mem_cons_self ..)
  simp only at h2 h3 h4 h5
  unfold isF at hn ⊢
  simp only at hn ⊢
  by_cases hlt : i < (xs.length : Int)
  · simp only [hlt, decide_true, cond_true] at hn ⊢
    rw [wr (n := i + 1) (by omega)]
    generalize hc1 : decide (xs.getD i.toNat d = s) = c1
    generalize decide (cf s (xs.getD i.toNat d) < 0) = c2
    have hb : (out.length : Int) ≤ i + 1 := by cases b <;> simp only [cond_true, cond_false] at h5 <;> omega
    cases b <;> cases c1 <;> cases c2 <;> simp only [cond_true, cond_false, Bool.not_true, Bool.not_false, Bool.true_and, Bool.false_and, Bool.and_false] at h5 ⊢ <;>
      (refine ⟨fun q hq => ?_, ?_⟩
       · simp only [isI, List.mem_singleton] at hq
         subst hq
         refine ⟨h2, by show (0 : Int) ≤ i + 1; omega, by show i + 1 ≤ (xs.length : Int); omega, ?_⟩
         simp only [List.length_append, List.length_cons, List.length_nil, cond_true, cond_false]
         omega
       · simp only [isM]; omega)
  · simp only [hlt, decide_false, cond_false] at hn
    cases hn
theorem is_run (x : Nat) (d : α) (cf : α → α → Int) {K : Nat} (hK : K ≤ 9223372036854775807) : ∀ g : IsG α, allP (isI K g) →
    (loopF (isF x d cf) isM g).1 = .exit x ∧ (loopF (isF x d cf) isM g).2.1 = g.1 ∧ (loopF (isF x d cf) isM g).2.2.2.1 = g.2.2.1 ∧
      (loopF (isF x d cf) isM g).2.2.2.2.1 ++ (bif (loopF (isF x d cf) isM g).2.2.2.2.2.1 then [] else [g.2.2.1]) = g.2.2.2.1 ++ insG cf g.2.2.1 g.2.2.2.2.1 (g.1.drop g.2.2.2.2.2.toNat) ∧
      (loopF (isF x d cf) isM g).2.2.2.2.1.length ≤ g.1.length + 1 := by
  refine loopF_induct (is_goes x d cf hK) (Q := fun g r => r.1 = .exit x ∧ r.2.1 = g.1 ∧ r.2.2.2.1 = g.2.2.1 ∧
      r.2.2.2.2.1 ++ (bif r.2.2.2.2.2.1 then [] else [g.2.2.1]) = g.2.2.2.1 ++ insG cf g.2.2.1 g.2.2.2.2.1 (g.1.drop g.2.2.2.2.2.toNat) ∧ r.2.2.2.2.1.length ≤ g.1.length + 1) ?_ ?_
  · rintro ⟨xs, ⟨⟩, s, out, b, i⟩ hi hn
    obtain ⟨h2, h3, h4, h5⟩ := hi _ (List.mem_cons_self ..)
    simp only at h2 h3 h4 h5
    unfold isF at hn ⊢
    simp only at hn ⊢
    by_cases hlt : i < (xs.length : Int)
    · simp only [hlt, decide_true, cond_true] at hn
      exfalso
      revert hn
      generalize (!(bif decide (xs.getD i.toNat d = s) then true else b) && decide (cf s (xs.getD i.toNat d) < 0)) = c
      cases c <;> exact fun hn => absurd rfl hn
    · simp only [hlt, decide_false, cond_false]
      refine ⟨trivial, trivial, trivial, ?_, ?_⟩
      · rw [List.drop_eq_nil_of_le (by omega)]
        cases b <;> simp [insG]
      · cases b <;> simp only [cond_true, cond_false] at h5 <;> omega
  · rintro ⟨xs, ⟨⟩, s, out, b, i⟩ g' r hi he hi' _ hq
    obtain ⟨h2, h3, h4, h5⟩ := hi _ (List.mem_cons_self ..)
    simp only at h2 h3 h4 h5
    unfold isF at he
    simp only at he
    by_cases hlt : i < (xs.length : Int)
    · have hlt' : i.toNat < xs.length := by omega
      simp only [hlt, decide_true, cond_true] at he
      have e1 : (i + 1).toNat = i.toNat + 1 := by omega
      rw [wr (n := i + 1) (by omega)] at he
      rw [drop_at d hlt']
      simp only
      generalize hy : xs.getD i.toNat d = y at he ⊢
      simp only [insG]
      generalize decide (y = s) = c1 at he ⊢
      generalize decide (cf s y < 0) = c2 at he ⊢
      cases b <;> cases c1 <;> cases c2 <;> simp only [cond_true, cond_false, Bool.not_true, Bool.not_false, Bool.true_and, Bool.false_and, Bool.and_false, Bool.true_or, Bool.false_or, Bool.or_true, Prod.mk.injEq, true_and] at he ⊢ <;>
        (subst he
         simp only [e1] at hq
         obtain ⟨q1, q2, q3, q4, q5⟩ := hq
         refine ⟨q1, q2, q3, ?_, q5⟩
         rw [q4]
         simp)
    · simp only [hlt, decide_false, cond_false] at he
      cases he
end
end Go.Lp

/- Chapter 2: Least and the document's Least: contracts of the loops. -/
namespace Go.Proofs.Ytapmlfklkfgmoaa
open Go.RowKit Go.Sx Go.Lp
theorem bytesS (h : 24 < Try.prog.types.size) : (Try.prog.types[24]'h).bytes = 64 := by kernel_rfl
theorem app1 (out : List S) (y : S) : eS.lst (min (out.length + 1) out.length) (eS.els out) ++ List.map (fun _ => y) (List.range (out.length + 1 - out.length)) = out ++ [y] := by
  rw [Nat.min_eq_right (Nat.le_succ _), eS.lst_els, Nat.add_sub_cancel_left]; rfl
theorem app2 (out : List S) (s y : S) : eS.lst (min (min (out.length + 1 + 1) (out.length + 1)) out.length) (eS.els out) ++ List.map (fun _ => s) (List.range (min (out.length + 1 + 1) (out.length + 1) - out.length)) ++ List.map (fun _ => y) (List.range (out.length + 1 + 1 - (out.length + 1))) = (out ++ [s]) ++ [y] := by
  rw [Nat.min_eq_right (Nat.le_succ (out.length + 1)), Nat.min_eq_right (Nat.le_succ _), eS.lst_els, Nat.add_sub_cancel_left, Nat.add_sub_cancel_left]; rfl
abbrev mayN (a : S) : Bool := !may_F a
theorem la_RF (g : la_G) : la_R g.1 g.2.1 g.2.2.1 g.2.2.2.1 g.2.2.2.2 = erF 0 eS.dflt mayN 20 g := by
  obtain ⟨xs, n, i, ⟨⟩, e⟩ := g
  show la_R xs n i () e = erF 0 eS.dflt mayN 20 (xs, n, i, (), e)
  unfold la_R
  rw [eS.lst_els]
  rfl
theorem la_ok : ∀ b ∈ loopsOf Try.prog 37, lkey b = 2 → LoopOk Try.prog b (la_C erI erM).g := by
  refine la_loop erI erM (fun g hi => ?_) ?_
  · obtain ⟨xs, n, i, ⟨⟩, e⟩ := g
    obtain ⟨h1, h2, h3, h4⟩ := hi _ (List.mem_cons_self ..)
    simp only at h1 h2 h3 h4
    refine ⟨fun hc => ?_, fun _ => ok_all xs⟩
    have hc : i < n := of_decide_eq_true hc
    exact ⟨⟨h3, by simp only; omega⟩, fun _ => ok_all xs, fun _ => ok_all xs⟩
  · rw [show (fun g : la_G => la_R g.1 g.2.1 g.2.2.1 g.2.2.2.1 g.2.2.2.2) = erF 0 eS.dflt mayN 20 from funext la_RF]
    exact er_goes _ _ _ _
abbrev badS (xs : List S) (y : S) : Bool := y.f != (xs.getD 0 eS.dflt).f || ends_F y != ends_F (xs.getD 0 eS.dflt)
abbrev stepS (xs : List S) (out : List S) (y : S) : List S := bif !(xs.any fun x => less_F x y) then out ++ [y] else out
theorem lb_RF (g : lb_G) : lb_R g.1 g.2.1 g.2.2.1 g.2.2.2.1 g.2.2.2.2.1 g.2.2.2.2.2.1 g.2.2.2.2.2.2 = flF 2 eS.dflt badS stepS 11 g := by
  obtain ⟨xs, out, ys, n, i, ⟨⟩, e⟩ := g
  show lb_R xs out ys n i () e = flF 2 eS.dflt badS stepS 11 (xs, out, ys, n, i, (), e)
  unfold lb_R flF stepS
  simp only [app1, eS.lst_els]
  generalize (!xs.any fun x => less_F x (ys.getD i.toNat eS.dflt)) = c
  cases c <;> rfl
/-- So many have come at most. -/
def okLen (K : Nat) (xs : List S) (out : List S) (i : Nat) : Prop := xs.length ≤ K ∧ out.length ≤ i
theorem okLen_step (K : Nat) : ∀ xs out i, i < xs.length → okLen K xs out i → okLen K xs (stepS xs out (xs.getD i eS.dflt)) (i + 1) := by
  rintro xs out i _ ⟨h1, h2⟩
  refine ⟨h1, ?_⟩
  unfold stepS
  generalize (!xs.any fun x => less_F x (xs.getD i eS.dflt)) = c
  cases c <;> simp <;> omega
def KS : Nat := 1000000
theorem lb_ok : ∀ b ∈ loopsOf Try.prog 37, lkey b = 9 → LoopOk Try.prog b (lb_C (flI (okLen KS)) flM).g := by
  refine lb_loop (flI (okLen KS)) flM (fun g hi => ?_) ?_
  · obtain ⟨xs, out, ys, n, i, ⟨⟩, e⟩ := g
    obtain ⟨h1, h0, h2, h3, h4, h5, h6⟩ := hi _ (List.mem_cons_self ..)
    simp only at h1 h0 h2 h3 h4 h5 h6
    subst h0
    unfold KS at h5
    show lb_side ys out ys n i () e
    unfold lb_side
    simp only [bytesS]
    refine ⟨fun hc => ?_, fun _ => ⟨ok_all ys, Nat.le_refl _, fun _ _ => trivial, ok_all ys⟩⟩
    have hc : i < n := of_decide_eq_true hc
    refine ⟨⟨h3, by omega⟩, ⟨by omega, by omega⟩, fun _ => ⟨by omega, by omega⟩, fun _ => ⟨ok_all ys, Nat.le_refl _, fun _ _ => trivial, ok_all ys⟩, fun _ => ⟨ok_all ys, fun _ => ⟨⟨Nat.le_refl _, trivial, by unfold maxLen; omega, by omega⟩, ok_all ys, Nat.le_refl _, fun _ _ => trivial, fun _ _ => trivial, ok_all ys⟩, fun _ => ⟨ok_all ys, Nat.le_refl _, fun _ _ => trivial, ok_all ys⟩⟩⟩
  · rw [show (fun g : lb_G => lb_R g.1 g.2.1 g.2.2.1 g.2.2.2.1 g.2.2.2.2.1 g.2.2.2.2.2.1 g.2.2.2.2.2.2) = flF 2 eS.dflt badS stepS 11 from funext lb_RF]
    exact fl_goes _ _ _ _ _ _ (okLen_step KS)
theorem rla_RF (g : rla_G) : rla_R g.1 g.2.1 g.2.2.1 g.2.2.2 = er2F 0 eS.dflt (fun a => rcheck_F a != 0) 20 g := by
  obtain ⟨xs, i, ⟨⟩, e⟩ := g
  show rla_R xs i () e = er2F 0 eS.dflt (fun a => rcheck_F a != 0) 20 (xs, i, (), e)
  unfold rla_R
  rw [eS.lst_els]
  rfl
theorem rla_ok : ∀ b ∈ loopsOf Try.prog 38, lkey b = 2 → LoopOk Try.prog b (rla_C er2I er2M).g := by
  refine rla_loop er2I er2M (fun g hi => ?_) ?_
  · obtain ⟨xs, i, ⟨⟩, e⟩ := g
    obtain ⟨h2, h3, h4⟩ := hi _ (List.mem_cons_self ..)
    simp only at h2 h3 h4
    refine ⟨fun hc => ?_, fun _ => ok_all xs⟩
    have hc : i < (xs.length : Int) := of_decide_eq_true hc
    exact ⟨⟨h3, by simp only; omega⟩, fun _ => ok_all xs, fun _ => ok_all xs⟩
  · rw [show (fun g : rla_G => rla_R g.1 g.2.1 g.2.2.1 g.2.2.2) = er2F 0 eS.dflt (fun a => rcheck_F a != 0) 20 from funext rla_RF]
    exact er2_goes _ _ _ _
theorem rin_RF (g : rin_G) : rin_R g.1 g.2.1 g.2.2.1 g.2.2.2.1 g.2.2.2.2.1 g.2.2.2.2.2 = isF 0 eS.dflt (fun a b => rcompare_F a b) g := by
  obtain ⟨xs, ⟨⟩, s, out, b, i⟩ := g
  show rin_R xs () s out b i = isF 0 eS.dflt (fun a b => rcompare_F a b) (xs, (), s, out, b, i)
  unfold rin_R isF
  simp only [app1, app2, eS.lst_els, conj_S, eqS]
  generalize decide (xs.getD i.toNat eS.dflt = s) = c
  cases c <;> rfl
theorem rin_ok : ∀ b ∈ loopsOf Try.prog 58, lkey b = 4 → LoopOk Try.prog b (rin_C (isI KS) isM).g := by
  refine rin_loop (isI KS) isM (fun g hi => ?_) ?_
  · obtain ⟨xs, ⟨⟩, s, out, b, i⟩ := g
    obtain ⟨h2, h3, h4, h5⟩ := hi _ (List.mem_cons_self ..)
    simp only at h2 h3 h4 h5
    unfold KS at h2
    have h6 : out.length ≤ 1000002 := by cases b <;> simp only [cond_true, cond_false] at h5 <;> omega
    show rin_side xs () s out b i
    unfold rin_side
    simp only [bytesS]
    have ha := ok_all xs
    refine ⟨fun hc => ?_, fun _ => ?_⟩
    · have hc : i < (xs.length : Int) := of_decide_eq_true hc
      repeat' (first | apply And.intro | exact ha | (intro h; skip))
      all_goals (first | trivial | omega | (unfold maxLen; omega))
    · repeat' (first | apply And.intro | exact ha | (intro h; skip))
      all_goals (first | trivial | omega)
  · rw [show (fun g : rin_G => rin_R g.1 g.2.1 g.2.2.1 g.2.2.2.1 g.2.2.2.2.1 g.2.2.2.2.2) = isF 0 eS.dflt (fun a b => rcompare_F a b) from funext rin_RF]
    exact is_goes _ _ _ (by unfold KS; omega)
noncomputable def lt27 : LTab Try.prog := (((LTab.nil.cons 37 2 (la_C erI erM) la_ok).cons 37 9 (lb_C (flI (okLen KS)) flM) lb_ok).cons 38 2 (rla_C er2I er2M) rla_ok).cons 58 4 (rin_C (isI KS) isM) rin_ok
noncomputable abbrev lam27 : Lam := lt27.lam
theorem lam27_ok : ∀ f k L, lam27 f k = some L → ∀ b ∈ loopsOf Try.prog f, lkey b = k → LoopOk Try.prog b L.g := lt27.ok
end Go.Proofs.Ytapmlfklkfgmoaa

/- Chapter 2: Least; the document's insert. Printed by treegen.py. -/
namespace Go.Proofs.Ytapmlfklkfgmoaa
open Go.RowKit Go.Sx
set_option maxRecDepth 100000
set_option linter.unusedVariables false
abbrev aL1 : DA (List S) := .one dLS
abbrev aLS1 : DA (List S × S) := .cons dLS (.one dS)
abbrev rL : Rv (List S) := .list eS
abbrev rLE : Rv (List S × Int) := .tup (.cons (.list eS) (.one (.of dI)))
noncomputable def rins_q1 (xs : List S) (s : S) : Ex ×
  rin_G :=
  loopF
    (fun g => rin_R g.fst g.snd.fst g.snd.snd.fst g.snd.snd.snd.fst g.snd.snd.snd.snd.fst g.snd.snd.snd.snd.snd) Lp.isM
    (eS.lst xs.length (eS.els xs), (), s, [], false, (0 : Int))
noncomputable def rins_F (xs : List S) (s : S) : Rv.T rL :=
  bif !(rins_q1 xs s).snd.snd.snd.snd.snd.fst then
    eS.lst (min ((rins_q1 xs s).snd.snd.snd.snd.fst.length + (1 : Nat)) (rins_q1 xs s).snd.snd.snd.snd.fst.length)
        (eS.els (rins_q1 xs s).snd.snd.snd.snd.fst) ++
      List.map (fun x => (rins_q1 xs s).snd.snd.snd.fst)
        (List.range ((rins_q1 xs s).snd.snd.snd.snd.fst.length + (1 : Nat) - (rins_q1 xs s).snd.snd.snd.snd.fst.length))
  else eS.lst (rins_q1 xs s).snd.snd.snd.snd.fst.length (eS.els (rins_q1 xs s).snd.snd.snd.snd.fst)
def rins_side (xs : List S) (s : S) : Prop :=
  (∀ (e : Nat), e < (xs, s).fst.length → eS.Ok (eS.els xs e)) ∧
    ((eS.lst xs.length (eS.els xs)).length ≤ KS ∧
        (0 : Int) ≤ (0 : Int) ∧
          (0 : Int) ≤ (↑(eS.lst xs.length (eS.els xs)).length : Int) ∧
            (↑(0 : Nat) : Int) ≤ (0 : Int) + bif false then (1 : Int) else (0 : Int)) ∧
      ((!(rins_q1 xs s).snd.snd.snd.snd.snd.fst) = true →
          ((rins_q1 xs s).snd.snd.snd.snd.fst.length ≤ (rins_q1 xs s).snd.snd.snd.snd.fst.length ∧
              True ∧
                (rins_q1 xs s).snd.snd.snd.snd.fst.length + (1 : Nat) ≤ maxLen ∧
                  ((rins_q1 xs s).snd.snd.snd.snd.fst.length + (1 : Nat)) * Try.prog.types[(24 : Nat)].bytes ≤
                    (140737488355328 : Nat)) ∧
            (rins_q1 xs s).snd.snd.snd.snd.fst.length + (1 : Nat) ≤ (rins_q1 xs s).snd.snd.snd.snd.fst.length + (1 : Nat) ∧
              (∀ (e : Nat), e < min ((rins_q1 xs s).snd.snd.snd.snd.fst.length + (1 : Nat)) (rins_q1 xs s).snd.snd.snd.snd.fst.length → True) ∧
                ∀ (e : Nat), e < (rins_q1 xs s).snd.snd.snd.snd.fst.length + (1 : Nat) - (rins_q1 xs s).snd.snd.snd.snd.fst.length → True) ∧
        ((!(rins_q1 xs s).snd.snd.snd.snd.snd.fst) = false →
          (rins_q1 xs s).snd.snd.snd.snd.fst.length ≤ (rins_q1 xs s).snd.snd.snd.snd.fst.length ∧
            ∀ (e : Nat), e < (rins_q1 xs s).snd.snd.snd.snd.fst.length → True)
theorem rins_okS (pre : DA.T aLS1 → List Prop) (h : ∀ g, DA.bd aLS1 g → (∀ p ∈ pre g, p) → rins_side g.1 g.2) : FnPure Try.prog 58 aLS1 (Rv.D rL) (fun g => rins_F g.1 g.2) pre := res_of_side (R := rL) (Γ := (MTab.gamz tab26 [] [])) (Λ := lam27) (MTab.okz tab26 [] []) lam27_ok 100 default (fun g => rins_side g.1 g.2) (fun g => by kernel_rfl) (fun g => by kernel_rfl) h
noncomputable def least_q1 (xs : List S) : Ex ×
  la_G :=
  loopF (fun g => la_R g.fst g.snd.fst g.snd.snd.fst g.snd.snd.snd.fst g.snd.snd.snd.snd) Lp.erM
    (eS.lst xs.length (eS.els xs), (↑xs.length : Int), (0 : Int), (), (0 : Int))
noncomputable def least_q2 (xs : List S) : Ex ×
  lb_G :=
  loopF
    (fun g =>
      lb_R g.fst g.snd.fst g.snd.snd.fst g.snd.snd.snd.fst g.snd.snd.snd.snd.fst g.snd.snd.snd.snd.snd.fst
        g.snd.snd.snd.snd.snd.snd)
    Lp.flM
    (eS.lst xs.length (eS.els xs), [], eS.lst xs.length (eS.els xs), (↑xs.length : Int), (0 : Int), (),
      (least_q1 xs).snd.snd.snd.snd.snd)
noncomputable def least_F (xs : List S) : Rv.T rLE :=
  bif exB Ex.ret (least_q1 xs).fst then ([], (least_q1 xs).snd.snd.snd.snd.snd)
  else
    bif exB Ex.ret (least_q2 xs).fst then ([], (least_q2 xs).snd.snd.snd.snd.snd.snd.snd)
    else
      (eS.lst
          (Lp.compL
              (eS.lst (srtBy (fun a b => compare_F a b) (eS.lst (least_q2 xs).snd.snd.fst.length (eS.els (least_q2 xs).snd.snd.fst))).length
                (eS.els
                  (srtBy (fun a b => compare_F a b) (eS.lst (least_q2 xs).snd.snd.fst.length (eS.els (least_q2 xs).snd.snd.fst)))))).length
          (eS.els
            (Lp.compL
              (eS.lst (srtBy (fun a b => compare_F a b) (eS.lst (least_q2 xs).snd.snd.fst.length (eS.els (least_q2 xs).snd.snd.fst))).length
                (eS.els (srtBy (fun a b => compare_F a b) (eS.lst (least_q2 xs).snd.snd.fst.length (eS.els (least_q2 xs).snd.snd.fst))))))),
        (0 : Int))
def least_side (xs : List S) : Prop :=
  (∀ (e : Nat), e < xs.length → eS.Ok (eS.els xs e)) ∧
    ((↑xs.length : Int) = (↑(eS.lst xs.length (eS.els xs)).length : Int) ∧
        (eS.lst xs.length (eS.els xs)).length ≤ maxLen ∧
          (0 : Int) ≤ (0 : Int) ∧ (0 : Int) ≤ (↑(eS.lst xs.length (eS.els xs)).length : Int)) ∧
      (exB Ex.ret (least_q1 xs).fst = false →
        (∀ (e : Nat), e < xs.length → eS.Ok (eS.els xs e)) ∧
          (∀ (e : Nat), e < xs.length → eS.Ok (eS.els xs e)) ∧
            ((↑xs.length : Int) = (↑(eS.lst xs.length (eS.els xs)).length : Int) ∧
                eS.lst xs.length (eS.els xs) = eS.lst xs.length (eS.els xs) ∧
                  (eS.lst xs.length (eS.els xs)).length ≤ maxLen ∧
                    (0 : Int) ≤ (0 : Int) ∧
                      (0 : Int) ≤ (↑(eS.lst xs.length (eS.els xs)).length : Int) ∧
                        okLen KS (eS.lst xs.length (eS.els xs)) [] (0 : Nat)) ∧
              (exB Ex.ret (least_q2 xs).fst = false →
                (least_q2 xs).snd.snd.fst.length = (least_q2 xs).snd.snd.fst.length ∧
                  (∀ (e : Nat), e < (least_q2 xs).snd.snd.fst.length → True) ∧
                    (eS.lst (least_q2 xs).snd.snd.fst.length (eS.els (least_q2 xs).snd.snd.fst)).length < (4611686018427387904 : Nat) ∧
                      (least_q2 xs).snd.snd.fst.length =
                          (srtBy (fun a b => compare_F a b)
                              (eS.lst (least_q2 xs).snd.snd.fst.length (eS.els (least_q2 xs).snd.snd.fst))).length ∧
                        (∀ (e : Nat),
                            e <
                                (srtBy (fun a b => compare_F a b)
                                    (eS.lst (least_q2 xs).snd.snd.fst.length (eS.els (least_q2 xs).snd.snd.fst))).length →
                              True) ∧
                          (Lp.compL
                                  (eS.lst
                                    (srtBy (fun a b => compare_F a b)
                                        (eS.lst (least_q2 xs).snd.snd.fst.length (eS.els (least_q2 xs).snd.snd.fst))).length
                                    (eS.els
                                      (srtBy (fun a b => compare_F a b)
                                        (eS.lst (least_q2 xs).snd.snd.fst.length (eS.els (least_q2 xs).snd.snd.fst)))))).length ≤
                              (Lp.compL
                                  (eS.lst
                                    (srtBy (fun a b => compare_F a b)
                                        (eS.lst (least_q2 xs).snd.snd.fst.length (eS.els (least_q2 xs).snd.snd.fst))).length
                                    (eS.els
                                      (srtBy (fun a b => compare_F a b)
                                        (eS.lst (least_q2 xs).snd.snd.fst.length (eS.els (least_q2 xs).snd.snd.fst)))))).length ∧
                            ∀ (e : Nat),
                              e <
                                  (Lp.compL
                                      (eS.lst
                                        (srtBy (fun a b => compare_F a b)
                                            (eS.lst (least_q2 xs).snd.snd.fst.length (eS.els (least_q2 xs).snd.snd.fst))).length
                                        (eS.els
                                          (srtBy (fun a b => compare_F a b)
                                            (eS.lst (least_q2 xs).snd.snd.fst.length (eS.els (least_q2 xs).snd.snd.fst)))))).length →
                                True))
theorem least_okS (pre : DA.T aL1 → List Prop) (h : ∀ g, DA.bd aL1 g → (∀ p ∈ pre g, p) → least_side g) : FnPure Try.prog 37 aL1 (Rv.D rLE) (fun g => least_F g) pre := res_of_side (R := rLE) (Γ := (MTab.gamz tab26 [] [])) (Λ := lam27) (MTab.okz tab26 [] []) lam27_ok 100 default (fun g => least_side g) (fun g => by kernel_rfl) (fun g => by kernel_rfl) h
noncomputable def tab29 : MTab Try.prog := tab26
end Go.Proofs.Ytapmlfklkfgmoaa

/- Chapter 2: the document's Least, the loop that asks all. Printed by treegen.py. -/
namespace Go.Proofs.Ytapmlfklkfgmoaa
open Go.RowKit Go.Sx
set_option maxRecDepth 100000
set_option linter.unusedVariables false
abbrev ran_G : Type := List S × Int × Int × Bool
def ran_LP : LP 0 ran_G := .pair (.slot 0 0 dLS) (.pair (.slot 0 6 dI) (.pair (.slot 0 8 dI) (.slot 0 7 dBool)))
noncomputable def ran_R (xs : List S) (j : Int) (i : Int) (b : Bool) : Ex × ran_G :=
  bif decide (i < (↑xs.length : Int)) then
    (Ex.normal, eS.lst xs.length (eS.els xs), j, IntKind.i64.wrap (i + (1 : Int)),
      !under_F (xs.getD i.toNat eS.dflt) (xs.getD j.toNat eS.dflt) && b)
  else (Ex.exit (4 : Nat), eS.lst xs.length (eS.els xs), j, i, b)
def ran_side (xs : List S) (j : Int) (i : Int) (b : Bool) : Prop :=
  (decide (i < (↑xs.length : Int)) = true →
      ((0 : Int) ≤ i ∧ i < (↑xs.length : Int)) ∧
        ((0 : Int) ≤ j ∧ j < (↑xs.length : Int)) ∧ ∀ (e : Nat), e < (xs, j, i, b).fst.length → eS.Ok (eS.els xs e)) ∧
    (decide (i < (↑xs.length : Int)) = false → ∀ (e : Nat), e < (xs, j, i, b).fst.length → eS.Ok (eS.els xs e))
theorem ran_one : ((loopsOf Try.prog 38).filter fun c => Nat.beq (lkey c) 14).length = 1 := by kernel_rfl
theorem ran_es (g : ran_G) : (ran_R g.1 g.2.1 g.2.2.1 g.2.2.2).1 = .normal ∨ (ran_R g.1 g.2.1 g.2.2.1 g.2.2.2).1 ∈ ([.exit 4] : List Ex) := by
  unfold ran_R
  repeat' (first | (left; rfl) | (right; simp only [cond_true, cond_false]; simp; done) | (rw [Bool.cond_eq_ite]; split))
noncomputable abbrev ran_C (Inv : ran_G → List Prop) (m : ran_G → Nat) : LCon := loopR [.exit 4] (loopBody Try.prog 38 14) ran_LP [] 83 Inv (fun g => ran_R g.1 g.2.1 g.2.2.1 g.2.2.2) m
theorem ran_loop (Inv : ran_G → List Prop) (m : ran_G → Nat) (hs : ∀ g, allP (Inv g) → ran_side g.1 g.2.1 g.2.2.1 g.2.2.2) (hg : Goes (fun g : ran_G => ran_R g.1 g.2.1 g.2.2.1 g.2.2.2) m fun g => allP (Inv g)) : ∀ b ∈ loopsOf Try.prog 38, lkey b = 14 → LoopOk Try.prog b (ran_C Inv m).g := loop_run (Γ := (MTab.gamz tab26 [] [])) (Λ := noΛ) (MTab.okz tab26 [] []) noΛ_ok 100 38 14 83 ran_LP [] Inv (fun g => ran_R g.1 g.2.1 g.2.2.1 g.2.2.2) (fun g => ran_side g.1 g.2.1 g.2.2.1 g.2.2.2) m default [.exit 4] ran_one (fun rd T B HL HB ds g => by kernel_rfl) (fun rd T B HL HB ds g => by kernel_rfl) hs hg ran_es
noncomputable def tab30 : MTab Try.prog := tab26
end Go.Proofs.Ytapmlfklkfgmoaa
