/- Contracts of loops: what a loop carries from round to round, as plain data. -/
import Derived.Test.YtapmlfklkfgmoaaZSxPure
set_option linter.unusedVariables false
namespace Go.Sx
open Go.RowKit

/-! ### what lies low stays -/
mutual
theorem fit_low {N n N' : Nat} {ρ0 ρ ρ' : Rh} (hN : N ≤ N') (ha : Agree N ρ ρ') : ∀ (s : SV) (x0 x : Value), SV.fit N ρ0 s x0 → SV.fit n ρ s x → SV.fit N' ρ' s x
  | .k _, _, _, _, h => h
  | .v _, _, _, _, h => h
  | .p i o, x0, x, h0, h => by simp only [SV.fit] at h0 h ⊢; exact ⟨by omega, by rw [ha.1 i h0.1]; exact h.2⟩
  | .pe i sz e o, x0, x, h0, h => by simp only [SV.fit] at h0 h ⊢; exact ⟨by omega, by rw [ha.1 i h0.1]; exact h.2⟩
  | .sl i o l c, x0, x, h0, h => by simp only [SV.fit] at h0 h ⊢; exact ⟨by omega, by rw [ha.1 i h0.1]; exact h.2⟩
  | .se i sz o l, x0, x, h0, h => by simp only [SV.fit] at h0 h ⊢; exact ⟨by omega, by rw [ha.1 i h0.1]; exact h.2⟩
  | .ow i l, x0, x, h0, h => by simp only [SV.fit] at h0 h ⊢; exact ⟨by omega, by rw [ha.1 i h0.1]; exact h.2⟩
  | .yl i, x0, x, h0, h => by simp only [SV.fit] at h0 h ⊢; exact ⟨by omega, by rw [ha.1 i h0.1]; exact h.2⟩
  | .mp i, x0, x, h0, h => by simp only [SV.fit] at h0 h ⊢; exact ⟨by omega, by rw [ha.1 i h0.1]; exact h.2⟩
  | .rs sz l el, x0, x, h0, h => by
    simp only [SV.fit] at h0 h ⊢
    obtain ⟨a, c, h1, h2, h3, h4⟩ := h
    obtain ⟨_, _, _, _, _, k4⟩ := h0
    refine ⟨a, c, h1, h2, h3, fun hl => ?_⟩
    obtain ⟨b, o, cs, t, fz, q1, q2, q3⟩ := h4 hl
    obtain ⟨_, _, _, _, _, _, _, r3⟩ := k4 hl
    refine ⟨b, o, cs, t, fz, q1, ha.2.1 _ _ q2, fun e he => ?_⟩
    obtain ⟨vs, u1, u2, u3⟩ := q3 e he
    obtain ⟨vs0, _, u20, _⟩ := r3 e he
    exact ⟨vs, u1, fits_low hN ha (el e) vs0 vs u20 u2, u3⟩
  | .pr xs, x0, x, h0, h => by
    simp only [SV.fit] at h0 h ⊢
    obtain ⟨b, o, cs, t, fz, q1, q2, vs, q3, q4⟩ := h
    obtain ⟨_, _, _, _, _, _, _, vs0, r3, _⟩ := h0
    exact ⟨b, o, cs, t, fz, q1, ha.2.1 _ _ q2, vs, fits_low hN ha xs vs0 vs r3 q3, q4⟩
  | .fn f cs, x0, x, h0, h => by
    simp only [SV.fit] at h0 h ⊢
    obtain ⟨l, hx, hl⟩ := h
    obtain ⟨l0, _, hl0⟩ := h0
    exact ⟨l, hx, fits_low hN ha cs l0 l hl0 hl⟩
  | .agg cs, x0, x, h0, h => by
    simp only [SV.fit] at h0 h ⊢
    obtain ⟨l, hx, hl⟩ := h
    obtain ⟨l0, _, hl0⟩ := h0
    exact ⟨l, hx, fits_low hN ha cs l0 l hl0 hl⟩
  | .tup cs, x0, x, h0, h => by
    simp only [SV.fit] at h0 h ⊢
    obtain ⟨l, hx, hl⟩ := h
    obtain ⟨l0, _, hl0⟩ := h0
    exact ⟨l, hx, fits_low hN ha cs l0 l hl0 hl⟩
  | .u, _, _, _, _ => by simp only [SV.fit]
theorem fits_low {N n N' : Nat} {ρ0 ρ ρ' : Rh} (hN : N ≤ N') (ha : Agree N ρ ρ') : ∀ (ss : List SV) (xs0 xs : List Value), SV.fits N ρ0 ss xs0 → SV.fits n ρ ss xs → SV.fits N' ρ' ss xs
  | [], [], [], _, h => h
  | s :: ss, x0 :: xs0, x :: xs, h0, h => by
    simp only [SV.fits] at h0 h ⊢
    exact ⟨fit_low hN ha s x0 x h0.1 h.1, fits_low hN ha ss xs0 xs h0.2 h.2⟩
  | [], [], _ :: _, _, h => by simp only [SV.fits] at h
  | [], _ :: _, _, h0, _ => by simp only [SV.fits] at h0
  | _ :: _, [], _, h0, _ => by simp only [SV.fits] at h0
  | _ :: _, _ :: _, [], _, h => by simp only [SV.fits] at h
end
theorem slots_low {N n N' : Nat} {ρ0 ρ ρ' : Rh} (hN : N ≤ N') (ha : Agree N ρ ρ') {k : Nat} {t : List (Nat × SV)} {tm0 tm : Array Value} (h0 : Slots N ρ0 k t tm0) (h : Slots n ρ k t tm) : Slots N' ρ' k t tm :=
  ⟨h.1, fun i hi => fit_low hN ha _ _ _ (h0.2 i hi) (h.2 i hi)⟩
theorem so_low {N n N' : Nat} {ρ0 ρ ρ' : Rh} (hN : N ≤ N') (ha : Agree N ρ ρ') {s : SO} {L0 L : Lc} {o0 o : Option Obj} (h0 : s.fit N ρ0 L0 o0) (h : s.fit n ρ L o) : s.fit N' ρ' L o := by
  cases s with
  | cells xs t =>
    obtain ⟨h1, h2, l, h3, h4⟩ := h
    obtain ⟨_, _, l0, _, k4⟩ := h0
    exact ⟨h1, h2, l, h3, fits_low hN ha _ _ _ k4 h4⟩
  | row t sz el m =>
    refine ⟨h.1, ?_⟩
    rcases h.2 with h2 | ⟨h1, h2, c, h3, h4, h5, h6, h7⟩
    · exact .inl h2
    · refine .inr ⟨h1, h2, c, h3, h4, h5, h6, fun e he => ?_⟩
      obtain ⟨l, q1, q2, q3⟩ := h7 e he
      rcases h0.2 with ⟨_, k0⟩ | ⟨_, _, c0, _, _, _, _, k7⟩
      · omega
      · obtain ⟨l0, _, r2, _⟩ := k7 e he
        exact ⟨l, q1, fits_low hN ha _ _ _ r2 q2, q3⟩
  | obj o' => exact h
  | loop st pd k t ps asg body df =>
    obtain ⟨h1, h2, f, tm, h3, h4⟩ := h
    obtain ⟨_, k2, f0, tm0, _, k4⟩ := h0
    exact ⟨h1, by omega, f, tm, by rw [ha.1 df k2]; exact h3, slots_low hN ha k4 h4⟩
  | dead => trivial

/-! ### what is carried -/
abbrev RowD := Nat × Nat × (Nat → List SV) × Nat
/-- It hangs on nothing from the N-th block on. -/
def Bl (N : Nat) (s : SV) : Prop := ∀ (n m : Nat) (ρ ρ' : Rh) (x : Value), N ≤ m → Agree N ρ ρ' → s.fit n ρ x → s.fit m ρ' x
theorem bl_of_cl {N : Nat} {s : SV} (h : Cl s) : Bl N s := fun n m ρ ρ' x _ ha hf => h n m ρ ρ' x ha.2.1 hf
structure Rel (N k0 : Nat) (σ : St) (ids : List (Option Nat)) (ents : List (Nat × SV)) (rows : List RowD) (objs : List (Nat × SO)) : Prop where
  row : ∀ (k t sz : Nat) (el : Nat → List SV) (l : Nat), rows[k]? = some (t, sz, el, l) → (∀ e, Cls (el e)) ∧ ((ids[k]? = some none ∧ l = 0) ∨ ∃ (j : Nat) (el' : Nat → List SV) (m : Nat), ids[k]? = some (some j) ∧ σ.h.get j = .row t sz el' m ∧ l ≤ m ∧ ∀ e, e < l → ∀ n ρ v, SV.fits n ρ (el' e) v → SV.fits n ρ (el e) v)
  obj : ∀ (id : Nat) (so : SO), (id, so) ∈ objs → ∃ xs xs' t, σ.h.get id = .cells xs t ∧ so = .cells xs' t ∧ Cls xs' ∧ ∀ n ρ v, SV.fits n ρ xs v → SV.fits n ρ xs' v
  ent : ∀ (i : Nat) (s : SV), (i, s) ∈ ents → ((∀ n ρ x, (σ.slot i).fit n ρ x → s.fit n ρ x) ∧ Bl N s) ∨ (∃ k j l, s = .ow (N + k0 + k) l ∧ ids[k]? = some (some j) ∧ k < rows.length ∧ σ.slot i = .ow j l) ∨ (∃ k, s = .ow (N + k0 + k) 0 ∧ ids[k]? = some none ∧ k < rows.length ∧ ∀ n ρ x, (σ.slot i).fit n ρ x → x = .slice none 0 0)
/-- What a loop carries. 'N': the first block that is new in it. -/
structure LP (N : Nat) (γ : Type) where
  R : Nat
  read : St → Option (γ × List Prop × List (Option Nat))
  ents : Nat → γ → List (Nat × SV)
  rows : γ → List RowD
  objs : γ → List (Nat × SO)
  es : List Nat
  os : List Nat
  eseq : ∀ k g, (ents k g).map (·.1) = es
  oseq : ∀ g, (objs g).map (·.1) = os
  rlen : ∀ g, (rows g).length = R
  ilen : ∀ σ g ps ids, read σ = some (g, ps, ids) → ids.length = R
  ok : ∀ k0 σ g ps ids, read σ = some (g, ps, ids) → (∀ p ∈ ps, p) → Rel N k0 σ ids (ents k0 g) (rows g) (objs g)
section
variable {N : Nat} {γ δ α : Type}
def LP.slot (N i : Nat) (A : Dv α) : LP N α where
  R := 0
  read σ := match A.dec (σ.slot i) with
    | some (a, ps) => some (a, ps, [])
    | none => none
  ents _ a := [(i, A.enc a)]
  rows _ := []
  objs _ := []
  es := [i]
  os := []
  eseq _ _ := rfl
  oseq _ := rfl
  rlen _ := rfl
  ilen σ g ps ids h := by
    split at h
    · simp only [Option.some.injEq, Prod.mk.injEq] at h; rw [← h.2.2]; rfl
    · cases h
  ok k0 σ g ps ids h hp := by
    split at h
    · rename_i a ps' hd
      simp only [Option.some.injEq, Prod.mk.injEq] at h
      obtain ⟨rfl, rfl, rfl⟩ := h
      refine ⟨fun k t sz el l h => by simp at h, fun id so h => by simp at h, fun j s h => ?_⟩
      simp only [List.mem_singleton, Prod.mk.injEq] at h
      obtain ⟨rfl, rfl⟩ := h
      exact .inl ⟨fun n ρ x hf => A.ok _ _ _ _ _ _ hd hp hf, bl_of_cl (A.cl a)⟩
    · cases h
/-- A slice of the function's own. -/
def LP.row (N i t : Nat) (A : El α) : LP N (List α) where
  R := 1
  read σ := match σ.slot i with
    | .ow j l => match σ.h.get j with
      | .row t' sz el m => bif Nat.beq t' t && Nat.beq sz A.sz then some (A.lst l el, [l ≤ m, ∀ e, e < l → A.Ok (el e)], [some j]) else none
      | _ => none
    | .k y => bif nilK y then some ([], [], [none]) else none
    | _ => none
  ents k0 xs := [(i, .ow (N + k0 + 0) xs.length)]
  rows xs := [(t, A.sz, A.els xs, xs.length)]
  objs _ := []
  es := [i]
  os := []
  eseq _ _ := rfl
  oseq _ := rfl
  rlen _ := rfl
  ilen σ g ps ids h := by
    split at h
    · split at h
      · rename_i j l _ t' sz el m hg
        cases hb : Nat.beq t' t && Nat.beq sz A.sz with
        | false => rw [hb] at h; cases h
        | true =>
          rw [hb] at h
          simp only [cond_true, Option.some.injEq, Prod.mk.injEq] at h
          rw [← h.2.2]; rfl
      · cases h
    · rename_i y _
      cases hb : nilK y with
      | false => rw [hb] at h; cases h
      | true =>
        rw [hb] at h
        simp only [cond_true, Option.some.injEq, Prod.mk.injEq] at h
        rw [← h.2.2]; rfl
    · cases h
  ok k0 σ g ps ids h hp := by
    split at h
    · rename_i j l hs
      split at h
      · rename_i t' sz el m hg
        cases hb : Nat.beq t' t && Nat.beq sz A.sz with
        | false => rw [hb] at h; cases h
        | true =>
          rw [hb] at h
          simp only [Bool.and_eq_true] at hb
          have e1 := beq_of hb.1
          have e2 := beq_of hb.2
          subst e1; subst e2
          simp only [cond_true, Option.some.injEq, Prod.mk.injEq] at h
          obtain ⟨rfl, rfl, rfl⟩ := h
          have hl : l ≤ m := hp _ (List.mem_cons_self ..)
          have hk : ∀ e, e < l → A.Ok (el e) := hp _ (List.mem_cons_of_mem _ (List.mem_cons_self ..))
          refine ⟨fun k t sz el1 l1 h => ?_, fun id so h => by simp at h, fun q s h => ?_⟩
          · cases k with
            | succ k => simp at h
            | zero =>
              simp only [List.getElem?_cons_zero, Option.some.injEq, Prod.mk.injEq] at h
              obtain ⟨rfl, rfl, rfl, rfl⟩ := h
              rw [A.lst_length]
              refine ⟨fun e => A.cl _, .inr ⟨j, el, m, rfl, hg, hl, fun e he n ρ v hv => ?_⟩⟩
              simp only [El.els]
              rw [A.lst_getD _ _ _ he]
              obtain ⟨a, ps, d1, d2⟩ := hk e he
              have := A.ok _ _ _ _ _ _ d1 d2 hv
              simpa only [El.get, d1] using this
          · simp only [List.mem_singleton, Prod.mk.injEq] at h
            obtain ⟨rfl, rfl⟩ := h
            exact .inr (.inl ⟨0, j, l, by rw [A.lst_length], rfl, by simp, hs⟩)
      · cases h
    · rename_i y hs
      cases hb : nilK y with
      | false => rw [hb] at h; cases h
      | true =>
        rw [hb] at h
        simp only [cond_true, Option.some.injEq, Prod.mk.injEq] at h
        obtain ⟨rfl, rfl, rfl⟩ := h
        refine ⟨fun k t sz el1 l1 h => ?_, fun id so h => by simp at h, fun q s h => ?_⟩
        · cases k with
          | succ k => simp at h
          | zero =>
            simp only [List.getElem?_cons_zero, Option.some.injEq, Prod.mk.injEq] at h
            obtain ⟨rfl, rfl, rfl, rfl⟩ := h
            exact ⟨fun e => A.cl _, .inl ⟨rfl, rfl⟩⟩
        · simp only [List.mem_singleton, Prod.mk.injEq] at h
          obtain ⟨rfl, rfl⟩ := h
          refine .inr (.inr ⟨0, rfl, rfl, by simp, fun n ρ x hf => ?_⟩)
          rw [hs] at hf
          have := nilK_eq hb
          subst this
          exact hf
    · cases h
/-- A variable that lies in memory. -/
def LP.obj (N id t : Nat) (A : El α) : LP N α where
  R := 0
  read σ := match σ.h.get id with
    | .cells xs t' => bif Nat.beq t' t then match A.decs xs with
      | some (a, ps) => some (a, ps, [])
      | none => none else none
    | _ => none
  ents _ _ := []
  rows _ := []
  objs a := [(id, .cells (A.cells a) t)]
  es := []
  os := [id]
  eseq _ _ := rfl
  oseq _ := rfl
  rlen _ := rfl
  ilen σ g ps ids h := by
    split at h
    · rename_i xs t' _
      cases hb : Nat.beq t' t with
      | false => rw [hb] at h; cases h
      | true =>
        rw [hb] at h
        simp only [cond_true] at h
        split at h
        · simp only [Option.some.injEq, Prod.mk.injEq] at h; rw [← h.2.2]; rfl
        · cases h
    · cases h
  ok k0 σ g ps ids h hp := by
    split at h
    · rename_i xs t' hg
      cases hb : Nat.beq t' t with
      | false => rw [hb] at h; cases h
      | true =>
        rw [hb] at h
        have := beq_of hb
        subst this
        simp only [cond_true] at h
        split at h
        · rename_i a ps' hd
          simp only [Option.some.injEq, Prod.mk.injEq] at h
          obtain ⟨rfl, rfl, rfl⟩ := h
          refine ⟨fun k t sz el l h => by simp at h, fun id' so h => ?_, fun j s h => by simp at h⟩
          simp only [List.mem_singleton, Prod.mk.injEq] at h
          obtain ⟨rfl, rfl⟩ := h
          exact ⟨xs, A.cells a, t', hg, rfl, A.cl a, fun n ρ v hv => A.ok _ _ _ _ _ _ hd hp hv⟩
        · cases h
    · cases h
/-- A slot that always holds one thing: a pointer, a function, a literal. -/
def litEq (N : Nat) (a b : SV) : Bool :=
  match a, b with
  | .p i o, .p i' o' => Nat.beq i i' && Nat.beq o o' && Nat.blt i N
  | .sl i o l c, .sl i' o' l' c' => Nat.beq i i' && Nat.beq o o' && Nat.beq l l' && Nat.beq c c' && Nat.blt i N
  | .yl i, .yl i' => Nat.beq i i' && Nat.blt i N
  | .fn f [], .fn f' [] => Nat.beq f f'
  | .k (.int q i), .k (.int q' i') => decide (q = q') && decide (i = i')
  | .k (.bool x), .k (.bool y) => x == y
  | _, _ => false
theorem litEq_ok {a b : SV} (h : litEq N a b = true) : a = b ∧ Bl N b := by
  unfold litEq at h
  split at h
  · simp only [Bool.and_eq_true] at h
    refine ⟨by rw [beq_of h.1.1, beq_of h.1.2], fun n m ρ ρ' x hm ha hf => ?_⟩
    have hlt := Nat.le_of_ble_eq_true h.2
    rw [beq_of h.1.1] at hlt
    obtain ⟨_, rfl⟩ := hf
    exact ⟨by omega, by rw [ha.1 _ hlt]⟩
  · simp only [Bool.and_eq_true] at h
    refine ⟨by rw [beq_of h.1.1.1.1, beq_of h.1.1.1.2, beq_of h.1.1.2, beq_of h.1.2], fun n m ρ ρ' x hm ha hf => ?_⟩
    have hlt := Nat.le_of_ble_eq_true h.2
    rw [beq_of h.1.1.1.1] at hlt
    obtain ⟨_, rfl⟩ := hf
    exact ⟨by omega, by rw [ha.1 _ hlt]⟩
  · simp only [Bool.and_eq_true] at h
    refine ⟨by rw [beq_of h.1], fun n m ρ ρ' x hm ha hf => ?_⟩
    have hlt := Nat.le_of_ble_eq_true h.2
    rw [beq_of h.1] at hlt
    obtain ⟨_, rfl⟩ := hf
    exact ⟨by omega, by rw [ha.1 _ hlt]⟩
  · refine ⟨by rw [beq_of h], fun n m ρ ρ' x _ _ hf => ?_⟩
    obtain ⟨l, e, hl⟩ := hf
    have := fits_nil hl
    subst this
    exact ⟨[], e, trivial⟩
  · simp only [Bool.and_eq_true, decide_eq_true_eq] at h
    exact ⟨by rw [h.1, h.2], fun _ _ _ _ _ _ _ h => h⟩
  · rename_i x y
    have : x = y := by simpa using h
    exact ⟨by rw [this], fun _ _ _ _ _ _ _ h => h⟩
  · cases h
def LP.fix (N i : Nat) (v : SV) : LP N Unit where
  R := 0
  read σ := bif litEq N (σ.slot i) v then some ((), [], []) else none
  ents _ _ := [(i, v)]
  rows _ := []
  objs _ := []
  es := [i]
  os := []
  eseq _ _ := rfl
  oseq _ := rfl
  rlen _ := rfl
  ilen σ g ps ids h := by
    cases hb : litEq N (σ.slot i) v with
    | false => rw [hb] at h; cases h
    | true =>
      rw [hb] at h
      simp only [cond_true, Option.some.injEq, Prod.mk.injEq] at h
      rw [← h.2.2]; rfl
  ok k0 σ g ps ids h hp := by
    cases hb : litEq N (σ.slot i) v with
    | false => rw [hb] at h; cases h
    | true =>
      rw [hb] at h
      simp only [cond_true, Option.some.injEq, Prod.mk.injEq] at h
      obtain ⟨_, rfl, rfl⟩ := h
      obtain ⟨h1, h2⟩ := litEq_ok hb
      refine ⟨fun k t sz el l h => by simp at h, fun id so h => by simp at h, fun j s h => ?_⟩
      simp only [List.mem_singleton, Prod.mk.injEq] at h
      obtain ⟨rfl, rfl⟩ := h
      exact .inl ⟨fun n ρ x hf => by rw [h1] at hf; exact hf, h2⟩
def LP.pair (A : LP N γ) (B : LP N δ) : LP N (γ × δ) where
  R := A.R + B.R
  read σ := match A.read σ with
    | some (a, ps, is) => match B.read σ with
      | some (b, qs, js) => some ((a, b), ps ++ qs, is ++ js)
      | none => none
    | none => none
  ents k0 g := A.ents k0 g.1 ++ B.ents (k0 + A.R) g.2
  rows g := A.rows g.1 ++ B.rows g.2
  objs g := A.objs g.1 ++ B.objs g.2
  es := A.es ++ B.es
  os := A.os ++ B.os
  eseq k g := by simp [A.eseq, B.eseq]
  oseq g := by simp [A.oseq, B.oseq]
  rlen g := by simp [A.rlen, B.rlen]
  ilen σ g ps ids h := by
    split at h
    · rename_i a ps0 is ha
      split at h
      · rename_i b qs js hb
        simp only [Option.some.injEq, Prod.mk.injEq] at h
        obtain ⟨rfl, rfl, rfl⟩ := h
        simp [A.ilen _ _ _ _ ha, B.ilen _ _ _ _ hb]
      · cases h
    · cases h
  ok k0 σ g ps ids h hp := by
    split at h
    · rename_i a ps0 is ha
      split at h
      · rename_i b qs js hb
        simp only [Option.some.injEq, Prod.mk.injEq] at h
        obtain ⟨rfl, rfl, rfl⟩ := h
        have ra := A.ok k0 _ _ _ _ ha fun p h => hp p (List.mem_append_left _ h)
        have rb := B.ok (k0 + A.R) _ _ _ _ hb fun p h => hp p (List.mem_append_right _ h)
        have la := A.ilen _ _ _ _ ha
        have lr := A.rlen a
        simp only
        refine ⟨fun k t sz el l h => ?_, fun id so h => ?_, fun j s h => ?_⟩
        · by_cases hk : k < A.R
          · rw [List.getElem?_append_left (by omega)] at h
            rw [List.getElem?_append_left (by omega)]
            exact ra.row k t sz el l h
          · rw [List.getElem?_append_right (by omega)] at h
            rw [List.getElem?_append_right (by omega), la]
            rw [lr] at h
            exact rb.row (k - A.R) t sz el l h
        · rcases List.mem_append.1 h with h | h
          · exact ra.obj id so h
          · exact rb.obj id so h
        · rcases List.mem_append.1 h with h | h
          · rcases ra.ent j s h with h | ⟨k, j', l, h1, h2, h3, h4⟩ | ⟨k, h1, h2, h3, h4⟩
            · exact .inl h
            · refine .inr (.inl ⟨k, j', l, h1, ?_, by simp; omega, h4⟩)
              rw [List.getElem?_append_left (by omega)]; exact h2
            · refine .inr (.inr ⟨k, h1, ?_, by simp; omega, h4⟩)
              rw [List.getElem?_append_left (by omega)]; exact h2
          · rcases rb.ent j s h with h | ⟨k, j', l, h1, h2, h3, h4⟩ | ⟨k, h1, h2, h3, h4⟩
            · exact .inl h
            · refine .inr (.inl ⟨A.R + k, j', l, by rw [h1]; congr 1; omega, ?_, by simp; omega, h4⟩)
              rw [List.getElem?_append_right (by omega), la]
              simpa using h2
            · refine .inr (.inr ⟨A.R + k, by rw [h1]; congr 1; omega, ?_, by simp; omega, h4⟩)
              rw [List.getElem?_append_right (by omega), la]
              simpa using h2
      · cases h
    · cases h
/-- The same under another name. -/
def LP.iso (A : LP N γ) (f : γ → δ) (g : δ → γ) (hgf : ∀ a, g (f a) = a) : LP N δ where
  R := A.R
  read σ := match A.read σ with
    | some (a, ps, is) => some (f a, ps, is)
    | none => none
  ents k d := A.ents k (g d)
  rows d := A.rows (g d)
  objs d := A.objs (g d)
  es := A.es
  os := A.os
  eseq k d := A.eseq _ _
  oseq d := A.oseq _
  rlen d := A.rlen _
  ilen σ d ps ids h := by
    split at h
    · rename_i a ps0 is ha
      simp only [Option.some.injEq, Prod.mk.injEq] at h
      obtain ⟨rfl, rfl, rfl⟩ := h
      exact A.ilen _ _ _ _ ha
    · cases h
  ok k0 σ d ps ids h hp := by
    split at h
    · rename_i a ps0 is ha
      simp only [Option.some.injEq, Prod.mk.injEq] at h
      obtain ⟨rfl, rfl, rfl⟩ := h
      rw [hgf]
      exact A.ok _ _ _ _ _ ha hp
    · cases h
end
end Go.Sx
