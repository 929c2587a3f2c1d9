/- Contracts of loops: what a loop carries from round to round, as plain data. -/
import Derived.Test.YtapmlfklkfgmoaaZG04P6
import Derived.Test.YtapmlfklkfgmoaaRows
set_option linter.unusedVariables false
set_option linter.unusedSimpArgs false
set_option linter.constructorNameAsVariable false
set_option linter.all false

namespace Go.Sx
open Go.RowKit

/-! ### what lies low stays -/
mutual
theorem fit_low {N n N' : Nat} {ρ0 ρ ρ' : Rh} (hN : N ≤ N') (ha : Agree N ρ ρ') : ∀ (s : SV) (x0 x : Value), SV.fit N ρ0 s x0 → SV.fit n ρ s x → SV.fit N' ρ' s x
  | .k _, _, _, _, h => h
  | .v _, _, _, _, h => h
  | .p i o, x0, x, h0, h => by simp only [SV.fit] at h0 h ⊢; exact ⟨by omega, by rw [ha.1 i h0.1]; exact h.2⟩
  | .pe i sz e o, x0, x, h0, h => by simp only [SV.fit] at h0 h ⊢; exact ⟨by omega, by rw [ha.1 i h0.1]; exact h.2⟩
  | .sl i o l c, x0, x, h0, h => by simp only [SV.fit] at h0 h ⊢; exact ⟨by omega, by rw [ha.1 i h0.1]; exact h.2⟩
  | .se i sz o l, x0, x, h0, h => by simp only [SV.fit] at h0 h ⊢; exact ⟨by omega, by rw [ha.1 i h0.1]; exact h.2⟩
  | .ow i l, x0, x, h0, h => by simp only [SV.fit] at h0 h ⊢; exact ⟨by omega, by rw [ha.1 i h0.1]; exact h.2⟩
  | .yl i, x0, x, h0, h => by simp only [SV.fit] at h0 h ⊢; exact ⟨by omega, by rw [ha.1 i h0.1]; exact h.2⟩
  | .mp i, x0, x, h0, h => by simp only [SV.fit] at h0 h ⊢; exact ⟨by omega, by rw [ha.1 i h0.1]; exact h.2⟩
  | .rs sz l el, x0, x, h0, h => by
    simp only [SV.fit] at h0 h ⊢
    obtain ⟨a, c, h1, h2, h3, h4⟩ := h
    obtain ⟨_, _, _, _, _, k4⟩ := h0
    refine ⟨a, c, h1, h2, h3, fun hl => ?_⟩
    obtain ⟨b, o, cs, t, fz, q1, q2, q3⟩ := h4 hl
    obtain ⟨_, _, _, _, _, _, _, r3⟩ := k4 hl
    refine ⟨b, o, cs, t, fz, q1, ha.2.1 _ _ q2, fun e he => ?_⟩
    obtain ⟨vs, u1, u2, u3⟩ := q3 e he
    obtain ⟨vs0, _, u20, _⟩ := r3 e he
    exact ⟨vs, u1, fits_low hN ha (el e) vs0 vs u20 u2, u3⟩
  | .pr xs, x0, x, h0, h => by
    simp only [SV.fit] at h0 h ⊢
    obtain ⟨b, o, cs, t, fz, q1, q2, vs, q3, q4⟩ := h
    obtain ⟨_, _, _, _, _, _, _, vs0, r3, _⟩ := h0
    exact ⟨b, o, cs, t, fz, q1, ha.2.1 _ _ q2, vs, fits_low hN ha xs vs0 vs r3 q3, q4⟩
  | .fn f cs, x0, x, h0, h => by
    simp only [SV.fit] at h0 h ⊢
    obtain ⟨l, hx, hl⟩ := h
    obtain ⟨l0, _, hl0⟩ := h0
    exact ⟨l, hx, fits_low hN ha cs l0 l hl0 hl⟩
  | .agg cs, x0, x, h0, h => by
    simp only [SV.fit] at h0 h ⊢
    obtain ⟨l, hx, hl⟩ := h
    obtain ⟨l0, _, hl0⟩ := h0
    exact ⟨l, hx, fits_low hN ha cs l0 l hl0 hl⟩
  | .tup cs, x0, x, h0, h => by
    simp only [SV.fit] at h0 h ⊢
    obtain ⟨l, hx, hl⟩ := h
    obtain ⟨l0, _, hl0⟩ := h0
    exact ⟨l, hx, fits_low hN ha cs l0 l hl0 hl⟩
  | .opt b s, x0, x, h0, h => by
    simp only [SV.fit] at h0 h ⊢
    exact fun hb => fit_low hN ha s x0 x (h0 hb) (h hb)
  | .u, _, _, _, _ => by simp only [SV.fit]
theorem fits_low {N n N' : Nat} {ρ0 ρ ρ' : Rh} (hN : N ≤ N') (ha : Agree N ρ ρ') : ∀ (ss : List SV) (xs0 xs : List Value), SV.fits N ρ0 ss xs0 → SV.fits n ρ ss xs → SV.fits N' ρ' ss xs
  | [], [], [], _, h => h
  | s :: ss, x0 :: xs0, x :: xs, h0, h => by
    simp only [SV.fits] at h0 h ⊢
    exact ⟨fit_low hN ha s x0 x h0.1 h.1, fits_low hN ha ss xs0 xs h0.2 h.2⟩
  | [], [], _ :: _, _, h => by simp only [SV.fits] at h
  | [], _ :: _, _, h0, _ => by simp only [SV.fits] at h0
  | _ :: _, [], _, h0, _ => by simp only [SV.fits] at h0
  | _ :: _, _ :: _, [], _, h => by simp only [SV.fits] at h
end
theorem slots_low {N n N' : Nat} {ρ0 ρ ρ' : Rh} (hN : N ≤ N') (ha : Agree N ρ ρ') {k : Nat} {t : List (Nat × SV)} {tm0 tm : Array Value} (h0 : Slots N ρ0 k t tm0) (h : Slots n ρ k t tm) : Slots N' ρ' k t tm :=
  ⟨h.1, fun i hi => fit_low hN ha _ _ _ (h0.2 i hi) (h.2 i hi)⟩
theorem so_low {N n N' : Nat} {ρ0 ρ ρ' : Rh} (hN : N ≤ N') (ha : Agree N ρ ρ') {s : SO} {L0 L : Lc} {o0 o : Option Obj} (h0 : s.fit N ρ0 L0 o0) (h : s.fit n ρ L o) : s.fit N' ρ' L o := by
  cases s with
  | cells xs t =>
    obtain ⟨h1, h2, l, h3, h4⟩ := h
    obtain ⟨_, _, l0, _, k4⟩ := h0
    exact ⟨h1, h2, l, h3, fits_low hN ha _ _ _ k4 h4⟩
  | row t sz el m =>
    refine ⟨h.1, ?_⟩
    rcases h.2 with h2 | ⟨h1, h2, c, fz, h3, h3', h4, h5, h6, h7⟩
    · exact .inl h2
    · refine .inr ⟨h1, h2, c, fz, h3, h3', h4, h5, h6, fun e he => ?_⟩
      obtain ⟨l, q1, q2, q3⟩ := h7 e he
      rcases h0.2 with ⟨_, k0⟩ | ⟨_, _, c0, _, _, _, _, _, _, k7⟩
      · omega
      · obtain ⟨l0, _, r2, _⟩ := k7 e he
        exact ⟨l, q1, fits_low hN ha _ _ _ r2 q2, q3⟩
  | obj o' => exact h
  | loop st pd k t ps asg body df =>
    obtain ⟨h1, h2, f, tm, h3, h4⟩ := h
    obtain ⟨_, k2, f0, tm0, _, k4⟩ := h0
    exact ⟨h1, by omega, f, tm, by rw [ha.1 df k2]; exact h3, slots_low hN ha k4 h4⟩
  | dead => trivial

/-! ### what is carried -/
abbrev RowD := Nat × Nat × (Nat → List SV) × Nat
/-- It hangs on nothing from the N-th block on. -/
def Bl (N : Nat) (s : SV) : Prop := ∀ (n m : Nat) (ρ ρ' : Rh) (x : Value), N ≤ m → Agree N ρ ρ' → s.fit n ρ x → s.fit m ρ' x
theorem bl_of_cl {N : Nat} {s : SV} (h : Cl s) : Bl N s := fun n m ρ ρ' x _ ha hf => h n m ρ ρ' x ha.2.1 hf
/-- From a state to the next one: what lies low is the same, the rows carried have their places. -/
structure Rn (N k0 : Nat) (ids : List (Option Nat)) (m : Nat) (ρ ρ' : Rh) : Prop where
  le : N + k0 + ids.length ≤ m
  ag : Agree N ρ ρ'
  yes : ∀ k j : Nat, ids[k]? = some (some j) → ρ' (N + k0 + k) = ρ j
  no : ∀ k : Nat, ids[k]? = some none → ρ' (N + k0 + k) = ⟨0, 0, 0, true⟩
theorem Rn.left {N k0 m : Nat} {is js : List (Option Nat)} {ρ ρ' : Rh} (h : Rn N k0 (is ++ js) m ρ ρ') : Rn N k0 is m ρ ρ' :=
  ⟨by have := h.le; simp at this; omega, h.ag, fun k j hk => h.yes k j (by rw [List.getElem?_append_left (by by_cases hl : k < is.length; exact hl; rw [List.getElem?_eq_none (by omega)] at hk; cases hk)]; exact hk),
    fun k hk => h.no k (by rw [List.getElem?_append_left (by by_cases hl : k < is.length; exact hl; rw [List.getElem?_eq_none (by omega)] at hk; cases hk)]; exact hk)⟩
theorem Rn.right {N k0 m : Nat} {is js : List (Option Nat)} {ρ ρ' : Rh} (h : Rn N k0 (is ++ js) m ρ ρ') : Rn N (k0 + is.length) js m ρ ρ' :=
  ⟨by have := h.le; simp at this; omega, h.ag, fun k j hk => by
      rw [show N + (k0 + is.length) + k = N + k0 + (is.length + k) by omega]
      exact h.yes _ j (by rw [List.getElem?_append_right (by omega)]; simpa using hk),
    fun k hk => by
      rw [show N + (k0 + is.length) + k = N + k0 + (is.length + k) by omega]
      exact h.no _ (by rw [List.getElem?_append_right (by omega)]; simpa using hk)⟩
structure Rel (N k0 : Nat) (σ : St) (ids : List (Option Nat)) (ents : List (Nat × SV)) (rows : List RowD) (objs : List (Nat × SO)) : Prop where
  row : ∀ (k t sz : Nat) (el : Nat → List SV) (l : Nat), rows[k]? = some (t, sz, el, l) → (∀ e, Cls (el e)) ∧ ((ids[k]? = some none ∧ l = 0) ∨ ∃ (j : Nat) (el' : ElE) (m : Nat), ids[k]? = some (some j) ∧ σ.h.get j = .row t sz el' m ∧ l ≤ m ∧ ∀ e, e < l → ∀ n ρ v, SV.fits n ρ (el' e) v → SV.fits n ρ (el e) v)
  obj : ∀ (id : Nat) (so : SO), (id, so) ∈ objs → (∀ L, so.own L → (σ.h.get id).own L) ∧ ∀ (n m : Nat) (ρ ρ' : Rh) (L : Lc) (o : Option Obj), Rn N k0 ids m ρ ρ' → (σ.h.get id).fit n ρ L o → so.fit m ρ' L o
  ent : ∀ (i : Nat) (s : SV), (i, s) ∈ ents → ∀ (n m : Nat) (ρ ρ' : Rh) (x : Value), Rn N k0 ids m ρ ρ' → (σ.slot i).fit n ρ x → s.fit m ρ' x
/-- An entity that hangs on no carried row. -/
theorem ent_bl {N k0 : Nat} {ids : List (Option Nat)} {a s : SV} (h1 : ∀ n ρ x, a.fit n ρ x → s.fit n ρ x) (h2 : Bl N s) : ∀ (n m : Nat) (ρ ρ' : Rh) (x : Value), Rn N k0 ids m ρ ρ' → a.fit n ρ x → s.fit m ρ' x :=
  fun n m ρ ρ' x hr hf => h2 n m ρ ρ' x (by have := hr.le; omega) hr.ag (h1 n ρ x hf)
theorem ent_ow {N k0 : Nat} {ids : List (Option Nat)} {a : SV} {j l l' k : Nat} (hs : a = .ow j l) (hi : ids[k]? = some (some j)) (hl : l' = l) : ∀ (n m : Nat) (ρ ρ' : Rh) (x : Value), Rn N k0 ids m ρ ρ' → a.fit n ρ x → (SV.ow (N + k0 + k) l').fit m ρ' x := fun n m ρ ρ' x hr hf => by
  rw [hs] at hf
  obtain ⟨_, hor⟩ := hf
  have hk : k < ids.length := by
    by_cases h : k < ids.length
    · exact h
    · rw [List.getElem?_eq_none (by omega)] at hi; cases hi
  refine ⟨by have := hr.le; omega, ?_⟩
  rw [hr.yes k j hi, hl]
  exact hor
theorem ent_nil {N k0 : Nat} {ids : List (Option Nat)} {a : SV} {y : Value} {k : Nat} (hs : a = .k y) (hy : nilK y = true) (hi : ids[k]? = some none) : ∀ (n m : Nat) (ρ ρ' : Rh) (x : Value), Rn N k0 ids m ρ ρ' → a.fit n ρ x → (SV.ow (N + k0 + k) 0).fit m ρ' x := fun n m ρ ρ' x hr hf => by
  rw [hs] at hf
  have := nilK_eq hy
  subst this
  have hk : k < ids.length := by
    by_cases h : k < ids.length
    · exact h
    · rw [List.getElem?_eq_none (by omega)] at hi; cases hi
  refine ⟨by have := hr.le; omega, .inl ?_⟩
  rw [hr.no k hi]
  exact ⟨rfl, rfl, _, hf⟩
/-- What a loop carries. 'N': the first block that is new in it. -/
structure LP (N : Nat) (γ : Type) where
  R : Nat
  read : St → Option (γ × List Prop × List (Option Nat))
  ents : Nat → γ → List (Nat × SV)
  rows : γ → List RowD
  objs : Nat → γ → List (Nat × SO)
  es : List Nat
  os : List Nat
  eseq : ∀ k g, (ents k g).map (·.1) = es
  oseq : ∀ k g, (objs k g).map (·.1) = os
  rlen : ∀ g, (rows g).length = R
  ilen : ∀ σ g ps ids, read σ = some (g, ps, ids) → ids.length = R
  ok : ∀ k0 σ g ps ids, read σ = some (g, ps, ids) → (∀ p ∈ ps, p) → Rel N k0 σ ids (ents k0 g) (rows g) (objs k0 g)
section
variable {N : Nat} {γ δ α : Type}
def LP.slot (N i : Nat) (A : Dv α) : LP N α where
  R := 0
  read σ := match A.dec (σ.slot i) with
    | some (a, ps) => some (a, ps, [])
    | none => none
  ents _ a := [(i, A.enc a)]
  rows _ := []
  objs _ _ := []
  es := [i]
  os := []
  eseq _ _ := rfl
  oseq _ _ := rfl
  rlen _ := rfl
  ilen σ g ps ids h := by
    split at h
    · simp only [Option.some.injEq, Prod.mk.injEq] at h; rw [← h.2.2]; rfl
    · cases h
  ok k0 σ g ps ids h hp := by
    split at h
    · rename_i a ps' hd
      simp only [Option.some.injEq, Prod.mk.injEq] at h
      obtain ⟨rfl, rfl, rfl⟩ := h
      refine ⟨fun k t sz el l h => by simp at h, fun id so h => by simp at h, fun j s h => ?_⟩
      simp only [List.mem_singleton, Prod.mk.injEq] at h
      obtain ⟨rfl, rfl⟩ := h
      exact ent_bl (fun n ρ x hf => A.ok _ _ _ _ _ _ hd hp hf) (bl_of_cl (A.cl a))
    · cases h
/-- A slice of the function's own. -/
def LP.row (N i t : Nat) (A : El α) : LP N (List α) where
  R := 1
  read σ := match σ.slot i with
    | .ow j l => match σ.h.get j with
      | .row t' sz el m => bif Nat.beq t' t && Nat.beq sz A.sz then some (A.lstE l el, (l ≤ m) :: A.okE l el, [some j]) else none
      | _ => none
    | .k y => bif nilK y then some ([], [], [none]) else none
    | _ => none
  ents k0 xs := [(i, .ow (N + k0 + 0) xs.length)]
  rows xs := [(t, A.sz, A.els xs, xs.length)]
  objs _ _ := []
  es := [i]
  os := []
  eseq _ _ := rfl
  oseq _ _ := rfl
  rlen _ := rfl
  ilen σ g ps ids h := by
    split at h
    · split at h
      · rename_i j l _ t' sz el m hg
        cases hb : Nat.beq t' t && Nat.beq sz A.sz with
        | false => rw [hb] at h; cases h
        | true =>
          rw [hb] at h
          simp only [cond_true, Option.some.injEq, Prod.mk.injEq] at h
          rw [← h.2.2]; rfl
      · cases h
    · rename_i y _
      cases hb : nilK y with
      | false => rw [hb] at h; cases h
      | true =>
        rw [hb] at h
        simp only [cond_true, Option.some.injEq, Prod.mk.injEq] at h
        rw [← h.2.2]; rfl
    · cases h
  ok k0 σ g ps ids h hp := by
    split at h
    · rename_i j l hs
      split at h
      · rename_i t' sz el m hg
        cases hb : Nat.beq t' t && Nat.beq sz A.sz with
        | false => rw [hb] at h; cases h
        | true =>
          rw [hb] at h
          simp only [Bool.and_eq_true] at hb
          have e1 := beq_of hb.1
          have e2 := beq_of hb.2
          subst e1; subst e2
          simp only [cond_true, Option.some.injEq, Prod.mk.injEq] at h
          obtain ⟨rfl, rfl, rfl⟩ := h
          have hl : l ≤ m := hp _ (List.mem_cons_self ..)
          have hk : ∀ e, e < l → A.Ok (el e) := A.okE_ok l el fun p h' => hp p (List.mem_cons_of_mem _ h')
          rw [A.lstE_eq]
          refine ⟨fun k t sz el1 l1 h => ?_, fun id so h => by simp at h, fun q s h => ?_⟩
          · cases k with
            | succ k => simp at h
            | zero =>
              simp only [List.getElem?_cons_zero, Option.some.injEq, Prod.mk.injEq] at h
              obtain ⟨rfl, rfl, rfl, rfl⟩ := h
              rw [A.lst_length]
              refine ⟨fun e => A.cl _, .inr ⟨j, el, m, rfl, hg, hl, fun e he n ρ v hv => ?_⟩⟩
              simp only [El.els]
              rw [A.lst_getD _ _ _ he]
              obtain ⟨a, ps, d1, d2⟩ := hk e he
              have := A.ok _ _ _ _ _ _ d1 d2 hv
              simpa only [El.get, d1] using this
          · simp only [List.mem_singleton, Prod.mk.injEq] at h
            obtain ⟨rfl, rfl⟩ := h
            exact ent_ow (k := 0) hs rfl (by rw [A.lst_length])
      · cases h
    · rename_i y hs
      cases hb : nilK y with
      | false => rw [hb] at h; cases h
      | true =>
        rw [hb] at h
        simp only [cond_true, Option.some.injEq, Prod.mk.injEq] at h
        obtain ⟨rfl, rfl, rfl⟩ := h
        refine ⟨fun k t sz el1 l1 h => ?_, fun id so h => by simp at h, fun q s h => ?_⟩
        · cases k with
          | succ k => simp at h
          | zero =>
            simp only [List.getElem?_cons_zero, Option.some.injEq, Prod.mk.injEq] at h
            obtain ⟨rfl, rfl, rfl, rfl⟩ := h
            exact ⟨fun e => A.cl _, .inl ⟨rfl, rfl⟩⟩
        · simp only [List.mem_singleton, Prod.mk.injEq] at h
          obtain ⟨rfl, rfl⟩ := h
          exact ent_nil (k := 0) hs hb rfl
    · cases h
/-- A variable that lies in memory. -/
def LP.obj (N id t : Nat) (A : El α) : LP N α where
  R := 0
  read σ := match σ.h.get id with
    | .cells xs t' => bif Nat.beq t' t then match A.decs xs with
      | some (a, ps) => some (a, ps, [])
      | none => none else none
    | _ => none
  ents _ _ := []
  rows _ := []
  objs _ a := [(id, .cells (A.cells a) t)]
  es := []
  os := [id]
  eseq _ _ := rfl
  oseq _ _ := rfl
  rlen _ := rfl
  ilen σ g ps ids h := by
    split at h
    · rename_i xs t' _
      cases hb : Nat.beq t' t with
      | false => rw [hb] at h; cases h
      | true =>
        rw [hb] at h
        simp only [cond_true] at h
        split at h
        · simp only [Option.some.injEq, Prod.mk.injEq] at h; rw [← h.2.2]; rfl
        · cases h
    · cases h
  ok k0 σ g ps ids h hp := by
    split at h
    · rename_i xs t' hg
      cases hb : Nat.beq t' t with
      | false => rw [hb] at h; cases h
      | true =>
        rw [hb] at h
        have := beq_of hb
        subst this
        simp only [cond_true] at h
        split at h
        · rename_i a ps' hd
          simp only [Option.some.injEq, Prod.mk.injEq] at h
          obtain ⟨rfl, rfl, rfl⟩ := h
          refine ⟨fun k t sz el l h => by simp at h, fun id' so h => ?_, fun j s h => by simp at h⟩
          simp only [List.mem_singleton, Prod.mk.injEq] at h
          obtain ⟨rfl, rfl⟩ := h
          rw [hg]
          refine ⟨fun _ h => h, fun n m ρ ρ' L o hr hf => ?_⟩
          obtain ⟨f1, f2, l, f3, f4⟩ := hf
          exact ⟨f1, f2, l, f3, A.cl a n m ρ ρ' l hr.ag.2.1 (A.ok _ _ _ _ _ _ hd hp f4)⟩
        · cases h
    · cases h
/-- A row of the function's own that lies in a known block. -/
def LP.rowO (N id t : Nat) (A : El α) : LP N (List α) where
  R := 0
  read σ := match σ.h.get id with
    | .row t' sz el m => bif Nat.beq t' t && Nat.beq sz A.sz then some (A.lstE m el, A.okE m el, []) else none
    | _ => none
  ents _ _ := []
  rows _ := []
  objs _ xs := [(id, .row t A.sz (.fn (A.els xs)) xs.length)]
  es := []
  os := [id]
  eseq _ _ := rfl
  oseq _ _ := rfl
  rlen _ := rfl
  ilen σ g ps ids h := by
    split at h
    · rename_i t' sz el m _
      cases hb : Nat.beq t' t && Nat.beq sz A.sz with
      | false => rw [hb] at h; cases h
      | true =>
        rw [hb] at h
        simp only [cond_true, Option.some.injEq, Prod.mk.injEq] at h
        rw [← h.2.2]; rfl
    · cases h
  ok k0 σ g ps ids h hp := by
    split at h
    · rename_i t' sz el m hg
      cases hb : Nat.beq t' t && Nat.beq sz A.sz with
      | false => rw [hb] at h; cases h
      | true =>
        rw [hb] at h
        simp only [Bool.and_eq_true] at hb
        have e1 := beq_of hb.1
        have e2 := beq_of hb.2
        subst e1; subst e2
        simp only [cond_true, Option.some.injEq, Prod.mk.injEq] at h
        obtain ⟨rfl, rfl, rfl⟩ := h
        have hk : ∀ e, e < m → A.Ok (el e) := A.okE_ok m el hp
        rw [A.lstE_eq]
        refine ⟨fun k t sz el l h => by simp at h, fun id' so h => ?_, fun j s h => by simp at h⟩
        simp only [List.mem_singleton, Prod.mk.injEq] at h
        obtain ⟨rfl, rfl⟩ := h
        rw [hg]
        refine ⟨fun _ h => h, fun n m' ρ ρ' L o hr hf => ?_⟩
        rw [A.lst_length]
        refine ⟨hf.1, ?_⟩
        rcases hf.2 with h2 | ⟨h1, h2, c, fz, h3, h3', h4, h5, h6, h7⟩
        · exact .inl h2
        · refine .inr ⟨h1, h2, c, fz, h3, h3', h4, h5, h6, fun e he => ?_⟩
          obtain ⟨l, q1, q2, q3⟩ := h7 e he
          obtain ⟨a, ps, d1, d2⟩ := hk e he
          refine ⟨l, q1, ?_, q3⟩
          have := A.cl a n m' ρ ρ' l hr.ag.2.1 (A.ok _ _ _ _ _ _ d1 d2 q2)
          show SV.fits m' ρ' (A.cells ((A.lst m el).getD e A.dflt)) l
          rw [A.lst_getD _ _ _ he]
          simpa only [El.get, d1] using this
    · cases h
/-- A variable in memory that holds a slice of the function's own. -/
def LP.objRow (N id t' t : Nat) (A : El α) : LP N (List α) where
  R := 1
  read σ := match σ.h.get id with
    | .cells [s] t1 => bif Nat.beq t1 t' then match s with
      | .ow j l => match σ.h.get j with
        | .row t2 sz el m => bif Nat.beq t2 t && Nat.beq sz A.sz then some (A.lstE l el, (l ≤ m) :: A.okE l el, [some j]) else none
        | _ => none
      | .k y => bif nilK y then some ([], [], [none]) else none
      | _ => none else none
    | _ => none
  ents _ _ := []
  rows xs := [(t, A.sz, A.els xs, xs.length)]
  objs k0 xs := [(id, .cells [.ow (N + k0 + 0) xs.length] t')]
  es := []
  os := [id]
  eseq _ _ := rfl
  oseq _ _ := rfl
  rlen _ := rfl
  ilen σ g ps ids h := by
    split at h
    · rename_i s t1 _
      cases hb : Nat.beq t1 t' with
      | false => rw [hb] at h; cases h
      | true =>
        rw [hb] at h
        simp only [cond_true] at h
        cases s with
        | ow j l =>
          dsimp only at h
          split at h
          · rename_i t2 sz el m hg
            cases hb : Nat.beq t2 t && Nat.beq sz A.sz with
            | false => rw [hb] at h; cases h
            | true =>
              rw [hb] at h
              simp only [cond_true, Option.some.injEq, Prod.mk.injEq] at h
              rw [← h.2.2]; rfl
          · cases h
        | k y =>
          dsimp only at h
          cases hb : nilK y with
          | false => rw [hb] at h; cases h
          | true =>
            rw [hb] at h
            simp only [cond_true, Option.some.injEq, Prod.mk.injEq] at h
            rw [← h.2.2]; rfl
        | _ => cases h
    · cases h
  ok k0 σ g ps ids h hp := by
    split at h
    · rename_i s t1 hc
      cases hb1 : Nat.beq t1 t' with
      | false => rw [hb1] at h; cases h
      | true =>
        have e0 := beq_of hb1
        subst e0
        rw [hb1] at h
        simp only [cond_true] at h
        cases s with
        | ow j l =>
          dsimp only at h
          split at h
          · rename_i t2 sz el m hg
            cases hb : Nat.beq t2 t && Nat.beq sz A.sz with
            | false => rw [hb] at h; cases h
            | true =>
              rw [hb] at h
              simp only [Bool.and_eq_true] at hb
              have e1 := beq_of hb.1
              have e2 := beq_of hb.2
              subst e1; subst e2
              simp only [cond_true, Option.some.injEq, Prod.mk.injEq] at h
              obtain ⟨rfl, rfl, rfl⟩ := h
              have hl : l ≤ m := hp _ (List.mem_cons_self ..)
              have hk : ∀ e, e < l → A.Ok (el e) := A.okE_ok l el fun p h' => hp p (List.mem_cons_of_mem _ h')
              rw [A.lstE_eq]
              refine ⟨fun k t sz el1 l1 h => ?_, fun id so h => ?_, fun q s h => by simp at h⟩
              · cases k with
                | succ k => simp at h
                | zero =>
                  simp only [List.getElem?_cons_zero, Option.some.injEq, Prod.mk.injEq] at h
                  obtain ⟨rfl, rfl, rfl, rfl⟩ := h
                  rw [A.lst_length]
                  refine ⟨fun e => A.cl _, .inr ⟨j, el, m, rfl, hg, hl, fun e he n ρ v hv => ?_⟩⟩
                  simp only [El.els]
                  rw [A.lst_getD _ _ _ he]
                  obtain ⟨a, ps, d1, d2⟩ := hk e he
                  have := A.ok _ _ _ _ _ _ d1 d2 hv
                  simpa only [El.get, d1] using this
              · simp only [List.mem_singleton, Prod.mk.injEq] at h
                obtain ⟨rfl, rfl⟩ := h
                rw [hc]
                refine ⟨fun _ h => h, fun n m ρ ρ' L o hr hf => ?_⟩
                obtain ⟨f1, f2, l', f3, f4⟩ := hf
                refine ⟨f1, f2, l', f3, ?_⟩
                obtain ⟨y, r, rfl, hy, hr'⟩ := fits_cons f4
                exact ⟨ent_ow (k := 0) rfl rfl (by rw [A.lst_length]) n m ρ ρ' y hr hy, by have := fits_nil hr'; subst this; trivial⟩
          · cases h
        | k y =>
          dsimp only at h
          cases hb : nilK y with
          | false => rw [hb] at h; cases h
          | true =>
            rw [hb] at h
            simp only [cond_true, Option.some.injEq, Prod.mk.injEq] at h
            obtain ⟨rfl, rfl, rfl⟩ := h
            refine ⟨fun k t sz el l h => ?_, fun id so h => ?_, fun q s h => by simp at h⟩
            · cases k with
              | succ k => simp at h
              | zero =>
                simp only [List.getElem?_cons_zero, Option.some.injEq, Prod.mk.injEq] at h
                obtain ⟨rfl, rfl, rfl, rfl⟩ := h
                exact ⟨fun e => A.cl _, .inl ⟨rfl, rfl⟩⟩
            · simp only [List.mem_singleton, Prod.mk.injEq] at h
              obtain ⟨rfl, rfl⟩ := h
              rw [hc]
              refine ⟨fun _ h => h, fun n m ρ ρ' L o hr hf => ?_⟩
              obtain ⟨f1, f2, l', f3, f4⟩ := hf
              refine ⟨f1, f2, l', f3, ?_⟩
              obtain ⟨y', r, rfl, hy, hr'⟩ := fits_cons f4
              exact ⟨ent_nil (k := 0) rfl hb rfl n m ρ ρ' y' hr hy, by have := fits_nil hr'; subst this; trivial⟩
        | _ => cases h
    · cases h
/-- A slot that holds a beginning of such a row. -/
def LP.owl (N i id : Nat) : LP N Nat where
  R := 0
  read σ := match σ.slot i with
    | .ow j l => bif Nat.beq j id && Nat.blt id N then some (l, [], []) else none
    | _ => none
  ents _ l := [(i, .ow id l)]
  rows _ := []
  objs _ _ := []
  es := [i]
  os := []
  eseq _ _ := rfl
  oseq _ _ := rfl
  rlen _ := rfl
  ilen σ g ps ids h := by
    split at h
    · rename_i j l _
      cases hb : Nat.beq j id && Nat.blt id N with
      | false => rw [hb] at h; cases h
      | true =>
        rw [hb] at h
        simp only [cond_true, Option.some.injEq, Prod.mk.injEq] at h
        rw [← h.2.2]; rfl
    · cases h
  ok k0 σ g ps ids h hp := by
    split at h
    · rename_i j l hs
      cases hb : Nat.beq j id && Nat.blt id N with
      | false => rw [hb] at h; cases h
      | true =>
        rw [hb] at h
        simp only [Bool.and_eq_true] at hb
        have e1 := beq_of hb.1
        have hlt : id < N := Nat.le_of_ble_eq_true hb.2
        subst e1
        simp only [cond_true, Option.some.injEq, Prod.mk.injEq] at h
        obtain ⟨rfl, rfl, rfl⟩ := h
        refine ⟨fun k t sz el l h => by simp at h, fun id so h => by simp at h, fun q s h => ?_⟩
        simp only [List.mem_singleton, Prod.mk.injEq] at h
        obtain ⟨rfl, rfl⟩ := h
        refine ent_bl (fun n ρ x hf => by rw [hs] at hf; exact hf) fun n m ρ ρ' x hm ha hf => ?_
        obtain ⟨_, hf⟩ := hf
        exact ⟨by omega, by rw [ha.1 _ hlt]; exact hf⟩
    · cases h
/-- A range over a text: how far it has come. -/
def LP.iter (N id : Nat) : LP N (ByteArray × Nat) where
  R := 0
  read σ := match σ.h.get id with
    | .obj (.stringIter s p) => some ((s, p), [], [])
    | _ => none
  ents _ _ := []
  rows _ := []
  objs _ g := [(id, .obj (.stringIter g.1 g.2))]
  es := []
  os := [id]
  eseq _ _ := rfl
  oseq _ _ := rfl
  rlen _ := rfl
  ilen σ g ps ids h := by
    split at h
    · simp only [Option.some.injEq, Prod.mk.injEq] at h
      rw [← h.2.2]; rfl
    · cases h
  ok k0 σ g ps ids h hp := by
    split at h
    · rename_i s p hg
      simp only [Option.some.injEq, Prod.mk.injEq] at h
      obtain ⟨rfl, rfl, rfl⟩ := h
      refine ⟨fun k t sz el l h => by simp at h, fun id' so h => ?_, fun j s h => by simp at h⟩
      simp only [List.mem_singleton, Prod.mk.injEq] at h
      obtain ⟨rfl, rfl⟩ := h
      rw [hg]
      exact ⟨fun _ h => h, fun n m ρ ρ' L o _ hf => hf⟩
    · cases h
/-- A slot that always holds one thing: a pointer, a function, a literal. -/
def litEq (N : Nat) (a b : SV) : Bool :=
  match a, b with
  | .p i o, .p i' o' => Nat.beq i i' && Nat.beq o o' && Nat.blt i N
  | .sl i o l c, .sl i' o' l' c' => Nat.beq i i' && Nat.beq o o' && Nat.beq l l' && Nat.beq c c' && Nat.blt i N
  | .yl i, .yl i' => Nat.beq i i' && Nat.blt i N
  | .fn f [], .fn f' [] => Nat.beq f f'
  | .k (.int q i), .k (.int q' i') => decide (q = q') && decide (i = i')
  | .k (.bool x), .k (.bool y) => x == y
  | .k (.slice none 0 0), .k (.slice none 0 0) => true
  | _, _ => false
theorem litEq_ok {a b : SV} (h : litEq N a b = true) : a = b ∧ Bl N b := by
  unfold litEq at h
  split at h
  · simp only [Bool.and_eq_true] at h
    refine ⟨by rw [beq_of h.1.1, beq_of h.1.2], fun n m ρ ρ' x hm ha hf => ?_⟩
    have hlt := Nat.le_of_ble_eq_true h.2
    rw [beq_of h.1.1] at hlt
    obtain ⟨_, rfl⟩ := hf
    exact ⟨by omega, by rw [ha.1 _ hlt]⟩
  · simp only [Bool.and_eq_true] at h
    refine ⟨by rw [beq_of h.1.1.1.1, beq_of h.1.1.1.2, beq_of h.1.1.2, beq_of h.1.2], fun n m ρ ρ' x hm ha hf => ?_⟩
    have hlt := Nat.le_of_ble_eq_true h.2
    rw [beq_of h.1.1.1.1] at hlt
    obtain ⟨_, rfl⟩ := hf
    exact ⟨by omega, by rw [ha.1 _ hlt]⟩
  · simp only [Bool.and_eq_true] at h
    refine ⟨by rw [beq_of h.1], fun n m ρ ρ' x hm ha hf => ?_⟩
    have hlt := Nat.le_of_ble_eq_true h.2
    rw [beq_of h.1] at hlt
    obtain ⟨_, rfl⟩ := hf
    exact ⟨by omega, by rw [ha.1 _ hlt]⟩
  · refine ⟨by rw [beq_of h], fun n m ρ ρ' x _ _ hf => ?_⟩
    obtain ⟨l, e, hl⟩ := hf
    have := fits_nil hl
    subst this
    exact ⟨[], e, trivial⟩
  · simp only [Bool.and_eq_true, decide_eq_true_eq] at h
    exact ⟨by rw [h.1, h.2], fun _ _ _ _ _ _ _ h => h⟩
  · rename_i x y
    have : x = y := by simpa using h
    exact ⟨by rw [this], fun _ _ _ _ _ _ _ h => h⟩
  · exact ⟨rfl, fun _ _ _ _ _ _ _ h => h⟩
  · cases h
def LP.fix (N i : Nat) (v : SV) : LP N Unit where
  R := 0
  read σ := bif litEq N (σ.slot i) v then some ((), [], []) else none
  ents _ _ := [(i, v)]
  rows _ := []
  objs _ _ := []
  es := [i]
  os := []
  eseq _ _ := rfl
  oseq _ _ := rfl
  rlen _ := rfl
  ilen σ g ps ids h := by
    cases hb : litEq N (σ.slot i) v with
    | false => rw [hb] at h; cases h
    | true =>
      rw [hb] at h
      simp only [cond_true, Option.some.injEq, Prod.mk.injEq] at h
      rw [← h.2.2]; rfl
  ok k0 σ g ps ids h hp := by
    cases hb : litEq N (σ.slot i) v with
    | false => rw [hb] at h; cases h
    | true =>
      rw [hb] at h
      simp only [cond_true, Option.some.injEq, Prod.mk.injEq] at h
      obtain ⟨_, rfl, rfl⟩ := h
      obtain ⟨h1, h2⟩ := litEq_ok hb
      refine ⟨fun k t sz el l h => by simp at h, fun id so h => by simp at h, fun j s h => ?_⟩
      simp only [List.mem_singleton, Prod.mk.injEq] at h
      obtain ⟨rfl, rfl⟩ := h
      exact ent_bl (fun n ρ x hf => by rw [h1] at hf; exact hf) h2
def LP.pair (A : LP N γ) (B : LP N δ) : LP N (γ × δ) where
  R := A.R + B.R
  read σ := match A.read σ with
    | some (a, ps, is) => match B.read σ with
      | some (b, qs, js) => some ((a, b), ps ++ qs, is ++ js)
      | none => none
    | none => none
  ents k0 g := A.ents k0 g.1 ++ B.ents (k0 + A.R) g.2
  rows g := A.rows g.1 ++ B.rows g.2
  objs k0 g := A.objs k0 g.1 ++ B.objs (k0 + A.R) g.2
  es := A.es ++ B.es
  os := A.os ++ B.os
  eseq k g := by simp [A.eseq, B.eseq]
  oseq k g := by simp [A.oseq, B.oseq]
  rlen g := by simp [A.rlen, B.rlen]
  ilen σ g ps ids h := by
    split at h
    · rename_i a ps0 is ha
      split at h
      · rename_i b qs js hb
        simp only [Option.some.injEq, Prod.mk.injEq] at h
        obtain ⟨rfl, rfl, rfl⟩ := h
        simp [A.ilen _ _ _ _ ha, B.ilen _ _ _ _ hb]
      · cases h
    · cases h
  ok k0 σ g ps ids h hp := by
    split at h
    · rename_i a ps0 is ha
      split at h
      · rename_i b qs js hb
        simp only [Option.some.injEq, Prod.mk.injEq] at h
        obtain ⟨rfl, rfl, rfl⟩ := h
        have ra := A.ok k0 _ _ _ _ ha fun p h => hp p (List.mem_append_left _ h)
        have rb := B.ok (k0 + A.R) _ _ _ _ hb fun p h => hp p (List.mem_append_right _ h)
        have la := A.ilen _ _ _ _ ha
        have lr := A.rlen a
        simp only
        refine ⟨fun k t sz el l h => ?_, fun id so h => ?_, fun j s h => ?_⟩
        · by_cases hk : k < A.R
          · rw [List.getElem?_append_left (by omega)] at h
            rw [List.getElem?_append_left (by omega)]
            exact ra.row k t sz el l h
          · rw [List.getElem?_append_right (by omega)] at h
            rw [List.getElem?_append_right (by omega), la]
            rw [lr] at h
            exact rb.row (k - A.R) t sz el l h
        · rcases List.mem_append.1 h with h | h
          · obtain ⟨o1, o2⟩ := ra.obj id so h
            exact ⟨o1, fun n m ρ ρ' L o hr => o2 n m ρ ρ' L o hr.left⟩
          · obtain ⟨o1, o2⟩ := rb.obj id so h
            exact ⟨o1, fun n m ρ ρ' L o hr => o2 n m ρ ρ' L o (la ▸ hr.right)⟩
        · rcases List.mem_append.1 h with h | h
          · exact fun n m ρ ρ' x hr => ra.ent j s h n m ρ ρ' x hr.left
          · exact fun n m ρ ρ' x hr => rb.ent j s h n m ρ ρ' x (la ▸ hr.right)
      · cases h
    · cases h
/-- The same under another name. -/
def LP.iso (A : LP N γ) (f : γ → δ) (g : δ → γ) (hgf : ∀ a, g (f a) = a) : LP N δ where
  R := A.R
  read σ := match A.read σ with
    | some (a, ps, is) => some (f a, ps, is)
    | none => none
  ents k d := A.ents k (g d)
  rows d := A.rows (g d)
  objs k d := A.objs k (g d)
  es := A.es
  os := A.os
  eseq k d := A.eseq _ _
  oseq k d := A.oseq _ _
  rlen d := A.rlen _
  ilen σ d ps ids h := by
    split at h
    · rename_i a ps0 is ha
      simp only [Option.some.injEq, Prod.mk.injEq] at h
      obtain ⟨rfl, rfl, rfl⟩ := h
      exact A.ilen _ _ _ _ ha
    · cases h
  ok k0 σ d ps ids h hp := by
    split at h
    · rename_i a ps0 is ha
      simp only [Option.some.injEq, Prod.mk.injEq] at h
      obtain ⟨rfl, rfl, rfl⟩ := h
      rw [hgf]
      exact A.ok _ _ _ _ _ ha hp
    · cases h
end
end Go.Sx

/- Contracts of loops: they are sound. -/
namespace Go.Sx
open Go.RowKit

def dstsOf : Code → List Nat
  | .region _ ops _ => ops.toList.filterMap (·.dst)
  | .seq a b => dstsOf a ++ dstsOf b
  | .cond _ a b => dstsOf a ++ dstsOf b
  | .block _ c => dstsOf c
  | .scope c => dstsOf c
  | .loop c => dstsOf c
  | _ => []
def rowsL : Nat → List RowD → List (Nat × SO)
  | _, [] => []
  | i, (t, sz, el, l) :: r => (i, .row t sz (.fn el) l) :: rowsL (i + 1) r
def injL {N : Nat} {γ : Type} (A : LP N γ) (W : List Nat) (σ : St) (ds : List Nat) (g : γ) : St :=
  ⟨σ.n, A.ents 0 g ++ (W.map (fun i => (i, SV.u)) ++ σ.t), ⟨σ.h.nx + A.R, whole (rowsL σ.h.nx (A.rows g)) ++ (whole (A.objs 0 g) ++ (whole (ds.map (fun i => (i, SO.dead))) ++ σ.h.l)), σ.h.b⟩, σ.d, σ.b⟩
def isIn (i : Nat) : List Nat → Bool
  | [] => false
  | j :: r => bif Nat.beq i j then true else isIn i r
theorem isIn_mem {i : Nat} : ∀ {l : List Nat}, isIn i l = true ↔ i ∈ l
  | [] => by simp [isIn]
  | j :: r => by
    simp only [isIn, List.mem_cons]
    cases hb : Nat.beq i j with
    | true => simp [beq_of hb]
    | false =>
      simp only [cond_false]
      rw [isIn_mem]
      constructor
      · exact .inr
      · rintro (rfl | h)
        · rw [Nat.beq_refl] at hb; cases hb
        · exact h
theorem isIn_not {i : Nat} {l : List Nat} (h : isIn i l = false) : i ∉ l := fun hm => by rw [isIn_mem.2 hm] at h; cases h
def idsOk (N : Nat) : List (Option Nat) → Bool
  | [] => true
  | none :: r => idsOk N r
  | some j :: r => Nat.ble N j && (!isIn j (r.filterMap fun x => x) && idsOk N r)
def chkL {N : Nat} {γ : Type} (A : LP N γ) (W DL : List Nat) (n0 : Nat) (y : St) : Bool :=
  ((jkeys y.t []).all fun i => isIn i A.es || isIn i W) && (((jkeys y.h.l []).all fun i => Nat.ble N i || isIn i A.os) && (natsEq y.d DL && (Nat.beq y.n n0 && A.os.all fun i => Nat.blt i N)))

theorem rowsL_get {i : Nat} : ∀ {r : List RowD} {k : Nat} (d : SO), (∀ q, i = k + q → q < r.length → ∃ t sz el l, r[q]? = some (t, sz, el, l) ∧ look d i (rowsL k r) = .row t sz (.fn el) l) ∧ ((i < k ∨ k + r.length ≤ i) → look d i (rowsL k r) = d)
  | [], k, d => ⟨fun q _ h => by simp at h, fun _ => rfl⟩
  | (t, sz, el, l) :: r, k, d => by
    obtain ⟨h1, h2⟩ := rowsL_get (i := i) (r := r) (k := k + 1) d
    constructor
    · intro q hq hlt
      simp only [rowsL, look_cons]
      by_cases hik : i = k
      · rw [if_pos hik]
        have : q = 0 := by omega
        subst this
        exact ⟨t, sz, el, l, rfl, rfl⟩
      · rw [if_neg hik]
        obtain ⟨q', rfl⟩ : ∃ q', q = q' + 1 := ⟨q - 1, by omega⟩
        obtain ⟨t', sz', el', l', e1, e2⟩ := h1 q' (by omega) (by simpa using hlt)
        exact ⟨t', sz', el', l', by simpa using e1, e2⟩
    · intro h
      simp only [rowsL, look_cons]
      simp only [List.length_cons] at h
      rw [if_neg (by omega)]
      exact h2 (by omega)
theorem look_or {α : Type} (d : α) (i : Nat) : ∀ (l : List (Nat × α)), (i, look d i l) ∈ l ∨ i ∉ l.map (·.1)
  | [] => .inr (by simp)
  | (j, x) :: r => by
    rw [look_cons]
    by_cases hij : i = j
    · subst hij; rw [if_pos rfl]; exact .inl (List.mem_cons_self ..)
    · rw [if_neg hij]
      rcases look_or d i r with h | h
      · exact .inl (List.mem_cons_of_mem _ h)
      · refine .inr ?_
        simp only [List.map_cons, List.mem_cons, not_or]
        exact ⟨hij, h⟩
theorem look_dead (i : Nat) (d : SO) (l : List Nat) (h : i ∈ l) : look d i (l.map fun i => (i, SO.dead)) = .dead := by
  rcases look_or d i (l.map fun i => (i, SO.dead)) with h1 | h1
  · obtain ⟨j, _, e⟩ := List.mem_map.1 h1
    simp only [Prod.mk.injEq] at e
    exact e.2.symm
  · exact absurd (by simpa using h) h1

section
variable {M : Nat → Prop} {w0 w w00 : World} {ρ ρ0 : Rh} {N : Nat} {γ : Type}
/-- What is carried is laid anew over the state at the loop's head. -/
theorem inj_ok {A : LP N γ} {W ds : List Nat} {σ0 σ : St} {a a0 : Act} {g : γ} {ids : List (Option Nat)} (h0 : Mod M w0 ρ0 σ0 a0 w00) (hm : Mod M w0 ρ σ a w) (hN : σ0.h.nx = N) (hNle : N ≤ σ.h.nx)
    (hn : σ.n = σ0.n) (hd : σ.d = σ0.d) (rel : Rel N 0 σ ids (A.ents 0 g) (A.rows g) (A.objs 0 g)) (hil : ids.length = A.R)
    (hid : ∀ (k k' j : Nat), ids[k]? = some (some j) → ids[k']? = some (some j) → k = k') (hj : ∀ (k j : Nat), ids[k]? = some (some j) → N ≤ j ∨ j ∈ ds) (hob : ∀ id, id ∈ A.os → id < N ∧ id ∉ ds)
    (hs : ∀ i, i ∈ A.es ∨ i ∈ W ∨ σ.slot i = σ0.slot i) (hh : ∀ id, id < N → id ∈ A.os ∨ id ∈ ds ∨ σ.h.get id = σ0.h.get id) :
    ∃ ρ', Agree N ρ ρ' ∧ Mod M w0 ρ' (injL A W σ0 ds g) a w := by
  let ρ' : Rh := ⟨fun k => if N ≤ k ∧ k < N + A.R then (match ids[k - N]? with | some (some j) => ρ j | _ => ⟨0, 0, 0, true⟩) else ρ k, ρ.mem, ρ.lo⟩
  have hag : Agree N ρ ρ' := ⟨fun i hi => by show (if _ then _ else _) = _; rw [if_neg (by omega)], fun _ _ h => h, rfl⟩
  have hρ : ∀ (k j : Nat), k < A.R → ids[k]? = some (some j) → ρ' (N + k) = ρ j := fun k j hk hj => by
    show (if _ then _ else _) = _
    rw [if_pos (by omega), show N + k - N = k by omega, hj]
  have hρn : ∀ k, k < A.R → ids[k]? = some none → ρ' (N + k) = ⟨0, 0, 0, true⟩ := fun k hk hj => by
    show (if _ then _ else _) = _
    rw [if_pos (by omega), show N + k - N = k by omega, hj]
  have hρl : ∀ k, k < N → ρ' k = ρ k := fun k hk => hag.1 k hk
  have hrl := A.rlen g
  have hrn : Rn N 0 ids (N + A.R) ρ ρ' := ⟨by rw [hil]; omega, hag, fun k j hk => by
      have hlt : k < ids.length := by
        by_cases h : k < ids.length
        · exact h
        · rw [List.getElem?_eq_none (by omega)] at hk; cases hk
      simpa using hρ k j (by omega) hk, fun k hk => by
      have hlt : k < ids.length := by
        by_cases h : k < ids.length
        · exact h
        · rw [List.getElem?_eq_none (by omega)] at hk; cases hk
      simpa using hρn k (by omega) hk⟩
  -- what is known of each block
  have hget : ∀ k, (∃ q t sz el l, k = N + q ∧ q < A.R ∧ (A.rows g)[q]? = some (t, sz, el, l) ∧ (injL A W σ0 ds g).h.get k = .row t sz (.fn el) l) ∨
      (k ∈ A.os ∧ (k, (injL A W σ0 ds g).h.get k) ∈ A.objs 0 g) ∨ (injL A W σ0 ds g).h.get k = .dead ∨ (k < N ∧ k ∉ A.os ∧ k ∉ ds ∧ (injL A W σ0 ds g).h.get k = σ0.h.get k) := fun k => by
    have e : (injL A W σ0 ds g).h.get k = look (look (look (lookE (lookE .dead k σ0.h.b) k σ0.h.l) k (ds.map fun i => (i, SO.dead))) k (A.objs 0 g)) k (rowsL N (A.rows g)) := by
      simp only [injL, SH.get, lookE_append, lookE_whole, hN]
    obtain ⟨r1, r2⟩ := rowsL_get (i := k) (r := A.rows g) (k := N) (look (look (lookE (lookE .dead k σ0.h.b) k σ0.h.l) k (ds.map fun i => (i, SO.dead))) k (A.objs 0 g))
    by_cases hk : N ≤ k ∧ k < N + A.R
    · obtain ⟨t, sz, el, l, e1, e2⟩ := r1 (k - N) (by omega) (by omega)
      exact .inl ⟨k - N, t, sz, el, l, by omega, by omega, e1, by rw [e, e2]⟩
    · rw [r2 (by omega)] at e
      rcases look_or (look (lookE (lookE .dead k σ0.h.b) k σ0.h.l) k (ds.map fun i => (i, SO.dead))) k (A.objs 0 g) with h | h
      · refine .inr (.inl ⟨?_, by rw [e]; exact h⟩)
        rw [← A.oseq 0 g]
        exact List.mem_map.2 ⟨_, h, rfl⟩
      · rw [look_not _ _ h] at e
        rw [A.oseq 0 g] at h
        by_cases hkd : k ∈ ds
        · exact .inr (.inr (.inl (by rw [e, look_dead _ _ _ hkd])))
        · rw [look_not _ _ (by simpa using hkd)] at e
          by_cases hkN : k < N
          · exact .inr (.inr (.inr ⟨hkN, h, hkd, e⟩))
          · refine .inr (.inr (.inl ?_))
            have : σ0.h.get k = .dead := by
              cases hg : σ0.h.get k with
              | dead => rfl
              | _ => have := h0.hp.lt k (by rw [hg]; rfl); omega
            rw [e]; exact this
  -- own blocks: where they come from
  have hsrc : ∀ k, ((injL A W σ0 ds g).h.get k).own (ρ' k) → ∃ j, (σ.h.get j).own (ρ j) ∧ ρ' k = ρ j ∧ ((∃ q, k = N + q ∧ q < A.R ∧ ids[q]? = some (some j)) ∨ (k = j ∧ k < N ∧ k ∉ ds)) := fun k hk => by
    rcases hget k with ⟨q, t, sz, el, l, rfl, hq, hr, e⟩ | ⟨ho, e⟩ | e | ⟨hkN, hko, hkd, e⟩
    · rw [e] at hk
      rcases (rel.row q t sz el l hr).2 with ⟨hi, _⟩ | ⟨j, el', m, hi, hgj, _⟩
      · rw [hρn q hq hi] at hk; cases hk
      · rw [hρ q j hq hi] at hk ⊢
        exact ⟨j, by rw [hgj]; exact hk, rfl, .inl ⟨q, rfl, hq, hi⟩⟩
    · have := hob k ho
      rw [hρl k this.1] at hk
      exact ⟨k, (rel.obj _ _ e).1 _ hk, hρl k this.1, .inr ⟨rfl, this.1, this.2⟩⟩
    · rw [e] at hk; exact hk.elim
    · rw [e, hρl k hkN] at hk
      rcases hh k hkN with h | h | h
      · exact absurd h hko
      · exact absurd h hkd
      · exact ⟨k, by rw [h]; exact hk, hρl k hkN, .inr ⟨rfl, hkN, hkd⟩⟩
  refine ⟨ρ', hag, ⟨hm.tm.1.trans hn, fun i hi => ?_⟩, ?_, fun i hi => ?_, ?_⟩
  · -- slots
    have hi' : i < σ.n := by rw [hn]; exact hi
    have hf := hm.tm.2 i hi'
    rw [St.look_lg] at hf ⊢
    have e : (injL A W σ0 ds g).slot i = look (look (look (look (.k undef) i σ0.b) i σ0.t) i (W.map fun i => (i, SV.u))) i (A.ents 0 g) := by
      simp only [injL, St.slot, look_append]
    show ((injL A W σ0 ds g).slot i).fit (σ0.h.nx + A.R) ρ' _
    rw [hN]
    rcases look_or (look (look (look (.k undef) i σ0.b) i σ0.t) i (W.map fun i => (i, SV.u))) i (A.ents 0 g) with h | h
    · rw [← e] at h
      exact rel.ent i _ h _ _ _ _ _ hrn hf
    · rw [look_not _ _ h] at e
      by_cases hiW : i ∈ W
      · have : (injL A W σ0 ds g).slot i = .u := by
          rw [e]
          rcases look_or (look (look (.k undef) i σ0.b) i σ0.t) i (W.map fun i => (i, SV.u)) with h1 | h1
          · obtain ⟨j, _, e⟩ := List.mem_map.1 h1
            simp only [Prod.mk.injEq] at e
            exact e.2.symm
          · exact absurd (by simpa using hiW) h1
        rw [this]; trivial
      · rw [look_not _ _ (by simpa using hiW)] at e
        rw [A.eseq] at h
        rcases hs i with h1 | h1 | h1
        · exact absurd h1 h
        · exact absurd h1 hiW
        · have hf0 := h0.tm.2 i hi
          rw [St.look_lg, hN] at hf0
          have e' : (injL A W σ0 ds g).slot i = σ0.slot i := e
          rw [e']
          rw [h1] at hf
          exact fit_low (Nat.le_add_right _ _) hag _ _ _ hf0 hf
  · -- marks
    show a.defers = σ0.d.map (markOf ρ')
    rw [hm.df, hd]
    refine (marks_agree hag σ0.d fun i hi => ?_).symm
    rw [← hN]; exact h0.dl i hi
  · show i < σ0.h.nx + A.R
    have := h0.dl i hi
    omega
  · -- memory
    exact {
      os := hm.hp.os
      tape := hm.hp.tape
      output := hm.hp.output
      size := hm.hp.size
      block := hm.hp.block
      lt := fun k hl => by
        show k < σ0.h.nx + A.R
        rw [hN]
        rcases hget k with ⟨q, t, sz, el, l, rfl, hq, _⟩ | ⟨ho, _⟩ | e | ⟨hkN, _⟩
        · omega
        · have := (hob k ho).1; omega
        · rw [e] at hl; cases hl
        · omega
      ob := fun k => by
        show ((injL A W σ0 ds g).h.get k).fit (σ0.h.nx + A.R) ρ' (ρ' k) _
        rw [hN]
        rcases hget k with ⟨q, t, sz, el, l, rfl, hq, hr, e⟩ | ⟨ho, e⟩ | e | ⟨hkN, hko, hkd, e⟩
        · rw [e]
          obtain ⟨hcl, hor⟩ := rel.row q t sz el l hr
          rcases hor with ⟨hi, rfl⟩ | ⟨j, el', m, hi, hgj, hlm, himp⟩
          · rw [hρn q hq hi]
            exact ⟨Nat.zero_le _, .inl ⟨rfl, rfl⟩⟩
          · rw [hρ q j hq hi]
            have hf := hm.hp.ob j
            rw [hgj] at hf
            refine ⟨by have := hf.1; omega, ?_⟩
            rcases hf.2 with ⟨h1, h2⟩ | ⟨h1, h2, c, fz, h3, h3', h4, h5, h6, h7⟩
            · exact .inl ⟨h1, by omega⟩
            · refine .inr ⟨h1, h2, c, fz, h3, h3', h4, by omega, h6, fun e he => ?_⟩
              obtain ⟨v, q1, q2, q3⟩ := h7 e (by omega)
              exact ⟨v, q1, hcl e σ.h.nx _ ρ ρ' v (fun _ _ h => h) (himp e he _ _ _ q2), q3⟩
        · have hk := (hob k ho).1
          rw [hρl k hk]
          exact (rel.obj _ _ e).2 σ.h.nx _ ρ ρ' _ _ hrn (hm.hp.ob k)
        · rw [e]; trivial
        · rw [e, hρl k hkN]
          have hf := hm.hp.ob k
          have hf0 := h0.hp.ob k
          rw [hN] at hf0
          rcases hh k hkN with h | h | h
          · exact absurd h hko
          · exact absurd h hkd
          · rw [h] at hf
            exact so_low (Nat.le_add_right _ _) hag hf0 hf
      ow := fun k hk => by
        obtain ⟨j, h1, h2, _⟩ := hsrc k hk
        rw [h2]; exact hm.hp.ow j h1
      fz := hm.hp.fz
      sep := fun k hk => by
        obtain ⟨j, h1, h2, _⟩ := hsrc k hk
        rw [h2]; exact hm.hp.sep j h1
      old := hm.hp.old
      inj := fun k k' hk hk' he => by
        obtain ⟨j, h1, h2, h3⟩ := hsrc k hk
        obtain ⟨j', h1', h2', h3'⟩ := hsrc k' hk'
        rw [h2, h2'] at he
        have hjj := hm.hp.inj j j' h1 h1' he
        subst hjj
        rcases h3 with ⟨q, rfl, hq, hi⟩ | ⟨rfl, hkN, hkd⟩ <;> rcases h3' with ⟨q', rfl, hq', hi'⟩ | ⟨rfl, hkN', hkd'⟩
        · rw [hid q q' j hi hi']
        · rcases hj q k' hi with h | h
          · omega
          · exact absurd h hkd'
        · rcases hj q' k hi' with h | h
          · omega
          · exact absurd h hkd
        · rfl }
end

/-! ### loops -/
section
variable {P : Program} {Γ : Gam} {Λ : Lam} {N : Nat} {γ : Type}
def fdist (ids : List (Option Nat)) : List Nat := ids.filterMap fun x => x
theorem idsOk_ok : ∀ {ids : List (Option Nat)}, idsOk N ids = true → (∀ k k' j : Nat, ids[k]? = some (some j) → ids[k']? = some (some j) → k = k') ∧ ∀ k j : Nat, ids[k]? = some (some j) → N ≤ j
  | [], _ => ⟨fun k k' j h => by simp at h, fun k j h => by simp at h⟩
  | none :: r, h => by
    obtain ⟨h1, h2⟩ := idsOk_ok (ids := r) h
    refine ⟨fun k k' j hk hk' => ?_, fun k j hk => ?_⟩
    · cases k with
      | zero => simp at hk
      | succ k => cases k' with
        | zero => simp at hk'
        | succ k' => rw [h1 k k' j (by simpa using hk) (by simpa using hk')]
    · cases k with
      | zero => simp at hk
      | succ k => exact h2 k j (by simpa using hk)
  | some i :: r, h => by
    simp only [idsOk, Bool.and_eq_true, Bool.not_eq_true'] at h
    obtain ⟨h0, hni, hr⟩ := h
    obtain ⟨h1, h2⟩ := idsOk_ok (ids := r) hr
    have hn := isIn_not hni
    have nin : ∀ k : Nat, r[k]? = some (some i) → False := fun k hk => hn (List.mem_filterMap.2 ⟨some i, List.mem_of_getElem? hk, rfl⟩)
    refine ⟨fun k k' j hk hk' => ?_, fun k j hk => ?_⟩
    · cases k with
      | zero =>
        simp at hk
        subst hk
        cases k' with
        | zero => rfl
        | succ k' => exact (nin k' (by simpa using hk')).elim
      | succ k => cases k' with
        | zero =>
          simp at hk'
          subst hk'
          exact (nin k (by simpa using hk)).elim
        | succ k' => rw [h1 k k' j (by simpa using hk) (by simpa using hk')]
    · cases k with
      | zero => simp at hk; subst hk; exact Nat.le_of_ble_eq_true h0
      | succ k => exact h2 k j (by simpa using hk)

/-- What a round is to come to: one more round, nearer to the end, or the end. -/
def StepP (Inv : γ → List Prop) (m : γ → Nat) (G : γ → Tr (Ex × γ)) (g : γ) (K : Ex × γ → Prop) (x : Ex × γ) : Prop :=
  match x.1 with
  | .normal => (∀ p ∈ Inv x.2, p) ∧ m x.2 < m g ∧ (G x.2).Holds K
  | _ => K x
/-- One round, from what is carried to what is carried. -/
def bT (P : Program) (Γ : Gam) (Λ : Lam) (n f : Nat) (rd : Option Nat) (body : Code) (A : LP N γ) (DL : List Nat) (n0 : Nat) (σ0 : St) (ds : List Nat) (g : γ) : Tr (Ex × γ) :=
  (exec P Γ Λ n (some f) rd body (injL A (dstsOf body) σ0 ds g).base).bind fun y =>
    match chkL A (dstsOf body) DL n0 y.2 with
    | true => match A.read y.2 with
      | some (g', ps, ids) => match idsOk N ids with
        | true => asks ps (.ret (y.1, g'))
        | false => .bad 640
      | none => .bad 641
    | false => .bad 642
def chkE {N : Nat} {γ : Type} (A : LP N γ) (DL : List Nat) (n0 : Nat) (σ : St) (ids : List (Option Nat)) : Bool :=
  Nat.beq σ.n n0 && (Nat.beq σ.h.nx N && (natsEq σ.d DL && (idsOk 0 ids && A.os.all fun i => Nat.blt i N && !isIn i (fdist ids))))
def loopG (body : Code) (A : LP N γ) (DL : List Nat) (n0 : Nat) (Inv : γ → List Prop) (G : γ → Tr (Ex × γ)) (σ : St) : Tr (Ex × St) :=
  match A.read σ with
  | some (g, ps, ids) => match chkE A DL n0 σ ids with
    | true => asks (ps ++ Inv g) ((G g).map fun x => (x.1, injL A (dstsOf body) σ (fdist ids) x.2))
    | false => .bad 643
  | none => .bad 644
def loopC (body : Code) (A : LP N γ) (DL : List Nat) (n0 : Nat) (Inv : γ → List Prop) (G : γ → Tr (Ex × γ)) : LCon := ⟨loopG body A DL n0 Inv G, fun σ => by
  unfold loopG
  split
  · split
    · exact asks_each (Tr.each_map (q := fun _ => True) (fun x _ => ⟨rfl, rfl⟩) (each_true _))
    · trivial
  · trivial⟩

theorem subLoops_sub : ∀ (c : Code) (x : Code), x ∈ subLoops c → ∀ b ∈ subLoops x, b ∈ subLoops c
  | .seq a b, x, h, y, hy => by
    simp only [subLoops, List.mem_append] at h ⊢
    rcases h with h | h
    · exact .inl (subLoops_sub a x h y hy)
    · exact .inr (subLoops_sub b x h y hy)
  | .cond _ a b, x, h, y, hy => by
    simp only [subLoops, List.mem_append] at h ⊢
    rcases h with h | h
    · exact .inl (subLoops_sub a x h y hy)
    · exact .inr (subLoops_sub b x h y hy)
  | .block _ c, x, h, y, hy => by simp only [subLoops] at h ⊢; exact subLoops_sub c x h y hy
  | .scope c, x, h, y, hy => by simp only [subLoops] at h ⊢; exact subLoops_sub c x h y hy
  | .loop c, x, h, y, hy => by
    simp only [subLoops, List.mem_cons] at h ⊢
    rcases h with rfl | h
    · exact .inr hy
    · exact .inr (subLoops_sub c x h y hy)
  | .skip, x, h, _, _ | .label _, x, h, _, _ | .ret, x, h, _, _ | .exit _, x, h, _, _ | .goto _, x, h, _, _ | .region .., x, h, _, _ | .rangeFunc .., x, h, _, _ | .refuse _, x, h, _, _ => by simp [subLoops] at h
theorem only_loop {l : List Code} {k : Nat} (hu : (l.filter fun c => Nat.beq (lkey c) k).length = 1) {b : Code} (hb : b ∈ l) (hk : lkey b = k) : b = (l.find? fun c => Nat.beq (lkey c) k).getD .skip := by
  obtain ⟨x, hx⟩ := List.length_eq_one_iff.1 hu
  have h1 : b ∈ l.filter fun c => Nat.beq (lkey c) k := List.mem_filter.2 ⟨hb, by simp [hk]⟩
  rw [hx, List.mem_singleton] at h1
  have h2 : l.find? (fun c => Nat.beq (lkey c) k) = some x := by
    rw [← List.head?_filter, hx]; rfl
  rw [h2, h1]; rfl

theorem loop_rounds (hΓ : ∀ f g, Γ.g f = some g → FnOk P f g) (hΛ : ∀ f k L, Λ f k = some L → ∀ b ∈ loopsOf P f, lkey b = k → LoopOk P b L.g) {n f n0 : Nat} {body : Code} (hsub : ∀ b ∈ subLoops body, b ∈ loopsOf P f)
    {A : LP N γ} {DL : List Nat} {Inv : γ → List Prop} {G : γ → Tr (Ex × γ)} {m : γ → Nat} {rd : Option Nat} {M : Nat → Prop} {w0 w00 : World} {ρ0 : Rh} {σ0 : St} {a0 : Act} {ds : List Nat} (h0 : Mod M w0 ρ0 σ0 a0 w00) (hn0 : σ0.n = n0) (hN : σ0.h.nx = N) (hDL : σ0.d = DL)
    (hob : ∀ id, id ∈ A.os → id < N ∧ id ∉ ds) (hrd : ∀ l, rd = some l → l < N)
    (hbody : ∀ g, (∀ p ∈ Inv g, p) → ∀ K : Ex × γ → Prop, (G g).Holds K → (bT P Γ Λ n f rd body A DL n0 σ0 ds g).Holds (StepP Inv m G g K)) {K : Ex × γ → Prop} {Q : Exit → Act → World → Prop} {ρb : Rh} (hQ : ∀ e g' ρ' a w, K (e, g') → Agree N ρb ρ' → Mod M w0 ρ' (injL A (dstsOf body) σ0 ds g') a w → e ≠ .normal → Q (Ex.ex e) a w) :
    ∀ (k : Nat) (g : γ) (ρ : Rh) (a : Act) (w : World), m g < k → (∀ p ∈ Inv g, p) → (G g).Holds K → Agree N ρb ρ → Mod M w0 ρ (injL A (dstsOf body) σ0 ds g) a w → Code.roundsIn (Fw (rd.map fun l => (ρb l).blk)) 0 P body Q k a w
  | 0, g, ρ, a, w, hk, _, _, _, _ => by omega
  | k + 1, g, ρ, a, w, hk, hi, hG, hag, hm => by
    rw [roundsIn_succ]
    have hK := hbody g hi K hG
    unfold bT at hK
    have hex := exec_ok hΓ hΛ n (some f) rd body (by intro f' hf' b hb; injection hf' with hf'; subst hf'; exact hsub b hb)
    have hrd' : ∀ l, rd = some l → l < (injL A (dstsOf body) σ0 ds g).base.h.nx := fun l hl => by
      have := hrd l hl
      show l < σ0.h.nx + A.R
      omega
    have hon := exec_on (P := P) (Γ := Γ) (Λ := Λ) n (some f) rd body (injL A (dstsOf body) σ0 ds g).base
    have hwp := hex M w0 w ρ _ a _ hrd' (Tr.each_holds hon (Tr.holds_bind hK)) hm.base
    have hfw : Fw (rd.map fun l => (ρ l).blk) = Fw (rd.map fun l => (ρb l).blk) := fw_agree hrd hag
    rw [hfw] at hwp
    refine wpIn_mono hwp ?_
    rintro x a' w' ⟨e, y, ρ', rfl, ⟨hk1, hon1⟩, hny, hay, hmy⟩
    simp only at hk1 hon1
    have hlow : N ≤ (injL A (dstsOf body) σ0 ds g).base.h.nx := by show N ≤ σ0.h.nx + A.R; omega
    have hagy : Agree N ρb ρ' := hag.trans (Nat.le_refl _) ⟨fun i hi => hay.1 i (Nat.lt_of_lt_of_le hi hlow), hay.2⟩
    split at hk1
    · rename_i hchk
      split at hk1
      · rename_i g' ps ids hread
        split at hk1
        · rename_i hids
          obtain ⟨hps, hk1⟩ := asks_holds hk1
          have hk1 : StepP Inv m G g K (e, g') := hk1
          simp only [chkL, Bool.and_eq_true, List.all_eq_true, Bool.or_eq_true] at hchk
          obtain ⟨c1, c2, c3, c4, c5⟩ := hchk
          obtain ⟨i1, i2⟩ := idsOk_ok hids
          obtain ⟨ob1, ob2⟩ := hon1
          have hyn : y.n = σ0.n := by rw [hn0]; exact beq_of c4
          have hyd : y.d = σ0.d := by rw [hDL]; exact natsEq_ok c3
          obtain ⟨ρ'', ha'', hm''⟩ := inj_ok (A := A) (W := dstsOf body) (ds := ds) h0 hmy hN (Nat.le_trans hlow hny) hyn hyd (A.ok 0 y g' ps ids hread hps) (A.ilen _ _ _ _ hread) i1 (fun k j h => .inl (i2 k j h)) hob (fun i => by
              by_cases hes : i ∈ A.es
              · exact .inl hes
              by_cases hW : i ∈ dstsOf body
              · exact .inr (.inl hW)
              refine .inr (.inr ?_)
              have hni : i ∉ y.t.map (·.1) := fun h => by
                have := c1 i ((jkeys_mem _ _ _).2 (.inr h))
                rcases this with h | h
                · exact hes (isIn_mem.1 h)
                · exact hW (isIn_mem.1 h)
              unfold St.slot
              rw [look_not _ _ hni, ob1]
              simp only [St.base, injL, List.append_nil, List.nil_append, look_append]
              rw [look_not _ _ (by rw [A.eseq]; exact hes), look_not _ _ (by simpa using hW)]) (fun id hid => by
              by_cases hos : id ∈ A.os
              · exact .inl hos
              by_cases hds : id ∈ ds
              · exact .inr (.inl hds)
              refine .inr (.inr ?_)
              have hni : id ∉ y.h.l.map (·.1) := fun h => by
                have := c2 id ((jkeys_mem _ _ _).2 (.inr h))
                rcases this with h | h
                · have := Nat.le_of_ble_eq_true h; omega
                · exact hos (isIn_mem.1 h)
              obtain ⟨_, r2⟩ := rowsL_get (i := id) (r := A.rows g) (k := N) (look (look (lookE (lookE .dead id σ0.h.b) id σ0.h.l) id (ds.map fun i => (i, SO.dead))) id (A.objs 0 g))
              unfold SH.get
              rw [lookE_not _ _ hni, ob2]
              simp only [St.base, injL, lookE_append, lookE_whole, hN]
              rw [r2 (.inl hid), look_not _ _ (by rw [A.oseq]; exact hos), look_not _ _ (by simpa using hds)])
          have haq : Agree N ρb ρ'' := hagy.trans (Nat.le_refl _) ha''
          cases e with
          | normal => exact loop_rounds hΓ hΛ hsub h0 hn0 hN hDL hob hrd hbody hQ k g' ρ'' a' w' (by have h2 : m g' < m g := hk1.2.1; omega) hk1.1 hk1.2.2 haq hm''
          | exit id => exact hQ _ g' ρ'' a' w' hk1 haq hm'' (by simp)
          | goto id => exact hQ _ g' ρ'' a' w' hk1 haq hm'' (by simp)
          | ret => exact hQ _ g' ρ'' a' w' hk1 haq hm'' (by simp)
        · exact hk1.elim
      · exact hk1.elim
    · exact hk1.elim

theorem loop_ok (hΓ : ∀ f g, Γ.g f = some g → FnOk P f g) (hΛ : ∀ f k L, Λ f k = some L → ∀ b ∈ loopsOf P f, lkey b = k → LoopOk P b L.g) (n f key n0 : Nat) (A : LP N γ) (DL : List Nat) (Inv : γ → List Prop) (G : γ → Tr (Ex × γ)) (m : γ → Nat)
    (hu : ((loopsOf P f).filter fun c => Nat.beq (lkey c) key).length = 1)
    (hbody : ∀ (rd : Option Nat) (T B : List (Nat × SV)) (HL HB : List (Nat × SE)) (ds : List Nat) (g : γ), (∀ p ∈ Inv g, p) → ∀ K : Ex × γ → Prop, (G g).Holds K → (bT P Γ Λ n f rd (loopBody P f key) A DL n0 ⟨n0, T, ⟨N, HL, HB⟩, DL, B⟩ ds g).Holds (StepP Inv m G g K)) : ∀ b ∈ loopsOf P f, lkey b = key → LoopOk P b (loopC (loopBody P f key) A DL n0 Inv G).g := by
  intro b hb hk
  have hbe : b = loopBody P f key := only_loop hu hb hk
  intro M w0 w ρ σ a K rd hrd hK hm
  have hsub : ∀ x ∈ subLoops b, x ∈ loopsOf P f := fun x hx => by
    unfold loopsOf at hb ⊢
    split at hb
    · split at hb
      · rename_i fn _ c _
        exact subLoops_sub c b hb x hx
      · simp at hb
    · simp at hb
  subst hbe
  have hK : (loopG (loopBody P f key) A DL n0 Inv G σ).Holds K := hK
  unfold loopG at hK
  split at hK
  · rename_i g ps ids hread
    split at hK
    · rename_i hc
      obtain ⟨hps, hK⟩ := asks_holds hK
      have hK := Tr.holds_map hK
      simp only [chkE, Bool.and_eq_true, List.all_eq_true, Bool.not_eq_true'] at hc
      obtain ⟨c1, c2, c3, c4, c5⟩ := hc
      have e1 := beq_of c1
      have e2 := beq_of c2
      have e3 := natsEq_ok c3
      obtain ⟨i1, _⟩ := idsOk_ok c4
      have hob : ∀ id, id ∈ A.os → id < N ∧ id ∉ fdist ids := fun id h => by
        obtain ⟨h1, h2⟩ := c5 id h
        exact ⟨Nat.le_of_ble_eq_true h1, isIn_not h2⟩
      obtain ⟨ρ1, ha1, hm1⟩ := inj_ok (A := A) (W := dstsOf (loopBody P f key)) (ds := fdist ids) hm hm e2 (Nat.le_of_eq e2.symm) rfl rfl (A.ok 0 σ g ps ids hread fun p h => hps p (List.mem_append_left _ h)) (A.ilen _ _ _ _ hread) i1
        (fun k j h => .inr (List.mem_filterMap.2 ⟨some j, List.mem_of_getElem? h, rfl⟩)) hob (fun i => .inr (.inr rfl)) (fun id _ => .inr (.inr rfl))
      have hσ : σ = ⟨n0, σ.t, ⟨N, σ.h.l, σ.h.b⟩, DL, σ.b⟩ := by
        obtain ⟨n1, t1, ⟨nx1, l1, b1⟩, d1, bb1⟩ := σ
        simp only at e1 e2 e3
        subst e1; subst e2; subst e3; rfl
      have hrdN : ∀ l, rd = some l → l < N := fun l hl => by rw [← e2]; exact hrd l hl
      refine wpIn_loop_rounds (m g + 1) (loop_rounds (n := n) hΓ hΛ hsub hm e1 e2 e3 hob hrdN (m := m) (fun g hi K hG => ?_) (K := fun x => K (x.1, injL A (dstsOf (loopBody P f key)) σ (fdist ids) x.2)) (ρb := ρ) ?_ (m g + 1) g ρ1 a w (Nat.lt_succ_self _) (fun p h => hps p (List.mem_append_right _ h)) hK ha1 hm1)
      · have := hbody rd σ.t σ.b σ.h.l σ.h.b (fdist ids) g hi K hG
        rw [← hσ] at this
        exact this
      · intro e g' ρ' a' w' hk ha' hm' _
        refine ⟨e, _, ρ', rfl, hk, ?_, ?_, hm'⟩
        · show σ.h.nx ≤ σ.h.nx + A.R
          omega
        · rw [e2]; exact ha'
    · exact hK.elim
  · exact hK.elim
/-- Contracts of loops, a table. -/
def LTab (P : Program) := { l : List (Nat × Nat × LCon) // ∀ x ∈ l, ∀ b ∈ loopsOf P x.1, lkey b = x.2.1 → LoopOk P b x.2.2.g }
def LTab.nil : LTab P := ⟨[], fun x h => by simp at h⟩
def LTab.cons (t : LTab P) (f k : Nat) (c : LCon) (h : ∀ b ∈ loopsOf P f, lkey b = k → LoopOk P b c.g) : LTab P := ⟨(f, k, c) :: t.1, fun x hx => by
  rcases List.mem_cons.1 hx with rfl | hx
  · exact h
  · exact t.2 x hx⟩
def pickL (f k : Nat) : List (Nat × Nat × LCon) → Option LCon
  | [] => none
  | (j, i, c) :: r => bif Nat.beq f j && Nat.beq k i then some c else pickL f k r
theorem pickL_mem {f k : Nat} {c : LCon} : ∀ {l : List (Nat × Nat × LCon)}, pickL f k l = some c → (f, k, c) ∈ l
  | [], h => by cases h
  | (j, i, x) :: r, h => by
    simp only [pickL] at h
    cases hb : Nat.beq f j && Nat.beq k i with
    | true =>
      rw [hb] at h
      simp only [Bool.and_eq_true] at hb
      simp only [cond_true, Option.some.injEq] at h
      rw [h, beq_of hb.1, beq_of hb.2]
      exact List.mem_cons_self ..
    | false =>
      rw [hb] at h
      exact List.mem_cons_of_mem _ (pickL_mem h)
def LTab.lam (t : LTab P) : Lam := fun f k => pickL f k t.1
theorem LTab.ok (t : LTab P) : ∀ f k L, t.lam f k = some L → ∀ b ∈ loopsOf P f, lkey b = k → LoopOk P b L.g := fun f k L h => t.2 _ (pickL_mem h)
end
end Go.Sx

/- Chapter 2: summaries and times as plain data. -/
namespace Go.Proofs.Ytapmlfklkfgmoaa
open Go.RowKit Go.Sx

structure S where
  f : Int
  k : Int
  a : Int
  n : Int
  p0 : Int
  p1 : Int
  p2 : Int
  p3 : Int
deriving DecidableEq, Inhabited
abbrev eI : El Int := eInt .i64
abbrev I2 := Int × Int
abbrev I4 := Int × Int × Int × Int
abbrev e4 : El I4 := .pair eI (.pair eI (.pair eI eI))
abbrev I8 := Int × Int × Int × Int × I4
def S.ofP : I8 → S := fun (f, k, a, n, p0, p1, p2, p3) => ⟨f, k, a, n, p0, p1, p2, p3⟩
def S.toP (s : S) : I8 := (s.f, s.k, s.a, s.n, s.p0, s.p1, s.p2, s.p3)
def eS : El S := .iso (.pair eI (.pair eI (.pair eI (.pair eI e4)))) S.ofP S.toP (fun _ => rfl) (fun _ => rfl)
structure T where
  e : Int
  d : Int
  l0 : Int
  l1 : Int
  l2 : Int
  l3 : Int
deriving DecidableEq, Inhabited
abbrev I6 := Int × Int × I4
def T.ofP : I6 → T := fun (e, d, l0, l1, l2, l3) => ⟨e, d, l0, l1, l2, l3⟩
def T.toP (t : T) : I6 := (t.e, t.d, t.l0, t.l1, t.l2, t.l3)
def eT : El T := .iso (.pair eI (.pair eI e4)) T.ofP T.toP (fun _ => rfl) (fun _ => rfl)
abbrev dI : Dv Int := dInt .i64
abbrev dS : Dv S := .agg eS
abbrev dT : Dv T := .agg eT
abbrev dSE : Dv (S × Int) := .tup (.cons dS (.one dI))
abbrev dTE : Dv (T × Int) := .tup (.cons dT (.one dI))
abbrev aS : DA S := .one dS
abbrev aSS : DA (S × S) := .cons dS (.one dS)
abbrev aSSI : DA (S × S × Int) := .cons dS (.cons dS (.one dI))
abbrev aT : DA T := .one dT
abbrev aI : DA Int := .one dI
abbrev aII : DA (Int × Int) := .cons dI (.one dI)
abbrev aST : DA (S × T) := .cons dS (.one dT)
abbrev aTT : DA (T × T) := .cons dT (.one dT)
theorem puI (r : Int) : Pu (dI.enc r) := pu_v _
theorem puB (r : Bool) : Pu (dBool.enc r) := pu_v _
theorem pus4 (a b c d : Int) : Pus [.v (.int .i64 a), .v (.int .i64 b), .v (.int .i64 c), .v (.int .i64 d)] := pus_cons (pu_v _) (pus_cons (pu_v _) (pus_cons (pu_v _) (pus_cons (pu_v _) pus_nil)))
theorem puS (r : S) : Pu (dS.enc r) := pu_agg (pus_cons (pu_v _) (pus_cons (pu_v _) (pus_cons (pu_v _) (pus_cons (pu_v _) (pus4 _ _ _ _)))))
theorem puT (r : T) : Pu (dT.enc r) := pu_agg (pus_cons (pu_v _) (pus_cons (pu_v _) (pus4 _ _ _ _)))
theorem puSE (r : S × Int) : Pu (dSE.enc r) := pu_tup (pus_cons (puS _) (pus_cons (pu_v _) pus_nil))
theorem puTE (r : T × Int) : Pu (dTE.enc r) := pu_tup (pus_cons (puT _) (pus_cons (pu_v _) pus_nil))
def tab0 : PTab Try.prog := PTab.nil
end Go.Proofs.Ytapmlfklkfgmoaa

/- Chapter 2: the leaves. Printed by treegen.py. -/
namespace Go.Proofs.Ytapmlfklkfgmoaa
open Go.RowKit Go.Sx
set_option maxRecDepth 100000
set_option linter.unusedVariables false
def may_F (a : S) : Dv.T dBool :=
  bif
      !(decide (a.f < 0) || decide (a.f > 4)) && !(decide (a.n < 0) || decide (a.n > 4)) &&
          !(decide (a.k < 0) || (decide (a.k > a.f) || decide (IntKind.i64.wrap (a.k + a.n) > 4))) &&
        !(!(decide (a.a ≥ 0) && decide (a.a ≤ 1048576)) || a.k == 0 && a.a != 0) then
    bif !(decide (a.p0 ≥ 0) && decide (a.p0 ≤ 1048576)) || decide (0 ≥ a.n) && a.p0 != 0 then false
    else
      bif !(decide (a.p1 ≥ 0) && decide (a.p1 ≤ 1048576)) || decide (1 ≥ a.n) && a.p1 != 0 then false
      else
        bif !(decide (a.p2 ≥ 0) && decide (a.p2 ≤ 1048576)) || decide (2 ≥ a.n) && a.p2 != 0 then false
        else bif !(decide (a.p3 ≥ 0) && decide (a.p3 ≤ 1048576)) || decide (3 ≥ a.n) && a.p3 != 0 then false else true
  else false
theorem may_ok : FnPure Try.prog 45 aS dBool (fun g => may_F g) (fun _ => []) := pure_of_safe (Γ := (PTab.gamz tab0 [] [])) (Λ := noΛ) (PTab.okz tab0 [] []) noΛ_ok 100 default (fun g => by kernel_rfl) (fun g => by kernel_rfl)
def rcheck_F (a : S) : Dv.T dI :=
  bif
      decide (a.f < 0) ||
        (decide (a.f > 4) ||
          (decide (a.n < 0) ||
            (decide (a.n > 4) ||
              (decide (a.k < 0) ||
                (decide (a.k > a.f) ||
                  (decide (IntKind.i64.wrap (a.k + a.n) > 4) ||
                    (decide (a.a < 0) || (decide (a.a > 1048576) || a.k == 0 && a.a != 0)))))))) then
    20
  else
    bif decide (a.p0 < 0) || (decide (a.p0 > 1048576) || decide (0 ≥ a.n) && a.p0 != 0) then 20
    else
      bif decide (a.p1 < 0) || (decide (a.p1 > 1048576) || decide (1 ≥ a.n) && a.p1 != 0) then 20
      else
        bif decide (a.p2 < 0) || (decide (a.p2 > 1048576) || decide (2 ≥ a.n) && a.p2 != 0) then 20
        else bif decide (a.p3 < 0) || (decide (a.p3 > 1048576) || decide (3 ≥ a.n) && a.p3 != 0) then 20 else 0
theorem rcheck_ok : FnPure Try.prog 31 aS dI (fun g => rcheck_F g) (fun _ => []) := pure_of_safe (Γ := (PTab.gamz tab0 [] [])) (Λ := noΛ) (PTab.okz tab0 [] []) noΛ_ok 100 default (fun g => by kernel_rfl) (fun g => by kernel_rfl)
def tcheck_F (t : T) : Dv.T dI :=
  bif decide (t.e < 0) || (decide (t.e > 1073741824) || (decide (t.d < 0) || decide (t.d > 4))) then 10
  else
    bif decide (t.l0 < 0) || (decide (t.l0 > 1048576) || decide (0 ≥ t.d) && t.l0 != 0) then 10
    else
      bif decide (t.l1 < 0) || (decide (t.l1 > 1048576) || decide (1 ≥ t.d) && t.l1 != 0) then 10
      else
        bif decide (t.l2 < 0) || (decide (t.l2 > 1048576) || decide (2 ≥ t.d) && t.l2 != 0) then 10
        else bif decide (t.l3 < 0) || (decide (t.l3 > 1048576) || decide (3 ≥ t.d) && t.l3 != 0) then 10 else 0
theorem tcheck_ok : FnPure Try.prog 46 aT dI (fun g => tcheck_F g) (fun _ => []) := pure_of_safe (Γ := (PTab.gamz tab0 [] [])) (Λ := noΛ) (PTab.okz tab0 [] []) noΛ_ok 100 default (fun g => by kernel_rfl) (fun g => by kernel_rfl)
def rtcheck_F (t : T) : Dv.T dI :=
  bif decide (t.e < 0) || (decide (t.e > 1073741824) || (decide (t.d < 0) || decide (t.d > 4))) then 10
  else
    bif decide (t.l0 < 0) || (decide (t.l0 > 1048576) || decide (0 ≥ t.d) && t.l0 != 0) then 10
    else
      bif decide (t.l1 < 0) || (decide (t.l1 > 1048576) || decide (1 ≥ t.d) && t.l1 != 0) then 10
      else
        bif decide (t.l2 < 0) || (decide (t.l2 > 1048576) || decide (2 ≥ t.d) && t.l2 != 0) then 10
        else bif decide (t.l3 < 0) || (decide (t.l3 > 1048576) || decide (3 ≥ t.d) && t.l3 != 0) then 10 else 0
theorem rtcheck_ok : FnPure Try.prog 47 aT dI (fun g => rtcheck_F g) (fun _ => []) := pure_of_safe (Γ := (PTab.gamz tab0 [] [])) (Λ := noΛ) (PTab.okz tab0 [] []) noΛ_ok 100 default (fun g => by kernel_rfl) (fun g => by kernel_rfl)
def id_F (d : Int) : Dv.T dSE :=
  bif decide (d < 0) || decide (d > 4) then
    ({ f := 0, k := 0, a := 0, n := 0, p0 := 0, p1 := 0, p2 := 0, p3 := 0 }, 11)
  else ({ f := d, k := d, a := 0, n := 0, p0 := 0, p1 := 0, p2 := 0, p3 := 0 }, 0)
theorem id_ok : FnPure Try.prog 18 aI dSE (fun g => id_F g) (fun _ => []) := pure_of_safe (Γ := (PTab.gamz tab0 [] [])) (Λ := noΛ) (PTab.okz tab0 [] []) noΛ_ok 100 default (fun g => by kernel_rfl) (fun g => by kernel_rfl)
def enter_F (d : Int) : Dv.T dSE :=
  bif decide (d < 0) || decide (d > 3) then
    ({ f := 0, k := 0, a := 0, n := 0, p0 := 0, p1 := 0, p2 := 0, p3 := 0 }, 11)
  else ({ f := d, k := d, a := 0, n := 1, p0 := 0, p1 := 0, p2 := 0, p3 := 0 }, 0)
theorem enter_ok : FnPure Try.prog 24 aI dSE (fun g => enter_F g) (fun _ => []) := pure_of_safe (Γ := (PTab.gamz tab0 [] [])) (Λ := noΛ) (PTab.okz tab0 [] []) noΛ_ok 100 default (fun g => by kernel_rfl) (fun g => by kernel_rfl)
def leave_F (d : Int) : Dv.T dSE :=
  bif decide (d < 1) || decide (d > 4) then
    ({ f := 0, k := 0, a := 0, n := 0, p0 := 0, p1 := 0, p2 := 0, p3 := 0 }, 11)
  else ({ f := d, k := IntKind.i64.wrap (d - 1), a := 0, n := 0, p0 := 0, p1 := 0, p2 := 0, p3 := 0 }, 0)
theorem leave_ok : FnPure Try.prog 26 aI dSE (fun g => leave_F g) (fun _ => []) := pure_of_safe (Γ := (PTab.gamz tab0 [] [])) (Λ := noΛ) (PTab.okz tab0 [] []) noΛ_ok 100 default (fun g => by kernel_rfl) (fun g => by kernel_rfl)
def next_F (d : Int) : Dv.T dSE :=
  bif decide (d < 1) || decide (d > 4) then
    ({ f := 0, k := 0, a := 0, n := 0, p0 := 0, p1 := 0, p2 := 0, p3 := 0 }, 11)
  else ({ f := d, k := d, a := 1, n := 0, p0 := 0, p1 := 0, p2 := 0, p3 := 0 }, 0)
theorem next_ok : FnPure Try.prog 28 aI dSE (fun g => next_F g) (fun _ => []) := pure_of_safe (Γ := (PTab.gamz tab0 [] [])) (Λ := noΛ) (PTab.okz tab0 [] []) noΛ_ok 100 default (fun g => by kernel_rfl) (fun g => by kernel_rfl)
def rcompare_F (a : S) (b : S) : Dv.T dI :=
  bif decide (a.f < b.f) then -1
  else
    bif decide (a.f > b.f) then 1
    else
      bif decide (a.k < b.k) then -1
      else
        bif decide (a.k > b.k) then 1
        else
          bif decide (a.a < b.a) then -1
          else
            bif decide (a.a > b.a) then 1
            else
              bif decide (a.n < b.n) then -1
              else
                bif decide (a.n > b.n) then 1
                else
                  bif decide (a.p0 < b.p0) then -1
                  else
                    bif decide (a.p0 > b.p0) then 1
                    else
                      bif decide (a.p1 < b.p1) then -1
                      else
                        bif decide (a.p1 > b.p1) then 1
                        else
                          bif decide (a.p2 < b.p2) then -1
                          else
                            bif decide (a.p2 > b.p2) then 1
                            else bif decide (a.p3 < b.p3) then -1 else bif decide (a.p3 > b.p3) then 1 else 0
theorem rcompare_ok : FnPure Try.prog 41 aSS dI (fun g => rcompare_F g.1 g.2) (fun _ => []) := pure_of_safe (Γ := (PTab.gamz tab0 [] [])) (Λ := noΛ) (PTab.okz tab0 [] []) noΛ_ok 100 default (fun g => by kernel_rfl) (fun g => by kernel_rfl)
def cmp60_F (a : Int) (b : Int) : Dv.T dI :=
  bif a != a then bif b != b then 0 else -1
  else bif b != b then 1 else bif decide (a < b) then -1 else bif decide (a > b) then 1 else 0
theorem cmp60_ok : FnPure Try.prog 61 aII dI (fun g => cmp60_F g.1 g.2) (fun _ => []) := pure_of_safe (Γ := (PTab.gamz tab0 [] [])) (Λ := noΛ) (PTab.okz tab0 [] []) noΛ_ok 100 default (fun g => by kernel_rfl) (fun g => by kernel_rfl)
def cmp62_F (a : Int) (b : Int) : Dv.T dI :=
  bif a != a then bif b != b then 0 else -1
  else bif b != b then 1 else bif decide (a < b) then -1 else bif decide (a > b) then 1 else 0
theorem cmp62_ok : FnPure Try.prog 62 aII dI (fun g => cmp62_F g.1 g.2) (fun _ => []) := pure_of_safe (Γ := (PTab.gamz tab0 [] [])) (Λ := noΛ) (PTab.okz tab0 [] []) noΛ_ok 100 default (fun g => by kernel_rfl) (fun g => by kernel_rfl)
def tab1 : PTab Try.prog := (((((((((((tab0).cons 45 (pconP aS dBool (fun g => may_F g) (fun _ => [])) (conP_ok may_ok puB)).cons 31 (pconP aS dI (fun g => rcheck_F g) (fun _ => [])) (conP_ok rcheck_ok puI)).cons 46 (pconP aT dI (fun g => tcheck_F g) (fun _ => [])) (conP_ok tcheck_ok puI)).cons 47 (pconP aT dI (fun g => rtcheck_F g) (fun _ => [])) (conP_ok rtcheck_ok puI)).cons 18 (pconP aI dSE (fun g => id_F g) (fun _ => [])) (conP_ok id_ok puSE)).cons 24 (pconP aI dSE (fun g => enter_F g) (fun _ => [])) (conP_ok enter_ok puSE)).cons 26 (pconP aI dSE (fun g => leave_F g) (fun _ => [])) (conP_ok leave_ok puSE)).cons 28 (pconP aI dSE (fun g => next_F g) (fun _ => [])) (conP_ok next_ok puSE)).cons 41 (pconP aSS dI (fun g => rcompare_F g.1 g.2) (fun _ => [])) (conP_ok rcompare_ok puI)).cons 61 (pconP aII dI (fun g => cmp60_F g.1 g.2) (fun _ => [])) (conP_ok cmp60_ok puI)).cons 62 (pconP aII dI (fun g => cmp62_F g.1 g.2) (fun _ => [])) (conP_ok cmp62_ok puI)
end Go.Proofs.Ytapmlfklkfgmoaa

/- Chapter 2: over the leaves. Printed by treegen.py. -/
namespace Go.Proofs.Ytapmlfklkfgmoaa
open Go.RowKit Go.Sx
set_option maxRecDepth 100000
set_option linter.unusedVariables false
def check_F (a : S) : Dv.T dI :=
  bif !may_F a then (20 : Int) else (0 : Int)
theorem check_ok : FnPure Try.prog 17 aS dI (fun g => check_F g) (fun _ => []) := pure_of_safe (Γ := (PTab.gamz tab1 [] [(20, 0, 5), (66, 0, 5), (39, 4, 5)])) (Λ := noΛ) (PTab.okz tab1 [] [(20, 0, 5), (66, 0, 5), (39, 4, 5)]) noΛ_ok 100 default (fun g => by kernel_rfl) (fun g => by kernel_rfl)
def ends_F (a : S) : Dv.T dI :=
  bif !may_F a then (0 : Int) else IntKind.i64.wrap (a.k + a.n)
theorem ends_ok : FnPure Try.prog 19 aS dI (fun g => ends_F g) (fun _ => []) := pure_of_safe (Γ := (PTab.gamz tab1 [] [(20, 0, 5), (66, 0, 5), (39, 4, 5)])) (Λ := noΛ) (PTab.okz tab1 [] [(20, 0, 5), (66, 0, 5), (39, 4, 5)]) noΛ_ok 100 default (fun g => by kernel_rfl) (fun g => by kernel_rfl)
def rends_F (a : S) : Dv.T dI :=
  bif rcheck_F a != (0 : Int) then (0 : Int) else IntKind.i64.wrap (a.k + a.n)
theorem rends_ok : FnPure Try.prog 32 aS dI (fun g => rends_F g) (fun _ => []) := pure_of_safe (Γ := (PTab.gamz tab1 [] [(20, 0, 5), (66, 0, 5), (39, 4, 5)])) (Λ := noΛ) (PTab.okz tab1 [] [(20, 0, 5), (66, 0, 5), (39, 4, 5)]) noΛ_ok 100 default (fun g => by kernel_rfl) (fun g => by kernel_rfl)
def adv_F (a : S) : Dv.T dBool :=
  may_F a && (a.k == a.f && (a.n == (0 : Int) && decide (a.a > (0 : Int))))
theorem adv_ok : FnPure Try.prog 21 aS dBool (fun g => adv_F g) (fun _ => []) := pure_of_safe (Γ := (PTab.gamz tab1 [] [(20, 0, 5), (66, 0, 5), (39, 4, 5)])) (Λ := noΛ) (PTab.okz tab1 [] [(20, 0, 5), (66, 0, 5), (39, 4, 5)]) noΛ_ok 100 default (fun g => by kernel_rfl) (fun g => by kernel_rfl)
def radv_F (a : S) : Dv.T dBool :=
  rcheck_F a == (0 : Int) && (a.k == a.f && (a.n == (0 : Int) && decide (a.a > (0 : Int))))
theorem radv_ok : FnPure Try.prog 33 aS dBool (fun g => radv_F g) (fun _ => []) := pure_of_safe (Γ := (PTab.gamz tab1 [] [(20, 0, 5), (66, 0, 5), (39, 4, 5)])) (Λ := noΛ) (PTab.okz tab1 [] [(20, 0, 5), (66, 0, 5), (39, 4, 5)]) noΛ_ok 100 default (fun g => by kernel_rfl) (fun g => by kernel_rfl)
def rid_F (d : Int) : Dv.T dSE :=
  bif
      rcheck_F
          { f := d, k := d, a := (0 : Int), n := (0 : Int), p0 := (0 : Int), p1 := (0 : Int), p2 := (0 : Int),
            p3 := (0 : Int) } !=
        (0 : Int) then
    ({ f := (0 : Int), k := (0 : Int), a := (0 : Int), n := (0 : Int), p0 := (0 : Int), p1 := (0 : Int), p2 := (0 : Int),
        p3 := (0 : Int) },
      (11 : Int))
  else
    ({ f := d, k := d, a := (0 : Int), n := (0 : Int), p0 := (0 : Int), p1 := (0 : Int), p2 := (0 : Int),
        p3 := (0 : Int) },
      (0 : Int))
theorem rid_ok : FnPure Try.prog 23 aI dSE (fun g => rid_F g) (fun _ => []) := pure_of_safe (Γ := (PTab.gamz tab1 [] [(20, 0, 5), (66, 0, 5), (39, 4, 5)])) (Λ := noΛ) (PTab.okz tab1 [] [(20, 0, 5), (66, 0, 5), (39, 4, 5)]) noΛ_ok 100 default (fun g => by kernel_rfl) (fun g => by kernel_rfl)
def renter_F (d : Int) : Dv.T dSE :=
  bif
      rcheck_F
          { f := d, k := d, a := (0 : Int), n := (1 : Int), p0 := (0 : Int), p1 := (0 : Int), p2 := (0 : Int),
            p3 := (0 : Int) } !=
        (0 : Int) then
    ({ f := (0 : Int), k := (0 : Int), a := (0 : Int), n := (0 : Int), p0 := (0 : Int), p1 := (0 : Int), p2 := (0 : Int),
        p3 := (0 : Int) },
      (11 : Int))
  else
    ({ f := d, k := d, a := (0 : Int), n := (1 : Int), p0 := (0 : Int), p1 := (0 : Int), p2 := (0 : Int),
        p3 := (0 : Int) },
      (0 : Int))
theorem renter_ok : FnPure Try.prog 25 aI dSE (fun g => renter_F g) (fun _ => []) := pure_of_safe (Γ := (PTab.gamz tab1 [] [(20, 0, 5), (66, 0, 5), (39, 4, 5)])) (Λ := noΛ) (PTab.okz tab1 [] [(20, 0, 5), (66, 0, 5), (39, 4, 5)]) noΛ_ok 100 default (fun g => by kernel_rfl) (fun g => by kernel_rfl)
def rleave_F (d : Int) : Dv.T dSE :=
  bif decide (d < (1 : Int)) then
    ({ f := (0 : Int), k := (0 : Int), a := (0 : Int), n := (0 : Int), p0 := (0 : Int), p1 := (0 : Int), p2 := (0 : Int),
        p3 := (0 : Int) },
      (11 : Int))
  else
    bif
        rcheck_F
            { f := d, k := IntKind.i64.wrap (d - (1 : Int)), a := (0 : Int), n := (0 : Int), p0 := (0 : Int),
              p1 := (0 : Int), p2 := (0 : Int), p3 := (0 : Int) } !=
          (0 : Int) then
      ({ f := (0 : Int), k := (0 : Int), a := (0 : Int), n := (0 : Int), p0 := (0 : Int), p1 := (0 : Int),
          p2 := (0 : Int), p3 := (0 : Int) },
        (11 : Int))
    else
      ({ f := d, k := IntKind.i64.wrap (d - (1 : Int)), a := (0 : Int), n := (0 : Int), p0 := (0 : Int), p1 := (0 : Int),
          p2 := (0 : Int), p3 := (0 : Int) },
        (0 : Int))
theorem rleave_ok : FnPure Try.prog 27 aI dSE (fun g => rleave_F g) (fun _ => []) := pure_of_safe (Γ := (PTab.gamz tab1 [] [(20, 0, 5), (66, 0, 5), (39, 4, 5)])) (Λ := noΛ) (PTab.okz tab1 [] [(20, 0, 5), (66, 0, 5), (39, 4, 5)]) noΛ_ok 100 default (fun g => by kernel_rfl) (fun g => by kernel_rfl)
def rnext_F (d : Int) : Dv.T dSE :=
  bif
      rcheck_F
          { f := d, k := d, a := (1 : Int), n := (0 : Int), p0 := (0 : Int), p1 := (0 : Int), p2 := (0 : Int),
            p3 := (0 : Int) } !=
        (0 : Int) then
    ({ f := (0 : Int), k := (0 : Int), a := (0 : Int), n := (0 : Int), p0 := (0 : Int), p1 := (0 : Int), p2 := (0 : Int),
        p3 := (0 : Int) },
      (11 : Int))
  else
    ({ f := d, k := d, a := (1 : Int), n := (0 : Int), p0 := (0 : Int), p1 := (0 : Int), p2 := (0 : Int),
        p3 := (0 : Int) },
      (0 : Int))
theorem rnext_ok : FnPure Try.prog 29 aI dSE (fun g => rnext_F g) (fun _ => []) := pure_of_safe (Γ := (PTab.gamz tab1 [] [(20, 0, 5), (66, 0, 5), (39, 4, 5)])) (Λ := noΛ) (PTab.okz tab1 [] [(20, 0, 5), (66, 0, 5), (39, 4, 5)]) noΛ_ok 100 default (fun g => by kernel_rfl) (fun g => by kernel_rfl)
def rtleq_F (a : T) (b : T) : Dv.T dBool :=
  bif rtcheck_F a != (0 : Int) || (rtcheck_F b != (0 : Int) || (a.d != b.d || decide (a.e > b.e))) then false
  else
    bif decide (a.l0 > b.l0) then false
    else
      bif decide (a.l1 > b.l1) then false
      else bif decide (a.l2 > b.l2) then false else bif decide (a.l3 > b.l3) then false else true
theorem rtleq_ok : FnPure Try.prog 22 aTT dBool (fun g => rtleq_F g.1 g.2) (fun _ => []) := pure_of_safe (Γ := (PTab.gamz tab1 [] [(20, 0, 5), (66, 0, 5), (39, 4, 5)])) (Λ := noΛ) (PTab.okz tab1 [] [(20, 0, 5), (66, 0, 5), (39, 4, 5)]) noΛ_ok 100 default (fun g => by kernel_rfl) (fun g => by kernel_rfl)
def compare_F (a : S) (b : S) : Dv.T dI :=
  bif
      (bif cmp60_F a.f b.f != (0 : Int) then cmp60_F a.f b.f
        else
          bif cmp60_F a.k b.k != (0 : Int) then cmp60_F a.k b.k
          else
            bif cmp62_F a.a b.a != (0 : Int) then cmp62_F a.a b.a
            else bif cmp60_F a.n b.n != (0 : Int) then cmp60_F a.n b.n else (0 : Int)) !=
        (0 : Int) then
    bif cmp60_F a.f b.f != (0 : Int) then cmp60_F a.f b.f
    else
      bif cmp60_F a.k b.k != (0 : Int) then cmp60_F a.k b.k
      else
        bif cmp62_F a.a b.a != (0 : Int) then cmp62_F a.a b.a
        else bif cmp60_F a.n b.n != (0 : Int) then cmp60_F a.n b.n else (0 : Int)
  else
    bif cmp62_F a.p0 b.p0 != (0 : Int) then cmp62_F a.p0 b.p0
    else
      bif cmp62_F a.p1 b.p1 != (0 : Int) then cmp62_F a.p1 b.p1
      else
        bif cmp62_F a.p2 b.p2 != (0 : Int) then cmp62_F a.p2 b.p2
        else bif cmp62_F a.p3 b.p3 != (0 : Int) then cmp62_F a.p3 b.p3 else (0 : Int)
theorem compare_ok : FnPure Try.prog 40 aSS dI (fun g => compare_F g.1 g.2) (fun _ => []) := pure_of_safe (Γ := (PTab.gamz tab1 [] [(20, 0, 5), (66, 0, 5), (39, 4, 5)])) (Λ := noΛ) (PTab.okz tab1 [] [(20, 0, 5), (66, 0, 5), (39, 4, 5)]) noΛ_ok 100 default (fun g => by kernel_rfl) (fun g => by kernel_rfl)
def tab2 : PTab Try.prog := (((((((((((tab1).cons 17 (pconP aS dI (fun g => check_F g) (fun _ => [])) (conP_ok check_ok puI)).cons 19 (pconP aS dI (fun g => ends_F g) (fun _ => [])) (conP_ok ends_ok puI)).cons 32 (pconP aS dI (fun g => rends_F g) (fun _ => [])) (conP_ok rends_ok puI)).cons 21 (pconP aS dBool (fun g => adv_F g) (fun _ => [])) (conP_ok adv_ok puB)).cons 33 (pconP aS dBool (fun g => radv_F g) (fun _ => [])) (conP_ok radv_ok puB)).cons 23 (pconP aI dSE (fun g => rid_F g) (fun _ => [])) (conP_ok rid_ok puSE)).cons 25 (pconP aI dSE (fun g => renter_F g) (fun _ => [])) (conP_ok renter_ok puSE)).cons 27 (pconP aI dSE (fun g => rleave_F g) (fun _ => [])) (conP_ok rleave_ok puSE)).cons 29 (pconP aI dSE (fun g => rnext_F g) (fun _ => [])) (conP_ok rnext_ok puSE)).cons 22 (pconP aTT dBool (fun g => rtleq_F g.1 g.2) (fun _ => [])) (conP_ok rtleq_ok puB)).cons 40 (pconP aSS dI (fun g => compare_F g.1 g.2) (fun _ => [])) (conP_ok compare_ok puI)
end Go.Proofs.Ytapmlfklkfgmoaa

/- Chapter 2: what the leaves say. -/
namespace Go.Proofs.Ytapmlfklkfgmoaa
open Go.RowKit Go.Sx
theorem wr {x : Int} (h : -9223372036854775808 ≤ x ∧ x ≤ 9223372036854775807) : IntKind.i64.wrap x = x := by
  have := IntKind.wrap_i64 x
  omega
/-- What it is for a summary to be one. -/
def S.Ok (s : S) : Prop := (0 ≤ s.f ∧ s.f ≤ 4 ∧ 0 ≤ s.n ∧ s.n ≤ 4 ∧ 0 ≤ s.k ∧ s.k ≤ s.f ∧ s.k + s.n ≤ 4) ∧ (0 ≤ s.a ∧ s.a ≤ 1048576 ∧ (s.k = 0 → s.a = 0)) ∧
   (0 ≤ s.p0 ∧ s.p0 ≤ 1048576 ∧ (s.n ≤ 0 → s.p0 = 0)) ∧ (0 ≤ s.p1 ∧ s.p1 ≤ 1048576 ∧ (s.n ≤ 1 → s.p1 = 0)) ∧ (0 ≤ s.p2 ∧ s.p2 ≤ 1048576 ∧ (s.n ≤ 2 → s.p2 = 0)) ∧ (0 ≤ s.p3 ∧ s.p3 ≤ 1048576 ∧ (s.n ≤ 3 → s.p3 = 0))
theorem cond_ff {c b : Bool} : (bif c then false else b) = true ↔ c = false ∧ b = true := by cases c <;> simp
theorem cond_bf {c b : Bool} : (bif c then b else false) = true ↔ c = true ∧ b = true := by cases c <;> simp
theorem may_iff (s : S) : may_F s = true ↔ s.Ok := by
  unfold may_F S.Ok
  simp only [cond_ff, cond_bf, Bool.and_eq_true, Bool.or_eq_false_iff, Bool.not_eq_true', Bool.not_eq_false', decide_eq_false_iff_not, decide_eq_true_eq, Bool.and_eq_false_iff, bne_eq_false_iff_eq, beq_eq_false_iff_ne, beq_iff_eq, IntKind.wrap_i64, and_true, ne_eq, true_and]
  omega
theorem cond_20 {c : Bool} {x : Int} : (bif c then (20 : Int) else x) = 0 ↔ c = false ∧ x = 0 := by cases c <;> simp
theorem cond_10 {c : Bool} {x : Int} : (bif c then (10 : Int) else x) = 0 ↔ c = false ∧ x = 0 := by cases c <;> simp
theorem rcheck_iff (s : S) : rcheck_F s = 0 ↔ s.Ok := by
  unfold rcheck_F S.Ok
  simp only [cond_20, Bool.and_eq_true, Bool.or_eq_false_iff, Bool.not_eq_true', Bool.not_eq_false', decide_eq_false_iff_not, decide_eq_true_eq, Bool.and_eq_false_iff, bne_eq_false_iff_eq, beq_eq_false_iff_ne, beq_iff_eq, IntKind.wrap_i64, and_true, ne_eq, true_and]
  omega
theorem rcheck_or (s : S) : rcheck_F s = 0 ∨ rcheck_F s = 20 := by
  unfold rcheck_F
  repeat' (rw [Bool.cond_eq_ite]; split)
  all_goals simp
theorem rcheck_eq (s : S) : rcheck_F s = bif may_F s then 0 else 20 := by
  cases h : may_F s with
  | true => exact (rcheck_iff s).2 ((may_iff s).1 h)
  | false =>
    rcases rcheck_or s with h1 | h1
    · rw [(may_iff s).2 ((rcheck_iff s).1 h1)] at h; cases h
    · exact h1
theorem rtcheck_eq (t : T) : rtcheck_F t = tcheck_F t := rfl
def T.Ok (t : T) : Prop := (0 ≤ t.e ∧ t.e ≤ 1073741824 ∧ 0 ≤ t.d ∧ t.d ≤ 4) ∧
   (0 ≤ t.l0 ∧ t.l0 ≤ 1048576 ∧ (t.d ≤ 0 → t.l0 = 0)) ∧ (0 ≤ t.l1 ∧ t.l1 ≤ 1048576 ∧ (t.d ≤ 1 → t.l1 = 0)) ∧ (0 ≤ t.l2 ∧ t.l2 ≤ 1048576 ∧ (t.d ≤ 2 → t.l2 = 0)) ∧ (0 ≤ t.l3 ∧ t.l3 ≤ 1048576 ∧ (t.d ≤ 3 → t.l3 = 0))
theorem tcheck_iff (t : T) : tcheck_F t = 0 ↔ t.Ok := by
  unfold tcheck_F T.Ok
  simp only [cond_10, Bool.and_eq_true, Bool.or_eq_false_iff, decide_eq_false_iff_not, Bool.and_eq_false_iff, bne_eq_false_iff_eq, and_true]
  omega
theorem tcheck_or (t : T) : tcheck_F t = 0 ∨ tcheck_F t = 10 := by
  unfold tcheck_F
  repeat' (rw [Bool.cond_eq_ite]; split)
  all_goals simp
theorem not_beq {a b : Int} (h : (!a == b) = true) : a ≠ b := by simpa using h
end Go.Proofs.Ytapmlfklkfgmoaa

/- Chapter 2: arguments with written out sizes. -/
namespace Go.Proofs.Ytapmlfklkfgmoaa
open Go.RowKit Go.Sx
theorem neq0 {x : Int} (h : (x != 0) = false) : x = 0 := bne_eq_false_iff_eq.1 h
def tab3 : PTab Try.prog := tab2
def vi (n : Int) : SV := .v (.int .i64 n)
def ki (n : Int) : SV := .k (.int .i64 n)
def encK (s : S) (k n : Nat) : SV := .agg [vi s.f, ki k, vi s.a, ki n, vi s.p0, vi s.p1, vi s.p2, vi s.p3]
def encD (t : T) (d : Nat) : SV := .agg [vi t.e, ki d, vi t.l0, vi t.l1, vi t.l2, vi t.l3]
def litS (s : S) (k n : Nat) : S := ⟨s.f, k, s.a, n, s.p0, s.p1, s.p2, s.p3⟩
theorem litS_eq {s : S} {k n : Nat} (h1 : s.k = k) (h2 : s.n = n) : litS s k n = s := by unfold litS; rw [← h1, ← h2]
def vv1 : SV → SV
  | .k x => .v x
  | s => s
theorem vv1_fit {s : SV} {n : Nat} {ρ : Rh} {x : Value} : (vv1 s).fit n ρ x ↔ s.fit n ρ x := by cases s <;> simp [vv1, SV.fit]
theorem fits_vv1 {n : Nat} {ρ : Rh} : ∀ {xs ys : List SV} {l : List Value}, xs.map vv1 = ys.map vv1 → SV.fits n ρ xs l → SV.fits n ρ ys l
  | [], [], _, _, h => h
  | x :: xs, y :: ys, l, he, h => by
    obtain ⟨a, r, rfl, ha, hr⟩ := fits_cons h
    simp only [List.map_cons, List.cons.injEq] at he
    exact ⟨vv1_fit.1 (he.1 ▸ vv1_fit.2 ha), fits_vv1 he.2 hr⟩
  | [], _ :: _, _, he, _ => by simp at he
  | _ :: _, [], _, he, _ => by simp at he
theorem encK_fit {s : S} {k n : Nat} (h1 : s.k = k) (h2 : s.n = n) {m : Nat} {ρ : Rh} {x : Value} (h : (dS.enc s).fit m ρ x) : (encK s k n).fit m ρ x := by
  rw [← litS_eq h1 h2] at h
  obtain ⟨l, hx, hl⟩ := h
  exact ⟨l, hx, fits_vv1 (xs := eS.cells (litS s k n)) rfl hl⟩
theorem encKK_fit {a b : S} {k n k' n' : Nat} (h1 : a.k = k) (h2 : a.n = n) (h3 : b.k = k') (h4 : b.n = n') {m : Nat} {ρ : Rh} {x : List Value} (h : SV.fits m ρ (aSS.enc (a, b)) x) : SV.fits m ρ [encK a k n, encK b k' n'] x := by
  obtain ⟨y, r, rfl, hy, hr⟩ := fits_cons h
  obtain ⟨z, r', rfl, hz, hr'⟩ := fits_cons hr
  exact ⟨encK_fit h1 h2 hy, encK_fit h3 h4 hz, hr'⟩
theorem encKT_fit {a : S} {t : T} {k n : Nat} (h1 : a.k = k) (h2 : a.n = n) {m : Nat} {ρ : Rh} {x : List Value} (h : SV.fits m ρ (aST.enc (a, t)) x) : SV.fits m ρ [encK a k n, dT.enc t] x := by
  obtain ⟨y, r, rfl, hy, hr⟩ := fits_cons h
  exact ⟨encK_fit h1 h2 hy, hr⟩
end Go.Proofs.Ytapmlfklkfgmoaa

/- Chapter 2: Then and Apply, case by case of Keep and N. -/
namespace Go.Proofs.Ytapmlfklkfgmoaa
open Go.RowKit Go.Sx
def els {α : Type} : Tr α → Tr α
  | .br _ _ b => b
  | t => t
def zS : S := ⟨0, 0, 0, 0, 0, 0, 0, 0⟩
def zT : T := ⟨0, 0, 0, 0, 0, 0⟩
def S.p (s : S) : List Int := [s.p0, s.p1, s.p2, s.p3]
def T.l (t : T) : List Int := [t.l0, t.l1, t.l2, t.l3]
def mkS (f k a n : Int) (l : List Int) : S := ⟨f, k, a, n, l.getD 0 0, l.getD 1 0, l.getD 2 0, l.getD 3 0⟩
def mkT (e d : Int) (l : List Int) : T := ⟨e, d, l.getD 0 0, l.getD 1 0, l.getD 2 0, l.getD 3 0⟩
abbrev w64 (x : Int) : Int := IntKind.i64.wrap x
def thenRest (a b : S) (k k' n' : Nat) : Tr (S × Int) :=
  bif Nat.beq k' k then
    .br (decide (w64 (b.a + a.a) > 1048576)) (.ret (zS, 12)) (.ret (mkS a.f k' (w64 (b.a + a.a)) n' b.p, 0))
  else bif Nat.blt k k' then
    .br (decide (w64 (a.p.getD (k' - k - 1) 0 + b.a) > 1048576)) (.ret (zS, 12)) (.br (decide (a.a > 1048576)) (.ret (zS, 12)) (.ret (mkS a.f k a.a (k' - k + n' : Nat) ((a.p.take (k' - k - 1) ++ [w64 (a.p.getD (k' - k - 1) 0 + b.a)]) ++ b.p.take n'), 0)))
  else
    .br (decide (b.a > 1048576)) (.ret (zS, 12)) (.ret (mkS a.f k' b.a n' b.p, 0))
def thenTr (a b : S) (k n k' n' : Nat) : Tr (S × Int) :=
  .br (!may_F (litS a k n) || !may_F (litS b k' n')) (.ret (zS, 20)) (.br (w64 ((k : Int) + n) != b.f) (.ret (zS, 11)) (thenRest a b k k' n'))
def rthenS (a b : S) (k k' n' : Nat) : S :=
  bif Nat.beq k' k then mkS a.f k (w64 (a.a + b.a)) n' (b.p.take n')
  else bif Nat.blt k k' then mkS a.f k a.a (k' - k + n' : Nat) ((a.p.take (k' - k - 1) ++ [w64 (a.p.getD (k' - k - 1) 0 + b.a)]) ++ b.p.take n')
  else mkS a.f k' (w64 (0 + b.a)) n' (b.p.take n')
def rthenTr (a b : S) (k n k' n' : Nat) : Tr (S × Int) :=
  .br (rcheck_F (litS a k n) != 0 || rcheck_F (litS b k' n') != 0) (.ret (zS, 20)) (.br (w64 ((k : Int) + n) != b.f) (.ret (zS, 11)) (.br (rcheck_F (rthenS a b k k' n') != 0) (.ret (zS, 12)) (.ret (rthenS a b k k' n', 0))))
theorem four {k : Nat} (h : k ≤ 4) : k = 0 ∨ k = 1 ∨ k = 2 ∨ k = 3 ∨ k = 4 := by omega
abbrev g3 : Gam := tab3.gamz [] []
set_option maxHeartbeats 4000000 in
theorem then_tree (a b : S) (k n k' n' : Nat) (h1 : k + n ≤ 4) (h2 : k' ≤ k + n) (h3 : k' + n' ≤ 4) : dTree Try.prog g3 noΛ 100 12 [encK a k n, encK b k' n'] dSE = thenTr a b k n k' n' := by
  rcases four (show k ≤ 4 by omega) with rfl | rfl | rfl | rfl | rfl <;> rcases four (show n ≤ 4 by omega) with rfl | rfl | rfl | rfl | rfl <;> first
    | (exfalso; omega)
    | (rcases four (show k' ≤ 4 by omega) with rfl | rfl | rfl | rfl | rfl <;> first
        | (exfalso; omega)
        | (rcases four (show n' ≤ 4 by omega) with rfl | rfl | rfl | rfl | rfl <;> first
            | (exfalso; omega)
            | as_aux_lemma => kernel_rfl))
theorem then_no (a b : S) : dTree Try.prog g3 noΛ 100 12 (aSS.enc (a, b)) dSE = .br (!may_F a || !may_F b) (.ret (zS, 20)) (els (dTree Try.prog g3 noΛ 100 12 (aSS.enc (a, b)) dSE)) := by kernel_rfl
theorem then_no2 (a b : S) : els (dTree Try.prog g3 noΛ 100 12 (aSS.enc (a, b)) dSE) = .br (w64 (a.k + a.n) != b.f) (.ret (zS, 11)) (els (els (dTree Try.prog g3 noΛ 100 12 (aSS.enc (a, b)) dSE))) := by kernel_rfl
theorem rthen_no (a b : S) : dTree Try.prog g3 noΛ 100 13 (aSS.enc (a, b)) dSE = .br (rcheck_F a != 0 || rcheck_F b != 0) (.ret (zS, 20)) (els (dTree Try.prog g3 noΛ 100 13 (aSS.enc (a, b)) dSE)) := by kernel_rfl
theorem rthen_no2 (a b : S) : els (dTree Try.prog g3 noΛ 100 13 (aSS.enc (a, b)) dSE) = .br (w64 (a.k + a.n) != b.f) (.ret (zS, 11)) (els (els (dTree Try.prog g3 noΛ 100 13 (aSS.enc (a, b)) dSE))) := by kernel_rfl
/-! ### Apply -/
def applyL (k n : Nat) (s : S) (t : T) : List Int :=
  match k with
  | 0 => s.p.take n
  | j + 1 => (t.l.take j ++ [w64 (t.l.getD j 0 + s.a)]) ++ s.p.take n
def applyTr (s : S) (t : T) (k n : Nat) : Tr (T × Int) :=
  .br (!may_F (litS s k n)) (.ret (zT, 20)) (.br (tcheck_F t != 0) (.ret (zT, tcheck_F t)) (.br (t.d != s.f) (.ret (zT, 11)) (match k with
    | 0 => .ret (mkT t.e (0 + n : Nat) (applyL 0 n s t), 0)
    | j + 1 => .br (decide (w64 (t.l.getD j 0 + s.a) > 1048576)) (.ret (zT, 12)) (.ret (mkT t.e (j + 1 + n : Nat) (applyL (j + 1) n s t), 0)))))
def rapplyTr (s : S) (t : T) (k n : Nat) : Tr (T × Int) :=
  .br (rcheck_F (litS s k n) != 0) (.ret (zT, rcheck_F (litS s k n))) (.br (rtcheck_F t != 0) (.ret (zT, rtcheck_F t)) (.br (t.d != s.f) (.ret (zT, 11))
    (.br (rtcheck_F (mkT t.e (k + n : Nat) (applyL k n s t)) != 0) (.ret (zT, 12)) (.ret (mkT t.e (k + n : Nat) (applyL k n s t), 0)))))
theorem apply_tree (s : S) (t : T) (k n : Nat) (h1 : k + n ≤ 4) : dTree Try.prog g3 noΛ 100 10 [encK s k n, dT.enc t] dTE = applyTr s t k n := by
  rcases four (show k ≤ 4 by omega) with rfl | rfl | rfl | rfl | rfl <;> rcases four (show n ≤ 4 by omega) with rfl | rfl | rfl | rfl | rfl <;> first
    | (exfalso; omega)
    | kernel_rfl
theorem rapply_tree (s : S) (t : T) (k n : Nat) (h1 : k + n ≤ 4) : dTree Try.prog g3 noΛ 100 11 [encK s k n, dT.enc t] dTE = rapplyTr s t k n := by
  rcases four (show k ≤ 4 by omega) with rfl | rfl | rfl | rfl | rfl <;> rcases four (show n ≤ 4 by omega) with rfl | rfl | rfl | rfl | rfl <;> first
    | (exfalso; omega)
    | kernel_rfl
theorem apply_no (s : S) (t : T) : dTree Try.prog g3 noΛ 100 10 (aST.enc (s, t)) dTE = .br (!may_F s) (.ret (zT, 20)) (els (dTree Try.prog g3 noΛ 100 10 (aST.enc (s, t)) dTE)) := by kernel_rfl
theorem apply_no2 (s : S) (t : T) : els (dTree Try.prog g3 noΛ 100 10 (aST.enc (s, t)) dTE) = .br (tcheck_F t != 0) (.ret (zT, tcheck_F t)) (els (els (dTree Try.prog g3 noΛ 100 10 (aST.enc (s, t)) dTE))) := by kernel_rfl
theorem apply_no3 (s : S) (t : T) : els (els (dTree Try.prog g3 noΛ 100 10 (aST.enc (s, t)) dTE)) = .br (t.d != s.f) (.ret (zT, 11)) (els (els (els (dTree Try.prog g3 noΛ 100 10 (aST.enc (s, t)) dTE)))) := by kernel_rfl
theorem rapply_no (s : S) (t : T) : dTree Try.prog g3 noΛ 100 11 (aST.enc (s, t)) dTE = .br (rcheck_F s != 0) (.ret (zT, rcheck_F s)) (els (dTree Try.prog g3 noΛ 100 11 (aST.enc (s, t)) dTE)) := by kernel_rfl
theorem rapply_no2 (s : S) (t : T) : els (dTree Try.prog g3 noΛ 100 11 (aST.enc (s, t)) dTE) = .br (rtcheck_F t != 0) (.ret (zT, rtcheck_F t)) (els (els (dTree Try.prog g3 noΛ 100 11 (aST.enc (s, t)) dTE))) := by kernel_rfl
theorem rapply_no3 (s : S) (t : T) : els (els (dTree Try.prog g3 noΛ 100 11 (aST.enc (s, t)) dTE)) = .br (t.d != s.f) (.ret (zT, 11)) (els (els (els (dTree Try.prog g3 noΛ 100 11 (aST.enc (s, t)) dTE)))) := by kernel_rfl
end Go.Proofs.Ytapmlfklkfgmoaa

/- Chapter 2: the reference's Then, case by case of Keep and N. -/
namespace Go.Proofs.Ytapmlfklkfgmoaa
open Go.RowKit Go.Sx
set_option maxHeartbeats 4000000 in
theorem rthen_tree (a b : S) (k n k' n' : Nat) (h1 : k + n ≤ 4) (h2 : k' ≤ k + n) (h3 : k' + n' ≤ 4) : dTree Try.prog g3 noΛ 100 13 [encK a k n, encK b k' n'] dSE = rthenTr a b k n k' n' := by
  rcases four (show k ≤ 4 by omega) with rfl | rfl | rfl | rfl | rfl <;> rcases four (show n ≤ 4 by omega) with rfl | rfl | rfl | rfl | rfl <;> first
    | (exfalso; omega)
    | (rcases four (show k' ≤ 4 by omega) with rfl | rfl | rfl | rfl | rfl <;> first
        | (exfalso; omega)
        | (rcases four (show n' ≤ 4 by omega) with rfl | rfl | rfl | rfl | rfl <;> first
            | (exfalso; omega)
            | as_aux_lemma => kernel_rfl))
end Go.Proofs.Ytapmlfklkfgmoaa

/- Chapter 2: what Then and Apply make: plain functions; the contracts of both sides. -/
namespace Go.Proofs.Ytapmlfklkfgmoaa
open Go.RowKit Go.Sx
def thenC (a b : S) (k k' n' : Nat) : S × Int :=
  bif Nat.beq k' k then (bif decide (b.a + a.a > 1048576) then (zS, 12) else (mkS a.f k (b.a + a.a) n' b.p, 0))
  else bif Nat.blt k k' then (bif decide (a.p.getD (k' - k - 1) 0 + b.a > 1048576) then (zS, 12) else (mkS a.f k a.a (k' - k + n' : Nat) ((a.p.take (k' - k - 1) ++ [a.p.getD (k' - k - 1) 0 + b.a]) ++ b.p.take n'), 0))
  else (mkS a.f k' b.a n' b.p, 0)
def thenF (a b : S) : S × Int :=
  bif !may_F a || !may_F b then (zS, 20) else bif a.k + a.n != b.f then (zS, 11) else thenC a b a.k.toNat b.k.toNat b.n.toNat
theorem p_mem {s : S} (h : s.Ok) : ∀ x ∈ s.p, 0 ≤ x ∧ x ≤ 1048576 := by
  unfold S.Ok at h
  intro x hx
  simp only [S.p, List.mem_cons, List.not_mem_nil, or_false] at hx
  rcases hx with rfl | rfl | rfl | rfl <;> omega
theorem p_get {s : S} (h : s.Ok) (i : Nat) : 0 ≤ s.p.getD i 0 ∧ s.p.getD i 0 ≤ 1048576 := by
  by_cases hi : i < s.p.length
  · rw [List.getD_eq_getElem?_getD, List.getElem?_eq_getElem hi]
    exact p_mem h _ (List.getElem_mem hi)
  · rw [List.getD_eq_getElem?_getD, List.getElem?_eq_none (by omega)]
    simp
theorem mkS_take {b : S} (hb : b.Ok) {n' : Nat} (hn : b.n = n') (f k a n : Int) : mkS f k a n (b.p.take n') = mkS f k a n b.p := by
  unfold S.Ok at hb
  rcases four (show n' ≤ 4 by omega) with rfl | rfl | rfl | rfl | rfl <;> simp [mkS, S.p] <;> omega
theorem okmk {f k a : Int} {n : Nat} {l : List Int} (hl : l.length = n) (hf : 0 ≤ f ∧ f ≤ 4 ∧ 0 ≤ k ∧ k ≤ f ∧ k + n ≤ 4) : (mkS f k a n l).Ok ↔ (0 ≤ a ∧ a ≤ 1048576 ∧ (k = 0 → a = 0)) ∧ ∀ x ∈ l, 0 ≤ x ∧ x ≤ 1048576 := by
  subst hl
  have h4 : l.length ≤ 4 := by omega
  match l, h4 with
  | [], _ => simp [mkS, S.Ok]; simp at hf; omega
  | [x0], _ => simp [mkS, S.Ok]; simp at hf; omega
  | [x0, x1], _ => simp [mkS, S.Ok]; simp at hf; omega
  | [x0, x1, x2], _ => simp [mkS, S.Ok]; simp at hf; omega
  | [x0, x1, x2, x3], _ => simp [mkS, S.Ok]; simp at hf; omega
theorem sizes {s : S} (h : s.Ok) : s.k = (s.k.toNat : Int) ∧ s.n = (s.n.toNat : Int) ∧ s.k.toNat + s.n.toNat ≤ 4 := by
  have := h.1
  omega
theorem len_p (s : S) : s.p.length = 4 := rfl
theorem then_facts {a b : S} (ha : may_F a = true) (hb : may_F b = true) (he : a.k + a.n = b.f) : a.k.toNat + a.n.toNat ≤ 4 ∧ b.k.toNat ≤ a.k.toNat + a.n.toNat ∧ b.k.toNat + b.n.toNat ≤ 4 := by
  have fa := ((may_iff a).1 ha).1
  have fb := ((may_iff b).1 hb).1
  omega
theorem thenF_core {a b : S} (ha : may_F a = true) (hb : may_F b = true) (he : a.k + a.n = b.f) : thenF a b = thenC a b a.k.toNat b.k.toNat b.n.toNat := by
  unfold thenF
  rw [ha, hb, he]
  simp
theorem notOr {a b : Bool} (h : (!a || !b) = false) : a = true ∧ b = true := by cases a <;> cases b <;> simp_all
theorem then_ok : FnPure Try.prog 12 aSS dSE (fun g => thenF g.1 g.2) (fun _ => []) := by
  refine pure_of_cases (Γ := g3) (Λ := noΛ) (tab3.okz [] []) noΛ_ok 100 fun g _ _ => ?_
  obtain ⟨a, b⟩ := g
  show ∃ args, (∀ n ρ x, SV.fits n ρ (aSS.enc (a, b)) x → SV.fits n ρ args x) ∧ (dTree Try.prog g3 noΛ 100 12 args dSE).Holds (· = thenF a b)
  cases hab : (!may_F a || !may_F b) with
  | true =>
    refine ⟨_, fun _ _ _ h => h, ?_⟩
    rw [then_no]
    generalize els (dTree Try.prog g3 noΛ 100 12 (aSS.enc (a, b)) dSE) = r
    refine ⟨fun _ => ?_, fun hc => (by rw [hab] at hc; cases hc)⟩
    show (zS, (20 : Int)) = thenF a b
    unfold thenF; rw [hab]; rfl
  | false =>
    obtain ⟨ha, hb⟩ := notOr hab
    have oa := (may_iff a).1 ha
    have ob := (may_iff b).1 hb
    have fa := oa.1
    have fb := ob.1
    have hw : w64 (a.k + a.n) = a.k + a.n := wr (by omega)
    by_cases he : a.k + a.n = b.f
    · obtain ⟨h1, h2, h3⟩ := then_facts ha hb he
      obtain ⟨ka, na, _⟩ := sizes oa
      obtain ⟨kb, nb, _⟩ := sizes ob
      refine ⟨[encK a a.k.toNat a.n.toNat, encK b b.k.toNat b.n.toNat], fun _ _ _ h => encKK_fit ka na kb nb h, ?_⟩
      rw [then_tree a b _ _ _ _ h1 h2 h3, thenF_core ha hb he]
      unfold thenTr
      rw [litS_eq ka na, litS_eq kb nb, hab, ← ka, ← na, hw, he]
      refine ⟨fun hc => (by cases hc), fun _ => ⟨fun hc => (by simp at hc), fun _ => ?_⟩⟩
      have hp := p_get oa (b.k.toNat - a.k.toNat - 1)
      have ga := oa.2.1
      have gb := ob.2.1
      unfold thenRest thenC
      cases hk : Nat.beq b.k.toNat a.k.toNat with
      | true =>
        rw [beq_of hk]
        have hw2 : w64 (b.a + a.a) = b.a + a.a := wr (by omega)
        simp only [cond_true, hw2]
        exact ⟨fun h => by rw [h]; rfl, fun h => by rw [h]; rfl⟩
      | false =>
        simp only [cond_false]
        cases hl : Nat.blt a.k.toNat b.k.toNat with
        | true =>
          have hw2 : w64 (a.p.getD (b.k.toNat - a.k.toNat - 1) 0 + b.a) = a.p.getD (b.k.toNat - a.k.toNat - 1) 0 + b.a := wr (by omega)
          simp only [cond_true, hw2]
          exact ⟨fun h => by rw [h]; rfl, fun h => ⟨fun h' => by simp at h'; omega, fun _ => by rw [h]; rfl⟩⟩
        | false =>
          simp only [cond_false]
          exact ⟨fun h' => by simp at h'; omega, fun _ => rfl⟩
    · refine ⟨_, fun _ _ _ h => h, ?_⟩
      rw [then_no]
      refine ⟨fun hc => (by rw [hab] at hc; cases hc), fun _ => ?_⟩
      rw [then_no2, hw]
      generalize els (els (dTree Try.prog g3 noΛ 100 12 (aSS.enc (a, b)) dSE)) = r
      refine ⟨fun _ => ?_, fun hc => absurd (bne_eq_false_iff_eq.1 hc) he⟩
      show (zS, (11 : Int)) = thenF a b
      unfold thenF; rw [hab, show (a.k + a.n != b.f) = true by simpa using he]; rfl
theorem rc_or (a b : S) : (rcheck_F a != 0 || rcheck_F b != 0) = (!may_F a || !may_F b) := by
  rw [rcheck_eq, rcheck_eq]
  cases may_F a <;> cases may_F b <;> rfl
theorem rc_ne (s : S) : (rcheck_F s != 0) = !may_F s := by
  rw [rcheck_eq]
  cases may_F s <;> rfl
theorem may_false {s : S} (h : ¬ s.Ok) : may_F s = false := by
  cases hm : may_F s with
  | true => exact absurd ((may_iff s).1 hm) h
  | false => rfl
theorem rthen_ok : FnPure Try.prog 13 aSS dSE (fun g => thenF g.1 g.2) (fun _ => []) := by
  refine pure_of_cases (Γ := g3) (Λ := noΛ) (tab3.okz [] []) noΛ_ok 100 fun g _ _ => ?_
  obtain ⟨a, b⟩ := g
  show ∃ args, (∀ n ρ x, SV.fits n ρ (aSS.enc (a, b)) x → SV.fits n ρ args x) ∧ (dTree Try.prog g3 noΛ 100 13 args dSE).Holds (· = thenF a b)
  cases hab : (!may_F a || !may_F b) with
  | true =>
    refine ⟨_, fun _ _ _ h => h, ?_⟩
    rw [rthen_no, rc_or]
    generalize els (dTree Try.prog g3 noΛ 100 13 (aSS.enc (a, b)) dSE) = r
    refine ⟨fun _ => ?_, fun hc => (by rw [hab] at hc; cases hc)⟩
    show (zS, (20 : Int)) = thenF a b
    unfold thenF; rw [hab]; rfl
  | false =>
    obtain ⟨ha, hb⟩ := notOr hab
    have oa := (may_iff a).1 ha
    have ob := (may_iff b).1 hb
    have fa := oa.1
    have fb := ob.1
    have hw : w64 (a.k + a.n) = a.k + a.n := wr (by omega)
    by_cases he : a.k + a.n = b.f
    · obtain ⟨h1, h2, h3⟩ := then_facts ha hb he
      obtain ⟨ka, na, _⟩ := sizes oa
      obtain ⟨kb, nb, _⟩ := sizes ob
      refine ⟨[encK a a.k.toNat a.n.toNat, encK b b.k.toNat b.n.toNat], fun _ _ _ h => encKK_fit ka na kb nb h, ?_⟩
      rw [rthen_tree a b _ _ _ _ h1 h2 h3, thenF_core ha hb he]
      unfold rthenTr
      rw [litS_eq ka na, litS_eq kb nb, rc_or, hab, ← ka, ← na, hw, he, rc_ne]
      refine ⟨fun hc => (by cases hc), fun _ => ⟨fun hc => (by simp at hc), fun _ => ?_⟩⟩
      have hp := p_get oa (b.k.toNat - a.k.toNat - 1)
      have ga := oa.2.1
      have gb := ob.2.1
      have pa := p_mem oa
      have pb := p_mem ob
      unfold rthenS thenC
      cases hk : Nat.beq b.k.toNat a.k.toNat with
      | true =>
        have hkk := beq_of hk
        have hw2 : w64 (a.a + b.a) = b.a + a.a := by rw [show w64 (a.a + b.a) = a.a + b.a from wr (by omega)]; omega
        simp only [cond_true, hw2]
        have hok := okmk (f := a.f) (k := (a.k.toNat : Int)) (a := b.a + a.a) (n := b.n.toNat) (l := b.p.take b.n.toNat) (by rw [List.length_take, len_p]; omega) (by omega)
        rw [mkS_take ob nb] at hok ⊢
        by_cases hx : b.a + a.a > 1048576
        · rw [may_false (fun h => by have := (hok.1 h).1; omega), decide_eq_true hx]
          exact ⟨fun _ => rfl, fun h => (by cases h)⟩
        · rw [(may_iff _).2 (hok.2 ⟨by omega, fun x hx => pb x (List.mem_of_mem_take hx)⟩), decide_eq_false hx]
          exact ⟨fun h => (by cases h), fun _ => rfl⟩
      | false =>
        simp only [cond_false]
        cases hl : Nat.blt a.k.toNat b.k.toNat with
        | true =>
          have hlt : a.k.toNat < b.k.toNat := Nat.le_of_ble_eq_true hl
          have hw2 : w64 (a.p.getD (b.k.toNat - a.k.toNat - 1) 0 + b.a) = a.p.getD (b.k.toNat - a.k.toNat - 1) 0 + b.a := wr (by omega)
          simp only [cond_true, hw2]
          have hok := okmk (f := a.f) (k := (a.k.toNat : Int)) (a := a.a) (n := b.k.toNat - a.k.toNat + b.n.toNat) (l := (a.p.take (b.k.toNat - a.k.toNat - 1) ++ [a.p.getD (b.k.toNat - a.k.toNat - 1) 0 + b.a]) ++ b.p.take b.n.toNat)
            (by simp only [List.length_append, List.length_take, len_p, List.length_cons, List.length_nil]; omega) (by omega)
          by_cases hx : a.p.getD (b.k.toNat - a.k.toNat - 1) 0 + b.a > 1048576
          · rw [may_false (fun h => by have := (hok.1 h).2 _ (List.mem_append_left _ (List.mem_append_right _ (List.mem_singleton.2 rfl))); omega), decide_eq_true hx]
            exact ⟨fun _ => rfl, fun h => (by cases h)⟩
          · rw [(may_iff _).2 (hok.2 ⟨by omega, fun x hx' => by
              rcases List.mem_append.1 hx' with h | h
              · rcases List.mem_append.1 h with h | h
                · exact pa x (List.mem_of_mem_take h)
                · rw [List.mem_singleton.1 h]; omega
              · exact pb x (List.mem_of_mem_take h)⟩), decide_eq_false hx]
            exact ⟨fun h => (by cases h), fun _ => rfl⟩
        | false =>
          have hlt : b.k.toNat < a.k.toNat := by
            have h1 : ¬ a.k.toNat < b.k.toNat := fun h => by rw [show Nat.blt a.k.toNat b.k.toNat = true from Nat.ble_eq_true_of_le h] at hl; cases hl
            have h2 : b.k.toNat ≠ a.k.toNat := fun h => by rw [h, Nat.beq_refl] at hk; cases hk
            omega
          have hw2 : w64 (0 + b.a) = b.a := by rw [show w64 (0 + b.a) = 0 + b.a from wr (by omega)]; omega
          simp only [cond_false, hw2]
          have hok := okmk (f := a.f) (k := (b.k.toNat : Int)) (a := b.a) (n := b.n.toNat) (l := b.p.take b.n.toNat) (by rw [List.length_take, len_p]; omega) (by omega)
          rw [mkS_take ob nb] at hok ⊢
          rw [(may_iff _).2 (hok.2 ⟨by omega, fun x hx => pb x (List.mem_of_mem_take hx)⟩)]
          exact ⟨fun h => (by cases h), fun _ => rfl⟩
    · refine ⟨_, fun _ _ _ h => h, ?_⟩
      rw [rthen_no, rc_or]
      refine ⟨fun hc => (by rw [hab] at hc; cases hc), fun _ => ?_⟩
      rw [rthen_no2, hw]
      generalize els (els (dTree Try.prog g3 noΛ 100 13 (aSS.enc (a, b)) dSE)) = r
      refine ⟨fun _ => ?_, fun hc => absurd (bne_eq_false_iff_eq.1 hc) he⟩
      show (zS, (11 : Int)) = thenF a b
      unfold thenF; rw [hab, show (a.k + a.n != b.f) = true by simpa using he]; rfl
end Go.Proofs.Ytapmlfklkfgmoaa
