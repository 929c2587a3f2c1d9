/- Contracts of loops: they are sound. -/
import Derived.Test.YtapmlfklkfgmoaaZSxLoop
set_option linter.unusedVariables false
namespace Go.Sx
open Go.RowKit

def dstsOf : Code → List Nat
  | .region _ ops _ => ops.toList.filterMap (·.dst)
  | .seq a b => dstsOf a ++ dstsOf b
  | .cond _ a b => dstsOf a ++ dstsOf b
  | .block _ c => dstsOf c
  | .scope c => dstsOf c
  | .loop c => dstsOf c
  | _ => []
def rowsL : Nat → List RowD → List (Nat × SO)
  | _, [] => []
  | i, (t, sz, el, l) :: r => (i, .row t sz el l) :: rowsL (i + 1) r
def injL {N : Nat} {γ : Type} (A : LP N γ) (W : List Nat) (σ : St) (ds : List Nat) (g : γ) : St :=
  ⟨σ.n, A.ents 0 g ++ (W.map (fun i => (i, SV.u)) ++ σ.t), ⟨σ.h.nx + A.R, whole (rowsL σ.h.nx (A.rows g)) ++ (whole (A.objs g) ++ (whole (ds.map (fun i => (i, SO.dead))) ++ σ.h.l)), σ.h.b⟩, σ.d, σ.b⟩
def isIn (i : Nat) : List Nat → Bool
  | [] => false
  | j :: r => bif Nat.beq i j then true else isIn i r
theorem isIn_mem {i : Nat} : ∀ {l : List Nat}, isIn i l = true ↔ i ∈ l
  | [] => by simp [isIn]
  | j :: r => by
    simp only [isIn, List.mem_cons]
    cases hb : Nat.beq i j with
    | true => simp [beq_of hb]
    | false =>
      simp only [cond_false]
      rw [isIn_mem]
      constructor
      · exact .inr
      · rintro (rfl | h)
        · rw [Nat.beq_refl] at hb; cases hb
        · exact h
theorem isIn_not {i : Nat} {l : List Nat} (h : isIn i l = false) : i ∉ l := fun hm => by rw [isIn_mem.2 hm] at h; cases h
def idsOk (N : Nat) : List (Option Nat) → Bool
  | [] => true
  | none :: r => idsOk N r
  | some j :: r => Nat.ble N j && (!isIn j (r.filterMap fun x => x) && idsOk N r)
def chkL {N : Nat} {γ : Type} (A : LP N γ) (W DL : List Nat) (n0 : Nat) (y : St) : Bool :=
  ((jkeys y.t []).all fun i => isIn i A.es || isIn i W) && (((jkeys y.h.l []).all fun i => Nat.ble N i || isIn i A.os) && (natsEq y.d DL && (Nat.beq y.n n0 && A.os.all fun i => Nat.blt i N)))

theorem rowsL_get {i : Nat} : ∀ {r : List RowD} {k : Nat} (d : SO), (∀ q, i = k + q → q < r.length → ∃ t sz el l, r[q]? = some (t, sz, el, l) ∧ look d i (rowsL k r) = .row t sz el l) ∧ ((i < k ∨ k + r.length ≤ i) → look d i (rowsL k r) = d)
  | [], k, d => ⟨fun q _ h => by simp at h, fun _ => rfl⟩
  | (t, sz, el, l) :: r, k, d => by
    obtain ⟨h1, h2⟩ := rowsL_get (i := i) (r := r) (k := k + 1) d
    constructor
    · intro q hq hlt
      simp only [rowsL, look_cons]
      by_cases hik : i = k
      · rw [if_pos hik]
        have : q = 0 := by omega
        subst this
        exact ⟨t, sz, el, l, rfl, rfl⟩
      · rw [if_neg hik]
        obtain ⟨q', rfl⟩ : ∃ q', q = q' + 1 := ⟨q - 1, by omega⟩
        obtain ⟨t', sz', el', l', e1, e2⟩ := h1 q' (by omega) (by simpa using hlt)
        exact ⟨t', sz', el', l', by simpa using e1, e2⟩
    · intro h
      simp only [rowsL, look_cons]
      simp only [List.length_cons] at h
      rw [if_neg (by omega)]
      exact h2 (by omega)
theorem look_or {α : Type} (d : α) (i : Nat) : ∀ (l : List (Nat × α)), (i, look d i l) ∈ l ∨ i ∉ l.map (·.1)
  | [] => .inr (by simp)
  | (j, x) :: r => by
    rw [look_cons]
    by_cases hij : i = j
    · subst hij; rw [if_pos rfl]; exact .inl (List.mem_cons_self ..)
    · rw [if_neg hij]
      rcases look_or d i r with h | h
      · exact .inl (List.mem_cons_of_mem _ h)
      · refine .inr ?_
        simp only [List.map_cons, List.mem_cons, not_or]
        exact ⟨hij, h⟩
theorem look_dead (i : Nat) (d : SO) (l : List Nat) (h : i ∈ l) : look d i (l.map fun i => (i, SO.dead)) = .dead := by
  rcases look_or d i (l.map fun i => (i, SO.dead)) with h1 | h1
  · obtain ⟨j, _, e⟩ := List.mem_map.1 h1
    simp only [Prod.mk.injEq] at e
    exact e.2.symm
  · exact absurd (by simpa using h) h1

section
variable {M : Nat → Prop} {w0 w w00 : World} {ρ ρ0 : Rh} {N : Nat} {γ : Type}
/-- What is carried is laid anew over the state at the loop's head. -/
theorem inj_ok {A : LP N γ} {W ds : List Nat} {σ0 σ : St} {a a0 : Act} {g : γ} {ids : List (Option Nat)} (h0 : Mod M w0 ρ0 σ0 a0 w00) (hm : Mod M w0 ρ σ a w) (hN : σ0.h.nx = N) (hNle : N ≤ σ.h.nx)
    (hn : σ.n = σ0.n) (hd : σ.d = σ0.d) (rel : Rel N 0 σ ids (A.ents 0 g) (A.rows g) (A.objs g)) (hil : ids.length = A.R)
    (hid : ∀ (k k' j : Nat), ids[k]? = some (some j) → ids[k']? = some (some j) → k = k') (hj : ∀ (k j : Nat), ids[k]? = some (some j) → N ≤ j ∨ j ∈ ds) (hob : ∀ id, id ∈ A.os → id < N ∧ id ∉ ds)
    (hs : ∀ i, i ∈ A.es ∨ i ∈ W ∨ σ.slot i = σ0.slot i) (hh : ∀ id, id < N → id ∈ A.os ∨ id ∈ ds ∨ σ.h.get id = σ0.h.get id) :
    ∃ ρ', Agree N ρ ρ' ∧ Mod M w0 ρ' (injL A W σ0 ds g) a w := by
  let ρ' : Rh := ⟨fun k => if N ≤ k ∧ k < N + A.R then (match ids[k - N]? with | some (some j) => ρ j | _ => ⟨0, 0, 0, true⟩) else ρ k, ρ.mem, ρ.lo⟩
  have hag : Agree N ρ ρ' := ⟨fun i hi => by show (if _ then _ else _) = _; rw [if_neg (by omega)], fun _ _ h => h, rfl⟩
  have hρ : ∀ (k j : Nat), k < A.R → ids[k]? = some (some j) → ρ' (N + k) = ρ j := fun k j hk hj => by
    show (if _ then _ else _) = _
    rw [if_pos (by omega), show N + k - N = k by omega, hj]
  have hρn : ∀ k, k < A.R → ids[k]? = some none → ρ' (N + k) = ⟨0, 0, 0, true⟩ := fun k hk hj => by
    show (if _ then _ else _) = _
    rw [if_pos (by omega), show N + k - N = k by omega, hj]
  have hρl : ∀ k, k < N → ρ' k = ρ k := fun k hk => hag.1 k hk
  have hrl := A.rlen g
  -- what is known of each block
  have hget : ∀ k, (∃ q t sz el l, k = N + q ∧ q < A.R ∧ (A.rows g)[q]? = some (t, sz, el, l) ∧ (injL A W σ0 ds g).h.get k = .row t sz el l) ∨
      (k ∈ A.os ∧ (k, (injL A W σ0 ds g).h.get k) ∈ A.objs g) ∨ (injL A W σ0 ds g).h.get k = .dead ∨ (k < N ∧ k ∉ A.os ∧ k ∉ ds ∧ (injL A W σ0 ds g).h.get k = σ0.h.get k) := fun k => by
    have e : (injL A W σ0 ds g).h.get k = look (look (look (lookE (lookE .dead k σ0.h.b) k σ0.h.l) k (ds.map fun i => (i, SO.dead))) k (A.objs g)) k (rowsL N (A.rows g)) := by
      simp only [injL, SH.get, lookE_append, lookE_whole, hN]
    obtain ⟨r1, r2⟩ := rowsL_get (i := k) (r := A.rows g) (k := N) (look (look (lookE (lookE .dead k σ0.h.b) k σ0.h.l) k (ds.map fun i => (i, SO.dead))) k (A.objs g))
    by_cases hk : N ≤ k ∧ k < N + A.R
    · obtain ⟨t, sz, el, l, e1, e2⟩ := r1 (k - N) (by omega) (by omega)
      exact .inl ⟨k - N, t, sz, el, l, by omega, by omega, e1, by rw [e, e2]⟩
    · rw [r2 (by omega)] at e
      rcases look_or (look (lookE (lookE .dead k σ0.h.b) k σ0.h.l) k (ds.map fun i => (i, SO.dead))) k (A.objs g) with h | h
      · refine .inr (.inl ⟨?_, by rw [e]; exact h⟩)
        rw [← A.oseq g]
        exact List.mem_map.2 ⟨_, h, rfl⟩
      · rw [look_not _ _ h] at e
        rw [A.oseq g] at h
        by_cases hkd : k ∈ ds
        · exact .inr (.inr (.inl (by rw [e, look_dead _ _ _ hkd])))
        · rw [look_not _ _ (by simpa using hkd)] at e
          by_cases hkN : k < N
          · exact .inr (.inr (.inr ⟨hkN, h, hkd, e⟩))
          · refine .inr (.inr (.inl ?_))
            have : σ0.h.get k = .dead := by
              cases hg : σ0.h.get k with
              | dead => rfl
              | _ => have := h0.hp.lt k (by rw [hg]; rfl); omega
            rw [e]; exact this
  -- own blocks: where they come from
  have hsrc : ∀ k, ((injL A W σ0 ds g).h.get k).own (ρ' k) → ∃ j, (σ.h.get j).own (ρ j) ∧ ρ' k = ρ j ∧ ((∃ q, k = N + q ∧ q < A.R ∧ ids[q]? = some (some j)) ∨ (k = j ∧ k < N ∧ k ∉ ds)) := fun k hk => by
    rcases hget k with ⟨q, t, sz, el, l, rfl, hq, hr, e⟩ | ⟨ho, e⟩ | e | ⟨hkN, hko, hkd, e⟩
    · rw [e] at hk
      rcases (rel.row q t sz el l hr).2 with ⟨hi, _⟩ | ⟨j, el', m, hi, hgj, _⟩
      · rw [hρn q hq hi] at hk; cases hk
      · rw [hρ q j hq hi] at hk ⊢
        exact ⟨j, by rw [hgj]; exact hk, rfl, .inl ⟨q, rfl, hq, hi⟩⟩
    · obtain ⟨xs, xs', t, h1, h2, _⟩ := rel.obj _ _ e
      have := hob k ho
      exact ⟨k, by rw [h1]; trivial, hρl k this.1, .inr ⟨rfl, this.1, this.2⟩⟩
    · rw [e] at hk; exact hk.elim
    · rw [e, hρl k hkN] at hk
      rcases hh k hkN with h | h | h
      · exact absurd h hko
      · exact absurd h hkd
      · exact ⟨k, by rw [h]; exact hk, hρl k hkN, .inr ⟨rfl, hkN, hkd⟩⟩
  refine ⟨ρ', hag, ⟨hm.tm.1.trans hn, fun i hi => ?_⟩, ?_, fun i hi => ?_, ?_⟩
  · -- slots
    have hi' : i < σ.n := by rw [hn]; exact hi
    have hf := hm.tm.2 i hi'
    rw [St.look_lg] at hf ⊢
    have e : (injL A W σ0 ds g).slot i = look (look (look (look (.k undef) i σ0.b) i σ0.t) i (W.map fun i => (i, SV.u))) i (A.ents 0 g) := by
      simp only [injL, St.slot, look_append]
    show ((injL A W σ0 ds g).slot i).fit (σ0.h.nx + A.R) ρ' _
    rw [hN]
    rcases look_or (look (look (look (.k undef) i σ0.b) i σ0.t) i (W.map fun i => (i, SV.u))) i (A.ents 0 g) with h | h
    · rw [← e] at h
      rcases rel.ent i _ h with ⟨h1, h2⟩ | ⟨k, j, l, h1, h2, h3, h4⟩ | ⟨k, h1, h2, h3, h4⟩
      · exact h2 _ _ _ _ _ (Nat.le_add_right _ _) hag (h1 _ _ _ hf)
      · rw [h1]
        rw [h4] at hf
        obtain ⟨hjl, hor⟩ := hf
        have := hρ k j (by omega) h2
        simp only [Nat.add_zero]
        refine ⟨by omega, ?_⟩
        rw [this]; exact hor
      · rw [h1]
        have hx := h4 _ _ _ hf
        have := hρn k (by omega) h2
        simp only [Nat.add_zero]
        refine ⟨by omega, .inl ⟨by rw [this], rfl, hx⟩⟩
    · rw [look_not _ _ h] at e
      by_cases hiW : i ∈ W
      · have : (injL A W σ0 ds g).slot i = .u := by
          rw [e]
          rcases look_or (look (look (.k undef) i σ0.b) i σ0.t) i (W.map fun i => (i, SV.u)) with h1 | h1
          · obtain ⟨j, _, e⟩ := List.mem_map.1 h1
            simp only [Prod.mk.injEq] at e
            exact e.2.symm
          · exact absurd (by simpa using hiW) h1
        rw [this]; trivial
      · rw [look_not _ _ (by simpa using hiW)] at e
        rw [A.eseq] at h
        rcases hs i with h1 | h1 | h1
        · exact absurd h1 h
        · exact absurd h1 hiW
        · have hf0 := h0.tm.2 i hi
          rw [St.look_lg, hN] at hf0
          have e' : (injL A W σ0 ds g).slot i = σ0.slot i := e
          rw [e']
          rw [h1] at hf
          exact fit_low (Nat.le_add_right _ _) hag _ _ _ hf0 hf
  · -- marks
    show a.defers = σ0.d.map (markOf ρ')
    rw [hm.df, hd]
    refine (marks_agree hag σ0.d fun i hi => ?_).symm
    rw [← hN]; exact h0.dl i hi
  · show i < σ0.h.nx + A.R
    have := h0.dl i hi
    omega
  · -- memory
    exact {
      os := hm.hp.os
      tape := hm.hp.tape
      output := hm.hp.output
      size := hm.hp.size
      block := hm.hp.block
      lt := fun k hl => by
        show k < σ0.h.nx + A.R
        rw [hN]
        rcases hget k with ⟨q, t, sz, el, l, rfl, hq, _⟩ | ⟨ho, _⟩ | e | ⟨hkN, _⟩
        · omega
        · have := (hob k ho).1; omega
        · rw [e] at hl; cases hl
        · omega
      ob := fun k => by
        show ((injL A W σ0 ds g).h.get k).fit (σ0.h.nx + A.R) ρ' (ρ' k) _
        rw [hN]
        rcases hget k with ⟨q, t, sz, el, l, rfl, hq, hr, e⟩ | ⟨ho, e⟩ | e | ⟨hkN, hko, hkd, e⟩
        · rw [e]
          obtain ⟨hcl, hor⟩ := rel.row q t sz el l hr
          rcases hor with ⟨hi, rfl⟩ | ⟨j, el', m, hi, hgj, hlm, himp⟩
          · rw [hρn q hq hi]
            exact ⟨Nat.zero_le _, .inl ⟨rfl, rfl⟩⟩
          · rw [hρ q j hq hi]
            have hf := hm.hp.ob j
            rw [hgj] at hf
            refine ⟨by have := hf.1; omega, ?_⟩
            rcases hf.2 with ⟨h1, h2⟩ | ⟨h1, h2, c, h3, h4, h5, h6, h7⟩
            · exact .inl ⟨h1, by omega⟩
            · refine .inr ⟨h1, h2, c, h3, h4, by omega, h6, fun e he => ?_⟩
              obtain ⟨v, q1, q2, q3⟩ := h7 e (by omega)
              exact ⟨v, q1, hcl e σ.h.nx _ ρ ρ' v (fun _ _ h => h) (himp e he _ _ _ q2), q3⟩
        · obtain ⟨xs, xs', t, h1, h2, hcl, h3⟩ := rel.obj _ _ e
          have hk := (hob k ho).1
          have hf := hm.hp.ob k
          rw [h2, hρl k hk]
          rw [h1] at hf
          obtain ⟨f1, f2, l, f3, f4⟩ := hf
          exact ⟨f1, f2, l, f3, hcl σ.h.nx _ ρ ρ' l (fun _ _ h => h) (h3 _ _ _ f4)⟩
        · rw [e]; trivial
        · rw [e, hρl k hkN]
          have hf := hm.hp.ob k
          have hf0 := h0.hp.ob k
          rw [hN] at hf0
          rcases hh k hkN with h | h | h
          · exact absurd h hko
          · exact absurd h hkd
          · rw [h] at hf
            exact so_low (Nat.le_add_right _ _) hag hf0 hf
      ow := fun k hk => by
        obtain ⟨j, h1, h2, _⟩ := hsrc k hk
        rw [h2]; exact hm.hp.ow j h1
      fz := hm.hp.fz
      sep := fun k hk => by
        obtain ⟨j, h1, h2, _⟩ := hsrc k hk
        rw [h2]; exact hm.hp.sep j h1
      old := hm.hp.old
      inj := fun k k' hk hk' he => by
        obtain ⟨j, h1, h2, h3⟩ := hsrc k hk
        obtain ⟨j', h1', h2', h3'⟩ := hsrc k' hk'
        rw [h2, h2'] at he
        have hjj := hm.hp.inj j j' h1 h1' he
        subst hjj
        rcases h3 with ⟨q, rfl, hq, hi⟩ | ⟨rfl, hkN, hkd⟩ <;> rcases h3' with ⟨q', rfl, hq', hi'⟩ | ⟨rfl, hkN', hkd'⟩
        · rw [hid q q' j hi hi']
        · rcases hj q k' hi with h | h
          · omega
          · exact absurd h hkd'
        · rcases hj q' k hi' with h | h
          · omega
          · exact absurd h hkd
        · rfl }
end

/-! ### loops -/
section
variable {P : Program} {Γ : Gam} {Λ : Lam} {N : Nat} {γ : Type}
def fdist (ids : List (Option Nat)) : List Nat := ids.filterMap fun x => x
theorem idsOk_ok : ∀ {ids : List (Option Nat)}, idsOk N ids = true → (∀ k k' j : Nat, ids[k]? = some (some j) → ids[k']? = some (some j) → k = k') ∧ ∀ k j : Nat, ids[k]? = some (some j) → N ≤ j
  | [], _ => ⟨fun k k' j h => by simp at h, fun k j h => by simp at h⟩
  | none :: r, h => by
    obtain ⟨h1, h2⟩ := idsOk_ok (ids := r) h
    refine ⟨fun k k' j hk hk' => ?_, fun k j hk => ?_⟩
    · cases k with
      | zero => simp at hk
      | succ k => cases k' with
        | zero => simp at hk'
        | succ k' => rw [h1 k k' j (by simpa using hk) (by simpa using hk')]
    · cases k with
      | zero => simp at hk
      | succ k => exact h2 k j (by simpa using hk)
  | some i :: r, h => by
    simp only [idsOk, Bool.and_eq_true, Bool.not_eq_true'] at h
    obtain ⟨h0, hni, hr⟩ := h
    obtain ⟨h1, h2⟩ := idsOk_ok (ids := r) hr
    have hn := isIn_not hni
    have nin : ∀ k : Nat, r[k]? = some (some i) → False := fun k hk => hn (List.mem_filterMap.2 ⟨some i, List.mem_of_getElem? hk, rfl⟩)
    refine ⟨fun k k' j hk hk' => ?_, fun k j hk => ?_⟩
    · cases k with
      | zero =>
        simp at hk
        subst hk
        cases k' with
        | zero => rfl
        | succ k' => exact (nin k' (by simpa using hk')).elim
      | succ k => cases k' with
        | zero =>
          simp at hk'
          subst hk'
          exact (nin k (by simpa using hk)).elim
        | succ k' => rw [h1 k k' j (by simpa using hk) (by simpa using hk')]
    · cases k with
      | zero => simp at hk; subst hk; exact Nat.le_of_ble_eq_true h0
      | succ k => exact h2 k j (by simpa using hk)

/-- What a round is to come to: one more round, nearer to the end, or the end. -/
def StepP (Inv : γ → List Prop) (m : γ → Nat) (G : γ → Tr (Ex × γ)) (g : γ) (K : Ex × γ → Prop) (x : Ex × γ) : Prop :=
  match x.1 with
  | .normal => (∀ p ∈ Inv x.2, p) ∧ m x.2 < m g ∧ (G x.2).Holds K
  | _ => K x
/-- One round, from what is carried to what is carried. -/
def bT (P : Program) (Γ : Gam) (Λ : Lam) (n f : Nat) (rd : Option Nat) (body : Code) (A : LP N γ) (DL : List Nat) (n0 : Nat) (σ0 : St) (ds : List Nat) (g : γ) : Tr (Ex × γ) :=
  (exec P Γ Λ n (some f) rd body (injL A (dstsOf body) σ0 ds g).base).bind fun y =>
    match chkL A (dstsOf body) DL n0 y.2 with
    | true => match A.read y.2 with
      | some (g', ps, ids) => match idsOk N ids with
        | true => asks ps (.ret (y.1, g'))
        | false => .bad 640
      | none => .bad 641
    | false => .bad 642
def chkE {N : Nat} {γ : Type} (A : LP N γ) (DL : List Nat) (n0 : Nat) (σ : St) (ids : List (Option Nat)) : Bool :=
  Nat.beq σ.n n0 && (Nat.beq σ.h.nx N && (natsEq σ.d DL && (idsOk 0 ids && A.os.all fun i => Nat.blt i N && !isIn i (fdist ids))))
def loopG (body : Code) (A : LP N γ) (DL : List Nat) (n0 : Nat) (Inv : γ → List Prop) (G : γ → Tr (Ex × γ)) (σ : St) : Tr (Ex × St) :=
  match A.read σ with
  | some (g, ps, ids) => match chkE A DL n0 σ ids with
    | true => asks (ps ++ Inv g) ((G g).map fun x => (x.1, injL A (dstsOf body) σ (fdist ids) x.2))
    | false => .bad 643
  | none => .bad 644
def loopC (body : Code) (A : LP N γ) (DL : List Nat) (n0 : Nat) (Inv : γ → List Prop) (G : γ → Tr (Ex × γ)) : LCon := ⟨loopG body A DL n0 Inv G, fun σ => by
  unfold loopG
  split
  · split
    · exact asks_each (Tr.each_map (q := fun _ => True) (fun x _ => ⟨rfl, rfl⟩) (each_true _))
    · trivial
  · trivial⟩

theorem subLoops_sub : ∀ (c : Code) (x : Code), x ∈ subLoops c → ∀ b ∈ subLoops x, b ∈ subLoops c
  | .seq a b, x, h, y, hy => by
    simp only [subLoops, List.mem_append] at h ⊢
    rcases h with h | h
    · exact .inl (subLoops_sub a x h y hy)
    · exact .inr (subLoops_sub b x h y hy)
  | .cond _ a b, x, h, y, hy => by
    simp only [subLoops, List.mem_append] at h ⊢
    rcases h with h | h
    · exact .inl (subLoops_sub a x h y hy)
    · exact .inr (subLoops_sub b x h y hy)
  | .block _ c, x, h, y, hy => by simp only [subLoops] at h ⊢; exact subLoops_sub c x h y hy
  | .scope c, x, h, y, hy => by simp only [subLoops] at h ⊢; exact subLoops_sub c x h y hy
  | .loop c, x, h, y, hy => by
    simp only [subLoops, List.mem_cons] at h ⊢
    rcases h with rfl | h
    · exact .inr hy
    · exact .inr (subLoops_sub c x h y hy)
  | .skip, x, h, _, _ | .label _, x, h, _, _ | .ret, x, h, _, _ | .exit _, x, h, _, _ | .goto _, x, h, _, _ | .region .., x, h, _, _ | .rangeFunc .., x, h, _, _ | .refuse _, x, h, _, _ => by simp [subLoops] at h
theorem only_loop {l : List Code} {k : Nat} (hu : (l.filter fun c => Nat.beq (lkey c) k).length = 1) {b : Code} (hb : b ∈ l) (hk : lkey b = k) : b = (l.find? fun c => Nat.beq (lkey c) k).getD .skip := by
  obtain ⟨x, hx⟩ := List.length_eq_one_iff.1 hu
  have h1 : b ∈ l.filter fun c => Nat.beq (lkey c) k := List.mem_filter.2 ⟨hb, by simp [hk]⟩
  rw [hx, List.mem_singleton] at h1
  have h2 : l.find? (fun c => Nat.beq (lkey c) k) = some x := by
    rw [← List.head?_filter, hx]; rfl
  rw [h2, h1]; rfl

theorem loop_rounds (hΓ : ∀ f g, Γ.g f = some g → FnOk P f g) (hΛ : ∀ f k L, Λ f k = some L → ∀ b ∈ loopsOf P f, lkey b = k → LoopOk P b L.g) {n f n0 : Nat} {body : Code} (hsub : ∀ b ∈ subLoops body, b ∈ loopsOf P f)
    {A : LP N γ} {DL : List Nat} {Inv : γ → List Prop} {G : γ → Tr (Ex × γ)} {m : γ → Nat} {rd : Option Nat} {M : Nat → Prop} {w0 w00 : World} {ρ0 : Rh} {σ0 : St} {a0 : Act} {ds : List Nat} (h0 : Mod M w0 ρ0 σ0 a0 w00) (hn0 : σ0.n = n0) (hN : σ0.h.nx = N) (hDL : σ0.d = DL)
    (hob : ∀ id, id ∈ A.os → id < N ∧ id ∉ ds) (hrd : ∀ l, rd = some l → l < N)
    (hbody : ∀ g, (∀ p ∈ Inv g, p) → ∀ K : Ex × γ → Prop, (G g).Holds K → (bT P Γ Λ n f rd body A DL n0 σ0 ds g).Holds (StepP Inv m G g K)) {K : Ex × γ → Prop} {Q : Exit → Act → World → Prop} {ρb : Rh} (hQ : ∀ e g' ρ' a w, K (e, g') → Agree N ρb ρ' → Mod M w0 ρ' (injL A (dstsOf body) σ0 ds g') a w → e ≠ .normal → Q (Ex.ex e) a w) :
    ∀ (k : Nat) (g : γ) (ρ : Rh) (a : Act) (w : World), m g < k → (∀ p ∈ Inv g, p) → (G g).Holds K → Agree N ρb ρ → Mod M w0 ρ (injL A (dstsOf body) σ0 ds g) a w → Code.roundsIn (Fw (rd.map fun l => (ρb l).blk)) 0 P body Q k a w
  | 0, g, ρ, a, w, hk, _, _, _, _ => by omega
  | k + 1, g, ρ, a, w, hk, hi, hG, hag, hm => by
    rw [roundsIn_succ]
    have hK := hbody g hi K hG
    unfold bT at hK
    have hex := exec_ok hΓ hΛ n (some f) rd body (by intro f' hf' b hb; injection hf' with hf'; subst hf'; exact hsub b hb)
    have hrd' : ∀ l, rd = some l → l < (injL A (dstsOf body) σ0 ds g).base.h.nx := fun l hl => by
      have := hrd l hl
      show l < σ0.h.nx + A.R
      omega
    have hon := exec_on (P := P) (Γ := Γ) (Λ := Λ) n (some f) rd body (injL A (dstsOf body) σ0 ds g).base
    have hwp := hex M w0 w ρ _ a _ hrd' (Tr.each_holds hon (Tr.holds_bind hK)) hm.base
    have hfw : Fw (rd.map fun l => (ρ l).blk) = Fw (rd.map fun l => (ρb l).blk) := fw_agree hrd hag
    rw [hfw] at hwp
    refine wpIn_mono hwp ?_
    rintro x a' w' ⟨e, y, ρ', rfl, ⟨hk1, hon1⟩, hny, hay, hmy⟩
    simp only at hk1 hon1
    have hlow : N ≤ (injL A (dstsOf body) σ0 ds g).base.h.nx := by show N ≤ σ0.h.nx + A.R; omega
    have hagy : Agree N ρb ρ' := hag.trans (Nat.le_refl _) ⟨fun i hi => hay.1 i (Nat.lt_of_lt_of_le hi hlow), hay.2⟩
    split at hk1
    · rename_i hchk
      split at hk1
      · rename_i g' ps ids hread
        split at hk1
        · rename_i hids
          obtain ⟨hps, hk1⟩ := asks_holds hk1
          have hk1 : StepP Inv m G g K (e, g') := hk1
          simp only [chkL, Bool.and_eq_true, List.all_eq_true, Bool.or_eq_true] at hchk
          obtain ⟨c1, c2, c3, c4, c5⟩ := hchk
          obtain ⟨i1, i2⟩ := idsOk_ok hids
          obtain ⟨ob1, ob2⟩ := hon1
          have hyn : y.n = σ0.n := by rw [hn0]; exact beq_of c4
          have hyd : y.d = σ0.d := by rw [hDL]; exact natsEq_ok c3
          obtain ⟨ρ'', ha'', hm''⟩ := inj_ok (A := A) (W := dstsOf body) (ds := ds) h0 hmy hN (Nat.le_trans hlow hny) hyn hyd (A.ok 0 y g' ps ids hread hps) (A.ilen _ _ _ _ hread) i1 (fun k j h => .inl (i2 k j h)) hob (fun i => by
              by_cases hes : i ∈ A.es
              · exact .inl hes
              by_cases hW : i ∈ dstsOf body
              · exact .inr (.inl hW)
              refine .inr (.inr ?_)
              have hni : i ∉ y.t.map (·.1) := fun h => by
                have := c1 i ((jkeys_mem _ _ _).2 (.inr h))
                rcases this with h | h
                · exact hes (isIn_mem.1 h)
                · exact hW (isIn_mem.1 h)
              unfold St.slot
              rw [look_not _ _ hni, ob1]
              simp only [St.base, injL, List.append_nil, List.nil_append, look_append]
              rw [look_not _ _ (by rw [A.eseq]; exact hes), look_not _ _ (by simpa using hW)]) (fun id hid => by
              by_cases hos : id ∈ A.os
              · exact .inl hos
              by_cases hds : id ∈ ds
              · exact .inr (.inl hds)
              refine .inr (.inr ?_)
              have hni : id ∉ y.h.l.map (·.1) := fun h => by
                have := c2 id ((jkeys_mem _ _ _).2 (.inr h))
                rcases this with h | h
                · have := Nat.le_of_ble_eq_true h; omega
                · exact hos (isIn_mem.1 h)
              obtain ⟨_, r2⟩ := rowsL_get (i := id) (r := A.rows g) (k := N) (look (look (lookE (lookE .dead id σ0.h.b) id σ0.h.l) id (ds.map fun i => (i, SO.dead))) id (A.objs g))
              unfold SH.get
              rw [lookE_not _ _ hni, ob2]
              simp only [St.base, injL, lookE_append, lookE_whole, hN]
              rw [r2 (.inl hid), look_not _ _ (by rw [A.oseq]; exact hos), look_not _ _ (by simpa using hds)])
          have haq : Agree N ρb ρ'' := hagy.trans (Nat.le_refl _) ha''
          cases e with
          | normal => exact loop_rounds hΓ hΛ hsub h0 hn0 hN hDL hob hrd hbody hQ k g' ρ'' a' w' (by have h2 : m g' < m g := hk1.2.1; omega) hk1.1 hk1.2.2 haq hm''
          | exit id => exact hQ _ g' ρ'' a' w' hk1 haq hm'' (by simp)
          | goto id => exact hQ _ g' ρ'' a' w' hk1 haq hm'' (by simp)
          | ret => exact hQ _ g' ρ'' a' w' hk1 haq hm'' (by simp)
        · exact hk1.elim
      · exact hk1.elim
    · exact hk1.elim

theorem loop_ok (hΓ : ∀ f g, Γ.g f = some g → FnOk P f g) (hΛ : ∀ f k L, Λ f k = some L → ∀ b ∈ loopsOf P f, lkey b = k → LoopOk P b L.g) (n f key n0 : Nat) (A : LP N γ) (DL : List Nat) (Inv : γ → List Prop) (G : γ → Tr (Ex × γ)) (m : γ → Nat)
    (hu : ((loopsOf P f).filter fun c => Nat.beq (lkey c) key).length = 1)
    (hbody : ∀ (rd : Option Nat) (T B : List (Nat × SV)) (HL HB : List (Nat × SE)) (ds : List Nat) (g : γ), (∀ p ∈ Inv g, p) → ∀ K : Ex × γ → Prop, (G g).Holds K → (bT P Γ Λ n f rd (loopBody P f key) A DL n0 ⟨n0, T, ⟨N, HL, HB⟩, DL, B⟩ ds g).Holds (StepP Inv m G g K)) : ∀ b ∈ loopsOf P f, lkey b = key → LoopOk P b (loopC (loopBody P f key) A DL n0 Inv G).g := by
  intro b hb hk
  have hbe : b = loopBody P f key := only_loop hu hb hk
  intro M w0 w ρ σ a K rd hrd hK hm
  have hsub : ∀ x ∈ subLoops b, x ∈ loopsOf P f := fun x hx => by
    unfold loopsOf at hb ⊢
    split at hb
    · split at hb
      · rename_i fn _ c _
        exact subLoops_sub c b hb x hx
      · simp at hb
    · simp at hb
  subst hbe
  have hK : (loopG (loopBody P f key) A DL n0 Inv G σ).Holds K := hK
  unfold loopG at hK
  split at hK
  · rename_i g ps ids hread
    split at hK
    · rename_i hc
      obtain ⟨hps, hK⟩ := asks_holds hK
      have hK := Tr.holds_map hK
      simp only [chkE, Bool.and_eq_true, List.all_eq_true, Bool.not_eq_true'] at hc
      obtain ⟨c1, c2, c3, c4, c5⟩ := hc
      have e1 := beq_of c1
      have e2 := beq_of c2
      have e3 := natsEq_ok c3
      obtain ⟨i1, _⟩ := idsOk_ok c4
      have hob : ∀ id, id ∈ A.os → id < N ∧ id ∉ fdist ids := fun id h => by
        obtain ⟨h1, h2⟩ := c5 id h
        exact ⟨Nat.le_of_ble_eq_true h1, isIn_not h2⟩
      obtain ⟨ρ1, ha1, hm1⟩ := inj_ok (A := A) (W := dstsOf (loopBody P f key)) (ds := fdist ids) hm hm e2 (Nat.le_of_eq e2.symm) rfl rfl (A.ok 0 σ g ps ids hread fun p h => hps p (List.mem_append_left _ h)) (A.ilen _ _ _ _ hread) i1
        (fun k j h => .inr (List.mem_filterMap.2 ⟨some j, List.mem_of_getElem? h, rfl⟩)) hob (fun i => .inr (.inr rfl)) (fun id _ => .inr (.inr rfl))
      have hσ : σ = ⟨n0, σ.t, ⟨N, σ.h.l, σ.h.b⟩, DL, σ.b⟩ := by
        obtain ⟨n1, t1, ⟨nx1, l1, b1⟩, d1, bb1⟩ := σ
        simp only at e1 e2 e3
        subst e1; subst e2; subst e3; rfl
      have hrdN : ∀ l, rd = some l → l < N := fun l hl => by rw [← e2]; exact hrd l hl
      refine wpIn_loop_rounds (m g + 1) (loop_rounds (n := n) hΓ hΛ hsub hm e1 e2 e3 hob hrdN (m := m) (fun g hi K hG => ?_) (K := fun x => K (x.1, injL A (dstsOf (loopBody P f key)) σ (fdist ids) x.2)) (ρb := ρ) ?_ (m g + 1) g ρ1 a w (Nat.lt_succ_self _) (fun p h => hps p (List.mem_append_right _ h)) hK ha1 hm1)
      · have := hbody rd σ.t σ.b σ.h.l σ.h.b (fdist ids) g hi K hG
        rw [← hσ] at this
        exact this
      · intro e g' ρ' a' w' hk ha' hm' _
        refine ⟨e, _, ρ', rfl, hk, ?_, ?_, hm'⟩
        · show σ.h.nx ≤ σ.h.nx + A.R
          omega
        · rw [e2]; exact ha'
    · exact hK.elim
  · exact hK.elim
/-- Contracts of loops, a table. -/
def LTab (P : Program) := { l : List (Nat × Nat × LCon) // ∀ x ∈ l, ∀ b ∈ loopsOf P x.1, lkey b = x.2.1 → LoopOk P b x.2.2.g }
def LTab.nil : LTab P := ⟨[], fun x h => by simp at h⟩
def LTab.cons (t : LTab P) (f k : Nat) (c : LCon) (h : ∀ b ∈ loopsOf P f, lkey b = k → LoopOk P b c.g) : LTab P := ⟨(f, k, c) :: t.1, fun x hx => by
  rcases List.mem_cons.1 hx with rfl | hx
  · exact h
  · exact t.2 x hx⟩
def pickL (f k : Nat) : List (Nat × Nat × LCon) → Option LCon
  | [] => none
  | (j, i, c) :: r => bif Nat.beq f j && Nat.beq k i then some c else pickL f k r
theorem pickL_mem {f k : Nat} {c : LCon} : ∀ {l : List (Nat × Nat × LCon)}, pickL f k l = some c → (f, k, c) ∈ l
  | [], h => by cases h
  | (j, i, x) :: r, h => by
    simp only [pickL] at h
    cases hb : Nat.beq f j && Nat.beq k i with
    | true =>
      rw [hb] at h
      simp only [Bool.and_eq_true] at hb
      simp only [cond_true, Option.some.injEq] at h
      rw [h, beq_of hb.1, beq_of hb.2]
      exact List.mem_cons_self ..
    | false =>
      rw [hb] at h
      exact List.mem_cons_of_mem _ (pickL_mem h)
def LTab.lam (t : LTab P) : Lam := fun f k => pickL f k t.1
theorem LTab.ok (t : LTab P) : ∀ f k L, t.lam f k = some L → ∀ b ∈ loopsOf P f, lkey b = k → LoopOk P b L.g := fun f k L h => t.2 _ (pickL_mem h)
end
end Go.Sx
