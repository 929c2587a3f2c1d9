/- Single operations upon a symbolic state, each shown to be what the machine does. -/
import Derived.Test.YtapmlfklkfgmoaaZSxVal
set_option linter.unusedVariables false
namespace Go.Sx
open Go.RowKit

section
variable {P : Program} {M : Nat → Prop} {w0 w : World} {ρ : Rh} {h : SH}

/-- A run that comes to a value of which the tree speaks. -/
def GoodV (P : Program) (M : Nat → Prop) (w0 : World) (ρ : Rh) (h : SH) (K : SV × SH → Prop) (s : Sem Value) (w : World) : Prop :=
  ∃ sv h' ρ' x w', K (sv, h') ∧ h.nx ≤ h'.nx ∧ Agree h.nx ρ ρ' ∧ HM M w0 ρ' h' w' ∧ sv.fit h'.nx ρ' x ∧ s.run P w = .ok x w'
theorem GoodV.same {K : SV × SH → Prop} {s : Sem Value} {sv : SV} {x : Value} (hm : HM M w0 ρ h w) (hK : K (sv, h)) (hf : sv.fit h.nx ρ x) (hr : s.run P w = .ok x w) : GoodV P M w0 ρ h K s w :=
  ⟨sv, h, ρ, x, w, hK, Nat.le_refl _, Agree.refl _ _, hm, hf, hr⟩

def szOf (P : Program) (t : TypeId) : Option Nat := (P.info? t).map (·.size)
def aggT (P : Program) (t : TypeId) : Option Bool :=
  match P.underlying t with
  | some (.struct _) | some (.array _ _) => some true
  | some _ => some false
  | none => none
def zeroT (P : Program) (t : TypeId) : Option Value := (P.info? t).bind (·.zero)
theorem run_szOf {t : TypeId} {n : Nat} (hs : szOf P t = some n) (w : World) : (sizeOf t).run P w = .ok n w := by
  unfold szOf at hs
  cases hi : P.info? t with
  | none => simp [hi] at hs
  | some i => simp [hi] at hs; simp [sizeOf, typeInfo, hi, hs]
theorem run_aggT {t : TypeId} {b : Bool} (hs : aggT P t = some b) (w : World) : (isAgg t).run P w = .ok b w := by
  unfold aggT at hs
  unfold isAgg
  cases hu : P.underlying t with
  | none => simp [hu] at hs
  | some d => rw [Sem.run_bind, run_underlying hu w]; cases d <;> simp_all
theorem run_zeroT {t : TypeId} {z : Value} (hs : zeroT P t = some z) (w : World) : (zeroValue t).run P w = .ok z w := by
  unfold zeroT at hs
  cases hi : P.info? t with
  | none => simp [hi] at hs
  | some i => simp [hi] at hs; simp [zeroValue, typeInfo, hi, hs]

/-! ### indexes -/
def sw {α : Type} : Nat → Int → (Nat → Tr α) → Tr α
  | 0, _, _ => .bad 1
  | n + 1, i, k => .br (decide (i = (n : Int))) (k n) (sw n i k)
def idx {α : Type} (closed : Bool) (n : Nat) (i : Int) (k : Nat → Tr α) : Tr α :=
  bif closed then (bif decide (0 ≤ i) && decide (i < (n : Int)) then k i.toNat else .bad 2) else sw n i k
theorem sw_ok {α : Type} {K : α → Prop} {i : Int} {k : Nat → Tr α} : ∀ {n : Nat}, (sw n i k).Holds K → ∃ j, j < n ∧ i = (j : Int) ∧ (k j).Holds K
  | 0, h => h.elim
  | n + 1, h => by
    simp only [sw, Tr.Holds] at h
    by_cases hi : i = (n : Int)
    · exact ⟨n, Nat.lt_succ_self _, hi, h.1 (decide_eq_true hi)⟩
    · obtain ⟨j, hj, e, hk⟩ := sw_ok (h.2 (decide_eq_false hi))
      exact ⟨j, by omega, e, hk⟩
theorem idx_ok {α : Type} {K : α → Prop} {c : Bool} {n : Nat} {i : Int} {k : Nat → Tr α} (h : (idx c n i k).Holds K) : ∃ j, j < n ∧ i = (j : Int) ∧ (k j).Holds K := by
  unfold idx at h
  cases c with
  | false => exact sw_ok h
  | true =>
    simp only [cond_true] at h
    by_cases hb : 0 ≤ i ∧ i < (n : Int)
    · rw [decide_eq_true hb.1, decide_eq_true hb.2] at h
      exact ⟨i.toNat, by omega, by omega, h⟩
    · have : (decide (0 ≤ i) && decide (i < (n : Int))) = false := by
        rw [Bool.and_eq_false_iff, decide_eq_false_iff_not, decide_eq_false_iff_not]; omega
      rw [this] at h
      exact h.elim

/-! ### memory: loads and stores -/
theorem add_zero' (b o j : Nat) : (⟨b, o, none⟩ : Addr).add j = ⟨b, o + j, none⟩ := by unfold Addr.add; split <;> simp_all

theorem run_loadVar_at {t : TypeId} {b o : Nat} {cs : List Value} (hc : ∀ j v, cs[j]? = some v → w.cell? ⟨b, o + j, none⟩ = some v) (hsz : szOf P t = some cs.length) (ha : aggT P t = some true) :
    (loadVar t ⟨b, o, none⟩).run P w = .ok (.agg cs.toArray) w := by
  have hl := run_loadCells_list (P := P) w ⟨b, o, none⟩ cs (fun j v hv => by rw [add_zero']; exact hc j v hv)
  simp [loadVar, run_aggT ha, run_szOf hsz, hl]
theorem run_loadVar_one {t : TypeId} {b o : Nat} {v : Value} (hc : w.cell? ⟨b, o, none⟩ = some v) (ha : aggT P t = some false) :
    (loadVar t ⟨b, o, none⟩).run P w = .ok v w := by
  simp [loadVar, run_aggT ha, hc]

def loadS (P : Program) (h : SH) (t : TypeId) (a : SV) : Tr (SV × SH) :=
  match aggT P t, szOf P t with
  | some g, some n =>
    match a with
    | .p i o =>
      match h.get i with
      | .cells xs _ =>
        match g with
        | true => let ys := (xs.drop o).take n; bif Nat.beq ys.length n then .ret (.agg ys, h) else .bad 10
        | false => match xs[o]? with
          | some s => .ret (s, h)
          | none => .bad 11
      | _ => .bad 12
    | .pe i sz e o =>
      match h.get i with
      | .cells xs _ =>
        bif Nat.blt 0 sz && Nat.ble (o + n) xs.length then
          let cnt := (xs.length - (o + n)) / sz + 1
          .ask (e < cnt) (match g with
            | true => .ret (.agg (colsL e o sz cnt n xs), h)
            | false => match colsL e o sz cnt n xs with
              | [s] => .ret (s, h)
              | _ => .bad 19)
        else .bad 9
      | .row _ sz' el m =>
        bif Nat.beq sz sz' then
        .ask (e < m) (match g with
        | true => let ys := ((el e).drop o).take n; bif Nat.beq ys.length n then .ret (.agg ys, h) else .bad 13
        | false => match (el e)[o]? with
          | some s => .ret (s, h)
          | none => .bad 14)
        else .bad 15
      | _ => .bad 16
    | .pr xs =>
      match g with
      | true => let ys := (xs.drop 0).take n; bif Nat.beq ys.length n then .ret (.agg ys, h) else .bad 13
      | false => match xs[0]? with
        | some s => .ret (s, h)
        | none => .bad 14
    | _ => .bad 17
  | _, _ => .bad 18

theorem bif_holds {α : Type} {K : α → Prop} {c : Bool} {a : Tr α} {n : Nat} (h : (bif c then a else .bad n).Holds K) : c = true ∧ a.Holds K := by
  cases c with
  | true => exact ⟨rfl, h⟩
  | false => exact h.elim

theorem cells_at {t : TypeId} {l : List Value} {b : Nat} (hb : w.heap[b]? = some (.cells l.toArray t (0, 0))) (o : Nat) : w.cell? ⟨b, o, none⟩ = l[o]? := by
  simp [World.cell?, hb]

/-- A run that reads. -/
def GoodR (P : Program) (ρ : Rh) (h : SH) (K : SV × SH → Prop) (s : Sem Value) (w : World) : Prop := ∃ sv x, K (sv, h) ∧ sv.fit h.nx ρ x ∧ s.run P w = .ok x w
theorem load_core {t : TypeId} {n : Nat} {g : Bool} (hag : aggT P t = some g) (hsz : szOf P t = some n) {xs : List SV} {l : List Value} (hf : SV.fits h.nx ρ xs l) {b base o : Nat}
    (hc : ∀ j v, l[j]? = some v → w.cell? ⟨b, base + j, none⟩ = some v) {K : SV × SH → Prop} {e1 e2 : Nat}
    (hK : Tr.Holds K (match g with
        | true => let ys := (xs.drop o).take n; bif Nat.beq ys.length n then .ret (.agg ys, h) else .bad e1
        | false => match xs[o]? with
          | some s => .ret (s, h)
          | none => .bad e2 : Tr (SV × SH))) : GoodR P ρ h K (loadVar t ⟨b, base + o, none⟩) w := by
  cases g with
  | true =>
    obtain ⟨hlen, hK⟩ := bif_holds hK
    have hlen' := beq_of hlen
    have hys := fits_take n (fits_drop o hf)
    have hl2 := fits_length hys
    refine ⟨_, .agg ((l.drop o).take n).toArray, hK, ⟨(l.drop o).take n, rfl, hys⟩, run_loadVar_at (fun j v hv => ?_) (by rw [hsz, ← hl2, hlen']) hag⟩
    have hj : j < n := by
      have := (List.getElem?_eq_some_iff.1 hv).1
      simp at this; omega
    rw [List.getElem?_take, if_pos hj, List.getElem?_drop] at hv
    have := hc (o + j) v hv
    rwa [← Nat.add_assoc] at this
  | false =>
    cases hx : xs[o]? with
    | none => rw [hx] at hK; exact hK.elim
    | some s =>
      rw [hx] at hK
      obtain ⟨x, hx', hfx⟩ := fits_get hf hx
      exact ⟨_, _, hK, hfx, run_loadVar_one (hc o x hx') hag⟩

theorem read_ok {t : TypeId} {a : SV} {x : Value} (hm : HM M w0 ρ h w) (ha : a.fit h.nx ρ x) {K : SV × SH → Prop} (hK : (loadS P h t a).Holds K) : GoodR P ρ h K (Instr.loadAt t x) w := by
  unfold loadS at hK
  split at hK
  · rename_i g n hag hsz
    split at hK
    · rename_i i o
      split at hK
      · rename_i xs t' hg
        simp only [SV.fit] at ha
        obtain ⟨hi, rfl⟩ := ha
        have hfit := hm.ob i
        rw [hg] at hfit
        obtain ⟨_, hz, l, hob, hf⟩ := hfit
        simp only [Instr.loadAt, Instr.sureAddr, pure_bind]
        refine load_core hag hsz hf (fun j v hv => ?_) hK
        rw [hz, Nat.zero_add, cells_at hob]; exact hv
      · exact hK.elim
    · rename_i i sz e o
      simp only [SV.fit] at ha
      obtain ⟨hi, rfl⟩ := ha
      have hfit := hm.ob i
      split at hK
      · rename_i xs t' hg
        obtain ⟨hc, hK1⟩ := bif_holds hK
        simp only [Bool.and_eq_true] at hc
        have hsz0 : 0 < sz := Nat.le_of_ble_eq_true hc.1
        have hon := Nat.le_of_ble_eq_true hc.2
        obtain ⟨he, hK2⟩ := hK1
        rw [hg] at hfit
        obtain ⟨_, hz, l, hob, hf⟩ := hfit
        have hmul : e * sz ≤ xs.length - (o + n) := by
          have h1 : e ≤ (xs.length - (o + n)) / sz := by omega
          exact Nat.le_trans (Nat.mul_le_mul_right sz h1) (Nat.div_mul_le_self _ _)
        have hcols := colsL_ok (o := o) (sz := sz) (k := n) hf he (by omega)
        have hcells : ∀ j v, ((l.drop (o + e * sz)).take n)[j]? = some v → w.cell? ⟨(ρ i).blk, (ρ i).off + e * sz + o + j, none⟩ = some v := fun j v hv => by
          rw [List.getElem?_take] at hv
          split at hv
          · rw [List.getElem?_drop] at hv
            rw [hz, cells_at hob]
            rw [← hv]; congr 1; omega
          · cases hv
        have hlen : ((l.drop (o + e * sz)).take n).length = n := by
          have := fits_length hcols
          rw [← this]; simp [colsL]
        simp only [Instr.loadAt, Instr.sureAddr, pure_bind]
        cases g with
        | true =>
          exact ⟨_, .agg ((l.drop (o + e * sz)).take n).toArray, hK2, ⟨_, rfl, hcols⟩, run_loadVar_at hcells (by rw [hlen]; exact hsz) hag⟩
        | false =>
          simp only at hK2
          split at hK2
          · rename_i s hs
            rw [hs] at hcols
            obtain ⟨y, r, hyr, hy, hr⟩ := fits_cons hcols
            refine ⟨s, y, hK2, hy, run_loadVar_one ?_ hag⟩
            have := hcells 0 y (by rw [hyr]; rfl)
            simpa using this
          · exact hK2.elim
      · rename_i t' sz' el m hg
        obtain ⟨hszz, hK1⟩ := bif_holds hK
        obtain ⟨he, hK2⟩ := hK1
        have hsz' := beq_of hszz
        subst hsz'
        rw [hg] at hfit
        rcases hfit.2 with ⟨_, hfit⟩ | ⟨_, hoff, c, hob, _, _, _, hall⟩
        · omega
        obtain ⟨l, hl1, hl2, hl3⟩ := hall e he
        simp only [Instr.loadAt, Instr.sureAddr, pure_bind]
        refine load_core hag hsz hl2 (fun j v hv => ?_) hK2
        simp only [World.cell?, hob, hoff]
        exact hl3 j v hv
      · exact hK.elim
    · rename_i xs
      simp only [SV.fit] at ha
      obtain ⟨b, o, cs, t', fz, rfl, hmem, vs, hvs, hc⟩ := ha
      simp only [Instr.loadAt, Instr.sureAddr, pure_bind]
      have hob := hm.fz _ _ hmem
      refine load_core (o := 0) (base := o) hag hsz hvs (fun j v hv => ?_) hK
      simp only [World.cell?, hob]
      exact hc j v hv
    · exact hK.elim
  · exact hK.elim

theorem load_ok {t : TypeId} {a : SV} {x : Value} (hm : HM M w0 ρ h w) (ha : a.fit h.nx ρ x) {K : SV × SH → Prop} (hK : (loadS P h t a).Holds K) : GoodV P M w0 ρ h K (Instr.loadAt t x) w := by
  obtain ⟨sv, y, h1, h2, h3⟩ := read_ok hm ha hK
  exact GoodV.same hm h1 h2 h3

/-- The store of cells into a known block. -/
def splice (xs : List SV) (o : Nat) (ys : List SV) : List SV := xs.take o ++ ys ++ xs.drop (o + ys.length)
def storeS (P : Program) (h : SH) (t : TypeId) (a s : SV) : Tr (SV × SH) :=
  match szOf P t, a with
  | some n, .p i o =>
    match h.get i with
    | .cells xs t' =>
      let ys := s.cells
      bif (s.one || s.aggy) && Nat.beq ys.length n && Nat.ble (o + n) xs.length && ys.all SV.one then
        .ret (.u, h.setCs i o ys)
      else .bad 20
    | _ => .bad 21
  | some n, .pe i sz e o =>
    match h.get i with
    | .cells xs t' =>
      let ys := s.cells
      bif (s.one || s.aggy) && (Nat.beq ys.length n && (Nat.blt 0 sz && (Nat.ble (o + n) xs.length && ys.all SV.one))) then
        let cnt := (xs.length - (o + n)) / sz + 1
        .ask (e < cnt) (.ret (.u, h.set i (.cells (putAt e o sz ys cnt 0 xs) t')))
      else .bad 23
    | _ => .bad 24
  | _, _ => .bad 22

def GoodU (P : Program) (M : Nat → Prop) (w0 : World) (ρ : Rh) (h : SH) (K : SV × SH → Prop) (s : Sem Unit) (w : World) : Prop :=
  ∃ h' ρ' w', K (.u, h') ∧ h.nx ≤ h'.nx ∧ Agree h.nx ρ ρ' ∧ HM M w0 ρ' h' w' ∧ s.run P w = .ok () w'

theorem setRow_other (w : World) (g : Nat) (cs : Array Value) (j : Nat) (h : j ≠ g) : (w.setRow g cs).heap[j]? = w.heap[j]? := by
  simp only [World.setRow, Array.getElem?_modify]
  rw [if_neg (fun e => h e.symm)]

theorem fits_all_one {n : Nat} : ∀ {ss : List SV} {xs : List Value}, SV.fits n ρ ss xs → ss.all SV.one = true → ∀ v ∈ xs, v.oneCell' = true
  | [], [], _, _, v, hv => by simp at hv
  | s :: ss, x :: xs, hf, ha, v, hv => by
    simp only [SV.fits] at hf
    simp only [List.all_cons, Bool.and_eq_true] at ha
    rcases List.mem_cons.1 hv with rfl | hv
    · exact SV.one_fit ha.1 hf.1
    · exact fits_all_one hf.2 ha.2 v hv
  | [], _ :: _, hf, _, _, _ => by simp only [SV.fits] at hf
  | _ :: _, [], hf, _, _, _ => by simp only [SV.fits] at hf

theorem storeVar_core {n i o : Nat} {xs ys : List SV} {t' : TypeId} (hg : h.get i = .cells xs t') (hm : HM M w0 ρ h w) {cs : List Value} (hf : SV.fits h.nx ρ ys cs) (hlen : ys.length = n)
    (hle : o + n ≤ xs.length) (h1 : ys.all SV.one = true) :
    ∃ w', HM M w0 ρ (h.set i (.cells (splice xs o ys) t')) w' ∧ (storeCells ⟨(ρ i).blk, (ρ i).off + o, none⟩ cs).run P w = .ok () w' := by
  have hown : (h.get i).own (ρ i) := by rw [hg]; trivial
  have hfit := hm.ob i
  rw [hg] at hfit
  obtain ⟨hnl, hz, l, hob, hfl⟩ := hfit
  have hll := fits_length hfl
  have hcl := fits_length hf
  have hst := run_storeCells_at P (ρ i).blk o t' cs 0 l.toArray w hob (by simp; omega) (fits_all_one hf h1)
  rw [hz, Nat.zero_add]
  refine ⟨_, ?_, hst⟩
  refine hm.setOwn hown trivial rfl rfl rfl (by simp [World.setRow]) (fun j hj => setRow_other _ _ _ _ hj) (setRow_heap w _ _ _ _ _ hob) ⟨hnl, hz, _, rfl, ?_⟩
  simp only [Nat.add_zero]
  have e1 := fits_take o hfl
  have e2 := fits_drop (o + ys.length) hfl
  rw [hcl] at e2
  unfold splice
  rw [hcl]
  exact fits_append (fits_append e1 hf) e2

theorem storeVar_pe {n i o e sz : Nat} {xs ys xs' : List SV} {t' : TypeId} (hg : h.get i = .cells xs t') (hm : HM M w0 ρ h w) {cs : List Value} (hf : SV.fits h.nx ρ ys cs) (hlen : ys.length = n)
    (hle : o + e * sz + n ≤ xs.length) (h1 : ys.all SV.one = true) (hx : ∀ l, SV.fits h.nx ρ xs l → SV.fits h.nx ρ xs' (l.take (o + e * sz) ++ (cs ++ l.drop (o + e * sz + cs.length)))) :
    ∃ w', HM M w0 ρ (h.set i (.cells xs' t')) w' ∧ (storeCells ⟨(ρ i).blk, (ρ i).off + e * sz + o, none⟩ cs).run P w = .ok () w' := by
  have hown : (h.get i).own (ρ i) := by rw [hg]; trivial
  have hfit := hm.ob i
  rw [hg] at hfit
  obtain ⟨hnl, hz, l, hob, hfl⟩ := hfit
  have hll := fits_length hfl
  have hcl := fits_length hf
  have hst := run_storeCells_at P (ρ i).blk (o + e * sz) t' cs 0 l.toArray w hob (by simp; omega) (fits_all_one hf h1)
  rw [hz, Nat.zero_add, Nat.add_comm (e * sz) o]
  refine ⟨_, ?_, hst⟩
  refine hm.setOwn hown trivial rfl rfl rfl (by simp [World.setRow]) (fun j hj => setRow_other _ _ _ _ hj) (setRow_heap w _ _ _ _ _ hob) ⟨hnl, hz, _, rfl, ?_⟩
  simp only [Nat.add_zero]
  have := hx l hfl
  simpa using this

theorem store_ok {t : TypeId} {a s : SV} {x y : Value} (hm : HM M w0 ρ h w) (ha : a.fit h.nx ρ x) (hs : s.fit h.nx ρ y) {K : SV × SH → Prop} (hK : (storeS P h t a s).Holds K) : GoodU P M w0 ρ h K (Instr.storeAt t x y) w := by
  unfold storeS at hK
  split at hK
  · rename_i n i o hsz
    split at hK
    · rename_i xs t' hg
      obtain ⟨hc, hK⟩ := bif_holds hK
      simp only [Bool.and_eq_true, Bool.or_eq_true] at hc
      obtain ⟨⟨⟨h1, h2⟩, h3⟩, h4⟩ := hc
      have hlen := beq_of h2
      have hle := Nat.le_of_ble_eq_true h3
      have hf := cells_fits h1 hs
      simp only [SV.fit] at ha
      obtain ⟨hi, rfl⟩ := ha
      obtain ⟨w', hm', hr⟩ := storeVar_core (P := P) hg hm hf hlen hle h4
      refine ⟨_, ρ, w', hK, Nat.le_of_eq (SH.setCs_nx _ _ _ _).symm, Agree.refl _ _, hm.setCs hg (by rw [hlen]; exact hle) hm', ?_⟩
      have hcs : y.cells.size = n := by rw [← Array.length_toList, ← fits_length hf, hlen]
      simp [Instr.storeAt, Instr.sureAddr, storeVar, run_szOf hsz, hcs, hr]
    · exact hK.elim
  · rename_i n i sz e o hsz
    split at hK
    · rename_i xs t' hg
      obtain ⟨hc, hK⟩ := bif_holds hK
      obtain ⟨he, hK⟩ := hK
      simp only [Bool.and_eq_true, Bool.or_eq_true] at hc
      obtain ⟨h1, h2, h3, h4, h5⟩ := hc
      have hlen := beq_of h2
      have hsz0 : 0 < sz := Nat.le_of_ble_eq_true h3
      have hle := Nat.le_of_ble_eq_true h4
      have hf := cells_fits h1 hs
      simp only [SV.fit] at ha
      obtain ⟨hi, rfl⟩ := ha
      have hbound : ∀ q, q < (xs.length - (o + n)) / sz + 1 → o + q * sz + n ≤ xs.length := fun q hq => by
        have h1 : q ≤ (xs.length - (o + n)) / sz := by omega
        have := Nat.le_trans (Nat.mul_le_mul_right sz h1) (Nat.div_mul_le_self (xs.length - (o + n)) sz)
        omega
      obtain ⟨w', hm', hr⟩ := storeVar_pe (P := P) (sz := sz) (e := e) (o := o) hg hm hf hlen (hbound e he) h5 fun l hl => by
        have := putAt_ok (n := h.nx) (ρ := ρ) (e := e) (o := o) (sz := sz) (l := l) hf (cnt := (xs.length - (o + n)) / sz + 1) (j := 0) (xs := xs) (fun q hq => by rw [hlen]; exact hbound q (by omega)) (by simpa using hl) (fits_length hl).symm
        rw [decide_eq_true (show e < 0 + ((xs.length - (o + n)) / sz + 1) by omega)] at this
        simpa using this
      refine ⟨_, ρ, w', hK, Nat.le_refl _, Agree.refl _ _, hm', ?_⟩
      have hcs : y.cells.size = n := by rw [← Array.length_toList, ← fits_length hf, hlen]
      simp [Instr.storeAt, Instr.sureAddr, storeVar, run_szOf hsz, hcs, hr]
    · exact hK.elim
  · exact hK.elim

/-! ### new blocks -/
def boxS (h : SH) (t : TypeId) (s : SV) : Tr (SV × SH) :=
  bif s.one || s.aggy then .ret (.p h.nx 0, h.push (.cells s.cells t)) else .bad 30
theorem newCells_ok {t : TypeId} {xs : List SV} {cs : List Value} (hm : HM M w0 ρ h w) (hf : SV.fits h.nx ρ xs cs) {K : SV × SH → Prop} (hK : K (.p h.nx 0, h.push (.cells xs t))) :
    GoodV P M w0 ρ h K (do pure (.pointer (some (← newRow t cs.toArray)))) w := by
  refine ⟨_, _, upd ρ h.nx ⟨w.heap.size, 0, 0, false⟩, .pointer (some ⟨w.heap.size, 0, none⟩), w.alloc (.cells cs.toArray t), hK, Nat.le_succ _, agree_upd _ _ _, hm.push ⟨rfl, rfl, cs, rfl, hf⟩, ?_, ?_⟩
  · simp [SV.fit, SH.push, upd]
  · simp [newRow]
theorem box_ok {t : TypeId} {s : SV} {y : Value} (hm : HM M w0 ρ h w) (hs : s.fit h.nx ρ y) {K : SV × SH → Prop} (hK : (boxS h t s).Holds K) : GoodV P M w0 ρ h K (Instr.box t y) w := by
  obtain ⟨hc, hK⟩ := bif_holds hK
  have hf := cells_fits (by simpa [Bool.or_eq_true] using hc) hs
  have := newCells_ok (P := P) (t := t) hm hf hK
  simpa [Instr.box, newVar] using this
def allocS (P : Program) (h : SH) (t : TypeId) : Tr (SV × SH) :=
  match zeroT P t with
  | some z => .ret (.p h.nx 0, h.push (.cells (z.cells.toList.map .k) t))
  | none => .bad 31
theorem alloc_ok {t : TypeId} (hm : HM M w0 ρ h w) {K : SV × SH → Prop} (hK : (allocS P h t).Holds K) : GoodV P M w0 ρ h K (Instr.alloc t true (.tuple #[])) w := by
  unfold allocS at hK
  split at hK
  · rename_i z hz
    obtain ⟨sv, h', ρ', x, w', h1, h2, h3, h4, h5, h6⟩ := newCells_ok (P := P) (t := t) hm (fits_k z.cells.toList) hK
    refine ⟨sv, h', ρ', x, w', h1, h2, h3, h4, h5, ?_⟩
    rw [← h6]
    simp [Instr.alloc, run_zeroT hz, newVar]
  · exact hK.elim
end
end Go.Sx
