/- Addresses, parts, slices, aggregates: single operations upon a symbolic state. -/
import Derived.Test.YtapmlfklkfgmoaaZSxOps
import Derived.Great.BuildSlice
set_option linter.unusedVariables false
namespace Go.Sx
open Go.RowKit

section
variable {P : Program} {M : Nat → Prop} {w0 w : World} {ρ : Rh} {h : SH}

theorem ptr_add (b o n : Nat) : (⟨b, o, none⟩ : Addr).add n = ⟨b, o + n, none⟩ := add_zero' b o n

theorem pr_drop {n : Nat} {xs : List SV} {x : Value} (k : Nat) (ha : (SV.pr xs).fit n ρ x) : ∃ a, x = .pointer (some a) ∧ (SV.pr (xs.drop k)).fit n ρ (.pointer (some (a.add k))) := by
  simp only [SV.fit] at ha ⊢
  obtain ⟨b, o, cs, t, fz, rfl, hmem, vs, hvs, hc⟩ := ha
  refine ⟨_, rfl, b, o + k, cs, t, fz, by rw [ptr_add], hmem, vs.drop k, fits_drop k hvs, fun j v hv => ?_⟩
  rw [List.getElem?_drop] at hv
  have := hc (k + j) v hv
  rwa [← Nat.add_assoc] at this

def fieldAddrS (P : Program) (h : SH) (t : TypeId) (a : SV) (f : Nat) : Tr (SV × SH) :=
  match P.underlying t with
  | some (.struct fs) =>
    match fs[f]? with
    | some fd =>
      match szOf P fd.type with
      | some (_ + 1) =>
        match a with
        | .p i o => .ret (.p i (o + fd.offset), h)
        | .pe i sz e o => .ret (.pe i sz e (o + fd.offset), h)
        | .pr xs => .ret (.pr (xs.drop fd.offset), h)
        | _ => .bad 40
      | _ => .bad 41
    | none => .bad 42
  | _ => .bad 43
theorem fieldAddr_ok {t : TypeId} {a : SV} {x : Value} {f : Nat} (hm : HM M w0 ρ h w) (ha : a.fit h.nx ρ x) {K : SV × SH → Prop} (hK : (fieldAddrS P h t a f).Holds K) : GoodV P M w0 ρ h K (Instr.fieldAt t x f) w := by
  unfold fieldAddrS at hK
  split at hK
  · rename_i fs hu
    split at hK
    · rename_i fd hfd
      split at hK
      · rename_i n hsz
        split at hK
        · rename_i i o
          simp only [SV.fit] at ha
          obtain ⟨hi, rfl⟩ := ha
          refine GoodV.same hm hK (x := .pointer (some ⟨(ρ i).blk, (ρ i).off + o + fd.offset, none⟩)) ⟨hi, by rw [Nat.add_assoc]⟩ ?_
          simp [Instr.fieldAt, run_underlying hu, hfd, Instr.sureAddr, fieldPlace, run_szOf hsz, ptr_add]
        · rename_i i sz e o
          simp only [SV.fit] at ha
          obtain ⟨hi, rfl⟩ := ha
          refine GoodV.same hm hK (x := .pointer (some ⟨(ρ i).blk, (ρ i).off + e * sz + o + fd.offset, none⟩)) ⟨hi, by rw [Nat.add_assoc _ o]⟩ ?_
          simp [Instr.fieldAt, run_underlying hu, hfd, Instr.sureAddr, fieldPlace, run_szOf hsz, ptr_add]
        · rename_i xs
          obtain ⟨a, rfl, ha'⟩ := pr_drop fd.offset ha
          refine GoodV.same hm hK ha' ?_
          simp [Instr.fieldAt, run_underlying hu, hfd, Instr.sureAddr, fieldPlace, run_szOf hsz]
        · exact hK.elim
      · exact hK.elim
    · exact hK.elim
  · exact hK.elim

/-- A part of an aggregate, at an offset. -/
def partS (P : Program) (h : SH) (t : TypeId) (xs : List SV) (o : Nat) : Tr (SV × SH) :=
  match aggT P t, szOf P t with
  | some true, some n => let ys := (xs.drop o).take n; .ret (.agg ys, h)
  | some false, _ => match xs[o]? with
    | some s => .ret (s, h)
    | none => .bad 50
  | _, _ => .bad 51
theorem part_ok {t : TypeId} {xs : List SV} {l : List Value} {o : Nat} (hm : HM M w0 ρ h w) (hf : SV.fits h.nx ρ xs l) {K : SV × SH → Prop} (hK : (partS P h t xs o).Holds K) : GoodV P M w0 ρ h K (part t l.toArray o) w := by
  unfold partS at hK
  split at hK
  · rename_i n hag hsz
    refine GoodV.same hm hK (x := .agg ((l.drop o).take n).toArray) ⟨_, rfl, fits_take n (fits_drop o hf)⟩ ?_
    simp only [part, Sem.run_bind, run_aggT hag, run_szOf hsz, Result.andThen_ok, if_true, Sem.run_pure]
    congr 2
    apply Array.ext'
    rw [Array.toList_extract]
    simp [List.extract]
  · rename_i hag
    cases hx : xs[o]? with
    | none => rw [hx] at hK; exact hK.elim
    | some s =>
      rw [hx] at hK
      obtain ⟨x, hx', hfx⟩ := fits_get hf hx
      refine GoodV.same hm hK hfx ?_
      simp [part, run_aggT hag, hx']
  · exact hK.elim

def fieldS (P : Program) (h : SH) (t : TypeId) (a : SV) (f : Nat) : Tr (SV × SH) :=
  match P.underlying t, a.agg? with
  | some (.struct fs), some xs =>
    match fs[f]? with
    | some fd => partS P h fd.type xs fd.offset
    | none => .bad 60
  | _, _ => .bad 61
theorem field_ok {t : TypeId} {a : SV} {x : Value} {f : Nat} (hm : HM M w0 ρ h w) (ha : a.fit h.nx ρ x) {K : SV × SH → Prop} (hK : (fieldS P h t a f).Holds K) : GoodV P M w0 ρ h K (Instr.field t x f) w := by
  unfold fieldS at hK
  split at hK
  · rename_i fs xs hu hx
    obtain ⟨l, rfl, hf⟩ := SV.agg_fit hx ha
    split at hK
    · rename_i fd hfd
      obtain ⟨sv, h', ρ', x, w', h1, h2, h3, h4, h5, h6⟩ := part_ok hm hf hK
      refine ⟨sv, h', ρ', x, w', h1, h2, h3, h4, h5, ?_⟩
      simp [Instr.field, run_underlying hu, hfd, asAgg, h6]
    · exact hK.elim
  · exact hK.elim

def indexAddrS (P : Program) (h : SH) (t : TypeId) (a ix : SV) : Tr (SV × SH) :=
  match ix.int? with
  | some (c, _, n) =>
    match P.underlying t with
    | some (.array len e) =>
      match szOf P e with
      | some sz =>
        match a with
        | .p i o => bif c then idx c len n fun j => .ret (.p i (o + j * sz), h) else .ask (0 ≤ n ∧ n < (len : Int)) (.ret (.pe i sz n.toNat o, h))
        | .pe i s e' o => idx c len n fun j => .ret (.pe i s e' (o + j * sz), h)
        | .pr xs => bif c then idx c len n fun j => .ret (.pr (xs.drop (j * sz)), h) else bif Nat.ble (len * sz) xs.length then .ask (0 ≤ n ∧ n < (len : Int)) (.ret (.pr (colsL n.toNat 0 sz len sz xs), h)) else .bad 69
        | _ => .bad 70
      | none => .bad 71
    | some (.slice e) =>
      match szOf P e with
      | some sz =>
        match a with
        | .sl i o l _ => bif c then idx c l n fun j => .ret (.p i (o + j * sz), h) else .ask (0 ≤ n ∧ n < (l : Int)) (.ret (.pe i sz n.toNat o, h))
        | .se i s o l => bif Nat.beq s sz then .ask (0 ≤ n ∧ n < (l : Int)) (.ret (.pe i s (o + n.toNat) 0, h)) else .bad 72
        | .ow i l => match h.get i with
          | .row _ s _ _ => bif Nat.beq s sz then .ask (0 ≤ n ∧ n < (l : Int)) (.ret (.pe i s n.toNat 0, h)) else .bad 77
          | _ => .bad 78
        | .rs s l el => bif Nat.beq s sz then .ask (0 ≤ n ∧ n < (l : Int)) (.ret (.pr (el n.toNat), h)) else .bad 79
        | _ => .bad 73
      | none => .bad 74
    | _ => .bad 75
  | none => .bad 76
theorem indexAddr_ok {t : TypeId} {a ix : SV} {x y : Value} (hm : HM M w0 ρ h w) (ha : a.fit h.nx ρ x) (hi : ix.fit h.nx ρ y) {K : SV × SH → Prop} (hK : (indexAddrS P h t a ix).Holds K) : GoodV P M w0 ρ h K (Instr.indexAt t x y) w := by
  unfold indexAddrS at hK
  split at hK
  · rename_i c q n hint
    have hy := SV.int_fit hint hi
    subst hy
    split at hK
    · rename_i len e hu
      split at hK
      · rename_i sz hsz
        split at hK
        · rename_i i o
          simp only [SV.fit] at ha
          obtain ⟨hil, rfl⟩ := ha
          cases c with
          | true =>
            simp only [cond_true] at hK
            obtain ⟨j, hj, rfl, hk⟩ := idx_ok hK
            refine GoodV.same hm hk (x := .pointer (some ⟨(ρ i).blk, (ρ i).off + o + j * sz, none⟩)) ⟨hil, by rw [Nat.add_assoc]⟩ ?_
            simp [Instr.indexAt, asIntOf, run_underlying hu, Instr.sureAddr, hj, run_szOf hsz, ptr_add]
          | false =>
            obtain ⟨hb, hk⟩ := hK
            refine GoodV.same hm hk (x := .pointer (some ⟨(ρ i).blk, (ρ i).off + o + n.toNat * sz, none⟩)) ⟨hil, by rw [Nat.add_right_comm]⟩ ?_
            simp [Instr.indexAt, asIntOf, run_underlying hu, Instr.sureAddr, hb, run_szOf hsz, ptr_add]
        · rename_i i s e' o
          simp only [SV.fit] at ha
          obtain ⟨hil, rfl⟩ := ha
          obtain ⟨j, hj, rfl, hk⟩ := idx_ok hK
          refine GoodV.same hm hk (x := .pointer (some ⟨(ρ i).blk, (ρ i).off + e' * s + o + j * sz, none⟩)) ⟨hil, by rw [Nat.add_assoc _ o]⟩ ?_
          simp [Instr.indexAt, asIntOf, run_underlying hu, Instr.sureAddr, hj, run_szOf hsz, ptr_add]
        · rename_i xs
          cases c with
          | true =>
            simp only [cond_true] at hK
            obtain ⟨j, hj, rfl, hk⟩ := idx_ok hK
            obtain ⟨a, rfl, ha'⟩ := pr_drop (j * sz) ha
            refine GoodV.same hm hk ha' ?_
            simp [Instr.indexAt, asIntOf, run_underlying hu, Instr.sureAddr, hj, run_szOf hsz]
          | false =>
            obtain ⟨hc, hK1⟩ := bif_holds hK
            have hc := Nat.le_of_ble_eq_true hc
            obtain ⟨hb, hk⟩ := hK1
            simp only [SV.fit] at ha
            obtain ⟨b, o, cs, t', fz, rfl, hmem, vs, hvs, hcc⟩ := ha
            have hle : n.toNat * sz + sz ≤ len * sz := by
              have := Nat.mul_le_mul_right sz (show n.toNat + 1 ≤ len by omega)
              rw [Nat.add_mul, Nat.one_mul] at this; exact this
            have hcols := colsL_ok (o := 0) (e := n.toNat) (sz := sz) (cnt := len) (k := sz) hvs (by omega) (by omega)
            refine GoodV.same hm hk (x := .pointer (some ⟨b, o + n.toNat * sz, none⟩)) ⟨b, o + n.toNat * sz, cs, t', fz, rfl, hmem, _, hcols, fun j v hv => ?_⟩ ?_
            · rw [List.getElem?_take] at hv
              split at hv
              · rw [List.getElem?_drop, Nat.zero_add] at hv
                have := hcc _ v hv
                rwa [← Nat.add_assoc] at this
              · cases hv
            · simp [Instr.indexAt, asIntOf, run_underlying hu, Instr.sureAddr, hb, run_szOf hsz, ptr_add]
        · exact hK.elim
      · exact hK.elim
    · rename_i e hu
      split at hK
      · rename_i sz hsz
        split at hK
        · rename_i i o l cp
          simp only [SV.fit] at ha
          obtain ⟨hil, rfl⟩ := ha
          cases c with
          | true =>
            simp only [cond_true] at hK
            obtain ⟨j, hj, rfl, hk⟩ := idx_ok hK
            refine GoodV.same hm hk (x := .pointer (some ⟨(ρ i).blk, (ρ i).off + o + j * sz, none⟩)) ⟨hil, by rw [Nat.add_assoc]⟩ ?_
            simp [Instr.indexAt, asIntOf, run_underlying hu, hj, run_szOf hsz, ptr_add]
          | false =>
            obtain ⟨hb, hk⟩ := hK
            refine GoodV.same hm hk (x := .pointer (some ⟨(ρ i).blk, (ρ i).off + o + n.toNat * sz, none⟩)) ⟨hil, by rw [Nat.add_right_comm]⟩ ?_
            simp [Instr.indexAt, asIntOf, run_underlying hu, hb, run_szOf hsz, ptr_add]
        · rename_i i s o l
          obtain ⟨hs, hK1⟩ := bif_holds hK
          have := beq_of hs
          subst this
          obtain ⟨hb, hk⟩ := hK1
          simp only [SV.fit] at ha
          obtain ⟨hil, a, c, rfl, _, _, hadr⟩ := ha
          have := hadr (by omega)
          subst this
          refine GoodV.same hm hk (x := .pointer (some ⟨(ρ i).blk, (ρ i).off + o * s + n.toNat * s, none⟩)) ⟨hil, by rw [Nat.add_mul, Nat.add_zero, Nat.add_assoc]⟩ ?_
          simp [Instr.indexAt, asIntOf, run_underlying hu, hb, run_szOf hsz, ptr_add]
        · rename_i i l
          split at hK
          · rename_i t' s el m hg
            obtain ⟨hs, hK1⟩ := bif_holds hK
            have := beq_of hs
            subst this
            obtain ⟨hb, hk⟩ := hK1
            simp only [SV.fit] at ha
            obtain ⟨hil, ⟨_, hl0, _⟩ | ⟨hnl, _, rfl⟩⟩ := ha
            · omega
            have hfit := hm.ob i
            rw [hg] at hfit
            rcases hfit.2 with ⟨hnl', _⟩ | ⟨_, hoff, _⟩
            · rw [hnl] at hnl'; cases hnl'
            refine GoodV.same hm hk (x := .pointer (some ⟨(ρ i).blk, 0 + n.toNat * s, none⟩)) ⟨hil, by rw [hoff, Nat.add_zero]⟩ ?_
            simp [Instr.indexAt, asIntOf, run_underlying hu, hb, run_szOf hsz, ptr_add]
          · exact hK.elim
        · rename_i s l el
          obtain ⟨hs, hK1⟩ := bif_holds hK
          have := beq_of hs
          subst this
          obtain ⟨hb, hk⟩ := hK1
          simp only [SV.fit] at ha
          obtain ⟨a, c, rfl, _, _, hadr⟩ := ha
          obtain ⟨b, o, cs, t', fz, rfl, hmem, hall⟩ := hadr (by omega)
          obtain ⟨vs, _, hvs, hc⟩ := hall n.toNat (by omega)
          refine GoodV.same hm hk (x := .pointer (some ⟨b, o + n.toNat * s, none⟩)) ⟨b, o + n.toNat * s, cs, t', fz, rfl, hmem, vs, hvs, fun j v hv => ?_⟩ ?_
          · exact hc j v hv
          · simp [Instr.indexAt, asIntOf, run_underlying hu, hb, run_szOf hsz, ptr_add]
        · exact hK.elim
      · exact hK.elim
    · exact hK.elim
  · exact hK.elim

def indexS (P : Program) (h : SH) (t : TypeId) (a ix : SV) : Tr (SV × SH) :=
  match ix.int?, P.underlying t with
  | some (c, _, n), some (.array len e) =>
    match szOf P e, a.agg? with
    | some sz, some xs => bif c then idx c len n fun j => partS P h e xs (j * sz) else
      match aggT P e with
      | some false => bif Nat.beq sz 1 && Nat.beq xs.length len then .ask (0 ≤ n ∧ n < (len : Int)) (.ret (selL n.toNat 0 xs, h)) else .bad 83
      | _ => .bad 84
    | _, _ => .bad 80
  | some (c, _, n), some .string =>
    match a.str? with
    | some (c', s) => .ask (0 ≤ n ∧ n < (s.size : Int)) (.ret (kv (c && c') (.int .u8 (s.get! n.toNat).toNat), h))
    | none => .bad 81
  | _, _ => .bad 82
theorem index_ok {t : TypeId} {a ix : SV} {x y : Value} (hm : HM M w0 ρ h w) (ha : a.fit h.nx ρ x) (hi : ix.fit h.nx ρ y) {K : SV × SH → Prop} (hK : (indexS P h t a ix).Holds K) : GoodV P M w0 ρ h K (Instr.index t x y) w := by
  unfold indexS at hK
  split at hK
  · rename_i c q n len e hint hu
    have hy := SV.int_fit hint hi
    subst hy
    split at hK
    · rename_i sz xs hsz hx
      obtain ⟨l, rfl, hf⟩ := SV.agg_fit hx ha
      cases c with
      | true =>
        simp only [cond_true] at hK
        obtain ⟨j, hj, rfl, hk⟩ := idx_ok hK
        obtain ⟨sv, h', ρ', x, w', h1, h2, h3, h4, h5, h6⟩ := part_ok hm hf hk
        refine ⟨sv, h', ρ', x, w', h1, h2, h3, h4, h5, ?_⟩
        simp [Instr.index, asIntOf, run_underlying hu, hj, run_szOf hsz, h6]
      | false =>
        simp only [cond_false] at hK
        split at hK
        · rename_i hag
          obtain ⟨hc, hb, hk⟩ := bif_holds hK
          simp only [Bool.and_eq_true] at hc
          have e1 := beq_of hc.1
          have e2 := beq_of hc.2
          have hlt : n.toNat < xs.length := by omega
          have hx : xs[n.toNat]? = some xs[n.toNat] := List.getElem?_eq_getElem hlt
          obtain ⟨y, hy, hfy⟩ := fits_get hf hx
          refine GoodV.same hm hk (selL_ok (k := n.toNat) hx (by omega) hfy) ?_
          simp [Instr.index, asIntOf, run_underlying hu, hb, run_szOf hsz, e1, part, run_aggT hag, hy]
        · exact hK.elim
    · exact hK.elim
  · rename_i c q n hint hu
    have hy := SV.int_fit hint hi
    subst hy
    split at hK
    · rename_i c' s hs
      obtain ⟨hb, hk⟩ := hK
      have hx := SV.str_fit hs ha
      subst hx
      refine GoodV.same hm hk (kv_fit _ _ _) ?_
      have hlt : n.toNat < s.size := by omega
      have hg : s[n.toNat]? = some (s.get! n.toNat) := by
        rw [getElem?_pos s n.toNat hlt]
        congr 1
        show s.data[n.toNat] = s.data[n.toNat]!
        rw [getElem!_pos s.data n.toNat hlt]
      simp [Instr.index, asIntOf, run_underlying hu, hb.1, hg]
    · exact hK.elim
  · exact hK.elim

def extractS (h : SH) (a : SV) (j : Nat) : Tr (SV × SH) :=
  match a with
  | .tup xs => match xs[j]? with
    | some s => .ret (s, h)
    | none => .bad 90
  | _ => .bad 91
theorem extract_ok {a : SV} {x : Value} {j : Nat} (hm : HM M w0 ρ h w) (ha : a.fit h.nx ρ x) {K : SV × SH → Prop} (hK : (extractS h a j).Holds K) : GoodV P M w0 ρ h K (Instr.extract x j) w := by
  unfold extractS at hK
  split at hK
  · rename_i xs
    simp only [SV.fit] at ha
    obtain ⟨l, rfl, hf⟩ := ha
    cases hx : xs[j]? with
    | none => rw [hx] at hK; exact hK.elim
    | some s =>
      rw [hx] at hK
      obtain ⟨x, hx', hfx⟩ := fits_get hf hx
      refine GoodV.same hm hK hfx ?_
      simp [Instr.extract, hx']
  · exact hK.elim

/-! ### slices -/
def loS (lo : Option SV) (h : Nat) (k : Nat → Tr (SV × SH)) : Tr (SV × SH) :=
  match lo with
  | none => k 0
  | some s => match s.int? with
    | some (c, _, n) => idx c (h + 1) n k
    | none => .bad 100
def hiS (hi : Option SV) (len cap : Nat) (k : Nat → Tr (SV × SH)) : Tr (SV × SH) :=
  match hi with
  | none => bif Nat.ble len cap then k len else .bad 101
  | some s => match s.int? with
    | some (c, _, n) => idx c (cap + 1) n k
    | none => .bad 102

/-- Bounds of which nothing is written out. -/
def loQ (lo : Option SV) (h : Nat) (k : Nat → Tr (SV × SH)) : Tr (SV × SH) :=
  match lo with
  | none => k 0
  | some s => match s.int? with
    | some (_, _, n) => .ask (0 ≤ n ∧ n ≤ (h : Int)) (k n.toNat)
    | none => .bad 103
def hiQ (hi : Option SV) (len cap : Nat) (k : Nat → Tr (SV × SH)) : Tr (SV × SH) :=
  match hi with
  | none => .ask (len ≤ cap) (k len)
  | some s => match s.int? with
    | some (_, _, n) => .ask (0 ≤ n ∧ n ≤ (cap : Int)) (k n.toNat)
    | none => .bad 104

def optFit (n : Nat) (ρ : Rh) (s : Option SV) (x : Option Value) : Prop :=
  match s, x with
  | none, none => True
  | some s, some x => s.fit n ρ x
  | _, _ => False

theorem run_bound (q : IntKind) (i : Int) (j y : Nat) (hj : i = (j : Int)) (hy : j ≤ y) (code : BoundsCode) : (Instr.sliceBound (.int q i) y code).run P w = .ok j w := by
  subst hj
  simp [Instr.sliceBound, asIntOf, hy]

theorem hi_cases {hi : Option SV} {hv : Option Value} {len cap : Nat} (hf : optFit h.nx ρ hi hv) {k : Nat → Tr (SV × SH)} {K : SV × SH → Prop} (hK : (hiS hi len cap k).Holds K ∨ (hiQ hi len cap k).Holds K) :
    ∃ j, j ≤ cap ∧ (k j).Holds K ∧ ((hv = none ∧ j = len) ∨ ∃ q, hv = some (.int q (j : Int))) := by
  unfold hiS hiQ at hK
  cases hi with
  | none =>
    cases hv with
    | some _ => exact hf.elim
    | none =>
      rcases hK with hK | hK
      · obtain ⟨h1, h2⟩ := bif_holds hK
        exact ⟨len, Nat.le_of_ble_eq_true h1, h2, .inl ⟨rfl, rfl⟩⟩
      · exact ⟨len, hK.1, hK.2, .inl ⟨rfl, rfl⟩⟩
  | some s =>
    cases hv with
    | none => exact hf.elim
    | some x =>
      cases hs : s.int? with
      | none => simp [hs, Tr.Holds] at hK
      | some y =>
        obtain ⟨c, q, n⟩ := y
        have hx := SV.int_fit hs hf
        simp only [hs] at hK
        rcases hK with hK | hK
        · obtain ⟨j, hj, e, hk⟩ := idx_ok hK
          exact ⟨j, by omega, hk, .inr ⟨q, by rw [hx, e]⟩⟩
        · obtain ⟨hb, hk⟩ := hK
          exact ⟨n.toNat, by omega, hk, .inr ⟨q, by rw [hx, Int.toNat_of_nonneg hb.1]⟩⟩
theorem lo_cases {lo : Option SV} {lv : Option Value} {hh : Nat} (hf : optFit h.nx ρ lo lv) {k : Nat → Tr (SV × SH)} {K : SV × SH → Prop} (hK : (loS lo hh k).Holds K ∨ (loQ lo hh k).Holds K) :
    ∃ j, j ≤ hh ∧ (k j).Holds K ∧ ((lv = none ∧ j = 0) ∨ ∃ q, lv = some (.int q (j : Int))) := by
  unfold loS loQ at hK
  cases lo with
  | none =>
    cases lv with
    | some _ => exact hf.elim
    | none =>
      rcases hK with hK | hK
      · exact ⟨0, Nat.zero_le _, hK, .inl ⟨rfl, rfl⟩⟩
      · exact ⟨0, Nat.zero_le _, hK, .inl ⟨rfl, rfl⟩⟩
  | some s =>
    cases lv with
    | none => exact hf.elim
    | some x =>
      cases hs : s.int? with
      | none => simp [hs, Tr.Holds] at hK
      | some y =>
        obtain ⟨c, q, n⟩ := y
        have hx := SV.int_fit hs hf
        simp only [hs] at hK
        rcases hK with hK | hK
        · obtain ⟨j, hj, e, hk⟩ := idx_ok hK
          exact ⟨j, by omega, hk, .inr ⟨q, by rw [hx, e]⟩⟩
        · obtain ⟨hb, hk⟩ := hK
          exact ⟨n.toNat, by omega, hk, .inr ⟨q, by rw [hx, Int.toNat_of_nonneg hb.1]⟩⟩

theorem run_bounds {lv hv : Option Value} {l hh len cap : Nat} (isS : Bool) (hl : l ≤ hh) (hc : hh ≤ cap) (h1 : (hv = none ∧ hh = len) ∨ ∃ q, hv = some (.int q (hh : Int))) (h2 : (lv = none ∧ l = 0) ∨ ∃ q, lv = some (.int q (l : Int))) :
    (Instr.sliceBounds isS len cap lv hv none).run P w = .ok (l, hh, cap) w := by
  rcases h1 with ⟨rfl, rfl⟩ | ⟨q, rfl⟩ <;> rcases h2 with ⟨rfl, rfl⟩ | ⟨q', rfl⟩
  · simp [Instr.sliceBounds]
  · simp [Instr.sliceBounds, run_bound q' _ l _ rfl hl]
  · simp [Instr.sliceBounds, run_bound q _ hh _ rfl hc]
  · simp [Instr.sliceBounds, run_bound q _ hh _ rfl hc, run_bound q' _ l _ rfl hl]

/-- Elements, from one on. -/
def shEl (l : Nat) (el : Nat → List SV) : Nat → List SV := fun e => el (l + e)
def sliceS (P : Program) (h : SH) (t : TypeId) (a : SV) (lo hi : Option SV) : Tr (SV × SH) :=
  match P.underlying t with
  | some (.array len e) =>
    match szOf P e, a with
    | some sz, .p i o => hiS hi len len fun hh => loS lo hh fun l => .ret (.sl i (bif Nat.beq len l then o else o + l * sz) (hh - l) (len - l), h)
    | some sz, .pr xs => bif Nat.beq (len * sz) xs.length && Nat.ble len 1000 then hiQ hi len len fun hh => loQ lo hh fun l => .ret (.rs sz (hh - l) (shEl l (fun e => (xs.drop (e * sz)).take sz)), h) else .bad 118
    | _, _ => .bad 110
  | some (.slice e) =>
    match szOf P e with
    | some sz =>
      match a with
      | .sl i o len cap => hiS hi len cap fun hh => loS lo hh fun l => .ret (.sl i (bif Nat.beq cap l then o else o + l * sz) (hh - l) (cap - l), h)
      | .se i s o len => bif Nat.beq s sz then hiQ hi len len fun hh => loQ lo hh fun l => .ret (.se i s (o + l) (hh - l), h) else .bad 111
      | .ow i len => match h.get i with
        | .row _ s _ _ => bif Nat.beq s sz then hiQ hi len len fun hh => loQ lo hh fun l => .ret (.se i s l (hh - l), h) else .bad 116
        | _ => .bad 117
      | .rs s len el => bif Nat.beq s sz then hiQ hi len len fun hh => match lo with
        | none => .ret (.rs s hh el, h)
        | some _ => loQ lo hh fun l => .ret (.rs s (hh - l) (shEl l el), h) else .bad 119
      | .k (.slice none 0 0) => hiQ hi 0 0 fun hh => loQ lo hh fun _ => .ret (.k (.slice none 0 0), h)
      | _ => .bad 112
    | none => .bad 113
  | some .string =>
    match a.str? with
    | some (c, s) =>
      match c with
      | true => hiS hi s.size s.size fun hh => loS lo hh fun l => .ret (.k (.string (s.extract l hh)), h)
      | false => hiQ hi s.size s.size fun hh => loQ lo hh fun l => .ret (.v (.string (s.extract l hh)), h)
    | none => .bad 114
  | _ => .bad 115

theorem bif_beq {α : Type} (a b : Nat) (x y : α) : (bif Nat.beq a b then x else y) = if a = b then x else y := by
  by_cases hab : a = b
  · simp [hab]
  · have : Nat.beq a b = false := by
      cases hb : Nat.beq a b
      · rfl
      · exact absurd (beq_of hb) hab
    simp [this, hab]

theorem slice_ok {t : TypeId} {a : SV} {x : Value} {lo hi : Option SV} {lv hv : Option Value} (hm : HM M w0 ρ h w) (ha : a.fit h.nx ρ x) (hlo : optFit h.nx ρ lo lv) (hhi : optFit h.nx ρ hi hv) {K : SV × SH → Prop} (hK : (sliceS P h t a lo hi).Holds K) :
    GoodV P M w0 ρ h K (Instr.sliceAt t x lv hv none) w := by
  unfold sliceS at hK
  split at hK
  · rename_i len e hu
    split at hK
    · rename_i sz i o hsz
      simp only [SV.fit] at ha
      obtain ⟨hil, rfl⟩ := ha
      obtain ⟨hh, hhc, hK1, h1⟩ := hi_cases hhi (.inl hK)
      obtain ⟨l, hl, hk, h2⟩ := lo_cases hlo (.inl hK1)
      rw [bif_beq] at hk
      refine GoodV.same hm hk (x := .slice (some ⟨(ρ i).blk, (ρ i).off + if len = l then o else o + l * sz, none⟩) (hh - l) (len - l)) ⟨hil, rfl⟩ ?_
      simp only [Instr.sliceAt, Sem.run_bind, run_underlying hu, Result.andThen_ok, Instr.sureAddr, Sem.run_pure, run_bounds (P := P) (w := w) false hl hhc h1 h2, run_szOf hsz]
      by_cases hcl : len = l
      · simp [hcl]
      · simp [hcl, ptr_add, Nat.add_assoc]
    · rename_i sz xs hsz
      obtain ⟨hxl, hK⟩ := bif_holds hK
      simp only [Bool.and_eq_true] at hxl
      have hxl2 := Nat.le_of_ble_eq_true hxl.2
      have hxl := beq_of hxl.1
      obtain ⟨hh, hhc, hK1, h1⟩ := hi_cases hhi (.inr hK)
      obtain ⟨l, hl, hk, h2⟩ := lo_cases hlo (.inr hK1)
      simp only [SV.fit] at ha
      obtain ⟨b, o, cs, t', fz, rfl, hmem, vs, hvs, hc⟩ := ha
      have hvl := fits_length hvs
      refine GoodV.same hm hk (x := .slice (some ⟨b, o + if len = l then 0 else l * sz, none⟩) (hh - l) (len - l)) ⟨_, _, rfl, by omega, by unfold maxLen; omega, fun hpos => ⟨_, _, cs, t', fz, rfl, hmem, fun e he => ⟨(vs.drop ((l + e) * sz)).take sz, ?_, fits_take _ (fits_drop _ hvs), fun j v hv => ?_⟩⟩⟩ ?_
      · have : (l + e) * sz + sz ≤ len * sz := by
          have := Nat.mul_le_mul_right sz (show l + e + 1 ≤ len by omega)
          rw [Nat.add_mul, Nat.one_mul] at this; exact this
        simp; omega
      · rw [if_neg (by omega)]
        rw [List.getElem?_take] at hv
        split at hv
        · rw [List.getElem?_drop] at hv
          have := hc _ v hv
          rw [Nat.add_mul] at this
          simpa [Nat.add_assoc] using this
        · cases hv
      · simp only [Instr.sliceAt, Sem.run_bind, run_underlying hu, Result.andThen_ok, Instr.sureAddr, Sem.run_pure, run_bounds (P := P) (w := w) false hl hhc h1 h2, run_szOf hsz]
        by_cases hcl : len = l
        · simp [hcl]
        · simp [hcl, ptr_add]
    · exact hK.elim
  · rename_i e hu
    split at hK
    · rename_i sz hsz
      split at hK
      · rename_i i o len cap
        simp only [SV.fit] at ha
        obtain ⟨hil, rfl⟩ := ha
        obtain ⟨hh, hhc, hK1, h1⟩ := hi_cases hhi (.inl hK)
        obtain ⟨l, hl, hk, h2⟩ := lo_cases hlo (.inl hK1)
        rw [bif_beq] at hk
        refine GoodV.same hm hk (x := .slice (some ⟨(ρ i).blk, (ρ i).off + if cap = l then o else o + l * sz, none⟩) (hh - l) (cap - l)) ⟨hil, rfl⟩ ?_
        simp only [Instr.sliceAt, Instr.slice, Sem.run_bind, run_underlying hu, Result.andThen_ok, Sem.run_pure, run_bounds (P := P) (w := w) true hl hhc h1 h2, run_szOf hsz]
        by_cases hcl : cap = l
        · simp [hcl]
        · simp [hcl, ptr_add, Nat.add_assoc]
      · rename_i i s o len
        obtain ⟨hs, hK0⟩ := bif_holds hK
        have := beq_of hs
        subst this
        simp only [SV.fit] at ha
        obtain ⟨hil, a, c, rfl, hlc, hcm, hadr⟩ := ha
        obtain ⟨hh, hhc, hK1, h1⟩ := hi_cases hhi (.inr hK0)
        obtain ⟨l, hl, hk, h2⟩ := lo_cases hlo (.inr hK1)
        refine GoodV.same hm hk (x := .slice (if c = l then a else a.map (·.add (l * s))) (hh - l) (c - l)) ⟨hil, _, _, rfl, by omega, by omega, fun hpos => ?_⟩ ?_
        · rw [if_neg (by omega), hadr (by omega)]
          simp [ptr_add, Nat.add_mul, Nat.add_assoc]
        · simp only [Instr.sliceAt, Instr.slice, Sem.run_bind, run_underlying hu, Result.andThen_ok, Sem.run_pure, run_bounds (P := P) (w := w) true hl (Nat.le_trans hhc hlc) h1 h2, run_szOf hsz]
      · rename_i i len
        split at hK
        · rename_i t' s el m hg
          obtain ⟨hs, hK0⟩ := bif_holds hK
          have := beq_of hs
          subst this
          have hfit := hm.ob i
          rw [hg] at hfit
          obtain ⟨hh, hhc, hK1, h1⟩ := hi_cases hhi (.inr hK0)
          obtain ⟨l, hl, hk, h2⟩ := lo_cases hlo (.inr hK1)
          simp only [SV.fit] at ha
          obtain ⟨hil, ⟨hnl, hl0, rfl⟩ | ⟨hnl, hlc, rfl⟩⟩ := ha
          · subst hl0
            have e1 : hh = 0 := by omega
            have e2 : l = 0 := by omega
            subst e1; subst e2
            refine GoodV.same hm hk (x := .slice none 0 0) ⟨hil, _, _, rfl, Nat.le_refl _, Nat.zero_le _, fun hpos => by omega⟩ ?_
            simp only [Instr.sliceAt, Instr.slice, Sem.run_bind, run_underlying hu, Result.andThen_ok, Sem.run_pure, run_bounds (P := P) (w := w) true (Nat.le_refl 0) (Nat.le_refl 0) h1 h2, run_szOf hsz]
            simp
          · rcases hfit.2 with ⟨hnl', _⟩ | ⟨_, hoff, cc, hob, hcs, hmc, hcm, _⟩
            · rw [hnl] at hnl'; cases hnl'
            · refine GoodV.same hm hk (x := .slice (if (ρ i).cap = l then some ⟨(ρ i).blk, 0, none⟩ else (some (⟨(ρ i).blk, 0, none⟩ : Addr)).map (·.add (l * s))) (hh - l) ((ρ i).cap - l)) ⟨hil, _, _, rfl, by omega, by omega, fun hpos => ?_⟩ ?_
              · rw [if_neg (by omega)]
                simp [ptr_add, hoff]
              · simp only [Instr.sliceAt, Instr.slice, Sem.run_bind, run_underlying hu, Result.andThen_ok, Sem.run_pure, run_bounds (P := P) (w := w) true hl (Nat.le_trans hhc hlc) h1 h2, run_szOf hsz]
        · exact hK.elim
      · rename_i s len el
        obtain ⟨hs, hK0⟩ := bif_holds hK
        have := beq_of hs
        subst this
        obtain ⟨hh, hhc, hK1, h1⟩ := hi_cases hhi (.inr hK0)
        have core : ∃ l, l ≤ hh ∧ K (.rs s (hh - l) (shEl l el), h) ∧ ((lv = none ∧ l = 0) ∨ ∃ q, lv = some (.int q (l : Int))) := by
          cases lo with
          | none =>
            cases lv with
            | some _ => exact hlo.elim
            | none => exact ⟨0, Nat.zero_le _, by rw [Nat.sub_zero, show shEl 0 el = el from funext fun e => by simp [shEl]]; exact hK1, .inl ⟨rfl, rfl⟩⟩
          | some lo => exact lo_cases hlo (.inr hK1)
        obtain ⟨l, hl, hk, h2⟩ := core
        simp only [SV.fit] at ha
        obtain ⟨a, c, rfl, hlc, hcm, hadr⟩ := ha
        refine GoodV.same hm hk (x := .slice (if c = l then a else a.map (·.add (l * s))) (hh - l) (c - l)) ⟨_, _, rfl, by omega, by omega, fun hpos => ?_⟩ ?_
        · obtain ⟨b, o, cs, t', fz, rfl, hmem, hall⟩ := hadr (by omega)
          refine ⟨b, o + l * s, cs, t', fz, ?_, hmem, fun e he => ?_⟩
          · rw [if_neg (by omega)]
            simp [ptr_add]
          · obtain ⟨vs, k1, k2, k3⟩ := hall (l + e) (by omega)
            refine ⟨vs, k1, k2, fun j v hv => ?_⟩
            have := k3 j v hv
            rw [Nat.add_mul] at this
            simpa [Nat.add_assoc] using this
        · simp only [Instr.sliceAt, Instr.slice, Sem.run_bind, run_underlying hu, Result.andThen_ok, Sem.run_pure, run_bounds (P := P) (w := w) true hl (Nat.le_trans hhc hlc) h1 h2, run_szOf hsz]
      · simp only [SV.fit] at ha
        subst ha
        obtain ⟨hh, hhc, hK1, h1⟩ := hi_cases hhi (.inr hK)
        obtain ⟨l, hl, hk, h2⟩ := lo_cases hlo (.inr hK1)
        have e1 : hh = 0 := by omega
        have e2 : l = 0 := by omega
        subst e1; subst e2
        refine GoodV.same hm hk (x := .slice none 0 0) (by simp [SV.fit]) ?_
        simp only [Instr.sliceAt, Instr.slice, Sem.run_bind, run_underlying hu, Result.andThen_ok, Sem.run_pure, run_bounds (P := P) (w := w) true hl hhc h1 h2, run_szOf hsz]
        simp
      · exact hK.elim
    · exact hK.elim
  · rename_i hu
    split at hK
    · rename_i c s hs
      have hx := SV.str_fit hs ha
      subst hx
      cases c with
      | true =>
        obtain ⟨hh, hhc, hK1, h1⟩ := hi_cases hhi (.inl hK)
        obtain ⟨l, hl, hk, h2⟩ := lo_cases hlo (.inl hK1)
        refine GoodV.same hm hk (x := .string (s.extract l hh)) (by simp [SV.fit]) ?_
        simp [Instr.sliceAt, Instr.slice, run_underlying hu, run_bounds (P := P) (w := w) false hl hhc h1 h2]
      | false =>
        obtain ⟨hh, hhc, hK1, h1⟩ := hi_cases hhi (.inr hK)
        obtain ⟨l, hl, hk, h2⟩ := lo_cases hlo (.inr hK1)
        refine GoodV.same hm hk (x := .string (s.extract l hh)) (by simp [SV.fit]) ?_
        simp [Instr.sliceAt, Instr.slice, run_underlying hu, run_bounds (P := P) (w := w) false hl hhc h1 h2]
    · exact hK.elim
  · exact hK.elim

/-! ### aggregates -/
def fillS (place : Nat → Option (Nat × Nat)) (cells : List SV) : List (Nat × SV) → Option (List SV)
  | [] => some cells
  | (i, v) :: rest =>
    match place i with
    | none => none
    | some (off, size) =>
      bif (v.one || v.aggy) && Nat.beq v.cells.length size && Nat.ble (off + size) cells.length then fillS place (splice cells off v.cells) rest
      else none
theorem foldl_set (off : Nat) : ∀ (cs : List Value) (i : Nat) (l : List Value), off + i + cs.length ≤ l.length →
    (cs.zipIdx i).foldl (fun (a : Array Value) (x : Value × Nat) => a.setIfInBounds (off + x.2) x.1) l.toArray = (l.take (off + i) ++ cs ++ l.drop (off + i + cs.length)).toArray
  | [], i, l, _ => by simp
  | c :: cs, i, l, hl => by
    simp only [List.zipIdx_cons, List.foldl_cons, List.setIfInBounds_toArray]
    have hi : off + i < l.length := by simp at hl; omega
    rw [foldl_set off cs (i + 1) (l.set (off + i) c) (by simp at hl ⊢; omega)]
    have e := list_seg_step l (off + i) c cs (by simp at hl ⊢; omega)
    exact congrArg List.toArray (by simpa [Nat.add_assoc] using e)
theorem fill_ok {place : Nat → Option (Nat × Nat)} {n : Nat} : ∀ {parts : List (Nat × SV)} {vparts : List (Nat × Value)} {cells cells' : List SV} {l : List Value}, fillS place cells parts = some cells' → SV.fits n ρ cells l →
    parts.map (·.1) = vparts.map (·.1) → SV.fits n ρ (parts.map (·.2)) (vparts.map (·.2)) → ∃ l', Instr.fill place l.toArray vparts = some (List.toArray l') ∧ SV.fits n ρ cells' l'
  | [], [], cells, cells', l, hfl, hf, _, _ => by
    simp only [fillS, Option.some.injEq] at hfl
    subst hfl
    exact ⟨l, rfl, hf⟩
  | (i, v) :: parts, (i', x) :: vparts, cells, cells', l, hfl, hf, h1, h2 => by
    simp only [List.map_cons, List.cons.injEq] at h1
    obtain ⟨rfl, h1⟩ := h1
    simp only [List.map_cons, SV.fits] at h2
    simp only [fillS] at hfl
    cases hp : place i with
    | none => simp [hp] at hfl
    | some os =>
      obtain ⟨off, size⟩ := os
      rw [hp] at hfl
      simp only at hfl
      cases hc : ((v.one || v.aggy) && Nat.beq v.cells.length size && Nat.ble (off + size) cells.length) with
      | false => simp [hc] at hfl
      | true =>
        rw [hc] at hfl
        simp only [cond_true] at hfl
        simp only [Bool.and_eq_true, Bool.or_eq_true] at hc
        obtain ⟨⟨c1, c2⟩, c3⟩ := hc
        have hlen := beq_of c2
        have hle := Nat.le_of_ble_eq_true c3
        have hvf := cells_fits c1 h2.1
        have hl1 := fits_length hvf
        have hl2 := fits_length hf
        have hsp : SV.fits n ρ (splice cells off v.cells) (l.take off ++ x.cells.toList ++ l.drop (off + x.cells.toList.length)) := by
          unfold splice
          rw [hl1]
          exact fits_append (fits_append (fits_take off hf) hvf) (fits_drop _ hf)
        obtain ⟨l', hl', hf'⟩ := fill_ok hfl hsp h1 h2.2
        refine ⟨l', ?_, hf'⟩
        simp only [Instr.fill, hp]
        have hxs : x.cells.size = size := by rw [← Array.length_toList, ← hl1, hlen]
        rw [if_neg (by simp [hxs]; omega)]
        have hfold := foldl_set off x.cells.toList 0 l (by rw [← hl1, hlen]; omega)
        have e1 : x.cells.zipIdx.foldl (fun cs (c, j) => cs.setIfInBounds (off + j) c) l.toArray = (x.cells.toList.zipIdx 0).foldl (fun (a : Array Value) (x : Value × Nat) => a.setIfInBounds (off + x.2) x.1) l.toArray := by
          rw [← Array.foldl_toList, Array.toList_zipIdx]
        rw [e1, hfold]
        simpa using hl'
  | [], _ :: _, _, _, _, _, _, h1, _ => by simp at h1
  | _ :: _, [], _, _, _, _, _, h1, _ => by simp at h1

def placesT (P : Program) (fs : List Field) : Option (List (Nat × Nat)) := fs.mapM (fun f => (P.info? f.type).map fun i => (f.offset, i.size))
def buildS (P : Program) (h : SH) (t : TypeId) (parts : List (Nat × SV)) : Tr (SV × SH) :=
  match P.underlying t, zeroT P t with
  | some (.struct fs), some z =>
    match placesT P fs.toList with
    | some pl => match fillS (pl[·]?) (z.cells.toList.map .k) parts with
      | some cs => .ret (.agg cs, h)
      | none => .bad 120
    | none => .bad 121
  | some (.array _ e), some z =>
    match szOf P e with
    | some sz => match fillS (fun i => some (i * sz, sz)) (z.cells.toList.map .k) parts with
      | some cs => .ret (.agg cs, h)
      | none => .bad 122
    | none => .bad 123
  | _, _ => .bad 124
theorem build_ok {t : TypeId} {parts : List (Nat × SV)} {vparts : List (Nat × Value)} (hm : HM M w0 ρ h w) (h1 : parts.map (·.1) = vparts.map (·.1)) (h2 : SV.fits h.nx ρ (parts.map (·.2)) (vparts.map (·.2))) {K : SV × SH → Prop}
    (hK : (buildS P h t parts).Holds K) : GoodV P M w0 ρ h K (Instr.build t vparts.toArray) w := by
  unfold buildS at hK
  have hz? : ∀ z, zeroT P t = some z → ∃ i, P.info? t = some i ∧ i.zero = some z := by
    intro z hz
    unfold zeroT at hz
    cases hi : P.info? t with
    | none => simp [hi] at hz
    | some i => simp [hi] at hz; exact ⟨i, rfl, hz⟩
  split at hK
  · rename_i fs z hu hz
    split at hK
    · rename_i pl hpl
      split at hK
      · rename_i cs hfl
        obtain ⟨i, hi, hiz⟩ := hz? z hz
        obtain ⟨l', hl', hf'⟩ := fill_ok hfl (fits_k z.cells.toList) h1 h2
        refine GoodV.same hm hK (x := .agg l'.toArray) ⟨l', rfl, hf'⟩ (run_build w t _ _ ?_)
        unfold placesT at hpl
        unfold Program.built
        rw [hi, hu]
        simp only [hiz, hpl]
        have : (fun i : Nat => pl.toArray[i]?) = (fun i : Nat => pl[i]?) := by funext i; simp
        rw [this]
        simpa using hl'
      · exact hK.elim
    · exact hK.elim
  · rename_i n e z hu hz
    split at hK
    · rename_i sz hsz
      split at hK
      · rename_i cs hfl
        obtain ⟨i, hi, hiz⟩ := hz? z hz
        obtain ⟨l', hl', hf'⟩ := fill_ok hfl (fits_k z.cells.toList) h1 h2
        refine GoodV.same hm hK (x := .agg l'.toArray) ⟨l', rfl, hf'⟩ (run_build w t _ _ ?_)
        unfold szOf at hsz
        cases hie : P.info? e with
        | none => simp [hie] at hsz
        | some ie =>
          simp [hie] at hsz
          unfold Program.built
          rw [hi, hu]
          simp only [hiz, hie, hsz]
          simpa using hl'
      · exact hK.elim
    · exact hK.elim
  · exact hK.elim
end
end Go.Sx
