/- Builtins upon a symbolic state: len, cap, min, max, copy, append. -/
import Derived.Test.YtapmlfklkfgmoaaZSxOps3
set_option linter.unusedVariables false
namespace Go.Sx
open Go.RowKit

section
variable {P : Program} {M : Nat → Prop} {w0 w : World} {ρ : Rh} {h : SH}

def lenS (P : Program) (t : TypeId) (a : SV) : Tr SV :=
  match P.underlying t with
  | some .string => match a.str? with
    | some (c, s) => .ret (kv c (.int .i64 (s.size : Int)))
    | none => .bad 300
  | some (.array n _) => .ret (.k (.int .i64 (n : Int)))
  | some (.slice _) => match a with
    | .sl _ _ l _ => .ret (.k (.int .i64 (l : Int)))
    | .se _ _ _ l => .ret (.v (.int .i64 (l : Int)))
    | .rs _ l _ => .ret (.v (.int .i64 (l : Int)))
    | .ow _ l => .ret (.v (.int .i64 (l : Int)))
    | .k (.slice _ l _) => .ret (.k (.int .i64 (l : Int)))
    | _ => .bad 301
  | _ => .bad 302
theorem len_ok {t ty : TypeId} {ts : List TypeId} {a : SV} {x : Value} {n : Nat} {K : SV → Prop} (ha : a.fit n ρ x) (hK : (lenS P t a).Holds K) : GoodP P ρ n K (Builtin.len_ (t :: ts).toArray ty #[x]) := by
  unfold lenS at hK
  split at hK
  · rename_i hu
    split at hK
    · rename_i c s hs
      rw [SV.str_fit hs ha]
      exact .mk' hK (kv_fit _ _ _) (fun w => by simp [Builtin.len_, run_underlying hu, goInt])
    · exact hK.elim
  · rename_i hu
    exact .mk' hK (x := goInt _) (by simp [SV.fit, goInt]; rfl) (fun w => by simp [Builtin.len_, run_underlying hu])
  · rename_i hu
    split at hK
    · simp only [SV.fit] at ha
      obtain ⟨_, rfl⟩ := ha
      exact .mk' hK (x := goInt _) (by simp [SV.fit, goInt]; rfl) (fun w => by simp [Builtin.len_, run_underlying hu])
    · simp only [SV.fit] at ha
      obtain ⟨_, a, c, rfl, _⟩ := ha
      exact .mk' hK (x := goInt _) (by simp [SV.fit, goInt]; rfl) (fun w => by simp [Builtin.len_, run_underlying hu])
    · simp only [SV.fit] at ha
      obtain ⟨a, c, rfl, _⟩ := ha
      exact .mk' hK (x := goInt _) (by simp [SV.fit, goInt]; rfl) (fun w => by simp [Builtin.len_, run_underlying hu])
    · simp only [SV.fit] at ha
      obtain ⟨_, ⟨_, rfl, rfl⟩ | ⟨_, _, rfl⟩⟩ := ha
      · exact .mk' hK (x := goInt 0) (by simp [SV.fit, goInt]) (fun w => by simp [Builtin.len_, run_underlying hu])
      · exact .mk' hK (x := goInt _) (by simp [SV.fit, goInt]; rfl) (fun w => by simp [Builtin.len_, run_underlying hu])
    · simp only [SV.fit] at ha
      subst ha
      exact .mk' hK (x := goInt _) (by simp [SV.fit, goInt]; rfl) (fun w => by simp [Builtin.len_, run_underlying hu])
    · exact hK.elim
  · exact hK.elim

def ints? : List SV → Option (List (Bool × IntKind × Int))
  | [] => some []
  | s :: r => match s.int?, ints? r with
    | some x, some y => some (x :: y)
    | _, _ => none
def minS (mx : Bool) : List SV → Tr SV
  | [] => .bad 310
  | s :: r => match s.int?, ints? r with
    | some (c, q, n), some l => .ret (kv (l.foldl (fun b x => b && x.1) c) (.int q (l.foldl (fun a x => bif mx then (if x.2.2 > a then x.2.2 else a) else (if x.2.2 < a then x.2.2 else a)) n)))
    | _, _ => .bad 311
theorem min_ok {as : List SV} {xs : List Value} {n : Nat} {K : SV → Prop} {mx : Bool} (ha : SV.fits n ρ as xs) (hK : (minS mx as).Holds K) (ats : Array TypeId) (ty : TypeId) :
    GoodP P ρ n K (bif mx then Builtin.max_ ats ty xs.toArray else Builtin.min_ ats ty xs.toArray) := by
  cases as with
  | nil => exact hK.elim
  | cons s r =>
    simp only [minS] at hK
    split at hK
    · rename_i c q i l h1 h2
      obtain ⟨x, ys, rfl, hx, hr⟩ := fits_cons ha
      have hx' := SV.int_fit h1 hx
      subst hx'
      refine .mk' hK (kv_fit _ _ _) (fun w => ?_)
      have key : ∀ (r : List SV) (ys : List Value) (l : List (Bool × IntKind × Int)) (i : Int), SV.fits n ρ r ys → ints? r = some l →
          (ys.foldlM (bif mx then Builtin.max2 else Builtin.min2) (.int q i)).run P w = .ok (.int q (l.foldl (fun a x => bif mx then (if x.2.2 > a then x.2.2 else a) else (if x.2.2 < a then x.2.2 else a)) i)) w := by
        intro r
        induction r with
        | nil =>
          intro ys l i hf hl
          have := fits_nil hf
          subst this
          simp only [ints?, Option.some.injEq] at hl
          subst hl
          simp
        | cons s r ih =>
          intro ys l i hf hl
          obtain ⟨y, zs, rfl, hy, hz⟩ := fits_cons hf
          simp only [ints?] at hl
          split at hl
          · rename_i p m h3 h4
            obtain ⟨c', q', j⟩ := p
            simp only [Option.some.injEq] at hl
            subst hl
            rw [SV.int_fit h3 hy]
            simp only [List.foldlM_cons, Sem.run_bind, List.foldl_cons]
            cases mx
            · simp only [cond_false, Builtin.min2, Sem.run_pure, Result.andThen_ok]
              exact ih zs m _ hz h4
            · simp only [cond_true, Builtin.max2, Sem.run_pure, Result.andThen_ok]
              exact ih zs m _ hz h4
          · cases hl
      have := key r ys l i hr h2
      cases mx
      · simpa [Builtin.min_] using this
      · simpa [Builtin.max_] using this
    · exact hK.elim

/-! ### copy, between rows of known cells -/
def slc? : SV → Option (Nat × Nat × Nat)
  | .sl i o l _ => some (i, o, l)
  | _ => none
def copyS (P : Program) (h : SH) (t : TypeId) (d s : SV) : Tr (SV × SH) :=
  match P.underlying t with
  | some (.slice e) =>
    match szOf P e, d, s with
    | some sz, .sl i o dl _, .sl j p sl _ =>
      match h.get i, h.get j with
      | .cells xs t', .cells ys _ =>
        let n := Nat.min sl dl
        let zs := (ys.drop p).take (n * sz)
        bif Nat.beq zs.length (n * sz) && Nat.ble (o + n * sz) xs.length && zs.all SV.one then .ret (.k (.int .i64 (n : Int)), h.setCs i o zs)
        else .bad 320
      | _, _ => .bad 321
    | some _, .sl _ _ _ _, .k (.slice none 0 0) => .ret (.k (.int .i64 0), h)
    | _, _, _ => .bad 322
  | _ => .bad 323
theorem copy_ok {t : TypeId} {ts : List TypeId} {ty : TypeId} {d s : SV} {x y : Value} (hm : HM M w0 ρ h w) (hd : d.fit h.nx ρ x) (hs : s.fit h.nx ρ y) {K : SV × SH → Prop} (hK : (copyS P h t d s).Holds K) :
    GoodV P M w0 ρ h K (Builtin.copy_ (t :: ts).toArray ty #[x, y]) w := by
  unfold copyS at hK
  split at hK
  · rename_i e hu
    split at hK
    · rename_i sz i o dl _ j p sl _ hsz
      split at hK
      · rename_i xs t' ys t'' hgi hgj
        obtain ⟨hc, hK1⟩ := bif_holds hK
        simp only [Bool.and_eq_true] at hc
        obtain ⟨⟨c1, c2⟩, c3⟩ := hc
        have hlen := beq_of c1
        have hle := Nat.le_of_ble_eq_true c2
        simp only [SV.fit] at hd hs
        obtain ⟨hi, rfl⟩ := hd
        obtain ⟨hj, rfl⟩ := hs
        have hfj := hm.ob j
        rw [hgj] at hfj
        obtain ⟨_, hzj, l, hob, hfl⟩ := hfj
        have hf := fits_take (Nat.min sl dl * sz) (fits_drop p hfl)
        obtain ⟨w', hm', hr⟩ := storeVar_core (P := P) hgi hm hf hlen hle c3
        have hll := fits_length hf
        have hl := run_loadCells_list (P := P) w ⟨(ρ j).blk, (ρ j).off + p, none⟩ ((l.drop p).take (Nat.min sl dl * sz)) (fun q v hv => by
          rw [add_zero', hzj, Nat.zero_add, cells_at hob]
          rw [List.getElem?_take] at hv
          split at hv
          · rwa [List.getElem?_drop] at hv
          · cases hv)
        rw [← hll, hlen] at hl
        refine ⟨_, _, ρ, .int .i64 ((Nat.min sl dl : Nat) : Int), w', hK1, Nat.le_of_eq (SH.setCs_nx _ _ _ _).symm, Agree.refl _ _, hm.setCs hgi (by rw [hlen]; exact hle) hm', by simp [SV.fit], ?_⟩
        simp only [Builtin.copy_, List.getElem?_toArray, List.getElem?_cons_zero, List.getElem?_cons_succ, Sem.run_bind, run_underlying hu, Result.andThen_ok, Builtin.lenOf, Sem.run_pure, Builtin.firstCells, run_szOf hsz, hl, hr, goInt]
      · exact hK.elim
    · rename_i sz i o dl _ hsz
      simp only [SV.fit] at hd hs
      obtain ⟨hi, rfl⟩ := hd
      subst hs
      refine GoodV.same hm hK (x := .int .i64 0) (by simp [SV.fit]) ?_
      simp [Builtin.copy_, run_underlying hu, Builtin.lenOf, Builtin.firstCells, run_szOf hsz, goInt, storeCells]
    · exact hK.elim
  · exact hK.elim

/-! ### append -/
/-- The elements of a slice, as a source: how many, what they are, what must hold. -/
def srcS (h : SH) (sz : Nat) : SV → Option (Nat × (Nat → List SV) × Prop)
  | .sl j o k _ => match h.get j with
    | .cells xs _ => bif Nat.ble (o + k * sz) xs.length && xs.all SV.one then some (k, (fun e => (xs.drop (o + e * sz)).take sz), True) else none
    | _ => none
  | .se j s o k => bif Nat.beq s sz then match h.get j with
    | .row _ s' el m => bif Nat.beq s' sz then some (k, (fun e => el (o + e)), (o + k ≤ m ∧ ∀ e, e < k → (el (o + e)).all SV.one = true)) else none
    | _ => none else none
  | .ow j k => match h.get j with
    | .row _ s' el m => bif Nat.beq s' sz then some (k, el, (k ≤ m ∧ ∀ e, e < k → (el e).all SV.one = true)) else none
    | _ => none
  | .rs s k el => bif Nat.beq s sz then some (k, el, ∀ e, e < k → (el e).all SV.one = true) else none
  | .k (.slice none 0 0) => some (0, (fun _ => []), True)
  | _ => none

theorem bif_some {α : Type} {c : Bool} {a : Option α} {x : α} (h : (bif c then a else none) = some x) : c = true ∧ a = some x := by cases c <;> simp_all

/-- What a source is in memory. -/
def Src (n : Nat) (ρ : Rh) (w : World) (sz k : Nat) (el : Nat → List SV) (x : Value) : Prop :=
  ∃ a c, x = .slice a k c ∧ (k = 0 ∨ ∃ b, a = some b ∧ ∀ e, e < k → ∃ l, l.length = sz ∧ SV.fits n ρ (el e) l ∧ (el e).all SV.one = true ∧ ∀ j v, l[j]? = some v → w.cell? (b.add (e * sz + j)) = some v)

theorem src_ok (hm : HM M w0 ρ h w) {sz : Nat} {s : SV} {x : Value} (hs : s.fit h.nx ρ x) {k : Nat} {el : Nat → List SV} {p : Prop} (hsrc : srcS h sz s = some (k, el, p)) (hp : p) : Src h.nx ρ w sz k el x := by
  cases s with
  | sl j o k' cp =>
    simp only [srcS] at hsrc
    obtain ⟨hj, rfl⟩ := hs
    split at hsrc
    · rename_i xs t' hg
      obtain ⟨hc, hsrc⟩ := bif_some hsrc
      simp only [Bool.and_eq_true] at hc
      have hle := Nat.le_of_ble_eq_true hc.1
      simp only [Option.some.injEq, Prod.mk.injEq] at hsrc
      obtain ⟨rfl, rfl, rfl⟩ := hsrc
      have hf := hm.ob j
      rw [hg] at hf
      obtain ⟨_, hz, l, hob, hfl⟩ := hf
      have hll := fits_length hfl
      refine ⟨_, _, rfl, .inr ⟨_, rfl, fun e he => ⟨(l.drop (o + e * sz)).take sz, ?_, fits_take _ (fits_drop _ hfl), ?_, fun q v hv => ?_⟩⟩⟩
      · have : e * sz + sz ≤ k' * sz := by
          have := Nat.mul_le_mul_right sz (show e + 1 ≤ k' by omega)
          rw [Nat.add_mul, Nat.one_mul] at this; exact this
        simp; omega
      · rw [List.all_eq_true]
        intro s' hs'
        exact List.all_eq_true.1 hc.2 s' (List.mem_of_mem_drop (List.mem_of_mem_take hs'))
      · rw [add_zero', hz, Nat.zero_add, cells_at hob]
        rw [List.getElem?_take] at hv
        split at hv
        · rw [List.getElem?_drop] at hv
          rw [← Nat.add_assoc]; exact hv
        · cases hv
    · cases hsrc
  | se j s' o k' =>
    simp only [srcS] at hsrc
    obtain ⟨hb, hsrc⟩ := bif_some hsrc
    have := beq_of hb
    subst this
    obtain ⟨hj, a, c, rfl, hlc, _, hadr⟩ := hs
    have hf := hm.ob j
    split at hsrc
    · rename_i t' s'' el' m hg
      obtain ⟨hb2, hs2⟩ := bif_some hsrc
      have := beq_of hb2
      subst this
      simp only [Option.some.injEq, Prod.mk.injEq] at hs2
      obtain ⟨rfl, rfl, rfl⟩ := hs2
      rw [hg] at hf
      refine ⟨_, _, rfl, ?_⟩
      by_cases hk : k' = 0
      · exact .inl hk
      · refine .inr ⟨_, hadr (by omega), fun e he => ?_⟩
        rcases hf.2 with ⟨_, hf⟩ | ⟨_, hoff, cc, hob, _, _, _, hall⟩
        · omega
        · obtain ⟨l, h1, h2, h3⟩ := hall (o + e) (by omega)
          refine ⟨l, h1, h2, hp.2 e he, fun q v hv => ?_⟩
          rw [add_zero', hoff]
          simp only [World.cell?, hob]
          have := h3 q v hv
          rw [Nat.add_mul] at this
          simpa [Nat.add_assoc] using this
    · cases hsrc
  | rs s' k' el' =>
    have hsrc : (bif Nat.beq s' sz then some (k', el', ∀ e, e < k' → (el' e).all SV.one = true) else none) = some (k, el, p) := hsrc
    obtain ⟨hb, hs2⟩ := bif_some hsrc
    have := beq_of hb
    subst this
    simp only [Option.some.injEq, Prod.mk.injEq] at hs2
    obtain ⟨rfl, rfl, rfl⟩ := hs2
    obtain ⟨a, c, rfl, hlc, _, hadr⟩ := hs
    refine ⟨_, _, rfl, ?_⟩
    by_cases hk : k' = 0
    · exact .inl hk
    · obtain ⟨b, o, cs, t', fz, rfl, hmem, hall⟩ := hadr (by omega)
      have hob := hm.fz _ _ hmem
      refine .inr ⟨_, rfl, fun e he => ?_⟩
      obtain ⟨l, h1, h2, h3⟩ := hall e he
      refine ⟨l, h1, h2, hp e he, fun q v hv => ?_⟩
      rw [add_zero']
      simp only [World.cell?, hob]
      have := h3 q v hv
      simpa [Nat.add_assoc] using this
  | ow j k' =>
    simp only [srcS] at hsrc
    obtain ⟨hj, hs⟩ := hs
    have hf := hm.ob j
    split at hsrc
    · rename_i t' s'' el' m hg
      obtain ⟨hb2, hs2⟩ := bif_some hsrc
      have := beq_of hb2
      subst this
      simp only [Option.some.injEq, Prod.mk.injEq] at hs2
      obtain ⟨rfl, rfl, rfl⟩ := hs2
      rw [hg] at hf
      rcases hs with ⟨_, rfl, rfl⟩ | ⟨hnl, hlc, rfl⟩
      · exact ⟨_, _, rfl, .inl rfl⟩
      · refine ⟨_, _, rfl, ?_⟩
        by_cases hk : k' = 0
        · exact .inl hk
        · refine .inr ⟨_, rfl, fun e he => ?_⟩
          rcases hf.2 with ⟨_, hf⟩ | ⟨_, hoff, cc, hob, _, _, _, hall⟩
          · omega
          · obtain ⟨l, h1, h2, h3⟩ := hall e (by omega)
            refine ⟨l, h1, h2, hp.2 e he, fun q v hv => ?_⟩
            rw [add_zero']
            simp only [World.cell?, hob]
            have := h3 q v hv
            simpa [Nat.add_assoc] using this
    · cases hsrc
  | k y =>
    simp only [SV.fit] at hs
    subst hs
    cases x with
    | slice a l c =>
      cases a with
      | some _ => simp [srcS] at hsrc
      | none =>
        cases l with
        | succ _ => simp [srcS] at hsrc
        | zero =>
          cases c with
          | succ _ => simp [srcS] at hsrc
          | zero =>
            simp only [srcS, Option.some.injEq, Prod.mk.injEq] at hsrc
            obtain ⟨rfl, rfl, rfl⟩ := hsrc
            exact ⟨_, _, rfl, .inl rfl⟩
    | _ => simp [srcS] at hsrc
  | _ => simp [srcS] at hsrc

/-- What may be appended to: a row of the call's own, with so many elements; or nothing. -/
def dstS (h : SH) (e sz : Nat) : SV → Option (Nat × Nat × (Nat → List SV) × Prop)
  | .ow i l => match h.get i with
    | .row t s el m => bif Nat.beq t e && Nat.beq s sz then some (i, l, el, l ≤ m) else none
    | _ => none
  | .k (.slice none 0 0) => some (h.nx, 0, (fun _ => []), True)
  | _ => none

def appEl (l : Nat) (a b : Nat → List SV) : Nat → List SV := fun e => if e < l then a e else b (e - l)
def appendS (P : Program) (h : SH) (t : TypeId) (t' : TypeId) (d s : SV) : Tr (SV × SH) :=
  match P.underlying t with
  | some (.slice e) =>
    match P.info? e with
    | some i =>
      match i.zero with
      | some z =>
        bif Nat.beq t t' && Nat.beq z.cells.size i.size && Nat.blt 0 i.size then
          match dstS h e i.size d, srcS h i.size s with
          | some (o, l, el, p), some (k, el', q) =>
            .ask (p ∧ q ∧ l + k ≤ maxLen ∧ (l + k) * i.bytes ≤ 140737488355328) (.ret (.ow h.nx (l + k), (h.set o .dead).push (.row e i.size (appEl l el el') (l + k))))
          | _, _ => .bad 330
        else .bad 331
      | none => .bad 332
    | none => .bad 333
  | _ => .bad 334

/-- A row of memory: a slice, and what its first elements are. -/
def RowIs (w : World) (e sz : Nat) (L : Lc) (n : Nat) (xs : List Value) : Prop :=
  xs.length = n * sz ∧ ((L.nl = true ∧ n = 0) ∨ (L.nl = false ∧ L.off = 0 ∧ ∃ c, w.heap[L.blk]? = some (.cells c e (0, 0)) ∧ c.size = L.cap * sz ∧ n ≤ L.cap ∧ L.cap ≤ maxLen ∧ c.toList.take (n * sz) = xs))
def owVal (L : Lc) (n : Nat) : Value := match L.nl with | true => .slice none 0 0 | false => .slice (some ⟨L.blk, 0, none⟩) n L.cap

theorem append_core {t ty e : TypeId} {i : TypeInfo} {z : Value} (ht : P.underlying t = some (.slice e)) (hi : P.info? e = some i) (hz : i.zero = some z) (hzs : z.cells.size = i.size)
    {L : Lc} {n : Nat} {xs : List Value} (hrow : RowIs w e i.size L n xs) {a : Option Addr} {m c : Nat} {news : List Value} (hl : news.length = m * i.size)
    (hnews : m = 0 ∨ ∃ b, a = some b ∧ ∀ j u, news[j]? = some u → w.cell? (b.add j) = some u) (h1 : ∀ u ∈ news, u.oneCell' = true)
    (h63 : n + m ≤ maxLen) (hbytes : (n + m) * i.bytes ≤ 140737488355328) :
    ∃ L' w' row, (Builtin.append_ #[t, t] ty #[owVal L n, .slice a m c]).run P w = .ok (owVal L' (n + m)) w' ∧ w.grownBy w' row ∧ (∀ b, row = some b → L.nl = false ∧ b = L.blk) ∧
      (L'.nl = false → w.heap.size ≤ L'.blk ∨ (L.nl = false ∧ L'.blk = L.blk)) ∧ RowIs w' e i.size L' (n + m) (xs ++ news) := by
  have hxl := hrow.1
  have hlen : (xs ++ news).length = (n + m) * i.size := by rw [List.length_append, hxl, hl, Nat.add_mul]
  by_cases hm : m = 0
  · subst hm
    have hn : news = [] := List.eq_nil_of_length_eq_zero (by simpa using hl)
    subst hn
    refine ⟨L, w, none, ?_, ⟨rfl, rfl, rfl, Nat.le_refl _, fun _ _ _ => rfl⟩, by simp, fun hnl => ?_, ?_⟩
    · rcases hrow.2 with ⟨hnl, hn0⟩ | ⟨hnl, hoff, cc, hob, hcs, hnc, hcm, htake⟩
      · subst hn0
        cases a <;> simp [owVal, hnl, Builtin.append_, run_underlying ht, run_szOf (show szOf P e = some i.size by simp [szOf, hi]), Builtin.lenOf, Builtin.firstCells, loadCells, loadCellsFrom]
      · cases a <;> simp [owVal, hnl, Builtin.append_, run_underlying ht, run_szOf (show szOf P e = some i.size by simp [szOf, hi]), Builtin.lenOf, Builtin.firstCells, loadCells, loadCellsFrom, hnc, storeCells]
    · exact .inr ⟨hnl, rfl⟩
    · simpa using hrow
  · obtain ⟨b, rfl, hnw⟩ := hnews.resolve_left hm
    have hmax : n + m ≤ 9223372036854775807 := by simp only [maxLen] at h63; omega
    rcases hrow.2 with ⟨hnl, hn0⟩ | ⟨hnl, hoff, cc, hob, hcs, hnc, hcm, htake⟩
    · subst hn0
      have hx : xs = [] := List.eq_nil_of_length_eq_zero (by simpa using hxl)
      subst hx
      have hr := run_append_nil (P := P) w t ty e i z ht hi hz b m c news hl hnw (by omega) (by omega) (by simp only [Nat.zero_add] at hbytes; omega)
      have hge := grownCap_ge w m 0 e
      have hcm := grownCap_le_maxLen w m 0 e (by simpa using h63)
      refine ⟨⟨w.heap.size, 0, grownCap w m 0 e, false⟩, w.drew.alloc (.cells (news.toArray ++ Builtin.zeroCells z.cells (grownCap w m 0 e - m)) e), none, by simpa [owVal, hnl] using hr, ⟨rfl, rfl, rfl, by simp, fun q hq _ => Below.heap_alloc w.drew _ q hq⟩, by simp, fun _ => .inl (Nat.le_refl _), hlen, .inr ⟨rfl, rfl, _, heap_alloc_new w.drew _, ?_, by simpa using hge, hcm, ?_⟩⟩
      · simp only [Array.size_append, List.size_toArray, size_zeroCells, hzs, hl, ← Nat.add_mul]
        congr 1
        omega
      · simp only [Array.toList_append, List.nil_append, Nat.zero_add]
        rw [← hl]
        exact List.take_left
    · by_cases hroom : n + m ≤ L.cap
      · have hfit : n * i.size + news.length ≤ cc.size := by rw [hl, hcs, ← Nat.add_mul]; exact Nat.mul_le_mul_right _ hroom
        have hr := run_append_room (P := P) w t ty e i ht hi L.blk n L.cap cc hob b m c news hl hnw h1 hroom hfit
        refine ⟨L, w.setRow L.blk (cc.toList.take (n * i.size) ++ news ++ cc.toList.drop (n * i.size + news.length)).toArray, some L.blk, by simpa [owVal, hnl] using hr, ⟨rfl, rfl, rfl, by simp, fun k _ hk => setRow_other w L.blk _ k (fun e => hk (by rw [e]))⟩, fun b' hb' => ⟨hnl, by injection hb' with hb'; exact hb'.symm⟩, fun _ => .inr ⟨hnl, rfl⟩, hlen, .inr ⟨hnl, hoff, _, setRow_heap w L.blk cc _ e _ hob, ?_, hroom, hcm, ?_⟩⟩
        · simp only [List.size_toArray, List.length_append, List.length_take, List.length_drop, Array.length_toList]
          omega
        · rw [htake, ← hlen]
          exact List.take_left
      · have holds : ∀ j u, xs[j]? = some u → w.cell? ((⟨L.blk, 0, none⟩ : Addr).add j) = some u := fun j u hu => by
          rw [add_zero', Nat.zero_add]
          simp only [World.cell?, hob]
          rw [← htake, List.getElem?_take] at hu
          split at hu
          · simpa using hu
          · cases hu
        have hr := run_append_grow (P := P) w t ty e i z ht hi hz ⟨L.blk, 0, none⟩ n L.cap xs hxl holds b m c news hl hnw (by omega) (by omega) (growslice_fits (by omega) hbytes)
        have hge := grownCap_ge w (n + m) L.cap e
        have hcm' := grownCap_le_maxLen w (n + m) L.cap e h63
        refine ⟨⟨w.heap.size, 0, grownCap w (n + m) L.cap e, false⟩, w.drew.alloc (.cells (xs.toArray ++ news.toArray ++ Builtin.zeroCells z.cells (grownCap w (n + m) L.cap e - (n + m))) e), none, by simpa [owVal, hnl] using hr, ⟨rfl, rfl, rfl, by simp, fun q hq _ => Below.heap_alloc w.drew _ q hq⟩, by simp, fun _ => .inl (Nat.le_refl _), hlen, .inr ⟨rfl, rfl, _, heap_alloc_new w.drew _, ?_, hge, hcm', ?_⟩⟩
        · simp only [Array.size_append, List.size_toArray, size_zeroCells, hzs, hxl, hl, ← Nat.add_mul]
          congr 1
          omega
        · simp only [Array.toList_append, List.append_assoc]
          rw [← List.append_assoc, ← hlen]
          exact List.take_left


/-- The cells of k elements that lie one behind the other in memory. -/
theorem gather {n sz k : Nat} {el : Nat → List SV} {b : Addr} (hall : ∀ e, e < k → ∃ l, l.length = sz ∧ SV.fits n ρ (el e) l ∧ (el e).all SV.one = true ∧ ∀ j v, l[j]? = some v → w.cell? (b.add (e * sz + j)) = some v) :
    ∃ news : List Value, news.length = k * sz ∧ (∀ j v, news[j]? = some v → w.cell? (b.add j) = some v) ∧ (∀ v ∈ news, v.oneCell' = true) ∧
      ∀ e, e < k → ∃ l, l.length = sz ∧ SV.fits n ρ (el e) l ∧ ∀ j v, l[j]? = some v → news[e * sz + j]? = some v := by
  induction k with
  | zero => exact ⟨[], by simp, by simp, by simp, fun e he => by omega⟩
  | succ k ih =>
    obtain ⟨news, h1, h2, h3, h4⟩ := ih fun e he => hall e (by omega)
    obtain ⟨l, l1, l2, l3, l4⟩ := hall k (by omega)
    refine ⟨news ++ l, by rw [List.length_append, h1, l1, Nat.add_mul, Nat.one_mul], fun j v hv => ?_, fun v hv => ?_, fun e he => ?_⟩
    · rw [List.getElem?_append] at hv
      split at hv
      · exact h2 j v hv
      · have := l4 (j - news.length) v hv
        rw [h1] at this
        rwa [show k * sz + (j - k * sz) = j by omega] at this
    · rcases List.mem_append.1 hv with hv | hv
      · exact h3 v hv
      · exact fits_all_one l2 l3 v hv
    · by_cases hek : e < k
      · obtain ⟨l', a1, a2, a3⟩ := h4 e hek
        refine ⟨l', a1, a2, fun j v hv => ?_⟩
        have := a3 j v hv
        have hlt := (List.getElem?_eq_some_iff.1 this).1
        rw [List.getElem?_append_left hlt]; exact this
      · have : e = k := by omega
        subst this
        refine ⟨l, l1, l2, fun j v hv => ?_⟩
        rw [List.getElem?_append_right (by omega), h1, Nat.add_sub_cancel_left]; exact hv

theorem dst_ok {e sz : Nat} (hm : HM M w0 ρ h w) {d : SV} {x : Value} (hd : d.fit h.nx ρ x) {o l : Nat} {el : Nat → List SV} {p : Prop} (hdst : dstS h e sz d = some (o, l, el, p)) (hp : p) :
    ∃ L xs, x = owVal L l ∧ RowIs w e sz L l xs ∧ (L.nl = false → (h.get o).own (ρ o) ∧ L.blk = (ρ o).blk) ∧
      ∀ i, i < l → ∃ c, c.length = sz ∧ SV.fits h.nx ρ (el i) c ∧ ∀ j v, c[j]? = some v → xs[i * sz + j]? = some v := by
  cases d with
  | ow i l' =>
    simp only [dstS] at hdst
    split at hdst
    · rename_i t s el' m hg
      obtain ⟨hc, hdst2⟩ := bif_some hdst
      simp only [Bool.and_eq_true] at hc
      have e1 := beq_of hc.1
      have e2 := beq_of hc.2
      subst e1; subst e2
      simp only [Option.some.injEq, Prod.mk.injEq] at hdst2
      obtain ⟨rfl, rfl, rfl, rfl⟩ := hdst2
      obtain ⟨hi, hx⟩ := hd
      have hf := hm.ob i
      rw [hg] at hf
      rcases hx with ⟨hnl, hl0, rfl⟩ | ⟨hnl, hlc, rfl⟩
      · subst hl0
        exact ⟨ρ i, [], by simp [owVal, hnl], ⟨by simp, .inl ⟨hnl, rfl⟩⟩, (fun h => by rw [hnl] at h; cases h), fun i hi => by omega⟩
      · rcases hf.2 with ⟨hnl', _⟩ | ⟨_, hoff, c, hob, hcs, hmc, hcm, hall⟩
        · rw [hnl] at hnl'; cases hnl'
        have hle : l' * s ≤ c.size := by rw [hcs]; exact Nat.mul_le_mul_right s hlc
        refine ⟨ρ i, c.toList.take (l' * s), by simp [owVal, hnl], ⟨by simp; omega, .inr ⟨hnl, hoff, c, hob, hcs, hlc, hcm, rfl⟩⟩, fun _ => ⟨by rw [hg]; exact hnl, rfl⟩, fun k hk => ?_⟩
        obtain ⟨cl, c1, c2, c3⟩ := hall k (by omega)
        refine ⟨cl, c1, c2, fun j v hv => ?_⟩
        have h3 := c3 j v hv
        have hj : j < s := by rw [← c1]; exact (List.getElem?_eq_some_iff.1 hv).1
        have : k * s + s ≤ l' * s := by
          have := Nat.mul_le_mul_right s (show k + 1 ≤ l' by omega)
          rw [Nat.add_mul, Nat.one_mul] at this; exact this
        rw [List.getElem?_take, if_pos (by omega)]
        simpa using h3
    · cases hdst
  | k y =>
    simp only [SV.fit] at hd
    subst hd
    cases x with
    | slice a l' c =>
      cases a with
      | some _ => simp [dstS] at hdst
      | none =>
        cases l' with
        | succ _ => simp [dstS] at hdst
        | zero =>
          cases c with
          | succ _ => simp [dstS] at hdst
          | zero =>
            simp only [dstS, Option.some.injEq, Prod.mk.injEq] at hdst
            obtain ⟨rfl, rfl, rfl, rfl⟩ := hdst
            exact ⟨⟨0, 0, 0, true⟩, [], rfl, ⟨by simp, .inl ⟨rfl, rfl⟩⟩, (fun h => by cases h), fun i hi => by omega⟩
    | _ => simp [dstS] at hdst
  | _ => simp [dstS] at hdst

theorem append_ok {t t' : TypeId} {ty : TypeId} {d s : SV} {x y : Value} (hm : HM M w0 ρ h w) (hd : d.fit h.nx ρ x) (hs : s.fit h.nx ρ y) {K : SV × SH → Prop} (hK : (appendS P h t t' d s).Holds K) :
    GoodV P M w0 ρ h K (Builtin.append_ #[t, t'] ty #[x, y]) w := by
  unfold appendS at hK
  split at hK
  · rename_i e ht
    split at hK
    · rename_i i hi
      split at hK
      · rename_i z hz
        obtain ⟨hc, hK1⟩ := bif_holds hK
        simp only [Bool.and_eq_true] at hc
        obtain ⟨⟨c1, c2⟩, c3⟩ := hc
        have e1 := beq_of c1
        have hzs := beq_of c2
        have hsz : 0 < i.size := by simpa [Nat.blt_eq] using c3
        subst e1
        split at hK1
        · rename_i o l el p k el' q hdst hsrc
          obtain ⟨⟨hp, hq, h63, hby⟩, hk⟩ := hK1
          obtain ⟨L, xs, rfl, hrow, hLo, hels⟩ := dst_ok hm hd hdst hp
          obtain ⟨a, c, rfl, hsr⟩ := src_ok hm hs hsrc hq
          have hgat : ∃ news : List Value, news.length = k * i.size ∧ (k = 0 ∨ ∃ b, a = some b ∧ ∀ j v, news[j]? = some v → w.cell? (b.add j) = some v) ∧ (∀ v ∈ news, v.oneCell' = true) ∧
              ∀ e, e < k → ∃ l, l.length = i.size ∧ SV.fits h.nx ρ (el' e) l ∧ ∀ j v, l[j]? = some v → news[e * i.size + j]? = some v := by
            rcases hsr with rfl | ⟨b, rfl, hall⟩
            · exact ⟨[], by simp, .inl rfl, by simp, fun e he => by omega⟩
            · obtain ⟨news, n1, n2, n3, n4⟩ := gather hall
              exact ⟨news, n1, .inr ⟨b, rfl, n2⟩, n3, n4⟩
          obtain ⟨news, n1, n2, n3, n4⟩ := hgat
          obtain ⟨L', w', row, hr, hg, hrow1, hfresh, hrow2⟩ := append_core (ty := ty) ht hi hz hzs hrow n1 n2 n3 h63 hby
          have hxl := hrow.1
          have hElsAll : ∀ cc : Array Value, cc.toList.take ((l + k) * i.size) = xs ++ news → Els h.nx ρ 0 i.size (appEl l el el') (l + k) cc := by
            intro cc htake e he
            have hget : ∀ q v, (xs ++ news)[q]? = some v → cc[0 + q]? = some v := by
              intro q v hv
              rw [← htake, List.getElem?_take] at hv
              split at hv
              · simpa using hv
              · cases hv
            by_cases hel : e < l
            · obtain ⟨cl, k1, k2, k3⟩ := hels e hel
              refine ⟨cl, k1, by simp only [appEl, if_pos hel]; exact k2, fun j v hv => ?_⟩
              have h3 := k3 j v hv
              rw [Nat.add_assoc]
              refine hget _ _ ?_
              rw [List.getElem?_append_left (List.getElem?_eq_some_iff.1 h3).1]; exact h3
            · obtain ⟨cl, k1, k2, k3⟩ := n4 (e - l) (by omega)
              refine ⟨cl, k1, by simp only [appEl, if_neg hel]; exact k2, fun j v hv => ?_⟩
              have h3 := k3 j v hv
              rw [Nat.add_assoc]
              refine hget _ _ ?_
              have hmul : e * i.size = l * i.size + (e - l) * i.size := by rw [← Nat.add_mul]; congr 1; omega
              rw [List.getElem?_append_right (by omega), hxl, hmul]
              rwa [show l * i.size + (e - l) * i.size + j - l * i.size = (e - l) * i.size + j by omega]
          have hfit : (SO.row e i.size (appEl l el el') (l + k)).fit h.nx ρ L' w'.heap[L'.blk]? := by
            refine ⟨h63, ?_⟩
            rcases hrow2.2 with ⟨h1, h2⟩ | ⟨h1, h2, cc, h3, h4, h5, h6, h7⟩
            · exact .inl ⟨h1, h2⟩
            · exact .inr ⟨h1, h2, cc, h3, h4, h5, h6, hElsAll cc h7⟩
          have hm' : HM M w0 (upd ρ h.nx L') ((h.set o .dead).push (.row e i.size (appEl l el el') (l + k))) w' := by
            refine hm.move (i := o) hg (fun b hb => ?_) hfit (fun ho => ?_)
            · obtain ⟨hnl, rfl⟩ := hrow1 b hb
              exact hLo hnl
            · rcases hfresh ho with hf | ⟨hnl, hb⟩
              · exact .inl hf
              · obtain ⟨z1, z2⟩ := hLo hnl
                exact .inr ⟨z1, hb.trans z2⟩
          refine ⟨_, _, _, owVal L' (l + k), w', hk, Nat.le_succ _, agree_upd _ _ _, hm', ?_, hr⟩
          refine ⟨Nat.lt_succ_self _, ?_⟩
          have hu : upd ρ h.nx L' h.nx = L' := by simp [upd]
          rw [hu]
          rcases hrow2.2 with ⟨h1, h2⟩ | ⟨h1, h2, cc, h3, h4, h5, h6, h7⟩
          · exact .inl ⟨h1, h2, by simp [owVal, h1]⟩
          · exact .inr ⟨h1, h5, by simp [owVal, h1]⟩
        · exact hK1.elim
      · exact hK.elim
    · exact hK.elim
  · exact hK.elim
end
end Go.Sx
