/- Known values: what they are, how two become one. -/
import Derived.Test.YtapmlfklkfgmoaaZSxCore
set_option linter.unusedVariables false
namespace Go.Sx
open Go.RowKit
theorem beq_of {a b : Nat} (h : Nat.beq a b = true) : a = b := Nat.eq_of_beq_eq_true h
section
variable {ρ : Rh}
/-- An integer, and whether it is written out. -/
def SV.int? : SV → Option (Bool × IntKind × Int)
  | .k (.int q n) => some (true, q, n)
  | .v (.int q n) => some (false, q, n)
  | _ => none
theorem SV.int_fit {s : SV} {c : Bool} {q : IntKind} {i : Int} (hs : s.int? = some (c, q, i)) {n : Nat} {x : Value} (hf : s.fit n ρ x) : x = .int q i := by
  cases s <;> simp [SV.int?] at hs
  all_goals
    rename_i y
    cases y <;> simp at hs
    simp only [SV.fit] at hf
    rw [hf, hs.2.1, hs.2.2]
def SV.bool? : SV → Option (Bool × Bool)
  | .k (.bool b) => some (true, b)
  | .v (.bool b) => some (false, b)
  | _ => none
theorem SV.bool_fit {s : SV} {c b : Bool} (hs : s.bool? = some (c, b)) {n : Nat} {x : Value} (hf : s.fit n ρ x) : x = .bool b := by
  cases s <;> simp [SV.bool?] at hs
  all_goals
    rename_i y
    cases y <;> simp at hs
    simp only [SV.fit] at hf
    rw [hf, hs.2]
def SV.str? : SV → Option (Bool × ByteArray)
  | .k (.string b) => some (true, b)
  | .v (.string b) => some (false, b)
  | _ => none
theorem SV.str_fit {s : SV} {c : Bool} {b : ByteArray} (hs : s.str? = some (c, b)) {n : Nat} {x : Value} (hf : s.fit n ρ x) : x = .string b := by
  cases s <;> simp [SV.str?] at hs
  all_goals
    rename_i y
    cases y <;> simp at hs
    simp only [SV.fit] at hf
    rw [hf, hs.2]
def kv (c : Bool) (x : Value) : SV := bif c then .k x else .v x
theorem kv_fit (c : Bool) (x : Value) (n : Nat) : (kv c x).fit n ρ x := by cases c <;> simp [kv, SV.fit]

/-- The cells of an aggregate value. -/
def SV.agg? : SV → Option (List SV)
  | .agg xs => some xs
  | .k (.agg cs) => some (cs.toList.map .k)
  | .v (.agg cs) => some (cs.toList.map .v)
  | _ => none
theorem SV.agg_fit {s : SV} {xs : List SV} (hs : s.agg? = some xs) {n : Nat} {x : Value} (hf : s.fit n ρ x) : ∃ l, x = .agg (List.toArray l) ∧ SV.fits n ρ xs l := by
  cases s with
  | agg ys =>
    simp [SV.agg?] at hs
    subst hs
    simpa [SV.fit] using hf
  | k y =>
    cases y <;> simp [SV.agg?] at hs
    subst hs
    simp only [SV.fit] at hf
    subst hf
    rename_i cs
    exact ⟨cs.toList, by simp, fits_k _⟩
  | v y =>
    cases y <;> simp [SV.agg?] at hs
    subst hs
    simp only [SV.fit] at hf
    subst hf
    rename_i cs
    exact ⟨cs.toList, by simp, fits_v _⟩
  | _ => simp [SV.agg?] at hs

end
/-! ### values -/
def joinB (z ca x cb y : Bool) : SV :=
  match ca, cb with
  | true, true => match x, y with
    | true, true => .k (.bool true)
    | false, false => .k (.bool false)
    | true, false => .v (.bool z)
    | false, true => .v (.bool (!z))
  | true, false => match x with
    | true => .v (.bool (z || y))
    | false => .v (.bool (!z && y))
  | false, true => match y with
    | true => .v (.bool (!z || x))
    | false => .v (.bool (z && x))
  | false, false => .v (.bool (bif z then x else y))
theorem joinB_fit (z ca x cb y : Bool) {n : Nat} {ρ : Rh} : (joinB z ca x cb y).fit n ρ (.bool (bif z then x else y)) := by
  unfold joinB
  cases ca <;> cases cb <;> cases x <;> cases y <;> cases z <;> simp [SV.fit]

def nilK : Value → Bool
  | .slice none 0 0 => true
  | _ => false
def joinVs (j : SV → SV → SV) : List SV → List SV → Option (List SV)
  | [], [] => some []
  | a :: l, b :: m => match joinVs j l m with
    | some r => some (j a b :: r)
    | none => none
  | _, _ => none
def joinR (j : SV → SV → SV) (z : Bool) (a b : SV) : SV :=
  match a, b with
  | .tup xs, .tup ys => match joinVs j xs ys with
    | some l => .tup l
    | none => .u
  | .p i o, .p i' o' => bif Nat.beq i i' && Nat.beq o o' then .p i o else .u
  | .sl i o l c, .sl i' o' l' c' => bif Nat.beq i i' && Nat.beq o o' && Nat.beq l l' && Nat.beq c c' then .sl i o l c else .u
  | .ow i l, .ow i' l' => bif Nat.beq i i' then .ow i (bif z then l else l') else .u
  | .rs sz l el, .rs sz' l' el' => bif Nat.beq sz sz' then .rs sz (bif z then l else l') (bif z then el else el') else .u
  | .rs sz l el, .k y => bif nilK y then .rs sz (bif z then l else 0) el else .u
  | .k y, .rs sz l el => bif nilK y then .rs sz (bif z then 0 else l) el else .u
  | .k x, .k y => bif nilK x && nilK y then .k x else .u
  | .pr xs, .pr ys => match joinVs j xs ys with
    | some l => .pr l
    | none => .u
  | .fn f cs, .fn g ds => bif Nat.beq f g then match joinVs j cs ds with
    | some l => .fn f l
    | none => .u else .u
  | _, _ => .u
def joinV : Nat → Bool → SV → SV → SV
  | 0, _, _, _ => .u
  | d + 1, z, a, b =>
    match a.bool?, b.bool? with
    | some (ca, x), some (cb, y) => joinB z ca x cb y
    | _, _ =>
    match a.int?, b.int? with
    | some (ca, q, i), some (cb, q', j) => bif decide (q = q') then (bif ca && (cb && decide (i = j)) then .k (.int q i) else .v (.int q (bif z then i else j))) else .u
    | _, _ =>
    match a.str?, b.str? with
    | some (_, s), some (_, t) => .v (.string (bif z then s else t))
    | _, _ =>
    match a.agg?, b.agg? with
    | some xs, some ys => match joinVs (joinV d z) xs ys with
      | some l => .agg l
      | none => .u
    | _, _ => joinR (joinV d z) z a b

section
variable {n : Nat} {ρ : Rh} {z : Bool}
def JV (n : Nat) (ρ : Rh) (z : Bool) (a b j : SV) : Prop := (z = true → ∀ x, a.fit n ρ x → j.fit n ρ x) ∧ (z = false → ∀ x, b.fit n ρ x → j.fit n ρ x)
theorem JV.u (a b : SV) : JV n ρ z a b .u := ⟨fun _ _ _ => by simp [SV.fit], fun _ _ _ => by simp [SV.fit]⟩
theorem joinVs_ok {j : SV → SV → SV} (hj : ∀ a b, JV n ρ z a b (j a b)) : ∀ {xs ys l : List SV}, joinVs j xs ys = some l → (z = true → ∀ v, SV.fits n ρ xs v → SV.fits n ρ l v) ∧ (z = false → ∀ v, SV.fits n ρ ys v → SV.fits n ρ l v)
  | [], [], l, h => by
    simp only [joinVs, Option.some.injEq] at h
    subst h
    exact ⟨fun _ _ h => h, fun _ _ h => h⟩
  | a :: xs, b :: ys, l, h => by
    simp only [joinVs] at h
    split at h
    · rename_i r hr
      simp only [Option.some.injEq] at h
      subst h
      obtain ⟨h1, h2⟩ := joinVs_ok hj hr
      refine ⟨fun hz v hv => ?_, fun hz v hv => ?_⟩
      · obtain ⟨x, r', rfl, hx, hr'⟩ := fits_cons hv
        exact ⟨(hj a b).1 hz x hx, h1 hz _ hr'⟩
      · obtain ⟨x, r', rfl, hx, hr'⟩ := fits_cons hv
        exact ⟨(hj a b).2 hz x hx, h2 hz _ hr'⟩
    · cases h
  | [], _ :: _, l, h => by simp [joinVs] at h
  | _ :: _, [], l, h => by simp [joinVs] at h
theorem nilK_eq {y : Value} (h : nilK y = true) : y = .slice none 0 0 := by
  unfold nilK at h
  split at h
  · rfl
  · cases h
theorem rs_nil (sz : Nat) (el : Nat → List SV) : (SV.rs sz 0 el).fit n ρ (.slice none 0 0) := by
  simp only [SV.fit]
  exact ⟨_, _, rfl, Nat.le_refl _, Nat.zero_le _, fun h => absurd h (Nat.lt_irrefl 0)⟩
theorem bifu {c : Bool} {a b j : SV} (h : c = true → JV n ρ z a b j) : JV n ρ z a b (bif c then j else .u) := by
  cases c with
  | true => exact h rfl
  | false => exact JV.u _ _
theorem joinR_ok {j : SV → SV → SV} (hj : ∀ a b, JV n ρ z a b (j a b)) (a b : SV) : JV n ρ z a b (joinR j z a b) := by
  unfold joinR
  split
  · split
    · rename_i l hl
      obtain ⟨h1, h2⟩ := joinVs_ok hj hl
      exact ⟨fun hz x ⟨v, e, hv⟩ => ⟨v, e, h1 hz v hv⟩, fun hz x ⟨v, e, hv⟩ => ⟨v, e, h2 hz v hv⟩⟩
    · exact JV.u _ _
  · refine bifu fun h => ?_
    simp only [Bool.and_eq_true] at h
    rw [beq_of h.1, beq_of h.2]
    exact ⟨fun _ _ h => h, fun _ _ h => h⟩
  · refine bifu fun h => ?_
    simp only [Bool.and_eq_true] at h
    rw [beq_of h.1.1.1, beq_of h.1.1.2, beq_of h.1.2, beq_of h.2]
    exact ⟨fun _ _ h => h, fun _ _ h => h⟩
  · refine bifu fun h => ?_
    rw [beq_of h]
    exact ⟨fun hz x h => by rw [hz]; exact h, fun hz x h => by rw [hz]; exact h⟩
  · refine bifu fun h => ?_
    rw [beq_of h]
    exact ⟨fun hz x h => by rw [hz]; exact h, fun hz x h => by rw [hz]; exact h⟩
  · refine bifu fun h => ?_
    have := nilK_eq h
    subst this
    exact ⟨fun hz x h => by rw [hz]; exact h, fun hz x h => by rw [hz]; simp only [SV.fit] at h; subst h; exact rs_nil _ _⟩
  · refine bifu fun h => ?_
    have := nilK_eq h
    subst this
    exact ⟨fun hz x h => by rw [hz]; simp only [SV.fit] at h; subst h; exact rs_nil _ _, fun hz x h => by rw [hz]; exact h⟩
  · refine bifu fun h => ?_
    simp only [Bool.and_eq_true] at h
    rw [nilK_eq h.1, nilK_eq h.2]
    exact ⟨fun _ _ h => h, fun _ _ h => h⟩
  · split
    · rename_i l hl
      obtain ⟨h1, h2⟩ := joinVs_ok hj hl
      refine ⟨fun hz x hx => ?_, fun hz x hx => ?_⟩
      · simp only [SV.fit] at hx ⊢
        obtain ⟨b, o, cs, t, fz, e, hm, vs, hv, hc⟩ := hx
        exact ⟨b, o, cs, t, fz, e, hm, vs, h1 hz vs hv, hc⟩
      · simp only [SV.fit] at hx ⊢
        obtain ⟨b, o, cs, t, fz, e, hm, vs, hv, hc⟩ := hx
        exact ⟨b, o, cs, t, fz, e, hm, vs, h2 hz vs hv, hc⟩
    · exact JV.u _ _
  · refine bifu fun h => ?_
    rw [beq_of h]
    split
    · rename_i l hl
      obtain ⟨h1, h2⟩ := joinVs_ok hj hl
      exact ⟨fun hz x ⟨v, e, hv⟩ => ⟨v, e, h1 hz v hv⟩, fun hz x ⟨v, e, hv⟩ => ⟨v, e, h2 hz v hv⟩⟩
    · exact JV.u _ _
  · exact JV.u _ _
theorem joinV_ok : ∀ (d : Nat) (a b : SV), JV n ρ z a b (joinV d z a b)
  | 0, _, _ => JV.u _ _
  | d + 1, a, b => by
    unfold joinV
    split
    · rename_i ca x cb y h1 h2
      refine ⟨fun hz v hv => ?_, fun hz v hv => ?_⟩
      · rw [SV.bool_fit h1 hv]
        have := joinB_fit z ca x cb y (n := n) (ρ := ρ)
        rw [hz] at this ⊢
        exact this
      · rw [SV.bool_fit h2 hv]
        have := joinB_fit z ca x cb y (n := n) (ρ := ρ)
        rw [hz] at this ⊢
        exact this
    · split
      · rename_i ca q i cb q' j h1 h2
        refine bifu fun hq => ?_
        have hq := of_decide_eq_true hq
        subst hq
        cases hc : ca && (cb && decide (i = j)) with
        | true =>
          simp only [cond_true]
          simp only [Bool.and_eq_true, decide_eq_true_eq] at hc
          obtain ⟨_, _, rfl⟩ := hc
          exact ⟨fun _ v hv => by rw [SV.int_fit h1 hv]; simp [SV.fit], fun _ v hv => by rw [SV.int_fit h2 hv]; simp [SV.fit]⟩
        | false =>
          simp only [cond_false]
          exact ⟨fun hz v hv => by rw [SV.int_fit h1 hv, hz]; simp [SV.fit], fun hz v hv => by rw [SV.int_fit h2 hv, hz]; simp [SV.fit]⟩
      · split
        · rename_i ca s cb t h1 h2
          exact ⟨fun hz v hv => by rw [SV.str_fit h1 hv, hz]; simp [SV.fit], fun hz v hv => by rw [SV.str_fit h2 hv, hz]; simp [SV.fit]⟩
        · split
          · rename_i xs ys h1 h2
            split
            · rename_i l hl
              obtain ⟨k1, k2⟩ := joinVs_ok (joinV_ok d) hl
              refine ⟨fun hz v hv => ?_, fun hz v hv => ?_⟩
              · obtain ⟨l', rfl, hl'⟩ := SV.agg_fit h1 hv
                exact ⟨l', rfl, k1 hz _ hl'⟩
              · obtain ⟨l', rfl, hl'⟩ := SV.agg_fit h2 hv
                exact ⟨l', rfl, k2 hz _ hl'⟩
            · exact JV.u _ _
          · exact joinR_ok (joinV_ok d) a b
end

/-! ### one of several -/
def selL (e : Nat) : Nat → List SV → SV
  | _, [] => .u
  | j, s :: r => match r with
    | [] => s
    | _ :: _ => joinV 9 (decide (e = j)) s (selL e (j + 1) r)
theorem selL_ok {n : Nat} {ρ : Rh} {e : Nat} : ∀ {l : List SV} {j k : Nat} {s : SV} {x : Value}, l[k]? = some s → e = j + k → s.fit n ρ x → (selL e j l).fit n ρ x
  | [], _, _, _, _, h, _, _ => by simp at h
  | a :: r, j, k, s, x, h, he, hf => by
    cases r with
    | nil =>
      cases k with
      | zero => simp at h; subst h; exact hf
      | succ k => simp at h
    | cons b r =>
      simp only [selL]
      obtain ⟨h1, h2⟩ := joinV_ok (n := n) (ρ := ρ) (z := decide (e = j)) 9 a (selL e (j + 1) (b :: r))
      cases k with
      | zero =>
        simp at h
        subst h
        exact h1 (by simp [he]) x hf
      | succ k => exact h2 (by simp; omega) x (selL_ok (k := k) (by simpa using h) (by omega) hf)
/-- A column of what lies at equal distances. -/
def candL (o sz cnt : Nat) (xs : List SV) : List SV := (List.range cnt).map fun j => xs.getD (o + j * sz) .u
def colsL (e o sz cnt n : Nat) (xs : List SV) : List SV := (List.range n).map fun q => selL e 0 (candL (o + q) sz cnt xs)
theorem fits_of_get {n : Nat} {ρ : Rh} : ∀ {ss : List SV} {xs : List Value}, ss.length = xs.length → (∀ (j : Nat) (s : SV) (x : Value), ss[j]? = some s → xs[j]? = some x → s.fit n ρ x) → SV.fits n ρ ss xs
  | [], [], _, _ => trivial
  | s :: ss, x :: xs, hl, h => ⟨h 0 s x rfl rfl, fits_of_get (by simpa using hl) fun j s' x' h1 h2 => h (j + 1) s' x' (by simpa using h1) (by simpa using h2)⟩
  | [], _ :: _, hl, _ => by simp at hl
  | _ :: _, [], hl, _ => by simp at hl
theorem colsL_ok {n : Nat} {ρ : Rh} {e o sz cnt k : Nat} {xs : List SV} {l : List Value} (hf : SV.fits n ρ xs l) (he : e < cnt) (hle : o + e * sz + k ≤ xs.length) : SV.fits n ρ (colsL e o sz cnt k xs) ((l.drop (o + e * sz)).take k) := by
  have hll := fits_length hf
  refine fits_of_get (by simp [colsL]; omega) fun q s x h1 h2 => ?_
  have hq : q < k := by
    have := (List.getElem?_eq_some_iff.1 h1).1
    simpa [colsL] using this
  have hs : s = selL e 0 (candL (o + q) sz cnt xs) := by
    simp only [colsL, List.getElem?_map, List.getElem?_range hq, Option.map_some, Option.some.injEq] at h1
    exact h1.symm
  subst hs
  rw [List.getElem?_take, if_pos hq, List.getElem?_drop] at h2
  have hlt : o + e * sz + q < xs.length := by omega
  have hx : xs[o + e * sz + q]? = some (xs.getD (o + e * sz + q) .u) := by
    rw [List.getElem?_eq_getElem hlt, List.getD_eq_getElem?_getD, List.getElem?_eq_getElem hlt]; rfl
  obtain ⟨y, hy, hfy⟩ := fits_get hf hx
  rw [hy] at h2
  cases h2
  refine selL_ok (k := e) (s := xs.getD (o + e * sz + q) .u) ?_ (by omega) hfy
  simp only [candL, List.getElem?_map, List.getElem?_range he, Option.map_some]
  congr 2
  omega
/-- Cells, some of which are written where it holds. -/
def spliceJ (z : Bool) (xs : List SV) (o : Nat) (ys : List SV) : List SV := xs.take o ++ (List.zipWith (joinV 9 z) ys ((xs.drop o).take ys.length) ++ xs.drop (o + ys.length))
theorem zipJ_ok {n : Nat} {ρ : Rh} {z : Bool} : ∀ {ys xs : List SV} {v v' : List Value}, ys.length = xs.length → SV.fits n ρ ys v → SV.fits n ρ xs v' → SV.fits n ρ (List.zipWith (joinV 9 z) ys xs) (bif z then v else v')
  | [], [], v, v', _, h, h' => by
    have := fits_nil h
    have := fits_nil h'
    subst v; subst v'
    cases z <;> trivial
  | y :: ys, x :: xs, v, v', hl, h, h' => by
    obtain ⟨a, r, rfl, ha, hr⟩ := fits_cons h
    obtain ⟨b, r', rfl, hb, hr'⟩ := fits_cons h'
    have ih := zipJ_ok (z := z) (by simpa using hl) hr hr'
    obtain ⟨h1, h2⟩ := joinV_ok (n := n) (ρ := ρ) (z := z) 9 y x
    cases z with
    | true => exact ⟨h1 rfl _ ha, ih⟩
    | false => exact ⟨h2 rfl _ hb, ih⟩
  | [], _ :: _, _, _, hl, _, _ => by simp at hl
  | _ :: _, [], _, _, hl, _, _ => by simp at hl
theorem spliceJ_ok {n : Nat} {ρ : Rh} {z : Bool} {xs ys : List SV} {o : Nat} {l cs : List Value} (hle : o + ys.length ≤ xs.length) (hf : SV.fits n ρ xs l) (hy : SV.fits n ρ ys cs) :
    SV.fits n ρ (spliceJ z xs o ys) (bif z then l.take o ++ cs ++ l.drop (o + cs.length) else l) := by
  have hyl := fits_length hy
  have h1 := fits_take o hf
  have h2 := fits_take ys.length (fits_drop o hf)
  have h3 := fits_drop (o + ys.length) hf
  have h4 := zipJ_ok (z := z) (by simp; omega) hy h2
  have h5 := fits_append h1 (fits_append h4 h3)
  unfold spliceJ
  cases z with
  | true => rw [hyl] at h5; simpa [hyl] using h5
  | false =>
    have e : l.take o ++ ((l.drop o).take ys.length ++ l.drop (o + ys.length)) = l := by
      have : l.drop (o + ys.length) = (l.drop o).drop ys.length := by rw [List.drop_drop]
      rw [this, List.take_append_drop, List.take_append_drop]
    simp only [cond_false] at h5 ⊢
    rw [e] at h5
    exact h5
theorem spliceJ_length {z : Bool} {xs ys : List SV} {o : Nat} (hle : o + ys.length ≤ xs.length) : (spliceJ z xs o ys).length = xs.length := by simp [spliceJ]; omega
/-- Cells are written at one of several places. -/
def putAt (e o sz : Nat) (ys : List SV) : Nat → Nat → List SV → List SV
  | 0, _, xs => xs
  | cnt + 1, j, xs => putAt e o sz ys cnt (j + 1) (spliceJ (decide (e = j)) xs (o + j * sz) ys)
theorem putAt_ok {n : Nat} {ρ : Rh} {e o sz : Nat} {ys : List SV} {l cs : List Value} (hy : SV.fits n ρ ys cs) : ∀ {cnt j : Nat} {xs : List SV}, (∀ i, i < j + cnt → o + i * sz + ys.length ≤ xs.length) →
    SV.fits n ρ xs (bif decide (e < j) then l.take (o + e * sz) ++ cs ++ l.drop (o + e * sz + cs.length) else l) → l.length = xs.length → SV.fits n ρ (putAt e o sz ys cnt j xs) (bif decide (e < j + cnt) then l.take (o + e * sz) ++ cs ++ l.drop (o + e * sz + cs.length) else l)
  | 0, j, xs, _, hf, _ => hf
  | cnt + 1, j, xs, hb, hf, hll => by
    simp only [putAt]
    have hbj := hb j (by omega)
    have hlen := spliceJ_length (z := decide (e = j)) (ys := ys) (o := o + j * sz) hbj
    have := putAt_ok (n := n) (ρ := ρ) (e := e) (o := o) (sz := sz) (l := l) hy (cnt := cnt) (j := j + 1) (xs := spliceJ (decide (e = j)) xs (o + j * sz) ys) (fun i hi => by rw [hlen]; exact hb i (by omega)) ?_ (by rw [hlen]; exact hll)
    · rw [show j + 1 + cnt = j + (cnt + 1) by omega] at this; exact this
    · have hs := spliceJ_ok (z := decide (e = j)) (ys := ys) (o := o + j * sz) hbj hf hy
      by_cases hej : e = j
      · subst hej
        have e1 : decide (e < e + 1) = true := by simp
        have e2 : decide (e < e) = false := by simp
        rw [e1]
        rw [e2] at hs
        simpa using hs
      · have e1 : decide (e < j + 1) = decide (e < j) := by simp only [decide_eq_decide]; omega
        have e2 : decide (e = j) = false := by simp [hej]
        rw [e1]
        rw [e2] at hs ⊢
        exact hs
end Go.Sx
