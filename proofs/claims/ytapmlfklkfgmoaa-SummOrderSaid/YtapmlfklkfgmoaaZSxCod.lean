/- Codecs: plain data as known values, and back. -/
import Derived.Test.YtapmlfklkfgmoaaZSxSound
set_option linter.unusedVariables false
namespace Go.Sx
open Go.RowKit

/-- Nothing in it hangs on where blocks lie. -/
def Cl (s : SV) : Prop := ∀ (n m : Nat) (ρ ρ' : Rh) (x : Value), (∀ b o, ρ.mem b = some o → ρ'.mem b = some o) → s.fit n ρ x → s.fit m ρ' x
def Cls (l : List SV) : Prop := ∀ (n m : Nat) (ρ ρ' : Rh) (x : List Value), (∀ b o, ρ.mem b = some o → ρ'.mem b = some o) → SV.fits n ρ l x → SV.fits m ρ' l x
/-- Nothing in it lies in memory. -/
def Pu (s : SV) : Prop := ∀ (n m : Nat) (ρ ρ' : Rh) (x : Value), s.fit n ρ x → s.fit m ρ' x
def Pus (l : List SV) : Prop := ∀ (n m : Nat) (ρ ρ' : Rh) (x : List Value), SV.fits n ρ l x → SV.fits m ρ' l x
theorem cl_v (x : Value) : Cl (.v x) := fun _ _ _ _ _ _ h => h
theorem cl_k (x : Value) : Cl (.k x) := fun _ _ _ _ _ _ h => h
theorem pu_v (x : Value) : Pu (.v x) := fun _ _ _ _ _ h => h
theorem pu_k (x : Value) : Pu (.k x) := fun _ _ _ _ _ h => h
theorem cls_nil : Cls [] := fun _ _ _ _ x _ h => by have := fits_nil h; subst this; trivial
theorem pus_nil : Pus [] := fun _ _ _ _ x h => by have := fits_nil h; subst this; trivial
theorem cls_cons {s : SV} {l : List SV} (h : Cl s) (h' : Cls l) : Cls (s :: l) := fun n m ρ ρ' x hm hf => by
  obtain ⟨y, r, rfl, hy, hr⟩ := fits_cons hf
  exact ⟨h n m ρ ρ' y hm hy, h' n m ρ ρ' r hm hr⟩
theorem pus_cons {s : SV} {l : List SV} (h : Pu s) (h' : Pus l) : Pus (s :: l) := fun n m ρ ρ' x hf => by
  obtain ⟨y, r, rfl, hy, hr⟩ := fits_cons hf
  exact ⟨h n m ρ ρ' y hy, h' n m ρ ρ' r hr⟩
theorem cls_append : ∀ {l l' : List SV}, Cls l → Cls l' → Cls (l ++ l')
  | [], _, _, h' => h'
  | s :: l, l', h, h' => fun n m ρ ρ' x hm hf => by
    have hl : x.length = l.length + 1 + l'.length := by have := fits_length hf; simp at this; omega
    have h1 := fits_take (l.length + 1) hf
    have h2 := fits_drop (l.length + 1) hf
    rw [show ((s :: l) ++ l').take (l.length + 1) = s :: l by simp] at h1
    rw [show ((s :: l) ++ l').drop (l.length + 1) = l' by simp] at h2
    have := fits_append (h n m ρ ρ' _ hm h1) (h' n m ρ ρ' _ hm h2)
    rwa [List.take_append_drop] at this
theorem pus_append : ∀ {l l' : List SV}, Pus l → Pus l' → Pus (l ++ l')
  | [], _, _, h' => h'
  | s :: l, l', h, h' => fun n m ρ ρ' x hf => by
    have h1 := fits_take (l.length + 1) hf
    have h2 := fits_drop (l.length + 1) hf
    rw [show ((s :: l) ++ l').take (l.length + 1) = s :: l by simp] at h1
    rw [show ((s :: l) ++ l').drop (l.length + 1) = l' by simp] at h2
    have := fits_append (h n m ρ ρ' _ h1) (h' n m ρ ρ' _ h2)
    rwa [List.take_append_drop] at this
theorem cl_agg {l : List SV} (h : Cls l) : Cl (.agg l) := fun n m ρ ρ' _ hm ⟨v, e, hv⟩ => ⟨v, e, h n m ρ ρ' v hm hv⟩
theorem cl_tup {l : List SV} (h : Cls l) : Cl (.tup l) := fun n m ρ ρ' _ hm ⟨v, e, hv⟩ => ⟨v, e, h n m ρ ρ' v hm hv⟩
theorem pu_agg {l : List SV} (h : Pus l) : Pu (.agg l) := fun n m ρ ρ' _ ⟨v, e, hv⟩ => ⟨v, e, h n m ρ ρ' v hv⟩
theorem pu_tup {l : List SV} (h : Pus l) : Pu (.tup l) := fun n m ρ ρ' _ ⟨v, e, hv⟩ => ⟨v, e, h n m ρ ρ' v hv⟩
theorem cl_rs {sz l : Nat} {el : Nat → List SV} (h : ∀ e, Cls (el e)) : Cl (.rs sz l el) := fun n m ρ ρ' x hm hf => by
  simp only [SV.fit] at hf ⊢
  obtain ⟨a, c, e, h1, h2, h3⟩ := hf
  refine ⟨a, c, e, h1, h2, fun hl => ?_⟩
  obtain ⟨b, o, cs, t, fz, k1, k2, k3⟩ := h3 hl
  refine ⟨b, o, cs, t, fz, k1, hm _ _ k2, fun e he => ?_⟩
  obtain ⟨vs, q1, q2, q3⟩ := k3 e he
  exact ⟨vs, q1, h e n m ρ ρ' vs hm q2, q3⟩

/-! ### one value -/
/-- A reading of one known value. -/
structure Dv (α : Type) where
  dec : SV → Option (α × List Prop)
  enc : α → SV
  bd : α → Prop
  cl : ∀ a, Cl (enc a)
  ok : ∀ (s : SV) (a : α) (ps : List Prop) (n : Nat) (ρ : Rh) (x : Value), dec s = some (a, ps) → (∀ p ∈ ps, p) → s.fit n ρ x → (enc a).fit n ρ x
  fb : ∀ (a : α) (n : Nat) (ρ : Rh) (x : Value), (enc a).fit n ρ x → bd a
abbrev Dv.T {α : Type} (_ : Dv α) : Type := α
def dInt (q : IntKind) : Dv Int where
  dec s := match s.int? with
    | some (_, q', n) => bif decide (q = q') then some (n, []) else none
    | none => none
  enc n := .v (.int q n)
  bd _ := True
  cl _ := cl_v _
  ok s a ps n ρ x hd _ hf := by
    split at hd
    · rename_i c q' i hs
      cases hq : decide (q = q') with
      | false => simp [hq] at hd
      | true =>
        simp only [hq, cond_true, Option.some.injEq, Prod.mk.injEq] at hd
        rw [SV.int_fit hs hf, hd.1, of_decide_eq_true hq]
        simp [SV.fit]
    · cases hd
  fb _ _ _ _ _ := trivial
def dBool : Dv Bool where
  dec s := match s.bool? with
    | some (_, b) => some (b, [])
    | none => none
  enc b := .v (.bool b)
  bd _ := True
  cl _ := cl_v _
  ok s a ps n ρ x hd _ hf := by
    split at hd
    · rename_i c b hs
      simp only [Option.some.injEq, Prod.mk.injEq] at hd
      rw [SV.bool_fit hs hf, hd.1]
      simp [SV.fit]
    · cases hd
  fb _ _ _ _ _ := trivial
def dStr : Dv ByteArray where
  dec s := match s.str? with
    | some (_, b) => some (b, [])
    | none => none
  enc b := .v (.string b)
  bd _ := True
  cl _ := cl_v _
  ok s a ps n ρ x hd _ hf := by
    split at hd
    · rename_i c b hs
      simp only [Option.some.injEq, Prod.mk.injEq] at hd
      rw [SV.str_fit hs hf, hd.1]
      simp [SV.fit]
    · cases hd
  fb _ _ _ _ _ := trivial

/-! ### cells, one behind the other -/
structure El (α : Type) where
  sz : Nat
  cells : α → List SV
  decs : List SV → Option (α × List Prop)
  dflt : α
  bd : α → Prop
  dec_cells : ∀ a, ∃ ps, decs (cells a) = some (a, ps) ∧ ∀ p ∈ ps, p
  len : ∀ a, (cells a).length = sz
  one : ∀ a, (cells a).all SV.one = true
  cl : ∀ a, Cls (cells a)
  ok : ∀ (l : List SV) (a : α) (ps : List Prop) (n : Nat) (ρ : Rh) (x : List Value), decs l = some (a, ps) → (∀ p ∈ ps, p) → SV.fits n ρ l x → SV.fits n ρ (cells a) x
  fb : ∀ (a : α) (n : Nat) (ρ : Rh) (x : List Value), SV.fits n ρ (cells a) x → bd a
/-- One cell. -/
def El.one' {α : Type} (D : Dv α) (d : α) (h1 : ∀ a, (D.enc a).one = true) (h2 : ∀ a, ∃ ps, D.dec (D.enc a) = some (a, ps) ∧ ∀ p ∈ ps, p) : El α where
  sz := 1
  cells a := [D.enc a]
  decs l := match l with
    | [s] => D.dec s
    | _ => none
  dflt := d
  bd := D.bd
  dec_cells a := h2 a
  len _ := rfl
  one a := by simp [h1]
  cl a := cls_cons (D.cl a) cls_nil
  ok l a ps n ρ x hd hp hf := by
    split at hd
    · obtain ⟨y, r, rfl, hy, hr⟩ := fits_cons hf
      exact ⟨D.ok _ _ _ _ _ _ hd hp hy, hr⟩
    · cases hd
  fb a n ρ x hf := by
    obtain ⟨y, r, rfl, hy, hr⟩ := fits_cons hf
    exact D.fb _ _ _ _ hy
def eInt (q : IntKind) : El Int := .one' (dInt q) 0 (fun _ => rfl) fun a => ⟨[], by simp [dInt, SV.int?], by simp⟩
def eBool : El Bool := .one' dBool false (fun _ => rfl) fun a => ⟨[], by simp [dBool, SV.bool?], by simp⟩
def eStr : El ByteArray := .one' dStr ByteArray.empty (fun _ => rfl) fun a => ⟨[], by simp [dStr, SV.str?], by simp⟩
/-- Two, one behind the other. -/
def El.pair {α β : Type} (A : El α) (B : El β) : El (α × β) where
  sz := A.sz + B.sz
  cells a := A.cells a.1 ++ B.cells a.2
  decs l := match A.decs (l.take A.sz) with
    | some (a, ps) => match B.decs (l.drop A.sz) with
      | some (b, qs) => some ((a, b), ps ++ qs)
      | none => none
    | none => none
  dflt := (A.dflt, B.dflt)
  bd a := A.bd a.1 ∧ B.bd a.2
  dec_cells a := by
    obtain ⟨ps, h1, h2⟩ := A.dec_cells a.1
    obtain ⟨qs, k1, k2⟩ := B.dec_cells a.2
    refine ⟨ps ++ qs, ?_, fun p hp => ?_⟩
    · rw [List.take_left' (A.len _), List.drop_left' (A.len _), h1]
      simp only [k1]
    · rcases List.mem_append.1 hp with hp | hp
      · exact h2 p hp
      · exact k2 p hp
  len a := by simp [A.len, B.len]
  one a := by simp only [List.all_append, A.one, B.one, Bool.and_self]
  cl a := cls_append (A.cl _) (B.cl _)
  ok l a ps n ρ x hd hp hf := by
    split at hd
    · rename_i a0 ps0 h1
      split at hd
      · rename_i b0 qs0 h2
        simp only [Option.some.injEq, Prod.mk.injEq] at hd
        obtain ⟨rfl, rfl⟩ := hd
        have f1 := A.ok _ _ _ _ _ _ h1 (fun p hp' => hp p (List.mem_append_left _ hp')) (fits_take A.sz hf)
        have f2 := B.ok _ _ _ _ _ _ h2 (fun p hp' => hp p (List.mem_append_right _ hp')) (fits_drop A.sz hf)
        have := fits_append f1 f2
        rwa [List.take_append_drop] at this
      · cases hd
    · cases hd
  fb a n ρ x hf := by
    have h1 := fits_take A.sz hf
    have h2 := fits_drop A.sz hf
    rw [List.take_left' (A.len _)] at h1
    rw [List.drop_left' (A.len _)] at h2
    exact ⟨A.fb _ _ _ _ h1, B.fb _ _ _ _ h2⟩
/-- The same under another name. -/
def El.iso {α β : Type} (A : El α) (f : α → β) (g : β → α) (hfg : ∀ b, f (g b) = b) (hgf : ∀ a, g (f a) = a) : El β where
  sz := A.sz
  cells b := A.cells (g b)
  decs l := match A.decs l with
    | some (a, ps) => some (f a, ps)
    | none => none
  dflt := f A.dflt
  bd b := A.bd (g b)
  dec_cells b := by
    obtain ⟨ps, h1, h2⟩ := A.dec_cells (g b)
    exact ⟨ps, by simp only [h1, hfg], h2⟩
  len b := A.len _
  one b := A.one _
  cl b := A.cl _
  ok l b ps n ρ x hd hp hf := by
    split at hd
    · rename_i a0 ps0 h1
      simp only [Option.some.injEq, Prod.mk.injEq] at hd
      obtain ⟨rfl, rfl⟩ := hd
      rw [hgf]
      exact A.ok _ _ _ _ _ _ h1 hp hf
    · cases hd
  fb b n ρ x hf := A.fb _ _ _ _ hf
/-- A struct by value. -/
def Dv.agg {α : Type} (A : El α) : Dv α where
  dec s := match s.agg? with
    | some l => A.decs l
    | none => none
  enc a := .agg (A.cells a)
  bd := A.bd
  cl a := cl_agg (A.cl a)
  ok s a ps n ρ x hd hp hf := by
    split at hd
    · rename_i l hl
      obtain ⟨v, rfl, hv⟩ := SV.agg_fit hl hf
      exact ⟨v, rfl, A.ok _ _ _ _ _ _ hd hp hv⟩
    · cases hd
  fb a n ρ x hf := by
    obtain ⟨v, rfl, hv⟩ := hf
    exact A.fb _ _ _ _ hv

/-! ### lists -/
section
variable {α : Type} (A : El α)
def El.els (xs : List α) : Nat → List SV := fun e => A.cells (xs.getD e A.dflt)
def El.get (l : List SV) : α :=
  match A.decs l with
  | some (a, _) => a
  | none => A.dflt
def El.lst (n : Nat) (el : Nat → List SV) : List α := (List.range n).map fun e => A.get (el e)
def El.Ok (l : List SV) : Prop := ∃ a ps, A.decs l = some (a, ps) ∧ ∀ p ∈ ps, p
theorem El.ok_cells (a : α) : A.Ok (A.cells a) := by
  obtain ⟨ps, h1, h2⟩ := A.dec_cells a
  exact ⟨a, ps, h1, h2⟩
theorem El.get_cells (a : α) : A.get (A.cells a) = a := by
  obtain ⟨ps, h1, h2⟩ := A.dec_cells a
  simp only [El.get, h1]
theorem El.lst_length (n : Nat) (el : Nat → List SV) : (A.lst n el).length = n := by simp [El.lst]
theorem El.ok_els (xs : List α) (e : Nat) : A.Ok (A.els xs e) := A.ok_cells _
theorem El.one_els (xs : List α) (e : Nat) : (A.els xs e).all SV.one = true := A.one _
theorem El.lst_getD (n : Nat) (el : Nat → List SV) (e : Nat) (he : e < n) : (A.lst n el).getD e A.dflt = A.get (el e) := by
  simp [El.lst, List.getD_eq_getElem?_getD, he]
theorem El.lst_els (xs : List α) : A.lst xs.length (A.els xs) = xs := by
  apply List.ext_getElem
  · simp [El.lst]
  · intro i h1 h2
    simp [El.lst, El.els, El.get_cells, h2]
theorem El.lst_take (n : Nat) (xs : List α) (h : n ≤ xs.length) : A.lst n (A.els xs) = xs.take n := by
  apply List.ext_getElem
  · simp [El.lst]; omega
  · intro i h1 h2
    have : i < xs.length := by simp at h2; omega
    simp [El.lst, El.els, El.get_cells, this]
theorem El.lst_sh (k n : Nat) (xs : List α) (h : k + n ≤ xs.length) : A.lst n (shEl k (A.els xs)) = (xs.drop k).take n := by
  apply List.ext_getElem
  · simp [El.lst]; omega
  · intro i h1 h2
    have : k + i < xs.length := by simp at h2; omega
    simp [El.lst, El.els, shEl, El.get_cells, this]
theorem El.lst_app (l k : Nat) (a b : Nat → List SV) : A.lst (l + k) (appEl l a b) = A.lst l a ++ A.lst k b := by
  simp only [El.lst]
  rw [List.range_add, List.map_append, List.map_map]
  congr 1
  · apply List.map_congr_left
    intro e he
    simp at he
    simp [appEl, he]
  · apply List.map_congr_left
    intro e he
    have : ¬ (l + e < l) := by omega
    simp [appEl, this]
theorem El.lst_zero (el : Nat → List SV) : A.lst 0 el = [] := rfl
theorem El.lst_one (el : Nat → List SV) : A.lst 1 el = [A.get (el 0)] := rfl
theorem El.lst_bif (z : Bool) (n m : Nat) (a b : Nat → List SV) : A.lst (bif z then n else m) (bif z then a else b) = bif z then A.lst n a else A.lst m b := by cases z <;> rfl
end
/-- A slice that is only read, of elements. -/
def Dv.list {α : Type} (A : El α) : Dv (List α) where
  dec s := match s with
    | .rs sz n el => bif Nat.beq sz A.sz then some (A.lst n el, [∀ e, e < n → A.Ok (el e)]) else none
    | .k y => bif nilK y then some ([], []) else none
    | _ => none
  enc xs := .rs A.sz xs.length (A.els xs)
  bd xs := xs.length ≤ maxLen ∧ ∀ a ∈ xs, A.bd a
  cl xs := cl_rs fun e => A.cl _
  ok s a ps n ρ x hd hp hf := by
    split at hd
    · rename_i sz m el
      cases hb : Nat.beq sz A.sz with
      | false => rw [hb] at hd; cases hd
      | true =>
        rw [hb] at hd
        simp only [cond_true, Option.some.injEq, Prod.mk.injEq] at hd
        obtain ⟨rfl, rfl⟩ := hd
        have hk := hp _ (List.mem_cons_self ..)
        have := beq_of hb
        subst this
        simp only [SV.fit] at hf ⊢
        rw [A.lst_length]
        obtain ⟨p, c, h0, h1, h2, h3⟩ := hf
        refine ⟨p, c, h0, h1, h2, fun hl => ?_⟩
        obtain ⟨b, o, cs, t, fz, k1, k2, k3⟩ := h3 hl
        refine ⟨b, o, cs, t, fz, k1, k2, fun e he => ?_⟩
        obtain ⟨vs, q1, q2, q3⟩ := k3 e he
        refine ⟨vs, q1, ?_, q3⟩
        simp only [El.els]
        rw [A.lst_getD _ _ _ he]
        obtain ⟨a, ps, d1, d2⟩ := hk e he
        have := A.ok _ _ _ _ _ _ d1 d2 q2
        simpa only [El.get, d1] using this
    · rename_i y
      cases hb : nilK y with
      | false => rw [hb] at hd; cases hd
      | true =>
        rw [hb] at hd
        simp only [cond_true, Option.some.injEq, Prod.mk.injEq] at hd
        obtain ⟨rfl, rfl⟩ := hd
        have := nilK_eq hb
        subst this
        simp only [SV.fit] at hf
        subst hf
        exact rs_nil _ _
    · cases hd
  fb xs n ρ x hf := by
    simp only [SV.fit] at hf
    obtain ⟨p, c, h0, h1, h2, h3⟩ := hf
    refine ⟨by omega, fun a ha => ?_⟩
    obtain ⟨i, hi, rfl⟩ := List.getElem_of_mem ha
    obtain ⟨b, o, cs, t, fz, k1, k2, k3⟩ := h3 (by omega)
    obtain ⟨vs, q1, q2, q3⟩ := k3 i hi
    have := A.fb _ _ _ _ q2
    simpa [List.getD_eq_getElem?_getD, hi] using this
/-- The head of a slice as a cell. -/
def eList {α : Type} (A : El α) : El (List α) := .one' (.list A) [] (fun _ => rfl) fun xs => ⟨[∀ e, e < xs.length → A.Ok (A.els xs e)], by simp [Dv.list, A.lst_els], by
  intro p hp
  simp only [List.mem_singleton] at hp
  subst hp
  exact fun e _ => A.ok_els xs e⟩

/-! ### several values: arguments, results -/
structure DA (γ : Type) where
  dec : List SV → Option (γ × List Prop)
  enc : γ → List SV
  bd : γ → Prop
  cl : ∀ g, Cls (enc g)
  ok : ∀ (l : List SV) (g : γ) (ps : List Prop) (n : Nat) (ρ : Rh) (x : List Value), dec l = some (g, ps) → (∀ p ∈ ps, p) → SV.fits n ρ l x → SV.fits n ρ (enc g) x
  fb : ∀ (g : γ) (n : Nat) (ρ : Rh) (x : List Value), SV.fits n ρ (enc g) x → bd g
abbrev DA.T {γ : Type} (_ : DA γ) : Type := γ
def DA.none : DA Unit where
  dec l := match l with
    | [] => some ((), [])
    | _ => Option.none
  enc _ := []
  bd _ := True
  cl _ := cls_nil
  ok l g ps n ρ x hd hp hf := by
    split at hd
    · exact hf
    · cases hd
  fb _ _ _ _ _ := trivial
def DA.one {α : Type} (A : Dv α) : DA α where
  dec l := match l with
    | [s] => A.dec s
    | _ => Option.none
  enc a := [A.enc a]
  bd := A.bd
  cl a := cls_cons (A.cl a) cls_nil
  ok l a ps n ρ x hd hp hf := by
    split at hd
    · obtain ⟨y, r, rfl, hy, hr⟩ := fits_cons hf
      exact ⟨A.ok _ _ _ _ _ _ hd hp hy, hr⟩
    · cases hd
  fb a n ρ x hf := by
    obtain ⟨y, r, rfl, hy, hr⟩ := fits_cons hf
    exact A.fb _ _ _ _ hy
def DA.cons {α γ : Type} (A : Dv α) (D : DA γ) : DA (α × γ) where
  dec l := match l with
    | s :: r => match A.dec s with
      | some (a, ps) => match D.dec r with
        | some (g, qs) => some ((a, g), ps ++ qs)
        | Option.none => Option.none
      | Option.none => Option.none
    | [] => Option.none
  enc g := A.enc g.1 :: D.enc g.2
  bd g := A.bd g.1 ∧ D.bd g.2
  cl g := cls_cons (A.cl _) (D.cl _)
  ok l g ps n ρ x hd hp hf := by
    split at hd
    · rename_i s r
      split at hd
      · rename_i a ps0 h1
        split at hd
        · rename_i g0 qs0 h2
          simp only [Option.some.injEq, Prod.mk.injEq] at hd
          obtain ⟨rfl, rfl⟩ := hd
          obtain ⟨y, r', rfl, hy, hr⟩ := fits_cons hf
          exact ⟨A.ok _ _ _ _ _ _ h1 (fun p hp' => hp p (List.mem_append_left _ hp')) hy, D.ok _ _ _ _ _ _ h2 (fun p hp' => hp p (List.mem_append_right _ hp')) hr⟩
        · cases hd
      · cases hd
    · cases hd
  fb g n ρ x hf := by
    obtain ⟨y, r, rfl, hy, hr⟩ := fits_cons hf
    exact ⟨A.fb _ _ _ _ hy, D.fb _ _ _ _ hr⟩
/-- Two or more results. -/
def Dv.tup {γ : Type} (D : DA γ) : Dv γ where
  dec s := match s with
    | .tup l => D.dec l
    | _ => none
  enc g := .tup (D.enc g)
  bd := D.bd
  cl g := cl_tup (D.cl g)
  ok s a ps n ρ x hd hp hf := by
    split at hd
    · obtain ⟨v, rfl, hv⟩ := hf
      exact ⟨v, rfl, D.ok _ _ _ _ _ _ hd hp hv⟩
    · cases hd
  fb g n ρ x hf := by
    obtain ⟨v, rfl, hv⟩ := hf
    exact D.fb _ _ _ _ hv
end Go.Sx
