/- A symbolic state of one activation (slots, and the blocks of memory that it knows), what it says of a machine's state, and trees of outcomes: the ground of a symbolic executor. -/
import Derived.WalkKit
import Derived.RangeFuncLeaves
import Derived.Laws.CopyRow
import Derived.Laws.Rows
import Derived.DeepKeys
import Derived.KernelRfl
set_option linter.unusedVariables false
namespace Go.Sx
open Go.RowKit

structure Lc where
  blk : Nat
  off : Nat
  cap : Nat
  nl : Bool
/-- Where the known blocks lie, and the memory that is never written any more. -/
structure Rh where
  lc : Nat → Lc
  mem : Nat → Option Obj
  lo : Nat → Option Obj
instance : CoeFun Rh (fun _ => Nat → Lc) := ⟨Rh.lc⟩

inductive SV where
  | k (x : Value)
  | v (x : Value)
  | p (i o : Nat)
  | pe (i sz e o : Nat)
  | sl (i o l c : Nat)
  | se (i sz o l : Nat)
  | rs (sz l : Nat) (el : Nat → List SV)
  | pr (xs : List SV)
  | ow (i l : Nat)
  | fn (f : Nat) (cs : List SV)
  | yl (i : Nat)
  | mp (i : Nat)
  | agg (xs : List SV)
  | tup (xs : List SV)
  | u

mutual
def SV.fit (n : Nat) (ρ : Rh) : SV → Value → Prop
  | .k y, x => x = y
  | .v y, x => x = y
  | .p i o, x => i < n ∧ x = .pointer (some ⟨(ρ i).blk, (ρ i).off + o, none⟩)
  | .pe i sz e o, x => i < n ∧ x = .pointer (some ⟨(ρ i).blk, (ρ i).off + e * sz + o, none⟩)
  | .sl i o l c, x => i < n ∧ x = .slice (some ⟨(ρ i).blk, (ρ i).off + o, none⟩) l c
  | .se i sz o l, x => i < n ∧ ∃ a c, x = .slice a l c ∧ l ≤ c ∧ c ≤ maxLen ∧ (0 < l → a = some ⟨(ρ i).blk, (ρ i).off + o * sz, none⟩)
  | .rs sz l el, x => ∃ a c, x = .slice a l c ∧ l ≤ c ∧ c ≤ maxLen ∧ (0 < l → ∃ b o cs t fz, a = some ⟨b, o, none⟩ ∧ ρ.mem b = some (.cells cs t fz) ∧ ∀ e, e < l → ∃ vs, vs.length = sz ∧ SV.fits n ρ (el e) vs ∧ ∀ j v, vs[j]? = some v → cs[o + e * sz + j]? = some v)
  | .pr xs, x => ∃ b o cs t fz, x = .pointer (some ⟨b, o, none⟩) ∧ ρ.mem b = some (.cells cs t fz) ∧ ∃ vs, SV.fits n ρ xs vs ∧ ∀ j v, vs[j]? = some v → cs[o + j]? = some v
  | .ow i l, x => i < n ∧ (((ρ i).nl = true ∧ l = 0 ∧ x = .slice none 0 0) ∨ ((ρ i).nl = false ∧ l ≤ (ρ i).cap ∧ x = .slice (some ⟨(ρ i).blk, 0, none⟩) l (ρ i).cap))
  | .fn f cs, x => ∃ l, x = .func (.func f) #[] (List.toArray l) ∧ SV.fits n ρ cs l
  | .yl i, x => i < n ∧ x = .func (.yield (ρ i).blk) #[] #[]
  | .mp i, x => i < n ∧ x = .map (some (ρ i).blk)
  | .agg xs, x => ∃ l, x = .agg (List.toArray l) ∧ SV.fits n ρ xs l
  | .tup xs, x => ∃ l, x = .tuple (List.toArray l) ∧ SV.fits n ρ xs l
  | .u, _ => True
def SV.fits (n : Nat) (ρ : Rh) : List SV → List Value → Prop
  | [], [] => True
  | s :: ss, x :: xs => SV.fit n ρ s x ∧ SV.fits n ρ ss xs
  | _, _ => False
end

def Agree (n : Nat) (ρ ρ' : Rh) : Prop := (∀ i, i < n → ρ' i = ρ i) ∧ (∀ b o, ρ.mem b = some o → ρ'.mem b = some o) ∧ ρ'.lo = ρ.lo
theorem Agree.refl (n : Nat) (ρ : Rh) : Agree n ρ ρ := ⟨fun _ _ => rfl, fun _ _ h => h, rfl⟩
theorem Agree.trans {n m : Nat} {a b c : Rh} (h : Agree n a b) (hnm : n ≤ m) (h' : Agree m b c) : Agree n a c :=
  ⟨fun i hi => (h'.1 i (Nat.lt_of_lt_of_le hi hnm)).trans (h.1 i hi), fun b o hb => h'.2.1 b o (h.2.1 b o hb), h'.2.2.trans h.2.2⟩

mutual
theorem SV.fit_mono {n m : Nat} {ρ ρ' : Rh} (hnm : n ≤ m) (ha : Agree n ρ ρ') : ∀ (s : SV) (x : Value), SV.fit n ρ s x → SV.fit m ρ' s x
  | .k _, _, h => h
  | .v _, _, h => h
  | .p i o, x, h => by simp only [SV.fit] at h ⊢; exact ⟨by omega, by rw [ha.1 i h.1]; exact h.2⟩
  | .pe i sz e o, x, h => by simp only [SV.fit] at h ⊢; exact ⟨by omega, by rw [ha.1 i h.1]; exact h.2⟩
  | .sl i o l c, x, h => by simp only [SV.fit] at h ⊢; exact ⟨by omega, by rw [ha.1 i h.1]; exact h.2⟩
  | .se i sz o l, x, h => by simp only [SV.fit] at h ⊢; exact ⟨by omega, by rw [ha.1 i h.1]; exact h.2⟩
  | .rs sz l el, x, h => by
    simp only [SV.fit] at h ⊢
    obtain ⟨a, c, h1, h2, h3, h4⟩ := h
    refine ⟨a, c, h1, h2, h3, fun hl => ?_⟩
    obtain ⟨b, o, cs, t, fz, k1, k2, k3⟩ := h4 hl
    refine ⟨b, o, cs, t, fz, k1, ha.2.1 _ _ k2, fun e he => ?_⟩
    obtain ⟨vs, q1, q2, q3⟩ := k3 e he
    exact ⟨vs, q1, SV.fits_mono hnm ha (el e) vs q2, q3⟩
  | .pr xs, x, h => by
    simp only [SV.fit] at h ⊢
    obtain ⟨b, o, cs, t, fz, k1, k2, vs, k3, k4⟩ := h
    exact ⟨b, o, cs, t, fz, k1, ha.2.1 _ _ k2, vs, SV.fits_mono hnm ha xs vs k3, k4⟩
  | .ow i l, x, h => by simp only [SV.fit] at h ⊢; exact ⟨by omega, by rw [ha.1 i h.1]; exact h.2⟩
  | .fn f cs, x, h => by
    simp only [SV.fit] at h ⊢
    obtain ⟨l, hx, hl⟩ := h
    exact ⟨l, hx, SV.fits_mono hnm ha cs l hl⟩
  | .yl i, x, h => by simp only [SV.fit] at h ⊢; exact ⟨by omega, by rw [ha.1 i h.1]; exact h.2⟩
  | .mp i, x, h => by simp only [SV.fit] at h ⊢; exact ⟨by omega, by rw [ha.1 i h.1]; exact h.2⟩
  | .agg cs, x, h => by
    simp only [SV.fit] at h ⊢
    obtain ⟨l, hx, hl⟩ := h
    exact ⟨l, hx, SV.fits_mono hnm ha cs l hl⟩
  | .tup cs, x, h => by
    simp only [SV.fit] at h ⊢
    obtain ⟨l, hx, hl⟩ := h
    exact ⟨l, hx, SV.fits_mono hnm ha cs l hl⟩
  | .u, _, _ => by simp only [SV.fit]
theorem SV.fits_mono {n m : Nat} {ρ ρ' : Rh} (hnm : n ≤ m) (ha : Agree n ρ ρ') : ∀ (ss : List SV) (xs : List Value), SV.fits n ρ ss xs → SV.fits m ρ' ss xs
  | [], [], h => h
  | s :: ss, x :: xs, h => by
    simp only [SV.fits] at h ⊢
    exact ⟨SV.fit_mono hnm ha s x h.1, SV.fits_mono hnm ha ss xs h.2⟩
  | [], _ :: _, h => by simp only [SV.fits] at h
  | _ :: _, [], h => by simp only [SV.fits] at h
end

theorem fits_nil {n : Nat} {ρ : Rh} {xs : List Value} (h : SV.fits n ρ [] xs) : xs = [] := by
  cases xs with
  | nil => rfl
  | cons => simp only [SV.fits] at h
theorem fits_cons {n : Nat} {ρ : Rh} {s : SV} {ss : List SV} {xs : List Value} (h : SV.fits n ρ (s :: ss) xs) :
    ∃ x r, xs = x :: r ∧ s.fit n ρ x ∧ SV.fits n ρ ss r := by
  cases xs with
  | nil => simp only [SV.fits] at h
  | cons x r => simp only [SV.fits] at h; exact ⟨x, r, rfl, h⟩
theorem fits_length {n : Nat} {ρ : Rh} : ∀ {ss : List SV} {xs : List Value}, SV.fits n ρ ss xs → ss.length = xs.length
  | [], [], _ => rfl
  | _ :: _, _ :: _, h => by simp only [SV.fits] at h; simp [fits_length h.2]
  | [], _ :: _, h => by simp only [SV.fits] at h
  | _ :: _, [], h => by simp only [SV.fits] at h
theorem fits_get {n : Nat} {ρ : Rh} : ∀ {ss : List SV} {xs : List Value} {j : Nat} {s : SV}, SV.fits n ρ ss xs → ss[j]? = some s → ∃ x, xs[j]? = some x ∧ s.fit n ρ x
  | s0 :: _, x :: _, 0, s, h, hs => by
    simp only [SV.fits] at h
    simp at hs
    exact ⟨x, rfl, hs ▸ h.1⟩
  | _ :: ss, _ :: xs, j + 1, s, h, hs => by
    simp only [SV.fits] at h
    simpa using fits_get (j := j) h.2 (by simpa using hs)
  | [], [], _, _, _, hs => by simp at hs
  | [], _ :: _, _, _, h, _ => by simp only [SV.fits] at h
  | _ :: _, [], _, _, h, _ => by simp only [SV.fits] at h
theorem fits_append {n : Nat} {ρ : Rh} : ∀ {ss ts : List SV} {xs ys : List Value}, SV.fits n ρ ss xs → SV.fits n ρ ts ys → SV.fits n ρ (ss ++ ts) (xs ++ ys)
  | [], _, [], _, _, h => h
  | _ :: _, _, _ :: _, _, h, h' => by
    simp only [SV.fits, List.cons_append] at h ⊢
    exact ⟨h.1, fits_append h.2 h'⟩
  | [], _, _ :: _, _, h, _ => by simp only [SV.fits] at h
  | _ :: _, _, [], _, h, _ => by simp only [SV.fits] at h
theorem fits_take {n : Nat} {ρ : Rh} : ∀ {ss : List SV} {xs : List Value} (j : Nat), SV.fits n ρ ss xs → SV.fits n ρ (ss.take j) (xs.take j)
  | _, _, 0, _ => by simp [SV.fits]
  | [], [], _ + 1, _ => by simp [SV.fits]
  | _ :: _, _ :: _, j + 1, h => by
    simp only [SV.fits, List.take_succ_cons] at h ⊢
    exact ⟨h.1, fits_take j h.2⟩
  | [], _ :: _, _ + 1, h => by simp only [SV.fits] at h
  | _ :: _, [], _ + 1, h => by simp only [SV.fits] at h
theorem fits_drop {n : Nat} {ρ : Rh} : ∀ {ss : List SV} {xs : List Value} (j : Nat), SV.fits n ρ ss xs → SV.fits n ρ (ss.drop j) (xs.drop j)
  | _, _, 0, h => by simpa using h
  | [], [], _ + 1, _ => by simp [SV.fits]
  | _ :: _, _ :: _, j + 1, h => by
    simp only [SV.fits, List.drop_succ_cons] at h ⊢
    exact fits_drop j h.2
  | [], _ :: _, _ + 1, h => by simp only [SV.fits] at h
  | _ :: _, [], _ + 1, h => by simp only [SV.fits] at h
theorem fits_set {n : Nat} {ρ : Rh} {s : SV} {x : Value} (hs : s.fit n ρ x) : ∀ {ss : List SV} {xs : List Value} (j : Nat), SV.fits n ρ ss xs → SV.fits n ρ (ss.set j s) (xs.set j x)
  | [], [], _, _ => by simp [SV.fits]
  | _ :: _, _ :: _, 0, h => by
    simp only [SV.fits, List.set_cons_zero] at h ⊢
    exact ⟨hs, h.2⟩
  | _ :: _, _ :: _, j + 1, h => by
    simp only [SV.fits, List.set_cons_succ] at h ⊢
    exact ⟨h.1, fits_set hs j h.2⟩
  | [], _ :: _, _, h => by simp only [SV.fits] at h
  | _ :: _, [], _, h => by simp only [SV.fits] at h
theorem fits_k {n : Nat} {ρ : Rh} : ∀ (xs : List Value), SV.fits n ρ (xs.map .k) xs
  | [] => by simp [SV.fits]
  | x :: xs => by simp only [List.map_cons, SV.fits, SV.fit]; exact ⟨trivial, fits_k xs⟩
theorem fits_v {n : Nat} {ρ : Rh} : ∀ (xs : List Value), SV.fits n ρ (xs.map .v) xs
  | [] => by simp [SV.fits]
  | x :: xs => by simp only [List.map_cons, SV.fits, SV.fit]; exact ⟨trivial, fits_v xs⟩

/-- The cells of a value. -/
def SV.cells : SV → List SV
  | .agg xs => xs
  | .k (.agg cs) => cs.toList.map .k
  | .v (.agg cs) => cs.toList.map .v
  | s => [s]
/-- A value of which it is known that it takes one cell. -/
def SV.one : SV → Bool
  | .agg _ | .tup _ | .u => false
  | .k x | .v x => x.oneCell'
  | _ => true
def SV.aggy : SV → Bool
  | .agg _ => true
  | .k (.agg _) | .v (.agg _) => true
  | _ => false

theorem SV.one_fit {n : Nat} {ρ : Rh} {s : SV} {x : Value} (h1 : s.one = true) (h : s.fit n ρ x) : x.oneCell' = true := by
  cases s <;> simp_all [SV.one, SV.fit, Value.oneCell']
  case fn => obtain ⟨l, rfl, _⟩ := h; rfl
  case se => obtain ⟨_, a, c, rfl, _⟩ := h; rfl
  case rs => obtain ⟨a, c, rfl, _⟩ := h; rfl
  case pr => obtain ⟨b, o, rfl, _⟩ := h; rfl
  case ow i l => rcases h.2 with ⟨_, _, rfl⟩ | ⟨_, _, rfl⟩ <;> rfl
theorem cells_fits {n : Nat} {ρ : Rh} {s : SV} {x : Value} (h1 : s.one = true ∨ s.aggy = true) (h : s.fit n ρ x) : SV.fits n ρ s.cells x.cells.toList := by
  rcases h1 with h1 | h1
  · have ho := SV.one_fit h1 h
    have hx : x.cells = #[x] := by cases x <;> simp_all [Value.cells, Value.oneCell']
    have hs : s.cells = [s] := by
      cases s <;> simp_all [SV.cells, SV.one]
      all_goals (rename_i y; cases y <;> simp_all [Value.oneCell'])
    rw [hx, hs]
    simp [SV.fits, h]
  · cases s with
    | agg xs =>
      simp only [SV.fit] at h
      obtain ⟨l, rfl, hl⟩ := h
      simpa [SV.cells, Value.cells] using hl
    | k y =>
      cases y <;> simp_all [SV.aggy]
      simp only [SV.fit] at h
      subst h
      simp only [SV.cells, Value.cells]
      exact fits_k _
    | v y =>
      cases y <;> simp_all [SV.aggy]
      simp only [SV.fit] at h
      subst h
      simp only [SV.cells, Value.cells]
      exact fits_v _
    | _ => simp_all [SV.aggy]

/-- What is known of a block: cells (a variable) · elements that are only read · elements of a row that may grow · an object whole. -/
inductive SO where
  | cells (xs : List SV) (t : TypeId)
  | row (t : TypeId) (sz : Nat) (el : Nat → List SV) (m : Nat)
  | obj (o : Obj)
  | loop (st : LoopState) (pd : Option Code) (n : Nat) (t : List (Nat × SV)) (ps : Array Tmp) (asg body : Code) (df : Nat)
  | dead

/-- A log of what is known, newest first, by numbers. -/
def look {α : Type} (d : α) (i : Nat) : List (Nat × α) → α
  | [] => d
  | (j, x) :: r => bif Nat.beq i j then x else look d i r
theorem look_cons {α : Type} (d : α) (i j : Nat) (x : α) (r : List (Nat × α)) : look d i ((j, x) :: r) = if i = j then x else look d i r := by
  simp only [look]
  by_cases h : i = j
  · simp [h]
  · have : Nat.beq i j = false := by
      cases hb : Nat.beq i j
      · rfl
      · exact absurd (Nat.eq_of_beq_eq_true hb) h
    simp [this, h]

theorem look_append {α : Type} (d : α) (i : Nat) : ∀ (a b : List (Nat × α)), look d i (a ++ b) = look (look d i b) i a
  | [], b => rfl
  | (j, x) :: a, b => by
    rw [List.cons_append, look_cons, look_cons, look_append d i a b]

/-- What the slots of an activation hold. -/
def Slots (n : Nat) (ρ : Rh) (k : Nat) (t : List (Nat × SV)) (tm : Array Value) : Prop :=
  tm.size = k ∧ ∀ i, i < k → (look (.k undef) i t).fit n ρ (tm.getD i undef)
theorem Slots.mono {n m : Nat} {ρ ρ' : Rh} (hnm : n ≤ m) (ha : Agree n ρ ρ') {k : Nat} {t : List (Nat × SV)} {tm : Array Value} (h : Slots n ρ k t tm) : Slots m ρ' k t tm :=
  ⟨h.1, fun i hi => SV.fit_mono hnm ha _ _ (h.2 i hi)⟩

/-- Elements, one behind the other, in a row of cells. -/
def Els (n : Nat) (ρ : Rh) (b sz : Nat) (el : Nat → List SV) (m : Nat) (c : Array Value) : Prop :=
  ∀ i, i < m → ∃ l, l.length = sz ∧ SV.fits n ρ (el i) l ∧ ∀ j x, l[j]? = some x → c[b + i * sz + j]? = some x
theorem Els.mono {n m : Nat} {ρ ρ' : Rh} (hnm : n ≤ m) (ha : Agree n ρ ρ') {b sz k : Nat} {el : Nat → List SV} {c : Array Value} (h : Els n ρ b sz el k c) : Els m ρ' b sz el k c :=
  fun i hi => let ⟨l, h1, h2, h3⟩ := h i hi; ⟨l, h1, SV.fits_mono hnm ha _ _ h2, h3⟩

def SO.fit (n : Nat) (ρ : Rh) (L : Lc) : SO → Option Obj → Prop
  | .cells xs t, o => L.nl = false ∧ L.off = 0 ∧ ∃ l, o = some (.cells (List.toArray l) t (0, 0)) ∧ SV.fits n ρ xs l
  | .row t sz el m, o => m ≤ maxLen ∧ ((L.nl = true ∧ m = 0) ∨ (L.nl = false ∧ L.off = 0 ∧ ∃ c, o = some (.cells c t (0, 0)) ∧ c.size = L.cap * sz ∧ m ≤ L.cap ∧ L.cap ≤ maxLen ∧ Els n ρ 0 sz el m c))
  | .obj o', o => L.nl = false ∧ o = some o'
  | .loop st pd k t ps asg body df, o => L.nl = false ∧ df < n ∧ ∃ f tm, o = some (.loop ⟨st, pd, f, tm, ps, asg, body, (ρ df).blk⟩) ∧ Slots n ρ k t tm
  | .dead, _ => True
def SO.live : SO → Bool
  | .dead => false
  | _ => true
/-- May it be written? -/
def SO.own (L : Lc) : SO → Prop
  | .cells .. | .obj _ | .loop .. => True
  | .row .. => L.nl = false
  | _ => False

theorem SO.fit_mono {n m : Nat} {ρ ρ' : Rh} (hnm : n ≤ m) (ha : Agree n ρ ρ') {s : SO} {o : Option Obj} {L : Lc} (h : s.fit n ρ L o) : s.fit m ρ' L o := by
  cases s with
  | cells xs t => obtain ⟨hz, hb, l, hl, hf⟩ := h; exact ⟨hz, hb, l, hl, SV.fits_mono hnm ha _ _ hf⟩
  | row t sz el k =>
    refine ⟨h.1, ?_⟩
    rcases h.2 with h | ⟨h1, h2, c, hc, h3, h4, h5, hall⟩
    · exact .inl h
    · exact .inr ⟨h1, h2, c, hc, h3, h4, h5, hall.mono hnm ha⟩
  | obj o' => exact h
  | loop st pd k t ps asg body df =>
    obtain ⟨h1, h2, f, tm, h3, h4⟩ := h
    exact ⟨h1, by omega, f, tm, by rw [ha.1 df h2]; exact h3, h4.mono hnm ha⟩
  | dead => exact h
/-- What is neither written nor read in memory does not hang on it. -/
theorem SO.fit_none {n : Nat} {ρ : Rh} {L : Lc} {s : SO} {o o' : Option Obj} (h : s.fit n ρ L o) (h1 : ¬ s.own L) : s.fit n ρ L o' := by
  cases s with
  | cells xs t => exact absurd trivial h1
  | row t sz el k =>
    refine ⟨h.1, ?_⟩
    rcases h.2 with h | ⟨h3, _⟩
    · exact .inl h
    · exact absurd h3 h1
  | obj o' => exact absurd trivial h1
  | loop => exact absurd trivial h1
  | dead => trivial
/-- What is written or read in memory is there. -/
theorem SO.fit_some {n : Nat} {ρ : Rh} {L : Lc} {s : SO} {o : Option Obj} (h : s.fit n ρ L o) (h1 : s.own L) : ∃ x, o = some x := by
  cases s with
  | cells xs t => obtain ⟨_, _, l, hl, _⟩ := h; exact ⟨_, hl⟩
  | row t sz el k =>
    rcases h.2 with ⟨h, _⟩ | ⟨_, _, c, hc, _⟩
    · simp [SO.own, h] at h1
    · exact ⟨_, hc⟩
  | obj o' => exact ⟨_, h.2⟩
  | loop => obtain ⟨_, _, f, tm, h3, _⟩ := h; exact ⟨_, h3⟩
  | dead => simp [SO.own] at h1

/-- What becomes known of a block: all of it, one cell. -/
inductive SE where
  | o (s : SO)
  | c (p : Nat) (s : SV)
  | lp (st : LoopState) (pd : Option Code)
def SE.act (x : SE) (d : SO) : SO :=
  match x with
  | .o s => s
  | .c p s => match d with
    | .cells xs t => .cells (xs.set p s) t
    | d => d
  | .lp st pd => match d with
    | .loop _ _ n t ps asg body df => .loop st pd n t ps asg body df
    | d => d
def lookE (d : SO) (i : Nat) : List (Nat × SE) → SO
  | [] => d
  | (j, x) :: r => bif Nat.beq i j then x.act (lookE d i r) else lookE d i r
theorem beq_nat (i j : Nat) : Nat.beq i j = decide (i = j) := by
  by_cases h : i = j
  · subst h; simp
  · simp only [h, decide_false]
    cases hb : Nat.beq i j
    · rfl
    · exact absurd (Nat.eq_of_beq_eq_true hb) h
theorem lookE_cons (d : SO) (i j : Nat) (x : SE) (r : List (Nat × SE)) : lookE d i ((j, x) :: r) = if i = j then x.act (lookE d i r) else lookE d i r := by
  simp only [lookE, beq_nat]
  by_cases h : i = j <;> simp [h]
theorem lookE_append (d : SO) (i : Nat) : ∀ (a b : List (Nat × SE)), lookE d i (a ++ b) = lookE (lookE d i b) i a
  | [], b => rfl
  | (j, x) :: a, b => by rw [List.cons_append, lookE_cons, lookE_cons, lookE_append d i a b]
theorem lookE_not (d : SO) (i : Nat) : ∀ {l : List (Nat × SE)}, i ∉ l.map (·.1) → lookE d i l = d
  | [], _ => rfl
  | (j, x) :: r, h => by
    simp only [List.map_cons, List.mem_cons, not_or] at h
    rw [lookE_cons, if_neg h.1, lookE_not d i h.2]
def whole (l : List (Nat × SO)) : List (Nat × SE) := l.map fun x => (x.1, .o x.2)
theorem lookE_whole (d : SO) (i : Nat) : ∀ (l : List (Nat × SO)), lookE d i (whole l) = look d i l
  | [] => rfl
  | (j, x) :: r => by
    show lookE d i ((j, .o x) :: whole r) = _
    rw [lookE_cons, look_cons, lookE_whole d i r]
    rfl
structure SH where
  nx : Nat
  l : List (Nat × SE)
  b : List (Nat × SE)
def SH.get (h : SH) (i : Nat) : SO := lookE (lookE .dead i h.b) i h.l
def SH.set (h : SH) (i : Nat) (o : SO) : SH := ⟨h.nx, (i, .o o) :: h.l, h.b⟩
def SH.push (h : SH) (o : SO) : SH := ⟨h.nx + 1, (h.nx, .o o) :: h.l, h.b⟩
theorem SH.get_set (h : SH) (i j : Nat) (o : SO) : (h.set i o).get j = if j = i then o else h.get j := lookE_cons _ _ _ _ _
theorem SH.get_push (h : SH) (j : Nat) (o : SO) : (h.push o).get j = if j = h.nx then o else h.get j := lookE_cons _ _ _ _ _
/-- How far a loop has come. -/
def SH.setLp (h : SH) (i : Nat) (st : LoopState) (pd : Option Code) : SH := ⟨h.nx, (i, .lp st pd) :: h.l, h.b⟩
/-- Some cells of a block, one behind the other. -/
def SH.setCs (h : SH) (i : Nat) : Nat → List SV → SH
  | _, [] => h
  | p, s :: r => SH.setCs ⟨h.nx, (i, .c p s) :: h.l, h.b⟩ i (p + 1) r
theorem SH.setCs_nx (i : Nat) : ∀ (ys : List SV) (h : SH) (p : Nat), (h.setCs i p ys).nx = h.nx
  | [], _, _ => rfl
  | _ :: r, h, p => SH.setCs_nx i r _ (p + 1)
theorem SH.setCs_b (i : Nat) : ∀ (ys : List SV) (h : SH) (p : Nat), (h.setCs i p ys).b = h.b
  | [], _, _ => rfl
  | _ :: r, h, p => SH.setCs_b i r _ (p + 1)
theorem SH.setCs_other {i j : Nat} (hne : j ≠ i) : ∀ (ys : List SV) (h : SH) (p : Nat), (h.setCs i p ys).get j = h.get j
  | [], _, _ => rfl
  | s :: r, h, p => by
    simp only [SH.setCs]
    rw [SH.setCs_other hne r]
    show lookE (lookE .dead j h.b) j ((i, .c p s) :: h.l) = _
    rw [lookE_cons, if_neg hne]; rfl
theorem SH.setCs_get {i : Nat} {t : TypeId} : ∀ (ys : List SV) (h : SH) (p : Nat) (xs : List SV), h.get i = .cells xs t → p + ys.length ≤ xs.length → (h.setCs i p ys).get i = .cells (xs.take p ++ ys ++ xs.drop (p + ys.length)) t
  | [], h, p, xs, hg, _ => by simp [SH.setCs, hg]
  | s :: r, h, p, xs, hg, hle => by
    simp only [SH.setCs]
    simp only [List.length_cons] at hle
    have hg' : (⟨h.nx, (i, .c p s) :: h.l, h.b⟩ : SH).get i = .cells (xs.set p s) t := by
      show lookE (lookE .dead i h.b) i ((i, .c p s) :: h.l) = _
      rw [lookE_cons, if_pos rfl]
      have : lookE (lookE .dead i h.b) i h.l = .cells xs t := hg
      rw [this]; rfl
    rw [SH.setCs_get r _ (p + 1) (xs.set p s) hg' (by simp; omega)]
    congr 1
    have h1 : (xs.set p s).take (p + 1) = xs.take p ++ [s] := by
      rw [List.take_add_one]
      have h2 : (xs.set p s).take p = xs.take p := by
        rw [List.take_set_of_le (Nat.le_refl _)]
      rw [h2]
      congr 1
      rw [List.getElem?_set_self (by omega)]; rfl
    have h3 : (xs.set p s).drop (p + 1 + r.length) = xs.drop (p + 1 + r.length) := by
      rw [List.drop_set_of_lt (by omega)]
    rw [h1, h3]
    simp [Nat.add_assoc, Nat.add_comm 1]

/-- What the known blocks say of the machine's memory: 'M': the old blocks that may be written. -/
structure HM (M : Nat → Prop) (w0 : World) (ρ : Rh) (h : SH) (w : World) : Prop where
  os : w.os = w0.os
  tape : w.tape = w0.tape
  output : w.output = w0.output
  size : w0.heap.size ≤ w.heap.size
  block : ∀ i, i < w0.heap.size → ¬ M i → w.heap[i]? = w0.heap[i]?
  lt : ∀ i, (h.get i).live = true → i < h.nx
  ob : ∀ i, (h.get i).fit h.nx ρ (ρ i) w.heap[(ρ i).blk]?
  ow : ∀ i, (h.get i).own (ρ i) → w0.heap.size ≤ (ρ i).blk ∨ M (ρ i).blk
  fz : ∀ b o, ρ.mem b = some o → w.heap[b]? = some o
  sep : ∀ i, (h.get i).own (ρ i) → ρ.mem (ρ i).blk = none
  old : ∀ b o, ρ.mem b = some o → b < w0.heap.size → ¬ M b → ρ.lo b = some o
  inj : ∀ i j, (h.get i).own (ρ i) → (h.get j).own (ρ j) → (ρ i).blk = (ρ j).blk → i = j

theorem SO.live_of {s : SO} {L : Lc} (h : s.own L) : s.live = true := by cases s <;> simp_all [SO.own, SO.live]

section
variable {M : Nat → Prop} {w0 w w' : World} {ρ : Rh} {h : SH}
theorem HM.lt_heap (hm : HM M w0 ρ h w) {i : Nat} (hl : (h.get i).own (ρ i)) : (ρ i).blk < w.heap.size := by
  obtain ⟨o, ho⟩ := SO.fit_some (hm.ob i) hl
  exact (Array.getElem?_eq_some_iff.1 ho).1
theorem HM.lt_mem (hm : HM M w0 ρ h w) {b : Nat} {o : Obj} (hl : ρ.mem b = some o) : b < w.heap.size :=
  (Array.getElem?_eq_some_iff.1 (hm.fz b o hl)).1
theorem HM.ne_own (hm : HM M w0 ρ h w) {i j : Nat} (hi : (h.get i).own (ρ i)) (hj : (h.get j).own (ρ j)) (hne : j ≠ i) : (ρ j).blk ≠ (ρ i).blk :=
  fun he => hne (hm.inj j i hj hi he)
theorem HM.ne_mem (hm : HM M w0 ρ h w) {i b : Nat} {o : Obj} (hi : (h.get i).own (ρ i)) (hb : ρ.mem b = some o) : b ≠ (ρ i).blk := by
  rintro rfl
  rw [hm.sep i hi] at hb
  cases hb
open Classical in
theorem HM.ob_other (hm : HM M w0 ρ h w) {j : Nat} (hs : (h.get j).own (ρ j) → w'.heap[(ρ j).blk]? = w.heap[(ρ j).blk]?) : (h.get j).fit h.nx ρ (ρ j) w'.heap[(ρ j).blk]? := by
  by_cases hc : (h.get j).own (ρ j)
  · rw [hs hc]; exact hm.ob j
  · exact SO.fit_none (hm.ob j) hc

/-- A change of one owned block. -/
theorem HM.setOwn (hm : HM M w0 ρ h w) {i : Nat} {so : SO} {o : Obj} (hown : (h.get i).own (ρ i)) (hso : so.own (ρ i))
    (hos : w'.os = w.os) (htape : w'.tape = w.tape) (hout : w'.output = w.output) (hsz : w'.heap.size = w.heap.size)
    (hsame : ∀ j, j ≠ (ρ i).blk → w'.heap[j]? = w.heap[j]?) (hnew : w'.heap[(ρ i).blk]? = some o) (hfit : so.fit h.nx ρ (ρ i) (some o)) : HM M w0 ρ (h.set i so) w' where
  os := hos.trans hm.os
  tape := htape.trans hm.tape
  output := hout.trans hm.output
  size := by rw [hsz]; exact hm.size
  block j hj hM := by
    have hne : j ≠ (ρ i).blk := by
      rintro rfl
      rcases hm.ow i hown with h1 | h1
      · omega
      · exact hM h1
    rw [hsame j hne]; exact hm.block j hj hM
  lt j hl := by
    rw [SH.get_set] at hl
    by_cases hji : j = i
    · subst hji; exact hm.lt j (SO.live_of hown)
    · rw [if_neg hji] at hl; exact hm.lt j hl
  ob j := by
    rw [SH.get_set]
    by_cases hji : j = i
    · subst hji; rw [if_pos rfl, hnew]; exact hfit
    · rw [if_neg hji]
      exact hm.ob_other fun hj => hsame _ (hm.ne_own hown hj hji)
  ow j hj := by
    rw [SH.get_set] at hj
    by_cases hji : j = i
    · subst hji; exact hm.ow j hown
    · rw [if_neg hji] at hj; exact hm.ow j hj
  fz b o hb := by rw [hsame b (hm.ne_mem hown hb)]; exact hm.fz b o hb
  sep j hj := by
    rw [SH.get_set] at hj
    by_cases hji : j = i
    · subst hji; exact hm.sep j hown
    · rw [if_neg hji] at hj; exact hm.sep j hj
  old := hm.old
  inj j k hj hk he := by
    rw [SH.get_set] at hj hk
    by_cases hji : j = i <;> by_cases hki : k = i
    · rw [hji, hki]
    · subst hji; rw [if_neg hki] at hk; exact hm.inj j k hown hk he
    · subst hki; rw [if_neg hji] at hj; exact hm.inj j k hj hown he
    · rw [if_neg hji] at hj; rw [if_neg hki] at hk; exact hm.inj j k hj hk he

/-- One forgets what is known of a block. -/
theorem HM.forget (hm : HM M w0 ρ h w) (i : Nat) : HM M w0 ρ (h.set i .dead) w where
  os := hm.os
  tape := hm.tape
  output := hm.output
  size := hm.size
  block := hm.block
  lt j hl := by
    rw [SH.get_set] at hl
    by_cases hji : j = i
    · rw [if_pos hji] at hl; cases hl
    · rw [if_neg hji] at hl; exact hm.lt j hl
  ob j := by
    rw [SH.get_set]
    by_cases hji : j = i
    · rw [if_pos hji]; trivial
    · rw [if_neg hji]; exact hm.ob j
  ow j hj := by
    rw [SH.get_set] at hj
    by_cases hji : j = i
    · rw [if_pos hji] at hj; exact hj.elim
    · rw [if_neg hji] at hj; exact hm.ow j hj
  fz := hm.fz
  sep j hj := by
    rw [SH.get_set] at hj
    by_cases hji : j = i
    · rw [if_pos hji] at hj; exact hj.elim
    · rw [if_neg hji] at hj; exact hm.sep j hj
  old := hm.old
  inj j k hj hk he := by
    rw [SH.get_set] at hj hk
    by_cases hji : j = i
    · rw [if_pos hji] at hj; exact hj.elim
    · by_cases hki : k = i
      · rw [if_pos hki] at hk; exact hk.elim
      · rw [if_neg hji] at hj; rw [if_neg hki] at hk; exact hm.inj j k hj hk he

def upd (ρ : Rh) (i : Nat) (L : Lc) : Rh := ⟨fun j => if j = i then L else ρ j, ρ.mem, ρ.lo⟩
theorem agree_upd (ρ : Rh) (n : Nat) (L : Lc) : Agree n ρ (upd ρ n L) := ⟨fun i hi => by simp [upd]; omega, fun _ _ h => h, rfl⟩

/-- Something new is known: what it is owns, if it owns, a block that nothing known owns or reads. -/
theorem HM.learn (hm : HM M w0 ρ h w) {so : SO} {L : Lc} (hfit : so.fit h.nx ρ L w.heap[L.blk]?) (hown : so.own L → (w0.heap.size ≤ L.blk ∨ M L.blk) ∧ ρ.mem L.blk = none ∧ ∀ j, (h.get j).own (ρ j) → (ρ j).blk ≠ L.blk) : HM M w0 (upd ρ h.nx L) (h.push so) w where
  os := hm.os
  tape := hm.tape
  output := hm.output
  size := hm.size
  block := hm.block
  lt j hl := by
    rw [SH.get_push] at hl
    by_cases hj : j = h.nx
    · simp [SH.push, hj]
    · rw [if_neg hj] at hl; have := hm.lt j hl; simp [SH.push]; omega
  ob j := by
    rw [SH.get_push]
    by_cases hj : j = h.nx
    · subst hj
      simp only [if_pos, upd]
      exact SO.fit_mono (Nat.le_succ _) (agree_upd _ _ _) hfit
    · have hu : upd ρ h.nx L j = ρ j := by simp only [upd, if_neg hj]
      rw [if_neg hj, hu]
      exact SO.fit_mono (Nat.le_succ _) (agree_upd _ _ _) (hm.ob j)
  ow j hj := by
    rw [SH.get_push] at hj
    by_cases hjn : j = h.nx
    · subst hjn; simp only [if_pos, upd] at hj ⊢; exact (hown hj).1
    · have hu : upd ρ h.nx L j = ρ j := by simp only [upd, if_neg hjn]
      rw [if_neg hjn, hu] at hj; rw [hu]; exact hm.ow j hj
  fz := hm.fz
  sep j hj := by
    rw [SH.get_push] at hj
    by_cases hjn : j = h.nx
    · subst hjn; simp only [if_pos, upd] at hj ⊢; exact (hown hj).2.1
    · have hu : upd ρ h.nx L j = ρ j := by simp only [upd, if_neg hjn]
      rw [if_neg hjn, hu] at hj; rw [hu]; exact hm.sep j hj
  old := hm.old
  inj j k hj hk he := by
    rw [SH.get_push] at hj hk
    by_cases hjn : j = h.nx <;> by_cases hkn : k = h.nx
    · rw [hjn, hkn]
    · subst hjn
      have hu : upd ρ h.nx L k = ρ k := by simp only [upd, if_neg hkn]
      rw [if_neg hkn, hu] at hk
      simp only [if_pos, upd] at hj
      rw [hu] at he
      simp only [upd, if_pos] at he
      exact absurd he.symm ((hown hj).2.2 k hk)
    · subst hkn
      have hu : upd ρ h.nx L j = ρ j := by simp only [upd, if_neg hjn]
      rw [if_neg hjn, hu] at hj
      simp only [if_pos, upd] at hk
      rw [hu] at he
      simp only [upd, if_pos] at he
      exact absurd he ((hown hk).2.2 j hj)
    · have hu : upd ρ h.nx L j = ρ j := by simp only [upd, if_neg hjn]
      have hv : upd ρ h.nx L k = ρ k := by simp only [upd, if_neg hkn]
      rw [if_neg hjn, hu] at hj; rw [if_neg hkn, hv] at hk; rw [hu, hv] at he
      exact hm.inj j k hj hk he

/-- What a callee leaves that changes nothing old; a new block; a draw. -/
theorem HM.below (hm : HM M w0 ρ h w) (hb : Below w.heap.size w w') : HM M w0 ρ h w' where
  os := hb.os.trans hm.os
  tape := hb.tape.trans hm.tape
  output := hb.output.trans hm.output
  size := Nat.le_trans hm.size hb.size
  block i hi hM := by rw [hb.block i (by have := hm.size; omega)]; exact hm.block i hi hM
  lt := hm.lt
  ob i := hm.ob_other fun hj => hb.block _ (hm.lt_heap hj)
  ow := hm.ow
  fz b o ho := by rw [hb.block b (hm.lt_mem ho)]; exact hm.fz b o ho
  sep := hm.sep
  old := hm.old
  inj := hm.inj
theorem HM.fresh (hm : HM M w0 ρ h w) {b : Nat} (hb : w.heap.size ≤ b) : ρ.mem b = none := by
  cases hc : ρ.mem b with
  | none => rfl
  | some o => have := hm.lt_mem hc; omega

/-- A new block. -/
theorem HM.push (hm : HM M w0 ρ h w) {so : SO} {o : Obj} {c : Nat} (hfit : so.fit h.nx ρ ⟨w.heap.size, 0, c, false⟩ (some o)) :
    HM M w0 (upd ρ h.nx ⟨w.heap.size, 0, c, false⟩) (h.push so) (w.alloc o) := by
  have h1 := hm.below ((Below.refl _ w).alloc (Nat.le_refl _) o)
  refine h1.learn (by rw [show (w.alloc o).heap[w.heap.size]? = some o from heap_alloc_new w o]; exact hfit) (fun _ => ⟨.inl hm.size, hm.fresh (Nat.le_refl _), fun j hj => ?_⟩)
  have := hm.lt_heap hj
  simp only
  omega

/-- A row that may have been moved: what was known of it is forgotten, the new one is known. -/
theorem HM.move (hm : HM M w0 ρ h w) {i : Nat} {row : Option Nat} (hg : w.grownBy w' row) (hrow : ∀ b, row = some b → (h.get i).own (ρ i) ∧ b = (ρ i).blk) {so : SO} {L : Lc}
    (hfit : so.fit h.nx ρ L w'.heap[L.blk]?) (hown : so.own L → w.heap.size ≤ L.blk ∨ ((h.get i).own (ρ i) ∧ L.blk = (ρ i).blk)) :
    HM M w0 (upd ρ h.nx L) ((h.set i .dead).push so) w' := by
  have h0 := hm.forget i
  have h1 : HM M w0 ρ (h.set i .dead) w' := {
    os := hg.os.trans hm.os
    tape := hg.tape.trans hm.tape
    output := hg.output.trans hm.output
    size := Nat.le_trans hm.size hg.size
    block := fun k hk hM => by
      rw [hg.block k (by have := hm.size; omega) (fun e => by
        obtain ⟨ho, hb⟩ := hrow k e.symm
        rcases hm.ow i ho with h3 | h3
        · omega
        · exact hM (hb ▸ h3))]
      exact hm.block k hk hM
    lt := h0.lt
    ob := fun j => h0.ob_other fun hj => hg.block _ (h0.lt_heap hj) (fun e => by
      obtain ⟨ho, hb⟩ := hrow _ e.symm
      rw [SH.get_set] at hj
      by_cases hji : j = i
      · rw [if_pos hji] at hj; exact hj
      · rw [if_neg hji] at hj; exact hm.ne_own ho hj hji hb)
    ow := h0.ow
    fz := fun b o hb => by
      rw [hg.block b (hm.lt_mem hb) (fun e => ?_)]
      · exact hm.fz b o hb
      · obtain ⟨ho, hb2⟩ := hrow _ e.symm
        exact hm.ne_mem ho hb hb2
    sep := h0.sep
    old := hm.old
    inj := h0.inj }
  refine h1.learn hfit (fun ho => ?_)
  rcases hown ho with h2 | ⟨h2, h3⟩
  · refine ⟨.inl (by have := hm.size; omega), hm.fresh h2, fun j hj => ?_⟩
    have := h0.lt_heap hj
    omega
  · refine ⟨by rw [h3]; exact hm.ow i h2, by rw [h3]; exact hm.sep i h2, fun j hj => ?_⟩
    rw [h3]
    rw [SH.get_set] at hj
    by_cases hji : j = i
    · rw [if_pos hji] at hj; exact hj.elim
    · rw [if_neg hji] at hj; exact hm.ne_own h2 hj hji

/-- What is known whole and is never to be written again. -/
def Rh.frz (ρ : Rh) (b : Nat) (o : Obj) : Rh := ⟨ρ.lc, fun c => if c = b then some o else ρ.mem c, ρ.lo⟩
theorem agree_frz {n : Nat} (ρ : Rh) {b : Nat} {o : Obj} (hb : ρ.mem b = none) : Agree n ρ (ρ.frz b o) := ⟨fun _ _ => rfl, fun c o' hc => by
  simp only [Rh.frz]
  rw [if_neg (by rintro rfl; rw [hb] at hc; cases hc)]
  exact hc, rfl⟩
theorem HM.freeze (hm : HM M w0 ρ h w) {i : Nat} (hown : (h.get i).own (ρ i)) {o : Obj} (ho : w.heap[(ρ i).blk]? = some o) : HM M w0 (ρ.frz (ρ i).blk o) (h.set i .dead) w := by
  have h0 := hm.forget i
  have hag : Agree h.nx ρ (ρ.frz (ρ i).blk o) := agree_frz ρ (hm.sep i hown)
  exact {
    os := hm.os
    tape := hm.tape
    output := hm.output
    size := hm.size
    block := hm.block
    lt := h0.lt
    ob := fun j => SO.fit_mono (Nat.le_refl _) hag (h0.ob j)
    ow := h0.ow
    fz := fun b o' hb => by
      simp only [Rh.frz] at hb
      by_cases hbi : b = (ρ i).blk
      · rw [if_pos hbi] at hb; cases hb; rw [hbi]; exact ho
      · rw [if_neg hbi] at hb; exact hm.fz b o' hb
    sep := fun j hj => by
      have hj' : ((h.set i .dead).get j).own (ρ j) := hj
      show (if (ρ j).blk = (ρ i).blk then some o else ρ.mem (ρ j).blk) = none
      have h1 := h0.sep j hj'
      rw [SH.get_set] at hj'
      by_cases hji : j = i
      · rw [if_pos hji] at hj'; exact hj'.elim
      · rw [if_neg hji] at hj'
        rw [if_neg (hm.ne_own hown hj' hji)]
        exact h1
    old := fun b o' hb hlt hM => by
      simp only [Rh.frz] at hb
      by_cases hbi : b = (ρ i).blk
      · rcases hm.ow i hown with h1 | h1
        · omega
        · exact absurd (hbi ▸ h1) hM
      · rw [if_neg hbi] at hb; exact hm.old b o' hb hlt hM
    inj := h0.inj }

/-- Less known of the memory. -/
theorem HM.weaken {h' : SH} (hm : HM M w0 ρ h w) (hn : h.nx ≤ h'.nx) (hg : ∀ i, h'.get i = .dead ∨ ((h.get i).live = true ∧ ((h'.get i).own (ρ i) → (h.get i).own (ρ i)) ∧ ∀ o, (h.get i).fit h.nx ρ (ρ i) o → (h'.get i).fit h'.nx ρ (ρ i) o)) : HM M w0 ρ h' w where
  os := hm.os
  tape := hm.tape
  output := hm.output
  size := hm.size
  block := hm.block
  lt i hl := by
    rcases hg i with h1 | ⟨h1, _, _⟩
    · rw [h1] at hl; cases hl
    · exact Nat.lt_of_lt_of_le (hm.lt i h1) hn
  ob i := by
    rcases hg i with h1 | ⟨_, _, h3⟩
    · rw [h1]; trivial
    · exact h3 _ (hm.ob i)
  ow i ho := by
    rcases hg i with h1 | ⟨_, h2, _⟩
    · rw [h1] at ho; exact ho.elim
    · exact hm.ow i (h2 ho)
  fz := hm.fz
  sep i ho := by
    rcases hg i with h1 | ⟨_, h2, _⟩
    · rw [h1] at ho; exact ho.elim
    · exact hm.sep i (h2 ho)
  old := hm.old
  inj i j hi hj he := by
    rcases hg i with h1 | ⟨_, h2, _⟩
    · rw [h1] at hi; exact hi.elim
    · rcases hg j with k1 | ⟨_, k2, _⟩
      · rw [k1] at hj; exact hj.elim
      · exact hm.inj i j (h2 hi) (k2 hj) he

theorem HM.same {h' : SH} (hm : HM M w0 ρ h w) (hn : h'.nx = h.nx) (hg : ∀ i, h'.get i = h.get i) : HM M w0 ρ h' w :=
  hm.weaken (by omega) fun i => by
    rw [hg i, hn]
    by_cases hd : h.get i = .dead
    · exact .inl hd
    · exact .inr ⟨by cases hh : h.get i <;> simp_all [SO.live], fun h => h, fun _ h => h⟩
theorem HM.setCs (hm : HM M w0 ρ h w) {i p : Nat} {xs ys : List SV} {t : TypeId} (hg : h.get i = .cells xs t) (hle : p + ys.length ≤ xs.length) {w' : World}
    (h' : HM M w0 ρ (h.set i (.cells (xs.take p ++ ys ++ xs.drop (p + ys.length)) t)) w') : HM M w0 ρ (h.setCs i p ys) w' :=
  h'.same (SH.setCs_nx _ _ _ _) fun j => by
    rw [SH.get_set]
    by_cases hji : j = i
    · subst hji; rw [if_pos rfl, SH.setCs_get _ _ _ _ hg hle]
    · rw [if_neg hji, SH.setCs_other hji]
theorem HM.start (w : World) (ρ : Rh) (hmem : ∀ b o, ρ.mem b = some o → w.heap[b]? = some o) (hlo : ∀ b o, ρ.mem b = some o → ρ.lo b = some o) : HM (fun _ => False) w ρ ⟨0, [], []⟩ w where
  os := rfl
  tape := rfl
  output := rfl
  size := Nat.le_refl _
  block _ _ _ := rfl
  lt i h := by simp [SH.get, lookE, SO.live] at h
  ob i := by simp [SH.get, lookE, SO.fit]
  ow i h := by simp [SH.get, lookE, SO.own] at h
  fz := hmem
  sep i h := by simp [SH.get, lookE, SO.own] at h
  old b o hb _ _ := hlo b o hb
  inj i j h := by simp [SH.get, lookE, SO.own] at h
theorem HM.toBelow (hm : HM (fun _ => False) w0 ρ h w) : Below w0.heap.size w0 w :=
  ⟨hm.os, hm.tape, hm.output, hm.size, fun i hi => hm.block i hi (fun h => h)⟩
end

/-- The state of an activation: its slots, the blocks known, the marks among its deferred calls. -/
structure St where
  n : Nat
  t : List (Nat × SV)
  h : SH
  d : List Nat
  b : List (Nat × SV)
def St.slot (σ : St) (i : Nat) : SV := look (look (.k undef) i σ.b) i σ.t
/-- All that is known of the slots. -/
def St.lg (σ : St) : List (Nat × SV) := σ.t ++ σ.b
theorem St.look_lg (σ : St) (i : Nat) : look (.k undef) i σ.lg = σ.slot i := look_append _ _ _ _
def St.put (σ : St) (d : Option Nat) (s : SV) (h : SH) : St :=
  match d with
  | some d => ⟨σ.n, (d, s) :: σ.t, h, σ.d, σ.b⟩
  | none => ⟨σ.n, σ.t, h, σ.d, σ.b⟩
def St.ev (σ : St) : Operand → SV
  | .tmp t => bif Nat.blt t σ.n then σ.slot t else .k undef
  | .const v => .k v
  | .global g => .v (.pointer (some ⟨g, 0, none⟩))
  | .func f => .fn f []

def markOf (ρ : Rh) (i : Nat) : Deferred := { target := .collected (ρ i).blk, args := #[] }
structure Mod (M : Nat → Prop) (w0 : World) (ρ : Rh) (σ : St) (a : Act) (w : World) : Prop where
  tm : Slots σ.h.nx ρ σ.n σ.lg a.tmps
  df : a.defers = σ.d.map (markOf ρ)
  dl : ∀ i ∈ σ.d, i < σ.h.nx
  hp : HM M w0 ρ σ.h w

theorem slots_ev {n k : Nat} {ρ : Rh} {t : List (Nat × SV)} {tm : Array Value} (h : Slots n ρ k t tm) (i : Nat) : SV.fit n ρ (bif Nat.blt i k then look (.k undef) i t else .k undef) (tm.getD i undef) := by
  cases hb : Nat.blt i k with
  | true =>
    have : i < k := by simpa [Nat.blt_eq] using hb
    simpa using h.2 i this
  | false =>
    have : ¬ i < k := by
      intro h
      have : Nat.blt i k = true := by simpa [Nat.blt_eq] using h
      rw [this] at hb; cases hb
    have hsz := h.1
    simp only [cond_false, SV.fit, Array.getD]
    rw [dif_neg (fun hlt => this (hsz ▸ hlt))]
theorem Mod.ev {M : Nat → Prop} {w0 w : World} {ρ : Rh} {σ : St} {a : Act} (hm : Mod M w0 ρ σ a w) (o : Operand) : (σ.ev o).fit σ.h.nx ρ (a.eval o) := by
  cases o with
  | tmp t =>
    have := slots_ev hm.tm t
    rw [St.look_lg] at this
    exact this
  | const v => simp [St.ev, Act.eval, SV.fit]
  | global g => simp [St.ev, Act.eval, SV.fit]
  | func f => simp [St.ev, Act.eval, SV.fit, SV.fits]

theorem put_size (a : Act) (d : Option Nat) (x : Value) : (a.put d x).tmps.size = a.tmps.size := by cases d <;> simp [Act.put]
theorem put_defers (a : Act) (d : Option Nat) (x : Value) : (a.put d x).defers = a.defers := by cases d <;> simp [Act.put]

theorem slots_put {n k : Nat} {ρ : Rh} {t : List (Nat × SV)} {tm : Array Value} (h : Slots n ρ k t tm) {s : SV} {x : Value} (hs : s.fit n ρ x) (d : Nat) : Slots n ρ k ((d, s) :: t) (tm.setIfInBounds d x) := by
  refine ⟨by simpa using h.1, fun i hi => ?_⟩
  rw [look_cons]
  by_cases hid : i = d
  · subst hid
    have : i < tm.size := by rw [h.1]; exact hi
    rw [if_pos rfl]
    simp only [Array.getD_eq_getD_getElem?, Array.getElem?_setIfInBounds, this, if_true, Option.getD_some]
    exact hs
  · rw [if_neg hid]
    have : (tm.setIfInBounds d x).getD i undef = tm.getD i undef := by
      simp only [Array.getD_eq_getD_getElem?, Array.getElem?_setIfInBounds]
      rw [if_neg (fun e => hid e.symm)]
    rw [this]
    exact h.2 i hi

theorem marks_agree {n : Nat} {ρ ρ' : Rh} (ha : Agree n ρ ρ') : ∀ (d : List Nat), (∀ i ∈ d, i < n) → d.map (markOf ρ') = d.map (markOf ρ)
  | [], _ => rfl
  | i :: d, h => by
    simp only [List.map_cons]
    rw [marks_agree ha d (fun j hj => h j (List.mem_cons_of_mem _ hj))]
    congr 1
    simp only [markOf]
    rw [ha.1 i (h i (List.mem_cons_self ..))]

theorem Mod.put {M : Nat → Prop} {w0 w w' : World} {ρ ρ' : Rh} {σ : St} {h' : SH} {a : Act} (hm : Mod M w0 ρ σ a w) (hn : σ.h.nx ≤ h'.nx) (ha : Agree σ.h.nx ρ ρ') (hh : HM M w0 ρ' h' w') {s : SV} {x : Value}
    (hs : s.fit h'.nx ρ' x) (d : Option Nat) : Mod M w0 ρ' (σ.put d s h') (a.put d x) w' := by
  have hdf : a.defers = σ.d.map (markOf ρ') := by rw [marks_agree ha σ.d hm.dl]; exact hm.df
  cases d with
  | none => exact ⟨hm.tm.mono hn ha, hdf, fun i hi => Nat.lt_of_lt_of_le (hm.dl i hi) hn, hh⟩
  | some d => exact ⟨slots_put (hm.tm.mono hn ha) hs d, hdf, fun i hi => Nat.lt_of_lt_of_le (hm.dl i hi) hn, hh⟩

/-- Trees of outcomes. -/
inductive Tr (α : Type) where
  | ret (x : α)
  | br (c : Bool) (a b : Tr α)
  | ask (p : Prop) (a : Tr α)
  | giv (p : Prop) (a : Tr α)
  | all (k : Nat → Tr α)
  | bad (why : Nat)
def Tr.Holds {α : Type} (K : α → Prop) : Tr α → Prop
  | .ret x => K x
  | .br c a b => (c = true → a.Holds K) ∧ (c = false → b.Holds K)
  | .ask p a => p ∧ a.Holds K
  | .giv p a => p → a.Holds K
  | .all k => ∀ n, (k n).Holds K
  | .bad _ => False
def Tr.bind {α β : Type} (t : Tr α) (f : α → Tr β) : Tr β :=
  match t with
  | .ret x => f x
  | .br c a b => .br c (a.bind f) (b.bind f)
  | .ask p a => .ask p (a.bind f)
  | .giv p a => .giv p (a.bind f)
  | .all k => .all fun n => (k n).bind f
  | .bad w => .bad w
theorem Tr.holds_bind {α β : Type} {K : β → Prop} {f : α → Tr β} : ∀ {t : Tr α}, (t.bind f).Holds K → t.Holds fun x => (f x).Holds K
  | .ret _, h => h
  | .br _ _ _, h => ⟨fun hc => holds_bind (h.1 hc), fun hc => holds_bind (h.2 hc)⟩
  | .ask _ _, h => ⟨h.1, holds_bind h.2⟩
  | .giv _ _, h => fun hp => holds_bind (h hp)
  | .all _, h => fun n => holds_bind (h n)
  | .bad _, h => h
theorem Tr.bind_holds {α β : Type} {K : β → Prop} {f : α → Tr β} : ∀ {t : Tr α}, (t.Holds fun x => (f x).Holds K) → (t.bind f).Holds K
  | .ret _, h => h
  | .br _ _ _, h => ⟨fun hc => bind_holds (h.1 hc), fun hc => bind_holds (h.2 hc)⟩
  | .ask _ _, h => ⟨h.1, bind_holds h.2⟩
  | .giv _ _, h => fun hp => bind_holds (h hp)
  | .all _, h => fun n => bind_holds (h n)
  | .bad _, h => h
theorem Tr.mono {α : Type} {K K' : α → Prop} (hk : ∀ x, K x → K' x) : ∀ {t : Tr α}, t.Holds K → t.Holds K'
  | .ret _, h => hk _ h
  | .br _ _ _, h => ⟨fun hc => mono hk (h.1 hc), fun hc => mono hk (h.2 hc)⟩
  | .ask _ _, h => ⟨h.1, mono hk h.2⟩
  | .giv _ _, h => fun hp => mono hk (h hp)
  | .all _, h => fun n => mono hk (h n)
  | .bad _, h => h
/-- Where a tree holds, it has an outcome that does. (The facts that are 'given' along the way must be had.) -/
def Tr.outs {α : Type} (x : α) : Tr α → Prop
  | .ret y => y = x
  | .br c a b => (c = true ∧ a.outs x) ∨ (c = false ∧ b.outs x)
  | .ask _ a => a.outs x
  | .giv p a => p ∧ a.outs x
  | .all k => ∃ n, (k n).outs x
  | .bad _ => False
theorem Tr.out_holds {α : Type} {K : α → Prop} {x : α} : ∀ {t : Tr α}, t.Holds K → t.outs x → K x
  | .ret _, h, e => e ▸ h
  | .br _ _ _, h, e => e.elim (fun e => out_holds (h.1 e.1) e.2) (fun e => out_holds (h.2 e.1) e.2)
  | .ask _ _, h, e => out_holds h.2 e
  | .giv _ _, h, e => out_holds (h e.1) e.2
  | .all _, h, ⟨n, e⟩ => out_holds (h n) e
  | .bad _, h, _ => h.elim
end Go.Sx
