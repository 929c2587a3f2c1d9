/- Chapter 2: the law SummLeast answers true. -/
import Derived.Test.YtapmlfklkfgmoaaZG09P8
import Derived.Test.YtapmlfklkfgmoaaZG04P8
import Derived.ProofKit
import Derived.OpenShut
import Derived.ShutString
import Derived.ChangeOld
import Derived.Below
import Derived.Deep.Slices
import Derived.Test.YtapmlfklkfgmoaaZG06P8
set_option linter.unusedVariables false
set_option linter.unusedSimpArgs false
set_option linter.constructorNameAsVariable false
set_option linter.all false

namespace Go.Lp
theorem filter_lt {α : Type} {p q : α → Bool} (hpq : ∀ x, p x = true → q x = true) : ∀ {l : List α} {z : α}, z ∈ l → q z = true → p z = false → (l.filter p).length < (l.filter q).length
  | x :: l, z, hz, h1, h2 => by
    have hle : ∀ l : List α, (l.filter p).length ≤ (l.filter q).length := fun l => by
      induction l with
      | nil => simp
      | cons y l ih =>
        rw [List.filter_cons, List.filter_cons]
        cases hp : p y with
        | true => rw [hpq y hp]; simp; exact ih
        | false => cases q y <;> simp <;> omega
    rw [List.filter_cons, List.filter_cons]
    rcases List.mem_cons.1 hz with rfl | hz
    · rw [h1, h2]
      have := hle l
      simp; omega
    · have ih := filter_lt hpq hz h1 h2
      cases hp : p x with
      | true => rw [hpq x hp]; simp; exact ih
      | false => cases q x <;> simp <;> omega
/-- Below each one of a list stands one than which none is less. -/
theorem least_below {α : Type} (R : α → α → Bool) (hi : ∀ x, R x x = false) (ht : ∀ x y z, R x y = true → R y z = true → R x z = true) (l : List α) : ∀ (n : Nat) (y : α), y ∈ l → (l.filter (R · y)).length ≤ n → ∃ m ∈ l, (∀ z ∈ l, R z m = false) ∧ (m = y ∨ R m y = true) := by
  intro n
  induction n with
  | zero =>
    intro y hy hn
    refine ⟨y, hy, fun z hz => ?_, .inl rfl⟩
    cases h : R z y with
    | false => rfl
    | true =>
      have : z ∈ l.filter (R · y) := List.mem_filter.2 ⟨hz, h⟩
      rw [List.length_eq_zero_iff.1 (Nat.le_zero.1 hn)] at this
      cases this
  | succ n ih =>
    intro y hy hn
    by_cases h : ∃ z ∈ l, R z y = true
    · obtain ⟨z, hz, hzy⟩ := h
      have := filter_lt (p := (R · z)) (q := (R · y)) (fun x hx => ht x z y hx hzy) hz hzy (hi z)
      obtain ⟨m, h1, h2, h3⟩ := ih z hz (by omega)
      refine ⟨m, h1, h2, .inr ?_⟩
      rcases h3 with rfl | h3
      · exact hzy
      · exact ht _ _ _ h3 hzy
    · refine ⟨y, hy, fun z hz => ?_, .inl rfl⟩
      cases h5 : R z y with
      | false => rfl
      | true => exact absurd ⟨z, hz, h5⟩ h
end Go.Lp
namespace Go.Proofs.Ytapmlfklkfgmoaa
open Go.RowKit Go.Sx Go.Lp
theorem less_irrefl (x : S) : less_F x x = false := by rw [eqS_less]; simp [eqS]
theorem less_iff (x y : S) : less_F x y = true ↔ x ≠ y ∧ leqC x y = true ∧ (leqC y x = false ∨ cS x y < 0) := by
  rw [eqS_less]
  simp [eqS]
theorem less_trans (x y z : S) (h1 : less_F x y = true) (h2 : less_F y z = true) : less_F x z = true := by
  rw [less_iff] at *
  obtain ⟨a1, a2, a3⟩ := h1
  obtain ⟨b1, b2, b3⟩ := h2
  have hxz := leq_trans a2 b2
  by_cases hzx : leqC z x = true
  · have hyx := leq_trans b2 hzx
    have hzy := leq_trans hzx a2
    have c1 : cS x y < 0 := a3.resolve_left (by rw [hyx]; simp)
    have c2 : cS y z < 0 := b3.resolve_left (by rw [hzy]; simp)
    have c3 : cS x z < 0 := toS.trans c1 c2
    refine ⟨fun h => ?_, hxz, .inr c3⟩
    subst h
    exact toS.irrefl x c3
  · have hzx : leqC z x = false := by simpa using hzx
    refine ⟨fun h => ?_, hxz, .inl hzx⟩
    subst h
    rw [hxz] at hzx; cases hzx
theorem leastS_below {xs : List S} (h : (leastS xs).2 = 0) : ∀ y ∈ xs, noL (leastS xs).1 y = false := by
  intro y hy
  have h1 : xs.any mayN = false := by
    cases h1 : xs.any mayN with
    | false => rfl
    | true => unfold leastS at h; rw [h1] at h; cases h
  have h2 : xs.any (badS xs) = false := by
    cases h2 : xs.any (badS xs) with
    | false => rfl
    | true => unfold leastS at h; rw [h1, h2] at h; cases h
  have e : (leastS xs).1 = putAll cS (xs.filter (keepS xs)) := by unfold leastS; rw [h1, h2]; rfl
  rw [e]
  obtain ⟨m, k1, k2, k3⟩ := least_below less_F less_irrefl less_trans xs _ y hy (Nat.le_refl _)
  have hm : m ∈ putAll cS (xs.filter (keepS xs)) := by
    rw [(show m ∈ putAll cS (xs.filter (keepS xs)) ↔ m ∈ xs.filter (keepS xs) ∨ m ∈ [] from (foldl_insU toS (xs := xs.filter (keepS xs)) (l := []) List.Pairwise.nil).2 m)]
    left
    rw [List.mem_filter]
    refine ⟨k1, ?_⟩
    unfold keepS
    rw [Bool.not_eq_true', List.any_eq_false]
    intro z hz
    rw [k2 z hz]; simp
  have hmay : may_F y = true := by
    have := List.any_eq_false.1 h1 y hy
    simpa [mayN] using this
  have hle : leqC m y = true := by
    rcases k3 with rfl | k3
    · exact leq_refl ((may_iff m).1 hmay)
    · exact ((less_iff _ _).1 k3).2.1
  unfold noL
  rw [Bool.not_eq_false', List.any_eq_true]
  exact ⟨m, hm, hle⟩
theorem lw8_true (a b : S) (xs : List S) : lw8_F a b xs = true := by
  unfold lw8_F lw8_q1
  simp only [eS.lst_els, lw_fun]
  have hl : (xs.take 40).length ≤ 40 := List.length_take_le _ _
  generalize xs.take 40 = l at hl ⊢
  have e1 : compare_F a b = rcompare_F a b := by rw [compare_lex, rcompare_lex]
  rw [e1]
  by_cases he : (leastS l).2 = 0
  · have hI : allP (alI (((leastS l).1, l, (l.length : Int), 0, false) : AlG S (List S))) := fun q hq => by
      simp only [alI, List.mem_singleton] at hq
      subst hq
      exact ⟨trivial, by unfold maxLen; show l.length ≤ _; omega, Int.le_refl _, by show (0 : Int) ≤ (l.length : Int); omega⟩
    have := al_run 0 eS.dflt noL _ hI (leastS_below he)
    rw [this]
    simp [he, exB]
  · simp [he]
theorem lw8_ok : FnPure Try.prog 8 aLaw8 dBool (fun _ => true) (fun _ => []) := by
  have h := lw8_okS (fun _ => []) fun g hb _ => by
    obtain ⟨a, b, xs⟩ := g
    show lw8_side a b xs
    unfold lw8_side
    simp only [eS.lst_els]
    have hl : (xs.take 40).length ≤ 40 := List.length_take_le _ _
    have hx := ok_all xs
    generalize xs.take 40 = l at hl ⊢
    have hk : l.length ≤ KS := by unfold KS; omega
    have hm : l.length ≤ maxLen := by unfold maxLen; omega
    have hl1 := ok_all l
    have hy := ok_all (leastS l).1
    repeat' (first | apply And.intro | exact hx | exact hl1 | exact hy | exact hk | exact hm | intro h)
    all_goals (first | trivial | omega | skip)
  exact pure_congr h fun g _ _ => lw8_true g.1 g.2.1 g.2.2
end Go.Proofs.Ytapmlfklkfgmoaa

/- From what a statement reads of its arguments to known values. -/
namespace Go.Sx
open Go.RowKit Go.ChangeShapes Go.WideShapes Go.ChangeAt Go.Deep

theorem add_none (b o n : Nat) : (⟨b, o, none⟩ : Addr).add n = ⟨b, o + n, none⟩ := by
  by_cases h : n = 0
  · subst h; simp [Addr.add]
  · simp [Addr.add, h]
abbrev wh (w : World) : Rh := emp fun b => w.heap[b]?
/-- Cells of that type are plain data. -/
def Rd {α : Type} (P : Program) (t : TypeId) (A : El α) (Q : α → Prop) : Prop :=
  ∀ (H : Type) (enc : TypeId × Value → H) (w : World) (base : Nat) (spare : Nat → Bool) (held : Bool) (fuel : Nat) (cs : List Value) (x : DataW H × List MemPlace),
    DataW.trod enc P w base spare held fuel t cs = some x → ∃ a, Q a ∧ SV.fits 0 (wh w) (A.cells a) cs
section
variable {H : Type} (enc : TypeId × Value → H) (P : Program) (w : World) (base : Nat) (spare : Nat → Bool) (held : Bool) (fuel : Nat)
def Cut : List TypeId → List Value → Prop
  | [], cs => cs = []
  | t :: ts, cs => (∃ x, DataW.trod enc P w base spare held fuel t (cs.take (P.cellsOf t)) = some x) ∧ Cut ts (cs.drop (P.cellsOf t))
def consec : Nat → List (Nat × TypeId) → Nat → Bool
  | o, [], n => Nat.beq o n
  | o, p :: r, n => Nat.beq p.1 o && consec (o + P.cellsOf p.2) r n
theorem cut_of (cs : List Value) : ∀ (fs : List (Nat × TypeId)) (o : Nat), consec P o fs cs.length = true → (∀ p ∈ fs, ∃ x, DataW.trod enc P w base spare held fuel p.2 ((cs.drop p.1).take (P.cellsOf p.2)) = some x) → Cut enc P w base spare held fuel (fs.map (·.2)) (cs.drop o)
  | [], o, hc, _ => by
    have := beq_of hc
    show cs.drop o = []
    exact List.drop_eq_nil_of_le (by omega)
  | p :: r, o, hc, h => by
    simp only [consec, Bool.and_eq_true] at hc
    have h0 := beq_of hc.1
    refine ⟨?_, ?_⟩
    · have := h p (List.mem_cons_self ..)
      rwa [h0] at this
    · have := cut_of cs r (o + P.cellsOf p.2) hc.2 fun q hq => h q (List.mem_cons_of_mem _ hq)
      rwa [List.drop_drop]
end
def Rds {α : Type} (P : Program) (ts : List TypeId) (A : El α) (Q : α → Prop) : Prop :=
  ∀ (H : Type) (enc : TypeId × Value → H) (w : World) (base : Nat) (spare : Nat → Bool) (held : Bool) (fuel : Nat) (cs : List Value),
    Cut enc P w base spare held fuel ts cs → ∃ a, Q a ∧ SV.fits 0 (wh w) (A.cells a) cs
section
variable {P : Program} {t e : TypeId} {α β : Type} {A : El α} {B : El β} {Q : α → Prop} {Q' : β → Prop}
theorem rds_one (h : Rd P t A Q) : Rds P [t] A Q := fun H enc w base spare held fuel cs hc => by
  obtain ⟨⟨x, hx⟩, hd⟩ := hc
  have hd : cs.drop (P.cellsOf t) = [] := hd
  have h2 := List.take_append_drop (P.cellsOf t) cs
  rw [hd, List.append_nil] at h2
  rw [h2] at hx
  exact h H enc w base spare held fuel cs x hx
theorem rds_cons {ts : List TypeId} (h : Rd P t A Q) (h' : Rds P ts B Q') : Rds P (t :: ts) (.pair A B) (fun a => Q a.1 ∧ Q' a.2) := fun H enc w base spare held fuel cs hc => by
  obtain ⟨⟨x, hx⟩, hd⟩ := hc
  obtain ⟨a, qa, fa⟩ := h H enc w base spare held fuel _ x hx
  obtain ⟨b, qb, fb⟩ := h' H enc w base spare held fuel _ hd
  refine ⟨(a, b), ⟨qa, qb⟩, ?_⟩
  have := fits_append fa fb
  rwa [List.take_append_drop] at this
theorem rd_iso (h : Rd P t A Q) (f : α → β) (g : β → α) (hfg : ∀ b, f (g b) = b) (hgf : ∀ a, g (f a) = a) : Rd P t (A.iso f g hfg hgf) (fun b => Q (g b)) := fun H enc w base spare held fuel cs x hx => by
  obtain ⟨a, qa, fa⟩ := h H enc w base spare held fuel cs x hx
  refine ⟨f a, (show Q (g (f a)) by rwa [hgf]), ?_⟩
  show SV.fits 0 _ (A.cells (g (f a))) cs
  rwa [hgf]
theorem rd_int {k : IntKind} (ht : P.underlying t = some (.int k)) : Rd P t (eInt k) (fun n => (Lit.int k n).wf = true) := fun H enc w base spare held fuel cs x hx => by
  obtain ⟨n, rfl, _, hw⟩ := DataW.trod_int ht hx
  exact ⟨n, hw, by simp [eInt, El.one', dInt, SV.fits, SV.fit]⟩
theorem rd_struct {fs : Array Field} {ts : List TypeId} (ht : P.underlying t = some (.struct fs)) (hts : fs.toList.map (·.type) = ts) (hc : consec P 0 (fs.toList.map fun f => (f.offset, f.type)) (P.cellsOf t) = true) (h : Rds P ts A Q) : Rd P t A Q := fun H enc w base spare held fuel cs x hx => by
  obtain ⟨xs, n, rfl, _, hl, hxl, hf⟩ := DataW.trod_struct ht hx
  rw [← hl] at hc
  have := cut_of enc P w base spare held n cs _ 0 hc fun p hp => by
    obtain ⟨f, hfm, rfl⟩ := List.mem_map.1 hp
    obtain ⟨i, hi, rfl⟩ := List.getElem_of_mem hfm
    have hi' : i < fs.size := by simpa using hi
    have := hf i fs[i] (by simp [hi'])
    exact ⟨xs[i]'(by omega), by simpa [hxl, hi'] using this⟩
  rw [List.map_map, List.drop_zero] at this
  refine h H enc w base spare held n cs ?_
  rw [← hts]
  exact this
theorem rd_array {n : Nat} {ts : List TypeId} (ht : P.underlying t = some (.array n e)) (hts : ((List.range n).map fun _ => e) = ts) (hc : consec P 0 ((List.range n).map fun i => (i * P.cellsOf e, e)) (P.cellsOf t) = true) (h : Rds P ts A Q) : Rd P t A Q := fun H enc w base spare held fuel cs x hx => by
  obtain ⟨xs, m, rfl, _, hl, hxl, hf⟩ := DataW.trod_array ht hx
  rw [← hl] at hc
  have := cut_of enc P w base spare held m cs _ 0 hc fun p hp => by
    obtain ⟨i, hi, rfl⟩ := List.mem_map.1 hp
    have hi' : i < n := by simpa using hi
    have := hf i hi'
    exact ⟨xs[i]'(by omega), by rw [this]; simp [hxl, hi']⟩
  rw [List.map_map, List.drop_zero] at this
  refine h H enc w base spare held m cs ?_
  rw [← hts]
  exact this
end
/-- An argument is plain data. -/
def RdV {α : Type} (P : Program) (t : TypeId) (D : Dv α) (Q : α → Prop) : Prop :=
  ∀ (H : Type) (enc : TypeId × Value → H) (w : World) (base : Nat) (spare : Nat → Bool) (held : Bool) (r : Reach) (b0 : Nat) (v : Value) (d : DataW H) (ps : List MemPlace),
    Value.okWide P w r b0 t v → DataW.Trod enc P w base spare held t v d ps → ∃ a, Q a ∧ (D.enc a).fit 0 (wh w) v
section
variable {P : Program} {t e : TypeId} {α β : Type} {A : El α} {Q : α → Prop}
theorem rdv_int {k : IntKind} (ht : P.underlying t = some (.int k)) : RdV P t (dInt k) (fun n => (Lit.int k n).wf = true) := fun H enc w base spare held r b0 v d ps hv hx => by
  obtain ⟨n, rfl, _, _, hw⟩ := open_int ht hv hx
  exact ⟨n, hw, by simp [dInt, SV.fit]⟩
theorem rdv_struct {fs : Array Field} (ht : P.underlying t = some (.struct fs)) (h : Rd P t A Q) : RdV P t (.agg A) Q := fun H enc w base spare held r b0 v d ps hv hx => by
  obtain ⟨cs, rfl, _⟩ := okWide_struct ht hv
  obtain ⟨fuel, hf⟩ := hx
  obtain ⟨a, qa, fa⟩ := h H enc w base spare held fuel _ _ hf
  exact ⟨a, qa, cs.toList, by simp, by simpa [Value.cells] using fa⟩
theorem rdv_slice (ht : P.underlying t = some (.slice e)) (hs : P.cellsOf e = A.sz) (hz : 0 < A.sz) (h : Rd P e A Q) : RdV P t (.list A) (fun xs => ∀ a ∈ xs, Q a) := fun H enc w base spare held r b0 v d ps hv hx => by
  obtain ⟨a0, len0, cap0, rfl⟩ := okWide_slice ht hv
  obtain ⟨fuel, hf⟩ := hx
  rcases open_slice ht hf with ⟨hcs, _⟩ | ⟨a, len, cap, m, n, D, Pl, hcs, hb, hl, hm, hmm, _, hel⟩
  · simp [Value.cells] at hcs
    obtain ⟨rfl, rfl, rfl⟩ := hcs
    exact ⟨[], by simp, rs_nil _ _⟩
  · simp [Value.cells] at hcs
    obtain ⟨rfl, rfl, rfl⟩ := hcs
    have hle : len0 ≤ m := by subst hmm; split <;> omega
    have key : ∀ i, i < len0 → ∃ x : α, Q x ∧ ∃ cs', cs'.length = A.sz ∧ SV.fits 0 (wh w) (A.cells x) cs' ∧ ∀ j, j < A.sz → w.cell? ((a.add (i * A.sz)).add j) = cs'[j]? := fun i hi => by
      obtain ⟨cs', h1, h2⟩ := hel i (by omega)
      obtain ⟨x, qx, fx⟩ := h H enc w base spare held n cs' _ h2
      rw [hs] at h1
      obtain ⟨_, h3, h4⟩ := World.cells?_some h1
      exact ⟨x, qx, cs', h3, fx, h4⟩
    haveI : Inhabited α := ⟨A.dflt⟩
    obtain ⟨f, hf⟩ := choose_lt (α := α) (fun i hi => key i hi)
    refine ⟨(List.range len0).map f, ?_, ?_⟩
    · intro x hx
      obtain ⟨i, hi, rfl⟩ := List.mem_map.1 hx
      exact (hf i (by simpa using hi)).1
    · simp only [Dv.list, SV.fit]
      refine ⟨some a, cap0, by simp, by simpa using hl, hm, fun hpos => ?_⟩
      have hpos : 0 < len0 := by simpa using hpos
      obtain ⟨_, cs0, q1, q2, q3⟩ := hf 0 hpos
      have q4 := q3 0 hz
      obtain ⟨b, o, spot⟩ := a
      have hsome : ∃ v0, cs0[0]? = some v0 := ⟨cs0[0]'(by omega), by simp⟩
      obtain ⟨v0, hv0⟩ := hsome
      rw [hv0] at q4
      have hspot : spot = none := by simpa [Addr.add] using World.cell?_spot q4
      subst hspot
      have hblk : ∃ cs t fz, w.heap[b]? = some (.cells cs t fz) := by
        simp only [add_none, World.cell?] at q4
        split at q4
        · rename_i c _ _ hh
          exact ⟨_, _, _, hh⟩
        · cases q4
      obtain ⟨cs, t', fz, hh⟩ := hblk
      refine ⟨b, o, cs, t', fz, rfl, hh, fun i hi => ?_⟩
      have hi : i < len0 := by simpa using hi
      obtain ⟨_, cs', k1, k2, k3⟩ := hf i hi
      refine ⟨cs', k1, ?_, fun j v hjv => ?_⟩
      · simpa [El.els, List.getD_eq_getElem?_getD, hi] using k2
      · have hj : j < A.sz := by
          have := (List.getElem?_eq_some_iff.1 hjv).1
          omega
        have := k3 j hj
        rw [hjv] at this
        simp only [add_none, World.cell?, hh] at this
        simpa using this
end
end Go.Sx

/- Chapter 2: what the rows read of their arguments. -/
namespace Go.Proofs.Ytapmlfklkfgmoaa
open Go.RowKit Go.Sx

def W1 (n : Int) : Prop := (Lit.int .i64 n).wf = true
def W4 (a : I4) : Prop := W1 a.1 ∧ W1 a.2.1 ∧ W1 a.2.2.1 ∧ W1 a.2.2.2
def W8 (a : I8) : Prop := W1 a.1 ∧ W1 a.2.1 ∧ W1 a.2.2.1 ∧ W1 a.2.2.2.1 ∧ W4 a.2.2.2.2
def W6 (a : I6) : Prop := W1 a.1 ∧ W1 a.2.1 ∧ W4 a.2.2
def S.W (s : S) : Prop := W8 s.toP
def T.W (t : T) : Prop := W6 t.toP
theorem rd2 : Rd Try.prog 2 eI W1 := rd_int Try.underlying2
theorem rd3 : Rd Try.prog 3 eI W1 := rd_int Try.underlying3
theorem rd22 : Rd Try.prog 22 e4 W4 := rd_array (ts := [2, 2, 2, 2]) Try.underlying22 rfl (by kernel_rfl) (rds_cons rd2 (rds_cons rd2 (rds_cons rd2 (rds_one rd2))))
theorem rd24 : Rd Try.prog 24 eS S.W := rd_iso (Q := W8) (rd_struct (ts := [3, 3, 2, 3, 22]) Try.underlying24 rfl (by kernel_rfl) (rds_cons rd3 (rds_cons rd3 (rds_cons rd2 (rds_cons rd3 (rds_one rd22)))))) _ _ _ _
theorem rd26 : Rd Try.prog 26 eT T.W := rd_iso (Q := W6) (rd_struct (ts := [2, 3, 22]) Try.underlying26 rfl (by kernel_rfl) (rds_cons rd2 (rds_cons rd3 (rds_one rd22)))) _ _ _ _
theorem rdvI : RdV Try.prog 3 dI W1 := rdv_int Try.underlying3
theorem rdvU : RdV Try.prog 5 (dInt .u8) (fun n => (Lit.int .u8 n).wf = true) := rdv_int Try.underlying5
theorem rdvS : RdV Try.prog 24 dS S.W := rdv_struct Try.underlying24 rd24
theorem rdvT : RdV Try.prog 26 dT T.W := rdv_struct Try.underlying26 rd26
theorem rdvLS : RdV Try.prog 27 dLS (fun l => ∀ s ∈ l, S.W s) := rdv_slice Try.underlying27 (by kernel_rfl) (by decide) rd24
end Go.Proofs.Ytapmlfklkfgmoaa

/- The row of SummLeastSaid, from the law's contract. Printed by rowgen.py. -/
namespace Go.Proofs.Ytapmlfklkfgmoaa
open Go.ChangeShapes Go.WideShapes Go.ChangeAt Go.RowKit Go.Sx

theorem Try.own : ownKnob Try.prog.godebug = none := by kernel_rfl
theorem Try.laidOut : laidOutB Try.prog = true := by kernel_rfl
set_option maxRecDepth 100000 in
theorem summLeast_lifted (law : FnPure Try.prog 8 aLaw8 dBool (fun _ => true) (fun _ => [])) (os : Os) (started : os.Started) (H : Type) (enc : TypeId × Value → H) :
    ReturnsInHanded {} Try.checked os 8 .any (Rows.summLeastSpec.pre6 enc Try.prog Try.f8 Rows.summLeastRow.domain false) (Rows.summLeastSpec.post enc Try.prog Try.f8 false true false false) := by
  refine returnsInHanded_of_change (C := Try.checked) Try.own started (by kernel_rfl) Try.func8
    (ChangeSpec.witness6 (enc := enc) (C := Try.checked) false ⟨#[], #[.agg #[.int .i64 0, .int .i64 0, .int .i64 0, .int .i64 0, .int .i64 0, .int .i64 0, .int .i64 0, .int .i64 0], .agg #[.int .i64 0, .int .i64 0, .int .i64 0, .int .i64 0, .int .i64 0, .int .i64 0, .int .i64 0, .int .i64 0], .slice none 0 0], []⟩ 8 (by kernel_rfl) (by kernel_rfl) (by kernel_rfl) (by kernel_rfl)) ?_
  intro W base args ds gs before hval0 hW hcnd _
  have hval : ∀ (j : Nat) t v, Try.f8.params[j]? = some t → args[j]? = some v → Value.okWide Try.prog W .any base t v := hval0
  have hW' := hW
  obtain ⟨p, q, hA0, hV, rfl, hfz, hnd⟩ := hW
  have hA : DataW.TrodAll enc Try.prog W 0 (fun _ => true) true Try.f8.params.toList args.toList ds p := hA0
  rw [Try.params8] at hA hval
  obtain ⟨v0, vs0, d0, ds0, p0, q0, hargs, rfl, rfl, h0, r0⟩ := trodAll_cons hA
  obtain ⟨v1, vs1, d1, ds1, p1, q1, rfl, rfl, rfl, h1, r1⟩ := trodAll_cons r0
  obtain ⟨v2, vs2, d2, ds2, p2, q2, rfl, rfl, rfl, h2, r2⟩ := trodAll_cons r1
  obtain ⟨rfl, rfl, rfl⟩ := trodAll_nil r2
  obtain rfl : args = #[v0, v1, v2] := by cases args; simp_all
  obtain ⟨rfl, rfl⟩ := trodVars_none hV
  obtain ⟨a0, _, f0⟩ := rdvS _ _ _ _ _ _ _ _ _ _ _ (hval 0 24 v0 rfl rfl) h0
  obtain ⟨a1, _, f1⟩ := rdvS _ _ _ _ _ _ _ _ _ _ _ (hval 1 24 v1 rfl rfl) h1
  obtain ⟨a2, _, f2⟩ := rdvLS _ _ _ _ _ _ _ _ _ _ _ (hval 2 27 v2 rfl rfl) h2
  have lt : ∀ {t : TypeId} {v : Value} {d : DataW H} {ps : List MemPlace}, DataW.Trod enc Try.prog W 0 (fun _ => true) true t v d ps → ∀ x ∈ ps, x.block < W.heap.size := by
    rintro t v d ps ⟨m, hm⟩
    exact DataW.trod_lt m _ _ _ hm
  clear hA0 hval0
  refine (law W (fun b => W.heap[b]?) (a0, a1, a2) [v0, v1, v2] (fun _ _ h => h) (by simp) ⟨f0, f1, f2, trivial⟩).mono fun e W' ⟨x, he, bel, hx⟩ => ?_
  obtain rfl : x = .bool true := by simpa [dBool, SV.fit] using hx
  subst he
  exact ⟨_, rfl, _, _, _, [], _, [], hW', trodAll_mk1 (shut_bool Try.underlying4 _),
    (trodAll_cons_mk (Below.trod Try.laidOut (by kernel_rfl) (of_decide_eq_true (by kernel_rfl)) h0 bel (lt h0))
    (trodAll_cons_mk (Below.trod Try.laidOut (by kernel_rfl) (of_decide_eq_true (by kernel_rfl)) h1 bel (lt h1))
    (trodAll_cons_mk (Below.trod Try.laidOut (by kernel_rfl) (of_decide_eq_true (by kernel_rfl)) h2 bel (lt h2)) trodAll_mk0))), rfl, bel.frame _, fun h => by cases h⟩

theorem summLeast_over (law : FnPure Try.prog 8 aLaw8 dBool (fun _ => true) (fun _ => [])) : Rows.SummLeastSaid :=
  OpenClaim.holds_of_wide 8 Try.f8 rfl rfl rfl rfl rfl rfl rfl ⟨rfl, rfl, rfl, rfl, rfl⟩ rfl rfl rfl rfl rfl (by kernel_rfl) Try.func8 (by kernel_rfl)
    (of_decide_eq_true (by kernel_rfl)) (by unfold Func.isWrapper; first | (rw [if_pos (by decide +kernel)]; kernel_rfl) | (rw [if_neg (by decide +kernel)]; exact ⟨rfl, rfl⟩))
    (fun os started H enc _ => summLeast_lifted law os started H enc)
end Go.Proofs.Ytapmlfklkfgmoaa

/- The law SummLeast of chapter 2 is proved: for every input the function returns true, and its arguments read as they did. No condition. -/
namespace Go.Proofs.Ytapmlfklkfgmoaa
open Go.RowKit Go.Sx
theorem summLeast_holds : Rows.SummLeastSaid := summLeast_over lw8_ok
end Go.Proofs.Ytapmlfklkfgmoaa
