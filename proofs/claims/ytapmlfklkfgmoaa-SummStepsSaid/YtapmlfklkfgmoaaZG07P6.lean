/- More that a loop carries: a part of a known row. -/
import Derived.Test.YtapmlfklkfgmoaaZG06P6
set_option linter.unusedVariables false
set_option linter.unusedSimpArgs false
set_option linter.constructorNameAsVariable false
set_option linter.all false

namespace Go.Sx
open Go.RowKit
/-- A slot that holds a part of a known row. -/
def LP.seS (N i id sz : Nat) : LP N (Nat × Nat) where
  R := 0
  read σ := match σ.slot i with
    | .se j s o l => bif Nat.beq j id && (Nat.beq s sz && Nat.blt id N) then some ((o, l), [], []) else none
    | _ => none
  ents _ g := [(i, .se id sz g.1 g.2)]
  rows _ := []
  objs _ _ := []
  es := [i]
  os := []
  eseq _ _ := rfl
  oseq _ _ := rfl
  rlen _ := rfl
  ilen σ g ps ids h := by
    split at h
    · rename_i j s o l _
      cases hb : (Nat.beq j id && (Nat.beq s sz && Nat.blt id N)) with
      | false => rw [hb] at h; cases h
      | true =>
        rw [hb] at h
        simp only [cond_true, Option.some.injEq, Prod.mk.injEq] at h; rw [← h.2.2]; rfl
    · cases h
  ok k0 σ g ps ids h hp := by
    split at h
    · rename_i j s o l hs
      cases hb : (Nat.beq j id && (Nat.beq s sz && Nat.blt id N)) with
      | false => rw [hb] at h; cases h
      | true =>
        rw [hb] at h
        simp only [cond_true, Option.some.injEq, Prod.mk.injEq] at h
        obtain ⟨rfl, rfl, rfl⟩ := h
        simp only [Bool.and_eq_true] at hb
        have e1 := beq_of hb.1
        have e2 := beq_of hb.2.1
        have hlt := Nat.le_of_ble_eq_true hb.2.2
        subst e1; subst e2
        refine ⟨fun k t sz el l h => by simp at h, fun id' so h => by simp at h, fun i' s' h => ?_⟩
        simp only [List.mem_singleton, Prod.mk.injEq] at h
        obtain ⟨rfl, rfl⟩ := h
        refine ent_bl (fun n ρ x hx => by rw [hs] at hx; exact hx) fun n m ρ ρ' x hm ha hf => ?_
        obtain ⟨_, a, c, h1, h2, h3, h4⟩ := hf
        exact ⟨by omega, a, c, h1, h2, h3, fun hl => by rw [ha.1 _ hlt]; exact h4 hl⟩
    · cases h
/-- A slot that may hold a beginning of a known row (or anything else). -/
def LP.owB (N i id : Nat) : LP N (Bool × Nat) where
  R := 0
  read σ := match σ.slot i with
    | .ow j l => bif Nat.beq j id && Nat.blt id N then some ((true, l), [], []) else some ((false, 0), [], [])
    | .opt b (.ow j l) => bif Nat.beq j id && Nat.blt id N then some ((b, l), [], []) else some ((false, 0), [], [])
    | _ => some ((false, 0), [], [])
  ents _ g := [(i, .opt g.1 (.ow id g.2))]
  rows _ := []
  objs _ _ := []
  es := [i]
  os := []
  eseq _ _ := rfl
  oseq _ _ := rfl
  rlen _ := rfl
  ilen σ g ps ids h := by
    split at h
    · rename_i j l _
      cases hb : Nat.beq j id && Nat.blt id N with
      | false => rw [hb] at h; simp only [cond_false, Option.some.injEq, Prod.mk.injEq] at h; rw [← h.2.2]; rfl
      | true => rw [hb] at h; simp only [cond_true, Option.some.injEq, Prod.mk.injEq] at h; rw [← h.2.2]; rfl
    · rename_i b j l _
      cases hb : Nat.beq j id && Nat.blt id N with
      | false => rw [hb] at h; simp only [cond_false, Option.some.injEq, Prod.mk.injEq] at h; rw [← h.2.2]; rfl
      | true => rw [hb] at h; simp only [cond_true, Option.some.injEq, Prod.mk.injEq] at h; rw [← h.2.2]; rfl
    · simp only [Option.some.injEq, Prod.mk.injEq] at h; rw [← h.2.2]; rfl
  ok k0 σ g ps ids h hp := by
    have hu : Rel N k0 σ [] [(i, .opt false (.ow id 0))] [] [] := ⟨fun k t sz el l h => by simp at h, fun id so h => by simp at h, fun q s h => by
      simp only [List.mem_singleton, Prod.mk.injEq] at h
      obtain ⟨rfl, rfl⟩ := h
      exact ent_bl (fun _ _ _ _ h => (by cases h)) (fun _ _ _ _ _ _ _ _ h => (by cases h))⟩
    have hw : ∀ (b : Bool) (l : Nat), id < N → (∀ n ρ x, (σ.slot i).fit n ρ x → (SV.opt b (.ow id l)).fit n ρ x) → Rel N k0 σ [] [(i, .opt b (.ow id l))] [] [] := fun b l hlt hs =>
      ⟨fun k t sz el l h => by simp at h, fun id so h => by simp at h, fun q s h => by
        simp only [List.mem_singleton, Prod.mk.injEq] at h
        obtain ⟨rfl, rfl⟩ := h
        refine ent_bl hs fun n m ρ ρ' x hm ha hf hb => ?_
        obtain ⟨_, hf⟩ := hf hb
        exact ⟨by omega, by rw [ha.1 _ hlt]; exact hf⟩⟩
    split at h
    · rename_i j l hs
      cases hb : Nat.beq j id && Nat.blt id N with
      | false =>
        rw [hb] at h
        simp only [cond_false, Option.some.injEq, Prod.mk.injEq] at h
        obtain ⟨rfl, rfl, rfl⟩ := h
        exact hu
      | true =>
        rw [hb] at h
        simp only [Bool.and_eq_true] at hb
        have e1 := beq_of hb.1
        have hlt : id < N := Nat.le_of_ble_eq_true hb.2
        subst e1
        simp only [cond_true, Option.some.injEq, Prod.mk.injEq] at h
        obtain ⟨rfl, rfl, rfl⟩ := h
        exact hw _ _ hlt fun n ρ x hf _ => by rw [hs] at hf; exact hf
    · rename_i b j l hs
      cases hb : Nat.beq j id && Nat.blt id N with
      | false =>
        rw [hb] at h
        simp only [cond_false, Option.some.injEq, Prod.mk.injEq] at h
        obtain ⟨rfl, rfl, rfl⟩ := h
        exact hu
      | true =>
        rw [hb] at h
        simp only [Bool.and_eq_true] at hb
        have e1 := beq_of hb.1
        have hlt : id < N := Nat.le_of_ble_eq_true hb.2
        subst e1
        simp only [cond_true, Option.some.injEq, Prod.mk.injEq] at h
        obtain ⟨rfl, rfl, rfl⟩ := h
        exact hw _ _ hlt fun n ρ x hf => by rw [hs] at hf; exact hf
    · simp only [Option.some.injEq, Prod.mk.injEq] at h
      obtain ⟨rfl, rfl, rfl⟩ := h
      exact hu
/-- Two codes are one. -/
def CodeIs (a b : Code) : Prop := a = b
/-- A range over a function: its body's place; slots that stay as they were. -/
def fixT (N : Nat) (t : List (Nat × SV)) : List (Nat × SV) → Bool
  | [] => true
  | (i, v) :: r => litEq N (look (.k undef) i t) v && fixT N t r
theorem fixT_ok {N : Nat} {t : List (Nat × SV)} : ∀ {l : List (Nat × SV)}, fixT N t l = true → ∀ i v, (i, v) ∈ l → look (.k undef) i t = v ∧ Bl N v
  | [], _, _, _, h => by simp at h
  | (j, u) :: r, h, i, v, hm => by
    simp only [fixT, Bool.and_eq_true] at h
    rcases List.mem_cons.1 hm with he | hm
    · simp only [Prod.mk.injEq] at he
      obtain ⟨rfl, rfl⟩ := he
      exact litEq_ok h.1
    · exact fixT_ok h.2 i v hm
def restU (n : Nat) : List (Nat × SV) := (List.range n).map fun i => (i, .u)
theorem look_restU {n i : Nat} (h : i < n) : look (.k undef) i (restU n) = .u := by
  rcases look_or (.k undef) i (restU n) with h1 | h1
  · obtain ⟨j, _, e⟩ := List.mem_map.1 h1
    simp only [Prod.mk.injEq] at e
    exact e.2.symm
  · exact absurd (by simp only [restU, List.map_map]; simpa using h) h1
def LP.loopO (N id n : Nat) (fx : List (Nat × SV)) (ps : Array Tmp) (asg body : Code) (df : Nat) : LP N (LoopState × Option Code) where
  R := 0
  read σ := match σ.h.get id with
    | .loop st pd n' t ps' asg' body' df' => bif Nat.beq n' n && (Nat.beq df' df && (Nat.blt df N && (decide (ps' = ps) && fixT N t fx))) then some ((st, pd), [CodeIs asg' asg, CodeIs body' body], []) else none
    | _ => none
  ents _ _ := []
  rows _ := []
  objs _ g := [(id, .loop g.1 g.2 n (fx ++ restU n) ps asg body df)]
  es := []
  os := [id]
  eseq _ _ := rfl
  oseq _ _ := rfl
  rlen _ := rfl
  ilen σ g ps' ids h := by
    split at h
    · rename_i st pd n' t ps'' asg' body' df' _
      cases hb : (Nat.beq n' n && (Nat.beq df' df && (Nat.blt df N && (decide (ps'' = ps) && fixT N t fx)))) with
      | false => rw [hb] at h; cases h
      | true => rw [hb] at h; simp only [cond_true, Option.some.injEq, Prod.mk.injEq] at h; rw [← h.2.2]; rfl
    · cases h
  ok k0 σ g ps' ids h hp := by
    split at h
    · rename_i st pd n' t ps'' asg' body' df' hg
      cases hb : (Nat.beq n' n && (Nat.beq df' df && (Nat.blt df N && (decide (ps'' = ps) && fixT N t fx)))) with
      | false => rw [hb] at h; cases h
      | true =>
        rw [hb] at h
        simp only [cond_true, Option.some.injEq, Prod.mk.injEq] at h
        obtain ⟨rfl, rfl, rfl⟩ := h
        simp only [Bool.and_eq_true, decide_eq_true_eq] at hb
        obtain ⟨h1, h2, h3, h4, h5⟩ := hb
        have e1 := beq_of h1
        have e2 := beq_of h2
        subst e1; subst e2; subst h4
        have hlt : df' < N := Nat.le_of_ble_eq_true h3
        have c1 : asg' = asg := hp _ (List.mem_cons_self ..)
        have c2 : body' = body := hp _ (List.mem_cons_of_mem _ (List.mem_cons_self ..))
        subst c1; subst c2
        refine ⟨fun k t sz el l h => by simp at h, fun id' so h => ?_, fun j s h => by simp at h⟩
        simp only [List.mem_singleton, Prod.mk.injEq] at h
        obtain ⟨rfl, rfl⟩ := h
        rw [hg]
        refine ⟨fun _ h => h, fun n m ρ ρ' L o hr hf => ?_⟩
        have hNm : N ≤ m := by have := hr.le; omega
        have hag := hr.ag
        obtain ⟨f1, f2, f, tm, f3, f4, f5⟩ := hf
        refine ⟨f1, by omega, f, tm, by rw [hag.1 _ hlt]; exact f3, f4, fun i hi => ?_⟩
        have h6 := f5 i hi
        rw [look_append]
        rcases look_or (look (.k undef) i (restU n')) i fx with h7 | h7
        · obtain ⟨e, hbl⟩ := fixT_ok h5 _ _ h7
          rw [e] at h6
          exact hbl _ _ _ _ _ hNm hag h6
        · rw [look_not _ _ h7, look_restU hi]
          trivial
    · cases h
section
variable {P : Program} {Γ : Gam} {Λ : Lam} {N : Nat} {γ : Type}
/-- As loop_run, where a round is known only of some. -/
theorem loop_runI (ι : γ → γ) (hΓ : ∀ f g, Γ.g f = some g → FnOk P f g) (hΛ : ∀ f k L, Λ f k = some L → ∀ b ∈ loopsOf P f, lkey b = k → LoopOk P b L.g) (n f key n0 : Nat) (A : LP N γ) (DL : List Nat) (Inv : γ → List Prop) (F : γ → Ex × γ) (S : γ → Prop) (m : γ → Nat) (d : Ex × γ) (es : List Ex)
    (hu : ((loopsOf P f).filter fun c => Nat.beq (lkey c) key).length = 1)
    (hS : ∀ (rd : Option Nat) (T B : List (Nat × SV)) (HL HB : List (Nat × SE)) (ds : List Nat) (g : γ), (bT P Γ Λ n f rd (loopBody P f key) A DL n0 ⟨n0, T, ⟨N, HL, HB⟩, DL, B⟩ ds (ι g)).side = S g)
    (hF : ∀ (rd : Option Nat) (T B : List (Nat × SV)) (HL HB : List (Nat × SE)) (ds : List Nat) (g : γ), (bT P Γ Λ n f rd (loopBody P f key) A DL n0 ⟨n0, T, ⟨N, HL, HB⟩, DL, B⟩ ds (ι g)).ev d = F g)
    (hι : ∀ g, allP (Inv g) → ι g = g) (hs : ∀ g, allP (Inv g) → S g) (hg : Goes F m fun g => allP (Inv g)) (hes : ∀ g, (F g).1 = .normal ∨ (F g).1 ∈ es) : ∀ b ∈ loopsOf P f, lkey b = key → LoopOk P b (loopR es (loopBody P f key) A DL n0 Inv F m).g := by
  refine loop_ok hΓ hΛ n f key n0 A DL Inv _ m hu ?_
  intro rd T B HL HB ds g hi K hK
  have h1 : (bT P Γ Λ n f rd (loopBody P f key) A DL n0 ⟨n0, T, ⟨N, HL, HB⟩, DL, B⟩ ds (ι g)).side := by rw [hS]; exact hs g hi
  have h2 := Tr.side_holds d h1
  rw [hF, hι g hi] at h2
  refine Tr.mono ?_ h2
  rintro _ rfl
  have hK0 := hK
  have hK : K (loopF F m g) := exitsT_holds (loopF_exit hg hes hi) hK
  unfold StepP
  split
  · rename_i he
    obtain ⟨k1, k2⟩ := hg g hi he
    refine ⟨k1, k2, ?_⟩
    show (exitsT (loopF F m (F g).2) es).Holds K
    rw [← loopF_next hg hi (g' := (F g).2) (by rw [← he])]
    exact hK0
  · rename_i he
    rw [loopF_end (by intro h; exact he h)] at hK
    exact hK
end
theorem pure_congr {γ δ : Type} {P : Program} {f : Nat} {D : DA γ} {R : Dv δ} {fn fn' : γ → δ} {pre : γ → List Prop} (h : FnPure P f D R fn pre) (e : ∀ g, D.bd g → (∀ p ∈ pre g, p) → fn g = fn' g) : FnPure P f D R fn' pre := by
  intro w F g vs h1 h2 h3
  refine (h w F g vs h1 h2 h3).mono ?_
  rintro e' w' ⟨x, k1, k2, k3⟩
  rw [e g (D.fb _ _ _ _ h3) h2] at k3
  exact ⟨x, k1, k2, k3⟩
end Go.Sx

/- The pieces of a range over a function, picked out of a function's code. -/
namespace Go.Sx
def rangesIn : Code → List (Array Tmp × Code × Code)
  | .seq a b => rangesIn a ++ rangesIn b
  | .cond _ a b => rangesIn a ++ rangesIn b
  | .block _ c => rangesIn c
  | .scope c => rangesIn c
  | .loop c => rangesIn c
  | .rangeFunc _ ps a b => (ps, a, b) :: (rangesIn a ++ rangesIn b)
  | _ => []
/-- The k-th range over a function in the text of f. -/
def rangeOf (P : Program) (f k : Nat) : Array Tmp × Code × Code :=
  match P.funcs[f]? with
  | some fn => match fn.body with
    | some c => ((rangesIn c)[k]?).getD (#[], .skip, .skip)
    | none => (#[], .skip, .skip)
  | none => (#[], .skip, .skip)
/-- What is carried of the state of a range over a function; 'n': slots of the function that ranges; 'df': where its marks lie. -/
def LP.rf (N id : Nat) (P : Program) (f k n : Nat) (fx : List (Nat × SV)) (df : Nat) : LP N (LoopState × Option Code) :=
  LP.loopO N id n fx (rangeOf P f k).1 (rangeOf P f k).2.1 (rangeOf P f k).2.2 df
def pdB : Option Code → Option Code → Bool
  | none, none => true
  | some .ret, some .ret => true
  | some (.exit a), some (.exit b) => Nat.beq a b
  | some (.goto a), some (.goto b) => Nat.beq a b
  | _, _ => false
/-- How a loop may end, written out, and what is known of what is carried there. -/
def exitsS {γ : Type} (x : Ex × γ) : List ((Ex × γ → Bool) × Ex × (γ → γ)) → Tr (Ex × γ)
  | [] => .bad 645
  | [(_, e, s)] => .ret (e, s x.2)
  | (t, e, s) :: y :: r => .br (t x) (.ret (e, s x.2)) (exitsS x (y :: r))
def exitsOk {γ : Type} (x : Ex × γ) : List ((Ex × γ → Bool) × Ex × (γ → γ)) → Prop
  | [] => False
  | [(_, e, s)] => x.1 = e ∧ s x.2 = x.2
  | (t, e, s) :: y :: r => (t x = true → x.1 = e ∧ s x.2 = x.2) ∧ (t x = false → exitsOk x (y :: r))
theorem exitsS_holds {γ : Type} {x : Ex × γ} {K : Ex × γ → Prop} : ∀ {l : List ((Ex × γ → Bool) × Ex × (γ → γ))}, exitsOk x l → (exitsS x l).Holds K → K x
  | [], h, _ => h.elim
  | [(_, e, s)], h, hk => by
    obtain ⟨h1, h2⟩ := h
    have hk : K (e, s x.2) := hk
    rw [← h1, h2] at hk
    exact hk
  | (t, e, s) :: y :: r, h, hk => by
    cases hb : t x with
    | true =>
      obtain ⟨h1, h2⟩ := h.1 hb
      have hk : K (e, s x.2) := hk.1 hb
      rw [← h1, h2] at hk
      exact hk
    | false => exact exitsS_holds (l := y :: r) (h.2 hb) (hk.2 hb)
section
variable {P : Program} {Γ : Gam} {Λ : Lam} {N : Nat} {γ : Type}
noncomputable def loopRS (es : List ((Ex × γ → Bool) × Ex × (γ → γ))) (body : Code) (A : LP N γ) (DL : List Nat) (n0 : Nat) (Inv : γ → List Prop) (F : γ → Ex × γ) (m : γ → Nat) : LCon := loopC body A DL n0 Inv fun g => exitsS (loopF F m g) es
theorem loop_runS (ι : γ → γ) (hΓ : ∀ f g, Γ.g f = some g → FnOk P f g) (hΛ : ∀ f k L, Λ f k = some L → ∀ b ∈ loopsOf P f, lkey b = k → LoopOk P b L.g) (n f key n0 : Nat) (A : LP N γ) (DL : List Nat) (Inv : γ → List Prop) (F : γ → Ex × γ) (S : γ → Prop) (m : γ → Nat) (d : Ex × γ) (es : List ((Ex × γ → Bool) × Ex × (γ → γ)))
    (hu : ((loopsOf P f).filter fun c => Nat.beq (lkey c) key).length = 1)
    (hS : ∀ (rd : Option Nat) (T B : List (Nat × SV)) (HL HB : List (Nat × SE)) (ds : List Nat) (g : γ), (bT P Γ Λ n f rd (loopBody P f key) A DL n0 ⟨n0, T, ⟨N, HL, HB⟩, DL, B⟩ ds (ι g)).side = S g)
    (hF : ∀ (rd : Option Nat) (T B : List (Nat × SV)) (HL HB : List (Nat × SE)) (ds : List Nat) (g : γ), (bT P Γ Λ n f rd (loopBody P f key) A DL n0 ⟨n0, T, ⟨N, HL, HB⟩, DL, B⟩ ds (ι g)).ev d = F g)
    (hι : ∀ g, allP (Inv g) → ι g = g) (hs : ∀ g, allP (Inv g) → S g) (hg : Goes F m fun g => allP (Inv g)) (hes : ∀ g, (F g).1 = .normal ∨ exitsOk (F g) es) : ∀ b ∈ loopsOf P f, lkey b = key → LoopOk P b (loopRS es (loopBody P f key) A DL n0 Inv F m).g := by
  refine loop_ok hΓ hΛ n f key n0 A DL Inv _ m hu ?_
  intro rd T B HL HB ds g hi K hK
  have h1 : (bT P Γ Λ n f rd (loopBody P f key) A DL n0 ⟨n0, T, ⟨N, HL, HB⟩, DL, B⟩ ds (ι g)).side := by rw [hS]; exact hs g hi
  have h2 := Tr.side_holds d h1
  rw [hF, hι g hi] at h2
  refine Tr.mono ?_ h2
  rintro _ rfl
  have hK0 := hK
  have hx : exitsOk (loopF F m g) es := loopF_induct hg (Q := fun _ r => exitsOk r es) (fun g _ hn => (hes g).resolve_left hn) (fun _ _ _ _ _ _ _ ih => ih) g hi
  have hK : K (loopF F m g) := exitsS_holds hx hK
  unfold StepP
  split
  · rename_i he
    obtain ⟨k1, k2⟩ := hg g hi he
    refine ⟨k1, k2, ?_⟩
    show (exitsS (loopF F m (F g).2) es).Holds K
    rw [← loopF_next hg hi (g' := (F g).2) (by rw [← he])]
    exact hK0
  · rename_i he
    rw [loopF_end (by intro h; exact he h)] at hK
    exact hK
end
/-- A function that has captured one variable, as a result. -/
def Rv.fn1 {α : Type} (f : Nat) (R : Rv α) : Rv α where
  D := dFn1 f R.D
  dec h s := match s with
    | .fn f' [.p i 0] => match Nat.beq f f' with
      | true => match h.get i with
        | .cells [s'] _ => R.dec h s'
        | _ => none
      | false => none
    | _ => none
  ok {M w0 ρ h w G} hv {s r ps x} hd hp hf := by
    split at hd
    · rename_i f' i
      split at hd
      · rename_i hb
        split at hd
        · rename_i s' t hg
          have e1 := beq_of hb
          subst e1
          obtain ⟨l, rfl, hl⟩ := hf
          obtain ⟨y, r', rfl, hy, hr⟩ := fits_cons hl
          have := fits_nil hr
          subst this
          obtain ⟨_, rfl⟩ := hy
          have hob := hv.hm.ob i
          have hown := hv.hO i
          rw [hg] at hob hown
          obtain ⟨_, hz, v, hv', hfv⟩ := hob
          obtain ⟨z, r'', rfl, hz', hr''⟩ := fits_cons hfv
          have := fits_nil hr''
          subst this
          refine ⟨_, rfl, ⟨(ρ i).blk, (ρ i).off + 0, _, _, _, rfl, hown _ trivial hv', [z], ⟨R.ok hv hd hp hz', trivial⟩, fun j v hj => ?_⟩, trivial⟩
          cases j with
          | zero => simpa [hz] using hj
          | succ j => simp at hj
        · cases hd
      · cases hd
    · cases hd
end Go.Sx

/- Chapter 2: the counters that come, told: the loop. Printed by treegen.py. -/
namespace Go.Proofs.Ytapmlfklkfgmoaa
open Go.RowKit Go.Sx
set_option maxRecDepth 100000
set_option linter.unusedVariables false
abbrev dLI : Dv (List Int) := .list eI
abbrev rLI : Rv (List Int) := .list eI
abbrev dPu : Dv (List Int) := dFn1 67 dLI
abbrev aTo : DA (List Int × Int) := .cons dPu (.one dI)
abbrev vl_G : Type := List Int × Int × Int × Unit × Int × List Int × LoopState × Option Code
noncomputable def vl_LP : LP 4 vl_G := .pair (.slot 4 5 dLI) (.pair (.slot 4 6 dI) (.pair (.slot 4 7 dI) (.pair (.fix 4 0 (.yl 3)) (.pair (.obj 4 0 3 eI) (.pair (.objRow 4 1 45 2 eI) (.rf 4 3 Try.prog 35 0 20 [(3, .p 0 0), (5, .p 1 0)] 2))))))
noncomputable def vl_R (xs : List Int) (n : Int) (i : Int) (_u : Unit) (m : Int) (out : List Int) : Ex × vl_G :=
  bif decide (i < n) then
    bif decide ((↑out.length : Int) ≥ m) then
      (Ex.ret, eI.lst xs.length (eI.els xs), n, i, (), m, eI.lst out.length (eI.els out), LoopState.done,
        some (Code.exit (0 : Nat)))
    else
      (Ex.normal, eI.lst xs.length (eI.els xs), n, IntKind.i64.wrap (i + (1 : Int)), (), m,
        eI.lst (min (out.length + (1 : Nat)) out.length) (eI.els out) ++
          List.map (fun x => xs.getD i.toNat eI.dflt) (List.range (out.length + (1 : Nat) - out.length)),
        LoopState.ready, none)
  else
    (Ex.exit (0 : Nat), eI.lst xs.length (eI.els xs), n, i, (), m, eI.lst out.length (eI.els out), LoopState.ready, none)
def vl_side (xs : List Int) (n : Int) (i : Int) (_u : Unit) (m : Int) (out : List Int) : Prop :=
  (decide (i < n) = true →
      ((0 : Int) ≤ i ∧ i < (↑xs.length : Int)) ∧
        (decide ((↑out.length : Int) ≥ m) = true →
            (∀ (e : Nat), e < xs.length → eI.Ok (eI.els xs e)) ∧
              out.length ≤ out.length ∧
                (∀ (e : Nat), e < out.length → True) ∧
                  CodeIs (rangeOf Try.prog (35 : Nat) (0 : Nat)).snd.fst (rangeOf Try.prog (35 : Nat) (0 : Nat)).snd.fst ∧
                    CodeIs (rangeOf Try.prog (35 : Nat) (0 : Nat)).snd.snd
                      (rangeOf Try.prog (35 : Nat) (0 : Nat)).snd.snd) ∧
          (decide ((↑out.length : Int) ≥ m) = false →
            (out.length ≤ out.length ∧
                True ∧
                  out.length + (1 : Nat) ≤ maxLen ∧
                    (out.length + (1 : Nat)) * Try.prog.types[(2 : Nat)].bytes ≤ (140737488355328 : Nat)) ∧
              (∀ (e : Nat), e < xs.length → eI.Ok (eI.els xs e)) ∧
                out.length + (1 : Nat) ≤ out.length + (1 : Nat) ∧
                  (∀ (e : Nat), e < min (out.length + (1 : Nat)) out.length → True) ∧
                    (∀ (e : Nat), e < out.length + (1 : Nat) - out.length → True) ∧
                      CodeIs (rangeOf Try.prog (35 : Nat) (0 : Nat)).snd.fst
                          (rangeOf Try.prog (35 : Nat) (0 : Nat)).snd.fst ∧
                        CodeIs (rangeOf Try.prog (35 : Nat) (0 : Nat)).snd.snd
                          (rangeOf Try.prog (35 : Nat) (0 : Nat)).snd.snd)) ∧
    (decide (i < n) = false →
      (∀ (e : Nat), e < xs.length → eI.Ok (eI.els xs e)) ∧
        out.length ≤ out.length ∧
          (∀ (e : Nat), e < out.length → True) ∧
            CodeIs (rangeOf Try.prog (35 : Nat) (0 : Nat)).snd.fst (rangeOf Try.prog (35 : Nat) (0 : Nat)).snd.fst ∧
              CodeIs (rangeOf Try.prog (35 : Nat) (0 : Nat)).snd.snd (rangeOf Try.prog (35 : Nat) (0 : Nat)).snd.snd)
theorem vl_one : ((loopsOf Try.prog 67).filter fun c => Nat.beq (lkey c) 1).length = 1 := by kernel_rfl
abbrev vl_GC : Type := List Int × Int × Int
abbrev vl_GB : Type := List Int × LoopState × Option Code
def vl_f (g : vl_G) : Int × vl_GC × vl_GB := (g.2.2.1, (g.1, g.2.1, g.2.2.2.2.1), (g.2.2.2.2.2.1, g.2.2.2.2.2.2))
def vl_g (d : Int × vl_GC × vl_GB) : vl_G := (d.2.1.1, d.2.1.2.1, d.1, (), d.2.1.2.2, d.2.2.1, d.2.2.2)
def vl_E : List ((Ex × vl_G → Bool) × Ex × (vl_G → vl_G)) := [(fun x => exB (.ret) x.1, .ret, fun g => (g.1, g.2.1, g.2.2.1, g.2.2.2.1, g.2.2.2.2.1, g.2.2.2.2.2.1, (.done, some (.exit 0)))), (fun x => exB (.exit 0) x.1, .exit 0, fun g => (g.1, g.2.1, g.2.2.1, g.2.2.2.1, g.2.2.2.2.1, g.2.2.2.2.2.1, (.ready, none)))]
theorem vl_es (g : vl_G) : (vl_R g.1 g.2.1 g.2.2.1 g.2.2.2.1 g.2.2.2.2.1 g.2.2.2.2.2.1).1 = .normal ∨ exitsOk (vl_R g.1 g.2.1 g.2.2.1 g.2.2.2.1 g.2.2.2.2.1 g.2.2.2.2.2.1) vl_E := by
  unfold vl_R
  repeat' (first | (left; rfl) | (right; exact ⟨fun _ => ⟨rfl, rfl⟩, fun h => absurd h (by simp [exB, pdB])⟩) | (right; exact ⟨fun h => absurd h (by simp [exB, pdB]), fun _ => ⟨rfl, rfl⟩⟩) | (rw [Bool.cond_eq_ite]; split))
noncomputable abbrev vl_C (Inv : vl_G → List Prop) (m : vl_G → Nat) : LCon := loopRS vl_E (loopBody Try.prog 67 1) vl_LP [] 16 Inv (fun g => vl_R g.1 g.2.1 g.2.2.1 g.2.2.2.1 g.2.2.2.2.1 g.2.2.2.2.2.1) m
noncomputable def vl_i (g : vl_G) : vl_G := (g.1, g.2.1, g.2.2.1, g.2.2.2.1, g.2.2.2.2.1, g.2.2.2.2.2.1, (LoopState.ready, none))
theorem vl_loop (Inv : vl_G → List Prop) (m : vl_G → Nat) (hs : ∀ g, allP (Inv g) → vl_side g.1 g.2.1 g.2.2.1 g.2.2.2.1 g.2.2.2.2.1 g.2.2.2.2.2.1) (hι : ∀ g, allP (Inv g) → vl_i g = g) (hg : Goes (fun g : vl_G => vl_R g.1 g.2.1 g.2.2.1 g.2.2.2.1 g.2.2.2.2.1 g.2.2.2.2.2.1) m fun g => allP (Inv g)) : ∀ b ∈ loopsOf Try.prog 67, lkey b = 1 → LoopOk Try.prog b (vl_C Inv m).g := loop_runS vl_i (Γ := (PTab.gamz tab7 [] [(30, 3, 6), (67, 1, 6)])) (Λ := noΛ) (PTab.okz tab7 [] [(30, 3, 6), (67, 1, 6)]) noΛ_ok 100 67 1 16 vl_LP [] Inv (fun g => vl_R g.1 g.2.1 g.2.2.1 g.2.2.2.1 g.2.2.2.2.1 g.2.2.2.2.2.1) (fun g => vl_side g.1 g.2.1 g.2.2.1 g.2.2.2.1 g.2.2.2.2.1 g.2.2.2.2.2.1) m default vl_E vl_one (fun rd T B HL HB ds g => by kernel_rfl) (fun rd T B HL HB ds g => by kernel_rfl) hι hs hg vl_es
noncomputable def tab14 : PTab Try.prog := tab7
end Go.Proofs.Ytapmlfklkfgmoaa

/- Loops over lists, and what they come to: plain laws for all chapters. -/
namespace Go.Lp
open Go.Sx
abbrev w64 (n : Int) : Int := IntKind.i64.wrap n
theorem wr {n : Int} (h : 0 ≤ n ∧ n ≤ 9223372036854775807) : w64 n = n := by
  unfold w64
  simp [IntKind.wrap, IntKind.bits, IntKind.signed]
  omega
/-- What asks of lists is given. -/
def inR (n i : Int) : Prop := 0 ≤ i ∧ i ≤ n ∧ n ≤ 9223372036854775807

section
variable {α σ : Type}
/-! ### where the first is of which something holds -/
abbrev FiG (α σ : Type) := List α × σ × Int × Int × Int
def fiF (d : α) (p : σ → α → Bool) (g : FiG α σ) : Ex × FiG α σ :=
  bif decide (g.2.2.2.1 < g.2.2.1) then
    bif p g.2.1 (g.1.getD g.2.2.2.1.toNat d) then (.ret, g.1, g.2.1, g.2.2.1, g.2.2.2.1, g.2.2.2.1) else (.normal, g.1, g.2.1, g.2.2.1, w64 (g.2.2.2.1 + 1), g.2.2.2.2)
  else (.exit 0, g)
def fiI (g : FiG α σ) : List Prop := [g.2.2.1 = (g.1.length : Int) ∧ g.1.length ≤ maxLen ∧ 0 ≤ g.2.2.2.1 ∧ g.2.2.2.1 ≤ (g.1.length : Int)]
def fiM (g : FiG α σ) : Nat := (g.2.2.1 - g.2.2.2.1).toNat
theorem fi_goes (d : α) (p : σ → α → Bool) : Goes (fiF d p) fiM fun g => allP (fiI g) := by
  rintro ⟨xs, s, n, i, r0⟩ hi hn
  obtain ⟨h1, h2, h3, h4⟩ := hi _ (List.mem_cons_self ..)
  simp only at h1 h2 h3 h4
  unfold maxLen at h2
  unfold fiF at hn ⊢
  simp only at hn ⊢
  by_cases hlt : i < n
  · simp only [hlt, decide_true, cond_true] at hn ⊢
    cases hp : p s (xs.getD i.toNat d) with
    | true => rw [hp] at hn; cases hn
    | false =>
      simp only [cond_false]
      rw [wr (by omega)]
      refine ⟨fun q hq => ?_, ?_⟩
      · simp only [fiI, List.mem_singleton] at hq
        subst hq
        exact ⟨h1, by unfold maxLen; omega, by show (0 : Int) ≤ i + 1; omega, by show i + 1 ≤ (xs.length : Int); omega⟩
      · simp only [fiM]; omega
  · simp only [hlt, decide_false, cond_false] at hn
    cases hn
/-- What it comes to. -/
theorem fi_run (d : α) (p : σ → α → Bool) : ∀ g : FiG α σ, allP (fiI g) →
    (((loopF (fiF d p) fiM g).1 = .ret ∧ 0 ≤ (loopF (fiF d p) fiM g).2.2.2.2.2 ∧ (loopF (fiF d p) fiM g).2.2.2.2.2 < (g.1.length : Int) ∧ (g.1.drop g.2.2.2.1.toNat).any (p g.2.1) = true) ∨
     ((loopF (fiF d p) fiM g).1 = .exit 0 ∧ (g.1.drop g.2.2.2.1.toNat).any (p g.2.1) = false)) := by
  refine loopF_induct (fi_goes d p) (Q := fun g r => ((r.1 = .ret ∧ 0 ≤ r.2.2.2.2.2 ∧ r.2.2.2.2.2 < (g.1.length : Int) ∧ (g.1.drop g.2.2.2.1.toNat).any (p g.2.1) = true) ∨ (r.1 = .exit 0 ∧ (g.1.drop g.2.2.2.1.toNat).any (p g.2.1) = false))) ?_ ?_
  · rintro ⟨xs, s, n, i, r0⟩ hi hn
    obtain ⟨h1, h2, h3, h4⟩ := hi _ (List.mem_cons_self ..)
    simp only at h1 h2 h3 h4
    unfold fiF at hn ⊢
    simp only at hn ⊢
    by_cases hlt : i < n
    · simp only [hlt, decide_true, cond_true] at hn ⊢
      have hlt' : i.toNat < xs.length := by omega
      have hd : xs.drop i.toNat = xs.getD i.toNat d :: xs.drop (i.toNat + 1) := by
        rw [List.drop_eq_getElem_cons hlt']
        simp [List.getD_eq_getElem?_getD, hlt']
      cases hp : p s (xs.getD i.toNat d) with
      | true =>
        left
        simp only [cond_true]
        refine ⟨trivial, h3, by omega, ?_⟩
        rw [hd, List.any_cons, hp]; rfl
      | false => rw [hp] at hn; exact absurd rfl hn
    · right
      simp only [hlt, decide_false, cond_false]
      refine ⟨trivial, ?_⟩
      rw [List.drop_eq_nil_of_le (by omega)]; rfl
  · rintro ⟨xs, s, n, i, r0⟩ g' r hi he hi' _ hq
    obtain ⟨h1, h2, h3, h4⟩ := hi _ (List.mem_cons_self ..)
    simp only at h1 h2 h3 h4
    unfold maxLen at h2
    unfold fiF at he
    simp only at he
    by_cases hlt : i < n
    · simp only [hlt, decide_true, cond_true] at he
      have hlt' : i.toNat < xs.length := by omega
      have hd : xs.drop i.toNat = xs.getD i.toNat d :: xs.drop (i.toNat + 1) := by
        rw [List.drop_eq_getElem_cons hlt']
        simp [List.getD_eq_getElem?_getD, hlt']
      cases hp : p s (xs.getD i.toNat d) with
      | true => rw [hp] at he; cases he
      | false =>
        rw [hp] at he
        simp only [cond_false, Prod.mk.injEq, true_and] at he
        subst he
        simp only at hq ⊢
        rw [wr (by omega)] at hq
        rw [hd, List.any_cons, hp, Bool.false_or]
        have : (i + 1).toNat = i.toNat + 1 := by omega
        rw [this] at hq
        exact hq
    · simp only [hlt, decide_false, cond_false] at he
      cases he
theorem fi_any (d : α) (p : σ → α → Bool) (xs : List α) (s : σ) (r0 : Int) (h : xs.length ≤ maxLen) :
    ((exB .ret (loopF (fiF d p) fiM (xs, s, (xs.length : Int), 0, r0)).1) = xs.any (p s)) ∧ ((loopF (fiF d p) fiM (xs, s, (xs.length : Int), 0, r0)).1 = .ret → 0 ≤ (loopF (fiF d p) fiM (xs, s, (xs.length : Int), 0, r0)).2.2.2.2.2) := by
  have h0 : allP (fiI ((xs, s, (xs.length : Int), (0 : Int), r0) : FiG α σ)) := fun q hq => by
    simp only [fiI, List.mem_singleton] at hq
    subst hq
    exact ⟨trivial, h, Int.le_refl _, by show (0 : Int) ≤ (xs.length : Int); omega⟩
  rcases fi_run d p (xs, s, (xs.length : Int), 0, r0) h0 with ⟨h1, h2, _, h3⟩ | ⟨h1, h3⟩
  · refine ⟨?_, fun _ => h2⟩
    rw [h1]
    have h4 : (xs.drop 0).any (p s) = true := h3
    rw [List.drop_zero] at h4
    exact h4.symm
  · refine ⟨?_, fun h => ?_⟩
    · rw [h1]
      have : (xs.drop 0).any (p s) = false := h3
      simp only [List.drop_zero] at this
      rw [this]; rfl
    · rw [h1] at h; cases h

/-! ### are two lists the same -/
abbrev SaG (α : Type) := List α × List α × Int × Bool
def saF (d : α) (eq : α → α → Bool) (g : SaG α) : Ex × SaG α :=
  bif decide (g.2.2.1 < (g.1.length : Int)) then
    bif !eq (g.1.getD g.2.2.1.toNat d) (g.2.1.getD g.2.2.1.toNat d) then (.ret, g.1, g.2.1, g.2.2.1, false) else (.normal, g.1, g.2.1, w64 (g.2.2.1 + 1), g.2.2.2)
  else (.exit 0, g)
def saI (g : SaG α) : List Prop := [g.1.length = g.2.1.length ∧ g.1.length ≤ maxLen ∧ 0 ≤ g.2.2.1 ∧ g.2.2.1 ≤ (g.1.length : Int)]
def saM (g : SaG α) : Nat := ((g.1.length : Int) - g.2.2.1).toNat
theorem sa_goes (d : α) (eq : α → α → Bool) : Goes (saF d eq) saM fun g => allP (saI g) := by
  rintro ⟨xs, ys, i, r0⟩ hi hn
  obtain ⟨h1, h2, h3, h4⟩ := hi _ (List.mem_cons_self ..)
  simp only at h1 h2 h3 h4
  unfold maxLen at h2
  unfold saF at hn ⊢
  simp only at hn ⊢
  by_cases hlt : i < (xs.length : Int)
  · simp only [hlt, decide_true, cond_true] at hn ⊢
    cases hp : !eq (xs.getD i.toNat d) (ys.getD i.toNat d) with
    | true => rw [hp] at hn; cases hn
    | false =>
      simp only [cond_false]
      rw [wr (by omega)]
      refine ⟨fun q hq => ?_, ?_⟩
      · simp only [saI, List.mem_singleton] at hq
        subst hq
        exact ⟨h1, by unfold maxLen; omega, by show (0 : Int) ≤ i + 1; omega, by show i + 1 ≤ (xs.length : Int); omega⟩
      · simp only [saM]; omega
  · simp only [hlt, decide_false, cond_false] at hn
    cases hn
theorem sa_run (d : α) (eq : α → α → Bool) (heq : ∀ a b, eq a b = true ↔ a = b) : ∀ g : SaG α, allP (saI g) →
    (((loopF (saF d eq) saM g).1 = .ret ∧ (loopF (saF d eq) saM g).2.2.2.2 = false ∧ g.1.drop g.2.2.1.toNat ≠ g.2.1.drop g.2.2.1.toNat) ∨ ((loopF (saF d eq) saM g).1 = .exit 0 ∧ g.1.drop g.2.2.1.toNat = g.2.1.drop g.2.2.1.toNat)) := by
  refine loopF_induct (sa_goes d eq) (Q := fun g r => ((r.1 = .ret ∧ r.2.2.2.2 = false ∧ g.1.drop g.2.2.1.toNat ≠ g.2.1.drop g.2.2.1.toNat) ∨ (r.1 = .exit 0 ∧ g.1.drop g.2.2.1.toNat = g.2.1.drop g.2.2.1.toNat))) ?_ ?_
  · rintro ⟨xs, ys, i, r0⟩ hi hn
    obtain ⟨h1, h2, h3, h4⟩ := hi _ (List.mem_cons_self ..)
    simp only at h1 h2 h3 h4
    unfold saF at hn ⊢
    simp only at hn ⊢
    by_cases hlt : i < (xs.length : Int)
    · simp only [hlt, decide_true, cond_true] at hn ⊢
      have l1 : i.toNat < xs.length := by omega
      have l2 : i.toNat < ys.length := by omega
      cases hp : !eq (xs.getD i.toNat d) (ys.getD i.toNat d) with
      | true =>
        left
        simp only [cond_true]
        refine ⟨trivial, trivial, fun hc => ?_⟩
        rw [List.drop_eq_getElem_cons l1, List.drop_eq_getElem_cons l2] at hc
        injection hc with hc _
        have : eq (xs.getD i.toNat d) (ys.getD i.toNat d) = true := (heq _ _).2 (by simp [List.getD_eq_getElem?_getD, l1, l2, hc])
        rw [this] at hp; cases hp
      | false => rw [hp] at hn; exact absurd rfl hn
    · right
      simp only [hlt, decide_false, cond_false]
      refine ⟨trivial, ?_⟩
      rw [List.drop_eq_nil_of_le (by omega), List.drop_eq_nil_of_le (by omega)]
  · rintro ⟨xs, ys, i, r0⟩ g' r hi he hi' _ hq
    obtain ⟨h1, h2, h3, h4⟩ := hi _ (List.mem_cons_self ..)
    simp only at h1 h2 h3 h4
    unfold maxLen at h2
    unfold saF at he
    simp only at he
    by_cases hlt : i < (xs.length : Int)
    · simp only [hlt, decide_true, cond_true] at he
      have l1 : i.toNat < xs.length := by omega
      have l2 : i.toNat < ys.length := by omega
      cases hp : !eq (xs.getD i.toNat d) (ys.getD i.toNat d) with
      | true => rw [hp] at he; cases he
      | false =>
        rw [hp] at he
        simp only [cond_false, Prod.mk.injEq, true_and] at he
        subst he
        simp only at hq ⊢
        rw [wr (by omega)] at hq
        have e1 : (i + 1).toNat = i.toNat + 1 := by omega
        rw [e1] at hq
        have e2 : xs[i.toNat] = ys[i.toNat] := by
          have h5 : eq (xs.getD i.toNat d) (ys.getD i.toNat d) = true := by simpa using hp
          have h6 := (heq _ _).1 h5
          simpa [List.getD_eq_getElem?_getD, l1, l2] using h6
        rw [List.drop_eq_getElem_cons l1, List.drop_eq_getElem_cons l2, e2]
        simp only [List.cons.injEq, true_and, ne_eq]
        exact hq
    · simp only [hlt, decide_false, cond_false] at he
      cases he
theorem sa_eq [DecidableEq α] (d : α) (eq : α → α → Bool) (heq : ∀ a b, eq a b = true ↔ a = b) (xs ys : List α) (r0 : Bool) (h : xs.length ≤ maxLen) (hl : xs.length = ys.length) :
    (bif exB .ret (loopF (saF d eq) saM (xs, ys, 0, r0)).1 then (loopF (saF d eq) saM (xs, ys, 0, r0)).2.2.2.2 else true) = decide (xs = ys) := by
  have h0 : allP (saI ((xs, ys, (0 : Int), r0) : SaG α)) := fun q hq => by
    simp only [saI, List.mem_singleton] at hq
    subst hq
    exact ⟨hl, h, Int.le_refl _, by show (0 : Int) ≤ (xs.length : Int); omega⟩
  rcases sa_run d eq heq (xs, ys, 0, r0) h0 with ⟨h1, h3, h2⟩ | ⟨h1, h2⟩
  · rw [h1, h3]
    have : xs ≠ ys := by simpa using h2
    simp [this, exB]
  · rw [h1]
    have : xs = ys := by simpa using h2
    simp [this, exB]
end
end Go.Lp

/- Loops that look for a fault, that pick from a list, that ask all: plain laws. -/
namespace Go.Lp
open Go.Sx
section
variable {α β : Type}
theorem drop_at (d : α) {xs : List α} {i : Nat} (h : i < xs.length) : xs.drop i = xs.getD i d :: xs.drop (i + 1) := by
  rw [List.drop_eq_getElem_cons h]
  simp [List.getD_eq_getElem?_getD, h]
theorem take_at (d : α) {xs : List α} {i : Nat} (h : i < xs.length) : xs.take (i + 1) = xs.take i ++ [xs.getD i d] := by
  rw [List.take_add_one]
  simp [List.getD_eq_getElem?_getD, h]
/-! ### a fault: 'for range xs { if p(x) { return .., c } }' -/
abbrev ErG (α : Type) := List α × Int × Int × Unit × Int
def erF (x : Nat) (d : α) (p : α → Bool) (c : Int) (g : ErG α) : Ex × ErG α :=
  bif decide (g.2.2.1 < g.2.1) then
    bif p (g.1.getD g.2.2.1.toNat d) then (.ret, g.1, g.2.1, g.2.2.1, (), c) else (.normal, g.1, g.2.1, w64 (g.2.2.1 + 1), (), g.2.2.2.2)
  else (.exit x, g)
def erI (g : ErG α) : List Prop := [g.2.1 = (g.1.length : Int) ∧ g.1.length ≤ maxLen ∧ 0 ≤ g.2.2.1 ∧ g.2.2.1 ≤ (g.1.length : Int)]
def erM (g : ErG α) : Nat := (g.2.1 - g.2.2.1).toNat
theorem er_goes (x : Nat) (d : α) (p : α → Bool) (c : Int) : Goes (erF x d p c) erM fun g => allP (erI g) := by
  rintro ⟨xs, n, i, ⟨⟩, e⟩ hi hn
  obtain ⟨h1, h2, h3, h4⟩ := hi _ (List.mem_cons_self ..)
  simp only at h1 h2 h3 h4
  unfold maxLen at h2
  unfold erF at hn ⊢
  simp only at hn ⊢
  by_cases hlt : i < n
  · simp only [hlt, decide_true, cond_true] at hn ⊢
    cases hp : p (xs.getD i.toNat d) with
    | true => rw [hp] at hn; cases hn
    | false =>
      simp only [cond_false]
      rw [wr (by omega)]
      refine ⟨fun q hq => ?_, ?_⟩
      · simp only [erI, List.mem_singleton] at hq
        subst hq
        exact ⟨h1, by unfold maxLen; omega, by show (0 : Int) ≤ i + 1; omega, by show i + 1 ≤ (xs.length : Int); omega⟩
      · simp only [erM]; omega
  · simp only [hlt, decide_false, cond_false] at hn
    cases hn
theorem er_run (x : Nat) (d : α) (p : α → Bool) (c : Int) : ∀ g : ErG α, allP (erI g) →
    (((loopF (erF x d p c) erM g).1 = .ret ∧ (loopF (erF x d p c) erM g).2.2.2.2.2 = c ∧ (loopF (erF x d p c) erM g).2.1 = g.1 ∧ (g.1.drop g.2.2.1.toNat).any p = true) ∨
     ((loopF (erF x d p c) erM g).1 = .exit x ∧ (loopF (erF x d p c) erM g).2.2.2.2.2 = g.2.2.2.2 ∧ (loopF (erF x d p c) erM g).2.1 = g.1 ∧ (g.1.drop g.2.2.1.toNat).any p = false)) := by
  refine loopF_induct (er_goes x d p c) (Q := fun g r => ((r.1 = .ret ∧ r.2.2.2.2.2 = c ∧ r.2.1 = g.1 ∧ (g.1.drop g.2.2.1.toNat).any p = true) ∨ (r.1 = .exit x ∧ r.2.2.2.2.2 = g.2.2.2.2 ∧ r.2.1 = g.1 ∧ (g.1.drop g.2.2.1.toNat).any p = false))) ?_ ?_
  · rintro ⟨xs, n, i, ⟨⟩, e⟩ hi hn
    obtain ⟨h1, h2, h3, h4⟩ := hi _ (List.mem_cons_self ..)
    simp only at h1 h2 h3 h4
    unfold erF at hn ⊢
    simp only at hn ⊢
    by_cases hlt : i < n
    · simp only [hlt, decide_true, cond_true] at hn ⊢
      have hlt' : i.toNat < xs.length := by omega
      cases hp : p (xs.getD i.toNat d) with
      | true =>
        left
        simp only [cond_true]
        refine ⟨trivial, trivial, trivial, ?_⟩
        rw [drop_at d hlt', List.any_cons, hp]; rfl
      | false => rw [hp] at hn; exact absurd rfl hn
    · right
      simp only [hlt, decide_false, cond_false]
      refine ⟨trivial, trivial, trivial, ?_⟩
      rw [List.drop_eq_nil_of_le (by omega)]; rfl
  · rintro ⟨xs, n, i, ⟨⟩, e⟩ g' r hi he hi' _ hq
    obtain ⟨h1, h2, h3, h4⟩ := hi _ (List.mem_cons_self ..)
    simp only at h1 h2 h3 h4
    unfold maxLen at h2
    unfold erF at he
    simp only at he
    by_cases hlt : i < n
    · simp only [hlt, decide_true, cond_true] at he
      have hlt' : i.toNat < xs.length := by omega
      cases hp : p (xs.getD i.toNat d) with
      | true => rw [hp] at he; cases he
      | false =>
        rw [hp] at he
        simp only [cond_false, Prod.mk.injEq, true_and] at he
        subst he
        simp only at hq ⊢
        rw [wr (by omega)] at hq
        rw [drop_at d hlt', List.any_cons, hp, Bool.false_or]
        have : (i + 1).toNat = i.toNat + 1 := by omega
        rw [this] at hq
        exact hq
    · simp only [hlt, decide_false, cond_false] at he
      cases he
theorem er_any (x : Nat) (d : α) (p : α → Bool) (c : Int) (xs : List α) (e : Int) (h : xs.length ≤ maxLen) :
    exB .ret (loopF (erF x d p c) erM (xs, (xs.length : Int), 0, (), e)).1 = xs.any p ∧ (loopF (erF x d p c) erM (xs, (xs.length : Int), 0, (), e)).2.2.2.2.2 = (bif xs.any p then c else e) := by
  have h0 : allP (erI ((xs, (xs.length : Int), (0 : Int), (), e) : ErG α)) := fun q hq => by
    simp only [erI, List.mem_singleton] at hq
    subst hq
    exact ⟨trivial, h, Int.le_refl _, by show (0 : Int) ≤ (xs.length : Int); omega⟩
  rcases er_run x d p c _ h0 with ⟨h1, h2, _, h3⟩ | ⟨h1, h2, _, h3⟩
  · have h4 : (xs.drop 0).any p = true := h3
    rw [List.drop_zero] at h4
    rw [h1, h2, h4]; exact ⟨rfl, rfl⟩
  · have h4 : (xs.drop 0).any p = false := h3
    rw [List.drop_zero] at h4
    rw [h1, h2, h4]; exact ⟨rfl, rfl⟩
/-! ### pick: 'for range xs { if bad(x) { return .., c }; out = step(out, x) }' -/
abbrev FlG (α β : Type) := List α × β × List α × Int × Int × Unit × Int
def flF (x : Nat) (d : α) (bad : List α → α → Bool) (step : List α → β → α → β) (c : Int) (g : FlG α β) : Ex × FlG α β :=
  bif decide (g.2.2.2.2.1 < g.2.2.2.1) then
    bif bad g.1 (g.2.2.1.getD g.2.2.2.2.1.toNat d) then (.ret, g.1, g.2.1, g.2.2.1, g.2.2.2.1, g.2.2.2.2.1, (), c)
    else (.normal, g.1, step g.1 g.2.1 (g.2.2.1.getD g.2.2.2.2.1.toNat d), g.2.2.1, g.2.2.2.1, w64 (g.2.2.2.2.1 + 1), (), g.2.2.2.2.2.2)
  else (.exit x, g)
/-- 'ok': what is kept of what has been made of a beginning. -/
def flI (ok : List α → β → Nat → Prop) (g : FlG α β) : List Prop := [g.2.2.2.1 = (g.1.length : Int) ∧ g.2.2.1 = g.1 ∧ g.1.length ≤ maxLen ∧ 0 ≤ g.2.2.2.2.1 ∧ g.2.2.2.2.1 ≤ (g.1.length : Int) ∧ ok g.1 g.2.1 g.2.2.2.2.1.toNat]
def flM (g : FlG α β) : Nat := (g.2.2.2.1 - g.2.2.2.2.1).toNat
section
variable (x : Nat) (d : α) (bad : List α → α → Bool) (step : List α → β → α → β) (c : Int) (ok : List α → β → Nat → Prop)
variable (hok : ∀ xs b i, i < xs.length → ok xs b i → ok xs (step xs b (xs.getD i d)) (i + 1))
include hok
theorem fl_goes : Goes (flF x d bad step c) flM fun g => allP (flI ok g) := by
  rintro ⟨xs, b, ys, n, i, ⟨⟩, e⟩ hi hn
  obtain ⟨h1, h0, h2, h3, h4, h5⟩ := hi _ (List.mem_cons_self ..)
  simp only at h1 h0 h2 h3 h4 h5
  subst h0
  have h2' := h2
  unfold maxLen at h2
  unfold flF at hn ⊢
  simp only at hn ⊢
  by_cases hlt : i < n
  · simp only [hlt, decide_true, cond_true] at hn ⊢
    cases hp : bad ys (ys.getD i.toNat d) with
    | true => rw [hp] at hn; cases hn
    | false =>
      simp only [cond_false]
      rw [wr (by omega)]
      refine ⟨fun q hq => ?_, ?_⟩
      · simp only [flI, List.mem_singleton] at hq
        subst hq
        refine ⟨h1, trivial, h2', by show (0 : Int) ≤ i + 1; omega, by show i + 1 ≤ (ys.length : Int); omega, ?_⟩
        have := hok ys b i.toNat (by omega) h5
        have e1 : (i + 1).toNat = i.toNat + 1 := by omega
        rw [e1]; exact this
      · simp only [flM]; omega
  · simp only [hlt, decide_false, cond_false] at hn
    cases hn
theorem fl_run : ∀ g : FlG α β, allP (flI ok g) →
    (((loopF (flF x d bad step c) flM g).1 = .ret ∧ (loopF (flF x d bad step c) flM g).2.2.2.2.2.2.2 = c ∧ (g.1.drop g.2.2.2.2.1.toNat).any (bad g.1) = true) ∨
     ((loopF (flF x d bad step c) flM g).1 = .exit x ∧ (loopF (flF x d bad step c) flM g).2.2.2.2.2.2.2 = g.2.2.2.2.2.2 ∧ (loopF (flF x d bad step c) flM g).2.1 = g.1 ∧ (loopF (flF x d bad step c) flM g).2.2.1 = (g.1.drop g.2.2.2.2.1.toNat).foldl (step g.1) g.2.1 ∧ ok g.1 (loopF (flF x d bad step c) flM g).2.2.1 g.1.length ∧ (g.1.drop g.2.2.2.2.1.toNat).any (bad g.1) = false)) := by
  refine loopF_induct (fl_goes x d bad step c ok hok) (Q := fun g r => ((r.1 = .ret ∧ r.2.2.2.2.2.2.2 = c ∧ (g.1.drop g.2.2.2.2.1.toNat).any (bad g.1) = true) ∨
     (r.1 = .exit x ∧ r.2.2.2.2.2.2.2 = g.2.2.2.2.2.2 ∧ r.2.1 = g.1 ∧ r.2.2.1 = (g.1.drop g.2.2.2.2.1.toNat).foldl (step g.1) g.2.1 ∧ ok g.1 r.2.2.1 g.1.length ∧ (g.1.drop g.2.2.2.2.1.toNat).any (bad g.1) = false))) ?_ ?_
  · rintro ⟨xs, b, ys, n, i, ⟨⟩, e⟩ hi hn
    obtain ⟨h1, h0, h2, h3, h4, h5⟩ := hi _ (List.mem_cons_self ..)
    simp only at h1 h0 h2 h3 h4 h5
    subst h0
    unfold flF at hn ⊢
    simp only at hn ⊢
    by_cases hlt : i < n
    · simp only [hlt, decide_true, cond_true] at hn ⊢
      have hlt' : i.toNat < ys.length := by omega
      cases hp : bad ys (ys.getD i.toNat d) with
      | true =>
        left
        simp only [cond_true]
        refine ⟨trivial, trivial, ?_⟩
        rw [drop_at d hlt', List.any_cons, hp]; rfl
      | false => rw [hp] at hn; exact absurd rfl hn
    · right
      simp only [hlt, decide_false, cond_false]
      have e1 : i.toNat = ys.length := by omega
      refine ⟨trivial, trivial, trivial, ?_, ?_, ?_⟩
      · rw [List.drop_eq_nil_of_le (by omega)]; rfl
      · rw [← e1]; exact h5
      · rw [List.drop_eq_nil_of_le (by omega)]; rfl
  · rintro ⟨xs, b, ys, n, i, ⟨⟩, e⟩ g' r hi he hi' _ hq
    obtain ⟨h1, h0, h2, h3, h4, h5⟩ := hi _ (List.mem_cons_self ..)
    simp only at h1 h0 h2 h3 h4 h5
    subst h0
    unfold maxLen at h2
    unfold flF at he
    simp only at he
    by_cases hlt : i < n
    · simp only [hlt, decide_true, cond_true] at he
      have hlt' : i.toNat < ys.length := by omega
      cases hp : bad ys (ys.getD i.toNat d) with
      | true => rw [hp] at he; cases he
      | false =>
        rw [hp] at he
        simp only [cond_false, Prod.mk.injEq, true_and] at he
        subst he
        simp only at hq ⊢
        rw [wr (by omega)] at hq
        rw [drop_at d hlt', List.any_cons, hp, Bool.false_or, List.foldl_cons]
        have : (i + 1).toNat = i.toNat + 1 := by omega
        rw [this] at hq
        exact hq
    · simp only [hlt, decide_false, cond_false] at he
      cases he
end
/-! ### the same, where the length is asked for each time -/
abbrev Er2G (α : Type) := List α × Int × Unit × Int
def er2F (x : Nat) (d : α) (p : α → Bool) (c : Int) (g : Er2G α) : Ex × Er2G α :=
  bif decide (g.2.1 < (g.1.length : Int)) then
    bif p (g.1.getD g.2.1.toNat d) then (.ret, g.1, g.2.1, (), c) else (.normal, g.1, w64 (g.2.1 + 1), (), g.2.2.2)
  else (.exit x, g)
def er2I (g : Er2G α) : List Prop := [g.1.length ≤ maxLen ∧ 0 ≤ g.2.1 ∧ g.2.1 ≤ (g.1.length : Int)]
def er2M (g : Er2G α) : Nat := ((g.1.length : Int) - g.2.1).toNat
theorem er2_goes (x : Nat) (d : α) (p : α → Bool) (c : Int) : Goes (er2F x d p c) er2M fun g => allP (er2I g) := by
  rintro ⟨xs, i, ⟨⟩, e⟩ hi hn
  obtain ⟨h2, h3, h4⟩ := hi _ (List.mem_cons_self ..)
  simp only at h2 h3 h4
  unfold maxLen at h2
  unfold er2F at hn ⊢
  simp only at hn ⊢
  by_cases hlt : i < (xs.length : Int)
  · simp only [hlt, decide_true, cond_true] at hn ⊢
    cases hp : p (xs.getD i.toNat d) with
    | true => rw [hp] at hn; cases hn
    | false =>
      simp only [cond_false]
      rw [wr (by omega)]
      refine ⟨fun q hq => ?_, ?_⟩
      · simp only [er2I, List.mem_singleton] at hq
        subst hq
        exact ⟨by unfold maxLen; omega, by show (0 : Int) ≤ i + 1; omega, by show i + 1 ≤ (xs.length : Int); omega⟩
      · simp only [er2M]; omega
  · simp only [hlt, decide_false, cond_false] at hn
    cases hn
theorem er2_run (x : Nat) (d : α) (p : α → Bool) (c : Int) : ∀ g : Er2G α, allP (er2I g) →
    (((loopF (er2F x d p c) er2M g).1 = .ret ∧ (loopF (er2F x d p c) er2M g).2.2.2.2 = c ∧ (loopF (er2F x d p c) er2M g).2.1 = g.1 ∧ (g.1.drop g.2.1.toNat).any p = true) ∨
     ((loopF (er2F x d p c) er2M g).1 = .exit x ∧ (loopF (er2F x d p c) er2M g).2.2.2.2 = g.2.2.2 ∧ (loopF (er2F x d p c) er2M g).2.1 = g.1 ∧ (g.1.drop g.2.1.toNat).any p = false)) := by
  refine loopF_induct (er2_goes x d p c) (Q := fun g r => ((r.1 = .ret ∧ r.2.2.2.2 = c ∧ r.2.1 = g.1 ∧ (g.1.drop g.2.1.toNat).any p = true) ∨ (r.1 = .exit x ∧ r.2.2.2.2 = g.2.2.2 ∧ r.2.1 = g.1 ∧ (g.1.drop g.2.1.toNat).any p = false))) ?_ ?_
  · rintro ⟨xs, i, ⟨⟩, e⟩ hi hn
    obtain ⟨h2, h3, h4⟩ := hi _ (List.mem_cons_self ..)
    simp only at h2 h3 h4
    unfold er2F at hn ⊢
    simp only at hn ⊢
    by_cases hlt : i < (xs.length : Int)
    · simp only [hlt, decide_true, cond_true] at hn ⊢
      have hlt' : i.toNat < xs.length := by omega
      cases hp : p (xs.getD i.toNat d) with
      | true =>
        left
        simp only [cond_true]
        refine ⟨trivial, trivial, trivial, ?_⟩
        rw [drop_at d hlt', List.any_cons, hp]; rfl
      | false => rw [hp] at hn; exact absurd rfl hn
    · right
      simp only [hlt, decide_false, cond_false]
      refine ⟨trivial, trivial, trivial, ?_⟩
      rw [List.drop_eq_nil_of_le (by omega)]; rfl
  · rintro ⟨xs, i, ⟨⟩, e⟩ g' r hi he hi' _ hq
    obtain ⟨h2, h3, h4⟩ := hi _ (List.mem_cons_self ..)
    simp only at h2 h3 h4
    unfold maxLen at h2
    unfold er2F at he
    simp only at he
    by_cases hlt : i < (xs.length : Int)
    · simp only [hlt, decide_true, cond_true] at he
      have hlt' : i.toNat < xs.length := by omega
      cases hp : p (xs.getD i.toNat d) with
      | true => rw [hp] at he; cases he
      | false =>
        rw [hp] at he
        simp only [cond_false, Prod.mk.injEq, true_and] at he
        subst he
        simp only at hq ⊢
        rw [wr (by omega)] at hq
        rw [drop_at d hlt', List.any_cons, hp, Bool.false_or]
        have : (i + 1).toNat = i.toNat + 1 := by omega
        rw [this] at hq
        exact hq
    · simp only [hlt, decide_false, cond_false] at he
      cases he
theorem er2_any (x : Nat) (d : α) (p : α → Bool) (c : Int) (xs : List α) (e : Int) (h : xs.length ≤ maxLen) :
    exB .ret (loopF (er2F x d p c) er2M (xs, 0, (), e)).1 = xs.any p ∧ (loopF (er2F x d p c) er2M (xs, 0, (), e)).2.2.2.2 = (bif xs.any p then c else e) := by
  have h0 : allP (er2I ((xs, (0 : Int), (), e) : Er2G α)) := fun q hq => by
    simp only [er2I, List.mem_singleton] at hq
    subst hq
    exact ⟨h, Int.le_refl _, by show (0 : Int) ≤ (xs.length : Int); omega⟩
  rcases er2_run x d p c _ h0 with ⟨h1, h2, _, h3⟩ | ⟨h1, h2, _, h3⟩
  · have h4 : (xs.drop 0).any p = true := h3
    rw [List.drop_zero] at h4
    rw [h1, h2, h4]; exact ⟨rfl, rfl⟩
  · have h4 : (xs.drop 0).any p = false := h3
    rw [List.drop_zero] at h4
    rw [h1, h2, h4]; exact ⟨rfl, rfl⟩
abbrev Fl2G (α β : Type) := List α × β × Int × Unit × Int
def fl2F (x : Nat) (d : α) (bad : List α → α → Bool) (step : List α → β → α → β) (c : Int) (g : Fl2G α β) : Ex × Fl2G α β :=
  bif decide (g.2.2.1 < (g.1.length : Int)) then
    bif bad g.1 (g.1.getD g.2.2.1.toNat d) then (.ret, g.1, g.2.1, g.2.2.1, (), c)
    else (.normal, g.1, step g.1 g.2.1 (g.1.getD g.2.2.1.toNat d), w64 (g.2.2.1 + 1), (), g.2.2.2.2)
  else (.exit x, g)
def fl2I (ok : List α → β → Nat → Prop) (g : Fl2G α β) : List Prop := [g.1.length ≤ maxLen ∧ 0 ≤ g.2.2.1 ∧ g.2.2.1 ≤ (g.1.length : Int) ∧ ok g.1 g.2.1 g.2.2.1.toNat]
def fl2M (g : Fl2G α β) : Nat := ((g.1.length : Int) - g.2.2.1).toNat
section
variable (x : Nat) (d : α) (bad : List α → α → Bool) (step : List α → β → α → β) (c : Int) (ok : List α → β → Nat → Prop)
variable (hok : ∀ xs b i, i < xs.length → ok xs b i → ok xs (step xs b (xs.getD i d)) (i + 1))
include hok
theorem fl2_goes : Goes (fl2F x d bad step c) fl2M fun g => allP (fl2I ok g) := by
  rintro ⟨ys, b, i, ⟨⟩, e⟩ hi hn
  obtain ⟨h2, h3, h4, h5⟩ := hi _ (List.mem_cons_self ..)
  simp only at h2 h3 h4 h5
  have h2' := h2
  unfold maxLen at h2
  unfold fl2F at hn ⊢
  simp only at hn ⊢
  by_cases hlt : i < (ys.length : Int)
  · simp only [hlt, decide_true, cond_true] at hn ⊢
    cases hp : bad ys (ys.getD i.toNat d) with
    | true => rw [hp] at hn; cases hn
    | false =>
      simp only [cond_false]
      rw [wr (by omega)]
      refine ⟨fun q hq => ?_, ?_⟩
      · simp only [fl2I, List.mem_singleton] at hq
        subst hq
        refine ⟨h2', by show (0 : Int) ≤ i + 1; omega, by show i + 1 ≤ (ys.length : Int); omega, ?_⟩
        have := hok ys b i.toNat (by omega) h5
        have e1 : (i + 1).toNat = i.toNat + 1 := by omega
        rw [e1]; exact this
      · simp only [fl2M]; omega
  · simp only [hlt, decide_false, cond_false] at hn
    cases hn
theorem fl2_run : ∀ g : Fl2G α β, allP (fl2I ok g) →
    (((loopF (fl2F x d bad step c) fl2M g).1 = .ret ∧ (loopF (fl2F x d bad step c) fl2M g).2.2.2.2.2 = c ∧ (g.1.drop g.2.2.1.toNat).any (bad g.1) = true) ∨
     ((loopF (fl2F x d bad step c) fl2M g).1 = .exit x ∧ (loopF (fl2F x d bad step c) fl2M g).2.2.2.2.2 = g.2.2.2.2 ∧ (loopF (fl2F x d bad step c) fl2M g).2.1 = g.1 ∧ (loopF (fl2F x d bad step c) fl2M g).2.2.1 = (g.1.drop g.2.2.1.toNat).foldl (step g.1) g.2.1 ∧ ok g.1 (loopF (fl2F x d bad step c) fl2M g).2.2.1 g.1.length ∧ (g.1.drop g.2.2.1.toNat).any (bad g.1) = false)) := by
  refine loopF_induct (fl2_goes x d bad step c ok hok) (Q := fun g r => ((r.1 = .ret ∧ r.2.2.2.2.2 = c ∧ (g.1.drop g.2.2.1.toNat).any (bad g.1) = true) ∨
     (r.1 = .exit x ∧ r.2.2.2.2.2 = g.2.2.2.2 ∧ r.2.1 = g.1 ∧ r.2.2.1 = (g.1.drop g.2.2.1.toNat).foldl (step g.1) g.2.1 ∧ ok g.1 r.2.2.1 g.1.length ∧ (g.1.drop g.2.2.1.toNat).any (bad g.1) = false))) ?_ ?_
  · rintro ⟨ys, b, i, ⟨⟩, e⟩ hi hn
    obtain ⟨h2, h3, h4, h5⟩ := hi _ (List.mem_cons_self ..)
    simp only at h2 h3 h4 h5
    unfold fl2F at hn ⊢
    simp only at hn ⊢
    by_cases hlt : i < (ys.length : Int)
    · simp only [hlt, decide_true, cond_true] at hn ⊢
      have hlt' : i.toNat < ys.length := by omega
      cases hp : bad ys (ys.getD i.toNat d) with
      | true =>
        left
        simp only [cond_true]
        refine ⟨trivial, trivial, ?_⟩
        rw [drop_at d hlt', List.any_cons, hp]; rfl
      | false => rw [hp] at hn; exact absurd rfl hn
    · right
      simp only [hlt, decide_false, cond_false]
      have e1 : i.toNat = ys.length := by omega
      refine ⟨trivial, trivial, trivial, ?_, ?_, ?_⟩
      · rw [List.drop_eq_nil_of_le (by omega)]; rfl
      · rw [← e1]; exact h5
      · rw [List.drop_eq_nil_of_le (by omega)]; rfl
  · rintro ⟨ys, b, i, ⟨⟩, e⟩ g' r hi he hi' _ hq
    obtain ⟨h2, h3, h4, h5⟩ := hi _ (List.mem_cons_self ..)
    simp only at h2 h3 h4 h5
    unfold maxLen at h2
    unfold fl2F at he
    simp only at he
    by_cases hlt : i < (ys.length : Int)
    · simp only [hlt, decide_true, cond_true] at he
      have hlt' : i.toNat < ys.length := by omega
      cases hp : bad ys (ys.getD i.toNat d) with
      | true => rw [hp] at he; cases he
      | false =>
        rw [hp] at he
        simp only [cond_false, Prod.mk.injEq, true_and] at he
        subst he
        simp only at hq ⊢
        rw [wr (by omega)] at hq
        rw [drop_at d hlt', List.any_cons, hp, Bool.false_or, List.foldl_cons]
        have : (i + 1).toNat = i.toNat + 1 := by omega
        rw [this] at hq
        exact hq
    · simp only [hlt, decide_false, cond_false] at he
      cases he
end
theorem foldl_pick (p : α → Bool) : ∀ (xs out : List α), xs.foldl (fun o x => bif p x then o ++ [x] else o) out = out ++ xs.filter p
  | [], out => by simp
  | x :: xs, out => by
    rw [List.foldl_cons, foldl_pick p xs, List.filter_cons]
    cases p x <;> simp
/-! ### all are asked: 'for range xs { if p(x) { ok = false } }' -/
abbrev AnG (α σ : Type) := List α × σ × Int × Bool
variable {σ : Type}
def anF (x : Nat) (d : α) (p : List α → σ → α → Bool) (g : AnG α σ) : Ex × AnG α σ :=
  bif decide (g.2.2.1 < (g.1.length : Int)) then (.normal, g.1, g.2.1, w64 (g.2.2.1 + 1), bif p g.1 g.2.1 (g.1.getD g.2.2.1.toNat d) then false else g.2.2.2)
  else (.exit x, g)
def anI (ok : List α → σ → Prop) (g : AnG α σ) : List Prop := [g.1.length ≤ maxLen ∧ 0 ≤ g.2.2.1 ∧ g.2.2.1 ≤ (g.1.length : Int) ∧ ok g.1 g.2.1]
def anM (g : AnG α σ) : Nat := ((g.1.length : Int) - g.2.2.1).toNat
theorem an_goes (x : Nat) (d : α) (p : List α → σ → α → Bool) (ok : List α → σ → Prop) : Goes (anF x d p) anM fun g => allP (anI ok g) := by
  rintro ⟨xs, s, i, b⟩ hi hn
  obtain ⟨h2, h3, h4, h5⟩ := hi _ (List.mem_cons_self ..)
  simp only at h2 h3 h4 h5
  have h2' := h2
  unfold maxLen at h2
  unfold anF at hn ⊢
  simp only at hn ⊢
  by_cases hlt : i < (xs.length : Int)
  · simp only [hlt, decide_true, cond_true]
    rw [wr (by omega)]
    refine ⟨fun q hq => ?_, ?_⟩
    · simp only [anI, List.mem_singleton] at hq
      subst hq
      exact ⟨h2', by show (0 : Int) ≤ i + 1; omega, by show i + 1 ≤ (xs.length : Int); omega, h5⟩
    · simp only [anM]; omega
  · simp only [hlt, decide_false, cond_false] at hn
    cases hn
theorem an_run (x : Nat) (d : α) (p : List α → σ → α → Bool) (ok : List α → σ → Prop) : ∀ g : AnG α σ, allP (anI ok g) →
    (loopF (anF x d p) anM g).1 = .exit x ∧ (loopF (anF x d p) anM g).2.1 = g.1 ∧ (loopF (anF x d p) anM g).2.2.1 = g.2.1 ∧ (loopF (anF x d p) anM g).2.2.2.2 = (g.2.2.2 && !(g.1.drop g.2.2.1.toNat).any (p g.1 g.2.1)) := by
  refine loopF_induct (an_goes x d p ok) (Q := fun g r => r.1 = .exit x ∧ r.2.1 = g.1 ∧ r.2.2.1 = g.2.1 ∧ r.2.2.2.2 = (g.2.2.2 && !(g.1.drop g.2.2.1.toNat).any (p g.1 g.2.1))) ?_ ?_
  · rintro ⟨xs, s, i, b⟩ hi hn
    obtain ⟨h2, h3, h4, h5⟩ := hi _ (List.mem_cons_self ..)
    simp only at h2 h3 h4 h5
    unfold anF at hn ⊢
    simp only at hn ⊢
    by_cases hlt : i < (xs.length : Int)
    · simp only [hlt, decide_true, cond_true] at hn
      exact absurd rfl hn
    · simp only [hlt, decide_false, cond_false]
      refine ⟨trivial, trivial, trivial, ?_⟩
      rw [List.drop_eq_nil_of_le (by omega)]; simp
  · rintro ⟨xs, s, i, b⟩ g' r hi he hi' _ hq
    obtain ⟨h2, h3, h4, h5⟩ := hi _ (List.mem_cons_self ..)
    simp only at h2 h3 h4 h5
    unfold maxLen at h2
    unfold anF at he
    simp only at he
    by_cases hlt : i < (xs.length : Int)
    · simp only [hlt, decide_true, cond_true, Prod.mk.injEq, true_and] at he
      subst he
      have hlt' : i.toNat < xs.length := by omega
      simp only at hq ⊢
      rw [wr (by omega)] at hq
      have : (i + 1).toNat = i.toNat + 1 := by omega
      rw [this] at hq
      rw [drop_at d hlt', List.any_cons]
      refine ⟨hq.1, hq.2.1, hq.2.2.1, ?_⟩
      rw [hq.2.2.2]
      cases p xs s (xs.getD i.toNat d) <;> simp
    · simp only [hlt, decide_false, cond_false] at he
      cases he
end
end Go.Lp

/- Loops over lists by their places: what they come to, for all chapters. -/
namespace Go.Lp
open Go.Sx
/-! ### the same loop under another name -/
theorem runL_conj {γ δ : Type} {F : γ → Ex × γ} {F' : δ → Ex × δ} {m' : δ → Nat} {I' : δ → Prop} (φ : γ → δ) (ψ : δ → γ) (h2 : ∀ d, φ (ψ d) = d) (hF : ∀ d, I' d → F (ψ d) = ((F' d).1, ψ (F' d).2)) (hg : Goes F' m' I') : ∀ (n : Nat) (d : δ), I' d → runL F n (ψ d) = ((runL F' n d).1, ψ (runL F' n d).2)
  | 0, d, _ => by simp [runL]
  | n + 1, d, hi => by
    simp only [runL]
    have h := hF d hi
    have hk := hg d hi
    rw [h]
    generalize F' d = x at hk
    obtain ⟨e, d'⟩ := x
    cases e with
    | normal =>
      simp only
      rw [runL_conj φ ψ h2 hF hg n d' (hk rfl).1]
    | _ => rfl
theorem loopF_conj {γ δ : Type} {F : γ → Ex × γ} {F' : δ → Ex × δ} {m : γ → Nat} {m' : δ → Nat} {I' : δ → Prop} (φ : γ → δ) (ψ : δ → γ) (h1 : ∀ g, ψ (φ g) = g) (h2 : ∀ d, φ (ψ d) = d) (hm : ∀ d, m (ψ d) = m' d) (hF : ∀ d, I' d → F (ψ d) = ((F' d).1, ψ (F' d).2)) (hg : Goes F' m' I') (g : γ) (hi : I' (φ g)) :
    loopF F m g = ((loopF F' m' (φ g)).1, ψ (loopF F' m' (φ g)).2) := by
  have e := hm (φ g)
  have r := runL_conj φ ψ h2 hF hg (m' (φ g) + 1) (φ g) hi
  rw [h1] at e r
  rw [loopF_def, loopF_def, e]
  exact r
theorem goes_conj {γ δ : Type} {F : γ → Ex × γ} {F' : δ → Ex × δ} {m : γ → Nat} {m' : δ → Nat} {I : γ → Prop} {I' : δ → Prop} (φ : γ → δ) (ψ : δ → γ) (h1 : ∀ g, ψ (φ g) = g) (hm : ∀ d, m (ψ d) = m' d) (hI : ∀ d, I (ψ d) ↔ I' d) (hF : ∀ d, I' d → F (ψ d) = ((F' d).1, ψ (F' d).2)) (h : Goes F' m' I') : Goes F m I := by
  intro g hi hn
  rw [← h1 g] at hi hn ⊢
  have hi' := (hI _).1 hi
  rw [hF _ hi'] at hn ⊢
  rw [hI]
  rw [hm, hm]
  exact h _ hi' hn
/-! ### from place to place -/
section
variable {α β C : Type}
/-- 'x': how the loop is left at its end. -/
def ixF (x : Nat) (lim : C → Int) (xs : C → List α) (d : α) (step : C → β → Int → α → Ex × β) (g : Int × C × β) : Ex × (Int × C × β) :=
  bif decide (g.1 < lim g.2.1) then
    match step g.2.1 g.2.2 g.1 ((xs g.2.1).getD g.1.toNat d) with
    | (.normal, b) => (.normal, w64 (g.1 + 1), g.2.1, b)
    | (e, b) => (e, g.1, g.2.1, b)
  else (.exit x, g)
/-- 'P': what is kept of what has been made. -/
def ixJ (lim : C → Int) (xs : C → List α) (P : C → β → Int → Prop) (g : Int × C × β) : Prop := lim g.2.1 = ((xs g.2.1).length : Int) ∧ (xs g.2.1).length ≤ maxLen ∧ 0 ≤ g.1 ∧ g.1 ≤ ((xs g.2.1).length : Int) ∧ P g.2.1 g.2.2 g.1
def ixI (lim : C → Int) (xs : C → List α) (P : C → β → Int → Prop) (g : Int × C × β) : List Prop := [ixJ lim xs P g]
def ixM (lim : C → Int) (g : Int × C × β) : Nat := (lim g.2.1 - g.1).toNat
def scan (x : Nat) (step : β → Int → α → Ex × β) : Int → List α → β → Ex × Int × β
  | i, [], b => (.exit x, i, b)
  | i, a :: l, b => match step b i a with
    | (.normal, b') => scan x step (i + 1) l b'
    | (e, b') => (e, i, b')
def ixP (step : C → β → Int → α → Ex × β) (xs : C → List α) (P : C → β → Int → Prop) : Prop := ∀ c b (i : Nat) a, P c b i → (xs c)[i]? = some a → (step c b i a).1 = .normal → P c (step c b i a).2 (i + 1)
variable {x : Nat} {lim : C → Int} {xs : C → List α} {d : α} {step : C → β → Int → α → Ex × β} {P : C → β → Int → Prop}
theorem ix_goes (hP : ixP step xs P) : Goes (ixF x lim xs d step) (ixM lim) fun g => allP (ixI lim xs P g) := by
  rintro ⟨i, c, b⟩ hi hn
  obtain ⟨h1, h2, h3, h4, h5⟩ := hi _ (List.mem_cons_self ..)
  simp only at h1 h2 h3 h4 h5
  unfold ixF at hn ⊢
  simp only at hn ⊢
  unfold maxLen at h2
  by_cases hlt : i < lim c
  · simp only [hlt, decide_true, cond_true] at hn ⊢
    have hlt' : i.toNat < (xs c).length := by omega
    have hp := hP c b i.toNat ((xs c).getD i.toNat d) (by rw [show (i.toNat : Int) = i by omega]; exact h5) (by rw [List.getD_eq_getElem?_getD, List.getElem?_eq_getElem hlt']; rfl)
    rw [show (i.toNat : Int) = i by omega] at hp
    generalize step c b i ((xs c).getD i.toNat d) = s at hn hp ⊢
    obtain ⟨e, b'⟩ := s
    cases e with
    | normal =>
      rw [wr (n := i + 1) (by omega)]
      refine ⟨fun q hq => ?_, ?_⟩
      · simp only [ixI, List.mem_singleton] at hq
        subst hq
        exact ⟨h1, by unfold maxLen; exact h2, by show (0 : Int) ≤ i + 1; omega, by show i + 1 ≤ ((xs c).length : Int); omega, hp rfl⟩
      · simp only [ixM]; omega
    | _ => cases hn
  · simp only [hlt, decide_false, cond_false] at hn
    cases hn
theorem ix_run (hP : ixP step xs P) : ∀ g : Int × C × β, allP (ixI lim xs P g) →
    loopF (ixF x lim xs d step) (ixM lim) g = ((scan x (step g.2.1) g.1 ((xs g.2.1).drop g.1.toNat) g.2.2).1, (scan x (step g.2.1) g.1 ((xs g.2.1).drop g.1.toNat) g.2.2).2.1, g.2.1, (scan x (step g.2.1) g.1 ((xs g.2.1).drop g.1.toNat) g.2.2).2.2) := by
  refine loopF_induct (ix_goes (x := x) (d := d) hP) (Q := fun g r => r = ((scan x (step g.2.1) g.1 ((xs g.2.1).drop g.1.toNat) g.2.2).1, (scan x (step g.2.1) g.1 ((xs g.2.1).drop g.1.toNat) g.2.2).2.1, g.2.1, (scan x (step g.2.1) g.1 ((xs g.2.1).drop g.1.toNat) g.2.2).2.2)) ?_ ?_
  · rintro ⟨i, c, b⟩ hi hn
    obtain ⟨h1, h2, h3, h4, h5⟩ := hi _ (List.mem_cons_self ..)
    simp only at h1 h2 h3 h4 h5
    unfold ixF at hn ⊢
    simp only at hn ⊢
    by_cases hlt : i < lim c
    · simp only [hlt, decide_true, cond_true] at hn ⊢
      have hlt' : i.toNat < (xs c).length := by omega
      rw [drop_at d hlt']
      simp only [scan]
      generalize step c b i ((xs c).getD i.toNat d) = s at hn ⊢
      obtain ⟨e, b'⟩ := s
      cases e with
      | normal => exact absurd rfl hn
      | _ => rfl
    · simp only [hlt, decide_false, cond_false]
      rw [List.drop_eq_nil_of_le (by omega)]
      rfl
  · rintro ⟨i, c, b⟩ g' r hi he hi' _ hq
    obtain ⟨h1, h2, h3, h4, h5⟩ := hi _ (List.mem_cons_self ..)
    simp only at h1 h2 h3 h4 h5
    unfold maxLen at h2
    unfold ixF at he
    simp only at he
    by_cases hlt : i < lim c
    · simp only [hlt, decide_true, cond_true] at he
      have hlt' : i.toNat < (xs c).length := by omega
      rw [hq]
      simp only
      rw [drop_at d hlt']
      simp only [scan]
      generalize step c b i ((xs c).getD i.toNat d) = s at he ⊢
      obtain ⟨e, b'⟩ := s
      cases e with
      | normal =>
        rw [wr (n := i + 1) (by omega)] at he
        simp only [Prod.mk.injEq, true_and] at he
        subst he
        simp only
        rw [show (i + 1).toNat = i.toNat + 1 by omega]
      | _ => simp at he
    · simp only [hlt, decide_false, cond_false] at he
      cases he
/-- From the beginning. -/
theorem ix_run0 (hP : ixP step xs P) (c : C) (b : β) (h1 : lim c = ((xs c).length : Int)) (h2 : (xs c).length ≤ maxLen) (h3 : P c b 0) :
    loopF (ixF x lim xs d step) (ixM lim) (0, c, b) = ((scan x (step c) 0 (xs c) b).1, (scan x (step c) 0 (xs c) b).2.1, c, (scan x (step c) 0 (xs c) b).2.2) := by
  have := ix_run (x := x) (lim := lim) (d := d) hP (0, c, b) (fun q hq => by
    simp only [ixI, List.mem_singleton] at hq
    subst hq
    exact ⟨h1, h2, Int.le_refl _, by show (0 : Int) ≤ ((xs c).length : Int); omega, h3⟩)
  simpa using this
theorem ixJ0 {c : C} {b : β} (h1 : lim c = ((xs c).length : Int)) (h2 : (xs c).length ≤ maxLen) (h3 : P c b 0) : ixJ lim xs P (0, c, b) := ⟨h1, h2, Int.le_refl _, by show (0 : Int) ≤ ((xs c).length : Int); omega, h3⟩
theorem ix_inv0 {c : C} {b : β} (h1 : lim c = ((xs c).length : Int)) (h2 : (xs c).length ≤ maxLen) (h3 : P c b 0) : allP (ixI lim xs P (0, c, b)) := fun q hq => by
  simp only [ixI, List.mem_singleton] at hq
  subst hq
  exact ⟨h1, h2, Int.le_refl _, by show (0 : Int) ≤ ((xs c).length : Int); omega, h3⟩
/-! ### under another name -/
section
variable {γ : Type} {F : γ → Ex × γ} {φ : γ → Int × C × β} {ψ : Int × C × β → γ}
theorem ix_conj_goes (h1 : ∀ g, ψ (φ g) = g) (h2 : ∀ d, φ (ψ d) = d) {d0 : α} (hF : ∀ d, allP (ixI lim xs P d) → F (ψ d) = ((ixF x lim xs d0 step d).1, ψ (ixF x lim xs d0 step d).2)) (hP : ixP step xs P) : Goes F (fun g => ixM lim (φ g)) fun g => allP (ixI lim xs P (φ g)) :=
  goes_conj (m' := ixM lim) (I' := fun d => allP (ixI lim xs P d)) φ ψ h1 (fun d => by rw [h2]) (fun d => by rw [h2]) hF (ix_goes hP)
theorem ix_conj_run (h1 : ∀ g, ψ (φ g) = g) (h2 : ∀ d, φ (ψ d) = d) {d0 : α} (hF : ∀ d, allP (ixI lim xs P d) → F (ψ d) = ((ixF x lim xs d0 step d).1, ψ (ixF x lim xs d0 step d).2)) (hP : ixP step xs P) (c : C) (b : β) (k1 : lim c = ((xs c).length : Int)) (k2 : (xs c).length ≤ maxLen) (k3 : P c b 0) :
    loopF F (fun g => ixM lim (φ g)) (ψ (0, c, b)) = ((scan x (step c) 0 (xs c) b).1, ψ ((scan x (step c) 0 (xs c) b).2.1, c, (scan x (step c) 0 (xs c) b).2.2)) := by
  have h := loopF_conj (F := F) (F' := ixF x lim xs d0 step) (m := fun g => ixM lim (φ g)) (m' := ixM lim) (I' := fun d => allP (ixI lim xs P d)) φ ψ h1 h2 (fun d => by rw [h2]) hF (ix_goes hP) (ψ (0, c, b)) (by rw [h2]; exact ix_inv0 k1 k2 k3)
  rw [h, h2, ix_run0 hP c b k1 k2 k3]
end
/-! ### what a scan comes to -/
section
variable {st : β → Int → α → Ex × β}
/-- It stops at the first of which something holds. -/
theorem scan_any {p : α → Bool} {r : α → β → β} {e : Ex} (he : e ≠ .normal) (h : ∀ b i a, st b i a = bif p a then (e, r a b) else (.normal, b)) : ∀ (l : List α) (i : Int) (b : β),
    (l.any p = true ∧ ∃ a ∈ l, p a = true ∧ l.find? p = some a ∧ (scan x st i l b).1 = e ∧ (scan x st i l b).2.2 = r a b) ∨ (l.any p = false ∧ scan x st i l b = (.exit x, i + l.length, b))
  | [], i, b => .inr ⟨rfl, by simp [scan]⟩
  | a :: l, i, b => by
    simp only [scan, h]
    cases hp : p a with
    | true =>
      left
      refine ⟨by simp [hp], a, List.mem_cons_self .., hp, by simp [hp], ?_⟩
      cases e <;> first | exact absurd rfl he | exact ⟨rfl, rfl⟩
    | false =>
      simp only [cond_false]
      rcases scan_any he h l (i + 1) b with ⟨h1, a', h2, h3, h4, h5⟩ | ⟨h1, h2⟩
      · exact .inl ⟨by simp [h1], a', List.mem_cons_of_mem _ h2, h3, by simp [hp, h4], h5⟩
      · refine .inr ⟨by simp [hp, h1], ?_⟩
        rw [h2]
        simp; omega
/-- It goes to the end. -/
theorem scan_fold {f : β → α → β} (h : ∀ b i a, st b i a = (.normal, f b a)) : ∀ (l : List α) (i : Int) (b : β), scan x st i l b = (.exit x, i + l.length, l.foldl f b)
  | [], i, b => by simp [scan]
  | a :: l, i, b => by
    simp only [scan, h, List.foldl_cons, List.length_cons]
    rw [scan_fold h l]
    simp; omega
/-- It stops at something bad; else all is put together. -/
theorem scan_bad {p : α → Bool} {r : α → β → β} {f : β → α → β} {e : Ex} (he : e ≠ .normal) (h : ∀ b i a, st b i a = bif p a then (e, r a b) else (.normal, f b a)) : ∀ (l : List α) (i : Int) (b : β),
    (l.any p = true ∧ (scan x st i l b).1 = e ∧ ∃ a b', a ∈ l ∧ p a = true ∧ (scan x st i l b).2.2 = r a b') ∨ (l.any p = false ∧ scan x st i l b = (.exit x, i + l.length, l.foldl f b))
  | [], i, b => .inr ⟨rfl, by simp [scan]⟩
  | a :: l, i, b => by
    simp only [scan, h]
    cases hp : p a with
    | true =>
      left
      refine ⟨by simp [hp], ?_⟩
      cases e <;> first | exact absurd rfl he | exact ⟨rfl, a, b, List.mem_cons_self .., hp, rfl⟩
    | false =>
      simp only [cond_false]
      rcases scan_bad he h l (i + 1) (f b a) with ⟨h1, h2, a', b', h3, h4, h5⟩ | ⟨h1, h2⟩
      · exact .inl ⟨by simp [h1], h2, a', b', List.mem_cons_of_mem _ h3, h4, h5⟩
      · refine .inr ⟨by simp [hp, h1], ?_⟩
        rw [h2]
        simp; omega
end
end
/-- Two lists are gone through together. -/
theorem scan_same {α : Type} [DecidableEq α] {x : Nat} (b : List α) (d : α) {st : Bool → Int → α → Ex × Bool} (h : ∀ r (i : Int) a, st r i a = bif !decide (a = b.getD i.toNat d) then (.ret, false) else (.normal, r)) : ∀ (l : List α) (i : Nat) (r : Bool), l.length + i = b.length →
    (l = b.drop i ∧ scan x st (i : Int) l r = (.exit x, (i : Int) + l.length, r)) ∨ (l ≠ b.drop i ∧ (scan x st (i : Int) l r).1 = .ret ∧ (scan x st (i : Int) l r).2.2 = false)
  | [], i, r, hl => .inl ⟨by rw [List.drop_eq_nil_of_le (by simp at hl; omega)], by simp [scan]⟩
  | a :: l, i, r, hl => by
    simp only [List.length_cons] at hl
    have hlt : i < b.length := by omega
    rw [drop_at d hlt]
    simp only [scan, h, Int.toNat_natCast]
    by_cases hab : a = b.getD i d
    · simp only [hab, decide_true, Bool.not_true, cond_false]
      have ih := scan_same (x := x) b d h l (i + 1) r (by omega)
      rw [show ((i + 1 : Nat) : Int) = (i : Int) + 1 by omega] at ih
      rcases ih with ⟨h1, h2⟩ | ⟨h1, h2⟩
      · refine .inl ⟨by rw [h1], ?_⟩
        rw [h2]
        simp; omega
      · refine .inr ⟨fun e => h1 (by injection e), h2⟩
    · right
      refine ⟨fun e => hab (by injection e), ?_⟩
      simp only [hab, decide_false, Bool.not_false, cond_true]
      exact ⟨trivial, trivial⟩
/-- What comes of appending one. -/
theorem lst_app1 {α : Type} (A : El α) (out : List α) (y : α) : A.lst (min (out.length + 1) out.length) (A.els out) ++ List.map (fun _ => y) (List.range (out.length + 1 - out.length)) = out ++ [y] := by
  rw [Nat.min_eq_right (Nat.le_succ _), A.lst_els, Nat.add_sub_cancel_left]; rfl
end Go.Lp

/- Chapter 2: the counters that come, told: the contract of the loop. -/
namespace Go.Proofs.Ytapmlfklkfgmoaa
open Go.RowKit Go.Sx Go.Lp
theorem okI (xs : List Int) : ∀ e : Nat, e < xs.length → eI.Ok (eI.els xs e) := fun e _ => eI.ok_els xs e
theorem bytesI (h : 2 < Try.prog.types.size) : (Try.prog.types[2]'h).bytes = 8 := by kernel_rfl
def vl_S (c : vl_GC) (b : vl_GB) (_ : Int) (a : Int) : Ex × vl_GB := bif decide ((b.1.length : Int) ≥ c.2.2) then (.ret, b.1, .done, some (.exit 0)) else (.normal, b.1 ++ [a], .ready, none)
def vl_K (c : vl_GC) (b : vl_GB) (i : Int) : Prop := b.2 = (LoopState.ready, (none : Option Code)) ∧ (b.1.length : Int) ≤ i ∧ c.1.length ≤ 1000000
abbrev vl_I (g : vl_G) : List Prop := ixI (fun c : vl_GC => c.2.1) (fun c => c.1) vl_K (vl_f g)
abbrev vl_M (g : vl_G) : Nat := ixM (fun c : vl_GC => c.2.1) (vl_f g)
theorem vl_P : ixP vl_S (fun c : vl_GC => c.1) vl_K := by
  rintro ⟨xs, n, m⟩ ⟨out, st, pd⟩ i a ⟨h1, h2, h3⟩ _ hn
  unfold vl_S at hn ⊢
  simp only at hn h2 ⊢
  cases hc : decide ((out.length : Int) ≥ m) with
  | true => rw [hc] at hn; cases hn
  | false =>
    refine ⟨rfl, ?_, h3⟩
    simp only [cond_false, List.length_append, List.length_cons, List.length_nil]
    omega
noncomputable abbrev vl_RR (g : vl_G) : Ex × vl_G := vl_R g.1 g.2.1 g.2.2.1 g.2.2.2.1 g.2.2.2.2.1 g.2.2.2.2.2.1
theorem vl_RF (d : Int × vl_GC × vl_GB) (hi : allP (ixI (fun c : vl_GC => c.2.1) (fun c => c.1) vl_K d)) : vl_RR (vl_g d) = ((ixF 0 (fun c : vl_GC => c.2.1) (fun c => c.1) eI.dflt vl_S d).1, vl_g (ixF 0 (fun c : vl_GC => c.2.1) (fun c => c.1) eI.dflt vl_S d).2) := by
  have hb := (hi _ (List.mem_cons_self ..)).2.2.2.2.1
  obtain ⟨i, ⟨xs, n, m⟩, ⟨out, st, pd⟩⟩ := d
  simp only [Prod.mk.injEq] at hb
  obtain ⟨rfl, rfl⟩ := hb
  show vl_R xs n i () m out = _
  unfold vl_R ixF vl_S
  simp only [eI.lst_els, lst_app1]
  cases decide (i < n) with
  | false => rfl
  | true => cases decide ((out.length : Int) ≥ m) <;> rfl
theorem vl_ok : ∀ b ∈ loopsOf Try.prog 67, lkey b = 1 → LoopOk Try.prog b (vl_C vl_I vl_M).g := by
  refine vl_loop vl_I vl_M (fun g hi => ?_) (fun g hi => ?_) (ix_conj_goes (fun _ => rfl) (fun _ => rfl) vl_RF vl_P)
  · obtain ⟨xs, n, i, ⟨⟩, m, out, st, pd⟩ := g
    obtain ⟨h1, h2, h3, h4, h5, h6, h7⟩ := hi _ (List.mem_cons_self ..)
    have h7 : xs.length ≤ 1000000 := h7
    have h1 : n = (xs.length : Int) := h1
    have h2 : xs.length ≤ maxLen := h2
    have h3 : 0 ≤ i := h3
    have h4 : i ≤ (xs.length : Int) := h4
    have h6 : (out.length : Int) ≤ i := h6
    show vl_side xs n i () m out
    unfold vl_side
    simp only [bytesI, decide_eq_true_eq, decide_eq_false_iff_not]
    have ha := okI xs
    clear hi
    unfold maxLen at h2 ⊢
    repeat' (first | exact ha | exact rfl | apply And.intro | intro _)
    all_goals (first | trivial | omega)
  · obtain ⟨xs, n, i, ⟨⟩, m, out, st, pd⟩ := g
    have h5 := (hi _ (List.mem_cons_self ..)).2.2.2.2.1
    have h5 : (st, pd) = (LoopState.ready, (none : Option Code)) := h5
    cases h5
    rfl
/-- What is told. -/
theorem vl_scan (c : vl_GC) : ∀ (l : List Int) (i : Int) (out : List Int), (scan 0 (vl_S c) i l ((out, .ready, none) : vl_GB)).2.2.1 = bif decide (c.2.2 ≤ (out.length : Int)) then out else (out ++ l).take c.2.2.toNat
  | [], i, out => by
    simp only [scan, List.append_nil]
    cases hc : decide (c.2.2 ≤ (out.length : Int)) with
    | true => rfl
    | false =>
      have := of_decide_eq_false hc
      rw [List.take_of_length_le (by omega)]; rfl
  | a :: l, i, out => by
    simp only [scan, vl_S, ge_iff_le]
    cases hc : decide (c.2.2 ≤ (out.length : Int)) with
    | true => rfl
    | false =>
      have hc := of_decide_eq_false hc
      simp only [cond_false]
      rw [vl_scan c l (i + 1) (out ++ [a])]
      cases hd : decide (c.2.2 ≤ ((out ++ [a]).length : Int)) with
      | true =>
        have hd := of_decide_eq_true hd
        simp only [List.length_append, List.length_cons, List.length_nil] at hd
        have e : c.2.2.toNat = out.length + 1 := by omega
        simp only [cond_true]
        rw [e, show out ++ a :: l = (out ++ [a]) ++ l by simp, List.take_append_of_le_length (by simp), List.take_of_length_le (by simp)]
      | false => simp
theorem vl_run (xs : List Int) (m : Int) (h : xs.length ≤ maxLen) (h' : xs.length ≤ 1000000) : loopF vl_RR vl_M (xs, (xs.length : Int), 0, (), m, [], .ready, none) =
    ((scan 0 (vl_S (xs, (xs.length : Int), m)) 0 xs ([], .ready, none)).1, vl_g ((scan 0 (vl_S (xs, (xs.length : Int), m)) 0 xs ([], .ready, none)).2.1, (xs, (xs.length : Int), m), (scan 0 (vl_S (xs, (xs.length : Int), m)) 0 xs ([], .ready, none)).2.2)) :=
  ix_conj_run (φ := vl_f) (ψ := vl_g) (fun _ => rfl) (fun _ => rfl) vl_RF vl_P (xs, (xs.length : Int), m) ([], .ready, none) rfl h ⟨rfl, Int.le_refl _, h'⟩
noncomputable def ltV : LTab Try.prog := LTab.nil.cons 67 1 (vl_C vl_I vl_M) vl_ok
noncomputable abbrev lamV : Lam := ltV.lam
theorem lamV_ok : ∀ f k L, lamV f k = some L → ∀ b ∈ loopsOf Try.prog f, lkey b = k → LoopOk Try.prog b L.g := ltV.ok
end Go.Proofs.Ytapmlfklkfgmoaa

/- Chapter 2: the counters that come, told. Printed by treegen.py. -/
namespace Go.Proofs.Ytapmlfklkfgmoaa
open Go.RowKit Go.Sx
set_option maxRecDepth 100000
set_option linter.unusedVariables false
abbrev rPu : Rv (List Int) := .fn1 67 (.list eI)
noncomputable def rpushed_F (s : S) : Rv.T rLI :=
  bif decide ((0 : Int) < s.n) && rcheck_F s == (0 : Int) then
    bif decide ((1 : Int) < s.n) && rcheck_F s == (0 : Int) then
      bif decide ((2 : Int) < s.n) && rcheck_F s == (0 : Int) then
        bif decide ((3 : Int) < s.n) && rcheck_F s == (0 : Int) then
          bif decide ((4 : Int) < s.n) && rcheck_F s == (0 : Int) then default
          else
            List.map (fun x => eI.get [])
                      (List.range (min (min (min (min (4 : Nat) (3 : Nat)) (2 : Nat)) (1 : Nat)) (0 : Nat))) ++
                    List.map (fun x => s.p0) (List.range (1 : Nat)) ++
                  List.map (fun x => s.p1) (List.range (1 : Nat)) ++
                List.map (fun x => s.p2) (List.range (1 : Nat)) ++
              List.map (fun x => s.p3) (List.range (1 : Nat))
        else
          List.map (fun x => eI.get []) (List.range (min (min (min (3 : Nat) (2 : Nat)) (1 : Nat)) (0 : Nat))) ++
                List.map (fun x => s.p0) (List.range (1 : Nat)) ++
              List.map (fun x => s.p1) (List.range (1 : Nat)) ++
            List.map (fun x => s.p2) (List.range (1 : Nat))
      else
        List.map (fun x => eI.get []) (List.range (min (min (2 : Nat) (1 : Nat)) (0 : Nat))) ++
            List.map (fun x => s.p0) (List.range (1 : Nat)) ++
          List.map (fun x => s.p1) (List.range (1 : Nat))
    else
      List.map (fun x => eI.get []) (List.range (min (1 : Nat) (0 : Nat))) ++
        List.map (fun x => s.p0) (List.range (1 : Nat))
  else []
def rpushed_side (s : S) : Prop :=
  (decide ((0 : Int) < s.n) && rcheck_F s == (0 : Int)) = true →
    (True ∧ True ∧ (1 : Nat) ≤ maxLen ∧ (8 : Nat) ≤ (140737488355328 : Nat)) ∧
      ((decide ((1 : Int) < s.n) && rcheck_F s == (0 : Int)) = true →
          ((1 : Nat) ≤ (1 : Nat) ∧ True ∧ (2 : Nat) ≤ maxLen ∧ (16 : Nat) ≤ (140737488355328 : Nat)) ∧
            ((decide ((2 : Int) < s.n) && rcheck_F s == (0 : Int)) = true →
                ((2 : Nat) ≤ (2 : Nat) ∧ True ∧ (3 : Nat) ≤ maxLen ∧ (24 : Nat) ≤ (140737488355328 : Nat)) ∧
                  ((decide ((3 : Int) < s.n) && rcheck_F s == (0 : Int)) = true →
                      ((3 : Nat) ≤ (3 : Nat) ∧ True ∧ (4 : Nat) ≤ maxLen ∧ (32 : Nat) ≤ (140737488355328 : Nat)) ∧
                        ((decide ((4 : Int) < s.n) && rcheck_F s == (0 : Int)) = true → False) ∧
                          ((decide ((4 : Int) < s.n) && rcheck_F s == (0 : Int)) = false →
                            (4 : Nat) ≤ (4 : Nat) ∧
                              (∀ (e : Nat),
                                  e < min (min (min (min (4 : Nat) (3 : Nat)) (2 : Nat)) (1 : Nat)) (0 : Nat) →
                                    eI.OkP []) ∧
                                (∀ (e : Nat), e < (1 : Nat) → True) ∧
                                  (∀ (e : Nat), e < (1 : Nat) → True) ∧
                                    (∀ (e : Nat), e < (1 : Nat) → True) ∧ ∀ (e : Nat), e < (1 : Nat) → True)) ∧
                    ((decide ((3 : Int) < s.n) && rcheck_F s == (0 : Int)) = false →
                      (3 : Nat) ≤ (3 : Nat) ∧
                        (∀ (e : Nat), e < min (min (min (3 : Nat) (2 : Nat)) (1 : Nat)) (0 : Nat) → eI.OkP []) ∧
                          (∀ (e : Nat), e < (1 : Nat) → True) ∧
                            (∀ (e : Nat), e < (1 : Nat) → True) ∧ ∀ (e : Nat), e < (1 : Nat) → True)) ∧
              ((decide ((2 : Int) < s.n) && rcheck_F s == (0 : Int)) = false →
                (2 : Nat) ≤ (2 : Nat) ∧
                  (∀ (e : Nat), e < min (min (2 : Nat) (1 : Nat)) (0 : Nat) → eI.OkP []) ∧
                    (∀ (e : Nat), e < (1 : Nat) → True) ∧ ∀ (e : Nat), e < (1 : Nat) → True)) ∧
        ((decide ((1 : Int) < s.n) && rcheck_F s == (0 : Int)) = false →
          (1 : Nat) ≤ (1 : Nat) ∧
            (∀ (e : Nat), e < min (1 : Nat) (0 : Nat) → eI.OkP []) ∧ ∀ (e : Nat), e < (1 : Nat) → True)
theorem rpushed_okS (pre : DA.T aS → List Prop) (h : ∀ g, DA.bd aS g → (∀ p ∈ pre g, p) → rpushed_side g) : FnPure Try.prog 30 aS (Rv.D rLI) (fun g => rpushed_F g) pre := res_of_side (R := rLI) (Γ := (MTab.gamz (MTab.of tab7) [] [(30, 3, 6)])) (Λ := lamV) (MTab.okz (MTab.of tab7) [] [(30, 3, 6)]) lamV_ok 100 default (fun g => rpushed_side g) (fun g => by kernel_rfl) (fun g => by kernel_rfl) h
noncomputable def pushed_F (s : S) : Rv.T rPu :=
  bif decide ((bif !may_F s then (0 : Int) else s.n) = (4 : Int)) then
    List.map (fun x => eI.get []) (List.range (min (4 : Nat) (0 : Nat))) ++
      (List.map (fun x => bif !may_F s then (0 : Int) else s.p0) (List.range (min (4 : Nat) (1 : Nat))) ++
        (List.map (fun x => bif !may_F s then (0 : Int) else s.p1) (List.range (min (3 : Nat) (1 : Nat))) ++
          (List.map (fun x => bif !may_F s then (0 : Int) else s.p2) (List.range (min (2 : Nat) (1 : Nat))) ++
            List.map (fun x => bif !may_F s then (0 : Int) else s.p3) (List.range (1 : Nat)))))
  else
    bif decide ((bif !may_F s then (0 : Int) else s.n) = (3 : Int)) then
      List.map (fun x => eI.get []) (List.range (min (3 : Nat) (0 : Nat))) ++
        (List.map (fun x => bif !may_F s then (0 : Int) else s.p0) (List.range (min (3 : Nat) (1 : Nat))) ++
          (List.map (fun x => bif !may_F s then (0 : Int) else s.p1) (List.range (min (2 : Nat) (1 : Nat))) ++
            List.map (fun x => bif !may_F s then (0 : Int) else s.p2) (List.range (1 : Nat))))
    else
      bif decide ((bif !may_F s then (0 : Int) else s.n) = (2 : Int)) then
        List.map (fun x => eI.get []) (List.range (min (2 : Nat) (0 : Nat))) ++
          (List.map (fun x => bif !may_F s then (0 : Int) else s.p0) (List.range (min (2 : Nat) (1 : Nat))) ++
            List.map (fun x => bif !may_F s then (0 : Int) else s.p1) (List.range (1 : Nat)))
      else
        bif decide ((bif !may_F s then (0 : Int) else s.n) = (1 : Int)) then
          List.map (fun x => eI.get []) (List.range (min (1 : Nat) (0 : Nat))) ++
            List.map (fun x => bif !may_F s then (0 : Int) else s.p0) (List.range (1 : Nat))
        else
          bif decide ((bif !may_F s then (0 : Int) else s.n) = (0 : Int)) then
            List.map (fun x => eI.get []) (List.range (min (0 : Nat) (0 : Nat))) ++
              List.map (fun x => eI.get []) (List.range (0 : Nat))
          else default
def pushed_side (s : S) : Prop :=
  (decide ((bif !may_F s then (0 : Int) else s.n) = (4 : Int)) = true →
      ((0 : Nat) ≤ (0 : Nat) ∧ True ∧ (4 : Nat) ≤ maxLen ∧ (32 : Nat) ≤ (140737488355328 : Nat)) ∧
        (4 : Nat) ≤ (4 : Nat) ∧
          (∀ (e : Nat), e < min (4 : Nat) (0 : Nat) → eI.OkP []) ∧
            (∀ (e : Nat), e < min (4 : Nat) (1 : Nat) → True) ∧
              (∀ (e : Nat), e < min (3 : Nat) (1 : Nat) → True) ∧
                (∀ (e : Nat), e < min (2 : Nat) (1 : Nat) → True) ∧ ∀ (e : Nat), e < (1 : Nat) → True) ∧
    (decide ((bif !may_F s then (0 : Int) else s.n) = (4 : Int)) = false →
      (decide ((bif !may_F s then (0 : Int) else s.n) = (3 : Int)) = true →
          ((0 : Nat) ≤ (0 : Nat) ∧ True ∧ (3 : Nat) ≤ maxLen ∧ (24 : Nat) ≤ (140737488355328 : Nat)) ∧
            (3 : Nat) ≤ (3 : Nat) ∧
              (∀ (e : Nat), e < min (3 : Nat) (0 : Nat) → eI.OkP []) ∧
                (∀ (e : Nat), e < min (3 : Nat) (1 : Nat) → True) ∧
                  (∀ (e : Nat), e < min (2 : Nat) (1 : Nat) → True) ∧ ∀ (e : Nat), e < (1 : Nat) → True) ∧
        (decide ((bif !may_F s then (0 : Int) else s.n) = (3 : Int)) = false →
          (decide ((bif !may_F s then (0 : Int) else s.n) = (2 : Int)) = true →
              ((0 : Nat) ≤ (0 : Nat) ∧ True ∧ (2 : Nat) ≤ maxLen ∧ (16 : Nat) ≤ (140737488355328 : Nat)) ∧
                (2 : Nat) ≤ (2 : Nat) ∧
                  (∀ (e : Nat), e < min (2 : Nat) (0 : Nat) → eI.OkP []) ∧
                    (∀ (e : Nat), e < min (2 : Nat) (1 : Nat) → True) ∧ ∀ (e : Nat), e < (1 : Nat) → True) ∧
            (decide ((bif !may_F s then (0 : Int) else s.n) = (2 : Int)) = false →
              (decide ((bif !may_F s then (0 : Int) else s.n) = (1 : Int)) = true →
                  ((0 : Nat) ≤ (0 : Nat) ∧ True ∧ (1 : Nat) ≤ maxLen ∧ (8 : Nat) ≤ (140737488355328 : Nat)) ∧
                    (1 : Nat) ≤ (1 : Nat) ∧
                      (∀ (e : Nat), e < min (1 : Nat) (0 : Nat) → eI.OkP []) ∧ ∀ (e : Nat), e < (1 : Nat) → True) ∧
                (decide ((bif !may_F s then (0 : Int) else s.n) = (1 : Int)) = false →
                  (decide ((bif !may_F s then (0 : Int) else s.n) = (0 : Int)) = true →
                      ((0 : Nat) ≤ (0 : Nat) ∧ True ∧ (0 : Nat) ≤ maxLen ∧ (0 : Nat) ≤ (140737488355328 : Nat)) ∧
                        (0 : Nat) ≤ (0 : Nat) ∧
                          (∀ (e : Nat), e < min (0 : Nat) (0 : Nat) → eI.OkP []) ∧
                            ∀ (e : Nat), e < (0 : Nat) → eI.OkP []) ∧
                    (decide ((bif !may_F s then (0 : Int) else s.n) = (0 : Int)) = false → False)))))
theorem pushed_okS (pre : DA.T aS → List Prop) (h : ∀ g, DA.bd aS g → (∀ p ∈ pre g, p) → pushed_side g) : FnPure Try.prog 36 aS (Rv.D rPu) (fun g => pushed_F g) pre := res_of_side (R := rPu) (Γ := (MTab.gamz (MTab.of tab7) [] [(30, 3, 6)])) (Λ := lamV) (MTab.okz (MTab.of tab7) [] [(30, 3, 6)]) lamV_ok 100 default (fun g => pushed_side g) (fun g => by kernel_rfl) (fun g => by kernel_rfl) h
noncomputable def told_q1 (l : List Int) (m : Int) : Ex ×
  vl_G :=
  loopF
    (fun g => vl_R g.fst g.snd.fst g.snd.snd.fst g.snd.snd.snd.fst g.snd.snd.snd.snd.fst g.snd.snd.snd.snd.snd.fst) vl_M
    (eI.lst l.length (eI.els l), (↑l.length : Int), (0 : Int), (), m, [], LoopState.ready, none)
noncomputable def told_F (l : List Int) (m : Int) : Rv.T rLI :=
  bif exB Ex.ret (told_q1 l m).fst then
    eI.lst
      (bif exB Ex.ret (told_q1 l m).fst then (told_q1 l m).snd.snd.snd.snd.snd.snd.fst.length else (told_q1 l m).snd.snd.snd.snd.snd.snd.fst.length)
      (eI.els (told_q1 l m).snd.snd.snd.snd.snd.snd.fst)
  else
    eI.lst
      (bif exB Ex.ret (told_q1 l m).fst then (told_q1 l m).snd.snd.snd.snd.snd.snd.fst.length else (told_q1 l m).snd.snd.snd.snd.snd.snd.fst.length)
      (eI.els (told_q1 l m).snd.snd.snd.snd.snd.snd.fst)
def told_side (l : List Int) (m : Int) : Prop :=
  (∀ (e : Nat), e < l.length → eI.Ok (eI.els l e)) ∧
    CodeIs (rangeOf Try.prog (35 : Nat) (0 : Nat)).snd.fst (rangeOf Try.prog (35 : Nat) (0 : Nat)).snd.fst ∧
      CodeIs (rangeOf Try.prog (35 : Nat) (0 : Nat)).snd.snd (rangeOf Try.prog (35 : Nat) (0 : Nat)).snd.snd ∧
        Lp.ixJ (fun c => c.snd.fst) (fun c => c.fst) vl_K
            (vl_f (eI.lst l.length (eI.els l), (↑l.length : Int), (0 : Int), (), m, [], LoopState.ready, none)) ∧
          ((bif exB Ex.ret (told_q1 l m).fst then (told_q1 l m).snd.snd.snd.snd.snd.snd.fst.length
              else (told_q1 l m).snd.snd.snd.snd.snd.snd.fst.length) ≤
              bif exB Ex.ret (told_q1 l m).fst then (told_q1 l m).snd.snd.snd.snd.snd.snd.fst.length
              else (told_q1 l m).snd.snd.snd.snd.snd.snd.fst.length) ∧
            (∀ (e : Nat),
                (e <
                    bif exB Ex.ret (told_q1 l m).fst then (told_q1 l m).snd.snd.snd.snd.snd.snd.fst.length
                    else (told_q1 l m).snd.snd.snd.snd.snd.snd.fst.length) →
                  True) ∧
              ∀ (e : Nat),
                (e <
                    bif exB Ex.ret (told_q1 l m).fst then (told_q1 l m).snd.snd.snd.snd.snd.snd.fst.length
                    else (told_q1 l m).snd.snd.snd.snd.snd.snd.fst.length) →
                  True
theorem told_okS (pre : DA.T aTo → List Prop) (h : ∀ g, DA.bd aTo g → (∀ p ∈ pre g, p) → told_side g.1 g.2) : FnPure Try.prog 35 aTo (Rv.D rLI) (fun g => told_F g.1 g.2) pre := res_of_side (R := rLI) (Γ := (MTab.gamz (MTab.of tab7) [] [(30, 3, 6)])) (Λ := lamV) (MTab.okz (MTab.of tab7) [] [(30, 3, 6)]) lamV_ok 100 default (fun g => told_side g.1 g.2) (fun g => by kernel_rfl) (fun g => by kernel_rfl) h
noncomputable def tab40 : MTab Try.prog := (MTab.of tab7)
end Go.Proofs.Ytapmlfklkfgmoaa

/- Chapter 2: the counters that come, told: contracts. -/
namespace Go.Proofs.Ytapmlfklkfgmoaa
open Go.RowKit Go.Sx Go.Lp
/-- The counters that come. -/
def plS (s : S) : List Int := bif may_F s then s.p.take s.n.toNat else []
theorem five {n : Int} (h : 0 ≤ n ∧ n ≤ 4) : n = 0 ∨ n = 1 ∨ n = 2 ∨ n = 3 ∨ n = 4 := by omega
theorem pushed_eq (s : S) : pushed_F s = plS s := by
  unfold pushed_F plS
  cases hm : may_F s with
  | false => rfl
  | true =>
    have := ((may_iff s).1 hm).1
    simp only [Bool.not_true, cond_false, cond_true]
    rcases five (show 0 ≤ s.n ∧ s.n ≤ 4 by omega) with h | h | h | h | h <;> rw [h] <;> rfl
theorem pushed_si (s : S) : pushed_side s := by
  unfold pushed_side
  cases hm : may_F s with
  | false =>
    simp only [Bool.not_false, cond_true]
    unfold maxLen
    repeat' (first | apply And.intro | intro _)
    all_goals (first | trivial | omega | simp_all)
  | true =>
    have := ((may_iff s).1 hm).1
    simp only [Bool.not_true, cond_false]
    unfold maxLen
    rcases five (show 0 ≤ s.n ∧ s.n ≤ 4 by omega) with h | h | h | h | h <;> rw [h] <;> (repeat' (first | apply And.intro | intro _)) <;> first | trivial | omega | simp_all
theorem rpushed_eq (s : S) : rpushed_F s = plS s := by
  unfold rpushed_F plS
  rw [rcheck_eq]
  cases hm : may_F s with
  | false => simp
  | true =>
    have := ((may_iff s).1 hm).1
    rcases five (show 0 ≤ s.n ∧ s.n ≤ 4 by omega) with h | h | h | h | h <;> rw [h] <;> rfl
theorem rpushed_si (s : S) : rpushed_side s := by
  unfold rpushed_side
  rw [rcheck_eq]
  unfold maxLen
  cases hm : may_F s with
  | false => simp
  | true =>
    have := ((may_iff s).1 hm).1
    rcases five (show 0 ≤ s.n ∧ s.n ≤ 4 by omega) with h | h | h | h | h <;> rw [h] <;> (repeat' (first | apply And.intro | intro _)) <;> first | trivial | omega | simp_all
theorem pushed_ok : FnPure Try.prog 36 aS (Rv.D rPu) plS (fun _ => []) := pure_congr (pushed_okS (fun _ => []) fun s _ _ => pushed_si s) fun s _ _ => pushed_eq s
theorem rpushed_ok : FnPure Try.prog 30 aS (Rv.D rLI) plS (fun _ => []) := pure_congr (rpushed_okS (fun _ => []) fun s _ _ => rpushed_si s) fun s _ _ => rpushed_eq s
theorem told_q (l : List Int) (m : Int) (h : l.length ≤ 1000000) : (told_q1 l m).2.2.2.2.2.2.1 = l.take m.toNat := by
  unfold told_q1
  simp only [eI.lst_els]
  have h1 := vl_run l m (by unfold maxLen; omega) h
  have h2 : loopF (fun g : vl_G => vl_R g.1 g.2.1 g.2.2.1 g.2.2.2.1 g.2.2.2.2.1 g.2.2.2.2.2.1) vl_M (l, (l.length : Int), 0, (), m, [], .ready, none) = _ := h1
  rw [h2]
  have h3 := vl_scan (l, (l.length : Int), m) l 0 []
  show (scan 0 (vl_S (l, (l.length : Int), m)) 0 l ([], .ready, none)).2.2.1 = _
  rw [h3]
  cases hc : decide (m ≤ (([] : List Int).length : Int)) with
  | true =>
    have := of_decide_eq_true hc
    simp only [List.length_nil] at this
    rw [show m.toNat = 0 by omega]; rfl
  | false => rfl
theorem told_ok : FnPure Try.prog 35 aTo (Rv.D rLI) (fun g => g.1.take g.2.toNat) (fun g => [g.1.length ≤ 1000000]) := by
  have h := told_okS (fun g => [g.1.length ≤ 1000000]) fun g hb hp => by
    obtain ⟨l, m⟩ := g
    have hl : l.length ≤ 1000000 := hp _ (List.mem_cons_self ..)
    show told_side l m
    unfold told_side
    simp only [eI.lst_els]
    refine ⟨okI l, rfl, rfl, ixJ0 rfl (by unfold maxLen; show l.length ≤ _; omega) ⟨rfl, Int.le_refl _, hl⟩, Nat.le_refl _, fun _ _ => trivial, fun _ _ => trivial⟩
  refine pure_congr h fun g _ hp => ?_
  obtain ⟨l, m⟩ := g
  have hl : l.length ≤ 1000000 := hp _ (List.mem_cons_self ..)
  show told_F l m = l.take m.toNat
  unfold told_F
  rw [told_q l m hl]
  cases exB Ex.ret (told_q1 l m).1 <;> simp only [cond_true, cond_false, eI.lst_els]
end Go.Proofs.Ytapmlfklkfgmoaa

/- Chapter 2: are two lists of counters the same: the loop. Printed by treegen.py. -/
namespace Go.Proofs.Ytapmlfklkfgmoaa
open Go.RowKit Go.Sx
set_option maxRecDepth 100000
set_option linter.unusedVariables false
abbrev aLLI : DA (List Int × List Int) := .cons dLI (.one dLI)
abbrev seq_G : Type := List Int × List Int × Int × Int × Bool
noncomputable def seq_LP : LP 0 seq_G := .pair (.slot 0 0 dLI) (.pair (.slot 0 1 dLI) (.pair (.slot 0 12 dI) (.pair (.slot 0 13 dI) (.slot 0 4 dBool))))
noncomputable def seq_R (a : List Int) (b : List Int) (n : Int) (i : Int) (r : Bool) : Ex × seq_G :=
  bif decide (i < n) then
    bif a.getD i.toNat eI.dflt != b.getD i.toNat eI.dflt then
      (Ex.ret, eI.lst a.length (eI.els a), eI.lst b.length (eI.els b), n, i, false)
    else (Ex.normal, eI.lst a.length (eI.els a), eI.lst b.length (eI.els b), n, IntKind.i64.wrap (i + (1 : Int)), r)
  else (Ex.exit (0 : Nat), eI.lst a.length (eI.els a), eI.lst b.length (eI.els b), n, i, r)
def seq_side (a : List Int) (b : List Int) (n : Int) (i : Int) (r : Bool) : Prop :=
  (decide (i < n) = true →
      ((0 : Int) ≤ i ∧ i < (↑a.length : Int)) ∧
        ((0 : Int) ≤ i ∧ i < (↑b.length : Int)) ∧
          ((a.getD i.toNat eI.dflt != b.getD i.toNat eI.dflt) = true →
              (∀ (e : Nat), e < a.length → eI.Ok (eI.els a e)) ∧ ∀ (e : Nat), e < b.length → eI.Ok (eI.els b e)) ∧
            ((a.getD i.toNat eI.dflt != b.getD i.toNat eI.dflt) = false →
              (∀ (e : Nat), e < a.length → eI.Ok (eI.els a e)) ∧ ∀ (e : Nat), e < b.length → eI.Ok (eI.els b e))) ∧
    (decide (i < n) = false →
      (∀ (e : Nat), e < a.length → eI.Ok (eI.els a e)) ∧ ∀ (e : Nat), e < b.length → eI.Ok (eI.els b e))
theorem seq_one : ((loopsOf Try.prog 34).filter fun c => Nat.beq (lkey c) 4).length = 1 := by kernel_rfl
abbrev seq_GC : Type := List Int × List Int × Int
abbrev seq_GB : Type := Bool
def seq_f (g : seq_G) : Int × seq_GC × seq_GB := (g.2.2.2.1, (g.1, g.2.1, g.2.2.1), g.2.2.2.2)
def seq_g (d : Int × seq_GC × seq_GB) : seq_G := (d.2.1.1, d.2.1.2.1, d.2.1.2.2, d.1, d.2.2)
theorem seq_es (g : seq_G) : (seq_R g.1 g.2.1 g.2.2.1 g.2.2.2.1 g.2.2.2.2).1 = .normal ∨ (seq_R g.1 g.2.1 g.2.2.1 g.2.2.2.1 g.2.2.2.2).1 ∈ ([.ret, .exit 0] : List Ex) := by
  unfold seq_R
  repeat' (first | (left; rfl) | (right; simp only [cond_true, cond_false]; simp; done) | (rw [Bool.cond_eq_ite]; split))
noncomputable abbrev seq_C (Inv : seq_G → List Prop) (m : seq_G → Nat) : LCon := loopR [.ret, .exit 0] (loopBody Try.prog 34 4) seq_LP [] 26 Inv (fun g => seq_R g.1 g.2.1 g.2.2.1 g.2.2.2.1 g.2.2.2.2) m
theorem seq_loop (Inv : seq_G → List Prop) (m : seq_G → Nat) (hs : ∀ g, allP (Inv g) → seq_side g.1 g.2.1 g.2.2.1 g.2.2.2.1 g.2.2.2.2) (hg : Goes (fun g : seq_G => seq_R g.1 g.2.1 g.2.2.1 g.2.2.2.1 g.2.2.2.2) m fun g => allP (Inv g)) : ∀ b ∈ loopsOf Try.prog 34, lkey b = 4 → LoopOk Try.prog b (seq_C Inv m).g := loop_run (Γ := (PTab.gamz tab7 [] [])) (Λ := noΛ) (PTab.okz tab7 [] []) noΛ_ok 100 34 4 26 seq_LP [] Inv (fun g => seq_R g.1 g.2.1 g.2.2.1 g.2.2.2.1 g.2.2.2.2) (fun g => seq_side g.1 g.2.1 g.2.2.1 g.2.2.2.1 g.2.2.2.2) m default [.ret, .exit 0] seq_one (fun rd T B HL HB ds g => by kernel_rfl) (fun rd T B HL HB ds g => by kernel_rfl) hs hg seq_es
noncomputable def tab41 : PTab Try.prog := tab7
end Go.Proofs.Ytapmlfklkfgmoaa

/- Chapter 2: are two lists of counters the same: the contract of the loop. -/
namespace Go.Proofs.Ytapmlfklkfgmoaa
open Go.RowKit Go.Sx Go.Lp
def seq_S (c : seq_GC) (r : seq_GB) (i : Int) (a : Int) : Ex × seq_GB := bif !decide (a = c.2.1.getD i.toNat eI.dflt) then (.ret, false) else (.normal, r)
def seq_K (c : seq_GC) (_ : seq_GB) (_ : Int) : Prop := c.1.length = c.2.1.length
abbrev seq_I (g : seq_G) : List Prop := ixI (fun c : seq_GC => c.2.2) (fun c => c.1) seq_K (seq_f g)
abbrev seq_M (g : seq_G) : Nat := ixM (fun c : seq_GC => c.2.2) (seq_f g)
theorem seq_P : ixP seq_S (fun c : seq_GC => c.1) seq_K := fun _ _ _ _ h _ _ => h
noncomputable abbrev seq_RR (g : seq_G) : Ex × seq_G := seq_R g.1 g.2.1 g.2.2.1 g.2.2.2.1 g.2.2.2.2
theorem seq_RF (d : Int × seq_GC × seq_GB) (_ : allP (ixI (fun c : seq_GC => c.2.2) (fun c => c.1) seq_K d)) : seq_RR (seq_g d) = ((ixF 0 (fun c : seq_GC => c.2.2) (fun c => c.1) eI.dflt seq_S d).1, seq_g (ixF 0 (fun c : seq_GC => c.2.2) (fun c => c.1) eI.dflt seq_S d).2) := by
  obtain ⟨i, ⟨a, b, n⟩, r⟩ := d
  show seq_R a b n i r = _
  unfold seq_R ixF seq_S
  simp only [eI.lst_els]
  cases decide (i < n) with
  | false => rfl
  | true =>
    simp only [cond_true]
    rw [show (a.getD i.toNat eI.dflt != b.getD i.toNat eI.dflt) = !decide (a.getD i.toNat eI.dflt = b.getD i.toNat eI.dflt) from rfl]
    cases decide (a.getD i.toNat eI.dflt = b.getD i.toNat eI.dflt) <;> rfl
theorem seq_ok : ∀ b ∈ loopsOf Try.prog 34, lkey b = 4 → LoopOk Try.prog b (seq_C seq_I seq_M).g := by
  refine seq_loop seq_I seq_M (fun g hi => ?_) (ix_conj_goes (fun _ => rfl) (fun _ => rfl) seq_RF seq_P)
  obtain ⟨a, b, n, i, r⟩ := g
  obtain ⟨h1, h2, h3, h4, h5⟩ := hi _ (List.mem_cons_self ..)
  have h1 : n = (a.length : Int) := h1
  have h3 : 0 ≤ i := h3
  have h5 : a.length = b.length := h5
  show seq_side a b n i r
  unfold seq_side
  simp only [decide_eq_true_eq, decide_eq_false_iff_not]
  have ha := okI a
  have hb := okI b
  clear hi
  repeat' (first | exact ha | exact hb | apply And.intro | intro _)
  all_goals omega
noncomputable def ltW : LTab Try.prog := LTab.nil.cons 34 4 (seq_C seq_I seq_M) seq_ok
noncomputable abbrev lamW : Lam := ltW.lam
theorem lamW_ok : ∀ f k L, lamW f k = some L → ∀ b ∈ loopsOf Try.prog f, lkey b = k → LoopOk Try.prog b L.g := ltW.ok
end Go.Proofs.Ytapmlfklkfgmoaa

/- Chapter 2: are two lists of counters the same. Printed by treegen.py. -/
namespace Go.Proofs.Ytapmlfklkfgmoaa
open Go.RowKit Go.Sx
set_option maxRecDepth 100000
set_option linter.unusedVariables false
noncomputable def seqf_q1 (a : List Int) (b : List Int) : Ex ×
  seq_G :=
  loopF (fun g => seq_R g.fst g.snd.fst g.snd.snd.fst g.snd.snd.snd.fst g.snd.snd.snd.snd) seq_M
    (eI.lst a.length (eI.els a), eI.lst b.length (eI.els b), (↑a.length : Int), (0 : Int), false)
noncomputable def seqf_F (a : List Int) (b : List Int) : Dv.T dBool :=
  bif (↑a.length : Int) != (↑b.length : Int) then false
  else bif exB Ex.ret (seqf_q1 a b).fst then (seqf_q1 a b).snd.snd.snd.snd.snd else true
def seqf_side (a : List Int) (b : List Int) : Prop :=
  ((↑a.length : Int) != (↑b.length : Int)) = false →
    (∀ (e : Nat), e < a.length → eI.Ok (eI.els a e)) ∧
      (∀ (e : Nat), e < b.length → eI.Ok (eI.els b e)) ∧
        Lp.ixJ (fun c => c.snd.snd) (fun c => c.fst) seq_K
          (seq_f (eI.lst a.length (eI.els a), eI.lst b.length (eI.els b), (↑a.length : Int), (0 : Int), false))
theorem seqf_okS (pre : DA.T aLLI → List Prop) (h : ∀ g, DA.bd aLLI g → (∀ p ∈ pre g, p) → seqf_side g.1 g.2) : FnPure Try.prog 34 aLLI dBool (fun g => seqf_F g.1 g.2) pre := pure_of_sideS (Γ := (PTab.gamz tab7 [] [])) (Λ := lamW) (PTab.okz tab7 [] []) lamW_ok 100 default (fun g => seqf_side g.1 g.2) (fun g => by kernel_rfl) (fun g => by kernel_rfl) h
noncomputable def tab42 : PTab Try.prog := tab7
end Go.Proofs.Ytapmlfklkfgmoaa

/- Chapter 2: are two lists of counters the same: the contract; the table for SummSteps. -/
namespace Go.Proofs.Ytapmlfklkfgmoaa
open Go.RowKit Go.Sx Go.Lp
theorem ne_len {α β : Type} {a : List α} {b : List β} (h : ((a.length : Int) != (b.length : Int)) = false) : a.length = b.length := by
  have : (a.length : Int) = (b.length : Int) := by simpa using h
  omega
theorem seqf_ok : FnPure Try.prog 34 aLLI dBool (fun g => decide (g.1 = g.2)) (fun _ => []) := by
  have h := seqf_okS (fun _ => []) fun g hb _ => by
    obtain ⟨a, b⟩ := g
    have ha : a.length ≤ maxLen := hb.1.1
    show seqf_side a b
    unfold seqf_side
    simp only [eI.lst_els]
    exact fun hc => ⟨okI a, okI b, ixJ0 rfl ha (ne_len hc)⟩
  refine pure_congr h fun g hb _ => ?_
  obtain ⟨a, b⟩ := g
  have ha : a.length ≤ maxLen := hb.1.1
  show seqf_F a b = decide (a = b)
  unfold seqf_F seqf_q1
  simp only [eI.lst_els]
  cases hc : ((a.length : Int) != (b.length : Int)) with
  | true =>
    have : a ≠ b := fun e => by subst e; simp at hc
    simp [this]
  | false =>
    have hl := ne_len hc
    have h1 : loopF (fun g : seq_G => seq_R g.1 g.2.1 g.2.2.1 g.2.2.2.1 g.2.2.2.2) seq_M (a, b, (a.length : Int), 0, false) = _ := ix_conj_run (φ := seq_f) (ψ := seq_g) (fun _ => rfl) (fun _ => rfl) seq_RF seq_P (a, b, (a.length : Int)) false rfl ha hl
    rw [h1]
    rcases scan_same (x := 0) b eI.dflt (st := seq_S (a, b, (a.length : Int))) (fun _ _ _ => rfl) a 0 false (by omega) with ⟨h2, h3⟩ | ⟨h2, h3, h4⟩
    · have h3 : scan 0 (seq_S (a, b, (a.length : Int))) 0 a false = _ := h3
      rw [h3]
      rw [List.drop_zero] at h2
      simp [h2, exB]
    · have h3 : (scan 0 (seq_S (a, b, (a.length : Int))) 0 a false).1 = _ := h3
      have h4 : (scan 0 (seq_S (a, b, (a.length : Int))) 0 a false).2.2 = _ := h4
      rw [List.drop_zero] at h2
      show (bif exB .ret (scan 0 (seq_S (a, b, (a.length : Int))) 0 a false).1 then (scan 0 (seq_S (a, b, (a.length : Int))) 0 a false).2.2 else true) = _
      rw [h3, h4]
      simp [h2, exB]
noncomputable def tab43 : PTab Try.prog := (((tab7.cons 34 (pconP aLLI dBool (fun g => decide (g.1 = g.2)) (fun _ => [])) (conP_ok seqf_ok puB)).cons 35 (pconR aTo dLI (fun g => g.1.take g.2.toNat) (fun g => [g.1.length ≤ 1000000])) (conR_ok told_ok)).cons 36 (pconR aS dPu plS (fun _ => [])) (conR_ok pushed_ok)).cons 30 (pconR aS dLI plS (fun _ => [])) (conR_ok rpushed_ok)
end Go.Proofs.Ytapmlfklkfgmoaa
