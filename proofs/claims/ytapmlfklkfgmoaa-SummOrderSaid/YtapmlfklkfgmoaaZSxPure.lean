/- Contracts of functions upon plain data, out of their trees. -/
import Derived.Test.YtapmlfklkfgmoaaZSxCod
set_option linter.unusedVariables false
namespace Go.Sx
open Go.RowKit

def asks {α : Type} : List Prop → Tr α → Tr α
  | [], t => t
  | p :: r, t => .ask p (asks r t)
theorem asks_holds {α : Type} {K : α → Prop} : ∀ {l : List Prop} {t : Tr α}, (asks l t).Holds K → (∀ p ∈ l, p) ∧ t.Holds K
  | [], t, h => ⟨fun p hp => by simp at hp, h⟩
  | p :: r, t, h => by
    obtain ⟨h1, h2⟩ := asks_holds h.2
    refine ⟨fun q hq => ?_, h2⟩
    rcases List.mem_cons.1 hq with rfl | hq
    · exact h.1
    · exact h1 q hq
theorem asks_each {α : Type} {P : α → Prop} : ∀ {l : List Prop} {t : Tr α}, t.Each P → (asks l t).Each P
  | [], _, h => h
  | _ :: r, t, h => asks_each (l := r) h

/-! ### known values, the call's own memory being looked at as if it were only read -/
def vw1 (h : SH) : SV → SV × List Prop
  | .ow i l => match h.get i with
    | .row _ sz el m => (.rs sz l el, [l ≤ m])
    | _ => (.ow i l, [])
  | .se i sz o l => match h.get i with
    | .row _ s el m => bif Nat.beq s sz then (.rs sz l (shEl o el), [o + l ≤ m]) else (.u, [])
    | _ => (.se i sz o l, [])
  | .p i o => match h.get i with
    | .cells xs _ => (.pr (xs.drop o), [])
    | _ => (.p i o, [])
  | .sl i o l c => match h.get i with
    | .cells xs _ => bif Nat.ble l c && (Nat.ble c 16777216 && Nat.ble (o + l * ((xs.length - o) / c)) xs.length) then (.rs ((xs.length - o) / c) l (fun e => (xs.drop (o + e * ((xs.length - o) / c))).take ((xs.length - o) / c)), []) else (.u, [])
    | _ => (.sl i o l c, [])
  | s => (s, [])
def vws (h : SH) : List SV → List SV × List Prop
  | [] => ([], [])
  | s :: r => ((vw1 h s).1 :: (vws h r).1, (vw1 h s).2 ++ (vws h r).2)
def vw (h : SH) : SV → SV × List Prop
  | .tup xs => (.tup (vws h xs).1, (vws h xs).2)
  | .agg xs => (.agg (vws h xs).1, (vws h xs).2)
  | s => vw1 h s
def vwA (h : SH) : List SV → List SV × List Prop
  | [] => ([], [])
  | s :: r => ((vw h s).1 :: (vwA h r).1, (vw h s).2 ++ (vwA h r).2)

section
variable {P : Program} {M : Nat → Prop} {w0 w : World} {ρ : Rh} {h : SH}
theorem vw1_ok (hm : HM M w0 ρ h w) {G : Nat → Option Obj} (hG : ∀ b o, ρ.mem b = some o → G b = some o) (hO : ∀ i o, (h.get i).own (ρ i) → w.heap[(ρ i).blk]? = some o → G (ρ i).blk = some o)
    {s : SV} {x : Value} (hf : s.fit h.nx ρ x) (hp : ∀ p ∈ (vw1 h s).2, p) : (vw1 h s).1.fit h.nx ⟨ρ.lc, G, ρ.lo⟩ x := by
  have hag : Agree h.nx ρ ⟨ρ.lc, G, ρ.lo⟩ := ⟨fun _ _ => rfl, hG, rfl⟩
  have mono : ∀ {s : SV} {x : Value}, s.fit h.nx ρ x → s.fit h.nx ⟨ρ.lc, G, ρ.lo⟩ x := fun {s x} hf => SV.fit_mono (Nat.le_refl _) hag s x hf
  generalize hr : vw1 h s = r at hp ⊢
  unfold vw1 at hr
  split at hr
  · rename_i i l
    split at hr
    · rename_i t sz el m hg
      subst hr
      have hl : l ≤ m := hp _ (List.mem_cons_self ..)
      have hob := hm.ob i
      have hown := hO i
      rw [hg] at hob hown
      obtain ⟨hil, ⟨hnl, rfl, rfl⟩ | ⟨hnl, hlc, rfl⟩⟩ := hf
      · exact rs_nil _ _
      · rcases hob.2 with ⟨hnl', _⟩ | ⟨_, hoff, c, hob', hcs, hmc, hcm, hall⟩
        · rw [hnl] at hnl'; cases hnl'
        · refine ⟨_, _, rfl, hlc, by omega, fun _ => ⟨_, 0, c, t, (0, 0), rfl, hown _ hnl hob', fun e he => ?_⟩⟩
          obtain ⟨vs, q1, q2, q3⟩ := hall e (by omega)
          exact ⟨vs, q1, SV.fits_mono (Nat.le_refl _) hag _ _ q2, q3⟩
    · subst hr; exact mono hf
  · rename_i i sz o l
    split at hr
    · rename_i t s el m hg
      cases hb : Nat.beq s sz with
      | false => rw [hb] at hr; subst hr; trivial
      | true =>
        rw [hb] at hr
        subst hr
        have := beq_of hb
        subst this
        have hl : o + l ≤ m := hp _ (List.mem_cons_self ..)
        have hob := hm.ob i
        have hown := hO i
        rw [hg] at hob hown
        obtain ⟨hil, a, c, rfl, hlc, hcm, hadr⟩ := hf
        refine ⟨a, c, rfl, hlc, hcm, fun hpos => ?_⟩
        rcases hob.2 with ⟨hnl', h0⟩ | ⟨hnl, hoff, c', hob', hcs, hmc, hcm', hall⟩
        · omega
        · refine ⟨_, (ρ i).off + o * s, c', t, (0, 0), hadr hpos, hown _ hnl hob', fun e he => ?_⟩
          obtain ⟨vs, q1, q2, q3⟩ := hall (o + e) (by omega)
          refine ⟨vs, q1, SV.fits_mono (Nat.le_refl _) hag _ _ q2, fun j v hv => ?_⟩
          have := q3 j v hv
          rw [Nat.add_mul] at this
          rw [hoff]
          simpa [Nat.add_assoc] using this
    · subst hr; exact mono hf
  · rename_i i o
    split at hr
    · rename_i xs t hg
      subst hr
      have hob := hm.ob i
      have hown := hO i
      rw [hg] at hob hown
      obtain ⟨hil, rfl⟩ := hf
      obtain ⟨_, hoff, l, hob', hfl⟩ := hob
      refine ⟨_, (ρ i).off + o, l.toArray, t, (0, 0), rfl, hown _ trivial hob', l.drop o, SV.fits_mono (Nat.le_refl _) hag _ _ (fits_drop o hfl), fun j v hv => ?_⟩
      rw [hoff]
      rw [List.getElem?_drop] at hv
      simpa using hv
    · subst hr; exact mono hf
  · rename_i i o l c
    split at hr
    · rename_i xs t hg
      cases hb : Nat.ble l c && (Nat.ble c 16777216 && Nat.ble (o + l * ((xs.length - o) / c)) xs.length) with
      | false => rw [hb] at hr; subst hr; trivial
      | true =>
        rw [hb] at hr
        subst hr
        simp only [Bool.and_eq_true] at hb
        have b1 := Nat.le_of_ble_eq_true hb.1
        have b2 := Nat.le_of_ble_eq_true hb.2.1
        have b3 := Nat.le_of_ble_eq_true hb.2.2
        generalize (xs.length - o) / c = sz at b3 ⊢
        have hob := hm.ob i
        have hown := hO i
        rw [hg] at hob hown
        obtain ⟨hil, rfl⟩ := hf
        obtain ⟨_, hoff, v, hob', hfl⟩ := hob
        have hll := fits_length hfl
        refine ⟨_, _, rfl, b1, by unfold maxLen; omega, fun _ => ⟨_, _, v.toArray, t, (0, 0), rfl, hown _ trivial hob', fun e he => ?_⟩⟩
        have hle : o + e * sz + sz ≤ xs.length := by
          have := Nat.mul_le_mul_right sz (show e + 1 ≤ l by omega)
          rw [Nat.add_mul, Nat.one_mul] at this
          omega
        refine ⟨(v.drop (o + e * sz)).take sz, by simp; omega, SV.fits_mono (Nat.le_refl _) hag _ _ (fits_take _ (fits_drop _ hfl)), fun j y hy => ?_⟩
        rw [List.getElem?_take] at hy
        split at hy
        · rw [List.getElem?_drop] at hy
          rw [hoff]
          simpa [Nat.add_assoc] using hy
        · cases hy
    · subst hr; exact mono hf
  · subst hr; exact mono hf
theorem vws_ok (hm : HM M w0 ρ h w) {G : Nat → Option Obj} (hG : ∀ b o, ρ.mem b = some o → G b = some o) (hO : ∀ i o, (h.get i).own (ρ i) → w.heap[(ρ i).blk]? = some o → G (ρ i).blk = some o) :
    ∀ {s : List SV} {x : List Value}, SV.fits h.nx ρ s x → (∀ p ∈ (vws h s).2, p) → SV.fits h.nx ⟨ρ.lc, G, ρ.lo⟩ (vws h s).1 x
  | [], x, hf, _ => by have := fits_nil hf; subst this; trivial
  | s :: r, x, hf, hp => by
    obtain ⟨y, r', rfl, hy, hr⟩ := fits_cons hf
    simp only [vws] at hp ⊢
    exact ⟨vw1_ok hm hG hO hy fun p h' => hp p (List.mem_append_left _ h'), vws_ok hm hG hO hr fun p h' => hp p (List.mem_append_right _ h')⟩
theorem vw_ok (hm : HM M w0 ρ h w) {G : Nat → Option Obj} (hG : ∀ b o, ρ.mem b = some o → G b = some o) (hO : ∀ i o, (h.get i).own (ρ i) → w.heap[(ρ i).blk]? = some o → G (ρ i).blk = some o)
    {s : SV} {x : Value} (hf : s.fit h.nx ρ x) (hp : ∀ p ∈ (vw h s).2, p) : (vw h s).1.fit h.nx ⟨ρ.lc, G, ρ.lo⟩ x := by
  cases s with
  | tup xs =>
    obtain ⟨v, rfl, hv⟩ := hf
    exact ⟨v, rfl, vws_ok hm hG hO hv hp⟩
  | agg xs =>
    obtain ⟨v, rfl, hv⟩ := hf
    exact ⟨v, rfl, vws_ok hm hG hO hv hp⟩
  | _ => exact vw1_ok hm hG hO hf hp
theorem vwA_ok (hm : HM M w0 ρ h w) {G : Nat → Option Obj} (hG : ∀ b o, ρ.mem b = some o → G b = some o) (hO : ∀ i o, (h.get i).own (ρ i) → w.heap[(ρ i).blk]? = some o → G (ρ i).blk = some o) :
    ∀ {s : List SV} {x : List Value}, SV.fits h.nx ρ s x → (∀ p ∈ (vwA h s).2, p) → SV.fits h.nx ⟨ρ.lc, G, ρ.lo⟩ (vwA h s).1 x
  | [], x, hf, _ => by have := fits_nil hf; subst this; trivial
  | s :: r, x, hf, hp => by
    obtain ⟨y, r', rfl, hy, hr⟩ := fits_cons hf
    simp only [vwA] at hp ⊢
    exact ⟨vw_ok hm hG hO hy fun p h' => hp p (List.mem_append_left _ h'), vwA_ok hm hG hO hr fun p h' => hp p (List.mem_append_right _ h')⟩
end

/-! ### functions -/
def emp (F : Nat → Option Obj) : Rh := ⟨fun _ => ⟨0, 0, 0, false⟩, F, F⟩
def memAt (F : Nat → Option Obj) (w w' : World) : Nat → Option Obj := fun b => if b < w.heap.size then F b else w'.heap[b]?
/-- A function makes plain data of plain data, where 'pre' holds. -/
def FnPure {γ δ : Type} (P : Program) (f : Nat) (D : DA γ) (R : Dv δ) (fn : γ → δ) (pre : γ → List Prop) : Prop :=
  ∀ (w : World) (F : Nat → Option Obj) (g : γ) (vs : List Value), (∀ b o, F b = some o → w.heap[b]? = some o) → (∀ p ∈ pre g, p) → SV.fits 0 (emp F) (D.enc g) vs →
    Calls P f vs.toArray w fun e w' => ∃ x, e = .returned x ∧ Below w.heap.size w w' ∧ (R.enc (fn g)).fit 0 (emp (memAt F w w')) x
/-- What a function makes of plain data, as a tree of plain data. -/
def dTree {δ : Type} (P : Program) (Γ : Gam) (Λ : Lam) (n f : Nat) (args : List SV) (R : Dv δ) : Tr δ :=
  (fnTree P Γ Λ n f args ⟨0, [], []⟩).bind fun y => asks (vw y.2 y.1).2 (match R.dec (vw y.2 y.1).1 with
    | some (r, ps) => asks ps (.ret r)
    | none => .bad 620)

section
variable {P : Program} {Γ : Gam} {Λ : Lam} {f : Nat} {γ δ : Type} {D : DA γ} {R : Dv δ} {fn : γ → δ} {pre : γ → List Prop}
theorem fnTree_ok (hΓ : ∀ f g, Γ.g f = some g → FnOk P f g) (hΛ : ∀ f k L, Λ f k = some L → ∀ b ∈ loopsOf P f, lkey b = k → LoopOk P b L.g) (n : Nat) : FnOk P f (fnTree P Γ Λ n f) := by
  refine fnRun_ok fun M w0 w ρ fn c σ a K hfn hc hk hm => ?_
  exact exec_ok hΓ hΛ n (some f) none c (by
    intro f' hf' b hb
    injection hf' with hf'
    subst hf'
    simp only [loopsOf, hfn, hc]
    exact hb) M w0 w ρ σ a K (by intro l hl; cases hl) hk hm
theorem pure_of_cases (hΓ : ∀ f g, Γ.g f = some g → FnOk P f g) (hΛ : ∀ f k L, Λ f k = some L → ∀ b ∈ loopsOf P f, lkey b = k → LoopOk P b L.g) (n : Nat)
    (hT : ∀ g, D.bd g → (∀ p ∈ pre g, p) → ∃ args, (∀ n ρ x, SV.fits n ρ (D.enc g) x → SV.fits n ρ args x) ∧ (dTree P Γ Λ n f args R).Holds (· = fn g)) : FnPure P f D R fn pre := by
  intro w F g vs hF hpre hfit
  have hbd := D.fb _ _ _ _ hfit
  obtain ⟨args, hargs, hT⟩ := hT g hbd hpre
  have h0 := fnTree_ok hΓ hΛ n (fun _ => False) w w (emp F) ⟨0, [], []⟩ args vs _ (Tr.holds_bind hT) (HM.start w (emp F) hF fun _ _ h => h) (hargs _ _ _ hfit)
  refine h0.mono ?_
  rintro e w' ⟨s, h', ρ', x, h1, h2, h3, h4, h5, rfl⟩
  refine ⟨x, rfl, h4.toBelow, ?_⟩
  obtain ⟨hp, h1⟩ := asks_holds h1
  have hG : ∀ b o, ρ'.mem b = some o → memAt F w w' b = some o := fun b o hb => by
    unfold memAt
    split
    · rename_i hlt
      have := h4.old b o hb hlt (fun h => h)
      rw [h3.2.2] at this
      exact this
    · exact h4.fz b o hb
  have hO : ∀ i o, (h'.get i).own (ρ' i) → w'.heap[(ρ' i).blk]? = some o → memAt F w w' (ρ' i).blk = some o := fun i o hown ho => by
    unfold memAt
    rcases h4.ow i hown with h | h
    · rw [if_neg (by omega)]; exact ho
    · exact h.elim
  have hv := vw_ok h4 hG hO h5 hp
  split at h1
  · rename_i r ps hr
    obtain ⟨hq, h1⟩ := asks_holds h1
    have h1 : r = fn g := h1
    have := R.ok _ _ _ _ _ _ hr hq hv
    rw [h1] at this
    exact R.cl _ _ 0 ⟨ρ'.lc, memAt F w w', ρ'.lo⟩ (emp (memAt F w w')) x (fun _ _ h => h) this
  · exact h1.elim

theorem pure_of_tree (hΓ : ∀ f g, Γ.g f = some g → FnOk P f g) (hΛ : ∀ f k L, Λ f k = some L → ∀ b ∈ loopsOf P f, lkey b = k → LoopOk P b L.g) (n : Nat)
    (hT : ∀ g, D.bd g → (∀ p ∈ pre g, p) → (dTree P Γ Λ n f (D.enc g) R).Holds (· = fn g)) : FnPure P f D R fn pre :=
  pure_of_cases hΓ hΛ n fun g h1 h2 => ⟨_, fun _ _ _ h => h, hT g h1 h2⟩

/-- A tree without anything that is asked, and what it comes to. -/
def _root_.Go.Sx.Tr.safe {α : Type} : Tr α → Bool
  | .ret _ => true
  | .br _ a b => a.safe && b.safe
  | _ => false
def _root_.Go.Sx.Tr.ev {α : Type} (d : α) : Tr α → α
  | .ret x => x
  | .br c a b => bif c then a.ev d else b.ev d
  | .ask _ a => a.ev d
  | .giv _ a => a.ev d
  | _ => d
theorem _root_.Go.Sx.Tr.safe_holds {α : Type} (d : α) : ∀ {t : Tr α}, t.safe = true → t.Holds (· = t.ev d)
  | .ret _, _ => rfl
  | .br c a b, h => by
    simp only [Tr.safe, Bool.and_eq_true] at h
    refine ⟨fun hc => ?_, fun hc => ?_⟩
    · subst hc; exact safe_holds d h.1
    · subst hc; exact safe_holds d h.2
  | .ask _ _, h => by cases h
  | .giv _ _, h => by cases h
  | .all _, h => by cases h
  | .bad _, h => by cases h
theorem pure_of_safe (hΓ : ∀ f g, Γ.g f = some g → FnOk P f g) (hΛ : ∀ f k L, Λ f k = some L → ∀ b ∈ loopsOf P f, lkey b = k → LoopOk P b L.g) (n : Nat) (d : δ)
    (hs : ∀ g, (dTree P Γ Λ n f (D.enc g) R).safe = true) (he : ∀ g, (dTree P Γ Λ n f (D.enc g) R).ev d = fn g) : FnPure P f D R fn pre :=
  pure_of_tree hΓ hΛ n fun g _ _ => by
    have := Tr.safe_holds d (hs g)
    rw [he g] at this
    exact this

def _root_.Go.Sx.Tr.plain {α : Type} : Tr α → Bool
  | .ret _ => true
  | .br _ a b => a.plain && b.plain
  | _ => false
/-- What must be shown: what is asked, and that nothing bad is reached. -/
def _root_.Go.Sx.Tr.side {α : Type} : Tr α → Prop
  | .ret _ => True
  | .br c a b => match a.plain, b.plain with
    | true, true => True
    | true, false => c = false → b.side
    | false, true => c = true → a.side
    | false, false => (c = true → a.side) ∧ (c = false → b.side)
  | .ask p a => match a.plain with
    | true => p
    | false => p ∧ a.side
  | _ => False
theorem _root_.Go.Sx.Tr.plain_side {α : Type} : ∀ {t : Tr α}, t.plain = true → t.side
  | .ret _, _ => trivial
  | .br c a b, h => by
    simp only [Tr.plain, Bool.and_eq_true] at h
    simp only [Tr.side, h.1, h.2]
  | .ask _ _, h => by cases h
  | .giv _ _, h => by cases h
  | .all _, h => by cases h
  | .bad _, h => by cases h
theorem _root_.Go.Sx.Tr.side_holds {α : Type} (d : α) : ∀ {t : Tr α}, t.side → t.Holds (· = t.ev d)
  | .ret _, _ => rfl
  | .br c a b, h => by
    have h2 : (c = true → a.side) ∧ (c = false → b.side) := by
      simp only [Tr.side] at h
      split at h
      · rename_i h1 h2; exact ⟨fun _ => Tr.plain_side h1, fun _ => Tr.plain_side h2⟩
      · rename_i h1 h2; exact ⟨fun _ => Tr.plain_side h1, h⟩
      · rename_i h1 h2; exact ⟨h, fun _ => Tr.plain_side h2⟩
      · exact h
    refine ⟨fun hc => ?_, fun hc => ?_⟩
    · have := side_holds d (h2.1 hc); subst hc; exact this
    · have := side_holds d (h2.2 hc); subst hc; exact this
  | .ask p a, h => by
    have h2 : p ∧ a.side := by
      simp only [Tr.side] at h
      split at h
      · rename_i h1; exact ⟨h, Tr.plain_side h1⟩
      · exact h
    exact ⟨h2.1, side_holds d h2.2⟩
  | .giv _ _, h => h.elim
  | .all _, h => h.elim
  | .bad _, h => h.elim
theorem pure_of_side (hΓ : ∀ f g, Γ.g f = some g → FnOk P f g) (hΛ : ∀ f k L, Λ f k = some L → ∀ b ∈ loopsOf P f, lkey b = k → LoopOk P b L.g) (n : Nat) (d : δ)
    (hs : ∀ g, D.bd g → (∀ p ∈ pre g, p) → (dTree P Γ Λ n f (D.enc g) R).side) (he : ∀ g, (dTree P Γ Λ n f (D.enc g) R).ev d = fn g) : FnPure P f D R fn pre :=
  pure_of_tree hΓ hΛ n fun g h1 h2 => by
    have := Tr.side_holds d (hs g h1 h2)
    rw [he g] at this
    exact this

theorem pure_of_sideS (hΓ : ∀ f g, Γ.g f = some g → FnOk P f g) (hΛ : ∀ f k L, Λ f k = some L → ∀ b ∈ loopsOf P f, lkey b = k → LoopOk P b L.g) (n : Nat) (d : δ) (S : γ → Prop)
    (hS : ∀ g, (dTree P Γ Λ n f (D.enc g) R).side = S g) (he : ∀ g, (dTree P Γ Λ n f (D.enc g) R).ev d = fn g) (hs : ∀ g, D.bd g → (∀ p ∈ pre g, p) → S g) : FnPure P f D R fn pre :=
  pure_of_side hΓ hΛ n d (fun g h1 h2 => by rw [hS g]; exact hs g h1 h2) he

/-- A contract: the answer lies in no memory. -/
def conP (D : DA γ) (R : Dv δ) (fn : γ → δ) (pre : γ → List Prop) : Con := fun args h =>
  match D.dec (vwA h args).1 with
  | some (g, ps) => asks ((vwA h args).2 ++ (ps ++ pre g)) (.ret (R.enc (fn g), h))
  | none => .bad 621
/-- A contract: the answer lies in memory that is only read from then on. -/
def conR (D : DA γ) (R : Dv δ) (fn : γ → δ) (pre : γ → List Prop) : Con := fun args h =>
  match D.dec args with
  | some (g, ps) => asks (ps ++ pre g) (.ret (R.enc (fn g), h))
  | none => .bad 622
theorem conP_ok (hp : FnPure P f D R fn pre) (hR : ∀ r, Pu (R.enc r)) : FnOk P f (conP D R fn pre) := by
  intro M w0 w ρ h args vs K hK hm hfits
  unfold conP at hK
  split at hK
  · rename_i g ps hd
    obtain ⟨hq, hK⟩ := asks_holds hK
    have hv := vwA_ok (G := fun b => w.heap[b]?) hm hm.fz (fun _ _ _ h => h) hfits fun p h' => hq p (List.mem_append_left _ h')
    have hv2 := D.ok _ _ _ _ _ _ hd (fun p h' => hq p (List.mem_append_right _ (List.mem_append_left _ h'))) hv
    have hv3 := D.cl _ _ 0 ⟨ρ.lc, fun b => w.heap[b]?, ρ.lo⟩ (emp fun b => w.heap[b]?) vs (fun _ _ h => h) hv2
    refine (hp w (fun b => w.heap[b]?) g vs (fun _ _ h => h) (fun p h' => hq p (List.mem_append_right _ (List.mem_append_right _ h'))) hv3).mono ?_
    rintro e w' ⟨x, rfl, hb, hx⟩
    exact ⟨_, h, ρ, x, hK, Nat.le_refl _, Agree.refl _ _, hm.below hb, hR _ _ _ _ _ _ hx, rfl⟩
  · exact hK.elim
theorem conR_ok (hp : FnPure P f D R fn pre) : FnOk P f (conR D R fn pre) := by
  intro M w0 w ρ h args vs K hK hm hfits
  unfold conR at hK
  split at hK
  · rename_i g ps hd
    obtain ⟨hq, hK⟩ := asks_holds hK
    have hv2 := D.ok _ _ _ _ _ _ hd (fun p h' => hq p (List.mem_append_left _ h')) hfits
    have hv3 := D.cl _ _ 0 ρ (emp ρ.mem) vs (fun _ _ h => h) hv2
    refine (hp w ρ.mem g vs hm.fz (fun p h' => hq p (List.mem_append_right _ h')) hv3).mono ?_
    rintro e w' ⟨x, rfl, hb, hx⟩
    have hm1 := hm.below hb
    have hmem : ∀ b o, ρ.mem b = some o → memAt ρ.mem w w' b = some o := fun b o ho => by
      unfold memAt
      rw [if_pos (hm.lt_mem ho)]; exact ho
    have hag : Agree h.nx ρ ⟨ρ.lc, memAt ρ.mem w w', ρ.lo⟩ := ⟨fun _ _ => rfl, hmem, rfl⟩
    refine ⟨_, h, ⟨ρ.lc, memAt ρ.mem w w', ρ.lo⟩, x, hK, Nat.le_refl _, hag, ?_, R.cl _ 0 _ (emp (memAt ρ.mem w w')) _ _ (fun _ _ h => h) hx, rfl⟩
    exact {
      os := hm1.os
      tape := hm1.tape
      output := hm1.output
      size := hm1.size
      block := hm1.block
      lt := hm1.lt
      ob := fun i => SO.fit_mono (Nat.le_refl _) hag (hm1.ob i)
      ow := hm1.ow
      fz := fun b o hb' => by
        simp only [memAt] at hb'
        split at hb'
        · exact hm1.fz b o hb'
        · exact hb'
      sep := fun i hi => by
        have h1 := hm.sep i hi
        have h2 := hm.lt_heap hi
        simp only [memAt]
        rw [if_pos h2]; exact h1
      old := fun b o hb' hlt hM => by
        simp only [memAt] at hb'
        have hs := hm.size
        rw [if_pos (by omega)] at hb'
        exact hm.old b o hb' hlt hM
      inj := hm1.inj }
  · exact hK.elim

/-! ### tables of contracts -/
/-- A contract that changes no known block. -/
structure PCon where
  g : Con
  e : ∀ args h, (g args h).Each fun y => y.2 = h
def pconP (D : DA γ) (R : Dv δ) (fn : γ → δ) (pre : γ → List Prop) : PCon := ⟨conP D R fn pre, fun args h => by
  unfold conP
  split
  · exact asks_each rfl
  · trivial⟩
def pconR (D : DA γ) (R : Dv δ) (fn : γ → δ) (pre : γ → List Prop) : PCon := ⟨conR D R fn pre, fun args h => by
  unfold conR
  split
  · exact asks_each rfl
  · trivial⟩
structure BCon where
  g : Con
  b : ConB g
def pick {α : Type} (f : Nat) : List (Nat × α) → Option α
  | [] => none
  | (j, x) :: r => bif Nat.beq f j then some x else pick f r
theorem pick_mem {α : Type} {f : Nat} {x : α} : ∀ {l : List (Nat × α)}, pick f l = some x → (f, x) ∈ l
  | [], h => by cases h
  | (j, y) :: r, h => by
    simp only [pick] at h
    cases hb : Nat.beq f j with
    | true =>
      rw [hb] at h
      simp only [cond_true, Option.some.injEq] at h
      rw [h, beq_of hb]
      exact List.mem_cons_self ..
    | false =>
      rw [hb] at h
      exact List.mem_cons_of_mem _ (pick_mem h)
/-- The contracts 'l' change no known block, the contracts 'm' may. -/
def gam (l : List (Nat × PCon)) (m : List (Nat × BCon)) (zs : List (Nat × Nat)) (us : List (Nat × Nat × Nat)) : Gam where
  u f k := match us.find? fun x => Nat.beq x.1 f && Nat.beq x.2.1 k with
    | some x => x.2.2
    | none => 0
  z f i := zs.any fun x => Nat.beq x.1 f && Nat.beq x.2 i
  g f := match pick f l with
    | some c => some c.g
    | none => match pick f m with
      | some c => some c.g
      | none => none
  q f := (pick f l).isSome
  hq f h := by
    cases hp : pick f l with
    | none => rw [hp] at h; cases h
    | some c => exact ⟨c.g, rfl, c.e⟩
  hb f c h := by
    cases hp : pick f l with
    | some c' =>
      rw [hp] at h
      injection h with h
      subst h
      exact fun args h => eq_b (c'.e args h)
    | none =>
      rw [hp] at h
      simp only at h
      cases hq : pick f m with
      | none => rw [hq] at h; cases h
      | some c' =>
        rw [hq] at h
        injection h with h
        subst h
        exact c'.b
theorem gam_ok {l : List (Nat × PCon)} {m : List (Nat × BCon)} {zs : List (Nat × Nat)} {us : List (Nat × Nat × Nat)} (hl : ∀ x ∈ l, FnOk P x.1 x.2.g) (hm : ∀ x ∈ m, FnOk P x.1 x.2.g) : ∀ f g, (gam l m zs us).g f = some g → FnOk P f g := by
  intro f g h
  simp only [gam] at h
  cases hp : pick f l with
  | some c =>
    rw [hp] at h
    injection h with h
    subst h
    exact hl _ (pick_mem hp)
  | none =>
    rw [hp] at h
    simp only at h
    cases hq : pick f m with
    | none => rw [hq] at h; cases h
    | some c' =>
      rw [hq] at h
      injection h with h
      subst h
      exact hm _ (pick_mem hq)
/-- A table grows by one. -/
def PTab (P : Program) := { l : List (Nat × PCon) // ∀ x ∈ l, FnOk P x.1 x.2.g }
def PTab.nil : PTab P := ⟨[], fun x h => by simp at h⟩
def PTab.cons (t : PTab P) (f : Nat) (c : PCon) (h : FnOk P f c.g) : PTab P := ⟨(f, c) :: t.1, fun x hx => by
  rcases List.mem_cons.1 hx with rfl | hx
  · exact h
  · exact t.2 x hx⟩
def PTab.gam (t : PTab P) : Gam := Go.Sx.gam t.1 [] [] []
theorem PTab.ok (t : PTab P) : ∀ f g, t.gam.g f = some g → FnOk P f g := gam_ok t.2 (fun x h => by simp at h)
/-- Regions (function, number) at whose end all ways meet. -/
def PTab.gamz (t : PTab P) (zs : List (Nat × Nat)) (us : List (Nat × Nat × Nat)) : Gam := Go.Sx.gam t.1 [] zs us
theorem PTab.okz (t : PTab P) (zs : List (Nat × Nat)) (us : List (Nat × Nat × Nat)) : ∀ f g, (t.gamz zs us).g f = some g → FnOk P f g := gam_ok t.2 (fun x h => by simp at h)
def noΛ : Lam := fun _ _ => none
theorem noΛ_ok : ∀ f k L, noΛ f k = some L → ∀ b ∈ loopsOf P f, lkey b = k → LoopOk P b L.g := by intro f k L h; cases h
end
end Go.Sx
