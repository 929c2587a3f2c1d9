/- Chapter 3: functions over lists of times. Printed by treegen.py. -/
import Derived.Test.YtiipneclghnfhaaZG095c18e1
import Derived.Test.YtiipneclghnfhaaZG07b78856
import Derived.Test.YtiipneclghnfhaaZG08e3a832
set_option linter.unusedVariables false
set_option linter.unusedSimpArgs false
set_option linter.constructorNameAsVariable false
set_option linter.all false

namespace Go.Proofs.Ytiipneclghnfhaa
open Go.RowKit Go.Sx
set_option maxRecDepth 100000
set_option linter.unusedVariables false
abbrev aFt : DA (List T × List T) := .cons dLT (.one dFt)
abbrev aFc : DA (List T × T) := .cons dLT (.one dFc)
abbrev aLT : DA (List T × T) := .cons dLT (.one dT)
abbrev aLL : DA (List T × List T) := .cons dLT (.one dLT)
abbrev aL : DA (List T) := .one dLT
noncomputable def ixa_q1 (xs : List T) (l : List T) : Ex ×
  ia_G :=
  loopF (fun g => ia_R g.fst g.snd.fst g.snd.snd.fst g.snd.snd.snd.fst g.snd.snd.snd.snd) ia_M (eT.lst xs.length (eT.els xs), eT.lst l.length (eT.els l), (↑xs.length : Int), (0 : Int), (0 : Int))
noncomputable def ixa_F (xs : List T) (l : List T) : Dv.T dI :=
  bif exB Ex.ret (ixa_q1 xs l).fst then (ixa_q1 xs l).snd.snd.snd.snd.snd else (-1 : Int)
def ixa_side (xs : List T) (l : List T) : Prop :=
  (∀ (e : Nat), e < xs.length → eT.Ok (eT.els xs e)) ∧ (∀ (e : Nat), e < l.length → eT.Ok (eT.els l e)) ∧ Lp.ixJ (fun c => c.snd.snd) (fun c => c.fst) ia_K (ia_f (eT.lst xs.length (eT.els xs), eT.lst l.length (eT.els l), (↑xs.length : Int), (0 : Int), (0 : Int)))
theorem ixa_okS (pre : DA.T aFt → List Prop) (h : ∀ g, DA.bd aFt g → (∀ p ∈ pre g, p) → ixa_side g.1 g.2) : FnPure Try.prog 120 aFt dI (fun g => ixa_F g.1 g.2) pre := pure_of_sideS (Γ := (PTab.gamz tabL [] [])) (Λ := lamA) (PTab.okz tabL [] []) lamA_ok 100 default (fun g => ixa_side g.1 g.2) (fun g => by kernel_rfl) (fun g => by kernel_rfl) h
noncomputable def ind_q1 (xs : List T) (t : T) : Ex ×
  ii_G :=
  loopF (fun g => ii_R g.fst g.snd.fst g.snd.snd.fst g.snd.snd.snd.fst g.snd.snd.snd.snd.fst g.snd.snd.snd.snd.snd) ii_M (eT.lst xs.length (eT.els xs), (), t, (↑xs.length : Int), (0 : Int), (0 : Int))
noncomputable def ind_F (xs : List T) (t : T) : Dv.T dI :=
  bif exB Ex.ret (ind_q1 xs t).fst then (ind_q1 xs t).snd.snd.snd.snd.snd.snd else (-1 : Int)
def ind_side (xs : List T) (t : T) : Prop :=
  (∀ (e : Nat), e < xs.length → eT.Ok (eT.els xs e)) ∧ Lp.ixJ (fun c => c.snd.snd) (fun c => c.fst) ii_K (ii_f (eT.lst xs.length (eT.els xs), (), t, (↑xs.length : Int), (0 : Int), (0 : Int)))
theorem ind_okS (pre : DA.T aLT → List Prop) (h : ∀ g, DA.bd aLT g → (∀ p ∈ pre g, p) → ind_side g.1 g.2) : FnPure Try.prog 77 aLT dI (fun g => ind_F g.1 g.2) pre := pure_of_sideS (Γ := (PTab.gamz tabL [] [])) (Λ := lamA) (PTab.okz tabL [] []) lamA_ok 100 default (fun g => ind_side g.1 g.2) (fun g => by kernel_rfl) (fun g => by kernel_rfl) h
noncomputable def hsf_q1 (xs : List T) (t : T) : Ex ×
  hs_G :=
  loopF (fun g => hs_R g.fst g.snd.fst g.snd.snd.fst g.snd.snd.snd.fst g.snd.snd.snd.snd) hs_M (eT.lst xs.length (eT.els xs), (), t, (0 : Int), false)
noncomputable def hsf_F (xs : List T) (t : T) : Dv.T dBool :=
  bif exB Ex.ret (hsf_q1 xs t).fst then (hsf_q1 xs t).snd.snd.snd.snd.snd else false
def hsf_side (xs : List T) (t : T) : Prop :=
  (∀ (e : Nat), e < xs.length → eT.Ok (eT.els xs e)) ∧ Lp.ixJ (fun c => (↑c.fst.length : Int)) (fun c => c.fst) hs_K (hs_f (eT.lst xs.length (eT.els xs), (), t, (0 : Int), false))
theorem hsf_okS (pre : DA.T aLT → List Prop) (h : ∀ g, DA.bd aLT g → (∀ p ∈ pre g, p) → hsf_side g.1 g.2) : FnPure Try.prog 88 aLT dBool (fun g => hsf_F g.1 g.2) pre := pure_of_sideS (Γ := (PTab.gamz tabL [] [])) (Λ := lamA) (PTab.okz tabL [] []) lamA_ok 100 default (fun g => hsf_side g.1 g.2) (fun g => by kernel_rfl) (fun g => by kernel_rfl) h
noncomputable def smf_q1 (xs : List T) (ys : List T) : Ex ×
  rs_G :=
  loopF (fun g => rs_R g.fst g.snd.fst g.snd.snd.fst g.snd.snd.snd) rs_M (eT.lst xs.length (eT.els xs), eT.lst ys.length (eT.els ys), (0 : Int), false)
noncomputable def smf_F (xs : List T) (ys : List T) : Dv.T dBool :=
  bif (↑xs.length : Int) != (↑ys.length : Int) then false
  else bif exB Ex.ret (smf_q1 xs ys).fst then (smf_q1 xs ys).snd.snd.snd.snd else true
def smf_side (xs : List T) (ys : List T) : Prop :=
  ((↑xs.length : Int) != (↑ys.length : Int)) = false → (∀ (e : Nat), e < xs.length → eT.Ok (eT.els xs e)) ∧ (∀ (e : Nat), e < ys.length → eT.Ok (eT.els ys e)) ∧ Lp.ixJ (fun c => (↑c.fst.length : Int)) (fun c => c.fst) rs_K (rs_f (eT.lst xs.length (eT.els xs), eT.lst ys.length (eT.els ys), (0 : Int), false))
theorem smf_okS (pre : DA.T aLL → List Prop) (h : ∀ g, DA.bd aLL g → (∀ p ∈ pre g, p) → smf_side g.1 g.2) : FnPure Try.prog 91 aLL dBool (fun g => smf_F g.1 g.2) pre := pure_of_sideS (Γ := (PTab.gamz tabL [] [])) (Λ := lamA) (PTab.okz tabL [] []) lamA_ok 100 default (fun g => smf_side g.1 g.2) (fun g => by kernel_rfl) (fun g => by kernel_rfl) h
noncomputable def eqf_q1 (xs : List T) (ys : List T) : Ex ×
  eq_G :=
  loopF (fun g => eq_R g.fst g.snd.fst g.snd.snd.fst g.snd.snd.snd.fst g.snd.snd.snd.snd) eq_M (eT.lst xs.length (eT.els xs), eT.lst ys.length (eT.els ys), (↑xs.length : Int), (0 : Int), false)
noncomputable def eqf_F (xs : List T) (ys : List T) : Dv.T dBool :=
  bif (↑xs.length : Int) != (↑ys.length : Int) then false
  else bif exB Ex.ret (eqf_q1 xs ys).fst then (eqf_q1 xs ys).snd.snd.snd.snd.snd else true
def eqf_side (xs : List T) (ys : List T) : Prop :=
  ((↑xs.length : Int) != (↑ys.length : Int)) = false → (∀ (e : Nat), e < xs.length → eT.Ok (eT.els xs e)) ∧ (∀ (e : Nat), e < ys.length → eT.Ok (eT.els ys e)) ∧ Lp.ixJ (fun c => c.snd.snd) (fun c => c.fst) eq_K (eq_f (eT.lst xs.length (eT.els xs), eT.lst ys.length (eT.els ys), (↑xs.length : Int), (0 : Int), false))
theorem eqf_okS (pre : DA.T aLL → List Prop) (h : ∀ g, DA.bd aLL g → (∀ p ∈ pre g, p) → eqf_side g.1 g.2) : FnPure Try.prog 25 aLL dBool (fun g => eqf_F g.1 g.2) pre := pure_of_sideS (Γ := (PTab.gamz tabL [] [])) (Λ := lamA) (PTab.okz tabL [] []) lamA_ok 100 default (fun g => eqf_side g.1 g.2) (fun g => by kernel_rfl) (fun g => by kernel_rfl) h
noncomputable def rcf_q1 (xs : List T) (t : T) : Ex ×
  rc_G :=
  loopF (fun g => rc_R g.fst g.snd.fst g.snd.snd.fst g.snd.snd.snd.fst g.snd.snd.snd.snd) rc_M (eT.lst xs.length (eT.els xs), (), t, (0 : Int), false)
noncomputable def rcf_F (xs : List T) (t : T) : Dv.T dBool :=
  bif exB Ex.ret (rcf_q1 xs t).fst then (rcf_q1 xs t).snd.snd.snd.snd.snd else false
def rcf_side (xs : List T) (t : T) : Prop :=
  (∀ (e : Nat), e < xs.length → eT.Ok (eT.els xs e)) ∧ Lp.ixJ (fun c => (↑c.fst.length : Int)) (fun c => c.fst) rc_K (rc_f (eT.lst xs.length (eT.els xs), (), t, (0 : Int), false))
theorem rcf_okS (pre : DA.T aLT → List Prop) (h : ∀ g, DA.bd aLT g → (∀ p ∈ pre g, p) → rcf_side g.1 g.2) : FnPure Try.prog 54 aLT dBool (fun g => rcf_F g.1 g.2) pre := pure_of_sideS (Γ := (PTab.gamz tabL [] [])) (Λ := lamA) (PTab.okz tabL [] []) lamA_ok 100 default (fun g => rcf_side g.1 g.2) (fun g => by kernel_rfl) (fun g => by kernel_rfl) h
noncomputable def rtm_q1 (xs : List T) : Ex ×
  ra_G :=
  loopF (fun g => ra_R g.fst g.snd.fst g.snd.snd) ra_M (eT.lst xs.length (eT.els xs), (0 : Int), (0 : Int))
noncomputable def rtm_q2 (xs : List T) : Ex ×
  rb_G :=
  loopF (fun g => rb_R g.fst g.snd.fst g.snd.snd) rb_M (eT.lst (rtm_q1 xs).snd.fst.length (eT.els (rtm_q1 xs).snd.fst), (0 : Int), (rtm_q1 xs).snd.snd.snd)
noncomputable def rtm_F (xs : List T) : Dv.T dI :=
  bif exB Ex.ret (rtm_q1 xs).fst then (rtm_q1 xs).snd.snd.snd else bif exB Ex.ret (rtm_q2 xs).fst then (rtm_q2 xs).snd.snd.snd else (0 : Int)
def rtm_side (xs : List T) : Prop :=
  (∀ (e : Nat), e < xs.length → eT.Ok (eT.els xs e)) ∧ Lp.ixJ (fun c => (↑(List.length c) : Int)) (fun c => c) ra_K (ra_f (eT.lst xs.length (eT.els xs), (0 : Int), (0 : Int))) ∧ (exB Ex.ret (rtm_q1 xs).fst = false → (∀ (e : Nat), e < (rtm_q1 xs).snd.fst.length → eT.Ok (eT.els (rtm_q1 xs).snd.fst e)) ∧ Lp.ixJ (fun c => (↑(List.length c) : Int)) (fun c => c) rb_K (rb_f (eT.lst (rtm_q1 xs).snd.fst.length (eT.els (rtm_q1 xs).snd.fst), (0 : Int), (rtm_q1 xs).snd.snd.snd)))
theorem rtm_okS (pre : DA.T aL → List Prop) (h : ∀ g, DA.bd aL g → (∀ p ∈ pre g, p) → rtm_side g) : FnPure Try.prog 78 aL dI (fun g => rtm_F g) pre := pure_of_sideS (Γ := (PTab.gamz tabL [] [])) (Λ := lamA) (PTab.okz tabL [] []) lamA_ok 100 default (fun g => rtm_side g) (fun g => by kernel_rfl) (fun g => by kernel_rfl) h
noncomputable def tabX5 : PTab Try.prog := tabL
end Go.Proofs.Ytiipneclghnfhaa

/- Chapter 3: the first that is less. Printed by treegen.py. -/
namespace Go.Proofs.Ytiipneclghnfhaa
open Go.RowKit Go.Sx
set_option maxRecDepth 100000
set_option linter.unusedVariables false
noncomputable def ixb_q1 (xs : List T) (t : T) : Ex ×
  ib_G :=
  loopF (fun g => ib_R g.fst g.snd.fst g.snd.snd.fst g.snd.snd.snd.fst g.snd.snd.snd.snd) ib_M (eT.lst xs.length (eT.els xs), t, (↑xs.length : Int), (0 : Int), (0 : Int))
noncomputable def ixb_F (xs : List T) (t : T) : Dv.T dI :=
  bif exB Ex.ret (ixb_q1 xs t).fst then (ixb_q1 xs t).snd.snd.snd.snd.snd else (-1 : Int)
def ixb_side (xs : List T) (t : T) : Prop :=
  (∀ (e : Nat), e < xs.length → eT.Ok (eT.els xs e)) ∧ Lp.ixJ (fun c => c.snd.snd) (fun c => c.fst) ib_K (ib_f (eT.lst xs.length (eT.els xs), t, (↑xs.length : Int), (0 : Int), (0 : Int)))
theorem ixb_okS (pre : DA.T aFc → List Prop) (h : ∀ g, DA.bd aFc g → (∀ p ∈ pre g, p) → ixb_side g.1 g.2) : FnPure Try.prog 120 aFc dI (fun g => ixb_F g.1 g.2) pre := pure_of_sideS (Γ := (PTab.gamz tabL [] [])) (Λ := lamB) (PTab.okz tabL [] []) lamB_ok 100 default (fun g => ixb_side g.1 g.2) (fun g => by kernel_rfl) (fun g => by kernel_rfl) h
noncomputable def tabX6 : PTab Try.prog := tabL
end Go.Proofs.Ytiipneclghnfhaa

/- Loops that look for something: plain laws. -/
namespace Go.Lp
open Go.Sx
section
variable {α β : Type}
theorem search' {x : Nat} {st : β → Int → α → Ex × β} {p : α → Bool} {r : Int → α → β → β} (h : ∀ b i a, st b i a = bif p a then (.ret, r i a b) else (.normal, b)) : ∀ (l : List α) (i : Int) (b : β),
    (l.any p = true ∧ ∃ j, i ≤ j ∧ ∃ a, a ∈ l ∧ p a = true ∧ scan x st i l b = (.ret, j, r j a b)) ∨ (l.any p = false ∧ scan x st i l b = (.exit x, i + (l.length : Int), b))
  | [], i, b => .inr ⟨rfl, by simp [scan]⟩
  | a :: l, i, b => by
    simp only [scan, h]
    cases hp : p a with
    | true => exact .inl ⟨by simp [hp], i, Int.le_refl _, a, List.mem_cons_self .., hp, rfl⟩
    | false =>
      simp only [cond_false]
      rcases search' h l (i + 1) b with ⟨h1, j, hj, a', h2, h3, h4⟩ | ⟨h1, h2⟩
      · exact .inl ⟨by simp [h1], j, by omega, a', List.mem_cons_of_mem _ h2, h3, h4⟩
      · refine .inr ⟨by simp [hp, h1], ?_⟩
        rw [h2]
        simp; omega
/-- It stops at the first of which something holds. -/
theorem search {x : Nat} {st : β → Int → α → Ex × β} {p : α → Bool} {r : Int → α → β → β} (h : ∀ b i a, st b i a = bif p a then (.ret, r i a b) else (.normal, b)) (l : List α) (b : β) :
    (l.any p = true ∧ ∃ j, 0 ≤ j ∧ ∃ a, a ∈ l ∧ p a = true ∧ scan x st 0 l b = (.ret, j, r j a b)) ∨ (l.any p = false ∧ scan x st 0 l b = (.exit x, (l.length : Int), b)) := by
  have := search' (x := x) h l 0 b
  rwa [Int.zero_add] at this
theorem searchI' {x : Nat} {st : β → Int → α → Ex × β} {p : Int → α → Bool} {r : Int → α → β → β} (h : ∀ b i a, st b i a = bif p i a then (.ret, r i a b) else (.normal, b)) : ∀ (l : List α) (i : Int) (b : β),
    (∃ (n : Nat) (a : α), l[n]? = some a ∧ p (i + n) a = true ∧ scan x st i l b = (.ret, i + n, r (i + n) a b)) ∨ ((∀ (n : Nat) (a : α), l[n]? = some a → p (i + n) a = false) ∧ scan x st i l b = (.exit x, i + (l.length : Int), b))
  | [], i, b => .inr ⟨fun n a h => by simp at h, by simp [scan]⟩
  | a :: l, i, b => by
    simp only [scan, h]
    cases hp : p i a with
    | true => exact .inl ⟨0, a, rfl, by simpa using hp, by simp⟩
    | false =>
      simp only [cond_false]
      rcases searchI' h l (i + 1) b with ⟨n, a', h2, h3, h4⟩ | ⟨h1, h2⟩
      · exact .inl ⟨n + 1, a', h2, by rw [show i + ((n + 1 : Nat) : Int) = i + 1 + n by omega]; exact h3, by rw [show i + ((n + 1 : Nat) : Int) = i + 1 + n by omega]; exact h4⟩
      · refine .inr ⟨fun n a' hn => ?_, ?_⟩
        · cases n with
          | zero => injection hn with hn; subst hn; simpa using hp
          | succ n => rw [show i + ((n + 1 : Nat) : Int) = i + 1 + n by omega]; exact h1 n a' hn
        · rw [h2]
          simp; omega
/-- The same, where it hangs on the place. -/
theorem searchI {x : Nat} {st : β → Int → α → Ex × β} {p : Int → α → Bool} {r : Int → α → β → β} (h : ∀ b i a, st b i a = bif p i a then (.ret, r i a b) else (.normal, b)) (l : List α) (b : β) :
    (∃ (n : Nat) (a : α), l[n]? = some a ∧ p n a = true ∧ scan x st 0 l b = (.ret, (n : Int), r n a b)) ∨ ((∀ (n : Nat) (a : α), l[n]? = some a → p n a = false) ∧ scan x st 0 l b = (.exit x, (l.length : Int), b)) := by
  have := searchI' (x := x) h l 0 b
  simpa only [Int.zero_add] using this
theorem any_congr' {l : List α} {p q : α → Bool} (h : ∀ x ∈ l, p x = q x) : l.any p = l.any q := by
  rw [Bool.eq_iff_iff, List.any_eq_true, List.any_eq_true]
  constructor
  · rintro ⟨x, h1, h2⟩; exact ⟨x, h1, (h x h1) ▸ h2⟩
  · rintro ⟨x, h1, h2⟩; exact ⟨x, h1, (h x h1).symm ▸ h2⟩
theorem any_eq_mem {α : Type} [DecidableEq α] (l : List α) (t : α) : l.any (fun v => decide (v = t)) = decide (t ∈ l) := by
  rw [Bool.eq_iff_iff, List.any_eq_true]
  simp
theorem ne_len {α β : Type} {a : List α} {b : List β} (h : ((a.length : Int) != (b.length : Int)) = false) : a.length = b.length := by
  have : (a.length : Int) = (b.length : Int) := by simpa using h
  omega
end
end Go.Lp

/- A function with several contracts: by the closure that is handed in. -/
namespace Go.Sx
open Go.RowKit
def isFn (k : Nat) : List SV → Bool
  | [_, .fn f _] => Nat.beq f k
  | _ => false
def pconAlt (k : Nat) (c1 c2 : PCon) : PCon := ⟨fun args h => bif isFn k args then c1.g args h else c2.g args h, fun args h => by
  cases isFn k args with
  | true => exact c1.e args h
  | false => exact c2.e args h, fun args ha => indep_bif (c1.i args ha) (c2.i args ha)⟩
theorem alt_ok {P : Program} {f k : Nat} {c1 c2 : PCon} (h1 : FnOk P f c1.g) (h2 : FnOk P f c2.g) : FnOk P f (pconAlt k c1 c2).g := by
  intro M w0 w ρ h args vs K hK hm hf
  have hK : (bif isFn k args then c1.g args h else c2.g args h).Holds K := hK
  cases hc : isFn k args with
  | true => rw [hc] at hK; exact h1 M w0 w ρ h args vs K hK hm hf
  | false => rw [hc] at hK; exact h2 M w0 w ρ h args vs K hK hm hf
end Go.Sx

/- Chapter 3: functions over lists of times: their contracts. -/
namespace Go.Proofs.Ytiipneclghnfhaa
open Go.RowKit Go.Sx Go.Lp
theorem okT (xs : List T) : ∀ e : Nat, e < xs.length → eT.Ok (eT.els xs e) := fun e _ => eT.ok_els xs e
def difD (l : List T) (v : T) : Bool := v.d != (l.getD (0 : Nat) eT.dflt).d
theorem ixa_pos (xs l : List T) (h : xs.length ≤ maxLen) (hk : 0 < xs.length → 0 < l.length) : decide (ixa_F xs l ≥ 0) = xs.any (difD l) := by
  unfold ixa_F ixa_q1
  simp only [eT.lst_els]
  have h1 : loopF (fun g : ia_G => ia_R g.1 g.2.1 g.2.2.1 g.2.2.2.1 g.2.2.2.2) ia_M (xs, l, (xs.length : Int), 0, 0) = _ := ia_run (xs, l, (xs.length : Int)) (0 : Int) rfl h hk
  rw [h1]
  rcases search (x := 0) (st := ia_S (xs, l, (xs.length : Int))) (p := difD l) (r := fun i _ _ => i) (fun _ _ _ => rfl) xs 0 with ⟨ha, j, hj, a, _, _, h2⟩ | ⟨ha, h2⟩
  · have h2 : scan 0 (ia_S (xs, l, (xs.length : Int))) 0 xs 0 = _ := h2
    rw [h2, ha]
    show decide (j ≥ 0) = true
    exact decide_eq_true hj
  · have h2 : scan 0 (ia_S (xs, l, (xs.length : Int))) 0 xs 0 = _ := h2
    rw [h2, ha]
    rfl
theorem ixa_ok : FnPure Try.prog 120 aFt dI (fun g => ixa_F g.1 g.2) (fun g => [0 < g.1.length → 0 < g.2.length]) :=
  ixa_okS _ fun g hb hp => by
    obtain ⟨xs, l⟩ := g
    have hl : xs.length ≤ maxLen := hb.1.1
    have hk : 0 < xs.length → 0 < l.length := hp _ (List.mem_cons_self ..)
    show ixa_side xs l
    unfold ixa_side
    simp only [eT.lst_els]
    exact ⟨okT xs, okT l, ixJ0 rfl hl hk⟩
theorem ixb_pos (xs : List T) (t : T) (h : xs.length ≤ maxLen) : decide (ixb_F xs t ≥ 0) = xs.any (tleq_F · t) := by
  unfold ixb_F ixb_q1
  simp only [eT.lst_els]
  have h1 : loopF (fun g : ib_G => ib_R g.1 g.2.1 g.2.2.1 g.2.2.2.1 g.2.2.2.2) ib_M (xs, t, (xs.length : Int), 0, 0) = _ := ib_run (xs, t, (xs.length : Int)) (0 : Int) rfl h trivial
  rw [h1]
  rcases search (x := 0) (st := ib_S (xs, t, (xs.length : Int))) (p := (tleq_F · t)) (r := fun i _ _ => i) (fun _ _ _ => rfl) xs 0 with ⟨ha, j, hj, a, _, _, h2⟩ | ⟨ha, h2⟩
  · have h2 : scan 0 (ib_S (xs, t, (xs.length : Int))) 0 xs 0 = _ := h2
    rw [h2, ha]
    show decide (j ≥ 0) = true
    exact decide_eq_true hj
  · have h2 : scan 0 (ib_S (xs, t, (xs.length : Int))) 0 xs 0 = _ := h2
    rw [h2, ha]
    rfl
theorem ixb_ok : FnPure Try.prog 120 aFc dI (fun g => ixb_F g.1 g.2) (fun _ => []) :=
  ixb_okS _ fun g hb _ => by
    obtain ⟨xs, t⟩ := g
    have hl : xs.length ≤ maxLen := hb.1.1
    show ixb_side xs t
    unfold ixb_side
    simp only [eT.lst_els]
    exact ⟨okT xs, ixJ0 rfl hl trivial⟩
theorem ind_pos (xs : List T) (t : T) (h : xs.length ≤ maxLen) : decide (ind_F xs t ≥ 0) = decide (t ∈ xs) := by
  unfold ind_F ind_q1
  simp only [eT.lst_els]
  have h1 : loopF (fun g : ii_G => ii_R g.1 g.2.1 g.2.2.1 g.2.2.2.1 g.2.2.2.2.1 g.2.2.2.2.2) ii_M (xs, (), t, (xs.length : Int), 0, 0) = _ := ii_run (xs, t, (xs.length : Int)) ((), (0 : Int)) rfl h trivial
  rw [h1]
  have he : xs.any (eqT t) = decide (t ∈ xs) := by
    rw [← any_eq_mem]
    exact any_congr' fun x _ => by unfold eqT; rw [Bool.eq_iff_iff]; simp [eq_comm]
  rcases search (x := 0) (st := ii_S (xs, t, (xs.length : Int))) (p := eqT t) (r := fun i _ _ => ((), i)) (fun _ _ _ => rfl) xs ((), (0 : Int)) with ⟨ha, j, hj, a, _, _, h2⟩ | ⟨ha, h2⟩
  · have h2 : scan 0 (ii_S (xs, t, (xs.length : Int))) 0 xs ((), (0 : Int)) = _ := h2
    rw [h2, ← he, ha]
    show decide (j ≥ 0) = true
    exact decide_eq_true hj
  · have h2 : scan 0 (ii_S (xs, t, (xs.length : Int))) 0 xs ((), (0 : Int)) = _ := h2
    rw [h2, ← he, ha]
    rfl
theorem ind_ok : FnPure Try.prog 77 aLT dI (fun g => ind_F g.1 g.2) (fun _ => []) :=
  ind_okS _ fun g hb _ => by
    obtain ⟨xs, t⟩ := g
    have hl : xs.length ≤ maxLen := hb.1.1
    show ind_side xs t
    unfold ind_side
    simp only [eT.lst_els]
    exact ⟨okT xs, ixJ0 rfl hl trivial⟩
theorem hsf_eq (xs : List T) (t : T) (h : xs.length ≤ maxLen) : hsf_F xs t = decide (t ∈ xs) := by
  unfold hsf_F hsf_q1
  simp only [eT.lst_els]
  have h1 : loopF (fun g : hs_G => hs_R g.1 g.2.1 g.2.2.1 g.2.2.2.1 g.2.2.2.2) hs_M (xs, (), t, 0, false) = _ := hs_run (xs, t) ((), false) rfl h trivial
  rw [h1, ← any_eq_mem]
  rcases search (x := 0) (st := hs_S (xs, t)) (p := fun v => eqT v t) (r := fun _ _ _ => ((), true)) (fun _ _ _ => rfl) xs ((), false) with ⟨ha, j, hj, a, _, _, h2⟩ | ⟨ha, h2⟩
  · have h2 : scan 0 (hs_S (xs, t)) 0 xs ((), false) = _ := h2
    rw [h2]; exact ha.symm
  · have h2 : scan 0 (hs_S (xs, t)) 0 xs ((), false) = _ := h2
    rw [h2]; exact ha.symm
theorem hsf_ok : FnPure Try.prog 88 aLT dBool (fun g => decide (g.2 ∈ g.1)) (fun _ => []) := by
  refine pure_congr (hsf_okS (fun _ => []) fun g hb _ => ?_) fun g hb _ => hsf_eq g.1 g.2 hb.1.1
  obtain ⟨xs, t⟩ := g
  have hl : xs.length ≤ maxLen := hb.1.1
  show hsf_side xs t
  unfold hsf_side
  simp only [eT.lst_els]
  exact ⟨okT xs, ixJ0 rfl hl trivial⟩
theorem rcf_eq (xs : List T) (t : T) (h : xs.length ≤ maxLen) : rcf_F xs t = xs.any (tleq_F · t) := by
  unfold rcf_F rcf_q1
  simp only [eT.lst_els]
  have h1 : loopF (fun g : rc_G => rc_R g.1 g.2.1 g.2.2.1 g.2.2.2.1 g.2.2.2.2) rc_M (xs, (), t, 0, false) = _ := rc_run (xs, t) ((), false) rfl h trivial
  rw [h1]
  rcases search (x := 0) (st := rc_S (xs, t)) (p := fun v => tleq_F v t) (r := fun _ _ _ => ((), true)) (fun _ _ _ => rfl) xs ((), false) with ⟨ha, j, hj, a, _, _, h2⟩ | ⟨ha, h2⟩
  · have h2 : scan 0 (rc_S (xs, t)) 0 xs ((), false) = _ := h2
    rw [h2]; exact ha.symm
  · have h2 : scan 0 (rc_S (xs, t)) 0 xs ((), false) = _ := h2
    rw [h2]; exact ha.symm
theorem rcf_ok : FnPure Try.prog 54 aLT dBool (fun g => g.1.any (tleq_F · g.2)) (fun _ => []) := by
  refine pure_congr (rcf_okS (fun _ => []) fun g hb _ => ?_) fun g hb _ => rcf_eq g.1 g.2 hb.1.1
  obtain ⟨xs, t⟩ := g
  have hl : xs.length ≤ maxLen := hb.1.1
  show rcf_side xs t
  unfold rcf_side
  simp only [eT.lst_els]
  exact ⟨okT xs, ixJ0 rfl hl trivial⟩
theorem smf_ok : FnPure Try.prog 91 aLL dBool (fun g => decide (g.1 = g.2)) (fun _ => []) := by
  have h := smf_okS (fun _ => []) fun g hb _ => by
    obtain ⟨a, b⟩ := g
    have ha : a.length ≤ maxLen := hb.1.1
    show smf_side a b
    unfold smf_side
    simp only [eT.lst_els]
    exact fun hc => ⟨okT a, okT b, ixJ0 rfl ha (ne_len hc)⟩
  refine pure_congr h fun g hb _ => ?_
  obtain ⟨a, b⟩ := g
  have ha : a.length ≤ maxLen := hb.1.1
  show smf_F a b = decide (a = b)
  unfold smf_F smf_q1
  simp only [eT.lst_els]
  cases hc : ((a.length : Int) != (b.length : Int)) with
  | true =>
    have : a ≠ b := fun e => by subst e; simp at hc
    simp [this]
  | false =>
    have hl := ne_len hc
    have h1 : loopF (fun g : rs_G => rs_R g.1 g.2.1 g.2.2.1 g.2.2.2) rs_M (a, b, 0, false) = _ := rs_run (a, b) false rfl ha hl
    rw [h1]
    rcases scan_same (x := 0) b eT.dflt (st := rs_S (a, b)) (fun _ _ _ => rfl) a 0 false (by omega) with ⟨h2, h3⟩ | ⟨h2, h3, h4⟩
    · have h3 : scan 0 (rs_S (a, b)) 0 a false = _ := h3
      rw [h3]
      rw [List.drop_zero] at h2
      simp [h2, exB]
    · have h3 : (scan 0 (rs_S (a, b)) 0 a false).1 = _ := h3
      have h4 : (scan 0 (rs_S (a, b)) 0 a false).2.2 = _ := h4
      rw [List.drop_zero] at h2
      show (bif exB .ret (scan 0 (rs_S (a, b)) 0 a false).1 then (scan 0 (rs_S (a, b)) 0 a false).2.2 else true) = _
      rw [h3, h4]
      simp [h2, exB]
theorem eqf_ok : FnPure Try.prog 25 aLL dBool (fun g => decide (g.1 = g.2)) (fun _ => []) := by
  have h := eqf_okS (fun _ => []) fun g hb _ => by
    obtain ⟨a, b⟩ := g
    have ha : a.length ≤ maxLen := hb.1.1
    show eqf_side a b
    unfold eqf_side
    simp only [eT.lst_els]
    exact fun hc => ⟨okT a, okT b, ixJ0 rfl ha (ne_len hc)⟩
  refine pure_congr h fun g hb _ => ?_
  obtain ⟨a, b⟩ := g
  have ha : a.length ≤ maxLen := hb.1.1
  show eqf_F a b = decide (a = b)
  unfold eqf_F eqf_q1
  simp only [eT.lst_els]
  cases hc : ((a.length : Int) != (b.length : Int)) with
  | true =>
    have : a ≠ b := fun e => by subst e; simp at hc
    simp [this]
  | false =>
    have hl := ne_len hc
    have h1 : loopF (fun g : eq_G => eq_R g.1 g.2.1 g.2.2.1 g.2.2.2.1 g.2.2.2.2) eq_M (a, b, (a.length : Int), 0, false) = _ := eq_run (a, b, (a.length : Int)) false rfl ha hl
    rw [h1]
    rcases scan_same (x := 0) b eT.dflt (st := eq_S (a, b, (a.length : Int))) (fun _ _ _ => rfl) a 0 false (by omega) with ⟨h2, h3⟩ | ⟨h2, h3, h4⟩
    · have h3 : scan 0 (eq_S (a, b, (a.length : Int))) 0 a false = _ := h3
      rw [h3]
      rw [List.drop_zero] at h2
      simp [h2, exB]
    · have h3 : (scan 0 (eq_S (a, b, (a.length : Int))) 0 a false).1 = _ := h3
      have h4 : (scan 0 (eq_S (a, b, (a.length : Int))) 0 a false).2.2 = _ := h4
      rw [List.drop_zero] at h2
      show (bif exB .ret (scan 0 (eq_S (a, b, (a.length : Int))) 0 a false).1 then (scan 0 (eq_S (a, b, (a.length : Int))) 0 a false).2.2 else true) = _
      rw [h3, h4]
      simp [h2, exB]
/-- What is wrong with times of one depth. -/
noncomputable def badC (xs : List T) : Int := bif xs.any (fun v => tcheck_F v != 0) then 10 else bif xs.any (difD xs) then 11 else 0
theorem rtm_eq (xs : List T) (h : xs.length ≤ maxLen) : rtm_F xs = badC xs ∧ rtm_side xs := by
  unfold rtm_F rtm_side rtm_q2 rtm_q1 badC
  simp only [eT.lst_els]
  have h1 : loopF (fun g : ra_G => ra_R g.1 g.2.1 g.2.2) ra_M (xs, 0, 0) = _ := ra_run xs (0 : Int) rfl h trivial
  rw [h1]
  rcases search (x := 0) (st := ra_S xs) (p := fun v => rtcheck_F v != 0) (r := fun _ _ _ => (10 : Int)) (fun _ _ _ => rfl) xs 0 with ⟨ha, j, hj, a, _, _, h2⟩ | ⟨ha, h2⟩
  · have h2 : scan 0 (ra_S xs) 0 xs 0 = _ := h2
    rw [h2, show (xs.any fun v => tcheck_F v != 0) = true from ha]
    exact ⟨rfl, okT xs, ixJ0 rfl h trivial, fun hc => by cases hc⟩
  · have h2 : scan 0 (ra_S xs) 0 xs 0 = _ := h2
    rw [h2, show (xs.any fun v => tcheck_F v != 0) = false from ha]
    have h3 : loopF (fun g : rb_G => rb_R g.1 g.2.1 g.2.2) rb_M (xs, 0, 0) = _ := rb_run xs (0 : Int) rfl h trivial
    refine ⟨?_, okT xs, ixJ0 rfl h trivial, fun _ => ⟨okT xs, ixJ0 rfl h trivial⟩⟩
    simp only [ra_g, exB, Bool.cond_false]
    show (bif exB .ret (loopF (fun g : rb_G => rb_R g.1 g.2.1 g.2.2) rb_M (xs, 0, 0)).1 then (loopF (fun g : rb_G => rb_R g.1 g.2.1 g.2.2) rb_M (xs, 0, 0)).2.2.2 else (0 : Int)) = _
    rw [h3]
    rcases search (x := 2) (st := rb_S xs) (p := difD xs) (r := fun _ _ _ => (11 : Int)) (fun _ _ _ => rfl) xs 0 with ⟨hb, j, hj, a, _, _, h4⟩ | ⟨hb, h4⟩
    · have h4 : scan 2 (rb_S xs) 0 xs 0 = _ := h4
      rw [h4, hb]; rfl
    · have h4 : scan 2 (rb_S xs) 0 xs 0 = _ := h4
      rw [h4, hb]; rfl
theorem rtm_ok : FnPure Try.prog 78 aL dI badC (fun _ => []) :=
  pure_congr (rtm_okS (fun _ => []) fun g hb _ => (rtm_eq g hb.1).2) fun g hb _ => (rtm_eq g hb.1).1
noncomputable def tabM : PTab Try.prog := ((((((tabL.cons 120 (pconAlt 113 (pconP aFt dI (fun g => ixa_F g.1 g.2) (fun g => [0 < g.1.length → 0 < g.2.length])) (pconP aFc dI (fun g => ixb_F g.1 g.2) (fun _ => []))) (alt_ok (conP_ok ixa_ok puI) (conP_ok ixb_ok puI))).cons 77 (pconP aLT dI (fun g => ind_F g.1 g.2) (fun _ => [])) (conP_ok ind_ok puI)).cons 88 (pconP aLT dBool (fun g => decide (g.2 ∈ g.1)) (fun _ => [])) (conP_ok hsf_ok puB)).cons 91 (pconP aLL dBool (fun g => decide (g.1 = g.2)) (fun _ => [])) (conP_ok smf_ok puB)).cons 25 (pconP aLL dBool (fun g => decide (g.1 = g.2)) (fun _ => [])) (conP_ok eqf_ok puB)).cons 54 (pconP aLT dBool (fun g => g.1.any (tleq_F · g.2)) (fun _ => [])) (conP_ok rcf_ok puB)).cons 78 (pconP aL dI badC (fun _ => [])) (conP_ok rtm_ok puI)
end Go.Proofs.Ytiipneclghnfhaa

/- Chapter 3: lists of times as texts: the loop. Printed by treegen.py. -/
namespace Go.Proofs.Ytiipneclghnfhaa
open Go.RowKit Go.Sx
set_option maxRecDepth 100000
set_option linter.unusedVariables false
abbrev tl_G : Type := List T × Int × Int × ByteArray
noncomputable def tl_LP : LP 0 tl_G := .pair (.slot 0 6 dLT) (.pair (.slot 0 7 dI) (.pair (.slot 0 8 dI) (.slot 0 3 dStr)))
noncomputable def tl_R (xs : List T) (n : Int) (i : Int) (s : ByteArray) : Ex × tl_G :=
  bif decide (i < n) then (Ex.normal, eT.lst xs.length (eT.els xs), n, IntKind.i64.wrap (i + (1 : Int)), (bif decide (i > (0 : Int)) then s ++ ByteArray.mk #[(44 : UInt8)] else s) ++ ttx_F (xs.getD i.toNat eT.dflt))
  else (Ex.exit (0 : Nat), eT.lst xs.length (eT.els xs), n, i, s)
def tl_side (xs : List T) (n : Int) (i : Int) (s : ByteArray) : Prop :=
  (decide (i < n) = true → ((0 : Int) ≤ i ∧ i < (↑xs.length : Int)) ∧ (decide (i > (0 : Int)) = true → s.size + (1 : Nat) ≤ (9223372036854775807 : Nat)) ∧ (bif decide (i > (0 : Int)) then s ++ ByteArray.mk #[(44 : UInt8)] else s).size + ByteArray.size (ttx_F (xs.getD i.toNat eT.dflt)) ≤ (9223372036854775807 : Nat) ∧ ∀ (e : Nat), e < xs.length → eT.Ok (eT.els xs e)) ∧ (decide (i < n) = false → ∀ (e : Nat), e < xs.length → eT.Ok (eT.els xs e))
theorem tl_one : ((loopsOf Try.prog 57).filter fun c => Nat.beq (lkey c) 3).length = 1 := by kernel_rfl
abbrev tl_GC : Type := List T × Int
abbrev tl_GB : Type := ByteArray
def tl_f (g : tl_G) : Int × tl_GC × tl_GB := (g.2.2.1, (g.1, g.2.1), g.2.2.2)
def tl_g (d : Int × tl_GC × tl_GB) : tl_G := (d.2.1.1, d.2.1.2, d.1, d.2.2)
theorem tl_es (g : tl_G) : (tl_R g.1 g.2.1 g.2.2.1 g.2.2.2).1 = .normal ∨ (tl_R g.1 g.2.1 g.2.2.1 g.2.2.2).1 ∈ ([.exit 0] : List Ex) := by
  unfold tl_R
  repeat' (first | (left; rfl) | (right; simp only [cond_true, cond_false]; simp; done) | (rw [Bool.cond_eq_ite]; split))
noncomputable abbrev tl_C (Inv : tl_G → List Prop) (m : tl_G → Nat) : LCon := loopR [.exit 0] (loopBody Try.prog 57 3) tl_LP [] 24 Inv (fun g => tl_R g.1 g.2.1 g.2.2.1 g.2.2.2) m
theorem tl_loop (Inv : tl_G → List Prop) (m : tl_G → Nat) (hs : ∀ g, allP (Inv g) → tl_side g.1 g.2.1 g.2.2.1 g.2.2.2) (hg : Goes (fun g : tl_G => tl_R g.1 g.2.1 g.2.2.1 g.2.2.2) m fun g => allP (Inv g)) : ∀ b ∈ loopsOf Try.prog 57, lkey b = 3 → LoopOk Try.prog b (tl_C Inv m).g := loop_run (Γ := (PTab.gamz tabD5 [] [])) (Λ := noΛ) (PTab.okz tabD5 [] []) noΛ_ok 100 57 3 24 tl_LP [] Inv (fun g => tl_R g.1 g.2.1 g.2.2.1 g.2.2.2) (fun g => tl_side g.1 g.2.1 g.2.2.1 g.2.2.2) m default [.exit 0] tl_one (fun rd T B HL HB ds g => by kernel_rfl) (fun rd T B HL HB ds g => by kernel_rfl) hs hg tl_es
noncomputable def tabXD6 : PTab Try.prog := tabD5
end Go.Proofs.Ytiipneclghnfhaa

/- Chapter 3: does a list hold one. Printed by treegen.py. -/
namespace Go.Proofs.Ytiipneclghnfhaa
open Go.RowKit Go.Sx
set_option maxRecDepth 100000
set_option linter.unusedVariables false
noncomputable def cfa_F (xs : List T) (l : List T) : Dv.T dBool :=
  decide (ixa_F (eT.lst xs.length (eT.els xs)) (eT.lst l.length (eT.els l)) ≥ (0 : Int))
def cfa_side (xs : List T) (l : List T) : Prop :=
  (∀ (e : Nat), e < xs.length → eT.Ok (eT.els xs e)) ∧ (∀ (e : Nat), e < l.length → eT.Ok (eT.els l e)) ∧ ((0 : Nat) < (eT.lst xs.length (eT.els xs)).length → (0 : Nat) < (eT.lst l.length (eT.els l)).length)
theorem cfa_okS (pre : DA.T aFt → List Prop) (h : ∀ g, DA.bd aFt g → (∀ p ∈ pre g, p) → cfa_side g.1 g.2) : FnPure Try.prog 75 aFt dBool (fun g => cfa_F g.1 g.2) pre := pure_of_sideS (Γ := (PTab.gamz tabM [] [])) (Λ := noΛ) (PTab.okz tabM [] []) noΛ_ok 100 default (fun g => cfa_side g.1 g.2) (fun g => by kernel_rfl) (fun g => by kernel_rfl) h
noncomputable def cfb_F (xs : List T) (t : T) : Dv.T dBool :=
  decide (ixb_F (eT.lst xs.length (eT.els xs)) t ≥ (0 : Int))
def cfb_side (xs : List T) (t : T) : Prop :=
  ∀ (e : Nat), e < xs.length → eT.Ok (eT.els xs e)
theorem cfb_okS (pre : DA.T aFc → List Prop) (h : ∀ g, DA.bd aFc g → (∀ p ∈ pre g, p) → cfb_side g.1 g.2) : FnPure Try.prog 75 aFc dBool (fun g => cfb_F g.1 g.2) pre := pure_of_sideS (Γ := (PTab.gamz tabM [] [])) (Λ := noΛ) (PTab.okz tabM [] []) noΛ_ok 100 default (fun g => cfb_side g.1 g.2) (fun g => by kernel_rfl) (fun g => by kernel_rfl) h
noncomputable def con_F (xs : List T) (t : T) : Dv.T dBool :=
  decide (ind_F (eT.lst xs.length (eT.els xs)) t ≥ (0 : Int))
def con_side (xs : List T) (t : T) : Prop :=
  ∀ (e : Nat), e < xs.length → eT.Ok (eT.els xs e)
theorem con_okS (pre : DA.T aLT → List Prop) (h : ∀ g, DA.bd aLT g → (∀ p ∈ pre g, p) → con_side g.1 g.2) : FnPure Try.prog 20 aLT dBool (fun g => con_F g.1 g.2) pre := pure_of_sideS (Γ := (PTab.gamz tabM [] [])) (Λ := noΛ) (PTab.okz tabM [] []) noΛ_ok 100 default (fun g => con_side g.1 g.2) (fun g => by kernel_rfl) (fun g => by kernel_rfl) h
noncomputable def tabX8 : PTab Try.prog := tabM
end Go.Proofs.Ytiipneclghnfhaa

/- Chapter 3: does a list hold one: the contracts. -/
namespace Go.Proofs.Ytiipneclghnfhaa
open Go.RowKit Go.Sx Go.Lp
theorem cfa_ok : FnPure Try.prog 75 aFt dBool (fun g => g.1.any (difD g.2)) (fun g => [0 < g.1.length → 0 < g.2.length]) := by
  refine pure_congr (cfa_okS _ fun g hb hp => ?_) fun g hb hp => ?_
  · obtain ⟨xs, l⟩ := g
    have hk : 0 < xs.length → 0 < l.length := hp _ (List.mem_cons_self ..)
    show cfa_side xs l
    unfold cfa_side
    simp only [eT.lst_els]
    exact ⟨okT xs, okT l, hk⟩
  · show cfa_F g.1 g.2 = _
    unfold cfa_F
    simp only [eT.lst_els]
    exact ixa_pos g.1 g.2 hb.1.1 (hp _ (List.mem_cons_self ..))
theorem cfb_ok : FnPure Try.prog 75 aFc dBool (fun g => g.1.any (tleq_F · g.2)) (fun _ => []) := by
  refine pure_congr (cfb_okS _ fun g hb hp => okT g.1) fun g hb hp => ?_
  show cfb_F g.1 g.2 = _
  unfold cfb_F
  simp only [eT.lst_els]
  exact ixb_pos g.1 g.2 hb.1.1
theorem con_ok : FnPure Try.prog 20 aLT dBool (fun g => decide (g.2 ∈ g.1)) (fun _ => []) := by
  refine pure_congr (con_okS _ fun g hb hp => okT g.1) fun g hb hp => ?_
  show con_F g.1 g.2 = _
  unfold con_F
  simp only [eT.lst_els]
  exact ind_pos g.1 g.2 hb.1.1
noncomputable def tabN : PTab Try.prog := (tabM.cons 75 (pconAlt 113 (pconP aFt dBool (fun g => g.1.any (difD g.2)) (fun g => [0 < g.1.length → 0 < g.2.length])) (pconP aFc dBool (fun g => g.1.any (tleq_F · g.2)) (fun _ => []))) (alt_ok (conP_ok cfa_ok puB) (conP_ok cfb_ok puB))).cons 20 (pconP aLT dBool (fun g => decide (g.2 ∈ g.1)) (fun _ => [])) (conP_ok con_ok puB)
end Go.Proofs.Ytiipneclghnfhaa

/- Chapter 3: what is wrong with times. Printed by treegen.py. -/
namespace Go.Proofs.Ytiipneclghnfhaa
open Go.RowKit Go.Sx
set_option maxRecDepth 100000
set_option linter.unusedVariables false
noncomputable def tmf_q1 (xs : List T) : Ex ×
  tms_G :=
  loopF (fun g => tms_R g.fst g.snd.fst g.snd.snd.fst g.snd.snd.snd.fst g.snd.snd.snd.snd.fst g.snd.snd.snd.snd.snd) tms_M (eT.lst xs.length (eT.els xs), (↑xs.length : Int), (0 : Int), (0 : Int), (), eT.lst xs.length (eT.els xs))
noncomputable def tmf_F (xs : List T) : Dv.T dI :=
  bif exB Ex.ret (tmf_q1 xs).fst then (tmf_q1 xs).snd.snd.snd.snd.fst
  else bif (eT.lst (tmf_q1 xs).snd.snd.snd.snd.snd.snd.length (eT.els (tmf_q1 xs).snd.snd.snd.snd.snd.snd)).any (difD (eT.lst (tmf_q1 xs).snd.snd.snd.snd.snd.snd.length (eT.els (tmf_q1 xs).snd.snd.snd.snd.snd.snd))) then (11 : Int) else (0 : Int)
def tmf_side (xs : List T) : Prop :=
  (∀ (e : Nat), e < xs.length → eT.Ok (eT.els xs e)) ∧ (∀ (e : Nat), e < xs.length → eT.Ok (eT.els xs e)) ∧ Lp.ixJ (fun c => c.snd.fst) (fun c => c.fst) tms_K (tms_f (eT.lst xs.length (eT.els xs), (↑xs.length : Int), (0 : Int), (0 : Int), (), eT.lst xs.length (eT.els xs))) ∧ (exB Ex.ret (tmf_q1 xs).fst = false → (∀ (e : Nat), e < (tmf_q1 xs).snd.snd.snd.snd.snd.snd.length → eT.Ok (eT.els (tmf_q1 xs).snd.snd.snd.snd.snd.snd e)) ∧ (∀ (e : Nat), e < (tmf_q1 xs).snd.snd.snd.snd.snd.snd.length → eT.Ok (eT.els (tmf_q1 xs).snd.snd.snd.snd.snd.snd e)) ∧ ((0 : Nat) < (eT.lst (tmf_q1 xs).snd.snd.snd.snd.snd.snd.length (eT.els (tmf_q1 xs).snd.snd.snd.snd.snd.snd)).length → (0 : Nat) < (eT.lst (tmf_q1 xs).snd.snd.snd.snd.snd.snd.length (eT.els (tmf_q1 xs).snd.snd.snd.snd.snd.snd)).length))
theorem tmf_okS (pre : DA.T aL → List Prop) (h : ∀ g, DA.bd aL g → (∀ p ∈ pre g, p) → tmf_side g) : FnPure Try.prog 68 aL dI (fun g => tmf_F g) pre := pure_of_sideS (Γ := (PTab.gamz tabN [] [])) (Λ := lamA) (PTab.okz tabN [] []) lamA_ok 100 default (fun g => tmf_side g) (fun g => by kernel_rfl) (fun g => by kernel_rfl) h
noncomputable def cov_F (xs : List T) (t : T) : Dv.T dBool :=
  (eT.lst xs.length (eT.els xs)).any fun x => tleq_F x t
def cov_side (xs : List T) (t : T) : Prop :=
  ∀ (e : Nat), e < xs.length → eT.Ok (eT.els xs e)
theorem cov_okS (pre : DA.T aLT → List Prop) (h : ∀ g, DA.bd aLT g → (∀ p ∈ pre g, p) → cov_side g.1 g.2) : FnPure Try.prog 19 aLT dBool (fun g => cov_F g.1 g.2) pre := pure_of_sideS (Γ := (PTab.gamz tabN [] [])) (Λ := lamA) (PTab.okz tabN [] []) lamA_ok 100 default (fun g => cov_side g.1 g.2) (fun g => by kernel_rfl) (fun g => by kernel_rfl) h
noncomputable def tabX10 : PTab Try.prog := tabN
end Go.Proofs.Ytiipneclghnfhaa

/- Chapter 3: what is wrong with times: the contract. -/
namespace Go.Proofs.Ytiipneclghnfhaa
open Go.RowKit Go.Sx Go.Lp
theorem tmf_eq (xs : List T) (h : xs.length ≤ maxLen) : tmf_F xs = badC xs ∧ tmf_side xs := by
  unfold tmf_F tmf_side tmf_q1 badC
  simp only [eT.lst_els]
  have h1 : loopF (fun g : tms_G => tms_R g.1 g.2.1 g.2.2.1 g.2.2.2.1 g.2.2.2.2.1 g.2.2.2.2.2) tms_M (xs, (xs.length : Int), 0, 0, (), xs) = _ := tms_run (xs, (xs.length : Int), xs) ((0 : Int), ()) rfl h trivial
  rw [h1]
  rcases search (x := 0) (st := tms_S (xs, (xs.length : Int), xs)) (p := fun v => tcheck_F v != 0) (r := fun _ a _ => (tcheck_F a, ())) (fun _ _ _ => rfl) xs (0, ()) with ⟨ha, j, hj, a, _, h3, h2⟩ | ⟨ha, h2⟩
  · have h2 : scan 0 (tms_S (xs, (xs.length : Int), xs)) 0 xs (0, ()) = _ := h2
    rw [h2, ha]
    refine ⟨?_, okT xs, okT xs, ixJ0 rfl h trivial, fun hc => by cases hc⟩
    show tcheck_F a = 10
    rcases tcheck_or a with h4 | h4
    · rw [h4] at h3; cases h3
    · exact h4
  · have h2 : scan 0 (tms_S (xs, (xs.length : Int), xs)) 0 xs (0, ()) = _ := h2
    rw [h2, ha]
    exact ⟨rfl, okT xs, okT xs, ixJ0 rfl h trivial, fun _ => ⟨okT xs, okT xs, fun h => h⟩⟩
theorem tmf_ok : FnPure Try.prog 68 aL dI badC (fun _ => []) :=
  pure_congr (tmf_okS (fun _ => []) fun g hb _ => (tmf_eq g hb.1).2) fun g hb _ => (tmf_eq g hb.1).1
theorem cov_ok : FnPure Try.prog 19 aLT dBool (fun g => g.1.any (tleq_F · g.2)) (fun _ => []) :=
  pure_congr (cov_okS (fun _ => []) fun g hb _ => okT g.1) fun g hb _ => by
    show cov_F g.1 g.2 = _
    unfold cov_F
    simp only [eT.lst_els]
noncomputable def tabO : PTab Try.prog := (tabN.cons 68 (pconP aL dI badC (fun _ => [])) (conP_ok tmf_ok puI)).cons 19 (pconP aLT dBool (fun g => g.1.any (tleq_F · g.2)) (fun _ => [])) (conP_ok cov_ok puB)
end Go.Proofs.Ytiipneclghnfhaa

/- Chapter 3: is it an antichain: the inner loops. Printed by treegen.py. -/
namespace Go.Proofs.Ytiipneclghnfhaa
open Go.RowKit Go.Sx
set_option maxRecDepth 100000
set_option linter.unusedVariables false
abbrev ck2_G : Type := List T × List T × Int × Int × Unit × T × List T × Int × Int × Int
noncomputable def ck2_LP : LP 1 ck2_G := .pair (.slot 1 0 dLT) (.pair (.slot 1 16 dLT) (.pair (.slot 1 17 dI) (.pair (.slot 1 18 dI) (.pair (.fix 1 5 (.p 0 0)) (.pair (.obj 1 0 30 eT) (.pair (.slot 1 25 dLT) (.pair (.slot 1 26 dI) (.pair (.slot 1 27 dI) (.slot 1 2 dI)))))))))
noncomputable def ck2_R (l : List T) (xs : List T) (n : Int) (k : Int) (_u : Unit) (t : T) (ys : List T) (m : Int) (j : Int) (r : Int) : Ex × ck2_G :=
  bif decide (j < m) then bif decide (tcmp_F (ys.getD j.toNat eT.dflt) t ≥ (0 : Int)) || (tleq_F (ys.getD j.toNat eT.dflt) t || tleq_F t (ys.getD j.toNat eT.dflt)) then (Ex.ret, eT.lst l.length (eT.els l), eT.lst xs.length (eT.els xs), n, k, (), t, eT.lst ys.length (eT.els ys), m, j, (30 : Int)) else (Ex.normal, eT.lst l.length (eT.els l), eT.lst xs.length (eT.els xs), n, k, (), t, eT.lst ys.length (eT.els ys), m, IntKind.i64.wrap (j + (1 : Int)), r)
  else (Ex.exit (2 : Nat), eT.lst l.length (eT.els l), eT.lst xs.length (eT.els xs), n, k, (), t, eT.lst ys.length (eT.els ys), m, j, r)
def ck2_side (l : List T) (xs : List T) (n : Int) (k : Int) (_u : Unit) (t : T) (ys : List T) (m : Int) (j : Int) (r : Int) : Prop :=
  (decide (j < m) = true → ((0 : Int) ≤ j ∧ j < (↑ys.length : Int)) ∧ ((decide (tcmp_F (ys.getD j.toNat eT.dflt) t ≥ (0 : Int)) || (tleq_F (ys.getD j.toNat eT.dflt) t || tleq_F t (ys.getD j.toNat eT.dflt))) = true → (∀ (e : Nat), e < l.length → eT.Ok (eT.els l e)) ∧ (∀ (e : Nat), e < xs.length → eT.Ok (eT.els xs e)) ∧ ∀ (e : Nat), e < ys.length → eT.Ok (eT.els ys e)) ∧ ((decide (tcmp_F (ys.getD j.toNat eT.dflt) t ≥ (0 : Int)) || (tleq_F (ys.getD j.toNat eT.dflt) t || tleq_F t (ys.getD j.toNat eT.dflt))) = false → (∀ (e : Nat), e < l.length → eT.Ok (eT.els l e)) ∧ (∀ (e : Nat), e < xs.length → eT.Ok (eT.els xs e)) ∧ ∀ (e : Nat), e < ys.length → eT.Ok (eT.els ys e))) ∧ (decide (j < m) = false → (∀ (e : Nat), e < l.length → eT.Ok (eT.els l e)) ∧ (∀ (e : Nat), e < xs.length → eT.Ok (eT.els xs e)) ∧ ∀ (e : Nat), e < ys.length → eT.Ok (eT.els ys e))
theorem ck2_one : ((loopsOf Try.prog 21).filter fun c => Nat.beq (lkey c) 10).length = 1 := by kernel_rfl
abbrev ck2_GC : Type := List T × List T × Int × Int × T × List T × Int
abbrev ck2_GB : Type := Unit × Int
def ck2_f (g : ck2_G) : Int × ck2_GC × ck2_GB := (g.2.2.2.2.2.2.2.2.1, (g.1, g.2.1, g.2.2.1, g.2.2.2.1, g.2.2.2.2.2.1, g.2.2.2.2.2.2.1, g.2.2.2.2.2.2.2.1), (g.2.2.2.2.1, g.2.2.2.2.2.2.2.2.2))
def ck2_g (d : Int × ck2_GC × ck2_GB) : ck2_G := (d.2.1.1, d.2.1.2.1, d.2.1.2.2.1, d.2.1.2.2.2.1, d.2.2.1, d.2.1.2.2.2.2.1, d.2.1.2.2.2.2.2.1, d.2.1.2.2.2.2.2.2, d.1, d.2.2.2)
theorem ck2_es (g : ck2_G) : (ck2_R g.1 g.2.1 g.2.2.1 g.2.2.2.1 g.2.2.2.2.1 g.2.2.2.2.2.1 g.2.2.2.2.2.2.1 g.2.2.2.2.2.2.2.1 g.2.2.2.2.2.2.2.2.1 g.2.2.2.2.2.2.2.2.2).1 = .normal ∨ (ck2_R g.1 g.2.1 g.2.2.1 g.2.2.2.1 g.2.2.2.2.1 g.2.2.2.2.2.1 g.2.2.2.2.2.2.1 g.2.2.2.2.2.2.2.1 g.2.2.2.2.2.2.2.2.1 g.2.2.2.2.2.2.2.2.2).1 ∈ ([.ret, .exit 2] : List Ex) := by
  unfold ck2_R
  repeat' (first | (left; rfl) | (right; simp only [cond_true, cond_false]; simp; done) | (rw [Bool.cond_eq_ite]; split))
noncomputable abbrev ck2_C (Inv : ck2_G → List Prop) (m : ck2_G → Nat) : LCon := loopR [.ret, .exit 2] (loopBody Try.prog 21 10) ck2_LP [] 47 Inv (fun g => ck2_R g.1 g.2.1 g.2.2.1 g.2.2.2.1 g.2.2.2.2.1 g.2.2.2.2.2.1 g.2.2.2.2.2.2.1 g.2.2.2.2.2.2.2.1 g.2.2.2.2.2.2.2.2.1 g.2.2.2.2.2.2.2.2.2) m
theorem ck2_loop (Inv : ck2_G → List Prop) (m : ck2_G → Nat) (hs : ∀ g, allP (Inv g) → ck2_side g.1 g.2.1 g.2.2.1 g.2.2.2.1 g.2.2.2.2.1 g.2.2.2.2.2.1 g.2.2.2.2.2.2.1 g.2.2.2.2.2.2.2.1 g.2.2.2.2.2.2.2.2.1 g.2.2.2.2.2.2.2.2.2) (hg : Goes (fun g : ck2_G => ck2_R g.1 g.2.1 g.2.2.1 g.2.2.2.1 g.2.2.2.2.1 g.2.2.2.2.2.1 g.2.2.2.2.2.2.1 g.2.2.2.2.2.2.2.1 g.2.2.2.2.2.2.2.2.1 g.2.2.2.2.2.2.2.2.2) m fun g => allP (Inv g)) : ∀ b ∈ loopsOf Try.prog 21, lkey b = 10 → LoopOk Try.prog b (ck2_C Inv m).g := loop_run (Γ := (PTab.gamz tabO [] [])) (Λ := noΛ) (PTab.okz tabO [] []) noΛ_ok 100 21 10 47 ck2_LP [] Inv (fun g => ck2_R g.1 g.2.1 g.2.2.1 g.2.2.2.1 g.2.2.2.2.1 g.2.2.2.2.2.1 g.2.2.2.2.2.2.1 g.2.2.2.2.2.2.2.1 g.2.2.2.2.2.2.2.2.1 g.2.2.2.2.2.2.2.2.2) (fun g => ck2_side g.1 g.2.1 g.2.2.1 g.2.2.2.1 g.2.2.2.2.1 g.2.2.2.2.2.1 g.2.2.2.2.2.2.1 g.2.2.2.2.2.2.2.1 g.2.2.2.2.2.2.2.2.1 g.2.2.2.2.2.2.2.2.2) m default [.ret, .exit 2] ck2_one (fun rd T B HL HB ds g => by kernel_rfl) (fun rd T B HL HB ds g => by kernel_rfl) hs hg ck2_es
abbrev rk2_G : Type := List T × Int × Int × Int
noncomputable def rk2_LP : LP 0 rk2_G := .pair (.slot 0 0 dLT) (.pair (.slot 0 4 dI) (.pair (.slot 0 5 dI) (.slot 0 2 dI)))
noncomputable def rk2_R (xs : List T) (k : Int) (j : Int) (r : Int) : Ex × rk2_G :=
  bif decide (j < (↑xs.length : Int)) then bif j != k && rtleq_F (xs.getD j.toNat eT.dflt) (xs.getD k.toNat eT.dflt) then (Ex.ret, eT.lst xs.length (eT.els xs), k, j, (30 : Int)) else (Ex.normal, eT.lst xs.length (eT.els xs), k, IntKind.i64.wrap (j + (1 : Int)), r)
  else (Ex.exit (2 : Nat), eT.lst xs.length (eT.els xs), k, j, r)
def rk2_side (xs : List T) (k : Int) (j : Int) (r : Int) : Prop :=
  (decide (j < (↑xs.length : Int)) = true → ((j != k) = true → (0 : Int) ≤ j ∧ j < (↑xs.length : Int)) ∧ ((j != k) = true → (0 : Int) ≤ k ∧ k < (↑xs.length : Int)) ∧ ((j != k && rtleq_F (xs.getD j.toNat eT.dflt) (xs.getD k.toNat eT.dflt)) = true → ∀ (e : Nat), e < xs.length → eT.Ok (eT.els xs e)) ∧ ((j != k && rtleq_F (xs.getD j.toNat eT.dflt) (xs.getD k.toNat eT.dflt)) = false → ∀ (e : Nat), e < xs.length → eT.Ok (eT.els xs e))) ∧ (decide (j < (↑xs.length : Int)) = false → ∀ (e : Nat), e < xs.length → eT.Ok (eT.els xs e))
theorem rk2_one : ((loopsOf Try.prog 22).filter fun c => Nat.beq (lkey c) 12).length = 1 := by kernel_rfl
abbrev rk2_GC : Type := List T × Int
abbrev rk2_GB : Type := Int
def rk2_f (g : rk2_G) : Int × rk2_GC × rk2_GB := (g.2.2.1, (g.1, g.2.1), g.2.2.2)
def rk2_g (d : Int × rk2_GC × rk2_GB) : rk2_G := (d.2.1.1, d.2.1.2, d.1, d.2.2)
theorem rk2_es (g : rk2_G) : (rk2_R g.1 g.2.1 g.2.2.1 g.2.2.2).1 = .normal ∨ (rk2_R g.1 g.2.1 g.2.2.1 g.2.2.2).1 ∈ ([.ret, .exit 2] : List Ex) := by
  unfold rk2_R
  repeat' (first | (left; rfl) | (right; simp only [cond_true, cond_false]; simp; done) | (rw [Bool.cond_eq_ite]; split))
noncomputable abbrev rk2_C (Inv : rk2_G → List Prop) (m : rk2_G → Nat) : LCon := loopR [.ret, .exit 2] (loopBody Try.prog 22 12) rk2_LP [] 55 Inv (fun g => rk2_R g.1 g.2.1 g.2.2.1 g.2.2.2) m
theorem rk2_loop (Inv : rk2_G → List Prop) (m : rk2_G → Nat) (hs : ∀ g, allP (Inv g) → rk2_side g.1 g.2.1 g.2.2.1 g.2.2.2) (hg : Goes (fun g : rk2_G => rk2_R g.1 g.2.1 g.2.2.1 g.2.2.2) m fun g => allP (Inv g)) : ∀ b ∈ loopsOf Try.prog 22, lkey b = 12 → LoopOk Try.prog b (rk2_C Inv m).g := loop_run (Γ := (PTab.gamz tabO [] [])) (Λ := noΛ) (PTab.okz tabO [] []) noΛ_ok 100 22 12 55 rk2_LP [] Inv (fun g => rk2_R g.1 g.2.1 g.2.2.1 g.2.2.2) (fun g => rk2_side g.1 g.2.1 g.2.2.1 g.2.2.2) m default [.ret, .exit 2] rk2_one (fun rd T B HL HB ds g => by kernel_rfl) (fun rd T B HL HB ds g => by kernel_rfl) hs hg rk2_es
abbrev ro2_G : Type := List T × Int × Bool × Int × List T
noncomputable def ro2_LP : LP 0 ro2_G := .pair (.slot 0 0 dLT) (.pair (.slot 0 6 dI) (.pair (.slot 0 7 dBool) (.pair (.slot 0 8 dI) (.slot 0 5 dLT))))
noncomputable def ro2_R (xs : List T) (k : Int) (z : Bool) (j : Int) (out : List T) : Ex × ro2_G :=
  bif decide (j < (↑xs.length : Int)) then (Ex.normal, eT.lst xs.length (eT.els xs), k, !(!conj ([(xs.getD j.toNat eT.dflt).e == (xs.getD k.toNat eT.dflt).e] ++ ([(xs.getD j.toNat eT.dflt).d == (xs.getD k.toNat eT.dflt).d] ++ ([(xs.getD j.toNat eT.dflt).l0 == (xs.getD k.toNat eT.dflt).l0] ++ ([(xs.getD j.toNat eT.dflt).l1 == (xs.getD k.toNat eT.dflt).l1] ++ ([(xs.getD j.toNat eT.dflt).l2 == (xs.getD k.toNat eT.dflt).l2] ++ ([(xs.getD j.toNat eT.dflt).l3 == (xs.getD k.toNat eT.dflt).l3] ++ []))) ++ []))) && rtleq_F (xs.getD j.toNat eT.dflt) (xs.getD k.toNat eT.dflt)) && z, IntKind.i64.wrap (j + (1 : Int)), eT.lst out.length (eT.els out))
  else (Ex.exit (2 : Nat), eT.lst xs.length (eT.els xs), k, z, j, eT.lst out.length (eT.els out))
def ro2_side (xs : List T) (k : Int) (z : Bool) (j : Int) (out : List T) : Prop :=
  (decide (j < (↑xs.length : Int)) = true → ((0 : Int) ≤ j ∧ j < (↑xs.length : Int)) ∧ ((0 : Int) ≤ k ∧ k < (↑xs.length : Int)) ∧ ((!conj ([(xs.getD j.toNat eT.dflt).e == (xs.getD k.toNat eT.dflt).e] ++ ([(xs.getD j.toNat eT.dflt).d == (xs.getD k.toNat eT.dflt).d] ++ ([(xs.getD j.toNat eT.dflt).l0 == (xs.getD k.toNat eT.dflt).l0] ++ ([(xs.getD j.toNat eT.dflt).l1 == (xs.getD k.toNat eT.dflt).l1] ++ ([(xs.getD j.toNat eT.dflt).l2 == (xs.getD k.toNat eT.dflt).l2] ++ ([(xs.getD j.toNat eT.dflt).l3 == (xs.getD k.toNat eT.dflt).l3] ++ []))) ++ [])))) = true → (0 : Int) ≤ j ∧ j < (↑xs.length : Int)) ∧ ((!conj ([(xs.getD j.toNat eT.dflt).e == (xs.getD k.toNat eT.dflt).e] ++ ([(xs.getD j.toNat eT.dflt).d == (xs.getD k.toNat eT.dflt).d] ++ ([(xs.getD j.toNat eT.dflt).l0 == (xs.getD k.toNat eT.dflt).l0] ++ ([(xs.getD j.toNat eT.dflt).l1 == (xs.getD k.toNat eT.dflt).l1] ++ ([(xs.getD j.toNat eT.dflt).l2 == (xs.getD k.toNat eT.dflt).l2] ++ ([(xs.getD j.toNat eT.dflt).l3 == (xs.getD k.toNat eT.dflt).l3] ++ []))) ++ [])))) = true → (0 : Int) ≤ k ∧ k < (↑xs.length : Int)) ∧ (∀ (e : Nat), e < xs.length → eT.Ok (eT.els xs e)) ∧ ∀ (e : Nat), e < out.length → eT.Ok (eT.els out e)) ∧ (decide (j < (↑xs.length : Int)) = false → (∀ (e : Nat), e < xs.length → eT.Ok (eT.els xs e)) ∧ ∀ (e : Nat), e < out.length → eT.Ok (eT.els out e))
theorem ro2_one : ((loopsOf Try.prog 31).filter fun c => Nat.beq (lkey c) 10).length = 1 := by kernel_rfl
abbrev ro2_GC : Type := List T × Int × List T
abbrev ro2_GB : Type := Bool
def ro2_f (g : ro2_G) : Int × ro2_GC × ro2_GB := (g.2.2.2.1, (g.1, g.2.1, g.2.2.2.2), g.2.2.1)
def ro2_g (d : Int × ro2_GC × ro2_GB) : ro2_G := (d.2.1.1, d.2.1.2.1, d.2.2, d.1, d.2.1.2.2)
theorem ro2_es (g : ro2_G) : (ro2_R g.1 g.2.1 g.2.2.1 g.2.2.2.1 g.2.2.2.2).1 = .normal ∨ (ro2_R g.1 g.2.1 g.2.2.1 g.2.2.2.1 g.2.2.2.2).1 ∈ ([.exit 2] : List Ex) := by
  unfold ro2_R
  repeat' (first | (left; rfl) | (right; simp only [cond_true, cond_false]; simp; done) | (rw [Bool.cond_eq_ite]; split))
noncomputable abbrev ro2_C (Inv : ro2_G → List Prop) (m : ro2_G → Nat) : LCon := loopR [.exit 2] (loopBody Try.prog 31 10) ro2_LP [] 64 Inv (fun g => ro2_R g.1 g.2.1 g.2.2.1 g.2.2.2.1 g.2.2.2.2) m
theorem ro2_loop (Inv : ro2_G → List Prop) (m : ro2_G → Nat) (hs : ∀ g, allP (Inv g) → ro2_side g.1 g.2.1 g.2.2.1 g.2.2.2.1 g.2.2.2.2) (hg : Goes (fun g : ro2_G => ro2_R g.1 g.2.1 g.2.2.1 g.2.2.2.1 g.2.2.2.2) m fun g => allP (Inv g)) : ∀ b ∈ loopsOf Try.prog 31, lkey b = 10 → LoopOk Try.prog b (ro2_C Inv m).g := loop_run (Γ := (PTab.gamz tabO [] [])) (Λ := noΛ) (PTab.okz tabO [] []) noΛ_ok 100 31 10 64 ro2_LP [] Inv (fun g => ro2_R g.1 g.2.1 g.2.2.1 g.2.2.2.1 g.2.2.2.2) (fun g => ro2_side g.1 g.2.1 g.2.2.1 g.2.2.2.1 g.2.2.2.2) m default [.exit 2] ro2_one (fun rd T B HL HB ds g => by kernel_rfl) (fun rd T B HL HB ds g => by kernel_rfl) hs hg ro2_es
abbrev rl_G : Type := List T × List T × Int × Bool
noncomputable def rl_LP : LP 0 rl_G := .pair (.slot 0 0 dLT) (.pair (.slot 0 1 dLT) (.pair (.slot 0 5 dI) (.slot 0 4 dBool)))
noncomputable def rl_R (ys : List T) (xs : List T) (i : Int) (r : Bool) : Ex × rl_G :=
  bif decide (i < (↑xs.length : Int)) then bif !(eT.lst ys.length (eT.els ys)).any fun x => tleq_F x (xs.getD i.toNat eT.dflt) then (Ex.ret, eT.lst ys.length (eT.els ys), eT.lst xs.length (eT.els xs), i, false) else (Ex.normal, eT.lst ys.length (eT.els ys), eT.lst xs.length (eT.els xs), IntKind.i64.wrap (i + (1 : Int)), r)
  else (Ex.exit (0 : Nat), eT.lst ys.length (eT.els ys), eT.lst xs.length (eT.els xs), i, r)
def rl_side (ys : List T) (xs : List T) (i : Int) (r : Bool) : Prop :=
  (decide (i < (↑xs.length : Int)) = true → ((0 : Int) ≤ i ∧ i < (↑xs.length : Int)) ∧ (∀ (e : Nat), e < ys.length → eT.Ok (eT.els ys e)) ∧ ((!(eT.lst ys.length (eT.els ys)).any fun x => tleq_F x (xs.getD i.toNat eT.dflt)) = true → (∀ (e : Nat), e < ys.length → eT.Ok (eT.els ys e)) ∧ ∀ (e : Nat), e < xs.length → eT.Ok (eT.els xs e)) ∧ ((!(eT.lst ys.length (eT.els ys)).any fun x => tleq_F x (xs.getD i.toNat eT.dflt)) = false → (∀ (e : Nat), e < ys.length → eT.Ok (eT.els ys e)) ∧ ∀ (e : Nat), e < xs.length → eT.Ok (eT.els xs e))) ∧ (decide (i < (↑xs.length : Int)) = false → (∀ (e : Nat), e < ys.length → eT.Ok (eT.els ys e)) ∧ ∀ (e : Nat), e < xs.length → eT.Ok (eT.els xs e))
theorem rl_one : ((loopsOf Try.prog 56).filter fun c => Nat.beq (lkey c) 2).length = 1 := by kernel_rfl
abbrev rl_GC : Type := List T × List T
abbrev rl_GB : Type := Bool
def rl_f (g : rl_G) : Int × rl_GC × rl_GB := (g.2.2.1, (g.1, g.2.1), g.2.2.2)
def rl_g (d : Int × rl_GC × rl_GB) : rl_G := (d.2.1.1, d.2.1.2, d.1, d.2.2)
theorem rl_es (g : rl_G) : (rl_R g.1 g.2.1 g.2.2.1 g.2.2.2).1 = .normal ∨ (rl_R g.1 g.2.1 g.2.2.1 g.2.2.2).1 ∈ ([.ret, .exit 0] : List Ex) := by
  unfold rl_R
  repeat' (first | (left; rfl) | (right; simp only [cond_true, cond_false]; simp; done) | (rw [Bool.cond_eq_ite]; split))
noncomputable abbrev rl_C (Inv : rl_G → List Prop) (m : rl_G → Nat) : LCon := loopR [.ret, .exit 0] (loopBody Try.prog 56 2) rl_LP [] 19 Inv (fun g => rl_R g.1 g.2.1 g.2.2.1 g.2.2.2) m
theorem rl_loop (Inv : rl_G → List Prop) (m : rl_G → Nat) (hs : ∀ g, allP (Inv g) → rl_side g.1 g.2.1 g.2.2.1 g.2.2.2) (hg : Goes (fun g : rl_G => rl_R g.1 g.2.1 g.2.2.1 g.2.2.2) m fun g => allP (Inv g)) : ∀ b ∈ loopsOf Try.prog 56, lkey b = 2 → LoopOk Try.prog b (rl_C Inv m).g := loop_run (Γ := (PTab.gamz tabO [] [])) (Λ := noΛ) (PTab.okz tabO [] []) noΛ_ok 100 56 2 19 rl_LP [] Inv (fun g => rl_R g.1 g.2.1 g.2.2.1 g.2.2.2) (fun g => rl_side g.1 g.2.1 g.2.2.1 g.2.2.2) m default [.ret, .exit 0] rl_one (fun rd T B HL HB ds g => by kernel_rfl) (fun rd T B HL HB ds g => by kernel_rfl) hs hg rl_es
noncomputable def tabX12 : PTab Try.prog := tabO
end Go.Proofs.Ytiipneclghnfhaa

/- Chapter 3: is it an antichain: the inner loops' contracts. Printed by ixgen.py. -/
namespace Go.Proofs.Ytiipneclghnfhaa
open Go.RowKit Go.Sx Go.Lp
set_option maxRecDepth 100000
noncomputable def clash (u t : T) : Bool := decide (tcmp_F u t ≥ (0 : Int)) || (tleq_F u t || tleq_F t u)
noncomputable def ck2_S (c : ck2_GC) (b : ck2_GB) (i : Int) (v : T) : Ex × ck2_GB := bif decide (tcmp_F v c.2.2.2.2.1 ≥ (0 : Int)) || (tleq_F v c.2.2.2.2.1 || tleq_F c.2.2.2.2.1 v) then (.ret, (), (30 : Int)) else (.normal, b.1, b.2)
def ck2_K (c : ck2_GC) (b : ck2_GB) (i : Int) : Prop := True
abbrev ck2_I (g : ck2_G) : List Prop := ixI (fun c : ck2_GC => c.2.2.2.2.2.2) (fun c : ck2_GC => c.2.2.2.2.2.1) ck2_K (ck2_f g)
abbrev ck2_M (g : ck2_G) : Nat := ixM (fun c : ck2_GC => c.2.2.2.2.2.2) (ck2_f g)
theorem ck2_P : ixP ck2_S (fun c : ck2_GC => c.2.2.2.2.2.1) ck2_K := fun _ _ _ _ h _ _ => h
noncomputable abbrev ck2_RR (g : ck2_G) : Ex × ck2_G := ck2_R g.1 g.2.1 g.2.2.1 g.2.2.2.1 g.2.2.2.2.1 g.2.2.2.2.2.1 g.2.2.2.2.2.2.1 g.2.2.2.2.2.2.2.1 g.2.2.2.2.2.2.2.2.1 g.2.2.2.2.2.2.2.2.2
theorem ck2_RF (d : Int × ck2_GC × ck2_GB) (_ : allP (ixI (fun c : ck2_GC => c.2.2.2.2.2.2) (fun c : ck2_GC => c.2.2.2.2.2.1) ck2_K d)) : ck2_RR (ck2_g d) = ((ixF 2 (fun c : ck2_GC => c.2.2.2.2.2.2) (fun c : ck2_GC => c.2.2.2.2.2.1) eT.dflt ck2_S d).1, ck2_g (ixF 2 (fun c : ck2_GC => c.2.2.2.2.2.2) (fun c : ck2_GC => c.2.2.2.2.2.1) eT.dflt ck2_S d).2) := by
  obtain ⟨j, ⟨l, xs, n, k, t, ys, m⟩, ⟨⟨⟩, r⟩⟩ := d
  show ck2_R l xs n k () t ys m j r = _
  unfold ck2_R ixF ck2_S
  simp only [eT.lst_els]
  cases decide (j < m) with
  | false => rfl
  | true =>
    simp only [cond_true]
    generalize (decide (tcmp_F (ys.getD j.toNat eT.dflt) t ≥ (0 : Int)) || (tleq_F (ys.getD j.toNat eT.dflt) t || tleq_F t (ys.getD j.toNat eT.dflt))) = z
    cases z <;> rfl
theorem ck2_ok : ∀ b ∈ loopsOf Try.prog 21, lkey b = 10 → LoopOk Try.prog b (ck2_C ck2_I ck2_M).g := by
  refine ck2_loop ck2_I ck2_M (fun g hi => ?_) (ix_conj_goes (fun _ => rfl) (fun _ => rfl) ck2_RF ck2_P)
  obtain ⟨l, xs, n, k, ⟨⟩, t, ys, m, j, r⟩ := g
  obtain ⟨h1, h2, h3, h4, h5⟩ := hi _ (List.mem_cons_self ..)
  have h1 : m = (ys.length : Int) := h1
  have h3 : 0 ≤ j := h3
  have h5 : True := h5
  show ck2_side l xs n k () t ys m j r
  unfold ck2_side
  simp only [decide_eq_true_eq, decide_eq_false_iff_not]
  have k0 : ∀ e : Nat, e < l.length → eT.Ok (eT.els l e) := fun e _ => eT.ok_els l e
  have k1 : ∀ e : Nat, e < xs.length → eT.Ok (eT.els xs e) := fun e _ => eT.ok_els xs e
  have k2 : ∀ e : Nat, e < ys.length → eT.Ok (eT.els ys e) := fun e _ => eT.ok_els ys e
  clear hi
  repeat' (first | exact k0 | exact k1 | exact k2 | apply And.intro | intro _)
  all_goals omega
theorem ck2_run (c : ck2_GC) (b : ck2_GB) (k1 : c.2.2.2.2.2.2 = ((c.2.2.2.2.2.1).length : Int)) (k2 : (c.2.2.2.2.2.1).length ≤ maxLen) (k3 : ck2_K c b 0) : loopF ck2_RR ck2_M (ck2_g (0, c, b)) = ((scan 2 (ck2_S c) 0 (c.2.2.2.2.2.1) b).1, ck2_g ((scan 2 (ck2_S c) 0 (c.2.2.2.2.2.1) b).2.1, c, (scan 2 (ck2_S c) 0 (c.2.2.2.2.2.1) b).2.2)) := ix_conj_run (φ := ck2_f) (ψ := ck2_g) (fun _ => rfl) (fun _ => rfl) ck2_RF ck2_P c b k1 k2 k3
noncomputable def rk2_S (c : rk2_GC) (b : rk2_GB) (i : Int) (v : T) : Ex × rk2_GB := bif i != c.2 && rtleq_F v (c.1.getD c.2.toNat eT.dflt) then (.ret, (30 : Int)) else (.normal, b)
def rk2_K (c : rk2_GC) (b : rk2_GB) (i : Int) : Prop := 0 ≤ c.2 ∧ c.2 < (c.1.length : Int)
abbrev rk2_I (g : rk2_G) : List Prop := ixI (fun c : rk2_GC => (c.1.length : Int)) (fun c : rk2_GC => c.1) rk2_K (rk2_f g)
abbrev rk2_M (g : rk2_G) : Nat := ixM (fun c : rk2_GC => (c.1.length : Int)) (rk2_f g)
theorem rk2_P : ixP rk2_S (fun c : rk2_GC => c.1) rk2_K := fun _ _ _ _ h _ _ => h
noncomputable abbrev rk2_RR (g : rk2_G) : Ex × rk2_G := rk2_R g.1 g.2.1 g.2.2.1 g.2.2.2
theorem rk2_RF (d : Int × rk2_GC × rk2_GB) (_ : allP (ixI (fun c : rk2_GC => (c.1.length : Int)) (fun c : rk2_GC => c.1) rk2_K d)) : rk2_RR (rk2_g d) = ((ixF 2 (fun c : rk2_GC => (c.1.length : Int)) (fun c : rk2_GC => c.1) eT.dflt rk2_S d).1, rk2_g (ixF 2 (fun c : rk2_GC => (c.1.length : Int)) (fun c : rk2_GC => c.1) eT.dflt rk2_S d).2) := by
  obtain ⟨j, ⟨xs, k⟩, r⟩ := d
  show rk2_R xs k j r = _
  unfold rk2_R ixF rk2_S
  simp only [eT.lst_els]
  cases decide (j < (xs.length : Int)) with
  | false => rfl
  | true =>
    simp only [cond_true]
    generalize (j != k && rtleq_F (xs.getD j.toNat eT.dflt) (xs.getD k.toNat eT.dflt)) = z
    cases z <;> rfl
theorem rk2_ok : ∀ b ∈ loopsOf Try.prog 22, lkey b = 12 → LoopOk Try.prog b (rk2_C rk2_I rk2_M).g := by
  refine rk2_loop rk2_I rk2_M (fun g hi => ?_) (ix_conj_goes (fun _ => rfl) (fun _ => rfl) rk2_RF rk2_P)
  obtain ⟨xs, k, j, r⟩ := g
  obtain ⟨h1, h2, h3, h4, h5⟩ := hi _ (List.mem_cons_self ..)
  have h1 : (xs.length : Int) = (xs.length : Int) := h1
  have h3 : 0 ≤ j := h3
  have h5 : 0 ≤ k ∧ k < (xs.length : Int) := h5
  show rk2_side xs k j r
  unfold rk2_side
  simp only [decide_eq_true_eq, decide_eq_false_iff_not]
  have k0 : ∀ e : Nat, e < xs.length → eT.Ok (eT.els xs e) := fun e _ => eT.ok_els xs e
  clear hi
  repeat' (first | exact k0 | apply And.intro | intro _)
  all_goals omega
theorem rk2_run (c : rk2_GC) (b : rk2_GB) (k1 : (c.1.length : Int) = ((c.1).length : Int)) (k2 : (c.1).length ≤ maxLen) (k3 : rk2_K c b 0) : loopF rk2_RR rk2_M (rk2_g (0, c, b)) = ((scan 2 (rk2_S c) 0 (c.1) b).1, rk2_g ((scan 2 (rk2_S c) 0 (c.1) b).2.1, c, (scan 2 (rk2_S c) 0 (c.1) b).2.2)) := ix_conj_run (φ := rk2_f) (ψ := rk2_g) (fun _ => rfl) (fun _ => rfl) rk2_RF rk2_P c b k1 k2 k3
noncomputable def ro2_S (c : ro2_GC) (b : ro2_GB) (i : Int) (v : T) : Ex × ro2_GB := (.normal, !(!eqT v (c.1.getD c.2.1.toNat eT.dflt) && rtleq_F v (c.1.getD c.2.1.toNat eT.dflt)) && b)
def ro2_K (c : ro2_GC) (b : ro2_GB) (i : Int) : Prop := 0 ≤ c.2.1 ∧ c.2.1 < (c.1.length : Int)
abbrev ro2_I (g : ro2_G) : List Prop := ixI (fun c : ro2_GC => (c.1.length : Int)) (fun c : ro2_GC => c.1) ro2_K (ro2_f g)
abbrev ro2_M (g : ro2_G) : Nat := ixM (fun c : ro2_GC => (c.1.length : Int)) (ro2_f g)
theorem ro2_P : ixP ro2_S (fun c : ro2_GC => c.1) ro2_K := fun _ _ _ _ h _ _ => h
noncomputable abbrev ro2_RR (g : ro2_G) : Ex × ro2_G := ro2_R g.1 g.2.1 g.2.2.1 g.2.2.2.1 g.2.2.2.2
theorem ro2_RF (d : Int × ro2_GC × ro2_GB) (_ : allP (ixI (fun c : ro2_GC => (c.1.length : Int)) (fun c : ro2_GC => c.1) ro2_K d)) : ro2_RR (ro2_g d) = ((ixF 2 (fun c : ro2_GC => (c.1.length : Int)) (fun c : ro2_GC => c.1) eT.dflt ro2_S d).1, ro2_g (ixF 2 (fun c : ro2_GC => (c.1.length : Int)) (fun c : ro2_GC => c.1) eT.dflt ro2_S d).2) := by
  obtain ⟨j, ⟨xs, k, out⟩, z⟩ := d
  show ro2_R xs k z j out = _
  unfold ro2_R ixF ro2_S
  simp only [eT.lst_els, conj_T]
  cases decide (j < (xs.length : Int)) with
  | false => rfl
  | true => rfl
theorem ro2_ok : ∀ b ∈ loopsOf Try.prog 31, lkey b = 10 → LoopOk Try.prog b (ro2_C ro2_I ro2_M).g := by
  refine ro2_loop ro2_I ro2_M (fun g hi => ?_) (ix_conj_goes (fun _ => rfl) (fun _ => rfl) ro2_RF ro2_P)
  obtain ⟨xs, k, z, j, out⟩ := g
  obtain ⟨h1, h2, h3, h4, h5⟩ := hi _ (List.mem_cons_self ..)
  have h1 : (xs.length : Int) = (xs.length : Int) := h1
  have h3 : 0 ≤ j := h3
  have h5 : 0 ≤ k ∧ k < (xs.length : Int) := h5
  show ro2_side xs k z j out
  unfold ro2_side
  simp only [decide_eq_true_eq, decide_eq_false_iff_not]
  have k0 : ∀ e : Nat, e < xs.length → eT.Ok (eT.els xs e) := fun e _ => eT.ok_els xs e
  have k1 : ∀ e : Nat, e < out.length → eT.Ok (eT.els out e) := fun e _ => eT.ok_els out e
  clear hi
  repeat' (first | exact k0 | exact k1 | apply And.intro | intro _)
  all_goals omega
theorem ro2_run (c : ro2_GC) (b : ro2_GB) (k1 : (c.1.length : Int) = ((c.1).length : Int)) (k2 : (c.1).length ≤ maxLen) (k3 : ro2_K c b 0) : loopF ro2_RR ro2_M (ro2_g (0, c, b)) = ((scan 2 (ro2_S c) 0 (c.1) b).1, ro2_g ((scan 2 (ro2_S c) 0 (c.1) b).2.1, c, (scan 2 (ro2_S c) 0 (c.1) b).2.2)) := ix_conj_run (φ := ro2_f) (ψ := ro2_g) (fun _ => rfl) (fun _ => rfl) ro2_RF ro2_P c b k1 k2 k3
noncomputable def rl_S (c : rl_GC) (b : rl_GB) (i : Int) (v : T) : Ex × rl_GB := bif !c.1.any fun x => tleq_F x v then (.ret, false) else (.normal, b)
def rl_K (c : rl_GC) (b : rl_GB) (i : Int) : Prop := True
abbrev rl_I (g : rl_G) : List Prop := ixI (fun c : rl_GC => (c.2.length : Int)) (fun c : rl_GC => c.2) rl_K (rl_f g)
abbrev rl_M (g : rl_G) : Nat := ixM (fun c : rl_GC => (c.2.length : Int)) (rl_f g)
theorem rl_P : ixP rl_S (fun c : rl_GC => c.2) rl_K := fun _ _ _ _ h _ _ => h
noncomputable abbrev rl_RR (g : rl_G) : Ex × rl_G := rl_R g.1 g.2.1 g.2.2.1 g.2.2.2
theorem rl_RF (d : Int × rl_GC × rl_GB) (_ : allP (ixI (fun c : rl_GC => (c.2.length : Int)) (fun c : rl_GC => c.2) rl_K d)) : rl_RR (rl_g d) = ((ixF 0 (fun c : rl_GC => (c.2.length : Int)) (fun c : rl_GC => c.2) eT.dflt rl_S d).1, rl_g (ixF 0 (fun c : rl_GC => (c.2.length : Int)) (fun c : rl_GC => c.2) eT.dflt rl_S d).2) := by
  obtain ⟨i, ⟨ys, xs⟩, r⟩ := d
  show rl_R ys xs i r = _
  unfold rl_R ixF rl_S
  simp only [eT.lst_els]
  cases decide (i < (xs.length : Int)) with
  | false => rfl
  | true =>
    simp only [cond_true]
    generalize (!ys.any fun x => tleq_F x (xs.getD i.toNat eT.dflt)) = z
    cases z <;> rfl
theorem rl_ok : ∀ b ∈ loopsOf Try.prog 56, lkey b = 2 → LoopOk Try.prog b (rl_C rl_I rl_M).g := by
  refine rl_loop rl_I rl_M (fun g hi => ?_) (ix_conj_goes (fun _ => rfl) (fun _ => rfl) rl_RF rl_P)
  obtain ⟨ys, xs, i, r⟩ := g
  obtain ⟨h1, h2, h3, h4, h5⟩ := hi _ (List.mem_cons_self ..)
  have h1 : (xs.length : Int) = (xs.length : Int) := h1
  have h3 : 0 ≤ i := h3
  have h5 : True := h5
  show rl_side ys xs i r
  unfold rl_side
  simp only [decide_eq_true_eq, decide_eq_false_iff_not]
  have k0 : ∀ e : Nat, e < ys.length → eT.Ok (eT.els ys e) := fun e _ => eT.ok_els ys e
  have k1 : ∀ e : Nat, e < xs.length → eT.Ok (eT.els xs e) := fun e _ => eT.ok_els xs e
  clear hi
  repeat' (first | exact k0 | exact k1 | apply And.intro | intro _)
  all_goals omega
theorem rl_run (c : rl_GC) (b : rl_GB) (k1 : (c.2.length : Int) = ((c.2).length : Int)) (k2 : (c.2).length ≤ maxLen) (k3 : rl_K c b 0) : loopF rl_RR rl_M (rl_g (0, c, b)) = ((scan 0 (rl_S c) 0 (c.2) b).1, rl_g ((scan 0 (rl_S c) 0 (c.2) b).2.1, c, (scan 0 (rl_S c) 0 (c.2) b).2.2)) := ix_conj_run (φ := rl_f) (ψ := rl_g) (fun _ => rfl) (fun _ => rfl) rl_RF rl_P c b k1 k2 k3
noncomputable def ltD : LTab Try.prog := ((((ltA.cons 21 10 (ck2_C ck2_I ck2_M) ck2_ok).cons 22 12 (rk2_C rk2_I rk2_M) rk2_ok).cons 31 10 (ro2_C ro2_I ro2_M) ro2_ok).cons 56 2 (rl_C rl_I rl_M) rl_ok)
noncomputable abbrev lamD : Lam := ltD.lam
theorem lamD_ok : ∀ f k L, lamD f k = some L → ∀ b ∈ loopsOf Try.prog f, lkey b = k → LoopOk Try.prog b L.g := ltD.ok
end Go.Proofs.Ytiipneclghnfhaa

/- Chapter 3: is it an antichain: the outer loops; putting in. Printed by treegen.py. -/
namespace Go.Proofs.Ytiipneclghnfhaa
open Go.RowKit Go.Sx
set_option maxRecDepth 100000
set_option linter.unusedVariables false
noncomputable def ck1_q1 (l : List T) (xs : List T) (n : Int) (k : Int) (r : Int) : Ex ×
  ck2_G :=
  loopF (fun g => ck2_R g.fst g.snd.fst g.snd.snd.fst g.snd.snd.snd.fst g.snd.snd.snd.snd.fst g.snd.snd.snd.snd.snd.fst g.snd.snd.snd.snd.snd.snd.fst g.snd.snd.snd.snd.snd.snd.snd.fst g.snd.snd.snd.snd.snd.snd.snd.snd.fst g.snd.snd.snd.snd.snd.snd.snd.snd.snd) ck2_M (eT.lst l.length (eT.els l), eT.lst xs.length (eT.els xs), n, k, (), xs.getD k.toNat eT.dflt, eT.lst k.toNat (eT.els l), (↑k.toNat : Int), (0 : Int), r)
abbrev ck1_G : Type := List T × List T × Int × Int × Int
noncomputable def ck1_LP : LP 0 ck1_G := .pair (.slot 0 0 dLT) (.pair (.slot 0 16 dLT) (.pair (.slot 0 17 dI) (.pair (.slot 0 18 dI) (.slot 0 2 dI))))
noncomputable def ck1_R (l : List T) (xs : List T) (n : Int) (k : Int) (r : Int) : Ex × ck1_G :=
  bif decide (k < n) then bif exB Ex.ret (ck1_q1 l xs n k r).fst then (Ex.ret, eT.lst (ck1_q1 l xs n k r).snd.fst.length (eT.els (ck1_q1 l xs n k r).snd.fst), eT.lst (ck1_q1 l xs n k r).snd.snd.fst.length (eT.els (ck1_q1 l xs n k r).snd.snd.fst), (ck1_q1 l xs n k r).snd.snd.snd.fst, (ck1_q1 l xs n k r).snd.snd.snd.snd.fst, (ck1_q1 l xs n k r).snd.snd.snd.snd.snd.snd.snd.snd.snd.snd) else (Ex.normal, eT.lst (ck1_q1 l xs n k r).snd.fst.length (eT.els (ck1_q1 l xs n k r).snd.fst), eT.lst (ck1_q1 l xs n k r).snd.snd.fst.length (eT.els (ck1_q1 l xs n k r).snd.snd.fst), (ck1_q1 l xs n k r).snd.snd.snd.fst, IntKind.i64.wrap ((ck1_q1 l xs n k r).snd.snd.snd.snd.fst + (1 : Int)), (ck1_q1 l xs n k r).snd.snd.snd.snd.snd.snd.snd.snd.snd.snd)
  else (Ex.exit (0 : Nat), eT.lst l.length (eT.els l), eT.lst xs.length (eT.els xs), n, k, r)
def ck1_side (l : List T) (xs : List T) (n : Int) (k : Int) (r : Int) : Prop :=
  (decide (k < n) = true → ((0 : Int) ≤ k ∧ k < (↑xs.length : Int)) ∧ ((0 : Int) ≤ k ∧ k ≤ (↑l.length : Int)) ∧ (∀ (e : Nat), e < l.length → eT.Ok (eT.els l e)) ∧ (∀ (e : Nat), e < xs.length → eT.Ok (eT.els xs e)) ∧ (∀ (e : Nat), e < k.toNat → eT.Ok (eT.els l e)) ∧ Lp.ixJ (fun c => c.snd.snd.snd.snd.snd.snd) (fun c => c.snd.snd.snd.snd.snd.fst) ck2_K (ck2_f (eT.lst l.length (eT.els l), eT.lst xs.length (eT.els xs), n, k, (), xs.getD k.toNat eT.dflt, eT.lst k.toNat (eT.els l), (↑k.toNat : Int), (0 : Int), r)) ∧ (exB Ex.ret (ck1_q1 l xs n k r).fst = true → (∀ (e : Nat), e < (ck1_q1 l xs n k r).snd.fst.length → eT.Ok (eT.els (ck1_q1 l xs n k r).snd.fst e)) ∧ ∀ (e : Nat), e < (ck1_q1 l xs n k r).snd.snd.fst.length → eT.Ok (eT.els (ck1_q1 l xs n k r).snd.snd.fst e)) ∧ (exB Ex.ret (ck1_q1 l xs n k r).fst = false → (∀ (e : Nat), e < (ck1_q1 l xs n k r).snd.fst.length → eT.Ok (eT.els (ck1_q1 l xs n k r).snd.fst e)) ∧ ∀ (e : Nat), e < (ck1_q1 l xs n k r).snd.snd.fst.length → eT.Ok (eT.els (ck1_q1 l xs n k r).snd.snd.fst e))) ∧ (decide (k < n) = false → (∀ (e : Nat), e < l.length → eT.Ok (eT.els l e)) ∧ ∀ (e : Nat), e < xs.length → eT.Ok (eT.els xs e))
theorem ck1_one : ((loopsOf Try.prog 21).filter fun c => Nat.beq (lkey c) 7).length = 1 := by kernel_rfl
abbrev ck1_GC : Type := List T × List T × Int
abbrev ck1_GB : Type := Int
def ck1_f (g : ck1_G) : Int × ck1_GC × ck1_GB := (g.2.2.2.1, (g.1, g.2.1, g.2.2.1), g.2.2.2.2)
def ck1_g (d : Int × ck1_GC × ck1_GB) : ck1_G := (d.2.1.1, d.2.1.2.1, d.2.1.2.2, d.1, d.2.2)
theorem ck1_es (g : ck1_G) : (ck1_R g.1 g.2.1 g.2.2.1 g.2.2.2.1 g.2.2.2.2).1 = .normal ∨ (ck1_R g.1 g.2.1 g.2.2.1 g.2.2.2.1 g.2.2.2.2).1 ∈ ([.ret, .exit 0] : List Ex) := by
  unfold ck1_R
  repeat' (first | (left; rfl) | (right; simp only [cond_true, cond_false]; simp; done) | (rw [Bool.cond_eq_ite]; split))
noncomputable abbrev ck1_C (Inv : ck1_G → List Prop) (m : ck1_G → Nat) : LCon := loopR [.ret, .exit 0] (loopBody Try.prog 21 7) ck1_LP [] 47 Inv (fun g => ck1_R g.1 g.2.1 g.2.2.1 g.2.2.2.1 g.2.2.2.2) m
theorem ck1_loop (Inv : ck1_G → List Prop) (m : ck1_G → Nat) (hs : ∀ g, allP (Inv g) → ck1_side g.1 g.2.1 g.2.2.1 g.2.2.2.1 g.2.2.2.2) (hg : Goes (fun g : ck1_G => ck1_R g.1 g.2.1 g.2.2.1 g.2.2.2.1 g.2.2.2.2) m fun g => allP (Inv g)) : ∀ b ∈ loopsOf Try.prog 21, lkey b = 7 → LoopOk Try.prog b (ck1_C Inv m).g := loop_run (Γ := (PTab.gamz tabO [] [])) (Λ := lamD) (PTab.okz tabO [] []) lamD_ok 100 21 7 47 ck1_LP [] Inv (fun g => ck1_R g.1 g.2.1 g.2.2.1 g.2.2.2.1 g.2.2.2.2) (fun g => ck1_side g.1 g.2.1 g.2.2.1 g.2.2.2.1 g.2.2.2.2) m default [.ret, .exit 0] ck1_one (fun rd T B HL HB ds g => by kernel_rfl) (fun rd T B HL HB ds g => by kernel_rfl) hs hg ck1_es
noncomputable def rk1_q1 (xs : List T) (k : Int) (r : Int) : Ex ×
  rk2_G :=
  loopF (fun g => rk2_R g.fst g.snd.fst g.snd.snd.fst g.snd.snd.snd) rk2_M (eT.lst xs.length (eT.els xs), k, (0 : Int), r)
abbrev rk1_G : Type := List T × Int × Int
noncomputable def rk1_LP : LP 0 rk1_G := .pair (.slot 0 0 dLT) (.pair (.slot 0 4 dI) (.slot 0 2 dI))
noncomputable def rk1_R (xs : List T) (k : Int) (r : Int) : Ex × rk1_G :=
  bif decide (k < (↑xs.length : Int)) then bif decide (k > (0 : Int)) && decide (rtcmp_F (xs.getD (IntKind.i64.wrap (k - (1 : Int))).toNat eT.dflt) (xs.getD k.toNat eT.dflt) ≥ (0 : Int)) then (Ex.ret, eT.lst xs.length (eT.els xs), k, (30 : Int)) else bif exB Ex.ret (rk1_q1 xs k r).fst then (Ex.ret, eT.lst (rk1_q1 xs k r).snd.fst.length (eT.els (rk1_q1 xs k r).snd.fst), (rk1_q1 xs k r).snd.snd.fst, (rk1_q1 xs k r).snd.snd.snd.snd) else (Ex.normal, eT.lst (rk1_q1 xs k r).snd.fst.length (eT.els (rk1_q1 xs k r).snd.fst), IntKind.i64.wrap ((rk1_q1 xs k r).snd.snd.fst + (1 : Int)), (rk1_q1 xs k r).snd.snd.snd.snd)
  else (Ex.exit (0 : Nat), eT.lst xs.length (eT.els xs), k, r)
def rk1_side (xs : List T) (k : Int) (r : Int) : Prop :=
  (decide (k < (↑xs.length : Int)) = true → (decide (k > (0 : Int)) = true → (0 : Int) ≤ IntKind.i64.wrap (k - (1 : Int)) ∧ IntKind.i64.wrap (k - (1 : Int)) < (↑xs.length : Int)) ∧ (decide (k > (0 : Int)) = true → (0 : Int) ≤ k ∧ k < (↑xs.length : Int)) ∧ ((decide (k > (0 : Int)) && decide (rtcmp_F (xs.getD (IntKind.i64.wrap (k - (1 : Int))).toNat eT.dflt) (xs.getD k.toNat eT.dflt) ≥ (0 : Int))) = true → ∀ (e : Nat), e < xs.length → eT.Ok (eT.els xs e)) ∧ ((decide (k > (0 : Int)) && decide (rtcmp_F (xs.getD (IntKind.i64.wrap (k - (1 : Int))).toNat eT.dflt) (xs.getD k.toNat eT.dflt) ≥ (0 : Int))) = false → (∀ (e : Nat), e < xs.length → eT.Ok (eT.els xs e)) ∧ Lp.ixJ (fun c => (↑c.fst.length : Int)) (fun c => c.fst) rk2_K (rk2_f (eT.lst xs.length (eT.els xs), k, (0 : Int), r)) ∧ (exB Ex.ret (rk1_q1 xs k r).fst = true → ∀ (e : Nat), e < (rk1_q1 xs k r).snd.fst.length → eT.Ok (eT.els (rk1_q1 xs k r).snd.fst e)) ∧ (exB Ex.ret (rk1_q1 xs k r).fst = false → ∀ (e : Nat), e < (rk1_q1 xs k r).snd.fst.length → eT.Ok (eT.els (rk1_q1 xs k r).snd.fst e)))) ∧ (decide (k < (↑xs.length : Int)) = false → ∀ (e : Nat), e < xs.length → eT.Ok (eT.els xs e))
theorem rk1_one : ((loopsOf Try.prog 22).filter fun c => Nat.beq (lkey c) 7).length = 1 := by kernel_rfl
abbrev rk1_GC : Type := List T
abbrev rk1_GB : Type := Int
def rk1_f (g : rk1_G) : Int × rk1_GC × rk1_GB := (g.2.1, g.1, g.2.2)
def rk1_g (d : Int × rk1_GC × rk1_GB) : rk1_G := (d.2.1, d.1, d.2.2)
theorem rk1_es (g : rk1_G) : (rk1_R g.1 g.2.1 g.2.2).1 = .normal ∨ (rk1_R g.1 g.2.1 g.2.2).1 ∈ ([.ret, .exit 0] : List Ex) := by
  unfold rk1_R
  repeat' (first | (left; rfl) | (right; simp only [cond_true, cond_false]; simp; done) | (rw [Bool.cond_eq_ite]; split))
noncomputable abbrev rk1_C (Inv : rk1_G → List Prop) (m : rk1_G → Nat) : LCon := loopR [.ret, .exit 0] (loopBody Try.prog 22 7) rk1_LP [] 55 Inv (fun g => rk1_R g.1 g.2.1 g.2.2) m
theorem rk1_loop (Inv : rk1_G → List Prop) (m : rk1_G → Nat) (hs : ∀ g, allP (Inv g) → rk1_side g.1 g.2.1 g.2.2) (hg : Goes (fun g : rk1_G => rk1_R g.1 g.2.1 g.2.2) m fun g => allP (Inv g)) : ∀ b ∈ loopsOf Try.prog 22, lkey b = 7 → LoopOk Try.prog b (rk1_C Inv m).g := loop_run (Γ := (PTab.gamz tabO [] [])) (Λ := lamD) (PTab.okz tabO [] []) lamD_ok 100 22 7 55 rk1_LP [] Inv (fun g => rk1_R g.1 g.2.1 g.2.2) (fun g => rk1_side g.1 g.2.1 g.2.2) m default [.ret, .exit 0] rk1_one (fun rd T B HL HB ds g => by kernel_rfl) (fun rd T B HL HB ds g => by kernel_rfl) hs hg rk1_es
abbrev pt_G : Type := List T × Unit × T × List T × Bool × Int
noncomputable def pt_LP : LP 1 pt_G := .pair (.slot 1 0 dLT) (.pair (.fix 1 3 (.p 0 0)) (.pair (.obj 1 0 30 eT) (.pair (.row 1 5 30 eT) (.pair (.slot 1 6 dBool) (.slot 1 7 dI)))))
noncomputable def pt_R (xs : List T) (_u : Unit) (t : T) (out : List T) (z : Bool) (i : Int) : Ex × pt_G :=
  bif decide (i < (↑xs.length : Int)) then bif !z && decide (rtcmp_F t (xs.getD i.toNat eT.dflt) < (0 : Int)) then (Ex.normal, eT.lst xs.length (eT.els xs), (), t, eT.lst (min (min (out.length + (1 : Nat) + (1 : Nat)) (out.length + (1 : Nat))) out.length) (eT.els out) ++ List.map (fun x => t) (List.range (min (out.length + (1 : Nat) + (1 : Nat)) (out.length + (1 : Nat)) - out.length)) ++ List.map (fun x => xs.getD i.toNat eT.dflt) (List.range (out.length + (1 : Nat) + (1 : Nat) - (out.length + (1 : Nat)))), true, IntKind.i64.wrap (i + (1 : Int))) else (Ex.normal, eT.lst xs.length (eT.els xs), (), t, eT.lst (min (out.length + (1 : Nat)) out.length) (eT.els out) ++ List.map (fun x => xs.getD i.toNat eT.dflt) (List.range (out.length + (1 : Nat) - out.length)), z, IntKind.i64.wrap (i + (1 : Int)))
  else (Ex.exit (0 : Nat), eT.lst xs.length (eT.els xs), (), t, eT.lst out.length (eT.els out), z, i)
def pt_side (xs : List T) (_u : Unit) (t : T) (out : List T) (z : Bool) (i : Int) : Prop :=
  (decide (i < (↑xs.length : Int)) = true → ((!z) = true → (0 : Int) ≤ i ∧ i < (↑xs.length : Int)) ∧ ((!z && decide (rtcmp_F t (xs.getD i.toNat eT.dflt) < (0 : Int))) = true → (out.length ≤ out.length ∧ True ∧ out.length + (1 : Nat) ≤ maxLen ∧ (out.length + (1 : Nat)) * Try.prog.types[(30 : Nat)].bytes ≤ (140737488355328 : Nat)) ∧ ((0 : Int) ≤ i ∧ i < (↑xs.length : Int)) ∧ (out.length + (1 : Nat) ≤ out.length + (1 : Nat) ∧ True ∧ out.length + (1 : Nat) + (1 : Nat) ≤ maxLen ∧ (out.length + (1 : Nat) + (1 : Nat)) * Try.prog.types[(30 : Nat)].bytes ≤ (140737488355328 : Nat)) ∧ (∀ (e : Nat), e < xs.length → eT.Ok (eT.els xs e)) ∧ out.length + (1 : Nat) + (1 : Nat) ≤ out.length + (1 : Nat) + (1 : Nat) ∧ (∀ (e : Nat), e < min (min (out.length + (1 : Nat) + (1 : Nat)) (out.length + (1 : Nat))) out.length → True) ∧ (∀ (e : Nat), e < min (out.length + (1 : Nat) + (1 : Nat)) (out.length + (1 : Nat)) - out.length → True) ∧ ∀ (e : Nat), e < out.length + (1 : Nat) + (1 : Nat) - (out.length + (1 : Nat)) → True) ∧ ((!z && decide (rtcmp_F t (xs.getD i.toNat eT.dflt) < (0 : Int))) = false → ((0 : Int) ≤ i ∧ i < (↑xs.length : Int)) ∧ (out.length ≤ out.length ∧ True ∧ out.length + (1 : Nat) ≤ maxLen ∧ (out.length + (1 : Nat)) * Try.prog.types[(30 : Nat)].bytes ≤ (140737488355328 : Nat)) ∧ (∀ (e : Nat), e < xs.length → eT.Ok (eT.els xs e)) ∧ out.length + (1 : Nat) ≤ out.length + (1 : Nat) ∧ (∀ (e : Nat), e < min (out.length + (1 : Nat)) out.length → True) ∧ ∀ (e : Nat), e < out.length + (1 : Nat) - out.length → True)) ∧ (decide (i < (↑xs.length : Int)) = false → (∀ (e : Nat), e < xs.length → eT.Ok (eT.els xs e)) ∧ out.length ≤ out.length ∧ ∀ (e : Nat), e < out.length → True)
theorem pt_one : ((loopsOf Try.prog 89).filter fun c => Nat.beq (lkey c) 4).length = 1 := by kernel_rfl
abbrev pt_GC : Type := List T × T
abbrev pt_GB : Type := Unit × List T × Bool
def pt_f (g : pt_G) : Int × pt_GC × pt_GB := (g.2.2.2.2.2, (g.1, g.2.2.1), (g.2.1, g.2.2.2.1, g.2.2.2.2.1))
def pt_g (d : Int × pt_GC × pt_GB) : pt_G := (d.2.1.1, d.2.2.1, d.2.1.2, d.2.2.2.1, d.2.2.2.2, d.1)
theorem pt_es (g : pt_G) : (pt_R g.1 g.2.1 g.2.2.1 g.2.2.2.1 g.2.2.2.2.1 g.2.2.2.2.2).1 = .normal ∨ (pt_R g.1 g.2.1 g.2.2.1 g.2.2.2.1 g.2.2.2.2.1 g.2.2.2.2.2).1 ∈ ([.exit 0] : List Ex) := by
  unfold pt_R
  repeat' (first | (left; rfl) | (right; simp only [cond_true, cond_false]; simp; done) | (rw [Bool.cond_eq_ite]; split))
noncomputable abbrev pt_C (Inv : pt_G → List Prop) (m : pt_G → Nat) : LCon := loopR [.exit 0] (loopBody Try.prog 89 4) pt_LP [] 43 Inv (fun g => pt_R g.1 g.2.1 g.2.2.1 g.2.2.2.1 g.2.2.2.2.1 g.2.2.2.2.2) m
theorem pt_loop (Inv : pt_G → List Prop) (m : pt_G → Nat) (hs : ∀ g, allP (Inv g) → pt_side g.1 g.2.1 g.2.2.1 g.2.2.2.1 g.2.2.2.2.1 g.2.2.2.2.2) (hg : Goes (fun g : pt_G => pt_R g.1 g.2.1 g.2.2.1 g.2.2.2.1 g.2.2.2.2.1 g.2.2.2.2.2) m fun g => allP (Inv g)) : ∀ b ∈ loopsOf Try.prog 89, lkey b = 4 → LoopOk Try.prog b (pt_C Inv m).g := loop_run (Γ := (PTab.gamz tabO [] [])) (Λ := lamD) (PTab.okz tabO [] []) lamD_ok 100 89 4 43 pt_LP [] Inv (fun g => pt_R g.1 g.2.1 g.2.2.1 g.2.2.2.1 g.2.2.2.2.1 g.2.2.2.2.2) (fun g => pt_side g.1 g.2.1 g.2.2.1 g.2.2.2.1 g.2.2.2.2.1 g.2.2.2.2.2) m default [.exit 0] pt_one (fun rd T B HL HB ds g => by kernel_rfl) (fun rd T B HL HB ds g => by kernel_rfl) hs hg pt_es
noncomputable def tabX14 : PTab Try.prog := tabO
end Go.Proofs.Ytiipneclghnfhaa

/- Chapter 3: is it an antichain: the outer loop. -/
namespace Go.Proofs.Ytiipneclghnfhaa
open Go.RowKit Go.Sx Go.Lp
theorem lst_tk {α : Type} (A : El α) (l : List α) (k : Nat) (h : k ≤ l.length) : A.lst k (A.els l) = l.take k := by
  have := A.lst_els (l.take k)
  rw [List.length_take, Nat.min_eq_left h] at this
  rw [← this]
  unfold El.lst
  apply List.map_congr_left
  intro e he
  have he := List.mem_range.1 he
  show A.get (A.els l e) = A.get (A.els (l.take k) e)
  unfold El.els
  simp only [List.getD_eq_getElem?_getD, List.getElem?_take, he, if_true]
theorem okk (l : List T) (k : Nat) (h : k ≤ l.length) : ∀ e : Nat, e < k → eT.Ok (eT.els l e) := fun e he => okT l e (by omega)
theorem ck1_q (l xs : List T) (n k r : Int) (hk : 0 ≤ k ∧ k ≤ (l.length : Int)) (hm : l.length ≤ maxLen) : ∃ j, ck1_q1 l xs n k r = (bif (l.take k.toNat).any (clash · (xs.getD k.toNat eT.dflt)) then .ret else .exit 2, l, xs, n, k, (), xs.getD k.toNat eT.dflt, l.take k.toNat, (k.toNat : Int), j, bif (l.take k.toNat).any (clash · (xs.getD k.toNat eT.dflt)) then 30 else r) := by
  unfold ck1_q1
  simp only [eT.lst_els]
  rw [lst_tk eT l k.toNat (by omega)]
  generalize xs.getD k.toNat eT.dflt = v
  have hl : (l.take k.toNat).length = k.toNat := by rw [List.length_take]; omega
  rcases search (x := 2) (st := ck2_S (l, xs, n, k, v, l.take k.toNat, (k.toNat : Int))) (p := fun u => clash u v) (r := fun _ _ _ => ((), (30 : Int))) (fun _ _ _ => rfl) (l.take k.toNat) ((), r) with ⟨ha, j, hj, a, _, h3, h2⟩ | ⟨ha, h2⟩
  · have h2 : scan 2 (ck2_S (l, xs, n, k, v, l.take k.toNat, (k.toNat : Int))) 0 (l.take k.toNat) ((), r) = _ := h2
    refine ⟨j, (ck2_run (l, xs, n, k, v, l.take k.toNat, (k.toNat : Int)) ((), r) (by show (k.toNat : Int) = ((l.take k.toNat).length : Int); rw [hl]) (by show (l.take k.toNat).length ≤ maxLen; omega) trivial).trans ?_⟩
    rw [h2, ha]; rfl
  · have h2 : scan 2 (ck2_S (l, xs, n, k, v, l.take k.toNat, (k.toNat : Int))) 0 (l.take k.toNat) ((), r) = _ := h2
    refine ⟨((l.take k.toNat).length : Int), (ck2_run (l, xs, n, k, v, l.take k.toNat, (k.toNat : Int)) ((), r) (by show (k.toNat : Int) = ((l.take k.toNat).length : Int); rw [hl]) (by show (l.take k.toNat).length ≤ maxLen; omega) trivial).trans ?_⟩
    rw [h2, ha]; rfl
noncomputable def ck1_S (c : ck1_GC) (b : ck1_GB) (i : Int) (v : T) : Ex × ck1_GB := bif (c.1.take i.toNat).any (clash · v) then (.ret, (30 : Int)) else (.normal, b)
def ck1_K (c : ck1_GC) (_ : ck1_GB) (_ : Int) : Prop := c.1 = c.2.1
abbrev ck1_I (g : ck1_G) : List Prop := ixI (fun c : ck1_GC => c.2.2) (fun c => c.2.1) ck1_K (ck1_f g)
abbrev ck1_M (g : ck1_G) : Nat := ixM (fun c : ck1_GC => c.2.2) (ck1_f g)
theorem ck1_P : ixP ck1_S (fun c : ck1_GC => c.2.1) ck1_K := fun _ _ _ _ h _ _ => h
noncomputable abbrev ck1_RR (g : ck1_G) : Ex × ck1_G := ck1_R g.1 g.2.1 g.2.2.1 g.2.2.2.1 g.2.2.2.2
theorem ck1_RF (d : Int × ck1_GC × ck1_GB) (hi : allP (ixI (fun c : ck1_GC => c.2.2) (fun c => c.2.1) ck1_K d)) : ck1_RR (ck1_g d) = ((ixF 0 (fun c : ck1_GC => c.2.2) (fun c => c.2.1) eT.dflt ck1_S d).1, ck1_g (ixF 0 (fun c : ck1_GC => c.2.2) (fun c => c.2.1) eT.dflt ck1_S d).2) := by
  obtain ⟨h1, h2, h3, h4, h5⟩ := hi _ (List.mem_cons_self ..)
  obtain ⟨k, ⟨l, xs, n⟩, r⟩ := d
  have h5 : l = xs := h5
  have h3 : 0 ≤ k := h3
  have h4 : k ≤ (xs.length : Int) := h4
  have h2 : xs.length ≤ maxLen := h2
  subst h5
  obtain ⟨j, hj⟩ := ck1_q l l n k r ⟨h3, h4⟩ h2
  show ck1_R l l n k r = _
  unfold ck1_R ixF ck1_S
  rw [hj]
  simp only [eT.lst_els]
  cases decide (k < n) with
  | false => rfl
  | true =>
    simp only [cond_true]
    generalize (l.take k.toNat).any (clash · (l.getD k.toNat eT.dflt)) = z
    cases z <;> rfl
theorem ck1_ok : ∀ b ∈ loopsOf Try.prog 21, lkey b = 7 → LoopOk Try.prog b (ck1_C ck1_I ck1_M).g := by
  refine ck1_loop ck1_I ck1_M (fun g hi => ?_) (ix_conj_goes (fun _ => rfl) (fun _ => rfl) ck1_RF ck1_P)
  obtain ⟨l, xs, n, k, r⟩ := g
  obtain ⟨h1, h2, h3, h4, h5⟩ := hi _ (List.mem_cons_self ..)
  have h1 : n = (xs.length : Int) := h1
  have h2 : xs.length ≤ maxLen := h2
  have h3 : 0 ≤ k := h3
  have h4 : k ≤ (xs.length : Int) := h4
  have h5 : l = xs := h5
  subst h5
  obtain ⟨j, hj⟩ := ck1_q l l n k r ⟨h3, h4⟩ h2
  show ck1_side l l n k r
  unfold ck1_side
  rw [hj]
  simp only [eT.lst_els, lst_tk eT l k.toNat (show k.toNat ≤ l.length by omega)]
  have ka := okT l
  have hl : (l.take k.toNat).length = k.toNat := by rw [List.length_take]; omega
  refine ⟨fun hc => ?_, fun _ => ⟨ka, ka⟩⟩
  have hc : k < n := of_decide_eq_true hc
  exact ⟨⟨h3, by omega⟩, ⟨h3, h4⟩, ka, ka, okk l _ (by omega), ixJ0 (by show (k.toNat : Int) = ((l.take k.toNat).length : Int); rw [hl]) (by show (l.take k.toNat).length ≤ maxLen; omega) trivial, fun _ => ⟨ka, ka⟩, fun _ => ⟨ka, ka⟩⟩
/-- One stands behind another one that it clashes with. -/
noncomputable def clashes (l : List T) : Bool := (List.range l.length).any fun i => (l.take i).any (clash · (l.getD i eT.dflt))
theorem ck1_run (l : List T) (hm : l.length ≤ maxLen) (r : Int) : (loopF ck1_RR ck1_M (l, l, (l.length : Int), 0, r)).1 = (bif clashes l then .ret else .exit 0) ∧ (loopF ck1_RR ck1_M (l, l, (l.length : Int), 0, r)).2.2.2.2.2 = bif clashes l then 30 else r := by
  have h1 : loopF ck1_RR ck1_M (l, l, (l.length : Int), 0, r) = _ := ix_conj_run (φ := ck1_f) (ψ := ck1_g) (fun _ => rfl) (fun _ => rfl) ck1_RF ck1_P (l, l, (l.length : Int)) r rfl hm rfl
  rw [h1]
  rcases searchI (x := 0) (st := ck1_S (l, l, (l.length : Int))) (p := fun i v => (l.take i.toNat).any (clash · v)) (r := fun _ _ _ => (30 : Int)) (fun _ _ _ => rfl) l r with ⟨n, a, ha, hp, h2⟩ | ⟨ha, h2⟩
  · have hc : clashes l = true := by
      unfold clashes
      rw [List.any_eq_true]
      have hn : n < l.length := by
        rcases Nat.lt_or_ge n l.length with h | h
        · exact h
        · rw [List.getElem?_eq_none h] at ha; cases ha
      refine ⟨n, List.mem_range.2 hn, ?_⟩
      rw [List.getD_eq_getElem?_getD, ha]
      simpa using hp
    have h2 : scan 0 (ck1_S (l, l, (l.length : Int))) 0 l r = _ := h2
    rw [hc]
    exact ⟨congrArg (·.1) h2, congrArg (·.2.2) h2⟩
  · have hc : clashes l = false := by
      unfold clashes
      rw [List.any_eq_false]
      intro n hn
      have hn := List.mem_range.1 hn
      have := ha n (l.getD n eT.dflt) (by rw [List.getD_eq_getElem?_getD, List.getElem?_eq_getElem hn]; rfl)
      simpa using this
    have h2 : scan 0 (ck1_S (l, l, (l.length : Int))) 0 l r = _ := h2
    rw [hc]
    exact ⟨congrArg (·.1) h2, congrArg (·.2.2) h2⟩
noncomputable def ltE : LTab Try.prog := ltD.cons 21 7 (ck1_C ck1_I ck1_M) ck1_ok
noncomputable abbrev lamE : Lam := ltE.lam
theorem lamE_ok : ∀ f k L, lamE f k = some L → ∀ b ∈ loopsOf Try.prog f, lkey b = k → LoopOk Try.prog b L.g := ltE.ok
end Go.Proofs.Ytiipneclghnfhaa

/- Chapter 3: putting in, the document's Check: contracts of the loops. -/
namespace Go.Proofs.Ytiipneclghnfhaa
open Go.RowKit Go.Sx Go.Lp
theorem bytesT (h : 30 < Try.prog.types.size) : (Try.prog.types[30]'h).bytes = 48 := by kernel_rfl
theorem lst_app2 {α : Type} (A : El α) (out : List α) (s y : α) : A.lst (min (min (out.length + 1 + 1) (out.length + 1)) out.length) (A.els out) ++ List.map (fun _ => s) (List.range (min (out.length + 1 + 1) (out.length + 1) - out.length)) ++ List.map (fun _ => y) (List.range (out.length + 1 + 1 - (out.length + 1))) = (out ++ [s]) ++ [y] := by
  rw [Nat.min_eq_right (Nat.le_succ (out.length + 1)), Nat.min_eq_right (Nat.le_succ _), A.lst_els, Nat.add_sub_cancel_left, Nat.add_sub_cancel_left]; rfl
def KS : Nat := 1000000
noncomputable def pt_f1 (t : T) (b : List T × Bool) (v : T) : List T × Bool := bif !b.2 && decide (tcmp_F t v < 0) then (b.1 ++ [t] ++ [v], true) else (b.1 ++ [v], b.2)
noncomputable def pt_S (c : pt_GC) (b : pt_GB) (_ : Int) (v : T) : Ex × pt_GB := (.normal, (), (pt_f1 c.2 b.2 v).1, (pt_f1 c.2 b.2 v).2)
def pt_K (c : pt_GC) (b : pt_GB) (i : Int) : Prop := c.1.length ≤ KS ∧ (b.2.1.length : Int) ≤ i + (bif b.2.2 then 1 else 0)
abbrev pt_I (g : pt_G) : List Prop := ixI (fun c : pt_GC => (c.1.length : Int)) (fun c => c.1) pt_K (pt_f g)
abbrev pt_M (g : pt_G) : Nat := ixM (fun c : pt_GC => (c.1.length : Int)) (pt_f g)
theorem pt_P : ixP pt_S (fun c : pt_GC => c.1) pt_K := by
  rintro ⟨xs, t⟩ ⟨⟨⟩, out, z⟩ i a ⟨h1, h2⟩ _ _
  refine ⟨h1, ?_⟩
  have h2 : (out.length : Int) ≤ (i : Int) + (bif z then 1 else 0) := h2
  show ((pt_f1 t (out, z) a).1.length : Int) ≤ (i : Int) + 1 + (bif (pt_f1 t (out, z) a).2 then 1 else 0)
  unfold pt_f1
  generalize decide (tcmp_F t a < 0) = c
  cases z <;> cases c <;> simp at h2 ⊢ <;> omega
noncomputable abbrev pt_RR (g : pt_G) : Ex × pt_G := pt_R g.1 g.2.1 g.2.2.1 g.2.2.2.1 g.2.2.2.2.1 g.2.2.2.2.2
theorem pt_RF (d : Int × pt_GC × pt_GB) (_ : allP (ixI (fun c : pt_GC => (c.1.length : Int)) (fun c => c.1) pt_K d)) : pt_RR (pt_g d) = ((ixF 0 (fun c : pt_GC => (c.1.length : Int)) (fun c => c.1) eT.dflt pt_S d).1, pt_g (ixF 0 (fun c : pt_GC => (c.1.length : Int)) (fun c => c.1) eT.dflt pt_S d).2) := by
  obtain ⟨i, ⟨xs, t⟩, ⟨⟨⟩, out, z⟩⟩ := d
  show pt_R xs () t out z i = _
  unfold pt_R ixF pt_S pt_f1
  simp only [eT.lst_els, lst_app1, lst_app2, rtcmp_eq]
  cases decide (i < (xs.length : Int)) with
  | false => rfl
  | true =>
    simp only [cond_true]
    generalize (!z && decide (tcmp_F t (xs.getD i.toNat eT.dflt) < 0)) = c
    cases c <;> rfl
theorem pt_ok : ∀ b ∈ loopsOf Try.prog 89, lkey b = 4 → LoopOk Try.prog b (pt_C pt_I pt_M).g := by
  refine pt_loop pt_I pt_M (fun g hi => ?_) (ix_conj_goes (fun _ => rfl) (fun _ => rfl) pt_RF pt_P)
  obtain ⟨xs, ⟨⟩, t, out, z, i⟩ := g
  obtain ⟨h1, h2, h3, h4, h5, h6⟩ := hi _ (List.mem_cons_self ..)
  have h3 : 0 ≤ i := h3
  have h4 : i ≤ (xs.length : Int) := h4
  have h5 : xs.length ≤ KS := h5
  have h6 : (out.length : Int) ≤ i + (bif z then 1 else 0) := h6
  unfold KS at h5
  have h7 : out.length ≤ 1000002 := by cases z <;> simp only [cond_true, cond_false] at h6 <;> omega
  show pt_side xs () t out z i
  unfold pt_side
  simp only [bytesT, decide_eq_true_eq, decide_eq_false_iff_not]
  have ha := okT xs
  clear hi h6
  unfold maxLen
  repeat' (first | exact ha | exact rfl | apply And.intro | intro _)
  all_goals (first | trivial | omega)
/-- Put in, where it is not yet there. -/
noncomputable def insP (t : T) : List T → List T
  | [] => [t]
  | y :: r => if tcmp_F t y < 0 then t :: y :: r else y :: insP t r
theorem pt_true (t : T) : ∀ (l : List T) (out : List T), l.foldl (pt_f1 t) (out, true) = (out ++ l, true)
  | [], out => by simp
  | y :: r, out => by
    rw [List.foldl_cons]
    have : pt_f1 t (out, true) y = (out ++ [y], true) := rfl
    rw [this, pt_true t r]
    simp
theorem pt_fold (t : T) : ∀ (l : List T) (out : List T), (l.foldl (pt_f1 t) (out, false)).1 ++ (bif (l.foldl (pt_f1 t) (out, false)).2 then [] else [t]) = out ++ insP t l
  | [], out => rfl
  | y :: r, out => by
    rw [List.foldl_cons]
    unfold insP
    by_cases h : tcmp_F t y < 0
    · have : pt_f1 t (out, false) y = (out ++ [t] ++ [y], true) := by unfold pt_f1; simp [h]
      rw [this, pt_true, if_pos h]
      simp
    · have : pt_f1 t (out, false) y = (out ++ [y], false) := by unfold pt_f1; simp [h]
      rw [this, if_neg h, pt_fold t r]
      simp
theorem insP_len (t : T) : ∀ l : List T, (insP t l).length = l.length + 1
  | [] => rfl
  | y :: r => by
    unfold insP
    split
    · rfl
    · simp [insP_len t r]
theorem insP_U (t : T) : ∀ {l : List T}, t ∉ l → insP t l = insU (fun a b => tcmp_F a b) t l
  | [], _ => rfl
  | y :: r, h => by
    have h1 : ¬ y = t := fun e => h (e ▸ List.mem_cons_self ..)
    unfold insP insU
    rw [if_neg h1, insP_U t fun hm => h (List.mem_cons_of_mem _ hm)]
theorem pt_run (xs : List T) (t : T) (h : xs.length ≤ KS) : ∃ out z, loopF pt_RR pt_M (xs, (), t, [], false, 0) = (.exit 0, xs, (), t, out, z, (xs.length : Int)) ∧ out ++ (bif z then [] else [t]) = insP t xs ∧ out.length ≤ xs.length + 1 := by
  have hm : xs.length ≤ maxLen := by unfold KS at h; unfold maxLen; omega
  have hr : loopF pt_RR pt_M (xs, (), t, [], false, 0) = _ := ix_conj_run (φ := pt_f) (ψ := pt_g) (fun _ => rfl) (fun _ => rfl) pt_RF pt_P (xs, t) ((), [], false) rfl hm ⟨h, by show ((0 : Nat) : Int) ≤ 0 + 0; omega⟩
  have hf : ∀ (l : List T) (b : pt_GB), l.foldl (fun (b : pt_GB) v => ((), (pt_f1 t b.2 v).1, (pt_f1 t b.2 v).2)) b = ((), l.foldl (pt_f1 t) b.2) := by
    intro l
    induction l with
    | nil => intro b; rfl
    | cons a l ih => intro b; rw [List.foldl_cons, ih]; rfl
  have hs := scan_fold (x := 0) (st := pt_S (xs, t)) (f := fun (b : pt_GB) v => ((), (pt_f1 t b.2 v).1, (pt_f1 t b.2 v).2)) (fun _ _ _ => rfl) xs 0 ((), [], false)
  have hs : scan 0 (pt_S (xs, t)) 0 xs ((), [], false) = _ := hs
  rw [hf] at hs
  refine ⟨(xs.foldl (pt_f1 t) ([], false)).1, (xs.foldl (pt_f1 t) ([], false)).2, ?_, by rw [pt_fold]; rfl, ?_⟩
  · rw [hr]
    show ((scan 0 (pt_S (xs, t)) 0 xs ((), [], false)).1, pt_g ((scan 0 (pt_S (xs, t)) 0 xs ((), [], false)).2.1, (xs, t), (scan 0 (pt_S (xs, t)) 0 xs ((), [], false)).2.2)) = _
    rw [hs, Int.zero_add]
    rfl
  · have := congrArg List.length (pt_fold t xs [])
    rw [List.length_append, List.nil_append, insP_len] at this
    omega
noncomputable def ltJ : LTab Try.prog := ltE.cons 89 4 (pt_C pt_I pt_M) pt_ok
noncomputable abbrev lamJ : Lam := ltJ.lam
theorem lamJ_ok : ∀ f k L, lamJ f k = some L → ∀ b ∈ loopsOf Try.prog f, lkey b = k → LoopOk Try.prog b L.g := ltJ.ok
end Go.Proofs.Ytiipneclghnfhaa

/- Chapter 3: lists of times as texts: the loop's contract. -/
namespace Go.Proofs.Ytiipneclghnfhaa
open Go.RowKit Go.Sx Go.Lp
theorem ttx_sz (t : T) : (ttx_F t).size ≤ 59 := by
  have s0 := dig_sz t.e
  have s1 := dig_sz t.l0
  have s2 := dig_sz t.l1
  have s3 := dig_sz t.l2
  have s4 := dig_sz t.l3
  have e0 : (ByteArray.mk #[]).size ≤ 59 := Nat.zero_le _
  unfold ttx_F
  repeat' (first | exact e0 | exact sz_dflt 59 | (simp only [ByteArray.size_append, dotS]; omega) | omega | apply sz_cond)
noncomputable def tl_S (_ : tl_GC) (b : tl_GB) (i : Int) (v : T) : Ex × tl_GB := (.normal, (bif decide (i > 0) then b ++ ByteArray.mk #[(44 : UInt8)] else b) ++ ttx_F v)
def tl_K (c : tl_GC) (b : tl_GB) (i : Int) : Prop := c.1.length ≤ KS ∧ (ByteArray.size b : Int) ≤ 60 * i + 1
abbrev tl_I (g : tl_G) : List Prop := ixI (fun c : tl_GC => c.2) (fun c => c.1) tl_K (tl_f g)
abbrev tl_M (g : tl_G) : Nat := ixM (fun c : tl_GC => c.2) (tl_f g)
theorem comS : (ByteArray.mk #[(44 : UInt8)]).size = 1 := rfl
theorem com_sz (i : Int) (b : ByteArray) : (bif decide (i > 0) then b ++ ByteArray.mk #[(44 : UInt8)] else b).size ≤ b.size + 1 := sz_cond (by simp only [ByteArray.size_append, comS]; omega) (by omega)
theorem tl_P : ixP tl_S (fun c : tl_GC => c.1) tl_K := by
  rintro ⟨xs, n⟩ b i a ⟨h1, h2⟩ _ _
  refine ⟨h1, ?_⟩
  have h2 : (ByteArray.size b : Int) ≤ 60 * (i : Int) + 1 := h2
  show (((bif decide ((i : Int) > 0) then b ++ ByteArray.mk #[(44 : UInt8)] else b) ++ ttx_F a).size : Int) ≤ 60 * ((i : Int) + 1) + 1
  have h3 := com_sz i b
  have h4 := ttx_sz a
  rw [ByteArray.size_append]
  omega
noncomputable abbrev tl_RR (g : tl_G) : Ex × tl_G := tl_R g.1 g.2.1 g.2.2.1 g.2.2.2
theorem tl_RF (d : Int × tl_GC × tl_GB) (_ : allP (ixI (fun c : tl_GC => c.2) (fun c => c.1) tl_K d)) : tl_RR (tl_g d) = ((ixF 0 (fun c : tl_GC => c.2) (fun c => c.1) eT.dflt tl_S d).1, tl_g (ixF 0 (fun c : tl_GC => c.2) (fun c => c.1) eT.dflt tl_S d).2) := by
  obtain ⟨i, ⟨xs, n⟩, s⟩ := d
  show tl_R xs n i s = _
  unfold tl_R ixF tl_S
  simp only [eT.lst_els]
  cases decide (i < n) with
  | false => rfl
  | true => rfl
theorem tl_ok : ∀ b ∈ loopsOf Try.prog 57, lkey b = 3 → LoopOk Try.prog b (tl_C tl_I tl_M).g := by
  refine tl_loop tl_I tl_M (fun g hi => ?_) (ix_conj_goes (fun _ => rfl) (fun _ => rfl) tl_RF tl_P)
  obtain ⟨xs, n, i, s⟩ := g
  obtain ⟨h1, h2, h3, h4, h5, h6⟩ := hi _ (List.mem_cons_self ..)
  have h1 : n = (xs.length : Int) := h1
  have h3 : 0 ≤ i := h3
  have h4 : i ≤ (xs.length : Int) := h4
  have h5 : xs.length ≤ KS := h5
  have h6 : (ByteArray.size s : Int) ≤ 60 * i + 1 := h6
  unfold KS at h5
  have ha := okT xs
  have k1 := com_sz i s
  have k2 := ttx_sz (xs.getD i.toNat eT.dflt)
  clear hi
  show tl_side xs n i s
  unfold tl_side
  simp only [decide_eq_true_eq, decide_eq_false_iff_not]
  exact ⟨fun hc => ⟨⟨h3, by omega⟩, fun _ => by omega, by omega, ha⟩, fun _ => ha⟩
/-- The text of times. -/
noncomputable def txC (xs : List T) : ByteArray := (scan 0 (tl_S (xs, (xs.length : Int))) 0 xs (ByteArray.mk #[(123 : UInt8)])).2.2 ++ ByteArray.mk #[(125 : UInt8)]
theorem tl_run (xs : List T) (h : xs.length ≤ KS) : ∃ i, loopF tl_RR tl_M (xs, (xs.length : Int), 0, ByteArray.mk #[(123 : UInt8)]) = (.exit 0, xs, (xs.length : Int), i, (scan 0 (tl_S (xs, (xs.length : Int))) 0 xs (ByteArray.mk #[(123 : UInt8)])).2.2) := by
  have hm : xs.length ≤ maxLen := by unfold KS at h; unfold maxLen; omega
  have h1 : loopF tl_RR tl_M (xs, (xs.length : Int), 0, ByteArray.mk #[(123 : UInt8)]) = _ := ix_conj_run (φ := tl_f) (ψ := tl_g) (fun _ => rfl) (fun _ => rfl) tl_RF tl_P (xs, (xs.length : Int)) (ByteArray.mk #[(123 : UInt8)]) rfl hm ⟨h, by show (1 : Int) ≤ 60 * 0 + 1; omega⟩
  have hs : ∀ (l : List T) (i : Int) (b : ByteArray), (scan 0 (tl_S (xs, (xs.length : Int))) i l b).1 = .exit 0 := by
    intro l
    induction l with
    | nil => intro i b; rfl
    | cons a l ih => intro i b; exact ih _ _
  refine ⟨(scan 0 (tl_S (xs, (xs.length : Int))) 0 xs (ByteArray.mk #[(123 : UInt8)])).2.1, h1.trans ?_⟩
  show ((scan 0 (tl_S (xs, (xs.length : Int))) 0 xs (ByteArray.mk #[(123 : UInt8)])).1, _) = _
  rw [hs]
  rfl
theorem scan_sz (c : tl_GC) : ∀ (l : List T) (i : Int) (b : ByteArray), (scan 0 (tl_S c) i l b).2.2.size ≤ b.size + 60 * l.length
  | [], _, _ => Nat.le_refl _
  | a :: l, i, b => by
    have h := scan_sz c l (i + 1) (tl_S c b i a).2
    have h3 := com_sz i b
    have h4 := ttx_sz a
    have h5 : (tl_S c b i a).2.size ≤ b.size + 60 := by
      show ((bif decide (i > 0) then b ++ ByteArray.mk #[(44 : UInt8)] else b) ++ ttx_F a).size ≤ _
      rw [ByteArray.size_append]
      omega
    have h6 : (scan 0 (tl_S c) i (a :: l) b).2.2 = (scan 0 (tl_S c) (i + 1) l (tl_S c b i a).2).2.2 := rfl
    rw [h6, List.length_cons]
    omega
noncomputable def ltT : LTab Try.prog := LTab.nil.cons 57 3 (tl_C tl_I tl_M) tl_ok
noncomputable abbrev lamT : Lam := ltT.lam
theorem lamT_ok : ∀ f k L, lamT f k = some L → ∀ b ∈ loopsOf Try.prog f, lkey b = k → LoopOk Try.prog b L.g := ltT.ok
end Go.Proofs.Ytiipneclghnfhaa

/- Chapter 3: lists of times as texts. Printed by treegen.py. -/
namespace Go.Proofs.Ytiipneclghnfhaa
open Go.RowKit Go.Sx
set_option maxRecDepth 100000
set_option linter.unusedVariables false
noncomputable def txt_q1 (xs : List T) : Ex ×
  tl_G :=
  loopF (fun g => tl_R g.fst g.snd.fst g.snd.snd.fst g.snd.snd.snd) tl_M (eT.lst xs.length (eT.els xs), (↑xs.length : Int), (0 : Int), ByteArray.mk #[(123 : UInt8)])
noncomputable def txt_F (xs : List T) : Dv.T dStr :=
  (txt_q1 xs).snd.snd.snd.snd ++ ByteArray.mk #[(125 : UInt8)]
def txt_side (xs : List T) : Prop :=
  (∀ (e : Nat), e < xs.length → eT.Ok (eT.els xs e)) ∧ Lp.ixJ (fun c => c.snd) (fun c => c.fst) tl_K (tl_f (eT.lst xs.length (eT.els xs), (↑xs.length : Int), (0 : Int), ByteArray.mk #[(123 : UInt8)])) ∧ (txt_q1 xs).snd.snd.snd.snd.size + (1 : Nat) ≤ (9223372036854775807 : Nat)
theorem txt_okS (pre : DA.T aL → List Prop) (h : ∀ g, DA.bd aL g → (∀ p ∈ pre g, p) → txt_side g) : FnPure Try.prog 57 aL dStr (fun g => txt_F g) pre := pure_of_sideS (Γ := (PTab.gamz tabD5 [] [])) (Λ := lamT) (PTab.okz tabD5 [] []) lamT_ok 100 default (fun g => txt_side g) (fun g => by kernel_rfl) (fun g => by kernel_rfl) h
noncomputable def tabXD8 : PTab Try.prog := tabD5
end Go.Proofs.Ytiipneclghnfhaa

/- Chapter 3: is it an antichain. Printed by treegen.py. -/
namespace Go.Proofs.Ytiipneclghnfhaa
open Go.RowKit Go.Sx
set_option maxRecDepth 100000
set_option linter.unusedVariables false
noncomputable def chk_q1 (xs : List T) : Ex ×
  ck1_G :=
  loopF (fun g => ck1_R g.fst g.snd.fst g.snd.snd.fst g.snd.snd.snd.fst g.snd.snd.snd.snd) ck1_M (eT.lst xs.length (eT.els xs), eT.lst xs.length (eT.els xs), (↑xs.length : Int), (0 : Int), (0 : Int))
noncomputable def chk_F (xs : List T) : Dv.T dI :=
  bif decide ((↑xs.length : Int) > (1024 : Int)) then (3 : Int)
  else bif badC (eT.lst xs.length (eT.els xs)) != (0 : Int) then badC (eT.lst xs.length (eT.els xs)) else bif exB Ex.ret (chk_q1 xs).fst then (chk_q1 xs).snd.snd.snd.snd.snd else (0 : Int)
def chk_side (xs : List T) : Prop :=
  decide ((↑xs.length : Int) > (1024 : Int)) = false → (∀ (e : Nat), e < xs.length → eT.Ok (eT.els xs e)) ∧ ((badC (eT.lst xs.length (eT.els xs)) != (0 : Int)) = false → (∀ (e : Nat), e < xs.length → eT.Ok (eT.els xs e)) ∧ (∀ (e : Nat), e < xs.length → eT.Ok (eT.els xs e)) ∧ Lp.ixJ (fun c => c.snd.snd) (fun c => c.snd.fst) ck1_K (ck1_f (eT.lst xs.length (eT.els xs), eT.lst xs.length (eT.els xs), (↑xs.length : Int), (0 : Int), (0 : Int))))
theorem chk_okS (pre : DA.T aL → List Prop) (h : ∀ g, DA.bd aL g → (∀ p ∈ pre g, p) → chk_side g) : FnPure Try.prog 21 aL dI (fun g => chk_F g) pre := pure_of_sideS (Γ := (PTab.gamz tabO [] [])) (Λ := lamE) (PTab.okz tabO [] []) lamE_ok 100 default (fun g => chk_side g) (fun g => by kernel_rfl) (fun g => by kernel_rfl) h
noncomputable def tabX16 : PTab Try.prog := tabO
end Go.Proofs.Ytiipneclghnfhaa

/- Chapter 3: is it an antichain: the contract. -/
namespace Go.Proofs.Ytiipneclghnfhaa
open Go.RowKit Go.Sx Go.Lp
noncomputable def chkC (xs : List T) : Int := bif decide ((xs.length : Int) > 1024) then 3 else bif badC xs != 0 then badC xs else bif clashes xs then 30 else 0
theorem chk_eq (xs : List T) (h : xs.length ≤ maxLen) : chk_F xs = chkC xs ∧ chk_side xs := by
  unfold chk_F chk_side chk_q1 chkC
  simp only [eT.lst_els]
  have hr := ck1_run xs h 0
  refine ⟨?_, fun _ => ⟨okT xs, fun _ => ⟨okT xs, okT xs, ixJ0 rfl h rfl⟩⟩⟩
  have h1 : (loopF (fun g : ck1_G => ck1_R g.1 g.2.1 g.2.2.1 g.2.2.2.1 g.2.2.2.2) ck1_M (xs, xs, (xs.length : Int), 0, 0)).1 = _ := hr.1
  have h2 : (loopF (fun g : ck1_G => ck1_R g.1 g.2.1 g.2.2.1 g.2.2.2.1 g.2.2.2.2) ck1_M (xs, xs, (xs.length : Int), 0, 0)).2.2.2.2.2 = _ := hr.2
  rw [h1, h2]
  cases clashes xs <;> rfl
theorem chk_ok : FnPure Try.prog 21 aL dI chkC (fun _ => []) :=
  pure_congr (chk_okS (fun _ => []) fun g hb _ => (chk_eq g hb.1).2) fun g hb _ => (chk_eq g hb.1).1
noncomputable def tabP : PTab Try.prog := tabO.cons 21 (pconP aL dI chkC (fun _ => [])) (conP_ok chk_ok puI)
end Go.Proofs.Ytiipneclghnfhaa

/- Chapter 3: SortFunc at times. -/
namespace Go.Proofs.Ytiipneclghnfhaa
open Go.RowKit Go.Sx Go.Lp Go.Shelf
def sortT_ren : Go.Shelf.Ren := ⟨fun | 6 => 70 | 15 => 115 | 14 => 114 | 28 => 143 | 29 => 144 | 20 => 135 | 21 => 136 | 22 => 137 | 23 => 138 | 24 => 139 | 25 => 140 | 26 => 141 | 27 => 142 | 46 => 157 | 47 => 158 | 48 => 159 | 49 => 160 | 50 => 161 | 57 => 165 | n => n, fun | 22 => 22 | 24 => 30 | 25 => 83 | 3 => 3 | 39 => 117 | 0 => 0 | 53 => 147 | 55 => 149 | 4 => 4 | 46 => 140 | 45 => 139 | 50 => 144 | 5 => 5 | 9 => 9 | 66 => 160 | 70 => 164 | 76 => 168 | 77 => 169 | n => n, fun  | n => n⟩
theorem sortT : SlLaysF0.n6 Try.prog sortT_ren := {
  mixed := by kernel_rfl,
  f6 := ⟨Try.f70.name, by decide, Try.func70.trans (congrArg some (by kernel_rfl))⟩,
  f14 := ⟨Try.f114.name, by decide, Try.func114.trans (congrArg some (by kernel_rfl))⟩,
  f15 := Try.func115.trans (congrArg some (by kernel_rfl)),
  f20 := ⟨Try.f135.name, by decide, Try.func135.trans (congrArg some (by kernel_rfl))⟩,
  f21 := ⟨Try.f136.name, by decide, Try.func136.trans (congrArg some (by kernel_rfl))⟩,
  f22 := ⟨Try.f137.name, by decide, Try.func137.trans (congrArg some (by kernel_rfl))⟩,
  f23 := ⟨Try.f138.name, by decide, Try.func138.trans (congrArg some (by kernel_rfl))⟩,
  f24 := ⟨Try.f139.name, by decide, Try.func139.trans (congrArg some (by kernel_rfl))⟩,
  f25 := ⟨Try.f140.name, by decide, Try.func140.trans (congrArg some (by kernel_rfl))⟩,
  f26 := ⟨Try.f141.name, by decide, Try.func141.trans (congrArg some (by kernel_rfl))⟩,
  f27 := ⟨Try.f142.name, by decide, Try.func142.trans (congrArg some (by kernel_rfl))⟩,
  f28 := Try.func143.trans (congrArg some (by kernel_rfl)),
  f29 := Try.func144.trans (congrArg some (by kernel_rfl)),
  f46 := ⟨Try.f157.name, by decide, Try.func157.trans (congrArg some (by kernel_rfl))⟩,
  f47 := Try.func158.trans (congrArg some (by kernel_rfl)),
  f48 := Try.func159.trans (congrArg some (by kernel_rfl)),
  f49 := ⟨Try.f160.name, by decide, Try.func160.trans (congrArg some (by kernel_rfl))⟩,
  f50 := ⟨Try.f161.name, by decide, Try.func161.trans (congrArg some (by kernel_rfl))⟩,
  f57 := ⟨Try.f165.name, by decide, Try.func165.trans (congrArg some (by kernel_rfl))⟩,
  t0 := Try.underlying0,
  a0 := Try.isAgg0,
  z0 := Try.sizeOf0,
  v0 := Try.zeroValue0,
  t3 := Try.underlying3,
  a3 := Try.isAgg3,
  z3 := Try.sizeOf3,
  v3 := Try.zeroValue3,
  t4 := Try.underlying4,
  a4 := Try.isAgg4,
  z4 := Try.sizeOf4,
  v4 := Try.zeroValue4,
  t5 := Try.underlying5,
  a5 := Try.isAgg5,
  z5 := Try.sizeOf5,
  v5 := Try.zeroValue5,
  t9 := Try.underlying9,
  a9 := Try.isAgg9,
  z9 := Try.sizeOf9,
  v9 := Try.zeroValue9,
  t22 := Try.underlying22,
  a22 := Try.isAgg22,
  z22 := Try.sizeOf22,
  v22 := Try.zeroValue22,
  t25 := Try.underlying83,
  a25 := Try.isAgg83,
  z25 := Try.sizeOf83,
  v25 := Try.zeroValue83,
  t39 := Try.underlying117,
  a39 := Try.isAgg117,
  z39 := Try.sizeOf117,
  v39 := Try.zeroValue117,
  t45 := Try.underlying139,
  a45 := Try.isAgg139,
  z45 := Try.sizeOf139,
  v45 := Try.zeroValue139,
  t46 := Try.underlying140,
  a46 := Try.isAgg140,
  z46 := Try.sizeOf140,
  v46 := Try.zeroValue140,
  t50 := Try.underlying144,
  a50 := Try.isAgg144,
  z50 := Try.sizeOf144,
  v50 := Try.zeroValue144,
  t53 := Try.underlying147,
  a53 := Try.isAgg147,
  z53 := Try.sizeOf147,
  v53 := Try.zeroValue147,
  t55 := Try.underlying149,
  a55 := Try.isAgg149,
  z55 := Try.sizeOf149,
  v55 := Try.zeroValue149,
  t66 := Try.underlying160,
  a66 := Try.isAgg160,
  z66 := Try.sizeOf160,
  v66 := Try.zeroValue160,
  t70 := Try.underlying164,
  a70 := Try.isAgg164,
  z70 := Try.sizeOf164,
  v70 := Try.zeroValue164,
  t76 := Try.underlying168,
  a76 := Try.isAgg168,
  z76 := Try.sizeOf168,
  v76 := Try.zeroValue168,
  t77 := Try.underlying169,
  a77 := Try.isAgg169,
  z77 := Try.sizeOf169,
  v77 := Try.zeroValue169 }
abbrev dUn0 : Dv Unit := .tup .none
abbrev aFn71 : DA Unit := .one (dFn 71)
def preSort (xs : List T) (_ : Unit) : List Prop := [xs.length < 4611686018427387904]
theorem sortF_ok : FnMut Try.prog 70 30 eT aFn71 (.pure dUn0) (fun xs _ => (srtBy (fun a b => tcmp_F a b) xs, ())) preSort := by
  have h := sort_mut (P := Try.prog) (A := eT) (t := 30) (g := 71) (cf := fun a b => tcmp_F a b) (pre := fun _ => []) sortT Try.isAgg30 Try.sizeOf30 (by decide) (Go.Proofs.enters_of Try.func71 (by kernel_rfl) rfl) toT.swo tcmp_ok
  intro w F L xs g v0 vs h1 h2 h3 h4 h5 h6
  refine h w F L xs g v0 vs h1 h2 h3 (fun p hp => ?_) h5 h6
  simp only [List.mem_cons, List.not_mem_nil, or_false] at hp
  rcases hp with rfl | rfl | rfl
  · exact h4 _ (List.mem_cons_self ..)
  · exact fun x _ y _ k1 k2 => toT.anti x y k1 k2
  · exact fun x _ y _ p hp => by cases hp
end Go.Proofs.Ytiipneclghnfhaa
