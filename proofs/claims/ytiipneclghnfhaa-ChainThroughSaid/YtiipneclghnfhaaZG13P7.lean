/- Chapter 3: behind paths. Printed by treegen.py. -/
import Derived.Test.YtiipneclghnfhaaZG12cb854b
import Derived.Test.YtiipneclghnfhaaZG06d77431
import Derived.ProofKit
import Derived.OpenShut
import Derived.ShutString
import Derived.ChangeOld
import Derived.Below
import Derived.Deep.Slices
import Derived.Test.YtiipneclghnfhaaZG07b78856
import Derived.Test.YtiipneclghnfhaaZG1008ad3f
set_option linter.unusedVariables false
set_option linter.unusedSimpArgs false
set_option linter.constructorNameAsVariable false
set_option linter.all false

namespace Go.Proofs.Ytiipneclghnfhaa
open Go.RowKit Go.Sx
set_option maxRecDepth 100000
set_option linter.unusedVariables false
abbrev aLTS : DA (List T × List S) := .cons dLT (.one dLS)
noncomputable def cth_q1 (xs : List T) (ss : List S) : Ex ×
  tO_G :=
  loopF (fun g => tO_R g.fst g.snd.fst g.snd.snd.fst g.snd.snd.snd.fst g.snd.snd.snd.snd.fst g.snd.snd.snd.snd.snd.fst g.snd.snd.snd.snd.snd.snd) tO_M (eS.lst ss.length (eS.els ss), (↑ss.length : Int), (0 : Int), eT.lst xs.length (eT.els xs), [], (), (0 : Int))
noncomputable def cth_F (xs : List T) (ss : List S) : Dv.T dLE :=
  bif chkC (eT.lst xs.length (eT.els xs)) != (0 : Int) then ([], chkC (eT.lst xs.length (eT.els xs)))
  else bif exB Ex.ret (cth_q1 xs ss).fst then ([], (cth_q1 xs ss).snd.snd.snd.snd.snd.snd.snd) else (eT.lst (ofC (eT.lst (cth_q1 xs ss).snd.snd.snd.snd.snd.fst.length (eT.els (cth_q1 xs ss).snd.snd.snd.snd.snd.fst))).fst.length (eT.els (ofC (eT.lst (cth_q1 xs ss).snd.snd.snd.snd.snd.fst.length (eT.els (cth_q1 xs ss).snd.snd.snd.snd.snd.fst))).fst), (ofC (eT.lst (cth_q1 xs ss).snd.snd.snd.snd.snd.fst.length (eT.els (cth_q1 xs ss).snd.snd.snd.snd.snd.fst))).snd)
def cth_side (xs : List T) (ss : List S) : Prop :=
  (∀ (e : Nat), e < xs.length → eT.Ok (eT.els xs e)) ∧ ((chkC (eT.lst xs.length (eT.els xs)) != (0 : Int)) = false → (∀ (e : Nat), e < ss.length → eS.Ok (eS.els ss e)) ∧ (∀ (e : Nat), e < xs.length → eT.Ok (eT.els xs e)) ∧ Lp.ixJ (fun c => c.snd.fst) (fun c => c.fst) tO_K (tO_f (eS.lst ss.length (eS.els ss), (↑ss.length : Int), (0 : Int), eT.lst xs.length (eT.els xs), [], (), (0 : Int))) ∧ (exB Ex.ret (cth_q1 xs ss).fst = false → (cth_q1 xs ss).snd.snd.snd.snd.snd.fst.length ≤ (cth_q1 xs ss).snd.snd.snd.snd.snd.fst.length ∧ (∀ (e : Nat), e < (cth_q1 xs ss).snd.snd.snd.snd.snd.fst.length → True) ∧ (eT.lst (cth_q1 xs ss).snd.snd.snd.snd.snd.fst.length (eT.els (cth_q1 xs ss).snd.snd.snd.snd.snd.fst)).length ≤ KS ∧ ∀ (e : Nat), e < (ofC (eT.lst (cth_q1 xs ss).snd.snd.snd.snd.snd.fst.length (eT.els (cth_q1 xs ss).snd.snd.snd.snd.snd.fst))).fst.length → eT.Ok (eT.els (ofC (eT.lst (cth_q1 xs ss).snd.snd.snd.snd.snd.fst.length (eT.els (cth_q1 xs ss).snd.snd.snd.snd.snd.fst))).fst e)))
theorem cth_okS (pre : DA.T aLTS → List Prop) (h : ∀ g, DA.bd aLTS g → (∀ p ∈ pre g, p) → cth_side g.1 g.2) : FnPure Try.prog 35 aLTS dLE (fun g => cth_F g.1 g.2) pre := pure_of_sideS (Γ := (MTab.gamz tabC [] [])) (Λ := lamH2) (MTab.okz tabC [] []) lamH2_ok 100 default (fun g => cth_side g.1 g.2) (fun g => by kernel_rfl) (fun g => by kernel_rfl) h
noncomputable def rth_q1 (xs : List T) (ss : List S) : Ex ×
  rO_G :=
  loopF (fun g => rO_R g.fst g.snd.fst g.snd.snd.fst g.snd.snd.snd.fst g.snd.snd.snd.snd.fst g.snd.snd.snd.snd.snd) rO_M (eT.lst xs.length (eT.els xs), eS.lst ss.length (eS.els ss), (0 : Int), [], (), (0 : Int))
noncomputable def rth_F (xs : List T) (ss : List S) : Dv.T dLE :=
  bif chkC (eT.lst xs.length (eT.els xs)) != (0 : Int) then ([], chkC (eT.lst xs.length (eT.els xs)))
  else bif exB Ex.ret (rth_q1 xs ss).fst then ([], (rth_q1 xs ss).snd.snd.snd.snd.snd.snd) else (eT.lst (ofC (eT.lst (rth_q1 xs ss).snd.snd.snd.snd.fst.length (eT.els (rth_q1 xs ss).snd.snd.snd.snd.fst))).fst.length (eT.els (ofC (eT.lst (rth_q1 xs ss).snd.snd.snd.snd.fst.length (eT.els (rth_q1 xs ss).snd.snd.snd.snd.fst))).fst), (ofC (eT.lst (rth_q1 xs ss).snd.snd.snd.snd.fst.length (eT.els (rth_q1 xs ss).snd.snd.snd.snd.fst))).snd)
def rth_side (xs : List T) (ss : List S) : Prop :=
  (∀ (e : Nat), e < xs.length → eT.Ok (eT.els xs e)) ∧ ((chkC (eT.lst xs.length (eT.els xs)) != (0 : Int)) = false → (∀ (e : Nat), e < xs.length → eT.Ok (eT.els xs e)) ∧ (∀ (e : Nat), e < ss.length → eS.Ok (eS.els ss e)) ∧ Lp.ixJ (fun c => (↑c.fst.length : Int)) (fun c => c.fst) rO_K (rO_f (eT.lst xs.length (eT.els xs), eS.lst ss.length (eS.els ss), (0 : Int), [], (), (0 : Int))) ∧ (exB Ex.ret (rth_q1 xs ss).fst = false → (rth_q1 xs ss).snd.snd.snd.snd.fst.length ≤ (rth_q1 xs ss).snd.snd.snd.snd.fst.length ∧ (∀ (e : Nat), e < (rth_q1 xs ss).snd.snd.snd.snd.fst.length → True) ∧ (eT.lst (rth_q1 xs ss).snd.snd.snd.snd.fst.length (eT.els (rth_q1 xs ss).snd.snd.snd.snd.fst)).length ≤ KS ∧ ∀ (e : Nat), e < (ofC (eT.lst (rth_q1 xs ss).snd.snd.snd.snd.fst.length (eT.els (rth_q1 xs ss).snd.snd.snd.snd.fst))).fst.length → eT.Ok (eT.els (ofC (eT.lst (rth_q1 xs ss).snd.snd.snd.snd.fst.length (eT.els (rth_q1 xs ss).snd.snd.snd.snd.fst))).fst e)))
theorem rth_okS (pre : DA.T aLTS → List Prop) (h : ∀ g, DA.bd aLTS g → (∀ p ∈ pre g, p) → rth_side g.1 g.2) : FnPure Try.prog 36 aLTS dLE (fun g => rth_F g.1 g.2) pre := pure_of_sideS (Γ := (MTab.gamz tabC [] [])) (Λ := lamH2) (MTab.okz tabC [] []) lamH2_ok 100 default (fun g => rth_side g.1 g.2) (fun g => by kernel_rfl) (fun g => by kernel_rfl) h
noncomputable def tabXF13 : MTab Try.prog := tabC
end Go.Proofs.Ytiipneclghnfhaa

/- Chapter 3: behind paths: both contracts. -/
namespace Go.Proofs.Ytiipneclghnfhaa
open Go.RowKit Go.Sx Go.Lp
theorem thO_len (l : List T) (h : l.length ≤ 1000) : ∀ (ss : List S) (all : List T), (thO l ss all).1.length ≤ all.length + 1000 * ss.length
  | [], all => by simp [thO]
  | x :: r, all => by
    unfold thO
    have h1 := thI_len x l all
    cases (thI x l all).2 != 0
    · have := thO_len l h r (thI x l all).1
      simp only [cond_false, List.length_cons]
      omega
    · simp only [cond_true, List.length_cons]
      omega
noncomputable def thrC (xs : List T) (ss : List S) : List T × Int := bif chkC xs != 0 then ([], chkC xs) else bif (thO xs ss []).2 != 0 then ([], (thO xs ss []).2) else ofC (thO xs ss []).1
theorem ex_ret (c : Bool) : exB Ex.ret (bif c then Ex.ret else Ex.exit 0) = c := by cases c <;> rfl
theorem cth_eq (xs : List T) (ss : List S) (k1 : xs.length ≤ 1000) (k2 : ss.length ≤ 1000) : cth_F xs ss = thrC xs ss ∧ cth_side xs ss := by
  obtain ⟨j, h1⟩ := tO_run ss xs k1 k2
  have hq : cth_q1 xs ss = (bif (thO xs ss []).2 != 0 then .ret else .exit 0, ss, (ss.length : Int), j, xs, (thO xs ss []).1, (), (thO xs ss []).2) := by
    unfold cth_q1
    simp only [eT.lst_els, eS.lst_els]
    exact h1
  have hk : (thO xs ss []).1.length ≤ KS := by
    have := thO_len xs k1 ss []
    unfold KS
    simp only [List.length_nil] at this
    omega
  unfold cth_F cth_side thrC
  rw [hq]
  simp only [eT.lst_els, eS.lst_els, ex_ret]
  have ha := okT xs
  have hs := okS ss
  have ho := okT (ofC (thO xs ss []).1).1
  have hx := ixJ0 (lim := fun c : tO_GC => c.2.1) (xs := fun c : tO_GC => c.1) (P := tO_K) (c := (ss, (ss.length : Int), xs)) (b := ([], (), 0)) rfl (by unfold maxLen; show ss.length ≤ _; omega) ⟨k1, k2, by show (0 : Int) ≤ 1000 * 0; omega, rfl⟩
  refine ⟨trivial, ?_⟩
  repeat' (first | exact ha | exact hs | exact hx | exact hk | exact ho | exact rfl | exact Nat.le_refl _ | apply And.intro | intro _)
  all_goals (first | trivial | omega)
theorem rth_eq (xs : List T) (ss : List S) (k1 : xs.length ≤ 1000) (k2 : ss.length ≤ 1000) : rth_F xs ss = thrC xs ss ∧ rth_side xs ss := by
  obtain ⟨j, h1⟩ := rO_run ss xs k1 k2
  have hq : rth_q1 xs ss = (bif (thO xs ss []).2 != 0 then .ret else .exit 0, xs, ss, j, (thO xs ss []).1, (), (thO xs ss []).2) := by
    unfold rth_q1
    simp only [eT.lst_els, eS.lst_els]
    exact h1
  have hk : (thO xs ss []).1.length ≤ KS := by
    have := thO_len xs k1 ss []
    unfold KS
    simp only [List.length_nil] at this
    omega
  unfold rth_F rth_side thrC
  rw [hq]
  simp only [eT.lst_els, eS.lst_els, ex_ret]
  have ha := okT xs
  have hs := okS ss
  have ho := okT (ofC (thO xs ss []).1).1
  have hx := ixJ0 (lim := fun c : rO_GC => (c.1.length : Int)) (xs := fun c : rO_GC => c.1) (P := rO_K) (c := (ss, xs)) (b := ([], (), 0)) rfl (by unfold maxLen; show ss.length ≤ _; omega) ⟨k1, k2, by show (0 : Int) ≤ 1000 * 0; omega, rfl⟩
  refine ⟨trivial, ?_⟩
  repeat' (first | exact ha | exact hs | exact hx | exact hk | exact ho | exact rfl | exact Nat.le_refl _ | apply And.intro | intro _)
  all_goals (first | trivial | omega)
abbrev preTh (g : List T × List S) : List Prop := [g.1.length ≤ 1000, g.2.length ≤ 1000]
theorem cth_ok : FnPure Try.prog 35 aLTS dLE (fun g => thrC g.1 g.2) preTh :=
  pure_congr (cth_okS _ fun g _ hp => (cth_eq g.1 g.2 (hp _ (List.mem_cons_self ..)) (hp _ (List.mem_cons_of_mem _ (List.mem_cons_self ..)))).2) fun g _ hp => (cth_eq g.1 g.2 (hp _ (List.mem_cons_self ..)) (hp _ (List.mem_cons_of_mem _ (List.mem_cons_self ..)))).1
theorem rth_ok : FnPure Try.prog 36 aLTS dLE (fun g => thrC g.1 g.2) preTh :=
  pure_congr (rth_okS _ fun g _ hp => (rth_eq g.1 g.2 (hp _ (List.mem_cons_self ..)) (hp _ (List.mem_cons_of_mem _ (List.mem_cons_self ..)))).2) fun g _ hp => (rth_eq g.1 g.2 (hp _ (List.mem_cons_self ..)) (hp _ (List.mem_cons_of_mem _ (List.mem_cons_self ..)))).1
noncomputable def tabTh : MTab Try.prog := (tabC.cons 35 (pconR aLTS dLE (fun g => thrC g.1 g.2) preTh) (conR_ok cth_ok)).cons 36 (pconR aLTS dLE (fun g => thrC g.1 g.2) preTh) (conR_ok rth_ok)
end Go.Proofs.Ytiipneclghnfhaa

/- Chapter 3: the law ChainThrough. Printed by treegen.py. -/
namespace Go.Proofs.Ytiipneclghnfhaa
open Go.RowKit Go.Sx
set_option maxRecDepth 100000
set_option linter.unusedVariables false
noncomputable def thl_F (xs : List T) (ss : List S) : Dv.T dBool :=
  bif decide ((↑xs.length : Int) > (40 : Int)) then true
  else bif decide ((↑ss.length : Int) > (20 : Int)) then true else decide (eT.lst (thrC (eT.lst xs.length (eT.els xs)) (eS.lst ss.length (eS.els ss))).fst.length (eT.els (thrC (eT.lst xs.length (eT.els xs)) (eS.lst ss.length (eS.els ss))).fst) = eT.lst (thrC (eT.lst xs.length (eT.els xs)) (eS.lst ss.length (eS.els ss))).fst.length (eT.els (thrC (eT.lst xs.length (eT.els xs)) (eS.lst ss.length (eS.els ss))).fst)) && (thrC (eT.lst xs.length (eT.els xs)) (eS.lst ss.length (eS.els ss))).snd == (thrC (eT.lst xs.length (eT.els xs)) (eS.lst ss.length (eS.els ss))).snd
def thl_side (xs : List T) (ss : List S) : Prop :=
  (!true) = false → decide ((↑xs.length : Int) > (40 : Int)) = false → decide ((↑ss.length : Int) > (20 : Int)) = false → (∀ (e : Nat), e < xs.length → eT.Ok (eT.els xs e)) ∧ (∀ (e : Nat), e < ss.length → eS.Ok (eS.els ss e)) ∧ (eT.lst xs.length (eT.els xs)).length ≤ (1000 : Nat) ∧ (eS.lst ss.length (eS.els ss)).length ≤ (1000 : Nat) ∧ (∀ (e : Nat), e < xs.length → eT.Ok (eT.els xs e)) ∧ (∀ (e : Nat), e < ss.length → eS.Ok (eS.els ss e)) ∧ (eT.lst xs.length (eT.els xs)).length ≤ (1000 : Nat) ∧ (eS.lst ss.length (eS.els ss)).length ≤ (1000 : Nat) ∧ (∀ (e : Nat), e < (thrC (eT.lst xs.length (eT.els xs)) (eS.lst ss.length (eS.els ss))).fst.length → eT.Ok (eT.els (thrC (eT.lst xs.length (eT.els xs)) (eS.lst ss.length (eS.els ss))).fst e)) ∧ ∀ (e : Nat), e < (thrC (eT.lst xs.length (eT.els xs)) (eS.lst ss.length (eS.els ss))).fst.length → eT.Ok (eT.els (thrC (eT.lst xs.length (eT.els xs)) (eS.lst ss.length (eS.els ss))).fst e)
theorem thl_okS (pre : DA.T aLTS → List Prop) (h : ∀ g, DA.bd aLTS g → (∀ p ∈ pre g, p) → thl_side g.1 g.2) : FnPure Try.prog 7 aLTS dBool (fun g => thl_F g.1 g.2) pre := pure_of_sideS (Γ := (MTab.gamz tabTh [] [(17, 2, 3)])) (Λ := noΛ) (MTab.okz tabTh [] [(17, 2, 3)]) noΛ_ok 100 default (fun g => thl_side g.1 g.2) (fun g => by kernel_rfl) (fun g => by kernel_rfl) h
noncomputable def tabXF15 : MTab Try.prog := tabTh
end Go.Proofs.Ytiipneclghnfhaa

/- Chapter 3: the law ChainThrough holds. -/
namespace Go.Proofs.Ytiipneclghnfhaa
open Go.RowKit Go.Sx Go.Lp
theorem thl_si (xs : List T) (ss : List S) : thl_side xs ss := by
  have h1 := okT xs
  have h2 := okS ss
  have h3 := okT (thrC xs ss).1
  unfold thl_side
  simp only [eT.lst_els, eS.lst_els]
  intro _ l1 l2
  have l1 : ¬ (xs.length : Int) > 40 := of_decide_eq_false l1
  have l2 : ¬ (ss.length : Int) > 20 := of_decide_eq_false l2
  have k1 : xs.length ≤ 1000 := by omega
  have k2 : ss.length ≤ 1000 := by omega
  repeat' (first | exact h1 | exact h2 | exact h3 | exact k1 | exact k2 | apply And.intro | intro _)
theorem thl_eq (xs : List T) (ss : List S) : thl_F xs ss = true := by
  unfold thl_F
  simp only [eT.lst_els, eS.lst_els, decide_true, beq_self_eq_true, Bool.and_true]
  cases decide ((xs.length : Int) > 40) <;> cases decide ((ss.length : Int) > 20) <;> rfl
theorem thl_ok : FnPure Try.prog 7 aLTS dBool (fun _ => true) (fun _ => []) :=
  pure_congr (thl_okS _ fun g _ _ => thl_si g.1 g.2) fun g _ _ => thl_eq g.1 g.2
end Go.Proofs.Ytiipneclghnfhaa

/- From what a statement reads of its arguments to known values. -/
namespace Go.Sx
open Go.RowKit Go.ChangeShapes Go.WideShapes Go.ChangeAt Go.Deep

theorem add_none (b o n : Nat) : (⟨b, o, none⟩ : Addr).add n = ⟨b, o + n, none⟩ := by
  by_cases h : n = 0
  · subst h; simp [Addr.add]
  · simp [Addr.add, h]
abbrev wh (w : World) : Rh := emp fun b => w.heap[b]?
/-- Cells of that type are plain data. -/
def Rd {α : Type} (P : Program) (t : TypeId) (A : El α) (Q : α → Prop) : Prop :=
  ∀ (H : Type) (enc : TypeId × Value → H) (w : World) (base : Nat) (spare : Nat → Bool) (held : Bool) (fuel : Nat) (cs : List Value) (x : DataW H × List MemPlace),
    DataW.trod enc P w base spare held fuel t cs = some x → ∃ a, Q a ∧ SV.fits 0 (wh w) (A.cells a) cs
section
variable {H : Type} (enc : TypeId × Value → H) (P : Program) (w : World) (base : Nat) (spare : Nat → Bool) (held : Bool) (fuel : Nat)
def Cut : List TypeId → List Value → Prop
  | [], cs => cs = []
  | t :: ts, cs => (∃ x, DataW.trod enc P w base spare held fuel t (cs.take (P.cellsOf t)) = some x) ∧ Cut ts (cs.drop (P.cellsOf t))
def consec : Nat → List (Nat × TypeId) → Nat → Bool
  | o, [], n => Nat.beq o n
  | o, p :: r, n => Nat.beq p.1 o && consec (o + P.cellsOf p.2) r n
theorem cut_of (cs : List Value) : ∀ (fs : List (Nat × TypeId)) (o : Nat), consec P o fs cs.length = true → (∀ p ∈ fs, ∃ x, DataW.trod enc P w base spare held fuel p.2 ((cs.drop p.1).take (P.cellsOf p.2)) = some x) → Cut enc P w base spare held fuel (fs.map (·.2)) (cs.drop o)
  | [], o, hc, _ => by
    have := beq_of hc
    show cs.drop o = []
    exact List.drop_eq_nil_of_le (by omega)
  | p :: r, o, hc, h => by
    simp only [consec, Bool.and_eq_true] at hc
    have h0 := beq_of hc.1
    refine ⟨?_, ?_⟩
    · have := h p (List.mem_cons_self ..)
      rwa [h0] at this
    · have := cut_of cs r (o + P.cellsOf p.2) hc.2 fun q hq => h q (List.mem_cons_of_mem _ hq)
      rwa [List.drop_drop]
end
def Rds {α : Type} (P : Program) (ts : List TypeId) (A : El α) (Q : α → Prop) : Prop :=
  ∀ (H : Type) (enc : TypeId × Value → H) (w : World) (base : Nat) (spare : Nat → Bool) (held : Bool) (fuel : Nat) (cs : List Value),
    Cut enc P w base spare held fuel ts cs → ∃ a, Q a ∧ SV.fits 0 (wh w) (A.cells a) cs
section
variable {P : Program} {t e : TypeId} {α β : Type} {A : El α} {B : El β} {Q : α → Prop} {Q' : β → Prop}
theorem rds_one (h : Rd P t A Q) : Rds P [t] A Q := fun H enc w base spare held fuel cs hc => by
  obtain ⟨⟨x, hx⟩, hd⟩ := hc
  have hd : cs.drop (P.cellsOf t) = [] := hd
  have h2 := List.take_append_drop (P.cellsOf t) cs
  rw [hd, List.append_nil] at h2
  rw [h2] at hx
  exact h H enc w base spare held fuel cs x hx
theorem rds_cons {ts : List TypeId} (h : Rd P t A Q) (h' : Rds P ts B Q') : Rds P (t :: ts) (.pair A B) (fun a => Q a.1 ∧ Q' a.2) := fun H enc w base spare held fuel cs hc => by
  obtain ⟨⟨x, hx⟩, hd⟩ := hc
  obtain ⟨a, qa, fa⟩ := h H enc w base spare held fuel _ x hx
  obtain ⟨b, qb, fb⟩ := h' H enc w base spare held fuel _ hd
  refine ⟨(a, b), ⟨qa, qb⟩, ?_⟩
  have := fits_append fa fb
  rwa [List.take_append_drop] at this
theorem rd_iso (h : Rd P t A Q) (f : α → β) (g : β → α) (hfg : ∀ b, f (g b) = b) (hgf : ∀ a, g (f a) = a) : Rd P t (A.iso f g hfg hgf) (fun b => Q (g b)) := fun H enc w base spare held fuel cs x hx => by
  obtain ⟨a, qa, fa⟩ := h H enc w base spare held fuel cs x hx
  refine ⟨f a, (show Q (g (f a)) by rwa [hgf]), ?_⟩
  show SV.fits 0 _ (A.cells (g (f a))) cs
  rwa [hgf]
theorem rd_int {k : IntKind} (ht : P.underlying t = some (.int k)) : Rd P t (eInt k) (fun n => (Lit.int k n).wf = true) := fun H enc w base spare held fuel cs x hx => by
  obtain ⟨n, rfl, _, hw⟩ := DataW.trod_int ht hx
  exact ⟨n, hw, by simp [eInt, El.one', dInt, SV.fits, SV.fit]⟩
theorem rd_struct {fs : Array Field} {ts : List TypeId} (ht : P.underlying t = some (.struct fs)) (hts : fs.toList.map (·.type) = ts) (hc : consec P 0 (fs.toList.map fun f => (f.offset, f.type)) (P.cellsOf t) = true) (h : Rds P ts A Q) : Rd P t A Q := fun H enc w base spare held fuel cs x hx => by
  obtain ⟨xs, n, rfl, _, hl, hxl, hf⟩ := DataW.trod_struct ht hx
  rw [← hl] at hc
  have := cut_of enc P w base spare held n cs _ 0 hc fun p hp => by
    obtain ⟨f, hfm, rfl⟩ := List.mem_map.1 hp
    obtain ⟨i, hi, rfl⟩ := List.getElem_of_mem hfm
    have hi' : i < fs.size := by simpa using hi
    have := hf i fs[i] (by simp [hi'])
    exact ⟨xs[i]'(by omega), by simpa [hxl, hi'] using this⟩
  rw [List.map_map, List.drop_zero] at this
  refine h H enc w base spare held n cs ?_
  rw [← hts]
  exact this
theorem rd_array {n : Nat} {ts : List TypeId} (ht : P.underlying t = some (.array n e)) (hts : ((List.range n).map fun _ => e) = ts) (hc : consec P 0 ((List.range n).map fun i => (i * P.cellsOf e, e)) (P.cellsOf t) = true) (h : Rds P ts A Q) : Rd P t A Q := fun H enc w base spare held fuel cs x hx => by
  obtain ⟨xs, m, rfl, _, hl, hxl, hf⟩ := DataW.trod_array ht hx
  rw [← hl] at hc
  have := cut_of enc P w base spare held m cs _ 0 hc fun p hp => by
    obtain ⟨i, hi, rfl⟩ := List.mem_map.1 hp
    have hi' : i < n := by simpa using hi
    have := hf i hi'
    exact ⟨xs[i]'(by omega), by rw [this]; simp [hxl, hi']⟩
  rw [List.map_map, List.drop_zero] at this
  refine h H enc w base spare held m cs ?_
  rw [← hts]
  exact this
end
/-- An argument is plain data. -/
def RdV {α : Type} (P : Program) (t : TypeId) (D : Dv α) (Q : α → Prop) : Prop :=
  ∀ (H : Type) (enc : TypeId × Value → H) (w : World) (base : Nat) (spare : Nat → Bool) (held : Bool) (r : Reach) (b0 : Nat) (v : Value) (d : DataW H) (ps : List MemPlace),
    Value.okWide P w r b0 t v → DataW.Trod enc P w base spare held t v d ps → ∃ a, Q a ∧ (D.enc a).fit 0 (wh w) v
section
variable {P : Program} {t e : TypeId} {α β : Type} {A : El α} {Q : α → Prop}
theorem rdv_int {k : IntKind} (ht : P.underlying t = some (.int k)) : RdV P t (dInt k) (fun n => (Lit.int k n).wf = true) := fun H enc w base spare held r b0 v d ps hv hx => by
  obtain ⟨n, rfl, _, _, hw⟩ := open_int ht hv hx
  exact ⟨n, hw, by simp [dInt, SV.fit]⟩
theorem rdv_struct {fs : Array Field} (ht : P.underlying t = some (.struct fs)) (h : Rd P t A Q) : RdV P t (.agg A) Q := fun H enc w base spare held r b0 v d ps hv hx => by
  obtain ⟨cs, rfl, _⟩ := okWide_struct ht hv
  obtain ⟨fuel, hf⟩ := hx
  obtain ⟨a, qa, fa⟩ := h H enc w base spare held fuel _ _ hf
  exact ⟨a, qa, cs.toList, by simp, by simpa [Value.cells] using fa⟩
theorem rdv_slice (ht : P.underlying t = some (.slice e)) (hs : P.cellsOf e = A.sz) (hz : 0 < A.sz) (h : Rd P e A Q) : RdV P t (.list A) (fun xs => ∀ a ∈ xs, Q a) := fun H enc w base spare held r b0 v d ps hv hx => by
  obtain ⟨a0, len0, cap0, rfl⟩ := okWide_slice ht hv
  obtain ⟨fuel, hf⟩ := hx
  rcases open_slice ht hf with ⟨hcs, _⟩ | ⟨a, len, cap, m, n, D, Pl, hcs, hb, hl, hm, hmm, _, hel⟩
  · simp [Value.cells] at hcs
    obtain ⟨rfl, rfl, rfl⟩ := hcs
    exact ⟨[], by simp, rs_nil _ _⟩
  · simp [Value.cells] at hcs
    obtain ⟨rfl, rfl, rfl⟩ := hcs
    have hle : len0 ≤ m := by subst hmm; split <;> omega
    have key : ∀ i, i < len0 → ∃ x : α, Q x ∧ ∃ cs', cs'.length = A.sz ∧ SV.fits 0 (wh w) (A.cells x) cs' ∧ ∀ j, j < A.sz → w.cell? ((a.add (i * A.sz)).add j) = cs'[j]? := fun i hi => by
      obtain ⟨cs', h1, h2⟩ := hel i (by omega)
      obtain ⟨x, qx, fx⟩ := h H enc w base spare held n cs' _ h2
      rw [hs] at h1
      obtain ⟨_, h3, h4⟩ := World.cells?_some h1
      exact ⟨x, qx, cs', h3, fx, h4⟩
    haveI : Inhabited α := ⟨A.dflt⟩
    obtain ⟨f, hf⟩ := choose_lt (α := α) (fun i hi => key i hi)
    refine ⟨(List.range len0).map f, ?_, ?_⟩
    · intro x hx
      obtain ⟨i, hi, rfl⟩ := List.mem_map.1 hx
      exact (hf i (by simpa using hi)).1
    · simp only [Dv.list, SV.fit]
      refine ⟨some a, cap0, by simp, by simpa using hl, hm, fun hpos => ?_⟩
      have hpos : 0 < len0 := by simpa using hpos
      obtain ⟨_, cs0, q1, q2, q3⟩ := hf 0 hpos
      have q4 := q3 0 hz
      obtain ⟨b, o, spot⟩ := a
      have hsome : ∃ v0, cs0[0]? = some v0 := ⟨cs0[0]'(by omega), by simp⟩
      obtain ⟨v0, hv0⟩ := hsome
      rw [hv0] at q4
      have hspot : spot = none := by simpa [Addr.add] using World.cell?_spot q4
      subst hspot
      have hblk : ∃ cs t fz, w.heap[b]? = some (.cells cs t fz) := by
        simp only [add_none, World.cell?] at q4
        split at q4
        · rename_i c _ _ hh
          exact ⟨_, _, _, hh⟩
        · cases q4
      obtain ⟨cs, t', fz, hh⟩ := hblk
      refine ⟨b, o, cs, t', fz, rfl, hh, fun i hi => ?_⟩
      have hi : i < len0 := by simpa using hi
      obtain ⟨_, cs', k1, k2, k3⟩ := hf i hi
      refine ⟨cs', k1, ?_, fun j v hjv => ?_⟩
      · simpa [El.els, List.getD_eq_getElem?_getD, hi] using k2
      · have hj : j < A.sz := by
          have := (List.getElem?_eq_some_iff.1 hjv).1
          omega
        have := k3 j hj
        rw [hjv] at this
        simp only [add_none, World.cell?, hh] at this
        simpa using this
end
end Go.Sx

/- Chapter 3: what the rows read of their arguments. -/
namespace Go.Proofs.Ytiipneclghnfhaa
open Go.RowKit Go.Sx
def W1 (n : Int) : Prop := (Lit.int .i64 n).wf = true
def W4 (a : I4) : Prop := W1 a.1 ∧ W1 a.2.1 ∧ W1 a.2.2.1 ∧ W1 a.2.2.2
def W6 (a : I6) : Prop := W1 a.1 ∧ W1 a.2.1 ∧ W4 a.2.2
def W8 (a : I8) : Prop := W1 a.1 ∧ W1 a.2.1 ∧ W1 a.2.2.1 ∧ W1 a.2.2.2.1 ∧ W4 a.2.2.2.2
def S.W (s : S) : Prop := W8 s.toP
def T.W (t : T) : Prop := W6 t.toP
theorem rd2 : Rd Try.prog 2 eI W1 := rd_int Try.underlying2
theorem rd3 : Rd Try.prog 3 eI W1 := rd_int Try.underlying3
theorem rd28 : Rd Try.prog 28 e4 W4 := rd_array (ts := [2, 2, 2, 2]) Try.underlying28 rfl (by kernel_rfl) (rds_cons rd2 (rds_cons rd2 (rds_cons rd2 (rds_one rd2))))
theorem rd30 : Rd Try.prog 30 eT T.W := rd_iso (Q := W6) (rd_struct (ts := [2, 3, 28]) Try.underlying30 rfl (by kernel_rfl) (rds_cons rd2 (rds_cons rd3 (rds_one rd28)))) _ _ _ _
theorem rdvT : RdV Try.prog 30 dT T.W := rdv_struct Try.underlying30 rd30
theorem rdvLT : RdV Try.prog 22 dLT (fun l => ∀ s ∈ l, T.W s) := rdv_slice Try.underlying22 (by kernel_rfl) (by decide) rd30
end Go.Proofs.Ytiipneclghnfhaa

/- Chapter 3: what the rows read of their arguments: paths. -/
namespace Go.Proofs.Ytiipneclghnfhaa
open Go.RowKit Go.Sx
theorem rd102 : Rd Try.prog 102 eS S.W := rd_iso (Q := W8) (rd_struct (ts := [3, 3, 2, 3, 28]) Try.underlying102 rfl (by kernel_rfl) (rds_cons rd3 (rds_cons rd3 (rds_cons rd2 (rds_cons rd3 (rds_one rd28)))))) _ _ _ _
theorem rdvLS : RdV Try.prog 53 dLS (fun l => ∀ s ∈ l, S.W s) := rdv_slice Try.underlying53 (by kernel_rfl) (by decide) rd102
end Go.Proofs.Ytiipneclghnfhaa

/- The row of ChainThroughSaid, from the law's contract. Printed by rowgen.py. -/
namespace Go.Proofs.Ytiipneclghnfhaa
open Go.ChangeShapes Go.WideShapes Go.ChangeAt Go.RowKit Go.Sx

theorem Try.own : ownKnob Try.prog.godebug = none := by kernel_rfl
theorem Try.laidOut : laidOutB Try.prog = true := by kernel_rfl
set_option maxRecDepth 100000 in
theorem chainThrough_lifted (law : FnPure Try.prog 7 aLTS dBool (fun _ => true) (fun _ => [])) (os : Os) (started : os.Started) (H : Type) (enc : TypeId × Value → H) :
    ReturnsInHanded {} Try.checked os 7 .any (Rows.chainThroughSpec.pre6 enc Try.prog Try.f7 Rows.chainThroughRow.domain false) (Rows.chainThroughSpec.post enc Try.prog Try.f7 false true false false) := by
  refine returnsInHanded_of_change (C := Try.checked) Try.own started (by kernel_rfl) Try.func7
    (ChangeSpec.witness6 (enc := enc) (C := Try.checked) false ⟨#[], #[.slice none 0 0, .slice none 0 0], []⟩ 8 (by kernel_rfl) (by kernel_rfl) (by kernel_rfl) (by kernel_rfl)) ?_
  intro W base args ds gs before hval0 hW hcnd _
  have hval : ∀ (j : Nat) t v, Try.f7.params[j]? = some t → args[j]? = some v → Value.okWide Try.prog W .any base t v := hval0
  have hW' := hW
  obtain ⟨p, q, hA0, hV, rfl, hfz, hnd⟩ := hW
  have hA : DataW.TrodAll enc Try.prog W 0 (fun _ => true) true Try.f7.params.toList args.toList ds p := hA0
  rw [Try.params7] at hA hval
  obtain ⟨v0, vs0, d0, ds0, p0, qq0, hargs, rfl, rfl, h0, r0⟩ := trodAll_cons hA
  obtain ⟨v1, vs1, d1, ds1, p1, qq1, rfl, rfl, rfl, h1, r1⟩ := trodAll_cons r0
  obtain ⟨rfl, rfl, rfl⟩ := trodAll_nil r1
  obtain rfl : args = #[v0, v1] := by cases args; simp_all
  obtain ⟨rfl, rfl⟩ := trodVars_none hV
  obtain ⟨a0, q0, f0⟩ := rdvLT _ _ _ _ _ _ _ _ _ _ _ (hval 0 22 v0 rfl rfl) h0
  obtain ⟨a1, q1, f1⟩ := rdvLS _ _ _ _ _ _ _ _ _ _ _ (hval 1 53 v1 rfl rfl) h1
  have lt : ∀ {t : TypeId} {v : Value} {d : DataW H} {ps : List MemPlace}, DataW.Trod enc Try.prog W 0 (fun _ => true) true t v d ps → ∀ x ∈ ps, x.block < W.heap.size := by
    rintro t v d ps ⟨m, hm⟩
    exact DataW.trod_lt m _ _ _ hm
  clear hA0 hval0
  refine (law W (fun b => W.heap[b]?) (a0, a1) [v0, v1] (fun _ _ h => h) (by simp) ⟨f0, f1, trivial⟩).mono fun e W' ⟨x, he, bel, hx⟩ => ?_
  obtain rfl : x = .bool true := by simpa [dBool, SV.fit] using hx
  subst he
  exact ⟨_, rfl, _, _, _, [], _, [], hW', trodAll_mk1 (shut_bool Try.underlying4 _),
    (trodAll_cons_mk (Below.trod Try.laidOut (by kernel_rfl) (of_decide_eq_true (by kernel_rfl)) h0 bel (lt h0))
    (trodAll_cons_mk (Below.trod Try.laidOut (by kernel_rfl) (of_decide_eq_true (by kernel_rfl)) h1 bel (lt h1)) trodAll_mk0)), rfl, bel.frame _, fun h => by cases h⟩

theorem chainThrough_over (law : FnPure Try.prog 7 aLTS dBool (fun _ => true) (fun _ => [])) : Rows.ChainThroughSaid :=
  OpenClaim.holds_of_wide 7 Try.f7 rfl rfl rfl rfl rfl rfl rfl ⟨rfl, rfl, rfl, rfl, rfl⟩ rfl rfl rfl rfl rfl (by kernel_rfl) Try.func7 (by kernel_rfl)
    (of_decide_eq_true (by kernel_rfl)) (by unfold Func.isWrapper; first | (rw [if_pos (by decide +kernel)]; kernel_rfl) | (rw [if_neg (by decide +kernel)]; exact ⟨rfl, rfl⟩))
    (fun os started H enc _ => chainThrough_lifted law os started H enc)
end Go.Proofs.Ytiipneclghnfhaa

/- The law ChainThrough of chapter 3 is proved: for every input the function returns true, and its arguments read as they did. No condition. -/
namespace Go.Proofs.Ytiipneclghnfhaa
open Go.RowKit Go.Sx
theorem chainThrough_holds : Rows.ChainThroughSaid := chainThrough_over thl_ok
end Go.Proofs.Ytiipneclghnfhaa
