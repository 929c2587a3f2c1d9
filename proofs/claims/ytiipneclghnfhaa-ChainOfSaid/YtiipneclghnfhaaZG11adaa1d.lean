/- Chapter 3: the least of times: the loop. Printed by treegen.py. -/
import Derived.Test.YtiipneclghnfhaaZG10b5e5a6
import Derived.Test.YtiipneclghnfhaaZG0692ae73
import Derived.Test.YtiipneclghnfhaaZG078a2f4a
set_option linter.unusedVariables false
set_option linter.unusedSimpArgs false
set_option linter.constructorNameAsVariable false
set_option linter.all false

namespace Go.Proofs.Ytiipneclghnfhaa
open Go.RowKit Go.Sx
set_option maxRecDepth 100000
set_option linter.unusedVariables false
noncomputable def of1_q1 (out : List T) (ys : List T) (n : Int) (i : Int) : Ex ×
  ea_G :=
  loopF (fun g => ea_R g.fst g.snd.fst g.snd.snd.fst g.snd.snd.snd.fst g.snd.snd.snd.snd.fst g.snd.snd.snd.snd.snd.fst) ea_M ((↑out.length : Int), (0 : Int), (), ys.getD i.toNat eT.dflt, out.length, eT.lst out.length (eT.els out), LoopState.ready, none)
abbrev of1_G : Type := List T × List T × Int × Int
noncomputable def of1_LP : LP 0 of1_G := .pair (.row 0 6 30 eT) (.pair (.slot 0 20 dLT) (.pair (.slot 0 21 dI) (.slot 0 22 dI)))
noncomputable def of1_R (out : List T) (ys : List T) (n : Int) (i : Int) : Ex × of1_G :=
  bif decide (i < n) then bif exB Ex.ret (of1_q1 out ys n i).fst then (Ex.normal, eT.lst out.length (eT.els (of1_q1 out ys n i).snd.snd.snd.snd.snd.snd.fst), eT.lst ys.length (eT.els ys), n, IntKind.i64.wrap (i + (1 : Int))) else (Ex.normal, eT.lst (min (out.length + (1 : Nat)) out.length) (eT.els (of1_q1 out ys n i).snd.snd.snd.snd.snd.snd.fst) ++ List.map (fun x => (of1_q1 out ys n i).snd.snd.snd.snd.fst) (List.range (out.length + (1 : Nat) - out.length)), eT.lst ys.length (eT.els ys), n, IntKind.i64.wrap (i + (1 : Int)))
  else (Ex.exit (0 : Nat), eT.lst out.length (eT.els out), eT.lst ys.length (eT.els ys), n, i)
def of1_side (out : List T) (ys : List T) (n : Int) (i : Int) : Prop :=
  (decide (i < n) = true → ((0 : Int) ≤ i ∧ i < (↑ys.length : Int)) ∧ (∀ (e : Nat), e < out.length → True) ∧ CodeIs (rangeOf Try.prog (18 : Nat) (0 : Nat)).snd.fst (rangeOf Try.prog (18 : Nat) (0 : Nat)).snd.fst ∧ CodeIs (rangeOf Try.prog (18 : Nat) (0 : Nat)).snd.snd (rangeOf Try.prog (18 : Nat) (0 : Nat)).snd.snd ∧ Lp.ixJ (fun c => c.fst) (fun c => c.snd.snd.snd) ea_K (ea_f ((↑out.length : Int), (0 : Int), (), ys.getD i.toNat eT.dflt, out.length, eT.lst out.length (eT.els out), LoopState.ready, none)) ∧ (exB Ex.ret (of1_q1 out ys n i).fst = true → out.length ≤ (of1_q1 out ys n i).snd.snd.snd.snd.snd.snd.fst.length ∧ (∀ (e : Nat), e < out.length → True) ∧ ∀ (e : Nat), e < ys.length → eT.Ok (eT.els ys e)) ∧ (exB Ex.ret (of1_q1 out ys n i).fst = false → (out.length ≤ (of1_q1 out ys n i).snd.snd.snd.snd.snd.snd.fst.length ∧ True ∧ out.length + (1 : Nat) ≤ maxLen ∧ (out.length + (1 : Nat)) * Try.prog.types[(30 : Nat)].bytes ≤ (140737488355328 : Nat)) ∧ out.length + (1 : Nat) ≤ out.length + (1 : Nat) ∧ (∀ (e : Nat), e < min (out.length + (1 : Nat)) out.length → True) ∧ (∀ (e : Nat), e < out.length + (1 : Nat) - out.length → True) ∧ ∀ (e : Nat), e < ys.length → eT.Ok (eT.els ys e))) ∧ (decide (i < n) = false → out.length ≤ out.length ∧ (∀ (e : Nat), e < out.length → True) ∧ ∀ (e : Nat), e < ys.length → eT.Ok (eT.els ys e))
theorem of1_one : ((loopsOf Try.prog 18).filter fun c => Nat.beq (lkey c) 8).length = 1 := by kernel_rfl
abbrev of1_GC : Type := List T × Int
abbrev of1_GB : Type := List T
def of1_f (g : of1_G) : Int × of1_GC × of1_GB := (g.2.2.2, (g.2.1, g.2.2.1), g.1)
def of1_g (d : Int × of1_GC × of1_GB) : of1_G := (d.2.2, d.2.1.1, d.2.1.2, d.1)
theorem of1_es (g : of1_G) : (of1_R g.1 g.2.1 g.2.2.1 g.2.2.2).1 = .normal ∨ (of1_R g.1 g.2.1 g.2.2.1 g.2.2.2).1 ∈ ([.ret, .exit 0] : List Ex) := by
  unfold of1_R
  repeat' (first | (left; rfl) | (right; simp only [cond_true, cond_false]; simp; done) | (rw [Bool.cond_eq_ite]; split))
noncomputable abbrev of1_C (Inv : of1_G → List Prop) (m : of1_G → Nat) : LCon := loopR [.ret, .exit 0] (loopBody Try.prog 18 8) of1_LP [] 41 Inv (fun g => of1_R g.1 g.2.1 g.2.2.1 g.2.2.2) m
theorem of1_loop (Inv : of1_G → List Prop) (m : of1_G → Nat) (hs : ∀ g, allP (Inv g) → of1_side g.1 g.2.1 g.2.2.1 g.2.2.2) (hg : Goes (fun g : of1_G => of1_R g.1 g.2.1 g.2.2.1 g.2.2.2) m fun g => allP (Inv g)) : ∀ b ∈ loopsOf Try.prog 18, lkey b = 8 → LoopOk Try.prog b (of1_C Inv m).g := loop_run (Γ := (MTab.gamz tabQ [] [])) (Λ := lamH) (MTab.okz tabQ [] []) lamH_ok 100 18 8 41 of1_LP [] Inv (fun g => of1_R g.1 g.2.1 g.2.2.1 g.2.2.2) (fun g => of1_side g.1 g.2.1 g.2.2.1 g.2.2.2) m default [.ret, .exit 0] of1_one (fun rd T B HL HB ds g => by kernel_rfl) (fun rd T B HL HB ds g => by kernel_rfl) hs hg of1_es
noncomputable def tabX27 : MTab Try.prog := tabQ
end Go.Proofs.Ytiipneclghnfhaa

/- Chapter 3: putting in, the document's Check: contracts of the loops. -/
namespace Go.Proofs.Ytiipneclghnfhaa
open Go.RowKit Go.Sx Go.Lp
theorem bytesT (h : 30 < Try.prog.types.size) : (Try.prog.types[30]'h).bytes = 48 := by kernel_rfl
theorem lst_app2 {α : Type} (A : El α) (out : List α) (s y : α) : A.lst (min (min (out.length + 1 + 1) (out.length + 1)) out.length) (A.els out) ++ List.map (fun _ => s) (List.range (min (out.length + 1 + 1) (out.length + 1) - out.length)) ++ List.map (fun _ => y) (List.range (out.length + 1 + 1 - (out.length + 1))) = (out ++ [s]) ++ [y] := by
  rw [Nat.min_eq_right (Nat.le_succ (out.length + 1)), Nat.min_eq_right (Nat.le_succ _), A.lst_els, Nat.add_sub_cancel_left, Nat.add_sub_cancel_left]; rfl
def KS : Nat := 1000000
noncomputable def pt_f1 (t : T) (b : List T × Bool) (v : T) : List T × Bool := bif !b.2 && decide (tcmp_F t v < 0) then (b.1 ++ [t] ++ [v], true) else (b.1 ++ [v], b.2)
noncomputable def pt_S (c : pt_GC) (b : pt_GB) (_ : Int) (v : T) : Ex × pt_GB := (.normal, (), (pt_f1 c.2 b.2 v).1, (pt_f1 c.2 b.2 v).2)
def pt_K (c : pt_GC) (b : pt_GB) (i : Int) : Prop := c.1.length ≤ KS ∧ (b.2.1.length : Int) ≤ i + (bif b.2.2 then 1 else 0)
abbrev pt_I (g : pt_G) : List Prop := ixI (fun c : pt_GC => (c.1.length : Int)) (fun c => c.1) pt_K (pt_f g)
abbrev pt_M (g : pt_G) : Nat := ixM (fun c : pt_GC => (c.1.length : Int)) (pt_f g)
theorem pt_P : ixP pt_S (fun c : pt_GC => c.1) pt_K := by
  rintro ⟨xs, t⟩ ⟨⟨⟩, out, z⟩ i a ⟨h1, h2⟩ _ _
  refine ⟨h1, ?_⟩
  have h2 : (out.length : Int) ≤ (i : Int) + (bif z then 1 else 0) := h2
  show ((pt_f1 t (out, z) a).1.length : Int) ≤ (i : Int) + 1 + (bif (pt_f1 t (out, z) a).2 then 1 else 0)
  unfold pt_f1
  generalize decide (tcmp_F t a < 0) = c
  cases z <;> cases c <;> simp at h2 ⊢ <;> omega
noncomputable abbrev pt_RR (g : pt_G) : Ex × pt_G := pt_R g.1 g.2.1 g.2.2.1 g.2.2.2.1 g.2.2.2.2.1 g.2.2.2.2.2
theorem pt_RF (d : Int × pt_GC × pt_GB) (_ : allP (ixI (fun c : pt_GC => (c.1.length : Int)) (fun c => c.1) pt_K d)) : pt_RR (pt_g d) = ((ixF 0 (fun c : pt_GC => (c.1.length : Int)) (fun c => c.1) eT.dflt pt_S d).1, pt_g (ixF 0 (fun c : pt_GC => (c.1.length : Int)) (fun c => c.1) eT.dflt pt_S d).2) := by
  obtain ⟨i, ⟨xs, t⟩, ⟨⟨⟩, out, z⟩⟩ := d
  show pt_R xs () t out z i = _
  unfold pt_R ixF pt_S pt_f1
  simp only [eT.lst_els, lst_app1, lst_app2, rtcmp_eq]
  cases decide (i < (xs.length : Int)) with
  | false => rfl
  | true =>
    simp only [cond_true]
    generalize (!z && decide (tcmp_F t (xs.getD i.toNat eT.dflt) < 0)) = c
    cases c <;> rfl
theorem pt_ok : ∀ b ∈ loopsOf Try.prog 89, lkey b = 4 → LoopOk Try.prog b (pt_C pt_I pt_M).g := by
  refine pt_loop pt_I pt_M (fun g hi => ?_) (ix_conj_goes (fun _ => rfl) (fun _ => rfl) pt_RF pt_P)
  obtain ⟨xs, ⟨⟩, t, out, z, i⟩ := g
  obtain ⟨h1, h2, h3, h4, h5, h6⟩ := hi _ (List.mem_cons_self ..)
  have h3 : 0 ≤ i := h3
  have h4 : i ≤ (xs.length : Int) := h4
  have h5 : xs.length ≤ KS := h5
  have h6 : (out.length : Int) ≤ i + (bif z then 1 else 0) := h6
  unfold KS at h5
  have h7 : out.length ≤ 1000002 := by cases z <;> simp only [cond_true, cond_false] at h6 <;> omega
  show pt_side xs () t out z i
  unfold pt_side
  simp only [bytesT, decide_eq_true_eq, decide_eq_false_iff_not]
  have ha := okT xs
  clear hi h6
  unfold maxLen
  repeat' (first | exact ha | exact rfl | apply And.intro | intro _)
  all_goals (first | trivial | omega)
/-- Put in, where it is not yet there. -/
noncomputable def insP (t : T) : List T → List T
  | [] => [t]
  | y :: r => if tcmp_F t y < 0 then t :: y :: r else y :: insP t r
theorem pt_true (t : T) : ∀ (l : List T) (out : List T), l.foldl (pt_f1 t) (out, true) = (out ++ l, true)
  | [], out => by simp
  | y :: r, out => by
    rw [List.foldl_cons]
    have : pt_f1 t (out, true) y = (out ++ [y], true) := rfl
    rw [this, pt_true t r]
    simp
theorem pt_fold (t : T) : ∀ (l : List T) (out : List T), (l.foldl (pt_f1 t) (out, false)).1 ++ (bif (l.foldl (pt_f1 t) (out, false)).2 then [] else [t]) = out ++ insP t l
  | [], out => rfl
  | y :: r, out => by
    rw [List.foldl_cons]
    unfold insP
    by_cases h : tcmp_F t y < 0
    · have : pt_f1 t (out, false) y = (out ++ [t] ++ [y], true) := by unfold pt_f1; simp [h]
      rw [this, pt_true, if_pos h]
      simp
    · have : pt_f1 t (out, false) y = (out ++ [y], false) := by unfold pt_f1; simp [h]
      rw [this, if_neg h, pt_fold t r]
      simp
theorem insP_len (t : T) : ∀ l : List T, (insP t l).length = l.length + 1
  | [] => rfl
  | y :: r => by
    unfold insP
    split
    · rfl
    · simp [insP_len t r]
theorem insP_U (t : T) : ∀ {l : List T}, t ∉ l → insP t l = insU (fun a b => tcmp_F a b) t l
  | [], _ => rfl
  | y :: r, h => by
    have h1 : ¬ y = t := fun e => h (e ▸ List.mem_cons_self ..)
    unfold insP insU
    rw [if_neg h1, insP_U t fun hm => h (List.mem_cons_of_mem _ hm)]
theorem pt_run (xs : List T) (t : T) (h : xs.length ≤ KS) : ∃ out z, loopF pt_RR pt_M (xs, (), t, [], false, 0) = (.exit 0, xs, (), t, out, z, (xs.length : Int)) ∧ out ++ (bif z then [] else [t]) = insP t xs ∧ out.length ≤ xs.length + 1 := by
  have hm : xs.length ≤ maxLen := by unfold KS at h; unfold maxLen; omega
  have hr : loopF pt_RR pt_M (xs, (), t, [], false, 0) = _ := ix_conj_run (φ := pt_f) (ψ := pt_g) (fun _ => rfl) (fun _ => rfl) pt_RF pt_P (xs, t) ((), [], false) rfl hm ⟨h, by show ((0 : Nat) : Int) ≤ 0 + 0; omega⟩
  have hf : ∀ (l : List T) (b : pt_GB), l.foldl (fun (b : pt_GB) v => ((), (pt_f1 t b.2 v).1, (pt_f1 t b.2 v).2)) b = ((), l.foldl (pt_f1 t) b.2) := by
    intro l
    induction l with
    | nil => intro b; rfl
    | cons a l ih => intro b; rw [List.foldl_cons, ih]; rfl
  have hs := scan_fold (x := 0) (st := pt_S (xs, t)) (f := fun (b : pt_GB) v => ((), (pt_f1 t b.2 v).1, (pt_f1 t b.2 v).2)) (fun _ _ _ => rfl) xs 0 ((), [], false)
  have hs : scan 0 (pt_S (xs, t)) 0 xs ((), [], false) = _ := hs
  rw [hf] at hs
  refine ⟨(xs.foldl (pt_f1 t) ([], false)).1, (xs.foldl (pt_f1 t) ([], false)).2, ?_, by rw [pt_fold]; rfl, ?_⟩
  · rw [hr]
    show ((scan 0 (pt_S (xs, t)) 0 xs ((), [], false)).1, pt_g ((scan 0 (pt_S (xs, t)) 0 xs ((), [], false)).2.1, (xs, t), (scan 0 (pt_S (xs, t)) 0 xs ((), [], false)).2.2)) = _
    rw [hs, Int.zero_add]
    rfl
  · have := congrArg List.length (pt_fold t xs [])
    rw [List.length_append, List.nil_append, insP_len] at this
    omega
noncomputable def ltJ : LTab Try.prog := ltE.cons 89 4 (pt_C pt_I pt_M) pt_ok
noncomputable abbrev lamJ : Lam := ltJ.lam
theorem lamJ_ok : ∀ f k L, lamJ f k = some L → ∀ b ∈ loopsOf Try.prog f, lkey b = k → LoopOk Try.prog b L.g := ltJ.ok
end Go.Proofs.Ytiipneclghnfhaa

/- Chapter 3: the document's put. Printed by treegen.py. -/
namespace Go.Proofs.Ytiipneclghnfhaa
open Go.RowKit Go.Sx
set_option maxRecDepth 100000
set_option linter.unusedVariables false
abbrev rLT : Rv (List T) := .list eT
noncomputable def put_q1 (xs : List T) (t : T) : Ex ×
  pt_G :=
  loopF (fun g => pt_R g.fst g.snd.fst g.snd.snd.fst g.snd.snd.snd.fst g.snd.snd.snd.snd.fst g.snd.snd.snd.snd.snd) pt_M (eT.lst xs.length (eT.els xs), (), t, [], false, (0 : Int))
noncomputable def put_F (xs : List T) (t : T) : Rv.T rLT :=
  bif !(put_q1 xs t).snd.snd.snd.snd.snd.fst then eT.lst (min ((put_q1 xs t).snd.snd.snd.snd.fst.length + (1 : Nat)) (put_q1 xs t).snd.snd.snd.snd.fst.length) (eT.els (put_q1 xs t).snd.snd.snd.snd.fst) ++ List.map (fun x => (put_q1 xs t).snd.snd.snd.fst) (List.range ((put_q1 xs t).snd.snd.snd.snd.fst.length + (1 : Nat) - (put_q1 xs t).snd.snd.snd.snd.fst.length))
  else eT.lst (put_q1 xs t).snd.snd.snd.snd.fst.length (eT.els (put_q1 xs t).snd.snd.snd.snd.fst)
def put_side (xs : List T) (t : T) : Prop :=
  (∀ (e : Nat), e < xs.length → eT.Ok (eT.els xs e)) ∧ Lp.ixJ (fun c => (↑c.fst.length : Int)) (fun c => c.fst) pt_K (pt_f (eT.lst xs.length (eT.els xs), (), t, [], false, (0 : Int))) ∧ ((!(put_q1 xs t).snd.snd.snd.snd.snd.fst) = true → ((put_q1 xs t).snd.snd.snd.snd.fst.length ≤ (put_q1 xs t).snd.snd.snd.snd.fst.length ∧ True ∧ (put_q1 xs t).snd.snd.snd.snd.fst.length + (1 : Nat) ≤ maxLen ∧ ((put_q1 xs t).snd.snd.snd.snd.fst.length + (1 : Nat)) * Try.prog.types[(30 : Nat)].bytes ≤ (140737488355328 : Nat)) ∧ (put_q1 xs t).snd.snd.snd.snd.fst.length + (1 : Nat) ≤ (put_q1 xs t).snd.snd.snd.snd.fst.length + (1 : Nat) ∧ (∀ (e : Nat), e < min ((put_q1 xs t).snd.snd.snd.snd.fst.length + (1 : Nat)) (put_q1 xs t).snd.snd.snd.snd.fst.length → True) ∧ ∀ (e : Nat), e < (put_q1 xs t).snd.snd.snd.snd.fst.length + (1 : Nat) - (put_q1 xs t).snd.snd.snd.snd.fst.length → True) ∧ ((!(put_q1 xs t).snd.snd.snd.snd.snd.fst) = false → (put_q1 xs t).snd.snd.snd.snd.fst.length ≤ (put_q1 xs t).snd.snd.snd.snd.fst.length ∧ ∀ (e : Nat), e < (put_q1 xs t).snd.snd.snd.snd.fst.length → True)
theorem put_okS (pre : DA.T aLT → List Prop) (h : ∀ g, DA.bd aLT g → (∀ p ∈ pre g, p) → put_side g.1 g.2) : FnPure Try.prog 89 aLT (Rv.D rLT) (fun g => put_F g.1 g.2) pre := res_of_side (R := rLT) (Γ := (MTab.gamz (MTab.of tabP) [] [])) (Λ := lamJ) (MTab.okz (MTab.of tabP) [] []) lamJ_ok 100 default (fun g => put_side g.1 g.2) (fun g => by kernel_rfl) (fun g => by kernel_rfl) h
noncomputable def jnd_F (xs : List T) (ys : List T) : Rv.T rLT :=
  List.map (fun x => eT.get []) (List.range (min (min ((0 : Nat) + xs.length + ys.length) ((0 : Nat) + xs.length)) (0 : Nat))) ++ eT.lst (min ((0 : Nat) + xs.length + ys.length) ((0 : Nat) + xs.length) - (0 : Nat)) (eT.els xs) ++ eT.lst ((0 : Nat) + xs.length + ys.length - ((0 : Nat) + xs.length)) (eT.els ys)
def jnd_side (xs : List T) (ys : List T) : Prop :=
  (True ∧ (∀ (e : Nat), e < xs.length → (eT.els xs e).all SV.one = true) ∧ (0 : Nat) + xs.length ≤ maxLen ∧ ((0 : Nat) + xs.length) * Try.prog.types[(30 : Nat)].bytes ≤ (140737488355328 : Nat)) ∧ ((0 : Nat) + xs.length ≤ (0 : Nat) + xs.length ∧ (∀ (e : Nat), e < ys.length → (eT.els ys e).all SV.one = true) ∧ (0 : Nat) + xs.length + ys.length ≤ maxLen ∧ ((0 : Nat) + xs.length + ys.length) * Try.prog.types[(30 : Nat)].bytes ≤ (140737488355328 : Nat)) ∧ (0 : Nat) + xs.length + ys.length ≤ (0 : Nat) + xs.length + ys.length ∧ (∀ (e : Nat), e < min (min ((0 : Nat) + xs.length + ys.length) ((0 : Nat) + xs.length)) (0 : Nat) → eT.OkP []) ∧ (∀ (e : Nat), e < min ((0 : Nat) + xs.length + ys.length) ((0 : Nat) + xs.length) - (0 : Nat) → True) ∧ ∀ (e : Nat), e < (0 : Nat) + xs.length + ys.length - ((0 : Nat) + xs.length) → True
theorem jnd_okS (pre : DA.T aLL → List Prop) (h : ∀ g, DA.bd aLL g → (∀ p ∈ pre g, p) → jnd_side g.1 g.2) : FnPure Try.prog 90 aLL (Rv.D rLT) (fun g => jnd_F g.1 g.2) pre := res_of_side (R := rLT) (Γ := (MTab.gamz (MTab.of tabP) [] [])) (Λ := lamJ) (MTab.okz (MTab.of tabP) [] []) lamJ_ok 100 default (fun g => jnd_side g.1 g.2) (fun g => by kernel_rfl) (fun g => by kernel_rfl) h
noncomputable def tabX29 : MTab Try.prog := (MTab.of tabP)
end Go.Proofs.Ytiipneclghnfhaa

/- Chapter 3: the document's put and joined; its Check: contracts. -/
namespace Go.Proofs.Ytiipneclghnfhaa
open Go.RowKit Go.Sx Go.Lp
theorem put_eq (xs : List T) (t : T) (h : xs.length ≤ KS) : put_F xs t = insP t xs ∧ put_side xs t := by
  have hm : xs.length ≤ maxLen := by unfold KS at h; unfold maxLen; omega
  have h' := h
  unfold KS at h'
  obtain ⟨out, z, h1, h2, h3⟩ := pt_run xs t h
  have h1 : loopF (fun g : pt_G => pt_R g.1 g.2.1 g.2.2.1 g.2.2.2.1 g.2.2.2.2.1 g.2.2.2.2.2) pt_M (xs, (), t, [], false, 0) = _ := h1
  unfold put_F put_side put_q1
  simp only [eT.lst_els, h1, lst_app1, bytesT]
  refine ⟨?_, okT xs, ixJ0 rfl hm ⟨h, by show ((0 : Nat) : Int) ≤ 0 + 0; omega⟩, fun _ => ⟨⟨Nat.le_refl _, trivial, by unfold maxLen; omega, by omega⟩, Nat.le_refl _, fun _ _ => trivial, fun _ _ => trivial⟩, fun _ => ⟨Nat.le_refl _, fun _ _ => trivial⟩⟩
  rw [← h2]
  cases z <;> simp
theorem put_ok : FnPure Try.prog 89 aLT (Rv.D rLT) (fun g => insP g.2 g.1) (fun g => [g.1.length ≤ KS]) :=
  pure_congr (put_okS _ fun g _ hp => (put_eq g.1 g.2 (hp _ (List.mem_cons_self ..))).2) fun g _ hp => (put_eq g.1 g.2 (hp _ (List.mem_cons_self ..))).1
theorem onesT (xs : List T) (e : Nat) : (eT.els xs e).all SV.one = true := by
  unfold El.els
  generalize xs.getD e eT.dflt = t
  rfl
theorem jnd_eq (xs ys : List T) : jnd_F xs ys = xs ++ ys := by
  unfold jnd_F
  have h1 : min (0 + xs.length + ys.length) (0 + xs.length) = xs.length := by omega
  have h2 : min xs.length 0 = 0 := by omega
  have h3 : 0 + xs.length + ys.length - (0 + xs.length) = ys.length := by omega
  rw [h1, h2, h3, Nat.sub_zero, eT.lst_els, eT.lst_els]
  rfl
theorem jnd_si (xs ys : List T) (h : xs.length ≤ KS) (h2 : ys.length ≤ KS) : jnd_side xs ys := by
  unfold KS at h h2
  unfold jnd_side
  simp only [bytesT]
  unfold maxLen
  refine ⟨⟨trivial, fun e _ => onesT xs e, by omega, by omega⟩, ⟨Nat.le_refl _, fun e _ => onesT ys e, by omega, by omega⟩, Nat.le_refl _, fun e he => by omega, fun _ _ => trivial, fun _ _ => trivial⟩
theorem jnd_ok : FnPure Try.prog 90 aLL (Rv.D rLT) (fun g => g.1 ++ g.2) (fun g => [g.1.length ≤ KS, g.2.length ≤ KS]) :=
  pure_congr (jnd_okS _ fun g _ hp => jnd_si g.1 g.2 (hp _ (List.mem_cons_self ..)) (hp _ (List.mem_cons_of_mem _ (List.mem_cons_self ..)))) fun g _ _ => jnd_eq g.1 g.2
/-! ### the document's Check: the outer loop -/
noncomputable def rkin (xs : List T) (k : Nat) : Bool := (List.range xs.length).any fun j => decide (j ≠ k) && tleq_F (xs.getD j eT.dflt) (xs.getD k eT.dflt)
noncomputable def rkbad (xs : List T) (k : Nat) : Bool := (decide (0 < k) && decide (tcmp_F (xs.getD (k - 1) eT.dflt) (xs.getD k eT.dflt) ≥ 0)) || rkin xs k
theorem rk1_q (xs : List T) (k r : Int) (hk : 0 ≤ k ∧ k < (xs.length : Int)) (hm : xs.length ≤ maxLen) : ∃ j, rk1_q1 xs k r = (bif rkin xs k.toNat then .ret else .exit 2, xs, k, j, bif rkin xs k.toNat then 30 else r) := by
  unfold rk1_q1
  simp only [eT.lst_els]
  have h1 : loopF (fun g : rk2_G => rk2_R g.1 g.2.1 g.2.2.1 g.2.2.2) rk2_M (xs, k, 0, r) = _ := rk2_run (xs, k) r rfl hm hk
  rcases searchI (x := 2) (st := rk2_S (xs, k)) (p := fun j v => j != k && rtleq_F v (xs.getD k.toNat eT.dflt)) (r := fun _ _ _ => (30 : Int)) (fun _ _ _ => rfl) xs r with ⟨n, a, ha, hp, h2⟩ | ⟨ha, h2⟩
  · have h2 : scan 2 (rk2_S (xs, k)) 0 xs r = _ := h2
    have hc : rkin xs k.toNat = true := by
      unfold rkin
      rw [List.any_eq_true]
      have hn : n < xs.length := by
        rcases Nat.lt_or_ge n xs.length with h | h
        · exact h
        · rw [List.getElem?_eq_none h] at ha; cases ha
      refine ⟨n, List.mem_range.2 hn, ?_⟩
      rw [List.getD_eq_getElem?_getD, ha]
      simp only [Bool.and_eq_true, bne_iff_ne, ne_eq] at hp
      simp only [Option.getD_some, Bool.and_eq_true, decide_eq_true_eq]
      exact ⟨by omega, hp.2⟩
    refine ⟨(scan 2 (rk2_S (xs, k)) 0 xs r).2.1, h1.trans ?_⟩
    · rw [hc]
      show ((scan 2 (rk2_S (xs, k)) 0 xs r).1, rk2_g ((scan 2 (rk2_S (xs, k)) 0 xs r).2.1, (xs, k), (scan 2 (rk2_S (xs, k)) 0 xs r).2.2)) = _
      rw [h2]; rfl
  · have h2 : scan 2 (rk2_S (xs, k)) 0 xs r = _ := h2
    have hc : rkin xs k.toNat = false := by
      unfold rkin
      rw [List.any_eq_false]
      intro n hn
      have hn := List.mem_range.1 hn
      have := ha n (xs.getD n eT.dflt) (by rw [List.getD_eq_getElem?_getD, List.getElem?_eq_getElem hn]; rfl)
      simp only [Bool.and_eq_false_iff, bne_eq_false_iff_eq] at this
      simp only [Bool.and_eq_true, decide_eq_true_eq, not_and]
      intro h
      rcases this with h3 | h3
      · omega
      · intro h4; rw [show tleq_F (xs.getD n eT.dflt) (xs.getD k.toNat eT.dflt) = false from h3] at h4; cases h4
    refine ⟨(scan 2 (rk2_S (xs, k)) 0 xs r).2.1, h1.trans ?_⟩
    · rw [hc]
      show ((scan 2 (rk2_S (xs, k)) 0 xs r).1, rk2_g ((scan 2 (rk2_S (xs, k)) 0 xs r).2.1, (xs, k), (scan 2 (rk2_S (xs, k)) 0 xs r).2.2)) = _
      rw [h2]; rfl
noncomputable def rk1_S (c : rk1_GC) (b : rk1_GB) (i : Int) (_ : T) : Ex × rk1_GB := bif rkbad c i.toNat then (.ret, (30 : Int)) else (.normal, b)
def rk1_K (_ : rk1_GC) (_ : rk1_GB) (_ : Int) : Prop := True
abbrev rk1_I (g : rk1_G) : List Prop := ixI (fun c : rk1_GC => (List.length c : Int)) (fun c => c) rk1_K (rk1_f g)
abbrev rk1_M (g : rk1_G) : Nat := ixM (fun c : rk1_GC => (List.length c : Int)) (rk1_f g)
theorem rk1_P : ixP rk1_S (fun c : rk1_GC => c) rk1_K := fun _ _ _ _ h _ _ => h
noncomputable abbrev rk1_RR (g : rk1_G) : Ex × rk1_G := rk1_R g.1 g.2.1 g.2.2
theorem rk1_c (xs : List T) (k : Int) (h : 0 ≤ k) (h2 : k < (xs.length : Int)) (h3 : xs.length ≤ maxLen) : (decide (k > 0) && decide (rtcmp_F (xs.getD (IntKind.i64.wrap (k - 1)).toNat eT.dflt) (xs.getD k.toNat eT.dflt) ≥ 0)) = (decide (0 < k.toNat) && decide (tcmp_F (xs.getD (k.toNat - 1) eT.dflt) (xs.getD k.toNat eT.dflt) ≥ 0)) := by
  unfold maxLen at h3
  by_cases hk : k > 0
  · rw [wr (by omega), rtcmp_eq, show (k - 1).toNat = k.toNat - 1 by omega, show decide (k > 0) = decide (0 < k.toNat) by rw [decide_eq_decide]; omega]
  · have h1 : ¬ 0 < k.toNat := by omega
    simp [hk, h1]
theorem rk1_RF (d : Int × rk1_GC × rk1_GB) (hi : allP (ixI (fun c : rk1_GC => (List.length c : Int)) (fun c => c) rk1_K d)) : rk1_RR (rk1_g d) = ((ixF 0 (fun c : rk1_GC => (List.length c : Int)) (fun c => c) eT.dflt rk1_S d).1, rk1_g (ixF 0 (fun c : rk1_GC => (List.length c : Int)) (fun c => c) eT.dflt rk1_S d).2) := by
  obtain ⟨h1, h2, h3, h4, h5⟩ := hi _ (List.mem_cons_self ..)
  obtain ⟨k, xs, r⟩ := d
  have h3 : 0 ≤ k := h3
  have h2 : xs.length ≤ maxLen := h2
  show rk1_R xs k r = _
  unfold rk1_R ixF rk1_S
  simp only [eT.lst_els]
  by_cases hc : k < (xs.length : Int)
  · obtain ⟨j, hj⟩ := rk1_q xs k r ⟨h3, hc⟩ h2
    rw [hj, rk1_c xs k h3 hc h2]
    simp only [hc, decide_true, cond_true, eT.lst_els]
    unfold rkbad
    generalize (decide (0 < k.toNat) && decide (tcmp_F (xs.getD (k.toNat - 1) eT.dflt) (xs.getD k.toNat eT.dflt) ≥ 0)) = y
    generalize rkin xs k.toNat = z
    cases y <;> cases z <;> rfl
  · simp only [hc, decide_false, cond_false]
    rfl
theorem rk1_ok : ∀ b ∈ loopsOf Try.prog 22, lkey b = 7 → LoopOk Try.prog b (rk1_C rk1_I rk1_M).g := by
  refine rk1_loop rk1_I rk1_M (fun g hi => ?_) (ix_conj_goes (fun _ => rfl) (fun _ => rfl) rk1_RF rk1_P)
  obtain ⟨xs, k, r⟩ := g
  obtain ⟨h1, h2, h3, h4, h5⟩ := hi _ (List.mem_cons_self ..)
  have h2 : xs.length ≤ maxLen := h2
  have h3 : 0 ≤ k := h3
  have ka := okT xs
  show rk1_side xs k r
  unfold rk1_side
  refine ⟨fun hc => ?_, fun _ => ka⟩
  have hc : k < (xs.length : Int) := of_decide_eq_true hc
  obtain ⟨j, hj⟩ := rk1_q xs k r ⟨h3, hc⟩ h2
  rw [hj]
  simp only [eT.lst_els]
  have h2' := h2
  unfold maxLen at h2'
  refine ⟨fun hk => ?_, fun _ => ⟨h3, hc⟩, fun _ => ka, fun _ => ⟨ka, ixJ0 rfl h2 ⟨h3, hc⟩, fun _ => ka, fun _ => ka⟩⟩
  have hk : k > 0 := of_decide_eq_true hk
  rw [wr (by omega)]
  omega
noncomputable def rkany (xs : List T) : Bool := (List.range xs.length).any (rkbad xs)
theorem rk1_run (xs : List T) (hm : xs.length ≤ maxLen) (r : Int) : (loopF rk1_RR rk1_M (xs, 0, r)).1 = (bif rkany xs then .ret else .exit 0) ∧ (loopF rk1_RR rk1_M (xs, 0, r)).2.2.2 = bif rkany xs then 30 else r := by
  have h1 : loopF rk1_RR rk1_M (xs, 0, r) = _ := ix_conj_run (φ := rk1_f) (ψ := rk1_g) (fun _ => rfl) (fun _ => rfl) rk1_RF rk1_P xs r rfl hm trivial
  rw [h1]
  rcases searchI (x := 0) (st := rk1_S xs) (p := fun i _ => rkbad xs i.toNat) (r := fun _ _ _ => (30 : Int)) (fun _ _ _ => rfl) xs r with ⟨n, a, ha, hp, h2⟩ | ⟨ha, h2⟩
  · have hc : rkany xs = true := by
      unfold rkany
      rw [List.any_eq_true]
      have hn : n < xs.length := by
        rcases Nat.lt_or_ge n xs.length with h | h
        · exact h
        · rw [List.getElem?_eq_none h] at ha; cases ha
      exact ⟨n, List.mem_range.2 hn, by simpa using hp⟩
    have h2 : scan 0 (rk1_S xs) 0 xs r = _ := h2
    rw [hc]
    exact ⟨congrArg (·.1) h2, congrArg (·.2.2) h2⟩
  · have hc : rkany xs = false := by
      unfold rkany
      rw [List.any_eq_false]
      intro n hn
      have hn := List.mem_range.1 hn
      have := ha n (xs.getD n eT.dflt) (by rw [List.getD_eq_getElem?_getD, List.getElem?_eq_getElem hn]; rfl)
      simpa using this
    have h2 : scan 0 (rk1_S xs) 0 xs r = _ := h2
    rw [hc]
    exact ⟨congrArg (·.1) h2, congrArg (·.2.2) h2⟩
noncomputable def tabR : PTab Try.prog := tabP.cons 89 (pconR aLT dLT (fun g => insP g.2 g.1) (fun g => [g.1.length ≤ KS])) (conR_ok put_ok)
noncomputable def ltK : LTab Try.prog := ltJ.cons 22 7 (rk1_C rk1_I rk1_M) rk1_ok
noncomputable abbrev lamK : Lam := ltK.lam
theorem lamK_ok : ∀ f k L, lamK f k = some L → ∀ b ∈ loopsOf Try.prog f, lkey b = k → LoopOk Try.prog b L.g := ltK.ok
end Go.Proofs.Ytiipneclghnfhaa

/- Chapter 3: the document's Check; its Of: the loop; Leq. Printed by treegen.py. -/
namespace Go.Proofs.Ytiipneclghnfhaa
open Go.RowKit Go.Sx
set_option maxRecDepth 100000
set_option linter.unusedVariables false
abbrev dFl : Dv (List T) := dFn1 104 dLT
abbrev aFl : DA (List T × List T) := .cons dLT (.one dFl)
noncomputable def rchk_q1 (xs : List T) : Ex ×
  rk1_G :=
  loopF (fun g => rk1_R g.fst g.snd.fst g.snd.snd) rk1_M (eT.lst xs.length (eT.els xs), (0 : Int), (0 : Int))
noncomputable def rchk_F (xs : List T) : Dv.T dI :=
  bif decide ((↑xs.length : Int) > (1024 : Int)) then (3 : Int)
  else bif badC (eT.lst xs.length (eT.els xs)) != (0 : Int) then badC (eT.lst xs.length (eT.els xs)) else bif exB Ex.ret (rchk_q1 xs).fst then (rchk_q1 xs).snd.snd.snd else (0 : Int)
def rchk_side (xs : List T) : Prop :=
  decide ((↑xs.length : Int) > (1024 : Int)) = false → (∀ (e : Nat), e < xs.length → eT.Ok (eT.els xs e)) ∧ ((badC (eT.lst xs.length (eT.els xs)) != (0 : Int)) = false → (∀ (e : Nat), e < xs.length → eT.Ok (eT.els xs e)) ∧ Lp.ixJ (fun c => (↑(List.length c) : Int)) (fun c => c) rk1_K (rk1_f (eT.lst xs.length (eT.els xs), (0 : Int), (0 : Int))))
theorem rchk_okS (pre : DA.T aL → List Prop) (h : ∀ g, DA.bd aL g → (∀ p ∈ pre g, p) → rchk_side g) : FnPure Try.prog 22 aL dI (fun g => rchk_F g) pre := pure_of_sideS (Γ := (PTab.gamz tabR [] [])) (Λ := lamK) (PTab.okz tabR [] []) lamK_ok 100 default (fun g => rchk_side g) (fun g => by kernel_rfl) (fun g => by kernel_rfl) h
noncomputable def rlq_q1 (ys : List T) (xs : List T) : Ex ×
  rl_G :=
  loopF (fun g => rl_R g.fst g.snd.fst g.snd.snd.fst g.snd.snd.snd) rl_M (eT.lst ys.length (eT.els ys), eT.lst xs.length (eT.els xs), (0 : Int), false)
noncomputable def rlq_F (ys : List T) (xs : List T) : Dv.T dBool :=
  bif exB Ex.ret (rlq_q1 ys xs).fst then (rlq_q1 ys xs).snd.snd.snd.snd else true
def rlq_side (ys : List T) (xs : List T) : Prop :=
  (∀ (e : Nat), e < ys.length → eT.Ok (eT.els ys e)) ∧ (∀ (e : Nat), e < xs.length → eT.Ok (eT.els xs e)) ∧ Lp.ixJ (fun c => (↑c.snd.length : Int)) (fun c => c.snd) rl_K (rl_f (eT.lst ys.length (eT.els ys), eT.lst xs.length (eT.els xs), (0 : Int), false))
theorem rlq_okS (pre : DA.T aLL → List Prop) (h : ∀ g, DA.bd aLL g → (∀ p ∈ pre g, p) → rlq_side g.1 g.2) : FnPure Try.prog 56 aLL dBool (fun g => rlq_F g.1 g.2) pre := pure_of_sideS (Γ := (PTab.gamz tabR [] [])) (Λ := lamK) (PTab.okz tabR [] []) lamK_ok 100 default (fun g => rlq_side g.1 g.2) (fun g => by kernel_rfl) (fun g => by kernel_rfl) h
noncomputable def ro1_q1 (xs : List T) (out : List T) (i : Int) : Ex ×
  ro2_G :=
  loopF (fun g => ro2_R g.fst g.snd.fst g.snd.snd.fst g.snd.snd.snd.fst g.snd.snd.snd.snd) ro2_M (eT.lst xs.length (eT.els xs), i, !decide (xs.getD i.toNat eT.dflt ∈ eT.lst out.length (eT.els out)), (0 : Int), eT.lst out.length (eT.els out))
abbrev ro1_G : Type := List T × List T × Int
noncomputable def ro1_LP : LP 0 ro1_G := .pair (.slot 0 0 dLT) (.pair (.slot 0 5 dLT) (.slot 0 6 dI))
noncomputable def ro1_R (xs : List T) (out : List T) (i : Int) : Ex × ro1_G :=
  bif decide (i < (↑xs.length : Int)) then (Ex.normal, eT.lst (ro1_q1 xs out i).snd.fst.length (eT.els (ro1_q1 xs out i).snd.fst), eT.lst (bif (ro1_q1 xs out i).snd.snd.snd.fst then (insP ((ro1_q1 xs out i).snd.fst.getD (ro1_q1 xs out i).snd.snd.fst.toNat eT.dflt) (eT.lst (ro1_q1 xs out i).snd.snd.snd.snd.snd.length (eT.els (ro1_q1 xs out i).snd.snd.snd.snd.snd))).length else (ro1_q1 xs out i).snd.snd.snd.snd.snd.length) (bif (ro1_q1 xs out i).snd.snd.snd.fst then eT.els (insP ((ro1_q1 xs out i).snd.fst.getD (ro1_q1 xs out i).snd.snd.fst.toNat eT.dflt) (eT.lst (ro1_q1 xs out i).snd.snd.snd.snd.snd.length (eT.els (ro1_q1 xs out i).snd.snd.snd.snd.snd))) else eT.els (ro1_q1 xs out i).snd.snd.snd.snd.snd), IntKind.i64.wrap ((ro1_q1 xs out i).snd.snd.fst + (1 : Int)))
  else (Ex.exit (0 : Nat), eT.lst xs.length (eT.els xs), eT.lst out.length (eT.els out), i)
def ro1_side (xs : List T) (out : List T) (i : Int) : Prop :=
  (decide (i < (↑xs.length : Int)) = true → ((0 : Int) ≤ i ∧ i < (↑xs.length : Int)) ∧ (∀ (e : Nat), e < out.length → eT.Ok (eT.els out e)) ∧ (∀ (e : Nat), e < xs.length → eT.Ok (eT.els xs e)) ∧ (∀ (e : Nat), e < out.length → eT.Ok (eT.els out e)) ∧ Lp.ixJ (fun c => (↑c.fst.length : Int)) (fun c => c.fst) ro2_K (ro2_f (eT.lst xs.length (eT.els xs), i, !decide (xs.getD i.toNat eT.dflt ∈ eT.lst out.length (eT.els out)), (0 : Int), eT.lst out.length (eT.els out))) ∧ ((ro1_q1 xs out i).snd.snd.snd.fst = true → (0 : Int) ≤ (ro1_q1 xs out i).snd.snd.fst ∧ (ro1_q1 xs out i).snd.snd.fst < (↑(ro1_q1 xs out i).snd.fst.length : Int)) ∧ ((ro1_q1 xs out i).snd.snd.snd.fst = true → ∀ (e : Nat), e < (ro1_q1 xs out i).snd.snd.snd.snd.snd.length → eT.Ok (eT.els (ro1_q1 xs out i).snd.snd.snd.snd.snd e)) ∧ ((ro1_q1 xs out i).snd.snd.snd.fst = true → (eT.lst (ro1_q1 xs out i).snd.snd.snd.snd.snd.length (eT.els (ro1_q1 xs out i).snd.snd.snd.snd.snd)).length ≤ KS) ∧ (∀ (e : Nat), e < (ro1_q1 xs out i).snd.fst.length → eT.Ok (eT.els (ro1_q1 xs out i).snd.fst e)) ∧ ∀ (e : Nat), (e < bif (ro1_q1 xs out i).snd.snd.snd.fst then (insP ((ro1_q1 xs out i).snd.fst.getD (ro1_q1 xs out i).snd.snd.fst.toNat eT.dflt) (eT.lst (ro1_q1 xs out i).snd.snd.snd.snd.snd.length (eT.els (ro1_q1 xs out i).snd.snd.snd.snd.snd))).length else (ro1_q1 xs out i).snd.snd.snd.snd.snd.length) → eT.Ok ((bif (ro1_q1 xs out i).snd.snd.snd.fst then eT.els (insP ((ro1_q1 xs out i).snd.fst.getD (ro1_q1 xs out i).snd.snd.fst.toNat eT.dflt) (eT.lst (ro1_q1 xs out i).snd.snd.snd.snd.snd.length (eT.els (ro1_q1 xs out i).snd.snd.snd.snd.snd))) else eT.els (ro1_q1 xs out i).snd.snd.snd.snd.snd) e)) ∧ (decide (i < (↑xs.length : Int)) = false → (∀ (e : Nat), e < xs.length → eT.Ok (eT.els xs e)) ∧ ∀ (e : Nat), e < out.length → eT.Ok (eT.els out e))
theorem ro1_one : ((loopsOf Try.prog 31).filter fun c => Nat.beq (lkey c) 6).length = 1 := by kernel_rfl
abbrev ro1_GC : Type := List T
abbrev ro1_GB : Type := List T
def ro1_f (g : ro1_G) : Int × ro1_GC × ro1_GB := (g.2.2, g.1, g.2.1)
def ro1_g (d : Int × ro1_GC × ro1_GB) : ro1_G := (d.2.1, d.2.2, d.1)
theorem ro1_es (g : ro1_G) : (ro1_R g.1 g.2.1 g.2.2).1 = .normal ∨ (ro1_R g.1 g.2.1 g.2.2).1 ∈ ([.exit 0] : List Ex) := by
  unfold ro1_R
  repeat' (first | (left; rfl) | (right; simp only [cond_true, cond_false]; simp; done) | (rw [Bool.cond_eq_ite]; split))
noncomputable abbrev ro1_C (Inv : ro1_G → List Prop) (m : ro1_G → Nat) : LCon := loopR [.exit 0] (loopBody Try.prog 31 6) ro1_LP [] 64 Inv (fun g => ro1_R g.1 g.2.1 g.2.2) m
theorem ro1_loop (Inv : ro1_G → List Prop) (m : ro1_G → Nat) (hs : ∀ g, allP (Inv g) → ro1_side g.1 g.2.1 g.2.2) (hg : Goes (fun g : ro1_G => ro1_R g.1 g.2.1 g.2.2) m fun g => allP (Inv g)) : ∀ b ∈ loopsOf Try.prog 31, lkey b = 6 → LoopOk Try.prog b (ro1_C Inv m).g := loop_run (Γ := (PTab.gamz tabR [] [])) (Λ := lamK) (PTab.okz tabR [] []) lamK_ok 100 31 6 64 ro1_LP [] Inv (fun g => ro1_R g.1 g.2.1 g.2.2) (fun g => ro1_side g.1 g.2.1 g.2.2) m default [.exit 0] ro1_one (fun rd T B HL HB ds g => by kernel_rfl) (fun rd T B HL HB ds g => by kernel_rfl) hs hg ro1_es
abbrev ic_G : Type := List T × List T × Int × Int × Int
noncomputable def ic_LP : LP 0 ic_G := .pair (.slot 0 0 dLT) (.pair (.slot 0 1 dFl) (.pair (.slot 0 7 dI) (.pair (.slot 0 8 dI) (.slot 0 4 dI))))
noncomputable def ic_R (xs : List T) (l : List T) (n : Int) (i : Int) (r : Int) : Ex × ic_G :=
  bif decide (i < n) then bif !(eT.lst l.length (eT.els l)).any fun x => tleq_F x (xs.getD i.toNat eT.dflt) then (Ex.ret, eT.lst xs.length (eT.els xs), eT.lst l.length (eT.els l), n, i, i) else (Ex.normal, eT.lst xs.length (eT.els xs), eT.lst l.length (eT.els l), n, IntKind.i64.wrap (i + (1 : Int)), r)
  else (Ex.exit (0 : Nat), eT.lst xs.length (eT.els xs), eT.lst l.length (eT.els l), n, i, r)
def ic_side (xs : List T) (l : List T) (n : Int) (i : Int) (r : Int) : Prop :=
  (decide (i < n) = true → ((0 : Int) ≤ i ∧ i < (↑xs.length : Int)) ∧ (∀ (e : Nat), e < l.length → eT.Ok (eT.els l e)) ∧ ((!(eT.lst l.length (eT.els l)).any fun x => tleq_F x (xs.getD i.toNat eT.dflt)) = true → (∀ (e : Nat), e < xs.length → eT.Ok (eT.els xs e)) ∧ ∀ (e : Nat), e < l.length → eT.Ok (eT.els l e)) ∧ ((!(eT.lst l.length (eT.els l)).any fun x => tleq_F x (xs.getD i.toNat eT.dflt)) = false → (∀ (e : Nat), e < xs.length → eT.Ok (eT.els xs e)) ∧ ∀ (e : Nat), e < l.length → eT.Ok (eT.els l e))) ∧ (decide (i < n) = false → (∀ (e : Nat), e < xs.length → eT.Ok (eT.els xs e)) ∧ ∀ (e : Nat), e < l.length → eT.Ok (eT.els l e))
theorem ic_one : ((loopsOf Try.prog 120).filter fun c => Nat.beq (lkey c) 2).length = 1 := by kernel_rfl
abbrev ic_GC : Type := List T × List T × Int
abbrev ic_GB : Type := Int
def ic_f (g : ic_G) : Int × ic_GC × ic_GB := (g.2.2.2.1, (g.1, g.2.1, g.2.2.1), g.2.2.2.2)
def ic_g (d : Int × ic_GC × ic_GB) : ic_G := (d.2.1.1, d.2.1.2.1, d.2.1.2.2, d.1, d.2.2)
theorem ic_es (g : ic_G) : (ic_R g.1 g.2.1 g.2.2.1 g.2.2.2.1 g.2.2.2.2).1 = .normal ∨ (ic_R g.1 g.2.1 g.2.2.1 g.2.2.2.1 g.2.2.2.2).1 ∈ ([.ret, .exit 0] : List Ex) := by
  unfold ic_R
  repeat' (first | (left; rfl) | (right; simp only [cond_true, cond_false]; simp; done) | (rw [Bool.cond_eq_ite]; split))
noncomputable abbrev ic_C (Inv : ic_G → List Prop) (m : ic_G → Nat) : LCon := loopR [.ret, .exit 0] (loopBody Try.prog 120 2) ic_LP [] 19 Inv (fun g => ic_R g.1 g.2.1 g.2.2.1 g.2.2.2.1 g.2.2.2.2) m
theorem ic_loop (Inv : ic_G → List Prop) (m : ic_G → Nat) (hs : ∀ g, allP (Inv g) → ic_side g.1 g.2.1 g.2.2.1 g.2.2.2.1 g.2.2.2.2) (hg : Goes (fun g : ic_G => ic_R g.1 g.2.1 g.2.2.1 g.2.2.2.1 g.2.2.2.2) m fun g => allP (Inv g)) : ∀ b ∈ loopsOf Try.prog 120, lkey b = 2 → LoopOk Try.prog b (ic_C Inv m).g := loop_run (Γ := (PTab.gamz tabR [] [])) (Λ := lamK) (PTab.okz tabR [] []) lamK_ok 100 120 2 19 ic_LP [] Inv (fun g => ic_R g.1 g.2.1 g.2.2.1 g.2.2.2.1 g.2.2.2.2) (fun g => ic_side g.1 g.2.1 g.2.2.1 g.2.2.2.1 g.2.2.2.2) m default [.ret, .exit 0] ic_one (fun rd T B HL HB ds g => by kernel_rfl) (fun rd T B HL HB ds g => by kernel_rfl) hs hg ic_es
noncomputable def tabX31 : PTab Try.prog := tabR
end Go.Proofs.Ytiipneclghnfhaa

/- Chapter 3: the document's Check is Check; its Of: the loop; Leq: contracts. -/
namespace Go.Proofs.Ytiipneclghnfhaa
open Go.RowKit Go.Sx Go.Lp
theorem any_take {α : Type} (d : α) (l : List α) (i : Nat) (p : α → Bool) : (l.take i).any p = false ↔ ∀ j, j < i → j < l.length → p (l.getD j d) = false := by
  rw [List.any_eq_false]
  constructor
  · intro h j h1 h2
    have : l.getD j d ∈ l.take i := by
      rw [List.getD_eq_getElem?_getD, List.getElem?_eq_getElem h2]
      exact List.mem_take_iff_getElem.2 ⟨j, by omega, rfl⟩
    simpa using h _ this
  · intro h x hx
    obtain ⟨j, hj, rfl⟩ := List.mem_take_iff_getElem.1 hx
    have := h j (by omega) (by omega)
    rw [List.getD_eq_getElem?_getD, List.getElem?_eq_getElem (by omega)] at this
    simpa using this
theorem clashes_false (l : List T) : clashes l = false ↔ ∀ k j, k < l.length → j < k → clash (l.getD j eT.dflt) (l.getD k eT.dflt) = false := by
  unfold clashes
  rw [List.any_eq_false]
  constructor
  · intro h k j hk hj
    have := h k (List.mem_range.2 hk)
    rw [Bool.not_eq_true, any_take eT.dflt] at this
    exact this j hj (by omega)
  · intro h k hk
    have hk := List.mem_range.1 hk
    rw [Bool.not_eq_true, any_take eT.dflt]
    exact fun j hj _ => h k j hk hj
theorem rkany_false (l : List T) : rkany l = false ↔ ∀ k, k < l.length → (0 < k → tcmp_F (l.getD (k - 1) eT.dflt) (l.getD k eT.dflt) < 0) ∧ ∀ j, j < l.length → j ≠ k → tleq_F (l.getD j eT.dflt) (l.getD k eT.dflt) = false := by
  unfold rkany rkbad rkin
  rw [List.any_eq_false]
  constructor
  · intro h k hk
    have := h k (List.mem_range.2 hk)
    simp only [Bool.or_eq_true, not_or, Bool.and_eq_true, decide_eq_true_eq, not_and, List.any_eq_true, not_exists, List.mem_range, Bool.not_eq_true] at this
    exact ⟨fun h0 => Int.not_le.1 (this.1 h0), fun j hj hn => this.2 j hj hn⟩
  · intro h k hk
    have hk := List.mem_range.1 hk
    obtain ⟨h1, h2⟩ := h k hk
    simp only [Bool.or_eq_true, not_or, Bool.and_eq_true, decide_eq_true_eq, not_and, List.any_eq_true, not_exists, List.mem_range, Bool.not_eq_true]
    exact ⟨fun h0 => Int.not_le.2 (h1 h0), fun j hj hn => h2 j hj hn⟩
theorem clash_false (u v : T) : clash u v = false ↔ tcmp_F u v < 0 ∧ tleq_F u v = false ∧ tleq_F v u = false := by
  unfold clash
  simp only [Bool.or_eq_false_iff, decide_eq_false_iff_not, ge_iff_le, Int.not_le]
theorem rk_clashes (l : List T) : rkany l = clashes l := by
  have h : rkany l = false ↔ clashes l = false := by
    rw [rkany_false, clashes_false]
    constructor
    · intro h
      have hlt : ∀ k j, k < l.length → j < k → tcmp_F (l.getD j eT.dflt) (l.getD k eT.dflt) < 0 := by
        intro k
        induction k with
        | zero => intro j _ hj; omega
        | succ k ih =>
          intro j hk hj
          have h1 := (h (k + 1) hk).1 (by omega)
          simp only [Nat.add_sub_cancel] at h1
          by_cases hjk : j = k
          · rw [hjk]; exact h1
          · exact toT.trans (ih j (by omega) (by omega)) h1
      intro k j hk hj
      exact (clash_false _ _).2 ⟨hlt k j hk hj, (h k hk).2 j (by omega) (by omega), (h j (by omega)).2 k hk (by omega)⟩
    · intro h k hk
      refine ⟨fun h0 => ((clash_false _ _).1 (h k (k - 1) hk (by omega))).1, fun j hj hn => ?_⟩
      rcases Nat.lt_or_ge j k with hlt | hge
      · exact ((clash_false _ _).1 (h k j hk hlt)).2.1
      · exact ((clash_false _ _).1 (h j k hj (by omega))).2.2
  cases h1 : rkany l with
  | false => exact (h.1 h1).symm
  | true =>
    cases h2 : clashes l with
    | true => rfl
    | false => rw [h.2 h2] at h1; cases h1
theorem rchk_eq (xs : List T) (h : xs.length ≤ maxLen) : rchk_F xs = chkC xs ∧ rchk_side xs := by
  unfold rchk_F rchk_side rchk_q1 chkC
  simp only [eT.lst_els]
  have hr := rk1_run xs h 0
  rw [rk_clashes] at hr
  refine ⟨?_, fun _ => ⟨okT xs, fun _ => ⟨okT xs, ixJ0 rfl h trivial⟩⟩⟩
  have h1 : (loopF (fun g : rk1_G => rk1_R g.1 g.2.1 g.2.2) rk1_M (xs, 0, 0)).1 = _ := hr.1
  have h2 : (loopF (fun g : rk1_G => rk1_R g.1 g.2.1 g.2.2) rk1_M (xs, 0, 0)).2.2.2 = _ := hr.2
  rw [h1, h2]
  cases clashes xs <;> rfl
theorem rchk_ok : FnPure Try.prog 22 aL dI chkC (fun _ => []) :=
  pure_congr (rchk_okS (fun _ => []) fun g hb _ => (rchk_eq g hb.1).2) fun g hb _ => (rchk_eq g hb.1).1
/-- Each of xs is covered by ys. -/
noncomputable def leqC (ys xs : List T) : Bool := xs.all fun v => ys.any (tleq_F · v)
theorem any_not_all {α : Type} (p : α → Bool) : ∀ l : List α, (l.any fun v => !p v) = !(l.all p)
  | [] => rfl
  | a :: l => by simp only [List.any_cons, List.all_cons, any_not_all p l, Bool.not_and]
theorem rlq_eq (ys xs : List T) (h : xs.length ≤ maxLen) : rlq_F ys xs = leqC ys xs := by
  unfold rlq_F rlq_q1 leqC
  simp only [eT.lst_els]
  have h1 : loopF (fun g : rl_G => rl_R g.1 g.2.1 g.2.2.1 g.2.2.2) rl_M (ys, xs, 0, false) = _ := rl_run (ys, xs) false rfl h trivial
  rw [h1]
  have hn := any_not_all (fun v => ys.any (tleq_F · v)) xs
  rcases search (x := 0) (st := rl_S (ys, xs)) (p := fun v => !ys.any (tleq_F · v)) (r := fun _ _ _ => false) (fun _ _ _ => rfl) xs false with ⟨ha, j, hj, a, _, _, h2⟩ | ⟨ha, h2⟩
  · have h2 : scan 0 (rl_S (ys, xs)) 0 xs false = _ := h2
    rw [ha] at hn
    rw [h2, show (xs.all fun v => ys.any (tleq_F · v)) = false by simpa using hn.symm]; rfl
  · have h2 : scan 0 (rl_S (ys, xs)) 0 xs false = _ := h2
    rw [ha] at hn
    rw [h2, show (xs.all fun v => ys.any (tleq_F · v)) = true by simpa using hn.symm]; rfl
theorem rlq_ok : FnPure Try.prog 56 aLL dBool (fun g => leqC g.1 g.2) (fun _ => []) := by
  refine pure_congr (rlq_okS (fun _ => []) fun g hb _ => ?_) fun g hb _ => rlq_eq g.1 g.2 hb.2.1
  obtain ⟨ys, xs⟩ := g
  have hl : xs.length ≤ maxLen := hb.2.1
  show rlq_side ys xs
  unfold rlq_side
  simp only [eT.lst_els]
  exact ⟨okT ys, okT xs, ixJ0 rfl hl trivial⟩
/-! ### the document's Of: the loop -/
theorem ro2_fold (v : T) : ∀ (l : List T) (z : Bool), l.foldl (fun z u => !(!eqT u v && rtleq_F u v) && z) z = (z && isMin tleq_F l v)
  | [], z => by simp [isMin]
  | a :: l, z => by
    rw [List.foldl_cons, ro2_fold v l]
    unfold isMin eqT
    simp only [List.any_cons, rtleq_eq]
    cases hc : decide (a = v) with
    | true =>
      have hc := of_decide_eq_true hc
      simp [hc]
    | false =>
      have hc := of_decide_eq_false hc
      simp only [ne_eq, hc, not_false_eq_true, decide_true, Bool.true_and, Bool.not_false, Bool.not_or]
      cases tleq_F a v <;> cases z <;> simp
theorem ro1_q (xs out : List T) (i : Int) (hi : 0 ≤ i ∧ i < (xs.length : Int)) (hm : xs.length ≤ maxLen) : ro1_q1 xs out i = (.exit 2, xs, i, !decide (xs.getD i.toNat eT.dflt ∈ out) && isMin tleq_F xs (xs.getD i.toNat eT.dflt), (xs.length : Int), out) := by
  unfold ro1_q1
  simp only [eT.lst_els]
  generalize hz : (!decide (xs.getD i.toNat eT.dflt ∈ out)) = z0
  have h1 : loopF (fun g : ro2_G => ro2_R g.1 g.2.1 g.2.2.1 g.2.2.2.1 g.2.2.2.2) ro2_M (xs, i, z0, 0, out) = _ := ro2_run (xs, i, out) z0 rfl hm hi
  rw [h1]
  have hs := scan_fold (x := 2) (st := ro2_S (xs, i, out)) (f := fun (z : Bool) u => !(!eqT u (xs.getD i.toNat eT.dflt) && rtleq_F u (xs.getD i.toNat eT.dflt)) && z) (fun _ _ _ => rfl) xs 0 z0
  have hs : scan 2 (ro2_S (xs, i, out)) 0 xs z0 = _ := hs
  rw [ro2_fold] at hs
  show ((scan 2 (ro2_S (xs, i, out)) 0 xs z0).1, ro2_g ((scan 2 (ro2_S (xs, i, out)) 0 xs z0).2.1, (xs, i, out), (scan 2 (ro2_S (xs, i, out)) 0 xs z0).2.2)) = _
  rw [hs, Int.zero_add]
  rfl
noncomputable def ro_st (xs out : List T) (v : T) : List T := bif !decide (v ∈ out) && isMin tleq_F xs v then insP v out else out
noncomputable def ro1_S (c : ro1_GC) (b : ro1_GB) (_ : Int) (v : T) : Ex × ro1_GB := (.normal, ro_st c b v)
def ro1_K (c : ro1_GC) (b : ro1_GB) (i : Int) : Prop := List.length c ≤ KS ∧ (List.length b : Int) ≤ i
abbrev ro1_I (g : ro1_G) : List Prop := ixI (fun c : ro1_GC => (List.length c : Int)) (fun c => c) ro1_K (ro1_f g)
abbrev ro1_M (g : ro1_G) : Nat := ixM (fun c : ro1_GC => (List.length c : Int)) (ro1_f g)
theorem ro_len (xs out : List T) (v : T) : (ro_st xs out v).length ≤ out.length + 1 := by
  unfold ro_st
  generalize (!decide (v ∈ out) && isMin tleq_F xs v) = c
  cases c with
  | true => simp only [cond_true, insP_len]; omega
  | false => simp only [cond_false]; omega
theorem ro1_P : ixP ro1_S (fun c : ro1_GC => c) ro1_K := by
  rintro xs out i a ⟨h1, h2⟩ _ _
  have := ro_len xs out a
  have h2 : (List.length out : Int) ≤ (i : Int) := h2
  exact ⟨h1, by show ((ro_st xs out a).length : Int) ≤ (i : Int) + 1; omega⟩
noncomputable abbrev ro1_RR (g : ro1_G) : Ex × ro1_G := ro1_R g.1 g.2.1 g.2.2
theorem ro1_RF (d : Int × ro1_GC × ro1_GB) (hi : allP (ixI (fun c : ro1_GC => (List.length c : Int)) (fun c => c) ro1_K d)) : ro1_RR (ro1_g d) = ((ixF 0 (fun c : ro1_GC => (List.length c : Int)) (fun c => c) eT.dflt ro1_S d).1, ro1_g (ixF 0 (fun c : ro1_GC => (List.length c : Int)) (fun c => c) eT.dflt ro1_S d).2) := by
  obtain ⟨h1, h2, h3, h4, h5⟩ := hi _ (List.mem_cons_self ..)
  obtain ⟨i, xs, out⟩ := d
  have h3 : 0 ≤ i := h3
  have h2 : xs.length ≤ maxLen := h2
  show ro1_R xs out i = _
  unfold ro1_R ixF ro1_S ro_st
  by_cases hc : i < (xs.length : Int)
  · rw [ro1_q xs out i ⟨h3, hc⟩ h2]
    simp only [hc, decide_true, cond_true, eT.lst_els, eT.lst_bif]
    rfl
  · simp only [hc, decide_false, cond_false, eT.lst_els]
    rfl
theorem ok_bif (z : Bool) (a b : List T) : ∀ e : Nat, (e < bif z then a.length else b.length) → eT.Ok ((bif z then eT.els a else eT.els b) e) := by
  cases z with
  | true => exact okT a
  | false => exact okT b
theorem ro1_ok : ∀ b ∈ loopsOf Try.prog 31, lkey b = 6 → LoopOk Try.prog b (ro1_C ro1_I ro1_M).g := by
  refine ro1_loop ro1_I ro1_M (fun g hi => ?_) (ix_conj_goes (fun _ => rfl) (fun _ => rfl) ro1_RF ro1_P)
  obtain ⟨xs, out, i⟩ := g
  obtain ⟨h1, h2, h3, h4, h5, h6⟩ := hi _ (List.mem_cons_self ..)
  have h2 : xs.length ≤ maxLen := h2
  have h3 : 0 ≤ i := h3
  have h5 : xs.length ≤ KS := h5
  have h6 : (out.length : Int) ≤ i := h6
  have h4 : i ≤ (xs.length : Int) := h4
  have ka := okT xs
  have kb := okT out
  show ro1_side xs out i
  unfold ro1_side
  refine ⟨fun hc => ?_, fun _ => ⟨ka, kb⟩⟩
  have hc : i < (xs.length : Int) := of_decide_eq_true hc
  rw [ro1_q xs out i ⟨h3, hc⟩ h2]
  simp only [eT.lst_els]
  exact ⟨⟨h3, hc⟩, kb, ka, kb, ixJ0 rfl h2 ⟨h3, hc⟩, fun _ => ⟨h3, hc⟩, fun _ => kb, fun _ => by omega, ka, ok_bif _ _ _⟩
noncomputable def tabS : PTab Try.prog := (tabR.cons 22 (pconP aL dI chkC (fun _ => [])) (conP_ok rchk_ok puI)).cons 56 (pconP aLL dBool (fun g => leqC g.1 g.2) (fun _ => [])) (conP_ok rlq_ok puB)
noncomputable def ltM : LTab Try.prog := ltK.cons 31 6 (ro1_C ro1_I ro1_M) ro1_ok
noncomputable abbrev lamM : Lam := ltM.lam
theorem lamM_ok : ∀ f k L, lamM f k = some L → ∀ b ∈ loopsOf Try.prog f, lkey b = k → LoopOk Try.prog b L.g := ltM.ok
end Go.Proofs.Ytiipneclghnfhaa

/- Chapter 3: the document's Of. Printed by treegen.py. -/
namespace Go.Proofs.Ytiipneclghnfhaa
open Go.RowKit Go.Sx
set_option maxRecDepth 100000
set_option linter.unusedVariables false
abbrev dLE : Dv (List T × Int) := .tup (.cons dLT (.one dI))
noncomputable def rof_q1 (xs : List T) : Ex ×
  ro1_G :=
  loopF (fun g => ro1_R g.fst g.snd.fst g.snd.snd) ro1_M (eT.lst xs.length (eT.els xs), [], (0 : Int))
noncomputable def rof_F (xs : List T) : Dv.T dLE :=
  bif badC (eT.lst xs.length (eT.els xs)) != (0 : Int) then ([], badC (eT.lst xs.length (eT.els xs)))
  else bif decide ((↑(rof_q1 xs).snd.snd.fst.length : Int) > (1024 : Int)) then ([], (3 : Int)) else (eT.lst (rof_q1 xs).snd.snd.fst.length (eT.els (rof_q1 xs).snd.snd.fst), (0 : Int))
def rof_side (xs : List T) : Prop :=
  (∀ (e : Nat), e < xs.length → eT.Ok (eT.els xs e)) ∧ ((badC (eT.lst xs.length (eT.els xs)) != (0 : Int)) = false → (∀ (e : Nat), e < xs.length → eT.Ok (eT.els xs e)) ∧ Lp.ixJ (fun c => (↑(List.length c) : Int)) (fun c => c) ro1_K (ro1_f (eT.lst xs.length (eT.els xs), [], (0 : Int))) ∧ (decide ((↑(rof_q1 xs).snd.snd.fst.length : Int) > (1024 : Int)) = false → ∀ (e : Nat), e < (rof_q1 xs).snd.snd.fst.length → eT.Ok (eT.els (rof_q1 xs).snd.snd.fst e)))
theorem rof_okS (pre : DA.T aL → List Prop) (h : ∀ g, DA.bd aL g → (∀ p ∈ pre g, p) → rof_side g) : FnPure Try.prog 31 aL dLE (fun g => rof_F g) pre := pure_of_sideS (Γ := (PTab.gamz tabS [] [])) (Λ := lamM) (PTab.okz tabS [] []) lamM_ok 100 default (fun g => rof_side g) (fun g => by kernel_rfl) (fun g => by kernel_rfl) h
noncomputable def tabX33 : PTab Try.prog := tabS
end Go.Proofs.Ytiipneclghnfhaa

/- Chapter 3: the first that is not covered: the loop's contract. Printed by ixgen.py. -/
namespace Go.Proofs.Ytiipneclghnfhaa
open Go.RowKit Go.Sx Go.Lp
set_option maxRecDepth 100000
noncomputable def ic_S (c : ic_GC) (b : ic_GB) (i : Int) (v : T) : Ex × ic_GB := bif !c.2.1.any fun x => tleq_F x v then (.ret, i) else (.normal, b)
def ic_K (c : ic_GC) (b : ic_GB) (i : Int) : Prop := True
abbrev ic_I (g : ic_G) : List Prop := ixI (fun c : ic_GC => c.2.2) (fun c : ic_GC => c.1) ic_K (ic_f g)
abbrev ic_M (g : ic_G) : Nat := ixM (fun c : ic_GC => c.2.2) (ic_f g)
theorem ic_P : ixP ic_S (fun c : ic_GC => c.1) ic_K := fun _ _ _ _ h _ _ => h
noncomputable abbrev ic_RR (g : ic_G) : Ex × ic_G := ic_R g.1 g.2.1 g.2.2.1 g.2.2.2.1 g.2.2.2.2
theorem ic_RF (d : Int × ic_GC × ic_GB) (_ : allP (ixI (fun c : ic_GC => c.2.2) (fun c : ic_GC => c.1) ic_K d)) : ic_RR (ic_g d) = ((ixF 0 (fun c : ic_GC => c.2.2) (fun c : ic_GC => c.1) eT.dflt ic_S d).1, ic_g (ixF 0 (fun c : ic_GC => c.2.2) (fun c : ic_GC => c.1) eT.dflt ic_S d).2) := by
  obtain ⟨i, ⟨xs, l, n⟩, r⟩ := d
  show ic_R xs l n i r = _
  unfold ic_R ixF ic_S
  simp only [eT.lst_els]
  cases decide (i < n) with
  | false => rfl
  | true =>
    simp only [cond_true]
    generalize (!l.any fun x => tleq_F x (xs.getD i.toNat eT.dflt)) = z
    cases z <;> rfl
theorem ic_ok : ∀ b ∈ loopsOf Try.prog 120, lkey b = 2 → LoopOk Try.prog b (ic_C ic_I ic_M).g := by
  refine ic_loop ic_I ic_M (fun g hi => ?_) (ix_conj_goes (fun _ => rfl) (fun _ => rfl) ic_RF ic_P)
  obtain ⟨xs, l, n, i, r⟩ := g
  obtain ⟨h1, h2, h3, h4, h5⟩ := hi _ (List.mem_cons_self ..)
  have h1 : n = (xs.length : Int) := h1
  have h3 : 0 ≤ i := h3
  have h5 : True := h5
  show ic_side xs l n i r
  unfold ic_side
  simp only [decide_eq_true_eq, decide_eq_false_iff_not]
  have k0 : ∀ e : Nat, e < xs.length → eT.Ok (eT.els xs e) := fun e _ => eT.ok_els xs e
  have k1 : ∀ e : Nat, e < l.length → eT.Ok (eT.els l e) := fun e _ => eT.ok_els l e
  clear hi
  repeat' (first | exact k0 | exact k1 | apply And.intro | intro _)
  all_goals omega
theorem ic_run (c : ic_GC) (b : ic_GB) (k1 : c.2.2 = ((c.1).length : Int)) (k2 : (c.1).length ≤ maxLen) (k3 : ic_K c b 0) : loopF ic_RR ic_M (ic_g (0, c, b)) = ((scan 0 (ic_S c) 0 (c.1) b).1, ic_g ((scan 0 (ic_S c) 0 (c.1) b).2.1, c, (scan 0 (ic_S c) 0 (c.1) b).2.2)) := ix_conj_run (φ := ic_f) (ψ := ic_g) (fun _ => rfl) (fun _ => rfl) ic_RF ic_P c b k1 k2 k3
noncomputable def ltC : LTab Try.prog := (LTab.nil.cons 120 2 (ic_C ic_I ic_M) ic_ok)
noncomputable abbrev lamC : Lam := ltC.lam
theorem lamC_ok : ∀ f k L, lamC f k = some L → ∀ b ∈ loopsOf Try.prog f, lkey b = k → LoopOk Try.prog b L.g := ltC.ok
end Go.Proofs.Ytiipneclghnfhaa

/- Chapter 3: the first that is not covered. Printed by treegen.py. -/
namespace Go.Proofs.Ytiipneclghnfhaa
open Go.RowKit Go.Sx
set_option maxRecDepth 100000
set_option linter.unusedVariables false
noncomputable def ixc_q1 (xs : List T) (l : List T) : Ex ×
  ic_G :=
  loopF (fun g => ic_R g.fst g.snd.fst g.snd.snd.fst g.snd.snd.snd.fst g.snd.snd.snd.snd) ic_M (eT.lst xs.length (eT.els xs), eT.lst l.length (eT.els l), (↑xs.length : Int), (0 : Int), (0 : Int))
noncomputable def ixc_F (xs : List T) (l : List T) : Dv.T dI :=
  bif exB Ex.ret (ixc_q1 xs l).fst then (ixc_q1 xs l).snd.snd.snd.snd.snd else (-1 : Int)
def ixc_side (xs : List T) (l : List T) : Prop :=
  (∀ (e : Nat), e < xs.length → eT.Ok (eT.els xs e)) ∧ (∀ (e : Nat), e < l.length → eT.Ok (eT.els l e)) ∧ Lp.ixJ (fun c => c.snd.snd) (fun c => c.fst) ic_K (ic_f (eT.lst xs.length (eT.els xs), eT.lst l.length (eT.els l), (↑xs.length : Int), (0 : Int), (0 : Int)))
theorem ixc_okS (pre : DA.T aFl → List Prop) (h : ∀ g, DA.bd aFl g → (∀ p ∈ pre g, p) → ixc_side g.1 g.2) : FnPure Try.prog 120 aFl dI (fun g => ixc_F g.1 g.2) pre := pure_of_sideS (Γ := (PTab.gamz tabS [] [])) (Λ := lamC) (PTab.okz tabS [] []) lamC_ok 100 default (fun g => ixc_side g.1 g.2) (fun g => by kernel_rfl) (fun g => by kernel_rfl) h
noncomputable def tabX35 : PTab Try.prog := tabS
end Go.Proofs.Ytiipneclghnfhaa

/- Chapter 3: the document's Of: the least; the first that is not covered. -/
namespace Go.Proofs.Ytiipneclghnfhaa
open Go.RowKit Go.Sx Go.Lp
noncomputable abbrev cfT (a b : T) : Int := tcmp_F a b
noncomputable def minsT (xs : List T) : List T := mins cfT tleq_F xs
theorem insU_same (v : T) : ∀ {b : List T}, b.Pairwise (fun x y => cfT x y < 0) → v ∈ b → insU cfT v b = b
  | y :: r, hs, hv => by
    rw [List.pairwise_cons] at hs
    unfold insU
    by_cases h : y = v
    · rw [if_pos h]
    · have hr : v ∈ r := by
        rcases List.mem_cons.1 hv with e | e
        · exact absurd e.symm h
        · exact e
      rw [if_neg h, if_neg (toT.asymm (hs.1 v hr)), insU_same v hs.2 hr]
theorem ro_st_eq (xs : List T) {b : List T} (hs : b.Pairwise (fun x y => cfT x y < 0)) (v : T) : ro_st xs b v = if isMin tleq_F xs v = true then insU cfT v b else b := by
  unfold ro_st
  by_cases hv : v ∈ b
  · rw [insU_same v hs hv]
    simp [hv]
  · rw [insP_U v hv]
    simp only [hv, decide_false, Bool.not_false, Bool.true_and]
    cases isMin tleq_F xs v <;> rfl
theorem ro_fold (xs : List T) : ∀ (l : List T) (b : List T), b.Pairwise (fun x y => cfT x y < 0) → l.foldl (ro_st xs) b = (l.filter (isMin tleq_F xs)).foldl (fun l s => insU cfT s l) b
  | [], _, _ => rfl
  | v :: l, b, hs => by
    rw [List.foldl_cons, ro_st_eq xs hs, List.filter_cons]
    split
    · rw [List.foldl_cons]
      exact ro_fold xs l _ (insU_strict toT hs)
    · exact ro_fold xs l _ hs
theorem ro_mins (xs : List T) : xs.foldl (ro_st xs) [] = minsT xs := by
  unfold minsT
  rw [mins_put toT]
  exact ro_fold xs xs [] List.Pairwise.nil
noncomputable def ofC (xs : List T) : List T × Int := bif badC xs != 0 then ([], badC xs) else bif decide (((minsT xs).length : Int) > 1024) then ([], 3) else (minsT xs, 0)
theorem rof_eq (xs : List T) (h : xs.length ≤ KS) : rof_F xs = ofC xs ∧ rof_side xs := by
  have hm : xs.length ≤ maxLen := by unfold KS at h; unfold maxLen; omega
  unfold rof_F rof_side rof_q1 ofC
  simp only [eT.lst_els]
  have h1 : loopF (fun g : ro1_G => ro1_R g.1 g.2.1 g.2.2) ro1_M (xs, [], 0) = _ := ix_conj_run (φ := ro1_f) (ψ := ro1_g) (fun _ => rfl) (fun _ => rfl) ro1_RF ro1_P xs [] rfl hm ⟨h, Int.le_refl _⟩
  have hs := scan_fold (x := 0) (st := ro1_S xs) (f := ro_st xs) (fun _ _ _ => rfl) xs 0 []
  rw [ro_mins] at hs
  have h2 : (loopF (fun g : ro1_G => ro1_R g.1 g.2.1 g.2.2) ro1_M (xs, [], 0)).2.2.1 = minsT xs := by
    rw [h1]
    exact congrArg (·.2.2) hs
  rw [h2]
  exact ⟨rfl, okT xs, fun _ => ⟨okT xs, ixJ0 rfl hm ⟨h, Int.le_refl _⟩, fun _ => okT _⟩⟩
theorem rof_ok : FnPure Try.prog 31 aL dLE ofC (fun g => [g.length ≤ KS]) :=
  pure_congr (rof_okS _ fun g _ hp => (rof_eq g (hp _ (List.mem_cons_self ..))).2) fun g _ hp => (rof_eq g (hp _ (List.mem_cons_self ..))).1
theorem ixc_pos (xs l : List T) (h : xs.length ≤ maxLen) : decide (ixc_F xs l ≥ 0) = xs.any (fun v => !l.any (tleq_F · v)) := by
  unfold ixc_F ixc_q1
  simp only [eT.lst_els]
  have h1 : loopF (fun g : ic_G => ic_R g.1 g.2.1 g.2.2.1 g.2.2.2.1 g.2.2.2.2) ic_M (xs, l, (xs.length : Int), 0, 0) = _ := ic_run (xs, l, (xs.length : Int)) (0 : Int) rfl h trivial
  rw [h1]
  rcases search (x := 0) (st := ic_S (xs, l, (xs.length : Int))) (p := fun v => !l.any (tleq_F · v)) (r := fun i _ _ => i) (fun _ _ _ => rfl) xs 0 with ⟨ha, j, hj, a, _, _, h2⟩ | ⟨ha, h2⟩
  · have h2 : scan 0 (ic_S (xs, l, (xs.length : Int))) 0 xs 0 = _ := h2
    rw [h2, ha]
    show decide (j ≥ 0) = true
    exact decide_eq_true hj
  · have h2 : scan 0 (ic_S (xs, l, (xs.length : Int))) 0 xs 0 = _ := h2
    rw [h2, ha]
    rfl
theorem ixc_ok : FnPure Try.prog 120 aFl dI (fun g => ixc_F g.1 g.2) (fun _ => []) :=
  ixc_okS _ fun g hb _ => by
    obtain ⟨xs, l⟩ := g
    have hl : xs.length ≤ maxLen := hb.1.1
    show ixc_side xs l
    unfold ixc_side
    simp only [eT.lst_els]
    exact ⟨okT xs, okT l, ixJ0 rfl hl trivial⟩
noncomputable def tabU : PTab Try.prog := tabS.cons 120 (pconP aFl dI (fun g => ixc_F g.1 g.2) (fun _ => [])) (conP_ok ixc_ok puI)
end Go.Proofs.Ytiipneclghnfhaa

/- Chapter 3: chain.Of: the loop's contract. -/
namespace Go.Proofs.Ytiipneclghnfhaa
open Go.RowKit Go.Sx Go.Lp
noncomputable def of1_st (b : List T) (v : T) : List T := bif b.any (tleq_F · v) then b else b ++ [v]
noncomputable def of1_S (_ : of1_GC) (b : of1_GB) (_ : Int) (v : T) : Ex × of1_GB := (.normal, of1_st b v)
def of1_K (c : of1_GC) (b : of1_GB) (i : Int) : Prop := c.1.length ≤ KS ∧ (List.length b : Int) ≤ i
abbrev of1_I (g : of1_G) : List Prop := ixI (fun c : of1_GC => c.2) (fun c => c.1) of1_K (of1_f g)
abbrev of1_M (g : of1_G) : Nat := ixM (fun c : of1_GC => c.2) (of1_f g)
theorem of1_P : ixP of1_S (fun c : of1_GC => c.1) of1_K := by
  rintro ⟨ys, n⟩ b i a ⟨h1, h2⟩ _ _
  refine ⟨h1, ?_⟩
  have h2 : (List.length b : Int) ≤ (i : Int) := h2
  show (List.length (of1_st b a) : Int) ≤ (i : Int) + 1
  unfold of1_st
  cases b.any (tleq_F · a) <;> simp <;> omega
theorem of1_q (out ys : List T) (n i : Int) (hm : out.length ≤ maxLen) : ∃ j, of1_q1 out ys n i = bif out.any (tleq_F · (ys.getD i.toNat eT.dflt)) then (.ret, (out.length : Int), j, (), ys.getD i.toNat eT.dflt, out.length, out, (.done, some (.exit 1))) else (.exit 0, (out.length : Int), j, (), ys.getD i.toNat eT.dflt, out.length, out, (.ready, none)) := by
  unfold of1_q1
  rw [eT.lst_els]
  exact ea_run (out.length : Int) (ys.getD i.toNat eT.dflt) out rfl hm
noncomputable abbrev of1_RR (g : of1_G) : Ex × of1_G := of1_R g.1 g.2.1 g.2.2.1 g.2.2.2
theorem of1_RF (d : Int × of1_GC × of1_GB) (hi : allP (ixI (fun c : of1_GC => c.2) (fun c => c.1) of1_K d)) : of1_RR (of1_g d) = ((ixF 0 (fun c : of1_GC => c.2) (fun c => c.1) eT.dflt of1_S d).1, of1_g (ixF 0 (fun c : of1_GC => c.2) (fun c => c.1) eT.dflt of1_S d).2) := by
  obtain ⟨h1, h2, h3, h4, h5, h6⟩ := hi _ (List.mem_cons_self ..)
  obtain ⟨i, ⟨ys, n⟩, out⟩ := d
  have h5 : ys.length ≤ KS := h5
  have h4 : i ≤ (ys.length : Int) := h4
  have h6 : (List.length out : Int) ≤ i := h6
  have hm : out.length ≤ maxLen := by unfold KS at h5; unfold maxLen; omega
  obtain ⟨j, hj⟩ := of1_q out ys n i hm
  show of1_R out ys n i = _
  unfold of1_R ixF of1_S of1_st
  rw [hj]
  simp only [eT.lst_els]
  cases decide (i < n) with
  | false => rfl
  | true =>
    simp only [cond_true]
    generalize out.any (tleq_F · (ys.getD i.toNat eT.dflt)) = z
    cases z
    · simp only [cond_false]
      show (bif exB Ex.ret (.exit 0) then _ else _) = _
      simp only [eT.lst_els, lst_app1]
      rfl
    · simp only [cond_true]
      show (bif exB Ex.ret .ret then _ else _) = _
      simp only [eT.lst_els]
      rfl
theorem of1_ok : ∀ b ∈ loopsOf Try.prog 18, lkey b = 8 → LoopOk Try.prog b (of1_C of1_I of1_M).g := by
  refine of1_loop of1_I of1_M (fun g hi => ?_) (ix_conj_goes (fun _ => rfl) (fun _ => rfl) of1_RF of1_P)
  obtain ⟨out, ys, n, i⟩ := g
  obtain ⟨h1, h2, h3, h4, h5, h6⟩ := hi _ (List.mem_cons_self ..)
  have h1 : n = (ys.length : Int) := h1
  have h3 : 0 ≤ i := h3
  have h4 : i ≤ (ys.length : Int) := h4
  have h5 : ys.length ≤ KS := h5
  have h6 : (List.length out : Int) ≤ i := h6
  unfold KS at h5
  have hm : out.length ≤ maxLen := by unfold maxLen; omega
  obtain ⟨j, hj⟩ := of1_q out ys n i hm
  have ha := okT ys
  have hx := ixJ0 (lim := fun c : ea_GC => c.1) (xs := fun c : ea_GC => c.2.2.2) (P := ea_K) (c := ((out.length : Int), ys.getD i.toNat eT.dflt, out.length, out)) (b := ((), LoopState.ready, none)) rfl hm ⟨rfl, rfl⟩
  show of1_side out ys n i
  unfold of1_side
  rw [hj]
  simp only [bytesT, decide_eq_true_eq, decide_eq_false_iff_not, eT.lst_els]
  clear hi
  refine ⟨fun hc => ⟨⟨h3, by omega⟩, fun _ _ => trivial, rfl, rfl, hx, fun _ => ?_, fun _ => ?_⟩, fun _ => ⟨Nat.le_refl _, fun _ _ => trivial, ha⟩⟩
  · cases out.any (tleq_F · (ys.getD i.toNat eT.dflt)) <;> exact ⟨Nat.le_refl _, fun _ _ => trivial, ha⟩
  · have hl : out.length ≤ (bif out.any (tleq_F · (ys.getD i.toNat eT.dflt)) then ((Ex.ret, (out.length : Int), j, (), ys.getD i.toNat eT.dflt, out.length, out, (LoopState.done, some (Code.exit 1))) : Ex × ea_G) else (.exit 0, (out.length : Int), j, (), ys.getD i.toNat eT.dflt, out.length, out, (.ready, none))).2.2.2.2.2.2.1.length := by
      cases out.any (tleq_F · (ys.getD i.toNat eT.dflt)) <;> exact Nat.le_refl _
    exact ⟨⟨hl, trivial, by unfold maxLen; omega, by omega⟩, Nat.le_refl _, fun _ _ => trivial, fun _ _ => trivial, ha⟩
theorem of1_greedy : ∀ (l b : List T), l.foldl of1_st b = greedy tleq_F b l
  | [], _ => rfl
  | v :: l, b => by
    rw [List.foldl_cons, of1_greedy l]
    unfold of1_st
    rw [greedy]
theorem of1_run (ys : List T) (hm : ys.length ≤ KS) : loopF of1_RR of1_M ([], ys, (ys.length : Int), 0) = (.exit 0, greedy tleq_F [] ys, ys, (ys.length : Int), (ys.length : Int)) := by
  have hm2 : ys.length ≤ maxLen := by unfold KS at hm; unfold maxLen; omega
  have h1 : loopF of1_RR of1_M ([], ys, (ys.length : Int), 0) = _ := ix_conj_run (φ := of1_f) (ψ := of1_g) (fun _ => rfl) (fun _ => rfl) of1_RF of1_P (ys, (ys.length : Int)) [] rfl hm2 ⟨hm, Int.le_refl _⟩
  have hs := scan_fold (x := 0) (st := of1_S (ys, (ys.length : Int))) (f := of1_st) (fun _ _ _ => rfl) ys 0 []
  rw [of1_greedy] at hs
  rw [h1]
  show ((scan 0 (of1_S (ys, (ys.length : Int))) 0 ys []).1, of1_g ((scan 0 (of1_S (ys, (ys.length : Int))) 0 ys []).2.1, (ys, (ys.length : Int)), (scan 0 (of1_S (ys, (ys.length : Int))) 0 ys []).2.2)) = _
  rw [hs, Int.zero_add]
  rfl
end Go.Proofs.Ytiipneclghnfhaa

/- A loop with two contracts: by the number of blocks that are known at its head. -/
namespace Go.Sx
open Go.RowKit
def lconAlt (N : Nat) (c1 c2 : LCon) : LCon := ⟨fun σ => bif Nat.beq σ.h.nx N then c1.g σ else c2.g σ, fun σ => by
  cases Nat.beq σ.h.nx N with
  | true => exact c1.on σ
  | false => exact c2.on σ⟩
theorem altL_ok {P : Program} {b : Code} {N : Nat} {c1 c2 : LCon} (h1 : LoopOk P b c1.g) (h2 : LoopOk P b c2.g) : LoopOk P b (lconAlt N c1 c2).g := by
  intro M w0 w ρ σ a K hK hm
  have hK : (bif Nat.beq σ.h.nx N then c1.g σ else c2.g σ).Holds K := hK
  cases hc : Nat.beq σ.h.nx N with
  | true => rw [hc] at hK; exact h1 M w0 w ρ σ a K hK hm
  | false => rw [hc] at hK; exact h2 M w0 w ρ σ a K hK hm
end Go.Sx

/- Chapter 3: the least of times: the inner loop, over a row of one's own. Printed by treegen.py. -/
namespace Go.Proofs.Ytiipneclghnfhaa
open Go.RowKit Go.Sx
set_option maxRecDepth 100000
set_option linter.unusedVariables false
abbrev eb_G : Type := Int × Int × Unit × T × Nat × List T × LoopState × Option Code
noncomputable def eb_LP : LP 7 eb_G := .pair (.slot 7 6 dI) (.pair (.slot 7 7 dI) (.pair (.fix 7 0 (.yl 6)) (.pair (.obj 7 3 30 eT) (.pair (.owl 7 5 2) (.pair (.rowO 7 2 30 eT) (.rf 7 6 Try.prog 18 0 41 [(8, .p 3 0)] 5))))))
noncomputable def eb_R (n : Int) (i : Int) (_u : Unit) (t : T) (l : Nat) (out : List T) : Ex × eb_G :=
  bif decide (i < n) then bif tleq_F (out.getD i.toNat eT.dflt) t then (Ex.ret, n, i, (), t, l, eT.lst out.length (eT.els out), LoopState.done, some (Code.exit (1 : Nat))) else (Ex.normal, n, IntKind.i64.wrap (i + (1 : Int)), (), t, l, eT.lst out.length (eT.els out), LoopState.ready, none)
  else (Ex.exit (0 : Nat), n, i, (), t, l, eT.lst out.length (eT.els out), LoopState.ready, none)
def eb_side (n : Int) (i : Int) (_u : Unit) (t : T) (l : Nat) (out : List T) : Prop :=
  (decide (i < n) = true → ((0 : Int) ≤ i ∧ i < (↑l : Int)) ∧ i.toNat < out.length ∧ (tleq_F (out.getD i.toNat eT.dflt) t = true → (∀ (e : Nat), e < out.length → True) ∧ CodeIs (rangeOf Try.prog (18 : Nat) (0 : Nat)).snd.fst (rangeOf Try.prog (18 : Nat) (0 : Nat)).snd.fst ∧ CodeIs (rangeOf Try.prog (18 : Nat) (0 : Nat)).snd.snd (rangeOf Try.prog (18 : Nat) (0 : Nat)).snd.snd) ∧ (tleq_F (out.getD i.toNat eT.dflt) t = false → (∀ (e : Nat), e < out.length → True) ∧ CodeIs (rangeOf Try.prog (18 : Nat) (0 : Nat)).snd.fst (rangeOf Try.prog (18 : Nat) (0 : Nat)).snd.fst ∧ CodeIs (rangeOf Try.prog (18 : Nat) (0 : Nat)).snd.snd (rangeOf Try.prog (18 : Nat) (0 : Nat)).snd.snd)) ∧ (decide (i < n) = false → (∀ (e : Nat), e < out.length → True) ∧ CodeIs (rangeOf Try.prog (18 : Nat) (0 : Nat)).snd.fst (rangeOf Try.prog (18 : Nat) (0 : Nat)).snd.fst ∧ CodeIs (rangeOf Try.prog (18 : Nat) (0 : Nat)).snd.snd (rangeOf Try.prog (18 : Nat) (0 : Nat)).snd.snd)
theorem eb_one : ((loopsOf Try.prog 119).filter fun c => Nat.beq (lkey c) 1).length = 1 := by kernel_rfl
abbrev eb_GC : Type := Int × T × Nat × List T
abbrev eb_GB : Type := Unit × LoopState × Option Code
def eb_f (g : eb_G) : Int × eb_GC × eb_GB := (g.2.1, (g.1, g.2.2.2.1, g.2.2.2.2.1, g.2.2.2.2.2.1), (g.2.2.1, g.2.2.2.2.2.2))
def eb_g (d : Int × eb_GC × eb_GB) : eb_G := (d.2.1.1, d.1, d.2.2.1, d.2.1.2.1, d.2.1.2.2.1, d.2.1.2.2.2, d.2.2.2)
def eb_E : List ((Ex × eb_G → Bool) × Ex × (eb_G → eb_G)) := [(fun x => exB (.ret) x.1, .ret, fun g => (g.1, g.2.1, g.2.2.1, g.2.2.2.1, g.2.2.2.2.1, g.2.2.2.2.2.1, (.done, some (.exit 1)))), (fun x => exB (.exit 0) x.1, .exit 0, fun g => (g.1, g.2.1, g.2.2.1, g.2.2.2.1, g.2.2.2.2.1, g.2.2.2.2.2.1, (.ready, none)))]
theorem eb_es (g : eb_G) : (eb_R g.1 g.2.1 g.2.2.1 g.2.2.2.1 g.2.2.2.2.1 g.2.2.2.2.2.1).1 = .normal ∨ exitsOk (eb_R g.1 g.2.1 g.2.2.1 g.2.2.2.1 g.2.2.2.2.1 g.2.2.2.2.2.1) eb_E := by
  unfold eb_R
  repeat' (first | (left; rfl) | (right; exact ⟨fun _ => ⟨rfl, rfl⟩, fun h => absurd h (by simp [exB, pdB])⟩) | (right; exact ⟨fun h => absurd h (by simp [exB, pdB]), fun _ => ⟨rfl, rfl⟩⟩) | (rw [Bool.cond_eq_ite]; split))
noncomputable abbrev eb_C (Inv : eb_G → List Prop) (m : eb_G → Nat) : LCon := loopRS eb_E (loopBody Try.prog 119 1) eb_LP [] 16 Inv (fun g => eb_R g.1 g.2.1 g.2.2.1 g.2.2.2.1 g.2.2.2.2.1 g.2.2.2.2.2.1) m
noncomputable def eb_i (g : eb_G) : eb_G := (g.1, g.2.1, g.2.2.1, g.2.2.2.1, g.2.2.2.2.1, g.2.2.2.2.2.1, (LoopState.ready, none))
theorem eb_loop (Inv : eb_G → List Prop) (m : eb_G → Nat) (hs : ∀ g, allP (Inv g) → eb_side g.1 g.2.1 g.2.2.1 g.2.2.2.1 g.2.2.2.2.1 g.2.2.2.2.2.1) (hι : ∀ g, allP (Inv g) → eb_i g = g) (hg : Goes (fun g : eb_G => eb_R g.1 g.2.1 g.2.2.1 g.2.2.2.1 g.2.2.2.2.1 g.2.2.2.2.2.1) m fun g => allP (Inv g)) : ∀ b ∈ loopsOf Try.prog 119, lkey b = 1 → LoopOk Try.prog b (eb_C Inv m).g := loop_runS eb_i (Γ := (MTab.gamz tabQ [] [])) (Λ := noΛ) (MTab.okz tabQ [] []) noΛ_ok 100 119 1 16 eb_LP [] Inv (fun g => eb_R g.1 g.2.1 g.2.2.1 g.2.2.2.1 g.2.2.2.2.1 g.2.2.2.2.2.1) (fun g => eb_side g.1 g.2.1 g.2.2.1 g.2.2.2.1 g.2.2.2.2.1 g.2.2.2.2.2.1) m default eb_E eb_one (fun rd T B HL HB ds g => by kernel_rfl) (fun rd T B HL HB ds g => by kernel_rfl) hι hs hg eb_es
noncomputable def tabX44 : MTab Try.prog := tabQ
end Go.Proofs.Ytiipneclghnfhaa

/- Chapter 3: the least of times: the inner loop's contract. -/
namespace Go.Proofs.Ytiipneclghnfhaa
open Go.RowKit Go.Sx Go.Lp
noncomputable def eb_S (c : eb_GC) (_ : eb_GB) (_ : Int) (v : T) : Ex × eb_GB := bif tleq_F v c.2.1 then (.ret, (), .done, some (.exit 1)) else (.normal, (), .ready, none)
def eb_K (c : eb_GC) (b : eb_GB) (_ : Int) : Prop := b.2 = (LoopState.ready, (none : Option Code)) ∧ c.2.2.1 = c.2.2.2.length
abbrev eb_I (g : eb_G) : List Prop := ixI (fun c : eb_GC => c.1) (fun c => c.2.2.2) eb_K (eb_f g)
abbrev eb_M (g : eb_G) : Nat := ixM (fun c : eb_GC => c.1) (eb_f g)
theorem eb_P : ixP eb_S (fun c : eb_GC => c.2.2.2) eb_K := by
  rintro ⟨n, t, l, out⟩ ⟨⟨⟩, st, pd⟩ i a hk _ hn
  unfold eb_S at hn ⊢
  cases hc : tleq_F a t with
  | true => simp only [hc] at hn; cases hn
  | false => exact ⟨rfl, hk.2⟩
noncomputable abbrev eb_RR (g : eb_G) : Ex × eb_G := eb_R g.1 g.2.1 g.2.2.1 g.2.2.2.1 g.2.2.2.2.1 g.2.2.2.2.2.1
theorem eb_RF (d : Int × eb_GC × eb_GB) (hi : allP (ixI (fun c : eb_GC => c.1) (fun c => c.2.2.2) eb_K d)) : eb_RR (eb_g d) = ((ixF 0 (fun c : eb_GC => c.1) (fun c => c.2.2.2) eT.dflt eb_S d).1, eb_g (ixF 0 (fun c : eb_GC => c.1) (fun c => c.2.2.2) eT.dflt eb_S d).2) := by
  obtain ⟨hb, hl⟩ := (hi _ (List.mem_cons_self ..)).2.2.2.2
  obtain ⟨i, ⟨n, t, l, out⟩, ⟨⟨⟩, st, pd⟩⟩ := d
  have hb : (st, pd) = (LoopState.ready, (none : Option Code)) := hb
  have hl : l = out.length := hl
  subst hl
  cases hb
  show eb_R n i () t out.length out = _
  unfold eb_R ixF eb_S
  simp only [eT.lst_els]
  cases decide (i < n) with
  | false => rfl
  | true =>
    simp only [cond_true]
    generalize tleq_F (out.getD i.toNat eT.dflt) t = z
    cases z <;> rfl
theorem eb_ok : ∀ b ∈ loopsOf Try.prog 119, lkey b = 1 → LoopOk Try.prog b (eb_C eb_I eb_M).g := by
  refine eb_loop eb_I eb_M (fun g hi => ?_) (fun g hi => ?_) (ix_conj_goes (fun _ => rfl) (fun _ => rfl) eb_RF eb_P)
  · obtain ⟨n, i, ⟨⟩, t, l, out, ⟨st, pd⟩⟩ := g
    obtain ⟨h1, h2, h3, h4, h5⟩ := hi _ (List.mem_cons_self ..)
    have h1 : n = (out.length : Int) := h1
    have h3 : 0 ≤ i := h3
    show eb_side n i () t l out
    unfold eb_side
    simp only [decide_eq_true_eq, decide_eq_false_iff_not]
    have ha := okT out
    have h6 : l = out.length := h5.2
    subst h6
    clear hi
    repeat' (first | exact ha | exact rfl | apply And.intro | intro _)
    all_goals (first | trivial | omega)
  · obtain ⟨n, i, ⟨⟩, t, l, out, ⟨st, pd⟩⟩ := g
    have h5 := (hi _ (List.mem_cons_self ..)).2.2.2.2.1
    have h5 : (st, pd) = (LoopState.ready, (none : Option Code)) := h5
    cases h5
    rfl
theorem eb_run (n : Int) (t : T) (out : List T) (h1 : n = (out.length : Int)) (h2 : out.length ≤ maxLen) : ∃ j, loopF eb_RR eb_M (n, 0, (), t, out.length, out, (.ready, none)) = bif out.any (tleq_F · t) then (.ret, n, j, (), t, out.length, out, (.done, some (.exit 1))) else (.exit 0, n, j, (), t, out.length, out, (.ready, none)) := by
  have hr : loopF eb_RR eb_M (n, 0, (), t, out.length, out, (.ready, none)) = _ := ix_conj_run (φ := eb_f) (ψ := eb_g) (fun _ => rfl) (fun _ => rfl) eb_RF eb_P (n, t, out.length, out) ((), .ready, none) h1 h2 ⟨rfl, rfl⟩
  rcases scan_bad (x := 0) (st := eb_S (n, t, out.length, out)) (p := (tleq_F · t)) (r := fun _ _ => ((), LoopState.done, some (Code.exit 1))) (f := fun _ _ => ((), LoopState.ready, (none : Option Code))) (e := .ret) (by intro h; cases h) (fun _ _ _ => rfl) out 0 ((), .ready, none) with ⟨ha, h3, a, b', _, _, h4⟩ | ⟨ha, h3⟩
  · have h3 : (scan 0 (eb_S (n, t, out.length, out)) 0 out ((), .ready, none)).1 = _ := h3
    have h4 : (scan 0 (eb_S (n, t, out.length, out)) 0 out ((), .ready, none)).2.2 = _ := h4
    refine ⟨(scan 0 (eb_S (n, t, out.length, out)) 0 out ((), .ready, none)).2.1, hr.trans ?_⟩
    rw [ha]
    show ((scan 0 (eb_S (n, t, out.length, out)) 0 out ((), .ready, none)).1, eb_g ((scan 0 (eb_S (n, t, out.length, out)) 0 out ((), .ready, none)).2.1, (n, t, out.length, out), (scan 0 (eb_S (n, t, out.length, out)) 0 out ((), .ready, none)).2.2)) = _
    rw [h3, h4]
    rfl
  · have h3 : scan 0 (eb_S (n, t, out.length, out)) 0 out ((), .ready, none) = _ := h3
    have hf : ∀ l : List T, l.foldl (fun (_ : eb_GB) (_ : T) => ((), LoopState.ready, (none : Option Code))) ((), LoopState.ready, (none : Option Code)) = ((), LoopState.ready, none) := by
      intro l
      induction l with
      | nil => rfl
      | cons a l ih => exact ih
    refine ⟨(scan 0 (eb_S (n, t, out.length, out)) 0 out ((), .ready, none)).2.1, hr.trans ?_⟩
    rw [ha]
    show ((scan 0 (eb_S (n, t, out.length, out)) 0 out ((), .ready, none)).1, eb_g ((scan 0 (eb_S (n, t, out.length, out)) 0 out ((), .ready, none)).2.1, (n, t, out.length, out), (scan 0 (eb_S (n, t, out.length, out)) 0 out ((), .ready, none)).2.2)) = _
    rw [h3, hf]
    rfl
noncomputable def ltO : LTab Try.prog := ltE.cons 119 1 (lconAlt 5 (ea_C ea_I ea_M) (eb_C eb_I eb_M)) (fun b hb hk => altL_ok (ea_ok b hb hk) (eb_ok b hb hk))
noncomputable abbrev lamO : Lam := ltO.lam
theorem lamO_ok : ∀ f k L, lamO f k = some L → ∀ b ∈ loopsOf Try.prog f, lkey b = k → LoopOk Try.prog b L.g := ltO.ok
end Go.Proofs.Ytiipneclghnfhaa

/- Chapter 3: the least of times: the loop, over a row of one's own. Printed by treegen.py. -/
namespace Go.Proofs.Ytiipneclghnfhaa
open Go.RowKit Go.Sx
set_option maxRecDepth 100000
set_option linter.unusedVariables false
noncomputable def of2_q1 (out : List T) (l : Nat) (ys : List T) (n : Int) (i : Int) : Ex ×
  eb_G :=
  loopF (fun g => eb_R g.fst g.snd.fst g.snd.snd.fst g.snd.snd.snd.fst g.snd.snd.snd.snd.fst g.snd.snd.snd.snd.snd.fst) eb_M ((↑out.length : Int), (0 : Int), (), ys.getD i.toNat eT.dflt, out.length, eT.lst out.length (eT.els out), LoopState.ready, none)
abbrev of2_G : Type := List T × Nat × List T × Int × Int
noncomputable def of2_LP : LP 2 of2_G := .pair (.row 2 6 30 eT) (.pair (.owl 2 20 1) (.pair (.rowO 2 1 30 eT) (.pair (.slot 2 21 dI) (.slot 2 22 dI))))
noncomputable def of2_R (out : List T) (l : Nat) (ys : List T) (n : Int) (i : Int) : Ex × of2_G :=
  bif decide (i < n) then bif exB Ex.ret (of2_q1 out l ys n i).fst then (Ex.normal, eT.lst out.length (eT.els (of2_q1 out l ys n i).snd.snd.snd.snd.snd.snd.fst), l, eT.lst ys.length (eT.els ys), n, IntKind.i64.wrap (i + (1 : Int))) else (Ex.normal, eT.lst (min (out.length + (1 : Nat)) out.length) (eT.els (of2_q1 out l ys n i).snd.snd.snd.snd.snd.snd.fst) ++ List.map (fun x => (of2_q1 out l ys n i).snd.snd.snd.snd.fst) (List.range (out.length + (1 : Nat) - out.length)), l, eT.lst ys.length (eT.els ys), n, IntKind.i64.wrap (i + (1 : Int)))
  else (Ex.exit (0 : Nat), eT.lst out.length (eT.els out), l, eT.lst ys.length (eT.els ys), n, i)
def of2_side (out : List T) (l : Nat) (ys : List T) (n : Int) (i : Int) : Prop :=
  (decide (i < n) = true → ((0 : Int) ≤ i ∧ i < (↑l : Int)) ∧ i.toNat < ys.length ∧ (∀ (e : Nat), e < out.length → True) ∧ CodeIs (rangeOf Try.prog (18 : Nat) (0 : Nat)).snd.fst (rangeOf Try.prog (18 : Nat) (0 : Nat)).snd.fst ∧ CodeIs (rangeOf Try.prog (18 : Nat) (0 : Nat)).snd.snd (rangeOf Try.prog (18 : Nat) (0 : Nat)).snd.snd ∧ Lp.ixJ (fun c => c.fst) (fun c => c.snd.snd.snd) eb_K (eb_f ((↑out.length : Int), (0 : Int), (), ys.getD i.toNat eT.dflt, out.length, eT.lst out.length (eT.els out), LoopState.ready, none)) ∧ (exB Ex.ret (of2_q1 out l ys n i).fst = true → out.length ≤ (of2_q1 out l ys n i).snd.snd.snd.snd.snd.snd.fst.length ∧ (∀ (e : Nat), e < out.length → True) ∧ ∀ (e : Nat), e < ys.length → True) ∧ (exB Ex.ret (of2_q1 out l ys n i).fst = false → (out.length ≤ (of2_q1 out l ys n i).snd.snd.snd.snd.snd.snd.fst.length ∧ True ∧ out.length + (1 : Nat) ≤ maxLen ∧ (out.length + (1 : Nat)) * Try.prog.types[(30 : Nat)].bytes ≤ (140737488355328 : Nat)) ∧ out.length + (1 : Nat) ≤ out.length + (1 : Nat) ∧ (∀ (e : Nat), e < min (out.length + (1 : Nat)) out.length → True) ∧ (∀ (e : Nat), e < out.length + (1 : Nat) - out.length → True) ∧ ∀ (e : Nat), e < ys.length → True)) ∧ (decide (i < n) = false → out.length ≤ out.length ∧ (∀ (e : Nat), e < out.length → True) ∧ ∀ (e : Nat), e < ys.length → True)
theorem of2_one : ((loopsOf Try.prog 18).filter fun c => Nat.beq (lkey c) 8).length = 1 := by kernel_rfl
abbrev of2_GC : Type := List T × Int × Nat
abbrev of2_GB : Type := List T
def of2_f (g : of2_G) : Int × of2_GC × of2_GB := (g.2.2.2.2, (g.2.2.1, g.2.2.2.1, g.2.1), g.1)
def of2_g (d : Int × of2_GC × of2_GB) : of2_G := (d.2.2, d.2.1.2.2, d.2.1.1, d.2.1.2.1, d.1)
theorem of2_es (g : of2_G) : (of2_R g.1 g.2.1 g.2.2.1 g.2.2.2.1 g.2.2.2.2).1 = .normal ∨ (of2_R g.1 g.2.1 g.2.2.1 g.2.2.2.1 g.2.2.2.2).1 ∈ ([.ret, .exit 0] : List Ex) := by
  unfold of2_R
  repeat' (first | (left; rfl) | (right; simp only [cond_true, cond_false]; simp; done) | (rw [Bool.cond_eq_ite]; split))
noncomputable abbrev of2_C (Inv : of2_G → List Prop) (m : of2_G → Nat) : LCon := loopR [.ret, .exit 0] (loopBody Try.prog 18 8) of2_LP [] 41 Inv (fun g => of2_R g.1 g.2.1 g.2.2.1 g.2.2.2.1 g.2.2.2.2) m
theorem of2_loop (Inv : of2_G → List Prop) (m : of2_G → Nat) (hs : ∀ g, allP (Inv g) → of2_side g.1 g.2.1 g.2.2.1 g.2.2.2.1 g.2.2.2.2) (hg : Goes (fun g : of2_G => of2_R g.1 g.2.1 g.2.2.1 g.2.2.2.1 g.2.2.2.2) m fun g => allP (Inv g)) : ∀ b ∈ loopsOf Try.prog 18, lkey b = 8 → LoopOk Try.prog b (of2_C Inv m).g := loop_run (Γ := (MTab.gamz tabQ [] [])) (Λ := lamO) (MTab.okz tabQ [] []) lamO_ok 100 18 8 41 of2_LP [] Inv (fun g => of2_R g.1 g.2.1 g.2.2.1 g.2.2.2.1 g.2.2.2.2) (fun g => of2_side g.1 g.2.1 g.2.2.1 g.2.2.2.1 g.2.2.2.2) m default [.ret, .exit 0] of2_one (fun rd T B HL HB ds g => by kernel_rfl) (fun rd T B HL HB ds g => by kernel_rfl) hs hg of2_es
noncomputable def tabX46 : MTab Try.prog := tabQ
end Go.Proofs.Ytiipneclghnfhaa

/- Chapter 3: chain.Of: the loop's contract, over a row of one's own. -/
namespace Go.Proofs.Ytiipneclghnfhaa
open Go.RowKit Go.Sx Go.Lp
noncomputable def of2_S (_ : of2_GC) (b : of2_GB) (_ : Int) (v : T) : Ex × of2_GB := (.normal, of1_st b v)
def of2_K (c : of2_GC) (b : of2_GB) (i : Int) : Prop := c.1.length ≤ KS ∧ (List.length b : Int) ≤ i ∧ c.2.2 = c.1.length
abbrev of2_I (g : of2_G) : List Prop := ixI (fun c : of2_GC => c.2.1) (fun c => c.1) of2_K (of2_f g)
abbrev of2_M (g : of2_G) : Nat := ixM (fun c : of2_GC => c.2.1) (of2_f g)
theorem of2_P : ixP of2_S (fun c : of2_GC => c.1) of2_K := by
  rintro ⟨ys, n, l⟩ b i a ⟨h1, h2, h3⟩ _ _
  refine ⟨h1, ?_, h3⟩
  have h2 : (List.length b : Int) ≤ (i : Int) := h2
  show (List.length (of1_st b a) : Int) ≤ (i : Int) + 1
  unfold of1_st
  cases b.any (tleq_F · a) <;> simp <;> omega
theorem of2_q (out : List T) (l : Nat) (ys : List T) (n i : Int) (hm : out.length ≤ maxLen) : ∃ j, of2_q1 out l ys n i = bif out.any (tleq_F · (ys.getD i.toNat eT.dflt)) then (.ret, (out.length : Int), j, (), ys.getD i.toNat eT.dflt, out.length, out, (.done, some (.exit 1))) else (.exit 0, (out.length : Int), j, (), ys.getD i.toNat eT.dflt, out.length, out, (.ready, none)) := by
  unfold of2_q1
  rw [eT.lst_els]
  exact eb_run (out.length : Int) (ys.getD i.toNat eT.dflt) out rfl hm
noncomputable abbrev of2_RR (g : of2_G) : Ex × of2_G := of2_R g.1 g.2.1 g.2.2.1 g.2.2.2.1 g.2.2.2.2
theorem of2_RF (d : Int × of2_GC × of2_GB) (hi : allP (ixI (fun c : of2_GC => c.2.1) (fun c => c.1) of2_K d)) : of2_RR (of2_g d) = ((ixF 0 (fun c : of2_GC => c.2.1) (fun c => c.1) eT.dflt of2_S d).1, of2_g (ixF 0 (fun c : of2_GC => c.2.1) (fun c => c.1) eT.dflt of2_S d).2) := by
  obtain ⟨h1, h2, h3, h4, h5, h6, h7⟩ := hi _ (List.mem_cons_self ..)
  obtain ⟨i, ⟨ys, n, l⟩, out⟩ := d
  have h5 : ys.length ≤ KS := h5
  have h4 : i ≤ (ys.length : Int) := h4
  have h6 : (List.length out : Int) ≤ i := h6
  have hm : out.length ≤ maxLen := by unfold KS at h5; unfold maxLen; omega
  obtain ⟨j, hj⟩ := of2_q out l ys n i hm
  show of2_R out l ys n i = _
  unfold of2_R ixF of2_S of1_st
  rw [hj]
  simp only [eT.lst_els]
  cases decide (i < n) with
  | false => rfl
  | true =>
    simp only [cond_true]
    generalize out.any (tleq_F · (ys.getD i.toNat eT.dflt)) = z
    cases z
    · simp only [cond_false]
      show (bif exB Ex.ret (.exit 0) then _ else _) = _
      simp only [eT.lst_els, lst_app1]
      rfl
    · simp only [cond_true]
      show (bif exB Ex.ret .ret then _ else _) = _
      simp only [eT.lst_els]
      rfl
theorem of2_ok : ∀ b ∈ loopsOf Try.prog 18, lkey b = 8 → LoopOk Try.prog b (of2_C of2_I of2_M).g := by
  refine of2_loop of2_I of2_M (fun g hi => ?_) (ix_conj_goes (fun _ => rfl) (fun _ => rfl) of2_RF of2_P)
  obtain ⟨out, l, ys, n, i⟩ := g
  obtain ⟨h1, h2, h3, h4, h5, h6, h7⟩ := hi _ (List.mem_cons_self ..)
  have h1 : n = (ys.length : Int) := h1
  have h3 : 0 ≤ i := h3
  have h4 : i ≤ (ys.length : Int) := h4
  have h5 : ys.length ≤ KS := h5
  have h6 : (List.length out : Int) ≤ i := h6
  unfold KS at h5
  have hm : out.length ≤ maxLen := by unfold maxLen; omega
  have hs : out.length < 1000000 ∨ ¬ i < (ys.length : Int) := by omega
  have h7 : l = ys.length := h7
  clear hi
  subst h7
  obtain ⟨j, hj⟩ := of2_q out ys.length ys n i hm
  have ha : ∀ e, e < ys.length → True := fun _ _ => trivial
  have hx := ixJ0 (lim := fun c : eb_GC => c.1) (xs := fun c : eb_GC => c.2.2.2) (P := eb_K) (c := ((out.length : Int), ys.getD i.toNat eT.dflt, out.length, out)) (b := ((), LoopState.ready, none)) rfl hm ⟨rfl, rfl⟩
  show of2_side out ys.length ys n i
  unfold of2_side
  rw [hj]
  simp only [bytesT, decide_eq_true_eq, decide_eq_false_iff_not, eT.lst_els]
  refine ⟨fun hc => ⟨⟨h3, by omega⟩, by omega, fun _ _ => trivial, rfl, rfl, hx, fun _ => ?_, fun _ => ?_⟩, fun _ => ⟨Nat.le_refl _, fun _ _ => trivial, ha⟩⟩
  · cases out.any (tleq_F · (ys.getD i.toNat eT.dflt)) <;> exact ⟨Nat.le_refl _, fun _ _ => trivial, ha⟩
  · have hl : out.length ≤ (bif out.any (tleq_F · (ys.getD i.toNat eT.dflt)) then ((Ex.ret, (out.length : Int), j, (), ys.getD i.toNat eT.dflt, out.length, out, (LoopState.done, some (Code.exit 1))) : Ex × eb_G) else (.exit 0, (out.length : Int), j, (), ys.getD i.toNat eT.dflt, out.length, out, (.ready, none))).2.2.2.2.2.2.1.length := by
      cases out.any (tleq_F · (ys.getD i.toNat eT.dflt)) <;> exact Nat.le_refl _
    have hs : out.length < 1000000 := by rcases hs with h | h
                                         · exact h
                                         · exact absurd (by omega) h
    exact ⟨⟨hl, trivial, by unfold maxLen; omega, by omega⟩, Nat.le_refl _, fun _ _ => trivial, fun _ _ => trivial, ha⟩
theorem of2_run (ys : List T) (hm : ys.length ≤ KS) : loopF of2_RR of2_M ([], ys.length, ys, (ys.length : Int), 0) = (.exit 0, greedy tleq_F [] ys, ys.length, ys, (ys.length : Int), (ys.length : Int)) := by
  have hm2 : ys.length ≤ maxLen := by unfold KS at hm; unfold maxLen; omega
  have h1 : loopF of2_RR of2_M ([], ys.length, ys, (ys.length : Int), 0) = _ := ix_conj_run (φ := of2_f) (ψ := of2_g) (fun _ => rfl) (fun _ => rfl) of2_RF of2_P (ys, (ys.length : Int), ys.length) [] rfl hm2 ⟨hm, Int.le_refl _, rfl⟩
  have hs := scan_fold (x := 0) (st := of2_S (ys, (ys.length : Int), ys.length)) (f := of1_st) (fun _ _ _ => rfl) ys 0 []
  rw [of1_greedy] at hs
  rw [h1]
  show ((scan 0 (of2_S (ys, (ys.length : Int), ys.length)) 0 ys []).1, of2_g ((scan 0 (of2_S (ys, (ys.length : Int), ys.length)) 0 ys []).2.1, (ys, (ys.length : Int), ys.length), (scan 0 (of2_S (ys, (ys.length : Int), ys.length)) 0 ys []).2.2)) = _
  rw [hs, Int.zero_add]
  rfl
noncomputable def ltN : LTab Try.prog := ltO.cons 18 8 (lconAlt 0 (of1_C of1_I of1_M) (of2_C of2_I of2_M)) (fun b hb hk => altL_ok (of1_ok b hb hk) (of2_ok b hb hk))
noncomputable abbrev lamN : Lam := ltN.lam
theorem lamN_ok : ∀ f k L, lamN f k = some L → ∀ b ∈ loopsOf Try.prog f, lkey b = k → LoopOk Try.prog b L.g := ltN.ok
end Go.Proofs.Ytiipneclghnfhaa

/- Chapter 3: chain.Of. Printed by treegen.py. -/
namespace Go.Proofs.Ytiipneclghnfhaa
open Go.RowKit Go.Sx
set_option maxRecDepth 100000
set_option linter.unusedVariables false
abbrev rLE : Rv (List T × Int) := .tup (.cons (.list eT) (.one (.of dI)))
noncomputable def cof_q1 (xs : List T) : Ex ×
  of2_G :=
  loopF (fun g => of2_R g.fst g.snd.fst g.snd.snd.fst g.snd.snd.snd.fst g.snd.snd.snd.snd) of2_M ([], (Lp.compL (eT.lst (srtBy (fun a b => tcmp_F a b) (List.map (fun x => eT.get []) (List.range (min ((0 : Nat) + xs.length) (0 : Nat))) ++ eT.lst ((0 : Nat) + xs.length - (0 : Nat)) (eT.els xs))).length (eT.els (srtBy (fun a b => tcmp_F a b) (List.map (fun x => eT.get []) (List.range (min ((0 : Nat) + xs.length) (0 : Nat))) ++ eT.lst ((0 : Nat) + xs.length - (0 : Nat)) (eT.els xs)))))).length, eT.lst (Lp.compL (eT.lst (srtBy (fun a b => tcmp_F a b) (List.map (fun x => eT.get []) (List.range (min ((0 : Nat) + xs.length) (0 : Nat))) ++ eT.lst ((0 : Nat) + xs.length - (0 : Nat)) (eT.els xs))).length (eT.els (srtBy (fun a b => tcmp_F a b) (List.map (fun x => eT.get []) (List.range (min ((0 : Nat) + xs.length) (0 : Nat))) ++ eT.lst ((0 : Nat) + xs.length - (0 : Nat)) (eT.els xs)))))).length (eT.els (Lp.compL (eT.lst (srtBy (fun a b => tcmp_F a b) (List.map (fun x => eT.get []) (List.range (min ((0 : Nat) + xs.length) (0 : Nat))) ++ eT.lst ((0 : Nat) + xs.length - (0 : Nat)) (eT.els xs))).length (eT.els (srtBy (fun a b => tcmp_F a b) (List.map (fun x => eT.get []) (List.range (min ((0 : Nat) + xs.length) (0 : Nat))) ++ eT.lst ((0 : Nat) + xs.length - (0 : Nat)) (eT.els xs))))))), (↑(Lp.compL (eT.lst (srtBy (fun a b => tcmp_F a b) (List.map (fun x => eT.get []) (List.range (min ((0 : Nat) + xs.length) (0 : Nat))) ++ eT.lst ((0 : Nat) + xs.length - (0 : Nat)) (eT.els xs))).length (eT.els (srtBy (fun a b => tcmp_F a b) (List.map (fun x => eT.get []) (List.range (min ((0 : Nat) + xs.length) (0 : Nat))) ++ eT.lst ((0 : Nat) + xs.length - (0 : Nat)) (eT.els xs)))))).length : Int), (0 : Int))
noncomputable def cof_q2 (xs : List T) : Ex ×
  of2_G :=
  loopF (fun g => of2_R g.fst g.snd.fst g.snd.snd.fst g.snd.snd.snd.fst g.snd.snd.snd.snd) of2_M ([], (0 : Nat), [], (0 : Int), (0 : Int))
noncomputable def cof_F (xs : List T) : Rv.T rLE :=
  bif badC (eT.lst xs.length (eT.els xs)) != (0 : Int) then ([], badC (eT.lst xs.length (eT.els xs)))
  else bif exB Ex.ret (cof_q1 xs).fst then ([], (0 : Int)) else bif decide ((↑(cof_q1 xs).snd.fst.length : Int) > (1024 : Int)) then ([], (3 : Int)) else (eT.lst (cof_q1 xs).snd.fst.length (eT.els (cof_q1 xs).snd.fst), (0 : Int))
def cof_side (xs : List T) : Prop :=
  (∀ (e : Nat), e < xs.length → eT.Ok (eT.els xs e)) ∧ ((badC (eT.lst xs.length (eT.els xs)) != (0 : Int)) = false → ∀ (cs : List Nat), (cs.isEmpty = false → xs.length = (0 : Nat)) → ((false != !cs.isEmpty) = true → (0 : Nat) = (0 : Nat) ∧ (∀ (e : Nat), e < (0 : Nat) → eT.OkP []) ∧ (0 : Nat) < (4611686018427387904 : Nat) ∧ (0 : Nat) = (0 : Nat) ∧ (∀ (e : Nat), e < (0 : Nat) → eT.OkP []) ∧ (∀ (e : Nat), e < (0 : Nat) → True) ∧ Lp.ixJ (fun c => c.snd.fst) (fun c => c.fst) of2_K (of2_f ([], (0 : Nat), [], (0 : Int), (0 : Int))) ∧ (exB Ex.ret (cof_q2 xs).fst = true → ∀ (d : List T × Int), ([], (0 : Int)) = bif exB Ex.ret (cof_q1 xs).fst then ([], (0 : Int)) else bif decide ((↑(cof_q1 xs).snd.fst.length : Int) > (1024 : Int)) then ([], (3 : Int)) else (eT.lst (cof_q1 xs).snd.fst.length (eT.els (cof_q1 xs).snd.fst), (0 : Int))) ∧ (exB Ex.ret (cof_q2 xs).fst = false → (decide ((↑(cof_q2 xs).snd.fst.length : Int) > (1024 : Int)) = true → ∀ (d : List T × Int), ([], (3 : Int)) = bif exB Ex.ret (cof_q1 xs).fst then ([], (0 : Int)) else bif decide ((↑(cof_q1 xs).snd.fst.length : Int) > (1024 : Int)) then ([], (3 : Int)) else (eT.lst (cof_q1 xs).snd.fst.length (eT.els (cof_q1 xs).snd.fst), (0 : Int))) ∧ (decide ((↑(cof_q2 xs).snd.fst.length : Int) > (1024 : Int)) = false → (cof_q2 xs).snd.fst.length ≤ (cof_q2 xs).snd.fst.length ∧ (∀ (e : Nat), e < (cof_q2 xs).snd.fst.length → True) ∧ ∀ (d : List T × Int), (eT.lst (cof_q2 xs).snd.fst.length (eT.els (cof_q2 xs).snd.fst), (0 : Int)) = bif exB Ex.ret (cof_q1 xs).fst then ([], (0 : Int)) else bif decide ((↑(cof_q1 xs).snd.fst.length : Int) > (1024 : Int)) then ([], (3 : Int)) else (eT.lst (cof_q1 xs).snd.fst.length (eT.els (cof_q1 xs).snd.fst), (0 : Int))))) ∧ ((false != !cs.isEmpty) = false → ((0 : Nat) ≤ (0 : Nat) ∧ (∀ (e : Nat), e < xs.length → (eT.els xs e).all SV.one = true) ∧ (0 : Nat) + xs.length ≤ maxLen ∧ ((0 : Nat) + xs.length) * Try.prog.types[(30 : Nat)].bytes ≤ (140737488355328 : Nat)) ∧ (0 : Nat) + xs.length = (0 : Nat) + xs.length ∧ (∀ (e : Nat), e < min ((0 : Nat) + xs.length) (0 : Nat) → eT.OkP []) ∧ (∀ (e : Nat), e < (0 : Nat) + xs.length - (0 : Nat) → True) ∧ (List.map (fun x => eT.get []) (List.range (min ((0 : Nat) + xs.length) (0 : Nat))) ++ eT.lst ((0 : Nat) + xs.length - (0 : Nat)) (eT.els xs)).length < (4611686018427387904 : Nat) ∧ (0 : Nat) + xs.length = (srtBy (fun a b => tcmp_F a b) (List.map (fun x => eT.get []) (List.range (min ((0 : Nat) + xs.length) (0 : Nat))) ++ eT.lst ((0 : Nat) + xs.length - (0 : Nat)) (eT.els xs))).length ∧ (∀ (e : Nat), e < (srtBy (fun a b => tcmp_F a b) (List.map (fun x => eT.get []) (List.range (min ((0 : Nat) + xs.length) (0 : Nat))) ++ eT.lst ((0 : Nat) + xs.length - (0 : Nat)) (eT.els xs))).length → True) ∧ (∀ (e : Nat), e < (Lp.compL (eT.lst (srtBy (fun a b => tcmp_F a b) (List.map (fun x => eT.get []) (List.range (min ((0 : Nat) + xs.length) (0 : Nat))) ++ eT.lst ((0 : Nat) + xs.length - (0 : Nat)) (eT.els xs))).length (eT.els (srtBy (fun a b => tcmp_F a b) (List.map (fun x => eT.get []) (List.range (min ((0 : Nat) + xs.length) (0 : Nat))) ++ eT.lst ((0 : Nat) + xs.length - (0 : Nat)) (eT.els xs)))))).length → True) ∧ Lp.ixJ (fun c => c.snd.fst) (fun c => c.fst) of2_K (of2_f ([], (Lp.compL (eT.lst (srtBy (fun a b => tcmp_F a b) (List.map (fun x => eT.get []) (List.range (min ((0 : Nat) + xs.length) (0 : Nat))) ++ eT.lst ((0 : Nat) + xs.length - (0 : Nat)) (eT.els xs))).length (eT.els (srtBy (fun a b => tcmp_F a b) (List.map (fun x => eT.get []) (List.range (min ((0 : Nat) + xs.length) (0 : Nat))) ++ eT.lst ((0 : Nat) + xs.length - (0 : Nat)) (eT.els xs)))))).length, eT.lst (Lp.compL (eT.lst (srtBy (fun a b => tcmp_F a b) (List.map (fun x => eT.get []) (List.range (min ((0 : Nat) + xs.length) (0 : Nat))) ++ eT.lst ((0 : Nat) + xs.length - (0 : Nat)) (eT.els xs))).length (eT.els (srtBy (fun a b => tcmp_F a b) (List.map (fun x => eT.get []) (List.range (min ((0 : Nat) + xs.length) (0 : Nat))) ++ eT.lst ((0 : Nat) + xs.length - (0 : Nat)) (eT.els xs)))))).length (eT.els (Lp.compL (eT.lst (srtBy (fun a b => tcmp_F a b) (List.map (fun x => eT.get []) (List.range (min ((0 : Nat) + xs.length) (0 : Nat))) ++ eT.lst ((0 : Nat) + xs.length - (0 : Nat)) (eT.els xs))).length (eT.els (srtBy (fun a b => tcmp_F a b) (List.map (fun x => eT.get []) (List.range (min ((0 : Nat) + xs.length) (0 : Nat))) ++ eT.lst ((0 : Nat) + xs.length - (0 : Nat)) (eT.els xs))))))), (↑(Lp.compL (eT.lst (srtBy (fun a b => tcmp_F a b) (List.map (fun x => eT.get []) (List.range (min ((0 : Nat) + xs.length) (0 : Nat))) ++ eT.lst ((0 : Nat) + xs.length - (0 : Nat)) (eT.els xs))).length (eT.els (srtBy (fun a b => tcmp_F a b) (List.map (fun x => eT.get []) (List.range (min ((0 : Nat) + xs.length) (0 : Nat))) ++ eT.lst ((0 : Nat) + xs.length - (0 : Nat)) (eT.els xs)))))).length : Int), (0 : Int))) ∧ (exB Ex.ret (cof_q1 xs).fst = true → ∀ (d : List T × Int), ([], (0 : Int)) = bif exB Ex.ret (cof_q1 xs).fst then ([], (0 : Int)) else bif decide ((↑(cof_q1 xs).snd.fst.length : Int) > (1024 : Int)) then ([], (3 : Int)) else (eT.lst (cof_q1 xs).snd.fst.length (eT.els (cof_q1 xs).snd.fst), (0 : Int))) ∧ (exB Ex.ret (cof_q1 xs).fst = false → (decide ((↑(cof_q1 xs).snd.fst.length : Int) > (1024 : Int)) = true → ∀ (d : List T × Int), ([], (3 : Int)) = bif exB Ex.ret (cof_q1 xs).fst then ([], (0 : Int)) else bif decide ((↑(cof_q1 xs).snd.fst.length : Int) > (1024 : Int)) then ([], (3 : Int)) else (eT.lst (cof_q1 xs).snd.fst.length (eT.els (cof_q1 xs).snd.fst), (0 : Int))) ∧ (decide ((↑(cof_q1 xs).snd.fst.length : Int) > (1024 : Int)) = false → (cof_q1 xs).snd.fst.length ≤ (cof_q1 xs).snd.fst.length ∧ (∀ (e : Nat), e < (cof_q1 xs).snd.fst.length → True) ∧ ∀ (d : List T × Int), (eT.lst (cof_q1 xs).snd.fst.length (eT.els (cof_q1 xs).snd.fst), (0 : Int)) = bif exB Ex.ret (cof_q1 xs).fst then ([], (0 : Int)) else bif decide ((↑(cof_q1 xs).snd.fst.length : Int) > (1024 : Int)) then ([], (3 : Int)) else (eT.lst (cof_q1 xs).snd.fst.length (eT.els (cof_q1 xs).snd.fst), (0 : Int))))))
theorem cof_okS (pre : DA.T aL → List Prop) (h : ∀ g, DA.bd aL g → (∀ p ∈ pre g, p) → cof_side g) : FnPure Try.prog 18 aL (Rv.D rLE) (fun g => cof_F g) pre := res_of_side (R := rLE) (Γ := (MTab.gamz tabQ [] [])) (Λ := lamN) (MTab.okz tabQ [] []) lamN_ok 100 default (fun g => cof_side g) (fun g => by kernel_rfl) (fun g => by kernel_rfl) h
noncomputable def tabX48 : MTab Try.prog := tabQ
end Go.Proofs.Ytiipneclghnfhaa

/- Chapter 3: is one not covered. Printed by treegen.py. -/
namespace Go.Proofs.Ytiipneclghnfhaa
open Go.RowKit Go.Sx
set_option maxRecDepth 100000
set_option linter.unusedVariables false
noncomputable def cfc_F (xs : List T) (l : List T) : Dv.T dBool :=
  decide (ixc_F (eT.lst xs.length (eT.els xs)) (eT.lst l.length (eT.els l)) ≥ (0 : Int))
def cfc_side (xs : List T) (l : List T) : Prop :=
  (∀ (e : Nat), e < xs.length → eT.Ok (eT.els xs e)) ∧ ∀ (e : Nat), e < l.length → eT.Ok (eT.els l e)
theorem cfc_okS (pre : DA.T aFl → List Prop) (h : ∀ g, DA.bd aFl g → (∀ p ∈ pre g, p) → cfc_side g.1 g.2) : FnPure Try.prog 75 aFl dBool (fun g => cfc_F g.1 g.2) pre := pure_of_sideS (Γ := (PTab.gamz tabU [] [])) (Λ := noΛ) (PTab.okz tabU [] []) noΛ_ok 100 default (fun g => cfc_side g.1 g.2) (fun g => by kernel_rfl) (fun g => by kernel_rfl) h
noncomputable def tabX37 : PTab Try.prog := tabU
end Go.Proofs.Ytiipneclghnfhaa

/- A call to which rows of one's own are handed for good: they are frozen first. -/
namespace Go.Sx
open Go.RowKit
def frz1 (h : SH) : SV → SV × SH × List Prop
  | .ow i l => match h.get i with
    | .row _ sz el m => (.rs sz l el, h.set i .dead, [l ≤ m])
    | _ => (.ow i l, h, [])
  | .sl i o l c => match h.get i with
    | .cells xs _ => bif Nat.ble l c && (Nat.ble c 16777216 && Nat.ble (o + l * ((xs.length - o) / c)) xs.length) then (.rs ((xs.length - o) / c) l (fun e => (xs.drop (o + e * ((xs.length - o) / c))).take ((xs.length - o) / c)), h.set i .dead, []) else (.u, h, [])
    | _ => (.sl i o l c, h, [])
  | s => (s, h, [])
def frzA : SH → List SV → List SV × SH × List Prop
  | h, [] => ([], h, [])
  | h, s :: r => ((frz1 h s).1 :: (frzA (frz1 h s).2.1 r).1, (frzA (frz1 h s).2.1 r).2.1, (frz1 h s).2.2 ++ (frzA (frz1 h s).2.1 r).2.2)
def frzC (c : Con) : Con := fun args h => asks (frzA h args).2.2 (c (frzA h args).1 (frzA h args).2.1)
theorem frz1_b (h : SH) (s : SV) : (frz1 h s).2.1.b = h.b ∧ (frz1 h s).2.1.nx = h.nx := by
  unfold frz1
  split
  · split <;> exact ⟨rfl, rfl⟩
  · split
    · rw [Bool.cond_eq_ite]; split <;> exact ⟨rfl, rfl⟩
    · exact ⟨rfl, rfl⟩
  · exact ⟨rfl, rfl⟩
theorem frzA_b : ∀ (args : List SV) (h : SH), (frzA h args).2.1.b = h.b ∧ (frzA h args).2.1.nx = h.nx
  | [], h => ⟨rfl, rfl⟩
  | s :: r, h => by
    obtain ⟨h1, h2⟩ := frz1_b h s
    obtain ⟨h3, h4⟩ := frzA_b r (frz1 h s).2.1
    exact ⟨h3.trans h1, h4.trans h2⟩
section
variable {P : Program} {M : Nat → Prop} {w0 w : World}
theorem frz1_ok {ρ : Rh} {h : SH} {s : SV} {x : Value} (hm : HM M w0 ρ h w) (hf : s.fit h.nx ρ x) (hp : ∀ p ∈ (frz1 h s).2.2, p) : ∃ ρ', Agree h.nx ρ ρ' ∧ HM M w0 ρ' (frz1 h s).2.1 w ∧ (frz1 h s).1.fit h.nx ρ' x := by
  generalize hr : frz1 h s = r at hp ⊢
  unfold frz1 at hr
  split at hr
  · rename_i i l
    split at hr
    · rename_i t sz el m hg
      subst hr
      have hl : l ≤ m := hp _ (List.mem_cons_self ..)
      have hob := hm.ob i
      rw [hg] at hob
      obtain ⟨hil, ⟨hnl, rfl, ad, rfl⟩ | ⟨hnl, hlc, rfl⟩⟩ := hf
      · exact ⟨ρ, Agree.refl _ _, hm.forget i, rs_nil0 _ _ _⟩
      · rcases hob.2 with ⟨hnl', _⟩ | ⟨_, hoff, c, fz, hob', _, hcs, hmc, hcm, hall⟩
        · rw [hnl] at hnl'; cases hnl'
        · have hown : (h.get i).own (ρ i) := by rw [hg]; exact hnl
          have hag : Agree h.nx ρ (ρ.frz (ρ i).blk _) := agree_frz (n := h.nx) ρ (o := .cells c t fz) (hm.sep i hown)
          refine ⟨_, hag, HM.freeze hm hown hob', ?_⟩
          refine ⟨_, _, rfl, hlc, by omega, fun _ => ⟨_, 0, c, t, fz, rfl, ?_, fun e he => ?_⟩⟩
          · simp [Rh.frz]
          · obtain ⟨vs, q1, q2, q3⟩ := hall e (by omega)
            exact ⟨vs, q1, SV.fits_mono (Nat.le_refl _) hag _ _ q2, q3⟩
    · subst hr; exact ⟨ρ, Agree.refl _ _, hm, hf⟩
  · rename_i i o l c
    split at hr
    · rename_i xs t hg
      cases hb : Nat.ble l c && (Nat.ble c 16777216 && Nat.ble (o + l * ((xs.length - o) / c)) xs.length) with
      | false => rw [hb] at hr; subst hr; exact ⟨ρ, Agree.refl _ _, hm, trivial⟩
      | true =>
        rw [hb] at hr
        subst hr
        simp only [Bool.and_eq_true] at hb
        have b1 := Nat.le_of_ble_eq_true hb.1
        have b2 := Nat.le_of_ble_eq_true hb.2.1
        have b3 := Nat.le_of_ble_eq_true hb.2.2
        have hob := hm.ob i
        rw [hg] at hob
        obtain ⟨hil, rfl⟩ := hf
        obtain ⟨_, hoff, v, hob', hfl⟩ := hob
        have hll := fits_length hfl
        have hown : (h.get i).own (ρ i) := by rw [hg]; trivial
        have hag : Agree h.nx ρ (ρ.frz (ρ i).blk _) := agree_frz (n := h.nx) ρ (o := .cells v.toArray t (0, 0)) (hm.sep i hown)
        refine ⟨_, hag, HM.freeze hm hown hob', ?_⟩
        show (SV.rs ((xs.length - o) / c) l (fun e => (xs.drop (o + e * ((xs.length - o) / c))).take ((xs.length - o) / c))).fit h.nx _ _
        generalize (xs.length - o) / c = sz at b3 ⊢
        refine ⟨_, _, rfl, b1, by unfold maxLen; omega, fun _ => ⟨_, _, v.toArray, t, (0, 0), rfl, by simp [Rh.frz], fun e he => ?_⟩⟩
        have hle : o + e * sz + sz ≤ xs.length := by
          have := Nat.mul_le_mul_right sz (show e + 1 ≤ l by omega)
          rw [Nat.add_mul, Nat.one_mul] at this
          omega
        refine ⟨(v.drop (o + e * sz)).take sz, by simp; omega, SV.fits_mono (Nat.le_refl _) hag _ _ (fits_take _ (fits_drop _ hfl)), fun j y hy => ?_⟩
        rw [List.getElem?_take] at hy
        split at hy
        · rw [List.getElem?_drop] at hy
          rw [hoff]
          simpa [Nat.add_assoc] using hy
        · cases hy
    · subst hr; exact ⟨ρ, Agree.refl _ _, hm, hf⟩
  · subst hr; exact ⟨ρ, Agree.refl _ _, hm, hf⟩
theorem frzA_ok : ∀ {args : List SV} {ρ : Rh} {h : SH} {vs : List Value}, HM M w0 ρ h w → SV.fits h.nx ρ args vs → (∀ p ∈ (frzA h args).2.2, p) → ∃ ρ', Agree h.nx ρ ρ' ∧ HM M w0 ρ' (frzA h args).2.1 w ∧ SV.fits h.nx ρ' (frzA h args).1 vs
  | [], ρ, h, vs, hm, hf, _ => ⟨ρ, Agree.refl _ _, hm, hf⟩
  | s :: r, ρ, h, vs, hm, hf, hp => by
    obtain ⟨y, ys, rfl, hy, hr⟩ := fits_cons hf
    simp only [frzA] at hp ⊢
    obtain ⟨ρ1, a1, m1, f1⟩ := frz1_ok hm hy fun p hq => hp p (List.mem_append_left _ hq)
    have hnx := (frz1_b h s).2
    have hr1 : SV.fits (frz1 h s).2.1.nx ρ1 r ys := by rw [hnx]; exact SV.fits_mono (Nat.le_refl _) a1 _ _ hr
    obtain ⟨ρ2, a2, m2, f2⟩ := frzA_ok (args := r) m1 hr1 fun p hq => hp p (List.mem_append_right _ hq)
    rw [hnx] at a2 f2
    exact ⟨ρ2, a1.trans (Nat.le_refl _) a2, m2, SV.fit_mono (Nat.le_refl _) a2 _ _ f1, f2⟩
theorem frzC_ok {f : Nat} {c : Con} (hc : FnOk P f c) : FnOk P f (frzC c) := by
  intro M w0 w ρ h args vs K hK hm hf
  obtain ⟨hq, hK⟩ := asks_holds hK
  obtain ⟨ρ1, a1, m1, f1⟩ := frzA_ok hm hf hq
  have hnx := (frzA_b args h).2
  refine (hc M w0 w ρ1 _ _ vs K hK m1 (by rw [hnx]; exact f1)).mono ?_
  rintro e w' ⟨s, h', ρ', x, k1, k2, k3, k4, k5, k6⟩
  rw [hnx] at k2 k3
  exact ⟨s, h', ρ', x, k1, k2, a1.trans (Nat.le_refl _) k3, k4, k5, k6⟩
theorem frzC_b {c : Con} (hc : ∀ args h, (c args h).Each fun y => y.2 = h) : ConB (frzC c) := fun args h => by
  have hb := (frzA_b args h).1
  refine asks_each ?_
  have := eq_b (hc (frzA h args).1 (frzA h args).2.1)
  rw [hb] at this
  exact this
def fconR {γ δ : Type} (D : DA γ) (R : Dv δ) (fn : γ → δ) (pre : γ → List Prop) : BCon := ⟨frzC (conR D R fn pre), frzC_b (pconR D R fn pre).e⟩
theorem fconR_ok {f : Nat} {γ δ : Type} {D : DA γ} {R : Dv δ} {fn : γ → δ} {pre : γ → List Prop} (h : FnPure P f D R fn pre) : FnOk P f (fconR D R fn pre).g := frzC_ok (conR_ok h)
theorem asks_intro {α : Type} {K : α → Prop} : ∀ {l : List Prop} {t : Tr α}, (∀ p ∈ l, p) → t.Holds K → (asks l t).Holds K
  | [], _, _, h => h
  | p :: r, t, hl, h => ⟨hl p (List.mem_cons_self ..), asks_intro (l := r) (fun q hq => hl q (List.mem_cons_of_mem _ hq)) h⟩
/-- The first argument is a list, handed for good: if it is a row of one's own, it is frozen. -/
def conL {α γ δ : Type} (A : El α) (D : DA γ) (R : Dv δ) (fn : List α × γ → δ) (pre : List α × γ → List Prop) : Con := fun args h =>
  match args with
  | .ow i l :: rest => match h.get i with
    | .row _ sz el m => match Nat.beq sz A.sz with
      | true => match D.dec rest with
        | some (g, ps) => asks ((l ≤ m) :: (A.okE l el ++ (ps ++ pre (A.lstE l el, g)))) (.ret (R.enc (fn (A.lstE l el, g)), h.set i .dead))
        | none => .bad 658
      | false => .bad 659
    | _ => .bad 660
  | args => frzC (conR (.cons (.list A) D) R fn pre) args h
theorem conL_ok {f : Nat} {α γ δ : Type} {A : El α} {D : DA γ} {R : Dv δ} {fn : List α × γ → δ} {pre : List α × γ → List Prop} (hp : FnPure P f (.cons (.list A) D) R fn pre) : FnOk P f (conL A D R fn pre) := by
  intro M w0 w ρ h args vs K hK hm hf
  unfold conL at hK
  split at hK
  · rename_i i l rest
    split at hK
    · rename_i t sz el m hg
      split at hK
      · rename_i hb
        split at hK
        · rename_i g ps hd
          obtain ⟨hq, hK⟩ := asks_holds hK
          have hlm : l ≤ m := hq _ (List.mem_cons_self ..)
          have hok : ∀ e, e < l → A.Ok (el.at e) := A.okE_ok l el fun p h' => hq p (List.mem_cons_of_mem _ (List.mem_append_left _ h'))
          have hps : ∀ p ∈ ps, p := fun p h' => hq p (List.mem_cons_of_mem _ (List.mem_append_right _ (List.mem_append_left _ h')))
          have hpre : ∀ p ∈ pre (A.lstE l el, g), p := fun p h' => hq p (List.mem_cons_of_mem _ (List.mem_append_right _ (List.mem_append_right _ h')))
          rw [A.lstE_eq] at hpre hK
          obtain ⟨y, ys, rfl, hy, hr⟩ := fits_cons hf
          have e1 : frz1 h (.ow i l) = (.rs sz l el.at, h.set i .dead, [l ≤ m]) := by simp [frz1, hg]
          obtain ⟨ρ1, a1, m1, f1⟩ := frz1_ok (s := .ow i l) hm hy (by rw [e1]; intro p hp'; simp only [List.mem_singleton] at hp'; rw [hp']; exact hlm)
          rw [e1] at m1 f1
          have hdec : (DA.cons (.list A) D).dec (.rs sz l el.at :: rest) = some ((A.lst l el.at, g), [∀ e, e < l → A.Ok (el.at e)] ++ ps) := by
            simp only [DA.cons, Dv.list, hb, hd, cond_true]
          have hK1 : (conR (.cons (.list A) D) R fn pre (.rs sz l el.at :: rest) (h.set i .dead)).Holds K := by
            unfold conR
            rw [hdec]
            refine asks_intro (fun p h' => ?_) hK
            rcases List.mem_append.1 h' with h' | h'
            · rcases List.mem_append.1 h' with h' | h'
              · simp only [List.mem_singleton] at h'
                rw [h']; exact hok
              · exact hps p h'
            · exact hpre p h'
          refine (conR_ok hp M w0 w ρ1 (h.set i .dead) (.rs sz l el.at :: rest) (y :: ys) K hK1 m1 ⟨f1, SV.fits_mono (Nat.le_refl _) a1 _ _ hr⟩).mono ?_
          rintro e w' ⟨s, h', ρ', x, k1, k2, k3, k4, k5, k6⟩
          exact ⟨s, h', ρ', x, k1, k2, a1.trans (Nat.le_refl _) k3, k4, k5, k6⟩
        · exact hK.elim
      · exact hK.elim
    · exact hK.elim
  · exact frzC_ok (conR_ok hp) M w0 w ρ h _ vs K hK hm hf
theorem conL_b {α γ δ : Type} {A : El α} {D : DA γ} {R : Dv δ} {fn : List α × γ → δ} {pre : List α × γ → List Prop} : ConB (conL A D R fn pre) := fun args h => by
  unfold conL
  split
  · split
    · split
      · split
        · exact asks_each rfl
        · trivial
      · trivial
    · trivial
  · exact frzC_b (pconR (.cons (.list A) D) R fn pre).e _ h
def lconR {α γ δ : Type} (A : El α) (D : DA γ) (R : Dv δ) (fn : List α × γ → δ) (pre : List α × γ → List Prop) : BCon := ⟨conL A D R fn pre, conL_b⟩
theorem pure_none {f : Nat} {α δ : Type} {A : Dv α} {R : Dv δ} {fn : α → δ} {pre : α → List Prop} (h : FnPure P f (.one A) R fn pre) : FnPure P f (.cons A .none) R (fun g => fn g.1) (fun g => pre g.1) := fun w F g vs h1 h2 h3 => h w F g.1 vs h1 h2 h3
/-- Elements that are all known. -/
def okAll {α : Type} (A : El α) (n : Nat) (el : Nat → List SV) : Bool := (List.range n).all fun e => match A.decs (el e) with
  | some (_, []) => true
  | _ => false
theorem okAll_ok {α : Type} {A : El α} {n : Nat} {el : Nat → List SV} (h : okAll A n el = true) : ∀ e, e < n → A.Ok (el e) := fun e he => by
  have := List.all_eq_true.1 h e (by simpa using he)
  split at this
  · rename_i a hd
    exact ⟨a, [], hd, by simp⟩
  · cases this
/-- As Dv.list, where the elements are looked at one by one. -/
def Dv.listB {α : Type} (A : El α) : Dv (List α) where
  dec s := match s with
    | .rs sz n el => bif Nat.beq sz A.sz && okAll A n el then some (A.lst n el, []) else none
    | _ => none
  enc := (Dv.list A).enc
  bd := (Dv.list A).bd
  cl := (Dv.list A).cl
  ok s a ps n ρ x hd hp hf := by
    split at hd
    · rename_i sz m el
      cases hb : (Nat.beq sz A.sz && okAll A m el) with
      | false => rw [hb] at hd; cases hd
      | true =>
        rw [hb] at hd
        simp only [cond_true, Option.some.injEq, Prod.mk.injEq] at hd
        obtain ⟨rfl, rfl⟩ := hd
        simp only [Bool.and_eq_true] at hb
        exact (Dv.list A).ok (.rs sz m el) _ [∀ e, e < m → A.Ok (el e)] n ρ x (by simp [Dv.list, hb.1]) (by
          intro p hp
          simp only [List.mem_singleton] at hp
          subst hp
          exact okAll_ok hb.2) hf
    · cases hd
  fb := (Dv.list A).fb
end
end Go.Sx

/- Chapter 3: is one not covered: the contract. -/
namespace Go.Proofs.Ytiipneclghnfhaa
open Go.RowKit Go.Sx Go.Lp
theorem cfc_ok : FnPure Try.prog 75 aFl dBool (fun g => g.1.any (fun v => !g.2.any (tleq_F · v))) (fun _ => []) := by
  refine pure_congr (cfc_okS _ fun g hb hp => ⟨okT g.1, okT g.2⟩) fun g hb hp => ?_
  show cfc_F g.1 g.2 = _
  unfold cfc_F
  simp only [eT.lst_els]
  exact ixc_pos g.1 g.2 hb.1.1
noncomputable def tabV : PTab Try.prog := tabU.cons 75 (pconAlt 113 (pconP aFt dBool (fun g => g.1.any (difD g.2)) (fun g => [0 < g.1.length → 0 < g.2.length])) (pconAlt 104 (pconP aFl dBool (fun g => g.1.any (fun v => !g.2.any (tleq_F · v))) (fun _ => [])) (pconP aFc dBool (fun g => g.1.any (tleq_F · g.2)) (fun _ => [])))) (alt_ok (conP_ok cfa_ok puB) (alt_ok (conP_ok cfc_ok puB) (conP_ok cfb_ok puB)))
noncomputable def tabW : MTab Try.prog := (MTab.of tabV).consM 31 (lconR eT DA.none dLE (fun g => ofC g.1) (fun g => [g.1.length ≤ KS])) (conL_ok (pure_none rof_ok))
end Go.Proofs.Ytiipneclghnfhaa
