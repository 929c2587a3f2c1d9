/- Chapter 3: chain.Of: the loop's contract, over a row of one's own. -/
import Derived.Test.YtiipneclghnfhaaZG113b9f1e
import Derived.Test.YtiipneclghnfhaaZG07b78856
import Derived.Test.YtiipneclghnfhaaZG1008ad3f
import Derived.Test.YtiipneclghnfhaaZG095c18e1
set_option linter.unusedVariables false
set_option linter.unusedSimpArgs false
set_option linter.constructorNameAsVariable false
set_option linter.all false

namespace Go.Proofs.Ytiipneclghnfhaa
open Go.RowKit Go.Sx Go.Lp
noncomputable def of2_S (_ : of2_GC) (b : of2_GB) (_ : Int) (v : T) : Ex × of2_GB := (.normal, of1_st b v)
def of2_K (c : of2_GC) (b : of2_GB) (i : Int) : Prop := c.1.length ≤ KS ∧ (List.length b : Int) ≤ i ∧ c.2.2 = c.1.length
abbrev of2_I (g : of2_G) : List Prop := ixI (fun c : of2_GC => c.2.1) (fun c => c.1) of2_K (of2_f g)
abbrev of2_M (g : of2_G) : Nat := ixM (fun c : of2_GC => c.2.1) (of2_f g)
theorem of2_P : ixP of2_S (fun c : of2_GC => c.1) of2_K := by
  rintro ⟨ys, n, l⟩ b i a ⟨h1, h2, h3⟩ _ _
  refine ⟨h1, ?_, h3⟩
  have h2 : (List.length b : Int) ≤ (i : Int) := h2
  show (List.length (of1_st b a) : Int) ≤ (i : Int) + 1
  unfold of1_st
  cases b.any (tleq_F · a) <;> simp <;> omega
theorem of2_q (out : List T) (l : Nat) (ys : List T) (n i : Int) (hm : out.length ≤ maxLen) : ∃ j, of2_q1 out l ys n i = bif out.any (tleq_F · (ys.getD i.toNat eT.dflt)) then (.ret, (out.length : Int), j, (), ys.getD i.toNat eT.dflt, out.length, out, (.done, some (.exit 1))) else (.exit 0, (out.length : Int), j, (), ys.getD i.toNat eT.dflt, out.length, out, (.ready, none)) := by
  unfold of2_q1
  rw [eT.lst_els]
  exact eb_run (out.length : Int) (ys.getD i.toNat eT.dflt) out rfl hm
noncomputable abbrev of2_RR (g : of2_G) : Ex × of2_G := of2_R g.1 g.2.1 g.2.2.1 g.2.2.2.1 g.2.2.2.2
theorem of2_RF (d : Int × of2_GC × of2_GB) (hi : allP (ixI (fun c : of2_GC => c.2.1) (fun c => c.1) of2_K d)) : of2_RR (of2_g d) = ((ixF 0 (fun c : of2_GC => c.2.1) (fun c => c.1) eT.dflt of2_S d).1, of2_g (ixF 0 (fun c : of2_GC => c.2.1) (fun c => c.1) eT.dflt of2_S d).2) := by
  obtain ⟨h1, h2, h3, h4, h5, h6, h7⟩ := hi _ (List.mem_cons_self ..)
  obtain ⟨i, ⟨ys, n, l⟩, out⟩ := d
  have h5 : ys.length ≤ KS := h5
  have h4 : i ≤ (ys.length : Int) := h4
  have h6 : (List.length out : Int) ≤ i := h6
  have hm : out.length ≤ maxLen := by unfold KS at h5; unfold maxLen; omega
  obtain ⟨j, hj⟩ := of2_q out l ys n i hm
  show of2_R out l ys n i = _
  unfold of2_R ixF of2_S of1_st
  rw [hj]
  simp only [eT.lst_els]
  cases decide (i < n) with
  | false => rfl
  | true =>
    simp only [cond_true]
    generalize out.any (tleq_F · (ys.getD i.toNat eT.dflt)) = z
    cases z
    · simp only [cond_false]
      show (bif exB Ex.ret (.exit 0) then _ else _) = _
      simp only [eT.lst_els, lst_app1]
      rfl
    · simp only [cond_true]
      show (bif exB Ex.ret .ret then _ else _) = _
      simp only [eT.lst_els]
      rfl
theorem of2_ok : ∀ b ∈ loopsOf Try.prog 18, lkey b = 8 → LoopOk Try.prog b (of2_C of2_I of2_M).g := by
  refine of2_loop of2_I of2_M (fun g hi => ?_) (ix_conj_goes (fun _ => rfl) (fun _ => rfl) of2_RF of2_P)
  obtain ⟨out, l, ys, n, i⟩ := g
  obtain ⟨h1, h2, h3, h4, h5, h6, h7⟩ := hi _ (List.mem_cons_self ..)
  have h1 : n = (ys.length : Int) := h1
  have h3 : 0 ≤ i := h3
  have h4 : i ≤ (ys.length : Int) := h4
  have h5 : ys.length ≤ KS := h5
  have h6 : (List.length out : Int) ≤ i := h6
  unfold KS at h5
  have hm : out.length ≤ maxLen := by unfold maxLen; omega
  have hs : out.length < 1000000 ∨ ¬ i < (ys.length : Int) := by omega
  have h7 : l = ys.length := h7
  clear hi
  subst h7
  obtain ⟨j, hj⟩ := of2_q out ys.length ys n i hm
  have ha : ∀ e, e < ys.length → True := fun _ _ => trivial
  have hx := ixJ0 (lim := fun c : eb_GC => c.1) (xs := fun c : eb_GC => c.2.2.2) (P := eb_K) (c := ((out.length : Int), ys.getD i.toNat eT.dflt, out.length, out)) (b := ((), LoopState.ready, none)) rfl hm ⟨rfl, rfl⟩
  show of2_side out ys.length ys n i
  unfold of2_side
  rw [hj]
  simp only [bytesT, decide_eq_true_eq, decide_eq_false_iff_not, eT.lst_els]
  refine ⟨fun hc => ⟨⟨h3, by omega⟩, by omega, fun _ _ => trivial, rfl, rfl, hx, fun _ => ?_, fun _ => ?_⟩, fun _ => ⟨Nat.le_refl _, fun _ _ => trivial, ha⟩⟩
  · cases out.any (tleq_F · (ys.getD i.toNat eT.dflt)) <;> exact ⟨Nat.le_refl _, fun _ _ => trivial, ha⟩
  · have hl : out.length ≤ (bif out.any (tleq_F · (ys.getD i.toNat eT.dflt)) then ((Ex.ret, (out.length : Int), j, (), ys.getD i.toNat eT.dflt, out.length, out, (LoopState.done, some (Code.exit 1))) : Ex × eb_G) else (.exit 0, (out.length : Int), j, (), ys.getD i.toNat eT.dflt, out.length, out, (.ready, none))).2.2.2.2.2.2.1.length := by
      cases out.any (tleq_F · (ys.getD i.toNat eT.dflt)) <;> exact Nat.le_refl _
    have hs : out.length < 1000000 := by rcases hs with h | h
                                         · exact h
                                         · exact absurd (by omega) h
    exact ⟨⟨hl, trivial, by unfold maxLen; omega, by omega⟩, Nat.le_refl _, fun _ _ => trivial, fun _ _ => trivial, ha⟩
theorem of2_run (ys : List T) (hm : ys.length ≤ KS) : loopF of2_RR of2_M ([], ys.length, ys, (ys.length : Int), 0) = (.exit 0, greedy tleq_F [] ys, ys.length, ys, (ys.length : Int), (ys.length : Int)) := by
  have hm2 : ys.length ≤ maxLen := by unfold KS at hm; unfold maxLen; omega
  have h1 : loopF of2_RR of2_M ([], ys.length, ys, (ys.length : Int), 0) = _ := ix_conj_run (φ := of2_f) (ψ := of2_g) (fun _ => rfl) (fun _ => rfl) of2_RF of2_P (ys, (ys.length : Int), ys.length) [] rfl hm2 ⟨hm, Int.le_refl _, rfl⟩
  have hs := scan_fold (x := 0) (st := of2_S (ys, (ys.length : Int), ys.length)) (f := of1_st) (fun _ _ _ => rfl) ys 0 []
  rw [of1_greedy] at hs
  rw [h1]
  show ((scan 0 (of2_S (ys, (ys.length : Int), ys.length)) 0 ys []).1, of2_g ((scan 0 (of2_S (ys, (ys.length : Int), ys.length)) 0 ys []).2.1, (ys, (ys.length : Int), ys.length), (scan 0 (of2_S (ys, (ys.length : Int), ys.length)) 0 ys []).2.2)) = _
  rw [hs, Int.zero_add]
  rfl
noncomputable def ltN : LTab Try.prog := ltO.cons 18 8 (lconAlt 0 (of1_C of1_I of1_M) (of2_C of2_I of2_M)) (fun b hb hk => altL_ok (of1_ok b hb hk) (of2_ok b hb hk))
noncomputable abbrev lamN : Lam := ltN.lam
theorem lamN_ok : ∀ f k L, lamN f k = some L → ∀ b ∈ loopsOf Try.prog f, lkey b = k → LoopOk Try.prog b L.g := ltN.ok
end Go.Proofs.Ytiipneclghnfhaa

/- Chapter 3: chain.Of. Printed by treegen.py. -/
namespace Go.Proofs.Ytiipneclghnfhaa
open Go.RowKit Go.Sx
set_option maxRecDepth 100000
set_option linter.unusedVariables false
abbrev rLE : Rv (List T × Int) := .tup (.cons (.list eT) (.one (.of dI)))
noncomputable def cof_q1 (xs : List T) : Ex ×
  of2_G :=
  loopF (fun g => of2_R g.fst g.snd.fst g.snd.snd.fst g.snd.snd.snd.fst g.snd.snd.snd.snd) of2_M ([], (Lp.compL (eT.lst (srtBy (fun a b => tcmp_F a b) (List.map (fun x => eT.get []) (List.range (min ((0 : Nat) + xs.length) (0 : Nat))) ++ eT.lst ((0 : Nat) + xs.length - (0 : Nat)) (eT.els xs))).length (eT.els (srtBy (fun a b => tcmp_F a b) (List.map (fun x => eT.get []) (List.range (min ((0 : Nat) + xs.length) (0 : Nat))) ++ eT.lst ((0 : Nat) + xs.length - (0 : Nat)) (eT.els xs)))))).length, eT.lst (Lp.compL (eT.lst (srtBy (fun a b => tcmp_F a b) (List.map (fun x => eT.get []) (List.range (min ((0 : Nat) + xs.length) (0 : Nat))) ++ eT.lst ((0 : Nat) + xs.length - (0 : Nat)) (eT.els xs))).length (eT.els (srtBy (fun a b => tcmp_F a b) (List.map (fun x => eT.get []) (List.range (min ((0 : Nat) + xs.length) (0 : Nat))) ++ eT.lst ((0 : Nat) + xs.length - (0 : Nat)) (eT.els xs)))))).length (eT.els (Lp.compL (eT.lst (srtBy (fun a b => tcmp_F a b) (List.map (fun x => eT.get []) (List.range (min ((0 : Nat) + xs.length) (0 : Nat))) ++ eT.lst ((0 : Nat) + xs.length - (0 : Nat)) (eT.els xs))).length (eT.els (srtBy (fun a b => tcmp_F a b) (List.map (fun x => eT.get []) (List.range (min ((0 : Nat) + xs.length) (0 : Nat))) ++ eT.lst ((0 : Nat) + xs.length - (0 : Nat)) (eT.els xs))))))), (↑(Lp.compL (eT.lst (srtBy (fun a b => tcmp_F a b) (List.map (fun x => eT.get []) (List.range (min ((0 : Nat) + xs.length) (0 : Nat))) ++ eT.lst ((0 : Nat) + xs.length - (0 : Nat)) (eT.els xs))).length (eT.els (srtBy (fun a b => tcmp_F a b) (List.map (fun x => eT.get []) (List.range (min ((0 : Nat) + xs.length) (0 : Nat))) ++ eT.lst ((0 : Nat) + xs.length - (0 : Nat)) (eT.els xs)))))).length : Int), (0 : Int))
noncomputable def cof_q2 (xs : List T) : Ex ×
  of2_G :=
  loopF (fun g => of2_R g.fst g.snd.fst g.snd.snd.fst g.snd.snd.snd.fst g.snd.snd.snd.snd) of2_M ([], (0 : Nat), [], (0 : Int), (0 : Int))
noncomputable def cof_F (xs : List T) : Rv.T rLE :=
  bif badC (eT.lst xs.length (eT.els xs)) != (0 : Int) then ([], badC (eT.lst xs.length (eT.els xs)))
  else bif exB Ex.ret (cof_q1 xs).fst then ([], (0 : Int)) else bif decide ((↑(cof_q1 xs).snd.fst.length : Int) > (1024 : Int)) then ([], (3 : Int)) else (eT.lst (cof_q1 xs).snd.fst.length (eT.els (cof_q1 xs).snd.fst), (0 : Int))
def cof_side (xs : List T) : Prop :=
  (∀ (e : Nat), e < xs.length → eT.Ok (eT.els xs e)) ∧ ((badC (eT.lst xs.length (eT.els xs)) != (0 : Int)) = false → ∀ (cs : List Nat), (cs.isEmpty = false → xs.length = (0 : Nat)) → ((false != !cs.isEmpty) = true → (0 : Nat) = (0 : Nat) ∧ (∀ (e : Nat), e < (0 : Nat) → eT.OkP []) ∧ (0 : Nat) < (4611686018427387904 : Nat) ∧ (0 : Nat) = (0 : Nat) ∧ (∀ (e : Nat), e < (0 : Nat) → eT.OkP []) ∧ (∀ (e : Nat), e < (0 : Nat) → True) ∧ Lp.ixJ (fun c => c.snd.fst) (fun c => c.fst) of2_K (of2_f ([], (0 : Nat), [], (0 : Int), (0 : Int))) ∧ (exB Ex.ret (cof_q2 xs).fst = true → ∀ (d : List T × Int), ([], (0 : Int)) = bif exB Ex.ret (cof_q1 xs).fst then ([], (0 : Int)) else bif decide ((↑(cof_q1 xs).snd.fst.length : Int) > (1024 : Int)) then ([], (3 : Int)) else (eT.lst (cof_q1 xs).snd.fst.length (eT.els (cof_q1 xs).snd.fst), (0 : Int))) ∧ (exB Ex.ret (cof_q2 xs).fst = false → (decide ((↑(cof_q2 xs).snd.fst.length : Int) > (1024 : Int)) = true → ∀ (d : List T × Int), ([], (3 : Int)) = bif exB Ex.ret (cof_q1 xs).fst then ([], (0 : Int)) else bif decide ((↑(cof_q1 xs).snd.fst.length : Int) > (1024 : Int)) then ([], (3 : Int)) else (eT.lst (cof_q1 xs).snd.fst.length (eT.els (cof_q1 xs).snd.fst), (0 : Int))) ∧ (decide ((↑(cof_q2 xs).snd.fst.length : Int) > (1024 : Int)) = false → (cof_q2 xs).snd.fst.length ≤ (cof_q2 xs).snd.fst.length ∧ (∀ (e : Nat), e < (cof_q2 xs).snd.fst.length → True) ∧ ∀ (d : List T × Int), (eT.lst (cof_q2 xs).snd.fst.length (eT.els (cof_q2 xs).snd.fst), (0 : Int)) = bif exB Ex.ret (cof_q1 xs).fst then ([], (0 : Int)) else bif decide ((↑(cof_q1 xs).snd.fst.length : Int) > (1024 : Int)) then ([], (3 : Int)) else (eT.lst (cof_q1 xs).snd.fst.length (eT.els (cof_q1 xs).snd.fst), (0 : Int))))) ∧ ((false != !cs.isEmpty) = false → ((0 : Nat) ≤ (0 : Nat) ∧ (∀ (e : Nat), e < xs.length → (eT.els xs e).all SV.one = true) ∧ (0 : Nat) + xs.length ≤ maxLen ∧ ((0 : Nat) + xs.length) * Try.prog.types[(30 : Nat)].bytes ≤ (140737488355328 : Nat)) ∧ (0 : Nat) + xs.length = (0 : Nat) + xs.length ∧ (∀ (e : Nat), e < min ((0 : Nat) + xs.length) (0 : Nat) → eT.OkP []) ∧ (∀ (e : Nat), e < (0 : Nat) + xs.length - (0 : Nat) → True) ∧ (List.map (fun x => eT.get []) (List.range (min ((0 : Nat) + xs.length) (0 : Nat))) ++ eT.lst ((0 : Nat) + xs.length - (0 : Nat)) (eT.els xs)).length < (4611686018427387904 : Nat) ∧ (0 : Nat) + xs.length = (srtBy (fun a b => tcmp_F a b) (List.map (fun x => eT.get []) (List.range (min ((0 : Nat) + xs.length) (0 : Nat))) ++ eT.lst ((0 : Nat) + xs.length - (0 : Nat)) (eT.els xs))).length ∧ (∀ (e : Nat), e < (srtBy (fun a b => tcmp_F a b) (List.map (fun x => eT.get []) (List.range (min ((0 : Nat) + xs.length) (0 : Nat))) ++ eT.lst ((0 : Nat) + xs.length - (0 : Nat)) (eT.els xs))).length → True) ∧ (∀ (e : Nat), e < (Lp.compL (eT.lst (srtBy (fun a b => tcmp_F a b) (List.map (fun x => eT.get []) (List.range (min ((0 : Nat) + xs.length) (0 : Nat))) ++ eT.lst ((0 : Nat) + xs.length - (0 : Nat)) (eT.els xs))).length (eT.els (srtBy (fun a b => tcmp_F a b) (List.map (fun x => eT.get []) (List.range (min ((0 : Nat) + xs.length) (0 : Nat))) ++ eT.lst ((0 : Nat) + xs.length - (0 : Nat)) (eT.els xs)))))).length → True) ∧ Lp.ixJ (fun c => c.snd.fst) (fun c => c.fst) of2_K (of2_f ([], (Lp.compL (eT.lst (srtBy (fun a b => tcmp_F a b) (List.map (fun x => eT.get []) (List.range (min ((0 : Nat) + xs.length) (0 : Nat))) ++ eT.lst ((0 : Nat) + xs.length - (0 : Nat)) (eT.els xs))).length (eT.els (srtBy (fun a b => tcmp_F a b) (List.map (fun x => eT.get []) (List.range (min ((0 : Nat) + xs.length) (0 : Nat))) ++ eT.lst ((0 : Nat) + xs.length - (0 : Nat)) (eT.els xs)))))).length, eT.lst (Lp.compL (eT.lst (srtBy (fun a b => tcmp_F a b) (List.map (fun x => eT.get []) (List.range (min ((0 : Nat) + xs.length) (0 : Nat))) ++ eT.lst ((0 : Nat) + xs.length - (0 : Nat)) (eT.els xs))).length (eT.els (srtBy (fun a b => tcmp_F a b) (List.map (fun x => eT.get []) (List.range (min ((0 : Nat) + xs.length) (0 : Nat))) ++ eT.lst ((0 : Nat) + xs.length - (0 : Nat)) (eT.els xs)))))).length (eT.els (Lp.compL (eT.lst (srtBy (fun a b => tcmp_F a b) (List.map (fun x => eT.get []) (List.range (min ((0 : Nat) + xs.length) (0 : Nat))) ++ eT.lst ((0 : Nat) + xs.length - (0 : Nat)) (eT.els xs))).length (eT.els (srtBy (fun a b => tcmp_F a b) (List.map (fun x => eT.get []) (List.range (min ((0 : Nat) + xs.length) (0 : Nat))) ++ eT.lst ((0 : Nat) + xs.length - (0 : Nat)) (eT.els xs))))))), (↑(Lp.compL (eT.lst (srtBy (fun a b => tcmp_F a b) (List.map (fun x => eT.get []) (List.range (min ((0 : Nat) + xs.length) (0 : Nat))) ++ eT.lst ((0 : Nat) + xs.length - (0 : Nat)) (eT.els xs))).length (eT.els (srtBy (fun a b => tcmp_F a b) (List.map (fun x => eT.get []) (List.range (min ((0 : Nat) + xs.length) (0 : Nat))) ++ eT.lst ((0 : Nat) + xs.length - (0 : Nat)) (eT.els xs)))))).length : Int), (0 : Int))) ∧ (exB Ex.ret (cof_q1 xs).fst = true → ∀ (d : List T × Int), ([], (0 : Int)) = bif exB Ex.ret (cof_q1 xs).fst then ([], (0 : Int)) else bif decide ((↑(cof_q1 xs).snd.fst.length : Int) > (1024 : Int)) then ([], (3 : Int)) else (eT.lst (cof_q1 xs).snd.fst.length (eT.els (cof_q1 xs).snd.fst), (0 : Int))) ∧ (exB Ex.ret (cof_q1 xs).fst = false → (decide ((↑(cof_q1 xs).snd.fst.length : Int) > (1024 : Int)) = true → ∀ (d : List T × Int), ([], (3 : Int)) = bif exB Ex.ret (cof_q1 xs).fst then ([], (0 : Int)) else bif decide ((↑(cof_q1 xs).snd.fst.length : Int) > (1024 : Int)) then ([], (3 : Int)) else (eT.lst (cof_q1 xs).snd.fst.length (eT.els (cof_q1 xs).snd.fst), (0 : Int))) ∧ (decide ((↑(cof_q1 xs).snd.fst.length : Int) > (1024 : Int)) = false → (cof_q1 xs).snd.fst.length ≤ (cof_q1 xs).snd.fst.length ∧ (∀ (e : Nat), e < (cof_q1 xs).snd.fst.length → True) ∧ ∀ (d : List T × Int), (eT.lst (cof_q1 xs).snd.fst.length (eT.els (cof_q1 xs).snd.fst), (0 : Int)) = bif exB Ex.ret (cof_q1 xs).fst then ([], (0 : Int)) else bif decide ((↑(cof_q1 xs).snd.fst.length : Int) > (1024 : Int)) then ([], (3 : Int)) else (eT.lst (cof_q1 xs).snd.fst.length (eT.els (cof_q1 xs).snd.fst), (0 : Int))))))
theorem cof_okS (pre : DA.T aL → List Prop) (h : ∀ g, DA.bd aL g → (∀ p ∈ pre g, p) → cof_side g) : FnPure Try.prog 18 aL (Rv.D rLE) (fun g => cof_F g) pre := res_of_side (R := rLE) (Γ := (MTab.gamz tabQ [] [])) (Λ := lamN) (MTab.okz tabQ [] []) lamN_ok 100 default (fun g => cof_side g) (fun g => by kernel_rfl) (fun g => by kernel_rfl) h
noncomputable def tabX48 : MTab Try.prog := tabQ
end Go.Proofs.Ytiipneclghnfhaa

/- Chapter 3: is one not covered. Printed by treegen.py. -/
namespace Go.Proofs.Ytiipneclghnfhaa
open Go.RowKit Go.Sx
set_option maxRecDepth 100000
set_option linter.unusedVariables false
noncomputable def cfc_F (xs : List T) (l : List T) : Dv.T dBool :=
  decide (ixc_F (eT.lst xs.length (eT.els xs)) (eT.lst l.length (eT.els l)) ≥ (0 : Int))
def cfc_side (xs : List T) (l : List T) : Prop :=
  (∀ (e : Nat), e < xs.length → eT.Ok (eT.els xs e)) ∧ ∀ (e : Nat), e < l.length → eT.Ok (eT.els l e)
theorem cfc_okS (pre : DA.T aFl → List Prop) (h : ∀ g, DA.bd aFl g → (∀ p ∈ pre g, p) → cfc_side g.1 g.2) : FnPure Try.prog 75 aFl dBool (fun g => cfc_F g.1 g.2) pre := pure_of_sideS (Γ := (PTab.gamz tabU [] [])) (Λ := noΛ) (PTab.okz tabU [] []) noΛ_ok 100 default (fun g => cfc_side g.1 g.2) (fun g => by kernel_rfl) (fun g => by kernel_rfl) h
noncomputable def tabX37 : PTab Try.prog := tabU
end Go.Proofs.Ytiipneclghnfhaa

/- A call to which rows of one's own are handed for good: they are frozen first. -/
namespace Go.Sx
open Go.RowKit
def frz1 (h : SH) : SV → SV × SH × List Prop
  | .ow i l => match h.get i with
    | .row _ sz el m => (.rs sz l el, h.set i .dead, [l ≤ m])
    | _ => (.ow i l, h, [])
  | .sl i o l c => match h.get i with
    | .cells xs _ => bif Nat.ble l c && (Nat.ble c 16777216 && Nat.ble (o + l * ((xs.length - o) / c)) xs.length) then (.rs ((xs.length - o) / c) l (fun e => (xs.drop (o + e * ((xs.length - o) / c))).take ((xs.length - o) / c)), h.set i .dead, []) else (.u, h, [])
    | _ => (.sl i o l c, h, [])
  | s => (s, h, [])
def frzA : SH → List SV → List SV × SH × List Prop
  | h, [] => ([], h, [])
  | h, s :: r => ((frz1 h s).1 :: (frzA (frz1 h s).2.1 r).1, (frzA (frz1 h s).2.1 r).2.1, (frz1 h s).2.2 ++ (frzA (frz1 h s).2.1 r).2.2)
def frzC (c : Con) : Con := fun args h => asks (frzA h args).2.2 (c (frzA h args).1 (frzA h args).2.1)
theorem frz1_b (h : SH) (s : SV) : (frz1 h s).2.1.b = h.b ∧ (frz1 h s).2.1.nx = h.nx := by
  unfold frz1
  split
  · split <;> exact ⟨rfl, rfl⟩
  · split
    · rw [Bool.cond_eq_ite]; split <;> exact ⟨rfl, rfl⟩
    · exact ⟨rfl, rfl⟩
  · exact ⟨rfl, rfl⟩
theorem frzA_b : ∀ (args : List SV) (h : SH), (frzA h args).2.1.b = h.b ∧ (frzA h args).2.1.nx = h.nx
  | [], h => ⟨rfl, rfl⟩
  | s :: r, h => by
    obtain ⟨h1, h2⟩ := frz1_b h s
    obtain ⟨h3, h4⟩ := frzA_b r (frz1 h s).2.1
    exact ⟨h3.trans h1, h4.trans h2⟩
section
variable {P : Program} {M : Nat → Prop} {w0 w : World}
theorem frz1_ok {ρ : Rh} {h : SH} {s : SV} {x : Value} (hm : HM M w0 ρ h w) (hf : s.fit h.nx ρ x) (hp : ∀ p ∈ (frz1 h s).2.2, p) : ∃ ρ', Agree h.nx ρ ρ' ∧ HM M w0 ρ' (frz1 h s).2.1 w ∧ (frz1 h s).1.fit h.nx ρ' x := by
  generalize hr : frz1 h s = r at hp ⊢
  unfold frz1 at hr
  split at hr
  · rename_i i l
    split at hr
    · rename_i t sz el m hg
      subst hr
      have hl : l ≤ m := hp _ (List.mem_cons_self ..)
      have hob := hm.ob i
      rw [hg] at hob
      obtain ⟨hil, ⟨hnl, rfl, ad, rfl⟩ | ⟨hnl, hlc, rfl⟩⟩ := hf
      · exact ⟨ρ, Agree.refl _ _, hm.forget i, rs_nil0 _ _ _⟩
      · rcases hob.2 with ⟨hnl', _⟩ | ⟨_, hoff, c, fz, hob', _, hcs, hmc, hcm, hall⟩
        · rw [hnl] at hnl'; cases hnl'
        · have hown : (h.get i).own (ρ i) := by rw [hg]; exact hnl
          have hag : Agree h.nx ρ (ρ.frz (ρ i).blk _) := agree_frz (n := h.nx) ρ (o := .cells c t fz) (hm.sep i hown)
          refine ⟨_, hag, HM.freeze hm hown hob', ?_⟩
          refine ⟨_, _, rfl, hlc, by omega, fun _ => ⟨_, 0, c, t, fz, rfl, ?_, fun e he => ?_⟩⟩
          · simp [Rh.frz]
          · obtain ⟨vs, q1, q2, q3⟩ := hall e (by omega)
            exact ⟨vs, q1, SV.fits_mono (Nat.le_refl _) hag _ _ q2, q3⟩
    · subst hr; exact ⟨ρ, Agree.refl _ _, hm, hf⟩
  · rename_i i o l c
    split at hr
    · rename_i xs t hg
      cases hb : Nat.ble l c && (Nat.ble c 16777216 && Nat.ble (o + l * ((xs.length - o) / c)) xs.length) with
      | false => rw [hb] at hr; subst hr; exact ⟨ρ, Agree.refl _ _, hm, trivial⟩
      | true =>
        rw [hb] at hr
        subst hr
        simp only [Bool.and_eq_true] at hb
        have b1 := Nat.le_of_ble_eq_true hb.1
        have b2 := Nat.le_of_ble_eq_true hb.2.1
        have b3 := Nat.le_of_ble_eq_true hb.2.2
        have hob := hm.ob i
        rw [hg] at hob
        obtain ⟨hil, rfl⟩ := hf
        obtain ⟨_, hoff, v, hob', hfl⟩ := hob
        have hll := fits_length hfl
        have hown : (h.get i).own (ρ i) := by rw [hg]; trivial
        have hag : Agree h.nx ρ (ρ.frz (ρ i).blk _) := agree_frz (n := h.nx) ρ (o := .cells v.toArray t (0, 0)) (hm.sep i hown)
        refine ⟨_, hag, HM.freeze hm hown hob', ?_⟩
        show (SV.rs ((xs.length - o) / c) l (fun e => (xs.drop (o + e * ((xs.length - o) / c))).take ((xs.length - o) / c))).fit h.nx _ _
        generalize (xs.length - o) / c = sz at b3 ⊢
        refine ⟨_, _, rfl, b1, by unfold maxLen; omega, fun _ => ⟨_, _, v.toArray, t, (0, 0), rfl, by simp [Rh.frz], fun e he => ?_⟩⟩
        have hle : o + e * sz + sz ≤ xs.length := by
          have := Nat.mul_le_mul_right sz (show e + 1 ≤ l by omega)
          rw [Nat.add_mul, Nat.one_mul] at this
          omega
        refine ⟨(v.drop (o + e * sz)).take sz, by simp; omega, SV.fits_mono (Nat.le_refl _) hag _ _ (fits_take _ (fits_drop _ hfl)), fun j y hy => ?_⟩
        rw [List.getElem?_take] at hy
        split at hy
        · rw [List.getElem?_drop] at hy
          rw [hoff]
          simpa [Nat.add_assoc] using hy
        · cases hy
    · subst hr; exact ⟨ρ, Agree.refl _ _, hm, hf⟩
  · subst hr; exact ⟨ρ, Agree.refl _ _, hm, hf⟩
theorem frzA_ok : ∀ {args : List SV} {ρ : Rh} {h : SH} {vs : List Value}, HM M w0 ρ h w → SV.fits h.nx ρ args vs → (∀ p ∈ (frzA h args).2.2, p) → ∃ ρ', Agree h.nx ρ ρ' ∧ HM M w0 ρ' (frzA h args).2.1 w ∧ SV.fits h.nx ρ' (frzA h args).1 vs
  | [], ρ, h, vs, hm, hf, _ => ⟨ρ, Agree.refl _ _, hm, hf⟩
  | s :: r, ρ, h, vs, hm, hf, hp => by
    obtain ⟨y, ys, rfl, hy, hr⟩ := fits_cons hf
    simp only [frzA] at hp ⊢
    obtain ⟨ρ1, a1, m1, f1⟩ := frz1_ok hm hy fun p hq => hp p (List.mem_append_left _ hq)
    have hnx := (frz1_b h s).2
    have hr1 : SV.fits (frz1 h s).2.1.nx ρ1 r ys := by rw [hnx]; exact SV.fits_mono (Nat.le_refl _) a1 _ _ hr
    obtain ⟨ρ2, a2, m2, f2⟩ := frzA_ok (args := r) m1 hr1 fun p hq => hp p (List.mem_append_right _ hq)
    rw [hnx] at a2 f2
    exact ⟨ρ2, a1.trans (Nat.le_refl _) a2, m2, SV.fit_mono (Nat.le_refl _) a2 _ _ f1, f2⟩
theorem frzC_ok {f : Nat} {c : Con} (hc : FnOk P f c) : FnOk P f (frzC c) := by
  intro M w0 w ρ h args vs K hK hm hf
  obtain ⟨hq, hK⟩ := asks_holds hK
  obtain ⟨ρ1, a1, m1, f1⟩ := frzA_ok hm hf hq
  have hnx := (frzA_b args h).2
  refine (hc M w0 w ρ1 _ _ vs K hK m1 (by rw [hnx]; exact f1)).mono ?_
  rintro e w' ⟨s, h', ρ', x, k1, k2, k3, k4, k5, k6⟩
  rw [hnx] at k2 k3
  exact ⟨s, h', ρ', x, k1, k2, a1.trans (Nat.le_refl _) k3, k4, k5, k6⟩
theorem frzC_b {c : Con} (hc : ∀ args h, (c args h).Each fun y => y.2 = h) : ConB (frzC c) := fun args h => by
  have hb := (frzA_b args h).1
  refine asks_each ?_
  have := eq_b (hc (frzA h args).1 (frzA h args).2.1)
  rw [hb] at this
  exact this
def fconR {γ δ : Type} (D : DA γ) (R : Dv δ) (fn : γ → δ) (pre : γ → List Prop) : BCon := ⟨frzC (conR D R fn pre), frzC_b (pconR D R fn pre).e⟩
theorem fconR_ok {f : Nat} {γ δ : Type} {D : DA γ} {R : Dv δ} {fn : γ → δ} {pre : γ → List Prop} (h : FnPure P f D R fn pre) : FnOk P f (fconR D R fn pre).g := frzC_ok (conR_ok h)
theorem asks_intro {α : Type} {K : α → Prop} : ∀ {l : List Prop} {t : Tr α}, (∀ p ∈ l, p) → t.Holds K → (asks l t).Holds K
  | [], _, _, h => h
  | p :: r, t, hl, h => ⟨hl p (List.mem_cons_self ..), asks_intro (l := r) (fun q hq => hl q (List.mem_cons_of_mem _ hq)) h⟩
/-- The first argument is a list, handed for good: if it is a row of one's own, it is frozen. -/
def conL {α γ δ : Type} (A : El α) (D : DA γ) (R : Dv δ) (fn : List α × γ → δ) (pre : List α × γ → List Prop) : Con := fun args h =>
  match args with
  | .ow i l :: rest => match h.get i with
    | .row _ sz el m => match Nat.beq sz A.sz with
      | true => match D.dec rest with
        | some (g, ps) => asks ((l ≤ m) :: (A.okE l el ++ (ps ++ pre (A.lstE l el, g)))) (.ret (R.enc (fn (A.lstE l el, g)), h.set i .dead))
        | none => .bad 658
      | false => .bad 659
    | _ => .bad 660
  | args => frzC (conR (.cons (.list A) D) R fn pre) args h
theorem conL_ok {f : Nat} {α γ δ : Type} {A : El α} {D : DA γ} {R : Dv δ} {fn : List α × γ → δ} {pre : List α × γ → List Prop} (hp : FnPure P f (.cons (.list A) D) R fn pre) : FnOk P f (conL A D R fn pre) := by
  intro M w0 w ρ h args vs K hK hm hf
  unfold conL at hK
  split at hK
  · rename_i i l rest
    split at hK
    · rename_i t sz el m hg
      split at hK
      · rename_i hb
        split at hK
        · rename_i g ps hd
          obtain ⟨hq, hK⟩ := asks_holds hK
          have hlm : l ≤ m := hq _ (List.mem_cons_self ..)
          have hok : ∀ e, e < l → A.Ok (el.at e) := A.okE_ok l el fun p h' => hq p (List.mem_cons_of_mem _ (List.mem_append_left _ h'))
          have hps : ∀ p ∈ ps, p := fun p h' => hq p (List.mem_cons_of_mem _ (List.mem_append_right _ (List.mem_append_left _ h')))
          have hpre : ∀ p ∈ pre (A.lstE l el, g), p := fun p h' => hq p (List.mem_cons_of_mem _ (List.mem_append_right _ (List.mem_append_right _ h')))
          rw [A.lstE_eq] at hpre hK
          obtain ⟨y, ys, rfl, hy, hr⟩ := fits_cons hf
          have e1 : frz1 h (.ow i l) = (.rs sz l el.at, h.set i .dead, [l ≤ m]) := by simp [frz1, hg]
          obtain ⟨ρ1, a1, m1, f1⟩ := frz1_ok (s := .ow i l) hm hy (by rw [e1]; intro p hp'; simp only [List.mem_singleton] at hp'; rw [hp']; exact hlm)
          rw [e1] at m1 f1
          have hdec : (DA.cons (.list A) D).dec (.rs sz l el.at :: rest) = some ((A.lst l el.at, g), [∀ e, e < l → A.Ok (el.at e)] ++ ps) := by
            simp only [DA.cons, Dv.list, hb, hd, cond_true]
          have hK1 : (conR (.cons (.list A) D) R fn pre (.rs sz l el.at :: rest) (h.set i .dead)).Holds K := by
            unfold conR
            rw [hdec]
            refine asks_intro (fun p h' => ?_) hK
            rcases List.mem_append.1 h' with h' | h'
            · rcases List.mem_append.1 h' with h' | h'
              · simp only [List.mem_singleton] at h'
                rw [h']; exact hok
              · exact hps p h'
            · exact hpre p h'
          refine (conR_ok hp M w0 w ρ1 (h.set i .dead) (.rs sz l el.at :: rest) (y :: ys) K hK1 m1 ⟨f1, SV.fits_mono (Nat.le_refl _) a1 _ _ hr⟩).mono ?_
          rintro e w' ⟨s, h', ρ', x, k1, k2, k3, k4, k5, k6⟩
          exact ⟨s, h', ρ', x, k1, k2, a1.trans (Nat.le_refl _) k3, k4, k5, k6⟩
        · exact hK.elim
      · exact hK.elim
    · exact hK.elim
  · exact frzC_ok (conR_ok hp) M w0 w ρ h _ vs K hK hm hf
theorem conL_b {α γ δ : Type} {A : El α} {D : DA γ} {R : Dv δ} {fn : List α × γ → δ} {pre : List α × γ → List Prop} : ConB (conL A D R fn pre) := fun args h => by
  unfold conL
  split
  · split
    · split
      · split
        · exact asks_each rfl
        · trivial
      · trivial
    · trivial
  · exact frzC_b (pconR (.cons (.list A) D) R fn pre).e _ h
def lconR {α γ δ : Type} (A : El α) (D : DA γ) (R : Dv δ) (fn : List α × γ → δ) (pre : List α × γ → List Prop) : BCon := ⟨conL A D R fn pre, conL_b⟩
theorem pure_none {f : Nat} {α δ : Type} {A : Dv α} {R : Dv δ} {fn : α → δ} {pre : α → List Prop} (h : FnPure P f (.one A) R fn pre) : FnPure P f (.cons A .none) R (fun g => fn g.1) (fun g => pre g.1) := fun w F g vs h1 h2 h3 => h w F g.1 vs h1 h2 h3
/-- Elements that are all known. -/
def okAll {α : Type} (A : El α) (n : Nat) (el : Nat → List SV) : Bool := (List.range n).all fun e => match A.decs (el e) with
  | some (_, []) => true
  | _ => false
theorem okAll_ok {α : Type} {A : El α} {n : Nat} {el : Nat → List SV} (h : okAll A n el = true) : ∀ e, e < n → A.Ok (el e) := fun e he => by
  have := List.all_eq_true.1 h e (by simpa using he)
  split at this
  · rename_i a hd
    exact ⟨a, [], hd, by simp⟩
  · cases this
/-- As Dv.list, where the elements are looked at one by one. -/
def Dv.listB {α : Type} (A : El α) : Dv (List α) where
  dec s := match s with
    | .rs sz n el => bif Nat.beq sz A.sz && okAll A n el then some (A.lst n el, []) else none
    | _ => none
  enc := (Dv.list A).enc
  bd := (Dv.list A).bd
  cl := (Dv.list A).cl
  ok s a ps n ρ x hd hp hf := by
    split at hd
    · rename_i sz m el
      cases hb : (Nat.beq sz A.sz && okAll A m el) with
      | false => rw [hb] at hd; cases hd
      | true =>
        rw [hb] at hd
        simp only [cond_true, Option.some.injEq, Prod.mk.injEq] at hd
        obtain ⟨rfl, rfl⟩ := hd
        simp only [Bool.and_eq_true] at hb
        exact (Dv.list A).ok (.rs sz m el) _ [∀ e, e < m → A.Ok (el e)] n ρ x (by simp [Dv.list, hb.1]) (by
          intro p hp
          simp only [List.mem_singleton] at hp
          subst hp
          exact okAll_ok hb.2) hf
    · cases hd
  fb := (Dv.list A).fb
end
end Go.Sx

/- Chapter 3: is one not covered: the contract. -/
namespace Go.Proofs.Ytiipneclghnfhaa
open Go.RowKit Go.Sx Go.Lp
theorem cfc_ok : FnPure Try.prog 75 aFl dBool (fun g => g.1.any (fun v => !g.2.any (tleq_F · v))) (fun _ => []) := by
  refine pure_congr (cfc_okS _ fun g hb hp => ⟨okT g.1, okT g.2⟩) fun g hb hp => ?_
  show cfc_F g.1 g.2 = _
  unfold cfc_F
  simp only [eT.lst_els]
  exact ixc_pos g.1 g.2 hb.1.1
noncomputable def tabV : PTab Try.prog := tabU.cons 75 (pconAlt 113 (pconP aFt dBool (fun g => g.1.any (difD g.2)) (fun g => [0 < g.1.length → 0 < g.2.length])) (pconAlt 104 (pconP aFl dBool (fun g => g.1.any (fun v => !g.2.any (tleq_F · v))) (fun _ => [])) (pconP aFc dBool (fun g => g.1.any (tleq_F · g.2)) (fun _ => [])))) (alt_ok (conP_ok cfa_ok puB) (alt_ok (conP_ok cfc_ok puB) (conP_ok cfb_ok puB)))
noncomputable def tabW : MTab Try.prog := (MTab.of tabV).consM 31 (lconR eT DA.none dLE (fun g => ofC g.1) (fun g => [g.1.length ≤ KS])) (conL_ok (pure_none rof_ok))
end Go.Proofs.Ytiipneclghnfhaa

/- Chapter 3: Leq, both, the document's two, Insert, Meet; All. Printed by treegen.py. -/
namespace Go.Proofs.Ytiipneclghnfhaa
open Go.RowKit Go.Sx
set_option maxRecDepth 100000
set_option linter.unusedVariables false
abbrev dLBE : Dv (List T × Bool × Int) := .tup (.cons dLT (.cons dBool (.one dI)))
noncomputable def clq_F (ys : List T) (xs : List T) : Dv.T dBool :=
  !(eT.lst xs.length (eT.els xs)).any fun v => !(eT.lst ys.length (eT.els ys)).any fun x => tleq_F x v
def clq_side (ys : List T) (xs : List T) : Prop :=
  (∀ (e : Nat), e < xs.length → eT.Ok (eT.els xs e)) ∧ ∀ (e : Nat), e < ys.length → eT.Ok (eT.els ys e)
theorem clq_okS (pre : DA.T aLL → List Prop) (h : ∀ g, DA.bd aLL g → (∀ p ∈ pre g, p) → clq_side g.1 g.2) : FnPure Try.prog 55 aLL dBool (fun g => clq_F g.1 g.2) pre := pure_of_sideS (Γ := (MTab.gamz tabW [] [])) (Λ := noΛ) (MTab.okz tabW [] []) noΛ_ok 100 default (fun g => clq_side g.1 g.2) (fun g => by kernel_rfl) (fun g => by kernel_rfl) h
noncomputable def bth_F (xs : List T) (ys : List T) : Dv.T dI :=
  bif chkC (eT.lst xs.length (eT.els xs)) != (0 : Int) then chkC (eT.lst xs.length (eT.els xs))
  else bif chkC (eT.lst ys.length (eT.els ys)) != (0 : Int) then chkC (eT.lst ys.length (eT.els ys)) else bif decide ((↑xs.length : Int) > (0 : Int)) && (decide ((↑ys.length : Int) > (0 : Int)) && (xs.getD (0 : Nat) eT.dflt).d != (ys.getD (0 : Nat) eT.dflt).d) then (11 : Int) else (0 : Int)
def bth_side (xs : List T) (ys : List T) : Prop :=
  (∀ (e : Nat), e < xs.length → eT.Ok (eT.els xs e)) ∧ ((chkC (eT.lst xs.length (eT.els xs)) != (0 : Int)) = false → (∀ (e : Nat), e < ys.length → eT.Ok (eT.els ys e)) ∧ ((chkC (eT.lst ys.length (eT.els ys)) != (0 : Int)) = false → (decide ((↑xs.length : Int) > (0 : Int)) = true → decide ((↑ys.length : Int) > (0 : Int)) = true → (0 : Int) ≤ (0 : Int) ∧ (0 : Int) < (↑xs.length : Int)) ∧ (decide ((↑xs.length : Int) > (0 : Int)) = true → decide ((↑ys.length : Int) > (0 : Int)) = true → (0 : Int) ≤ (0 : Int) ∧ (0 : Int) < (↑ys.length : Int))))
theorem bth_okS (pre : DA.T aLL → List Prop) (h : ∀ g, DA.bd aLL g → (∀ p ∈ pre g, p) → bth_side g.1 g.2) : FnPure Try.prog 99 aLL dI (fun g => bth_F g.1 g.2) pre := pure_of_sideS (Γ := (MTab.gamz tabW [] [])) (Λ := noΛ) (MTab.okz tabW [] []) noΛ_ok 100 default (fun g => bth_side g.1 g.2) (fun g => by kernel_rfl) (fun g => by kernel_rfl) h
noncomputable def two_F (xs : List T) (ys : List T) : Dv.T dI :=
  bif chkC (eT.lst xs.length (eT.els xs)) != (0 : Int) then chkC (eT.lst xs.length (eT.els xs))
  else bif chkC (eT.lst ys.length (eT.els ys)) != (0 : Int) then chkC (eT.lst ys.length (eT.els ys)) else bif decide ((↑xs.length : Int) > (0 : Int)) && (decide ((↑ys.length : Int) > (0 : Int)) && (xs.getD (0 : Nat) eT.dflt).d != (ys.getD (0 : Nat) eT.dflt).d) then (11 : Int) else (0 : Int)
def two_side (xs : List T) (ys : List T) : Prop :=
  (∀ (e : Nat), e < xs.length → eT.Ok (eT.els xs e)) ∧ ((chkC (eT.lst xs.length (eT.els xs)) != (0 : Int)) = false → (∀ (e : Nat), e < ys.length → eT.Ok (eT.els ys e)) ∧ ((chkC (eT.lst ys.length (eT.els ys)) != (0 : Int)) = false → (decide ((↑xs.length : Int) > (0 : Int)) = true → decide ((↑ys.length : Int) > (0 : Int)) = true → (0 : Int) ≤ (0 : Int) ∧ (0 : Int) < (↑xs.length : Int)) ∧ (decide ((↑xs.length : Int) > (0 : Int)) = true → decide ((↑ys.length : Int) > (0 : Int)) = true → (0 : Int) ≤ (0 : Int) ∧ (0 : Int) < (↑ys.length : Int))))
theorem two_okS (pre : DA.T aLL → List Prop) (h : ∀ g, DA.bd aLL g → (∀ p ∈ pre g, p) → two_side g.1 g.2) : FnPure Try.prog 102 aLL dI (fun g => two_F g.1 g.2) pre := pure_of_sideS (Γ := (MTab.gamz tabW [] [])) (Λ := noΛ) (MTab.okz tabW [] []) noΛ_ok 100 default (fun g => two_side g.1 g.2) (fun g => by kernel_rfl) (fun g => by kernel_rfl) h
noncomputable def tabX39 : MTab Try.prog := tabW
end Go.Proofs.Ytiipneclghnfhaa

/- Chapter 3: Leq, both, the document's two: contracts. -/
namespace Go.Proofs.Ytiipneclghnfhaa
open Go.RowKit Go.Sx Go.Lp
theorem clq_ok : FnPure Try.prog 55 aLL dBool (fun g => leqC g.1 g.2) (fun _ => []) := by
  refine pure_congr (clq_okS _ fun g hb hp => ⟨okT g.2, okT g.1⟩) fun g hb hp => ?_
  show clq_F g.1 g.2 = _
  unfold clq_F leqC
  simp only [eT.lst_els]
  rw [any_not_all, Bool.not_not]
noncomputable def bothC (xs ys : List T) : Int := bif chkC xs != 0 then chkC xs else bif chkC ys != 0 then chkC ys else bif decide ((xs.length : Int) > 0) && (decide ((ys.length : Int) > 0) && (xs.getD (0 : Nat) eT.dflt).d != (ys.getD (0 : Nat) eT.dflt).d) then 11 else 0
theorem bth_ok : FnPure Try.prog 99 aLL dI (fun g => bothC g.1 g.2) (fun _ => []) := by
  refine pure_congr (bth_okS _ fun g hb hp => ?_) fun g hb hp => ?_
  · show bth_side g.1 g.2
    unfold bth_side
    simp only [eT.lst_els]
    exact ⟨okT _, fun _ => ⟨okT _, fun _ => ⟨fun h _ => ⟨Int.le_refl _, of_decide_eq_true h⟩, fun _ h => ⟨Int.le_refl _, of_decide_eq_true h⟩⟩⟩⟩
  · show bth_F g.1 g.2 = _
    unfold bth_F bothC
    simp only [eT.lst_els]
theorem two_ok : FnPure Try.prog 102 aLL dI (fun g => bothC g.1 g.2) (fun _ => []) := by
  refine pure_congr (two_okS _ fun g hb hp => ?_) fun g hb hp => ?_
  · show two_side g.1 g.2
    unfold two_side
    simp only [eT.lst_els]
    exact ⟨okT _, fun _ => ⟨okT _, fun _ => ⟨fun h _ => ⟨Int.le_refl _, of_decide_eq_true h⟩, fun _ h => ⟨Int.le_refl _, of_decide_eq_true h⟩⟩⟩⟩
  · show two_F g.1 g.2 = _
    unfold two_F bothC
    simp only [eT.lst_els]
noncomputable def tabXa : PTab Try.prog := ((tabV.cons 55 (pconP aLL dBool (fun g => leqC g.1 g.2) (fun _ => [])) (conP_ok clq_ok puB)).cons 99 (pconP aLL dI (fun g => bothC g.1 g.2) (fun _ => [])) (conP_ok bth_ok puI)).cons 102 (pconP aLL dI (fun g => bothC g.1 g.2) (fun _ => [])) (conP_ok two_ok puI)
noncomputable def tabY : MTab Try.prog := (MTab.of tabXa).consM 31 (lconR eT DA.none dLE (fun g => ofC g.1) (fun g => [g.1.length ≤ KS])) (conL_ok (pure_none rof_ok))
end Go.Proofs.Ytiipneclghnfhaa

/- Chapter 3: the document's Insert, Meet; All. Printed by treegen.py. -/
namespace Go.Proofs.Ytiipneclghnfhaa
open Go.RowKit Go.Sx
set_option maxRecDepth 100000
set_option linter.unusedVariables false
noncomputable def rins_F (xs : List T) (t : T) : Dv.T dLBE :=
  bif chkC (eT.lst xs.length (eT.els xs)) != (0 : Int) then ([], false, chkC (eT.lst xs.length (eT.els xs)))
  else bif rtcheck_F t != (0 : Int) then ([], false, rtcheck_F t) else bif (ofC (List.map (fun x => eT.get []) (List.range (min (min ((0 : Nat) + xs.length + (1 : Nat)) ((0 : Nat) + xs.length)) (0 : Nat))) ++ eT.lst (min ((0 : Nat) + xs.length + (1 : Nat)) ((0 : Nat) + xs.length) - (0 : Nat)) (eT.els xs) ++ List.map (fun x => t) (List.range ((0 : Nat) + xs.length + (1 : Nat) - ((0 : Nat) + xs.length))))).snd != (0 : Int) then ([], false, (ofC (List.map (fun x => eT.get []) (List.range (min (min ((0 : Nat) + xs.length + (1 : Nat)) ((0 : Nat) + xs.length)) (0 : Nat))) ++ eT.lst (min ((0 : Nat) + xs.length + (1 : Nat)) ((0 : Nat) + xs.length) - (0 : Nat)) (eT.els xs) ++ List.map (fun x => t) (List.range ((0 : Nat) + xs.length + (1 : Nat) - ((0 : Nat) + xs.length))))).snd) else (eT.lst (ofC (List.map (fun x => eT.get []) (List.range (min (min ((0 : Nat) + xs.length + (1 : Nat)) ((0 : Nat) + xs.length)) (0 : Nat))) ++ eT.lst (min ((0 : Nat) + xs.length + (1 : Nat)) ((0 : Nat) + xs.length) - (0 : Nat)) (eT.els xs) ++ List.map (fun x => t) (List.range ((0 : Nat) + xs.length + (1 : Nat) - ((0 : Nat) + xs.length))))).fst.length (eT.els (ofC (List.map (fun x => eT.get []) (List.range (min (min ((0 : Nat) + xs.length + (1 : Nat)) ((0 : Nat) + xs.length)) (0 : Nat))) ++ eT.lst (min ((0 : Nat) + xs.length + (1 : Nat)) ((0 : Nat) + xs.length) - (0 : Nat)) (eT.els xs) ++ List.map (fun x => t) (List.range ((0 : Nat) + xs.length + (1 : Nat) - ((0 : Nat) + xs.length))))).fst), !decide (eT.lst (ofC (List.map (fun x => eT.get []) (List.range (min (min ((0 : Nat) + xs.length + (1 : Nat)) ((0 : Nat) + xs.length)) (0 : Nat))) ++ eT.lst (min ((0 : Nat) + xs.length + (1 : Nat)) ((0 : Nat) + xs.length) - (0 : Nat)) (eT.els xs) ++ List.map (fun x => t) (List.range ((0 : Nat) + xs.length + (1 : Nat) - ((0 : Nat) + xs.length))))).fst.length (eT.els (ofC (List.map (fun x => eT.get []) (List.range (min (min ((0 : Nat) + xs.length + (1 : Nat)) ((0 : Nat) + xs.length)) (0 : Nat))) ++ eT.lst (min ((0 : Nat) + xs.length + (1 : Nat)) ((0 : Nat) + xs.length) - (0 : Nat)) (eT.els xs) ++ List.map (fun x => t) (List.range ((0 : Nat) + xs.length + (1 : Nat) - ((0 : Nat) + xs.length))))).fst) = eT.lst xs.length (eT.els xs)), (0 : Int))
def rins_side (xs : List T) (t : T) : Prop :=
  (∀ (e : Nat), e < xs.length → eT.Ok (eT.els xs e)) ∧ ((chkC (eT.lst xs.length (eT.els xs)) != (0 : Int)) = false → (rtcheck_F t != (0 : Int)) = false → (True ∧ (∀ (e : Nat), e < xs.length → (eT.els xs e).all SV.one = true) ∧ (0 : Nat) + xs.length ≤ maxLen ∧ ((0 : Nat) + xs.length) * Try.prog.types[(30 : Nat)].bytes ≤ (140737488355328 : Nat)) ∧ ((0 : Nat) + xs.length ≤ (0 : Nat) + xs.length ∧ True ∧ (0 : Nat) + xs.length + (1 : Nat) ≤ maxLen ∧ ((0 : Nat) + xs.length + (1 : Nat)) * Try.prog.types[(30 : Nat)].bytes ≤ (140737488355328 : Nat)) ∧ (0 : Nat) + xs.length + (1 : Nat) ≤ (0 : Nat) + xs.length + (1 : Nat) ∧ (∀ (e : Nat), e < min (min ((0 : Nat) + xs.length + (1 : Nat)) ((0 : Nat) + xs.length)) (0 : Nat) → eT.OkP []) ∧ (∀ (e : Nat), e < min ((0 : Nat) + xs.length + (1 : Nat)) ((0 : Nat) + xs.length) - (0 : Nat) → True) ∧ (∀ (e : Nat), e < (0 : Nat) + xs.length + (1 : Nat) - ((0 : Nat) + xs.length) → True) ∧ (List.map (fun x => eT.get []) (List.range (min (min ((0 : Nat) + xs.length + (1 : Nat)) ((0 : Nat) + xs.length)) (0 : Nat))) ++ eT.lst (min ((0 : Nat) + xs.length + (1 : Nat)) ((0 : Nat) + xs.length) - (0 : Nat)) (eT.els xs) ++ List.map (fun x => t) (List.range ((0 : Nat) + xs.length + (1 : Nat) - ((0 : Nat) + xs.length)))).length ≤ KS ∧ (((ofC (List.map (fun x => eT.get []) (List.range (min (min ((0 : Nat) + xs.length + (1 : Nat)) ((0 : Nat) + xs.length)) (0 : Nat))) ++ eT.lst (min ((0 : Nat) + xs.length + (1 : Nat)) ((0 : Nat) + xs.length) - (0 : Nat)) (eT.els xs) ++ List.map (fun x => t) (List.range ((0 : Nat) + xs.length + (1 : Nat) - ((0 : Nat) + xs.length))))).snd != (0 : Int)) = false → (∀ (e : Nat), e < (ofC (List.map (fun x => eT.get []) (List.range (min (min ((0 : Nat) + xs.length + (1 : Nat)) ((0 : Nat) + xs.length)) (0 : Nat))) ++ eT.lst (min ((0 : Nat) + xs.length + (1 : Nat)) ((0 : Nat) + xs.length) - (0 : Nat)) (eT.els xs) ++ List.map (fun x => t) (List.range ((0 : Nat) + xs.length + (1 : Nat) - ((0 : Nat) + xs.length))))).fst.length → eT.Ok (eT.els (ofC (List.map (fun x => eT.get []) (List.range (min (min ((0 : Nat) + xs.length + (1 : Nat)) ((0 : Nat) + xs.length)) (0 : Nat))) ++ eT.lst (min ((0 : Nat) + xs.length + (1 : Nat)) ((0 : Nat) + xs.length) - (0 : Nat)) (eT.els xs) ++ List.map (fun x => t) (List.range ((0 : Nat) + xs.length + (1 : Nat) - ((0 : Nat) + xs.length))))).fst e)) ∧ (∀ (e : Nat), e < xs.length → eT.Ok (eT.els xs e)) ∧ ∀ (e : Nat), e < (ofC (List.map (fun x => eT.get []) (List.range (min (min ((0 : Nat) + xs.length + (1 : Nat)) ((0 : Nat) + xs.length)) (0 : Nat))) ++ eT.lst (min ((0 : Nat) + xs.length + (1 : Nat)) ((0 : Nat) + xs.length) - (0 : Nat)) (eT.els xs) ++ List.map (fun x => t) (List.range ((0 : Nat) + xs.length + (1 : Nat) - ((0 : Nat) + xs.length))))).fst.length → eT.Ok (eT.els (ofC (List.map (fun x => eT.get []) (List.range (min (min ((0 : Nat) + xs.length + (1 : Nat)) ((0 : Nat) + xs.length)) (0 : Nat))) ++ eT.lst (min ((0 : Nat) + xs.length + (1 : Nat)) ((0 : Nat) + xs.length) - (0 : Nat)) (eT.els xs) ++ List.map (fun x => t) (List.range ((0 : Nat) + xs.length + (1 : Nat) - ((0 : Nat) + xs.length))))).fst e)))
theorem rins_okS (pre : DA.T aLT → List Prop) (h : ∀ g, DA.bd aLT g → (∀ p ∈ pre g, p) → rins_side g.1 g.2) : FnPure Try.prog 32 aLT dLBE (fun g => rins_F g.1 g.2) pre := pure_of_sideS (Γ := (MTab.gamz tabY [] [])) (Λ := noΛ) (MTab.okz tabY [] []) noΛ_ok 100 default (fun g => rins_side g.1 g.2) (fun g => by kernel_rfl) (fun g => by kernel_rfl) h
noncomputable def rmt_F (xs : List T) (ys : List T) : Dv.T dLE :=
  bif bothC (eT.lst xs.length (eT.els xs)) (eT.lst ys.length (eT.els ys)) != (0 : Int) then ([], bothC (eT.lst xs.length (eT.els xs)) (eT.lst ys.length (eT.els ys)))
  else (eT.lst (ofC (List.map (fun x => eT.get []) (List.range (min (min ((0 : Nat) + xs.length + ys.length) ((0 : Nat) + xs.length)) (0 : Nat))) ++ eT.lst (min ((0 : Nat) + xs.length + ys.length) ((0 : Nat) + xs.length) - (0 : Nat)) (eT.els xs) ++ eT.lst ((0 : Nat) + xs.length + ys.length - ((0 : Nat) + xs.length)) (eT.els ys))).fst.length (eT.els (ofC (List.map (fun x => eT.get []) (List.range (min (min ((0 : Nat) + xs.length + ys.length) ((0 : Nat) + xs.length)) (0 : Nat))) ++ eT.lst (min ((0 : Nat) + xs.length + ys.length) ((0 : Nat) + xs.length) - (0 : Nat)) (eT.els xs) ++ eT.lst ((0 : Nat) + xs.length + ys.length - ((0 : Nat) + xs.length)) (eT.els ys))).fst), (ofC (List.map (fun x => eT.get []) (List.range (min (min ((0 : Nat) + xs.length + ys.length) ((0 : Nat) + xs.length)) (0 : Nat))) ++ eT.lst (min ((0 : Nat) + xs.length + ys.length) ((0 : Nat) + xs.length) - (0 : Nat)) (eT.els xs) ++ eT.lst ((0 : Nat) + xs.length + ys.length - ((0 : Nat) + xs.length)) (eT.els ys))).snd)
def rmt_side (xs : List T) (ys : List T) : Prop :=
  (∀ (e : Nat), e < xs.length → eT.Ok (eT.els xs e)) ∧ (∀ (e : Nat), e < ys.length → eT.Ok (eT.els ys e)) ∧ ((bothC (eT.lst xs.length (eT.els xs)) (eT.lst ys.length (eT.els ys)) != (0 : Int)) = false → (True ∧ (∀ (e : Nat), e < xs.length → (eT.els xs e).all SV.one = true) ∧ (0 : Nat) + xs.length ≤ maxLen ∧ ((0 : Nat) + xs.length) * Try.prog.types[(30 : Nat)].bytes ≤ (140737488355328 : Nat)) ∧ ((0 : Nat) + xs.length ≤ (0 : Nat) + xs.length ∧ (∀ (e : Nat), e < ys.length → (eT.els ys e).all SV.one = true) ∧ (0 : Nat) + xs.length + ys.length ≤ maxLen ∧ ((0 : Nat) + xs.length + ys.length) * Try.prog.types[(30 : Nat)].bytes ≤ (140737488355328 : Nat)) ∧ (0 : Nat) + xs.length + ys.length ≤ (0 : Nat) + xs.length + ys.length ∧ (∀ (e : Nat), e < min (min ((0 : Nat) + xs.length + ys.length) ((0 : Nat) + xs.length)) (0 : Nat) → eT.OkP []) ∧ (∀ (e : Nat), e < min ((0 : Nat) + xs.length + ys.length) ((0 : Nat) + xs.length) - (0 : Nat) → True) ∧ (∀ (e : Nat), e < (0 : Nat) + xs.length + ys.length - ((0 : Nat) + xs.length) → True) ∧ (List.map (fun x => eT.get []) (List.range (min (min ((0 : Nat) + xs.length + ys.length) ((0 : Nat) + xs.length)) (0 : Nat))) ++ eT.lst (min ((0 : Nat) + xs.length + ys.length) ((0 : Nat) + xs.length) - (0 : Nat)) (eT.els xs) ++ eT.lst ((0 : Nat) + xs.length + ys.length - ((0 : Nat) + xs.length)) (eT.els ys)).length ≤ KS ∧ ∀ (e : Nat), e < (ofC (List.map (fun x => eT.get []) (List.range (min (min ((0 : Nat) + xs.length + ys.length) ((0 : Nat) + xs.length)) (0 : Nat))) ++ eT.lst (min ((0 : Nat) + xs.length + ys.length) ((0 : Nat) + xs.length) - (0 : Nat)) (eT.els xs) ++ eT.lst ((0 : Nat) + xs.length + ys.length - ((0 : Nat) + xs.length)) (eT.els ys))).fst.length → eT.Ok (eT.els (ofC (List.map (fun x => eT.get []) (List.range (min (min ((0 : Nat) + xs.length + ys.length) ((0 : Nat) + xs.length)) (0 : Nat))) ++ eT.lst (min ((0 : Nat) + xs.length + ys.length) ((0 : Nat) + xs.length) - (0 : Nat)) (eT.els xs) ++ eT.lst ((0 : Nat) + xs.length + ys.length - ((0 : Nat) + xs.length)) (eT.els ys))).fst e))
theorem rmt_okS (pre : DA.T aLL → List Prop) (h : ∀ g, DA.bd aLL g → (∀ p ∈ pre g, p) → rmt_side g.1 g.2) : FnPure Try.prog 52 aLL dLE (fun g => rmt_F g.1 g.2) pre := pure_of_sideS (Γ := (MTab.gamz tabY [] [])) (Λ := noΛ) (MTab.okz tabY [] []) noΛ_ok 100 default (fun g => rmt_side g.1 g.2) (fun g => by kernel_rfl) (fun g => by kernel_rfl) h
noncomputable def tabX41 : MTab Try.prog := tabY
end Go.Proofs.Ytiipneclghnfhaa

/- Chapter 3: the document's Insert and Meet: contracts. -/
namespace Go.Proofs.Ytiipneclghnfhaa
open Go.RowKit Go.Sx Go.Lp
theorem chk_len {xs : List T} (h : (chkC xs != 0) = false) : xs.length ≤ 1024 := by
  unfold chkC at h
  by_cases hl : (xs.length : Int) > 1024
  · simp [hl] at h
  · omega
theorem j1_eq (xs : List T) (t : T) : List.map (fun _ => eT.get []) (List.range (min (min (0 + xs.length + 1) (0 + xs.length)) 0)) ++ eT.lst (min (0 + xs.length + 1) (0 + xs.length) - 0) (eT.els xs) ++ List.map (fun _ => t) (List.range (0 + xs.length + 1 - (0 + xs.length))) = xs ++ [t] := by
  have h1 : min (0 + xs.length + 1) (0 + xs.length) = xs.length := by omega
  have h2 : min xs.length 0 = 0 := by omega
  have h3 : 0 + xs.length + 1 - (0 + xs.length) = 1 := by omega
  rw [h1, h2, h3, Nat.sub_zero, eT.lst_els]
  rfl
theorem j2_eq (xs ys : List T) : List.map (fun _ => eT.get []) (List.range (min (min (0 + xs.length + ys.length) (0 + xs.length)) 0)) ++ eT.lst (min (0 + xs.length + ys.length) (0 + xs.length) - 0) (eT.els xs) ++ eT.lst (0 + xs.length + ys.length - (0 + xs.length)) (eT.els ys) = xs ++ ys := jnd_eq xs ys
noncomputable def insC (xs : List T) (t : T) : List T × Bool × Int :=
  bif chkC xs != 0 then ([], false, chkC xs)
  else bif tcheck_F t != 0 then ([], false, tcheck_F t)
  else bif (ofC (xs ++ [t])).2 != 0 then ([], false, (ofC (xs ++ [t])).2)
  else ((ofC (xs ++ [t])).1, !decide ((ofC (xs ++ [t])).1 = xs), 0)
theorem rins_ok : FnPure Try.prog 32 aLT dLBE (fun g => insC g.1 g.2) (fun _ => []) := by
  refine pure_congr (rins_okS _ fun g hb hp => ?_) fun g hb hp => ?_
  · obtain ⟨xs, t⟩ := g
    show rins_side xs t
    unfold rins_side
    simp only [eT.lst_els, j1_eq, bytesT]
    refine ⟨okT _, fun hc _ => ?_⟩
    have hl := chk_len hc
    have ha := okT xs
    have hb := okT (ofC (xs ++ [t])).1
    have hk : (xs ++ [t]).length ≤ KS := by unfold KS; simp; omega
    have ho := fun e => onesT xs e
    unfold maxLen
    repeat' (first | exact ha | exact hb | exact hk | exact ho _ | exact rfl | apply And.intro | intro _)
    all_goals (first | trivial | omega)
  · obtain ⟨xs, t⟩ := g
    show rins_F xs t = insC xs t
    unfold rins_F insC
    simp only [eT.lst_els, j1_eq, rtcheck_eq]
noncomputable def meetC (xs ys : List T) : List T × Int := bif bothC xs ys != 0 then ([], bothC xs ys) else ofC (xs ++ ys)
theorem both_len {xs ys : List T} (h : (bothC xs ys != 0) = false) : xs.length ≤ 1024 ∧ ys.length ≤ 1024 := by
  unfold bothC at h
  cases h1 : (chkC xs != 0) with
  | true => simp only [h1, cond_true] at h; cases h
  | false =>
    simp only [h1, cond_false] at h
    cases h2 : (chkC ys != 0) with
    | true => simp only [h2, cond_true] at h; cases h
    | false => exact ⟨chk_len h1, chk_len h2⟩
theorem rmt_ok : FnPure Try.prog 52 aLL dLE (fun g => meetC g.1 g.2) (fun _ => []) := by
  refine pure_congr (rmt_okS _ fun g hb hp => ?_) fun g hb hp => ?_
  · obtain ⟨xs, ys⟩ := g
    show rmt_side xs ys
    unfold rmt_side
    simp only [eT.lst_els, j2_eq, bytesT]
    have ha := okT xs
    have hb := okT ys
    have hd := okT (ofC (xs ++ ys)).1
    refine ⟨ha, hb, fun hc => ?_⟩
    obtain ⟨hl, hl2⟩ := both_len hc
    have hk : (xs ++ ys).length ≤ KS := by unfold KS; simp; omega
    have ho := fun e => onesT xs e
    have ho2 := fun e => onesT ys e
    unfold maxLen
    repeat' (first | exact ha | exact hb | exact hd | exact hk | exact ho _ | exact ho2 _ | exact rfl | apply And.intro | intro _)
    all_goals (first | trivial | omega)
  · obtain ⟨xs, ys⟩ := g
    show rmt_F xs ys = meetC xs ys
    unfold rmt_F meetC
    simp only [eT.lst_els, j2_eq]
noncomputable def tabZ : PTab Try.prog := (tabXa.cons 32 (pconR aLT dLBE (fun g => insC g.1 g.2) (fun _ => [])) (conR_ok rins_ok)).cons 52 (pconR aLL dLE (fun g => meetC g.1 g.2) (fun _ => [])) (conR_ok rmt_ok)
end Go.Proofs.Ytiipneclghnfhaa

/- Chapter 3: chain.Of is the document's: its contract. -/
namespace Go.Proofs.Ytiipneclghnfhaa
open Go.RowKit Go.Sx Go.Lp
theorem cl0 (xs : List T) : List.map (fun _ => eT.get []) (List.range (min (0 + xs.length) 0)) ++ eT.lst (0 + xs.length - 0) (eT.els xs) = xs := by
  have h2 : min (0 + xs.length) 0 = 0 := by omega
  rw [h2, show 0 + xs.length - 0 = xs.length by omega, eT.lst_els]
  rfl
theorem srt_len (xs : List T) : (srtBy cfT xs).length = xs.length := (List.mergeSort_perm _ _).length_eq
theorem dd_len : ∀ (r : List T) (p : T), (dd p r).length ≤ r.length
  | [], _ => Nat.le_refl _
  | y :: r, p => by
    unfold dd
    split
    · exact Nat.le_succ_of_le (dd_len r _)
    · exact Nat.succ_le_succ (dd_len r _)
theorem comp_len (xs : List T) : (compL xs).length ≤ xs.length := by
  cases xs with
  | nil => exact Nat.le_refl _
  | cons x r => exact Nat.succ_le_succ (dd_len r x)
theorem cof_q (xs : List T) (h : xs.length ≤ KS) : ∃ a b c d, cof_q1 xs = (.exit 0, minsT xs, a, b, c, d) := by
  unfold cof_q1
  simp only [cl0, eT.lst_els]
  have hl : (compL (srtBy cfT xs)).length ≤ KS := Nat.le_trans (comp_len _) (by rw [srt_len]; exact h)
  have h1 := of2_run (compL (srtBy cfT xs)) hl
  rw [greedy_mins poT toT] at h1
  exact ⟨_, _, _, _, h1⟩
theorem cof_q0 (xs : List T) : ∃ a b c d, cof_q2 xs = (.exit 0, [], a, b, c, d) := ⟨_, _, _, _, of2_run [] (Nat.zero_le _)⟩
theorem cof_eq (xs : List T) (h : xs.length ≤ KS) : cof_F xs = ofC xs ∧ cof_side xs := by
  have hm : xs.length ≤ 1000000 := h
  have hl : (compL (srtBy cfT xs)).length ≤ KS := Nat.le_trans (comp_len _) (by rw [srt_len]; exact h)
  have hl2 : (compL (srtBy cfT xs)).length ≤ maxLen := Nat.le_trans hl (by unfold KS maxLen; omega)
  obtain ⟨a, b, c, d, h1⟩ := cof_q xs h
  obtain ⟨a', b', c', d', h2⟩ := cof_q0 xs
  unfold cof_F cof_side
  rw [h1, h2]
  simp only [cl0, eT.lst_els, bytesT]
  refine ⟨rfl, okT xs, fun _ cs hcs => ⟨fun hc => ?_, fun _ => ?_⟩⟩
  · have hx : xs = [] := List.length_eq_zero_iff.1 (hcs (by cases hh : cs.isEmpty with
      | true => rw [hh] at hc; cases hc
      | false => rfl))
    subst hx
    refine ⟨trivial, fun e he => by omega, by omega, trivial, fun e he => by omega, fun _ _ => trivial, ?_, fun hc => (by cases hc), fun _ => ⟨fun hc => (by cases hc), fun _ => ⟨Nat.le_refl _, fun _ _ => trivial, fun _ => rfl⟩⟩⟩
    exact ixJ0 (lim := fun c : of2_GC => c.2.1) (xs := fun c : of2_GC => c.1) (P := of2_K) (c := ([], 0, 0)) (b := []) rfl (Nat.zero_le _) ⟨Nat.zero_le _, Int.le_refl _, rfl⟩
  · refine ⟨⟨Nat.le_refl _, fun e _ => onesT xs e, by unfold maxLen; omega, by omega⟩, trivial, fun e he => by omega, fun _ _ => trivial, by omega, by rw [show (fun a b => tcmp_F a b) = cfT from rfl, srt_len]; omega, fun _ _ => trivial, fun _ _ => trivial, ?_, fun hc => (by cases hc), fun _ => ⟨fun hc d => ?_, fun hc => ⟨Nat.le_refl _, fun _ _ => trivial, fun d => ?_⟩⟩⟩
    · exact ixJ0 (lim := fun c : of2_GC => c.2.1) (xs := fun c : of2_GC => c.1) (P := of2_K) (c := (compL (srtBy cfT xs), ((compL (srtBy cfT xs)).length : Int), (compL (srtBy cfT xs)).length)) (b := []) rfl hl2 ⟨hl, Int.le_refl _, rfl⟩
    · rw [hc]; rfl
    · rw [hc]; rfl
theorem cof_ok : FnPure Try.prog 18 aL dLE ofC (fun g => [g.length ≤ KS]) :=
  pure_congr (cof_okS _ fun g _ hp => (cof_eq g (hp _ (List.mem_cons_self ..))).2) fun g _ hp => (cof_eq g (hp _ (List.mem_cons_self ..))).1
noncomputable def tabA : MTab Try.prog := ((MTab.of tabZ).consM 31 (lconR eT DA.none dLE (fun g => ofC g.1) (fun g => [g.1.length ≤ KS])) (conL_ok (pure_none rof_ok))).consM 18 (lconR eT DA.none dLE (fun g => ofC g.1) (fun g => [g.1.length ≤ KS])) (conL_ok (pure_none cof_ok))
end Go.Proofs.Ytiipneclghnfhaa

/- Chapter 3: lists of times as texts: the contract. -/
namespace Go.Proofs.Ytiipneclghnfhaa
open Go.RowKit Go.Sx Go.Lp
theorem txt_eq (xs : List T) (h : xs.length ≤ KS) : txt_F xs = txC xs ∧ txt_side xs := by
  have hm : xs.length ≤ maxLen := by unfold KS at h; unfold maxLen; omega
  obtain ⟨i, h1⟩ := tl_run xs h
  have hs := scan_sz (xs, (xs.length : Int)) xs 0 (ByteArray.mk #[(123 : UInt8)])
  have hb : (ByteArray.mk #[(123 : UInt8)]).size = 1 := rfl
  unfold txt_F txt_side txt_q1 txC
  rw [eT.lst_els]
  have h1 : loopF (fun g : tl_G => tl_R g.1 g.2.1 g.2.2.1 g.2.2.2) tl_M (xs, (xs.length : Int), 0, ByteArray.mk #[(123 : UInt8)]) = _ := h1
  rw [h1]
  refine ⟨rfl, okT xs, ?_, ?_⟩
  · exact ixJ0 (lim := fun c : tl_GC => c.2) (xs := fun c : tl_GC => c.1) (P := tl_K) (c := (xs, (xs.length : Int))) (b := ByteArray.mk #[(123 : UInt8)]) rfl hm ⟨h, by show (1 : Int) ≤ 60 * 0 + 1; omega⟩
  · unfold KS at h
    show (scan 0 (tl_S (xs, (xs.length : Int))) 0 xs (ByteArray.mk #[(123 : UInt8)])).2.2.size + 1 ≤ _
    omega
theorem txt_ok : FnPure Try.prog 57 aL dStr txC (fun g => [g.length ≤ KS]) :=
  pure_congr (txt_okS _ fun g _ hp => (txt_eq g (hp _ (List.mem_cons_self ..))).2) fun g _ hp => (txt_eq g (hp _ (List.mem_cons_self ..))).1
noncomputable def tabB : MTab Try.prog := tabA.cons 57 (pconP aL dStr txC (fun g => [g.length ≤ KS])) (conP_ok txt_ok puStr)
abbrev aLB : DA (List T) := .one (.listB eT)
theorem cof_okB : FnPure Try.prog 18 aLB dLE ofC (fun g => [g.length ≤ KS]) := cof_ok
/-- For lists that are written out. -/
noncomputable def tabBk : MTab Try.prog := tabB.consM 18 (fconR aLB dLE ofC (fun g => [g.length ≤ KS])) (fconR_ok cof_okB)
end Go.Proofs.Ytiipneclghnfhaa

/- Chapter 3: the self-test. Printed by treegen.py. -/
namespace Go.Proofs.Ytiipneclghnfhaa
open Go.RowKit Go.Sx
set_option maxRecDepth 100000
set_option linter.unusedVariables false
noncomputable def lv_F (_u : Unit) : Dv.T dBool :=
  (ofC [T.mk (2 : Int) (1 : Int) (2 : Int) (0 : Int) (0 : Int) (0 : Int), T.mk (1 : Int) (1 : Int) (2 : Int) (0 : Int) (0 : Int) (0 : Int), T.mk (2 : Int) (1 : Int) (1 : Int) (0 : Int) (0 : Int) (0 : Int)]).snd == (0 : Int) && (decide (txC [(ofC [T.mk (2 : Int) (1 : Int) (2 : Int) (0 : Int) (0 : Int) (0 : Int), T.mk (1 : Int) (1 : Int) (2 : Int) (0 : Int) (0 : Int) (0 : Int), T.mk (2 : Int) (1 : Int) (1 : Int) (0 : Int) (0 : Int) (0 : Int)]).fst.getD (0 : Nat) eT.dflt, (ofC [T.mk (2 : Int) (1 : Int) (2 : Int) (0 : Int) (0 : Int) (0 : Int), T.mk (1 : Int) (1 : Int) (2 : Int) (0 : Int) (0 : Int) (0 : Int), T.mk (2 : Int) (1 : Int) (1 : Int) (0 : Int) (0 : Int) (0 : Int)]).fst.getD (1 : Nat) eT.dflt] = ByteArray.mk #[(123 : UInt8), (49 : UInt8), (46 : UInt8), (50 : UInt8), (44 : UInt8), (50 : UInt8), (46 : UInt8), (49 : UInt8), (125 : UInt8)]) && (([(ofC [T.mk (2 : Int) (1 : Int) (2 : Int) (0 : Int) (0 : Int) (0 : Int), T.mk (1 : Int) (1 : Int) (2 : Int) (0 : Int) (0 : Int) (0 : Int), T.mk (2 : Int) (1 : Int) (1 : Int) (0 : Int) (0 : Int) (0 : Int)]).fst.getD (0 : Nat) eT.dflt, (ofC [T.mk (2 : Int) (1 : Int) (2 : Int) (0 : Int) (0 : Int) (0 : Int), T.mk (1 : Int) (1 : Int) (2 : Int) (0 : Int) (0 : Int) (0 : Int), T.mk (2 : Int) (1 : Int) (1 : Int) (0 : Int) (0 : Int) (0 : Int)]).fst.getD (1 : Nat) eT.dflt].any fun x => tleq_F x (T.mk (3 : Int) (1 : Int) (1 : Int) (0 : Int) (0 : Int) (0 : Int))) && ![(ofC [T.mk (2 : Int) (1 : Int) (2 : Int) (0 : Int) (0 : Int) (0 : Int), T.mk (1 : Int) (1 : Int) (2 : Int) (0 : Int) (0 : Int) (0 : Int), T.mk (2 : Int) (1 : Int) (1 : Int) (0 : Int) (0 : Int) (0 : Int)]).fst.getD (0 : Nat) eT.dflt, (ofC [T.mk (2 : Int) (1 : Int) (2 : Int) (0 : Int) (0 : Int) (0 : Int), T.mk (1 : Int) (1 : Int) (2 : Int) (0 : Int) (0 : Int) (0 : Int), T.mk (2 : Int) (1 : Int) (1 : Int) (0 : Int) (0 : Int) (0 : Int)]).fst.getD (1 : Nat) eT.dflt].any fun x => tleq_F x (T.mk (1 : Int) (1 : Int) (1 : Int) (0 : Int) (0 : Int) (0 : Int))))
def lv_side (_u : Unit) : Prop :=
  (3 : Nat) ≤ KS ∧ (((ofC [T.mk (2 : Int) (1 : Int) (2 : Int) (0 : Int) (0 : Int) (0 : Int), T.mk (1 : Int) (1 : Int) (2 : Int) (0 : Int) (0 : Int) (0 : Int), T.mk (2 : Int) (1 : Int) (1 : Int) (0 : Int) (0 : Int) (0 : Int)]).snd == (0 : Int)) = true → ∀ (e : Nat), e < (2 : Nat) → eT.Ok (eT.els (ofC [T.mk (2 : Int) (1 : Int) (2 : Int) (0 : Int) (0 : Int) (0 : Int), T.mk (1 : Int) (1 : Int) (2 : Int) (0 : Int) (0 : Int) (0 : Int), T.mk (2 : Int) (1 : Int) (1 : Int) (0 : Int) (0 : Int) (0 : Int)]).fst e)) ∧ (((ofC [T.mk (2 : Int) (1 : Int) (2 : Int) (0 : Int) (0 : Int) (0 : Int), T.mk (1 : Int) (1 : Int) (2 : Int) (0 : Int) (0 : Int) (0 : Int), T.mk (2 : Int) (1 : Int) (1 : Int) (0 : Int) (0 : Int) (0 : Int)]).snd == (0 : Int)) = true → (2 : Nat) ≤ KS) ∧ (((ofC [T.mk (2 : Int) (1 : Int) (2 : Int) (0 : Int) (0 : Int) (0 : Int), T.mk (1 : Int) (1 : Int) (2 : Int) (0 : Int) (0 : Int) (0 : Int), T.mk (2 : Int) (1 : Int) (1 : Int) (0 : Int) (0 : Int) (0 : Int)]).snd == (0 : Int)) = true → decide (txC [(ofC [T.mk (2 : Int) (1 : Int) (2 : Int) (0 : Int) (0 : Int) (0 : Int), T.mk (1 : Int) (1 : Int) (2 : Int) (0 : Int) (0 : Int) (0 : Int), T.mk (2 : Int) (1 : Int) (1 : Int) (0 : Int) (0 : Int) (0 : Int)]).fst.getD (0 : Nat) eT.dflt, (ofC [T.mk (2 : Int) (1 : Int) (2 : Int) (0 : Int) (0 : Int) (0 : Int), T.mk (1 : Int) (1 : Int) (2 : Int) (0 : Int) (0 : Int) (0 : Int), T.mk (2 : Int) (1 : Int) (1 : Int) (0 : Int) (0 : Int) (0 : Int)]).fst.getD (1 : Nat) eT.dflt] = ByteArray.mk #[(123 : UInt8), (49 : UInt8), (46 : UInt8), (50 : UInt8), (44 : UInt8), (50 : UInt8), (46 : UInt8), (49 : UInt8), (125 : UInt8)]) = true → ∀ (e : Nat), e < (2 : Nat) → eT.Ok (eT.els (ofC [T.mk (2 : Int) (1 : Int) (2 : Int) (0 : Int) (0 : Int) (0 : Int), T.mk (1 : Int) (1 : Int) (2 : Int) (0 : Int) (0 : Int) (0 : Int), T.mk (2 : Int) (1 : Int) (1 : Int) (0 : Int) (0 : Int) (0 : Int)]).fst e)) ∧ (((ofC [T.mk (2 : Int) (1 : Int) (2 : Int) (0 : Int) (0 : Int) (0 : Int), T.mk (1 : Int) (1 : Int) (2 : Int) (0 : Int) (0 : Int) (0 : Int), T.mk (2 : Int) (1 : Int) (1 : Int) (0 : Int) (0 : Int) (0 : Int)]).snd == (0 : Int)) = true → decide (txC [(ofC [T.mk (2 : Int) (1 : Int) (2 : Int) (0 : Int) (0 : Int) (0 : Int), T.mk (1 : Int) (1 : Int) (2 : Int) (0 : Int) (0 : Int) (0 : Int), T.mk (2 : Int) (1 : Int) (1 : Int) (0 : Int) (0 : Int) (0 : Int)]).fst.getD (0 : Nat) eT.dflt, (ofC [T.mk (2 : Int) (1 : Int) (2 : Int) (0 : Int) (0 : Int) (0 : Int), T.mk (1 : Int) (1 : Int) (2 : Int) (0 : Int) (0 : Int) (0 : Int), T.mk (2 : Int) (1 : Int) (1 : Int) (0 : Int) (0 : Int) (0 : Int)]).fst.getD (1 : Nat) eT.dflt] = ByteArray.mk #[(123 : UInt8), (49 : UInt8), (46 : UInt8), (50 : UInt8), (44 : UInt8), (50 : UInt8), (46 : UInt8), (49 : UInt8), (125 : UInt8)]) = true → ([(ofC [T.mk (2 : Int) (1 : Int) (2 : Int) (0 : Int) (0 : Int) (0 : Int), T.mk (1 : Int) (1 : Int) (2 : Int) (0 : Int) (0 : Int) (0 : Int), T.mk (2 : Int) (1 : Int) (1 : Int) (0 : Int) (0 : Int) (0 : Int)]).fst.getD (0 : Nat) eT.dflt, (ofC [T.mk (2 : Int) (1 : Int) (2 : Int) (0 : Int) (0 : Int) (0 : Int), T.mk (1 : Int) (1 : Int) (2 : Int) (0 : Int) (0 : Int) (0 : Int), T.mk (2 : Int) (1 : Int) (1 : Int) (0 : Int) (0 : Int) (0 : Int)]).fst.getD (1 : Nat) eT.dflt].any fun x => tleq_F x (T.mk (3 : Int) (1 : Int) (1 : Int) (0 : Int) (0 : Int) (0 : Int))) = true → ∀ (e : Nat), e < (2 : Nat) → eT.Ok (eT.els (ofC [T.mk (2 : Int) (1 : Int) (2 : Int) (0 : Int) (0 : Int) (0 : Int), T.mk (1 : Int) (1 : Int) (2 : Int) (0 : Int) (0 : Int) (0 : Int), T.mk (2 : Int) (1 : Int) (1 : Int) (0 : Int) (0 : Int) (0 : Int)]).fst e))
theorem lv_okS (pre : DA.T DA.none → List Prop) (h : ∀ g, DA.bd DA.none g → (∀ p ∈ pre g, p) → lv_side g) : FnPure Try.prog 16 DA.none dBool (fun g => lv_F g) pre := pure_of_sideS (Γ := (MTab.gamz tabBk [] [])) (Λ := noΛ) (MTab.okz tabBk [] []) noΛ_ok 100 default (fun g => lv_side g) (fun g => by kernel_rfl) (fun g => by kernel_rfl) h
noncomputable def tabXD10 : MTab Try.prog := tabBk
end Go.Proofs.Ytiipneclghnfhaa

/- Chapter 3: the self-test holds. -/
namespace Go.Proofs.Ytiipneclghnfhaa
open Go.RowKit Go.Sx Go.Lp
set_option maxRecDepth 100000
theorem lv_of : ofC [T.mk (2 : Int) (1 : Int) (2 : Int) (0 : Int) (0 : Int) (0 : Int), T.mk (1 : Int) (1 : Int) (2 : Int) (0 : Int) (0 : Int) (0 : Int), T.mk (2 : Int) (1 : Int) (1 : Int) (0 : Int) (0 : Int) (0 : Int)] = ([T.mk 1 1 2 0 0 0, T.mk 2 1 1 0 0 0], 0) := by kernel_rfl
theorem lv_tx : txC [T.mk 1 1 2 0 0 0, T.mk 2 1 1 0 0 0] = ByteArray.mk #[(123 : UInt8), (49 : UInt8), (46 : UInt8), (50 : UInt8), (44 : UInt8), (50 : UInt8), (46 : UInt8), (49 : UInt8), (125 : UInt8)] := by kernel_rfl
theorem lv_eq (u : Unit) : lv_F u = true := by
  unfold lv_F
  rw [lv_of]
  simp only [List.getD_cons_zero, List.getD_cons_succ, lv_tx, decide_true]
  kernel_rfl
end Go.Proofs.Ytiipneclghnfhaa

/- Chapter 3: the self-test: its contract. -/
namespace Go.Proofs.Ytiipneclghnfhaa
open Go.RowKit Go.Sx Go.Lp
theorem lv_si (u : Unit) : lv_side u := by
  have h1 := okT [T.mk 1 1 2 0 0 0, T.mk 2 1 1 0 0 0]
  unfold lv_side
  rw [lv_of]
  unfold KS
  repeat' (first | exact h1 | apply And.intro | intro _)
  all_goals (first | exact h1 | omega | trivial)
theorem lv_ok : FnPure Try.prog 16 .none dBool (fun _ => true) (fun _ => []) :=
  pure_congr (lv_okS _ fun g _ _ => lv_si g) fun g _ _ => lv_eq g
noncomputable def tabC : MTab Try.prog := tabB.cons 16 (pconP .none dBool (fun _ => true) (fun _ => [])) (conP_ok lv_ok puB)
end Go.Proofs.Ytiipneclghnfhaa

/- Chapter 3: chain.Meet. Printed by treegen.py. -/
namespace Go.Proofs.Ytiipneclghnfhaa
open Go.RowKit Go.Sx
set_option maxRecDepth 100000
set_option linter.unusedVariables false
noncomputable def cmt_F (xs : List T) (ys : List T) : Dv.T dLE :=
  bif bothC (eT.lst xs.length (eT.els xs)) (eT.lst ys.length (eT.els ys)) != (0 : Int) then ([], bothC (eT.lst xs.length (eT.els xs)) (eT.lst ys.length (eT.els ys)))
  else bif decide (IntKind.i64.wrap ((0 : Int) + (↑xs.length : Int)) < (0 : Int)) then default else bif decide (IntKind.i64.wrap (IntKind.i64.wrap ((0 : Int) + (↑xs.length : Int)) + (↑ys.length : Int)) < (0 : Int)) then default else bif decide (IntKind.i64.wrap (IntKind.i64.wrap ((0 : Int) + (↑xs.length : Int)) + (↑ys.length : Int)) < (0 : Int)) then default else bif decide (IntKind.i64.wrap (IntKind.i64.wrap (IntKind.i64.wrap ((0 : Int) + (↑xs.length : Int)) + (↑ys.length : Int)) - (0 : Int)) > (0 : Int)) then (eT.lst (ofC (eT.lst (min (min ((0 : Nat) + xs.length + ys.length) ((0 : Nat) + xs.length)) (0 : Nat)) (zeroEl (Value.agg #[Value.int IntKind.i64 (0 : Int), Value.int IntKind.i64 (0 : Int), Value.int IntKind.i64 (0 : Int), Value.int IntKind.i64 (0 : Int), Value.int IntKind.i64 (0 : Int), Value.int IntKind.i64 (0 : Int)])) ++ eT.lst (min ((0 : Nat) + xs.length + ys.length) ((0 : Nat) + xs.length) - (0 : Nat)) (eT.els xs) ++ eT.lst ((0 : Nat) + xs.length + ys.length - ((0 : Nat) + xs.length)) (eT.els ys))).fst.length (eT.els (ofC (eT.lst (min (min ((0 : Nat) + xs.length + ys.length) ((0 : Nat) + xs.length)) (0 : Nat)) (zeroEl (Value.agg #[Value.int IntKind.i64 (0 : Int), Value.int IntKind.i64 (0 : Int), Value.int IntKind.i64 (0 : Int), Value.int IntKind.i64 (0 : Int), Value.int IntKind.i64 (0 : Int), Value.int IntKind.i64 (0 : Int)])) ++ eT.lst (min ((0 : Nat) + xs.length + ys.length) ((0 : Nat) + xs.length) - (0 : Nat)) (eT.els xs) ++ eT.lst ((0 : Nat) + xs.length + ys.length - ((0 : Nat) + xs.length)) (eT.els ys))).fst), (ofC (eT.lst (min (min ((0 : Nat) + xs.length + ys.length) ((0 : Nat) + xs.length)) (0 : Nat)) (zeroEl (Value.agg #[Value.int IntKind.i64 (0 : Int), Value.int IntKind.i64 (0 : Int), Value.int IntKind.i64 (0 : Int), Value.int IntKind.i64 (0 : Int), Value.int IntKind.i64 (0 : Int), Value.int IntKind.i64 (0 : Int)])) ++ eT.lst (min ((0 : Nat) + xs.length + ys.length) ((0 : Nat) + xs.length) - (0 : Nat)) (eT.els xs) ++ eT.lst ((0 : Nat) + xs.length + ys.length - ((0 : Nat) + xs.length)) (eT.els ys))).snd) else (eT.lst (ofC (List.map (fun x => eT.get []) (List.range (min (min ((0 : Nat) + xs.length + ys.length) ((0 : Nat) + xs.length)) (0 : Nat))) ++ eT.lst (min ((0 : Nat) + xs.length + ys.length) ((0 : Nat) + xs.length) - (0 : Nat)) (eT.els xs) ++ eT.lst ((0 : Nat) + xs.length + ys.length - ((0 : Nat) + xs.length)) (eT.els ys))).fst.length (eT.els (ofC (List.map (fun x => eT.get []) (List.range (min (min ((0 : Nat) + xs.length + ys.length) ((0 : Nat) + xs.length)) (0 : Nat))) ++ eT.lst (min ((0 : Nat) + xs.length + ys.length) ((0 : Nat) + xs.length) - (0 : Nat)) (eT.els xs) ++ eT.lst ((0 : Nat) + xs.length + ys.length - ((0 : Nat) + xs.length)) (eT.els ys))).fst), (ofC (List.map (fun x => eT.get []) (List.range (min (min ((0 : Nat) + xs.length + ys.length) ((0 : Nat) + xs.length)) (0 : Nat))) ++ eT.lst (min ((0 : Nat) + xs.length + ys.length) ((0 : Nat) + xs.length) - (0 : Nat)) (eT.els xs) ++ eT.lst ((0 : Nat) + xs.length + ys.length - ((0 : Nat) + xs.length)) (eT.els ys))).snd)
def cmt_side (xs : List T) (ys : List T) : Prop :=
  (∀ (e : Nat), e < xs.length → eT.Ok (eT.els xs e)) ∧ (∀ (e : Nat), e < ys.length → eT.Ok (eT.els ys e)) ∧ ((bothC (eT.lst xs.length (eT.els xs)) (eT.lst ys.length (eT.els ys)) != (0 : Int)) = false → (decide (IntKind.i64.wrap ((0 : Int) + (↑xs.length : Int)) < (0 : Int)) = true → False) ∧ (decide (IntKind.i64.wrap ((0 : Int) + (↑xs.length : Int)) < (0 : Int)) = false → (decide (IntKind.i64.wrap (IntKind.i64.wrap ((0 : Int) + (↑xs.length : Int)) + (↑ys.length : Int)) < (0 : Int)) = true → False) ∧ (decide (IntKind.i64.wrap (IntKind.i64.wrap ((0 : Int) + (↑xs.length : Int)) + (↑ys.length : Int)) < (0 : Int)) = false → (decide (IntKind.i64.wrap (IntKind.i64.wrap ((0 : Int) + (↑xs.length : Int)) + (↑ys.length : Int)) < (0 : Int)) = true → False) ∧ (decide (IntKind.i64.wrap (IntKind.i64.wrap ((0 : Int) + (↑xs.length : Int)) + (↑ys.length : Int)) < (0 : Int)) = false → (decide (IntKind.i64.wrap (IntKind.i64.wrap (IntKind.i64.wrap ((0 : Int) + (↑xs.length : Int)) + (↑ys.length : Int)) - (0 : Int)) > (0 : Int)) = true → ((0 : Int) ≤ (0 : Int) ∧ (0 : Int) ≤ (0 : Int)) ∧ ((0 : Int) < IntKind.i64.wrap (IntKind.i64.wrap (IntKind.i64.wrap ((0 : Int) + (↑xs.length : Int)) + (↑ys.length : Int)) - (0 : Int)) ∧ IntKind.i64.wrap (IntKind.i64.wrap (IntKind.i64.wrap ((0 : Int) + (↑xs.length : Int)) + (↑ys.length : Int)) - (0 : Int)) ≤ (9223372036854775807 : Int) ∧ (IntKind.i64.wrap (IntKind.i64.wrap (IntKind.i64.wrap ((0 : Int) + (↑xs.length : Int)) + (↑ys.length : Int)) - (0 : Int))).toNat * Try.prog.types[(30 : Nat)].bytes ≤ (140737488355328 : Nat)) ∧ ((0 : Int) ≤ (0 : Int) ∧ (0 : Int) ≤ (↑(IntKind.i64.wrap (IntKind.i64.wrap (IntKind.i64.wrap ((0 : Int) + (↑xs.length : Int)) + (↑ys.length : Int)) - (0 : Int))).toNat : Int)) ∧ ((0 : Nat) ≤ (IntKind.i64.wrap (IntKind.i64.wrap (IntKind.i64.wrap ((0 : Int) + (↑xs.length : Int)) + (↑ys.length : Int)) - (0 : Int))).toNat ∧ (∀ (e : Nat), e < xs.length → (eT.els xs e).all SV.one = true) ∧ (0 : Nat) + xs.length ≤ maxLen ∧ ((0 : Nat) + xs.length) * Try.prog.types[(30 : Nat)].bytes ≤ (140737488355328 : Nat)) ∧ ((0 : Nat) + xs.length ≤ (0 : Nat) + xs.length ∧ (∀ (e : Nat), e < ys.length → (eT.els ys e).all SV.one = true) ∧ (0 : Nat) + xs.length + ys.length ≤ maxLen ∧ ((0 : Nat) + xs.length + ys.length) * Try.prog.types[(30 : Nat)].bytes ≤ (140737488355328 : Nat)) ∧ (0 : Nat) + xs.length + ys.length ≤ (0 : Nat) + xs.length + ys.length ∧ (∀ (e : Nat), e < min (min ((0 : Nat) + xs.length + ys.length) ((0 : Nat) + xs.length)) (0 : Nat) → True) ∧ (∀ (e : Nat), e < min ((0 : Nat) + xs.length + ys.length) ((0 : Nat) + xs.length) - (0 : Nat) → True) ∧ (∀ (e : Nat), e < (0 : Nat) + xs.length + ys.length - ((0 : Nat) + xs.length) → True) ∧ (eT.lst (min (min ((0 : Nat) + xs.length + ys.length) ((0 : Nat) + xs.length)) (0 : Nat)) (zeroEl (Value.agg #[Value.int IntKind.i64 (0 : Int), Value.int IntKind.i64 (0 : Int), Value.int IntKind.i64 (0 : Int), Value.int IntKind.i64 (0 : Int), Value.int IntKind.i64 (0 : Int), Value.int IntKind.i64 (0 : Int)])) ++ eT.lst (min ((0 : Nat) + xs.length + ys.length) ((0 : Nat) + xs.length) - (0 : Nat)) (eT.els xs) ++ eT.lst ((0 : Nat) + xs.length + ys.length - ((0 : Nat) + xs.length)) (eT.els ys)).length ≤ KS ∧ ∀ (e : Nat), e < (ofC (eT.lst (min (min ((0 : Nat) + xs.length + ys.length) ((0 : Nat) + xs.length)) (0 : Nat)) (zeroEl (Value.agg #[Value.int IntKind.i64 (0 : Int), Value.int IntKind.i64 (0 : Int), Value.int IntKind.i64 (0 : Int), Value.int IntKind.i64 (0 : Int), Value.int IntKind.i64 (0 : Int), Value.int IntKind.i64 (0 : Int)])) ++ eT.lst (min ((0 : Nat) + xs.length + ys.length) ((0 : Nat) + xs.length) - (0 : Nat)) (eT.els xs) ++ eT.lst ((0 : Nat) + xs.length + ys.length - ((0 : Nat) + xs.length)) (eT.els ys))).fst.length → eT.Ok (eT.els (ofC (eT.lst (min (min ((0 : Nat) + xs.length + ys.length) ((0 : Nat) + xs.length)) (0 : Nat)) (zeroEl (Value.agg #[Value.int IntKind.i64 (0 : Int), Value.int IntKind.i64 (0 : Int), Value.int IntKind.i64 (0 : Int), Value.int IntKind.i64 (0 : Int), Value.int IntKind.i64 (0 : Int), Value.int IntKind.i64 (0 : Int)])) ++ eT.lst (min ((0 : Nat) + xs.length + ys.length) ((0 : Nat) + xs.length) - (0 : Nat)) (eT.els xs) ++ eT.lst ((0 : Nat) + xs.length + ys.length - ((0 : Nat) + xs.length)) (eT.els ys))).fst e)) ∧ (decide (IntKind.i64.wrap (IntKind.i64.wrap (IntKind.i64.wrap ((0 : Int) + (↑xs.length : Int)) + (↑ys.length : Int)) - (0 : Int)) > (0 : Int)) = false → (True ∧ (∀ (e : Nat), e < xs.length → (eT.els xs e).all SV.one = true) ∧ (0 : Nat) + xs.length ≤ maxLen ∧ ((0 : Nat) + xs.length) * Try.prog.types[(30 : Nat)].bytes ≤ (140737488355328 : Nat)) ∧ ((0 : Nat) + xs.length ≤ (0 : Nat) + xs.length ∧ (∀ (e : Nat), e < ys.length → (eT.els ys e).all SV.one = true) ∧ (0 : Nat) + xs.length + ys.length ≤ maxLen ∧ ((0 : Nat) + xs.length + ys.length) * Try.prog.types[(30 : Nat)].bytes ≤ (140737488355328 : Nat)) ∧ (0 : Nat) + xs.length + ys.length ≤ (0 : Nat) + xs.length + ys.length ∧ (∀ (e : Nat), e < min (min ((0 : Nat) + xs.length + ys.length) ((0 : Nat) + xs.length)) (0 : Nat) → eT.OkP []) ∧ (∀ (e : Nat), e < min ((0 : Nat) + xs.length + ys.length) ((0 : Nat) + xs.length) - (0 : Nat) → True) ∧ (∀ (e : Nat), e < (0 : Nat) + xs.length + ys.length - ((0 : Nat) + xs.length) → True) ∧ (List.map (fun x => eT.get []) (List.range (min (min ((0 : Nat) + xs.length + ys.length) ((0 : Nat) + xs.length)) (0 : Nat))) ++ eT.lst (min ((0 : Nat) + xs.length + ys.length) ((0 : Nat) + xs.length) - (0 : Nat)) (eT.els xs) ++ eT.lst ((0 : Nat) + xs.length + ys.length - ((0 : Nat) + xs.length)) (eT.els ys)).length ≤ KS ∧ ∀ (e : Nat), e < (ofC (List.map (fun x => eT.get []) (List.range (min (min ((0 : Nat) + xs.length + ys.length) ((0 : Nat) + xs.length)) (0 : Nat))) ++ eT.lst (min ((0 : Nat) + xs.length + ys.length) ((0 : Nat) + xs.length) - (0 : Nat)) (eT.els xs) ++ eT.lst ((0 : Nat) + xs.length + ys.length - ((0 : Nat) + xs.length)) (eT.els ys))).fst.length → eT.Ok (eT.els (ofC (List.map (fun x => eT.get []) (List.range (min (min ((0 : Nat) + xs.length + ys.length) ((0 : Nat) + xs.length)) (0 : Nat))) ++ eT.lst (min ((0 : Nat) + xs.length + ys.length) ((0 : Nat) + xs.length) - (0 : Nat)) (eT.els xs) ++ eT.lst ((0 : Nat) + xs.length + ys.length - ((0 : Nat) + xs.length)) (eT.els ys))).fst e))))))
theorem cmt_okS (pre : DA.T aLL → List Prop) (h : ∀ g, DA.bd aLL g → (∀ p ∈ pre g, p) → cmt_side g.1 g.2) : FnPure Try.prog 50 aLL dLE (fun g => cmt_F g.1 g.2) pre := pure_of_sideS (Γ := (MTab.gamz tabC [] [(100, 3, 3), (100, 11, 3)])) (Λ := noΛ) (MTab.okz tabC [] [(100, 3, 3), (100, 11, 3)]) noΛ_ok 100 default (fun g => cmt_side g.1 g.2) (fun g => by kernel_rfl) (fun g => by kernel_rfl) h
noncomputable def tabXF4 : MTab Try.prog := tabC
end Go.Proofs.Ytiipneclghnfhaa

/- Chapter 3: chain.Meet: its contract. -/
namespace Go.Proofs.Ytiipneclghnfhaa
open Go.RowKit Go.Sx Go.Lp
theorem cc_eq (z : Nat → List SV) (xs ys : List T) : eT.lst (min (min (0 + xs.length + ys.length) (0 + xs.length)) 0) z ++ eT.lst (min (0 + xs.length + ys.length) (0 + xs.length) - 0) (eT.els xs) ++ eT.lst (0 + xs.length + ys.length - (0 + xs.length)) (eT.els ys) = xs ++ ys := by
  have h1 : min (0 + xs.length + ys.length) (0 + xs.length) = xs.length := by omega
  have h2 : min xs.length 0 = 0 := by omega
  have h3 : 0 + xs.length + ys.length - (0 + xs.length) = ys.length := by omega
  rw [h1, h2, h3, Nat.sub_zero, eT.lst_els, eT.lst_els]
  rfl
theorem w2_eq (xs ys : List T) (h : xs.length ≤ 1024) (h2 : ys.length ≤ 1024) : IntKind.i64.wrap ((xs.length : Int) + (ys.length : Int)) = (xs.length : Int) + (ys.length : Int) ∧ IntKind.i64.wrap ((0 : Int) + (xs.length : Int)) = (xs.length : Int) ∧ IntKind.i64.wrap ((xs.length : Int) + (ys.length : Int) - 0) = (xs.length : Int) + (ys.length : Int) := by
  refine ⟨wr (by omega), by rw [Int.zero_add]; exact wr (by omega), by rw [Int.sub_zero]; exact wr (by omega)⟩
theorem cmt_eq (xs ys : List T) : cmt_F xs ys = meetC xs ys ∧ cmt_side xs ys := by
  unfold cmt_F cmt_side meetC
  simp only [eT.lst_els]
  cases hb : (bothC xs ys != 0) with
  | true => exact ⟨rfl, okT xs, okT ys, fun h => by cases h⟩
  | false =>
    obtain ⟨l1, l2⟩ := both_len hb
    obtain ⟨e1, e2, e3⟩ := w2_eq xs ys l1 l2
    have d1 : decide ((xs.length : Int) < 0) = false := decide_eq_false (by omega)
    have d2 : decide ((xs.length : Int) + (ys.length : Int) < 0) = false := decide_eq_false (by omega)
    have ha := okT xs
    have hbb := okT ys
    have hd := okT (ofC (xs ++ ys)).1
    have hk : (xs ++ ys).length ≤ KS := by unfold KS; simp; omega
    have ho := fun e => onesT xs e
    have ho2 := fun e => onesT ys e
    rw [e2, e1, e3]
    simp only [d1, d2, cond_false, cc_eq, j2_eq, bytesT]
    refine ⟨by generalize decide ((xs.length : Int) + (ys.length : Int) > 0) = c; cases c <;> rfl, ha, hbb, fun _ => ⟨fun h => (by cases h), fun _ => ⟨fun h => (by cases h), fun _ => ⟨fun h => (by cases h), fun _ => ⟨fun hc => ?_, fun _ => ?_⟩⟩⟩⟩⟩
    · have hc : (xs.length : Int) + (ys.length : Int) > 0 := of_decide_eq_true hc
      unfold maxLen
      repeat' (first | exact ha | exact hbb | exact hd | exact hk | exact ho _ | exact ho2 _ | exact rfl | apply And.intro | intro _)
      all_goals (first | trivial | omega)
    · unfold maxLen
      repeat' (first | exact ha | exact hbb | exact hd | exact hk | exact ho _ | exact ho2 _ | exact rfl | apply And.intro | intro _)
      all_goals (first | trivial | omega)
theorem cmt_ok : FnPure Try.prog 50 aLL dLE (fun g => meetC g.1 g.2) (fun _ => []) :=
  pure_congr (cmt_okS _ fun g _ _ => (cmt_eq g.1 g.2).2) fun g _ _ => (cmt_eq g.1 g.2).1
end Go.Proofs.Ytiipneclghnfhaa

/- Chapter 3: joined antichains: the inner loop. Printed by treegen.py. -/
namespace Go.Proofs.Ytiipneclghnfhaa
open Go.RowKit Go.Sx
set_option maxRecDepth 100000
set_option linter.unusedVariables false
abbrev ji_G : Type := List T × Int × Int × Unit × T × List T × Unit × Int
noncomputable def ji_LP : LP 2 ji_G := .pair (.slot 2 26 dLT) (.pair (.slot 2 27 dI) (.pair (.slot 2 28 dI) (.pair (.fix 2 9 (.p 1 0)) (.pair (.obj 2 1 30 eT) (.pair (.row 2 7 30 eT) (.pair (.fix 2 4 (.k (.slice none 0 0))) (.slot 2 5 dI)))))))
noncomputable def ji_R (l : List T) (n : Int) (i : Int) (_u : Unit) (x : T) (all : List T) (_u2 : Unit) (e : Int) : Ex × ji_G :=
  bif decide (i < n) then bif (tjoin_F x (l.getD i.toNat eT.dflt)).snd != (0 : Int) then (Ex.ret, eT.lst l.length (eT.els l), n, i, (), x, eT.lst all.length (eT.els all), (), (tjoin_F x (l.getD i.toNat eT.dflt)).snd) else (Ex.normal, eT.lst l.length (eT.els l), n, IntKind.i64.wrap (i + (1 : Int)), (), x, eT.lst (min (all.length + (1 : Nat)) all.length) (eT.els all) ++ List.map (fun x_1 => (tjoin_F x (l.getD i.toNat eT.dflt)).fst) (List.range (all.length + (1 : Nat) - all.length)), (), e)
  else (Ex.exit (2 : Nat), eT.lst l.length (eT.els l), n, i, (), x, eT.lst all.length (eT.els all), (), e)
def ji_side (l : List T) (n : Int) (i : Int) (_u : Unit) (x : T) (all : List T) (_u2 : Unit) (e : Int) : Prop :=
  (decide (i < n) = true → ((0 : Int) ≤ i ∧ i < (↑l.length : Int)) ∧ (((tjoin_F x (l.getD i.toNat eT.dflt)).snd != (0 : Int)) = true → (∀ (e : Nat), e < l.length → eT.Ok (eT.els l e)) ∧ all.length ≤ all.length ∧ ∀ (e : Nat), e < all.length → True) ∧ (((tjoin_F x (l.getD i.toNat eT.dflt)).snd != (0 : Int)) = false → (all.length ≤ all.length ∧ True ∧ all.length + (1 : Nat) ≤ maxLen ∧ (all.length + (1 : Nat)) * Try.prog.types[(30 : Nat)].bytes ≤ (140737488355328 : Nat)) ∧ (∀ (e : Nat), e < l.length → eT.Ok (eT.els l e)) ∧ all.length + (1 : Nat) ≤ all.length + (1 : Nat) ∧ (∀ (e : Nat), e < min (all.length + (1 : Nat)) all.length → True) ∧ ∀ (e : Nat), e < all.length + (1 : Nat) - all.length → True)) ∧ (decide (i < n) = false → (∀ (e : Nat), e < l.length → eT.Ok (eT.els l e)) ∧ all.length ≤ all.length ∧ ∀ (e : Nat), e < all.length → True)
theorem ji_one : ((loopsOf Try.prog 51).filter fun c => Nat.beq (lkey c) 9).length = 1 := by kernel_rfl
abbrev ji_GC : Type := List T × Int × T
abbrev ji_GB : Type := Unit × List T × Unit × Int
def ji_f (g : ji_G) : Int × ji_GC × ji_GB := (g.2.2.1, (g.1, g.2.1, g.2.2.2.2.1), (g.2.2.2.1, g.2.2.2.2.2.1, g.2.2.2.2.2.2.1, g.2.2.2.2.2.2.2))
def ji_g (d : Int × ji_GC × ji_GB) : ji_G := (d.2.1.1, d.2.1.2.1, d.1, d.2.2.1, d.2.1.2.2, d.2.2.2.1, d.2.2.2.2.1, d.2.2.2.2.2)
theorem ji_es (g : ji_G) : (ji_R g.1 g.2.1 g.2.2.1 g.2.2.2.1 g.2.2.2.2.1 g.2.2.2.2.2.1 g.2.2.2.2.2.2.1 g.2.2.2.2.2.2.2).1 = .normal ∨ (ji_R g.1 g.2.1 g.2.2.1 g.2.2.2.1 g.2.2.2.2.1 g.2.2.2.2.2.1 g.2.2.2.2.2.2.1 g.2.2.2.2.2.2.2).1 ∈ ([.ret, .exit 2] : List Ex) := by
  unfold ji_R
  repeat' (first | (left; rfl) | (right; simp only [cond_true, cond_false]; simp; done) | (rw [Bool.cond_eq_ite]; split))
noncomputable abbrev ji_C (Inv : ji_G → List Prop) (m : ji_G → Nat) : LCon := loopR [.ret, .exit 2] (loopBody Try.prog 51 9) ji_LP [] 51 Inv (fun g => ji_R g.1 g.2.1 g.2.2.1 g.2.2.2.1 g.2.2.2.2.1 g.2.2.2.2.2.1 g.2.2.2.2.2.2.1 g.2.2.2.2.2.2.2) m
theorem ji_loop (Inv : ji_G → List Prop) (m : ji_G → Nat) (hs : ∀ g, allP (Inv g) → ji_side g.1 g.2.1 g.2.2.1 g.2.2.2.1 g.2.2.2.2.1 g.2.2.2.2.2.1 g.2.2.2.2.2.2.1 g.2.2.2.2.2.2.2) (hg : Goes (fun g : ji_G => ji_R g.1 g.2.1 g.2.2.1 g.2.2.2.1 g.2.2.2.2.1 g.2.2.2.2.2.1 g.2.2.2.2.2.2.1 g.2.2.2.2.2.2.2) m fun g => allP (Inv g)) : ∀ b ∈ loopsOf Try.prog 51, lkey b = 9 → LoopOk Try.prog b (ji_C Inv m).g := loop_run (Γ := (MTab.gamz tabC [] [])) (Λ := noΛ) (MTab.okz tabC [] []) noΛ_ok 100 51 9 51 ji_LP [] Inv (fun g => ji_R g.1 g.2.1 g.2.2.1 g.2.2.2.1 g.2.2.2.2.1 g.2.2.2.2.2.1 g.2.2.2.2.2.2.1 g.2.2.2.2.2.2.2) (fun g => ji_side g.1 g.2.1 g.2.2.1 g.2.2.2.1 g.2.2.2.2.1 g.2.2.2.2.2.1 g.2.2.2.2.2.2.1 g.2.2.2.2.2.2.2) m default [.ret, .exit 2] ji_one (fun rd T B HL HB ds g => by kernel_rfl) (fun rd T B HL HB ds g => by kernel_rfl) hs hg ji_es
noncomputable def tabXF0 : MTab Try.prog := tabC
end Go.Proofs.Ytiipneclghnfhaa

/- Chapter 3: joined antichains: the inner loop's contract. -/
namespace Go.Proofs.Ytiipneclghnfhaa
open Go.RowKit Go.Sx Go.Lp
noncomputable def jnT (x y : T) : T := (tjoin_F x y).1
noncomputable def ji_S (c : ji_GC) (b : ji_GB) (_ : Int) (v : T) : Ex × ji_GB := (.normal, (), b.2.1 ++ [jnT c.2.2 v], (), b.2.2.2)
def ji_K (c : ji_GC) (b : ji_GB) (i : Int) : Prop := (∀ y ∈ c.1, (tjoin_F c.2.2 y).2 = 0) ∧ c.1.length ≤ 2000 ∧ (b.2.1.length : Int) ≤ 4000000 + i
abbrev ji_I (g : ji_G) : List Prop := ixI (fun c : ji_GC => c.2.1) (fun c => c.1) ji_K (ji_f g)
abbrev ji_M (g : ji_G) : Nat := ixM (fun c : ji_GC => c.2.1) (ji_f g)
theorem ji_P : ixP ji_S (fun c : ji_GC => c.1) ji_K := by
  rintro ⟨l, n, x⟩ ⟨⟨⟩, all, ⟨⟩, e⟩ i a ⟨h1, h2, h3⟩ _ _
  refine ⟨h1, h2, ?_⟩
  have h3 : (all.length : Int) ≤ 4000000 + (i : Int) := h3
  show ((all ++ [jnT x a]).length : Int) ≤ 4000000 + ((i : Int) + 1)
  rw [List.length_append]
  simp only [List.length_singleton]
  omega
noncomputable abbrev ji_RR (g : ji_G) : Ex × ji_G := ji_R g.1 g.2.1 g.2.2.1 g.2.2.2.1 g.2.2.2.2.1 g.2.2.2.2.2.1 g.2.2.2.2.2.2.1 g.2.2.2.2.2.2.2
theorem mem_at {l : List T} {i : Int} (h0 : 0 ≤ i) (h : i < (l.length : Int)) : l.getD i.toNat eT.dflt ∈ l := by
  rw [List.getD_eq_getElem?_getD, List.getElem?_eq_getElem (by omega)]
  exact List.getElem_mem _
theorem ji_RF (d : Int × ji_GC × ji_GB) (hi : allP (ixI (fun c : ji_GC => c.2.1) (fun c => c.1) ji_K d)) : ji_RR (ji_g d) = ((ixF 2 (fun c : ji_GC => c.2.1) (fun c => c.1) eT.dflt ji_S d).1, ji_g (ixF 2 (fun c : ji_GC => c.2.1) (fun c => c.1) eT.dflt ji_S d).2) := by
  obtain ⟨h1, h2, h3, h4, h5, h6, h7⟩ := hi _ (List.mem_cons_self ..)
  obtain ⟨i, ⟨l, n, x⟩, ⟨⟨⟩, all, ⟨⟩, e⟩⟩ := d
  have h1 : n = (l.length : Int) := h1
  have h3 : 0 ≤ i := h3
  have h5 : ∀ y ∈ l, (tjoin_F x y).2 = 0 := h5
  show ji_R l n i () x all () e = _
  unfold ji_R ixF ji_S jnT
  simp only [eT.lst_els, lst_app1]
  by_cases hc : i < n
  · have h8 := h5 _ (mem_at h3 (by omega))
    simp only [hc, decide_true, cond_true, h8, bne_self_eq_false, cond_false]
    rfl
  · simp only [hc, decide_false, cond_false]
    rfl
theorem ji_ok : ∀ b ∈ loopsOf Try.prog 51, lkey b = 9 → LoopOk Try.prog b (ji_C ji_I ji_M).g := by
  refine ji_loop ji_I ji_M (fun g hi => ?_) (ix_conj_goes (fun _ => rfl) (fun _ => rfl) ji_RF ji_P)
  obtain ⟨l, n, i, ⟨⟩, x, all, ⟨⟩, e⟩ := g
  obtain ⟨h1, h2, h3, h4, h5, h6, h7⟩ := hi _ (List.mem_cons_self ..)
  have h1 : n = (l.length : Int) := h1
  have h3 : 0 ≤ i := h3
  have h4 : i ≤ (l.length : Int) := h4
  have h6 : l.length ≤ 2000 := h6
  have h7 : (all.length : Int) ≤ 4000000 + i := h7
  have ha := okT l
  clear hi h5
  show ji_side l n i () x all () e
  unfold ji_side
  simp only [bytesT, decide_eq_true_eq, decide_eq_false_iff_not]
  unfold maxLen
  repeat' (first | exact ha | exact rfl | apply And.intro | intro _)
  all_goals (first | trivial | omega)
theorem ji_run (l : List T) (x : T) (all : List T) (e : Int) (h1 : ∀ y ∈ l, (tjoin_F x y).2 = 0) (h2 : l.length ≤ 2000) (h3 : all.length ≤ 4000000) : loopF ji_RR ji_M (l, (l.length : Int), 0, (), x, all, (), e) = (.exit 2, l, (l.length : Int), (l.length : Int), (), x, all ++ l.map (jnT x), (), e) := by
  have hm : l.length ≤ maxLen := by unfold maxLen; omega
  have hr : loopF ji_RR ji_M (l, (l.length : Int), 0, (), x, all, (), e) = _ := ix_conj_run (φ := ji_f) (ψ := ji_g) (fun _ => rfl) (fun _ => rfl) ji_RF ji_P (l, (l.length : Int), x) ((), all, (), e) rfl hm ⟨h1, h2, by show (all.length : Int) ≤ 4000000 + 0; omega⟩
  have hf : ∀ (l : List T) (b : List T), l.foldl (fun (b : ji_GB) v => ((), b.2.1 ++ [jnT x v], (), b.2.2.2)) ((), b, (), e) = ((), b ++ l.map (jnT x), (), e) := by
    intro l
    induction l with
    | nil => intro b; simp
    | cons a l ih => intro b; rw [List.foldl_cons, ih]; simp
  have hs := scan_fold (x := 2) (st := ji_S (l, (l.length : Int), x)) (f := fun (b : ji_GB) v => ((), b.2.1 ++ [jnT x v], (), b.2.2.2)) (fun _ _ _ => rfl) l 0 ((), all, (), e)
  rw [hf] at hs
  rw [hr]
  show ((scan 2 (ji_S (l, (l.length : Int), x)) 0 l ((), all, (), e)).1, ji_g ((scan 2 (ji_S (l, (l.length : Int), x)) 0 l ((), all, (), e)).2.1, (l, (l.length : Int), x), (scan 2 (ji_S (l, (l.length : Int), x)) 0 l ((), all, (), e)).2.2)) = _
  rw [hs, Int.zero_add]
  rfl
noncomputable def ltG1 : LTab Try.prog := LTab.nil.cons 51 9 (ji_C ji_I ji_M) ji_ok
noncomputable abbrev lamG1 : Lam := ltG1.lam
theorem lamG1_ok : ∀ f k L, lamG1 f k = some L → ∀ b ∈ loopsOf Try.prog f, lkey b = k → LoopOk Try.prog b L.g := ltG1.ok
end Go.Proofs.Ytiipneclghnfhaa

/- Chapter 3: joined antichains: the outer loop. Printed by treegen.py. -/
namespace Go.Proofs.Ytiipneclghnfhaa
open Go.RowKit Go.Sx
set_option maxRecDepth 100000
set_option linter.unusedVariables false
noncomputable def jo_q1 (a : List T) (n : Int) (i : Int) (b : List T) (all : List T) (_u2 : Unit) (er : Int) : Ex ×
  ji_G :=
  loopF (fun g => ji_R g.fst g.snd.fst g.snd.snd.fst g.snd.snd.snd.fst g.snd.snd.snd.snd.fst g.snd.snd.snd.snd.snd.fst g.snd.snd.snd.snd.snd.snd.fst g.snd.snd.snd.snd.snd.snd.snd) ji_M (eT.lst b.length (eT.els b), (↑b.length : Int), (0 : Int), (), a.getD i.toNat eT.dflt, eT.lst all.length (eT.els all), (), er)
abbrev jo_G : Type := List T × Int × Int × List T × List T × Unit × Int
noncomputable def jo_LP : LP 0 jo_G := .pair (.slot 0 20 dLT) (.pair (.slot 0 21 dI) (.pair (.slot 0 22 dI) (.pair (.slot 0 1 dLT) (.pair (.row 0 7 30 eT) (.pair (.fix 0 4 (.k (.slice none 0 0))) (.slot 0 5 dI))))))
noncomputable def jo_R (a : List T) (n : Int) (i : Int) (b : List T) (all : List T) (_u2 : Unit) (er : Int) : Ex × jo_G :=
  bif decide (i < n) then bif exB Ex.ret (jo_q1 a n i b all _u2 er).fst then (Ex.ret, eT.lst a.length (eT.els a), n, i, eT.lst b.length (eT.els b), eT.lst (jo_q1 a n i b all _u2 er).snd.snd.snd.snd.snd.snd.fst.length (eT.els (jo_q1 a n i b all _u2 er).snd.snd.snd.snd.snd.snd.fst), (), (jo_q1 a n i b all _u2 er).snd.snd.snd.snd.snd.snd.snd.snd) else (Ex.normal, eT.lst a.length (eT.els a), n, IntKind.i64.wrap (i + (1 : Int)), eT.lst b.length (eT.els b), eT.lst (jo_q1 a n i b all _u2 er).snd.snd.snd.snd.snd.snd.fst.length (eT.els (jo_q1 a n i b all _u2 er).snd.snd.snd.snd.snd.snd.fst), (), (jo_q1 a n i b all _u2 er).snd.snd.snd.snd.snd.snd.snd.snd)
  else (Ex.exit (0 : Nat), eT.lst a.length (eT.els a), n, i, eT.lst b.length (eT.els b), eT.lst all.length (eT.els all), (), er)
def jo_side (a : List T) (n : Int) (i : Int) (b : List T) (all : List T) (_u2 : Unit) (er : Int) : Prop :=
  (decide (i < n) = true → ((0 : Int) ≤ i ∧ i < (↑a.length : Int)) ∧ (∀ (e : Nat), e < b.length → eT.Ok (eT.els b e)) ∧ all.length ≤ all.length ∧ (∀ (e : Nat), e < all.length → True) ∧ Lp.ixJ (fun c => c.snd.fst) (fun c => c.fst) ji_K (ji_f (eT.lst b.length (eT.els b), (↑b.length : Int), (0 : Int), (), a.getD i.toNat eT.dflt, eT.lst all.length (eT.els all), (), er)) ∧ (exB Ex.ret (jo_q1 a n i b all _u2 er).fst = true → (∀ (e : Nat), e < a.length → eT.Ok (eT.els a e)) ∧ (∀ (e : Nat), e < b.length → eT.Ok (eT.els b e)) ∧ (jo_q1 a n i b all _u2 er).snd.snd.snd.snd.snd.snd.fst.length ≤ (jo_q1 a n i b all _u2 er).snd.snd.snd.snd.snd.snd.fst.length ∧ ∀ (e : Nat), e < (jo_q1 a n i b all _u2 er).snd.snd.snd.snd.snd.snd.fst.length → True) ∧ (exB Ex.ret (jo_q1 a n i b all _u2 er).fst = false → (∀ (e : Nat), e < a.length → eT.Ok (eT.els a e)) ∧ (∀ (e : Nat), e < b.length → eT.Ok (eT.els b e)) ∧ (jo_q1 a n i b all _u2 er).snd.snd.snd.snd.snd.snd.fst.length ≤ (jo_q1 a n i b all _u2 er).snd.snd.snd.snd.snd.snd.fst.length ∧ ∀ (e : Nat), e < (jo_q1 a n i b all _u2 er).snd.snd.snd.snd.snd.snd.fst.length → True)) ∧ (decide (i < n) = false → (∀ (e : Nat), e < a.length → eT.Ok (eT.els a e)) ∧ (∀ (e : Nat), e < b.length → eT.Ok (eT.els b e)) ∧ all.length ≤ all.length ∧ ∀ (e : Nat), e < all.length → True)
theorem jo_one : ((loopsOf Try.prog 51).filter fun c => Nat.beq (lkey c) 6).length = 1 := by kernel_rfl
abbrev jo_GC : Type := List T × Int × List T
abbrev jo_GB : Type := List T × Unit × Int
def jo_f (g : jo_G) : Int × jo_GC × jo_GB := (g.2.2.1, (g.1, g.2.1, g.2.2.2.1), (g.2.2.2.2.1, g.2.2.2.2.2.1, g.2.2.2.2.2.2))
def jo_g (d : Int × jo_GC × jo_GB) : jo_G := (d.2.1.1, d.2.1.2.1, d.1, d.2.1.2.2, d.2.2.1, d.2.2.2.1, d.2.2.2.2)
theorem jo_es (g : jo_G) : (jo_R g.1 g.2.1 g.2.2.1 g.2.2.2.1 g.2.2.2.2.1 g.2.2.2.2.2.1 g.2.2.2.2.2.2).1 = .normal ∨ (jo_R g.1 g.2.1 g.2.2.1 g.2.2.2.1 g.2.2.2.2.1 g.2.2.2.2.2.1 g.2.2.2.2.2.2).1 ∈ ([.ret, .exit 0] : List Ex) := by
  unfold jo_R
  repeat' (first | (left; rfl) | (right; simp only [cond_true, cond_false]; simp; done) | (rw [Bool.cond_eq_ite]; split))
noncomputable abbrev jo_C (Inv : jo_G → List Prop) (m : jo_G → Nat) : LCon := loopR [.ret, .exit 0] (loopBody Try.prog 51 6) jo_LP [] 51 Inv (fun g => jo_R g.1 g.2.1 g.2.2.1 g.2.2.2.1 g.2.2.2.2.1 g.2.2.2.2.2.1 g.2.2.2.2.2.2) m
theorem jo_loop (Inv : jo_G → List Prop) (m : jo_G → Nat) (hs : ∀ g, allP (Inv g) → jo_side g.1 g.2.1 g.2.2.1 g.2.2.2.1 g.2.2.2.2.1 g.2.2.2.2.2.1 g.2.2.2.2.2.2) (hg : Goes (fun g : jo_G => jo_R g.1 g.2.1 g.2.2.1 g.2.2.2.1 g.2.2.2.2.1 g.2.2.2.2.2.1 g.2.2.2.2.2.2) m fun g => allP (Inv g)) : ∀ b ∈ loopsOf Try.prog 51, lkey b = 6 → LoopOk Try.prog b (jo_C Inv m).g := loop_run (Γ := (MTab.gamz tabC [] [])) (Λ := lamG1) (MTab.okz tabC [] []) lamG1_ok 100 51 6 51 jo_LP [] Inv (fun g => jo_R g.1 g.2.1 g.2.2.1 g.2.2.2.1 g.2.2.2.2.1 g.2.2.2.2.2.1 g.2.2.2.2.2.2) (fun g => jo_side g.1 g.2.1 g.2.2.1 g.2.2.2.1 g.2.2.2.2.1 g.2.2.2.2.2.1 g.2.2.2.2.2.2) m default [.ret, .exit 0] jo_one (fun rd T B HL HB ds g => by kernel_rfl) (fun rd T B HL HB ds g => by kernel_rfl) hs hg jo_es
noncomputable def tabXF2 : MTab Try.prog := tabC
end Go.Proofs.Ytiipneclghnfhaa

/- Antichains: the least of lists, met, joined, put in: plain laws. -/
namespace Go.Lp
section
variable {α : Type} [DecidableEq α] {cf : α → α → Int} {le : α → α → Bool}
def Rfl (le : α → α → Bool) (l : List α) : Prop := ∀ x ∈ l, le x x = true
theorem cov_mem {l : List α} {x : α} (hr : Rfl le l) (hx : x ∈ l) : l.any (le · x) = true := List.any_eq_true.2 ⟨x, hx, hr x hx⟩
theorem cov_mins (h : TO cf) (p : PO cf le) {l : List α} (hr : Rfl le l) {x : α} (hx : x ∈ l) : ∃ y ∈ mins cf le l, le y x = true := by
  have := mins_cover h p (l := l) (t := x)
  rw [cov_mem hr hx, List.any_eq_true] at this
  exact this
theorem mins_sub (h : TO cf) {l : List α} {x : α} (hx : x ∈ mins cf le l) : x ∈ l := ((mins_mem h).1 hx).1
theorem mins_mins (h : TO cf) (p : PO cf le) {a c : List α} (hr : Rfl le (a ++ c)) : mins cf le (mins cf le a ++ c) = mins cf le (a ++ c) := by
  have hs : ∀ x ∈ mins cf le a ++ c, x ∈ a ++ c := fun x hx => by
    rcases List.mem_append.1 hx with h1 | h1
    · exact List.mem_append_left _ (mins_sub h h1)
    · exact List.mem_append_right _ h1
  have hr2 : Rfl le (mins cf le a ++ c) := fun x hx => hr x (hs x hx)
  have hra : Rfl le a := fun x hx => hr x (List.mem_append_left _ hx)
  refine ac_ext p h (mins_ac h _) (mins_ac h _) (fun x hx => cov_mins h p hr (hs x (mins_sub h hx))) fun x hx => ?_
  rcases List.mem_append.1 (mins_sub h hx) with h1 | h1
  · obtain ⟨y, hy, e1⟩ := cov_mins h p hra h1
    obtain ⟨z, hz, e2⟩ := cov_mins h p hr2 (List.mem_append_left c hy)
    exact ⟨z, hz, p.trans _ _ _ e2 e1⟩
  · exact cov_mins h p hr2 (List.mem_append_right _ h1)
theorem mins_swap (h : TO cf) {a b c : List α} : mins cf le (a ++ b ++ c) = mins cf le (a ++ c ++ b) :=
  mins_congr h fun x => by simp only [List.mem_append]; constructor <;> (rintro ((h | h) | h) <;> simp [h])
/-- What is covered changes nothing. -/
theorem mins_add (h : TO cf) (p : PO cf le) {l : List α} {t : α} (ha : isAC cf le l) (hr : Rfl le (l ++ [t])) (hc : l.any (le · t) = true) : mins cf le (l ++ [t]) = l := by
  refine ac_ext p h (mins_ac h _) ha (fun x hx => ?_) fun x hx => cov_mins h p hr (List.mem_append_left _ hx)
  rcases List.mem_append.1 (mins_sub h hx) with h1 | h1
  · exact ⟨x, h1, hr x (List.mem_append_left _ h1)⟩
  · rw [List.mem_singleton] at h1
    subst h1
    exact List.any_eq_true.1 hc
theorem add_cov (h : TO cf) (p : PO cf le) {l : List α} {t : α} (hr : Rfl le (l ++ [t])) : (mins cf le (l ++ [t])).any (le · t) = true := by
  rw [mins_cover h p]
  exact cov_mem hr (List.mem_append_right _ (List.mem_singleton.2 rfl))
theorem add_same (h : TO cf) (p : PO cf le) {l : List α} {t : α} (ha : isAC cf le l) (hr : Rfl le (l ++ [t])) : (mins cf le (l ++ [t]) = l) ↔ l.any (le · t) = true := by
  refine ⟨fun e => ?_, mins_add h p ha hr⟩
  have := add_cov h p hr
  rwa [e] at this
theorem mins_len_ac (h : TO cf) {l : List α} (ha : isAC cf le l) : mins cf le l = l := mins_of_ac h ha
/-- All of b is covered by a. -/
def lq (le : α → α → Bool) (a b : List α) : Bool := b.all fun v => a.any (le · v)
theorem lq_iff {a b : List α} : lq le a b = true ↔ ∀ x ∈ b, ∃ y ∈ a, le y x = true := by
  unfold lq
  simp only [List.all_eq_true, List.any_eq_true]
theorem lq_refl {a : List α} (hr : Rfl le a) : lq le a a = true := lq_iff.2 fun x hx => ⟨x, hx, hr x hx⟩
theorem lq_trans (p : PO cf le) {a b c : List α} (h1 : lq le a b = true) (h2 : lq le b c = true) : lq le a c = true := by
  rw [lq_iff] at *
  intro x hx
  obtain ⟨y, hy, e1⟩ := h2 x hx
  obtain ⟨z, hz, e2⟩ := h1 y hy
  exact ⟨z, hz, p.trans _ _ _ e2 e1⟩
theorem lq_anti (h : TO cf) (p : PO cf le) {a b : List α} (ha : isAC cf le a) (hb : isAC cf le b) (h1 : lq le a b = true) (h2 : lq le b a = true) : a = b := by
  rw [lq_iff] at *
  exact ac_ext p h ha hb h2 h1
theorem lq_mins (h : TO cf) (p : PO cf le) {c l : List α} (hr : Rfl le l) : lq le c (mins cf le l) = lq le c l := by
  rw [Bool.eq_iff_iff, lq_iff, lq_iff]
  constructor
  · intro h1 x hx
    obtain ⟨m, hm, e1⟩ := cov_mins h p hr hx
    obtain ⟨y, hy, e2⟩ := h1 m hm
    exact ⟨y, hy, p.trans _ _ _ e2 e1⟩
  · exact fun h1 x hx => h1 x (mins_sub h hx)
theorem lq_append {c a b : List α} : lq le c (a ++ b) = (lq le c a && lq le c b) := by unfold lq; rw [List.all_append]
theorem lq_and {a b j c : List α} (hj : ∀ t, j.any (le · t) = (a.any (le · t) && b.any (le · t))) : lq le j c = (lq le a c && lq le b c) := by
  rw [Bool.eq_iff_iff, Bool.and_eq_true]
  unfold lq
  simp only [List.all_eq_true]
  constructor
  · intro h1
    exact ⟨fun x hx => (Bool.and_eq_true _ _ ▸ hj x ▸ h1 x hx : _ ∧ _).1, fun x hx => (Bool.and_eq_true _ _ ▸ hj x ▸ h1 x hx : _ ∧ _).2⟩
  · rintro ⟨h1, h2⟩ x hx
    rw [hj, h1 x hx, h2 x hx]; rfl
/-- Each of the one joined with each of the other. -/
def joins (jn : α → α → α) (a b : List α) : List α := a.flatMap fun x => b.map fun y => jn x y
theorem joins_cover {jn : α → α → α} {a b : List α} (hj : ∀ x ∈ a, ∀ y ∈ b, ∀ t, le (jn x y) t = (le x t && le y t)) (t : α) : (joins jn a b).any (le · t) = (a.any (le · t) && b.any (le · t)) := by
  unfold joins
  rw [Bool.eq_iff_iff, Bool.and_eq_true]
  simp only [List.any_eq_true, List.mem_flatMap, List.mem_map]
  constructor
  · rintro ⟨_, ⟨x, hx, y, hy, rfl⟩, h⟩
    rw [hj x hx y hy, Bool.and_eq_true] at h
    exact ⟨⟨x, hx, h.1⟩, y, hy, h.2⟩
  · rintro ⟨⟨x, hx, h1⟩, y, hy, h2⟩
    exact ⟨_, ⟨x, hx, y, hy, rfl⟩, by rw [hj x hx y hy, h1, h2]; rfl⟩
end
end Go.Lp

/- Chapter 3: plain facts of antichains. -/
namespace Go.Proofs.Ytiipneclghnfhaa
open Go.RowKit Go.Sx Go.Lp
theorem bad_iff (xs : List T) : badC xs = 0 ↔ (∀ x ∈ xs, x.Ok) ∧ ∀ x ∈ xs, ∀ y ∈ xs, x.d = y.d := by
  unfold badC
  have h1 : (xs.any fun v => tcheck_F v != 0) = false ↔ ∀ x ∈ xs, x.Ok := by
    rw [List.any_eq_false]
    constructor
    · intro h x hx
      have := h x hx
      exact (tcheck_iff x).1 (by simpa using this)
    · intro h x hx
      simpa using (tcheck_iff x).2 (h x hx)
  have h2 : xs.any (difD xs) = false ↔ ∀ x ∈ xs, ∀ y ∈ xs, x.d = y.d := by
    rw [List.any_eq_false]
    cases xs with
    | nil => simp
    | cons z r =>
      have hd : ∀ x, difD (z :: r) x = (x.d != z.d) := fun x => rfl
      constructor
      · intro h x hx y hy
        have k1 := h x hx
        have k2 := h y hy
        rw [hd] at k1 k2
        have k1 : x.d = z.d := by simpa using k1
        have k2 : y.d = z.d := by simpa using k2
        rw [k1, k2]
      · intro h x hx
        rw [hd, h x hx z (List.mem_cons_self ..)]
        simp
  rw [← h1, ← h2]
  cases (xs.any fun v => tcheck_F v != 0) <;> cases xs.any (difD xs) <;> simp
theorem bad_rfl {xs : List T} (h : badC xs = 0) : Rfl tleq_F xs := fun x hx => tleq_refl (((bad_iff xs).1 h).1 x hx)
theorem bad_sub {xs ys : List T} (h : badC xs = 0) (hs : ∀ x ∈ ys, x ∈ xs) : badC ys = 0 := by
  rw [bad_iff] at *
  exact ⟨fun x hx => h.1 x (hs x hx), fun x hx y hy => h.2 x (hs x hx) y (hs y hy)⟩
abbrev acT (xs : List T) : Prop := isAC cfT tleq_F xs
theorem clashes_iff (xs : List T) : clashes xs = false ↔ acT xs := by
  rw [clashes_false]
  constructor
  · intro h
    have hg : ∀ j (hj : j < xs.length), xs.getD j eT.dflt = xs[j] := fun j hj => by rw [List.getD_eq_getElem?_getD, List.getElem?_eq_getElem hj]; rfl
    refine ⟨List.pairwise_iff_getElem.2 fun i j hi hj hij => ?_, fun x hx y hy hle => ?_⟩
    · have := ((clash_false _ _).1 (h j i hj hij)).1
      rw [hg i hi, hg j hj] at this
      exact this
    · obtain ⟨i, hi, rfl⟩ := List.mem_iff_getElem.1 hx
      obtain ⟨j, hj, rfl⟩ := List.mem_iff_getElem.1 hy
      rcases Nat.lt_trichotomy i j with hij | hij | hij
      · have := ((clash_false _ _).1 (h j i hj hij)).2.1
        rw [hg i hi, hg j hj, hle] at this
        cases this
      · subst hij; rfl
      · have := ((clash_false _ _).1 (h i j hi hij)).2.2
        rw [hg i hi, hg j hj, hle] at this
        cases this
  · rintro ⟨h1, h2⟩ k j hk hj
    have hg : ∀ j (hj : j < xs.length), xs.getD j eT.dflt = xs[j] := fun j hj => by rw [List.getD_eq_getElem?_getD, List.getElem?_eq_getElem hj]; rfl
    rw [hg k hk, hg j (by omega)]
    have hlt := List.pairwise_iff_getElem.1 h1 j k (by omega) hk hj
    have hne : xs[j] ≠ xs[k] := fun e => by rw [e] at hlt; exact toT.irrefl _ hlt
    refine (clash_false _ _).2 ⟨hlt, ?_, ?_⟩
    · cases hc : tleq_F xs[j] xs[k] with
      | false => rfl
      | true => exact absurd (h2 _ (List.getElem_mem _) _ (List.getElem_mem _) hc) hne
    · cases hc : tleq_F xs[k] xs[j] with
      | false => rfl
      | true => exact absurd (h2 _ (List.getElem_mem _) _ (List.getElem_mem _) hc).symm hne
theorem chk_iff (xs : List T) : chkC xs = 0 ↔ xs.length ≤ 1024 ∧ badC xs = 0 ∧ acT xs := by
  rw [← clashes_iff]
  unfold chkC
  by_cases h : (xs.length : Int) > 1024
  · have : ¬ xs.length ≤ 1024 := by omega
    simp [h, this]
  · have h' : xs.length ≤ 1024 := by omega
    simp only [h, decide_false, cond_false, h', true_and]
    by_cases hb : badC xs = 0
    · simp only [hb, bne_self_eq_false, cond_false, true_and]
      cases clashes xs <;> simp
    · have : (badC xs != 0) = true := by simpa using hb
      simp [this, hb]
theorem of_iff (xs : List T) : (ofC xs).2 = 0 ↔ badC xs = 0 ∧ (minsT xs).length ≤ 1024 := by
  unfold ofC
  by_cases hb : badC xs = 0
  · simp only [hb, bne_self_eq_false, cond_false, true_and]
    by_cases h : ((minsT xs).length : Int) > 1024
    · have : ¬ (minsT xs).length ≤ 1024 := by omega
      simp [h, this]
    · have : (minsT xs).length ≤ 1024 := by omega
      simp [h, this]
  · have : (badC xs != 0) = true := by simpa using hb
    simp [this, hb]
theorem of_eq {xs : List T} (h : (ofC xs).2 = 0) : (ofC xs).1 = minsT xs := by
  obtain ⟨h1, h2⟩ := (of_iff xs).1 h
  unfold ofC
  have h3 : ¬ ((minsT xs).length : Int) > 1024 := by omega
  simp [h1, h3]
theorem minsT_sub {xs : List T} {x : T} (h : x ∈ minsT xs) : x ∈ xs := mins_sub toT h
theorem of_chk {xs : List T} (h : (ofC xs).2 = 0) : chkC (ofC xs).1 = 0 := by
  rw [of_eq h]
  obtain ⟨h1, h2⟩ := (of_iff xs).1 h
  exact (chk_iff _).2 ⟨h2, bad_sub h1 fun x hx => minsT_sub hx, mins_ac toT xs⟩
theorem cov_minsT (xs : List T) (t : T) : (minsT xs).any (tleq_F · t) = xs.any (tleq_F · t) := mins_cover toT poT
theorem leqC_lq (a b : List T) : leqC a b = lq tleq_F a b := rfl
end Go.Proofs.Ytiipneclghnfhaa

/- Chapter 3: joined antichains: the outer loop's contract. -/
namespace Go.Proofs.Ytiipneclghnfhaa
open Go.RowKit Go.Sx Go.Lp
noncomputable def jo_S (c : jo_GC) (b : jo_GB) (_ : Int) (v : T) : Ex × jo_GB := (.normal, b.1 ++ c.2.2.map (jnT v), (), b.2.2)
def jo_K (c : jo_GC) (b : jo_GB) (i : Int) : Prop := (∀ x ∈ c.1, ∀ y ∈ c.2.2, (tjoin_F x y).2 = 0) ∧ c.1.length ≤ 2000 ∧ c.2.2.length ≤ 2000 ∧ (b.1.length : Int) ≤ 2000 * i
abbrev jo_I (g : jo_G) : List Prop := ixI (fun c : jo_GC => c.2.1) (fun c => c.1) jo_K (jo_f g)
abbrev jo_M (g : jo_G) : Nat := ixM (fun c : jo_GC => c.2.1) (jo_f g)
theorem jo_P : ixP jo_S (fun c : jo_GC => c.1) jo_K := by
  rintro ⟨a, n, l⟩ ⟨all, ⟨⟩, e⟩ i v ⟨h1, h2, h3, h4⟩ _ _
  refine ⟨h1, h2, h3, ?_⟩
  have h4 : (all.length : Int) ≤ 2000 * (i : Int) := h4
  have h3 : l.length ≤ 2000 := h3
  show ((all ++ l.map (jnT v)).length : Int) ≤ 2000 * ((i : Int) + 1)
  rw [List.length_append, List.length_map]
  omega
noncomputable abbrev jo_RR (g : jo_G) : Ex × jo_G := jo_R g.1 g.2.1 g.2.2.1 g.2.2.2.1 g.2.2.2.2.1 g.2.2.2.2.2.1 g.2.2.2.2.2.2
theorem jo_q (a l all : List T) (n i e : Int) (h3 : 0 ≤ i) (h4 : i < (a.length : Int)) (h1 : ∀ x ∈ a, ∀ y ∈ l, (tjoin_F x y).2 = 0) (h2 : a.length ≤ 2000) (h5 : l.length ≤ 2000) (h6 : (all.length : Int) ≤ 2000 * i) :
    jo_q1 a n i l all () e = (.exit 2, l, (l.length : Int), (l.length : Int), (), a.getD i.toNat eT.dflt, all ++ l.map (jnT (a.getD i.toNat eT.dflt)), (), e) := by
  unfold jo_q1
  simp only [eT.lst_els]
  exact ji_run l (a.getD i.toNat eT.dflt) all e (fun y hy => h1 _ (mem_at h3 h4) y hy) h5 (by omega)
theorem jo_RF (d : Int × jo_GC × jo_GB) (hi : allP (ixI (fun c : jo_GC => c.2.1) (fun c => c.1) jo_K d)) : jo_RR (jo_g d) = ((ixF 0 (fun c : jo_GC => c.2.1) (fun c => c.1) eT.dflt jo_S d).1, jo_g (ixF 0 (fun c : jo_GC => c.2.1) (fun c => c.1) eT.dflt jo_S d).2) := by
  obtain ⟨h1, h2, h3, h4, h5, h6, h7, h8⟩ := hi _ (List.mem_cons_self ..)
  obtain ⟨i, ⟨a, n, l⟩, ⟨all, ⟨⟩, e⟩⟩ := d
  have h1 : n = (a.length : Int) := h1
  have h3 : 0 ≤ i := h3
  show jo_R a n i l all () e = _
  unfold jo_R ixF jo_S
  by_cases hc : i < n
  · rw [jo_q a l all n i e h3 (by omega) h5 h6 h7 h8]
    simp only [hc, decide_true, cond_true, eT.lst_els]
    rfl
  · simp only [hc, decide_false, cond_false, eT.lst_els]
    rfl
theorem jo_ok : ∀ b ∈ loopsOf Try.prog 51, lkey b = 6 → LoopOk Try.prog b (jo_C jo_I jo_M).g := by
  refine jo_loop jo_I jo_M (fun g hi => ?_) (ix_conj_goes (fun _ => rfl) (fun _ => rfl) jo_RF jo_P)
  obtain ⟨a, n, i, l, all, ⟨⟩, e⟩ := g
  obtain ⟨h1, h2, h3, h4, h5, h6, h7, h8⟩ := hi _ (List.mem_cons_self ..)
  have h1 : n = (a.length : Int) := h1
  have h3 : 0 ≤ i := h3
  have h5 : ∀ x ∈ a, ∀ y ∈ l, (tjoin_F x y).2 = 0 := h5
  have h6 : a.length ≤ 2000 := h6
  have h7 : l.length ≤ 2000 := h7
  have h8 : (all.length : Int) ≤ 2000 * i := h8
  have ha := okT a
  have hl := okT l
  clear hi
  show jo_side a n i l all () e
  unfold jo_side
  refine ⟨fun hc => ?_, fun _ => ?_⟩
  · have hc : i < n := of_decide_eq_true hc
    have hj : ji_K (l, (l.length : Int), a.getD i.toNat eT.dflt) ((), all, (), e) 0 := ⟨fun y hy => h5 _ (mem_at h3 (by omega)) y hy, h7, by show (all.length : Int) ≤ 4000000 + 0; omega⟩
    have hx := ixJ0 (lim := fun c : ji_GC => c.2.1) (xs := fun c : ji_GC => c.1) (P := ji_K) (c := (l, (l.length : Int), a.getD i.toNat eT.dflt)) (b := ((), all, (), e)) rfl (by unfold maxLen; show l.length ≤ _; omega) hj
    rw [jo_q a l all n i e h3 (by omega) h5 h6 h7 h8]
    simp only [bytesT, eT.lst_els]
    repeat' (first | exact ha | exact hl | exact hx | exact rfl | apply And.intro | intro _)
    all_goals (first | trivial | omega)
  · repeat' (first | exact ha | exact hl | exact rfl | apply And.intro | intro _)
    all_goals (first | trivial | omega)
theorem jo_run (a l : List T) (h1 : ∀ x ∈ a, ∀ y ∈ l, (tjoin_F x y).2 = 0) (h2 : a.length ≤ 2000) (h3 : l.length ≤ 2000) : loopF jo_RR jo_M (a, (a.length : Int), 0, l, [], (), 0) = (.exit 0, a, (a.length : Int), (a.length : Int), l, joins jnT a l, (), 0) := by
  have hm : a.length ≤ maxLen := by unfold maxLen; omega
  have hr : loopF jo_RR jo_M (a, (a.length : Int), 0, l, [], (), 0) = _ := ix_conj_run (φ := jo_f) (ψ := jo_g) (fun _ => rfl) (fun _ => rfl) jo_RF jo_P (a, (a.length : Int), l) ([], (), 0) rfl hm ⟨h1, h2, h3, by show (0 : Int) ≤ 2000 * 0; omega⟩
  have hf : ∀ (q : List T) (b : List T), q.foldl (fun (b : jo_GB) v => (b.1 ++ l.map (jnT v), (), b.2.2)) (b, (), 0) = (b ++ joins jnT q l, (), 0) := by
    intro q
    induction q with
    | nil => intro b; simp [joins]
    | cons v q ih => intro b; rw [List.foldl_cons, ih]; simp [joins]
  have hs := scan_fold (x := 0) (st := jo_S (a, (a.length : Int), l)) (f := fun (b : jo_GB) v => (b.1 ++ l.map (jnT v), (), b.2.2)) (fun _ _ _ => rfl) a 0 ([], (), 0)
  rw [hf] at hs
  rw [hr]
  show ((scan 0 (jo_S (a, (a.length : Int), l)) 0 a ([], (), 0)).1, jo_g ((scan 0 (jo_S (a, (a.length : Int), l)) 0 a ([], (), 0)).2.1, (a, (a.length : Int), l), (scan 0 (jo_S (a, (a.length : Int), l)) 0 a ([], (), 0)).2.2)) = _
  rw [hs, Int.zero_add]
  rfl
noncomputable def ltG2 : LTab Try.prog := ltG1.cons 51 6 (jo_C jo_I jo_M) jo_ok
noncomputable abbrev lamG2 : Lam := ltG2.lam
theorem lamG2_ok : ∀ f k L, lamG2 f k = some L → ∀ b ∈ loopsOf Try.prog f, lkey b = k → LoopOk Try.prog b L.g := ltG2.ok
end Go.Proofs.Ytiipneclghnfhaa
