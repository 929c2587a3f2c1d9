/- Chapter 3: chain.Of: the loop's contract, over a row of one's own. -/
import Derived.Test.YtiipneclghnfhaaZG113b9f1e
import Derived.Test.YtiipneclghnfhaaZG07b78856
import Derived.Test.YtiipneclghnfhaaZG1008ad3f
set_option linter.unusedVariables false
set_option linter.unusedSimpArgs false
set_option linter.constructorNameAsVariable false
set_option linter.all false

namespace Go.Proofs.Ytiipneclghnfhaa
open Go.RowKit Go.Sx Go.Lp
noncomputable def of2_S (_ : of2_GC) (b : of2_GB) (_ : Int) (v : T) : Ex × of2_GB := (.normal, of1_st b v)
def of2_K (c : of2_GC) (b : of2_GB) (i : Int) : Prop := c.1.length ≤ KS ∧ (List.length b : Int) ≤ i ∧ c.2.2 = c.1.length
abbrev of2_I (g : of2_G) : List Prop := ixI (fun c : of2_GC => c.2.1) (fun c => c.1) of2_K (of2_f g)
abbrev of2_M (g : of2_G) : Nat := ixM (fun c : of2_GC => c.2.1) (of2_f g)
theorem of2_P : ixP of2_S (fun c : of2_GC => c.1) of2_K := by
  rintro ⟨ys, n, l⟩ b i a ⟨h1, h2, h3⟩ _ _
  refine ⟨h1, ?_, h3⟩
  have h2 : (List.length b : Int) ≤ (i : Int) := h2
  show (List.length (of1_st b a) : Int) ≤ (i : Int) + 1
  unfold of1_st
  cases b.any (tleq_F · a) <;> simp <;> omega
theorem of2_q (out : List T) (l : Nat) (ys : List T) (n i : Int) (hm : out.length ≤ maxLen) : ∃ j, of2_q1 out l ys n i = bif out.any (tleq_F · (ys.getD i.toNat eT.dflt)) then (.ret, (out.length : Int), j, (), ys.getD i.toNat eT.dflt, out.length, out, (.done, some (.exit 1))) else (.exit 0, (out.length : Int), j, (), ys.getD i.toNat eT.dflt, out.length, out, (.ready, none)) := by
  unfold of2_q1
  rw [eT.lst_els]
  exact eb_run (out.length : Int) (ys.getD i.toNat eT.dflt) out rfl hm
noncomputable abbrev of2_RR (g : of2_G) : Ex × of2_G := of2_R g.1 g.2.1 g.2.2.1 g.2.2.2.1 g.2.2.2.2
theorem of2_RF (d : Int × of2_GC × of2_GB) (hi : allP (ixI (fun c : of2_GC => c.2.1) (fun c => c.1) of2_K d)) : of2_RR (of2_g d) = ((ixF 0 (fun c : of2_GC => c.2.1) (fun c => c.1) eT.dflt of2_S d).1, of2_g (ixF 0 (fun c : of2_GC => c.2.1) (fun c => c.1) eT.dflt of2_S d).2) := by
  obtain ⟨h1, h2, h3, h4, h5, h6, h7⟩ := hi _ (List.mem_cons_self ..)
  obtain ⟨i, ⟨ys, n, l⟩, out⟩ := d
  have h5 : ys.length ≤ KS := h5
  have h4 : i ≤ (ys.length : Int) := h4
  have h6 : (List.length out : Int) ≤ i := h6
  have hm : out.length ≤ maxLen := by unfold KS at h5; unfold maxLen; omega
  obtain ⟨j, hj⟩ := of2_q out l ys n i hm
  show of2_R out l ys n i = _
  unfold of2_R ixF of2_S of1_st
  rw [hj]
  simp only [eT.lst_els]
  cases decide (i < n) with
  | false => rfl
  | true =>
    simp only [cond_true]
    generalize out.any (tleq_F · (ys.getD i.toNat eT.dflt)) = z
    cases z
    · simp only [cond_false]
      show (bif exB Ex.ret (.exit 0) then _ else _) = _
      simp only [eT.lst_els, lst_app1]
      rfl
    · simp only [cond_true]
      show (bif exB Ex.ret .ret then _ else _) = _
      simp only [eT.lst_els]
      rfl
theorem of2_ok : ∀ b ∈ loopsOf Try.prog 18, lkey b = 8 → LoopOk Try.prog b (of2_C of2_I of2_M).g := by
  refine of2_loop of2_I of2_M (fun g hi => ?_) (ix_conj_goes (fun _ => rfl) (fun _ => rfl) of2_RF of2_P)
  obtain ⟨out, l, ys, n, i⟩ := g
  obtain ⟨h1, h2, h3, h4, h5, h6, h7⟩ := hi _ (List.mem_cons_self ..)
  have h1 : n = (ys.length : Int) := h1
  have h3 : 0 ≤ i := h3
  have h4 : i ≤ (ys.length : Int) := h4
  have h5 : ys.length ≤ KS := h5
  have h6 : (List.length out : Int) ≤ i := h6
  unfold KS at h5
  have hm : out.length ≤ maxLen := by unfold maxLen; omega
  have hs : out.length < 1000000 ∨ ¬ i < (ys.length : Int) := by omega
  have h7 : l = ys.length := h7
  clear hi
  subst h7
  obtain ⟨j, hj⟩ := of2_q out ys.length ys n i hm
  have ha : ∀ e, e < ys.length → True := fun _ _ => trivial
  have hx := ixJ0 (lim := fun c : eb_GC => c.1) (xs := fun c : eb_GC => c.2.2.2) (P := eb_K) (c := ((out.length : Int), ys.getD i.toNat eT.dflt, out.length, out)) (b := ((), LoopState.ready, none)) rfl hm ⟨rfl, rfl⟩
  show of2_side out ys.length ys n i
  unfold of2_side
  rw [hj]
  simp only [bytesT, decide_eq_true_eq, decide_eq_false_iff_not, eT.lst_els]
  refine ⟨fun hc => ⟨⟨h3, by omega⟩, by omega, fun _ _ => trivial, rfl, rfl, hx, fun _ => ?_, fun _ => ?_⟩, fun _ => ⟨Nat.le_refl _, fun _ _ => trivial, ha⟩⟩
  · cases out.any (tleq_F · (ys.getD i.toNat eT.dflt)) <;> exact ⟨Nat.le_refl _, fun _ _ => trivial, ha⟩
  · have hl : out.length ≤ (bif out.any (tleq_F · (ys.getD i.toNat eT.dflt)) then ((Ex.ret, (out.length : Int), j, (), ys.getD i.toNat eT.dflt, out.length, out, (LoopState.done, some (Code.exit 1))) : Ex × eb_G) else (.exit 0, (out.length : Int), j, (), ys.getD i.toNat eT.dflt, out.length, out, (.ready, none))).2.2.2.2.2.2.1.length := by
      cases out.any (tleq_F · (ys.getD i.toNat eT.dflt)) <;> exact Nat.le_refl _
    have hs : out.length < 1000000 := by rcases hs with h | h
                                         · exact h
                                         · exact absurd (by omega) h
    exact ⟨⟨hl, trivial, by unfold maxLen; omega, by omega⟩, Nat.le_refl _, fun _ _ => trivial, fun _ _ => trivial, ha⟩
theorem of2_run (ys : List T) (hm : ys.length ≤ KS) : loopF of2_RR of2_M ([], ys.length, ys, (ys.length : Int), 0) = (.exit 0, greedy tleq_F [] ys, ys.length, ys, (ys.length : Int), (ys.length : Int)) := by
  have hm2 : ys.length ≤ maxLen := by unfold KS at hm; unfold maxLen; omega
  have h1 : loopF of2_RR of2_M ([], ys.length, ys, (ys.length : Int), 0) = _ := ix_conj_run (φ := of2_f) (ψ := of2_g) (fun _ => rfl) (fun _ => rfl) of2_RF of2_P (ys, (ys.length : Int), ys.length) [] rfl hm2 ⟨hm, Int.le_refl _, rfl⟩
  have hs := scan_fold (x := 0) (st := of2_S (ys, (ys.length : Int), ys.length)) (f := of1_st) (fun _ _ _ => rfl) ys 0 []
  rw [of1_greedy] at hs
  rw [h1]
  show ((scan 0 (of2_S (ys, (ys.length : Int), ys.length)) 0 ys []).1, of2_g ((scan 0 (of2_S (ys, (ys.length : Int), ys.length)) 0 ys []).2.1, (ys, (ys.length : Int), ys.length), (scan 0 (of2_S (ys, (ys.length : Int), ys.length)) 0 ys []).2.2)) = _
  rw [hs, Int.zero_add]
  rfl
noncomputable def ltN : LTab Try.prog := ltO.cons 18 8 (lconAlt 0 (of1_C of1_I of1_M) (of2_C of2_I of2_M)) (fun b hb hk => altL_ok (of1_ok b hb hk) (of2_ok b hb hk))
noncomputable abbrev lamN : Lam := ltN.lam
theorem lamN_ok : ∀ f k L, lamN f k = some L → ∀ b ∈ loopsOf Try.prog f, lkey b = k → LoopOk Try.prog b L.g := ltN.ok
end Go.Proofs.Ytiipneclghnfhaa

/- Chapter 3: chain.Of. Printed by treegen.py. -/
namespace Go.Proofs.Ytiipneclghnfhaa
open Go.RowKit Go.Sx
set_option maxRecDepth 100000
set_option linter.unusedVariables false
abbrev rLE : Rv (List T × Int) := .tup (.cons (.list eT) (.one (.of dI)))
noncomputable def cof_q1 (xs : List T) : Ex ×
  of2_G :=
  loopF (fun g => of2_R g.fst g.snd.fst g.snd.snd.fst g.snd.snd.snd.fst g.snd.snd.snd.snd) of2_M ([], (Lp.compL (eT.lst (srtBy (fun a b => tcmp_F a b) (List.map (fun x => eT.get []) (List.range (min ((0 : Nat) + xs.length) (0 : Nat))) ++ eT.lst ((0 : Nat) + xs.length - (0 : Nat)) (eT.els xs))).length (eT.els (srtBy (fun a b => tcmp_F a b) (List.map (fun x => eT.get []) (List.range (min ((0 : Nat) + xs.length) (0 : Nat))) ++ eT.lst ((0 : Nat) + xs.length - (0 : Nat)) (eT.els xs)))))).length, eT.lst (Lp.compL (eT.lst (srtBy (fun a b => tcmp_F a b) (List.map (fun x => eT.get []) (List.range (min ((0 : Nat) + xs.length) (0 : Nat))) ++ eT.lst ((0 : Nat) + xs.length - (0 : Nat)) (eT.els xs))).length (eT.els (srtBy (fun a b => tcmp_F a b) (List.map (fun x => eT.get []) (List.range (min ((0 : Nat) + xs.length) (0 : Nat))) ++ eT.lst ((0 : Nat) + xs.length - (0 : Nat)) (eT.els xs)))))).length (eT.els (Lp.compL (eT.lst (srtBy (fun a b => tcmp_F a b) (List.map (fun x => eT.get []) (List.range (min ((0 : Nat) + xs.length) (0 : Nat))) ++ eT.lst ((0 : Nat) + xs.length - (0 : Nat)) (eT.els xs))).length (eT.els (srtBy (fun a b => tcmp_F a b) (List.map (fun x => eT.get []) (List.range (min ((0 : Nat) + xs.length) (0 : Nat))) ++ eT.lst ((0 : Nat) + xs.length - (0 : Nat)) (eT.els xs))))))), (↑(Lp.compL (eT.lst (srtBy (fun a b => tcmp_F a b) (List.map (fun x => eT.get []) (List.range (min ((0 : Nat) + xs.length) (0 : Nat))) ++ eT.lst ((0 : Nat) + xs.length - (0 : Nat)) (eT.els xs))).length (eT.els (srtBy (fun a b => tcmp_F a b) (List.map (fun x => eT.get []) (List.range (min ((0 : Nat) + xs.length) (0 : Nat))) ++ eT.lst ((0 : Nat) + xs.length - (0 : Nat)) (eT.els xs)))))).length : Int), (0 : Int))
noncomputable def cof_q2 (xs : List T) : Ex ×
  of2_G :=
  loopF (fun g => of2_R g.fst g.snd.fst g.snd.snd.fst g.snd.snd.snd.fst g.snd.snd.snd.snd) of2_M ([], (0 : Nat), [], (0 : Int), (0 : Int))
noncomputable def cof_F (xs : List T) : Rv.T rLE :=
  bif badC (eT.lst xs.length (eT.els xs)) != (0 : Int) then ([], badC (eT.lst xs.length (eT.els xs)))
  else bif exB Ex.ret (cof_q1 xs).fst then ([], (0 : Int)) else bif decide ((↑(cof_q1 xs).snd.fst.length : Int) > (1024 : Int)) then ([], (3 : Int)) else (eT.lst (cof_q1 xs).snd.fst.length (eT.els (cof_q1 xs).snd.fst), (0 : Int))
def cof_side (xs : List T) : Prop :=
  (∀ (e : Nat), e < xs.length → eT.Ok (eT.els xs e)) ∧ ((badC (eT.lst xs.length (eT.els xs)) != (0 : Int)) = false → ∀ (cs : List Nat), (cs.isEmpty = false → xs.length = (0 : Nat)) → ((false != !cs.isEmpty) = true → (0 : Nat) = (0 : Nat) ∧ (∀ (e : Nat), e < (0 : Nat) → eT.OkP []) ∧ (0 : Nat) < (4611686018427387904 : Nat) ∧ (0 : Nat) = (0 : Nat) ∧ (∀ (e : Nat), e < (0 : Nat) → eT.OkP []) ∧ (∀ (e : Nat), e < (0 : Nat) → True) ∧ Lp.ixJ (fun c => c.snd.fst) (fun c => c.fst) of2_K (of2_f ([], (0 : Nat), [], (0 : Int), (0 : Int))) ∧ (exB Ex.ret (cof_q2 xs).fst = true → ∀ (d : List T × Int), ([], (0 : Int)) = bif exB Ex.ret (cof_q1 xs).fst then ([], (0 : Int)) else bif decide ((↑(cof_q1 xs).snd.fst.length : Int) > (1024 : Int)) then ([], (3 : Int)) else (eT.lst (cof_q1 xs).snd.fst.length (eT.els (cof_q1 xs).snd.fst), (0 : Int))) ∧ (exB Ex.ret (cof_q2 xs).fst = false → (decide ((↑(cof_q2 xs).snd.fst.length : Int) > (1024 : Int)) = true → ∀ (d : List T × Int), ([], (3 : Int)) = bif exB Ex.ret (cof_q1 xs).fst then ([], (0 : Int)) else bif decide ((↑(cof_q1 xs).snd.fst.length : Int) > (1024 : Int)) then ([], (3 : Int)) else (eT.lst (cof_q1 xs).snd.fst.length (eT.els (cof_q1 xs).snd.fst), (0 : Int))) ∧ (decide ((↑(cof_q2 xs).snd.fst.length : Int) > (1024 : Int)) = false → (cof_q2 xs).snd.fst.length ≤ (cof_q2 xs).snd.fst.length ∧ (∀ (e : Nat), e < (cof_q2 xs).snd.fst.length → True) ∧ ∀ (d : List T × Int), (eT.lst (cof_q2 xs).snd.fst.length (eT.els (cof_q2 xs).snd.fst), (0 : Int)) = bif exB Ex.ret (cof_q1 xs).fst then ([], (0 : Int)) else bif decide ((↑(cof_q1 xs).snd.fst.length : Int) > (1024 : Int)) then ([], (3 : Int)) else (eT.lst (cof_q1 xs).snd.fst.length (eT.els (cof_q1 xs).snd.fst), (0 : Int))))) ∧ ((false != !cs.isEmpty) = false → ((0 : Nat) ≤ (0 : Nat) ∧ (∀ (e : Nat), e < xs.length → (eT.els xs e).all SV.one = true) ∧ (0 : Nat) + xs.length ≤ maxLen ∧ ((0 : Nat) + xs.length) * Try.prog.types[(30 : Nat)].bytes ≤ (140737488355328 : Nat)) ∧ (0 : Nat) + xs.length = (0 : Nat) + xs.length ∧ (∀ (e : Nat), e < min ((0 : Nat) + xs.length) (0 : Nat) → eT.OkP []) ∧ (∀ (e : Nat), e < (0 : Nat) + xs.length - (0 : Nat) → True) ∧ (List.map (fun x => eT.get []) (List.range (min ((0 : Nat) + xs.length) (0 : Nat))) ++ eT.lst ((0 : Nat) + xs.length - (0 : Nat)) (eT.els xs)).length < (4611686018427387904 : Nat) ∧ (0 : Nat) + xs.length = (srtBy (fun a b => tcmp_F a b) (List.map (fun x => eT.get []) (List.range (min ((0 : Nat) + xs.length) (0 : Nat))) ++ eT.lst ((0 : Nat) + xs.length - (0 : Nat)) (eT.els xs))).length ∧ (∀ (e : Nat), e < (srtBy (fun a b => tcmp_F a b) (List.map (fun x => eT.get []) (List.range (min ((0 : Nat) + xs.length) (0 : Nat))) ++ eT.lst ((0 : Nat) + xs.length - (0 : Nat)) (eT.els xs))).length → True) ∧ (∀ (e : Nat), e < (Lp.compL (eT.lst (srtBy (fun a b => tcmp_F a b) (List.map (fun x => eT.get []) (List.range (min ((0 : Nat) + xs.length) (0 : Nat))) ++ eT.lst ((0 : Nat) + xs.length - (0 : Nat)) (eT.els xs))).length (eT.els (srtBy (fun a b => tcmp_F a b) (List.map (fun x => eT.get []) (List.range (min ((0 : Nat) + xs.length) (0 : Nat))) ++ eT.lst ((0 : Nat) + xs.length - (0 : Nat)) (eT.els xs)))))).length → True) ∧ Lp.ixJ (fun c => c.snd.fst) (fun c => c.fst) of2_K (of2_f ([], (Lp.compL (eT.lst (srtBy (fun a b => tcmp_F a b) (List.map (fun x => eT.get []) (List.range (min ((0 : Nat) + xs.length) (0 : Nat))) ++ eT.lst ((0 : Nat) + xs.length - (0 : Nat)) (eT.els xs))).length (eT.els (srtBy (fun a b => tcmp_F a b) (List.map (fun x => eT.get []) (List.range (min ((0 : Nat) + xs.length) (0 : Nat))) ++ eT.lst ((0 : Nat) + xs.length - (0 : Nat)) (eT.els xs)))))).length, eT.lst (Lp.compL (eT.lst (srtBy (fun a b => tcmp_F a b) (List.map (fun x => eT.get []) (List.range (min ((0 : Nat) + xs.length) (0 : Nat))) ++ eT.lst ((0 : Nat) + xs.length - (0 : Nat)) (eT.els xs))).length (eT.els (srtBy (fun a b => tcmp_F a b) (List.map (fun x => eT.get []) (List.range (min ((0 : Nat) + xs.length) (0 : Nat))) ++ eT.lst ((0 : Nat) + xs.length - (0 : Nat)) (eT.els xs)))))).length (eT.els (Lp.compL (eT.lst (srtBy (fun a b => tcmp_F a b) (List.map (fun x => eT.get []) (List.range (min ((0 : Nat) + xs.length) (0 : Nat))) ++ eT.lst ((0 : Nat) + xs.length - (0 : Nat)) (eT.els xs))).length (eT.els (srtBy (fun a b => tcmp_F a b) (List.map (fun x => eT.get []) (List.range (min ((0 : Nat) + xs.length) (0 : Nat))) ++ eT.lst ((0 : Nat) + xs.length - (0 : Nat)) (eT.els xs))))))), (↑(Lp.compL (eT.lst (srtBy (fun a b => tcmp_F a b) (List.map (fun x => eT.get []) (List.range (min ((0 : Nat) + xs.length) (0 : Nat))) ++ eT.lst ((0 : Nat) + xs.length - (0 : Nat)) (eT.els xs))).length (eT.els (srtBy (fun a b => tcmp_F a b) (List.map (fun x => eT.get []) (List.range (min ((0 : Nat) + xs.length) (0 : Nat))) ++ eT.lst ((0 : Nat) + xs.length - (0 : Nat)) (eT.els xs)))))).length : Int), (0 : Int))) ∧ (exB Ex.ret (cof_q1 xs).fst = true → ∀ (d : List T × Int), ([], (0 : Int)) = bif exB Ex.ret (cof_q1 xs).fst then ([], (0 : Int)) else bif decide ((↑(cof_q1 xs).snd.fst.length : Int) > (1024 : Int)) then ([], (3 : Int)) else (eT.lst (cof_q1 xs).snd.fst.length (eT.els (cof_q1 xs).snd.fst), (0 : Int))) ∧ (exB Ex.ret (cof_q1 xs).fst = false → (decide ((↑(cof_q1 xs).snd.fst.length : Int) > (1024 : Int)) = true → ∀ (d : List T × Int), ([], (3 : Int)) = bif exB Ex.ret (cof_q1 xs).fst then ([], (0 : Int)) else bif decide ((↑(cof_q1 xs).snd.fst.length : Int) > (1024 : Int)) then ([], (3 : Int)) else (eT.lst (cof_q1 xs).snd.fst.length (eT.els (cof_q1 xs).snd.fst), (0 : Int))) ∧ (decide ((↑(cof_q1 xs).snd.fst.length : Int) > (1024 : Int)) = false → (cof_q1 xs).snd.fst.length ≤ (cof_q1 xs).snd.fst.length ∧ (∀ (e : Nat), e < (cof_q1 xs).snd.fst.length → True) ∧ ∀ (d : List T × Int), (eT.lst (cof_q1 xs).snd.fst.length (eT.els (cof_q1 xs).snd.fst), (0 : Int)) = bif exB Ex.ret (cof_q1 xs).fst then ([], (0 : Int)) else bif decide ((↑(cof_q1 xs).snd.fst.length : Int) > (1024 : Int)) then ([], (3 : Int)) else (eT.lst (cof_q1 xs).snd.fst.length (eT.els (cof_q1 xs).snd.fst), (0 : Int))))))
theorem cof_okS (pre : DA.T aL → List Prop) (h : ∀ g, DA.bd aL g → (∀ p ∈ pre g, p) → cof_side g) : FnPure Try.prog 18 aL (Rv.D rLE) (fun g => cof_F g) pre := res_of_side (R := rLE) (Γ := (MTab.gamz tabQ [] [])) (Λ := lamN) (MTab.okz tabQ [] []) lamN_ok 100 default (fun g => cof_side g) (fun g => by kernel_rfl) (fun g => by kernel_rfl) h
noncomputable def tabX48 : MTab Try.prog := tabQ
end Go.Proofs.Ytiipneclghnfhaa

/- Chapter 3: is one not covered. Printed by treegen.py. -/
namespace Go.Proofs.Ytiipneclghnfhaa
open Go.RowKit Go.Sx
set_option maxRecDepth 100000
set_option linter.unusedVariables false
noncomputable def cfc_F (xs : List T) (l : List T) : Dv.T dBool :=
  decide (ixc_F (eT.lst xs.length (eT.els xs)) (eT.lst l.length (eT.els l)) ≥ (0 : Int))
def cfc_side (xs : List T) (l : List T) : Prop :=
  (∀ (e : Nat), e < xs.length → eT.Ok (eT.els xs e)) ∧ ∀ (e : Nat), e < l.length → eT.Ok (eT.els l e)
theorem cfc_okS (pre : DA.T aFl → List Prop) (h : ∀ g, DA.bd aFl g → (∀ p ∈ pre g, p) → cfc_side g.1 g.2) : FnPure Try.prog 75 aFl dBool (fun g => cfc_F g.1 g.2) pre := pure_of_sideS (Γ := (PTab.gamz tabU [] [])) (Λ := noΛ) (PTab.okz tabU [] []) noΛ_ok 100 default (fun g => cfc_side g.1 g.2) (fun g => by kernel_rfl) (fun g => by kernel_rfl) h
noncomputable def tabX37 : PTab Try.prog := tabU
end Go.Proofs.Ytiipneclghnfhaa

/- A call to which rows of one's own are handed for good: they are frozen first. -/
namespace Go.Sx
open Go.RowKit
def frz1 (h : SH) : SV → SV × SH × List Prop
  | .ow i l => match h.get i with
    | .row _ sz el m => (.rs sz l el, h.set i .dead, [l ≤ m])
    | _ => (.ow i l, h, [])
  | .sl i o l c => match h.get i with
    | .cells xs _ => bif Nat.ble l c && (Nat.ble c 16777216 && Nat.ble (o + l * ((xs.length - o) / c)) xs.length) then (.rs ((xs.length - o) / c) l (fun e => (xs.drop (o + e * ((xs.length - o) / c))).take ((xs.length - o) / c)), h.set i .dead, []) else (.u, h, [])
    | _ => (.sl i o l c, h, [])
  | s => (s, h, [])
def frzA : SH → List SV → List SV × SH × List Prop
  | h, [] => ([], h, [])
  | h, s :: r => ((frz1 h s).1 :: (frzA (frz1 h s).2.1 r).1, (frzA (frz1 h s).2.1 r).2.1, (frz1 h s).2.2 ++ (frzA (frz1 h s).2.1 r).2.2)
def frzC (c : Con) : Con := fun args h => asks (frzA h args).2.2 (c (frzA h args).1 (frzA h args).2.1)
theorem frz1_b (h : SH) (s : SV) : (frz1 h s).2.1.b = h.b ∧ (frz1 h s).2.1.nx = h.nx := by
  unfold frz1
  split
  · split <;> exact ⟨rfl, rfl⟩
  · split
    · rw [Bool.cond_eq_ite]; split <;> exact ⟨rfl, rfl⟩
    · exact ⟨rfl, rfl⟩
  · exact ⟨rfl, rfl⟩
theorem frzA_b : ∀ (args : List SV) (h : SH), (frzA h args).2.1.b = h.b ∧ (frzA h args).2.1.nx = h.nx
  | [], h => ⟨rfl, rfl⟩
  | s :: r, h => by
    obtain ⟨h1, h2⟩ := frz1_b h s
    obtain ⟨h3, h4⟩ := frzA_b r (frz1 h s).2.1
    exact ⟨h3.trans h1, h4.trans h2⟩
section
variable {P : Program} {M : Nat → Prop} {w0 w : World}
theorem frz1_ok {ρ : Rh} {h : SH} {s : SV} {x : Value} (hm : HM M w0 ρ h w) (hf : s.fit h.nx ρ x) (hp : ∀ p ∈ (frz1 h s).2.2, p) : ∃ ρ', Agree h.nx ρ ρ' ∧ HM M w0 ρ' (frz1 h s).2.1 w ∧ (frz1 h s).1.fit h.nx ρ' x := by
  generalize hr : frz1 h s = r at hp ⊢
  unfold frz1 at hr
  split at hr
  · rename_i i l
    split at hr
    · rename_i t sz el m hg
      subst hr
      have hl : l ≤ m := hp _ (List.mem_cons_self ..)
      have hob := hm.ob i
      rw [hg] at hob
      obtain ⟨hil, ⟨hnl, rfl, ad, rfl⟩ | ⟨hnl, hlc, rfl⟩⟩ := hf
      · exact ⟨ρ, Agree.refl _ _, hm.forget i, rs_nil0 _ _ _⟩
      · rcases hob.2 with ⟨hnl', _⟩ | ⟨_, hoff, c, fz, hob', _, hcs, hmc, hcm, hall⟩
        · rw [hnl] at hnl'; cases hnl'
        · have hown : (h.get i).own (ρ i) := by rw [hg]; exact hnl
          have hag : Agree h.nx ρ (ρ.frz (ρ i).blk _) := agree_frz (n := h.nx) ρ (o := .cells c t fz) (hm.sep i hown)
          refine ⟨_, hag, HM.freeze hm hown hob', ?_⟩
          refine ⟨_, _, rfl, hlc, by omega, fun _ => ⟨_, 0, c, t, fz, rfl, ?_, fun e he => ?_⟩⟩
          · simp [Rh.frz]
          · obtain ⟨vs, q1, q2, q3⟩ := hall e (by omega)
            exact ⟨vs, q1, SV.fits_mono (Nat.le_refl _) hag _ _ q2, q3⟩
    · subst hr; exact ⟨ρ, Agree.refl _ _, hm, hf⟩
  · rename_i i o l c
    split at hr
    · rename_i xs t hg
      cases hb : Nat.ble l c && (Nat.ble c 16777216 && Nat.ble (o + l * ((xs.length - o) / c)) xs.length) with
      | false => rw [hb] at hr; subst hr; exact ⟨ρ, Agree.refl _ _, hm, trivial⟩
      | true =>
        rw [hb] at hr
        subst hr
        simp only [Bool.and_eq_true] at hb
        have b1 := Nat.le_of_ble_eq_true hb.1
        have b2 := Nat.le_of_ble_eq_true hb.2.1
        have b3 := Nat.le_of_ble_eq_true hb.2.2
        have hob := hm.ob i
        rw [hg] at hob
        obtain ⟨hil, rfl⟩ := hf
        obtain ⟨_, hoff, v, hob', hfl⟩ := hob
        have hll := fits_length hfl
        have hown : (h.get i).own (ρ i) := by rw [hg]; trivial
        have hag : Agree h.nx ρ (ρ.frz (ρ i).blk _) := agree_frz (n := h.nx) ρ (o := .cells v.toArray t (0, 0)) (hm.sep i hown)
        refine ⟨_, hag, HM.freeze hm hown hob', ?_⟩
        show (SV.rs ((xs.length - o) / c) l (fun e => (xs.drop (o + e * ((xs.length - o) / c))).take ((xs.length - o) / c))).fit h.nx _ _
        generalize (xs.length - o) / c = sz at b3 ⊢
        refine ⟨_, _, rfl, b1, by unfold maxLen; omega, fun _ => ⟨_, _, v.toArray, t, (0, 0), rfl, by simp [Rh.frz], fun e he => ?_⟩⟩
        have hle : o + e * sz + sz ≤ xs.length := by
          have := Nat.mul_le_mul_right sz (show e + 1 ≤ l by omega)
          rw [Nat.add_mul, Nat.one_mul] at this
          omega
        refine ⟨(v.drop (o + e * sz)).take sz, by simp; omega, SV.fits_mono (Nat.le_refl _) hag _ _ (fits_take _ (fits_drop _ hfl)), fun j y hy => ?_⟩
        rw [List.getElem?_take] at hy
        split at hy
        · rw [List.getElem?_drop] at hy
          rw [hoff]
          simpa [Nat.add_assoc] using hy
        · cases hy
    · subst hr; exact ⟨ρ, Agree.refl _ _, hm, hf⟩
  · subst hr; exact ⟨ρ, Agree.refl _ _, hm, hf⟩
theorem frzA_ok : ∀ {args : List SV} {ρ : Rh} {h : SH} {vs : List Value}, HM M w0 ρ h w → SV.fits h.nx ρ args vs → (∀ p ∈ (frzA h args).2.2, p) → ∃ ρ', Agree h.nx ρ ρ' ∧ HM M w0 ρ' (frzA h args).2.1 w ∧ SV.fits h.nx ρ' (frzA h args).1 vs
  | [], ρ, h, vs, hm, hf, _ => ⟨ρ, Agree.refl _ _, hm, hf⟩
  | s :: r, ρ, h, vs, hm, hf, hp => by
    obtain ⟨y, ys, rfl, hy, hr⟩ := fits_cons hf
    simp only [frzA] at hp ⊢
    obtain ⟨ρ1, a1, m1, f1⟩ := frz1_ok hm hy fun p hq => hp p (List.mem_append_left _ hq)
    have hnx := (frz1_b h s).2
    have hr1 : SV.fits (frz1 h s).2.1.nx ρ1 r ys := by rw [hnx]; exact SV.fits_mono (Nat.le_refl _) a1 _ _ hr
    obtain ⟨ρ2, a2, m2, f2⟩ := frzA_ok (args := r) m1 hr1 fun p hq => hp p (List.mem_append_right _ hq)
    rw [hnx] at a2 f2
    exact ⟨ρ2, a1.trans (Nat.le_refl _) a2, m2, SV.fit_mono (Nat.le_refl _) a2 _ _ f1, f2⟩
theorem frzC_ok {f : Nat} {c : Con} (hc : FnOk P f c) : FnOk P f (frzC c) := by
  intro M w0 w ρ h args vs K hK hm hf
  obtain ⟨hq, hK⟩ := asks_holds hK
  obtain ⟨ρ1, a1, m1, f1⟩ := frzA_ok hm hf hq
  have hnx := (frzA_b args h).2
  refine (hc M w0 w ρ1 _ _ vs K hK m1 (by rw [hnx]; exact f1)).mono ?_
  rintro e w' ⟨s, h', ρ', x, k1, k2, k3, k4, k5, k6⟩
  rw [hnx] at k2 k3
  exact ⟨s, h', ρ', x, k1, k2, a1.trans (Nat.le_refl _) k3, k4, k5, k6⟩
theorem frzC_b {c : Con} (hc : ∀ args h, (c args h).Each fun y => y.2 = h) : ConB (frzC c) := fun args h => by
  have hb := (frzA_b args h).1
  refine asks_each ?_
  have := eq_b (hc (frzA h args).1 (frzA h args).2.1)
  rw [hb] at this
  exact this
def fconR {γ δ : Type} (D : DA γ) (R : Dv δ) (fn : γ → δ) (pre : γ → List Prop) : BCon := ⟨frzC (conR D R fn pre), frzC_b (pconR D R fn pre).e⟩
theorem fconR_ok {f : Nat} {γ δ : Type} {D : DA γ} {R : Dv δ} {fn : γ → δ} {pre : γ → List Prop} (h : FnPure P f D R fn pre) : FnOk P f (fconR D R fn pre).g := frzC_ok (conR_ok h)
theorem asks_intro {α : Type} {K : α → Prop} : ∀ {l : List Prop} {t : Tr α}, (∀ p ∈ l, p) → t.Holds K → (asks l t).Holds K
  | [], _, _, h => h
  | p :: r, t, hl, h => ⟨hl p (List.mem_cons_self ..), asks_intro (l := r) (fun q hq => hl q (List.mem_cons_of_mem _ hq)) h⟩
/-- The first argument is a list, handed for good: if it is a row of one's own, it is frozen. -/
def conL {α γ δ : Type} (A : El α) (D : DA γ) (R : Dv δ) (fn : List α × γ → δ) (pre : List α × γ → List Prop) : Con := fun args h =>
  match args with
  | .ow i l :: rest => match h.get i with
    | .row _ sz el m => match Nat.beq sz A.sz with
      | true => match D.dec rest with
        | some (g, ps) => asks ((l ≤ m) :: (A.okE l el ++ (ps ++ pre (A.lstE l el, g)))) (.ret (R.enc (fn (A.lstE l el, g)), h.set i .dead))
        | none => .bad 658
      | false => .bad 659
    | _ => .bad 660
  | args => frzC (conR (.cons (.list A) D) R fn pre) args h
theorem conL_ok {f : Nat} {α γ δ : Type} {A : El α} {D : DA γ} {R : Dv δ} {fn : List α × γ → δ} {pre : List α × γ → List Prop} (hp : FnPure P f (.cons (.list A) D) R fn pre) : FnOk P f (conL A D R fn pre) := by
  intro M w0 w ρ h args vs K hK hm hf
  unfold conL at hK
  split at hK
  · rename_i i l rest
    split at hK
    · rename_i t sz el m hg
      split at hK
      · rename_i hb
        split at hK
        · rename_i g ps hd
          obtain ⟨hq, hK⟩ := asks_holds hK
          have hlm : l ≤ m := hq _ (List.mem_cons_self ..)
          have hok : ∀ e, e < l → A.Ok (el.at e) := A.okE_ok l el fun p h' => hq p (List.mem_cons_of_mem _ (List.mem_append_left _ h'))
          have hps : ∀ p ∈ ps, p := fun p h' => hq p (List.mem_cons_of_mem _ (List.mem_append_right _ (List.mem_append_left _ h')))
          have hpre : ∀ p ∈ pre (A.lstE l el, g), p := fun p h' => hq p (List.mem_cons_of_mem _ (List.mem_append_right _ (List.mem_append_right _ h')))
          rw [A.lstE_eq] at hpre hK
          obtain ⟨y, ys, rfl, hy, hr⟩ := fits_cons hf
          have e1 : frz1 h (.ow i l) = (.rs sz l el.at, h.set i .dead, [l ≤ m]) := by simp [frz1, hg]
          obtain ⟨ρ1, a1, m1, f1⟩ := frz1_ok (s := .ow i l) hm hy (by rw [e1]; intro p hp'; simp only [List.mem_singleton] at hp'; rw [hp']; exact hlm)
          rw [e1] at m1 f1
          have hdec : (DA.cons (.list A) D).dec (.rs sz l el.at :: rest) = some ((A.lst l el.at, g), [∀ e, e < l → A.Ok (el.at e)] ++ ps) := by
            simp only [DA.cons, Dv.list, hb, hd, cond_true]
          have hK1 : (conR (.cons (.list A) D) R fn pre (.rs sz l el.at :: rest) (h.set i .dead)).Holds K := by
            unfold conR
            rw [hdec]
            refine asks_intro (fun p h' => ?_) hK
            rcases List.mem_append.1 h' with h' | h'
            · rcases List.mem_append.1 h' with h' | h'
              · simp only [List.mem_singleton] at h'
                rw [h']; exact hok
              · exact hps p h'
            · exact hpre p h'
          refine (conR_ok hp M w0 w ρ1 (h.set i .dead) (.rs sz l el.at :: rest) (y :: ys) K hK1 m1 ⟨f1, SV.fits_mono (Nat.le_refl _) a1 _ _ hr⟩).mono ?_
          rintro e w' ⟨s, h', ρ', x, k1, k2, k3, k4, k5, k6⟩
          exact ⟨s, h', ρ', x, k1, k2, a1.trans (Nat.le_refl _) k3, k4, k5, k6⟩
        · exact hK.elim
      · exact hK.elim
    · exact hK.elim
  · exact frzC_ok (conR_ok hp) M w0 w ρ h _ vs K hK hm hf
theorem conL_b {α γ δ : Type} {A : El α} {D : DA γ} {R : Dv δ} {fn : List α × γ → δ} {pre : List α × γ → List Prop} : ConB (conL A D R fn pre) := fun args h => by
  unfold conL
  split
  · split
    · split
      · split
        · exact asks_each rfl
        · trivial
      · trivial
    · trivial
  · exact frzC_b (pconR (.cons (.list A) D) R fn pre).e _ h
def lconR {α γ δ : Type} (A : El α) (D : DA γ) (R : Dv δ) (fn : List α × γ → δ) (pre : List α × γ → List Prop) : BCon := ⟨conL A D R fn pre, conL_b⟩
theorem pure_none {f : Nat} {α δ : Type} {A : Dv α} {R : Dv δ} {fn : α → δ} {pre : α → List Prop} (h : FnPure P f (.one A) R fn pre) : FnPure P f (.cons A .none) R (fun g => fn g.1) (fun g => pre g.1) := fun w F g vs h1 h2 h3 => h w F g.1 vs h1 h2 h3
/-- Elements that are all known. -/
def okAll {α : Type} (A : El α) (n : Nat) (el : Nat → List SV) : Bool := (List.range n).all fun e => match A.decs (el e) with
  | some (_, []) => true
  | _ => false
theorem okAll_ok {α : Type} {A : El α} {n : Nat} {el : Nat → List SV} (h : okAll A n el = true) : ∀ e, e < n → A.Ok (el e) := fun e he => by
  have := List.all_eq_true.1 h e (by simpa using he)
  split at this
  · rename_i a hd
    exact ⟨a, [], hd, by simp⟩
  · cases this
/-- As Dv.list, where the elements are looked at one by one. -/
def Dv.listB {α : Type} (A : El α) : Dv (List α) where
  dec s := match s with
    | .rs sz n el => bif Nat.beq sz A.sz && okAll A n el then some (A.lst n el, []) else none
    | _ => none
  enc := (Dv.list A).enc
  bd := (Dv.list A).bd
  cl := (Dv.list A).cl
  ok s a ps n ρ x hd hp hf := by
    split at hd
    · rename_i sz m el
      cases hb : (Nat.beq sz A.sz && okAll A m el) with
      | false => rw [hb] at hd; cases hd
      | true =>
        rw [hb] at hd
        simp only [cond_true, Option.some.injEq, Prod.mk.injEq] at hd
        obtain ⟨rfl, rfl⟩ := hd
        simp only [Bool.and_eq_true] at hb
        exact (Dv.list A).ok (.rs sz m el) _ [∀ e, e < m → A.Ok (el e)] n ρ x (by simp [Dv.list, hb.1]) (by
          intro p hp
          simp only [List.mem_singleton] at hp
          subst hp
          exact okAll_ok hb.2) hf
    · cases hd
  fb := (Dv.list A).fb
end
end Go.Sx

/- Chapter 3: is one not covered: the contract. -/
namespace Go.Proofs.Ytiipneclghnfhaa
open Go.RowKit Go.Sx Go.Lp
theorem cfc_ok : FnPure Try.prog 75 aFl dBool (fun g => g.1.any (fun v => !g.2.any (tleq_F · v))) (fun _ => []) := by
  refine pure_congr (cfc_okS _ fun g hb hp => ⟨okT g.1, okT g.2⟩) fun g hb hp => ?_
  show cfc_F g.1 g.2 = _
  unfold cfc_F
  simp only [eT.lst_els]
  exact ixc_pos g.1 g.2 hb.1.1
noncomputable def tabV : PTab Try.prog := tabU.cons 75 (pconAlt 113 (pconP aFt dBool (fun g => g.1.any (difD g.2)) (fun g => [0 < g.1.length → 0 < g.2.length])) (pconAlt 104 (pconP aFl dBool (fun g => g.1.any (fun v => !g.2.any (tleq_F · v))) (fun _ => [])) (pconP aFc dBool (fun g => g.1.any (tleq_F · g.2)) (fun _ => [])))) (alt_ok (conP_ok cfa_ok puB) (alt_ok (conP_ok cfc_ok puB) (conP_ok cfb_ok puB)))
noncomputable def tabW : MTab Try.prog := (MTab.of tabV).consM 31 (lconR eT DA.none dLE (fun g => ofC g.1) (fun g => [g.1.length ≤ KS])) (conL_ok (pure_none rof_ok))
end Go.Proofs.Ytiipneclghnfhaa

/- Chapter 3: Leq, both, the document's two, Insert, Meet; All. Printed by treegen.py. -/
namespace Go.Proofs.Ytiipneclghnfhaa
open Go.RowKit Go.Sx
set_option maxRecDepth 100000
set_option linter.unusedVariables false
abbrev dLBE : Dv (List T × Bool × Int) := .tup (.cons dLT (.cons dBool (.one dI)))
noncomputable def clq_F (ys : List T) (xs : List T) : Dv.T dBool :=
  !(eT.lst xs.length (eT.els xs)).any fun v => !(eT.lst ys.length (eT.els ys)).any fun x => tleq_F x v
def clq_side (ys : List T) (xs : List T) : Prop :=
  (∀ (e : Nat), e < xs.length → eT.Ok (eT.els xs e)) ∧ ∀ (e : Nat), e < ys.length → eT.Ok (eT.els ys e)
theorem clq_okS (pre : DA.T aLL → List Prop) (h : ∀ g, DA.bd aLL g → (∀ p ∈ pre g, p) → clq_side g.1 g.2) : FnPure Try.prog 55 aLL dBool (fun g => clq_F g.1 g.2) pre := pure_of_sideS (Γ := (MTab.gamz tabW [] [])) (Λ := noΛ) (MTab.okz tabW [] []) noΛ_ok 100 default (fun g => clq_side g.1 g.2) (fun g => by kernel_rfl) (fun g => by kernel_rfl) h
noncomputable def bth_F (xs : List T) (ys : List T) : Dv.T dI :=
  bif chkC (eT.lst xs.length (eT.els xs)) != (0 : Int) then chkC (eT.lst xs.length (eT.els xs))
  else bif chkC (eT.lst ys.length (eT.els ys)) != (0 : Int) then chkC (eT.lst ys.length (eT.els ys)) else bif decide ((↑xs.length : Int) > (0 : Int)) && (decide ((↑ys.length : Int) > (0 : Int)) && (xs.getD (0 : Nat) eT.dflt).d != (ys.getD (0 : Nat) eT.dflt).d) then (11 : Int) else (0 : Int)
def bth_side (xs : List T) (ys : List T) : Prop :=
  (∀ (e : Nat), e < xs.length → eT.Ok (eT.els xs e)) ∧ ((chkC (eT.lst xs.length (eT.els xs)) != (0 : Int)) = false → (∀ (e : Nat), e < ys.length → eT.Ok (eT.els ys e)) ∧ ((chkC (eT.lst ys.length (eT.els ys)) != (0 : Int)) = false → (decide ((↑xs.length : Int) > (0 : Int)) = true → decide ((↑ys.length : Int) > (0 : Int)) = true → (0 : Int) ≤ (0 : Int) ∧ (0 : Int) < (↑xs.length : Int)) ∧ (decide ((↑xs.length : Int) > (0 : Int)) = true → decide ((↑ys.length : Int) > (0 : Int)) = true → (0 : Int) ≤ (0 : Int) ∧ (0 : Int) < (↑ys.length : Int))))
theorem bth_okS (pre : DA.T aLL → List Prop) (h : ∀ g, DA.bd aLL g → (∀ p ∈ pre g, p) → bth_side g.1 g.2) : FnPure Try.prog 99 aLL dI (fun g => bth_F g.1 g.2) pre := pure_of_sideS (Γ := (MTab.gamz tabW [] [])) (Λ := noΛ) (MTab.okz tabW [] []) noΛ_ok 100 default (fun g => bth_side g.1 g.2) (fun g => by kernel_rfl) (fun g => by kernel_rfl) h
noncomputable def two_F (xs : List T) (ys : List T) : Dv.T dI :=
  bif chkC (eT.lst xs.length (eT.els xs)) != (0 : Int) then chkC (eT.lst xs.length (eT.els xs))
  else bif chkC (eT.lst ys.length (eT.els ys)) != (0 : Int) then chkC (eT.lst ys.length (eT.els ys)) else bif decide ((↑xs.length : Int) > (0 : Int)) && (decide ((↑ys.length : Int) > (0 : Int)) && (xs.getD (0 : Nat) eT.dflt).d != (ys.getD (0 : Nat) eT.dflt).d) then (11 : Int) else (0 : Int)
def two_side (xs : List T) (ys : List T) : Prop :=
  (∀ (e : Nat), e < xs.length → eT.Ok (eT.els xs e)) ∧ ((chkC (eT.lst xs.length (eT.els xs)) != (0 : Int)) = false → (∀ (e : Nat), e < ys.length → eT.Ok (eT.els ys e)) ∧ ((chkC (eT.lst ys.length (eT.els ys)) != (0 : Int)) = false → (decide ((↑xs.length : Int) > (0 : Int)) = true → decide ((↑ys.length : Int) > (0 : Int)) = true → (0 : Int) ≤ (0 : Int) ∧ (0 : Int) < (↑xs.length : Int)) ∧ (decide ((↑xs.length : Int) > (0 : Int)) = true → decide ((↑ys.length : Int) > (0 : Int)) = true → (0 : Int) ≤ (0 : Int) ∧ (0 : Int) < (↑ys.length : Int))))
theorem two_okS (pre : DA.T aLL → List Prop) (h : ∀ g, DA.bd aLL g → (∀ p ∈ pre g, p) → two_side g.1 g.2) : FnPure Try.prog 102 aLL dI (fun g => two_F g.1 g.2) pre := pure_of_sideS (Γ := (MTab.gamz tabW [] [])) (Λ := noΛ) (MTab.okz tabW [] []) noΛ_ok 100 default (fun g => two_side g.1 g.2) (fun g => by kernel_rfl) (fun g => by kernel_rfl) h
noncomputable def tabX39 : MTab Try.prog := tabW
end Go.Proofs.Ytiipneclghnfhaa

/- Chapter 3: Leq, both, the document's two: contracts. -/
namespace Go.Proofs.Ytiipneclghnfhaa
open Go.RowKit Go.Sx Go.Lp
theorem clq_ok : FnPure Try.prog 55 aLL dBool (fun g => leqC g.1 g.2) (fun _ => []) := by
  refine pure_congr (clq_okS _ fun g hb hp => ⟨okT g.2, okT g.1⟩) fun g hb hp => ?_
  show clq_F g.1 g.2 = _
  unfold clq_F leqC
  simp only [eT.lst_els]
  rw [any_not_all, Bool.not_not]
noncomputable def bothC (xs ys : List T) : Int := bif chkC xs != 0 then chkC xs else bif chkC ys != 0 then chkC ys else bif decide ((xs.length : Int) > 0) && (decide ((ys.length : Int) > 0) && (xs.getD (0 : Nat) eT.dflt).d != (ys.getD (0 : Nat) eT.dflt).d) then 11 else 0
theorem bth_ok : FnPure Try.prog 99 aLL dI (fun g => bothC g.1 g.2) (fun _ => []) := by
  refine pure_congr (bth_okS _ fun g hb hp => ?_) fun g hb hp => ?_
  · show bth_side g.1 g.2
    unfold bth_side
    simp only [eT.lst_els]
    exact ⟨okT _, fun _ => ⟨okT _, fun _ => ⟨fun h _ => ⟨Int.le_refl _, of_decide_eq_true h⟩, fun _ h => ⟨Int.le_refl _, of_decide_eq_true h⟩⟩⟩⟩
  · show bth_F g.1 g.2 = _
    unfold bth_F bothC
    simp only [eT.lst_els]
theorem two_ok : FnPure Try.prog 102 aLL dI (fun g => bothC g.1 g.2) (fun _ => []) := by
  refine pure_congr (two_okS _ fun g hb hp => ?_) fun g hb hp => ?_
  · show two_side g.1 g.2
    unfold two_side
    simp only [eT.lst_els]
    exact ⟨okT _, fun _ => ⟨okT _, fun _ => ⟨fun h _ => ⟨Int.le_refl _, of_decide_eq_true h⟩, fun _ h => ⟨Int.le_refl _, of_decide_eq_true h⟩⟩⟩⟩
  · show two_F g.1 g.2 = _
    unfold two_F bothC
    simp only [eT.lst_els]
noncomputable def tabXa : PTab Try.prog := ((tabV.cons 55 (pconP aLL dBool (fun g => leqC g.1 g.2) (fun _ => [])) (conP_ok clq_ok puB)).cons 99 (pconP aLL dI (fun g => bothC g.1 g.2) (fun _ => [])) (conP_ok bth_ok puI)).cons 102 (pconP aLL dI (fun g => bothC g.1 g.2) (fun _ => [])) (conP_ok two_ok puI)
noncomputable def tabY : MTab Try.prog := (MTab.of tabXa).consM 31 (lconR eT DA.none dLE (fun g => ofC g.1) (fun g => [g.1.length ≤ KS])) (conL_ok (pure_none rof_ok))
end Go.Proofs.Ytiipneclghnfhaa

/- Chapter 3: the document's Insert, Meet; All. Printed by treegen.py. -/
namespace Go.Proofs.Ytiipneclghnfhaa
open Go.RowKit Go.Sx
set_option maxRecDepth 100000
set_option linter.unusedVariables false
noncomputable def rins_F (xs : List T) (t : T) : Dv.T dLBE :=
  bif chkC (eT.lst xs.length (eT.els xs)) != (0 : Int) then ([], false, chkC (eT.lst xs.length (eT.els xs)))
  else bif rtcheck_F t != (0 : Int) then ([], false, rtcheck_F t) else bif (ofC (List.map (fun x => eT.get []) (List.range (min (min ((0 : Nat) + xs.length + (1 : Nat)) ((0 : Nat) + xs.length)) (0 : Nat))) ++ eT.lst (min ((0 : Nat) + xs.length + (1 : Nat)) ((0 : Nat) + xs.length) - (0 : Nat)) (eT.els xs) ++ List.map (fun x => t) (List.range ((0 : Nat) + xs.length + (1 : Nat) - ((0 : Nat) + xs.length))))).snd != (0 : Int) then ([], false, (ofC (List.map (fun x => eT.get []) (List.range (min (min ((0 : Nat) + xs.length + (1 : Nat)) ((0 : Nat) + xs.length)) (0 : Nat))) ++ eT.lst (min ((0 : Nat) + xs.length + (1 : Nat)) ((0 : Nat) + xs.length) - (0 : Nat)) (eT.els xs) ++ List.map (fun x => t) (List.range ((0 : Nat) + xs.length + (1 : Nat) - ((0 : Nat) + xs.length))))).snd) else (eT.lst (ofC (List.map (fun x => eT.get []) (List.range (min (min ((0 : Nat) + xs.length + (1 : Nat)) ((0 : Nat) + xs.length)) (0 : Nat))) ++ eT.lst (min ((0 : Nat) + xs.length + (1 : Nat)) ((0 : Nat) + xs.length) - (0 : Nat)) (eT.els xs) ++ List.map (fun x => t) (List.range ((0 : Nat) + xs.length + (1 : Nat) - ((0 : Nat) + xs.length))))).fst.length (eT.els (ofC (List.map (fun x => eT.get []) (List.range (min (min ((0 : Nat) + xs.length + (1 : Nat)) ((0 : Nat) + xs.length)) (0 : Nat))) ++ eT.lst (min ((0 : Nat) + xs.length + (1 : Nat)) ((0 : Nat) + xs.length) - (0 : Nat)) (eT.els xs) ++ List.map (fun x => t) (List.range ((0 : Nat) + xs.length + (1 : Nat) - ((0 : Nat) + xs.length))))).fst), !decide (eT.lst (ofC (List.map (fun x => eT.get []) (List.range (min (min ((0 : Nat) + xs.length + (1 : Nat)) ((0 : Nat) + xs.length)) (0 : Nat))) ++ eT.lst (min ((0 : Nat) + xs.length + (1 : Nat)) ((0 : Nat) + xs.length) - (0 : Nat)) (eT.els xs) ++ List.map (fun x => t) (List.range ((0 : Nat) + xs.length + (1 : Nat) - ((0 : Nat) + xs.length))))).fst.length (eT.els (ofC (List.map (fun x => eT.get []) (List.range (min (min ((0 : Nat) + xs.length + (1 : Nat)) ((0 : Nat) + xs.length)) (0 : Nat))) ++ eT.lst (min ((0 : Nat) + xs.length + (1 : Nat)) ((0 : Nat) + xs.length) - (0 : Nat)) (eT.els xs) ++ List.map (fun x => t) (List.range ((0 : Nat) + xs.length + (1 : Nat) - ((0 : Nat) + xs.length))))).fst) = eT.lst xs.length (eT.els xs)), (0 : Int))
def rins_side (xs : List T) (t : T) : Prop :=
  (∀ (e : Nat), e < xs.length → eT.Ok (eT.els xs e)) ∧ ((chkC (eT.lst xs.length (eT.els xs)) != (0 : Int)) = false → (rtcheck_F t != (0 : Int)) = false → (True ∧ (∀ (e : Nat), e < xs.length → (eT.els xs e).all SV.one = true) ∧ (0 : Nat) + xs.length ≤ maxLen ∧ ((0 : Nat) + xs.length) * Try.prog.types[(30 : Nat)].bytes ≤ (140737488355328 : Nat)) ∧ ((0 : Nat) + xs.length ≤ (0 : Nat) + xs.length ∧ True ∧ (0 : Nat) + xs.length + (1 : Nat) ≤ maxLen ∧ ((0 : Nat) + xs.length + (1 : Nat)) * Try.prog.types[(30 : Nat)].bytes ≤ (140737488355328 : Nat)) ∧ (0 : Nat) + xs.length + (1 : Nat) ≤ (0 : Nat) + xs.length + (1 : Nat) ∧ (∀ (e : Nat), e < min (min ((0 : Nat) + xs.length + (1 : Nat)) ((0 : Nat) + xs.length)) (0 : Nat) → eT.OkP []) ∧ (∀ (e : Nat), e < min ((0 : Nat) + xs.length + (1 : Nat)) ((0 : Nat) + xs.length) - (0 : Nat) → True) ∧ (∀ (e : Nat), e < (0 : Nat) + xs.length + (1 : Nat) - ((0 : Nat) + xs.length) → True) ∧ (List.map (fun x => eT.get []) (List.range (min (min ((0 : Nat) + xs.length + (1 : Nat)) ((0 : Nat) + xs.length)) (0 : Nat))) ++ eT.lst (min ((0 : Nat) + xs.length + (1 : Nat)) ((0 : Nat) + xs.length) - (0 : Nat)) (eT.els xs) ++ List.map (fun x => t) (List.range ((0 : Nat) + xs.length + (1 : Nat) - ((0 : Nat) + xs.length)))).length ≤ KS ∧ (((ofC (List.map (fun x => eT.get []) (List.range (min (min ((0 : Nat) + xs.length + (1 : Nat)) ((0 : Nat) + xs.length)) (0 : Nat))) ++ eT.lst (min ((0 : Nat) + xs.length + (1 : Nat)) ((0 : Nat) + xs.length) - (0 : Nat)) (eT.els xs) ++ List.map (fun x => t) (List.range ((0 : Nat) + xs.length + (1 : Nat) - ((0 : Nat) + xs.length))))).snd != (0 : Int)) = false → (∀ (e : Nat), e < (ofC (List.map (fun x => eT.get []) (List.range (min (min ((0 : Nat) + xs.length + (1 : Nat)) ((0 : Nat) + xs.length)) (0 : Nat))) ++ eT.lst (min ((0 : Nat) + xs.length + (1 : Nat)) ((0 : Nat) + xs.length) - (0 : Nat)) (eT.els xs) ++ List.map (fun x => t) (List.range ((0 : Nat) + xs.length + (1 : Nat) - ((0 : Nat) + xs.length))))).fst.length → eT.Ok (eT.els (ofC (List.map (fun x => eT.get []) (List.range (min (min ((0 : Nat) + xs.length + (1 : Nat)) ((0 : Nat) + xs.length)) (0 : Nat))) ++ eT.lst (min ((0 : Nat) + xs.length + (1 : Nat)) ((0 : Nat) + xs.length) - (0 : Nat)) (eT.els xs) ++ List.map (fun x => t) (List.range ((0 : Nat) + xs.length + (1 : Nat) - ((0 : Nat) + xs.length))))).fst e)) ∧ (∀ (e : Nat), e < xs.length → eT.Ok (eT.els xs e)) ∧ ∀ (e : Nat), e < (ofC (List.map (fun x => eT.get []) (List.range (min (min ((0 : Nat) + xs.length + (1 : Nat)) ((0 : Nat) + xs.length)) (0 : Nat))) ++ eT.lst (min ((0 : Nat) + xs.length + (1 : Nat)) ((0 : Nat) + xs.length) - (0 : Nat)) (eT.els xs) ++ List.map (fun x => t) (List.range ((0 : Nat) + xs.length + (1 : Nat) - ((0 : Nat) + xs.length))))).fst.length → eT.Ok (eT.els (ofC (List.map (fun x => eT.get []) (List.range (min (min ((0 : Nat) + xs.length + (1 : Nat)) ((0 : Nat) + xs.length)) (0 : Nat))) ++ eT.lst (min ((0 : Nat) + xs.length + (1 : Nat)) ((0 : Nat) + xs.length) - (0 : Nat)) (eT.els xs) ++ List.map (fun x => t) (List.range ((0 : Nat) + xs.length + (1 : Nat) - ((0 : Nat) + xs.length))))).fst e)))
theorem rins_okS (pre : DA.T aLT → List Prop) (h : ∀ g, DA.bd aLT g → (∀ p ∈ pre g, p) → rins_side g.1 g.2) : FnPure Try.prog 32 aLT dLBE (fun g => rins_F g.1 g.2) pre := pure_of_sideS (Γ := (MTab.gamz tabY [] [])) (Λ := noΛ) (MTab.okz tabY [] []) noΛ_ok 100 default (fun g => rins_side g.1 g.2) (fun g => by kernel_rfl) (fun g => by kernel_rfl) h
noncomputable def rmt_F (xs : List T) (ys : List T) : Dv.T dLE :=
  bif bothC (eT.lst xs.length (eT.els xs)) (eT.lst ys.length (eT.els ys)) != (0 : Int) then ([], bothC (eT.lst xs.length (eT.els xs)) (eT.lst ys.length (eT.els ys)))
  else (eT.lst (ofC (List.map (fun x => eT.get []) (List.range (min (min ((0 : Nat) + xs.length + ys.length) ((0 : Nat) + xs.length)) (0 : Nat))) ++ eT.lst (min ((0 : Nat) + xs.length + ys.length) ((0 : Nat) + xs.length) - (0 : Nat)) (eT.els xs) ++ eT.lst ((0 : Nat) + xs.length + ys.length - ((0 : Nat) + xs.length)) (eT.els ys))).fst.length (eT.els (ofC (List.map (fun x => eT.get []) (List.range (min (min ((0 : Nat) + xs.length + ys.length) ((0 : Nat) + xs.length)) (0 : Nat))) ++ eT.lst (min ((0 : Nat) + xs.length + ys.length) ((0 : Nat) + xs.length) - (0 : Nat)) (eT.els xs) ++ eT.lst ((0 : Nat) + xs.length + ys.length - ((0 : Nat) + xs.length)) (eT.els ys))).fst), (ofC (List.map (fun x => eT.get []) (List.range (min (min ((0 : Nat) + xs.length + ys.length) ((0 : Nat) + xs.length)) (0 : Nat))) ++ eT.lst (min ((0 : Nat) + xs.length + ys.length) ((0 : Nat) + xs.length) - (0 : Nat)) (eT.els xs) ++ eT.lst ((0 : Nat) + xs.length + ys.length - ((0 : Nat) + xs.length)) (eT.els ys))).snd)
def rmt_side (xs : List T) (ys : List T) : Prop :=
  (∀ (e : Nat), e < xs.length → eT.Ok (eT.els xs e)) ∧ (∀ (e : Nat), e < ys.length → eT.Ok (eT.els ys e)) ∧ ((bothC (eT.lst xs.length (eT.els xs)) (eT.lst ys.length (eT.els ys)) != (0 : Int)) = false → (True ∧ (∀ (e : Nat), e < xs.length → (eT.els xs e).all SV.one = true) ∧ (0 : Nat) + xs.length ≤ maxLen ∧ ((0 : Nat) + xs.length) * Try.prog.types[(30 : Nat)].bytes ≤ (140737488355328 : Nat)) ∧ ((0 : Nat) + xs.length ≤ (0 : Nat) + xs.length ∧ (∀ (e : Nat), e < ys.length → (eT.els ys e).all SV.one = true) ∧ (0 : Nat) + xs.length + ys.length ≤ maxLen ∧ ((0 : Nat) + xs.length + ys.length) * Try.prog.types[(30 : Nat)].bytes ≤ (140737488355328 : Nat)) ∧ (0 : Nat) + xs.length + ys.length ≤ (0 : Nat) + xs.length + ys.length ∧ (∀ (e : Nat), e < min (min ((0 : Nat) + xs.length + ys.length) ((0 : Nat) + xs.length)) (0 : Nat) → eT.OkP []) ∧ (∀ (e : Nat), e < min ((0 : Nat) + xs.length + ys.length) ((0 : Nat) + xs.length) - (0 : Nat) → True) ∧ (∀ (e : Nat), e < (0 : Nat) + xs.length + ys.length - ((0 : Nat) + xs.length) → True) ∧ (List.map (fun x => eT.get []) (List.range (min (min ((0 : Nat) + xs.length + ys.length) ((0 : Nat) + xs.length)) (0 : Nat))) ++ eT.lst (min ((0 : Nat) + xs.length + ys.length) ((0 : Nat) + xs.length) - (0 : Nat)) (eT.els xs) ++ eT.lst ((0 : Nat) + xs.length + ys.length - ((0 : Nat) + xs.length)) (eT.els ys)).length ≤ KS ∧ ∀ (e : Nat), e < (ofC (List.map (fun x => eT.get []) (List.range (min (min ((0 : Nat) + xs.length + ys.length) ((0 : Nat) + xs.length)) (0 : Nat))) ++ eT.lst (min ((0 : Nat) + xs.length + ys.length) ((0 : Nat) + xs.length) - (0 : Nat)) (eT.els xs) ++ eT.lst ((0 : Nat) + xs.length + ys.length - ((0 : Nat) + xs.length)) (eT.els ys))).fst.length → eT.Ok (eT.els (ofC (List.map (fun x => eT.get []) (List.range (min (min ((0 : Nat) + xs.length + ys.length) ((0 : Nat) + xs.length)) (0 : Nat))) ++ eT.lst (min ((0 : Nat) + xs.length + ys.length) ((0 : Nat) + xs.length) - (0 : Nat)) (eT.els xs) ++ eT.lst ((0 : Nat) + xs.length + ys.length - ((0 : Nat) + xs.length)) (eT.els ys))).fst e))
theorem rmt_okS (pre : DA.T aLL → List Prop) (h : ∀ g, DA.bd aLL g → (∀ p ∈ pre g, p) → rmt_side g.1 g.2) : FnPure Try.prog 52 aLL dLE (fun g => rmt_F g.1 g.2) pre := pure_of_sideS (Γ := (MTab.gamz tabY [] [])) (Λ := noΛ) (MTab.okz tabY [] []) noΛ_ok 100 default (fun g => rmt_side g.1 g.2) (fun g => by kernel_rfl) (fun g => by kernel_rfl) h
noncomputable def tabX41 : MTab Try.prog := tabY
end Go.Proofs.Ytiipneclghnfhaa

/- Chapter 3: the document's Insert and Meet: contracts. -/
namespace Go.Proofs.Ytiipneclghnfhaa
open Go.RowKit Go.Sx Go.Lp
theorem chk_len {xs : List T} (h : (chkC xs != 0) = false) : xs.length ≤ 1024 := by
  unfold chkC at h
  by_cases hl : (xs.length : Int) > 1024
  · simp [hl] at h
  · omega
theorem j1_eq (xs : List T) (t : T) : List.map (fun _ => eT.get []) (List.range (min (min (0 + xs.length + 1) (0 + xs.length)) 0)) ++ eT.lst (min (0 + xs.length + 1) (0 + xs.length) - 0) (eT.els xs) ++ List.map (fun _ => t) (List.range (0 + xs.length + 1 - (0 + xs.length))) = xs ++ [t] := by
  have h1 : min (0 + xs.length + 1) (0 + xs.length) = xs.length := by omega
  have h2 : min xs.length 0 = 0 := by omega
  have h3 : 0 + xs.length + 1 - (0 + xs.length) = 1 := by omega
  rw [h1, h2, h3, Nat.sub_zero, eT.lst_els]
  rfl
theorem j2_eq (xs ys : List T) : List.map (fun _ => eT.get []) (List.range (min (min (0 + xs.length + ys.length) (0 + xs.length)) 0)) ++ eT.lst (min (0 + xs.length + ys.length) (0 + xs.length) - 0) (eT.els xs) ++ eT.lst (0 + xs.length + ys.length - (0 + xs.length)) (eT.els ys) = xs ++ ys := jnd_eq xs ys
noncomputable def insC (xs : List T) (t : T) : List T × Bool × Int :=
  bif chkC xs != 0 then ([], false, chkC xs)
  else bif tcheck_F t != 0 then ([], false, tcheck_F t)
  else bif (ofC (xs ++ [t])).2 != 0 then ([], false, (ofC (xs ++ [t])).2)
  else ((ofC (xs ++ [t])).1, !decide ((ofC (xs ++ [t])).1 = xs), 0)
theorem rins_ok : FnPure Try.prog 32 aLT dLBE (fun g => insC g.1 g.2) (fun _ => []) := by
  refine pure_congr (rins_okS _ fun g hb hp => ?_) fun g hb hp => ?_
  · obtain ⟨xs, t⟩ := g
    show rins_side xs t
    unfold rins_side
    simp only [eT.lst_els, j1_eq, bytesT]
    refine ⟨okT _, fun hc _ => ?_⟩
    have hl := chk_len hc
    have ha := okT xs
    have hb := okT (ofC (xs ++ [t])).1
    have hk : (xs ++ [t]).length ≤ KS := by unfold KS; simp; omega
    have ho := fun e => onesT xs e
    unfold maxLen
    repeat' (first | exact ha | exact hb | exact hk | exact ho _ | exact rfl | apply And.intro | intro _)
    all_goals (first | trivial | omega)
  · obtain ⟨xs, t⟩ := g
    show rins_F xs t = insC xs t
    unfold rins_F insC
    simp only [eT.lst_els, j1_eq, rtcheck_eq]
noncomputable def meetC (xs ys : List T) : List T × Int := bif bothC xs ys != 0 then ([], bothC xs ys) else ofC (xs ++ ys)
theorem both_len {xs ys : List T} (h : (bothC xs ys != 0) = false) : xs.length ≤ 1024 ∧ ys.length ≤ 1024 := by
  unfold bothC at h
  cases h1 : (chkC xs != 0) with
  | true => simp only [h1, cond_true] at h; cases h
  | false =>
    simp only [h1, cond_false] at h
    cases h2 : (chkC ys != 0) with
    | true => simp only [h2, cond_true] at h; cases h
    | false => exact ⟨chk_len h1, chk_len h2⟩
theorem rmt_ok : FnPure Try.prog 52 aLL dLE (fun g => meetC g.1 g.2) (fun _ => []) := by
  refine pure_congr (rmt_okS _ fun g hb hp => ?_) fun g hb hp => ?_
  · obtain ⟨xs, ys⟩ := g
    show rmt_side xs ys
    unfold rmt_side
    simp only [eT.lst_els, j2_eq, bytesT]
    have ha := okT xs
    have hb := okT ys
    have hd := okT (ofC (xs ++ ys)).1
    refine ⟨ha, hb, fun hc => ?_⟩
    obtain ⟨hl, hl2⟩ := both_len hc
    have hk : (xs ++ ys).length ≤ KS := by unfold KS; simp; omega
    have ho := fun e => onesT xs e
    have ho2 := fun e => onesT ys e
    unfold maxLen
    repeat' (first | exact ha | exact hb | exact hd | exact hk | exact ho _ | exact ho2 _ | exact rfl | apply And.intro | intro _)
    all_goals (first | trivial | omega)
  · obtain ⟨xs, ys⟩ := g
    show rmt_F xs ys = meetC xs ys
    unfold rmt_F meetC
    simp only [eT.lst_els, j2_eq]
noncomputable def tabZ : PTab Try.prog := (tabXa.cons 32 (pconR aLT dLBE (fun g => insC g.1 g.2) (fun _ => [])) (conR_ok rins_ok)).cons 52 (pconR aLL dLE (fun g => meetC g.1 g.2) (fun _ => [])) (conR_ok rmt_ok)
end Go.Proofs.Ytiipneclghnfhaa

/- Chapter 3: chain.Of is the document's: its contract. -/
namespace Go.Proofs.Ytiipneclghnfhaa
open Go.RowKit Go.Sx Go.Lp
theorem cl0 (xs : List T) : List.map (fun _ => eT.get []) (List.range (min (0 + xs.length) 0)) ++ eT.lst (0 + xs.length - 0) (eT.els xs) = xs := by
  have h2 : min (0 + xs.length) 0 = 0 := by omega
  rw [h2, show 0 + xs.length - 0 = xs.length by omega, eT.lst_els]
  rfl
theorem srt_len (xs : List T) : (srtBy cfT xs).length = xs.length := (List.mergeSort_perm _ _).length_eq
theorem dd_len : ∀ (r : List T) (p : T), (dd p r).length ≤ r.length
  | [], _ => Nat.le_refl _
  | y :: r, p => by
    unfold dd
    split
    · exact Nat.le_succ_of_le (dd_len r _)
    · exact Nat.succ_le_succ (dd_len r _)
theorem comp_len (xs : List T) : (compL xs).length ≤ xs.length := by
  cases xs with
  | nil => exact Nat.le_refl _
  | cons x r => exact Nat.succ_le_succ (dd_len r x)
theorem cof_q (xs : List T) (h : xs.length ≤ KS) : ∃ a b c d, cof_q1 xs = (.exit 0, minsT xs, a, b, c, d) := by
  unfold cof_q1
  simp only [cl0, eT.lst_els]
  have hl : (compL (srtBy cfT xs)).length ≤ KS := Nat.le_trans (comp_len _) (by rw [srt_len]; exact h)
  have h1 := of2_run (compL (srtBy cfT xs)) hl
  rw [greedy_mins poT toT] at h1
  exact ⟨_, _, _, _, h1⟩
theorem cof_q0 (xs : List T) : ∃ a b c d, cof_q2 xs = (.exit 0, [], a, b, c, d) := ⟨_, _, _, _, of2_run [] (Nat.zero_le _)⟩
theorem cof_eq (xs : List T) (h : xs.length ≤ KS) : cof_F xs = ofC xs ∧ cof_side xs := by
  have hm : xs.length ≤ 1000000 := h
  have hl : (compL (srtBy cfT xs)).length ≤ KS := Nat.le_trans (comp_len _) (by rw [srt_len]; exact h)
  have hl2 : (compL (srtBy cfT xs)).length ≤ maxLen := Nat.le_trans hl (by unfold KS maxLen; omega)
  obtain ⟨a, b, c, d, h1⟩ := cof_q xs h
  obtain ⟨a', b', c', d', h2⟩ := cof_q0 xs
  unfold cof_F cof_side
  rw [h1, h2]
  simp only [cl0, eT.lst_els, bytesT]
  refine ⟨rfl, okT xs, fun _ cs hcs => ⟨fun hc => ?_, fun _ => ?_⟩⟩
  · have hx : xs = [] := List.length_eq_zero_iff.1 (hcs (by cases hh : cs.isEmpty with
      | true => rw [hh] at hc; cases hc
      | false => rfl))
    subst hx
    refine ⟨trivial, fun e he => by omega, by omega, trivial, fun e he => by omega, fun _ _ => trivial, ?_, fun hc => (by cases hc), fun _ => ⟨fun hc => (by cases hc), fun _ => ⟨Nat.le_refl _, fun _ _ => trivial, fun _ => rfl⟩⟩⟩
    exact ixJ0 (lim := fun c : of2_GC => c.2.1) (xs := fun c : of2_GC => c.1) (P := of2_K) (c := ([], 0, 0)) (b := []) rfl (Nat.zero_le _) ⟨Nat.zero_le _, Int.le_refl _, rfl⟩
  · refine ⟨⟨Nat.le_refl _, fun e _ => onesT xs e, by unfold maxLen; omega, by omega⟩, trivial, fun e he => by omega, fun _ _ => trivial, by omega, by rw [show (fun a b => tcmp_F a b) = cfT from rfl, srt_len]; omega, fun _ _ => trivial, fun _ _ => trivial, ?_, fun hc => (by cases hc), fun _ => ⟨fun hc d => ?_, fun hc => ⟨Nat.le_refl _, fun _ _ => trivial, fun d => ?_⟩⟩⟩
    · exact ixJ0 (lim := fun c : of2_GC => c.2.1) (xs := fun c : of2_GC => c.1) (P := of2_K) (c := (compL (srtBy cfT xs), ((compL (srtBy cfT xs)).length : Int), (compL (srtBy cfT xs)).length)) (b := []) rfl hl2 ⟨hl, Int.le_refl _, rfl⟩
    · rw [hc]; rfl
    · rw [hc]; rfl
theorem cof_ok : FnPure Try.prog 18 aL dLE ofC (fun g => [g.length ≤ KS]) :=
  pure_congr (cof_okS _ fun g _ hp => (cof_eq g (hp _ (List.mem_cons_self ..))).2) fun g _ hp => (cof_eq g (hp _ (List.mem_cons_self ..))).1
noncomputable def tabA : MTab Try.prog := ((MTab.of tabZ).consM 31 (lconR eT DA.none dLE (fun g => ofC g.1) (fun g => [g.1.length ≤ KS])) (conL_ok (pure_none rof_ok))).consM 18 (lconR eT DA.none dLE (fun g => ofC g.1) (fun g => [g.1.length ≤ KS])) (conL_ok (pure_none cof_ok))
end Go.Proofs.Ytiipneclghnfhaa

/- Chapter 3: lists of times as texts: the contract. -/
namespace Go.Proofs.Ytiipneclghnfhaa
open Go.RowKit Go.Sx Go.Lp
theorem txt_eq (xs : List T) (h : xs.length ≤ KS) : txt_F xs = txC xs ∧ txt_side xs := by
  have hm : xs.length ≤ maxLen := by unfold KS at h; unfold maxLen; omega
  obtain ⟨i, h1⟩ := tl_run xs h
  have hs := scan_sz (xs, (xs.length : Int)) xs 0 (ByteArray.mk #[(123 : UInt8)])
  have hb : (ByteArray.mk #[(123 : UInt8)]).size = 1 := rfl
  unfold txt_F txt_side txt_q1 txC
  rw [eT.lst_els]
  have h1 : loopF (fun g : tl_G => tl_R g.1 g.2.1 g.2.2.1 g.2.2.2) tl_M (xs, (xs.length : Int), 0, ByteArray.mk #[(123 : UInt8)]) = _ := h1
  rw [h1]
  refine ⟨rfl, okT xs, ?_, ?_⟩
  · exact ixJ0 (lim := fun c : tl_GC => c.2) (xs := fun c : tl_GC => c.1) (P := tl_K) (c := (xs, (xs.length : Int))) (b := ByteArray.mk #[(123 : UInt8)]) rfl hm ⟨h, by show (1 : Int) ≤ 60 * 0 + 1; omega⟩
  · unfold KS at h
    show (scan 0 (tl_S (xs, (xs.length : Int))) 0 xs (ByteArray.mk #[(123 : UInt8)])).2.2.size + 1 ≤ _
    omega
theorem txt_ok : FnPure Try.prog 57 aL dStr txC (fun g => [g.length ≤ KS]) :=
  pure_congr (txt_okS _ fun g _ hp => (txt_eq g (hp _ (List.mem_cons_self ..))).2) fun g _ hp => (txt_eq g (hp _ (List.mem_cons_self ..))).1
noncomputable def tabB : MTab Try.prog := tabA.cons 57 (pconP aL dStr txC (fun g => [g.length ≤ KS])) (conP_ok txt_ok puStr)
abbrev aLB : DA (List T) := .one (.listB eT)
theorem cof_okB : FnPure Try.prog 18 aLB dLE ofC (fun g => [g.length ≤ KS]) := cof_ok
/-- For lists that are written out. -/
noncomputable def tabBk : MTab Try.prog := tabB.consM 18 (fconR aLB dLE ofC (fun g => [g.length ≤ KS])) (fconR_ok cof_okB)
end Go.Proofs.Ytiipneclghnfhaa

/- Chapter 3: the self-test. Printed by treegen.py. -/
namespace Go.Proofs.Ytiipneclghnfhaa
open Go.RowKit Go.Sx
set_option maxRecDepth 100000
set_option linter.unusedVariables false
noncomputable def lv_F (_u : Unit) : Dv.T dBool :=
  (ofC [T.mk (2 : Int) (1 : Int) (2 : Int) (0 : Int) (0 : Int) (0 : Int), T.mk (1 : Int) (1 : Int) (2 : Int) (0 : Int) (0 : Int) (0 : Int), T.mk (2 : Int) (1 : Int) (1 : Int) (0 : Int) (0 : Int) (0 : Int)]).snd == (0 : Int) && (decide (txC [(ofC [T.mk (2 : Int) (1 : Int) (2 : Int) (0 : Int) (0 : Int) (0 : Int), T.mk (1 : Int) (1 : Int) (2 : Int) (0 : Int) (0 : Int) (0 : Int), T.mk (2 : Int) (1 : Int) (1 : Int) (0 : Int) (0 : Int) (0 : Int)]).fst.getD (0 : Nat) eT.dflt, (ofC [T.mk (2 : Int) (1 : Int) (2 : Int) (0 : Int) (0 : Int) (0 : Int), T.mk (1 : Int) (1 : Int) (2 : Int) (0 : Int) (0 : Int) (0 : Int), T.mk (2 : Int) (1 : Int) (1 : Int) (0 : Int) (0 : Int) (0 : Int)]).fst.getD (1 : Nat) eT.dflt] = ByteArray.mk #[(123 : UInt8), (49 : UInt8), (46 : UInt8), (50 : UInt8), (44 : UInt8), (50 : UInt8), (46 : UInt8), (49 : UInt8), (125 : UInt8)]) && (([(ofC [T.mk (2 : Int) (1 : Int) (2 : Int) (0 : Int) (0 : Int) (0 : Int), T.mk (1 : Int) (1 : Int) (2 : Int) (0 : Int) (0 : Int) (0 : Int), T.mk (2 : Int) (1 : Int) (1 : Int) (0 : Int) (0 : Int) (0 : Int)]).fst.getD (0 : Nat) eT.dflt, (ofC [T.mk (2 : Int) (1 : Int) (2 : Int) (0 : Int) (0 : Int) (0 : Int), T.mk (1 : Int) (1 : Int) (2 : Int) (0 : Int) (0 : Int) (0 : Int), T.mk (2 : Int) (1 : Int) (1 : Int) (0 : Int) (0 : Int) (0 : Int)]).fst.getD (1 : Nat) eT.dflt].any fun x => tleq_F x (T.mk (3 : Int) (1 : Int) (1 : Int) (0 : Int) (0 : Int) (0 : Int))) && ![(ofC [T.mk (2 : Int) (1 : Int) (2 : Int) (0 : Int) (0 : Int) (0 : Int), T.mk (1 : Int) (1 : Int) (2 : Int) (0 : Int) (0 : Int) (0 : Int), T.mk (2 : Int) (1 : Int) (1 : Int) (0 : Int) (0 : Int) (0 : Int)]).fst.getD (0 : Nat) eT.dflt, (ofC [T.mk (2 : Int) (1 : Int) (2 : Int) (0 : Int) (0 : Int) (0 : Int), T.mk (1 : Int) (1 : Int) (2 : Int) (0 : Int) (0 : Int) (0 : Int), T.mk (2 : Int) (1 : Int) (1 : Int) (0 : Int) (0 : Int) (0 : Int)]).fst.getD (1 : Nat) eT.dflt].any fun x => tleq_F x (T.mk (1 : Int) (1 : Int) (1 : Int) (0 : Int) (0 : Int) (0 : Int))))
def lv_side (_u : Unit) : Prop :=
  (3 : Nat) ≤ KS ∧ (((ofC [T.mk (2 : Int) (1 : Int) (2 : Int) (0 : Int) (0 : Int) (0 : Int), T.mk (1 : Int) (1 : Int) (2 : Int) (0 : Int) (0 : Int) (0 : Int), T.mk (2 : Int) (1 : Int) (1 : Int) (0 : Int) (0 : Int) (0 : Int)]).snd == (0 : Int)) = true → ∀ (e : Nat), e < (2 : Nat) → eT.Ok (eT.els (ofC [T.mk (2 : Int) (1 : Int) (2 : Int) (0 : Int) (0 : Int) (0 : Int), T.mk (1 : Int) (1 : Int) (2 : Int) (0 : Int) (0 : Int) (0 : Int), T.mk (2 : Int) (1 : Int) (1 : Int) (0 : Int) (0 : Int) (0 : Int)]).fst e)) ∧ (((ofC [T.mk (2 : Int) (1 : Int) (2 : Int) (0 : Int) (0 : Int) (0 : Int), T.mk (1 : Int) (1 : Int) (2 : Int) (0 : Int) (0 : Int) (0 : Int), T.mk (2 : Int) (1 : Int) (1 : Int) (0 : Int) (0 : Int) (0 : Int)]).snd == (0 : Int)) = true → (2 : Nat) ≤ KS) ∧ (((ofC [T.mk (2 : Int) (1 : Int) (2 : Int) (0 : Int) (0 : Int) (0 : Int), T.mk (1 : Int) (1 : Int) (2 : Int) (0 : Int) (0 : Int) (0 : Int), T.mk (2 : Int) (1 : Int) (1 : Int) (0 : Int) (0 : Int) (0 : Int)]).snd == (0 : Int)) = true → decide (txC [(ofC [T.mk (2 : Int) (1 : Int) (2 : Int) (0 : Int) (0 : Int) (0 : Int), T.mk (1 : Int) (1 : Int) (2 : Int) (0 : Int) (0 : Int) (0 : Int), T.mk (2 : Int) (1 : Int) (1 : Int) (0 : Int) (0 : Int) (0 : Int)]).fst.getD (0 : Nat) eT.dflt, (ofC [T.mk (2 : Int) (1 : Int) (2 : Int) (0 : Int) (0 : Int) (0 : Int), T.mk (1 : Int) (1 : Int) (2 : Int) (0 : Int) (0 : Int) (0 : Int), T.mk (2 : Int) (1 : Int) (1 : Int) (0 : Int) (0 : Int) (0 : Int)]).fst.getD (1 : Nat) eT.dflt] = ByteArray.mk #[(123 : UInt8), (49 : UInt8), (46 : UInt8), (50 : UInt8), (44 : UInt8), (50 : UInt8), (46 : UInt8), (49 : UInt8), (125 : UInt8)]) = true → ∀ (e : Nat), e < (2 : Nat) → eT.Ok (eT.els (ofC [T.mk (2 : Int) (1 : Int) (2 : Int) (0 : Int) (0 : Int) (0 : Int), T.mk (1 : Int) (1 : Int) (2 : Int) (0 : Int) (0 : Int) (0 : Int), T.mk (2 : Int) (1 : Int) (1 : Int) (0 : Int) (0 : Int) (0 : Int)]).fst e)) ∧ (((ofC [T.mk (2 : Int) (1 : Int) (2 : Int) (0 : Int) (0 : Int) (0 : Int), T.mk (1 : Int) (1 : Int) (2 : Int) (0 : Int) (0 : Int) (0 : Int), T.mk (2 : Int) (1 : Int) (1 : Int) (0 : Int) (0 : Int) (0 : Int)]).snd == (0 : Int)) = true → decide (txC [(ofC [T.mk (2 : Int) (1 : Int) (2 : Int) (0 : Int) (0 : Int) (0 : Int), T.mk (1 : Int) (1 : Int) (2 : Int) (0 : Int) (0 : Int) (0 : Int), T.mk (2 : Int) (1 : Int) (1 : Int) (0 : Int) (0 : Int) (0 : Int)]).fst.getD (0 : Nat) eT.dflt, (ofC [T.mk (2 : Int) (1 : Int) (2 : Int) (0 : Int) (0 : Int) (0 : Int), T.mk (1 : Int) (1 : Int) (2 : Int) (0 : Int) (0 : Int) (0 : Int), T.mk (2 : Int) (1 : Int) (1 : Int) (0 : Int) (0 : Int) (0 : Int)]).fst.getD (1 : Nat) eT.dflt] = ByteArray.mk #[(123 : UInt8), (49 : UInt8), (46 : UInt8), (50 : UInt8), (44 : UInt8), (50 : UInt8), (46 : UInt8), (49 : UInt8), (125 : UInt8)]) = true → ([(ofC [T.mk (2 : Int) (1 : Int) (2 : Int) (0 : Int) (0 : Int) (0 : Int), T.mk (1 : Int) (1 : Int) (2 : Int) (0 : Int) (0 : Int) (0 : Int), T.mk (2 : Int) (1 : Int) (1 : Int) (0 : Int) (0 : Int) (0 : Int)]).fst.getD (0 : Nat) eT.dflt, (ofC [T.mk (2 : Int) (1 : Int) (2 : Int) (0 : Int) (0 : Int) (0 : Int), T.mk (1 : Int) (1 : Int) (2 : Int) (0 : Int) (0 : Int) (0 : Int), T.mk (2 : Int) (1 : Int) (1 : Int) (0 : Int) (0 : Int) (0 : Int)]).fst.getD (1 : Nat) eT.dflt].any fun x => tleq_F x (T.mk (3 : Int) (1 : Int) (1 : Int) (0 : Int) (0 : Int) (0 : Int))) = true → ∀ (e : Nat), e < (2 : Nat) → eT.Ok (eT.els (ofC [T.mk (2 : Int) (1 : Int) (2 : Int) (0 : Int) (0 : Int) (0 : Int), T.mk (1 : Int) (1 : Int) (2 : Int) (0 : Int) (0 : Int) (0 : Int), T.mk (2 : Int) (1 : Int) (1 : Int) (0 : Int) (0 : Int) (0 : Int)]).fst e))
theorem lv_okS (pre : DA.T DA.none → List Prop) (h : ∀ g, DA.bd DA.none g → (∀ p ∈ pre g, p) → lv_side g) : FnPure Try.prog 16 DA.none dBool (fun g => lv_F g) pre := pure_of_sideS (Γ := (MTab.gamz tabBk [] [])) (Λ := noΛ) (MTab.okz tabBk [] []) noΛ_ok 100 default (fun g => lv_side g) (fun g => by kernel_rfl) (fun g => by kernel_rfl) h
noncomputable def tabXD10 : MTab Try.prog := tabBk
end Go.Proofs.Ytiipneclghnfhaa

/- Chapter 3: the self-test holds. -/
namespace Go.Proofs.Ytiipneclghnfhaa
open Go.RowKit Go.Sx Go.Lp
set_option maxRecDepth 100000
theorem lv_of : ofC [T.mk (2 : Int) (1 : Int) (2 : Int) (0 : Int) (0 : Int) (0 : Int), T.mk (1 : Int) (1 : Int) (2 : Int) (0 : Int) (0 : Int) (0 : Int), T.mk (2 : Int) (1 : Int) (1 : Int) (0 : Int) (0 : Int) (0 : Int)] = ([T.mk 1 1 2 0 0 0, T.mk 2 1 1 0 0 0], 0) := by kernel_rfl
theorem lv_tx : txC [T.mk 1 1 2 0 0 0, T.mk 2 1 1 0 0 0] = ByteArray.mk #[(123 : UInt8), (49 : UInt8), (46 : UInt8), (50 : UInt8), (44 : UInt8), (50 : UInt8), (46 : UInt8), (49 : UInt8), (125 : UInt8)] := by kernel_rfl
theorem lv_eq (u : Unit) : lv_F u = true := by
  unfold lv_F
  rw [lv_of]
  simp only [List.getD_cons_zero, List.getD_cons_succ, lv_tx, decide_true]
  kernel_rfl
end Go.Proofs.Ytiipneclghnfhaa

/- Chapter 3: the self-test: its contract. -/
namespace Go.Proofs.Ytiipneclghnfhaa
open Go.RowKit Go.Sx Go.Lp
theorem lv_si (u : Unit) : lv_side u := by
  have h1 := okT [T.mk 1 1 2 0 0 0, T.mk 2 1 1 0 0 0]
  unfold lv_side
  rw [lv_of]
  unfold KS
  repeat' (first | exact h1 | apply And.intro | intro _)
  all_goals (first | exact h1 | omega | trivial)
theorem lv_ok : FnPure Try.prog 16 .none dBool (fun _ => true) (fun _ => []) :=
  pure_congr (lv_okS _ fun g _ _ => lv_si g) fun g _ _ => lv_eq g
noncomputable def tabC : MTab Try.prog := tabB.cons 16 (pconP .none dBool (fun _ => true) (fun _ => [])) (conP_ok lv_ok puB)
end Go.Proofs.Ytiipneclghnfhaa

/- Chapter 3: behind paths: the inner loops. Printed by treegen.py. -/
namespace Go.Proofs.Ytiipneclghnfhaa
open Go.RowKit Go.Sx
set_option maxRecDepth 100000
set_option linter.unusedVariables false
abbrev dLS : Dv (List S) := .list eS
abbrev ti_G : Type := List T × Int × Int × Unit × S × List T × Unit × Int
noncomputable def ti_LP : LP 2 ti_G := .pair (.slot 2 25 dLT) (.pair (.slot 2 26 dI) (.pair (.slot 2 27 dI) (.pair (.fix 2 9 (.p 1 0)) (.pair (.obj 2 1 102 eS) (.pair (.row 2 7 30 eT) (.pair (.fix 2 4 (.k (.slice none 0 0))) (.slot 2 5 dI)))))))
noncomputable def ti_R (l : List T) (n : Int) (i : Int) (_u : Unit) (x : S) (all : List T) (_u2 : Unit) (er : Int) : Ex × ti_G :=
  bif decide (i < n) then bif (applyF x (l.getD i.toNat eT.dflt)).snd != (0 : Int) then (Ex.ret, eT.lst l.length (eT.els l), n, i, (), x, eT.lst all.length (eT.els all), (), (applyF x (l.getD i.toNat eT.dflt)).snd) else (Ex.normal, eT.lst l.length (eT.els l), n, IntKind.i64.wrap (i + (1 : Int)), (), x, eT.lst (min (all.length + (1 : Nat)) all.length) (eT.els all) ++ List.map (fun x_1 => (applyF x (l.getD i.toNat eT.dflt)).fst) (List.range (all.length + (1 : Nat) - all.length)), (), er)
  else (Ex.exit (2 : Nat), eT.lst l.length (eT.els l), n, i, (), x, eT.lst all.length (eT.els all), (), er)
def ti_side (l : List T) (n : Int) (i : Int) (_u : Unit) (x : S) (all : List T) (_u2 : Unit) (er : Int) : Prop :=
  (decide (i < n) = true → ((0 : Int) ≤ i ∧ i < (↑l.length : Int)) ∧ (((applyF x (l.getD i.toNat eT.dflt)).snd != (0 : Int)) = true → (∀ (e : Nat), e < l.length → eT.Ok (eT.els l e)) ∧ all.length ≤ all.length ∧ ∀ (e : Nat), e < all.length → True) ∧ (((applyF x (l.getD i.toNat eT.dflt)).snd != (0 : Int)) = false → (all.length ≤ all.length ∧ True ∧ all.length + (1 : Nat) ≤ maxLen ∧ (all.length + (1 : Nat)) * Try.prog.types[(30 : Nat)].bytes ≤ (140737488355328 : Nat)) ∧ (∀ (e : Nat), e < l.length → eT.Ok (eT.els l e)) ∧ all.length + (1 : Nat) ≤ all.length + (1 : Nat) ∧ (∀ (e : Nat), e < min (all.length + (1 : Nat)) all.length → True) ∧ ∀ (e : Nat), e < all.length + (1 : Nat) - all.length → True)) ∧ (decide (i < n) = false → (∀ (e : Nat), e < l.length → eT.Ok (eT.els l e)) ∧ all.length ≤ all.length ∧ ∀ (e : Nat), e < all.length → True)
theorem ti_one : ((loopsOf Try.prog 35).filter fun c => Nat.beq (lkey c) 9).length = 1 := by kernel_rfl
abbrev ti_GC : Type := List T × Int × S
abbrev ti_GB : Type := Unit × List T × Unit × Int
def ti_f (g : ti_G) : Int × ti_GC × ti_GB := (g.2.2.1, (g.1, g.2.1, g.2.2.2.2.1), (g.2.2.2.1, g.2.2.2.2.2.1, g.2.2.2.2.2.2.1, g.2.2.2.2.2.2.2))
def ti_g (d : Int × ti_GC × ti_GB) : ti_G := (d.2.1.1, d.2.1.2.1, d.1, d.2.2.1, d.2.1.2.2, d.2.2.2.1, d.2.2.2.2.1, d.2.2.2.2.2)
theorem ti_es (g : ti_G) : (ti_R g.1 g.2.1 g.2.2.1 g.2.2.2.1 g.2.2.2.2.1 g.2.2.2.2.2.1 g.2.2.2.2.2.2.1 g.2.2.2.2.2.2.2).1 = .normal ∨ (ti_R g.1 g.2.1 g.2.2.1 g.2.2.2.1 g.2.2.2.2.1 g.2.2.2.2.2.1 g.2.2.2.2.2.2.1 g.2.2.2.2.2.2.2).1 ∈ ([.ret, .exit 2] : List Ex) := by
  unfold ti_R
  repeat' (first | (left; rfl) | (right; simp only [cond_true, cond_false]; simp; done) | (rw [Bool.cond_eq_ite]; split))
noncomputable abbrev ti_C (Inv : ti_G → List Prop) (m : ti_G → Nat) : LCon := loopR [.ret, .exit 2] (loopBody Try.prog 35 9) ti_LP [] 50 Inv (fun g => ti_R g.1 g.2.1 g.2.2.1 g.2.2.2.1 g.2.2.2.2.1 g.2.2.2.2.2.1 g.2.2.2.2.2.2.1 g.2.2.2.2.2.2.2) m
theorem ti_loop (Inv : ti_G → List Prop) (m : ti_G → Nat) (hs : ∀ g, allP (Inv g) → ti_side g.1 g.2.1 g.2.2.1 g.2.2.2.1 g.2.2.2.2.1 g.2.2.2.2.2.1 g.2.2.2.2.2.2.1 g.2.2.2.2.2.2.2) (hg : Goes (fun g : ti_G => ti_R g.1 g.2.1 g.2.2.1 g.2.2.2.1 g.2.2.2.2.1 g.2.2.2.2.2.1 g.2.2.2.2.2.2.1 g.2.2.2.2.2.2.2) m fun g => allP (Inv g)) : ∀ b ∈ loopsOf Try.prog 35, lkey b = 9 → LoopOk Try.prog b (ti_C Inv m).g := loop_run (Γ := (MTab.gamz tabC [] [])) (Λ := noΛ) (MTab.okz tabC [] []) noΛ_ok 100 35 9 50 ti_LP [] Inv (fun g => ti_R g.1 g.2.1 g.2.2.1 g.2.2.2.1 g.2.2.2.2.1 g.2.2.2.2.2.1 g.2.2.2.2.2.2.1 g.2.2.2.2.2.2.2) (fun g => ti_side g.1 g.2.1 g.2.2.1 g.2.2.2.1 g.2.2.2.2.1 g.2.2.2.2.2.1 g.2.2.2.2.2.2.1 g.2.2.2.2.2.2.2) m default [.ret, .exit 2] ti_one (fun rd T B HL HB ds g => by kernel_rfl) (fun rd T B HL HB ds g => by kernel_rfl) hs hg ti_es
abbrev ri_G : Type := List T × List S × Int × Int × List T × Unit × Int
noncomputable def ri_LP : LP 1 ri_G := .pair (.slot 1 0 dLT) (.pair (.slot 1 1 dLS) (.pair (.slot 1 8 dI) (.pair (.slot 1 9 dI) (.pair (.row 1 7 30 eT) (.pair (.fix 1 4 (.k (.slice none 0 0))) (.slot 1 5 dI))))))
noncomputable def ri_R (l : List T) (ss : List S) (k : Int) (i : Int) (all : List T) (_u2 : Unit) (er : Int) : Ex × ri_G :=
  bif decide (i < (↑l.length : Int)) then bif (applyF (ss.getD k.toNat eS.dflt) (l.getD i.toNat eT.dflt)).snd != (0 : Int) then (Ex.ret, eT.lst l.length (eT.els l), eS.lst ss.length (eS.els ss), k, i, eT.lst all.length (eT.els all), (), (applyF (ss.getD k.toNat eS.dflt) (l.getD i.toNat eT.dflt)).snd) else (Ex.normal, eT.lst l.length (eT.els l), eS.lst ss.length (eS.els ss), k, IntKind.i64.wrap (i + (1 : Int)), eT.lst (min (all.length + (1 : Nat)) all.length) (eT.els all) ++ List.map (fun x => (applyF (ss.getD k.toNat eS.dflt) (l.getD i.toNat eT.dflt)).fst) (List.range (all.length + (1 : Nat) - all.length)), (), er)
  else (Ex.exit (2 : Nat), eT.lst l.length (eT.els l), eS.lst ss.length (eS.els ss), k, i, eT.lst all.length (eT.els all), (), er)
def ri_side (l : List T) (ss : List S) (k : Int) (i : Int) (all : List T) (_u2 : Unit) (er : Int) : Prop :=
  (decide (i < (↑l.length : Int)) = true → ((0 : Int) ≤ k ∧ k < (↑ss.length : Int)) ∧ ((0 : Int) ≤ i ∧ i < (↑l.length : Int)) ∧ (((applyF (ss.getD k.toNat eS.dflt) (l.getD i.toNat eT.dflt)).snd != (0 : Int)) = true → (∀ (e : Nat), e < l.length → eT.Ok (eT.els l e)) ∧ (∀ (e : Nat), e < ss.length → eS.Ok (eS.els ss e)) ∧ all.length ≤ all.length ∧ ∀ (e : Nat), e < all.length → True) ∧ (((applyF (ss.getD k.toNat eS.dflt) (l.getD i.toNat eT.dflt)).snd != (0 : Int)) = false → (all.length ≤ all.length ∧ True ∧ all.length + (1 : Nat) ≤ maxLen ∧ (all.length + (1 : Nat)) * Try.prog.types[(30 : Nat)].bytes ≤ (140737488355328 : Nat)) ∧ (∀ (e : Nat), e < l.length → eT.Ok (eT.els l e)) ∧ (∀ (e : Nat), e < ss.length → eS.Ok (eS.els ss e)) ∧ all.length + (1 : Nat) ≤ all.length + (1 : Nat) ∧ (∀ (e : Nat), e < min (all.length + (1 : Nat)) all.length → True) ∧ ∀ (e : Nat), e < all.length + (1 : Nat) - all.length → True)) ∧ (decide (i < (↑l.length : Int)) = false → (∀ (e : Nat), e < l.length → eT.Ok (eT.els l e)) ∧ (∀ (e : Nat), e < ss.length → eS.Ok (eS.els ss e)) ∧ all.length ≤ all.length ∧ ∀ (e : Nat), e < all.length → True)
theorem ri_one : ((loopsOf Try.prog 36).filter fun c => Nat.beq (lkey c) 9).length = 1 := by kernel_rfl
abbrev ri_GC : Type := List T × List S × Int
abbrev ri_GB : Type := List T × Unit × Int
def ri_f (g : ri_G) : Int × ri_GC × ri_GB := (g.2.2.2.1, (g.1, g.2.1, g.2.2.1), (g.2.2.2.2.1, g.2.2.2.2.2.1, g.2.2.2.2.2.2))
def ri_g (d : Int × ri_GC × ri_GB) : ri_G := (d.2.1.1, d.2.1.2.1, d.2.1.2.2, d.1, d.2.2.1, d.2.2.2.1, d.2.2.2.2)
theorem ri_es (g : ri_G) : (ri_R g.1 g.2.1 g.2.2.1 g.2.2.2.1 g.2.2.2.2.1 g.2.2.2.2.2.1 g.2.2.2.2.2.2).1 = .normal ∨ (ri_R g.1 g.2.1 g.2.2.1 g.2.2.2.1 g.2.2.2.2.1 g.2.2.2.2.2.1 g.2.2.2.2.2.2).1 ∈ ([.ret, .exit 2] : List Ex) := by
  unfold ri_R
  repeat' (first | (left; rfl) | (right; simp only [cond_true, cond_false]; simp; done) | (rw [Bool.cond_eq_ite]; split))
noncomputable abbrev ri_C (Inv : ri_G → List Prop) (m : ri_G → Nat) : LCon := loopR [.ret, .exit 2] (loopBody Try.prog 36 9) ri_LP [] 52 Inv (fun g => ri_R g.1 g.2.1 g.2.2.1 g.2.2.2.1 g.2.2.2.2.1 g.2.2.2.2.2.1 g.2.2.2.2.2.2) m
theorem ri_loop (Inv : ri_G → List Prop) (m : ri_G → Nat) (hs : ∀ g, allP (Inv g) → ri_side g.1 g.2.1 g.2.2.1 g.2.2.2.1 g.2.2.2.2.1 g.2.2.2.2.2.1 g.2.2.2.2.2.2) (hg : Goes (fun g : ri_G => ri_R g.1 g.2.1 g.2.2.1 g.2.2.2.1 g.2.2.2.2.1 g.2.2.2.2.2.1 g.2.2.2.2.2.2) m fun g => allP (Inv g)) : ∀ b ∈ loopsOf Try.prog 36, lkey b = 9 → LoopOk Try.prog b (ri_C Inv m).g := loop_run (Γ := (MTab.gamz tabC [] [])) (Λ := noΛ) (MTab.okz tabC [] []) noΛ_ok 100 36 9 52 ri_LP [] Inv (fun g => ri_R g.1 g.2.1 g.2.2.1 g.2.2.2.1 g.2.2.2.2.1 g.2.2.2.2.2.1 g.2.2.2.2.2.2) (fun g => ri_side g.1 g.2.1 g.2.2.1 g.2.2.2.1 g.2.2.2.2.1 g.2.2.2.2.2.1 g.2.2.2.2.2.2) m default [.ret, .exit 2] ri_one (fun rd T B HL HB ds g => by kernel_rfl) (fun rd T B HL HB ds g => by kernel_rfl) hs hg ri_es
noncomputable def tabXF8 : MTab Try.prog := tabC
end Go.Proofs.Ytiipneclghnfhaa

/- Chapter 3: behind paths: the inner loops' contracts. -/
namespace Go.Proofs.Ytiipneclghnfhaa
open Go.RowKit Go.Sx Go.Lp
/-- A list of times behind one path, put behind what is there; and what is wrong. -/
noncomputable def thI (x : S) : List T → List T → List T × Int
  | [], all => (all, 0)
  | v :: l, all => bif (applyF x v).2 != 0 then (all, (applyF x v).2) else thI x l (all ++ [(applyF x v).1])
theorem thI_len (x : S) : ∀ (l all : List T), (thI x l all).1.length ≤ all.length + l.length
  | [], all => Nat.le_refl _
  | v :: l, all => by
    unfold thI
    cases (applyF x v).2 != 0
    · have := thI_len x l (all ++ [(applyF x v).1])
      simp only [cond_false, List.length_append, List.length_cons, List.length_nil] at *
      omega
    · simp only [cond_true, List.length_cons]
      omega
/-! ### chain.Through -/
noncomputable def ti_S (c : ti_GC) (b : ti_GB) (_ : Int) (v : T) : Ex × ti_GB := bif (applyF c.2.2 v).2 != 0 then (.ret, (), b.2.1, (), (applyF c.2.2 v).2) else (.normal, (), b.2.1 ++ [(applyF c.2.2 v).1], (), b.2.2.2)
def ti_K (c : ti_GC) (b : ti_GB) (i : Int) : Prop := c.1.length ≤ 1000 ∧ (b.2.1.length : Int) ≤ 1000000 + i
abbrev ti_I (g : ti_G) : List Prop := ixI (fun c : ti_GC => c.2.1) (fun c => c.1) ti_K (ti_f g)
abbrev ti_M (g : ti_G) : Nat := ixM (fun c : ti_GC => c.2.1) (ti_f g)
theorem ti_P : ixP ti_S (fun c : ti_GC => c.1) ti_K := by
  rintro ⟨l, n, x⟩ ⟨⟨⟩, all, ⟨⟩, e⟩ i a ⟨h2, h3⟩ _ _
  refine ⟨h2, ?_⟩
  have h3 : (all.length : Int) ≤ 1000000 + (i : Int) := h3
  show ((ti_S (l, n, x) ((), all, (), e) i a).2.2.1.length : Int) ≤ 1000000 + ((i : Int) + 1)
  unfold ti_S
  cases (applyF x a).2 != 0
  · simp only [cond_false, List.length_append, List.length_singleton]
    omega
  · simp only [cond_true]
    omega
noncomputable abbrev ti_RR (g : ti_G) : Ex × ti_G := ti_R g.1 g.2.1 g.2.2.1 g.2.2.2.1 g.2.2.2.2.1 g.2.2.2.2.2.1 g.2.2.2.2.2.2.1 g.2.2.2.2.2.2.2
theorem ti_RF (d : Int × ti_GC × ti_GB) (_ : allP (ixI (fun c : ti_GC => c.2.1) (fun c => c.1) ti_K d)) : ti_RR (ti_g d) = ((ixF 2 (fun c : ti_GC => c.2.1) (fun c => c.1) eT.dflt ti_S d).1, ti_g (ixF 2 (fun c : ti_GC => c.2.1) (fun c => c.1) eT.dflt ti_S d).2) := by
  obtain ⟨i, ⟨l, n, x⟩, ⟨⟨⟩, all, ⟨⟩, e⟩⟩ := d
  show ti_R l n i () x all () e = _
  unfold ti_R ixF ti_S
  simp only [eT.lst_els, lst_app1]
  cases decide (i < n) with
  | false => rfl
  | true =>
    simp only [cond_true]
    generalize applyF x (l.getD i.toNat eT.dflt) = r
    cases r.2 != 0 <;> rfl
theorem ti_ok : ∀ b ∈ loopsOf Try.prog 35, lkey b = 9 → LoopOk Try.prog b (ti_C ti_I ti_M).g := by
  refine ti_loop ti_I ti_M (fun g hi => ?_) (ix_conj_goes (fun _ => rfl) (fun _ => rfl) ti_RF ti_P)
  obtain ⟨l, n, i, ⟨⟩, x, all, ⟨⟩, e⟩ := g
  obtain ⟨h1, h2, h3, h4, h6, h7⟩ := hi _ (List.mem_cons_self ..)
  have h1 : n = (l.length : Int) := h1
  have h3 : 0 ≤ i := h3
  have h4 : i ≤ (l.length : Int) := h4
  have h6 : l.length ≤ 1000 := h6
  have h7 : (all.length : Int) ≤ 1000000 + i := h7
  have ha := okT l
  clear hi
  show ti_side l n i () x all () e
  unfold ti_side
  simp only [bytesT, decide_eq_true_eq, decide_eq_false_iff_not]
  unfold maxLen
  repeat' (first | exact ha | exact rfl | apply And.intro | intro _)
  all_goals (first | trivial | omega)
theorem ti_scan (l0 : List T) (n : Int) (x : S) : ∀ (l : List T) (i : Int) (all : List T), ∃ j, scan 2 (ti_S (l0, n, x)) i l ((), all, (), 0) = (bif (thI x l all).2 != 0 then .ret else .exit 2, j, (), (thI x l all).1, (), (thI x l all).2)
  | [], i, all => ⟨i, rfl⟩
  | v :: l, i, all => by
    unfold thI
    cases h : (applyF x v).2 != 0 with
    | true =>
      refine ⟨i, ?_⟩
      simp only [cond_true, h]
      unfold scan
      simp only [ti_S, h, cond_true]
    | false =>
      obtain ⟨j, hj⟩ := ti_scan l0 n x l (i + 1) (all ++ [(applyF x v).1])
      refine ⟨j, ?_⟩
      simp only [cond_false]
      rw [← hj]
      conv => lhs; unfold scan
      simp only [ti_S, h, cond_false]
theorem ti_run (l : List T) (x : S) (all : List T) (h2 : l.length ≤ 1000) (h3 : all.length ≤ 1000000) : ∃ j, loopF ti_RR ti_M (l, (l.length : Int), 0, (), x, all, (), 0) = (bif (thI x l all).2 != 0 then .ret else .exit 2, l, (l.length : Int), j, (), x, (thI x l all).1, (), (thI x l all).2) := by
  have hm : l.length ≤ maxLen := by unfold maxLen; omega
  have hr : loopF ti_RR ti_M (l, (l.length : Int), 0, (), x, all, (), 0) = _ := ix_conj_run (φ := ti_f) (ψ := ti_g) (fun _ => rfl) (fun _ => rfl) ti_RF ti_P (l, (l.length : Int), x) ((), all, (), 0) rfl hm ⟨h2, by show (all.length : Int) ≤ 1000000 + 0; omega⟩
  obtain ⟨j, hj⟩ := ti_scan l (l.length : Int) x l 0 all
  refine ⟨j, ?_⟩
  rw [hr]
  show ((scan 2 (ti_S (l, (l.length : Int), x)) 0 l ((), all, (), 0)).1, ti_g ((scan 2 (ti_S (l, (l.length : Int), x)) 0 l ((), all, (), 0)).2.1, (l, (l.length : Int), x), (scan 2 (ti_S (l, (l.length : Int), x)) 0 l ((), all, (), 0)).2.2)) = _
  rw [hj]
  rfl
end Go.Proofs.Ytiipneclghnfhaa

/- Chapter 3: behind paths: the document's inner loop: its contract. -/
namespace Go.Proofs.Ytiipneclghnfhaa
open Go.RowKit Go.Sx Go.Lp
theorem okS (xs : List S) : ∀ e, e < xs.length → eS.Ok (eS.els xs e) := fun e _ => eS.ok_els xs e
noncomputable abbrev atS (ss : List S) (k : Int) : S := ss.getD k.toNat eS.dflt
noncomputable def ri_S (c : ri_GC) (b : ri_GB) (_ : Int) (v : T) : Ex × ri_GB := bif (applyF (atS c.2.1 c.2.2) v).2 != 0 then (.ret, b.1, (), (applyF (atS c.2.1 c.2.2) v).2) else (.normal, b.1 ++ [(applyF (atS c.2.1 c.2.2) v).1], (), b.2.2)
def ri_K (c : ri_GC) (b : ri_GB) (i : Int) : Prop := c.1.length ≤ 1000 ∧ (b.1.length : Int) ≤ 1000000 + i ∧ 0 ≤ c.2.2 ∧ c.2.2 < (c.2.1.length : Int)
abbrev ri_I (g : ri_G) : List Prop := ixI (fun c : ri_GC => (c.1.length : Int)) (fun c => c.1) ri_K (ri_f g)
abbrev ri_M (g : ri_G) : Nat := ixM (fun c : ri_GC => (c.1.length : Int)) (ri_f g)
theorem ri_P : ixP ri_S (fun c : ri_GC => c.1) ri_K := by
  rintro ⟨l, ss, k⟩ ⟨all, ⟨⟩, e⟩ i a ⟨h2, h3, h4, h5⟩ _ _
  refine ⟨h2, ?_, h4, h5⟩
  have h3 : (all.length : Int) ≤ 1000000 + (i : Int) := h3
  show ((ri_S (l, ss, k) (all, (), e) i a).2.1.length : Int) ≤ 1000000 + ((i : Int) + 1)
  unfold ri_S
  cases (applyF (atS ss k) a).2 != 0
  · simp only [cond_false, List.length_append, List.length_singleton]
    omega
  · simp only [cond_true]
    omega
noncomputable abbrev ri_RR (g : ri_G) : Ex × ri_G := ri_R g.1 g.2.1 g.2.2.1 g.2.2.2.1 g.2.2.2.2.1 g.2.2.2.2.2.1 g.2.2.2.2.2.2
theorem ri_RF (d : Int × ri_GC × ri_GB) (_ : allP (ixI (fun c : ri_GC => (c.1.length : Int)) (fun c => c.1) ri_K d)) : ri_RR (ri_g d) = ((ixF 2 (fun c : ri_GC => (c.1.length : Int)) (fun c => c.1) eT.dflt ri_S d).1, ri_g (ixF 2 (fun c : ri_GC => (c.1.length : Int)) (fun c => c.1) eT.dflt ri_S d).2) := by
  obtain ⟨i, ⟨l, ss, k⟩, ⟨all, ⟨⟩, e⟩⟩ := d
  show ri_R l ss k i all () e = _
  unfold ri_R ixF ri_S
  simp only [eT.lst_els, eS.lst_els, lst_app1]
  cases decide (i < (l.length : Int)) with
  | false => rfl
  | true =>
    simp only [cond_true]
    generalize applyF (ss.getD k.toNat eS.dflt) (l.getD i.toNat eT.dflt) = r
    cases r.2 != 0 <;> rfl
theorem ri_ok : ∀ b ∈ loopsOf Try.prog 36, lkey b = 9 → LoopOk Try.prog b (ri_C ri_I ri_M).g := by
  refine ri_loop ri_I ri_M (fun g hi => ?_) (ix_conj_goes (fun _ => rfl) (fun _ => rfl) ri_RF ri_P)
  obtain ⟨l, ss, k, i, all, ⟨⟩, e⟩ := g
  obtain ⟨h1, h2, h3, h4, h6, h7, h8, h9⟩ := hi _ (List.mem_cons_self ..)
  have h3 : 0 ≤ i := h3
  have h4 : i ≤ (l.length : Int) := h4
  have h6 : l.length ≤ 1000 := h6
  have h7 : (all.length : Int) ≤ 1000000 + i := h7
  have h8 : 0 ≤ k := h8
  have h9 : k < (ss.length : Int) := h9
  have ha := okT l
  have hs := okS ss
  clear hi
  show ri_side l ss k i all () e
  unfold ri_side
  simp only [bytesT, decide_eq_true_eq, decide_eq_false_iff_not]
  unfold maxLen
  repeat' (first | exact ha | exact hs | exact rfl | apply And.intro | intro _)
  all_goals (first | trivial | omega)
theorem ri_scan (l0 : List T) (ss : List S) (k : Int) : ∀ (l : List T) (i : Int) (all : List T), ∃ j, scan 2 (ri_S (l0, ss, k)) i l (all, (), 0) = (bif (thI (atS ss k) l all).2 != 0 then .ret else .exit 2, j, (thI (atS ss k) l all).1, (), (thI (atS ss k) l all).2)
  | [], i, all => ⟨i, rfl⟩
  | v :: l, i, all => by
    unfold thI
    cases h : (applyF (atS ss k) v).2 != 0 with
    | true =>
      refine ⟨i, ?_⟩
      simp only [cond_true, h]
      unfold scan
      simp only [ri_S, h, cond_true]
    | false =>
      obtain ⟨j, hj⟩ := ri_scan l0 ss k l (i + 1) (all ++ [(applyF (atS ss k) v).1])
      refine ⟨j, ?_⟩
      simp only [cond_false]
      rw [← hj]
      conv => lhs; unfold scan
      simp only [ri_S, h, cond_false]
theorem ri_run (l : List T) (ss : List S) (k : Int) (all : List T) (h2 : l.length ≤ 1000) (h3 : all.length ≤ 1000000) (h4 : 0 ≤ k) (h5 : k < (ss.length : Int)) : ∃ j, loopF ri_RR ri_M (l, ss, k, 0, all, (), 0) = (bif (thI (atS ss k) l all).2 != 0 then .ret else .exit 2, l, ss, k, j, (thI (atS ss k) l all).1, (), (thI (atS ss k) l all).2) := by
  have hm : l.length ≤ maxLen := by unfold maxLen; omega
  have hr : loopF ri_RR ri_M (l, ss, k, 0, all, (), 0) = _ := ix_conj_run (φ := ri_f) (ψ := ri_g) (fun _ => rfl) (fun _ => rfl) ri_RF ri_P (l, ss, k) (all, (), 0) rfl hm ⟨h2, by show (all.length : Int) ≤ 1000000 + 0; omega, h4, h5⟩
  obtain ⟨j, hj⟩ := ri_scan l ss k l 0 all
  refine ⟨j, ?_⟩
  rw [hr]
  show ((scan 2 (ri_S (l, ss, k)) 0 l (all, (), 0)).1, ri_g ((scan 2 (ri_S (l, ss, k)) 0 l (all, (), 0)).2.1, (l, ss, k), (scan 2 (ri_S (l, ss, k)) 0 l (all, (), 0)).2.2)) = _
  rw [hj]
  rfl
noncomputable def ltH1 : LTab Try.prog := (LTab.nil.cons 35 9 (ti_C ti_I ti_M) ti_ok).cons 36 9 (ri_C ri_I ri_M) ri_ok
noncomputable abbrev lamH1 : Lam := ltH1.lam
theorem lamH1_ok : ∀ f k L, lamH1 f k = some L → ∀ b ∈ loopsOf Try.prog f, lkey b = k → LoopOk Try.prog b L.g := ltH1.ok
end Go.Proofs.Ytiipneclghnfhaa

/- Chapter 3: behind paths: the outer loops. Printed by treegen.py. -/
namespace Go.Proofs.Ytiipneclghnfhaa
open Go.RowKit Go.Sx
set_option maxRecDepth 100000
set_option linter.unusedVariables false
noncomputable def tO_q1 (ss : List S) (n : Int) (k : Int) (l : List T) (all : List T) (_u2 : Unit) (er : Int) : Ex ×
  ti_G :=
  loopF (fun g => ti_R g.fst g.snd.fst g.snd.snd.fst g.snd.snd.snd.fst g.snd.snd.snd.snd.fst g.snd.snd.snd.snd.snd.fst g.snd.snd.snd.snd.snd.snd.fst g.snd.snd.snd.snd.snd.snd.snd) ti_M (eT.lst l.length (eT.els l), (↑l.length : Int), (0 : Int), (), ss.getD k.toNat eS.dflt, eT.lst all.length (eT.els all), (), er)
abbrev tO_G : Type := List S × Int × Int × List T × List T × Unit × Int
noncomputable def tO_LP : LP 0 tO_G := .pair (.slot 0 19 dLS) (.pair (.slot 0 20 dI) (.pair (.slot 0 21 dI) (.pair (.slot 0 0 dLT) (.pair (.row 0 7 30 eT) (.pair (.fix 0 4 (.k (.slice none 0 0))) (.slot 0 5 dI))))))
noncomputable def tO_R (ss : List S) (n : Int) (k : Int) (l : List T) (all : List T) (_u2 : Unit) (er : Int) : Ex × tO_G :=
  bif decide (k < n) then bif exB Ex.ret (tO_q1 ss n k l all _u2 er).fst then (Ex.ret, eS.lst ss.length (eS.els ss), n, k, eT.lst l.length (eT.els l), eT.lst (tO_q1 ss n k l all _u2 er).snd.snd.snd.snd.snd.snd.fst.length (eT.els (tO_q1 ss n k l all _u2 er).snd.snd.snd.snd.snd.snd.fst), (), (tO_q1 ss n k l all _u2 er).snd.snd.snd.snd.snd.snd.snd.snd) else (Ex.normal, eS.lst ss.length (eS.els ss), n, IntKind.i64.wrap (k + (1 : Int)), eT.lst l.length (eT.els l), eT.lst (tO_q1 ss n k l all _u2 er).snd.snd.snd.snd.snd.snd.fst.length (eT.els (tO_q1 ss n k l all _u2 er).snd.snd.snd.snd.snd.snd.fst), (), (tO_q1 ss n k l all _u2 er).snd.snd.snd.snd.snd.snd.snd.snd)
  else (Ex.exit (0 : Nat), eS.lst ss.length (eS.els ss), n, k, eT.lst l.length (eT.els l), eT.lst all.length (eT.els all), (), er)
def tO_side (ss : List S) (n : Int) (k : Int) (l : List T) (all : List T) (_u2 : Unit) (er : Int) : Prop :=
  (decide (k < n) = true → ((0 : Int) ≤ k ∧ k < (↑ss.length : Int)) ∧ (∀ (e : Nat), e < l.length → eT.Ok (eT.els l e)) ∧ all.length ≤ all.length ∧ (∀ (e : Nat), e < all.length → True) ∧ Lp.ixJ (fun c => c.snd.fst) (fun c => c.fst) ti_K (ti_f (eT.lst l.length (eT.els l), (↑l.length : Int), (0 : Int), (), ss.getD k.toNat eS.dflt, eT.lst all.length (eT.els all), (), er)) ∧ (exB Ex.ret (tO_q1 ss n k l all _u2 er).fst = true → (∀ (e : Nat), e < ss.length → eS.Ok (eS.els ss e)) ∧ (∀ (e : Nat), e < l.length → eT.Ok (eT.els l e)) ∧ (tO_q1 ss n k l all _u2 er).snd.snd.snd.snd.snd.snd.fst.length ≤ (tO_q1 ss n k l all _u2 er).snd.snd.snd.snd.snd.snd.fst.length ∧ ∀ (e : Nat), e < (tO_q1 ss n k l all _u2 er).snd.snd.snd.snd.snd.snd.fst.length → True) ∧ (exB Ex.ret (tO_q1 ss n k l all _u2 er).fst = false → (∀ (e : Nat), e < ss.length → eS.Ok (eS.els ss e)) ∧ (∀ (e : Nat), e < l.length → eT.Ok (eT.els l e)) ∧ (tO_q1 ss n k l all _u2 er).snd.snd.snd.snd.snd.snd.fst.length ≤ (tO_q1 ss n k l all _u2 er).snd.snd.snd.snd.snd.snd.fst.length ∧ ∀ (e : Nat), e < (tO_q1 ss n k l all _u2 er).snd.snd.snd.snd.snd.snd.fst.length → True)) ∧ (decide (k < n) = false → (∀ (e : Nat), e < ss.length → eS.Ok (eS.els ss e)) ∧ (∀ (e : Nat), e < l.length → eT.Ok (eT.els l e)) ∧ all.length ≤ all.length ∧ ∀ (e : Nat), e < all.length → True)
theorem tO_one : ((loopsOf Try.prog 35).filter fun c => Nat.beq (lkey c) 6).length = 1 := by kernel_rfl
abbrev tO_GC : Type := List S × Int × List T
abbrev tO_GB : Type := List T × Unit × Int
def tO_f (g : tO_G) : Int × tO_GC × tO_GB := (g.2.2.1, (g.1, g.2.1, g.2.2.2.1), (g.2.2.2.2.1, g.2.2.2.2.2.1, g.2.2.2.2.2.2))
def tO_g (d : Int × tO_GC × tO_GB) : tO_G := (d.2.1.1, d.2.1.2.1, d.1, d.2.1.2.2, d.2.2.1, d.2.2.2.1, d.2.2.2.2)
theorem tO_es (g : tO_G) : (tO_R g.1 g.2.1 g.2.2.1 g.2.2.2.1 g.2.2.2.2.1 g.2.2.2.2.2.1 g.2.2.2.2.2.2).1 = .normal ∨ (tO_R g.1 g.2.1 g.2.2.1 g.2.2.2.1 g.2.2.2.2.1 g.2.2.2.2.2.1 g.2.2.2.2.2.2).1 ∈ ([.ret, .exit 0] : List Ex) := by
  unfold tO_R
  repeat' (first | (left; rfl) | (right; simp only [cond_true, cond_false]; simp; done) | (rw [Bool.cond_eq_ite]; split))
noncomputable abbrev tO_C (Inv : tO_G → List Prop) (m : tO_G → Nat) : LCon := loopR [.ret, .exit 0] (loopBody Try.prog 35 6) tO_LP [] 50 Inv (fun g => tO_R g.1 g.2.1 g.2.2.1 g.2.2.2.1 g.2.2.2.2.1 g.2.2.2.2.2.1 g.2.2.2.2.2.2) m
theorem tO_loop (Inv : tO_G → List Prop) (m : tO_G → Nat) (hs : ∀ g, allP (Inv g) → tO_side g.1 g.2.1 g.2.2.1 g.2.2.2.1 g.2.2.2.2.1 g.2.2.2.2.2.1 g.2.2.2.2.2.2) (hg : Goes (fun g : tO_G => tO_R g.1 g.2.1 g.2.2.1 g.2.2.2.1 g.2.2.2.2.1 g.2.2.2.2.2.1 g.2.2.2.2.2.2) m fun g => allP (Inv g)) : ∀ b ∈ loopsOf Try.prog 35, lkey b = 6 → LoopOk Try.prog b (tO_C Inv m).g := loop_run (Γ := (MTab.gamz tabC [] [])) (Λ := lamH1) (MTab.okz tabC [] []) lamH1_ok 100 35 6 50 tO_LP [] Inv (fun g => tO_R g.1 g.2.1 g.2.2.1 g.2.2.2.1 g.2.2.2.2.1 g.2.2.2.2.2.1 g.2.2.2.2.2.2) (fun g => tO_side g.1 g.2.1 g.2.2.1 g.2.2.2.1 g.2.2.2.2.1 g.2.2.2.2.2.1 g.2.2.2.2.2.2) m default [.ret, .exit 0] tO_one (fun rd T B HL HB ds g => by kernel_rfl) (fun rd T B HL HB ds g => by kernel_rfl) hs hg tO_es
noncomputable def rO_q1 (l : List T) (ss : List S) (k : Int) (all : List T) (_u2 : Unit) (er : Int) : Ex ×
  ri_G :=
  loopF (fun g => ri_R g.fst g.snd.fst g.snd.snd.fst g.snd.snd.snd.fst g.snd.snd.snd.snd.fst g.snd.snd.snd.snd.snd.fst g.snd.snd.snd.snd.snd.snd) ri_M (eT.lst l.length (eT.els l), eS.lst ss.length (eS.els ss), k, (0 : Int), eT.lst all.length (eT.els all), (), er)
abbrev rO_G : Type := List T × List S × Int × List T × Unit × Int
noncomputable def rO_LP : LP 0 rO_G := .pair (.slot 0 0 dLT) (.pair (.slot 0 1 dLS) (.pair (.slot 0 8 dI) (.pair (.row 0 7 30 eT) (.pair (.fix 0 4 (.k (.slice none 0 0))) (.slot 0 5 dI)))))
noncomputable def rO_R (l : List T) (ss : List S) (k : Int) (all : List T) (_u2 : Unit) (er : Int) : Ex × rO_G :=
  bif decide (k < (↑ss.length : Int)) then bif exB Ex.ret (rO_q1 l ss k all _u2 er).fst then (Ex.ret, eT.lst (rO_q1 l ss k all _u2 er).snd.fst.length (eT.els (rO_q1 l ss k all _u2 er).snd.fst), eS.lst (rO_q1 l ss k all _u2 er).snd.snd.fst.length (eS.els (rO_q1 l ss k all _u2 er).snd.snd.fst), (rO_q1 l ss k all _u2 er).snd.snd.snd.fst, eT.lst (rO_q1 l ss k all _u2 er).snd.snd.snd.snd.snd.fst.length (eT.els (rO_q1 l ss k all _u2 er).snd.snd.snd.snd.snd.fst), (), (rO_q1 l ss k all _u2 er).snd.snd.snd.snd.snd.snd.snd) else (Ex.normal, eT.lst (rO_q1 l ss k all _u2 er).snd.fst.length (eT.els (rO_q1 l ss k all _u2 er).snd.fst), eS.lst (rO_q1 l ss k all _u2 er).snd.snd.fst.length (eS.els (rO_q1 l ss k all _u2 er).snd.snd.fst), IntKind.i64.wrap ((rO_q1 l ss k all _u2 er).snd.snd.snd.fst + (1 : Int)), eT.lst (rO_q1 l ss k all _u2 er).snd.snd.snd.snd.snd.fst.length (eT.els (rO_q1 l ss k all _u2 er).snd.snd.snd.snd.snd.fst), (), (rO_q1 l ss k all _u2 er).snd.snd.snd.snd.snd.snd.snd)
  else (Ex.exit (0 : Nat), eT.lst l.length (eT.els l), eS.lst ss.length (eS.els ss), k, eT.lst all.length (eT.els all), (), er)
def rO_side (l : List T) (ss : List S) (k : Int) (all : List T) (_u2 : Unit) (er : Int) : Prop :=
  (decide (k < (↑ss.length : Int)) = true → (∀ (e : Nat), e < l.length → eT.Ok (eT.els l e)) ∧ (∀ (e : Nat), e < ss.length → eS.Ok (eS.els ss e)) ∧ all.length ≤ all.length ∧ (∀ (e : Nat), e < all.length → True) ∧ Lp.ixJ (fun c => (↑c.fst.length : Int)) (fun c => c.fst) ri_K (ri_f (eT.lst l.length (eT.els l), eS.lst ss.length (eS.els ss), k, (0 : Int), eT.lst all.length (eT.els all), (), er)) ∧ (exB Ex.ret (rO_q1 l ss k all _u2 er).fst = true → (∀ (e : Nat), e < (rO_q1 l ss k all _u2 er).snd.fst.length → eT.Ok (eT.els (rO_q1 l ss k all _u2 er).snd.fst e)) ∧ (∀ (e : Nat), e < (rO_q1 l ss k all _u2 er).snd.snd.fst.length → eS.Ok (eS.els (rO_q1 l ss k all _u2 er).snd.snd.fst e)) ∧ (rO_q1 l ss k all _u2 er).snd.snd.snd.snd.snd.fst.length ≤ (rO_q1 l ss k all _u2 er).snd.snd.snd.snd.snd.fst.length ∧ ∀ (e : Nat), e < (rO_q1 l ss k all _u2 er).snd.snd.snd.snd.snd.fst.length → True) ∧ (exB Ex.ret (rO_q1 l ss k all _u2 er).fst = false → (∀ (e : Nat), e < (rO_q1 l ss k all _u2 er).snd.fst.length → eT.Ok (eT.els (rO_q1 l ss k all _u2 er).snd.fst e)) ∧ (∀ (e : Nat), e < (rO_q1 l ss k all _u2 er).snd.snd.fst.length → eS.Ok (eS.els (rO_q1 l ss k all _u2 er).snd.snd.fst e)) ∧ (rO_q1 l ss k all _u2 er).snd.snd.snd.snd.snd.fst.length ≤ (rO_q1 l ss k all _u2 er).snd.snd.snd.snd.snd.fst.length ∧ ∀ (e : Nat), e < (rO_q1 l ss k all _u2 er).snd.snd.snd.snd.snd.fst.length → True)) ∧ (decide (k < (↑ss.length : Int)) = false → (∀ (e : Nat), e < l.length → eT.Ok (eT.els l e)) ∧ (∀ (e : Nat), e < ss.length → eS.Ok (eS.els ss e)) ∧ all.length ≤ all.length ∧ ∀ (e : Nat), e < all.length → True)
theorem rO_one : ((loopsOf Try.prog 36).filter fun c => Nat.beq (lkey c) 6).length = 1 := by kernel_rfl
abbrev rO_GC : Type := List S × List T
abbrev rO_GB : Type := List T × Unit × Int
def rO_f (g : rO_G) : Int × rO_GC × rO_GB := (g.2.2.1, (g.2.1, g.1), (g.2.2.2.1, g.2.2.2.2.1, g.2.2.2.2.2))
def rO_g (d : Int × rO_GC × rO_GB) : rO_G := (d.2.1.2, d.2.1.1, d.1, d.2.2.1, d.2.2.2.1, d.2.2.2.2)
theorem rO_es (g : rO_G) : (rO_R g.1 g.2.1 g.2.2.1 g.2.2.2.1 g.2.2.2.2.1 g.2.2.2.2.2).1 = .normal ∨ (rO_R g.1 g.2.1 g.2.2.1 g.2.2.2.1 g.2.2.2.2.1 g.2.2.2.2.2).1 ∈ ([.ret, .exit 0] : List Ex) := by
  unfold rO_R
  repeat' (first | (left; rfl) | (right; simp only [cond_true, cond_false]; simp; done) | (rw [Bool.cond_eq_ite]; split))
noncomputable abbrev rO_C (Inv : rO_G → List Prop) (m : rO_G → Nat) : LCon := loopR [.ret, .exit 0] (loopBody Try.prog 36 6) rO_LP [] 52 Inv (fun g => rO_R g.1 g.2.1 g.2.2.1 g.2.2.2.1 g.2.2.2.2.1 g.2.2.2.2.2) m
theorem rO_loop (Inv : rO_G → List Prop) (m : rO_G → Nat) (hs : ∀ g, allP (Inv g) → rO_side g.1 g.2.1 g.2.2.1 g.2.2.2.1 g.2.2.2.2.1 g.2.2.2.2.2) (hg : Goes (fun g : rO_G => rO_R g.1 g.2.1 g.2.2.1 g.2.2.2.1 g.2.2.2.2.1 g.2.2.2.2.2) m fun g => allP (Inv g)) : ∀ b ∈ loopsOf Try.prog 36, lkey b = 6 → LoopOk Try.prog b (rO_C Inv m).g := loop_run (Γ := (MTab.gamz tabC [] [])) (Λ := lamH1) (MTab.okz tabC [] []) lamH1_ok 100 36 6 52 rO_LP [] Inv (fun g => rO_R g.1 g.2.1 g.2.2.1 g.2.2.2.1 g.2.2.2.2.1 g.2.2.2.2.2) (fun g => rO_side g.1 g.2.1 g.2.2.1 g.2.2.2.1 g.2.2.2.2.1 g.2.2.2.2.2) m default [.ret, .exit 0] rO_one (fun rd T B HL HB ds g => by kernel_rfl) (fun rd T B HL HB ds g => by kernel_rfl) hs hg rO_es
noncomputable def tabXF11 : MTab Try.prog := tabC
end Go.Proofs.Ytiipneclghnfhaa

/- Chapter 3: behind paths: the outer loops' contracts. -/
namespace Go.Proofs.Ytiipneclghnfhaa
open Go.RowKit Go.Sx Go.Lp
noncomputable def thO (l : List T) : List S → List T → List T × Int
  | [], all => (all, 0)
  | x :: r, all => bif (thI x l all).2 != 0 then thI x l all else thO l r (thI x l all).1
theorem mem_atS {l : List S} {i : Int} (h0 : 0 ≤ i) (h : i < (l.length : Int)) : True := trivial
/-! ### chain.Through -/
noncomputable def tO_S (c : tO_GC) (b : tO_GB) (_ : Int) (x : S) : Ex × tO_GB := (bif (thI x c.2.2 b.1).2 != 0 then .ret else .normal, (thI x c.2.2 b.1).1, (), (thI x c.2.2 b.1).2)
def tO_K (c : tO_GC) (b : tO_GB) (i : Int) : Prop := c.2.2.length ≤ 1000 ∧ c.1.length ≤ 1000 ∧ (b.1.length : Int) ≤ 1000 * i ∧ b.2.2 = 0
abbrev tO_I (g : tO_G) : List Prop := ixI (fun c : tO_GC => c.2.1) (fun c => c.1) tO_K (tO_f g)
abbrev tO_M (g : tO_G) : Nat := ixM (fun c : tO_GC => c.2.1) (tO_f g)
theorem tO_P : ixP tO_S (fun c : tO_GC => c.1) tO_K := by
  rintro ⟨ss, n, l⟩ ⟨all, ⟨⟩, e⟩ i x ⟨h1, h2, h3, h4⟩ _ hn
  have h3 : (all.length : Int) ≤ 1000 * (i : Int) := h3
  have h1' : l.length ≤ 1000 := h1
  have hl := thI_len x l all
  have hn : (bif (thI x l all).2 != 0 then Ex.ret else Ex.normal) = Ex.normal := hn
  refine ⟨h1, h2, ?_, ?_⟩
  · show ((thI x l all).1.length : Int) ≤ 1000 * ((i : Int) + 1)
    omega
  · show (thI x l all).2 = 0
    cases hh : (thI x l all).2 != 0 with
    | true => rw [hh] at hn; cases hn
    | false => exact bne_eq_false_iff_eq.1 hh
noncomputable abbrev tO_RR (g : tO_G) : Ex × tO_G := tO_R g.1 g.2.1 g.2.2.1 g.2.2.2.1 g.2.2.2.2.1 g.2.2.2.2.2.1 g.2.2.2.2.2.2
theorem tO_q (ss : List S) (n k : Int) (l all : List T) (h1 : l.length ≤ 1000) (h2 : all.length ≤ 1000000) : ∃ j, tO_q1 ss n k l all () 0 = (bif (thI (atS ss k) l all).2 != 0 then .ret else .exit 2, l, (l.length : Int), j, (), atS ss k, (thI (atS ss k) l all).1, (), (thI (atS ss k) l all).2) := by
  unfold tO_q1
  simp only [eT.lst_els]
  exact ti_run l (atS ss k) all h1 h2
theorem tO_RF (d : Int × tO_GC × tO_GB) (hi : allP (ixI (fun c : tO_GC => c.2.1) (fun c => c.1) tO_K d)) : tO_RR (tO_g d) = ((ixF 0 (fun c : tO_GC => c.2.1) (fun c => c.1) eS.dflt tO_S d).1, tO_g (ixF 0 (fun c : tO_GC => c.2.1) (fun c => c.1) eS.dflt tO_S d).2) := by
  obtain ⟨h1, h2, h3, h4, h5, h6, h7, h8⟩ := hi _ (List.mem_cons_self ..)
  obtain ⟨k, ⟨ss, n, l⟩, ⟨all, ⟨⟩, e⟩⟩ := d
  have h8 : e = 0 := h8
  have h4 : k ≤ (ss.length : Int) := h4
  have h6 : ss.length ≤ 1000 := h6
  have h7 : (all.length : Int) ≤ 1000 * k := h7
  subst h8
  obtain ⟨j, hj⟩ := tO_q ss n k l all h5 (by omega)
  show tO_R ss n k l all () 0 = _
  unfold tO_R ixF tO_S
  rw [hj]
  simp only [eT.lst_els, eS.lst_els]
  by_cases hc : k < n
  · simp only [hc, decide_true, cond_true]
    simp only [atS]
    generalize thI (ss.getD k.toNat eS.dflt) l all = r
    cases r.2 != 0 <;> rfl
  · simp only [hc, decide_false, cond_false]
    rfl
theorem tO_ok : ∀ b ∈ loopsOf Try.prog 35, lkey b = 6 → LoopOk Try.prog b (tO_C tO_I tO_M).g := by
  refine tO_loop tO_I tO_M (fun g hi => ?_) (ix_conj_goes (fun _ => rfl) (fun _ => rfl) tO_RF tO_P)
  obtain ⟨ss, n, k, l, all, ⟨⟩, e⟩ := g
  obtain ⟨h1, h2, h3, h4, h5, h6, h7, h8⟩ := hi _ (List.mem_cons_self ..)
  have h8 : e = 0 := h8
  have h1 : n = (ss.length : Int) := h1
  have h3 : 0 ≤ k := h3
  have h4 : k ≤ (ss.length : Int) := h4
  have h5 : l.length ≤ 1000 := h5
  have h6 : ss.length ≤ 1000 := h6
  have h7 : (all.length : Int) ≤ 1000 * k := h7
  subst h8
  obtain ⟨j, hj⟩ := tO_q ss n k l all h5 (by omega)
  have ha := okT l
  have hs := okS ss
  have hx := ixJ0 (lim := fun c : ti_GC => c.2.1) (xs := fun c : ti_GC => c.1) (P := ti_K) (c := (l, (l.length : Int), atS ss k)) (b := ((), all, (), 0)) rfl (by unfold maxLen; show l.length ≤ _; omega) ⟨h5, by show (all.length : Int) ≤ 1000000 + 0; omega⟩
  clear hi
  show tO_side ss n k l all () 0
  unfold tO_side
  rw [hj]
  simp only [bytesT, eT.lst_els, eS.lst_els, decide_eq_true_eq, decide_eq_false_iff_not]
  repeat' (first | exact ha | exact hs | exact hx | exact rfl | apply And.intro | intro _)
  all_goals (first | trivial | omega)
theorem tO_scan (s0 : List S) (n : Int) (l : List T) : ∀ (ss : List S) (i : Int) (all : List T), ∃ j, scan 0 (tO_S (s0, n, l)) i ss (all, (), 0) = (bif (thO l ss all).2 != 0 then .ret else .exit 0, j, (thO l ss all).1, (), (thO l ss all).2)
  | [], i, all => ⟨i, rfl⟩
  | x :: ss, i, all => by
    unfold thO
    cases h : (thI x l all).2 != 0 with
    | true =>
      refine ⟨i, ?_⟩
      simp only [cond_true, h]
      unfold scan
      simp only [tO_S, h, cond_true]
    | false =>
      obtain ⟨j, hj⟩ := tO_scan s0 n l ss (i + 1) (thI x l all).1
      refine ⟨j, ?_⟩
      simp only [cond_false]
      rw [← hj]
      conv => lhs; unfold scan
      simp only [tO_S, h, cond_false, bne_eq_false_iff_eq.1 h]
      rfl
theorem tO_run (ss : List S) (l : List T) (h1 : l.length ≤ 1000) (h2 : ss.length ≤ 1000) : ∃ j, loopF tO_RR tO_M (ss, (ss.length : Int), 0, l, [], (), 0) = (bif (thO l ss []).2 != 0 then .ret else .exit 0, ss, (ss.length : Int), j, l, (thO l ss []).1, (), (thO l ss []).2) := by
  have hm : ss.length ≤ maxLen := by unfold maxLen; omega
  have hr : loopF tO_RR tO_M (ss, (ss.length : Int), 0, l, [], (), 0) = _ := ix_conj_run (φ := tO_f) (ψ := tO_g) (fun _ => rfl) (fun _ => rfl) tO_RF tO_P (ss, (ss.length : Int), l) ([], (), 0) rfl hm ⟨h1, h2, by show (0 : Int) ≤ 1000 * 0; omega, rfl⟩
  obtain ⟨j, hj⟩ := tO_scan ss (ss.length : Int) l ss 0 []
  refine ⟨j, ?_⟩
  rw [hr]
  show ((scan 0 (tO_S (ss, (ss.length : Int), l)) 0 ss ([], (), 0)).1, tO_g ((scan 0 (tO_S (ss, (ss.length : Int), l)) 0 ss ([], (), 0)).2.1, (ss, (ss.length : Int), l), (scan 0 (tO_S (ss, (ss.length : Int), l)) 0 ss ([], (), 0)).2.2)) = _
  rw [hj]
  rfl
/-! ### the document's Through -/
noncomputable def rO_S (c : rO_GC) (b : rO_GB) (_ : Int) (x : S) : Ex × rO_GB := (bif (thI x c.2 b.1).2 != 0 then .ret else .normal, (thI x c.2 b.1).1, (), (thI x c.2 b.1).2)
def rO_K (c : rO_GC) (b : rO_GB) (i : Int) : Prop := c.2.length ≤ 1000 ∧ c.1.length ≤ 1000 ∧ (b.1.length : Int) ≤ 1000 * i ∧ b.2.2 = 0
abbrev rO_I (g : rO_G) : List Prop := ixI (fun c : rO_GC => (c.1.length : Int)) (fun c => c.1) rO_K (rO_f g)
abbrev rO_M (g : rO_G) : Nat := ixM (fun c : rO_GC => (c.1.length : Int)) (rO_f g)
theorem rO_P : ixP rO_S (fun c : rO_GC => c.1) rO_K := by
  rintro ⟨ss, l⟩ ⟨all, ⟨⟩, e⟩ i x ⟨h1, h2, h3, h4⟩ _ hn
  have h3 : (all.length : Int) ≤ 1000 * (i : Int) := h3
  have h1' : l.length ≤ 1000 := h1
  have hl := thI_len x l all
  have hn : (bif (thI x l all).2 != 0 then Ex.ret else Ex.normal) = Ex.normal := hn
  refine ⟨h1, h2, ?_, ?_⟩
  · show ((thI x l all).1.length : Int) ≤ 1000 * ((i : Int) + 1)
    omega
  · show (thI x l all).2 = 0
    cases hh : (thI x l all).2 != 0 with
    | true => rw [hh] at hn; cases hn
    | false => exact bne_eq_false_iff_eq.1 hh
noncomputable abbrev rO_RR (g : rO_G) : Ex × rO_G := rO_R g.1 g.2.1 g.2.2.1 g.2.2.2.1 g.2.2.2.2.1 g.2.2.2.2.2
theorem rO_q (l : List T) (ss : List S) (k : Int) (all : List T) (h1 : l.length ≤ 1000) (h2 : all.length ≤ 1000000) (h3 : 0 ≤ k) (h4 : k < (ss.length : Int)) : ∃ j, rO_q1 l ss k all () 0 = (bif (thI (atS ss k) l all).2 != 0 then .ret else .exit 2, l, ss, k, j, (thI (atS ss k) l all).1, (), (thI (atS ss k) l all).2) := by
  unfold rO_q1
  simp only [eT.lst_els, eS.lst_els]
  exact ri_run l ss k all h1 h2 h3 h4
theorem rO_RF (d : Int × rO_GC × rO_GB) (hi : allP (ixI (fun c : rO_GC => (c.1.length : Int)) (fun c => c.1) rO_K d)) : rO_RR (rO_g d) = ((ixF 0 (fun c : rO_GC => (c.1.length : Int)) (fun c => c.1) eS.dflt rO_S d).1, rO_g (ixF 0 (fun c : rO_GC => (c.1.length : Int)) (fun c => c.1) eS.dflt rO_S d).2) := by
  obtain ⟨h1, h2, h3, h4, h5, h6, h7, h8⟩ := hi _ (List.mem_cons_self ..)
  obtain ⟨k, ⟨ss, l⟩, ⟨all, ⟨⟩, e⟩⟩ := d
  have h3 : 0 ≤ k := h3
  have h8 : e = 0 := h8
  have h4 : k ≤ (ss.length : Int) := h4
  have h6 : ss.length ≤ 1000 := h6
  have h7 : (all.length : Int) ≤ 1000 * k := h7
  subst h8
  show rO_R l ss k all () 0 = _
  unfold rO_R ixF rO_S
  by_cases hc : k < (ss.length : Int)
  · obtain ⟨j, hj⟩ := rO_q l ss k all h5 (by omega) h3 hc
    rw [hj]
    simp only [eT.lst_els, eS.lst_els, hc, decide_true, cond_true, atS]
    generalize thI (ss.getD k.toNat eS.dflt) l all = r
    cases r.2 != 0 <;> rfl
  · simp only [hc, decide_false, cond_false, eT.lst_els, eS.lst_els]
    rfl
theorem rO_ok : ∀ b ∈ loopsOf Try.prog 36, lkey b = 6 → LoopOk Try.prog b (rO_C rO_I rO_M).g := by
  refine rO_loop rO_I rO_M (fun g hi => ?_) (ix_conj_goes (fun _ => rfl) (fun _ => rfl) rO_RF rO_P)
  obtain ⟨l, ss, k, all, ⟨⟩, e⟩ := g
  obtain ⟨h1, h2, h3, h4, h5, h6, h7, h8⟩ := hi _ (List.mem_cons_self ..)
  have h8 : e = 0 := h8
  have h3 : 0 ≤ k := h3
  have h4 : k ≤ (ss.length : Int) := h4
  have h5 : l.length ≤ 1000 := h5
  have h6 : ss.length ≤ 1000 := h6
  have h7 : (all.length : Int) ≤ 1000 * k := h7
  subst h8
  have ha := okT l
  have hs := okS ss
  clear hi
  show rO_side l ss k all () 0
  unfold rO_side
  refine ⟨fun hc => ?_, fun _ => ?_⟩
  · have hc : k < (ss.length : Int) := of_decide_eq_true hc
    obtain ⟨j, hj⟩ := rO_q l ss k all h5 (by omega) h3 hc
    have hx := ixJ0 (lim := fun c : ri_GC => (c.1.length : Int)) (xs := fun c : ri_GC => c.1) (P := ri_K) (c := (l, ss, k)) (b := (all, (), 0)) rfl (by unfold maxLen; show l.length ≤ _; omega) ⟨h5, by show (all.length : Int) ≤ 1000000 + 0; omega, h3, hc⟩
    rw [hj]
    simp only [bytesT, eT.lst_els, eS.lst_els]
    repeat' (first | exact ha | exact hs | exact hx | exact rfl | apply And.intro | intro _)
    all_goals (first | trivial | omega)
  · repeat' (first | exact ha | exact hs | exact rfl | apply And.intro | intro _)
    all_goals (first | trivial | omega)
theorem rO_scan (s0 : List S) (l : List T) : ∀ (ss : List S) (i : Int) (all : List T), ∃ j, scan 0 (rO_S (s0, l)) i ss (all, (), 0) = (bif (thO l ss all).2 != 0 then .ret else .exit 0, j, (thO l ss all).1, (), (thO l ss all).2)
  | [], i, all => ⟨i, rfl⟩
  | x :: ss, i, all => by
    unfold thO
    cases h : (thI x l all).2 != 0 with
    | true =>
      refine ⟨i, ?_⟩
      simp only [cond_true, h]
      unfold scan
      simp only [rO_S, h, cond_true]
    | false =>
      obtain ⟨j, hj⟩ := rO_scan s0 l ss (i + 1) (thI x l all).1
      refine ⟨j, ?_⟩
      simp only [cond_false]
      rw [← hj]
      conv => lhs; unfold scan
      simp only [rO_S, h, cond_false, bne_eq_false_iff_eq.1 h]
      rfl
theorem rO_run (ss : List S) (l : List T) (h1 : l.length ≤ 1000) (h2 : ss.length ≤ 1000) : ∃ j, loopF rO_RR rO_M (l, ss, 0, [], (), 0) = (bif (thO l ss []).2 != 0 then .ret else .exit 0, l, ss, j, (thO l ss []).1, (), (thO l ss []).2) := by
  have hm : ss.length ≤ maxLen := by unfold maxLen; omega
  have hr : loopF rO_RR rO_M (l, ss, 0, [], (), 0) = _ := ix_conj_run (φ := rO_f) (ψ := rO_g) (fun _ => rfl) (fun _ => rfl) rO_RF rO_P (ss, l) ([], (), 0) rfl hm ⟨h1, h2, by show (0 : Int) ≤ 1000 * 0; omega, rfl⟩
  obtain ⟨j, hj⟩ := rO_scan ss l ss 0 []
  refine ⟨j, ?_⟩
  rw [hr]
  show ((scan 0 (rO_S (ss, l)) 0 ss ([], (), 0)).1, rO_g ((scan 0 (rO_S (ss, l)) 0 ss ([], (), 0)).2.1, (ss, l), (scan 0 (rO_S (ss, l)) 0 ss ([], (), 0)).2.2)) = _
  rw [hj]
  rfl
noncomputable def ltH2 : LTab Try.prog := (ltH1.cons 35 6 (tO_C tO_I tO_M) tO_ok).cons 36 6 (rO_C rO_I rO_M) rO_ok
noncomputable abbrev lamH2 : Lam := ltH2.lam
theorem lamH2_ok : ∀ f k L, lamH2 f k = some L → ∀ b ∈ loopsOf Try.prog f, lkey b = k → LoopOk Try.prog b L.g := ltH2.ok
end Go.Proofs.Ytiipneclghnfhaa
