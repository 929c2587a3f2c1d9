/- Chapter 3: the least of times: the inner loop's contract. -/
import Derived.Test.YtiipneclghnfhaaZG12P3
import Derived.Test.YtiipneclghnfhaaZG07P3
import Derived.Test.YtiipneclghnfhaaZG11P3
set_option linter.unusedVariables false
set_option linter.unusedSimpArgs false
set_option linter.constructorNameAsVariable false
set_option linter.all false

namespace Go.Proofs.Ytiipneclghnfhaa
open Go.RowKit Go.Sx Go.Lp
noncomputable def eb_S (c : eb_GC) (_ : eb_GB) (_ : Int) (v : T) : Ex × eb_GB := bif tleq_F v c.2.1 then (.ret, (), .done, some (.exit 1)) else (.normal, (), .ready, none)
def eb_K (c : eb_GC) (b : eb_GB) (_ : Int) : Prop := b.2 = (LoopState.ready, (none : Option Code)) ∧ c.2.2.1 = c.2.2.2.length
abbrev eb_I (g : eb_G) : List Prop := ixI (fun c : eb_GC => c.1) (fun c => c.2.2.2) eb_K (eb_f g)
abbrev eb_M (g : eb_G) : Nat := ixM (fun c : eb_GC => c.1) (eb_f g)
theorem eb_P : ixP eb_S (fun c : eb_GC => c.2.2.2) eb_K := by
  rintro ⟨n, t, l, out⟩ ⟨⟨⟩, st, pd⟩ i a hk _ hn
  unfold eb_S at hn ⊢
  cases hc : tleq_F a t with
  | true => simp only [hc] at hn; cases hn
  | false => exact ⟨rfl, hk.2⟩
noncomputable abbrev eb_RR (g : eb_G) : Ex × eb_G := eb_R g.1 g.2.1 g.2.2.1 g.2.2.2.1 g.2.2.2.2.1 g.2.2.2.2.2.1
theorem eb_RF (d : Int × eb_GC × eb_GB) (hi : allP (ixI (fun c : eb_GC => c.1) (fun c => c.2.2.2) eb_K d)) : eb_RR (eb_g d) = ((ixF 0 (fun c : eb_GC => c.1) (fun c => c.2.2.2) eT.dflt eb_S d).1, eb_g (ixF 0 (fun c : eb_GC => c.1) (fun c => c.2.2.2) eT.dflt eb_S d).2) := by
  obtain ⟨hb, hl⟩ := (hi _ (List.mem_cons_self ..)).2.2.2.2
  obtain ⟨i, ⟨n, t, l, out⟩, ⟨⟨⟩, st, pd⟩⟩ := d
  have hb : (st, pd) = (LoopState.ready, (none : Option Code)) := hb
  have hl : l = out.length := hl
  subst hl
  cases hb
  show eb_R n i () t out.length out = _
  unfold eb_R ixF eb_S
  simp only [eT.lst_els]
  cases decide (i < n) with
  | false => rfl
  | true =>
    simp only [cond_true]
    generalize tleq_F (out.getD i.toNat eT.dflt) t = z
    cases z <;> rfl
theorem eb_ok : ∀ b ∈ loopsOf Try.prog 119, lkey b = 1 → LoopOk Try.prog b (eb_C eb_I eb_M).g := by
  refine eb_loop eb_I eb_M (fun g hi => ?_) (fun g hi => ?_) (ix_conj_goes (fun _ => rfl) (fun _ => rfl) eb_RF eb_P)
  · obtain ⟨n, i, ⟨⟩, t, l, out, ⟨st, pd⟩⟩ := g
    obtain ⟨h1, h2, h3, h4, h5⟩ := hi _ (List.mem_cons_self ..)
    have h1 : n = (out.length : Int) := h1
    have h3 : 0 ≤ i := h3
    show eb_side n i () t l out
    unfold eb_side
    simp only [decide_eq_true_eq, decide_eq_false_iff_not]
    have ha := okT out
    have h6 : l = out.length := h5.2
    subst h6
    clear hi
    repeat' (first | exact ha | exact rfl | apply And.intro | intro _)
    all_goals (first | trivial | omega)
  · obtain ⟨n, i, ⟨⟩, t, l, out, ⟨st, pd⟩⟩ := g
    have h5 := (hi _ (List.mem_cons_self ..)).2.2.2.2.1
    have h5 : (st, pd) = (LoopState.ready, (none : Option Code)) := h5
    cases h5
    rfl
theorem eb_run (n : Int) (t : T) (out : List T) (h1 : n = (out.length : Int)) (h2 : out.length ≤ maxLen) : ∃ j, loopF eb_RR eb_M (n, 0, (), t, out.length, out, (.ready, none)) = bif out.any (tleq_F · t) then (.ret, n, j, (), t, out.length, out, (.done, some (.exit 1))) else (.exit 0, n, j, (), t, out.length, out, (.ready, none)) := by
  have hr : loopF eb_RR eb_M (n, 0, (), t, out.length, out, (.ready, none)) = _ := ix_conj_run (φ := eb_f) (ψ := eb_g) (fun _ => rfl) (fun _ => rfl) eb_RF eb_P (n, t, out.length, out) ((), .ready, none) h1 h2 ⟨rfl, rfl⟩
  rcases scan_bad (x := 0) (st := eb_S (n, t, out.length, out)) (p := (tleq_F · t)) (r := fun _ _ => ((), LoopState.done, some (Code.exit 1))) (f := fun _ _ => ((), LoopState.ready, (none : Option Code))) (e := .ret) (by intro h; cases h) (fun _ _ _ => rfl) out 0 ((), .ready, none) with ⟨ha, h3, a, b', _, _, h4⟩ | ⟨ha, h3⟩
  · have h3 : (scan 0 (eb_S (n, t, out.length, out)) 0 out ((), .ready, none)).1 = _ := h3
    have h4 : (scan 0 (eb_S (n, t, out.length, out)) 0 out ((), .ready, none)).2.2 = _ := h4
    refine ⟨(scan 0 (eb_S (n, t, out.length, out)) 0 out ((), .ready, none)).2.1, hr.trans ?_⟩
    rw [ha]
    show ((scan 0 (eb_S (n, t, out.length, out)) 0 out ((), .ready, none)).1, eb_g ((scan 0 (eb_S (n, t, out.length, out)) 0 out ((), .ready, none)).2.1, (n, t, out.length, out), (scan 0 (eb_S (n, t, out.length, out)) 0 out ((), .ready, none)).2.2)) = _
    rw [h3, h4]
    rfl
  · have h3 : scan 0 (eb_S (n, t, out.length, out)) 0 out ((), .ready, none) = _ := h3
    have hf : ∀ l : List T, l.foldl (fun (_ : eb_GB) (_ : T) => ((), LoopState.ready, (none : Option Code))) ((), LoopState.ready, (none : Option Code)) = ((), LoopState.ready, none) := by
      intro l
      induction l with
      | nil => rfl
      | cons a l ih => exact ih
    refine ⟨(scan 0 (eb_S (n, t, out.length, out)) 0 out ((), .ready, none)).2.1, hr.trans ?_⟩
    rw [ha]
    show ((scan 0 (eb_S (n, t, out.length, out)) 0 out ((), .ready, none)).1, eb_g ((scan 0 (eb_S (n, t, out.length, out)) 0 out ((), .ready, none)).2.1, (n, t, out.length, out), (scan 0 (eb_S (n, t, out.length, out)) 0 out ((), .ready, none)).2.2)) = _
    rw [h3, hf]
    rfl
noncomputable def ltO : LTab Try.prog := ltE.cons 119 1 (lconAlt 5 (ea_C ea_I ea_M) (eb_C eb_I eb_M)) (fun b hb hk => altL_ok (ea_ok b hb hk) (eb_ok b hb hk))
noncomputable abbrev lamO : Lam := ltO.lam
theorem lamO_ok : ∀ f k L, lamO f k = some L → ∀ b ∈ loopsOf Try.prog f, lkey b = k → LoopOk Try.prog b L.g := ltO.ok
end Go.Proofs.Ytiipneclghnfhaa

/- Chapter 3: the least of times: the loop, over a row of one's own. Printed by treegen.py. -/
namespace Go.Proofs.Ytiipneclghnfhaa
open Go.RowKit Go.Sx
set_option maxRecDepth 100000
set_option linter.unusedVariables false
noncomputable def of2_q1 (out : List T) (l : Nat) (ys : List T) (n : Int) (i : Int) : Ex ×
  eb_G :=
  loopF
    (fun g => eb_R g.fst g.snd.fst g.snd.snd.fst g.snd.snd.snd.fst g.snd.snd.snd.snd.fst g.snd.snd.snd.snd.snd.fst) eb_M
    ((↑out.length : Int), (0 : Int), (), ys.getD i.toNat eT.dflt, out.length, eT.lst out.length (eT.els out),
      LoopState.ready, none)
abbrev of2_G : Type := List T × Nat × List T × Int × Int
noncomputable def of2_LP : LP 2 of2_G := .pair (.row 2 6 30 eT) (.pair (.owl 2 20 1) (.pair (.rowO 2 1 30 eT) (.pair (.slot 2 21 dI) (.slot 2 22 dI))))
noncomputable def of2_R (out : List T) (l : Nat) (ys : List T) (n : Int) (i : Int) : Ex × of2_G :=
  bif decide (i < n) then
    bif exB Ex.ret (of2_q1 out l ys n i).fst then
      (Ex.normal, eT.lst out.length (eT.els (of2_q1 out l ys n i).snd.snd.snd.snd.snd.snd.fst), l, eT.lst ys.length (eT.els ys), n,
        IntKind.i64.wrap (i + (1 : Int)))
    else
      (Ex.normal,
        eT.lst (min (out.length + (1 : Nat)) out.length) (eT.els (of2_q1 out l ys n i).snd.snd.snd.snd.snd.snd.fst) ++
          List.map (fun x => (of2_q1 out l ys n i).snd.snd.snd.snd.fst) (List.range (out.length + (1 : Nat) - out.length)),
        l, eT.lst ys.length (eT.els ys), n, IntKind.i64.wrap (i + (1 : Int)))
  else (Ex.exit (0 : Nat), eT.lst out.length (eT.els out), l, eT.lst ys.length (eT.els ys), n, i)
def of2_side (out : List T) (l : Nat) (ys : List T) (n : Int) (i : Int) : Prop :=
  (decide (i < n) = true →
      ((0 : Int) ≤ i ∧ i < (↑l : Int)) ∧
        i.toNat < ys.length ∧
          (∀ (e : Nat), e < out.length → True) ∧
            CodeIs (rangeOf Try.prog (18 : Nat) (0 : Nat)).snd.fst (rangeOf Try.prog (18 : Nat) (0 : Nat)).snd.fst ∧
              CodeIs (rangeOf Try.prog (18 : Nat) (0 : Nat)).snd.snd (rangeOf Try.prog (18 : Nat) (0 : Nat)).snd.snd ∧
                Lp.ixJ (fun c => c.fst) (fun c => c.snd.snd.snd) eb_K
                    (eb_f
                      ((↑out.length : Int), (0 : Int), (), ys.getD i.toNat eT.dflt, out.length,
                        eT.lst out.length (eT.els out), LoopState.ready, none)) ∧
                  (exB Ex.ret (of2_q1 out l ys n i).fst = true →
                      out.length ≤ (of2_q1 out l ys n i).snd.snd.snd.snd.snd.snd.fst.length ∧
                        (∀ (e : Nat), e < out.length → True) ∧ ∀ (e : Nat), e < ys.length → True) ∧
                    (exB Ex.ret (of2_q1 out l ys n i).fst = false →
                      (out.length ≤ (of2_q1 out l ys n i).snd.snd.snd.snd.snd.snd.fst.length ∧
                          True ∧
                            out.length + (1 : Nat) ≤ maxLen ∧
                              (out.length + (1 : Nat)) * Try.prog.types[(30 : Nat)].bytes ≤ (140737488355328 : Nat)) ∧
                        out.length + (1 : Nat) ≤ out.length + (1 : Nat) ∧
                          (∀ (e : Nat), e < min (out.length + (1 : Nat)) out.length → True) ∧
                            (∀ (e : Nat), e < out.length + (1 : Nat) - out.length → True) ∧
                              ∀ (e : Nat), e < ys.length → True)) ∧
    (decide (i < n) = false →
      out.length ≤ out.length ∧ (∀ (e : Nat), e < out.length → True) ∧ ∀ (e : Nat), e < ys.length → True)
theorem of2_one : ((loopsOf Try.prog 18).filter fun c => Nat.beq (lkey c) 8).length = 1 := by kernel_rfl
abbrev of2_GC : Type := List T × Int × Nat
abbrev of2_GB : Type := List T
def of2_f (g : of2_G) : Int × of2_GC × of2_GB := (g.2.2.2.2, (g.2.2.1, g.2.2.2.1, g.2.1), g.1)
def of2_g (d : Int × of2_GC × of2_GB) : of2_G := (d.2.2, d.2.1.2.2, d.2.1.1, d.2.1.2.1, d.1)
theorem of2_es (g : of2_G) : (of2_R g.1 g.2.1 g.2.2.1 g.2.2.2.1 g.2.2.2.2).1 = .normal ∨ (of2_R g.1 g.2.1 g.2.2.1 g.2.2.2.1 g.2.2.2.2).1 ∈ ([.ret, .exit 0] : List Ex) := by
  unfold of2_R
  repeat' (first | (left; rfl) | (right; simp only [cond_true, cond_false]; simp; done) | (rw [Bool.cond_eq_ite]; split))
noncomputable abbrev of2_C (Inv : of2_G → List Prop) (m : of2_G → Nat) : LCon := loopR [.ret, .exit 0] (loopBody Try.prog 18 8) of2_LP [] 41 Inv (fun g => of2_R g.1 g.2.1 g.2.2.1 g.2.2.2.1 g.2.2.2.2) m
theorem of2_loop (Inv : of2_G → List Prop) (m : of2_G → Nat) (hs : ∀ g, allP (Inv g) → of2_side g.1 g.2.1 g.2.2.1 g.2.2.2.1 g.2.2.2.2) (hg : Goes (fun g : of2_G => of2_R g.1 g.2.1 g.2.2.1 g.2.2.2.1 g.2.2.2.2) m fun g => allP (Inv g)) : ∀ b ∈ loopsOf Try.prog 18, lkey b = 8 → LoopOk Try.prog b (of2_C Inv m).g := loop_run (Γ := (MTab.gamz tabQ [] [])) (Λ := lamO) (MTab.okz tabQ [] []) lamO_ok 100 18 8 41 of2_LP [] Inv (fun g => of2_R g.1 g.2.1 g.2.2.1 g.2.2.2.1 g.2.2.2.2) (fun g => of2_side g.1 g.2.1 g.2.2.1 g.2.2.2.1 g.2.2.2.2) m default [.ret, .exit 0] of2_one (fun rd T B HL HB ds g => by kernel_rfl) (fun rd T B HL HB ds g => by kernel_rfl) hs hg of2_es
noncomputable def tabX46 : MTab Try.prog := tabQ
end Go.Proofs.Ytiipneclghnfhaa

/- Chapter 3: chain.Of: the loop's contract, over a row of one's own. -/
namespace Go.Proofs.Ytiipneclghnfhaa
open Go.RowKit Go.Sx Go.Lp
noncomputable def of2_S (_ : of2_GC) (b : of2_GB) (_ : Int) (v : T) : Ex × of2_GB := (.normal, of1_st b v)
def of2_K (c : of2_GC) (b : of2_GB) (i : Int) : Prop := c.1.length ≤ KS ∧ (List.length b : Int) ≤ i ∧ c.2.2 = c.1.length
abbrev of2_I (g : of2_G) : List Prop := ixI (fun c : of2_GC => c.2.1) (fun c => c.1) of2_K (of2_f g)
abbrev of2_M (g : of2_G) : Nat := ixM (fun c : of2_GC => c.2.1) (of2_f g)
theorem of2_P : ixP of2_S (fun c : of2_GC => c.1) of2_K := by
  rintro ⟨ys, n, l⟩ b i a ⟨h1, h2, h3⟩ _ _
  refine ⟨h1, ?_, h3⟩
  have h2 : (List.length b : Int) ≤ (i : Int) := h2
  show (List.length (of1_st b a) : Int) ≤ (i : Int) + 1
  unfold of1_st
  cases b.any (tleq_F · a) <;> simp <;> omega
theorem of2_q (out : List T) (l : Nat) (ys : List T) (n i : Int) (hm : out.length ≤ maxLen) : ∃ j, of2_q1 out l ys n i = bif out.any (tleq_F · (ys.getD i.toNat eT.dflt)) then (.ret, (out.length : Int), j, (), ys.getD i.toNat eT.dflt, out.length, out, (.done, some (.exit 1))) else (.exit 0, (out.length : Int), j, (), ys.getD i.toNat eT.dflt, out.length, out, (.ready, none)) := by
  unfold of2_q1
  rw [eT.lst_els]
  exact eb_run (out.length : Int) (ys.getD i.toNat eT.dflt) out rfl hm
noncomputable abbrev of2_RR (g : of2_G) : Ex × of2_G := of2_R g.1 g.2.1 g.2.2.1 g.2.2.2.1 g.2.2.2.2
theorem of2_RF (d : Int × of2_GC × of2_GB) (hi : allP (ixI (fun c : of2_GC => c.2.1) (fun c => c.1) of2_K d)) : of2_RR (of2_g d) = ((ixF 0 (fun c : of2_GC => c.2.1) (fun c => c.1) eT.dflt of2_S d).1, of2_g (ixF 0 (fun c : of2_GC => c.2.1) (fun c => c.1) eT.dflt of2_S d).2) := by
  obtain ⟨h1, h2, h3, h4, h5, h6, h7⟩ := hi _ (List.mem_cons_self ..)
  obtain ⟨i, ⟨ys, n, l⟩, out⟩ := d
  have h5 : ys.length ≤ KS := h5
  have h4 : i ≤ (ys.length : Int) := h4
  have h6 : (List.length out : Int) ≤ i := h6
  have hm : out.length ≤ maxLen := by unfold KS at h5; unfold maxLen; omega
  obtain ⟨j, hj⟩ := of2_q out l ys n i hm
  show of2_R out l ys n i = _
  unfold of2_R ixF of2_S of1_st
  rw [hj]
  simp only [eT.lst_els]
  cases decide (i < n) with
  | false => rfl
  | true =>
    simp only [cond_true]
    generalize out.any (tleq_F · (ys.getD i.toNat eT.dflt)) = z
    cases z
    · simp only [cond_false]
      show (bif exB Ex.ret (.exit 0) then _ else _) = _
      simp only [eT.lst_els, lst_app1]
      rfl
    · simp only [cond_true]
      show (bif exB Ex.ret .ret then _ else _) = _
      simp only [eT.lst_els]
      rfl
theorem of2_ok : ∀ b ∈ loopsOf Try.prog 18, lkey b = 8 → LoopOk Try.prog b (of2_C of2_I of2_M).g := by
  refine of2_loop of2_I of2_M (fun g hi => ?_) (ix_conj_goes (fun _ => rfl) (fun _ => rfl) of2_RF of2_P)
  obtain ⟨out, l, ys, n, i⟩ := g
  obtain ⟨h1, h2, h3, h4, h5, h6, h7⟩ := hi _ (List.mem_cons_self ..)
  have h1 : n = (ys.length : Int) := h1
  have h3 : 0 ≤ i := h3
  have h4 : i ≤ (ys.length : Int) := h4
  have h5 : ys.length ≤ KS := h5
  have h6 : (List.length out : Int) ≤ i := h6
  unfold KS at h5
  have hm : out.length ≤ maxLen := by unfold maxLen; omega
  have hs : out.length < 1000000 ∨ ¬ i < (ys.length : Int) := by omega
  have h7 : l = ys.length := h7
  clear hi
  subst h7
  obtain ⟨j, hj⟩ := of2_q out ys.length ys n i hm
  have ha : ∀ e, e < ys.length → True := fun _ _ => trivial
  have hx := ixJ0 (lim := fun c : eb_GC => c.1) (xs := fun c : eb_GC => c.2.2.2) (P := eb_K) (c := ((out.length : Int), ys.getD i.toNat eT.dflt, out.length, out)) (b := ((), LoopState.ready, none)) rfl hm ⟨rfl, rfl⟩
  show of2_side out ys.length ys n i
  unfold of2_side
  rw [hj]
  simp only [bytesT, decide_eq_true_eq, decide_eq_false_iff_not, eT.lst_els]
  refine ⟨fun hc => ⟨⟨h3, by omega⟩, by omega, fun _ _ => trivial, rfl, rfl, hx, fun _ => ?_, fun _ => ?_⟩, fun _ => ⟨Nat.le_refl _, fun _ _ => trivial, ha⟩⟩
  · cases out.any (tleq_F · (ys.getD i.toNat eT.dflt)) <;> exact ⟨Nat.le_refl _, fun _ _ => trivial, ha⟩
  · have hl : out.length ≤ (bif out.any (tleq_F · (ys.getD i.toNat eT.dflt)) then ((Ex.ret, (out.length : Int), j, (), ys.getD i.toNat eT.dflt, out.length, out, (LoopState.done, some (Code.exit 1))) : Ex × eb_G) else (.exit 0, (out.length : Int), j, (), ys.getD i.toNat eT.dflt, out.length, out, (.ready, none))).2.2.2.2.2.2.1.length := by
      cases out.any (tleq_F · (ys.getD i.toNat eT.dflt)) <;> exact Nat.le_refl _
    have hs : out.length < 1000000 := by rcases hs with h | h
                                         · exact h
                                         · exact absurd (by omega) h
    exact ⟨⟨hl, trivial, by unfold maxLen; omega, by omega⟩, Nat.le_refl _, fun _ _ => trivial, fun _ _ => trivial, ha⟩
theorem of2_run (ys : List T) (hm : ys.length ≤ KS) : loopF of2_RR of2_M ([], ys.length, ys, (ys.length : Int), 0) = (.exit 0, greedy tleq_F [] ys, ys.length, ys, (ys.length : Int), (ys.length : Int)) := by
  have hm2 : ys.length ≤ maxLen := by unfold KS at hm; unfold maxLen; omega
  have h1 : loopF of2_RR of2_M ([], ys.length, ys, (ys.length : Int), 0) = _ := ix_conj_run (φ := of2_f) (ψ := of2_g) (fun _ => rfl) (fun _ => rfl) of2_RF of2_P (ys, (ys.length : Int), ys.length) [] rfl hm2 ⟨hm, Int.le_refl _, rfl⟩
  have hs := scan_fold (x := 0) (st := of2_S (ys, (ys.length : Int), ys.length)) (f := of1_st) (fun _ _ _ => rfl) ys 0 []
  rw [of1_greedy] at hs
  rw [h1]
  show ((scan 0 (of2_S (ys, (ys.length : Int), ys.length)) 0 ys []).1, of2_g ((scan 0 (of2_S (ys, (ys.length : Int), ys.length)) 0 ys []).2.1, (ys, (ys.length : Int), ys.length), (scan 0 (of2_S (ys, (ys.length : Int), ys.length)) 0 ys []).2.2)) = _
  rw [hs, Int.zero_add]
  rfl
noncomputable def ltN : LTab Try.prog := ltO.cons 18 8 (lconAlt 0 (of1_C of1_I of1_M) (of2_C of2_I of2_M)) (fun b hb hk => altL_ok (of1_ok b hb hk) (of2_ok b hb hk))
noncomputable abbrev lamN : Lam := ltN.lam
theorem lamN_ok : ∀ f k L, lamN f k = some L → ∀ b ∈ loopsOf Try.prog f, lkey b = k → LoopOk Try.prog b L.g := ltN.ok
end Go.Proofs.Ytiipneclghnfhaa

/- Chapter 3: chain.Of. Printed by treegen.py. -/
namespace Go.Proofs.Ytiipneclghnfhaa
open Go.RowKit Go.Sx
set_option maxRecDepth 100000
set_option linter.unusedVariables false
abbrev rLE : Rv (List T × Int) := .tup (.cons (.list eT) (.one (.of dI)))
noncomputable def cof_q1 (xs : List T) : Ex ×
  of2_G :=
  loopF (fun g => of2_R g.fst g.snd.fst g.snd.snd.fst g.snd.snd.snd.fst g.snd.snd.snd.snd) of2_M
    ([],
      (Lp.compL
          (eT.lst
            (srtBy (fun a b => tcmp_F a b)
                (List.map (fun x => eT.get []) (List.range (min ((0 : Nat) + xs.length) (0 : Nat))) ++
                  eT.lst ((0 : Nat) + xs.length - (0 : Nat)) (eT.els xs))).length
            (eT.els
              (srtBy (fun a b => tcmp_F a b)
                (List.map (fun x => eT.get []) (List.range (min ((0 : Nat) + xs.length) (0 : Nat))) ++
                  eT.lst ((0 : Nat) + xs.length - (0 : Nat)) (eT.els xs)))))).length,
      eT.lst
        (Lp.compL
            (eT.lst
              (srtBy (fun a b => tcmp_F a b)
                  (List.map (fun x => eT.get []) (List.range (min ((0 : Nat) + xs.length) (0 : Nat))) ++
                    eT.lst ((0 : Nat) + xs.length - (0 : Nat)) (eT.els xs))).length
              (eT.els
                (srtBy (fun a b => tcmp_F a b)
                  (List.map (fun x => eT.get []) (List.range (min ((0 : Nat) + xs.length) (0 : Nat))) ++
                    eT.lst ((0 : Nat) + xs.length - (0 : Nat)) (eT.els xs)))))).length
        (eT.els
          (Lp.compL
            (eT.lst
              (srtBy (fun a b => tcmp_F a b)
                  (List.map (fun x => eT.get []) (List.range (min ((0 : Nat) + xs.length) (0 : Nat))) ++
                    eT.lst ((0 : Nat) + xs.length - (0 : Nat)) (eT.els xs))).length
              (eT.els
                (srtBy (fun a b => tcmp_F a b)
                  (List.map (fun x => eT.get []) (List.range (min ((0 : Nat) + xs.length) (0 : Nat))) ++
                    eT.lst ((0 : Nat) + xs.length - (0 : Nat)) (eT.els xs))))))),
      (↑(Lp.compL
              (eT.lst
                (srtBy (fun a b => tcmp_F a b)
                    (List.map (fun x => eT.get []) (List.range (min ((0 : Nat) + xs.length) (0 : Nat))) ++
                      eT.lst ((0 : Nat) + xs.length - (0 : Nat)) (eT.els xs))).length
                (eT.els
                  (srtBy (fun a b => tcmp_F a b)
                    (List.map (fun x => eT.get []) (List.range (min ((0 : Nat) + xs.length) (0 : Nat))) ++
                      eT.lst ((0 : Nat) + xs.length - (0 : Nat)) (eT.els xs)))))).length :
        Int),
      (0 : Int))
noncomputable def cof_q2 (xs : List T) : Ex ×
  of2_G :=
  loopF (fun g => of2_R g.fst g.snd.fst g.snd.snd.fst g.snd.snd.snd.fst g.snd.snd.snd.snd) of2_M
    ([], (0 : Nat), [], (0 : Int), (0 : Int))
noncomputable def cof_F (xs : List T) : Rv.T rLE :=
  bif badC (eT.lst xs.length (eT.els xs)) != (0 : Int) then ([], badC (eT.lst xs.length (eT.els xs)))
  else
    bif exB Ex.ret (cof_q1 xs).fst then ([], (0 : Int))
    else
      bif decide ((↑(cof_q1 xs).snd.fst.length : Int) > (1024 : Int)) then ([], (3 : Int))
      else (eT.lst (cof_q1 xs).snd.fst.length (eT.els (cof_q1 xs).snd.fst), (0 : Int))
def cof_side (xs : List T) : Prop :=
  (∀ (e : Nat), e < xs.length → eT.Ok (eT.els xs e)) ∧
    ((badC (eT.lst xs.length (eT.els xs)) != (0 : Int)) = false →
      ∀ (cs : List Nat),
        (cs.isEmpty = false → xs.length = (0 : Nat)) →
          ((false != !cs.isEmpty) = true →
              (0 : Nat) = (0 : Nat) ∧
                (∀ (e : Nat), e < (0 : Nat) → eT.OkP []) ∧
                  (0 : Nat) < (4611686018427387904 : Nat) ∧
                    (0 : Nat) = (0 : Nat) ∧
                      (∀ (e : Nat), e < (0 : Nat) → eT.OkP []) ∧
                        (∀ (e : Nat), e < (0 : Nat) → True) ∧
                          Lp.ixJ (fun c => c.snd.fst) (fun c => c.fst) of2_K
                              (of2_f ([], (0 : Nat), [], (0 : Int), (0 : Int))) ∧
                            (exB Ex.ret (cof_q2 xs).fst = true →
                                ∀ (d : List T × Int),
                                  ([], (0 : Int)) =
                                    bif exB Ex.ret (cof_q1 xs).fst then ([], (0 : Int))
                                    else
                                      bif decide ((↑(cof_q1 xs).snd.fst.length : Int) > (1024 : Int)) then ([], (3 : Int))
                                      else (eT.lst (cof_q1 xs).snd.fst.length (eT.els (cof_q1 xs).snd.fst), (0 : Int))) ∧
                              (exB Ex.ret (cof_q2 xs).fst = false →
                                (decide ((↑(cof_q2 xs).snd.fst.length : Int) > (1024 : Int)) = true →
                                    ∀ (d : List T × Int),
                                      ([], (3 : Int)) =
                                        bif exB Ex.ret (cof_q1 xs).fst then ([], (0 : Int))
                                        else
                                          bif decide ((↑(cof_q1 xs).snd.fst.length : Int) > (1024 : Int)) then ([], (3 : Int))
                                          else (eT.lst (cof_q1 xs).snd.fst.length (eT.els (cof_q1 xs).snd.fst), (0 : Int))) ∧
                                  (decide ((↑(cof_q2 xs).snd.fst.length : Int) > (1024 : Int)) = false →
                                    (cof_q2 xs).snd.fst.length ≤ (cof_q2 xs).snd.fst.length ∧
                                      (∀ (e : Nat), e < (cof_q2 xs).snd.fst.length → True) ∧
                                        ∀ (d : List T × Int),
                                          (eT.lst (cof_q2 xs).snd.fst.length (eT.els (cof_q2 xs).snd.fst), (0 : Int)) =
                                            bif exB Ex.ret (cof_q1 xs).fst then ([], (0 : Int))
                                            else
                                              bif decide ((↑(cof_q1 xs).snd.fst.length : Int) > (1024 : Int)) then ([], (3 : Int))
                                              else (eT.lst (cof_q1 xs).snd.fst.length (eT.els (cof_q1 xs).snd.fst), (0 : Int))))) ∧
            ((false != !cs.isEmpty) = false →
              ((0 : Nat) ≤ (0 : Nat) ∧
                  (∀ (e : Nat), e < xs.length → (eT.els xs e).all SV.one = true) ∧
                    (0 : Nat) + xs.length ≤ maxLen ∧
                      ((0 : Nat) + xs.length) * Try.prog.types[(30 : Nat)].bytes ≤ (140737488355328 : Nat)) ∧
                (0 : Nat) + xs.length = (0 : Nat) + xs.length ∧
                  (∀ (e : Nat), e < min ((0 : Nat) + xs.length) (0 : Nat) → eT.OkP []) ∧
                    (∀ (e : Nat), e < (0 : Nat) + xs.length - (0 : Nat) → True) ∧
                      (List.map (fun x => eT.get []) (List.range (min ((0 : Nat) + xs.length) (0 : Nat))) ++
                              eT.lst ((0 : Nat) + xs.length - (0 : Nat)) (eT.els xs)).length <
                          (4611686018427387904 : Nat) ∧
                        (0 : Nat) + xs.length =
                            (srtBy (fun a b => tcmp_F a b)
                                (List.map (fun x => eT.get []) (List.range (min ((0 : Nat) + xs.length) (0 : Nat))) ++
                                  eT.lst ((0 : Nat) + xs.length - (0 : Nat)) (eT.els xs))).length ∧
                          (∀ (e : Nat),
                              e <
                                  (srtBy (fun a b => tcmp_F a b)
                                      (List.map (fun x => eT.get [])
                                          (List.range (min ((0 : Nat) + xs.length) (0 : Nat))) ++
                                        eT.lst ((0 : Nat) + xs.length - (0 : Nat)) (eT.els xs))).length →
                                True) ∧
                            (∀ (e : Nat),
                                e <
                                    (Lp.compL
                                        (eT.lst
                                          (srtBy (fun a b => tcmp_F a b)
                                              (List.map (fun x => eT.get [])
                                                  (List.range (min ((0 : Nat) + xs.length) (0 : Nat))) ++
                                                eT.lst ((0 : Nat) + xs.length - (0 : Nat)) (eT.els xs))).length
                                          (eT.els
                                            (srtBy (fun a b => tcmp_F a b)
                                              (List.map (fun x => eT.get [])
                                                  (List.range (min ((0 : Nat) + xs.length) (0 : Nat))) ++
                                                eT.lst ((0 : Nat) + xs.length - (0 : Nat)) (eT.els xs)))))).length →
                                  True) ∧
                              Lp.ixJ (fun c => c.snd.fst) (fun c => c.fst) of2_K
                                  (of2_f
                                    ([],
                                      (Lp.compL
                                          (eT.lst
                                            (srtBy (fun a b => tcmp_F a b)
                                                (List.map (fun x => eT.get [])
                                                    (List.range (min ((0 : Nat) + xs.length) (0 : Nat))) ++
                                                  eT.lst ((0 : Nat) + xs.length - (0 : Nat)) (eT.els xs))).length
                                            (eT.els
                                              (srtBy (fun a b => tcmp_F a b)
                                                (List.map (fun x => eT.get [])
                                                    (List.range (min ((0 : Nat) + xs.length) (0 : Nat))) ++
                                                  eT.lst ((0 : Nat) + xs.length - (0 : Nat)) (eT.els xs)))))).length,
                                      eT.lst
                                        (Lp.compL
                                            (eT.lst
                                              (srtBy (fun a b => tcmp_F a b)
                                                  (List.map (fun x => eT.get [])
                                                      (List.range (min ((0 : Nat) + xs.length) (0 : Nat))) ++
                                                    eT.lst ((0 : Nat) + xs.length - (0 : Nat)) (eT.els xs))).length
                                              (eT.els
                                                (srtBy (fun a b => tcmp_F a b)
                                                  (List.map (fun x => eT.get [])
                                                      (List.range (min ((0 : Nat) + xs.length) (0 : Nat))) ++
                                                    eT.lst ((0 : Nat) + xs.length - (0 : Nat)) (eT.els xs)))))).length
                                        (eT.els
                                          (Lp.compL
                                            (eT.lst
                                              (srtBy (fun a b => tcmp_F a b)
                                                  (List.map (fun x => eT.get [])
                                                      (List.range (min ((0 : Nat) + xs.length) (0 : Nat))) ++
                                                    eT.lst ((0 : Nat) + xs.length - (0 : Nat)) (eT.els xs))).length
                                              (eT.els
                                                (srtBy (fun a b => tcmp_F a b)
                                                  (List.map (fun x => eT.get [])
                                                      (List.range (min ((0 : Nat) + xs.length) (0 : Nat))) ++
                                                    eT.lst ((0 : Nat) + xs.length - (0 : Nat)) (eT.els xs))))))),
                                      (↑(Lp.compL
                                              (eT.lst
                                                (srtBy (fun a b => tcmp_F a b)
                                                    (List.map (fun x => eT.get [])
                                                        (List.range (min ((0 : Nat) + xs.length) (0 : Nat))) ++
                                                      eT.lst ((0 : Nat) + xs.length - (0 : Nat)) (eT.els xs))).length
                                                (eT.els
                                                  (srtBy (fun a b => tcmp_F a b)
                                                    (List.map (fun x => eT.get [])
                                                        (List.range (min ((0 : Nat) + xs.length) (0 : Nat))) ++
                                                      eT.lst ((0 : Nat) + xs.length - (0 : Nat)) (eT.els xs)))))).length :
                                        Int),
                                      (0 : Int))) ∧
                                (exB Ex.ret (cof_q1 xs).fst = true →
                                    ∀ (d : List T × Int),
                                      ([], (0 : Int)) =
                                        bif exB Ex.ret (cof_q1 xs).fst then ([], (0 : Int))
                                        else
                                          bif decide ((↑(cof_q1 xs).snd.fst.length : Int) > (1024 : Int)) then ([], (3 : Int))
                                          else (eT.lst (cof_q1 xs).snd.fst.length (eT.els (cof_q1 xs).snd.fst), (0 : Int))) ∧
                                  (exB Ex.ret (cof_q1 xs).fst = false →
                                    (decide ((↑(cof_q1 xs).snd.fst.length : Int) > (1024 : Int)) = true →
                                        ∀ (d : List T × Int),
                                          ([], (3 : Int)) =
                                            bif exB Ex.ret (cof_q1 xs).fst then ([], (0 : Int))
                                            else
                                              bif decide ((↑(cof_q1 xs).snd.fst.length : Int) > (1024 : Int)) then ([], (3 : Int))
                                              else (eT.lst (cof_q1 xs).snd.fst.length (eT.els (cof_q1 xs).snd.fst), (0 : Int))) ∧
                                      (decide ((↑(cof_q1 xs).snd.fst.length : Int) > (1024 : Int)) = false →
                                        (cof_q1 xs).snd.fst.length ≤ (cof_q1 xs).snd.fst.length ∧
                                          (∀ (e : Nat), e < (cof_q1 xs).snd.fst.length → True) ∧
                                            ∀ (d : List T × Int),
                                              (eT.lst (cof_q1 xs).snd.fst.length (eT.els (cof_q1 xs).snd.fst), (0 : Int)) =
                                                bif exB Ex.ret (cof_q1 xs).fst then ([], (0 : Int))
                                                else
                                                  bif decide ((↑(cof_q1 xs).snd.fst.length : Int) > (1024 : Int)) then
                                                    ([], (3 : Int))
                                                  else (eT.lst (cof_q1 xs).snd.fst.length (eT.els (cof_q1 xs).snd.fst), (0 : Int))))))
theorem cof_okS (pre : DA.T aL → List Prop) (h : ∀ g, DA.bd aL g → (∀ p ∈ pre g, p) → cof_side g) : FnPure Try.prog 18 aL (Rv.D rLE) (fun g => cof_F g) pre := res_of_side (R := rLE) (Γ := (MTab.gamz tabQ [] [])) (Λ := lamN) (MTab.okz tabQ [] []) lamN_ok 100 default (fun g => cof_side g) (fun g => by kernel_rfl) (fun g => by kernel_rfl) h
noncomputable def tabX48 : MTab Try.prog := tabQ
end Go.Proofs.Ytiipneclghnfhaa

/- Chapter 3: is one not covered. Printed by treegen.py. -/
namespace Go.Proofs.Ytiipneclghnfhaa
open Go.RowKit Go.Sx
set_option maxRecDepth 100000
set_option linter.unusedVariables false
noncomputable def cfc_F (xs : List T) (l : List T) : Dv.T dBool :=
  decide (ixc_F (eT.lst xs.length (eT.els xs)) (eT.lst l.length (eT.els l)) ≥ (0 : Int))
def cfc_side (xs : List T) (l : List T) : Prop :=
  (∀ (e : Nat), e < xs.length → eT.Ok (eT.els xs e)) ∧ ∀ (e : Nat), e < l.length → eT.Ok (eT.els l e)
theorem cfc_okS (pre : DA.T aFl → List Prop) (h : ∀ g, DA.bd aFl g → (∀ p ∈ pre g, p) → cfc_side g.1 g.2) : FnPure Try.prog 75 aFl dBool (fun g => cfc_F g.1 g.2) pre := pure_of_sideS (Γ := (PTab.gamz tabU [] [])) (Λ := noΛ) (PTab.okz tabU [] []) noΛ_ok 100 default (fun g => cfc_side g.1 g.2) (fun g => by kernel_rfl) (fun g => by kernel_rfl) h
noncomputable def tabX37 : PTab Try.prog := tabU
end Go.Proofs.Ytiipneclghnfhaa

/- A call to which rows of one's own are handed for good: they are frozen first. -/
namespace Go.Sx
open Go.RowKit
def frz1 (h : SH) : SV → SV × SH × List Prop
  | .ow i l => match h.get i with
    | .row _ sz el m => (.rs sz l el, h.set i .dead, [l ≤ m])
    | _ => (.ow i l, h, [])
  | .sl i o l c => match h.get i with
    | .cells xs _ => bif Nat.ble l c && (Nat.ble c 16777216 && Nat.ble (o + l * ((xs.length - o) / c)) xs.length) then (.rs ((xs.length - o) / c) l (fun e => (xs.drop (o + e * ((xs.length - o) / c))).take ((xs.length - o) / c)), h.set i .dead, []) else (.u, h, [])
    | _ => (.sl i o l c, h, [])
  | s => (s, h, [])
def frzA : SH → List SV → List SV × SH × List Prop
  | h, [] => ([], h, [])
  | h, s :: r => ((frz1 h s).1 :: (frzA (frz1 h s).2.1 r).1, (frzA (frz1 h s).2.1 r).2.1, (frz1 h s).2.2 ++ (frzA (frz1 h s).2.1 r).2.2)
def frzC (c : Con) : Con := fun args h => asks (frzA h args).2.2 (c (frzA h args).1 (frzA h args).2.1)
theorem frz1_b (h : SH) (s : SV) : (frz1 h s).2.1.b = h.b ∧ (frz1 h s).2.1.nx = h.nx := by
  unfold frz1
  split
  · split <;> exact ⟨rfl, rfl⟩
  · split
    · rw [Bool.cond_eq_ite]; split <;> exact ⟨rfl, rfl⟩
    · exact ⟨rfl, rfl⟩
  · exact ⟨rfl, rfl⟩
theorem frzA_b : ∀ (args : List SV) (h : SH), (frzA h args).2.1.b = h.b ∧ (frzA h args).2.1.nx = h.nx
  | [], h => ⟨rfl, rfl⟩
  | s :: r, h => by
    obtain ⟨h1, h2⟩ := frz1_b h s
    obtain ⟨h3, h4⟩ := frzA_b r (frz1 h s).2.1
    exact ⟨h3.trans h1, h4.trans h2⟩
section
variable {P : Program} {M : Nat → Prop} {w0 w : World}
theorem frz1_ok {ρ : Rh} {h : SH} {s : SV} {x : Value} (hm : HM M w0 ρ h w) (hf : s.fit h.nx ρ x) (hp : ∀ p ∈ (frz1 h s).2.2, p) : ∃ ρ', Agree h.nx ρ ρ' ∧ HM M w0 ρ' (frz1 h s).2.1 w ∧ (frz1 h s).1.fit h.nx ρ' x := by
  generalize hr : frz1 h s = r at hp ⊢
  unfold frz1 at hr
  split at hr
  · rename_i i l
    split at hr
    · rename_i t sz el m hg
      subst hr
      have hl : l ≤ m := hp _ (List.mem_cons_self ..)
      have hob := hm.ob i
      rw [hg] at hob
      obtain ⟨hil, ⟨hnl, rfl, ad, rfl⟩ | ⟨hnl, hlc, rfl⟩⟩ := hf
      · exact ⟨ρ, Agree.refl _ _, hm.forget i, rs_nil0 _ _ _⟩
      · rcases hob.2 with ⟨hnl', _⟩ | ⟨_, hoff, c, fz, hob', _, hcs, hmc, hcm, hall⟩
        · rw [hnl] at hnl'; cases hnl'
        · have hown : (h.get i).own (ρ i) := by rw [hg]; exact hnl
          have hag : Agree h.nx ρ (ρ.frz (ρ i).blk _) := agree_frz (n := h.nx) ρ (o := .cells c t fz) (hm.sep i hown)
          refine ⟨_, hag, HM.freeze hm hown hob', ?_⟩
          refine ⟨_, _, rfl, hlc, by omega, fun _ => ⟨_, 0, c, t, fz, rfl, ?_, fun e he => ?_⟩⟩
          · simp [Rh.frz]
          · obtain ⟨vs, q1, q2, q3⟩ := hall e (by omega)
            exact ⟨vs, q1, SV.fits_mono (Nat.le_refl _) hag _ _ q2, q3⟩
    · subst hr; exact ⟨ρ, Agree.refl _ _, hm, hf⟩
  · rename_i i o l c
    split at hr
    · rename_i xs t hg
      cases hb : Nat.ble l c && (Nat.ble c 16777216 && Nat.ble (o + l * ((xs.length - o) / c)) xs.length) with
      | false => rw [hb] at hr; subst hr; exact ⟨ρ, Agree.refl _ _, hm, trivial⟩
      | true =>
        rw [hb] at hr
        subst hr
        simp only [Bool.and_eq_true] at hb
        have b1 := Nat.le_of_ble_eq_true hb.1
        have b2 := Nat.le_of_ble_eq_true hb.2.1
        have b3 := Nat.le_of_ble_eq_true hb.2.2
        have hob := hm.ob i
        rw [hg] at hob
        obtain ⟨hil, rfl⟩ := hf
        obtain ⟨_, hoff, v, hob', hfl⟩ := hob
        have hll := fits_length hfl
        have hown : (h.get i).own (ρ i) := by rw [hg]; trivial
        have hag : Agree h.nx ρ (ρ.frz (ρ i).blk _) := agree_frz (n := h.nx) ρ (o := .cells v.toArray t (0, 0)) (hm.sep i hown)
        refine ⟨_, hag, HM.freeze hm hown hob', ?_⟩
        show (SV.rs ((xs.length - o) / c) l (fun e => (xs.drop (o + e * ((xs.length - o) / c))).take ((xs.length - o) / c))).fit h.nx _ _
        generalize (xs.length - o) / c = sz at b3 ⊢
        refine ⟨_, _, rfl, b1, by unfold maxLen; omega, fun _ => ⟨_, _, v.toArray, t, (0, 0), rfl, by simp [Rh.frz], fun e he => ?_⟩⟩
        have hle : o + e * sz + sz ≤ xs.length := by
          have := Nat.mul_le_mul_right sz (show e + 1 ≤ l by omega)
          rw [Nat.add_mul, Nat.one_mul] at this
          omega
        refine ⟨(v.drop (o + e * sz)).take sz, by simp; omega, SV.fits_mono (Nat.le_refl _) hag _ _ (fits_take _ (fits_drop _ hfl)), fun j y hy => ?_⟩
        rw [List.getElem?_take] at hy
        split at hy
        · rw [List.getElem?_drop] at hy
          rw [hoff]
          simpa [Nat.add_assoc] using hy
        · cases hy
    · subst hr; exact ⟨ρ, Agree.refl _ _, hm, hf⟩
  · subst hr; exact ⟨ρ, Agree.refl _ _, hm, hf⟩
theorem frzA_ok : ∀ {args : List SV} {ρ : Rh} {h : SH} {vs : List Value}, HM M w0 ρ h w → SV.fits h.nx ρ args vs → (∀ p ∈ (frzA h args).2.2, p) → ∃ ρ', Agree h.nx ρ ρ' ∧ HM M w0 ρ' (frzA h args).2.1 w ∧ SV.fits h.nx ρ' (frzA h args).1 vs
  | [], ρ, h, vs, hm, hf, _ => ⟨ρ, Agree.refl _ _, hm, hf⟩
  | s :: r, ρ, h, vs, hm, hf, hp => by
    obtain ⟨y, ys, rfl, hy, hr⟩ := fits_cons hf
    simp only [frzA] at hp ⊢
    obtain ⟨ρ1, a1, m1, f1⟩ := frz1_ok hm hy fun p hq => hp p (List.mem_append_left _ hq)
    have hnx := (frz1_b h s).2
    have hr1 : SV.fits (frz1 h s).2.1.nx ρ1 r ys := by rw [hnx]; exact SV.fits_mono (Nat.le_refl _) a1 _ _ hr
    obtain ⟨ρ2, a2, m2, f2⟩ := frzA_ok (args := r) m1 hr1 fun p hq => hp p (List.mem_append_right _ hq)
    rw [hnx] at a2 f2
    exact ⟨ρ2, a1.trans (Nat.le_refl _) a2, m2, SV.fit_mono (Nat.le_refl _) a2 _ _ f1, f2⟩
theorem frzC_ok {f : Nat} {c : Con} (hc : FnOk P f c) : FnOk P f (frzC c) := by
  intro M w0 w ρ h args vs K hK hm hf
  obtain ⟨hq, hK⟩ := asks_holds hK
  obtain ⟨ρ1, a1, m1, f1⟩ := frzA_ok hm hf hq
  have hnx := (frzA_b args h).2
  refine (hc M w0 w ρ1 _ _ vs K hK m1 (by rw [hnx]; exact f1)).mono ?_
  rintro e w' ⟨s, h', ρ', x, k1, k2, k3, k4, k5, k6⟩
  rw [hnx] at k2 k3
  exact ⟨s, h', ρ', x, k1, k2, a1.trans (Nat.le_refl _) k3, k4, k5, k6⟩
theorem frzC_b {c : Con} (hc : ∀ args h, (c args h).Each fun y => y.2 = h) : ConB (frzC c) := fun args h => by
  have hb := (frzA_b args h).1
  refine asks_each ?_
  have := eq_b (hc (frzA h args).1 (frzA h args).2.1)
  rw [hb] at this
  exact this
def fconR {γ δ : Type} (D : DA γ) (R : Dv δ) (fn : γ → δ) (pre : γ → List Prop) : BCon := ⟨frzC (conR D R fn pre), frzC_b (pconR D R fn pre).e⟩
theorem fconR_ok {f : Nat} {γ δ : Type} {D : DA γ} {R : Dv δ} {fn : γ → δ} {pre : γ → List Prop} (h : FnPure P f D R fn pre) : FnOk P f (fconR D R fn pre).g := frzC_ok (conR_ok h)
theorem asks_intro {α : Type} {K : α → Prop} : ∀ {l : List Prop} {t : Tr α}, (∀ p ∈ l, p) → t.Holds K → (asks l t).Holds K
  | [], _, _, h => h
  | p :: r, t, hl, h => ⟨hl p (List.mem_cons_self ..), asks_intro (l := r) (fun q hq => hl q (List.mem_cons_of_mem _ hq)) h⟩
/-- The first argument is a list, handed for good: if it is a row of one's own, it is frozen. -/
def conL {α γ δ : Type} (A : El α) (D : DA γ) (R : Dv δ) (fn : List α × γ → δ) (pre : List α × γ → List Prop) : Con := fun args h =>
  match args with
  | .ow i l :: rest => match h.get i with
    | .row _ sz el m => match Nat.beq sz A.sz with
      | true => match D.dec rest with
        | some (g, ps) => asks ((l ≤ m) :: (A.okE l el ++ (ps ++ pre (A.lstE l el, g)))) (.ret (R.enc (fn (A.lstE l el, g)), h.set i .dead))
        | none => .bad 658
      | false => .bad 659
    | _ => .bad 660
  | args => frzC (conR (.cons (.list A) D) R fn pre) args h
theorem conL_ok {f : Nat} {α γ δ : Type} {A : El α} {D : DA γ} {R : Dv δ} {fn : List α × γ → δ} {pre : List α × γ → List Prop} (hp : FnPure P f (.cons (.list A) D) R fn pre) : FnOk P f (conL A D R fn pre) := by
  intro M w0 w ρ h args vs K hK hm hf
  unfold conL at hK
  split at hK
  · rename_i i l rest
    split at hK
    · rename_i t sz el m hg
      split at hK
      · rename_i hb
        split at hK
        · rename_i g ps hd
          obtain ⟨hq, hK⟩ := asks_holds hK
          have hlm : l ≤ m := hq _ (List.mem_cons_self ..)
          have hok : ∀ e, e < l → A.Ok (el.at e) := A.okE_ok l el fun p h' => hq p (List.mem_cons_of_mem _ (List.mem_append_left _ h'))
          have hps : ∀ p ∈ ps, p := fun p h' => hq p (List.mem_cons_of_mem _ (List.mem_append_right _ (List.mem_append_left _ h')))
          have hpre : ∀ p ∈ pre (A.lstE l el, g), p := fun p h' => hq p (List.mem_cons_of_mem _ (List.mem_append_right _ (List.mem_append_right _ h')))
          rw [A.lstE_eq] at hpre hK
          obtain ⟨y, ys, rfl, hy, hr⟩ := fits_cons hf
          have e1 : frz1 h (.ow i l) = (.rs sz l el.at, h.set i .dead, [l ≤ m]) := by simp [frz1, hg]
          obtain ⟨ρ1, a1, m1, f1⟩ := frz1_ok (s := .ow i l) hm hy (by rw [e1]; intro p hp'; simp only [List.mem_singleton] at hp'; rw [hp']; exact hlm)
          rw [e1] at m1 f1
          have hdec : (DA.cons (.list A) D).dec (.rs sz l el.at :: rest) = some ((A.lst l el.at, g), [∀ e, e < l → A.Ok (el.at e)] ++ ps) := by
            simp only [DA.cons, Dv.list, hb, hd, cond_true]
          have hK1 : (conR (.cons (.list A) D) R fn pre (.rs sz l el.at :: rest) (h.set i .dead)).Holds K := by
            unfold conR
            rw [hdec]
            refine asks_intro (fun p h' => ?_) hK
            rcases List.mem_append.1 h' with h' | h'
            · rcases List.mem_append.1 h' with h' | h'
              · simp only [List.mem_singleton] at h'
                rw [h']; exact hok
              · exact hps p h'
            · exact hpre p h'
          refine (conR_ok hp M w0 w ρ1 (h.set i .dead) (.rs sz l el.at :: rest) (y :: ys) K hK1 m1 ⟨f1, SV.fits_mono (Nat.le_refl _) a1 _ _ hr⟩).mono ?_
          rintro e w' ⟨s, h', ρ', x, k1, k2, k3, k4, k5, k6⟩
          exact ⟨s, h', ρ', x, k1, k2, a1.trans (Nat.le_refl _) k3, k4, k5, k6⟩
        · exact hK.elim
      · exact hK.elim
    · exact hK.elim
  · exact frzC_ok (conR_ok hp) M w0 w ρ h _ vs K hK hm hf
theorem conL_b {α γ δ : Type} {A : El α} {D : DA γ} {R : Dv δ} {fn : List α × γ → δ} {pre : List α × γ → List Prop} : ConB (conL A D R fn pre) := fun args h => by
  unfold conL
  split
  · split
    · split
      · split
        · exact asks_each rfl
        · trivial
      · trivial
    · trivial
  · exact frzC_b (pconR (.cons (.list A) D) R fn pre).e _ h
def lconR {α γ δ : Type} (A : El α) (D : DA γ) (R : Dv δ) (fn : List α × γ → δ) (pre : List α × γ → List Prop) : BCon := ⟨conL A D R fn pre, conL_b⟩
theorem pure_none {f : Nat} {α δ : Type} {A : Dv α} {R : Dv δ} {fn : α → δ} {pre : α → List Prop} (h : FnPure P f (.one A) R fn pre) : FnPure P f (.cons A .none) R (fun g => fn g.1) (fun g => pre g.1) := fun w F g vs h1 h2 h3 => h w F g.1 vs h1 h2 h3
/-- Elements that are all known. -/
def okAll {α : Type} (A : El α) (n : Nat) (el : Nat → List SV) : Bool := (List.range n).all fun e => match A.decs (el e) with
  | some (_, []) => true
  | _ => false
theorem okAll_ok {α : Type} {A : El α} {n : Nat} {el : Nat → List SV} (h : okAll A n el = true) : ∀ e, e < n → A.Ok (el e) := fun e he => by
  have := List.all_eq_true.1 h e (by simpa using he)
  split at this
  · rename_i a hd
    exact ⟨a, [], hd, by simp⟩
  · cases this
/-- As Dv.list, where the elements are looked at one by one. -/
def Dv.listB {α : Type} (A : El α) : Dv (List α) where
  dec s := match s with
    | .rs sz n el => bif Nat.beq sz A.sz && okAll A n el then some (A.lst n el, []) else none
    | _ => none
  enc := (Dv.list A).enc
  bd := (Dv.list A).bd
  cl := (Dv.list A).cl
  ok s a ps n ρ x hd hp hf := by
    split at hd
    · rename_i sz m el
      cases hb : (Nat.beq sz A.sz && okAll A m el) with
      | false => rw [hb] at hd; cases hd
      | true =>
        rw [hb] at hd
        simp only [cond_true, Option.some.injEq, Prod.mk.injEq] at hd
        obtain ⟨rfl, rfl⟩ := hd
        simp only [Bool.and_eq_true] at hb
        exact (Dv.list A).ok (.rs sz m el) _ [∀ e, e < m → A.Ok (el e)] n ρ x (by simp [Dv.list, hb.1]) (by
          intro p hp
          simp only [List.mem_singleton] at hp
          subst hp
          exact okAll_ok hb.2) hf
    · cases hd
  fb := (Dv.list A).fb
end
end Go.Sx

/- Chapter 3: is one not covered: the contract. -/
namespace Go.Proofs.Ytiipneclghnfhaa
open Go.RowKit Go.Sx Go.Lp
theorem cfc_ok : FnPure Try.prog 75 aFl dBool (fun g => g.1.any (fun v => !g.2.any (tleq_F · v))) (fun _ => []) := by
  refine pure_congr (cfc_okS _ fun g hb hp => ⟨okT g.1, okT g.2⟩) fun g hb hp => ?_
  show cfc_F g.1 g.2 = _
  unfold cfc_F
  simp only [eT.lst_els]
  exact ixc_pos g.1 g.2 hb.1.1
noncomputable def tabV : PTab Try.prog := tabU.cons 75 (pconAlt 113 (pconP aFt dBool (fun g => g.1.any (difD g.2)) (fun g => [0 < g.1.length → 0 < g.2.length])) (pconAlt 104 (pconP aFl dBool (fun g => g.1.any (fun v => !g.2.any (tleq_F · v))) (fun _ => [])) (pconP aFc dBool (fun g => g.1.any (tleq_F · g.2)) (fun _ => [])))) (alt_ok (conP_ok cfa_ok puB) (alt_ok (conP_ok cfc_ok puB) (conP_ok cfb_ok puB)))
noncomputable def tabW : MTab Try.prog := (MTab.of tabV).consM 31 (lconR eT DA.none dLE (fun g => ofC g.1) (fun g => [g.1.length ≤ KS])) (conL_ok (pure_none rof_ok))
end Go.Proofs.Ytiipneclghnfhaa

/- Chapter 3: Leq, both, the document's two, Insert, Meet; All. Printed by treegen.py. -/
namespace Go.Proofs.Ytiipneclghnfhaa
open Go.RowKit Go.Sx
set_option maxRecDepth 100000
set_option linter.unusedVariables false
abbrev dLBE : Dv (List T × Bool × Int) := .tup (.cons dLT (.cons dBool (.one dI)))
noncomputable def clq_F (ys : List T) (xs : List T) : Dv.T dBool :=
  !(eT.lst xs.length (eT.els xs)).any fun v => !(eT.lst ys.length (eT.els ys)).any fun x => tleq_F x v
def clq_side (ys : List T) (xs : List T) : Prop :=
  (∀ (e : Nat), e < xs.length → eT.Ok (eT.els xs e)) ∧ ∀ (e : Nat), e < ys.length → eT.Ok (eT.els ys e)
theorem clq_okS (pre : DA.T aLL → List Prop) (h : ∀ g, DA.bd aLL g → (∀ p ∈ pre g, p) → clq_side g.1 g.2) : FnPure Try.prog 55 aLL dBool (fun g => clq_F g.1 g.2) pre := pure_of_sideS (Γ := (MTab.gamz tabW [] [])) (Λ := noΛ) (MTab.okz tabW [] []) noΛ_ok 100 default (fun g => clq_side g.1 g.2) (fun g => by kernel_rfl) (fun g => by kernel_rfl) h
noncomputable def bth_F (xs : List T) (ys : List T) : Dv.T dI :=
  bif chkC (eT.lst xs.length (eT.els xs)) != (0 : Int) then chkC (eT.lst xs.length (eT.els xs))
  else
    bif chkC (eT.lst ys.length (eT.els ys)) != (0 : Int) then chkC (eT.lst ys.length (eT.els ys))
    else
      bif
          decide ((↑xs.length : Int) > (0 : Int)) &&
            (decide ((↑ys.length : Int) > (0 : Int)) &&
              (xs.getD (0 : Nat) eT.dflt).d != (ys.getD (0 : Nat) eT.dflt).d) then
        (11 : Int)
      else (0 : Int)
def bth_side (xs : List T) (ys : List T) : Prop :=
  (∀ (e : Nat), e < xs.length → eT.Ok (eT.els xs e)) ∧
    ((chkC (eT.lst xs.length (eT.els xs)) != (0 : Int)) = false →
      (∀ (e : Nat), e < ys.length → eT.Ok (eT.els ys e)) ∧
        ((chkC (eT.lst ys.length (eT.els ys)) != (0 : Int)) = false →
          (decide ((↑xs.length : Int) > (0 : Int)) = true →
              decide ((↑ys.length : Int) > (0 : Int)) = true → (0 : Int) ≤ (0 : Int) ∧ (0 : Int) < (↑xs.length : Int)) ∧
            (decide ((↑xs.length : Int) > (0 : Int)) = true →
              decide ((↑ys.length : Int) > (0 : Int)) = true → (0 : Int) ≤ (0 : Int) ∧ (0 : Int) < (↑ys.length : Int))))
theorem bth_okS (pre : DA.T aLL → List Prop) (h : ∀ g, DA.bd aLL g → (∀ p ∈ pre g, p) → bth_side g.1 g.2) : FnPure Try.prog 99 aLL dI (fun g => bth_F g.1 g.2) pre := pure_of_sideS (Γ := (MTab.gamz tabW [] [])) (Λ := noΛ) (MTab.okz tabW [] []) noΛ_ok 100 default (fun g => bth_side g.1 g.2) (fun g => by kernel_rfl) (fun g => by kernel_rfl) h
noncomputable def two_F (xs : List T) (ys : List T) : Dv.T dI :=
  bif chkC (eT.lst xs.length (eT.els xs)) != (0 : Int) then chkC (eT.lst xs.length (eT.els xs))
  else
    bif chkC (eT.lst ys.length (eT.els ys)) != (0 : Int) then chkC (eT.lst ys.length (eT.els ys))
    else
      bif
          decide ((↑xs.length : Int) > (0 : Int)) &&
            (decide ((↑ys.length : Int) > (0 : Int)) &&
              (xs.getD (0 : Nat) eT.dflt).d != (ys.getD (0 : Nat) eT.dflt).d) then
        (11 : Int)
      else (0 : Int)
def two_side (xs : List T) (ys : List T) : Prop :=
  (∀ (e : Nat), e < xs.length → eT.Ok (eT.els xs e)) ∧
    ((chkC (eT.lst xs.length (eT.els xs)) != (0 : Int)) = false →
      (∀ (e : Nat), e < ys.length → eT.Ok (eT.els ys e)) ∧
        ((chkC (eT.lst ys.length (eT.els ys)) != (0 : Int)) = false →
          (decide ((↑xs.length : Int) > (0 : Int)) = true →
              decide ((↑ys.length : Int) > (0 : Int)) = true → (0 : Int) ≤ (0 : Int) ∧ (0 : Int) < (↑xs.length : Int)) ∧
            (decide ((↑xs.length : Int) > (0 : Int)) = true →
              decide ((↑ys.length : Int) > (0 : Int)) = true → (0 : Int) ≤ (0 : Int) ∧ (0 : Int) < (↑ys.length : Int))))
theorem two_okS (pre : DA.T aLL → List Prop) (h : ∀ g, DA.bd aLL g → (∀ p ∈ pre g, p) → two_side g.1 g.2) : FnPure Try.prog 102 aLL dI (fun g => two_F g.1 g.2) pre := pure_of_sideS (Γ := (MTab.gamz tabW [] [])) (Λ := noΛ) (MTab.okz tabW [] []) noΛ_ok 100 default (fun g => two_side g.1 g.2) (fun g => by kernel_rfl) (fun g => by kernel_rfl) h
noncomputable def tabX39 : MTab Try.prog := tabW
end Go.Proofs.Ytiipneclghnfhaa

/- Chapter 3: Leq, both, the document's two: contracts. -/
namespace Go.Proofs.Ytiipneclghnfhaa
open Go.RowKit Go.Sx Go.Lp
theorem clq_ok : FnPure Try.prog 55 aLL dBool (fun g => leqC g.1 g.2) (fun _ => []) := by
  refine pure_congr (clq_okS _ fun g hb hp => ⟨okT g.2, okT g.1⟩) fun g hb hp => ?_
  show clq_F g.1 g.2 = _
  unfold clq_F leqC
  simp only [eT.lst_els]
  rw [any_not_all, Bool.not_not]
noncomputable def bothC (xs ys : List T) : Int := bif chkC xs != 0 then chkC xs else bif chkC ys != 0 then chkC ys else bif decide ((xs.length : Int) > 0) && (decide ((ys.length : Int) > 0) && (xs.getD (0 : Nat) eT.dflt).d != (ys.getD (0 : Nat) eT.dflt).d) then 11 else 0
theorem bth_ok : FnPure Try.prog 99 aLL dI (fun g => bothC g.1 g.2) (fun _ => []) := by
  refine pure_congr (bth_okS _ fun g hb hp => ?_) fun g hb hp => ?_
  · show bth_side g.1 g.2
    unfold bth_side
    simp only [eT.lst_els]
    exact ⟨okT _, fun _ => ⟨okT _, fun _ => ⟨fun h _ => ⟨Int.le_refl _, of_decide_eq_true h⟩, fun _ h => ⟨Int.le_refl _, of_decide_eq_true h⟩⟩⟩⟩
  · show bth_F g.1 g.2 = _
    unfold bth_F bothC
    simp only [eT.lst_els]
theorem two_ok : FnPure Try.prog 102 aLL dI (fun g => bothC g.1 g.2) (fun _ => []) := by
  refine pure_congr (two_okS _ fun g hb hp => ?_) fun g hb hp => ?_
  · show two_side g.1 g.2
    unfold two_side
    simp only [eT.lst_els]
    exact ⟨okT _, fun _ => ⟨okT _, fun _ => ⟨fun h _ => ⟨Int.le_refl _, of_decide_eq_true h⟩, fun _ h => ⟨Int.le_refl _, of_decide_eq_true h⟩⟩⟩⟩
  · show two_F g.1 g.2 = _
    unfold two_F bothC
    simp only [eT.lst_els]
noncomputable def tabXa : PTab Try.prog := ((tabV.cons 55 (pconP aLL dBool (fun g => leqC g.1 g.2) (fun _ => [])) (conP_ok clq_ok puB)).cons 99 (pconP aLL dI (fun g => bothC g.1 g.2) (fun _ => [])) (conP_ok bth_ok puI)).cons 102 (pconP aLL dI (fun g => bothC g.1 g.2) (fun _ => [])) (conP_ok two_ok puI)
noncomputable def tabY : MTab Try.prog := (MTab.of tabXa).consM 31 (lconR eT DA.none dLE (fun g => ofC g.1) (fun g => [g.1.length ≤ KS])) (conL_ok (pure_none rof_ok))
end Go.Proofs.Ytiipneclghnfhaa

/- Chapter 3: the document's Insert, Meet; All. Printed by treegen.py. -/
namespace Go.Proofs.Ytiipneclghnfhaa
open Go.RowKit Go.Sx
set_option maxRecDepth 100000
set_option linter.unusedVariables false
noncomputable def rins_F (xs : List T) (t : T) : Dv.T dLBE :=
  bif chkC (eT.lst xs.length (eT.els xs)) != (0 : Int) then ([], false, chkC (eT.lst xs.length (eT.els xs)))
  else
    bif rtcheck_F t != (0 : Int) then ([], false, rtcheck_F t)
    else
      bif
          (ofC
                (List.map (fun x => eT.get [])
                      (List.range (min (min ((0 : Nat) + xs.length + (1 : Nat)) ((0 : Nat) + xs.length)) (0 : Nat))) ++
                    eT.lst (min ((0 : Nat) + xs.length + (1 : Nat)) ((0 : Nat) + xs.length) - (0 : Nat)) (eT.els xs) ++
                  List.map (fun x => t)
                    (List.range ((0 : Nat) + xs.length + (1 : Nat) - ((0 : Nat) + xs.length))))).snd !=
            (0 : Int) then
        ([], false,
          (ofC
              (List.map (fun x => eT.get [])
                    (List.range (min (min ((0 : Nat) + xs.length + (1 : Nat)) ((0 : Nat) + xs.length)) (0 : Nat))) ++
                  eT.lst (min ((0 : Nat) + xs.length + (1 : Nat)) ((0 : Nat) + xs.length) - (0 : Nat)) (eT.els xs) ++
                List.map (fun x => t) (List.range ((0 : Nat) + xs.length + (1 : Nat) - ((0 : Nat) + xs.length))))).snd)
      else
        (eT.lst
            (ofC
                  (List.map (fun x => eT.get [])
                        (List.range (min (min ((0 : Nat) + xs.length + (1 : Nat)) ((0 : Nat) + xs.length)) (0 : Nat))) ++
                      eT.lst (min ((0 : Nat) + xs.length + (1 : Nat)) ((0 : Nat) + xs.length) - (0 : Nat)) (eT.els xs) ++
                    List.map (fun x => t)
                      (List.range ((0 : Nat) + xs.length + (1 : Nat) - ((0 : Nat) + xs.length))))).fst.length
            (eT.els
              (ofC
                  (List.map (fun x => eT.get [])
                        (List.range (min (min ((0 : Nat) + xs.length + (1 : Nat)) ((0 : Nat) + xs.length)) (0 : Nat))) ++
                      eT.lst (min ((0 : Nat) + xs.length + (1 : Nat)) ((0 : Nat) + xs.length) - (0 : Nat)) (eT.els xs) ++
                    List.map (fun x => t)
                      (List.range ((0 : Nat) + xs.length + (1 : Nat) - ((0 : Nat) + xs.length))))).fst),
          !decide
              (eT.lst
                  (ofC
                        (List.map (fun x => eT.get [])
                              (List.range
                                (min (min ((0 : Nat) + xs.length + (1 : Nat)) ((0 : Nat) + xs.length)) (0 : Nat))) ++
                            eT.lst (min ((0 : Nat) + xs.length + (1 : Nat)) ((0 : Nat) + xs.length) - (0 : Nat))
                              (eT.els xs) ++
                          List.map (fun x => t)
                            (List.range ((0 : Nat) + xs.length + (1 : Nat) - ((0 : Nat) + xs.length))))).fst.length
                  (eT.els
                    (ofC
                        (List.map (fun x => eT.get [])
                              (List.range
                                (min (min ((0 : Nat) + xs.length + (1 : Nat)) ((0 : Nat) + xs.length)) (0 : Nat))) ++
                            eT.lst (min ((0 : Nat) + xs.length + (1 : Nat)) ((0 : Nat) + xs.length) - (0 : Nat))
                              (eT.els xs) ++
                          List.map (fun x => t)
                            (List.range ((0 : Nat) + xs.length + (1 : Nat) - ((0 : Nat) + xs.length))))).fst) =
                eT.lst xs.length (eT.els xs)),
          (0 : Int))
def rins_side (xs : List T) (t : T) : Prop :=
  (∀ (e : Nat), e < xs.length → eT.Ok (eT.els xs e)) ∧
    ((chkC (eT.lst xs.length (eT.els xs)) != (0 : Int)) = false →
      (rtcheck_F t != (0 : Int)) = false →
        (True ∧
            (∀ (e : Nat), e < xs.length → (eT.els xs e).all SV.one = true) ∧
              (0 : Nat) + xs.length ≤ maxLen ∧
                ((0 : Nat) + xs.length) * Try.prog.types[(30 : Nat)].bytes ≤ (140737488355328 : Nat)) ∧
          ((0 : Nat) + xs.length ≤ (0 : Nat) + xs.length ∧
              True ∧
                (0 : Nat) + xs.length + (1 : Nat) ≤ maxLen ∧
                  ((0 : Nat) + xs.length + (1 : Nat)) * Try.prog.types[(30 : Nat)].bytes ≤ (140737488355328 : Nat)) ∧
            (0 : Nat) + xs.length + (1 : Nat) ≤ (0 : Nat) + xs.length + (1 : Nat) ∧
              (∀ (e : Nat),
                  e < min (min ((0 : Nat) + xs.length + (1 : Nat)) ((0 : Nat) + xs.length)) (0 : Nat) → eT.OkP []) ∧
                (∀ (e : Nat), e < min ((0 : Nat) + xs.length + (1 : Nat)) ((0 : Nat) + xs.length) - (0 : Nat) → True) ∧
                  (∀ (e : Nat), e < (0 : Nat) + xs.length + (1 : Nat) - ((0 : Nat) + xs.length) → True) ∧
                    (List.map (fun x => eT.get [])
                                (List.range
                                  (min (min ((0 : Nat) + xs.length + (1 : Nat)) ((0 : Nat) + xs.length)) (0 : Nat))) ++
                              eT.lst (min ((0 : Nat) + xs.length + (1 : Nat)) ((0 : Nat) + xs.length) - (0 : Nat))
                                (eT.els xs) ++
                            List.map (fun x => t)
                              (List.range ((0 : Nat) + xs.length + (1 : Nat) - ((0 : Nat) + xs.length)))).length ≤
                        KS ∧
                      (((ofC
                                (List.map (fun x => eT.get [])
                                      (List.range
                                        (min (min ((0 : Nat) + xs.length + (1 : Nat)) ((0 : Nat) + xs.length))
                                          (0 : Nat))) ++
                                    eT.lst (min ((0 : Nat) + xs.length + (1 : Nat)) ((0 : Nat) + xs.length) - (0 : Nat))
                                      (eT.els xs) ++
                                  List.map (fun x => t)
                                    (List.range ((0 : Nat) + xs.length + (1 : Nat) - ((0 : Nat) + xs.length))))).snd !=
                            (0 : Int)) =
                          false →
                        (∀ (e : Nat),
                            e <
                                (ofC
                                      (List.map (fun x => eT.get [])
                                            (List.range
                                              (min (min ((0 : Nat) + xs.length + (1 : Nat)) ((0 : Nat) + xs.length))
                                                (0 : Nat))) ++
                                          eT.lst
                                            (min ((0 : Nat) + xs.length + (1 : Nat)) ((0 : Nat) + xs.length) - (0 : Nat))
                                            (eT.els xs) ++
                                        List.map (fun x => t)
                                          (List.range
                                            ((0 : Nat) + xs.length + (1 : Nat) - ((0 : Nat) + xs.length))))).fst.length →
                              eT.Ok
                                (eT.els
                                  (ofC
                                      (List.map (fun x => eT.get [])
                                            (List.range
                                              (min (min ((0 : Nat) + xs.length + (1 : Nat)) ((0 : Nat) + xs.length))
                                                (0 : Nat))) ++
                                          eT.lst
                                            (min ((0 : Nat) + xs.length + (1 : Nat)) ((0 : Nat) + xs.length) - (0 : Nat))
                                            (eT.els xs) ++
                                        List.map (fun x => t)
                                          (List.range ((0 : Nat) + xs.length + (1 : Nat) - ((0 : Nat) + xs.length))))).fst
                                  e)) ∧
                          (∀ (e : Nat), e < xs.length → eT.Ok (eT.els xs e)) ∧
                            ∀ (e : Nat),
                              e <
                                  (ofC
                                        (List.map (fun x => eT.get [])
                                              (List.range
                                                (min (min ((0 : Nat) + xs.length + (1 : Nat)) ((0 : Nat) + xs.length))
                                                  (0 : Nat))) ++
                                            eT.lst
                                              (min ((0 : Nat) + xs.length + (1 : Nat)) ((0 : Nat) + xs.length) -
                                                (0 : Nat))
                                              (eT.els xs) ++
                                          List.map (fun x => t)
                                            (List.range
                                              ((0 : Nat) + xs.length + (1 : Nat) -
                                                ((0 : Nat) + xs.length))))).fst.length →
                                eT.Ok
                                  (eT.els
                                    (ofC
                                        (List.map (fun x => eT.get [])
                                              (List.range
                                                (min (min ((0 : Nat) + xs.length + (1 : Nat)) ((0 : Nat) + xs.length))
                                                  (0 : Nat))) ++
                                            eT.lst
                                              (min ((0 : Nat) + xs.length + (1 : Nat)) ((0 : Nat) + xs.length) -
                                                (0 : Nat))
                                              (eT.els xs) ++
                                          List.map (fun x => t)
                                            (List.range
                                              ((0 : Nat) + xs.length + (1 : Nat) - ((0 : Nat) + xs.length))))).fst
                                    e)))
theorem rins_okS (pre : DA.T aLT → List Prop) (h : ∀ g, DA.bd aLT g → (∀ p ∈ pre g, p) → rins_side g.1 g.2) : FnPure Try.prog 32 aLT dLBE (fun g => rins_F g.1 g.2) pre := pure_of_sideS (Γ := (MTab.gamz tabY [] [])) (Λ := noΛ) (MTab.okz tabY [] []) noΛ_ok 100 default (fun g => rins_side g.1 g.2) (fun g => by kernel_rfl) (fun g => by kernel_rfl) h
noncomputable def rmt_F (xs : List T) (ys : List T) : Dv.T dLE :=
  bif bothC (eT.lst xs.length (eT.els xs)) (eT.lst ys.length (eT.els ys)) != (0 : Int) then
    ([], bothC (eT.lst xs.length (eT.els xs)) (eT.lst ys.length (eT.els ys)))
  else
    (eT.lst
        (ofC
              (List.map (fun x => eT.get [])
                    (List.range (min (min ((0 : Nat) + xs.length + ys.length) ((0 : Nat) + xs.length)) (0 : Nat))) ++
                  eT.lst (min ((0 : Nat) + xs.length + ys.length) ((0 : Nat) + xs.length) - (0 : Nat)) (eT.els xs) ++
                eT.lst ((0 : Nat) + xs.length + ys.length - ((0 : Nat) + xs.length)) (eT.els ys))).fst.length
        (eT.els
          (ofC
              (List.map (fun x => eT.get [])
                    (List.range (min (min ((0 : Nat) + xs.length + ys.length) ((0 : Nat) + xs.length)) (0 : Nat))) ++
                  eT.lst (min ((0 : Nat) + xs.length + ys.length) ((0 : Nat) + xs.length) - (0 : Nat)) (eT.els xs) ++
                eT.lst ((0 : Nat) + xs.length + ys.length - ((0 : Nat) + xs.length)) (eT.els ys))).fst),
      (ofC
          (List.map (fun x => eT.get [])
                (List.range (min (min ((0 : Nat) + xs.length + ys.length) ((0 : Nat) + xs.length)) (0 : Nat))) ++
              eT.lst (min ((0 : Nat) + xs.length + ys.length) ((0 : Nat) + xs.length) - (0 : Nat)) (eT.els xs) ++
            eT.lst ((0 : Nat) + xs.length + ys.length - ((0 : Nat) + xs.length)) (eT.els ys))).snd)
def rmt_side (xs : List T) (ys : List T) : Prop :=
  (∀ (e : Nat), e < xs.length → eT.Ok (eT.els xs e)) ∧
    (∀ (e : Nat), e < ys.length → eT.Ok (eT.els ys e)) ∧
      ((bothC (eT.lst xs.length (eT.els xs)) (eT.lst ys.length (eT.els ys)) != (0 : Int)) = false →
        (True ∧
            (∀ (e : Nat), e < xs.length → (eT.els xs e).all SV.one = true) ∧
              (0 : Nat) + xs.length ≤ maxLen ∧
                ((0 : Nat) + xs.length) * Try.prog.types[(30 : Nat)].bytes ≤ (140737488355328 : Nat)) ∧
          ((0 : Nat) + xs.length ≤ (0 : Nat) + xs.length ∧
              (∀ (e : Nat), e < ys.length → (eT.els ys e).all SV.one = true) ∧
                (0 : Nat) + xs.length + ys.length ≤ maxLen ∧
                  ((0 : Nat) + xs.length + ys.length) * Try.prog.types[(30 : Nat)].bytes ≤ (140737488355328 : Nat)) ∧
            (0 : Nat) + xs.length + ys.length ≤ (0 : Nat) + xs.length + ys.length ∧
              (∀ (e : Nat),
                  e < min (min ((0 : Nat) + xs.length + ys.length) ((0 : Nat) + xs.length)) (0 : Nat) → eT.OkP []) ∧
                (∀ (e : Nat), e < min ((0 : Nat) + xs.length + ys.length) ((0 : Nat) + xs.length) - (0 : Nat) → True) ∧
                  (∀ (e : Nat), e < (0 : Nat) + xs.length + ys.length - ((0 : Nat) + xs.length) → True) ∧
                    (List.map (fun x => eT.get [])
                                (List.range
                                  (min (min ((0 : Nat) + xs.length + ys.length) ((0 : Nat) + xs.length)) (0 : Nat))) ++
                              eT.lst (min ((0 : Nat) + xs.length + ys.length) ((0 : Nat) + xs.length) - (0 : Nat))
                                (eT.els xs) ++
                            eT.lst ((0 : Nat) + xs.length + ys.length - ((0 : Nat) + xs.length)) (eT.els ys)).length ≤
                        KS ∧
                      ∀ (e : Nat),
                        e <
                            (ofC
                                  (List.map (fun x => eT.get [])
                                        (List.range
                                          (min (min ((0 : Nat) + xs.length + ys.length) ((0 : Nat) + xs.length))
                                            (0 : Nat))) ++
                                      eT.lst (min ((0 : Nat) + xs.length + ys.length) ((0 : Nat) + xs.length) - (0 : Nat))
                                        (eT.els xs) ++
                                    eT.lst ((0 : Nat) + xs.length + ys.length - ((0 : Nat) + xs.length))
                                      (eT.els ys))).fst.length →
                          eT.Ok
                            (eT.els
                              (ofC
                                  (List.map (fun x => eT.get [])
                                        (List.range
                                          (min (min ((0 : Nat) + xs.length + ys.length) ((0 : Nat) + xs.length))
                                            (0 : Nat))) ++
                                      eT.lst (min ((0 : Nat) + xs.length + ys.length) ((0 : Nat) + xs.length) - (0 : Nat))
                                        (eT.els xs) ++
                                    eT.lst ((0 : Nat) + xs.length + ys.length - ((0 : Nat) + xs.length)) (eT.els ys))).fst
                              e))
theorem rmt_okS (pre : DA.T aLL → List Prop) (h : ∀ g, DA.bd aLL g → (∀ p ∈ pre g, p) → rmt_side g.1 g.2) : FnPure Try.prog 52 aLL dLE (fun g => rmt_F g.1 g.2) pre := pure_of_sideS (Γ := (MTab.gamz tabY [] [])) (Λ := noΛ) (MTab.okz tabY [] []) noΛ_ok 100 default (fun g => rmt_side g.1 g.2) (fun g => by kernel_rfl) (fun g => by kernel_rfl) h
noncomputable def tabX41 : MTab Try.prog := tabY
end Go.Proofs.Ytiipneclghnfhaa

/- Chapter 3: the document's Insert and Meet: contracts. -/
namespace Go.Proofs.Ytiipneclghnfhaa
open Go.RowKit Go.Sx Go.Lp
theorem chk_len {xs : List T} (h : (chkC xs != 0) = false) : xs.length ≤ 1024 := by
  unfold chkC at h
  by_cases hl : (xs.length : Int) > 1024
  · simp [hl] at h
  · omega
theorem j1_eq (xs : List T) (t : T) : List.map (fun _ => eT.get []) (List.range (min (min (0 + xs.length + 1) (0 + xs.length)) 0)) ++ eT.lst (min (0 + xs.length + 1) (0 + xs.length) - 0) (eT.els xs) ++ List.map (fun _ => t) (List.range (0 + xs.length + 1 - (0 + xs.length))) = xs ++ [t] := by
  have h1 : min (0 + xs.length + 1) (0 + xs.length) = xs.length := by omega
  have h2 : min xs.length 0 = 0 := by omega
  have h3 : 0 + xs.length + 1 - (0 + xs.length) = 1 := by omega
  rw [h1, h2, h3, Nat.sub_zero, eT.lst_els]
  rfl
theorem j2_eq (xs ys : List T) : List.map (fun _ => eT.get []) (List.range (min (min (0 + xs.length + ys.length) (0 + xs.length)) 0)) ++ eT.lst (min (0 + xs.length + ys.length) (0 + xs.length) - 0) (eT.els xs) ++ eT.lst (0 + xs.length + ys.length - (0 + xs.length)) (eT.els ys) = xs ++ ys := jnd_eq xs ys
noncomputable def insC (xs : List T) (t : T) : List T × Bool × Int :=
  bif chkC xs != 0 then ([], false, chkC xs)
  else bif tcheck_F t != 0 then ([], false, tcheck_F t)
  else bif (ofC (xs ++ [t])).2 != 0 then ([], false, (ofC (xs ++ [t])).2)
  else ((ofC (xs ++ [t])).1, !decide ((ofC (xs ++ [t])).1 = xs), 0)
theorem rins_ok : FnPure Try.prog 32 aLT dLBE (fun g => insC g.1 g.2) (fun _ => []) := by
  refine pure_congr (rins_okS _ fun g hb hp => ?_) fun g hb hp => ?_
  · obtain ⟨xs, t⟩ := g
    show rins_side xs t
    unfold rins_side
    simp only [eT.lst_els, j1_eq, bytesT]
    refine ⟨okT _, fun hc _ => ?_⟩
    have hl := chk_len hc
    have ha := okT xs
    have hb := okT (ofC (xs ++ [t])).1
    have hk : (xs ++ [t]).length ≤ KS := by unfold KS; simp; omega
    have ho := fun e => onesT xs e
    unfold maxLen
    repeat' (first | exact ha | exact hb | exact hk | exact ho _ | exact rfl | apply And.intro | intro _)
    all_goals (first | trivial | omega)
  · obtain ⟨xs, t⟩ := g
    show rins_F xs t = insC xs t
    unfold rins_F insC
    simp only [eT.lst_els, j1_eq, rtcheck_eq]
noncomputable def meetC (xs ys : List T) : List T × Int := bif bothC xs ys != 0 then ([], bothC xs ys) else ofC (xs ++ ys)
theorem both_len {xs ys : List T} (h : (bothC xs ys != 0) = false) : xs.length ≤ 1024 ∧ ys.length ≤ 1024 := by
  unfold bothC at h
  cases h1 : (chkC xs != 0) with
  | true => simp only [h1, cond_true] at h; cases h
  | false =>
    simp only [h1, cond_false] at h
    cases h2 : (chkC ys != 0) with
    | true => simp only [h2, cond_true] at h; cases h
    | false => exact ⟨chk_len h1, chk_len h2⟩
theorem rmt_ok : FnPure Try.prog 52 aLL dLE (fun g => meetC g.1 g.2) (fun _ => []) := by
  refine pure_congr (rmt_okS _ fun g hb hp => ?_) fun g hb hp => ?_
  · obtain ⟨xs, ys⟩ := g
    show rmt_side xs ys
    unfold rmt_side
    simp only [eT.lst_els, j2_eq, bytesT]
    have ha := okT xs
    have hb := okT ys
    have hd := okT (ofC (xs ++ ys)).1
    refine ⟨ha, hb, fun hc => ?_⟩
    obtain ⟨hl, hl2⟩ := both_len hc
    have hk : (xs ++ ys).length ≤ KS := by unfold KS; simp; omega
    have ho := fun e => onesT xs e
    have ho2 := fun e => onesT ys e
    unfold maxLen
    repeat' (first | exact ha | exact hb | exact hd | exact hk | exact ho _ | exact ho2 _ | exact rfl | apply And.intro | intro _)
    all_goals (first | trivial | omega)
  · obtain ⟨xs, ys⟩ := g
    show rmt_F xs ys = meetC xs ys
    unfold rmt_F meetC
    simp only [eT.lst_els, j2_eq]
noncomputable def tabZ : PTab Try.prog := (tabXa.cons 32 (pconR aLT dLBE (fun g => insC g.1 g.2) (fun _ => [])) (conR_ok rins_ok)).cons 52 (pconR aLL dLE (fun g => meetC g.1 g.2) (fun _ => [])) (conR_ok rmt_ok)
end Go.Proofs.Ytiipneclghnfhaa

/- Chapter 3: chain.Of is the document's: its contract. -/
namespace Go.Proofs.Ytiipneclghnfhaa
open Go.RowKit Go.Sx Go.Lp
theorem cl0 (xs : List T) : List.map (fun _ => eT.get []) (List.range (min (0 + xs.length) 0)) ++ eT.lst (0 + xs.length - 0) (eT.els xs) = xs := by
  have h2 : min (0 + xs.length) 0 = 0 := by omega
  rw [h2, show 0 + xs.length - 0 = xs.length by omega, eT.lst_els]
  rfl
theorem srt_len (xs : List T) : (srtBy cfT xs).length = xs.length := (List.mergeSort_perm _ _).length_eq
theorem dd_len : ∀ (r : List T) (p : T), (dd p r).length ≤ r.length
  | [], _ => Nat.le_refl _
  | y :: r, p => by
    unfold dd
    split
    · exact Nat.le_succ_of_le (dd_len r _)
    · exact Nat.succ_le_succ (dd_len r _)
theorem comp_len (xs : List T) : (compL xs).length ≤ xs.length := by
  cases xs with
  | nil => exact Nat.le_refl _
  | cons x r => exact Nat.succ_le_succ (dd_len r x)
theorem cof_q (xs : List T) (h : xs.length ≤ KS) : ∃ a b c d, cof_q1 xs = (.exit 0, minsT xs, a, b, c, d) := by
  unfold cof_q1
  simp only [cl0, eT.lst_els]
  have hl : (compL (srtBy cfT xs)).length ≤ KS := Nat.le_trans (comp_len _) (by rw [srt_len]; exact h)
  have h1 := of2_run (compL (srtBy cfT xs)) hl
  rw [greedy_mins poT toT] at h1
  exact ⟨_, _, _, _, h1⟩
theorem cof_q0 (xs : List T) : ∃ a b c d, cof_q2 xs = (.exit 0, [], a, b, c, d) := ⟨_, _, _, _, of2_run [] (Nat.zero_le _)⟩
theorem cof_eq (xs : List T) (h : xs.length ≤ KS) : cof_F xs = ofC xs ∧ cof_side xs := by
  have hm : xs.length ≤ 1000000 := h
  have hl : (compL (srtBy cfT xs)).length ≤ KS := Nat.le_trans (comp_len _) (by rw [srt_len]; exact h)
  have hl2 : (compL (srtBy cfT xs)).length ≤ maxLen := Nat.le_trans hl (by unfold KS maxLen; omega)
  obtain ⟨a, b, c, d, h1⟩ := cof_q xs h
  obtain ⟨a', b', c', d', h2⟩ := cof_q0 xs
  unfold cof_F cof_side
  rw [h1, h2]
  simp only [cl0, eT.lst_els, bytesT]
  refine ⟨rfl, okT xs, fun _ cs hcs => ⟨fun hc => ?_, fun _ => ?_⟩⟩
  · have hx : xs = [] := List.length_eq_zero_iff.1 (hcs (by cases hh : cs.isEmpty with
      | true => rw [hh] at hc; cases hc
      | false => rfl))
    subst hx
    refine ⟨trivial, fun e he => by omega, by omega, trivial, fun e he => by omega, fun _ _ => trivial, ?_, fun hc => (by cases hc), fun _ => ⟨fun hc => (by cases hc), fun _ => ⟨Nat.le_refl _, fun _ _ => trivial, fun _ => rfl⟩⟩⟩
    exact ixJ0 (lim := fun c : of2_GC => c.2.1) (xs := fun c : of2_GC => c.1) (P := of2_K) (c := ([], 0, 0)) (b := []) rfl (Nat.zero_le _) ⟨Nat.zero_le _, Int.le_refl _, rfl⟩
  · refine ⟨⟨Nat.le_refl _, fun e _ => onesT xs e, by unfold maxLen; omega, by omega⟩, trivial, fun e he => by omega, fun _ _ => trivial, by omega, by rw [show (fun a b => tcmp_F a b) = cfT from rfl, srt_len]; omega, fun _ _ => trivial, fun _ _ => trivial, ?_, fun hc => (by cases hc), fun _ => ⟨fun hc d => ?_, fun hc => ⟨Nat.le_refl _, fun _ _ => trivial, fun d => ?_⟩⟩⟩
    · exact ixJ0 (lim := fun c : of2_GC => c.2.1) (xs := fun c : of2_GC => c.1) (P := of2_K) (c := (compL (srtBy cfT xs), ((compL (srtBy cfT xs)).length : Int), (compL (srtBy cfT xs)).length)) (b := []) rfl hl2 ⟨hl, Int.le_refl _, rfl⟩
    · rw [hc]; rfl
    · rw [hc]; rfl
theorem cof_ok : FnPure Try.prog 18 aL dLE ofC (fun g => [g.length ≤ KS]) :=
  pure_congr (cof_okS _ fun g _ hp => (cof_eq g (hp _ (List.mem_cons_self ..))).2) fun g _ hp => (cof_eq g (hp _ (List.mem_cons_self ..))).1
noncomputable def tabA : MTab Try.prog := ((MTab.of tabZ).consM 31 (lconR eT DA.none dLE (fun g => ofC g.1) (fun g => [g.1.length ≤ KS])) (conL_ok (pure_none rof_ok))).consM 18 (lconR eT DA.none dLE (fun g => ofC g.1) (fun g => [g.1.length ≤ KS])) (conL_ok (pure_none cof_ok))
end Go.Proofs.Ytiipneclghnfhaa

/- Chapter 3: lists of times as texts: the contract. -/
namespace Go.Proofs.Ytiipneclghnfhaa
open Go.RowKit Go.Sx Go.Lp
theorem txt_eq (xs : List T) (h : xs.length ≤ KS) : txt_F xs = txC xs ∧ txt_side xs := by
  have hm : xs.length ≤ maxLen := by unfold KS at h; unfold maxLen; omega
  obtain ⟨i, h1⟩ := tl_run xs h
  have hs := scan_sz (xs, (xs.length : Int)) xs 0 (ByteArray.mk #[(123 : UInt8)])
  have hb : (ByteArray.mk #[(123 : UInt8)]).size = 1 := rfl
  unfold txt_F txt_side txt_q1 txC
  rw [eT.lst_els]
  have h1 : loopF (fun g : tl_G => tl_R g.1 g.2.1 g.2.2.1 g.2.2.2) tl_M (xs, (xs.length : Int), 0, ByteArray.mk #[(123 : UInt8)]) = _ := h1
  rw [h1]
  refine ⟨rfl, okT xs, ?_, ?_⟩
  · exact ixJ0 (lim := fun c : tl_GC => c.2) (xs := fun c : tl_GC => c.1) (P := tl_K) (c := (xs, (xs.length : Int))) (b := ByteArray.mk #[(123 : UInt8)]) rfl hm ⟨h, by show (1 : Int) ≤ 60 * 0 + 1; omega⟩
  · unfold KS at h
    show (scan 0 (tl_S (xs, (xs.length : Int))) 0 xs (ByteArray.mk #[(123 : UInt8)])).2.2.size + 1 ≤ _
    omega
theorem txt_ok : FnPure Try.prog 57 aL dStr txC (fun g => [g.length ≤ KS]) :=
  pure_congr (txt_okS _ fun g _ hp => (txt_eq g (hp _ (List.mem_cons_self ..))).2) fun g _ hp => (txt_eq g (hp _ (List.mem_cons_self ..))).1
noncomputable def tabB : MTab Try.prog := tabA.cons 57 (pconP aL dStr txC (fun g => [g.length ≤ KS])) (conP_ok txt_ok puStr)
abbrev aLB : DA (List T) := .one (.listB eT)
theorem cof_okB : FnPure Try.prog 18 aLB dLE ofC (fun g => [g.length ≤ KS]) := cof_ok
/-- For lists that are written out. -/
noncomputable def tabBk : MTab Try.prog := tabB.consM 18 (fconR aLB dLE ofC (fun g => [g.length ≤ KS])) (fconR_ok cof_okB)
end Go.Proofs.Ytiipneclghnfhaa

/- Chapter 3: the self-test. Printed by treegen.py. -/
namespace Go.Proofs.Ytiipneclghnfhaa
open Go.RowKit Go.Sx
set_option maxRecDepth 100000
set_option linter.unusedVariables false
noncomputable def lv_F (_u : Unit) : Dv.T dBool :=
  (ofC
          [T.mk (2 : Int) (1 : Int) (2 : Int) (0 : Int) (0 : Int) (0 : Int),
            T.mk (1 : Int) (1 : Int) (2 : Int) (0 : Int) (0 : Int) (0 : Int),
            T.mk (2 : Int) (1 : Int) (1 : Int) (0 : Int) (0 : Int) (0 : Int)]).snd ==
      (0 : Int) &&
    (decide
        (txC
            [(ofC
                      [T.mk (2 : Int) (1 : Int) (2 : Int) (0 : Int) (0 : Int) (0 : Int),
                        T.mk (1 : Int) (1 : Int) (2 : Int) (0 : Int) (0 : Int) (0 : Int),
                        T.mk (2 : Int) (1 : Int) (1 : Int) (0 : Int) (0 : Int) (0 : Int)]).fst.getD
                (0 : Nat) eT.dflt,
              (ofC
                      [T.mk (2 : Int) (1 : Int) (2 : Int) (0 : Int) (0 : Int) (0 : Int),
                        T.mk (1 : Int) (1 : Int) (2 : Int) (0 : Int) (0 : Int) (0 : Int),
                        T.mk (2 : Int) (1 : Int) (1 : Int) (0 : Int) (0 : Int) (0 : Int)]).fst.getD
                (1 : Nat) eT.dflt] =
          ByteArray.mk
            #[(123 : UInt8), (49 : UInt8), (46 : UInt8), (50 : UInt8), (44 : UInt8), (50 : UInt8), (46 : UInt8),
              (49 : UInt8), (125 : UInt8)]) &&
      (([(ofC
                      [T.mk (2 : Int) (1 : Int) (2 : Int) (0 : Int) (0 : Int) (0 : Int),
                        T.mk (1 : Int) (1 : Int) (2 : Int) (0 : Int) (0 : Int) (0 : Int),
                        T.mk (2 : Int) (1 : Int) (1 : Int) (0 : Int) (0 : Int) (0 : Int)]).fst.getD
                (0 : Nat) eT.dflt,
              (ofC
                      [T.mk (2 : Int) (1 : Int) (2 : Int) (0 : Int) (0 : Int) (0 : Int),
                        T.mk (1 : Int) (1 : Int) (2 : Int) (0 : Int) (0 : Int) (0 : Int),
                        T.mk (2 : Int) (1 : Int) (1 : Int) (0 : Int) (0 : Int) (0 : Int)]).fst.getD
                (1 : Nat) eT.dflt].any
          fun x => tleq_F x (T.mk (3 : Int) (1 : Int) (1 : Int) (0 : Int) (0 : Int) (0 : Int))) &&
        ![(ofC
                        [T.mk (2 : Int) (1 : Int) (2 : Int) (0 : Int) (0 : Int) (0 : Int),
                          T.mk (1 : Int) (1 : Int) (2 : Int) (0 : Int) (0 : Int) (0 : Int),
                          T.mk (2 : Int) (1 : Int) (1 : Int) (0 : Int) (0 : Int) (0 : Int)]).fst.getD
                  (0 : Nat) eT.dflt,
                (ofC
                        [T.mk (2 : Int) (1 : Int) (2 : Int) (0 : Int) (0 : Int) (0 : Int),
                          T.mk (1 : Int) (1 : Int) (2 : Int) (0 : Int) (0 : Int) (0 : Int),
                          T.mk (2 : Int) (1 : Int) (1 : Int) (0 : Int) (0 : Int) (0 : Int)]).fst.getD
                  (1 : Nat) eT.dflt].any
            fun x => tleq_F x (T.mk (1 : Int) (1 : Int) (1 : Int) (0 : Int) (0 : Int) (0 : Int))))
def lv_side (_u : Unit) : Prop :=
  (3 : Nat) ≤ KS ∧
    (((ofC
                [T.mk (2 : Int) (1 : Int) (2 : Int) (0 : Int) (0 : Int) (0 : Int),
                  T.mk (1 : Int) (1 : Int) (2 : Int) (0 : Int) (0 : Int) (0 : Int),
                  T.mk (2 : Int) (1 : Int) (1 : Int) (0 : Int) (0 : Int) (0 : Int)]).snd ==
            (0 : Int)) =
          true →
        ∀ (e : Nat),
          e < (2 : Nat) →
            eT.Ok
              (eT.els
                (ofC
                    [T.mk (2 : Int) (1 : Int) (2 : Int) (0 : Int) (0 : Int) (0 : Int),
                      T.mk (1 : Int) (1 : Int) (2 : Int) (0 : Int) (0 : Int) (0 : Int),
                      T.mk (2 : Int) (1 : Int) (1 : Int) (0 : Int) (0 : Int) (0 : Int)]).fst
                e)) ∧
      (((ofC
                  [T.mk (2 : Int) (1 : Int) (2 : Int) (0 : Int) (0 : Int) (0 : Int),
                    T.mk (1 : Int) (1 : Int) (2 : Int) (0 : Int) (0 : Int) (0 : Int),
                    T.mk (2 : Int) (1 : Int) (1 : Int) (0 : Int) (0 : Int) (0 : Int)]).snd ==
              (0 : Int)) =
            true →
          (2 : Nat) ≤ KS) ∧
        (((ofC
                    [T.mk (2 : Int) (1 : Int) (2 : Int) (0 : Int) (0 : Int) (0 : Int),
                      T.mk (1 : Int) (1 : Int) (2 : Int) (0 : Int) (0 : Int) (0 : Int),
                      T.mk (2 : Int) (1 : Int) (1 : Int) (0 : Int) (0 : Int) (0 : Int)]).snd ==
                (0 : Int)) =
              true →
            decide
                  (txC
                      [(ofC
                                [T.mk (2 : Int) (1 : Int) (2 : Int) (0 : Int) (0 : Int) (0 : Int),
                                  T.mk (1 : Int) (1 : Int) (2 : Int) (0 : Int) (0 : Int) (0 : Int),
                                  T.mk (2 : Int) (1 : Int) (1 : Int) (0 : Int) (0 : Int) (0 : Int)]).fst.getD
                          (0 : Nat) eT.dflt,
                        (ofC
                                [T.mk (2 : Int) (1 : Int) (2 : Int) (0 : Int) (0 : Int) (0 : Int),
                                  T.mk (1 : Int) (1 : Int) (2 : Int) (0 : Int) (0 : Int) (0 : Int),
                                  T.mk (2 : Int) (1 : Int) (1 : Int) (0 : Int) (0 : Int) (0 : Int)]).fst.getD
                          (1 : Nat) eT.dflt] =
                    ByteArray.mk
                      #[(123 : UInt8), (49 : UInt8), (46 : UInt8), (50 : UInt8), (44 : UInt8), (50 : UInt8), (46 : UInt8),
                        (49 : UInt8), (125 : UInt8)]) =
                true →
              ∀ (e : Nat),
                e < (2 : Nat) →
                  eT.Ok
                    (eT.els
                      (ofC
                          [T.mk (2 : Int) (1 : Int) (2 : Int) (0 : Int) (0 : Int) (0 : Int),
                            T.mk (1 : Int) (1 : Int) (2 : Int) (0 : Int) (0 : Int) (0 : Int),
                            T.mk (2 : Int) (1 : Int) (1 : Int) (0 : Int) (0 : Int) (0 : Int)]).fst
                      e)) ∧
          (((ofC
                    [T.mk (2 : Int) (1 : Int) (2 : Int) (0 : Int) (0 : Int) (0 : Int),
                      T.mk (1 : Int) (1 : Int) (2 : Int) (0 : Int) (0 : Int) (0 : Int),
                      T.mk (2 : Int) (1 : Int) (1 : Int) (0 : Int) (0 : Int) (0 : Int)]).snd ==
                (0 : Int)) =
              true →
            decide
                  (txC
                      [(ofC
                                [T.mk (2 : Int) (1 : Int) (2 : Int) (0 : Int) (0 : Int) (0 : Int),
                                  T.mk (1 : Int) (1 : Int) (2 : Int) (0 : Int) (0 : Int) (0 : Int),
                                  T.mk (2 : Int) (1 : Int) (1 : Int) (0 : Int) (0 : Int) (0 : Int)]).fst.getD
                          (0 : Nat) eT.dflt,
                        (ofC
                                [T.mk (2 : Int) (1 : Int) (2 : Int) (0 : Int) (0 : Int) (0 : Int),
                                  T.mk (1 : Int) (1 : Int) (2 : Int) (0 : Int) (0 : Int) (0 : Int),
                                  T.mk (2 : Int) (1 : Int) (1 : Int) (0 : Int) (0 : Int) (0 : Int)]).fst.getD
                          (1 : Nat) eT.dflt] =
                    ByteArray.mk
                      #[(123 : UInt8), (49 : UInt8), (46 : UInt8), (50 : UInt8), (44 : UInt8), (50 : UInt8), (46 : UInt8),
                        (49 : UInt8), (125 : UInt8)]) =
                true →
              ([(ofC
                                [T.mk (2 : Int) (1 : Int) (2 : Int) (0 : Int) (0 : Int) (0 : Int),
                                  T.mk (1 : Int) (1 : Int) (2 : Int) (0 : Int) (0 : Int) (0 : Int),
                                  T.mk (2 : Int) (1 : Int) (1 : Int) (0 : Int) (0 : Int) (0 : Int)]).fst.getD
                          (0 : Nat) eT.dflt,
                        (ofC
                                [T.mk (2 : Int) (1 : Int) (2 : Int) (0 : Int) (0 : Int) (0 : Int),
                                  T.mk (1 : Int) (1 : Int) (2 : Int) (0 : Int) (0 : Int) (0 : Int),
                                  T.mk (2 : Int) (1 : Int) (1 : Int) (0 : Int) (0 : Int) (0 : Int)]).fst.getD
                          (1 : Nat) eT.dflt].any
                    fun x => tleq_F x (T.mk (3 : Int) (1 : Int) (1 : Int) (0 : Int) (0 : Int) (0 : Int))) =
                  true →
                ∀ (e : Nat),
                  e < (2 : Nat) →
                    eT.Ok
                      (eT.els
                        (ofC
                            [T.mk (2 : Int) (1 : Int) (2 : Int) (0 : Int) (0 : Int) (0 : Int),
                              T.mk (1 : Int) (1 : Int) (2 : Int) (0 : Int) (0 : Int) (0 : Int),
                              T.mk (2 : Int) (1 : Int) (1 : Int) (0 : Int) (0 : Int) (0 : Int)]).fst
                        e))
theorem lv_okS (pre : DA.T DA.none → List Prop) (h : ∀ g, DA.bd DA.none g → (∀ p ∈ pre g, p) → lv_side g) : FnPure Try.prog 16 DA.none dBool (fun g => lv_F g) pre := pure_of_sideS (Γ := (MTab.gamz tabBk [] [])) (Λ := noΛ) (MTab.okz tabBk [] []) noΛ_ok 100 default (fun g => lv_side g) (fun g => by kernel_rfl) (fun g => by kernel_rfl) h
noncomputable def tabXD10 : MTab Try.prog := tabBk
end Go.Proofs.Ytiipneclghnfhaa

/- Chapter 3: the self-test holds. -/
namespace Go.Proofs.Ytiipneclghnfhaa
open Go.RowKit Go.Sx Go.Lp
set_option maxRecDepth 100000
theorem lv_of : ofC [T.mk (2 : Int) (1 : Int) (2 : Int) (0 : Int) (0 : Int) (0 : Int), T.mk (1 : Int) (1 : Int) (2 : Int) (0 : Int) (0 : Int) (0 : Int), T.mk (2 : Int) (1 : Int) (1 : Int) (0 : Int) (0 : Int) (0 : Int)] = ([T.mk 1 1 2 0 0 0, T.mk 2 1 1 0 0 0], 0) := by kernel_rfl
theorem lv_tx : txC [T.mk 1 1 2 0 0 0, T.mk 2 1 1 0 0 0] = ByteArray.mk #[(123 : UInt8), (49 : UInt8), (46 : UInt8), (50 : UInt8), (44 : UInt8), (50 : UInt8), (46 : UInt8), (49 : UInt8), (125 : UInt8)] := by kernel_rfl
theorem lv_eq (u : Unit) : lv_F u = true := by
  unfold lv_F
  rw [lv_of]
  simp only [List.getD_cons_zero, List.getD_cons_succ, lv_tx, decide_true]
  kernel_rfl
end Go.Proofs.Ytiipneclghnfhaa

/- Chapter 3: the self-test: its contract. -/
namespace Go.Proofs.Ytiipneclghnfhaa
open Go.RowKit Go.Sx Go.Lp
theorem lv_si (u : Unit) : lv_side u := by
  have h1 := okT [T.mk 1 1 2 0 0 0, T.mk 2 1 1 0 0 0]
  unfold lv_side
  rw [lv_of]
  unfold KS
  repeat' (first | exact h1 | apply And.intro | intro _)
  all_goals (first | exact h1 | omega | trivial)
theorem lv_ok : FnPure Try.prog 16 .none dBool (fun _ => true) (fun _ => []) :=
  pure_congr (lv_okS _ fun g _ _ => lv_si g) fun g _ _ => lv_eq g
noncomputable def tabC : MTab Try.prog := tabB.cons 16 (pconP .none dBool (fun _ => true) (fun _ => [])) (conP_ok lv_ok puB)
end Go.Proofs.Ytiipneclghnfhaa

/- Chapter 3: the loops of ChainLeast. Printed by treegen.py. -/
namespace Go.Proofs.Ytiipneclghnfhaa
open Go.RowKit Go.Sx
set_option maxRecDepth 100000
set_option linter.unusedVariables false
abbrev l1_G : Type := List T × Int × Int × List T × Bool
noncomputable def l1_LP : LP 1 l1_G := .pair (.slot 1 22 dLT) (.pair (.slot 1 23 dI) (.pair (.slot 1 24 dI) (.pair (.slot 1 3 dLT) (.slot 1 2 dBool))))
noncomputable def l1_R (xs : List T) (n : Int) (i : Int) (a : List T) (r : Bool) : Ex × l1_G :=
  bif decide (i < n) then
    bif !(eT.lst a.length (eT.els a)).any fun x => tleq_F x (xs.getD i.toNat eT.dflt) then
      (Ex.ret, eT.lst xs.length (eT.els xs), n, i, eT.lst a.length (eT.els a), false)
    else (Ex.normal, eT.lst xs.length (eT.els xs), n, IntKind.i64.wrap (i + (1 : Int)), eT.lst a.length (eT.els a), r)
  else (Ex.exit (0 : Nat), eT.lst xs.length (eT.els xs), n, i, eT.lst a.length (eT.els a), r)
def l1_side (xs : List T) (n : Int) (i : Int) (a : List T) (r : Bool) : Prop :=
  (decide (i < n) = true →
      ((0 : Int) ≤ i ∧ i < (↑xs.length : Int)) ∧
        (∀ (e : Nat), e < a.length → eT.Ok (eT.els a e)) ∧
          ((!(eT.lst a.length (eT.els a)).any fun x => tleq_F x (xs.getD i.toNat eT.dflt)) = true →
              (∀ (e : Nat), e < xs.length → eT.Ok (eT.els xs e)) ∧ ∀ (e : Nat), e < a.length → eT.Ok (eT.els a e)) ∧
            ((!(eT.lst a.length (eT.els a)).any fun x => tleq_F x (xs.getD i.toNat eT.dflt)) = false →
              (∀ (e : Nat), e < xs.length → eT.Ok (eT.els xs e)) ∧ ∀ (e : Nat), e < a.length → eT.Ok (eT.els a e))) ∧
    (decide (i < n) = false →
      (∀ (e : Nat), e < xs.length → eT.Ok (eT.els xs e)) ∧ ∀ (e : Nat), e < a.length → eT.Ok (eT.els a e))
theorem l1_one : ((loopsOf Try.prog 3).filter fun c => Nat.beq (lkey c) 9).length = 1 := by kernel_rfl
abbrev l1_GC : Type := List T × Int × List T
abbrev l1_GB : Type := Bool
def l1_f (g : l1_G) : Int × l1_GC × l1_GB := (g.2.2.1, (g.1, g.2.1, g.2.2.2.1), g.2.2.2.2)
def l1_g (d : Int × l1_GC × l1_GB) : l1_G := (d.2.1.1, d.2.1.2.1, d.1, d.2.1.2.2, d.2.2)
theorem l1_es (g : l1_G) : (l1_R g.1 g.2.1 g.2.2.1 g.2.2.2.1 g.2.2.2.2).1 = .normal ∨ (l1_R g.1 g.2.1 g.2.2.1 g.2.2.2.1 g.2.2.2.2).1 ∈ ([.ret, .exit 0] : List Ex) := by
  unfold l1_R
  repeat' (first | (left; rfl) | (right; simp only [cond_true, cond_false]; simp; done) | (rw [Bool.cond_eq_ite]; split))
noncomputable abbrev l1_C (Inv : l1_G → List Prop) (m : l1_G → Nat) : LCon := loopR [.ret, .exit 0] (loopBody Try.prog 3 9) l1_LP [] 47 Inv (fun g => l1_R g.1 g.2.1 g.2.2.1 g.2.2.2.1 g.2.2.2.2) m
theorem l1_loop (Inv : l1_G → List Prop) (m : l1_G → Nat) (hs : ∀ g, allP (Inv g) → l1_side g.1 g.2.1 g.2.2.1 g.2.2.2.1 g.2.2.2.2) (hg : Goes (fun g : l1_G => l1_R g.1 g.2.1 g.2.2.1 g.2.2.2.1 g.2.2.2.2) m fun g => allP (Inv g)) : ∀ b ∈ loopsOf Try.prog 3, lkey b = 9 → LoopOk Try.prog b (l1_C Inv m).g := loop_run (Γ := (MTab.gamz tabC [] [])) (Λ := noΛ) (MTab.okz tabC [] []) noΛ_ok 100 3 9 47 l1_LP [] Inv (fun g => l1_R g.1 g.2.1 g.2.2.1 g.2.2.2.1 g.2.2.2.2) (fun g => l1_side g.1 g.2.1 g.2.2.1 g.2.2.2.1 g.2.2.2.2) m default [.ret, .exit 0] l1_one (fun rd T B HL HB ds g => by kernel_rfl) (fun rd T B HL HB ds g => by kernel_rfl) hs hg l1_es
abbrev l2_G : Type := List T × Int × Int × List T × Bool
noncomputable def l2_LP : LP 1 l2_G := .pair (.slot 1 33 dLT) (.pair (.slot 1 34 dI) (.pair (.slot 1 35 dI) (.pair (.slot 1 0 dLT) (.slot 1 2 dBool))))
noncomputable def l2_R (xs : List T) (n : Int) (i : Int) (a : List T) (r : Bool) : Ex × l2_G :=
  bif decide (i < n) then
    bif !decide (xs.getD i.toNat eT.dflt ∈ eT.lst a.length (eT.els a)) then
      (Ex.ret, eT.lst xs.length (eT.els xs), n, i, eT.lst a.length (eT.els a), false)
    else (Ex.normal, eT.lst xs.length (eT.els xs), n, IntKind.i64.wrap (i + (1 : Int)), eT.lst a.length (eT.els a), r)
  else (Ex.exit (2 : Nat), eT.lst xs.length (eT.els xs), n, i, eT.lst a.length (eT.els a), r)
def l2_side (xs : List T) (n : Int) (i : Int) (a : List T) (r : Bool) : Prop :=
  (decide (i < n) = true →
      ((0 : Int) ≤ i ∧ i < (↑xs.length : Int)) ∧
        (∀ (e : Nat), e < a.length → eT.Ok (eT.els a e)) ∧
          ((!decide (xs.getD i.toNat eT.dflt ∈ eT.lst a.length (eT.els a))) = true →
              (∀ (e : Nat), e < xs.length → eT.Ok (eT.els xs e)) ∧ ∀ (e : Nat), e < a.length → eT.Ok (eT.els a e)) ∧
            ((!decide (xs.getD i.toNat eT.dflt ∈ eT.lst a.length (eT.els a))) = false →
              (∀ (e : Nat), e < xs.length → eT.Ok (eT.els xs e)) ∧ ∀ (e : Nat), e < a.length → eT.Ok (eT.els a e))) ∧
    (decide (i < n) = false →
      (∀ (e : Nat), e < xs.length → eT.Ok (eT.els xs e)) ∧ ∀ (e : Nat), e < a.length → eT.Ok (eT.els a e))
theorem l2_one : ((loopsOf Try.prog 3).filter fun c => Nat.beq (lkey c) 15).length = 1 := by kernel_rfl
abbrev l2_GC : Type := List T × Int × List T
abbrev l2_GB : Type := Bool
def l2_f (g : l2_G) : Int × l2_GC × l2_GB := (g.2.2.1, (g.1, g.2.1, g.2.2.2.1), g.2.2.2.2)
def l2_g (d : Int × l2_GC × l2_GB) : l2_G := (d.2.1.1, d.2.1.2.1, d.1, d.2.1.2.2, d.2.2)
theorem l2_es (g : l2_G) : (l2_R g.1 g.2.1 g.2.2.1 g.2.2.2.1 g.2.2.2.2).1 = .normal ∨ (l2_R g.1 g.2.1 g.2.2.1 g.2.2.2.1 g.2.2.2.2).1 ∈ ([.ret, .exit 2] : List Ex) := by
  unfold l2_R
  repeat' (first | (left; rfl) | (right; simp only [cond_true, cond_false]; simp; done) | (rw [Bool.cond_eq_ite]; split))
noncomputable abbrev l2_C (Inv : l2_G → List Prop) (m : l2_G → Nat) : LCon := loopR [.ret, .exit 2] (loopBody Try.prog 3 15) l2_LP [] 47 Inv (fun g => l2_R g.1 g.2.1 g.2.2.1 g.2.2.2.1 g.2.2.2.2) m
theorem l2_loop (Inv : l2_G → List Prop) (m : l2_G → Nat) (hs : ∀ g, allP (Inv g) → l2_side g.1 g.2.1 g.2.2.1 g.2.2.2.1 g.2.2.2.2) (hg : Goes (fun g : l2_G => l2_R g.1 g.2.1 g.2.2.1 g.2.2.2.1 g.2.2.2.2) m fun g => allP (Inv g)) : ∀ b ∈ loopsOf Try.prog 3, lkey b = 15 → LoopOk Try.prog b (l2_C Inv m).g := loop_run (Γ := (MTab.gamz tabC [] [])) (Λ := noΛ) (MTab.okz tabC [] []) noΛ_ok 100 3 15 47 l2_LP [] Inv (fun g => l2_R g.1 g.2.1 g.2.2.1 g.2.2.2.1 g.2.2.2.2) (fun g => l2_side g.1 g.2.1 g.2.2.1 g.2.2.2.1 g.2.2.2.2) m default [.ret, .exit 2] l2_one (fun rd T B HL HB ds g => by kernel_rfl) (fun rd T B HL HB ds g => by kernel_rfl) hs hg l2_es
noncomputable def tabXE0 : MTab Try.prog := tabC
end Go.Proofs.Ytiipneclghnfhaa

/- Chapter 3: the loops of ChainLeast: contracts. Printed by ixgen.py. -/
namespace Go.Proofs.Ytiipneclghnfhaa
open Go.RowKit Go.Sx Go.Lp
set_option maxRecDepth 100000
noncomputable def l1_S (c : l1_GC) (b : l1_GB) (i : Int) (v : T) : Ex × l1_GB := bif !c.2.2.any fun x => tleq_F x v then (.ret, false) else (.normal, b)
def l1_K (c : l1_GC) (b : l1_GB) (i : Int) : Prop := True
abbrev l1_I (g : l1_G) : List Prop := ixI (fun c : l1_GC => c.2.1) (fun c : l1_GC => c.1) l1_K (l1_f g)
abbrev l1_M (g : l1_G) : Nat := ixM (fun c : l1_GC => c.2.1) (l1_f g)
theorem l1_P : ixP l1_S (fun c : l1_GC => c.1) l1_K := fun _ _ _ _ h _ _ => h
noncomputable abbrev l1_RR (g : l1_G) : Ex × l1_G := l1_R g.1 g.2.1 g.2.2.1 g.2.2.2.1 g.2.2.2.2
theorem l1_RF (d : Int × l1_GC × l1_GB) (_ : allP (ixI (fun c : l1_GC => c.2.1) (fun c : l1_GC => c.1) l1_K d)) : l1_RR (l1_g d) = ((ixF 0 (fun c : l1_GC => c.2.1) (fun c : l1_GC => c.1) eT.dflt l1_S d).1, l1_g (ixF 0 (fun c : l1_GC => c.2.1) (fun c : l1_GC => c.1) eT.dflt l1_S d).2) := by
  obtain ⟨i, ⟨xs, n, a⟩, r⟩ := d
  show l1_R xs n i a r = _
  unfold l1_R ixF l1_S
  simp only [eT.lst_els]
  cases decide (i < n) with
  | false => rfl
  | true =>
    simp only [cond_true]
    generalize (!a.any fun x => tleq_F x (xs.getD i.toNat eT.dflt)) = z
    cases z <;> rfl
theorem l1_ok : ∀ b ∈ loopsOf Try.prog 3, lkey b = 9 → LoopOk Try.prog b (l1_C l1_I l1_M).g := by
  refine l1_loop l1_I l1_M (fun g hi => ?_) (ix_conj_goes (fun _ => rfl) (fun _ => rfl) l1_RF l1_P)
  obtain ⟨xs, n, i, a, r⟩ := g
  obtain ⟨h1, h2, h3, h4, h5⟩ := hi _ (List.mem_cons_self ..)
  have h1 : n = (xs.length : Int) := h1
  have h3 : 0 ≤ i := h3
  have h5 : True := h5
  show l1_side xs n i a r
  unfold l1_side
  simp only [decide_eq_true_eq, decide_eq_false_iff_not]
  have k0 : ∀ e : Nat, e < xs.length → eT.Ok (eT.els xs e) := fun e _ => eT.ok_els xs e
  have k1 : ∀ e : Nat, e < a.length → eT.Ok (eT.els a e) := fun e _ => eT.ok_els a e
  clear hi
  repeat' (first | exact k0 | exact k1 | apply And.intro | intro _)
  all_goals omega
theorem l1_run (c : l1_GC) (b : l1_GB) (k1 : c.2.1 = ((c.1).length : Int)) (k2 : (c.1).length ≤ maxLen) (k3 : l1_K c b 0) : loopF l1_RR l1_M (l1_g (0, c, b)) = ((scan 0 (l1_S c) 0 (c.1) b).1, l1_g ((scan 0 (l1_S c) 0 (c.1) b).2.1, c, (scan 0 (l1_S c) 0 (c.1) b).2.2)) := ix_conj_run (φ := l1_f) (ψ := l1_g) (fun _ => rfl) (fun _ => rfl) l1_RF l1_P c b k1 k2 k3
noncomputable def l2_S (c : l2_GC) (b : l2_GB) (i : Int) (v : T) : Ex × l2_GB := bif !decide (v ∈ c.2.2) then (.ret, false) else (.normal, b)
def l2_K (c : l2_GC) (b : l2_GB) (i : Int) : Prop := True
abbrev l2_I (g : l2_G) : List Prop := ixI (fun c : l2_GC => c.2.1) (fun c : l2_GC => c.1) l2_K (l2_f g)
abbrev l2_M (g : l2_G) : Nat := ixM (fun c : l2_GC => c.2.1) (l2_f g)
theorem l2_P : ixP l2_S (fun c : l2_GC => c.1) l2_K := fun _ _ _ _ h _ _ => h
noncomputable abbrev l2_RR (g : l2_G) : Ex × l2_G := l2_R g.1 g.2.1 g.2.2.1 g.2.2.2.1 g.2.2.2.2
theorem l2_RF (d : Int × l2_GC × l2_GB) (_ : allP (ixI (fun c : l2_GC => c.2.1) (fun c : l2_GC => c.1) l2_K d)) : l2_RR (l2_g d) = ((ixF 2 (fun c : l2_GC => c.2.1) (fun c : l2_GC => c.1) eT.dflt l2_S d).1, l2_g (ixF 2 (fun c : l2_GC => c.2.1) (fun c : l2_GC => c.1) eT.dflt l2_S d).2) := by
  obtain ⟨i, ⟨xs, n, a⟩, r⟩ := d
  show l2_R xs n i a r = _
  unfold l2_R ixF l2_S
  simp only [eT.lst_els]
  cases decide (i < n) with
  | false => rfl
  | true =>
    simp only [cond_true]
    generalize (!decide ((xs.getD i.toNat eT.dflt) ∈ a)) = z
    cases z <;> rfl
theorem l2_ok : ∀ b ∈ loopsOf Try.prog 3, lkey b = 15 → LoopOk Try.prog b (l2_C l2_I l2_M).g := by
  refine l2_loop l2_I l2_M (fun g hi => ?_) (ix_conj_goes (fun _ => rfl) (fun _ => rfl) l2_RF l2_P)
  obtain ⟨xs, n, i, a, r⟩ := g
  obtain ⟨h1, h2, h3, h4, h5⟩ := hi _ (List.mem_cons_self ..)
  have h1 : n = (xs.length : Int) := h1
  have h3 : 0 ≤ i := h3
  have h5 : True := h5
  show l2_side xs n i a r
  unfold l2_side
  simp only [decide_eq_true_eq, decide_eq_false_iff_not]
  have k0 : ∀ e : Nat, e < xs.length → eT.Ok (eT.els xs e) := fun e _ => eT.ok_els xs e
  have k1 : ∀ e : Nat, e < a.length → eT.Ok (eT.els a e) := fun e _ => eT.ok_els a e
  clear hi
  repeat' (first | exact k0 | exact k1 | apply And.intro | intro _)
  all_goals omega
theorem l2_run (c : l2_GC) (b : l2_GB) (k1 : c.2.1 = ((c.1).length : Int)) (k2 : (c.1).length ≤ maxLen) (k3 : l2_K c b 0) : loopF l2_RR l2_M (l2_g (0, c, b)) = ((scan 2 (l2_S c) 0 (c.1) b).1, l2_g ((scan 2 (l2_S c) 0 (c.1) b).2.1, c, (scan 2 (l2_S c) 0 (c.1) b).2.2)) := ix_conj_run (φ := l2_f) (ψ := l2_g) (fun _ => rfl) (fun _ => rfl) l2_RF l2_P c b k1 k2 k3
noncomputable def ltL1 : LTab Try.prog := ((LTab.nil.cons 3 9 (l1_C l1_I l1_M) l1_ok).cons 3 15 (l2_C l2_I l2_M) l2_ok)
noncomputable abbrev lamL1 : Lam := ltL1.lam
theorem lamL1_ok : ∀ f k L, lamL1 f k = some L → ∀ b ∈ loopsOf Try.prog f, lkey b = k → LoopOk Try.prog b L.g := ltL1.ok
end Go.Proofs.Ytiipneclghnfhaa

/- Chapter 3: the law ChainLeast. Printed by treegen.py. -/
namespace Go.Proofs.Ytiipneclghnfhaa
open Go.RowKit Go.Sx
set_option maxRecDepth 100000
set_option linter.unusedVariables false
noncomputable def lst_q1 (xs : List T) : Ex ×
  l1_G :=
  loopF (fun g => l1_R g.fst g.snd.fst g.snd.snd.fst g.snd.snd.snd.fst g.snd.snd.snd.snd) l1_M
    (eT.lst xs.length (eT.els xs), (↑xs.length : Int), (0 : Int),
      eT.lst (ofC (eT.lst xs.length (eT.els xs))).fst.length (eT.els (ofC (eT.lst xs.length (eT.els xs))).fst), false)
noncomputable def lst_q2 (xs : List T) : Ex ×
  l2_G :=
  loopF (fun g => l2_R g.fst g.snd.fst g.snd.snd.fst g.snd.snd.snd.fst g.snd.snd.snd.snd) l2_M
    (eT.lst (lst_q1 xs).snd.snd.snd.snd.fst.length (eT.els (lst_q1 xs).snd.snd.snd.snd.fst), (↑(lst_q1 xs).snd.snd.snd.snd.fst.length : Int),
      (0 : Int), eT.lst xs.length (eT.els xs), (lst_q1 xs).snd.snd.snd.snd.snd)
noncomputable def lst_F (xs : List T) : Dv.T dBool :=
  bif decide ((↑xs.length : Int) > (40 : Int)) then true
  else
    bif (ofC (eT.lst xs.length (eT.els xs))).snd != (0 : Int) then true
    else
      bif exB Ex.ret (lst_q1 xs).fst then (lst_q1 xs).snd.snd.snd.snd.snd
      else
        bif exB Ex.ret (lst_q2 xs).fst then (lst_q2 xs).snd.snd.snd.snd.snd
        else chkC (eT.lst (lst_q1 xs).snd.snd.snd.snd.fst.length (eT.els (lst_q1 xs).snd.snd.snd.snd.fst)) == (0 : Int)
def lst_side (xs : List T) : Prop :=
  (!true) = false →
    decide ((↑xs.length : Int) > (40 : Int)) = false →
      (∀ (e : Nat), e < xs.length → eT.Ok (eT.els xs e)) ∧
        (eT.lst xs.length (eT.els xs)).length ≤ KS ∧
          (((ofC (eT.lst xs.length (eT.els xs))).snd != (0 : Int)) = false →
            (∀ (e : Nat), e < xs.length → eT.Ok (eT.els xs e)) ∧
              (∀ (e : Nat),
                  e < (ofC (eT.lst xs.length (eT.els xs))).fst.length →
                    eT.Ok (eT.els (ofC (eT.lst xs.length (eT.els xs))).fst e)) ∧
                Lp.ixJ (fun c => c.snd.fst) (fun c => c.fst) l1_K
                    (l1_f
                      (eT.lst xs.length (eT.els xs), (↑xs.length : Int), (0 : Int),
                        eT.lst (ofC (eT.lst xs.length (eT.els xs))).fst.length
                          (eT.els (ofC (eT.lst xs.length (eT.els xs))).fst),
                        false)) ∧
                  (exB Ex.ret (lst_q1 xs).fst = false →
                    (∀ (e : Nat), e < (lst_q1 xs).snd.snd.snd.snd.fst.length → eT.Ok (eT.els (lst_q1 xs).snd.snd.snd.snd.fst e)) ∧
                      (∀ (e : Nat), e < xs.length → eT.Ok (eT.els xs e)) ∧
                        Lp.ixJ (fun c => c.snd.fst) (fun c => c.fst) l2_K
                            (l2_f
                              (eT.lst (lst_q1 xs).snd.snd.snd.snd.fst.length (eT.els (lst_q1 xs).snd.snd.snd.snd.fst),
                                (↑(lst_q1 xs).snd.snd.snd.snd.fst.length : Int), (0 : Int), eT.lst xs.length (eT.els xs),
                                (lst_q1 xs).snd.snd.snd.snd.snd)) ∧
                          (exB Ex.ret (lst_q2 xs).fst = false →
                            ∀ (e : Nat), e < (lst_q1 xs).snd.snd.snd.snd.fst.length → eT.Ok (eT.els (lst_q1 xs).snd.snd.snd.snd.fst e))))
theorem lst_okS (pre : DA.T aL → List Prop) (h : ∀ g, DA.bd aL g → (∀ p ∈ pre g, p) → lst_side g) : FnPure Try.prog 3 aL dBool (fun g => lst_F g) pre := pure_of_sideS (Γ := (MTab.gamz tabC [] [(17, 2, 3)])) (Λ := lamL1) (MTab.okz tabC [] [(17, 2, 3)]) lamL1_ok 100 default (fun g => lst_side g) (fun g => by kernel_rfl) (fun g => by kernel_rfl) h
noncomputable def tabXE2 : MTab Try.prog := tabC
end Go.Proofs.Ytiipneclghnfhaa
