/- Chapter 3: chain.Join. Printed by treegen.py. -/
import Derived.Test.YtiipneclghnfhaaZG12b256ff
import Derived.Test.YtiipneclghnfhaaZG07b78856
import Derived.Test.YtiipneclghnfhaaZG08e3a832
import Derived.Test.YtiipneclghnfhaaZG1008ad3f
import Derived.Test.YtiipneclghnfhaaZG06d77431
import Derived.ProofKit
import Derived.OpenShut
import Derived.ShutString
import Derived.ChangeOld
import Derived.Below
import Derived.Deep.Slices
set_option linter.unusedVariables false
set_option linter.unusedSimpArgs false
set_option linter.constructorNameAsVariable false
set_option linter.all false

namespace Go.Proofs.Ytiipneclghnfhaa
open Go.RowKit Go.Sx
set_option maxRecDepth 100000
set_option linter.unusedVariables false
noncomputable def cjn_q1 (xs : List T) (ys : List T) : Ex ×
  jo_G :=
  loopF (fun g => jo_R g.fst g.snd.fst g.snd.snd.fst g.snd.snd.snd.fst g.snd.snd.snd.snd.fst g.snd.snd.snd.snd.snd.fst g.snd.snd.snd.snd.snd.snd) jo_M (eT.lst xs.length (eT.els xs), (↑xs.length : Int), (0 : Int), eT.lst ys.length (eT.els ys), [], (), (0 : Int))
noncomputable def cjn_F (xs : List T) (ys : List T) : Dv.T dLE :=
  bif bothC (eT.lst xs.length (eT.els xs)) (eT.lst ys.length (eT.els ys)) != (0 : Int) then ([], bothC (eT.lst xs.length (eT.els xs)) (eT.lst ys.length (eT.els ys)))
  else bif exB Ex.ret (cjn_q1 xs ys).fst then ([], (cjn_q1 xs ys).snd.snd.snd.snd.snd.snd.snd) else (eT.lst (ofC (eT.lst (cjn_q1 xs ys).snd.snd.snd.snd.snd.fst.length (eT.els (cjn_q1 xs ys).snd.snd.snd.snd.snd.fst))).fst.length (eT.els (ofC (eT.lst (cjn_q1 xs ys).snd.snd.snd.snd.snd.fst.length (eT.els (cjn_q1 xs ys).snd.snd.snd.snd.snd.fst))).fst), (ofC (eT.lst (cjn_q1 xs ys).snd.snd.snd.snd.snd.fst.length (eT.els (cjn_q1 xs ys).snd.snd.snd.snd.snd.fst))).snd)
def cjn_side (xs : List T) (ys : List T) : Prop :=
  (∀ (e : Nat), e < xs.length → eT.Ok (eT.els xs e)) ∧ (∀ (e : Nat), e < ys.length → eT.Ok (eT.els ys e)) ∧ ((bothC (eT.lst xs.length (eT.els xs)) (eT.lst ys.length (eT.els ys)) != (0 : Int)) = false → (∀ (e : Nat), e < xs.length → eT.Ok (eT.els xs e)) ∧ (∀ (e : Nat), e < ys.length → eT.Ok (eT.els ys e)) ∧ Lp.ixJ (fun c => c.snd.fst) (fun c => c.fst) jo_K (jo_f (eT.lst xs.length (eT.els xs), (↑xs.length : Int), (0 : Int), eT.lst ys.length (eT.els ys), [], (), (0 : Int))) ∧ (exB Ex.ret (cjn_q1 xs ys).fst = false → (cjn_q1 xs ys).snd.snd.snd.snd.snd.fst.length ≤ (cjn_q1 xs ys).snd.snd.snd.snd.snd.fst.length ∧ (∀ (e : Nat), e < (cjn_q1 xs ys).snd.snd.snd.snd.snd.fst.length → True) ∧ (eT.lst (cjn_q1 xs ys).snd.snd.snd.snd.snd.fst.length (eT.els (cjn_q1 xs ys).snd.snd.snd.snd.snd.fst)).length ≤ KS ∧ ∀ (e : Nat), e < (ofC (eT.lst (cjn_q1 xs ys).snd.snd.snd.snd.snd.fst.length (eT.els (cjn_q1 xs ys).snd.snd.snd.snd.snd.fst))).fst.length → eT.Ok (eT.els (ofC (eT.lst (cjn_q1 xs ys).snd.snd.snd.snd.snd.fst.length (eT.els (cjn_q1 xs ys).snd.snd.snd.snd.snd.fst))).fst e)))
theorem cjn_okS (pre : DA.T aLL → List Prop) (h : ∀ g, DA.bd aLL g → (∀ p ∈ pre g, p) → cjn_side g.1 g.2) : FnPure Try.prog 51 aLL dLE (fun g => cjn_F g.1 g.2) pre := pure_of_sideS (Γ := (MTab.gamz tabC [] [])) (Λ := lamG2) (MTab.okz tabC [] []) lamG2_ok 100 default (fun g => cjn_side g.1 g.2) (fun g => by kernel_rfl) (fun g => by kernel_rfl) h
noncomputable def tabXF6 : MTab Try.prog := tabC
end Go.Proofs.Ytiipneclghnfhaa

/- Chapter 3: chain.Join: its contract; what is joined covers what both do. -/
namespace Go.Proofs.Ytiipneclghnfhaa
open Go.RowKit Go.Sx Go.Lp
theorem both_iff {xs ys : List T} (h : bothC xs ys = 0) : chkC xs = 0 ∧ chkC ys = 0 ∧ ∀ x ∈ xs, ∀ y ∈ ys, x.d = y.d := by
  unfold bothC at h
  by_cases h1 : chkC xs = 0
  · by_cases h2 : chkC ys = 0
    · refine ⟨h1, h2, ?_⟩
      have b1 := ((bad_iff xs).1 ((chk_iff xs).1 h1).2.1).2
      have b2 := ((bad_iff ys).1 ((chk_iff ys).1 h2).2.1).2
      simp only [h1, h2, bne_self_eq_false, cond_false] at h
      intro x hx y hy
      cases xs with
      | nil => cases hx
      | cons p r =>
        cases ys with
        | nil => cases hy
        | cons q s =>
          have hpq : p.d = q.d := by
            have l1 : ((p :: r).length : Int) > 0 := by simp only [List.length_cons]; omega
            have l2 : ((q :: s).length : Int) > 0 := by simp only [List.length_cons]; omega
            simp only [l1, l2, decide_true, Bool.true_and, List.getD_cons_zero] at h
            by_cases hd : p.d = q.d
            · exact hd
            · have : (p.d != q.d) = true := by simpa using hd
              rw [this] at h
              simp at h
          rw [b1 x hx p (List.mem_cons_self ..), b2 y hy q (List.mem_cons_self ..), hpq]
    · have : (chkC ys != 0) = true := by simpa using h2
      simp only [h1, bne_self_eq_false, cond_false, this, cond_true] at h
      exact absurd h h2
  · have : (chkC xs != 0) = true := by simpa using h1
    simp only [this, cond_true] at h
    exact absurd h h1
theorem jmax_eq (a b : Int) : jmax_F a b = max a b := by
  show (if b > a then b else a) = max a b
  rw [Int.max_def]
  split <;> split <;> omega
theorem jn_eq {x y : T} (hx : x.Ok) (hy : y.Ok) (hd : x.d = y.d) : tjoin_F x y = (⟨max x.e y.e, x.d, max x.l0 y.l0, max x.l1 y.l1, max x.l2 y.l2, max x.l3 y.l3⟩, 0) := by
  unfold tjoin_F
  simp only [(tcheck_iff x).2 hx, (tcheck_iff y).2 hy, hd, bne_self_eq_false, Bool.or_false, cond_false, jmax_eq]
theorem jn_Ok {x y : T} (hx : x.Ok) (hy : y.Ok) (hd : x.d = y.d) : (jnT x y).Ok ∧ (jnT x y).d = x.d := by
  unfold jnT
  rw [jn_eq hx hy hd]
  unfold T.Ok at *
  refine ⟨?_, rfl⟩
  simp only
  omega
theorem jn_le {x y : T} (hx : x.Ok) (hy : y.Ok) (hd : x.d = y.d) (t : T) : tleq_F (jnT x y) t = (tleq_F x t && tleq_F y t) := by
  have ho := (jn_Ok hx hy hd).1
  unfold jnT at *
  rw [jn_eq hx hy hd] at *
  rw [Bool.eq_iff_iff, Bool.and_eq_true, tleq_iff, tleq_iff, tleq_iff]
  simp only at *
  constructor
  · rintro ⟨_, h2, h3, h4, h5, h6, h7, h8⟩
    exact ⟨⟨hx, h2, h3, by omega, by omega, by omega, by omega, by omega⟩, hy, h2, by omega, by omega, by omega, by omega, by omega, by omega⟩
  · rintro ⟨⟨_, h2, h3, h4, h5, h6, h7, h8⟩, _, k2, k3, k4, k5, k6, k7, k8⟩
    exact ⟨ho, h2, h3, by omega, by omega, by omega, by omega, by omega⟩
noncomputable def joinC (xs ys : List T) : List T × Int := bif bothC xs ys != 0 then ([], bothC xs ys) else ofC (joins jnT xs ys)
theorem both_jn {xs ys : List T} (h : bothC xs ys = 0) : ∀ x ∈ xs, ∀ y ∈ ys, x.Ok ∧ y.Ok ∧ x.d = y.d := by
  obtain ⟨h1, h2, h3⟩ := both_iff h
  exact fun x hx y hy => ⟨((bad_iff xs).1 ((chk_iff xs).1 h1).2.1).1 x hx, ((bad_iff ys).1 ((chk_iff ys).1 h2).2.1).1 y hy, h3 x hx y hy⟩
theorem joins_len (xs ys : List T) : (joins jnT xs ys).length = xs.length * ys.length := by
  unfold joins
  induction xs with
  | nil => simp
  | cons x r ih => rw [List.flatMap_cons, List.length_append, ih, List.length_map, List.length_cons, Nat.add_mul, Nat.one_mul, Nat.add_comm]
theorem cjn_eq (xs ys : List T) (k1 : xs.length ≤ 1000) (k2 : ys.length ≤ 1000) : cjn_F xs ys = joinC xs ys ∧ cjn_side xs ys := by
  unfold cjn_F cjn_side joinC
  simp only [eT.lst_els]
  cases hb : (bothC xs ys != 0) with
  | true => exact ⟨rfl, okT xs, okT ys, fun h => by cases h⟩
  | false =>
    have hb0 : bothC xs ys = 0 := bne_eq_false_iff_eq.1 hb
    have hj : ∀ x ∈ xs, ∀ y ∈ ys, (tjoin_F x y).2 = 0 := fun x hx y hy => by
      obtain ⟨a, b, c⟩ := both_jn hb0 x hx y hy
      rw [jn_eq a b c]
    have h1 := jo_run xs ys hj (by omega) (by omega)
    have hq : cjn_q1 xs ys = (.exit 0, xs, (xs.length : Int), (xs.length : Int), ys, joins jnT xs ys, (), 0) := by
      unfold cjn_q1
      simp only [eT.lst_els]
      exact h1
    rw [hq]
    simp only [eT.lst_els, cond_false]
    have hk : (joins jnT xs ys).length ≤ KS := by
      rw [joins_len]
      unfold KS
      exact Nat.mul_le_mul k1 k2
    refine ⟨rfl, okT xs, okT ys, fun _ => ⟨okT xs, okT ys, ?_, fun _ => ⟨Nat.le_refl _, fun _ _ => trivial, hk, okT _⟩⟩⟩
    exact ixJ0 (lim := fun c : jo_GC => c.2.1) (xs := fun c : jo_GC => c.1) (P := jo_K) (c := (xs, (xs.length : Int), ys)) (b := ([], (), 0)) rfl (by unfold maxLen; show xs.length ≤ _; omega) ⟨hj, by show xs.length ≤ _; omega, by show ys.length ≤ _; omega, by show (0 : Int) ≤ 2000 * 0; omega⟩
theorem cjn_ok : FnPure Try.prog 51 aLL dLE (fun g => joinC g.1 g.2) (fun g => [g.1.length ≤ 1000, g.2.length ≤ 1000]) :=
  pure_congr (cjn_okS _ fun g _ hp => (cjn_eq g.1 g.2 (hp _ (List.mem_cons_self ..)) (hp _ (List.mem_cons_of_mem _ (List.mem_cons_self ..)))).2) fun g _ hp => (cjn_eq g.1 g.2 (hp _ (List.mem_cons_self ..)) (hp _ (List.mem_cons_of_mem _ (List.mem_cons_self ..)))).1
theorem bad_joins {xs ys : List T} (h : bothC xs ys = 0) : badC (joins jnT xs ys) = 0 := by
  have hk := both_jn h
  obtain ⟨h1, h2, h3⟩ := both_iff h
  have b1 := ((bad_iff xs).1 ((chk_iff xs).1 h1).2.1).2
  refine (bad_iff _).2 ⟨fun z hz => ?_, fun z hz w hw => ?_⟩
  · simp only [joins, List.mem_flatMap, List.mem_map] at hz
    obtain ⟨x, hx, y, hy, rfl⟩ := hz
    obtain ⟨a, b, c⟩ := hk x hx y hy
    exact (jn_Ok a b c).1
  · simp only [joins, List.mem_flatMap, List.mem_map] at hz hw
    obtain ⟨x, hx, y, hy, rfl⟩ := hz
    obtain ⟨x', hx', y', hy', rfl⟩ := hw
    obtain ⟨a, b, c⟩ := hk x hx y hy
    obtain ⟨a', b', c'⟩ := hk x' hx' y' hy'
    rw [(jn_Ok a b c).2, (jn_Ok a' b' c').2, b1 x hx x' hx']
theorem bad_app {xs ys : List T} (h : bothC xs ys = 0) : badC (xs ++ ys) = 0 := by
  obtain ⟨h1, h2, h3⟩ := both_iff h
  have b1 := (bad_iff xs).1 ((chk_iff xs).1 h1).2.1
  have b2 := (bad_iff ys).1 ((chk_iff ys).1 h2).2.1
  refine (bad_iff _).2 ⟨fun z hz => ?_, fun z hz w hw => ?_⟩
  · rcases List.mem_append.1 hz with h | h
    · exact b1.1 z h
    · exact b2.1 z h
  · rcases List.mem_append.1 hz with h | h <;> rcases List.mem_append.1 hw with h' | h'
    · exact b1.2 z h w h'
    · exact h3 z h w h'
    · exact (h3 w h' z h).symm
    · exact b2.2 z h w h'
theorem meet_ok {xs ys : List T} (h : (meetC xs ys).2 = 0) : bothC xs ys = 0 ∧ (meetC xs ys).1 = minsT (xs ++ ys) := by
  unfold meetC at *
  by_cases hb : bothC xs ys = 0
  · simp only [hb, bne_self_eq_false, cond_false] at h ⊢
    exact ⟨trivial, of_eq h⟩
  · have : (bothC xs ys != 0) = true := by simpa using hb
    simp only [this, cond_true] at h
    exact absurd h hb
theorem join_ok {xs ys : List T} (h : (joinC xs ys).2 = 0) : bothC xs ys = 0 ∧ (joinC xs ys).1 = minsT (joins jnT xs ys) := by
  unfold joinC at *
  by_cases hb : bothC xs ys = 0
  · simp only [hb, bne_self_eq_false, cond_false] at h ⊢
    exact ⟨trivial, of_eq h⟩
  · have : (bothC xs ys != 0) = true := by simpa using hb
    simp only [this, cond_true] at h
    exact absurd h hb
theorem meet_cov {xs ys : List T} (h : (meetC xs ys).2 = 0) (t : T) : (meetC xs ys).1.any (tleq_F · t) = (xs.any (tleq_F · t) || ys.any (tleq_F · t)) := by
  rw [(meet_ok h).2, cov_minsT, List.any_append]
theorem join_cov {xs ys : List T} (h : (joinC xs ys).2 = 0) (t : T) : (joinC xs ys).1.any (tleq_F · t) = (xs.any (tleq_F · t) && ys.any (tleq_F · t)) := by
  rw [(join_ok h).2, cov_minsT]
  refine joins_cover (fun x hx y hy t => ?_) t
  obtain ⟨a, b, c⟩ := both_jn (join_ok h).1 x hx y hy
  exact jn_le a b c t
noncomputable def tabG : MTab Try.prog := (tabC.cons 50 (pconR aLL dLE (fun g => meetC g.1 g.2) (fun _ => [])) (conR_ok cmt_ok)).cons 51 (pconR aLL dLE (fun g => joinC g.1 g.2) (fun g => [g.1.length ≤ 1000, g.2.length ≤ 1000])) (conR_ok cjn_ok)
end Go.Proofs.Ytiipneclghnfhaa

/- Chapter 3: the document's join of two times is the program's. -/
namespace Go.Proofs.Ytiipneclghnfhaa
open Go.RowKit Go.Sx Go.Lp
theorem mx (x y : Int) : (bif decide (y > x) == true then y else x) = max x y := by
  rw [Int.max_def]
  by_cases h : y > x
  · simp [h]; omega
  · simp [h]; omega
theorem mx0 {x y : Int} (h1 : x = 0) (h2 : y = 0) : x = max x y := by rw [h1, h2]; rfl
theorem rtj_eq (a b : T) : rtjoin_F a b = tjoin_F a b ∧ rtjoin_side a b := by
  by_cases ha : tcheck_F a = 0
  · by_cases hb : tcheck_F b = 0
    · have oa := (tcheck_iff a).1 ha
      have ob := (tcheck_iff b).1 hb
      by_cases hd : a.d = b.d
      · rw [jn_eq oa ob hd]
        unfold rtjoin_F rtjoin_side
        simp only [rtcheck_eq, ha, hb, hd, bne_self_eq_false, Bool.or_false, cond_false, mx]
        obtain ⟨⟨_, _, d1, d2⟩, ⟨_, _, a0⟩, ⟨_, _, a1⟩, ⟨_, _, a2⟩, ⟨_, _, a3⟩⟩ := oa
        obtain ⟨⟨_, _, e1, e2⟩, ⟨_, _, b0⟩, ⟨_, _, b1⟩, ⟨_, _, b2⟩, ⟨_, _, b3⟩⟩ := ob
        rw [hd] at d1 d2 a0 a1 a2 a3
        have h5 : b.d = 0 ∨ b.d = 1 ∨ b.d = 2 ∨ b.d = 3 ∨ b.d = 4 := by omega
        rcases h5 with h | h | h | h | h <;> rw [h] at a0 a1 a2 a3 b0 b1 b2 b3 <;> simp only [h] <;> refine ⟨?_, fun _ _ hc => by revert hc; decide⟩
        · have p0 := mx0 (a0 (by omega)) (b0 (by omega))
          have p1 := mx0 (a1 (by omega)) (b1 (by omega))
          have p2 := mx0 (a2 (by omega)) (b2 (by omega))
          have p3 := mx0 (a3 (by omega)) (b3 (by omega))
          rw [← p0, ← p1, ← p2, ← p3]; rfl
        · have p1 := mx0 (a1 (by omega)) (b1 (by omega))
          have p2 := mx0 (a2 (by omega)) (b2 (by omega))
          have p3 := mx0 (a3 (by omega)) (b3 (by omega))
          rw [← p1, ← p2, ← p3]; rfl
        · have p2 := mx0 (a2 (by omega)) (b2 (by omega))
          have p3 := mx0 (a3 (by omega)) (b3 (by omega))
          rw [← p2, ← p3]; rfl
        · have p3 := mx0 (a3 (by omega)) (b3 (by omega))
          rw [← p3]; rfl
        · rfl
      · have : (a.d != b.d) = true := by simpa using hd
        unfold rtjoin_F tjoin_F rtjoin_side
        simp only [rtcheck_eq, ha, hb, this, bne_self_eq_false, Bool.or_false, cond_false, cond_true]
        exact ⟨trivial, fun _ h => by cases h⟩
    · have : (tcheck_F b != 0) = true := by simpa using hb
      unfold rtjoin_F tjoin_F rtjoin_side
      simp only [rtcheck_eq, this, Bool.or_true, cond_true]
      exact ⟨trivial, fun h => by cases h⟩
  · have : (tcheck_F a != 0) = true := by simpa using ha
    unfold rtjoin_F tjoin_F rtjoin_side
    simp only [rtcheck_eq, this, Bool.true_or, cond_true]
    exact ⟨trivial, fun h => by cases h⟩
theorem rtj_ok : FnPure Try.prog 103 aTT dTE (fun g => tjoin_F g.1 g.2) (fun _ => []) :=
  pure_congr (rtjoin_okS _ fun g _ _ => (rtj_eq g.1 g.2).2) fun g _ _ => (rtj_eq g.1 g.2).1
noncomputable def tabI : MTab Try.prog := tabG.cons 103 (pconP aTT dTE (fun g => tjoin_F g.1 g.2) (fun _ => [])) (conP_ok rtj_ok puTE)
end Go.Proofs.Ytiipneclghnfhaa

/- Chapter 3: the document's Join: the inner loop. Printed by treegen.py. -/
namespace Go.Proofs.Ytiipneclghnfhaa
open Go.RowKit Go.Sx
set_option maxRecDepth 100000
set_option linter.unusedVariables false
abbrev rj_G : Type := List T × List T × Int × Int × List T
noncomputable def rj_LP : LP 1 rj_G := .pair (.slot 1 0 dLT) (.pair (.slot 1 1 dLT) (.pair (.slot 1 8 dI) (.pair (.slot 1 9 dI) (.row 1 7 30 eT))))
noncomputable def rj_R (a : List T) (b : List T) (k : Int) (i : Int) (all : List T) : Ex × rj_G :=
  bif decide (i < (↑b.length : Int)) then (Ex.normal, eT.lst a.length (eT.els a), eT.lst b.length (eT.els b), k, IntKind.i64.wrap (i + (1 : Int)), eT.lst (min (all.length + (1 : Nat)) all.length) (eT.els all) ++ List.map (fun x => (tjoin_F (a.getD k.toNat eT.dflt) (b.getD i.toNat eT.dflt)).fst) (List.range (all.length + (1 : Nat) - all.length)))
  else (Ex.exit (2 : Nat), eT.lst a.length (eT.els a), eT.lst b.length (eT.els b), k, i, eT.lst all.length (eT.els all))
def rj_side (a : List T) (b : List T) (k : Int) (i : Int) (all : List T) : Prop :=
  (decide (i < (↑b.length : Int)) = true → ((0 : Int) ≤ k ∧ k < (↑a.length : Int)) ∧ ((0 : Int) ≤ i ∧ i < (↑b.length : Int)) ∧ (all.length ≤ all.length ∧ True ∧ all.length + (1 : Nat) ≤ maxLen ∧ (all.length + (1 : Nat)) * Try.prog.types[(30 : Nat)].bytes ≤ (140737488355328 : Nat)) ∧ (∀ (e : Nat), e < a.length → eT.Ok (eT.els a e)) ∧ (∀ (e : Nat), e < b.length → eT.Ok (eT.els b e)) ∧ all.length + (1 : Nat) ≤ all.length + (1 : Nat) ∧ (∀ (e : Nat), e < min (all.length + (1 : Nat)) all.length → True) ∧ ∀ (e : Nat), e < all.length + (1 : Nat) - all.length → True) ∧ (decide (i < (↑b.length : Int)) = false → (∀ (e : Nat), e < a.length → eT.Ok (eT.els a e)) ∧ (∀ (e : Nat), e < b.length → eT.Ok (eT.els b e)) ∧ all.length ≤ all.length ∧ ∀ (e : Nat), e < all.length → True)
theorem rj_one : ((loopsOf Try.prog 53).filter fun c => Nat.beq (lkey c) 9).length = 1 := by kernel_rfl
abbrev rj_GC : Type := List T × List T × Int
abbrev rj_GB : Type := List T
def rj_f (g : rj_G) : Int × rj_GC × rj_GB := (g.2.2.2.1, (g.1, g.2.1, g.2.2.1), g.2.2.2.2)
def rj_g (d : Int × rj_GC × rj_GB) : rj_G := (d.2.1.1, d.2.1.2.1, d.2.1.2.2, d.1, d.2.2)
theorem rj_es (g : rj_G) : (rj_R g.1 g.2.1 g.2.2.1 g.2.2.2.1 g.2.2.2.2).1 = .normal ∨ (rj_R g.1 g.2.1 g.2.2.1 g.2.2.2.1 g.2.2.2.2).1 ∈ ([.exit 2] : List Ex) := by
  unfold rj_R
  repeat' (first | (left; rfl) | (right; simp only [cond_true, cond_false]; simp; done) | (rw [Bool.cond_eq_ite]; split))
noncomputable abbrev rj_C (Inv : rj_G → List Prop) (m : rj_G → Nat) : LCon := loopR [.exit 2] (loopBody Try.prog 53 9) rj_LP [] 50 Inv (fun g => rj_R g.1 g.2.1 g.2.2.1 g.2.2.2.1 g.2.2.2.2) m
theorem rj_loop (Inv : rj_G → List Prop) (m : rj_G → Nat) (hs : ∀ g, allP (Inv g) → rj_side g.1 g.2.1 g.2.2.1 g.2.2.2.1 g.2.2.2.2) (hg : Goes (fun g : rj_G => rj_R g.1 g.2.1 g.2.2.1 g.2.2.2.1 g.2.2.2.2) m fun g => allP (Inv g)) : ∀ b ∈ loopsOf Try.prog 53, lkey b = 9 → LoopOk Try.prog b (rj_C Inv m).g := loop_run (Γ := (MTab.gamz tabI [] [])) (Λ := noΛ) (MTab.okz tabI [] []) noΛ_ok 100 53 9 50 rj_LP [] Inv (fun g => rj_R g.1 g.2.1 g.2.2.1 g.2.2.2.1 g.2.2.2.2) (fun g => rj_side g.1 g.2.1 g.2.2.1 g.2.2.2.1 g.2.2.2.2) m default [.exit 2] rj_one (fun rd T B HL HB ds g => by kernel_rfl) (fun rd T B HL HB ds g => by kernel_rfl) hs hg rj_es
noncomputable def tabXI2 : MTab Try.prog := tabI
end Go.Proofs.Ytiipneclghnfhaa

/- Chapter 3: the document's Join: the inner loop's contract. -/
namespace Go.Proofs.Ytiipneclghnfhaa
open Go.RowKit Go.Sx Go.Lp
noncomputable abbrev atT (a : List T) (k : Int) : T := a.getD k.toNat eT.dflt
noncomputable def rj_S (c : rj_GC) (b : rj_GB) (_ : Int) (v : T) : Ex × rj_GB := (.normal, b ++ [jnT (atT c.1 c.2.2) v])
def rj_K (c : rj_GC) (b : rj_GB) (i : Int) : Prop := c.2.1.length ≤ 2000 ∧ (List.length b : Int) ≤ 4000000 + i ∧ 0 ≤ c.2.2 ∧ c.2.2 < (c.1.length : Int)
abbrev rj_I (g : rj_G) : List Prop := ixI (fun c : rj_GC => (c.2.1.length : Int)) (fun c => c.2.1) rj_K (rj_f g)
abbrev rj_M (g : rj_G) : Nat := ixM (fun c : rj_GC => (c.2.1.length : Int)) (rj_f g)
theorem rj_P : ixP rj_S (fun c : rj_GC => c.2.1) rj_K := by
  rintro ⟨a, l, k⟩ all i v ⟨h2, h3, h4, h5⟩ _ _
  refine ⟨h2, ?_, h4, h5⟩
  have h3 : (List.length all : Int) ≤ 4000000 + (i : Int) := h3
  show ((all ++ [jnT (atT a k) v]).length : Int) ≤ 4000000 + ((i : Int) + 1)
  rw [List.length_append]
  simp only [List.length_cons, List.length_nil]
  omega
noncomputable abbrev rj_RR (g : rj_G) : Ex × rj_G := rj_R g.1 g.2.1 g.2.2.1 g.2.2.2.1 g.2.2.2.2
theorem rj_RF (d : Int × rj_GC × rj_GB) (_ : allP (ixI (fun c : rj_GC => (c.2.1.length : Int)) (fun c => c.2.1) rj_K d)) : rj_RR (rj_g d) = ((ixF 2 (fun c : rj_GC => (c.2.1.length : Int)) (fun c => c.2.1) eT.dflt rj_S d).1, rj_g (ixF 2 (fun c : rj_GC => (c.2.1.length : Int)) (fun c => c.2.1) eT.dflt rj_S d).2) := by
  obtain ⟨i, ⟨a, l, k⟩, all⟩ := d
  show rj_R a l k i all = _
  unfold rj_R ixF rj_S jnT
  simp only [eT.lst_els, lst_app1]
  cases decide (i < (l.length : Int)) <;> rfl
theorem rj_ok : ∀ b ∈ loopsOf Try.prog 53, lkey b = 9 → LoopOk Try.prog b (rj_C rj_I rj_M).g := by
  refine rj_loop rj_I rj_M (fun g hi => ?_) (ix_conj_goes (fun _ => rfl) (fun _ => rfl) rj_RF rj_P)
  obtain ⟨a, l, k, i, all⟩ := g
  obtain ⟨h1, h2, h3, h4, h6, h7, h8, h9⟩ := hi _ (List.mem_cons_self ..)
  have h3 : 0 ≤ i := h3
  have h4 : i ≤ (l.length : Int) := h4
  have h6 : l.length ≤ 2000 := h6
  have h7 : (List.length all : Int) ≤ 4000000 + i := h7
  have h8 : 0 ≤ k := h8
  have h9 : k < (a.length : Int) := h9
  have ha := okT a
  have hl := okT l
  clear hi
  show rj_side a l k i all
  unfold rj_side
  simp only [bytesT, decide_eq_true_eq, decide_eq_false_iff_not]
  unfold maxLen
  repeat' (first | exact ha | exact hl | exact rfl | apply And.intro | intro _)
  all_goals (first | trivial | omega)
theorem rj_run (a l : List T) (k : Int) (all : List T) (h2 : l.length ≤ 2000) (h3 : all.length ≤ 4000000) (h4 : 0 ≤ k) (h5 : k < (a.length : Int)) : loopF rj_RR rj_M (a, l, k, 0, all) = (.exit 2, a, l, k, (l.length : Int), all ++ l.map (jnT (atT a k))) := by
  have hm : l.length ≤ maxLen := by unfold maxLen; omega
  have hr : loopF rj_RR rj_M (a, l, k, 0, all) = _ := ix_conj_run (φ := rj_f) (ψ := rj_g) (fun _ => rfl) (fun _ => rfl) rj_RF rj_P (a, l, k) all rfl hm ⟨h2, by show (all.length : Int) ≤ 4000000 + 0; omega, h4, h5⟩
  have hf : ∀ (q b : List T), q.foldl (fun (b : rj_GB) v => b ++ [jnT (atT a k) v]) b = b ++ q.map (jnT (atT a k)) := by
    intro q
    induction q with
    | nil => intro b; simp
    | cons v q ih => intro b; rw [List.foldl_cons, ih]; simp
  have hs := scan_fold (x := 2) (st := rj_S (a, l, k)) (f := fun (b : rj_GB) v => b ++ [jnT (atT a k) v]) (fun _ _ _ => rfl) l 0 all
  rw [hf] at hs
  rw [hr]
  show ((scan 2 (rj_S (a, l, k)) 0 l all).1, rj_g ((scan 2 (rj_S (a, l, k)) 0 l all).2.1, (a, l, k), (scan 2 (rj_S (a, l, k)) 0 l all).2.2)) = _
  rw [hs, Int.zero_add]
  rfl
noncomputable def ltI1 : LTab Try.prog := LTab.nil.cons 53 9 (rj_C rj_I rj_M) rj_ok
noncomputable abbrev lamI1 : Lam := ltI1.lam
theorem lamI1_ok : ∀ f k L, lamI1 f k = some L → ∀ b ∈ loopsOf Try.prog f, lkey b = k → LoopOk Try.prog b L.g := ltI1.ok
end Go.Proofs.Ytiipneclghnfhaa

/- Chapter 3: the document's Join: the outer loop. Printed by treegen.py. -/
namespace Go.Proofs.Ytiipneclghnfhaa
open Go.RowKit Go.Sx
set_option maxRecDepth 100000
set_option linter.unusedVariables false
noncomputable def rJ_q1 (a : List T) (b : List T) (k : Int) (all : List T) : Ex ×
  rj_G :=
  loopF (fun g => rj_R g.fst g.snd.fst g.snd.snd.fst g.snd.snd.snd.fst g.snd.snd.snd.snd) rj_M (eT.lst a.length (eT.els a), eT.lst b.length (eT.els b), k, (0 : Int), eT.lst all.length (eT.els all))
abbrev rJ_G : Type := List T × List T × Int × List T
noncomputable def rJ_LP : LP 0 rJ_G := .pair (.slot 0 0 dLT) (.pair (.slot 0 1 dLT) (.pair (.slot 0 8 dI) (.row 0 7 30 eT)))
noncomputable def rJ_R (a : List T) (b : List T) (k : Int) (all : List T) : Ex × rJ_G :=
  bif decide (k < (↑a.length : Int)) then (Ex.normal, eT.lst (rJ_q1 a b k all).snd.fst.length (eT.els (rJ_q1 a b k all).snd.fst), eT.lst (rJ_q1 a b k all).snd.snd.fst.length (eT.els (rJ_q1 a b k all).snd.snd.fst), IntKind.i64.wrap ((rJ_q1 a b k all).snd.snd.snd.fst + (1 : Int)), eT.lst (rJ_q1 a b k all).snd.snd.snd.snd.snd.length (eT.els (rJ_q1 a b k all).snd.snd.snd.snd.snd))
  else (Ex.exit (0 : Nat), eT.lst a.length (eT.els a), eT.lst b.length (eT.els b), k, eT.lst all.length (eT.els all))
def rJ_side (a : List T) (b : List T) (k : Int) (all : List T) : Prop :=
  (decide (k < (↑a.length : Int)) = true → (∀ (e : Nat), e < a.length → eT.Ok (eT.els a e)) ∧ (∀ (e : Nat), e < b.length → eT.Ok (eT.els b e)) ∧ all.length ≤ all.length ∧ (∀ (e : Nat), e < all.length → True) ∧ Lp.ixJ (fun c => (↑c.snd.fst.length : Int)) (fun c => c.snd.fst) rj_K (rj_f (eT.lst a.length (eT.els a), eT.lst b.length (eT.els b), k, (0 : Int), eT.lst all.length (eT.els all))) ∧ (∀ (e : Nat), e < (rJ_q1 a b k all).snd.fst.length → eT.Ok (eT.els (rJ_q1 a b k all).snd.fst e)) ∧ (∀ (e : Nat), e < (rJ_q1 a b k all).snd.snd.fst.length → eT.Ok (eT.els (rJ_q1 a b k all).snd.snd.fst e)) ∧ (rJ_q1 a b k all).snd.snd.snd.snd.snd.length ≤ (rJ_q1 a b k all).snd.snd.snd.snd.snd.length ∧ ∀ (e : Nat), e < (rJ_q1 a b k all).snd.snd.snd.snd.snd.length → True) ∧ (decide (k < (↑a.length : Int)) = false → (∀ (e : Nat), e < a.length → eT.Ok (eT.els a e)) ∧ (∀ (e : Nat), e < b.length → eT.Ok (eT.els b e)) ∧ all.length ≤ all.length ∧ ∀ (e : Nat), e < all.length → True)
theorem rJ_one : ((loopsOf Try.prog 53).filter fun c => Nat.beq (lkey c) 6).length = 1 := by kernel_rfl
abbrev rJ_GC : Type := List T × List T
abbrev rJ_GB : Type := List T
def rJ_f (g : rJ_G) : Int × rJ_GC × rJ_GB := (g.2.2.1, (g.1, g.2.1), g.2.2.2)
def rJ_g (d : Int × rJ_GC × rJ_GB) : rJ_G := (d.2.1.1, d.2.1.2, d.1, d.2.2)
theorem rJ_es (g : rJ_G) : (rJ_R g.1 g.2.1 g.2.2.1 g.2.2.2).1 = .normal ∨ (rJ_R g.1 g.2.1 g.2.2.1 g.2.2.2).1 ∈ ([.exit 0] : List Ex) := by
  unfold rJ_R
  repeat' (first | (left; rfl) | (right; simp only [cond_true, cond_false]; simp; done) | (rw [Bool.cond_eq_ite]; split))
noncomputable abbrev rJ_C (Inv : rJ_G → List Prop) (m : rJ_G → Nat) : LCon := loopR [.exit 0] (loopBody Try.prog 53 6) rJ_LP [] 50 Inv (fun g => rJ_R g.1 g.2.1 g.2.2.1 g.2.2.2) m
theorem rJ_loop (Inv : rJ_G → List Prop) (m : rJ_G → Nat) (hs : ∀ g, allP (Inv g) → rJ_side g.1 g.2.1 g.2.2.1 g.2.2.2) (hg : Goes (fun g : rJ_G => rJ_R g.1 g.2.1 g.2.2.1 g.2.2.2) m fun g => allP (Inv g)) : ∀ b ∈ loopsOf Try.prog 53, lkey b = 6 → LoopOk Try.prog b (rJ_C Inv m).g := loop_run (Γ := (MTab.gamz tabI [] [])) (Λ := lamI1) (MTab.okz tabI [] []) lamI1_ok 100 53 6 50 rJ_LP [] Inv (fun g => rJ_R g.1 g.2.1 g.2.2.1 g.2.2.2) (fun g => rJ_side g.1 g.2.1 g.2.2.1 g.2.2.2) m default [.exit 0] rJ_one (fun rd T B HL HB ds g => by kernel_rfl) (fun rd T B HL HB ds g => by kernel_rfl) hs hg rJ_es
noncomputable def tabXI4 : MTab Try.prog := tabI
end Go.Proofs.Ytiipneclghnfhaa

/- Chapter 3: the document's Join: the outer loop's contract. -/
namespace Go.Proofs.Ytiipneclghnfhaa
open Go.RowKit Go.Sx Go.Lp
noncomputable def rJ_S (c : rJ_GC) (b : rJ_GB) (_ : Int) (v : T) : Ex × rJ_GB := (.normal, b ++ c.2.map (jnT v))
def rJ_K (c : rJ_GC) (b : rJ_GB) (i : Int) : Prop := c.1.length ≤ 2000 ∧ c.2.length ≤ 2000 ∧ (List.length b : Int) ≤ 2000 * i
abbrev rJ_I (g : rJ_G) : List Prop := ixI (fun c : rJ_GC => (c.1.length : Int)) (fun c => c.1) rJ_K (rJ_f g)
abbrev rJ_M (g : rJ_G) : Nat := ixM (fun c : rJ_GC => (c.1.length : Int)) (rJ_f g)
theorem rJ_P : ixP rJ_S (fun c : rJ_GC => c.1) rJ_K := by
  rintro ⟨a, l⟩ all i v ⟨h1, h2, h3⟩ _ _
  refine ⟨h1, h2, ?_⟩
  have h3 : (List.length all : Int) ≤ 2000 * (i : Int) := h3
  have h2 : l.length ≤ 2000 := h2
  show ((all ++ l.map (jnT v)).length : Int) ≤ 2000 * ((i : Int) + 1)
  rw [List.length_append, List.length_map]
  omega
noncomputable abbrev rJ_RR (g : rJ_G) : Ex × rJ_G := rJ_R g.1 g.2.1 g.2.2.1 g.2.2.2
theorem rJ_q (a l all : List T) (k : Int) (h5 : l.length ≤ 2000) (h6 : all.length ≤ 4000000) (h3 : 0 ≤ k) (h4 : k < (a.length : Int)) : rJ_q1 a l k all = (.exit 2, a, l, k, (l.length : Int), all ++ l.map (jnT (atT a k))) := by
  unfold rJ_q1
  simp only [eT.lst_els]
  exact rj_run a l k all h5 h6 h3 h4
theorem rJ_RF (d : Int × rJ_GC × rJ_GB) (hi : allP (ixI (fun c : rJ_GC => (c.1.length : Int)) (fun c => c.1) rJ_K d)) : rJ_RR (rJ_g d) = ((ixF 0 (fun c : rJ_GC => (c.1.length : Int)) (fun c => c.1) eT.dflt rJ_S d).1, rJ_g (ixF 0 (fun c : rJ_GC => (c.1.length : Int)) (fun c => c.1) eT.dflt rJ_S d).2) := by
  obtain ⟨h1, h2, h3, h4, h5, h6, h7⟩ := hi _ (List.mem_cons_self ..)
  obtain ⟨k, ⟨a, l⟩, all⟩ := d
  have h3 : 0 ≤ k := h3
  have h4 : k ≤ (a.length : Int) := h4
  have h5 : a.length ≤ 2000 := h5
  have h6 : l.length ≤ 2000 := h6
  have h7 : (List.length all : Int) ≤ 2000 * k := h7
  show rJ_R a l k all = _
  unfold rJ_R ixF rJ_S
  by_cases hc : k < (a.length : Int)
  · rw [rJ_q a l all k h6 (by omega) h3 hc]
    simp only [hc, decide_true, cond_true, eT.lst_els]
    rfl
  · simp only [hc, decide_false, cond_false, eT.lst_els]
    rfl
theorem rJ_ok : ∀ b ∈ loopsOf Try.prog 53, lkey b = 6 → LoopOk Try.prog b (rJ_C rJ_I rJ_M).g := by
  refine rJ_loop rJ_I rJ_M (fun g hi => ?_) (ix_conj_goes (fun _ => rfl) (fun _ => rfl) rJ_RF rJ_P)
  obtain ⟨a, l, k, all⟩ := g
  obtain ⟨h1, h2, h3, h4, h5, h6, h7⟩ := hi _ (List.mem_cons_self ..)
  have h3 : 0 ≤ k := h3
  have h4 : k ≤ (a.length : Int) := h4
  have h5 : a.length ≤ 2000 := h5
  have h6 : l.length ≤ 2000 := h6
  have h7 : (List.length all : Int) ≤ 2000 * k := h7
  have ha := okT a
  have hl := okT l
  clear hi
  show rJ_side a l k all
  unfold rJ_side
  refine ⟨fun hc => ?_, fun _ => ?_⟩
  · have hc : k < (a.length : Int) := of_decide_eq_true hc
    have hx := ixJ0 (lim := fun c : rj_GC => (c.2.1.length : Int)) (xs := fun c : rj_GC => c.2.1) (P := rj_K) (c := (a, l, k)) (b := all) rfl (by unfold maxLen; show l.length ≤ _; omega) ⟨h6, by show (all.length : Int) ≤ 4000000 + 0; omega, h3, hc⟩
    rw [rJ_q a l all k h6 (by omega) h3 hc]
    simp only [bytesT, eT.lst_els]
    repeat' (first | exact ha | exact hl | exact hx | exact rfl | apply And.intro | intro _)
    all_goals (first | trivial | omega)
  · repeat' (first | exact ha | exact hl | exact rfl | apply And.intro | intro _)
    all_goals (first | trivial | omega)
theorem rJ_run (a l : List T) (h2 : a.length ≤ 2000) (h3 : l.length ≤ 2000) : loopF rJ_RR rJ_M (a, l, 0, []) = (.exit 0, a, l, (a.length : Int), joins jnT a l) := by
  have hm : a.length ≤ maxLen := by unfold maxLen; omega
  have hr : loopF rJ_RR rJ_M (a, l, 0, []) = _ := ix_conj_run (φ := rJ_f) (ψ := rJ_g) (fun _ => rfl) (fun _ => rfl) rJ_RF rJ_P (a, l) [] rfl hm ⟨h2, h3, by show (0 : Int) ≤ 2000 * 0; omega⟩
  have hf : ∀ (q b : List T), q.foldl (fun (b : rJ_GB) v => b ++ l.map (jnT v)) b = b ++ joins jnT q l := by
    intro q
    induction q with
    | nil => intro b; simp [joins]
    | cons v q ih => intro b; rw [List.foldl_cons, ih]; simp [joins]
  have hs := scan_fold (x := 0) (st := rJ_S (a, l)) (f := fun (b : rJ_GB) v => b ++ l.map (jnT v)) (fun _ _ _ => rfl) a 0 []
  rw [hf] at hs
  rw [hr]
  show ((scan 0 (rJ_S (a, l)) 0 a []).1, rJ_g ((scan 0 (rJ_S (a, l)) 0 a []).2.1, (a, l), (scan 0 (rJ_S (a, l)) 0 a []).2.2)) = _
  rw [hs, Int.zero_add]
  rfl
noncomputable def ltI2 : LTab Try.prog := ltI1.cons 53 6 (rJ_C rJ_I rJ_M) rJ_ok
noncomputable abbrev lamI2 : Lam := ltI2.lam
theorem lamI2_ok : ∀ f k L, lamI2 f k = some L → ∀ b ∈ loopsOf Try.prog f, lkey b = k → LoopOk Try.prog b L.g := ltI2.ok
end Go.Proofs.Ytiipneclghnfhaa

/- Chapter 3: the document's Join. Printed by treegen.py. -/
namespace Go.Proofs.Ytiipneclghnfhaa
open Go.RowKit Go.Sx
set_option maxRecDepth 100000
set_option linter.unusedVariables false
noncomputable def rjn_q1 (xs : List T) (ys : List T) : Ex ×
  rJ_G :=
  loopF (fun g => rJ_R g.fst g.snd.fst g.snd.snd.fst g.snd.snd.snd) rJ_M (eT.lst xs.length (eT.els xs), eT.lst ys.length (eT.els ys), (0 : Int), [])
noncomputable def rjn_F (xs : List T) (ys : List T) : Dv.T dLE :=
  bif bothC (eT.lst xs.length (eT.els xs)) (eT.lst ys.length (eT.els ys)) != (0 : Int) then ([], bothC (eT.lst xs.length (eT.els xs)) (eT.lst ys.length (eT.els ys)))
  else (eT.lst (ofC (eT.lst (rjn_q1 xs ys).snd.snd.snd.snd.length (eT.els (rjn_q1 xs ys).snd.snd.snd.snd))).fst.length (eT.els (ofC (eT.lst (rjn_q1 xs ys).snd.snd.snd.snd.length (eT.els (rjn_q1 xs ys).snd.snd.snd.snd))).fst), (ofC (eT.lst (rjn_q1 xs ys).snd.snd.snd.snd.length (eT.els (rjn_q1 xs ys).snd.snd.snd.snd))).snd)
def rjn_side (xs : List T) (ys : List T) : Prop :=
  (∀ (e : Nat), e < xs.length → eT.Ok (eT.els xs e)) ∧ (∀ (e : Nat), e < ys.length → eT.Ok (eT.els ys e)) ∧ ((bothC (eT.lst xs.length (eT.els xs)) (eT.lst ys.length (eT.els ys)) != (0 : Int)) = false → (∀ (e : Nat), e < xs.length → eT.Ok (eT.els xs e)) ∧ (∀ (e : Nat), e < ys.length → eT.Ok (eT.els ys e)) ∧ Lp.ixJ (fun c => (↑c.fst.length : Int)) (fun c => c.fst) rJ_K (rJ_f (eT.lst xs.length (eT.els xs), eT.lst ys.length (eT.els ys), (0 : Int), [])) ∧ (rjn_q1 xs ys).snd.snd.snd.snd.length ≤ (rjn_q1 xs ys).snd.snd.snd.snd.length ∧ (∀ (e : Nat), e < (rjn_q1 xs ys).snd.snd.snd.snd.length → True) ∧ (eT.lst (rjn_q1 xs ys).snd.snd.snd.snd.length (eT.els (rjn_q1 xs ys).snd.snd.snd.snd)).length ≤ KS ∧ ∀ (e : Nat), e < (ofC (eT.lst (rjn_q1 xs ys).snd.snd.snd.snd.length (eT.els (rjn_q1 xs ys).snd.snd.snd.snd))).fst.length → eT.Ok (eT.els (ofC (eT.lst (rjn_q1 xs ys).snd.snd.snd.snd.length (eT.els (rjn_q1 xs ys).snd.snd.snd.snd))).fst e))
theorem rjn_okS (pre : DA.T aLL → List Prop) (h : ∀ g, DA.bd aLL g → (∀ p ∈ pre g, p) → rjn_side g.1 g.2) : FnPure Try.prog 53 aLL dLE (fun g => rjn_F g.1 g.2) pre := pure_of_sideS (Γ := (MTab.gamz tabI [] [])) (Λ := lamI2) (MTab.okz tabI [] []) lamI2_ok 100 default (fun g => rjn_side g.1 g.2) (fun g => by kernel_rfl) (fun g => by kernel_rfl) h
noncomputable def tabXI6 : MTab Try.prog := tabI
end Go.Proofs.Ytiipneclghnfhaa

/- Chapter 3: the document's numbers as texts. Printed by treegen.py. -/
namespace Go.Proofs.Ytiipneclghnfhaa
open Go.RowKit Go.Sx
set_option maxRecDepth 100000
set_option linter.unusedVariables false
abbrev dc_G : Type := Int × ByteArray × ByteArray
noncomputable def dc_LP : LP 0 dc_G := .pair (.slot 0 0 dI) (.pair (.slot 0 3 dStr) (.slot 0 2 dStr))
noncomputable def dc_R (n : Int) (s : ByteArray) (r : ByteArray) : Ex × dc_G :=
  bif IntKind.i64.wrap (n.tdiv (10 : Int)) == (0 : Int) then (Ex.ret, IntKind.i64.wrap (n.tdiv (10 : Int)), (ByteArray.mk #[(48 : UInt8), (49 : UInt8), (50 : UInt8), (51 : UInt8), (52 : UInt8), (53 : UInt8), (54 : UInt8), (55 : UInt8), (56 : UInt8), (57 : UInt8)]).extract (n.tmod (10 : Int)).toNat (IntKind.i64.wrap (n.tmod (10 : Int) + (1 : Int))).toNat ++ s, (ByteArray.mk #[(48 : UInt8), (49 : UInt8), (50 : UInt8), (51 : UInt8), (52 : UInt8), (53 : UInt8), (54 : UInt8), (55 : UInt8), (56 : UInt8), (57 : UInt8)]).extract (n.tmod (10 : Int)).toNat (IntKind.i64.wrap (n.tmod (10 : Int) + (1 : Int))).toNat ++ s)
  else (Ex.normal, IntKind.i64.wrap (n.tdiv (10 : Int)), (ByteArray.mk #[(48 : UInt8), (49 : UInt8), (50 : UInt8), (51 : UInt8), (52 : UInt8), (53 : UInt8), (54 : UInt8), (55 : UInt8), (56 : UInt8), (57 : UInt8)]).extract (n.tmod (10 : Int)).toNat (IntKind.i64.wrap (n.tmod (10 : Int) + (1 : Int))).toNat ++ s, r)
def dc_side (n : Int) (s : ByteArray) (r : ByteArray) : Prop :=
  (10 : Int) ≠ (0 : Int) ∧ ((0 : Int) ≤ IntKind.i64.wrap (n.tmod (10 : Int) + (1 : Int)) ∧ IntKind.i64.wrap (n.tmod (10 : Int) + (1 : Int)) ≤ (10 : Int)) ∧ ((0 : Int) ≤ n.tmod (10 : Int) ∧ n.tmod (10 : Int) ≤ (↑(IntKind.i64.wrap (n.tmod (10 : Int) + (1 : Int))).toNat : Int)) ∧ ((ByteArray.mk #[(48 : UInt8), (49 : UInt8), (50 : UInt8), (51 : UInt8), (52 : UInt8), (53 : UInt8), (54 : UInt8), (55 : UInt8), (56 : UInt8), (57 : UInt8)]).extract (n.tmod (10 : Int)).toNat (IntKind.i64.wrap (n.tmod (10 : Int) + (1 : Int))).toNat).size + s.size ≤ (9223372036854775807 : Nat) ∧ (10 : Int) ≠ (0 : Int)
theorem dc_one : ((loopsOf Try.prog 132).filter fun c => Nat.beq (lkey c) 2).length = 1 := by kernel_rfl
theorem dc_es (g : dc_G) : (dc_R g.1 g.2.1 g.2.2).1 = .normal ∨ (dc_R g.1 g.2.1 g.2.2).1 ∈ ([.ret] : List Ex) := by
  unfold dc_R
  repeat' (first | (left; rfl) | (right; simp only [cond_true, cond_false]; simp; done) | (rw [Bool.cond_eq_ite]; split))
noncomputable abbrev dc_C (Inv : dc_G → List Prop) (m : dc_G → Nat) : LCon := loopR [.ret] (loopBody Try.prog 132 2) dc_LP [] 18 Inv (fun g => dc_R g.1 g.2.1 g.2.2) m
theorem dc_loop (Inv : dc_G → List Prop) (m : dc_G → Nat) (hs : ∀ g, allP (Inv g) → dc_side g.1 g.2.1 g.2.2) (hg : Goes (fun g : dc_G => dc_R g.1 g.2.1 g.2.2) m fun g => allP (Inv g)) : ∀ b ∈ loopsOf Try.prog 132, lkey b = 2 → LoopOk Try.prog b (dc_C Inv m).g := loop_run (Γ := (PTab.gamz tabL [] [])) (Λ := noΛ) (PTab.okz tabL [] []) noΛ_ok 100 132 2 18 dc_LP [] Inv (fun g => dc_R g.1 g.2.1 g.2.2) (fun g => dc_side g.1 g.2.1 g.2.2) m default [.ret] dc_one (fun rd T B HL HB ds g => by kernel_rfl) (fun rd T B HL HB ds g => by kernel_rfl) hs hg dc_es
noncomputable def tabXD2 : PTab Try.prog := tabL
end Go.Proofs.Ytiipneclghnfhaa

/- Chapter 3: the document's numbers as texts are the program's. -/
namespace Go.Proofs.Ytiipneclghnfhaa
open Go.RowKit Go.Sx Go.Lp
def cD (n : Int) : Int := IntKind.u8.wrap (IntKind.i64.wrap (48 + n.tmod 10))
noncomputable def decS : Nat → Int → List Int → ByteArray
  | 0, _, _ => default
  | k + 1, n, l => bif IntKind.i64.wrap (n.tdiv 10) == 0 then strOf (cD n :: l) else decS k (IntKind.i64.wrap (n.tdiv 10)) (cD n :: l)
set_option maxRecDepth 100000 in
theorem dig_dec (n : Int) : dig_F n = decS 11 n [] := by kernel_rfl
def chF (n : Int) : ByteArray := (ByteArray.mk #[(48 : UInt8), (49 : UInt8), (50 : UInt8), (51 : UInt8), (52 : UInt8), (53 : UInt8), (54 : UInt8), (55 : UInt8), (56 : UInt8), (57 : UInt8)]).extract (n.tmod 10).toNat (IntKind.i64.wrap (n.tmod 10 + 1)).toNat
theorem tm10 {n : Int} (h : 0 ≤ n) : n.tmod 10 = 0 ∨ n.tmod 10 = 1 ∨ n.tmod 10 = 2 ∨ n.tmod 10 = 3 ∨ n.tmod 10 = 4 ∨ n.tmod 10 = 5 ∨ n.tmod 10 = 6 ∨ n.tmod 10 = 7 ∨ n.tmod 10 = 8 ∨ n.tmod 10 = 9 := by
  have := Int.tmod_eq_emod_of_nonneg h (b := 10)
  omega
theorem ch_one {n : Int} (h : 0 ≤ n) : chF n = strOf [cD n] := by
  unfold chF cD
  rcases tm10 h with e | e | e | e | e | e | e | e | e | e <;> rw [e] <;> kernel_rfl
theorem str_cons (a : Int) (l : List Int) : strOf [a] ++ strOf l = strOf (a :: l) := by
  apply ByteArray.ext
  rw [ByteArray.data_append]
  simp [strOf]
theorem ch_app {n : Int} (h : 0 ≤ n) (l : List Int) : chF n ++ strOf l = strOf (cD n :: l) := by rw [ch_one h, str_cons]
theorem str_len (l : List Int) : (strOf l).size = l.length := by
  unfold strOf
  show (List.toArray _).size = _
  simp
theorem ch_sz {n : Int} (h : 0 ≤ n) : (chF n).size = 1 := by rw [ch_one h, str_len]; rfl
abbrev dc_I (g : dc_G) : List Prop := [0 ≤ g.1 ∧ g.1 < NX ∧ (g.2.1.size : Int) + g.1 ≤ 8589934592]
abbrev dc_M (g : dc_G) : Nat := g.1.toNat
theorem dc_RE (n : Int) (s r : ByteArray) : dc_R n s r = bif IntKind.i64.wrap (n.tdiv 10) == 0 then (.ret, IntKind.i64.wrap (n.tdiv 10), chF n ++ s, chF n ++ s) else (.normal, IntKind.i64.wrap (n.tdiv 10), chF n ++ s, r) := rfl
theorem dc_goes : Goes (fun g : dc_G => dc_R g.1 g.2.1 g.2.2) dc_M fun g => allP (dc_I g) := by
  rintro ⟨n, s, r⟩ hi hn
  obtain ⟨h1, h2, h3⟩ := hi _ (List.mem_cons_self ..)
  have h1 : 0 ≤ n := h1
  have h2 : n < NX := h2
  have h3 : (s.size : Int) + n ≤ 8589934592 := h3
  obtain ⟨e1, b1⟩ := td10 (n := n) rfl ⟨h1, h2⟩
  have hn : (dc_R n s r).1 = .normal := hn
  show allP (dc_I (dc_R n s r).2) ∧ dc_M (dc_R n s r).2 < n.toNat
  rw [dc_RE] at hn ⊢
  cases hc : IntKind.i64.wrap (n.tdiv 10) == 0 with
  | true => rw [hc] at hn; cases hn
  | false =>
    have hc := beq_eq_false_iff_ne.1 hc
    simp only [cond_false]
    refine ⟨fun q hq => ?_, ?_⟩
    · simp only [List.mem_singleton] at hq
      subst hq
      refine ⟨b1.1, b1.2, ?_⟩
      show ((chF n ++ s).size : Int) + IntKind.i64.wrap (n.tdiv 10) ≤ 8589934592
      rw [ByteArray.size_append, ch_sz h1]
      omega
    · show (IntKind.i64.wrap (n.tdiv 10)).toNat < n.toNat
      omega
theorem dc_ok : ∀ b ∈ loopsOf Try.prog 132, lkey b = 2 → LoopOk Try.prog b (dc_C dc_I dc_M).g := by
  refine dc_loop dc_I dc_M (fun g hi => ?_) dc_goes
  obtain ⟨n, s, r⟩ := g
  obtain ⟨h1, h2, h3⟩ := hi _ (List.mem_cons_self ..)
  have h1 : 0 ≤ n := h1
  have h2 : n < NX := h2
  have h3 : (s.size : Int) + n ≤ 8589934592 := h3
  have hw : IntKind.i64.wrap (n.tmod 10 + 1) = n.tmod 10 + 1 := by
    have := tm10 h1
    exact wr (by omega)
  have hs := ch_sz h1
  show dc_side n s r
  unfold dc_side
  have hch : (ByteArray.mk #[(48 : UInt8), (49 : UInt8), (50 : UInt8), (51 : UInt8), (52 : UInt8), (53 : UInt8), (54 : UInt8), (55 : UInt8), (56 : UInt8), (57 : UInt8)]).extract (n.tmod 10).toNat (IntKind.i64.wrap (n.tmod 10 + 1)).toNat = chF n := rfl
  rw [hch, hs, hw]
  have := tm10 h1
  refine ⟨by decide, ⟨by omega, by omega⟩, ⟨by omega, by omega⟩, by omega, by decide⟩
theorem dc_run : ∀ (k : Nat) (n : Int) (l : List Int) (r : ByteArray), 0 ≤ n → n < NX → n < 10 ^ k → 1 ≤ k → l.length + k ≤ 1000 → ∃ x, loopF (fun g : dc_G => dc_R g.1 g.2.1 g.2.2) dc_M (n, strOf l, r) = (.ret, x, decS k n l, decS k n l)
  | 0, _, _, _, _, _, _, h, _ => by omega
  | k + 1, n, l, r, h0, h1, h2, _, hl => by
    obtain ⟨e1, b1⟩ := td10 (n := n) rfl ⟨h0, h1⟩
    have hF : dc_R n (strOf l) r = bif IntKind.i64.wrap (n.tdiv 10) == 0 then (.ret, IntKind.i64.wrap (n.tdiv 10), strOf (cD n :: l), strOf (cD n :: l)) else (.normal, IntKind.i64.wrap (n.tdiv 10), strOf (cD n :: l), r) := by rw [dc_RE, ch_app h0]
    unfold decS
    cases hc : IntKind.i64.wrap (n.tdiv 10) == 0 with
    | true =>
      rw [hc] at hF
      simp only [cond_true] at hF ⊢
      have hF : (fun g : dc_G => dc_R g.1 g.2.1 g.2.2) (n, strOf l, r) = _ := hF
      have he : ((fun g : dc_G => dc_R g.1 g.2.1 g.2.2) (n, strOf l, r)).1 ≠ .normal := by rw [hF]; intro h; cases h
      exact ⟨IntKind.i64.wrap (n.tdiv 10), (loopF_end he).trans hF⟩
    | false =>
      rw [hc] at hF
      simp only [cond_false] at hF ⊢
      have hc := beq_eq_false_iff_ne.1 hc
      have hF : (fun g : dc_G => dc_R g.1 g.2.1 g.2.2) (n, strOf l, r) = (.normal, (IntKind.i64.wrap (n.tdiv 10), strOf (cD n :: l), r)) := hF
      have hI : allP (dc_I (n, strOf l, r)) := fun q hq => by
        simp only [List.mem_singleton] at hq
        subst hq
        refine ⟨h0, h1, ?_⟩
        show ((strOf l).size : Int) + n ≤ 8589934592
        rw [str_len]
        unfold NX at h1
        omega
      rw [loopF_next dc_goes hI hF]
      have hk : 1 ≤ k := by
        rcases Nat.eq_zero_or_pos k with hk | hk
        · subst hk
          simp only [Nat.zero_add, Int.pow_one] at h2
          omega
        · exact hk
      refine dc_run k _ (cD n :: l) r b1.1 b1.2 ?_ hk (by simp only [List.length_cons]; omega)
      rw [e1]
      rw [Int.pow_succ] at h2
      omega
noncomputable def ltDc : LTab Try.prog := LTab.nil.cons 132 2 (dc_C dc_I dc_M) dc_ok
noncomputable abbrev lamDc : Lam := ltDc.lam
theorem lamDc_ok : ∀ f k L, lamDc f k = some L → ∀ b ∈ loopsOf Try.prog f, lkey b = k → LoopOk Try.prog b L.g := ltDc.ok
end Go.Proofs.Ytiipneclghnfhaa

/- Chapter 3: the document's numbers as texts. Printed by treegen.py. -/
namespace Go.Proofs.Ytiipneclghnfhaa
open Go.RowKit Go.Sx
set_option maxRecDepth 100000
set_option linter.unusedVariables false
noncomputable def dec_q1 (n : Int) : Ex × dc_G :=
  loopF (fun g => dc_R g.fst g.snd.fst g.snd.snd) dc_M (n, ByteArray.mk #[], ByteArray.mk #[])
noncomputable def dec_F (n : Int) : Dv.T dStr :=
  (dec_q1 n).snd.snd.snd
def dec_side (n : Int) : Prop :=
  (0 : Int) ≤ n ∧ n < NX ∧ (↑(0 : Nat) : Int) + n ≤ (8589934592 : Int)
theorem dec_okS (pre : DA.T aI → List Prop) (h : ∀ g, DA.bd aI g → (∀ p ∈ pre g, p) → dec_side g) : FnPure Try.prog 132 aI dStr (fun g => dec_F g) pre := pure_of_sideS (Γ := (PTab.gamz tabL [] [])) (Λ := lamDc) (PTab.okz tabL [] []) lamDc_ok 100 default (fun g => dec_side g) (fun g => by kernel_rfl) (fun g => by kernel_rfl) h
noncomputable def tabXD14 : PTab Try.prog := tabL
end Go.Proofs.Ytiipneclghnfhaa

/- Chapter 3: the document's numbers as texts: the contract. -/
namespace Go.Proofs.Ytiipneclghnfhaa
open Go.RowKit Go.Sx Go.Lp
theorem dec_eq (n : Int) (h : 0 ≤ n ∧ n < NX) : dec_F n = dig_F n ∧ dec_side n := by
  have h2 := h.2
  unfold NX at h2
  obtain ⟨x, hx⟩ := dc_run 11 n [] (ByteArray.mk #[]) h.1 h.2 (by omega) (by omega) (by simp)
  have hq : dec_q1 n = (.ret, x, decS 11 n [], decS 11 n []) := hx
  unfold dec_F dec_side
  rw [hq, dig_dec]
  exact ⟨rfl, h.1, h.2, by omega⟩
theorem dec_ok : FnPure Try.prog 132 aI dStr dig_F (fun n => [0 ≤ n ∧ n < NX]) :=
  pure_congr (dec_okS _ fun g _ hp => (dec_eq g (hp _ (List.mem_cons_self ..))).2) fun g _ hp => (dec_eq g (hp _ (List.mem_cons_self ..))).1
noncomputable def tabD15 : PTab Try.prog := tabL.cons 132 (pconP aI dStr dig_F (fun n => [0 ≤ n ∧ n < NX])) (conP_ok dec_ok puStr)
end Go.Proofs.Ytiipneclghnfhaa

/- Chapter 3: the document's counters of a time. Printed by treegen.py. -/
namespace Go.Proofs.Ytiipneclghnfhaa
open Go.RowKit Go.Sx
set_option maxRecDepth 100000
set_option linter.unusedVariables false
abbrev rLI : Rv (List Int) := .list eI
abbrev dLI : Dv (List Int) := .list eI
noncomputable def lps_F (t : T) : Rv.T rLI :=
  bif decide ((0 : Int) < t.d) && rtcheck_F t == (0 : Int) then bif decide ((1 : Int) < t.d) && rtcheck_F t == (0 : Int) then bif decide ((2 : Int) < t.d) && rtcheck_F t == (0 : Int) then bif decide ((3 : Int) < t.d) && rtcheck_F t == (0 : Int) then bif decide ((4 : Int) < t.d) && rtcheck_F t == (0 : Int) then default else List.map (fun x => eI.get []) (List.range (min (min (min (min (4 : Nat) (3 : Nat)) (2 : Nat)) (1 : Nat)) (0 : Nat))) ++ List.map (fun x => t.l0) (List.range (1 : Nat)) ++ List.map (fun x => t.l1) (List.range (1 : Nat)) ++ List.map (fun x => t.l2) (List.range (1 : Nat)) ++ List.map (fun x => t.l3) (List.range (1 : Nat)) else List.map (fun x => eI.get []) (List.range (min (min (min (3 : Nat) (2 : Nat)) (1 : Nat)) (0 : Nat))) ++ List.map (fun x => t.l0) (List.range (1 : Nat)) ++ List.map (fun x => t.l1) (List.range (1 : Nat)) ++ List.map (fun x => t.l2) (List.range (1 : Nat)) else List.map (fun x => eI.get []) (List.range (min (min (2 : Nat) (1 : Nat)) (0 : Nat))) ++ List.map (fun x => t.l0) (List.range (1 : Nat)) ++ List.map (fun x => t.l1) (List.range (1 : Nat)) else List.map (fun x => eI.get []) (List.range (min (1 : Nat) (0 : Nat))) ++ List.map (fun x => t.l0) (List.range (1 : Nat))
  else []
def lps_side (t : T) : Prop :=
  (decide ((0 : Int) < t.d) && rtcheck_F t == (0 : Int)) = true → (True ∧ True ∧ (1 : Nat) ≤ maxLen ∧ (8 : Nat) ≤ (140737488355328 : Nat)) ∧ ((decide ((1 : Int) < t.d) && rtcheck_F t == (0 : Int)) = true → ((1 : Nat) ≤ (1 : Nat) ∧ True ∧ (2 : Nat) ≤ maxLen ∧ (16 : Nat) ≤ (140737488355328 : Nat)) ∧ ((decide ((2 : Int) < t.d) && rtcheck_F t == (0 : Int)) = true → ((2 : Nat) ≤ (2 : Nat) ∧ True ∧ (3 : Nat) ≤ maxLen ∧ (24 : Nat) ≤ (140737488355328 : Nat)) ∧ ((decide ((3 : Int) < t.d) && rtcheck_F t == (0 : Int)) = true → ((3 : Nat) ≤ (3 : Nat) ∧ True ∧ (4 : Nat) ≤ maxLen ∧ (32 : Nat) ≤ (140737488355328 : Nat)) ∧ ((decide ((4 : Int) < t.d) && rtcheck_F t == (0 : Int)) = true → False) ∧ ((decide ((4 : Int) < t.d) && rtcheck_F t == (0 : Int)) = false → (4 : Nat) ≤ (4 : Nat) ∧ (∀ (e : Nat), e < min (min (min (min (4 : Nat) (3 : Nat)) (2 : Nat)) (1 : Nat)) (0 : Nat) → eI.OkP []) ∧ (∀ (e : Nat), e < (1 : Nat) → True) ∧ (∀ (e : Nat), e < (1 : Nat) → True) ∧ (∀ (e : Nat), e < (1 : Nat) → True) ∧ ∀ (e : Nat), e < (1 : Nat) → True)) ∧ ((decide ((3 : Int) < t.d) && rtcheck_F t == (0 : Int)) = false → (3 : Nat) ≤ (3 : Nat) ∧ (∀ (e : Nat), e < min (min (min (3 : Nat) (2 : Nat)) (1 : Nat)) (0 : Nat) → eI.OkP []) ∧ (∀ (e : Nat), e < (1 : Nat) → True) ∧ (∀ (e : Nat), e < (1 : Nat) → True) ∧ ∀ (e : Nat), e < (1 : Nat) → True)) ∧ ((decide ((2 : Int) < t.d) && rtcheck_F t == (0 : Int)) = false → (2 : Nat) ≤ (2 : Nat) ∧ (∀ (e : Nat), e < min (min (2 : Nat) (1 : Nat)) (0 : Nat) → eI.OkP []) ∧ (∀ (e : Nat), e < (1 : Nat) → True) ∧ ∀ (e : Nat), e < (1 : Nat) → True)) ∧ ((decide ((1 : Int) < t.d) && rtcheck_F t == (0 : Int)) = false → (1 : Nat) ≤ (1 : Nat) ∧ (∀ (e : Nat), e < min (1 : Nat) (0 : Nat) → eI.OkP []) ∧ ∀ (e : Nat), e < (1 : Nat) → True)
theorem lps_okS (pre : DA.T aT → List Prop) (h : ∀ g, DA.bd aT g → (∀ p ∈ pre g, p) → lps_side g) : FnPure Try.prog 133 aT (Rv.D rLI) (fun g => lps_F g) pre := res_of_side (R := rLI) (Γ := (PTab.gamz tabD15 [] [(133, 3, 6)])) (Λ := noΛ) (PTab.okz tabD15 [] [(133, 3, 6)]) noΛ_ok 100 default (fun g => lps_side g) (fun g => by kernel_rfl) (fun g => by kernel_rfl) h
noncomputable def tabXD16 : PTab Try.prog := tabD15
end Go.Proofs.Ytiipneclghnfhaa

/- Chapter 3: the document's counters of a time: the contract. -/
namespace Go.Proofs.Ytiipneclghnfhaa
open Go.RowKit Go.Sx Go.Lp
noncomputable def lpC (t : T) : List Int := bif tcheck_F t == 0 then [t.l0, t.l1, t.l2, t.l3].take t.d.toNat else []
theorem lps_eq (t : T) : lps_F t = lpC t ∧ lps_side t := by
  unfold lps_F lps_side lpC
  by_cases hc : tcheck_F t = 0
  · have ok := (tcheck_iff t).1 hc
    unfold T.Ok at ok
    have h5 : t.d = 0 ∨ t.d = 1 ∨ t.d = 2 ∨ t.d = 3 ∨ t.d = 4 := by omega
    simp only [rtcheck_eq, hc, beq_self_eq_true, Bool.and_true, cond_true]
    unfold maxLen
    rcases h5 with h | h | h | h | h <;> rw [h] <;> refine ⟨rfl, ?_⟩ <;> (repeat' (first | apply And.intro | intro _)) <;> (first | trivial | omega | (rename_i h0; revert h0; decide))
  · have : (tcheck_F t == 0) = false := by simpa using hc
    simp only [rtcheck_eq, this, Bool.and_false, cond_false]
    exact ⟨trivial, fun h => by cases h⟩
theorem lps_ok : FnPure Try.prog 133 aT dLI lpC (fun _ => []) :=
  pure_congr (lps_okS _ fun g _ _ => (lps_eq g).2) fun g _ _ => (lps_eq g).1
noncomputable def tabD17 : PTab Try.prog := tabD15.cons 133 (pconR aT dLI lpC (fun _ => [])) (conR_ok lps_ok)
end Go.Proofs.Ytiipneclghnfhaa

/- Chapter 3: the document's times as texts. Printed by treegen.py. -/
namespace Go.Proofs.Ytiipneclghnfhaa
open Go.RowKit Go.Sx
set_option maxRecDepth 100000
set_option linter.unusedVariables false
noncomputable def rtx_F (t : T) : Dv.T dStr :=
  bif rtcheck_F t != (0 : Int) then ByteArray.mk #[]
  else bif decide ((0 : Int) < (↑(lpC t).length : Int)) && (decide ((1 : Int) < (↑(lpC t).length : Int)) && (decide ((2 : Int) < (↑(lpC t).length : Int)) && (decide ((3 : Int) < (↑(lpC t).length : Int)) && (decide ((4 : Int) < (↑(lpC t).length : Int)) && decide ((5 : Int) < (↑(lpC t).length : Int)))))) then default else bif decide ((0 : Int) < (↑(lpC t).length : Int)) then bif decide ((1 : Int) < (↑(lpC t).length : Int)) then bif decide ((2 : Int) < (↑(lpC t).length : Int)) then bif decide ((3 : Int) < (↑(lpC t).length : Int)) then bif decide ((4 : Int) < (↑(lpC t).length : Int)) then dig_F t.e ++ (ByteArray.mk #[(46 : UInt8)] ++ dig_F ((lpC t).getD (0 : Nat) eI.dflt)) ++ (ByteArray.mk #[(46 : UInt8)] ++ dig_F ((lpC t).getD (1 : Nat) eI.dflt)) ++ (ByteArray.mk #[(46 : UInt8)] ++ dig_F ((lpC t).getD (2 : Nat) eI.dflt)) ++ (ByteArray.mk #[(46 : UInt8)] ++ dig_F ((lpC t).getD (3 : Nat) eI.dflt)) ++ (ByteArray.mk #[(46 : UInt8)] ++ dig_F ((lpC t).getD (4 : Nat) eI.dflt)) else dig_F t.e ++ (ByteArray.mk #[(46 : UInt8)] ++ dig_F ((lpC t).getD (0 : Nat) eI.dflt)) ++ (ByteArray.mk #[(46 : UInt8)] ++ dig_F ((lpC t).getD (1 : Nat) eI.dflt)) ++ (ByteArray.mk #[(46 : UInt8)] ++ dig_F ((lpC t).getD (2 : Nat) eI.dflt)) ++ (ByteArray.mk #[(46 : UInt8)] ++ dig_F ((lpC t).getD (3 : Nat) eI.dflt)) else dig_F t.e ++ (ByteArray.mk #[(46 : UInt8)] ++ dig_F ((lpC t).getD (0 : Nat) eI.dflt)) ++ (ByteArray.mk #[(46 : UInt8)] ++ dig_F ((lpC t).getD (1 : Nat) eI.dflt)) ++ (ByteArray.mk #[(46 : UInt8)] ++ dig_F ((lpC t).getD (2 : Nat) eI.dflt)) else dig_F t.e ++ (ByteArray.mk #[(46 : UInt8)] ++ dig_F ((lpC t).getD (0 : Nat) eI.dflt)) ++ (ByteArray.mk #[(46 : UInt8)] ++ dig_F ((lpC t).getD (1 : Nat) eI.dflt)) else dig_F t.e ++ (ByteArray.mk #[(46 : UInt8)] ++ dig_F ((lpC t).getD (0 : Nat) eI.dflt)) else dig_F t.e
def rtx_side (t : T) : Prop :=
  (rtcheck_F t != (0 : Int)) = false → ((0 : Int) ≤ t.e ∧ t.e < NX) ∧ (decide ((0 : Int) < (↑(lpC t).length : Int)) = true → (0 : Int) ≤ (0 : Int) ∧ (0 : Int) < (↑(lpC t).length : Int)) ∧ (decide ((0 : Int) < (↑(lpC t).length : Int)) = true → (0 : Int) ≤ (lpC t).getD (0 : Nat) eI.dflt ∧ (lpC t).getD (0 : Nat) eI.dflt < NX) ∧ (decide ((0 : Int) < (↑(lpC t).length : Int)) = true → (1 : Nat) + ByteArray.size (dig_F ((lpC t).getD (0 : Nat) eI.dflt)) ≤ (9223372036854775807 : Nat)) ∧ (decide ((0 : Int) < (↑(lpC t).length : Int)) = true → ByteArray.size (dig_F t.e) + (ByteArray.mk #[(46 : UInt8)] ++ dig_F ((lpC t).getD (0 : Nat) eI.dflt)).size ≤ (9223372036854775807 : Nat)) ∧ (decide ((0 : Int) < (↑(lpC t).length : Int)) = true → decide ((1 : Int) < (↑(lpC t).length : Int)) = true → (0 : Int) ≤ (1 : Int) ∧ (1 : Int) < (↑(lpC t).length : Int)) ∧ (decide ((0 : Int) < (↑(lpC t).length : Int)) = true → decide ((1 : Int) < (↑(lpC t).length : Int)) = true → (0 : Int) ≤ (lpC t).getD (1 : Nat) eI.dflt ∧ (lpC t).getD (1 : Nat) eI.dflt < NX) ∧ (decide ((0 : Int) < (↑(lpC t).length : Int)) = true → decide ((1 : Int) < (↑(lpC t).length : Int)) = true → (1 : Nat) + ByteArray.size (dig_F ((lpC t).getD (1 : Nat) eI.dflt)) ≤ (9223372036854775807 : Nat)) ∧ (decide ((0 : Int) < (↑(lpC t).length : Int)) = true → decide ((1 : Int) < (↑(lpC t).length : Int)) = true → (dig_F t.e ++ (ByteArray.mk #[(46 : UInt8)] ++ dig_F ((lpC t).getD (0 : Nat) eI.dflt))).size + (ByteArray.mk #[(46 : UInt8)] ++ dig_F ((lpC t).getD (1 : Nat) eI.dflt)).size ≤ (9223372036854775807 : Nat)) ∧ (decide ((0 : Int) < (↑(lpC t).length : Int)) = true → decide ((1 : Int) < (↑(lpC t).length : Int)) = true → decide ((2 : Int) < (↑(lpC t).length : Int)) = true → (0 : Int) ≤ (2 : Int) ∧ (2 : Int) < (↑(lpC t).length : Int)) ∧ (decide ((0 : Int) < (↑(lpC t).length : Int)) = true → decide ((1 : Int) < (↑(lpC t).length : Int)) = true → decide ((2 : Int) < (↑(lpC t).length : Int)) = true → (0 : Int) ≤ (lpC t).getD (2 : Nat) eI.dflt ∧ (lpC t).getD (2 : Nat) eI.dflt < NX) ∧ (decide ((0 : Int) < (↑(lpC t).length : Int)) = true → decide ((1 : Int) < (↑(lpC t).length : Int)) = true → decide ((2 : Int) < (↑(lpC t).length : Int)) = true → (1 : Nat) + ByteArray.size (dig_F ((lpC t).getD (2 : Nat) eI.dflt)) ≤ (9223372036854775807 : Nat)) ∧ (decide ((0 : Int) < (↑(lpC t).length : Int)) = true → decide ((1 : Int) < (↑(lpC t).length : Int)) = true → decide ((2 : Int) < (↑(lpC t).length : Int)) = true → (dig_F t.e ++ (ByteArray.mk #[(46 : UInt8)] ++ dig_F ((lpC t).getD (0 : Nat) eI.dflt)) ++ (ByteArray.mk #[(46 : UInt8)] ++ dig_F ((lpC t).getD (1 : Nat) eI.dflt))).size + (ByteArray.mk #[(46 : UInt8)] ++ dig_F ((lpC t).getD (2 : Nat) eI.dflt)).size ≤ (9223372036854775807 : Nat)) ∧ (decide ((0 : Int) < (↑(lpC t).length : Int)) = true → decide ((1 : Int) < (↑(lpC t).length : Int)) = true → decide ((2 : Int) < (↑(lpC t).length : Int)) = true → decide ((3 : Int) < (↑(lpC t).length : Int)) = true → (0 : Int) ≤ (3 : Int) ∧ (3 : Int) < (↑(lpC t).length : Int)) ∧ (decide ((0 : Int) < (↑(lpC t).length : Int)) = true → decide ((1 : Int) < (↑(lpC t).length : Int)) = true → decide ((2 : Int) < (↑(lpC t).length : Int)) = true → decide ((3 : Int) < (↑(lpC t).length : Int)) = true → (0 : Int) ≤ (lpC t).getD (3 : Nat) eI.dflt ∧ (lpC t).getD (3 : Nat) eI.dflt < NX) ∧ (decide ((0 : Int) < (↑(lpC t).length : Int)) = true → decide ((1 : Int) < (↑(lpC t).length : Int)) = true → decide ((2 : Int) < (↑(lpC t).length : Int)) = true → decide ((3 : Int) < (↑(lpC t).length : Int)) = true → (1 : Nat) + ByteArray.size (dig_F ((lpC t).getD (3 : Nat) eI.dflt)) ≤ (9223372036854775807 : Nat)) ∧ (decide ((0 : Int) < (↑(lpC t).length : Int)) = true → decide ((1 : Int) < (↑(lpC t).length : Int)) = true → decide ((2 : Int) < (↑(lpC t).length : Int)) = true → decide ((3 : Int) < (↑(lpC t).length : Int)) = true → (dig_F t.e ++ (ByteArray.mk #[(46 : UInt8)] ++ dig_F ((lpC t).getD (0 : Nat) eI.dflt)) ++ (ByteArray.mk #[(46 : UInt8)] ++ dig_F ((lpC t).getD (1 : Nat) eI.dflt)) ++ (ByteArray.mk #[(46 : UInt8)] ++ dig_F ((lpC t).getD (2 : Nat) eI.dflt))).size + (ByteArray.mk #[(46 : UInt8)] ++ dig_F ((lpC t).getD (3 : Nat) eI.dflt)).size ≤ (9223372036854775807 : Nat)) ∧ (decide ((0 : Int) < (↑(lpC t).length : Int)) = true → decide ((1 : Int) < (↑(lpC t).length : Int)) = true → decide ((2 : Int) < (↑(lpC t).length : Int)) = true → decide ((3 : Int) < (↑(lpC t).length : Int)) = true → decide ((4 : Int) < (↑(lpC t).length : Int)) = true → (0 : Int) ≤ (4 : Int) ∧ (4 : Int) < (↑(lpC t).length : Int)) ∧ (decide ((0 : Int) < (↑(lpC t).length : Int)) = true → decide ((1 : Int) < (↑(lpC t).length : Int)) = true → decide ((2 : Int) < (↑(lpC t).length : Int)) = true → decide ((3 : Int) < (↑(lpC t).length : Int)) = true → decide ((4 : Int) < (↑(lpC t).length : Int)) = true → (0 : Int) ≤ (lpC t).getD (4 : Nat) eI.dflt ∧ (lpC t).getD (4 : Nat) eI.dflt < NX) ∧ (decide ((0 : Int) < (↑(lpC t).length : Int)) = true → decide ((1 : Int) < (↑(lpC t).length : Int)) = true → decide ((2 : Int) < (↑(lpC t).length : Int)) = true → decide ((3 : Int) < (↑(lpC t).length : Int)) = true → decide ((4 : Int) < (↑(lpC t).length : Int)) = true → (1 : Nat) + ByteArray.size (dig_F ((lpC t).getD (4 : Nat) eI.dflt)) ≤ (9223372036854775807 : Nat)) ∧ (decide ((0 : Int) < (↑(lpC t).length : Int)) = true → decide ((1 : Int) < (↑(lpC t).length : Int)) = true → decide ((2 : Int) < (↑(lpC t).length : Int)) = true → decide ((3 : Int) < (↑(lpC t).length : Int)) = true → decide ((4 : Int) < (↑(lpC t).length : Int)) = true → (dig_F t.e ++ (ByteArray.mk #[(46 : UInt8)] ++ dig_F ((lpC t).getD (0 : Nat) eI.dflt)) ++ (ByteArray.mk #[(46 : UInt8)] ++ dig_F ((lpC t).getD (1 : Nat) eI.dflt)) ++ (ByteArray.mk #[(46 : UInt8)] ++ dig_F ((lpC t).getD (2 : Nat) eI.dflt)) ++ (ByteArray.mk #[(46 : UInt8)] ++ dig_F ((lpC t).getD (3 : Nat) eI.dflt))).size + (ByteArray.mk #[(46 : UInt8)] ++ dig_F ((lpC t).getD (4 : Nat) eI.dflt)).size ≤ (9223372036854775807 : Nat)) ∧ ((decide ((0 : Int) < (↑(lpC t).length : Int)) && (decide ((1 : Int) < (↑(lpC t).length : Int)) && (decide ((2 : Int) < (↑(lpC t).length : Int)) && (decide ((3 : Int) < (↑(lpC t).length : Int)) && (decide ((4 : Int) < (↑(lpC t).length : Int)) && decide ((5 : Int) < (↑(lpC t).length : Int))))))) = true → ((0 : Int) ≤ (5 : Int) ∧ (5 : Int) < (↑(lpC t).length : Int)) ∧ ((0 : Int) ≤ (lpC t).getD (5 : Nat) eI.dflt ∧ (lpC t).getD (5 : Nat) eI.dflt < NX) ∧ (1 : Nat) + ByteArray.size (dig_F ((lpC t).getD (5 : Nat) eI.dflt)) ≤ (9223372036854775807 : Nat) ∧ (dig_F t.e ++ (ByteArray.mk #[(46 : UInt8)] ++ dig_F ((lpC t).getD (0 : Nat) eI.dflt)) ++ (ByteArray.mk #[(46 : UInt8)] ++ dig_F ((lpC t).getD (1 : Nat) eI.dflt)) ++ (ByteArray.mk #[(46 : UInt8)] ++ dig_F ((lpC t).getD (2 : Nat) eI.dflt)) ++ (ByteArray.mk #[(46 : UInt8)] ++ dig_F ((lpC t).getD (3 : Nat) eI.dflt)) ++ (ByteArray.mk #[(46 : UInt8)] ++ dig_F ((lpC t).getD (4 : Nat) eI.dflt))).size + (ByteArray.mk #[(46 : UInt8)] ++ dig_F ((lpC t).getD (5 : Nat) eI.dflt)).size ≤ (9223372036854775807 : Nat) ∧ False)
theorem rtx_okS (pre : DA.T aT → List Prop) (h : ∀ g, DA.bd aT g → (∀ p ∈ pre g, p) → rtx_side g) : FnPure Try.prog 106 aT dStr (fun g => rtx_F g) pre := pure_of_sideS (Γ := (PTab.gamz tabD17 [] [(106, 6, 6)])) (Λ := noΛ) (PTab.okz tabD17 [] [(106, 6, 6)]) noΛ_ok 100 default (fun g => rtx_side g) (fun g => by kernel_rfl) (fun g => by kernel_rfl) h
noncomputable def tabXD18 : PTab Try.prog := tabD17
end Go.Proofs.Ytiipneclghnfhaa

/- Chapter 3: the document's times as texts are the program's. -/
namespace Go.Proofs.Ytiipneclghnfhaa
open Go.RowKit Go.Sx Go.Lp
set_option maxHeartbeats 4000000 in
theorem rtx_eq (t : T) : rtx_F t = ttx_F t ∧ rtx_side t := by
  by_cases hc : tcheck_F t = 0
  · have ok := (tcheck_iff t).1 hc
    have s0 := dig_sz t.e
    have s1 := dig_sz t.l0
    have s2 := dig_sz t.l1
    have s3 := dig_sz t.l2
    have s4 := dig_sz t.l3
    have hk : (tcheck_F t != 0) = false := by rw [hc]; rfl
    unfold T.Ok at ok
    have h5 : t.d = 0 ∨ t.d = 1 ∨ t.d = 2 ∨ t.d = 3 ∨ t.d = 4 := by omega
    have hl : lpC t = [t.l0, t.l1, t.l2, t.l3].take t.d.toNat := by unfold lpC; rw [hc]; rfl
    unfold rtx_F rtx_side ttx_F
    rcases h5 with h | h | h | h | h
    · have hl : lpC t = [] := hl.trans (by rw [h]; rfl)
      rw [hl, h]
      simp only [rtcheck_eq, hk, cond_false]
      refine ⟨rfl, ?_⟩
      simp only [List.length_nil, List.length_cons, List.getD_cons_zero, List.getD_cons_succ, ByteArray.size_append, dotS, NX]
      repeat' (first | apply And.intro | intro _)
      all_goals (first | omega | trivial | (rename_i h0; revert h0; decide))
    · have hl : lpC t = [t.l0] := hl.trans (by rw [h]; rfl)
      rw [hl, h]
      simp only [rtcheck_eq, hk, cond_false]
      refine ⟨rfl, ?_⟩
      simp only [List.length_nil, List.length_cons, List.getD_cons_zero, List.getD_cons_succ, ByteArray.size_append, dotS, NX]
      repeat' (first | apply And.intro | intro _)
      all_goals (first | omega | trivial | (rename_i h0; revert h0; decide))
    · have hl : lpC t = [t.l0, t.l1] := hl.trans (by rw [h]; rfl)
      rw [hl, h]
      simp only [rtcheck_eq, hk, cond_false]
      refine ⟨rfl, ?_⟩
      simp only [List.length_nil, List.length_cons, List.getD_cons_zero, List.getD_cons_succ, ByteArray.size_append, dotS, NX]
      repeat' (first | apply And.intro | intro _)
      all_goals (first | omega | trivial | (rename_i h0; revert h0; decide))
    · have hl : lpC t = [t.l0, t.l1, t.l2] := hl.trans (by rw [h]; rfl)
      rw [hl, h]
      simp only [rtcheck_eq, hk, cond_false]
      refine ⟨rfl, ?_⟩
      simp only [List.length_nil, List.length_cons, List.getD_cons_zero, List.getD_cons_succ, ByteArray.size_append, dotS, NX]
      repeat' (first | apply And.intro | intro _)
      all_goals (first | omega | trivial | (rename_i h0; revert h0; decide))
    · have hl : lpC t = [t.l0, t.l1, t.l2, t.l3] := hl.trans (by rw [h]; rfl)
      rw [hl, h]
      simp only [rtcheck_eq, hk, cond_false]
      refine ⟨rfl, ?_⟩
      simp only [List.length_nil, List.length_cons, List.getD_cons_zero, List.getD_cons_succ, ByteArray.size_append, dotS, NX]
      repeat' (first | apply And.intro | intro _)
      all_goals (first | omega | trivial | (rename_i h0; revert h0; decide))
  · have hk : (tcheck_F t != 0) = true := by simpa using hc
    unfold rtx_F rtx_side ttx_F
    simp only [rtcheck_eq, hk, cond_true]
    exact ⟨trivial, fun h => by cases h⟩
theorem rtx_ok : FnPure Try.prog 106 aT dStr ttx_F (fun _ => []) :=
  pure_congr (rtx_okS _ fun g _ _ => (rtx_eq g).2) fun g _ _ => (rtx_eq g).1
noncomputable def tabD19 : PTab Try.prog := tabD5.cons 106 (pconP aT dStr ttx_F (fun _ => [])) (conP_ok rtx_ok puStr)
end Go.Proofs.Ytiipneclghnfhaa

/- Chapter 3: the document's lists of times as texts: the loop. Printed by treegen.py. -/
namespace Go.Proofs.Ytiipneclghnfhaa
open Go.RowKit Go.Sx
set_option maxRecDepth 100000
set_option linter.unusedVariables false
abbrev rt_G : Type := List T × Int × ByteArray
noncomputable def rt_LP : LP 0 rt_G := .pair (.slot 0 0 dLT) (.pair (.slot 0 4 dI) (.slot 0 3 dStr))
noncomputable def rt_R (xs : List T) (i : Int) (s : ByteArray) : Ex × rt_G :=
  bif decide (i < (↑xs.length : Int)) then (Ex.normal, eT.lst xs.length (eT.els xs), IntKind.i64.wrap (i + (1 : Int)), (bif decide (i > (0 : Int)) then s ++ ByteArray.mk #[(44 : UInt8)] else s) ++ ttx_F (xs.getD i.toNat eT.dflt))
  else (Ex.exit (0 : Nat), eT.lst xs.length (eT.els xs), i, s)
def rt_side (xs : List T) (i : Int) (s : ByteArray) : Prop :=
  (decide (i < (↑xs.length : Int)) = true → (decide (i > (0 : Int)) = true → s.size + (1 : Nat) ≤ (9223372036854775807 : Nat)) ∧ ((0 : Int) ≤ i ∧ i < (↑xs.length : Int)) ∧ (bif decide (i > (0 : Int)) then s ++ ByteArray.mk #[(44 : UInt8)] else s).size + ByteArray.size (ttx_F (xs.getD i.toNat eT.dflt)) ≤ (9223372036854775807 : Nat) ∧ ∀ (e : Nat), e < xs.length → eT.Ok (eT.els xs e)) ∧ (decide (i < (↑xs.length : Int)) = false → ∀ (e : Nat), e < xs.length → eT.Ok (eT.els xs e))
theorem rt_one : ((loopsOf Try.prog 58).filter fun c => Nat.beq (lkey c) 3).length = 1 := by kernel_rfl
abbrev rt_GC : Type := List T
abbrev rt_GB : Type := ByteArray
def rt_f (g : rt_G) : Int × rt_GC × rt_GB := (g.2.1, g.1, g.2.2)
def rt_g (d : Int × rt_GC × rt_GB) : rt_G := (d.2.1, d.1, d.2.2)
theorem rt_es (g : rt_G) : (rt_R g.1 g.2.1 g.2.2).1 = .normal ∨ (rt_R g.1 g.2.1 g.2.2).1 ∈ ([.exit 0] : List Ex) := by
  unfold rt_R
  repeat' (first | (left; rfl) | (right; simp only [cond_true, cond_false]; simp; done) | (rw [Bool.cond_eq_ite]; split))
noncomputable abbrev rt_C (Inv : rt_G → List Prop) (m : rt_G → Nat) : LCon := loopR [.exit 0] (loopBody Try.prog 58 3) rt_LP [] 24 Inv (fun g => rt_R g.1 g.2.1 g.2.2) m
theorem rt_loop (Inv : rt_G → List Prop) (m : rt_G → Nat) (hs : ∀ g, allP (Inv g) → rt_side g.1 g.2.1 g.2.2) (hg : Goes (fun g : rt_G => rt_R g.1 g.2.1 g.2.2) m fun g => allP (Inv g)) : ∀ b ∈ loopsOf Try.prog 58, lkey b = 3 → LoopOk Try.prog b (rt_C Inv m).g := loop_run (Γ := (PTab.gamz tabD19 [] [])) (Λ := noΛ) (PTab.okz tabD19 [] []) noΛ_ok 100 58 3 24 rt_LP [] Inv (fun g => rt_R g.1 g.2.1 g.2.2) (fun g => rt_side g.1 g.2.1 g.2.2) m default [.exit 0] rt_one (fun rd T B HL HB ds g => by kernel_rfl) (fun rd T B HL HB ds g => by kernel_rfl) hs hg rt_es
noncomputable def tabXD20 : PTab Try.prog := tabD19
end Go.Proofs.Ytiipneclghnfhaa

/- Chapter 3: the document's lists of times as texts: the loop's contract. -/
namespace Go.Proofs.Ytiipneclghnfhaa
open Go.RowKit Go.Sx Go.Lp
noncomputable def rt_S (_ : rt_GC) (b : rt_GB) (i : Int) (v : T) : Ex × rt_GB := (.normal, (bif decide (i > 0) then b ++ ByteArray.mk #[(44 : UInt8)] else b) ++ ttx_F v)
def rt_K (c : rt_GC) (b : rt_GB) (i : Int) : Prop := List.length c ≤ KS ∧ (ByteArray.size b : Int) ≤ 60 * i + 1
abbrev rt_I (g : rt_G) : List Prop := ixI (fun c : rt_GC => (List.length c : Int)) (fun c => c) rt_K (rt_f g)
abbrev rt_M (g : rt_G) : Nat := ixM (fun c : rt_GC => (List.length c : Int)) (rt_f g)
theorem rt_P : ixP rt_S (fun c : rt_GC => c) rt_K := by
  rintro xs b i a ⟨h1, h2⟩ _ _
  refine ⟨h1, ?_⟩
  have h2 : (ByteArray.size b : Int) ≤ 60 * (i : Int) + 1 := h2
  show (((bif decide ((i : Int) > 0) then b ++ ByteArray.mk #[(44 : UInt8)] else b) ++ ttx_F a).size : Int) ≤ 60 * ((i : Int) + 1) + 1
  have h3 := com_sz i b
  have h4 := ttx_sz a
  rw [ByteArray.size_append]
  omega
noncomputable abbrev rt_RR (g : rt_G) : Ex × rt_G := rt_R g.1 g.2.1 g.2.2
theorem rt_RF (d : Int × rt_GC × rt_GB) (_ : allP (ixI (fun c : rt_GC => (List.length c : Int)) (fun c => c) rt_K d)) : rt_RR (rt_g d) = ((ixF 0 (fun c : rt_GC => (List.length c : Int)) (fun c => c) eT.dflt rt_S d).1, rt_g (ixF 0 (fun c : rt_GC => (List.length c : Int)) (fun c => c) eT.dflt rt_S d).2) := by
  obtain ⟨i, xs, s⟩ := d
  show rt_R xs i s = _
  unfold rt_R ixF rt_S
  simp only [eT.lst_els]
  cases decide (i < (List.length xs : Int)) with
  | false => rfl
  | true => rfl
theorem rt_ok : ∀ b ∈ loopsOf Try.prog 58, lkey b = 3 → LoopOk Try.prog b (rt_C rt_I rt_M).g := by
  refine rt_loop rt_I rt_M (fun g hi => ?_) (ix_conj_goes (fun _ => rfl) (fun _ => rfl) rt_RF rt_P)
  obtain ⟨xs, i, s⟩ := g
  obtain ⟨h1, h2, h3, h4, h5, h6⟩ := hi _ (List.mem_cons_self ..)
  have h3 : 0 ≤ i := h3
  have h4 : i ≤ (xs.length : Int) := h4
  have h5 : xs.length ≤ KS := h5
  have h6 : (ByteArray.size s : Int) ≤ 60 * i + 1 := h6
  unfold KS at h5
  have ha := okT xs
  have k1 := com_sz i s
  have k2 := ttx_sz (xs.getD i.toNat eT.dflt)
  clear hi
  show rt_side xs i s
  unfold rt_side
  simp only [decide_eq_true_eq, decide_eq_false_iff_not]
  repeat' (first | exact ha | apply And.intro | intro _)
  all_goals (first | trivial | omega)
theorem rt_run (xs : List T) (h : xs.length ≤ KS) : ∃ i, loopF rt_RR rt_M (xs, 0, ByteArray.mk #[(123 : UInt8)]) = (.exit 0, xs, i, (scan 0 (tl_S (xs, (xs.length : Int))) 0 xs (ByteArray.mk #[(123 : UInt8)])).2.2) := by
  have hm : xs.length ≤ maxLen := by unfold KS at h; unfold maxLen; omega
  have h1 : loopF rt_RR rt_M (xs, 0, ByteArray.mk #[(123 : UInt8)]) = _ := ix_conj_run (φ := rt_f) (ψ := rt_g) (fun _ => rfl) (fun _ => rfl) rt_RF rt_P xs (ByteArray.mk #[(123 : UInt8)]) rfl hm ⟨h, by show (1 : Int) ≤ 60 * 0 + 1; omega⟩
  have hs : ∀ (l : List T) (i : Int) (b : ByteArray), (scan 0 (tl_S (xs, (xs.length : Int))) i l b).1 = .exit 0 := by
    intro l
    induction l with
    | nil => intro i b; rfl
    | cons a l ih => intro i b; exact ih _ _
  refine ⟨(scan 0 (tl_S (xs, (xs.length : Int))) 0 xs (ByteArray.mk #[(123 : UInt8)])).2.1, h1.trans ?_⟩
  show ((scan 0 (tl_S (xs, (xs.length : Int))) 0 xs (ByteArray.mk #[(123 : UInt8)])).1, _) = _
  rw [hs]
  rfl
noncomputable def ltRt : LTab Try.prog := LTab.nil.cons 58 3 (rt_C rt_I rt_M) rt_ok
noncomputable abbrev lamRt : Lam := ltRt.lam
theorem lamRt_ok : ∀ f k L, lamRt f k = some L → ∀ b ∈ loopsOf Try.prog f, lkey b = k → LoopOk Try.prog b L.g := ltRt.ok
end Go.Proofs.Ytiipneclghnfhaa

/- Chapter 3: the document's lists of times as texts. Printed by treegen.py. -/
namespace Go.Proofs.Ytiipneclghnfhaa
open Go.RowKit Go.Sx
set_option maxRecDepth 100000
set_option linter.unusedVariables false
noncomputable def rtt_q1 (xs : List T) : Ex ×
  rt_G :=
  loopF (fun g => rt_R g.fst g.snd.fst g.snd.snd) rt_M (eT.lst xs.length (eT.els xs), (0 : Int), ByteArray.mk #[(123 : UInt8)])
noncomputable def rtt_F (xs : List T) : Dv.T dStr :=
  (rtt_q1 xs).snd.snd.snd ++ ByteArray.mk #[(125 : UInt8)]
def rtt_side (xs : List T) : Prop :=
  (∀ (e : Nat), e < xs.length → eT.Ok (eT.els xs e)) ∧ Lp.ixJ (fun c => (↑(List.length c) : Int)) (fun c => c) rt_K (rt_f (eT.lst xs.length (eT.els xs), (0 : Int), ByteArray.mk #[(123 : UInt8)])) ∧ (rtt_q1 xs).snd.snd.snd.size + (1 : Nat) ≤ (9223372036854775807 : Nat)
theorem rtt_okS (pre : DA.T aL → List Prop) (h : ∀ g, DA.bd aL g → (∀ p ∈ pre g, p) → rtt_side g) : FnPure Try.prog 58 aL dStr (fun g => rtt_F g) pre := pure_of_sideS (Γ := (PTab.gamz tabD19 [] [])) (Λ := lamRt) (PTab.okz tabD19 [] []) lamRt_ok 100 default (fun g => rtt_side g) (fun g => by kernel_rfl) (fun g => by kernel_rfl) h
noncomputable def tabXD22 : PTab Try.prog := tabD19
end Go.Proofs.Ytiipneclghnfhaa

/- Chapter 3: the document's lists of times as texts: the contract. -/
namespace Go.Proofs.Ytiipneclghnfhaa
open Go.RowKit Go.Sx Go.Lp
theorem rtt_eq (xs : List T) (h : xs.length ≤ KS) : rtt_F xs = txC xs ∧ rtt_side xs := by
  have hm : xs.length ≤ maxLen := by unfold KS at h; unfold maxLen; omega
  obtain ⟨i, h1⟩ := rt_run xs h
  have hs := scan_sz (xs, (xs.length : Int)) xs 0 (ByteArray.mk #[(123 : UInt8)])
  have hb : (ByteArray.mk #[(123 : UInt8)]).size = 1 := rfl
  have hq : rtt_q1 xs = (.exit 0, xs, i, (scan 0 (tl_S (xs, (xs.length : Int))) 0 xs (ByteArray.mk #[(123 : UInt8)])).2.2) := by
    unfold rtt_q1
    rw [eT.lst_els]
    exact h1
  unfold rtt_F rtt_side txC
  rw [hq, eT.lst_els]
  refine ⟨rfl, okT xs, ?_, ?_⟩
  · exact ixJ0 (lim := fun c : rt_GC => (List.length c : Int)) (xs := fun c : rt_GC => c) (P := rt_K) (c := xs) (b := ByteArray.mk #[(123 : UInt8)]) rfl hm ⟨h, by show (1 : Int) ≤ 60 * 0 + 1; omega⟩
  · unfold KS at h
    show (scan 0 (tl_S (xs, (xs.length : Int))) 0 xs (ByteArray.mk #[(123 : UInt8)])).2.2.size + 1 ≤ _
    omega
theorem rtt_ok : FnPure Try.prog 58 aL dStr txC (fun g => [g.length ≤ KS]) :=
  pure_congr (rtt_okS _ fun g _ hp => (rtt_eq g (hp _ (List.mem_cons_self ..))).2) fun g _ hp => (rtt_eq g (hp _ (List.mem_cons_self ..))).1
end Go.Proofs.Ytiipneclghnfhaa

/- Chapter 3: the document's Join is the program's. -/
namespace Go.Proofs.Ytiipneclghnfhaa
open Go.RowKit Go.Sx Go.Lp
theorem rjn_eq (xs ys : List T) (k1 : xs.length ≤ 1000) (k2 : ys.length ≤ 1000) : rjn_F xs ys = joinC xs ys ∧ rjn_side xs ys := by
  have h1 := rJ_run xs ys (by omega) (by omega)
  have hq : rjn_q1 xs ys = (.exit 0, xs, ys, (xs.length : Int), joins jnT xs ys) := by
    unfold rjn_q1
    simp only [eT.lst_els]
    exact h1
  have hk : (joins jnT xs ys).length ≤ KS := by
    rw [joins_len]
    unfold KS
    exact Nat.mul_le_mul k1 k2
  have ha := okT xs
  have hb := okT ys
  have ho := okT (ofC (joins jnT xs ys)).1
  have hx := ixJ0 (lim := fun c : rJ_GC => (c.1.length : Int)) (xs := fun c : rJ_GC => c.1) (P := rJ_K) (c := (xs, ys)) (b := []) rfl (by unfold maxLen; show xs.length ≤ _; omega) ⟨by show xs.length ≤ _; omega, by show ys.length ≤ _; omega, by show (0 : Int) ≤ 2000 * 0; omega⟩
  unfold rjn_F rjn_side joinC
  rw [hq]
  simp only [eT.lst_els]
  refine ⟨?_, ?_⟩
  · trivial
  · repeat' (first | exact ha | exact hb | exact hx | exact hk | exact ho | exact rfl | exact Nat.le_refl _ | apply And.intro | intro _)
    all_goals (first | trivial | omega)
theorem rjn_ok : FnPure Try.prog 53 aLL dLE (fun g => joinC g.1 g.2) (fun g => [g.1.length ≤ 1000, g.2.length ≤ 1000]) :=
  pure_congr (rjn_okS _ fun g _ hp => (rjn_eq g.1 g.2 (hp _ (List.mem_cons_self ..)) (hp _ (List.mem_cons_of_mem _ (List.mem_cons_self ..)))).2) fun g _ hp => (rjn_eq g.1 g.2 (hp _ (List.mem_cons_self ..)) (hp _ (List.mem_cons_of_mem _ (List.mem_cons_self ..)))).1
noncomputable def tabJ : MTab Try.prog := (tabI.cons 53 (pconR aLL dLE (fun g => joinC g.1 g.2) (fun g => [g.1.length ≤ 1000, g.2.length ≤ 1000])) (conR_ok rjn_ok)).cons 58 (pconP aL dStr txC (fun g => [g.length ≤ KS])) (conP_ok rtt_ok puStr)
end Go.Proofs.Ytiipneclghnfhaa

/- Chapter 3: the law ChainTwo. Printed by treegen.py. -/
namespace Go.Proofs.Ytiipneclghnfhaa
open Go.RowKit Go.Sx
set_option maxRecDepth 100000
set_option linter.unusedVariables false
abbrev aLLT : DA (List T × List T × T) := .cons dLT (.cons dLT (.one dT))
noncomputable def two3_F (xs : List T) (ys : List T) (t : T) : Dv.T dBool :=
  bif decide ((↑xs.length : Int) > (40 : Int)) then true
  else bif decide ((↑ys.length : Int) > (40 : Int)) then true else decide (eT.lst (meetC (eT.lst xs.length (eT.els xs)) (eT.lst ys.length (eT.els ys))).fst.length (eT.els (meetC (eT.lst xs.length (eT.els xs)) (eT.lst ys.length (eT.els ys))).fst) = eT.lst (meetC (eT.lst xs.length (eT.els xs)) (eT.lst ys.length (eT.els ys))).fst.length (eT.els (meetC (eT.lst xs.length (eT.els xs)) (eT.lst ys.length (eT.els ys))).fst)) && ((meetC (eT.lst xs.length (eT.els xs)) (eT.lst ys.length (eT.els ys))).snd == (meetC (eT.lst xs.length (eT.els xs)) (eT.lst ys.length (eT.els ys))).snd && (decide (eT.lst (joinC (eT.lst xs.length (eT.els xs)) (eT.lst ys.length (eT.els ys))).fst.length (eT.els (joinC (eT.lst xs.length (eT.els xs)) (eT.lst ys.length (eT.els ys))).fst) = eT.lst (joinC (eT.lst xs.length (eT.els xs)) (eT.lst ys.length (eT.els ys))).fst.length (eT.els (joinC (eT.lst xs.length (eT.els xs)) (eT.lst ys.length (eT.els ys))).fst)) && ((joinC (eT.lst xs.length (eT.els xs)) (eT.lst ys.length (eT.els ys))).snd == (joinC (eT.lst xs.length (eT.els xs)) (eT.lst ys.length (eT.els ys))).snd && ((((eT.lst xs.length (eT.els xs)).any fun x => tleq_F x t) == (eT.lst xs.length (eT.els xs)).any fun x => tleq_F x t) && (leqC (eT.lst xs.length (eT.els xs)) (eT.lst ys.length (eT.els ys)) == leqC (eT.lst xs.length (eT.els xs)) (eT.lst ys.length (eT.els ys)) && decide (txC (eT.lst xs.length (eT.els xs)) = txC (eT.lst xs.length (eT.els xs))))))))
def two3_side (xs : List T) (ys : List T) (t : T) : Prop :=
  (!true) = false → decide ((↑xs.length : Int) > (40 : Int)) = false → decide ((↑ys.length : Int) > (40 : Int)) = false → (∀ (e : Nat), e < xs.length → eT.Ok (eT.els xs e)) ∧ (∀ (e : Nat), e < ys.length → eT.Ok (eT.els ys e)) ∧ (∀ (e : Nat), e < xs.length → eT.Ok (eT.els xs e)) ∧ (∀ (e : Nat), e < ys.length → eT.Ok (eT.els ys e)) ∧ (∀ (e : Nat), e < xs.length → eT.Ok (eT.els xs e)) ∧ (∀ (e : Nat), e < ys.length → eT.Ok (eT.els ys e)) ∧ (eT.lst xs.length (eT.els xs)).length ≤ (1000 : Nat) ∧ (eT.lst ys.length (eT.els ys)).length ≤ (1000 : Nat) ∧ (∀ (e : Nat), e < xs.length → eT.Ok (eT.els xs e)) ∧ (∀ (e : Nat), e < ys.length → eT.Ok (eT.els ys e)) ∧ (eT.lst xs.length (eT.els xs)).length ≤ (1000 : Nat) ∧ (eT.lst ys.length (eT.els ys)).length ≤ (1000 : Nat) ∧ (∀ (e : Nat), e < (meetC (eT.lst xs.length (eT.els xs)) (eT.lst ys.length (eT.els ys))).fst.length → eT.Ok (eT.els (meetC (eT.lst xs.length (eT.els xs)) (eT.lst ys.length (eT.els ys))).fst e)) ∧ (∀ (e : Nat), e < (meetC (eT.lst xs.length (eT.els xs)) (eT.lst ys.length (eT.els ys))).fst.length → eT.Ok (eT.els (meetC (eT.lst xs.length (eT.els xs)) (eT.lst ys.length (eT.els ys))).fst e)) ∧ (decide (eT.lst (meetC (eT.lst xs.length (eT.els xs)) (eT.lst ys.length (eT.els ys))).fst.length (eT.els (meetC (eT.lst xs.length (eT.els xs)) (eT.lst ys.length (eT.els ys))).fst) = eT.lst (meetC (eT.lst xs.length (eT.els xs)) (eT.lst ys.length (eT.els ys))).fst.length (eT.els (meetC (eT.lst xs.length (eT.els xs)) (eT.lst ys.length (eT.els ys))).fst)) = true → ((meetC (eT.lst xs.length (eT.els xs)) (eT.lst ys.length (eT.els ys))).snd == (meetC (eT.lst xs.length (eT.els xs)) (eT.lst ys.length (eT.els ys))).snd) = true → ∀ (e : Nat), e < (joinC (eT.lst xs.length (eT.els xs)) (eT.lst ys.length (eT.els ys))).fst.length → eT.Ok (eT.els (joinC (eT.lst xs.length (eT.els xs)) (eT.lst ys.length (eT.els ys))).fst e)) ∧ (decide (eT.lst (meetC (eT.lst xs.length (eT.els xs)) (eT.lst ys.length (eT.els ys))).fst.length (eT.els (meetC (eT.lst xs.length (eT.els xs)) (eT.lst ys.length (eT.els ys))).fst) = eT.lst (meetC (eT.lst xs.length (eT.els xs)) (eT.lst ys.length (eT.els ys))).fst.length (eT.els (meetC (eT.lst xs.length (eT.els xs)) (eT.lst ys.length (eT.els ys))).fst)) = true → ((meetC (eT.lst xs.length (eT.els xs)) (eT.lst ys.length (eT.els ys))).snd == (meetC (eT.lst xs.length (eT.els xs)) (eT.lst ys.length (eT.els ys))).snd) = true → ∀ (e : Nat), e < (joinC (eT.lst xs.length (eT.els xs)) (eT.lst ys.length (eT.els ys))).fst.length → eT.Ok (eT.els (joinC (eT.lst xs.length (eT.els xs)) (eT.lst ys.length (eT.els ys))).fst e)) ∧ (decide (eT.lst (meetC (eT.lst xs.length (eT.els xs)) (eT.lst ys.length (eT.els ys))).fst.length (eT.els (meetC (eT.lst xs.length (eT.els xs)) (eT.lst ys.length (eT.els ys))).fst) = eT.lst (meetC (eT.lst xs.length (eT.els xs)) (eT.lst ys.length (eT.els ys))).fst.length (eT.els (meetC (eT.lst xs.length (eT.els xs)) (eT.lst ys.length (eT.els ys))).fst)) = true → ((meetC (eT.lst xs.length (eT.els xs)) (eT.lst ys.length (eT.els ys))).snd == (meetC (eT.lst xs.length (eT.els xs)) (eT.lst ys.length (eT.els ys))).snd) = true → decide (eT.lst (joinC (eT.lst xs.length (eT.els xs)) (eT.lst ys.length (eT.els ys))).fst.length (eT.els (joinC (eT.lst xs.length (eT.els xs)) (eT.lst ys.length (eT.els ys))).fst) = eT.lst (joinC (eT.lst xs.length (eT.els xs)) (eT.lst ys.length (eT.els ys))).fst.length (eT.els (joinC (eT.lst xs.length (eT.els xs)) (eT.lst ys.length (eT.els ys))).fst)) = true → ((joinC (eT.lst xs.length (eT.els xs)) (eT.lst ys.length (eT.els ys))).snd == (joinC (eT.lst xs.length (eT.els xs)) (eT.lst ys.length (eT.els ys))).snd) = true → ∀ (e : Nat), e < xs.length → eT.Ok (eT.els xs e)) ∧ (decide (eT.lst (meetC (eT.lst xs.length (eT.els xs)) (eT.lst ys.length (eT.els ys))).fst.length (eT.els (meetC (eT.lst xs.length (eT.els xs)) (eT.lst ys.length (eT.els ys))).fst) = eT.lst (meetC (eT.lst xs.length (eT.els xs)) (eT.lst ys.length (eT.els ys))).fst.length (eT.els (meetC (eT.lst xs.length (eT.els xs)) (eT.lst ys.length (eT.els ys))).fst)) = true → ((meetC (eT.lst xs.length (eT.els xs)) (eT.lst ys.length (eT.els ys))).snd == (meetC (eT.lst xs.length (eT.els xs)) (eT.lst ys.length (eT.els ys))).snd) = true → decide (eT.lst (joinC (eT.lst xs.length (eT.els xs)) (eT.lst ys.length (eT.els ys))).fst.length (eT.els (joinC (eT.lst xs.length (eT.els xs)) (eT.lst ys.length (eT.els ys))).fst) = eT.lst (joinC (eT.lst xs.length (eT.els xs)) (eT.lst ys.length (eT.els ys))).fst.length (eT.els (joinC (eT.lst xs.length (eT.els xs)) (eT.lst ys.length (eT.els ys))).fst)) = true → ((joinC (eT.lst xs.length (eT.els xs)) (eT.lst ys.length (eT.els ys))).snd == (joinC (eT.lst xs.length (eT.els xs)) (eT.lst ys.length (eT.els ys))).snd) = true → ∀ (e : Nat), e < xs.length → eT.Ok (eT.els xs e)) ∧ (decide (eT.lst (meetC (eT.lst xs.length (eT.els xs)) (eT.lst ys.length (eT.els ys))).fst.length (eT.els (meetC (eT.lst xs.length (eT.els xs)) (eT.lst ys.length (eT.els ys))).fst) = eT.lst (meetC (eT.lst xs.length (eT.els xs)) (eT.lst ys.length (eT.els ys))).fst.length (eT.els (meetC (eT.lst xs.length (eT.els xs)) (eT.lst ys.length (eT.els ys))).fst)) = true → ((meetC (eT.lst xs.length (eT.els xs)) (eT.lst ys.length (eT.els ys))).snd == (meetC (eT.lst xs.length (eT.els xs)) (eT.lst ys.length (eT.els ys))).snd) = true → decide (eT.lst (joinC (eT.lst xs.length (eT.els xs)) (eT.lst ys.length (eT.els ys))).fst.length (eT.els (joinC (eT.lst xs.length (eT.els xs)) (eT.lst ys.length (eT.els ys))).fst) = eT.lst (joinC (eT.lst xs.length (eT.els xs)) (eT.lst ys.length (eT.els ys))).fst.length (eT.els (joinC (eT.lst xs.length (eT.els xs)) (eT.lst ys.length (eT.els ys))).fst)) = true → ((joinC (eT.lst xs.length (eT.els xs)) (eT.lst ys.length (eT.els ys))).snd == (joinC (eT.lst xs.length (eT.els xs)) (eT.lst ys.length (eT.els ys))).snd) = true → (((eT.lst xs.length (eT.els xs)).any fun x => tleq_F x t) == (eT.lst xs.length (eT.els xs)).any fun x => tleq_F x t) = true → ∀ (e : Nat), e < xs.length → eT.Ok (eT.els xs e)) ∧ (decide (eT.lst (meetC (eT.lst xs.length (eT.els xs)) (eT.lst ys.length (eT.els ys))).fst.length (eT.els (meetC (eT.lst xs.length (eT.els xs)) (eT.lst ys.length (eT.els ys))).fst) = eT.lst (meetC (eT.lst xs.length (eT.els xs)) (eT.lst ys.length (eT.els ys))).fst.length (eT.els (meetC (eT.lst xs.length (eT.els xs)) (eT.lst ys.length (eT.els ys))).fst)) = true → ((meetC (eT.lst xs.length (eT.els xs)) (eT.lst ys.length (eT.els ys))).snd == (meetC (eT.lst xs.length (eT.els xs)) (eT.lst ys.length (eT.els ys))).snd) = true → decide (eT.lst (joinC (eT.lst xs.length (eT.els xs)) (eT.lst ys.length (eT.els ys))).fst.length (eT.els (joinC (eT.lst xs.length (eT.els xs)) (eT.lst ys.length (eT.els ys))).fst) = eT.lst (joinC (eT.lst xs.length (eT.els xs)) (eT.lst ys.length (eT.els ys))).fst.length (eT.els (joinC (eT.lst xs.length (eT.els xs)) (eT.lst ys.length (eT.els ys))).fst)) = true → ((joinC (eT.lst xs.length (eT.els xs)) (eT.lst ys.length (eT.els ys))).snd == (joinC (eT.lst xs.length (eT.els xs)) (eT.lst ys.length (eT.els ys))).snd) = true → (((eT.lst xs.length (eT.els xs)).any fun x => tleq_F x t) == (eT.lst xs.length (eT.els xs)).any fun x => tleq_F x t) = true → ∀ (e : Nat), e < ys.length → eT.Ok (eT.els ys e)) ∧ (decide (eT.lst (meetC (eT.lst xs.length (eT.els xs)) (eT.lst ys.length (eT.els ys))).fst.length (eT.els (meetC (eT.lst xs.length (eT.els xs)) (eT.lst ys.length (eT.els ys))).fst) = eT.lst (meetC (eT.lst xs.length (eT.els xs)) (eT.lst ys.length (eT.els ys))).fst.length (eT.els (meetC (eT.lst xs.length (eT.els xs)) (eT.lst ys.length (eT.els ys))).fst)) = true → ((meetC (eT.lst xs.length (eT.els xs)) (eT.lst ys.length (eT.els ys))).snd == (meetC (eT.lst xs.length (eT.els xs)) (eT.lst ys.length (eT.els ys))).snd) = true → decide (eT.lst (joinC (eT.lst xs.length (eT.els xs)) (eT.lst ys.length (eT.els ys))).fst.length (eT.els (joinC (eT.lst xs.length (eT.els xs)) (eT.lst ys.length (eT.els ys))).fst) = eT.lst (joinC (eT.lst xs.length (eT.els xs)) (eT.lst ys.length (eT.els ys))).fst.length (eT.els (joinC (eT.lst xs.length (eT.els xs)) (eT.lst ys.length (eT.els ys))).fst)) = true → ((joinC (eT.lst xs.length (eT.els xs)) (eT.lst ys.length (eT.els ys))).snd == (joinC (eT.lst xs.length (eT.els xs)) (eT.lst ys.length (eT.els ys))).snd) = true → (((eT.lst xs.length (eT.els xs)).any fun x => tleq_F x t) == (eT.lst xs.length (eT.els xs)).any fun x => tleq_F x t) = true → ∀ (e : Nat), e < xs.length → eT.Ok (eT.els xs e)) ∧ (decide (eT.lst (meetC (eT.lst xs.length (eT.els xs)) (eT.lst ys.length (eT.els ys))).fst.length (eT.els (meetC (eT.lst xs.length (eT.els xs)) (eT.lst ys.length (eT.els ys))).fst) = eT.lst (meetC (eT.lst xs.length (eT.els xs)) (eT.lst ys.length (eT.els ys))).fst.length (eT.els (meetC (eT.lst xs.length (eT.els xs)) (eT.lst ys.length (eT.els ys))).fst)) = true → ((meetC (eT.lst xs.length (eT.els xs)) (eT.lst ys.length (eT.els ys))).snd == (meetC (eT.lst xs.length (eT.els xs)) (eT.lst ys.length (eT.els ys))).snd) = true → decide (eT.lst (joinC (eT.lst xs.length (eT.els xs)) (eT.lst ys.length (eT.els ys))).fst.length (eT.els (joinC (eT.lst xs.length (eT.els xs)) (eT.lst ys.length (eT.els ys))).fst) = eT.lst (joinC (eT.lst xs.length (eT.els xs)) (eT.lst ys.length (eT.els ys))).fst.length (eT.els (joinC (eT.lst xs.length (eT.els xs)) (eT.lst ys.length (eT.els ys))).fst)) = true → ((joinC (eT.lst xs.length (eT.els xs)) (eT.lst ys.length (eT.els ys))).snd == (joinC (eT.lst xs.length (eT.els xs)) (eT.lst ys.length (eT.els ys))).snd) = true → (((eT.lst xs.length (eT.els xs)).any fun x => tleq_F x t) == (eT.lst xs.length (eT.els xs)).any fun x => tleq_F x t) = true → ∀ (e : Nat), e < ys.length → eT.Ok (eT.els ys e)) ∧ (decide (eT.lst (meetC (eT.lst xs.length (eT.els xs)) (eT.lst ys.length (eT.els ys))).fst.length (eT.els (meetC (eT.lst xs.length (eT.els xs)) (eT.lst ys.length (eT.els ys))).fst) = eT.lst (meetC (eT.lst xs.length (eT.els xs)) (eT.lst ys.length (eT.els ys))).fst.length (eT.els (meetC (eT.lst xs.length (eT.els xs)) (eT.lst ys.length (eT.els ys))).fst)) = true → ((meetC (eT.lst xs.length (eT.els xs)) (eT.lst ys.length (eT.els ys))).snd == (meetC (eT.lst xs.length (eT.els xs)) (eT.lst ys.length (eT.els ys))).snd) = true → decide (eT.lst (joinC (eT.lst xs.length (eT.els xs)) (eT.lst ys.length (eT.els ys))).fst.length (eT.els (joinC (eT.lst xs.length (eT.els xs)) (eT.lst ys.length (eT.els ys))).fst) = eT.lst (joinC (eT.lst xs.length (eT.els xs)) (eT.lst ys.length (eT.els ys))).fst.length (eT.els (joinC (eT.lst xs.length (eT.els xs)) (eT.lst ys.length (eT.els ys))).fst)) = true → ((joinC (eT.lst xs.length (eT.els xs)) (eT.lst ys.length (eT.els ys))).snd == (joinC (eT.lst xs.length (eT.els xs)) (eT.lst ys.length (eT.els ys))).snd) = true → (((eT.lst xs.length (eT.els xs)).any fun x => tleq_F x t) == (eT.lst xs.length (eT.els xs)).any fun x => tleq_F x t) = true → (leqC (eT.lst xs.length (eT.els xs)) (eT.lst ys.length (eT.els ys)) == leqC (eT.lst xs.length (eT.els xs)) (eT.lst ys.length (eT.els ys))) = true → ∀ (e : Nat), e < xs.length → eT.Ok (eT.els xs e)) ∧ (decide (eT.lst (meetC (eT.lst xs.length (eT.els xs)) (eT.lst ys.length (eT.els ys))).fst.length (eT.els (meetC (eT.lst xs.length (eT.els xs)) (eT.lst ys.length (eT.els ys))).fst) = eT.lst (meetC (eT.lst xs.length (eT.els xs)) (eT.lst ys.length (eT.els ys))).fst.length (eT.els (meetC (eT.lst xs.length (eT.els xs)) (eT.lst ys.length (eT.els ys))).fst)) = true → ((meetC (eT.lst xs.length (eT.els xs)) (eT.lst ys.length (eT.els ys))).snd == (meetC (eT.lst xs.length (eT.els xs)) (eT.lst ys.length (eT.els ys))).snd) = true → decide (eT.lst (joinC (eT.lst xs.length (eT.els xs)) (eT.lst ys.length (eT.els ys))).fst.length (eT.els (joinC (eT.lst xs.length (eT.els xs)) (eT.lst ys.length (eT.els ys))).fst) = eT.lst (joinC (eT.lst xs.length (eT.els xs)) (eT.lst ys.length (eT.els ys))).fst.length (eT.els (joinC (eT.lst xs.length (eT.els xs)) (eT.lst ys.length (eT.els ys))).fst)) = true → ((joinC (eT.lst xs.length (eT.els xs)) (eT.lst ys.length (eT.els ys))).snd == (joinC (eT.lst xs.length (eT.els xs)) (eT.lst ys.length (eT.els ys))).snd) = true → (((eT.lst xs.length (eT.els xs)).any fun x => tleq_F x t) == (eT.lst xs.length (eT.els xs)).any fun x => tleq_F x t) = true → (leqC (eT.lst xs.length (eT.els xs)) (eT.lst ys.length (eT.els ys)) == leqC (eT.lst xs.length (eT.els xs)) (eT.lst ys.length (eT.els ys))) = true → (eT.lst xs.length (eT.els xs)).length ≤ KS) ∧ (decide (eT.lst (meetC (eT.lst xs.length (eT.els xs)) (eT.lst ys.length (eT.els ys))).fst.length (eT.els (meetC (eT.lst xs.length (eT.els xs)) (eT.lst ys.length (eT.els ys))).fst) = eT.lst (meetC (eT.lst xs.length (eT.els xs)) (eT.lst ys.length (eT.els ys))).fst.length (eT.els (meetC (eT.lst xs.length (eT.els xs)) (eT.lst ys.length (eT.els ys))).fst)) = true → ((meetC (eT.lst xs.length (eT.els xs)) (eT.lst ys.length (eT.els ys))).snd == (meetC (eT.lst xs.length (eT.els xs)) (eT.lst ys.length (eT.els ys))).snd) = true → decide (eT.lst (joinC (eT.lst xs.length (eT.els xs)) (eT.lst ys.length (eT.els ys))).fst.length (eT.els (joinC (eT.lst xs.length (eT.els xs)) (eT.lst ys.length (eT.els ys))).fst) = eT.lst (joinC (eT.lst xs.length (eT.els xs)) (eT.lst ys.length (eT.els ys))).fst.length (eT.els (joinC (eT.lst xs.length (eT.els xs)) (eT.lst ys.length (eT.els ys))).fst)) = true → ((joinC (eT.lst xs.length (eT.els xs)) (eT.lst ys.length (eT.els ys))).snd == (joinC (eT.lst xs.length (eT.els xs)) (eT.lst ys.length (eT.els ys))).snd) = true → (((eT.lst xs.length (eT.els xs)).any fun x => tleq_F x t) == (eT.lst xs.length (eT.els xs)).any fun x => tleq_F x t) = true → (leqC (eT.lst xs.length (eT.els xs)) (eT.lst ys.length (eT.els ys)) == leqC (eT.lst xs.length (eT.els xs)) (eT.lst ys.length (eT.els ys))) = true → ∀ (e : Nat), e < xs.length → eT.Ok (eT.els xs e)) ∧ (decide (eT.lst (meetC (eT.lst xs.length (eT.els xs)) (eT.lst ys.length (eT.els ys))).fst.length (eT.els (meetC (eT.lst xs.length (eT.els xs)) (eT.lst ys.length (eT.els ys))).fst) = eT.lst (meetC (eT.lst xs.length (eT.els xs)) (eT.lst ys.length (eT.els ys))).fst.length (eT.els (meetC (eT.lst xs.length (eT.els xs)) (eT.lst ys.length (eT.els ys))).fst)) = true → ((meetC (eT.lst xs.length (eT.els xs)) (eT.lst ys.length (eT.els ys))).snd == (meetC (eT.lst xs.length (eT.els xs)) (eT.lst ys.length (eT.els ys))).snd) = true → decide (eT.lst (joinC (eT.lst xs.length (eT.els xs)) (eT.lst ys.length (eT.els ys))).fst.length (eT.els (joinC (eT.lst xs.length (eT.els xs)) (eT.lst ys.length (eT.els ys))).fst) = eT.lst (joinC (eT.lst xs.length (eT.els xs)) (eT.lst ys.length (eT.els ys))).fst.length (eT.els (joinC (eT.lst xs.length (eT.els xs)) (eT.lst ys.length (eT.els ys))).fst)) = true → ((joinC (eT.lst xs.length (eT.els xs)) (eT.lst ys.length (eT.els ys))).snd == (joinC (eT.lst xs.length (eT.els xs)) (eT.lst ys.length (eT.els ys))).snd) = true → (((eT.lst xs.length (eT.els xs)).any fun x => tleq_F x t) == (eT.lst xs.length (eT.els xs)).any fun x => tleq_F x t) = true → (leqC (eT.lst xs.length (eT.els xs)) (eT.lst ys.length (eT.els ys)) == leqC (eT.lst xs.length (eT.els xs)) (eT.lst ys.length (eT.els ys))) = true → (eT.lst xs.length (eT.els xs)).length ≤ KS)
theorem two3_okS (pre : DA.T aLLT → List Prop) (h : ∀ g, DA.bd aLLT g → (∀ p ∈ pre g, p) → two3_side g.1 g.2.1 g.2.2) : FnPure Try.prog 10 aLLT dBool (fun g => two3_F g.1 g.2.1 g.2.2) pre := pure_of_sideS (Γ := (MTab.gamz tabJ [] [(17, 2, 4)])) (Λ := noΛ) (MTab.okz tabJ [] [(17, 2, 4)]) noΛ_ok 100 default (fun g => two3_side g.1 g.2.1 g.2.2) (fun g => by kernel_rfl) (fun g => by kernel_rfl) h
noncomputable def tabXI8 : MTab Try.prog := tabJ
end Go.Proofs.Ytiipneclghnfhaa

/- Chapter 3: the law ChainTwo holds. -/
namespace Go.Proofs.Ytiipneclghnfhaa
open Go.RowKit Go.Sx Go.Lp
set_option maxHeartbeats 4000000 in
theorem two3_si (xs ys : List T) (t : T) : two3_side xs ys t := by
  have h1 := okT xs
  have h2 := okT ys
  have h3 := okT (meetC xs ys).1
  have h4 := okT (joinC xs ys).1
  unfold two3_side
  simp only [eT.lst_els]
  intro _ l1 l2
  have l1 : ¬ (xs.length : Int) > 40 := of_decide_eq_false l1
  have l2 : ¬ (ys.length : Int) > 40 := of_decide_eq_false l2
  have k1 : xs.length ≤ 1000 := by omega
  have k2 : ys.length ≤ 1000 := by omega
  have k3 : xs.length ≤ KS := by unfold KS; omega
  repeat' (first | exact h1 | exact h2 | exact h3 | exact h4 | exact k1 | exact k2 | exact k3 | apply And.intro | intro _)
theorem two3_eq (xs ys : List T) (t : T) : two3_F xs ys t = true := by
  unfold two3_F
  simp only [eT.lst_els, decide_true, beq_self_eq_true, Bool.and_true]
  cases decide ((xs.length : Int) > 40) <;> cases decide ((ys.length : Int) > 40) <;> rfl
theorem two3_ok : FnPure Try.prog 10 aLLT dBool (fun _ => true) (fun _ => []) :=
  pure_congr (two3_okS _ fun g _ _ => two3_si g.1 g.2.1 g.2.2) fun g _ _ => two3_eq g.1 g.2.1 g.2.2
end Go.Proofs.Ytiipneclghnfhaa

/- From what a statement reads of its arguments to known values. -/
namespace Go.Sx
open Go.RowKit Go.ChangeShapes Go.WideShapes Go.ChangeAt Go.Deep

theorem add_none (b o n : Nat) : (⟨b, o, none⟩ : Addr).add n = ⟨b, o + n, none⟩ := by
  by_cases h : n = 0
  · subst h; simp [Addr.add]
  · simp [Addr.add, h]
abbrev wh (w : World) : Rh := emp fun b => w.heap[b]?
/-- Cells of that type are plain data. -/
def Rd {α : Type} (P : Program) (t : TypeId) (A : El α) (Q : α → Prop) : Prop :=
  ∀ (H : Type) (enc : TypeId × Value → H) (w : World) (base : Nat) (spare : Nat → Bool) (held : Bool) (fuel : Nat) (cs : List Value) (x : DataW H × List MemPlace),
    DataW.trod enc P w base spare held fuel t cs = some x → ∃ a, Q a ∧ SV.fits 0 (wh w) (A.cells a) cs
section
variable {H : Type} (enc : TypeId × Value → H) (P : Program) (w : World) (base : Nat) (spare : Nat → Bool) (held : Bool) (fuel : Nat)
def Cut : List TypeId → List Value → Prop
  | [], cs => cs = []
  | t :: ts, cs => (∃ x, DataW.trod enc P w base spare held fuel t (cs.take (P.cellsOf t)) = some x) ∧ Cut ts (cs.drop (P.cellsOf t))
def consec : Nat → List (Nat × TypeId) → Nat → Bool
  | o, [], n => Nat.beq o n
  | o, p :: r, n => Nat.beq p.1 o && consec (o + P.cellsOf p.2) r n
theorem cut_of (cs : List Value) : ∀ (fs : List (Nat × TypeId)) (o : Nat), consec P o fs cs.length = true → (∀ p ∈ fs, ∃ x, DataW.trod enc P w base spare held fuel p.2 ((cs.drop p.1).take (P.cellsOf p.2)) = some x) → Cut enc P w base spare held fuel (fs.map (·.2)) (cs.drop o)
  | [], o, hc, _ => by
    have := beq_of hc
    show cs.drop o = []
    exact List.drop_eq_nil_of_le (by omega)
  | p :: r, o, hc, h => by
    simp only [consec, Bool.and_eq_true] at hc
    have h0 := beq_of hc.1
    refine ⟨?_, ?_⟩
    · have := h p (List.mem_cons_self ..)
      rwa [h0] at this
    · have := cut_of cs r (o + P.cellsOf p.2) hc.2 fun q hq => h q (List.mem_cons_of_mem _ hq)
      rwa [List.drop_drop]
end
def Rds {α : Type} (P : Program) (ts : List TypeId) (A : El α) (Q : α → Prop) : Prop :=
  ∀ (H : Type) (enc : TypeId × Value → H) (w : World) (base : Nat) (spare : Nat → Bool) (held : Bool) (fuel : Nat) (cs : List Value),
    Cut enc P w base spare held fuel ts cs → ∃ a, Q a ∧ SV.fits 0 (wh w) (A.cells a) cs
section
variable {P : Program} {t e : TypeId} {α β : Type} {A : El α} {B : El β} {Q : α → Prop} {Q' : β → Prop}
theorem rds_one (h : Rd P t A Q) : Rds P [t] A Q := fun H enc w base spare held fuel cs hc => by
  obtain ⟨⟨x, hx⟩, hd⟩ := hc
  have hd : cs.drop (P.cellsOf t) = [] := hd
  have h2 := List.take_append_drop (P.cellsOf t) cs
  rw [hd, List.append_nil] at h2
  rw [h2] at hx
  exact h H enc w base spare held fuel cs x hx
theorem rds_cons {ts : List TypeId} (h : Rd P t A Q) (h' : Rds P ts B Q') : Rds P (t :: ts) (.pair A B) (fun a => Q a.1 ∧ Q' a.2) := fun H enc w base spare held fuel cs hc => by
  obtain ⟨⟨x, hx⟩, hd⟩ := hc
  obtain ⟨a, qa, fa⟩ := h H enc w base spare held fuel _ x hx
  obtain ⟨b, qb, fb⟩ := h' H enc w base spare held fuel _ hd
  refine ⟨(a, b), ⟨qa, qb⟩, ?_⟩
  have := fits_append fa fb
  rwa [List.take_append_drop] at this
theorem rd_iso (h : Rd P t A Q) (f : α → β) (g : β → α) (hfg : ∀ b, f (g b) = b) (hgf : ∀ a, g (f a) = a) : Rd P t (A.iso f g hfg hgf) (fun b => Q (g b)) := fun H enc w base spare held fuel cs x hx => by
  obtain ⟨a, qa, fa⟩ := h H enc w base spare held fuel cs x hx
  refine ⟨f a, (show Q (g (f a)) by rwa [hgf]), ?_⟩
  show SV.fits 0 _ (A.cells (g (f a))) cs
  rwa [hgf]
theorem rd_int {k : IntKind} (ht : P.underlying t = some (.int k)) : Rd P t (eInt k) (fun n => (Lit.int k n).wf = true) := fun H enc w base spare held fuel cs x hx => by
  obtain ⟨n, rfl, _, hw⟩ := DataW.trod_int ht hx
  exact ⟨n, hw, by simp [eInt, El.one', dInt, SV.fits, SV.fit]⟩
theorem rd_struct {fs : Array Field} {ts : List TypeId} (ht : P.underlying t = some (.struct fs)) (hts : fs.toList.map (·.type) = ts) (hc : consec P 0 (fs.toList.map fun f => (f.offset, f.type)) (P.cellsOf t) = true) (h : Rds P ts A Q) : Rd P t A Q := fun H enc w base spare held fuel cs x hx => by
  obtain ⟨xs, n, rfl, _, hl, hxl, hf⟩ := DataW.trod_struct ht hx
  rw [← hl] at hc
  have := cut_of enc P w base spare held n cs _ 0 hc fun p hp => by
    obtain ⟨f, hfm, rfl⟩ := List.mem_map.1 hp
    obtain ⟨i, hi, rfl⟩ := List.getElem_of_mem hfm
    have hi' : i < fs.size := by simpa using hi
    have := hf i fs[i] (by simp [hi'])
    exact ⟨xs[i]'(by omega), by simpa [hxl, hi'] using this⟩
  rw [List.map_map, List.drop_zero] at this
  refine h H enc w base spare held n cs ?_
  rw [← hts]
  exact this
theorem rd_array {n : Nat} {ts : List TypeId} (ht : P.underlying t = some (.array n e)) (hts : ((List.range n).map fun _ => e) = ts) (hc : consec P 0 ((List.range n).map fun i => (i * P.cellsOf e, e)) (P.cellsOf t) = true) (h : Rds P ts A Q) : Rd P t A Q := fun H enc w base spare held fuel cs x hx => by
  obtain ⟨xs, m, rfl, _, hl, hxl, hf⟩ := DataW.trod_array ht hx
  rw [← hl] at hc
  have := cut_of enc P w base spare held m cs _ 0 hc fun p hp => by
    obtain ⟨i, hi, rfl⟩ := List.mem_map.1 hp
    have hi' : i < n := by simpa using hi
    have := hf i hi'
    exact ⟨xs[i]'(by omega), by rw [this]; simp [hxl, hi']⟩
  rw [List.map_map, List.drop_zero] at this
  refine h H enc w base spare held m cs ?_
  rw [← hts]
  exact this
end
/-- An argument is plain data. -/
def RdV {α : Type} (P : Program) (t : TypeId) (D : Dv α) (Q : α → Prop) : Prop :=
  ∀ (H : Type) (enc : TypeId × Value → H) (w : World) (base : Nat) (spare : Nat → Bool) (held : Bool) (r : Reach) (b0 : Nat) (v : Value) (d : DataW H) (ps : List MemPlace),
    Value.okWide P w r b0 t v → DataW.Trod enc P w base spare held t v d ps → ∃ a, Q a ∧ (D.enc a).fit 0 (wh w) v
section
variable {P : Program} {t e : TypeId} {α β : Type} {A : El α} {Q : α → Prop}
theorem rdv_int {k : IntKind} (ht : P.underlying t = some (.int k)) : RdV P t (dInt k) (fun n => (Lit.int k n).wf = true) := fun H enc w base spare held r b0 v d ps hv hx => by
  obtain ⟨n, rfl, _, _, hw⟩ := open_int ht hv hx
  exact ⟨n, hw, by simp [dInt, SV.fit]⟩
theorem rdv_struct {fs : Array Field} (ht : P.underlying t = some (.struct fs)) (h : Rd P t A Q) : RdV P t (.agg A) Q := fun H enc w base spare held r b0 v d ps hv hx => by
  obtain ⟨cs, rfl, _⟩ := okWide_struct ht hv
  obtain ⟨fuel, hf⟩ := hx
  obtain ⟨a, qa, fa⟩ := h H enc w base spare held fuel _ _ hf
  exact ⟨a, qa, cs.toList, by simp, by simpa [Value.cells] using fa⟩
theorem rdv_slice (ht : P.underlying t = some (.slice e)) (hs : P.cellsOf e = A.sz) (hz : 0 < A.sz) (h : Rd P e A Q) : RdV P t (.list A) (fun xs => ∀ a ∈ xs, Q a) := fun H enc w base spare held r b0 v d ps hv hx => by
  obtain ⟨a0, len0, cap0, rfl⟩ := okWide_slice ht hv
  obtain ⟨fuel, hf⟩ := hx
  rcases open_slice ht hf with ⟨hcs, _⟩ | ⟨a, len, cap, m, n, D, Pl, hcs, hb, hl, hm, hmm, _, hel⟩
  · simp [Value.cells] at hcs
    obtain ⟨rfl, rfl, rfl⟩ := hcs
    exact ⟨[], by simp, rs_nil _ _⟩
  · simp [Value.cells] at hcs
    obtain ⟨rfl, rfl, rfl⟩ := hcs
    have hle : len0 ≤ m := by subst hmm; split <;> omega
    have key : ∀ i, i < len0 → ∃ x : α, Q x ∧ ∃ cs', cs'.length = A.sz ∧ SV.fits 0 (wh w) (A.cells x) cs' ∧ ∀ j, j < A.sz → w.cell? ((a.add (i * A.sz)).add j) = cs'[j]? := fun i hi => by
      obtain ⟨cs', h1, h2⟩ := hel i (by omega)
      obtain ⟨x, qx, fx⟩ := h H enc w base spare held n cs' _ h2
      rw [hs] at h1
      obtain ⟨_, h3, h4⟩ := World.cells?_some h1
      exact ⟨x, qx, cs', h3, fx, h4⟩
    haveI : Inhabited α := ⟨A.dflt⟩
    obtain ⟨f, hf⟩ := choose_lt (α := α) (fun i hi => key i hi)
    refine ⟨(List.range len0).map f, ?_, ?_⟩
    · intro x hx
      obtain ⟨i, hi, rfl⟩ := List.mem_map.1 hx
      exact (hf i (by simpa using hi)).1
    · simp only [Dv.list, SV.fit]
      refine ⟨some a, cap0, by simp, by simpa using hl, hm, fun hpos => ?_⟩
      have hpos : 0 < len0 := by simpa using hpos
      obtain ⟨_, cs0, q1, q2, q3⟩ := hf 0 hpos
      have q4 := q3 0 hz
      obtain ⟨b, o, spot⟩ := a
      have hsome : ∃ v0, cs0[0]? = some v0 := ⟨cs0[0]'(by omega), by simp⟩
      obtain ⟨v0, hv0⟩ := hsome
      rw [hv0] at q4
      have hspot : spot = none := by simpa [Addr.add] using World.cell?_spot q4
      subst hspot
      have hblk : ∃ cs t fz, w.heap[b]? = some (.cells cs t fz) := by
        simp only [add_none, World.cell?] at q4
        split at q4
        · rename_i c _ _ hh
          exact ⟨_, _, _, hh⟩
        · cases q4
      obtain ⟨cs, t', fz, hh⟩ := hblk
      refine ⟨b, o, cs, t', fz, rfl, hh, fun i hi => ?_⟩
      have hi : i < len0 := by simpa using hi
      obtain ⟨_, cs', k1, k2, k3⟩ := hf i hi
      refine ⟨cs', k1, ?_, fun j v hjv => ?_⟩
      · simpa [El.els, List.getD_eq_getElem?_getD, hi] using k2
      · have hj : j < A.sz := by
          have := (List.getElem?_eq_some_iff.1 hjv).1
          omega
        have := k3 j hj
        rw [hjv] at this
        simp only [add_none, World.cell?, hh] at this
        simpa using this
end
end Go.Sx

/- Chapter 3: what the rows read of their arguments. -/
namespace Go.Proofs.Ytiipneclghnfhaa
open Go.RowKit Go.Sx
def W1 (n : Int) : Prop := (Lit.int .i64 n).wf = true
def W4 (a : I4) : Prop := W1 a.1 ∧ W1 a.2.1 ∧ W1 a.2.2.1 ∧ W1 a.2.2.2
def W6 (a : I6) : Prop := W1 a.1 ∧ W1 a.2.1 ∧ W4 a.2.2
def W8 (a : I8) : Prop := W1 a.1 ∧ W1 a.2.1 ∧ W1 a.2.2.1 ∧ W1 a.2.2.2.1 ∧ W4 a.2.2.2.2
def S.W (s : S) : Prop := W8 s.toP
def T.W (t : T) : Prop := W6 t.toP
theorem rd2 : Rd Try.prog 2 eI W1 := rd_int Try.underlying2
theorem rd3 : Rd Try.prog 3 eI W1 := rd_int Try.underlying3
theorem rd28 : Rd Try.prog 28 e4 W4 := rd_array (ts := [2, 2, 2, 2]) Try.underlying28 rfl (by kernel_rfl) (rds_cons rd2 (rds_cons rd2 (rds_cons rd2 (rds_one rd2))))
theorem rd30 : Rd Try.prog 30 eT T.W := rd_iso (Q := W6) (rd_struct (ts := [2, 3, 28]) Try.underlying30 rfl (by kernel_rfl) (rds_cons rd2 (rds_cons rd3 (rds_one rd28)))) _ _ _ _
theorem rdvT : RdV Try.prog 30 dT T.W := rdv_struct Try.underlying30 rd30
theorem rdvLT : RdV Try.prog 22 dLT (fun l => ∀ s ∈ l, T.W s) := rdv_slice Try.underlying22 (by kernel_rfl) (by decide) rd30
end Go.Proofs.Ytiipneclghnfhaa

/- The row of ChainTwoSaid, from the law's contract. Printed by rowgen.py. -/
namespace Go.Proofs.Ytiipneclghnfhaa
open Go.ChangeShapes Go.WideShapes Go.ChangeAt Go.RowKit Go.Sx

theorem Try.own : ownKnob Try.prog.godebug = none := by kernel_rfl
theorem Try.laidOut : laidOutB Try.prog = true := by kernel_rfl
set_option maxRecDepth 100000 in
theorem chainTwo_lifted (law : FnPure Try.prog 10 aLLT dBool (fun _ => true) (fun _ => [])) (os : Os) (started : os.Started) (H : Type) (enc : TypeId × Value → H) :
    ReturnsInHanded {} Try.checked os 10 .any (Rows.chainTwoSpec.pre6 enc Try.prog Try.f10 Rows.chainTwoRow.domain false) (Rows.chainTwoSpec.post enc Try.prog Try.f10 false true false false) := by
  refine returnsInHanded_of_change (C := Try.checked) Try.own started (by kernel_rfl) Try.func10
    (ChangeSpec.witness6 (enc := enc) (C := Try.checked) false ⟨#[], #[.slice none 0 0, .slice none 0 0, .agg #[.int .i64 0, .int .i64 0, .int .i64 0, .int .i64 0, .int .i64 0, .int .i64 0]], []⟩ 8 (by kernel_rfl) (by kernel_rfl) (by kernel_rfl) (by kernel_rfl)) ?_
  intro W base args ds gs before hval0 hW hcnd _
  have hval : ∀ (j : Nat) t v, Try.f10.params[j]? = some t → args[j]? = some v → Value.okWide Try.prog W .any base t v := hval0
  have hW' := hW
  obtain ⟨p, q, hA0, hV, rfl, hfz, hnd⟩ := hW
  have hA : DataW.TrodAll enc Try.prog W 0 (fun _ => true) true Try.f10.params.toList args.toList ds p := hA0
  rw [Try.params10] at hA hval
  obtain ⟨v0, vs0, d0, ds0, p0, qq0, hargs, rfl, rfl, h0, r0⟩ := trodAll_cons hA
  obtain ⟨v1, vs1, d1, ds1, p1, qq1, rfl, rfl, rfl, h1, r1⟩ := trodAll_cons r0
  obtain ⟨v2, vs2, d2, ds2, p2, qq2, rfl, rfl, rfl, h2, r2⟩ := trodAll_cons r1
  obtain ⟨rfl, rfl, rfl⟩ := trodAll_nil r2
  obtain rfl : args = #[v0, v1, v2] := by cases args; simp_all
  obtain ⟨rfl, rfl⟩ := trodVars_none hV
  obtain ⟨a0, q0, f0⟩ := rdvLT _ _ _ _ _ _ _ _ _ _ _ (hval 0 22 v0 rfl rfl) h0
  obtain ⟨a1, q1, f1⟩ := rdvLT _ _ _ _ _ _ _ _ _ _ _ (hval 1 22 v1 rfl rfl) h1
  obtain ⟨a2, q2, f2⟩ := rdvT _ _ _ _ _ _ _ _ _ _ _ (hval 2 30 v2 rfl rfl) h2
  have lt : ∀ {t : TypeId} {v : Value} {d : DataW H} {ps : List MemPlace}, DataW.Trod enc Try.prog W 0 (fun _ => true) true t v d ps → ∀ x ∈ ps, x.block < W.heap.size := by
    rintro t v d ps ⟨m, hm⟩
    exact DataW.trod_lt m _ _ _ hm
  clear hA0 hval0
  refine (law W (fun b => W.heap[b]?) (a0, a1, a2) [v0, v1, v2] (fun _ _ h => h) (by simp) ⟨f0, f1, f2, trivial⟩).mono fun e W' ⟨x, he, bel, hx⟩ => ?_
  obtain rfl : x = .bool true := by simpa [dBool, SV.fit] using hx
  subst he
  exact ⟨_, rfl, _, _, _, [], _, [], hW', trodAll_mk1 (shut_bool Try.underlying4 _),
    (trodAll_cons_mk (Below.trod Try.laidOut (by kernel_rfl) (of_decide_eq_true (by kernel_rfl)) h0 bel (lt h0))
    (trodAll_cons_mk (Below.trod Try.laidOut (by kernel_rfl) (of_decide_eq_true (by kernel_rfl)) h1 bel (lt h1))
    (trodAll_cons_mk (Below.trod Try.laidOut (by kernel_rfl) (of_decide_eq_true (by kernel_rfl)) h2 bel (lt h2)) trodAll_mk0))), rfl, bel.frame _, fun h => by cases h⟩

theorem chainTwo_over (law : FnPure Try.prog 10 aLLT dBool (fun _ => true) (fun _ => [])) : Rows.ChainTwoSaid :=
  OpenClaim.holds_of_wide 10 Try.f10 rfl rfl rfl rfl rfl rfl rfl ⟨rfl, rfl, rfl, rfl, rfl⟩ rfl rfl rfl rfl rfl (by kernel_rfl) Try.func10 (by kernel_rfl)
    (of_decide_eq_true (by kernel_rfl)) (by unfold Func.isWrapper; first | (rw [if_pos (by decide +kernel)]; kernel_rfl) | (rw [if_neg (by decide +kernel)]; exact ⟨rfl, rfl⟩))
    (fun os started H enc _ => chainTwo_lifted law os started H enc)
end Go.Proofs.Ytiipneclghnfhaa

/- The law ChainTwo of chapter 3 is proved: for every input the function returns true, and its arguments read as they did. No condition. -/
namespace Go.Proofs.Ytiipneclghnfhaa
open Go.RowKit Go.Sx
theorem chainTwo_holds : Rows.ChainTwoSaid := chainTwo_over two3_ok
end Go.Proofs.Ytiipneclghnfhaa
