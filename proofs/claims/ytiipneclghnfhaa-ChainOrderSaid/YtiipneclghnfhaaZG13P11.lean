/- Chapter 3: chain.Join. Printed by treegen.py. -/
import Derived.Test.YtiipneclghnfhaaZG12485457
import Derived.Test.YtiipneclghnfhaaZG060938f8
import Derived.ProofKit
import Derived.OpenShut
import Derived.ShutString
import Derived.ChangeOld
import Derived.Below
import Derived.Deep.Slices
import Derived.Test.YtiipneclghnfhaaZG07bf668d
import Derived.Test.YtiipneclghnfhaaZG10bd5372
set_option linter.unusedVariables false
set_option linter.unusedSimpArgs false
set_option linter.constructorNameAsVariable false
set_option linter.all false

namespace Go.Proofs.Ytiipneclghnfhaa
open Go.RowKit Go.Sx
set_option maxRecDepth 100000
set_option linter.unusedVariables false
noncomputable def cjn_q1 (xs : List T) (ys : List T) : Ex ×
  jo_G :=
  loopF (fun g => jo_R g.fst g.snd.fst g.snd.snd.fst g.snd.snd.snd.fst g.snd.snd.snd.snd.fst g.snd.snd.snd.snd.snd.fst g.snd.snd.snd.snd.snd.snd) jo_M (eT.lst xs.length (eT.els xs), (↑xs.length : Int), (0 : Int), eT.lst ys.length (eT.els ys), [], (), (0 : Int))
noncomputable def cjn_F (xs : List T) (ys : List T) : Dv.T dLE :=
  bif bothC (eT.lst xs.length (eT.els xs)) (eT.lst ys.length (eT.els ys)) != (0 : Int) then ([], bothC (eT.lst xs.length (eT.els xs)) (eT.lst ys.length (eT.els ys)))
  else bif exB Ex.ret (cjn_q1 xs ys).fst then ([], (cjn_q1 xs ys).snd.snd.snd.snd.snd.snd.snd) else (eT.lst (ofC (eT.lst (cjn_q1 xs ys).snd.snd.snd.snd.snd.fst.length (eT.els (cjn_q1 xs ys).snd.snd.snd.snd.snd.fst))).fst.length (eT.els (ofC (eT.lst (cjn_q1 xs ys).snd.snd.snd.snd.snd.fst.length (eT.els (cjn_q1 xs ys).snd.snd.snd.snd.snd.fst))).fst), (ofC (eT.lst (cjn_q1 xs ys).snd.snd.snd.snd.snd.fst.length (eT.els (cjn_q1 xs ys).snd.snd.snd.snd.snd.fst))).snd)
def cjn_side (xs : List T) (ys : List T) : Prop :=
  (∀ (e : Nat), e < xs.length → eT.Ok (eT.els xs e)) ∧ (∀ (e : Nat), e < ys.length → eT.Ok (eT.els ys e)) ∧ ((bothC (eT.lst xs.length (eT.els xs)) (eT.lst ys.length (eT.els ys)) != (0 : Int)) = false → (∀ (e : Nat), e < xs.length → eT.Ok (eT.els xs e)) ∧ (∀ (e : Nat), e < ys.length → eT.Ok (eT.els ys e)) ∧ Lp.ixJ (fun c => c.snd.fst) (fun c => c.fst) jo_K (jo_f (eT.lst xs.length (eT.els xs), (↑xs.length : Int), (0 : Int), eT.lst ys.length (eT.els ys), [], (), (0 : Int))) ∧ (exB Ex.ret (cjn_q1 xs ys).fst = false → (cjn_q1 xs ys).snd.snd.snd.snd.snd.fst.length ≤ (cjn_q1 xs ys).snd.snd.snd.snd.snd.fst.length ∧ (∀ (e : Nat), e < (cjn_q1 xs ys).snd.snd.snd.snd.snd.fst.length → True) ∧ (eT.lst (cjn_q1 xs ys).snd.snd.snd.snd.snd.fst.length (eT.els (cjn_q1 xs ys).snd.snd.snd.snd.snd.fst)).length ≤ KS ∧ ∀ (e : Nat), e < (ofC (eT.lst (cjn_q1 xs ys).snd.snd.snd.snd.snd.fst.length (eT.els (cjn_q1 xs ys).snd.snd.snd.snd.snd.fst))).fst.length → eT.Ok (eT.els (ofC (eT.lst (cjn_q1 xs ys).snd.snd.snd.snd.snd.fst.length (eT.els (cjn_q1 xs ys).snd.snd.snd.snd.snd.fst))).fst e)))
theorem cjn_okS (pre : DA.T aLL → List Prop) (h : ∀ g, DA.bd aLL g → (∀ p ∈ pre g, p) → cjn_side g.1 g.2) : FnPure Try.prog 51 aLL dLE (fun g => cjn_F g.1 g.2) pre := pure_of_sideS (Γ := (MTab.gamz tabC [] [])) (Λ := lamG2) (MTab.okz tabC [] []) lamG2_ok 100 default (fun g => cjn_side g.1 g.2) (fun g => by kernel_rfl) (fun g => by kernel_rfl) h
noncomputable def tabXF6 : MTab Try.prog := tabC
end Go.Proofs.Ytiipneclghnfhaa

/- Chapter 3: chain.Join: its contract; what is joined covers what both do. -/
namespace Go.Proofs.Ytiipneclghnfhaa
open Go.RowKit Go.Sx Go.Lp
theorem both_iff {xs ys : List T} (h : bothC xs ys = 0) : chkC xs = 0 ∧ chkC ys = 0 ∧ ∀ x ∈ xs, ∀ y ∈ ys, x.d = y.d := by
  unfold bothC at h
  by_cases h1 : chkC xs = 0
  · by_cases h2 : chkC ys = 0
    · refine ⟨h1, h2, ?_⟩
      have b1 := ((bad_iff xs).1 ((chk_iff xs).1 h1).2.1).2
      have b2 := ((bad_iff ys).1 ((chk_iff ys).1 h2).2.1).2
      simp only [h1, h2, bne_self_eq_false, cond_false] at h
      intro x hx y hy
      cases xs with
      | nil => cases hx
      | cons p r =>
        cases ys with
        | nil => cases hy
        | cons q s =>
          have hpq : p.d = q.d := by
            have l1 : ((p :: r).length : Int) > 0 := by simp only [List.length_cons]; omega
            have l2 : ((q :: s).length : Int) > 0 := by simp only [List.length_cons]; omega
            simp only [l1, l2, decide_true, Bool.true_and, List.getD_cons_zero] at h
            by_cases hd : p.d = q.d
            · exact hd
            · have : (p.d != q.d) = true := by simpa using hd
              rw [this] at h
              simp at h
          rw [b1 x hx p (List.mem_cons_self ..), b2 y hy q (List.mem_cons_self ..), hpq]
    · have : (chkC ys != 0) = true := by simpa using h2
      simp only [h1, bne_self_eq_false, cond_false, this, cond_true] at h
      exact absurd h h2
  · have : (chkC xs != 0) = true := by simpa using h1
    simp only [this, cond_true] at h
    exact absurd h h1
theorem jmax_eq (a b : Int) : jmax_F a b = max a b := by
  show (if b > a then b else a) = max a b
  rw [Int.max_def]
  split <;> split <;> omega
theorem jn_eq {x y : T} (hx : x.Ok) (hy : y.Ok) (hd : x.d = y.d) : tjoin_F x y = (⟨max x.e y.e, x.d, max x.l0 y.l0, max x.l1 y.l1, max x.l2 y.l2, max x.l3 y.l3⟩, 0) := by
  unfold tjoin_F
  simp only [(tcheck_iff x).2 hx, (tcheck_iff y).2 hy, hd, bne_self_eq_false, Bool.or_false, cond_false, jmax_eq]
theorem jn_Ok {x y : T} (hx : x.Ok) (hy : y.Ok) (hd : x.d = y.d) : (jnT x y).Ok ∧ (jnT x y).d = x.d := by
  unfold jnT
  rw [jn_eq hx hy hd]
  unfold T.Ok at *
  refine ⟨?_, rfl⟩
  simp only
  omega
theorem jn_le {x y : T} (hx : x.Ok) (hy : y.Ok) (hd : x.d = y.d) (t : T) : tleq_F (jnT x y) t = (tleq_F x t && tleq_F y t) := by
  have ho := (jn_Ok hx hy hd).1
  unfold jnT at *
  rw [jn_eq hx hy hd] at *
  rw [Bool.eq_iff_iff, Bool.and_eq_true, tleq_iff, tleq_iff, tleq_iff]
  simp only at *
  constructor
  · rintro ⟨_, h2, h3, h4, h5, h6, h7, h8⟩
    exact ⟨⟨hx, h2, h3, by omega, by omega, by omega, by omega, by omega⟩, hy, h2, by omega, by omega, by omega, by omega, by omega, by omega⟩
  · rintro ⟨⟨_, h2, h3, h4, h5, h6, h7, h8⟩, _, k2, k3, k4, k5, k6, k7, k8⟩
    exact ⟨ho, h2, h3, by omega, by omega, by omega, by omega, by omega⟩
noncomputable def joinC (xs ys : List T) : List T × Int := bif bothC xs ys != 0 then ([], bothC xs ys) else ofC (joins jnT xs ys)
theorem both_jn {xs ys : List T} (h : bothC xs ys = 0) : ∀ x ∈ xs, ∀ y ∈ ys, x.Ok ∧ y.Ok ∧ x.d = y.d := by
  obtain ⟨h1, h2, h3⟩ := both_iff h
  exact fun x hx y hy => ⟨((bad_iff xs).1 ((chk_iff xs).1 h1).2.1).1 x hx, ((bad_iff ys).1 ((chk_iff ys).1 h2).2.1).1 y hy, h3 x hx y hy⟩
theorem joins_len (xs ys : List T) : (joins jnT xs ys).length = xs.length * ys.length := by
  unfold joins
  induction xs with
  | nil => simp
  | cons x r ih => rw [List.flatMap_cons, List.length_append, ih, List.length_map, List.length_cons, Nat.add_mul, Nat.one_mul, Nat.add_comm]
theorem cjn_eq (xs ys : List T) (k1 : xs.length ≤ 1000) (k2 : ys.length ≤ 1000) : cjn_F xs ys = joinC xs ys ∧ cjn_side xs ys := by
  unfold cjn_F cjn_side joinC
  simp only [eT.lst_els]
  cases hb : (bothC xs ys != 0) with
  | true => exact ⟨rfl, okT xs, okT ys, fun h => by cases h⟩
  | false =>
    have hb0 : bothC xs ys = 0 := bne_eq_false_iff_eq.1 hb
    have hj : ∀ x ∈ xs, ∀ y ∈ ys, (tjoin_F x y).2 = 0 := fun x hx y hy => by
      obtain ⟨a, b, c⟩ := both_jn hb0 x hx y hy
      rw [jn_eq a b c]
    have h1 := jo_run xs ys hj (by omega) (by omega)
    have hq : cjn_q1 xs ys = (.exit 0, xs, (xs.length : Int), (xs.length : Int), ys, joins jnT xs ys, (), 0) := by
      unfold cjn_q1
      simp only [eT.lst_els]
      exact h1
    rw [hq]
    simp only [eT.lst_els, cond_false]
    have hk : (joins jnT xs ys).length ≤ KS := by
      rw [joins_len]
      unfold KS
      exact Nat.mul_le_mul k1 k2
    refine ⟨rfl, okT xs, okT ys, fun _ => ⟨okT xs, okT ys, ?_, fun _ => ⟨Nat.le_refl _, fun _ _ => trivial, hk, okT _⟩⟩⟩
    exact ixJ0 (lim := fun c : jo_GC => c.2.1) (xs := fun c : jo_GC => c.1) (P := jo_K) (c := (xs, (xs.length : Int), ys)) (b := ([], (), 0)) rfl (by unfold maxLen; show xs.length ≤ _; omega) ⟨hj, by show xs.length ≤ _; omega, by show ys.length ≤ _; omega, by show (0 : Int) ≤ 2000 * 0; omega⟩
theorem cjn_ok : FnPure Try.prog 51 aLL dLE (fun g => joinC g.1 g.2) (fun g => [g.1.length ≤ 1000, g.2.length ≤ 1000]) :=
  pure_congr (cjn_okS _ fun g _ hp => (cjn_eq g.1 g.2 (hp _ (List.mem_cons_self ..)) (hp _ (List.mem_cons_of_mem _ (List.mem_cons_self ..)))).2) fun g _ hp => (cjn_eq g.1 g.2 (hp _ (List.mem_cons_self ..)) (hp _ (List.mem_cons_of_mem _ (List.mem_cons_self ..)))).1
theorem bad_joins {xs ys : List T} (h : bothC xs ys = 0) : badC (joins jnT xs ys) = 0 := by
  have hk := both_jn h
  obtain ⟨h1, h2, h3⟩ := both_iff h
  have b1 := ((bad_iff xs).1 ((chk_iff xs).1 h1).2.1).2
  refine (bad_iff _).2 ⟨fun z hz => ?_, fun z hz w hw => ?_⟩
  · simp only [joins, List.mem_flatMap, List.mem_map] at hz
    obtain ⟨x, hx, y, hy, rfl⟩ := hz
    obtain ⟨a, b, c⟩ := hk x hx y hy
    exact (jn_Ok a b c).1
  · simp only [joins, List.mem_flatMap, List.mem_map] at hz hw
    obtain ⟨x, hx, y, hy, rfl⟩ := hz
    obtain ⟨x', hx', y', hy', rfl⟩ := hw
    obtain ⟨a, b, c⟩ := hk x hx y hy
    obtain ⟨a', b', c'⟩ := hk x' hx' y' hy'
    rw [(jn_Ok a b c).2, (jn_Ok a' b' c').2, b1 x hx x' hx']
theorem bad_app {xs ys : List T} (h : bothC xs ys = 0) : badC (xs ++ ys) = 0 := by
  obtain ⟨h1, h2, h3⟩ := both_iff h
  have b1 := (bad_iff xs).1 ((chk_iff xs).1 h1).2.1
  have b2 := (bad_iff ys).1 ((chk_iff ys).1 h2).2.1
  refine (bad_iff _).2 ⟨fun z hz => ?_, fun z hz w hw => ?_⟩
  · rcases List.mem_append.1 hz with h | h
    · exact b1.1 z h
    · exact b2.1 z h
  · rcases List.mem_append.1 hz with h | h <;> rcases List.mem_append.1 hw with h' | h'
    · exact b1.2 z h w h'
    · exact h3 z h w h'
    · exact (h3 w h' z h).symm
    · exact b2.2 z h w h'
theorem meet_ok {xs ys : List T} (h : (meetC xs ys).2 = 0) : bothC xs ys = 0 ∧ (meetC xs ys).1 = minsT (xs ++ ys) := by
  unfold meetC at *
  by_cases hb : bothC xs ys = 0
  · simp only [hb, bne_self_eq_false, cond_false] at h ⊢
    exact ⟨trivial, of_eq h⟩
  · have : (bothC xs ys != 0) = true := by simpa using hb
    simp only [this, cond_true] at h
    exact absurd h hb
theorem join_ok {xs ys : List T} (h : (joinC xs ys).2 = 0) : bothC xs ys = 0 ∧ (joinC xs ys).1 = minsT (joins jnT xs ys) := by
  unfold joinC at *
  by_cases hb : bothC xs ys = 0
  · simp only [hb, bne_self_eq_false, cond_false] at h ⊢
    exact ⟨trivial, of_eq h⟩
  · have : (bothC xs ys != 0) = true := by simpa using hb
    simp only [this, cond_true] at h
    exact absurd h hb
theorem meet_cov {xs ys : List T} (h : (meetC xs ys).2 = 0) (t : T) : (meetC xs ys).1.any (tleq_F · t) = (xs.any (tleq_F · t) || ys.any (tleq_F · t)) := by
  rw [(meet_ok h).2, cov_minsT, List.any_append]
theorem join_cov {xs ys : List T} (h : (joinC xs ys).2 = 0) (t : T) : (joinC xs ys).1.any (tleq_F · t) = (xs.any (tleq_F · t) && ys.any (tleq_F · t)) := by
  rw [(join_ok h).2, cov_minsT]
  refine joins_cover (fun x hx y hy t => ?_) t
  obtain ⟨a, b, c⟩ := both_jn (join_ok h).1 x hx y hy
  exact jn_le a b c t
noncomputable def tabG : MTab Try.prog := (tabC.cons 50 (pconR aLL dLE (fun g => meetC g.1 g.2) (fun _ => [])) (conR_ok cmt_ok)).cons 51 (pconR aLL dLE (fun g => joinC g.1 g.2) (fun g => [g.1.length ≤ 1000, g.2.length ≤ 1000])) (conR_ok cjn_ok)
end Go.Proofs.Ytiipneclghnfhaa

/- Chapter 3: the law ChainOrder. Printed by treegen.py. -/
namespace Go.Proofs.Ytiipneclghnfhaa
open Go.RowKit Go.Sx
set_option maxRecDepth 100000
set_option linter.unusedVariables false
abbrev aLLL : DA (List T × List T × List T) := .cons dLT (.cons dLT (.one dLT))
noncomputable def odr_F (xs : List T) (ys : List T) (zs : List T) : Dv.T dBool :=
  bif decide ((↑xs.length : Int) > (40 : Int)) then true
  else bif decide ((↑ys.length : Int) > (40 : Int)) then true else bif decide ((↑zs.length : Int) > (40 : Int)) then true else bif chkC (eT.lst xs.length (eT.els xs)) != (0 : Int) || (chkC (eT.lst ys.length (eT.els ys)) != (0 : Int) || chkC (eT.lst zs.length (eT.els zs)) != (0 : Int)) then true else bif !leqC (eT.lst xs.length (eT.els xs)) (eT.lst xs.length (eT.els xs)) || bif leqC (eT.lst xs.length (eT.els xs)) (eT.lst ys.length (eT.els ys)) then bif leqC (eT.lst ys.length (eT.els ys)) (eT.lst xs.length (eT.els xs)) then !decide (eT.lst xs.length (eT.els xs) = eT.lst ys.length (eT.els ys)) || leqC (eT.lst xs.length (eT.els xs)) (eT.lst ys.length (eT.els ys)) && (leqC (eT.lst ys.length (eT.els ys)) (eT.lst zs.length (eT.els zs)) && !leqC (eT.lst xs.length (eT.els xs)) (eT.lst zs.length (eT.els zs))) else leqC (eT.lst xs.length (eT.els xs)) (eT.lst ys.length (eT.els ys)) && (leqC (eT.lst ys.length (eT.els ys)) (eT.lst zs.length (eT.els zs)) && !leqC (eT.lst xs.length (eT.els xs)) (eT.lst zs.length (eT.els zs))) else leqC (eT.lst xs.length (eT.els xs)) (eT.lst ys.length (eT.els ys)) && (leqC (eT.lst ys.length (eT.els ys)) (eT.lst zs.length (eT.els zs)) && !leqC (eT.lst xs.length (eT.els xs)) (eT.lst zs.length (eT.els zs))) then false else bif (meetC (eT.lst xs.length (eT.els xs)) (eT.lst ys.length (eT.els ys))).snd != (0 : Int) || (joinC (eT.lst xs.length (eT.els xs)) (eT.lst ys.length (eT.els ys))).snd != (0 : Int) then true else bif leqC (eT.lst zs.length (eT.els zs)) (eT.lst xs.length (eT.els xs)) then leqC (eT.lst zs.length (eT.els zs)) (eT.lst ys.length (eT.els ys)) == leqC (eT.lst zs.length (eT.els zs)) (eT.lst (meetC (eT.lst xs.length (eT.els xs)) (eT.lst ys.length (eT.els ys))).fst.length (eT.els (meetC (eT.lst xs.length (eT.els xs)) (eT.lst ys.length (eT.els ys))).fst)) && bif leqC (eT.lst xs.length (eT.els xs)) (eT.lst zs.length (eT.els zs)) then leqC (eT.lst ys.length (eT.els ys)) (eT.lst zs.length (eT.els zs)) == leqC (eT.lst (joinC (eT.lst xs.length (eT.els xs)) (eT.lst ys.length (eT.els ys))).fst.length (eT.els (joinC (eT.lst xs.length (eT.els xs)) (eT.lst ys.length (eT.els ys))).fst)) (eT.lst zs.length (eT.els zs)) else false == leqC (eT.lst (joinC (eT.lst xs.length (eT.els xs)) (eT.lst ys.length (eT.els ys))).fst.length (eT.els (joinC (eT.lst xs.length (eT.els xs)) (eT.lst ys.length (eT.els ys))).fst)) (eT.lst zs.length (eT.els zs)) else false == leqC (eT.lst zs.length (eT.els zs)) (eT.lst (meetC (eT.lst xs.length (eT.els xs)) (eT.lst ys.length (eT.els ys))).fst.length (eT.els (meetC (eT.lst xs.length (eT.els xs)) (eT.lst ys.length (eT.els ys))).fst)) && bif leqC (eT.lst xs.length (eT.els xs)) (eT.lst zs.length (eT.els zs)) then leqC (eT.lst ys.length (eT.els ys)) (eT.lst zs.length (eT.els zs)) == leqC (eT.lst (joinC (eT.lst xs.length (eT.els xs)) (eT.lst ys.length (eT.els ys))).fst.length (eT.els (joinC (eT.lst xs.length (eT.els xs)) (eT.lst ys.length (eT.els ys))).fst)) (eT.lst zs.length (eT.els zs)) else false == leqC (eT.lst (joinC (eT.lst xs.length (eT.els xs)) (eT.lst ys.length (eT.els ys))).fst.length (eT.els (joinC (eT.lst xs.length (eT.els xs)) (eT.lst ys.length (eT.els ys))).fst)) (eT.lst zs.length (eT.els zs))
def odr_side (xs : List T) (ys : List T) (zs : List T) : Prop :=
  (!true) = false → decide ((↑xs.length : Int) > (40 : Int)) = false → decide ((↑ys.length : Int) > (40 : Int)) = false → decide ((↑zs.length : Int) > (40 : Int)) = false → (∀ (e : Nat), e < xs.length → eT.Ok (eT.els xs e)) ∧ ((!chkC (eT.lst xs.length (eT.els xs)) != (0 : Int)) = true → ∀ (e : Nat), e < ys.length → eT.Ok (eT.els ys e)) ∧ ((!chkC (eT.lst xs.length (eT.els xs)) != (0 : Int)) = true → (!chkC (eT.lst ys.length (eT.els ys)) != (0 : Int)) = true → ∀ (e : Nat), e < zs.length → eT.Ok (eT.els zs e)) ∧ ((chkC (eT.lst xs.length (eT.els xs)) != (0 : Int) || (chkC (eT.lst ys.length (eT.els ys)) != (0 : Int) || chkC (eT.lst zs.length (eT.els zs)) != (0 : Int))) = false → (∀ (e : Nat), e < xs.length → eT.Ok (eT.els xs e)) ∧ (∀ (e : Nat), e < xs.length → eT.Ok (eT.els xs e)) ∧ ((!!leqC (eT.lst xs.length (eT.els xs)) (eT.lst xs.length (eT.els xs))) = true → ∀ (e : Nat), e < xs.length → eT.Ok (eT.els xs e)) ∧ ((!!leqC (eT.lst xs.length (eT.els xs)) (eT.lst xs.length (eT.els xs))) = true → ∀ (e : Nat), e < ys.length → eT.Ok (eT.els ys e)) ∧ ((!!leqC (eT.lst xs.length (eT.els xs)) (eT.lst xs.length (eT.els xs))) = true → leqC (eT.lst xs.length (eT.els xs)) (eT.lst ys.length (eT.els ys)) = true → ∀ (e : Nat), e < ys.length → eT.Ok (eT.els ys e)) ∧ ((!!leqC (eT.lst xs.length (eT.els xs)) (eT.lst xs.length (eT.els xs))) = true → leqC (eT.lst xs.length (eT.els xs)) (eT.lst ys.length (eT.els ys)) = true → ∀ (e : Nat), e < xs.length → eT.Ok (eT.els xs e)) ∧ ((!!leqC (eT.lst xs.length (eT.els xs)) (eT.lst xs.length (eT.els xs))) = true → leqC (eT.lst xs.length (eT.els xs)) (eT.lst ys.length (eT.els ys)) = true → leqC (eT.lst ys.length (eT.els ys)) (eT.lst xs.length (eT.els xs)) = true → ∀ (e : Nat), e < xs.length → eT.Ok (eT.els xs e)) ∧ ((!!leqC (eT.lst xs.length (eT.els xs)) (eT.lst xs.length (eT.els xs))) = true → leqC (eT.lst xs.length (eT.els xs)) (eT.lst ys.length (eT.els ys)) = true → leqC (eT.lst ys.length (eT.els ys)) (eT.lst xs.length (eT.els xs)) = true → ∀ (e : Nat), e < ys.length → eT.Ok (eT.els ys e)) ∧ ((!!leqC (eT.lst xs.length (eT.els xs)) (eT.lst xs.length (eT.els xs))) = true → leqC (eT.lst xs.length (eT.els xs)) (eT.lst ys.length (eT.els ys)) = true → leqC (eT.lst ys.length (eT.els ys)) (eT.lst xs.length (eT.els xs)) = true → (!!decide (eT.lst xs.length (eT.els xs) = eT.lst ys.length (eT.els ys))) = true → ∀ (e : Nat), e < xs.length → eT.Ok (eT.els xs e)) ∧ ((!!leqC (eT.lst xs.length (eT.els xs)) (eT.lst xs.length (eT.els xs))) = true → leqC (eT.lst xs.length (eT.els xs)) (eT.lst ys.length (eT.els ys)) = true → leqC (eT.lst ys.length (eT.els ys)) (eT.lst xs.length (eT.els xs)) = true → (!!decide (eT.lst xs.length (eT.els xs) = eT.lst ys.length (eT.els ys))) = true → ∀ (e : Nat), e < ys.length → eT.Ok (eT.els ys e)) ∧ ((!!leqC (eT.lst xs.length (eT.els xs)) (eT.lst xs.length (eT.els xs))) = true → leqC (eT.lst xs.length (eT.els xs)) (eT.lst ys.length (eT.els ys)) = true → leqC (eT.lst ys.length (eT.els ys)) (eT.lst xs.length (eT.els xs)) = true → (!!decide (eT.lst xs.length (eT.els xs) = eT.lst ys.length (eT.els ys))) = true → leqC (eT.lst xs.length (eT.els xs)) (eT.lst ys.length (eT.els ys)) = true → ∀ (e : Nat), e < ys.length → eT.Ok (eT.els ys e)) ∧ ((!!leqC (eT.lst xs.length (eT.els xs)) (eT.lst xs.length (eT.els xs))) = true → leqC (eT.lst xs.length (eT.els xs)) (eT.lst ys.length (eT.els ys)) = true → leqC (eT.lst ys.length (eT.els ys)) (eT.lst xs.length (eT.els xs)) = true → (!!decide (eT.lst xs.length (eT.els xs) = eT.lst ys.length (eT.els ys))) = true → leqC (eT.lst xs.length (eT.els xs)) (eT.lst ys.length (eT.els ys)) = true → ∀ (e : Nat), e < zs.length → eT.Ok (eT.els zs e)) ∧ ((!!leqC (eT.lst xs.length (eT.els xs)) (eT.lst xs.length (eT.els xs))) = true → leqC (eT.lst xs.length (eT.els xs)) (eT.lst ys.length (eT.els ys)) = true → leqC (eT.lst ys.length (eT.els ys)) (eT.lst xs.length (eT.els xs)) = true → (!!decide (eT.lst xs.length (eT.els xs) = eT.lst ys.length (eT.els ys))) = true → leqC (eT.lst xs.length (eT.els xs)) (eT.lst ys.length (eT.els ys)) = true → leqC (eT.lst ys.length (eT.els ys)) (eT.lst zs.length (eT.els zs)) = true → ∀ (e : Nat), e < xs.length → eT.Ok (eT.els xs e)) ∧ ((!!leqC (eT.lst xs.length (eT.els xs)) (eT.lst xs.length (eT.els xs))) = true → leqC (eT.lst xs.length (eT.els xs)) (eT.lst ys.length (eT.els ys)) = true → leqC (eT.lst ys.length (eT.els ys)) (eT.lst xs.length (eT.els xs)) = true → (!!decide (eT.lst xs.length (eT.els xs) = eT.lst ys.length (eT.els ys))) = true → leqC (eT.lst xs.length (eT.els xs)) (eT.lst ys.length (eT.els ys)) = true → leqC (eT.lst ys.length (eT.els ys)) (eT.lst zs.length (eT.els zs)) = true → ∀ (e : Nat), e < zs.length → eT.Ok (eT.els zs e)) ∧ ((!!leqC (eT.lst xs.length (eT.els xs)) (eT.lst xs.length (eT.els xs))) = true → leqC (eT.lst xs.length (eT.els xs)) (eT.lst ys.length (eT.els ys)) = true → (!leqC (eT.lst ys.length (eT.els ys)) (eT.lst xs.length (eT.els xs))) = true → ∀ (e : Nat), e < xs.length → eT.Ok (eT.els xs e)) ∧ ((!!leqC (eT.lst xs.length (eT.els xs)) (eT.lst xs.length (eT.els xs))) = true → leqC (eT.lst xs.length (eT.els xs)) (eT.lst ys.length (eT.els ys)) = true → (!leqC (eT.lst ys.length (eT.els ys)) (eT.lst xs.length (eT.els xs))) = true → ∀ (e : Nat), e < ys.length → eT.Ok (eT.els ys e)) ∧ ((!!leqC (eT.lst xs.length (eT.els xs)) (eT.lst xs.length (eT.els xs))) = true → leqC (eT.lst xs.length (eT.els xs)) (eT.lst ys.length (eT.els ys)) = true → (!leqC (eT.lst ys.length (eT.els ys)) (eT.lst xs.length (eT.els xs))) = true → leqC (eT.lst xs.length (eT.els xs)) (eT.lst ys.length (eT.els ys)) = true → ∀ (e : Nat), e < ys.length → eT.Ok (eT.els ys e)) ∧ ((!!leqC (eT.lst xs.length (eT.els xs)) (eT.lst xs.length (eT.els xs))) = true → leqC (eT.lst xs.length (eT.els xs)) (eT.lst ys.length (eT.els ys)) = true → (!leqC (eT.lst ys.length (eT.els ys)) (eT.lst xs.length (eT.els xs))) = true → leqC (eT.lst xs.length (eT.els xs)) (eT.lst ys.length (eT.els ys)) = true → ∀ (e : Nat), e < zs.length → eT.Ok (eT.els zs e)) ∧ ((!!leqC (eT.lst xs.length (eT.els xs)) (eT.lst xs.length (eT.els xs))) = true → leqC (eT.lst xs.length (eT.els xs)) (eT.lst ys.length (eT.els ys)) = true → (!leqC (eT.lst ys.length (eT.els ys)) (eT.lst xs.length (eT.els xs))) = true → leqC (eT.lst xs.length (eT.els xs)) (eT.lst ys.length (eT.els ys)) = true → leqC (eT.lst ys.length (eT.els ys)) (eT.lst zs.length (eT.els zs)) = true → ∀ (e : Nat), e < xs.length → eT.Ok (eT.els xs e)) ∧ ((!!leqC (eT.lst xs.length (eT.els xs)) (eT.lst xs.length (eT.els xs))) = true → leqC (eT.lst xs.length (eT.els xs)) (eT.lst ys.length (eT.els ys)) = true → (!leqC (eT.lst ys.length (eT.els ys)) (eT.lst xs.length (eT.els xs))) = true → leqC (eT.lst xs.length (eT.els xs)) (eT.lst ys.length (eT.els ys)) = true → leqC (eT.lst ys.length (eT.els ys)) (eT.lst zs.length (eT.els zs)) = true → ∀ (e : Nat), e < zs.length → eT.Ok (eT.els zs e)) ∧ ((!!leqC (eT.lst xs.length (eT.els xs)) (eT.lst xs.length (eT.els xs))) = true → (!leqC (eT.lst xs.length (eT.els xs)) (eT.lst ys.length (eT.els ys))) = true → ∀ (e : Nat), e < xs.length → eT.Ok (eT.els xs e)) ∧ ((!!leqC (eT.lst xs.length (eT.els xs)) (eT.lst xs.length (eT.els xs))) = true → (!leqC (eT.lst xs.length (eT.els xs)) (eT.lst ys.length (eT.els ys))) = true → ∀ (e : Nat), e < ys.length → eT.Ok (eT.els ys e)) ∧ ((!!leqC (eT.lst xs.length (eT.els xs)) (eT.lst xs.length (eT.els xs))) = true → (!leqC (eT.lst xs.length (eT.els xs)) (eT.lst ys.length (eT.els ys))) = true → leqC (eT.lst xs.length (eT.els xs)) (eT.lst ys.length (eT.els ys)) = true → ∀ (e : Nat), e < ys.length → eT.Ok (eT.els ys e)) ∧ ((!!leqC (eT.lst xs.length (eT.els xs)) (eT.lst xs.length (eT.els xs))) = true → (!leqC (eT.lst xs.length (eT.els xs)) (eT.lst ys.length (eT.els ys))) = true → leqC (eT.lst xs.length (eT.els xs)) (eT.lst ys.length (eT.els ys)) = true → ∀ (e : Nat), e < zs.length → eT.Ok (eT.els zs e)) ∧ ((!!leqC (eT.lst xs.length (eT.els xs)) (eT.lst xs.length (eT.els xs))) = true → (!leqC (eT.lst xs.length (eT.els xs)) (eT.lst ys.length (eT.els ys))) = true → leqC (eT.lst xs.length (eT.els xs)) (eT.lst ys.length (eT.els ys)) = true → leqC (eT.lst ys.length (eT.els ys)) (eT.lst zs.length (eT.els zs)) = true → ∀ (e : Nat), e < xs.length → eT.Ok (eT.els xs e)) ∧ ((!!leqC (eT.lst xs.length (eT.els xs)) (eT.lst xs.length (eT.els xs))) = true → (!leqC (eT.lst xs.length (eT.els xs)) (eT.lst ys.length (eT.els ys))) = true → leqC (eT.lst xs.length (eT.els xs)) (eT.lst ys.length (eT.els ys)) = true → leqC (eT.lst ys.length (eT.els ys)) (eT.lst zs.length (eT.els zs)) = true → ∀ (e : Nat), e < zs.length → eT.Ok (eT.els zs e)) ∧ ((!leqC (eT.lst xs.length (eT.els xs)) (eT.lst xs.length (eT.els xs)) || bif leqC (eT.lst xs.length (eT.els xs)) (eT.lst ys.length (eT.els ys)) then bif leqC (eT.lst ys.length (eT.els ys)) (eT.lst xs.length (eT.els xs)) then !decide (eT.lst xs.length (eT.els xs) = eT.lst ys.length (eT.els ys)) || leqC (eT.lst xs.length (eT.els xs)) (eT.lst ys.length (eT.els ys)) && (leqC (eT.lst ys.length (eT.els ys)) (eT.lst zs.length (eT.els zs)) && !leqC (eT.lst xs.length (eT.els xs)) (eT.lst zs.length (eT.els zs))) else leqC (eT.lst xs.length (eT.els xs)) (eT.lst ys.length (eT.els ys)) && (leqC (eT.lst ys.length (eT.els ys)) (eT.lst zs.length (eT.els zs)) && !leqC (eT.lst xs.length (eT.els xs)) (eT.lst zs.length (eT.els zs))) else leqC (eT.lst xs.length (eT.els xs)) (eT.lst ys.length (eT.els ys)) && (leqC (eT.lst ys.length (eT.els ys)) (eT.lst zs.length (eT.els zs)) && !leqC (eT.lst xs.length (eT.els xs)) (eT.lst zs.length (eT.els zs)))) = false → (∀ (e : Nat), e < xs.length → eT.Ok (eT.els xs e)) ∧ (∀ (e : Nat), e < ys.length → eT.Ok (eT.els ys e)) ∧ (∀ (e : Nat), e < xs.length → eT.Ok (eT.els xs e)) ∧ (∀ (e : Nat), e < ys.length → eT.Ok (eT.els ys e)) ∧ (eT.lst xs.length (eT.els xs)).length ≤ (1000 : Nat) ∧ (eT.lst ys.length (eT.els ys)).length ≤ (1000 : Nat) ∧ (((meetC (eT.lst xs.length (eT.els xs)) (eT.lst ys.length (eT.els ys))).snd != (0 : Int) || (joinC (eT.lst xs.length (eT.els xs)) (eT.lst ys.length (eT.els ys))).snd != (0 : Int)) = false → (∀ (e : Nat), e < zs.length → eT.Ok (eT.els zs e)) ∧ (∀ (e : Nat), e < xs.length → eT.Ok (eT.els xs e)) ∧ (leqC (eT.lst zs.length (eT.els zs)) (eT.lst xs.length (eT.els xs)) = true → ∀ (e : Nat), e < zs.length → eT.Ok (eT.els zs e)) ∧ (leqC (eT.lst zs.length (eT.els zs)) (eT.lst xs.length (eT.els xs)) = true → ∀ (e : Nat), e < ys.length → eT.Ok (eT.els ys e)) ∧ (leqC (eT.lst zs.length (eT.els zs)) (eT.lst xs.length (eT.els xs)) = true → ∀ (e : Nat), e < zs.length → eT.Ok (eT.els zs e)) ∧ (leqC (eT.lst zs.length (eT.els zs)) (eT.lst xs.length (eT.els xs)) = true → ∀ (e : Nat), e < (meetC (eT.lst xs.length (eT.els xs)) (eT.lst ys.length (eT.els ys))).fst.length → eT.Ok (eT.els (meetC (eT.lst xs.length (eT.els xs)) (eT.lst ys.length (eT.els ys))).fst e)) ∧ (leqC (eT.lst zs.length (eT.els zs)) (eT.lst xs.length (eT.els xs)) = true → (leqC (eT.lst zs.length (eT.els zs)) (eT.lst ys.length (eT.els ys)) == leqC (eT.lst zs.length (eT.els zs)) (eT.lst (meetC (eT.lst xs.length (eT.els xs)) (eT.lst ys.length (eT.els ys))).fst.length (eT.els (meetC (eT.lst xs.length (eT.els xs)) (eT.lst ys.length (eT.els ys))).fst))) = true → ∀ (e : Nat), e < xs.length → eT.Ok (eT.els xs e)) ∧ (leqC (eT.lst zs.length (eT.els zs)) (eT.lst xs.length (eT.els xs)) = true → (leqC (eT.lst zs.length (eT.els zs)) (eT.lst ys.length (eT.els ys)) == leqC (eT.lst zs.length (eT.els zs)) (eT.lst (meetC (eT.lst xs.length (eT.els xs)) (eT.lst ys.length (eT.els ys))).fst.length (eT.els (meetC (eT.lst xs.length (eT.els xs)) (eT.lst ys.length (eT.els ys))).fst))) = true → ∀ (e : Nat), e < zs.length → eT.Ok (eT.els zs e)) ∧ (leqC (eT.lst zs.length (eT.els zs)) (eT.lst xs.length (eT.els xs)) = true → (leqC (eT.lst zs.length (eT.els zs)) (eT.lst ys.length (eT.els ys)) == leqC (eT.lst zs.length (eT.els zs)) (eT.lst (meetC (eT.lst xs.length (eT.els xs)) (eT.lst ys.length (eT.els ys))).fst.length (eT.els (meetC (eT.lst xs.length (eT.els xs)) (eT.lst ys.length (eT.els ys))).fst))) = true → leqC (eT.lst xs.length (eT.els xs)) (eT.lst zs.length (eT.els zs)) = true → ∀ (e : Nat), e < ys.length → eT.Ok (eT.els ys e)) ∧ (leqC (eT.lst zs.length (eT.els zs)) (eT.lst xs.length (eT.els xs)) = true → (leqC (eT.lst zs.length (eT.els zs)) (eT.lst ys.length (eT.els ys)) == leqC (eT.lst zs.length (eT.els zs)) (eT.lst (meetC (eT.lst xs.length (eT.els xs)) (eT.lst ys.length (eT.els ys))).fst.length (eT.els (meetC (eT.lst xs.length (eT.els xs)) (eT.lst ys.length (eT.els ys))).fst))) = true → leqC (eT.lst xs.length (eT.els xs)) (eT.lst zs.length (eT.els zs)) = true → ∀ (e : Nat), e < zs.length → eT.Ok (eT.els zs e)) ∧ (leqC (eT.lst zs.length (eT.els zs)) (eT.lst xs.length (eT.els xs)) = true → (leqC (eT.lst zs.length (eT.els zs)) (eT.lst ys.length (eT.els ys)) == leqC (eT.lst zs.length (eT.els zs)) (eT.lst (meetC (eT.lst xs.length (eT.els xs)) (eT.lst ys.length (eT.els ys))).fst.length (eT.els (meetC (eT.lst xs.length (eT.els xs)) (eT.lst ys.length (eT.els ys))).fst))) = true → leqC (eT.lst xs.length (eT.els xs)) (eT.lst zs.length (eT.els zs)) = true → ∀ (e : Nat), e < (joinC (eT.lst xs.length (eT.els xs)) (eT.lst ys.length (eT.els ys))).fst.length → eT.Ok (eT.els (joinC (eT.lst xs.length (eT.els xs)) (eT.lst ys.length (eT.els ys))).fst e)) ∧ (leqC (eT.lst zs.length (eT.els zs)) (eT.lst xs.length (eT.els xs)) = true → (leqC (eT.lst zs.length (eT.els zs)) (eT.lst ys.length (eT.els ys)) == leqC (eT.lst zs.length (eT.els zs)) (eT.lst (meetC (eT.lst xs.length (eT.els xs)) (eT.lst ys.length (eT.els ys))).fst.length (eT.els (meetC (eT.lst xs.length (eT.els xs)) (eT.lst ys.length (eT.els ys))).fst))) = true → leqC (eT.lst xs.length (eT.els xs)) (eT.lst zs.length (eT.els zs)) = true → ∀ (e : Nat), e < zs.length → eT.Ok (eT.els zs e)) ∧ (leqC (eT.lst zs.length (eT.els zs)) (eT.lst xs.length (eT.els xs)) = true → (leqC (eT.lst zs.length (eT.els zs)) (eT.lst ys.length (eT.els ys)) == leqC (eT.lst zs.length (eT.els zs)) (eT.lst (meetC (eT.lst xs.length (eT.els xs)) (eT.lst ys.length (eT.els ys))).fst.length (eT.els (meetC (eT.lst xs.length (eT.els xs)) (eT.lst ys.length (eT.els ys))).fst))) = true → (!leqC (eT.lst xs.length (eT.els xs)) (eT.lst zs.length (eT.els zs))) = true → ∀ (e : Nat), e < (joinC (eT.lst xs.length (eT.els xs)) (eT.lst ys.length (eT.els ys))).fst.length → eT.Ok (eT.els (joinC (eT.lst xs.length (eT.els xs)) (eT.lst ys.length (eT.els ys))).fst e)) ∧ (leqC (eT.lst zs.length (eT.els zs)) (eT.lst xs.length (eT.els xs)) = true → (leqC (eT.lst zs.length (eT.els zs)) (eT.lst ys.length (eT.els ys)) == leqC (eT.lst zs.length (eT.els zs)) (eT.lst (meetC (eT.lst xs.length (eT.els xs)) (eT.lst ys.length (eT.els ys))).fst.length (eT.els (meetC (eT.lst xs.length (eT.els xs)) (eT.lst ys.length (eT.els ys))).fst))) = true → (!leqC (eT.lst xs.length (eT.els xs)) (eT.lst zs.length (eT.els zs))) = true → ∀ (e : Nat), e < zs.length → eT.Ok (eT.els zs e)) ∧ ((!leqC (eT.lst zs.length (eT.els zs)) (eT.lst xs.length (eT.els xs))) = true → ∀ (e : Nat), e < zs.length → eT.Ok (eT.els zs e)) ∧ ((!leqC (eT.lst zs.length (eT.els zs)) (eT.lst xs.length (eT.els xs))) = true → ∀ (e : Nat), e < (meetC (eT.lst xs.length (eT.els xs)) (eT.lst ys.length (eT.els ys))).fst.length → eT.Ok (eT.els (meetC (eT.lst xs.length (eT.els xs)) (eT.lst ys.length (eT.els ys))).fst e)) ∧ ((!leqC (eT.lst zs.length (eT.els zs)) (eT.lst xs.length (eT.els xs))) = true → (false == leqC (eT.lst zs.length (eT.els zs)) (eT.lst (meetC (eT.lst xs.length (eT.els xs)) (eT.lst ys.length (eT.els ys))).fst.length (eT.els (meetC (eT.lst xs.length (eT.els xs)) (eT.lst ys.length (eT.els ys))).fst))) = true → ∀ (e : Nat), e < xs.length → eT.Ok (eT.els xs e)) ∧ ((!leqC (eT.lst zs.length (eT.els zs)) (eT.lst xs.length (eT.els xs))) = true → (false == leqC (eT.lst zs.length (eT.els zs)) (eT.lst (meetC (eT.lst xs.length (eT.els xs)) (eT.lst ys.length (eT.els ys))).fst.length (eT.els (meetC (eT.lst xs.length (eT.els xs)) (eT.lst ys.length (eT.els ys))).fst))) = true → ∀ (e : Nat), e < zs.length → eT.Ok (eT.els zs e)) ∧ ((!leqC (eT.lst zs.length (eT.els zs)) (eT.lst xs.length (eT.els xs))) = true → (false == leqC (eT.lst zs.length (eT.els zs)) (eT.lst (meetC (eT.lst xs.length (eT.els xs)) (eT.lst ys.length (eT.els ys))).fst.length (eT.els (meetC (eT.lst xs.length (eT.els xs)) (eT.lst ys.length (eT.els ys))).fst))) = true → leqC (eT.lst xs.length (eT.els xs)) (eT.lst zs.length (eT.els zs)) = true → ∀ (e : Nat), e < ys.length → eT.Ok (eT.els ys e)) ∧ ((!leqC (eT.lst zs.length (eT.els zs)) (eT.lst xs.length (eT.els xs))) = true → (false == leqC (eT.lst zs.length (eT.els zs)) (eT.lst (meetC (eT.lst xs.length (eT.els xs)) (eT.lst ys.length (eT.els ys))).fst.length (eT.els (meetC (eT.lst xs.length (eT.els xs)) (eT.lst ys.length (eT.els ys))).fst))) = true → leqC (eT.lst xs.length (eT.els xs)) (eT.lst zs.length (eT.els zs)) = true → ∀ (e : Nat), e < zs.length → eT.Ok (eT.els zs e)) ∧ ((!leqC (eT.lst zs.length (eT.els zs)) (eT.lst xs.length (eT.els xs))) = true → (false == leqC (eT.lst zs.length (eT.els zs)) (eT.lst (meetC (eT.lst xs.length (eT.els xs)) (eT.lst ys.length (eT.els ys))).fst.length (eT.els (meetC (eT.lst xs.length (eT.els xs)) (eT.lst ys.length (eT.els ys))).fst))) = true → leqC (eT.lst xs.length (eT.els xs)) (eT.lst zs.length (eT.els zs)) = true → ∀ (e : Nat), e < (joinC (eT.lst xs.length (eT.els xs)) (eT.lst ys.length (eT.els ys))).fst.length → eT.Ok (eT.els (joinC (eT.lst xs.length (eT.els xs)) (eT.lst ys.length (eT.els ys))).fst e)) ∧ ((!leqC (eT.lst zs.length (eT.els zs)) (eT.lst xs.length (eT.els xs))) = true → (false == leqC (eT.lst zs.length (eT.els zs)) (eT.lst (meetC (eT.lst xs.length (eT.els xs)) (eT.lst ys.length (eT.els ys))).fst.length (eT.els (meetC (eT.lst xs.length (eT.els xs)) (eT.lst ys.length (eT.els ys))).fst))) = true → leqC (eT.lst xs.length (eT.els xs)) (eT.lst zs.length (eT.els zs)) = true → ∀ (e : Nat), e < zs.length → eT.Ok (eT.els zs e)) ∧ ((!leqC (eT.lst zs.length (eT.els zs)) (eT.lst xs.length (eT.els xs))) = true → (false == leqC (eT.lst zs.length (eT.els zs)) (eT.lst (meetC (eT.lst xs.length (eT.els xs)) (eT.lst ys.length (eT.els ys))).fst.length (eT.els (meetC (eT.lst xs.length (eT.els xs)) (eT.lst ys.length (eT.els ys))).fst))) = true → (!leqC (eT.lst xs.length (eT.els xs)) (eT.lst zs.length (eT.els zs))) = true → ∀ (e : Nat), e < (joinC (eT.lst xs.length (eT.els xs)) (eT.lst ys.length (eT.els ys))).fst.length → eT.Ok (eT.els (joinC (eT.lst xs.length (eT.els xs)) (eT.lst ys.length (eT.els ys))).fst e)) ∧ ((!leqC (eT.lst zs.length (eT.els zs)) (eT.lst xs.length (eT.els xs))) = true → (false == leqC (eT.lst zs.length (eT.els zs)) (eT.lst (meetC (eT.lst xs.length (eT.els xs)) (eT.lst ys.length (eT.els ys))).fst.length (eT.els (meetC (eT.lst xs.length (eT.els xs)) (eT.lst ys.length (eT.els ys))).fst))) = true → (!leqC (eT.lst xs.length (eT.els xs)) (eT.lst zs.length (eT.els zs))) = true → ∀ (e : Nat), e < zs.length → eT.Ok (eT.els zs e)))))
theorem odr_okS (pre : DA.T aLLL → List Prop) (h : ∀ g, DA.bd aLLL g → (∀ p ∈ pre g, p) → odr_side g.1 g.2.1 g.2.2) : FnPure Try.prog 11 aLLL dBool (fun g => odr_F g.1 g.2.1 g.2.2) pre := pure_of_sideS (Γ := (MTab.gamz tabG [] [(17, 2, 4)])) (Λ := noΛ) (MTab.okz tabG [] [(17, 2, 4)]) noΛ_ok 100 default (fun g => odr_side g.1 g.2.1 g.2.2) (fun g => by kernel_rfl) (fun g => by kernel_rfl) h
noncomputable def tabXG2 : MTab Try.prog := tabG
end Go.Proofs.Ytiipneclghnfhaa

/- Chapter 3: the law ChainOrder holds. -/
namespace Go.Proofs.Ytiipneclghnfhaa
open Go.RowKit Go.Sx Go.Lp
set_option maxHeartbeats 4000000 in
theorem odr_si (xs ys zs : List T) : odr_side xs ys zs := by
  have h1 := okT xs
  have h2 := okT ys
  have h5 := okT zs
  have h3 := okT (meetC xs ys).1
  have h4 := okT (joinC xs ys).1
  unfold odr_side
  simp only [eT.lst_els]
  intro _ l1 l2 l3
  have l1 : ¬ (xs.length : Int) > 40 := of_decide_eq_false l1
  have l2 : ¬ (ys.length : Int) > 40 := of_decide_eq_false l2
  have k1 : xs.length ≤ 1000 := by omega
  have k2 : ys.length ≤ 1000 := by omega
  repeat' (first | exact h1 | exact h2 | exact h3 | exact h4 | exact h5 | exact k1 | exact k2 | apply And.intro | intro _)
theorem odr_eq (xs ys zs : List T) : odr_F xs ys zs = true := by
  unfold odr_F
  simp only [eT.lst_els]
  cases decide ((xs.length : Int) > 40)
  case true => rfl
  cases decide ((ys.length : Int) > 40)
  case true => rfl
  cases decide ((zs.length : Int) > 40)
  case true => rfl
  simp only [cond_false]
  by_cases c1 : chkC xs = 0
  case neg =>
    have : (chkC xs != 0) = true := by simpa using c1
    simp only [this, Bool.true_or, cond_true]
  by_cases c2 : chkC ys = 0
  case neg =>
    have : (chkC ys != 0) = true := by simpa using c2
    simp only [this, Bool.true_or, Bool.or_true, cond_true]
  by_cases c3 : chkC zs = 0
  case neg =>
    have : (chkC zs != 0) = true := by simpa using c3
    simp only [this, Bool.or_true, cond_true]
  have a1 := ((chk_iff xs).1 c1).2
  have a2 := ((chk_iff ys).1 c2).2
  have hrefl : leqC xs xs = true := lq_refl (bad_rfl a1.1)
  have hanti : leqC xs ys = true → leqC ys xs = true → decide (xs = ys) = true := fun h1 h2 => decide_eq_true (lq_anti toT poT a1.2 a2.2 h1 h2)
  have htr : leqC xs ys = true → leqC ys zs = true → leqC xs zs = true := fun h1 h2 => lq_trans poT h1 h2
  have hm : (meetC xs ys).2 = 0 → leqC zs (meetC xs ys).1 = (leqC zs xs && leqC zs ys) := fun h => by
    obtain ⟨b, e⟩ := meet_ok h
    rw [e]
    show lq tleq_F zs (minsT (xs ++ ys)) = _
    unfold minsT
    rw [lq_mins toT poT (bad_rfl (bad_app b)), lq_append]
    rfl
  have hj : (joinC xs ys).2 = 0 → leqC (joinC xs ys).1 zs = (leqC xs zs && leqC ys zs) := fun h => lq_and (join_cov h)
  simp only [c1, c2, c3, bne_self_eq_false, Bool.or_false, cond_false, hrefl, Bool.not_true, Bool.false_or]
  by_cases hm0 : (meetC xs ys).2 = 0
  · by_cases hj0 : (joinC xs ys).2 = 0
    · simp only [hm0, hj0, bne_self_eq_false, Bool.or_false, cond_false, hm hm0, hj hj0]
      revert hanti htr
      generalize leqC xs ys = p1
      generalize leqC ys xs = p2
      generalize leqC ys zs = p3
      generalize leqC xs zs = p4
      generalize leqC zs xs = p5
      generalize leqC zs ys = p6
      generalize decide (xs = ys) = p7
      revert p1 p2 p3 p4 p5 p6 p7
      decide
    · have : ((joinC xs ys).2 != 0) = true := by simpa using hj0
      simp only [this, Bool.or_true, cond_true]
      revert hanti htr
      generalize leqC xs ys = p1
      generalize leqC ys xs = p2
      generalize leqC ys zs = p3
      generalize leqC xs zs = p4
      generalize decide (xs = ys) = p7
      revert p1 p2 p3 p4 p7
      decide
  · have : ((meetC xs ys).2 != 0) = true := by simpa using hm0
    simp only [this, Bool.true_or, cond_true]
    revert hanti htr
    generalize leqC xs ys = p1
    generalize leqC ys xs = p2
    generalize leqC ys zs = p3
    generalize leqC xs zs = p4
    generalize decide (xs = ys) = p7
    revert p1 p2 p3 p4 p7
    decide
theorem odr_ok : FnPure Try.prog 11 aLLL dBool (fun _ => true) (fun _ => []) :=
  pure_congr (odr_okS _ fun g _ _ => odr_si g.1 g.2.1 g.2.2) fun g _ _ => odr_eq g.1 g.2.1 g.2.2
end Go.Proofs.Ytiipneclghnfhaa

/- From what a statement reads of its arguments to known values. -/
namespace Go.Sx
open Go.RowKit Go.ChangeShapes Go.WideShapes Go.ChangeAt Go.Deep

theorem add_none (b o n : Nat) : (⟨b, o, none⟩ : Addr).add n = ⟨b, o + n, none⟩ := by
  by_cases h : n = 0
  · subst h; simp [Addr.add]
  · simp [Addr.add, h]
abbrev wh (w : World) : Rh := emp fun b => w.heap[b]?
/-- Cells of that type are plain data. -/
def Rd {α : Type} (P : Program) (t : TypeId) (A : El α) (Q : α → Prop) : Prop :=
  ∀ (H : Type) (enc : TypeId × Value → H) (w : World) (base : Nat) (spare : Nat → Bool) (held : Bool) (fuel : Nat) (cs : List Value) (x : DataW H × List MemPlace),
    DataW.trod enc P w base spare held fuel t cs = some x → ∃ a, Q a ∧ SV.fits 0 (wh w) (A.cells a) cs
section
variable {H : Type} (enc : TypeId × Value → H) (P : Program) (w : World) (base : Nat) (spare : Nat → Bool) (held : Bool) (fuel : Nat)
def Cut : List TypeId → List Value → Prop
  | [], cs => cs = []
  | t :: ts, cs => (∃ x, DataW.trod enc P w base spare held fuel t (cs.take (P.cellsOf t)) = some x) ∧ Cut ts (cs.drop (P.cellsOf t))
def consec : Nat → List (Nat × TypeId) → Nat → Bool
  | o, [], n => Nat.beq o n
  | o, p :: r, n => Nat.beq p.1 o && consec (o + P.cellsOf p.2) r n
theorem cut_of (cs : List Value) : ∀ (fs : List (Nat × TypeId)) (o : Nat), consec P o fs cs.length = true → (∀ p ∈ fs, ∃ x, DataW.trod enc P w base spare held fuel p.2 ((cs.drop p.1).take (P.cellsOf p.2)) = some x) → Cut enc P w base spare held fuel (fs.map (·.2)) (cs.drop o)
  | [], o, hc, _ => by
    have := beq_of hc
    show cs.drop o = []
    exact List.drop_eq_nil_of_le (by omega)
  | p :: r, o, hc, h => by
    simp only [consec, Bool.and_eq_true] at hc
    have h0 := beq_of hc.1
    refine ⟨?_, ?_⟩
    · have := h p (List.mem_cons_self ..)
      rwa [h0] at this
    · have := cut_of cs r (o + P.cellsOf p.2) hc.2 fun q hq => h q (List.mem_cons_of_mem _ hq)
      rwa [List.drop_drop]
end
def Rds {α : Type} (P : Program) (ts : List TypeId) (A : El α) (Q : α → Prop) : Prop :=
  ∀ (H : Type) (enc : TypeId × Value → H) (w : World) (base : Nat) (spare : Nat → Bool) (held : Bool) (fuel : Nat) (cs : List Value),
    Cut enc P w base spare held fuel ts cs → ∃ a, Q a ∧ SV.fits 0 (wh w) (A.cells a) cs
section
variable {P : Program} {t e : TypeId} {α β : Type} {A : El α} {B : El β} {Q : α → Prop} {Q' : β → Prop}
theorem rds_one (h : Rd P t A Q) : Rds P [t] A Q := fun H enc w base spare held fuel cs hc => by
  obtain ⟨⟨x, hx⟩, hd⟩ := hc
  have hd : cs.drop (P.cellsOf t) = [] := hd
  have h2 := List.take_append_drop (P.cellsOf t) cs
  rw [hd, List.append_nil] at h2
  rw [h2] at hx
  exact h H enc w base spare held fuel cs x hx
theorem rds_cons {ts : List TypeId} (h : Rd P t A Q) (h' : Rds P ts B Q') : Rds P (t :: ts) (.pair A B) (fun a => Q a.1 ∧ Q' a.2) := fun H enc w base spare held fuel cs hc => by
  obtain ⟨⟨x, hx⟩, hd⟩ := hc
  obtain ⟨a, qa, fa⟩ := h H enc w base spare held fuel _ x hx
  obtain ⟨b, qb, fb⟩ := h' H enc w base spare held fuel _ hd
  refine ⟨(a, b), ⟨qa, qb⟩, ?_⟩
  have := fits_append fa fb
  rwa [List.take_append_drop] at this
theorem rd_iso (h : Rd P t A Q) (f : α → β) (g : β → α) (hfg : ∀ b, f (g b) = b) (hgf : ∀ a, g (f a) = a) : Rd P t (A.iso f g hfg hgf) (fun b => Q (g b)) := fun H enc w base spare held fuel cs x hx => by
  obtain ⟨a, qa, fa⟩ := h H enc w base spare held fuel cs x hx
  refine ⟨f a, (show Q (g (f a)) by rwa [hgf]), ?_⟩
  show SV.fits 0 _ (A.cells (g (f a))) cs
  rwa [hgf]
theorem rd_int {k : IntKind} (ht : P.underlying t = some (.int k)) : Rd P t (eInt k) (fun n => (Lit.int k n).wf = true) := fun H enc w base spare held fuel cs x hx => by
  obtain ⟨n, rfl, _, hw⟩ := DataW.trod_int ht hx
  exact ⟨n, hw, by simp [eInt, El.one', dInt, SV.fits, SV.fit]⟩
theorem rd_struct {fs : Array Field} {ts : List TypeId} (ht : P.underlying t = some (.struct fs)) (hts : fs.toList.map (·.type) = ts) (hc : consec P 0 (fs.toList.map fun f => (f.offset, f.type)) (P.cellsOf t) = true) (h : Rds P ts A Q) : Rd P t A Q := fun H enc w base spare held fuel cs x hx => by
  obtain ⟨xs, n, rfl, _, hl, hxl, hf⟩ := DataW.trod_struct ht hx
  rw [← hl] at hc
  have := cut_of enc P w base spare held n cs _ 0 hc fun p hp => by
    obtain ⟨f, hfm, rfl⟩ := List.mem_map.1 hp
    obtain ⟨i, hi, rfl⟩ := List.getElem_of_mem hfm
    have hi' : i < fs.size := by simpa using hi
    have := hf i fs[i] (by simp [hi'])
    exact ⟨xs[i]'(by omega), by simpa [hxl, hi'] using this⟩
  rw [List.map_map, List.drop_zero] at this
  refine h H enc w base spare held n cs ?_
  rw [← hts]
  exact this
theorem rd_array {n : Nat} {ts : List TypeId} (ht : P.underlying t = some (.array n e)) (hts : ((List.range n).map fun _ => e) = ts) (hc : consec P 0 ((List.range n).map fun i => (i * P.cellsOf e, e)) (P.cellsOf t) = true) (h : Rds P ts A Q) : Rd P t A Q := fun H enc w base spare held fuel cs x hx => by
  obtain ⟨xs, m, rfl, _, hl, hxl, hf⟩ := DataW.trod_array ht hx
  rw [← hl] at hc
  have := cut_of enc P w base spare held m cs _ 0 hc fun p hp => by
    obtain ⟨i, hi, rfl⟩ := List.mem_map.1 hp
    have hi' : i < n := by simpa using hi
    have := hf i hi'
    exact ⟨xs[i]'(by omega), by rw [this]; simp [hxl, hi']⟩
  rw [List.map_map, List.drop_zero] at this
  refine h H enc w base spare held m cs ?_
  rw [← hts]
  exact this
end
/-- An argument is plain data. -/
def RdV {α : Type} (P : Program) (t : TypeId) (D : Dv α) (Q : α → Prop) : Prop :=
  ∀ (H : Type) (enc : TypeId × Value → H) (w : World) (base : Nat) (spare : Nat → Bool) (held : Bool) (r : Reach) (b0 : Nat) (v : Value) (d : DataW H) (ps : List MemPlace),
    Value.okWide P w r b0 t v → DataW.Trod enc P w base spare held t v d ps → ∃ a, Q a ∧ (D.enc a).fit 0 (wh w) v
section
variable {P : Program} {t e : TypeId} {α β : Type} {A : El α} {Q : α → Prop}
theorem rdv_int {k : IntKind} (ht : P.underlying t = some (.int k)) : RdV P t (dInt k) (fun n => (Lit.int k n).wf = true) := fun H enc w base spare held r b0 v d ps hv hx => by
  obtain ⟨n, rfl, _, _, hw⟩ := open_int ht hv hx
  exact ⟨n, hw, by simp [dInt, SV.fit]⟩
theorem rdv_struct {fs : Array Field} (ht : P.underlying t = some (.struct fs)) (h : Rd P t A Q) : RdV P t (.agg A) Q := fun H enc w base spare held r b0 v d ps hv hx => by
  obtain ⟨cs, rfl, _⟩ := okWide_struct ht hv
  obtain ⟨fuel, hf⟩ := hx
  obtain ⟨a, qa, fa⟩ := h H enc w base spare held fuel _ _ hf
  exact ⟨a, qa, cs.toList, by simp, by simpa [Value.cells] using fa⟩
theorem rdv_slice (ht : P.underlying t = some (.slice e)) (hs : P.cellsOf e = A.sz) (hz : 0 < A.sz) (h : Rd P e A Q) : RdV P t (.list A) (fun xs => ∀ a ∈ xs, Q a) := fun H enc w base spare held r b0 v d ps hv hx => by
  obtain ⟨a0, len0, cap0, rfl⟩ := okWide_slice ht hv
  obtain ⟨fuel, hf⟩ := hx
  rcases open_slice ht hf with ⟨hcs, _⟩ | ⟨a, len, cap, m, n, D, Pl, hcs, hb, hl, hm, hmm, _, hel⟩
  · simp [Value.cells] at hcs
    obtain ⟨rfl, rfl, rfl⟩ := hcs
    exact ⟨[], by simp, rs_nil _ _⟩
  · simp [Value.cells] at hcs
    obtain ⟨rfl, rfl, rfl⟩ := hcs
    have hle : len0 ≤ m := by subst hmm; split <;> omega
    have key : ∀ i, i < len0 → ∃ x : α, Q x ∧ ∃ cs', cs'.length = A.sz ∧ SV.fits 0 (wh w) (A.cells x) cs' ∧ ∀ j, j < A.sz → w.cell? ((a.add (i * A.sz)).add j) = cs'[j]? := fun i hi => by
      obtain ⟨cs', h1, h2⟩ := hel i (by omega)
      obtain ⟨x, qx, fx⟩ := h H enc w base spare held n cs' _ h2
      rw [hs] at h1
      obtain ⟨_, h3, h4⟩ := World.cells?_some h1
      exact ⟨x, qx, cs', h3, fx, h4⟩
    haveI : Inhabited α := ⟨A.dflt⟩
    obtain ⟨f, hf⟩ := choose_lt (α := α) (fun i hi => key i hi)
    refine ⟨(List.range len0).map f, ?_, ?_⟩
    · intro x hx
      obtain ⟨i, hi, rfl⟩ := List.mem_map.1 hx
      exact (hf i (by simpa using hi)).1
    · simp only [Dv.list, SV.fit]
      refine ⟨some a, cap0, by simp, by simpa using hl, hm, fun hpos => ?_⟩
      have hpos : 0 < len0 := by simpa using hpos
      obtain ⟨_, cs0, q1, q2, q3⟩ := hf 0 hpos
      have q4 := q3 0 hz
      obtain ⟨b, o, spot⟩ := a
      have hsome : ∃ v0, cs0[0]? = some v0 := ⟨cs0[0]'(by omega), by simp⟩
      obtain ⟨v0, hv0⟩ := hsome
      rw [hv0] at q4
      have hspot : spot = none := by simpa [Addr.add] using World.cell?_spot q4
      subst hspot
      have hblk : ∃ cs t fz, w.heap[b]? = some (.cells cs t fz) := by
        simp only [add_none, World.cell?] at q4
        split at q4
        · rename_i c _ _ hh
          exact ⟨_, _, _, hh⟩
        · cases q4
      obtain ⟨cs, t', fz, hh⟩ := hblk
      refine ⟨b, o, cs, t', fz, rfl, hh, fun i hi => ?_⟩
      have hi : i < len0 := by simpa using hi
      obtain ⟨_, cs', k1, k2, k3⟩ := hf i hi
      refine ⟨cs', k1, ?_, fun j v hjv => ?_⟩
      · simpa [El.els, List.getD_eq_getElem?_getD, hi] using k2
      · have hj : j < A.sz := by
          have := (List.getElem?_eq_some_iff.1 hjv).1
          omega
        have := k3 j hj
        rw [hjv] at this
        simp only [add_none, World.cell?, hh] at this
        simpa using this
end
end Go.Sx

/- Chapter 3: what the rows read of their arguments. -/
namespace Go.Proofs.Ytiipneclghnfhaa
open Go.RowKit Go.Sx
def W1 (n : Int) : Prop := (Lit.int .i64 n).wf = true
def W4 (a : I4) : Prop := W1 a.1 ∧ W1 a.2.1 ∧ W1 a.2.2.1 ∧ W1 a.2.2.2
def W6 (a : I6) : Prop := W1 a.1 ∧ W1 a.2.1 ∧ W4 a.2.2
def W8 (a : I8) : Prop := W1 a.1 ∧ W1 a.2.1 ∧ W1 a.2.2.1 ∧ W1 a.2.2.2.1 ∧ W4 a.2.2.2.2
def S.W (s : S) : Prop := W8 s.toP
def T.W (t : T) : Prop := W6 t.toP
theorem rd2 : Rd Try.prog 2 eI W1 := rd_int Try.underlying2
theorem rd3 : Rd Try.prog 3 eI W1 := rd_int Try.underlying3
theorem rd28 : Rd Try.prog 28 e4 W4 := rd_array (ts := [2, 2, 2, 2]) Try.underlying28 rfl (by kernel_rfl) (rds_cons rd2 (rds_cons rd2 (rds_cons rd2 (rds_one rd2))))
theorem rd30 : Rd Try.prog 30 eT T.W := rd_iso (Q := W6) (rd_struct (ts := [2, 3, 28]) Try.underlying30 rfl (by kernel_rfl) (rds_cons rd2 (rds_cons rd3 (rds_one rd28)))) _ _ _ _
theorem rdvT : RdV Try.prog 30 dT T.W := rdv_struct Try.underlying30 rd30
theorem rdvLT : RdV Try.prog 22 dLT (fun l => ∀ s ∈ l, T.W s) := rdv_slice Try.underlying22 (by kernel_rfl) (by decide) rd30
end Go.Proofs.Ytiipneclghnfhaa

/- The row of ChainOrderSaid, from the law's contract. Printed by rowgen.py. -/
namespace Go.Proofs.Ytiipneclghnfhaa
open Go.ChangeShapes Go.WideShapes Go.ChangeAt Go.RowKit Go.Sx

theorem Try.own : ownKnob Try.prog.godebug = none := by kernel_rfl
theorem Try.laidOut : laidOutB Try.prog = true := by kernel_rfl
set_option maxRecDepth 100000 in
theorem chainOrder_lifted (law : FnPure Try.prog 11 aLLL dBool (fun _ => true) (fun _ => [])) (os : Os) (started : os.Started) (H : Type) (enc : TypeId × Value → H) :
    ReturnsInHanded {} Try.checked os 11 .any (Rows.chainOrderSpec.pre6 enc Try.prog Try.f11 Rows.chainOrderRow.domain false) (Rows.chainOrderSpec.post enc Try.prog Try.f11 false true false false) := by
  refine returnsInHanded_of_change (C := Try.checked) Try.own started (by kernel_rfl) Try.func11
    (ChangeSpec.witness6 (enc := enc) (C := Try.checked) false ⟨#[], #[.slice none 0 0, .slice none 0 0, .slice none 0 0], []⟩ 8 (by kernel_rfl) (by kernel_rfl) (by kernel_rfl) (by kernel_rfl)) ?_
  intro W base args ds gs before hval0 hW hcnd _
  have hval : ∀ (j : Nat) t v, Try.f11.params[j]? = some t → args[j]? = some v → Value.okWide Try.prog W .any base t v := hval0
  have hW' := hW
  obtain ⟨p, q, hA0, hV, rfl, hfz, hnd⟩ := hW
  have hA : DataW.TrodAll enc Try.prog W 0 (fun _ => true) true Try.f11.params.toList args.toList ds p := hA0
  rw [Try.params11] at hA hval
  obtain ⟨v0, vs0, d0, ds0, p0, qq0, hargs, rfl, rfl, h0, r0⟩ := trodAll_cons hA
  obtain ⟨v1, vs1, d1, ds1, p1, qq1, rfl, rfl, rfl, h1, r1⟩ := trodAll_cons r0
  obtain ⟨v2, vs2, d2, ds2, p2, qq2, rfl, rfl, rfl, h2, r2⟩ := trodAll_cons r1
  obtain ⟨rfl, rfl, rfl⟩ := trodAll_nil r2
  obtain rfl : args = #[v0, v1, v2] := by cases args; simp_all
  obtain ⟨rfl, rfl⟩ := trodVars_none hV
  obtain ⟨a0, q0, f0⟩ := rdvLT _ _ _ _ _ _ _ _ _ _ _ (hval 0 22 v0 rfl rfl) h0
  obtain ⟨a1, q1, f1⟩ := rdvLT _ _ _ _ _ _ _ _ _ _ _ (hval 1 22 v1 rfl rfl) h1
  obtain ⟨a2, q2, f2⟩ := rdvLT _ _ _ _ _ _ _ _ _ _ _ (hval 2 22 v2 rfl rfl) h2
  have lt : ∀ {t : TypeId} {v : Value} {d : DataW H} {ps : List MemPlace}, DataW.Trod enc Try.prog W 0 (fun _ => true) true t v d ps → ∀ x ∈ ps, x.block < W.heap.size := by
    rintro t v d ps ⟨m, hm⟩
    exact DataW.trod_lt m _ _ _ hm
  clear hA0 hval0
  refine (law W (fun b => W.heap[b]?) (a0, a1, a2) [v0, v1, v2] (fun _ _ h => h) (by simp) ⟨f0, f1, f2, trivial⟩).mono fun e W' ⟨x, he, bel, hx⟩ => ?_
  obtain rfl : x = .bool true := by simpa [dBool, SV.fit] using hx
  subst he
  exact ⟨_, rfl, _, _, _, [], _, [], hW', trodAll_mk1 (shut_bool Try.underlying4 _),
    (trodAll_cons_mk (Below.trod Try.laidOut (by kernel_rfl) (of_decide_eq_true (by kernel_rfl)) h0 bel (lt h0))
    (trodAll_cons_mk (Below.trod Try.laidOut (by kernel_rfl) (of_decide_eq_true (by kernel_rfl)) h1 bel (lt h1))
    (trodAll_cons_mk (Below.trod Try.laidOut (by kernel_rfl) (of_decide_eq_true (by kernel_rfl)) h2 bel (lt h2)) trodAll_mk0))), rfl, bel.frame _, fun h => by cases h⟩

theorem chainOrder_over (law : FnPure Try.prog 11 aLLL dBool (fun _ => true) (fun _ => [])) : Rows.ChainOrderSaid :=
  OpenClaim.holds_of_wide 11 Try.f11 rfl rfl rfl rfl rfl rfl rfl ⟨rfl, rfl, rfl, rfl, rfl⟩ rfl rfl rfl rfl rfl (by kernel_rfl) Try.func11 (by kernel_rfl)
    (of_decide_eq_true (by kernel_rfl)) (by unfold Func.isWrapper; first | (rw [if_pos (by decide +kernel)]; kernel_rfl) | (rw [if_neg (by decide +kernel)]; exact ⟨rfl, rfl⟩))
    (fun os started H enc _ => chainOrder_lifted law os started H enc)
end Go.Proofs.Ytiipneclghnfhaa

/- The law ChainOrder of chapter 3 is proved: for every input the function returns true, and its arguments read as they did. No condition. -/
namespace Go.Proofs.Ytiipneclghnfhaa
open Go.RowKit Go.Sx
theorem chainOrder_holds : Rows.ChainOrderSaid := chainOrder_over odr_ok
end Go.Proofs.Ytiipneclghnfhaa
