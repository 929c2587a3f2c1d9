/- Chapter 2: Leq, counter by counter: the contracts of both sides. -/
import Derived.Test.YtapmlfklkfgmoaaZA12
set_option linter.unusedVariables false
namespace Go.Proofs.Ytapmlfklkfgmoaa
open Go.RowKit Go.Sx
set_option maxRecDepth 100000
/-- What comes of a counter: it stays and something is added, or a number comes. -/
abbrev C := Bool × Int
abbrev CZ := Bool × Bool × Int
def symZ (s : S) (k n : Nat) : List CZ :=
  (match k with
    | 0 => []
    | j + 1 => List.replicate j (true, true, (0 : Int)) ++ [(true, false, s.a)]) ++ (s.p.take n).map fun x => (false, false, x)
def symC (s : S) (k n : Nat) : List C :=
  (match k with
    | 0 => []
    | j + 1 => List.replicate j (true, (0 : Int)) ++ [(true, s.a)]) ++ (s.p.take n).map fun x => (false, x)
def leqT : List CZ → List CZ → Tr Bool
  | (s, z, n) :: r, (s', z', m) :: r' => bif s && !s' then .br (m != 1048576) (.ret false) (leqT r r') else bif z && z' then leqT r r' else .br (decide (n > m)) (.ret false) (leqT r r')
  | _, _ => .ret true
def rleqT : List CZ → List CZ → Tr Bool
  | (s, z, n) :: r, (s', z', m) :: r' => bif s && !s' then .br (!m == 1048576) (.ret false) (rleqT r r') else bif z && z' then rleqT r r' else .br (!decide (n ≤ m)) (.ret false) (rleqT r r')
  | _, _ => .ret true
def le1 (x y : C) : Bool := bif x.1 && !y.1 then y.2 == 1048576 else decide (x.2 ≤ y.2)
def leB : List C → List C → Bool
  | x :: r, y :: r' => le1 x y && leB r r'
  | _, _ => true
def S.sym (s : S) : List C := symC s s.k.toNat s.n.toNat
def leqC (a b : S) : Bool := may_F a && (may_F b && (a.f == b.f && (a.k + a.n == b.k + b.n && leB a.sym b.sym)))
def unZ (x : CZ) : C := (x.1, x.2.2)
def ZOk (l : List CZ) : Prop := ∀ x ∈ l, x.2.1 = true → x.2.2 = 0
theorem leqT_holds : ∀ (l l' : List CZ), ZOk l → ZOk l' → (leqT l l').Holds (· = leB (l.map unZ) (l'.map unZ))
  | [], [], _, _ => rfl
  | [], _ :: _, _, _ => rfl
  | _ :: _, [], _, _ => rfl
  | (s, z, n) :: r, (s', z', m) :: r', h, h' => by
    have ih := leqT_holds r r' (fun x hx => h x (List.mem_cons_of_mem _ hx)) (fun x hx => h' x (List.mem_cons_of_mem _ hx))
    simp only [leqT, List.map_cons, leB, unZ, le1]
    cases hs : (s && !s') with
    | true =>
      simp only [cond_true]
      refine ⟨fun hc => ?_, fun hc => ?_⟩
      · show false = _
        rw [show (m == 1048576) = false by simpa [bne] using hc]; rfl
      · rw [show (m == 1048576) = true by simpa [bne] using hc]; simpa using ih
    | false =>
      simp only [cond_false]
      cases hz : (z && z') with
      | true =>
        simp only [Bool.and_eq_true] at hz
        have h1 := h _ (List.mem_cons_self ..) hz.1
        have h2 := h' _ (List.mem_cons_self ..) hz.2
        simp only at h1 h2
        subst h1; subst h2
        simpa using ih
      | false =>
        simp only [cond_false]
        refine ⟨fun hc => ?_, fun hc => ?_⟩
        · show false = _
          rw [decide_eq_false (by have := of_decide_eq_true hc; omega)]; rfl
        · rw [decide_eq_true (p := n ≤ m) (by have := of_decide_eq_false hc; omega)]; simpa using ih
theorem rleqT_eq : ∀ (l l' : List CZ), (rleqT l l').Holds (· = leB (l.map unZ) (l'.map unZ)) ↔ (leqT l l').Holds (· = leB (l.map unZ) (l'.map unZ)) := fun l l' => by
  have : rleqT l l' = leqT l l' := by
    induction l generalizing l' with
    | nil => cases l' <;> rfl
    | cons x r ih =>
      obtain ⟨s, z, n⟩ := x
      cases l' with
      | nil => rfl
      | cons y r' =>
        obtain ⟨s', z', m⟩ := y
        simp only [rleqT, leqT, ih]
        have e1 : (!m == 1048576) = (m != 1048576) := rfl
        have e2 : (!decide (n ≤ m)) = decide (n > m) := by
          by_cases h : n ≤ m
          · rw [decide_eq_true h, decide_eq_false (by omega)]; rfl
          · rw [decide_eq_false h, decide_eq_true (by omega)]; rfl
        rw [e1, e2]
  rw [this]
theorem zok_sym (s : S) (k n : Nat) : ZOk (symZ s k n) := by
  intro x hx hz
  unfold symZ at hx
  rcases List.mem_append.1 hx with h | h
  · cases k with
    | zero => simp at h
    | succ j =>
      simp only [List.mem_append, List.mem_replicate, List.mem_singleton] at h
      rcases h with ⟨_, rfl⟩ | rfl
      · rfl
      · cases hz
  · obtain ⟨y, _, rfl⟩ := List.mem_map.1 h
    cases hz
theorem unZ_sym (s : S) (k n : Nat) : (symZ s k n).map unZ = symC s k n := by
  unfold symZ symC
  cases k <;> simp [unZ, Function.comp_def]
abbrev g1 : Gam := tab1.gamz [] [(20, 0, 5), (66, 0, 5), (39, 4, 5)]
def leqTr (a b : S) (k n k' n' : Nat) : Tr Bool :=
  .br (!may_F (litS a k n) || (!may_F (litS b k' n') || a.f != b.f)) (.ret false) (leqT (symZ a k n) (symZ b k' n'))
def rleqTr (a b : S) (k n k' n' : Nat) : Tr Bool :=
  .br (rcheck_F (litS a k n) != 0 || (rcheck_F (litS b k' n') != 0 || a.f != b.f)) (.ret false) (rleqT (symZ a k n) (symZ b k' n'))
set_option maxHeartbeats 4000000 in
theorem leq_tree (a b : S) (k n k' n' : Nat) (h1 : k + n ≤ 4) (h2 : k' + n' = k + n) : dTree Try.prog g1 noΛ 100 20 [encK a k n, encK b k' n'] dBool = leqTr a b k n k' n' := by
  rcases four (show k ≤ 4 by omega) with rfl | rfl | rfl | rfl | rfl <;> rcases four (show n ≤ 4 by omega) with rfl | rfl | rfl | rfl | rfl <;> first
    | (exfalso; omega)
    | (rcases four (show k' ≤ 4 by omega) with rfl | rfl | rfl | rfl | rfl <;> first
        | (exfalso; omega)
        | (rcases four (show n' ≤ 4 by omega) with rfl | rfl | rfl | rfl | rfl <;> first
            | (exfalso; omega)
            | as_aux_lemma => kernel_rfl))
set_option maxHeartbeats 4000000 in
theorem rleq_tree (a b : S) (k n k' n' : Nat) (h1 : k + n ≤ 4) (h2 : k' + n' = k + n) : dTree Try.prog g1 noΛ 100 39 [encK a k n, encK b k' n'] dBool = rleqTr a b k n k' n' := by
  rcases four (show k ≤ 4 by omega) with rfl | rfl | rfl | rfl | rfl <;> rcases four (show n ≤ 4 by omega) with rfl | rfl | rfl | rfl | rfl <;> first
    | (exfalso; omega)
    | (rcases four (show k' ≤ 4 by omega) with rfl | rfl | rfl | rfl | rfl <;> first
        | (exfalso; omega)
        | (rcases four (show n' ≤ 4 by omega) with rfl | rfl | rfl | rfl | rfl <;> first
            | (exfalso; omega)
            | as_aux_lemma => kernel_rfl))
theorem leq_no (a b : S) : dTree Try.prog g1 noΛ 100 20 (aSS.enc (a, b)) dBool = .br (!may_F a || (!may_F b || (a.f != b.f || w64 (a.k + a.n) != w64 (b.k + b.n)))) (.ret false) (els (dTree Try.prog g1 noΛ 100 20 (aSS.enc (a, b)) dBool)) := by kernel_rfl
theorem rleq_no (a b : S) : dTree Try.prog g1 noΛ 100 39 (aSS.enc (a, b)) dBool = .br (rcheck_F a != 0 || (rcheck_F b != 0 || (a.f != b.f || w64 (a.k + a.n) != w64 (b.k + b.n)))) (.ret false) (els (dTree Try.prog g1 noΛ 100 39 (aSS.enc (a, b)) dBool)) := by kernel_rfl
theorem leqC_cases (a b : S) : (leqC a b = false ∧ (!may_F a || (!may_F b || (a.f != b.f || w64 (a.k + a.n) != w64 (b.k + b.n)))) = true) ∨
    (may_F a = true ∧ may_F b = true ∧ a.f = b.f ∧ a.k + a.n = b.k + b.n ∧ leqC a b = leB a.sym b.sym) := by
  cases ha : may_F a with
  | false => exact .inl ⟨by simp [leqC, ha], rfl⟩
  | true =>
    cases hb : may_F b with
    | false => exact .inl ⟨by simp [leqC, hb], rfl⟩
    | true =>
      have fa := ((may_iff a).1 ha).1
      have fb := ((may_iff b).1 hb).1
      have wa : w64 (a.k + a.n) = a.k + a.n := wr (by omega)
      have wb : w64 (b.k + b.n) = b.k + b.n := wr (by omega)
      rw [wa, wb]
      by_cases hf : a.f = b.f
      · by_cases he : a.k + a.n = b.k + b.n
        · exact .inr ⟨rfl, rfl, hf, he, by simp [leqC, ha, hb, hf, he]⟩
        · exact .inl ⟨by simp [leqC, he], by simp [he]⟩
      · exact .inl ⟨by simp [leqC, hf], by simp [hf]⟩
theorem leqC_ok : FnPure Try.prog 20 aSS dBool (fun g => leqC g.1 g.2) (fun _ => []) := by
  refine pure_of_cases (Γ := g1) (Λ := noΛ) (tab1.okz [] _) noΛ_ok 100 fun g _ _ => ?_
  obtain ⟨a, b⟩ := g
  show ∃ args, (∀ n ρ x, SV.fits n ρ (aSS.enc (a, b)) x → SV.fits n ρ args x) ∧ (dTree Try.prog g1 noΛ 100 20 args dBool).Holds (· = leqC a b)
  rcases leqC_cases a b with ⟨h1, h2⟩ | ⟨ha, hb, hf, he, h⟩
  · refine ⟨_, fun _ _ _ h => h, ?_⟩
    rw [leq_no, h2]
    generalize els (dTree Try.prog g1 noΛ 100 20 (aSS.enc (a, b)) dBool) = r
    exact ⟨fun _ => h1.symm, fun hc => by cases hc⟩
  · obtain ⟨ka, na, h4⟩ := sizes ((may_iff a).1 ha)
    obtain ⟨kb, nb, _⟩ := sizes ((may_iff b).1 hb)
    refine ⟨[encK a a.k.toNat a.n.toNat, encK b b.k.toNat b.n.toNat], fun _ _ _ h => encKK_fit ka na kb nb h, ?_⟩
    rw [leq_tree a b _ _ _ _ h4 (by omega)]
    unfold leqTr
    rw [litS_eq ka na, litS_eq kb nb, ha, hb, hf, h]
    have := leqT_holds _ _ (zok_sym a a.k.toNat a.n.toNat) (zok_sym b b.k.toNat b.n.toNat)
    rw [unZ_sym, unZ_sym] at this
    exact ⟨fun hc => by simp at hc, fun _ => this⟩
theorem rleqC_ok : FnPure Try.prog 39 aSS dBool (fun g => leqC g.1 g.2) (fun _ => []) := by
  refine pure_of_cases (Γ := g1) (Λ := noΛ) (tab1.okz [] _) noΛ_ok 100 fun g _ _ => ?_
  obtain ⟨a, b⟩ := g
  show ∃ args, (∀ n ρ x, SV.fits n ρ (aSS.enc (a, b)) x → SV.fits n ρ args x) ∧ (dTree Try.prog g1 noΛ 100 39 args dBool).Holds (· = leqC a b)
  rcases leqC_cases a b with ⟨h1, h2⟩ | ⟨ha, hb, hf, he, h⟩
  · refine ⟨_, fun _ _ _ h => h, ?_⟩
    rw [rleq_no, rc_ne, rc_ne, h2]
    generalize els (dTree Try.prog g1 noΛ 100 39 (aSS.enc (a, b)) dBool) = r
    exact ⟨fun _ => h1.symm, fun hc => by cases hc⟩
  · obtain ⟨ka, na, h4⟩ := sizes ((may_iff a).1 ha)
    obtain ⟨kb, nb, _⟩ := sizes ((may_iff b).1 hb)
    refine ⟨[encK a a.k.toNat a.n.toNat, encK b b.k.toNat b.n.toNat], fun _ _ _ h => encKK_fit ka na kb nb h, ?_⟩
    rw [rleq_tree a b _ _ _ _ h4 (by omega)]
    unfold rleqTr
    rw [litS_eq ka na, litS_eq kb nb, rc_ne, rc_ne, ha, hb, hf, h]
    have := (rleqT_eq _ _).2 (leqT_holds _ _ (zok_sym a a.k.toNat a.n.toNat) (zok_sym b b.k.toNat b.n.toNat))
    rw [unZ_sym, unZ_sym] at this
    exact ⟨fun hc => by simp at hc, fun _ => this⟩
def tab7 : PTab Try.prog := (tab6.cons 20 (pconP aSS dBool (fun g => leqC g.1 g.2) (fun _ => [])) (conP_ok leqC_ok puB)).cons 39 (pconP aSS dBool (fun g => leqC g.1 g.2) (fun _ => [])) (conP_ok rleqC_ok puB)
end Go.Proofs.Ytapmlfklkfgmoaa
