/- Chapter 2: what Then and Apply make: plain functions; the contracts of both sides. -/
import Derived.Test.YtapmlfklkfgmoaaZA4r
set_option linter.unusedVariables false
namespace Go.Proofs.Ytapmlfklkfgmoaa
open Go.RowKit Go.Sx
def thenC (a b : S) (k k' n' : Nat) : S × Int :=
  bif Nat.beq k' k then (bif decide (b.a + a.a > 1048576) then (zS, 12) else (mkS a.f k (b.a + a.a) n' b.p, 0))
  else bif Nat.blt k k' then (bif decide (a.p.getD (k' - k - 1) 0 + b.a > 1048576) then (zS, 12) else (mkS a.f k a.a (k' - k + n' : Nat) ((a.p.take (k' - k - 1) ++ [a.p.getD (k' - k - 1) 0 + b.a]) ++ b.p.take n'), 0))
  else (mkS a.f k' b.a n' b.p, 0)
def thenF (a b : S) : S × Int :=
  bif !may_F a || !may_F b then (zS, 20) else bif a.k + a.n != b.f then (zS, 11) else thenC a b a.k.toNat b.k.toNat b.n.toNat
theorem p_mem {s : S} (h : s.Ok) : ∀ x ∈ s.p, 0 ≤ x ∧ x ≤ 1048576 := by
  unfold S.Ok at h
  intro x hx
  simp only [S.p, List.mem_cons, List.not_mem_nil, or_false] at hx
  rcases hx with rfl | rfl | rfl | rfl <;> omega
theorem p_get {s : S} (h : s.Ok) (i : Nat) : 0 ≤ s.p.getD i 0 ∧ s.p.getD i 0 ≤ 1048576 := by
  by_cases hi : i < s.p.length
  · rw [List.getD_eq_getElem?_getD, List.getElem?_eq_getElem hi]
    exact p_mem h _ (List.getElem_mem hi)
  · rw [List.getD_eq_getElem?_getD, List.getElem?_eq_none (by omega)]
    simp
theorem mkS_take {b : S} (hb : b.Ok) {n' : Nat} (hn : b.n = n') (f k a n : Int) : mkS f k a n (b.p.take n') = mkS f k a n b.p := by
  unfold S.Ok at hb
  rcases four (show n' ≤ 4 by omega) with rfl | rfl | rfl | rfl | rfl <;> simp [mkS, S.p] <;> omega
theorem okmk {f k a : Int} {n : Nat} {l : List Int} (hl : l.length = n) (hf : 0 ≤ f ∧ f ≤ 4 ∧ 0 ≤ k ∧ k ≤ f ∧ k + n ≤ 4) : (mkS f k a n l).Ok ↔ (0 ≤ a ∧ a ≤ 1048576 ∧ (k = 0 → a = 0)) ∧ ∀ x ∈ l, 0 ≤ x ∧ x ≤ 1048576 := by
  subst hl
  have h4 : l.length ≤ 4 := by omega
  match l, h4 with
  | [], _ => simp [mkS, S.Ok]; simp at hf; omega
  | [x0], _ => simp [mkS, S.Ok]; simp at hf; omega
  | [x0, x1], _ => simp [mkS, S.Ok]; simp at hf; omega
  | [x0, x1, x2], _ => simp [mkS, S.Ok]; simp at hf; omega
  | [x0, x1, x2, x3], _ => simp [mkS, S.Ok]; simp at hf; omega
theorem sizes {s : S} (h : s.Ok) : s.k = (s.k.toNat : Int) ∧ s.n = (s.n.toNat : Int) ∧ s.k.toNat + s.n.toNat ≤ 4 := by
  have := h.1
  omega
theorem len_p (s : S) : s.p.length = 4 := rfl
theorem then_facts {a b : S} (ha : may_F a = true) (hb : may_F b = true) (he : a.k + a.n = b.f) : a.k.toNat + a.n.toNat ≤ 4 ∧ b.k.toNat ≤ a.k.toNat + a.n.toNat ∧ b.k.toNat + b.n.toNat ≤ 4 := by
  have fa := ((may_iff a).1 ha).1
  have fb := ((may_iff b).1 hb).1
  omega
theorem thenF_core {a b : S} (ha : may_F a = true) (hb : may_F b = true) (he : a.k + a.n = b.f) : thenF a b = thenC a b a.k.toNat b.k.toNat b.n.toNat := by
  unfold thenF
  rw [ha, hb, he]
  simp
theorem notOr {a b : Bool} (h : (!a || !b) = false) : a = true ∧ b = true := by cases a <;> cases b <;> simp_all
theorem then_ok : FnPure Try.prog 12 aSS dSE (fun g => thenF g.1 g.2) (fun _ => []) := by
  refine pure_of_cases (Γ := g3) (Λ := noΛ) (tab3.okz [] []) noΛ_ok 100 fun g _ _ => ?_
  obtain ⟨a, b⟩ := g
  show ∃ args, (∀ n ρ x, SV.fits n ρ (aSS.enc (a, b)) x → SV.fits n ρ args x) ∧ (dTree Try.prog g3 noΛ 100 12 args dSE).Holds (· = thenF a b)
  cases hab : (!may_F a || !may_F b) with
  | true =>
    refine ⟨_, fun _ _ _ h => h, ?_⟩
    rw [then_no]
    generalize els (dTree Try.prog g3 noΛ 100 12 (aSS.enc (a, b)) dSE) = r
    refine ⟨fun _ => ?_, fun hc => (by rw [hab] at hc; cases hc)⟩
    show (zS, (20 : Int)) = thenF a b
    unfold thenF; rw [hab]; rfl
  | false =>
    obtain ⟨ha, hb⟩ := notOr hab
    have oa := (may_iff a).1 ha
    have ob := (may_iff b).1 hb
    have fa := oa.1
    have fb := ob.1
    have hw : w64 (a.k + a.n) = a.k + a.n := wr (by omega)
    by_cases he : a.k + a.n = b.f
    · obtain ⟨h1, h2, h3⟩ := then_facts ha hb he
      obtain ⟨ka, na, _⟩ := sizes oa
      obtain ⟨kb, nb, _⟩ := sizes ob
      refine ⟨[encK a a.k.toNat a.n.toNat, encK b b.k.toNat b.n.toNat], fun _ _ _ h => encKK_fit ka na kb nb h, ?_⟩
      rw [then_tree a b _ _ _ _ h1 h2 h3, thenF_core ha hb he]
      unfold thenTr
      rw [litS_eq ka na, litS_eq kb nb, hab, ← ka, ← na, hw, he]
      refine ⟨fun hc => (by cases hc), fun _ => ⟨fun hc => (by simp at hc), fun _ => ?_⟩⟩
      have hp := p_get oa (b.k.toNat - a.k.toNat - 1)
      have ga := oa.2.1
      have gb := ob.2.1
      unfold thenRest thenC
      cases hk : Nat.beq b.k.toNat a.k.toNat with
      | true =>
        rw [beq_of hk]
        have hw2 : w64 (b.a + a.a) = b.a + a.a := wr (by omega)
        simp only [cond_true, hw2]
        exact ⟨fun h => by rw [h]; rfl, fun h => by rw [h]; rfl⟩
      | false =>
        simp only [cond_false]
        cases hl : Nat.blt a.k.toNat b.k.toNat with
        | true =>
          have hw2 : w64 (a.p.getD (b.k.toNat - a.k.toNat - 1) 0 + b.a) = a.p.getD (b.k.toNat - a.k.toNat - 1) 0 + b.a := wr (by omega)
          simp only [cond_true, hw2]
          exact ⟨fun h => by rw [h]; rfl, fun h => ⟨fun h' => by simp at h'; omega, fun _ => by rw [h]; rfl⟩⟩
        | false =>
          simp only [cond_false]
          exact ⟨fun h' => by simp at h'; omega, fun _ => rfl⟩
    · refine ⟨_, fun _ _ _ h => h, ?_⟩
      rw [then_no]
      refine ⟨fun hc => (by rw [hab] at hc; cases hc), fun _ => ?_⟩
      rw [then_no2, hw]
      generalize els (els (dTree Try.prog g3 noΛ 100 12 (aSS.enc (a, b)) dSE)) = r
      refine ⟨fun _ => ?_, fun hc => absurd (bne_eq_false_iff_eq.1 hc) he⟩
      show (zS, (11 : Int)) = thenF a b
      unfold thenF; rw [hab, show (a.k + a.n != b.f) = true by simpa using he]; rfl
theorem rc_or (a b : S) : (rcheck_F a != 0 || rcheck_F b != 0) = (!may_F a || !may_F b) := by
  rw [rcheck_eq, rcheck_eq]
  cases may_F a <;> cases may_F b <;> rfl
theorem rc_ne (s : S) : (rcheck_F s != 0) = !may_F s := by
  rw [rcheck_eq]
  cases may_F s <;> rfl
theorem may_false {s : S} (h : ¬ s.Ok) : may_F s = false := by
  cases hm : may_F s with
  | true => exact absurd ((may_iff s).1 hm) h
  | false => rfl
theorem rthen_ok : FnPure Try.prog 13 aSS dSE (fun g => thenF g.1 g.2) (fun _ => []) := by
  refine pure_of_cases (Γ := g3) (Λ := noΛ) (tab3.okz [] []) noΛ_ok 100 fun g _ _ => ?_
  obtain ⟨a, b⟩ := g
  show ∃ args, (∀ n ρ x, SV.fits n ρ (aSS.enc (a, b)) x → SV.fits n ρ args x) ∧ (dTree Try.prog g3 noΛ 100 13 args dSE).Holds (· = thenF a b)
  cases hab : (!may_F a || !may_F b) with
  | true =>
    refine ⟨_, fun _ _ _ h => h, ?_⟩
    rw [rthen_no, rc_or]
    generalize els (dTree Try.prog g3 noΛ 100 13 (aSS.enc (a, b)) dSE) = r
    refine ⟨fun _ => ?_, fun hc => (by rw [hab] at hc; cases hc)⟩
    show (zS, (20 : Int)) = thenF a b
    unfold thenF; rw [hab]; rfl
  | false =>
    obtain ⟨ha, hb⟩ := notOr hab
    have oa := (may_iff a).1 ha
    have ob := (may_iff b).1 hb
    have fa := oa.1
    have fb := ob.1
    have hw : w64 (a.k + a.n) = a.k + a.n := wr (by omega)
    by_cases he : a.k + a.n = b.f
    · obtain ⟨h1, h2, h3⟩ := then_facts ha hb he
      obtain ⟨ka, na, _⟩ := sizes oa
      obtain ⟨kb, nb, _⟩ := sizes ob
      refine ⟨[encK a a.k.toNat a.n.toNat, encK b b.k.toNat b.n.toNat], fun _ _ _ h => encKK_fit ka na kb nb h, ?_⟩
      rw [rthen_tree a b _ _ _ _ h1 h2 h3, thenF_core ha hb he]
      unfold rthenTr
      rw [litS_eq ka na, litS_eq kb nb, rc_or, hab, ← ka, ← na, hw, he, rc_ne]
      refine ⟨fun hc => (by cases hc), fun _ => ⟨fun hc => (by simp at hc), fun _ => ?_⟩⟩
      have hp := p_get oa (b.k.toNat - a.k.toNat - 1)
      have ga := oa.2.1
      have gb := ob.2.1
      have pa := p_mem oa
      have pb := p_mem ob
      unfold rthenS thenC
      cases hk : Nat.beq b.k.toNat a.k.toNat with
      | true =>
        have hkk := beq_of hk
        have hw2 : w64 (a.a + b.a) = b.a + a.a := by rw [show w64 (a.a + b.a) = a.a + b.a from wr (by omega)]; omega
        simp only [cond_true, hw2]
        have hok := okmk (f := a.f) (k := (a.k.toNat : Int)) (a := b.a + a.a) (n := b.n.toNat) (l := b.p.take b.n.toNat) (by rw [List.length_take, len_p]; omega) (by omega)
        rw [mkS_take ob nb] at hok ⊢
        by_cases hx : b.a + a.a > 1048576
        · rw [may_false (fun h => by have := (hok.1 h).1; omega), decide_eq_true hx]
          exact ⟨fun _ => rfl, fun h => (by cases h)⟩
        · rw [(may_iff _).2 (hok.2 ⟨by omega, fun x hx => pb x (List.mem_of_mem_take hx)⟩), decide_eq_false hx]
          exact ⟨fun h => (by cases h), fun _ => rfl⟩
      | false =>
        simp only [cond_false]
        cases hl : Nat.blt a.k.toNat b.k.toNat with
        | true =>
          have hlt : a.k.toNat < b.k.toNat := Nat.le_of_ble_eq_true hl
          have hw2 : w64 (a.p.getD (b.k.toNat - a.k.toNat - 1) 0 + b.a) = a.p.getD (b.k.toNat - a.k.toNat - 1) 0 + b.a := wr (by omega)
          simp only [cond_true, hw2]
          have hok := okmk (f := a.f) (k := (a.k.toNat : Int)) (a := a.a) (n := b.k.toNat - a.k.toNat + b.n.toNat) (l := (a.p.take (b.k.toNat - a.k.toNat - 1) ++ [a.p.getD (b.k.toNat - a.k.toNat - 1) 0 + b.a]) ++ b.p.take b.n.toNat)
            (by simp only [List.length_append, List.length_take, len_p, List.length_cons, List.length_nil]; omega) (by omega)
          by_cases hx : a.p.getD (b.k.toNat - a.k.toNat - 1) 0 + b.a > 1048576
          · rw [may_false (fun h => by have := (hok.1 h).2 _ (List.mem_append_left _ (List.mem_append_right _ (List.mem_singleton.2 rfl))); omega), decide_eq_true hx]
            exact ⟨fun _ => rfl, fun h => (by cases h)⟩
          · rw [(may_iff _).2 (hok.2 ⟨by omega, fun x hx' => by
              rcases List.mem_append.1 hx' with h | h
              · rcases List.mem_append.1 h with h | h
                · exact pa x (List.mem_of_mem_take h)
                · rw [List.mem_singleton.1 h]; omega
              · exact pb x (List.mem_of_mem_take h)⟩), decide_eq_false hx]
            exact ⟨fun h => (by cases h), fun _ => rfl⟩
        | false =>
          have hlt : b.k.toNat < a.k.toNat := by
            have h1 : ¬ a.k.toNat < b.k.toNat := fun h => by rw [show Nat.blt a.k.toNat b.k.toNat = true from Nat.ble_eq_true_of_le h] at hl; cases hl
            have h2 : b.k.toNat ≠ a.k.toNat := fun h => by rw [h, Nat.beq_refl] at hk; cases hk
            omega
          have hw2 : w64 (0 + b.a) = b.a := by rw [show w64 (0 + b.a) = 0 + b.a from wr (by omega)]; omega
          simp only [cond_false, hw2]
          have hok := okmk (f := a.f) (k := (b.k.toNat : Int)) (a := b.a) (n := b.n.toNat) (l := b.p.take b.n.toNat) (by rw [List.length_take, len_p]; omega) (by omega)
          rw [mkS_take ob nb] at hok ⊢
          rw [(may_iff _).2 (hok.2 ⟨by omega, fun x hx => pb x (List.mem_of_mem_take hx)⟩)]
          exact ⟨fun h => (by cases h), fun _ => rfl⟩
    · refine ⟨_, fun _ _ _ h => h, ?_⟩
      rw [rthen_no, rc_or]
      refine ⟨fun hc => (by rw [hab] at hc; cases hc), fun _ => ?_⟩
      rw [rthen_no2, hw]
      generalize els (els (dTree Try.prog g3 noΛ 100 13 (aSS.enc (a, b)) dSE)) = r
      refine ⟨fun _ => ?_, fun hc => absurd (bne_eq_false_iff_eq.1 hc) he⟩
      show (zS, (11 : Int)) = thenF a b
      unfold thenF; rw [hab, show (a.k + a.n != b.f) = true by simpa using he]; rfl
end Go.Proofs.Ytapmlfklkfgmoaa
