/- Joins: two ways through a condition meet again in one state. -/
import Derived.Test.YtapmlfklkfgmoaaZSxExec2
set_option linter.unusedVariables false
namespace Go.Sx
open Go.RowKit

/-! ### what holds of every outcome -/
def Tr.Each {α : Type} (p : α → Prop) : Tr α → Prop
  | .ret x => p x
  | .br _ a b => a.Each p ∧ b.Each p
  | .ask _ a => a.Each p
  | .giv _ a => a.Each p
  | .all k => ∀ n, (k n).Each p
  | .bad _ => True
theorem Tr.each_holds {α : Type} {p K : α → Prop} : ∀ {t : Tr α}, t.Each p → t.Holds K → t.Holds fun x => K x ∧ p x
  | .ret _, he, h => ⟨h, he⟩
  | .br _ _ _, he, h => ⟨fun c => each_holds he.1 (h.1 c), fun c => each_holds he.2 (h.2 c)⟩
  | .ask _ _, he, h => ⟨h.1, each_holds he h.2⟩
  | .giv _ _, he, h => fun q => each_holds he (h q)
  | .all _, he, h => fun n => each_holds (he n) (h n)
  | .bad _, _, h => h
theorem Tr.each_bind {α β : Type} {p : β → Prop} {f : α → Tr β} (hf : ∀ x, (f x).Each p) (t : Tr α) : (t.bind f).Each p := by
  induction t with
  | ret x => exact hf x
  | br c a b iha ihb => exact ⟨iha, ihb⟩
  | ask q a ih => exact ih
  | giv q a ih => exact ih
  | all k ih => exact fun n => ih n
  | bad _ => trivial
theorem Tr.each_bind' {α β : Type} {p : α → Prop} {q : β → Prop} {f : α → Tr β} (hf : ∀ x, p x → (f x).Each q) {t : Tr α} (h : t.Each p) : (t.bind f).Each q := by
  induction t with
  | ret x => exact hf x h
  | br c a b iha ihb => exact ⟨iha h.1, ihb h.2⟩
  | ask q a ih => exact ih h
  | giv q a ih => exact ih h
  | all k ih => exact fun n => ih n (h n)
  | bad _ => trivial
def Tr.map {α β : Type} (f : α → β) : Tr α → Tr β
  | .ret x => .ret (f x)
  | .br c a b => .br c (a.map f) (b.map f)
  | .ask p a => .ask p (a.map f)
  | .giv p a => .giv p (a.map f)
  | .all k => .all fun n => (k n).map f
  | .bad w => .bad w
theorem Tr.holds_map {α β : Type} {f : α → β} {K : β → Prop} : ∀ {t : Tr α}, (t.map f).Holds K → t.Holds fun x => K (f x)
  | .ret _, h => h
  | .br _ _ _, h => ⟨fun c => holds_map (h.1 c), fun c => holds_map (h.2 c)⟩
  | .ask _ _, h => ⟨h.1, holds_map h.2⟩
  | .giv _ _, h => fun q => holds_map (h q)
  | .all _, h => fun n => holds_map (h n)
  | .bad _, h => h
theorem Tr.each_map {α β : Type} {f : α → β} {p : β → Prop} {q : α → Prop} (hf : ∀ x, q x → p (f x)) {t : Tr α} (h : t.Each q) : (t.map f).Each p := by
  induction t with
  | ret x => exact hf x h
  | br c a b iha ihb => exact ⟨iha h.1, ihb h.2⟩
  | ask q a ih => exact ih h
  | giv q a ih => exact ih h
  | all k ih => exact fun n => ih n (h n)
  | bad _ => trivial

/-! ### two trees become one -/
inductive It (α : Type) where
  | out (c : Bool) (a : Tr α)
  | ask (p : Prop)
section
variable {α : Type}
def Tr.hasN (isN : α → Bool) : Tr α → Bool
  | .ret x => isN x
  | .br _ a b => a.hasN isN || b.hasN isN
  | .ask _ a => a.hasN isN
  | .giv _ a => a.hasN isN
  | .all _ => true
  | .bad _ => false
def wrapG (z : Bool) : List (It α) → Tr α → Tr α
  | [], t => t
  | .out c a :: r, t => .br (z && c) a (wrapG z r t)
  | .ask p :: r, t => .ask (z = true → p) (wrapG z r t)
/-- What ends otherwise along the way, and the one outcome from which it goes on. -/
def pull (isN : α → Bool) : Tr α → Option (List (It α) × α)
  | .ret x => some ([], x)
  | .br c a b =>
    match a.hasN isN with
    | true => match b.hasN isN with
      | true => none
      | false => match pull isN a with
        | some (l, x) => some (.out (!c) b :: l, x)
        | none => none
    | false => match pull isN b with
      | some (l, x) => some (.out c a :: l, x)
      | none => none
  | .ask p a => match pull isN a with
    | some (l, x) => some (.ask p :: l, x)
    | none => none
  | _ => none
def mergeX (isN : α → Bool) (join : Bool → α → α → Option α) (z : Bool) (t u : Tr α) : Tr α :=
  match t.hasN isN && u.hasN isN with
  | true =>
    match pull isN t, pull isN u with
    | some (l, x), some (m, y) => match join z x y with
      | some j => wrapG z l (wrapG (!z) m (.ret j))
      | none => .br z t u
    | _, _ => .br z t u
  | false => .br z t u
def compress (isN : α → Bool) (join : Bool → α → α → Option α) : Tr α → Tr α
  | .br c a b => mergeX isN join c (compress isN join a) (compress isN join b)
  | .ask p a => .ask p (compress isN join a)
  | t => t

theorem wrapG_false {K : α → Prop} : ∀ {l : List (It α)} {t : Tr α}, (wrapG false l t).Holds K → t.Holds K
  | [], _, h => h
  | .out c a :: l, t, h => wrapG_false (l := l) (h.2 rfl)
  | .ask p :: l, t, h => wrapG_false (l := l) h.2
theorem pull_holds {isN : α → Bool} {K : α → Prop} : ∀ {t : Tr α} {l : List (It α)} {x : α}, pull isN t = some (l, x) → ∀ {u : Tr α}, (wrapG true l u).Holds K → (u.Holds K → K x) → t.Holds K
  | .ret x, l, y, h, u, hw, hx => by
    simp only [pull, Option.some.injEq, Prod.mk.injEq] at h
    obtain ⟨rfl, rfl⟩ := h
    exact hx hw
  | .br c a b, l, y, h, u, hw, hx => by
    simp only [pull] at h
    split at h
    · split at h
      · cases h
      · split at h
        · rename_i l' x' hp
          simp only [Option.some.injEq, Prod.mk.injEq] at h
          obtain ⟨rfl, rfl⟩ := h
          simp only [wrapG, Tr.Holds, Bool.true_and] at hw
          exact ⟨fun hc => pull_holds hp (hw.2 (by rw [hc]; rfl)) hx, fun hc => hw.1 (by rw [hc]; rfl)⟩
        · cases h
    · split at h
      · rename_i l' x' hp
        simp only [Option.some.injEq, Prod.mk.injEq] at h
        obtain ⟨rfl, rfl⟩ := h
        simp only [wrapG, Tr.Holds, Bool.true_and] at hw
        exact ⟨fun hc => hw.1 hc, fun hc => pull_holds hp (hw.2 hc) hx⟩
      · cases h
  | .ask p a, l, y, h, u, hw, hx => by
    simp only [pull] at h
    split at h
    · rename_i l' x' hp
      simp only [Option.some.injEq, Prod.mk.injEq] at h
      obtain ⟨rfl, rfl⟩ := h
      simp only [wrapG, Tr.Holds] at hw
      exact ⟨hw.1 trivial, pull_holds hp hw.2 hx⟩
    · cases h
  | .giv _ _, l, y, h, u, _, _ => by simp [pull] at h
  | .all _, l, y, h, u, _, _ => by simp [pull] at h
  | .bad _, l, y, h, u, _, _ => by simp [pull] at h
theorem pull_each {isN : α → Bool} {P : α → Prop} : ∀ {t : Tr α} {l : List (It α)} {x : α}, pull isN t = some (l, x) → t.Each P → P x ∧ ∀ c a, It.out c a ∈ l → a.Each P
  | .ret x, l, y, h, he => by
    simp only [pull, Option.some.injEq, Prod.mk.injEq] at h
    obtain ⟨rfl, rfl⟩ := h
    exact ⟨he, fun c a hm => by simp at hm⟩
  | .br c a b, l, y, h, he => by
    simp only [pull] at h
    split at h
    · split at h
      · cases h
      · split at h
        · rename_i l' x' hp
          simp only [Option.some.injEq, Prod.mk.injEq] at h
          obtain ⟨rfl, rfl⟩ := h
          obtain ⟨h1, h2⟩ := pull_each hp he.1
          refine ⟨h1, fun c' a' hm => ?_⟩
          rcases List.mem_cons.1 hm with hm | hm
          · cases hm; exact he.2
          · exact h2 c' a' hm
        · cases h
    · split at h
      · rename_i l' x' hp
        simp only [Option.some.injEq, Prod.mk.injEq] at h
        obtain ⟨rfl, rfl⟩ := h
        obtain ⟨h1, h2⟩ := pull_each hp he.2
        refine ⟨h1, fun c' a' hm => ?_⟩
        rcases List.mem_cons.1 hm with hm | hm
        · cases hm; exact he.1
        · exact h2 c' a' hm
      · cases h
  | .ask p a, l, y, h, he => by
    simp only [pull] at h
    split at h
    · rename_i l' x' hp
      simp only [Option.some.injEq, Prod.mk.injEq] at h
      obtain ⟨rfl, rfl⟩ := h
      obtain ⟨h1, h2⟩ := pull_each hp he
      refine ⟨h1, fun c' a' hm => ?_⟩
      rcases List.mem_cons.1 hm with hm | hm
      · cases hm
      · exact h2 c' a' hm
    · cases h
  | .giv _ _, l, y, h, _ => by simp [pull] at h
  | .all _, l, y, h, _ => by simp [pull] at h
  | .bad _, l, y, h, _ => by simp [pull] at h
theorem wrapG_each {P : α → Prop} {z : Bool} : ∀ {l : List (It α)} {t : Tr α}, (∀ c a, It.out c a ∈ l → a.Each P) → t.Each P → (wrapG z l t).Each P
  | [], _, _, h => h
  | .out c a :: l, t, hl, h => ⟨hl c a (List.mem_cons_self ..), wrapG_each (fun c' a' hm => hl c' a' (List.mem_cons_of_mem _ hm)) h⟩
  | .ask p :: l, t, hl, h => wrapG_each (l := l) (fun c' a' hm => hl c' a' (List.mem_cons_of_mem _ hm)) h

/-- What is known of an outcome is less in the other one. -/
structure Joins (P : α → Prop) (W : α → α → Prop) (join : Bool → α → α → Option α) : Prop where
  refl : ∀ x, W x x
  trans : ∀ x y z, W x y → W y z → W x z
  join : ∀ z x y j, join z x y = some j → P x → P y → P j ∧ (z = true → W x j) ∧ (z = false → W y j)
theorem mergeX_each {P : α → Prop} {W : α → α → Prop} {isN : α → Bool} {join : Bool → α → α → Option α} (hj : Joins P W join) {z : Bool} {t u : Tr α} (ht : t.Each P) (hu : u.Each P) : (mergeX isN join z t u).Each P := by
  unfold mergeX
  split
  · split
    · rename_i l x m y h1 h2
      split
      · rename_i j hjn
        obtain ⟨p1, p2⟩ := pull_each h1 ht
        obtain ⟨q1, q2⟩ := pull_each h2 hu
        exact wrapG_each p2 (wrapG_each q2 (hj.join _ _ _ _ hjn p1 q1).1)
      · exact ⟨ht, hu⟩
    · exact ⟨ht, hu⟩
  · exact ⟨ht, hu⟩
theorem mergeX_holds {P : α → Prop} {W : α → α → Prop} {isN : α → Bool} {join : Bool → α → α → Option α} (hj : Joins P W join) {z : Bool} {t u : Tr α} (ht : t.Each P) (hu : u.Each P) {K : α → Prop} (h : (mergeX isN join z t u).Holds K) :
    (z = true → t.Holds fun x => ∃ j, W x j ∧ K j) ∧ (z = false → u.Holds fun x => ∃ j, W x j ∧ K j) := by
  have triv : (Tr.br z t u).Holds K → (z = true → t.Holds fun x => ∃ j, W x j ∧ K j) ∧ (z = false → u.Holds fun x => ∃ j, W x j ∧ K j) := fun h =>
    ⟨fun hz => Tr.mono (fun x hk => ⟨x, hj.refl x, hk⟩) (h.1 hz), fun hz => Tr.mono (fun x hk => ⟨x, hj.refl x, hk⟩) (h.2 hz)⟩
  unfold mergeX at h
  split at h
  · split at h
    · rename_i l x m y h1 h2
      split at h
      · rename_i j hjn
        obtain ⟨p1, _⟩ := pull_each h1 ht
        obtain ⟨q1, _⟩ := pull_each h2 hu
        obtain ⟨_, w1, w2⟩ := hj.join _ _ _ _ hjn p1 q1
        have h' := Tr.mono (K' := fun x => ∃ j, W x j ∧ K j) (fun x hk => ⟨x, hj.refl x, hk⟩) h
        constructor
        · rintro rfl
          refine pull_holds h1 h' fun hh => ?_
          obtain ⟨j', hw, hk⟩ := wrapG_false (l := m) hh
          exact ⟨j', hj.trans _ _ _ (w1 rfl) hw, hk⟩
        · rintro rfl
          have h'' := wrapG_false (l := l) h'
          refine pull_holds h2 h'' fun hh => ?_
          obtain ⟨j', hw, hk⟩ := hh
          exact ⟨j', hj.trans _ _ _ (w2 rfl) hw, hk⟩
      · exact triv h
    · exact triv h
  · exact triv h
theorem compress_each {P : α → Prop} {W : α → α → Prop} {isN : α → Bool} {join : Bool → α → α → Option α} (hj : Joins P W join) {t : Tr α} (h : t.Each P) : (compress isN join t).Each P := by
  induction t with
  | ret x => exact h
  | br c a b iha ihb => exact mergeX_each hj (iha h.1) (ihb h.2)
  | ask q a ih => exact ih h
  | giv q a ih => exact h
  | all k ih => exact h
  | bad _ => exact h
theorem compress_holds {P : α → Prop} {W : α → α → Prop} {isN : α → Bool} {join : Bool → α → α → Option α} (hj : Joins P W join) : ∀ {t : Tr α} {K : α → Prop}, t.Each P → (compress isN join t).Holds K → t.Holds fun x => ∃ j, W x j ∧ K j
  | .ret x, K, _, h => ⟨x, hj.refl x, h⟩
  | .br c a b, K, he, h => by
    obtain ⟨h1, h2⟩ := mergeX_holds hj (compress_each hj he.1) (compress_each hj he.2) h
    refine ⟨fun hc => Tr.mono (fun x hk => ?_) (compress_holds hj he.1 (h1 hc)), fun hc => Tr.mono (fun x hk => ?_) (compress_holds hj he.2 (h2 hc))⟩
    · obtain ⟨j, w, j', w', k⟩ := hk; exact ⟨j', hj.trans _ _ _ w w', k⟩
    · obtain ⟨j, w, j', w', k⟩ := hk; exact ⟨j', hj.trans _ _ _ w w', k⟩
  | .ask p a, K, he, h => ⟨h.1, compress_holds hj (t := a) he h.2⟩
  | .giv p a, K, _, h => fun hp => Tr.mono (fun x hk => ⟨x, hj.refl x, hk⟩) (h hp)
  | .all k, K, _, h => fun n => Tr.mono (fun x hk => ⟨x, hj.refl x, hk⟩) (h n)
  | .bad _, K, _, h => h
end

end Go.Sx
