/- Joins of states. -/
import Derived.Test.YtapmlfklkfgmoaaZSxJoin
set_option linter.unusedVariables false
namespace Go.Sx
open Go.RowKit

def St.base (σ : St) : St := ⟨σ.n, [], ⟨σ.h.nx, [], σ.h.l ++ σ.h.b⟩, σ.d, σ.t ++ σ.b⟩
def St.pop (σ y : St) : St := ⟨y.n, y.t ++ σ.t, ⟨y.h.nx, y.h.l ++ σ.h.l, σ.h.b⟩, y.d, σ.b⟩
/-- It stands upon these bases. -/
def St.On (B : List (Nat × SV)) (HB : List (Nat × SE)) (y : St) : Prop := y.b = B ∧ y.h.b = HB

def jkeys {α : Type} : List (Nat × α) → List Nat → List Nat
  | [], acc => acc
  | (i, _) :: r, acc => bif acc.any (Nat.beq i) then jkeys r acc else jkeys r (i :: acc)
def clash (a b : SV) : Bool :=
  match a, b with
  | .ow i _, .ow j _ => !Nat.beq i j
  | .ow _ _, .k y => nilK y
  | .k y, .ow _ _ => nilK y
  | _, _ => false
def joinSlots (fo z : Bool) (x y : St) : List Nat → Option (List (Nat × SV))
  | [] => some []
  | i :: r => bif !fo && clash (x.slot i) (y.slot i) then none else match joinSlots fo z x y r with
    | some t => some ((i, joinV 9 z (x.slot i) (y.slot i)) :: t)
    | none => none
def joinO (new z : Bool) (a b : SO) : Option SO :=
  match a, b with
  | .dead, _ => some .dead
  | _, .dead => some .dead
  | .cells xs t, .cells ys t' => match Nat.beq t t', joinVs (joinV 9 z) xs ys with
    | true, some l => some (.cells l t)
    | _, _ => bif new then some .dead else none
  | .obj (.deferred (some [])), .obj (.deferred (some [])) => some (.obj (.deferred (some [])))
  | .row t s el m, .row t' s' el' m' => bif Nat.beq t t' && Nat.beq s s' then some (.row t s (bif z then el else el') (bif z then m else m')) else (bif new then some .dead else none)
  | _, _ => bif new then some .dead else none
/-- The cells of a block that are written; none: all of it. -/
def posE (i : Nat) : List (Nat × SE) → Option (List Nat)
  | [] => some []
  | (j, x) :: r => bif Nat.beq i j then (match x with
      | .o _ => none
      | .lp _ _ => posE i r
      | .c p _ => match posE i r with
        | some l => some (p :: l)
        | none => none) else posE i r
def dedup : List Nat → List Nat → List Nat
  | [], acc => acc
  | i :: r, acc => bif acc.any (Nat.beq i) then dedup r acc else dedup r (i :: acc)
def joinOne (nx0 : Nat) (z : Bool) (x y : SH) (i : Nat) : Option (List (Nat × SE)) :=
  match posE i x.l, posE i y.l with
  | some ps, some qs => match x.get i, y.get i with
    | .cells xs _, .cells ys _ => some ((dedup ps (dedup qs [])).map fun p => (i, .c p (joinV 9 z (xs.getD p .u) (ys.getD p .u))))
    | .loop .ready none _ _ _ _ _ _, .loop .ready none _ _ _ _ _ _ => some [(i, .lp .ready none)]
    | _, _ => none
  | _, _ => match joinO (Nat.ble nx0 i) z (x.get i) (y.get i) with
    | some o => some [(i, .o o)]
    | none => none
def joinObjs (nx0 : Nat) (z : Bool) (x y : SH) : List Nat → Option (List (Nat × SE))
  | [] => some []
  | i :: r => match joinOne nx0 z x y i, joinObjs nx0 z x y r with
    | some a, some l => some (a ++ l)
    | _, _ => none
def natsEq : List Nat → List Nat → Bool
  | [], [] => true
  | a :: l, b :: m => Nat.beq a b && natsEq l m
  | _, _ => false
/-- 'fo': whatever the slots hold. -/
def joinSt (fo : Bool) (nx0 : Nat) (z : Bool) (x y : St) : Option St :=
  bif Nat.beq x.n y.n && natsEq x.d y.d then
    match joinSlots fo z x y (jkeys y.t (jkeys x.t [])), joinObjs nx0 z x.h y.h (jkeys y.h.l (jkeys x.h.l [])) with
    | some t, some l => some ⟨x.n, t, ⟨bif Nat.ble x.h.nx y.h.nx then y.h.nx else x.h.nx, l, x.h.b⟩, x.d, x.b⟩
    | _, _ => none
  else none

/-- Less is known in the other state. -/
structure Wk (x j : St) : Prop where
  on : j.On x.b x.h.b
  nx : x.h.nx ≤ j.h.nx
  mod : ∀ (M : Nat → Prop) (w0 w : World) (ρ : Rh) (a : Act), Mod M w0 ρ x a w → Mod M w0 ρ j a w
theorem Wk.refl (x : St) : Wk x x := ⟨⟨rfl, rfl⟩, Nat.le_refl _, fun _ _ _ _ _ h => h⟩
theorem Wk.trans {x y z : St} (h : Wk x y) (h' : Wk y z) : Wk x z := ⟨⟨h'.on.1.trans h.on.1, h'.on.2.trans h.on.2⟩, Nat.le_trans h.nx h'.nx, fun M w0 w ρ a hm => h'.mod M w0 w ρ a (h.mod M w0 w ρ a hm)⟩

theorem jkeys_mem {α : Type} : ∀ (l : List (Nat × α)) (acc : List Nat) (i : Nat), i ∈ jkeys l acc ↔ i ∈ acc ∨ i ∈ l.map (·.1)
  | [], acc, i => by simp [jkeys]
  | (j, a) :: r, acc, i => by
    simp only [jkeys]
    cases hb : acc.any (Nat.beq j) with
    | true =>
      simp only [cond_true]
      rw [jkeys_mem r acc i]
      have hj : j ∈ acc := by
        obtain ⟨k, hk, hjk⟩ := List.any_eq_true.1 hb
        rw [beq_of hjk]; exact hk
      simp only [List.map_cons, List.mem_cons]
      constructor
      · rintro (h | h)
        · exact .inl h
        · exact .inr (.inr h)
      · rintro (h | h | h)
        · exact .inl h
        · exact .inl (h ▸ hj)
        · exact .inr h
    | false =>
      simp only [cond_false]
      rw [jkeys_mem r (j :: acc) i]
      simp only [List.map_cons, List.mem_cons]
      constructor
      · rintro ((h | h) | h)
        · exact .inr (.inl h)
        · exact .inl h
        · exact .inr (.inr h)
      · rintro (h | h | h)
        · exact .inl (.inr h)
        · exact .inl (.inl h)
        · exact .inr h
theorem look_not {α : Type} (d : α) (i : Nat) : ∀ {l : List (Nat × α)}, i ∉ l.map (·.1) → look d i l = d
  | [], _ => rfl
  | (j, x) :: r, h => by
    simp only [List.map_cons, List.mem_cons, not_or] at h
    rw [look_cons, if_neg h.1, look_not d i h.2]
theorem joinSlots_look {fo z : Bool} {x y : St} (d : SV) (i : Nat) : ∀ {ks : List Nat} {t : List (Nat × SV)}, joinSlots fo z x y ks = some t → (i ∈ ks → look d i t = joinV 9 z (x.slot i) (y.slot i)) ∧ (i ∉ ks → look d i t = d)
  | [], t, h => by
    simp only [joinSlots, Option.some.injEq] at h
    subst h
    exact ⟨fun h => by simp at h, fun _ => rfl⟩
  | k :: r, t, h => by
    simp only [joinSlots] at h
    cases hc : !fo && clash (x.slot k) (y.slot k) with
    | true => rw [hc] at h; cases h
    | false =>
      rw [hc] at h
      simp only [cond_false] at h
      split at h
      · rename_i t' ht'
        simp only [Option.some.injEq] at h
        subst h
        obtain ⟨h1, h2⟩ := joinSlots_look d i ht'
        rw [look_cons]
        by_cases hik : i = k
        · subst hik
          rw [if_pos rfl]
          exact ⟨fun _ => rfl, fun h => absurd (List.mem_cons_self ..) h⟩
        · rw [if_neg hik]
          refine ⟨fun hm => ?_, fun hm => h2 fun h => hm (List.mem_cons_of_mem _ h)⟩
          rcases List.mem_cons.1 hm with hm | hm
          · exact absurd hm hik
          · exact h1 hm
      · cases h
theorem natsEq_ok : ∀ {l m : List Nat}, natsEq l m = true → l = m
  | [], [], _ => rfl
  | a :: l, b :: m, h => by
    simp only [natsEq, Bool.and_eq_true] at h
    rw [beq_of h.1, natsEq_ok h.2]
  | [], _ :: _, h => by cases h
  | _ :: _, [], h => by cases h

section
variable {M : Nat → Prop} {w0 w : World} {ρ : Rh} {h h' : SH}
theorem joinO_ok {new z : Bool} {a b o : SO} (h : joinO new z a b = some o) : o = .dead ∨
    ((z = true → a.live = true ∧ (∀ L, o.own L → a.own L) ∧ ∀ n ρ L x, a.fit n ρ L x → o.fit n ρ L x) ∧ (z = false → b.live = true ∧ (∀ L, o.own L → b.own L) ∧ ∀ n ρ L x, b.fit n ρ L x → o.fit n ρ L x)) := by
  have nw : ∀ {o : SO}, (bif new then some SO.dead else none) = some o → o = .dead := by
    intro o h
    cases new <;> simp at h
    exact h.symm
  unfold joinO at h
  split at h
  · simp only [Option.some.injEq] at h; exact .inl h.symm
  · simp only [Option.some.injEq] at h; exact .inl h.symm
  · rename_i xs t ys t' _ _
    split at h
    · rename_i l ht hl
      simp only [Option.some.injEq] at h
      subst h
      have := beq_of ht
      subst this
      refine .inr ⟨fun hz => ⟨rfl, fun _ h => h, fun n ρ L x hf => ?_⟩, fun hz => ⟨rfl, fun _ h => h, fun n ρ L x hf => ?_⟩⟩
      · obtain ⟨h1, h2, l', h3, h4⟩ := hf
        exact ⟨h1, h2, l', h3, (joinVs_ok (joinV_ok 9) hl).1 hz _ h4⟩
      · obtain ⟨h1, h2, l', h3, h4⟩ := hf
        exact ⟨h1, h2, l', h3, (joinVs_ok (joinV_ok 9) hl).2 hz _ h4⟩
    · exact .inl (nw h)
  · simp only [Option.some.injEq] at h
    subst h
    exact .inr ⟨fun _ => ⟨rfl, fun _ h => h, fun _ _ _ _ h => h⟩, fun _ => ⟨rfl, fun _ h => h, fun _ _ _ _ h => h⟩⟩
  · rename_i t s el m t' s' el' m'
    cases hc : Nat.beq t t' && Nat.beq s s' with
    | true =>
      rw [hc] at h
      simp only [cond_true, Option.some.injEq] at h
      subst h
      simp only [Bool.and_eq_true] at hc
      rw [← beq_of hc.1, ← beq_of hc.2]
      refine .inr ⟨fun hz => ⟨rfl, fun _ h => h, fun n ρ L x hf => ?_⟩, fun hz => ⟨rfl, fun _ h => h, fun n ρ L x hf => ?_⟩⟩
      · rw [hz]; exact hf
      · rw [hz]; exact hf
    | false =>
      rw [hc] at h
      exact .inl (nw h)
  · exact .inl (nw h)
theorem jkeys_nodup {α : Type} : ∀ (l : List (Nat × α)) (acc : List Nat), acc.Nodup → (jkeys l acc).Nodup
  | [], acc, h => h
  | (i, _) :: r, acc, h => by
    simp only [jkeys]
    cases hb : acc.any (Nat.beq i) with
    | true => exact jkeys_nodup r acc h
    | false =>
      refine jkeys_nodup r _ (List.nodup_cons.2 ⟨fun hm => ?_, h⟩)
      rw [List.any_eq_false] at hb
      exact hb i hm (Nat.beq_refl i)
/-- Less is known of a block. -/
def Wo (a o : SO) : Prop := a.live = true ∧ (∀ L, o.own L → a.own L) ∧ ∀ n ρ L x, a.fit n ρ L x → o.fit n ρ L x
theorem wo_refl {a : SO} : a = .dead ∨ Wo a a := by
  by_cases h : a = .dead
  · exact .inl h
  · exact .inr ⟨by cases a <;> simp_all [SO.live], fun _ h => h, fun _ _ _ _ h => h⟩
theorem dedup_mem : ∀ (l acc : List Nat) (i : Nat), i ∈ dedup l acc ↔ i ∈ acc ∨ i ∈ l
  | [], acc, i => by simp [dedup]
  | j :: r, acc, i => by
    simp only [dedup]
    cases hb : acc.any (Nat.beq j) with
    | true =>
      simp only [cond_true]
      rw [dedup_mem r acc i]
      have hj : j ∈ acc := by
        obtain ⟨k, hk, hjk⟩ := List.any_eq_true.1 hb
        rw [beq_of hjk]; exact hk
      simp only [List.mem_cons]
      constructor
      · rintro (h | h)
        · exact .inl h
        · exact .inr (.inr h)
      · rintro (h | h | h)
        · exact .inl h
        · exact .inl (h ▸ hj)
        · exact .inr h
    | false =>
      simp only [cond_false]
      rw [dedup_mem r (j :: acc) i]
      simp only [List.mem_cons]
      constructor
      · rintro ((h | h) | h)
        · exact .inr (.inl h)
        · exact .inl h
        · exact .inr (.inr h)
      · rintro (h | h | h)
        · exact .inl (.inr h)
        · exact .inl (.inl h)
        · exact .inr h
/-- The same loop, but for how far it has come. -/
def SameL (a b : SO) : Prop := ∃ st pd st' pd' n t ps asg body df, a = .loop st pd n t ps asg body df ∧ b = .loop st' pd' n t ps asg body df
theorem posE_ok {i : Nat} : ∀ {l : List (Nat × SE)} {ps : List Nat} {d : SO}, posE i l = some ps → ((∀ xs t, d ≠ .cells xs t) → SameL d (lookE d i l) ∨ lookE d i l = d) ∧ ∀ bs t, d = .cells bs t → ∃ cs, lookE d i l = .cells cs t ∧ cs.length = bs.length ∧ ∀ p, p ∉ ps → cs[p]? = bs[p]?
  | [], ps, d, h => ⟨fun _ => .inr rfl, fun bs t hd => ⟨bs, hd, rfl, fun _ _ => rfl⟩⟩
  | (j, x) :: r, ps, d, h => by
    simp only [posE] at h
    rw [lookE_cons]
    by_cases hij : i = j
    · subst hij
      rw [if_pos rfl]
      rw [Nat.beq_refl] at h
      simp only [cond_true] at h
      cases x with
      | o s => cases h
      | lp st pd =>
        simp only at h
        obtain ⟨h1, h2⟩ := posE_ok (d := d) h
        refine ⟨fun hd => ?_, fun bs t hd => ?_⟩
        · rcases h1 hd with ⟨st1, pd1, st2, pd2, n, t, ps, asg, body, df, e1, e2⟩ | e
          · rw [e2]
            exact .inl ⟨st1, pd1, st, pd, n, t, ps, asg, body, df, e1, rfl⟩
          · rw [e]
            cases d with
            | cells xs t => exact absurd rfl (hd xs t)
            | loop st1 pd1 n t ps asg body df => exact .inl ⟨st1, pd1, st, pd, n, t, ps, asg, body, df, rfl, rfl⟩
            | _ => exact .inr rfl
        · obtain ⟨cs, e1, e2, e3⟩ := h2 bs t hd
          exact ⟨cs, by rw [e1]; rfl, e2, e3⟩
      | c p s =>
        simp only at h
        split at h
        · rename_i l' hl'
          simp only [Option.some.injEq] at h
          subst h
          obtain ⟨h1, h2⟩ := posE_ok (d := d) hl'
          refine ⟨fun hd => ?_, fun bs t hd => ?_⟩
          · rcases h1 hd with ⟨st1, pd1, st2, pd2, n, t, ps, asg, body, df, e1, e2⟩ | e
            · rw [e2]
              exact .inl ⟨st1, pd1, st2, pd2, n, t, ps, asg, body, df, e1, rfl⟩
            · rw [e]
              cases d with
              | cells xs t => exact absurd rfl (hd xs t)
              | _ => exact .inr rfl
          · obtain ⟨cs, e1, e2, e3⟩ := h2 bs t hd
            refine ⟨cs.set p s, by rw [e1]; rfl, by simpa using e2, fun q hq => ?_⟩
            simp only [List.mem_cons, not_or] at hq
            rw [List.getElem?_set_ne (fun e => hq.1 e.symm)]
            exact e3 q hq.2
        · cases h
    · rw [if_neg hij]
      have : Nat.beq i j = false := by rw [beq_nat]; simp [hij]
      rw [this] at h
      exact posE_ok h
/-- Cells that are laid one by one. -/
theorem lookE_cells {i : Nat} {V : Nat → SV} : ∀ (ps : List Nat) (bs : List SV) (t : TypeId), ∃ cs, lookE (.cells bs t) i (ps.map fun p => (i, SE.c p (V p))) = .cells cs t ∧ cs.length = bs.length ∧ (∀ p, p ∉ ps → cs[p]? = bs[p]?) ∧ ∀ p, p ∈ ps → p < bs.length → cs[p]? = some (V p)
  | [], bs, t => ⟨bs, rfl, rfl, fun _ _ => rfl, fun p h => by simp at h⟩
  | q :: r, bs, t => by
    obtain ⟨cs, e1, e2, e3, e4⟩ := lookE_cells (i := i) (V := V) r bs t
    refine ⟨cs.set q (V q), ?_, by simpa using e2, fun p hp => ?_, fun p hp hlt => ?_⟩
    · rw [List.map_cons, lookE_cons, if_pos rfl, e1]; rfl
    · simp only [List.mem_cons, not_or] at hp
      rw [List.getElem?_set_ne (fun e => hp.1 e.symm)]
      exact e3 p hp.2
    · by_cases hpq : p = q
      · subst hpq
        rw [List.getElem?_set_self (by omega)]
      · rw [List.getElem?_set_ne (fun e => hpq e.symm)]
        rcases List.mem_cons.1 hp with h | h
        · exact absurd h hpq
        · exact e4 p h hlt
/-- What a block is in the joined state. -/
def Jn (nx0 : Nat) (z : Bool) (x y : SH) (i : Nat) (d o : SO) : Prop :=
  (joinO (Nat.ble nx0 i) z (x.get i) (y.get i) = some o) ∨ (o = x.get i ∧ o = y.get i) ∨
  ∃ ps qs xs t ys t' bs tb cs, posE i x.l = some ps ∧ posE i y.l = some qs ∧ x.get i = .cells xs t ∧ y.get i = .cells ys t' ∧ d = .cells bs tb ∧ o = .cells cs tb ∧ cs.length = bs.length ∧
    (∀ p, p ∉ ps → p ∉ qs → cs[p]? = bs[p]?) ∧ ∀ p, (p ∈ ps ∨ p ∈ qs) → p < bs.length → cs[p]? = some (joinV 9 z (xs.getD p .u) (ys.getD p .u))
theorem joinObjs_look {nx0 : Nat} {z : Bool} {x y : SH} (d : SO) (i : Nat) (hx : x.get i = lookE d i x.l) (hy : y.get i = lookE d i y.l) : ∀ {ks : List Nat} {l : List (Nat × SE)}, ks.Nodup → joinObjs nx0 z x y ks = some l → (i ∉ ks → lookE d i l = d) ∧ (i ∈ ks → Jn nx0 z x y i d (lookE d i l))
  | [], l, _, h => by
    simp only [joinObjs, Option.some.injEq] at h
    subst h
    exact ⟨fun _ => rfl, fun h => by simp at h⟩
  | k :: r, l, hnd, h => by
    simp only [joinObjs] at h
    split at h
    · rename_i a l' ha hl'
      simp only [Option.some.injEq] at h
      subst h
      obtain ⟨h1, h2⟩ := joinObjs_look d i hx hy (List.nodup_cons.1 hnd).2 hl'
      rw [lookE_append]
      have hkeys : ∀ q ∈ a.map (·.1), q = k := fun q hq => by
        unfold joinOne at ha
        split at ha
        · split at ha
          · simp only [Option.some.injEq] at ha
            subst ha
            simp only [List.map_map, List.mem_map] at hq
            obtain ⟨_, _, e⟩ := hq
            exact e.symm
          · simp only [Option.some.injEq] at ha
            subst ha
            simpa using hq
          · cases ha
        · split at ha
          · simp only [Option.some.injEq] at ha
            subst ha
            simpa using hq
          · cases ha
      by_cases hik : i = k
      · subst hik
        refine ⟨fun h => absurd (List.mem_cons_self ..) h, fun _ => ?_⟩
        unfold joinOne at ha
        split at ha
        · rename_i ps qs hps hqs
          split at ha
          · rename_i xs t ys t' hxg hyg
            simp only [Option.some.injEq] at ha
            subst ha
            have hd : ∃ bs tb, d = .cells bs tb := by
              by_cases hd : ∀ xs t, d ≠ .cells xs t
              · have := (posE_ok (d := d) hps).1 hd
                rw [← hx, hxg] at this
                rcases this with ⟨_, _, _, _, _, _, _, _, _, _, _, e⟩ | e
                · cases e
                · exact ⟨_, _, e.symm⟩
              · rw [Classical.not_forall] at hd
                obtain ⟨bs, hd⟩ := hd
                rw [Classical.not_forall] at hd
                obtain ⟨tb, hd⟩ := hd
                exact ⟨bs, tb, Classical.not_not.1 hd⟩
            obtain ⟨bs, tb, rfl⟩ := hd
            rw [h1 (List.nodup_cons.1 hnd).1]
            obtain ⟨cs, g1, g2, g3, g4⟩ := lookE_cells (i := i) (V := fun p => joinV 9 z (xs.getD p .u) (ys.getD p .u)) (dedup ps (dedup qs [])) bs tb
            have hmem : ∀ p, p ∈ dedup ps (dedup qs []) ↔ p ∈ qs ∨ p ∈ ps := fun p => by rw [dedup_mem, dedup_mem]; simp
            refine .inr (.inr ⟨ps, qs, xs, t, ys, t', bs, tb, cs, hps, hqs, hxg, hyg, rfl, g1, g2, fun p h1 h2 => ?_, fun p hp hlt => ?_⟩)
            · rw [g3 p (fun h => ((hmem p).1 h).elim h2 h1)]
            · exact g4 p ((hmem p).2 hp.symm) hlt
          · rename_i n1 t1 ps1 asg1 body1 df1 n2 t2 ps2 asg2 body2 df2 hxg hyg
            simp only [Option.some.injEq] at ha
            subst ha
            have hdc : ∀ xs t, d ≠ .cells xs t := fun xs t e => by
              obtain ⟨cs, e1, _⟩ := (posE_ok (d := d) hps).2 xs t e
              rw [← hx, hxg] at e1
              cases e1
            rw [lookE_cons, if_pos rfl, lookE, h1 (List.nodup_cons.1 hnd).1]
            have e1 := (posE_ok (d := d) hps).1 hdc
            have e2 := (posE_ok (d := d) hqs).1 hdc
            rw [← hx, hxg] at e1
            rw [← hy, hyg] at e2
            refine .inr (.inl ?_)
            rw [hxg, hyg]
            rcases e1 with ⟨_, _, _, _, _, _, _, _, _, _, rfl, e1⟩ | e1
            · cases e1
              rcases e2 with ⟨_, _, _, _, _, _, _, _, _, _, e3, e2⟩ | e2
              · cases e3; cases e2; exact ⟨rfl, rfl⟩
              · cases e2; exact ⟨rfl, rfl⟩
            · subst e1
              rcases e2 with ⟨_, _, _, _, _, _, _, _, _, _, e3, e2⟩ | e2
              · cases e3; cases e2; exact ⟨rfl, rfl⟩
              · cases e2; exact ⟨rfl, rfl⟩
          · cases ha
        · split at ha
          · rename_i o ho
            simp only [Option.some.injEq] at ha
            subst ha
            rw [lookE_cons, if_pos rfl]
            exact .inl ho
          · cases ha
      · rw [lookE_not _ _ (fun h => hik (hkeys i h))]
        refine ⟨fun hm => h1 fun h => hm (List.mem_cons_of_mem _ h), fun hm => ?_⟩
        rcases List.mem_cons.1 hm with hm | hm
        · exact absurd hm hik
        · exact h2 hm
    · cases h
theorem get_lookE {x : SH} {HB : List (Nat × SE)} (hb : x.b = HB) (i : Nat) : x.get i = lookE (lookE .dead i HB) i x.l := by unfold SH.get; rw [hb]
theorem fits_pt {n : Nat} {ρ : Rh} {ss ts : List SV} {xs : List Value} (hl : ts.length = ss.length) (hf : SV.fits n ρ ss xs) (h : ∀ (p : Nat) (s t : SV) (x : Value), ss[p]? = some s → ts[p]? = some t → s.fit n ρ x → t.fit n ρ x) : SV.fits n ρ ts xs := by
  have hll := fits_length hf
  refine fits_of_get (by omega) fun j t x h1 h2 => ?_
  have hj : j < ss.length := by
    have := (List.getElem?_eq_some_iff.1 h1).1
    omega
  have hs : ss[j]? = some ss[j] := List.getElem?_eq_getElem hj
  obtain ⟨y, hy, hfy⟩ := fits_get hf hs
  rw [hy] at h2
  cases h2
  exact h j _ t _ hs h1 hfy
theorem objs_ok {nx0 : Nat} {z : Bool} {x y : SH} {HB l : List (Nat × SE)} (hx : x.b = HB) (hy : y.b = HB) (hl : joinObjs nx0 z x y (jkeys y.l (jkeys x.l [])) = some l) (i : Nat) :
    lookE (lookE .dead i HB) i l = .dead ∨ ((z = true → Wo (x.get i) (lookE (lookE .dead i HB) i l)) ∧ (z = false → Wo (y.get i) (lookE (lookE .dead i HB) i l))) := by
  have hmem : ∀ i, i ∈ jkeys y.l (jkeys x.l []) ↔ i ∈ x.l.map (·.1) ∨ i ∈ y.l.map (·.1) := fun i => by
    rw [jkeys_mem, jkeys_mem]; simp
  obtain ⟨h1, h2⟩ := joinObjs_look (lookE .dead i HB) i (get_lookE hx i) (get_lookE hy i) (jkeys_nodup _ _ (jkeys_nodup _ _ List.nodup_nil)) hl
  by_cases hi : i ∈ jkeys y.l (jkeys x.l [])
  · rcases h2 hi with h3 | ⟨h3, h4⟩ | ⟨ps, qs, xs, t, ys, t', bs, tb, cs, e1, e2, e3, e4, e5, e6, e7, e8, e9⟩
    · generalize lookE (lookE .dead i HB) i l = o at h3 ⊢
      rcases joinO_ok h3 with h4 | ⟨h4, h5⟩
      · exact .inl h4
      · exact .inr ⟨fun hz => h4 hz, fun hz => h5 hz⟩
    · rw [← h3, ← h4]
      generalize lookE (lookE .dead i HB) i l = o
      rcases wo_refl (a := o) with h | h
      · exact .inl h
      · exact .inr ⟨fun _ => h, fun _ => h⟩
    · rw [e6, e3, e4]
      obtain ⟨cx, a1, a2, a3⟩ := (posE_ok (d := lookE .dead i HB) e1).2 bs tb e5
      obtain ⟨cy, b1, b2, b3⟩ := (posE_ok (d := lookE .dead i HB) e2).2 bs tb e5
      rw [← get_lookE hx i, e3] at a1
      rw [← get_lookE hy i, e4] at b1
      cases a1; cases b1
      refine .inr ⟨fun hz => ⟨rfl, fun _ h => h, fun n ρ L v hf => ?_⟩, fun hz => ⟨rfl, fun _ h => h, fun n ρ L v hf => ?_⟩⟩
      · obtain ⟨k1, k2, v', k3, k4⟩ := hf
        refine ⟨k1, k2, v', k3, fits_pt (by omega) k4 fun p s q val hs hq hfit => ?_⟩
        by_cases hp : p ∈ ps ∨ p ∈ qs
        · have hlt : p < bs.length := by have := (List.getElem?_eq_some_iff.1 hs).1; omega
          rw [e9 p hp hlt] at hq
          cases hq
          refine (joinV_ok 9 _ _).1 hz _ ?_
          rw [List.getD_eq_getElem?_getD, hs]; exact hfit
        · rw [not_or] at hp
          rw [e8 p hp.1 hp.2, ← a3 p hp.1, hs] at hq
          cases hq; exact hfit
      · obtain ⟨k1, k2, v', k3, k4⟩ := hf
        refine ⟨k1, k2, v', k3, fits_pt (by omega) k4 fun p s q val hs hq hfit => ?_⟩
        by_cases hp : p ∈ ps ∨ p ∈ qs
        · have hlt : p < bs.length := by have := (List.getElem?_eq_some_iff.1 hs).1; omega
          rw [e9 p hp hlt] at hq
          cases hq
          refine (joinV_ok 9 _ _).2 hz _ ?_
          rw [List.getD_eq_getElem?_getD, hs]; exact hfit
        · rw [not_or] at hp
          rw [e8 p hp.1 hp.2, ← b3 p hp.2, hs] at hq
          cases hq; exact hfit
  · rw [h1 hi]
    have hi' := fun h => hi ((hmem i).2 h)
    have ex : x.get i = lookE .dead i HB := by rw [get_lookE hx i, lookE_not _ _ fun h => hi' (.inl h)]
    have ey : y.get i = lookE .dead i HB := by rw [get_lookE hy i, lookE_not _ _ fun h => hi' (.inr h)]
    rw [ex, ey]
    rcases wo_refl (a := lookE .dead i HB) with h | h
    · exact .inl h
    · exact .inr ⟨fun _ => h, fun _ => h⟩
theorem joinSt_ok (fo : Bool) (B : List (Nat × SV)) (HB : List (Nat × SE)) (nx0 : Nat) : Joins (St.On B HB) Wk (joinSt fo nx0) where
  refl := Wk.refl
  trans _ _ _ := Wk.trans
  join z x y j hj hx hy := by
    obtain ⟨hxb, hxh⟩ := hx
    obtain ⟨hyb, hyh⟩ := hy
    unfold joinSt at hj
    cases hc : Nat.beq x.n y.n && natsEq x.d y.d with
    | false => rw [hc] at hj; cases hj
    | true =>
      rw [hc] at hj
      simp only [cond_true] at hj
      simp only [Bool.and_eq_true] at hc
      have hn := beq_of hc.1
      have hd := natsEq_ok hc.2
      split at hj
      · rename_i t l ht hl
        simp only [Option.some.injEq] at hj
        subst hj
        have hnx : x.h.nx ≤ (bif Nat.ble x.h.nx y.h.nx then y.h.nx else x.h.nx) ∧ y.h.nx ≤ (bif Nat.ble x.h.nx y.h.nx then y.h.nx else x.h.nx) := by
          cases hb : Nat.ble x.h.nx y.h.nx with
          | true => exact ⟨Nat.le_of_ble_eq_true hb, Nat.le_refl _⟩
          | false =>
            refine ⟨Nat.le_refl _, ?_⟩
            have : ¬ x.h.nx ≤ y.h.nx := fun h => by rw [Nat.ble_eq_true_of_le h] at hb; cases hb
            show y.h.nx ≤ x.h.nx
            omega
        generalize (bif Nat.ble x.h.nx y.h.nx then y.h.nx else x.h.nx) = N at hnx ⊢
        have hslot : ∀ i, i ∈ jkeys y.t (jkeys x.t []) ↔ i ∈ x.t.map (·.1) ∨ i ∈ y.t.map (·.1) := fun i => by
          rw [jkeys_mem, jkeys_mem]; simp
        have hobj : ∀ i, i ∈ jkeys y.h.l (jkeys x.h.l []) ↔ i ∈ x.h.l.map (·.1) ∨ i ∈ y.h.l.map (·.1) := fun i => by
          rw [jkeys_mem, jkeys_mem]; simp
        -- the slots of the joined state
        have hs : ∀ i, (i ∈ jkeys y.t (jkeys x.t []) ∧ look (.k undef) i (t ++ B) = joinV 9 z (x.slot i) (y.slot i)) ∨ (look (.k undef) i (t ++ B) = x.slot i ∧ look (.k undef) i (t ++ B) = y.slot i) := fun i => by
          obtain ⟨h1, h2⟩ := joinSlots_look (look (.k undef) i B) i ht
          rw [look_append]
          by_cases hi : i ∈ jkeys y.t (jkeys x.t [])
          · exact .inl ⟨hi, h1 hi⟩
          · rw [h2 hi]
            have hi' := fun h => hi ((hslot i).2 h)
            refine .inr ⟨?_, ?_⟩
            · unfold St.slot
              rw [hxb, look_not _ _ fun h => hi' (.inl h)]
            · unfold St.slot
              rw [hyb, look_not _ _ fun h => hi' (.inr h)]
        have ho := objs_ok hxh hyh hl
        refine ⟨⟨hxb, hxh⟩, fun hz => ⟨⟨rfl, rfl⟩, hnx.1, fun M w0 w ρ a hm => ⟨⟨hm.tm.1, fun i hi => ?_⟩, hm.df, fun i hi => Nat.lt_of_lt_of_le (hm.dl i hi) hnx.1, hm.hp.weaken hnx.1 fun i => ?_⟩⟩,
          fun hz => ⟨⟨hxb.trans hyb.symm, hxh.trans hyh.symm⟩, hnx.2, fun M w0 w ρ a hm => ⟨⟨hm.tm.1.trans hn.symm, fun i hi => ?_⟩, by rw [hd]; exact hm.df, fun i hi => Nat.lt_of_lt_of_le (hm.dl i (by rw [← hd]; exact hi)) hnx.2, hm.hp.weaken hnx.2 fun i => ?_⟩⟩⟩
        · have h0 := hm.tm.2 i hi
          rw [St.look_lg] at h0
          have h1 := SV.fit_mono hnx.1 (Agree.refl _ _) _ _ h0
          show (look (.k undef) i (t ++ x.b)).fit N ρ _
          rw [hxb]
          rcases hs i with ⟨_, e⟩ | ⟨e, _⟩
          · rw [e]; exact (joinV_ok 9 _ _).1 hz _ h1
          · rw [e]; exact h1
        · show lookE (lookE .dead i x.h.b) i l = .dead ∨ (_ ∧ (SO.own _ (lookE (lookE .dead i x.h.b) i l) → _) ∧ ∀ o, _ → SO.fit N ρ (ρ i) (lookE (lookE .dead i x.h.b) i l) o)
          rw [hxh]
          rcases ho i with e | ⟨e, _⟩
          · exact .inl e
          · obtain ⟨k1, k2, k3⟩ := e hz
            exact .inr ⟨k1, k2 _, fun q hq => SO.fit_mono hnx.1 (Agree.refl _ _) (k3 _ _ _ _ hq)⟩
        · have h0 := hm.tm.2 i (by rw [← hn]; exact hi)
          rw [St.look_lg] at h0
          have h1 := SV.fit_mono hnx.2 (Agree.refl _ _) _ _ h0
          show (look (.k undef) i (t ++ x.b)).fit N ρ _
          rw [hxb]
          rcases hs i with ⟨_, e⟩ | ⟨_, e⟩
          · rw [e]; exact (joinV_ok 9 _ _).2 hz _ h1
          · rw [e]; exact h1
        · show lookE (lookE .dead i x.h.b) i l = .dead ∨ (_ ∧ (SO.own _ (lookE (lookE .dead i x.h.b) i l) → _) ∧ ∀ o, _ → SO.fit N ρ (ρ i) (lookE (lookE .dead i x.h.b) i l) o)
          rw [hxh]
          rcases ho i with e | ⟨_, e⟩
          · exact .inl e
          · obtain ⟨k1, k2, k3⟩ := e hz
            exact .inr ⟨k1, k2 _, fun q hq => SO.fit_mono hnx.2 (Agree.refl _ _) (k3 _ _ _ _ hq)⟩
      · cases hj
end

/-! ### bases -/
theorem base_get (h : SH) (i : Nat) : (⟨h.nx, [], h.l ++ h.b⟩ : SH).get i = h.get i := lookE_append _ _ _ _
theorem Mod.base {M : Nat → Prop} {w0 w : World} {ρ : Rh} {σ : St} {a : Act} (hm : Mod M w0 ρ σ a w) : Mod M w0 ρ σ.base a w :=
  ⟨by simpa [St.base, St.lg] using hm.tm, hm.df, hm.dl, hm.hp.same rfl (base_get _)⟩
theorem Mod.pop {M : Nat → Prop} {w0 w : World} {ρ : Rh} {σ y : St} {a : Act} (hm : Mod M w0 ρ y a w) (ho : y.On (σ.t ++ σ.b) (σ.h.l ++ σ.h.b)) : Mod M w0 ρ (σ.pop y) a w := by
  obtain ⟨h1, h2⟩ := ho
  refine ⟨?_, hm.df, hm.dl, hm.hp.same rfl fun i => ?_⟩
  · have := hm.tm
    simp only [St.lg, h1] at this
    simpa [St.pop, St.lg] using this
  · simp only [St.pop, SH.get, h2, lookE_append]
theorem base_on (σ : St) : σ.base.On (σ.t ++ σ.b) (σ.h.l ++ σ.h.b) := ⟨rfl, rfl⟩
theorem pop_on (σ y : St) : (σ.pop y).On σ.b σ.h.b := ⟨rfl, rfl⟩

/-! ### with the way on which it ends -/
inductive Ex where
  | normal
  | exit (id : Nat)
  | goto (l : Nat)
  | ret
def Ex.ex : Ex → Exit
  | .normal => .normal
  | .exit id => .exit id
  | .goto l => .goto l
  | .ret => .ret
def isNx (y : Ex × St) : Bool :=
  match y.1 with
  | .normal => true
  | _ => false
def joinX (nx0 : Nat) (z : Bool) (x y : Ex × St) : Option (Ex × St) :=
  match x.1, y.1 with
  | .normal, .normal => match joinSt false nx0 z x.2 y.2 with
    | some j => some (.normal, j)
    | none => none
  | _, _ => none
def WkX (x y : Ex × St) : Prop := x.1 = y.1 ∧ Wk x.2 y.2
theorem joinX_ok (B : List (Nat × SV)) (HB : List (Nat × SE)) (nx0 : Nat) : Joins (fun y : Ex × St => y.2.On B HB) WkX (joinX nx0) where
  refl x := ⟨rfl, Wk.refl _⟩
  trans _ _ _ h h' := ⟨h.1.trans h'.1, h.2.trans h'.2⟩
  join z x y j hj hx hy := by
    obtain ⟨e, x⟩ := x
    obtain ⟨e', y⟩ := y
    unfold joinX at hj
    split at hj
    · rename_i h1 h2
      simp only at h1 h2
      subst h1; subst h2
      split at hj
      · rename_i j' hj'
        simp only [Option.some.injEq] at hj
        subst hj
        obtain ⟨k1, k2, k3⟩ := (joinSt_ok false B HB nx0).join _ _ _ _ hj' hx hy
        exact ⟨k1, fun hz => ⟨rfl, k2 hz⟩, fun hz => ⟨rfl, k3 hz⟩⟩
      · cases hj
    · cases hj
end Go.Sx
