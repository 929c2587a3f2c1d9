/- Regions whose order is drawn: every order that is let comes to what the text's order comes to. -/
import Derived.Test.YtapmlfklkfgmoaaZSxDraw
set_option linter.unusedVariables false
namespace Go.Sx
open Go.RowKit

/-- One outcome: a tree without what is left open. -/
def Tr.strip {α : Type} : Tr α → Tr α
  | .ret x => .ret x
  | .br c a b => .br c a.strip b.strip
  | .ask p a => .ask p a.strip
  | .giv _ _ => .bad 700
  | .all _ => .bad 701
  | .bad w => .bad w
theorem Tr.strip_out {α : Type} {K : α → Prop} : ∀ {t : Tr α}, t.strip.Holds K → ∃ x, K x ∧ t.Holds (· = x) ∧ ∀ p : α → Prop, t.Each p → p x
  | .ret x, h => ⟨x, h, rfl, fun _ hp => hp⟩
  | .br true a b, h => by
    obtain ⟨x, h1, h2, h3⟩ := strip_out (h.1 rfl)
    exact ⟨x, h1, ⟨fun _ => h2, fun h => (by cases h)⟩, fun p hp => h3 p hp.1⟩
  | .br false a b, h => by
    obtain ⟨x, h1, h2, h3⟩ := strip_out (h.2 rfl)
    exact ⟨x, h1, ⟨fun h => (by cases h), fun _ => h2⟩, fun p hp => h3 p hp.2⟩
  | .ask p a, h => by
    obtain ⟨x, h1, h2, h3⟩ := strip_out h.2
    exact ⟨x, h1, ⟨h.1, h2⟩, fun p hp => h3 p hp⟩
  | .giv _ _, h => h.elim
  | .all _, h => h.elim
  | .bad _, h => h.elim

theorem each_sw {α : Type} {p : α → Prop} {k : Nat → Tr α} (hk : ∀ j, (k j).Each p) (i : Int) : ∀ n, (sw n i k).Each p
  | 0 => trivial
  | n + 1 => ⟨hk n, each_sw hk i n⟩
theorem each_idx {α : Type} {p : α → Prop} {k : Nat → Tr α} (hk : ∀ j, (k j).Each p) (c : Bool) (n : Nat) (i : Int) : (idx c n i k).Each p := by
  unfold idx
  cases c
  · exact each_sw hk i n
  · simp only [cond_true]
    cases (decide (0 ≤ i) && decide (i < (n : Int)))
    · trivial
    · exact hk _
theorem each_bif {α : Type} {p : α → Prop} {c : Bool} {a b : Tr α} (ha : a.Each p) (hb : b.Each p) : (bif c then a else b).Each p := by cases c <;> assumption

def quietO (Q : Nat → Bool) : Op → Bool
  | .move _ | .assign _ | .pick .. | .load .. | .binOp .. | .unOp .. | .convert .. | .fieldAddr .. | .field .. | .indexAddr .. | .index .. | .slice .. | .extract .. | .makeFunc .. => true
  | .call ⟨.builtin .len, _, _⟩ | .call ⟨.builtin .min, _, _⟩ | .call ⟨.builtin .max, _, _⟩ => true
  | .call ⟨.value (.func f), _, _⟩ => Q f
  | _ => false

section
variable {P : Program} {h : SH}
theorem each_part {t : TypeId} {xs : List SV} {o : Nat} : (partS P h t xs o).Each fun y => y.2 = h := by
  unfold partS
  split
  · rfl
  · split <;> trivial
  · trivial
theorem each_read {g : Bool} {n o e1 e2 : Nat} {xs : List SV} : Tr.Each (fun y : SV × SH => y.2 = h) (match g with
        | true => let ys := (xs.drop o).take n; bif Nat.beq ys.length n then .ret (.agg ys, h) else .bad e1
        | false => match xs[o]? with
          | some s => .ret (s, h)
          | none => .bad e2) := by
  cases g with
  | true => exact each_bif rfl trivial
  | false => cases xs[o]? <;> trivial
theorem each_load {t : TypeId} {a : SV} : (loadS P h t a).Each fun y => y.2 = h := by
  unfold loadS
  split
  · split
    · split
      · exact each_read
      · trivial
    · split
      · refine each_bif ?_ trivial
        show Tr.Each _ (match _ with | true => _ | false => _)
        split
        · rfl
        · split <;> first | rfl | trivial
      · refine each_bif ?_ trivial
        exact each_read
      · trivial
    · exact each_read
    · trivial
  · trivial
theorem each_lo {lo : Option SV} {n : Nat} {k : Nat → Tr (SV × SH)} {p : SV × SH → Prop} (hk : ∀ j, (k j).Each p) : (loS lo n k).Each p := by
  unfold loS
  repeat' split
  all_goals first | exact hk _ | exact each_idx hk _ _ _ | trivial
theorem each_hi {hi : Option SV} {l n : Nat} {k : Nat → Tr (SV × SH)} {p : SV × SH → Prop} (hk : ∀ j, (k j).Each p) : (hiS hi l n k).Each p := by
  unfold hiS
  repeat' split
  all_goals first | exact each_bif (hk _) trivial | exact each_idx hk _ _ _ | trivial
theorem each_loQ {lo : Option SV} {n : Nat} {k : Nat → Tr (SV × SH)} {p : SV × SH → Prop} (hk : ∀ j, (k j).Each p) : (loQ lo n k).Each p := by
  unfold loQ
  repeat' split
  all_goals first | exact hk _ | trivial
theorem each_hiQ {hi : Option SV} {l n : Nat} {k : Nat → Tr (SV × SH)} {p : SV × SH → Prop} (hk : ∀ j, (k j).Each p) : (hiQ hi l n k).Each p := by
  unfold hiQ
  repeat' split
  all_goals first | exact hk _ | trivial
theorem each_slice {t : TypeId} {a : SV} {lo hi : Option SV} : (sliceS P h t a lo hi).Each fun y => y.2 = h := by
  unfold sliceS
  repeat' split
  all_goals first
    | trivial
    | (refine each_hi fun _ => each_lo fun _ => ?_; exact rfl)
    | (refine each_hiQ fun _ => each_loQ fun _ => ?_; exact rfl)
    | (refine each_bif (each_hiQ fun _ => each_loQ fun _ => ?_) trivial; exact rfl)
    | (refine each_bif (each_hiQ fun _ => ?_) trivial; first | exact rfl | exact each_loQ fun _ => rfl)
theorem each_fieldAddr {t : TypeId} {a : SV} {f : Nat} : (fieldAddrS P h t a f).Each fun y => y.2 = h := by
  unfold fieldAddrS
  repeat' split
  all_goals trivial
theorem each_field {t : TypeId} {a : SV} {f : Nat} : (fieldS P h t a f).Each fun y => y.2 = h := by
  unfold fieldS
  repeat' split
  all_goals first | trivial | exact each_part
theorem each_indexAddr {t : TypeId} {a i : SV} : (indexAddrS P h t a i).Each fun y => y.2 = h := by
  unfold indexAddrS
  repeat' split
  all_goals first
    | trivial
    | (refine each_bif (each_idx (fun _ => ?_) _ _ _) ?_ <;> first | exact rfl | (refine each_bif ?_ trivial; exact rfl))
    | (refine each_idx (fun _ => ?_) _ _ _; exact rfl)
    | (refine each_bif ?_ trivial; exact rfl)
theorem each_index {t : TypeId} {a i : SV} : (indexS P h t a i).Each fun y => y.2 = h := by
  unfold indexS
  repeat' split
  all_goals first | trivial | exact each_idx (fun _ => each_part) _ _ _ | (refine each_bif (each_idx (fun _ => each_part) _ _ _) ?_; first | trivial | (refine each_bif ?_ trivial; exact rfl))
theorem each_extract {a : SV} {i : Nat} : (extractS h a i).Each fun y => y.2 = h := by
  unfold extractS
  repeat' split
  all_goals trivial

theorem each_op {Q : Nat → Bool} {run yld : Nat → Con} (hQ : ∀ f, Q f = true → ∀ args h, (run f args h).Each fun y => y.2 = h) {ev : Operand → SV} (hev : ∀ f, ev (.func f) = .fn f []) {o : Op} (hq : quietO Q o = true) : (opS P run yld ev h o).Each fun y => y.2 = h := by
  unfold opS
  split <;> try (simp [quietO] at hq; done)
  · rfl
  · rfl
  · repeat' split
    all_goals first | trivial | exact ⟨rfl, rfl⟩
  · exact each_load
  · repeat' split
    all_goals first | trivial | (refine Tr.each_bind (fun _ => ?_) _; exact rfl)
  · (refine Tr.each_bind (fun _ => ?_) _; exact rfl)
  · (refine Tr.each_bind (fun _ => ?_) _; exact rfl)
  · (refine each_bif ?_ trivial; exact rfl)
  · exact each_slice
  · exact each_fieldAddr
  · exact each_field
  · exact each_indexAddr
  · exact each_index
  · exact each_extract
  · rename_i c
    obtain ⟨cal, args, ats⟩ := c
    cases cal with
    | builtin b =>
      cases b <;> try (simp [quietO] at hq; done)
      all_goals
        simp only [builtinS]
        repeat' split
        all_goals first | trivial | (refine Tr.each_bind (fun _ => ?_) _; exact rfl)
    | value f =>
      cases f <;> try (simp [quietO] at hq; done)
      rename_i f
      simp only [quietO] at hq
      simp only [hev]
      exact each_bif (hQ f hq _ _) trivial
    | invoke _ _ => simp [quietO] at hq
  · trivial
end
end Go.Sx
