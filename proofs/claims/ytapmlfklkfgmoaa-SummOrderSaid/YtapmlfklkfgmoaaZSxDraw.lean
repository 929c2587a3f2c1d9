/- Regions whose order is drawn: where every order comes to the same. -/
import Derived.Test.YtapmlfklkfgmoaaZSxReg
set_option linter.unusedVariables false
namespace Go.Sx
open Go.RowKit

/-! ### which orders there are -/
def edgesOf (o : Oper) : List Nat := (o.after.toList.filter fun e => Region.binds .any e).map (·.on)
/-- What must have run ahead of each operation, as bits. -/
def maskOf (es : List Nat) (acc : List Nat) : Nat := es.foldl (fun s e => s ||| 2 ^ e ||| acc.getD e 0) 0
def befs : List Oper → List Nat → List Nat
  | [], acc => acc
  | o :: r, acc => befs r (acc ++ [maskOf (edgesOf o) acc])

def EClosed (ops : List Oper) (E : Nat → Prop) : Prop := ∀ j o, E j → ops[j]? = some o → ∀ e ∈ edgesOf o, E e

theorem mask_bits {E : Nat → Prop} {acc : List Nat} (hacc : ∀ i, E i → ∀ m, (acc.getD i 0).testBit m = true → E m) : ∀ (es : List Nat) (s : Nat), (∀ m, s.testBit m = true → E m) → (∀ e ∈ es, E e) → ∀ m, (es.foldl (fun s e => s ||| 2 ^ e ||| acc.getD e 0) s).testBit m = true → E m
  | [], s, hs, _, m, hm => hs m hm
  | e :: es, s, hs, he, m, hm => by
    refine mask_bits hacc es _ (fun m hm => ?_) (fun e' h' => he e' (List.mem_cons_of_mem _ h')) m hm
    rw [Nat.testBit_or, Nat.testBit_or, Bool.or_eq_true, Bool.or_eq_true] at hm
    have hee := he e (List.mem_cons_self ..)
    rcases hm with (hm | hm) | hm
    · exact hs m hm
    · rw [Nat.testBit_two_pow] at hm
      have : e = m := by simpa using hm
      exact this ▸ hee
    · exact hacc e hee m hm

theorem befs_ok {ops : List Oper} {E : Nat → Prop} (hE : EClosed ops E) : ∀ (l : List Oper) (pre : List Oper) (acc : List Nat), ops = pre ++ l → acc.length = pre.length →
    (∀ i o, i < acc.length → ops[i]? = some o → (∀ e ∈ edgesOf o, E e) → ∀ m, (acc.getD i 0).testBit m = true → E m) →
    ∀ i o, ops[i]? = some o → (∀ e ∈ edgesOf o, E e) → ∀ m, ((befs l acc).getD i 0).testBit m = true → E m
  | [], pre, acc, hops, hlen, hacc, i, o, ho, he, m, hm => by
    have hi : i < acc.length := by
      have := (List.getElem?_eq_some_iff.1 ho).1
      rw [hops] at this; simp at this; omega
    exact hacc i o hi ho he m hm
  | o' :: l, pre, acc, hops, hlen, hacc, i, o, ho, he, m, hm => by
    refine befs_ok hE l (pre ++ [o']) (acc ++ [maskOf (edgesOf o') acc]) (by rw [hops]; simp) (by simp [hlen]) (fun i2 o2 hi2 ho2 he2 m2 hm2 => ?_) i o ho he m hm
    by_cases hlt : i2 < acc.length
    · rw [List.getD_eq_getElem?_getD, List.getElem?_append_left hlt, ← List.getD_eq_getElem?_getD] at hm2
      exact hacc i2 o2 hlt ho2 he2 m2 hm2
    · have e2 : i2 = acc.length := by simp at hi2; omega
      subst e2
      have ho' : o2 = o' := by
        rw [hops, hlen] at ho2
        simpa using ho2.symm
      subst ho'
      rw [List.getD_eq_getElem?_getD, List.getElem?_append_right (Nat.le_refl _)] at hm2
      simp only [Nat.sub_self, List.getElem?_cons_zero, Option.getD_some] at hm2
      refine mask_bits (fun j hj m3 hm3 => ?_) _ 0 (by simp) he2 m2 hm2
      by_cases hjl : j < acc.length
      · obtain ⟨oj, hoj⟩ : ∃ oj, ops[j]? = some oj := by
          have : j < ops.length := by rw [hops]; simp; omega
          exact ⟨_, List.getElem?_eq_getElem this⟩
        exact hacc j oj hjl hoj (hE j oj hj hoj) m3 hm3
      · rw [List.getD_eq_getElem?_getD, List.getElem?_eq_none (by omega)] at hm3
        simp at hm3

/-- The orders: each operation once, behind those that its edges name. -/
inductive Lin (ops : List Oper) : (Nat → Prop) → List Nat → Prop
  | nil {E : Nat → Prop} (h : ∀ i, i < ops.length → E i) : Lin ops E []
  | cons {E : Nat → Prop} {i : Nat} {o : Oper} {L : List Nat} (ho : ops[i]? = some o) (hn : ¬ E i) (he : ∀ e ∈ edgesOf o, E e) (h : Lin ops (fun j => E j ∨ j = i) L) : Lin ops E (i :: L)

theorem Lin.congr {ops : List Oper} {E E' : Nat → Prop} (h : ∀ i, E i ↔ E' i) {L : List Nat} (hl : Lin ops E L) : Lin ops E' L := by
  have : E = E' := funext fun i => propext (h i)
  exact this ▸ hl

theorem count_set {l : List Bool} {i : Nat} (h : l[i]? = some false) : (l.set i true).count false + 1 = l.count false := by
  induction l generalizing i with
  | nil => simp at h
  | cons a l ih =>
    cases i with
    | zero =>
      simp at h
      subst h
      simp
    | succ i =>
      have := ih (i := i) (by simpa using h)
      cases a <;> simp [List.set_cons_succ] <;> omega

theorem lin_go {ops : Array Oper} (hback : ∀ i o, ops[i]? = some o → ∀ e ∈ edgesOf o, e < i) : ∀ (fuel t : Nat) (listed : Array Bool) (acc : List Nat), listed.size = ops.size → listed.toList.count false ≤ fuel →
    ∃ L, Region.linearise.go .any ops fuel t listed acc = acc.reverse ++ L ∧ Lin ops.toList (fun i => listed.getD i false = true) L
  | 0, t, listed, acc, hsz, hcnt => by
    refine ⟨[], by simp [Region.linearise.go], .nil fun i hi => ?_⟩
    have hc : listed.toList.count false = 0 := by omega
    have hi' : i < listed.size := by rw [hsz]; simpa using hi
    rw [Array.getD_eq_getD_getElem?, getElem?_pos listed i hi']
    have := List.count_eq_zero.1 hc
    cases hb : listed[i] with
    | true => rfl
    | false => exact absurd (by rw [← hb]; simp) this
  | fuel + 1, t, listed, acc, hsz, hcnt => by
    simp only [Region.linearise.go]
    generalize hrs : ((List.range ops.size).filter fun i => !listed.getD i true && ((ops[i]?).map (·.after.all fun e => !Region.binds .any e || listed.getD e.on false)).getD false) = rs
    cases hp : rs[t % rs.length]? with
    | some i =>
      have hi : i ∈ rs := List.mem_of_getElem? hp
      rw [← hrs, List.mem_filter] at hi
      obtain ⟨hin, hcond⟩ := hi
      rw [List.mem_range] at hin
      simp only [Bool.and_eq_true, Bool.not_eq_true'] at hcond
      obtain ⟨hnl, hed⟩ := hcond
      have hil : i < listed.size := by omega
      have hli : listed[i]? = some false := by
        rw [getElem?_pos listed i hil]
        rw [Array.getD_eq_getD_getElem?, getElem?_pos listed i hil] at hnl
        simpa using hnl
      have ho : ops[i]? = some ops[i] := getElem?_pos ops i hin
      rw [ho] at hed
      simp only [Option.map_some, Option.getD_some] at hed
      obtain ⟨L, h1, h2⟩ := lin_go hback fuel (t / rs.length) (listed.setIfInBounds i true) (i :: acc) (by simpa using hsz) (by
        have := count_set (l := listed.toList) (i := i) (by simpa using hli)
        rw [Array.toList_setIfInBounds]; omega)
      refine ⟨i :: L, by simpa using h1, .cons (o := ops[i]) (by simp [hin]) (by rw [Array.getD_eq_getD_getElem?, hli]; simp) (fun e he => ?_) (h2.congr fun j => ?_)⟩
      · simp only [edgesOf, List.mem_map, List.mem_filter] at he
        obtain ⟨ed, ⟨hm, hb⟩, rfl⟩ := he
        have := (Array.all_eq_true_iff_forall_mem.1 hed) ed (by simpa using hm)
        simpa [hb] using this
      · simp only [Array.getD_eq_getD_getElem?, Array.getElem?_setIfInBounds]
        by_cases hij : i = j
        · subst hij; simp [hil]
        · simp [hij]; intro e; exact absurd e.symm hij
    | none =>
      refine ⟨[], by simp, .nil fun i hi => ?_⟩
      have hrs0 : rs = [] := by
        cases rs with
        | nil => rfl
        | cons a r =>
          exfalso
          rw [List.getElem?_eq_none_iff] at hp
          have := Nat.mod_lt t (show 0 < (a :: r).length by simp)
          omega
      -- the least one that is not listed would be ready
      have key : ∀ i, i < ops.size → listed.getD i false = true := by
        intro i
        induction i using Nat.strongRecOn with
        | _ i ih =>
          intro hi
          cases hb : listed.getD i false with
          | true => rfl
          | false =>
            exfalso
            have hil : i < listed.size := by omega
            have hb' : listed.getD i true = false := by
              rw [Array.getD_eq_getD_getElem?, getElem?_pos listed i hil] at hb ⊢
              simpa using hb
            have : i ∈ rs := by
              rw [← hrs, List.mem_filter]
              refine ⟨List.mem_range.2 hi, ?_⟩
              rw [hb', getElem?_pos ops i hi]
              simp only [Bool.not_false, Bool.true_and, Option.map_some, Option.getD_some]
              rw [Array.all_eq_true_iff_forall_mem]
              intro ed hed
              cases hbind : Region.binds .any ed with
              | false => simp
              | true =>
                simp only [Bool.not_true, Bool.false_or]
                have hlt := hback i ops[i] (getElem?_pos ops i hi) ed.on (by
                  simp only [edgesOf, List.mem_map, List.mem_filter]
                  exact ⟨ed, ⟨by simpa using hed, hbind⟩, rfl⟩)
                exact ih ed.on hlt (by omega)
            rw [hrs0] at this
            cases this
      exact key i (by simpa using hi)

theorem lin_all {ops : Array Oper} (hback : ∀ i o, ops[i]? = some o → ∀ e ∈ edgesOf o, e < i) {mixed : Bool} (hmix : mixed = true) (t : Nat) : Lin ops.toList (fun _ => False) (Region.schedule mixed ops t) := by
  subst hmix
  simp only [Region.schedule, Bool.true_or, if_true, Region.linearise]
  obtain ⟨L, h1, h2⟩ := lin_go hback ops.size t (Array.replicate ops.size false) [] (by simp) (by simp)
  rw [h1]
  simp only [List.reverse_nil, List.nil_append]
  refine h2.congr fun i => ?_
  simp only [Array.getD_eq_getD_getElem?, Array.getElem?_replicate]
  by_cases h : i < ops.size <;> simp [h]
end Go.Sx
