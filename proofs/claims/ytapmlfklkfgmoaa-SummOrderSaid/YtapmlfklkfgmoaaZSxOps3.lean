/- Arithmetic, comparisons, builtins: single operations upon a symbolic state. -/
import Derived.Test.YtapmlfklkfgmoaaZSxOps2
set_option linter.unusedVariables false
namespace Go.Sx
open Go.RowKit

section
variable {P : Program} {M : Nat → Prop} {w0 w : World} {ρ : Rh} {h : SH}

/-- A value of which the tree speaks, in whatever world; nothing changes. -/
def GoodP (P : Program) (ρ : Rh) (n : Nat) (K : SV → Prop) (s : Sem Value) : Prop := ∃ sv x, K sv ∧ sv.fit n ρ x ∧ ∀ w, s.run P w = .ok x w
theorem GoodP.mk' {n : Nat} {K : SV → Prop} {s : Sem Value} {sv : SV} {x : Value} (hk : K sv) (hf : sv.fit n ρ x) (hr : ∀ w, s.run P w = .ok x w) : GoodP P ρ n K s := ⟨sv, x, hk, hf, hr⟩

/-- Bit by bit. -/
def iAnd (q : IntKind) (x y : Int) : Int := q.wrap ((BitVec.ofInt q.bits x &&& BitVec.ofInt q.bits y).toNat : Int)
def iOr (q : IntKind) (x y : Int) : Int := q.wrap ((BitVec.ofInt q.bits x ||| BitVec.ofInt q.bits y).toNat : Int)
def iXor (q : IntKind) (x y : Int) : Int := q.wrap ((BitVec.ofInt q.bits x ^^^ BitVec.ofInt q.bits y).toNat : Int)
def iAndNot (q : IntKind) (x y : Int) : Int := q.wrap ((BitVec.ofInt q.bits x &&& ~~~(BitVec.ofInt q.bits y)).toNat : Int)
def iShl (q : IntKind) (x y : Int) : Int := q.wrap (x * 2 ^ (min y.toNat q.bits))
def iShr (q : IntKind) (x y : Int) : Int := x.fdiv (2 ^ (min y.toNat q.bits))
def intS (op : BinOp) (c : Bool) (q : IntKind) (x y : Int) : Tr SV :=
  match op with
  | .add => .ret (kv c (.int q (q.wrap (x + y))))
  | .sub => .ret (kv c (.int q (q.wrap (x - y))))
  | .mul => .ret (kv c (.int q (q.wrap (x * y))))
  | .quo => .ask (y ≠ 0) (.ret (kv c (.int q (q.wrap (x.tdiv y)))))
  | .rem => .ask (y ≠ 0) (.ret (kv c (.int q (x.tmod y))))
  | .eql => .ret (kv c (.bool (x == y)))
  | .neq => .ret (kv c (.bool (x != y)))
  | .lss => .ret (kv c (.bool (decide (x < y))))
  | .leq => .ret (kv c (.bool (decide (x ≤ y))))
  | .gtr => .ret (kv c (.bool (decide (x > y))))
  | .geq => .ret (kv c (.bool (decide (x ≥ y))))
  | .and => .ret (kv c (.int q (iAnd q x y)))
  | .or => .ret (kv c (.int q (iOr q x y)))
  | .xor => .ret (kv c (.int q (iXor q x y)))
  | .andNot => .ret (kv c (.int q (iAndNot q x y)))
  | _ => .bad 200
def shiftS (op : BinOp) (c c' : Bool) (q : IntKind) (x y : Int) : Tr SV :=
  match op with
  | .shl => bif c' && decide (0 ≤ y) then .ret (kv (c && c') (.int q (iShl q x y))) else .ask (0 ≤ y) (.ret (kv (c && c') (.int q (iShl q x y))))
  | .shr => bif c' && decide (0 ≤ y) then .ret (kv (c && c') (.int q (iShr q x y))) else .ask (0 ≤ y) (.ret (kv (c && c') (.int q (iShr q x y))))
  | _ => .bad 201
theorem eqGuard_int (op : BinOp) (t : TypeId) (xo yo : Operand) (q : IntKind) (x : Int) (b : Value) (w : World) : (eqGuard op t xo yo (.int q x) b).run P w = .ok () w := by
  unfold eqGuard
  split <;> simp
theorem int_ok {op : BinOp} {c : Bool} {q : IntKind} {x y : Int} {n : Nat} {K : SV → Prop} (hK : (intS op c q x y).Holds K) (t : TypeId) (xo yo : Operand) :
    GoodP P ρ n K (do eqGuard op t xo yo (.int q x) (.int q y); binOp op t (.int q x) (.int q y)) := by
  cases op <;> simp only [intS, Tr.Holds] at hK
  case quo => exact .mk' hK.2 (kv_fit _ _ _) (fun w => by simp [eqGuard_int, binOp, Op.intDiv, hK.1])
  case rem => exact .mk' hK.2 (kv_fit _ _ _) (fun w => by simp [eqGuard_int, binOp, Op.intDiv, hK.1])
  case and => exact .mk' hK (kv_fit _ _ _) (fun w => by simp [eqGuard_int, binOp, Op.intBits, iAnd])
  case or => exact .mk' hK (kv_fit _ _ _) (fun w => by simp [eqGuard_int, binOp, Op.intBits, iOr])
  case xor => exact .mk' hK (kv_fit _ _ _) (fun w => by simp [eqGuard_int, binOp, Op.intBits, iXor])
  case andNot => exact .mk' hK (kv_fit _ _ _) (fun w => by simp [eqGuard_int, binOp, Op.intBits, iAndNot])
  all_goals exact .mk' hK (kv_fit _ _ _) (fun w => by simp [eqGuard_int, binOp, Op.intArith, Op.intCmp])
theorem shift_ok {op : BinOp} {c c' : Bool} {q q' : IntKind} {x y : Int} {n : Nat} {K : SV → Prop} (hK : (shiftS op c c' q x y).Holds K) (t : TypeId) (xo yo : Operand) :
    GoodP P ρ n K (do eqGuard op t xo yo (.int q x) (.int q' y); binOp op t (.int q x) (.int q' y)) := by
  have key : ∀ (v : Int), ((bif c' && decide (0 ≤ y) then Tr.ret (kv (c && c') (.int q v)) else .ask (0 ≤ y) (.ret (kv (c && c') (.int q v)))).Holds K) → 0 ≤ y ∧ K (kv (c && c') (.int q v)) := fun v h => by
    cases hb : (c' && decide (0 ≤ y)) with
    | true =>
      rw [hb] at h
      simp only [Bool.and_eq_true, decide_eq_true_eq] at hb
      exact ⟨hb.2, h⟩
    | false =>
      rw [hb] at h
      exact h
  cases op <;> simp only [shiftS] at hK
  case shl =>
    obtain ⟨h1, h2⟩ := key _ hK
    exact .mk' h2 (kv_fit _ _ _) (fun w => by simp [eqGuard_int, binOp, Op.shift, iShl, if_neg (show ¬ y < 0 by omega)])
  case shr =>
    obtain ⟨h1, h2⟩ := key _ hK
    exact .mk' h2 (kv_fit _ _ _) (fun w => by simp [eqGuard_int, binOp, Op.shift, iShr, if_neg (show ¬ y < 0 by omega)])
  all_goals exact hK.elim

/-- What is compared, piece by piece. -/
def partV (P : Program) (t : TypeId) (xs : List SV) (o : Nat) : Option SV :=
  match aggT P t, szOf P t with
  | some true, some n => some (.agg ((xs.drop o).take n))
  | some false, _ => xs[o]?
  | _, _ => none
theorem partV_ok {t : TypeId} {xs : List SV} {l : List Value} {o n : Nat} {s : SV} (hs : partV P t xs o = some s) (hf : SV.fits n ρ xs l) : ∃ x, s.fit n ρ x ∧ ∀ w, (part t l.toArray o).run P w = .ok x w := by
  unfold partV at hs
  split at hs
  · rename_i k hag hsz
    simp only [Option.some.injEq] at hs
    subst hs
    refine ⟨.agg ((l.drop o).take k).toArray, ⟨_, rfl, fits_take k (fits_drop o hf)⟩, fun w => ?_⟩
    simp only [part, Sem.run_bind, run_aggT hag, run_szOf hsz, Result.andThen_ok, if_true, Sem.run_pure]
    congr 2
    apply Array.ext'
    rw [Array.toList_extract]
    simp [List.extract]
  · rename_i hag
    obtain ⟨x, hx', hfx⟩ := fits_get hf hs
    exact ⟨x, hfx, fun w => by simp [part, run_aggT hag, hx']⟩
  · cases hs

def conj : List Bool → Bool
  | [] => true
  | [b] => b
  | b :: r => b && conj r
theorem conj_cons (b : Bool) (r : List Bool) : conj (b :: r) = (b && conj r) := by cases r <;> simp [conj]
theorem conj_append : ∀ (a b : List Bool), conj (a ++ b) = (conj a && conj b)
  | [], b => by simp [conj]
  | x :: a, b => by rw [List.cons_append, conj_cons, conj_cons, conj_append a b, Bool.and_assoc]

def flatM {α : Type} (f : α → Option (List Bool)) : List α → Option (List Bool)
  | [] => some []
  | x :: r => match f x, flatM f r with
    | some a, some b => some (a ++ b)
    | _, _ => none
def eqV (P : Program) : Nat → TypeId → SV → SV → Option (List Bool)
  | 0, _, _, _ => none
  | d + 1, t, a, b =>
    match P.underlying t with
    | some .bool => match a.bool?, b.bool? with
      | some (_, x), some (_, y) => some [x == y]
      | _, _ => none
    | some (.int _) => match a.int?, b.int? with
      | some (_, q, x), some (_, q', y) => bif decide (q = q') then some [x == y] else none
      | _, _ => none
    | some .string => match a.str?, b.str? with
      | some (_, x), some (_, y) => some [decide (x = y)]
      | _, _ => none
    | some (.struct fs) => match a.agg?, b.agg? with
      | some xs, some ys => bif P.stoodInHeld t then none else
        flatM (fun f : Field => bif f.name == "_" then none else match partV P f.type xs f.offset, partV P f.type ys f.offset with
          | some y1, some y2 => eqV P d f.type y1 y2
          | _, _ => none) fs.toList
      | _, _ => none
    | some (.array n e) => match a.agg?, b.agg?, szOf P e with
      | some xs, some ys, some sz => flatM (fun i => match partV P e xs (i * sz), partV P e ys (i * sz) with
          | some y1, some y2 => eqV P d e y1 y2
          | _, _ => none) (List.range n)
      | _, _, _ => none
    | _ => none

theorem beq_bytes (a b : ByteArray) : (a == b) = decide (a = b) := by
  by_cases e : a = b
  · subst e
    rw [decide_eq_true rfl, beq_toListBytes]
    simp
  · rw [decide_eq_false e, beq_toListBytes, ByteArray.toList_eq, ByteArray.toList_eq]
    have : a.data.toList ≠ b.data.toList := by
      intro he
      apply e
      cases a; cases b
      simp at he
      rw [he]
    simpa using this

theorem eqV_ok {n : Nat} : ∀ (d : Nat) (k : Nat) (t : TypeId) (a b : SV) (x y : Value) (bs : List Bool), eqV P d t a b = some bs → a.fit n ρ x → b.fit n ρ y →
    ∀ w, (Op.equalIn (d + k) t x y).run P w = .ok (conj bs) w
  | 0, _, _, _, _, _, _, _, h, _, _ => by simp [eqV] at h
  | d + 1, k, t, a, b, x, y, bs, hh, ha, hb => by
    intro w
    rw [show d + 1 + k = (d + k) + 1 by omega]
    unfold eqV at hh
    split at hh
    · rename_i hu
      split at hh
      · rename_i _ y1 _ y2 h1 h2
        simp only [Option.some.injEq] at hh
        subst hh
        rw [SV.bool_fit h1 ha, SV.bool_fit h2 hb]
        simp [Op.equalIn, run_underlying hu, conj]
      · cases hh
    · rename_i hu
      split at hh
      · rename_i _ q y1 _ q' y2 h1 h2
        cases hq : decide (q = q') with
        | false => simp [hq] at hh
        | true =>
          have hqq := of_decide_eq_true hq
          simp only [hq, cond_true, Option.some.injEq] at hh
          subst hh; subst hqq
          rw [SV.int_fit h1 ha, SV.int_fit h2 hb]
          simp [Op.equalIn, run_underlying hu, conj]
      · cases hh
    · rename_i hu
      split at hh
      · rename_i _ y1 _ y2 h1 h2
        simp only [Option.some.injEq] at hh
        subst hh
        rw [SV.str_fit h1 ha, SV.str_fit h2 hb]
        simp [Op.equalIn, run_underlying hu, conj, beq_bytes]
      · cases hh
    · rename_i fs hu
      split at hh
      · rename_i xs ys h1 h2
        obtain ⟨l, rfl, hl⟩ := SV.agg_fit h1 ha
        obtain ⟨m, rfl, hm⟩ := SV.agg_fit h2 hb
        cases hst : P.stoodInHeld t with
        | true => simp [hst] at hh
        | false =>
          simp only [hst, cond_false] at hh
          have hfo : P.fieldsOf t = fs := by simp [Program.fieldsOf, hu]
          rw [run_equalIn_struct w (d + k) t _ _ (by rw [hfo]; exact hu) hst, hfo]
          generalize fs.toList = fl at hh
          clear hu hfo
          induction fl generalizing bs w with
          | nil => simp [flatM] at hh; subst hh; simp [Op.eqFields, conj]
          | cons f fl ih =>
            simp only [flatM] at hh
            split at hh
            · rename_i b1 b2 hb1 hb2
              simp only [Option.some.injEq] at hh
              subst hh
              have hname : (f.name == "_") = false := by
                cases hn : (f.name == "_") with
                | false => rfl
                | true => simp [hn] at hb1
              simp only [hname, cond_false] at hb1
              split at hb1
              · rename_i y1 y2 hu1 hv1
                obtain ⟨a1, hfa, hra⟩ := partV_ok hu1 hl
                obtain ⟨a2, hfb, hrb⟩ := partV_ok hv1 hm
                have e1 := eqV_ok d k f.type y1 y2 a1 a2 b1 hb1 hfa hfb
                simp only [Op.eqFields, ne_eq, beq_eq_false_iff_ne.1 hname, not_false_eq_true, if_true, Sem.run_bind, hra, hrb, e1, Result.andThen_ok, conj_append]
                cases hc : conj b1 with
                | false => simp
                | true => simpa using ih b2 w hb2
              · cases hb1
            · cases hh
      · cases hh
    · rename_i len e hu
      split at hh
      · rename_i xs ys sz h1 h2 hsz
        obtain ⟨l, rfl, hl⟩ := SV.agg_fit h1 ha
        obtain ⟨m, rfl, hm⟩ := SV.agg_fit h2 hb
        have hie : ∃ i, P.info? e = some i := by
          unfold szOf at hsz
          cases hi : P.info? e with
          | none => simp [hi] at hsz
          | some i => exact ⟨i, rfl⟩
        obtain ⟨i, hi⟩ := hie
        have hcs : P.cellsOf e = sz := by
          have r1 := run_sizeOf w hi
          rw [run_szOf hsz] at r1
          simpa using r1.symm
        rw [run_equalIn_array w (d + k) _ _ hu hi, hcs]
        generalize List.range len = il at hh
        clear hu
        induction il generalizing bs w with
        | nil => simp [flatM] at hh; subst hh; simp [Op.eqItems, conj]
        | cons f fl ih =>
          simp only [flatM] at hh
          split at hh
          · rename_i b1 b2 hb1 hb2
            simp only [Option.some.injEq] at hh
            subst hh
            split at hb1
            · rename_i y1 y2 hu1 hv1
              obtain ⟨a1, hfa, hra⟩ := partV_ok hu1 hl
              obtain ⟨a2, hfb, hrb⟩ := partV_ok hv1 hm
              have e1 := eqV_ok d k e y1 y2 a1 a2 b1 hb1 hfa hfb
              simp only [Op.eqItems, Sem.run_bind, hra, hrb, e1, Result.andThen_ok, conj_append]
              cases hc : conj b1 with
              | false => simp
              | true => simpa using ih b2 w hb2
            · cases hb1
          · cases hh
      · cases hh
    · cases hh

def strS (op : BinOp) (c : Bool) (x y : ByteArray) : Tr SV :=
  match op with
  | .add => .ask (x.size + y.size ≤ 9223372036854775807) (.ret (kv c (.string (x ++ y))))
  | .eql => .ret (kv c (.bool (decide (x = y))))
  | .neq => .ret (kv c (.bool (!decide (x = y))))
  | .lss => .ret (kv c (.bool (Op.bytesLess x.toList y.toList)))
  | .leq => .ret (kv c (.bool (Op.bytesLess x.toList y.toList || decide (x = y))))
  | .gtr => .ret (kv c (.bool (!(Op.bytesLess x.toList y.toList || decide (x = y)))))
  | .geq => .ret (kv c (.bool (!Op.bytesLess x.toList y.toList)))
  | _ => .bad 210
theorem eqGuard_string (op : BinOp) (t : TypeId) (xo yo : Operand) (x : ByteArray) (b : Value) (w : World) : (eqGuard op t xo yo (.string x) b).run P w = .ok () w := by
  unfold eqGuard
  split <;> simp
theorem eqGuard_bool (op : BinOp) (t : TypeId) (xo yo : Operand) (x : Bool) (b : Value) (w : World) : (eqGuard op t xo yo (.bool x) b).run P w = .ok () w := by
  unfold eqGuard
  split <;> simp
theorem str_ok {op : BinOp} {c : Bool} {x y : ByteArray} {n : Nat} {K : SV → Prop} (hK : (strS op c x y).Holds K) (t : TypeId) (xo yo : Operand) :
    GoodP P ρ n K (do eqGuard op t xo yo (.string x) (.string y); binOp op t (.string x) (.string y)) := by
  have he : (x.toList == y.toList) = decide (x = y) := by rw [← beq_toListBytes, beq_bytes]
  cases op <;> simp only [strS, Tr.Holds] at hK
  case add =>
    refine .mk' hK.2 (kv_fit _ _ _) (fun w => ?_)
    have hmax : IntKind.i64.max = 9223372036854775807 := rfl
    have hle := hK.1
    simp only [Sem.run_bind, eqGuard_string, Result.andThen_ok, binOp, Op.stringOp, hmax]
    rw [if_neg (by omega)]
    simp
  all_goals first
    | exact hK.elim
    | exact .mk' hK (kv_fit _ _ _) (fun w => by simp [eqGuard_string, binOp, Op.stringOp, he])

def nilS : SV → Option Bool
  | .k (.slice none _ _) => some true
  | .k (.map none) => some true
  | .k (.pointer none) => some true
  | .k .nilFunc => some true
  | .sl .. | .mp _ | .p .. | .pe .. | .fn .. => some false
  | _ => none

def binS (P : Program) (op : BinOp) (t : TypeId) (a b : SV) : Tr SV :=
  match a.int?, b.int? with
  | some (c, q, x), some (c', q', y) => match op with
    | .shl | .shr => shiftS op c c' q x y
    | _ => bif decide (q = q') then intS op (c && c') q x y else .bad 220
  | _, _ =>
    match a.str?, b.str? with
    | some (c, x), some (c', y) => strS op (c && c') x y
    | _, _ =>
      match a.bool?, b.bool?, P.underlying t with
      | some (c, x), some (c', y), some .bool => match op with
        | .eql => .ret (kv (c && c') (.bool (x == y)))
        | .neq => .ret (kv (c && c') (.bool (!(x == y))))
        | _ => .bad 221
      | _, _, _ =>
        match a.agg?, b.agg? with
        | some _, some _ => bif P.eqGuardType P.depth t then .bad 222 else
          match eqV P 50 t a b, op with
          | some bs, .eql => .ret (.v (.bool (conj bs)))
          | some bs, .neq => .ret (.v (.bool (!conj bs)))
          | _, _ => .bad 223
        | _, _ => .bad 224
theorem bin_ok {op : BinOp} {t : TypeId} {a b : SV} {x y : Value} {n : Nat} {K : SV → Prop} (ha : a.fit n ρ x) (hb : b.fit n ρ y) (hK : (binS P op t a b).Holds K) (xo yo : Operand) :
    GoodP P ρ n K (do eqGuard op t xo yo x y; binOp op t x y) := by
  unfold binS at hK
  split at hK
  · rename_i c q y1 c' q' y2 h1 h2
    rw [SV.int_fit h1 ha, SV.int_fit h2 hb]
    split at hK
    · exact shift_ok hK t xo yo
    · exact shift_ok hK t xo yo
    · cases hq : decide (q = q') with
      | false => rw [hq] at hK; exact hK.elim
      | true =>
        have := of_decide_eq_true hq
        subst this
        rw [hq] at hK
        exact int_ok hK t xo yo
  · split at hK
    · rename_i c y1 c' y2 h1 h2
      rw [SV.str_fit h1 ha, SV.str_fit h2 hb]
      exact str_ok hK t xo yo
    · split at hK
      · rename_i c y1 c' y2 h1 h2 hu
        rw [SV.bool_fit h1 ha, SV.bool_fit h2 hb]
        cases op <;> simp only [Tr.Holds] at hK
        case eql => exact .mk' hK (kv_fit _ _ _) (fun w => by simp [eqGuard_bool, binOp, run_equal_bool w t _ _ hu])
        case neq => exact .mk' hK (kv_fit _ _ _) (fun w => by simp [eqGuard_bool, binOp, run_equal_bool w t _ _ hu])
      · split at hK
        · rename_i xs ys h1 h2
          cases hg : P.eqGuardType P.depth t with
          | true => rw [hg] at hK; exact hK.elim
          | false =>
            rw [hg] at hK
            simp only [cond_false] at hK
            split at hK
            · rename_i bs hbs
              have hr := eqV_ok 50 9950 t a b x y bs hbs ha hb
              obtain ⟨l, rfl, _⟩ := SV.agg_fit h1 ha
              obtain ⟨m, rfl, _⟩ := SV.agg_fit h2 hb
              refine .mk' hK (x := .bool (conj bs)) (by simp [SV.fit]) (fun w => ?_)
              simp only [Sem.run_bind, run_eqGuard_agg w _ _ _ _ _ _ hg, Result.andThen_ok, run_eql_struct, hr w]
            · rename_i bs hbs
              have hr := eqV_ok 50 9950 t a b x y bs hbs ha hb
              obtain ⟨l, rfl, _⟩ := SV.agg_fit h1 ha
              obtain ⟨m, rfl, _⟩ := SV.agg_fit h2 hb
              refine .mk' hK (x := .bool (!conj bs)) (by simp [SV.fit]) (fun w => ?_)
              simp only [Sem.run_bind, run_eqGuard_agg w _ _ _ _ _ _ hg, Result.andThen_ok, run_neq_struct, hr w]
            · exact hK.elim
        · exact hK.elim

def unS (op : UnOp) (a : SV) : Tr SV :=
  match op with
  | .not => match a.bool? with
    | some (c, b) => .ret (kv c (.bool (!b)))
    | none => .bad 230
  | .neg => match a.int? with
    | some (c, q, n) => .ret (kv c (.int q (q.wrap (0 - n))))
    | none => .bad 231
  | _ => .bad 232
theorem un_ok {op : UnOp} {a : SV} {x : Value} {n : Nat} {K : SV → Prop} (ha : a.fit n ρ x) (hK : (unS op a).Holds K) : GoodP P ρ n K (Op.unary op x) := by
  unfold unS at hK
  split at hK
  · split at hK
    · rename_i c b h1
      rw [SV.bool_fit h1 ha]
      exact .mk' hK (kv_fit _ _ _) (fun w => by simp [Op.unary])
    · exact hK.elim
  · split at hK
    · rename_i c q m h1
      rw [SV.int_fit h1 ha]
      exact .mk' hK (kv_fit _ _ _) (fun w => by simp [Op.unary, Op.intArith])
    · exact hK.elim
  · exact hK.elim

def convS (P : Program) (src dst : TypeId) (a : SV) : Tr SV :=
  match P.underlying src, P.underlying dst with
  | some (.int _), some (.int q) => match a.int? with
    | some (c, _, n) => .ret (kv c (.int q (q.wrap n)))
    | none => .bad 240
  | some .string, some .string => match a.str? with
    | some _ => .ret a
    | none => .bad 241
  | _, _ => .bad 242
theorem conv_ok {src dst : TypeId} {a : SV} {x : Value} {n : Nat} {K : SV → Prop} (ha : a.fit n ρ x) (hK : (convS P src dst a).Holds K) : GoodP P ρ n K (convert src dst x) := by
  unfold convS at hK
  split at hK
  · rename_i h1 h2
    split at hK
    · rename_i c q m h3
      rw [SV.int_fit h3 ha]
      exact .mk' hK (kv_fit _ _ _) (fun w => by simp [convert, run_underlying h1, run_underlying h2, Conv.intToInt])
    · exact hK.elim
  · rename_i h1 h2
    split at hK
    · rename_i z h3
      obtain ⟨c, b⟩ := z
      have hx := SV.str_fit h3 ha
      refine .mk' (x := x) hK ha (fun w => by rw [hx]; simp [convert, run_underlying h1, run_underlying h2])
    · exact hK.elim
  · exact hK.elim
end
end Go.Sx
