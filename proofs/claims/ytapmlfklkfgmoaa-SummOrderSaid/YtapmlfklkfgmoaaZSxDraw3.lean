/- Regions whose order is drawn: the run. -/
import Derived.Test.YtapmlfklkfgmoaaZSxDraw2
set_option linter.unusedVariables false
namespace Go.Sx
open Go.RowKit

def tmpsOf (ops : List Oper) (o : Oper) : List Nat :=
  (o.op.operands.toList.filterMap fun | .tmp t => some t | _ => none) ++ (match o.guard with
    | some (j, _) => match ops[j]? with
      | some g => match g.dst with
        | some d => [d]
        | none => []
      | none => []
    | none => [])
/-- It does not look into memory. -/
def freeO : Op → Bool
  | .move _ | .assign _ | .pick .. | .binOp .. | .unOp .. | .convert .. | .field .. | .extract .. => true
  | _ => false
theorem free_quiet {Q : Nat → Bool} {o : Op} (h : freeO o = true) : quietO Q o = true := by
  cases o <;> simp_all [freeO, quietO]
/-- What an operation comes to that does not look into memory. -/
theorem free_indep {P : Program} {run yld : Nat → Con} {ev : Operand → SV} {o : Op} (hf : freeO o = true) : ∃ t : Tr SV, ∀ h : SH, opS P run yld ev h o = t.bind fun s => .ret (s, h) := by
  cases o <;> try (simp [freeO] at hf; done)
  case move x => exact ⟨.ret (ev x), fun _ => rfl⟩
  case assign x => exact ⟨.ret (ev x), fun _ => rfl⟩
  case pick c a b =>
    simp only [opS]
    repeat' split
    all_goals first | exact ⟨.ret _, fun _ => rfl⟩ | exact ⟨.br _ (.ret _) (.ret _), fun _ => rfl⟩ | exact ⟨.bad _, fun _ => rfl⟩
  case binOp op t x y t' =>
    simp only [opS]
    repeat' split
    all_goals first | exact ⟨.ret _, fun _ => rfl⟩ | exact ⟨.bad _, fun _ => rfl⟩ | exact ⟨binS P _ t (ev x) (ev y), fun _ => rfl⟩
  case unOp op t x => exact ⟨unS op (ev x), fun _ => rfl⟩
  case convert s d x => exact ⟨convS P s d (ev x), fun _ => rfl⟩
  case field t x f =>
    simp only [opS]
    unfold fieldS
    split
    · split
      · unfold partS
        split
        · exact ⟨.ret _, fun _ => rfl⟩
        · split
          · exact ⟨.ret _, fun _ => rfl⟩
          · exact ⟨.bad _, fun _ => rfl⟩
        · exact ⟨.bad _, fun _ => rfl⟩
      · exact ⟨.bad _, fun _ => rfl⟩
    · exact ⟨.bad _, fun _ => rfl⟩
  case extract x i =>
    simp only [opS]
    unfold extractS
    repeat' split
    all_goals first | exact ⟨.ret _, fun _ => rfl⟩ | exact ⟨.bad _, fun _ => rfl⟩
theorem free_holds {P : Program} {run yld : Nat → Con} {ev : Operand → SV} {o : Op} (hf : freeO o = true) {h h1 h' : SH} {x : SV} (hh : (opS P run yld ev h o).Holds (· = (x, h1))) : (opS P run yld ev h' o).Holds (· = (x, h')) := by
  obtain ⟨t, ht⟩ := free_indep (P := P) (run := run) (yld := yld) (ev := ev) hf
  rw [ht] at hh ⊢
  refine Tr.bind_holds (Tr.mono (fun s hs => ?_) (Tr.holds_bind hh))
  have hs : (s, h) = (x, h1) := hs
  simp only [Prod.mk.injEq] at hs
  show (s, h') = (x, h')
  rw [hs.1]
def needs (Q : Nat → Bool) (ops : List Oper) (oi oj : Oper) : Bool :=
  (!quietO Q oi.op && !freeO oj.op) || (!quietO Q oj.op && !freeO oi.op) ||
  (match oi.dst with
    | some t => (match oj.dst with | some t' => Nat.beq t t' | none => false) || (tmpsOf ops oj).any (Nat.beq t)
    | none => false) ||
  (match oj.dst with
    | some t => (tmpsOf ops oi).any (Nat.beq t)
    | none => false)
def backOk (ops : List Oper) : Bool := ops.zipIdx.all fun x => (edgesOf x.1).all fun e => Nat.blt e x.2
def pairsOk (Q : Nat → Bool) (ops : List Oper) (ms : List Nat) : Bool :=
  ops.zipIdx.all fun y => (ops.zipIdx.take y.2).all fun x => !needs Q ops x.1 y.1 || (ms.getD y.2 0).testBit x.2
def drawOk (P : Program) (Q : Nat → Bool) (ops : Array Oper) : Bool :=
  P.follows .mixedOrders && backOk ops.toList && pairsOk Q ops.toList (befs ops.toList [])

def drawOps (P : Program) (run yld : Nat → Con) (ops : Array Oper) : List Oper → St → Tr St
  | [], σ => .ret σ
  | o :: r, σ => guardS ops σ o fun g σ =>
    match g with
    | true => (opS P run yld σ.ev σ.h o.op).strip.bind fun x => drawOps P run yld ops r (σ.put o.dst x.1 x.2)
    | false => drawOps P run yld ops r (σ.put o.dst (.k undef) σ.h)

theorem opS_congr {P : Program} {run yld : Nat → Con} {ev ev' : Operand → SV} {h : SH} {o : Op} (he : ∀ x ∈ o.operands, ev x = ev' x) : opS P run yld ev h o = opS P run yld ev' h o := by
  unfold opS
  cases o with
  | call c =>
    obtain ⟨cal, args, ats⟩ := c
    have hargs : args.toList.map ev = args.toList.map ev' := List.map_congr_left fun x hx => he x (by simp [Op.operands, Call.operands]; right; simpa using hx)
    cases cal with
    | builtin b => simp only [hargs]
    | value f => simp only [hargs, he f (by simp [Op.operands, Call.operands])]
    | invoke _ _ => rfl
  | build t ps =>
    have : (ps.toList.map fun x => (x.1, ev x.2)) = ps.toList.map fun x => (x.1, ev' x.2) := List.map_congr_left fun x hx => by
      rw [he x.2 (by simp [Op.operands]; exact ⟨x.1, by simpa using hx⟩)]
    simp only [this]
  | buildSlice t l ps =>
    have : (ps.toList.map fun x => (x.1, ev x.2)) = ps.toList.map fun x => (x.1, ev' x.2) := List.map_congr_left fun x hx => by
      rw [he x.2 (by simp [Op.operands]; exact ⟨x.1, by simpa using hx⟩)]
    simp only [this]
  | makeFunc fn first cap =>
    have : cap.toList.map ev = cap.toList.map ev' := List.map_congr_left fun x hx => he x (by simp [Op.operands]; right; simpa using hx)
    cases fn <;> simp only [this]
  | slice t x lo hi mx =>
    cases mx with
    | some _ => rfl
    | none =>
      have hx := he x (by simp [Op.operands])
      have h1 : lo.map ev = lo.map ev' := by
        cases lo with
        | none => rfl
        | some y => simp only [Option.map_some]; rw [he y (by simp [Op.operands])]
      have h2 : hi.map ev = hi.map ev' := by
        cases hi with
        | none => rfl
        | some y => simp only [Option.map_some]; rw [he y (by simp [Op.operands])]
      simp only [hx, h1, h2]
  | pick c a b => simp only [he c (by simp [Op.operands]), he a (by simp [Op.operands]), he b (by simp [Op.operands])]
  | move x => simp only [he x (by simp [Op.operands])]
  | assign x => simp only [he x (by simp [Op.operands])]
  | box t x => simp only [he x (by simp [Op.operands])]
  | load t x => simp only [he x (by simp [Op.operands])]
  | store t a x => simp only [he x (by simp [Op.operands]), he a (by simp [Op.operands])]
  | binOp op t x y t' => simp only [he x (by simp [Op.operands]), he y (by simp [Op.operands])]
  | unOp op t x => simp only [he x (by simp [Op.operands])]
  | convert s d x => simp only [he x (by simp [Op.operands])]
  | fieldAddr t x f => simp only [he x (by simp [Op.operands])]
  | field t x f => simp only [he x (by simp [Op.operands])]
  | indexAddr t x i => simp only [he x (by simp [Op.operands]), he i (by simp [Op.operands])]
  | index t x i => simp only [he x (by simp [Op.operands]), he i (by simp [Op.operands])]
  | extract x i => simp only [he x (by simp [Op.operands])]
  | _ => rfl

section
variable {P : Program} {M : Nat → Prop} {w0 : World}

def Imp (T : Nat → SV) (σ : St) : Prop := ∀ t n ρ x, (T t).fit n ρ x → (σ.slot t).fit n ρ x

structure Trace (P : Program) (run yld : Nat → Con) (ops : Array Oper) (k m : Nat) (σ σn : St) (T0 : Nat → SV) (st : Nat → St) (g : Nat → Bool) (s : Nat → SV) (H : Nat → SH) (T : Nat → Nat → SV) : Prop where
  h0 : H k = σ.h
  t0 : T k = T0
  imp : ∀ i, k ≤ i → i < m → Imp (T i) (st i) ∧ (st i).n = σ.n
  guard : ∀ i o, k ≤ i → i < m → ops[i]? = some o → ∀ (tm : Array Value) n ρ, tm.size = σ.n →
    (∀ j w d, o.guard = some (j, w) → (ops[j]?).bind (·.dst) = some d → (T i d).fit n ρ (tm.getD d undef)) → Region.wanted o (yielded ops tm) = g i
  yes : ∀ i o, k ≤ i → i < m → ops[i]? = some o → g i = true → (opS P run yld (st i).ev (H i) o.op).Holds (· = (s i, H (i + 1)))
  each : ∀ i o, k ≤ i → i < m → ops[i]? = some o → g i = true → ∀ p : SV × SH → Prop, (opS P run yld (st i).ev (H i) o.op).Each p → p (s i, H (i + 1))
  glt : ∀ i o j w d, k ≤ i → i < m → ops[i]? = some o → o.guard = some (j, w) → (ops[j]?).bind (·.dst) = some d → d < σ.n
  no : ∀ i, k ≤ i → i < m → g i = false → H (i + 1) = H i ∧ s i = .k undef
  next : ∀ i o t, k ≤ i → i < m → ops[i]? = some o → T (i + 1) t = if o.dst = some t then s i else T i t
  hn : H m = σn.h
  tn : Imp (T m) σn
  nn : σn.n = σ.n
  dn : σn.d = σ.d

theorem imp_know {T : Nat → SV} {σ : St} {d : Nat} {b : Bool} (hi : Imp T σ) (hs : σ.slot d = .v (.bool b)) : Imp T (σ.know d b) := by
  intro t n ρ x hf
  have h := hi t n ρ x hf
  show (look (look (.k undef) t σ.b) t ((d, .k (.bool b)) :: σ.t)).fit n ρ x
  rw [look_cons]
  by_cases htd : t = d
  · subst htd
    rw [if_pos rfl]
    rw [hs] at h
    exact h
  · rw [if_neg htd]; exact h
theorem imp_put {T T' : Nat → SV} {σ : St} {dst : Option Nat} {s : SV} {h : SH} (hi : Imp T σ) (hT : ∀ t, T' t = if dst = some t then s else T t) : Imp T' (σ.put dst s h) := by
  intro t n ρ x hf
  rw [hT] at hf
  cases dst with
  | none => simp at hf; exact hi t n ρ x hf
  | some d =>
    show (look (look (.k undef) t σ.b) t ((d, s) :: σ.t)).fit n ρ x
    rw [look_cons]
    by_cases htd : t = d
    · subst htd; simpa using hf
    · rw [if_neg htd]
      have : ¬ (some d = some t) := by simp; exact fun e => htd e.symm
      rw [if_neg this] at hf
      exact hi t n ρ x hf

/-- What a guard comes to. -/
theorem guard_trace {ops : Array Oper} {σ : St} {o : Oper} {go : Bool → St → Tr St} {K : St → Prop} {T : Nat → SV} (hi : Imp T σ) (hK : (guardS ops σ o go).Holds K) :
    ∃ g σ', (go g σ').Holds K ∧ Imp T σ' ∧ σ'.h = σ.h ∧ σ'.n = σ.n ∧ σ'.d = σ.d ∧ (∀ (tm : Array Value) n ρ, tm.size = σ.n →
      (∀ j w d, o.guard = some (j, w) → (ops[j]?).bind (·.dst) = some d → (T d).fit n ρ (tm.getD d undef)) → Region.wanted o (yielded ops tm) = g) ∧ ∀ j w d, o.guard = some (j, w) → (ops[j]?).bind (·.dst) = some d → d < σ.n := by
  unfold guardS at hK
  cases hg : o.guard with
  | none => rw [hg] at hK; exact ⟨true, σ, hK, hi, rfl, rfl, rfl, fun tm n ρ _ _ => (by simp [Region.wanted, hg]), fun j w d h => (by cases h)⟩
  | some jw =>
    obtain ⟨j, want⟩ := jw
    rw [hg] at hK
    simp only at hK
    cases hd : (ops[j]?).bind (·.dst) with
    | none => rw [hd] at hK; exact ⟨false, σ, hK, hi, rfl, rfl, rfl, fun tm n ρ _ _ => (by simp [Region.wanted, hg, yielded, hd]), fun j' w' d' h h' => (by injection h with h; injection h with e1 e2; subst e1; rw [hd] at h'; cases h')⟩
    | some d =>
      rw [hd] at hK
      simp only at hK
      have hlt : d < σ.n ∧ (match σ.slot d with
          | .k (.bool b) => go (b == want) σ
          | .v (.bool b) => .br b (go (true == want) (σ.know d true)) (go (false == want) (σ.know d false))
          | .k (.tuple _) => go false σ
          | _ => .bad 500).Holds K := by
        cases hb : Nat.blt d σ.n with
        | true => rw [hb] at hK; exact ⟨by simpa [Nat.blt_eq] using hb, hK⟩
        | false => rw [hb] at hK; exact hK.elim
      obtain ⟨hlt, hK1⟩ := hlt
      have wit : ∀ (g : Bool) (y : Value), (∀ n ρ x, (σ.slot d).fit n ρ x → x = y) → ((match y with | .bool b => some b | _ => none) == some want) = g → ∀ (tm : Array Value) n ρ, tm.size = σ.n →
          (∀ j' w d', some (j, want) = some (j', w) → (ops[j']?).bind (·.dst) = some d' → (T d').fit n ρ (tm.getD d' undef)) → Region.wanted o (yielded ops tm) = g := by
        intro g y hy hgy tm n ρ hsz hfit
        have hx := hy n ρ _ (hi d n ρ _ (hfit j want d rfl hd))
        have hget : tm[d]? = some (tm.getD d undef) := by
          rw [Array.getD_eq_getD_getElem?, getElem?_pos tm d (hsz ▸ hlt)]; rfl
        simp only [Region.wanted, hg, yielded, hd, Option.bind_some, hget, hx]
        cases y <;> exact hgy
      have gl : ∀ j' w' d', some (j, want) = some (j', w') → (ops[j']?).bind (·.dst) = some d' → d' < σ.n := fun j' w' d' h h' => by
        injection h with h; injection h with e1 e2; subst e1; rw [hd] at h'; injection h' with h'; exact h' ▸ hlt
      cases hs : σ.slot d with
      | k x =>
        rw [hs] at hK1
        cases x with
        | bool b => exact ⟨_, σ, hK1, hi, rfl, rfl, rfl, wit _ (.bool b) (fun n ρ x h => by rw [hs] at h; exact h) (by simp), gl⟩
        | tuple l => exact ⟨_, σ, hK1, hi, rfl, rfl, rfl, wit _ (.tuple l) (fun n ρ x h => by rw [hs] at h; exact h) (by simp), gl⟩
        | _ => exact hK1.elim
      | v x =>
        rw [hs] at hK1
        cases x with
        | bool b =>
          cases b with
          | true => exact ⟨_, σ.know d true, hK1.1 rfl, imp_know hi hs, rfl, rfl, rfl, wit _ (.bool true) (fun n ρ x h => by rw [hs] at h; exact h) (by simp), gl⟩
          | false => exact ⟨_, σ.know d false, hK1.2 rfl, imp_know hi hs, rfl, rfl, rfl, wit _ (.bool false) (fun n ρ x h => by rw [hs] at h; exact h) (by simp), gl⟩
        | _ => exact hK1.elim
      | _ => rw [hs] at hK1; exact hK1.elim

theorem trace_ok {run yld : Nat → Con} {ops : Array Oper} {K : St → Prop} : ∀ (l : List Oper) (k : Nat) (σ : St) (T0 : Nat → SV), (∀ j, l[j]? = ops[k + j]?) → Imp T0 σ → (drawOps P run yld ops l σ).Holds K →
    ∃ σn st g s H T, K σn ∧ Trace P run yld ops k (k + l.length) σ σn T0 st g s H T
  | [], k, σ, T0, _, hi, hK => by
    refine ⟨σ, fun _ => σ, fun _ => true, fun _ => .u, fun _ => σ.h, fun _ => T0, hK, rfl, rfl, ?_, ?_, ?_, ?_, ?_, ?_, ?_, rfl, hi, rfl, rfl⟩
    · intro i h1 h2; exact absurd h2 (by simp; omega)
    · intro i o h1 h2; exact absurd h2 (by simp; omega)
    · intro i o h1 h2; exact absurd h2 (by simp; omega)
    · intro i o h1 h2; exact absurd h2 (by simp; omega)
    · intro i o j w d h1 h2; exact absurd h2 (by simp; omega)
    · intro i h1 h2; exact absurd h2 (by simp; omega)
    · intro i o t h1 h2; exact absurd h2 (by simp; omega)
  | o :: l, k, σ, T0, hl, hi, hK => by
    have ho : ops[k]? = some o := by simpa using (hl 0).symm
    have hl' : ∀ j, l[j]? = ops[k + 1 + j]? := fun j => by have := hl (j + 1); simpa [Nat.add_assoc, Nat.add_comm 1 j] using this
    obtain ⟨g0, σ1, hK1, hi1, hh1, hn1, hd1, hguard, hglt⟩ := guard_trace hi hK
    have mk : ∀ (s0 : SV) (h' : SH), (drawOps P run yld ops l (σ1.put o.dst s0 h')).Holds K → (g0 = true → (opS P run yld σ1.ev σ.h o.op).Holds (· = (s0, h')) ∧ ∀ p : SV × SH → Prop, (opS P run yld σ1.ev σ.h o.op).Each p → p (s0, h')) → (g0 = false → h' = σ.h ∧ s0 = .k undef) →
        ∃ σn st g s H T, K σn ∧ Trace P run yld ops k (k + (o :: l).length) σ σn T0 st g s H T := by
      intro s0 h' hK2 hyes hno
      have hT1 : ∀ t, (fun t => if o.dst = some t then s0 else T0 t) t = if o.dst = some t then s0 else T0 t := fun _ => rfl
      obtain ⟨σn, st, g, s, H, T, hKn, tr⟩ := trace_ok l (k + 1) (σ1.put o.dst s0 h') (fun t => if o.dst = some t then s0 else T0 t) hl' (imp_put hi1 hT1) hK2
      have hput : (σ1.put o.dst s0 h').h = h' ∧ (σ1.put o.dst s0 h').n = σ.n ∧ (σ1.put o.dst s0 h').d = σ.d := by
        cases o.dst <;> exact ⟨rfl, hn1, hd1⟩
      refine ⟨σn, fun i => if i = k then σ1 else st i, fun i => if i = k then g0 else g i, fun i => if i = k then s0 else s i, fun i => if i = k then σ.h else H i, fun i => if i = k then T0 else T i, hKn, ?_⟩
      have hlen : k + (o :: l).length = k + 1 + l.length := by simp; omega
      rw [hlen]
      constructor
      · simp
      · simp
      · intro i h1 h2
        by_cases hik : i = k
        · subst hik; simp; exact ⟨hi1, hn1⟩
        · simp only [if_neg hik]
          have := tr.imp i (by omega) h2
          rw [hput.2.1] at this; exact this
      · intro i o' h1 h2 ho'
        by_cases hik : i = k
        · subst hik
          rw [ho] at ho'; injection ho' with ho'; subst ho'
          simpa using hguard
        · simp only [if_neg hik]
          have := tr.guard i o' (by omega) h2 ho'
          rw [hput.2.1] at this; exact this
      · intro i o' h1 h2 ho' hg
        by_cases hik : i = k
        · subst hik
          rw [ho] at ho'; injection ho' with ho'; subst ho'
          simp at hg ⊢
          have := (hyes hg).1
          rwa [tr.h0, hput.1]
        · simp only [if_neg hik] at hg ⊢
          rw [if_neg (by omega)]
          exact tr.yes i o' (by omega) h2 ho' hg
      · intro i o' h1 h2 ho' hg p hp
        by_cases hik : i = k
        · subst hik
          rw [ho] at ho'; injection ho' with ho'; subst ho'
          simp only [if_pos] at hg hp ⊢
          have := (hyes hg).2 p hp
          rw [if_neg (by omega), tr.h0, hput.1]; exact this
        · simp only [if_neg hik] at hg hp ⊢
          rw [if_neg (by omega)]
          exact tr.each i o' (by omega) h2 ho' hg p hp
      · intro i o' j w d h1 h2 ho' hg hdd
        by_cases hik : i = k
        · subst hik
          rw [ho] at ho'; injection ho' with ho'; subst ho'
          exact hglt j w d hg hdd
        · have := tr.glt i o' j w d (by omega) h2 ho' hg hdd
          rw [hput.2.1] at this; exact this
      · intro i h1 h2 hg
        by_cases hik : i = k
        · subst hik
          simp at hg ⊢
          have := hno hg
          rw [tr.h0, hput.1]; exact this
        · simp only [if_neg hik] at hg ⊢
          rw [if_neg (by omega)]
          exact tr.no i (by omega) h2 hg
      · intro i o' t h1 h2 ho'
        by_cases hik : i = k
        · subst hik
          rw [ho] at ho'; injection ho' with ho'; subst ho'
          simp only [if_pos, if_neg (show ¬ i + 1 = i by omega)]
          rw [tr.t0]
        · simp only [if_neg hik, if_neg (show ¬ i + 1 = k by omega)]
          exact tr.next i o' t (by omega) h2 ho'
      · rw [if_neg (by omega)]; exact tr.hn
      · rw [if_neg (by omega)]; exact tr.tn
      · rw [tr.nn, hput.2.1]
      · rw [tr.dn, hput.2.2]
    cases g0 with
    | true =>
      simp only at hK1
      obtain ⟨⟨s0, h'⟩, h1, h2, h3⟩ := Tr.strip_out (Tr.holds_bind hK1)
      rw [hh1] at h2 h3
      exact mk s0 h' h1 (fun _ => ⟨h2, h3⟩) (fun h => (by cases h))
    | false =>
      simp only at hK1
      exact mk (.k undef) σ1.h hK1 (fun h => (by cases h)) (fun _ => ⟨hh1, rfl⟩)
end
end Go.Sx
