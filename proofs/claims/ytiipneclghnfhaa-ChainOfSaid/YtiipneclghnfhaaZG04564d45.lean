/- Regions whose order is drawn: every order that is let comes to what the text's order comes to. -/
import Derived.Test.YtiipneclghnfhaaZG039a9c0e
set_option linter.unusedVariables false
set_option linter.unusedSimpArgs false
set_option linter.constructorNameAsVariable false
set_option linter.all false

namespace Go.Sx
open Go.RowKit

/-- One outcome: a tree without what is left open. -/
def Tr.strip {α : Type} : Tr α → Tr α
  | .ret x => .ret x
  | .br c a b => .br c a.strip b.strip
  | .ask p a => .ask p a.strip
  | .giv _ _ => .bad 700
  | .all _ => .bad 701
  | .bad w => .bad w
theorem Tr.strip_out {α : Type} {K : α → Prop} : ∀ {t : Tr α}, t.strip.Holds K → ∃ x, K x ∧ t.Holds (· = x) ∧ ∀ p : α → Prop, t.Each p → p x
  | .ret x, h => ⟨x, h, rfl, fun _ hp => hp⟩
  | .br true a b, h => by
    obtain ⟨x, h1, h2, h3⟩ := strip_out (h.1 rfl)
    exact ⟨x, h1, ⟨fun _ => h2, fun h => (by cases h)⟩, fun p hp => h3 p hp.1⟩
  | .br false a b, h => by
    obtain ⟨x, h1, h2, h3⟩ := strip_out (h.2 rfl)
    exact ⟨x, h1, ⟨fun h => (by cases h), fun _ => h2⟩, fun p hp => h3 p hp.2⟩
  | .ask p a, h => by
    obtain ⟨x, h1, h2, h3⟩ := strip_out h.2
    exact ⟨x, h1, ⟨h.1, h2⟩, fun p hp => h3 p hp⟩
  | .giv _ _, h => h.elim
  | .all _, h => h.elim
  | .bad _, h => h.elim

theorem each_sw {α : Type} {p : α → Prop} {k : Nat → Tr α} (hk : ∀ j, (k j).Each p) (i : Int) : ∀ n, (sw n i k).Each p
  | 0 => trivial
  | n + 1 => ⟨hk n, each_sw hk i n⟩
theorem each_idx {α : Type} {p : α → Prop} {k : Nat → Tr α} (hk : ∀ j, (k j).Each p) (c : Bool) (n : Nat) (i : Int) : (idx c n i k).Each p := by
  unfold idx
  cases c
  · exact each_sw hk i n
  · simp only [cond_true]
    cases (decide (0 ≤ i) && decide (i < (n : Int)))
    · trivial
    · exact hk _
theorem askAll_each {a : SV} {k : Nat} {f : Nat → Bool} {x : SV × SH} {K : SV × SH → Prop} (h : K x) : (askAll a k f (.ret x)).Each K := by
  unfold askAll
  cases litK a && (List.range k).all f <;> exact h
theorem each_bif {α : Type} {p : α → Prop} {c : Bool} {a b : Tr α} (ha : a.Each p) (hb : b.Each p) : (bif c then a else b).Each p := by cases c <;> assumption

/-- A conversion that makes memory; one that looks into it. -/
def convMakes (P : Program) (s d : TypeId) : Bool :=
  match P.underlying s, P.underlying d with
  | some .string, some (.slice _) => true
  | _, _ => false
def convReads (P : Program) (s d : TypeId) : Bool :=
  match P.underlying s, P.underlying d with
  | some (.slice _), some .string => true
  | _, _ => false
/-- A call of a function that a slot holds: which one. -/
def callOk (Q : Nat → Bool) (ev : Operand → SV) : Op → Bool
  | .call ⟨.value (.tmp t), _, _⟩ => match ev (.tmp t) with
    | .fn g _ => Q g
    | _ => false
  | _ => true
/-- It names no block of the call's own. -/
def noId0 : SV → Bool
  | .k _ | .v _ | .rs .. | .pr _ | .rm .. => true
  | _ => false
def noId : SV → Bool
  | .agg xs => xs.all noId0
  | s => noId0 s
/-- What looks into memory and changes nothing. -/
def rdO (Q : Nat → Bool) : Op → Bool
  | .load .. | .indexAddr .. => true
  | .call ⟨.value (.func f), _, _⟩ => Q f
  | _ => false
/-- If it does so, it looks at no block of the call's own. -/
def rdOk (ev : Operand → SV) : Op → Bool
  | .load _ x => noId (ev x)
  | .indexAddr _ x _ => noId (ev x)
  | .call ⟨.value (.func _), args, _⟩ => args.toList.all fun x => noId (ev x)
  | _ => true
def Indep {α : Type} (c : SH → Tr (α × SH)) : Prop := ∃ t : Tr α, ∀ h : SH, c h = t.bind fun s => .ret (s, h)
def quietO (P : Program) (Q : Nat → Bool) (tq : Bool) : Op → Bool
  | .move _ | .assign _ | .pick .. | .load .. | .binOp .. | .unOp .. | .fieldAddr .. | .field .. | .indexAddr .. | .index .. | .slice _ _ _ _ none | .extract .. | .makeFunc .. | .nilCheck _ | .lookup .. => true
  | .convert s d _ => !convMakes P s d
  | .call ⟨.builtin .len, _, _⟩ | .call ⟨.builtin .min, _, _⟩ | .call ⟨.builtin .max, _, _⟩ => true
  | .call ⟨.value (.func f), _, _⟩ => Q f
  | .call ⟨.value (.tmp _), _, _⟩ => tq
  | _ => false

section
variable {P : Program} {h : SH}
theorem indep_bif {α : Type} {c : Bool} {a b : SH → Tr (α × SH)} (ha : Indep a) (hb : Indep b) : Indep fun h => bif c then a h else b h := by cases c <;> assumption
theorem load_indep {t : TypeId} {a : SV} (ha : noId a = true) : Indep fun h => loadS P h t a := by
  unfold loadS
  cases a <;> simp [noId, noId0] at ha
  all_goals
    simp only
    repeat' split
    all_goals first | exact ⟨.bad _, fun _ => rfl⟩ | exact ⟨.ret _, fun _ => rfl⟩ | skip
  all_goals exact indep_bif ⟨.ret _, fun _ => rfl⟩ ⟨.bad _, fun _ => rfl⟩
theorem sw_indep {f : Nat → SV} {h : SH} {i : Int} : ∀ n : Nat, sw n i (fun j => (.ret (f j, h) : Tr (SV × SH))) = (sw n i fun j => .ret (f j)).bind fun s => .ret (s, h)
  | 0 => rfl
  | n + 1 => by
    simp only [sw]
    rw [sw_indep n]
    rfl
theorem indep_idx {c : Bool} {len : Nat} {n : Int} {f : Nat → SV} : Indep fun h => idx c len n fun j => (.ret (f j, h) : Tr (SV × SH)) := by
  cases c with
  | false => exact ⟨sw len n fun j => .ret (f j), fun h => sw_indep len⟩
  | true =>
    refine indep_bif (c := decide (0 ≤ n) && decide (n < (len : Int))) ⟨.ret _, fun _ => rfl⟩ ⟨.bad _, fun _ => rfl⟩
theorem indexAddr_indep {t : TypeId} {a ix : SV} (ha : noId a = true) : Indep fun h => indexAddrS P h t a ix := by
  unfold indexAddrS
  cases a <;> simp [noId, noId0] at ha
  all_goals
    simp only
    repeat' split
  all_goals first
    | exact ⟨.bad _, fun _ => rfl⟩
    | exact indep_bif indep_idx (indep_bif ⟨.ask _ (.ret _), fun _ => rfl⟩ ⟨.bad _, fun _ => rfl⟩)
    | exact indep_bif ⟨.ask _ (.ret _), fun _ => rfl⟩ ⟨.bad _, fun _ => rfl⟩
theorem each_part {t : TypeId} {xs : List SV} {o : Nat} : (partS P h t xs o).Each fun y => y.2 = h := by
  unfold partS
  split
  · rfl
  · split <;> trivial
  · trivial
theorem each_read {g : Bool} {n o e1 e2 : Nat} {xs : List SV} : Tr.Each (fun y : SV × SH => y.2 = h) (match g with
        | true => let ys := (xs.drop o).take n; bif Nat.beq ys.length n then .ret (.agg ys, h) else .bad e1
        | false => match xs[o]? with
          | some s => .ret (s, h)
          | none => .bad e2) := by
  cases g with
  | true => exact each_bif rfl trivial
  | false => cases xs[o]? <;> trivial
theorem each_load {t : TypeId} {a : SV} : (loadS P h t a).Each fun y => y.2 = h := by
  unfold loadS
  split
  · split
    · split
      · exact each_read
      · trivial
    · split
      · refine each_bif ?_ trivial
        show Tr.Each _ (match _ with | true => _ | false => _)
        split
        · rfl
        · split <;> first | rfl | trivial
      · refine each_bif ?_ trivial
        exact each_read
      · trivial
    · exact each_read
    · trivial
  · trivial
theorem each_lo {lo : Option SV} {n : Nat} {k : Nat → Tr (SV × SH)} {p : SV × SH → Prop} (hk : ∀ j, (k j).Each p) : (loS lo n k).Each p := by
  unfold loS
  repeat' split
  all_goals first | exact hk _ | exact each_idx hk _ _ _ | trivial
theorem each_hi {hi : Option SV} {l n : Nat} {k : Nat → Tr (SV × SH)} {p : SV × SH → Prop} (hk : ∀ j, (k j).Each p) : (hiS hi l n k).Each p := by
  unfold hiS
  repeat' split
  all_goals first | exact each_bif (hk _) trivial | exact each_idx hk _ _ _ | trivial
theorem each_loQ {lo : Option SV} {n : Nat} {k : Nat → Tr (SV × SH)} {p : SV × SH → Prop} (hk : ∀ j, (k j).Each p) : (loQ lo n k).Each p := by
  unfold loQ
  repeat' split
  all_goals first | exact hk _ | trivial
theorem each_hiQ {hi : Option SV} {l n : Nat} {k : Nat → Tr (SV × SH)} {p : SV × SH → Prop} (hk : ∀ j, (k j).Each p) : (hiQ hi l n k).Each p := by
  unfold hiQ
  repeat' split
  all_goals first | exact hk _ | trivial
theorem each_slice {t : TypeId} {a : SV} {lo hi : Option SV} : (sliceS P h t a lo hi).Each fun y => y.2 = h := by
  unfold sliceS
  repeat' split
  all_goals first
    | trivial
    | (refine each_hi fun _ => each_lo fun _ => ?_; exact rfl)
    | (refine each_hiQ fun _ => each_loQ fun _ => ?_; exact rfl)
    | (refine each_bif (each_hiQ fun _ => each_loQ fun _ => ?_) trivial; exact rfl)
    | (refine each_bif (each_hiQ fun _ => ?_) trivial; first | exact rfl | exact each_loQ fun _ => rfl)
theorem each_fieldAddr {t : TypeId} {a : SV} {f : Nat} : (fieldAddrS P h t a f).Each fun y => y.2 = h := by
  unfold fieldAddrS
  repeat' split
  all_goals trivial
theorem each_field {t : TypeId} {a : SV} {f : Nat} : (fieldS P h t a f).Each fun y => y.2 = h := by
  unfold fieldS
  repeat' split
  all_goals first | trivial | exact each_part
theorem each_indexAddr {t : TypeId} {a i : SV} : (indexAddrS P h t a i).Each fun y => y.2 = h := by
  unfold indexAddrS
  repeat' split
  all_goals first
    | trivial
    | (refine each_bif (each_idx (fun _ => ?_) _ _ _) ?_ <;> first | exact rfl | (refine each_bif ?_ trivial; exact rfl))
    | (refine each_idx (fun _ => ?_) _ _ _; exact rfl)
    | (refine each_bif ?_ trivial; exact rfl)
theorem each_index {t : TypeId} {a i : SV} : (indexS P h t a i).Each fun y => y.2 = h := by
  unfold indexS
  repeat' split
  all_goals first | trivial | exact each_idx (fun _ => each_part) _ _ _ | (refine each_bif (each_idx (fun _ => each_part) _ _ _) ?_; first | trivial | (refine each_bif ?_ trivial; exact rfl))
theorem each_extract {a : SV} {i : Nat} : (extractS h a i).Each fun y => y.2 = h := by
  unfold extractS
  repeat' split
  all_goals trivial

theorem each_convH {s d : TypeId} {a : SV} (hq : convMakes P s d = false) : (convH P h s d a).Each fun y => y.2 = h := by
  unfold convH
  unfold convMakes at hq
  split
  · rename_i e hs hd
    rw [hs, hd] at hq
    cases hq
  · split
    · exact each_bif (askAll_each rfl) trivial
    · exact each_bif (askAll_each rfl) trivial
    · trivial
  · split <;> trivial
  · (refine Tr.each_bind (fun _ => ?_) _; exact rfl)
theorem each_lookG {T : MapT} {k : SV} {ok : Bool} {m : Nat} {c : Nat → List SV} : (lookG P T h k ok m c).Each fun y => y.2 = h := by
  unfold lookG
  split
  · trivial
  · exact each_bif rfl trivial
theorem each_lookS {t : TypeId} {a k : SV} {ok : Bool} : (lookS P h t a k ok).Each fun y => y.2 = h := by
  unfold lookS
  split
  · trivial
  · split
    · split
      · exact each_bif each_lookG trivial
      · trivial
    · exact each_bif each_lookG trivial
    · exact each_bif each_lookG trivial
    · trivial
theorem each_op {Q : Nat → Bool} {run yld : Nat → Con} (hQ : ∀ f, Q f = true → ∀ args h, (run f args h).Each fun y => y.2 = h) {ev : Operand → SV} (hev : ∀ f, ev (.func f) = .fn f []) {o : Op} {tq : Bool} (hc : tq = true → callOk Q ev o = true) (hq : quietO P Q tq o = true) : (opS P run yld ev h o).Each fun y => y.2 = h := by
  unfold opS
  split <;> try (simp [quietO] at hq; done)
  · rfl
  · rfl
  · repeat' split
    all_goals first | trivial | exact ⟨rfl, rfl⟩
  · exact each_load
  · repeat' split
    all_goals first | trivial | (refine Tr.each_bind (fun _ => ?_) _; exact rfl)
  · (refine Tr.each_bind (fun _ => ?_) _; exact rfl)
  · simp only [quietO, Bool.not_eq_true'] at hq
    exact each_convH hq
  · (refine each_bif ?_ trivial; exact rfl)
  · exact each_slice
  · (refine each_bif ?_ trivial; exact rfl)
  · exact each_lookS
  · exact each_fieldAddr
  · exact each_field
  · exact each_indexAddr
  · exact each_index
  · exact each_extract
  · rename_i c
    obtain ⟨cal, args, ats⟩ := c
    cases cal with
    | builtin b =>
      cases b <;> try (simp [quietO] at hq; done)
      all_goals
        simp only [builtinS]
        repeat' split
        all_goals first | trivial | (refine Tr.each_bind (fun _ => ?_) _; exact rfl)
    | value f =>
      cases f with
      | func f =>
        simp only [quietO] at hq
        simp only [hev]
        exact each_bif (hQ f hq _ _) trivial
      | tmp t =>
        simp only [quietO] at hq
        have hc := hc hq
        simp only [callOk] at hc
        simp only
        split at hc
        · rename_i g cs he
          simp only [he]
          exact each_bif (hQ g hc _ _) trivial
        · cases hc
      | const _ => simp [quietO] at hq
      | global _ => simp [quietO] at hq
    | invoke _ _ => simp [quietO] at hq
  · trivial
end
end Go.Sx

/- Regions whose order is drawn: the run. -/
namespace Go.Sx
open Go.RowKit

def tmpsOf (ops : List Oper) (o : Oper) : List Nat :=
  (o.op.operands.toList.filterMap fun | .tmp t => some t | _ => none) ++ (match o.guard with
    | some (j, _) => match ops[j]? with
      | some g => match g.dst with
        | some d => [d]
        | none => []
      | none => []
    | none => [])
/-- It does not look into memory. -/
def freeO (P : Program) : Op → Bool
  | .move _ | .assign _ | .pick .. | .binOp .. | .unOp .. | .field .. | .extract .. | .nilCheck _ => true
  | .convert s d _ => !convMakes P s d && !convReads P s d
  | _ => false
theorem free_quiet {P : Program} {Q : Nat → Bool} {tq : Bool} {o : Op} (h : freeO P o = true) : quietO P Q tq o = true := by
  cases o <;> simp_all [freeO, quietO]
/-- What an operation comes to that does not look into memory. -/
theorem free_indep {P : Program} {run yld : Nat → Con} {ev : Operand → SV} {o : Op} (hf : freeO P o = true) : ∃ t : Tr SV, ∀ h : SH, opS P run yld ev h o = t.bind fun s => .ret (s, h) := by
  cases o <;> try (simp [freeO] at hf; done)
  case move x => exact ⟨.ret (ev x), fun _ => rfl⟩
  case assign x => exact ⟨.ret (ev x), fun _ => rfl⟩
  case pick c a b =>
    simp only [opS]
    repeat' split
    all_goals first | exact ⟨.ret _, fun _ => rfl⟩ | exact ⟨.br _ (.ret _) (.ret _), fun _ => rfl⟩ | exact ⟨.bad _, fun _ => rfl⟩
  case binOp op t x y t' =>
    simp only [opS]
    repeat' split
    all_goals first | exact ⟨.ret _, fun _ => rfl⟩ | exact ⟨.bad _, fun _ => rfl⟩ | exact ⟨binS P _ t (ev x) (ev y), fun _ => rfl⟩
  case unOp op t x => exact ⟨unS op (ev x), fun _ => rfl⟩
  case convert s d x =>
    simp only [freeO, Bool.and_eq_true, Bool.not_eq_true'] at hf
    simp only [opS]
    unfold convH
    unfold convMakes convReads at hf
    split
    · rename_i hs hd
      rw [hs, hd] at hf
      cases hf.1
    · rename_i hs hd
      rw [hs, hd] at hf
      cases hf.2
    · split
      · exact ⟨.ret _, fun _ => rfl⟩
      · exact ⟨.bad _, fun _ => rfl⟩
    · exact ⟨convS P s d (ev x), fun _ => rfl⟩
  case nilCheck x =>
    simp only [opS]
    cases ptrS (ev x)
    · exact ⟨.bad _, fun _ => rfl⟩
    · exact ⟨.ret _, fun _ => rfl⟩
  case field t x f =>
    simp only [opS]
    unfold fieldS
    split
    · split
      · unfold partS
        split
        · exact ⟨.ret _, fun _ => rfl⟩
        · split
          · exact ⟨.ret _, fun _ => rfl⟩
          · exact ⟨.bad _, fun _ => rfl⟩
        · exact ⟨.bad _, fun _ => rfl⟩
      · exact ⟨.bad _, fun _ => rfl⟩
    · exact ⟨.bad _, fun _ => rfl⟩
  case extract x i =>
    simp only [opS]
    unfold extractS
    repeat' split
    all_goals first | exact ⟨.ret _, fun _ => rfl⟩ | exact ⟨.bad _, fun _ => rfl⟩
theorem free_holds {P : Program} {run yld : Nat → Con} {ev : Operand → SV} {o : Op} (hf : freeO P o = true) {h h1 h' : SH} {x : SV} (hh : (opS P run yld ev h o).Holds (· = (x, h1))) : (opS P run yld ev h' o).Holds (· = (x, h')) := by
  obtain ⟨t, ht⟩ := free_indep (P := P) (run := run) (yld := yld) (ev := ev) hf
  rw [ht] at hh ⊢
  refine Tr.bind_holds (Tr.mono (fun s hs => ?_) (Tr.holds_bind hh))
  have hs : (s, h) = (x, h1) := hs
  simp only [Prod.mk.injEq] at hs
  show (s, h') = (x, h')
  rw [hs.1]
/-- It looks into no memory of the call's own (if reads are so). -/
def freeF (P : Program) (Q : Nat → Bool) (fr : Bool) (o : Op) : Bool := freeO P o || (fr && rdO Q o)
theorem freeF_quiet {P : Program} {Q : Nat → Bool} {tq fr : Bool} {o : Op} (h : freeF P Q fr o = true) : quietO P Q tq o = true := by
  unfold freeF at h
  rw [Bool.or_eq_true, Bool.and_eq_true] at h
  rcases h with h | ⟨_, h⟩
  · exact free_quiet h
  · unfold rdO at h
    split at h
    · rfl
    · rfl
    · exact h
    · cases h
theorem rd_indep {P : Program} {Q : Nat → Bool} {run yld : Nat → Con} {ev : Operand → SV} {o : Op} (hI : ∀ f, Q f = true → ∀ args, args.all noId = true → Indep fun h => run f args h) (hev : ∀ f, ev (.func f) = .fn f []) (hr : rdO Q o = true) (hk : rdOk ev o = true) : Indep fun h => opS P run yld ev h o := by
  unfold rdO at hr
  split at hr
  · exact load_indep hk
  · exact indexAddr_indep hk
  · rename_i f args ats
    simp only [opS, hev]
    refine indep_bif ?_ ⟨.bad _, fun _ => rfl⟩
    refine hI f hr _ ?_
    simp only [rdOk] at hk
    simp only [List.append_nil, List.all_map]
    exact hk
  · cases hr
theorem freeF_holds {P : Program} {Q : Nat → Bool} {fr : Bool} {run yld : Nat → Con} {ev : Operand → SV} {o : Op} (hI : ∀ f, Q f = true → ∀ args, args.all noId = true → Indep fun h => run f args h) (hev : ∀ f, ev (.func f) = .fn f []) (hf : freeF P Q fr o = true) (hk : fr = true → rdO Q o = true → rdOk ev o = true) {h h1 h' : SH} {x : SV} (hh : (opS P run yld ev h o).Holds (· = (x, h1))) : (opS P run yld ev h' o).Holds (· = (x, h')) := by
  unfold freeF at hf
  rw [Bool.or_eq_true, Bool.and_eq_true] at hf
  rcases hf with hf | ⟨hf, hr⟩
  · exact free_holds hf hh
  · obtain ⟨t, ht⟩ := rd_indep (P := P) (yld := yld) hI hev hr (hk hf hr)
    have ht : ∀ h, opS P run yld ev h o = t.bind fun s => .ret (s, h) := ht
    rw [ht h] at hh
    rw [ht h']
    refine Tr.bind_holds (Tr.mono (fun s hs => ?_) (Tr.holds_bind hh))
    have hs : (s, h) = (x, h1) := hs
    simp only [Prod.mk.injEq] at hs
    show (s, h') = (x, h')
    rw [hs.1]
theorem rdOk_congr {ev ev' : Operand → SV} {o : Op} (he : ∀ x ∈ o.operands, ev x = ev' x) : rdOk ev o = rdOk ev' o := by
  unfold rdOk
  split
  · rw [he _ (by simp [Op.operands])]
  · rw [he _ (by simp [Op.operands])]
  · rename_i f args ats
    rw [Bool.eq_iff_iff, List.all_eq_true, List.all_eq_true]
    have h1 : ∀ x ∈ args.toList, ev x = ev' x := fun x hx => he x (by simp [Op.operands, Call.operands]; right; simpa using hx)
    exact ⟨fun h x hx => by rw [← h1 x hx]; exact h x hx, fun h x hx => by rw [h1 x hx]; exact h x hx⟩
  · rfl
def needs (P : Program) (Q : Nat → Bool) (tq fr : Bool) (ops : List Oper) (oi oj : Oper) : Bool :=
  (!quietO P Q tq oi.op && !freeF P Q fr oj.op) || (!quietO P Q tq oj.op && !freeF P Q fr oi.op) ||
  (match oi.dst with
    | some t => (match oj.dst with | some t' => Nat.beq t t' | none => false) || (tmpsOf ops oj).any (Nat.beq t)
    | none => false) ||
  (match oj.dst with
    | some t => (tmpsOf ops oi).any (Nat.beq t)
    | none => false)
def backOk (ops : List Oper) : Bool := ops.zipIdx.all fun x => (edgesOf x.1).all fun e => Nat.blt e x.2
def pairsOk (P : Program) (Q : Nat → Bool) (tq fr : Bool) (ops : List Oper) (ms : List Nat) : Bool :=
  ops.zipIdx.all fun y => (ops.zipIdx.take y.2).all fun x => !needs P Q tq fr ops x.1 y.1 || (ms.getD y.2 0).testBit x.2
def drawOk (P : Program) (Q : Nat → Bool) (tq fr : Bool) (ops : Array Oper) : Bool :=
  P.follows .mixedOrders && backOk ops.toList && pairsOk P Q tq fr ops.toList (befs ops.toList [])

/-- Are calls of what slots hold to be taken as calls that change nothing? -/
def tqOf (P : Program) (Q : Nat → Bool) (ops : Array Oper) : Bool := !drawOk P Q false false ops && !drawOk P Q false true ops
/-- Are reads to be taken as reads of what is not the call's own? -/
def frOf (P : Program) (Q : Nat → Bool) (ops : Array Oper) : Bool := !drawOk P Q (tqOf P Q ops) false ops
def drawOps (P : Program) (Q : Nat → Bool) (tq fr : Bool) (run yld : Nat → Con) (ops : Array Oper) : List Oper → St → Tr St
  | [], σ => .ret σ
  | o :: r, σ => guardS ops σ o fun g σ =>
    match g with
    | true => bif (!tq || callOk Q σ.ev o.op) && (!(fr && rdO Q o.op) || rdOk σ.ev o.op) then (opS P run yld σ.ev σ.h o.op).strip.bind fun x => drawOps P Q tq fr run yld ops r (σ.put o.dst x.1 x.2) else .bad 549
    | false => drawOps P Q tq fr run yld ops r (σ.put o.dst (.k undef) σ.h)

theorem opS_congr {P : Program} {run yld : Nat → Con} {ev ev' : Operand → SV} {h : SH} {o : Op} (he : ∀ x ∈ o.operands, ev x = ev' x) : opS P run yld ev h o = opS P run yld ev' h o := by
  unfold opS
  cases o with
  | call c =>
    obtain ⟨cal, args, ats⟩ := c
    have hargs : args.toList.map ev = args.toList.map ev' := List.map_congr_left fun x hx => he x (by simp [Op.operands, Call.operands]; right; simpa using hx)
    cases cal with
    | builtin b => simp only [hargs]
    | value f => simp only [hargs, he f (by simp [Op.operands, Call.operands])]
    | invoke _ _ => rfl
  | build t ps =>
    have : (ps.toList.map fun x => (x.1, ev x.2)) = ps.toList.map fun x => (x.1, ev' x.2) := List.map_congr_left fun x hx => by
      rw [he x.2 (by simp [Op.operands]; exact ⟨x.1, by simpa using hx⟩)]
    simp only [this]
  | buildSlice t l ps =>
    have : (ps.toList.map fun x => (x.1, ev x.2)) = ps.toList.map fun x => (x.1, ev' x.2) := List.map_congr_left fun x hx => by
      rw [he x.2 (by simp [Op.operands]; exact ⟨x.1, by simpa using hx⟩)]
    simp only [this]
  | makeFunc fn first cap =>
    have : cap.toList.map ev = cap.toList.map ev' := List.map_congr_left fun x hx => he x (by simp [Op.operands]; right; simpa using hx)
    cases fn <;> simp only [this]
  | slice t x lo hi mx =>
    cases mx with
    | some mx =>
      have hx := he x (by simp [Op.operands])
      have h1 : lo.map ev = lo.map ev' := by
        cases lo with
        | none => rfl
        | some a => simp [he a (by simp [Op.operands])]
      cases hi with
      | none => rfl
      | some hi =>
        have h2 := he hi (by simp [Op.operands])
        have h3 := he mx (by simp [Op.operands])
        simp only [hx, h1, h2, h3]
    | none =>
      have hx := he x (by simp [Op.operands])
      have h1 : lo.map ev = lo.map ev' := by
        cases lo with
        | none => rfl
        | some y => simp only [Option.map_some]; rw [he y (by simp [Op.operands])]
      have h2 : hi.map ev = hi.map ev' := by
        cases hi with
        | none => rfl
        | some y => simp only [Option.map_some]; rw [he y (by simp [Op.operands])]
      simp only [hx, h1, h2]
  | pick c a b => simp only [he c (by simp [Op.operands]), he a (by simp [Op.operands]), he b (by simp [Op.operands])]
  | move x => simp only [he x (by simp [Op.operands])]
  | assign x => simp only [he x (by simp [Op.operands])]
  | box t x => simp only [he x (by simp [Op.operands])]
  | load t x => simp only [he x (by simp [Op.operands])]
  | store t a x => simp only [he x (by simp [Op.operands]), he a (by simp [Op.operands])]
  | binOp op t x y t' => simp only [he x (by simp [Op.operands]), he y (by simp [Op.operands])]
  | unOp op t x => simp only [he x (by simp [Op.operands])]
  | convert s d x => simp only [he x (by simp [Op.operands])]
  | nilCheck x => simp only [he x (by simp [Op.operands])]
  | makeSlice t x y => simp only [he x (by simp [Op.operands]), he y (by simp [Op.operands])]
  | range t x => simp only [he x (by simp [Op.operands])]
  | next x s => simp only [he x (by simp [Op.operands])]
  | fieldAddr t x f => simp only [he x (by simp [Op.operands])]
  | field t x f => simp only [he x (by simp [Op.operands])]
  | indexAddr t x i => simp only [he x (by simp [Op.operands]), he i (by simp [Op.operands])]
  | index t x i => simp only [he x (by simp [Op.operands]), he i (by simp [Op.operands])]
  | extract x i => simp only [he x (by simp [Op.operands])]
  | makeMap t r =>
    cases r with
    | none => rfl
    | some x => simp only [Option.map_some, he x (by simp [Op.operands])]
  | lookup t x i ok => simp only [he x (by simp [Op.operands]), he i (by simp [Op.operands])]
  | mapUpdate t m k v => simp only [he m (by simp [Op.operands]), he k (by simp [Op.operands]), he v (by simp [Op.operands])]
  | insert t m k v => simp only [he m (by simp [Op.operands]), he k (by simp [Op.operands]), he v (by simp [Op.operands])]
  | mapEntry t m k => simp only [he m (by simp [Op.operands]), he k (by simp [Op.operands])]
  | entryStore t m k v => simp only [he m (by simp [Op.operands]), he k (by simp [Op.operands]), he v (by simp [Op.operands])]
  | _ => rfl

section
variable {P : Program} {M : Nat → Prop} {w0 : World}

def Imp (T : Nat → SV) (σ : St) : Prop := ∀ t n ρ x, (T t).fit n ρ x → (σ.slot t).fit n ρ x

structure Trace (P : Program) (Q : Nat → Bool) (tq fr : Bool) (run yld : Nat → Con) (ops : Array Oper) (k m : Nat) (σ σn : St) (T0 : Nat → SV) (st : Nat → St) (g : Nat → Bool) (s : Nat → SV) (H : Nat → SH) (T : Nat → Nat → SV) : Prop where
  h0 : H k = σ.h
  t0 : T k = T0
  imp : ∀ i, k ≤ i → i < m → Imp (T i) (st i) ∧ (st i).n = σ.n
  guard : ∀ i o, k ≤ i → i < m → ops[i]? = some o → ∀ (tm : Array Value) n ρ, tm.size = σ.n →
    (∀ j w d, o.guard = some (j, w) → (ops[j]?).bind (·.dst) = some d → (T i d).fit n ρ (tm.getD d undef)) → Region.wanted o (yielded ops tm) = g i
  yes : ∀ i o, k ≤ i → i < m → ops[i]? = some o → g i = true → (opS P run yld (st i).ev (H i) o.op).Holds (· = (s i, H (i + 1)))
  each : ∀ i o, k ≤ i → i < m → ops[i]? = some o → g i = true → ∀ p : SV × SH → Prop, (opS P run yld (st i).ev (H i) o.op).Each p → p (s i, H (i + 1))
  callq : ∀ i o, k ≤ i → i < m → ops[i]? = some o → g i = true → tq = true → callOk Q (st i).ev o.op = true
  freq : ∀ i o, k ≤ i → i < m → ops[i]? = some o → g i = true → fr = true → rdO Q o.op = true → rdOk (st i).ev o.op = true
  glt : ∀ i o j w d, k ≤ i → i < m → ops[i]? = some o → o.guard = some (j, w) → (ops[j]?).bind (·.dst) = some d → d < σ.n
  no : ∀ i, k ≤ i → i < m → g i = false → H (i + 1) = H i ∧ s i = .k undef
  next : ∀ i o t, k ≤ i → i < m → ops[i]? = some o → T (i + 1) t = if o.dst = some t then s i else T i t
  hn : H m = σn.h
  tn : Imp (T m) σn
  nn : σn.n = σ.n
  dn : σn.d = σ.d

theorem imp_know {T : Nat → SV} {σ : St} {d : Nat} {b : Bool} (hi : Imp T σ) (hs : σ.slot d = .v (.bool b)) : Imp T (σ.know d b) := by
  intro t n ρ x hf
  have h := hi t n ρ x hf
  show (look (look (.k undef) t σ.b) t ((d, .k (.bool b)) :: σ.t)).fit n ρ x
  rw [look_cons]
  by_cases htd : t = d
  · subst htd
    rw [if_pos rfl]
    rw [hs] at h
    exact h
  · rw [if_neg htd]; exact h
theorem imp_put {T T' : Nat → SV} {σ : St} {dst : Option Nat} {s : SV} {h : SH} (hi : Imp T σ) (hT : ∀ t, T' t = if dst = some t then s else T t) : Imp T' (σ.put dst s h) := by
  intro t n ρ x hf
  rw [hT] at hf
  cases dst with
  | none => simp at hf; exact hi t n ρ x hf
  | some d =>
    show (look (look (.k undef) t σ.b) t ((d, s) :: σ.t)).fit n ρ x
    rw [look_cons]
    by_cases htd : t = d
    · subst htd; simpa using hf
    · rw [if_neg htd]
      have : ¬ (some d = some t) := by simp; exact fun e => htd e.symm
      rw [if_neg this] at hf
      exact hi t n ρ x hf

/-- What a guard comes to. -/
theorem guard_trace {ops : Array Oper} {σ : St} {o : Oper} {go : Bool → St → Tr St} {K : St → Prop} {T : Nat → SV} (hi : Imp T σ) (hK : (guardS ops σ o go).Holds K) :
    ∃ g σ', (go g σ').Holds K ∧ Imp T σ' ∧ σ'.h = σ.h ∧ σ'.n = σ.n ∧ σ'.d = σ.d ∧ (∀ (tm : Array Value) n ρ, tm.size = σ.n →
      (∀ j w d, o.guard = some (j, w) → (ops[j]?).bind (·.dst) = some d → (T d).fit n ρ (tm.getD d undef)) → Region.wanted o (yielded ops tm) = g) ∧ ∀ j w d, o.guard = some (j, w) → (ops[j]?).bind (·.dst) = some d → d < σ.n := by
  unfold guardS at hK
  cases hg : o.guard with
  | none => rw [hg] at hK; exact ⟨true, σ, hK, hi, rfl, rfl, rfl, fun tm n ρ _ _ => (by simp [Region.wanted, hg]), fun j w d h => (by cases h)⟩
  | some jw =>
    obtain ⟨j, want⟩ := jw
    rw [hg] at hK
    simp only at hK
    cases hd : (ops[j]?).bind (·.dst) with
    | none => rw [hd] at hK; exact ⟨false, σ, hK, hi, rfl, rfl, rfl, fun tm n ρ _ _ => (by simp [Region.wanted, hg, yielded, hd]), fun j' w' d' h h' => (by injection h with h; injection h with e1 e2; subst e1; rw [hd] at h'; cases h')⟩
    | some d =>
      rw [hd] at hK
      simp only at hK
      have hlt : d < σ.n ∧ (match σ.slot d with
          | .k (.bool b) => go (b == want) σ
          | .v (.bool b) => .br b (go (true == want) (σ.know d true)) (go (false == want) (σ.know d false))
          | .k (.tuple _) => go false σ
          | _ => .bad 500).Holds K := by
        cases hb : Nat.blt d σ.n with
        | true => rw [hb] at hK; exact ⟨by simpa [Nat.blt_eq] using hb, hK⟩
        | false => rw [hb] at hK; exact hK.elim
      obtain ⟨hlt, hK1⟩ := hlt
      have wit : ∀ (g : Bool) (y : Value), (∀ n ρ x, (σ.slot d).fit n ρ x → x = y) → ((match y with | .bool b => some b | _ => none) == some want) = g → ∀ (tm : Array Value) n ρ, tm.size = σ.n →
          (∀ j' w d', some (j, want) = some (j', w) → (ops[j']?).bind (·.dst) = some d' → (T d').fit n ρ (tm.getD d' undef)) → Region.wanted o (yielded ops tm) = g := by
        intro g y hy hgy tm n ρ hsz hfit
        have hx := hy n ρ _ (hi d n ρ _ (hfit j want d rfl hd))
        have hget : tm[d]? = some (tm.getD d undef) := by
          rw [Array.getD_eq_getD_getElem?, getElem?_pos tm d (hsz ▸ hlt)]; rfl
        simp only [Region.wanted, hg, yielded, hd, Option.bind_some, hget, hx]
        cases y <;> exact hgy
      have gl : ∀ j' w' d', some (j, want) = some (j', w') → (ops[j']?).bind (·.dst) = some d' → d' < σ.n := fun j' w' d' h h' => by
        injection h with h; injection h with e1 e2; subst e1; rw [hd] at h'; injection h' with h'; exact h' ▸ hlt
      cases hs : σ.slot d with
      | k x =>
        rw [hs] at hK1
        cases x with
        | bool b => exact ⟨_, σ, hK1, hi, rfl, rfl, rfl, wit _ (.bool b) (fun n ρ x h => by rw [hs] at h; exact h) (by simp), gl⟩
        | tuple l => exact ⟨_, σ, hK1, hi, rfl, rfl, rfl, wit _ (.tuple l) (fun n ρ x h => by rw [hs] at h; exact h) (by simp), gl⟩
        | _ => exact hK1.elim
      | v x =>
        rw [hs] at hK1
        cases x with
        | bool b =>
          cases b with
          | true => exact ⟨_, σ.know d true, hK1.1 rfl, imp_know hi hs, rfl, rfl, rfl, wit _ (.bool true) (fun n ρ x h => by rw [hs] at h; exact h) (by simp), gl⟩
          | false => exact ⟨_, σ.know d false, hK1.2 rfl, imp_know hi hs, rfl, rfl, rfl, wit _ (.bool false) (fun n ρ x h => by rw [hs] at h; exact h) (by simp), gl⟩
        | _ => exact hK1.elim
      | _ => rw [hs] at hK1; exact hK1.elim

theorem trace_ok {Q : Nat → Bool} {tq fr : Bool} {run yld : Nat → Con} {ops : Array Oper} {K : St → Prop} : ∀ (l : List Oper) (k : Nat) (σ : St) (T0 : Nat → SV), (∀ j, l[j]? = ops[k + j]?) → Imp T0 σ → (drawOps P Q tq fr run yld ops l σ).Holds K →
    ∃ σn st g s H T, K σn ∧ Trace P Q tq fr run yld ops k (k + l.length) σ σn T0 st g s H T
  | [], k, σ, T0, _, hi, hK => by
    refine ⟨σ, fun _ => σ, fun _ => true, fun _ => .u, fun _ => σ.h, fun _ => T0, hK, rfl, rfl, ?_, ?_, ?_, ?_, ?_, ?_, ?_, ?_, ?_, rfl, hi, rfl, rfl⟩
    · intro i h1 h2; exact absurd h2 (by simp; omega)
    · intro i o h1 h2; exact absurd h2 (by simp; omega)
    · intro i o h1 h2; exact absurd h2 (by simp; omega)
    · intro i o h1 h2; exact absurd h2 (by simp; omega)
    · intro i o h1 h2; exact absurd h2 (by simp; omega)
    · intro i o h1 h2; exact absurd h2 (by simp; omega)
    · intro i o j w d h1 h2; exact absurd h2 (by simp; omega)
    · intro i h1 h2; exact absurd h2 (by simp; omega)
    · intro i o t h1 h2; exact absurd h2 (by simp; omega)
  | o :: l, k, σ, T0, hl, hi, hK => by
    have ho : ops[k]? = some o := by simpa using (hl 0).symm
    have hl' : ∀ j, l[j]? = ops[k + 1 + j]? := fun j => by have := hl (j + 1); simpa [Nat.add_assoc, Nat.add_comm 1 j] using this
    obtain ⟨g0, σ1, hK1, hi1, hh1, hn1, hd1, hguard, hglt⟩ := guard_trace hi hK
    have mk : ∀ (s0 : SV) (h' : SH), (drawOps P Q tq fr run yld ops l (σ1.put o.dst s0 h')).Holds K → (g0 = true → (opS P run yld σ1.ev σ.h o.op).Holds (· = (s0, h')) ∧ ∀ p : SV × SH → Prop, (opS P run yld σ1.ev σ.h o.op).Each p → p (s0, h')) → (g0 = true → (tq = true → callOk Q σ1.ev o.op = true) ∧ (fr = true → rdO Q o.op = true → rdOk σ1.ev o.op = true)) → (g0 = false → h' = σ.h ∧ s0 = .k undef) →
        ∃ σn st g s H T, K σn ∧ Trace P Q tq fr run yld ops k (k + (o :: l).length) σ σn T0 st g s H T := by
      intro s0 h' hK2 hyes hcq hno
      have hT1 : ∀ t, (fun t => if o.dst = some t then s0 else T0 t) t = if o.dst = some t then s0 else T0 t := fun _ => rfl
      obtain ⟨σn, st, g, s, H, T, hKn, tr⟩ := trace_ok l (k + 1) (σ1.put o.dst s0 h') (fun t => if o.dst = some t then s0 else T0 t) hl' (imp_put hi1 hT1) hK2
      have hput : (σ1.put o.dst s0 h').h = h' ∧ (σ1.put o.dst s0 h').n = σ.n ∧ (σ1.put o.dst s0 h').d = σ.d := by
        cases o.dst <;> exact ⟨rfl, hn1, hd1⟩
      refine ⟨σn, fun i => if i = k then σ1 else st i, fun i => if i = k then g0 else g i, fun i => if i = k then s0 else s i, fun i => if i = k then σ.h else H i, fun i => if i = k then T0 else T i, hKn, ?_⟩
      have hlen : k + (o :: l).length = k + 1 + l.length := by simp; omega
      rw [hlen]
      constructor
      · simp
      · simp
      · intro i h1 h2
        by_cases hik : i = k
        · subst hik; simp; exact ⟨hi1, hn1⟩
        · simp only [if_neg hik]
          have := tr.imp i (by omega) h2
          rw [hput.2.1] at this; exact this
      · intro i o' h1 h2 ho'
        by_cases hik : i = k
        · subst hik
          rw [ho] at ho'; injection ho' with ho'; subst ho'
          simpa using hguard
        · simp only [if_neg hik]
          have := tr.guard i o' (by omega) h2 ho'
          rw [hput.2.1] at this; exact this
      · intro i o' h1 h2 ho' hg
        by_cases hik : i = k
        · subst hik
          rw [ho] at ho'; injection ho' with ho'; subst ho'
          simp at hg ⊢
          have := (hyes hg).1
          rwa [tr.h0, hput.1]
        · simp only [if_neg hik] at hg ⊢
          rw [if_neg (by omega)]
          exact tr.yes i o' (by omega) h2 ho' hg
      · intro i o' h1 h2 ho' hg p hp
        by_cases hik : i = k
        · subst hik
          rw [ho] at ho'; injection ho' with ho'; subst ho'
          simp only [if_pos] at hg hp ⊢
          have := (hyes hg).2 p hp
          rw [if_neg (by omega), tr.h0, hput.1]; exact this
        · simp only [if_neg hik] at hg hp ⊢
          rw [if_neg (by omega)]
          exact tr.each i o' (by omega) h2 ho' hg p hp
      · intro i o' h1 h2 ho' hg ht
        by_cases hik : i = k
        · subst hik
          rw [ho] at ho'; injection ho' with ho'; subst ho'
          simp only [if_pos] at hg ⊢
          exact (hcq hg).1 ht
        · simp only [if_neg hik] at hg ⊢
          exact tr.callq i o' (by omega) h2 ho' hg ht
      · intro i o' h1 h2 ho' hg ht hr
        by_cases hik : i = k
        · subst hik
          rw [ho] at ho'; injection ho' with ho'; subst ho'
          simp only [if_pos] at hg ⊢
          exact (hcq hg).2 ht hr
        · simp only [if_neg hik] at hg ⊢
          exact tr.freq i o' (by omega) h2 ho' hg ht hr
      · intro i o' j w d h1 h2 ho' hg hdd
        by_cases hik : i = k
        · subst hik
          rw [ho] at ho'; injection ho' with ho'; subst ho'
          exact hglt j w d hg hdd
        · have := tr.glt i o' j w d (by omega) h2 ho' hg hdd
          rw [hput.2.1] at this; exact this
      · intro i h1 h2 hg
        by_cases hik : i = k
        · subst hik
          simp at hg ⊢
          have := hno hg
          rw [tr.h0, hput.1]; exact this
        · simp only [if_neg hik] at hg ⊢
          rw [if_neg (by omega)]
          exact tr.no i (by omega) h2 hg
      · intro i o' t h1 h2 ho'
        by_cases hik : i = k
        · subst hik
          rw [ho] at ho'; injection ho' with ho'; subst ho'
          simp only [if_pos, if_neg (show ¬ i + 1 = i by omega)]
          rw [tr.t0]
        · simp only [if_neg hik, if_neg (show ¬ i + 1 = k by omega)]
          exact tr.next i o' t (by omega) h2 ho'
      · rw [if_neg (by omega)]; exact tr.hn
      · rw [if_neg (by omega)]; exact tr.tn
      · rw [tr.nn, hput.2.1]
      · rw [tr.dn, hput.2.2]
    cases g0 with
    | true =>
      simp only at hK1
      obtain ⟨hcq, hK1⟩ := bif_holds hK1
      obtain ⟨⟨s0, h'⟩, h1, h2, h3⟩ := Tr.strip_out (Tr.holds_bind hK1)
      rw [hh1] at h2 h3
      exact mk s0 h' h1 (fun _ => ⟨h2, h3⟩) (fun _ => by
        rw [Bool.and_eq_true] at hcq
        exact ⟨fun ht => by have := hcq.1; rw [ht] at this; simpa using this, fun ht hr => by have := hcq.2; rw [ht, hr] at this; simpa using this⟩) (fun h => (by cases h))
    | false =>
      simp only at hK1
      exact mk (.k undef) σ1.h hK1 (fun h => (by cases h)) (fun h => (by cases h)) (fun _ => ⟨hh1, rfl⟩)
end
end Go.Sx

/- Regions whose order is drawn: soundness. -/
namespace Go.Sx
open Go.RowKit

theorem zipIdx_all {α : Type} {p : α × Nat → Bool} {l : List α} (h : l.zipIdx.all p = true) {i : Nat} {x : α} (hx : l[i]? = some x) : p (x, i) = true := by
  rw [List.all_eq_true] at h
  exact h (x, i) (by rw [List.mk_mem_zipIdx_iff_getElem?]; exact hx)
theorem zipIdx_take_all {α : Type} {p : α × Nat → Bool} {l : List α} {j : Nat} (h : (l.zipIdx.take j).all p = true) {i : Nat} {x : α} (hx : l[i]? = some x) (hij : i < j) : p (x, i) = true := by
  rw [List.all_eq_true] at h
  refine h (x, i) ?_
  rw [List.mem_iff_getElem?]
  refine ⟨i, ?_⟩
  rw [List.getElem?_take, if_pos hij, List.getElem?_zipIdx, hx]
  simp

section
variable {P : Program} {M : Nat → Prop} {w0 : World}

theorem any_beq {l : List Nat} {t : Nat} (h : t ∈ l) : l.any (Nat.beq t) = true := by
  rw [List.any_eq_true]; exact ⟨t, h, by simp⟩

theorem draw_lin {Q : Nat → Bool} {tq fr : Bool} {run yld : Nat → Con} (hrun : ∀ f, FnOk P f (run f)) (hyld : YldOk P yld) (hQ : ∀ f, Q f = true → ∀ args h, (run f args h).Each fun y => y.2 = h) (hI : ∀ f, Q f = true → ∀ args, args.all noId = true → Indep fun h => run f args h) {ops : Array Oper} (hback : backOk ops.toList = true) (hpairs : pairsOk P Q tq fr ops.toList (befs ops.toList []) = true)
    {w : World} {ρ0 : Rh} {σ : St} {a : Act} {K : St → Prop} {rd : Option Nat} (hK : (drawOps P Q tq fr run yld ops ops.toList σ).Holds K) (hm : Mod M w0 ρ0 σ a w) {Qx : Exit → Act → World → Prop}
    (hQx : ∀ σ' ρ' a' w', K σ' → σ.h.nx ≤ σ'.h.nx → Agree σ.h.nx ρ0 ρ' → Mod M w0 ρ' σ' a' w' → Qx .normal a' w') {L : List Nat} (hlin : Lin ops.toList (fun _ => False) L) {w1 : World} (hw1 : Below w.heap.size w w1) : wpOpsIn (Fw rd) 0 P ops Qx L a w1 := by
  have hb : ∀ i o, ops[i]? = some o → ∀ e ∈ edgesOf o, e < i := by
    intro i o ho e he
    have := zipIdx_all hback (i := i) (x := o) (by simpa using ho)
    simp only [List.all_eq_true] at this
    have := this e he
    simpa [Nat.blt_eq] using this
  have hlist : ∀ i : Nat, ops.toList[i]? = ops[i]? := by simp
  -- what the pairs say
  have hpair : ∀ (E : Nat → Prop), EClosed ops.toList E → ∀ i j oi oj, i < j → ops[i]? = some oi → ops[j]? = some oj → needs P Q tq fr ops.toList oi oj = true → (∀ e ∈ edgesOf oj, E e) → E i := by
    intro E hE i j oi oj hij hoi hoj hn he
    have h1 := zipIdx_all hpairs (i := j) (x := oj) (by simpa using hoj)
    have h2 := zipIdx_take_all h1 (i := i) (x := oi) (by simpa using hoi) hij
    simp only [hn, Bool.not_true, Bool.false_or] at h2
    exact befs_ok hE ops.toList [] [] rfl rfl (fun i o hi => by simp at hi) j oj (by simpa using hoj) he i h2
  obtain ⟨σn, st, g, s, H, T, hKn, tr⟩ := trace_ok (P := P) ops.toList 0 σ σ.slot (by simp) (fun _ _ _ _ h => h) hK
  rw [Nat.zero_add] at tr
  have hnlen : ops.toList.length = ops.size := by simp
  rw [hnlen] at tr
  -- a change of memory
  have hquiet : ∀ i o, i < ops.size → ops[i]? = some o → quietO P Q tq o.op = true → H (i + 1) = H i := by
    intro i o hi ho hq
    cases hg : g i with
    | false => exact (tr.no i (Nat.zero_le _) hi hg).1
    | true =>
      exact tr.each i o (Nat.zero_le _) hi ho hg _ (each_op (P := P) (h := H i) (yld := yld) hQ (ev := (st i).ev) (fun _ => rfl) (fun ht => tr.callq i o (Nat.zero_le _) hi ho hg ht) hq)
  have hHconst : ∀ b a', a' ≤ b → b ≤ ops.size → (∀ j o, a' ≤ j → j < b → ops[j]? = some o → quietO P Q tq o.op = true) → H b = H a' := by
    intro b
    induction b with
    | zero => intro a' h _ _; have : a' = 0 := by omega
              rw [this]
    | succ b ih =>
      intro a' hab hbn hq
      by_cases hab' : a' = b + 1
      · rw [hab']
      · have ho : ops[b]? = some ops[b] := getElem?_pos ops b (by omega)
        rw [hquiet b _ (by omega) ho (hq b _ (by omega) (by omega) ho)]
        exact ih a' (by omega) (by omega) fun j o h1 h2 h3 => hq j o h1 (by omega) h3
  have hTconst : ∀ t b a', a' ≤ b → b ≤ ops.size → (∀ j o, a' ≤ j → j < b → ops[j]? = some o → o.dst ≠ some t) → T b t = T a' t := by
    intro t b
    induction b with
    | zero => intro a' h _ _; have : a' = 0 := by omega
              rw [this]
    | succ b ih =>
      intro a' hab hbn hq
      by_cases hab' : a' = b + 1
      · rw [hab']
      · have ho : ops[b]? = some ops[b] := getElem?_pos ops b (by omega)
        rw [tr.next b _ t (Nat.zero_le _) (by omega) ho, if_neg (hq b _ (by omega) (by omega) ho)]
        exact ih a' (by omega) (by omega) fun j o h1 h2 h3 => hq j o h1 (by omega) h3
  -- the run, in whatever order
  have main : ∀ (L : List Nat) (E : Nat → Prop) (ρ : Rh) (a : Act) (w : World) (k : Nat), Lin ops.toList E L → EClosed ops.toList E → (∀ j, E j → j < ops.size) → k ≤ ops.size →
      (∀ j o, ops[j]? = some o → quietO P Q tq o.op = false → (E j ↔ j < k)) → HM M w0 ρ (H k) w → σ.h.nx ≤ (H k).nx → Agree σ.h.nx ρ0 ρ → a.tmps.size = σ.n → Dfs M w0 ρ σ.d a.defers →
      (∀ t, t < σ.n → ∀ i, i ≤ ops.size → (∀ j o, ops[j]? = some o → o.dst = some t → (E j ↔ j < i)) → (T i t).fit (H k).nx ρ (a.tmps.getD t undef)) →
      wpOpsIn (Fw rd) 0 P ops Qx L a w := by
    intro L
    induction L with
    | nil =>
      intro E ρ a w k hlin hcl hEn hk heff hHM hnx hag hsz hdf hsl
      simp only [wpOpsIn]
      have hall : ∀ i, i < ops.size → E i := by
        cases hlin with
        | nil h => intro i hi; exact h i (by simpa using hi)
      have hHk : H ops.size = H k := hHconst ops.size k hk (Nat.le_refl _) fun j o h1 h2 h3 => by
        cases hq : quietO P Q tq o.op with
        | true => rfl
        | false => have := (heff j o h3 hq).1 (hall j h2); omega
      rw [← hHk, tr.hn] at hHM hnx
      refine hQx σn ρ a w hKn hnx hag ⟨⟨by rw [tr.nn]; exact hsz, fun t ht => ?_⟩, by rw [tr.dn]; exact hdf, fun i hi => ?_, hHM⟩
      · rw [tr.nn] at ht
        have h1 := hsl t ht ops.size (Nat.le_refl _) (fun j o ho _ => by
          have : j < ops.size := (Array.getElem?_eq_some_iff.1 ho).1
          exact ⟨fun _ => this, fun _ => hall j this⟩)
        rw [← hHk, tr.hn] at h1
        rw [St.look_lg]
        exact tr.tn t _ _ _ h1
      · rw [tr.dn] at hi
        exact Nat.lt_of_lt_of_le (hm.dl i hi) hnx
    | cons i L ih =>
      intro E ρ a w k hlin hcl hEn hk heff hHM hnx hag hsz hdf hsl
      cases hlin with
      | cons ho hnE hed hrest =>
        rename_i o
        have ho' : ops[i]? = some o := by simpa using ho
        have hi : i < ops.size := (Array.getElem?_eq_some_iff.1 ho').1
        have hcl' : EClosed ops.toList (fun j => E j ∨ j = i) := by
          rintro j oj (hj | rfl) hoj e he
          · exact .inl (hcl j oj hj hoj e he)
          · rw [ho] at hoj; injection hoj with hoj; subst hoj
            exact .inl (hed e he)
        -- an operation that must stand in the text's order to this one
        have hord : ∀ j oj, ops[j]? = some oj → j ≠ i → needs P Q tq fr ops.toList oj o = true → needs P Q tq fr ops.toList o oj = true → (E j ↔ j < i) := by
          intro j oj hoj hji hn1 hn2
          constructor
          · intro hj
            rcases Nat.lt_or_gt_of_ne hji with h | h
            · exact h
            · exact absurd (hpair E hcl i j o oj h ho' hoj hn2 (hcl j oj hj (by simpa using hoj))) hnE
          · intro h
            exact hpair E hcl j i oj o h hoj ho' hn1 hed
        have hneedL : freeF P Q fr o.op = false → ∀ oj, quietO P Q tq oj.op = false → needs P Q tq fr ops.toList oj o = true ∧ needs P Q tq fr ops.toList o oj = true := by
          intro hfo oj hq; constructor <;> simp [needs, hq, hfo]
        have hneedW : ∀ oj t, oj.dst = some t → (o.dst = some t ∨ t ∈ tmpsOf ops.toList o) → needs P Q tq fr ops.toList oj o = true ∧ needs P Q tq fr ops.toList o oj = true := by
          intro oj t ht hor
          rcases hor with h | h
          · constructor <;> simp [needs, ht, h]
          · constructor
            · simp [needs, ht, any_beq h]
            · simp [needs, ht, any_beq h]
        -- memory is as at this operation in the text's order
        have hHi : freeF P Q fr o.op = false → H i = H k := by
          intro hfo
          rcases Nat.le_total k i with hki | hki
          · exact hHconst i k hki (by omega) fun j oj h1 h2 h3 => by
              cases hq : quietO P Q tq oj.op with
              | true => rfl
              | false =>
                have hn := hneedL hfo oj hq
                have e1 := (hord j oj h3 (by omega) hn.1 hn.2).2 h2
                have := (heff j oj h3 hq).1 e1; omega
          · exact (hHconst k i hki hk fun j oj h1 h2 h3 => by
              cases hq : quietO P Q tq oj.op with
              | true => rfl
              | false =>
                by_cases hji : j = i
                · subst hji
                  exact absurd ((heff j oj h3 hq).2 h2) hnE
                · have hn := hneedL hfo oj hq
                  have e1 := (heff j oj h3 hq).2 h2
                  have := (hord j oj h3 hji hn.1 hn.2).1 e1; omega).symm
        -- the slots that it reads
        have hread : ∀ t, t ∈ tmpsOf ops.toList o → t < σ.n → (T i t).fit (H k).nx ρ (a.tmps.getD t undef) := by
          intro t ht htn
          refine hsl t htn i (by omega) fun j oj hoj hdst => ?_
          by_cases hji : j = i
          · subst hji
            exact ⟨fun h => absurd h hnE, fun h => by omega⟩
          · have hn := hneedW oj t hdst (.inr ht)
            exact hord j oj hoj hji hn.1 hn.2
        have hwanted : Region.wanted o (yielded ops a.tmps) = g i := by
          by_cases hg : ∃ j w d, o.guard = some (j, w) ∧ (ops[j]?).bind (·.dst) = some d
          · obtain ⟨j, wv, d, h1, h2⟩ := hg
            have hdn := tr.glt i o j wv d (Nat.zero_le _) hi ho' h1 h2
            · refine tr.guard i o (Nat.zero_le _) hi ho' a.tmps (H k).nx ρ hsz fun j' w' d' h1' h2' => ?_
              rw [h1] at h1'; injection h1' with h1'; injection h1' with e1 e2; subst e1
              rw [h2] at h2'; injection h2' with e3; subst e3
              refine hread d ?_ hdn
              simp only [tmpsOf, h1, hlist]
              cases hoj : ops[j]? with
              | none => rw [hoj] at h2; cases h2
              | some og =>
                rw [hoj] at h2
                simp only [Option.bind_some] at h2
                simp [h2]
          · exact tr.guard i o (Nat.zero_le _) hi ho' a.tmps (H k).nx ρ hsz fun j w d h1 h2 => absurd ⟨j, w, d, h1, h2⟩ hg
        -- what stands behind it
        have fin : ∀ (h2 : SH), (freeF P Q fr o.op = true ∧ h2 = H k ∨ freeF P Q fr o.op = false ∧ h2 = H (i + 1)) → ∀ (ρ' : Rh) (x : Value) (w' : World), (H k).nx ≤ h2.nx → Agree (H k).nx ρ ρ' → HM M w0 ρ' h2 w' → (s i).fit h2.nx ρ' x → wpOpsIn (Fw rd) 0 P ops Qx L (a.put o.dst x) w' := by
          intro h2 hor ρ' x w' hn1 ha1 hHM1 hfx
          have hk' : ∃ k', k' ≤ ops.size ∧ H k' = h2 ∧ ∀ j oj, ops[j]? = some oj → quietO P Q tq oj.op = false → ((E j ∨ j = i) ↔ j < k') := by
            cases hq : quietO P Q tq o.op with
            | true =>
              refine ⟨k, hk, ?_, fun j oj hoj hqj => ?_⟩
              · rcases hor with ⟨_, rfl⟩ | ⟨hfo, rfl⟩
                · rfl
                · rw [hquiet i o hi ho' hq, hHi hfo]
              have hji : j ≠ i := by
                rintro rfl
                rw [ho'] at hoj; injection hoj with hoj; subst hoj
                rw [hq] at hqj; cases hqj
              rw [← heff j oj hoj hqj]
              exact ⟨fun h => h.resolve_right hji, .inl⟩
            | false =>
              have hfo : freeF P Q fr o.op = false := by
                cases hf : freeF P Q fr o.op with
                | false => rfl
                | true => rw [freeF_quiet hf] at hq; cases hq
              rcases hor with ⟨hf, _⟩ | ⟨_, rfl⟩
              · rw [hfo] at hf; cases hf
              refine ⟨i + 1, by omega, rfl, fun j oj hoj hqj => ?_⟩
              by_cases hji : j = i
              · subst hji; exact ⟨fun _ => Nat.lt_succ_self _, fun _ => .inr rfl⟩
              · have hn := hneedL hfo oj hqj
                have e1 := hord j oj hoj hji hn.1 hn.2
                constructor
                · rintro (h | h)
                  · have := e1.1 h; omega
                  · exact absurd h hji
                · intro h; exact .inl (e1.2 (by omega))
          obtain ⟨k', hk'n, hHk', heff'⟩ := hk'
          refine ih (fun j => E j ∨ j = i) ρ' (a.put o.dst x) w' k' hrest hcl' (fun j hj => hj.elim (hEn j) fun e => e ▸ hi) hk'n heff' (by rw [hHk']; exact hHM1) (by rw [hHk']; exact Nat.le_trans hnx hn1) (hag.trans hnx ha1)
            (by rw [put_size]; exact hsz) (by rw [put_defers]; exact hdf.mono (Agree.trans (Agree.refl _ _) hnx ha1) hm.dl) fun t htn i' hi' hw => ?_
          rw [hHk']
          by_cases hdt : o.dst = some t
          · have hlt : i < i' := (hw i o ho' hdt).1 (.inr rfl)
            have hT1 : T (i + 1) t = s i := by rw [tr.next i o t (Nat.zero_le _) hi ho', if_pos hdt]
            have hT2 : T i' t = T (i + 1) t := hTconst t i' (i + 1) (by omega) hi' fun j oj h1 h2 h3 h4 => by
              have hE := (hw j oj h3 h4).2 h2
              have hji : j ≠ i := by omega
              have hn := hneedW oj t h4 (.inl hdt)
              have := (hord j oj h3 hji hn.1 hn.2).1 (hE.resolve_right hji)
              omega
            rw [hT2, hT1, hdt]
            have htz : t < a.tmps.size := by rw [hsz]; exact htn
            simp only [Act.put, Array.getD_eq_getD_getElem?, Array.getElem?_setIfInBounds, htz, if_true, Option.getD_some]
            exact hfx
          · have hold := hsl t htn i' hi' fun j oj hoj hdst => by
              rw [← hw j oj hoj hdst]
              have hji : j ≠ i := by
                rintro rfl
                rw [ho'] at hoj; injection hoj with hoj; subst hoj
                exact hdt hdst
              exact ⟨.inl, fun h => h.resolve_right hji⟩
            have : (a.put o.dst x).tmps.getD t undef = a.tmps.getD t undef := by
              cases hdd : o.dst with
              | none => rfl
              | some d =>
                simp only [Act.put, Array.getD_eq_getD_getElem?, Array.getElem?_setIfInBounds]
                rw [if_neg (fun e => hdt (by rw [hdd, e]))]
            rw [this]
            exact SV.fit_mono hn1 ha1 _ _ hold
        simp only [wpOpsIn, ho', hwanted]
        cases hg : g i with
        | true =>
          rw [if_pos rfl]
          have hy := tr.yes i o (Nat.zero_le _) hi ho' hg
          have himp := tr.imp i (Nat.zero_le _) hi
          let ev' : Operand → SV := fun x => match x with
            | .tmp t => if t ∈ tmpsOf ops.toList o then (st i).ev (.tmp t) else .u
            | x => (st i).ev x
          have hceq : ∀ x ∈ o.op.operands, ev' x = (st i).ev x := fun x hx => by
            cases x with
            | tmp t =>
              have : t ∈ tmpsOf ops.toList o := by
                simp only [tmpsOf, List.mem_append, List.mem_filterMap]
                exact .inl ⟨.tmp t, by simpa using hx, rfl⟩
              simp only [ev', if_pos this]
            | _ => rfl
          have hcong : opS P run yld ev' (H i) o.op = opS P run yld (st i).ev (H i) o.op := opS_congr hceq
          have hy' : ∃ h2, (freeF P Q fr o.op = true ∧ h2 = H k ∨ freeF P Q fr o.op = false ∧ h2 = H (i + 1)) ∧ (opS P run yld ev' (H k) o.op).Holds (· = (s i, h2)) := by
            cases hfo : freeF P Q fr o.op with
            | true =>
              rw [← hcong] at hy
              exact ⟨H k, .inl ⟨rfl, rfl⟩, freeF_holds hI (fun _ => rfl) hfo (fun h1 h2 => by
                rw [rdOk_congr (ev' := (st i).ev) (fun x hx => hceq x hx)]
                exact tr.freq i o (Nat.zero_le _) hi ho' hg h1 h2) hy⟩
            | false =>
              rw [← hcong, hHi hfo] at hy
              exact ⟨H (i + 1), .inr ⟨rfl, rfl⟩, hy⟩
          obtain ⟨h2x, hor, hy⟩ := hy'
          have hev : ∀ x, (ev' x).fit (H k).nx ρ (a.eval x) := by
            intro x
            cases x with
            | tmp t =>
              simp only [ev']
              by_cases ht : t ∈ tmpsOf ops.toList o
              · rw [if_pos ht]
                simp only [St.ev, himp.2, Act.eval]
                cases hbl : Nat.blt t σ.n with
                | true =>
                  have htn : t < σ.n := by simpa [Nat.blt_eq] using hbl
                  simp only [cond_true]
                  exact himp.1 t _ _ _ (hread t ht htn)
                | false =>
                  have : ¬ t < σ.n := by
                    intro h
                    have : Nat.blt t σ.n = true := by simpa [Nat.blt_eq] using h
                    rw [this] at hbl; cases hbl
                  simp only [cond_false, SV.fit, Array.getD]
                  rw [dif_neg (fun hlt => this (hsz ▸ hlt))]
              · rw [if_neg ht]; trivial
            | const v => simp [ev', St.ev, Act.eval, SV.fit]
            | global gl => simp [ev', St.ev, Act.eval, SV.fit]
            | func f => simp [ev', St.ev, Act.eval, SV.fit, SV.fits]
          have hop := op_ok (P := P) hrun hyld (o := o) (a := a) hHM hev hy
          refine hop rd _ _ fun s' h' ρ' x w' h1 h2 h3 h4 h5 => ?_
          injection h1 with e1 e2
          subst e1; subst e2
          exact fin _ hor ρ' x w' h2 h3 h4 h5
        | false =>
          rw [if_neg (by simp)]
          refine ⟨fun _ _ => trivial, ?_⟩
          obtain ⟨e1, e2⟩ := tr.no i (Nat.zero_le _) hi hg
          have hor : freeF P Q fr o.op = true ∧ H k = H k ∨ freeF P Q fr o.op = false ∧ H k = H (i + 1) := by
            cases hfo : freeF P Q fr o.op with
            | true => exact .inl ⟨rfl, rfl⟩
            | false => exact .inr ⟨rfl, by rw [e1, hHi hfo]⟩
          refine fin (H k) hor ρ undef w (Nat.le_refl _) (Agree.refl _ _) hHM ?_
          rw [e2]; rfl
  refine main _ _ ρ0 a _ 0 hlin (fun j o h => h.elim) (fun j h => h.elim) (Nat.zero_le _) (fun j o _ _ => ⟨fun h => h.elim, fun h => by omega⟩) (by rw [tr.h0]; exact hm.hp.below hw1) (by rw [tr.h0]; exact Nat.le_refl _) (Agree.refl _ _)
    hm.tm.1 hm.df fun t ht i hi hw => ?_
  have : T i t = T 0 t := hTconst t i 0 (Nat.zero_le _) hi fun j o h1 h2 h3 h4 => ((hw j o h3 h4).2 h2).elim
  rw [this, tr.t0, tr.h0]
  have := hm.tm.2 t ht
  rwa [St.look_lg] at this
theorem draw_ok {Q : Nat → Bool} {tq fr : Bool} {run yld : Nat → Con} (hrun : ∀ f, FnOk P f (run f)) (hyld : YldOk P yld) (hQ : ∀ f, Q f = true → ∀ args h, (run f args h).Each fun y => y.2 = h) (hI : ∀ f, Q f = true → ∀ args, args.all noId = true → Indep fun h => run f args h) {ops : Array Oper} (hd : drawOk P Q tq fr ops = true) {id : Nat}
    {w : World} {ρ0 : Rh} {σ : St} {a : Act} {K : St → Prop} {rd : Option Nat} (hK : (drawOps P Q tq fr run yld ops ops.toList σ).Holds K) (hm : Mod M w0 ρ0 σ a w) {Qx : Exit → Act → World → Prop}
    (hQx : ∀ σ' ρ' a' w', K σ' → σ.h.nx ≤ σ'.h.nx → Agree σ.h.nx ρ0 ρ' → Mod M w0 ρ' σ' a' w' → Qx .normal a' w') : (Code.region id ops true).wpIn (Fw rd) 0 P Qx a w := by
  simp only [drawOk, Bool.and_eq_true] at hd
  obtain ⟨⟨hmix, hback⟩, hpairs⟩ := hd
  have hb : ∀ i o, ops[i]? = some o → ∀ e ∈ edgesOf o, e < i := by
    intro i o ho e he
    have := zipIdx_all hback (i := i) (x := o) (by simpa using ho)
    simp only [List.all_eq_true] at this
    have := this e he
    simpa [Nat.blt_eq] using this
  exact wpIn_region_draw fun t => draw_lin hrun hyld hQ hI hback hpairs hK hm hQx (lin_all hb hmix t) ⟨rfl, rfl, rfl, Nat.le_refl _, fun _ _ => rfl⟩
end
end Go.Sx

/- Regions whose order is drawn, split by which of two operations runs ahead: the operations in another order. -/
namespace Go.Sx
open Go.RowKit
/-- One operation, its edges renamed, with some more. -/
def remapO (π : List Nat) (X : List (Nat × Nat)) (i : Nat) (o : Oper) : Oper :=
  { o with after := ((edgesOf o).map (fun e => (⟨π.idxOf e, .data⟩ : Edge)) ++ (X.filter fun x => Nat.beq x.2 i).map fun x => (⟨π.idxOf x.1, .data⟩ : Edge)).toArray }
/-- The operations in the order π (a permutation), with the edges X more. -/
def remap (π : List Nat) (X : List (Nat × Nat)) (ops : Array Oper) : Array Oper :=
  (π.filterMap fun i => (ops[i]?).map (remapO π X i)).toArray
theorem edges_remap (π : List Nat) (X : List (Nat × Nat)) (i : Nat) (o : Oper) : edgesOf (remapO π X i o) = (edgesOf o).map (fun e => π.idxOf e) ++ (X.filter fun x => Nat.beq x.2 i).map fun x => π.idxOf x.1 := by
  unfold remapO
  show ((((edgesOf o).map (fun e => (⟨π.idxOf e, .data⟩ : Edge)) ++ (X.filter fun x => Nat.beq x.2 i).map fun x => (⟨π.idxOf x.1, .data⟩ : Edge)).toArray.toList.filter fun e => Region.binds .any e).map (·.on)) = _
  rw [List.toList_toArray, List.filter_eq_self.2, List.map_append, List.map_map, List.map_map]
  · rfl
  · intro e he
    rcases List.mem_append.1 he with h | h
    · obtain ⟨x, _, rfl⟩ := List.mem_map.1 h; rfl
    · obtain ⟨x, _, rfl⟩ := List.mem_map.1 h; rfl
theorem remap_get {π : List Nat} {X : List (Nat × Nat)} {ops : Array Oper} (hv : ∀ i ∈ π, i < ops.size) (hn : π.Nodup) {i : Nat} (hi : i ∈ π) : (remap π X ops)[π.idxOf i]? = (ops[i]?).map (remapO π X i) := by
  have key : ∀ (l : List Nat), (∀ i ∈ l, i < ops.size) → ∀ i ∈ l, (l.filterMap fun i => (ops[i]?).map (remapO π X i))[l.idxOf i]? = (ops[i]?).map (remapO π X i) := by
    intro l
    induction l with
    | nil => intro _ i h; cases h
    | cons j l ih =>
      intro hv i hi
      have hj : ops[j]? = some ops[j]! := by
        have := hv j (List.mem_cons_self ..)
        rw [getElem?_pos ops j this, getElem!_pos ops j this]
      rw [List.filterMap_cons, hj]
      simp only [Option.map_some]
      by_cases hij : i = j
      · subst hij
        rw [List.idxOf_cons_self, hj]
        rfl
      · have hji : (j == i) = false := by simpa using fun e : j = i => hij e.symm
        rw [List.idxOf_cons, hji]
        simp only [cond_false, List.getElem?_cons_succ]
        rcases List.mem_cons.1 hi with h | h
        · exact absurd h hij
        · exact ih (fun i h => hv i (List.mem_cons_of_mem _ h)) i h
  unfold remap
  rw [List.getElem?_toArray]
  exact key π hv i hi
section
variable {P : Program}
theorem upon_mono {F : Fence} {n : Nat} {o : Oper} {a : Act} {next next' : Act → World → Prop} {Q : Exit → Act → World → Prop} (hi : ∀ a w, next a w → next' a w) : ∀ {r : Result Next}, o.uponIn F n P a next Q r → o.uponIn F n P a next' Q r
  | .ok (.value v) w', h => hi _ _ h
  | .ok .skip w', h => hi _ _ h
  | .ok (.defer d) w', h => hi _ _ h
  | .ok (.enter f args) w', h => ⟨h.1, CallsIn.mono h.2 fun e w'' => by
      cases e with
      | returned v => exact hi _ _
      | panicked c => exact id
      | outgrown => exact id⟩
  | .ok (.row row args) w', h => ⟨h.1, RowsIn.mono h.2 fun v w'' => hi _ _⟩
  | .ok (.round l f tmps asg body) w', h => ⟨h.1, RoundIn.mono h.2 fun e w'' => by
      cases e with
      | returned v => exact hi _ _
      | panicked c => exact id
      | outgrown => exact id⟩
  | .halt (.panic v) w', h => h
theorem wp_mono' {F : Fence} {n : Nat} {o : Oper} {a : Act} {w : World} {next next' : Act → World → Prop} {Q : Exit → Act → World → Prop} (hi : ∀ a w, next a w → next' a w) (h : o.wpIn F n P a w next Q) : o.wpIn F n P a w next' Q := ⟨h.1, upon_mono hi h.2⟩
theorem wpOps_remap {F : Fence} {n : Nat} {π : List Nat} {X : List (Nat × Nat)} {ops : Array Oper} {Q : Exit → Act → World → Prop} (hv : ∀ i ∈ π, i < ops.size) (hn : π.Nodup) (hg : ∀ (i : Nat) (o : Oper), ops[i]? = some o → o.guard = none) : ∀ (L : List Nat), (∀ i ∈ L, i ∈ π) → ∀ (a : Act) (w : World), wpOpsIn F n P (remap π X ops) Q (L.map fun i => π.idxOf i) a w → wpOpsIn F n P ops Q L a w
  | [], _, a, w, h => h
  | i :: L, hL, a, w, h => by
    have hi := hL i (List.mem_cons_self ..)
    have hlt := hv i hi
    have ho : ops[i]? = some ops[i] := getElem?_pos ops i hlt
    have hgi := hg i _ ho
    have hget := remap_get (X := X) hv hn hi
    rw [ho] at hget
    simp only [Option.map_some] at hget
    have ih := wpOps_remap (F := F) (n := n) (X := X) (Q := Q) hv hn hg L fun i h => hL i (List.mem_cons_of_mem _ h)
    simp only [List.map_cons, wpOpsIn, hget] at h
    simp only [wpOpsIn, ho]
    have w1 : Region.wanted ops[i] (yielded ops a.tmps) = true := by simp [Region.wanted, hgi]
    have w2 : Region.wanted (remapO π X i ops[i]) (yielded (remap π X ops) a.tmps) = true := by
      have : (remapO π X i ops[i]).guard = none := hgi
      simp [Region.wanted, this]
    rw [if_pos w2] at h
    rw [if_pos w1]
    have h : ops[i].wpIn F n P a w (wpOpsIn F n P (remap π X ops) Q (L.map fun i => π.idxOf i)) Q := h
    exact wp_mono' ih h
theorem idx_cons_ne {i j : Nat} {l : List Nat} (h : i ≠ j) : (j :: l).idxOf i = l.idxOf i + 1 := by
  have hji : (j == i) = false := by simpa using fun e : j = i => h e.symm
  rw [List.idxOf_cons, hji]
  rfl
theorem pos_inj : ∀ {l : List Nat} {i k : Nat}, i ∈ l → k ∈ l → l.idxOf i = l.idxOf k → i = k
  | j :: l, i, k, hi, hk, h => by
    by_cases h1 : i = j
    · by_cases h2 : k = j
      · rw [h1, h2]
      · subst h1
        rw [List.idxOf_cons_self, idx_cons_ne h2] at h
        omega
    · by_cases h2 : k = j
      · subst h2
        rw [List.idxOf_cons_self, idx_cons_ne h1] at h
        omega
      · rw [idx_cons_ne h1, idx_cons_ne h2] at h
        exact pos_inj ((List.mem_cons.1 hi).resolve_left h1) ((List.mem_cons.1 hk).resolve_left h2) (by omega)
theorem pos_surj : ∀ {l : List Nat}, l.Nodup → ∀ q, q < l.length → ∃ i ∈ l, l.idxOf i = q
  | j :: l, hn, 0, _ => ⟨j, List.mem_cons_self .., List.idxOf_cons_self⟩
  | j :: l, hn, q + 1, hq => by
    rw [List.nodup_cons] at hn
    obtain ⟨i, hi, e⟩ := pos_surj hn.2 q (by simpa using hq)
    have : i ≠ j := fun h => hn.1 (h ▸ hi)
    exact ⟨i, List.mem_cons_of_mem _ hi, by rw [idx_cons_ne this, e]⟩
/-- The pairs stand in this order. -/
def InLine (X : List (Nat × Nat)) (L : List Nat) : Prop := ∀ x ∈ X, L.idxOf x.1 < L.idxOf x.2
theorem remap_len {π : List Nat} {X : List (Nat × Nat)} {ops : Array Oper} (hv : ∀ i ∈ π, i < ops.size) : (remap π X ops).toList.length = π.length := by
  have key : ∀ l : List Nat, (∀ i ∈ l, i < ops.size) → (l.filterMap fun i => (ops[i]?).map (remapO π X i)).length = l.length := by
    intro l
    induction l with
    | nil => intro _; rfl
    | cons j l ih =>
      intro hv
      have hj : ops[j]? = some ops[j]! := by
        have := hv j (List.mem_cons_self ..)
        rw [getElem?_pos ops j this, getElem!_pos ops j this]
      rw [List.filterMap_cons, hj]
      simp only [Option.map_some, List.length_cons]
      rw [ih fun i h => hv i (List.mem_cons_of_mem _ h)]
  unfold remap
  rw [List.toList_toArray]
  exact key π hv
theorem lin_remap {π : List Nat} {X : List (Nat × Nat)} {ops : Array Oper} {L0 : List Nat} (hv : ∀ i ∈ π, i < ops.size) (hall : ∀ i, i < ops.size → i ∈ π) (hn : π.Nodup) (hX : InLine X L0) : ∀ (L pre : List Nat), L0 = pre ++ L → (∀ i ∈ pre, i ∈ π) → Lin ops.toList (fun j => j ∈ pre) L → Lin (remap π X ops).toList (fun q => q ∈ pre.map fun i => π.idxOf i) (L.map fun i => π.idxOf i)
  | [], pre, _, hp, hl => by
    cases hl with
    | nil h =>
      refine .nil fun q hq => ?_
      rw [remap_len hv] at hq
      obtain ⟨i, hi, e⟩ := pos_surj hn q hq
      exact List.mem_map.2 ⟨i, h i (by simpa using hv i hi), e⟩
  | i :: L, pre, h0, hp, hl => by
    cases hl with
    | cons ho hne he hrest =>
      rename_i o
      have ho' : ops[i]? = some o := by simpa using ho
      have hlt : i < ops.size := (Array.getElem?_eq_some_iff.1 ho').1
      have hi := hall i hlt
      have hget := remap_get (X := X) hv hn hi
      rw [ho'] at hget
      refine .cons (o := remapO π X i o) (by simpa using hget) (fun hm => ?_) (fun e hm => ?_) ?_
      · obtain ⟨k, hk, e⟩ := List.mem_map.1 hm
        have := pos_inj (hp k hk) hi e
        exact hne (this ▸ hk)
      · rw [edges_remap] at hm
        rcases List.mem_append.1 hm with hm | hm
        · obtain ⟨k, hk, rfl⟩ := List.mem_map.1 hm
          exact List.mem_map.2 ⟨k, he k hk, rfl⟩
        · obtain ⟨x, hx, rfl⟩ := List.mem_map.1 hm
          obtain ⟨hx1, hx2⟩ := List.mem_filter.1 hx
          have hx2 : x.2 = i := beq_of hx2
          have hlt2 := hX x hx1
          rw [h0, hx2, List.idxOf_append, List.idxOf_append, if_neg hne, List.idxOf_cons_self] at hlt2
          by_cases hin : x.1 ∈ pre
          · exact List.mem_map.2 ⟨x.1, hin, rfl⟩
          · rw [if_neg hin] at hlt2
            omega
      · have h1 : Lin ops.toList (fun j => j ∈ pre ++ [i]) L := hrest.congr fun j => by simp
        have h2 := lin_remap hv hall hn hX L (pre ++ [i]) (by rw [h0]; simp) (fun k hk => by
          rcases List.mem_append.1 hk with h | h
          · exact hp k h
          · rw [List.mem_singleton.1 h]; exact hi) h1
        exact h2.congr fun q => by simp [List.map_append]
/-- A drawn order has each operation, once. -/
theorem lin_has {ops : List Oper} : ∀ {L : List Nat} {E : Nat → Prop}, Lin ops E L → ∀ i, i < ops.length → ¬ E i → i ∈ L
  | [], E, hl, i, hi, hn => by
    cases hl with
    | nil h => exact absurd (h i hi) hn
  | j :: L, E, hl, i, hi, hn => by
    cases hl with
    | cons ho hne he hrest =>
      by_cases h : i = j
      · rw [h]; exact List.mem_cons_self ..
      · exact List.mem_cons_of_mem _ (lin_has hrest i hi (by rintro (k | k); exact hn k; exact h k))
theorem lin_lt {ops : List Oper} : ∀ {L : List Nat} {E : Nat → Prop}, Lin ops E L → ∀ i ∈ L, i < ops.length
  | [], E, hl, i, hi => by cases hi
  | j :: L, E, hl, i, hi => by
    cases hl with
    | cons ho hne he hrest =>
      rcases List.mem_cons.1 hi with h | h
      · rw [h]; exact (List.getElem?_eq_some_iff.1 ho).1
      · exact lin_lt hrest i h
def noGuard (ops : Array Oper) : Bool := ops.toList.all fun o => o.guard.isNone
/-- The first pair that needs an order and has none. -/
def firstFail (P : Program) (Q : Nat → Bool) (ops : Array Oper) : Option (Nat × Nat) :=
  (ops.toList.zipIdx.flatMap fun y => (ops.toList.zipIdx.take y.2).filterMap fun x => bif !needs P Q false false ops.toList x.1 y.1 || ((befs ops.toList []).getD y.2 0).testBit x.2 then none else some (x.2, y.2)).head?
/-- The order with j ahead of i. -/
def swapOrd (ops : Array Oper) (i j : Nat) : List Nat :=
  let m := (befs ops.toList []).getD j 0
  let mid := (List.range (j - i - 1)).map fun k => i + 1 + k
  List.range i ++ mid.filter (fun k => m.testBit k) ++ [j, i] ++ mid.filter (fun k => !m.testBit k) ++ (List.range (ops.size - (j + 1))).map fun k => j + 1 + k
def permB (π : List Nat) (n : Nat) : Bool := (π.all fun i => Nat.blt i n) && ((List.range n).all fun i => π.any (Nat.beq i)) && decide π.Nodup
/-- Both ways round. -/
def splitT {α : Type} (P : Program) (Q : Nat → Bool) (leaf : Array Oper → Tr α) : Nat → Array Oper → Tr α
  | 0, _ => .bad 550
  | n + 1, ops => match firstFail P Q ops with
    | none => bif backOk ops.toList && pairsOk P Q false false ops.toList (befs ops.toList []) then leaf ops else .bad 551
    | some (i, j) => bif (permB (List.range ops.size) ops.size && permB (swapOrd ops i j) ops.size) && (Nat.blt i j && Nat.blt j ops.size) then
        .all fun cs => .br cs.isEmpty (splitT P Q leaf n (remap (List.range ops.size) [(i, j)] ops)) (splitT P Q leaf n (remap (swapOrd ops i j) [(j, i)] ops)) else .bad 552
theorem perm_ok {π : List Nat} {n : Nat} (h : permB π n = true) : (∀ i ∈ π, i < n) ∧ (∀ i, i < n → i ∈ π) ∧ π.Nodup := by
  simp only [permB, Bool.and_eq_true, List.all_eq_true, decide_eq_true_eq] at h
  exact ⟨fun i hi => by simpa [Nat.blt_eq] using h.1.1 i hi, fun i hi => by
    obtain ⟨x, hx, e⟩ := List.any_eq_true.1 (h.1.2 i (List.mem_range.2 hi))
    rw [beq_of e]; exact hx, h.2⟩
theorem guard_remap {π : List Nat} {X : List (Nat × Nat)} {ops : Array Oper} (hg : ∀ (i : Nat) (o : Oper), ops[i]? = some o → o.guard = none) : ∀ (i : Nat) (o : Oper), (remap π X ops)[i]? = some o → o.guard = none := by
  intro i o ho
  unfold remap at ho
  rw [List.getElem?_toArray] at ho
  obtain ⟨k, _, hk⟩ := List.mem_filterMap.1 (List.mem_of_getElem? ho)
  cases hok : ops[k]? with
  | none => rw [hok] at hk; cases hk
  | some o' =>
    rw [hok] at hk
    simp only [Option.map_some, Option.some.injEq] at hk
    rw [← hk]
    exact hg k o' hok
theorem split_ok {α : Type} {Q : Nat → Bool} {leaf : Array Oper → Tr α} {K : α → Prop} {F : Fence} {m : Nat} {Qx : Exit → Act → World → Prop} {a : Act} {w : World}
    (hleaf : ∀ ops', backOk ops'.toList = true → pairsOk P Q false false ops'.toList (befs ops'.toList []) = true → (leaf ops').Holds K → ∀ L, Lin ops'.toList (fun _ => False) L → wpOpsIn F m P ops' Qx L a w) :
    ∀ (n : Nat) (ops : Array Oper), (splitT P Q leaf n ops).Holds K → (∀ (i : Nat) (o : Oper), ops[i]? = some o → o.guard = none) → ∀ L, Lin ops.toList (fun _ => False) L → wpOpsIn F m P ops Qx L a w
  | 0, _, h, _, _, _ => h.elim
  | n + 1, ops, h, hg, L, hL => by
    unfold splitT at h
    split at h
    · obtain ⟨hc, h⟩ := bif_holds h
      rw [Bool.and_eq_true] at hc
      exact hleaf ops hc.1 hc.2 h L hL
    · rename_i i j hf
      obtain ⟨hc, h⟩ := bif_holds h
      simp only [Bool.and_eq_true] at hc
      obtain ⟨⟨hp1, hp2⟩, hij, hj⟩ := hc
      have hij : i < j := by simpa [Nat.blt_eq] using hij
      have hj : j < ops.size := by simpa [Nat.blt_eq] using hj
      have go : ∀ (π : List Nat) (X : List (Nat × Nat)), permB π ops.size = true → InLine X L → (splitT P Q leaf n (remap π X ops)).Holds K → wpOpsIn F m P ops Qx L a w := by
        intro π X hp hX hK
        obtain ⟨p1, p2, p3⟩ := perm_ok hp
        have hl : Lin (remap π X ops).toList (fun _ => False) (L.map fun i => π.idxOf i) := (lin_remap p1 p2 p3 hX L [] rfl (fun i h => by cases h) (hL.congr fun i => by simp)).congr fun q => by simp
        exact wpOps_remap p1 p3 hg L (fun i hi => p2 i (by simpa using lin_lt hL i hi)) a w (split_ok hleaf n _ hK (guard_remap hg) _ hl)
      have hiL : i ∈ L := lin_has hL i (by simp; omega) (fun h => h)
      have hjL : j ∈ L := lin_has hL j (by simpa using hj) (fun h => h)
      rcases Nat.lt_trichotomy (L.idxOf i) (L.idxOf j) with hlt | heq | hgt
      · refine go _ _ hp1 (fun x hx => ?_) ((h []).1 rfl)
        rw [List.mem_singleton.1 hx]; exact hlt
      · exact absurd (pos_inj hiL hjL heq) (by omega)
      · refine go _ _ hp2 (fun x hx => ?_) ((h [0]).2 rfl)
        rw [List.mem_singleton.1 hx]; exact hgt
theorem splitT_each {α : Type} {Q : Nat → Bool} {leaf : Array Oper → Tr α} {p : α → Prop} (h : ∀ ops, (leaf ops).Each p) : ∀ (n : Nat) (ops : Array Oper), (splitT P Q leaf n ops).Each p
  | 0, _ => trivial
  | n + 1, ops => by
    unfold splitT
    split
    · exact each_bif (h ops) trivial
    · exact each_bif (fun cs => ⟨splitT_each h n _, splitT_each h n _⟩) trivial
theorem noGuard_ok {ops : Array Oper} (h : noGuard ops = true) : ∀ (i : Nat) (o : Oper), ops[i]? = some o → o.guard = none := fun i o ho => by
  have := List.all_eq_true.1 h o (List.mem_of_getElem? (by simpa using ho))
  simpa using this
theorem back_lt {ops : Array Oper} (hback : backOk ops.toList = true) : ∀ (i : Nat) (o : Oper), ops[i]? = some o → ∀ e ∈ edgesOf o, e < i := by
  intro i o ho e he
  have := zipIdx_all hback (i := i) (x := o) (by simpa using ho)
  simp only [List.all_eq_true] at this
  have := this e he
  simpa [Nat.blt_eq] using this
end
end Go.Sx

/- What stands below a state's logs stays. -/
namespace Go.Sx
open Go.RowKit

/-- The base of the memory's log stays. -/
def ConB (g : Con) : Prop := ∀ args h, (g args h).Each fun y => y.2.b = h.b
section
variable {P : Program} {run yld : Nat → Con} {h : SH}
theorem each_ret {α : Type} {p : α → Prop} {x : α} (hx : p x) : (Tr.ret x).Each p := hx
theorem each_bad {α : Type} {p : α → Prop} {n : Nat} : (Tr.bad n : Tr α).Each p := trivial
theorem eq_b {t : Tr (SV × SH)} (ht : t.Each fun y => y.2 = h) : t.Each fun y => y.2.b = h.b := by
  induction t with
  | ret x => exact congrArg SH.b ht
  | br c a b iha ihb => exact ⟨iha ht.1, ihb ht.2⟩
  | ask q a ih => exact ih ht
  | giv q a ih => exact ih ht
  | all k ih => exact fun n => ih n (ht n)
  | bad _ => trivial
theorem each_bifb {α : Type} {p : α → Prop} {c : Bool} {a b : Tr α} (ha : a.Each p) (hb : b.Each p) : (bif c then a else b).Each p := by cases c <;> assumption
theorem each_copyb {t : TypeId} {d s : SV} : (copyS P h t d s).Each fun y => y.2.b = h.b := by
  unfold copyS
  repeat' split
  all_goals first | trivial | exact rfl | (refine each_bifb ?_ trivial; first | exact rfl | exact SH.setCs_b _ _ _ _)
theorem each_appendb {t t' : TypeId} {d s : SV} : (appendS P h t t' d s).Each fun y => y.2.b = h.b := by
  unfold appendS
  split
  · split
    · split
      · refine each_bifb ?_ trivial
        split
        · exact rfl
        · trivial
      · trivial
    · trivial
  · trivial
theorem each_clearb {t : TypeId} {a : SV} : (clearS P h t a).Each fun y => y.2.b = h.b := by
  unfold clearS
  repeat' split
  all_goals first | trivial | exact each_bifb rfl trivial
theorem each_rangeb {t : TypeId} {a : SV} : (rangeM P h t a).Each fun y => y.2.b = h.b := by
  unfold rangeM
  repeat' split
  all_goals first | trivial | exact rfl | exact each_bifb rfl trivial | (unfold rangeS; split <;> first | exact rfl | trivial)
theorem each_nextb {a : SV} {str : Bool} : (nextM h a str).Each fun y => y.2.b = h.b := by
  unfold nextM
  split
  · unfold nextS
    repeat' split
    all_goals first | trivial | exact ⟨rfl, rfl⟩
  · split
    · split
      · exact ⟨rfl, fun n => each_bifb rfl trivial⟩
      · trivial
    · trivial
theorem each_makeb {t : TypeId} {r : Option SV} : (makeMapS P h t r).Each fun y => y.2.b = h.b := by
  unfold makeMapS
  repeat' split
  all_goals first | trivial | exact rfl
theorem each_lookb {t : TypeId} {a k : SV} {ok : Bool} : (lookS P h t a k ok).Each fun y => y.2.b = h.b := eq_b each_lookS
theorem each_updb {t : TypeId} {a k v : SV} : (updateS P h t a k v).Each fun y => y.2.b = h.b := by
  unfold updateS
  repeat' split
  all_goals first | trivial | exact each_bifb rfl trivial
theorem each_entryb {t : TypeId} {a k : SV} : (entryS P h t a k).Each fun y => y.2.b = h.b := by
  unfold entryS
  repeat' split
  all_goals first | trivial | exact each_bifb rfl trivial
theorem each_storeb {t : TypeId} {a k v : SV} : (storeS' P h t a k v).Each fun y => y.2.b = h.b := by
  unfold storeS'
  repeat' split
  all_goals first | trivial | exact each_bifb rfl trivial
theorem each_deleteb {t : TypeId} {a k : SV} : (deleteS P h t a k).Each fun y => y.2.b = h.b := by
  unfold deleteS
  repeat' split
  all_goals first | trivial | exact each_bifb rfl trivial
theorem each_appendZb {t t' : TypeId} {d s : SV} : (appendZ P h t t' d s).Each fun y => y.2.b = h.b := by
  unfold appendZ
  split
  · repeat' split
    all_goals first | trivial | exact each_bifb rfl trivial
  · exact each_appendb
theorem each_builtinb {b : Builtin} {ts : List TypeId} {as : List SV} : (builtinS P h b ts as).Each fun y => y.2.b = h.b := by
  unfold builtinS
  repeat' split
  all_goals first | trivial | exact each_copyb | exact each_appendZb | exact each_clearb | exact each_deleteb | (refine Tr.each_bind (fun _ => ?_) _; exact rfl)
theorem each_opb (hr : ∀ f, ConB (run f)) (hy : ∀ l, ConB (yld l)) {ev : Operand → SV} {o : Op} : (opS P run yld ev h o).Each fun y => y.2.b = h.b := by
  unfold opS
  split
  · exact rfl
  · exact rfl
  · repeat' split
    all_goals first | trivial | exact rfl | exact ⟨rfl, rfl⟩
  · unfold allocS; split <;> first | exact rfl | trivial
  · exact each_bifb rfl trivial
  · unfold buildS; repeat' split
    all_goals first | trivial | exact rfl
  · unfold buildSliceS; repeat' split
    all_goals first | trivial | exact rfl | (refine each_bifb ?_ trivial; first | exact rfl | trivial)
  · exact eq_b each_load
  · unfold storeS; repeat' split
    all_goals first | trivial | (refine each_bifb ?_ trivial; first | exact rfl | exact SH.setCs_b _ _ _ _)
  · repeat' split
    all_goals first | trivial | exact rfl | (refine Tr.each_bind (fun _ => ?_) _; exact rfl)
  · (refine Tr.each_bind (fun _ => ?_) _; exact rfl)
  · unfold convH; repeat' split
    all_goals first | trivial | exact rfl | exact each_bifb rfl trivial | exact each_bifb (askAll_each rfl) trivial | (refine Tr.each_bind (fun _ => ?_) _; exact rfl)
  · exact each_bifb rfl trivial
  · exact eq_b each_slice
  · unfold slice3S; repeat' split
    all_goals first | trivial | exact rfl | exact each_bifb rfl trivial
  · exact each_bifb rfl trivial
  · unfold makeSliceS; repeat' split
    all_goals first | trivial | exact rfl | exact each_bifb rfl trivial
  · exact each_rangeb
  · exact each_nextb
  · exact each_makeb
  · exact each_lookb
  · exact each_updb
  · exact each_updb
  · exact each_entryb
  · exact each_storeb
  · exact eq_b each_fieldAddr
  · exact eq_b each_field
  · exact eq_b each_indexAddr
  · exact eq_b each_index
  · exact eq_b each_extract
  · split
    · exact each_builtinb
    · split
      · exact each_bifb (hr _ _ _) trivial
      · exact hy _ _ _
      · trivial
    · trivial
  · trivial

theorem put_on {σ : St} {d : Option Nat} {s : SV} {h' : SH} (hb : h'.b = σ.h.b) : (σ.put d s h').On σ.b σ.h.b := by cases d <;> exact ⟨rfl, hb⟩
theorem guardM_on {ops : Array Oper} {σ : St} {o : Oper} {go : Bool → St → Tr St} (hgo : ∀ g σ' B HB, σ'.On B HB → (go g σ').Each (St.On B HB)) : (guardM ops σ o go).Each (St.On σ.b σ.h.b) := by
  unfold guardM
  split
  · exact hgo _ _ _ _ ⟨rfl, rfl⟩
  · split
    · refine each_bifb ?_ trivial
      split
      · exact hgo _ _ _ _ ⟨rfl, rfl⟩
      · exact Tr.each_map (q := St.On (σ.t ++ σ.b) (σ.h.l ++ σ.h.b)) (fun x _ => pop_on σ x) (mergeX_each (joinSt_ok _ _ _ _) (hgo _ _ _ _ ⟨rfl, rfl⟩) (hgo _ _ _ _ ⟨rfl, rfl⟩))
      · exact hgo _ _ _ _ ⟨rfl, rfl⟩
      · trivial
    · exact hgo _ _ _ _ ⟨rfl, rfl⟩
theorem opsRun_on (hr : ∀ f, ConB (run f)) (hy : ∀ l, ConB (yld l)) {ops : Array Oper} : ∀ (l : List Oper) (σ : St) (B : List (Nat × SV)) (HB : List (Nat × SE)), σ.On B HB → (opsRun P run yld ops l σ).Each (St.On B HB)
  | [], σ, B, HB, h => h
  | o :: r, σ, B, HB, h => by
    obtain ⟨rfl, rfl⟩ := h
    refine guardM_on fun g σ' B HB hon => ?_
    cases g with
    | true =>
      refine Tr.each_bind' (p := fun y => y.2.b = σ'.h.b) (fun x hx => ?_) (each_opb hr hy)
      refine opsRun_on hr hy r _ B HB ?_
      have := put_on (d := o.dst) (s := x.1) hx
      rwa [hon.1, hon.2] at this
    | false =>
      refine opsRun_on hr hy r _ B HB ?_
      have := put_on (σ := σ') (d := o.dst) (s := .k undef) (h' := σ'.h) rfl
      rwa [hon.1, hon.2] at this
theorem strip_each {α : Type} {p : α → Prop} {t : Tr α} (h : t.Each p) : t.strip.Each p := by
  induction t with
  | ret x => exact h
  | br c a b iha ihb => exact ⟨iha h.1, ihb h.2⟩
  | ask q a ih => exact ih h
  | giv q a ih => trivial
  | all k ih => trivial
  | bad _ => trivial
theorem guardS_on {ops : Array Oper} {σ : St} {o : Oper} {go : Bool → St → Tr St} {p : St → Prop} (hgo : ∀ g σ', σ'.On σ.b σ.h.b → (go g σ').Each p) : (guardS ops σ o go).Each p := by
  unfold guardS
  split
  · exact hgo _ _ ⟨rfl, rfl⟩
  · split
    · refine each_bifb ?_ trivial
      split
      · exact hgo _ _ ⟨rfl, rfl⟩
      · exact ⟨hgo _ _ ⟨rfl, rfl⟩, hgo _ _ ⟨rfl, rfl⟩⟩
      · exact hgo _ _ ⟨rfl, rfl⟩
      · trivial
    · exact hgo _ _ ⟨rfl, rfl⟩
theorem drawOps_on {Q : Nat → Bool} {tq fr : Bool} (hr : ∀ f, ConB (run f)) (hy : ∀ l, ConB (yld l)) {ops : Array Oper} : ∀ (l : List Oper) (σ : St) (B : List (Nat × SV)) (HB : List (Nat × SE)), σ.On B HB → (drawOps P Q tq fr run yld ops l σ).Each (St.On B HB)
  | [], σ, B, HB, h => h
  | o :: r, σ, B, HB, h => by
    obtain ⟨rfl, rfl⟩ := h
    refine guardS_on fun g σ' hon => ?_
    cases g with
    | true =>
      refine each_bifb ?_ trivial
      refine Tr.each_bind' (p := fun y => y.2.b = σ'.h.b) (fun x hx => ?_) (strip_each (each_opb hr hy))
      refine drawOps_on hr hy r _ _ _ ?_
      have := put_on (d := o.dst) (s := x.1) hx
      rwa [hon.1, hon.2] at this
    | false =>
      refine drawOps_on hr hy r _ _ _ ?_
      have := put_on (σ := σ') (d := o.dst) (s := .k undef) (h' := σ'.h) rfl
      rwa [hon.1, hon.2] at this
end
end Go.Sx

/- The symbolic executor: code. -/
namespace Go.Sx
open Go.RowKit

def argLog : Nat → List SV → List (Nat × SV)
  | _, [] => []
  | i, a :: r => (i, a) :: argLog (i + 1) r
def endMarks : List Nat → SH → Option SH
  | [], h => some h
  | i :: r, h => match h.get i with
    | .obj (.deferred (some [])) => endMarks r (h.set i (.obj (.deferred none)))
    | _ => none
def resOne (P : Program) (σ : St) : ResultVar → Tr SV
  | .tmp t => .ret (σ.ev (.tmp t))
  | .cell a t => (loadS P σ.h t (σ.ev (.tmp a))).bind fun x => .ret x.1
def resAll (P : Program) (σ : St) : List ResultVar → Tr (List SV)
  | [] => .ret []
  | r :: rs => (resOne P σ r).bind fun s => (resAll P σ rs).bind fun ss => .ret (s :: ss)
def resS (P : Program) (fn : Func) (σ : St) : Tr (SV × SH) :=
  (resAll P σ fn.results.toList).bind fun ss => match ss with
    | [s] => .ret (s, σ.h)
    | ss => .ret (.tup ss, σ.h)

/-- The loops of a piece of code, and a number for each. -/
def subLoops : Code → List Code
  | .seq a b => subLoops a ++ subLoops b
  | .cond _ a b => subLoops a ++ subLoops b
  | .block _ c => subLoops c
  | .scope c => subLoops c
  | .loop c => c :: subLoops c
  | _ => []
def firstReg : Code → Option Nat
  | .region id _ _ => some id
  | .seq a b => match firstReg a with
    | some i => some i
    | none => firstReg b
  | .cond _ a b => match firstReg a with
    | some i => some i
    | none => firstReg b
  | .block _ c => firstReg c
  | .scope c => firstReg c
  | .loop c => (firstReg c).map fun i => i + 1000
  | _ => none
def lkey (c : Code) : Nat := (firstReg c).getD 1000000
def loopsOf (P : Program) (f : Nat) : List Code :=
  match P.funcs[f]? with
  | some fn => match fn.body with
    | some c => subLoops c
    | none => []
  | none => []
def loopBody (P : Program) (f key : Nat) : Code := ((loopsOf P f).find? fun c => Nat.beq (lkey c) key).getD .skip

/-- A contract of a loop. -/
structure LCon where
  g : St → Tr (Ex × St)
  on : ∀ σ, (g σ).Each fun y => y.2.On σ.b σ.h.b
abbrev Lam := Nat → Nat → Option LCon
/-- Contracts of functions, and of which it is known that they change no known block. -/
structure Gam where
  g : Nat → Option Con
  q : Nat → Bool
  hq : ∀ f, q f = true → ∃ c, g f = some c ∧ (∀ args h, (c args h).Each fun y => y.2 = h) ∧ ∀ args, args.all noId = true → Indep fun h => c args h
  hb : ∀ f c, g f = some c → ConB c
  z : Nat → Nat → Bool
  u : Nat → Nat → Nat

def Gam.zf (Γ : Gam) (lam : Option Nat) (id : Nat) : Bool :=
  match lam with
  | some f => Γ.z f id
  | none => false
/-- How many rounds of a loop are gone, at most. -/
def Gam.un (Γ : Gam) (lam : Option Nat) (key n : Nat) : Nat :=
  match lam with
  | some f => match Γ.u f key with
    | 0 => n
    | m + 1 => m + 1
  | none => n
def fnRun (P : Program) (ex : Code → St → Tr (Ex × St)) (f : Nat) : Con := fun args h =>
  match P.funcs[f]? with
  | some fn =>
    match fn.body with
    | some c =>
      bif Nat.ble args.length fn.ntmps then
        (ex c ⟨fn.ntmps, argLog 0 args, h, [], []⟩).bind fun x =>
          match x.1 with
          | .ret | .normal => match endMarks x.2.d x.2.h with
            | some h' => resS P fn ⟨x.2.n, x.2.t, h', [], x.2.b⟩
            | none => .bad 510
          | _ => .bad 511
      else .bad 512
    | none => .bad 513
  | none => .bad 514

def yldSlots : List Nat → List SV → List (Nat × SV) → List (Nat × SV)
  | p :: ps, a :: as, t => yldSlots ps as ((p, a) :: t)
  | _, _, t => t
def yldRun (ex : Nat → Code → St → Tr (Ex × St)) (l : Nat) : Con := fun args h =>
  match h.get l with
  | .loop .ready _ n t ps asg body _ =>
    bif Nat.beq args.length ps.size then
      (ex l asg ⟨n, yldSlots ps.toList args t, h, [], []⟩).bind fun x =>
        match x.1 with
        | .normal => match x.2.h.get l with
         | .loop .ready pd' _ _ _ _ _ _ =>
          (ex l body ⟨x.2.n, x.2.t, x.2.h.setLp l .busy pd', x.2.d, x.2.b⟩).bind fun y =>
            match y.2.h.get l with
            | .loop .. =>
              match y.1 with
              | .normal => .ret (.k (.bool true), y.2.h.setLp l .ready none)
              | .ret => .ret (.k (.bool false), y.2.h.setLp l .done (some .ret))
              | .exit id => .ret (.k (.bool false), y.2.h.setLp l .done (some (.exit id)))
              | .goto id => .ret (.k (.bool false), y.2.h.setLp l .done (some (.goto id)))
            | _ => .bad 520
         | _ => .bad 521
        | _ => .bad 524
    else .bad 522
  | _ => .bad 523

def endLoopS (ex : Code → St → Tr (Ex × St)) (l : Nat) (σ : St) : Tr (Ex × St) :=
  match σ.h.get l with
  | .loop st pd n t ps asg body df =>
    match st with
    | .busy => .bad 530
    | _ =>
      let σ' : St := ⟨σ.n, σ.t, σ.h.set l (.loop .exhausted pd n t ps asg body df), σ.d, σ.b⟩
      match pd with
      | none => .ret (.normal, σ')
      | some c => ex c σ'
  | _ => .bad 531

def loopRun (ex : St → Tr (Ex × St)) : Nat → St → Tr (Ex × St)
  | 0, _ => .bad 532
  | m + 1, σ => (ex σ).bind fun x => match x.1 with
    | .normal => loopRun ex m x.2
    | e => .ret (e, x.2)

def unExit (id : Nat) (x : Ex × St) : Ex × St :=
  match x.1 with
  | .exit j => bif Nat.beq j id then (.normal, x.2) else (.exit j, x.2)
  | e => (e, x.2)
/-- Code: 'lam': whose loops' contracts are used; 'rd': in which round of a range over a function. -/
def exec (P : Program) (Γ : Gam) (Λ : Lam) : Nat → Option Nat → Option Nat → Code → St → Tr (Ex × St)
  | 0, _, _, _, _ => .bad 540
  | n + 1, lam, rd, c, σ =>
    let run : Nat → Con := fun f => match Γ.g f with
      | some g => g
      | none => fnRun P (exec P Γ Λ n (some f) none) f
    let yld : Nat → Con := yldRun fun l => exec P Γ Λ n none (some l)
    match c with
    | .skip => .ret (.normal, σ)
    | .label _ => .ret (.normal, σ)
    | .ret => .ret (.ret, σ)
    | .exit id => .ret (.exit id, σ)
    | .goto l => .ret (.goto l, σ)
    | .region id ops d => bif Γ.zf lam id then (bif d then .bad 548 else ((compress (fun _ => true) (joinSt true σ.h.nx) (opsRun P run yld ops ops.toList σ.base)).map σ.pop).bind fun σ => .ret (.normal, σ)) else bif d then (bif drawOk P Γ.q (tqOf P Γ.q ops) (frOf P Γ.q ops) ops then ((compress (fun _ => true) (joinSt false σ.h.nx) (drawOps P Γ.q (tqOf P Γ.q ops) (frOf P Γ.q ops) run yld ops ops.toList σ.base)).map σ.pop).bind fun σ => .ret (.normal, σ) else (bif noGuard ops && (P.follows .mixedOrders && backOk ops.toList) then splitT P Γ.q (fun ops' => ((compress (fun _ => true) (joinSt false σ.h.nx) (drawOps P Γ.q false false run yld ops' ops'.toList σ.base)).map σ.pop).bind fun σ => .ret (.normal, σ)) 6 ops else .bad 541)) else (opsRun P run yld ops ops.toList σ).bind fun σ => .ret (.normal, σ)
    | .seq a b => (exec P Γ Λ n lam rd a σ).bind fun x => match x.1 with
      | .normal => exec P Γ Λ n lam rd b x.2
      | e => .ret (e, x.2)
    | .cond c a b => match (σ.ev c).bool? with
      | some (true, z) => match z with
        | true => exec P Γ Λ n lam rd a σ
        | false => exec P Γ Λ n lam rd b σ
      | some (false, z) => (mergeX isNx (joinX σ.h.nx) z (exec P Γ Λ n lam rd a σ.base) (exec P Γ Λ n lam rd b σ.base)).map fun y => (y.1, σ.pop y.2)
      | none => .bad 542
    | .block id c => (compress isNx (joinX σ.h.nx) ((exec P Γ Λ n lam rd c σ.base).map (unExit id))).map fun y => (y.1, σ.pop y.2)
    | .loop c =>
      match rd, lam.bind fun f => Λ f (lkey c) with
      | none, some L => L.g σ
      | _, _ => loopRun (exec P Γ Λ n lam rd c) (Γ.un lam (lkey c) n) σ
    | .rangeFunc g ps asg body =>
      match σ.ev g with
      | .fn f cs =>
        bif callable P f then
          match rd with
          | none =>
            let h1 := σ.h.push (.obj (.deferred (some [])))
            let h2 := h1.push (.loop .ready none σ.n σ.lg ps asg body σ.h.nx)
            (run f (.yl h1.nx :: cs) h2).bind fun x => endLoopS (exec P Γ Λ n none rd) h1.nx ⟨σ.n, σ.t, x.2, σ.h.nx :: σ.d, σ.b⟩
          | some l0 =>
            match σ.h.get l0 with
            | .loop _ _ _ _ _ _ _ df =>
              let h2 := σ.h.push (.loop .ready none σ.n σ.lg ps asg body df)
              (run f (.yl σ.h.nx :: cs) h2).bind fun x => endLoopS (exec P Γ Λ n none rd) σ.h.nx ⟨σ.n, σ.t, x.2, σ.d, σ.b⟩
            | _ => .bad 543
        else .bad 544
      | _ => .bad 545
    | .scope c => (exec P Γ Λ n lam rd c σ).bind fun x => match x.1 with
      | .goto _ => .bad 546
      | e => .ret (e, x.2)
    | .refuse _ => .bad 547

/-- A function, run through. -/
def fnTree (P : Program) (Γ : Gam) (Λ : Lam) (n : Nat) (f : Nat) : Con := fnRun P (exec P Γ Λ n (some f) none) f
/-- Its results alone. -/
def fnTree0 (P : Program) (Γ : Gam) (Λ : Lam) (n : Nat) (f : Nat) (args : List SV) : Tr SV := (fnTree P Γ Λ n f args ⟨0, [], []⟩).bind fun x => .ret x.1
end Go.Sx
