/- The symbolic executor: operations, regions, code, calls; ranges over functions whose text is known. -/
import Derived.Test.YtapmlfklkfgmoaaZSxOps4
set_option linter.unusedVariables false
namespace Go.Sx
open Go.RowKit

/-- A function upon known values: the outcomes of a call. -/
abbrev Con := List SV → SH → Tr (SV × SH)

def buildSliceS (P : Program) (h : SH) (t : TypeId) (len : Nat) (parts : List (Nat × SV)) : Tr (SV × SH) :=
  match P.underlying t with
  | some (.slice e) =>
    match P.info? e with
    | some i =>
      match i.zero with
      | some z =>
        bif Nat.blt 0 (len * i.size) && Nat.ble (len * i.size) 16777216 then
          match fillS (fun j => some (j * i.size, i.size)) ((List.range (len * i.size)).map fun j => .k (z.cells[j % z.cells.size]!)) parts with
          | some cs => .ret (.sl h.nx 0 len len, h.push (.cells cs e))
          | none => .bad 400
        else .bad 401
      | none => .bad 402
    | none => .bad 403
  | _ => .bad 404

def nilCmp (P : Program) (t : TypeId) (a b : SV) : Option Bool :=
  match P.underlying t with
  | some (.func _ _ _) => match a, b with
    | .fn _ _, .k .nilFunc => some false
    | .k .nilFunc, .k .nilFunc => some true
    | _, _ => none
  | some (.slice _) => match a, b with
    | .sl .., .k (.slice none 0 0) => some false
    | .k (.slice none 0 0), .k (.slice none 0 0) => some true
    | _, _ => none
  | some (.map _ _) => match a, b with
    | .mp _, .k (.map none) => some false
    | .k (.map none), .k (.map none) => some true
    | _, _ => none
  | some (.pointer _) => match a, b with
    | .p .., .k (.pointer none) => some false
    | .pe .., .k (.pointer none) => some false
    | .v (.pointer (some _)), .k (.pointer none) => some false
    | .k (.pointer none), .k (.pointer none) => some true
    | _, _ => none
  | _ => none

def callable (P : Program) (g : Nat) : Bool :=
  match P.funcs[g]? with
  | some fn => fn.body.isSome && !(fn.name == "runtime.NumGoroutine")
  | none => false

def builtinS (P : Program) (h : SH) (b : Builtin) (ts : List TypeId) (as : List SV) : Tr (SV × SH) :=
  match b with
  | .len => match ts, as with
    | t :: _, [a] => (lenS P t a).bind fun s => .ret (s, h)
    | _, _ => .bad 410
  | .min => (minS false as).bind fun s => .ret (s, h)
  | .max => (minS true as).bind fun s => .ret (s, h)
  | .copy => match ts, as with
    | t :: _, [d, s] => copyS P h t d s
    | _, _ => .bad 411
  | .append => match ts, as with
    | [t, t'], [d, s] => appendS P h t t' d s
    | _, _ => .bad 412
  | _ => .bad 413

/-- One operation; 'run': the calls of functions; 'yld': the calls of a loop's body. -/
def opS (P : Program) (run : Nat → Con) (yld : Nat → Con) (ev : Operand → SV) (h : SH) (o : Op) : Tr (SV × SH) :=
  match o with
  | .move x | .assign x => .ret (ev x, h)
  | .pick c a b =>
    match (ev c).bool? with
    | some (true, z) => .ret (bif z then ev a else ev b, h)
    | some (false, z) => match (ev a).bool?, (ev b).bool? with
      | some (_, x), some (_, y) => .ret (.v (.bool (bif z then x else y)), h)
      | _, _ => .br z (.ret (ev a, h)) (.ret (ev b, h))
    | none => .bad 420
  | .alloc t => allocS P h t
  | .box t x => boxS h t (ev x)
  | .build t ps => buildS P h t (ps.toList.map fun x => (x.1, ev x.2))
  | .buildSlice t len ps => buildSliceS P h t len (ps.toList.map fun x => (x.1, ev x.2))
  | .load t a => loadS P h t (ev a)
  | .store t a x => storeS P h t (ev a) (ev x)
  | .binOp op t x y _ =>
    match nilCmp P t (ev x) (ev y), op with
    | some b, .eql => .ret (.k (.bool b), h)
    | some b, .neq => .ret (.k (.bool (!b)), h)
    | some _, _ => .bad 421
    | none, _ => (binS P op t (ev x) (ev y)).bind fun s => .ret (s, h)
  | .unOp op _ x => (unS op (ev x)).bind fun s => .ret (s, h)
  | .convert src dst x => (convS P src dst (ev x)).bind fun s => .ret (s, h)
  | .makeFunc (.func f) first cap => bif Nat.beq first.size 0 then .ret (.fn f (cap.toList.map ev), h) else .bad 422
  | .slice t x lo hi none => sliceS P h t (ev x) (lo.map ev) (hi.map ev)
  | .fieldAddr t x f => fieldAddrS P h t (ev x) f
  | .field t x f => fieldS P h t (ev x) f
  | .indexAddr t x i => indexAddrS P h t (ev x) (ev i)
  | .index t x i => indexS P h t (ev x) (ev i)
  | .extract x i => extractS h (ev x) i
  | .call c =>
    match c.callee with
    | .builtin b => builtinS P h b c.argTypes.toList (c.args.toList.map ev)
    | .value f =>
      match ev f with
      | .fn g cs => bif callable P g then run g (c.args.toList.map ev ++ cs) h else .bad 423
      | .yl l => yld l (c.args.toList.map ev) h
      | _ => .bad 424
    | .invoke _ _ => .bad 425
  | _ => .bad 426

section
variable {P : Program} {M : Nat → Prop} {w0 w : World} {ρ : Rh} {h : SH}

/-- What an operation may come to, as the machine takes it. -/
def FnGood (M : Nat → Prop) (w0 : World) (ρ : Rh) (h : SH) (K : SV × SH → Prop) : Ending → World → Prop := fun e w' =>
  ∃ s h' ρ' x, K (s, h') ∧ h.nx ≤ h'.nx ∧ Agree h.nx ρ ρ' ∧ HM M w0 ρ' h' w' ∧ s.fit h'.nx ρ' x ∧ e = .returned x
/-- The calls of functions are what the machine does. -/
def FnOk (P : Program) (f : Nat) (g : Con) : Prop :=
  ∀ (M : Nat → Prop) (w0 w : World) (ρ : Rh) (h : SH) (args : List SV) (vs : List Value) (K : SV × SH → Prop), (g args h).Holds K → HM M w0 ρ h w → SV.fits h.nx ρ args vs →
    Calls P f vs.toArray w (FnGood M w0 ρ h K)
def Fw (r : Option Nat) : Fence := { Fence.wide with round := r }
/-- The calls of a loop's body are what the machine does. -/
def YldOk (P : Program) (g : Nat → Con) : Prop :=
  ∀ (M : Nat → Prop) (w0 w : World) (ρ : Rh) (h : SH) (l : Nat) (args : List SV) (vs : List Value) (K : SV × SH → Prop) (r : Option Nat), (g l args h).Holds K → HM M w0 ρ h w → SV.fits h.nx ρ args vs → l < h.nx →
    ∃ f tmps assign body, (Instr.yield (ρ l).blk vs.toArray).run P w = .ok (.round (ρ l).blk f tmps assign body) w ∧ RoundIn (Fw r) 0 P (ρ l).blk f tmps assign body w (FnGood M w0 ρ h K)

def OpGood (P : Program) (M : Nat → Prop) (w0 : World) (ρ : Rh) (h : SH) (K : SV × SH → Prop) (o : Oper) (a : Act) (w : World) : Prop :=
  ∀ (r : Option Nat) (next : Act → World → Prop) (Q : Exit → Act → World → Prop),
    (∀ s h' ρ' x w', K (s, h') → h.nx ≤ h'.nx → Agree h.nx ρ ρ' → HM M w0 ρ' h' w' → s.fit h'.nx ρ' x → next (a.put o.dst x) w') → o.wpIn (Fw r) 0 P a w next Q

theorem fw_fn (r : Option Nat) (f : Nat) : (Fw r).fn f := trivial
theorem callsIn_fw {r : Option Nat} {n : Nat} {f : Nat} {args : Array Value} {R : Ending → World → Prop} (h : Calls P f args w R) : CallsIn (Fw r) n P f args w R := callsIn_wide.2 h

theorem og_value {o : Oper} {a : Act} {K : SV × SH → Prop} {s : Sem Value} (hnd : ∀ c, o.op ≠ .defer c) (hx : ∀ w, (execOp a.eval o).run P w = (s.run P w).andThen fun x w' => .ok (.value x) w') (hg : GoodV P M w0 ρ h K s w) : OpGood P M w0 ρ h K o a w := by
  intro r next Q hn
  obtain ⟨sv, h', ρ', x, w', h1, h2, h3, h4, h5, h6⟩ := hg
  refine ⟨fun _ _ => trivial, ?_⟩
  rw [Oper.semAt_eq _ _ _ hnd, hx, h6]
  exact hn _ _ _ _ _ h1 h2 h3 h4 h5
theorem og_unit {o : Oper} {a : Act} {K : SV × SH → Prop} {s : Sem Unit} (hnd : ∀ c, o.op ≠ .defer c) (hx : ∀ w, (execOp a.eval o).run P w = (s.run P w).andThen fun _ w' => .ok .skip w') (hg : GoodU P M w0 ρ h K s w) : OpGood P M w0 ρ h K o a w := by
  intro r next Q hn
  obtain ⟨h', ρ', w', h1, h2, h3, h4, h6⟩ := hg
  refine ⟨fun _ _ => trivial, ?_⟩
  rw [Oper.semAt_eq _ _ _ hnd, hx, h6]
  exact hn _ _ _ _ _ h1 h2 h3 h4 trivial
theorem run_v (s : Sem Value) (w : World) : ((do pure (Next.value (← s))) : Sem Next).run P w = (s.run P w).andThen fun x w' => .ok (.value x) w' := by simp
theorem run_u (s : Sem Unit) (w : World) : ((do s; pure Next.skip) : Sem Next).run P w = (s.run P w).andThen fun _ w' => .ok .skip w' := by simp
theorem goodP_V {K : SV × SH → Prop} {t : Tr SV} {s : Sem Value} (hm : HM M w0 ρ h w) (hK : (t.bind fun s => (.ret (s, h) : Tr (SV × SH))).Holds K) (hp : ∀ K', t.Holds K' → GoodP P ρ h.nx K' s) : GoodV P M w0 ρ h K s w := by
  obtain ⟨sv, x, h1, h2, h3⟩ := hp _ (Tr.holds_bind hK)
  exact GoodV.same hm h1 h2 (h3 w)

theorem fits_map {n : Nat} {ev : Operand → SV} {ρe : Operand → Value} (he : ∀ x, (ev x).fit n ρ (ρe x)) : ∀ (l : List Operand), SV.fits n ρ (l.map ev) (l.map ρe)
  | [] => by simp [SV.fits]
  | x :: l => by simp only [List.map_cons, SV.fits]; exact ⟨he x, fits_map he l⟩

theorem buildSlice_ok {t : TypeId} {len : Nat} {parts : List (Nat × SV)} {vparts : List (Nat × Value)} (hm : HM M w0 ρ h w) (h1 : parts.map (·.1) = vparts.map (·.1)) (h2 : SV.fits h.nx ρ (parts.map (·.2)) (vparts.map (·.2))) {K : SV × SH → Prop}
    (hK : (buildSliceS P h t len parts).Holds K) : GoodV P M w0 ρ h K (Instr.buildSlice t len vparts.toArray) w := by
  unfold buildSliceS at hK
  split at hK
  · rename_i e hu
    split at hK
    · rename_i i hi
      split at hK
      · rename_i z hz
        obtain ⟨hc, hK1⟩ := bif_holds hK
        simp only [Bool.and_eq_true] at hc
        have c1 : 0 < len * i.size := by simpa [Nat.blt_eq] using hc.1
        have c2 := Nat.le_of_ble_eq_true hc.2
        split at hK1
        · rename_i cs hfl
          have hz0 : SV.fits h.nx ρ ((List.range (len * i.size)).map fun j => SV.k (z.cells[j % z.cells.size]!)) ((List.range (len * i.size)).map fun j => z.cells[j % z.cells.size]!) := by
            have := fits_k (n := h.nx) (ρ := ρ) ((List.range (len * i.size)).map fun j => z.cells[j % z.cells.size]!)
            rwa [List.map_map] at this
          obtain ⟨l', hl', hf'⟩ := fill_ok hfl hz0 h1 h2
          have hr := run_buildSlice (P := P) w t e len vparts.toArray l'.toArray i z hu hi hz (by omega) (by omega) (by
            have e1 : (Array.range (len * i.size)).map (z.cells[· % z.cells.size]!) = ((List.range (len * i.size)).map fun j => z.cells[j % z.cells.size]!).toArray := by
              apply Array.ext'; simp
            rw [e1]; exact hl')
          refine ⟨_, _, upd ρ h.nx ⟨w.heap.size, 0, 0, false⟩, _, _, hK1, Nat.le_succ _, agree_upd _ _ _, hm.push ⟨rfl, rfl, l', rfl, hf'⟩, ?_, hr⟩
          simp [SV.fit, SH.push, upd]
        · exact hK1.elim
      · exact hK.elim
    · exact hK.elim
  · exact hK.elim

theorem eqGuard_other (op : BinOp) (t : TypeId) (xo yo : Operand) {x y : Value} (h1 : ∀ c, x ≠ .agg c) (h2 : x ≠ .nilIface) (w : World) : (eqGuard op t xo yo x y).run P w = .ok () w := by
  unfold eqGuard
  cases op <;> simp <;> (split <;> simp_all)

theorem nilCmp_ok {t : TypeId} {a b : SV} {x y : Value} {r : Bool} {n : Nat} (ha : a.fit n ρ x) (hb : b.fit n ρ y) (hc : nilCmp P t a b = some r) (w : World) (op : BinOp) (xo yo : Operand) (d : Nat) :
    (eqGuard op t xo yo x y).run P w = .ok () w ∧ (Op.equalIn (d + 1) t x y).run P w = .ok r w ∧ binOp .eql t x y = (do pure (.bool (← Op.equal t x y))) ∧ binOp .neq t x y = (do pure (.bool (!(← Op.equal t x y)))) := by
  unfold nilCmp at hc
  split at hc
  · rename_i hu
    split at hc
    · obtain ⟨l, rfl, _⟩ := ha
      simp only [SV.fit] at hb
      subst hb
      simp only [Option.some.injEq] at hc
      subst hc
      exact ⟨eqGuard_other _ _ _ _ (by simp) (by simp) w, by simp [Op.equalIn, run_underlying hu], rfl, rfl⟩
    · simp only [SV.fit] at ha hb
      subst ha; subst hb
      simp only [Option.some.injEq] at hc
      subst hc
      exact ⟨eqGuard_other _ _ _ _ (by simp) (by simp) w, by simp [Op.equalIn, run_underlying hu], rfl, rfl⟩
    · cases hc
  · rename_i hu
    split at hc
    · simp only [SV.fit] at ha hb
      obtain ⟨_, rfl⟩ := ha
      subst hb
      simp only [Option.some.injEq] at hc
      subst hc
      exact ⟨eqGuard_other _ _ _ _ (by simp) (by simp) w, by simp [Op.equalIn, run_underlying hu], rfl, rfl⟩
    · simp only [SV.fit] at ha hb
      subst ha; subst hb
      simp only [Option.some.injEq] at hc
      subst hc
      exact ⟨eqGuard_other _ _ _ _ (by simp) (by simp) w, by simp [Op.equalIn, run_underlying hu], rfl, rfl⟩
    · cases hc
  · rename_i hu
    split at hc
    · simp only [SV.fit] at ha hb
      obtain ⟨_, rfl⟩ := ha
      subst hb
      simp only [Option.some.injEq] at hc
      subst hc
      exact ⟨eqGuard_other _ _ _ _ (by simp) (by simp) w, by simp [Op.equalIn, run_underlying hu], rfl, rfl⟩
    · simp only [SV.fit] at ha hb
      subst ha; subst hb
      simp only [Option.some.injEq] at hc
      subst hc
      exact ⟨eqGuard_other _ _ _ _ (by simp) (by simp) w, by simp [Op.equalIn, run_underlying hu], rfl, rfl⟩
    · cases hc
  · rename_i hu
    split at hc
    · simp only [SV.fit] at ha hb
      obtain ⟨_, rfl⟩ := ha
      subst hb
      simp only [Option.some.injEq] at hc
      subst hc
      exact ⟨eqGuard_other _ _ _ _ (by simp) (by simp) w, by simp [Op.equalIn, run_underlying hu], rfl, rfl⟩
    · simp only [SV.fit] at ha hb
      obtain ⟨_, rfl⟩ := ha
      subst hb
      simp only [Option.some.injEq] at hc
      subst hc
      exact ⟨eqGuard_other _ _ _ _ (by simp) (by simp) w, by simp [Op.equalIn, run_underlying hu], rfl, rfl⟩
    · simp only [SV.fit] at ha hb
      subst ha; subst hb
      simp only [Option.some.injEq] at hc
      subst hc
      exact ⟨eqGuard_other _ _ _ _ (by simp) (by simp) w, by simp [Op.equalIn, run_underlying hu], rfl, rfl⟩
    · simp only [SV.fit] at ha hb
      subst ha; subst hb
      simp only [Option.some.injEq] at hc
      subst hc
      exact ⟨eqGuard_other _ _ _ _ (by simp) (by simp) w, by simp [Op.equalIn, run_underlying hu], rfl, rfl⟩
    · cases hc
  · cases hc

theorem optFit_map {n : Nat} {ev : Operand → SV} {ρe : Operand → Value} (he : ∀ x, (ev x).fit n ρ (ρe x)) (o : Option Operand) : optFit n ρ (o.map ev) (o.map ρe) := by
  cases o with
  | none => trivial
  | some x => exact he x

theorem callFunc_ok {g : Nat} (hc : callable P g = true) (args : Array Value) (w : World) : (callFunc g args).run P w = .ok (.enter g args) w := by
  unfold callable at hc
  unfold callFunc
  simp only [Sem.run_bind, run_program, Result.andThen_ok]
  cases hf : P.funcs[g]? with
  | none => simp [hf] at hc
  | some fn =>
    simp only [hf, Bool.and_eq_true, Bool.not_eq_true'] at hc
    have hn : ¬ fn.body.isNone = true := by rw [Option.isNone_iff_eq_none]; intro e; rw [e] at hc; simp at hc
    have hnum : ¬ (fn.name == "runtime.NumGoroutine") = true := by rw [hc.2]; simp
    simp only [if_neg hnum, if_neg hn, Sem.run_pure]
end
end Go.Sx
