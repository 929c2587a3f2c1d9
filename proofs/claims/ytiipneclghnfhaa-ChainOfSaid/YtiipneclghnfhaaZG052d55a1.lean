/- The symbolic executor is sound. -/
import Derived.Test.YtiipneclghnfhaaZG04564d45
import Derived.LoopNIn
import Derived.RangeFuncRecord
set_option linter.unusedVariables false
set_option linter.unusedSimpArgs false
set_option linter.constructorNameAsVariable false
set_option linter.all false

namespace Go.Sx
open Go.RowKit

section
variable {P : Program} {M : Nat → Prop} {w0 w : World} {ρ : Rh}

def PostX (M : Nat → Prop) (w0 : World) (ρ : Rh) (nx : Nat) (K : Ex × St → Prop) : Exit → Act → World → Prop := fun x a w =>
  ∃ e σ' ρ', x = Ex.ex e ∧ K (e, σ') ∧ nx ≤ σ'.h.nx ∧ Agree nx ρ ρ' ∧ Mod M w0 ρ' σ' a w

theorem stepR_scope {b : Frame} {a : Act} {k : List Item} {cs : List Frame} {c : Code} : step P (lone (b.atR a (.code (.scope c) :: k)) cs w) = .next (lone (b.atR a (.code c :: .inScope c :: k)) cs w) :=
  step_lone_go (by simp [stepG, stepG.exec, Frame.atR])
theorem stepR_inScope {b : Frame} {a : Act} {k : List Item} {cs : List Frame} {c : Code} : step P (lone (b.atR a (.inScope c :: k)) cs w) = .next (lone (b.atR a k) cs w) :=
  step_lone_go (by simp [stepG, stepG.exec, Frame.atR])
/-- A scope that is gone through without a jump. -/
def noJump (Q : Exit → Act → World → Prop) : Exit → Act → World → Prop
  | .goto _, _, _ => False
  | e, a, w => Q e a w
theorem wpIn_scope {F : Fence} {n : Nat} {c : Code} {Q : Exit → Act → World → Prop} {a : Act} (h : c.wpIn F n P (noJump Q) a w) : (Code.scope c).wpIn F n P Q a w := by
  intro b k cs hro hb hr
  have h0 : (lone (b.atR a (.code (.scope c) :: k)) cs w).fenced P F := fenced_calm hb hr rfl
  obtain ⟨e, a₁, w₁, hq, harr⟩ := h b (.inScope c :: k) cs hro hb hr
  cases e with
  | normal => exact ⟨.normal, a₁, w₁, hq, .head h0 stepR_scope (StepsIn.trans harr (.one (fenced_calm hb hr rfl) stepR_inScope))⟩
  | exit id =>
    have hx : exitTo id (.inScope c :: k) = exitTo id k := by simp [exitTo]
    exact ⟨.exit id, a₁, w₁, hq, fun k' hk => .head h0 stepR_scope (harr.1 k' (by rw [hx]; exact hk)),
      fun hr' hk => let ⟨k₁, h1, h2⟩ := harr.2 hr' (by rw [hx]; exact hk); ⟨k₁, h1, .head h0 stepR_scope h2⟩⟩
  | goto l => exact hq.elim
  | ret => exact ⟨_, a₁, w₁, hq, .of_steps (.one h0 stepR_scope) harr⟩
  | panic ch => exact ⟨_, a₁, w₁, hq, .of_steps (.one h0 stepR_scope) harr⟩
  | outgrown => exact ⟨_, a₁, w₁, hq, .of_steps (.one h0 stepR_scope) harr⟩

theorem know_ok {σ : St} {a : Act} {d : Nat} {b : Bool} (hm : Mod M w0 ρ σ a w) (hs : σ.slot d = .v (.bool b)) : Mod M w0 ρ (σ.know d b) a w := by
  refine ⟨⟨hm.tm.1, fun i hi => ?_⟩, hm.df, hm.dl, hm.hp⟩
  have h := hm.tm.2 i hi
  rw [St.look_lg] at h
  rw [show (σ.know d b).lg = (d, SV.k (.bool b)) :: σ.lg from rfl, look_cons, St.look_lg]
  by_cases hid : i = d
  · subst hid
    rw [if_pos rfl]
    have : σ.slot i = .v (.bool b) := hs
    rw [this] at h
    exact h
  · rw [if_neg hid]; exact h

theorem guard_ok {ops : Array Oper} {σ : St} {o : Oper} {a : Act} {go : Bool → St → Tr St} {K : St → Prop} (hm : Mod M w0 ρ σ a w) (hK : (guardS ops σ o go).Holds K) :
    ∃ σ', Mod M w0 ρ σ' a w ∧ σ'.h = σ.h ∧ (go (Region.wanted o (yielded ops a.tmps)) σ').Holds K := by
  unfold guardS at hK
  unfold Region.wanted
  cases hg : o.guard with
  | none => rw [hg] at hK; exact ⟨σ, hm, rfl, hK⟩
  | some jw =>
    obtain ⟨j, want⟩ := jw
    rw [hg] at hK
    simp only at hK ⊢
    unfold yielded
    cases hd : (ops[j]?).bind (·.dst) with
    | none => rw [hd] at hK; exact ⟨σ, hm, rfl, by simpa using hK⟩
    | some d =>
      rw [hd] at hK
      simp only at hK
      obtain ⟨hlt, hK1⟩ := (by
        cases hb : Nat.blt d σ.n with
        | true => rw [hb] at hK; exact ⟨by simpa [Nat.blt_eq] using hb, hK⟩
        | false => rw [hb] at hK; exact hK.elim : d < σ.n ∧ _)
      simp only [cond_true] at hK1
      have hsz := hm.tm.1
      have hget : a.tmps[d]? = some (a.tmps.getD d undef) := by
        rw [Array.getD_eq_getD_getElem?, getElem?_pos a.tmps d (hsz ▸ hlt)]
        rfl
      have hfit := hm.tm.2 d hlt
      rw [St.look_lg] at hfit
      simp only [Option.bind_some, hget]
      cases hs : σ.slot d with
      | k x =>
        have hx : a.tmps.getD d undef = x := by
          have : σ.slot d = .k x := hs
          rw [this] at hfit; exact hfit
        rw [hs] at hK1
        rw [hx]
        cases x with
        | bool b => exact ⟨σ, hm, rfl, by simpa using hK1⟩
        | tuple _ => exact ⟨σ, hm, rfl, by simpa using hK1⟩
        | _ => exact hK1.elim
      | v x =>
        have hx : a.tmps.getD d undef = x := by
          have : σ.slot d = .v x := hs
          rw [this] at hfit; exact hfit
        rw [hs] at hK1
        rw [hx]
        cases x with
        | bool b =>
          cases b with
          | true => exact ⟨σ.know d true, know_ok hm hs, rfl, by simpa using hK1.1 rfl⟩
          | false => exact ⟨σ.know d false, know_ok hm hs, rfl, by simpa using hK1.2 rfl⟩
        | _ => exact hK1.elim
      | _ => rw [hs] at hK1; exact hK1.elim

theorem each_true {α : Type} (t : Tr α) : t.Each fun _ => True := by
  induction t with
  | ret x => trivial
  | br c a b iha ihb => exact ⟨iha, ihb⟩
  | ask q a ih => exact ih
  | giv q a ih => exact ih
  | all k ih => exact fun n => ih n
  | bad _ => trivial
theorem guardM_ok {ops : Array Oper} {σ : St} {o : Oper} {a : Act} {go : Bool → St → Tr St} {K : St → Prop} (hgo : ∀ g (σ' : St) B HB, σ'.On B HB → (go g σ').Each (St.On B HB)) (hm : Mod M w0 ρ σ a w) (hK : (guardM ops σ o go).Holds K) :
    ∃ σ' K', Mod M w0 ρ σ' a w ∧ σ'.h.nx = σ.h.nx ∧ (go (Region.wanted o (yielded ops a.tmps)) σ').Holds K' ∧
      (∀ x w0 w ρ a, K' x → Mod M w0 ρ x a w → ∃ y, K y ∧ x.h.nx ≤ y.h.nx ∧ Mod M w0 ρ y a w) := by
  have same : ∀ g, (go g σ).Holds K → ∃ σ' K', Mod M w0 ρ σ' a w ∧ σ'.h.nx = σ.h.nx ∧ (go g σ').Holds K' ∧ (∀ x w0 w ρ a, K' x → Mod M w0 ρ x a w → ∃ y, K y ∧ x.h.nx ≤ y.h.nx ∧ Mod M w0 ρ y a w) := fun g h =>
    ⟨σ, K, hm, rfl, h, fun x _ _ _ _ hk hm => ⟨x, hk, Nat.le_refl _, hm⟩⟩
  unfold guardM at hK
  unfold Region.wanted
  cases hg : o.guard with
  | none => rw [hg] at hK; exact same _ hK
  | some jw =>
    obtain ⟨j, want⟩ := jw
    rw [hg] at hK
    simp only at hK ⊢
    unfold yielded
    cases hd : (ops[j]?).bind (·.dst) with
    | none => rw [hd] at hK; exact same _ (by simpa using hK)
    | some d =>
      rw [hd] at hK
      simp only at hK
      obtain ⟨hlt, hK1⟩ := (by
        cases hb : Nat.blt d σ.n with
        | true => rw [hb] at hK; exact ⟨by simpa [Nat.blt_eq] using hb, hK⟩
        | false => rw [hb] at hK; exact hK.elim : d < σ.n ∧ _)
      simp only [cond_true] at hK1
      have hsz := hm.tm.1
      have hget : a.tmps[d]? = some (a.tmps.getD d undef) := by
        rw [Array.getD_eq_getD_getElem?, getElem?_pos a.tmps d (hsz ▸ hlt)]
        rfl
      have hfit := hm.tm.2 d hlt
      rw [St.look_lg] at hfit
      simp only [Option.bind_some, hget]
      cases hs : σ.slot d with
      | k x =>
        have hx : a.tmps.getD d undef = x := by
          rw [hs] at hfit; exact hfit
        rw [hs] at hK1
        rw [hx]
        cases x with
        | bool b => exact same _ (by simpa using hK1)
        | tuple _ => exact same _ (by simpa using hK1)
        | _ => exact hK1.elim
      | v x =>
        have hx : a.tmps.getD d undef = x := by
          rw [hs] at hfit; exact hfit
        rw [hs] at hK1
        rw [hx]
        cases x with
        | bool b =>
          have hk2 := Tr.holds_map hK1
          have hon : ∀ g, (go g (σ.base.know d g)).Each (St.On (σ.t ++ σ.b) (σ.h.l ++ σ.h.b)) := fun g => hgo _ _ _ _ ⟨rfl, rfl⟩
          have hon' : ∀ g v, (go g (σ.base.know d v)).Each (St.On (σ.t ++ σ.b) (σ.h.l ++ σ.h.b)) := fun g v => hgo _ _ _ _ ⟨rfl, rfl⟩
          obtain ⟨h1, h2⟩ := mergeX_holds (joinSt_ok _ _ _ _) (hon' _ true) (hon' _ false) hk2
          have hbs : σ.base.slot d = .v (.bool b) := by
            have : σ.base.slot d = σ.slot d := look_append _ _ _ _
            rw [this, hs]
          have fin : ∀ x w0 w ρ a, ((∃ j, Wk x j ∧ K (σ.pop j)) ∧ x.On (σ.t ++ σ.b) (σ.h.l ++ σ.h.b)) → Mod M w0 ρ x a w → ∃ y, K y ∧ x.h.nx ≤ y.h.nx ∧ Mod M w0 ρ y a w := by
            rintro x w0 w ρ a ⟨⟨j, hw, hk⟩, hx⟩ hm
            refine ⟨σ.pop j, hk, hw.nx, (hw.mod _ _ _ _ _ hm).pop ?_⟩
            have := hw.on
            rwa [hx.1, hx.2] at this
          cases b with
          | true => exact ⟨_, _, know_ok hm.base hbs, rfl, Tr.each_holds (hon' _ _) (by simpa using h1 rfl), fin⟩
          | false => exact ⟨_, _, know_ok hm.base hbs, rfl, Tr.each_holds (hon' _ _) (by simpa using h2 rfl), fin⟩
        | _ => exact hK1.elim
      | _ => rw [hs] at hK1; exact hK1.elim

theorem ops_ok {run yld : Nat → Con} (hrun : ∀ f, FnOk P f (run f)) (hyld : YldOk P yld) (hrb : ∀ f, ConB (run f)) (hyb : ∀ l, ConB (yld l)) {ops : Array Oper} {r : Option Nat} {Q : Exit → Act → World → Prop} : ∀ (l : List Oper) (k : Nat) (ρ : Rh) (σ : St) (a : Act) (w : World) (K : St → Prop),
    (∀ j, l[j]? = ops[k + j]?) → (opsRun P run yld ops l σ).Holds K → Mod M w0 ρ σ a w → (∀ σ' ρ' a' w', K σ' → σ.h.nx ≤ σ'.h.nx → Agree σ.h.nx ρ ρ' → Mod M w0 ρ' σ' a' w' → Q .normal a' w') →
    wpOpsIn (Fw r) 0 P ops Q (List.range' k l.length) a w
  | [], k, ρ, σ, a, w, K, _, hK, hm, hQ => by
    simp only [List.length_nil, List.range'_zero, wpOpsIn]
    exact hQ σ ρ a w hK (Nat.le_refl _) (Agree.refl _ _) hm
  | o :: l, k, ρ, σ, a, w, K, hl, hK, hm, hQ => by
    have ho : ops[k]? = some o := by simpa using (hl 0).symm
    have hl' : ∀ j, l[j]? = ops[k + 1 + j]? := fun j => by have := hl (j + 1); simpa [Nat.add_assoc, Nat.add_comm 1 j] using this
    simp only [List.length_cons, List.range'_succ, wpOpsIn, ho]
    have hgo : ∀ (g : Bool) (σ' : St) B HB, σ'.On B HB → (match g with
        | true => (opS P run yld σ'.ev σ'.h o.op).bind fun x => opsRun P run yld ops l (σ'.put o.dst x.1 x.2)
        | false => opsRun P run yld ops l (σ'.put o.dst (.k undef) σ'.h) : Tr St).Each (St.On B HB) := fun g σ' B HB hon => by
      cases g with
      | true =>
        refine Tr.each_bind' (p := fun y => y.2.b = σ'.h.b) (fun x hx => ?_) (each_opb hrb hyb)
        refine opsRun_on hrb hyb l _ B HB ?_
        have := put_on (d := o.dst) (s := x.1) hx
        rwa [hon.1, hon.2] at this
      | false =>
        refine opsRun_on hrb hyb l _ B HB ?_
        have := put_on (σ := σ') (d := o.dst) (s := .k undef) (h' := σ'.h) rfl
        rwa [hon.1, hon.2] at this
    obtain ⟨σ1, K', hm1, hh1, hK1, hfin⟩ := guardM_ok hgo hm hK
    have hQ' : ∀ σ' ρ' a' w', K' σ' → σ.h.nx ≤ σ'.h.nx → Agree σ.h.nx ρ ρ' → Mod M w0 ρ' σ' a' w' → Q .normal a' w' := fun σ' ρ' a' w' h1 h2 h3 h4 => by
      obtain ⟨y, hy, hny, hmy⟩ := hfin σ' w0 w' ρ' a' h1 h4
      exact hQ y ρ' a' w' hy (Nat.le_trans h2 hny) h3 hmy
    cases hw : Region.wanted o (yielded ops a.tmps) with
    | true =>
      rw [hw] at hK1
      simp only at hK1
      rw [if_pos rfl]
      have hg := op_ok (P := P) hrun hyld (o := o) (a := a) hm1.hp hm1.ev (Tr.holds_bind hK1)
      refine hg r _ _ fun s h' ρ' x w' h1 h2 h3 h4 h5 => ?_
      have hm2 := hm1.put h2 h3 h4 h5 o.dst
      have hnx : (σ1.put o.dst s h').h = h' := by cases o.dst <;> rfl
      refine ops_ok hrun hyld hrb hyb l (k + 1) ρ' _ _ w' K' hl' h1 hm2 fun σ' ρ'' a' w'' q1 q2 q3 q4 => ?_
      rw [hnx] at q2 q3
      rw [hh1] at h2 h3
      exact hQ' σ' ρ'' a' w'' q1 (Nat.le_trans h2 q2) (h3.trans h2 q3) q4
    | false =>
      rw [hw] at hK1
      simp only at hK1
      rw [if_neg (by simp)]
      refine ⟨fun _ _ => trivial, ?_⟩
      have hm2 := hm1.put (Nat.le_refl _) (Agree.refl _ _) hm1.hp (s := .k undef) (x := undef) rfl o.dst
      have hnx : (σ1.put o.dst (.k undef) σ1.h).h.nx = σ1.h.nx := by cases o.dst <;> rfl
      refine ops_ok hrun hyld hrb hyb l (k + 1) ρ _ _ w K' hl' hK1 hm2 fun σ' ρ'' a' w'' q1 q2 q3 q4 => ?_
      rw [hnx, hh1] at q2 q3
      exact hQ' σ' ρ'' a' w'' q1 q2 q3 q4

/-! ### results -/
theorem asAddr_p (b o : Nat) : (asAddr (.pointer (some ⟨b, o, none⟩))).run P w = .ok ⟨b, o, none⟩ w := by simp [asAddr]
theorem loadVar_of_loadAt {t : TypeId} {x : Value} {y : Value} {w' : World} (h : (Instr.loadAt t x).run P w = .ok y w') : ∃ a, x = .pointer (some a) ∧ (loadVar t a).run P w = .ok y w' := by
  unfold Instr.loadAt Instr.sureAddr at h
  cases x with
  | pointer a => cases a with
    | some a => exact ⟨a, rfl, by simpa using h⟩
    | none => simp at h
  | _ => simp at h
def resV (tmps : Array Value) : ResultVar → Sem Value
  | .tmp t => pure (tmps.getD t undef)
  | .cell a t => do loadVar t (← asAddr (tmps.getD a undef))
theorem results_eq (fn : Func) (tmps : Array Value) : results fn tmps = (do let vs ← fn.results.mapM (resV tmps); pure (if h : vs.size = 1 then vs[0] else .tuple vs)) := by
  unfold results
  congr 1

theorem resOne_ok {σ : St} {a : Act} (hm : Mod M w0 ρ σ a w) {r : ResultVar} {K : SV → Prop} (hK : (resOne P σ r).Holds K) : ∃ s x, K s ∧ s.fit σ.h.nx ρ x ∧ (resV a.tmps r).run P w = .ok x w := by
  cases r with
  | tmp t => exact ⟨_, _, hK, hm.ev (.tmp t), by simp [resV, Act.eval]⟩
  | cell ad t =>
    simp only [resOne] at hK
    obtain ⟨sv, x, h1, h2, h3⟩ := read_ok hm.hp (hm.ev (.tmp ad)) (Tr.holds_bind hK)
    obtain ⟨b, hb, hl⟩ := loadVar_of_loadAt h3
    refine ⟨sv, x, h1, h2, ?_⟩
    have : a.tmps.getD ad undef = .pointer (some b) := hb
    simp only [resV, this, Sem.run_bind]
    simp [asAddr, hl]
theorem resAll_ok {σ : St} {a : Act} (hm : Mod M w0 ρ σ a w) : ∀ {rs : List ResultVar} {K : List SV → Prop}, (resAll P σ rs).Holds K → ∃ ss xs, K ss ∧ SV.fits σ.h.nx ρ ss xs ∧ (rs.mapM (resV a.tmps)).run P w = .ok xs w
  | [], K, hK => ⟨[], [], hK, by simp [SV.fits], by simp⟩
  | r :: rs, K, hK => by
    simp only [resAll] at hK
    obtain ⟨s, x, h1, h2, h3⟩ := resOne_ok (P := P) hm (Tr.holds_bind hK)
    obtain ⟨ss, xs, k1, k2, k3⟩ := resAll_ok hm (Tr.holds_bind h1)
    refine ⟨s :: ss, x :: xs, k1, by simp only [SV.fits]; exact ⟨h2, k2⟩, ?_⟩
    simp [List.mapM_cons, h3, k3]
theorem resS_ok {σ : St} {a : Act} (hm : Mod M w0 ρ σ a w) {fn : Func} {K : SV × SH → Prop} (hK : (resS P fn σ).Holds K) : ∃ s x, K (s, σ.h) ∧ s.fit σ.h.nx ρ x ∧ (results fn a.tmps).run P w = .ok x w := by
  unfold resS at hK
  obtain ⟨ss, xs, h1, h2, h3⟩ := resAll_ok (P := P) hm (Tr.holds_bind hK)
  have hmap : (fn.results.mapM (resV a.tmps)).run P w = .ok xs.toArray w := by
    rw [Array.mapM_eq_mapM_toList]
    simp [h3]
  rw [results_eq]
  simp only [Sem.run_bind, hmap, Result.andThen_ok, Sem.run_pure]
  have hlen := fits_length h2
  split at h1
  · rename_i s
    obtain ⟨x, r, rfl, hx, hr⟩ := fits_cons h2
    have := fits_nil hr
    subst this
    exact ⟨s, x, h1, hx, by simp⟩
  · rename_i hne
    refine ⟨.tup ss, .tuple xs.toArray, h1, ⟨xs, rfl, h2⟩, ?_⟩
    rw [dif_neg]
    intro h
    cases ss with
    | nil => simp at h; rw [h] at hlen; simp at hlen
    | cons s r => cases r with
      | nil => exact hne s rfl
      | cons _ _ => simp at h; rw [h] at hlen; simp at hlen

/-! ### marks -/
theorem setObj_other {h : SH} {i : Nat} {o o' : Obj} (hm : HM M w0 ρ h w) (hg : h.get i = .obj o) : HM M w0 ρ (h.set i (.obj o')) (w.putObj (ρ i).blk o') := by
  have hf := hm.ob i
  rw [hg] at hf
  have hown : (h.get i).own (ρ i) := by rw [hg]; trivial
  exact hm.setOwn hown trivial rfl rfl rfl (by simp [World.putObj]) (fun j hj => World.putObj_heap_other hj) (World.putObj_heap_same (Array.getElem?_eq_some_iff.1 hf.2.2).1) ⟨hf.1, hf.2.1, rfl⟩

theorem run_getObj {r : Nat} {o : Obj} (h : w.heap[r]? = some o) (hc : ∀ a b c, o ≠ .cells a b c) : (getObj r).run P w = .ok o w := by
  unfold getObj Sem.run
  rw [h]
  cases o <;> first | rfl | exact absurd rfl (hc _ _ _)
theorem run_setObj {r : Nat} {o o' : Obj} (h : w.heap[r]? = some o) (hc : ∀ a b c, o ≠ .cells a b c) : (setObj r o').run P w = .ok () (w.putObj r o') := by
  simp only [setObj, Sem.run, h]
  cases o <;> first | rfl | exact absurd rfl (hc _ _ _)

theorem marks_ok {fn : Func} {R : Ending → World → Prop} {tmps : Array Value} : ∀ (ds : List Deferred) (d s : List Nat) (ρ : Rh) (h h' : SH) (w : World), Mix ρ d s ds → s.Nodup → (∀ b ∈ s, Sf1 M w0 ρ b) → endMarks d h = some h' → HM M w0 ρ h w → h'.nx = h.nx ∧
    ((∀ ρ' w', ρ'.lc = ρ.lc → ρ'.lo = ρ.lo → (∀ b o, ρ.mem b = some o → b ∉ s → ρ'.mem b = some o) → HM M w0 ρ' h' w' → ∃ v, (results fn tmps).run P w' = .ok v w' ∧ R (.returned v) w') → LeavesInM Fence.wide 0 P fn tmps R ds .returning w)
  | [], d, s, ρ, h, h', w, hx, _, _, he, hm => by
    cases hx
    simp only [endMarks, Option.some.injEq] at he
    subst he
    exact ⟨rfl, fun hr => hr ρ w rfl rfl (fun _ _ h _ => h) hm⟩
  | x :: ds, d, s, ρ, h, h', w, hx, hnd, hs, he, hm => by
    cases hx with
    | @id d _ _ i hx =>
      simp only [endMarks] at he
      split at he
      · rename_i hg
        have hm1 := setObj_other (o' := .deferred none) hm hg
        obtain ⟨h1, h2⟩ := marks_ok ds d s ρ _ h' _ hx hnd hs he hm1
        refine ⟨h1, fun hr => ⟨by simp, .inl ⟨(ρ i).blk, w.putObj (ρ i).blk (.deferred none), rfl, ?_, h2 hr⟩⟩⟩
        have hf := hm.ob i
        rw [hg] at hf
        simp [Instr.takeDeferred, run_getObj hf.2.2 (by simp), run_setObj hf.2.2 (by simp)]
      · cases he
    | @sf _ s _ b hx =>
      obtain ⟨k1, k2, k3⟩ := hs b (List.mem_cons_self ..)
      have hob := hm.fz _ _ k1
      have hm1 := hm.unfrz (w' := w.putObj b (.deferred none)) k1 (by simp [dataO]) k2 rfl rfl rfl (by simp [World.putObj]) (fun j hj => World.putObj_heap_other hj)
      have hnb := List.nodup_cons.1 hnd
      obtain ⟨h1, h2⟩ := marks_ok ds d s ⟨ρ.lc, memOut ρ.mem b, ρ.lo⟩ h h' _ (hx.lc fun _ _ => rfl) hnb.2 (fun c hc => by
        obtain ⟨q1, q2, q3⟩ := hs c (List.mem_cons_of_mem _ hc)
        exact ⟨by show memOut ρ.mem b c = _; simp only [memOut]; rw [if_neg (by rintro rfl; exact hnb.1 hc)]; exact q1, q2, q3⟩) he hm1
      refine ⟨h1, fun hr => ⟨by simp, .inl ⟨b, w.putObj b (.deferred none), rfl, ?_, h2 fun ρ' w' e1 e2 e3 hm' => hr ρ' w' e1 e2 (fun c o hc hcs => e3 c o ?_ fun h => hcs (List.mem_cons_of_mem _ h)) hm'⟩⟩⟩
      · simp [Instr.takeDeferred, run_getObj hob (by simp), run_setObj hob (by simp)]
      · show memOut ρ.mem b c = _
        simp only [memOut]
        rw [if_neg (by rintro rfl; exact hcs (List.mem_cons_self ..))]
        exact hc

/-! ### functions -/
theorem argLog_look : ∀ (args : List SV) (k i : Nat), look (.k undef) i (argLog k args) = if k ≤ i ∧ i < k + args.length then args.getD (i - k) (.k undef) else .k undef
  | [], k, i => by simp [argLog, look]
  | a :: r, k, i => by
    simp only [argLog, look_cons, List.length_cons]
    by_cases hik : i = k
    · subst hik; simp
    · rw [if_neg hik, argLog_look r (k + 1) i]
      by_cases hc : k ≤ i ∧ i < k + (r.length + 1)
      · rw [if_pos (by omega), if_pos hc]
        have : i - k = (i - (k + 1)) + 1 := by omega
        rw [this]
        simp
      · rw [if_neg (by omega), if_neg hc]
theorem args_slots {n k : Nat} {args : List SV} {vs : List Value} (hf : SV.fits n ρ args vs) (hle : args.length ≤ k) : Slots n ρ k (argLog 0 args) (vs.toArray ++ Array.replicate (k - vs.toArray.size) undef) := by
  have hl := fits_length hf
  refine ⟨by simp; omega, fun i hi => ?_⟩
  rw [argLog_look]
  simp only [Array.getD_eq_getD_getElem?]
  by_cases hia : i < args.length
  · rw [if_pos (by omega)]
    have hs : args[i]? = some (args.getD i (.k undef)) := by
      rw [List.getElem?_eq_getElem hia, List.getD_eq_getElem?_getD, List.getElem?_eq_getElem hia]; rfl
    obtain ⟨x, hx, hfx⟩ := fits_get hf hs
    rw [Array.getElem?_append_left (by simp; omega)]
    simp only [List.getElem?_toArray, hx, Option.getD_some, Nat.sub_zero]
    exact hfx
  · rw [if_neg (by omega), Array.getElem?_append_right (by simp; omega)]
    simp only [SV.fit]
    rw [Array.getElem?_replicate]
    split <;> rfl

theorem bind_cases {α β : Type} {K : β → Prop} {t : Tr α} {f : α → Tr β} (h : (t.bind f).Holds K) : t.Holds fun x => (f x).Holds K := Tr.holds_bind h

theorem fnRun_ok {f : Nat} {ex : Code → St → Tr (Ex × St)}
    (hex : ∀ (M : Nat → Prop) (w0 w : World) (ρ : Rh) (fn : Func) (c : Code) (σ : St) (a : Act) (K : Ex × St → Prop), P.funcs[f]? = some fn → fn.body = some c → (ex c σ).Holds K → Mod M w0 ρ σ a w → c.wpIn Fence.wide 0 P (PostX M w0 ρ σ.h.nx K) a w) :
    FnOk P f (fnRun P ex f) := by
  intro M w0 w ρ h args vs K hK hm hfits
  unfold fnRun at hK
  split at hK
  · rename_i fn hfn
    split at hK
    · rename_i c hc
      obtain ⟨hle, hK1⟩ := bif_holds hK
      have hle' := Nat.le_of_ble_eq_true hle
      have hK2 := Tr.holds_bind hK1
      refine (callsIn_wide (n := 0)).1 (callsIn_of_wp_marks hfn hc trivial ?_)
      let ρ1 : Rh := ⟨ρ.lc, ρ.mem, ⟨ρ.lo.old, ρ.mem⟩⟩
      have hfits1 : SV.fits h.nx ρ1 args vs := SV.fits_mono0 (ρ := ρ) (ρ' := ρ1) (Nat.le_refl _) ⟨fun _ _ => rfl, fun _ _ hb _ => hb⟩ _ _ hfits
      have hm1 : HM M w0 ρ1 h w := hm.relo rfl
      have hmod : Mod M w0 ρ1 ⟨fn.ntmps, argLog 0 args, h, [], []⟩ { tmps := vs.toArray ++ Array.replicate (fn.ntmps - vs.toArray.size) undef, defers := [] } w :=
        ⟨by simpa [St.lg] using args_slots hfits1 hle', Dfs.nil fun _ _ hb => hb, by simp, hm1⟩
      refine wpIn_mono (hex M w0 w ρ1 fn c _ _ _ hfn hc hK2 hmod) ?_
      rintro x a' w' ⟨e, σ', ρ', rfl, hk, hn, ha, hm'⟩
      have fin : (match endMarks σ'.d σ'.h with
            | some h' => resS P fn ⟨σ'.n, σ'.t, h', [], σ'.b⟩
            | none => .bad 510 : Tr (SV × SH)).Holds K → LeavesInM Fence.wide 0 P fn a'.tmps (FnGood M w0 ρ h K) a'.defers .returning w' := by
        intro hk
        split at hk
        · rename_i h' he
          obtain ⟨s0, hmix, hnd, hsf⟩ := hm'.df.mix
          obtain ⟨hnx, hleave⟩ := marks_ok (P := P) (fn := fn) (R := FnGood M w0 ρ h K) (tmps := a'.tmps) _ σ'.d s0 ρ' σ'.h h' w' hmix hnd hsf he hm'.hp
          refine hleave fun ρ2 w'' e1 e2 e3 hm'' => ?_
          have hag2 : Agr σ'.h.nx ρ' ρ2 := ⟨fun i _ => by rw [e1], fun b o hb hd => e3 b o hb fun hbs => by
            have := (hsf b hbs).1
            rw [this] at hb; cases hb; exact hd⟩
          have hm0 : ∀ b o, ρ2.lo.m0 b = some o → ρ2.mem b = some o := fun b o hb => by
            rw [e2] at hb
            refine e3 b o (hm'.df.m0 b o hb) fun hbs => ?_
            rw [(hsf b hbs).2.2] at hb; cases hb
          have hm3 : Mod M w0 ρ2 ⟨σ'.n, σ'.t, h', [], σ'.b⟩ { tmps := a'.tmps, defers := [] } w'' := ⟨by have := hm'.tm.mono0 (Nat.le_refl _) hag2; rw [hnx]; exact this, Dfs.nil hm0, by simp, hm''⟩
          obtain ⟨s, x, h1, h2, h3⟩ := resS_ok (P := P) hm3 hk
          have hlo : ρ2.lo = ⟨ρ.lo.old, ρ.mem⟩ := e2.trans ha.2.2
          have hm4 : HM M w0 ⟨ρ2.lc, ρ2.mem, ρ.lo⟩ h' w'' := hm''.relo (by rw [hlo])
          refine ⟨x, h3, s, h', ⟨ρ2.lc, ρ2.mem, ρ.lo⟩, x, h1, by rw [hnx]; exact hn, ⟨fun i hi => ?_, fun b o hb => ?_, rfl⟩, hm4, SV.fit_mono0 (ρ := ρ2) (ρ' := ⟨ρ2.lc, ρ2.mem, ρ.lo⟩) (n := h'.nx) (Nat.le_refl _) ⟨fun _ _ => rfl, fun _ _ hb _ => hb⟩ _ _ h2, rfl⟩
          · show ρ2.lc i = ρ.lc i
            rw [e1]; exact ha.1 i hi
          · refine hm0 b o ?_
            rw [hlo]; exact hb
        · exact hk.elim
      cases e with
      | normal => exact fin hk
      | ret => exact fin hk
      | exit id => exact hk.elim
      | goto l => exact hk.elim
    · exact hK.elim
  · exact hK.elim

/-! ### rounds of a range over a function -/
theorem yldSlots_ok {n : Nat} {k : Nat} : ∀ (ps : List Nat) (as : List SV) (vs : List Value) (t : List (Nat × SV)) (tm : Array Value), SV.fits n ρ as vs → Slots n ρ k t tm →
    Slots n ρ k (yldSlots ps as t) ((ps.zip vs).foldl (fun tm x => tm.setIfInBounds x.1 x.2) tm)
  | [], as, vs, t, tm, _, hs => by simp [yldSlots]; exact hs
  | p :: ps, [], vs, t, tm, hf, hs => by
    have := fits_nil hf
    subst this
    simp [yldSlots]; exact hs
  | p :: ps, a :: as, vs, t, tm, hf, hs => by
    obtain ⟨x, r, rfl, hx, hr⟩ := fits_cons hf
    simp only [yldSlots, List.zip_cons_cons, List.foldl_cons]
    exact yldSlots_ok ps as r _ _ hr (slots_put hs hx p)

theorem loop_get {h : SH} {l : Nat} (hm : HM M w0 ρ h w) {st : LoopState} {pd : Option Code} {n : Nat} {t : List (Nat × SV)} {ps : Array Tmp} {asg body : Code} {df : Nat} (hg : h.get l = .loop st pd n t ps asg body df) :
    (ρ l).nl = false ∧ df < h.nx ∧ ∃ f tm, w.heap[(ρ l).blk]? = some (.loop ⟨st, pd, f, tm, ps, asg, body, (ρ df).blk⟩) ∧ Slots h.nx ρ n t tm := by
  have hf := hm.ob l
  rw [hg] at hf
  exact hf
theorem loop_set {h : SH} {l : Nat} (hm : HM M w0 ρ h w) {st st' : LoopState} {pd pd' : Option Code} {n : Nat} {t : List (Nat × SV)} {ps : Array Tmp} {asg body : Code} {df : Nat} (hg : h.get l = .loop st pd n t ps asg body df)
    {f : Nat} {tm : Array Value} (hob : w.heap[(ρ l).blk]? = some (.loop ⟨st, pd, f, tm, ps, asg, body, (ρ df).blk⟩)) (hs : Slots h.nx ρ n t tm) :
    HM M w0 ρ (h.set l (.loop st' pd' n t ps asg body df)) (w.putObj (ρ l).blk (.loop ⟨st', pd', f, tm, ps, asg, body, (ρ df).blk⟩)) := by
  obtain ⟨hnl, hdf, _⟩ := loop_get hm hg
  have hown : (h.get l).own (ρ l) := by rw [hg]; trivial
  exact hm.setOwn hown trivial rfl rfl rfl (by simp [World.putObj]) (fun j hj => World.putObj_heap_other hj) (World.putObj_heap_same (Array.getElem?_eq_some_iff.1 hob).1) ⟨hnl, hdf, f, tm, rfl, hs⟩

theorem loop_setLp {h : SH} {l : Nat} (hm : HM M w0 ρ h w) {st st' : LoopState} {pd pd' : Option Code} {n : Nat} {t : List (Nat × SV)} {ps : Array Tmp} {asg body : Code} {df : Nat} (hg : h.get l = .loop st pd n t ps asg body df)
    {f : Nat} {tm : Array Value} (hob : w.heap[(ρ l).blk]? = some (.loop ⟨st, pd, f, tm, ps, asg, body, (ρ df).blk⟩)) (hs : Slots h.nx ρ n t tm) :
    HM M w0 ρ (h.setLp l st' pd') (w.putObj (ρ l).blk (.loop ⟨st', pd', f, tm, ps, asg, body, (ρ df).blk⟩)) :=
  (loop_set (st' := st') (pd' := pd') hm hg hob hs).same rfl fun j => by
    rw [SH.get_set]
    show lookE (lookE .dead j h.b) j ((l, .lp st' pd') :: h.l) = _
    rw [lookE_cons]
    by_cases hjl : j = l
    · subst hjl
      rw [if_pos rfl, if_pos rfl]
      have : lookE (lookE .dead j h.b) j h.l = .loop st pd n t ps asg body df := hg
      rw [this]; rfl
    · rw [if_neg hjl, if_neg hjl]; rfl

theorem run_endRound {r : Nat} {o : Loop} (h : w.heap[r]? = some (.loop o)) (j : Option Code) :
    (Instr.endRound r j).run P w = .ok (.bool j.isNone) (w.putObj r (.loop { o with state := if j.isNone then .ready else .done, pending := j })) := by
  simp [Instr.endRound, Instr.getLoop, run_getObj h (by simp), run_setObj h (by simp)]

theorem yldRun_ok {ex : Nat → Code → St → Tr (Ex × St)}
    (hex : ∀ (l : Nat) (c : Code) (M : Nat → Prop) (w0 w : World) (ρ : Rh) (σ : St) (a : Act) (K : Ex × St → Prop), l < σ.h.nx → (ex l c σ).Holds K → Mod M w0 ρ σ a w → c.wpIn (Fw (some (ρ l).blk)) 0 P (PostX M w0 ρ σ.h.nx K) a w) :
    YldOk P (yldRun ex) := by
  intro M w0 w ρ h l args vs K r hK hm hfits hl
  unfold yldRun at hK
  split at hK
  · rename_i pd n t ps asg body df hg
    obtain ⟨hlen, hK1⟩ := bif_holds hK
    have hlen' := beq_of hlen
    have hK2 := Tr.holds_bind hK1
    obtain ⟨hnl, hdf, f, tm, hob, hslots0⟩ := loop_get hm hg
    have hvl := fits_length hfits
    let ρ1 : Rh := ⟨ρ.lc, ρ.mem, ⟨ρ.lo.old, ρ.mem⟩⟩
    have hag0 : Agr h.nx ρ ρ1 := ⟨fun _ _ => rfl, fun _ _ hb _ => hb⟩
    have hfits1 : SV.fits h.nx ρ1 args vs := SV.fits_mono0 (Nat.le_refl _) hag0 _ _ hfits
    have hslots : Slots h.nx ρ1 n t tm := hslots0.mono0 (Nat.le_refl _) hag0
    have hmr : HM M w0 ρ1 h w := hm.relo rfl
    refine ⟨f, (ps.zip vs.toArray).foldl (fun tmps (t, a) => tmps.setIfInBounds t a) tm, asg, body, ?_, ?_⟩
    · have hsz : ¬ vs.toArray.size ≠ ps.size := by simp; omega
      simp only [Instr.yield, Instr.getLoop, Sem.run_bind, run_getObj hob (by simp), Result.andThen_ok, Sem.run_pure]
      rw [if_neg hsz]
      simp
    · refine roundIn_of_wpIn trivial ?_
      have hfold : (ps.zip vs.toArray).foldl (fun tmps (t, a) => tmps.setIfInBounds t a) tm = (ps.toList.zip vs).foldl (fun tm x => tm.setIfInBounds x.1 x.2) tm := by
        rw [← Array.foldl_toList, Array.toList_zip]
      rw [hfold]
      have hmod : Mod M w0 ρ1 ⟨n, yldSlots ps.toList args t, h, [], []⟩ { tmps := (ps.toList.zip vs).foldl (fun tm x => tm.setIfInBounds x.1 x.2) tm, defers := [] } w :=
        ⟨by simpa [St.lg] using yldSlots_ok ps.toList _ _ _ _ hfits1 hslots, Dfs.nil fun _ _ hb => hb, by simp, hmr⟩
      have hwp := hex l asg M w0 w ρ1 _ _ _ hl hK2 hmod
      refine wpIn_mono hwp ?_
      rintro x a1 w1 ⟨e, σ1, ρr, rfl, hk, hn1, ha1, hm1⟩
      simp only at hk hn1 ha1
      cases e with
      | normal =>
       simp only at hk
       split at hk
       · rename_i pd' n' t' ps' asg' body' df' hg1
         simp only [Ex.ex, Exit.then]
         have hk2 := Tr.holds_bind hk
         obtain ⟨hnl1, hdf1, f1, tm1, hob1, hs1⟩ := loop_get hm1.hp hg1
         have hm2 := loop_setLp (st' := .busy) (pd' := pd') hm1.hp hg1 hob1 hs1
         have hrl : (ρr l).blk = (ρ l).blk := by rw [ha1.1 l hl]
         refine ⟨w1.putObj (ρr l).blk (.loop ⟨.busy, pd', f1, tm1, ps', asg', body', (ρr df').blk⟩), ?_, ?_⟩
         · rw [← hrl]
           simp [Instr.beginRound, Instr.getLoop, run_getObj hob1 (by simp), run_setObj hob1 (by simp)]
         · have hmod2 : Mod M w0 ρr ⟨σ1.n, σ1.t, σ1.h.setLp l .busy pd', σ1.d, σ1.b⟩ a1 _ := ⟨hm1.tm, hm1.df, hm1.dl, hm2⟩
           have hwp2 := hex l body M w0 _ ρr ⟨σ1.n, σ1.t, σ1.h.setLp l .busy pd', σ1.d, σ1.b⟩ _ _ (Nat.lt_of_lt_of_le hl hn1) hk2 hmod2
           rw [show Fw (some (ρr l).blk) = Fw (some (ρ l).blk) by rw [hrl]] at hwp2
           refine wpIn_mono hwp2 ?_
           rintro x2 a2 w2 ⟨e2, σ2, ρ2, rfl, hk3, hn2, ha2, hm3⟩
           simp only at hk3 hn2 ha2
           split at hk3
           · rename_i st2 pd2 n2 t2 ps2 asg2 body2 df2 hg2
             obtain ⟨hnl2, hdf2, f2, tm2, hob2, hs2⟩ := loop_get hm3.hp hg2
             have hl1 : l < σ1.h.nx := Nat.lt_of_lt_of_le hl hn1
             have hrl2 : (ρ2 l).blk = (ρ l).blk := by rw [ha2.1 l hl1, hrl]
             have hfin : ∀ (st' : LoopState) (pd' : Option Code) (b : Bool), K (.k (.bool b), σ2.h.setLp l st' pd') →
                 FnGood M w0 ρ h K (.returned (.bool b)) (w2.putObj (ρ2 l).blk (.loop ⟨st', pd', f2, tm2, ps2, asg2, body2, (ρ2 df2).blk⟩)) := fun st' pd' b hk =>
               ⟨_, _, ⟨ρ2.lc, ρ2.mem, ρ.lo⟩, _, hk, Nat.le_trans hn1 hn2, ⟨fun i hi => (ha1.trans hn1 ha2).1 i hi, fun b o hb => (ha1.trans hn1 ha2).2.1 b o hb, rfl⟩, (loop_setLp hm3.hp hg2 hob2 hs2).relo (L := ρ.lo) (by rw [(ha1.trans hn1 ha2).2.2]), rfl, rfl⟩
             have hob2' := hob2
             rw [hrl2] at hob2'
             cases e2 with
             | normal =>
               refine ⟨_, _, run_endRound hob2' none, ?_⟩
               rw [← hrl2]
               exact hfin _ _ true hk3
             | ret =>
               refine ⟨_, _, run_endRound hob2' _, ?_⟩
               rw [← hrl2]
               exact hfin _ _ false hk3
             | exit id =>
               refine ⟨_, _, run_endRound hob2' _, ?_⟩
               rw [← hrl2]
               exact hfin _ _ false hk3
             | goto id =>
               refine ⟨_, _, run_endRound hob2' _, ?_⟩
               rw [← hrl2]
               exact hfin _ _ false hk3
           · exact hk3.elim
       · exact hk.elim
      | exit id => exact hk.elim
      | goto id => exact hk.elim
      | ret => exact hk.elim
  · exact hK.elim

/-! ### code -/
def LoopOk (P : Program) (b : Code) (L : St → Tr (Ex × St)) : Prop :=
  ∀ (M : Nat → Prop) (w0 w : World) (ρ : Rh) (σ : St) (a : Act) (K : Ex × St → Prop), (L σ).Holds K → Mod M w0 ρ σ a w →
    (Code.loop b).wpIn (Fw none) 0 P (PostX M w0 ρ σ.h.nx K) a w

theorem PostX.weak {nx : Nat} {K K' : Ex × St → Prop} {x : Exit} {a : Act} (h : PostX M w0 ρ nx K x a w) (hk : ∀ y, K y → K' y) : PostX M w0 ρ nx K' x a w :=
  let ⟨e, σ', ρ', h1, h2, h3, h4, h5⟩ := h; ⟨e, σ', ρ', h1, hk _ h2, h3, h4, h5⟩
theorem PostX.chain {nx nx' : Nat} {ρ' : Rh} {K : Ex × St → Prop} {x : Exit} {a : Act} (h : PostX M w0 ρ' nx' K x a w) (hn : nx ≤ nx') (ha : Agree nx ρ ρ') : PostX M w0 ρ nx K x a w :=
  let ⟨e, σ', ρ'', h1, h2, h3, h4, h5⟩ := h; ⟨e, σ', ρ'', h1, h2, Nat.le_trans hn h3, ha.trans hn h4, h5⟩

/-- What an executor of code is to be. -/
def ExOk (P : Program) (rd : Option Nat) (c : Code) (ex : St → Tr (Ex × St)) : Prop :=
  ∀ (M : Nat → Prop) (w0 w : World) (ρ : Rh) (σ : St) (a : Act) (K : Ex × St → Prop), (∀ l, rd = some l → l < σ.h.nx) → (ex σ).Holds K → Mod M w0 ρ σ a w →
    c.wpIn (Fw (rd.map fun l => (ρ l).blk)) 0 P (PostX M w0 ρ σ.h.nx K) a w

theorem fw_agree {rd : Option Nat} {n : Nat} {ρ' : Rh} (hrd : ∀ l, rd = some l → l < n) (ha : Agree n ρ ρ') : Fw (rd.map fun l => (ρ' l).blk) = Fw (rd.map fun l => (ρ l).blk) := by
  cases rd with
  | none => rfl
  | some l => simp only [Option.map_some]; rw [ha.1 l (hrd l rfl)]

theorem loopRun_ok {rd : Option Nat} {c : Code} {ex : St → Tr (Ex × St)} (hex : ExOk P rd c ex) : ∀ (m : Nat) (M : Nat → Prop) (w0 w : World) (ρ : Rh) (σ : St) (a : Act) (K : Ex × St → Prop), (∀ l, rd = some l → l < σ.h.nx) → (loopRun ex m σ).Holds K →
    Mod M w0 ρ σ a w → Code.roundsIn (Fw (rd.map fun l => (ρ l).blk)) 0 P c (PostX M w0 ρ σ.h.nx K) m a w
  | 0, M, w0, w, ρ, σ, a, K, _, hK, _ => hK.elim
  | m + 1, M, w0, w, ρ, σ, a, K, hrd, hK, hm => by
    rw [roundsIn_succ]
    refine wpIn_mono (hex M w0 w ρ σ a _ hrd (Tr.holds_bind hK) hm) ?_
    rintro x a' w' ⟨e, σ', ρ', rfl, hk, hn, ha, hm'⟩
    cases e with
    | normal =>
      have h1 := loopRun_ok hex m M w0 w' ρ' σ' a' K (fun l hl => Nat.lt_of_lt_of_le (hrd l hl) hn) hk hm'
      rw [fw_agree hrd ha] at h1
      simp only [Ex.ex, Exit.then]
      have mono : ∀ m a w, Code.roundsIn (Fw (rd.map fun l => (ρ l).blk)) 0 P c (PostX M w0 ρ' σ'.h.nx K) m a w → Code.roundsIn (Fw (rd.map fun l => (ρ l).blk)) 0 P c (PostX M w0 ρ σ.h.nx K) m a w := by
        intro m
        induction m with
        | zero => intro a w h; exact h
        | succ m ih =>
          intro a w h
          rw [roundsIn_succ] at h ⊢
          refine wpIn_mono h ?_
          intro x a w h
          cases x with
          | normal => exact ih a w h
          | _ => exact h.chain hn ha
      exact mono _ _ _ h1
    | exit id => exact ⟨_, σ', ρ', rfl, hk, hn, ha, hm'⟩
    | goto id => exact ⟨_, σ', ρ', rfl, hk, hn, ha, hm'⟩
    | ret => exact ⟨_, σ', ρ', rfl, hk, hn, ha, hm'⟩

theorem run_endLoop {r : Nat} {o : Loop} (h : w.heap[r]? = some (.loop o)) (hb : o.state ≠ .busy) :
    (Instr.endLoop r).run P w = .ok o.pending (w.putObj r (.loop { o with state := .exhausted })) := by
  simp [Instr.endLoop, Instr.getLoop, run_getObj h (by simp), run_setObj h (by simp)]
  exact fun h => absurd h hb

theorem endLoop_ok {rd : Option Nat} {ex : Code → St → Tr (Ex × St)} (hex : ∀ c, ExOk P rd c (ex c)) {l : Nat} {σ : St} {a : Act} {K : Ex × St → Prop} (hrd : ∀ l, rd = some l → l < σ.h.nx) (hK : (endLoopS ex l σ).Holds K) (hm : Mod M w0 ρ σ a w) :
    ∃ jump w₄, (Instr.endLoop (ρ l).blk).run P w = .ok jump w₄ ∧ (match jump with | none => PostX M w0 ρ σ.h.nx K .normal a w₄ | some c => c.wpIn (Fw (rd.map fun l => (ρ l).blk)) 0 P (PostX M w0 ρ σ.h.nx K) a w₄) := by
  unfold endLoopS at hK
  split at hK
  · rename_i st pd n t ps asg body df hg
    obtain ⟨hnl, hdf, f, tm, hob, hs⟩ := loop_get hm.hp hg
    have hm2 : Mod M w0 ρ ⟨σ.n, σ.t, σ.h.set l (.loop .exhausted pd n t ps asg body df), σ.d, σ.b⟩ a _ := ⟨hm.tm, hm.df, hm.dl, loop_set hm.hp hg hob hs⟩
    have hst : st ≠ .busy := by
      rintro rfl
      exact hK
    cases pd with
    | none =>
      have hk : K (.normal, ⟨σ.n, σ.t, σ.h.set l (.loop .exhausted none n t ps asg body df), σ.d, σ.b⟩) := by
        cases st with
        | busy => exact absurd rfl hst
        | ready => exact hK
        | done => exact hK
        | exhausted => exact hK
      exact ⟨none, _, run_endLoop hob hst, .normal, _, ρ, rfl, hk, Nat.le_refl _, Agree.refl _ _, hm2⟩
    | some c =>
      have hk : (ex c ⟨σ.n, σ.t, σ.h.set l (.loop .exhausted (some c) n t ps asg body df), σ.d, σ.b⟩).Holds K := by
        cases st with
        | busy => exact absurd rfl hst
        | ready => exact hK
        | done => exact hK
        | exhausted => exact hK
      exact ⟨some c, _, run_endLoop hob hst, hex c M w0 _ ρ ⟨σ.n, σ.t, σ.h.set l (.loop .exhausted (some c) n t ps asg body df), σ.d, σ.b⟩ a K hrd hk hm2⟩
  · exact hK.elim

theorem range_ok {rd : Option Nat} {g : Operand} {ps : Array Tmp} {asg body : Code} {σ : St} {a : Act} {K : Ex × St → Prop} {f : Nat} {cs : List SV} {run : Con} {ex : Code → St → Tr (Ex × St)}
    (hrun : FnOk P f run) (hex : ∀ c, ExOk P rd c (ex c)) (hrd : ∀ l, rd = some l → l < σ.h.nx) (hm : Mod M w0 ρ σ a w) (hev : σ.ev g = .fn f cs) (hc : callable P f = true)
    {d : List Nat} {mark : List Deferred} {h2 : SH} {l : Nat} {ρ2 : Rh} (hn : σ.h.nx ≤ h2.nx) (ha : Agree σ.h.nx ρ ρ2) (hl : l < h2.nx)
    (hent : ∀ fn, ∃ w1', (Instr.enterLoop fn a.tmps ps asg body (rd.map fun l => (ρ l).blk)).run P w = .ok ((ρ2 l).blk, mark) w1' ∧ HM M w0 ρ2 h2 w1')
    (hd : Dfs M w0 ρ2 d (mark ++ a.defers)) (hdl : ∀ i ∈ d, i < h2.nx)
    (hK : ((run (.yl l :: cs) h2).bind fun x => endLoopS ex l ⟨σ.n, σ.t, x.2, d, σ.b⟩).Holds K) :
    (Code.rangeFunc g ps asg body).wpIn (Fw (rd.map fun l => (ρ l).blk)) 0 P (PostX M w0 ρ σ.h.nx K) a w := by
  have he := hm.ev g
  rw [hev] at he
  obtain ⟨cl, hge, hcl⟩ := he
  refine wpIn_rangeFunc fun fn _ => ?_
  obtain ⟨w1', hent1, hm1'⟩ := hent fn
  refine ⟨(ρ2 l).blk, mark, w1', { target := .fn (.func f) cl.toArray, args := #[.func (.yield (ρ2 l).blk) #[] #[]] }, w1', f, (.func (.yield (ρ2 l).blk) #[] #[] :: cl).toArray, w1', hent1, ?_, fun _ _ => trivial, ?_, fun h => (by cases h), ?_⟩
  · simp only [resolve, hge, Deferred.ofValue]
    simp [Act.eval]
  · simp only [invoke]
    rw [callFunc_ok hc]
    simp
  · have hcall := hrun M w0 w1' ρ2 h2 (.yl l :: cs) (.func (.yield (ρ2 l).blk) #[] #[] :: cl) _ (Tr.holds_bind hK) hm1' (by
      simp only [SV.fits]
      exact ⟨⟨hl, rfl⟩, SV.fits_mono hn ha _ _ hcl⟩)
    refine callsIn_fw (hcall.mono ?_)
    rintro e w3 ⟨s, h3, ρ3, x, k1, k2, k3, k4, k5, rfl⟩
    have hmod : Mod M w0 ρ3 ⟨σ.n, σ.t, h3, d, σ.b⟩ { a with defers := mark ++ a.defers } w3 :=
      ⟨(hm.tm.mono hn ha).mono k2 k3, hd.mono k3 hdl, fun i hi => Nat.lt_of_lt_of_le (hdl i hi) k2, k4⟩
    have hrd3 : ∀ l, rd = some l → l < h3.nx := fun l hl => Nat.lt_of_lt_of_le (hrd l hl) (Nat.le_trans hn k2)
    obtain ⟨jump, w4, e1, e2⟩ := endLoop_ok (P := P) hex hrd3 k1 hmod
    have hrl : (ρ3 l).blk = (ρ2 l).blk := by rw [k3.1 l hl]
    rw [hrl] at e1
    refine ⟨jump, w4, e1, ?_⟩
    have haa : Agree σ.h.nx ρ ρ3 := ha.trans hn k3
    cases jump with
    | none => exact PostX.chain e2 (Nat.le_trans hn k2) haa
    | some c =>
      have e3 : c.wpIn (Fw (rd.map fun l => (ρ3 l).blk)) 0 P (PostX M w0 ρ3 h3.nx K) { a with defers := mark ++ a.defers } w4 := e2
      rw [fw_agree hrd haa] at e3
      exact wpIn_mono e3 fun x a w h => h.chain (Nat.le_trans hn k2) haa

/-! ### bases stay -/
theorem endMarks_b : ∀ (d : List Nat) (h h' : SH), endMarks d h = some h' → h'.b = h.b
  | [], h, h', he => by simp only [endMarks, Option.some.injEq] at he; rw [he]
  | i :: d, h, h', he => by
    simp only [endMarks] at he
    split at he
    · have := endMarks_b d _ h' he
      exact this
    · cases he
theorem fnRun_b {ex : Code → St → Tr (Ex × St)} (hex : ∀ c σ, (ex c σ).Each fun y => y.2.On σ.b σ.h.b) (f : Nat) : ConB (fnRun P ex f) := by
  intro args h
  unfold fnRun
  split
  · rename_i fn hfn
    split
    · refine each_bifb ?_ trivial
      refine Tr.each_bind' (fun x hx => ?_) (hex _ _)
      have fin : (match endMarks x.2.d x.2.h with
          | some h' => resS P fn ⟨x.2.n, x.2.t, h', [], x.2.b⟩
          | none => .bad 510 : Tr (SV × SH)).Each fun y => y.2.b = h.b := by
        split
        · rename_i h' he
          have e1 := endMarks_b _ _ _ he
          unfold resS
          refine Tr.each_bind (fun ss => ?_) _
          have : h'.b = h.b := e1.trans hx.2
          split <;> exact this
        · trivial
      split
      · exact fin
      · exact fin
      · trivial
    · trivial
  · trivial
theorem yldRun_b {ex : Nat → Code → St → Tr (Ex × St)} (hex : ∀ l c σ, (ex l c σ).Each fun y => y.2.On σ.b σ.h.b) (l : Nat) : ConB (yldRun ex l) := by
  intro args h
  unfold yldRun
  split
  · refine each_bifb ?_ trivial
    refine Tr.each_bind' (fun x hx => ?_) (hex _ _ _)
    split
    · split
      · refine Tr.each_bind' (fun y hy => ?_) (hex _ _ _)
        have e : y.2.h.b = h.b := hy.2.trans hx.2
        split
        · split <;> exact e
        · trivial
      · trivial
    · trivial
  · trivial
theorem endLoop_on {ex : Code → St → Tr (Ex × St)} (hex : ∀ c σ, (ex c σ).Each fun y => y.2.On σ.b σ.h.b) (l : Nat) (σ : St) : (endLoopS ex l σ).Each fun y => y.2.On σ.b σ.h.b := by
  unfold endLoopS
  split
  · split
    · trivial
    · split
      · exact ⟨rfl, rfl⟩
      · exact hex _ ⟨σ.n, σ.t, σ.h.set l _, σ.d, σ.b⟩
  · trivial
theorem loopRun_on {ex : St → Tr (Ex × St)} (hex : ∀ σ, (ex σ).Each fun y => y.2.On σ.b σ.h.b) : ∀ (m : Nat) (σ : St), (loopRun ex m σ).Each fun y => y.2.On σ.b σ.h.b
  | 0, σ => trivial
  | m + 1, σ => by
    simp only [loopRun]
    refine Tr.each_bind' (fun x hx => ?_) (hex σ)
    split
    · have := loopRun_on hex m x.2
      rwa [hx.1, hx.2] at this
    · exact hx
theorem unExit_on {id : Nat} {x : Ex × St} {B HB} (h : x.2.On B HB) : (unExit id x).2.On B HB := by
  unfold unExit
  split
  · rw [bif_beq]; split <;> exact h
  · exact h
theorem exec_on {Γ : Gam} {Λ : Lam} : ∀ (n : Nat) (lam rd : Option Nat) (c : Code) (σ : St), (exec P Γ Λ n lam rd c σ).Each fun y => y.2.On σ.b σ.h.b
  | 0, lam, rd, c, σ => trivial
  | n + 1, lam, rd, c, σ => by
    have hrun : ∀ f, ConB (match Γ.g f with | some g => g | none => fnRun P (exec P Γ Λ n (some f) none) f) := fun f => by
      cases hg : Γ.g f with
      | some g => exact Γ.hb f g hg
      | none => exact fnRun_b (fun c σ => exec_on n _ _ c σ) f
    have hyld : ∀ l, ConB (yldRun (fun l => exec P Γ Λ n none (some l)) l) := yldRun_b fun l c σ => exec_on n _ _ c σ
    cases c with
    | skip => exact ⟨rfl, rfl⟩
    | label l => exact ⟨rfl, rfl⟩
    | ret => exact ⟨rfl, rfl⟩
    | exit id => exact ⟨rfl, rfl⟩
    | goto l => exact ⟨rfl, rfl⟩
    | region id ops d =>
      simp only [exec]
      refine each_bifb (each_bifb trivial (Tr.each_bind' (p := fun y => y.On σ.b σ.h.b) (fun x hx => hx) (Tr.each_map (q := fun _ => True) (fun x _ => pop_on σ x) (each_true _)))) ?_
      cases d with
      | true =>
        simp only [cond_true]
        refine each_bifb ?_ (each_bifb (splitT_each (fun ops' => ?_) 6 ops) trivial)
        · refine Tr.each_bind' (p := fun y => y.On σ.b σ.h.b) (fun x hx => hx) (Tr.each_map (q := fun _ => True) (fun x _ => pop_on σ x) ?_)
          exact each_true _
        · refine Tr.each_bind' (p := fun y => y.On σ.b σ.h.b) (fun x hx => hx) (Tr.each_map (q := fun _ => True) (fun x _ => pop_on σ x) ?_)
          exact each_true _
      | false =>
        simp only [cond_false]
        exact Tr.each_bind' (p := fun y => y.On σ.b σ.h.b) (fun x hx => hx) (opsRun_on hrun hyld _ _ _ _ ⟨rfl, rfl⟩)
    | seq x y =>
      simp only [exec]
      refine Tr.each_bind' (fun x hx => ?_) (exec_on n lam rd x σ)
      split
      · have : (exec P Γ Λ n lam rd y x.2).Each fun y => y.2.On x.2.b x.2.h.b := exec_on n lam rd y x.2
        rwa [hx.1, hx.2] at this
      · exact hx
    | cond o x y =>
      simp only [exec]
      split
      · split
        · exact exec_on n lam rd x σ
        · exact exec_on n lam rd y σ
      · exact Tr.each_map (q := fun _ => True) (fun x _ => pop_on σ x.2) (each_true _)
      · trivial
    | block id x =>
      simp only [exec]
      exact Tr.each_map (q := fun _ => True) (fun x _ => pop_on σ x.2) (each_true _)
    | loop x =>
      cases rd with
      | some l0 =>
        simp only [exec]
        exact loopRun_on (fun σ => exec_on n lam (some l0) x σ) _ σ
      | none =>
        cases hl : lam.bind fun f => Λ f (lkey x) with
        | some L =>
          simp only [exec, hl]
          exact L.on σ
        | none =>
          simp only [exec, hl]
          exact loopRun_on (fun σ => exec_on n lam none x σ) _ σ
    | rangeFunc g ps asg body =>
      have ih : ∀ (rd : Option Nat) (c : Code) (σ : St), (exec P Γ Λ n none rd c σ).Each fun y => y.2.On σ.b σ.h.b := fun rd c σ => exec_on n none rd c σ
      simp only [exec]
      split
      · refine each_bifb ?_ trivial
        rename_i f cs _
        cases rd with
        | none =>
          refine Tr.each_bind' (p := fun y => y.2.b = σ.h.b) (fun x hx => ?_) (hrun f (.yl ((σ.h.push (.obj (.deferred (some [])))).nx) :: cs) ((σ.h.push (.obj (.deferred (some [])))).push (.loop .ready none σ.n σ.lg ps asg body σ.h.nx)))
          have := endLoop_on (fun c σ => ih none c σ) ((σ.h.push (.obj (.deferred (some [])))).nx) ⟨σ.n, σ.t, x.2, σ.h.nx :: σ.d, σ.b⟩
          simp only [hx] at this
          exact this
        | some l0 =>
          simp only
          split
          · rename_i df _
            refine Tr.each_bind' (p := fun y => y.2.b = σ.h.b) (fun x hx => ?_) (hrun f (.yl σ.h.nx :: cs) (σ.h.push (.loop .ready none σ.n σ.lg ps asg body df)))
            have := endLoop_on (fun c σ => ih (some l0) c σ) σ.h.nx ⟨σ.n, σ.t, x.2, σ.d, σ.b⟩
            simp only [hx] at this
            exact this
          · trivial
      · trivial
    | scope x =>
      simp only [exec]
      refine Tr.each_bind' (fun x hx => ?_) (exec_on n lam rd x σ)
      split
      · trivial
      · exact hx
    | refuse _ => trivial

theorem exec_ok {Γ : Gam} {Λ : Lam} (hΓ : ∀ f g, Γ.g f = some g → FnOk P f g) (hΛ : ∀ f k L, Λ f k = some L → ∀ b ∈ loopsOf P f, lkey b = k → LoopOk P b L.g) : ∀ (n : Nat) (lam rd : Option Nat) (c : Code),
    (∀ f, lam = some f → ∀ b ∈ subLoops c, b ∈ loopsOf P f) → ExOk P rd c (exec P Γ Λ n lam rd c)
  | 0, lam, rd, c, _ => fun M w0 w ρ σ a K _ hK _ => hK.elim
  | n + 1, lam, rd, c, hsub => by
    intro M w0 w ρ σ a K hrd hK hm
    have hrun : ∀ f, FnOk P f (match Γ.g f with | some g => g | none => fnRun P (exec P Γ Λ n (some f) none) f) := by
      intro f
      cases hg : Γ.g f with
      | some g => exact hΓ f g hg
      | none =>
        refine fnRun_ok fun M w0 w ρ fn c σ a K hfn hc hk hm => ?_
        have := exec_ok hΓ hΛ n (some f) none c (by
          intro f' hf' b hb
          injection hf' with hf'
          subst hf'
          simp only [loopsOf, hfn, hc]
          exact hb) M w0 w ρ σ a K (by intro l hl; cases hl) hk hm
        exact this
    have hyld : YldOk P (yldRun fun l => exec P Γ Λ n none (some l)) := by
      refine yldRun_ok fun l c M w0 w ρ σ a K hl hk hm => ?_
      exact exec_ok hΓ hΛ n none (some l) c (by intro f hf; cases hf) M w0 w ρ σ a K (by intro l' hl'; injection hl' with hl'; rw [← hl']; exact hl) hk hm
    have hrb : ∀ f, ConB (match Γ.g f with | some g => g | none => fnRun P (exec P Γ Λ n (some f) none) f) := fun f => by
      cases hg : Γ.g f with
      | some g => exact Γ.hb f g hg
      | none => exact fnRun_b (fun c σ => exec_on n _ _ c σ) f
    have hyb : ∀ l, ConB (yldRun (fun l => exec P Γ Λ n none (some l)) l) := yldRun_b fun l c σ => exec_on n _ _ c σ
    have ih := fun lam rd c hs => exec_ok hΓ hΛ n lam rd c hs
    have hsame : PostX M w0 ρ σ.h.nx K = PostX M w0 ρ σ.h.nx K := rfl
    simp only [exec] at hK
    cases c with
    | skip => exact wpIn_skip ⟨.normal, σ, ρ, rfl, hK, Nat.le_refl _, Agree.refl _ _, hm⟩
    | label l => exact wpIn_label ⟨.normal, σ, ρ, rfl, hK, Nat.le_refl _, Agree.refl _ _, hm⟩
    | ret => exact wpIn_ret ⟨.ret, σ, ρ, rfl, hK, Nat.le_refl _, Agree.refl _ _, hm⟩
    | exit id => exact wpIn_exit ⟨.exit id, σ, ρ, rfl, hK, Nat.le_refl _, Agree.refl _ _, hm⟩
    | goto l => exact wpIn_goto ⟨.goto l, σ, ρ, rfl, hK, Nat.le_refl _, Agree.refl _ _, hm⟩
    | region id ops d =>
      dsimp only at hK
      cases hzf : Γ.zf lam id with
      | true =>
        rw [hzf] at hK
        cases d with
        | true => exact hK.elim
        | false =>
        simp only [cond_true, cond_false] at hK
        have hon : (opsRun P _ (yldRun fun l => exec P Γ Λ n none (some l)) ops ops.toList σ.base).Each (St.On (σ.t ++ σ.b) (σ.h.l ++ σ.h.b)) := opsRun_on hrb hyb _ _ _ _ ⟨rfl, rfl⟩
        have hK2 := Tr.each_holds hon (compress_holds (joinSt_ok _ _ _ _) hon (Tr.holds_map (Tr.holds_bind hK)))
        refine wpIn_region ?_
        have := ops_ok (P := P) (M := M) (w0 := w0) hrun hyld hrb hyb (r := rd.map fun l => (ρ l).blk) (Q := PostX M w0 ρ σ.h.nx K) ops.toList 0 ρ σ.base a w _ (by simp) hK2 hm.base
          (fun σ' ρ' a' w' h1 h2 h3 h4 => by
            obtain ⟨⟨j, hw, hk⟩, hx⟩ := h1
            have hjo := hw.on
            rw [hx.1, hx.2] at hjo
            exact ⟨.normal, σ.pop j, ρ', rfl, hk, Nat.le_trans h2 hw.nx, h3, (hw.mod _ _ _ _ _ h4).pop hjo⟩)
        rw [List.range_eq_range', ← Array.length_toList]
        exact this
      | false =>
      rw [hzf] at hK
      simp only [cond_false] at hK
      cases d with
      | true =>
        simp only [cond_true] at hK
        cases hdr : drawOk P Γ.q (tqOf P Γ.q ops) (frOf P Γ.q ops) ops with
        | false =>
        rw [hdr] at hK
        simp only [cond_false] at hK
        obtain ⟨hc, hK⟩ := bif_holds hK
        simp only [Bool.and_eq_true] at hc
        obtain ⟨hng, hmix, hback⟩ := hc
        refine wpIn_region_draw fun t => ?_
        refine split_ok (fun ops' hb' hp' hl L hL => ?_) 6 ops hK (noGuard_ok hng) _ (lin_all (back_lt hback) hmix t)
        have hon : (drawOps P Γ.q false false _ (yldRun fun l => exec P Γ Λ n none (some l)) ops' ops'.toList σ.base).Each (St.On (σ.t ++ σ.b) (σ.h.l ++ σ.h.b)) := drawOps_on hrb hyb _ _ _ _ ⟨rfl, rfl⟩
        have hK2 := Tr.each_holds hon (compress_holds (joinSt_ok _ _ _ _) hon (Tr.holds_map (Tr.holds_bind hl)))
        refine draw_lin (P := P) (M := M) (w0 := w0) hrun hyld (fun f hq => ?_) (fun f hq => ?_) hb' hp' hK2 hm.base (fun σ' ρ' a' w' h1 h2 h3 h4 => ?_) hL ⟨rfl, rfl, rfl, Nat.le_refl _, fun _ _ => rfl⟩
        · obtain ⟨c, hc, hall, _⟩ := Γ.hq f hq
          rw [hc]
          exact hall
        · obtain ⟨c, hc, _, hind⟩ := Γ.hq f hq
          rw [hc]
          exact hind
        · obtain ⟨⟨j, hw, hk⟩, hx⟩ := h1
          have hjo := hw.on
          rw [hx.1, hx.2] at hjo
          exact ⟨.normal, σ.pop j, ρ', rfl, hk, Nat.le_trans h2 hw.nx, h3, (hw.mod _ _ _ _ _ h4).pop hjo⟩
        | true =>
        rw [hdr] at hK
        simp only [cond_true] at hK
        have hK1 := hK
        have hon : (drawOps P Γ.q (tqOf P Γ.q ops) (frOf P Γ.q ops) _ (yldRun fun l => exec P Γ Λ n none (some l)) ops ops.toList σ.base).Each (St.On (σ.t ++ σ.b) (σ.h.l ++ σ.h.b)) := drawOps_on hrb hyb _ _ _ _ ⟨rfl, rfl⟩
        have hK2 := Tr.each_holds hon (compress_holds (joinSt_ok _ _ _ _) hon (Tr.holds_map (Tr.holds_bind hK1)))
        refine draw_ok (P := P) (M := M) (w0 := w0) hrun hyld (fun f hq => ?_) (fun f hq => ?_) hdr hK2 hm.base (fun σ' ρ' a' w' h1 h2 h3 h4 => ?_)
        · skip
          obtain ⟨c, hc, hall, _⟩ := Γ.hq f hq
          rw [hc]
          exact hall
        · obtain ⟨c, hc, _, hind⟩ := Γ.hq f hq
          rw [hc]
          exact hind
        · obtain ⟨⟨j, hw, hk⟩, hx⟩ := h1
          have hjo := hw.on
          rw [hx.1, hx.2] at hjo
          exact ⟨.normal, σ.pop j, ρ', rfl, hk, Nat.le_trans h2 hw.nx, h3, (hw.mod _ _ _ _ _ h4).pop hjo⟩
      | false =>
        simp only [cond_false] at hK
        refine wpIn_region ?_
        have := ops_ok (P := P) (M := M) (w0 := w0) hrun hyld hrb hyb (r := rd.map fun l => (ρ l).blk) (Q := PostX M w0 ρ σ.h.nx K) ops.toList 0 ρ σ a w _ (by simp) (Tr.holds_bind hK) hm
          (fun σ' ρ' a' w' h1 h2 h3 h4 => ⟨.normal, σ', ρ', rfl, h1, h2, h3, h4⟩)
        rw [List.range_eq_range', ← Array.length_toList]
        exact this
    | seq x y =>
      refine wpIn_seq (wpIn_mono (ih lam rd x (fun f hf b hb => hsub f hf b (by simp [subLoops, hb])) M w0 w ρ σ a _ hrd (Tr.holds_bind hK) hm) ?_)
      rintro e' a' w' ⟨e, σ', ρ', rfl, hk, hn, ha, hm'⟩
      cases e with
      | normal =>
        have h1 := ih lam rd y (fun f hf b hb => hsub f hf b (by simp [subLoops, hb])) M w0 w' ρ' σ' a' K (fun l hl => Nat.lt_of_lt_of_le (hrd l hl) hn) hk hm'
        rw [fw_agree hrd ha] at h1
        exact wpIn_mono h1 fun x a w h => h.chain hn ha
      | exit id => exact ⟨_, σ', ρ', rfl, hk, hn, ha, hm'⟩
      | goto id => exact ⟨_, σ', ρ', rfl, hk, hn, ha, hm'⟩
      | ret => exact ⟨_, σ', ρ', rfl, hk, hn, ha, hm'⟩
    | cond o x y =>
      have hx := fun K => ih lam rd x (fun f hf b hb => hsub f hf b (by simp [subLoops, hb])) M w0 w ρ σ a K hrd
      have hy := fun K => ih lam rd y (fun f hf b hb => hsub f hf b (by simp [subLoops, hb])) M w0 w ρ σ a K hrd
      have hx' := fun K => ih lam rd x (fun f hf b hb => hsub f hf b (by simp [subLoops, hb])) M w0 w ρ σ.base a K hrd
      have hy' := fun K => ih lam rd y (fun f hf b hb => hsub f hf b (by simp [subLoops, hb])) M w0 w ρ σ.base a K hrd
      cases hb : (σ.ev o).bool? with
      | none => simp only [hb] at hK; exact hK.elim
      | some cz =>
        obtain ⟨cl, z⟩ := cz
        have he := SV.bool_fit hb (hm.ev o)
        simp only [hb] at hK
        cases cl with
        | true =>
          cases z with
          | true => exact wpIn_cond_true he (hx _ hK hm)
          | false => exact wpIn_cond_false he (hy _ hK hm)
        | false =>
          have hox := exec_on (P := P) (Γ := Γ) (Λ := Λ) n lam rd x σ.base
          have hoy := exec_on (P := P) (Γ := Γ) (Λ := Λ) n lam rd y σ.base
          have h12 := mergeX_holds (joinX_ok σ.base.b σ.base.h.b σ.h.nx) hox hoy (Tr.holds_map hK)
          have fin : ∀ {x a w}, PostX M w0 ρ σ.base.h.nx (fun x => (∃ j, WkX x j ∧ K (j.1, σ.pop j.2)) ∧ x.2.On σ.base.b σ.base.h.b) x a w → PostX M w0 ρ σ.h.nx K x a w := by
            rintro x a w ⟨e, σ', ρ', rfl, ⟨⟨⟨e', j⟩, ⟨he, hw⟩, hk⟩, ho⟩, hn, ha, hm'⟩
            simp only at he hw hk ho
            subst he
            have hjo := hw.on
            rw [ho.1, ho.2] at hjo
            exact ⟨e, σ.pop j, ρ', rfl, hk, Nat.le_trans hn hw.nx, ha, (hw.mod _ _ _ _ _ hm').pop hjo⟩
          cases z with
          | true => exact wpIn_cond_true he (wpIn_mono (hx' _ (Tr.each_holds hox (h12.1 rfl)) hm.base) fun x a w h => fin h)
          | false => exact wpIn_cond_false he (wpIn_mono (hy' _ (Tr.each_holds hoy (h12.2 rfl)) hm.base) fun x a w h => fin h)
    | block id x =>
      have hox := exec_on (P := P) (Γ := Γ) (Λ := Λ) n lam rd x σ.base
      have hox' : ((exec P Γ Λ n lam rd x σ.base).map (unExit id)).Each fun y => y.2.On σ.base.b σ.base.h.b := Tr.each_map (f := unExit id) (fun x hx => unExit_on hx) hox
      have hK1 := Tr.each_holds hox (Tr.holds_map (compress_holds (joinX_ok σ.base.b σ.base.h.b σ.h.nx) hox' (Tr.holds_map hK)))
      refine wpIn_block (wpIn_mono (ih lam rd x (fun f hf b hb => hsub f hf b (by simpa [subLoops] using hb)) M w0 w ρ σ.base a _ hrd hK1 hm.base) ?_)
      rintro e' a' w' ⟨e, σ', ρ', rfl, ⟨⟨⟨e2, j⟩, ⟨he, hw⟩, hk⟩, ho⟩, hn, ha, hm'⟩
      simp only at he hw hk ho
      have main : ∀ e2, e2 = (unExit id (e, σ')).1 → Wk σ' j → K (e2, σ.pop j) → PostX M w0 ρ σ.h.nx K (Ex.ex e2) a' w' := by
        rintro e2 rfl hw hk
        have hjo := hw.on
        rw [ho.1, ho.2] at hjo
        exact ⟨_, σ.pop j, ρ', rfl, hk, Nat.le_trans hn hw.nx, ha, (hw.mod _ _ _ _ _ hm').pop hjo⟩
      have hw2 : Wk σ' j := by
        have : (unExit id (e, σ')).2 = σ' := by
          unfold unExit
          split
          · rw [bif_beq]; split <;> rfl
          · rfl
        rwa [this] at hw
      have key := main e2 he.symm hw2 hk
      cases e with
      | exit i =>
        simp only [Ex.ex, Exit.inBlock]
        simp only [unExit] at he
        rw [bif_beq] at he
        by_cases hj : i = id
        · rw [if_pos hj] at he ⊢
          subst he
          exact key
        · rw [if_neg hj] at he ⊢
          subst he
          exact key
      | normal => simp only [unExit] at he; subst he; exact key
      | goto i => simp only [unExit] at he; subst he; exact key
      | ret => simp only [unExit] at he; subst he; exact key
    | loop x =>
      have hgo : ∀ m : Nat, (loopRun (exec P Γ Λ n lam rd x) m σ).Holds K → (Code.loop x).wpIn (Fw (rd.map fun l => (ρ l).blk)) 0 P (PostX M w0 ρ σ.h.nx K) a w := fun m hK =>
        wpIn_loop_rounds _ (loopRun_ok (ih lam rd x (fun f hf b hb => hsub f hf b (by simp [subLoops, hb]))) m M w0 w ρ σ a K hrd hK hm)
      cases rd with
      | some l0 => exact hgo _ hK
      | none =>
        cases hl : lam.bind fun f => Λ f (lkey x) with
        | some L =>
          simp only [hl] at hK
          cases lam with
          | none => simp at hl
          | some f =>
            simp only [Option.bind_some] at hl
            exact hΛ f _ L hl x (hsub f rfl x (by simp [subLoops])) rfl M w0 w ρ σ a K hK hm
        | none =>
          simp only [hl] at hK
          exact hgo _ hK
    | rangeFunc g ps asg body =>
      cases hev : σ.ev g with
      | fn f cs =>
        simp only [hev] at hK
        cases hcl : callable P f with
        | false => rw [hcl] at hK; exact hK.elim
        | true =>
          rw [hcl] at hK
          simp only [cond_true] at hK
          cases rd with
          | none =>
            simp only at hK
            have hm1 := hm.hp.push (so := .obj (.deferred (some []))) (o := .deferred (some [])) (c := 0) ⟨rfl, rfl, rfl⟩
            have hsl := hm.tm.mono (Nat.le_succ _) (agree_upd ρ σ.h.nx ⟨w.heap.size, 0, 0, false⟩)
            have hm2 : ∀ fn, HM M w0 _ _ _ := fun fn => hm1.push (so := .loop .ready none σ.n σ.lg ps asg body σ.h.nx) (o := .loop ⟨.ready, none, fn, a.tmps, ps, asg, body, w.heap.size⟩) (c := 0)
              ⟨rfl, Nat.lt_succ_self _, fn, a.tmps, by simp [upd], hsl⟩
            refine range_ok (ρ2 := upd (upd ρ σ.h.nx ⟨w.heap.size, 0, 0, false⟩) (σ.h.push (.obj (.deferred (some [])))).nx ⟨(w.alloc (.deferred (some []))).heap.size, 0, 0, false⟩)
              (d := σ.h.nx :: σ.d) (mark := [{ target := .collected w.heap.size, args := #[] }]) (hrun f) (fun c => ih none none c (by intro f hf; cases hf)) hrd hm hev hcl ?_ ?_ (Nat.lt_succ_self _) (fun fn => ?_) ?_ ?_ hK
            · simp [SH.push]; omega
            · exact (agree_upd _ _ _).trans (Nat.le_succ _) (agree_upd _ _ _)
            · refine ⟨(w.alloc (.deferred (some []))).alloc (.loop ⟨.ready, none, fn, a.tmps, ps, asg, body, w.heap.size⟩), ?_, hm2 fn⟩
              simp [Instr.enterLoop, upd, SH.push]
            · have h1 := (hm.df.mono (n := σ.h.nx) ((agree_upd ρ σ.h.nx ⟨w.heap.size, 0, 0, false⟩).trans (Nat.le_succ _) (agree_upd _ (σ.h.push (.obj (.deferred (some [])))).nx ⟨(w.alloc (.deferred (some []))).heap.size, 0, 0, false⟩)) hm.dl).cons σ.h.nx
              have e : ∀ (ρ' : Rh), (ρ' σ.h.nx).blk = w.heap.size → markOf ρ' σ.h.nx = { target := .collected w.heap.size, args := #[] } := fun ρ' hb => by simp only [markOf, hb]
              rw [e _ (by simp [upd, SH.push])] at h1
              exact h1
            · intro i hi
              rcases List.mem_cons.1 hi with rfl | hi
              · simp [SH.push]; omega
              · have := hm.dl i hi; simp [SH.push]; omega
          | some l0 =>
            simp only at hK
            split at hK
            · rename_i st0 pd0 n0 t0 ps0 asg0 body0 df hg0
              obtain ⟨hnl0, hdf0, f0, tm0, hob0, hs0⟩ := loop_get hm.hp hg0
              have hm2 : ∀ fn, HM M w0 _ _ _ := fun fn => hm.hp.push (so := .loop .ready none σ.n σ.lg ps asg body df) (o := .loop ⟨.ready, none, fn, a.tmps, ps, asg, body, (ρ df).blk⟩) (c := 0)
                ⟨rfl, hdf0, fn, a.tmps, rfl, hm.tm⟩
              refine range_ok (ρ2 := upd ρ σ.h.nx ⟨w.heap.size, 0, 0, false⟩) (d := σ.d) (mark := []) (hrun f) (fun c => ih none (some l0) c (by intro f hf; cases hf)) hrd hm hev hcl (Nat.le_succ _) (agree_upd _ _ _) (Nat.lt_succ_self _) (fun fn => ?_) ?_ ?_ hK
              · refine ⟨w.alloc (.loop ⟨.ready, none, fn, a.tmps, ps, asg, body, (ρ df).blk⟩), ?_, hm2 fn⟩
                simp [Instr.enterLoop, Instr.getLoop, run_getObj hob0 (by simp), upd]
              · rw [List.nil_append]; exact hm.df.mono (agree_upd _ _ _) hm.dl
              · intro i hi; have := hm.dl i hi; simp [SH.push]; omega
            · exact hK.elim
      | _ => simp only [hev] at hK; exact hK.elim
    | scope x =>
      refine wpIn_scope (wpIn_mono (ih lam rd x (fun f hf b hb => hsub f hf b (by simpa [subLoops] using hb)) M w0 w ρ σ a _ hrd (Tr.holds_bind hK) hm) ?_)
      rintro e' a' w' ⟨e, σ', ρ', rfl, hk, hn, ha, hm'⟩
      cases e with
      | normal => exact ⟨_, σ', ρ', rfl, hk, hn, ha, hm'⟩
      | exit id => exact ⟨_, σ', ρ', rfl, hk, hn, ha, hm'⟩
      | goto id => exact hk.elim
      | ret => exact ⟨_, σ', ρ', rfl, hk, hn, ha, hm'⟩
    | refuse _ => exact hK.elim
end
end Go.Sx

/- Codecs: plain data as known values, and back. -/
namespace Go.Sx
open Go.RowKit

/-- Nothing in it hangs on where blocks lie. -/
def Cl (s : SV) : Prop := ∀ (n m : Nat) (ρ ρ' : Rh) (x : Value), (∀ b o, ρ.mem b = some o → ρ'.mem b = some o) → s.fit n ρ x → s.fit m ρ' x
def Cls (l : List SV) : Prop := ∀ (n m : Nat) (ρ ρ' : Rh) (x : List Value), (∀ b o, ρ.mem b = some o → ρ'.mem b = some o) → SV.fits n ρ l x → SV.fits m ρ' l x
/-- Nothing in it lies in memory. -/
def Pu (s : SV) : Prop := ∀ (n m : Nat) (ρ ρ' : Rh) (x : Value), s.fit n ρ x → s.fit m ρ' x
def Pus (l : List SV) : Prop := ∀ (n m : Nat) (ρ ρ' : Rh) (x : List Value), SV.fits n ρ l x → SV.fits m ρ' l x
theorem cl_v (x : Value) : Cl (.v x) := fun _ _ _ _ _ _ h => h
theorem cl_k (x : Value) : Cl (.k x) := fun _ _ _ _ _ _ h => h
theorem pu_v (x : Value) : Pu (.v x) := fun _ _ _ _ _ h => h
theorem pu_k (x : Value) : Pu (.k x) := fun _ _ _ _ _ h => h
theorem cls_nil : Cls [] := fun _ _ _ _ x _ h => by have := fits_nil h; subst this; trivial
theorem pus_nil : Pus [] := fun _ _ _ _ x h => by have := fits_nil h; subst this; trivial
theorem cls_cons {s : SV} {l : List SV} (h : Cl s) (h' : Cls l) : Cls (s :: l) := fun n m ρ ρ' x hm hf => by
  obtain ⟨y, r, rfl, hy, hr⟩ := fits_cons hf
  exact ⟨h n m ρ ρ' y hm hy, h' n m ρ ρ' r hm hr⟩
theorem pus_cons {s : SV} {l : List SV} (h : Pu s) (h' : Pus l) : Pus (s :: l) := fun n m ρ ρ' x hf => by
  obtain ⟨y, r, rfl, hy, hr⟩ := fits_cons hf
  exact ⟨h n m ρ ρ' y hy, h' n m ρ ρ' r hr⟩
theorem cls_append : ∀ {l l' : List SV}, Cls l → Cls l' → Cls (l ++ l')
  | [], _, _, h' => h'
  | s :: l, l', h, h' => fun n m ρ ρ' x hm hf => by
    have hl : x.length = l.length + 1 + l'.length := by have := fits_length hf; simp at this; omega
    have h1 := fits_take (l.length + 1) hf
    have h2 := fits_drop (l.length + 1) hf
    rw [show ((s :: l) ++ l').take (l.length + 1) = s :: l by simp] at h1
    rw [show ((s :: l) ++ l').drop (l.length + 1) = l' by simp] at h2
    have := fits_append (h n m ρ ρ' _ hm h1) (h' n m ρ ρ' _ hm h2)
    rwa [List.take_append_drop] at this
theorem pus_append : ∀ {l l' : List SV}, Pus l → Pus l' → Pus (l ++ l')
  | [], _, _, h' => h'
  | s :: l, l', h, h' => fun n m ρ ρ' x hf => by
    have h1 := fits_take (l.length + 1) hf
    have h2 := fits_drop (l.length + 1) hf
    rw [show ((s :: l) ++ l').take (l.length + 1) = s :: l by simp] at h1
    rw [show ((s :: l) ++ l').drop (l.length + 1) = l' by simp] at h2
    have := fits_append (h n m ρ ρ' _ h1) (h' n m ρ ρ' _ h2)
    rwa [List.take_append_drop] at this
theorem cl_agg {l : List SV} (h : Cls l) : Cl (.agg l) := fun n m ρ ρ' _ hm ⟨v, e, hv⟩ => ⟨v, e, h n m ρ ρ' v hm hv⟩
theorem cl_tup {l : List SV} (h : Cls l) : Cl (.tup l) := fun n m ρ ρ' _ hm ⟨v, e, hv⟩ => ⟨v, e, h n m ρ ρ' v hm hv⟩
theorem pu_agg {l : List SV} (h : Pus l) : Pu (.agg l) := fun n m ρ ρ' _ ⟨v, e, hv⟩ => ⟨v, e, h n m ρ ρ' v hv⟩
theorem pu_tup {l : List SV} (h : Pus l) : Pu (.tup l) := fun n m ρ ρ' _ ⟨v, e, hv⟩ => ⟨v, e, h n m ρ ρ' v hv⟩
theorem cl_rs {sz l : Nat} {el : Nat → List SV} (h : ∀ e, Cls (el e)) : Cl (.rs sz l el) := fun n m ρ ρ' x hm hf => by
  simp only [SV.fit] at hf ⊢
  obtain ⟨a, c, e, h1, h2, h3⟩ := hf
  refine ⟨a, c, e, h1, h2, fun hl => ?_⟩
  obtain ⟨b, o, cs, t, fz, k1, k2, k3⟩ := h3 hl
  refine ⟨b, o, cs, t, fz, k1, hm _ _ k2, fun e he => ?_⟩
  obtain ⟨vs, q1, q2, q3⟩ := k3 e he
  exact ⟨vs, q1, h e n m ρ ρ' vs hm q2, q3⟩

theorem cl_rm {ks vs m : Nat} {ka va : Bool} {el : Nat → List SV} (h : ∀ e, Cls (el e)) : Cl (.rm ks vs m ka va el) := fun n n' ρ ρ' x hm hf => by
  simp only [SV.fit] at hf ⊢
  rcases hf with hf | ⟨b, es, clk, k1, k2, k3, k4, k5⟩
  · exact .inl hf
  · refine .inr ⟨b, es, clk, k1, hm _ _ k2, k3, k4, fun e he => ?_⟩
    obtain ⟨y, kc, vc, q1, q2, q3⟩ := k5 e he
    exact ⟨y, kc, vc, q1, h e n n' ρ ρ' _ hm q2, q3⟩
/-! ### one value -/
/-- A reading of one known value. -/
structure Dv (α : Type) where
  dec : SV → Option (α × List Prop)
  enc : α → SV
  bd : α → Prop
  cl : ∀ a, Cl (enc a)
  ok : ∀ (s : SV) (a : α) (ps : List Prop) (n : Nat) (ρ : Rh) (x : Value), dec s = some (a, ps) → (∀ p ∈ ps, p) → s.fit n ρ x → (enc a).fit n ρ x
  fb : ∀ (a : α) (n : Nat) (ρ : Rh) (x : Value), (enc a).fit n ρ x → bd a
abbrev Dv.T {α : Type} (_ : Dv α) : Type := α
def dInt (q : IntKind) : Dv Int where
  dec s := match s.int? with
    | some (_, q', n) => bif decide (q = q') then some (n, []) else none
    | none => none
  enc n := .v (.int q n)
  bd _ := True
  cl _ := cl_v _
  ok s a ps n ρ x hd _ hf := by
    split at hd
    · rename_i c q' i hs
      cases hq : decide (q = q') with
      | false => simp [hq] at hd
      | true =>
        simp only [hq, cond_true, Option.some.injEq, Prod.mk.injEq] at hd
        rw [SV.int_fit hs hf, hd.1, of_decide_eq_true hq]
        simp [SV.fit]
    · cases hd
  fb _ _ _ _ _ := trivial
def dBool : Dv Bool where
  dec s := match s.bool? with
    | some (_, b) => some (b, [])
    | none => none
  enc b := .v (.bool b)
  bd _ := True
  cl _ := cl_v _
  ok s a ps n ρ x hd _ hf := by
    split at hd
    · rename_i c b hs
      simp only [Option.some.injEq, Prod.mk.injEq] at hd
      rw [SV.bool_fit hs hf, hd.1]
      simp [SV.fit]
    · cases hd
  fb _ _ _ _ _ := trivial
def dStr : Dv ByteArray where
  dec s := match s.str? with
    | some (_, b) => some (b, [])
    | none => none
  enc b := .v (.string b)
  bd _ := True
  cl _ := cl_v _
  ok s a ps n ρ x hd _ hf := by
    split at hd
    · rename_i c b hs
      simp only [Option.some.injEq, Prod.mk.injEq] at hd
      rw [SV.str_fit hs hf, hd.1]
      simp [SV.fit]
    · cases hd
  fb _ _ _ _ _ := trivial

/-! ### cells, one behind the other -/
structure El (α : Type) where
  sz : Nat
  cells : α → List SV
  decs : List SV → Option (α × List Prop)
  dflt : α
  bd : α → Prop
  dec_cells : ∀ a, ∃ ps, decs (cells a) = some (a, ps) ∧ ∀ p ∈ ps, p
  len : ∀ a, (cells a).length = sz
  one : ∀ a, (cells a).all SV.one = true
  cl : ∀ a, Cls (cells a)
  ok : ∀ (l : List SV) (a : α) (ps : List Prop) (n : Nat) (ρ : Rh) (x : List Value), decs l = some (a, ps) → (∀ p ∈ ps, p) → SV.fits n ρ l x → SV.fits n ρ (cells a) x
  fb : ∀ (a : α) (n : Nat) (ρ : Rh) (x : List Value), SV.fits n ρ (cells a) x → bd a
/-- One cell. -/
def El.one' {α : Type} (D : Dv α) (d : α) (h1 : ∀ a, (D.enc a).one = true) (h2 : ∀ a, ∃ ps, D.dec (D.enc a) = some (a, ps) ∧ ∀ p ∈ ps, p) : El α where
  sz := 1
  cells a := [D.enc a]
  decs l := match l with
    | [s] => D.dec s
    | _ => none
  dflt := d
  bd := D.bd
  dec_cells a := h2 a
  len _ := rfl
  one a := by simp [h1]
  cl a := cls_cons (D.cl a) cls_nil
  ok l a ps n ρ x hd hp hf := by
    split at hd
    · obtain ⟨y, r, rfl, hy, hr⟩ := fits_cons hf
      exact ⟨D.ok _ _ _ _ _ _ hd hp hy, hr⟩
    · cases hd
  fb a n ρ x hf := by
    obtain ⟨y, r, rfl, hy, hr⟩ := fits_cons hf
    exact D.fb _ _ _ _ hy
def eInt (q : IntKind) : El Int := .one' (dInt q) 0 (fun _ => rfl) fun a => ⟨[], by simp [dInt, SV.int?], by simp⟩
def eBool : El Bool := .one' dBool false (fun _ => rfl) fun a => ⟨[], by simp [dBool, SV.bool?], by simp⟩
def eStr : El ByteArray := .one' dStr ByteArray.empty (fun _ => rfl) fun a => ⟨[], by simp [dStr, SV.str?], by simp⟩
/-- Two, one behind the other. -/
def El.pair {α β : Type} (A : El α) (B : El β) : El (α × β) where
  sz := A.sz + B.sz
  cells a := A.cells a.1 ++ B.cells a.2
  decs l := match A.decs (l.take A.sz) with
    | some (a, ps) => match B.decs (l.drop A.sz) with
      | some (b, qs) => some ((a, b), ps ++ qs)
      | none => none
    | none => none
  dflt := (A.dflt, B.dflt)
  bd a := A.bd a.1 ∧ B.bd a.2
  dec_cells a := by
    obtain ⟨ps, h1, h2⟩ := A.dec_cells a.1
    obtain ⟨qs, k1, k2⟩ := B.dec_cells a.2
    refine ⟨ps ++ qs, ?_, fun p hp => ?_⟩
    · rw [List.take_left' (A.len _), List.drop_left' (A.len _), h1]
      simp only [k1]
    · rcases List.mem_append.1 hp with hp | hp
      · exact h2 p hp
      · exact k2 p hp
  len a := by simp [A.len, B.len]
  one a := by simp only [List.all_append, A.one, B.one, Bool.and_self]
  cl a := cls_append (A.cl _) (B.cl _)
  ok l a ps n ρ x hd hp hf := by
    split at hd
    · rename_i a0 ps0 h1
      split at hd
      · rename_i b0 qs0 h2
        simp only [Option.some.injEq, Prod.mk.injEq] at hd
        obtain ⟨rfl, rfl⟩ := hd
        have f1 := A.ok _ _ _ _ _ _ h1 (fun p hp' => hp p (List.mem_append_left _ hp')) (fits_take A.sz hf)
        have f2 := B.ok _ _ _ _ _ _ h2 (fun p hp' => hp p (List.mem_append_right _ hp')) (fits_drop A.sz hf)
        have := fits_append f1 f2
        rwa [List.take_append_drop] at this
      · cases hd
    · cases hd
  fb a n ρ x hf := by
    have h1 := fits_take A.sz hf
    have h2 := fits_drop A.sz hf
    rw [List.take_left' (A.len _)] at h1
    rw [List.drop_left' (A.len _)] at h2
    exact ⟨A.fb _ _ _ _ h1, B.fb _ _ _ _ h2⟩
/-- The same under another name. -/
def El.iso {α β : Type} (A : El α) (f : α → β) (g : β → α) (hfg : ∀ b, f (g b) = b) (hgf : ∀ a, g (f a) = a) : El β where
  sz := A.sz
  cells b := A.cells (g b)
  decs l := match A.decs l with
    | some (a, ps) => some (f a, ps)
    | none => none
  dflt := f A.dflt
  bd b := A.bd (g b)
  dec_cells b := by
    obtain ⟨ps, h1, h2⟩ := A.dec_cells (g b)
    exact ⟨ps, by simp only [h1, hfg], h2⟩
  len b := A.len _
  one b := A.one _
  cl b := A.cl _
  ok l b ps n ρ x hd hp hf := by
    split at hd
    · rename_i a0 ps0 h1
      simp only [Option.some.injEq, Prod.mk.injEq] at hd
      obtain ⟨rfl, rfl⟩ := hd
      rw [hgf]
      exact A.ok _ _ _ _ _ _ h1 hp hf
    · cases hd
  fb b n ρ x hf := A.fb _ _ _ _ hf
/-- A struct by value. -/
def Dv.agg {α : Type} (A : El α) : Dv α where
  dec s := match s.agg? with
    | some l => A.decs l
    | none => none
  enc a := .agg (A.cells a)
  bd := A.bd
  cl a := cl_agg (A.cl a)
  ok s a ps n ρ x hd hp hf := by
    split at hd
    · rename_i l hl
      obtain ⟨v, rfl, hv⟩ := SV.agg_fit hl hf
      exact ⟨v, rfl, A.ok _ _ _ _ _ _ hd hp hv⟩
    · cases hd
  fb a n ρ x hf := by
    obtain ⟨v, rfl, hv⟩ := hf
    exact A.fb _ _ _ _ hv

/-! ### lists -/
section
variable {α : Type} (A : El α)
def El.els (xs : List α) : Nat → List SV := fun e => A.cells (xs.getD e A.dflt)
def El.get (l : List SV) : α :=
  match A.decs l with
  | some (a, _) => a
  | none => A.dflt
def El.lst (n : Nat) (el : Nat → List SV) : List α := (List.range n).map fun e => A.get (el e)
def El.Ok (l : List SV) : Prop := ∃ a ps, A.decs l = some (a, ps) ∧ ∀ p ∈ ps, p
theorem El.ok_cells (a : α) : A.Ok (A.cells a) := by
  obtain ⟨ps, h1, h2⟩ := A.dec_cells a
  exact ⟨a, ps, h1, h2⟩
theorem El.get_cells (a : α) : A.get (A.cells a) = a := by
  obtain ⟨ps, h1, h2⟩ := A.dec_cells a
  simp only [El.get, h1]
theorem El.lst_length (n : Nat) (el : Nat → List SV) : (A.lst n el).length = n := by simp [El.lst]
theorem El.ok_els (xs : List α) (e : Nat) : A.Ok (A.els xs e) := A.ok_cells _
theorem El.one_els (xs : List α) (e : Nat) : (A.els xs e).all SV.one = true := A.one _
theorem El.lst_getD (n : Nat) (el : Nat → List SV) (e : Nat) (he : e < n) : (A.lst n el).getD e A.dflt = A.get (el e) := by
  simp [El.lst, List.getD_eq_getElem?_getD, he]
theorem El.lst_els (xs : List α) : A.lst xs.length (A.els xs) = xs := by
  apply List.ext_getElem
  · simp [El.lst]
  · intro i h1 h2
    simp [El.lst, El.els, El.get_cells, h2]
theorem El.lst_take (n : Nat) (xs : List α) (h : n ≤ xs.length) : A.lst n (A.els xs) = xs.take n := by
  apply List.ext_getElem
  · simp [El.lst]; omega
  · intro i h1 h2
    have : i < xs.length := by simp at h2; omega
    simp [El.lst, El.els, El.get_cells, this]
theorem El.lst_sh (k n : Nat) (xs : List α) (h : k + n ≤ xs.length) : A.lst n (shEl k (A.els xs)) = (xs.drop k).take n := by
  apply List.ext_getElem
  · simp [El.lst]; omega
  · intro i h1 h2
    have : k + i < xs.length := by simp at h2; omega
    simp [El.lst, El.els, shEl, El.get_cells, this]
theorem El.lst_app (l k : Nat) (a b : ElE) : A.lst (l + k) (ElE.app l a b) = A.lst l a ++ A.lst k b := by
  simp only [El.lst]
  rw [List.range_add, List.map_append, List.map_map]
  congr 1
  · apply List.map_congr_left
    intro e he
    simp at he
    simp [ElE.at, he]
  · apply List.map_congr_left
    intro e he
    have : ¬ (l + e < l) := by omega
    simp [ElE.at, this]
theorem El.lst_zero (el : Nat → List SV) : A.lst 0 el = [] := rfl
theorem El.lst_one (el : Nat → List SV) : A.lst 1 el = [A.get (el 0)] := rfl
/-- What is asked of an element, where it says more than that it is one. -/
def El.OkP (l : List SV) : Prop :=
  match A.decs l with
  | some (_, []) => True
  | some (_, ps) => ∀ p ∈ ps, p
  | none => False
theorem El.okP {l : List SV} (h : A.OkP l) : A.Ok l := by
  unfold El.OkP at h
  split at h
  · rename_i a hd; exact ⟨a, [], hd, by simp⟩
  · rename_i a ps _ hd; exact ⟨a, ps, hd, h⟩
  · exact h.elim
/-- The list of a row, as it came about. -/
def El.lstE : Nat → ElE → List α
  | n, .fn f => A.lst n f
  | n, .set e ys r => (El.lstE n r).set e (A.get ys)
  | n, .put e o ys r => (El.lstE n r).set e (A.get ((r.at e).take o ++ ys ++ (r.at e).drop (o + ys.length)))
  | n, .app l a b => El.lstE (min n l) a ++ El.lstE (n - l) b
  | n, .sh k r => (El.lstE (k + n) r).drop k
  | n, .cond z a b => bif z then El.lstE n a else El.lstE n b
theorem El.lstE_eq : ∀ (n : Nat) (E : ElE), A.lstE n E = A.lst n E.at
  | n, .fn f => rfl
  | n, .set e ys r => by
    simp only [El.lstE]
    rw [El.lstE_eq n r]
    apply List.ext_getElem
    · simp [El.lst]
    · intro i h1 h2
      simp only [El.lst, List.getElem_map, List.getElem_range, List.getElem_set, ElE.at]
      by_cases h : i = e
      · subst h; simp
      · rw [if_neg h, if_neg (fun h' => h h'.symm)]
  | n, .put e o ys r => by
    simp only [El.lstE]
    rw [El.lstE_eq n r]
    apply List.ext_getElem
    · simp [El.lst]
    · intro i h1 h2
      simp only [El.lst, List.getElem_map, List.getElem_range, List.getElem_set, ElE.at]
      by_cases h : i = e
      · subst h; simp
      · rw [if_neg h, if_neg (fun h' => h h'.symm)]
  | n, .app l a b => by
    simp only [El.lstE]
    rw [El.lstE_eq _ a, El.lstE_eq _ b]
    apply List.ext_getElem
    · simp [El.lst]; omega
    · intro i h1 h2
      simp only [El.lst, List.getElem_map, List.getElem_range, ElE.at, List.getElem_append, List.length_map, List.length_range]
      have hn : i < n := by simpa [El.lst] using h2
      by_cases h : i < l
      · rw [dif_pos (by omega), if_pos h]
      · rw [dif_neg (by omega), if_neg h]
        congr 2
        omega
  | n, .sh k r => by
    simp only [El.lstE]
    rw [El.lstE_eq _ r]
    apply List.ext_getElem
    · simp [El.lst]
    · intro i h1 h2
      simp [El.lst, ElE.at]
  | n, .cond z a b => by
    simp only [El.lstE]
    rw [El.lstE_eq n a, El.lstE_eq n b]
    cases z <;> rfl
/-- What is to be shown of a row's elements. -/
def El.okE : Nat → ElE → List Prop
  | n, .fn f => [∀ e, e < n → A.OkP (f e)]
  | n, .set _ ys r => A.OkP ys :: El.okE n r
  | n, .put e o ys r => A.OkP ((r.at e).take o ++ ys ++ (r.at e).drop (o + ys.length)) :: El.okE n r
  | n, .app l a b => El.okE (min n l) a ++ El.okE (n - l) b
  | n, .sh k r => El.okE (k + n) r
  | n, .cond _ a b => El.okE n a ++ El.okE n b
theorem El.okE_ok : ∀ (n : Nat) (E : ElE), (∀ p ∈ A.okE n E, p) → ∀ e, e < n → A.Ok (E.at e)
  | n, .fn f, h, e, he => A.okP (h _ (List.mem_cons_self ..) e he)
  | n, .set e0 ys r, h, e, he => by
    simp only [ElE.at]
    split
    · exact A.okP (h _ (List.mem_cons_self ..))
    · exact El.okE_ok n r (fun p hp => h p (List.mem_cons_of_mem _ hp)) e he
  | n, .put e0 o ys r, h, e, he => by
    simp only [ElE.at]
    split
    · rename_i hee
      subst hee
      exact A.okP (h _ (List.mem_cons_self ..))
    · exact El.okE_ok n r (fun p hp => h p (List.mem_cons_of_mem _ hp)) e he
  | n, .app l a b, h, e, he => by
    simp only [ElE.at]
    split
    · exact El.okE_ok _ a (fun p hp => h p (List.mem_append_left _ hp)) e (by omega)
    · exact El.okE_ok _ b (fun p hp => h p (List.mem_append_right _ hp)) _ (by omega)
  | n, .sh k r, h, e, he => El.okE_ok (k + n) r h (k + e) (by omega)
  | n, .cond z a b, h, e, he => by
    simp only [ElE.at]
    cases z with
    | true => exact El.okE_ok n a (fun p hp => h p (List.mem_append_left _ hp)) e he
    | false => exact El.okE_ok n b (fun p hp => h p (List.mem_append_right _ hp)) e he
theorem El.lst_bif (z : Bool) (n m : Nat) (a b : Nat → List SV) : A.lst (bif z then n else m) (bif z then a else b) = bif z then A.lst n a else A.lst m b := by cases z <;> rfl
end
/-- A slice that is only read, of elements. -/
def Dv.list {α : Type} (A : El α) : Dv (List α) where
  dec s := match s with
    | .rs sz n el => bif Nat.beq sz A.sz then some (A.lst n el, [∀ e, e < n → A.Ok (el e)]) else none
    | .k y => bif nilK y then some ([], []) else none
    | _ => none
  enc xs := .rs A.sz xs.length (A.els xs)
  bd xs := xs.length ≤ maxLen ∧ ∀ a ∈ xs, A.bd a
  cl xs := cl_rs fun e => A.cl _
  ok s a ps n ρ x hd hp hf := by
    split at hd
    · rename_i sz m el
      cases hb : Nat.beq sz A.sz with
      | false => rw [hb] at hd; cases hd
      | true =>
        rw [hb] at hd
        simp only [cond_true, Option.some.injEq, Prod.mk.injEq] at hd
        obtain ⟨rfl, rfl⟩ := hd
        have hk := hp _ (List.mem_cons_self ..)
        have := beq_of hb
        subst this
        simp only [SV.fit] at hf ⊢
        rw [A.lst_length]
        obtain ⟨p, c, h0, h1, h2, h3⟩ := hf
        refine ⟨p, c, h0, h1, h2, fun hl => ?_⟩
        obtain ⟨b, o, cs, t, fz, k1, k2, k3⟩ := h3 hl
        refine ⟨b, o, cs, t, fz, k1, k2, fun e he => ?_⟩
        obtain ⟨vs, q1, q2, q3⟩ := k3 e he
        refine ⟨vs, q1, ?_, q3⟩
        simp only [El.els]
        rw [A.lst_getD _ _ _ he]
        obtain ⟨a, ps, d1, d2⟩ := hk e he
        have := A.ok _ _ _ _ _ _ d1 d2 q2
        simpa only [El.get, d1] using this
    · rename_i y
      cases hb : nilK y with
      | false => rw [hb] at hd; cases hd
      | true =>
        rw [hb] at hd
        simp only [cond_true, Option.some.injEq, Prod.mk.injEq] at hd
        obtain ⟨rfl, rfl⟩ := hd
        have := nilK_eq hb
        subst this
        simp only [SV.fit] at hf
        subst hf
        exact rs_nil _ _
    · cases hd
  fb xs n ρ x hf := by
    simp only [SV.fit] at hf
    obtain ⟨p, c, h0, h1, h2, h3⟩ := hf
    refine ⟨by omega, fun a ha => ?_⟩
    obtain ⟨i, hi, rfl⟩ := List.getElem_of_mem ha
    obtain ⟨b, o, cs, t, fz, k1, k2, k3⟩ := h3 (by omega)
    obtain ⟨vs, q1, q2, q3⟩ := k3 i hi
    have := A.fb _ _ _ _ q2
    simpa [List.getD_eq_getElem?_getD, hi] using this
def nilM : Value → Bool
  | .map none => true
  | _ => false
theorem nilM_eq {y : Value} (h : nilM y = true) : y = .map none := by
  unfold nilM at h
  split at h
  · rfl
  · cases h
/-- A map that is only read; 'ka', 'va': its keys, its values take more than one cell by their nature. -/
def Dv.map {α β : Type} (ka va : Bool) (K : El α) (V : El β) : Dv (List (α × β)) where
  dec s := match s with
    | .rm ks vs m ka' va' el => bif Nat.beq ks K.sz && (Nat.beq vs V.sz && (ka == ka' && va == va')) then some ((El.pair K V).lst m el, [∀ e, e < m → (El.pair K V).Ok (el e)]) else none
    | .k y => bif nilM y then some ([], []) else none
    | _ => none
  enc xs := .rm K.sz V.sz xs.length ka va ((El.pair K V).els xs)
  bd xs := ∀ a ∈ xs, (El.pair K V).bd a
  cl xs := cl_rm fun e => (El.pair K V).cl _
  ok s a ps n ρ x hd hp hf := by
    split at hd
    · rename_i ks vs m ka' va' el
      cases hb : Nat.beq ks K.sz && (Nat.beq vs V.sz && (ka == ka' && va == va')) with
      | false => rw [hb] at hd; cases hd
      | true =>
        rw [hb] at hd
        simp only [cond_true, Option.some.injEq, Prod.mk.injEq] at hd
        obtain ⟨rfl, rfl⟩ := hd
        have hk := hp _ (List.mem_cons_self ..)
        simp only [Bool.and_eq_true, beq_iff_eq] at hb
        obtain ⟨b1, b2, b3, b4⟩ := hb
        have e1 := beq_of b1
        have e2 := beq_of b2
        subst e1; subst e2; subst b3; subst b4
        simp only [SV.fit] at hf ⊢
        rw [El.lst_length]
        rcases hf with hf | ⟨b, es, clk, k1, k2, k3, k4, k5⟩
        · exact .inl hf
        · refine .inr ⟨b, es, clk, k1, k2, k3, k4, fun e he => ?_⟩
          obtain ⟨y, kc, vc, q1, q2, q3⟩ := k5 e he
          refine ⟨y, kc, vc, q1, ?_, q3⟩
          simp only [El.els]
          rw [El.lst_getD _ _ _ _ he]
          obtain ⟨a, ps, d1, d2⟩ := hk e he
          have := (El.pair K V).ok _ _ _ _ _ _ d1 d2 q2
          simpa only [El.get, d1] using this
    · rename_i y
      cases hb : nilM y with
      | false => rw [hb] at hd; cases hd
      | true =>
        rw [hb] at hd
        simp only [cond_true, Option.some.injEq, Prod.mk.injEq] at hd
        obtain ⟨rfl, rfl⟩ := hd
        have := nilM_eq hb
        subst this
        simp only [SV.fit] at hf ⊢
        exact .inl ⟨hf, rfl⟩
    · cases hd
  fb xs n ρ x hf := by
    simp only [SV.fit] at hf
    intro a ha
    obtain ⟨i, hi, rfl⟩ := List.getElem_of_mem ha
    rcases hf with ⟨_, hf⟩ | ⟨b, es, clk, k1, k2, k3, k4, k5⟩
    · omega
    · obtain ⟨y, kc, vc, q1, q2, q3⟩ := k5 i hi
      have := (El.pair K V).fb _ _ _ _ q2
      simpa [List.getD_eq_getElem?_getD, hi] using this
/-- The head of a slice as a cell. -/
def eList {α : Type} (A : El α) : El (List α) := .one' (.list A) [] (fun _ => rfl) fun xs => ⟨[∀ e, e < xs.length → A.Ok (A.els xs e)], by simp [Dv.list, A.lst_els], by
  intro p hp
  simp only [List.mem_singleton] at hp
  subst hp
  exact fun e _ => A.ok_els xs e⟩

/-! ### several values: arguments, results -/
structure DA (γ : Type) where
  dec : List SV → Option (γ × List Prop)
  enc : γ → List SV
  bd : γ → Prop
  cl : ∀ g, Cls (enc g)
  ok : ∀ (l : List SV) (g : γ) (ps : List Prop) (n : Nat) (ρ : Rh) (x : List Value), dec l = some (g, ps) → (∀ p ∈ ps, p) → SV.fits n ρ l x → SV.fits n ρ (enc g) x
  fb : ∀ (g : γ) (n : Nat) (ρ : Rh) (x : List Value), SV.fits n ρ (enc g) x → bd g
abbrev DA.T {γ : Type} (_ : DA γ) : Type := γ
def DA.none : DA Unit where
  dec l := match l with
    | [] => some ((), [])
    | _ => Option.none
  enc _ := []
  bd _ := True
  cl _ := cls_nil
  ok l g ps n ρ x hd hp hf := by
    split at hd
    · exact hf
    · cases hd
  fb _ _ _ _ _ := trivial
def DA.one {α : Type} (A : Dv α) : DA α where
  dec l := match l with
    | [s] => A.dec s
    | _ => Option.none
  enc a := [A.enc a]
  bd := A.bd
  cl a := cls_cons (A.cl a) cls_nil
  ok l a ps n ρ x hd hp hf := by
    split at hd
    · obtain ⟨y, r, rfl, hy, hr⟩ := fits_cons hf
      exact ⟨A.ok _ _ _ _ _ _ hd hp hy, hr⟩
    · cases hd
  fb a n ρ x hf := by
    obtain ⟨y, r, rfl, hy, hr⟩ := fits_cons hf
    exact A.fb _ _ _ _ hy
def DA.cons {α γ : Type} (A : Dv α) (D : DA γ) : DA (α × γ) where
  dec l := match l with
    | s :: r => match A.dec s with
      | some (a, ps) => match D.dec r with
        | some (g, qs) => some ((a, g), ps ++ qs)
        | Option.none => Option.none
      | Option.none => Option.none
    | [] => Option.none
  enc g := A.enc g.1 :: D.enc g.2
  bd g := A.bd g.1 ∧ D.bd g.2
  cl g := cls_cons (A.cl _) (D.cl _)
  ok l g ps n ρ x hd hp hf := by
    split at hd
    · rename_i s r
      split at hd
      · rename_i a ps0 h1
        split at hd
        · rename_i g0 qs0 h2
          simp only [Option.some.injEq, Prod.mk.injEq] at hd
          obtain ⟨rfl, rfl⟩ := hd
          obtain ⟨y, r', rfl, hy, hr⟩ := fits_cons hf
          exact ⟨A.ok _ _ _ _ _ _ h1 (fun p hp' => hp p (List.mem_append_left _ hp')) hy, D.ok _ _ _ _ _ _ h2 (fun p hp' => hp p (List.mem_append_right _ hp')) hr⟩
        · cases hd
      · cases hd
    · cases hd
  fb g n ρ x hf := by
    obtain ⟨y, r, rfl, hy, hr⟩ := fits_cons hf
    exact ⟨A.fb _ _ _ _ hy, D.fb _ _ _ _ hr⟩
/-- Two or more results. -/
def Dv.tup {γ : Type} (D : DA γ) : Dv γ where
  dec s := match s with
    | .tup l => D.dec l
    | _ => none
  enc g := .tup (D.enc g)
  bd := D.bd
  cl g := cl_tup (D.cl g)
  ok s a ps n ρ x hd hp hf := by
    split at hd
    · obtain ⟨v, rfl, hv⟩ := hf
      exact ⟨v, rfl, D.ok _ _ _ _ _ _ hd hp hv⟩
    · cases hd
  fb g n ρ x hf := by
    obtain ⟨v, rfl, hv⟩ := hf
    exact D.fb _ _ _ _ hv
end Go.Sx
