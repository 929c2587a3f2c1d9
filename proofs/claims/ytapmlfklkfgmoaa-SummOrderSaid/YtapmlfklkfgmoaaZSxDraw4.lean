/- Regions whose order is drawn: soundness. -/
import Derived.Test.YtapmlfklkfgmoaaZSxDraw3
set_option linter.unusedVariables false
namespace Go.Sx
open Go.RowKit

theorem zipIdx_all {α : Type} {p : α × Nat → Bool} {l : List α} (h : l.zipIdx.all p = true) {i : Nat} {x : α} (hx : l[i]? = some x) : p (x, i) = true := by
  rw [List.all_eq_true] at h
  exact h (x, i) (by rw [List.mk_mem_zipIdx_iff_getElem?]; exact hx)
theorem zipIdx_take_all {α : Type} {p : α × Nat → Bool} {l : List α} {j : Nat} (h : (l.zipIdx.take j).all p = true) {i : Nat} {x : α} (hx : l[i]? = some x) (hij : i < j) : p (x, i) = true := by
  rw [List.all_eq_true] at h
  refine h (x, i) ?_
  rw [List.mem_iff_getElem?]
  refine ⟨i, ?_⟩
  rw [List.getElem?_take, if_pos hij, List.getElem?_zipIdx, hx]
  simp

section
variable {P : Program} {M : Nat → Prop} {w0 : World}

theorem any_beq {l : List Nat} {t : Nat} (h : t ∈ l) : l.any (Nat.beq t) = true := by
  rw [List.any_eq_true]; exact ⟨t, h, by simp⟩

theorem draw_ok {Q : Nat → Bool} {run yld : Nat → Con} (hrun : ∀ f, FnOk P f (run f)) (hyld : YldOk P yld) (hQ : ∀ f, Q f = true → ∀ args h, (run f args h).Each fun y => y.2 = h) {ops : Array Oper} (hd : drawOk P Q ops = true) {id : Nat}
    {w : World} {ρ0 : Rh} {σ : St} {a : Act} {K : St → Prop} {rd : Option Nat} (hK : (drawOps P run yld ops ops.toList σ).Holds K) (hm : Mod M w0 ρ0 σ a w) {Qx : Exit → Act → World → Prop}
    (hQx : ∀ σ' ρ' a' w', K σ' → σ.h.nx ≤ σ'.h.nx → Agree σ.h.nx ρ0 ρ' → Mod M w0 ρ' σ' a' w' → Qx .normal a' w') : (Code.region id ops true).wpIn (Fw rd) 0 P Qx a w := by
  simp only [drawOk, Bool.and_eq_true] at hd
  obtain ⟨⟨hmix, hback⟩, hpairs⟩ := hd
  have hb : ∀ i o, ops[i]? = some o → ∀ e ∈ edgesOf o, e < i := by
    intro i o ho e he
    have := zipIdx_all hback (i := i) (x := o) (by simpa using ho)
    simp only [List.all_eq_true] at this
    have := this e he
    simpa [Nat.blt_eq] using this
  have hlist : ∀ i : Nat, ops.toList[i]? = ops[i]? := by simp
  -- what the pairs say
  have hpair : ∀ (E : Nat → Prop), EClosed ops.toList E → ∀ i j oi oj, i < j → ops[i]? = some oi → ops[j]? = some oj → needs Q ops.toList oi oj = true → (∀ e ∈ edgesOf oj, E e) → E i := by
    intro E hE i j oi oj hij hoi hoj hn he
    have h1 := zipIdx_all hpairs (i := j) (x := oj) (by simpa using hoj)
    have h2 := zipIdx_take_all h1 (i := i) (x := oi) (by simpa using hoi) hij
    simp only [hn, Bool.not_true, Bool.false_or] at h2
    exact befs_ok hE ops.toList [] [] rfl rfl (fun i o hi => by simp at hi) j oj (by simpa using hoj) he i h2
  obtain ⟨σn, st, g, s, H, T, hKn, tr⟩ := trace_ok (P := P) ops.toList 0 σ σ.slot (by simp) (fun _ _ _ _ h => h) hK
  rw [Nat.zero_add] at tr
  have hnlen : ops.toList.length = ops.size := by simp
  rw [hnlen] at tr
  -- a change of memory
  have hquiet : ∀ i o, i < ops.size → ops[i]? = some o → quietO Q o.op = true → H (i + 1) = H i := by
    intro i o hi ho hq
    cases hg : g i with
    | false => exact (tr.no i (Nat.zero_le _) hi hg).1
    | true =>
      exact tr.each i o (Nat.zero_le _) hi ho hg _ (each_op (P := P) (h := H i) (yld := yld) hQ (ev := (st i).ev) (fun _ => rfl) hq)
  have hHconst : ∀ b a', a' ≤ b → b ≤ ops.size → (∀ j o, a' ≤ j → j < b → ops[j]? = some o → quietO Q o.op = true) → H b = H a' := by
    intro b
    induction b with
    | zero => intro a' h _ _; have : a' = 0 := by omega
              rw [this]
    | succ b ih =>
      intro a' hab hbn hq
      by_cases hab' : a' = b + 1
      · rw [hab']
      · have ho : ops[b]? = some ops[b] := getElem?_pos ops b (by omega)
        rw [hquiet b _ (by omega) ho (hq b _ (by omega) (by omega) ho)]
        exact ih a' (by omega) (by omega) fun j o h1 h2 h3 => hq j o h1 (by omega) h3
  have hTconst : ∀ t b a', a' ≤ b → b ≤ ops.size → (∀ j o, a' ≤ j → j < b → ops[j]? = some o → o.dst ≠ some t) → T b t = T a' t := by
    intro t b
    induction b with
    | zero => intro a' h _ _; have : a' = 0 := by omega
              rw [this]
    | succ b ih =>
      intro a' hab hbn hq
      by_cases hab' : a' = b + 1
      · rw [hab']
      · have ho : ops[b]? = some ops[b] := getElem?_pos ops b (by omega)
        rw [tr.next b _ t (Nat.zero_le _) (by omega) ho, if_neg (hq b _ (by omega) (by omega) ho)]
        exact ih a' (by omega) (by omega) fun j o h1 h2 h3 => hq j o h1 (by omega) h3
  -- the run, in whatever order
  have main : ∀ (L : List Nat) (E : Nat → Prop) (ρ : Rh) (a : Act) (w : World) (k : Nat), Lin ops.toList E L → EClosed ops.toList E → (∀ j, E j → j < ops.size) → k ≤ ops.size →
      (∀ j o, ops[j]? = some o → quietO Q o.op = false → (E j ↔ j < k)) → HM M w0 ρ (H k) w → σ.h.nx ≤ (H k).nx → Agree σ.h.nx ρ0 ρ → a.tmps.size = σ.n → a.defers = σ.d.map (markOf ρ) →
      (∀ t, t < σ.n → ∀ i, i ≤ ops.size → (∀ j o, ops[j]? = some o → o.dst = some t → (E j ↔ j < i)) → (T i t).fit (H k).nx ρ (a.tmps.getD t undef)) →
      wpOpsIn (Fw rd) 0 P ops Qx L a w := by
    intro L
    induction L with
    | nil =>
      intro E ρ a w k hlin hcl hEn hk heff hHM hnx hag hsz hdf hsl
      simp only [wpOpsIn]
      have hall : ∀ i, i < ops.size → E i := by
        cases hlin with
        | nil h => intro i hi; exact h i (by simpa using hi)
      have hHk : H ops.size = H k := hHconst ops.size k hk (Nat.le_refl _) fun j o h1 h2 h3 => by
        cases hq : quietO Q o.op with
        | true => rfl
        | false => have := (heff j o h3 hq).1 (hall j h2); omega
      rw [← hHk, tr.hn] at hHM hnx
      refine hQx σn ρ a w hKn hnx hag ⟨⟨by rw [tr.nn]; exact hsz, fun t ht => ?_⟩, by rw [tr.dn]; exact hdf, fun i hi => ?_, hHM⟩
      · rw [tr.nn] at ht
        have h1 := hsl t ht ops.size (Nat.le_refl _) (fun j o ho _ => by
          have : j < ops.size := (Array.getElem?_eq_some_iff.1 ho).1
          exact ⟨fun _ => this, fun _ => hall j this⟩)
        rw [← hHk, tr.hn] at h1
        rw [St.look_lg]
        exact tr.tn t _ _ _ h1
      · rw [tr.dn] at hi
        exact Nat.lt_of_lt_of_le (hm.dl i hi) hnx
    | cons i L ih =>
      intro E ρ a w k hlin hcl hEn hk heff hHM hnx hag hsz hdf hsl
      cases hlin with
      | cons ho hnE hed hrest =>
        rename_i o
        have ho' : ops[i]? = some o := by simpa using ho
        have hi : i < ops.size := (Array.getElem?_eq_some_iff.1 ho').1
        have hcl' : EClosed ops.toList (fun j => E j ∨ j = i) := by
          rintro j oj (hj | rfl) hoj e he
          · exact .inl (hcl j oj hj hoj e he)
          · rw [ho] at hoj; injection hoj with hoj; subst hoj
            exact .inl (hed e he)
        -- an operation that must stand in the text's order to this one
        have hord : ∀ j oj, ops[j]? = some oj → j ≠ i → needs Q ops.toList oj o = true → needs Q ops.toList o oj = true → (E j ↔ j < i) := by
          intro j oj hoj hji hn1 hn2
          constructor
          · intro hj
            rcases Nat.lt_or_gt_of_ne hji with h | h
            · exact h
            · exact absurd (hpair E hcl i j o oj h ho' hoj hn2 (hcl j oj hj (by simpa using hoj))) hnE
          · intro h
            exact hpair E hcl j i oj o h hoj ho' hn1 hed
        have hneedL : freeO o.op = false → ∀ oj, quietO Q oj.op = false → needs Q ops.toList oj o = true ∧ needs Q ops.toList o oj = true := by
          intro hfo oj hq; constructor <;> simp [needs, hq, hfo]
        have hneedW : ∀ oj t, oj.dst = some t → (o.dst = some t ∨ t ∈ tmpsOf ops.toList o) → needs Q ops.toList oj o = true ∧ needs Q ops.toList o oj = true := by
          intro oj t ht hor
          rcases hor with h | h
          · constructor <;> simp [needs, ht, h]
          · constructor
            · simp [needs, ht, any_beq h]
            · simp [needs, ht, any_beq h]
        -- memory is as at this operation in the text's order
        have hHi : freeO o.op = false → H i = H k := by
          intro hfo
          rcases Nat.le_total k i with hki | hki
          · exact hHconst i k hki (by omega) fun j oj h1 h2 h3 => by
              cases hq : quietO Q oj.op with
              | true => rfl
              | false =>
                have hn := hneedL hfo oj hq
                have e1 := (hord j oj h3 (by omega) hn.1 hn.2).2 h2
                have := (heff j oj h3 hq).1 e1; omega
          · exact (hHconst k i hki hk fun j oj h1 h2 h3 => by
              cases hq : quietO Q oj.op with
              | true => rfl
              | false =>
                by_cases hji : j = i
                · subst hji
                  exact absurd ((heff j oj h3 hq).2 h2) hnE
                · have hn := hneedL hfo oj hq
                  have e1 := (heff j oj h3 hq).2 h2
                  have := (hord j oj h3 hji hn.1 hn.2).1 e1; omega).symm
        -- the slots that it reads
        have hread : ∀ t, t ∈ tmpsOf ops.toList o → t < σ.n → (T i t).fit (H k).nx ρ (a.tmps.getD t undef) := by
          intro t ht htn
          refine hsl t htn i (by omega) fun j oj hoj hdst => ?_
          by_cases hji : j = i
          · subst hji
            exact ⟨fun h => absurd h hnE, fun h => by omega⟩
          · have hn := hneedW oj t hdst (.inr ht)
            exact hord j oj hoj hji hn.1 hn.2
        have hwanted : Region.wanted o (yielded ops a.tmps) = g i := by
          by_cases hg : ∃ j w d, o.guard = some (j, w) ∧ (ops[j]?).bind (·.dst) = some d
          · obtain ⟨j, wv, d, h1, h2⟩ := hg
            have hdn := tr.glt i o j wv d (Nat.zero_le _) hi ho' h1 h2
            · refine tr.guard i o (Nat.zero_le _) hi ho' a.tmps (H k).nx ρ hsz fun j' w' d' h1' h2' => ?_
              rw [h1] at h1'; injection h1' with h1'; injection h1' with e1 e2; subst e1
              rw [h2] at h2'; injection h2' with e3; subst e3
              refine hread d ?_ hdn
              simp only [tmpsOf, h1, hlist]
              cases hoj : ops[j]? with
              | none => rw [hoj] at h2; cases h2
              | some og =>
                rw [hoj] at h2
                simp only [Option.bind_some] at h2
                simp [h2]
          · exact tr.guard i o (Nat.zero_le _) hi ho' a.tmps (H k).nx ρ hsz fun j w d h1 h2 => absurd ⟨j, w, d, h1, h2⟩ hg
        -- what stands behind it
        have fin : ∀ (h2 : SH), (freeO o.op = true ∧ h2 = H k ∨ freeO o.op = false ∧ h2 = H (i + 1)) → ∀ (ρ' : Rh) (x : Value) (w' : World), (H k).nx ≤ h2.nx → Agree (H k).nx ρ ρ' → HM M w0 ρ' h2 w' → (s i).fit h2.nx ρ' x → wpOpsIn (Fw rd) 0 P ops Qx L (a.put o.dst x) w' := by
          intro h2 hor ρ' x w' hn1 ha1 hHM1 hfx
          have hk' : ∃ k', k' ≤ ops.size ∧ H k' = h2 ∧ ∀ j oj, ops[j]? = some oj → quietO Q oj.op = false → ((E j ∨ j = i) ↔ j < k') := by
            cases hq : quietO Q o.op with
            | true =>
              refine ⟨k, hk, ?_, fun j oj hoj hqj => ?_⟩
              · rcases hor with ⟨_, rfl⟩ | ⟨hfo, rfl⟩
                · rfl
                · rw [hquiet i o hi ho' hq, hHi hfo]
              have hji : j ≠ i := by
                rintro rfl
                rw [ho'] at hoj; injection hoj with hoj; subst hoj
                rw [hq] at hqj; cases hqj
              rw [← heff j oj hoj hqj]
              exact ⟨fun h => h.resolve_right hji, .inl⟩
            | false =>
              have hfo : freeO o.op = false := by
                cases hf : freeO o.op with
                | false => rfl
                | true => rw [free_quiet hf] at hq; cases hq
              rcases hor with ⟨hf, _⟩ | ⟨_, rfl⟩
              · rw [hfo] at hf; cases hf
              refine ⟨i + 1, by omega, rfl, fun j oj hoj hqj => ?_⟩
              by_cases hji : j = i
              · subst hji; exact ⟨fun _ => Nat.lt_succ_self _, fun _ => .inr rfl⟩
              · have hn := hneedL hfo oj hqj
                have e1 := hord j oj hoj hji hn.1 hn.2
                constructor
                · rintro (h | h)
                  · have := e1.1 h; omega
                  · exact absurd h hji
                · intro h; exact .inl (e1.2 (by omega))
          obtain ⟨k', hk'n, hHk', heff'⟩ := hk'
          refine ih (fun j => E j ∨ j = i) ρ' (a.put o.dst x) w' k' hrest hcl' (fun j hj => hj.elim (hEn j) fun e => e ▸ hi) hk'n heff' (by rw [hHk']; exact hHM1) (by rw [hHk']; exact Nat.le_trans hnx hn1) (hag.trans hnx ha1)
            (by rw [put_size]; exact hsz) (by rw [put_defers, hdf]; exact (marks_agree (Agree.trans (Agree.refl _ _) hnx ha1) σ.d hm.dl).symm) fun t htn i' hi' hw => ?_
          rw [hHk']
          by_cases hdt : o.dst = some t
          · have hlt : i < i' := (hw i o ho' hdt).1 (.inr rfl)
            have hT1 : T (i + 1) t = s i := by rw [tr.next i o t (Nat.zero_le _) hi ho', if_pos hdt]
            have hT2 : T i' t = T (i + 1) t := hTconst t i' (i + 1) (by omega) hi' fun j oj h1 h2 h3 h4 => by
              have hE := (hw j oj h3 h4).2 h2
              have hji : j ≠ i := by omega
              have hn := hneedW oj t h4 (.inl hdt)
              have := (hord j oj h3 hji hn.1 hn.2).1 (hE.resolve_right hji)
              omega
            rw [hT2, hT1, hdt]
            have htz : t < a.tmps.size := by rw [hsz]; exact htn
            simp only [Act.put, Array.getD_eq_getD_getElem?, Array.getElem?_setIfInBounds, htz, if_true, Option.getD_some]
            exact hfx
          · have hold := hsl t htn i' hi' fun j oj hoj hdst => by
              rw [← hw j oj hoj hdst]
              have hji : j ≠ i := by
                rintro rfl
                rw [ho'] at hoj; injection hoj with hoj; subst hoj
                exact hdt hdst
              exact ⟨.inl, fun h => h.resolve_right hji⟩
            have : (a.put o.dst x).tmps.getD t undef = a.tmps.getD t undef := by
              cases hdd : o.dst with
              | none => rfl
              | some d =>
                simp only [Act.put, Array.getD_eq_getD_getElem?, Array.getElem?_setIfInBounds]
                rw [if_neg (fun e => hdt (by rw [hdd, e]))]
            rw [this]
            exact SV.fit_mono hn1 ha1 _ _ hold
        simp only [wpOpsIn, ho', hwanted]
        cases hg : g i with
        | true =>
          rw [if_pos rfl]
          have hy := tr.yes i o (Nat.zero_le _) hi ho' hg
          have himp := tr.imp i (Nat.zero_le _) hi
          let ev' : Operand → SV := fun x => match x with
            | .tmp t => if t ∈ tmpsOf ops.toList o then (st i).ev (.tmp t) else .u
            | x => (st i).ev x
          have hcong : opS P run yld ev' (H i) o.op = opS P run yld (st i).ev (H i) o.op := opS_congr fun x hx => by
            cases x with
            | tmp t =>
              have : t ∈ tmpsOf ops.toList o := by
                simp only [tmpsOf, List.mem_append, List.mem_filterMap]
                exact .inl ⟨.tmp t, by simpa using hx, rfl⟩
              simp only [ev', if_pos this]
            | _ => rfl
          have hy' : ∃ h2, (freeO o.op = true ∧ h2 = H k ∨ freeO o.op = false ∧ h2 = H (i + 1)) ∧ (opS P run yld ev' (H k) o.op).Holds (· = (s i, h2)) := by
            cases hfo : freeO o.op with
            | true =>
              rw [← hcong] at hy
              exact ⟨H k, .inl ⟨rfl, rfl⟩, free_holds hfo hy⟩
            | false =>
              rw [← hcong, hHi hfo] at hy
              exact ⟨H (i + 1), .inr ⟨rfl, rfl⟩, hy⟩
          obtain ⟨h2x, hor, hy⟩ := hy'
          have hev : ∀ x, (ev' x).fit (H k).nx ρ (a.eval x) := by
            intro x
            cases x with
            | tmp t =>
              simp only [ev']
              by_cases ht : t ∈ tmpsOf ops.toList o
              · rw [if_pos ht]
                simp only [St.ev, himp.2, Act.eval]
                cases hbl : Nat.blt t σ.n with
                | true =>
                  have htn : t < σ.n := by simpa [Nat.blt_eq] using hbl
                  simp only [cond_true]
                  exact himp.1 t _ _ _ (hread t ht htn)
                | false =>
                  have : ¬ t < σ.n := by
                    intro h
                    have : Nat.blt t σ.n = true := by simpa [Nat.blt_eq] using h
                    rw [this] at hbl; cases hbl
                  simp only [cond_false, SV.fit, Array.getD]
                  rw [dif_neg (fun hlt => this (hsz ▸ hlt))]
              · rw [if_neg ht]; trivial
            | const v => simp [ev', St.ev, Act.eval, SV.fit]
            | global gl => simp [ev', St.ev, Act.eval, SV.fit]
            | func f => simp [ev', St.ev, Act.eval, SV.fit, SV.fits]
          have hop := op_ok (P := P) hrun hyld (o := o) (a := a) hHM hev hy
          refine hop rd _ _ fun s' h' ρ' x w' h1 h2 h3 h4 h5 => ?_
          injection h1 with e1 e2
          subst e1; subst e2
          exact fin _ hor ρ' x w' h2 h3 h4 h5
        | false =>
          rw [if_neg (by simp)]
          refine ⟨fun _ _ => trivial, ?_⟩
          obtain ⟨e1, e2⟩ := tr.no i (Nat.zero_le _) hi hg
          have hor : freeO o.op = true ∧ H k = H k ∨ freeO o.op = false ∧ H k = H (i + 1) := by
            cases hfo : freeO o.op with
            | true => exact .inl ⟨rfl, rfl⟩
            | false => exact .inr ⟨rfl, by rw [e1, hHi hfo]⟩
          refine fin (H k) hor ρ undef w (Nat.le_refl _) (Agree.refl _ _) hHM ?_
          rw [e2]; rfl
  refine wpIn_region_draw fun t => ?_
  have hlin := lin_all hb hmix t
  refine main _ _ ρ0 a _ 0 hlin (fun j o h => h.elim) (fun j h => h.elim) (Nat.zero_le _) (fun j o _ _ => ⟨fun h => h.elim, fun h => by omega⟩) (by rw [tr.h0]; exact hm.hp.below ⟨rfl, rfl, rfl, Nat.le_refl _, fun _ _ => rfl⟩) (by rw [tr.h0]; exact Nat.le_refl _) (Agree.refl _ _)
    hm.tm.1 hm.df fun t ht i hi hw => ?_
  have : T i t = T 0 t := hTconst t i 0 (Nat.zero_le _) hi fun j o h1 h2 h3 h4 => ((hw j o h3 h4).2 h2).elim
  rw [this, tr.t0, tr.h0]
  have := hm.tm.2 t ht
  rwa [St.look_lg] at this
end
end Go.Sx
