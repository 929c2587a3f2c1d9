/- Contracts of functions that write a slice which is handed in: a row of the caller's own. -/
import Derived.Test.YtiipneclghnfhaaZG0692ae73
import Derived.Test.YtiipneclghnfhaaRows
set_option linter.unusedVariables false
set_option linter.unusedSimpArgs false
set_option linter.constructorNameAsVariable false
set_option linter.all false

namespace Go.Sx
open Go.RowKit
/-- The block of a row of one's own. -/
def ownB (L : Lc) : Nat → Prop := fun b => L.nl = false ∧ b = L.blk
/-- All old blocks but some are as they were. -/
structure BelowM (B : Nat → Prop) (w w' : World) : Prop where
  os : w'.os = w.os
  tape : w'.tape = w.tape
  output : w'.output = w.output
  size : w.heap.size ≤ w'.heap.size
  block : ∀ k, k < w.heap.size → ¬ B k → w'.heap[k]? = w.heap[k]?
/-- Results: plain data, or beginnings of the row that was handed in. -/
structure RM (δ : Type) where
  dec : SV → Option (δ × List Prop)
  enc : Nat → δ → SV
  ok : ∀ (s : SV) (d : δ) (ps : List Prop), dec s = some (d, ps) → (∀ p ∈ ps, p) → ∀ (n m i : Nat) (ρ ρ' : Rh) (x : Value), (∀ b o, ρ.mem b = some o → ρ'.mem b = some o) → ρ' i = ρ 0 → i < m → s.fit n ρ x → (enc i d).fit m ρ' x
  cl : ∀ (i : Nat) (d : δ) (n m : Nat) (ρ ρ' : Rh) (x : Value), (∀ b o, ρ.mem b = some o → ρ'.mem b = some o) → ρ' i = ρ i → i < m → (enc i d).fit n ρ x → (enc i d).fit m ρ' x
def RM.pure {δ : Type} (R : Dv δ) : RM δ where
  dec := R.dec
  enc _ d := R.enc d
  ok s d ps hd hp n m i ρ ρ' x hm _ _ hf := R.cl d n m ρ ρ' x hm (R.ok _ _ _ _ _ _ hd hp hf)
  cl i d n m ρ ρ' x hm _ _ hf := R.cl d n m ρ ρ' x hm hf
def RM.self : RM Nat where
  dec s := match s with
    | .ow 0 k => some (k, [])
    | .opt b (.ow 0 k) => some (k, [b = true])
    | _ => none
  enc i k := .ow i k
  ok s d ps hd hp n m i ρ ρ' x hm hi him hf := by
    split at hd
    · simp only [Option.some.injEq, Prod.mk.injEq] at hd
      obtain ⟨rfl, rfl⟩ := hd
      obtain ⟨_, hf⟩ := hf
      exact ⟨him, by rw [hi]; exact hf⟩
    · simp only [Option.some.injEq, Prod.mk.injEq] at hd
      obtain ⟨rfl, rfl⟩ := hd
      obtain ⟨_, hf⟩ := hf (hp _ (List.mem_cons_self ..))
      exact ⟨him, by rw [hi]; exact hf⟩
    · cases hd
  cl i d n m ρ ρ' x hm hi him hf := by
    obtain ⟨_, hf⟩ := hf
    exact ⟨him, by rw [hi]; exact hf⟩
section
variable {α : Type} (A : El α)
abbrev rowA (t : TypeId) (xs : List α) : SO := .row t A.sz (.fn (A.els xs)) xs.length
theorem rowA_cl {t : TypeId} {xs : List α} {n m : Nat} {ρ ρ' : Rh} {L : Lc} {o : Option Obj} (hm : ∀ b o, ρ.mem b = some o → ρ'.mem b = some o) (h : (rowA A t xs).fit n ρ L o) : (rowA A t xs).fit m ρ' L o := by
  refine ⟨h.1, ?_⟩
  rcases h.2 with h2 | ⟨h1, h2, c, fz, h3, h3', h4, h5, h6, h7⟩
  · exact .inl h2
  · refine .inr ⟨h1, h2, c, fz, h3, h3', h4, h5, h6, fun e he => ?_⟩
    obtain ⟨l, q1, q2, q3⟩ := h7 e he
    exact ⟨l, q1, A.cl _ _ _ _ _ _ hm q2, q3⟩
/-- A row of which the elements are known as plain data. -/
theorem rowA_of {t : TypeId} {el : ElE} {k n m : Nat} {ρ ρ' : Rh} {L : Lc} {o : Option Obj} (hm : ∀ b o, ρ.mem b = some o → ρ'.mem b = some o) (hk : ∀ e, e < k → A.Ok (el e)) (h : (SO.row t A.sz el k).fit n ρ L o) : (rowA A t (A.lstE k el)).fit m ρ' L o := by
  rw [A.lstE_eq]
  refine ⟨by rw [A.lst_length]; exact h.1, ?_⟩
  rw [A.lst_length]
  rcases h.2 with h2 | ⟨h1, h2, c, fz, h3, h3', h4, h5, h6, h7⟩
  · exact .inl h2
  · refine .inr ⟨h1, h2, c, fz, h3, h3', h4, h5, h6, fun e he => ?_⟩
    obtain ⟨l, q1, q2, q3⟩ := h7 e he
    obtain ⟨a, ps, d1, d2⟩ := hk e he
    refine ⟨l, q1, ?_, q3⟩
    have := A.cl a n m ρ ρ' l hm (A.ok _ _ _ _ _ _ d1 d2 q2)
    show SV.fits m ρ' (A.cells ((A.lst k el).getD e A.dflt)) l
    rw [A.lst_getD _ _ _ he]
    simpa only [El.get, d1] using this
end
/-- A function that writes the row that is its first argument. -/
def FnMut {α γ δ : Type} (P : Program) (f : Nat) (t : TypeId) (A : El α) (D : DA γ) (R : RM δ) (fn : List α → γ → List α × δ) (pre : List α → γ → List Prop) : Prop :=
  ∀ (w : World) (F : Nat → Option Obj) (L : Lc) (xs : List α) (g : γ) (v0 : Value) (vs : List Value), (∀ b o, F b = some o → w.heap[b]? = some o) → (∀ b, ownB L b → F b = none) → OwV L xs.length v0 →
    (∀ p ∈ pre xs g, p) → (rowA A t xs).fit 0 (emp F) L w.heap[L.blk]? → SV.fits 0 (emp F) (D.enc g) vs →
    Calls P f (v0 :: vs).toArray w fun e w' => ∃ x, e = .returned x ∧ BelowM (ownB L) w w' ∧ (rowA A t (fn xs g).1).fit 0 (emp (memAt F w w')) L w'.heap[L.blk]? ∧
      ∀ (m i : Nat) (ρ' : Rh), (∀ b o, memAt F w w' b = some o → ρ'.mem b = some o) → ρ' i = L → i < m → (R.enc i (fn xs g).2).fit m ρ' x
def mTree {α δ : Type} (P : Program) (Γ : Gam) (Λ : Lam) (n f : Nat) (t : TypeId) (A : El α) (R : RM δ) (xs : List α) (args : List SV) : Tr (List α × δ) :=
  (fnTree P Γ Λ n f (.ow 0 xs.length :: args) ⟨1, [(0, .o (rowA A t xs))], []⟩).bind fun y =>
    match y.2.get 0 with
    | .row t' sz el m => match Nat.beq t' t && Nat.beq sz A.sz with
      | true => asks (A.okE m el) (match R.dec y.1 with
        | some (r, ps) => asks ps (.ret (A.lstE m el, r))
        | none => .bad 650)
      | false => .bad 651
    | _ => .bad 652
section
variable {P : Program} {Γ : Gam} {Λ : Lam} {f t : Nat} {α γ δ : Type} {A : El α} {D : DA γ} {R : RM δ} {fn : List α → γ → List α × δ} {pre : List α → γ → List Prop}
theorem ow_of_owv {L : Lc} {l : Nat} {v : Value} {n i : Nat} {ρ : Rh} (hi : i < n) (hρ : ρ i = L) (h : OwV L l v) (hc : L.nl = false → l ≤ L.cap) : (SV.ow i l).fit n ρ v := by
  refine ⟨hi, ?_⟩
  rw [hρ]
  rcases h with ⟨h1, h2, a, h3⟩ | ⟨h1, h2⟩
  · exact .inl ⟨h1, h2, a, h3⟩
  · exact .inr ⟨h1, hc h1, h2⟩
theorem mut_of_tree (hΓ : ∀ f g, Γ.g f = some g → FnOk P f g) (hΛ : ∀ f k L, Λ f k = some L → ∀ b ∈ loopsOf P f, lkey b = k → LoopOk P b L.g) (n : Nat)
    (hT : ∀ xs g, D.bd g → xs.length ≤ maxLen → (∀ p ∈ pre xs g, p) → (mTree P Γ Λ n f t A R xs (D.enc g)).Holds (· = fn xs g)) : FnMut P f t A D R fn pre := by
  intro w F L xs g v0 vs hF hFo hv0 hpre hrow hfit
  have hbd := D.fb _ _ _ _ hfit
  have hT := hT xs g hbd hrow.1 hpre
  let ρ0 : Rh := ⟨fun _ => L, F, ⟨F, fun _ => none⟩⟩
  have hg0 : ∀ i, (⟨1, [(0, .o (rowA A t xs))], []⟩ : SH).get i = if i = 0 then rowA A t xs else .dead := fun i => by
    simp only [SH.get, lookE, SE.act]
    by_cases h : i = 0
    · subst h; rfl
    · rw [if_neg h]
      have : Nat.beq i 0 = false := by
        cases hb : Nat.beq i 0 with
        | false => rfl
        | true => exact absurd (beq_of hb) h
      rw [this]; rfl
  have hm0 : HM (ownB L) w ρ0 ⟨1, [(0, .o (rowA A t xs))], []⟩ w := {
    os := rfl
    tape := rfl
    output := rfl
    size := Nat.le_refl _
    block := fun _ _ _ => rfl
    lt := fun i h => by
      rw [hg0] at h
      by_cases hi : i = 0
      · subst hi; exact Nat.lt_succ_self _
      · rw [if_neg hi] at h; cases h
    ob := fun i => by
      rw [hg0]
      by_cases hi : i = 0
      · rw [if_pos hi]
        exact rowA_cl A (ρ := emp F) (fun _ _ h => h) hrow
      · rw [if_neg hi]; trivial
    ow := fun i h => by
      rw [hg0] at h
      by_cases hi : i = 0
      · rw [if_pos hi] at h
        exact .inr ⟨h, rfl⟩
      · rw [if_neg hi] at h; exact h.elim
    fz := hF
    sep := fun i h => by
      rw [hg0] at h
      by_cases hi : i = 0
      · rw [if_pos hi] at h
        exact hFo _ ⟨h, rfl⟩
      · rw [if_neg hi] at h; exact h.elim
    old := fun b o hb _ _ => hb
    inj := fun i j hi hj _ => by
      rw [hg0] at hi hj
      by_cases h1 : i = 0
      · by_cases h2 : j = 0
        · omega
        · rw [if_neg h2] at hj; exact hj.elim
      · rw [if_neg h1] at hi; exact hi.elim }
  have hcap : L.nl = false → xs.length ≤ L.cap := fun hnl => by
    rcases hrow.2 with ⟨h, _⟩ | ⟨_, _, _, _, _, _, _, h5, _⟩
    · rw [hnl] at h; cases h
    · exact h5
  have hargs : SV.fits 1 ρ0 (.ow 0 xs.length :: D.enc g) (v0 :: vs) := ⟨ow_of_owv (Nat.lt_succ_self _) rfl hv0 hcap, D.cl g 0 1 (emp F) ρ0 vs (fun _ _ h => h) hfit⟩
  have h0 := fnTree_ok hΓ hΛ n (ownB L) w w ρ0 ⟨1, [(0, .o (rowA A t xs))], []⟩ _ (v0 :: vs) _ (Tr.holds_bind hT) hm0 hargs
  refine h0.mono ?_
  rintro e w' ⟨s, h', ρ', x, h1, h2, h3, h4, h5, rfl⟩
  have hρ0 : ρ' 0 = L := h3.1 0 (Nat.lt_succ_self _)
  refine ⟨x, rfl, ⟨h4.os, h4.tape, h4.output, h4.size, fun k hk hB => h4.block k hk hB⟩, ?_⟩
  simp only at h1
  split at h1
  · rename_i t' sz el m hg
    split at h1
    · rename_i hb
      simp only [Bool.and_eq_true] at hb
      have e1 := beq_of hb.1
      have e2 := beq_of hb.2
      subst e1; subst e2
      obtain ⟨hok, h1⟩ := asks_holds h1
      have hok : ∀ e, e < m → A.Ok (el e) := A.okE_ok m el hok
      split at h1
      · rename_i r ps hr
        obtain ⟨hps, h1⟩ := asks_holds h1
        have h1 : (A.lstE m el, r) = fn xs g := h1
        have hmem : ∀ b o, ρ'.mem b = some o → memAt F w w' b = some o := fun b o hb => by
          unfold memAt
          split
          · rename_i hlt
            by_cases hM : ownB L b
            · exfalso
              have hs := h4.sep 0
              rw [hg, hρ0] at hs
              rw [hM.2] at hb
              rw [hs hM.1] at hb
              cases hb
            · have := h4.old b o hb hlt hM
              rw [h3.2.2] at this
              exact this
          · exact h4.fz b o hb
        have hob := h4.ob 0
        rw [hg, hρ0] at hob
        rw [← h1]
        refine ⟨rowA_of A hmem hok hob, fun m' i ρ'' hmem' hi him => ?_⟩
        exact R.ok s r ps hr hps _ m' i ρ' ρ'' x (fun b o hb => hmem' b o (hmem b o hb)) (by rw [hi, hρ0]) him h5
      · exact h1.elim
    · exact h1.elim
  · exact h1.elim

/-- The contract of a function that writes the row that is its first argument. -/
def conM0 (t : TypeId) (A : El α) (D : DA γ) (R : RM δ) (fn : List α → γ → List α × δ) (pre : List α → γ → List Prop) (i l : Nat) (rest : List SV) (h : SH) : Tr (SV × SH) :=
  match h.get i with
  | .row t' sz el m => match Nat.beq t' t && Nat.beq sz A.sz with
    | true => match D.dec rest with
      | some (g, ps) => asks ((l = m) :: (A.okE m el ++ (ps ++ pre (A.lstE m el) g))) (.ret (R.enc i (fn (A.lstE m el) g).2, h.set i (rowA A t (fn (A.lstE m el) g).1)))
      | none => .bad 653
    | false => .bad 654
  | _ => .bad 655
def conM (t : TypeId) (A : El α) (D : DA γ) (R : RM δ) (fn : List α → γ → List α × δ) (pre : List α → γ → List Prop) : Con := fun args h =>
  match args with
  | .ow i l :: rest => conM0 t A D R fn pre i l rest h
  | .k y :: rest => match nilK y with
    | true => conM0 t A D R fn pre h.nx 0 rest (h.push (.row t A.sz (.fn fun _ => []) 0))
    | false => .bad 656
  | _ => .bad 657
theorem conM0_ok (hp : FnMut P f t A D R fn pre) {M : Nat → Prop} {w0 w : World} {ρ : Rh} {h : SH} {i l : Nat} {rest : List SV} {v0 : Value} {vs : List Value} {K : SV × SH → Prop} (hK : (conM0 t A D R fn pre i l rest h).Holds K) (hm : HM M w0 ρ h w)
    (h0 : (SV.ow i l).fit h.nx ρ v0) (hr : SV.fits h.nx ρ rest vs) : Calls P f (v0 :: vs).toArray w (FnGood M w0 ρ h K) := by
  unfold conM0 at hK
  split at hK
  · rename_i t' sz el m hg
    split at hK
    · rename_i hb
      simp only [Bool.and_eq_true] at hb
      have e1 := beq_of hb.1
      have e2 := beq_of hb.2
      subst e1; subst e2
      split at hK
      · rename_i g ps hd
        obtain ⟨hq, hK⟩ := asks_holds hK
        have hl : l = m := hq _ (List.mem_cons_self ..)
        have hok : ∀ e, e < m → A.Ok (el e) := A.okE_ok m el fun p h' => hq p (List.mem_cons_of_mem _ (List.mem_append_left _ h'))
        have hps : ∀ p ∈ ps, p := fun p h' => hq p (List.mem_cons_of_mem _ (List.mem_append_right _ (List.mem_append_left _ h')))
        have hpre : ∀ p ∈ pre (A.lstE m el) g, p := fun p h' => hq p (List.mem_cons_of_mem _ (List.mem_append_right _ (List.mem_append_right _ h')))
        subst hl
        have hob := hm.ob i
        rw [hg] at hob
        have hown : ∀ b, ownB (ρ i) b → (h.get i).own (ρ i) := fun b hb => by rw [hg]; exact hb.1
        have hilt : i < h.nx := h0.1
        have hrow : (rowA A t' (A.lstE l el)).fit 0 (emp ρ.mem) (ρ i) w.heap[(ρ i).blk]? := rowA_of A (ρ := ρ) (fun _ _ h => h) hok hob
        have hv0 : OwV (ρ i) (A.lstE l el).length v0 := by
          rw [A.lstE_eq, A.lst_length]
          rcases h0.2 with ⟨h1, h2, a, h3⟩ | ⟨h1, _, h3⟩
          · exact .inl ⟨h1, h2, a, h3⟩
          · exact .inr ⟨h1, h3⟩
        have hvs := D.cl _ _ 0 ρ (emp ρ.mem) vs (fun _ _ h => h) (D.ok _ _ _ _ _ _ hd hps hr)
        refine (hp w ρ.mem (ρ i) (A.lstE l el) g v0 vs hm.fz (fun b hb => by rw [hb.2]; exact hm.sep i (hown b hb)) hv0 hpre hrow hvs).mono ?_
        rintro e w' ⟨x, rfl, hbm, hrow', hx⟩
        have hmem : ∀ b o, ρ.mem b = some o → memAt ρ.mem w w' b = some o := fun b o ho => by
          unfold memAt
          rw [if_pos (hm.lt_mem ho)]; exact ho
        have hag : Agree h.nx ρ ⟨ρ.lc, memAt ρ.mem w w', ρ.lo⟩ := ⟨fun _ _ => rfl, hmem, rfl⟩
        have hgs : ∀ j, (h.set i (rowA A t' (fn (A.lstE l el) g).1)).get j = if j = i then rowA A t' (fn (A.lstE l el) g).1 else h.get j := fun j => SH.get_set _ _ _ _
        have hown' : ∀ j, ((h.set i (rowA A t' (fn (A.lstE l el) g).1)).get j).own (ρ j) → (h.get j).own (ρ j) := fun j hj => by
          rw [hgs] at hj
          by_cases hji : j = i
          · subst hji; rw [if_pos rfl] at hj; rw [hg]; exact hj
          · rw [if_neg hji] at hj; exact hj
        have hunc : ∀ k, k < w.heap.size → ¬ ownB (ρ i) k → w'.heap[k]? = w.heap[k]? := hbm.block
        refine ⟨_, _, ⟨ρ.lc, memAt ρ.mem w w', ρ.lo⟩, x, hK, Nat.le_refl _, hag, ?_, hx h.nx i _ (fun _ _ h => h) rfl hilt, rfl⟩
        exact {
          os := hbm.os.trans hm.os
          tape := hbm.tape.trans hm.tape
          output := hbm.output.trans hm.output
          size := Nat.le_trans hm.size hbm.size
          block := fun k hk hM => by
            rw [hunc k (Nat.lt_of_lt_of_le hk hm.size) fun hB => ?_]
            · exact hm.block k hk hM
            · rcases hm.ow i (hown k hB) with h | h
              · rw [← hB.2] at h; omega
              · rw [← hB.2] at h; exact hM h
          lt := fun j hj => by
            rw [hgs] at hj
            by_cases hji : j = i
            · subst hji; exact hilt
            · rw [if_neg hji] at hj; exact hm.lt j hj
          ob := fun j => by
            rw [hgs]
            by_cases hji : j = i
            · subst hji
              rw [if_pos rfl]
              exact rowA_cl A (ρ := emp (memAt ρ.mem w w')) (fun _ _ h => h) hrow'
            · rw [if_neg hji]
              refine SO.fit_mono (Nat.le_refl _) hag (hm.ob_other fun hj => hunc _ (hm.lt_heap hj) fun hB => ?_)
              exact hm.ne_own (hown _ hB) hj hji hB.2
          ow := fun j hj => hm.ow j (hown' j hj)
          fz := fun b o hb => by
            simp only [memAt] at hb
            split at hb
            · rename_i hlt
              rw [hunc b hlt fun hB => ?_]
              · exact hm.fz b o hb
              · have := hm.sep i (hown b hB)
                rw [← hB.2, hb] at this
                cases this
            · exact hb
          sep := fun j hj => by
            have h1 := hm.sep j (hown' j hj)
            have h2 := hm.lt_heap (hown' j hj)
            simp only [memAt]
            rw [if_pos h2]; exact h1
          old := fun b o hb hlt hM => by
            simp only [memAt] at hb
            have hs := hm.size
            rw [if_pos (by omega)] at hb
            exact hm.old b o hb hlt hM
          inj := fun j k hj hk => hm.inj j k (hown' j hj) (hown' k hk) }
      · exact hK.elim
    · exact hK.elim
  · exact hK.elim
theorem conM_ok (hp : FnMut P f t A D R fn pre) : FnOk P f (conM t A D R fn pre) := by
  intro M w0 w ρ h args vs K hK hm hfits
  unfold conM at hK
  split at hK
  · rename_i i l rest
    obtain ⟨v0, r, rfl, h0, hr⟩ := fits_cons hfits
    exact conM0_ok hp hK hm h0 hr
  · rename_i y rest
    obtain ⟨v0, r, rfl, h0, hr⟩ := fits_cons hfits
    split at hK
    · rename_i hy
      have hm1 : HM M w0 (upd ρ h.nx ⟨0, 0, 0, true⟩) (h.push (.row t A.sz (.fn fun _ => []) 0)) w := hm.learn ⟨Nat.zero_le _, .inl ⟨rfl, rfl⟩⟩ (fun h => by cases h)
      have hy := nilK_eq hy
      subst hy
      simp only [SV.fit] at h0
      subst h0
      have := conM0_ok hp hK hm1 (v0 := .slice none 0 0) (vs := r) ⟨Nat.lt_succ_self _, .inl ⟨by simp [upd], rfl, _, rfl⟩⟩ (SV.fits_mono (Nat.le_succ _) (agree_upd _ _ _) _ _ hr)
      refine this.mono ?_
      rintro e w' ⟨s, h', ρ', x, h1, h2, h3, h4, h5, rfl⟩
      exact ⟨s, h', ρ', x, h1, by have : h.nx + 1 ≤ h'.nx := h2; omega, (agree_upd ρ h.nx _).trans (Nat.le_succ _) h3, h4, h5, rfl⟩
    · exact hK.elim
  · exact hK.elim
theorem conM0_b {i l : Nat} {rest : List SV} {h : SH} : (conM0 t A D R fn pre i l rest h).Each fun y => y.2.b = h.b := by
  unfold conM0
  split
  · split
    · split
      · exact asks_each rfl
      · trivial
    · trivial
  · trivial
def bconM (t : TypeId) (A : El α) (D : DA γ) (R : RM δ) (fn : List α → γ → List α × δ) (pre : List α → γ → List Prop) : BCon := ⟨conM t A D R fn pre, fun args h => by
  unfold conM
  split
  · exact conM0_b
  · split
    · exact conM0_b (h := h.push _)
    · trivial
  · trivial⟩
end
end Go.Sx
namespace Go.Sx
/-- Contracts that change no known block, and contracts that do. -/
structure MTab (P : Program) where
  p : PTab P
  m : { l : List (Nat × BCon) // ∀ x ∈ l, FnOk P x.1 x.2.g }
section
variable {P : Program}
def MTab.of (t : PTab P) : MTab P := ⟨t, ⟨[], fun x h => by simp at h⟩⟩
def MTab.cons (t : MTab P) (f : Nat) (c : PCon) (h : FnOk P f c.g) : MTab P := ⟨t.p.cons f c h, t.m⟩
def MTab.consM (t : MTab P) (f : Nat) (c : BCon) (h : FnOk P f c.g) : MTab P := ⟨t.p, ⟨(f, c) :: t.m.1, fun x hx => by
  rcases List.mem_cons.1 hx with rfl | hx
  · exact h
  · exact t.m.2 x hx⟩⟩
def MTab.gamz (t : MTab P) (zs : List (Nat × Nat)) (us : List (Nat × Nat × Nat)) : Gam := Go.Sx.gam t.p.1 t.m.1 zs us
theorem MTab.okz (t : MTab P) (zs : List (Nat × Nat)) (us : List (Nat × Nat × Nat)) : ∀ f g, (t.gamz zs us).g f = some g → FnOk P f g := gam_ok t.p.2 t.m.2
theorem mut_of_side {f t : Nat} {α γ δ : Type} {A : El α} {D : DA γ} {R : RM δ} {fn : List α → γ → List α × δ} {pre : List α → γ → List Prop} {Γ : Gam} {Λ : Lam}
    (hΓ : ∀ f g, Γ.g f = some g → FnOk P f g) (hΛ : ∀ f k L, Λ f k = some L → ∀ b ∈ loopsOf P f, lkey b = k → LoopOk P b L.g) (n : Nat) (d : List α × δ) (S : List α → γ → Prop)
    (hS : ∀ xs g, (mTree P Γ Λ n f t A R xs (D.enc g)).side = S xs g) (he : ∀ xs g, (mTree P Γ Λ n f t A R xs (D.enc g)).ev d = fn xs g) (hs : ∀ xs g, D.bd g → xs.length ≤ maxLen → (∀ p ∈ pre xs g, p) → S xs g) : FnMut P f t A D R fn pre :=
  mut_of_tree hΓ hΛ n fun xs g h1 h2 h3 => by
    have := Tr.side_holds d (by rw [hS]; exact hs xs g h1 h2 h3 : (mTree P Γ Λ n f t A R xs (D.enc g)).side)
    rw [he xs g] at this
    exact this
/-- A function as an argument. -/
def dFn (f : Nat) : Dv Unit where
  dec s := match s with
    | .fn f' [] => bif Nat.beq f f' then some ((), []) else none
    | _ => none
  enc _ := .fn f []
  bd _ := True
  cl _ n m ρ ρ' x hm hf := by
    obtain ⟨l, e, hl⟩ := hf
    have := fits_nil hl
    subst this
    exact ⟨[], e, trivial⟩
  ok s a ps n ρ x hd hp hf := by
    split at hd
    · rename_i f'
      cases hb : Nat.beq f f' with
      | false => rw [hb] at hd; cases hd
      | true =>
        rw [beq_of hb]; exact hf
    · cases hd
  fb _ _ _ _ _ := trivial
end
end Go.Sx
namespace Go.Sx
abbrev RM.T {δ : Type} (_ : RM δ) : Type := δ
end Go.Sx

/- Contracts of functions that write a variable which is handed in by its address. -/
namespace Go.Sx
open Go.RowKit
/-- A function that writes the variable whose address stands between its other arguments. -/
def FnPtr {γ γ' κ δ : Type} (P : Program) (f : Nat) (t : TypeId) (C : El κ) (D : DA γ) (D' : DA γ') (R : Dv δ) (fn : γ → κ → γ' → κ × δ) (pre : γ → κ → γ' → List Prop) : Prop :=
  ∀ (w : World) (F : Nat → Option Obj) (b : Nat) (l : List Value) (k : κ) (g : γ) (g' : γ') (vs vs' : List Value), (∀ b o, F b = some o → w.heap[b]? = some o) → F b = none → w.heap[b]? = some (.cells l.toArray t (0, 0)) → SV.fits 0 (emp F) (C.cells k) l →
    (∀ p ∈ pre g k g', p) → SV.fits 0 (emp F) (D.enc g) vs → SV.fits 0 (emp F) (D'.enc g') vs' →
    Calls P f (vs ++ .pointer (some ⟨b, 0, none⟩) :: vs').toArray w fun e w' => ∃ x l', e = .returned x ∧ BelowM (· = b) w w' ∧ w'.heap[b]? = some (.cells (List.toArray l') t (0, 0)) ∧ SV.fits 0 (emp (memAt F w w')) (C.cells (fn g k g').1) l' ∧
      (R.enc (fn g k g').2).fit 0 (emp (memAt F w w')) x
def pTree {κ δ : Type} (P : Program) (Γ : Gam) (Λ : Lam) (n f : Nat) (t : TypeId) (C : El κ) (R : Dv δ) (k : κ) (args args' : List SV) : Tr (κ × δ) :=
  (fnTree P Γ Λ n f (args ++ .p 0 0 :: args') ⟨1, [(0, .o (.cells (C.cells k) t))], []⟩).bind fun y =>
    match y.2.get 0 with
    | .cells xs t' => match Nat.beq t' t with
      | true => match C.decs xs with
        | some (k', qs) => match R.dec y.1 with
          | some (r, ps) => asks (qs ++ ps) (.ret (k', r))
          | none => .bad 660
        | none => .bad 661
      | false => .bad 662
    | _ => .bad 663
section
variable {P : Program} {Γ : Gam} {Λ : Lam} {f t : Nat} {γ γ' κ δ : Type} {C : El κ} {D : DA γ} {D' : DA γ'} {R : Dv δ} {fn : γ → κ → γ' → κ × δ} {pre : γ → κ → γ' → List Prop}
theorem one_get (so : SO) (i : Nat) : (⟨1, [(0, .o so)], []⟩ : SH).get i = if i = 0 then so else .dead := by
  simp only [SH.get, lookE, SE.act]
  by_cases h : i = 0
  · subst h; rfl
  · rw [if_neg h]
    have : Nat.beq i 0 = false := by
      cases hb : Nat.beq i 0 with
      | false => rfl
      | true => exact absurd (beq_of hb) h
    rw [this]; rfl
/-- The memory of a call that knows one block. -/
theorem hm_one {w : World} {F : Nat → Option Obj} {L : Lc} {so : SO} {B : Nat → Prop} (hF : ∀ b o, F b = some o → w.heap[b]? = some o) (hfit : so.fit 1 ⟨fun _ => L, F, ⟨F, fun _ => none⟩⟩ L w.heap[L.blk]?) (hB : so.own L → B L.blk ∧ F L.blk = none) : HM B w ⟨fun _ => L, F, ⟨F, fun _ => none⟩⟩ ⟨1, [(0, .o so)], []⟩ w where
  os := rfl
  tape := rfl
  output := rfl
  size := Nat.le_refl _
  block := fun _ _ _ => rfl
  lt := fun i h => by
    rw [one_get] at h
    by_cases hi : i = 0
    · subst hi; exact Nat.lt_succ_self _
    · rw [if_neg hi] at h; cases h
  ob := fun i => by
    rw [one_get]
    by_cases hi : i = 0
    · rw [if_pos hi]; exact hfit
    · rw [if_neg hi]; trivial
  ow := fun i h => by
    rw [one_get] at h
    by_cases hi : i = 0
    · rw [if_pos hi] at h
      exact .inr (hB h).1
    · rw [if_neg hi] at h; exact h.elim
  fz := hF
  sep := fun i h => by
    rw [one_get] at h
    by_cases hi : i = 0
    · rw [if_pos hi] at h
      exact (hB h).2
    · rw [if_neg hi] at h; exact h.elim
  old := fun b o hb _ _ => hb
  inj := fun i j hi hj _ => by
    rw [one_get] at hi hj
    by_cases h1 : i = 0
    · by_cases h2 : j = 0
      · omega
      · rw [if_neg h2] at hj; exact hj.elim
    · rw [if_neg h1] at hi; exact hi.elim
theorem ptr_of_tree (hΓ : ∀ f g, Γ.g f = some g → FnOk P f g) (hΛ : ∀ f k L, Λ f k = some L → ∀ b ∈ loopsOf P f, lkey b = k → LoopOk P b L.g) (n : Nat)
    (hT : ∀ g k g', D.bd g → D'.bd g' → C.bd k → (∀ p ∈ pre g k g', p) → (pTree P Γ Λ n f t C R k (D.enc g) (D'.enc g')).Holds (· = fn g k g')) : FnPtr P f t C D D' R fn pre := by
  intro w F b l k g g' vs vs' hF hFb hob hl hpre hfit hfit'
  have hT := hT g k g' (D.fb _ _ _ _ hfit) (D'.fb _ _ _ _ hfit') (C.fb _ _ _ _ hl) hpre
  let L : Lc := ⟨b, 0, 0, false⟩
  let ρ0 : Rh := ⟨fun _ => L, F, ⟨F, fun _ => none⟩⟩
  have hm0 : HM (· = b) w ρ0 ⟨1, [(0, .o (.cells (C.cells k) t))], []⟩ w := hm_one hF ⟨rfl, rfl, l, hob, C.cl k 0 1 (emp F) ρ0 l (fun _ _ h => h) hl⟩ (fun _ => ⟨rfl, hFb⟩)
  have hargs : SV.fits 1 ρ0 (D.enc g ++ .p 0 0 :: D'.enc g') (vs ++ .pointer (some ⟨b, 0, none⟩) :: vs') :=
    fits_append (D.cl g 0 1 (emp F) ρ0 vs (fun _ _ h => h) hfit) ⟨⟨Nat.lt_succ_self _, rfl⟩, D'.cl g' 0 1 (emp F) ρ0 vs' (fun _ _ h => h) hfit'⟩
  have h0 := fnTree_ok hΓ hΛ n (· = b) w w ρ0 _ _ _ _ (Tr.holds_bind hT) hm0 hargs
  refine h0.mono ?_
  rintro e w' ⟨s, h', ρ', x, h1, h2, h3, h4, h5, rfl⟩
  have hρ0 : ρ' 0 = L := h3.1 0 (Nat.lt_succ_self _)
  simp only at h1
  split at h1
  · rename_i xs t' hg
    split at h1
    · rename_i hb
      have e1 := beq_of hb
      subst e1
      split at h1
      · rename_i k' qs hk
        split at h1
        · rename_i r ps hr
          obtain ⟨hq, h1⟩ := asks_holds h1
          have h1 : (k', r) = fn g k g' := h1
          have hmem : ∀ c o, ρ'.mem c = some o → memAt F w w' c = some o := fun c o hc => by
            unfold memAt
            split
            · rename_i hlt
              by_cases hM : c = b
              · exfalso
                have hs := h4.sep 0 (by rw [hg]; trivial)
                rw [hρ0] at hs
                rw [hM, hs] at hc
                cases hc
              · have := h4.old c o hc hlt hM
                rw [h3.2.2] at this
                exact this
            · exact h4.fz c o hc
          have hob' := h4.ob 0
          rw [hg, hρ0] at hob'
          obtain ⟨_, _, l', ho', hf'⟩ := hob'
          rw [← h1]
          refine ⟨x, l', rfl, ⟨h4.os, h4.tape, h4.output, h4.size, fun k hk hB => h4.block k hk hB⟩, ho', ?_, ?_⟩
          · exact C.cl _ _ _ _ _ _ hmem (C.ok _ _ _ _ _ _ hk (fun p hp => hq p (List.mem_append_left _ hp)) hf')
          · exact R.cl _ _ _ _ _ _ hmem (R.ok _ _ _ _ _ _ hr (fun p hp => hq p (List.mem_append_right _ hp)) h5)
        · exact h1.elim
      · exact h1.elim
    · exact h1.elim
  · exact h1.elim
theorem ptr_of_side (hΓ : ∀ f g, Γ.g f = some g → FnOk P f g) (hΛ : ∀ f k L, Λ f k = some L → ∀ b ∈ loopsOf P f, lkey b = k → LoopOk P b L.g) (n : Nat) (d : κ × δ) (S : γ → κ → γ' → Prop)
    (hS : ∀ g k g', (pTree P Γ Λ n f t C R k (D.enc g) (D'.enc g')).side = S g k g') (he : ∀ g k g', (pTree P Γ Λ n f t C R k (D.enc g) (D'.enc g')).ev d = fn g k g') (hs : ∀ g k g', D.bd g → D'.bd g' → C.bd k → (∀ p ∈ pre g k g', p) → S g k g') : FnPtr P f t C D D' R fn pre :=
  ptr_of_tree hΓ hΛ n fun g k g' h1 h2 h3 h4 => by
    have := Tr.side_holds d (by rw [hS]; exact hs g k g' h1 h2 h3 h4 : (pTree P Γ Λ n f t C R k (D.enc g) (D'.enc g')).side)
    rw [he g k g'] at this
    exact this
/-- The contract of such a function; 'q': how many arguments stand ahead of the address. -/
def conC (q : Nat) (t : TypeId) (C : El κ) (D : DA γ) (D' : DA γ') (R : Dv δ) (fn : γ → κ → γ' → κ × δ) (pre : γ → κ → γ' → List Prop) : Con := fun args h =>
  match args.drop q with
  | .p i 0 :: rest => match h.get i with
    | .cells xs t' => match Nat.beq t' t with
      | true => match C.decs xs, D.dec (vwA (h.set i .dead) (args.take q)).1, D'.dec (vwA (h.set i .dead) rest).1 with
        | some (k, ks), some (g, ps), some (g', qs) => asks (ks ++ (((vwA (h.set i .dead) (args.take q)).2 ++ ps) ++ (((vwA (h.set i .dead) rest).2 ++ qs) ++ pre g k g'))) (.ret (R.enc (fn g k g').2, h.set i (.cells (C.cells (fn g k g').1) t)))
        | _, _, _ => .bad 664
      | false => .bad 665
    | _ => .bad 666
  | _ => .bad 667
theorem conC_ok {q : Nat} (hp : FnPtr P f t C D D' R fn pre) (hR : ∀ r, Pu (R.enc r)) (hC : ∀ k, Pus (C.cells k)) : FnOk P f (conC q t C D D' R fn pre) := by
  intro M w0 w ρ h args vs K hK hm hfits
  unfold conC at hK
  split at hK
  · rename_i i rest hdrop
    have hargs : args = args.take q ++ .p i 0 :: rest := by rw [← hdrop, List.take_append_drop]
    have hf1 := fits_take q hfits
    have hf2 := fits_drop q hfits
    rw [hdrop] at hf2
    obtain ⟨v0, vs', hvs', hv0, hr⟩ := fits_cons hf2
    have hvs : vs = vs.take q ++ v0 :: vs' := by rw [← hvs', List.take_append_drop]
    obtain ⟨hil, rfl⟩ := hv0
    split at hK
    · rename_i xs t' hg
      split at hK
      · rename_i hb
        have e1 := beq_of hb
        subst e1
        split at hK
        · rename_i k ks g ps g' qs hk hd hd'
          obtain ⟨hq, hK⟩ := asks_holds hK
          have q1 : ∀ p ∈ ks, p := fun p h' => hq p (List.mem_append_left _ h')
          have q2 : ∀ p ∈ (vwA (h.set i .dead) (args.take q)).2, p := fun p h' => hq p (List.mem_append_right _ (List.mem_append_left _ (List.mem_append_left _ h')))
          have q3 : ∀ p ∈ ps, p := fun p h' => hq p (List.mem_append_right _ (List.mem_append_left _ (List.mem_append_right _ h')))
          have q4 : ∀ p ∈ (vwA (h.set i .dead) rest).2, p := fun p h' => hq p (List.mem_append_right _ (List.mem_append_right _ (List.mem_append_left _ (List.mem_append_left _ h'))))
          have q5 : ∀ p ∈ qs, p := fun p h' => hq p (List.mem_append_right _ (List.mem_append_right _ (List.mem_append_left _ (List.mem_append_right _ h'))))
          have q6 : ∀ p ∈ pre g k g', p := fun p h' => hq p (List.mem_append_right _ (List.mem_append_right _ (List.mem_append_right _ h')))
          have hob := hm.ob i
          have hown : (h.get i).own (ρ i) := by rw [hg]; trivial
          rw [hg] at hob
          obtain ⟨hnl, hoff, l, ho, hl⟩ := hob
          let F : Nat → Option Obj := fun b => if b = (ρ i).blk then none else w.heap[b]?
          have hF : ∀ b o, F b = some o → w.heap[b]? = some o := fun b o hb => by
            simp only [F] at hb
            split at hb
            · cases hb
            · exact hb
          have hmd := hm.forget i
          have hG : ∀ b o, ρ.mem b = some o → F b = some o := fun b o hb => by
            simp only [F]
            rw [if_neg (hm.ne_mem hown hb)]
            exact hm.fz b o hb
          have hO : ∀ j o, ((h.set i .dead).get j).own (ρ j) → w.heap[(ρ j).blk]? = some o → F (ρ j).blk = some o := fun j o hj hjo => by
            rw [SH.get_set] at hj
            by_cases hji : j = i
            · rw [if_pos hji] at hj; exact hj.elim
            · rw [if_neg hji] at hj
              simp only [F]
              rw [if_neg (hm.ne_own hown hj hji)]
              exact hjo
          have a1 := vwA_ok (G := F) hmd hG hO hf1 q2
          have a2 := D.cl _ _ 0 ⟨ρ.lc, F, ρ.lo⟩ (emp F) _ (fun _ _ h => h) (D.ok _ _ _ _ _ _ hd q3 a1)
          have b1 := vwA_ok (G := F) hmd hG hO hr q4
          have b2 := D'.cl _ _ 0 ⟨ρ.lc, F, ρ.lo⟩ (emp F) _ (fun _ _ h => h) (D'.ok _ _ _ _ _ _ hd' q5 b1)
          have c1 := hC k _ 0 ρ (emp F) _ (C.ok _ _ _ _ _ _ hk q1 hl)
          have hcall := hp w F (ρ i).blk l k g g' (vs.take q) vs' hF (by simp [F]) ho c1 q6 a2 b2
          rw [hvs]
          rw [show (ρ i).off + 0 = 0 by omega]
          refine hcall.mono ?_
          rintro e w' ⟨x, l', rfl, hbm, ho', hl', hx⟩
          have hlt : (ρ i).blk < w.heap.size := hm.lt_heap hown
          refine ⟨_, _, ρ, x, hK, Nat.le_refl _, Agree.refl _ _, ?_, hR _ _ _ _ _ _ hx, rfl⟩
          exact {
            os := hbm.os.trans hm.os
            tape := hbm.tape.trans hm.tape
            output := hbm.output.trans hm.output
            size := Nat.le_trans hm.size hbm.size
            block := fun c hc hM => by
              rw [hbm.block c (Nat.lt_of_lt_of_le hc hm.size) fun hB => ?_]
              · exact hm.block c hc hM
              · rcases hm.ow i hown with h | h
                · omega
                · rw [← hB] at h; exact hM h
            lt := fun j hj => by
              rw [SH.get_set] at hj
              by_cases hji : j = i
              · subst hji; exact hil
              · rw [if_neg hji] at hj; exact hm.lt j hj
            ob := fun j => by
              rw [SH.get_set]
              by_cases hji : j = i
              · subst hji
                rw [if_pos rfl]
                exact ⟨hnl, hoff, l', ho', hC _ _ _ _ _ _ hl'⟩
              · rw [if_neg hji]
                exact hm.ob_other fun hj => hbm.block _ (hm.lt_heap hj) (hm.ne_own hown hj hji)
            ow := fun j hj => by
              rw [SH.get_set] at hj
              by_cases hji : j = i
              · subst hji; exact hm.ow j hown
              · rw [if_neg hji] at hj; exact hm.ow j hj
            fz := fun c o hc => by
              rw [hbm.block c (hm.lt_mem hc) (hm.ne_mem hown hc)]
              exact hm.fz c o hc
            sep := fun j hj => by
              rw [SH.get_set] at hj
              by_cases hji : j = i
              · subst hji; exact hm.sep j hown
              · rw [if_neg hji] at hj; exact hm.sep j hj
            old := hm.old
            inj := fun j c hj hc => by
              rw [SH.get_set] at hj hc
              have k1 : (h.get j).own (ρ j) := by
                by_cases hji : j = i
                · subst hji; exact hown
                · rw [if_neg hji] at hj; exact hj
              have k2 : (h.get c).own (ρ c) := by
                by_cases hci : c = i
                · subst hci; exact hown
                · rw [if_neg hci] at hc; exact hc
              exact hm.inj j c k1 k2 }
        · exact hK.elim
      · exact hK.elim
    · exact hK.elim
  · exact hK.elim
def bconC (q : Nat) (t : TypeId) (C : El κ) (D : DA γ) (D' : DA γ') (R : Dv δ) (fn : γ → κ → γ' → κ × δ) (pre : γ → κ → γ' → List Prop) : BCon := ⟨conC q t C D D' R fn pre, fun args h => by
  unfold conC
  split
  · split
    · split
      · split
        · exact asks_each rfl
        · trivial
      · trivial
    · trivial
  · trivial⟩
end
end Go.Sx

/- Functions with captured variables as plain data: iterators that are handed on. -/
namespace Go.Sx
open Go.RowKit

theorem cl_pr {xs : List SV} (h : Cls xs) : Cl (.pr xs) := by
  intro n m ρ ρ' x hm hf
  obtain ⟨b, o, cs, t, fz, k1, k2, vs, k3, k4⟩ := hf
  exact ⟨b, o, cs, t, fz, k1, hm _ _ k2, vs, h n m ρ ρ' vs hm k3, k4⟩
theorem cl_fn {f : Nat} {xs : List SV} (h : Cls xs) : Cl (.fn f xs) := by
  intro n m ρ ρ' x hm hf
  obtain ⟨l, rfl, hl⟩ := hf
  exact ⟨l, rfl, h n m ρ ρ' l hm hl⟩
/-- A function that has captured one variable of one cell. -/
def dFn1 {α : Type} (f : Nat) (A : Dv α) : Dv α where
  dec s := match s with
    | .fn f' [.pr [s]] => bif Nat.beq f f' then A.dec s else none
    | _ => none
  enc a := .fn f [.pr [A.enc a]]
  bd := A.bd
  cl a := cl_fn (cls_cons (cl_pr (cls_cons (A.cl a) cls_nil)) cls_nil)
  ok s a ps n ρ x hd hp hf := by
    split at hd
    · rename_i f' s
      cases hb : Nat.beq f f' with
      | false => rw [hb] at hd; cases hd
      | true =>
        rw [hb] at hd
        rw [beq_of hb]
        obtain ⟨l, rfl, hl⟩ := hf
        refine ⟨l, rfl, ?_⟩
        obtain ⟨y, r, rfl, hy, hr⟩ := fits_cons hl
        refine ⟨?_, hr⟩
        obtain ⟨b, o, cs, t, fz, k1, k2, vs, k3, k4⟩ := hy
        obtain ⟨z, r', rfl, hz, hr'⟩ := fits_cons k3
        exact ⟨b, o, cs, t, fz, k1, k2, z :: r', ⟨A.ok _ _ _ _ _ _ hd hp hz, hr'⟩, k4⟩
    · cases hd
  fb a n ρ x hf := by
    obtain ⟨l, rfl, hl⟩ := hf
    obtain ⟨y, r, rfl, hy, hr⟩ := fits_cons hl
    obtain ⟨b, o, cs, t, fz, k1, k2, vs, k3, k4⟩ := hy
    obtain ⟨z, r', rfl, hz, hr'⟩ := fits_cons k3
    exact A.fb _ _ _ _ hz
/-- A function that has captured one variable. -/
def dFnE {α : Type} (f : Nat) (A : El α) : Dv α where
  dec s := match s with
    | .fn f' [.pr l] => bif Nat.beq f f' then A.decs l else none
    | _ => none
  enc a := .fn f [.pr (A.cells a)]
  bd := A.bd
  cl a := cl_fn (cls_cons (cl_pr (A.cl a)) cls_nil)
  ok s a ps n ρ x hd hp hf := by
    split at hd
    · rename_i f' s
      cases hb : Nat.beq f f' with
      | false => rw [hb] at hd; cases hd
      | true =>
        rw [hb] at hd
        rw [beq_of hb]
        obtain ⟨l, rfl, hl⟩ := hf
        refine ⟨l, rfl, ?_⟩
        obtain ⟨y, r, rfl, hy, hr⟩ := fits_cons hl
        refine ⟨?_, hr⟩
        obtain ⟨b, o, cs, t, fz, k1, k2, vs, k3, k4⟩ := hy
        exact ⟨b, o, cs, t, fz, k1, k2, vs, A.ok _ _ _ _ _ _ hd hp k3, k4⟩
    · cases hd
  fb a n ρ x hf := by
    obtain ⟨l, rfl, hl⟩ := hf
    obtain ⟨y, r, rfl, hy, hr⟩ := fits_cons hl
    obtain ⟨b, o, cs, t, fz, k1, k2, vs, k3, k4⟩ := hy
    exact A.fb _ _ _ _ k3
end Go.Sx

/- Results that a function has made itself, rows among them, as plain data: what came about is said by list operations. -/
namespace Go.Sx
open Go.RowKit

/-- What the machine's memory says of what is known, looked at as if it were only read. -/
structure Vwd (M : Nat → Prop) (w0 : World) (ρ : Rh) (h : SH) (w : World) (G : Nat → Option Obj) : Prop where
  hm : HM M w0 ρ h w
  hG : ∀ b o, ρ.mem b = some o → G b = some o
  hO : ∀ i o, (h.get i).own (ρ i) → w.heap[(ρ i).blk]? = some o → G (ρ i).blk = some o

/-- How a result is read. -/
structure Rv (δ : Type) where
  D : Dv δ
  dec : SH → SV → Option (δ × List Prop)
  ok : ∀ {M : Nat → Prop} {w0 : World} {ρ : Rh} {h : SH} {w : World} {G : Nat → Option Obj}, Vwd M w0 ρ h w G → ∀ {s : SV} {r : δ} {ps : List Prop} {x : Value}, dec h s = some (r, ps) → (∀ p ∈ ps, p) → s.fit h.nx ρ x → (D.enc r).fit h.nx ⟨ρ.lc, G, ρ.lo⟩ x
abbrev Rv.T {δ : Type} (_ : Rv δ) : Type := δ
def Rv.of {δ : Type} (D : Dv δ) : Rv δ where
  D := D
  dec h s := match D.dec (vw2 h s).1 with
    | some (r, ps) => some (r, (vw2 h s).2 ++ ps)
    | none => none
  ok {_ _ _ _ _ _} hv {_ _ _ _} hd hp hf := by
    split at hd
    · rename_i r ps hr
      simp only [Option.some.injEq, Prod.mk.injEq] at hd
      obtain ⟨rfl, rfl⟩ := hd
      exact D.ok _ _ _ _ _ _ hr (fun p h' => hp p (List.mem_append_right _ h')) (vw2_ok hv.hm hv.hG hv.hO hf fun p h' => hp p (List.mem_append_left _ h'))
    · cases hd
/-- A list: of rows of one's own it is known how they came about. -/
def Rv.list {α : Type} (A : El α) : Rv (List α) where
  D := .list A
  dec h s := match s with
    | .ow i l => match h.get i with
      | .row _ sz el m => bif Nat.beq sz A.sz then some (A.lstE l el, (l ≤ m) :: A.okE l el) else none
      | _ => none
    | .se i sz o l => match h.get i with
      | .row _ s el m => bif Nat.beq s sz && Nat.beq sz A.sz then some (A.lstE l (.sh o el), (o + l ≤ m) :: A.okE l (.sh o el)) else none
      | _ => none
    | s => (Rv.of (.list A)).dec h s
  ok {M w0 ρ h w G} hv {s r ps x} hd hp hf := by
    split at hd
    · rename_i i l
      split at hd
      · rename_i t sz el m hg
        cases hb : Nat.beq sz A.sz with
        | false => rw [hb] at hd; cases hd
        | true =>
          rw [hb] at hd
          simp only [cond_true, Option.some.injEq, Prod.mk.injEq] at hd
          obtain ⟨rfl, rfl⟩ := hd
          have e0 : vw0 h (.ow i l) = (.rs sz l el, [l ≤ m]) := by simp only [vw0, hg]
          have h1 := vw0_ok hv.hm hv.hG hv.hO hf (by rw [e0]; intro p hp'; simp only [List.mem_singleton] at hp'; subst hp'; exact hp _ (List.mem_cons_self ..))
          rw [e0] at h1
          rw [A.lstE_eq]
          exact (Dv.list A).ok (.rs sz l el.at) _ [∀ e, e < l → A.Ok (el.at e)] _ _ _ (by simp [Dv.list, hb]) (by
            intro p hp'
            simp only [List.mem_singleton] at hp'
            subst hp'
            exact A.okE_ok l el fun p h' => hp p (List.mem_cons_of_mem _ h')) h1
      · cases hd
    · rename_i i sz o l
      split at hd
      · rename_i t s el m hg
        cases hb : (Nat.beq s sz && Nat.beq sz A.sz) with
        | false => rw [hb] at hd; cases hd
        | true =>
          rw [hb] at hd
          simp only [cond_true, Option.some.injEq, Prod.mk.injEq] at hd
          obtain ⟨rfl, rfl⟩ := hd
          simp only [Bool.and_eq_true] at hb
          have e0 : vw0 h (.se i sz o l) = (.rs sz l (ElE.sh o el), [o + l ≤ m]) := by simp only [vw0, hg, hb.1, cond_true]
          have h1 := vw0_ok hv.hm hv.hG hv.hO hf (by rw [e0]; intro p hp'; simp only [List.mem_singleton] at hp'; subst hp'; exact hp _ (List.mem_cons_self ..))
          rw [e0] at h1
          rw [A.lstE_eq]
          exact (Dv.list A).ok (.rs sz l (ElE.sh o el).at) _ [∀ e, e < l → A.Ok ((ElE.sh o el).at e)] _ _ _ (by simp [Dv.list, hb.2]) (by
            intro p hp'
            simp only [List.mem_singleton] at hp'
            subst hp'
            exact A.okE_ok l (ElE.sh o el) fun p h' => hp p (List.mem_cons_of_mem _ h')) h1
      · cases hd
    · exact (Rv.of (.list A)).ok hv hd hp hf
/-- Several. -/
structure RvA (γ : Type) where
  D : DA γ
  dec : SH → List SV → Option (γ × List Prop)
  ok : ∀ {M : Nat → Prop} {w0 : World} {ρ : Rh} {h : SH} {w : World} {G : Nat → Option Obj}, Vwd M w0 ρ h w G → ∀ {s : List SV} {r : γ} {ps : List Prop} {x : List Value}, dec h s = some (r, ps) → (∀ p ∈ ps, p) → SV.fits h.nx ρ s x → SV.fits h.nx ⟨ρ.lc, G, ρ.lo⟩ (D.enc r) x
def RvA.one {α : Type} (R : Rv α) : RvA α where
  D := .one R.D
  dec h l := match l with
    | [s] => R.dec h s
    | _ => Option.none
  ok {_ _ _ _ _ _} hv {s r ps x} hd hp hf := by
    split at hd
    · obtain ⟨y, r', rfl, hy, hr⟩ := fits_cons hf
      have := fits_nil hr
      subst this
      exact ⟨R.ok hv hd hp hy, trivial⟩
    · cases hd
def RvA.cons {α γ : Type} (R : Rv α) (A : RvA γ) : RvA (α × γ) where
  D := .cons R.D A.D
  dec h l := match l with
    | s :: r => match R.dec h s with
      | some (a, ps) => match A.dec h r with
        | some (g, qs) => some ((a, g), ps ++ qs)
        | Option.none => Option.none
      | Option.none => Option.none
    | [] => Option.none
  ok {_ _ _ _ _ _} hv {s r ps x} hd hp hf := by
    split at hd
    · rename_i s r
      split at hd
      · rename_i a ps0 h1
        split at hd
        · rename_i g0 qs0 h2
          simp only [Option.some.injEq, Prod.mk.injEq] at hd
          obtain ⟨rfl, rfl⟩ := hd
          obtain ⟨y, r', rfl, hy, hr⟩ := fits_cons hf
          exact ⟨R.ok hv h1 (fun p hp' => hp p (List.mem_append_left _ hp')) hy, A.ok hv h2 (fun p hp' => hp p (List.mem_append_right _ hp')) hr⟩
        · cases hd
      · cases hd
    · cases hd
def Rv.tup {γ : Type} (A : RvA γ) : Rv γ where
  D := .tup A.D
  dec h s := match s with
    | .tup l => A.dec h l
    | _ => none
  ok {_ _ _ _ _ _} hv {s r ps x} hd hp hf := by
    split at hd
    · obtain ⟨v, rfl, hv'⟩ := hf
      exact ⟨v, rfl, A.ok hv hd hp hv'⟩
    · cases hd
/-- What a function makes of plain data, as a tree of plain data. -/
def rTree {δ : Type} (P : Program) (Γ : Gam) (Λ : Lam) (n f : Nat) (args : List SV) (R : Rv δ) : Tr δ :=
  (fnTree P Γ Λ n f args ⟨0, [], []⟩).bind fun y => match R.dec y.2 y.1 with
    | some (r, ps) => asks ps (.ret r)
    | none => .bad 620
section
variable {P : Program} {Γ : Gam} {Λ : Lam} {f : Nat} {γ δ : Type} {D : DA γ} {R : Rv δ} {fn : γ → δ} {pre : γ → List Prop}
theorem res_of_tree (hΓ : ∀ f g, Γ.g f = some g → FnOk P f g) (hΛ : ∀ f k L, Λ f k = some L → ∀ b ∈ loopsOf P f, lkey b = k → LoopOk P b L.g) (n : Nat)
    (hT : ∀ g, D.bd g → (∀ p ∈ pre g, p) → (rTree P Γ Λ n f (D.enc g) R).Holds (· = fn g)) : FnPure P f D R.D fn pre := by
  intro w F g vs hF hpre hfit
  have hbd := D.fb _ _ _ _ hfit
  have hT := hT g hbd hpre
  have h0 := fnTree_ok hΓ hΛ n (fun _ => False) w w (emp F) ⟨0, [], []⟩ _ vs _ (Tr.holds_bind hT) (HM.start w (emp F) hF fun _ _ h => h) hfit
  refine h0.mono ?_
  rintro e w' ⟨s, h', ρ', x, h1, h2, h3, h4, h5, rfl⟩
  refine ⟨x, rfl, h4.toBelow, ?_⟩
  simp only at h1
  have hv : Vwd (fun _ => False) w ρ' h' w' (memAt F w w') := {
    hm := h4
    hG := fun b o hb => by
      unfold memAt
      split
      · rename_i hlt
        have := h4.old b o hb hlt (fun h => h)
        rw [h3.2.2] at this
        exact this
      · exact h4.fz b o hb
    hO := fun i o hown ho => by
      unfold memAt
      rcases h4.ow i hown with h | h
      · rw [if_neg (by omega)]; exact ho
      · exact h.elim }
  split at h1
  · rename_i r ps hr
    obtain ⟨hq, h1⟩ := asks_holds h1
    have h1 : r = fn g := h1
    have := R.ok hv hr hq h5
    rw [h1] at this
    exact R.D.cl _ _ 0 ⟨ρ'.lc, memAt F w w', ρ'.lo⟩ (emp (memAt F w w')) x (fun _ _ h => h) this
  · exact h1.elim
theorem res_of_side (hΓ : ∀ f g, Γ.g f = some g → FnOk P f g) (hΛ : ∀ f k L, Λ f k = some L → ∀ b ∈ loopsOf P f, lkey b = k → LoopOk P b L.g) (n : Nat) (d : δ) (S : γ → Prop)
    (hS : ∀ g, (rTree P Γ Λ n f (D.enc g) R).side = S g) (he : ∀ g, (rTree P Γ Λ n f (D.enc g) R).ev d = fn g) (hs : ∀ g, D.bd g → (∀ p ∈ pre g, p) → S g) : FnPure P f D R.D fn pre :=
  res_of_tree hΓ hΛ n fun g h1 h2 => by
    have := Tr.side_holds d (by rw [hS]; exact hs g h1 h2 : (rTree P Γ Λ n f (D.enc g) R).side)
    rw [he g] at this
    exact this
end
end Go.Sx

/- More that a loop carries: a part of a known row. -/
namespace Go.Sx
open Go.RowKit
/-- A slot that holds a part of a known row. -/
def LP.seS (N i id sz : Nat) : LP N (Nat × Nat) where
  R := 0
  read σ := match σ.slot i with
    | .se j s o l => bif Nat.beq j id && (Nat.beq s sz && Nat.blt id N) then some ((o, l), [], []) else none
    | _ => none
  ents _ g := [(i, .se id sz g.1 g.2)]
  rows _ := []
  objs _ _ := []
  es := [i]
  os := []
  eseq _ _ := rfl
  oseq _ _ := rfl
  rlen _ := rfl
  ilen σ g ps ids h := by
    split at h
    · rename_i j s o l _
      cases hb : (Nat.beq j id && (Nat.beq s sz && Nat.blt id N)) with
      | false => rw [hb] at h; cases h
      | true =>
        rw [hb] at h
        simp only [cond_true, Option.some.injEq, Prod.mk.injEq] at h; rw [← h.2.2]; rfl
    · cases h
  ok k0 σ g ps ids h hp := by
    split at h
    · rename_i j s o l hs
      cases hb : (Nat.beq j id && (Nat.beq s sz && Nat.blt id N)) with
      | false => rw [hb] at h; cases h
      | true =>
        rw [hb] at h
        simp only [cond_true, Option.some.injEq, Prod.mk.injEq] at h
        obtain ⟨rfl, rfl, rfl⟩ := h
        simp only [Bool.and_eq_true] at hb
        have e1 := beq_of hb.1
        have e2 := beq_of hb.2.1
        have hlt := Nat.le_of_ble_eq_true hb.2.2
        subst e1; subst e2
        refine ⟨fun k t sz el l h => by simp at h, fun id' so h => by simp at h, fun i' s' h => ?_⟩
        simp only [List.mem_singleton, Prod.mk.injEq] at h
        obtain ⟨rfl, rfl⟩ := h
        refine ent_bl (fun n ρ x hx => by rw [hs] at hx; exact hx) fun n m ρ ρ' x hm ha hf => ?_
        obtain ⟨_, a, c, h1, h2, h3, h4⟩ := hf
        exact ⟨by omega, a, c, h1, h2, h3, fun hl => by rw [ha.1 _ hlt]; exact h4 hl⟩
    · cases h
/-- A slot that may hold a beginning of a known row (or anything else). -/
def LP.owB (N i id : Nat) : LP N (Bool × Nat) where
  R := 0
  read σ := match σ.slot i with
    | .ow j l => bif Nat.beq j id && Nat.blt id N then some ((true, l), [], []) else some ((false, 0), [], [])
    | .opt b (.ow j l) => bif Nat.beq j id && Nat.blt id N then some ((b, l), [], []) else some ((false, 0), [], [])
    | _ => some ((false, 0), [], [])
  ents _ g := [(i, .opt g.1 (.ow id g.2))]
  rows _ := []
  objs _ _ := []
  es := [i]
  os := []
  eseq _ _ := rfl
  oseq _ _ := rfl
  rlen _ := rfl
  ilen σ g ps ids h := by
    split at h
    · rename_i j l _
      cases hb : Nat.beq j id && Nat.blt id N with
      | false => rw [hb] at h; simp only [cond_false, Option.some.injEq, Prod.mk.injEq] at h; rw [← h.2.2]; rfl
      | true => rw [hb] at h; simp only [cond_true, Option.some.injEq, Prod.mk.injEq] at h; rw [← h.2.2]; rfl
    · rename_i b j l _
      cases hb : Nat.beq j id && Nat.blt id N with
      | false => rw [hb] at h; simp only [cond_false, Option.some.injEq, Prod.mk.injEq] at h; rw [← h.2.2]; rfl
      | true => rw [hb] at h; simp only [cond_true, Option.some.injEq, Prod.mk.injEq] at h; rw [← h.2.2]; rfl
    · simp only [Option.some.injEq, Prod.mk.injEq] at h; rw [← h.2.2]; rfl
  ok k0 σ g ps ids h hp := by
    have hu : Rel N k0 σ [] [(i, .opt false (.ow id 0))] [] [] := ⟨fun k t sz el l h => by simp at h, fun id so h => by simp at h, fun q s h => by
      simp only [List.mem_singleton, Prod.mk.injEq] at h
      obtain ⟨rfl, rfl⟩ := h
      exact ent_bl (fun _ _ _ _ h => (by cases h)) (fun _ _ _ _ _ _ _ _ h => (by cases h))⟩
    have hw : ∀ (b : Bool) (l : Nat), id < N → (∀ n ρ x, (σ.slot i).fit n ρ x → (SV.opt b (.ow id l)).fit n ρ x) → Rel N k0 σ [] [(i, .opt b (.ow id l))] [] [] := fun b l hlt hs =>
      ⟨fun k t sz el l h => by simp at h, fun id so h => by simp at h, fun q s h => by
        simp only [List.mem_singleton, Prod.mk.injEq] at h
        obtain ⟨rfl, rfl⟩ := h
        refine ent_bl hs fun n m ρ ρ' x hm ha hf hb => ?_
        obtain ⟨_, hf⟩ := hf hb
        exact ⟨by omega, by rw [ha.1 _ hlt]; exact hf⟩⟩
    split at h
    · rename_i j l hs
      cases hb : Nat.beq j id && Nat.blt id N with
      | false =>
        rw [hb] at h
        simp only [cond_false, Option.some.injEq, Prod.mk.injEq] at h
        obtain ⟨rfl, rfl, rfl⟩ := h
        exact hu
      | true =>
        rw [hb] at h
        simp only [Bool.and_eq_true] at hb
        have e1 := beq_of hb.1
        have hlt : id < N := Nat.le_of_ble_eq_true hb.2
        subst e1
        simp only [cond_true, Option.some.injEq, Prod.mk.injEq] at h
        obtain ⟨rfl, rfl, rfl⟩ := h
        exact hw _ _ hlt fun n ρ x hf _ => by rw [hs] at hf; exact hf
    · rename_i b j l hs
      cases hb : Nat.beq j id && Nat.blt id N with
      | false =>
        rw [hb] at h
        simp only [cond_false, Option.some.injEq, Prod.mk.injEq] at h
        obtain ⟨rfl, rfl, rfl⟩ := h
        exact hu
      | true =>
        rw [hb] at h
        simp only [Bool.and_eq_true] at hb
        have e1 := beq_of hb.1
        have hlt : id < N := Nat.le_of_ble_eq_true hb.2
        subst e1
        simp only [cond_true, Option.some.injEq, Prod.mk.injEq] at h
        obtain ⟨rfl, rfl, rfl⟩ := h
        exact hw _ _ hlt fun n ρ x hf => by rw [hs] at hf; exact hf
    · simp only [Option.some.injEq, Prod.mk.injEq] at h
      obtain ⟨rfl, rfl, rfl⟩ := h
      exact hu
/-- Two codes are one. -/
def CodeIs (a b : Code) : Prop := a = b
/-- A range over a function: its body's place; slots that stay as they were. -/
def fixT (N : Nat) (t : List (Nat × SV)) : List (Nat × SV) → Bool
  | [] => true
  | (i, v) :: r => litEq N (look (.k undef) i t) v && fixT N t r
theorem fixT_ok {N : Nat} {t : List (Nat × SV)} : ∀ {l : List (Nat × SV)}, fixT N t l = true → ∀ i v, (i, v) ∈ l → look (.k undef) i t = v ∧ Bl N v
  | [], _, _, _, h => by simp at h
  | (j, u) :: r, h, i, v, hm => by
    simp only [fixT, Bool.and_eq_true] at h
    rcases List.mem_cons.1 hm with he | hm
    · simp only [Prod.mk.injEq] at he
      obtain ⟨rfl, rfl⟩ := he
      exact litEq_ok h.1
    · exact fixT_ok h.2 i v hm
def restU (n : Nat) : List (Nat × SV) := (List.range n).map fun i => (i, .u)
theorem look_restU {n i : Nat} (h : i < n) : look (.k undef) i (restU n) = .u := by
  rcases look_or (.k undef) i (restU n) with h1 | h1
  · obtain ⟨j, _, e⟩ := List.mem_map.1 h1
    simp only [Prod.mk.injEq] at e
    exact e.2.symm
  · exact absurd (by simp only [restU, List.map_map]; simpa using h) h1
def LP.loopO (N id n : Nat) (fx : List (Nat × SV)) (ps : Array Tmp) (asg body : Code) (df : Nat) : LP N (LoopState × Option Code) where
  R := 0
  read σ := match σ.h.get id with
    | .loop st pd n' t ps' asg' body' df' => bif Nat.beq n' n && (Nat.beq df' df && (Nat.blt df N && (decide (ps' = ps) && fixT N t fx))) then some ((st, pd), [CodeIs asg' asg, CodeIs body' body], []) else none
    | _ => none
  ents _ _ := []
  rows _ := []
  objs _ g := [(id, .loop g.1 g.2 n (fx ++ restU n) ps asg body df)]
  es := []
  os := [id]
  eseq _ _ := rfl
  oseq _ _ := rfl
  rlen _ := rfl
  ilen σ g ps' ids h := by
    split at h
    · rename_i st pd n' t ps'' asg' body' df' _
      cases hb : (Nat.beq n' n && (Nat.beq df' df && (Nat.blt df N && (decide (ps'' = ps) && fixT N t fx)))) with
      | false => rw [hb] at h; cases h
      | true => rw [hb] at h; simp only [cond_true, Option.some.injEq, Prod.mk.injEq] at h; rw [← h.2.2]; rfl
    · cases h
  ok k0 σ g ps' ids h hp := by
    split at h
    · rename_i st pd n' t ps'' asg' body' df' hg
      cases hb : (Nat.beq n' n && (Nat.beq df' df && (Nat.blt df N && (decide (ps'' = ps) && fixT N t fx)))) with
      | false => rw [hb] at h; cases h
      | true =>
        rw [hb] at h
        simp only [cond_true, Option.some.injEq, Prod.mk.injEq] at h
        obtain ⟨rfl, rfl, rfl⟩ := h
        simp only [Bool.and_eq_true, decide_eq_true_eq] at hb
        obtain ⟨h1, h2, h3, h4, h5⟩ := hb
        have e1 := beq_of h1
        have e2 := beq_of h2
        subst e1; subst e2; subst h4
        have hlt : df' < N := Nat.le_of_ble_eq_true h3
        have c1 : asg' = asg := hp _ (List.mem_cons_self ..)
        have c2 : body' = body := hp _ (List.mem_cons_of_mem _ (List.mem_cons_self ..))
        subst c1; subst c2
        refine ⟨fun k t sz el l h => by simp at h, fun id' so h => ?_, fun j s h => by simp at h⟩
        simp only [List.mem_singleton, Prod.mk.injEq] at h
        obtain ⟨rfl, rfl⟩ := h
        rw [hg]
        refine ⟨fun _ h => h, fun n m ρ ρ' L o hr hf => ?_⟩
        have hNm : N ≤ m := by have := hr.le; omega
        have hag := hr.ag
        obtain ⟨f1, f2, f, tm, f3, f4, f5⟩ := hf
        refine ⟨f1, by omega, f, tm, by rw [hag.1 _ hlt]; exact f3, f4, fun i hi => ?_⟩
        have h6 := f5 i hi
        rw [look_append]
        rcases look_or (look (.k undef) i (restU n')) i fx with h7 | h7
        · obtain ⟨e, hbl⟩ := fixT_ok h5 _ _ h7
          rw [e] at h6
          exact hbl _ _ _ _ _ hNm hag h6
        · rw [look_not _ _ h7, look_restU hi]
          trivial
    · cases h
section
variable {P : Program} {Γ : Gam} {Λ : Lam} {N : Nat} {γ : Type}
/-- As loop_run, where a round is known only of some. -/
theorem loop_runI (ι : γ → γ) (hΓ : ∀ f g, Γ.g f = some g → FnOk P f g) (hΛ : ∀ f k L, Λ f k = some L → ∀ b ∈ loopsOf P f, lkey b = k → LoopOk P b L.g) (n f key n0 : Nat) (A : LP N γ) (DL : List Nat) (Inv : γ → List Prop) (F : γ → Ex × γ) (S : γ → Prop) (m : γ → Nat) (d : Ex × γ) (es : List Ex)
    (hu : ((loopsOf P f).filter fun c => Nat.beq (lkey c) key).length = 1)
    (hS : ∀ (rd : Option Nat) (T B : List (Nat × SV)) (HL HB : List (Nat × SE)) (ds : List Nat) (g : γ), (bT P Γ Λ n f none (loopBody P f key) A DL n0 ⟨n0, T, ⟨N, HL, HB⟩, DL, B⟩ ds (ι g)).side = S g)
    (hF : ∀ (rd : Option Nat) (T B : List (Nat × SV)) (HL HB : List (Nat × SE)) (ds : List Nat) (g : γ), (bT P Γ Λ n f none (loopBody P f key) A DL n0 ⟨n0, T, ⟨N, HL, HB⟩, DL, B⟩ ds (ι g)).ev d = F g)
    (hι : ∀ g, allP (Inv g) → ι g = g) (hs : ∀ g, allP (Inv g) → S g) (hg : Goes F m fun g => allP (Inv g)) (hes : ∀ g, (F g).1 = .normal ∨ (F g).1 ∈ es) : ∀ b ∈ loopsOf P f, lkey b = key → LoopOk P b (loopR es (loopBody P f key) A DL n0 Inv F m).g := by
  refine loop_ok hΓ hΛ n f key n0 A DL Inv _ m hu ?_
  intro rd T B HL HB ds g hi K hK
  have h1 : (bT P Γ Λ n f none (loopBody P f key) A DL n0 ⟨n0, T, ⟨N, HL, HB⟩, DL, B⟩ ds (ι g)).side := by rw [hS none]; exact hs g hi
  have h2 := Tr.side_holds d h1
  rw [hF none, hι g hi] at h2
  refine Tr.mono ?_ h2
  rintro _ rfl
  have hK0 := hK
  have hK : K (loopF F m g) := exitsT_holds (loopF_exit hg hes hi) hK
  unfold StepP
  split
  · rename_i he
    obtain ⟨k1, k2⟩ := hg g hi he
    refine ⟨k1, k2, ?_⟩
    show (exitsT (loopF F m (F g).2) es).Holds K
    rw [← loopF_next hg hi (g' := (F g).2) (by rw [← he])]
    exact hK0
  · rename_i he
    rw [loopF_end (by intro h; exact he h)] at hK
    exact hK
end
theorem pure_congr {γ δ : Type} {P : Program} {f : Nat} {D : DA γ} {R : Dv δ} {fn fn' : γ → δ} {pre : γ → List Prop} (h : FnPure P f D R fn pre) (e : ∀ g, D.bd g → (∀ p ∈ pre g, p) → fn g = fn' g) : FnPure P f D R fn' pre := by
  intro w F g vs h1 h2 h3
  refine (h w F g vs h1 h2 h3).mono ?_
  rintro e' w' ⟨x, k1, k2, k3⟩
  rw [e g (D.fb _ _ _ _ h3) h2] at k3
  exact ⟨x, k1, k2, k3⟩
end Go.Sx

/- The pieces of a range over a function, picked out of a function's code. -/
namespace Go.Sx
def rangesIn : Code → List (Array Tmp × Code × Code)
  | .seq a b => rangesIn a ++ rangesIn b
  | .cond _ a b => rangesIn a ++ rangesIn b
  | .block _ c => rangesIn c
  | .scope c => rangesIn c
  | .loop c => rangesIn c
  | .rangeFunc _ ps a b => (ps, a, b) :: (rangesIn a ++ rangesIn b)
  | _ => []
/-- The k-th range over a function in the text of f. -/
def rangeOf (P : Program) (f k : Nat) : Array Tmp × Code × Code :=
  match P.funcs[f]? with
  | some fn => match fn.body with
    | some c => ((rangesIn c)[k]?).getD (#[], .skip, .skip)
    | none => (#[], .skip, .skip)
  | none => (#[], .skip, .skip)
/-- What is carried of the state of a range over a function; 'n': slots of the function that ranges; 'df': where its marks lie. -/
def LP.rf (N id : Nat) (P : Program) (f k n : Nat) (fx : List (Nat × SV)) (df : Nat) : LP N (LoopState × Option Code) :=
  LP.loopO N id n fx (rangeOf P f k).1 (rangeOf P f k).2.1 (rangeOf P f k).2.2 df
def pdB : Option Code → Option Code → Bool
  | none, none => true
  | some .ret, some .ret => true
  | some (.exit a), some (.exit b) => Nat.beq a b
  | some (.goto a), some (.goto b) => Nat.beq a b
  | _, _ => false
/-- How a loop may end, written out, and what is known of what is carried there. -/
def exitsS {γ : Type} (x : Ex × γ) : List ((Ex × γ → Bool) × Ex × (γ → γ)) → Tr (Ex × γ)
  | [] => .bad 645
  | [(_, e, s)] => .ret (e, s x.2)
  | (t, e, s) :: y :: r => .br (t x) (.ret (e, s x.2)) (exitsS x (y :: r))
def exitsOk {γ : Type} (x : Ex × γ) : List ((Ex × γ → Bool) × Ex × (γ → γ)) → Prop
  | [] => False
  | [(_, e, s)] => x.1 = e ∧ s x.2 = x.2
  | (t, e, s) :: y :: r => (t x = true → x.1 = e ∧ s x.2 = x.2) ∧ (t x = false → exitsOk x (y :: r))
theorem exitsS_holds {γ : Type} {x : Ex × γ} {K : Ex × γ → Prop} : ∀ {l : List ((Ex × γ → Bool) × Ex × (γ → γ))}, exitsOk x l → (exitsS x l).Holds K → K x
  | [], h, _ => h.elim
  | [(_, e, s)], h, hk => by
    obtain ⟨h1, h2⟩ := h
    have hk : K (e, s x.2) := hk
    rw [← h1, h2] at hk
    exact hk
  | (t, e, s) :: y :: r, h, hk => by
    cases hb : t x with
    | true =>
      obtain ⟨h1, h2⟩ := h.1 hb
      have hk : K (e, s x.2) := hk.1 hb
      rw [← h1, h2] at hk
      exact hk
    | false => exact exitsS_holds (l := y :: r) (h.2 hb) (hk.2 hb)
section
variable {P : Program} {Γ : Gam} {Λ : Lam} {N : Nat} {γ : Type}
noncomputable def loopRS (es : List ((Ex × γ → Bool) × Ex × (γ → γ))) (body : Code) (A : LP N γ) (DL : List Nat) (n0 : Nat) (Inv : γ → List Prop) (F : γ → Ex × γ) (m : γ → Nat) : LCon := loopC body A DL n0 Inv fun g => exitsS (loopF F m g) es
theorem loop_runS (ι : γ → γ) (hΓ : ∀ f g, Γ.g f = some g → FnOk P f g) (hΛ : ∀ f k L, Λ f k = some L → ∀ b ∈ loopsOf P f, lkey b = k → LoopOk P b L.g) (n f key n0 : Nat) (A : LP N γ) (DL : List Nat) (Inv : γ → List Prop) (F : γ → Ex × γ) (S : γ → Prop) (m : γ → Nat) (d : Ex × γ) (es : List ((Ex × γ → Bool) × Ex × (γ → γ)))
    (hu : ((loopsOf P f).filter fun c => Nat.beq (lkey c) key).length = 1)
    (hS : ∀ (rd : Option Nat) (T B : List (Nat × SV)) (HL HB : List (Nat × SE)) (ds : List Nat) (g : γ), (bT P Γ Λ n f none (loopBody P f key) A DL n0 ⟨n0, T, ⟨N, HL, HB⟩, DL, B⟩ ds (ι g)).side = S g)
    (hF : ∀ (rd : Option Nat) (T B : List (Nat × SV)) (HL HB : List (Nat × SE)) (ds : List Nat) (g : γ), (bT P Γ Λ n f none (loopBody P f key) A DL n0 ⟨n0, T, ⟨N, HL, HB⟩, DL, B⟩ ds (ι g)).ev d = F g)
    (hι : ∀ g, allP (Inv g) → ι g = g) (hs : ∀ g, allP (Inv g) → S g) (hg : Goes F m fun g => allP (Inv g)) (hes : ∀ g, (F g).1 = .normal ∨ exitsOk (F g) es) : ∀ b ∈ loopsOf P f, lkey b = key → LoopOk P b (loopRS es (loopBody P f key) A DL n0 Inv F m).g := by
  refine loop_ok hΓ hΛ n f key n0 A DL Inv _ m hu ?_
  intro rd T B HL HB ds g hi K hK
  have h1 : (bT P Γ Λ n f none (loopBody P f key) A DL n0 ⟨n0, T, ⟨N, HL, HB⟩, DL, B⟩ ds (ι g)).side := by rw [hS none]; exact hs g hi
  have h2 := Tr.side_holds d h1
  rw [hF none, hι g hi] at h2
  refine Tr.mono ?_ h2
  rintro _ rfl
  have hK0 := hK
  have hx : exitsOk (loopF F m g) es := loopF_induct hg (Q := fun _ r => exitsOk r es) (fun g _ hn => (hes g).resolve_left hn) (fun _ _ _ _ _ _ _ ih => ih) g hi
  have hK : K (loopF F m g) := exitsS_holds hx hK
  unfold StepP
  split
  · rename_i he
    obtain ⟨k1, k2⟩ := hg g hi he
    refine ⟨k1, k2, ?_⟩
    show (exitsS (loopF F m (F g).2) es).Holds K
    rw [← loopF_next hg hi (g' := (F g).2) (by rw [← he])]
    exact hK0
  · rename_i he
    rw [loopF_end (by intro h; exact he h)] at hK
    exact hK
end
/-- A function that has captured one variable, as a result. -/
def Rv.fn1 {α : Type} (f : Nat) (R : Rv α) : Rv α where
  D := dFn1 f R.D
  dec h s := match s with
    | .fn f' [.p i 0] => match Nat.beq f f' with
      | true => match h.get i with
        | .cells [s'] _ => R.dec h s'
        | _ => none
      | false => none
    | _ => none
  ok {M w0 ρ h w G} hv {s r ps x} hd hp hf := by
    split at hd
    · rename_i f' i
      split at hd
      · rename_i hb
        split at hd
        · rename_i s' t hg
          have e1 := beq_of hb
          subst e1
          obtain ⟨l, rfl, hl⟩ := hf
          obtain ⟨y, r', rfl, hy, hr⟩ := fits_cons hl
          have := fits_nil hr
          subst this
          obtain ⟨_, rfl⟩ := hy
          have hob := hv.hm.ob i
          have hown := hv.hO i
          rw [hg] at hob hown
          obtain ⟨_, hz, v, hv', hfv⟩ := hob
          obtain ⟨z, r'', rfl, hz', hr''⟩ := fits_cons hfv
          have := fits_nil hr''
          subst this
          refine ⟨_, rfl, ⟨(ρ i).blk, (ρ i).off + 0, _, _, _, rfl, hown _ trivial hv', [z], ⟨R.ok hv hd hp hz', trivial⟩, fun j v hj => ?_⟩, trivial⟩
          cases j with
          | zero => simpa [hz] using hj
          | succ j => simp at hj
        · cases hd
      · cases hd
    · cases hd
end Go.Sx

/- Times and summaries: summaries and times as plain data. -/
namespace Go.Proofs.Ytiipneclghnfhaa
open Go.RowKit Go.Sx

structure S where
  f : Int
  k : Int
  a : Int
  n : Int
  p0 : Int
  p1 : Int
  p2 : Int
  p3 : Int
deriving DecidableEq, Inhabited
abbrev eI : El Int := eInt .i64
abbrev I2 := Int × Int
abbrev I4 := Int × Int × Int × Int
abbrev e4 : El I4 := .pair eI (.pair eI (.pair eI eI))
abbrev I8 := Int × Int × Int × Int × I4
def S.ofP : I8 → S := fun (f, k, a, n, p0, p1, p2, p3) => ⟨f, k, a, n, p0, p1, p2, p3⟩
def S.toP (s : S) : I8 := (s.f, s.k, s.a, s.n, s.p0, s.p1, s.p2, s.p3)
def eS : El S := .iso (.pair eI (.pair eI (.pair eI (.pair eI e4)))) S.ofP S.toP (fun _ => rfl) (fun _ => rfl)
structure T where
  e : Int
  d : Int
  l0 : Int
  l1 : Int
  l2 : Int
  l3 : Int
deriving DecidableEq, Inhabited
abbrev I6 := Int × Int × I4
def T.ofP : I6 → T := fun (e, d, l0, l1, l2, l3) => ⟨e, d, l0, l1, l2, l3⟩
def T.toP (t : T) : I6 := (t.e, t.d, t.l0, t.l1, t.l2, t.l3)
def eT : El T := .iso (.pair eI (.pair eI e4)) T.ofP T.toP (fun _ => rfl) (fun _ => rfl)
abbrev dI : Dv Int := dInt .i64
abbrev dS : Dv S := .agg eS
abbrev dT : Dv T := .agg eT
abbrev dSE : Dv (S × Int) := .tup (.cons dS (.one dI))
abbrev dTE : Dv (T × Int) := .tup (.cons dT (.one dI))
abbrev aS : DA S := .one dS
abbrev aSS : DA (S × S) := .cons dS (.one dS)
abbrev aSSI : DA (S × S × Int) := .cons dS (.cons dS (.one dI))
abbrev aT : DA T := .one dT
abbrev aI : DA Int := .one dI
abbrev aII : DA (Int × Int) := .cons dI (.one dI)
abbrev aST : DA (S × T) := .cons dS (.one dT)
abbrev aTT : DA (T × T) := .cons dT (.one dT)
theorem puI (r : Int) : Pu (dI.enc r) := pu_v _
theorem puB (r : Bool) : Pu (dBool.enc r) := pu_v _
theorem pus4 (a b c d : Int) : Pus [.v (.int .i64 a), .v (.int .i64 b), .v (.int .i64 c), .v (.int .i64 d)] := pus_cons (pu_v _) (pus_cons (pu_v _) (pus_cons (pu_v _) (pus_cons (pu_v _) pus_nil)))
theorem puS (r : S) : Pu (dS.enc r) := pu_agg (pus_cons (pu_v _) (pus_cons (pu_v _) (pus_cons (pu_v _) (pus_cons (pu_v _) (pus4 _ _ _ _)))))
theorem puT (r : T) : Pu (dT.enc r) := pu_agg (pus_cons (pu_v _) (pus_cons (pu_v _) (pus4 _ _ _ _)))
theorem puSE (r : S × Int) : Pu (dSE.enc r) := pu_tup (pus_cons (puS _) (pus_cons (pu_v _) pus_nil))
theorem puTE (r : T × Int) : Pu (dTE.enc r) := pu_tup (pus_cons (puT _) (pus_cons (pu_v _) pus_nil))
noncomputable def tab0 : PTab Try.prog := PTab.nil
end Go.Proofs.Ytiipneclghnfhaa

/- Times and summaries: the leaves. Printed by treegen.py. -/
namespace Go.Proofs.Ytiipneclghnfhaa
open Go.RowKit Go.Sx
set_option maxRecDepth 100000
set_option linter.unusedVariables false
noncomputable def may_F (a : S) : Dv.T dBool :=
  bif !(decide (a.f < (0 : Int)) || decide (a.f > (4 : Int))) && !(decide (a.n < (0 : Int)) || decide (a.n > (4 : Int))) && !(decide (a.k < (0 : Int)) || (decide (a.k > a.f) || decide (IntKind.i64.wrap (a.k + a.n) > (4 : Int)))) && !(!(decide (a.a ≥ (0 : Int)) && decide (a.a ≤ (1048576 : Int))) || a.k == (0 : Int) && a.a != (0 : Int)) then bif !(decide (a.p0 ≥ (0 : Int)) && decide (a.p0 ≤ (1048576 : Int))) || decide ((0 : Int) ≥ a.n) && a.p0 != (0 : Int) then false else bif !(decide (a.p1 ≥ (0 : Int)) && decide (a.p1 ≤ (1048576 : Int))) || decide ((1 : Int) ≥ a.n) && a.p1 != (0 : Int) then false else bif !(decide (a.p2 ≥ (0 : Int)) && decide (a.p2 ≤ (1048576 : Int))) || decide ((2 : Int) ≥ a.n) && a.p2 != (0 : Int) then false else bif !(decide (a.p3 ≥ (0 : Int)) && decide (a.p3 ≤ (1048576 : Int))) || decide ((3 : Int) ≥ a.n) && a.p3 != (0 : Int) then false else true
  else false
theorem may_ok : FnPure Try.prog 123 aS dBool (fun g => may_F g) (fun _ => []) := pure_of_safe (Γ := (PTab.gamz tab0 [] [(80, 0, 5)])) (Λ := noΛ) (PTab.okz tab0 [] [(80, 0, 5)]) noΛ_ok 100 default (fun g => by kernel_rfl) (fun g => by kernel_rfl)
noncomputable def rcheck_F (a : S) : Dv.T dI :=
  bif decide (a.f < (0 : Int)) || (decide (a.f > (4 : Int)) || (decide (a.n < (0 : Int)) || (decide (a.n > (4 : Int)) || (decide (a.k < (0 : Int)) || (decide (a.k > a.f) || (decide (IntKind.i64.wrap (a.k + a.n) > (4 : Int)) || (decide (a.a < (0 : Int)) || (decide (a.a > (1048576 : Int)) || a.k == (0 : Int) && a.a != (0 : Int))))))))) then (20 : Int)
  else bif decide (a.p0 < (0 : Int)) || (decide (a.p0 > (1048576 : Int)) || decide ((0 : Int) ≥ a.n) && a.p0 != (0 : Int)) then (20 : Int) else bif decide (a.p1 < (0 : Int)) || (decide (a.p1 > (1048576 : Int)) || decide ((1 : Int) ≥ a.n) && a.p1 != (0 : Int)) then (20 : Int) else bif decide (a.p2 < (0 : Int)) || (decide (a.p2 > (1048576 : Int)) || decide ((2 : Int) ≥ a.n) && a.p2 != (0 : Int)) then (20 : Int) else bif decide (a.p3 < (0 : Int)) || (decide (a.p3 > (1048576 : Int)) || decide ((3 : Int) ≥ a.n) && a.p3 != (0 : Int)) then (20 : Int) else (0 : Int)
theorem rcheck_ok : FnPure Try.prog 124 aS dI (fun g => rcheck_F g) (fun _ => []) := pure_of_safe (Γ := (PTab.gamz tab0 [] [(80, 0, 5)])) (Λ := noΛ) (PTab.okz tab0 [] [(80, 0, 5)]) noΛ_ok 100 default (fun g => by kernel_rfl) (fun g => by kernel_rfl)
noncomputable def tcheck_F (t : T) : Dv.T dI :=
  bif decide (t.e < (0 : Int)) || (decide (t.e > (1073741824 : Int)) || (decide (t.d < (0 : Int)) || decide (t.d > (4 : Int)))) then (10 : Int)
  else bif decide (t.l0 < (0 : Int)) || (decide (t.l0 > (1048576 : Int)) || decide ((0 : Int) ≥ t.d) && t.l0 != (0 : Int)) then (10 : Int) else bif decide (t.l1 < (0 : Int)) || (decide (t.l1 > (1048576 : Int)) || decide ((1 : Int) ≥ t.d) && t.l1 != (0 : Int)) then (10 : Int) else bif decide (t.l2 < (0 : Int)) || (decide (t.l2 > (1048576 : Int)) || decide ((2 : Int) ≥ t.d) && t.l2 != (0 : Int)) then (10 : Int) else bif decide (t.l3 < (0 : Int)) || (decide (t.l3 > (1048576 : Int)) || decide ((3 : Int) ≥ t.d) && t.l3 != (0 : Int)) then (10 : Int) else (0 : Int)
theorem tcheck_ok : FnPure Try.prog 81 aT dI (fun g => tcheck_F g) (fun _ => []) := pure_of_safe (Γ := (PTab.gamz tab0 [] [(80, 0, 5)])) (Λ := noΛ) (PTab.okz tab0 [] [(80, 0, 5)]) noΛ_ok 100 default (fun g => by kernel_rfl) (fun g => by kernel_rfl)
noncomputable def rtcheck_F (t : T) : Dv.T dI :=
  bif decide (t.e < (0 : Int)) || (decide (t.e > (1073741824 : Int)) || (decide (t.d < (0 : Int)) || decide (t.d > (4 : Int)))) then (10 : Int)
  else bif decide (t.l0 < (0 : Int)) || (decide (t.l0 > (1048576 : Int)) || decide ((0 : Int) ≥ t.d) && t.l0 != (0 : Int)) then (10 : Int) else bif decide (t.l1 < (0 : Int)) || (decide (t.l1 > (1048576 : Int)) || decide ((1 : Int) ≥ t.d) && t.l1 != (0 : Int)) then (10 : Int) else bif decide (t.l2 < (0 : Int)) || (decide (t.l2 > (1048576 : Int)) || decide ((2 : Int) ≥ t.d) && t.l2 != (0 : Int)) then (10 : Int) else bif decide (t.l3 < (0 : Int)) || (decide (t.l3 > (1048576 : Int)) || decide ((3 : Int) ≥ t.d) && t.l3 != (0 : Int)) then (10 : Int) else (0 : Int)
theorem rtcheck_ok : FnPure Try.prog 23 aT dI (fun g => rtcheck_F g) (fun _ => []) := pure_of_safe (Γ := (PTab.gamz tab0 [] [(80, 0, 5)])) (Λ := noΛ) (PTab.okz tab0 [] [(80, 0, 5)]) noΛ_ok 100 default (fun g => by kernel_rfl) (fun g => by kernel_rfl)
noncomputable def tab2 : PTab Try.prog := ((((tab0).cons 123 (pconP aS dBool (fun g => may_F g) (fun _ => [])) (conP_ok may_ok puB)).cons 124 (pconP aS dI (fun g => rcheck_F g) (fun _ => [])) (conP_ok rcheck_ok puI)).cons 81 (pconP aT dI (fun g => tcheck_F g) (fun _ => [])) (conP_ok tcheck_ok puI)).cons 23 (pconP aT dI (fun g => rtcheck_F g) (fun _ => [])) (conP_ok rtcheck_ok puI)
end Go.Proofs.Ytiipneclghnfhaa

/- Times and summaries: what the leaves say. -/
namespace Go.Proofs.Ytiipneclghnfhaa
open Go.RowKit Go.Sx
theorem wr {x : Int} (h : -9223372036854775808 ≤ x ∧ x ≤ 9223372036854775807) : IntKind.i64.wrap x = x := by
  have := IntKind.wrap_i64 x
  omega
/-- What it is for a summary to be one. -/
def S.Ok (s : S) : Prop := (0 ≤ s.f ∧ s.f ≤ 4 ∧ 0 ≤ s.n ∧ s.n ≤ 4 ∧ 0 ≤ s.k ∧ s.k ≤ s.f ∧ s.k + s.n ≤ 4) ∧ (0 ≤ s.a ∧ s.a ≤ 1048576 ∧ (s.k = 0 → s.a = 0)) ∧
   (0 ≤ s.p0 ∧ s.p0 ≤ 1048576 ∧ (s.n ≤ 0 → s.p0 = 0)) ∧ (0 ≤ s.p1 ∧ s.p1 ≤ 1048576 ∧ (s.n ≤ 1 → s.p1 = 0)) ∧ (0 ≤ s.p2 ∧ s.p2 ≤ 1048576 ∧ (s.n ≤ 2 → s.p2 = 0)) ∧ (0 ≤ s.p3 ∧ s.p3 ≤ 1048576 ∧ (s.n ≤ 3 → s.p3 = 0))
theorem cond_ff {c b : Bool} : (bif c then false else b) = true ↔ c = false ∧ b = true := by cases c <;> simp
theorem cond_bf {c b : Bool} : (bif c then b else false) = true ↔ c = true ∧ b = true := by cases c <;> simp
theorem may_iff (s : S) : may_F s = true ↔ s.Ok := by
  unfold may_F S.Ok
  simp only [cond_ff, cond_bf, Bool.and_eq_true, Bool.or_eq_false_iff, Bool.not_eq_true', Bool.not_eq_false', decide_eq_false_iff_not, decide_eq_true_eq, Bool.and_eq_false_iff, bne_eq_false_iff_eq, beq_eq_false_iff_ne, beq_iff_eq, IntKind.wrap_i64, and_true, ne_eq, true_and]
  omega
theorem cond_20 {c : Bool} {x : Int} : (bif c then (20 : Int) else x) = 0 ↔ c = false ∧ x = 0 := by cases c <;> simp
theorem cond_10 {c : Bool} {x : Int} : (bif c then (10 : Int) else x) = 0 ↔ c = false ∧ x = 0 := by cases c <;> simp
theorem rcheck_iff (s : S) : rcheck_F s = 0 ↔ s.Ok := by
  unfold rcheck_F S.Ok
  simp only [cond_20, Bool.and_eq_true, Bool.or_eq_false_iff, Bool.not_eq_true', Bool.not_eq_false', decide_eq_false_iff_not, decide_eq_true_eq, Bool.and_eq_false_iff, bne_eq_false_iff_eq, beq_eq_false_iff_ne, beq_iff_eq, IntKind.wrap_i64, and_true, ne_eq, true_and]
  omega
theorem rcheck_or (s : S) : rcheck_F s = 0 ∨ rcheck_F s = 20 := by
  unfold rcheck_F
  repeat' (rw [Bool.cond_eq_ite]; split)
  all_goals simp
theorem rcheck_eq (s : S) : rcheck_F s = bif may_F s then 0 else 20 := by
  cases h : may_F s with
  | true => exact (rcheck_iff s).2 ((may_iff s).1 h)
  | false =>
    rcases rcheck_or s with h1 | h1
    · rw [(may_iff s).2 ((rcheck_iff s).1 h1)] at h; cases h
    · exact h1
theorem rtcheck_eq (t : T) : rtcheck_F t = tcheck_F t := rfl
def T.Ok (t : T) : Prop := (0 ≤ t.e ∧ t.e ≤ 1073741824 ∧ 0 ≤ t.d ∧ t.d ≤ 4) ∧
   (0 ≤ t.l0 ∧ t.l0 ≤ 1048576 ∧ (t.d ≤ 0 → t.l0 = 0)) ∧ (0 ≤ t.l1 ∧ t.l1 ≤ 1048576 ∧ (t.d ≤ 1 → t.l1 = 0)) ∧ (0 ≤ t.l2 ∧ t.l2 ≤ 1048576 ∧ (t.d ≤ 2 → t.l2 = 0)) ∧ (0 ≤ t.l3 ∧ t.l3 ≤ 1048576 ∧ (t.d ≤ 3 → t.l3 = 0))
theorem tcheck_iff (t : T) : tcheck_F t = 0 ↔ t.Ok := by
  unfold tcheck_F T.Ok
  simp only [cond_10, Bool.and_eq_true, Bool.or_eq_false_iff, decide_eq_false_iff_not, Bool.and_eq_false_iff, bne_eq_false_iff_eq, and_true]
  omega
theorem tcheck_or (t : T) : tcheck_F t = 0 ∨ tcheck_F t = 10 := by
  unfold tcheck_F
  repeat' (rw [Bool.cond_eq_ite]; split)
  all_goals simp
theorem not_beq {a b : Int} (h : (!a == b) = true) : a ≠ b := by simpa using h
end Go.Proofs.Ytiipneclghnfhaa

/- Times and summaries: arguments with written out sizes. -/
namespace Go.Proofs.Ytiipneclghnfhaa
open Go.RowKit Go.Sx
theorem neq0 {x : Int} (h : (x != 0) = false) : x = 0 := bne_eq_false_iff_eq.1 h
noncomputable def tab3 : PTab Try.prog := tab2
def vi (n : Int) : SV := .v (.int .i64 n)
def ki (n : Int) : SV := .k (.int .i64 n)
def encK (s : S) (k n : Nat) : SV := .agg [vi s.f, ki k, vi s.a, ki n, vi s.p0, vi s.p1, vi s.p2, vi s.p3]
def encD (t : T) (d : Nat) : SV := .agg [vi t.e, ki d, vi t.l0, vi t.l1, vi t.l2, vi t.l3]
def litS (s : S) (k n : Nat) : S := ⟨s.f, k, s.a, n, s.p0, s.p1, s.p2, s.p3⟩
theorem litS_eq {s : S} {k n : Nat} (h1 : s.k = k) (h2 : s.n = n) : litS s k n = s := by unfold litS; rw [← h1, ← h2]
def vv1 : SV → SV
  | .k x => .v x
  | s => s
theorem vv1_fit {s : SV} {n : Nat} {ρ : Rh} {x : Value} : (vv1 s).fit n ρ x ↔ s.fit n ρ x := by cases s <;> simp [vv1, SV.fit]
theorem fits_vv1 {n : Nat} {ρ : Rh} : ∀ {xs ys : List SV} {l : List Value}, xs.map vv1 = ys.map vv1 → SV.fits n ρ xs l → SV.fits n ρ ys l
  | [], [], _, _, h => h
  | x :: xs, y :: ys, l, he, h => by
    obtain ⟨a, r, rfl, ha, hr⟩ := fits_cons h
    simp only [List.map_cons, List.cons.injEq] at he
    exact ⟨vv1_fit.1 (he.1 ▸ vv1_fit.2 ha), fits_vv1 he.2 hr⟩
  | [], _ :: _, _, he, _ => by simp at he
  | _ :: _, [], _, he, _ => by simp at he
theorem encK_fit {s : S} {k n : Nat} (h1 : s.k = k) (h2 : s.n = n) {m : Nat} {ρ : Rh} {x : Value} (h : (dS.enc s).fit m ρ x) : (encK s k n).fit m ρ x := by
  rw [← litS_eq h1 h2] at h
  obtain ⟨l, hx, hl⟩ := h
  exact ⟨l, hx, fits_vv1 (xs := eS.cells (litS s k n)) rfl hl⟩
theorem encKK_fit {a b : S} {k n k' n' : Nat} (h1 : a.k = k) (h2 : a.n = n) (h3 : b.k = k') (h4 : b.n = n') {m : Nat} {ρ : Rh} {x : List Value} (h : SV.fits m ρ (aSS.enc (a, b)) x) : SV.fits m ρ [encK a k n, encK b k' n'] x := by
  obtain ⟨y, r, rfl, hy, hr⟩ := fits_cons h
  obtain ⟨z, r', rfl, hz, hr'⟩ := fits_cons hr
  exact ⟨encK_fit h1 h2 hy, encK_fit h3 h4 hz, hr'⟩
theorem encKT_fit {a : S} {t : T} {k n : Nat} (h1 : a.k = k) (h2 : a.n = n) {m : Nat} {ρ : Rh} {x : List Value} (h : SV.fits m ρ (aST.enc (a, t)) x) : SV.fits m ρ [encK a k n, dT.enc t] x := by
  obtain ⟨y, r, rfl, hy, hr⟩ := fits_cons h
  exact ⟨encK_fit h1 h2 hy, hr⟩
end Go.Proofs.Ytiipneclghnfhaa

/- Times and summaries: Apply, case by case of Keep and N. -/
namespace Go.Proofs.Ytiipneclghnfhaa
open Go.RowKit Go.Sx
noncomputable section
def els {α : Type} : Tr α → Tr α
  | .br _ _ b => b
  | t => t
def zS : S := ⟨0, 0, 0, 0, 0, 0, 0, 0⟩
def zT : T := ⟨0, 0, 0, 0, 0, 0⟩
def S.p (s : S) : List Int := [s.p0, s.p1, s.p2, s.p3]
def T.l (t : T) : List Int := [t.l0, t.l1, t.l2, t.l3]
def mkS (f k a n : Int) (l : List Int) : S := ⟨f, k, a, n, l.getD 0 0, l.getD 1 0, l.getD 2 0, l.getD 3 0⟩
def mkT (e d : Int) (l : List Int) : T := ⟨e, d, l.getD 0 0, l.getD 1 0, l.getD 2 0, l.getD 3 0⟩
abbrev w64 (x : Int) : Int := IntKind.i64.wrap x
theorem four {k : Nat} (h : k ≤ 4) : k = 0 ∨ k = 1 ∨ k = 2 ∨ k = 3 ∨ k = 4 := by omega
abbrev g3 : Gam := tab3.gamz [] []
/-! ### Apply -/
def applyL (k n : Nat) (s : S) (t : T) : List Int :=
  match k with
  | 0 => s.p.take n
  | j + 1 => (t.l.take j ++ [w64 (t.l.getD j 0 + s.a)]) ++ s.p.take n
def applyTr (s : S) (t : T) (k n : Nat) : Tr (T × Int) :=
  .br (!may_F (litS s k n)) (.ret (zT, 20)) (.br (tcheck_F t != 0) (.ret (zT, tcheck_F t)) (.br (t.d != s.f) (.ret (zT, 11)) (match k with
    | 0 => .ret (mkT t.e (0 + n : Nat) (applyL 0 n s t), 0)
    | j + 1 => .br (decide (w64 (t.l.getD j 0 + s.a) > 1048576)) (.ret (zT, 12)) (.ret (mkT t.e (j + 1 + n : Nat) (applyL (j + 1) n s t), 0)))))
def rapplyTr (s : S) (t : T) (k n : Nat) : Tr (T × Int) :=
  .br (rcheck_F (litS s k n) != 0) (.ret (zT, rcheck_F (litS s k n))) (.br (rtcheck_F t != 0) (.ret (zT, rtcheck_F t)) (.br (t.d != s.f) (.ret (zT, 11))
    (.br (rtcheck_F (mkT t.e (k + n : Nat) (applyL k n s t)) != 0) (.ret (zT, 12)) (.ret (mkT t.e (k + n : Nat) (applyL k n s t), 0)))))
theorem apply_tree (s : S) (t : T) (k n : Nat) (h1 : k + n ≤ 4) : dTree Try.prog g3 noΛ 100 93 [encK s k n, dT.enc t] dTE = applyTr s t k n := by
  rcases four (show k ≤ 4 by omega) with rfl | rfl | rfl | rfl | rfl <;> rcases four (show n ≤ 4 by omega) with rfl | rfl | rfl | rfl | rfl <;> first
    | (exfalso; omega)
    | kernel_rfl
theorem rapply_tree (s : S) (t : T) (k n : Nat) (h1 : k + n ≤ 4) : dTree Try.prog g3 noΛ 100 94 [encK s k n, dT.enc t] dTE = rapplyTr s t k n := by
  rcases four (show k ≤ 4 by omega) with rfl | rfl | rfl | rfl | rfl <;> rcases four (show n ≤ 4 by omega) with rfl | rfl | rfl | rfl | rfl <;> first
    | (exfalso; omega)
    | kernel_rfl
theorem apply_no (s : S) (t : T) : dTree Try.prog g3 noΛ 100 93 (aST.enc (s, t)) dTE = .br (!may_F s) (.ret (zT, 20)) (els (dTree Try.prog g3 noΛ 100 93 (aST.enc (s, t)) dTE)) := by kernel_rfl
theorem apply_no2 (s : S) (t : T) : els (dTree Try.prog g3 noΛ 100 93 (aST.enc (s, t)) dTE) = .br (tcheck_F t != 0) (.ret (zT, tcheck_F t)) (els (els (dTree Try.prog g3 noΛ 100 93 (aST.enc (s, t)) dTE))) := by kernel_rfl
theorem apply_no3 (s : S) (t : T) : els (els (dTree Try.prog g3 noΛ 100 93 (aST.enc (s, t)) dTE)) = .br (t.d != s.f) (.ret (zT, 11)) (els (els (els (dTree Try.prog g3 noΛ 100 93 (aST.enc (s, t)) dTE)))) := by kernel_rfl
theorem rapply_no (s : S) (t : T) : dTree Try.prog g3 noΛ 100 94 (aST.enc (s, t)) dTE = .br (rcheck_F s != 0) (.ret (zT, rcheck_F s)) (els (dTree Try.prog g3 noΛ 100 94 (aST.enc (s, t)) dTE)) := by kernel_rfl
theorem rapply_no2 (s : S) (t : T) : els (dTree Try.prog g3 noΛ 100 94 (aST.enc (s, t)) dTE) = .br (rtcheck_F t != 0) (.ret (zT, rtcheck_F t)) (els (els (dTree Try.prog g3 noΛ 100 94 (aST.enc (s, t)) dTE))) := by kernel_rfl
theorem rapply_no3 (s : S) (t : T) : els (els (dTree Try.prog g3 noΛ 100 94 (aST.enc (s, t)) dTE)) = .br (t.d != s.f) (.ret (zT, 11)) (els (els (els (dTree Try.prog g3 noΛ 100 94 (aST.enc (s, t)) dTE)))) := by kernel_rfl
end
end Go.Proofs.Ytiipneclghnfhaa

/- Times and summaries: Apply: the contracts of both sides. -/
namespace Go.Proofs.Ytiipneclghnfhaa
open Go.RowKit Go.Sx
noncomputable section
theorem p_mem {s : S} (h : s.Ok) : ∀ x ∈ s.p, 0 ≤ x ∧ x ≤ 1048576 := by
  unfold S.Ok at h
  intro x hx
  simp only [S.p, List.mem_cons, List.not_mem_nil, or_false] at hx
  rcases hx with rfl | rfl | rfl | rfl <;> omega
theorem p_get {s : S} (h : s.Ok) (i : Nat) : 0 ≤ s.p.getD i 0 ∧ s.p.getD i 0 ≤ 1048576 := by
  by_cases hi : i < s.p.length
  · rw [List.getD_eq_getElem?_getD, List.getElem?_eq_getElem hi]
    exact p_mem h _ (List.getElem_mem hi)
  · rw [List.getD_eq_getElem?_getD, List.getElem?_eq_none (by omega)]
    simp
theorem sizes {s : S} (h : s.Ok) : s.k = (s.k.toNat : Int) ∧ s.n = (s.n.toNat : Int) ∧ s.k.toNat + s.n.toNat ≤ 4 := by
  have := h.1
  omega
theorem len_p (s : S) : s.p.length = 4 := rfl
theorem notOr {a b : Bool} (h : (!a || !b) = false) : a = true ∧ b = true := by cases a <;> cases b <;> simp_all
theorem rc_or (a b : S) : (rcheck_F a != 0 || rcheck_F b != 0) = (!may_F a || !may_F b) := by
  rw [rcheck_eq, rcheck_eq]
  cases may_F a <;> cases may_F b <;> rfl
theorem rc_ne (s : S) : (rcheck_F s != 0) = !may_F s := by
  rw [rcheck_eq]
  cases may_F s <;> rfl
theorem may_false {s : S} (h : ¬ s.Ok) : may_F s = false := by
  cases hm : may_F s with
  | true => exact absurd ((may_iff s).1 hm) h
  | false => rfl
def applyC (k n : Nat) (s : S) (t : T) : T × Int :=
  match k with
  | 0 => (mkT t.e (n : Int) (s.p.take n), 0)
  | j + 1 => bif decide (t.l.getD j 0 + s.a > 1048576) then (zT, 12) else (mkT t.e ((j + 1 + n : Nat) : Int) ((t.l.take j ++ [t.l.getD j 0 + s.a]) ++ s.p.take n), 0)
def applyF (s : S) (t : T) : T × Int :=
  bif !may_F s then (zT, 20) else bif tcheck_F t != 0 then (zT, tcheck_F t) else bif t.d != s.f then (zT, 11) else applyC s.k.toNat s.n.toNat s t
theorem l_mem {t : T} (h : t.Ok) : ∀ x ∈ t.l, 0 ≤ x ∧ x ≤ 1048576 := by
  unfold T.Ok at h
  intro x hx
  simp only [T.l, List.mem_cons, List.not_mem_nil, or_false] at hx
  rcases hx with rfl | rfl | rfl | rfl <;> omega
theorem l_get {t : T} (h : t.Ok) (i : Nat) : 0 ≤ t.l.getD i 0 ∧ t.l.getD i 0 ≤ 1048576 := by
  by_cases hi : i < t.l.length
  · rw [List.getD_eq_getElem?_getD, List.getElem?_eq_getElem hi]
    exact l_mem h _ (List.getElem_mem hi)
  · rw [List.getD_eq_getElem?_getD, List.getElem?_eq_none (by omega)]
    simp
theorem len_l (t : T) : t.l.length = 4 := rfl
theorem okmt {e : Int} {d : Nat} {l : List Int} (hl : l.length = d) (hd : d ≤ 4) (he : 0 ≤ e ∧ e ≤ 1073741824) : (mkT e d l).Ok ↔ ∀ x ∈ l, 0 ≤ x ∧ x ≤ 1048576 := by
  subst hl
  match l, hd with
  | [], _ => simp [mkT, T.Ok]; omega
  | [x0], _ => simp [mkT, T.Ok]; omega
  | [x0, x1], _ => simp [mkT, T.Ok]; omega
  | [x0, x1, x2], _ => simp [mkT, T.Ok]; omega
  | [x0, x1, x2, x3], _ => simp [mkT, T.Ok]; omega
theorem tc_ne (t : T) : (tcheck_F t != 0) = !decide (tcheck_F t = 0) := by
  cases h : decide (tcheck_F t = 0) <;> simp_all
theorem applyF_core {s : S} {t : T} (hs : may_F s = true) (ht : tcheck_F t = 0) (he : t.d = s.f) : applyF s t = applyC s.k.toNat s.n.toNat s t := by
  unfold applyF
  rw [hs, ht, he]
  simp
theorem apply_ok : FnPure Try.prog 93 aST dTE (fun g => applyF g.1 g.2) (fun _ => []) := by
  refine pure_of_cases (Γ := g3) (Λ := noΛ) (tab3.okz [] []) noΛ_ok 100 fun g _ _ => ?_
  obtain ⟨s, t⟩ := g
  show ∃ args, (∀ n ρ x, SV.fits n ρ (aST.enc (s, t)) x → SV.fits n ρ args x) ∧ (dTree Try.prog g3 noΛ 100 93 args dTE).Holds (· = applyF s t)
  cases hs : may_F s with
  | false =>
    refine ⟨_, fun _ _ _ h => h, ?_⟩
    rw [apply_no, hs]
    generalize els (dTree Try.prog g3 noΛ 100 93 (aST.enc (s, t)) dTE) = r
    refine ⟨fun _ => ?_, fun hc => (by cases hc)⟩
    show (zT, (20 : Int)) = applyF s t
    unfold applyF; rw [hs]; rfl
  | true =>
    by_cases ht : tcheck_F t = 0
    · by_cases he : t.d = s.f
      · have os := (may_iff s).1 hs
        have ot := (tcheck_iff t).1 ht
        obtain ⟨ks, ns, h4⟩ := sizes os
        refine ⟨[encK s s.k.toNat s.n.toNat, dT.enc t], fun _ _ _ h => encKT_fit ks ns h, ?_⟩
        rw [apply_tree s t _ _ h4, applyF_core hs ht he]
        unfold applyTr
        rw [litS_eq ks ns, hs, ht, he]
        refine ⟨fun hc => (by cases hc), fun _ => ⟨fun hc => (by cases hc), fun _ => ⟨fun hc => (by simp at hc), fun _ => ?_⟩⟩⟩
        have ga := os.2.1
        generalize s.k.toNat = k at h4 ⊢
        cases k with
        | zero =>
          show (mkT t.e ((0 + s.n.toNat : Nat) : Int) (s.p.take s.n.toNat), (0 : Int)) = _
          rw [Nat.zero_add]; rfl
        | succ j =>
          have hl := l_get ot j
          have hw : w64 (t.l.getD j 0 + s.a) = t.l.getD j 0 + s.a := wr (by omega)
          simp only [applyC, applyL, hw]
          exact ⟨fun h => by rw [h]; rfl, fun h => by rw [h]; rfl⟩
      · refine ⟨_, fun _ _ _ h => h, ?_⟩
        rw [apply_no, hs]
        refine ⟨fun hc => (by cases hc), fun _ => ?_⟩
        rw [apply_no2, ht]
        refine ⟨fun hc => (by cases hc), fun _ => ?_⟩
        rw [apply_no3]
        generalize els (els (els (dTree Try.prog g3 noΛ 100 93 (aST.enc (s, t)) dTE))) = r
        refine ⟨fun _ => ?_, fun hc => absurd (bne_eq_false_iff_eq.1 hc) he⟩
        show (zT, (11 : Int)) = applyF s t
        unfold applyF; rw [hs, ht, show (t.d != s.f) = true by simpa using he]; rfl
    · refine ⟨_, fun _ _ _ h => h, ?_⟩
      rw [apply_no, hs]
      refine ⟨fun hc => (by cases hc), fun _ => ?_⟩
      rw [apply_no2]
      generalize els (els (dTree Try.prog g3 noΛ 100 93 (aST.enc (s, t)) dTE)) = r
      refine ⟨fun hc => ?_, fun hc => absurd (bne_eq_false_iff_eq.1 hc) ht⟩
      show (zT, tcheck_F t) = applyF s t
      unfold applyF; rw [hs, hc]; rfl
theorem rt_ne (t : T) : (rtcheck_F t != 0) = (tcheck_F t != 0) := rfl
theorem rapply_ok : FnPure Try.prog 94 aST dTE (fun g => applyF g.1 g.2) (fun _ => []) := by
  refine pure_of_cases (Γ := g3) (Λ := noΛ) (tab3.okz [] []) noΛ_ok 100 fun g _ _ => ?_
  obtain ⟨s, t⟩ := g
  show ∃ args, (∀ n ρ x, SV.fits n ρ (aST.enc (s, t)) x → SV.fits n ρ args x) ∧ (dTree Try.prog g3 noΛ 100 94 args dTE).Holds (· = applyF s t)
  cases hs : may_F s with
  | false =>
    refine ⟨_, fun _ _ _ h => h, ?_⟩
    rw [rapply_no, rc_ne, hs, rcheck_eq, hs]
    generalize els (dTree Try.prog g3 noΛ 100 94 (aST.enc (s, t)) dTE) = r
    refine ⟨fun _ => ?_, fun hc => (by cases hc)⟩
    show (zT, (20 : Int)) = applyF s t
    unfold applyF; rw [hs]; rfl
  | true =>
    by_cases ht : tcheck_F t = 0
    · by_cases he : t.d = s.f
      · have os := (may_iff s).1 hs
        have ot := (tcheck_iff t).1 ht
        obtain ⟨ks, ns, h4⟩ := sizes os
        refine ⟨[encK s s.k.toNat s.n.toNat, dT.enc t], fun _ _ _ h => encKT_fit ks ns h, ?_⟩
        rw [rapply_tree s t _ _ h4, applyF_core hs ht he]
        unfold rapplyTr
        rw [litS_eq ks ns, rc_ne, hs, rt_ne, ht, he]
        refine ⟨fun hc => (by cases hc), fun _ => ⟨fun hc => (by cases hc), fun _ => ⟨fun hc => (by simp at hc), fun _ => ?_⟩⟩⟩
        have ga := os.2.1
        have pm := p_mem os
        have lm := l_mem ot
        have te := ot.1
        generalize s.k.toNat = k at h4 ⊢
        rw [rt_ne, tc_ne]
        cases k with
        | zero =>
          rw [Nat.zero_add]
          have hok := okmt (e := t.e) (d := s.n.toNat) (l := applyL 0 s.n.toNat s t) (by simp only [applyL, List.length_take, len_p]; omega) (by omega) (by omega)
          rw [(tcheck_iff _).2 (hok.2 fun x hx => pm x (List.mem_of_mem_take hx))]
          exact ⟨fun h => (by simp at h), fun _ => rfl⟩
        | succ j =>
          have hl := l_get ot j
          have hw : w64 (t.l.getD j 0 + s.a) = t.l.getD j 0 + s.a := wr (by omega)
          have hok := okmt (e := t.e) (d := j + 1 + s.n.toNat) (l := applyL (j + 1) s.n.toNat s t) (by simp only [applyL, List.length_append, List.length_take, len_p, len_l, List.length_cons, List.length_nil]; omega) (by omega) (by omega)
          simp only [applyL, hw] at hok ⊢
          simp only [applyC]
          by_cases hx : t.l.getD j 0 + s.a > 1048576
          · have hno : ¬ tcheck_F (mkT t.e ((j + 1 + s.n.toNat : Nat) : Int) ((t.l.take j ++ [t.l.getD j 0 + s.a]) ++ s.p.take s.n.toNat)) = 0 := fun h => by
              have := hok.1 ((tcheck_iff _).1 h) _ (List.mem_append_left _ (List.mem_append_right _ (List.mem_singleton.2 rfl)))
              omega
            rw [decide_eq_false hno, decide_eq_true hx]
            exact ⟨fun _ => rfl, fun h => (by cases h)⟩
          · rw [(tcheck_iff _).2 (hok.2 fun x hx' => by
              rcases List.mem_append.1 hx' with h | h
              · rcases List.mem_append.1 h with h | h
                · exact lm x (List.mem_of_mem_take h)
                · rw [List.mem_singleton.1 h]; omega
              · exact pm x (List.mem_of_mem_take h)), decide_eq_false hx]
            exact ⟨fun h => (by simp at h), fun _ => rfl⟩
      · refine ⟨_, fun _ _ _ h => h, ?_⟩
        rw [rapply_no, rc_ne, hs]
        refine ⟨fun hc => (by cases hc), fun _ => ?_⟩
        rw [rapply_no2, rt_ne, ht]
        refine ⟨fun hc => (by cases hc), fun _ => ?_⟩
        rw [rapply_no3]
        generalize els (els (els (dTree Try.prog g3 noΛ 100 94 (aST.enc (s, t)) dTE))) = r
        refine ⟨fun _ => ?_, fun hc => absurd (bne_eq_false_iff_eq.1 hc) he⟩
        show (zT, (11 : Int)) = applyF s t
        unfold applyF; rw [hs, ht, show (t.d != s.f) = true by simpa using he]; rfl
    · refine ⟨_, fun _ _ _ h => h, ?_⟩
      rw [rapply_no, rc_ne, hs]
      refine ⟨fun hc => (by cases hc), fun _ => ?_⟩
      rw [rapply_no2, rt_ne]
      generalize els (els (dTree Try.prog g3 noΛ 100 94 (aST.enc (s, t)) dTE)) = r
      refine ⟨fun hc => ?_, fun hc => absurd (bne_eq_false_iff_eq.1 hc) ht⟩
      show (zT, rtcheck_F t) = applyF s t
      rw [rtcheck_eq]
      unfold applyF; rw [hs, hc]; rfl
/-- The contracts so far. -/
noncomputable def tab4 : PTab Try.prog := (tab3.cons 93 (pconP aST dTE (fun g => applyF g.1 g.2) (fun _ => [])) (conP_ok apply_ok puTE)).cons 94 (pconP aST dTE (fun g => applyF g.1 g.2) (fun _ => [])) (conP_ok rapply_ok puTE)
end
end Go.Proofs.Ytiipneclghnfhaa

/- Chapter 3: comparing numbers. Printed by treegen.py. -/
namespace Go.Proofs.Ytiipneclghnfhaa
open Go.RowKit Go.Sx
set_option maxRecDepth 100000
set_option linter.unusedVariables false
noncomputable def cmp64_F (a : Int) (b : Int) : Dv.T dI :=
  bif a != a then bif b != b then (0 : Int) else (-1 : Int)
  else bif b != b then (1 : Int) else bif decide (a < b) then (-1 : Int) else bif decide (a > b) then (1 : Int) else (0 : Int)
theorem cmp64_ok : FnPure Try.prog 117 aII dI (fun g => cmp64_F g.1 g.2) (fun _ => []) := pure_of_safe (Γ := (PTab.gamz tab4 [] [])) (Λ := noΛ) (PTab.okz tab4 [] []) noΛ_ok 100 default (fun g => by kernel_rfl) (fun g => by kernel_rfl)
noncomputable def cmpi_F (a : Int) (b : Int) : Dv.T dI :=
  bif a != a then bif b != b then (0 : Int) else (-1 : Int)
  else bif b != b then (1 : Int) else bif decide (a < b) then (-1 : Int) else bif decide (a > b) then (1 : Int) else (0 : Int)
theorem cmpi_ok : FnPure Try.prog 118 aII dI (fun g => cmpi_F g.1 g.2) (fun _ => []) := pure_of_safe (Γ := (PTab.gamz tab4 [] [])) (Λ := noΛ) (PTab.okz tab4 [] []) noΛ_ok 100 default (fun g => by kernel_rfl) (fun g => by kernel_rfl)
noncomputable def jmax_F (a : Int) (b : Int) : Dv.T dI :=
  List.foldl (fun a x => bif true then if x.snd.snd > a then x.snd.snd else a else if x.snd.snd < a then x.snd.snd else a) a [(false, IntKind.i64, b)]
theorem jmax_ok : FnPure Try.prog 128 aII dI (fun g => jmax_F g.1 g.2) (fun _ => []) := pure_of_safe (Γ := (PTab.gamz tab4 [] [])) (Λ := noΛ) (PTab.okz tab4 [] []) noΛ_ok 100 default (fun g => by kernel_rfl) (fun g => by kernel_rfl)
noncomputable def tabK : PTab Try.prog := (((tab4).cons 117 (pconP aII dI (fun g => cmp64_F g.1 g.2) (fun _ => [])) (conP_ok cmp64_ok puI)).cons 118 (pconP aII dI (fun g => cmpi_F g.1 g.2) (fun _ => [])) (conP_ok cmpi_ok puI)).cons 128 (pconP aII dI (fun g => jmax_F g.1 g.2) (fun _ => [])) (conP_ok jmax_ok puI)
end Go.Proofs.Ytiipneclghnfhaa

/- Chapter 3: the leaves of times. Printed by treegen.py. -/
namespace Go.Proofs.Ytiipneclghnfhaa
open Go.RowKit Go.Sx
set_option maxRecDepth 100000
set_option linter.unusedVariables false
noncomputable def tleq_F (a : T) (b : T) : Dv.T dBool :=
  bif tcheck_F a != (0 : Int) || (tcheck_F b != (0 : Int) || (a.d != b.d || decide (a.e > b.e))) then false
  else bif decide (a.l0 > b.l0) then false else bif decide (a.l1 > b.l1) then false else bif decide (a.l2 > b.l2) then false else bif decide (a.l3 > b.l3) then false else true
theorem tleq_ok : FnPure Try.prog 74 aTT dBool (fun g => tleq_F g.1 g.2) (fun _ => []) := pure_of_safe (Γ := (PTab.gamz tabK [] [(80, 4, 5), (129, 9, 5)])) (Λ := noΛ) (PTab.okz tabK [] [(80, 4, 5), (129, 9, 5)]) noΛ_ok 100 default (fun g => by kernel_rfl) (fun g => by kernel_rfl)
noncomputable def rtleq_F (a : T) (b : T) : Dv.T dBool :=
  bif rtcheck_F a != (0 : Int) || (rtcheck_F b != (0 : Int) || (a.d != b.d || decide (a.e > b.e))) then false
  else bif decide (a.l0 > b.l0) then false else bif decide (a.l1 > b.l1) then false else bif decide (a.l2 > b.l2) then false else bif decide (a.l3 > b.l3) then false else true
theorem rtleq_ok : FnPure Try.prog 80 aTT dBool (fun g => rtleq_F g.1 g.2) (fun _ => []) := pure_of_safe (Γ := (PTab.gamz tabK [] [(80, 4, 5), (129, 9, 5)])) (Λ := noΛ) (PTab.okz tabK [] [(80, 4, 5), (129, 9, 5)]) noΛ_ok 100 default (fun g => by kernel_rfl) (fun g => by kernel_rfl)
noncomputable def tcmp_F (a : T) (b : T) : Dv.T dI :=
  bif conj ([a.l0 == b.l0] ++ ([a.l1 == b.l1] ++ ([a.l2 == b.l2] ++ ([a.l3 == b.l3] ++ [])))) then bif cmp64_F a.e b.e != (0 : Int) then cmp64_F a.e b.e else bif cmpi_F a.d b.d != (0 : Int) then cmpi_F a.d b.d else (0 : Int)
  else bif (bif (bif (bif (bif cmp64_F a.e b.e != (0 : Int) then cmp64_F a.e b.e else bif cmpi_F a.d b.d != (0 : Int) then cmpi_F a.d b.d else (0 : Int)) != (0 : Int) then bif cmp64_F a.e b.e != (0 : Int) then cmp64_F a.e b.e else bif cmpi_F a.d b.d != (0 : Int) then cmpi_F a.d b.d else (0 : Int) else bif cmp64_F a.l0 b.l0 != (0 : Int) then cmp64_F a.l0 b.l0 else (0 : Int)) != (0 : Int) then bif (bif cmp64_F a.e b.e != (0 : Int) then cmp64_F a.e b.e else bif cmpi_F a.d b.d != (0 : Int) then cmpi_F a.d b.d else (0 : Int)) != (0 : Int) then bif cmp64_F a.e b.e != (0 : Int) then cmp64_F a.e b.e else bif cmpi_F a.d b.d != (0 : Int) then cmpi_F a.d b.d else (0 : Int) else bif cmp64_F a.l0 b.l0 != (0 : Int) then cmp64_F a.l0 b.l0 else (0 : Int) else bif cmp64_F a.l1 b.l1 != (0 : Int) then cmp64_F a.l1 b.l1 else (0 : Int)) != (0 : Int) then bif (bif (bif cmp64_F a.e b.e != (0 : Int) then cmp64_F a.e b.e else bif cmpi_F a.d b.d != (0 : Int) then cmpi_F a.d b.d else (0 : Int)) != (0 : Int) then bif cmp64_F a.e b.e != (0 : Int) then cmp64_F a.e b.e else bif cmpi_F a.d b.d != (0 : Int) then cmpi_F a.d b.d else (0 : Int) else bif cmp64_F a.l0 b.l0 != (0 : Int) then cmp64_F a.l0 b.l0 else (0 : Int)) != (0 : Int) then bif (bif cmp64_F a.e b.e != (0 : Int) then cmp64_F a.e b.e else bif cmpi_F a.d b.d != (0 : Int) then cmpi_F a.d b.d else (0 : Int)) != (0 : Int) then bif cmp64_F a.e b.e != (0 : Int) then cmp64_F a.e b.e else bif cmpi_F a.d b.d != (0 : Int) then cmpi_F a.d b.d else (0 : Int) else bif cmp64_F a.l0 b.l0 != (0 : Int) then cmp64_F a.l0 b.l0 else (0 : Int) else bif cmp64_F a.l1 b.l1 != (0 : Int) then cmp64_F a.l1 b.l1 else (0 : Int) else bif cmp64_F a.l2 b.l2 != (0 : Int) then cmp64_F a.l2 b.l2 else (0 : Int)) != (0 : Int) then bif (bif (bif (bif cmp64_F a.e b.e != (0 : Int) then cmp64_F a.e b.e else bif cmpi_F a.d b.d != (0 : Int) then cmpi_F a.d b.d else (0 : Int)) != (0 : Int) then bif cmp64_F a.e b.e != (0 : Int) then cmp64_F a.e b.e else bif cmpi_F a.d b.d != (0 : Int) then cmpi_F a.d b.d else (0 : Int) else bif cmp64_F a.l0 b.l0 != (0 : Int) then cmp64_F a.l0 b.l0 else (0 : Int)) != (0 : Int) then bif (bif cmp64_F a.e b.e != (0 : Int) then cmp64_F a.e b.e else bif cmpi_F a.d b.d != (0 : Int) then cmpi_F a.d b.d else (0 : Int)) != (0 : Int) then bif cmp64_F a.e b.e != (0 : Int) then cmp64_F a.e b.e else bif cmpi_F a.d b.d != (0 : Int) then cmpi_F a.d b.d else (0 : Int) else bif cmp64_F a.l0 b.l0 != (0 : Int) then cmp64_F a.l0 b.l0 else (0 : Int) else bif cmp64_F a.l1 b.l1 != (0 : Int) then cmp64_F a.l1 b.l1 else (0 : Int)) != (0 : Int) then bif (bif (bif cmp64_F a.e b.e != (0 : Int) then cmp64_F a.e b.e else bif cmpi_F a.d b.d != (0 : Int) then cmpi_F a.d b.d else (0 : Int)) != (0 : Int) then bif cmp64_F a.e b.e != (0 : Int) then cmp64_F a.e b.e else bif cmpi_F a.d b.d != (0 : Int) then cmpi_F a.d b.d else (0 : Int) else bif cmp64_F a.l0 b.l0 != (0 : Int) then cmp64_F a.l0 b.l0 else (0 : Int)) != (0 : Int) then bif (bif cmp64_F a.e b.e != (0 : Int) then cmp64_F a.e b.e else bif cmpi_F a.d b.d != (0 : Int) then cmpi_F a.d b.d else (0 : Int)) != (0 : Int) then bif cmp64_F a.e b.e != (0 : Int) then cmp64_F a.e b.e else bif cmpi_F a.d b.d != (0 : Int) then cmpi_F a.d b.d else (0 : Int) else bif cmp64_F a.l0 b.l0 != (0 : Int) then cmp64_F a.l0 b.l0 else (0 : Int) else bif cmp64_F a.l1 b.l1 != (0 : Int) then cmp64_F a.l1 b.l1 else (0 : Int) else bif cmp64_F a.l2 b.l2 != (0 : Int) then cmp64_F a.l2 b.l2 else (0 : Int) else bif cmp64_F a.l3 b.l3 != (0 : Int) then cmp64_F a.l3 b.l3 else (0 : Int)
theorem tcmp_ok : FnPure Try.prog 71 aTT dI (fun g => tcmp_F g.1 g.2) (fun _ => []) := pure_of_safe (Γ := (PTab.gamz tabK [] [(80, 4, 5), (129, 9, 5)])) (Λ := noΛ) (PTab.okz tabK [] [(80, 4, 5), (129, 9, 5)]) noΛ_ok 100 default (fun g => by kernel_rfl) (fun g => by kernel_rfl)
noncomputable def rtcmp_F (a : T) (b : T) : Dv.T dI :=
  bif decide (a.e < b.e) then (-1 : Int)
  else bif decide (a.e > b.e) then (1 : Int) else bif decide (a.d < b.d) then (-1 : Int) else bif decide (a.d > b.d) then (1 : Int) else bif (bif decide (a.l0 < b.l0) then (-1 : Int) else bif decide (a.l0 > b.l0) then (1 : Int) else (0 : Int)) != (0 : Int) then bif decide (a.l0 < b.l0) then (-1 : Int) else bif decide (a.l0 > b.l0) then (1 : Int) else (0 : Int) else bif (bif decide (a.l1 < b.l1) then (-1 : Int) else bif decide (a.l1 > b.l1) then (1 : Int) else (0 : Int)) != (0 : Int) then bif decide (a.l1 < b.l1) then (-1 : Int) else bif decide (a.l1 > b.l1) then (1 : Int) else (0 : Int) else bif (bif decide (a.l2 < b.l2) then (-1 : Int) else bif decide (a.l2 > b.l2) then (1 : Int) else (0 : Int)) != (0 : Int) then bif decide (a.l2 < b.l2) then (-1 : Int) else bif decide (a.l2 > b.l2) then (1 : Int) else (0 : Int) else bif (bif decide (a.l3 < b.l3) then (-1 : Int) else bif decide (a.l3 > b.l3) then (1 : Int) else (0 : Int)) != (0 : Int) then bif decide (a.l3 < b.l3) then (-1 : Int) else bif decide (a.l3 > b.l3) then (1 : Int) else (0 : Int) else (0 : Int)
theorem rtcmp_ok : FnPure Try.prog 79 aTT dI (fun g => rtcmp_F g.1 g.2) (fun _ => []) := pure_of_safe (Γ := (PTab.gamz tabK [] [(80, 4, 5), (129, 9, 5)])) (Λ := noΛ) (PTab.okz tabK [] [(80, 4, 5), (129, 9, 5)]) noΛ_ok 100 default (fun g => by kernel_rfl) (fun g => by kernel_rfl)
noncomputable def tjoin_F (a : T) (b : T) : Dv.T dTE :=
  bif tcheck_F a != (0 : Int) || tcheck_F b != (0 : Int) then (T.mk (0 : Int) (0 : Int) (0 : Int) (0 : Int) (0 : Int) (0 : Int), (10 : Int))
  else bif a.d != b.d then (T.mk (0 : Int) (0 : Int) (0 : Int) (0 : Int) (0 : Int) (0 : Int), (11 : Int)) else (T.mk (jmax_F a.e b.e) a.d (jmax_F a.l0 b.l0) (jmax_F a.l1 b.l1) (jmax_F a.l2 b.l2) (jmax_F a.l3 b.l3), (0 : Int))
theorem tjoin_ok : FnPure Try.prog 101 aTT dTE (fun g => tjoin_F g.1 g.2) (fun _ => []) := pure_of_safe (Γ := (PTab.gamz tabK [] [(80, 4, 5), (129, 9, 5)])) (Λ := noΛ) (PTab.okz tabK [] [(80, 4, 5), (129, 9, 5)]) noΛ_ok 100 default (fun g => by kernel_rfl) (fun g => by kernel_rfl)
noncomputable def rtjoin_F (a : T) (b : T) : Dv.T dTE :=
  bif rtcheck_F a != (0 : Int) || rtcheck_F b != (0 : Int) then (T.mk (0 : Int) (0 : Int) (0 : Int) (0 : Int) (0 : Int) (0 : Int), (10 : Int))
  else bif a.d != b.d then (T.mk (0 : Int) (0 : Int) (0 : Int) (0 : Int) (0 : Int) (0 : Int), (11 : Int)) else bif decide ((0 : Int) < a.d) && (decide ((1 : Int) < a.d) && (decide ((2 : Int) < a.d) && (decide ((3 : Int) < a.d) && decide ((4 : Int) < a.d)))) then default else (T.mk (bif decide (b.e > a.e) == true then b.e else a.e) a.d (bif decide ((0 : Int) < a.d) then bif decide ((1 : Int) < a.d) then bif decide ((2 : Int) < a.d) then bif decide ((3 : Int) < a.d) then bif decide (b.l0 > a.l0) == true then b.l0 else a.l0 else bif decide (b.l0 > a.l0) == true then b.l0 else a.l0 else bif decide (b.l0 > a.l0) == true then b.l0 else a.l0 else bif decide (b.l0 > a.l0) == true then b.l0 else a.l0 else a.l0) (bif decide ((0 : Int) < a.d) then bif decide ((1 : Int) < a.d) then bif decide ((2 : Int) < a.d) then bif decide ((3 : Int) < a.d) then bif decide (b.l1 > a.l1) == true then b.l1 else a.l1 else bif decide (b.l1 > a.l1) == true then b.l1 else a.l1 else bif decide (b.l1 > a.l1) == true then b.l1 else a.l1 else a.l1 else a.l1) (bif decide ((0 : Int) < a.d) then bif decide ((1 : Int) < a.d) then bif decide ((2 : Int) < a.d) then bif decide ((3 : Int) < a.d) then bif decide (b.l2 > a.l2) == true then b.l2 else a.l2 else bif decide (b.l2 > a.l2) == true then b.l2 else a.l2 else a.l2 else a.l2 else a.l2) (bif decide ((0 : Int) < a.d) then bif decide ((1 : Int) < a.d) then bif decide ((2 : Int) < a.d) then bif decide ((3 : Int) < a.d) then bif decide (b.l3 > a.l3) == true then b.l3 else a.l3 else a.l3 else a.l3 else a.l3 else a.l3), (0 : Int))
def rtjoin_side (a : T) (b : T) : Prop :=
  (rtcheck_F a != (0 : Int) || rtcheck_F b != (0 : Int)) = false → (a.d != b.d) = false → (decide ((0 : Int) < a.d) && (decide ((1 : Int) < a.d) && (decide ((2 : Int) < a.d) && (decide ((3 : Int) < a.d) && decide ((4 : Int) < a.d))))) = true → False
theorem rtjoin_okS (pre : DA.T aTT → List Prop) (h : ∀ g, DA.bd aTT g → (∀ p ∈ pre g, p) → rtjoin_side g.1 g.2) : FnPure Try.prog 103 aTT dTE (fun g => rtjoin_F g.1 g.2) pre := pure_of_sideS (Γ := (PTab.gamz tabK [] [(80, 4, 5), (129, 9, 5)])) (Λ := noΛ) (PTab.okz tabK [] [(80, 4, 5), (129, 9, 5)]) noΛ_ok 100 default (fun g => rtjoin_side g.1 g.2) (fun g => by kernel_rfl) (fun g => by kernel_rfl) h
noncomputable def tabL : PTab Try.prog := (((((tabK).cons 74 (pconP aTT dBool (fun g => tleq_F g.1 g.2) (fun _ => [])) (conP_ok tleq_ok puB)).cons 80 (pconP aTT dBool (fun g => rtleq_F g.1 g.2) (fun _ => [])) (conP_ok rtleq_ok puB)).cons 71 (pconP aTT dI (fun g => tcmp_F g.1 g.2) (fun _ => [])) (conP_ok tcmp_ok puI)).cons 79 (pconP aTT dI (fun g => rtcmp_F g.1 g.2) (fun _ => [])) (conP_ok rtcmp_ok puI)).cons 101 (pconP aTT dTE (fun g => tjoin_F g.1 g.2) (fun _ => [])) (conP_ok tjoin_ok puTE)
end Go.Proofs.Ytiipneclghnfhaa
