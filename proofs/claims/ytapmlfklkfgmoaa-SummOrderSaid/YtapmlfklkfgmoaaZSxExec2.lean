/- The symbolic executor, its operations are sound. -/
import Derived.Test.YtapmlfklkfgmoaaZSxExec
set_option linter.unusedVariables false
namespace Go.Sx
open Go.RowKit

section
variable {P : Program} {M : Nat → Prop} {w0 w : World} {ρ : Rh} {h : SH}

theorem bind_ret_holds {α β : Type} {K : β → Prop} {t : Tr α} {f : α → Tr β} (h : (t.bind f).Holds K) : t.Holds fun x => (f x).Holds K := Tr.holds_bind h

theorem map_fst {α : Type} (f : Operand → α) (l : List (Nat × Operand)) : (l.map fun x => (x.1, f x.2)).map (·.1) = l.map (·.1) := by
  induction l with
  | nil => rfl
  | cons x l ih => simp [ih]
theorem map_snd {α : Type} (f : Operand → α) (l : List (Nat × Operand)) : (l.map fun x => (x.1, f x.2)).map (·.2) = (l.map (·.2)).map f := by
  induction l with
  | nil => rfl
  | cons x l ih => simp [ih]

theorem builtin_ok {b : Builtin} {ts : List TypeId} {as : List SV} {vs : List Value} {ty : TypeId} (hm : HM M w0 ρ h w) (ha : SV.fits h.nx ρ as vs) {K : SV × SH → Prop} (hK : (builtinS P h b ts as).Holds K) :
    ∃ s : Sem Value, (∀ cs, builtin b ts.toArray ty cs vs.toArray = (do pure (.value (← s)))) ∧ GoodV P M w0 ρ h K s w := by
  unfold builtinS at hK
  split at hK
  · split at hK
    · obtain ⟨x, r, rfl, hx, hr⟩ := fits_cons ha
      have := fits_nil hr
      subst this
      exact ⟨_, fun _ => rfl, goodP_V hm hK fun K' h' => len_ok hx h'⟩
    · exact hK.elim
  · exact ⟨_, fun _ => rfl, goodP_V hm hK fun K' h' => by simpa using min_ok (mx := false) ha h' ts.toArray ty⟩
  · exact ⟨_, fun _ => rfl, goodP_V hm hK fun K' h' => by simpa using min_ok (mx := true) ha h' ts.toArray ty⟩
  · split at hK
    · obtain ⟨x, r, rfl, hx, hr⟩ := fits_cons ha
      obtain ⟨y, r', rfl, hy, hr'⟩ := fits_cons hr
      have := fits_nil hr'
      subst this
      exact ⟨_, fun _ => rfl, copy_ok hm hx hy hK⟩
    · exact hK.elim
  · split at hK
    · obtain ⟨x, r, rfl, hx, hr⟩ := fits_cons ha
      obtain ⟨y, r', rfl, hy, hr'⟩ := fits_cons hr
      have := fits_nil hr'
      subst this
      exact ⟨_, fun _ => rfl, append_ok hm hx hy hK⟩
    · exact hK.elim
  · exact hK.elim

theorem nil_good {t : TypeId} {x y : Operand} {ρe : Operand → Value} {b : Bool} {op : BinOp} {r : Bool} {K : SV × SH → Prop} (hm : HM M w0 ρ h w) (hK : K (.k (.bool r), h)) (n1 : (eqGuard op t x y (ρe x) (ρe y)).run P w = .ok () w)
    (n2 : (Op.equalIn (9999 + 1) t (ρe x) (ρe y)).run P w = .ok b w) (n3 : (op = .eql ∧ r = b ∧ binOp .eql t (ρe x) (ρe y) = (do pure (.bool (← Op.equal t (ρe x) (ρe y))))) ∨ (op = .neq ∧ r = (!b) ∧ binOp .neq t (ρe x) (ρe y) = (do pure (.bool (!(← Op.equal t (ρe x) (ρe y))))))) :
    GoodV P M w0 ρ h K (do eqGuard op t x y (ρe x) (ρe y); binOp op t (ρe x) (ρe y)) w := by
  have h2 : (Op.equal t (ρe x) (ρe y)).run P w = .ok b w := by rw [Op.equal, Op.maxDepth]; exact n2
  generalize ρe x = vx at *
  generalize ρe y = vy at *
  generalize Op.equal t vx vy = q at *
  rcases n3 with ⟨rfl, rfl, n3⟩ | ⟨rfl, rfl, n3⟩
  · refine GoodV.same hm hK (x := .bool r) (by simp [SV.fit]) ?_
    rw [n3]
    simp [n1, h2]
  · refine GoodV.same hm hK (x := .bool (!b)) (by simp [SV.fit]) ?_
    rw [n3]
    simp [n1, h2]

set_option maxHeartbeats 1000000 in
theorem op_ok {run yld : Nat → Con} (hrun : ∀ f, FnOk P f (run f)) (hyld : YldOk P yld) {o : Oper} {a : Act} {ev : Operand → SV} (hm : HM M w0 ρ h w) (he : ∀ x, (ev x).fit h.nx ρ (a.eval x)) {K : SV × SH → Prop}
    (hK : (opS P run yld ev h o.op).Holds K) : OpGood P M w0 ρ h K o a w := by
  obtain ⟨dst, op, ty, pos, after, guard⟩ := o
  simp only at hK
  unfold opS at hK
  split at hK
  · rename_i x
    exact og_value (s := pure (a.eval x)) (by intro c; simp) (by intro w; simp [execOp]) (GoodV.same hm hK (he _) (by simp))
  · rename_i x
    exact og_value (s := pure (a.eval x)) (by intro c; simp) (by intro w; simp [execOp]) (GoodV.same hm hK (he _) (by simp))
  · rename_i c x y
    split at hK
    · rename_i z hz
      have hc := SV.bool_fit hz (he c)
      refine og_value (s := pure (bif z then a.eval x else a.eval y)) (by intro c; simp) (by intro w; cases z <;> simp [execOp, hc, asBool]) (GoodV.same hm hK ?_ (by simp; rfl))
      cases z
      · exact he y
      · exact he x
    · rename_i z hz
      have hc := SV.bool_fit hz (he c)
      split at hK
      · rename_i _ u1 _ u2 h1 h2
        have e1 := SV.bool_fit h1 (he x)
        have e2 := SV.bool_fit h2 (he y)
        exact og_value (s := pure (.bool (bif z then u1 else u2))) (by intro c; simp) (by intro w; cases z <;> simp [execOp, hc, asBool, e1, e2]) (GoodV.same hm hK (by simp [SV.fit]; rfl) (by simp))
      · cases z with
        | true => exact og_value (s := pure (a.eval x)) (by intro c; simp) (by intro w; simp [execOp, hc, asBool]) (GoodV.same hm (hK.1 rfl) (he x) (by simp))
        | false => exact og_value (s := pure (a.eval y)) (by intro c; simp) (by intro w; simp [execOp, hc, asBool]) (GoodV.same hm (hK.2 rfl) (he y) (by simp))
    · exact hK.elim
  · exact og_value (by intro c; simp) (fun w => run_v _ w) (alloc_ok hm hK)
  · exact og_value (by intro c; simp) (fun w => run_v _ w) (box_ok hm (he _) hK)
  · rename_i t ps
    have hb := build_ok (P := P) (vparts := ps.toList.map fun x => (x.1, a.eval x.2)) hm (by rw [map_fst, map_fst]) (by rw [map_snd, map_snd]; exact fits_map he _) hK
    refine og_value (s := Instr.build t (ps.toList.map fun x => (x.1, a.eval x.2)).toArray) (by intro c; simp) (by intro w; simp only [execOp]; rw [run_v]; congr 2; apply congrArg; apply Array.ext'; simp) hb
  · rename_i t len ps
    have hb := buildSlice_ok (P := P) (vparts := ps.toList.map fun x => (x.1, a.eval x.2)) hm (by rw [map_fst, map_fst]) (by rw [map_snd, map_snd]; exact fits_map he _) hK
    refine og_value (s := Instr.buildSlice t len (ps.toList.map fun x => (x.1, a.eval x.2)).toArray) (by intro c; simp) (by intro w; simp only [execOp]; rw [run_v]; congr 2; apply congrArg; apply Array.ext'; simp) hb
  · exact og_value (by intro c; simp) (fun w => run_v _ w) (load_ok hm (he _) hK)
  · exact og_unit (by intro c; simp) (fun w => run_u _ w) (store_ok hm (he _) (he _) hK)
  · rename_i op t x y ty'
    split at hK
    · rename_i b hb
      obtain ⟨n1, n2, n3, _⟩ := nilCmp_ok (P := P) (he x) (he y) hb w .eql x y 9999
      exact og_value (s := do eqGuard .eql t x y (a.eval x) (a.eval y); binOp .eql t (a.eval x) (a.eval y)) (by intro c; simp) (fun w => by simp only [execOp]; rw [run_v]) (nil_good hm hK n1 n2 (.inl ⟨rfl, rfl, n3⟩))
    · rename_i b hb
      obtain ⟨n1, n2, _, n3⟩ := nilCmp_ok (P := P) (he x) (he y) hb w .neq x y 9999
      exact og_value (s := do eqGuard .neq t x y (a.eval x) (a.eval y); binOp .neq t (a.eval x) (a.eval y)) (by intro c; simp) (fun w => by simp only [execOp]; rw [run_v]) (nil_good hm hK n1 n2 (.inr ⟨rfl, rfl, n3⟩))
    · exact hK.elim
    · exact og_value (by intro c; simp) (fun w => by simp only [execOp]; rw [run_v]) (goodP_V hm hK fun K' h' => bin_ok (he x) (he y) h' x y)
  · exact og_value (by intro c; simp) (fun w => run_v _ w) (goodP_V hm hK fun K' h' => un_ok (he _) h')
  · exact og_value (by intro c; simp) (fun w => run_v _ w) (goodP_V hm hK fun K' h' => conv_ok (he _) h')
  · rename_i f first cap
    obtain ⟨hc, hK1⟩ := bif_holds hK
    have hf0 : first = #[] := by
      have := beq_of hc
      exact Array.eq_empty_of_size_eq_zero this
    subst hf0
    exact og_value (s := pure (.func (.func f) #[] (cap.map a.eval))) (by intro c; simp) (by intro w; simp [execOp, Instr.makeFunc]) (GoodV.same hm hK1 (x := .func (.func f) #[] (cap.map a.eval)) ⟨cap.toList.map a.eval, congrArg _ (by apply Array.ext'; simp), fits_map he _⟩ (by simp))
  · exact og_value (by intro c; simp) (fun w => run_v _ w) (slice_ok hm (he _) (optFit_map he _) (optFit_map he _) hK)
  · exact og_value (by intro c; simp) (fun w => run_v _ w) (fieldAddr_ok hm (he _) hK)
  · exact og_value (by intro c; simp) (fun w => run_v _ w) (field_ok hm (he _) hK)
  · exact og_value (by intro c; simp) (fun w => run_v _ w) (indexAddr_ok hm (he _) (he _) hK)
  · exact og_value (by intro c; simp) (fun w => run_v _ w) (index_ok hm (he _) (he _) hK)
  · exact og_value (by intro c; simp) (fun w => run_v _ w) (extract_ok hm (he _) hK)
  · rename_i c
    obtain ⟨callee, args, ats⟩ := c
    simp only at hK
    split at hK
    · rename_i b
      obtain ⟨s, hs, hg⟩ := builtin_ok (P := P) (ty := ty) hm (fits_map he args.toList) hK
      refine og_value (s := s) (by intro c; simp) (fun w => ?_) hg
      have e1 : (ats.toList).toArray = ats := by simp
      have e2 : (args.toList.map a.eval).toArray = args.map a.eval := by apply Array.ext'; simp
      rw [e1, e2] at hs
      simp only [execOp, resolve, pure_bind, invoke]
      rw [hs]
      simp
    · rename_i f
      split at hK
      · rename_i g cs hev
        obtain ⟨hc, hK1⟩ := bif_holds hK
        have hf := he f
        rw [hev] at hf
        obtain ⟨l, hfe, hl⟩ := hf
        have hcall := hrun g M w0 w ρ h _ (args.toList.map a.eval ++ l) K hK1 hm (fits_append (fits_map he args.toList) hl)
        intro r next Q hn
        refine ⟨fun _ _ => trivial, ?_⟩
        rw [Oper.semAt_eq _ _ _ (by intro c; simp)]
        have hx : (execOp a.eval ⟨dst, .call ⟨.value f, args, ats⟩, ty, pos, after, guard⟩).run P w = .ok (.enter g (args.toList.map a.eval ++ l).toArray) w := by
          simp only [execOp, resolve, hfe, Deferred.ofValue, pure_bind, invoke]
          rw [callFunc_ok hc]
          simp
        rw [hx, Oper.uponIn_enter]
        refine ⟨fun h => (by cases h), callsIn_fw (hcall.mono ?_)⟩
        rintro e w' ⟨s, h', ρ', x, h1, h2, h3, h4, h5, rfl⟩
        exact hn _ _ _ _ _ h1 h2 h3 h4 h5
      · rename_i l hev
        have hf := he f
        rw [hev] at hf
        obtain ⟨hlt, hfe⟩ := hf
        intro r next Q hn
        obtain ⟨f', tmps, assign, body, hy, hround⟩ := hyld M w0 w ρ h l _ (args.toList.map a.eval) K r hK hm (fits_map he args.toList) hlt
        refine ⟨fun _ _ => trivial, ?_⟩
        rw [Oper.semAt_eq _ _ _ (by intro c; simp)]
        have hx : (execOp a.eval ⟨dst, .call ⟨.value f, args, ats⟩, ty, pos, after, guard⟩).run P w = .ok (.round (ρ l).blk f' tmps assign body) w := by
          simp only [execOp, resolve, hfe, Deferred.ofValue, pure_bind, invoke]
          rw [← hy, show (args.toList.map a.eval).toArray = args.map a.eval by apply Array.ext'; simp]
          simp
        rw [hx, Oper.uponIn_round]
        refine ⟨fun h => (by cases h), hround.mono ?_⟩
        rintro e w' ⟨s, h', ρ', x, h1, h2, h3, h4, h5, rfl⟩
        exact hn _ _ _ _ _ h1 h2 h3 h4 h5
      · exact hK.elim
    · exact hK.elim
  · exact hK.elim
end
end Go.Sx
