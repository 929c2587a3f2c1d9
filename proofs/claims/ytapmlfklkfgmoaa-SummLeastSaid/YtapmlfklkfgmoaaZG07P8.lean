/- The library's SortFunc at structs, as a function that writes a row of one's own: the shelf's contract, led over to plain lists. -/
import Derived.Test.YtapmlfklkfgmoaaZG06P8
import Derived.Shelf.SlSortCmp.WholeK
import Derived.Shelf.SlSortCmp.NoneTotal
set_option linter.unusedVariables false
set_option linter.unusedSimpArgs false
set_option linter.constructorNameAsVariable false

namespace Go.Sx
open Go.RowKit Go.Proofs Go.Sort

theorem grow_of_below {w w' : World} (h : Go.RowKit.Below w.heap.size w w') (hd : w.drawn ≤ w'.drawn) : ∃ q os, w' = grow (w.drewN q) os := by
  refine ⟨w'.drawn - w.drawn, w'.heap.extract w.heap.size w'.heap.size, ?_⟩
  have h1 : w'.heap = w.heap ++ w'.heap.extract w.heap.size w'.heap.size := by
    have hs := h.size
    apply Array.ext_getElem?
    intro i
    by_cases hi : i < w.heap.size
    · rw [h.block i hi, Array.getElem?_append_left hi]
    · rw [Array.getElem?_append_right (by omega), Array.getElem?_extract]
      simp only [Nat.min_self]
      by_cases h2 : i < w'.heap.size
      · rw [if_pos (by omega)]; congr 1; omega
      · rw [if_neg (by omega)]; exact Array.getElem?_eq_none (by omega)
  cases w'
  cases w
  simp only [grow, World.drewN] at *
  have e1 := h.os; have e2 := h.tape; have e3 := h.output
  simp only at e1 e2 e3
  subst e1; subst e2; subst e3
  rw [← h1]
  simp only [World.mk.injEq, true_and, and_true]
  omega

/-- No two of a list that are not one come out alike. -/
def Anti {α : Type} (cf : α → α → Int) (xs : List α) : Prop := ∀ x ∈ xs, ∀ y ∈ xs, ¬ cf x y < 0 → ¬ cf y x < 0 → x = y
/-- A list, sorted. -/
def srtBy {α : Type} (cf : α → α → Int) (xs : List α) : List α := xs.mergeSort fun x y => !decide (cf y x < 0)
theorem pair_unique {α : Type} {le : α → α → Prop} : ∀ {xs ys : List α}, (∀ x ∈ xs, ∀ y ∈ xs, le x y → le y x → x = y) → xs.Perm ys → xs.Pairwise le → ys.Pairwise le → xs = ys
  | [], ys, _, h, _, _ => by simpa using h
  | x :: xs, [], _, h, _, _ => by simp at h
  | x :: xs, y :: ys, ha, h, h1, h2 => by
    have hxy : x = y := by
      have m1 : x ∈ y :: ys := h.subset (List.mem_cons_self ..)
      have m2 : y ∈ x :: xs := h.symm.subset (List.mem_cons_self ..)
      rcases List.mem_cons.1 m1 with rfl | m1
      · rfl
      · rcases List.mem_cons.1 m2 with rfl | m2
        · rfl
        · exact ha x (List.mem_cons_self ..) y (List.mem_cons_of_mem _ m2) ((List.pairwise_cons.1 h1).1 _ m2) ((List.pairwise_cons.1 h2).1 _ m1)
    subst hxy
    rw [pair_unique (fun a h3 b h4 => ha a (List.mem_cons_of_mem _ h3) b (List.mem_cons_of_mem _ h4)) (List.Perm.cons_inv h) (List.pairwise_cons.1 h1).2 (List.pairwise_cons.1 h2).2]
theorem srtBy_perm {α : Type} (cf : α → α → Int) (xs : List α) : (srtBy cf xs).Perm xs := List.mergeSort_perm _ _
theorem srtBy_sorted {α : Type} (cf : α → α → Int) (hO : SWO fun x y => decide (cf x y < 0)) (xs : List α) : (srtBy cf xs).Pairwise fun x y => ¬ cf y x < 0 := by
  have := List.pairwise_mergeSort (le := fun x y : α => !decide (cf y x < 0)) (fun a b c h1 h2 => by
    have := hO.ntrans c b a
    simp_all) (fun a b => by
    cases h : decide (cf b a < 0) with
    | false => simp
    | true =>
      cases h' : decide (cf a b < 0) with
      | false => simp
      | true =>
        have := hO.trans _ _ _ h h'
        rw [hO.irrefl] at this
        cases this) xs
  exact this.imp fun h => by simpa using h
theorem srtBy_unique {α : Type} {cf : α → α → Int} (hO : SWO fun x y => decide (cf x y < 0)) {xs ys : List α} (ha : Anti cf xs) (hp : ys.Perm xs) (hs : ys.Pairwise fun x y => ¬ cf y x < 0) : ys = srtBy cf xs := by
  refine pair_unique (le := fun x y => ¬ cf y x < 0) (fun x hx y hy h1 h2 => ?_) (hp.trans (srtBy_perm cf xs).symm) hs (srtBy_sorted cf hO xs)
  exact ha x (hp.subset hx) y (hp.subset hy) h2 h1

theorem fits_map1 {n : Nat} {ρ : Rh} {l : List SV} {v : List Value} (h : l.all SV.one = true) (hf : SV.fits n ρ l v) : ∀ x ∈ v, x.oneCell' = true := by
  induction l generalizing v with
  | nil => have := fits_nil hf; subst this; simp
  | cons s l ih =>
    obtain ⟨x, r, rfl, h1, h2⟩ := fits_cons hf
    simp only [List.all_cons, Bool.and_eq_true] at h
    intro y hy
    rcases List.mem_cons.1 hy with rfl | hy
    · exact SV.one_fit h.1 h1
    · exact ih h.2 h2 y hy

section
variable {P : Program} {ρ : Go.Shelf.Ren} {α : Type} {A : El α} {t g : Nat} {cf : α → α → Int} {pre : α × α → List Prop}
set_option maxHeartbeats 1000000 in
/-- SortFunc at structs. -/
theorem sort_mut (L : SlLaysF0.n6 P ρ) (aE : ∀ w, (isAgg (ρ.t 24)).run P w = .ok true w) (zE : ∀ w, (Go.sizeOf (ρ.t 24)).run P w = .ok A.sz w) (hz : 0 < A.sz) (eg : ∀ args w, (callFunc g args).run P w = .ok (.enter g args) w)
    (hO : SWO fun x y => decide (cf x y < 0)) (hcmp : FnPure P g (DA.cons (Dv.agg A) (DA.one (Dv.agg A))) (dInt .i64) (fun x => cf x.1 x.2) pre) :
    FnMut P (ρ.f 6) t A (DA.one (dFn g)) (RM.pure (Dv.tup DA.none)) (fun xs _ => (srtBy cf xs, ())) (fun xs _ => [xs.length < 4611686018427387904, Anti cf xs, ∀ x ∈ xs, ∀ y ∈ xs, ∀ p ∈ pre (x, y), p]) := by
  intro w F Lc0 xs _ v0 vs hF hFo hv0 hpre hrow hfit
  have hlen := hpre _ (List.mem_cons_self ..)
  have hanti := hpre _ (List.mem_cons_of_mem _ (List.mem_cons_self ..))
  have hpp := hpre _ (List.mem_cons_of_mem _ (List.mem_cons_of_mem _ (List.mem_cons_self ..)))
  obtain ⟨vf, r, rfl, hvf, hr⟩ := fits_cons hfit
  have := fits_nil hr
  subst this
  obtain ⟨lf, rfl, hlf⟩ := hvf
  have := fits_nil hlf
  subst this
  cases hxs : xs with
  | nil =>
    subst hxs
    have hv : ∃ p c, v0 = .slice p 0 c := by
      rcases hv0 with ⟨_, _, a, rfl⟩ | ⟨_, rfl⟩
      · exact ⟨_, _, rfl⟩
      · exact ⟨_, _, rfl⟩
    obtain ⟨p, c, rfl⟩ := hv
    refine (AnyF.slices_SortFunc_none L p c (.func (.func g) #[] #[]) w).mono ?_
    rintro e w' ⟨rfl, rfl⟩
    refine ⟨_, rfl, ⟨rfl, rfl, rfl, Nat.le_refl _, fun _ _ _ => rfl⟩, ?_, fun m i ρ' _ _ _ => ⟨[], rfl, trivial⟩⟩
    have : srtBy cf ([] : List α) = [] := by simp [srtBy]
    simp only [this]
    exact rowA_cl A (ρ := emp F) (fun b o h => by
      simp only [emp, memAt]
      have := (Array.getElem?_eq_some_iff.1 (hF b o h)).1
      rw [if_pos this]; exact h) hrow
  | cons x0 xs0 =>
    have hpos : 0 < xs.length := by rw [hxs]; simp
    rw [← hxs]
    rcases hv0 with ⟨_, h0, _⟩ | ⟨hnl, rfl⟩
    · omega
    rcases hrow.2 with ⟨h0, _⟩ | ⟨_, hoff, c, fz, hob, hfz, hcs, hmc, hcm, hall⟩
    · rw [hnl] at h0; cases h0
    have hblk : Lc0.blk < w.heap.size := (Array.getElem?_eq_some_iff.1 hob).1
    -- elements with their cells
    let β : Type := { p : α × List Value // p.1 ∈ xs ∧ p.2.length = A.sz ∧ SV.fits 0 (emp F) (A.cells p.1) p.2 }
    have hcell : ∀ i (hi : i < xs.length), ∃ l : List Value, l.length = A.sz ∧ SV.fits 0 (emp F) (A.cells xs[i]) l ∧ ∀ j x, l[j]? = some x → c[i * A.sz + j]? = some x := fun i hi => by
      obtain ⟨l, q1, q2, q3⟩ := hall i hi
      refine ⟨l, q1, ?_, fun j x h => by simpa using q3 j x h⟩
      have e0 : A.els xs i = A.cells xs[i] := by simp [El.els, List.getD_eq_getElem?_getD, hi]
      rw [← e0]
      exact q2
    let mk : Fin xs.length → β := fun i => ⟨(xs[i], Classical.choose (hcell i i.2)), List.getElem_mem _, (Classical.choose_spec (hcell i i.2)).1, (Classical.choose_spec (hcell i i.2)).2.1⟩
    letI : Inhabited β := ⟨mk ⟨0, hpos⟩⟩
    let d : Array β := Array.ofFn mk
    have hds : d.size = xs.length := by simp [d]
    have hdi : ∀ i (hi : i < xs.length), d[i]! = mk ⟨i, hi⟩ := fun i hi => by
      rw [getElem!_pos d i (by omega)]
      simp [d]
    let enc : β → List Value := fun x => x.1.2
    let cf' : β → β → Int := fun x y => cf x.1.1 y.1.1
    have hO' : SWO (ltOf cf') := { irrefl := fun x => hO.irrefl x.1.1, trans := fun x y z => hO.trans x.1.1 y.1.1 z.1.1, ntrans := fun x y z => hO.ntrans x.1.1 y.1.1 z.1.1 }
    have hkl : ∀ x, (enc x).length = A.sz := fun x => x.2.2.1
    have hflat : ∀ j, j < xs.length * A.sz → c[j]? = some (flatK enc A.sz d)[j]! := fun j hj => by
      rw [get_flatK _ _ _ _ (by rw [hds]; exact hj)]
      have hdv : j / A.sz < xs.length := Nat.div_lt_of_lt_mul (by rw [Nat.mul_comm]; exact hj)
      rw [hdi _ hdv]
      have hspec := (Classical.choose_spec (hcell (j / A.sz) hdv)).2.2 (j % A.sz)
      have hl : (Classical.choose (hcell (j / A.sz) hdv)).length = A.sz := (Classical.choose_spec (hcell (j / A.sz) hdv)).1
      have hm : j % A.sz < A.sz := Nat.mod_lt _ hz
      have := hspec (Classical.choose (hcell (j / A.sz) hdv))[j % A.sz] (by rw [List.getElem?_eq_getElem])
      rw [Nat.div_add_mod'] at this
      rw [this]
      show some _ = some ((enc (mk ⟨j / A.sz, hdv⟩))[j % A.sz]!)
      rw [getElem!_pos]
    have hsz : (flatK enc A.sz d).size = xs.length * A.sz := by rw [size_flatK, hds]
    have hcb : xs.length * A.sz ≤ c.size := by rw [hcs]; exact Nat.mul_le_mul_right _ hmc
    have hH : HoldsK enc A.sz w Lc0.blk 0 d := by
      intro j hj
      rw [hsz] at hj
      constructor
      · simp only [World.cell?, hob, Option.isSome_none, Bool.false_eq_true, if_false, id_eq, Nat.zero_add]
        exact hflat j hj
      · simp only [World.frozen?, hob, Nat.zero_add]
        have := hfz j (by omega)
        simp only [Bool.and_eq_false_iff, decide_eq_false_iff_not]
        exact Classical.not_and_iff_not_or_not.1 this
    have hmem : ∀ (m : Nat) (dk : Array β) (os : Array Obj) b o, F b = some o → (sortWorldK enc A.sz w Lc0.blk 0 m dk os).heap[b]? = some o := fun m dk os b o hb => by
      have hne : b ≠ Lc0.blk := by
        rintro rfl
        rw [hFo _ ⟨hnl, rfl⟩] at hb; cases hb
      have hlt := (Array.getElem?_eq_some_iff.1 (hF b o hb)).1
      simp only [sortWorldK, grow, putRowK, putRow, mapBlock]
      rw [Array.getElem?_append_left (by simpa using hlt), Array.getElem?_modify, if_neg (fun h => hne h.symm)]
      exact hF b o hb
    have hC : CmpLays P g #[] enc A.sz cf' Lc0.blk 0 d.size w := by
      intro m os dk _ x y
      have hfx : ∀ x : β, (SV.agg (A.cells x.1.1)).fit 0 (emp F) (.agg (enc x).toArray) := fun x => ⟨_, rfl, x.2.2.2⟩
      have := calls_drawn (hcmp (sortWorldK enc A.sz w Lc0.blk 0 m dk os) F (x.1.1, y.1.1) [.agg (enc x).toArray, .agg (enc y).toArray] (hmem m dk os) (hpp _ x.2.1 _ y.2.1) ⟨hfx x, hfx y, trivial⟩)
      refine this.mono ?_
      rintro e w' ⟨⟨x', rfl, hb, hx⟩, hd⟩
      exact ⟨by have hx : x' = _ := hx; rw [hx], grow_of_below hb (hd _ rfl)⟩
    have hmain := AnyQ.slices_SortFunc L A.sz aE zE enc hkl (fun x v hv => fits_map1 (A.one x.1.1) x.2.2.2 v hv) cf' hO' g #[] Lc0.blk 0 Lc0.cap d w eg hC hH hblk (by rw [hds]; exact hlen)
    rw [hds] at hmain
    refine hmain.mono ?_
    rintro e w' ⟨rfl, d', n, os, hp, hs, rfl⟩
    have hd's : d'.size = xs.length := hp.1.trans hds
    -- what the row holds as a list
    have hys : d'.toList.map (fun x => x.1.1) = srtBy cf xs := by
      apply srtBy_unique hO hanti
      · have h1 := hp.2.2
        have e1 : d'.extract 0 xs.length = d' := by rw [← hd's]; simp
        have e2 : d.extract 0 xs.length = d := by rw [← hds]; simp
        rw [e1, e2] at h1
        have h2 := h1.map (fun x : β => x.1.1)
        have e3 : d.toList.map (fun x : β => x.1.1) = xs := by
          apply List.ext_getElem
          · simp [hds]
          · intro i h1 h2
            simp [d, mk]
        rw [e3] at h2
        exact h2
      · rw [List.pairwise_map, List.pairwise_iff_getElem]
        intro i j hi hj hij
        have hi' : i < d'.size := by simpa using hi
        have hj' : j < d'.size := by simpa using hj
        have := hs i j (Nat.zero_le _) hij (by omega)
        rw [getElem!_pos d' i hi', getElem!_pos d' j hj'] at this
        simpa [ltOf, cf'] using this
    have hblock : ∀ k, k < w.heap.size → k ≠ Lc0.blk → (sortWorldK enc A.sz w Lc0.blk 0 n d' os).heap[k]? = w.heap[k]? := fun k hk hne => by
      simp only [sortWorldK, grow, putRowK, putRow, mapBlock]
      rw [Array.getElem?_append_left (by simpa using hk), Array.getElem?_modify, if_neg (fun h => hne h.symm)]
      rfl
    have hnew : (sortWorldK enc A.sz w Lc0.blk 0 n d' os).heap[Lc0.blk]? = some (.cells (putCells id 0 (flatK enc A.sz d') c) t fz) := by
      simp only [sortWorldK, grow, putRowK, putRow, mapBlock]
      rw [Array.getElem?_append_left (by simpa using hblk), Array.getElem?_modify, if_pos rfl]
      show (w.heap[Lc0.blk]?).map _ = _
      rw [hob]
      rfl
    have hle : w.heap.size ≤ (sortWorldK enc A.sz w Lc0.blk 0 n d' os).heap.size := size_sortWorldK_c enc A.sz w Lc0.blk 0 n d' os
    refine ⟨_, rfl, ⟨rfl, rfl, rfl, hle, fun k hk hB => hblock k hk fun h => hB ⟨hnl, h⟩⟩, ?_, fun m i ρ' _ _ _ => ⟨[], rfl, trivial⟩⟩
    have hylen : (srtBy cf xs).length = xs.length := (srtBy_perm cf xs).length_eq
    have hmF : ∀ b o, F b = some o → memAt F w (sortWorldK enc A.sz w Lc0.blk 0 n d' os) b = some o := fun b o h => by
      simp only [memAt]
      rw [if_pos (Array.getElem?_eq_some_iff.1 (hF b o h)).1]; exact h
    refine ⟨by rw [hylen]; exact hrow.1, .inr ⟨hnl, hoff, _, fz, hnew, by simpa [putCells] using hfz, by simpa [putCells] using hcs, by rw [hylen]; exact hmc, hcm, fun e he => ?_⟩⟩
    rw [hylen] at he
    have hed : e < d'.size := by omega
    refine ⟨enc d'[e], hkl _, ?_, fun j x hx => ?_⟩
    · have h1 : (srtBy cf xs).getD e A.dflt = d'[e].1.1 := by
        rw [← hys, List.getD_eq_getElem?_getD]
        simp [hed]
      show SV.fits 0 _ (A.cells ((srtBy cf xs).getD e A.dflt)) _
      rw [h1]
      exact A.cl _ _ _ (emp F) _ _ hmF d'[e].2.2.2
    · have hj : j < A.sz := by
        have := (List.getElem?_eq_some_iff.1 hx).1
        rw [hkl] at this; exact this
      have hlt : e * A.sz + j < xs.length * A.sz := by
        have := Nat.mul_le_mul_right A.sz (show e + 1 ≤ xs.length from he)
        rw [Nat.add_mul, Nat.one_mul] at this; omega
      have hcz : e * A.sz + j < c.size := by omega
      simp only [putCells, Nat.zero_add, Array.getElem?_mapIdx, Array.getElem?_eq_getElem hcz, Option.map_some]
      rw [if_pos ⟨Nat.zero_le _, by rw [size_flatK, hd's]; exact hlt⟩, Nat.sub_zero, id_eq, get_flatK _ _ _ _ (by rw [hd's]; exact hlt)]
      have e1 : (e * A.sz + j) / A.sz = e := by
        rw [Nat.mul_comm, Nat.mul_add_div hz, Nat.div_eq_of_lt hj]; rfl
      have e2 : (e * A.sz + j) % A.sz = j := by
        rw [Nat.mul_comm, Nat.mul_add_mod, Nat.mod_eq_of_lt hj]
      rw [e1, e2, getElem!_pos d' e hed]
      have hj2 : j < (enc d'[e]).length := by rw [hkl]; exact hj
      rw [getElem!_pos (enc d'[e]) j hj2]
      rw [List.getElem?_eq_getElem hj2] at hx
      exact hx
end
end Go.Sx

/- Chapter 2: which is less. Printed by treegen.py. -/
namespace Go.Proofs.Ytapmlfklkfgmoaa
open Go.RowKit Go.Sx
set_option maxRecDepth 100000
set_option linter.unusedVariables false
def less_F (a : S) (b : S) : Dv.T dBool :=
  !conj
        ([a.f == b.f] ++
          ([a.k == b.k] ++
            ([a.a == b.a] ++
              ([a.n == b.n] ++
                ([a.p0 == b.p0] ++ ([a.p1 == b.p1] ++ ([a.p2 == b.p2] ++ ([a.p3 == b.p3] ++ []))) ++ []))))) &&
    (leqC a b && (!leqC b a || decide (compare_F a b < (0 : Int))))
theorem less_ok : FnPure Try.prog 54 aSS dBool (fun g => less_F g.1 g.2) (fun _ => []) := pure_of_safe (Γ := (PTab.gamz tab7 [] [])) (Λ := noΛ) (PTab.okz tab7 [] []) noΛ_ok 100 default (fun g => by kernel_rfl) (fun g => by kernel_rfl)
def under_F (a : S) (b : S) : Dv.T dBool :=
  leqC a b && (!leqC b a || decide (rcompare_F a b < (0 : Int)))
theorem under_ok : FnPure Try.prog 57 aSS dBool (fun g => under_F g.1 g.2) (fun _ => []) := pure_of_safe (Γ := (PTab.gamz tab7 [] [])) (Λ := noΛ) (PTab.okz tab7 [] []) noΛ_ok 100 default (fun g => by kernel_rfl) (fun g => by kernel_rfl)
def tab15 : PTab Try.prog := ((tab7).cons 54 (pconP aSS dBool (fun g => less_F g.1 g.2) (fun _ => [])) (conP_ok less_ok puB)).cons 57 (pconP aSS dBool (fun g => under_F g.1 g.2) (fun _ => [])) (conP_ok under_ok puB)
end Go.Proofs.Ytapmlfklkfgmoaa

/- Chapter 2: loops over lists. Printed by treegen.py. -/
namespace Go.Proofs.Ytapmlfklkfgmoaa
open Go.RowKit Go.Sx
set_option maxRecDepth 100000
set_option linter.unusedVariables false
abbrev idx_G : Type := List S × S × Int × Int × Int
def idx_LP : LP 0 idx_G := .pair (.slot 0 0 dLS) (.pair (.slot 0 1 (dFnE 53 eS)) (.pair (.slot 0 7 dI) (.pair (.slot 0 8 dI) (.slot 0 4 dI))))
noncomputable def idx_R (xs : List S) (s : S) (n : Int) (i : Int) (r : Int) : Ex × idx_G :=
  bif decide (i < n) then
    bif less_F (xs.getD i.toNat eS.dflt) s then (Ex.ret, eS.lst xs.length (eS.els xs), s, n, i, i)
    else (Ex.normal, eS.lst xs.length (eS.els xs), s, n, IntKind.i64.wrap (i + (1 : Int)), r)
  else (Ex.exit (0 : Nat), eS.lst xs.length (eS.els xs), s, n, i, r)
def idx_side (xs : List S) (s : S) (n : Int) (i : Int) (r : Int) : Prop :=
  (decide (i < n) = true →
      ((0 : Int) ≤ i ∧ i < (↑xs.length : Int)) ∧
        (less_F (xs.getD i.toNat eS.dflt) s = true → ∀ (e : Nat), e < (xs, s, n, i, r).fst.length → eS.Ok (eS.els xs e)) ∧
          (less_F (xs.getD i.toNat eS.dflt) s = false →
            ∀ (e : Nat), e < (xs, s, n, i, r).fst.length → eS.Ok (eS.els xs e))) ∧
    (decide (i < n) = false → ∀ (e : Nat), e < (xs, s, n, i, r).fst.length → eS.Ok (eS.els xs e))
theorem idx_one : ((loopsOf Try.prog 64).filter fun c => Nat.beq (lkey c) 2).length = 1 := by kernel_rfl
theorem idx_es (g : idx_G) : (idx_R g.1 g.2.1 g.2.2.1 g.2.2.2.1 g.2.2.2.2).1 = .normal ∨ (idx_R g.1 g.2.1 g.2.2.1 g.2.2.2.1 g.2.2.2.2).1 ∈ ([.ret, .exit 0] : List Ex) := by
  unfold idx_R
  repeat' (first | (left; rfl) | (right; simp only [cond_true, cond_false]; simp; done) | (rw [Bool.cond_eq_ite]; split))
noncomputable abbrev idx_C (Inv : idx_G → List Prop) (m : idx_G → Nat) : LCon := loopR [.ret, .exit 0] (loopBody Try.prog 64 2) idx_LP [] 19 Inv (fun g => idx_R g.1 g.2.1 g.2.2.1 g.2.2.2.1 g.2.2.2.2) m
theorem idx_loop (Inv : idx_G → List Prop) (m : idx_G → Nat) (hs : ∀ g, allP (Inv g) → idx_side g.1 g.2.1 g.2.2.1 g.2.2.2.1 g.2.2.2.2) (hg : Goes (fun g : idx_G => idx_R g.1 g.2.1 g.2.2.1 g.2.2.2.1 g.2.2.2.2) m fun g => allP (Inv g)) : ∀ b ∈ loopsOf Try.prog 64, lkey b = 2 → LoopOk Try.prog b (idx_C Inv m).g := loop_run (Γ := (PTab.gamz tab15 [] [])) (Λ := noΛ) (PTab.okz tab15 [] []) noΛ_ok 100 64 2 19 idx_LP [] Inv (fun g => idx_R g.1 g.2.1 g.2.2.1 g.2.2.2.1 g.2.2.2.2) (fun g => idx_side g.1 g.2.1 g.2.2.1 g.2.2.2.1 g.2.2.2.2) m default [.ret, .exit 0] idx_one (fun rd T B HL HB ds g => by kernel_rfl) (fun rd T B HL HB ds g => by kernel_rfl) hs hg idx_es
abbrev sam_G : Type := List S × List S × Int × Bool
def sam_LP : LP 0 sam_G := .pair (.slot 0 0 dLS) (.pair (.slot 0 1 dLS) (.pair (.slot 0 5 dI) (.slot 0 4 dBool)))
noncomputable def sam_R (xs : List S) (ys : List S) (i : Int) (r : Bool) : Ex × sam_G :=
  bif decide (i < (↑xs.length : Int)) then
    bif
        !conj
            ([(xs.getD i.toNat eS.dflt).f == (ys.getD i.toNat eS.dflt).f] ++
              ([(xs.getD i.toNat eS.dflt).k == (ys.getD i.toNat eS.dflt).k] ++
                ([(xs.getD i.toNat eS.dflt).a == (ys.getD i.toNat eS.dflt).a] ++
                  ([(xs.getD i.toNat eS.dflt).n == (ys.getD i.toNat eS.dflt).n] ++
                    ([(xs.getD i.toNat eS.dflt).p0 == (ys.getD i.toNat eS.dflt).p0] ++
                        ([(xs.getD i.toNat eS.dflt).p1 == (ys.getD i.toNat eS.dflt).p1] ++
                          ([(xs.getD i.toNat eS.dflt).p2 == (ys.getD i.toNat eS.dflt).p2] ++
                            ([(xs.getD i.toNat eS.dflt).p3 == (ys.getD i.toNat eS.dflt).p3] ++ []))) ++
                      []))))) then
      (Ex.ret, eS.lst xs.length (eS.els xs), eS.lst ys.length (eS.els ys), i, false)
    else (Ex.normal, eS.lst xs.length (eS.els xs), eS.lst ys.length (eS.els ys), IntKind.i64.wrap (i + (1 : Int)), r)
  else (Ex.exit (0 : Nat), eS.lst xs.length (eS.els xs), eS.lst ys.length (eS.els ys), i, r)
def sam_side (xs : List S) (ys : List S) (i : Int) (r : Bool) : Prop :=
  (decide (i < (↑xs.length : Int)) = true →
      ((0 : Int) ≤ i ∧ i < (↑xs.length : Int)) ∧
        ((0 : Int) ≤ i ∧ i < (↑ys.length : Int)) ∧
          ((!conj
                    ([(xs.getD i.toNat eS.dflt).f == (ys.getD i.toNat eS.dflt).f] ++
                      ([(xs.getD i.toNat eS.dflt).k == (ys.getD i.toNat eS.dflt).k] ++
                        ([(xs.getD i.toNat eS.dflt).a == (ys.getD i.toNat eS.dflt).a] ++
                          ([(xs.getD i.toNat eS.dflt).n == (ys.getD i.toNat eS.dflt).n] ++
                            ([(xs.getD i.toNat eS.dflt).p0 == (ys.getD i.toNat eS.dflt).p0] ++
                                ([(xs.getD i.toNat eS.dflt).p1 == (ys.getD i.toNat eS.dflt).p1] ++
                                  ([(xs.getD i.toNat eS.dflt).p2 == (ys.getD i.toNat eS.dflt).p2] ++
                                    ([(xs.getD i.toNat eS.dflt).p3 == (ys.getD i.toNat eS.dflt).p3] ++ []))) ++
                              [])))))) =
                true →
              (∀ (e : Nat), e < (xs, ys, i, r).fst.length → eS.Ok (eS.els xs e)) ∧
                ∀ (e : Nat), e < (xs, ys, i, r).snd.fst.length → eS.Ok (eS.els ys e)) ∧
            ((!conj
                    ([(xs.getD i.toNat eS.dflt).f == (ys.getD i.toNat eS.dflt).f] ++
                      ([(xs.getD i.toNat eS.dflt).k == (ys.getD i.toNat eS.dflt).k] ++
                        ([(xs.getD i.toNat eS.dflt).a == (ys.getD i.toNat eS.dflt).a] ++
                          ([(xs.getD i.toNat eS.dflt).n == (ys.getD i.toNat eS.dflt).n] ++
                            ([(xs.getD i.toNat eS.dflt).p0 == (ys.getD i.toNat eS.dflt).p0] ++
                                ([(xs.getD i.toNat eS.dflt).p1 == (ys.getD i.toNat eS.dflt).p1] ++
                                  ([(xs.getD i.toNat eS.dflt).p2 == (ys.getD i.toNat eS.dflt).p2] ++
                                    ([(xs.getD i.toNat eS.dflt).p3 == (ys.getD i.toNat eS.dflt).p3] ++ []))) ++
                              [])))))) =
                false →
              (∀ (e : Nat), e < (xs, ys, i, r).fst.length → eS.Ok (eS.els xs e)) ∧
                ∀ (e : Nat), e < (xs, ys, i, r).snd.fst.length → eS.Ok (eS.els ys e))) ∧
    (decide (i < (↑xs.length : Int)) = false →
      (∀ (e : Nat), e < (xs, ys, i, r).fst.length → eS.Ok (eS.els xs e)) ∧
        ∀ (e : Nat), e < (xs, ys, i, r).snd.fst.length → eS.Ok (eS.els ys e))
theorem sam_one : ((loopsOf Try.prog 42).filter fun c => Nat.beq (lkey c) 4).length = 1 := by kernel_rfl
theorem sam_es (g : sam_G) : (sam_R g.1 g.2.1 g.2.2.1 g.2.2.2).1 = .normal ∨ (sam_R g.1 g.2.1 g.2.2.1 g.2.2.2).1 ∈ ([.ret, .exit 0] : List Ex) := by
  unfold sam_R
  repeat' (first | (left; rfl) | (right; simp only [cond_true, cond_false]; simp; done) | (rw [Bool.cond_eq_ite]; split))
noncomputable abbrev sam_C (Inv : sam_G → List Prop) (m : sam_G → Nat) : LCon := loopR [.ret, .exit 0] (loopBody Try.prog 42 4) sam_LP [] 26 Inv (fun g => sam_R g.1 g.2.1 g.2.2.1 g.2.2.2) m
theorem sam_loop (Inv : sam_G → List Prop) (m : sam_G → Nat) (hs : ∀ g, allP (Inv g) → sam_side g.1 g.2.1 g.2.2.1 g.2.2.2) (hg : Goes (fun g : sam_G => sam_R g.1 g.2.1 g.2.2.1 g.2.2.2) m fun g => allP (Inv g)) : ∀ b ∈ loopsOf Try.prog 42, lkey b = 4 → LoopOk Try.prog b (sam_C Inv m).g := loop_run (Γ := (PTab.gamz tab15 [] [])) (Λ := noΛ) (PTab.okz tab15 [] []) noΛ_ok 100 42 4 26 sam_LP [] Inv (fun g => sam_R g.1 g.2.1 g.2.2.1 g.2.2.2) (fun g => sam_side g.1 g.2.1 g.2.2.1 g.2.2.2) m default [.ret, .exit 0] sam_one (fun rd T B HL HB ds g => by kernel_rfl) (fun rd T B HL HB ds g => by kernel_rfl) hs hg sam_es
def tab16 : PTab Try.prog := tab15
end Go.Proofs.Ytapmlfklkfgmoaa

/- More that a loop carries: a part of a known row. -/
namespace Go.Sx
open Go.RowKit
/-- A slot that holds a part of a known row. -/
def LP.seS (N i id sz : Nat) : LP N (Nat × Nat) where
  R := 0
  read σ := match σ.slot i with
    | .se j s o l => bif Nat.beq j id && (Nat.beq s sz && Nat.blt id N) then some ((o, l), [], []) else none
    | _ => none
  ents _ g := [(i, .se id sz g.1 g.2)]
  rows _ := []
  objs _ := []
  es := [i]
  os := []
  eseq _ _ := rfl
  oseq _ := rfl
  rlen _ := rfl
  ilen σ g ps ids h := by
    split at h
    · rename_i j s o l _
      cases hb : (Nat.beq j id && (Nat.beq s sz && Nat.blt id N)) with
      | false => rw [hb] at h; cases h
      | true =>
        rw [hb] at h
        simp only [cond_true, Option.some.injEq, Prod.mk.injEq] at h; rw [← h.2.2]; rfl
    · cases h
  ok k0 σ g ps ids h hp := by
    split at h
    · rename_i j s o l hs
      cases hb : (Nat.beq j id && (Nat.beq s sz && Nat.blt id N)) with
      | false => rw [hb] at h; cases h
      | true =>
        rw [hb] at h
        simp only [cond_true, Option.some.injEq, Prod.mk.injEq] at h
        obtain ⟨rfl, rfl, rfl⟩ := h
        simp only [Bool.and_eq_true] at hb
        have e1 := beq_of hb.1
        have e2 := beq_of hb.2.1
        have hlt := Nat.le_of_ble_eq_true hb.2.2
        subst e1; subst e2
        refine ⟨fun k t sz el l h => by simp at h, fun id' so h => by simp at h, fun i' s' h => ?_⟩
        simp only [List.mem_singleton, Prod.mk.injEq] at h
        obtain ⟨rfl, rfl⟩ := h
        refine .inl ⟨fun n ρ x hx => by rw [hs] at hx; exact hx, fun n m ρ ρ' x hm ha hf => ?_⟩
        obtain ⟨_, a, c, h1, h2, h3, h4⟩ := hf
        exact ⟨by omega, a, c, h1, h2, h3, fun hl => by rw [ha.1 _ hlt]; exact h4 hl⟩
    · cases h
/-- A slot that may hold a beginning of a known row (or anything else). -/
def LP.owB (N i id : Nat) : LP N (Bool × Nat) where
  R := 0
  read σ := match σ.slot i with
    | .ow j l => bif Nat.beq j id && Nat.blt id N then some ((true, l), [], []) else some ((false, 0), [], [])
    | .opt b (.ow j l) => bif Nat.beq j id && Nat.blt id N then some ((b, l), [], []) else some ((false, 0), [], [])
    | _ => some ((false, 0), [], [])
  ents _ g := [(i, .opt g.1 (.ow id g.2))]
  rows _ := []
  objs _ := []
  es := [i]
  os := []
  eseq _ _ := rfl
  oseq _ := rfl
  rlen _ := rfl
  ilen σ g ps ids h := by
    split at h
    · rename_i j l _
      cases hb : Nat.beq j id && Nat.blt id N with
      | false => rw [hb] at h; simp only [cond_false, Option.some.injEq, Prod.mk.injEq] at h; rw [← h.2.2]; rfl
      | true => rw [hb] at h; simp only [cond_true, Option.some.injEq, Prod.mk.injEq] at h; rw [← h.2.2]; rfl
    · rename_i b j l _
      cases hb : Nat.beq j id && Nat.blt id N with
      | false => rw [hb] at h; simp only [cond_false, Option.some.injEq, Prod.mk.injEq] at h; rw [← h.2.2]; rfl
      | true => rw [hb] at h; simp only [cond_true, Option.some.injEq, Prod.mk.injEq] at h; rw [← h.2.2]; rfl
    · simp only [Option.some.injEq, Prod.mk.injEq] at h; rw [← h.2.2]; rfl
  ok k0 σ g ps ids h hp := by
    have hu : Rel N k0 σ [] [(i, .opt false (.ow id 0))] [] [] := ⟨fun k t sz el l h => by simp at h, fun id so h => by simp at h, fun q s h => by
      simp only [List.mem_singleton, Prod.mk.injEq] at h
      obtain ⟨rfl, rfl⟩ := h
      exact .inl ⟨fun _ _ _ _ h => (by cases h), fun _ _ _ _ _ _ _ _ h => (by cases h)⟩⟩
    have hw : ∀ (b : Bool) (l : Nat), id < N → (∀ n ρ x, (σ.slot i).fit n ρ x → (SV.opt b (.ow id l)).fit n ρ x) → Rel N k0 σ [] [(i, .opt b (.ow id l))] [] [] := fun b l hlt hs =>
      ⟨fun k t sz el l h => by simp at h, fun id so h => by simp at h, fun q s h => by
        simp only [List.mem_singleton, Prod.mk.injEq] at h
        obtain ⟨rfl, rfl⟩ := h
        refine .inl ⟨hs, fun n m ρ ρ' x hm ha hf hb => ?_⟩
        obtain ⟨_, hf⟩ := hf hb
        exact ⟨by omega, by rw [ha.1 _ hlt]; exact hf⟩⟩
    split at h
    · rename_i j l hs
      cases hb : Nat.beq j id && Nat.blt id N with
      | false =>
        rw [hb] at h
        simp only [cond_false, Option.some.injEq, Prod.mk.injEq] at h
        obtain ⟨rfl, rfl, rfl⟩ := h
        exact hu
      | true =>
        rw [hb] at h
        simp only [Bool.and_eq_true] at hb
        have e1 := beq_of hb.1
        have hlt : id < N := Nat.le_of_ble_eq_true hb.2
        subst e1
        simp only [cond_true, Option.some.injEq, Prod.mk.injEq] at h
        obtain ⟨rfl, rfl, rfl⟩ := h
        exact hw _ _ hlt fun n ρ x hf _ => by rw [hs] at hf; exact hf
    · rename_i b j l hs
      cases hb : Nat.beq j id && Nat.blt id N with
      | false =>
        rw [hb] at h
        simp only [cond_false, Option.some.injEq, Prod.mk.injEq] at h
        obtain ⟨rfl, rfl, rfl⟩ := h
        exact hu
      | true =>
        rw [hb] at h
        simp only [Bool.and_eq_true] at hb
        have e1 := beq_of hb.1
        have hlt : id < N := Nat.le_of_ble_eq_true hb.2
        subst e1
        simp only [cond_true, Option.some.injEq, Prod.mk.injEq] at h
        obtain ⟨rfl, rfl, rfl⟩ := h
        exact hw _ _ hlt fun n ρ x hf => by rw [hs] at hf; exact hf
    · simp only [Option.some.injEq, Prod.mk.injEq] at h
      obtain ⟨rfl, rfl, rfl⟩ := h
      exact hu
/-- Two codes are one. -/
def CodeIs (a b : Code) : Prop := a = b
/-- A range over a function: its body's place; slots that stay as they were. -/
def fixT (N : Nat) (t : List (Nat × SV)) : List (Nat × SV) → Bool
  | [] => true
  | (i, v) :: r => litEq N (look (.k undef) i t) v && fixT N t r
theorem fixT_ok {N : Nat} {t : List (Nat × SV)} : ∀ {l : List (Nat × SV)}, fixT N t l = true → ∀ i v, (i, v) ∈ l → look (.k undef) i t = v ∧ Bl N v
  | [], _, _, _, h => by simp at h
  | (j, u) :: r, h, i, v, hm => by
    simp only [fixT, Bool.and_eq_true] at h
    rcases List.mem_cons.1 hm with he | hm
    · simp only [Prod.mk.injEq] at he
      obtain ⟨rfl, rfl⟩ := he
      exact litEq_ok h.1
    · exact fixT_ok h.2 i v hm
def restU (n : Nat) : List (Nat × SV) := (List.range n).map fun i => (i, .u)
theorem look_restU {n i : Nat} (h : i < n) : look (.k undef) i (restU n) = .u := by
  rcases look_or (.k undef) i (restU n) with h1 | h1
  · obtain ⟨j, _, e⟩ := List.mem_map.1 h1
    simp only [Prod.mk.injEq] at e
    exact e.2.symm
  · exact absurd (by simp only [restU, List.map_map]; simpa using h) h1
def LP.loopO (N id n : Nat) (fx : List (Nat × SV)) (ps : Array Tmp) (asg body : Code) (df : Nat) : LP N (LoopState × Option Code) where
  R := 0
  read σ := match σ.h.get id with
    | .loop st pd n' t ps' asg' body' df' => bif Nat.beq n' n && (Nat.beq df' df && (Nat.blt df N && (decide (ps' = ps) && fixT N t fx))) then some ((st, pd), [CodeIs asg' asg, CodeIs body' body], []) else none
    | _ => none
  ents _ _ := []
  rows _ := []
  objs g := [(id, .loop g.1 g.2 n (fx ++ restU n) ps asg body df)]
  es := []
  os := [id]
  eseq _ _ := rfl
  oseq _ := rfl
  rlen _ := rfl
  ilen σ g ps' ids h := by
    split at h
    · rename_i st pd n' t ps'' asg' body' df' _
      cases hb : (Nat.beq n' n && (Nat.beq df' df && (Nat.blt df N && (decide (ps'' = ps) && fixT N t fx)))) with
      | false => rw [hb] at h; cases h
      | true => rw [hb] at h; simp only [cond_true, Option.some.injEq, Prod.mk.injEq] at h; rw [← h.2.2]; rfl
    · cases h
  ok k0 σ g ps' ids h hp := by
    split at h
    · rename_i st pd n' t ps'' asg' body' df' hg
      cases hb : (Nat.beq n' n && (Nat.beq df' df && (Nat.blt df N && (decide (ps'' = ps) && fixT N t fx)))) with
      | false => rw [hb] at h; cases h
      | true =>
        rw [hb] at h
        simp only [cond_true, Option.some.injEq, Prod.mk.injEq] at h
        obtain ⟨rfl, rfl, rfl⟩ := h
        simp only [Bool.and_eq_true, decide_eq_true_eq] at hb
        obtain ⟨h1, h2, h3, h4, h5⟩ := hb
        have e1 := beq_of h1
        have e2 := beq_of h2
        subst e1; subst e2; subst h4
        have hlt : df' < N := Nat.le_of_ble_eq_true h3
        have c1 : asg' = asg := hp _ (List.mem_cons_self ..)
        have c2 : body' = body := hp _ (List.mem_cons_of_mem _ (List.mem_cons_self ..))
        subst c1; subst c2
        refine ⟨fun k t sz el l h => by simp at h, fun id' so h => ?_, fun j s h => by simp at h⟩
        simp only [List.mem_singleton, Prod.mk.injEq] at h
        obtain ⟨rfl, rfl⟩ := h
        rw [hg]
        refine ⟨fun _ h => h, fun n m ρ ρ' L o hNm hag hf => ?_⟩
        obtain ⟨f1, f2, f, tm, f3, f4, f5⟩ := hf
        refine ⟨f1, by omega, f, tm, by rw [hag.1 _ hlt]; exact f3, f4, fun i hi => ?_⟩
        have h6 := f5 i hi
        rw [look_append]
        rcases look_or (look (.k undef) i (restU n')) i fx with h7 | h7
        · obtain ⟨e, hbl⟩ := fixT_ok h5 _ _ h7
          rw [e] at h6
          exact hbl _ _ _ _ _ hNm hag h6
        · rw [look_not _ _ h7, look_restU hi]
          trivial
    · cases h
section
variable {P : Program} {Γ : Gam} {Λ : Lam} {N : Nat} {γ : Type}
/-- As loop_run, where a round is known only of some. -/
theorem loop_runI (ι : γ → γ) (hΓ : ∀ f g, Γ.g f = some g → FnOk P f g) (hΛ : ∀ f k L, Λ f k = some L → ∀ b ∈ loopsOf P f, lkey b = k → LoopOk P b L.g) (n f key n0 : Nat) (A : LP N γ) (DL : List Nat) (Inv : γ → List Prop) (F : γ → Ex × γ) (S : γ → Prop) (m : γ → Nat) (d : Ex × γ) (es : List Ex)
    (hu : ((loopsOf P f).filter fun c => Nat.beq (lkey c) key).length = 1)
    (hS : ∀ (rd : Option Nat) (T B : List (Nat × SV)) (HL HB : List (Nat × SE)) (ds : List Nat) (g : γ), (bT P Γ Λ n f rd (loopBody P f key) A DL n0 ⟨n0, T, ⟨N, HL, HB⟩, DL, B⟩ ds (ι g)).side = S g)
    (hF : ∀ (rd : Option Nat) (T B : List (Nat × SV)) (HL HB : List (Nat × SE)) (ds : List Nat) (g : γ), (bT P Γ Λ n f rd (loopBody P f key) A DL n0 ⟨n0, T, ⟨N, HL, HB⟩, DL, B⟩ ds (ι g)).ev d = F g)
    (hι : ∀ g, allP (Inv g) → ι g = g) (hs : ∀ g, allP (Inv g) → S g) (hg : Goes F m fun g => allP (Inv g)) (hes : ∀ g, (F g).1 = .normal ∨ (F g).1 ∈ es) : ∀ b ∈ loopsOf P f, lkey b = key → LoopOk P b (loopR es (loopBody P f key) A DL n0 Inv F m).g := by
  refine loop_ok hΓ hΛ n f key n0 A DL Inv _ m hu ?_
  intro rd T B HL HB ds g hi K hK
  have h1 : (bT P Γ Λ n f rd (loopBody P f key) A DL n0 ⟨n0, T, ⟨N, HL, HB⟩, DL, B⟩ ds (ι g)).side := by rw [hS]; exact hs g hi
  have h2 := Tr.side_holds d h1
  rw [hF, hι g hi] at h2
  refine Tr.mono ?_ h2
  rintro _ rfl
  have hK0 := hK
  have hK : K (loopF F m g) := exitsT_holds (loopF_exit hg hes hi) hK
  unfold StepP
  split
  · rename_i he
    obtain ⟨k1, k2⟩ := hg g hi he
    refine ⟨k1, k2, ?_⟩
    show (exitsT (loopF F m (F g).2) es).Holds K
    rw [← loopF_next hg hi (g' := (F g).2) (by rw [← he])]
    exact hK0
  · rename_i he
    rw [loopF_end (by intro h; exact he h)] at hK
    exact hK
end
theorem pure_congr {γ δ : Type} {P : Program} {f : Nat} {D : DA γ} {R : Dv δ} {fn fn' : γ → δ} {pre : γ → List Prop} (h : FnPure P f D R fn pre) (e : ∀ g, D.bd g → (∀ p ∈ pre g, p) → fn g = fn' g) : FnPure P f D R fn' pre := by
  intro w F g vs h1 h2 h3
  refine (h w F g vs h1 h2 h3).mono ?_
  rintro e' w' ⟨x, k1, k2, k3⟩
  rw [e g (D.fb _ _ _ _ h3) h2] at k3
  exact ⟨x, k1, k2, k3⟩
end Go.Sx

/- Loops over lists, and what they come to: plain laws for all chapters. -/
namespace Go.Lp
open Go.Sx
abbrev w64 (n : Int) : Int := IntKind.i64.wrap n
theorem wr {n : Int} (h : 0 ≤ n ∧ n ≤ 9223372036854775807) : w64 n = n := by
  unfold w64
  simp [IntKind.wrap, IntKind.bits, IntKind.signed]
  omega
/-- What asks of lists is given. -/
def inR (n i : Int) : Prop := 0 ≤ i ∧ i ≤ n ∧ n ≤ 9223372036854775807

section
variable {α σ : Type}
/-! ### where the first is of which something holds -/
abbrev FiG (α σ : Type) := List α × σ × Int × Int × Int
def fiF (d : α) (p : σ → α → Bool) (g : FiG α σ) : Ex × FiG α σ :=
  bif decide (g.2.2.2.1 < g.2.2.1) then
    bif p g.2.1 (g.1.getD g.2.2.2.1.toNat d) then (.ret, g.1, g.2.1, g.2.2.1, g.2.2.2.1, g.2.2.2.1) else (.normal, g.1, g.2.1, g.2.2.1, w64 (g.2.2.2.1 + 1), g.2.2.2.2)
  else (.exit 0, g)
def fiI (g : FiG α σ) : List Prop := [g.2.2.1 = (g.1.length : Int) ∧ g.1.length ≤ maxLen ∧ 0 ≤ g.2.2.2.1 ∧ g.2.2.2.1 ≤ (g.1.length : Int)]
def fiM (g : FiG α σ) : Nat := (g.2.2.1 - g.2.2.2.1).toNat
theorem fi_goes (d : α) (p : σ → α → Bool) : Goes (fiF d p) fiM fun g => allP (fiI g) := by
  rintro ⟨xs, s, n, i, r0⟩ hi hn
  obtain ⟨h1, h2, h3, h4⟩ := hi _ (List.mem_cons_self ..)
  simp only at h1 h2 h3 h4
  unfold maxLen at h2
  unfold fiF at hn ⊢
  simp only at hn ⊢
  by_cases hlt : i < n
  · simp only [hlt, decide_true, cond_true] at hn ⊢
    cases hp : p s (xs.getD i.toNat d) with
    | true => rw [hp] at hn; cases hn
    | false =>
      simp only [cond_false]
      rw [wr (by omega)]
      refine ⟨fun q hq => ?_, ?_⟩
      · simp only [fiI, List.mem_singleton] at hq
        subst hq
        exact ⟨h1, by unfold maxLen; omega, by show (0 : Int) ≤ i + 1; omega, by show i + 1 ≤ (xs.length : Int); omega⟩
      · simp only [fiM]; omega
  · simp only [hlt, decide_false, cond_false] at hn
    cases hn
/-- What it comes to. -/
theorem fi_run (d : α) (p : σ → α → Bool) : ∀ g : FiG α σ, allP (fiI g) →
    (((loopF (fiF d p) fiM g).1 = .ret ∧ 0 ≤ (loopF (fiF d p) fiM g).2.2.2.2.2 ∧ (loopF (fiF d p) fiM g).2.2.2.2.2 < (g.1.length : Int) ∧ (g.1.drop g.2.2.2.1.toNat).any (p g.2.1) = true) ∨
     ((loopF (fiF d p) fiM g).1 = .exit 0 ∧ (g.1.drop g.2.2.2.1.toNat).any (p g.2.1) = false)) := by
  refine loopF_induct (fi_goes d p) (Q := fun g r => ((r.1 = .ret ∧ 0 ≤ r.2.2.2.2.2 ∧ r.2.2.2.2.2 < (g.1.length : Int) ∧ (g.1.drop g.2.2.2.1.toNat).any (p g.2.1) = true) ∨ (r.1 = .exit 0 ∧ (g.1.drop g.2.2.2.1.toNat).any (p g.2.1) = false))) ?_ ?_
  · rintro ⟨xs, s, n, i, r0⟩ hi hn
    obtain ⟨h1, h2, h3, h4⟩ := hi _ (List.mem_cons_self ..)
    simp only at h1 h2 h3 h4
    unfold fiF at hn ⊢
    simp only at hn ⊢
    by_cases hlt : i < n
    · simp only [hlt, decide_true, cond_true] at hn ⊢
      have hlt' : i.toNat < xs.length := by omega
      have hd : xs.drop i.toNat = xs.getD i.toNat d :: xs.drop (i.toNat + 1) := by
        rw [List.drop_eq_getElem_cons hlt']
        simp [List.getD_eq_getElem?_getD, hlt']
      cases hp : p s (xs.getD i.toNat d) with
      | true =>
        left
        simp only [cond_true]
        refine ⟨trivial, h3, by omega, ?_⟩
        rw [hd, List.any_cons, hp]; rfl
      | false => rw [hp] at hn; exact absurd rfl hn
    · right
      simp only [hlt, decide_false, cond_false]
      refine ⟨trivial, ?_⟩
      rw [List.drop_eq_nil_of_le (by omega)]; rfl
  · rintro ⟨xs, s, n, i, r0⟩ g' r hi he hi' _ hq
    obtain ⟨h1, h2, h3, h4⟩ := hi _ (List.mem_cons_self ..)
    simp only at h1 h2 h3 h4
    unfold maxLen at h2
    unfold fiF at he
    simp only at he
    by_cases hlt : i < n
    · simp only [hlt, decide_true, cond_true] at he
      have hlt' : i.toNat < xs.length := by omega
      have hd : xs.drop i.toNat = xs.getD i.toNat d :: xs.drop (i.toNat + 1) := by
        rw [List.drop_eq_getElem_cons hlt']
        simp [List.getD_eq_getElem?_getD, hlt']
      cases hp : p s (xs.getD i.toNat d) with
      | true => rw [hp] at he; cases he
      | false =>
        rw [hp] at he
        simp only [cond_false, Prod.mk.injEq, true_and] at he
        subst he
        simp only at hq ⊢
        rw [wr (by omega)] at hq
        rw [hd, List.any_cons, hp, Bool.false_or]
        have : (i + 1).toNat = i.toNat + 1 := by omega
        rw [this] at hq
        exact hq
    · simp only [hlt, decide_false, cond_false] at he
      cases he
theorem fi_any (d : α) (p : σ → α → Bool) (xs : List α) (s : σ) (r0 : Int) (h : xs.length ≤ maxLen) :
    ((exB .ret (loopF (fiF d p) fiM (xs, s, (xs.length : Int), 0, r0)).1) = xs.any (p s)) ∧ ((loopF (fiF d p) fiM (xs, s, (xs.length : Int), 0, r0)).1 = .ret → 0 ≤ (loopF (fiF d p) fiM (xs, s, (xs.length : Int), 0, r0)).2.2.2.2.2) := by
  have h0 : allP (fiI ((xs, s, (xs.length : Int), (0 : Int), r0) : FiG α σ)) := fun q hq => by
    simp only [fiI, List.mem_singleton] at hq
    subst hq
    exact ⟨trivial, h, Int.le_refl _, by show (0 : Int) ≤ (xs.length : Int); omega⟩
  rcases fi_run d p (xs, s, (xs.length : Int), 0, r0) h0 with ⟨h1, h2, _, h3⟩ | ⟨h1, h3⟩
  · refine ⟨?_, fun _ => h2⟩
    rw [h1]
    have h4 : (xs.drop 0).any (p s) = true := h3
    rw [List.drop_zero] at h4
    exact h4.symm
  · refine ⟨?_, fun h => ?_⟩
    · rw [h1]
      have : (xs.drop 0).any (p s) = false := h3
      simp only [List.drop_zero] at this
      rw [this]; rfl
    · rw [h1] at h; cases h

/-! ### are two lists the same -/
abbrev SaG (α : Type) := List α × List α × Int × Bool
def saF (d : α) (eq : α → α → Bool) (g : SaG α) : Ex × SaG α :=
  bif decide (g.2.2.1 < (g.1.length : Int)) then
    bif !eq (g.1.getD g.2.2.1.toNat d) (g.2.1.getD g.2.2.1.toNat d) then (.ret, g.1, g.2.1, g.2.2.1, false) else (.normal, g.1, g.2.1, w64 (g.2.2.1 + 1), g.2.2.2)
  else (.exit 0, g)
def saI (g : SaG α) : List Prop := [g.1.length = g.2.1.length ∧ g.1.length ≤ maxLen ∧ 0 ≤ g.2.2.1 ∧ g.2.2.1 ≤ (g.1.length : Int)]
def saM (g : SaG α) : Nat := ((g.1.length : Int) - g.2.2.1).toNat
theorem sa_goes (d : α) (eq : α → α → Bool) : Goes (saF d eq) saM fun g => allP (saI g) := by
  rintro ⟨xs, ys, i, r0⟩ hi hn
  obtain ⟨h1, h2, h3, h4⟩ := hi _ (List.mem_cons_self ..)
  simp only at h1 h2 h3 h4
  unfold maxLen at h2
  unfold saF at hn ⊢
  simp only at hn ⊢
  by_cases hlt : i < (xs.length : Int)
  · simp only [hlt, decide_true, cond_true] at hn ⊢
    cases hp : !eq (xs.getD i.toNat d) (ys.getD i.toNat d) with
    | true => rw [hp] at hn; cases hn
    | false =>
      simp only [cond_false]
      rw [wr (by omega)]
      refine ⟨fun q hq => ?_, ?_⟩
      · simp only [saI, List.mem_singleton] at hq
        subst hq
        exact ⟨h1, by unfold maxLen; omega, by show (0 : Int) ≤ i + 1; omega, by show i + 1 ≤ (xs.length : Int); omega⟩
      · simp only [saM]; omega
  · simp only [hlt, decide_false, cond_false] at hn
    cases hn
theorem sa_run (d : α) (eq : α → α → Bool) (heq : ∀ a b, eq a b = true ↔ a = b) : ∀ g : SaG α, allP (saI g) →
    (((loopF (saF d eq) saM g).1 = .ret ∧ (loopF (saF d eq) saM g).2.2.2.2 = false ∧ g.1.drop g.2.2.1.toNat ≠ g.2.1.drop g.2.2.1.toNat) ∨ ((loopF (saF d eq) saM g).1 = .exit 0 ∧ g.1.drop g.2.2.1.toNat = g.2.1.drop g.2.2.1.toNat)) := by
  refine loopF_induct (sa_goes d eq) (Q := fun g r => ((r.1 = .ret ∧ r.2.2.2.2 = false ∧ g.1.drop g.2.2.1.toNat ≠ g.2.1.drop g.2.2.1.toNat) ∨ (r.1 = .exit 0 ∧ g.1.drop g.2.2.1.toNat = g.2.1.drop g.2.2.1.toNat))) ?_ ?_
  · rintro ⟨xs, ys, i, r0⟩ hi hn
    obtain ⟨h1, h2, h3, h4⟩ := hi _ (List.mem_cons_self ..)
    simp only at h1 h2 h3 h4
    unfold saF at hn ⊢
    simp only at hn ⊢
    by_cases hlt : i < (xs.length : Int)
    · simp only [hlt, decide_true, cond_true] at hn ⊢
      have l1 : i.toNat < xs.length := by omega
      have l2 : i.toNat < ys.length := by omega
      cases hp : !eq (xs.getD i.toNat d) (ys.getD i.toNat d) with
      | true =>
        left
        simp only [cond_true]
        refine ⟨trivial, trivial, fun hc => ?_⟩
        rw [List.drop_eq_getElem_cons l1, List.drop_eq_getElem_cons l2] at hc
        injection hc with hc _
        have : eq (xs.getD i.toNat d) (ys.getD i.toNat d) = true := (heq _ _).2 (by simp [List.getD_eq_getElem?_getD, l1, l2, hc])
        rw [this] at hp; cases hp
      | false => rw [hp] at hn; exact absurd rfl hn
    · right
      simp only [hlt, decide_false, cond_false]
      refine ⟨trivial, ?_⟩
      rw [List.drop_eq_nil_of_le (by omega), List.drop_eq_nil_of_le (by omega)]
  · rintro ⟨xs, ys, i, r0⟩ g' r hi he hi' _ hq
    obtain ⟨h1, h2, h3, h4⟩ := hi _ (List.mem_cons_self ..)
    simp only at h1 h2 h3 h4
    unfold maxLen at h2
    unfold saF at he
    simp only at he
    by_cases hlt : i < (xs.length : Int)
    · simp only [hlt, decide_true, cond_true] at he
      have l1 : i.toNat < xs.length := by omega
      have l2 : i.toNat < ys.length := by omega
      cases hp : !eq (xs.getD i.toNat d) (ys.getD i.toNat d) with
      | true => rw [hp] at he; cases he
      | false =>
        rw [hp] at he
        simp only [cond_false, Prod.mk.injEq, true_and] at he
        subst he
        simp only at hq ⊢
        rw [wr (by omega)] at hq
        have e1 : (i + 1).toNat = i.toNat + 1 := by omega
        rw [e1] at hq
        have e2 : xs[i.toNat] = ys[i.toNat] := by
          have h5 : eq (xs.getD i.toNat d) (ys.getD i.toNat d) = true := by simpa using hp
          have h6 := (heq _ _).1 h5
          simpa [List.getD_eq_getElem?_getD, l1, l2] using h6
        rw [List.drop_eq_getElem_cons l1, List.drop_eq_getElem_cons l2, e2]
        simp only [List.cons.injEq, true_and, ne_eq]
        exact hq
    · simp only [hlt, decide_false, cond_false] at he
      cases he
theorem sa_eq [DecidableEq α] (d : α) (eq : α → α → Bool) (heq : ∀ a b, eq a b = true ↔ a = b) (xs ys : List α) (r0 : Bool) (h : xs.length ≤ maxLen) (hl : xs.length = ys.length) :
    (bif exB .ret (loopF (saF d eq) saM (xs, ys, 0, r0)).1 then (loopF (saF d eq) saM (xs, ys, 0, r0)).2.2.2.2 else true) = decide (xs = ys) := by
  have h0 : allP (saI ((xs, ys, (0 : Int), r0) : SaG α)) := fun q hq => by
    simp only [saI, List.mem_singleton] at hq
    subst hq
    exact ⟨hl, h, Int.le_refl _, by show (0 : Int) ≤ (xs.length : Int); omega⟩
  rcases sa_run d eq heq (xs, ys, 0, r0) h0 with ⟨h1, h3, h2⟩ | ⟨h1, h2⟩
  · rw [h1, h3]
    have : xs ≠ ys := by simpa using h2
    simp [this, exB]
  · rw [h1]
    have : xs = ys := by simpa using h2
    simp [this, exB]
end
end Go.Lp

/- Chapter 2: where the first is, and whether lists are the same: contracts of the loops. -/
namespace Go.Proofs.Ytapmlfklkfgmoaa
open Go.RowKit Go.Sx Go.Lp
def eqS (a b : S) : Bool := decide (a = b)
theorem conj_S (a b : S) : conj ([a.f == b.f] ++ ([a.k == b.k] ++ ([a.a == b.a] ++ ([a.n == b.n] ++ ([a.p0 == b.p0] ++ ([a.p1 == b.p1] ++ ([a.p2 == b.p2] ++ ([a.p3 == b.p3] ++ []))) ++ []))))) = eqS a b := by
  obtain ⟨f, k, c, n, p0, p1, p2, p3⟩ := a
  obtain ⟨f', k', c', n', p0', p1', p2', p3'⟩ := b
  unfold eqS
  simp [conj]
  rw [Bool.eq_iff_iff]
  simp
theorem idx_RF (g : idx_G) : idx_R g.1 g.2.1 g.2.2.1 g.2.2.2.1 g.2.2.2.2 = fiF eS.dflt (fun s x => less_F x s) g := by
  unfold idx_R
  rw [eS.lst_els]
  rfl
theorem sam_RF (g : sam_G) : sam_R g.1 g.2.1 g.2.2.1 g.2.2.2 = saF eS.dflt eqS g := by
  unfold sam_R
  rw [eS.lst_els, eS.lst_els, conj_S]
  rfl
theorem ok_all (xs : List S) : ∀ e : Nat, e < xs.length → eS.Ok (eS.els xs e) := fun e _ => eS.ok_els xs e
theorem idx_ok : ∀ b ∈ loopsOf Try.prog 64, lkey b = 2 → LoopOk Try.prog b (idx_C fiI fiM).g := by
  refine idx_loop fiI fiM (fun g hi => ?_) ?_
  · obtain ⟨xs, s, n, i, r⟩ := g
    obtain ⟨h1, h2, h3, h4⟩ := hi _ (List.mem_cons_self ..)
    simp only at h1 h2 h3 h4
    refine ⟨fun hc => ?_, fun _ => ok_all xs⟩
    have hc : i < n := of_decide_eq_true hc
    exact ⟨⟨h3, by simp only; omega⟩, fun _ => ok_all xs, fun _ => ok_all xs⟩
  · have e : (fun g : idx_G => idx_R g.1 g.2.1 g.2.2.1 g.2.2.2.1 g.2.2.2.2) = fiF eS.dflt (fun s x => less_F x s) := funext idx_RF
    rw [e]
    exact fi_goes _ _
theorem sam_ok : ∀ b ∈ loopsOf Try.prog 42, lkey b = 4 → LoopOk Try.prog b (sam_C saI saM).g := by
  refine sam_loop saI saM (fun g hi => ?_) ?_
  · obtain ⟨xs, ys, i, r⟩ := g
    obtain ⟨h1, h2, h3, h4⟩ := hi _ (List.mem_cons_self ..)
    simp only at h1 h2 h3 h4
    refine ⟨fun hc => ?_, fun _ => ⟨ok_all xs, ok_all ys⟩⟩
    have hc : i < (xs.length : Int) := of_decide_eq_true hc
    exact ⟨⟨h3, by simp only; omega⟩, ⟨h3, by simp only; omega⟩, fun _ => ⟨ok_all xs, ok_all ys⟩, fun _ => ⟨ok_all xs, ok_all ys⟩⟩
  · have e : (fun g : sam_G => sam_R g.1 g.2.1 g.2.2.1 g.2.2.2) = saF eS.dflt eqS := funext sam_RF
    rw [e]
    exact sa_goes _ _
noncomputable def lt20 : LTab Try.prog := (LTab.nil.cons 64 2 (idx_C fiI fiM) idx_ok).cons 42 4 (sam_C saI saM) sam_ok
noncomputable abbrev lam20 : Lam := lt20.lam
theorem lam20_ok : ∀ f k L, lam20 f k = some L → ∀ b ∈ loopsOf Try.prog f, lkey b = k → LoopOk Try.prog b L.g := lt20.ok
abbrev aLE : DA (List S × S) := .cons dLS (.one (dFnE 53 eS))
abbrev aLL : DA (List S × List S) := .cons dLS (.one dLS)
end Go.Proofs.Ytapmlfklkfgmoaa

/- Chapter 2: Compact, the inner loop. Printed by treegen.py. -/
namespace Go.Proofs.Ytapmlfklkfgmoaa
open Go.RowKit Go.Sx
set_option maxRecDepth 100000
set_option linter.unusedVariables false
abbrev N2 : Type := Nat × Nat
abbrev cp2_G : Type := Nat × List S × Int × N2 × Int
def cp2_LP : LP 1 cp2_G := .pair (.owl 1 0 0) (.pair (.rowO 1 0 24 eS) (.pair (.slot 1 3 dI) (.pair (.seS 1 4 0 eS.sz) (.slot 1 5 dI))))
noncomputable def cp2_R (l : Nat) (xs : List S) (k : Int) (q : N2) (j : Int) : Ex × cp2_G :=
  bif decide (j < (↑q.snd : Int)) then
    (Ex.normal, l,
      bif
          !conj
              ([(xs.getD (q.fst + j.toNat) eS.dflt).f ==
                    (xs.getD (q.fst + (IntKind.i64.wrap (j - (1 : Int))).toNat) eS.dflt).f] ++
                ([(xs.getD (q.fst + j.toNat) eS.dflt).k ==
                      (xs.getD (q.fst + (IntKind.i64.wrap (j - (1 : Int))).toNat) eS.dflt).k] ++
                  ([(xs.getD (q.fst + j.toNat) eS.dflt).a ==
                        (xs.getD (q.fst + (IntKind.i64.wrap (j - (1 : Int))).toNat) eS.dflt).a] ++
                    ([(xs.getD (q.fst + j.toNat) eS.dflt).n ==
                          (xs.getD (q.fst + (IntKind.i64.wrap (j - (1 : Int))).toNat) eS.dflt).n] ++
                      ([(xs.getD (q.fst + j.toNat) eS.dflt).p0 ==
                              (xs.getD (q.fst + (IntKind.i64.wrap (j - (1 : Int))).toNat) eS.dflt).p0] ++
                          ([(xs.getD (q.fst + j.toNat) eS.dflt).p1 ==
                                (xs.getD (q.fst + (IntKind.i64.wrap (j - (1 : Int))).toNat) eS.dflt).p1] ++
                            ([(xs.getD (q.fst + j.toNat) eS.dflt).p2 ==
                                  (xs.getD (q.fst + (IntKind.i64.wrap (j - (1 : Int))).toNat) eS.dflt).p2] ++
                              ([(xs.getD (q.fst + j.toNat) eS.dflt).p3 ==
                                    (xs.getD (q.fst + (IntKind.i64.wrap (j - (1 : Int))).toNat) eS.dflt).p3] ++
                                []))) ++
                        []))))) then
        (eS.lst
              (bif
                  !conj
                      ([(xs.getD (q.fst + j.toNat) eS.dflt).f ==
                            (xs.getD (q.fst + (IntKind.i64.wrap (j - (1 : Int))).toNat) eS.dflt).f] ++
                        ([(xs.getD (q.fst + j.toNat) eS.dflt).k ==
                              (xs.getD (q.fst + (IntKind.i64.wrap (j - (1 : Int))).toNat) eS.dflt).k] ++
                          ([(xs.getD (q.fst + j.toNat) eS.dflt).a ==
                                (xs.getD (q.fst + (IntKind.i64.wrap (j - (1 : Int))).toNat) eS.dflt).a] ++
                            ([(xs.getD (q.fst + j.toNat) eS.dflt).n ==
                                  (xs.getD (q.fst + (IntKind.i64.wrap (j - (1 : Int))).toNat) eS.dflt).n] ++
                              ([(xs.getD (q.fst + j.toNat) eS.dflt).p0 ==
                                      (xs.getD (q.fst + (IntKind.i64.wrap (j - (1 : Int))).toNat) eS.dflt).p0] ++
                                  ([(xs.getD (q.fst + j.toNat) eS.dflt).p1 ==
                                        (xs.getD (q.fst + (IntKind.i64.wrap (j - (1 : Int))).toNat) eS.dflt).p1] ++
                                    ([(xs.getD (q.fst + j.toNat) eS.dflt).p2 ==
                                          (xs.getD (q.fst + (IntKind.i64.wrap (j - (1 : Int))).toNat) eS.dflt).p2] ++
                                      ([(xs.getD (q.fst + j.toNat) eS.dflt).p3 ==
                                            (xs.getD (q.fst + (IntKind.i64.wrap (j - (1 : Int))).toNat) eS.dflt).p3] ++
                                        []))) ++
                                []))))) then
                xs.length
              else xs.length)
              (eS.els xs)).set
          k.toNat (xs.getD (q.fst + j.toNat) eS.dflt)
      else
        eS.lst
          (bif
              !conj
                  ([(xs.getD (q.fst + j.toNat) eS.dflt).f ==
                        (xs.getD (q.fst + (IntKind.i64.wrap (j - (1 : Int))).toNat) eS.dflt).f] ++
                    ([(xs.getD (q.fst + j.toNat) eS.dflt).k ==
                          (xs.getD (q.fst + (IntKind.i64.wrap (j - (1 : Int))).toNat) eS.dflt).k] ++
                      ([(xs.getD (q.fst + j.toNat) eS.dflt).a ==
                            (xs.getD (q.fst + (IntKind.i64.wrap (j - (1 : Int))).toNat) eS.dflt).a] ++
                        ([(xs.getD (q.fst + j.toNat) eS.dflt).n ==
                              (xs.getD (q.fst + (IntKind.i64.wrap (j - (1 : Int))).toNat) eS.dflt).n] ++
                          ([(xs.getD (q.fst + j.toNat) eS.dflt).p0 ==
                                  (xs.getD (q.fst + (IntKind.i64.wrap (j - (1 : Int))).toNat) eS.dflt).p0] ++
                              ([(xs.getD (q.fst + j.toNat) eS.dflt).p1 ==
                                    (xs.getD (q.fst + (IntKind.i64.wrap (j - (1 : Int))).toNat) eS.dflt).p1] ++
                                ([(xs.getD (q.fst + j.toNat) eS.dflt).p2 ==
                                      (xs.getD (q.fst + (IntKind.i64.wrap (j - (1 : Int))).toNat) eS.dflt).p2] ++
                                  ([(xs.getD (q.fst + j.toNat) eS.dflt).p3 ==
                                        (xs.getD (q.fst + (IntKind.i64.wrap (j - (1 : Int))).toNat) eS.dflt).p3] ++
                                    []))) ++
                            []))))) then
            xs.length
          else xs.length)
          (eS.els xs),
      bif
          !conj
              ([(xs.getD (q.fst + j.toNat) eS.dflt).f ==
                    (xs.getD (q.fst + (IntKind.i64.wrap (j - (1 : Int))).toNat) eS.dflt).f] ++
                ([(xs.getD (q.fst + j.toNat) eS.dflt).k ==
                      (xs.getD (q.fst + (IntKind.i64.wrap (j - (1 : Int))).toNat) eS.dflt).k] ++
                  ([(xs.getD (q.fst + j.toNat) eS.dflt).a ==
                        (xs.getD (q.fst + (IntKind.i64.wrap (j - (1 : Int))).toNat) eS.dflt).a] ++
                    ([(xs.getD (q.fst + j.toNat) eS.dflt).n ==
                          (xs.getD (q.fst + (IntKind.i64.wrap (j - (1 : Int))).toNat) eS.dflt).n] ++
                      ([(xs.getD (q.fst + j.toNat) eS.dflt).p0 ==
                              (xs.getD (q.fst + (IntKind.i64.wrap (j - (1 : Int))).toNat) eS.dflt).p0] ++
                          ([(xs.getD (q.fst + j.toNat) eS.dflt).p1 ==
                                (xs.getD (q.fst + (IntKind.i64.wrap (j - (1 : Int))).toNat) eS.dflt).p1] ++
                            ([(xs.getD (q.fst + j.toNat) eS.dflt).p2 ==
                                  (xs.getD (q.fst + (IntKind.i64.wrap (j - (1 : Int))).toNat) eS.dflt).p2] ++
                              ([(xs.getD (q.fst + j.toNat) eS.dflt).p3 ==
                                    (xs.getD (q.fst + (IntKind.i64.wrap (j - (1 : Int))).toNat) eS.dflt).p3] ++
                                []))) ++
                        []))))) then
        IntKind.i64.wrap (k + (1 : Int))
      else k,
      q, IntKind.i64.wrap (j + (1 : Int)))
  else (Ex.exit (2 : Nat), l, eS.lst xs.length (eS.els xs), k, q, j)
def cp2_side (l : Nat) (xs : List S) (k : Int) (q : N2) (j : Int) : Prop :=
  (decide (j < (↑q.snd : Int)) = true →
      ((0 : Int) ≤ j ∧ j < (↑q.snd : Int)) ∧
        q.fst + j.toNat < xs.length ∧
          ((0 : Int) ≤ IntKind.i64.wrap (j - (1 : Int)) ∧ IntKind.i64.wrap (j - (1 : Int)) < (↑q.snd : Int)) ∧
            q.fst + (IntKind.i64.wrap (j - (1 : Int))).toNat < xs.length ∧
              ((!conj
                        ([((l, xs, k, q, j).snd.fst.getD
                                    ((l, xs, k, q, j).snd.snd.snd.fst.fst + (l, xs, k, q, j).snd.snd.snd.snd.toNat)
                                    eS.dflt).toP.fst ==
                              ((l, xs, k, q, j).snd.fst.getD
                                    ((l, xs, k, q, j).snd.snd.snd.fst.fst +
                                      (IntKind.i64.wrap ((l, xs, k, q, j).snd.snd.snd.snd - (1 : Int))).toNat)
                                    eS.dflt).toP.fst] ++
                          ([((l, xs, k, q, j).snd.fst.getD
                                        ((l, xs, k, q, j).snd.snd.snd.fst.fst + (l, xs, k, q, j).snd.snd.snd.snd.toNat)
                                        eS.dflt).toP.snd.fst ==
                                ((l, xs, k, q, j).snd.fst.getD
                                        ((l, xs, k, q, j).snd.snd.snd.fst.fst +
                                          (IntKind.i64.wrap ((l, xs, k, q, j).snd.snd.snd.snd - (1 : Int))).toNat)
                                        eS.dflt).toP.snd.fst] ++
                            ([((l, xs, k, q, j).snd.fst.getD
                                            ((l, xs, k, q, j).snd.snd.snd.fst.fst +
                                              (l, xs, k, q, j).snd.snd.snd.snd.toNat)
                                            eS.dflt).toP.snd.snd.fst ==
                                  ((l, xs, k, q, j).snd.fst.getD
                                            ((l, xs, k, q, j).snd.snd.snd.fst.fst +
                                              (IntKind.i64.wrap ((l, xs, k, q, j).snd.snd.snd.snd - (1 : Int))).toNat)
                                            eS.dflt).toP.snd.snd.fst] ++
                              ([((l, xs, k, q, j).snd.fst.getD
                                                ((l, xs, k, q, j).snd.snd.snd.fst.fst +
                                                  (l, xs, k, q, j).snd.snd.snd.snd.toNat)
                                                eS.dflt).toP.snd.snd.snd.fst ==
                                    ((l, xs, k, q, j).snd.fst.getD
                                                ((l, xs, k, q, j).snd.snd.snd.fst.fst +
                                                  (IntKind.i64.wrap ((l, xs, k, q, j).snd.snd.snd.snd - (1 : Int))).toNat)
                                                eS.dflt).toP.snd.snd.snd.fst] ++
                                ([((l, xs, k, q, j).snd.fst.getD
                                                      ((l, xs, k, q, j).snd.snd.snd.fst.fst +
                                                        (l, xs, k, q, j).snd.snd.snd.snd.toNat)
                                                      eS.dflt).toP.snd.snd.snd.snd.fst ==
                                        ((l, xs, k, q, j).snd.fst.getD
                                                      ((l, xs, k, q, j).snd.snd.snd.fst.fst +
                                                        (IntKind.i64.wrap
                                                            ((l, xs, k, q, j).snd.snd.snd.snd - (1 : Int))).toNat)
                                                      eS.dflt).toP.snd.snd.snd.snd.fst] ++
                                    ([((l, xs, k, q, j).snd.fst.getD
                                                          ((l, xs, k, q, j).snd.snd.snd.fst.fst +
                                                            (l, xs, k, q, j).snd.snd.snd.snd.toNat)
                                                          eS.dflt).toP.snd.snd.snd.snd.snd.fst ==
                                          ((l, xs, k, q, j).snd.fst.getD
                                                          ((l, xs, k, q, j).snd.snd.snd.fst.fst +
                                                            (IntKind.i64.wrap
                                                                ((l, xs, k, q, j).snd.snd.snd.snd - (1 : Int))).toNat)
                                                          eS.dflt).toP.snd.snd.snd.snd.snd.fst] ++
                                      ([((l, xs, k, q, j).snd.fst.getD
                                                              ((l, xs, k, q, j).snd.snd.snd.fst.fst +
                                                                (l, xs, k, q, j).snd.snd.snd.snd.toNat)
                                                              eS.dflt).toP.snd.snd.snd.snd.snd.snd.fst ==
                                            ((l, xs, k, q, j).snd.fst.getD
                                                              ((l, xs, k, q, j).snd.snd.snd.fst.fst +
                                                                (IntKind.i64.wrap
                                                                    ((l, xs, k, q, j).snd.snd.snd.snd - (1 : Int))).toNat)
                                                              eS.dflt).toP.snd.snd.snd.snd.snd.snd.fst] ++
                                        ([((l, xs, k, q, j).snd.fst.getD
                                                                ((l, xs, k, q, j).snd.snd.snd.fst.fst +
                                                                  (l, xs, k, q, j).snd.snd.snd.snd.toNat)
                                                                eS.dflt).toP.snd.snd.snd.snd.snd.snd.snd ==
                                              ((l, xs, k, q, j).snd.fst.getD
                                                                ((l, xs, k, q, j).snd.snd.snd.fst.fst +
                                                                  (IntKind.i64.wrap
                                                                      ((l, xs, k, q, j).snd.snd.snd.snd -
                                                                        (1 : Int))).toNat)
                                                                eS.dflt).toP.snd.snd.snd.snd.snd.snd.snd] ++
                                          []))) ++
                                  [])))))) =
                    true →
                  (0 : Int) ≤ j ∧ j < (↑q.snd : Int)) ∧
                ((!conj
                          ([((l, xs, k, q, j).snd.fst.getD
                                      ((l, xs, k, q, j).snd.snd.snd.fst.fst + (l, xs, k, q, j).snd.snd.snd.snd.toNat)
                                      eS.dflt).toP.fst ==
                                ((l, xs, k, q, j).snd.fst.getD
                                      ((l, xs, k, q, j).snd.snd.snd.fst.fst +
                                        (IntKind.i64.wrap ((l, xs, k, q, j).snd.snd.snd.snd - (1 : Int))).toNat)
                                      eS.dflt).toP.fst] ++
                            ([((l, xs, k, q, j).snd.fst.getD
                                          ((l, xs, k, q, j).snd.snd.snd.fst.fst + (l, xs, k, q, j).snd.snd.snd.snd.toNat)
                                          eS.dflt).toP.snd.fst ==
                                  ((l, xs, k, q, j).snd.fst.getD
                                          ((l, xs, k, q, j).snd.snd.snd.fst.fst +
                                            (IntKind.i64.wrap ((l, xs, k, q, j).snd.snd.snd.snd - (1 : Int))).toNat)
                                          eS.dflt).toP.snd.fst] ++
                              ([((l, xs, k, q, j).snd.fst.getD
                                              ((l, xs, k, q, j).snd.snd.snd.fst.fst +
                                                (l, xs, k, q, j).snd.snd.snd.snd.toNat)
                                              eS.dflt).toP.snd.snd.fst ==
                                    ((l, xs, k, q, j).snd.fst.getD
                                              ((l, xs, k, q, j).snd.snd.snd.fst.fst +
                                                (IntKind.i64.wrap ((l, xs, k, q, j).snd.snd.snd.snd - (1 : Int))).toNat)
                                              eS.dflt).toP.snd.snd.fst] ++
                                ([((l, xs, k, q, j).snd.fst.getD
                                                  ((l, xs, k, q, j).snd.snd.snd.fst.fst +
                                                    (l, xs, k, q, j).snd.snd.snd.snd.toNat)
                                                  eS.dflt).toP.snd.snd.snd.fst ==
                                      ((l, xs, k, q, j).snd.fst.getD
                                                  ((l, xs, k, q, j).snd.snd.snd.fst.fst +
                                                    (IntKind.i64.wrap
                                                        ((l, xs, k, q, j).snd.snd.snd.snd - (1 : Int))).toNat)
                                                  eS.dflt).toP.snd.snd.snd.fst] ++
                                  ([((l, xs, k, q, j).snd.fst.getD
                                                        ((l, xs, k, q, j).snd.snd.snd.fst.fst +
                                                          (l, xs, k, q, j).snd.snd.snd.snd.toNat)
                                                        eS.dflt).toP.snd.snd.snd.snd.fst ==
                                          ((l, xs, k, q, j).snd.fst.getD
                                                        ((l, xs, k, q, j).snd.snd.snd.fst.fst +
                                                          (IntKind.i64.wrap
                                                              ((l, xs, k, q, j).snd.snd.snd.snd - (1 : Int))).toNat)
                                                        eS.dflt).toP.snd.snd.snd.snd.fst] ++
                                      ([((l, xs, k, q, j).snd.fst.getD
                                                            ((l, xs, k, q, j).snd.snd.snd.fst.fst +
                                                              (l, xs, k, q, j).snd.snd.snd.snd.toNat)
                                                            eS.dflt).toP.snd.snd.snd.snd.snd.fst ==
                                            ((l, xs, k, q, j).snd.fst.getD
                                                            ((l, xs, k, q, j).snd.snd.snd.fst.fst +
                                                              (IntKind.i64.wrap
                                                                  ((l, xs, k, q, j).snd.snd.snd.snd - (1 : Int))).toNat)
                                                            eS.dflt).toP.snd.snd.snd.snd.snd.fst] ++
                                        ([((l, xs, k, q, j).snd.fst.getD
                                                                ((l, xs, k, q, j).snd.snd.snd.fst.fst +
                                                                  (l, xs, k, q, j).snd.snd.snd.snd.toNat)
                                                                eS.dflt).toP.snd.snd.snd.snd.snd.snd.fst ==
                                              ((l, xs, k, q, j).snd.fst.getD
                                                                ((l, xs, k, q, j).snd.snd.snd.fst.fst +
                                                                  (IntKind.i64.wrap
                                                                      ((l, xs, k, q, j).snd.snd.snd.snd -
                                                                        (1 : Int))).toNat)
                                                                eS.dflt).toP.snd.snd.snd.snd.snd.snd.fst] ++
                                          ([((l, xs, k, q, j).snd.fst.getD
                                                                  ((l, xs, k, q, j).snd.snd.snd.fst.fst +
                                                                    (l, xs, k, q, j).snd.snd.snd.snd.toNat)
                                                                  eS.dflt).toP.snd.snd.snd.snd.snd.snd.snd ==
                                                ((l, xs, k, q, j).snd.fst.getD
                                                                  ((l, xs, k, q, j).snd.snd.snd.fst.fst +
                                                                    (IntKind.i64.wrap
                                                                        ((l, xs, k, q, j).snd.snd.snd.snd -
                                                                          (1 : Int))).toNat)
                                                                  eS.dflt).toP.snd.snd.snd.snd.snd.snd.snd] ++
                                            []))) ++
                                    [])))))) =
                      true →
                    q.fst + j.toNat < xs.length) ∧
                  ((!conj
                            ([((l, xs, k, q, j).snd.fst.getD
                                        ((l, xs, k, q, j).snd.snd.snd.fst.fst + (l, xs, k, q, j).snd.snd.snd.snd.toNat)
                                        eS.dflt).toP.fst ==
                                  ((l, xs, k, q, j).snd.fst.getD
                                        ((l, xs, k, q, j).snd.snd.snd.fst.fst +
                                          (IntKind.i64.wrap ((l, xs, k, q, j).snd.snd.snd.snd - (1 : Int))).toNat)
                                        eS.dflt).toP.fst] ++
                              ([((l, xs, k, q, j).snd.fst.getD
                                            ((l, xs, k, q, j).snd.snd.snd.fst.fst +
                                              (l, xs, k, q, j).snd.snd.snd.snd.toNat)
                                            eS.dflt).toP.snd.fst ==
                                    ((l, xs, k, q, j).snd.fst.getD
                                            ((l, xs, k, q, j).snd.snd.snd.fst.fst +
                                              (IntKind.i64.wrap ((l, xs, k, q, j).snd.snd.snd.snd - (1 : Int))).toNat)
                                            eS.dflt).toP.snd.fst] ++
                                ([((l, xs, k, q, j).snd.fst.getD
                                                ((l, xs, k, q, j).snd.snd.snd.fst.fst +
                                                  (l, xs, k, q, j).snd.snd.snd.snd.toNat)
                                                eS.dflt).toP.snd.snd.fst ==
                                      ((l, xs, k, q, j).snd.fst.getD
                                                ((l, xs, k, q, j).snd.snd.snd.fst.fst +
                                                  (IntKind.i64.wrap ((l, xs, k, q, j).snd.snd.snd.snd - (1 : Int))).toNat)
                                                eS.dflt).toP.snd.snd.fst] ++
                                  ([((l, xs, k, q, j).snd.fst.getD
                                                    ((l, xs, k, q, j).snd.snd.snd.fst.fst +
                                                      (l, xs, k, q, j).snd.snd.snd.snd.toNat)
                                                    eS.dflt).toP.snd.snd.snd.fst ==
                                        ((l, xs, k, q, j).snd.fst.getD
                                                    ((l, xs, k, q, j).snd.snd.snd.fst.fst +
                                                      (IntKind.i64.wrap
                                                          ((l, xs, k, q, j).snd.snd.snd.snd - (1 : Int))).toNat)
                                                    eS.dflt).toP.snd.snd.snd.fst] ++
                                    ([((l, xs, k, q, j).snd.fst.getD
                                                          ((l, xs, k, q, j).snd.snd.snd.fst.fst +
                                                            (l, xs, k, q, j).snd.snd.snd.snd.toNat)
                                                          eS.dflt).toP.snd.snd.snd.snd.fst ==
                                            ((l, xs, k, q, j).snd.fst.getD
                                                          ((l, xs, k, q, j).snd.snd.snd.fst.fst +
                                                            (IntKind.i64.wrap
                                                                ((l, xs, k, q, j).snd.snd.snd.snd - (1 : Int))).toNat)
                                                          eS.dflt).toP.snd.snd.snd.snd.fst] ++
                                        ([((l, xs, k, q, j).snd.fst.getD
                                                              ((l, xs, k, q, j).snd.snd.snd.fst.fst +
                                                                (l, xs, k, q, j).snd.snd.snd.snd.toNat)
                                                              eS.dflt).toP.snd.snd.snd.snd.snd.fst ==
                                              ((l, xs, k, q, j).snd.fst.getD
                                                              ((l, xs, k, q, j).snd.snd.snd.fst.fst +
                                                                (IntKind.i64.wrap
                                                                    ((l, xs, k, q, j).snd.snd.snd.snd - (1 : Int))).toNat)
                                                              eS.dflt).toP.snd.snd.snd.snd.snd.fst] ++
                                          ([((l, xs, k, q, j).snd.fst.getD
                                                                  ((l, xs, k, q, j).snd.snd.snd.fst.fst +
                                                                    (l, xs, k, q, j).snd.snd.snd.snd.toNat)
                                                                  eS.dflt).toP.snd.snd.snd.snd.snd.snd.fst ==
                                                ((l, xs, k, q, j).snd.fst.getD
                                                                  ((l, xs, k, q, j).snd.snd.snd.fst.fst +
                                                                    (IntKind.i64.wrap
                                                                        ((l, xs, k, q, j).snd.snd.snd.snd -
                                                                          (1 : Int))).toNat)
                                                                  eS.dflt).toP.snd.snd.snd.snd.snd.snd.fst] ++
                                            ([((l, xs, k, q, j).snd.fst.getD
                                                                    ((l, xs, k, q, j).snd.snd.snd.fst.fst +
                                                                      (l, xs, k, q, j).snd.snd.snd.snd.toNat)
                                                                    eS.dflt).toP.snd.snd.snd.snd.snd.snd.snd ==
                                                  ((l, xs, k, q, j).snd.fst.getD
                                                                    ((l, xs, k, q, j).snd.snd.snd.fst.fst +
                                                                      (IntKind.i64.wrap
                                                                          ((l, xs, k, q, j).snd.snd.snd.snd -
                                                                            (1 : Int))).toNat)
                                                                    eS.dflt).toP.snd.snd.snd.snd.snd.snd.snd] ++
                                              []))) ++
                                      [])))))) =
                        true →
                      (0 : Int) ≤ k ∧ k < (↑l : Int)) ∧
                    ((!conj
                              ([((l, xs, k, q, j).snd.fst.getD
                                          ((l, xs, k, q, j).snd.snd.snd.fst.fst + (l, xs, k, q, j).snd.snd.snd.snd.toNat)
                                          eS.dflt).toP.fst ==
                                    ((l, xs, k, q, j).snd.fst.getD
                                          ((l, xs, k, q, j).snd.snd.snd.fst.fst +
                                            (IntKind.i64.wrap ((l, xs, k, q, j).snd.snd.snd.snd - (1 : Int))).toNat)
                                          eS.dflt).toP.fst] ++
                                ([((l, xs, k, q, j).snd.fst.getD
                                              ((l, xs, k, q, j).snd.snd.snd.fst.fst +
                                                (l, xs, k, q, j).snd.snd.snd.snd.toNat)
                                              eS.dflt).toP.snd.fst ==
                                      ((l, xs, k, q, j).snd.fst.getD
                                              ((l, xs, k, q, j).snd.snd.snd.fst.fst +
                                                (IntKind.i64.wrap ((l, xs, k, q, j).snd.snd.snd.snd - (1 : Int))).toNat)
                                              eS.dflt).toP.snd.fst] ++
                                  ([((l, xs, k, q, j).snd.fst.getD
                                                  ((l, xs, k, q, j).snd.snd.snd.fst.fst +
                                                    (l, xs, k, q, j).snd.snd.snd.snd.toNat)
                                                  eS.dflt).toP.snd.snd.fst ==
                                        ((l, xs, k, q, j).snd.fst.getD
                                                  ((l, xs, k, q, j).snd.snd.snd.fst.fst +
                                                    (IntKind.i64.wrap
                                                        ((l, xs, k, q, j).snd.snd.snd.snd - (1 : Int))).toNat)
                                                  eS.dflt).toP.snd.snd.fst] ++
                                    ([((l, xs, k, q, j).snd.fst.getD
                                                      ((l, xs, k, q, j).snd.snd.snd.fst.fst +
                                                        (l, xs, k, q, j).snd.snd.snd.snd.toNat)
                                                      eS.dflt).toP.snd.snd.snd.fst ==
                                          ((l, xs, k, q, j).snd.fst.getD
                                                      ((l, xs, k, q, j).snd.snd.snd.fst.fst +
                                                        (IntKind.i64.wrap
                                                            ((l, xs, k, q, j).snd.snd.snd.snd - (1 : Int))).toNat)
                                                      eS.dflt).toP.snd.snd.snd.fst] ++
                                      ([((l, xs, k, q, j).snd.fst.getD
                                                            ((l, xs, k, q, j).snd.snd.snd.fst.fst +
                                                              (l, xs, k, q, j).snd.snd.snd.snd.toNat)
                                                            eS.dflt).toP.snd.snd.snd.snd.fst ==
                                              ((l, xs, k, q, j).snd.fst.getD
                                                            ((l, xs, k, q, j).snd.snd.snd.fst.fst +
                                                              (IntKind.i64.wrap
                                                                  ((l, xs, k, q, j).snd.snd.snd.snd - (1 : Int))).toNat)
                                                            eS.dflt).toP.snd.snd.snd.snd.fst] ++
                                          ([((l, xs, k, q, j).snd.fst.getD
                                                                ((l, xs, k, q, j).snd.snd.snd.fst.fst +
                                                                  (l, xs, k, q, j).snd.snd.snd.snd.toNat)
                                                                eS.dflt).toP.snd.snd.snd.snd.snd.fst ==
                                                ((l, xs, k, q, j).snd.fst.getD
                                                                ((l, xs, k, q, j).snd.snd.snd.fst.fst +
                                                                  (IntKind.i64.wrap
                                                                      ((l, xs, k, q, j).snd.snd.snd.snd -
                                                                        (1 : Int))).toNat)
                                                                eS.dflt).toP.snd.snd.snd.snd.snd.fst] ++
                                            ([((l, xs, k, q, j).snd.fst.getD
                                                                    ((l, xs, k, q, j).snd.snd.snd.fst.fst +
                                                                      (l, xs, k, q, j).snd.snd.snd.snd.toNat)
                                                                    eS.dflt).toP.snd.snd.snd.snd.snd.snd.fst ==
                                                  ((l, xs, k, q, j).snd.fst.getD
                                                                    ((l, xs, k, q, j).snd.snd.snd.fst.fst +
                                                                      (IntKind.i64.wrap
                                                                          ((l, xs, k, q, j).snd.snd.snd.snd -
                                                                            (1 : Int))).toNat)
                                                                    eS.dflt).toP.snd.snd.snd.snd.snd.snd.fst] ++
                                              ([((l, xs, k, q, j).snd.fst.getD
                                                                      ((l, xs, k, q, j).snd.snd.snd.fst.fst +
                                                                        (l, xs, k, q, j).snd.snd.snd.snd.toNat)
                                                                      eS.dflt).toP.snd.snd.snd.snd.snd.snd.snd ==
                                                    ((l, xs, k, q, j).snd.fst.getD
                                                                      ((l, xs, k, q, j).snd.snd.snd.fst.fst +
                                                                        (IntKind.i64.wrap
                                                                            ((l, xs, k, q, j).snd.snd.snd.snd -
                                                                              (1 : Int))).toNat)
                                                                      eS.dflt).toP.snd.snd.snd.snd.snd.snd.snd] ++
                                                []))) ++
                                        [])))))) =
                          true →
                        k.toNat < xs.length) ∧
                      True ∧
                        (∀ (e : Nat),
                            (e <
                                bif
                                    !conj
                                        ([(xs.getD (q.fst + j.toNat) eS.dflt).f ==
                                              (xs.getD (q.fst + (IntKind.i64.wrap (j - (1 : Int))).toNat) eS.dflt).f] ++
                                          ([(xs.getD (q.fst + j.toNat) eS.dflt).k ==
                                                (xs.getD (q.fst + (IntKind.i64.wrap (j - (1 : Int))).toNat) eS.dflt).k] ++
                                            ([(xs.getD (q.fst + j.toNat) eS.dflt).a ==
                                                  (xs.getD (q.fst + (IntKind.i64.wrap (j - (1 : Int))).toNat)
                                                      eS.dflt).a] ++
                                              ([(xs.getD (q.fst + j.toNat) eS.dflt).n ==
                                                    (xs.getD (q.fst + (IntKind.i64.wrap (j - (1 : Int))).toNat)
                                                        eS.dflt).n] ++
                                                ([(xs.getD (q.fst + j.toNat) eS.dflt).p0 ==
                                                        (xs.getD (q.fst + (IntKind.i64.wrap (j - (1 : Int))).toNat)
                                                            eS.dflt).p0] ++
                                                    ([(xs.getD (q.fst + j.toNat) eS.dflt).p1 ==
                                                          (xs.getD (q.fst + (IntKind.i64.wrap (j - (1 : Int))).toNat)
                                                              eS.dflt).p1] ++
                                                      ([(xs.getD (q.fst + j.toNat) eS.dflt).p2 ==
                                                            (xs.getD (q.fst + (IntKind.i64.wrap (j - (1 : Int))).toNat)
                                                                eS.dflt).p2] ++
                                                        ([(xs.getD (q.fst + j.toNat) eS.dflt).p3 ==
                                                              (xs.getD (q.fst + (IntKind.i64.wrap (j - (1 : Int))).toNat)
                                                                  eS.dflt).p3] ++
                                                          []))) ++
                                                  []))))) then
                                  xs.length
                                else xs.length) →
                              True) ∧
                          ∀ (e : Nat),
                            (e <
                                bif
                                    !conj
                                        ([(xs.getD (q.fst + j.toNat) eS.dflt).f ==
                                              (xs.getD (q.fst + (IntKind.i64.wrap (j - (1 : Int))).toNat) eS.dflt).f] ++
                                          ([(xs.getD (q.fst + j.toNat) eS.dflt).k ==
                                                (xs.getD (q.fst + (IntKind.i64.wrap (j - (1 : Int))).toNat) eS.dflt).k] ++
                                            ([(xs.getD (q.fst + j.toNat) eS.dflt).a ==
                                                  (xs.getD (q.fst + (IntKind.i64.wrap (j - (1 : Int))).toNat)
                                                      eS.dflt).a] ++
                                              ([(xs.getD (q.fst + j.toNat) eS.dflt).n ==
                                                    (xs.getD (q.fst + (IntKind.i64.wrap (j - (1 : Int))).toNat)
                                                        eS.dflt).n] ++
                                                ([(xs.getD (q.fst + j.toNat) eS.dflt).p0 ==
                                                        (xs.getD (q.fst + (IntKind.i64.wrap (j - (1 : Int))).toNat)
                                                            eS.dflt).p0] ++
                                                    ([(xs.getD (q.fst + j.toNat) eS.dflt).p1 ==
                                                          (xs.getD (q.fst + (IntKind.i64.wrap (j - (1 : Int))).toNat)
                                                              eS.dflt).p1] ++
                                                      ([(xs.getD (q.fst + j.toNat) eS.dflt).p2 ==
                                                            (xs.getD (q.fst + (IntKind.i64.wrap (j - (1 : Int))).toNat)
                                                                eS.dflt).p2] ++
                                                        ([(xs.getD (q.fst + j.toNat) eS.dflt).p3 ==
                                                              (xs.getD (q.fst + (IntKind.i64.wrap (j - (1 : Int))).toNat)
                                                                  eS.dflt).p3] ++
                                                          []))) ++
                                                  []))))) then
                                  xs.length
                                else xs.length) →
                              True) ∧
    (decide (j < (↑q.snd : Int)) = false → ∀ (e : Nat), e < xs.length → True)
theorem cp2_one : ((loopsOf Try.prog 56).filter fun c => Nat.beq (lkey c) 9).length = 1 := by kernel_rfl
theorem cp2_es (g : cp2_G) : (cp2_R g.1 g.2.1 g.2.2.1 g.2.2.2.1 g.2.2.2.2).1 = .normal ∨ (cp2_R g.1 g.2.1 g.2.2.1 g.2.2.2.1 g.2.2.2.2).1 ∈ ([.exit 2] : List Ex) := by
  unfold cp2_R
  repeat' (first | (left; rfl) | (right; simp only [cond_true, cond_false]; simp; done) | (rw [Bool.cond_eq_ite]; split))
noncomputable abbrev cp2_C (Inv : cp2_G → List Prop) (m : cp2_G → Nat) : LCon := loopR [.exit 2] (loopBody Try.prog 56 9) cp2_LP [] 61 Inv (fun g => cp2_R g.1 g.2.1 g.2.2.1 g.2.2.2.1 g.2.2.2.2) m
theorem cp2_loop (Inv : cp2_G → List Prop) (m : cp2_G → Nat) (hs : ∀ g, allP (Inv g) → cp2_side g.1 g.2.1 g.2.2.1 g.2.2.2.1 g.2.2.2.2) (hg : Goes (fun g : cp2_G => cp2_R g.1 g.2.1 g.2.2.1 g.2.2.2.1 g.2.2.2.2) m fun g => allP (Inv g)) : ∀ b ∈ loopsOf Try.prog 56, lkey b = 9 → LoopOk Try.prog b (cp2_C Inv m).g := loop_run (Γ := (MTab.gamz (MTab.of tab15) [] [])) (Λ := noΛ) (MTab.okz (MTab.of tab15) [] []) noΛ_ok 100 56 9 61 cp2_LP [] Inv (fun g => cp2_R g.1 g.2.1 g.2.2.1 g.2.2.2.1 g.2.2.2.2) (fun g => cp2_side g.1 g.2.1 g.2.2.1 g.2.2.2.1 g.2.2.2.2) m default [.exit 2] cp2_one (fun rd T B HL HB ds g => by kernel_rfl) (fun rd T B HL HB ds g => by kernel_rfl) hs hg cp2_es
def tab18 : MTab Try.prog := (MTab.of tab15)
end Go.Proofs.Ytapmlfklkfgmoaa

/- The loops of slices.Compact, and what they come to. -/
namespace Go.Lp
open Go.Sx
section
variable {α : Type} [DecidableEq α]
/-- Of equal ones that stand side by side the first, behind one. -/
def dd (p : α) : List α → List α
  | [] => []
  | y :: r => if y = p then dd p r else y :: dd y r
def compL : List α → List α
  | [] => []
  | x :: r => x :: dd x r
abbrev CpG (α : Type) := Nat × List α × Int × (Nat × Nat) × Int
def cpF (d : α) (g : CpG α) : Ex × CpG α :=
  bif decide (g.2.2.2.2 < (g.2.2.2.1.2 : Int)) then
    (.normal, g.1,
      (bif !decide (g.2.1.getD (g.2.2.2.1.1 + g.2.2.2.2.toNat) d = g.2.1.getD (g.2.2.2.1.1 + (w64 (g.2.2.2.2 - 1)).toNat) d) then g.2.1.set g.2.2.1.toNat (g.2.1.getD (g.2.2.2.1.1 + g.2.2.2.2.toNat) d) else g.2.1),
      (bif !decide (g.2.1.getD (g.2.2.2.1.1 + g.2.2.2.2.toNat) d = g.2.1.getD (g.2.2.2.1.1 + (w64 (g.2.2.2.2 - 1)).toNat) d) then w64 (g.2.2.1 + 1) else g.2.2.1),
      g.2.2.2.1, w64 (g.2.2.2.2 + 1))
  else (.exit 2, g)
def cpI (g : CpG α) : List Prop := [g.1 = g.2.1.length ∧ g.2.1.length ≤ maxLen ∧ g.2.2.2.1.1 + g.2.2.2.1.2 = g.2.1.length ∧ 1 ≤ g.2.2.2.2 ∧ g.2.2.2.2 ≤ (g.2.2.2.1.2 : Int) ∧ 0 ≤ g.2.2.1 ∧ g.2.2.1 ≤ (g.2.2.2.1.1 : Int) + g.2.2.2.2 - 1]
def cpM (g : CpG α) : Nat := ((g.2.2.2.1.2 : Int) - g.2.2.2.2).toNat
theorem cp_goes (d : α) : Goes (cpF d) cpM fun g => allP (cpI g) := by
  rintro ⟨l, xs, k, ⟨o, n⟩, j⟩ hi hn
  obtain ⟨h1, h2, h3, h4, h5, h6, h7⟩ := hi _ (List.mem_cons_self ..)
  simp only at h1 h2 h3 h4 h5 h6 h7
  unfold maxLen at h2
  unfold cpF at hn ⊢
  simp only at hn ⊢
  by_cases hlt : j < (n : Int)
  · simp only [hlt, decide_true, cond_true] at hn ⊢
    rw [wr (n := j + 1) (by omega), wr (n := k + 1) (by omega)]
    generalize (!decide (xs.getD (o + j.toNat) d = xs.getD (o + (w64 (j - 1)).toNat) d)) = c
    refine ⟨fun q hq => ?_, ?_⟩
    · simp only [cpI, List.mem_singleton] at hq
      subst hq
      have hl : (bif c then xs.set k.toNat (xs.getD (o + j.toNat) d) else xs).length = xs.length := by cases c <;> simp
      simp only [hl]
      cases c
      · exact ⟨h1, by unfold maxLen; omega, h3, by omega, by omega, by simp only [cond_false]; omega, by simp only [cond_false]; omega⟩
      · exact ⟨h1, by unfold maxLen; omega, h3, by omega, by omega, by simp only [cond_true]; omega, by simp only [cond_true]; omega⟩
    · simp only [cpM]; omega
  · simp only [hlt, decide_false, cond_false] at hn
    cases hn
theorem cp_run (d : α) : ∀ g : CpG α, allP (cpI g) →
    (loopF (cpF d) cpM g).1 = .exit 2 ∧ (loopF (cpF d) cpM g).2.1 = g.1 ∧ (loopF (cpF d) cpM g).2.2.1.length = g.2.1.length ∧ 0 ≤ (loopF (cpF d) cpM g).2.2.2.1 ∧ (loopF (cpF d) cpM g).2.2.2.1 < (g.2.1.length : Int) ∧
      (loopF (cpF d) cpM g).2.2.1.take (loopF (cpF d) cpM g).2.2.2.1.toNat = g.2.1.take g.2.2.1.toNat ++ dd (g.2.1.getD (g.2.2.2.1.1 + g.2.2.2.2.toNat - 1) d) (g.2.1.drop (g.2.2.2.1.1 + g.2.2.2.2.toNat)) := by
  refine loopF_induct (cp_goes d) (Q := fun g r => r.1 = .exit 2 ∧ r.2.1 = g.1 ∧ r.2.2.1.length = g.2.1.length ∧ 0 ≤ r.2.2.2.1 ∧ r.2.2.2.1 < (g.2.1.length : Int) ∧
      r.2.2.1.take r.2.2.2.1.toNat = g.2.1.take g.2.2.1.toNat ++ dd (g.2.1.getD (g.2.2.2.1.1 + g.2.2.2.2.toNat - 1) d) (g.2.1.drop (g.2.2.2.1.1 + g.2.2.2.2.toNat))) ?_ ?_
  · rintro ⟨l, xs, k, ⟨o, n⟩, j⟩ hi hn
    obtain ⟨h1, h2, h3, h4, h5, h6, h7⟩ := hi _ (List.mem_cons_self ..)
    simp only at h1 h2 h3 h4 h5 h6 h7
    unfold cpF at hn ⊢
    simp only at hn ⊢
    by_cases hlt : j < (n : Int)
    · simp only [hlt, decide_true, cond_true] at hn
      exact absurd rfl hn
    · simp only [hlt, decide_false, cond_false]
      refine ⟨trivial, trivial, trivial, h6, by omega, ?_⟩
      rw [List.drop_eq_nil_of_le (by omega)]
      simp [dd]
  · rintro ⟨l, xs, k, ⟨o, n⟩, j⟩ g' r hi he hi' _ hq
    obtain ⟨h1, h2, h3, h4, h5, h6, h7⟩ := hi _ (List.mem_cons_self ..)
    simp only at h1 h2 h3 h4 h5 h6 h7
    unfold maxLen at h2
    unfold cpF at he
    simp only at he
    by_cases hlt : j < (n : Int)
    · simp only [hlt, decide_true, cond_true, Prod.mk.injEq, true_and] at he
      subst he
      rw [wr (n := j + 1) (by omega), wr (n := k + 1) (by omega), wr (n := j - 1) (by omega)] at hq
      simp only at hq ⊢
      have hy : o + j.toNat < xs.length := by omega
      have e1 : o + (j - 1).toNat = o + j.toNat - 1 := by omega
      have e2 : o + (j + 1).toNat - 1 = o + j.toNat := by omega
      have e3 : o + (j + 1).toNat = o + j.toNat + 1 := by omega
      rw [e1, e2, e3] at hq
      have hd : xs.drop (o + j.toNat) = xs.getD (o + j.toNat) d :: xs.drop (o + j.toNat + 1) := by
        rw [List.drop_eq_getElem_cons hy]
        simp [List.getD_eq_getElem?_getD, hy]
      rw [hd]
      simp only [dd]
      by_cases hc : xs.getD (o + j.toNat) d = xs.getD (o + j.toNat - 1) d
      · simp only [hc, decide_true, Bool.not_true, cond_false] at hq
        rw [if_pos hc]
        exact hq
      · simp only [hc, decide_false, Bool.not_false, cond_true] at hq
        rw [if_neg hc]
        obtain ⟨q1, q2, q3, q4, q5, q6⟩ := hq
        simp only [List.length_set] at q3 q5
        refine ⟨q1, q2, q3, q4, q5, ?_⟩
        rw [q6]
        have hk : k.toNat < xs.length := by omega
        have e4 : (k + 1).toNat = k.toNat + 1 := by omega
        rw [e4]
        have e5 : (xs.set k.toNat (xs.getD (o + j.toNat) d)).take (k.toNat + 1) = xs.take k.toNat ++ [xs.getD (o + j.toNat) d] := by
          rw [List.take_add_one, List.take_set_of_le (Nat.le_refl _), List.getElem?_set_self hk]
          rfl
        have e6 : (xs.set k.toNat (xs.getD (o + j.toNat) d)).drop (o + j.toNat + 1) = xs.drop (o + j.toNat + 1) := by
          rw [List.drop_set_of_lt (by omega)]
        have e7 : (xs.set k.toNat (xs.getD (o + j.toNat) d)).getD (o + j.toNat) d = xs.getD (o + j.toNat) d := by
          simp only [List.getD_eq_getElem?_getD]
          by_cases h8 : k.toNat = o + j.toNat
          · omega
          · rw [List.getElem?_set_ne h8]
        rw [e5, e6, e7]
        simp
    · simp only [hlt, decide_false, cond_false] at he
      cases he
end
end Go.Lp

/- Chapter 2: Compact, the inner loop's contract. -/
namespace Go.Proofs.Ytapmlfklkfgmoaa
open Go.RowKit Go.Sx Go.Lp
theorem cp2_RF (g : cp2_G) : cp2_R g.1 g.2.1 g.2.2.1 g.2.2.2.1 g.2.2.2.2 = cpF eS.dflt g := by
  obtain ⟨l, xs, k, q, j⟩ := g
  show cp2_R l xs k q j = cpF eS.dflt (l, xs, k, q, j)
  unfold cp2_R cpF
  simp only [conj_S, eqS, Bool.cond_self, eS.lst_els]
theorem cp2_ok : ∀ b ∈ loopsOf Try.prog 56, lkey b = 9 → LoopOk Try.prog b (cp2_C cpI cpM).g := by
  refine cp2_loop cpI cpM (fun g hi => ?_) ?_
  · obtain ⟨l, xs, k, ⟨o, n⟩, j⟩ := g
    obtain ⟨h1, h2, h3, h4, h5, h6, h7⟩ := hi _ (List.mem_cons_self ..)
    simp only at h1 h2 h3 h4 h5 h6 h7
    unfold maxLen at h2
    show cp2_side l xs k (o, n) j
    unfold cp2_side
    simp only [conj_S]
    generalize (!eqS _ _) = c
    refine ⟨fun hc => ?_, fun _ _ _ => trivial⟩
    have hc : j < (n : Int) := of_decide_eq_true hc
    have w1 : IntKind.i64.wrap (j - 1) = j - 1 := Lp.wr (by omega)
    rw [w1]
    refine ⟨by omega, by omega, by omega, by omega, fun _ => by omega, fun _ => by omega, fun _ => by omega, fun _ => by omega, trivial, fun _ _ => trivial, fun _ _ => trivial⟩
  · have e : (fun g : cp2_G => cp2_R g.1 g.2.1 g.2.2.1 g.2.2.2.1 g.2.2.2.2) = cpF eS.dflt := funext cp2_RF
    rw [e]
    exact cp_goes _
noncomputable def lt22 : LTab Try.prog := LTab.nil.cons 56 9 (cp2_C cpI cpM) cp2_ok
noncomputable abbrev lam22 : Lam := lt22.lam
theorem lam22_ok : ∀ f k L, lam22 f k = some L → ∀ b ∈ loopsOf Try.prog f, lkey b = k → LoopOk Try.prog b L.g := lt22.ok

end Go.Proofs.Ytapmlfklkfgmoaa

/- Chapter 2: Compact, the outer loop. Printed by treegen.py. -/
namespace Go.Proofs.Ytapmlfklkfgmoaa
open Go.RowKit Go.Sx
set_option maxRecDepth 100000
set_option linter.unusedVariables false
abbrev BN : Type := Bool × Nat
noncomputable def cp1_q1 (l : Nat) (xs : List S) (k : Int) (r : BN) : Ex ×
  cp2_G :=
  loopF (fun g => cp2_R g.fst g.snd.fst g.snd.snd.fst g.snd.snd.snd.fst g.snd.snd.snd.snd) Lp.cpM
    (l, eS.lst xs.length (eS.els xs), k, (k.toNat, l - k.toNat), (1 : Int))
abbrev cp1_G : Type := Nat × List S × Int × BN
def cp1_LP : LP 1 cp1_G := .pair (.owl 1 0 0) (.pair (.rowO 1 0 24 eS) (.pair (.slot 1 3 dI) (.owB 1 2 0)))
noncomputable def cp1_R (l : Nat) (xs : List S) (k : Int) (r : BN) : Ex × cp1_G :=
  bif decide (k < (↑l : Int)) then
    bif
        conj
          ([(xs.getD k.toNat eS.dflt).f == (xs.getD (IntKind.i64.wrap (k - (1 : Int))).toNat eS.dflt).f] ++
            ([(xs.getD k.toNat eS.dflt).k == (xs.getD (IntKind.i64.wrap (k - (1 : Int))).toNat eS.dflt).k] ++
              ([(xs.getD k.toNat eS.dflt).a == (xs.getD (IntKind.i64.wrap (k - (1 : Int))).toNat eS.dflt).a] ++
                ([(xs.getD k.toNat eS.dflt).n == (xs.getD (IntKind.i64.wrap (k - (1 : Int))).toNat eS.dflt).n] ++
                  ([(xs.getD k.toNat eS.dflt).p0 == (xs.getD (IntKind.i64.wrap (k - (1 : Int))).toNat eS.dflt).p0] ++
                      ([(xs.getD k.toNat eS.dflt).p1 == (xs.getD (IntKind.i64.wrap (k - (1 : Int))).toNat eS.dflt).p1] ++
                        ([(xs.getD k.toNat eS.dflt).p2 ==
                              (xs.getD (IntKind.i64.wrap (k - (1 : Int))).toNat eS.dflt).p2] ++
                          ([(xs.getD k.toNat eS.dflt).p3 ==
                                (xs.getD (IntKind.i64.wrap (k - (1 : Int))).toNat eS.dflt).p3] ++
                            []))) ++
                    []))))) then
      (Ex.ret, (cp1_q1 l xs k r).snd.fst, eS.lst (cp1_q1 l xs k r).snd.snd.snd.fst.toNat (eS.els (cp1_q1 l xs k r).snd.snd.fst), (cp1_q1 l xs k r).snd.snd.snd.fst, true,
        (cp1_q1 l xs k r).snd.snd.snd.fst.toNat)
    else (Ex.normal, l, eS.lst xs.length (eS.els xs), IntKind.i64.wrap (k + (1 : Int)), r)
  else (Ex.exit (0 : Nat), l, eS.lst xs.length (eS.els xs), k, r)
def cp1_side (l : Nat) (xs : List S) (k : Int) (r : BN) : Prop :=
  (decide (k < (↑l : Int)) = true →
      ((0 : Int) ≤ k ∧ k < (↑l : Int)) ∧
        k.toNat < xs.length ∧
          ((0 : Int) ≤ IntKind.i64.wrap (k - (1 : Int)) ∧ IntKind.i64.wrap (k - (1 : Int)) < (↑l : Int)) ∧
            (IntKind.i64.wrap (k - (1 : Int))).toNat < xs.length ∧
              (conj
                      ([(xs.getD k.toNat eS.dflt).f == (xs.getD (IntKind.i64.wrap (k - (1 : Int))).toNat eS.dflt).f] ++
                        ([(xs.getD k.toNat eS.dflt).k == (xs.getD (IntKind.i64.wrap (k - (1 : Int))).toNat eS.dflt).k] ++
                          ([(xs.getD k.toNat eS.dflt).a ==
                                (xs.getD (IntKind.i64.wrap (k - (1 : Int))).toNat eS.dflt).a] ++
                            ([(xs.getD k.toNat eS.dflt).n ==
                                  (xs.getD (IntKind.i64.wrap (k - (1 : Int))).toNat eS.dflt).n] ++
                              ([(xs.getD k.toNat eS.dflt).p0 ==
                                      (xs.getD (IntKind.i64.wrap (k - (1 : Int))).toNat eS.dflt).p0] ++
                                  ([(xs.getD k.toNat eS.dflt).p1 ==
                                        (xs.getD (IntKind.i64.wrap (k - (1 : Int))).toNat eS.dflt).p1] ++
                                    ([(xs.getD k.toNat eS.dflt).p2 ==
                                          (xs.getD (IntKind.i64.wrap (k - (1 : Int))).toNat eS.dflt).p2] ++
                                      ([(xs.getD k.toNat eS.dflt).p3 ==
                                            (xs.getD (IntKind.i64.wrap (k - (1 : Int))).toNat eS.dflt).p3] ++
                                        []))) ++
                                []))))) =
                    true →
                  l ≤ l ∧
                    ((0 : Int) ≤ k ∧ k ≤ (↑l : Int)) ∧
                      (∀ (e : Nat), e < xs.length → True) ∧
                        (l = (eS.lst xs.length (eS.els xs)).length ∧
                            (eS.lst xs.length (eS.els xs)).length ≤ maxLen ∧
                              k.toNat + (l - k.toNat) = (eS.lst xs.length (eS.els xs)).length ∧
                                (1 : Int) ≤ (1 : Int) ∧
                                  (1 : Int) ≤ (↑(l - k.toNat) : Int) ∧
                                    (0 : Int) ≤ k ∧ k ≤ (↑k.toNat : Int) + (1 : Int) - (1 : Int)) ∧
                          (cp1_q1 l xs k r).snd.fst ≤ (cp1_q1 l xs k r).snd.fst ∧
                            ((0 : Int) ≤ (cp1_q1 l xs k r).snd.snd.snd.fst ∧ (cp1_q1 l xs k r).snd.snd.snd.fst ≤ (↑(cp1_q1 l xs k r).snd.fst : Int)) ∧
                              (cp1_q1 l xs k r).snd.snd.snd.fst.toNat + ((cp1_q1 l xs k r).snd.fst - (cp1_q1 l xs k r).snd.snd.snd.fst.toNat) =
                                  (cp1_q1 l xs k r).snd.snd.fst.length ∧
                                ((0 : Int) ≤ (cp1_q1 l xs k r).snd.snd.snd.fst ∧ (cp1_q1 l xs k r).snd.snd.snd.fst ≤ (↑(cp1_q1 l xs k r).snd.fst : Int)) ∧
                                  ∀ (e : Nat), e < (cp1_q1 l xs k r).snd.snd.snd.fst.toNat → True) ∧
                (conj
                      ([(xs.getD k.toNat eS.dflt).f == (xs.getD (IntKind.i64.wrap (k - (1 : Int))).toNat eS.dflt).f] ++
                        ([(xs.getD k.toNat eS.dflt).k == (xs.getD (IntKind.i64.wrap (k - (1 : Int))).toNat eS.dflt).k] ++
                          ([(xs.getD k.toNat eS.dflt).a ==
                                (xs.getD (IntKind.i64.wrap (k - (1 : Int))).toNat eS.dflt).a] ++
                            ([(xs.getD k.toNat eS.dflt).n ==
                                  (xs.getD (IntKind.i64.wrap (k - (1 : Int))).toNat eS.dflt).n] ++
                              ([(xs.getD k.toNat eS.dflt).p0 ==
                                      (xs.getD (IntKind.i64.wrap (k - (1 : Int))).toNat eS.dflt).p0] ++
                                  ([(xs.getD k.toNat eS.dflt).p1 ==
                                        (xs.getD (IntKind.i64.wrap (k - (1 : Int))).toNat eS.dflt).p1] ++
                                    ([(xs.getD k.toNat eS.dflt).p2 ==
                                          (xs.getD (IntKind.i64.wrap (k - (1 : Int))).toNat eS.dflt).p2] ++
                                      ([(xs.getD k.toNat eS.dflt).p3 ==
                                            (xs.getD (IntKind.i64.wrap (k - (1 : Int))).toNat eS.dflt).p3] ++
                                        []))) ++
                                []))))) =
                    false →
                  ∀ (e : Nat), e < xs.length → True)) ∧
    (decide (k < (↑l : Int)) = false → ∀ (e : Nat), e < xs.length → True)
theorem cp1_one : ((loopsOf Try.prog 56).filter fun c => Nat.beq (lkey c) 4).length = 1 := by kernel_rfl
theorem cp1_es (g : cp1_G) : (cp1_R g.1 g.2.1 g.2.2.1 g.2.2.2).1 = .normal ∨ (cp1_R g.1 g.2.1 g.2.2.1 g.2.2.2).1 ∈ ([.ret, .exit 0] : List Ex) := by
  unfold cp1_R
  repeat' (first | (left; rfl) | (right; simp only [cond_true, cond_false]; simp; done) | (rw [Bool.cond_eq_ite]; split))
noncomputable abbrev cp1_C (Inv : cp1_G → List Prop) (m : cp1_G → Nat) : LCon := loopR [.ret, .exit 0] (loopBody Try.prog 56 4) cp1_LP [] 61 Inv (fun g => cp1_R g.1 g.2.1 g.2.2.1 g.2.2.2) m
theorem cp1_loop (Inv : cp1_G → List Prop) (m : cp1_G → Nat) (hs : ∀ g, allP (Inv g) → cp1_side g.1 g.2.1 g.2.2.1 g.2.2.2) (hg : Goes (fun g : cp1_G => cp1_R g.1 g.2.1 g.2.2.1 g.2.2.2) m fun g => allP (Inv g)) : ∀ b ∈ loopsOf Try.prog 56, lkey b = 4 → LoopOk Try.prog b (cp1_C Inv m).g := loop_run (Γ := (MTab.gamz (MTab.of tab15) [] [])) (Λ := lam22) (MTab.okz (MTab.of tab15) [] []) lam22_ok 100 56 4 61 cp1_LP [] Inv (fun g => cp1_R g.1 g.2.1 g.2.2.1 g.2.2.2) (fun g => cp1_side g.1 g.2.1 g.2.2.1 g.2.2.2) m default [.ret, .exit 0] cp1_one (fun rd T B HL HB ds g => by kernel_rfl) (fun rd T B HL HB ds g => by kernel_rfl) hs hg cp1_es
def tab20 : MTab Try.prog := (MTab.of tab15)
end Go.Proofs.Ytapmlfklkfgmoaa
