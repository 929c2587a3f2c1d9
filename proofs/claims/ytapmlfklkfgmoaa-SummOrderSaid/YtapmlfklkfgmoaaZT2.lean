/- Chapter 2: over the leaves. Printed by treegen.py. -/
import Derived.Test.YtapmlfklkfgmoaaZT1
set_option linter.unusedVariables false
namespace Go.Proofs.Ytapmlfklkfgmoaa
open Go.RowKit Go.Sx
set_option maxRecDepth 100000
set_option linter.unusedVariables false
def check_F (a : S) : Dv.T dI :=
  bif !may_F a then (20 : Int) else (0 : Int)
theorem check_ok : FnPure Try.prog 17 aS dI (fun g => check_F g) (fun _ => []) := pure_of_safe (Γ := (PTab.gamz tab1 [] [(20, 0, 5), (66, 0, 5), (39, 4, 5)])) (Λ := noΛ) (PTab.okz tab1 [] [(20, 0, 5), (66, 0, 5), (39, 4, 5)]) noΛ_ok 100 default (fun g => by kernel_rfl) (fun g => by kernel_rfl)
def ends_F (a : S) : Dv.T dI :=
  bif !may_F a then (0 : Int) else IntKind.i64.wrap (a.k + a.n)
theorem ends_ok : FnPure Try.prog 19 aS dI (fun g => ends_F g) (fun _ => []) := pure_of_safe (Γ := (PTab.gamz tab1 [] [(20, 0, 5), (66, 0, 5), (39, 4, 5)])) (Λ := noΛ) (PTab.okz tab1 [] [(20, 0, 5), (66, 0, 5), (39, 4, 5)]) noΛ_ok 100 default (fun g => by kernel_rfl) (fun g => by kernel_rfl)
def rends_F (a : S) : Dv.T dI :=
  bif rcheck_F a != (0 : Int) then (0 : Int) else IntKind.i64.wrap (a.k + a.n)
theorem rends_ok : FnPure Try.prog 32 aS dI (fun g => rends_F g) (fun _ => []) := pure_of_safe (Γ := (PTab.gamz tab1 [] [(20, 0, 5), (66, 0, 5), (39, 4, 5)])) (Λ := noΛ) (PTab.okz tab1 [] [(20, 0, 5), (66, 0, 5), (39, 4, 5)]) noΛ_ok 100 default (fun g => by kernel_rfl) (fun g => by kernel_rfl)
def adv_F (a : S) : Dv.T dBool :=
  may_F a && (a.k == a.f && (a.n == (0 : Int) && decide (a.a > (0 : Int))))
theorem adv_ok : FnPure Try.prog 21 aS dBool (fun g => adv_F g) (fun _ => []) := pure_of_safe (Γ := (PTab.gamz tab1 [] [(20, 0, 5), (66, 0, 5), (39, 4, 5)])) (Λ := noΛ) (PTab.okz tab1 [] [(20, 0, 5), (66, 0, 5), (39, 4, 5)]) noΛ_ok 100 default (fun g => by kernel_rfl) (fun g => by kernel_rfl)
def radv_F (a : S) : Dv.T dBool :=
  rcheck_F a == (0 : Int) && (a.k == a.f && (a.n == (0 : Int) && decide (a.a > (0 : Int))))
theorem radv_ok : FnPure Try.prog 33 aS dBool (fun g => radv_F g) (fun _ => []) := pure_of_safe (Γ := (PTab.gamz tab1 [] [(20, 0, 5), (66, 0, 5), (39, 4, 5)])) (Λ := noΛ) (PTab.okz tab1 [] [(20, 0, 5), (66, 0, 5), (39, 4, 5)]) noΛ_ok 100 default (fun g => by kernel_rfl) (fun g => by kernel_rfl)
def rid_F (d : Int) : Dv.T dSE :=
  bif
      rcheck_F
          { f := d, k := d, a := (0 : Int), n := (0 : Int), p0 := (0 : Int), p1 := (0 : Int), p2 := (0 : Int),
            p3 := (0 : Int) } !=
        (0 : Int) then
    ({ f := (0 : Int), k := (0 : Int), a := (0 : Int), n := (0 : Int), p0 := (0 : Int), p1 := (0 : Int), p2 := (0 : Int),
        p3 := (0 : Int) },
      (11 : Int))
  else
    ({ f := d, k := d, a := (0 : Int), n := (0 : Int), p0 := (0 : Int), p1 := (0 : Int), p2 := (0 : Int),
        p3 := (0 : Int) },
      (0 : Int))
theorem rid_ok : FnPure Try.prog 23 aI dSE (fun g => rid_F g) (fun _ => []) := pure_of_safe (Γ := (PTab.gamz tab1 [] [(20, 0, 5), (66, 0, 5), (39, 4, 5)])) (Λ := noΛ) (PTab.okz tab1 [] [(20, 0, 5), (66, 0, 5), (39, 4, 5)]) noΛ_ok 100 default (fun g => by kernel_rfl) (fun g => by kernel_rfl)
def renter_F (d : Int) : Dv.T dSE :=
  bif
      rcheck_F
          { f := d, k := d, a := (0 : Int), n := (1 : Int), p0 := (0 : Int), p1 := (0 : Int), p2 := (0 : Int),
            p3 := (0 : Int) } !=
        (0 : Int) then
    ({ f := (0 : Int), k := (0 : Int), a := (0 : Int), n := (0 : Int), p0 := (0 : Int), p1 := (0 : Int), p2 := (0 : Int),
        p3 := (0 : Int) },
      (11 : Int))
  else
    ({ f := d, k := d, a := (0 : Int), n := (1 : Int), p0 := (0 : Int), p1 := (0 : Int), p2 := (0 : Int),
        p3 := (0 : Int) },
      (0 : Int))
theorem renter_ok : FnPure Try.prog 25 aI dSE (fun g => renter_F g) (fun _ => []) := pure_of_safe (Γ := (PTab.gamz tab1 [] [(20, 0, 5), (66, 0, 5), (39, 4, 5)])) (Λ := noΛ) (PTab.okz tab1 [] [(20, 0, 5), (66, 0, 5), (39, 4, 5)]) noΛ_ok 100 default (fun g => by kernel_rfl) (fun g => by kernel_rfl)
def rleave_F (d : Int) : Dv.T dSE :=
  bif decide (d < (1 : Int)) then
    ({ f := (0 : Int), k := (0 : Int), a := (0 : Int), n := (0 : Int), p0 := (0 : Int), p1 := (0 : Int), p2 := (0 : Int),
        p3 := (0 : Int) },
      (11 : Int))
  else
    bif
        rcheck_F
            { f := d, k := IntKind.i64.wrap (d - (1 : Int)), a := (0 : Int), n := (0 : Int), p0 := (0 : Int),
              p1 := (0 : Int), p2 := (0 : Int), p3 := (0 : Int) } !=
          (0 : Int) then
      ({ f := (0 : Int), k := (0 : Int), a := (0 : Int), n := (0 : Int), p0 := (0 : Int), p1 := (0 : Int),
          p2 := (0 : Int), p3 := (0 : Int) },
        (11 : Int))
    else
      ({ f := d, k := IntKind.i64.wrap (d - (1 : Int)), a := (0 : Int), n := (0 : Int), p0 := (0 : Int), p1 := (0 : Int),
          p2 := (0 : Int), p3 := (0 : Int) },
        (0 : Int))
theorem rleave_ok : FnPure Try.prog 27 aI dSE (fun g => rleave_F g) (fun _ => []) := pure_of_safe (Γ := (PTab.gamz tab1 [] [(20, 0, 5), (66, 0, 5), (39, 4, 5)])) (Λ := noΛ) (PTab.okz tab1 [] [(20, 0, 5), (66, 0, 5), (39, 4, 5)]) noΛ_ok 100 default (fun g => by kernel_rfl) (fun g => by kernel_rfl)
def rnext_F (d : Int) : Dv.T dSE :=
  bif
      rcheck_F
          { f := d, k := d, a := (1 : Int), n := (0 : Int), p0 := (0 : Int), p1 := (0 : Int), p2 := (0 : Int),
            p3 := (0 : Int) } !=
        (0 : Int) then
    ({ f := (0 : Int), k := (0 : Int), a := (0 : Int), n := (0 : Int), p0 := (0 : Int), p1 := (0 : Int), p2 := (0 : Int),
        p3 := (0 : Int) },
      (11 : Int))
  else
    ({ f := d, k := d, a := (1 : Int), n := (0 : Int), p0 := (0 : Int), p1 := (0 : Int), p2 := (0 : Int),
        p3 := (0 : Int) },
      (0 : Int))
theorem rnext_ok : FnPure Try.prog 29 aI dSE (fun g => rnext_F g) (fun _ => []) := pure_of_safe (Γ := (PTab.gamz tab1 [] [(20, 0, 5), (66, 0, 5), (39, 4, 5)])) (Λ := noΛ) (PTab.okz tab1 [] [(20, 0, 5), (66, 0, 5), (39, 4, 5)]) noΛ_ok 100 default (fun g => by kernel_rfl) (fun g => by kernel_rfl)
def rtleq_F (a : T) (b : T) : Dv.T dBool :=
  bif rtcheck_F a != (0 : Int) || (rtcheck_F b != (0 : Int) || (a.d != b.d || decide (a.e > b.e))) then false
  else
    bif decide (a.l0 > b.l0) then false
    else
      bif decide (a.l1 > b.l1) then false
      else bif decide (a.l2 > b.l2) then false else bif decide (a.l3 > b.l3) then false else true
theorem rtleq_ok : FnPure Try.prog 22 aTT dBool (fun g => rtleq_F g.1 g.2) (fun _ => []) := pure_of_safe (Γ := (PTab.gamz tab1 [] [(20, 0, 5), (66, 0, 5), (39, 4, 5)])) (Λ := noΛ) (PTab.okz tab1 [] [(20, 0, 5), (66, 0, 5), (39, 4, 5)]) noΛ_ok 100 default (fun g => by kernel_rfl) (fun g => by kernel_rfl)
def compare_F (a : S) (b : S) : Dv.T dI :=
  bif
      (bif cmp60_F a.f b.f != (0 : Int) then cmp60_F a.f b.f
        else
          bif cmp60_F a.k b.k != (0 : Int) then cmp60_F a.k b.k
          else
            bif cmp62_F a.a b.a != (0 : Int) then cmp62_F a.a b.a
            else bif cmp60_F a.n b.n != (0 : Int) then cmp60_F a.n b.n else (0 : Int)) !=
        (0 : Int) then
    bif cmp60_F a.f b.f != (0 : Int) then cmp60_F a.f b.f
    else
      bif cmp60_F a.k b.k != (0 : Int) then cmp60_F a.k b.k
      else
        bif cmp62_F a.a b.a != (0 : Int) then cmp62_F a.a b.a
        else bif cmp60_F a.n b.n != (0 : Int) then cmp60_F a.n b.n else (0 : Int)
  else
    bif cmp62_F a.p0 b.p0 != (0 : Int) then cmp62_F a.p0 b.p0
    else
      bif cmp62_F a.p1 b.p1 != (0 : Int) then cmp62_F a.p1 b.p1
      else
        bif cmp62_F a.p2 b.p2 != (0 : Int) then cmp62_F a.p2 b.p2
        else bif cmp62_F a.p3 b.p3 != (0 : Int) then cmp62_F a.p3 b.p3 else (0 : Int)
theorem compare_ok : FnPure Try.prog 40 aSS dI (fun g => compare_F g.1 g.2) (fun _ => []) := pure_of_safe (Γ := (PTab.gamz tab1 [] [(20, 0, 5), (66, 0, 5), (39, 4, 5)])) (Λ := noΛ) (PTab.okz tab1 [] [(20, 0, 5), (66, 0, 5), (39, 4, 5)]) noΛ_ok 100 default (fun g => by kernel_rfl) (fun g => by kernel_rfl)
def tab2 : PTab Try.prog := (((((((((((tab1).cons 17 (pconP aS dI (fun g => check_F g) (fun _ => [])) (conP_ok check_ok puI)).cons 19 (pconP aS dI (fun g => ends_F g) (fun _ => [])) (conP_ok ends_ok puI)).cons 32 (pconP aS dI (fun g => rends_F g) (fun _ => [])) (conP_ok rends_ok puI)).cons 21 (pconP aS dBool (fun g => adv_F g) (fun _ => [])) (conP_ok adv_ok puB)).cons 33 (pconP aS dBool (fun g => radv_F g) (fun _ => [])) (conP_ok radv_ok puB)).cons 23 (pconP aI dSE (fun g => rid_F g) (fun _ => [])) (conP_ok rid_ok puSE)).cons 25 (pconP aI dSE (fun g => renter_F g) (fun _ => [])) (conP_ok renter_ok puSE)).cons 27 (pconP aI dSE (fun g => rleave_F g) (fun _ => [])) (conP_ok rleave_ok puSE)).cons 29 (pconP aI dSE (fun g => rnext_F g) (fun _ => [])) (conP_ok rnext_ok puSE)).cons 22 (pconP aTT dBool (fun g => rtleq_F g.1 g.2) (fun _ => [])) (conP_ok rtleq_ok puB)).cons 40 (pconP aSS dI (fun g => compare_F g.1 g.2) (fun _ => [])) (conP_ok compare_ok puI)
end Go.Proofs.Ytapmlfklkfgmoaa
