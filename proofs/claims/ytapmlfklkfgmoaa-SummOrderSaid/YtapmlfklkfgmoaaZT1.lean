/- Chapter 2: the leaves. Printed by treegen.py. -/
import Derived.Test.YtapmlfklkfgmoaaZA1
set_option linter.unusedVariables false
namespace Go.Proofs.Ytapmlfklkfgmoaa
open Go.RowKit Go.Sx
set_option maxRecDepth 100000
set_option linter.unusedVariables false
def may_F (a : S) : Dv.T dBool :=
  bif
      !(decide (a.f < 0) || decide (a.f > 4)) && !(decide (a.n < 0) || decide (a.n > 4)) &&
          !(decide (a.k < 0) || (decide (a.k > a.f) || decide (IntKind.i64.wrap (a.k + a.n) > 4))) &&
        !(!(decide (a.a ≥ 0) && decide (a.a ≤ 1048576)) || a.k == 0 && a.a != 0) then
    bif !(decide (a.p0 ≥ 0) && decide (a.p0 ≤ 1048576)) || decide (0 ≥ a.n) && a.p0 != 0 then false
    else
      bif !(decide (a.p1 ≥ 0) && decide (a.p1 ≤ 1048576)) || decide (1 ≥ a.n) && a.p1 != 0 then false
      else
        bif !(decide (a.p2 ≥ 0) && decide (a.p2 ≤ 1048576)) || decide (2 ≥ a.n) && a.p2 != 0 then false
        else bif !(decide (a.p3 ≥ 0) && decide (a.p3 ≤ 1048576)) || decide (3 ≥ a.n) && a.p3 != 0 then false else true
  else false
theorem may_ok : FnPure Try.prog 45 aS dBool (fun g => may_F g) (fun _ => []) := pure_of_safe (Γ := (PTab.gamz tab0 [] [])) (Λ := noΛ) (PTab.okz tab0 [] []) noΛ_ok 100 default (fun g => by kernel_rfl) (fun g => by kernel_rfl)
def rcheck_F (a : S) : Dv.T dI :=
  bif
      decide (a.f < 0) ||
        (decide (a.f > 4) ||
          (decide (a.n < 0) ||
            (decide (a.n > 4) ||
              (decide (a.k < 0) ||
                (decide (a.k > a.f) ||
                  (decide (IntKind.i64.wrap (a.k + a.n) > 4) ||
                    (decide (a.a < 0) || (decide (a.a > 1048576) || a.k == 0 && a.a != 0)))))))) then
    20
  else
    bif decide (a.p0 < 0) || (decide (a.p0 > 1048576) || decide (0 ≥ a.n) && a.p0 != 0) then 20
    else
      bif decide (a.p1 < 0) || (decide (a.p1 > 1048576) || decide (1 ≥ a.n) && a.p1 != 0) then 20
      else
        bif decide (a.p2 < 0) || (decide (a.p2 > 1048576) || decide (2 ≥ a.n) && a.p2 != 0) then 20
        else bif decide (a.p3 < 0) || (decide (a.p3 > 1048576) || decide (3 ≥ a.n) && a.p3 != 0) then 20 else 0
theorem rcheck_ok : FnPure Try.prog 31 aS dI (fun g => rcheck_F g) (fun _ => []) := pure_of_safe (Γ := (PTab.gamz tab0 [] [])) (Λ := noΛ) (PTab.okz tab0 [] []) noΛ_ok 100 default (fun g => by kernel_rfl) (fun g => by kernel_rfl)
def tcheck_F (t : T) : Dv.T dI :=
  bif decide (t.e < 0) || (decide (t.e > 1073741824) || (decide (t.d < 0) || decide (t.d > 4))) then 10
  else
    bif decide (t.l0 < 0) || (decide (t.l0 > 1048576) || decide (0 ≥ t.d) && t.l0 != 0) then 10
    else
      bif decide (t.l1 < 0) || (decide (t.l1 > 1048576) || decide (1 ≥ t.d) && t.l1 != 0) then 10
      else
        bif decide (t.l2 < 0) || (decide (t.l2 > 1048576) || decide (2 ≥ t.d) && t.l2 != 0) then 10
        else bif decide (t.l3 < 0) || (decide (t.l3 > 1048576) || decide (3 ≥ t.d) && t.l3 != 0) then 10 else 0
theorem tcheck_ok : FnPure Try.prog 46 aT dI (fun g => tcheck_F g) (fun _ => []) := pure_of_safe (Γ := (PTab.gamz tab0 [] [])) (Λ := noΛ) (PTab.okz tab0 [] []) noΛ_ok 100 default (fun g => by kernel_rfl) (fun g => by kernel_rfl)
def rtcheck_F (t : T) : Dv.T dI :=
  bif decide (t.e < 0) || (decide (t.e > 1073741824) || (decide (t.d < 0) || decide (t.d > 4))) then 10
  else
    bif decide (t.l0 < 0) || (decide (t.l0 > 1048576) || decide (0 ≥ t.d) && t.l0 != 0) then 10
    else
      bif decide (t.l1 < 0) || (decide (t.l1 > 1048576) || decide (1 ≥ t.d) && t.l1 != 0) then 10
      else
        bif decide (t.l2 < 0) || (decide (t.l2 > 1048576) || decide (2 ≥ t.d) && t.l2 != 0) then 10
        else bif decide (t.l3 < 0) || (decide (t.l3 > 1048576) || decide (3 ≥ t.d) && t.l3 != 0) then 10 else 0
theorem rtcheck_ok : FnPure Try.prog 47 aT dI (fun g => rtcheck_F g) (fun _ => []) := pure_of_safe (Γ := (PTab.gamz tab0 [] [])) (Λ := noΛ) (PTab.okz tab0 [] []) noΛ_ok 100 default (fun g => by kernel_rfl) (fun g => by kernel_rfl)
def id_F (d : Int) : Dv.T dSE :=
  bif decide (d < 0) || decide (d > 4) then
    ({ f := 0, k := 0, a := 0, n := 0, p0 := 0, p1 := 0, p2 := 0, p3 := 0 }, 11)
  else ({ f := d, k := d, a := 0, n := 0, p0 := 0, p1 := 0, p2 := 0, p3 := 0 }, 0)
theorem id_ok : FnPure Try.prog 18 aI dSE (fun g => id_F g) (fun _ => []) := pure_of_safe (Γ := (PTab.gamz tab0 [] [])) (Λ := noΛ) (PTab.okz tab0 [] []) noΛ_ok 100 default (fun g => by kernel_rfl) (fun g => by kernel_rfl)
def enter_F (d : Int) : Dv.T dSE :=
  bif decide (d < 0) || decide (d > 3) then
    ({ f := 0, k := 0, a := 0, n := 0, p0 := 0, p1 := 0, p2 := 0, p3 := 0 }, 11)
  else ({ f := d, k := d, a := 0, n := 1, p0 := 0, p1 := 0, p2 := 0, p3 := 0 }, 0)
theorem enter_ok : FnPure Try.prog 24 aI dSE (fun g => enter_F g) (fun _ => []) := pure_of_safe (Γ := (PTab.gamz tab0 [] [])) (Λ := noΛ) (PTab.okz tab0 [] []) noΛ_ok 100 default (fun g => by kernel_rfl) (fun g => by kernel_rfl)
def leave_F (d : Int) : Dv.T dSE :=
  bif decide (d < 1) || decide (d > 4) then
    ({ f := 0, k := 0, a := 0, n := 0, p0 := 0, p1 := 0, p2 := 0, p3 := 0 }, 11)
  else ({ f := d, k := IntKind.i64.wrap (d - 1), a := 0, n := 0, p0 := 0, p1 := 0, p2 := 0, p3 := 0 }, 0)
theorem leave_ok : FnPure Try.prog 26 aI dSE (fun g => leave_F g) (fun _ => []) := pure_of_safe (Γ := (PTab.gamz tab0 [] [])) (Λ := noΛ) (PTab.okz tab0 [] []) noΛ_ok 100 default (fun g => by kernel_rfl) (fun g => by kernel_rfl)
def next_F (d : Int) : Dv.T dSE :=
  bif decide (d < 1) || decide (d > 4) then
    ({ f := 0, k := 0, a := 0, n := 0, p0 := 0, p1 := 0, p2 := 0, p3 := 0 }, 11)
  else ({ f := d, k := d, a := 1, n := 0, p0 := 0, p1 := 0, p2 := 0, p3 := 0 }, 0)
theorem next_ok : FnPure Try.prog 28 aI dSE (fun g => next_F g) (fun _ => []) := pure_of_safe (Γ := (PTab.gamz tab0 [] [])) (Λ := noΛ) (PTab.okz tab0 [] []) noΛ_ok 100 default (fun g => by kernel_rfl) (fun g => by kernel_rfl)
def rcompare_F (a : S) (b : S) : Dv.T dI :=
  bif decide (a.f < b.f) then -1
  else
    bif decide (a.f > b.f) then 1
    else
      bif decide (a.k < b.k) then -1
      else
        bif decide (a.k > b.k) then 1
        else
          bif decide (a.a < b.a) then -1
          else
            bif decide (a.a > b.a) then 1
            else
              bif decide (a.n < b.n) then -1
              else
                bif decide (a.n > b.n) then 1
                else
                  bif decide (a.p0 < b.p0) then -1
                  else
                    bif decide (a.p0 > b.p0) then 1
                    else
                      bif decide (a.p1 < b.p1) then -1
                      else
                        bif decide (a.p1 > b.p1) then 1
                        else
                          bif decide (a.p2 < b.p2) then -1
                          else
                            bif decide (a.p2 > b.p2) then 1
                            else bif decide (a.p3 < b.p3) then -1 else bif decide (a.p3 > b.p3) then 1 else 0
theorem rcompare_ok : FnPure Try.prog 41 aSS dI (fun g => rcompare_F g.1 g.2) (fun _ => []) := pure_of_safe (Γ := (PTab.gamz tab0 [] [])) (Λ := noΛ) (PTab.okz tab0 [] []) noΛ_ok 100 default (fun g => by kernel_rfl) (fun g => by kernel_rfl)
def cmp60_F (a : Int) (b : Int) : Dv.T dI :=
  bif a != a then bif b != b then 0 else -1
  else bif b != b then 1 else bif decide (a < b) then -1 else bif decide (a > b) then 1 else 0
theorem cmp60_ok : FnPure Try.prog 61 aII dI (fun g => cmp60_F g.1 g.2) (fun _ => []) := pure_of_safe (Γ := (PTab.gamz tab0 [] [])) (Λ := noΛ) (PTab.okz tab0 [] []) noΛ_ok 100 default (fun g => by kernel_rfl) (fun g => by kernel_rfl)
def cmp62_F (a : Int) (b : Int) : Dv.T dI :=
  bif a != a then bif b != b then 0 else -1
  else bif b != b then 1 else bif decide (a < b) then -1 else bif decide (a > b) then 1 else 0
theorem cmp62_ok : FnPure Try.prog 62 aII dI (fun g => cmp62_F g.1 g.2) (fun _ => []) := pure_of_safe (Γ := (PTab.gamz tab0 [] [])) (Λ := noΛ) (PTab.okz tab0 [] []) noΛ_ok 100 default (fun g => by kernel_rfl) (fun g => by kernel_rfl)
def tab1 : PTab Try.prog := (((((((((((tab0).cons 45 (pconP aS dBool (fun g => may_F g) (fun _ => [])) (conP_ok may_ok puB)).cons 31 (pconP aS dI (fun g => rcheck_F g) (fun _ => [])) (conP_ok rcheck_ok puI)).cons 46 (pconP aT dI (fun g => tcheck_F g) (fun _ => [])) (conP_ok tcheck_ok puI)).cons 47 (pconP aT dI (fun g => rtcheck_F g) (fun _ => [])) (conP_ok rtcheck_ok puI)).cons 18 (pconP aI dSE (fun g => id_F g) (fun _ => [])) (conP_ok id_ok puSE)).cons 24 (pconP aI dSE (fun g => enter_F g) (fun _ => [])) (conP_ok enter_ok puSE)).cons 26 (pconP aI dSE (fun g => leave_F g) (fun _ => [])) (conP_ok leave_ok puSE)).cons 28 (pconP aI dSE (fun g => next_F g) (fun _ => [])) (conP_ok next_ok puSE)).cons 41 (pconP aSS dI (fun g => rcompare_F g.1 g.2) (fun _ => [])) (conP_ok rcompare_ok puI)).cons 61 (pconP aII dI (fun g => cmp60_F g.1 g.2) (fun _ => [])) (conP_ok cmp60_ok puI)).cons 62 (pconP aII dI (fun g => cmp62_F g.1 g.2) (fun _ => [])) (conP_ok cmp62_ok puI)
end Go.Proofs.Ytapmlfklkfgmoaa
