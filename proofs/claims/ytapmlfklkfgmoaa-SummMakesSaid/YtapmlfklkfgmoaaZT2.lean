/- Chapter 2: over the leaves. Printed by treegen.py. -/
import Derived.Test.YtapmlfklkfgmoaaZT1
set_option linter.unusedVariables false
namespace Go.Proofs.Ytapmlfklkfgmoaa
open Go.RowKit Go.Sx
set_option maxRecDepth 100000
set_option linter.unusedVariables false
def check_F (a : S) : Dv.T dI :=
  bif !may_F a then 20 else 0
theorem check_ok : FnPure Try.prog 17 aS dI (fun g => check_F g) (fun _ => []) := pure_of_safe (Γ := (PTab.gamz tab1 [] [(20, 0, 5), (66, 0, 5), (39, 4, 5)])) (Λ := noΛ) (PTab.okz tab1 [] [(20, 0, 5), (66, 0, 5), (39, 4, 5)]) noΛ_ok 100 default (fun g => by kernel_rfl) (fun g => by kernel_rfl)
def ends_F (a : S) : Dv.T dI :=
  bif !may_F a then 0 else IntKind.i64.wrap (a.k + a.n)
theorem ends_ok : FnPure Try.prog 19 aS dI (fun g => ends_F g) (fun _ => []) := pure_of_safe (Γ := (PTab.gamz tab1 [] [(20, 0, 5), (66, 0, 5), (39, 4, 5)])) (Λ := noΛ) (PTab.okz tab1 [] [(20, 0, 5), (66, 0, 5), (39, 4, 5)]) noΛ_ok 100 default (fun g => by kernel_rfl) (fun g => by kernel_rfl)
def rends_F (a : S) : Dv.T dI :=
  bif rcheck_F a != 0 then 0 else IntKind.i64.wrap (a.k + a.n)
theorem rends_ok : FnPure Try.prog 32 aS dI (fun g => rends_F g) (fun _ => []) := pure_of_safe (Γ := (PTab.gamz tab1 [] [(20, 0, 5), (66, 0, 5), (39, 4, 5)])) (Λ := noΛ) (PTab.okz tab1 [] [(20, 0, 5), (66, 0, 5), (39, 4, 5)]) noΛ_ok 100 default (fun g => by kernel_rfl) (fun g => by kernel_rfl)
def adv_F (a : S) : Dv.T dBool :=
  may_F a && (a.k == a.f && (a.n == 0 && decide (a.a > 0)))
theorem adv_ok : FnPure Try.prog 21 aS dBool (fun g => adv_F g) (fun _ => []) := pure_of_safe (Γ := (PTab.gamz tab1 [] [(20, 0, 5), (66, 0, 5), (39, 4, 5)])) (Λ := noΛ) (PTab.okz tab1 [] [(20, 0, 5), (66, 0, 5), (39, 4, 5)]) noΛ_ok 100 default (fun g => by kernel_rfl) (fun g => by kernel_rfl)
def radv_F (a : S) : Dv.T dBool :=
  rcheck_F a == 0 && (a.k == a.f && (a.n == 0 && decide (a.a > 0)))
theorem radv_ok : FnPure Try.prog 33 aS dBool (fun g => radv_F g) (fun _ => []) := pure_of_safe (Γ := (PTab.gamz tab1 [] [(20, 0, 5), (66, 0, 5), (39, 4, 5)])) (Λ := noΛ) (PTab.okz tab1 [] [(20, 0, 5), (66, 0, 5), (39, 4, 5)]) noΛ_ok 100 default (fun g => by kernel_rfl) (fun g => by kernel_rfl)
def rid_F (d : Int) : Dv.T dSE :=
  bif rcheck_F { f := d, k := d, a := 0, n := 0, p0 := 0, p1 := 0, p2 := 0, p3 := 0 } != 0 then
    ({ f := 0, k := 0, a := 0, n := 0, p0 := 0, p1 := 0, p2 := 0, p3 := 0 }, 11)
  else ({ f := d, k := d, a := 0, n := 0, p0 := 0, p1 := 0, p2 := 0, p3 := 0 }, 0)
theorem rid_ok : FnPure Try.prog 23 aI dSE (fun g => rid_F g) (fun _ => []) := pure_of_safe (Γ := (PTab.gamz tab1 [] [(20, 0, 5), (66, 0, 5), (39, 4, 5)])) (Λ := noΛ) (PTab.okz tab1 [] [(20, 0, 5), (66, 0, 5), (39, 4, 5)]) noΛ_ok 100 default (fun g => by kernel_rfl) (fun g => by kernel_rfl)
def renter_F (d : Int) : Dv.T dSE :=
  bif rcheck_F { f := d, k := d, a := 0, n := 1, p0 := 0, p1 := 0, p2 := 0, p3 := 0 } != 0 then
    ({ f := 0, k := 0, a := 0, n := 0, p0 := 0, p1 := 0, p2 := 0, p3 := 0 }, 11)
  else ({ f := d, k := d, a := 0, n := 1, p0 := 0, p1 := 0, p2 := 0, p3 := 0 }, 0)
theorem renter_ok : FnPure Try.prog 25 aI dSE (fun g => renter_F g) (fun _ => []) := pure_of_safe (Γ := (PTab.gamz tab1 [] [(20, 0, 5), (66, 0, 5), (39, 4, 5)])) (Λ := noΛ) (PTab.okz tab1 [] [(20, 0, 5), (66, 0, 5), (39, 4, 5)]) noΛ_ok 100 default (fun g => by kernel_rfl) (fun g => by kernel_rfl)
def rleave_F (d : Int) : Dv.T dSE :=
  bif decide (d < 1) then ({ f := 0, k := 0, a := 0, n := 0, p0 := 0, p1 := 0, p2 := 0, p3 := 0 }, 11)
  else
    bif rcheck_F { f := d, k := IntKind.i64.wrap (d - 1), a := 0, n := 0, p0 := 0, p1 := 0, p2 := 0, p3 := 0 } != 0 then
      ({ f := 0, k := 0, a := 0, n := 0, p0 := 0, p1 := 0, p2 := 0, p3 := 0 }, 11)
    else ({ f := d, k := IntKind.i64.wrap (d - 1), a := 0, n := 0, p0 := 0, p1 := 0, p2 := 0, p3 := 0 }, 0)
theorem rleave_ok : FnPure Try.prog 27 aI dSE (fun g => rleave_F g) (fun _ => []) := pure_of_safe (Γ := (PTab.gamz tab1 [] [(20, 0, 5), (66, 0, 5), (39, 4, 5)])) (Λ := noΛ) (PTab.okz tab1 [] [(20, 0, 5), (66, 0, 5), (39, 4, 5)]) noΛ_ok 100 default (fun g => by kernel_rfl) (fun g => by kernel_rfl)
def rnext_F (d : Int) : Dv.T dSE :=
  bif rcheck_F { f := d, k := d, a := 1, n := 0, p0 := 0, p1 := 0, p2 := 0, p3 := 0 } != 0 then
    ({ f := 0, k := 0, a := 0, n := 0, p0 := 0, p1 := 0, p2 := 0, p3 := 0 }, 11)
  else ({ f := d, k := d, a := 1, n := 0, p0 := 0, p1 := 0, p2 := 0, p3 := 0 }, 0)
theorem rnext_ok : FnPure Try.prog 29 aI dSE (fun g => rnext_F g) (fun _ => []) := pure_of_safe (Γ := (PTab.gamz tab1 [] [(20, 0, 5), (66, 0, 5), (39, 4, 5)])) (Λ := noΛ) (PTab.okz tab1 [] [(20, 0, 5), (66, 0, 5), (39, 4, 5)]) noΛ_ok 100 default (fun g => by kernel_rfl) (fun g => by kernel_rfl)
def rtleq_F (a : T) (b : T) : Dv.T dBool :=
  bif rtcheck_F a != 0 || (rtcheck_F b != 0 || (a.d != b.d || decide (a.e > b.e))) then false
  else
    bif decide (a.l0 > b.l0) then false
    else
      bif decide (a.l1 > b.l1) then false
      else bif decide (a.l2 > b.l2) then false else bif decide (a.l3 > b.l3) then false else true
theorem rtleq_ok : FnPure Try.prog 22 aTT dBool (fun g => rtleq_F g.1 g.2) (fun _ => []) := pure_of_safe (Γ := (PTab.gamz tab1 [] [(20, 0, 5), (66, 0, 5), (39, 4, 5)])) (Λ := noΛ) (PTab.okz tab1 [] [(20, 0, 5), (66, 0, 5), (39, 4, 5)]) noΛ_ok 100 default (fun g => by kernel_rfl) (fun g => by kernel_rfl)
def compare_F (a : S) (b : S) : Dv.T dI :=
  bif
      (bif cmp60_F a.f b.f != 0 then cmp60_F a.f b.f
        else
          bif cmp60_F a.k b.k != 0 then cmp60_F a.k b.k
          else bif cmp62_F a.a b.a != 0 then cmp62_F a.a b.a else bif cmp60_F a.n b.n != 0 then cmp60_F a.n b.n else 0) !=
        0 then
    bif cmp60_F a.f b.f != 0 then cmp60_F a.f b.f
    else
      bif cmp60_F a.k b.k != 0 then cmp60_F a.k b.k
      else bif cmp62_F a.a b.a != 0 then cmp62_F a.a b.a else bif cmp60_F a.n b.n != 0 then cmp60_F a.n b.n else 0
  else
    bif cmp62_F a.p0 b.p0 != 0 then cmp62_F a.p0 b.p0
    else
      bif cmp62_F a.p1 b.p1 != 0 then cmp62_F a.p1 b.p1
      else bif cmp62_F a.p2 b.p2 != 0 then cmp62_F a.p2 b.p2 else bif cmp62_F a.p3 b.p3 != 0 then cmp62_F a.p3 b.p3 else 0
theorem compare_ok : FnPure Try.prog 40 aSS dI (fun g => compare_F g.1 g.2) (fun _ => []) := pure_of_safe (Γ := (PTab.gamz tab1 [] [(20, 0, 5), (66, 0, 5), (39, 4, 5)])) (Λ := noΛ) (PTab.okz tab1 [] [(20, 0, 5), (66, 0, 5), (39, 4, 5)]) noΛ_ok 100 default (fun g => by kernel_rfl) (fun g => by kernel_rfl)
def leq_F (a : S) (b : S) : Dv.T dBool :=
  bif !may_F a || (!may_F b || (a.f != b.f || IntKind.i64.wrap (a.k + a.n) != IntKind.i64.wrap (b.k + b.n))) then
    false
  else
    bif
        decide (0 < IntKind.i64.wrap (b.k + b.n)) &&
          (decide (1 < IntKind.i64.wrap (b.k + b.n)) &&
            (decide (2 < IntKind.i64.wrap (b.k + b.n)) &&
              (decide (3 < IntKind.i64.wrap (b.k + b.n)) && decide (4 < IntKind.i64.wrap (b.k + b.n))))) then
      default
    else
      bif
          decide (0 < IntKind.i64.wrap (a.k + a.n)) &&
            (decide (0 < a.k) &&
                !(decide (0 < IntKind.i64.wrap (b.k + b.n)) &&
                    bif decide (1 < IntKind.i64.wrap (b.k + b.n)) then
                      bif decide (2 < IntKind.i64.wrap (b.k + b.n)) then
                        bif decide (3 < IntKind.i64.wrap (b.k + b.n)) then decide (0 < b.k) else decide (0 < b.k)
                      else decide (0 < b.k)
                    else decide (0 < b.k)) &&
              (bif decide (0 < IntKind.i64.wrap (b.k + b.n)) then
                  bif decide (1 < IntKind.i64.wrap (b.k + b.n)) then
                    bif decide (2 < IntKind.i64.wrap (b.k + b.n)) then
                      bif decide (3 < IntKind.i64.wrap (b.k + b.n)) then
                        bif 0 == IntKind.i64.wrap (b.k - 1) then b.a
                        else
                          bif decide (0 ≥ b.k) then
                            bif decide ((IntKind.i64.wrap (0 - b.k)).toNat = 0) then b.p0
                            else
                              bif decide ((IntKind.i64.wrap (0 - b.k)).toNat = 1) then b.p1
                              else bif decide ((IntKind.i64.wrap (0 - b.k)).toNat = 2) then b.p2 else b.p3
                          else 0
                      else
                        bif 0 == IntKind.i64.wrap (b.k - 1) then b.a
                        else
                          bif decide (0 ≥ b.k) then
                            bif decide ((IntKind.i64.wrap (0 - b.k)).toNat = 0) then b.p0
                            else
                              bif decide ((IntKind.i64.wrap (0 - b.k)).toNat = 1) then b.p1
                              else bif decide ((IntKind.i64.wrap (0 - b.k)).toNat = 2) then b.p2 else b.p3
                          else 0
                    else
                      bif 0 == IntKind.i64.wrap (b.k - 1) then b.a
                      else
                        bif decide (0 ≥ b.k) then
                          bif decide ((IntKind.i64.wrap (0 - b.k)).toNat = 0) then b.p0
                          else
                            bif decide ((IntKind.i64.wrap (0 - b.k)).toNat = 1) then b.p1
                            else bif decide ((IntKind.i64.wrap (0 - b.k)).toNat = 2) then b.p2 else b.p3
                        else 0
                  else
                    bif 0 == IntKind.i64.wrap (b.k - 1) then b.a
                    else
                      bif decide (0 ≥ b.k) then
                        bif decide ((IntKind.i64.wrap (0 - b.k)).toNat = 0) then b.p0
                        else
                          bif decide ((IntKind.i64.wrap (0 - b.k)).toNat = 1) then b.p1
                          else bif decide ((IntKind.i64.wrap (0 - b.k)).toNat = 2) then b.p2 else b.p3
                      else 0
                else 0) !=
                1048576) then
        false
      else
        bif
            decide (0 < IntKind.i64.wrap (a.k + a.n)) &&
              (!(decide (0 < a.k) &&
                    !(decide (0 < IntKind.i64.wrap (b.k + b.n)) &&
                        bif decide (1 < IntKind.i64.wrap (b.k + b.n)) then
                          bif decide (2 < IntKind.i64.wrap (b.k + b.n)) then
                            bif decide (3 < IntKind.i64.wrap (b.k + b.n)) then decide (0 < b.k) else decide (0 < b.k)
                          else decide (0 < b.k)
                        else decide (0 < b.k))) &&
                decide
                  ((bif 0 == IntKind.i64.wrap (a.k - 1) then a.a
                    else
                      bif decide (0 ≥ a.k) then
                        bif decide ((IntKind.i64.wrap (0 - a.k)).toNat = 0) then a.p0
                        else
                          bif decide ((IntKind.i64.wrap (0 - a.k)).toNat = 1) then a.p1
                          else bif decide ((IntKind.i64.wrap (0 - a.k)).toNat = 2) then a.p2 else a.p3
                      else 0) >
                    bif decide (0 < IntKind.i64.wrap (b.k + b.n)) then
                      bif decide (1 < IntKind.i64.wrap (b.k + b.n)) then
                        bif decide (2 < IntKind.i64.wrap (b.k + b.n)) then
                          bif decide (3 < IntKind.i64.wrap (b.k + b.n)) then
                            bif 0 == IntKind.i64.wrap (b.k - 1) then b.a
                            else
                              bif decide (0 ≥ b.k) then
                                bif decide ((IntKind.i64.wrap (0 - b.k)).toNat = 0) then b.p0
                                else
                                  bif decide ((IntKind.i64.wrap (0 - b.k)).toNat = 1) then b.p1
                                  else bif decide ((IntKind.i64.wrap (0 - b.k)).toNat = 2) then b.p2 else b.p3
                              else 0
                          else
                            bif 0 == IntKind.i64.wrap (b.k - 1) then b.a
                            else
                              bif decide (0 ≥ b.k) then
                                bif decide ((IntKind.i64.wrap (0 - b.k)).toNat = 0) then b.p0
                                else
                                  bif decide ((IntKind.i64.wrap (0 - b.k)).toNat = 1) then b.p1
                                  else bif decide ((IntKind.i64.wrap (0 - b.k)).toNat = 2) then b.p2 else b.p3
                              else 0
                        else
                          bif 0 == IntKind.i64.wrap (b.k - 1) then b.a
                          else
                            bif decide (0 ≥ b.k) then
                              bif decide ((IntKind.i64.wrap (0 - b.k)).toNat = 0) then b.p0
                              else
                                bif decide ((IntKind.i64.wrap (0 - b.k)).toNat = 1) then b.p1
                                else bif decide ((IntKind.i64.wrap (0 - b.k)).toNat = 2) then b.p2 else b.p3
                            else 0
                      else
                        bif 0 == IntKind.i64.wrap (b.k - 1) then b.a
                        else
                          bif decide (0 ≥ b.k) then
                            bif decide ((IntKind.i64.wrap (0 - b.k)).toNat = 0) then b.p0
                            else
                              bif decide ((IntKind.i64.wrap (0 - b.k)).toNat = 1) then b.p1
                              else bif decide ((IntKind.i64.wrap (0 - b.k)).toNat = 2) then b.p2 else b.p3
                          else 0
                    else 0)) then
          false
        else
          bif
              decide (0 < IntKind.i64.wrap (a.k + a.n)) &&
                (decide (1 < IntKind.i64.wrap (a.k + a.n)) &&
                  (decide (1 < a.k) &&
                      !(decide (0 < IntKind.i64.wrap (b.k + b.n)) &&
                          (decide (1 < IntKind.i64.wrap (b.k + b.n)) &&
                            bif decide (2 < IntKind.i64.wrap (b.k + b.n)) then
                              bif decide (3 < IntKind.i64.wrap (b.k + b.n)) then decide (1 < b.k) else decide (1 < b.k)
                            else decide (1 < b.k))) &&
                    (bif decide (0 < IntKind.i64.wrap (b.k + b.n)) then
                        bif decide (1 < IntKind.i64.wrap (b.k + b.n)) then
                          bif decide (2 < IntKind.i64.wrap (b.k + b.n)) then
                            bif decide (3 < IntKind.i64.wrap (b.k + b.n)) then
                              bif 1 == IntKind.i64.wrap (b.k - 1) then b.a
                              else
                                bif decide (1 ≥ b.k) then
                                  bif decide ((IntKind.i64.wrap (1 - b.k)).toNat = 0) then b.p0
                                  else
                                    bif decide ((IntKind.i64.wrap (1 - b.k)).toNat = 1) then b.p1
                                    else bif decide ((IntKind.i64.wrap (1 - b.k)).toNat = 2) then b.p2 else b.p3
                                else 0
                            else
                              bif 1 == IntKind.i64.wrap (b.k - 1) then b.a
                              else
                                bif decide (1 ≥ b.k) then
                                  bif decide ((IntKind.i64.wrap (1 - b.k)).toNat = 0) then b.p0
                                  else
                                    bif decide ((IntKind.i64.wrap (1 - b.k)).toNat = 1) then b.p1
                                    else bif decide ((IntKind.i64.wrap (1 - b.k)).toNat = 2) then b.p2 else b.p3
                                else 0
                          else
                            bif 1 == IntKind.i64.wrap (b.k - 1) then b.a
                            else
                              bif decide (1 ≥ b.k) then
                                bif decide ((IntKind.i64.wrap (1 - b.k)).toNat = 0) then b.p0
                                else
                                  bif decide ((IntKind.i64.wrap (1 - b.k)).toNat = 1) then b.p1
                                  else bif decide ((IntKind.i64.wrap (1 - b.k)).toNat = 2) then b.p2 else b.p3
                              else 0
                        else 0
                      else 0) !=
                      1048576)) then
            false
          else
            bif
                decide (0 < IntKind.i64.wrap (a.k + a.n)) &&
                  (decide (1 < IntKind.i64.wrap (a.k + a.n)) &&
                    (!(decide (1 < a.k) &&
                          !(decide (0 < IntKind.i64.wrap (b.k + b.n)) &&
                              (decide (1 < IntKind.i64.wrap (b.k + b.n)) &&
                                bif decide (2 < IntKind.i64.wrap (b.k + b.n)) then
                                  bif decide (3 < IntKind.i64.wrap (b.k + b.n)) then decide (1 < b.k)
                                  else decide (1 < b.k)
                                else decide (1 < b.k)))) &&
                      decide
                        ((bif 1 == IntKind.i64.wrap (a.k - 1) then a.a
                          else
                            bif decide (1 ≥ a.k) then
                              bif decide ((IntKind.i64.wrap (1 - a.k)).toNat = 0) then a.p0
                              else
                                bif decide ((IntKind.i64.wrap (1 - a.k)).toNat = 1) then a.p1
                                else bif decide ((IntKind.i64.wrap (1 - a.k)).toNat = 2) then a.p2 else a.p3
                            else 0) >
                          bif decide (0 < IntKind.i64.wrap (b.k + b.n)) then
                            bif decide (1 < IntKind.i64.wrap (b.k + b.n)) then
                              bif decide (2 < IntKind.i64.wrap (b.k + b.n)) then
                                bif decide (3 < IntKind.i64.wrap (b.k + b.n)) then
                                  bif 1 == IntKind.i64.wrap (b.k - 1) then b.a
                                  else
                                    bif decide (1 ≥ b.k) then
                                      bif decide ((IntKind.i64.wrap (1 - b.k)).toNat = 0) then b.p0
                                      else
                                        bif decide ((IntKind.i64.wrap (1 - b.k)).toNat = 1) then b.p1
                                        else bif decide ((IntKind.i64.wrap (1 - b.k)).toNat = 2) then b.p2 else b.p3
                                    else 0
                                else
                                  bif 1 == IntKind.i64.wrap (b.k - 1) then b.a
                                  else
                                    bif decide (1 ≥ b.k) then
                                      bif decide ((IntKind.i64.wrap (1 - b.k)).toNat = 0) then b.p0
                                      else
                                        bif decide ((IntKind.i64.wrap (1 - b.k)).toNat = 1) then b.p1
                                        else bif decide ((IntKind.i64.wrap (1 - b.k)).toNat = 2) then b.p2 else b.p3
                                    else 0
                              else
                                bif 1 == IntKind.i64.wrap (b.k - 1) then b.a
                                else
                                  bif decide (1 ≥ b.k) then
                                    bif decide ((IntKind.i64.wrap (1 - b.k)).toNat = 0) then b.p0
                                    else
                                      bif decide ((IntKind.i64.wrap (1 - b.k)).toNat = 1) then b.p1
                                      else bif decide ((IntKind.i64.wrap (1 - b.k)).toNat = 2) then b.p2 else b.p3
                                  else 0
                            else 0
                          else 0))) then
              false
            else
              bif
                  decide (0 < IntKind.i64.wrap (a.k + a.n)) &&
                    (decide (1 < IntKind.i64.wrap (a.k + a.n)) &&
                      (decide (2 < IntKind.i64.wrap (a.k + a.n)) &&
                        (decide (2 < a.k) &&
                            !(decide (0 < IntKind.i64.wrap (b.k + b.n)) &&
                                (decide (1 < IntKind.i64.wrap (b.k + b.n)) &&
                                  (decide (2 < IntKind.i64.wrap (b.k + b.n)) &&
                                    bif decide (3 < IntKind.i64.wrap (b.k + b.n)) then decide (2 < b.k)
                                    else decide (2 < b.k)))) &&
                          (bif decide (0 < IntKind.i64.wrap (b.k + b.n)) then
                              bif decide (1 < IntKind.i64.wrap (b.k + b.n)) then
                                bif decide (2 < IntKind.i64.wrap (b.k + b.n)) then
                                  bif decide (3 < IntKind.i64.wrap (b.k + b.n)) then
                                    bif 2 == IntKind.i64.wrap (b.k - 1) then b.a
                                    else
                                      bif decide (2 ≥ b.k) then
                                        bif decide ((IntKind.i64.wrap (2 - b.k)).toNat = 0) then b.p0
                                        else
                                          bif decide ((IntKind.i64.wrap (2 - b.k)).toNat = 1) then b.p1
                                          else bif decide ((IntKind.i64.wrap (2 - b.k)).toNat = 2) then b.p2 else b.p3
                                      else 0
                                  else
                                    bif 2 == IntKind.i64.wrap (b.k - 1) then b.a
                                    else
                                      bif decide (2 ≥ b.k) then
                                        bif decide ((IntKind.i64.wrap (2 - b.k)).toNat = 0) then b.p0
                                        else
                                          bif decide ((IntKind.i64.wrap (2 - b.k)).toNat = 1) then b.p1
                                          else bif decide ((IntKind.i64.wrap (2 - b.k)).toNat = 2) then b.p2 else b.p3
                                      else 0
                                else 0
                              else 0
                            else 0) !=
                            1048576))) then
                false
              else
                bif
                    decide (0 < IntKind.i64.wrap (a.k + a.n)) &&
                      (decide (1 < IntKind.i64.wrap (a.k + a.n)) &&
                        (decide (2 < IntKind.i64.wrap (a.k + a.n)) &&
                          (!(decide (2 < a.k) &&
                                !(decide (0 < IntKind.i64.wrap (b.k + b.n)) &&
                                    (decide (1 < IntKind.i64.wrap (b.k + b.n)) &&
                                      (decide (2 < IntKind.i64.wrap (b.k + b.n)) &&
                                        bif decide (3 < IntKind.i64.wrap (b.k + b.n)) then decide (2 < b.k)
                                        else decide (2 < b.k))))) &&
                            decide
                              ((bif 2 == IntKind.i64.wrap (a.k - 1) then a.a
                                else
                                  bif decide (2 ≥ a.k) then
                                    bif decide ((IntKind.i64.wrap (2 - a.k)).toNat = 0) then a.p0
                                    else
                                      bif decide ((IntKind.i64.wrap (2 - a.k)).toNat = 1) then a.p1
                                      else bif decide ((IntKind.i64.wrap (2 - a.k)).toNat = 2) then a.p2 else a.p3
                                  else 0) >
                                bif decide (0 < IntKind.i64.wrap (b.k + b.n)) then
                                  bif decide (1 < IntKind.i64.wrap (b.k + b.n)) then
                                    bif decide (2 < IntKind.i64.wrap (b.k + b.n)) then
                                      bif decide (3 < IntKind.i64.wrap (b.k + b.n)) then
                                        bif 2 == IntKind.i64.wrap (b.k - 1) then b.a
                                        else
                                          bif decide (2 ≥ b.k) then
                                            bif decide ((IntKind.i64.wrap (2 - b.k)).toNat = 0) then b.p0
                                            else
                                              bif decide ((IntKind.i64.wrap (2 - b.k)).toNat = 1) then b.p1
                                              else bif decide ((IntKind.i64.wrap (2 - b.k)).toNat = 2) then b.p2 else b.p3
                                          else 0
                                      else
                                        bif 2 == IntKind.i64.wrap (b.k - 1) then b.a
                                        else
                                          bif decide (2 ≥ b.k) then
                                            bif decide ((IntKind.i64.wrap (2 - b.k)).toNat = 0) then b.p0
                                            else
                                              bif decide ((IntKind.i64.wrap (2 - b.k)).toNat = 1) then b.p1
                                              else bif decide ((IntKind.i64.wrap (2 - b.k)).toNat = 2) then b.p2 else b.p3
                                          else 0
                                    else 0
                                  else 0
                                else 0)))) then
                  false
                else
                  bif
                      decide (0 < IntKind.i64.wrap (a.k + a.n)) &&
                        (decide (1 < IntKind.i64.wrap (a.k + a.n)) &&
                          (decide (2 < IntKind.i64.wrap (a.k + a.n)) &&
                            (decide (3 < IntKind.i64.wrap (a.k + a.n)) &&
                              (decide (3 < a.k) &&
                                  !(decide (0 < IntKind.i64.wrap (b.k + b.n)) &&
                                      (decide (1 < IntKind.i64.wrap (b.k + b.n)) &&
                                        (decide (2 < IntKind.i64.wrap (b.k + b.n)) &&
                                          (decide (3 < IntKind.i64.wrap (b.k + b.n)) && decide (3 < b.k))))) &&
                                (bif decide (0 < IntKind.i64.wrap (b.k + b.n)) then
                                    bif decide (1 < IntKind.i64.wrap (b.k + b.n)) then
                                      bif decide (2 < IntKind.i64.wrap (b.k + b.n)) then
                                        bif decide (3 < IntKind.i64.wrap (b.k + b.n)) then
                                          bif 3 == IntKind.i64.wrap (b.k - 1) then b.a
                                          else
                                            bif decide (3 ≥ b.k) then
                                              bif decide ((IntKind.i64.wrap (3 - b.k)).toNat = 0) then b.p0
                                              else
                                                bif decide ((IntKind.i64.wrap (3 - b.k)).toNat = 1) then b.p1
                                                else
                                                  bif decide ((IntKind.i64.wrap (3 - b.k)).toNat = 2) then b.p2 else b.p3
                                            else 0
                                        else 0
                                      else 0
                                    else 0
                                  else 0) !=
                                  1048576)))) then
                    false
                  else
                    bif
                        decide (0 < IntKind.i64.wrap (a.k + a.n)) &&
                          (decide (1 < IntKind.i64.wrap (a.k + a.n)) &&
                            (decide (2 < IntKind.i64.wrap (a.k + a.n)) &&
                              (decide (3 < IntKind.i64.wrap (a.k + a.n)) &&
                                (!(decide (3 < a.k) &&
                                      !(decide (0 < IntKind.i64.wrap (b.k + b.n)) &&
                                          (decide (1 < IntKind.i64.wrap (b.k + b.n)) &&
                                            (decide (2 < IntKind.i64.wrap (b.k + b.n)) &&
                                              (decide (3 < IntKind.i64.wrap (b.k + b.n)) && decide (3 < b.k)))))) &&
                                  decide
                                    ((bif 3 == IntKind.i64.wrap (a.k - 1) then a.a
                                      else
                                        bif decide (3 ≥ a.k) then
                                          bif decide ((IntKind.i64.wrap (3 - a.k)).toNat = 0) then a.p0
                                          else
                                            bif decide ((IntKind.i64.wrap (3 - a.k)).toNat = 1) then a.p1
                                            else bif decide ((IntKind.i64.wrap (3 - a.k)).toNat = 2) then a.p2 else a.p3
                                        else 0) >
                                      bif decide (0 < IntKind.i64.wrap (b.k + b.n)) then
                                        bif decide (1 < IntKind.i64.wrap (b.k + b.n)) then
                                          bif decide (2 < IntKind.i64.wrap (b.k + b.n)) then
                                            bif decide (3 < IntKind.i64.wrap (b.k + b.n)) then
                                              bif 3 == IntKind.i64.wrap (b.k - 1) then b.a
                                              else
                                                bif decide (3 ≥ b.k) then
                                                  bif decide ((IntKind.i64.wrap (3 - b.k)).toNat = 0) then b.p0
                                                  else
                                                    bif decide ((IntKind.i64.wrap (3 - b.k)).toNat = 1) then b.p1
                                                    else
                                                      bif decide ((IntKind.i64.wrap (3 - b.k)).toNat = 2) then b.p2
                                                      else b.p3
                                                else 0
                                            else 0
                                          else 0
                                        else 0
                                      else 0))))) then
                      false
                    else
                      bif
                          decide (0 < IntKind.i64.wrap (a.k + a.n)) &&
                            (decide (1 < IntKind.i64.wrap (a.k + a.n)) &&
                              (decide (2 < IntKind.i64.wrap (a.k + a.n)) &&
                                (decide (3 < IntKind.i64.wrap (a.k + a.n)) &&
                                  decide (4 < IntKind.i64.wrap (a.k + a.n))))) then
                        bif decide (4 < a.k) then default else default
                      else true
def leq_side (a : S) (b : S) : Prop :=
  (!may_F a || (!may_F b || (a.f != b.f || IntKind.i64.wrap (a.k + a.n) != IntKind.i64.wrap (b.k + b.n)))) = false →
    (decide (0 < IntKind.i64.wrap (b.k + b.n)) = true →
        (!0 == IntKind.i64.wrap (b.k - 1)) = true →
          decide (0 ≥ b.k) = true → 0 ≤ IntKind.i64.wrap (0 - b.k) ∧ IntKind.i64.wrap (0 - b.k) < 4) ∧
      (decide (0 < IntKind.i64.wrap (b.k + b.n)) = true →
          (!0 == IntKind.i64.wrap (b.k - 1)) = true → decide (0 ≥ b.k) = true → (IntKind.i64.wrap (0 - b.k)).toNat < 4) ∧
        (decide (0 < IntKind.i64.wrap (b.k + b.n)) = true →
            decide (1 < IntKind.i64.wrap (b.k + b.n)) = true →
              (!1 == IntKind.i64.wrap (b.k - 1)) = true →
                decide (1 ≥ b.k) = true → 0 ≤ IntKind.i64.wrap (1 - b.k) ∧ IntKind.i64.wrap (1 - b.k) < 4) ∧
          (decide (0 < IntKind.i64.wrap (b.k + b.n)) = true →
              decide (1 < IntKind.i64.wrap (b.k + b.n)) = true →
                (!1 == IntKind.i64.wrap (b.k - 1)) = true →
                  decide (1 ≥ b.k) = true → (IntKind.i64.wrap (1 - b.k)).toNat < 4) ∧
            (decide (0 < IntKind.i64.wrap (b.k + b.n)) = true →
                decide (1 < IntKind.i64.wrap (b.k + b.n)) = true →
                  decide (2 < IntKind.i64.wrap (b.k + b.n)) = true →
                    (!2 == IntKind.i64.wrap (b.k - 1)) = true →
                      decide (2 ≥ b.k) = true → 0 ≤ IntKind.i64.wrap (2 - b.k) ∧ IntKind.i64.wrap (2 - b.k) < 4) ∧
              (decide (0 < IntKind.i64.wrap (b.k + b.n)) = true →
                  decide (1 < IntKind.i64.wrap (b.k + b.n)) = true →
                    decide (2 < IntKind.i64.wrap (b.k + b.n)) = true →
                      (!2 == IntKind.i64.wrap (b.k - 1)) = true →
                        decide (2 ≥ b.k) = true → (IntKind.i64.wrap (2 - b.k)).toNat < 4) ∧
                (decide (0 < IntKind.i64.wrap (b.k + b.n)) = true →
                    decide (1 < IntKind.i64.wrap (b.k + b.n)) = true →
                      decide (2 < IntKind.i64.wrap (b.k + b.n)) = true →
                        decide (3 < IntKind.i64.wrap (b.k + b.n)) = true →
                          (!3 == IntKind.i64.wrap (b.k - 1)) = true →
                            decide (3 ≥ b.k) = true → 0 ≤ IntKind.i64.wrap (3 - b.k) ∧ IntKind.i64.wrap (3 - b.k) < 4) ∧
                  (decide (0 < IntKind.i64.wrap (b.k + b.n)) = true →
                      decide (1 < IntKind.i64.wrap (b.k + b.n)) = true →
                        decide (2 < IntKind.i64.wrap (b.k + b.n)) = true →
                          decide (3 < IntKind.i64.wrap (b.k + b.n)) = true →
                            (!3 == IntKind.i64.wrap (b.k - 1)) = true →
                              decide (3 ≥ b.k) = true → (IntKind.i64.wrap (3 - b.k)).toNat < 4) ∧
                    ((decide (0 < IntKind.i64.wrap (b.k + b.n)) &&
                            (decide (1 < IntKind.i64.wrap (b.k + b.n)) &&
                              (decide (2 < IntKind.i64.wrap (b.k + b.n)) &&
                                (decide (3 < IntKind.i64.wrap (b.k + b.n)) &&
                                  decide (4 < IntKind.i64.wrap (b.k + b.n)))))) =
                          true →
                        ((!4 == IntKind.i64.wrap (b.k - 1)) = true →
                            decide (4 ≥ b.k) = true → 0 ≤ IntKind.i64.wrap (4 - b.k) ∧ IntKind.i64.wrap (4 - b.k) < 4) ∧
                          ((!4 == IntKind.i64.wrap (b.k - 1)) = true →
                              decide (4 ≥ b.k) = true → (IntKind.i64.wrap (4 - b.k)).toNat < 4) ∧
                            False) ∧
                      ((decide (0 < IntKind.i64.wrap (b.k + b.n)) &&
                            (decide (1 < IntKind.i64.wrap (b.k + b.n)) &&
                              (decide (2 < IntKind.i64.wrap (b.k + b.n)) &&
                                (decide (3 < IntKind.i64.wrap (b.k + b.n)) &&
                                  decide (4 < IntKind.i64.wrap (b.k + b.n)))))) =
                          false →
                        (decide (0 < IntKind.i64.wrap (a.k + a.n)) = true →
                            (!0 == IntKind.i64.wrap (a.k - 1)) = true →
                              decide (0 ≥ a.k) = true → 0 ≤ IntKind.i64.wrap (0 - a.k) ∧ IntKind.i64.wrap (0 - a.k) < 4) ∧
                          (decide (0 < IntKind.i64.wrap (a.k + a.n)) = true →
                              (!0 == IntKind.i64.wrap (a.k - 1)) = true →
                                decide (0 ≥ a.k) = true → (IntKind.i64.wrap (0 - a.k)).toNat < 4) ∧
                            ((decide (0 < IntKind.i64.wrap (a.k + a.n)) &&
                                  (decide (0 < a.k) &&
                                      !(decide (0 < IntKind.i64.wrap (b.k + b.n)) &&
                                          bif decide (1 < IntKind.i64.wrap (b.k + b.n)) then
                                            bif decide (2 < IntKind.i64.wrap (b.k + b.n)) then
                                              bif decide (3 < IntKind.i64.wrap (b.k + b.n)) then decide (0 < b.k)
                                              else decide (0 < b.k)
                                            else decide (0 < b.k)
                                          else decide (0 < b.k)) &&
                                    (bif decide (0 < IntKind.i64.wrap (b.k + b.n)) then
                                        bif decide (1 < IntKind.i64.wrap (b.k + b.n)) then
                                          bif decide (2 < IntKind.i64.wrap (b.k + b.n)) then
                                            bif decide (3 < IntKind.i64.wrap (b.k + b.n)) then
                                              bif 0 == IntKind.i64.wrap (b.k - 1) then b.a
                                              else
                                                bif decide (0 ≥ b.k) then
                                                  bif decide ((IntKind.i64.wrap (0 - b.k)).toNat = 0) then b.p0
                                                  else
                                                    bif decide ((IntKind.i64.wrap (0 - b.k)).toNat = 1) then b.p1
                                                    else
                                                      bif decide ((IntKind.i64.wrap (0 - b.k)).toNat = 2) then b.p2
                                                      else b.p3
                                                else 0
                                            else
                                              bif 0 == IntKind.i64.wrap (b.k - 1) then b.a
                                              else
                                                bif decide (0 ≥ b.k) then
                                                  bif decide ((IntKind.i64.wrap (0 - b.k)).toNat = 0) then b.p0
                                                  else
                                                    bif decide ((IntKind.i64.wrap (0 - b.k)).toNat = 1) then b.p1
                                                    else
                                                      bif decide ((IntKind.i64.wrap (0 - b.k)).toNat = 2) then b.p2
                                                      else b.p3
                                                else 0
                                          else
                                            bif 0 == IntKind.i64.wrap (b.k - 1) then b.a
                                            else
                                              bif decide (0 ≥ b.k) then
                                                bif decide ((IntKind.i64.wrap (0 - b.k)).toNat = 0) then b.p0
                                                else
                                                  bif decide ((IntKind.i64.wrap (0 - b.k)).toNat = 1) then b.p1
                                                  else
                                                    bif decide ((IntKind.i64.wrap (0 - b.k)).toNat = 2) then b.p2
                                                    else b.p3
                                              else 0
                                        else
                                          bif 0 == IntKind.i64.wrap (b.k - 1) then b.a
                                          else
                                            bif decide (0 ≥ b.k) then
                                              bif decide ((IntKind.i64.wrap (0 - b.k)).toNat = 0) then b.p0
                                              else
                                                bif decide ((IntKind.i64.wrap (0 - b.k)).toNat = 1) then b.p1
                                                else
                                                  bif decide ((IntKind.i64.wrap (0 - b.k)).toNat = 2) then b.p2 else b.p3
                                            else 0
                                      else 0) !=
                                      1048576)) =
                                false →
                              (decide (0 < IntKind.i64.wrap (a.k + a.n)) &&
                                    (!(decide (0 < a.k) &&
                                          !(decide (0 < IntKind.i64.wrap (b.k + b.n)) &&
                                              bif decide (1 < IntKind.i64.wrap (b.k + b.n)) then
                                                bif decide (2 < IntKind.i64.wrap (b.k + b.n)) then
                                                  bif decide (3 < IntKind.i64.wrap (b.k + b.n)) then decide (0 < b.k)
                                                  else decide (0 < b.k)
                                                else decide (0 < b.k)
                                              else decide (0 < b.k))) &&
                                      decide
                                        ((bif 0 == IntKind.i64.wrap (a.k - 1) then a.a
                                          else
                                            bif decide (0 ≥ a.k) then
                                              bif decide ((IntKind.i64.wrap (0 - a.k)).toNat = 0) then a.p0
                                              else
                                                bif decide ((IntKind.i64.wrap (0 - a.k)).toNat = 1) then a.p1
                                                else
                                                  bif decide ((IntKind.i64.wrap (0 - a.k)).toNat = 2) then a.p2 else a.p3
                                            else 0) >
                                          bif decide (0 < IntKind.i64.wrap (b.k + b.n)) then
                                            bif decide (1 < IntKind.i64.wrap (b.k + b.n)) then
                                              bif decide (2 < IntKind.i64.wrap (b.k + b.n)) then
                                                bif decide (3 < IntKind.i64.wrap (b.k + b.n)) then
                                                  bif 0 == IntKind.i64.wrap (b.k - 1) then b.a
                                                  else
                                                    bif decide (0 ≥ b.k) then
                                                      bif decide ((IntKind.i64.wrap (0 - b.k)).toNat = 0) then b.p0
                                                      else
                                                        bif decide ((IntKind.i64.wrap (0 - b.k)).toNat = 1) then b.p1
                                                        else
                                                          bif decide ((IntKind.i64.wrap (0 - b.k)).toNat = 2) then b.p2
                                                          else b.p3
                                                    else 0
                                                else
                                                  bif 0 == IntKind.i64.wrap (b.k - 1) then b.a
                                                  else
                                                    bif decide (0 ≥ b.k) then
                                                      bif decide ((IntKind.i64.wrap (0 - b.k)).toNat = 0) then b.p0
                                                      else
                                                        bif decide ((IntKind.i64.wrap (0 - b.k)).toNat = 1) then b.p1
                                                        else
                                                          bif decide ((IntKind.i64.wrap (0 - b.k)).toNat = 2) then b.p2
                                                          else b.p3
                                                    else 0
                                              else
                                                bif 0 == IntKind.i64.wrap (b.k - 1) then b.a
                                                else
                                                  bif decide (0 ≥ b.k) then
                                                    bif decide ((IntKind.i64.wrap (0 - b.k)).toNat = 0) then b.p0
                                                    else
                                                      bif decide ((IntKind.i64.wrap (0 - b.k)).toNat = 1) then b.p1
                                                      else
                                                        bif decide ((IntKind.i64.wrap (0 - b.k)).toNat = 2) then b.p2
                                                        else b.p3
                                                  else 0
                                            else
                                              bif 0 == IntKind.i64.wrap (b.k - 1) then b.a
                                              else
                                                bif decide (0 ≥ b.k) then
                                                  bif decide ((IntKind.i64.wrap (0 - b.k)).toNat = 0) then b.p0
                                                  else
                                                    bif decide ((IntKind.i64.wrap (0 - b.k)).toNat = 1) then b.p1
                                                    else
                                                      bif decide ((IntKind.i64.wrap (0 - b.k)).toNat = 2) then b.p2
                                                      else b.p3
                                                else 0
                                          else 0))) =
                                  false →
                                (decide (0 < IntKind.i64.wrap (a.k + a.n)) = true →
                                    decide (1 < IntKind.i64.wrap (a.k + a.n)) = true →
                                      (!1 == IntKind.i64.wrap (a.k - 1)) = true →
                                        decide (1 ≥ a.k) = true →
                                          0 ≤ IntKind.i64.wrap (1 - a.k) ∧ IntKind.i64.wrap (1 - a.k) < 4) ∧
                                  (decide (0 < IntKind.i64.wrap (a.k + a.n)) = true →
                                      decide (1 < IntKind.i64.wrap (a.k + a.n)) = true →
                                        (!1 == IntKind.i64.wrap (a.k - 1)) = true →
                                          decide (1 ≥ a.k) = true → (IntKind.i64.wrap (1 - a.k)).toNat < 4) ∧
                                    ((decide (0 < IntKind.i64.wrap (a.k + a.n)) &&
                                          (decide (1 < IntKind.i64.wrap (a.k + a.n)) &&
                                            (decide (1 < a.k) &&
                                                !(decide (0 < IntKind.i64.wrap (b.k + b.n)) &&
                                                    (decide (1 < IntKind.i64.wrap (b.k + b.n)) &&
                                                      bif decide (2 < IntKind.i64.wrap (b.k + b.n)) then
                                                        bif decide (3 < IntKind.i64.wrap (b.k + b.n)) then
                                                          decide (1 < b.k)
                                                        else decide (1 < b.k)
                                                      else decide (1 < b.k))) &&
                                              (bif decide (0 < IntKind.i64.wrap (b.k + b.n)) then
                                                  bif decide (1 < IntKind.i64.wrap (b.k + b.n)) then
                                                    bif decide (2 < IntKind.i64.wrap (b.k + b.n)) then
                                                      bif decide (3 < IntKind.i64.wrap (b.k + b.n)) then
                                                        bif 1 == IntKind.i64.wrap (b.k - 1) then b.a
                                                        else
                                                          bif decide (1 ≥ b.k) then
                                                            bif decide ((IntKind.i64.wrap (1 - b.k)).toNat = 0) then b.p0
                                                            else
                                                              bif decide ((IntKind.i64.wrap (1 - b.k)).toNat = 1) then
                                                                b.p1
                                                              else
                                                                bif decide ((IntKind.i64.wrap (1 - b.k)).toNat = 2) then
                                                                  b.p2
                                                                else b.p3
                                                          else 0
                                                      else
                                                        bif 1 == IntKind.i64.wrap (b.k - 1) then b.a
                                                        else
                                                          bif decide (1 ≥ b.k) then
                                                            bif decide ((IntKind.i64.wrap (1 - b.k)).toNat = 0) then b.p0
                                                            else
                                                              bif decide ((IntKind.i64.wrap (1 - b.k)).toNat = 1) then
                                                                b.p1
                                                              else
                                                                bif decide ((IntKind.i64.wrap (1 - b.k)).toNat = 2) then
                                                                  b.p2
                                                                else b.p3
                                                          else 0
                                                    else
                                                      bif 1 == IntKind.i64.wrap (b.k - 1) then b.a
                                                      else
                                                        bif decide (1 ≥ b.k) then
                                                          bif decide ((IntKind.i64.wrap (1 - b.k)).toNat = 0) then b.p0
                                                          else
                                                            bif decide ((IntKind.i64.wrap (1 - b.k)).toNat = 1) then b.p1
                                                            else
                                                              bif decide ((IntKind.i64.wrap (1 - b.k)).toNat = 2) then
                                                                b.p2
                                                              else b.p3
                                                        else 0
                                                  else 0
                                                else 0) !=
                                                1048576))) =
                                        false →
                                      (decide (0 < IntKind.i64.wrap (a.k + a.n)) &&
                                            (decide (1 < IntKind.i64.wrap (a.k + a.n)) &&
                                              (!(decide (1 < a.k) &&
                                                    !(decide (0 < IntKind.i64.wrap (b.k + b.n)) &&
                                                        (decide (1 < IntKind.i64.wrap (b.k + b.n)) &&
                                                          bif decide (2 < IntKind.i64.wrap (b.k + b.n)) then
                                                            bif decide (3 < IntKind.i64.wrap (b.k + b.n)) then
                                                              decide (1 < b.k)
                                                            else decide (1 < b.k)
                                                          else decide (1 < b.k)))) &&
                                                decide
                                                  ((bif 1 == IntKind.i64.wrap (a.k - 1) then a.a
                                                    else
                                                      bif decide (1 ≥ a.k) then
                                                        bif decide ((IntKind.i64.wrap (1 - a.k)).toNat = 0) then a.p0
                                                        else
                                                          bif decide ((IntKind.i64.wrap (1 - a.k)).toNat = 1) then a.p1
                                                          else
                                                            bif decide ((IntKind.i64.wrap (1 - a.k)).toNat = 2) then a.p2
                                                            else a.p3
                                                      else 0) >
                                                    bif decide (0 < IntKind.i64.wrap (b.k + b.n)) then
                                                      bif decide (1 < IntKind.i64.wrap (b.k + b.n)) then
                                                        bif decide (2 < IntKind.i64.wrap (b.k + b.n)) then
                                                          bif decide (3 < IntKind.i64.wrap (b.k + b.n)) then
                                                            bif 1 == IntKind.i64.wrap (b.k - 1) then b.a
                                                            else
                                                              bif decide (1 ≥ b.k) then
                                                                bif decide ((IntKind.i64.wrap (1 - b.k)).toNat = 0) then
                                                                  b.p0
                                                                else
                                                                  bif decide ((IntKind.i64.wrap (1 - b.k)).toNat = 1) then
                                                                    b.p1
                                                                  else
                                                                    bif
                                                                        decide
                                                                          ((IntKind.i64.wrap (1 - b.k)).toNat = 2) then
                                                                      b.p2
                                                                    else b.p3
                                                              else 0
                                                          else
                                                            bif 1 == IntKind.i64.wrap (b.k - 1) then b.a
                                                            else
                                                              bif decide (1 ≥ b.k) then
                                                                bif decide ((IntKind.i64.wrap (1 - b.k)).toNat = 0) then
                                                                  b.p0
                                                                else
                                                                  bif decide ((IntKind.i64.wrap (1 - b.k)).toNat = 1) then
                                                                    b.p1
                                                                  else
                                                                    bif
                                                                        decide
                                                                          ((IntKind.i64.wrap (1 - b.k)).toNat = 2) then
                                                                      b.p2
                                                                    else b.p3
                                                              else 0
                                                        else
                                                          bif 1 == IntKind.i64.wrap (b.k - 1) then b.a
                                                          else
                                                            bif decide (1 ≥ b.k) then
                                                              bif decide ((IntKind.i64.wrap (1 - b.k)).toNat = 0) then
                                                                b.p0
                                                              else
                                                                bif decide ((IntKind.i64.wrap (1 - b.k)).toNat = 1) then
                                                                  b.p1
                                                                else
                                                                  bif decide ((IntKind.i64.wrap (1 - b.k)).toNat = 2) then
                                                                    b.p2
                                                                  else b.p3
                                                            else 0
                                                      else 0
                                                    else 0)))) =
                                          false →
                                        (decide (0 < IntKind.i64.wrap (a.k + a.n)) = true →
                                            decide (1 < IntKind.i64.wrap (a.k + a.n)) = true →
                                              decide (2 < IntKind.i64.wrap (a.k + a.n)) = true →
                                                (!2 == IntKind.i64.wrap (a.k - 1)) = true →
                                                  decide (2 ≥ a.k) = true →
                                                    0 ≤ IntKind.i64.wrap (2 - a.k) ∧ IntKind.i64.wrap (2 - a.k) < 4) ∧
                                          (decide (0 < IntKind.i64.wrap (a.k + a.n)) = true →
                                              decide (1 < IntKind.i64.wrap (a.k + a.n)) = true →
                                                decide (2 < IntKind.i64.wrap (a.k + a.n)) = true →
                                                  (!2 == IntKind.i64.wrap (a.k - 1)) = true →
                                                    decide (2 ≥ a.k) = true → (IntKind.i64.wrap (2 - a.k)).toNat < 4) ∧
                                            ((decide (0 < IntKind.i64.wrap (a.k + a.n)) &&
                                                  (decide (1 < IntKind.i64.wrap (a.k + a.n)) &&
                                                    (decide (2 < IntKind.i64.wrap (a.k + a.n)) &&
                                                      (decide (2 < a.k) &&
                                                          !(decide (0 < IntKind.i64.wrap (b.k + b.n)) &&
                                                              (decide (1 < IntKind.i64.wrap (b.k + b.n)) &&
                                                                (decide (2 < IntKind.i64.wrap (b.k + b.n)) &&
                                                                  bif decide (3 < IntKind.i64.wrap (b.k + b.n)) then
                                                                    decide (2 < b.k)
                                                                  else decide (2 < b.k)))) &&
                                                        (bif decide (0 < IntKind.i64.wrap (b.k + b.n)) then
                                                            bif decide (1 < IntKind.i64.wrap (b.k + b.n)) then
                                                              bif decide (2 < IntKind.i64.wrap (b.k + b.n)) then
                                                                bif decide (3 < IntKind.i64.wrap (b.k + b.n)) then
                                                                  bif 2 == IntKind.i64.wrap (b.k - 1) then b.a
                                                                  else
                                                                    bif decide (2 ≥ b.k) then
                                                                      bif
                                                                          decide
                                                                            ((IntKind.i64.wrap (2 - b.k)).toNat = 0) then
                                                                        b.p0
                                                                      else
                                                                        bif
                                                                            decide
                                                                              ((IntKind.i64.wrap (2 - b.k)).toNat =
                                                                                1) then
                                                                          b.p1
                                                                        else
                                                                          bif
                                                                              decide
                                                                                ((IntKind.i64.wrap (2 - b.k)).toNat =
                                                                                  2) then
                                                                            b.p2
                                                                          else b.p3
                                                                    else 0
                                                                else
                                                                  bif 2 == IntKind.i64.wrap (b.k - 1) then b.a
                                                                  else
                                                                    bif decide (2 ≥ b.k) then
                                                                      bif
                                                                          decide
                                                                            ((IntKind.i64.wrap (2 - b.k)).toNat = 0) then
                                                                        b.p0
                                                                      else
                                                                        bif
                                                                            decide
                                                                              ((IntKind.i64.wrap (2 - b.k)).toNat =
                                                                                1) then
                                                                          b.p1
                                                                        else
                                                                          bif
                                                                              decide
                                                                                ((IntKind.i64.wrap (2 - b.k)).toNat =
                                                                                  2) then
                                                                            b.p2
                                                                          else b.p3
                                                                    else 0
                                                              else 0
                                                            else 0
                                                          else 0) !=
                                                          1048576)))) =
                                                false →
                                              (decide (0 < IntKind.i64.wrap (a.k + a.n)) &&
                                                    (decide (1 < IntKind.i64.wrap (a.k + a.n)) &&
                                                      (decide (2 < IntKind.i64.wrap (a.k + a.n)) &&
                                                        (!(decide (2 < a.k) &&
                                                              !(decide (0 < IntKind.i64.wrap (b.k + b.n)) &&
                                                                  (decide (1 < IntKind.i64.wrap (b.k + b.n)) &&
                                                                    (decide (2 < IntKind.i64.wrap (b.k + b.n)) &&
                                                                      bif decide (3 < IntKind.i64.wrap (b.k + b.n)) then
                                                                        decide (2 < b.k)
                                                                      else decide (2 < b.k))))) &&
                                                          decide
                                                            ((bif 2 == IntKind.i64.wrap (a.k - 1) then a.a
                                                              else
                                                                bif decide (2 ≥ a.k) then
                                                                  bif decide ((IntKind.i64.wrap (2 - a.k)).toNat = 0) then
                                                                    a.p0
                                                                  else
                                                                    bif
                                                                        decide
                                                                          ((IntKind.i64.wrap (2 - a.k)).toNat = 1) then
                                                                      a.p1
                                                                    else
                                                                      bif
                                                                          decide
                                                                            ((IntKind.i64.wrap (2 - a.k)).toNat = 2) then
                                                                        a.p2
                                                                      else a.p3
                                                                else 0) >
                                                              bif decide (0 < IntKind.i64.wrap (b.k + b.n)) then
                                                                bif decide (1 < IntKind.i64.wrap (b.k + b.n)) then
                                                                  bif decide (2 < IntKind.i64.wrap (b.k + b.n)) then
                                                                    bif decide (3 < IntKind.i64.wrap (b.k + b.n)) then
                                                                      bif 2 == IntKind.i64.wrap (b.k - 1) then b.a
                                                                      else
                                                                        bif decide (2 ≥ b.k) then
                                                                          bif
                                                                              decide
                                                                                ((IntKind.i64.wrap (2 - b.k)).toNat =
                                                                                  0) then
                                                                            b.p0
                                                                          else
                                                                            bif
                                                                                decide
                                                                                  ((IntKind.i64.wrap (2 - b.k)).toNat =
                                                                                    1) then
                                                                              b.p1
                                                                            else
                                                                              bif
                                                                                  decide
                                                                                    ((IntKind.i64.wrap (2 - b.k)).toNat =
                                                                                      2) then
                                                                                b.p2
                                                                              else b.p3
                                                                        else 0
                                                                    else
                                                                      bif 2 == IntKind.i64.wrap (b.k - 1) then b.a
                                                                      else
                                                                        bif decide (2 ≥ b.k) then
                                                                          bif
                                                                              decide
                                                                                ((IntKind.i64.wrap (2 - b.k)).toNat =
                                                                                  0) then
                                                                            b.p0
                                                                          else
                                                                            bif
                                                                                decide
                                                                                  ((IntKind.i64.wrap (2 - b.k)).toNat =
                                                                                    1) then
                                                                              b.p1
                                                                            else
                                                                              bif
                                                                                  decide
                                                                                    ((IntKind.i64.wrap (2 - b.k)).toNat =
                                                                                      2) then
                                                                                b.p2
                                                                              else b.p3
                                                                        else 0
                                                                  else 0
                                                                else 0
                                                              else 0))))) =
                                                  false →
                                                (decide (0 < IntKind.i64.wrap (a.k + a.n)) = true →
                                                    decide (1 < IntKind.i64.wrap (a.k + a.n)) = true →
                                                      decide (2 < IntKind.i64.wrap (a.k + a.n)) = true →
                                                        decide (3 < IntKind.i64.wrap (a.k + a.n)) = true →
                                                          (!3 == IntKind.i64.wrap (a.k - 1)) = true →
                                                            decide (3 ≥ a.k) = true →
                                                              0 ≤ IntKind.i64.wrap (3 - a.k) ∧
                                                                IntKind.i64.wrap (3 - a.k) < 4) ∧
                                                  (decide (0 < IntKind.i64.wrap (a.k + a.n)) = true →
                                                      decide (1 < IntKind.i64.wrap (a.k + a.n)) = true →
                                                        decide (2 < IntKind.i64.wrap (a.k + a.n)) = true →
                                                          decide (3 < IntKind.i64.wrap (a.k + a.n)) = true →
                                                            (!3 == IntKind.i64.wrap (a.k - 1)) = true →
                                                              decide (3 ≥ a.k) = true →
                                                                (IntKind.i64.wrap (3 - a.k)).toNat < 4) ∧
                                                    ((decide (0 < IntKind.i64.wrap (a.k + a.n)) &&
                                                          (decide (1 < IntKind.i64.wrap (a.k + a.n)) &&
                                                            (decide (2 < IntKind.i64.wrap (a.k + a.n)) &&
                                                              (decide (3 < IntKind.i64.wrap (a.k + a.n)) &&
                                                                (decide (3 < a.k) &&
                                                                    !(decide (0 < IntKind.i64.wrap (b.k + b.n)) &&
                                                                        (decide (1 < IntKind.i64.wrap (b.k + b.n)) &&
                                                                          (decide (2 < IntKind.i64.wrap (b.k + b.n)) &&
                                                                            (decide (3 < IntKind.i64.wrap (b.k + b.n)) &&
                                                                              decide (3 < b.k))))) &&
                                                                  (bif decide (0 < IntKind.i64.wrap (b.k + b.n)) then
                                                                      bif decide (1 < IntKind.i64.wrap (b.k + b.n)) then
                                                                        bif decide (2 < IntKind.i64.wrap (b.k + b.n)) then
                                                                          bif
                                                                              decide
                                                                                (3 < IntKind.i64.wrap (b.k + b.n)) then
                                                                            bif 3 == IntKind.i64.wrap (b.k - 1) then b.a
                                                                            else
                                                                              bif decide (3 ≥ b.k) then
                                                                                bif
                                                                                    decide
                                                                                      ((IntKind.i64.wrap
                                                                                            (3 - b.k)).toNat =
                                                                                        0) then
                                                                                  b.p0
                                                                                else
                                                                                  bif
                                                                                      decide
                                                                                        ((IntKind.i64.wrap
                                                                                              (3 - b.k)).toNat =
                                                                                          1) then
                                                                                    b.p1
                                                                                  else
                                                                                    bif
                                                                                        decide
                                                                                          ((IntKind.i64.wrap
                                                                                                (3 - b.k)).toNat =
                                                                                            2) then
                                                                                      b.p2
                                                                                    else b.p3
                                                                              else 0
                                                                          else 0
                                                                        else 0
                                                                      else 0
                                                                    else 0) !=
                                                                    1048576))))) =
                                                        false →
                                                      (decide (0 < IntKind.i64.wrap (a.k + a.n)) &&
                                                            (decide (1 < IntKind.i64.wrap (a.k + a.n)) &&
                                                              (decide (2 < IntKind.i64.wrap (a.k + a.n)) &&
                                                                (decide (3 < IntKind.i64.wrap (a.k + a.n)) &&
                                                                  (!(decide (3 < a.k) &&
                                                                        !(decide (0 < IntKind.i64.wrap (b.k + b.n)) &&
                                                                            (decide (1 < IntKind.i64.wrap (b.k + b.n)) &&
                                                                              (decide
                                                                                  (2 < IntKind.i64.wrap (b.k + b.n)) &&
                                                                                (decide
                                                                                    (3 < IntKind.i64.wrap (b.k + b.n)) &&
                                                                                  decide (3 < b.k)))))) &&
                                                                    decide
                                                                      ((bif 3 == IntKind.i64.wrap (a.k - 1) then a.a
                                                                        else
                                                                          bif decide (3 ≥ a.k) then
                                                                            bif
                                                                                decide
                                                                                  ((IntKind.i64.wrap (3 - a.k)).toNat =
                                                                                    0) then
                                                                              a.p0
                                                                            else
                                                                              bif
                                                                                  decide
                                                                                    ((IntKind.i64.wrap (3 - a.k)).toNat =
                                                                                      1) then
                                                                                a.p1
                                                                              else
                                                                                bif
                                                                                    decide
                                                                                      ((IntKind.i64.wrap
                                                                                            (3 - a.k)).toNat =
                                                                                        2) then
                                                                                  a.p2
                                                                                else a.p3
                                                                          else 0) >
                                                                        bif decide (0 < IntKind.i64.wrap (b.k + b.n)) then
                                                                          bif
                                                                              decide
                                                                                (1 < IntKind.i64.wrap (b.k + b.n)) then
                                                                            bif
                                                                                decide
                                                                                  (2 < IntKind.i64.wrap (b.k + b.n)) then
                                                                              bif
                                                                                  decide
                                                                                    (3 <
                                                                                      IntKind.i64.wrap (b.k + b.n)) then
                                                                                bif 3 == IntKind.i64.wrap (b.k - 1) then
                                                                                  b.a
                                                                                else
                                                                                  bif decide (3 ≥ b.k) then
                                                                                    bif
                                                                                        decide
                                                                                          ((IntKind.i64.wrap
                                                                                                (3 - b.k)).toNat =
                                                                                            0) then
                                                                                      b.p0
                                                                                    else
                                                                                      bif
                                                                                          decide
                                                                                            ((IntKind.i64.wrap
                                                                                                  (3 - b.k)).toNat =
                                                                                              1) then
                                                                                        b.p1
                                                                                      else
                                                                                        bif
                                                                                            decide
                                                                                              ((IntKind.i64.wrap
                                                                                                    (3 - b.k)).toNat =
                                                                                                2) then
                                                                                          b.p2
                                                                                        else b.p3
                                                                                  else 0
                                                                              else 0
                                                                            else 0
                                                                          else 0
                                                                        else 0)))))) =
                                                          false →
                                                        (decide (0 < IntKind.i64.wrap (a.k + a.n)) &&
                                                              (decide (1 < IntKind.i64.wrap (a.k + a.n)) &&
                                                                (decide (2 < IntKind.i64.wrap (a.k + a.n)) &&
                                                                  (decide (3 < IntKind.i64.wrap (a.k + a.n)) &&
                                                                    decide (4 < IntKind.i64.wrap (a.k + a.n)))))) =
                                                            true →
                                                          ((!4 == IntKind.i64.wrap (a.k - 1)) = true →
                                                              decide (4 ≥ a.k) = true →
                                                                0 ≤ IntKind.i64.wrap (4 - a.k) ∧
                                                                  IntKind.i64.wrap (4 - a.k) < 4) ∧
                                                            ((!4 == IntKind.i64.wrap (a.k - 1)) = true →
                                                                decide (4 ≥ a.k) = true →
                                                                  (IntKind.i64.wrap (4 - a.k)).toNat < 4) ∧
                                                              (decide (4 < a.k) = true → False) ∧
                                                                (decide (4 < a.k) = false → False))))))
theorem leq_okS (pre : DA.T aSS → List Prop) (h : ∀ g, DA.bd aSS g → (∀ p ∈ pre g, p) → leq_side g.1 g.2) : FnPure Try.prog 20 aSS dBool (fun g => leq_F g.1 g.2) pre := pure_of_sideS (Γ := (PTab.gamz tab1 [] [(20, 0, 5), (66, 0, 5), (39, 4, 5)])) (Λ := noΛ) (PTab.okz tab1 [] [(20, 0, 5), (66, 0, 5), (39, 4, 5)]) noΛ_ok 100 default (fun g => leq_side g.1 g.2) (fun g => by kernel_rfl) (fun g => by kernel_rfl) h
def rleq_F (a : S) (b : S) : Dv.T dBool :=
  bif
      rcheck_F a != 0 ||
        (rcheck_F b != 0 || (a.f != b.f || IntKind.i64.wrap (a.k + a.n) != IntKind.i64.wrap (b.k + b.n))) then
    false
  else
    bif
        decide (0 < IntKind.i64.wrap (a.k + a.n)) &&
          (decide (0 < a.k) && decide (0 ≥ b.k) &&
            !(bif decide (0 ≥ b.k) then
                  bif decide ((IntKind.i64.wrap (0 - b.k)).toNat = 0) then b.p0
                  else
                    bif decide ((IntKind.i64.wrap (0 - b.k)).toNat = 1) then b.p1
                    else bif decide ((IntKind.i64.wrap (0 - b.k)).toNat = 2) then b.p2 else b.p3
                else bif 0 == IntKind.i64.wrap (b.k - 1) then b.a else 0) ==
                1048576) then
      false
    else
      bif
          decide (0 < IntKind.i64.wrap (a.k + a.n)) &&
            (!(decide (0 < a.k) && decide (0 ≥ b.k)) &&
              !decide
                  ((bif decide (0 ≥ a.k) then
                      bif decide ((IntKind.i64.wrap (0 - a.k)).toNat = 0) then a.p0
                      else
                        bif decide ((IntKind.i64.wrap (0 - a.k)).toNat = 1) then a.p1
                        else bif decide ((IntKind.i64.wrap (0 - a.k)).toNat = 2) then a.p2 else a.p3
                    else bif 0 == IntKind.i64.wrap (a.k - 1) then a.a else 0) ≤
                    bif decide (0 ≥ b.k) then
                      bif decide ((IntKind.i64.wrap (0 - b.k)).toNat = 0) then b.p0
                      else
                        bif decide ((IntKind.i64.wrap (0 - b.k)).toNat = 1) then b.p1
                        else bif decide ((IntKind.i64.wrap (0 - b.k)).toNat = 2) then b.p2 else b.p3
                    else bif 0 == IntKind.i64.wrap (b.k - 1) then b.a else 0)) then
        false
      else
        bif
            decide (0 < IntKind.i64.wrap (a.k + a.n)) &&
              (decide (1 < IntKind.i64.wrap (a.k + a.n)) &&
                (decide (1 < a.k) && decide (1 ≥ b.k) &&
                  !(bif decide (1 ≥ b.k) then
                        bif decide ((IntKind.i64.wrap (1 - b.k)).toNat = 0) then b.p0
                        else
                          bif decide ((IntKind.i64.wrap (1 - b.k)).toNat = 1) then b.p1
                          else bif decide ((IntKind.i64.wrap (1 - b.k)).toNat = 2) then b.p2 else b.p3
                      else bif 1 == IntKind.i64.wrap (b.k - 1) then b.a else 0) ==
                      1048576)) then
          false
        else
          bif
              decide (0 < IntKind.i64.wrap (a.k + a.n)) &&
                (decide (1 < IntKind.i64.wrap (a.k + a.n)) &&
                  (!(decide (1 < a.k) && decide (1 ≥ b.k)) &&
                    !decide
                        ((bif decide (1 ≥ a.k) then
                            bif decide ((IntKind.i64.wrap (1 - a.k)).toNat = 0) then a.p0
                            else
                              bif decide ((IntKind.i64.wrap (1 - a.k)).toNat = 1) then a.p1
                              else bif decide ((IntKind.i64.wrap (1 - a.k)).toNat = 2) then a.p2 else a.p3
                          else bif 1 == IntKind.i64.wrap (a.k - 1) then a.a else 0) ≤
                          bif decide (1 ≥ b.k) then
                            bif decide ((IntKind.i64.wrap (1 - b.k)).toNat = 0) then b.p0
                            else
                              bif decide ((IntKind.i64.wrap (1 - b.k)).toNat = 1) then b.p1
                              else bif decide ((IntKind.i64.wrap (1 - b.k)).toNat = 2) then b.p2 else b.p3
                          else bif 1 == IntKind.i64.wrap (b.k - 1) then b.a else 0))) then
            false
          else
            bif
                decide (0 < IntKind.i64.wrap (a.k + a.n)) &&
                  (decide (1 < IntKind.i64.wrap (a.k + a.n)) &&
                    (decide (2 < IntKind.i64.wrap (a.k + a.n)) &&
                      (decide (2 < a.k) && decide (2 ≥ b.k) &&
                        !(bif decide (2 ≥ b.k) then
                              bif decide ((IntKind.i64.wrap (2 - b.k)).toNat = 0) then b.p0
                              else
                                bif decide ((IntKind.i64.wrap (2 - b.k)).toNat = 1) then b.p1
                                else bif decide ((IntKind.i64.wrap (2 - b.k)).toNat = 2) then b.p2 else b.p3
                            else bif 2 == IntKind.i64.wrap (b.k - 1) then b.a else 0) ==
                            1048576))) then
              false
            else
              bif
                  decide (0 < IntKind.i64.wrap (a.k + a.n)) &&
                    (decide (1 < IntKind.i64.wrap (a.k + a.n)) &&
                      (decide (2 < IntKind.i64.wrap (a.k + a.n)) &&
                        (!(decide (2 < a.k) && decide (2 ≥ b.k)) &&
                          !decide
                              ((bif decide (2 ≥ a.k) then
                                  bif decide ((IntKind.i64.wrap (2 - a.k)).toNat = 0) then a.p0
                                  else
                                    bif decide ((IntKind.i64.wrap (2 - a.k)).toNat = 1) then a.p1
                                    else bif decide ((IntKind.i64.wrap (2 - a.k)).toNat = 2) then a.p2 else a.p3
                                else bif 2 == IntKind.i64.wrap (a.k - 1) then a.a else 0) ≤
                                bif decide (2 ≥ b.k) then
                                  bif decide ((IntKind.i64.wrap (2 - b.k)).toNat = 0) then b.p0
                                  else
                                    bif decide ((IntKind.i64.wrap (2 - b.k)).toNat = 1) then b.p1
                                    else bif decide ((IntKind.i64.wrap (2 - b.k)).toNat = 2) then b.p2 else b.p3
                                else bif 2 == IntKind.i64.wrap (b.k - 1) then b.a else 0)))) then
                false
              else
                bif
                    decide (0 < IntKind.i64.wrap (a.k + a.n)) &&
                      (decide (1 < IntKind.i64.wrap (a.k + a.n)) &&
                        (decide (2 < IntKind.i64.wrap (a.k + a.n)) &&
                          (decide (3 < IntKind.i64.wrap (a.k + a.n)) &&
                            (decide (3 < a.k) && decide (3 ≥ b.k) &&
                              !(bif decide (3 ≥ b.k) then
                                    bif decide ((IntKind.i64.wrap (3 - b.k)).toNat = 0) then b.p0
                                    else
                                      bif decide ((IntKind.i64.wrap (3 - b.k)).toNat = 1) then b.p1
                                      else bif decide ((IntKind.i64.wrap (3 - b.k)).toNat = 2) then b.p2 else b.p3
                                  else bif 3 == IntKind.i64.wrap (b.k - 1) then b.a else 0) ==
                                  1048576)))) then
                  false
                else
                  bif
                      decide (0 < IntKind.i64.wrap (a.k + a.n)) &&
                        (decide (1 < IntKind.i64.wrap (a.k + a.n)) &&
                          (decide (2 < IntKind.i64.wrap (a.k + a.n)) &&
                            (decide (3 < IntKind.i64.wrap (a.k + a.n)) &&
                              (!(decide (3 < a.k) && decide (3 ≥ b.k)) &&
                                !decide
                                    ((bif decide (3 ≥ a.k) then
                                        bif decide ((IntKind.i64.wrap (3 - a.k)).toNat = 0) then a.p0
                                        else
                                          bif decide ((IntKind.i64.wrap (3 - a.k)).toNat = 1) then a.p1
                                          else bif decide ((IntKind.i64.wrap (3 - a.k)).toNat = 2) then a.p2 else a.p3
                                      else bif 3 == IntKind.i64.wrap (a.k - 1) then a.a else 0) ≤
                                      bif decide (3 ≥ b.k) then
                                        bif decide ((IntKind.i64.wrap (3 - b.k)).toNat = 0) then b.p0
                                        else
                                          bif decide ((IntKind.i64.wrap (3 - b.k)).toNat = 1) then b.p1
                                          else bif decide ((IntKind.i64.wrap (3 - b.k)).toNat = 2) then b.p2 else b.p3
                                      else bif 3 == IntKind.i64.wrap (b.k - 1) then b.a else 0))))) then
                    false
                  else
                    bif
                        decide (0 < IntKind.i64.wrap (a.k + a.n)) &&
                          (decide (1 < IntKind.i64.wrap (a.k + a.n)) &&
                            (decide (2 < IntKind.i64.wrap (a.k + a.n)) &&
                              (decide (3 < IntKind.i64.wrap (a.k + a.n)) &&
                                decide (4 < IntKind.i64.wrap (a.k + a.n))))) then
                      bif
                          decide (4 < a.k) && decide (4 ≥ b.k) &&
                            !(bif decide (4 ≥ b.k) then
                                  bif decide ((IntKind.i64.wrap (4 - b.k)).toNat = 0) then b.p0
                                  else
                                    bif decide ((IntKind.i64.wrap (4 - b.k)).toNat = 1) then b.p1
                                    else bif decide ((IntKind.i64.wrap (4 - b.k)).toNat = 2) then b.p2 else b.p3
                                else bif 4 == IntKind.i64.wrap (b.k - 1) then b.a else 0) ==
                                1048576 then
                        false
                      else
                        bif
                            !(decide (4 < a.k) && decide (4 ≥ b.k)) &&
                              !decide
                                  ((bif decide (4 ≥ a.k) then
                                      bif decide ((IntKind.i64.wrap (4 - a.k)).toNat = 0) then a.p0
                                      else
                                        bif decide ((IntKind.i64.wrap (4 - a.k)).toNat = 1) then a.p1
                                        else bif decide ((IntKind.i64.wrap (4 - a.k)).toNat = 2) then a.p2 else a.p3
                                    else bif 4 == IntKind.i64.wrap (a.k - 1) then a.a else 0) ≤
                                    bif decide (4 ≥ b.k) then
                                      bif decide ((IntKind.i64.wrap (4 - b.k)).toNat = 0) then b.p0
                                      else
                                        bif decide ((IntKind.i64.wrap (4 - b.k)).toNat = 1) then b.p1
                                        else bif decide ((IntKind.i64.wrap (4 - b.k)).toNat = 2) then b.p2 else b.p3
                                    else bif 4 == IntKind.i64.wrap (b.k - 1) then b.a else 0) then
                          false
                        else default
                    else true
def rleq_side (a : S) (b : S) : Prop :=
  (rcheck_F a != 0 || (rcheck_F b != 0 || (a.f != b.f || IntKind.i64.wrap (a.k + a.n) != IntKind.i64.wrap (b.k + b.n)))) =
      false →
    (decide (0 < IntKind.i64.wrap (a.k + a.n)) = true →
        decide (0 ≥ a.k) = true → 0 ≤ IntKind.i64.wrap (0 - a.k) ∧ IntKind.i64.wrap (0 - a.k) < 4) ∧
      (decide (0 < IntKind.i64.wrap (a.k + a.n)) = true →
          decide (0 ≥ a.k) = true → (IntKind.i64.wrap (0 - a.k)).toNat < 4) ∧
        (decide (0 < IntKind.i64.wrap (a.k + a.n)) = true →
            decide (0 ≥ b.k) = true → 0 ≤ IntKind.i64.wrap (0 - b.k) ∧ IntKind.i64.wrap (0 - b.k) < 4) ∧
          (decide (0 < IntKind.i64.wrap (a.k + a.n)) = true →
              decide (0 ≥ b.k) = true → (IntKind.i64.wrap (0 - b.k)).toNat < 4) ∧
            ((decide (0 < IntKind.i64.wrap (a.k + a.n)) &&
                  (decide (0 < a.k) && decide (0 ≥ b.k) &&
                    !(bif decide (0 ≥ b.k) then
                          bif decide ((IntKind.i64.wrap (0 - b.k)).toNat = 0) then b.p0
                          else
                            bif decide ((IntKind.i64.wrap (0 - b.k)).toNat = 1) then b.p1
                            else bif decide ((IntKind.i64.wrap (0 - b.k)).toNat = 2) then b.p2 else b.p3
                        else bif 0 == IntKind.i64.wrap (b.k - 1) then b.a else 0) ==
                        1048576)) =
                false →
              (decide (0 < IntKind.i64.wrap (a.k + a.n)) &&
                    (!(decide (0 < a.k) && decide (0 ≥ b.k)) &&
                      !decide
                          ((bif decide (0 ≥ a.k) then
                              bif decide ((IntKind.i64.wrap (0 - a.k)).toNat = 0) then a.p0
                              else
                                bif decide ((IntKind.i64.wrap (0 - a.k)).toNat = 1) then a.p1
                                else bif decide ((IntKind.i64.wrap (0 - a.k)).toNat = 2) then a.p2 else a.p3
                            else bif 0 == IntKind.i64.wrap (a.k - 1) then a.a else 0) ≤
                            bif decide (0 ≥ b.k) then
                              bif decide ((IntKind.i64.wrap (0 - b.k)).toNat = 0) then b.p0
                              else
                                bif decide ((IntKind.i64.wrap (0 - b.k)).toNat = 1) then b.p1
                                else bif decide ((IntKind.i64.wrap (0 - b.k)).toNat = 2) then b.p2 else b.p3
                            else bif 0 == IntKind.i64.wrap (b.k - 1) then b.a else 0))) =
                  false →
                (decide (0 < IntKind.i64.wrap (a.k + a.n)) = true →
                    decide (1 < IntKind.i64.wrap (a.k + a.n)) = true →
                      decide (1 ≥ a.k) = true → 0 ≤ IntKind.i64.wrap (1 - a.k) ∧ IntKind.i64.wrap (1 - a.k) < 4) ∧
                  (decide (0 < IntKind.i64.wrap (a.k + a.n)) = true →
                      decide (1 < IntKind.i64.wrap (a.k + a.n)) = true →
                        decide (1 ≥ a.k) = true → (IntKind.i64.wrap (1 - a.k)).toNat < 4) ∧
                    (decide (0 < IntKind.i64.wrap (a.k + a.n)) = true →
                        decide (1 < IntKind.i64.wrap (a.k + a.n)) = true →
                          decide (1 ≥ b.k) = true → 0 ≤ IntKind.i64.wrap (1 - b.k) ∧ IntKind.i64.wrap (1 - b.k) < 4) ∧
                      (decide (0 < IntKind.i64.wrap (a.k + a.n)) = true →
                          decide (1 < IntKind.i64.wrap (a.k + a.n)) = true →
                            decide (1 ≥ b.k) = true → (IntKind.i64.wrap (1 - b.k)).toNat < 4) ∧
                        ((decide (0 < IntKind.i64.wrap (a.k + a.n)) &&
                              (decide (1 < IntKind.i64.wrap (a.k + a.n)) &&
                                (decide (1 < a.k) && decide (1 ≥ b.k) &&
                                  !(bif decide (1 ≥ b.k) then
                                        bif decide ((IntKind.i64.wrap (1 - b.k)).toNat = 0) then b.p0
                                        else
                                          bif decide ((IntKind.i64.wrap (1 - b.k)).toNat = 1) then b.p1
                                          else bif decide ((IntKind.i64.wrap (1 - b.k)).toNat = 2) then b.p2 else b.p3
                                      else bif 1 == IntKind.i64.wrap (b.k - 1) then b.a else 0) ==
                                      1048576))) =
                            false →
                          (decide (0 < IntKind.i64.wrap (a.k + a.n)) &&
                                (decide (1 < IntKind.i64.wrap (a.k + a.n)) &&
                                  (!(decide (1 < a.k) && decide (1 ≥ b.k)) &&
                                    !decide
                                        ((bif decide (1 ≥ a.k) then
                                            bif decide ((IntKind.i64.wrap (1 - a.k)).toNat = 0) then a.p0
                                            else
                                              bif decide ((IntKind.i64.wrap (1 - a.k)).toNat = 1) then a.p1
                                              else bif decide ((IntKind.i64.wrap (1 - a.k)).toNat = 2) then a.p2 else a.p3
                                          else bif 1 == IntKind.i64.wrap (a.k - 1) then a.a else 0) ≤
                                          bif decide (1 ≥ b.k) then
                                            bif decide ((IntKind.i64.wrap (1 - b.k)).toNat = 0) then b.p0
                                            else
                                              bif decide ((IntKind.i64.wrap (1 - b.k)).toNat = 1) then b.p1
                                              else bif decide ((IntKind.i64.wrap (1 - b.k)).toNat = 2) then b.p2 else b.p3
                                          else bif 1 == IntKind.i64.wrap (b.k - 1) then b.a else 0)))) =
                              false →
                            (decide (0 < IntKind.i64.wrap (a.k + a.n)) = true →
                                decide (1 < IntKind.i64.wrap (a.k + a.n)) = true →
                                  decide (2 < IntKind.i64.wrap (a.k + a.n)) = true →
                                    decide (2 ≥ a.k) = true →
                                      0 ≤ IntKind.i64.wrap (2 - a.k) ∧ IntKind.i64.wrap (2 - a.k) < 4) ∧
                              (decide (0 < IntKind.i64.wrap (a.k + a.n)) = true →
                                  decide (1 < IntKind.i64.wrap (a.k + a.n)) = true →
                                    decide (2 < IntKind.i64.wrap (a.k + a.n)) = true →
                                      decide (2 ≥ a.k) = true → (IntKind.i64.wrap (2 - a.k)).toNat < 4) ∧
                                (decide (0 < IntKind.i64.wrap (a.k + a.n)) = true →
                                    decide (1 < IntKind.i64.wrap (a.k + a.n)) = true →
                                      decide (2 < IntKind.i64.wrap (a.k + a.n)) = true →
                                        decide (2 ≥ b.k) = true →
                                          0 ≤ IntKind.i64.wrap (2 - b.k) ∧ IntKind.i64.wrap (2 - b.k) < 4) ∧
                                  (decide (0 < IntKind.i64.wrap (a.k + a.n)) = true →
                                      decide (1 < IntKind.i64.wrap (a.k + a.n)) = true →
                                        decide (2 < IntKind.i64.wrap (a.k + a.n)) = true →
                                          decide (2 ≥ b.k) = true → (IntKind.i64.wrap (2 - b.k)).toNat < 4) ∧
                                    ((decide (0 < IntKind.i64.wrap (a.k + a.n)) &&
                                          (decide (1 < IntKind.i64.wrap (a.k + a.n)) &&
                                            (decide (2 < IntKind.i64.wrap (a.k + a.n)) &&
                                              (decide (2 < a.k) && decide (2 ≥ b.k) &&
                                                !(bif decide (2 ≥ b.k) then
                                                      bif decide ((IntKind.i64.wrap (2 - b.k)).toNat = 0) then b.p0
                                                      else
                                                        bif decide ((IntKind.i64.wrap (2 - b.k)).toNat = 1) then b.p1
                                                        else
                                                          bif decide ((IntKind.i64.wrap (2 - b.k)).toNat = 2) then b.p2
                                                          else b.p3
                                                    else bif 2 == IntKind.i64.wrap (b.k - 1) then b.a else 0) ==
                                                    1048576)))) =
                                        false →
                                      (decide (0 < IntKind.i64.wrap (a.k + a.n)) &&
                                            (decide (1 < IntKind.i64.wrap (a.k + a.n)) &&
                                              (decide (2 < IntKind.i64.wrap (a.k + a.n)) &&
                                                (!(decide (2 < a.k) && decide (2 ≥ b.k)) &&
                                                  !decide
                                                      ((bif decide (2 ≥ a.k) then
                                                          bif decide ((IntKind.i64.wrap (2 - a.k)).toNat = 0) then a.p0
                                                          else
                                                            bif decide ((IntKind.i64.wrap (2 - a.k)).toNat = 1) then a.p1
                                                            else
                                                              bif decide ((IntKind.i64.wrap (2 - a.k)).toNat = 2) then
                                                                a.p2
                                                              else a.p3
                                                        else bif 2 == IntKind.i64.wrap (a.k - 1) then a.a else 0) ≤
                                                        bif decide (2 ≥ b.k) then
                                                          bif decide ((IntKind.i64.wrap (2 - b.k)).toNat = 0) then b.p0
                                                          else
                                                            bif decide ((IntKind.i64.wrap (2 - b.k)).toNat = 1) then b.p1
                                                            else
                                                              bif decide ((IntKind.i64.wrap (2 - b.k)).toNat = 2) then
                                                                b.p2
                                                              else b.p3
                                                        else bif 2 == IntKind.i64.wrap (b.k - 1) then b.a else 0))))) =
                                          false →
                                        (decide (0 < IntKind.i64.wrap (a.k + a.n)) = true →
                                            decide (1 < IntKind.i64.wrap (a.k + a.n)) = true →
                                              decide (2 < IntKind.i64.wrap (a.k + a.n)) = true →
                                                decide (3 < IntKind.i64.wrap (a.k + a.n)) = true →
                                                  decide (3 ≥ a.k) = true →
                                                    0 ≤ IntKind.i64.wrap (3 - a.k) ∧ IntKind.i64.wrap (3 - a.k) < 4) ∧
                                          (decide (0 < IntKind.i64.wrap (a.k + a.n)) = true →
                                              decide (1 < IntKind.i64.wrap (a.k + a.n)) = true →
                                                decide (2 < IntKind.i64.wrap (a.k + a.n)) = true →
                                                  decide (3 < IntKind.i64.wrap (a.k + a.n)) = true →
                                                    decide (3 ≥ a.k) = true → (IntKind.i64.wrap (3 - a.k)).toNat < 4) ∧
                                            (decide (0 < IntKind.i64.wrap (a.k + a.n)) = true →
                                                decide (1 < IntKind.i64.wrap (a.k + a.n)) = true →
                                                  decide (2 < IntKind.i64.wrap (a.k + a.n)) = true →
                                                    decide (3 < IntKind.i64.wrap (a.k + a.n)) = true →
                                                      decide (3 ≥ b.k) = true →
                                                        0 ≤ IntKind.i64.wrap (3 - b.k) ∧ IntKind.i64.wrap (3 - b.k) < 4) ∧
                                              (decide (0 < IntKind.i64.wrap (a.k + a.n)) = true →
                                                  decide (1 < IntKind.i64.wrap (a.k + a.n)) = true →
                                                    decide (2 < IntKind.i64.wrap (a.k + a.n)) = true →
                                                      decide (3 < IntKind.i64.wrap (a.k + a.n)) = true →
                                                        decide (3 ≥ b.k) = true →
                                                          (IntKind.i64.wrap (3 - b.k)).toNat < 4) ∧
                                                ((decide (0 < IntKind.i64.wrap (a.k + a.n)) &&
                                                      (decide (1 < IntKind.i64.wrap (a.k + a.n)) &&
                                                        (decide (2 < IntKind.i64.wrap (a.k + a.n)) &&
                                                          (decide (3 < IntKind.i64.wrap (a.k + a.n)) &&
                                                            (decide (3 < a.k) && decide (3 ≥ b.k) &&
                                                              !(bif decide (3 ≥ b.k) then
                                                                    bif
                                                                        decide
                                                                          ((IntKind.i64.wrap (3 - b.k)).toNat = 0) then
                                                                      b.p0
                                                                    else
                                                                      bif
                                                                          decide
                                                                            ((IntKind.i64.wrap (3 - b.k)).toNat = 1) then
                                                                        b.p1
                                                                      else
                                                                        bif
                                                                            decide
                                                                              ((IntKind.i64.wrap (3 - b.k)).toNat =
                                                                                2) then
                                                                          b.p2
                                                                        else b.p3
                                                                  else
                                                                    bif 3 == IntKind.i64.wrap (b.k - 1) then b.a
                                                                    else 0) ==
                                                                  1048576))))) =
                                                    false →
                                                  (decide (0 < IntKind.i64.wrap (a.k + a.n)) &&
                                                        (decide (1 < IntKind.i64.wrap (a.k + a.n)) &&
                                                          (decide (2 < IntKind.i64.wrap (a.k + a.n)) &&
                                                            (decide (3 < IntKind.i64.wrap (a.k + a.n)) &&
                                                              (!(decide (3 < a.k) && decide (3 ≥ b.k)) &&
                                                                !decide
                                                                    ((bif decide (3 ≥ a.k) then
                                                                        bif
                                                                            decide
                                                                              ((IntKind.i64.wrap (3 - a.k)).toNat =
                                                                                0) then
                                                                          a.p0
                                                                        else
                                                                          bif
                                                                              decide
                                                                                ((IntKind.i64.wrap (3 - a.k)).toNat =
                                                                                  1) then
                                                                            a.p1
                                                                          else
                                                                            bif
                                                                                decide
                                                                                  ((IntKind.i64.wrap (3 - a.k)).toNat =
                                                                                    2) then
                                                                              a.p2
                                                                            else a.p3
                                                                      else
                                                                        bif 3 == IntKind.i64.wrap (a.k - 1) then a.a
                                                                        else 0) ≤
                                                                      bif decide (3 ≥ b.k) then
                                                                        bif
                                                                            decide
                                                                              ((IntKind.i64.wrap (3 - b.k)).toNat =
                                                                                0) then
                                                                          b.p0
                                                                        else
                                                                          bif
                                                                              decide
                                                                                ((IntKind.i64.wrap (3 - b.k)).toNat =
                                                                                  1) then
                                                                            b.p1
                                                                          else
                                                                            bif
                                                                                decide
                                                                                  ((IntKind.i64.wrap (3 - b.k)).toNat =
                                                                                    2) then
                                                                              b.p2
                                                                            else b.p3
                                                                      else
                                                                        bif 3 == IntKind.i64.wrap (b.k - 1) then b.a
                                                                        else 0)))))) =
                                                      false →
                                                    (decide (0 < IntKind.i64.wrap (a.k + a.n)) &&
                                                          (decide (1 < IntKind.i64.wrap (a.k + a.n)) &&
                                                            (decide (2 < IntKind.i64.wrap (a.k + a.n)) &&
                                                              (decide (3 < IntKind.i64.wrap (a.k + a.n)) &&
                                                                decide (4 < IntKind.i64.wrap (a.k + a.n)))))) =
                                                        true →
                                                      (decide (4 ≥ a.k) = true →
                                                          0 ≤ IntKind.i64.wrap (4 - a.k) ∧
                                                            IntKind.i64.wrap (4 - a.k) < 4) ∧
                                                        (decide (4 ≥ a.k) = true →
                                                            (IntKind.i64.wrap (4 - a.k)).toNat < 4) ∧
                                                          (decide (4 ≥ b.k) = true →
                                                              0 ≤ IntKind.i64.wrap (4 - b.k) ∧
                                                                IntKind.i64.wrap (4 - b.k) < 4) ∧
                                                            (decide (4 ≥ b.k) = true →
                                                                (IntKind.i64.wrap (4 - b.k)).toNat < 4) ∧
                                                              ((decide (4 < a.k) && decide (4 ≥ b.k) &&
                                                                    !(bif decide (4 ≥ b.k) then
                                                                          bif
                                                                              decide
                                                                                ((IntKind.i64.wrap (4 - b.k)).toNat =
                                                                                  0) then
                                                                            b.p0
                                                                          else
                                                                            bif
                                                                                decide
                                                                                  ((IntKind.i64.wrap (4 - b.k)).toNat =
                                                                                    1) then
                                                                              b.p1
                                                                            else
                                                                              bif
                                                                                  decide
                                                                                    ((IntKind.i64.wrap (4 - b.k)).toNat =
                                                                                      2) then
                                                                                b.p2
                                                                              else b.p3
                                                                        else
                                                                          bif 4 == IntKind.i64.wrap (b.k - 1) then b.a
                                                                          else 0) ==
                                                                        1048576) =
                                                                  false →
                                                                (!(decide (4 < a.k) && decide (4 ≥ b.k)) &&
                                                                      !decide
                                                                          ((bif decide (4 ≥ a.k) then
                                                                              bif
                                                                                  decide
                                                                                    ((IntKind.i64.wrap (4 - a.k)).toNat =
                                                                                      0) then
                                                                                a.p0
                                                                              else
                                                                                bif
                                                                                    decide
                                                                                      ((IntKind.i64.wrap
                                                                                            (4 - a.k)).toNat =
                                                                                        1) then
                                                                                  a.p1
                                                                                else
                                                                                  bif
                                                                                      decide
                                                                                        ((IntKind.i64.wrap
                                                                                              (4 - a.k)).toNat =
                                                                                          2) then
                                                                                    a.p2
                                                                                  else a.p3
                                                                            else
                                                                              bif 4 == IntKind.i64.wrap (a.k - 1) then a.a
                                                                              else 0) ≤
                                                                            bif decide (4 ≥ b.k) then
                                                                              bif
                                                                                  decide
                                                                                    ((IntKind.i64.wrap (4 - b.k)).toNat =
                                                                                      0) then
                                                                                b.p0
                                                                              else
                                                                                bif
                                                                                    decide
                                                                                      ((IntKind.i64.wrap
                                                                                            (4 - b.k)).toNat =
                                                                                        1) then
                                                                                  b.p1
                                                                                else
                                                                                  bif
                                                                                      decide
                                                                                        ((IntKind.i64.wrap
                                                                                              (4 - b.k)).toNat =
                                                                                          2) then
                                                                                    b.p2
                                                                                  else b.p3
                                                                            else
                                                                              bif 4 == IntKind.i64.wrap (b.k - 1) then b.a
                                                                              else 0)) =
                                                                    false →
                                                                  False)))))
theorem rleq_okS (pre : DA.T aSS → List Prop) (h : ∀ g, DA.bd aSS g → (∀ p ∈ pre g, p) → rleq_side g.1 g.2) : FnPure Try.prog 39 aSS dBool (fun g => rleq_F g.1 g.2) pre := pure_of_sideS (Γ := (PTab.gamz tab1 [] [(20, 0, 5), (66, 0, 5), (39, 4, 5)])) (Λ := noΛ) (PTab.okz tab1 [] [(20, 0, 5), (66, 0, 5), (39, 4, 5)]) noΛ_ok 100 default (fun g => rleq_side g.1 g.2) (fun g => by kernel_rfl) (fun g => by kernel_rfl) h
def tab2 : PTab Try.prog := (((((((((((tab1).cons 17 (pconP aS dI (fun g => check_F g) (fun _ => [])) (conP_ok check_ok puI)).cons 19 (pconP aS dI (fun g => ends_F g) (fun _ => [])) (conP_ok ends_ok puI)).cons 32 (pconP aS dI (fun g => rends_F g) (fun _ => [])) (conP_ok rends_ok puI)).cons 21 (pconP aS dBool (fun g => adv_F g) (fun _ => [])) (conP_ok adv_ok puB)).cons 33 (pconP aS dBool (fun g => radv_F g) (fun _ => [])) (conP_ok radv_ok puB)).cons 23 (pconP aI dSE (fun g => rid_F g) (fun _ => [])) (conP_ok rid_ok puSE)).cons 25 (pconP aI dSE (fun g => renter_F g) (fun _ => [])) (conP_ok renter_ok puSE)).cons 27 (pconP aI dSE (fun g => rleave_F g) (fun _ => [])) (conP_ok rleave_ok puSE)).cons 29 (pconP aI dSE (fun g => rnext_F g) (fun _ => [])) (conP_ok rnext_ok puSE)).cons 22 (pconP aTT dBool (fun g => rtleq_F g.1 g.2) (fun _ => [])) (conP_ok rtleq_ok puB)).cons 40 (pconP aSS dI (fun g => compare_F g.1 g.2) (fun _ => [])) (conP_ok compare_ok puI)
end Go.Proofs.Ytapmlfklkfgmoaa
