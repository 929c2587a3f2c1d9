/- Chapter 2: the law SummSteps. Printed by treegen.py. -/
import Derived.Test.YtapmlfklkfgmoaaZG07P6
import Derived.Test.YtapmlfklkfgmoaaZG06P6
set_option linter.unusedVariables false
set_option linter.unusedSimpArgs false
set_option linter.constructorNameAsVariable false
set_option linter.all false

namespace Go.Proofs.Ytapmlfklkfgmoaa
open Go.RowKit Go.Sx
set_option maxRecDepth 100000
set_option linter.unusedVariables false
abbrev dU8 : Dv Int := dInt .u8
abbrev aLaw6 : DA (S × Int × Int) := .cons dS (.cons dI (.one dU8))
noncomputable def lw6_F (s : S) (d : Int) (m : Int) : Dv.T dBool :=
  bif
      !true ||
        (!conj
              ([(id_F d).fst.f == (rid_F d).fst.f] ++
                ([(id_F d).fst.k == (rid_F d).fst.k] ++
                  ([(id_F d).fst.a == (rid_F d).fst.a] ++
                    ([(id_F d).fst.n == (rid_F d).fst.n] ++
                      ([(id_F d).fst.p0 == (rid_F d).fst.p0] ++
                          ([(id_F d).fst.p1 == (rid_F d).fst.p1] ++
                            ([(id_F d).fst.p2 == (rid_F d).fst.p2] ++ ([(id_F d).fst.p3 == (rid_F d).fst.p3] ++ []))) ++
                        []))))) ||
          ((id_F d).snd != (rid_F d).snd ||
            (!conj
                  ([(enter_F d).fst.f == (renter_F d).fst.f] ++
                    ([(enter_F d).fst.k == (renter_F d).fst.k] ++
                      ([(enter_F d).fst.a == (renter_F d).fst.a] ++
                        ([(enter_F d).fst.n == (renter_F d).fst.n] ++
                          ([(enter_F d).fst.p0 == (renter_F d).fst.p0] ++
                              ([(enter_F d).fst.p1 == (renter_F d).fst.p1] ++
                                ([(enter_F d).fst.p2 == (renter_F d).fst.p2] ++
                                  ([(enter_F d).fst.p3 == (renter_F d).fst.p3] ++ []))) ++
                            []))))) ||
              (enter_F d).snd != (renter_F d).snd))) then
    false
  else
    conj
        ([(leave_F d).fst.f == (rleave_F d).fst.f] ++
          ([(leave_F d).fst.k == (rleave_F d).fst.k] ++
            ([(leave_F d).fst.a == (rleave_F d).fst.a] ++
              ([(leave_F d).fst.n == (rleave_F d).fst.n] ++
                ([(leave_F d).fst.p0 == (rleave_F d).fst.p0] ++
                    ([(leave_F d).fst.p1 == (rleave_F d).fst.p1] ++
                      ([(leave_F d).fst.p2 == (rleave_F d).fst.p2] ++
                        ([(leave_F d).fst.p3 == (rleave_F d).fst.p3] ++ []))) ++
                  []))))) &&
      ((leave_F d).snd == (rleave_F d).snd &&
        (conj
            ([(next_F d).fst.f == (rnext_F d).fst.f] ++
              ([(next_F d).fst.k == (rnext_F d).fst.k] ++
                ([(next_F d).fst.a == (rnext_F d).fst.a] ++
                  ([(next_F d).fst.n == (rnext_F d).fst.n] ++
                    ([(next_F d).fst.p0 == (rnext_F d).fst.p0] ++
                        ([(next_F d).fst.p1 == (rnext_F d).fst.p1] ++
                          ([(next_F d).fst.p2 == (rnext_F d).fst.p2] ++
                            ([(next_F d).fst.p3 == (rnext_F d).fst.p3] ++ []))) ++
                      []))))) &&
          ((next_F d).snd == (rnext_F d).snd &&
            (check_F s == rcheck_F s &&
              (ends_F s == rends_F s &&
                (adv_F s == radv_F s &&
                  (decide
                      (eI.lst (List.take (9 : Nat) (eI.lst (plS s).length (eI.els (plS s)))).length
                          (eI.els (List.take (9 : Nat) (eI.lst (plS s).length (eI.els (plS s))))) =
                        eI.lst (plS s).length (eI.els (plS s))) &&
                    decide
                      (eI.lst (List.take (IntKind.i64.wrap m).toNat (eI.lst (plS s).length (eI.els (plS s)))).length
                          (eI.els (List.take (IntKind.i64.wrap m).toNat (eI.lst (plS s).length (eI.els (plS s))))) =
                        eI.lst
                          (List.foldl
                              (fun a x =>
                                bif false then if x.snd.snd > a then x.snd.snd else a
                                else if x.snd.snd < a then x.snd.snd else a)
                              (↑(plS s).length : Int) [(false, IntKind.i64, IntKind.i64.wrap m)]).toNat
                          (eI.els (plS s))))))))))
def lw6_side (s : S) (d : Int) (m : Int) : Prop :=
  (!true ||
        (!conj
              ([(id_F d).fst.f == (rid_F d).fst.f] ++
                ([(id_F d).fst.k == (rid_F d).fst.k] ++
                  ([(id_F d).fst.a == (rid_F d).fst.a] ++
                    ([(id_F d).fst.n == (rid_F d).fst.n] ++
                      ([(id_F d).fst.p0 == (rid_F d).fst.p0] ++
                          ([(id_F d).fst.p1 == (rid_F d).fst.p1] ++
                            ([(id_F d).fst.p2 == (rid_F d).fst.p2] ++ ([(id_F d).fst.p3 == (rid_F d).fst.p3] ++ []))) ++
                        []))))) ||
          ((id_F d).snd != (rid_F d).snd ||
            (!conj
                  ([(enter_F d).fst.f == (renter_F d).fst.f] ++
                    ([(enter_F d).fst.k == (renter_F d).fst.k] ++
                      ([(enter_F d).fst.a == (renter_F d).fst.a] ++
                        ([(enter_F d).fst.n == (renter_F d).fst.n] ++
                          ([(enter_F d).fst.p0 == (renter_F d).fst.p0] ++
                              ([(enter_F d).fst.p1 == (renter_F d).fst.p1] ++
                                ([(enter_F d).fst.p2 == (renter_F d).fst.p2] ++
                                  ([(enter_F d).fst.p3 == (renter_F d).fst.p3] ++ []))) ++
                            []))))) ||
              (enter_F d).snd != (renter_F d).snd)))) =
      false →
    (conj
            ([(leave_F d).fst.f == (rleave_F d).fst.f] ++
              ([(leave_F d).fst.k == (rleave_F d).fst.k] ++
                ([(leave_F d).fst.a == (rleave_F d).fst.a] ++
                  ([(leave_F d).fst.n == (rleave_F d).fst.n] ++
                    ([(leave_F d).fst.p0 == (rleave_F d).fst.p0] ++
                        ([(leave_F d).fst.p1 == (rleave_F d).fst.p1] ++
                          ([(leave_F d).fst.p2 == (rleave_F d).fst.p2] ++
                            ([(leave_F d).fst.p3 == (rleave_F d).fst.p3] ++ []))) ++
                      []))))) =
          true →
        ((leave_F d).snd == (rleave_F d).snd) = true →
          conj
                ([(next_F d).fst.f == (rnext_F d).fst.f] ++
                  ([(next_F d).fst.k == (rnext_F d).fst.k] ++
                    ([(next_F d).fst.a == (rnext_F d).fst.a] ++
                      ([(next_F d).fst.n == (rnext_F d).fst.n] ++
                        ([(next_F d).fst.p0 == (rnext_F d).fst.p0] ++
                            ([(next_F d).fst.p1 == (rnext_F d).fst.p1] ++
                              ([(next_F d).fst.p2 == (rnext_F d).fst.p2] ++
                                ([(next_F d).fst.p3 == (rnext_F d).fst.p3] ++ []))) ++
                          []))))) =
              true →
            ((next_F d).snd == (rnext_F d).snd) = true →
              (check_F s == rcheck_F s) = true →
                (ends_F s == rends_F s) = true →
                  (adv_F s == radv_F s) = true → ∀ (e : Nat), e < (plS s).length → eI.Ok (eI.els (plS s) e)) ∧
      (conj
              ([(leave_F d).fst.f == (rleave_F d).fst.f] ++
                ([(leave_F d).fst.k == (rleave_F d).fst.k] ++
                  ([(leave_F d).fst.a == (rleave_F d).fst.a] ++
                    ([(leave_F d).fst.n == (rleave_F d).fst.n] ++
                      ([(leave_F d).fst.p0 == (rleave_F d).fst.p0] ++
                          ([(leave_F d).fst.p1 == (rleave_F d).fst.p1] ++
                            ([(leave_F d).fst.p2 == (rleave_F d).fst.p2] ++
                              ([(leave_F d).fst.p3 == (rleave_F d).fst.p3] ++ []))) ++
                        []))))) =
            true →
          ((leave_F d).snd == (rleave_F d).snd) = true →
            conj
                  ([(next_F d).fst.f == (rnext_F d).fst.f] ++
                    ([(next_F d).fst.k == (rnext_F d).fst.k] ++
                      ([(next_F d).fst.a == (rnext_F d).fst.a] ++
                        ([(next_F d).fst.n == (rnext_F d).fst.n] ++
                          ([(next_F d).fst.p0 == (rnext_F d).fst.p0] ++
                              ([(next_F d).fst.p1 == (rnext_F d).fst.p1] ++
                                ([(next_F d).fst.p2 == (rnext_F d).fst.p2] ++
                                  ([(next_F d).fst.p3 == (rnext_F d).fst.p3] ++ []))) ++
                            []))))) =
                true →
              ((next_F d).snd == (rnext_F d).snd) = true →
                (check_F s == rcheck_F s) = true →
                  (ends_F s == rends_F s) = true →
                    (adv_F s == radv_F s) = true → (eI.lst (plS s).length (eI.els (plS s))).length ≤ (1000000 : Nat)) ∧
        (conj
                ([(leave_F d).fst.f == (rleave_F d).fst.f] ++
                  ([(leave_F d).fst.k == (rleave_F d).fst.k] ++
                    ([(leave_F d).fst.a == (rleave_F d).fst.a] ++
                      ([(leave_F d).fst.n == (rleave_F d).fst.n] ++
                        ([(leave_F d).fst.p0 == (rleave_F d).fst.p0] ++
                            ([(leave_F d).fst.p1 == (rleave_F d).fst.p1] ++
                              ([(leave_F d).fst.p2 == (rleave_F d).fst.p2] ++
                                ([(leave_F d).fst.p3 == (rleave_F d).fst.p3] ++ []))) ++
                          []))))) =
              true →
            ((leave_F d).snd == (rleave_F d).snd) = true →
              conj
                    ([(next_F d).fst.f == (rnext_F d).fst.f] ++
                      ([(next_F d).fst.k == (rnext_F d).fst.k] ++
                        ([(next_F d).fst.a == (rnext_F d).fst.a] ++
                          ([(next_F d).fst.n == (rnext_F d).fst.n] ++
                            ([(next_F d).fst.p0 == (rnext_F d).fst.p0] ++
                                ([(next_F d).fst.p1 == (rnext_F d).fst.p1] ++
                                  ([(next_F d).fst.p2 == (rnext_F d).fst.p2] ++
                                    ([(next_F d).fst.p3 == (rnext_F d).fst.p3] ++ []))) ++
                              []))))) =
                  true →
                ((next_F d).snd == (rnext_F d).snd) = true →
                  (check_F s == rcheck_F s) = true →
                    (ends_F s == rends_F s) = true →
                      (adv_F s == radv_F s) = true →
                        ∀ (e : Nat),
                          e < (List.take (9 : Nat) (eI.lst (plS s).length (eI.els (plS s)))).length →
                            eI.Ok (eI.els (List.take (9 : Nat) (eI.lst (plS s).length (eI.els (plS s)))) e)) ∧
          (conj
                  ([(leave_F d).fst.f == (rleave_F d).fst.f] ++
                    ([(leave_F d).fst.k == (rleave_F d).fst.k] ++
                      ([(leave_F d).fst.a == (rleave_F d).fst.a] ++
                        ([(leave_F d).fst.n == (rleave_F d).fst.n] ++
                          ([(leave_F d).fst.p0 == (rleave_F d).fst.p0] ++
                              ([(leave_F d).fst.p1 == (rleave_F d).fst.p1] ++
                                ([(leave_F d).fst.p2 == (rleave_F d).fst.p2] ++
                                  ([(leave_F d).fst.p3 == (rleave_F d).fst.p3] ++ []))) ++
                            []))))) =
                true →
              ((leave_F d).snd == (rleave_F d).snd) = true →
                conj
                      ([(next_F d).fst.f == (rnext_F d).fst.f] ++
                        ([(next_F d).fst.k == (rnext_F d).fst.k] ++
                          ([(next_F d).fst.a == (rnext_F d).fst.a] ++
                            ([(next_F d).fst.n == (rnext_F d).fst.n] ++
                              ([(next_F d).fst.p0 == (rnext_F d).fst.p0] ++
                                  ([(next_F d).fst.p1 == (rnext_F d).fst.p1] ++
                                    ([(next_F d).fst.p2 == (rnext_F d).fst.p2] ++
                                      ([(next_F d).fst.p3 == (rnext_F d).fst.p3] ++ []))) ++
                                []))))) =
                    true →
                  ((next_F d).snd == (rnext_F d).snd) = true →
                    (check_F s == rcheck_F s) = true →
                      (ends_F s == rends_F s) = true →
                        (adv_F s == radv_F s) = true → ∀ (e : Nat), e < (plS s).length → eI.Ok (eI.els (plS s) e)) ∧
            (conj
                    ([(leave_F d).fst.f == (rleave_F d).fst.f] ++
                      ([(leave_F d).fst.k == (rleave_F d).fst.k] ++
                        ([(leave_F d).fst.a == (rleave_F d).fst.a] ++
                          ([(leave_F d).fst.n == (rleave_F d).fst.n] ++
                            ([(leave_F d).fst.p0 == (rleave_F d).fst.p0] ++
                                ([(leave_F d).fst.p1 == (rleave_F d).fst.p1] ++
                                  ([(leave_F d).fst.p2 == (rleave_F d).fst.p2] ++
                                    ([(leave_F d).fst.p3 == (rleave_F d).fst.p3] ++ []))) ++
                              []))))) =
                  true →
                ((leave_F d).snd == (rleave_F d).snd) = true →
                  conj
                        ([(next_F d).fst.f == (rnext_F d).fst.f] ++
                          ([(next_F d).fst.k == (rnext_F d).fst.k] ++
                            ([(next_F d).fst.a == (rnext_F d).fst.a] ++
                              ([(next_F d).fst.n == (rnext_F d).fst.n] ++
                                ([(next_F d).fst.p0 == (rnext_F d).fst.p0] ++
                                    ([(next_F d).fst.p1 == (rnext_F d).fst.p1] ++
                                      ([(next_F d).fst.p2 == (rnext_F d).fst.p2] ++
                                        ([(next_F d).fst.p3 == (rnext_F d).fst.p3] ++ []))) ++
                                  []))))) =
                      true →
                    ((next_F d).snd == (rnext_F d).snd) = true →
                      (check_F s == rcheck_F s) = true →
                        (ends_F s == rends_F s) = true →
                          (adv_F s == radv_F s) = true →
                            decide
                                  (eI.lst (List.take (9 : Nat) (eI.lst (plS s).length (eI.els (plS s)))).length
                                      (eI.els (List.take (9 : Nat) (eI.lst (plS s).length (eI.els (plS s))))) =
                                    eI.lst (plS s).length (eI.els (plS s))) =
                                true →
                              ∀ (e : Nat), e < (plS s).length → eI.Ok (eI.els (plS s) e)) ∧
              (conj
                      ([(leave_F d).fst.f == (rleave_F d).fst.f] ++
                        ([(leave_F d).fst.k == (rleave_F d).fst.k] ++
                          ([(leave_F d).fst.a == (rleave_F d).fst.a] ++
                            ([(leave_F d).fst.n == (rleave_F d).fst.n] ++
                              ([(leave_F d).fst.p0 == (rleave_F d).fst.p0] ++
                                  ([(leave_F d).fst.p1 == (rleave_F d).fst.p1] ++
                                    ([(leave_F d).fst.p2 == (rleave_F d).fst.p2] ++
                                      ([(leave_F d).fst.p3 == (rleave_F d).fst.p3] ++ []))) ++
                                []))))) =
                    true →
                  ((leave_F d).snd == (rleave_F d).snd) = true →
                    conj
                          ([(next_F d).fst.f == (rnext_F d).fst.f] ++
                            ([(next_F d).fst.k == (rnext_F d).fst.k] ++
                              ([(next_F d).fst.a == (rnext_F d).fst.a] ++
                                ([(next_F d).fst.n == (rnext_F d).fst.n] ++
                                  ([(next_F d).fst.p0 == (rnext_F d).fst.p0] ++
                                      ([(next_F d).fst.p1 == (rnext_F d).fst.p1] ++
                                        ([(next_F d).fst.p2 == (rnext_F d).fst.p2] ++
                                          ([(next_F d).fst.p3 == (rnext_F d).fst.p3] ++ []))) ++
                                    []))))) =
                        true →
                      ((next_F d).snd == (rnext_F d).snd) = true →
                        (check_F s == rcheck_F s) = true →
                          (ends_F s == rends_F s) = true →
                            (adv_F s == radv_F s) = true →
                              decide
                                    (eI.lst (List.take (9 : Nat) (eI.lst (plS s).length (eI.els (plS s)))).length
                                        (eI.els (List.take (9 : Nat) (eI.lst (plS s).length (eI.els (plS s))))) =
                                      eI.lst (plS s).length (eI.els (plS s))) =
                                  true →
                                (eI.lst (plS s).length (eI.els (plS s))).length ≤ (1000000 : Nat)) ∧
                (conj
                        ([(leave_F d).fst.f == (rleave_F d).fst.f] ++
                          ([(leave_F d).fst.k == (rleave_F d).fst.k] ++
                            ([(leave_F d).fst.a == (rleave_F d).fst.a] ++
                              ([(leave_F d).fst.n == (rleave_F d).fst.n] ++
                                ([(leave_F d).fst.p0 == (rleave_F d).fst.p0] ++
                                    ([(leave_F d).fst.p1 == (rleave_F d).fst.p1] ++
                                      ([(leave_F d).fst.p2 == (rleave_F d).fst.p2] ++
                                        ([(leave_F d).fst.p3 == (rleave_F d).fst.p3] ++ []))) ++
                                  []))))) =
                      true →
                    ((leave_F d).snd == (rleave_F d).snd) = true →
                      conj
                            ([(next_F d).fst.f == (rnext_F d).fst.f] ++
                              ([(next_F d).fst.k == (rnext_F d).fst.k] ++
                                ([(next_F d).fst.a == (rnext_F d).fst.a] ++
                                  ([(next_F d).fst.n == (rnext_F d).fst.n] ++
                                    ([(next_F d).fst.p0 == (rnext_F d).fst.p0] ++
                                        ([(next_F d).fst.p1 == (rnext_F d).fst.p1] ++
                                          ([(next_F d).fst.p2 == (rnext_F d).fst.p2] ++
                                            ([(next_F d).fst.p3 == (rnext_F d).fst.p3] ++ []))) ++
                                      []))))) =
                          true →
                        ((next_F d).snd == (rnext_F d).snd) = true →
                          (check_F s == rcheck_F s) = true →
                            (ends_F s == rends_F s) = true →
                              (adv_F s == radv_F s) = true →
                                decide
                                      (eI.lst (List.take (9 : Nat) (eI.lst (plS s).length (eI.els (plS s)))).length
                                          (eI.els (List.take (9 : Nat) (eI.lst (plS s).length (eI.els (plS s))))) =
                                        eI.lst (plS s).length (eI.els (plS s))) =
                                    true →
                                  (0 : Int) ≤
                                      List.foldl
                                        (fun a x =>
                                          bif false then if x.snd.snd > a then x.snd.snd else a
                                          else if x.snd.snd < a then x.snd.snd else a)
                                        (↑(plS s).length : Int) [(false, IntKind.i64, IntKind.i64.wrap m)] ∧
                                    List.foldl
                                        (fun a x =>
                                          bif false then if x.snd.snd > a then x.snd.snd else a
                                          else if x.snd.snd < a then x.snd.snd else a)
                                        (↑(plS s).length : Int) [(false, IntKind.i64, IntKind.i64.wrap m)] ≤
                                      (↑(plS s).length : Int)) ∧
                  (conj
                          ([(leave_F d).fst.f == (rleave_F d).fst.f] ++
                            ([(leave_F d).fst.k == (rleave_F d).fst.k] ++
                              ([(leave_F d).fst.a == (rleave_F d).fst.a] ++
                                ([(leave_F d).fst.n == (rleave_F d).fst.n] ++
                                  ([(leave_F d).fst.p0 == (rleave_F d).fst.p0] ++
                                      ([(leave_F d).fst.p1 == (rleave_F d).fst.p1] ++
                                        ([(leave_F d).fst.p2 == (rleave_F d).fst.p2] ++
                                          ([(leave_F d).fst.p3 == (rleave_F d).fst.p3] ++ []))) ++
                                    []))))) =
                        true →
                      ((leave_F d).snd == (rleave_F d).snd) = true →
                        conj
                              ([(next_F d).fst.f == (rnext_F d).fst.f] ++
                                ([(next_F d).fst.k == (rnext_F d).fst.k] ++
                                  ([(next_F d).fst.a == (rnext_F d).fst.a] ++
                                    ([(next_F d).fst.n == (rnext_F d).fst.n] ++
                                      ([(next_F d).fst.p0 == (rnext_F d).fst.p0] ++
                                          ([(next_F d).fst.p1 == (rnext_F d).fst.p1] ++
                                            ([(next_F d).fst.p2 == (rnext_F d).fst.p2] ++
                                              ([(next_F d).fst.p3 == (rnext_F d).fst.p3] ++ []))) ++
                                        []))))) =
                            true →
                          ((next_F d).snd == (rnext_F d).snd) = true →
                            (check_F s == rcheck_F s) = true →
                              (ends_F s == rends_F s) = true →
                                (adv_F s == radv_F s) = true →
                                  decide
                                        (eI.lst (List.take (9 : Nat) (eI.lst (plS s).length (eI.els (plS s)))).length
                                            (eI.els (List.take (9 : Nat) (eI.lst (plS s).length (eI.els (plS s))))) =
                                          eI.lst (plS s).length (eI.els (plS s))) =
                                      true →
                                    ∀ (e : Nat),
                                      e <
                                          (List.take (IntKind.i64.wrap m).toNat
                                              (eI.lst (plS s).length (eI.els (plS s)))).length →
                                        eI.Ok
                                          (eI.els
                                            (List.take (IntKind.i64.wrap m).toNat
                                              (eI.lst (plS s).length (eI.els (plS s))))
                                            e)) ∧
                    (conj
                          ([(leave_F d).fst.f == (rleave_F d).fst.f] ++
                            ([(leave_F d).fst.k == (rleave_F d).fst.k] ++
                              ([(leave_F d).fst.a == (rleave_F d).fst.a] ++
                                ([(leave_F d).fst.n == (rleave_F d).fst.n] ++
                                  ([(leave_F d).fst.p0 == (rleave_F d).fst.p0] ++
                                      ([(leave_F d).fst.p1 == (rleave_F d).fst.p1] ++
                                        ([(leave_F d).fst.p2 == (rleave_F d).fst.p2] ++
                                          ([(leave_F d).fst.p3 == (rleave_F d).fst.p3] ++ []))) ++
                                    []))))) =
                        true →
                      ((leave_F d).snd == (rleave_F d).snd) = true →
                        conj
                              ([(next_F d).fst.f == (rnext_F d).fst.f] ++
                                ([(next_F d).fst.k == (rnext_F d).fst.k] ++
                                  ([(next_F d).fst.a == (rnext_F d).fst.a] ++
                                    ([(next_F d).fst.n == (rnext_F d).fst.n] ++
                                      ([(next_F d).fst.p0 == (rnext_F d).fst.p0] ++
                                          ([(next_F d).fst.p1 == (rnext_F d).fst.p1] ++
                                            ([(next_F d).fst.p2 == (rnext_F d).fst.p2] ++
                                              ([(next_F d).fst.p3 == (rnext_F d).fst.p3] ++ []))) ++
                                        []))))) =
                            true →
                          ((next_F d).snd == (rnext_F d).snd) = true →
                            (check_F s == rcheck_F s) = true →
                              (ends_F s == rends_F s) = true →
                                (adv_F s == radv_F s) = true →
                                  decide
                                        (eI.lst (List.take (9 : Nat) (eI.lst (plS s).length (eI.els (plS s)))).length
                                            (eI.els (List.take (9 : Nat) (eI.lst (plS s).length (eI.els (plS s))))) =
                                          eI.lst (plS s).length (eI.els (plS s))) =
                                      true →
                                    ∀ (e : Nat),
                                      e <
                                          (List.foldl
                                              (fun a x =>
                                                bif false then if x.snd.snd > a then x.snd.snd else a
                                                else if x.snd.snd < a then x.snd.snd else a)
                                              (↑(plS s).length : Int) [(false, IntKind.i64, IntKind.i64.wrap m)]).toNat →
                                        eI.Ok (eI.els (plS s) e))
theorem lw6_okS (pre : DA.T aLaw6 → List Prop) (h : ∀ g, DA.bd aLaw6 g → (∀ p ∈ pre g, p) → lw6_side g.1 g.2.1 g.2.2) : FnPure Try.prog 6 aLaw6 dBool (fun g => lw6_F g.1 g.2.1 g.2.2) pre := pure_of_sideS (Γ := (PTab.gamz tab43 [] [])) (Λ := noΛ) (PTab.okz tab43 [] []) noΛ_ok 100 default (fun g => lw6_side g.1 g.2.1 g.2.2) (fun g => by kernel_rfl) (fun g => by kernel_rfl) h
noncomputable def tab44 : PTab Try.prog := tab43
end Go.Proofs.Ytapmlfklkfgmoaa

/- Chapter 2: the law SummSteps answers true. -/
namespace Go.Proofs.Ytapmlfklkfgmoaa
open Go.RowKit Go.Sx Go.Lp
def eqS6 (a b : S) : Bool := decide (a = b)
theorem conj_S6 (a b : S) : conj ([a.f == b.f] ++ ([a.k == b.k] ++ ([a.a == b.a] ++ ([a.n == b.n] ++ ([a.p0 == b.p0] ++ ([a.p1 == b.p1] ++ ([a.p2 == b.p2] ++ ([a.p3 == b.p3] ++ []))) ++ []))))) = eqS6 a b := by
  obtain ⟨f, k, c, n, p0, p1, p2, p3⟩ := a
  obtain ⟨f', k', c', n', p0', p1', p2', p3'⟩ := b
  unfold eqS6
  simp [conj]
  rw [Bool.eq_iff_iff]
  simp
theorem may_t {s : S} (h : s.Ok) : may_F s = true := (may_iff s).2 h
theorem may_f {s : S} (h : ¬ s.Ok) : may_F s = false := by
  cases hm : may_F s with
  | true => exact absurd ((may_iff s).1 hm) h
  | false => rfl
theorem id_eq (d : Int) : rid_F d = id_F d := by
  unfold rid_F id_F
  rw [rcheck_eq]
  by_cases h : 0 ≤ d ∧ d ≤ 4
  · rw [may_t (by unfold S.Ok; simp; omega)]
    have h1 : ¬ d < 0 := by omega
    have h2 : ¬ d > 4 := by omega
    simp [h1, h2]
  · rw [may_f (by unfold S.Ok; simp; omega)]
    by_cases h1 : d < 0
    · simp [h1]
    · have h2 : d > 4 := by omega
      simp [h1, h2]
theorem enter_eq (d : Int) : renter_F d = enter_F d := by
  unfold renter_F enter_F
  rw [rcheck_eq]
  by_cases h : 0 ≤ d ∧ d ≤ 3
  · rw [may_t (by unfold S.Ok; simp; omega)]
    have h1 : ¬ d < 0 := by omega
    have h2 : ¬ d > 3 := by omega
    simp [h1, h2]
  · rw [may_f (by unfold S.Ok; simp; omega)]
    by_cases h1 : d < 0
    · simp [h1]
    · have h2 : d > 3 := by omega
      simp [h1, h2]
theorem leave_eq (d : Int) : rleave_F d = leave_F d := by
  unfold rleave_F leave_F
  rw [rcheck_eq]
  by_cases h : d < 1
  · simp [h]
  · by_cases h2 : d ≤ 4
    · rw [show IntKind.i64.wrap (d - 1) = d - 1 from wr (by omega)]
      rw [may_t (by unfold S.Ok; simp; omega)]
      have h3 : ¬ d > 4 := by omega
      simp [h, h3]
    · rw [may_f (by unfold S.Ok; simp; omega)]
      have h3 : d > 4 := by omega
      simp [h, h3]
theorem next_eq (d : Int) : rnext_F d = next_F d := by
  unfold rnext_F next_F
  rw [rcheck_eq]
  by_cases h : 1 ≤ d ∧ d ≤ 4
  · rw [may_t (by unfold S.Ok; simp; omega)]
    have h1 : ¬ d < 1 := by omega
    have h2 : ¬ d > 4 := by omega
    simp [h1, h2]
  · rw [may_f (by unfold S.Ok; simp; omega)]
    by_cases h1 : d < 1
    · simp [h1]
    · have h2 : d > 4 := by omega
      simp [h1, h2]
theorem check_eq (s : S) : check_F s = rcheck_F s := by
  unfold check_F
  rw [rcheck_eq]
  cases may_F s <;> rfl
theorem rends_eq (s : S) : rends_F s = ends_F s := by
  unfold rends_F ends_F
  rw [rcheck_eq]
  cases may_F s <;> rfl
theorem radv_eq (s : S) : radv_F s = adv_F s := by
  unfold radv_F adv_F
  rw [rcheck_eq]
  cases may_F s <;> rfl
theorem pl_len (s : S) : (plS s).length ≤ 4 := by
  unfold plS
  cases may_F s
  · simp
  · simp only [cond_true, List.length_take]
    exact Nat.min_le_right _ _
theorem min_eq (n w : Int) : List.foldl (fun (a : Int) (x : Bool × IntKind × Int) => bif false then if x.2.2 > a then x.2.2 else a else if x.2.2 < a then x.2.2 else a) n [(false, IntKind.i64, w)] = if w < n then w else n := rfl
theorem lw6_true (s : S) (d m : Int) (hm : 0 ≤ m ∧ m ≤ 255) : lw6_F s d m = true := by
  unfold lw6_F
  have hl := pl_len s
  have hw : IntKind.i64.wrap m = m := wr (by omega)
  simp only [id_eq, enter_eq, leave_eq, next_eq, check_eq, rends_eq, radv_eq, conj_S6, eqS6, eI.lst_els, hw, min_eq]
  rw [List.take_of_length_le (i := 9) (by omega), eI.lst_take _ _ (by split <;> omega)]
  have e : (plS s).take m.toNat = (plS s).take (if m < ((plS s).length : Int) then m else ((plS s).length : Int)).toNat := by
    split
    · rfl
    · rw [List.take_of_length_le (by omega), List.take_of_length_le (by omega)]
  simp [e]
theorem u8_rng {n : Int} (h : (Lit.int .u8 n).wf = true) : 0 ≤ n ∧ n ≤ 255 := by
  simp [Lit.wf] at h
  have e1 : IntKind.u8.min = 0 := by decide
  have e2 : IntKind.u8.max = 255 := by decide
  omega
theorem lw6_ok : FnPure Try.prog 6 aLaw6 dBool (fun _ => true) (fun g => [0 ≤ g.2.2 ∧ g.2.2 ≤ 255]) := by
  have h := lw6_okS (fun g => [0 ≤ g.2.2 ∧ g.2.2 ≤ 255]) fun g _ hp => by
    obtain ⟨s, d, m⟩ := g
    have hm : 0 ≤ m ∧ m ≤ 255 := hp _ (List.mem_cons_self ..)
    have hl := pl_len s
    have hw : IntKind.i64.wrap m = m := wr (by omega)
    show lw6_side s d m
    unfold lw6_side
    simp only [eI.lst_els, hw, min_eq]
    have hk := okI (plS s)
    have hk2 := okI ((plS s).take 9)
    have hk3 := okI ((plS s).take m.toNat)
    have h1 : 0 ≤ (if m < ((plS s).length : Int) then m else ((plS s).length : Int)) ∧ (if m < ((plS s).length : Int) then m else ((plS s).length : Int)) ≤ ((plS s).length : Int) := by split <;> omega
    repeat' (first | exact hk | exact hk2 | exact hk3 | exact h1.1 | exact h1.2 | apply And.intro | intro _)
    all_goals (first | omega | exact eI.ok_els _ _)
  exact pure_congr h fun g _ hp => lw6_true g.1 g.2.1 g.2.2 (hp _ (List.mem_cons_self ..))
end Go.Proofs.Ytapmlfklkfgmoaa

/- The row of SummStepsSaid, from the law's contract. Printed by rowgen.py. -/
namespace Go.Proofs.Ytapmlfklkfgmoaa
open Go.ChangeShapes Go.WideShapes Go.ChangeAt Go.RowKit Go.Sx

theorem Try.own : ownKnob Try.prog.godebug = none := by kernel_rfl
theorem Try.laidOut : laidOutB Try.prog = true := by kernel_rfl
set_option maxRecDepth 100000 in
theorem summSteps_lifted (law : FnPure Try.prog 6 aLaw6 dBool (fun _ => true) (fun g => [0 ≤ g.2.2 ∧ g.2.2 ≤ 255])) (os : Os) (started : os.Started) (H : Type) (enc : TypeId × Value → H) :
    ReturnsInHanded {} Try.checked os 6 .any (Rows.summStepsSpec.pre6 enc Try.prog Try.f6 Rows.summStepsRow.domain false) (Rows.summStepsSpec.post enc Try.prog Try.f6 false true false false) := by
  refine returnsInHanded_of_change (C := Try.checked) Try.own started (by kernel_rfl) Try.func6
    (ChangeSpec.witness6 (enc := enc) (C := Try.checked) false ⟨#[], #[.agg #[.int .i64 0, .int .i64 0, .int .i64 0, .int .i64 0, .int .i64 0, .int .i64 0, .int .i64 0, .int .i64 0], .int .i64 0, .int .u8 0], []⟩ 8 (by kernel_rfl) (by kernel_rfl) (by kernel_rfl) (by kernel_rfl)) ?_
  intro W base args ds gs before hval0 hW hcnd _
  have hval : ∀ (j : Nat) t v, Try.f6.params[j]? = some t → args[j]? = some v → Value.okWide Try.prog W .any base t v := hval0
  have hW' := hW
  obtain ⟨p, q, hA0, hV, rfl, hfz, hnd⟩ := hW
  have hA : DataW.TrodAll enc Try.prog W 0 (fun _ => true) true Try.f6.params.toList args.toList ds p := hA0
  rw [Try.params6] at hA hval
  obtain ⟨v0, vs0, d0, ds0, p0, qq0, hargs, rfl, rfl, h0, r0⟩ := trodAll_cons hA
  obtain ⟨v1, vs1, d1, ds1, p1, qq1, rfl, rfl, rfl, h1, r1⟩ := trodAll_cons r0
  obtain ⟨v2, vs2, d2, ds2, p2, qq2, rfl, rfl, rfl, h2, r2⟩ := trodAll_cons r1
  obtain ⟨rfl, rfl, rfl⟩ := trodAll_nil r2
  obtain rfl : args = #[v0, v1, v2] := by cases args; simp_all
  obtain ⟨rfl, rfl⟩ := trodVars_none hV
  obtain ⟨a0, q0, f0⟩ := rdvS _ _ _ _ _ _ _ _ _ _ _ (hval 0 24 v0 rfl rfl) h0
  obtain ⟨a1, q1, f1⟩ := rdvI _ _ _ _ _ _ _ _ _ _ _ (hval 1 3 v1 rfl rfl) h1
  obtain ⟨a2, q2, f2⟩ := rdvU _ _ _ _ _ _ _ _ _ _ _ (hval 2 5 v2 rfl rfl) h2
  have lt : ∀ {t : TypeId} {v : Value} {d : DataW H} {ps : List MemPlace}, DataW.Trod enc Try.prog W 0 (fun _ => true) true t v d ps → ∀ x ∈ ps, x.block < W.heap.size := by
    rintro t v d ps ⟨m, hm⟩
    exact DataW.trod_lt m _ _ _ hm
  clear hA0 hval0
  refine (law W (fun b => W.heap[b]?) (a0, a1, a2) [v0, v1, v2] (fun _ _ h => h) (by intro p hp; simp only [List.mem_singleton] at hp; subst hp; exact u8_rng q2) ⟨f0, f1, f2, trivial⟩).mono fun e W' ⟨x, he, bel, hx⟩ => ?_
  obtain rfl : x = .bool true := by simpa [dBool, SV.fit] using hx
  subst he
  exact ⟨_, rfl, _, _, _, [], _, [], hW', trodAll_mk1 (shut_bool Try.underlying4 _),
    (trodAll_cons_mk (Below.trod Try.laidOut (by kernel_rfl) (of_decide_eq_true (by kernel_rfl)) h0 bel (lt h0))
    (trodAll_cons_mk (Below.trod Try.laidOut (by kernel_rfl) (of_decide_eq_true (by kernel_rfl)) h1 bel (lt h1))
    (trodAll_cons_mk (Below.trod Try.laidOut (by kernel_rfl) (of_decide_eq_true (by kernel_rfl)) h2 bel (lt h2)) trodAll_mk0))), rfl, bel.frame _, fun h => by cases h⟩

theorem summSteps_over (law : FnPure Try.prog 6 aLaw6 dBool (fun _ => true) (fun g => [0 ≤ g.2.2 ∧ g.2.2 ≤ 255])) : Rows.SummStepsSaid :=
  OpenClaim.holds_of_wide 6 Try.f6 rfl rfl rfl rfl rfl rfl rfl ⟨rfl, rfl, rfl, rfl, rfl⟩ rfl rfl rfl rfl rfl (by kernel_rfl) Try.func6 (by kernel_rfl)
    (of_decide_eq_true (by kernel_rfl)) (by unfold Func.isWrapper; first | (rw [if_pos (by decide +kernel)]; kernel_rfl) | (rw [if_neg (by decide +kernel)]; exact ⟨rfl, rfl⟩))
    (fun os started H enc _ => summSteps_lifted law os started H enc)
end Go.Proofs.Ytapmlfklkfgmoaa

/- The law SummSteps of chapter 2 is proved: for every input the function returns true, and its arguments read as they did. No condition. -/
namespace Go.Proofs.Ytapmlfklkfgmoaa
open Go.RowKit Go.Sx
theorem summSteps_holds : Rows.SummStepsSaid := summSteps_over lw6_ok
end Go.Proofs.Ytapmlfklkfgmoaa
