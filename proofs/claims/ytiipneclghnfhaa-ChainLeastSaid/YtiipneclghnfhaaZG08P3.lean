/- Chapter 3: numbers as texts. Printed by treegen.py. -/
import Derived.Test.YtiipneclghnfhaaZG07P3
set_option linter.unusedVariables false
set_option linter.unusedSimpArgs false
set_option linter.constructorNameAsVariable false
set_option linter.all false

namespace Go.Proofs.Ytiipneclghnfhaa
open Go.RowKit Go.Sx
set_option maxRecDepth 100000
set_option linter.unusedVariables false
theorem puStr (r : ByteArray) : Pu (dStr.enc r) := pu_v _
noncomputable def dig_F (n : Int) : Dv.T dStr :=
  bif IntKind.i64.wrap (n.tdiv (10 : Int)) == (0 : Int) then
    strOf [IntKind.u8.wrap (IntKind.i64.wrap ((48 : Int) + n.tmod (10 : Int)))]
  else
    bif IntKind.i64.wrap ((IntKind.i64.wrap (n.tdiv (10 : Int))).tdiv (10 : Int)) == (0 : Int) then
      strOf
        [IntKind.u8.wrap (IntKind.i64.wrap ((48 : Int) + (IntKind.i64.wrap (n.tdiv (10 : Int))).tmod (10 : Int))),
          IntKind.u8.wrap (IntKind.i64.wrap ((48 : Int) + n.tmod (10 : Int)))]
    else
      bif
          IntKind.i64.wrap
              ((IntKind.i64.wrap ((IntKind.i64.wrap (n.tdiv (10 : Int))).tdiv (10 : Int))).tdiv (10 : Int)) ==
            (0 : Int) then
        strOf
          [IntKind.u8.wrap
              (IntKind.i64.wrap
                ((48 : Int) +
                  (IntKind.i64.wrap ((IntKind.i64.wrap (n.tdiv (10 : Int))).tdiv (10 : Int))).tmod (10 : Int))),
            IntKind.u8.wrap (IntKind.i64.wrap ((48 : Int) + (IntKind.i64.wrap (n.tdiv (10 : Int))).tmod (10 : Int))),
            IntKind.u8.wrap (IntKind.i64.wrap ((48 : Int) + n.tmod (10 : Int)))]
      else
        bif
            IntKind.i64.wrap
                ((IntKind.i64.wrap
                      ((IntKind.i64.wrap ((IntKind.i64.wrap (n.tdiv (10 : Int))).tdiv (10 : Int))).tdiv (10 : Int))).tdiv
                  (10 : Int)) ==
              (0 : Int) then
          strOf
            [IntKind.u8.wrap
                (IntKind.i64.wrap
                  ((48 : Int) +
                    (IntKind.i64.wrap
                          ((IntKind.i64.wrap ((IntKind.i64.wrap (n.tdiv (10 : Int))).tdiv (10 : Int))).tdiv
                            (10 : Int))).tmod
                      (10 : Int))),
              IntKind.u8.wrap
                (IntKind.i64.wrap
                  ((48 : Int) +
                    (IntKind.i64.wrap ((IntKind.i64.wrap (n.tdiv (10 : Int))).tdiv (10 : Int))).tmod (10 : Int))),
              IntKind.u8.wrap (IntKind.i64.wrap ((48 : Int) + (IntKind.i64.wrap (n.tdiv (10 : Int))).tmod (10 : Int))),
              IntKind.u8.wrap (IntKind.i64.wrap ((48 : Int) + n.tmod (10 : Int)))]
        else
          bif
              IntKind.i64.wrap
                  ((IntKind.i64.wrap
                        ((IntKind.i64.wrap
                              ((IntKind.i64.wrap ((IntKind.i64.wrap (n.tdiv (10 : Int))).tdiv (10 : Int))).tdiv
                                (10 : Int))).tdiv
                          (10 : Int))).tdiv
                    (10 : Int)) ==
                (0 : Int) then
            strOf
              [IntKind.u8.wrap
                  (IntKind.i64.wrap
                    ((48 : Int) +
                      (IntKind.i64.wrap
                            ((IntKind.i64.wrap
                                  ((IntKind.i64.wrap ((IntKind.i64.wrap (n.tdiv (10 : Int))).tdiv (10 : Int))).tdiv
                                    (10 : Int))).tdiv
                              (10 : Int))).tmod
                        (10 : Int))),
                IntKind.u8.wrap
                  (IntKind.i64.wrap
                    ((48 : Int) +
                      (IntKind.i64.wrap
                            ((IntKind.i64.wrap ((IntKind.i64.wrap (n.tdiv (10 : Int))).tdiv (10 : Int))).tdiv
                              (10 : Int))).tmod
                        (10 : Int))),
                IntKind.u8.wrap
                  (IntKind.i64.wrap
                    ((48 : Int) +
                      (IntKind.i64.wrap ((IntKind.i64.wrap (n.tdiv (10 : Int))).tdiv (10 : Int))).tmod (10 : Int))),
                IntKind.u8.wrap (IntKind.i64.wrap ((48 : Int) + (IntKind.i64.wrap (n.tdiv (10 : Int))).tmod (10 : Int))),
                IntKind.u8.wrap (IntKind.i64.wrap ((48 : Int) + n.tmod (10 : Int)))]
          else
            bif
                IntKind.i64.wrap
                    ((IntKind.i64.wrap
                          ((IntKind.i64.wrap
                                ((IntKind.i64.wrap
                                      ((IntKind.i64.wrap ((IntKind.i64.wrap (n.tdiv (10 : Int))).tdiv (10 : Int))).tdiv
                                        (10 : Int))).tdiv
                                  (10 : Int))).tdiv
                            (10 : Int))).tdiv
                      (10 : Int)) ==
                  (0 : Int) then
              strOf
                [IntKind.u8.wrap
                    (IntKind.i64.wrap
                      ((48 : Int) +
                        (IntKind.i64.wrap
                              ((IntKind.i64.wrap
                                    ((IntKind.i64.wrap
                                          ((IntKind.i64.wrap
                                                ((IntKind.i64.wrap (n.tdiv (10 : Int))).tdiv (10 : Int))).tdiv
                                            (10 : Int))).tdiv
                                      (10 : Int))).tdiv
                                (10 : Int))).tmod
                          (10 : Int))),
                  IntKind.u8.wrap
                    (IntKind.i64.wrap
                      ((48 : Int) +
                        (IntKind.i64.wrap
                              ((IntKind.i64.wrap
                                    ((IntKind.i64.wrap ((IntKind.i64.wrap (n.tdiv (10 : Int))).tdiv (10 : Int))).tdiv
                                      (10 : Int))).tdiv
                                (10 : Int))).tmod
                          (10 : Int))),
                  IntKind.u8.wrap
                    (IntKind.i64.wrap
                      ((48 : Int) +
                        (IntKind.i64.wrap
                              ((IntKind.i64.wrap ((IntKind.i64.wrap (n.tdiv (10 : Int))).tdiv (10 : Int))).tdiv
                                (10 : Int))).tmod
                          (10 : Int))),
                  IntKind.u8.wrap
                    (IntKind.i64.wrap
                      ((48 : Int) +
                        (IntKind.i64.wrap ((IntKind.i64.wrap (n.tdiv (10 : Int))).tdiv (10 : Int))).tmod (10 : Int))),
                  IntKind.u8.wrap
                    (IntKind.i64.wrap ((48 : Int) + (IntKind.i64.wrap (n.tdiv (10 : Int))).tmod (10 : Int))),
                  IntKind.u8.wrap (IntKind.i64.wrap ((48 : Int) + n.tmod (10 : Int)))]
            else
              bif
                  IntKind.i64.wrap
                      ((IntKind.i64.wrap
                            ((IntKind.i64.wrap
                                  ((IntKind.i64.wrap
                                        ((IntKind.i64.wrap
                                              ((IntKind.i64.wrap
                                                    ((IntKind.i64.wrap (n.tdiv (10 : Int))).tdiv (10 : Int))).tdiv
                                                (10 : Int))).tdiv
                                          (10 : Int))).tdiv
                                    (10 : Int))).tdiv
                              (10 : Int))).tdiv
                        (10 : Int)) ==
                    (0 : Int) then
                strOf
                  [IntKind.u8.wrap
                      (IntKind.i64.wrap
                        ((48 : Int) +
                          (IntKind.i64.wrap
                                ((IntKind.i64.wrap
                                      ((IntKind.i64.wrap
                                            ((IntKind.i64.wrap
                                                  ((IntKind.i64.wrap
                                                        ((IntKind.i64.wrap (n.tdiv (10 : Int))).tdiv (10 : Int))).tdiv
                                                    (10 : Int))).tdiv
                                              (10 : Int))).tdiv
                                        (10 : Int))).tdiv
                                  (10 : Int))).tmod
                            (10 : Int))),
                    IntKind.u8.wrap
                      (IntKind.i64.wrap
                        ((48 : Int) +
                          (IntKind.i64.wrap
                                ((IntKind.i64.wrap
                                      ((IntKind.i64.wrap
                                            ((IntKind.i64.wrap
                                                  ((IntKind.i64.wrap (n.tdiv (10 : Int))).tdiv (10 : Int))).tdiv
                                              (10 : Int))).tdiv
                                        (10 : Int))).tdiv
                                  (10 : Int))).tmod
                            (10 : Int))),
                    IntKind.u8.wrap
                      (IntKind.i64.wrap
                        ((48 : Int) +
                          (IntKind.i64.wrap
                                ((IntKind.i64.wrap
                                      ((IntKind.i64.wrap ((IntKind.i64.wrap (n.tdiv (10 : Int))).tdiv (10 : Int))).tdiv
                                        (10 : Int))).tdiv
                                  (10 : Int))).tmod
                            (10 : Int))),
                    IntKind.u8.wrap
                      (IntKind.i64.wrap
                        ((48 : Int) +
                          (IntKind.i64.wrap
                                ((IntKind.i64.wrap ((IntKind.i64.wrap (n.tdiv (10 : Int))).tdiv (10 : Int))).tdiv
                                  (10 : Int))).tmod
                            (10 : Int))),
                    IntKind.u8.wrap
                      (IntKind.i64.wrap
                        ((48 : Int) +
                          (IntKind.i64.wrap ((IntKind.i64.wrap (n.tdiv (10 : Int))).tdiv (10 : Int))).tmod (10 : Int))),
                    IntKind.u8.wrap
                      (IntKind.i64.wrap ((48 : Int) + (IntKind.i64.wrap (n.tdiv (10 : Int))).tmod (10 : Int))),
                    IntKind.u8.wrap (IntKind.i64.wrap ((48 : Int) + n.tmod (10 : Int)))]
              else
                bif
                    IntKind.i64.wrap
                        ((IntKind.i64.wrap
                              ((IntKind.i64.wrap
                                    ((IntKind.i64.wrap
                                          ((IntKind.i64.wrap
                                                ((IntKind.i64.wrap
                                                      ((IntKind.i64.wrap
                                                            ((IntKind.i64.wrap (n.tdiv (10 : Int))).tdiv (10 : Int))).tdiv
                                                        (10 : Int))).tdiv
                                                  (10 : Int))).tdiv
                                            (10 : Int))).tdiv
                                      (10 : Int))).tdiv
                                (10 : Int))).tdiv
                          (10 : Int)) ==
                      (0 : Int) then
                  strOf
                    [IntKind.u8.wrap
                        (IntKind.i64.wrap
                          ((48 : Int) +
                            (IntKind.i64.wrap
                                  ((IntKind.i64.wrap
                                        ((IntKind.i64.wrap
                                              ((IntKind.i64.wrap
                                                    ((IntKind.i64.wrap
                                                          ((IntKind.i64.wrap
                                                                ((IntKind.i64.wrap (n.tdiv (10 : Int))).tdiv
                                                                  (10 : Int))).tdiv
                                                            (10 : Int))).tdiv
                                                      (10 : Int))).tdiv
                                                (10 : Int))).tdiv
                                          (10 : Int))).tdiv
                                    (10 : Int))).tmod
                              (10 : Int))),
                      IntKind.u8.wrap
                        (IntKind.i64.wrap
                          ((48 : Int) +
                            (IntKind.i64.wrap
                                  ((IntKind.i64.wrap
                                        ((IntKind.i64.wrap
                                              ((IntKind.i64.wrap
                                                    ((IntKind.i64.wrap
                                                          ((IntKind.i64.wrap (n.tdiv (10 : Int))).tdiv (10 : Int))).tdiv
                                                      (10 : Int))).tdiv
                                                (10 : Int))).tdiv
                                          (10 : Int))).tdiv
                                    (10 : Int))).tmod
                              (10 : Int))),
                      IntKind.u8.wrap
                        (IntKind.i64.wrap
                          ((48 : Int) +
                            (IntKind.i64.wrap
                                  ((IntKind.i64.wrap
                                        ((IntKind.i64.wrap
                                              ((IntKind.i64.wrap
                                                    ((IntKind.i64.wrap (n.tdiv (10 : Int))).tdiv (10 : Int))).tdiv
                                                (10 : Int))).tdiv
                                          (10 : Int))).tdiv
                                    (10 : Int))).tmod
                              (10 : Int))),
                      IntKind.u8.wrap
                        (IntKind.i64.wrap
                          ((48 : Int) +
                            (IntKind.i64.wrap
                                  ((IntKind.i64.wrap
                                        ((IntKind.i64.wrap ((IntKind.i64.wrap (n.tdiv (10 : Int))).tdiv (10 : Int))).tdiv
                                          (10 : Int))).tdiv
                                    (10 : Int))).tmod
                              (10 : Int))),
                      IntKind.u8.wrap
                        (IntKind.i64.wrap
                          ((48 : Int) +
                            (IntKind.i64.wrap
                                  ((IntKind.i64.wrap ((IntKind.i64.wrap (n.tdiv (10 : Int))).tdiv (10 : Int))).tdiv
                                    (10 : Int))).tmod
                              (10 : Int))),
                      IntKind.u8.wrap
                        (IntKind.i64.wrap
                          ((48 : Int) +
                            (IntKind.i64.wrap ((IntKind.i64.wrap (n.tdiv (10 : Int))).tdiv (10 : Int))).tmod (10 : Int))),
                      IntKind.u8.wrap
                        (IntKind.i64.wrap ((48 : Int) + (IntKind.i64.wrap (n.tdiv (10 : Int))).tmod (10 : Int))),
                      IntKind.u8.wrap (IntKind.i64.wrap ((48 : Int) + n.tmod (10 : Int)))]
                else
                  bif
                      IntKind.i64.wrap
                          ((IntKind.i64.wrap
                                ((IntKind.i64.wrap
                                      ((IntKind.i64.wrap
                                            ((IntKind.i64.wrap
                                                  ((IntKind.i64.wrap
                                                        ((IntKind.i64.wrap
                                                              ((IntKind.i64.wrap
                                                                    ((IntKind.i64.wrap (n.tdiv (10 : Int))).tdiv
                                                                      (10 : Int))).tdiv
                                                                (10 : Int))).tdiv
                                                          (10 : Int))).tdiv
                                                    (10 : Int))).tdiv
                                              (10 : Int))).tdiv
                                        (10 : Int))).tdiv
                                  (10 : Int))).tdiv
                            (10 : Int)) ==
                        (0 : Int) then
                    strOf
                      [IntKind.u8.wrap
                          (IntKind.i64.wrap
                            ((48 : Int) +
                              (IntKind.i64.wrap
                                    ((IntKind.i64.wrap
                                          ((IntKind.i64.wrap
                                                ((IntKind.i64.wrap
                                                      ((IntKind.i64.wrap
                                                            ((IntKind.i64.wrap
                                                                  ((IntKind.i64.wrap
                                                                        ((IntKind.i64.wrap (n.tdiv (10 : Int))).tdiv
                                                                          (10 : Int))).tdiv
                                                                    (10 : Int))).tdiv
                                                              (10 : Int))).tdiv
                                                        (10 : Int))).tdiv
                                                  (10 : Int))).tdiv
                                            (10 : Int))).tdiv
                                      (10 : Int))).tmod
                                (10 : Int))),
                        IntKind.u8.wrap
                          (IntKind.i64.wrap
                            ((48 : Int) +
                              (IntKind.i64.wrap
                                    ((IntKind.i64.wrap
                                          ((IntKind.i64.wrap
                                                ((IntKind.i64.wrap
                                                      ((IntKind.i64.wrap
                                                            ((IntKind.i64.wrap
                                                                  ((IntKind.i64.wrap (n.tdiv (10 : Int))).tdiv
                                                                    (10 : Int))).tdiv
                                                              (10 : Int))).tdiv
                                                        (10 : Int))).tdiv
                                                  (10 : Int))).tdiv
                                            (10 : Int))).tdiv
                                      (10 : Int))).tmod
                                (10 : Int))),
                        IntKind.u8.wrap
                          (IntKind.i64.wrap
                            ((48 : Int) +
                              (IntKind.i64.wrap
                                    ((IntKind.i64.wrap
                                          ((IntKind.i64.wrap
                                                ((IntKind.i64.wrap
                                                      ((IntKind.i64.wrap
                                                            ((IntKind.i64.wrap (n.tdiv (10 : Int))).tdiv (10 : Int))).tdiv
                                                        (10 : Int))).tdiv
                                                  (10 : Int))).tdiv
                                            (10 : Int))).tdiv
                                      (10 : Int))).tmod
                                (10 : Int))),
                        IntKind.u8.wrap
                          (IntKind.i64.wrap
                            ((48 : Int) +
                              (IntKind.i64.wrap
                                    ((IntKind.i64.wrap
                                          ((IntKind.i64.wrap
                                                ((IntKind.i64.wrap
                                                      ((IntKind.i64.wrap (n.tdiv (10 : Int))).tdiv (10 : Int))).tdiv
                                                  (10 : Int))).tdiv
                                            (10 : Int))).tdiv
                                      (10 : Int))).tmod
                                (10 : Int))),
                        IntKind.u8.wrap
                          (IntKind.i64.wrap
                            ((48 : Int) +
                              (IntKind.i64.wrap
                                    ((IntKind.i64.wrap
                                          ((IntKind.i64.wrap
                                                ((IntKind.i64.wrap (n.tdiv (10 : Int))).tdiv (10 : Int))).tdiv
                                            (10 : Int))).tdiv
                                      (10 : Int))).tmod
                                (10 : Int))),
                        IntKind.u8.wrap
                          (IntKind.i64.wrap
                            ((48 : Int) +
                              (IntKind.i64.wrap
                                    ((IntKind.i64.wrap ((IntKind.i64.wrap (n.tdiv (10 : Int))).tdiv (10 : Int))).tdiv
                                      (10 : Int))).tmod
                                (10 : Int))),
                        IntKind.u8.wrap
                          (IntKind.i64.wrap
                            ((48 : Int) +
                              (IntKind.i64.wrap ((IntKind.i64.wrap (n.tdiv (10 : Int))).tdiv (10 : Int))).tmod
                                (10 : Int))),
                        IntKind.u8.wrap
                          (IntKind.i64.wrap ((48 : Int) + (IntKind.i64.wrap (n.tdiv (10 : Int))).tmod (10 : Int))),
                        IntKind.u8.wrap (IntKind.i64.wrap ((48 : Int) + n.tmod (10 : Int)))]
                  else
                    bif
                        IntKind.i64.wrap
                            ((IntKind.i64.wrap
                                  ((IntKind.i64.wrap
                                        ((IntKind.i64.wrap
                                              ((IntKind.i64.wrap
                                                    ((IntKind.i64.wrap
                                                          ((IntKind.i64.wrap
                                                                ((IntKind.i64.wrap
                                                                      ((IntKind.i64.wrap
                                                                            ((IntKind.i64.wrap (n.tdiv (10 : Int))).tdiv
                                                                              (10 : Int))).tdiv
                                                                        (10 : Int))).tdiv
                                                                  (10 : Int))).tdiv
                                                            (10 : Int))).tdiv
                                                      (10 : Int))).tdiv
                                                (10 : Int))).tdiv
                                          (10 : Int))).tdiv
                                    (10 : Int))).tdiv
                              (10 : Int)) ==
                          (0 : Int) then
                      strOf
                        [IntKind.u8.wrap
                            (IntKind.i64.wrap
                              ((48 : Int) +
                                (IntKind.i64.wrap
                                      ((IntKind.i64.wrap
                                            ((IntKind.i64.wrap
                                                  ((IntKind.i64.wrap
                                                        ((IntKind.i64.wrap
                                                              ((IntKind.i64.wrap
                                                                    ((IntKind.i64.wrap
                                                                          ((IntKind.i64.wrap
                                                                                ((IntKind.i64.wrap
                                                                                      (n.tdiv (10 : Int))).tdiv
                                                                                  (10 : Int))).tdiv
                                                                            (10 : Int))).tdiv
                                                                      (10 : Int))).tdiv
                                                                (10 : Int))).tdiv
                                                          (10 : Int))).tdiv
                                                    (10 : Int))).tdiv
                                              (10 : Int))).tdiv
                                        (10 : Int))).tmod
                                  (10 : Int))),
                          IntKind.u8.wrap
                            (IntKind.i64.wrap
                              ((48 : Int) +
                                (IntKind.i64.wrap
                                      ((IntKind.i64.wrap
                                            ((IntKind.i64.wrap
                                                  ((IntKind.i64.wrap
                                                        ((IntKind.i64.wrap
                                                              ((IntKind.i64.wrap
                                                                    ((IntKind.i64.wrap
                                                                          ((IntKind.i64.wrap (n.tdiv (10 : Int))).tdiv
                                                                            (10 : Int))).tdiv
                                                                      (10 : Int))).tdiv
                                                                (10 : Int))).tdiv
                                                          (10 : Int))).tdiv
                                                    (10 : Int))).tdiv
                                              (10 : Int))).tdiv
                                        (10 : Int))).tmod
                                  (10 : Int))),
                          IntKind.u8.wrap
                            (IntKind.i64.wrap
                              ((48 : Int) +
                                (IntKind.i64.wrap
                                      ((IntKind.i64.wrap
                                            ((IntKind.i64.wrap
                                                  ((IntKind.i64.wrap
                                                        ((IntKind.i64.wrap
                                                              ((IntKind.i64.wrap
                                                                    ((IntKind.i64.wrap (n.tdiv (10 : Int))).tdiv
                                                                      (10 : Int))).tdiv
                                                                (10 : Int))).tdiv
                                                          (10 : Int))).tdiv
                                                    (10 : Int))).tdiv
                                              (10 : Int))).tdiv
                                        (10 : Int))).tmod
                                  (10 : Int))),
                          IntKind.u8.wrap
                            (IntKind.i64.wrap
                              ((48 : Int) +
                                (IntKind.i64.wrap
                                      ((IntKind.i64.wrap
                                            ((IntKind.i64.wrap
                                                  ((IntKind.i64.wrap
                                                        ((IntKind.i64.wrap
                                                              ((IntKind.i64.wrap (n.tdiv (10 : Int))).tdiv
                                                                (10 : Int))).tdiv
                                                          (10 : Int))).tdiv
                                                    (10 : Int))).tdiv
                                              (10 : Int))).tdiv
                                        (10 : Int))).tmod
                                  (10 : Int))),
                          IntKind.u8.wrap
                            (IntKind.i64.wrap
                              ((48 : Int) +
                                (IntKind.i64.wrap
                                      ((IntKind.i64.wrap
                                            ((IntKind.i64.wrap
                                                  ((IntKind.i64.wrap
                                                        ((IntKind.i64.wrap (n.tdiv (10 : Int))).tdiv (10 : Int))).tdiv
                                                    (10 : Int))).tdiv
                                              (10 : Int))).tdiv
                                        (10 : Int))).tmod
                                  (10 : Int))),
                          IntKind.u8.wrap
                            (IntKind.i64.wrap
                              ((48 : Int) +
                                (IntKind.i64.wrap
                                      ((IntKind.i64.wrap
                                            ((IntKind.i64.wrap
                                                  ((IntKind.i64.wrap (n.tdiv (10 : Int))).tdiv (10 : Int))).tdiv
                                              (10 : Int))).tdiv
                                        (10 : Int))).tmod
                                  (10 : Int))),
                          IntKind.u8.wrap
                            (IntKind.i64.wrap
                              ((48 : Int) +
                                (IntKind.i64.wrap
                                      ((IntKind.i64.wrap ((IntKind.i64.wrap (n.tdiv (10 : Int))).tdiv (10 : Int))).tdiv
                                        (10 : Int))).tmod
                                  (10 : Int))),
                          IntKind.u8.wrap
                            (IntKind.i64.wrap
                              ((48 : Int) +
                                (IntKind.i64.wrap ((IntKind.i64.wrap (n.tdiv (10 : Int))).tdiv (10 : Int))).tmod
                                  (10 : Int))),
                          IntKind.u8.wrap
                            (IntKind.i64.wrap ((48 : Int) + (IntKind.i64.wrap (n.tdiv (10 : Int))).tmod (10 : Int))),
                          IntKind.u8.wrap (IntKind.i64.wrap ((48 : Int) + n.tmod (10 : Int)))]
                    else
                      bif
                          IntKind.i64.wrap
                              ((IntKind.i64.wrap
                                    ((IntKind.i64.wrap
                                          ((IntKind.i64.wrap
                                                ((IntKind.i64.wrap
                                                      ((IntKind.i64.wrap
                                                            ((IntKind.i64.wrap
                                                                  ((IntKind.i64.wrap
                                                                        ((IntKind.i64.wrap
                                                                              ((IntKind.i64.wrap
                                                                                    ((IntKind.i64.wrap
                                                                                          (n.tdiv (10 : Int))).tdiv
                                                                                      (10 : Int))).tdiv
                                                                                (10 : Int))).tdiv
                                                                          (10 : Int))).tdiv
                                                                    (10 : Int))).tdiv
                                                              (10 : Int))).tdiv
                                                        (10 : Int))).tdiv
                                                  (10 : Int))).tdiv
                                            (10 : Int))).tdiv
                                      (10 : Int))).tdiv
                                (10 : Int)) ==
                            (0 : Int) then
                        strOf
                          [IntKind.u8.wrap
                              (IntKind.i64.wrap
                                ((48 : Int) +
                                  (IntKind.i64.wrap
                                        ((IntKind.i64.wrap
                                              ((IntKind.i64.wrap
                                                    ((IntKind.i64.wrap
                                                          ((IntKind.i64.wrap
                                                                ((IntKind.i64.wrap
                                                                      ((IntKind.i64.wrap
                                                                            ((IntKind.i64.wrap
                                                                                  ((IntKind.i64.wrap
                                                                                        ((IntKind.i64.wrap
                                                                                              (n.tdiv (10 : Int))).tdiv
                                                                                          (10 : Int))).tdiv
                                                                                    (10 : Int))).tdiv
                                                                              (10 : Int))).tdiv
                                                                        (10 : Int))).tdiv
                                                                  (10 : Int))).tdiv
                                                            (10 : Int))).tdiv
                                                      (10 : Int))).tdiv
                                                (10 : Int))).tdiv
                                          (10 : Int))).tmod
                                    (10 : Int))),
                            IntKind.u8.wrap
                              (IntKind.i64.wrap
                                ((48 : Int) +
                                  (IntKind.i64.wrap
                                        ((IntKind.i64.wrap
                                              ((IntKind.i64.wrap
                                                    ((IntKind.i64.wrap
                                                          ((IntKind.i64.wrap
                                                                ((IntKind.i64.wrap
                                                                      ((IntKind.i64.wrap
                                                                            ((IntKind.i64.wrap
                                                                                  ((IntKind.i64.wrap
                                                                                        (n.tdiv (10 : Int))).tdiv
                                                                                    (10 : Int))).tdiv
                                                                              (10 : Int))).tdiv
                                                                        (10 : Int))).tdiv
                                                                  (10 : Int))).tdiv
                                                            (10 : Int))).tdiv
                                                      (10 : Int))).tdiv
                                                (10 : Int))).tdiv
                                          (10 : Int))).tmod
                                    (10 : Int))),
                            IntKind.u8.wrap
                              (IntKind.i64.wrap
                                ((48 : Int) +
                                  (IntKind.i64.wrap
                                        ((IntKind.i64.wrap
                                              ((IntKind.i64.wrap
                                                    ((IntKind.i64.wrap
                                                          ((IntKind.i64.wrap
                                                                ((IntKind.i64.wrap
                                                                      ((IntKind.i64.wrap
                                                                            ((IntKind.i64.wrap (n.tdiv (10 : Int))).tdiv
                                                                              (10 : Int))).tdiv
                                                                        (10 : Int))).tdiv
                                                                  (10 : Int))).tdiv
                                                            (10 : Int))).tdiv
                                                      (10 : Int))).tdiv
                                                (10 : Int))).tdiv
                                          (10 : Int))).tmod
                                    (10 : Int))),
                            IntKind.u8.wrap
                              (IntKind.i64.wrap
                                ((48 : Int) +
                                  (IntKind.i64.wrap
                                        ((IntKind.i64.wrap
                                              ((IntKind.i64.wrap
                                                    ((IntKind.i64.wrap
                                                          ((IntKind.i64.wrap
                                                                ((IntKind.i64.wrap
                                                                      ((IntKind.i64.wrap (n.tdiv (10 : Int))).tdiv
                                                                        (10 : Int))).tdiv
                                                                  (10 : Int))).tdiv
                                                            (10 : Int))).tdiv
                                                      (10 : Int))).tdiv
                                                (10 : Int))).tdiv
                                          (10 : Int))).tmod
                                    (10 : Int))),
                            IntKind.u8.wrap
                              (IntKind.i64.wrap
                                ((48 : Int) +
                                  (IntKind.i64.wrap
                                        ((IntKind.i64.wrap
                                              ((IntKind.i64.wrap
                                                    ((IntKind.i64.wrap
                                                          ((IntKind.i64.wrap
                                                                ((IntKind.i64.wrap (n.tdiv (10 : Int))).tdiv
                                                                  (10 : Int))).tdiv
                                                            (10 : Int))).tdiv
                                                      (10 : Int))).tdiv
                                                (10 : Int))).tdiv
                                          (10 : Int))).tmod
                                    (10 : Int))),
                            IntKind.u8.wrap
                              (IntKind.i64.wrap
                                ((48 : Int) +
                                  (IntKind.i64.wrap
                                        ((IntKind.i64.wrap
                                              ((IntKind.i64.wrap
                                                    ((IntKind.i64.wrap
                                                          ((IntKind.i64.wrap (n.tdiv (10 : Int))).tdiv (10 : Int))).tdiv
                                                      (10 : Int))).tdiv
                                                (10 : Int))).tdiv
                                          (10 : Int))).tmod
                                    (10 : Int))),
                            IntKind.u8.wrap
                              (IntKind.i64.wrap
                                ((48 : Int) +
                                  (IntKind.i64.wrap
                                        ((IntKind.i64.wrap
                                              ((IntKind.i64.wrap
                                                    ((IntKind.i64.wrap (n.tdiv (10 : Int))).tdiv (10 : Int))).tdiv
                                                (10 : Int))).tdiv
                                          (10 : Int))).tmod
                                    (10 : Int))),
                            IntKind.u8.wrap
                              (IntKind.i64.wrap
                                ((48 : Int) +
                                  (IntKind.i64.wrap
                                        ((IntKind.i64.wrap ((IntKind.i64.wrap (n.tdiv (10 : Int))).tdiv (10 : Int))).tdiv
                                          (10 : Int))).tmod
                                    (10 : Int))),
                            IntKind.u8.wrap
                              (IntKind.i64.wrap
                                ((48 : Int) +
                                  (IntKind.i64.wrap ((IntKind.i64.wrap (n.tdiv (10 : Int))).tdiv (10 : Int))).tmod
                                    (10 : Int))),
                            IntKind.u8.wrap
                              (IntKind.i64.wrap ((48 : Int) + (IntKind.i64.wrap (n.tdiv (10 : Int))).tmod (10 : Int))),
                            IntKind.u8.wrap (IntKind.i64.wrap ((48 : Int) + n.tmod (10 : Int)))]
                      else default
def dig_side (n : Int) : Prop :=
  (10 : Int) ≠ (0 : Int) ∧
    (10 : Int) ≠ (0 : Int) ∧
      ((IntKind.i64.wrap (n.tdiv (10 : Int)) == (0 : Int)) = true → True) ∧
        ((IntKind.i64.wrap (n.tdiv (10 : Int)) == (0 : Int)) = false →
          (10 : Int) ≠ (0 : Int) ∧
            (10 : Int) ≠ (0 : Int) ∧
              ((IntKind.i64.wrap ((IntKind.i64.wrap (n.tdiv (10 : Int))).tdiv (10 : Int)) == (0 : Int)) = true → True) ∧
                ((IntKind.i64.wrap ((IntKind.i64.wrap (n.tdiv (10 : Int))).tdiv (10 : Int)) == (0 : Int)) = false →
                  (10 : Int) ≠ (0 : Int) ∧
                    (10 : Int) ≠ (0 : Int) ∧
                      ((IntKind.i64.wrap
                                ((IntKind.i64.wrap ((IntKind.i64.wrap (n.tdiv (10 : Int))).tdiv (10 : Int))).tdiv
                                  (10 : Int)) ==
                              (0 : Int)) =
                            true →
                          True) ∧
                        ((IntKind.i64.wrap
                                ((IntKind.i64.wrap ((IntKind.i64.wrap (n.tdiv (10 : Int))).tdiv (10 : Int))).tdiv
                                  (10 : Int)) ==
                              (0 : Int)) =
                            false →
                          (10 : Int) ≠ (0 : Int) ∧
                            (10 : Int) ≠ (0 : Int) ∧
                              ((IntKind.i64.wrap
                                        ((IntKind.i64.wrap
                                              ((IntKind.i64.wrap
                                                    ((IntKind.i64.wrap (n.tdiv (10 : Int))).tdiv (10 : Int))).tdiv
                                                (10 : Int))).tdiv
                                          (10 : Int)) ==
                                      (0 : Int)) =
                                    true →
                                  True) ∧
                                ((IntKind.i64.wrap
                                        ((IntKind.i64.wrap
                                              ((IntKind.i64.wrap
                                                    ((IntKind.i64.wrap (n.tdiv (10 : Int))).tdiv (10 : Int))).tdiv
                                                (10 : Int))).tdiv
                                          (10 : Int)) ==
                                      (0 : Int)) =
                                    false →
                                  (10 : Int) ≠ (0 : Int) ∧
                                    (10 : Int) ≠ (0 : Int) ∧
                                      ((IntKind.i64.wrap
                                                ((IntKind.i64.wrap
                                                      ((IntKind.i64.wrap
                                                            ((IntKind.i64.wrap
                                                                  ((IntKind.i64.wrap (n.tdiv (10 : Int))).tdiv
                                                                    (10 : Int))).tdiv
                                                              (10 : Int))).tdiv
                                                        (10 : Int))).tdiv
                                                  (10 : Int)) ==
                                              (0 : Int)) =
                                            true →
                                          True) ∧
                                        ((IntKind.i64.wrap
                                                ((IntKind.i64.wrap
                                                      ((IntKind.i64.wrap
                                                            ((IntKind.i64.wrap
                                                                  ((IntKind.i64.wrap (n.tdiv (10 : Int))).tdiv
                                                                    (10 : Int))).tdiv
                                                              (10 : Int))).tdiv
                                                        (10 : Int))).tdiv
                                                  (10 : Int)) ==
                                              (0 : Int)) =
                                            false →
                                          (10 : Int) ≠ (0 : Int) ∧
                                            (10 : Int) ≠ (0 : Int) ∧
                                              ((IntKind.i64.wrap
                                                        ((IntKind.i64.wrap
                                                              ((IntKind.i64.wrap
                                                                    ((IntKind.i64.wrap
                                                                          ((IntKind.i64.wrap
                                                                                ((IntKind.i64.wrap
                                                                                      (n.tdiv (10 : Int))).tdiv
                                                                                  (10 : Int))).tdiv
                                                                            (10 : Int))).tdiv
                                                                      (10 : Int))).tdiv
                                                                (10 : Int))).tdiv
                                                          (10 : Int)) ==
                                                      (0 : Int)) =
                                                    true →
                                                  True) ∧
                                                ((IntKind.i64.wrap
                                                        ((IntKind.i64.wrap
                                                              ((IntKind.i64.wrap
                                                                    ((IntKind.i64.wrap
                                                                          ((IntKind.i64.wrap
                                                                                ((IntKind.i64.wrap
                                                                                      (n.tdiv (10 : Int))).tdiv
                                                                                  (10 : Int))).tdiv
                                                                            (10 : Int))).tdiv
                                                                      (10 : Int))).tdiv
                                                                (10 : Int))).tdiv
                                                          (10 : Int)) ==
                                                      (0 : Int)) =
                                                    false →
                                                  (10 : Int) ≠ (0 : Int) ∧
                                                    (10 : Int) ≠ (0 : Int) ∧
                                                      ((IntKind.i64.wrap
                                                                ((IntKind.i64.wrap
                                                                      ((IntKind.i64.wrap
                                                                            ((IntKind.i64.wrap
                                                                                  ((IntKind.i64.wrap
                                                                                        ((IntKind.i64.wrap
                                                                                              ((IntKind.i64.wrap
                                                                                                    (n.tdiv
                                                                                                      (10 : Int))).tdiv
                                                                                                (10 : Int))).tdiv
                                                                                          (10 : Int))).tdiv
                                                                                    (10 : Int))).tdiv
                                                                              (10 : Int))).tdiv
                                                                        (10 : Int))).tdiv
                                                                  (10 : Int)) ==
                                                              (0 : Int)) =
                                                            true →
                                                          True) ∧
                                                        ((IntKind.i64.wrap
                                                                ((IntKind.i64.wrap
                                                                      ((IntKind.i64.wrap
                                                                            ((IntKind.i64.wrap
                                                                                  ((IntKind.i64.wrap
                                                                                        ((IntKind.i64.wrap
                                                                                              ((IntKind.i64.wrap
                                                                                                    (n.tdiv
                                                                                                      (10 : Int))).tdiv
                                                                                                (10 : Int))).tdiv
                                                                                          (10 : Int))).tdiv
                                                                                    (10 : Int))).tdiv
                                                                              (10 : Int))).tdiv
                                                                        (10 : Int))).tdiv
                                                                  (10 : Int)) ==
                                                              (0 : Int)) =
                                                            false →
                                                          (10 : Int) ≠ (0 : Int) ∧
                                                            (10 : Int) ≠ (0 : Int) ∧
                                                              ((IntKind.i64.wrap
                                                                        ((IntKind.i64.wrap
                                                                              ((IntKind.i64.wrap
                                                                                    ((IntKind.i64.wrap
                                                                                          ((IntKind.i64.wrap
                                                                                                ((IntKind.i64.wrap
                                                                                                      ((IntKind.i64.wrap
                                                                                                            ((IntKind.i64.wrap
                                                                                                                  (n.tdiv
                                                                                                                    (10 :
                                                                                                                      Int))).tdiv
                                                                                                              (10 :
                                                                                                                Int))).tdiv
                                                                                                        (10 : Int))).tdiv
                                                                                                  (10 : Int))).tdiv
                                                                                            (10 : Int))).tdiv
                                                                                      (10 : Int))).tdiv
                                                                                (10 : Int))).tdiv
                                                                          (10 : Int)) ==
                                                                      (0 : Int)) =
                                                                    true →
                                                                  True) ∧
                                                                ((IntKind.i64.wrap
                                                                        ((IntKind.i64.wrap
                                                                              ((IntKind.i64.wrap
                                                                                    ((IntKind.i64.wrap
                                                                                          ((IntKind.i64.wrap
                                                                                                ((IntKind.i64.wrap
                                                                                                      ((IntKind.i64.wrap
                                                                                                            ((IntKind.i64.wrap
                                                                                                                  (n.tdiv
                                                                                                                    (10 :
                                                                                                                      Int))).tdiv
                                                                                                              (10 :
                                                                                                                Int))).tdiv
                                                                                                        (10 : Int))).tdiv
                                                                                                  (10 : Int))).tdiv
                                                                                            (10 : Int))).tdiv
                                                                                      (10 : Int))).tdiv
                                                                                (10 : Int))).tdiv
                                                                          (10 : Int)) ==
                                                                      (0 : Int)) =
                                                                    false →
                                                                  (10 : Int) ≠ (0 : Int) ∧
                                                                    (10 : Int) ≠ (0 : Int) ∧
                                                                      ((IntKind.i64.wrap
                                                                                ((IntKind.i64.wrap
                                                                                      ((IntKind.i64.wrap
                                                                                            ((IntKind.i64.wrap
                                                                                                  ((IntKind.i64.wrap
                                                                                                        ((IntKind.i64.wrap
                                                                                                              ((IntKind.i64.wrap
                                                                                                                    ((IntKind.i64.wrap
                                                                                                                          ((IntKind.i64.wrap
                                                                                                                                (n.tdiv
                                                                                                                                  (10 :
                                                                                                                                    Int))).tdiv
                                                                                                                            (10 :
                                                                                                                              Int))).tdiv
                                                                                                                      (10 :
                                                                                                                        Int))).tdiv
                                                                                                                (10 :
                                                                                                                  Int))).tdiv
                                                                                                          (10 :
                                                                                                            Int))).tdiv
                                                                                                    (10 : Int))).tdiv
                                                                                              (10 : Int))).tdiv
                                                                                        (10 : Int))).tdiv
                                                                                  (10 : Int)) ==
                                                                              (0 : Int)) =
                                                                            true →
                                                                          True) ∧
                                                                        ((IntKind.i64.wrap
                                                                                ((IntKind.i64.wrap
                                                                                      ((IntKind.i64.wrap
                                                                                            ((IntKind.i64.wrap
                                                                                                  ((IntKind.i64.wrap
                                                                                                        ((IntKind.i64.wrap
                                                                                                              ((IntKind.i64.wrap
                                                                                                                    ((IntKind.i64.wrap
                                                                                                                          ((IntKind.i64.wrap
                                                                                                                                (n.tdiv
                                                                                                                                  (10 :
                                                                                                                                    Int))).tdiv
                                                                                                                            (10 :
                                                                                                                              Int))).tdiv
                                                                                                                      (10 :
                                                                                                                        Int))).tdiv
                                                                                                                (10 :
                                                                                                                  Int))).tdiv
                                                                                                          (10 :
                                                                                                            Int))).tdiv
                                                                                                    (10 : Int))).tdiv
                                                                                              (10 : Int))).tdiv
                                                                                        (10 : Int))).tdiv
                                                                                  (10 : Int)) ==
                                                                              (0 : Int)) =
                                                                            false →
                                                                          (10 : Int) ≠ (0 : Int) ∧
                                                                            (10 : Int) ≠ (0 : Int) ∧
                                                                              ((IntKind.i64.wrap
                                                                                        ((IntKind.i64.wrap
                                                                                              ((IntKind.i64.wrap
                                                                                                    ((IntKind.i64.wrap
                                                                                                          ((IntKind.i64.wrap
                                                                                                                ((IntKind.i64.wrap
                                                                                                                      ((IntKind.i64.wrap
                                                                                                                            ((IntKind.i64.wrap
                                                                                                                                  ((IntKind.i64.wrap
                                                                                                                                        ((IntKind.i64.wrap
                                                                                                                                              (n.tdiv
                                                                                                                                                (10 :
                                                                                                                                                  Int))).tdiv
                                                                                                                                          (10 :
                                                                                                                                            Int))).tdiv
                                                                                                                                    (10 :
                                                                                                                                      Int))).tdiv
                                                                                                                              (10 :
                                                                                                                                Int))).tdiv
                                                                                                                        (10 :
                                                                                                                          Int))).tdiv
                                                                                                                  (10 :
                                                                                                                    Int))).tdiv
                                                                                                            (10 :
                                                                                                              Int))).tdiv
                                                                                                      (10 : Int))).tdiv
                                                                                                (10 : Int))).tdiv
                                                                                          (10 : Int)) ==
                                                                                      (0 : Int)) =
                                                                                    true →
                                                                                  True) ∧
                                                                                ((IntKind.i64.wrap
                                                                                        ((IntKind.i64.wrap
                                                                                              ((IntKind.i64.wrap
                                                                                                    ((IntKind.i64.wrap
                                                                                                          ((IntKind.i64.wrap
                                                                                                                ((IntKind.i64.wrap
                                                                                                                      ((IntKind.i64.wrap
                                                                                                                            ((IntKind.i64.wrap
                                                                                                                                  ((IntKind.i64.wrap
                                                                                                                                        ((IntKind.i64.wrap
                                                                                                                                              (n.tdiv
                                                                                                                                                (10 :
                                                                                                                                                  Int))).tdiv
                                                                                                                                          (10 :
                                                                                                                                            Int))).tdiv
                                                                                                                                    (10 :
                                                                                                                                      Int))).tdiv
                                                                                                                              (10 :
                                                                                                                                Int))).tdiv
                                                                                                                        (10 :
                                                                                                                          Int))).tdiv
                                                                                                                  (10 :
                                                                                                                    Int))).tdiv
                                                                                                            (10 :
                                                                                                              Int))).tdiv
                                                                                                      (10 : Int))).tdiv
                                                                                                (10 : Int))).tdiv
                                                                                          (10 : Int)) ==
                                                                                      (0 : Int)) =
                                                                                    false →
                                                                                  (10 : Int) ≠ (0 : Int) ∧
                                                                                    (10 : Int) ≠ (0 : Int) ∧
                                                                                      ((IntKind.i64.wrap
                                                                                                ((IntKind.i64.wrap
                                                                                                      ((IntKind.i64.wrap
                                                                                                            ((IntKind.i64.wrap
                                                                                                                  ((IntKind.i64.wrap
                                                                                                                        ((IntKind.i64.wrap
                                                                                                                              ((IntKind.i64.wrap
                                                                                                                                    ((IntKind.i64.wrap
                                                                                                                                          ((IntKind.i64.wrap
                                                                                                                                                ((IntKind.i64.wrap
                                                                                                                                                      ((IntKind.i64.wrap
                                                                                                                                                            (n.tdiv
                                                                                                                                                              (10 :
                                                                                                                                                                Int))).tdiv
                                                                                                                                                        (10 :
                                                                                                                                                          Int))).tdiv
                                                                                                                                                  (10 :
                                                                                                                                                    Int))).tdiv
                                                                                                                                            (10 :
                                                                                                                                              Int))).tdiv
                                                                                                                                      (10 :
                                                                                                                                        Int))).tdiv
                                                                                                                                (10 :
                                                                                                                                  Int))).tdiv
                                                                                                                          (10 :
                                                                                                                            Int))).tdiv
                                                                                                                    (10 :
                                                                                                                      Int))).tdiv
                                                                                                              (10 :
                                                                                                                Int))).tdiv
                                                                                                        (10 : Int))).tdiv
                                                                                                  (10 : Int)) ==
                                                                                              (0 : Int)) =
                                                                                            true →
                                                                                          True) ∧
                                                                                        ((IntKind.i64.wrap
                                                                                                ((IntKind.i64.wrap
                                                                                                      ((IntKind.i64.wrap
                                                                                                            ((IntKind.i64.wrap
                                                                                                                  ((IntKind.i64.wrap
                                                                                                                        ((IntKind.i64.wrap
                                                                                                                              ((IntKind.i64.wrap
                                                                                                                                    ((IntKind.i64.wrap
                                                                                                                                          ((IntKind.i64.wrap
                                                                                                                                                ((IntKind.i64.wrap
                                                                                                                                                      ((IntKind.i64.wrap
                                                                                                                                                            (n.tdiv
                                                                                                                                                              (10 :
                                                                                                                                                                Int))).tdiv
                                                                                                                                                        (10 :
                                                                                                                                                          Int))).tdiv
                                                                                                                                                  (10 :
                                                                                                                                                    Int))).tdiv
                                                                                                                                            (10 :
                                                                                                                                              Int))).tdiv
                                                                                                                                      (10 :
                                                                                                                                        Int))).tdiv
                                                                                                                                (10 :
                                                                                                                                  Int))).tdiv
                                                                                                                          (10 :
                                                                                                                            Int))).tdiv
                                                                                                                    (10 :
                                                                                                                      Int))).tdiv
                                                                                                              (10 :
                                                                                                                Int))).tdiv
                                                                                                        (10 : Int))).tdiv
                                                                                                  (10 : Int)) ==
                                                                                              (0 : Int)) =
                                                                                            false →
                                                                                          False)))))))))))
theorem dig_okS (pre : DA.T aI → List Prop) (h : ∀ g, DA.bd aI g → (∀ p ∈ pre g, p) → dig_side g) : FnPure Try.prog 130 aI dStr (fun g => dig_F g) pre := pure_of_sideS (Γ := (PTab.gamz tabL [] [(130, 3, 11)])) (Λ := noΛ) (PTab.okz tabL [] [(130, 3, 11)]) noΛ_ok 100 default (fun g => dig_side g) (fun g => by kernel_rfl) (fun g => by kernel_rfl) h
noncomputable def tabXD1 : PTab Try.prog := tabL
end Go.Proofs.Ytiipneclghnfhaa

/- Loops over lists, and what they come to: plain laws for all chapters. -/
namespace Go.Lp
open Go.Sx
abbrev w64 (n : Int) : Int := IntKind.i64.wrap n
theorem wr {n : Int} (h : 0 ≤ n ∧ n ≤ 9223372036854775807) : w64 n = n := by
  unfold w64
  simp [IntKind.wrap, IntKind.bits, IntKind.signed]
  omega
/-- What asks of lists is given. -/
def inR (n i : Int) : Prop := 0 ≤ i ∧ i ≤ n ∧ n ≤ 9223372036854775807

section
variable {α σ : Type}
/-! ### where the first is of which something holds -/
abbrev FiG (α σ : Type) := List α × σ × Int × Int × Int
def fiF (d : α) (p : σ → α → Bool) (g : FiG α σ) : Ex × FiG α σ :=
  bif decide (g.2.2.2.1 < g.2.2.1) then
    bif p g.2.1 (g.1.getD g.2.2.2.1.toNat d) then (.ret, g.1, g.2.1, g.2.2.1, g.2.2.2.1, g.2.2.2.1) else (.normal, g.1, g.2.1, g.2.2.1, w64 (g.2.2.2.1 + 1), g.2.2.2.2)
  else (.exit 0, g)
def fiI (g : FiG α σ) : List Prop := [g.2.2.1 = (g.1.length : Int) ∧ g.1.length ≤ maxLen ∧ 0 ≤ g.2.2.2.1 ∧ g.2.2.2.1 ≤ (g.1.length : Int)]
def fiM (g : FiG α σ) : Nat := (g.2.2.1 - g.2.2.2.1).toNat
theorem fi_goes (d : α) (p : σ → α → Bool) : Goes (fiF d p) fiM fun g => allP (fiI g) := by
  rintro ⟨xs, s, n, i, r0⟩ hi hn
  obtain ⟨h1, h2, h3, h4⟩ := hi _ (List.mem_cons_self ..)
  simp only at h1 h2 h3 h4
  unfold maxLen at h2
  unfold fiF at hn ⊢
  simp only at hn ⊢
  by_cases hlt : i < n
  · simp only [hlt, decide_true, cond_true] at hn ⊢
    cases hp : p s (xs.getD i.toNat d) with
    | true => rw [hp] at hn; cases hn
    | false =>
      simp only [cond_false]
      rw [wr (by omega)]
      refine ⟨fun q hq => ?_, ?_⟩
      · simp only [fiI, List.mem_singleton] at hq
        subst hq
        exact ⟨h1, by unfold maxLen; omega, by show (0 : Int) ≤ i + 1; omega, by show i + 1 ≤ (xs.length : Int); omega⟩
      · simp only [fiM]; omega
  · simp only [hlt, decide_false, cond_false] at hn
    cases hn
/-- What it comes to. -/
theorem fi_run (d : α) (p : σ → α → Bool) : ∀ g : FiG α σ, allP (fiI g) →
    (((loopF (fiF d p) fiM g).1 = .ret ∧ 0 ≤ (loopF (fiF d p) fiM g).2.2.2.2.2 ∧ (loopF (fiF d p) fiM g).2.2.2.2.2 < (g.1.length : Int) ∧ (g.1.drop g.2.2.2.1.toNat).any (p g.2.1) = true) ∨
     ((loopF (fiF d p) fiM g).1 = .exit 0 ∧ (g.1.drop g.2.2.2.1.toNat).any (p g.2.1) = false)) := by
  refine loopF_induct (fi_goes d p) (Q := fun g r => ((r.1 = .ret ∧ 0 ≤ r.2.2.2.2.2 ∧ r.2.2.2.2.2 < (g.1.length : Int) ∧ (g.1.drop g.2.2.2.1.toNat).any (p g.2.1) = true) ∨ (r.1 = .exit 0 ∧ (g.1.drop g.2.2.2.1.toNat).any (p g.2.1) = false))) ?_ ?_
  · rintro ⟨xs, s, n, i, r0⟩ hi hn
    obtain ⟨h1, h2, h3, h4⟩ := hi _ (List.mem_cons_self ..)
    simp only at h1 h2 h3 h4
    unfold fiF at hn ⊢
    simp only at hn ⊢
    by_cases hlt : i < n
    · simp only [hlt, decide_true, cond_true] at hn ⊢
      have hlt' : i.toNat < xs.length := by omega
      have hd : xs.drop i.toNat = xs.getD i.toNat d :: xs.drop (i.toNat + 1) := by
        rw [List.drop_eq_getElem_cons hlt']
        simp [List.getD_eq_getElem?_getD, hlt']
      cases hp : p s (xs.getD i.toNat d) with
      | true =>
        left
        simp only [cond_true]
        refine ⟨trivial, h3, by omega, ?_⟩
        rw [hd, List.any_cons, hp]; rfl
      | false => rw [hp] at hn; exact absurd rfl hn
    · right
      simp only [hlt, decide_false, cond_false]
      refine ⟨trivial, ?_⟩
      rw [List.drop_eq_nil_of_le (by omega)]; rfl
  · rintro ⟨xs, s, n, i, r0⟩ g' r hi he hi' _ hq
    obtain ⟨h1, h2, h3, h4⟩ := hi _ (List.mem_cons_self ..)
    simp only at h1 h2 h3 h4
    unfold maxLen at h2
    unfold fiF at he
    simp only at he
    by_cases hlt : i < n
    · simp only [hlt, decide_true, cond_true] at he
      have hlt' : i.toNat < xs.length := by omega
      have hd : xs.drop i.toNat = xs.getD i.toNat d :: xs.drop (i.toNat + 1) := by
        rw [List.drop_eq_getElem_cons hlt']
        simp [List.getD_eq_getElem?_getD, hlt']
      cases hp : p s (xs.getD i.toNat d) with
      | true => rw [hp] at he; cases he
      | false =>
        rw [hp] at he
        simp only [cond_false, Prod.mk.injEq, true_and] at he
        subst he
        simp only at hq ⊢
        rw [wr (by omega)] at hq
        rw [hd, List.any_cons, hp, Bool.false_or]
        have : (i + 1).toNat = i.toNat + 1 := by omega
        rw [this] at hq
        exact hq
    · simp only [hlt, decide_false, cond_false] at he
      cases he
theorem fi_any (d : α) (p : σ → α → Bool) (xs : List α) (s : σ) (r0 : Int) (h : xs.length ≤ maxLen) :
    ((exB .ret (loopF (fiF d p) fiM (xs, s, (xs.length : Int), 0, r0)).1) = xs.any (p s)) ∧ ((loopF (fiF d p) fiM (xs, s, (xs.length : Int), 0, r0)).1 = .ret → 0 ≤ (loopF (fiF d p) fiM (xs, s, (xs.length : Int), 0, r0)).2.2.2.2.2) := by
  have h0 : allP (fiI ((xs, s, (xs.length : Int), (0 : Int), r0) : FiG α σ)) := fun q hq => by
    simp only [fiI, List.mem_singleton] at hq
    subst hq
    exact ⟨trivial, h, Int.le_refl _, by show (0 : Int) ≤ (xs.length : Int); omega⟩
  rcases fi_run d p (xs, s, (xs.length : Int), 0, r0) h0 with ⟨h1, h2, _, h3⟩ | ⟨h1, h3⟩
  · refine ⟨?_, fun _ => h2⟩
    rw [h1]
    have h4 : (xs.drop 0).any (p s) = true := h3
    rw [List.drop_zero] at h4
    exact h4.symm
  · refine ⟨?_, fun h => ?_⟩
    · rw [h1]
      have : (xs.drop 0).any (p s) = false := h3
      simp only [List.drop_zero] at this
      rw [this]; rfl
    · rw [h1] at h; cases h

/-! ### are two lists the same -/
abbrev SaG (α : Type) := List α × List α × Int × Bool
def saF (d : α) (eq : α → α → Bool) (g : SaG α) : Ex × SaG α :=
  bif decide (g.2.2.1 < (g.1.length : Int)) then
    bif !eq (g.1.getD g.2.2.1.toNat d) (g.2.1.getD g.2.2.1.toNat d) then (.ret, g.1, g.2.1, g.2.2.1, false) else (.normal, g.1, g.2.1, w64 (g.2.2.1 + 1), g.2.2.2)
  else (.exit 0, g)
def saI (g : SaG α) : List Prop := [g.1.length = g.2.1.length ∧ g.1.length ≤ maxLen ∧ 0 ≤ g.2.2.1 ∧ g.2.2.1 ≤ (g.1.length : Int)]
def saM (g : SaG α) : Nat := ((g.1.length : Int) - g.2.2.1).toNat
theorem sa_goes (d : α) (eq : α → α → Bool) : Goes (saF d eq) saM fun g => allP (saI g) := by
  rintro ⟨xs, ys, i, r0⟩ hi hn
  obtain ⟨h1, h2, h3, h4⟩ := hi _ (List.mem_cons_self ..)
  simp only at h1 h2 h3 h4
  unfold maxLen at h2
  unfold saF at hn ⊢
  simp only at hn ⊢
  by_cases hlt : i < (xs.length : Int)
  · simp only [hlt, decide_true, cond_true] at hn ⊢
    cases hp : !eq (xs.getD i.toNat d) (ys.getD i.toNat d) with
    | true => rw [hp] at hn; cases hn
    | false =>
      simp only [cond_false]
      rw [wr (by omega)]
      refine ⟨fun q hq => ?_, ?_⟩
      · simp only [saI, List.mem_singleton] at hq
        subst hq
        exact ⟨h1, by unfold maxLen; omega, by show (0 : Int) ≤ i + 1; omega, by show i + 1 ≤ (xs.length : Int); omega⟩
      · simp only [saM]; omega
  · simp only [hlt, decide_false, cond_false] at hn
    cases hn
theorem sa_run (d : α) (eq : α → α → Bool) (heq : ∀ a b, eq a b = true ↔ a = b) : ∀ g : SaG α, allP (saI g) →
    (((loopF (saF d eq) saM g).1 = .ret ∧ (loopF (saF d eq) saM g).2.2.2.2 = false ∧ g.1.drop g.2.2.1.toNat ≠ g.2.1.drop g.2.2.1.toNat) ∨ ((loopF (saF d eq) saM g).1 = .exit 0 ∧ g.1.drop g.2.2.1.toNat = g.2.1.drop g.2.2.1.toNat)) := by
  refine loopF_induct (sa_goes d eq) (Q := fun g r => ((r.1 = .ret ∧ r.2.2.2.2 = false ∧ g.1.drop g.2.2.1.toNat ≠ g.2.1.drop g.2.2.1.toNat) ∨ (r.1 = .exit 0 ∧ g.1.drop g.2.2.1.toNat = g.2.1.drop g.2.2.1.toNat))) ?_ ?_
  · rintro ⟨xs, ys, i, r0⟩ hi hn
    obtain ⟨h1, h2, h3, h4⟩ := hi _ (List.mem_cons_self ..)
    simp only at h1 h2 h3 h4
    unfold saF at hn ⊢
    simp only at hn ⊢
    by_cases hlt : i < (xs.length : Int)
    · simp only [hlt, decide_true, cond_true] at hn ⊢
      have l1 : i.toNat < xs.length := by omega
      have l2 : i.toNat < ys.length := by omega
      cases hp : !eq (xs.getD i.toNat d) (ys.getD i.toNat d) with
      | true =>
        left
        simp only [cond_true]
        refine ⟨trivial, trivial, fun hc => ?_⟩
        rw [List.drop_eq_getElem_cons l1, List.drop_eq_getElem_cons l2] at hc
        injection hc with hc _
        have : eq (xs.getD i.toNat d) (ys.getD i.toNat d) = true := (heq _ _).2 (by simp [List.getD_eq_getElem?_getD, l1, l2, hc])
        rw [this] at hp; cases hp
      | false => rw [hp] at hn; exact absurd rfl hn
    · right
      simp only [hlt, decide_false, cond_false]
      refine ⟨trivial, ?_⟩
      rw [List.drop_eq_nil_of_le (by omega), List.drop_eq_nil_of_le (by omega)]
  · rintro ⟨xs, ys, i, r0⟩ g' r hi he hi' _ hq
    obtain ⟨h1, h2, h3, h4⟩ := hi _ (List.mem_cons_self ..)
    simp only at h1 h2 h3 h4
    unfold maxLen at h2
    unfold saF at he
    simp only at he
    by_cases hlt : i < (xs.length : Int)
    · simp only [hlt, decide_true, cond_true] at he
      have l1 : i.toNat < xs.length := by omega
      have l2 : i.toNat < ys.length := by omega
      cases hp : !eq (xs.getD i.toNat d) (ys.getD i.toNat d) with
      | true => rw [hp] at he; cases he
      | false =>
        rw [hp] at he
        simp only [cond_false, Prod.mk.injEq, true_and] at he
        subst he
        simp only at hq ⊢
        rw [wr (by omega)] at hq
        have e1 : (i + 1).toNat = i.toNat + 1 := by omega
        rw [e1] at hq
        have e2 : xs[i.toNat] = ys[i.toNat] := by
          have h5 : eq (xs.getD i.toNat d) (ys.getD i.toNat d) = true := by simpa using hp
          have h6 := (heq _ _).1 h5
          simpa [List.getD_eq_getElem?_getD, l1, l2] using h6
        rw [List.drop_eq_getElem_cons l1, List.drop_eq_getElem_cons l2, e2]
        simp only [List.cons.injEq, true_and, ne_eq]
        exact hq
    · simp only [hlt, decide_false, cond_false] at he
      cases he
theorem sa_eq [DecidableEq α] (d : α) (eq : α → α → Bool) (heq : ∀ a b, eq a b = true ↔ a = b) (xs ys : List α) (r0 : Bool) (h : xs.length ≤ maxLen) (hl : xs.length = ys.length) :
    (bif exB .ret (loopF (saF d eq) saM (xs, ys, 0, r0)).1 then (loopF (saF d eq) saM (xs, ys, 0, r0)).2.2.2.2 else true) = decide (xs = ys) := by
  have h0 : allP (saI ((xs, ys, (0 : Int), r0) : SaG α)) := fun q hq => by
    simp only [saI, List.mem_singleton] at hq
    subst hq
    exact ⟨hl, h, Int.le_refl _, by show (0 : Int) ≤ (xs.length : Int); omega⟩
  rcases sa_run d eq heq (xs, ys, 0, r0) h0 with ⟨h1, h3, h2⟩ | ⟨h1, h2⟩
  · rw [h1, h3]
    have : xs ≠ ys := by simpa using h2
    simp [this, exB]
  · rw [h1]
    have : xs = ys := by simpa using h2
    simp [this, exB]
end
end Go.Lp

/- Chapter 3: numbers as texts: the contract. -/
namespace Go.Proofs.Ytiipneclghnfhaa
open Go.RowKit Go.Sx Go.Lp
def NX : Int := 2147483648
theorem td10 {n d : Int} (h : IntKind.i64.wrap (n.tdiv 10) = d) (h0 : 0 ≤ n ∧ n < NX) : d = n / 10 ∧ 0 ≤ d ∧ d < NX := by
  unfold NX at *
  have h1 : n.tdiv 10 = n / 10 := Int.tdiv_eq_ediv_of_nonneg h0.1
  rw [h1, wr (by omega)] at h
  omega
set_option maxHeartbeats 4000000 in
theorem dig_si (n : Int) (h0 : 0 ≤ n ∧ n < NX) : dig_side n := by
  unfold dig_side
  generalize h1 : IntKind.i64.wrap (n.tdiv 10) = d1
  generalize h2 : IntKind.i64.wrap (d1.tdiv 10) = d2
  generalize h3 : IntKind.i64.wrap (d2.tdiv 10) = d3
  generalize h4 : IntKind.i64.wrap (d3.tdiv 10) = d4
  generalize h5 : IntKind.i64.wrap (d4.tdiv 10) = d5
  generalize h6 : IntKind.i64.wrap (d5.tdiv 10) = d6
  generalize h7 : IntKind.i64.wrap (d6.tdiv 10) = d7
  generalize h8 : IntKind.i64.wrap (d7.tdiv 10) = d8
  generalize h9 : IntKind.i64.wrap (d8.tdiv 10) = d9
  generalize h10 : IntKind.i64.wrap (d9.tdiv 10) = d10
  generalize h11 : IntKind.i64.wrap (d10.tdiv 10) = d11
  obtain ⟨e1, b1⟩ := td10 h1 h0
  obtain ⟨e2, b2⟩ := td10 h2 b1
  obtain ⟨e3, b3⟩ := td10 h3 b2
  obtain ⟨e4, b4⟩ := td10 h4 b3
  obtain ⟨e5, b5⟩ := td10 h5 b4
  obtain ⟨e6, b6⟩ := td10 h6 b5
  obtain ⟨e7, b7⟩ := td10 h7 b6
  obtain ⟨e8, b8⟩ := td10 h8 b7
  obtain ⟨e9, b9⟩ := td10 h9 b8
  obtain ⟨e10, b10⟩ := td10 h10 b9
  obtain ⟨e11, b11⟩ := td10 h11 b10
  have hz : d11 = 0 := by unfold NX at *; omega
  have ht : (10 : Int) ≠ 0 := by decide
  subst hz
  clear h1 h2 h3 h4 h5 h6 h7 h8 h9 h10 h11 e1 e2 e3 e4 e5 e6 e7 e8 e9 e10 e11 b1 b2 b3 b4 b5 b6 b7 b8 b9 b10 b11 h0
  repeat' (first | exact ht | exact True.intro | apply And.intro | intro _)
  all_goals (first | trivial | (rename_i h; cases h))
theorem dig_ok : FnPure Try.prog 130 aI dStr dig_F (fun n => [0 ≤ n ∧ n < NX]) :=
  dig_okS _ fun g _ hp => dig_si g (hp _ (List.mem_cons_self ..))
noncomputable def tabD3 : PTab Try.prog := tabL.cons 130 (pconP aI dStr dig_F (fun n => [0 ≤ n ∧ n < NX])) (conP_ok dig_ok puStr)
end Go.Proofs.Ytiipneclghnfhaa

/- Chapter 3: times as texts. Printed by treegen.py. -/
namespace Go.Proofs.Ytiipneclghnfhaa
open Go.RowKit Go.Sx
set_option maxRecDepth 100000
set_option linter.unusedVariables false
noncomputable def ttx_F (t : T) : Dv.T dStr :=
  bif tcheck_F t != (0 : Int) then ByteArray.mk #[]
  else
    bif
        !tcheck_F t != (0 : Int) &&
          (!decide (t.d = (4 : Int)) &&
            (!decide (t.d = (3 : Int)) &&
              (!decide (t.d = (2 : Int)) && (!decide (t.d = (1 : Int)) && !decide (t.d = (0 : Int)))))) then
      default
    else
      bif tcheck_F t != (0 : Int) then dig_F t.e
      else
        bif decide (t.d = (4 : Int)) then
          dig_F t.e ++ (ByteArray.mk #[(46 : UInt8)] ++ dig_F t.l0) ++ (ByteArray.mk #[(46 : UInt8)] ++ dig_F t.l1) ++
              (ByteArray.mk #[(46 : UInt8)] ++ dig_F t.l2) ++
            (ByteArray.mk #[(46 : UInt8)] ++ dig_F t.l3)
        else
          bif decide (t.d = (3 : Int)) then
            dig_F t.e ++ (ByteArray.mk #[(46 : UInt8)] ++ dig_F t.l0) ++ (ByteArray.mk #[(46 : UInt8)] ++ dig_F t.l1) ++
              (ByteArray.mk #[(46 : UInt8)] ++ dig_F t.l2)
          else
            bif decide (t.d = (2 : Int)) then
              dig_F t.e ++ (ByteArray.mk #[(46 : UInt8)] ++ dig_F t.l0) ++ (ByteArray.mk #[(46 : UInt8)] ++ dig_F t.l1)
            else
              bif decide (t.d = (1 : Int)) then dig_F t.e ++ (ByteArray.mk #[(46 : UInt8)] ++ dig_F t.l0) else dig_F t.e
def ttx_side (t : T) : Prop :=
  (tcheck_F t != (0 : Int)) = false →
    ((0 : Int) ≤ t.e ∧ t.e < NX) ∧
      ((!tcheck_F t != (0 : Int)) = true → decide (t.d = (4 : Int)) = true → (0 : Int) ≤ t.l0 ∧ t.l0 < NX) ∧
        ((!tcheck_F t != (0 : Int)) = true →
            decide (t.d = (4 : Int)) = true → (1 : Nat) + ByteArray.size (dig_F t.l0) ≤ (9223372036854775807 : Nat)) ∧
          ((!tcheck_F t != (0 : Int)) = true →
              decide (t.d = (4 : Int)) = true →
                ByteArray.size (dig_F t.e) + (ByteArray.mk #[(46 : UInt8)] ++ dig_F t.l0).size ≤
                  (9223372036854775807 : Nat)) ∧
            ((!tcheck_F t != (0 : Int)) = true → decide (t.d = (4 : Int)) = true → (0 : Int) ≤ t.l1 ∧ t.l1 < NX) ∧
              ((!tcheck_F t != (0 : Int)) = true →
                  decide (t.d = (4 : Int)) = true →
                    (1 : Nat) + ByteArray.size (dig_F t.l1) ≤ (9223372036854775807 : Nat)) ∧
                ((!tcheck_F t != (0 : Int)) = true →
                    decide (t.d = (4 : Int)) = true →
                      (dig_F t.e ++ (ByteArray.mk #[(46 : UInt8)] ++ dig_F t.l0)).size +
                          (ByteArray.mk #[(46 : UInt8)] ++ dig_F t.l1).size ≤
                        (9223372036854775807 : Nat)) ∧
                  ((!tcheck_F t != (0 : Int)) = true → decide (t.d = (4 : Int)) = true → (0 : Int) ≤ t.l2 ∧ t.l2 < NX) ∧
                    ((!tcheck_F t != (0 : Int)) = true →
                        decide (t.d = (4 : Int)) = true →
                          (1 : Nat) + ByteArray.size (dig_F t.l2) ≤ (9223372036854775807 : Nat)) ∧
                      ((!tcheck_F t != (0 : Int)) = true →
                          decide (t.d = (4 : Int)) = true →
                            (dig_F t.e ++ (ByteArray.mk #[(46 : UInt8)] ++ dig_F t.l0) ++
                                    (ByteArray.mk #[(46 : UInt8)] ++ dig_F t.l1)).size +
                                (ByteArray.mk #[(46 : UInt8)] ++ dig_F t.l2).size ≤
                              (9223372036854775807 : Nat)) ∧
                        ((!tcheck_F t != (0 : Int)) = true →
                            decide (t.d = (4 : Int)) = true → (0 : Int) ≤ t.l3 ∧ t.l3 < NX) ∧
                          ((!tcheck_F t != (0 : Int)) = true →
                              decide (t.d = (4 : Int)) = true →
                                (1 : Nat) + ByteArray.size (dig_F t.l3) ≤ (9223372036854775807 : Nat)) ∧
                            ((!tcheck_F t != (0 : Int)) = true →
                                decide (t.d = (4 : Int)) = true →
                                  (dig_F t.e ++ (ByteArray.mk #[(46 : UInt8)] ++ dig_F t.l0) ++
                                            (ByteArray.mk #[(46 : UInt8)] ++ dig_F t.l1) ++
                                          (ByteArray.mk #[(46 : UInt8)] ++ dig_F t.l2)).size +
                                      (ByteArray.mk #[(46 : UInt8)] ++ dig_F t.l3).size ≤
                                    (9223372036854775807 : Nat)) ∧
                              ((!tcheck_F t != (0 : Int)) = true →
                                  (!decide (t.d = (4 : Int))) = true →
                                    decide (t.d = (3 : Int)) = true → (0 : Int) ≤ t.l0 ∧ t.l0 < NX) ∧
                                ((!tcheck_F t != (0 : Int)) = true →
                                    (!decide (t.d = (4 : Int))) = true →
                                      decide (t.d = (3 : Int)) = true →
                                        (1 : Nat) + ByteArray.size (dig_F t.l0) ≤ (9223372036854775807 : Nat)) ∧
                                  ((!tcheck_F t != (0 : Int)) = true →
                                      (!decide (t.d = (4 : Int))) = true →
                                        decide (t.d = (3 : Int)) = true →
                                          ByteArray.size (dig_F t.e) + (ByteArray.mk #[(46 : UInt8)] ++ dig_F t.l0).size ≤
                                            (9223372036854775807 : Nat)) ∧
                                    ((!tcheck_F t != (0 : Int)) = true →
                                        (!decide (t.d = (4 : Int))) = true →
                                          decide (t.d = (3 : Int)) = true → (0 : Int) ≤ t.l1 ∧ t.l1 < NX) ∧
                                      ((!tcheck_F t != (0 : Int)) = true →
                                          (!decide (t.d = (4 : Int))) = true →
                                            decide (t.d = (3 : Int)) = true →
                                              (1 : Nat) + ByteArray.size (dig_F t.l1) ≤ (9223372036854775807 : Nat)) ∧
                                        ((!tcheck_F t != (0 : Int)) = true →
                                            (!decide (t.d = (4 : Int))) = true →
                                              decide (t.d = (3 : Int)) = true →
                                                (dig_F t.e ++ (ByteArray.mk #[(46 : UInt8)] ++ dig_F t.l0)).size +
                                                    (ByteArray.mk #[(46 : UInt8)] ++ dig_F t.l1).size ≤
                                                  (9223372036854775807 : Nat)) ∧
                                          ((!tcheck_F t != (0 : Int)) = true →
                                              (!decide (t.d = (4 : Int))) = true →
                                                decide (t.d = (3 : Int)) = true → (0 : Int) ≤ t.l2 ∧ t.l2 < NX) ∧
                                            ((!tcheck_F t != (0 : Int)) = true →
                                                (!decide (t.d = (4 : Int))) = true →
                                                  decide (t.d = (3 : Int)) = true →
                                                    (1 : Nat) + ByteArray.size (dig_F t.l2) ≤
                                                      (9223372036854775807 : Nat)) ∧
                                              ((!tcheck_F t != (0 : Int)) = true →
                                                  (!decide (t.d = (4 : Int))) = true →
                                                    decide (t.d = (3 : Int)) = true →
                                                      (dig_F t.e ++ (ByteArray.mk #[(46 : UInt8)] ++ dig_F t.l0) ++
                                                              (ByteArray.mk #[(46 : UInt8)] ++ dig_F t.l1)).size +
                                                          (ByteArray.mk #[(46 : UInt8)] ++ dig_F t.l2).size ≤
                                                        (9223372036854775807 : Nat)) ∧
                                                ((!tcheck_F t != (0 : Int)) = true →
                                                    (!decide (t.d = (4 : Int))) = true →
                                                      (!decide (t.d = (3 : Int))) = true →
                                                        decide (t.d = (2 : Int)) = true → (0 : Int) ≤ t.l0 ∧ t.l0 < NX) ∧
                                                  ((!tcheck_F t != (0 : Int)) = true →
                                                      (!decide (t.d = (4 : Int))) = true →
                                                        (!decide (t.d = (3 : Int))) = true →
                                                          decide (t.d = (2 : Int)) = true →
                                                            (1 : Nat) + ByteArray.size (dig_F t.l0) ≤
                                                              (9223372036854775807 : Nat)) ∧
                                                    ((!tcheck_F t != (0 : Int)) = true →
                                                        (!decide (t.d = (4 : Int))) = true →
                                                          (!decide (t.d = (3 : Int))) = true →
                                                            decide (t.d = (2 : Int)) = true →
                                                              ByteArray.size (dig_F t.e) +
                                                                  (ByteArray.mk #[(46 : UInt8)] ++ dig_F t.l0).size ≤
                                                                (9223372036854775807 : Nat)) ∧
                                                      ((!tcheck_F t != (0 : Int)) = true →
                                                          (!decide (t.d = (4 : Int))) = true →
                                                            (!decide (t.d = (3 : Int))) = true →
                                                              decide (t.d = (2 : Int)) = true →
                                                                (0 : Int) ≤ t.l1 ∧ t.l1 < NX) ∧
                                                        ((!tcheck_F t != (0 : Int)) = true →
                                                            (!decide (t.d = (4 : Int))) = true →
                                                              (!decide (t.d = (3 : Int))) = true →
                                                                decide (t.d = (2 : Int)) = true →
                                                                  (1 : Nat) + ByteArray.size (dig_F t.l1) ≤
                                                                    (9223372036854775807 : Nat)) ∧
                                                          ((!tcheck_F t != (0 : Int)) = true →
                                                              (!decide (t.d = (4 : Int))) = true →
                                                                (!decide (t.d = (3 : Int))) = true →
                                                                  decide (t.d = (2 : Int)) = true →
                                                                    (dig_F t.e ++
                                                                            (ByteArray.mk #[(46 : UInt8)] ++
                                                                              dig_F t.l0)).size +
                                                                        (ByteArray.mk #[(46 : UInt8)] ++
                                                                            dig_F t.l1).size ≤
                                                                      (9223372036854775807 : Nat)) ∧
                                                            ((!tcheck_F t != (0 : Int)) = true →
                                                                (!decide (t.d = (4 : Int))) = true →
                                                                  (!decide (t.d = (3 : Int))) = true →
                                                                    (!decide (t.d = (2 : Int))) = true →
                                                                      decide (t.d = (1 : Int)) = true →
                                                                        (0 : Int) ≤ t.l0 ∧ t.l0 < NX) ∧
                                                              ((!tcheck_F t != (0 : Int)) = true →
                                                                  (!decide (t.d = (4 : Int))) = true →
                                                                    (!decide (t.d = (3 : Int))) = true →
                                                                      (!decide (t.d = (2 : Int))) = true →
                                                                        decide (t.d = (1 : Int)) = true →
                                                                          (1 : Nat) + ByteArray.size (dig_F t.l0) ≤
                                                                            (9223372036854775807 : Nat)) ∧
                                                                ((!tcheck_F t != (0 : Int)) = true →
                                                                    (!decide (t.d = (4 : Int))) = true →
                                                                      (!decide (t.d = (3 : Int))) = true →
                                                                        (!decide (t.d = (2 : Int))) = true →
                                                                          decide (t.d = (1 : Int)) = true →
                                                                            ByteArray.size (dig_F t.e) +
                                                                                (ByteArray.mk #[(46 : UInt8)] ++
                                                                                    dig_F t.l0).size ≤
                                                                              (9223372036854775807 : Nat)) ∧
                                                                  ((!tcheck_F t != (0 : Int) &&
                                                                        (!decide (t.d = (4 : Int)) &&
                                                                          (!decide (t.d = (3 : Int)) &&
                                                                            (!decide (t.d = (2 : Int)) &&
                                                                              (!decide (t.d = (1 : Int)) &&
                                                                                !decide (t.d = (0 : Int))))))) =
                                                                      true →
                                                                    False)
theorem ttx_okS (pre : DA.T aT → List Prop) (h : ∀ g, DA.bd aT g → (∀ p ∈ pre g, p) → ttx_side g) : FnPure Try.prog 105 aT dStr (fun g => ttx_F g) pre := pure_of_sideS (Γ := (PTab.gamz tabD3 [] [(156, 2, 6)])) (Λ := noΛ) (PTab.okz tabD3 [] [(156, 2, 6)]) noΛ_ok 100 default (fun g => ttx_side g) (fun g => by kernel_rfl) (fun g => by kernel_rfl) h
noncomputable def tabXD4 : PTab Try.prog := tabD3
end Go.Proofs.Ytiipneclghnfhaa
