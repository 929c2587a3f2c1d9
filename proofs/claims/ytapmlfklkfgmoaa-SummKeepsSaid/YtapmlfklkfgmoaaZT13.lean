/- Chapter 2: the law SummKeeps. Printed by treegen.py. -/
import Derived.Test.YtapmlfklkfgmoaaZA13
set_option linter.unusedVariables false
namespace Go.Proofs.Ytapmlfklkfgmoaa
open Go.RowKit Go.Sx
set_option maxRecDepth 100000
set_option linter.unusedVariables false
abbrev aLaw7 : DA (S × S × T × T × Int) := .cons dS (.cons dS (.cons dT (.cons dT (.one (dInt .u8)))))
def keeps_F (s : S) (u : S) (t : T) (v : T) (at_ : Int) : Dv.T dBool :=
  bif
      !true ||
        (applyF s t).snd == (0 : Int) &&
          ((applyF s v).snd == (0 : Int) && (rtleq_F t v && !rtleq_F (applyF s t).fst (applyF s v).fst)) then
    false
  else
    bif
        (applyF s t).snd == (0 : Int) &&
          ((applyF u t).snd == (0 : Int) && (leqC s u && !rtleq_F (applyF s t).fst (applyF u t).fst)) then
      false
    else
      bif check_F s != (0 : Int) || (check_F u != (0 : Int) || (s.f != u.f || (ends_F s != ends_F u || leqC s u))) then
        true
      else
        bif
            decide ((-1 : Int) < s.f) &&
              ((applyF s
                      { e := iAnd IntKind.i64 t.e (1 : Int), d := s.f, l0 := (0 : Int), l1 := (0 : Int), l2 := (0 : Int),
                        l3 := (0 : Int) }).snd ==
                  (0 : Int) &&
                ((applyF u
                        { e := iAnd IntKind.i64 t.e (1 : Int), d := s.f, l0 := (0 : Int), l1 := (0 : Int),
                          l2 := (0 : Int), l3 := (0 : Int) }).snd ==
                    (0 : Int) &&
                  !rtleq_F
                      (applyF s
                          { e := iAnd IntKind.i64 t.e (1 : Int), d := s.f, l0 := (0 : Int), l1 := (0 : Int),
                            l2 := (0 : Int), l3 := (0 : Int) }).fst
                      (applyF u
                          { e := iAnd IntKind.i64 t.e (1 : Int), d := s.f, l0 := (0 : Int), l1 := (0 : Int),
                            l2 := (0 : Int), l3 := (0 : Int) }).fst)) then
          true
        else
          bif
              decide ((-1 : Int) < s.f) &&
                (decide ((0 : Int) < s.f) &&
                  ((applyF s
                          { e := iAnd IntKind.i64 t.e (1 : Int), d := s.f,
                            l0 :=
                              bif (0 : Int) == IntKind.i64.wrap (s.k - (1 : Int)) then
                                IntKind.i64.wrap ((1048576 : Int) - s.a)
                              else (1048576 : Int),
                            l1 := (0 : Int), l2 := (0 : Int), l3 := (0 : Int) }).snd ==
                      (0 : Int) &&
                    ((applyF u
                            { e := iAnd IntKind.i64 t.e (1 : Int), d := s.f,
                              l0 :=
                                bif (0 : Int) == IntKind.i64.wrap (s.k - (1 : Int)) then
                                  IntKind.i64.wrap ((1048576 : Int) - s.a)
                                else (1048576 : Int),
                              l1 := (0 : Int), l2 := (0 : Int), l3 := (0 : Int) }).snd ==
                        (0 : Int) &&
                      !rtleq_F
                          (applyF s
                              { e := iAnd IntKind.i64 t.e (1 : Int), d := s.f,
                                l0 :=
                                  bif (0 : Int) == IntKind.i64.wrap (s.k - (1 : Int)) then
                                    IntKind.i64.wrap ((1048576 : Int) - s.a)
                                  else (1048576 : Int),
                                l1 := (0 : Int), l2 := (0 : Int), l3 := (0 : Int) }).fst
                          (applyF u
                              { e := iAnd IntKind.i64 t.e (1 : Int), d := s.f,
                                l0 :=
                                  bif (0 : Int) == IntKind.i64.wrap (s.k - (1 : Int)) then
                                    IntKind.i64.wrap ((1048576 : Int) - s.a)
                                  else (1048576 : Int),
                                l1 := (0 : Int), l2 := (0 : Int), l3 := (0 : Int) }).fst))) then
            true
          else
            bif
                decide ((-1 : Int) < s.f) &&
                  (decide ((0 : Int) < s.f) &&
                    (decide ((1 : Int) < s.f) &&
                      ((applyF s
                              { e := iAnd IntKind.i64 t.e (1 : Int), d := s.f, l0 := (0 : Int),
                                l1 :=
                                  bif (1 : Int) == IntKind.i64.wrap (s.k - (1 : Int)) then
                                    IntKind.i64.wrap ((1048576 : Int) - s.a)
                                  else (1048576 : Int),
                                l2 := (0 : Int), l3 := (0 : Int) }).snd ==
                          (0 : Int) &&
                        ((applyF u
                                { e := iAnd IntKind.i64 t.e (1 : Int), d := s.f, l0 := (0 : Int),
                                  l1 :=
                                    bif (1 : Int) == IntKind.i64.wrap (s.k - (1 : Int)) then
                                      IntKind.i64.wrap ((1048576 : Int) - s.a)
                                    else (1048576 : Int),
                                  l2 := (0 : Int), l3 := (0 : Int) }).snd ==
                            (0 : Int) &&
                          !rtleq_F
                              (applyF s
                                  { e := iAnd IntKind.i64 t.e (1 : Int), d := s.f, l0 := (0 : Int),
                                    l1 :=
                                      bif (1 : Int) == IntKind.i64.wrap (s.k - (1 : Int)) then
                                        IntKind.i64.wrap ((1048576 : Int) - s.a)
                                      else (1048576 : Int),
                                    l2 := (0 : Int), l3 := (0 : Int) }).fst
                              (applyF u
                                  { e := iAnd IntKind.i64 t.e (1 : Int), d := s.f, l0 := (0 : Int),
                                    l1 :=
                                      bif (1 : Int) == IntKind.i64.wrap (s.k - (1 : Int)) then
                                        IntKind.i64.wrap ((1048576 : Int) - s.a)
                                      else (1048576 : Int),
                                    l2 := (0 : Int), l3 := (0 : Int) }).fst)))) then
              true
            else
              bif
                  decide ((-1 : Int) < s.f) &&
                    (decide ((0 : Int) < s.f) &&
                      (decide ((1 : Int) < s.f) &&
                        (decide ((2 : Int) < s.f) &&
                          ((applyF s
                                  { e := iAnd IntKind.i64 t.e (1 : Int), d := s.f, l0 := (0 : Int), l1 := (0 : Int),
                                    l2 :=
                                      bif (2 : Int) == IntKind.i64.wrap (s.k - (1 : Int)) then
                                        IntKind.i64.wrap ((1048576 : Int) - s.a)
                                      else (1048576 : Int),
                                    l3 := (0 : Int) }).snd ==
                              (0 : Int) &&
                            ((applyF u
                                    { e := iAnd IntKind.i64 t.e (1 : Int), d := s.f, l0 := (0 : Int), l1 := (0 : Int),
                                      l2 :=
                                        bif (2 : Int) == IntKind.i64.wrap (s.k - (1 : Int)) then
                                          IntKind.i64.wrap ((1048576 : Int) - s.a)
                                        else (1048576 : Int),
                                      l3 := (0 : Int) }).snd ==
                                (0 : Int) &&
                              !rtleq_F
                                  (applyF s
                                      { e := iAnd IntKind.i64 t.e (1 : Int), d := s.f, l0 := (0 : Int), l1 := (0 : Int),
                                        l2 :=
                                          bif (2 : Int) == IntKind.i64.wrap (s.k - (1 : Int)) then
                                            IntKind.i64.wrap ((1048576 : Int) - s.a)
                                          else (1048576 : Int),
                                        l3 := (0 : Int) }).fst
                                  (applyF u
                                      { e := iAnd IntKind.i64 t.e (1 : Int), d := s.f, l0 := (0 : Int), l1 := (0 : Int),
                                        l2 :=
                                          bif (2 : Int) == IntKind.i64.wrap (s.k - (1 : Int)) then
                                            IntKind.i64.wrap ((1048576 : Int) - s.a)
                                          else (1048576 : Int),
                                        l3 := (0 : Int) }).fst))))) then
                true
              else
                bif
                    decide ((-1 : Int) < s.f) &&
                      (decide ((0 : Int) < s.f) &&
                        (decide ((1 : Int) < s.f) &&
                          (decide ((2 : Int) < s.f) &&
                            (decide ((3 : Int) < s.f) &&
                              ((applyF s
                                      { e := iAnd IntKind.i64 t.e (1 : Int), d := s.f, l0 := (0 : Int), l1 := (0 : Int),
                                        l2 := (0 : Int),
                                        l3 :=
                                          bif (3 : Int) == IntKind.i64.wrap (s.k - (1 : Int)) then
                                            IntKind.i64.wrap ((1048576 : Int) - s.a)
                                          else (1048576 : Int) }).snd ==
                                  (0 : Int) &&
                                ((applyF u
                                        { e := iAnd IntKind.i64 t.e (1 : Int), d := s.f, l0 := (0 : Int), l1 := (0 : Int),
                                          l2 := (0 : Int),
                                          l3 :=
                                            bif (3 : Int) == IntKind.i64.wrap (s.k - (1 : Int)) then
                                              IntKind.i64.wrap ((1048576 : Int) - s.a)
                                            else (1048576 : Int) }).snd ==
                                    (0 : Int) &&
                                  !rtleq_F
                                      (applyF s
                                          { e := iAnd IntKind.i64 t.e (1 : Int), d := s.f, l0 := (0 : Int),
                                            l1 := (0 : Int), l2 := (0 : Int),
                                            l3 :=
                                              bif (3 : Int) == IntKind.i64.wrap (s.k - (1 : Int)) then
                                                IntKind.i64.wrap ((1048576 : Int) - s.a)
                                              else (1048576 : Int) }).fst
                                      (applyF u
                                          { e := iAnd IntKind.i64 t.e (1 : Int), d := s.f, l0 := (0 : Int),
                                            l1 := (0 : Int), l2 := (0 : Int),
                                            l3 :=
                                              bif (3 : Int) == IntKind.i64.wrap (s.k - (1 : Int)) then
                                                IntKind.i64.wrap ((1048576 : Int) - s.a)
                                              else (1048576 : Int) }).fst)))))) then
                  true
                else
                  bif
                      decide ((-1 : Int) < s.f) &&
                        (decide ((0 : Int) < s.f) &&
                          (decide ((1 : Int) < s.f) &&
                            (decide ((2 : Int) < s.f) && (decide ((3 : Int) < s.f) && decide ((4 : Int) < s.f))))) then
                    default
                  else false
def keeps_side (s : S) (u : S) (t : T) (v : T) (at_ : Int) : Prop :=
  (!true ||
        (applyF s t).snd == (0 : Int) &&
          ((applyF s v).snd == (0 : Int) && (rtleq_F t v && !rtleq_F (applyF s t).fst (applyF s v).fst))) =
      false →
    ((applyF s t).snd == (0 : Int) &&
          ((applyF u t).snd == (0 : Int) && (leqC s u && !rtleq_F (applyF s t).fst (applyF u t).fst))) =
        false →
      (check_F s != (0 : Int) || (check_F u != (0 : Int) || (s.f != u.f || (ends_F s != ends_F u || leqC s u)))) = false →
        (decide ((-1 : Int) < s.f) &&
              ((applyF s
                      { e := iAnd IntKind.i64 t.e (1 : Int), d := s.f, l0 := (0 : Int), l1 := (0 : Int), l2 := (0 : Int),
                        l3 := (0 : Int) }).snd ==
                  (0 : Int) &&
                ((applyF u
                        { e := iAnd IntKind.i64 t.e (1 : Int), d := s.f, l0 := (0 : Int), l1 := (0 : Int),
                          l2 := (0 : Int), l3 := (0 : Int) }).snd ==
                    (0 : Int) &&
                  !rtleq_F
                      (applyF s
                          { e := iAnd IntKind.i64 t.e (1 : Int), d := s.f, l0 := (0 : Int), l1 := (0 : Int),
                            l2 := (0 : Int), l3 := (0 : Int) }).fst
                      (applyF u
                          { e := iAnd IntKind.i64 t.e (1 : Int), d := s.f, l0 := (0 : Int), l1 := (0 : Int),
                            l2 := (0 : Int), l3 := (0 : Int) }).fst))) =
            false →
          (decide ((-1 : Int) < s.f) &&
                (decide ((0 : Int) < s.f) &&
                  ((applyF s
                          { e := iAnd IntKind.i64 t.e (1 : Int), d := s.f,
                            l0 :=
                              bif (0 : Int) == IntKind.i64.wrap (s.k - (1 : Int)) then
                                IntKind.i64.wrap ((1048576 : Int) - s.a)
                              else (1048576 : Int),
                            l1 := (0 : Int), l2 := (0 : Int), l3 := (0 : Int) }).snd ==
                      (0 : Int) &&
                    ((applyF u
                            { e := iAnd IntKind.i64 t.e (1 : Int), d := s.f,
                              l0 :=
                                bif (0 : Int) == IntKind.i64.wrap (s.k - (1 : Int)) then
                                  IntKind.i64.wrap ((1048576 : Int) - s.a)
                                else (1048576 : Int),
                              l1 := (0 : Int), l2 := (0 : Int), l3 := (0 : Int) }).snd ==
                        (0 : Int) &&
                      !rtleq_F
                          (applyF s
                              { e := iAnd IntKind.i64 t.e (1 : Int), d := s.f,
                                l0 :=
                                  bif (0 : Int) == IntKind.i64.wrap (s.k - (1 : Int)) then
                                    IntKind.i64.wrap ((1048576 : Int) - s.a)
                                  else (1048576 : Int),
                                l1 := (0 : Int), l2 := (0 : Int), l3 := (0 : Int) }).fst
                          (applyF u
                              { e := iAnd IntKind.i64 t.e (1 : Int), d := s.f,
                                l0 :=
                                  bif (0 : Int) == IntKind.i64.wrap (s.k - (1 : Int)) then
                                    IntKind.i64.wrap ((1048576 : Int) - s.a)
                                  else (1048576 : Int),
                                l1 := (0 : Int), l2 := (0 : Int), l3 := (0 : Int) }).fst)))) =
              false →
            (decide ((-1 : Int) < s.f) &&
                  (decide ((0 : Int) < s.f) &&
                    (decide ((1 : Int) < s.f) &&
                      ((applyF s
                              { e := iAnd IntKind.i64 t.e (1 : Int), d := s.f, l0 := (0 : Int),
                                l1 :=
                                  bif (1 : Int) == IntKind.i64.wrap (s.k - (1 : Int)) then
                                    IntKind.i64.wrap ((1048576 : Int) - s.a)
                                  else (1048576 : Int),
                                l2 := (0 : Int), l3 := (0 : Int) }).snd ==
                          (0 : Int) &&
                        ((applyF u
                                { e := iAnd IntKind.i64 t.e (1 : Int), d := s.f, l0 := (0 : Int),
                                  l1 :=
                                    bif (1 : Int) == IntKind.i64.wrap (s.k - (1 : Int)) then
                                      IntKind.i64.wrap ((1048576 : Int) - s.a)
                                    else (1048576 : Int),
                                  l2 := (0 : Int), l3 := (0 : Int) }).snd ==
                            (0 : Int) &&
                          !rtleq_F
                              (applyF s
                                  { e := iAnd IntKind.i64 t.e (1 : Int), d := s.f, l0 := (0 : Int),
                                    l1 :=
                                      bif (1 : Int) == IntKind.i64.wrap (s.k - (1 : Int)) then
                                        IntKind.i64.wrap ((1048576 : Int) - s.a)
                                      else (1048576 : Int),
                                    l2 := (0 : Int), l3 := (0 : Int) }).fst
                              (applyF u
                                  { e := iAnd IntKind.i64 t.e (1 : Int), d := s.f, l0 := (0 : Int),
                                    l1 :=
                                      bif (1 : Int) == IntKind.i64.wrap (s.k - (1 : Int)) then
                                        IntKind.i64.wrap ((1048576 : Int) - s.a)
                                      else (1048576 : Int),
                                    l2 := (0 : Int), l3 := (0 : Int) }).fst))))) =
                false →
              (decide ((-1 : Int) < s.f) &&
                    (decide ((0 : Int) < s.f) &&
                      (decide ((1 : Int) < s.f) &&
                        (decide ((2 : Int) < s.f) &&
                          ((applyF s
                                  { e := iAnd IntKind.i64 t.e (1 : Int), d := s.f, l0 := (0 : Int), l1 := (0 : Int),
                                    l2 :=
                                      bif (2 : Int) == IntKind.i64.wrap (s.k - (1 : Int)) then
                                        IntKind.i64.wrap ((1048576 : Int) - s.a)
                                      else (1048576 : Int),
                                    l3 := (0 : Int) }).snd ==
                              (0 : Int) &&
                            ((applyF u
                                    { e := iAnd IntKind.i64 t.e (1 : Int), d := s.f, l0 := (0 : Int), l1 := (0 : Int),
                                      l2 :=
                                        bif (2 : Int) == IntKind.i64.wrap (s.k - (1 : Int)) then
                                          IntKind.i64.wrap ((1048576 : Int) - s.a)
                                        else (1048576 : Int),
                                      l3 := (0 : Int) }).snd ==
                                (0 : Int) &&
                              !rtleq_F
                                  (applyF s
                                      { e := iAnd IntKind.i64 t.e (1 : Int), d := s.f, l0 := (0 : Int), l1 := (0 : Int),
                                        l2 :=
                                          bif (2 : Int) == IntKind.i64.wrap (s.k - (1 : Int)) then
                                            IntKind.i64.wrap ((1048576 : Int) - s.a)
                                          else (1048576 : Int),
                                        l3 := (0 : Int) }).fst
                                  (applyF u
                                      { e := iAnd IntKind.i64 t.e (1 : Int), d := s.f, l0 := (0 : Int), l1 := (0 : Int),
                                        l2 :=
                                          bif (2 : Int) == IntKind.i64.wrap (s.k - (1 : Int)) then
                                            IntKind.i64.wrap ((1048576 : Int) - s.a)
                                          else (1048576 : Int),
                                        l3 := (0 : Int) }).fst)))))) =
                  false →
                (decide ((-1 : Int) < s.f) &&
                      (decide ((0 : Int) < s.f) &&
                        (decide ((1 : Int) < s.f) &&
                          (decide ((2 : Int) < s.f) &&
                            (decide ((3 : Int) < s.f) &&
                              ((applyF s
                                      { e := iAnd IntKind.i64 t.e (1 : Int), d := s.f, l0 := (0 : Int), l1 := (0 : Int),
                                        l2 := (0 : Int),
                                        l3 :=
                                          bif (3 : Int) == IntKind.i64.wrap (s.k - (1 : Int)) then
                                            IntKind.i64.wrap ((1048576 : Int) - s.a)
                                          else (1048576 : Int) }).snd ==
                                  (0 : Int) &&
                                ((applyF u
                                        { e := iAnd IntKind.i64 t.e (1 : Int), d := s.f, l0 := (0 : Int), l1 := (0 : Int),
                                          l2 := (0 : Int),
                                          l3 :=
                                            bif (3 : Int) == IntKind.i64.wrap (s.k - (1 : Int)) then
                                              IntKind.i64.wrap ((1048576 : Int) - s.a)
                                            else (1048576 : Int) }).snd ==
                                    (0 : Int) &&
                                  !rtleq_F
                                      (applyF s
                                          { e := iAnd IntKind.i64 t.e (1 : Int), d := s.f, l0 := (0 : Int),
                                            l1 := (0 : Int), l2 := (0 : Int),
                                            l3 :=
                                              bif (3 : Int) == IntKind.i64.wrap (s.k - (1 : Int)) then
                                                IntKind.i64.wrap ((1048576 : Int) - s.a)
                                              else (1048576 : Int) }).fst
                                      (applyF u
                                          { e := iAnd IntKind.i64 t.e (1 : Int), d := s.f, l0 := (0 : Int),
                                            l1 := (0 : Int), l2 := (0 : Int),
                                            l3 :=
                                              bif (3 : Int) == IntKind.i64.wrap (s.k - (1 : Int)) then
                                                IntKind.i64.wrap ((1048576 : Int) - s.a)
                                              else (1048576 : Int) }).fst))))))) =
                    false →
                  (decide ((-1 : Int) < s.f) &&
                        (decide ((0 : Int) < s.f) &&
                          (decide ((1 : Int) < s.f) &&
                            (decide ((2 : Int) < s.f) && (decide ((3 : Int) < s.f) && decide ((4 : Int) < s.f)))))) =
                      true →
                    False
theorem keeps_okS (pre : DA.T aLaw7 → List Prop) (h : ∀ g, DA.bd aLaw7 g → (∀ p ∈ pre g, p) → keeps_side g.1 g.2.1 g.2.2.1 g.2.2.2.1 g.2.2.2.2) : FnPure Try.prog 7 aLaw7 dBool (fun g => keeps_F g.1 g.2.1 g.2.2.1 g.2.2.2.1 g.2.2.2.2) pre := pure_of_sideS (Γ := (PTab.gamz tab7 [] [(7, 11, 6)])) (Λ := noΛ) (PTab.okz tab7 [] [(7, 11, 6)]) noΛ_ok 100 default (fun g => keeps_side g.1 g.2.1 g.2.2.1 g.2.2.2.1 g.2.2.2.2) (fun g => by kernel_rfl) (fun g => by kernel_rfl) h
def tab9x : PTab Try.prog := tab7
end Go.Proofs.Ytapmlfklkfgmoaa
