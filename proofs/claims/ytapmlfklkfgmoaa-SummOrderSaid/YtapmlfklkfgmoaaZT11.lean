/- Chapter 2: the laws SummBehind and SummOrder. Printed by treegen.py. -/
import Derived.Test.YtapmlfklkfgmoaaZA13
set_option linter.unusedVariables false
namespace Go.Proofs.Ytapmlfklkfgmoaa
open Go.RowKit Go.Sx
set_option maxRecDepth 100000
set_option linter.unusedVariables false
abbrev aLaw4 : DA (S × S × S × T) := .cons dS (.cons dS (.cons dS (.one dT)))
def behind_F (s : S) (u : S) (v : S) (t : T) : Dv.T dBool :=
  bif !true then false
  else
    bif
        (applyF s t).snd == (0 : Int) && ((applyF u (applyF s t).fst).snd == (0 : Int) && (thenF s u).snd == (0 : Int)) &&
          ((applyF (thenF s u).fst t).snd != (0 : Int) ||
            !conj
                ([(applyF (thenF s u).fst t).fst.e == (applyF u (applyF s t).fst).fst.e] ++
                  ([(applyF (thenF s u).fst t).fst.d == (applyF u (applyF s t).fst).fst.d] ++
                    ([(applyF (thenF s u).fst t).fst.l0 == (applyF u (applyF s t).fst).fst.l0] ++
                        ([(applyF (thenF s u).fst t).fst.l1 == (applyF u (applyF s t).fst).fst.l1] ++
                          ([(applyF (thenF s u).fst t).fst.l2 == (applyF u (applyF s t).fst).fst.l2] ++
                            ([(applyF (thenF s u).fst t).fst.l3 == (applyF u (applyF s t).fst).fst.l3] ++ []))) ++
                      [])))) then
      false
    else
      bif
          (thenF s u).snd == (0 : Int) &&
            ((thenF u v).snd == (0 : Int) &&
              ((thenF (thenF s u).fst v).snd == (0 : Int) &&
                ((thenF s (thenF u v).fst).snd == (0 : Int) &&
                  !conj
                      ([(thenF (thenF s u).fst v).fst.f == (thenF s (thenF u v).fst).fst.f] ++
                        ([(thenF (thenF s u).fst v).fst.k == (thenF s (thenF u v).fst).fst.k] ++
                          ([(thenF (thenF s u).fst v).fst.a == (thenF s (thenF u v).fst).fst.a] ++
                            ([(thenF (thenF s u).fst v).fst.n == (thenF s (thenF u v).fst).fst.n] ++
                              ([(thenF (thenF s u).fst v).fst.p0 == (thenF s (thenF u v).fst).fst.p0] ++
                                  ([(thenF (thenF s u).fst v).fst.p1 == (thenF s (thenF u v).fst).fst.p1] ++
                                    ([(thenF (thenF s u).fst v).fst.p2 == (thenF s (thenF u v).fst).fst.p2] ++
                                      ([(thenF (thenF s u).fst v).fst.p3 == (thenF s (thenF u v).fst).fst.p3] ++ []))) ++
                                [])))))))) then
        false
      else
        bif check_F s != (0 : Int) then true
        else
          (id_F s.f).snd == (0 : Int) &&
            ((id_F (ends_F s)).snd == (0 : Int) &&
              ((thenF (id_F s.f).fst s).snd == (0 : Int) &&
                ((thenF s (id_F (ends_F s)).fst).snd == (0 : Int) &&
                  (conj
                      ([(thenF (id_F s.f).fst s).fst.f == s.f] ++
                        ([(thenF (id_F s.f).fst s).fst.k == s.k] ++
                          ([(thenF (id_F s.f).fst s).fst.a == s.a] ++
                            ([(thenF (id_F s.f).fst s).fst.n == s.n] ++
                              ([(thenF (id_F s.f).fst s).fst.p0 == s.p0] ++
                                  ([(thenF (id_F s.f).fst s).fst.p1 == s.p1] ++
                                    ([(thenF (id_F s.f).fst s).fst.p2 == s.p2] ++
                                      ([(thenF (id_F s.f).fst s).fst.p3 == s.p3] ++ []))) ++
                                []))))) &&
                    conj
                      ([(thenF s (id_F (ends_F s)).fst).fst.f == s.f] ++
                        ([(thenF s (id_F (ends_F s)).fst).fst.k == s.k] ++
                          ([(thenF s (id_F (ends_F s)).fst).fst.a == s.a] ++
                            ([(thenF s (id_F (ends_F s)).fst).fst.n == s.n] ++
                              ([(thenF s (id_F (ends_F s)).fst).fst.p0 == s.p0] ++
                                  ([(thenF s (id_F (ends_F s)).fst).fst.p1 == s.p1] ++
                                    ([(thenF s (id_F (ends_F s)).fst).fst.p2 == s.p2] ++
                                      ([(thenF s (id_F (ends_F s)).fst).fst.p3 == s.p3] ++ []))) ++
                                [])))))))))
theorem behind_ok : FnPure Try.prog 4 aLaw4 dBool (fun g => behind_F g.1 g.2.1 g.2.2.1 g.2.2.2) (fun _ => []) := pure_of_safe (Γ := (PTab.gamz tab7 [] [])) (Λ := noΛ) (PTab.okz tab7 [] []) noΛ_ok 100 default (fun g => by kernel_rfl) (fun g => by kernel_rfl)
def order_F (s : S) (u : S) (v : S) (t : T) : Dv.T dBool :=
  bif
      !true ||
        bif check_F s == (0 : Int) then !leqC s s || leqC s u && (leqC u v && !leqC s v)
        else leqC s u && (leqC u v && !leqC s v) then
    false
  else
    bif
        leqC s u &&
          ((thenF s v).snd == (0 : Int) && ((thenF u v).snd == (0 : Int) && !leqC (thenF s v).fst (thenF u v).fst)) then
      false
    else
      !adv_F s ||
        ((applyF s t).snd != (0 : Int) ||
          rtleq_F t (applyF s t).fst &&
            !conj
                ([t.e == (applyF s t).fst.e] ++
                  ([t.d == (applyF s t).fst.d] ++
                    ([t.l0 == (applyF s t).fst.l0] ++
                        ([t.l1 == (applyF s t).fst.l1] ++
                          ([t.l2 == (applyF s t).fst.l2] ++ ([t.l3 == (applyF s t).fst.l3] ++ []))) ++
                      []))))
theorem order_ok : FnPure Try.prog 5 aLaw4 dBool (fun g => order_F g.1 g.2.1 g.2.2.1 g.2.2.2) (fun _ => []) := pure_of_safe (Γ := (PTab.gamz tab7 [] [])) (Λ := noΛ) (PTab.okz tab7 [] []) noΛ_ok 100 default (fun g => by kernel_rfl) (fun g => by kernel_rfl)
def tab8x : PTab Try.prog := ((tab7).cons 4 (pconP aLaw4 dBool (fun g => behind_F g.1 g.2.1 g.2.2.1 g.2.2.2) (fun _ => [])) (conP_ok behind_ok puB)).cons 5 (pconP aLaw4 dBool (fun g => order_F g.1 g.2.1 g.2.2.1 g.2.2.2) (fun _ => [])) (conP_ok order_ok puB)
end Go.Proofs.Ytapmlfklkfgmoaa
