/- Chapter 2: the law SummMakes. Printed by treegen.py. -/
import Derived.Test.YtapmlfklkfgmoaaZA12
set_option linter.unusedVariables false
namespace Go.Proofs.Ytapmlfklkfgmoaa
open Go.RowKit Go.Sx
set_option maxRecDepth 100000
set_option linter.unusedVariables false
def makes_F (s : S) (u : S) (t : T) (d : Int) (l : List S) : Dv.T dBool :=
  true &&
    (conj
        ([(applyF s t).fst.e == (applyF s t).fst.e] ++
          ([(applyF s t).fst.d == (applyF s t).fst.d] ++
            ([(applyF s t).fst.l0 == (applyF s t).fst.l0] ++
                ([(applyF s t).fst.l1 == (applyF s t).fst.l1] ++
                  ([(applyF s t).fst.l2 == (applyF s t).fst.l2] ++
                    ([(applyF s t).fst.l3 == (applyF s t).fst.l3] ++ []))) ++
              []))) &&
      ((applyF s t).snd == (applyF s t).snd &&
        (conj
            ([(thenF s u).fst.f == (thenF s u).fst.f] ++
              ([(thenF s u).fst.k == (thenF s u).fst.k] ++
                ([(thenF s u).fst.a == (thenF s u).fst.a] ++
                  ([(thenF s u).fst.n == (thenF s u).fst.n] ++
                    ([(thenF s u).fst.p0 == (thenF s u).fst.p0] ++
                        ([(thenF s u).fst.p1 == (thenF s u).fst.p1] ++
                          ([(thenF s u).fst.p2 == (thenF s u).fst.p2] ++
                            ([(thenF s u).fst.p3 == (thenF s u).fst.p3] ++ []))) ++
                      []))))) &&
          ((thenF s u).snd == (thenF s u).snd &&
            (conj
                ([(allF d
                            (eS.lst (List.take (40 : Nat) (eS.lst l.length (eS.els l))).length
                              (eS.els (List.take (40 : Nat) (eS.lst l.length (eS.els l)))))).fst.f ==
                      (allF d
                            (eS.lst (List.take (40 : Nat) (eS.lst l.length (eS.els l))).length
                              (eS.els (List.take (40 : Nat) (eS.lst l.length (eS.els l)))))).fst.f] ++
                  ([(allF d
                              (eS.lst (List.take (40 : Nat) (eS.lst l.length (eS.els l))).length
                                (eS.els (List.take (40 : Nat) (eS.lst l.length (eS.els l)))))).fst.k ==
                        (allF d
                              (eS.lst (List.take (40 : Nat) (eS.lst l.length (eS.els l))).length
                                (eS.els (List.take (40 : Nat) (eS.lst l.length (eS.els l)))))).fst.k] ++
                    ([(allF d
                                (eS.lst (List.take (40 : Nat) (eS.lst l.length (eS.els l))).length
                                  (eS.els (List.take (40 : Nat) (eS.lst l.length (eS.els l)))))).fst.a ==
                          (allF d
                                (eS.lst (List.take (40 : Nat) (eS.lst l.length (eS.els l))).length
                                  (eS.els (List.take (40 : Nat) (eS.lst l.length (eS.els l)))))).fst.a] ++
                      ([(allF d
                                  (eS.lst (List.take (40 : Nat) (eS.lst l.length (eS.els l))).length
                                    (eS.els (List.take (40 : Nat) (eS.lst l.length (eS.els l)))))).fst.n ==
                            (allF d
                                  (eS.lst (List.take (40 : Nat) (eS.lst l.length (eS.els l))).length
                                    (eS.els (List.take (40 : Nat) (eS.lst l.length (eS.els l)))))).fst.n] ++
                        ([(allF d
                                      (eS.lst (List.take (40 : Nat) (eS.lst l.length (eS.els l))).length
                                        (eS.els (List.take (40 : Nat) (eS.lst l.length (eS.els l)))))).fst.p0 ==
                                (allF d
                                      (eS.lst (List.take (40 : Nat) (eS.lst l.length (eS.els l))).length
                                        (eS.els (List.take (40 : Nat) (eS.lst l.length (eS.els l)))))).fst.p0] ++
                            ([(allF d
                                        (eS.lst (List.take (40 : Nat) (eS.lst l.length (eS.els l))).length
                                          (eS.els (List.take (40 : Nat) (eS.lst l.length (eS.els l)))))).fst.p1 ==
                                  (allF d
                                        (eS.lst (List.take (40 : Nat) (eS.lst l.length (eS.els l))).length
                                          (eS.els (List.take (40 : Nat) (eS.lst l.length (eS.els l)))))).fst.p1] ++
                              ([(allF d
                                          (eS.lst (List.take (40 : Nat) (eS.lst l.length (eS.els l))).length
                                            (eS.els (List.take (40 : Nat) (eS.lst l.length (eS.els l)))))).fst.p2 ==
                                    (allF d
                                          (eS.lst (List.take (40 : Nat) (eS.lst l.length (eS.els l))).length
                                            (eS.els (List.take (40 : Nat) (eS.lst l.length (eS.els l)))))).fst.p2] ++
                                ([(allF d
                                            (eS.lst (List.take (40 : Nat) (eS.lst l.length (eS.els l))).length
                                              (eS.els (List.take (40 : Nat) (eS.lst l.length (eS.els l)))))).fst.p3 ==
                                      (allF d
                                            (eS.lst (List.take (40 : Nat) (eS.lst l.length (eS.els l))).length
                                              (eS.els (List.take (40 : Nat) (eS.lst l.length (eS.els l)))))).fst.p3] ++
                                  []))) ++
                          []))))) &&
              (allF d
                    (eS.lst (List.take (40 : Nat) (eS.lst l.length (eS.els l))).length
                      (eS.els (List.take (40 : Nat) (eS.lst l.length (eS.els l)))))).snd ==
                (allF d
                    (eS.lst (List.take (40 : Nat) (eS.lst l.length (eS.els l))).length
                      (eS.els (List.take (40 : Nat) (eS.lst l.length (eS.els l)))))).snd)))))
def makes_side (s : S) (u : S) (t : T) (d : Int) (l : List S) : Prop :=
  (∀ (e : Nat), e < l.length → eS.Ok (eS.els l e)) ∧
    (∀ (e : Nat),
        e < (List.take (40 : Nat) (eS.lst l.length (eS.els l))).length →
          eS.Ok (eS.els (List.take (40 : Nat) (eS.lst l.length (eS.els l))) e)) ∧
      ∀ (e : Nat),
        e < (List.take (40 : Nat) (eS.lst l.length (eS.els l))).length →
          eS.Ok (eS.els (List.take (40 : Nat) (eS.lst l.length (eS.els l))) e)
theorem makes_okS (pre : DA.T aLaw1 → List Prop) (h : ∀ g, DA.bd aLaw1 g → (∀ p ∈ pre g, p) → makes_side g.1 g.2.1 g.2.2.1 g.2.2.2.1 g.2.2.2.2) : FnPure Try.prog 3 aLaw1 dBool (fun g => makes_F g.1 g.2.1 g.2.2.1 g.2.2.2.1 g.2.2.2.2) pre := pure_of_sideS (Γ := (PTab.gamz tab6 [] [])) (Λ := noΛ) (PTab.okz tab6 [] []) noΛ_ok 100 default (fun g => makes_side g.1 g.2.1 g.2.2.1 g.2.2.2.1 g.2.2.2.2) (fun g => by kernel_rfl) (fun g => by kernel_rfl) h
def tab7x : PTab Try.prog := tab6
end Go.Proofs.Ytapmlfklkfgmoaa
