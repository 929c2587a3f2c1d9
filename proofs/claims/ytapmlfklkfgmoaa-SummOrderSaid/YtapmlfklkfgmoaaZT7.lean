/- Chapter 2: a round of All. Printed by treegen.py. -/
import Derived.Test.YtapmlfklkfgmoaaZA7
set_option linter.unusedVariables false
namespace Go.Proofs.Ytapmlfklkfgmoaa
open Go.RowKit Go.Sx
set_option maxRecDepth 100000
set_option linter.unusedVariables false
theorem all_round (rd : Option Nat) (T B : List (Nat × SV)) (HL HB : List (Nat × SE)) (ds : List Nat) (l : List S) (n i e : Int) (s : S) : bT Try.prog g4 noΛ 100 14 rd (loopBody Try.prog 14 3) lpAll [] 32 ⟨32, T, ⟨2, HL, HB⟩, [], B⟩ ds (l, n, i, (), e, s) =
  Tr.br (decide (i < n))
    (Tr.ask (0 ≤ i ∧ i < ↑l.length)
      (Tr.br (e != 0)
        (Tr.ask (∀ (e : Nat), e < l.length → eS.Ok (eS.els l e))
          (Tr.ret (Ex.exit 0, eS.lst l.length (eS.els l), n, i, (), e, s)))
        (Tr.ask (∀ (e : Nat), e < l.length → eS.Ok (eS.els l e))
          (Tr.ret
            (Ex.normal, eS.lst l.length (eS.els l), n, IntKind.i64.wrap (i + 1), (),
              (thenF s (l.getD i.toNat eS.dflt)).snd, (thenF s (l.getD i.toNat eS.dflt)).fst)))))
    (Tr.ask (∀ (e : Nat), e < l.length → eS.Ok (eS.els l e))
      (Tr.ret (Ex.exit 0, eS.lst l.length (eS.els l), n, i, (), e, s))) := by kernel_rfl
theorem rall_round (rd : Option Nat) (T B : List (Nat × SV)) (HL HB : List (Nat × SE)) (ds : List Nat) (l : List S) (i e : Int) (s : S) : bT Try.prog g4 noΛ 100 15 rd (loopBody Try.prog 15 3) lpRall [] 35 ⟨35, T, ⟨2, HL, HB⟩, [], B⟩ ds (l, i, (), e, s) =
  Tr.br (decide (i < ↑l.length) && e == 0)
    (Tr.ask (0 ≤ i ∧ i < ↑l.length)
      (Tr.ask (∀ (e : Nat), e < l.length → eS.Ok (eS.els l e))
        (Tr.ret
          (Ex.normal, eS.lst l.length (eS.els l), IntKind.i64.wrap (i + 1), (), (thenF s (l.getD i.toNat eS.dflt)).snd,
            (thenF s (l.getD i.toNat eS.dflt)).fst))))
    (Tr.ask (∀ (e : Nat), e < l.length → eS.Ok (eS.els l e))
      (Tr.ret (Ex.exit 0, eS.lst l.length (eS.els l), i, (), e, s))) := by kernel_rfl
end Go.Proofs.Ytapmlfklkfgmoaa
