/- Chapter 2: summaries and times as plain data. -/
import Derived.Test.YtapmlfklkfgmoaaRows
import Derived.Test.YtapmlfklkfgmoaaZSxLoop2
set_option linter.unusedVariables false
namespace Go.Proofs.Ytapmlfklkfgmoaa
open Go.RowKit Go.Sx

structure S where
  f : Int
  k : Int
  a : Int
  n : Int
  p0 : Int
  p1 : Int
  p2 : Int
  p3 : Int
deriving DecidableEq, Inhabited
abbrev eI : El Int := eInt .i64
abbrev I2 := Int × Int
abbrev I4 := Int × Int × Int × Int
abbrev e4 : El I4 := .pair eI (.pair eI (.pair eI eI))
abbrev I8 := Int × Int × Int × Int × I4
def S.ofP : I8 → S := fun (f, k, a, n, p0, p1, p2, p3) => ⟨f, k, a, n, p0, p1, p2, p3⟩
def S.toP (s : S) : I8 := (s.f, s.k, s.a, s.n, s.p0, s.p1, s.p2, s.p3)
def eS : El S := .iso (.pair eI (.pair eI (.pair eI (.pair eI e4)))) S.ofP S.toP (fun _ => rfl) (fun _ => rfl)
structure T where
  e : Int
  d : Int
  l0 : Int
  l1 : Int
  l2 : Int
  l3 : Int
deriving DecidableEq, Inhabited
abbrev I6 := Int × Int × I4
def T.ofP : I6 → T := fun (e, d, l0, l1, l2, l3) => ⟨e, d, l0, l1, l2, l3⟩
def T.toP (t : T) : I6 := (t.e, t.d, t.l0, t.l1, t.l2, t.l3)
def eT : El T := .iso (.pair eI (.pair eI e4)) T.ofP T.toP (fun _ => rfl) (fun _ => rfl)
abbrev dI : Dv Int := dInt .i64
abbrev dS : Dv S := .agg eS
abbrev dT : Dv T := .agg eT
abbrev dSE : Dv (S × Int) := .tup (.cons dS (.one dI))
abbrev dTE : Dv (T × Int) := .tup (.cons dT (.one dI))
abbrev aS : DA S := .one dS
abbrev aSS : DA (S × S) := .cons dS (.one dS)
abbrev aSSI : DA (S × S × Int) := .cons dS (.cons dS (.one dI))
abbrev aT : DA T := .one dT
abbrev aI : DA Int := .one dI
abbrev aII : DA (Int × Int) := .cons dI (.one dI)
abbrev aST : DA (S × T) := .cons dS (.one dT)
abbrev aTT : DA (T × T) := .cons dT (.one dT)
theorem puI (r : Int) : Pu (dI.enc r) := pu_v _
theorem puB (r : Bool) : Pu (dBool.enc r) := pu_v _
theorem pus4 (a b c d : Int) : Pus [.v (.int .i64 a), .v (.int .i64 b), .v (.int .i64 c), .v (.int .i64 d)] := pus_cons (pu_v _) (pus_cons (pu_v _) (pus_cons (pu_v _) (pus_cons (pu_v _) pus_nil)))
theorem puS (r : S) : Pu (dS.enc r) := pu_agg (pus_cons (pu_v _) (pus_cons (pu_v _) (pus_cons (pu_v _) (pus_cons (pu_v _) (pus4 _ _ _ _)))))
theorem puT (r : T) : Pu (dT.enc r) := pu_agg (pus_cons (pu_v _) (pus_cons (pu_v _) (pus4 _ _ _ _)))
theorem puSE (r : S × Int) : Pu (dSE.enc r) := pu_tup (pus_cons (puS _) (pus_cons (pu_v _) pus_nil))
theorem puTE (r : T × Int) : Pu (dTE.enc r) := pu_tup (pus_cons (puT _) (pus_cons (pu_v _) pus_nil))
def tab0 : PTab Try.prog := PTab.nil
end Go.Proofs.Ytapmlfklkfgmoaa
