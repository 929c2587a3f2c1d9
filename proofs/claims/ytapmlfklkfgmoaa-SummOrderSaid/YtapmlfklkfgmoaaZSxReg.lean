/- The symbolic executor: regions in the order of the text. -/
import Derived.Test.YtapmlfklkfgmoaaZSxJoin2
set_option linter.unusedVariables false
namespace Go.Sx
open Go.RowKit

def St.know (σ : St) (d : Nat) (b : Bool) : St := ⟨σ.n, (d, .k (.bool b)) :: σ.t, σ.h, σ.d, σ.b⟩
/-- Is an operation wanted? Where that hangs on a value that is not known, both ways are gone, and the value is known there. -/
def guardS (ops : Array Oper) (σ : St) (o : Oper) (go : Bool → St → Tr St) : Tr St :=
  match o.guard with
  | none => go true σ
  | some (j, want) =>
    match (ops[j]?).bind (·.dst) with
    | some d => bif Nat.blt d σ.n then
        match σ.slot d with
        | .k (.bool b) => go (b == want) σ
        | .v (.bool b) => .br b (go (true == want) (σ.know d true)) (go (false == want) (σ.know d false))
        | .k (.tuple _) => go false σ
        | _ => .bad 500
      else .bad 501
    | none => go false σ
/-- Both ways are gone, and meet again at the end. -/
def guardM (ops : Array Oper) (σ : St) (o : Oper) (go : Bool → St → Tr St) : Tr St :=
  match o.guard with
  | none => go true σ
  | some (j, want) =>
    match (ops[j]?).bind (·.dst) with
    | some d => bif Nat.blt d σ.n then
        match σ.slot d with
        | .k (.bool b) => go (b == want) σ
        | .v (.bool b) => (mergeX (fun _ => true) (joinSt false σ.h.nx) b (go (true == want) (σ.base.know d true)) (go (false == want) (σ.base.know d false))).map σ.pop
        | .k (.tuple _) => go false σ
        | _ => .bad 500
      else .bad 501
    | none => go false σ
def opsRun (P : Program) (run yld : Nat → Con) (ops : Array Oper) : List Oper → St → Tr St
  | [], σ => .ret σ
  | o :: r, σ => guardM ops σ o fun g σ =>
    match g with
    | true => (opS P run yld σ.ev σ.h o.op).bind fun x => opsRun P run yld ops r (σ.put o.dst x.1 x.2)
    | false => opsRun P run yld ops r (σ.put o.dst (.k undef) σ.h)

end Go.Sx
