/- The symbolic executor: code. -/
import Derived.Test.YtapmlfklkfgmoaaZSxBase
set_option linter.unusedVariables false
namespace Go.Sx
open Go.RowKit

def argLog : Nat → List SV → List (Nat × SV)
  | _, [] => []
  | i, a :: r => (i, a) :: argLog (i + 1) r
def endMarks : List Nat → SH → Option SH
  | [], h => some h
  | i :: r, h => match h.get i with
    | .obj (.deferred (some [])) => endMarks r (h.set i (.obj (.deferred none)))
    | _ => none
def resOne (P : Program) (σ : St) : ResultVar → Tr SV
  | .tmp t => .ret (σ.ev (.tmp t))
  | .cell a t => (loadS P σ.h t (σ.ev (.tmp a))).bind fun x => .ret x.1
def resAll (P : Program) (σ : St) : List ResultVar → Tr (List SV)
  | [] => .ret []
  | r :: rs => (resOne P σ r).bind fun s => (resAll P σ rs).bind fun ss => .ret (s :: ss)
def resS (P : Program) (fn : Func) (σ : St) : Tr (SV × SH) :=
  (resAll P σ fn.results.toList).bind fun ss => match ss with
    | [s] => .ret (s, σ.h)
    | ss => .ret (.tup ss, σ.h)

/-- The loops of a piece of code, and a number for each. -/
def subLoops : Code → List Code
  | .seq a b => subLoops a ++ subLoops b
  | .cond _ a b => subLoops a ++ subLoops b
  | .block _ c => subLoops c
  | .scope c => subLoops c
  | .loop c => c :: subLoops c
  | _ => []
def firstReg : Code → Option Nat
  | .region id _ _ => some id
  | .seq a b => match firstReg a with
    | some i => some i
    | none => firstReg b
  | .cond _ a b => match firstReg a with
    | some i => some i
    | none => firstReg b
  | .block _ c => firstReg c
  | .scope c => firstReg c
  | .loop c => firstReg c
  | _ => none
def lkey (c : Code) : Nat := (firstReg c).getD 1000000
def loopsOf (P : Program) (f : Nat) : List Code :=
  match P.funcs[f]? with
  | some fn => match fn.body with
    | some c => subLoops c
    | none => []
  | none => []
def loopBody (P : Program) (f key : Nat) : Code := ((loopsOf P f).find? fun c => Nat.beq (lkey c) key).getD .skip

/-- A contract of a loop. -/
structure LCon where
  g : St → Tr (Ex × St)
  on : ∀ σ, (g σ).Each fun y => y.2.On σ.b σ.h.b
abbrev Lam := Nat → Nat → Option LCon
/-- Contracts of functions, and of which it is known that they change no known block. -/
structure Gam where
  g : Nat → Option Con
  q : Nat → Bool
  hq : ∀ f, q f = true → ∃ c, g f = some c ∧ ∀ args h, (c args h).Each fun y => y.2 = h
  hb : ∀ f c, g f = some c → ConB c
  z : Nat → Nat → Bool
  u : Nat → Nat → Nat

def Gam.zf (Γ : Gam) (lam : Option Nat) (id : Nat) : Bool :=
  match lam with
  | some f => Γ.z f id
  | none => false
/-- How many rounds of a loop are gone, at most. -/
def Gam.un (Γ : Gam) (lam : Option Nat) (key n : Nat) : Nat :=
  match lam with
  | some f => match Γ.u f key with
    | 0 => n
    | m + 1 => m + 1
  | none => n
def fnRun (P : Program) (ex : Code → St → Tr (Ex × St)) (f : Nat) : Con := fun args h =>
  match P.funcs[f]? with
  | some fn =>
    match fn.body with
    | some c =>
      bif Nat.ble args.length fn.ntmps then
        (ex c ⟨fn.ntmps, argLog 0 args, h, [], []⟩).bind fun x =>
          match x.1 with
          | .ret | .normal => match endMarks x.2.d x.2.h with
            | some h' => resS P fn ⟨x.2.n, x.2.t, h', [], x.2.b⟩
            | none => .bad 510
          | _ => .bad 511
      else .bad 512
    | none => .bad 513
  | none => .bad 514

def yldSlots : List Nat → List SV → List (Nat × SV) → List (Nat × SV)
  | p :: ps, a :: as, t => yldSlots ps as ((p, a) :: t)
  | _, _, t => t
def yldRun (ex : Nat → Code → St → Tr (Ex × St)) (l : Nat) : Con := fun args h =>
  match h.get l with
  | .loop .ready _ n t ps asg body _ =>
    bif Nat.beq args.length ps.size then
      (ex l asg ⟨n, yldSlots ps.toList args t, h, [], []⟩).bind fun x =>
        match x.1 with
        | .normal => match x.2.h.get l with
         | .loop .ready pd' _ _ _ _ _ _ =>
          (ex l body ⟨x.2.n, x.2.t, x.2.h.setLp l .busy pd', x.2.d, x.2.b⟩).bind fun y =>
            match y.2.h.get l with
            | .loop .. =>
              match y.1 with
              | .normal => .ret (.k (.bool true), y.2.h.setLp l .ready none)
              | .ret => .ret (.k (.bool false), y.2.h.setLp l .done (some .ret))
              | .exit id => .ret (.k (.bool false), y.2.h.setLp l .done (some (.exit id)))
              | .goto id => .ret (.k (.bool false), y.2.h.setLp l .done (some (.goto id)))
            | _ => .bad 520
         | _ => .bad 521
        | _ => .bad 524
    else .bad 522
  | _ => .bad 523

def endLoopS (ex : Code → St → Tr (Ex × St)) (l : Nat) (σ : St) : Tr (Ex × St) :=
  match σ.h.get l with
  | .loop st pd n t ps asg body df =>
    match st with
    | .busy => .bad 530
    | _ =>
      let σ' : St := ⟨σ.n, σ.t, σ.h.set l (.loop .exhausted pd n t ps asg body df), σ.d, σ.b⟩
      match pd with
      | none => .ret (.normal, σ')
      | some c => ex c σ'
  | _ => .bad 531

def loopRun (ex : St → Tr (Ex × St)) : Nat → St → Tr (Ex × St)
  | 0, _ => .bad 532
  | m + 1, σ => (ex σ).bind fun x => match x.1 with
    | .normal => loopRun ex m x.2
    | e => .ret (e, x.2)

def unExit (id : Nat) (x : Ex × St) : Ex × St :=
  match x.1 with
  | .exit j => bif Nat.beq j id then (.normal, x.2) else (.exit j, x.2)
  | e => (e, x.2)
/-- Code: 'lam': whose loops' contracts are used; 'rd': in which round of a range over a function. -/
def exec (P : Program) (Γ : Gam) (Λ : Lam) : Nat → Option Nat → Option Nat → Code → St → Tr (Ex × St)
  | 0, _, _, _, _ => .bad 540
  | n + 1, lam, rd, c, σ =>
    let run : Nat → Con := fun f => match Γ.g f with
      | some g => g
      | none => fnRun P (exec P Γ Λ n (some f) none) f
    let yld : Nat → Con := yldRun fun l => exec P Γ Λ n none (some l)
    match c with
    | .skip => .ret (.normal, σ)
    | .label _ => .ret (.normal, σ)
    | .ret => .ret (.ret, σ)
    | .exit id => .ret (.exit id, σ)
    | .goto l => .ret (.goto l, σ)
    | .region id ops d => bif Γ.zf lam id then (bif d then .bad 548 else ((compress (fun _ => true) (joinSt true σ.h.nx) (opsRun P run yld ops ops.toList σ.base)).map σ.pop).bind fun σ => .ret (.normal, σ)) else bif d then (bif drawOk P Γ.q ops then ((compress (fun _ => true) (joinSt false σ.h.nx) (drawOps P run yld ops ops.toList σ.base)).map σ.pop).bind fun σ => .ret (.normal, σ) else .bad 541) else (opsRun P run yld ops ops.toList σ).bind fun σ => .ret (.normal, σ)
    | .seq a b => (exec P Γ Λ n lam rd a σ).bind fun x => match x.1 with
      | .normal => exec P Γ Λ n lam rd b x.2
      | e => .ret (e, x.2)
    | .cond c a b => match (σ.ev c).bool? with
      | some (true, z) => match z with
        | true => exec P Γ Λ n lam rd a σ
        | false => exec P Γ Λ n lam rd b σ
      | some (false, z) => (mergeX isNx (joinX σ.h.nx) z (exec P Γ Λ n lam rd a σ.base) (exec P Γ Λ n lam rd b σ.base)).map fun y => (y.1, σ.pop y.2)
      | none => .bad 542
    | .block id c => (compress isNx (joinX σ.h.nx) ((exec P Γ Λ n lam rd c σ.base).map (unExit id))).map fun y => (y.1, σ.pop y.2)
    | .loop c =>
      match lam.bind fun f => Λ f (lkey c) with
      | some L => L.g σ
      | none => loopRun (exec P Γ Λ n lam rd c) (Γ.un lam (lkey c) n) σ
    | .rangeFunc g ps asg body =>
      match σ.ev g with
      | .fn f cs =>
        bif callable P f then
          match rd with
          | none =>
            let h1 := σ.h.push (.obj (.deferred (some [])))
            let h2 := h1.push (.loop .ready none σ.n σ.lg ps asg body σ.h.nx)
            (run f (.yl h1.nx :: cs) h2).bind fun x => endLoopS (exec P Γ Λ n none rd) h1.nx ⟨σ.n, σ.t, x.2, σ.h.nx :: σ.d, σ.b⟩
          | some l0 =>
            match σ.h.get l0 with
            | .loop _ _ _ _ _ _ _ df =>
              let h2 := σ.h.push (.loop .ready none σ.n σ.lg ps asg body df)
              (run f (.yl σ.h.nx :: cs) h2).bind fun x => endLoopS (exec P Γ Λ n none rd) σ.h.nx ⟨σ.n, σ.t, x.2, σ.d, σ.b⟩
            | _ => .bad 543
        else .bad 544
      | _ => .bad 545
    | .scope _ => .bad 546
    | .refuse _ => .bad 547

/-- A function, run through. -/
def fnTree (P : Program) (Γ : Gam) (Λ : Lam) (n : Nat) (f : Nat) : Con := fnRun P (exec P Γ Λ n (some f) none) f
/-- Its results alone. -/
def fnTree0 (P : Program) (Γ : Gam) (Λ : Lam) (n : Nat) (f : Nat) (args : List SV) : Tr SV := (fnTree P Γ Λ n f args ⟨0, [], []⟩).bind fun x => .ret x.1
end Go.Sx
