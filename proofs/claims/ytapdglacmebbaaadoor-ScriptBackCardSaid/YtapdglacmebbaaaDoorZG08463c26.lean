/- Chapter 27: times, records, nodes, deltas as plain data; the environment: the tables of unicode/utf8. -/
import Derived.Test.YtapdglacmebbaaaDoorRows
import Derived.Test.YtapdglacmebbaaaDoorZG058b71cb
import Derived.Test.YtapdglacmebbaaaDoorZG06339971
import Derived.Shelf.Unicode.DecodeSlow
import Derived.Shelf.Strings.OnBuilder
import Derived.Shelf.Strings.Split
import Derived.Shelf.Small.Strs
import Derived.Shelf.Unicode.ValidAny
import Derived.Shelf.Strings.Cut
import Derived.Shelf.Small.Wraps
import Derived.Test.YtapdglacmebbaaaDoorTie
import Derived.Lib.LaidU8T
import Derived.Shelf.Vars
import Derived.ProofKit
import Derived.OpenShut
import Derived.LaidMore
import Derived.Lay
import Derived.SevenTiedAt
import Derived.HandedShaped
import Derived.ChangeMaps5
set_option maxRecDepth 100000
set_option linter.unusedVariables false
set_option linter.unusedSimpArgs false
set_option linter.constructorNameAsVariable false
set_option linter.all false

namespace Go.Proofs.YtapdglacmebbaaaDoor
noncomputable section
open Go.RowKit Go.Sx
abbrev BA:=ByteArray
abbrev eI:El Int:=eInt .i64
abbrev I2:=Int×Int
abbrev I4:=Int×Int×Int×Int
abbrev e4:El I4:=.pair eI (.pair eI (.pair eI eI))
structure T where
 e:Int
 d:Int
 l0:Int
 l1:Int
 l2:Int
 l3:Int
deriving DecidableEq,Inhabited
abbrev I6:=Int×Int×I4
def T.ofP:I6->T:=λ(e,d,l0,l1,l2,l3)=>⟨e,d,l0,l1,l2,l3⟩
def T.toP(t:T):I6:=(t.e,t.d,t.l0,t.l1,t.l2,t.l3)
structure Place where
 node:Int
 port:Int
deriving DecidableEq,Inhabited
def Place.ofP:I2->Place:=λ(a,b)=>⟨a,b⟩
def Place.toP(p:Place):I2:=(p.node,p.port)
structure Change where
 p:Place
 t:T
 n:Int
deriving DecidableEq,Inhabited
abbrev PTI:=Place×T×Int
def Change.ofP:PTI->Change:=λ(a,b,c)=>⟨a,b,c⟩
def Change.toP(x:Change):PTI:=(x.p,x.t,x.n)
structure Rec where
 key:Int
 text:BA
deriving DecidableEq,Inhabited
abbrev IB:=Int×BA
def Rec.ofP:IB->Rec:=λ(k,t)=>⟨k,t⟩
def Rec.toP(r:Rec):IB:=(r.key,r.text)
def eR:El Rec:=.iso (.pair eI eStr) Rec.ofP Rec.toP (λ_=>rfl) (λ_=>rfl)
structure Fn where
 kind:Int
 a:Int
 s:BA
deriving DecidableEq,Inhabited
abbrev IIB:=Int×Int×BA
def Fn.ofP:IIB->Fn:=λ(k,a,t)=>⟨k,a,t⟩
def Fn.toP(r:Fn):IIB:=(r.kind,r.a,r.s)
def eF:El Fn:=.iso (.pair eI (.pair eI eStr)) Fn.ofP Fn.toP (λ_=>rfl) (λ_=>rfl)
structure Nd where
 id:Int
 kind:Int
 ins:List Int
 fn:Fn
 name:BA
 cap:Int
 d:Int
deriving DecidableEq,Inhabited
abbrev eLI:El (List Int):=eList eI
abbrev NdP:=Int×Int×List Int×Fn×BA×Int×Int
def Nd.ofP:NdP->Nd:=λ(a,b,c,d,e,f,g)=>⟨a,b,c,d,e,f,g⟩
def Nd.toP(x:Nd):NdP:=(x.id,x.kind,x.ins,x.fn,x.name,x.cap,x.d)
def eD:El Nd:=.iso (.pair eI (.pair eI (.pair eLI (.pair eF (.pair eStr (.pair eI eI)))))) Nd.ofP Nd.toP (λ_=>rfl) (λ_=>rfl)
structure Mv where
 fr:Int
 «to»:Int
 kind:Int
 a:Int
 fn:Fn
deriving DecidableEq,Inhabited
abbrev MvP:=Int×Int×Int×Int×Fn
def Mv.ofP:MvP->Mv:=λ(a,b,c,d,e)=>⟨a,b,c,d,e⟩
def Mv.toP(x:Mv):MvP:=(x.fr,x.to,x.kind,x.a,x.fn)
def eV:El Mv:=.iso (.pair eI (.pair eI (.pair eI (.pair eI eF)))) Mv.ofP Mv.toP (λ_=>rfl) (λ_=>rfl)
structure Dl where
 drop:List Int
 put:List Nd
 moves:List Mv
deriving DecidableEq,Inhabited
abbrev eLD:El (List Nd):=eList eD
abbrev eLV:El (List Mv):=eList eV
abbrev DlP:=List Int×List Nd×List Mv
def Dl.ofP:DlP->Dl:=λ(a,b,c)=>⟨a,b,c⟩
def Dl.toP(x:Dl):DlP:=(x.drop,x.put,x.moves)
def eDl:El Dl:=.iso (.pair eLI (.pair eLD eLV)) Dl.ofP Dl.toP (λ_=>rfl) (λ_=>rfl)
abbrev eLR:El (List Rec):=eList eR
abbrev dI:Dv Int:=dInt .i64
abbrev d8:Dv Int:=dInt .u8
abbrev dR:Dv Rec:=.agg eR
abbrev dD:Dv Nd:=.agg eD
abbrev dV:Dv Mv:=.agg eV
abbrev dDl:Dv Dl:=.agg eDl
abbrev dLI:Dv (List Int):=.list eI
abbrev dLR:Dv (List Rec):=.list eR
abbrev dLD:Dv (List Nd):=.list eD
abbrev dLV:Dv (List Mv):=.list eV
abbrev aI:DA Int:=.one dI
abbrev aB:DA BA:=.one dStr
abbrev aR:DA Rec:=.one dR
abbrev aDlDl:DA (Dl×Dl):=.cons dDl (.one dDl)
theorem puI(r:Int):Pu (dI.enc r):=pu_v _
theorem puB(r:Bool):Pu (dBool.enc r):=pu_v _
theorem puS(r:BA):Pu (dStr.enc r):=pu_v _
def qbg(F:Nat->Option Obj)(b:Nat)(p:Array Value->Prop):Prop:=∃cs t fz,F b=some (.cells cs t fz)/\p cs
theorem qbg.mono{F G:Nat->Option Obj}{b:Nat}{p:Array Value->Prop}(h:∀b o,F b=some o->dataO o->G b=some o)(hp:qbg F b p):qbg G b p:=by
 obtain⟨cs,t,fz,h1,h2⟩:=hp;exact⟨cs,t,fz,h _ _ h1 trivial,h2⟩
def EnvF(F:Nat->Option Obj):Prop:=
 qbg F 1 (λcs=>∀c,c<256->cs[c]?=some (.int .u8 (Lib.firstT c)))/\
 qbg F 2 (λcs=>∀i,i<16->cs[2*i]?=some (.int .u8 (Lib.accLo i))/\cs[2*i+1]?=some (.int .u8 (Lib.accHi i)))/\
 qbg F 0 (λcs=>∃m,cs[0]?=some (.int .i64 m))
instance envU:Env where
 E:=EnvF
 mono _ _ h hE:=⟨hE.1.mono h,hE.2.1.mono h,hE.2.2.mono h⟩
 Ab:=Empty
 rep a:=a.elim
 rep_cl a:=a.elim
def tab0:PTab Tryd.prog:=PTab.nil
theorem qbg.cell{F:Nat->Option Obj}{w:World}{b:Nat}{p:Array Value->Prop}(hF:∀b o,F b=some o->w.heap[b]?=some o)(hp:qbg F b p):∃cs,p cs/\∀i v,cs[i]?=some v->w.cell? ⟨b,i,none⟩=some v:=by
 obtain⟨cs,t,fz,h1,h2⟩:=hp;refine⟨cs,h2,λi v hv=>?_⟩;simp only[World.cell?,hF _ _ h1,Option.isSome_none,Bool.false_eq_true,if_false,id_eq];exact hv
theorem envTabs{F:Nat->Option Obj}{w:World}(hF:∀b o,F b=some o->w.heap[b]?=some o)(hE:EnvF F):Lib.Utf8Tabs 1 2 w:=by
 obtain⟨c1,h1,k1⟩:=hE.1.cell hF;obtain⟨c2,h2,k2⟩:=hE.2.1.cell hF;exact⟨λc hc=>k1 _ _ (h1 c hc),λi hi=>⟨k2 _ _ (h2 i hi).1,k2 _ _ (h2 i hi).2⟩⟩
theorem envMax{F:Nat->Option Obj}{w:World}(hF:∀b o,F b=some o->w.heap[b]?=some o)(hE:EnvF F):∃m,w.cell? ⟨0,0,none⟩=some (.int .i64 m):=by
 obtain⟨c1,⟨m,h1⟩,k1⟩:=hE.2.2.cell hF;exact⟨m,k1 _ _ h1⟩
end
end Go.Proofs.YtapdglacmebbaaaDoor

namespace Go.Proofs.YtapdglacmebbaaaDoor
open Go.RowKit Go.Sx
def KB:Nat:=1099511627776
end Go.Proofs.YtapdglacmebbaaaDoor

namespace Go.Proofs.YtapdglacmebbaaaDoor
noncomputable section
open Go.RowKit Go.Sx
abbrev e8u:El Int:=eInt .u8
abbrev dU64:Dv Int:=dInt .u64
abbrev A21:Type:=Int×Int×Int×Int×Int×Int×Int×Int×Int×Int×Int×Int×Int×Int×Int×Int×Int×Int×Int×Int×Int
def e21:El A21:=.pair e8u (.pair e8u (.pair e8u (.pair e8u (.pair e8u (.pair e8u (.pair e8u (.pair e8u (.pair e8u (.pair e8u (.pair e8u (.pair e8u (.pair e8u (.pair e8u (.pair e8u (.pair e8u (.pair e8u (.pair e8u (.pair e8u (.pair e8u e8u)))))))))))))))))))
abbrev nm_G:Type:=Unit×A21×Int×Int
def nm_LP:LP 1 nm_G:=.pair (.fix 1 4 (.p 0 0)) (.pair (.obj 1 0 132 e21) (.pair (.slot 1 5 dI) (.slot 1 3 dU64)))
def nm_R(_u:Unit)(b:A21)(i:Int)(u:Int):Ex×nm_G:=
 bif IntKind.u64.wrap (u.tdiv (10:Int))==(0:Int)then(Ex.exit (0:Nat),(),(bif decide ((IntKind.i64.wrap (i-(1:Int))).toNat=(0:Nat))then IntKind.u8.wrap (IntKind.u64.wrap ((48:Int)+u.tmod (10:Int)))else b.fst,bif decide ((IntKind.i64.wrap (i-(1:Int))).toNat=(1:Nat))then IntKind.u8.wrap (IntKind.u64.wrap ((48:Int)+u.tmod (10:Int)))else b.snd.fst,bif decide ((IntKind.i64.wrap (i-(1:Int))).toNat=(2:Nat))then IntKind.u8.wrap (IntKind.u64.wrap ((48:Int)+u.tmod (10:Int)))else b.snd.snd.fst,bif decide ((IntKind.i64.wrap (i-(1:Int))).toNat=(3:Nat))then IntKind.u8.wrap (IntKind.u64.wrap ((48:Int)+u.tmod (10:Int)))else b.snd.snd.snd.fst,bif decide ((IntKind.i64.wrap (i-(1:Int))).toNat=(4:Nat))then IntKind.u8.wrap (IntKind.u64.wrap ((48:Int)+u.tmod (10:Int)))else b.snd.snd.snd.snd.fst,bif decide ((IntKind.i64.wrap (i-(1:Int))).toNat=(5:Nat))then IntKind.u8.wrap (IntKind.u64.wrap ((48:Int)+u.tmod (10:Int)))else b.snd.snd.snd.snd.snd.fst,bif decide ((IntKind.i64.wrap (i-(1:Int))).toNat=(6:Nat))then IntKind.u8.wrap (IntKind.u64.wrap ((48:Int)+u.tmod (10:Int)))else b.snd.snd.snd.snd.snd.snd.fst,bif decide ((IntKind.i64.wrap (i-(1:Int))).toNat=(7:Nat))then IntKind.u8.wrap (IntKind.u64.wrap ((48:Int)+u.tmod (10:Int)))else b.snd.snd.snd.snd.snd.snd.snd.fst,bif decide ((IntKind.i64.wrap (i-(1:Int))).toNat=(8:Nat))then IntKind.u8.wrap (IntKind.u64.wrap ((48:Int)+u.tmod (10:Int)))else b.snd.snd.snd.snd.snd.snd.snd.snd.fst,bif decide ((IntKind.i64.wrap (i-(1:Int))).toNat=(9:Nat))then IntKind.u8.wrap (IntKind.u64.wrap ((48:Int)+u.tmod (10:Int)))else b.snd.snd.snd.snd.snd.snd.snd.snd.snd.fst,bif decide ((IntKind.i64.wrap (i-(1:Int))).toNat=(10:Nat))then IntKind.u8.wrap (IntKind.u64.wrap ((48:Int)+u.tmod (10:Int)))else b.snd.snd.snd.snd.snd.snd.snd.snd.snd.snd.fst,bif decide ((IntKind.i64.wrap (i-(1:Int))).toNat=(11:Nat))then IntKind.u8.wrap (IntKind.u64.wrap ((48:Int)+u.tmod (10:Int)))else b.snd.snd.snd.snd.snd.snd.snd.snd.snd.snd.snd.fst,bif decide ((IntKind.i64.wrap (i-(1:Int))).toNat=(12:Nat))then IntKind.u8.wrap (IntKind.u64.wrap ((48:Int)+u.tmod (10:Int)))else b.snd.snd.snd.snd.snd.snd.snd.snd.snd.snd.snd.snd.fst,bif decide ((IntKind.i64.wrap (i-(1:Int))).toNat=(13:Nat))then IntKind.u8.wrap (IntKind.u64.wrap ((48:Int)+u.tmod (10:Int)))else b.snd.snd.snd.snd.snd.snd.snd.snd.snd.snd.snd.snd.snd.fst,bif decide ((IntKind.i64.wrap (i-(1:Int))).toNat=(14:Nat))then IntKind.u8.wrap (IntKind.u64.wrap ((48:Int)+u.tmod (10:Int)))else b.snd.snd.snd.snd.snd.snd.snd.snd.snd.snd.snd.snd.snd.snd.fst,bif decide ((IntKind.i64.wrap (i-(1:Int))).toNat=(15:Nat))then IntKind.u8.wrap (IntKind.u64.wrap ((48:Int)+u.tmod (10:Int)))else b.snd.snd.snd.snd.snd.snd.snd.snd.snd.snd.snd.snd.snd.snd.snd.fst,bif decide ((IntKind.i64.wrap (i-(1:Int))).toNat=(16:Nat))then IntKind.u8.wrap (IntKind.u64.wrap ((48:Int)+u.tmod (10:Int)))else b.snd.snd.snd.snd.snd.snd.snd.snd.snd.snd.snd.snd.snd.snd.snd.snd.fst,bif decide ((IntKind.i64.wrap (i-(1:Int))).toNat=(17:Nat))then IntKind.u8.wrap (IntKind.u64.wrap ((48:Int)+u.tmod (10:Int)))else b.snd.snd.snd.snd.snd.snd.snd.snd.snd.snd.snd.snd.snd.snd.snd.snd.snd.fst,bif decide ((IntKind.i64.wrap (i-(1:Int))).toNat=(18:Nat))then IntKind.u8.wrap (IntKind.u64.wrap ((48:Int)+u.tmod (10:Int)))else b.snd.snd.snd.snd.snd.snd.snd.snd.snd.snd.snd.snd.snd.snd.snd.snd.snd.snd.fst,bif decide ((IntKind.i64.wrap (i-(1:Int))).toNat=(19:Nat))then IntKind.u8.wrap (IntKind.u64.wrap ((48:Int)+u.tmod (10:Int)))else b.snd.snd.snd.snd.snd.snd.snd.snd.snd.snd.snd.snd.snd.snd.snd.snd.snd.snd.snd.fst,bif decide ((IntKind.i64.wrap (i-(1:Int))).toNat=(20:Nat))then IntKind.u8.wrap (IntKind.u64.wrap ((48:Int)+u.tmod (10:Int)))else b.snd.snd.snd.snd.snd.snd.snd.snd.snd.snd.snd.snd.snd.snd.snd.snd.snd.snd.snd.snd),IntKind.i64.wrap (i-(1:Int)),IntKind.u64.wrap (u.tdiv (10:Int)))
 else(Ex.normal,(),(bif decide ((IntKind.i64.wrap (i-(1:Int))).toNat=(0:Nat))then IntKind.u8.wrap (IntKind.u64.wrap ((48:Int)+u.tmod (10:Int)))else b.fst,bif decide ((IntKind.i64.wrap (i-(1:Int))).toNat=(1:Nat))then IntKind.u8.wrap (IntKind.u64.wrap ((48:Int)+u.tmod (10:Int)))else b.snd.fst,bif decide ((IntKind.i64.wrap (i-(1:Int))).toNat=(2:Nat))then IntKind.u8.wrap (IntKind.u64.wrap ((48:Int)+u.tmod (10:Int)))else b.snd.snd.fst,bif decide ((IntKind.i64.wrap (i-(1:Int))).toNat=(3:Nat))then IntKind.u8.wrap (IntKind.u64.wrap ((48:Int)+u.tmod (10:Int)))else b.snd.snd.snd.fst,bif decide ((IntKind.i64.wrap (i-(1:Int))).toNat=(4:Nat))then IntKind.u8.wrap (IntKind.u64.wrap ((48:Int)+u.tmod (10:Int)))else b.snd.snd.snd.snd.fst,bif decide ((IntKind.i64.wrap (i-(1:Int))).toNat=(5:Nat))then IntKind.u8.wrap (IntKind.u64.wrap ((48:Int)+u.tmod (10:Int)))else b.snd.snd.snd.snd.snd.fst,bif decide ((IntKind.i64.wrap (i-(1:Int))).toNat=(6:Nat))then IntKind.u8.wrap (IntKind.u64.wrap ((48:Int)+u.tmod (10:Int)))else b.snd.snd.snd.snd.snd.snd.fst,bif decide ((IntKind.i64.wrap (i-(1:Int))).toNat=(7:Nat))then IntKind.u8.wrap (IntKind.u64.wrap ((48:Int)+u.tmod (10:Int)))else b.snd.snd.snd.snd.snd.snd.snd.fst,bif decide ((IntKind.i64.wrap (i-(1:Int))).toNat=(8:Nat))then IntKind.u8.wrap (IntKind.u64.wrap ((48:Int)+u.tmod (10:Int)))else b.snd.snd.snd.snd.snd.snd.snd.snd.fst,bif decide ((IntKind.i64.wrap (i-(1:Int))).toNat=(9:Nat))then IntKind.u8.wrap (IntKind.u64.wrap ((48:Int)+u.tmod (10:Int)))else b.snd.snd.snd.snd.snd.snd.snd.snd.snd.fst,bif decide ((IntKind.i64.wrap (i-(1:Int))).toNat=(10:Nat))then IntKind.u8.wrap (IntKind.u64.wrap ((48:Int)+u.tmod (10:Int)))else b.snd.snd.snd.snd.snd.snd.snd.snd.snd.snd.fst,bif decide ((IntKind.i64.wrap (i-(1:Int))).toNat=(11:Nat))then IntKind.u8.wrap (IntKind.u64.wrap ((48:Int)+u.tmod (10:Int)))else b.snd.snd.snd.snd.snd.snd.snd.snd.snd.snd.snd.fst,bif decide ((IntKind.i64.wrap (i-(1:Int))).toNat=(12:Nat))then IntKind.u8.wrap (IntKind.u64.wrap ((48:Int)+u.tmod (10:Int)))else b.snd.snd.snd.snd.snd.snd.snd.snd.snd.snd.snd.snd.fst,bif decide ((IntKind.i64.wrap (i-(1:Int))).toNat=(13:Nat))then IntKind.u8.wrap (IntKind.u64.wrap ((48:Int)+u.tmod (10:Int)))else b.snd.snd.snd.snd.snd.snd.snd.snd.snd.snd.snd.snd.snd.fst,bif decide ((IntKind.i64.wrap (i-(1:Int))).toNat=(14:Nat))then IntKind.u8.wrap (IntKind.u64.wrap ((48:Int)+u.tmod (10:Int)))else b.snd.snd.snd.snd.snd.snd.snd.snd.snd.snd.snd.snd.snd.snd.fst,bif decide ((IntKind.i64.wrap (i-(1:Int))).toNat=(15:Nat))then IntKind.u8.wrap (IntKind.u64.wrap ((48:Int)+u.tmod (10:Int)))else b.snd.snd.snd.snd.snd.snd.snd.snd.snd.snd.snd.snd.snd.snd.snd.fst,bif decide ((IntKind.i64.wrap (i-(1:Int))).toNat=(16:Nat))then IntKind.u8.wrap (IntKind.u64.wrap ((48:Int)+u.tmod (10:Int)))else b.snd.snd.snd.snd.snd.snd.snd.snd.snd.snd.snd.snd.snd.snd.snd.snd.fst,bif decide ((IntKind.i64.wrap (i-(1:Int))).toNat=(17:Nat))then IntKind.u8.wrap (IntKind.u64.wrap ((48:Int)+u.tmod (10:Int)))else b.snd.snd.snd.snd.snd.snd.snd.snd.snd.snd.snd.snd.snd.snd.snd.snd.snd.fst,bif decide ((IntKind.i64.wrap (i-(1:Int))).toNat=(18:Nat))then IntKind.u8.wrap (IntKind.u64.wrap ((48:Int)+u.tmod (10:Int)))else b.snd.snd.snd.snd.snd.snd.snd.snd.snd.snd.snd.snd.snd.snd.snd.snd.snd.snd.fst,bif decide ((IntKind.i64.wrap (i-(1:Int))).toNat=(19:Nat))then IntKind.u8.wrap (IntKind.u64.wrap ((48:Int)+u.tmod (10:Int)))else b.snd.snd.snd.snd.snd.snd.snd.snd.snd.snd.snd.snd.snd.snd.snd.snd.snd.snd.snd.fst,bif decide ((IntKind.i64.wrap (i-(1:Int))).toNat=(20:Nat))then IntKind.u8.wrap (IntKind.u64.wrap ((48:Int)+u.tmod (10:Int)))else b.snd.snd.snd.snd.snd.snd.snd.snd.snd.snd.snd.snd.snd.snd.snd.snd.snd.snd.snd.snd),IntKind.i64.wrap (i-(1:Int)),IntKind.u64.wrap (u.tdiv (10:Int)))
def nm_side(_u:Unit)(b:A21)(i:Int)(u:Int):Prop:=
 (10:Int)≠(0:Int)/\((0:Int)<=IntKind.i64.wrap (i-(1:Int))/\IntKind.i64.wrap (i-(1:Int))<(21:Int))/\(IntKind.i64.wrap (i-(1:Int))).toNat<(21:Nat)/\(10:Int)≠(0:Int)
theorem nm_one:((q00 Tryd.prog 75).filter λc=>Nat.beq (lkey c) 6).length=1:=by kernel_rfl
abbrev nm_rr(g:nm_G):Ex×nm_G:=nm_R g.1 g.2.1 g.2.2.1 g.2.2.2
abbrev nm_ss(g:nm_G):Prop:=nm_side g.1 g.2.1 g.2.2.1 g.2.2.2
theorem nm_es(g:nm_G):(nm_rr g).1=.normal\/(nm_rr g).1∈([.exit 0]:List Ex):=by
 unfold nm_rr nm_R
 repeat' (first|(left;rfl)|(right;simp only[cond_true,cond_false];simp;done)|(rw[Bool.cond_eq_ite];split))
abbrev nm_C(Inv:nm_G->List Prop)(m:nm_G->Nat):LCon:=loopR [.exit 0] (loopBody Tryd.prog 75 6) nm_LP [] 33 Inv nm_rr m
theorem nm_loop(Inv:nm_G->List Prop)(m:nm_G->Nat)(hs:∀g,allP (Inv g)->nm_ss g)(hg:Goes nm_rr m λg=>allP (Inv g)):∀b∈q00 Tryd.prog 75,lkey b=6->q04 Tryd.prog b (nm_C Inv m).g:=q0h (Γ:=(PTab.gamz tab0 [] [])) (Λ:=noΛ) (PTab.okz tab0 [] []) q5r 100 75 6 33 nm_LP [] Inv nm_rr nm_ss m default [.exit 0] nm_one (λrd T B HL HB ds g=>by kernel_rfl) (λrd T B HL HB ds g=>by kernel_rfl) hs hg nm_es
abbrev ns_G:Type:=Unit×A21×Int×Int
def ns_LP:LP 1 ns_G:=.pair (.fix 1 4 (.p 0 0)) (.pair (.obj 1 0 132 e21) (.pair (.slot 1 5 dI) (.slot 1 3 dU64)))
def ns_R(_u:Unit)(b:A21)(i:Int)(u:Int):Ex×ns_G:=
 bif IntKind.u64.wrap (u.tdiv (10:Int))==(0:Int)then(Ex.exit (0:Nat),(),(bif decide ((IntKind.i64.wrap (i-(1:Int))).toNat=(0:Nat))then IntKind.u8.wrap (IntKind.u64.wrap ((48:Int)+u.tmod (10:Int)))else b.fst,bif decide ((IntKind.i64.wrap (i-(1:Int))).toNat=(1:Nat))then IntKind.u8.wrap (IntKind.u64.wrap ((48:Int)+u.tmod (10:Int)))else b.snd.fst,bif decide ((IntKind.i64.wrap (i-(1:Int))).toNat=(2:Nat))then IntKind.u8.wrap (IntKind.u64.wrap ((48:Int)+u.tmod (10:Int)))else b.snd.snd.fst,bif decide ((IntKind.i64.wrap (i-(1:Int))).toNat=(3:Nat))then IntKind.u8.wrap (IntKind.u64.wrap ((48:Int)+u.tmod (10:Int)))else b.snd.snd.snd.fst,bif decide ((IntKind.i64.wrap (i-(1:Int))).toNat=(4:Nat))then IntKind.u8.wrap (IntKind.u64.wrap ((48:Int)+u.tmod (10:Int)))else b.snd.snd.snd.snd.fst,bif decide ((IntKind.i64.wrap (i-(1:Int))).toNat=(5:Nat))then IntKind.u8.wrap (IntKind.u64.wrap ((48:Int)+u.tmod (10:Int)))else b.snd.snd.snd.snd.snd.fst,bif decide ((IntKind.i64.wrap (i-(1:Int))).toNat=(6:Nat))then IntKind.u8.wrap (IntKind.u64.wrap ((48:Int)+u.tmod (10:Int)))else b.snd.snd.snd.snd.snd.snd.fst,bif decide ((IntKind.i64.wrap (i-(1:Int))).toNat=(7:Nat))then IntKind.u8.wrap (IntKind.u64.wrap ((48:Int)+u.tmod (10:Int)))else b.snd.snd.snd.snd.snd.snd.snd.fst,bif decide ((IntKind.i64.wrap (i-(1:Int))).toNat=(8:Nat))then IntKind.u8.wrap (IntKind.u64.wrap ((48:Int)+u.tmod (10:Int)))else b.snd.snd.snd.snd.snd.snd.snd.snd.fst,bif decide ((IntKind.i64.wrap (i-(1:Int))).toNat=(9:Nat))then IntKind.u8.wrap (IntKind.u64.wrap ((48:Int)+u.tmod (10:Int)))else b.snd.snd.snd.snd.snd.snd.snd.snd.snd.fst,bif decide ((IntKind.i64.wrap (i-(1:Int))).toNat=(10:Nat))then IntKind.u8.wrap (IntKind.u64.wrap ((48:Int)+u.tmod (10:Int)))else b.snd.snd.snd.snd.snd.snd.snd.snd.snd.snd.fst,bif decide ((IntKind.i64.wrap (i-(1:Int))).toNat=(11:Nat))then IntKind.u8.wrap (IntKind.u64.wrap ((48:Int)+u.tmod (10:Int)))else b.snd.snd.snd.snd.snd.snd.snd.snd.snd.snd.snd.fst,bif decide ((IntKind.i64.wrap (i-(1:Int))).toNat=(12:Nat))then IntKind.u8.wrap (IntKind.u64.wrap ((48:Int)+u.tmod (10:Int)))else b.snd.snd.snd.snd.snd.snd.snd.snd.snd.snd.snd.snd.fst,bif decide ((IntKind.i64.wrap (i-(1:Int))).toNat=(13:Nat))then IntKind.u8.wrap (IntKind.u64.wrap ((48:Int)+u.tmod (10:Int)))else b.snd.snd.snd.snd.snd.snd.snd.snd.snd.snd.snd.snd.snd.fst,bif decide ((IntKind.i64.wrap (i-(1:Int))).toNat=(14:Nat))then IntKind.u8.wrap (IntKind.u64.wrap ((48:Int)+u.tmod (10:Int)))else b.snd.snd.snd.snd.snd.snd.snd.snd.snd.snd.snd.snd.snd.snd.fst,bif decide ((IntKind.i64.wrap (i-(1:Int))).toNat=(15:Nat))then IntKind.u8.wrap (IntKind.u64.wrap ((48:Int)+u.tmod (10:Int)))else b.snd.snd.snd.snd.snd.snd.snd.snd.snd.snd.snd.snd.snd.snd.snd.fst,bif decide ((IntKind.i64.wrap (i-(1:Int))).toNat=(16:Nat))then IntKind.u8.wrap (IntKind.u64.wrap ((48:Int)+u.tmod (10:Int)))else b.snd.snd.snd.snd.snd.snd.snd.snd.snd.snd.snd.snd.snd.snd.snd.snd.fst,bif decide ((IntKind.i64.wrap (i-(1:Int))).toNat=(17:Nat))then IntKind.u8.wrap (IntKind.u64.wrap ((48:Int)+u.tmod (10:Int)))else b.snd.snd.snd.snd.snd.snd.snd.snd.snd.snd.snd.snd.snd.snd.snd.snd.snd.fst,bif decide ((IntKind.i64.wrap (i-(1:Int))).toNat=(18:Nat))then IntKind.u8.wrap (IntKind.u64.wrap ((48:Int)+u.tmod (10:Int)))else b.snd.snd.snd.snd.snd.snd.snd.snd.snd.snd.snd.snd.snd.snd.snd.snd.snd.snd.fst,bif decide ((IntKind.i64.wrap (i-(1:Int))).toNat=(19:Nat))then IntKind.u8.wrap (IntKind.u64.wrap ((48:Int)+u.tmod (10:Int)))else b.snd.snd.snd.snd.snd.snd.snd.snd.snd.snd.snd.snd.snd.snd.snd.snd.snd.snd.snd.fst,bif decide ((IntKind.i64.wrap (i-(1:Int))).toNat=(20:Nat))then IntKind.u8.wrap (IntKind.u64.wrap ((48:Int)+u.tmod (10:Int)))else b.snd.snd.snd.snd.snd.snd.snd.snd.snd.snd.snd.snd.snd.snd.snd.snd.snd.snd.snd.snd),IntKind.i64.wrap (i-(1:Int)),IntKind.u64.wrap (u.tdiv (10:Int)))
 else(Ex.normal,(),(bif decide ((IntKind.i64.wrap (i-(1:Int))).toNat=(0:Nat))then IntKind.u8.wrap (IntKind.u64.wrap ((48:Int)+u.tmod (10:Int)))else b.fst,bif decide ((IntKind.i64.wrap (i-(1:Int))).toNat=(1:Nat))then IntKind.u8.wrap (IntKind.u64.wrap ((48:Int)+u.tmod (10:Int)))else b.snd.fst,bif decide ((IntKind.i64.wrap (i-(1:Int))).toNat=(2:Nat))then IntKind.u8.wrap (IntKind.u64.wrap ((48:Int)+u.tmod (10:Int)))else b.snd.snd.fst,bif decide ((IntKind.i64.wrap (i-(1:Int))).toNat=(3:Nat))then IntKind.u8.wrap (IntKind.u64.wrap ((48:Int)+u.tmod (10:Int)))else b.snd.snd.snd.fst,bif decide ((IntKind.i64.wrap (i-(1:Int))).toNat=(4:Nat))then IntKind.u8.wrap (IntKind.u64.wrap ((48:Int)+u.tmod (10:Int)))else b.snd.snd.snd.snd.fst,bif decide ((IntKind.i64.wrap (i-(1:Int))).toNat=(5:Nat))then IntKind.u8.wrap (IntKind.u64.wrap ((48:Int)+u.tmod (10:Int)))else b.snd.snd.snd.snd.snd.fst,bif decide ((IntKind.i64.wrap (i-(1:Int))).toNat=(6:Nat))then IntKind.u8.wrap (IntKind.u64.wrap ((48:Int)+u.tmod (10:Int)))else b.snd.snd.snd.snd.snd.snd.fst,bif decide ((IntKind.i64.wrap (i-(1:Int))).toNat=(7:Nat))then IntKind.u8.wrap (IntKind.u64.wrap ((48:Int)+u.tmod (10:Int)))else b.snd.snd.snd.snd.snd.snd.snd.fst,bif decide ((IntKind.i64.wrap (i-(1:Int))).toNat=(8:Nat))then IntKind.u8.wrap (IntKind.u64.wrap ((48:Int)+u.tmod (10:Int)))else b.snd.snd.snd.snd.snd.snd.snd.snd.fst,bif decide ((IntKind.i64.wrap (i-(1:Int))).toNat=(9:Nat))then IntKind.u8.wrap (IntKind.u64.wrap ((48:Int)+u.tmod (10:Int)))else b.snd.snd.snd.snd.snd.snd.snd.snd.snd.fst,bif decide ((IntKind.i64.wrap (i-(1:Int))).toNat=(10:Nat))then IntKind.u8.wrap (IntKind.u64.wrap ((48:Int)+u.tmod (10:Int)))else b.snd.snd.snd.snd.snd.snd.snd.snd.snd.snd.fst,bif decide ((IntKind.i64.wrap (i-(1:Int))).toNat=(11:Nat))then IntKind.u8.wrap (IntKind.u64.wrap ((48:Int)+u.tmod (10:Int)))else b.snd.snd.snd.snd.snd.snd.snd.snd.snd.snd.snd.fst,bif decide ((IntKind.i64.wrap (i-(1:Int))).toNat=(12:Nat))then IntKind.u8.wrap (IntKind.u64.wrap ((48:Int)+u.tmod (10:Int)))else b.snd.snd.snd.snd.snd.snd.snd.snd.snd.snd.snd.snd.fst,bif decide ((IntKind.i64.wrap (i-(1:Int))).toNat=(13:Nat))then IntKind.u8.wrap (IntKind.u64.wrap ((48:Int)+u.tmod (10:Int)))else b.snd.snd.snd.snd.snd.snd.snd.snd.snd.snd.snd.snd.snd.fst,bif decide ((IntKind.i64.wrap (i-(1:Int))).toNat=(14:Nat))then IntKind.u8.wrap (IntKind.u64.wrap ((48:Int)+u.tmod (10:Int)))else b.snd.snd.snd.snd.snd.snd.snd.snd.snd.snd.snd.snd.snd.snd.fst,bif decide ((IntKind.i64.wrap (i-(1:Int))).toNat=(15:Nat))then IntKind.u8.wrap (IntKind.u64.wrap ((48:Int)+u.tmod (10:Int)))else b.snd.snd.snd.snd.snd.snd.snd.snd.snd.snd.snd.snd.snd.snd.snd.fst,bif decide ((IntKind.i64.wrap (i-(1:Int))).toNat=(16:Nat))then IntKind.u8.wrap (IntKind.u64.wrap ((48:Int)+u.tmod (10:Int)))else b.snd.snd.snd.snd.snd.snd.snd.snd.snd.snd.snd.snd.snd.snd.snd.snd.fst,bif decide ((IntKind.i64.wrap (i-(1:Int))).toNat=(17:Nat))then IntKind.u8.wrap (IntKind.u64.wrap ((48:Int)+u.tmod (10:Int)))else b.snd.snd.snd.snd.snd.snd.snd.snd.snd.snd.snd.snd.snd.snd.snd.snd.snd.fst,bif decide ((IntKind.i64.wrap (i-(1:Int))).toNat=(18:Nat))then IntKind.u8.wrap (IntKind.u64.wrap ((48:Int)+u.tmod (10:Int)))else b.snd.snd.snd.snd.snd.snd.snd.snd.snd.snd.snd.snd.snd.snd.snd.snd.snd.snd.fst,bif decide ((IntKind.i64.wrap (i-(1:Int))).toNat=(19:Nat))then IntKind.u8.wrap (IntKind.u64.wrap ((48:Int)+u.tmod (10:Int)))else b.snd.snd.snd.snd.snd.snd.snd.snd.snd.snd.snd.snd.snd.snd.snd.snd.snd.snd.snd.fst,bif decide ((IntKind.i64.wrap (i-(1:Int))).toNat=(20:Nat))then IntKind.u8.wrap (IntKind.u64.wrap ((48:Int)+u.tmod (10:Int)))else b.snd.snd.snd.snd.snd.snd.snd.snd.snd.snd.snd.snd.snd.snd.snd.snd.snd.snd.snd.snd),IntKind.i64.wrap (i-(1:Int)),IntKind.u64.wrap (u.tdiv (10:Int)))
def ns_side(_u:Unit)(b:A21)(i:Int)(u:Int):Prop:=
 (10:Int)≠(0:Int)/\((0:Int)<=IntKind.i64.wrap (i-(1:Int))/\IntKind.i64.wrap (i-(1:Int))<(21:Int))/\(IntKind.i64.wrap (i-(1:Int))).toNat<(21:Nat)/\(10:Int)≠(0:Int)
theorem ns_one:((q00 Tryd.prog 47).filter λc=>Nat.beq (lkey c) 6).length=1:=by kernel_rfl
abbrev ns_rr(g:ns_G):Ex×ns_G:=ns_R g.1 g.2.1 g.2.2.1 g.2.2.2
abbrev ns_ss(g:ns_G):Prop:=ns_side g.1 g.2.1 g.2.2.1 g.2.2.2
theorem ns_es(g:ns_G):(ns_rr g).1=.normal\/(ns_rr g).1∈([.exit 0]:List Ex):=by
 unfold ns_rr ns_R
 repeat' (first|(left;rfl)|(right;simp only[cond_true,cond_false];simp;done)|(rw[Bool.cond_eq_ite];split))
abbrev ns_C(Inv:ns_G->List Prop)(m:ns_G->Nat):LCon:=loopR [.exit 0] (loopBody Tryd.prog 47 6) ns_LP [] 33 Inv ns_rr m
theorem ns_loop(Inv:ns_G->List Prop)(m:ns_G->Nat)(hs:∀g,allP (Inv g)->ns_ss g)(hg:Goes ns_rr m λg=>allP (Inv g)):∀b∈q00 Tryd.prog 47,lkey b=6->q04 Tryd.prog b (ns_C Inv m).g:=q0h (Γ:=(PTab.gamz tab0 [] [])) (Λ:=noΛ) (PTab.okz tab0 [] []) q5r 100 47 6 33 ns_LP [] Inv ns_rr ns_ss m default [.exit 0] ns_one (λrd T B HL HB ds g=>by kernel_rfl) (λrd T B HL HB ds g=>by kernel_rfl) hs hg ns_es
abbrev nd_G:Type:=Int×BA
def nd_LP:LP 0 nd_G:=.pair (.slot 0 3 dU64) (.slot 0 4 dStr)
def nd_R(u:Int)(s:BA):Ex×nd_G:=
 bif IntKind.u64.wrap (u.tdiv (10:Int))==(0:Int)then(Ex.exit (0:Nat),IntKind.u64.wrap (u.tdiv (10:Int)),(ByteArray.mk #[(48:UInt8),(49:UInt8),(50:UInt8),(51:UInt8),(52:UInt8),(53:UInt8),(54:UInt8),(55:UInt8),(56:UInt8),(57:UInt8),(97:UInt8),(98:UInt8),(99:UInt8),(100:UInt8),(101:UInt8),(102:UInt8)]).extract (u.tmod (10:Int)).toNat (IntKind.u64.wrap (u.tmod (10:Int)+(1:Int))).toNat++s)
 else(Ex.normal,IntKind.u64.wrap (u.tdiv (10:Int)),(ByteArray.mk #[(48:UInt8),(49:UInt8),(50:UInt8),(51:UInt8),(52:UInt8),(53:UInt8),(54:UInt8),(55:UInt8),(56:UInt8),(57:UInt8),(97:UInt8),(98:UInt8),(99:UInt8),(100:UInt8),(101:UInt8),(102:UInt8)]).extract (u.tmod (10:Int)).toNat (IntKind.u64.wrap (u.tmod (10:Int)+(1:Int))).toNat++s)
def nd_side(u:Int)(s:BA):Prop:=
 (10:Int)≠(0:Int)/\((0:Int)<=IntKind.u64.wrap (u.tmod (10:Int)+(1:Int))/\IntKind.u64.wrap (u.tmod (10:Int)+(1:Int))<=(16:Int))/\((0:Int)<=u.tmod (10:Int)/\u.tmod (10:Int)<=(↑(IntKind.u64.wrap (u.tmod (10:Int)+(1:Int))).toNat:Int))/\((ByteArray.mk #[(48:UInt8),(49:UInt8),(50:UInt8),(51:UInt8),(52:UInt8),(53:UInt8),(54:UInt8),(55:UInt8),(56:UInt8),(57:UInt8),(97:UInt8),(98:UInt8),(99:UInt8),(100:UInt8),(101:UInt8),(102:UInt8)]).extract (u.tmod (10:Int)).toNat (IntKind.u64.wrap (u.tmod (10:Int)+(1:Int))).toNat).size+ByteArray.size s<=(9223372036854775807:Nat)/\(10:Int)≠(0:Int)
theorem nd_one:((q00 Tryd.prog 59).filter λc=>Nat.beq (lkey c) 5).length=1:=by kernel_rfl
abbrev nd_rr(g:nd_G):Ex×nd_G:=nd_R g.1 g.2
abbrev nd_ss(g:nd_G):Prop:=nd_side g.1 g.2
theorem nd_es(g:nd_G):(nd_rr g).1=.normal\/(nd_rr g).1∈([.exit 0]:List Ex):=by
 unfold nd_rr nd_R
 repeat' (first|(left;rfl)|(right;simp only[cond_true,cond_false];simp;done)|(rw[Bool.cond_eq_ite];split))
abbrev nd_C(Inv:nd_G->List Prop)(m:nd_G->Nat):LCon:=loopR [.exit 0] (loopBody Tryd.prog 59 5) nd_LP [] 29 Inv nd_rr m
theorem nd_loop(Inv:nd_G->List Prop)(m:nd_G->Nat)(hs:∀g,allP (Inv g)->nd_ss g)(hg:Goes nd_rr m λg=>allP (Inv g)):∀b∈q00 Tryd.prog 59,lkey b=5->q04 Tryd.prog b (nd_C Inv m).g:=q0h (Γ:=(PTab.gamz tab0 [] [])) (Λ:=noΛ) (PTab.okz tab0 [] []) q5r 100 59 5 29 nd_LP [] Inv nd_rr nd_ss m default [.exit 0] nd_one (λrd T B HL HB ds g=>by kernel_rfl) (λrd T B HL HB ds g=>by kernel_rfl) hs hg nd_es
open Go.RowKit Go.Sx Go.Lp
theorem wrU{x:Int}(h:0<=x/\x<18446744073709551616):IntKind.u64.wrap x=x:=by
 simp[IntKind.wrap,IntKind.signed,IntKind.bits];omega
theorem wrB{x:Int}(h:0<=x/\x<256):IntKind.u8.wrap x=x:=by
 simp[IntKind.wrap,IntKind.signed,IntKind.bits];omega
def put21(b:A21)(k:Nat)(x:Int):A21:=
 (bif decide (k=0)then x else b.1,bif decide (k=1)then x else b.2.1,bif decide (k=2)then x else b.2.2.1,bif decide (k=3)then x else b.2.2.2.1,bif decide (k=4)then x else b.2.2.2.2.1,bif decide (k=5)then x else b.2.2.2.2.2.1,bif decide (k=6)then x else b.2.2.2.2.2.2.1,bif decide (k=7)then x else b.2.2.2.2.2.2.2.1,bif decide (k=8)then x else b.2.2.2.2.2.2.2.2.1,bif decide (k=9)then x else b.2.2.2.2.2.2.2.2.2.1,bif decide (k=10)then x else b.2.2.2.2.2.2.2.2.2.2.1,bif decide (k=11)then x else b.2.2.2.2.2.2.2.2.2.2.2.1,bif decide (k=12)then x else b.2.2.2.2.2.2.2.2.2.2.2.2.1,bif decide (k=13)then x else b.2.2.2.2.2.2.2.2.2.2.2.2.2.1,bif decide (k=14)then x else b.2.2.2.2.2.2.2.2.2.2.2.2.2.2.1,bif decide (k=15)then x else b.2.2.2.2.2.2.2.2.2.2.2.2.2.2.2.1,bif decide (k=16)then x else b.2.2.2.2.2.2.2.2.2.2.2.2.2.2.2.2.1,bif decide (k=17)then x else b.2.2.2.2.2.2.2.2.2.2.2.2.2.2.2.2.2.1,bif decide (k=18)then x else b.2.2.2.2.2.2.2.2.2.2.2.2.2.2.2.2.2.2.1,bif decide (k=19)then x else b.2.2.2.2.2.2.2.2.2.2.2.2.2.2.2.2.2.2.2.1,bif decide (k=20)then x else b.2.2.2.2.2.2.2.2.2.2.2.2.2.2.2.2.2.2.2.2)
def t21(b:A21):List Int:=[b.1,b.2.1,b.2.2.1,b.2.2.2.1,b.2.2.2.2.1,b.2.2.2.2.2.1,b.2.2.2.2.2.2.1,b.2.2.2.2.2.2.2.1,b.2.2.2.2.2.2.2.2.1,b.2.2.2.2.2.2.2.2.2.1,b.2.2.2.2.2.2.2.2.2.2.1,b.2.2.2.2.2.2.2.2.2.2.2.1,b.2.2.2.2.2.2.2.2.2.2.2.2.1,b.2.2.2.2.2.2.2.2.2.2.2.2.2.1,b.2.2.2.2.2.2.2.2.2.2.2.2.2.2.1,b.2.2.2.2.2.2.2.2.2.2.2.2.2.2.2.1,b.2.2.2.2.2.2.2.2.2.2.2.2.2.2.2.2.1,b.2.2.2.2.2.2.2.2.2.2.2.2.2.2.2.2.2.1,b.2.2.2.2.2.2.2.2.2.2.2.2.2.2.2.2.2.2.1,b.2.2.2.2.2.2.2.2.2.2.2.2.2.2.2.2.2.2.2.1,b.2.2.2.2.2.2.2.2.2.2.2.2.2.2.2.2.2.2.2.2]
theorem t21_put(b:A21)(k:Nat)(x:Int)(h:k<21):t21 (put21 b k x)=(t21 b).set k x:=by
 match k with
 |0=>rfl|1=>rfl|2=>rfl|3=>rfl|4=>rfl|5=>rfl|6=>rfl|7=>rfl|8=>rfl|9=>rfl|10=>rfl|11=>rfl|12=>rfl|13=>rfl|14=>rfl|15=>rfl|16=>rfl|17=>rfl|18=>rfl|19=>rfl|20=>rfl
 |k+21=>omega
theorem t21_drop(b:A21)(k:Nat)(x:Int)(h:k<21):(t21 (put21 b k x)).drop k=x::(t21 b).drop (k+1):=by
 rw[t21_put b k x h];have hl:k<((t21 b).set k x).length:=by rw[List.length_set];exact h
 rw[List.drop_eq_getElem_cons hl,List.getElem_set_self,List.drop_set_of_lt (by omega)]
def nm_P(u i:Int):Prop:=(0<=u/\u<18446744073709551616)/\(1<=i/\i<=21)/\u<10^i.toNat
abbrev nm_I(g:nm_G):List Prop:=[nm_P g.2.2.2 g.2.2.1]
abbrev nm_M(g:nm_G):Nat:=g.2.2.1.toNat
abbrev nm_RR(g:nm_G):Ex×nm_G:=nm_R g.1 g.2.1 g.2.2.1 g.2.2.2
theorem nm_RF(b:A21)(i u:Int)(h:nm_P u i):nm_R () b i u=(if u/10=0 then .exit 0 else .normal,(),put21 b (i-1).toNat (48+u%10),i-1,u/10):=by
 obtain⟨⟨h1,h2⟩,⟨h3,h4⟩,_⟩:=h;unfold nm_R;rw[Int.tdiv_eq_ediv_of_nonneg h1,Int.tmod_eq_emod_of_nonneg h1,wrU (x:=u/10) (by omega),wrU (x:=48+u%10) (by omega),wrB (by omega),wr64 (by omega)];by_cases hz:u/10=0
 .rw[if_pos hz,hz];rfl
 .rw[if_neg hz,beq_eq_false_iff_ne.2 hz];rfl
theorem pow_pred{u:Int}{i:Nat}(h:u<(10:Int)^(i+1)):u/10<10^i:=by
 have hp:(10:Int)^(i+1)=10^i*10:=Int.pow_succ ..;omega
theorem nm_step{u i:Int}(h:nm_P u i)(hz:u/10≠0):nm_P (u/10) (i-1):=by
 obtain⟨⟨h1,h2⟩,⟨h3,h4⟩,h5⟩:=h;obtain⟨k,hk⟩:∃k:Nat,i=k+1:=⟨(i-1).toNat,by omega⟩;subst hk;have e1:((k:Int)+1).toNat=k+1:=by omega
 have e2:((k:Int)+1-1).toNat=k:=by omega
 rw[e1]at h5;have h6:=pow_pred h5;refine⟨⟨by omega,by omega⟩,⟨?_,by omega⟩,by rw[e2];exact h6⟩;rcases Nat.eq_zero_or_pos k with rfl|hk
 .have:(10:Int)^0=1:=rfl;omega
 .omega
theorem nm_goes:Goes nm_RR nm_M λg=>allP (nm_I g):=by
 rintro⟨⟨⟩,b,i,u⟩ hi hn;have h:nm_P u i:=hi _ (List.mem_cons_self ..);have e:nm_RR ((),b,i,u)=_:=nm_RF b i u h;rw[e]at hn ⊢
 have hz:u/10≠0:=λhz=>by
  simp only[hz,if_true]at hn;cases hn
 have h':=nm_step h hz;refine⟨λp hp=>?_,?_⟩
 .rw[List.mem_singleton.1 hp];exact h'
 .show(i-1).toNat<i.toNat;have:=h.2.1;omega
theorem nm_ok:∀b∈q00 Tryd.prog 75,lkey b=6->q04 Tryd.prog b (nm_C nm_I nm_M).g:=by
 refine nm_loop nm_I nm_M (λg hi=>?_) nm_goes;obtain⟨⟨⟩,b,i,u⟩:=g;have h:nm_P u i:=hi _ (List.mem_cons_self ..);obtain⟨⟨h1,h2⟩,⟨h3,h4⟩,_⟩:=h;show nm_side () b i u;unfold nm_side;rw[wr64 (by omega)];exact⟨by decide,⟨by omega,by omega⟩,by omega,by decide⟩
theorem ns_ok:∀b∈q00 Tryd.prog 47,lkey b=6->q04 Tryd.prog b (ns_C nm_I nm_M).g:=by
 refine ns_loop nm_I nm_M (λg hi=>?_) nm_goes;obtain⟨⟨⟩,b,i,u⟩:=g;have h:nm_P u i:=hi _ (List.mem_cons_self ..);obtain⟨⟨h1,h2⟩,⟨h3,h4⟩,_⟩:=h;show ns_side () b i u;unfold ns_side;rw[wr64 (by omega)];exact⟨by decide,⟨by omega,by omega⟩,by omega,by decide⟩
theorem nm_run(b:A21)(i u:Int)(h:nm_P u i):(loopF nm_RR nm_M ((),b,i,u)).1=.exit 0/\∃i':Nat,(loopF nm_RR nm_M ((),b,i,u)).2.2.2.1=(i':Int)/\i'+(dgt i.toNat u).length=i.toNat/\(t21 (loopF nm_RR nm_M ((),b,i,u)).2.2.1).drop i'=dgt i.toNat u++(t21 b).drop i.toNat:=by
 have key:=q1m nm_goes (Q:=λg r=>r.1=.exit 0/\∃i':Nat,r.2.2.2.1=(i':Int)/\i'+(dgt g.2.2.1.toNat g.2.2.2).length=g.2.2.1.toNat/\(t21 r.2.2.1).drop i'=dgt g.2.2.1.toNat g.2.2.2++(t21 g.2.1).drop g.2.2.1.toNat) ?_ ?_ ((),b,i,u) (λp hp=>by rw[List.mem_singleton.1 hp];exact h)
 .exact key
 .rintro⟨⟨⟩,b,i,u⟩ hi hn;have h:nm_P u i:=hi _ (List.mem_cons_self ..);have e:nm_RR ((),b,i,u)=_:=nm_RF b i u h;rw[e]at hn ⊢;obtain⟨k,hk⟩:∃k:Nat,i=k+1:=⟨(i-1).toNat,by have:=h.2.1;omega⟩;subst hk;have e1:((k:Int)+1).toNat=k+1:=by omega
  have e2:((k:Int)+1-1).toNat=k:=by omega
  by_cases hz:u/10=0
  .simp only[hz,if_true,e1,e2];refine⟨trivial,k,by omega,?_,?_⟩
   .unfold dgt;rw[if_pos hz];rfl
   .rw[t21_drop _ _ _ (by have:=h.2.1;omega)];unfold dgt;rw[if_pos hz];rfl
  .simp only[hz,if_false]at hn;exact absurd rfl hn
 .rintro⟨⟨⟩,b,i,u⟩ g' r hi he _ _ hq;have h:nm_P u i:=hi _ (List.mem_cons_self ..);have e:nm_RR ((),b,i,u)=_:=nm_RF b i u h;rw[e]at he;obtain⟨k,hk⟩:∃k:Nat,i=k+1:=⟨(i-1).toNat,by have:=h.2.1;omega⟩;subst hk;have e1:((k:Int)+1).toNat=k+1:=by omega
  have e2:((k:Int)+1-1).toNat=k:=by omega
  by_cases hz:u/10=0
  .simp only[hz,if_true,Prod.mk.injEq]at he;cases he.1
  .simp only[hz,if_false,Prod.mk.injEq,true_and]at he;subst he;simp only[e1,e2]at hq ⊢;obtain⟨q1,i',q2,q3,q4⟩:=hq;refine⟨q1,i',q2,?_,?_⟩
   .conv=>lhs;unfold dgt
    rw[if_neg hz,List.length_append];simp only[List.length_cons,List.length_nil];omega
   .rw[q4,t21_drop _ _ _ (by have:=h.2.1;omega)]
    conv=>rhs;unfold dgt
    rw[if_neg hz,List.append_assoc];rfl
def nd_P(u:Int)(s:BA):Prop:=(0<=u/\u<18446744073709551616)/\∃j:Nat,1<=j/\u<10^j/\s.size+j<=20
abbrev nd_I(g:nd_G):List Prop:=[nd_P g.1 g.2]
abbrev nd_M(g:nd_G):Nat:=g.1.toNat
abbrev nd_RR(g:nd_G):Ex×nd_G:=nd_R g.1 g.2
theorem dgi{u:Int}(h1:0<=u)(h2:u<18446744073709551616):(ByteArray.mk #[(48:UInt8),(49:UInt8),(50:UInt8),(51:UInt8),(52:UInt8),(53:UInt8),(54:UInt8),(55:UInt8),(56:UInt8),(57:UInt8),(97:UInt8),(98:UInt8),(99:UInt8),(100:UInt8),(101:UInt8),(102:UInt8)]).extract (u.tmod (10:Int)).toNat (IntKind.u64.wrap (u.tmod (10:Int)+(1:Int))).toNat=strOf [48+u%10]:=by
 rw[Int.tmod_eq_emod_of_nonneg h1,wrU (by omega)];obtain⟨k,hk⟩:∃k:Nat,u%10=k:=⟨(u%10).toNat,by omega⟩;rw[hk];have:=dg16 k (by omega);rw[show((k:Int)).toNat=k from rfl,show((k:Int)+1).toNat=k+1 by omega,this];unfold hexD;rw[if_pos (by omega)]
theorem nd_RF(u:Int)(s:BA)(h:nd_P u s):nd_R u s=(if u/10=0 then .exit 0 else .normal,u/10,strOf [48+u%10]++s):=by
 obtain⟨⟨h1,h2⟩,_⟩:=h;unfold nd_R;rw[dgi h1 h2,Int.tdiv_eq_ediv_of_nonneg h1,wrU (x:=u/10) (by omega)];by_cases hz:u/10=0
 .rw[if_pos hz,hz];rfl
 .rw[if_neg hz,beq_eq_false_iff_ne.2 hz];rfl
theorem nd_goes:Goes nd_RR nd_M λg=>allP (nd_I g):=by
 rintro⟨u,s⟩ hi hn;have h:nd_P u s:=hi _ (List.mem_cons_self ..);have e:nd_RR (u,s)=_:=nd_RF u s h;rw[e]at hn ⊢
 have hz:u/10≠0:=λhz=>by
  simp only[hz,if_true]at hn;cases hn
 obtain⟨⟨h1,h2⟩,j,h3,h4,h5⟩:=h;refine⟨λp hp=>?_,?_⟩
 .rw[List.mem_singleton.1 hp];obtain⟨i,rfl⟩:∃i,j=i+1:=⟨j-1,by omega⟩;have h6:=pow_pred h4;refine⟨⟨by show 0<=u/10;omega,by show u/10<_;omega⟩,i,?_,h6,?_⟩
  .rcases Nat.eq_zero_or_pos i with rfl|hk
   .have:(10:Int)^0=1:=rfl;omega
   .omega
  .show(strOf [48+u%10]++s).size+i<=20;rw[ByteArray.size_append,q1b];simp only[List.length_cons,List.length_nil];omega
 .show(u/10).toNat<u.toNat;omega
theorem nd_ok:∀b∈q00 Tryd.prog 59,lkey b=5->q04 Tryd.prog b (nd_C nd_I nd_M).g:=by
 refine nd_loop nd_I nd_M (λg hi=>?_) nd_goes;obtain⟨u,s⟩:=g;have h:nd_P u s:=hi _ (List.mem_cons_self ..);obtain⟨⟨h1,h2⟩,j,h3,h4,h5⟩:=h;show nd_side u s;unfold nd_side;rw[dgi h1 h2,Int.tmod_eq_emod_of_nonneg h1,wrU (by omega),q1b];simp only[List.length_cons,List.length_nil];refine⟨by decide,⟨by omega,by omega⟩,⟨by omega,by omega⟩,by omega,by decide⟩
theorem nd_run(u:Int)(h1:0<=u)(h2:u<10000000000000000000)(l:List Int)(h3:l.length=0):(loopF nd_RR nd_M (u,strOf l)).1=.exit 0/\(loopF nd_RR nd_M (u,strOf l)).2.2=strOf (dgt 20 u++l):=by
 have hP:nd_P u (strOf l):=⟨⟨h1,by omega⟩,20,by decide,by
  have:(10:Int)^20=100000000000000000000:=by decide
  omega,by
  rw[q1b];omega⟩
 have key:=q1m nd_goes (Q:=λg r=>r.1=.exit 0/\∀k,g.1<10^k->r.2.2=strOf (dgt (k+1) g.1)++g.2) ?_ ?_ (u,strOf l) (λp hp=>by rw[List.mem_singleton.1 hp];exact hP)
 .refine⟨key.1,?_⟩;have h19:(10:Int)^19=10000000000000000000:=by decide
  rw[key.2 19 (by rw[h19];exact h2)];exact q2l _ _
 .rintro⟨u,s⟩ hi hn;have h:nd_P u s:=hi _ (List.mem_cons_self ..);have e:nd_RR (u,s)=_:=nd_RF u s h;rw[e]at hn ⊢;by_cases hz:u/10=0
  .simp only[hz,if_true];refine⟨trivial,λk _=>?_⟩;unfold dgt;rw[if_pos hz];rfl
  .simp only[hz,if_false]at hn;exact absurd rfl hn
 .rintro⟨u,s⟩ g' r hi he _ _ hq;have h:nd_P u s:=hi _ (List.mem_cons_self ..);have e:nd_RR (u,s)=_:=nd_RF u s h;rw[e]at he;by_cases hz:u/10=0
  .simp only[hz,if_true,Prod.mk.injEq]at he;cases he.1
  .simp only[hz,if_false,Prod.mk.injEq,true_and]at he;subst he;refine⟨hq.1,λk hk=>?_⟩;have hk':u<(10:Int)^k:=hk
   obtain⟨j,rfl⟩:∃j,k=j+1:=⟨k-1,by
    rcases Nat.eq_zero_or_pos k with rfl|h0
    .have:(10:Int)^0=1:=rfl;have:=h.1.1;omega
    .omega⟩
   have hq2:=hq.2 j (pow_pred hk');rw[hq2];show strOf (dgt (j+1) (u/10))++(strOf [48+u%10]++s)=strOf (dgt (j+1+1) u)++s
   conv=>rhs;unfold dgt
   rw[if_neg hz,<-q2l,ByteArray.append_assoc]
def ltN4:LTab Tryd.prog:=((LTab.nil.cons 75 6 (nm_C nm_I nm_M) nm_ok).cons 47 6 (ns_C nm_I nm_M) ns_ok).cons 59 5 (nd_C nd_I nd_M) nd_ok
abbrev lamN4:Lam:=ltN4.lam
theorem lamN4_ok:∀f k L,lamN4 f k=some L->∀b∈q00 Tryd.prog f,lkey b=k->q04 Tryd.prog b L.g:=ltN4.ok
def nuB_q1(n:Int):Ex×
 nd_G:=
 loopF (λg=>nd_R g.fst g.snd) nd_M (bif decide (n<(0:Int))then IntKind.u64.wrap ((0:Int)-IntKind.u64.wrap n)else IntKind.u64.wrap n,ByteArray.mk #[])
def nuB_F(n:Int):Dv.T dStr:=
 bif decide (n<(0:Int))then ByteArray.mk #[(45:UInt8)]++(nuB_q1 n).snd.snd else(nuB_q1 n).snd.snd
def nuB_side(n:Int):Prop:=
 nd_P (bif decide (n<(0:Int))then IntKind.u64.wrap ((0:Int)-IntKind.u64.wrap n)else IntKind.u64.wrap n) (ByteArray.mk #[])/\(decide (n<(0:Int))=true->(1:Nat)+ByteArray.size (nuB_q1 n).snd.snd<=(9223372036854775807:Nat))
theorem nuB_okS(pre:DA.T aI->List Prop)(h:∀g,DA.bd aI g->(∀p∈pre g,p)->nuB_side g):FnPure Tryd.prog 59 aI dStr (λg=>nuB_F g) pre:=q05 (Γ:=(PTab.gamz tab0 [] [])) (Λ:=lamN4) (PTab.okz tab0 [] []) lamN4_ok 100 default (λg=>nuB_side g) (λg=>by kernel_rfl) (λg=>by kernel_rfl) h
abbrev z21:A21:=((0:Int),(0:Int),(0:Int),(0:Int),(0:Int),(0:Int),(0:Int),(0:Int),(0:Int),(0:Int),(0:Int),(0:Int),(0:Int),(0:Int),(0:Int),(0:Int),(0:Int),(0:Int),(0:Int),(0:Int),(0:Int))
def q3o(n:Int):Ex×nm_G:=
 loopF (λg=>nm_R g.fst g.snd.fst g.snd.snd.fst g.snd.snd.snd) nm_M
  ((),z21,
    (21:Int),bif decide (n<(0:Int))then IntKind.u64.wrap ((0:Int)-IntKind.u64.wrap n)else IntKind.u64.wrap n)
def zipC(z:Bool):List Int->List Int->List Int
 |x::xs,y::ys=>(bif z then x else y)::zipC z xs ys
 |_,_=>[]
theorem zipC_eq(z:Bool):∀{a b:List Int},a.length=b.length->zipC z a b=bif z then a else b
 | [],[],_=>by cases z<;>rfl
 |x::a,y::b,h=>by
  unfold zipC;rw[zipC_eq z (by simpa using h)];cases z<;>rfl
 | [],_::_,h=>by simp at h
 |_::_,[],h=>by simp at h
def pickF(i:Int)(cs:List Int):Nat->BA
 |0=>default
 |k+1=>bif decide (i=(k:Int))then strOf (cs.drop k)else pickF i cs k
def pickS(i:Int):Nat->Prop
 |0=>False
 |k+1=>(decide (i=(k:Int))=true->True)/\(decide (i=(k:Int))=false->pickS i k)
theorem pick_at(i:Nat)(cs:List Int):∀k,i<k->pickF (i:Int) cs k=strOf (cs.drop i)/\pickS (i:Int) k
 |0,h=>by omega
 |k+1,h=>by
  unfold pickF pickS;by_cases he:i=k
  .subst he;rw[decide_eq_true rfl];exact⟨rfl,⟨λ_=>trivial,λh=>(by cases h)⟩⟩
  .rw[decide_eq_false (by omega)];obtain⟨h1,h2⟩:=pick_at i cs k (by omega);exact⟨h1,⟨λ_=>trivial,λ_=>h2⟩⟩
def nuA_F(n:Int):Dv.T dStr:=
 pickF (bif decide (n<(0:Int))then IntKind.i64.wrap ((q3o n).snd.snd.snd.fst-(1:Int))else(q3o n).snd.snd.snd.fst)
  (zipC (decide (n<(0:Int))) (t21 (put21 (q3o n).snd.snd.fst (IntKind.i64.wrap ((q3o n).snd.snd.snd.fst-(1:Int))).toNat (45:Int))) (t21 (q3o n).snd.snd.fst)) 22
def q7t(n:Int):Prop:=
 nm_P (bif decide (n<(0:Int))then IntKind.u64.wrap ((0:Int)-IntKind.u64.wrap n)else IntKind.u64.wrap n) (21:Int)/\
  (decide (n<(0:Int))=true->(0:Int)<=IntKind.i64.wrap ((q3o n).snd.snd.snd.fst-(1:Int))/\IntKind.i64.wrap ((q3o n).snd.snd.snd.fst-(1:Int))<(21:Int))/\
   (decide (n<(0:Int))=true->(IntKind.i64.wrap ((q3o n).snd.snd.snd.fst-(1:Int))).toNat<(21:Nat))/\
    pickS (bif decide (n<(0:Int))then IntKind.i64.wrap ((q3o n).snd.snd.snd.fst-(1:Int))else(q3o n).snd.snd.snd.fst) 22
theorem nuA_okS(pre:DA.T aI->List Prop)(h:∀g,DA.bd aI g->(∀p∈pre g,p)->q7t g):FnPure Tryd.prog 75 aI dStr (λg=>nuA_F g) pre:=q05 (Γ:=(PTab.gamz tab0 [] [])) (Λ:=lamN4) (PTab.okz tab0 [] []) lamN4_ok 100 default (λg=>q7t g) (λg=>by kernel_rfl) (λg=>by kernel_rfl) h
theorem nuS_okS(pre:DA.T aI->List Prop)(h:∀g,DA.bd aI g->(∀p∈pre g,p)->q7t g):FnPure Tryd.prog 47 aI dStr (λg=>nuA_F g) pre:=q05 (Γ:=(PTab.gamz tab0 [] [])) (Λ:=lamN4) (PTab.okz tab0 [] []) lamN4_ok 100 default (λg=>q7t g) (λg=>by kernel_rfl) (λg=>by kernel_rfl) h
def i64(n:Int):Prop:=-9223372036854775808<=n/\n<=9223372036854775807
def numS(n:Int):BA:=strOf (numL n)
def absI(n:Int):Int:=if n<0 then -n else n
theorem abs_u{n:Int}(h:i64 n):(bif decide (n<(0:Int))then IntKind.u64.wrap ((0:Int)-IntKind.u64.wrap n)else IntKind.u64.wrap n)=absI n:=by
 obtain⟨h1,h2⟩:=h;unfold absI;by_cases hn:n<0
 .rw[decide_eq_true hn,if_pos hn,cond_true];simp[IntKind.wrap,IntKind.signed,IntKind.bits];omega
 .rw[decide_eq_false hn,if_neg hn,cond_false];exact wrU (by omega)
theorem p10_19:(10:Int)^19=10000000000000000000:=by decide
theorem p10_21:(10:Int)^21=1000000000000000000000:=by decide
theorem abs_b{n:Int}(h:i64 n):0<=absI n/\absI n<=9223372036854775808:=by
 obtain⟨h1,h2⟩:=h;unfold absI;split<;>omega
theorem nuA_eq{n:Int}(h:i64 n):q7t n/\nuA_F n=numS n:=by
 have hu:=abs_u h;obtain⟨hb1,hb2⟩:=abs_b h;have hP:nm_P (absI n) 21:=⟨⟨hb1,by omega⟩,⟨by decide,by decide⟩,by show absI n<10^21;rw[p10_21];omega⟩
 have hq:q3o n=loopF nm_RR nm_M ((),z21,21,absI n):=by
  unfold q3o;rw[hu]
 obtain⟨_,i',h2,h3,h4⟩:=nm_run z21 _ _ hP;rw[<-hq]at h2 h4;have e21:(21:Int).toNat=21:=rfl;rw[e21]at h3 h4;have hd:dgt 21 (absI n)=dgt 20 (absI n):=dgt_more 19 1 (absI n) hb1 (by rw[p10_19];omega);have hl1:=q8r 20 19 (absI n) hb1 (by rw[p10_19];omega) (by decide);have hl2:=dgt_pos 19 (absI n);rw[hd]at h3 h4
 have h4:(t21 (q3o n).2.2.1).drop i'=dgt 20 (absI n):=by
  rw[h4];show _++[]=_;rw[List.append_nil]
 have hlen:(t21 (put21 (q3o n).2.2.1 (IntKind.i64.wrap ((q3o n).2.2.2.1-1)).toNat 45)).length=(t21 (q3o n).2.2.1).length:=rfl;unfold q7t nuA_F numS numL;rw[hu,zipC_eq _ hlen,h2];have hw:IntKind.i64.wrap ((i':Int)-1)=(i':Int)-1:=wr64 (by omega);rw[hw];by_cases hn:n<0
 .rw[decide_eq_true hn,if_pos hn];simp only[cond_true,forall_const];obtain⟨k,rfl⟩:∃k,i'=k+1:=⟨i'-1,by omega⟩;have e1:((k+1:Nat):Int)-1=(k:Int):=by omega
  rw[e1];have e2:(k:Int).toNat=k:=rfl;rw[e2];obtain⟨p1,p2⟩:=pick_at k (t21 (put21 (q3o n).2.2.1 k 45)) 22 (by omega);refine⟨⟨hP,⟨by omega,by omega⟩,by omega,p2⟩,?_⟩;rw[p1,t21_drop _ _ _ (by omega),h4];have ea:absI n=-n:=by unfold absI;rw[if_pos hn]
  rw[ea,if_pos hn];rfl
 .rw[decide_eq_false hn,if_neg hn];simp only[cond_false];obtain⟨p1,p2⟩:=pick_at i' (t21 (q3o n).2.2.1) 22 (by omega);refine⟨⟨hP,λh=>(by cases h),λh=>(by cases h),p2⟩,?_⟩;rw[p1,h4];have ea:absI n=n:=by unfold absI;rw[if_neg hn]
  rw[ea,if_neg hn];rfl
theorem nuA_ok:FnPure Tryd.prog 75 aI dStr numS (λn=>[i64 n]):=
 q0d (nuA_okS _ λn _ hp=>(nuA_eq (hp _ (List.mem_cons_self ..))).1) λn _ hp=>(nuA_eq (hp _ (List.mem_cons_self ..))).2
theorem nuS_ok:FnPure Tryd.prog 47 aI dStr numS (λn=>[i64 n]):=
 q0d (nuS_okS _ λn _ hp=>(nuA_eq (hp _ (List.mem_cons_self ..))).1) λn _ hp=>(nuA_eq (hp _ (List.mem_cons_self ..))).2
theorem nuB_eq{n:Int}(h:i64 n):nuB_side n/\nuB_F n=numS n:=by
 have hu:=abs_u h;obtain⟨hb1,hb2⟩:=abs_b h;obtain⟨h1,h2⟩:=nd_run (absI n) hb1 (by omega) [] rfl;have h0:strOf []=ByteArray.mk #[]:=rfl
 have hq:nuB_q1 n=loopF nd_RR nd_M (absI n,strOf []):=by
  unfold nuB_q1;rw[hu];rfl
 rw[<-hq,List.append_nil]at h2;have hl1:=q8r 20 19 (absI n) hb1 (by rw[p10_19];omega) (by decide);unfold nuB_side nuB_F numS numL;rw[hu,h2,q1b];refine⟨⟨⟨⟨hb1,by omega⟩,20,by decide,by have:(10:Int)^20=100000000000000000000:=(by decide);omega,by decide⟩,λ_=>by omega⟩,?_⟩;by_cases hn:n<0
 .rw[decide_eq_true hn,if_pos hn,if_pos hn];have ea:absI n=-n:=by unfold absI;rw[if_pos hn]
  rw[ea,cond_true];exact strOf_cons 45 _
 .rw[decide_eq_false hn,if_neg hn,if_neg hn];have ea:absI n=n:=by unfold absI;rw[if_neg hn]
  rw[ea];rfl
theorem nuB_ok:FnPure Tryd.prog 59 aI dStr numS (λn=>[i64 n]):=
 q0d (nuB_okS _ λn _ hp=>(nuB_eq (hp _ (List.mem_cons_self ..))).1) λn _ hp=>(nuB_eq (hp _ (List.mem_cons_self ..))).2
def tabN6:PTab Tryd.prog:=((tab0.cons 47 (pconP aI dStr numS (λn=>[i64 n])) (q0o nuS_ok puS)).cons 59 (pconP aI dStr numS (λn=>[i64 n])) (q0o nuB_ok puS)).cons 75 (pconP aI dStr numS (λn=>[i64 n])) (q0o nuA_ok puS)
def sn_F(n:Int):Dv.T dStr:=
 numS n
def sn_side(n:Int):Prop:=
 i64 n
theorem sn_okS(pre:DA.T aI->List Prop)(h:∀g,DA.bd aI g->(∀p∈pre g,p)->sn_side g):FnPure Tryd.prog 37 aI dStr (λg=>sn_F g) pre:=q05 (Γ:=(PTab.gamz tabN6 [] [])) (Λ:=noΛ) (PTab.okz tabN6 [] []) q5r 100 default (λg=>sn_side g) (λg=>by kernel_rfl) (λg=>by kernel_rfl) h
def rn_F(n:Int):Dv.T dStr:=
 numS n
def rn_side(n:Int):Prop:=
 i64 n
theorem rn_okS(pre:DA.T aI->List Prop)(h:∀g,DA.bd aI g->(∀p∈pre g,p)->rn_side g):FnPure Tryd.prog 29 aI dStr (λg=>rn_F g) pre:=q05 (Γ:=(PTab.gamz tabN6 [] [])) (Λ:=noΛ) (PTab.okz tabN6 [] []) q5r 100 default (λg=>rn_side g) (λg=>by kernel_rfl) (λg=>by kernel_rfl) h
theorem sn_ok:FnPure Tryd.prog 37 aI dStr numS (λn=>[i64 n]):=sn_okS (λn=>[i64 n]) λn _ hp=>hp _ (List.mem_cons_self ..)
theorem rn_ok:FnPure Tryd.prog 29 aI dStr numS (λn=>[i64 n]):=rn_okS (λn=>[i64 n]) λn _ hp=>hp _ (List.mem_cons_self ..)
def tabN8:PTab Tryd.prog:=(tabN6.cons 37 (pconP aI dStr numS (λn=>[i64 n])) (q0o sn_ok puS)).cons 29 (pconP aI dStr numS (λn=>[i64 n])) (q0o rn_ok puS)
abbrev stx_G:Type:=BA×Int×Int×List Int
def stx_LP:LP 0 stx_G:=.pair (.slot 0 0 dStr) (.pair (.slot 0 12 dI) (.pair (.slot 0 13 dI) (.row 0 3 5 e8u)))
def stx_R(s:BA)(n:Int)(i:Int)(b:List Int):Ex×stx_G:=
 bif decide (i<n)then(Ex.normal,s,n,IntKind.i64.wrap (i+(1:Int)),bif decide ((↑(ByteArray.get! s i.toNat).toNat:Int)>(32:Int))&&(decide ((↑(ByteArray.get! s i.toNat).toNat:Int)<(127:Int))&&((↑(ByteArray.get! s i.toNat).toNat:Int)!=(37:Int)&&((↑(ByteArray.get! s i.toNat).toNat:Int)!=(44:Int)&&(↑(ByteArray.get! s i.toNat).toNat:Int)!=(59:Int))))then e8u.lst (min (bif decide ((↑(ByteArray.get! s i.toNat).toNat:Int)>(32:Int))&&(decide ((↑(ByteArray.get! s i.toNat).toNat:Int)<(127:Int))&&((↑(ByteArray.get! s i.toNat).toNat:Int)!=(37:Int)&&((↑(ByteArray.get! s i.toNat).toNat:Int)!=(44:Int)&&(↑(ByteArray.get! s i.toNat).toNat:Int)!=(59:Int))))then b.length+(1:Nat)else b.length+(3:Nat)) b.length) (e8u.els b)++List.map (λx=>(↑(ByteArray.get! s i.toNat).toNat:Int)) (List.range ((bif decide ((↑(ByteArray.get! s i.toNat).toNat:Int)>(32:Int))&&(decide ((↑(ByteArray.get! s i.toNat).toNat:Int)<(127:Int))&&((↑(ByteArray.get! s i.toNat).toNat:Int)!=(37:Int)&&((↑(ByteArray.get! s i.toNat).toNat:Int)!=(44:Int)&&(↑(ByteArray.get! s i.toNat).toNat:Int)!=(59:Int))))then b.length+(1:Nat)else b.length+(3:Nat))-b.length))else e8u.lst (min (bif decide ((↑(ByteArray.get! s i.toNat).toNat:Int)>(32:Int))&&(decide ((↑(ByteArray.get! s i.toNat).toNat:Int)<(127:Int))&&((↑(ByteArray.get! s i.toNat).toNat:Int)!=(37:Int)&&((↑(ByteArray.get! s i.toNat).toNat:Int)!=(44:Int)&&(↑(ByteArray.get! s i.toNat).toNat:Int)!=(59:Int))))then b.length+(1:Nat)else b.length+(3:Nat)) b.length) (e8u.els b)++(List.map (λx=>(37:Int)) (List.range (min ((bif decide ((↑(ByteArray.get! s i.toNat).toNat:Int)>(32:Int))&&(decide ((↑(ByteArray.get! s i.toNat).toNat:Int)<(127:Int))&&((↑(ByteArray.get! s i.toNat).toNat:Int)!=(37:Int)&&((↑(ByteArray.get! s i.toNat).toNat:Int)!=(44:Int)&&(↑(ByteArray.get! s i.toNat).toNat:Int)!=(59:Int))))then b.length+(1:Nat)else b.length+(3:Nat))-b.length) (1:Nat)))++(List.map (λx=>(↑((ByteArray.mk #[(48:UInt8),(49:UInt8),(50:UInt8),(51:UInt8),(52:UInt8),(53:UInt8),(54:UInt8),(55:UInt8),(56:UInt8),(57:UInt8),(97:UInt8),(98:UInt8),(99:UInt8),(100:UInt8),(101:UInt8),(102:UInt8)]).get! (iShr IntKind.u8 (↑(ByteArray.get! s i.toNat).toNat:Int) (4:Int)).toNat).toNat:Int)) (List.range (min ((bif decide ((↑(ByteArray.get! s i.toNat).toNat:Int)>(32:Int))&&(decide ((↑(ByteArray.get! s i.toNat).toNat:Int)<(127:Int))&&((↑(ByteArray.get! s i.toNat).toNat:Int)!=(37:Int)&&((↑(ByteArray.get! s i.toNat).toNat:Int)!=(44:Int)&&(↑(ByteArray.get! s i.toNat).toNat:Int)!=(59:Int))))then b.length+(1:Nat)else b.length+(3:Nat))-b.length-(1:Nat)) (1:Nat)))++List.map (λx=>(↑((ByteArray.mk #[(48:UInt8),(49:UInt8),(50:UInt8),(51:UInt8),(52:UInt8),(53:UInt8),(54:UInt8),(55:UInt8),(56:UInt8),(57:UInt8),(97:UInt8),(98:UInt8),(99:UInt8),(100:UInt8),(101:UInt8),(102:UInt8)]).get! (iAnd IntKind.u8 (↑(ByteArray.get! s i.toNat).toNat:Int) (15:Int)).toNat).toNat:Int)) (List.range ((bif decide ((↑(ByteArray.get! s i.toNat).toNat:Int)>(32:Int))&&(decide ((↑(ByteArray.get! s i.toNat).toNat:Int)<(127:Int))&&((↑(ByteArray.get! s i.toNat).toNat:Int)!=(37:Int)&&((↑(ByteArray.get! s i.toNat).toNat:Int)!=(44:Int)&&(↑(ByteArray.get! s i.toNat).toNat:Int)!=(59:Int))))then b.length+(1:Nat)else b.length+(3:Nat))-b.length-(1:Nat)-(1:Nat))))))
 else(Ex.exit (1:Nat),s,n,i,e8u.ag b)
def stx_side(s:BA)(n:Int)(i:Int)(b:List Int):Prop:=
 (decide (i<n)=true->((0:Int)<=i/\i<(↑(ByteArray.size s):Int))/\((decide ((↑(ByteArray.get! s i.toNat).toNat:Int)>(32:Int))&&(decide ((↑(ByteArray.get! s i.toNat).toNat:Int)<(127:Int))&&((↑(ByteArray.get! s i.toNat).toNat:Int)!=(37:Int)&&((↑(ByteArray.get! s i.toNat).toNat:Int)!=(44:Int)&&(↑(ByteArray.get! s i.toNat).toNat:Int)!=(59:Int)))))=true->b.length<=b.length/\True/\b.length+(1:Nat)<=maxLen/\(b.length+(1:Nat))*Tryd.prog.types[(5:Nat)].bytes<=(140737488355328:Nat))/\((!(decide ((↑(ByteArray.get! s i.toNat).toNat:Int)>(32:Int))&&(decide ((↑(ByteArray.get! s i.toNat).toNat:Int)<(127:Int))&&((↑(ByteArray.get! s i.toNat).toNat:Int)!=(37:Int)&&((↑(ByteArray.get! s i.toNat).toNat:Int)!=(44:Int)&&(↑(ByteArray.get! s i.toNat).toNat:Int)!=(59:Int))))))=true->(0:Int)<=iShr IntKind.u8 (↑(ByteArray.get! s i.toNat).toNat:Int) (4:Int)/\iShr IntKind.u8 (↑(ByteArray.get! s i.toNat).toNat:Int) (4:Int)<(16:Int))/\((!(decide ((↑(ByteArray.get! s i.toNat).toNat:Int)>(32:Int))&&(decide ((↑(ByteArray.get! s i.toNat).toNat:Int)<(127:Int))&&((↑(ByteArray.get! s i.toNat).toNat:Int)!=(37:Int)&&((↑(ByteArray.get! s i.toNat).toNat:Int)!=(44:Int)&&(↑(ByteArray.get! s i.toNat).toNat:Int)!=(59:Int))))))=true->(0:Int)<=iAnd IntKind.u8 (↑(ByteArray.get! s i.toNat).toNat:Int) (15:Int)/\iAnd IntKind.u8 (↑(ByteArray.get! s i.toNat).toNat:Int) (15:Int)<(16:Int))/\((!(decide ((↑(ByteArray.get! s i.toNat).toNat:Int)>(32:Int))&&(decide ((↑(ByteArray.get! s i.toNat).toNat:Int)<(127:Int))&&((↑(ByteArray.get! s i.toNat).toNat:Int)!=(37:Int)&&((↑(ByteArray.get! s i.toNat).toNat:Int)!=(44:Int)&&(↑(ByteArray.get! s i.toNat).toNat:Int)!=(59:Int))))))=true->b.length<=b.length/\True/\b.length+(3:Nat)<=maxLen/\(b.length+(3:Nat))*Tryd.prog.types[(5:Nat)].bytes<=(140737488355328:Nat))/\((bif decide ((↑(ByteArray.get! s i.toNat).toNat:Int)>(32:Int))&&(decide ((↑(ByteArray.get! s i.toNat).toNat:Int)<(127:Int))&&((↑(ByteArray.get! s i.toNat).toNat:Int)!=(37:Int)&&((↑(ByteArray.get! s i.toNat).toNat:Int)!=(44:Int)&&(↑(ByteArray.get! s i.toNat).toNat:Int)!=(59:Int))))then b.length+(1:Nat)else b.length+(3:Nat))<=bif decide ((↑(ByteArray.get! s i.toNat).toNat:Int)>(32:Int))&&(decide ((↑(ByteArray.get! s i.toNat).toNat:Int)<(127:Int))&&((↑(ByteArray.get! s i.toNat).toNat:Int)!=(37:Int)&&((↑(ByteArray.get! s i.toNat).toNat:Int)!=(44:Int)&&(↑(ByteArray.get! s i.toNat).toNat:Int)!=(59:Int))))then b.length+(1:Nat)else b.length+(3:Nat))/\(∀(e:Nat),e<min (bif decide ((↑(ByteArray.get! s i.toNat).toNat:Int)>(32:Int))&&(decide ((↑(ByteArray.get! s i.toNat).toNat:Int)<(127:Int))&&((↑(ByteArray.get! s i.toNat).toNat:Int)!=(37:Int)&&((↑(ByteArray.get! s i.toNat).toNat:Int)!=(44:Int)&&(↑(ByteArray.get! s i.toNat).toNat:Int)!=(59:Int))))then b.length+(1:Nat)else b.length+(3:Nat)) b.length->True)/\(∀(e:Nat),e<(bif decide ((↑(ByteArray.get! s i.toNat).toNat:Int)>(32:Int))&&(decide ((↑(ByteArray.get! s i.toNat).toNat:Int)<(127:Int))&&((↑(ByteArray.get! s i.toNat).toNat:Int)!=(37:Int)&&((↑(ByteArray.get! s i.toNat).toNat:Int)!=(44:Int)&&(↑(ByteArray.get! s i.toNat).toNat:Int)!=(59:Int))))then b.length+(1:Nat)else b.length+(3:Nat))-b.length->True)/\(∀(e:Nat),e<min (bif decide ((↑(ByteArray.get! s i.toNat).toNat:Int)>(32:Int))&&(decide ((↑(ByteArray.get! s i.toNat).toNat:Int)<(127:Int))&&((↑(ByteArray.get! s i.toNat).toNat:Int)!=(37:Int)&&((↑(ByteArray.get! s i.toNat).toNat:Int)!=(44:Int)&&(↑(ByteArray.get! s i.toNat).toNat:Int)!=(59:Int))))then b.length+(1:Nat)else b.length+(3:Nat)) b.length->True)/\(∀(e:Nat),e<min ((bif decide ((↑(ByteArray.get! s i.toNat).toNat:Int)>(32:Int))&&(decide ((↑(ByteArray.get! s i.toNat).toNat:Int)<(127:Int))&&((↑(ByteArray.get! s i.toNat).toNat:Int)!=(37:Int)&&((↑(ByteArray.get! s i.toNat).toNat:Int)!=(44:Int)&&(↑(ByteArray.get! s i.toNat).toNat:Int)!=(59:Int))))then b.length+(1:Nat)else b.length+(3:Nat))-b.length) (1:Nat)->True)/\(∀(e:Nat),e<min ((bif decide ((↑(ByteArray.get! s i.toNat).toNat:Int)>(32:Int))&&(decide ((↑(ByteArray.get! s i.toNat).toNat:Int)<(127:Int))&&((↑(ByteArray.get! s i.toNat).toNat:Int)!=(37:Int)&&((↑(ByteArray.get! s i.toNat).toNat:Int)!=(44:Int)&&(↑(ByteArray.get! s i.toNat).toNat:Int)!=(59:Int))))then b.length+(1:Nat)else b.length+(3:Nat))-b.length-(1:Nat)) (1:Nat)->True)/\∀(e:Nat),e<(bif decide ((↑(ByteArray.get! s i.toNat).toNat:Int)>(32:Int))&&(decide ((↑(ByteArray.get! s i.toNat).toNat:Int)<(127:Int))&&((↑(ByteArray.get! s i.toNat).toNat:Int)!=(37:Int)&&((↑(ByteArray.get! s i.toNat).toNat:Int)!=(44:Int)&&(↑(ByteArray.get! s i.toNat).toNat:Int)!=(59:Int))))then b.length+(1:Nat)else b.length+(3:Nat))-b.length-(1:Nat)-(1:Nat)->True)/\(decide (i<n)=false->b.length<=b.length/\∀(e:Nat),e<b.length->True)
theorem stx_one:((q00 Tryd.prog 58).filter λc=>Nat.beq (lkey c) 8).length=1:=by kernel_rfl
abbrev qao:Type:=BA×Int
abbrev stx_GB:Type:=List Int
def stx_f(g:stx_G):Int×qao×stx_GB:=(g.2.2.1,(g.1,g.2.1),g.2.2.2)
def stx_g(d:Int×qao×stx_GB):stx_G:=(d.2.1.1,d.2.1.2,d.1,d.2.2)
abbrev stx_rr(g:stx_G):Ex×stx_G:=stx_R g.1 g.2.1 g.2.2.1 g.2.2.2
abbrev stx_ss(g:stx_G):Prop:=stx_side g.1 g.2.1 g.2.2.1 g.2.2.2
theorem stx_es(g:stx_G):(stx_rr g).1=.normal\/(stx_rr g).1∈([.exit 1]:List Ex):=by
 unfold stx_rr stx_R
 repeat' (first|(left;rfl)|(right;simp only[cond_true,cond_false];simp;done)|(rw[Bool.cond_eq_ite];split))
abbrev stx_C(Inv:stx_G->List Prop)(m:stx_G->Nat):LCon:=loopR [.exit 1] (loopBody Tryd.prog 58 8) stx_LP [] 53 Inv stx_rr m
theorem stx_loop(Inv:stx_G->List Prop)(m:stx_G->Nat)(hs:∀g,allP (Inv g)->stx_ss g)(hg:Goes stx_rr m λg=>allP (Inv g)):∀b∈q00 Tryd.prog 58,lkey b=8->q04 Tryd.prog b (stx_C Inv m).g:=q0h (Γ:=(PTab.gamz tabN8 [] [])) (Λ:=noΛ) (PTab.okz tabN8 [] []) q5r 100 58 8 53 stx_LP [] Inv stx_rr stx_ss m default [.exit 1] stx_one (λrd T B HL HB ds g=>by kernel_rfl) (λrd T B HL HB ds g=>by kernel_rfl) hs hg stx_es
abbrev rtx_G:Type:=BA×Int×BA
def rtx_LP:LP 0 rtx_G:=.pair (.slot 0 0 dStr) (.pair (.slot 0 4 dI) (.slot 0 3 dStr))
def rtx_R(s:BA)(i:Int)(o:BA):Ex×rtx_G:=
 bif decide (i<(↑(ByteArray.size s):Int))then(Ex.normal,s,IntKind.i64.wrap (i+(1:Int)),bif decide ((↑(ByteArray.get! s i.toNat).toNat:Int)>=(33:Int))&&(decide ((↑(ByteArray.get! s i.toNat).toNat:Int)<=(126:Int))&&((↑(ByteArray.get! s i.toNat).toNat:Int)!=(37:Int)&&((↑(ByteArray.get! s i.toNat).toNat:Int)!=(44:Int)&&(↑(ByteArray.get! s i.toNat).toNat:Int)!=(59:Int))))then o++ByteArray.extract s i.toNat (IntKind.i64.wrap (i+(1:Int))).toNat else o++(ByteArray.mk #[(37:UInt8)]++(ByteArray.mk #[(48:UInt8),(49:UInt8),(50:UInt8),(51:UInt8),(52:UInt8),(53:UInt8),(54:UInt8),(55:UInt8),(56:UInt8),(57:UInt8),(97:UInt8),(98:UInt8),(99:UInt8),(100:UInt8),(101:UInt8),(102:UInt8)]).extract (IntKind.u8.wrap ((↑(ByteArray.get! s i.toNat).toNat:Int).tdiv (16:Int))).toNat (IntKind.u8.wrap (IntKind.u8.wrap ((↑(ByteArray.get! s i.toNat).toNat:Int).tdiv (16:Int))+(1:Int))).toNat++(ByteArray.mk #[(48:UInt8),(49:UInt8),(50:UInt8),(51:UInt8),(52:UInt8),(53:UInt8),(54:UInt8),(55:UInt8),(56:UInt8),(57:UInt8),(97:UInt8),(98:UInt8),(99:UInt8),(100:UInt8),(101:UInt8),(102:UInt8)]).extract ((↑(ByteArray.get! s i.toNat).toNat:Int).tmod (16:Int)).toNat (IntKind.u8.wrap ((↑(ByteArray.get! s i.toNat).toNat:Int).tmod (16:Int)+(1:Int))).toNat))
 else(Ex.exit (1:Nat),s,i,o)
def rtx_side(s:BA)(i:Int)(o:BA):Prop:=
 decide (i<(↑(ByteArray.size s):Int))=true->((0:Int)<=i/\i<(↑(ByteArray.size s):Int))/\((decide ((↑(ByteArray.get! s i.toNat).toNat:Int)>=(33:Int))&&(decide ((↑(ByteArray.get! s i.toNat).toNat:Int)<=(126:Int))&&((↑(ByteArray.get! s i.toNat).toNat:Int)!=(37:Int)&&((↑(ByteArray.get! s i.toNat).toNat:Int)!=(44:Int)&&(↑(ByteArray.get! s i.toNat).toNat:Int)!=(59:Int)))))=true->(0:Int)<=IntKind.i64.wrap (i+(1:Int))/\IntKind.i64.wrap (i+(1:Int))<=(↑(ByteArray.size s):Int))/\((decide ((↑(ByteArray.get! s i.toNat).toNat:Int)>=(33:Int))&&(decide ((↑(ByteArray.get! s i.toNat).toNat:Int)<=(126:Int))&&((↑(ByteArray.get! s i.toNat).toNat:Int)!=(37:Int)&&((↑(ByteArray.get! s i.toNat).toNat:Int)!=(44:Int)&&(↑(ByteArray.get! s i.toNat).toNat:Int)!=(59:Int)))))=true->(0:Int)<=i/\i<=(↑(IntKind.i64.wrap (i+(1:Int))).toNat:Int))/\((decide ((↑(ByteArray.get! s i.toNat).toNat:Int)>=(33:Int))&&(decide ((↑(ByteArray.get! s i.toNat).toNat:Int)<=(126:Int))&&((↑(ByteArray.get! s i.toNat).toNat:Int)!=(37:Int)&&((↑(ByteArray.get! s i.toNat).toNat:Int)!=(44:Int)&&(↑(ByteArray.get! s i.toNat).toNat:Int)!=(59:Int)))))=true->ByteArray.size o+(ByteArray.extract s i.toNat (IntKind.i64.wrap (i+(1:Int))).toNat).size<=(9223372036854775807:Nat))/\((!(decide ((↑(ByteArray.get! s i.toNat).toNat:Int)>=(33:Int))&&(decide ((↑(ByteArray.get! s i.toNat).toNat:Int)<=(126:Int))&&((↑(ByteArray.get! s i.toNat).toNat:Int)!=(37:Int)&&((↑(ByteArray.get! s i.toNat).toNat:Int)!=(44:Int)&&(↑(ByteArray.get! s i.toNat).toNat:Int)!=(59:Int))))))=true->(16:Int)≠(0:Int))/\((!(decide ((↑(ByteArray.get! s i.toNat).toNat:Int)>=(33:Int))&&(decide ((↑(ByteArray.get! s i.toNat).toNat:Int)<=(126:Int))&&((↑(ByteArray.get! s i.toNat).toNat:Int)!=(37:Int)&&((↑(ByteArray.get! s i.toNat).toNat:Int)!=(44:Int)&&(↑(ByteArray.get! s i.toNat).toNat:Int)!=(59:Int))))))=true->(16:Int)≠(0:Int))/\((!(decide ((↑(ByteArray.get! s i.toNat).toNat:Int)>=(33:Int))&&(decide ((↑(ByteArray.get! s i.toNat).toNat:Int)<=(126:Int))&&((↑(ByteArray.get! s i.toNat).toNat:Int)!=(37:Int)&&((↑(ByteArray.get! s i.toNat).toNat:Int)!=(44:Int)&&(↑(ByteArray.get! s i.toNat).toNat:Int)!=(59:Int))))))=true->(0:Int)<=IntKind.u8.wrap (IntKind.u8.wrap ((↑(ByteArray.get! s i.toNat).toNat:Int).tdiv (16:Int))+(1:Int))/\IntKind.u8.wrap (IntKind.u8.wrap ((↑(ByteArray.get! s i.toNat).toNat:Int).tdiv (16:Int))+(1:Int))<=(16:Int))/\((!(decide ((↑(ByteArray.get! s i.toNat).toNat:Int)>=(33:Int))&&(decide ((↑(ByteArray.get! s i.toNat).toNat:Int)<=(126:Int))&&((↑(ByteArray.get! s i.toNat).toNat:Int)!=(37:Int)&&((↑(ByteArray.get! s i.toNat).toNat:Int)!=(44:Int)&&(↑(ByteArray.get! s i.toNat).toNat:Int)!=(59:Int))))))=true->(0:Int)<=IntKind.u8.wrap ((↑(ByteArray.get! s i.toNat).toNat:Int).tdiv (16:Int))/\IntKind.u8.wrap ((↑(ByteArray.get! s i.toNat).toNat:Int).tdiv (16:Int))<=(↑(IntKind.u8.wrap (IntKind.u8.wrap ((↑(ByteArray.get! s i.toNat).toNat:Int).tdiv (16:Int))+(1:Int))).toNat:Int))/\((!(decide ((↑(ByteArray.get! s i.toNat).toNat:Int)>=(33:Int))&&(decide ((↑(ByteArray.get! s i.toNat).toNat:Int)<=(126:Int))&&((↑(ByteArray.get! s i.toNat).toNat:Int)!=(37:Int)&&((↑(ByteArray.get! s i.toNat).toNat:Int)!=(44:Int)&&(↑(ByteArray.get! s i.toNat).toNat:Int)!=(59:Int))))))=true->(1:Nat)+((ByteArray.mk #[(48:UInt8),(49:UInt8),(50:UInt8),(51:UInt8),(52:UInt8),(53:UInt8),(54:UInt8),(55:UInt8),(56:UInt8),(57:UInt8),(97:UInt8),(98:UInt8),(99:UInt8),(100:UInt8),(101:UInt8),(102:UInt8)]).extract (IntKind.u8.wrap ((↑(ByteArray.get! s i.toNat).toNat:Int).tdiv (16:Int))).toNat (IntKind.u8.wrap (IntKind.u8.wrap ((↑(ByteArray.get! s i.toNat).toNat:Int).tdiv (16:Int))+(1:Int))).toNat).size<=(9223372036854775807:Nat))/\((!(decide ((↑(ByteArray.get! s i.toNat).toNat:Int)>=(33:Int))&&(decide ((↑(ByteArray.get! s i.toNat).toNat:Int)<=(126:Int))&&((↑(ByteArray.get! s i.toNat).toNat:Int)!=(37:Int)&&((↑(ByteArray.get! s i.toNat).toNat:Int)!=(44:Int)&&(↑(ByteArray.get! s i.toNat).toNat:Int)!=(59:Int))))))=true->(16:Int)≠(0:Int))/\((!(decide ((↑(ByteArray.get! s i.toNat).toNat:Int)>=(33:Int))&&(decide ((↑(ByteArray.get! s i.toNat).toNat:Int)<=(126:Int))&&((↑(ByteArray.get! s i.toNat).toNat:Int)!=(37:Int)&&((↑(ByteArray.get! s i.toNat).toNat:Int)!=(44:Int)&&(↑(ByteArray.get! s i.toNat).toNat:Int)!=(59:Int))))))=true->(16:Int)≠(0:Int))/\((!(decide ((↑(ByteArray.get! s i.toNat).toNat:Int)>=(33:Int))&&(decide ((↑(ByteArray.get! s i.toNat).toNat:Int)<=(126:Int))&&((↑(ByteArray.get! s i.toNat).toNat:Int)!=(37:Int)&&((↑(ByteArray.get! s i.toNat).toNat:Int)!=(44:Int)&&(↑(ByteArray.get! s i.toNat).toNat:Int)!=(59:Int))))))=true->(0:Int)<=IntKind.u8.wrap ((↑(ByteArray.get! s i.toNat).toNat:Int).tmod (16:Int)+(1:Int))/\IntKind.u8.wrap ((↑(ByteArray.get! s i.toNat).toNat:Int).tmod (16:Int)+(1:Int))<=(16:Int))/\((!(decide ((↑(ByteArray.get! s i.toNat).toNat:Int)>=(33:Int))&&(decide ((↑(ByteArray.get! s i.toNat).toNat:Int)<=(126:Int))&&((↑(ByteArray.get! s i.toNat).toNat:Int)!=(37:Int)&&((↑(ByteArray.get! s i.toNat).toNat:Int)!=(44:Int)&&(↑(ByteArray.get! s i.toNat).toNat:Int)!=(59:Int))))))=true->(0:Int)<=(↑(ByteArray.get! s i.toNat).toNat:Int).tmod (16:Int)/\(↑(ByteArray.get! s i.toNat).toNat:Int).tmod (16:Int)<=(↑(IntKind.u8.wrap ((↑(ByteArray.get! s i.toNat).toNat:Int).tmod (16:Int)+(1:Int))).toNat:Int))/\((!(decide ((↑(ByteArray.get! s i.toNat).toNat:Int)>=(33:Int))&&(decide ((↑(ByteArray.get! s i.toNat).toNat:Int)<=(126:Int))&&((↑(ByteArray.get! s i.toNat).toNat:Int)!=(37:Int)&&((↑(ByteArray.get! s i.toNat).toNat:Int)!=(44:Int)&&(↑(ByteArray.get! s i.toNat).toNat:Int)!=(59:Int))))))=true->(ByteArray.mk #[(37:UInt8)]++(ByteArray.mk #[(48:UInt8),(49:UInt8),(50:UInt8),(51:UInt8),(52:UInt8),(53:UInt8),(54:UInt8),(55:UInt8),(56:UInt8),(57:UInt8),(97:UInt8),(98:UInt8),(99:UInt8),(100:UInt8),(101:UInt8),(102:UInt8)]).extract (IntKind.u8.wrap ((↑(ByteArray.get! s i.toNat).toNat:Int).tdiv (16:Int))).toNat (IntKind.u8.wrap (IntKind.u8.wrap ((↑(ByteArray.get! s i.toNat).toNat:Int).tdiv (16:Int))+(1:Int))).toNat).size+((ByteArray.mk #[(48:UInt8),(49:UInt8),(50:UInt8),(51:UInt8),(52:UInt8),(53:UInt8),(54:UInt8),(55:UInt8),(56:UInt8),(57:UInt8),(97:UInt8),(98:UInt8),(99:UInt8),(100:UInt8),(101:UInt8),(102:UInt8)]).extract ((↑(ByteArray.get! s i.toNat).toNat:Int).tmod (16:Int)).toNat (IntKind.u8.wrap ((↑(ByteArray.get! s i.toNat).toNat:Int).tmod (16:Int)+(1:Int))).toNat).size<=(9223372036854775807:Nat))/\((!(decide ((↑(ByteArray.get! s i.toNat).toNat:Int)>=(33:Int))&&(decide ((↑(ByteArray.get! s i.toNat).toNat:Int)<=(126:Int))&&((↑(ByteArray.get! s i.toNat).toNat:Int)!=(37:Int)&&((↑(ByteArray.get! s i.toNat).toNat:Int)!=(44:Int)&&(↑(ByteArray.get! s i.toNat).toNat:Int)!=(59:Int))))))=true->ByteArray.size o+(ByteArray.mk #[(37:UInt8)]++(ByteArray.mk #[(48:UInt8),(49:UInt8),(50:UInt8),(51:UInt8),(52:UInt8),(53:UInt8),(54:UInt8),(55:UInt8),(56:UInt8),(57:UInt8),(97:UInt8),(98:UInt8),(99:UInt8),(100:UInt8),(101:UInt8),(102:UInt8)]).extract (IntKind.u8.wrap ((↑(ByteArray.get! s i.toNat).toNat:Int).tdiv (16:Int))).toNat (IntKind.u8.wrap (IntKind.u8.wrap ((↑(ByteArray.get! s i.toNat).toNat:Int).tdiv (16:Int))+(1:Int))).toNat++(ByteArray.mk #[(48:UInt8),(49:UInt8),(50:UInt8),(51:UInt8),(52:UInt8),(53:UInt8),(54:UInt8),(55:UInt8),(56:UInt8),(57:UInt8),(97:UInt8),(98:UInt8),(99:UInt8),(100:UInt8),(101:UInt8),(102:UInt8)]).extract ((↑(ByteArray.get! s i.toNat).toNat:Int).tmod (16:Int)).toNat (IntKind.u8.wrap ((↑(ByteArray.get! s i.toNat).toNat:Int).tmod (16:Int)+(1:Int))).toNat).size<=(9223372036854775807:Nat))
theorem rtx_one:((q00 Tryd.prog 31).filter λc=>Nat.beq (lkey c) 8).length=1:=by kernel_rfl
abbrev qau:Type:=BA
abbrev rtx_GB:Type:=BA
def rtx_f(g:rtx_G):Int×qau×rtx_GB:=(g.2.1,g.1,g.2.2)
def rtx_g(d:Int×qau×rtx_GB):rtx_G:=(d.2.1,d.1,d.2.2)
abbrev rtx_rr(g:rtx_G):Ex×rtx_G:=rtx_R g.1 g.2.1 g.2.2
abbrev rtx_ss(g:rtx_G):Prop:=rtx_side g.1 g.2.1 g.2.2
theorem rtx_es(g:rtx_G):(rtx_rr g).1=.normal\/(rtx_rr g).1∈([.exit 1]:List Ex):=by
 unfold rtx_rr rtx_R
 repeat' (first|(left;rfl)|(right;simp only[cond_true,cond_false];simp;done)|(rw[Bool.cond_eq_ite];split))
abbrev rtx_C(Inv:rtx_G->List Prop)(m:rtx_G->Nat):LCon:=loopR [.exit 1] (loopBody Tryd.prog 31 8) rtx_LP [] 62 Inv rtx_rr m
theorem rtx_loop(Inv:rtx_G->List Prop)(m:rtx_G->Nat)(hs:∀g,allP (Inv g)->rtx_ss g)(hg:Goes rtx_rr m λg=>allP (Inv g)):∀b∈q00 Tryd.prog 31,lkey b=8->q04 Tryd.prog b (rtx_C Inv m).g:=q0h (Γ:=(PTab.gamz tabN8 [] [])) (Λ:=noΛ) (PTab.okz tabN8 [] []) q5r 100 31 8 62 rtx_LP [] Inv rtx_rr rtx_ss m default [.exit 1] rtx_one (λrd T B HL HB ds g=>by kernel_rfl) (λrd T B HL HB ds g=>by kernel_rfl) hs hg rtx_es
abbrev sls_G:Type:=List Int×Int×Int×List BA
def sls_LP:LP 0 sls_G:=.pair (.slot 0 9 dLI) (.pair (.slot 0 10 dI) (.pair (.slot 0 11 dI) (.row 0 3 9 eStr)))
def sls_R(xs:List Int)(n:Int)(i:Int)(b:List BA):Ex×sls_G:=
 bif decide (i<n)then(Ex.normal,eI.ag xs,n,IntKind.i64.wrap (i+(1:Int)),eStr.lst (min (b.length+(1:Nat)) b.length) (eStr.els b)++List.map (λx=>numS (xs.getD i.toNat eI.dflt)) (List.range (b.length+(1:Nat)-b.length)))
 else(Ex.exit (0:Nat),eI.ag xs,n,i,eStr.ag b)
def sls_side(xs:List Int)(n:Int)(i:Int)(b:List BA):Prop:=
 (decide (i<n)=true->((0:Int)<=i/\i<(↑xs.length:Int))/\i64 (xs.getD i.toNat eI.dflt)/\(b.length<=b.length/\True/\b.length+(1:Nat)<=maxLen/\(b.length+(1:Nat))*Tryd.prog.types[(9:Nat)].bytes<=(140737488355328:Nat))/\eI.okL xs/\b.length+(1:Nat)<=b.length+(1:Nat)/\(∀(e:Nat),e<min (b.length+(1:Nat)) b.length->True)/\∀(e:Nat),e<b.length+(1:Nat)-b.length->True)/\(decide (i<n)=false->eI.okL xs/\b.length<=b.length/\∀(e:Nat),e<b.length->True)
theorem sls_one:((q00 Tryd.prog 57).filter λc=>Nat.beq (lkey c) 5).length=1:=by kernel_rfl
abbrev sls_GC:Type:=List Int×Int
abbrev qaq:Type:=List BA
def sls_f(g:sls_G):Int×sls_GC×qaq:=(g.2.2.1,(g.1,g.2.1),g.2.2.2)
def sls_g(d:Int×sls_GC×qaq):sls_G:=(d.2.1.1,d.2.1.2,d.1,d.2.2)
abbrev sls_rr(g:sls_G):Ex×sls_G:=sls_R g.1 g.2.1 g.2.2.1 g.2.2.2
abbrev sls_ss(g:sls_G):Prop:=sls_side g.1 g.2.1 g.2.2.1 g.2.2.2
theorem sls_es(g:sls_G):(sls_rr g).1=.normal\/(sls_rr g).1∈([.exit 0]:List Ex):=by
 unfold sls_rr sls_R
 repeat' (first|(left;rfl)|(right;simp only[cond_true,cond_false];simp;done)|(rw[Bool.cond_eq_ite];split))
abbrev sls_C(Inv:sls_G->List Prop)(m:sls_G->Nat):LCon:=loopR [.exit 0] (loopBody Tryd.prog 57 5) sls_LP [] 23 Inv sls_rr m
theorem sls_loop(Inv:sls_G->List Prop)(m:sls_G->Nat)(hs:∀g,allP (Inv g)->sls_ss g)(hg:Goes sls_rr m λg=>allP (Inv g)):∀b∈q00 Tryd.prog 57,lkey b=5->q04 Tryd.prog b (sls_C Inv m).g:=q0h (Γ:=(PTab.gamz tabN8 [] [])) (Λ:=noΛ) (PTab.okz tabN8 [] []) q5r 100 57 5 23 sls_LP [] Inv sls_rr sls_ss m default [.exit 0] sls_one (λrd T B HL HB ds g=>by kernel_rfl) (λrd T B HL HB ds g=>by kernel_rfl) hs hg sls_es
abbrev rin_G:Type:=List Int×Int×BA
def rin_LP:LP 0 rin_G:=.pair (.slot 0 0 dLI) (.pair (.slot 0 4 dI) (.slot 0 3 dStr))
def rin_R(xs:List Int)(i:Int)(o:BA):Ex×rin_G:=
 bif decide (i<(↑xs.length:Int))then(Ex.normal,eI.ag xs,IntKind.i64.wrap (i+(1:Int)),(bif decide (i>(0:Int))then o++ByteArray.mk #[(44:UInt8)]else o)++numS (xs.getD i.toNat eI.dflt))
 else(Ex.exit (0:Nat),eI.ag xs,i,o)
def rin_side(xs:List Int)(i:Int)(o:BA):Prop:=
 (decide (i<(↑xs.length:Int))=true->(decide (i>(0:Int))=true->ByteArray.size o+(1:Nat)<=(9223372036854775807:Nat))/\((0:Int)<=i/\i<(↑xs.length:Int))/\i64 (xs.getD i.toNat eI.dflt)/\(bif decide (i>(0:Int))then o++ByteArray.mk #[(44:UInt8)]else o).size+ByteArray.size (numS (xs.getD i.toNat eI.dflt))<=(9223372036854775807:Nat)/\eI.okL xs)/\(decide (i<(↑xs.length:Int))=false->eI.okL xs)
theorem rin_one:((q00 Tryd.prog 30).filter λc=>Nat.beq (lkey c) 5).length=1:=by kernel_rfl
abbrev rin_GC:Type:=List Int
abbrev rin_GB:Type:=BA
def rin_f(g:rin_G):Int×rin_GC×rin_GB:=(g.2.1,g.1,g.2.2)
def rin_g(d:Int×rin_GC×rin_GB):rin_G:=(d.2.1,d.1,d.2.2)
abbrev rin_rr(g:rin_G):Ex×rin_G:=rin_R g.1 g.2.1 g.2.2
abbrev rin_ss(g:rin_G):Prop:=rin_side g.1 g.2.1 g.2.2
theorem rin_es(g:rin_G):(rin_rr g).1=.normal\/(rin_rr g).1∈([.exit 0]:List Ex):=by
 unfold rin_rr rin_R
 repeat' (first|(left;rfl)|(right;simp only[cond_true,cond_false];simp;done)|(rw[Bool.cond_eq_ite];split))
abbrev rin_C(Inv:rin_G->List Prop)(m:rin_G->Nat):LCon:=loopR [.exit 0] (loopBody Tryd.prog 30 5) rin_LP [] 26 Inv rin_rr m
theorem rin_loop(Inv:rin_G->List Prop)(m:rin_G->Nat)(hs:∀g,allP (Inv g)->rin_ss g)(hg:Goes rin_rr m λg=>allP (Inv g)):∀b∈q00 Tryd.prog 30,lkey b=5->q04 Tryd.prog b (rin_C Inv m).g:=q0h (Γ:=(PTab.gamz tabN8 [] [])) (Λ:=noΛ) (PTab.okz tabN8 [] []) q5r 100 30 5 26 rin_LP [] Inv rin_rr rin_ss m default [.exit 0] rin_one (λrd T B HL HB ds g=>by kernel_rfl) (λrd T B HL HB ds g=>by kernel_rfl) hs hg rin_es
def KL:Nat:=10000000
theorem byS9(h:9<Tryd.prog.types.size):(Tryd.prog.types[(9:Nat)]'h).bytes=16:=by kernel_rfl
def sls_S(_:sls_GC)(b:qaq)(_:Int)(a:Int):Ex×qaq:=(.normal,b++[numS a])
def sls_K(c:sls_GC)(b:qaq)(i:Int):Prop:=(List.length b:Int)<=i/\c.1.length<=KL/\∀x∈c.1,i64 x
abbrev sls_xs(c:sls_GC):List Int:=c.1
abbrev sls_lim(c:sls_GC):Int:=c.2
abbrev sls_I(g:sls_G):List Prop:=ixI sls_lim sls_xs sls_K (sls_f g)
abbrev sls_M(g:sls_G):Nat:=ixM sls_lim (sls_f g)
theorem sls_P:ixP sls_S sls_xs sls_K:=λc b i a h _ _=>⟨by
 have:=h.1;show(((b++[numS a]).length:Nat):Int)<=_;rw[List.length_append];simp only[List.length_cons,List.length_nil];omega,h.2⟩
abbrev sls_RR(g:sls_G):Ex×sls_G:=sls_R g.1 g.2.1 g.2.2.1 g.2.2.2
theorem sls_RF(d:Int×sls_GC×qaq):sls_RR (sls_g d)=((ixF 0 sls_lim sls_xs eI.dflt sls_S d).1,sls_g (ixF 0 sls_lim sls_xs eI.dflt sls_S d).2):=by
 obtain⟨i,⟨xs,n⟩,b⟩:=d;show sls_R xs n i b=_;unfold sls_R ixF sls_S;simp only[El.ag_eq,q2s];cases decide (i<n)<;>rfl
theorem sls_ok:∀b∈q00 Tryd.prog 57,lkey b=5->q04 Tryd.prog b (sls_C sls_I sls_M).g:=by
 refine sls_loop sls_I sls_M (λg hi=>?_) (q09 (φ:=sls_f) (ψ:=sls_g) (λ_=>rfl) (λ_=>rfl) (λd _=>sls_RF d) sls_P);obtain⟨xs,n,i,b⟩:=g;obtain⟨h1,_,h3,h4,h5,h6,h7⟩:=hi _ (List.mem_cons_self ..);have h1:n=(xs.length:Int):=h1;have h3:0<=i:=h3;have h4:i<=(xs.length:Int):=h4;have h5:(List.length b:Int)<=i:=h5;have h6:xs.length<=KL:=h6;have h7:∀x∈xs,i64 x:=h7;unfold KL at h6;show sls_side xs n i b;unfold sls_side;simp only[El.okL_eq,byS9,Nat.le_refl,implies_true,true_and,and_true];intro hlt;have hlt:=of_decide_eq_true hlt;have hi:i.toNat<xs.length:=by omega
 refine⟨⟨h3,by omega⟩,?_,by unfold maxLen;omega,by omega⟩;rw[List.getD_eq_getElem?_getD,List.getElem?_eq_getElem hi];exact h7 _ (List.getElem_mem hi)
theorem sls_run(xs:List Int)(hx:xs.length<=KL)(h:∀x∈xs,i64 x):loopF sls_RR sls_M (xs,(xs.length:Int),0,[])=(.exit 0,xs,(xs.length:Int),(xs.length:Int),xs.map numS):=by
 have h':=q0e (φ:=sls_f) (ψ:=sls_g) (λ_=>rfl) (λ_=>rfl) (λd _=>sls_RF d) sls_P (xs,(xs.length:Int)) [] rfl (by show xs.length<=maxLen;unfold KL at hx;unfold maxLen;omega) ⟨Int.le_refl _,hx,h⟩;have hs:=scan_fold (x:=0) (st:=sls_S (xs,(xs.length:Int))) (f:=λ(b:qaq)(a:Int)=>b++[numS a]) (λ_ _ _=>rfl) xs 0 []
 have hf:∀(ys:List Int)(b:List BA),ys.foldl (λ(b:qaq)(a:Int)=>b++[numS a]) b=b++ys.map numS:=by
  intro ys
  induction ys with
  |nil=>intro b;simp
  |cons a ys ih=>intro b;rw[List.foldl_cons,ih];simp
 rw[hf,Int.zero_add,List.nil_append]at hs;show loopF sls_RR sls_M (sls_g (0,(xs,(xs.length:Int)),[]))=_;rw[h'];show((scan 0 (sls_S (xs,(xs.length:Int))) 0 xs []).1,sls_g ((scan 0 (sls_S (xs,(xs.length:Int))) 0 xs []).2.1,_,(scan 0 (sls_S (xs,(xs.length:Int))) 0 xs []).2.2))=_;rw[hs];rfl
theorem q0l{n:Int}(h:i64 n):(numS n).size<=20:=by
 obtain⟨hb1,hb2⟩:=abs_b h;have hl:=q8r 20 19 (absI n) hb1 (by rw[p10_19];omega) (by decide);unfold numS numL;rw[q1b,List.length_append];unfold absI at hl;split
 .rename_i hn;rw[if_pos hn]at hl;simp only[List.length_cons,List.length_nil];omega
 .rename_i hn;rw[if_neg hn]at hl;simp only[List.length_nil];omega
abbrev comma:BA:=ByteArray.mk #[(44:UInt8)]
def insF:Int->List Int->BA->BA
 |_,[],b=>b
 |i,a::l,b=>insF (i+1) l ((bif decide (i>(0:Int))then b++comma else b)++numS a)
def rin_S(_:rin_GC)(b:rin_GB)(i:Int)(a:Int):Ex×rin_GB:=(.normal,(bif decide (i>(0:Int))then b++comma else b)++numS a)
def rin_K(c:rin_GC)(b:rin_GB)(i:Int):Prop:=(ByteArray.size b:Int)<=21*i/\List.length c<=KL/\∀x∈c,i64 x
abbrev rin_xs(c:rin_GC):List Int:=c
abbrev rin_lim(c:rin_GC):Int:=(List.length c:Int)
abbrev rin_I(g:rin_G):List Prop:=ixI rin_lim rin_xs rin_K (rin_f g)
abbrev rin_M(g:rin_G):Nat:=ixM rin_lim (rin_f g)
theorem rin_sz(b:BA)(i:Int){a:Int}(h:i64 a):(((bif decide (i>(0:Int))then b++comma else b)++numS a).size)<=b.size+21:=by
 have:=q0l h;cases decide (i>(0:Int))
 .show(b++numS a).size<=_;rw[ByteArray.size_append];omega
 .show((b++comma)++numS a).size<=_;rw[ByteArray.size_append,ByteArray.size_append];have:comma.size=1:=rfl;omega
theorem rin_P:ixP rin_S rin_xs rin_K:=λc b i a h ha _=>⟨by
 have h1:=h.1;have:=rin_sz b (i:Int) (h.2.2 a (List.mem_of_getElem? ha));show(((bif decide ((i:Int)>(0:Int))then b++comma else b)++numS a).size:Int)<=_;omega,h.2⟩
abbrev rin_RR(g:rin_G):Ex×rin_G:=rin_R g.1 g.2.1 g.2.2
theorem rin_RF(d:Int×rin_GC×rin_GB):rin_RR (rin_g d)=((ixF 0 rin_lim rin_xs eI.dflt rin_S d).1,rin_g (ixF 0 rin_lim rin_xs eI.dflt rin_S d).2):=by
 obtain⟨i,xs,b⟩:=d;show rin_R xs i b=_;unfold rin_R ixF rin_S;simp only[El.ag_eq];cases decide (i<(xs.length:Int))<;>rfl
theorem rin_ok:∀b∈q00 Tryd.prog 30,lkey b=5->q04 Tryd.prog b (rin_C rin_I rin_M).g:=by
 refine rin_loop rin_I rin_M (λg hi=>?_) (q09 (φ:=rin_f) (ψ:=rin_g) (λ_=>rfl) (λ_=>rfl) (λd _=>rin_RF d) rin_P);obtain⟨xs,i,b⟩:=g;obtain⟨_,_,h3,h4,h5,h6,h7⟩:=hi _ (List.mem_cons_self ..);have h3:0<=i:=h3;have h4:i<=(xs.length:Int):=h4;have h5:(ByteArray.size b:Int)<=21*i:=h5;have h6:xs.length<=KL:=h6;have h7:∀x∈xs,i64 x:=h7;unfold KL at h6;show rin_side xs i b;unfold rin_side;simp only[El.okL_eq,implies_true,and_true];intro hlt;have hlt:=of_decide_eq_true hlt;have hi:i.toNat<xs.length:=by omega
 have hx:i64 (xs.getD i.toNat eI.dflt):=by
  rw[List.getD_eq_getElem?_getD,List.getElem?_eq_getElem hi];exact h7 _ (List.getElem_mem hi)
 have hs:=rin_sz b i hx;rw[ByteArray.size_append]at hs;exact⟨λ_=>by omega,⟨h3,hlt⟩,hx,Nat.le_trans hs (by omega)⟩
theorem rin_scan(c:List Int):∀(l:List Int)(i:Int)(b:BA),scan 0 (rin_S c) i l b=(.exit 0,i+l.length,insF i l b)
 | [],i,b=>by simp[scan,insF]
 |a::l,i,b=>by
  show scan 0 (rin_S c) (i+1) l ((bif decide (i>(0:Int))then b++comma else b)++numS a)=_;rw[rin_scan c l];simp only[insF,List.length_cons];rw[show i+1+(l.length:Int)=i+((l.length+1:Nat):Int) by omega]
theorem rin_run(xs:List Int)(hx:xs.length<=KL)(h:∀x∈xs,i64 x):loopF rin_RR rin_M (xs,0,ByteArray.mk #[])=(.exit 0,xs,(xs.length:Int),insF 0 xs (ByteArray.mk #[])):=by
 have h':=q0e (φ:=rin_f) (ψ:=rin_g) (λ_=>rfl) (λ_=>rfl) (λd _=>rin_RF d) rin_P xs (ByteArray.mk #[]) rfl (by show xs.length<=maxLen;unfold KL at hx;unfold maxLen;omega) ⟨by decide,hx,h⟩;rw[rin_scan,Int.zero_add]at h';exact h'
def ltN11:LTab Tryd.prog:=(LTab.nil.cons 57 5 (sls_C sls_I sls_M) sls_ok).cons 30 5 (rin_C rin_I rin_M) rin_ok
def KT:Nat:=100000000
def escP2(c:Int):Bool:=decide (33<=c)&&(decide (c<=126)&&(!decide (c=37)&&(!decide (c=44)&&!decide (c=59))))
def esc2(c:Int):List Int:=if escP2 c=true then [c]else [37,hexD (c/16),hexD (c%16)]
def escM(l:List Int):List Int:=l.flatMap esc2
theorem esc2_len(c:Int):1<=(esc2 c).length/\(esc2 c).length<=3:=by
 unfold esc2;split<;>simp
theorem escM_len(l:List Int):l.length<=(escM l).length/\(escM l).length<=3*l.length:=by
 induction l with
 |nil=>simp[escM]
 |cons a l ih=>
  have:=esc2_len a;have e:escM (a::l)=esc2 a++escM l:=rfl;rw[e,List.length_append,List.length_cons];omega
theorem escQ(v:Int):(decide (v>32)&&(decide (v<127)&&(v !=37&&(v !=44&&v !=59))))=escP2 v:=by
 unfold escP2;rw[Bool.eq_iff_iff];simp only[Bool.and_eq_true,decide_eq_true_eq,bne_iff_ne,ne_eq,Bool.not_eq_true',decide_eq_false_iff_not];omega
theorem escR(v:Int):(decide (v>=33)&&(decide (v<=126)&&(v !=37&&(v !=44&&v !=59))))=escP2 v:=by
 unfold escP2;rw[Bool.eq_iff_iff];simp only[Bool.and_eq_true,decide_eq_true_eq,bne_iff_ne,ne_eq,Bool.not_eq_true',decide_eq_false_iff_not]
theorem hxS{v:Int}(h0:0<=v)(h1:v<=255):(bts HEX).getD (iShr .u8 v 4).toNat 0=hexD (v/16)/\0<=iShr .u8 v 4/\iShr .u8 v 4<16:=by
 obtain⟨k,rfl⟩:∃k:Nat,v=k:=⟨v.toNat,by omega⟩;exact⟨by rw[<-q2y];exact hx_shr k (by omega),hx_shrR k (by omega)⟩
theorem hxA{v:Int}(h0:0<=v)(h1:v<=255):(bts HEX).getD (iAnd .u8 v 15).toNat 0=hexD (v%16)/\0<=iAnd .u8 v 15/\iAnd .u8 v 15<16:=by
 obtain⟨k,rfl⟩:∃k:Nat,v=k:=⟨v.toNat,by omega⟩;exact⟨by rw[<-q2y];exact hx_and k (by omega),hx_andR k (by omega)⟩
abbrev stx_xs(c:qao):List Int:=bts c.1
abbrev q8h(c:qao):Int:=c.2
def stx_S(_:qao)(b:stx_GB)(_:Int)(v:Int):Ex×stx_GB:=(.normal,b++esc2 v)
def stx_K(c:qao)(b:stx_GB)(i:Int):Prop:=c.1.size<=KT/\(List.length b:Int)<=3*i
abbrev stx_I(g:stx_G):List Prop:=ixI q8h stx_xs stx_K (stx_f g)
abbrev stx_M(g:stx_G):Nat:=ixM q8h (stx_f g)
theorem stx_P:ixP stx_S stx_xs stx_K:=λc b i a h _ _=>⟨h.1,by
 have:=h.2;have hl:=(esc2_len a).2;show((b++esc2 a).length:Int)<=_;rw[List.length_append];omega⟩
abbrev stx_RR(g:stx_G):Ex×stx_G:=stx_R g.1 g.2.1 g.2.2.1 g.2.2.2
theorem tx_app1(b:List Int)(v:Int):e8u.lst (min (b.length+1) b.length) (e8u.els b)++List.map (λ_=>v) (List.range (b.length+1-b.length))=b++[v]:=by
 rw[Nat.min_eq_right (Nat.le_add_right _ _),Nat.add_sub_cancel_left,e8u.lst_els];rfl
theorem stx_RF(d:Int×qao×stx_GB)(hi:allP (ixI q8h stx_xs stx_K d)):stx_RR (stx_g d)=((ixF 1 q8h stx_xs 0 stx_S d).1,stx_g (ixF 1 q8h stx_xs 0 stx_S d).2):=by
 obtain⟨i,⟨s,n⟩,b⟩:=d;show stx_R s n i b=_;unfold stx_R ixF stx_S;simp only[q2y,q8h,stx_xs,El.ag_eq];have hv:=q47 s i.toNat;generalize (bts s).getD i.toNat 0=v at hv;cases decide (i<n)with
 |false=>rfl
 |true=>
  simp only[cond_true,escQ,esc2];cases escP2 v with
  |true=>
   simp only[cond_true,if_true];rw[tx_app1];rfl
  |false=>
   simp only[cond_false];have h1:=(hxS hv.1 hv.2).1;have h2:=(hxA hv.1 hv.2).1;rw[h1,h2,Nat.min_eq_right (Nat.le_add_right _ _),Nat.add_sub_cancel_left,e8u.lst_els];rfl
theorem stx_ok:∀b∈q00 Tryd.prog 58,lkey b=8->q04 Tryd.prog b (stx_C stx_I stx_M).g:=by
 refine stx_loop stx_I stx_M (λg hi=>?_) (q09 (φ:=stx_f) (ψ:=stx_g) (λ_=>rfl) (λ_=>rfl) stx_RF stx_P);obtain⟨s,n,i,b⟩:=g;obtain⟨h1,h2,h3,h4,h5,h6⟩:=hi _ (List.mem_cons_self ..);have h1:n=((bts s).length:Int):=h1;have h3:0<=i:=h3;have h5:s.size<=KT:=h5;have h6:(List.length b:Int)<=3*i:=h6;rw[q06]at h1;unfold KT at h5;have hb:Tryd.prog.types[(5:Nat)].bytes=1:=by kernel_rfl
 show stx_side s n i b;unfold stx_side;simp only[q2y,El.okL_eq,El.ag_eq,decide_eq_true_eq,hb];have hv:=q47 s i.toNat;generalize (bts s).getD i.toNat 0=v at hv;have h7:=(hxS hv.1 hv.2).2;have h8:=(hxA hv.1 hv.2).2;unfold maxLen
 repeat' (first|apply And.intro|intro _)
 all_goals first|trivial|omega
theorem stx_scan(c:qao):∀(l:List Int)(i:Int)(b:List Int),scan 1 (stx_S c) i l b=(.exit 1,i+l.length,b++escM l)
 | [],i,b=>by simp[scan,escM]
 |a::l,i,b=>by
  show scan 1 (stx_S c) (i+1) l (b++esc2 a)=_;rw[stx_scan c l,List.append_assoc,List.length_cons,show i+1+(l.length:Int)=i+((l.length+1:Nat):Int) by omega];rfl
theorem stx_run(s:BA)(hs:s.size<=KT):loopF stx_RR stx_M (s,(s.size:Int),0,[])=(.exit 1,s,(s.size:Int),(s.size:Int),escM (bts s)):=by
 have h':=q0e (φ:=stx_f) (ψ:=stx_g) (λ_=>rfl) (λ_=>rfl) stx_RF stx_P (s,(s.size:Int)) [] (by show(s.size:Int)=_;rw[q06]) (by show(bts s).length<=maxLen;rw[q06];unfold KT at hs;unfold maxLen;omega) ⟨hs,Int.le_refl _⟩;rw[stx_scan,Int.zero_add,List.nil_append,q06]at h';exact h'
abbrev rtx_xs(c:qau):List Int:=bts c
abbrev q8j(c:qau):Int:=(ByteArray.size c:Int)
def rtx_S(_:qau)(b:rtx_GB)(_:Int)(v:Int):Ex×rtx_GB:=(.normal,b++strOf (esc2 v))
def rtx_K(c:qau)(b:rtx_GB)(i:Int):Prop:=ByteArray.size c<=KT/\(ByteArray.size b:Int)<=3*i
abbrev rtx_I(g:rtx_G):List Prop:=ixI q8j rtx_xs rtx_K (rtx_f g)
abbrev rtx_M(g:rtx_G):Nat:=ixM q8j (rtx_f g)
theorem rtx_P:ixP rtx_S rtx_xs rtx_K:=λc b i a h _ _=>⟨h.1,by
 have:=h.2;have hl:=(esc2_len a).2;show((b++strOf (esc2 a)).size:Int)<=_;rw[ByteArray.size_append,q1b];omega⟩
abbrev rtx_RR(g:rtx_G):Ex×rtx_G:=rtx_R g.1 g.2.1 g.2.2
theorem s37:ByteArray.mk #[(37:UInt8)]=strOf [37]:=rfl
theorem dgD{v:Int}(h0:0<=v)(h1:v<=255):HEX.extract (IntKind.u8.wrap (v.tdiv 16)).toNat (IntKind.u8.wrap (IntKind.u8.wrap (v.tdiv 16)+1)).toNat=strOf [hexD (v/16)]:=by
 rw[Int.tdiv_eq_ediv_of_nonneg h0,wrB (x:=v/16) (by omega),wrB (by omega),dgx (by omega) (by omega)]
theorem dgM{v:Int}(h0:0<=v)(h1:v<=255):HEX.extract (v.tmod 16).toNat (IntKind.u8.wrap (v.tmod 16+1)).toNat=strOf [hexD (v%16)]:=by
 rw[Int.tmod_eq_emod_of_nonneg h0,wrB (by omega),dgx (by omega) (by omega)]
theorem rtx_RF(d:Int×qau×rtx_GB)(hi:allP (ixI q8j rtx_xs rtx_K d)):rtx_RR (rtx_g d)=((ixF 1 q8j rtx_xs 0 rtx_S d).1,rtx_g (ixF 1 q8j rtx_xs 0 rtx_S d).2):=by
 obtain⟨i,s,b⟩:=d;obtain⟨_,_,h3,_,h5,_⟩:=hi _ (List.mem_cons_self ..);have h3:0<=i:=h3;have h5:ByteArray.size s<=KT:=h5;unfold KT at h5;show rtx_R s i b=_;unfold rtx_R ixF rtx_S;simp only[q2y,q8j,rtx_xs]
 have hx:i<(ByteArray.size s:Int)->ByteArray.extract s i.toNat (IntKind.i64.wrap (i+1)).toNat=strOf [(bts s).getD i.toNat 0]:=λhlt=>by
  rw[wr64 (by omega),show(i+1).toNat=i.toNat+1 by omega];exact ext_one _ _ (by omega)
 have hv:=q47 s i.toNat;generalize (bts s).getD i.toNat 0=v at hv hx;by_cases hlt:i<(ByteArray.size s:Int)
 .rw[decide_eq_true hlt,hx hlt];simp only[cond_true,escR,esc2];rw[dgD hv.1 hv.2,dgM hv.1 hv.2,s37,q2l,q2l];cases escP2 v<;>rfl
 .rw[decide_eq_false hlt];rfl
theorem rtx_ok:∀b∈q00 Tryd.prog 31,lkey b=8->q04 Tryd.prog b (rtx_C rtx_I rtx_M).g:=by
 refine rtx_loop rtx_I rtx_M (λg hi=>?_) (q09 (φ:=rtx_f) (ψ:=rtx_g) (λ_=>rfl) (λ_=>rfl) rtx_RF rtx_P);obtain⟨s,i,b⟩:=g;obtain⟨h1,h2,h3,h4,h5,h6⟩:=hi _ (List.mem_cons_self ..);have h3:0<=i:=h3;have h5:ByteArray.size s<=KT:=h5;have h6:(ByteArray.size b:Int)<=3*i:=h6;unfold KT at h5;show rtx_side s i b;unfold rtx_side;intro hlt;have hlt:=of_decide_eq_true hlt
 have hx:ByteArray.extract s i.toNat (IntKind.i64.wrap (i+1)).toNat=strOf [(bts s).getD i.toNat 0]:=by
  rw[wr64 (by omega),show(i+1).toNat=i.toNat+1 by omega];exact ext_one _ _ (by omega)
 rw[hx];simp only[q2y];have hv:=q47 s i.toNat;generalize (bts s).getD i.toNat 0=v at hv;have e1:=dgD hv.1 hv.2;have e2:=dgM hv.1 hv.2;rw[e1,e2,s37,q2l,q2l,Int.tdiv_eq_ediv_of_nonneg hv.1,Int.tmod_eq_emod_of_nonneg hv.1,wrB (x:=v/16) (by omega),wrB (x:=v/16+1) (by omega),wrB (x:=v%16+1) (by omega),wr64 (by omega)];simp only[q1b,List.length_cons,List.length_nil,List.length_append]
 repeat' (first|apply And.intro|intro _)
 all_goals first|trivial|omega
theorem rtx_scan(c:qau):∀(l:List Int)(i:Int)(b:BA),scan 1 (rtx_S c) i l b=(.exit 1,i+l.length,b++strOf (escM l))
 | [],i,b=>by
  show(Ex.exit 1,i,b)=(Ex.exit 1,i+((0:Nat):Int),b++strOf []);rw[show strOf []=ByteArray.empty from rfl,ByteArray.append_empty,show i+((0:Nat):Int)=i by omega]
 |a::l,i,b=>by
  show scan 1 (rtx_S c) (i+1) l (b++strOf (esc2 a))=_;rw[rtx_scan c l,ByteArray.append_assoc,q2l,List.length_cons,show i+1+(l.length:Int)=i+((l.length+1:Nat):Int) by omega];rfl
theorem rtx_run(s:BA)(hs:s.size<=KT):loopF rtx_RR rtx_M (s,0,ByteArray.mk #[])=(.exit 1,s,(s.size:Int),strOf (escM (bts s))):=by
 have h':=q0e (φ:=rtx_f) (ψ:=rtx_g) (λ_=>rfl) (λ_=>rfl) rtx_RF rtx_P s (ByteArray.mk #[]) (by show(s.size:Int)=_;rw[q06]) (by show(bts s).length<=maxLen;rw[q06];unfold KT at hs;unfold maxLen;omega) ⟨hs,Int.le_refl _⟩;rw[rtx_scan,Int.zero_add,q06,show ByteArray.mk #[]++strOf (escM (bts s))=strOf (escM (bts s))from ByteArray.empty_append]at h';exact h'
def ltN12:LTab Tryd.prog:=(ltN11.cons 58 8 (stx_C stx_I stx_M) stx_ok).cons 31 8 (rtx_C rtx_I rtx_M) rtx_ok
abbrev q8b:Lam:=ltN12.lam
theorem q3i:∀f k L,q8b f k=some L->∀b∈q00 Tryd.prog f,lkey b=k->q04 Tryd.prog b L.g:=ltN12.ok
open Go.RowKit Go.Sx Go.Lp Go.Shelf
abbrev aB8:DA (ByteArray×Int):=.cons dStr (.one (dInt .u8))
abbrev dBB:Dv (ByteArray×Bool):=.tup (.cons dStr (.one dBool))
abbrev dBBB:Dv (ByteArray×ByteArray×Bool):=.tup (.cons dStr (.cons dStr (.one dBool)))
theorem puBB(r:ByteArray×Bool):Pu (dBB.enc r):=pu_tup (q26 (pu_v _) (q26 (pu_v _) q8m))
theorem puBBB(r:ByteArray×ByteArray×Bool):Pu (dBBB.enc r):=pu_tup (q26 (pu_v _) (q26 (pu_v _) (q26 (pu_v _) q8m)))
theorem below_drewM{B:Nat}{a w:World}(h:Below B a w):∀q,Below B a (w.drewN q)
 |0=>h
 |q+1=>(below_drewM h q).drew
def KS:Nat:=4294967280
abbrev aBB:DA (ByteArray×ByteArray):=.cons dStr (.one dStr)
abbrev dLS:Dv (List ByteArray):=.list eStr
def q9j:Go.Shelf.Ren:=⟨λ|156=>23|165=>45|166=>36|169=>39|240=>64|241=>74|276=>80|277=>87|n=>n,λ|31=>68|9=>9|3=>3|4=>4|0=>0|20=>20|72=>90|76=>93|70=>88|37=>36|75=>92|127=>122|164=>138|5=>5|80=>97|n=>n,λ|n=>n⟩
theorem lvJoi:Lays.n156 Tryd.prog q9j:={
 mixed:=by kernel_rfl,
 f156:=Tryd.func23.trans (congrArg some (by kernel_rfl)),
 f165:=Tryd.func45.trans (congrArg some (by kernel_rfl)),
 f166:=Tryd.func36.trans (congrArg some (by kernel_rfl)),
 f169:=Tryd.func39.trans (congrArg some (by kernel_rfl)),
 f240:=Tryd.func64.trans (congrArg some (by kernel_rfl)),
 f241:=Tryd.func74.trans (congrArg some (by kernel_rfl)),
 f276:=Tryd.func80.trans (congrArg some (by kernel_rfl)),
 f277:=Tryd.func87.trans (congrArg some (by kernel_rfl)),
 t0:=Tryd.underlying0,
 a0:=Tryd.isAgg0,
 z0:=Tryd.sizeOf0,
 v0:=Tryd.zeroValue0,
 t3:=Tryd.underlying3,
 a3:=Tryd.isAgg3,
 z3:=Tryd.sizeOf3,
 v3:=Tryd.zeroValue3,
 t4:=Tryd.underlying4,
 a4:=Tryd.isAgg4,
 z4:=Tryd.sizeOf4,
 v4:=Tryd.zeroValue4,
 t9:=Tryd.underlying9,
 a9:=Tryd.isAgg9,
 z9:=Tryd.sizeOf9,
 v9:=Tryd.zeroValue9,
 t20:=Tryd.underlying20,
 a20:=Tryd.isAgg20,
 z20:=Tryd.sizeOf20,
 v20:=Tryd.zeroValue20,
 t31:=Tryd.underlying68,
 a31:=Tryd.isAgg68,
 z31:=Tryd.sizeOf68,
 v31:=Tryd.zeroValue68,
 t37:=Tryd.underlying36,
 a37:=Tryd.isAgg36,
 z37:=Tryd.sizeOf36,
 v37:=Tryd.zeroValue36,
 t70:=Tryd.underlying88,
 a70:=Tryd.isAgg88,
 z70:=Tryd.sizeOf88,
 v70:=Tryd.zeroValue88,
 t72:=Tryd.underlying90,
 a72:=Tryd.isAgg90,
 z72:=Tryd.sizeOf90,
 v72:=Tryd.zeroValue90,
 t75:=Tryd.underlying92,
 a75:=Tryd.isAgg92,
 z75:=Tryd.sizeOf92,
 v75:=Tryd.zeroValue92,
 t76:=Tryd.underlying93,
 a76:=Tryd.isAgg93,
 z76:=Tryd.sizeOf93,
 v76:=Tryd.zeroValue93,
 t127:=Tryd.underlying122,
 a127:=Tryd.isAgg122,
 z127:=Tryd.sizeOf122,
 v127:=Tryd.zeroValue122,
 t164:=Tryd.underlying138,
 a164:=Tryd.isAgg138,
 z164:=Tryd.sizeOf138,
 v164:=Tryd.zeroValue138}
theorem lvJoiX:Builder.Extra Tryd.prog q9j where
 sizeBuilder:=by kernel_rfl
 liesBuilder:=by kernel_rfl
 t5:=Tryd.underlying5
 a5:=Tryd.isAgg5
 z5:=Tryd.sizeOf5
 v5:=Tryd.zeroValue5
 infoByte:=by kernel_rfl
 cellsByte:=by kernel_rfl
 sizeByte:=by kernel_rfl
 neB5:=by decide
def joinC(g:List ByteArray×ByteArray):ByteArray:=⟨(Lib.join (g.1.map (·.data.toList)) g.2.data.toList).toArray⟩
abbrev aLSB:DA (List ByteArray×ByteArray):=.cons dLS (.one dStr)
theorem sjoi_ok:FnPure Tryd.prog 23 aLSB dStr joinC (λg=>[g.1.length<=140737488355328,(joinC g).size<=140737488355328]):=by
 intro w F g vs hF hE hp hf;obtain⟨x,r,rfl,hx,hr⟩:=q03 hf;obtain⟨y,r,rfl,hy,hr⟩:=q03 hr;have:=q0b hr;subst this;have hy:y=_:=hy;subst hy;have hn:g.1.length<=140737488355328:=hp _ (List.mem_cons_self ..);have hj:(joinC g).size<=140737488355328:=hp _ (List.mem_cons_of_mem _ (List.mem_cons_self ..));have hj:(Lib.join (g.1.map (·.data.toList)) g.2.data.toList).length<=140737488355328:=hj;obtain⟨xs,sep⟩:=g;obtain⟨a,c,rfl,h1,h2,h3⟩:=hx;cases xs with
 |nil=>
  refine(Any.strings_Join_none lvJoi lvJoiX a c sep w).mono ?_;rintro e w' ⟨rfl,rfl⟩;exact⟨_,rfl,Below.refl _ _,rfl⟩
 |cons x0 xr=>
  obtain⟨b,o,cs,t,fz,rfl,k1,k2⟩:=h3 (Nat.succ_pos _);have k1':w.heap[b]?=some (.cells cs t fz):=hF _ _ k1;refine(Any.strings_Join lvJoi lvJoiX b o c (x0::xr) sep w (λj x hjx=>?_) ?_ hn h1 hj).mono ?_
  .have hlt:j<(x0::xr).length:=by
    rcases Nat.lt_or_ge j (x0::xr).length with h|h
    .exact h
    .rw[List.getElem?_eq_none h]at hjx;cases hjx
   obtain⟨vs,q1,q2,q3⟩:=k2 j hlt
   have e1:(eStr.els (x0::xr)) j=[.v (.string x)]:=by
    show eStr.cells ((x0::xr).getD j _)=_;rw[List.getD_eq_getElem?_getD,hjx];rfl
   rw[e1]at q2;obtain⟨v,r,rfl,hv,hr⟩:=q03 q2;have:=q0b hr;subst this;have hv:v=.string x:=hv;subst hv;have:=q3 0 _ rfl;rw[show o+j*eStr.sz+0=o+j by show o+j*1+0=o+j;omega]at this;simp only[World.cell?,k1',Option.isSome_none,Bool.false_eq_true,if_false,id_eq];exact this
  .rcases Nat.lt_or_ge b w.heap.size with h|h
   .exact h
   .rw[Array.getElem?_eq_none h]at k1';cases k1'
  .rintro e w' ⟨rfl,hb⟩;exact⟨_,rfl,hb,rfl⟩
abbrev sjoi_con:PCon:=pconP aLSB dStr joinC (λg=>[g.1.length<=140737488355328,(joinC g).size<=140737488355328])
theorem sjoi_fok:FnOk Tryd.prog 23 sjoi_con.g:=q0o sjoi_ok puS
def lvSpl_ren:Go.Shelf.Ren:=⟨λ|146=>50|221=>76|268=>88|138=>89|143=>90|195=>98|197=>99|218=>100|219=>81|260=>103|217=>92|225=>93|224=>94|267=>95|266=>101|314=>102|n=>n,λ|9=>9|31=>68|3=>3|4=>4|0=>0|105=>152|21=>21|5=>5|46=>131|119=>148|139=>151|138=>150|146=>155|51=>154|n=>n,λ|1=>0|3=>1|4=>2|n=>n⟩
theorem lvSpl:Lays.n146 Tryd.prog lvSpl_ren:={
 mixed:=by kernel_rfl,
 f138:=Tryd.func89.trans (congrArg some (by kernel_rfl)),
 f143:=Tryd.func90.trans (congrArg some (by kernel_rfl)),
 f146:=Tryd.func50.trans (congrArg some (by kernel_rfl)),
 f195:=Tryd.func98.trans (congrArg some (by kernel_rfl)),
 f197:=Tryd.func99.trans (congrArg some (by kernel_rfl)),
 f217:=Tryd.func92.trans (congrArg some (by kernel_rfl)),
 f218:=Tryd.func100.trans (congrArg some (by kernel_rfl)),
 f219:=Tryd.func81.trans (congrArg some (by kernel_rfl)),
 f221:=Tryd.func76.trans (congrArg some (by kernel_rfl)),
 f224:=Tryd.func94.trans (congrArg some (by kernel_rfl)),
 f225:=Tryd.func93.trans (congrArg some (by kernel_rfl)),
 f260:=Tryd.func103.trans (congrArg some (by kernel_rfl)),
 f266:=Tryd.func101.trans (congrArg some (by kernel_rfl)),
 f267:=Tryd.func95.trans (congrArg some (by kernel_rfl)),
 f268:=Tryd.func88.trans (congrArg some (by kernel_rfl)),
 f314:=Tryd.func102.trans (congrArg some (by kernel_rfl)),
 t0:=Tryd.underlying0,
 a0:=Tryd.isAgg0,
 z0:=Tryd.sizeOf0,
 v0:=Tryd.zeroValue0,
 t3:=Tryd.underlying3,
 a3:=Tryd.isAgg3,
 z3:=Tryd.sizeOf3,
 v3:=Tryd.zeroValue3,
 t4:=Tryd.underlying4,
 a4:=Tryd.isAgg4,
 z4:=Tryd.sizeOf4,
 v4:=Tryd.zeroValue4,
 t5:=Tryd.underlying5,
 a5:=Tryd.isAgg5,
 z5:=Tryd.sizeOf5,
 v5:=Tryd.zeroValue5,
 t9:=Tryd.underlying9,
 a9:=Tryd.isAgg9,
 z9:=Tryd.sizeOf9,
 v9:=Tryd.zeroValue9,
 t21:=Tryd.underlying21,
 a21:=Tryd.isAgg21,
 z21:=Tryd.sizeOf21,
 v21:=Tryd.zeroValue21,
 t31:=Tryd.underlying68,
 a31:=Tryd.isAgg68,
 z31:=Tryd.sizeOf68,
 v31:=Tryd.zeroValue68,
 t46:=Tryd.underlying131,
 a46:=Tryd.isAgg131,
 z46:=Tryd.sizeOf131,
 v46:=Tryd.zeroValue131,
 t51:=Tryd.underlying154,
 a51:=Tryd.isAgg154,
 z51:=Tryd.sizeOf154,
 v51:=Tryd.zeroValue154,
 t105:=Tryd.underlying152,
 a105:=Tryd.isAgg152,
 z105:=Tryd.sizeOf152,
 v105:=Tryd.zeroValue152,
 t119:=Tryd.underlying148,
 a119:=Tryd.isAgg148,
 z119:=Tryd.sizeOf148,
 t138:=Tryd.underlying150,
 a138:=Tryd.isAgg150,
 z138:=Tryd.sizeOf150,
 v138:=Tryd.zeroValue150,
 t139:=Tryd.underlying151,
 a139:=Tryd.isAgg151,
 z139:=Tryd.sizeOf151,
 v139:=Tryd.zeroValue151,
 t146:=Tryd.underlying155,
 a146:=Tryd.isAgg155,
 z146:=Tryd.sizeOf155,
 v146:=Tryd.zeroValue155,
 g1:=by kernel_rfl,
 g3:=by kernel_rfl,
 g4:=by kernel_rfl}
def q1l(g:ByteArray×ByteArray):List ByteArray:=Lib.splitB g.2 0 (Lib.countB g.1 g.2) g.1
theorem sspl_ok:FnPure Tryd.prog 50 aBB dLS q1l (λg=>[g.1.size<=KS,1<=g.2.size]):=by
 intro w F g vs hF hE hp hf;obtain⟨x,r,rfl,hx,hr⟩:=q03 hf;obtain⟨y,r,rfl,hy,hr⟩:=q03 hr;have:=q0b hr;subst this;have hx:x=_:=hx;subst hx;have hy:y=_:=hy;subst hy;obtain⟨m,hm⟩:=envMax hF hE;have h0:g.1.size<=KS:=hp _ (List.mem_cons_self ..);have h1:1<=g.2.size:=hp _ (List.mem_cons_of_mem _ (List.mem_cons_self ..));unfold KS at h0;obtain⟨s,sep⟩:=g;have h0:s.size<=4294967280:=h0;have h1:1<=sep.size:=h1;refine(Any.strings_Split lvSpl (by kernel_rfl) s sep m w (by omega) hm h1).mono ?_;rintro e w' ⟨rfl,rfl⟩;have hle:=Lib.countB_le sep h1 s.size s (Nat.le_refl _);have hlen:=Lib.splitB_all sep h1 0 _ s rfl;refine⟨_,rfl,(Below.refl _ _).alloc (Nat.le_refl _) _,?_⟩;show SV.fit 0 _ (.rs eStr.sz (q1l (s,sep)).length (eStr.els (q1l (s,sep)))) _;have hl:(q1l (s,sep)).length=Lib.countB s sep+1:=hlen;rw[hl];refine⟨_,_,rfl,Nat.le_refl _,by unfold maxLen;omega,λ_=>⟨_,0,((Lib.splitB sep 0 (Lib.countB s sep) s).map Value.string).toArray,9,(0,0),rfl,?_,λe he=>?_⟩⟩
 .show memAt F w _ w.heap.size=_;unfold memAt;rw[if_neg (Nat.lt_irrefl _)];exact heap_alloc_new w _
 .have he':e<(q1l (s,sep)).length:=by rw[hl];exact he
  refine⟨[.string ((q1l (s,sep))[e]'he')],rfl,?_,λj v hj=>?_⟩
  .have:eStr.els (q1l (s,sep)) e=[.v (.string ((q1l (s,sep))[e]'he'))]:=by
    show eStr.cells ((q1l (s,sep)).getD e _)=_;rw[List.getD_eq_getElem?_getD,List.getElem?_eq_getElem he'];rfl
   rw[this];exact⟨rfl,trivial⟩
  .cases j with
   |succ j=>cases hj
   |zero=>
    have hj:v=_:=(Option.some.inj hj).symm;subst hj;rw[show 0+e*eStr.sz+0=e by show 0+e*1+0=e;omega];rw[List.getElem?_toArray,List.getElem?_map];show(q1l (s,sep))[e]?.map Value.string=_;rw[List.getElem?_eq_getElem he'];rfl
abbrev sspl_con:PCon:=pconR aBB dLS q1l (λg=>[g.1.size<=KS,1<=g.2.size])
theorem sspl_fok:FnOk Tryd.prog 50 sspl_con.g:=q7k sspl_ok
def lvIxb_ren:Go.Shelf.Ren:=⟨λ|137=>79|217=>92|266=>101|n=>n,λ|9=>9|5=>5|3=>3|n=>n,λ|n=>n⟩
theorem lvIxb:Lays.n137 Tryd.prog lvIxb_ren:={
 mixed:=by kernel_rfl,
 f137:=Tryd.func79.trans (congrArg some (by kernel_rfl)),
 f217:=Tryd.func92.trans (congrArg some (by kernel_rfl)),
 f266:=Tryd.func101.trans (congrArg some (by kernel_rfl)),
 t3:=Tryd.underlying3,
 a3:=Tryd.isAgg3,
 z3:=Tryd.sizeOf3,
 v3:=Tryd.zeroValue3,
 t5:=Tryd.underlying5,
 a5:=Tryd.isAgg5,
 z5:=Tryd.sizeOf5,
 v5:=Tryd.zeroValue5,
 t9:=Tryd.underlying9,
 a9:=Tryd.isAgg9,
 z9:=Tryd.sizeOf9,
 v9:=Tryd.zeroValue9}
theorem sixb_ok:FnPure Tryd.prog 79 aB8 dI (λg=>Lib.indexByte g.1.data.toList g.2.toNat.toUInt8) (λg=>[]):=by
 intro w F g vs hF hE hp hf;obtain⟨x,r,rfl,hx,hr⟩:=q03 hf;obtain⟨y,r,rfl,hy,hr⟩:=q03 hr;have:=q0b hr;subst this;have hx:x=_:=hx;subst hx;have hy:y=_:=hy;subst hy;refine((Any.strings_IndexByte lvIxb g.1 g.2 w)).mono ?_;rintro e w' ⟨rfl,rfl⟩;exact⟨_,rfl,Below.refl _ _,rfl⟩
abbrev sixb_con:PCon:=pconP aB8 dI (λg=>Lib.indexByte g.1.data.toList g.2.toNat.toUInt8) (λg=>[])
theorem sixb_fok:FnOk Tryd.prog 79 sixb_con.g:=q0o sixb_ok puI
def lvVal_ren:Go.Shelf.Ren:=⟨λ|196=>84|259=>97|n=>n,λ|9=>9|4=>4|3=>3|5=>5|12=>12|119=>148|0=>0|46=>131|139=>151|138=>150|53=>120|n=>n,λ|3=>1|4=>2|n=>n⟩
theorem lvVal:Lays.n196 Tryd.prog lvVal_ren:={
 mixed:=by kernel_rfl,
 f196:=Tryd.func84.trans (congrArg some (by kernel_rfl)),
 f259:=Tryd.func97.trans (congrArg some (by kernel_rfl)),
 t0:=Tryd.underlying0,
 a0:=Tryd.isAgg0,
 z0:=Tryd.sizeOf0,
 v0:=Tryd.zeroValue0,
 t3:=Tryd.underlying3,
 a3:=Tryd.isAgg3,
 z3:=Tryd.sizeOf3,
 v3:=Tryd.zeroValue3,
 t4:=Tryd.underlying4,
 a4:=Tryd.isAgg4,
 z4:=Tryd.sizeOf4,
 v4:=Tryd.zeroValue4,
 t5:=Tryd.underlying5,
 a5:=Tryd.isAgg5,
 z5:=Tryd.sizeOf5,
 v5:=Tryd.zeroValue5,
 t9:=Tryd.underlying9,
 a9:=Tryd.isAgg9,
 z9:=Tryd.sizeOf9,
 v9:=Tryd.zeroValue9,
 t12:=Tryd.underlying12,
 a12:=Tryd.isAgg12,
 z12:=Tryd.sizeOf12,
 v12:=Tryd.zeroValue12,
 t46:=Tryd.underlying131,
 a46:=Tryd.isAgg131,
 z46:=Tryd.sizeOf131,
 v46:=Tryd.zeroValue131,
 t53:=Tryd.underlying120,
 a53:=Tryd.isAgg120,
 z53:=Tryd.sizeOf120,
 v53:=Tryd.zeroValue120,
 t119:=Tryd.underlying148,
 a119:=Tryd.isAgg148,
 z119:=Tryd.sizeOf148,
 t138:=Tryd.underlying150,
 a138:=Tryd.isAgg150,
 z138:=Tryd.sizeOf150,
 v138:=Tryd.zeroValue150,
 t139:=Tryd.underlying151,
 a139:=Tryd.isAgg151,
 z139:=Tryd.sizeOf151,
 v139:=Tryd.zeroValue151,
 g3:=by kernel_rfl,
 g4:=by kernel_rfl}
theorem val_ok:FnPure Tryd.prog 84 aB dBool (λg=>Lib.validD g.data.toList) (λg=>[g.size<=KB]):=by
 intro w F g vs hF hE hp hf;obtain⟨x,r,rfl,hx,hr⟩:=q03 hf;have:=q0b hr;subst this;have hx:x=_:=hx;subst hx;refine((Any.utf8_ValidString lvVal g w (by have:=hp _ (List.mem_cons_self ..);unfold KB at this;omega) (envTabs hF hE))).mono ?_;rintro e w' ⟨rfl,hb⟩;exact⟨_,rfl,hb,rfl⟩
abbrev val_con:PCon:=pconP aB dBool (λg=>Lib.validD g.data.toList) (λg=>[g.size<=KB])
theorem val_fok:FnOk Tryd.prog 84 val_con.g:=q0o val_ok puB
def lvCut_ren:Go.Shelf.Ren:=⟨λ|145=>40|220=>65|219=>81|217=>92|225=>93|224=>94|267=>95|266=>101|314=>102|n=>n,λ|9=>9|4=>4|59=>101|3=>3|5=>5|46=>131|146=>155|51=>154|n=>n,λ|1=>0|n=>n⟩
theorem lvCut:Lays.n145 Tryd.prog lvCut_ren:={
 mixed:=by kernel_rfl,
 f145:=Tryd.func40.trans (congrArg some (by kernel_rfl)),
 f217:=Tryd.func92.trans (congrArg some (by kernel_rfl)),
 f219:=Tryd.func81.trans (congrArg some (by kernel_rfl)),
 f220:=Tryd.func65.trans (congrArg some (by kernel_rfl)),
 f224:=Tryd.func94.trans (congrArg some (by kernel_rfl)),
 f225:=Tryd.func93.trans (congrArg some (by kernel_rfl)),
 f266:=Tryd.func101.trans (congrArg some (by kernel_rfl)),
 f267:=Tryd.func95.trans (congrArg some (by kernel_rfl)),
 f314:=Tryd.func102.trans (congrArg some (by kernel_rfl)),
 t3:=Tryd.underlying3,
 a3:=Tryd.isAgg3,
 z3:=Tryd.sizeOf3,
 v3:=Tryd.zeroValue3,
 t4:=Tryd.underlying4,
 a4:=Tryd.isAgg4,
 z4:=Tryd.sizeOf4,
 v4:=Tryd.zeroValue4,
 t5:=Tryd.underlying5,
 a5:=Tryd.isAgg5,
 z5:=Tryd.sizeOf5,
 v5:=Tryd.zeroValue5,
 t9:=Tryd.underlying9,
 a9:=Tryd.isAgg9,
 z9:=Tryd.sizeOf9,
 v9:=Tryd.zeroValue9,
 t46:=Tryd.underlying131,
 a46:=Tryd.isAgg131,
 z46:=Tryd.sizeOf131,
 v46:=Tryd.zeroValue131,
 t51:=Tryd.underlying154,
 a51:=Tryd.isAgg154,
 z51:=Tryd.sizeOf154,
 v51:=Tryd.zeroValue154,
 t59:=Tryd.underlying101,
 a59:=Tryd.isAgg101,
 z59:=Tryd.sizeOf101,
 v59:=Tryd.zeroValue101,
 t146:=Tryd.underlying155,
 a146:=Tryd.isAgg155,
 z146:=Tryd.sizeOf155,
 v146:=Tryd.zeroValue155,
 g1:=by kernel_rfl}
theorem scut_ok:FnPure Tryd.prog 40 aBB dBBB (λg=>((⟨(Lib.cut g.1.data.toList g.2.data.toList).1.toArray⟩:ByteArray),(⟨(Lib.cut g.1.data.toList g.2.data.toList).2.1.toArray⟩:ByteArray),(Lib.cut g.1.data.toList g.2.data.toList).2.2)) (λg=>[g.1.size<=KS]):=by
 intro w F g vs hF hE hp hf;obtain⟨x,r,rfl,hx,hr⟩:=q03 hf;obtain⟨y,r,rfl,hy,hr⟩:=q03 hr;have:=q0b hr;subst this;have hx:x=_:=hx;subst hx;have hy:y=_:=hy;subst hy;obtain⟨m,hm⟩:=envMax hF hE;refine((Any.strings_Cut lvCut g.1 g.2 m w (by have:=hp _ (List.mem_cons_self ..);unfold KS at this;omega) hm)).mono ?_;rintro e w' ⟨rfl,n,rfl⟩;exact⟨_,rfl,below_drewM (Below.refl _ _) n,⟨_,rfl,rfl,rfl,rfl,trivial⟩⟩
abbrev scut_con:PCon:=pconP aBB dBBB (λg=>((⟨(Lib.cut g.1.data.toList g.2.data.toList).1.toArray⟩:ByteArray),(⟨(Lib.cut g.1.data.toList g.2.data.toList).2.1.toArray⟩:ByteArray),(Lib.cut g.1.data.toList g.2.data.toList).2.2)) (λg=>[g.1.size<=KS])
theorem scut_fok:FnOk Tryd.prog 40 scut_con.g:=q0o scut_ok puBBB
def lvCpf_ren:Go.Shelf.Ren:=⟨λ|103=>66|210=>82|206=>96|n=>n,λ|9=>9|4=>4|24=>86|3=>3|n=>n,λ|n=>n⟩
theorem lvCpf:Lays.n103 Tryd.prog lvCpf_ren:={
 mixed:=by kernel_rfl,
 f103:=Tryd.func66.trans (congrArg some (by kernel_rfl)),
 f206:=Tryd.func96.trans (congrArg some (by kernel_rfl)),
 f210:=Tryd.func82.trans (congrArg some (by kernel_rfl)),
 t3:=Tryd.underlying3,
 a3:=Tryd.isAgg3,
 z3:=Tryd.sizeOf3,
 v3:=Tryd.zeroValue3,
 t4:=Tryd.underlying4,
 a4:=Tryd.isAgg4,
 z4:=Tryd.sizeOf4,
 v4:=Tryd.zeroValue4,
 t9:=Tryd.underlying9,
 a9:=Tryd.isAgg9,
 z9:=Tryd.sizeOf9,
 v9:=Tryd.zeroValue9,
 t24:=Tryd.underlying86,
 a24:=Tryd.isAgg86,
 z24:=Tryd.sizeOf86,
 v24:=Tryd.zeroValue86}
theorem scpf_ok:FnPure Tryd.prog 66 aBB dBB (λg=>((⟨(Lib.trimPrefix g.1.data.toList g.2.data.toList).toArray⟩:ByteArray),Lib.hasPrefix g.1.data.toList g.2.data.toList)) (λg=>[]):=by
 intro w F g vs hF hE hp hf;obtain⟨x,r,rfl,hx,hr⟩:=q03 hf;obtain⟨y,r,rfl,hy,hr⟩:=q03 hr;have:=q0b hr;subst this;have hx:x=_:=hx;subst hx;have hy:y=_:=hy;subst hy;refine((Any.strings_CutPrefix lvCpf g.1 g.2 w)).mono ?_;rintro e w' ⟨rfl,rfl⟩;exact⟨_,rfl,Below.refl _ _,⟨_,rfl,rfl,rfl,trivial⟩⟩
abbrev scpf_con:PCon:=pconP aBB dBB (λg=>((⟨(Lib.trimPrefix g.1.data.toList g.2.data.toList).toArray⟩:ByteArray),Lib.hasPrefix g.1.data.toList g.2.data.toList)) (λg=>[])
theorem scpf_fok:FnOk Tryd.prog 66 scpf_con.g:=q0o scpf_ok puBB
def q3f:PTab Tryd.prog:=((((((tabN8.cons 23 sjoi_con sjoi_fok).cons 50 sspl_con sspl_fok).cons 79 sixb_con sixb_fok).cons 84 val_con val_fok).cons 40 scut_con scut_fok).cons 66 scpf_con scpf_fok)
end
end Go.Proofs.YtapdglacmebbaaaDoor

namespace Go.Proofs.YtapdglacmebbaaaDoor
open Go.ChangeShapes Go.WideShapes Go.ChangeAt Go.RowKit Go.Sx Go.Shelf
theorem q4t{W:World}{b i:Nat}{v:Value}(h:W.cell? ⟨b,i,none⟩=some v):∃cs t fz,W.heap[b]?=some (.cells cs t fz)/\cs[i]?=some v:=by
 unfold World.cell? at h;simp only[Option.isSome_none,Bool.false_eq_true,if_false,id_eq]at h;cases hb:W.heap[b]? with
 |none=>rw[hb]at h;cases h
 |some o=>
  rw[hb]at h;cases o with
  |cells cs t fz=>exact⟨cs,t,fz,rfl,h⟩
  |_=>cases h
abbrev laidL:List (String×DataW Unit):=[("unicode/utf8.acceptRanges",Rows.laid_unicode_utf8_acceptRanges),("unicode/utf8.first",Rows.laid_unicode_utf8_first)]
theorem laidFirst:Rows.laid_unicode_utf8_first=Lib.firstData:=by kernel_rfl
theorem laidAccept:Rows.laid_unicode_utf8_acceptRanges=Lib.acceptData:=by kernel_rfl
set_option maxRecDepth 100000 in
theorem rowEnv{W:World}(h:laidMetH Tryd.prog laidL W)(hs:W.ShapedOpen Tryd.prog):EnvF (λb=>W.heap[b]?):=by
 rw[MakeChecks.laidMetH_plain _ _ _ (by kernel_rfl)]at h;have hT:Lib.Utf8Tabs 1 2 W:=utf8Tabs_of_readsT (U8Types.of196 lvVal) ⟨by kernel_rfl,by kernel_rfl,by kernel_rfl,by kernel_rfl,by kernel_rfl,by kernel_rfl,by kernel_rfl⟩ (by rw[<-laidFirst];exact Lib.laidMet.reads h (.tail _ (.head _))) (by rw[<-laidAccept];exact Lib.laidMet.reads h (.head _));obtain⟨m,hm⟩:∃m,W.cell? ⟨0,0,none⟩=some (.int .i64 m):=cell_of_shapedOpen_int (t:=3) (zero:=#[.int .i64 0]) hs (of_decide_eq_true (by kernel_rfl)) (by kernel_rfl) rfl (by kernel_rfl) (by kernel_rfl) Tryd.underlying3;refine⟨?_,?_,?_⟩
 .obtain⟨cs,t,fz,h1,_⟩:=q4t (hT.1 0 (by decide));refine⟨cs,t,fz,h1,λc hc=>?_⟩;obtain⟨cs',t',fz',k1,k2⟩:=q4t (hT.1 c hc);rw[h1]at k1;cases k1;exact k2
 .obtain⟨cs,t,fz,h1,_⟩:=q4t (hT.2 0 (by decide)).1;refine⟨cs,t,fz,h1,λi hi=>⟨?_,?_⟩⟩
  .obtain⟨cs',t',fz',k1,k2⟩:=q4t (hT.2 i hi).1;rw[h1]at k1;cases k1;exact k2
  .obtain⟨cs',t',fz',k1,k2⟩:=q4t (hT.2 i hi).2;rw[h1]at k1;cases k1;exact k2
 .obtain⟨cs,t,fz,h1,h2⟩:=q4t hm;exact⟨cs,t,fz,h1,m,h2⟩
theorem rowLaid{H:Type}{enc:TypeId×Value->H}{a:Assume}{C:Checked}{os:Os}{f:FuncId}{fn:Func}{s:ChangeSpec}{conds:List PathCond}{apart fresh handsOn again:Bool}{laid:List (String×DataW Unit)}
  (own:ownKnob C.prog.godebug=none) (started:os.Started) (noInit:C.prog.inits.idxOf? f=none) (hfn:C.prog.funcs[f]?=some fn)
  (witness:∃(w:World)(tape:Tape)(i:Input),w.os=os/\(w.forCall tape i).Shaped C.prog/\i.vars=[]/\Input.okWide C.prog (w.forCall tape i) .any w.heap.size f i/\
   ((s.pre enc C.prog fn conds apart (w.forCall tape i).memory i.args/\laidMetH C.prog laid (w.forCall tape i).memory)/\sizedMet enc C.prog fn (OpenSpec.ofChange s) apart (w.forCall tape i).memory i.args)/\a.holds C.prog (lone (Frame.enter C.prog f i.args .normal) [] (w.forCall tape i)))
  (contract:∀(W:World)(base:Nat)(args:Array Value)(ds gs:List (DataW H))(before:List MemPlace),
   (∀(j:Nat)t v,fn.params[j]?=some t->args[j]?=some v->Value.okWide C.prog W .any base t v)->
   DataW.Whole enc C.prog fn.params.toList s.vars apart W args.toList ds gs before->
   conds.all (PathCond.test C.prog ⟨fn.params.toList,ds,s.plain.varTypes C.prog,gs⟩)=true->
   laidMetH C.prog laid W->W.ShapedOpen C.prog->
   Calls C.prog f args W λe W'=>∃v,e=.returned v/\s.post enc C.prog fn apart fresh handsOn again W args v W') :
  ReturnsInHanded a C os f .any (λw args=>(s.pre enc C.prog fn conds apart w args/\laidMetH C.prog laid w)/\sizedMet enc C.prog fn (OpenSpec.ofChange s) apart w args) (s.post enc C.prog fn apart fresh handsOn again):=by
 refine returnsInHanded_of_calls own started noInit witness ?_;intro w tape i _ hsh _ hok hpre hholds;obtain⟨_,_,_,fn',hfn',_,_,_,_,hval⟩:=hok;have e:fn'=fn:=Option.some.inj (hfn'.symm.trans hfn);subst e;obtain⟨⟨⟨ds,gs,before,hw,hc⟩,hl⟩,hz⟩:=hpre;have hw':=DataW.Whole.of_heap (w':=w.forCall tape i) (by rfl) hw;refine(contract (w.forCall tape i) w.heap.size i.args ds gs before hval hw' hc (hl.of_heap (by rfl)) hsh).mono λe W'⟨v,he,hp⟩=>?_;subst he;exact ChangeSpec.post_blind hp
end Go.Proofs.YtapdglacmebbaaaDoor
