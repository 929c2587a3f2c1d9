/- Chapter 21: times, records, nodes, messages, coordinators as plain data; the environment: the tables of unicode/utf8. -/
import Derived.Test.YtfkdbifgppfegaaDoorRows
import Derived.Test.YtfkdbifgppfegaaDoorZG04a3c07c
import Derived.Test.YtfkdbifgppfegaaDoorZG06f19b95
import Derived.Test.YtfkdbifgppfegaaDoorZG053af284
import Derived.Shelf.Unicode.DecodeSlow
import Derived.Shelf.Unicode.ValidAny
set_option linter.unusedVariables false
set_option linter.unusedSimpArgs false
set_option linter.constructorNameAsVariable false
set_option linter.all false

namespace Go.Proofs.YtfkdbifgppfegaaDoor
open Go.RowKit Go.Sx
abbrev BA:=ByteArray
abbrev eI:El Int:=eInt .i64
abbrev I2:=Int×Int
abbrev I4:=Int×Int×Int×Int
abbrev e4:El I4:=.pair eI (.pair eI (.pair eI eI))
structure T where
 e:Int
 d:Int
 l0:Int
 l1:Int
 l2:Int
 l3:Int
deriving DecidableEq,Inhabited
abbrev I6:=Int×Int×I4
def T.ofP:I6->T:=λ(e,d,l0,l1,l2,l3)=>⟨e,d,l0,l1,l2,l3⟩
def T.toP(t:T):I6:=(t.e,t.d,t.l0,t.l1,t.l2,t.l3)
def eT:El T:=.iso (.pair eI (.pair eI e4)) T.ofP T.toP (λ_=>rfl) (λ_=>rfl)
structure Place where
 node:Int
 port:Int
deriving DecidableEq,Inhabited
def Place.ofP:I2->Place:=λ(a,b)=>⟨a,b⟩
def Place.toP(p:Place):I2:=(p.node,p.port)
def eP:El Place:=.iso (.pair eI eI) Place.ofP Place.toP (λ_=>rfl) (λ_=>rfl)
structure Change where
 p:Place
 t:T
 n:Int
deriving DecidableEq,Inhabited
abbrev PTI:=Place×T×Int
def Change.ofP:PTI->Change:=λ(a,b,c)=>⟨a,b,c⟩
def Change.toP(x:Change):PTI:=(x.p,x.t,x.n)
def eC:El Change:=.iso (.pair eP (.pair eT eI)) Change.ofP Change.toP (λ_=>rfl) (λ_=>rfl)
structure Rec where
 key:Int
 text:BA
deriving DecidableEq,Inhabited
abbrev IB:=Int×BA
def Rec.ofP:IB->Rec:=λ(k,t)=>⟨k,t⟩
def Rec.toP(r:Rec):IB:=(r.key,r.text)
def eR:El Rec:=.iso (.pair eI eStr) Rec.ofP Rec.toP (λ_=>rfl) (λ_=>rfl)
structure Fn where
 kind:Int
 a:Int
 s:BA
deriving DecidableEq,Inhabited
abbrev IIB:=Int×Int×BA
def Fn.ofP:IIB->Fn:=λ(k,a,t)=>⟨k,a,t⟩
def Fn.toP(r:Fn):IIB:=(r.kind,r.a,r.s)
def eF:El Fn:=.iso (.pair eI (.pair eI eStr)) Fn.ofP Fn.toP (λ_=>rfl) (λ_=>rfl)
structure Ent where
 node:Int
 key:Int
 text:BA
 n:Int
deriving DecidableEq,Inhabited
abbrev IIBI:=Int×Int×BA×Int
def Ent.ofP:IIBI->Ent:=λ(a,b,c,d)=>⟨a,b,c,d⟩
def Ent.toP(r:Ent):IIBI:=(r.node,r.key,r.text,r.n)
def eN:El Ent:=.iso (.pair eI (.pair eI (.pair eStr eI))) Ent.ofP Ent.toP (λ_=>rfl) (λ_=>rfl)
structure Nd where
 id:Int
 kind:Int
 ins:List Int
 fn:Fn
 name:BA
 cap:Int
 d:Int
deriving DecidableEq,Inhabited
abbrev eLI:El (List Int):=eList eI
abbrev NdP:=Int×Int×List Int×Fn×BA×Int×Int
def Nd.ofP:NdP->Nd:=λ(a,b,c,d,e,f,g)=>⟨a,b,c,d,e,f,g⟩
def Nd.toP(x:Nd):NdP:=(x.id,x.kind,x.ins,x.fn,x.name,x.cap,x.d)
def eD:El Nd:=.iso (.pair eI (.pair eI (.pair eLI (.pair eF (.pair eStr (.pair eI eI)))))) Nd.ofP Nd.toP (λ_=>rfl) (λ_=>rfl)
structure Mv where
 fr:Int
 «to»:Int
 kind:Int
 a:Int
 fn:Fn
deriving DecidableEq,Inhabited
abbrev MvP:=Int×Int×Int×Int×Fn
def Mv.ofP:MvP->Mv:=λ(a,b,c,d,e)=>⟨a,b,c,d,e⟩
def Mv.toP(x:Mv):MvP:=(x.fr,x.to,x.kind,x.a,x.fn)
def eV:El Mv:=.iso (.pair eI (.pair eI (.pair eI (.pair eI eF)))) Mv.ofP Mv.toP (λ_=>rfl) (λ_=>rfl)
structure Dl where
 drop:List Int
 put:List Nd
 moves:List Mv
deriving DecidableEq,Inhabited
abbrev eLD:El (List Nd):=eList eD
abbrev eLV:El (List Mv):=eList eV
abbrev DlP:=List Int×List Nd×List Mv
def Dl.ofP:DlP->Dl:=λ(a,b,c)=>⟨a,b,c⟩
def Dl.toP(x:Dl):DlP:=(x.drop,x.put,x.moves)
def eDl:El Dl:=.iso (.pair eLI (.pair eLD eLV)) Dl.ofP Dl.toP (λ_=>rfl) (λ_=>rfl)
structure Ms where
 kind:Int
 ver:Int
 p:Place
 t:T
 recs:List Rec
 changes:List Change
 dl:Dl
 cut:Int
 ents:List Ent
 yes:Bool
 why:Int
deriving DecidableEq,Inhabited
abbrev eLR:El (List Rec):=eList eR
abbrev eLC:El (List Change):=eList eC
abbrev eLN:El (List Ent):=eList eN
abbrev MsP:=Int×Int×Place×T×List Rec×List Change×Dl×Int×List Ent×Bool×Int
def Ms.ofP:MsP->Ms:=λ(a,b,c,d,e,f,g,h,i,j,k)=>⟨a,b,c,d,e,f,g,h,i,j,k⟩
def Ms.toP(x:Ms):MsP:=(x.kind,x.ver,x.p,x.t,x.recs,x.changes,x.dl,x.cut,x.ents,x.yes,x.why)
def eMs:El Ms:=.iso (.pair eI (.pair eI (.pair eP (.pair eT (.pair eLR (.pair eLC (.pair eDl (.pair eI (.pair eLN (.pair eBool eI)))))))))) Ms.ofP Ms.toP (λ_=>rfl) (λ_=>rfl)
structure Ld where
 workers:Int
 stage:Int
 ver:Int
 cut:Int
 dl:Dl
 voted:List Bool
 yes:Bool
 why:Int
 ents:List Ent
deriving DecidableEq,Inhabited
abbrev eLB:El (List Bool):=eList eBool
abbrev LdP:=Int×Int×Int×Int×Dl×List Bool×Bool×Int×List Ent
def Ld.ofP:LdP->Ld:=λ(a,b,c,d,e,f,g,h,i)=>⟨a,b,c,d,e,f,g,h,i⟩
def Ld.toP(x:Ld):LdP:=(x.workers,x.stage,x.ver,x.cut,x.dl,x.voted,x.yes,x.why,x.ents)
def eL:El Ld:=.iso (.pair eI (.pair eI (.pair eI (.pair eI (.pair eDl (.pair eLB (.pair eBool (.pair eI eLN)))))))) Ld.ofP Ld.toP (λ_=>rfl) (λ_=>rfl)
structure Do where
 kind:Int
 worker:Int
 cut:Int
 why:Int
 dl:Dl
 m:Ms
deriving DecidableEq,Inhabited
abbrev DoP:=Int×Int×Int×Int×Dl×Ms
def Do.ofP:DoP->Do:=λ(a,b,c,d,e,f)=>⟨a,b,c,d,e,f⟩
def Do.toP(x:Do):DoP:=(x.kind,x.worker,x.cut,x.why,x.dl,x.m)
abbrev dI:Dv Int:=dInt .i64
abbrev d8:Dv Int:=dInt .u8
abbrev dT:Dv T:=.agg eT
abbrev dR:Dv Rec:=.agg eR
abbrev dN:Dv Ent:=.agg eN
abbrev dD:Dv Nd:=.agg eD
abbrev dDl:Dv Dl:=.agg eDl
abbrev dMs:Dv Ms:=.agg eMs
abbrev dL:Dv Ld:=.agg eL
abbrev dLI:Dv (List Int):=.list eI
abbrev dLB:Dv (List Bool):=.list eBool
abbrev dLR:Dv (List Rec):=.list eR
abbrev dLC:Dv (List Change):=.list eC
abbrev dLN:Dv (List Ent):=.list eN
abbrev dLD:Dv (List Nd):=.list eD
abbrev dLV:Dv (List Mv):=.list eV
abbrev dLMs:Dv (List Ms):=.list eMs
abbrev aI:DA Int:=.one dI
abbrev aII:DA (Int×Int):=.cons dI (.one dI)
abbrev aB:DA BA:=.one dStr
abbrev aBI:DA (BA×Int):=.cons dStr (.one dI)
abbrev aT:DA T:=.one dT
abbrev aR:DA Rec:=.one dR
abbrev aDD:DA (Nd×Nd):=.cons dD (.one dD)
abbrev aDlDl:DA (Dl×Dl):=.cons dDl (.one dDl)
abbrev aM:DA Ms:=.one dMs
abbrev aMM:DA (Ms×Ms):=.cons dMs (.one dMs)
abbrev aL:DA Ld:=.one dL
abbrev aLL:DA (Ld×Ld):=.cons dL (.one dL)
theorem puI(r:Int):Pu (dI.enc r):=pu_v _
theorem puB(r:Bool):Pu (dBool.enc r):=pu_v _
def HoldsC(F:Nat->Option Obj)(b:Nat)(p:Array Value->Prop):Prop:=∃cs t fz,F b=some (.cells cs t fz)/\p cs
theorem HoldsC.mono{F G:Nat->Option Obj}{b:Nat}{p:Array Value->Prop}(h:∀b o,F b=some o->dataO o->G b=some o)(hp:HoldsC F b p):HoldsC G b p:=by
 obtain⟨cs,t,fz,h1,h2⟩:=hp;exact⟨cs,t,fz,h _ _ h1 trivial,h2⟩
def EnvF(F:Nat->Option Obj):Prop:=
 HoldsC F 0 (λcs=>∀c,c<256->cs[c]?=some (.int .u8 (Lib.firstT c)))/\
 HoldsC F 1 (λcs=>∀i,i<16->cs[2*i]?=some (.int .u8 (Lib.accLo i))/\cs[2*i+1]?=some (.int .u8 (Lib.accHi i)))
instance envU:Env where
 E:=EnvF
 mono _ _ h hE:=⟨hE.1.mono h,hE.2.mono h⟩
 Ab:=Empty
 rep a:=a.elim
 rep_cl a:=a.elim
noncomputable def tab0:PTab Tryd.prog:=PTab.nil
theorem HoldsC.cell{F:Nat->Option Obj}{w:World}{b:Nat}{p:Array Value->Prop}(hF:∀b o,F b=some o->w.heap[b]?=some o)(hp:HoldsC F b p):∃cs,p cs/\∀i v,cs[i]?=some v->w.cell? ⟨b,i,none⟩=some v:=by
 obtain⟨cs,t,fz,h1,h2⟩:=hp;refine⟨cs,h2,λi v hv=>?_⟩;simp only[World.cell?,hF _ _ h1,Option.isSome_none,Bool.false_eq_true,if_false,id_eq];exact hv
theorem envTabs{F:Nat->Option Obj}{w:World}(hF:∀b o,F b=some o->w.heap[b]?=some o)(hE:EnvF F):Lib.Utf8Tabs 0 1 w:=by
 obtain⟨c1,h1,k1⟩:=hE.1.cell hF;obtain⟨c2,h2,k2⟩:=hE.2.cell hF;exact⟨λc hc=>k1 _ _ (h1 c hc),λi hi=>⟨k2 _ _ (h2 i hi).1,k2 _ _ (h2 i hi).2⟩⟩
end Go.Proofs.YtfkdbifgppfegaaDoor

namespace Go.Proofs.YtfkdbifgppfegaaDoor
open Go.RowKit Go.Sx
set_option maxRecDepth 100000
abbrev a8:DA Int:=.one d8
noncomputable def tail_F(c:Int):Dv.T dBool:=
 decide (c>=(128:Int))&&decide (c<=(191:Int))
theorem tail_ok:FnPure Tryd.prog 126 a8 dBool (λg=>tail_F g) (λ_=>[]):=pure_of_safe (Γ:=(PTab.gamz tab0 [] [])) (Λ:=noΛ) (PTab.okz tab0 [] []) noΛ_ok 100 default (λg=>by kernel_rfl) (λg=>by kernel_rfl)
noncomputable def tabA1:PTab Tryd.prog:=(tab0).cons 126 (pconP a8 dBool (λg=>tail_F g) (λ_=>[])) (conP_ok tail_ok puB)
end Go.Proofs.YtfkdbifgppfegaaDoor

namespace Go.Proofs.YtfkdbifgppfegaaDoor
open Go.RowKit Go.Sx
set_option maxRecDepth 100000
noncomputable def wid_F(s:BA)(i:Int):Dv.T dI:=
 bif decide ((↑(ByteArray.get! s i.toNat).toNat:Int)<(128:Int))then(1:Int)
 else bif decide ((↑(ByteArray.get! s i.toNat).toNat:Int)>=(194:Int))&&(decide ((↑(ByteArray.get! s i.toNat).toNat:Int)<=(223:Int))&&(decide (IntKind.i64.wrap ((↑(ByteArray.size s):Int)-i)>=(2:Int))&&tail_F (bif decide (IntKind.i64.wrap ((↑(ByteArray.size s):Int)-i)>(1:Int))then(↑(ByteArray.get! s (IntKind.i64.wrap (i+(1:Int))).toNat).toNat:Int)else(0:Int))))then(2:Int)else bif decide ((↑(ByteArray.get! s i.toNat).toNat:Int)>=(224:Int))&&(decide ((↑(ByteArray.get! s i.toNat).toNat:Int)<=(239:Int))&&(decide (IntKind.i64.wrap ((↑(ByteArray.size s):Int)-i)>=(3:Int))&&(tail_F (bif decide (IntKind.i64.wrap ((↑(ByteArray.size s):Int)-i)>(1:Int))then(↑(ByteArray.get! s (IntKind.i64.wrap (i+(1:Int))).toNat).toNat:Int)else(0:Int))&&tail_F (↑(ByteArray.get! s (IntKind.i64.wrap (i+(2:Int))).toNat).toNat:Int))))then bif bif (↑(ByteArray.get! s i.toNat).toNat:Int)==(224:Int)then decide ((bif decide (IntKind.i64.wrap ((↑(ByteArray.size s):Int)-i)>(1:Int))then(↑(ByteArray.get! s (IntKind.i64.wrap (i+(1:Int))).toNat).toNat:Int)else(0:Int))<(160:Int))||(↑(ByteArray.get! s i.toNat).toNat:Int)==(237:Int)&&decide ((bif decide (IntKind.i64.wrap ((↑(ByteArray.size s):Int)-i)>(1:Int))then(↑(ByteArray.get! s (IntKind.i64.wrap (i+(1:Int))).toNat).toNat:Int)else(0:Int))>(159:Int))else(↑(ByteArray.get! s i.toNat).toNat:Int)==(237:Int)&&decide ((bif decide (IntKind.i64.wrap ((↑(ByteArray.size s):Int)-i)>(1:Int))then(↑(ByteArray.get! s (IntKind.i64.wrap (i+(1:Int))).toNat).toNat:Int)else(0:Int))>(159:Int))then(0:Int)else(3:Int)else bif decide ((↑(ByteArray.get! s i.toNat).toNat:Int)>=(240:Int))&&(decide ((↑(ByteArray.get! s i.toNat).toNat:Int)<=(244:Int))&&(decide (IntKind.i64.wrap ((↑(ByteArray.size s):Int)-i)>=(4:Int))&&(tail_F (bif decide (IntKind.i64.wrap ((↑(ByteArray.size s):Int)-i)>(1:Int))then(↑(ByteArray.get! s (IntKind.i64.wrap (i+(1:Int))).toNat).toNat:Int)else(0:Int))&&(tail_F (↑(ByteArray.get! s (IntKind.i64.wrap (i+(2:Int))).toNat).toNat:Int)&&tail_F (↑(ByteArray.get! s (IntKind.i64.wrap (i+(3:Int))).toNat).toNat:Int)))))then bif bif (↑(ByteArray.get! s i.toNat).toNat:Int)==(240:Int)then decide ((bif decide (IntKind.i64.wrap ((↑(ByteArray.size s):Int)-i)>(1:Int))then(↑(ByteArray.get! s (IntKind.i64.wrap (i+(1:Int))).toNat).toNat:Int)else(0:Int))<(144:Int))||(↑(ByteArray.get! s i.toNat).toNat:Int)==(244:Int)&&decide ((bif decide (IntKind.i64.wrap ((↑(ByteArray.size s):Int)-i)>(1:Int))then(↑(ByteArray.get! s (IntKind.i64.wrap (i+(1:Int))).toNat).toNat:Int)else(0:Int))>(143:Int))else(↑(ByteArray.get! s i.toNat).toNat:Int)==(244:Int)&&decide ((bif decide (IntKind.i64.wrap ((↑(ByteArray.size s):Int)-i)>(1:Int))then(↑(ByteArray.get! s (IntKind.i64.wrap (i+(1:Int))).toNat).toNat:Int)else(0:Int))>(143:Int))then(0:Int)else(4:Int)else(0:Int)
def wid_side(s:BA)(i:Int):Prop:=
 ((0:Int)<=i/\i<(↑(ByteArray.size s):Int))/\(decide (IntKind.i64.wrap ((↑(ByteArray.size s):Int)-i)>(1:Int))=true->(0:Int)<=IntKind.i64.wrap (i+(1:Int))/\IntKind.i64.wrap (i+(1:Int))<(↑(ByteArray.size s):Int))/\(decide ((↑(ByteArray.get! s i.toNat).toNat:Int)<(128:Int))=false->(decide ((↑(ByteArray.get! s i.toNat).toNat:Int)>=(194:Int))&&(decide ((↑(ByteArray.get! s i.toNat).toNat:Int)<=(223:Int))&&(decide (IntKind.i64.wrap ((↑(ByteArray.size s):Int)-i)>=(2:Int))&&tail_F (bif decide (IntKind.i64.wrap ((↑(ByteArray.size s):Int)-i)>(1:Int))then(↑(ByteArray.get! s (IntKind.i64.wrap (i+(1:Int))).toNat).toNat:Int)else(0:Int)))))=false->(decide ((↑(ByteArray.get! s i.toNat).toNat:Int)>=(224:Int))=true->decide ((↑(ByteArray.get! s i.toNat).toNat:Int)<=(239:Int))=true->decide (IntKind.i64.wrap ((↑(ByteArray.size s):Int)-i)>=(3:Int))=true->tail_F (bif decide (IntKind.i64.wrap ((↑(ByteArray.size s):Int)-i)>(1:Int))then(↑(ByteArray.get! s (IntKind.i64.wrap (i+(1:Int))).toNat).toNat:Int)else(0:Int))=true->(0:Int)<=IntKind.i64.wrap (i+(2:Int))/\IntKind.i64.wrap (i+(2:Int))<(↑(ByteArray.size s):Int))/\((decide ((↑(ByteArray.get! s i.toNat).toNat:Int)>=(224:Int))&&(decide ((↑(ByteArray.get! s i.toNat).toNat:Int)<=(239:Int))&&(decide (IntKind.i64.wrap ((↑(ByteArray.size s):Int)-i)>=(3:Int))&&(tail_F (bif decide (IntKind.i64.wrap ((↑(ByteArray.size s):Int)-i)>(1:Int))then(↑(ByteArray.get! s (IntKind.i64.wrap (i+(1:Int))).toNat).toNat:Int)else(0:Int))&&tail_F (↑(ByteArray.get! s (IntKind.i64.wrap (i+(2:Int))).toNat).toNat:Int)))))=false->(decide ((↑(ByteArray.get! s i.toNat).toNat:Int)>=(240:Int))=true->decide ((↑(ByteArray.get! s i.toNat).toNat:Int)<=(244:Int))=true->decide (IntKind.i64.wrap ((↑(ByteArray.size s):Int)-i)>=(4:Int))=true->tail_F (bif decide (IntKind.i64.wrap ((↑(ByteArray.size s):Int)-i)>(1:Int))then(↑(ByteArray.get! s (IntKind.i64.wrap (i+(1:Int))).toNat).toNat:Int)else(0:Int))=true->(0:Int)<=IntKind.i64.wrap (i+(2:Int))/\IntKind.i64.wrap (i+(2:Int))<(↑(ByteArray.size s):Int))/\(decide ((↑(ByteArray.get! s i.toNat).toNat:Int)>=(240:Int))=true->decide ((↑(ByteArray.get! s i.toNat).toNat:Int)<=(244:Int))=true->decide (IntKind.i64.wrap ((↑(ByteArray.size s):Int)-i)>=(4:Int))=true->tail_F (bif decide (IntKind.i64.wrap ((↑(ByteArray.size s):Int)-i)>(1:Int))then(↑(ByteArray.get! s (IntKind.i64.wrap (i+(1:Int))).toNat).toNat:Int)else(0:Int))=true->tail_F (↑(ByteArray.get! s (IntKind.i64.wrap (i+(2:Int))).toNat).toNat:Int)=true->(0:Int)<=IntKind.i64.wrap (i+(3:Int))/\IntKind.i64.wrap (i+(3:Int))<(↑(ByteArray.size s):Int))))
theorem wid_okS(pre:DA.T aBI->List Prop)(h:∀g,DA.bd aBI g->(∀p∈pre g,p)->wid_side g.1 g.2):FnPure Tryd.prog 122 aBI dI (λg=>wid_F g.1 g.2) pre:=pure_of_sideS (Γ:=(PTab.gamz tabA1 [] [])) (Λ:=noΛ) (PTab.okz tabA1 [] []) noΛ_ok 100 default (λg=>wid_side g.1 g.2) (λg=>by kernel_rfl) (λg=>by kernel_rfl) h
noncomputable def tabA2:PTab Tryd.prog:=tabA1
end Go.Proofs.YtfkdbifgppfegaaDoor

namespace Go.Proofs.YtfkdbifgppfegaaDoor
open Go.RowKit Go.Sx Go.Lp
def KB:Nat:=1099511627776
theorem wrS{x:Int}(h:-9223372036854775808<=x/\x<=9223372036854775807):IntKind.i64.wrap x=x:=by
 have:IntKind.i64.wrap x=(if 9223372036854775808<=x%18446744073709551616 then x%18446744073709551616-18446744073709551616 else x%18446744073709551616):=by
  unfold IntKind.wrap;simp[IntKind.bits,IntKind.signed]
 rw[this];split<;>omega
def widN(n b0 b1 b2 b3:Nat):Int:=if(Lib.decodeN n b0 b1 b2 b3).1=65533/\(Lib.decodeN n b0 b1 b2 b3).2=1 then 0 else(Lib.decodeN n b0 b1 b2 b3).2
def widZ(s:BA)(i:Nat):Int:=if(Utf8.decode s i).1=65533/\(Utf8.decode s i).2=1 then 0 else(Utf8.decode s i).2
theorem widZ_eq(s:BA)(i:Nat):widZ s i=widN (s.size-i) (s.get! i).toNat (s.get! (i+1)).toNat (s.get! (i+2)).toNat (s.get! (i+3)).toNat:=by
 unfold widZ widN;rw[Lib.decode_at]
theorem wid_law(n b0 b1 b2 b3:Nat)(h0:b0<256)(h1:b1<256)(h2:b2<256)(h3:b3<256)(hn:1<=n):
  widN n b0 b1 b2 b3=if b0<128 then 1 else if 194<=b0/\b0<=223/\2<=n/\128<=b1/\b1<=191 then 2 else
   if 224<=b0/\b0<=239/\3<=n/\128<=b1/\b1<=191/\128<=b2/\b2<=191 then(if b0=224/\b1<160\/b0=237/\159<b1 then 0 else 3)else
   if 240<=b0/\b0<=244/\4<=n/\128<=b1/\b1<=191/\128<=b2/\b2<=191/\128<=b3/\b3<=191 then(if b0=240/\b1<144\/b0=244/\143<b1 then 0 else 4)else 0:=by
 unfold widN;rcases Lib.decodeN_shape n b0 b1 b2 b3 with ⟨c,e⟩|⟨c1,c2,c3,cv,e⟩|⟨c1,c2,c3,c4,cv,cs,e⟩|⟨c1,c2,c3,c4,c5,cv,cw,e⟩|e
 .rw[e,if_pos c,if_neg (by intro h;have:=h.1;dsimp only at this;omega)];rfl
 .rw[e,if_neg (by intro h;have:=h.2;dsimp only at this;omega),if_neg (by omega),if_pos (by omega)];rfl
 .rw[e,if_neg (by intro h;have:=h.2;dsimp only at this;omega),if_neg (by omega),if_neg (by omega),if_pos (by omega),if_neg (by omega)];rfl
 .rw[e,if_neg (by intro h;have:=h.2;dsimp only at this;omega),if_neg (by omega),if_neg (by omega),if_neg (by omega),if_pos (by omega),if_neg (by omega)];rfl
 .rw[e,if_pos ⟨rfl,rfl⟩];unfold Lib.decodeN at e;split at e
  .simp only[Prod.mk.injEq]at e;omega
  split at e
  .split at e
   .simp only[Prod.mk.injEq]at e;omega
   .rw[if_neg (by omega),if_neg (by omega),if_neg (by omega),if_neg (by omega)]
  split at e
  .split at e
   .simp only[Prod.mk.injEq]at e;omega
   .rw[if_neg (by omega),if_neg (by omega)];split
    .rw[if_pos (by omega)]
    .rw[if_neg (by omega)]
  split at e
  .split at e
   .simp only[Prod.mk.injEq]at e;omega
   .rw[if_neg (by omega),if_neg (by omega),if_neg (by omega)];split
    .rw[if_pos (by omega)]
    .rfl
  .rw[if_neg (by omega),if_neg (by omega),if_neg (by omega),if_neg (by omega)]
def widB(n b0 b1 b2 b3:Int):Int:=
 bif decide (b0<128)then 1 else
 bif decide (b0>=194)&&(decide (b0<=223)&&(decide (n>=2)&&(decide (b1>=128)&&decide (b1<=191))))then 2 else
 bif decide (b0>=224)&&(decide (b0<=239)&&(decide (n>=3)&&((decide (b1>=128)&&decide (b1<=191))&&(decide (b2>=128)&&decide (b2<=191)))))then
  (bif (bif b0==224 then decide (b1<160)||b0==237&&decide (b1>159)else b0==237&&decide (b1>159))then 0 else 3)else
 bif decide (b0>=240)&&(decide (b0<=244)&&(decide (n>=4)&&((decide (b1>=128)&&decide (b1<=191))&&((decide (b2>=128)&&decide (b2<=191))&&(decide (b3>=128)&&decide (b3<=191))))))then
  (bif (bif b0==240 then decide (b1<144)||b0==244&&decide (b1>143)else b0==244&&decide (b1>143))then 0 else 4)else 0
theorem widB_law(n b0 b1 b2 b3:Nat)(m:Int)(hm:2<=n->m=b1)(hm':n<2->m=0):
  widB n b0 m b2 b3=if b0<128 then 1 else if 194<=b0/\b0<=223/\2<=n/\128<=b1/\b1<=191 then 2 else
   if 224<=b0/\b0<=239/\3<=n/\128<=b1/\b1<=191/\128<=b2/\b2<=191 then(if b0=224/\b1<160\/b0=237/\159<b1 then 0 else 3)else
   if 240<=b0/\b0<=244/\4<=n/\128<=b1/\b1<=191/\128<=b2/\b2<=191/\128<=b3/\b3<=191 then(if b0=240/\b1<144\/b0=244/\143<b1 then 0 else 4)else 0:=by
 have q:∀a c l u:Int,(bif (b0:Int)==a then decide (m<l)||(b0:Int)==c&&decide (m>u)else(b0:Int)==c&&decide (m>u))=decide ((b0:Int)=a/\m<l\/(b0:Int)=c/\u<m):=λa c l u=>by
  rw[Bool.eq_iff_iff];by_cases h1:(b0:Int)=a
  .have e:((b0:Int)==a)=true:=by simpa using h1
   rw[e,cond_true];simp only[Bool.or_eq_true,Bool.and_eq_true,decide_eq_true_eq,beq_iff_eq];omega
  .have e:((b0:Int)==a)=false:=by simpa using h1
   rw[e,cond_false];simp only[Bool.and_eq_true,decide_eq_true_eq,beq_iff_eq];omega
 unfold widB;rw[q,q];simp only[Bool.cond_eq_ite,Bool.and_eq_true,Bool.or_eq_true,decide_eq_true_eq,beq_iff_eq]
 repeat' split
 all_goals first|rfl|(exfalso;omega)
theorem wid_B(s:BA)(k:Nat)(hk:k<s.size)(hs:s.size<=KB):wid_F s (k:Int)=widB ((s.size-k:Nat):Int) (s.get! k).toNat (bif decide (((s.size-k:Nat):Int)>1)then((s.get! (k+1)).toNat:Int)else 0) (s.get! (k+2)).toNat (s.get! (k+3)).toNat:=by
 unfold KB at hs;have e:((s.size:Nat):Int)-(k:Int)=((s.size-k:Nat):Int):=by omega
 unfold wid_F tail_F;rw[wrS (x:=(s.size:Int)-(k:Int)) (by omega),wrS (x:=(k:Int)+1) (by omega),wrS (x:=(k:Int)+2) (by omega),wrS (x:=(k:Int)+3) (by omega)];rw[show((k:Int)+1).toNat=k+1 by omega,show((k:Int)+2).toNat=k+2 by omega,show((k:Int)+3).toNat=k+3 by omega,Int.toNat_natCast,e];rfl
theorem wid_eq(s:BA)(k:Nat)(hk:k<s.size)(hs:s.size<=KB):wid_F s (k:Int)=widZ s k:=by
 rw[wid_B s k hk hs,widZ_eq,wid_law _ _ _ _ _ (UInt8.toNat_lt _) (UInt8.toNat_lt _) (UInt8.toNat_lt _) (UInt8.toNat_lt _) (by omega)];refine widB_law _ _ _ _ _ _ (λh=>?_) λh=>?_
 .rw[decide_eq_true (by omega)];rfl
 .rw[decide_eq_false (by omega)];rfl
theorem wid_si(s:BA)(k:Nat)(hk:k<s.size)(hs:s.size<=KB):wid_side s (k:Int):=by
 unfold KB at hs;unfold wid_side;rw[wrS (x:=(s.size:Int)-(k:Int)) (by omega),wrS (x:=(k:Int)+1) (by omega),wrS (x:=(k:Int)+2) (by omega),wrS (x:=(k:Int)+3) (by omega)];refine⟨by omega,λh=>?_,λ_ _=>⟨λ_ _ h _=>?_,λ_=>⟨λ_ _ h _=>?_,λ_ _ h _ _=>?_⟩⟩⟩
 all_goals (have h':=of_decide_eq_true h;omega)
theorem wid_ok:FnPure Tryd.prog 122 aBI dI (λg=>widZ g.1 g.2.toNat) (λg=>[0<=g.2/\g.2<g.1.size,g.1.size<=KB]):=
 pure_congr (wid_okS _ λg _ hp=>by
  obtain⟨s,i⟩:=g;have h1:=hp _ (List.mem_cons_self ..);have h2:=hp _ (List.mem_cons_of_mem _ (List.mem_cons_self ..));obtain⟨k,rfl⟩:∃k:Nat,i=k:=⟨i.toNat,by simp only at h1;omega⟩;exact wid_si s k (by simp only at h1;omega) h2) λg _ hp=>by
  obtain⟨s,i⟩:=g;have h1:=hp _ (List.mem_cons_self ..);have h2:=hp _ (List.mem_cons_of_mem _ (List.mem_cons_self ..));obtain⟨k,rfl⟩:∃k:Nat,i=k:=⟨i.toNat,by simp only at h1;omega⟩;exact wid_eq s k (by simp only at h1;omega) h2
noncomputable def tabA3:PTab Tryd.prog:=tabA2.cons 122 (pconP aBI dI (λg=>widZ g.1 g.2.toNat) (λg=>[0<=g.2/\g.2<g.1.size,g.1.size<=KB])) (conP_ok wid_ok puI)
end Go.Proofs.YtfkdbifgppfegaaDoor

namespace Go.Proofs.YtfkdbifgppfegaaDoor
open Go.RowKit Go.Sx Go.Lp Go.Shelf
def lvVal_ren:Go.Shelf.Ren:=⟨λ|196=>124|259=>127|n=>n,λ|9=>9|4=>4|3=>3|5=>5|12=>12|119=>166|0=>0|46=>97|139=>169|138=>168|53=>99|n=>n,λ|3=>0|4=>1|n=>n⟩
theorem lvVal:Lays.n196 Tryd.prog lvVal_ren:={
 mixed:=by kernel_rfl,
 f196:=Tryd.func124.trans (congrArg some (by kernel_rfl)),
 f259:=Tryd.func127.trans (congrArg some (by kernel_rfl)),
 t0:=Tryd.underlying0,
 a0:=Tryd.isAgg0,
 z0:=Tryd.sizeOf0,
 v0:=Tryd.zeroValue0,
 t3:=Tryd.underlying3,
 a3:=Tryd.isAgg3,
 z3:=Tryd.sizeOf3,
 v3:=Tryd.zeroValue3,
 t4:=Tryd.underlying4,
 a4:=Tryd.isAgg4,
 z4:=Tryd.sizeOf4,
 v4:=Tryd.zeroValue4,
 t5:=Tryd.underlying5,
 a5:=Tryd.isAgg5,
 z5:=Tryd.sizeOf5,
 v5:=Tryd.zeroValue5,
 t9:=Tryd.underlying9,
 a9:=Tryd.isAgg9,
 z9:=Tryd.sizeOf9,
 v9:=Tryd.zeroValue9,
 t12:=Tryd.underlying12,
 a12:=Tryd.isAgg12,
 z12:=Tryd.sizeOf12,
 v12:=Tryd.zeroValue12,
 t46:=Tryd.underlying97,
 a46:=Tryd.isAgg97,
 z46:=Tryd.sizeOf97,
 v46:=Tryd.zeroValue97,
 t53:=Tryd.underlying99,
 a53:=Tryd.isAgg99,
 z53:=Tryd.sizeOf99,
 v53:=Tryd.zeroValue99,
 t119:=Tryd.underlying166,
 a119:=Tryd.isAgg166,
 z119:=Tryd.sizeOf166,
 t138:=Tryd.underlying168,
 a138:=Tryd.isAgg168,
 z138:=Tryd.sizeOf168,
 v138:=Tryd.zeroValue168,
 t139:=Tryd.underlying169,
 a139:=Tryd.isAgg169,
 z139:=Tryd.sizeOf169,
 v139:=Tryd.zeroValue169,
 g3:=by kernel_rfl,
 g4:=by kernel_rfl}
theorem val_ok:FnPure Tryd.prog 124 aB dBool (λg=>Lib.validD g.data.toList) (λg=>[g.size<=KB]):=by
 intro w F g vs hF hE hp hf;obtain⟨x,r,rfl,hx,hr⟩:=fits_cons hf;have:=fits_nil hr;subst this;have hx:x=_:=hx;subst hx;refine((Any.utf8_ValidString lvVal g w (by have:=hp _ (List.mem_cons_self ..);unfold KB at this;omega) (envTabs hF hE))).mono ?_;rintro e w' ⟨rfl,hb⟩;exact⟨_,rfl,hb,rfl⟩
noncomputable abbrev val_con:PCon:=pconP aB dBool (λg=>Lib.validD g.data.toList) (λg=>[g.size<=KB])
theorem val_fok:FnOk Tryd.prog 124 val_con.g:=conP_ok val_ok puB
noncomputable def tabB1:PTab Tryd.prog:=(tabA3.cons 124 val_con val_fok)
end Go.Proofs.YtfkdbifgppfegaaDoor

namespace Go.Proofs.YtfkdbifgppfegaaDoor
open Go.RowKit Go.Sx
theorem neI(a b:Int):(a !=b)=!decide (a=b):=by
 cases h:decide (a=b)with
 |true=>simp[of_decide_eq_true h]
 |false=>simp[of_decide_eq_false h]
theorem neB(a b:Bool):(a==b)=decide (a=b):=by cases a<;>cases b<;>rfl
theorem conj_eR(a b:Rec):conj ([a.key==b.key]++([decide (a.text=b.text)]++[]))=decide (a=b):=by
 obtain⟨k,s⟩:=a;obtain⟨k',s'⟩:=b;rw[Bool.eq_iff_iff];simp[conj]
theorem conj_eN(a b:Ent):conj ([a.node==b.node]++([a.key==b.key]++([decide (a.text=b.text)]++([a.n==b.n]++[]))))=decide (a=b):=by
 obtain⟨k,s,t,u⟩:=a;obtain⟨k',s',t',u'⟩:=b;rw[Bool.eq_iff_iff];simp[conj]
theorem conj_eC(a b:Change):conj ([a.p.node==b.p.node]++([a.p.port==b.p.port]++[])++([a.t.e==b.t.e]++([a.t.d==b.t.d]++([a.t.l0==b.t.l0]++([a.t.l1==b.t.l1]++([a.t.l2==b.t.l2]++([a.t.l3==b.t.l3]++[])))++[]))++([a.n==b.n]++[])))=decide (a=b):=by
 obtain⟨⟨a1,a2⟩,⟨a3,a4,a5,a6,a7,a8⟩,a9⟩:=a;obtain⟨⟨b1,b2⟩,⟨b3,b4,b5,b6,b7,b8⟩,b9⟩:=b;rw[Bool.eq_iff_iff];simp[conj,and_assoc]
theorem conj_eF(a b:Fn):conj ([a.kind==b.kind]++([a.a==b.a]++([decide (a.s=b.s)]++[])))=decide (a=b):=by
 obtain⟨k,s,t⟩:=a;obtain⟨k',s',t'⟩:=b;rw[Bool.eq_iff_iff];simp[conj]
theorem conj_eV(a b:Mv):conj ([a.fr==b.fr]++([a.to==b.to]++([a.kind==b.kind]++([a.a==b.a]++([a.fn.kind==b.fn.kind]++([a.fn.a==b.fn.a]++([decide (a.fn.s=b.fn.s)]++[]))++[])))))=decide (a=b):=by
 obtain⟨a1,a2,a3,a4,⟨a5,a6,a7⟩⟩:=a;obtain⟨b1,b2,b3,b4,⟨b5,b6,b7⟩⟩:=b;rw[Bool.eq_iff_iff];simp[conj,and_assoc]
theorem conj_eP(a b:Place):conj ([a.node==b.node]++([a.port==b.port]++[]))=decide (a=b):=by
 obtain⟨a1,a2⟩:=a;obtain⟨b1,b2⟩:=b;rw[Bool.eq_iff_iff];simp[conj]
theorem conj_eT(a b:T):conj ([a.e==b.e]++([a.d==b.d]++([a.l0==b.l0]++([a.l1==b.l1]++([a.l2==b.l2]++([a.l3==b.l3]++[])))++[])))=decide (a=b):=by
 obtain⟨a1,a2,a3,a4,a5,a6⟩:=a;obtain⟨b1,b2,b3,b4,b5,b6⟩:=b;rw[Bool.eq_iff_iff];simp[conj]
end Go.Proofs.YtfkdbifgppfegaaDoor

namespace Go.Proofs.YtfkdbifgppfegaaDoor
open Go.RowKit Go.Sx
set_option maxRecDepth 100000
end Go.Proofs.YtfkdbifgppfegaaDoor

namespace Go.Proofs.YtfkdbifgppfegaaDoor
open Go.RowKit Go.Sx Go.Lp
set_option maxRecDepth 100000
end Go.Proofs.YtfkdbifgppfegaaDoor

namespace Go.Proofs.YtfkdbifgppfegaaDoor
open Go.RowKit Go.Sx
set_option maxRecDepth 100000
end Go.Proofs.YtfkdbifgppfegaaDoor

namespace Go.Proofs.YtfkdbifgppfegaaDoor
open Go.RowKit Go.Sx Go.Lp
end Go.Proofs.YtfkdbifgppfegaaDoor

namespace Go.Proofs.YtfkdbifgppfegaaDoor
open Go.RowKit Go.Sx
set_option maxRecDepth 100000
end Go.Proofs.YtfkdbifgppfegaaDoor

namespace Go.Proofs.YtfkdbifgppfegaaDoor
open Go.RowKit Go.Sx
set_option maxRecDepth 100000
abbrev d6:Dv Int:=dInt .u64
theorem pu6(r:Int):Pu (d6.enc r):=pu_v _
noncomputable def hsh_F(k:Int):Dv.T d6:=
 IntKind.u64.wrap (iXor IntKind.u64 (IntKind.u64.wrap (iXor IntKind.u64 (IntKind.u64.wrap (iXor IntKind.u64 (IntKind.u64.wrap (iXor IntKind.u64 (IntKind.u64.wrap (iXor IntKind.u64 (IntKind.u64.wrap (iXor IntKind.u64 (IntKind.u64.wrap (iXor IntKind.u64 (IntKind.u64.wrap (iXor IntKind.u64 (14695981039346656037:Int) (IntKind.u64.wrap (IntKind.u8.wrap (iShr IntKind.u64 (iShr IntKind.u64 (iShr IntKind.u64 (iShr IntKind.u64 (iShr IntKind.u64 (iShr IntKind.u64 (iShr IntKind.u64 (IntKind.u64.wrap k) (8:Int)) (8:Int)) (8:Int)) (8:Int)) (8:Int)) (8:Int)) (8:Int))))*(1099511628211:Int))) (IntKind.u64.wrap (IntKind.u8.wrap (iShr IntKind.u64 (iShr IntKind.u64 (iShr IntKind.u64 (iShr IntKind.u64 (iShr IntKind.u64 (iShr IntKind.u64 (IntKind.u64.wrap k) (8:Int)) (8:Int)) (8:Int)) (8:Int)) (8:Int)) (8:Int))))*(1099511628211:Int))) (IntKind.u64.wrap (IntKind.u8.wrap (iShr IntKind.u64 (iShr IntKind.u64 (iShr IntKind.u64 (iShr IntKind.u64 (iShr IntKind.u64 (IntKind.u64.wrap k) (8:Int)) (8:Int)) (8:Int)) (8:Int)) (8:Int))))*(1099511628211:Int))) (IntKind.u64.wrap (IntKind.u8.wrap (iShr IntKind.u64 (iShr IntKind.u64 (iShr IntKind.u64 (iShr IntKind.u64 (IntKind.u64.wrap k) (8:Int)) (8:Int)) (8:Int)) (8:Int))))*(1099511628211:Int))) (IntKind.u64.wrap (IntKind.u8.wrap (iShr IntKind.u64 (iShr IntKind.u64 (iShr IntKind.u64 (IntKind.u64.wrap k) (8:Int)) (8:Int)) (8:Int))))*(1099511628211:Int))) (IntKind.u64.wrap (IntKind.u8.wrap (iShr IntKind.u64 (iShr IntKind.u64 (IntKind.u64.wrap k) (8:Int)) (8:Int))))*(1099511628211:Int))) (IntKind.u64.wrap (IntKind.u8.wrap (iShr IntKind.u64 (IntKind.u64.wrap k) (8:Int))))*(1099511628211:Int))) (IntKind.u64.wrap (IntKind.u8.wrap (IntKind.u64.wrap k)))*(1099511628211:Int))
theorem hsh_ok:FnPure Tryd.prog 61 aI d6 (λg=>hsh_F g) (λ_=>[]):=pure_of_safe (Γ:=(PTab.gamz tab0 [] [(61,4,9),(61,11,9),(95,3,9)])) (Λ:=noΛ) (PTab.okz tab0 [] [(61,4,9),(61,11,9),(95,3,9)]) noΛ_ok 100 default (λg=>by kernel_rfl) (λg=>by kernel_rfl)
noncomputable def rhsh_F(k:Int):Dv.T d6:=
 IntKind.u64.wrap (iXor IntKind.u64 (IntKind.u64.wrap (iXor IntKind.u64 (IntKind.u64.wrap (iXor IntKind.u64 (IntKind.u64.wrap (iXor IntKind.u64 (IntKind.u64.wrap (iXor IntKind.u64 (IntKind.u64.wrap (iXor IntKind.u64 (IntKind.u64.wrap (iXor IntKind.u64 (IntKind.u64.wrap (iXor IntKind.u64 (14695981039346656037:Int) (iAnd IntKind.u64 (iShr IntKind.u64 (IntKind.u64.wrap k) (56:Int)) (255:Int))*(1099511628211:Int))) (iAnd IntKind.u64 (iShr IntKind.u64 (IntKind.u64.wrap k) (48:Int)) (255:Int))*(1099511628211:Int))) (iAnd IntKind.u64 (iShr IntKind.u64 (IntKind.u64.wrap k) (40:Int)) (255:Int))*(1099511628211:Int))) (iAnd IntKind.u64 (iShr IntKind.u64 (IntKind.u64.wrap k) (32:Int)) (255:Int))*(1099511628211:Int))) (iAnd IntKind.u64 (iShr IntKind.u64 (IntKind.u64.wrap k) (24:Int)) (255:Int))*(1099511628211:Int))) (iAnd IntKind.u64 (iShr IntKind.u64 (IntKind.u64.wrap k) (16:Int)) (255:Int))*(1099511628211:Int))) (iAnd IntKind.u64 (iShr IntKind.u64 (IntKind.u64.wrap k) (8:Int)) (255:Int))*(1099511628211:Int))) (iAnd IntKind.u64 (iShr IntKind.u64 (IntKind.u64.wrap k) (0:Int)) (255:Int))*(1099511628211:Int))
theorem rhsh_ok:FnPure Tryd.prog 95 aI d6 (λg=>rhsh_F g) (λ_=>[]):=pure_of_safe (Γ:=(PTab.gamz tab0 [] [(61,4,9),(61,11,9),(95,3,9)])) (Λ:=noΛ) (PTab.okz tab0 [] [(61,4,9),(61,11,9),(95,3,9)]) noΛ_ok 100 default (λg=>by kernel_rfl) (λg=>by kernel_rfl)
end Go.Proofs.YtfkdbifgppfegaaDoor

namespace Go.Proofs.YtfkdbifgppfegaaDoor
open Go.RowKit Go.Sx
theorem shN(n j:Nat)(hj:j<=64):iShr .u64 (n:Int) (j:Int)=((n/2^j:Nat):Int):=by
 unfold iShr;rw[Int.toNat_natCast,show IntKind.u64.bits=64 from rfl,Nat.min_eq_left hj,Int.natCast_ediv,Int.fdiv_eq_ediv_of_nonneg _ (Int.le_of_lt (Int.pow_pos (by decide)))];simp
theorem wrapN(m:Nat)(hm:m<2^64):IntKind.u64.wrap (m:Int)=m:=by
 have h:(m:Int)%2^64=m:=Int.emod_eq_of_lt (by omega) (by omega);unfold IntKind.wrap;show(if(false&&_)=true then _ else(m:Int)%2^64)=_;rw[h];rfl
theorem btN(m:Nat)(hm:m<2^64):IntKind.u64.wrap (IntKind.u8.wrap (m:Int))=iAnd .u64 (m:Int) (255:Int):=by
 have e1:IntKind.u8.wrap (m:Int)=((m%256:Nat):Int):=by
  unfold IntKind.wrap;show(if(false&&_)=true then _ else(m:Int)%2^8)=_;rw[if_neg (by simp)];omega
 rw[e1,wrapN _ (by omega)];unfold iAnd;show _=IntKind.u64.wrap ((BitVec.ofInt 64 (m:Int)&&&BitVec.ofInt 64 255).toNat:Int)
 have e2:(BitVec.ofInt 64 (m:Int)&&&BitVec.ofInt 64 255).toNat=m%256:=by
  rw[BitVec.toNat_and]
  have:(BitVec.ofInt 64 (m:Int)).toNat=m:=by
   rw[BitVec.toNat_ofInt];omega
  rw[this,show(BitVec.ofInt 64 255).toNat=2^8-1 from rfl,Nat.and_two_pow_sub_one_eq_mod]
 rw[e2,wrapN _ (by omega)]
theorem wrap_nat(k:Int):∃n:Nat,IntKind.u64.wrap k=(n:Int)/\n<2^64:=by
 refine⟨(k%2^64).toNat,?_,by omega⟩;unfold IntKind.wrap;show(if(false&&_)=true then _ else k%2^64)=_;rw[if_neg (by simp)];omega
theorem hsh_eq(k:Int):hsh_F k=rhsh_F k:=by
 obtain⟨n,hn,hlt⟩:=wrap_nat k;have s8:∀n:Nat,iShr .u64 (n:Int) (8:Int)=((n/256:Nat):Int):=λn=>shN n 8 (by decide);have s16:∀n:Nat,iShr .u64 (n:Int) (16:Int)=((n/65536:Nat):Int):=λn=>shN n 16 (by decide);have s24:∀n:Nat,iShr .u64 (n:Int) (24:Int)=((n/16777216:Nat):Int):=λn=>shN n 24 (by decide);have s32:∀n:Nat,iShr .u64 (n:Int) (32:Int)=((n/4294967296:Nat):Int):=λn=>shN n 32 (by decide);have s40:∀n:Nat,iShr .u64 (n:Int) (40:Int)=((n/1099511627776:Nat):Int):=λn=>shN n 40 (by decide);have s48:∀n:Nat,iShr .u64 (n:Int) (48:Int)=((n/281474976710656:Nat):Int):=λn=>shN n 48 (by decide);have s56:∀n:Nat,iShr .u64 (n:Int) (56:Int)=((n/72057594037927936:Nat):Int):=λn=>shN n 56 (by decide)
 have s0:∀n:Nat,iShr .u64 (n:Int) (0:Int)=((n:Nat):Int):=λn=>by
  have:=shN n 0 (by decide);rw[Nat.pow_zero,Nat.div_one]at this;exact this
 have b:∀d:Nat,IntKind.u64.wrap (IntKind.u8.wrap ((n/d:Nat):Int))=iAnd .u64 ((n/d:Nat):Int) (255:Int):=λd=>btN _ (Nat.lt_of_le_of_lt (Nat.div_le_self n d) hlt);unfold hsh_F rhsh_F;rw[hn];simp only[s8,s16,s24,s32,s40,s48,s56,s0,Nat.div_div_eq_div_mul,Nat.reduceMul,b,btN n hlt]
noncomputable def tabN2:PTab Tryd.prog:=(tab0.cons 61 (pconP aI d6 (λk=>hsh_F k) (λ_=>[])) (conP_ok hsh_ok pu6)).cons 95 (pconP aI d6 (λk=>hsh_F k) (λ_=>[])) (conP_ok (pure_congr rhsh_ok λk _ _=>(hsh_eq k).symm) pu6)
end Go.Proofs.YtfkdbifgppfegaaDoor

namespace Go.Proofs.YtfkdbifgppfegaaDoor
open Go.RowKit Go.Sx
set_option maxRecDepth 100000
noncomputable def exo_F(k:Int)(n:Int):Dv.T dI:=
 bif decide (n<(1:Int))||decide (n>(16:Int))then(0:Int)
 else IntKind.i64.wrap (Int.tmod (hsh_F k) (IntKind.u64.wrap n))
def exo_side(k:Int)(n:Int):Prop:=
 (decide (n<(1:Int))||decide (n>(16:Int)))=false->IntKind.u64.wrap n≠(0:Int)
theorem exo_okS(pre:DA.T aII->List Prop)(h:∀g,DA.bd aII g->(∀p∈pre g,p)->exo_side g.1 g.2):FnPure Tryd.prog 31 aII dI (λg=>exo_F g.1 g.2) pre:=pure_of_sideS (Γ:=(PTab.gamz tabN2 [] [])) (Λ:=noΛ) (PTab.okz tabN2 [] []) noΛ_ok 100 default (λg=>exo_side g.1 g.2) (λg=>by kernel_rfl) (λg=>by kernel_rfl) h
end Go.Proofs.YtfkdbifgppfegaaDoor

namespace Go.Proofs.YtfkdbifgppfegaaDoor
open Go.RowKit Go.Sx
set_option maxRecDepth 100000
abbrev ixb_G:Type:=List Bool×Bool×Int×Int×Int
noncomputable def ixb_LP:LP 0 ixb_G:=.pair (.slot 0 0 dLB) (.pair (.slot 0 1 dBool) (.pair (.slot 0 7 dI) (.pair (.slot 0 8 dI) (.slot 0 4 dI))))
noncomputable def ixb_R(xs:List Bool)(v0:Bool)(n:Int)(i:Int)(r:Int):Ex×ixb_G:=
 bif decide (i<n)then bif v0==xs.getD i.toNat eBool.dflt then(Ex.ret,eBool.ag xs,v0,n,i,i)else(Ex.normal,eBool.ag xs,v0,n,IntKind.i64.wrap (i+(1:Int)),r)
 else(Ex.exit (0:Nat),eBool.ag xs,v0,n,i,r)
def ixb_side(xs:List Bool)(v0:Bool)(n:Int)(i:Int)(r:Int):Prop:=
 (decide (i<n)=true->((0:Int)<=i/\i<(↑xs.length:Int))/\((v0==xs.getD i.toNat eBool.dflt)=true->eBool.okL xs)/\((v0==xs.getD i.toNat eBool.dflt)=false->eBool.okL xs))/\(decide (i<n)=false->eBool.okL xs)
theorem ixb_one:((loopsOf Tryd.prog 96).filter λc=>Nat.beq (lkey c) 2).length=1:=by kernel_rfl
abbrev ixb_GC:Type:=List Bool×Bool×Int
abbrev ixb_GB:Type:=Int
def ixb_f(g:ixb_G):Int×ixb_GC×ixb_GB:=(g.2.2.2.1,(g.1,g.2.1,g.2.2.1),g.2.2.2.2)
def ixb_g(d:Int×ixb_GC×ixb_GB):ixb_G:=(d.2.1.1,d.2.1.2.1,d.2.1.2.2,d.1,d.2.2)
theorem ixb_es(g:ixb_G):(ixb_R g.1 g.2.1 g.2.2.1 g.2.2.2.1 g.2.2.2.2).1=.normal\/(ixb_R g.1 g.2.1 g.2.2.1 g.2.2.2.1 g.2.2.2.2).1∈([.ret,.exit 0]:List Ex):=by
 unfold ixb_R
 repeat' (first|(left;rfl)|(right;simp only[cond_true,cond_false];simp;done)|(rw[Bool.cond_eq_ite];split))
noncomputable abbrev ixb_C(Inv:ixb_G->List Prop)(m:ixb_G->Nat):LCon:=loopR [.ret,.exit 0] (loopBody Tryd.prog 96 2) ixb_LP [] 19 Inv (λg=>ixb_R g.1 g.2.1 g.2.2.1 g.2.2.2.1 g.2.2.2.2) m
theorem ixb_loop(Inv:ixb_G->List Prop)(m:ixb_G->Nat)(hs:∀g,allP (Inv g)->ixb_side g.1 g.2.1 g.2.2.1 g.2.2.2.1 g.2.2.2.2)(hg:Goes (λg:ixb_G=>ixb_R g.1 g.2.1 g.2.2.1 g.2.2.2.1 g.2.2.2.2) m λg=>allP (Inv g)):∀b∈loopsOf Tryd.prog 96,lkey b=2->LoopOk Tryd.prog b (ixb_C Inv m).g:=loop_run (Γ:=(PTab.gamz tab0 [] [])) (Λ:=noΛ) (PTab.okz tab0 [] []) noΛ_ok 100 96 2 19 ixb_LP [] Inv (λg=>ixb_R g.1 g.2.1 g.2.2.1 g.2.2.2.1 g.2.2.2.2) (λg=>ixb_side g.1 g.2.1 g.2.2.1 g.2.2.2.1 g.2.2.2.2) m default [.ret,.exit 0] ixb_one (λrd T B HL HB ds g=>by kernel_rfl) (λrd T B HL HB ds g=>by kernel_rfl) hs hg ixb_es
abbrev alb_G:Type:=List Bool×Int×Bool
noncomputable def alb_LP:LP 0 alb_G:=.pair (.slot 0 0 dLB) (.pair (.slot 0 3 dI) (.slot 0 2 dBool))
noncomputable def alb_R(xs:List Bool)(i:Int)(r:Bool):Ex×alb_G:=
 bif decide (i<(↑xs.length:Int))then bif !xs.getD i.toNat eBool.dflt then(Ex.ret,eBool.ag xs,i,false)else(Ex.normal,eBool.ag xs,IntKind.i64.wrap (i+(1:Int)),r)
 else(Ex.exit (0:Nat),eBool.ag xs,i,r)
def alb_side(xs:List Bool)(i:Int)(r:Bool):Prop:=
 (decide (i<(↑xs.length:Int))=true->((0:Int)<=i/\i<(↑xs.length:Int))/\((!xs.getD i.toNat eBool.dflt)=true->eBool.okL xs)/\((!xs.getD i.toNat eBool.dflt)=false->eBool.okL xs))/\(decide (i<(↑xs.length:Int))=false->eBool.okL xs)
theorem alb_one:((loopsOf Tryd.prog 46).filter λc=>Nat.beq (lkey c) 2).length=1:=by kernel_rfl
abbrev alb_GC:Type:=List Bool
abbrev alb_GB:Type:=Bool
def alb_f(g:alb_G):Int×alb_GC×alb_GB:=(g.2.1,g.1,g.2.2)
def alb_g(d:Int×alb_GC×alb_GB):alb_G:=(d.2.1,d.1,d.2.2)
theorem alb_es(g:alb_G):(alb_R g.1 g.2.1 g.2.2).1=.normal\/(alb_R g.1 g.2.1 g.2.2).1∈([.ret,.exit 0]:List Ex):=by
 unfold alb_R
 repeat' (first|(left;rfl)|(right;simp only[cond_true,cond_false];simp;done)|(rw[Bool.cond_eq_ite];split))
noncomputable abbrev alb_C(Inv:alb_G->List Prop)(m:alb_G->Nat):LCon:=loopR [.ret,.exit 0] (loopBody Tryd.prog 46 2) alb_LP [] 15 Inv (λg=>alb_R g.1 g.2.1 g.2.2) m
theorem alb_loop(Inv:alb_G->List Prop)(m:alb_G->Nat)(hs:∀g,allP (Inv g)->alb_side g.1 g.2.1 g.2.2)(hg:Goes (λg:alb_G=>alb_R g.1 g.2.1 g.2.2) m λg=>allP (Inv g)):∀b∈loopsOf Tryd.prog 46,lkey b=2->LoopOk Tryd.prog b (alb_C Inv m).g:=loop_run (Γ:=(PTab.gamz tab0 [] [])) (Λ:=noΛ) (PTab.okz tab0 [] []) noΛ_ok 100 46 2 15 alb_LP [] Inv (λg=>alb_R g.1 g.2.1 g.2.2) (λg=>alb_side g.1 g.2.1 g.2.2) m default [.ret,.exit 0] alb_one (λrd T B HL HB ds g=>by kernel_rfl) (λrd T B HL HB ds g=>by kernel_rfl) hs hg alb_es
end Go.Proofs.YtfkdbifgppfegaaDoor

namespace Go.Proofs.YtfkdbifgppfegaaDoor
open Go.RowKit Go.Sx Go.Lp
set_option maxRecDepth 100000
noncomputable def ixb_S(c:ixb_GC)(b:ixb_GB)(i:Int)(v:Bool):Ex×ixb_GB:=bif decide (c.2.1=v)then(.ret,i)else(.normal,b)
def ixb_K(c:ixb_GC)(b:ixb_GB)(i:Int):Prop:=True
abbrev ixb_I(g:ixb_G):List Prop:=ixI (λc:ixb_GC=>c.2.2) (λc:ixb_GC=>c.1) ixb_K (ixb_f g)
abbrev ixb_M(g:ixb_G):Nat:=ixM (λc:ixb_GC=>c.2.2) (ixb_f g)
theorem ixb_P:ixP ixb_S (λc:ixb_GC=>c.1) ixb_K:=λ_ _ _ _ h _ _=>h
noncomputable abbrev ixb_RR(g:ixb_G):Ex×ixb_G:=ixb_R g.1 g.2.1 g.2.2.1 g.2.2.2.1 g.2.2.2.2
theorem ixb_RF(d:Int×ixb_GC×ixb_GB)(hi:allP (ixI (λc:ixb_GC=>c.2.2) (λc:ixb_GC=>c.1) ixb_K d)):ixb_RR (ixb_g d)=((ixF 0 (λc:ixb_GC=>c.2.2) (λc:ixb_GC=>c.1) eBool.dflt ixb_S d).1,ixb_g (ixF 0 (λc:ixb_GC=>c.2.2) (λc:ixb_GC=>c.1) eBool.dflt ixb_S d).2):=by
 obtain⟨i,⟨xs,v0,n⟩,r⟩:=d;show ixb_R xs v0 n i r=_;unfold ixb_R ixF ixb_S;simp only[El.ag_eq,neB];cases decide (i<n)with
 |false=>rfl
 |true=>
  simp only[cond_true];generalize (decide (v0=(xs.getD i.toNat eBool.dflt)))=z;cases z<;>rfl
theorem ixb_ok:∀b∈loopsOf Tryd.prog 96,lkey b=2->LoopOk Tryd.prog b (ixb_C ixb_I ixb_M).g:=by
 refine ixb_loop ixb_I ixb_M (λg hi=>?_) (ix_conj_goes (λ_=>rfl) (λ_=>rfl) ixb_RF ixb_P);obtain⟨xs,v0,n,i,r⟩:=g;obtain⟨h1,h2,h3,h4,h5⟩:=hi _ (List.mem_cons_self ..);have h1:n=(xs.length:Int):=h1;have h3:0<=i:=h3;have h5:True:=h5;show ixb_side xs v0 n i r;unfold ixb_side;simp only[decide_eq_true_eq,decide_eq_false_iff_not];have k0:∀e:Nat,e<xs.length->eBool.Ok (eBool.els xs e):=λe _=>eBool.ok_els xs e;clear hi
 repeat' (first|exact k0|apply And.intro|intro _)
 all_goals omega
theorem ixb_run(c:ixb_GC)(b:ixb_GB)(k1:c.2.2=((c.1).length:Int))(k2:(c.1).length<=maxLen)(k3:ixb_K c b 0):loopF ixb_RR ixb_M (ixb_g (0,c,b))=((scan 0 (ixb_S c) 0 (c.1) b).1,ixb_g ((scan 0 (ixb_S c) 0 (c.1) b).2.1,c,(scan 0 (ixb_S c) 0 (c.1) b).2.2)):=ix_conj_run (φ:=ixb_f) (ψ:=ixb_g) (λ_=>rfl) (λ_=>rfl) ixb_RF ixb_P c b k1 k2 k3
noncomputable def alb_S(c:alb_GC)(b:alb_GB)(i:Int)(v:Bool):Ex×alb_GB:=bif !v then(.ret,false)else(.normal,b)
def alb_K(c:alb_GC)(b:alb_GB)(i:Int):Prop:=True
abbrev alb_I(g:alb_G):List Prop:=ixI (λc:alb_GC=>(c.length:Int)) (λc:alb_GC=>c) alb_K (alb_f g)
abbrev alb_M(g:alb_G):Nat:=ixM (λc:alb_GC=>(c.length:Int)) (alb_f g)
theorem alb_P:ixP alb_S (λc:alb_GC=>c) alb_K:=λ_ _ _ _ h _ _=>h
noncomputable abbrev alb_RR(g:alb_G):Ex×alb_G:=alb_R g.1 g.2.1 g.2.2
theorem alb_RF(d:Int×alb_GC×alb_GB)(hi:allP (ixI (λc:alb_GC=>(c.length:Int)) (λc:alb_GC=>c) alb_K d)):alb_RR (alb_g d)=((ixF 0 (λc:alb_GC=>(c.length:Int)) (λc:alb_GC=>c) eBool.dflt alb_S d).1,alb_g (ixF 0 (λc:alb_GC=>(c.length:Int)) (λc:alb_GC=>c) eBool.dflt alb_S d).2):=by
 obtain⟨i,xs,r⟩:=d;show alb_R xs i r=_;unfold alb_R ixF alb_S;simp only[El.ag_eq];cases decide (i<(xs.length:Int))with
 |false=>rfl
 |true=>
  simp only[cond_true];generalize (!(xs.getD i.toNat eBool.dflt))=z;cases z<;>rfl
theorem alb_ok:∀b∈loopsOf Tryd.prog 46,lkey b=2->LoopOk Tryd.prog b (alb_C alb_I alb_M).g:=by
 refine alb_loop alb_I alb_M (λg hi=>?_) (ix_conj_goes (λ_=>rfl) (λ_=>rfl) alb_RF alb_P);obtain⟨xs,i,r⟩:=g;obtain⟨h1,h2,h3,h4,h5⟩:=hi _ (List.mem_cons_self ..);have h1:(xs.length:Int)=(xs.length:Int):=h1;have h3:0<=i:=h3;have h5:True:=h5;show alb_side xs i r;unfold alb_side;simp only[decide_eq_true_eq,decide_eq_false_iff_not];have k0:∀e:Nat,e<xs.length->eBool.Ok (eBool.els xs e):=λe _=>eBool.ok_els xs e;clear hi
 repeat' (first|exact k0|apply And.intro|intro _)
 all_goals omega
theorem alb_run(c:alb_GC)(b:alb_GB)(k1:(c.length:Int)=((c).length:Int))(k2:(c).length<=maxLen)(k3:alb_K c b 0):loopF alb_RR alb_M (alb_g (0,c,b))=((scan 0 (alb_S c) 0 (c) b).1,alb_g ((scan 0 (alb_S c) 0 (c) b).2.1,c,(scan 0 (alb_S c) 0 (c) b).2.2)):=ix_conj_run (φ:=alb_f) (ψ:=alb_g) (λ_=>rfl) (λ_=>rfl) alb_RF alb_P c b k1 k2 k3
noncomputable def ltG4:LTab Tryd.prog:=((LTab.nil.cons 96 2 (ixb_C ixb_I ixb_M) ixb_ok).cons 46 2 (alb_C alb_I alb_M) alb_ok)
noncomputable abbrev lamG4:Lam:=ltG4.lam
theorem lamG4_ok:∀f k L,lamG4 f k=some L->∀b∈loopsOf Tryd.prog f,lkey b=k->LoopOk Tryd.prog b L.g:=ltG4.ok
end Go.Proofs.YtfkdbifgppfegaaDoor

namespace Go.Proofs.YtfkdbifgppfegaaDoor
open Go.RowKit Go.Sx
set_option maxRecDepth 100000
abbrev qeI1_G:Type:=List Int×List Int×Int×Int×Bool
noncomputable def qeI1_LP:LP 0 qeI1_G:=.pair (.slot 0 0 (.list eI)) (.pair (.slot 0 1 (.list eI)) (.pair (.slot 0 12 dI) (.pair (.slot 0 13 dI) (.slot 0 4 dBool))))
noncomputable def qeI1_R(xs:List Int)(ys:List Int)(n:Int)(i:Int)(r:Bool):Ex×qeI1_G:=
 bif decide (i<n)then bif xs.getD i.toNat eI.dflt !=ys.getD i.toNat eI.dflt then(Ex.ret,eI.ag xs,eI.ag ys,n,i,false)else(Ex.normal,eI.ag xs,eI.ag ys,n,IntKind.i64.wrap (i+(1:Int)),r)
 else(Ex.exit (0:Nat),eI.ag xs,eI.ag ys,n,i,r)
def qeI1_side(xs:List Int)(ys:List Int)(n:Int)(i:Int)(r:Bool):Prop:=
 (decide (i<n)=true->((0:Int)<=i/\i<(↑xs.length:Int))/\((0:Int)<=i/\i<(↑ys.length:Int))/\((xs.getD i.toNat eI.dflt !=ys.getD i.toNat eI.dflt)=true->eI.okL xs/\eI.okL ys)/\((xs.getD i.toNat eI.dflt !=ys.getD i.toNat eI.dflt)=false->eI.okL xs/\eI.okL ys))/\(decide (i<n)=false->eI.okL xs/\eI.okL ys)
theorem qeI1_one:((loopsOf Tryd.prog 21).filter λc=>Nat.beq (lkey c) 4).length=1:=by kernel_rfl
abbrev qeI1_GC:Type:=List Int×List Int×Int
abbrev qeI1_GB:Type:=Bool
def qeI1_f(g:qeI1_G):Int×qeI1_GC×qeI1_GB:=(g.2.2.2.1,(g.1,g.2.1,g.2.2.1),g.2.2.2.2)
def qeI1_g(d:Int×qeI1_GC×qeI1_GB):qeI1_G:=(d.2.1.1,d.2.1.2.1,d.2.1.2.2,d.1,d.2.2)
theorem qeI1_es(g:qeI1_G):(qeI1_R g.1 g.2.1 g.2.2.1 g.2.2.2.1 g.2.2.2.2).1=.normal\/(qeI1_R g.1 g.2.1 g.2.2.1 g.2.2.2.1 g.2.2.2.2).1∈([.ret,.exit 0]:List Ex):=by
 unfold qeI1_R
 repeat' (first|(left;rfl)|(right;simp only[cond_true,cond_false];simp;done)|(rw[Bool.cond_eq_ite];split))
noncomputable abbrev qeI1_C(Inv:qeI1_G->List Prop)(m:qeI1_G->Nat):LCon:=loopR [.ret,.exit 0] (loopBody Tryd.prog 21 4) qeI1_LP [] 26 Inv (λg=>qeI1_R g.1 g.2.1 g.2.2.1 g.2.2.2.1 g.2.2.2.2) m
theorem qeI1_loop(Inv:qeI1_G->List Prop)(m:qeI1_G->Nat)(hs:∀g,allP (Inv g)->qeI1_side g.1 g.2.1 g.2.2.1 g.2.2.2.1 g.2.2.2.2)(hg:Goes (λg:qeI1_G=>qeI1_R g.1 g.2.1 g.2.2.1 g.2.2.2.1 g.2.2.2.2) m λg=>allP (Inv g)):∀b∈loopsOf Tryd.prog 21,lkey b=4->LoopOk Tryd.prog b (qeI1_C Inv m).g:=loop_run (Γ:=(PTab.gamz tab0 [] [])) (Λ:=noΛ) (PTab.okz tab0 [] []) noΛ_ok 100 21 4 26 qeI1_LP [] Inv (λg=>qeI1_R g.1 g.2.1 g.2.2.1 g.2.2.2.1 g.2.2.2.2) (λg=>qeI1_side g.1 g.2.1 g.2.2.1 g.2.2.2.1 g.2.2.2.2) m default [.ret,.exit 0] qeI1_one (λrd T B HL HB ds g=>by kernel_rfl) (λrd T B HL HB ds g=>by kernel_rfl) hs hg qeI1_es
abbrev qrI1_G:Type:=List Int×List Int×Int×Bool
noncomputable def qrI1_LP:LP 0 qrI1_G:=.pair (.slot 0 0 (.list eI)) (.pair (.slot 0 1 (.list eI)) (.pair (.slot 0 5 dI) (.slot 0 4 dBool)))
noncomputable def qrI1_R(xs:List Int)(ys:List Int)(i:Int)(r:Bool):Ex×qrI1_G:=
 bif decide (i<(↑xs.length:Int))then bif xs.getD i.toNat eI.dflt !=ys.getD i.toNat eI.dflt then(Ex.ret,eI.ag xs,eI.ag ys,i,false)else(Ex.normal,eI.ag xs,eI.ag ys,IntKind.i64.wrap (i+(1:Int)),r)
 else(Ex.exit (0:Nat),eI.ag xs,eI.ag ys,i,r)
def qrI1_side(xs:List Int)(ys:List Int)(i:Int)(r:Bool):Prop:=
 (decide (i<(↑xs.length:Int))=true->((0:Int)<=i/\i<(↑xs.length:Int))/\((0:Int)<=i/\i<(↑ys.length:Int))/\((xs.getD i.toNat eI.dflt !=ys.getD i.toNat eI.dflt)=true->eI.okL xs/\eI.okL ys)/\((xs.getD i.toNat eI.dflt !=ys.getD i.toNat eI.dflt)=false->eI.okL xs/\eI.okL ys))/\(decide (i<(↑xs.length:Int))=false->eI.okL xs/\eI.okL ys)
theorem qrI1_one:((loopsOf Tryd.prog 62).filter λc=>Nat.beq (lkey c) 4).length=1:=by kernel_rfl
abbrev qrI1_GC:Type:=List Int×List Int
abbrev qrI1_GB:Type:=Bool
def qrI1_f(g:qrI1_G):Int×qrI1_GC×qrI1_GB:=(g.2.2.1,(g.1,g.2.1),g.2.2.2)
def qrI1_g(d:Int×qrI1_GC×qrI1_GB):qrI1_G:=(d.2.1.1,d.2.1.2,d.1,d.2.2)
theorem qrI1_es(g:qrI1_G):(qrI1_R g.1 g.2.1 g.2.2.1 g.2.2.2).1=.normal\/(qrI1_R g.1 g.2.1 g.2.2.1 g.2.2.2).1∈([.ret,.exit 0]:List Ex):=by
 unfold qrI1_R
 repeat' (first|(left;rfl)|(right;simp only[cond_true,cond_false];simp;done)|(rw[Bool.cond_eq_ite];split))
noncomputable abbrev qrI1_C(Inv:qrI1_G->List Prop)(m:qrI1_G->Nat):LCon:=loopR [.ret,.exit 0] (loopBody Tryd.prog 62 4) qrI1_LP [] 26 Inv (λg=>qrI1_R g.1 g.2.1 g.2.2.1 g.2.2.2) m
theorem qrI1_loop(Inv:qrI1_G->List Prop)(m:qrI1_G->Nat)(hs:∀g,allP (Inv g)->qrI1_side g.1 g.2.1 g.2.2.1 g.2.2.2)(hg:Goes (λg:qrI1_G=>qrI1_R g.1 g.2.1 g.2.2.1 g.2.2.2) m λg=>allP (Inv g)):∀b∈loopsOf Tryd.prog 62,lkey b=4->LoopOk Tryd.prog b (qrI1_C Inv m).g:=loop_run (Γ:=(PTab.gamz tab0 [] [])) (Λ:=noΛ) (PTab.okz tab0 [] []) noΛ_ok 100 62 4 26 qrI1_LP [] Inv (λg=>qrI1_R g.1 g.2.1 g.2.2.1 g.2.2.2) (λg=>qrI1_side g.1 g.2.1 g.2.2.1 g.2.2.2) m default [.ret,.exit 0] qrI1_one (λrd T B HL HB ds g=>by kernel_rfl) (λrd T B HL HB ds g=>by kernel_rfl) hs hg qrI1_es
abbrev qeB1_G:Type:=List Bool×List Bool×Int×Int×Bool
noncomputable def qeB1_LP:LP 0 qeB1_G:=.pair (.slot 0 0 (.list eBool)) (.pair (.slot 0 1 (.list eBool)) (.pair (.slot 0 12 dI) (.pair (.slot 0 13 dI) (.slot 0 4 dBool))))
noncomputable def qeB1_R(xs:List Bool)(ys:List Bool)(n:Int)(i:Int)(r:Bool):Ex×qeB1_G:=
 bif decide (i<n)then bif !xs.getD i.toNat eBool.dflt==ys.getD i.toNat eBool.dflt then(Ex.ret,eBool.ag xs,eBool.ag ys,n,i,false)else(Ex.normal,eBool.ag xs,eBool.ag ys,n,IntKind.i64.wrap (i+(1:Int)),r)
 else(Ex.exit (0:Nat),eBool.ag xs,eBool.ag ys,n,i,r)
def qeB1_side(xs:List Bool)(ys:List Bool)(n:Int)(i:Int)(r:Bool):Prop:=
 (decide (i<n)=true->((0:Int)<=i/\i<(↑xs.length:Int))/\((0:Int)<=i/\i<(↑ys.length:Int))/\((!xs.getD i.toNat eBool.dflt==ys.getD i.toNat eBool.dflt)=true->eBool.okL xs/\eBool.okL ys)/\((!xs.getD i.toNat eBool.dflt==ys.getD i.toNat eBool.dflt)=false->eBool.okL xs/\eBool.okL ys))/\(decide (i<n)=false->eBool.okL xs/\eBool.okL ys)
theorem qeB1_one:((loopsOf Tryd.prog 53).filter λc=>Nat.beq (lkey c) 4).length=1:=by kernel_rfl
abbrev qeB1_GC:Type:=List Bool×List Bool×Int
abbrev qeB1_GB:Type:=Bool
def qeB1_f(g:qeB1_G):Int×qeB1_GC×qeB1_GB:=(g.2.2.2.1,(g.1,g.2.1,g.2.2.1),g.2.2.2.2)
def qeB1_g(d:Int×qeB1_GC×qeB1_GB):qeB1_G:=(d.2.1.1,d.2.1.2.1,d.2.1.2.2,d.1,d.2.2)
theorem qeB1_es(g:qeB1_G):(qeB1_R g.1 g.2.1 g.2.2.1 g.2.2.2.1 g.2.2.2.2).1=.normal\/(qeB1_R g.1 g.2.1 g.2.2.1 g.2.2.2.1 g.2.2.2.2).1∈([.ret,.exit 0]:List Ex):=by
 unfold qeB1_R
 repeat' (first|(left;rfl)|(right;simp only[cond_true,cond_false];simp;done)|(rw[Bool.cond_eq_ite];split))
noncomputable abbrev qeB1_C(Inv:qeB1_G->List Prop)(m:qeB1_G->Nat):LCon:=loopR [.ret,.exit 0] (loopBody Tryd.prog 53 4) qeB1_LP [] 26 Inv (λg=>qeB1_R g.1 g.2.1 g.2.2.1 g.2.2.2.1 g.2.2.2.2) m
theorem qeB1_loop(Inv:qeB1_G->List Prop)(m:qeB1_G->Nat)(hs:∀g,allP (Inv g)->qeB1_side g.1 g.2.1 g.2.2.1 g.2.2.2.1 g.2.2.2.2)(hg:Goes (λg:qeB1_G=>qeB1_R g.1 g.2.1 g.2.2.1 g.2.2.2.1 g.2.2.2.2) m λg=>allP (Inv g)):∀b∈loopsOf Tryd.prog 53,lkey b=4->LoopOk Tryd.prog b (qeB1_C Inv m).g:=loop_run (Γ:=(PTab.gamz tab0 [] [])) (Λ:=noΛ) (PTab.okz tab0 [] []) noΛ_ok 100 53 4 26 qeB1_LP [] Inv (λg=>qeB1_R g.1 g.2.1 g.2.2.1 g.2.2.2.1 g.2.2.2.2) (λg=>qeB1_side g.1 g.2.1 g.2.2.1 g.2.2.2.1 g.2.2.2.2) m default [.ret,.exit 0] qeB1_one (λrd T B HL HB ds g=>by kernel_rfl) (λrd T B HL HB ds g=>by kernel_rfl) hs hg qeB1_es
abbrev qrB1_G:Type:=List Bool×List Bool×Int×Bool
noncomputable def qrB1_LP:LP 0 qrB1_G:=.pair (.slot 0 0 (.list eBool)) (.pair (.slot 0 1 (.list eBool)) (.pair (.slot 0 5 dI) (.slot 0 4 dBool)))
noncomputable def qrB1_R(xs:List Bool)(ys:List Bool)(i:Int)(r:Bool):Ex×qrB1_G:=
 bif decide (i<(↑xs.length:Int))then bif !xs.getD i.toNat eBool.dflt==ys.getD i.toNat eBool.dflt then(Ex.ret,eBool.ag xs,eBool.ag ys,i,false)else(Ex.normal,eBool.ag xs,eBool.ag ys,IntKind.i64.wrap (i+(1:Int)),r)
 else(Ex.exit (0:Nat),eBool.ag xs,eBool.ag ys,i,r)
def qrB1_side(xs:List Bool)(ys:List Bool)(i:Int)(r:Bool):Prop:=
 (decide (i<(↑xs.length:Int))=true->((0:Int)<=i/\i<(↑xs.length:Int))/\((0:Int)<=i/\i<(↑ys.length:Int))/\((!xs.getD i.toNat eBool.dflt==ys.getD i.toNat eBool.dflt)=true->eBool.okL xs/\eBool.okL ys)/\((!xs.getD i.toNat eBool.dflt==ys.getD i.toNat eBool.dflt)=false->eBool.okL xs/\eBool.okL ys))/\(decide (i<(↑xs.length:Int))=false->eBool.okL xs/\eBool.okL ys)
theorem qrB1_one:((loopsOf Tryd.prog 34).filter λc=>Nat.beq (lkey c) 4).length=1:=by kernel_rfl
abbrev qrB1_GC:Type:=List Bool×List Bool
abbrev qrB1_GB:Type:=Bool
def qrB1_f(g:qrB1_G):Int×qrB1_GC×qrB1_GB:=(g.2.2.1,(g.1,g.2.1),g.2.2.2)
def qrB1_g(d:Int×qrB1_GC×qrB1_GB):qrB1_G:=(d.2.1.1,d.2.1.2,d.1,d.2.2)
theorem qrB1_es(g:qrB1_G):(qrB1_R g.1 g.2.1 g.2.2.1 g.2.2.2).1=.normal\/(qrB1_R g.1 g.2.1 g.2.2.1 g.2.2.2).1∈([.ret,.exit 0]:List Ex):=by
 unfold qrB1_R
 repeat' (first|(left;rfl)|(right;simp only[cond_true,cond_false];simp;done)|(rw[Bool.cond_eq_ite];split))
noncomputable abbrev qrB1_C(Inv:qrB1_G->List Prop)(m:qrB1_G->Nat):LCon:=loopR [.ret,.exit 0] (loopBody Tryd.prog 34 4) qrB1_LP [] 26 Inv (λg=>qrB1_R g.1 g.2.1 g.2.2.1 g.2.2.2) m
theorem qrB1_loop(Inv:qrB1_G->List Prop)(m:qrB1_G->Nat)(hs:∀g,allP (Inv g)->qrB1_side g.1 g.2.1 g.2.2.1 g.2.2.2)(hg:Goes (λg:qrB1_G=>qrB1_R g.1 g.2.1 g.2.2.1 g.2.2.2) m λg=>allP (Inv g)):∀b∈loopsOf Tryd.prog 34,lkey b=4->LoopOk Tryd.prog b (qrB1_C Inv m).g:=loop_run (Γ:=(PTab.gamz tab0 [] [])) (Λ:=noΛ) (PTab.okz tab0 [] []) noΛ_ok 100 34 4 26 qrB1_LP [] Inv (λg=>qrB1_R g.1 g.2.1 g.2.2.1 g.2.2.2) (λg=>qrB1_side g.1 g.2.1 g.2.2.1 g.2.2.2) m default [.ret,.exit 0] qrB1_one (λrd T B HL HB ds g=>by kernel_rfl) (λrd T B HL HB ds g=>by kernel_rfl) hs hg qrB1_es
abbrev qeR1_G:Type:=List Rec×List Rec×Int×Int×Bool
noncomputable def qeR1_LP:LP 0 qeR1_G:=.pair (.slot 0 0 (.list eR)) (.pair (.slot 0 1 (.list eR)) (.pair (.slot 0 12 dI) (.pair (.slot 0 13 dI) (.slot 0 4 dBool))))
noncomputable def qeR1_R(xs:List Rec)(ys:List Rec)(n:Int)(i:Int)(r:Bool):Ex×qeR1_G:=
 bif decide (i<n)then bif !conj ([(xs.getD i.toNat eR.dflt).key==(ys.getD i.toNat eR.dflt).key]++([decide ((xs.getD i.toNat eR.dflt).text=(ys.getD i.toNat eR.dflt).text)]++[]))then(Ex.ret,eR.ag xs,eR.ag ys,n,i,false)else(Ex.normal,eR.ag xs,eR.ag ys,n,IntKind.i64.wrap (i+(1:Int)),r)
 else(Ex.exit (0:Nat),eR.ag xs,eR.ag ys,n,i,r)
def qeR1_side(xs:List Rec)(ys:List Rec)(n:Int)(i:Int)(r:Bool):Prop:=
 (decide (i<n)=true->((0:Int)<=i/\i<(↑xs.length:Int))/\((0:Int)<=i/\i<(↑ys.length:Int))/\((!conj ([(xs.getD i.toNat eR.dflt).key==(ys.getD i.toNat eR.dflt).key]++([decide ((xs.getD i.toNat eR.dflt).text=(ys.getD i.toNat eR.dflt).text)]++[])))=true->eR.okL xs/\eR.okL ys)/\((!conj ([(xs.getD i.toNat eR.dflt).key==(ys.getD i.toNat eR.dflt).key]++([decide ((xs.getD i.toNat eR.dflt).text=(ys.getD i.toNat eR.dflt).text)]++[])))=false->eR.okL xs/\eR.okL ys))/\(decide (i<n)=false->eR.okL xs/\eR.okL ys)
theorem qeR1_one:((loopsOf Tryd.prog 97).filter λc=>Nat.beq (lkey c) 4).length=1:=by kernel_rfl
abbrev qeR1_GC:Type:=List Rec×List Rec×Int
abbrev qeR1_GB:Type:=Bool
def qeR1_f(g:qeR1_G):Int×qeR1_GC×qeR1_GB:=(g.2.2.2.1,(g.1,g.2.1,g.2.2.1),g.2.2.2.2)
def qeR1_g(d:Int×qeR1_GC×qeR1_GB):qeR1_G:=(d.2.1.1,d.2.1.2.1,d.2.1.2.2,d.1,d.2.2)
theorem qeR1_es(g:qeR1_G):(qeR1_R g.1 g.2.1 g.2.2.1 g.2.2.2.1 g.2.2.2.2).1=.normal\/(qeR1_R g.1 g.2.1 g.2.2.1 g.2.2.2.1 g.2.2.2.2).1∈([.ret,.exit 0]:List Ex):=by
 unfold qeR1_R
 repeat' (first|(left;rfl)|(right;simp only[cond_true,cond_false];simp;done)|(rw[Bool.cond_eq_ite];split))
noncomputable abbrev qeR1_C(Inv:qeR1_G->List Prop)(m:qeR1_G->Nat):LCon:=loopR [.ret,.exit 0] (loopBody Tryd.prog 97 4) qeR1_LP [] 26 Inv (λg=>qeR1_R g.1 g.2.1 g.2.2.1 g.2.2.2.1 g.2.2.2.2) m
theorem qeR1_loop(Inv:qeR1_G->List Prop)(m:qeR1_G->Nat)(hs:∀g,allP (Inv g)->qeR1_side g.1 g.2.1 g.2.2.1 g.2.2.2.1 g.2.2.2.2)(hg:Goes (λg:qeR1_G=>qeR1_R g.1 g.2.1 g.2.2.1 g.2.2.2.1 g.2.2.2.2) m λg=>allP (Inv g)):∀b∈loopsOf Tryd.prog 97,lkey b=4->LoopOk Tryd.prog b (qeR1_C Inv m).g:=loop_run (Γ:=(PTab.gamz tab0 [] [])) (Λ:=noΛ) (PTab.okz tab0 [] []) noΛ_ok 100 97 4 26 qeR1_LP [] Inv (λg=>qeR1_R g.1 g.2.1 g.2.2.1 g.2.2.2.1 g.2.2.2.2) (λg=>qeR1_side g.1 g.2.1 g.2.2.1 g.2.2.2.1 g.2.2.2.2) m default [.ret,.exit 0] qeR1_one (λrd T B HL HB ds g=>by kernel_rfl) (λrd T B HL HB ds g=>by kernel_rfl) hs hg qeR1_es
abbrev qrR1_G:Type:=List Rec×List Rec×Int×Bool
noncomputable def qrR1_LP:LP 0 qrR1_G:=.pair (.slot 0 0 (.list eR)) (.pair (.slot 0 1 (.list eR)) (.pair (.slot 0 5 dI) (.slot 0 4 dBool)))
noncomputable def qrR1_R(xs:List Rec)(ys:List Rec)(i:Int)(r:Bool):Ex×qrR1_G:=
 bif decide (i<(↑xs.length:Int))then bif !conj ([(xs.getD i.toNat eR.dflt).key==(ys.getD i.toNat eR.dflt).key]++([decide ((xs.getD i.toNat eR.dflt).text=(ys.getD i.toNat eR.dflt).text)]++[]))then(Ex.ret,eR.ag xs,eR.ag ys,i,false)else(Ex.normal,eR.ag xs,eR.ag ys,IntKind.i64.wrap (i+(1:Int)),r)
 else(Ex.exit (0:Nat),eR.ag xs,eR.ag ys,i,r)
def qrR1_side(xs:List Rec)(ys:List Rec)(i:Int)(r:Bool):Prop:=
 (decide (i<(↑xs.length:Int))=true->((0:Int)<=i/\i<(↑xs.length:Int))/\((0:Int)<=i/\i<(↑ys.length:Int))/\((!conj ([(xs.getD i.toNat eR.dflt).key==(ys.getD i.toNat eR.dflt).key]++([decide ((xs.getD i.toNat eR.dflt).text=(ys.getD i.toNat eR.dflt).text)]++[])))=true->eR.okL xs/\eR.okL ys)/\((!conj ([(xs.getD i.toNat eR.dflt).key==(ys.getD i.toNat eR.dflt).key]++([decide ((xs.getD i.toNat eR.dflt).text=(ys.getD i.toNat eR.dflt).text)]++[])))=false->eR.okL xs/\eR.okL ys))/\(decide (i<(↑xs.length:Int))=false->eR.okL xs/\eR.okL ys)
theorem qrR1_one:((loopsOf Tryd.prog 64).filter λc=>Nat.beq (lkey c) 4).length=1:=by kernel_rfl
abbrev qrR1_GC:Type:=List Rec×List Rec
abbrev qrR1_GB:Type:=Bool
def qrR1_f(g:qrR1_G):Int×qrR1_GC×qrR1_GB:=(g.2.2.1,(g.1,g.2.1),g.2.2.2)
def qrR1_g(d:Int×qrR1_GC×qrR1_GB):qrR1_G:=(d.2.1.1,d.2.1.2,d.1,d.2.2)
theorem qrR1_es(g:qrR1_G):(qrR1_R g.1 g.2.1 g.2.2.1 g.2.2.2).1=.normal\/(qrR1_R g.1 g.2.1 g.2.2.1 g.2.2.2).1∈([.ret,.exit 0]:List Ex):=by
 unfold qrR1_R
 repeat' (first|(left;rfl)|(right;simp only[cond_true,cond_false];simp;done)|(rw[Bool.cond_eq_ite];split))
noncomputable abbrev qrR1_C(Inv:qrR1_G->List Prop)(m:qrR1_G->Nat):LCon:=loopR [.ret,.exit 0] (loopBody Tryd.prog 64 4) qrR1_LP [] 26 Inv (λg=>qrR1_R g.1 g.2.1 g.2.2.1 g.2.2.2) m
theorem qrR1_loop(Inv:qrR1_G->List Prop)(m:qrR1_G->Nat)(hs:∀g,allP (Inv g)->qrR1_side g.1 g.2.1 g.2.2.1 g.2.2.2)(hg:Goes (λg:qrR1_G=>qrR1_R g.1 g.2.1 g.2.2.1 g.2.2.2) m λg=>allP (Inv g)):∀b∈loopsOf Tryd.prog 64,lkey b=4->LoopOk Tryd.prog b (qrR1_C Inv m).g:=loop_run (Γ:=(PTab.gamz tab0 [] [])) (Λ:=noΛ) (PTab.okz tab0 [] []) noΛ_ok 100 64 4 26 qrR1_LP [] Inv (λg=>qrR1_R g.1 g.2.1 g.2.2.1 g.2.2.2) (λg=>qrR1_side g.1 g.2.1 g.2.2.1 g.2.2.2) m default [.ret,.exit 0] qrR1_one (λrd T B HL HB ds g=>by kernel_rfl) (λrd T B HL HB ds g=>by kernel_rfl) hs hg qrR1_es
abbrev qeC1_G:Type:=List Change×List Change×Int×Int×Bool
noncomputable def qeC1_LP:LP 0 qeC1_G:=.pair (.slot 0 0 (.list eC)) (.pair (.slot 0 1 (.list eC)) (.pair (.slot 0 12 dI) (.pair (.slot 0 13 dI) (.slot 0 4 dBool))))
noncomputable def qeC1_R(xs:List Change)(ys:List Change)(n:Int)(i:Int)(r:Bool):Ex×qeC1_G:=
 bif decide (i<n)then bif !conj ([(xs.getD i.toNat eC.dflt).p.node==(ys.getD i.toNat eC.dflt).p.node]++([(xs.getD i.toNat eC.dflt).p.port==(ys.getD i.toNat eC.dflt).p.port]++[])++([(xs.getD i.toNat eC.dflt).t.e==(ys.getD i.toNat eC.dflt).t.e]++([(xs.getD i.toNat eC.dflt).t.d==(ys.getD i.toNat eC.dflt).t.d]++([(xs.getD i.toNat eC.dflt).t.l0==(ys.getD i.toNat eC.dflt).t.l0]++([(xs.getD i.toNat eC.dflt).t.l1==(ys.getD i.toNat eC.dflt).t.l1]++([(xs.getD i.toNat eC.dflt).t.l2==(ys.getD i.toNat eC.dflt).t.l2]++([(xs.getD i.toNat eC.dflt).t.l3==(ys.getD i.toNat eC.dflt).t.l3]++[])))++[]))++([(xs.getD i.toNat eC.dflt).n==(ys.getD i.toNat eC.dflt).n]++[])))then(Ex.ret,eC.ag xs,eC.ag ys,n,i,false)else(Ex.normal,eC.ag xs,eC.ag ys,n,IntKind.i64.wrap (i+(1:Int)),r)
 else(Ex.exit (0:Nat),eC.ag xs,eC.ag ys,n,i,r)
def qeC1_side(xs:List Change)(ys:List Change)(n:Int)(i:Int)(r:Bool):Prop:=
 (decide (i<n)=true->((0:Int)<=i/\i<(↑xs.length:Int))/\((0:Int)<=i/\i<(↑ys.length:Int))/\((!conj ([(xs.getD i.toNat eC.dflt).p.node==(ys.getD i.toNat eC.dflt).p.node]++([(xs.getD i.toNat eC.dflt).p.port==(ys.getD i.toNat eC.dflt).p.port]++[])++([(xs.getD i.toNat eC.dflt).t.e==(ys.getD i.toNat eC.dflt).t.e]++([(xs.getD i.toNat eC.dflt).t.d==(ys.getD i.toNat eC.dflt).t.d]++([(xs.getD i.toNat eC.dflt).t.l0==(ys.getD i.toNat eC.dflt).t.l0]++([(xs.getD i.toNat eC.dflt).t.l1==(ys.getD i.toNat eC.dflt).t.l1]++([(xs.getD i.toNat eC.dflt).t.l2==(ys.getD i.toNat eC.dflt).t.l2]++([(xs.getD i.toNat eC.dflt).t.l3==(ys.getD i.toNat eC.dflt).t.l3]++[])))++[]))++([(xs.getD i.toNat eC.dflt).n==(ys.getD i.toNat eC.dflt).n]++[]))))=true->eC.okL xs/\eC.okL ys)/\((!conj ([(xs.getD i.toNat eC.dflt).p.node==(ys.getD i.toNat eC.dflt).p.node]++([(xs.getD i.toNat eC.dflt).p.port==(ys.getD i.toNat eC.dflt).p.port]++[])++([(xs.getD i.toNat eC.dflt).t.e==(ys.getD i.toNat eC.dflt).t.e]++([(xs.getD i.toNat eC.dflt).t.d==(ys.getD i.toNat eC.dflt).t.d]++([(xs.getD i.toNat eC.dflt).t.l0==(ys.getD i.toNat eC.dflt).t.l0]++([(xs.getD i.toNat eC.dflt).t.l1==(ys.getD i.toNat eC.dflt).t.l1]++([(xs.getD i.toNat eC.dflt).t.l2==(ys.getD i.toNat eC.dflt).t.l2]++([(xs.getD i.toNat eC.dflt).t.l3==(ys.getD i.toNat eC.dflt).t.l3]++[])))++[]))++([(xs.getD i.toNat eC.dflt).n==(ys.getD i.toNat eC.dflt).n]++[]))))=false->eC.okL xs/\eC.okL ys))/\(decide (i<n)=false->eC.okL xs/\eC.okL ys)
theorem qeC1_one:((loopsOf Tryd.prog 98).filter λc=>Nat.beq (lkey c) 4).length=1:=by kernel_rfl
abbrev qeC1_GC:Type:=List Change×List Change×Int
abbrev qeC1_GB:Type:=Bool
def qeC1_f(g:qeC1_G):Int×qeC1_GC×qeC1_GB:=(g.2.2.2.1,(g.1,g.2.1,g.2.2.1),g.2.2.2.2)
def qeC1_g(d:Int×qeC1_GC×qeC1_GB):qeC1_G:=(d.2.1.1,d.2.1.2.1,d.2.1.2.2,d.1,d.2.2)
theorem qeC1_es(g:qeC1_G):(qeC1_R g.1 g.2.1 g.2.2.1 g.2.2.2.1 g.2.2.2.2).1=.normal\/(qeC1_R g.1 g.2.1 g.2.2.1 g.2.2.2.1 g.2.2.2.2).1∈([.ret,.exit 0]:List Ex):=by
 unfold qeC1_R
 repeat' (first|(left;rfl)|(right;simp only[cond_true,cond_false];simp;done)|(rw[Bool.cond_eq_ite];split))
noncomputable abbrev qeC1_C(Inv:qeC1_G->List Prop)(m:qeC1_G->Nat):LCon:=loopR [.ret,.exit 0] (loopBody Tryd.prog 98 4) qeC1_LP [] 26 Inv (λg=>qeC1_R g.1 g.2.1 g.2.2.1 g.2.2.2.1 g.2.2.2.2) m
theorem qeC1_loop(Inv:qeC1_G->List Prop)(m:qeC1_G->Nat)(hs:∀g,allP (Inv g)->qeC1_side g.1 g.2.1 g.2.2.1 g.2.2.2.1 g.2.2.2.2)(hg:Goes (λg:qeC1_G=>qeC1_R g.1 g.2.1 g.2.2.1 g.2.2.2.1 g.2.2.2.2) m λg=>allP (Inv g)):∀b∈loopsOf Tryd.prog 98,lkey b=4->LoopOk Tryd.prog b (qeC1_C Inv m).g:=loop_run (Γ:=(PTab.gamz tab0 [] [])) (Λ:=noΛ) (PTab.okz tab0 [] []) noΛ_ok 100 98 4 26 qeC1_LP [] Inv (λg=>qeC1_R g.1 g.2.1 g.2.2.1 g.2.2.2.1 g.2.2.2.2) (λg=>qeC1_side g.1 g.2.1 g.2.2.1 g.2.2.2.1 g.2.2.2.2) m default [.ret,.exit 0] qeC1_one (λrd T B HL HB ds g=>by kernel_rfl) (λrd T B HL HB ds g=>by kernel_rfl) hs hg qeC1_es
abbrev qrC1_G:Type:=List Change×List Change×Int×Bool
noncomputable def qrC1_LP:LP 0 qrC1_G:=.pair (.slot 0 0 (.list eC)) (.pair (.slot 0 1 (.list eC)) (.pair (.slot 0 5 dI) (.slot 0 4 dBool)))
noncomputable def qrC1_R(xs:List Change)(ys:List Change)(i:Int)(r:Bool):Ex×qrC1_G:=
 bif decide (i<(↑xs.length:Int))then bif !conj ([(xs.getD i.toNat eC.dflt).p.node==(ys.getD i.toNat eC.dflt).p.node]++([(xs.getD i.toNat eC.dflt).p.port==(ys.getD i.toNat eC.dflt).p.port]++[])++([(xs.getD i.toNat eC.dflt).t.e==(ys.getD i.toNat eC.dflt).t.e]++([(xs.getD i.toNat eC.dflt).t.d==(ys.getD i.toNat eC.dflt).t.d]++([(xs.getD i.toNat eC.dflt).t.l0==(ys.getD i.toNat eC.dflt).t.l0]++([(xs.getD i.toNat eC.dflt).t.l1==(ys.getD i.toNat eC.dflt).t.l1]++([(xs.getD i.toNat eC.dflt).t.l2==(ys.getD i.toNat eC.dflt).t.l2]++([(xs.getD i.toNat eC.dflt).t.l3==(ys.getD i.toNat eC.dflt).t.l3]++[])))++[]))++([(xs.getD i.toNat eC.dflt).n==(ys.getD i.toNat eC.dflt).n]++[])))then(Ex.ret,eC.ag xs,eC.ag ys,i,false)else(Ex.normal,eC.ag xs,eC.ag ys,IntKind.i64.wrap (i+(1:Int)),r)
 else(Ex.exit (0:Nat),eC.ag xs,eC.ag ys,i,r)
def qrC1_side(xs:List Change)(ys:List Change)(i:Int)(r:Bool):Prop:=
 (decide (i<(↑xs.length:Int))=true->((0:Int)<=i/\i<(↑xs.length:Int))/\((0:Int)<=i/\i<(↑ys.length:Int))/\((!conj ([(xs.getD i.toNat eC.dflt).p.node==(ys.getD i.toNat eC.dflt).p.node]++([(xs.getD i.toNat eC.dflt).p.port==(ys.getD i.toNat eC.dflt).p.port]++[])++([(xs.getD i.toNat eC.dflt).t.e==(ys.getD i.toNat eC.dflt).t.e]++([(xs.getD i.toNat eC.dflt).t.d==(ys.getD i.toNat eC.dflt).t.d]++([(xs.getD i.toNat eC.dflt).t.l0==(ys.getD i.toNat eC.dflt).t.l0]++([(xs.getD i.toNat eC.dflt).t.l1==(ys.getD i.toNat eC.dflt).t.l1]++([(xs.getD i.toNat eC.dflt).t.l2==(ys.getD i.toNat eC.dflt).t.l2]++([(xs.getD i.toNat eC.dflt).t.l3==(ys.getD i.toNat eC.dflt).t.l3]++[])))++[]))++([(xs.getD i.toNat eC.dflt).n==(ys.getD i.toNat eC.dflt).n]++[]))))=true->eC.okL xs/\eC.okL ys)/\((!conj ([(xs.getD i.toNat eC.dflt).p.node==(ys.getD i.toNat eC.dflt).p.node]++([(xs.getD i.toNat eC.dflt).p.port==(ys.getD i.toNat eC.dflt).p.port]++[])++([(xs.getD i.toNat eC.dflt).t.e==(ys.getD i.toNat eC.dflt).t.e]++([(xs.getD i.toNat eC.dflt).t.d==(ys.getD i.toNat eC.dflt).t.d]++([(xs.getD i.toNat eC.dflt).t.l0==(ys.getD i.toNat eC.dflt).t.l0]++([(xs.getD i.toNat eC.dflt).t.l1==(ys.getD i.toNat eC.dflt).t.l1]++([(xs.getD i.toNat eC.dflt).t.l2==(ys.getD i.toNat eC.dflt).t.l2]++([(xs.getD i.toNat eC.dflt).t.l3==(ys.getD i.toNat eC.dflt).t.l3]++[])))++[]))++([(xs.getD i.toNat eC.dflt).n==(ys.getD i.toNat eC.dflt).n]++[]))))=false->eC.okL xs/\eC.okL ys))/\(decide (i<(↑xs.length:Int))=false->eC.okL xs/\eC.okL ys)
theorem qrC1_one:((loopsOf Tryd.prog 65).filter λc=>Nat.beq (lkey c) 4).length=1:=by kernel_rfl
abbrev qrC1_GC:Type:=List Change×List Change
abbrev qrC1_GB:Type:=Bool
def qrC1_f(g:qrC1_G):Int×qrC1_GC×qrC1_GB:=(g.2.2.1,(g.1,g.2.1),g.2.2.2)
def qrC1_g(d:Int×qrC1_GC×qrC1_GB):qrC1_G:=(d.2.1.1,d.2.1.2,d.1,d.2.2)
theorem qrC1_es(g:qrC1_G):(qrC1_R g.1 g.2.1 g.2.2.1 g.2.2.2).1=.normal\/(qrC1_R g.1 g.2.1 g.2.2.1 g.2.2.2).1∈([.ret,.exit 0]:List Ex):=by
 unfold qrC1_R
 repeat' (first|(left;rfl)|(right;simp only[cond_true,cond_false];simp;done)|(rw[Bool.cond_eq_ite];split))
noncomputable abbrev qrC1_C(Inv:qrC1_G->List Prop)(m:qrC1_G->Nat):LCon:=loopR [.ret,.exit 0] (loopBody Tryd.prog 65 4) qrC1_LP [] 26 Inv (λg=>qrC1_R g.1 g.2.1 g.2.2.1 g.2.2.2) m
theorem qrC1_loop(Inv:qrC1_G->List Prop)(m:qrC1_G->Nat)(hs:∀g,allP (Inv g)->qrC1_side g.1 g.2.1 g.2.2.1 g.2.2.2)(hg:Goes (λg:qrC1_G=>qrC1_R g.1 g.2.1 g.2.2.1 g.2.2.2) m λg=>allP (Inv g)):∀b∈loopsOf Tryd.prog 65,lkey b=4->LoopOk Tryd.prog b (qrC1_C Inv m).g:=loop_run (Γ:=(PTab.gamz tab0 [] [])) (Λ:=noΛ) (PTab.okz tab0 [] []) noΛ_ok 100 65 4 26 qrC1_LP [] Inv (λg=>qrC1_R g.1 g.2.1 g.2.2.1 g.2.2.2) (λg=>qrC1_side g.1 g.2.1 g.2.2.1 g.2.2.2) m default [.ret,.exit 0] qrC1_one (λrd T B HL HB ds g=>by kernel_rfl) (λrd T B HL HB ds g=>by kernel_rfl) hs hg qrC1_es
abbrev qeN1_G:Type:=List Ent×List Ent×Int×Int×Bool
noncomputable def qeN1_LP:LP 0 qeN1_G:=.pair (.slot 0 0 (.list eN)) (.pair (.slot 0 1 (.list eN)) (.pair (.slot 0 12 dI) (.pair (.slot 0 13 dI) (.slot 0 4 dBool))))
noncomputable def qeN1_R(xs:List Ent)(ys:List Ent)(n:Int)(i:Int)(r:Bool):Ex×qeN1_G:=
 bif decide (i<n)then bif !conj ([(xs.getD i.toNat eN.dflt).node==(ys.getD i.toNat eN.dflt).node]++([(xs.getD i.toNat eN.dflt).key==(ys.getD i.toNat eN.dflt).key]++([decide ((xs.getD i.toNat eN.dflt).text=(ys.getD i.toNat eN.dflt).text)]++([(xs.getD i.toNat eN.dflt).n==(ys.getD i.toNat eN.dflt).n]++[]))))then(Ex.ret,eN.ag xs,eN.ag ys,n,i,false)else(Ex.normal,eN.ag xs,eN.ag ys,n,IntKind.i64.wrap (i+(1:Int)),r)
 else(Ex.exit (0:Nat),eN.ag xs,eN.ag ys,n,i,r)
def qeN1_side(xs:List Ent)(ys:List Ent)(n:Int)(i:Int)(r:Bool):Prop:=
 (decide (i<n)=true->((0:Int)<=i/\i<(↑xs.length:Int))/\((0:Int)<=i/\i<(↑ys.length:Int))/\((!conj ([(xs.getD i.toNat eN.dflt).node==(ys.getD i.toNat eN.dflt).node]++([(xs.getD i.toNat eN.dflt).key==(ys.getD i.toNat eN.dflt).key]++([decide ((xs.getD i.toNat eN.dflt).text=(ys.getD i.toNat eN.dflt).text)]++([(xs.getD i.toNat eN.dflt).n==(ys.getD i.toNat eN.dflt).n]++[])))))=true->eN.okL xs/\eN.okL ys)/\((!conj ([(xs.getD i.toNat eN.dflt).node==(ys.getD i.toNat eN.dflt).node]++([(xs.getD i.toNat eN.dflt).key==(ys.getD i.toNat eN.dflt).key]++([decide ((xs.getD i.toNat eN.dflt).text=(ys.getD i.toNat eN.dflt).text)]++([(xs.getD i.toNat eN.dflt).n==(ys.getD i.toNat eN.dflt).n]++[])))))=false->eN.okL xs/\eN.okL ys))/\(decide (i<n)=false->eN.okL xs/\eN.okL ys)
theorem qeN1_one:((loopsOf Tryd.prog 30).filter λc=>Nat.beq (lkey c) 4).length=1:=by kernel_rfl
abbrev qeN1_GC:Type:=List Ent×List Ent×Int
abbrev qeN1_GB:Type:=Bool
def qeN1_f(g:qeN1_G):Int×qeN1_GC×qeN1_GB:=(g.2.2.2.1,(g.1,g.2.1,g.2.2.1),g.2.2.2.2)
def qeN1_g(d:Int×qeN1_GC×qeN1_GB):qeN1_G:=(d.2.1.1,d.2.1.2.1,d.2.1.2.2,d.1,d.2.2)
theorem qeN1_es(g:qeN1_G):(qeN1_R g.1 g.2.1 g.2.2.1 g.2.2.2.1 g.2.2.2.2).1=.normal\/(qeN1_R g.1 g.2.1 g.2.2.1 g.2.2.2.1 g.2.2.2.2).1∈([.ret,.exit 0]:List Ex):=by
 unfold qeN1_R
 repeat' (first|(left;rfl)|(right;simp only[cond_true,cond_false];simp;done)|(rw[Bool.cond_eq_ite];split))
noncomputable abbrev qeN1_C(Inv:qeN1_G->List Prop)(m:qeN1_G->Nat):LCon:=loopR [.ret,.exit 0] (loopBody Tryd.prog 30 4) qeN1_LP [] 26 Inv (λg=>qeN1_R g.1 g.2.1 g.2.2.1 g.2.2.2.1 g.2.2.2.2) m
theorem qeN1_loop(Inv:qeN1_G->List Prop)(m:qeN1_G->Nat)(hs:∀g,allP (Inv g)->qeN1_side g.1 g.2.1 g.2.2.1 g.2.2.2.1 g.2.2.2.2)(hg:Goes (λg:qeN1_G=>qeN1_R g.1 g.2.1 g.2.2.1 g.2.2.2.1 g.2.2.2.2) m λg=>allP (Inv g)):∀b∈loopsOf Tryd.prog 30,lkey b=4->LoopOk Tryd.prog b (qeN1_C Inv m).g:=loop_run (Γ:=(PTab.gamz tab0 [] [])) (Λ:=noΛ) (PTab.okz tab0 [] []) noΛ_ok 100 30 4 26 qeN1_LP [] Inv (λg=>qeN1_R g.1 g.2.1 g.2.2.1 g.2.2.2.1 g.2.2.2.2) (λg=>qeN1_side g.1 g.2.1 g.2.2.1 g.2.2.2.1 g.2.2.2.2) m default [.ret,.exit 0] qeN1_one (λrd T B HL HB ds g=>by kernel_rfl) (λrd T B HL HB ds g=>by kernel_rfl) hs hg qeN1_es
abbrev qrN1_G:Type:=List Ent×List Ent×Int×Bool
noncomputable def qrN1_LP:LP 0 qrN1_G:=.pair (.slot 0 0 (.list eN)) (.pair (.slot 0 1 (.list eN)) (.pair (.slot 0 5 dI) (.slot 0 4 dBool)))
noncomputable def qrN1_R(xs:List Ent)(ys:List Ent)(i:Int)(r:Bool):Ex×qrN1_G:=
 bif decide (i<(↑xs.length:Int))then bif !conj ([(xs.getD i.toNat eN.dflt).node==(ys.getD i.toNat eN.dflt).node]++([(xs.getD i.toNat eN.dflt).key==(ys.getD i.toNat eN.dflt).key]++([decide ((xs.getD i.toNat eN.dflt).text=(ys.getD i.toNat eN.dflt).text)]++([(xs.getD i.toNat eN.dflt).n==(ys.getD i.toNat eN.dflt).n]++[]))))then(Ex.ret,eN.ag xs,eN.ag ys,i,false)else(Ex.normal,eN.ag xs,eN.ag ys,IntKind.i64.wrap (i+(1:Int)),r)
 else(Ex.exit (0:Nat),eN.ag xs,eN.ag ys,i,r)
def qrN1_side(xs:List Ent)(ys:List Ent)(i:Int)(r:Bool):Prop:=
 (decide (i<(↑xs.length:Int))=true->((0:Int)<=i/\i<(↑xs.length:Int))/\((0:Int)<=i/\i<(↑ys.length:Int))/\((!conj ([(xs.getD i.toNat eN.dflt).node==(ys.getD i.toNat eN.dflt).node]++([(xs.getD i.toNat eN.dflt).key==(ys.getD i.toNat eN.dflt).key]++([decide ((xs.getD i.toNat eN.dflt).text=(ys.getD i.toNat eN.dflt).text)]++([(xs.getD i.toNat eN.dflt).n==(ys.getD i.toNat eN.dflt).n]++[])))))=true->eN.okL xs/\eN.okL ys)/\((!conj ([(xs.getD i.toNat eN.dflt).node==(ys.getD i.toNat eN.dflt).node]++([(xs.getD i.toNat eN.dflt).key==(ys.getD i.toNat eN.dflt).key]++([decide ((xs.getD i.toNat eN.dflt).text=(ys.getD i.toNat eN.dflt).text)]++([(xs.getD i.toNat eN.dflt).n==(ys.getD i.toNat eN.dflt).n]++[])))))=false->eN.okL xs/\eN.okL ys))/\(decide (i<(↑xs.length:Int))=false->eN.okL xs/\eN.okL ys)
theorem qrN1_one:((loopsOf Tryd.prog 35).filter λc=>Nat.beq (lkey c) 4).length=1:=by kernel_rfl
abbrev qrN1_GC:Type:=List Ent×List Ent
abbrev qrN1_GB:Type:=Bool
def qrN1_f(g:qrN1_G):Int×qrN1_GC×qrN1_GB:=(g.2.2.1,(g.1,g.2.1),g.2.2.2)
def qrN1_g(d:Int×qrN1_GC×qrN1_GB):qrN1_G:=(d.2.1.1,d.2.1.2,d.1,d.2.2)
theorem qrN1_es(g:qrN1_G):(qrN1_R g.1 g.2.1 g.2.2.1 g.2.2.2).1=.normal\/(qrN1_R g.1 g.2.1 g.2.2.1 g.2.2.2).1∈([.ret,.exit 0]:List Ex):=by
 unfold qrN1_R
 repeat' (first|(left;rfl)|(right;simp only[cond_true,cond_false];simp;done)|(rw[Bool.cond_eq_ite];split))
noncomputable abbrev qrN1_C(Inv:qrN1_G->List Prop)(m:qrN1_G->Nat):LCon:=loopR [.ret,.exit 0] (loopBody Tryd.prog 35 4) qrN1_LP [] 26 Inv (λg=>qrN1_R g.1 g.2.1 g.2.2.1 g.2.2.2) m
theorem qrN1_loop(Inv:qrN1_G->List Prop)(m:qrN1_G->Nat)(hs:∀g,allP (Inv g)->qrN1_side g.1 g.2.1 g.2.2.1 g.2.2.2)(hg:Goes (λg:qrN1_G=>qrN1_R g.1 g.2.1 g.2.2.1 g.2.2.2) m λg=>allP (Inv g)):∀b∈loopsOf Tryd.prog 35,lkey b=4->LoopOk Tryd.prog b (qrN1_C Inv m).g:=loop_run (Γ:=(PTab.gamz tab0 [] [])) (Λ:=noΛ) (PTab.okz tab0 [] []) noΛ_ok 100 35 4 26 qrN1_LP [] Inv (λg=>qrN1_R g.1 g.2.1 g.2.2.1 g.2.2.2) (λg=>qrN1_side g.1 g.2.1 g.2.2.1 g.2.2.2) m default [.ret,.exit 0] qrN1_one (λrd T B HL HB ds g=>by kernel_rfl) (λrd T B HL HB ds g=>by kernel_rfl) hs hg qrN1_es
abbrev qeV1_G:Type:=List Mv×List Mv×Int×Int×Bool
noncomputable def qeV1_LP:LP 0 qeV1_G:=.pair (.slot 0 0 (.list eV)) (.pair (.slot 0 1 (.list eV)) (.pair (.slot 0 12 dI) (.pair (.slot 0 13 dI) (.slot 0 4 dBool))))
noncomputable def qeV1_R(xs:List Mv)(ys:List Mv)(n:Int)(i:Int)(r:Bool):Ex×qeV1_G:=
 bif decide (i<n)then bif !conj ([(xs.getD i.toNat eV.dflt).fr==(ys.getD i.toNat eV.dflt).fr]++([(xs.getD i.toNat eV.dflt).to==(ys.getD i.toNat eV.dflt).to]++([(xs.getD i.toNat eV.dflt).kind==(ys.getD i.toNat eV.dflt).kind]++([(xs.getD i.toNat eV.dflt).a==(ys.getD i.toNat eV.dflt).a]++([(xs.getD i.toNat eV.dflt).fn.kind==(ys.getD i.toNat eV.dflt).fn.kind]++([(xs.getD i.toNat eV.dflt).fn.a==(ys.getD i.toNat eV.dflt).fn.a]++([decide ((xs.getD i.toNat eV.dflt).fn.s=(ys.getD i.toNat eV.dflt).fn.s)]++[]))++[])))))then(Ex.ret,eV.ag xs,eV.ag ys,n,i,false)else(Ex.normal,eV.ag xs,eV.ag ys,n,IntKind.i64.wrap (i+(1:Int)),r)
 else(Ex.exit (0:Nat),eV.ag xs,eV.ag ys,n,i,r)
def qeV1_side(xs:List Mv)(ys:List Mv)(n:Int)(i:Int)(r:Bool):Prop:=
 (decide (i<n)=true->((0:Int)<=i/\i<(↑xs.length:Int))/\((0:Int)<=i/\i<(↑ys.length:Int))/\((!conj ([(xs.getD i.toNat eV.dflt).fr==(ys.getD i.toNat eV.dflt).fr]++([(xs.getD i.toNat eV.dflt).to==(ys.getD i.toNat eV.dflt).to]++([(xs.getD i.toNat eV.dflt).kind==(ys.getD i.toNat eV.dflt).kind]++([(xs.getD i.toNat eV.dflt).a==(ys.getD i.toNat eV.dflt).a]++([(xs.getD i.toNat eV.dflt).fn.kind==(ys.getD i.toNat eV.dflt).fn.kind]++([(xs.getD i.toNat eV.dflt).fn.a==(ys.getD i.toNat eV.dflt).fn.a]++([decide ((xs.getD i.toNat eV.dflt).fn.s=(ys.getD i.toNat eV.dflt).fn.s)]++[]))++[]))))))=true->eV.okL xs/\eV.okL ys)/\((!conj ([(xs.getD i.toNat eV.dflt).fr==(ys.getD i.toNat eV.dflt).fr]++([(xs.getD i.toNat eV.dflt).to==(ys.getD i.toNat eV.dflt).to]++([(xs.getD i.toNat eV.dflt).kind==(ys.getD i.toNat eV.dflt).kind]++([(xs.getD i.toNat eV.dflt).a==(ys.getD i.toNat eV.dflt).a]++([(xs.getD i.toNat eV.dflt).fn.kind==(ys.getD i.toNat eV.dflt).fn.kind]++([(xs.getD i.toNat eV.dflt).fn.a==(ys.getD i.toNat eV.dflt).fn.a]++([decide ((xs.getD i.toNat eV.dflt).fn.s=(ys.getD i.toNat eV.dflt).fn.s)]++[]))++[]))))))=false->eV.okL xs/\eV.okL ys))/\(decide (i<n)=false->eV.okL xs/\eV.okL ys)
theorem qeV1_one:((loopsOf Tryd.prog 109).filter λc=>Nat.beq (lkey c) 4).length=1:=by kernel_rfl
abbrev qeV1_GC:Type:=List Mv×List Mv×Int
abbrev qeV1_GB:Type:=Bool
def qeV1_f(g:qeV1_G):Int×qeV1_GC×qeV1_GB:=(g.2.2.2.1,(g.1,g.2.1,g.2.2.1),g.2.2.2.2)
def qeV1_g(d:Int×qeV1_GC×qeV1_GB):qeV1_G:=(d.2.1.1,d.2.1.2.1,d.2.1.2.2,d.1,d.2.2)
theorem qeV1_es(g:qeV1_G):(qeV1_R g.1 g.2.1 g.2.2.1 g.2.2.2.1 g.2.2.2.2).1=.normal\/(qeV1_R g.1 g.2.1 g.2.2.1 g.2.2.2.1 g.2.2.2.2).1∈([.ret,.exit 0]:List Ex):=by
 unfold qeV1_R
 repeat' (first|(left;rfl)|(right;simp only[cond_true,cond_false];simp;done)|(rw[Bool.cond_eq_ite];split))
noncomputable abbrev qeV1_C(Inv:qeV1_G->List Prop)(m:qeV1_G->Nat):LCon:=loopR [.ret,.exit 0] (loopBody Tryd.prog 109 4) qeV1_LP [] 26 Inv (λg=>qeV1_R g.1 g.2.1 g.2.2.1 g.2.2.2.1 g.2.2.2.2) m
theorem qeV1_loop(Inv:qeV1_G->List Prop)(m:qeV1_G->Nat)(hs:∀g,allP (Inv g)->qeV1_side g.1 g.2.1 g.2.2.1 g.2.2.2.1 g.2.2.2.2)(hg:Goes (λg:qeV1_G=>qeV1_R g.1 g.2.1 g.2.2.1 g.2.2.2.1 g.2.2.2.2) m λg=>allP (Inv g)):∀b∈loopsOf Tryd.prog 109,lkey b=4->LoopOk Tryd.prog b (qeV1_C Inv m).g:=loop_run (Γ:=(PTab.gamz tab0 [] [])) (Λ:=noΛ) (PTab.okz tab0 [] []) noΛ_ok 100 109 4 26 qeV1_LP [] Inv (λg=>qeV1_R g.1 g.2.1 g.2.2.1 g.2.2.2.1 g.2.2.2.2) (λg=>qeV1_side g.1 g.2.1 g.2.2.1 g.2.2.2.1 g.2.2.2.2) m default [.ret,.exit 0] qeV1_one (λrd T B HL HB ds g=>by kernel_rfl) (λrd T B HL HB ds g=>by kernel_rfl) hs hg qeV1_es
end Go.Proofs.YtfkdbifgppfegaaDoor

namespace Go.Proofs.YtfkdbifgppfegaaDoor
open Go.RowKit Go.Sx Go.Lp
set_option maxRecDepth 100000
noncomputable def qeI1_S(c:qeI1_GC)(b:qeI1_GB)(i:Int)(v:Int):Ex×qeI1_GB:=bif !decide (v=c.2.1.getD i.toNat eI.dflt)then(.ret,false)else(.normal,b)
def qeI1_K(c:qeI1_GC)(b:qeI1_GB)(i:Int):Prop:=c.1.length=c.2.1.length
abbrev qeI1_I(g:qeI1_G):List Prop:=ixI (λc:qeI1_GC=>c.2.2) (λc:qeI1_GC=>c.1) qeI1_K (qeI1_f g)
abbrev qeI1_M(g:qeI1_G):Nat:=ixM (λc:qeI1_GC=>c.2.2) (qeI1_f g)
theorem qeI1_P:ixP qeI1_S (λc:qeI1_GC=>c.1) qeI1_K:=λ_ _ _ _ h _ _=>h
noncomputable abbrev qeI1_RR(g:qeI1_G):Ex×qeI1_G:=qeI1_R g.1 g.2.1 g.2.2.1 g.2.2.2.1 g.2.2.2.2
theorem qeI1_RF(d:Int×qeI1_GC×qeI1_GB)(hi:allP (ixI (λc:qeI1_GC=>c.2.2) (λc:qeI1_GC=>c.1) qeI1_K d)):qeI1_RR (qeI1_g d)=((ixF 0 (λc:qeI1_GC=>c.2.2) (λc:qeI1_GC=>c.1) eI.dflt qeI1_S d).1,qeI1_g (ixF 0 (λc:qeI1_GC=>c.2.2) (λc:qeI1_GC=>c.1) eI.dflt qeI1_S d).2):=by
 obtain⟨i,⟨xs,ys,n⟩,r⟩:=d;show qeI1_R xs ys n i r=_;unfold qeI1_R ixF qeI1_S;simp only[El.ag_eq,neI];cases decide (i<n)with
 |false=>rfl
 |true=>
  simp only[cond_true];generalize (!decide ((xs.getD i.toNat eI.dflt)=ys.getD i.toNat eI.dflt))=z;cases z<;>rfl
theorem qeI1_ok:∀b∈loopsOf Tryd.prog 21,lkey b=4->LoopOk Tryd.prog b (qeI1_C qeI1_I qeI1_M).g:=by
 refine qeI1_loop qeI1_I qeI1_M (λg hi=>?_) (ix_conj_goes (λ_=>rfl) (λ_=>rfl) qeI1_RF qeI1_P);obtain⟨xs,ys,n,i,r⟩:=g;obtain⟨h1,h2,h3,h4,h5⟩:=hi _ (List.mem_cons_self ..);have h1:n=(xs.length:Int):=h1;have h3:0<=i:=h3;have h5:xs.length=ys.length:=h5;show qeI1_side xs ys n i r;unfold qeI1_side;simp only[decide_eq_true_eq,decide_eq_false_iff_not];have k0:∀e:Nat,e<xs.length->eI.Ok (eI.els xs e):=λe _=>eI.ok_els xs e;have k1:∀e:Nat,e<ys.length->eI.Ok (eI.els ys e):=λe _=>eI.ok_els ys e;clear hi
 repeat' (first|exact k0|exact k1|apply And.intro|intro _)
 all_goals omega
theorem qeI1_run(c:qeI1_GC)(b:qeI1_GB)(k1:c.2.2=((c.1).length:Int))(k2:(c.1).length<=maxLen)(k3:qeI1_K c b 0):loopF qeI1_RR qeI1_M (qeI1_g (0,c,b))=((scan 0 (qeI1_S c) 0 (c.1) b).1,qeI1_g ((scan 0 (qeI1_S c) 0 (c.1) b).2.1,c,(scan 0 (qeI1_S c) 0 (c.1) b).2.2)):=ix_conj_run (φ:=qeI1_f) (ψ:=qeI1_g) (λ_=>rfl) (λ_=>rfl) qeI1_RF qeI1_P c b k1 k2 k3
noncomputable def qrI1_S(c:qrI1_GC)(b:qrI1_GB)(i:Int)(v:Int):Ex×qrI1_GB:=bif !decide (v=c.2.getD i.toNat eI.dflt)then(.ret,false)else(.normal,b)
def qrI1_K(c:qrI1_GC)(b:qrI1_GB)(i:Int):Prop:=c.1.length=c.2.length
abbrev qrI1_I(g:qrI1_G):List Prop:=ixI (λc:qrI1_GC=>(c.1.length:Int)) (λc:qrI1_GC=>c.1) qrI1_K (qrI1_f g)
abbrev qrI1_M(g:qrI1_G):Nat:=ixM (λc:qrI1_GC=>(c.1.length:Int)) (qrI1_f g)
theorem qrI1_P:ixP qrI1_S (λc:qrI1_GC=>c.1) qrI1_K:=λ_ _ _ _ h _ _=>h
noncomputable abbrev qrI1_RR(g:qrI1_G):Ex×qrI1_G:=qrI1_R g.1 g.2.1 g.2.2.1 g.2.2.2
theorem qrI1_RF(d:Int×qrI1_GC×qrI1_GB)(hi:allP (ixI (λc:qrI1_GC=>(c.1.length:Int)) (λc:qrI1_GC=>c.1) qrI1_K d)):qrI1_RR (qrI1_g d)=((ixF 0 (λc:qrI1_GC=>(c.1.length:Int)) (λc:qrI1_GC=>c.1) eI.dflt qrI1_S d).1,qrI1_g (ixF 0 (λc:qrI1_GC=>(c.1.length:Int)) (λc:qrI1_GC=>c.1) eI.dflt qrI1_S d).2):=by
 obtain⟨i,⟨xs,ys⟩,r⟩:=d;show qrI1_R xs ys i r=_;unfold qrI1_R ixF qrI1_S;simp only[El.ag_eq,neI];cases decide (i<(xs.length:Int))with
 |false=>rfl
 |true=>
  simp only[cond_true];generalize (!decide ((xs.getD i.toNat eI.dflt)=ys.getD i.toNat eI.dflt))=z;cases z<;>rfl
theorem qrI1_ok:∀b∈loopsOf Tryd.prog 62,lkey b=4->LoopOk Tryd.prog b (qrI1_C qrI1_I qrI1_M).g:=by
 refine qrI1_loop qrI1_I qrI1_M (λg hi=>?_) (ix_conj_goes (λ_=>rfl) (λ_=>rfl) qrI1_RF qrI1_P);obtain⟨xs,ys,i,r⟩:=g;obtain⟨h1,h2,h3,h4,h5⟩:=hi _ (List.mem_cons_self ..);have h1:(xs.length:Int)=(xs.length:Int):=h1;have h3:0<=i:=h3;have h5:xs.length=ys.length:=h5;show qrI1_side xs ys i r;unfold qrI1_side;simp only[decide_eq_true_eq,decide_eq_false_iff_not];have k0:∀e:Nat,e<xs.length->eI.Ok (eI.els xs e):=λe _=>eI.ok_els xs e;have k1:∀e:Nat,e<ys.length->eI.Ok (eI.els ys e):=λe _=>eI.ok_els ys e;clear hi
 repeat' (first|exact k0|exact k1|apply And.intro|intro _)
 all_goals omega
theorem qrI1_run(c:qrI1_GC)(b:qrI1_GB)(k1:(c.1.length:Int)=((c.1).length:Int))(k2:(c.1).length<=maxLen)(k3:qrI1_K c b 0):loopF qrI1_RR qrI1_M (qrI1_g (0,c,b))=((scan 0 (qrI1_S c) 0 (c.1) b).1,qrI1_g ((scan 0 (qrI1_S c) 0 (c.1) b).2.1,c,(scan 0 (qrI1_S c) 0 (c.1) b).2.2)):=ix_conj_run (φ:=qrI1_f) (ψ:=qrI1_g) (λ_=>rfl) (λ_=>rfl) qrI1_RF qrI1_P c b k1 k2 k3
noncomputable def qeB1_S(c:qeB1_GC)(b:qeB1_GB)(i:Int)(v:Bool):Ex×qeB1_GB:=bif !decide (v=c.2.1.getD i.toNat eBool.dflt)then(.ret,false)else(.normal,b)
def qeB1_K(c:qeB1_GC)(b:qeB1_GB)(i:Int):Prop:=c.1.length=c.2.1.length
abbrev qeB1_I(g:qeB1_G):List Prop:=ixI (λc:qeB1_GC=>c.2.2) (λc:qeB1_GC=>c.1) qeB1_K (qeB1_f g)
abbrev qeB1_M(g:qeB1_G):Nat:=ixM (λc:qeB1_GC=>c.2.2) (qeB1_f g)
theorem qeB1_P:ixP qeB1_S (λc:qeB1_GC=>c.1) qeB1_K:=λ_ _ _ _ h _ _=>h
noncomputable abbrev qeB1_RR(g:qeB1_G):Ex×qeB1_G:=qeB1_R g.1 g.2.1 g.2.2.1 g.2.2.2.1 g.2.2.2.2
theorem qeB1_RF(d:Int×qeB1_GC×qeB1_GB)(hi:allP (ixI (λc:qeB1_GC=>c.2.2) (λc:qeB1_GC=>c.1) qeB1_K d)):qeB1_RR (qeB1_g d)=((ixF 0 (λc:qeB1_GC=>c.2.2) (λc:qeB1_GC=>c.1) eBool.dflt qeB1_S d).1,qeB1_g (ixF 0 (λc:qeB1_GC=>c.2.2) (λc:qeB1_GC=>c.1) eBool.dflt qeB1_S d).2):=by
 obtain⟨i,⟨xs,ys,n⟩,r⟩:=d;show qeB1_R xs ys n i r=_;unfold qeB1_R ixF qeB1_S;simp only[El.ag_eq,neB];cases decide (i<n)with
 |false=>rfl
 |true=>
  simp only[cond_true];generalize (!decide ((xs.getD i.toNat eBool.dflt)=ys.getD i.toNat eBool.dflt))=z;cases z<;>rfl
theorem qeB1_ok:∀b∈loopsOf Tryd.prog 53,lkey b=4->LoopOk Tryd.prog b (qeB1_C qeB1_I qeB1_M).g:=by
 refine qeB1_loop qeB1_I qeB1_M (λg hi=>?_) (ix_conj_goes (λ_=>rfl) (λ_=>rfl) qeB1_RF qeB1_P);obtain⟨xs,ys,n,i,r⟩:=g;obtain⟨h1,h2,h3,h4,h5⟩:=hi _ (List.mem_cons_self ..);have h1:n=(xs.length:Int):=h1;have h3:0<=i:=h3;have h5:xs.length=ys.length:=h5;show qeB1_side xs ys n i r;unfold qeB1_side;simp only[decide_eq_true_eq,decide_eq_false_iff_not];have k0:∀e:Nat,e<xs.length->eBool.Ok (eBool.els xs e):=λe _=>eBool.ok_els xs e;have k1:∀e:Nat,e<ys.length->eBool.Ok (eBool.els ys e):=λe _=>eBool.ok_els ys e;clear hi
 repeat' (first|exact k0|exact k1|apply And.intro|intro _)
 all_goals omega
theorem qeB1_run(c:qeB1_GC)(b:qeB1_GB)(k1:c.2.2=((c.1).length:Int))(k2:(c.1).length<=maxLen)(k3:qeB1_K c b 0):loopF qeB1_RR qeB1_M (qeB1_g (0,c,b))=((scan 0 (qeB1_S c) 0 (c.1) b).1,qeB1_g ((scan 0 (qeB1_S c) 0 (c.1) b).2.1,c,(scan 0 (qeB1_S c) 0 (c.1) b).2.2)):=ix_conj_run (φ:=qeB1_f) (ψ:=qeB1_g) (λ_=>rfl) (λ_=>rfl) qeB1_RF qeB1_P c b k1 k2 k3
noncomputable def qrB1_S(c:qrB1_GC)(b:qrB1_GB)(i:Int)(v:Bool):Ex×qrB1_GB:=bif !decide (v=c.2.getD i.toNat eBool.dflt)then(.ret,false)else(.normal,b)
def qrB1_K(c:qrB1_GC)(b:qrB1_GB)(i:Int):Prop:=c.1.length=c.2.length
abbrev qrB1_I(g:qrB1_G):List Prop:=ixI (λc:qrB1_GC=>(c.1.length:Int)) (λc:qrB1_GC=>c.1) qrB1_K (qrB1_f g)
abbrev qrB1_M(g:qrB1_G):Nat:=ixM (λc:qrB1_GC=>(c.1.length:Int)) (qrB1_f g)
theorem qrB1_P:ixP qrB1_S (λc:qrB1_GC=>c.1) qrB1_K:=λ_ _ _ _ h _ _=>h
noncomputable abbrev qrB1_RR(g:qrB1_G):Ex×qrB1_G:=qrB1_R g.1 g.2.1 g.2.2.1 g.2.2.2
theorem qrB1_RF(d:Int×qrB1_GC×qrB1_GB)(hi:allP (ixI (λc:qrB1_GC=>(c.1.length:Int)) (λc:qrB1_GC=>c.1) qrB1_K d)):qrB1_RR (qrB1_g d)=((ixF 0 (λc:qrB1_GC=>(c.1.length:Int)) (λc:qrB1_GC=>c.1) eBool.dflt qrB1_S d).1,qrB1_g (ixF 0 (λc:qrB1_GC=>(c.1.length:Int)) (λc:qrB1_GC=>c.1) eBool.dflt qrB1_S d).2):=by
 obtain⟨i,⟨xs,ys⟩,r⟩:=d;show qrB1_R xs ys i r=_;unfold qrB1_R ixF qrB1_S;simp only[El.ag_eq,neB];cases decide (i<(xs.length:Int))with
 |false=>rfl
 |true=>
  simp only[cond_true];generalize (!decide ((xs.getD i.toNat eBool.dflt)=ys.getD i.toNat eBool.dflt))=z;cases z<;>rfl
theorem qrB1_ok:∀b∈loopsOf Tryd.prog 34,lkey b=4->LoopOk Tryd.prog b (qrB1_C qrB1_I qrB1_M).g:=by
 refine qrB1_loop qrB1_I qrB1_M (λg hi=>?_) (ix_conj_goes (λ_=>rfl) (λ_=>rfl) qrB1_RF qrB1_P);obtain⟨xs,ys,i,r⟩:=g;obtain⟨h1,h2,h3,h4,h5⟩:=hi _ (List.mem_cons_self ..);have h1:(xs.length:Int)=(xs.length:Int):=h1;have h3:0<=i:=h3;have h5:xs.length=ys.length:=h5;show qrB1_side xs ys i r;unfold qrB1_side;simp only[decide_eq_true_eq,decide_eq_false_iff_not];have k0:∀e:Nat,e<xs.length->eBool.Ok (eBool.els xs e):=λe _=>eBool.ok_els xs e;have k1:∀e:Nat,e<ys.length->eBool.Ok (eBool.els ys e):=λe _=>eBool.ok_els ys e;clear hi
 repeat' (first|exact k0|exact k1|apply And.intro|intro _)
 all_goals omega
theorem qrB1_run(c:qrB1_GC)(b:qrB1_GB)(k1:(c.1.length:Int)=((c.1).length:Int))(k2:(c.1).length<=maxLen)(k3:qrB1_K c b 0):loopF qrB1_RR qrB1_M (qrB1_g (0,c,b))=((scan 0 (qrB1_S c) 0 (c.1) b).1,qrB1_g ((scan 0 (qrB1_S c) 0 (c.1) b).2.1,c,(scan 0 (qrB1_S c) 0 (c.1) b).2.2)):=ix_conj_run (φ:=qrB1_f) (ψ:=qrB1_g) (λ_=>rfl) (λ_=>rfl) qrB1_RF qrB1_P c b k1 k2 k3
noncomputable def qeR1_S(c:qeR1_GC)(b:qeR1_GB)(i:Int)(v:Rec):Ex×qeR1_GB:=bif !decide (v=c.2.1.getD i.toNat eR.dflt)then(.ret,false)else(.normal,b)
def qeR1_K(c:qeR1_GC)(b:qeR1_GB)(i:Int):Prop:=c.1.length=c.2.1.length
abbrev qeR1_I(g:qeR1_G):List Prop:=ixI (λc:qeR1_GC=>c.2.2) (λc:qeR1_GC=>c.1) qeR1_K (qeR1_f g)
abbrev qeR1_M(g:qeR1_G):Nat:=ixM (λc:qeR1_GC=>c.2.2) (qeR1_f g)
theorem qeR1_P:ixP qeR1_S (λc:qeR1_GC=>c.1) qeR1_K:=λ_ _ _ _ h _ _=>h
noncomputable abbrev qeR1_RR(g:qeR1_G):Ex×qeR1_G:=qeR1_R g.1 g.2.1 g.2.2.1 g.2.2.2.1 g.2.2.2.2
theorem qeR1_RF(d:Int×qeR1_GC×qeR1_GB)(hi:allP (ixI (λc:qeR1_GC=>c.2.2) (λc:qeR1_GC=>c.1) qeR1_K d)):qeR1_RR (qeR1_g d)=((ixF 0 (λc:qeR1_GC=>c.2.2) (λc:qeR1_GC=>c.1) eR.dflt qeR1_S d).1,qeR1_g (ixF 0 (λc:qeR1_GC=>c.2.2) (λc:qeR1_GC=>c.1) eR.dflt qeR1_S d).2):=by
 obtain⟨i,⟨xs,ys,n⟩,r⟩:=d;show qeR1_R xs ys n i r=_;unfold qeR1_R ixF qeR1_S;simp only[El.ag_eq,conj_eR];cases decide (i<n)with
 |false=>rfl
 |true=>
  simp only[cond_true];generalize (!decide ((xs.getD i.toNat eR.dflt)=ys.getD i.toNat eR.dflt))=z;cases z<;>rfl
theorem qeR1_ok:∀b∈loopsOf Tryd.prog 97,lkey b=4->LoopOk Tryd.prog b (qeR1_C qeR1_I qeR1_M).g:=by
 refine qeR1_loop qeR1_I qeR1_M (λg hi=>?_) (ix_conj_goes (λ_=>rfl) (λ_=>rfl) qeR1_RF qeR1_P);obtain⟨xs,ys,n,i,r⟩:=g;obtain⟨h1,h2,h3,h4,h5⟩:=hi _ (List.mem_cons_self ..);have h1:n=(xs.length:Int):=h1;have h3:0<=i:=h3;have h5:xs.length=ys.length:=h5;show qeR1_side xs ys n i r;unfold qeR1_side;simp only[decide_eq_true_eq,decide_eq_false_iff_not];have k0:∀e:Nat,e<xs.length->eR.Ok (eR.els xs e):=λe _=>eR.ok_els xs e;have k1:∀e:Nat,e<ys.length->eR.Ok (eR.els ys e):=λe _=>eR.ok_els ys e;clear hi
 repeat' (first|exact k0|exact k1|apply And.intro|intro _)
 all_goals omega
theorem qeR1_run(c:qeR1_GC)(b:qeR1_GB)(k1:c.2.2=((c.1).length:Int))(k2:(c.1).length<=maxLen)(k3:qeR1_K c b 0):loopF qeR1_RR qeR1_M (qeR1_g (0,c,b))=((scan 0 (qeR1_S c) 0 (c.1) b).1,qeR1_g ((scan 0 (qeR1_S c) 0 (c.1) b).2.1,c,(scan 0 (qeR1_S c) 0 (c.1) b).2.2)):=ix_conj_run (φ:=qeR1_f) (ψ:=qeR1_g) (λ_=>rfl) (λ_=>rfl) qeR1_RF qeR1_P c b k1 k2 k3
noncomputable def qrR1_S(c:qrR1_GC)(b:qrR1_GB)(i:Int)(v:Rec):Ex×qrR1_GB:=bif !decide (v=c.2.getD i.toNat eR.dflt)then(.ret,false)else(.normal,b)
def qrR1_K(c:qrR1_GC)(b:qrR1_GB)(i:Int):Prop:=c.1.length=c.2.length
abbrev qrR1_I(g:qrR1_G):List Prop:=ixI (λc:qrR1_GC=>(c.1.length:Int)) (λc:qrR1_GC=>c.1) qrR1_K (qrR1_f g)
abbrev qrR1_M(g:qrR1_G):Nat:=ixM (λc:qrR1_GC=>(c.1.length:Int)) (qrR1_f g)
theorem qrR1_P:ixP qrR1_S (λc:qrR1_GC=>c.1) qrR1_K:=λ_ _ _ _ h _ _=>h
noncomputable abbrev qrR1_RR(g:qrR1_G):Ex×qrR1_G:=qrR1_R g.1 g.2.1 g.2.2.1 g.2.2.2
theorem qrR1_RF(d:Int×qrR1_GC×qrR1_GB)(hi:allP (ixI (λc:qrR1_GC=>(c.1.length:Int)) (λc:qrR1_GC=>c.1) qrR1_K d)):qrR1_RR (qrR1_g d)=((ixF 0 (λc:qrR1_GC=>(c.1.length:Int)) (λc:qrR1_GC=>c.1) eR.dflt qrR1_S d).1,qrR1_g (ixF 0 (λc:qrR1_GC=>(c.1.length:Int)) (λc:qrR1_GC=>c.1) eR.dflt qrR1_S d).2):=by
 obtain⟨i,⟨xs,ys⟩,r⟩:=d;show qrR1_R xs ys i r=_;unfold qrR1_R ixF qrR1_S;simp only[El.ag_eq,conj_eR];cases decide (i<(xs.length:Int))with
 |false=>rfl
 |true=>
  simp only[cond_true];generalize (!decide ((xs.getD i.toNat eR.dflt)=ys.getD i.toNat eR.dflt))=z;cases z<;>rfl
theorem qrR1_ok:∀b∈loopsOf Tryd.prog 64,lkey b=4->LoopOk Tryd.prog b (qrR1_C qrR1_I qrR1_M).g:=by
 refine qrR1_loop qrR1_I qrR1_M (λg hi=>?_) (ix_conj_goes (λ_=>rfl) (λ_=>rfl) qrR1_RF qrR1_P);obtain⟨xs,ys,i,r⟩:=g;obtain⟨h1,h2,h3,h4,h5⟩:=hi _ (List.mem_cons_self ..);have h1:(xs.length:Int)=(xs.length:Int):=h1;have h3:0<=i:=h3;have h5:xs.length=ys.length:=h5;show qrR1_side xs ys i r;unfold qrR1_side;simp only[decide_eq_true_eq,decide_eq_false_iff_not];have k0:∀e:Nat,e<xs.length->eR.Ok (eR.els xs e):=λe _=>eR.ok_els xs e;have k1:∀e:Nat,e<ys.length->eR.Ok (eR.els ys e):=λe _=>eR.ok_els ys e;clear hi
 repeat' (first|exact k0|exact k1|apply And.intro|intro _)
 all_goals omega
theorem qrR1_run(c:qrR1_GC)(b:qrR1_GB)(k1:(c.1.length:Int)=((c.1).length:Int))(k2:(c.1).length<=maxLen)(k3:qrR1_K c b 0):loopF qrR1_RR qrR1_M (qrR1_g (0,c,b))=((scan 0 (qrR1_S c) 0 (c.1) b).1,qrR1_g ((scan 0 (qrR1_S c) 0 (c.1) b).2.1,c,(scan 0 (qrR1_S c) 0 (c.1) b).2.2)):=ix_conj_run (φ:=qrR1_f) (ψ:=qrR1_g) (λ_=>rfl) (λ_=>rfl) qrR1_RF qrR1_P c b k1 k2 k3
noncomputable def qeC1_S(c:qeC1_GC)(b:qeC1_GB)(i:Int)(v:Change):Ex×qeC1_GB:=bif !decide (v=c.2.1.getD i.toNat eC.dflt)then(.ret,false)else(.normal,b)
def qeC1_K(c:qeC1_GC)(b:qeC1_GB)(i:Int):Prop:=c.1.length=c.2.1.length
abbrev qeC1_I(g:qeC1_G):List Prop:=ixI (λc:qeC1_GC=>c.2.2) (λc:qeC1_GC=>c.1) qeC1_K (qeC1_f g)
abbrev qeC1_M(g:qeC1_G):Nat:=ixM (λc:qeC1_GC=>c.2.2) (qeC1_f g)
theorem qeC1_P:ixP qeC1_S (λc:qeC1_GC=>c.1) qeC1_K:=λ_ _ _ _ h _ _=>h
noncomputable abbrev qeC1_RR(g:qeC1_G):Ex×qeC1_G:=qeC1_R g.1 g.2.1 g.2.2.1 g.2.2.2.1 g.2.2.2.2
theorem qeC1_RF(d:Int×qeC1_GC×qeC1_GB)(hi:allP (ixI (λc:qeC1_GC=>c.2.2) (λc:qeC1_GC=>c.1) qeC1_K d)):qeC1_RR (qeC1_g d)=((ixF 0 (λc:qeC1_GC=>c.2.2) (λc:qeC1_GC=>c.1) eC.dflt qeC1_S d).1,qeC1_g (ixF 0 (λc:qeC1_GC=>c.2.2) (λc:qeC1_GC=>c.1) eC.dflt qeC1_S d).2):=by
 obtain⟨i,⟨xs,ys,n⟩,r⟩:=d;show qeC1_R xs ys n i r=_;unfold qeC1_R ixF qeC1_S;simp only[El.ag_eq,conj_eC];cases decide (i<n)with
 |false=>rfl
 |true=>
  simp only[cond_true];generalize (!decide ((xs.getD i.toNat eC.dflt)=ys.getD i.toNat eC.dflt))=z;cases z<;>rfl
theorem qeC1_ok:∀b∈loopsOf Tryd.prog 98,lkey b=4->LoopOk Tryd.prog b (qeC1_C qeC1_I qeC1_M).g:=by
 refine qeC1_loop qeC1_I qeC1_M (λg hi=>?_) (ix_conj_goes (λ_=>rfl) (λ_=>rfl) qeC1_RF qeC1_P);obtain⟨xs,ys,n,i,r⟩:=g;obtain⟨h1,h2,h3,h4,h5⟩:=hi _ (List.mem_cons_self ..);have h1:n=(xs.length:Int):=h1;have h3:0<=i:=h3;have h5:xs.length=ys.length:=h5;show qeC1_side xs ys n i r;unfold qeC1_side;simp only[decide_eq_true_eq,decide_eq_false_iff_not];have k0:∀e:Nat,e<xs.length->eC.Ok (eC.els xs e):=λe _=>eC.ok_els xs e;have k1:∀e:Nat,e<ys.length->eC.Ok (eC.els ys e):=λe _=>eC.ok_els ys e;clear hi
 repeat' (first|exact k0|exact k1|apply And.intro|intro _)
 all_goals omega
theorem qeC1_run(c:qeC1_GC)(b:qeC1_GB)(k1:c.2.2=((c.1).length:Int))(k2:(c.1).length<=maxLen)(k3:qeC1_K c b 0):loopF qeC1_RR qeC1_M (qeC1_g (0,c,b))=((scan 0 (qeC1_S c) 0 (c.1) b).1,qeC1_g ((scan 0 (qeC1_S c) 0 (c.1) b).2.1,c,(scan 0 (qeC1_S c) 0 (c.1) b).2.2)):=ix_conj_run (φ:=qeC1_f) (ψ:=qeC1_g) (λ_=>rfl) (λ_=>rfl) qeC1_RF qeC1_P c b k1 k2 k3
noncomputable def qrC1_S(c:qrC1_GC)(b:qrC1_GB)(i:Int)(v:Change):Ex×qrC1_GB:=bif !decide (v=c.2.getD i.toNat eC.dflt)then(.ret,false)else(.normal,b)
def qrC1_K(c:qrC1_GC)(b:qrC1_GB)(i:Int):Prop:=c.1.length=c.2.length
abbrev qrC1_I(g:qrC1_G):List Prop:=ixI (λc:qrC1_GC=>(c.1.length:Int)) (λc:qrC1_GC=>c.1) qrC1_K (qrC1_f g)
abbrev qrC1_M(g:qrC1_G):Nat:=ixM (λc:qrC1_GC=>(c.1.length:Int)) (qrC1_f g)
theorem qrC1_P:ixP qrC1_S (λc:qrC1_GC=>c.1) qrC1_K:=λ_ _ _ _ h _ _=>h
noncomputable abbrev qrC1_RR(g:qrC1_G):Ex×qrC1_G:=qrC1_R g.1 g.2.1 g.2.2.1 g.2.2.2
theorem qrC1_RF(d:Int×qrC1_GC×qrC1_GB)(hi:allP (ixI (λc:qrC1_GC=>(c.1.length:Int)) (λc:qrC1_GC=>c.1) qrC1_K d)):qrC1_RR (qrC1_g d)=((ixF 0 (λc:qrC1_GC=>(c.1.length:Int)) (λc:qrC1_GC=>c.1) eC.dflt qrC1_S d).1,qrC1_g (ixF 0 (λc:qrC1_GC=>(c.1.length:Int)) (λc:qrC1_GC=>c.1) eC.dflt qrC1_S d).2):=by
 obtain⟨i,⟨xs,ys⟩,r⟩:=d;show qrC1_R xs ys i r=_;unfold qrC1_R ixF qrC1_S;simp only[El.ag_eq,conj_eC];cases decide (i<(xs.length:Int))with
 |false=>rfl
 |true=>
  simp only[cond_true];generalize (!decide ((xs.getD i.toNat eC.dflt)=ys.getD i.toNat eC.dflt))=z;cases z<;>rfl
theorem qrC1_ok:∀b∈loopsOf Tryd.prog 65,lkey b=4->LoopOk Tryd.prog b (qrC1_C qrC1_I qrC1_M).g:=by
 refine qrC1_loop qrC1_I qrC1_M (λg hi=>?_) (ix_conj_goes (λ_=>rfl) (λ_=>rfl) qrC1_RF qrC1_P);obtain⟨xs,ys,i,r⟩:=g;obtain⟨h1,h2,h3,h4,h5⟩:=hi _ (List.mem_cons_self ..);have h1:(xs.length:Int)=(xs.length:Int):=h1;have h3:0<=i:=h3;have h5:xs.length=ys.length:=h5;show qrC1_side xs ys i r;unfold qrC1_side;simp only[decide_eq_true_eq,decide_eq_false_iff_not];have k0:∀e:Nat,e<xs.length->eC.Ok (eC.els xs e):=λe _=>eC.ok_els xs e;have k1:∀e:Nat,e<ys.length->eC.Ok (eC.els ys e):=λe _=>eC.ok_els ys e;clear hi
 repeat' (first|exact k0|exact k1|apply And.intro|intro _)
 all_goals omega
theorem qrC1_run(c:qrC1_GC)(b:qrC1_GB)(k1:(c.1.length:Int)=((c.1).length:Int))(k2:(c.1).length<=maxLen)(k3:qrC1_K c b 0):loopF qrC1_RR qrC1_M (qrC1_g (0,c,b))=((scan 0 (qrC1_S c) 0 (c.1) b).1,qrC1_g ((scan 0 (qrC1_S c) 0 (c.1) b).2.1,c,(scan 0 (qrC1_S c) 0 (c.1) b).2.2)):=ix_conj_run (φ:=qrC1_f) (ψ:=qrC1_g) (λ_=>rfl) (λ_=>rfl) qrC1_RF qrC1_P c b k1 k2 k3
noncomputable def qeN1_S(c:qeN1_GC)(b:qeN1_GB)(i:Int)(v:Ent):Ex×qeN1_GB:=bif !decide (v=c.2.1.getD i.toNat eN.dflt)then(.ret,false)else(.normal,b)
def qeN1_K(c:qeN1_GC)(b:qeN1_GB)(i:Int):Prop:=c.1.length=c.2.1.length
abbrev qeN1_I(g:qeN1_G):List Prop:=ixI (λc:qeN1_GC=>c.2.2) (λc:qeN1_GC=>c.1) qeN1_K (qeN1_f g)
abbrev qeN1_M(g:qeN1_G):Nat:=ixM (λc:qeN1_GC=>c.2.2) (qeN1_f g)
theorem qeN1_P:ixP qeN1_S (λc:qeN1_GC=>c.1) qeN1_K:=λ_ _ _ _ h _ _=>h
noncomputable abbrev qeN1_RR(g:qeN1_G):Ex×qeN1_G:=qeN1_R g.1 g.2.1 g.2.2.1 g.2.2.2.1 g.2.2.2.2
theorem qeN1_RF(d:Int×qeN1_GC×qeN1_GB)(hi:allP (ixI (λc:qeN1_GC=>c.2.2) (λc:qeN1_GC=>c.1) qeN1_K d)):qeN1_RR (qeN1_g d)=((ixF 0 (λc:qeN1_GC=>c.2.2) (λc:qeN1_GC=>c.1) eN.dflt qeN1_S d).1,qeN1_g (ixF 0 (λc:qeN1_GC=>c.2.2) (λc:qeN1_GC=>c.1) eN.dflt qeN1_S d).2):=by
 obtain⟨i,⟨xs,ys,n⟩,r⟩:=d;show qeN1_R xs ys n i r=_;unfold qeN1_R ixF qeN1_S;simp only[El.ag_eq,conj_eN];cases decide (i<n)with
 |false=>rfl
 |true=>
  simp only[cond_true];generalize (!decide ((xs.getD i.toNat eN.dflt)=ys.getD i.toNat eN.dflt))=z;cases z<;>rfl
theorem qeN1_ok:∀b∈loopsOf Tryd.prog 30,lkey b=4->LoopOk Tryd.prog b (qeN1_C qeN1_I qeN1_M).g:=by
 refine qeN1_loop qeN1_I qeN1_M (λg hi=>?_) (ix_conj_goes (λ_=>rfl) (λ_=>rfl) qeN1_RF qeN1_P);obtain⟨xs,ys,n,i,r⟩:=g;obtain⟨h1,h2,h3,h4,h5⟩:=hi _ (List.mem_cons_self ..);have h1:n=(xs.length:Int):=h1;have h3:0<=i:=h3;have h5:xs.length=ys.length:=h5;show qeN1_side xs ys n i r;unfold qeN1_side;simp only[decide_eq_true_eq,decide_eq_false_iff_not];have k0:∀e:Nat,e<xs.length->eN.Ok (eN.els xs e):=λe _=>eN.ok_els xs e;have k1:∀e:Nat,e<ys.length->eN.Ok (eN.els ys e):=λe _=>eN.ok_els ys e;clear hi
 repeat' (first|exact k0|exact k1|apply And.intro|intro _)
 all_goals omega
theorem qeN1_run(c:qeN1_GC)(b:qeN1_GB)(k1:c.2.2=((c.1).length:Int))(k2:(c.1).length<=maxLen)(k3:qeN1_K c b 0):loopF qeN1_RR qeN1_M (qeN1_g (0,c,b))=((scan 0 (qeN1_S c) 0 (c.1) b).1,qeN1_g ((scan 0 (qeN1_S c) 0 (c.1) b).2.1,c,(scan 0 (qeN1_S c) 0 (c.1) b).2.2)):=ix_conj_run (φ:=qeN1_f) (ψ:=qeN1_g) (λ_=>rfl) (λ_=>rfl) qeN1_RF qeN1_P c b k1 k2 k3
noncomputable def qrN1_S(c:qrN1_GC)(b:qrN1_GB)(i:Int)(v:Ent):Ex×qrN1_GB:=bif !decide (v=c.2.getD i.toNat eN.dflt)then(.ret,false)else(.normal,b)
def qrN1_K(c:qrN1_GC)(b:qrN1_GB)(i:Int):Prop:=c.1.length=c.2.length
abbrev qrN1_I(g:qrN1_G):List Prop:=ixI (λc:qrN1_GC=>(c.1.length:Int)) (λc:qrN1_GC=>c.1) qrN1_K (qrN1_f g)
abbrev qrN1_M(g:qrN1_G):Nat:=ixM (λc:qrN1_GC=>(c.1.length:Int)) (qrN1_f g)
theorem qrN1_P:ixP qrN1_S (λc:qrN1_GC=>c.1) qrN1_K:=λ_ _ _ _ h _ _=>h
noncomputable abbrev qrN1_RR(g:qrN1_G):Ex×qrN1_G:=qrN1_R g.1 g.2.1 g.2.2.1 g.2.2.2
theorem qrN1_RF(d:Int×qrN1_GC×qrN1_GB)(hi:allP (ixI (λc:qrN1_GC=>(c.1.length:Int)) (λc:qrN1_GC=>c.1) qrN1_K d)):qrN1_RR (qrN1_g d)=((ixF 0 (λc:qrN1_GC=>(c.1.length:Int)) (λc:qrN1_GC=>c.1) eN.dflt qrN1_S d).1,qrN1_g (ixF 0 (λc:qrN1_GC=>(c.1.length:Int)) (λc:qrN1_GC=>c.1) eN.dflt qrN1_S d).2):=by
 obtain⟨i,⟨xs,ys⟩,r⟩:=d;show qrN1_R xs ys i r=_;unfold qrN1_R ixF qrN1_S;simp only[El.ag_eq,conj_eN];cases decide (i<(xs.length:Int))with
 |false=>rfl
 |true=>
  simp only[cond_true];generalize (!decide ((xs.getD i.toNat eN.dflt)=ys.getD i.toNat eN.dflt))=z;cases z<;>rfl
theorem qrN1_ok:∀b∈loopsOf Tryd.prog 35,lkey b=4->LoopOk Tryd.prog b (qrN1_C qrN1_I qrN1_M).g:=by
 refine qrN1_loop qrN1_I qrN1_M (λg hi=>?_) (ix_conj_goes (λ_=>rfl) (λ_=>rfl) qrN1_RF qrN1_P);obtain⟨xs,ys,i,r⟩:=g;obtain⟨h1,h2,h3,h4,h5⟩:=hi _ (List.mem_cons_self ..);have h1:(xs.length:Int)=(xs.length:Int):=h1;have h3:0<=i:=h3;have h5:xs.length=ys.length:=h5;show qrN1_side xs ys i r;unfold qrN1_side;simp only[decide_eq_true_eq,decide_eq_false_iff_not];have k0:∀e:Nat,e<xs.length->eN.Ok (eN.els xs e):=λe _=>eN.ok_els xs e;have k1:∀e:Nat,e<ys.length->eN.Ok (eN.els ys e):=λe _=>eN.ok_els ys e;clear hi
 repeat' (first|exact k0|exact k1|apply And.intro|intro _)
 all_goals omega
theorem qrN1_run(c:qrN1_GC)(b:qrN1_GB)(k1:(c.1.length:Int)=((c.1).length:Int))(k2:(c.1).length<=maxLen)(k3:qrN1_K c b 0):loopF qrN1_RR qrN1_M (qrN1_g (0,c,b))=((scan 0 (qrN1_S c) 0 (c.1) b).1,qrN1_g ((scan 0 (qrN1_S c) 0 (c.1) b).2.1,c,(scan 0 (qrN1_S c) 0 (c.1) b).2.2)):=ix_conj_run (φ:=qrN1_f) (ψ:=qrN1_g) (λ_=>rfl) (λ_=>rfl) qrN1_RF qrN1_P c b k1 k2 k3
noncomputable def qeV1_S(c:qeV1_GC)(b:qeV1_GB)(i:Int)(v:Mv):Ex×qeV1_GB:=bif !decide (v=c.2.1.getD i.toNat eV.dflt)then(.ret,false)else(.normal,b)
def qeV1_K(c:qeV1_GC)(b:qeV1_GB)(i:Int):Prop:=c.1.length=c.2.1.length
abbrev qeV1_I(g:qeV1_G):List Prop:=ixI (λc:qeV1_GC=>c.2.2) (λc:qeV1_GC=>c.1) qeV1_K (qeV1_f g)
abbrev qeV1_M(g:qeV1_G):Nat:=ixM (λc:qeV1_GC=>c.2.2) (qeV1_f g)
theorem qeV1_P:ixP qeV1_S (λc:qeV1_GC=>c.1) qeV1_K:=λ_ _ _ _ h _ _=>h
noncomputable abbrev qeV1_RR(g:qeV1_G):Ex×qeV1_G:=qeV1_R g.1 g.2.1 g.2.2.1 g.2.2.2.1 g.2.2.2.2
theorem qeV1_RF(d:Int×qeV1_GC×qeV1_GB)(hi:allP (ixI (λc:qeV1_GC=>c.2.2) (λc:qeV1_GC=>c.1) qeV1_K d)):qeV1_RR (qeV1_g d)=((ixF 0 (λc:qeV1_GC=>c.2.2) (λc:qeV1_GC=>c.1) eV.dflt qeV1_S d).1,qeV1_g (ixF 0 (λc:qeV1_GC=>c.2.2) (λc:qeV1_GC=>c.1) eV.dflt qeV1_S d).2):=by
 obtain⟨i,⟨xs,ys,n⟩,r⟩:=d;show qeV1_R xs ys n i r=_;unfold qeV1_R ixF qeV1_S;simp only[El.ag_eq,conj_eV];cases decide (i<n)with
 |false=>rfl
 |true=>
  simp only[cond_true];generalize (!decide ((xs.getD i.toNat eV.dflt)=ys.getD i.toNat eV.dflt))=z;cases z<;>rfl
theorem qeV1_ok:∀b∈loopsOf Tryd.prog 109,lkey b=4->LoopOk Tryd.prog b (qeV1_C qeV1_I qeV1_M).g:=by
 refine qeV1_loop qeV1_I qeV1_M (λg hi=>?_) (ix_conj_goes (λ_=>rfl) (λ_=>rfl) qeV1_RF qeV1_P);obtain⟨xs,ys,n,i,r⟩:=g;obtain⟨h1,h2,h3,h4,h5⟩:=hi _ (List.mem_cons_self ..);have h1:n=(xs.length:Int):=h1;have h3:0<=i:=h3;have h5:xs.length=ys.length:=h5;show qeV1_side xs ys n i r;unfold qeV1_side;simp only[decide_eq_true_eq,decide_eq_false_iff_not];have k0:∀e:Nat,e<xs.length->eV.Ok (eV.els xs e):=λe _=>eV.ok_els xs e;have k1:∀e:Nat,e<ys.length->eV.Ok (eV.els ys e):=λe _=>eV.ok_els ys e;clear hi
 repeat' (first|exact k0|exact k1|apply And.intro|intro _)
 all_goals omega
theorem qeV1_run(c:qeV1_GC)(b:qeV1_GB)(k1:c.2.2=((c.1).length:Int))(k2:(c.1).length<=maxLen)(k3:qeV1_K c b 0):loopF qeV1_RR qeV1_M (qeV1_g (0,c,b))=((scan 0 (qeV1_S c) 0 (c.1) b).1,qeV1_g ((scan 0 (qeV1_S c) 0 (c.1) b).2.1,c,(scan 0 (qeV1_S c) 0 (c.1) b).2.2)):=ix_conj_run (φ:=qeV1_f) (ψ:=qeV1_g) (λ_=>rfl) (λ_=>rfl) qeV1_RF qeV1_P c b k1 k2 k3
noncomputable def ltD2:LTab Tryd.prog:=(((((((((((LTab.nil.cons 21 4 (qeI1_C qeI1_I qeI1_M) qeI1_ok).cons 62 4 (qrI1_C qrI1_I qrI1_M) qrI1_ok).cons 53 4 (qeB1_C qeB1_I qeB1_M) qeB1_ok).cons 34 4 (qrB1_C qrB1_I qrB1_M) qrB1_ok).cons 97 4 (qeR1_C qeR1_I qeR1_M) qeR1_ok).cons 64 4 (qrR1_C qrR1_I qrR1_M) qrR1_ok).cons 98 4 (qeC1_C qeC1_I qeC1_M) qeC1_ok).cons 65 4 (qrC1_C qrC1_I qrC1_M) qrC1_ok).cons 30 4 (qeN1_C qeN1_I qeN1_M) qeN1_ok).cons 35 4 (qrN1_C qrN1_I qrN1_M) qrN1_ok).cons 109 4 (qeV1_C qeV1_I qeV1_M) qeV1_ok)
noncomputable abbrev lamD2:Lam:=ltD2.lam
theorem lamD2_ok:∀f k L,lamD2 f k=some L->∀b∈loopsOf Tryd.prog f,lkey b=k->LoopOk Tryd.prog b L.g:=ltD2.ok
end Go.Proofs.YtfkdbifgppfegaaDoor
