/- Chapter 27: texts, lists; loops of reading. Printed by treegen.py. -/
import Derived.Test.YtapdglacmebbaaaDoorZG08463c26
import Derived.Test.YtapdglacmebbaaaDoorZG06339971
import Derived.Test.YtapdglacmebbaaaDoorZG0781ad55
set_option maxRecDepth 100000
set_option linter.unusedVariables false
set_option linter.unusedSimpArgs false
set_option linter.constructorNameAsVariable false
set_option linter.all false

namespace Go.Proofs.YtapdglacmebbaaaDoor
noncomputable section
open Go.RowKit Go.Sx
abbrev a8:DA Int:=.one (dInt .u8)
abbrev aLI:DA (List Int):=.one dLI
abbrev aB8':DA (ByteArray×Int):=.cons dStr (.one (dInt .u8))
def q66(s:BA):Ex×
 stx_G:=
 loopF (λg=>stx_R g.fst g.snd.fst g.snd.snd.fst g.snd.snd.snd) stx_M (s,(↑(ByteArray.size s):Int),(0:Int),[])
def stxt_F(s:BA):Dv.T dStr:=
 bif decide (s=ByteArray.mk #[])then ByteArray.mk #[(45:UInt8)]
 else bif decide (s=ByteArray.mk #[(45:UInt8)])then ByteArray.mk #[(37:UInt8),(50:UInt8),(100:UInt8)]else strOf (intsOf IntKind.u8 (q66 s).snd.snd.snd.snd.length (e8u.els (q66 s).snd.snd.snd.snd))
def q90(s:BA):Prop:=
 decide (s=ByteArray.mk #[])=false->decide (s=ByteArray.mk #[(45:UInt8)])=false->Lp.ixJ q8h stx_xs stx_K (stx_f (s,(↑(ByteArray.size s):Int),(0:Int),[]))/\((q66 s).snd.snd.snd.snd.length<=(q66 s).snd.snd.snd.snd.length/\∀(e:Nat),e<(q66 s).snd.snd.snd.snd.length->((ElE.fn (e8u.els (q66 s).snd.snd.snd.snd)).at e).all SV.one=true)/\∀(e:Nat),e<(q66 s).snd.snd.snd.snd.length->(Sx.intOf IntKind.u8 ((ElE.fn (e8u.els (q66 s).snd.snd.snd.snd)).at e)).isSome=true
theorem stxt_okS(pre:DA.T aB->List Prop)(h:∀g,DA.bd aB g->(∀p∈pre g,p)->q90 g):FnPure Tryd.prog 58 aB dStr (λg=>stxt_F g) pre:=q05 (Γ:=(PTab.gamz q3f [] [(63,2,17)])) (Λ:=q8b) (PTab.okz q3f [] [(63,2,17)]) q3i 100 default (λg=>q90 g) (λg=>by kernel_rfl) (λg=>by kernel_rfl) h
def rtxt_q1(s:BA):Ex×rtx_G:=
 loopF (λg=>rtx_R g.fst g.snd.fst g.snd.snd) rtx_M (s,(0:Int),ByteArray.mk #[])
def rtxt_F(s:BA):Dv.T dStr:=
 bif decide (s=ByteArray.mk #[])then ByteArray.mk #[(45:UInt8)]
 else bif decide (s=ByteArray.mk #[(45:UInt8)])then ByteArray.mk #[(37:UInt8),(50:UInt8),(100:UInt8)]else(rtxt_q1 s).snd.snd.snd
def q98(s:BA):Prop:=
 decide (s=ByteArray.mk #[])=false->decide (s=ByteArray.mk #[(45:UInt8)])=false->Lp.ixJ q8j rtx_xs rtx_K (rtx_f (s,(0:Int),ByteArray.mk #[]))
theorem rtxt_okS(pre:DA.T aB->List Prop)(h:∀g,DA.bd aB g->(∀p∈pre g,p)->q98 g):FnPure Tryd.prog 31 aB dStr (λg=>rtxt_F g) pre:=q05 (Γ:=(PTab.gamz q3f [] [(63,2,17)])) (Λ:=q8b) (PTab.okz q3f [] [(63,2,17)]) q3i 100 default (λg=>q98 g) (λg=>by kernel_rfl) (λg=>by kernel_rfl) h
def q67(xs:List Int):Ex×
 sls_G:=
 loopF (λg=>sls_R g.fst g.snd.fst g.snd.snd.fst g.snd.snd.snd) sls_M (eI.ag xs,(↑xs.length:Int),(0:Int),[])
def slst_F(xs:List Int):Dv.T dStr:=
 bif (↑xs.length:Int)==(0:Int)then ByteArray.mk #[(45:UInt8)]
 else joinC (eStr.ag (q67 xs).snd.snd.snd.snd,ByteArray.mk #[(44:UInt8)])
def q96(xs:List Int):Prop:=
 ((↑xs.length:Int)==(0:Int))=false->eI.okL xs/\Lp.ixJ sls_lim sls_xs sls_K (sls_f (eI.ag xs,(↑xs.length:Int),(0:Int),[]))/\(q67 xs).snd.snd.snd.snd.length<=(q67 xs).snd.snd.snd.snd.length/\(∀(e:Nat),e<(q67 xs).snd.snd.snd.snd.length->eStr.Ok ((ElE.fn (eStr.els (q67 xs).snd.snd.snd.snd)).at e))/\(eStr.ag (q67 xs).snd.snd.snd.snd).length<=(140737488355328:Nat)/\(joinC (eStr.ag (q67 xs).snd.snd.snd.snd,ByteArray.mk #[(44:UInt8)])).size<=(140737488355328:Nat)
theorem slst_okS(pre:DA.T aLI->List Prop)(h:∀g,DA.bd aLI g->(∀p∈pre g,p)->q96 g):FnPure Tryd.prog 57 aLI dStr (λg=>slst_F g) pre:=q05 (Γ:=(PTab.gamz q3f [] [(63,2,17)])) (Λ:=q8b) (PTab.okz q3f [] [(63,2,17)]) q3i 100 default (λg=>q96 g) (λg=>by kernel_rfl) (λg=>by kernel_rfl) h
def rins_q1(xs:List Int):Ex×rin_G:=
 loopF (λg=>rin_R g.fst g.snd.fst g.snd.snd) rin_M (eI.ag xs,(0:Int),ByteArray.mk #[])
def rins_F(xs:List Int):Dv.T dStr:=
 bif (↑xs.length:Int)==(0:Int)then ByteArray.mk #[(45:UInt8)]else(rins_q1 xs).snd.snd.snd
def q9a(xs:List Int):Prop:=
 ((↑xs.length:Int)==(0:Int))=false->eI.okL xs/\Lp.ixJ rin_lim rin_xs rin_K (rin_f (eI.ag xs,(0:Int),ByteArray.mk #[]))
theorem rins_okS(pre:DA.T aLI->List Prop)(h:∀g,DA.bd aLI g->(∀p∈pre g,p)->q9a g):FnPure Tryd.prog 30 aLI dStr (λg=>rins_F g) pre:=q05 (Γ:=(PTab.gamz q3f [] [(63,2,17)])) (Λ:=q8b) (PTab.okz q3f [] [(63,2,17)]) q3i 100 default (λg=>q9a g) (λg=>by kernel_rfl) (λg=>by kernel_rfl) h
def rhx_F(c:Int):Dv.T dI:=
 bif (48:Int)==c then(0:Int)
 else bif (49:Int)==c then(1:Int)else bif (50:Int)==c then(2:Int)else bif (51:Int)==c then(3:Int)else bif (52:Int)==c then(4:Int)else bif (53:Int)==c then(5:Int)else bif (54:Int)==c then(6:Int)else bif (55:Int)==c then(7:Int)else bif (56:Int)==c then(8:Int)else bif (57:Int)==c then(9:Int)else bif (97:Int)==c then(10:Int)else bif (98:Int)==c then(11:Int)else bif (99:Int)==c then(12:Int)else bif (100:Int)==c then(13:Int)else bif (101:Int)==c then(14:Int)else bif (102:Int)==c then(15:Int)else(-1:Int)
def rhx_side(c:Int):Prop:=
 ((0:Int)<=(0:Int)/\(0:Int)<(16:Int))/\(((48:Int)==c)=false->((0:Int)<=(1:Int)/\(1:Int)<(16:Int))/\(((49:Int)==c)=false->((0:Int)<=(2:Int)/\(2:Int)<(16:Int))/\(((50:Int)==c)=false->((0:Int)<=(3:Int)/\(3:Int)<(16:Int))/\(((51:Int)==c)=false->((0:Int)<=(4:Int)/\(4:Int)<(16:Int))/\(((52:Int)==c)=false->((0:Int)<=(5:Int)/\(5:Int)<(16:Int))/\(((53:Int)==c)=false->((0:Int)<=(6:Int)/\(6:Int)<(16:Int))/\(((54:Int)==c)=false->((0:Int)<=(7:Int)/\(7:Int)<(16:Int))/\(((55:Int)==c)=false->((0:Int)<=(8:Int)/\(8:Int)<(16:Int))/\(((56:Int)==c)=false->((0:Int)<=(9:Int)/\(9:Int)<(16:Int))/\(((57:Int)==c)=false->((0:Int)<=(10:Int)/\(10:Int)<(16:Int))/\(((97:Int)==c)=false->((0:Int)<=(11:Int)/\(11:Int)<(16:Int))/\(((98:Int)==c)=false->((0:Int)<=(12:Int)/\(12:Int)<(16:Int))/\(((99:Int)==c)=false->((0:Int)<=(13:Int)/\(13:Int)<(16:Int))/\(((100:Int)==c)=false->((0:Int)<=(14:Int)/\(14:Int)<(16:Int))/\(((101:Int)==c)=false->(0:Int)<=(15:Int)/\(15:Int)<(16:Int))))))))))))))))
theorem rhx_okS(pre:DA.T a8->List Prop)(h:∀g,DA.bd a8 g->(∀p∈pre g,p)->rhx_side g):FnPure Tryd.prog 63 a8 dI (λg=>rhx_F g) pre:=q05 (Γ:=(PTab.gamz q3f [] [(63,2,17)])) (Λ:=q8b) (PTab.okz q3f [] [(63,2,17)]) q3i 100 default (λg=>rhx_side g) (λg=>by kernel_rfl) (λg=>by kernel_rfl) h
abbrev sp_G:Type:=BA×Int×List BA×Int×Int
def sp_LP:LP 0 sp_G:=.pair (.slot 0 0 dStr) (.pair (.slot 0 1 d8) (.pair (.row 0 5 9 eStr) (.pair (.slot 0 6 dI) (.slot 0 7 dI))))
def sp_R(s:BA)(c:Int)(o:List BA)(k:Int)(i:Int):Ex×sp_G:=
 bif decide (i<(↑(ByteArray.size s):Int))then bif (↑(ByteArray.get! s i.toNat).toNat:Int)==c then(Ex.normal,s,c,eStr.lst (min (o.length+(1:Nat)) o.length) (eStr.els o)++List.map (λx=>ByteArray.extract s k.toNat i.toNat) (List.range (o.length+(1:Nat)-o.length)),IntKind.i64.wrap (i+(1:Int)),IntKind.i64.wrap (i+(1:Int)))else(Ex.normal,s,c,eStr.ag o,k,IntKind.i64.wrap (i+(1:Int)))
 else(Ex.exit (0:Nat),s,c,eStr.ag o,k,i)
def sp_side(s:BA)(c:Int)(o:List BA)(k:Int)(i:Int):Prop:=
 (decide (i<(↑(ByteArray.size s):Int))=true->((0:Int)<=i/\i<(↑(ByteArray.size s):Int))/\(((↑(ByteArray.get! s i.toNat).toNat:Int)==c)=true->((0:Int)<=i/\i<=(↑(ByteArray.size s):Int))/\((0:Int)<=k/\k<=(↑i.toNat:Int))/\(o.length<=o.length/\True/\o.length+(1:Nat)<=maxLen/\(o.length+(1:Nat))*Tryd.prog.types[(9:Nat)].bytes<=(140737488355328:Nat))/\o.length+(1:Nat)<=o.length+(1:Nat)/\(∀(e:Nat),e<min (o.length+(1:Nat)) o.length->True)/\∀(e:Nat),e<o.length+(1:Nat)-o.length->True)/\(((↑(ByteArray.get! s i.toNat).toNat:Int)==c)=false->o.length<=o.length/\∀(e:Nat),e<o.length->True))/\(decide (i<(↑(ByteArray.size s):Int))=false->o.length<=o.length/\∀(e:Nat),e<o.length->True)
theorem sp_one:((q00 Tryd.prog 33).filter λc=>Nat.beq (lkey c) 4).length=1:=by kernel_rfl
abbrev sp_GC:Type:=BA×Int
abbrev sp_GB:Type:=List BA×Int
def sp_f(g:sp_G):Int×sp_GC×sp_GB:=(g.2.2.2.2,(g.1,g.2.1),(g.2.2.1,g.2.2.2.1))
def sp_g(d:Int×sp_GC×sp_GB):sp_G:=(d.2.1.1,d.2.1.2,d.2.2.1,d.2.2.2,d.1)
abbrev sp_rr(g:sp_G):Ex×sp_G:=sp_R g.1 g.2.1 g.2.2.1 g.2.2.2.1 g.2.2.2.2
abbrev sp_ss(g:sp_G):Prop:=sp_side g.1 g.2.1 g.2.2.1 g.2.2.2.1 g.2.2.2.2
theorem sp_es(g:sp_G):(sp_rr g).1=.normal\/(sp_rr g).1∈([.exit 0]:List Ex):=by
 unfold sp_rr sp_R
 repeat' (first|(left;rfl)|(right;simp only[cond_true,cond_false];simp;done)|(rw[Bool.cond_eq_ite];split))
abbrev sp_C(Inv:sp_G->List Prop)(m:sp_G->Nat):LCon:=loopR [.exit 0] (loopBody Tryd.prog 33 4) sp_LP [] 34 Inv sp_rr m
theorem sp_loop(Inv:sp_G->List Prop)(m:sp_G->Nat)(hs:∀g,allP (Inv g)->sp_ss g)(hg:Goes sp_rr m λg=>allP (Inv g)):∀b∈q00 Tryd.prog 33,lkey b=4->q04 Tryd.prog b (sp_C Inv m).g:=q0h (Γ:=(PTab.gamz q3f [] [(63,2,17)])) (Λ:=q8b) (PTab.okz q3f [] [(63,2,17)]) q3i 100 33 4 34 sp_LP [] Inv sp_rr sp_ss m default [.exit 0] sp_one (λrd T B HL HB ds g=>by kernel_rfl) (λrd T B HL HB ds g=>by kernel_rfl) hs hg sp_es
abbrev pn_G:Type:=BA×Int×Int×Int×Bool
def pn_LP:LP 0 pn_G:=.pair (.slot 0 4 dStr) (.pair (.slot 0 6 dI) (.pair (.slot 0 5 dU64) (.pair (.slot 0 2 dI) (.slot 0 3 dBool))))
def pn_R(d:BA)(i:Int)(u:Int)(r:Int)(o:Bool):Ex×pn_G:=
 bif decide (i<(↑(ByteArray.size d):Int))then bif decide ((↑(ByteArray.get! d i.toNat).toNat:Int)<(48:Int))||decide ((↑(ByteArray.get! d i.toNat).toNat:Int)>(57:Int))then(Ex.ret,d,i,u,(0:Int),false)else(Ex.normal,d,IntKind.i64.wrap (i+(1:Int)),IntKind.u64.wrap (IntKind.u64.wrap ((10:Int)*u)+IntKind.u64.wrap (IntKind.u8.wrap ((↑(ByteArray.get! d i.toNat).toNat:Int)-(48:Int)))),r,o)
 else(Ex.exit (0:Nat),d,i,u,r,o)
def pn_side(d:BA)(i:Int)(u:Int)(r:Int)(o:Bool):Prop:=
 decide (i<(↑(ByteArray.size d):Int))=true->((0:Int)<=i/\i<(↑(ByteArray.size d):Int))/\((!decide ((↑(ByteArray.get! d i.toNat).toNat:Int)<(48:Int)))=true->(0:Int)<=i/\i<(↑(ByteArray.size d):Int))/\((decide ((↑(ByteArray.get! d i.toNat).toNat:Int)<(48:Int))||decide ((↑(ByteArray.get! d i.toNat).toNat:Int)>(57:Int)))=false->(0:Int)<=i/\i<(↑(ByteArray.size d):Int))
theorem pn_one:((q00 Tryd.prog 34).filter λc=>Nat.beq (lkey c) 8).length=1:=by kernel_rfl
abbrev pn_GC:Type:=BA
abbrev pn_GB:Type:=Int×Int×Bool
def pn_f(g:pn_G):Int×pn_GC×pn_GB:=(g.2.1,g.1,(g.2.2.1,g.2.2.2.1,g.2.2.2.2))
def pn_g(d:Int×pn_GC×pn_GB):pn_G:=(d.2.1,d.1,d.2.2.1,d.2.2.2.1,d.2.2.2.2)
abbrev pn_rr(g:pn_G):Ex×pn_G:=pn_R g.1 g.2.1 g.2.2.1 g.2.2.2.1 g.2.2.2.2
abbrev pn_ss(g:pn_G):Prop:=pn_side g.1 g.2.1 g.2.2.1 g.2.2.2.1 g.2.2.2.2
theorem pn_es(g:pn_G):(pn_rr g).1=.normal\/(pn_rr g).1∈([.ret,.exit 0]:List Ex):=by
 unfold pn_rr pn_R
 repeat' (first|(left;rfl)|(right;simp only[cond_true,cond_false];simp;done)|(rw[Bool.cond_eq_ite];split))
abbrev pn_C(Inv:pn_G->List Prop)(m:pn_G->Nat):LCon:=loopR [.ret,.exit 0] (loopBody Tryd.prog 34 8) pn_LP [] 60 Inv pn_rr m
theorem pn_loop(Inv:pn_G->List Prop)(m:pn_G->Nat)(hs:∀g,allP (Inv g)->pn_ss g)(hg:Goes pn_rr m λg=>allP (Inv g)):∀b∈q00 Tryd.prog 34,lkey b=8->q04 Tryd.prog b (pn_C Inv m).g:=q0h (Γ:=(PTab.gamz q3f [] [(63,2,17)])) (Λ:=q8b) (PTab.okz q3f [] [(63,2,17)]) q3i 100 34 8 60 pn_LP [] Inv pn_rr pn_ss m default [.ret,.exit 0] pn_one (λrd T B HL HB ds g=>by kernel_rfl) (λrd T B HL HB ds g=>by kernel_rfl) hs hg pn_es
abbrev pa_G:Type:=BA×Int×Int×Int×Int×Bool
def pa_LP:LP 0 pa_G:=.pair (.slot 0 4 dStr) (.pair (.slot 0 15 dI) (.pair (.slot 0 16 dI) (.pair (.slot 0 6 dU64) (.pair (.slot 0 2 dI) (.slot 0 3 dBool)))))
def pa_R(d:BA)(n:Int)(i:Int)(u:Int)(r:Int)(o:Bool):Ex×pa_G:=
 bif decide (i<n)then bif decide ((↑(ByteArray.get! d i.toNat).toNat:Int)<(48:Int))||(decide ((↑(ByteArray.get! d i.toNat).toNat:Int)>(57:Int))||decide (i>(18:Int)))then(Ex.ret,d,n,i,u,(0:Int),false)else(Ex.normal,d,n,IntKind.i64.wrap (i+(1:Int)),IntKind.u64.wrap (IntKind.u64.wrap ((10:Int)*u)+IntKind.u64.wrap (IntKind.u8.wrap ((↑(ByteArray.get! d i.toNat).toNat:Int)-(48:Int)))),r,o)
 else(Ex.exit (0:Nat),d,n,i,u,r,o)
def pa_side(d:BA)(n:Int)(i:Int)(u:Int)(r:Int)(o:Bool):Prop:=
 decide (i<n)=true->((0:Int)<=i/\i<(↑(ByteArray.size d):Int))/\((!decide ((↑(ByteArray.get! d i.toNat).toNat:Int)<(48:Int)))=true->(0:Int)<=i/\i<(↑(ByteArray.size d):Int))/\((decide ((↑(ByteArray.get! d i.toNat).toNat:Int)<(48:Int))||(decide ((↑(ByteArray.get! d i.toNat).toNat:Int)>(57:Int))||decide (i>(18:Int))))=false->(0:Int)<=i/\i<(↑(ByteArray.size d):Int))
theorem pa_one:((q00 Tryd.prog 91).filter λc=>Nat.beq (lkey c) 4).length=1:=by kernel_rfl
abbrev pa_GC:Type:=BA×Int
abbrev pa_GB:Type:=Int×Int×Bool
def pa_f(g:pa_G):Int×pa_GC×pa_GB:=(g.2.2.1,(g.1,g.2.1),(g.2.2.2.1,g.2.2.2.2.1,g.2.2.2.2.2))
def pa_g(d:Int×pa_GC×pa_GB):pa_G:=(d.2.1.1,d.2.1.2,d.1,d.2.2.1,d.2.2.2.1,d.2.2.2.2)
abbrev pa_rr(g:pa_G):Ex×pa_G:=pa_R g.1 g.2.1 g.2.2.1 g.2.2.2.1 g.2.2.2.2.1 g.2.2.2.2.2
abbrev pa_ss(g:pa_G):Prop:=pa_side g.1 g.2.1 g.2.2.1 g.2.2.2.1 g.2.2.2.2.1 g.2.2.2.2.2
theorem pa_es(g:pa_G):(pa_rr g).1=.normal\/(pa_rr g).1∈([.ret,.exit 0]:List Ex):=by
 unfold pa_rr pa_R
 repeat' (first|(left;rfl)|(right;simp only[cond_true,cond_false];simp;done)|(rw[Bool.cond_eq_ite];split))
abbrev pa_C(Inv:pa_G->List Prop)(m:pa_G->Nat):LCon:=loopR [.ret,.exit 0] (loopBody Tryd.prog 91 4) pa_LP [] 52 Inv pa_rr m
theorem pa_loop(Inv:pa_G->List Prop)(m:pa_G->Nat)(hs:∀g,allP (Inv g)->pa_ss g)(hg:Goes pa_rr m λg=>allP (Inv g)):∀b∈q00 Tryd.prog 91,lkey b=4->q04 Tryd.prog b (pa_C Inv m).g:=q0h (Γ:=(PTab.gamz q3f [] [(63,2,17)])) (Λ:=q8b) (PTab.okz q3f [] [(63,2,17)]) q3i 100 91 4 52 pa_LP [] Inv pa_rr pa_ss m default [.ret,.exit 0] pa_one (λrd T B HL HB ds g=>by kernel_rfl) (λrd T B HL HB ds g=>by kernel_rfl) hs hg pa_es
abbrev nu_G:Type:=Unit×Unit×(BA×Nat)×Bool×Int×Int×Bool×Int
def nu_LP:LP 2 nu_G:=.pair (.fix 2 0 (.p 0 0)) (.pair (.fix 2 12 (.p 1 0)) (.pair (.iter 2 1) (.pair (.obj 2 0 75 eBool) (.pair (.slot 2 4 dI) (.pair (.slot 2 5 dU64) (.pair (.slot 2 6 dBool) (.slot 2 7 dI)))))))
def nu_R(_u:Unit)(_u2:Unit)(q:BA×Nat)(z:Bool)(r:Int)(u:Int)(g:Bool)(m:Int):Ex×nu_G:=
 bif decide (q.snd<q.fst.size)then bif !((↑(Utf8.decode q.fst q.snd).fst:Int)==(45:Int)&&(↑q.snd:Int)==(0:Int))&&!(decide ((↑(Utf8.decode q.fst q.snd).fst:Int)>=(48:Int))&&(decide ((↑(Utf8.decode q.fst q.snd).fst:Int)<=(57:Int))&&decide (m<(19:Int))))then(Ex.ret,(),(),(q.fst,q.snd+(Utf8.decode q.fst q.snd).snd),true,(0:Int),u,g,m)else(Ex.normal,(),(),(q.fst,q.snd+(Utf8.decode q.fst q.snd).snd),z,r,bif (↑(Utf8.decode q.fst q.snd).fst:Int)==(45:Int)&&(↑q.snd:Int)==(0:Int)then u else IntKind.u64.wrap (IntKind.u64.wrap ((10:Int)*u)+IntKind.u64.wrap (IntKind.i32.wrap ((↑(Utf8.decode q.fst q.snd).fst:Int)-(48:Int)))),(↑(Utf8.decode q.fst q.snd).fst:Int)==(45:Int)&&(↑q.snd:Int)==(0:Int)||g,bif (↑(Utf8.decode q.fst q.snd).fst:Int)==(45:Int)&&(↑q.snd:Int)==(0:Int)then m else IntKind.i64.wrap (m+(1:Int)))
 else(Ex.exit (0:Nat),(),(),q,z,r,u,g,m)
def nu_side(_u:Unit)(_u2:Unit)(q:BA×Nat)(z:Bool)(r:Int)(u:Int)(g:Bool)(m:Int):Prop:=
 True
theorem nu_one:((q00 Tryd.prog 54).filter λc=>Nat.beq (lkey c) 3).length=1:=by kernel_rfl
abbrev nu_rr(g:nu_G):Ex×nu_G:=nu_R g.1 g.2.1 g.2.2.1 g.2.2.2.1 g.2.2.2.2.1 g.2.2.2.2.2.1 g.2.2.2.2.2.2.1 g.2.2.2.2.2.2.2
abbrev nu_ss(g:nu_G):Prop:=nu_side g.1 g.2.1 g.2.2.1 g.2.2.2.1 g.2.2.2.2.1 g.2.2.2.2.2.1 g.2.2.2.2.2.2.1 g.2.2.2.2.2.2.2
theorem nu_es(g:nu_G):(nu_rr g).1=.normal\/(nu_rr g).1∈([.ret,.exit 0]:List Ex):=by
 unfold nu_rr nu_R
 repeat' (first|(left;rfl)|(right;simp only[cond_true,cond_false];simp;done)|(rw[Bool.cond_eq_ite];split))
abbrev nu_C(Inv:nu_G->List Prop)(m:nu_G->Nat):LCon:=loopR [.ret,.exit 0] (loopBody Tryd.prog 54 3) nu_LP [] 63 Inv nu_rr m
theorem nu_loop(Inv:nu_G->List Prop)(m:nu_G->Nat)(hs:∀g,allP (Inv g)->nu_ss g)(hg:Goes nu_rr m λg=>allP (Inv g)):∀b∈q00 Tryd.prog 54,lkey b=3->q04 Tryd.prog b (nu_C Inv m).g:=q0h (Γ:=(PTab.gamz q3f [] [(63,2,17)])) (Λ:=q8b) (PTab.okz q3f [] [(63,2,17)]) q3i 100 54 3 63 nu_LP [] Inv nu_rr nu_ss m default [.ret,.exit 0] nu_one (λrd T B HL HB ds g=>by kernel_rfl) (λrd T B HL HB ds g=>by kernel_rfl) hs hg nu_es
def tabN14:PTab Tryd.prog:=q3f
open Go.RowKit Go.Sx Go.Lp
def textZ(s:BA):BA:=bif decide (s=ByteArray.mk #[])then ByteArray.mk #[(45:UInt8)]else bif decide (s=ByteArray.mk #[(45:UInt8)])then ByteArray.mk #[(37:UInt8),(50:UInt8),(100:UInt8)]else strOf (escM (bts s))
theorem q5h(s:BA):(textZ s).size<=3*s.size+3:=by
 unfold textZ;have:=(escM_len (bts s)).2;rw[q06]at this;cases decide (s=ByteArray.mk #[])with
 |true=>show 1<=_;omega
 |false=>
  cases decide (s=ByteArray.mk #[(45:UInt8)])with
  |true=>show 3<=_;omega
  |false=>
   show(strOf (escM (bts s))).size<=_;rw[q1b];omega
theorem q7z(l:List Int):intsOf .u8 l.length (e8u.els l)=l:=by
 refine List.ext_getElem (by simp[intsOf]) λi h1 h2=>?_;simp only[intsOf,List.getElem_map,List.getElem_range,El.els,List.getD_eq_getElem?_getD,List.getElem?_eq_getElem h2,Option.getD_some];simp[intAt,Go.Sx.intOf,El.one',eInt,dInt,SV.int?]
theorem stxt_eq(s:BA)(hs:s.size<=KT):q90 s/\stxt_F s=textZ s:=by
 have hq:q66 s=(.exit 1,s,(s.size:Int),(s.size:Int),escM (bts s)):=stx_run s hs;unfold q90 stxt_F textZ;rw[hq];refine⟨λ_ _=>⟨⟨by show(s.size:Int)=((bts s).length:Int);rw[q06],by show(bts s).length<=maxLen;rw[q06];unfold KT at hs;unfold maxLen;omega,Int.le_refl _,by show(0:Int)<=((bts s).length:Int);omega,hs,Int.le_refl _⟩,⟨Nat.le_refl _,λe _=>e8u.one_els _ e⟩,λe _=>rfl⟩,?_⟩;simp only[q7z]
theorem stxt_ok:FnPure Tryd.prog 58 aB dStr textZ (λs=>[s.size<=KT]):=
 q0d (stxt_okS _ λr _ hp=>(stxt_eq r (hp _ (List.mem_cons_self ..))).1) λr _ hp=>(stxt_eq r (hp _ (List.mem_cons_self ..))).2
theorem rtxt_eq(s:BA)(hs:s.size<=KT):q98 s/\rtxt_F s=textZ s:=by
 have hq:rtxt_q1 s=(.exit 1,s,(s.size:Int),strOf (escM (bts s))):=rtx_run s hs;unfold q98 rtxt_F textZ;rw[hq];exact⟨λ_ _=>⟨by show(s.size:Int)=((bts s).length:Int);rw[q06],by show(bts s).length<=maxLen;rw[q06];unfold KT at hs;unfold maxLen;omega,Int.le_refl _,by show(0:Int)<=((bts s).length:Int);omega,hs,Int.le_refl _⟩,rfl⟩
theorem rtxt_ok:FnPure Tryd.prog 31 aB dStr textZ (λs=>[s.size<=KT]):=
 q0d (rtxt_okS _ λr _ hp=>(rtxt_eq r (hp _ (List.mem_cons_self ..))).1) λr _ hp=>(rtxt_eq r (hp _ (List.mem_cons_self ..))).2
def insS(xs:List Int):BA:=bif (xs.length:Int)==(0:Int)then ByteArray.mk #[(45:UInt8)]else joiS 44 (xs.map numS)
theorem q5w(c:UInt8)(xs:List BA):joinC (xs,ByteArray.mk #[c])=joiS (c.toNat:Int) xs:=join_one' c xs
theorem insS_size(xs:List Int)(h:∀x∈xs,i64 x):(insS xs).size<=21*xs.length+1:=by
 unfold insS;have:=q4f 44 (xs.map numS)
 have h2:=sumS_le (xs:=xs.map numS) (n:=20) λx hx=>by
  obtain⟨y,hy,rfl⟩:=List.mem_map.1 hx;exact q0l (h y hy)
 rw[List.length_map]at h2;cases(xs.length:Int)==(0:Int)with
 |true=>show 1<=_;omega
 |false=>show(joiS 44 (xs.map numS)).size<=_;omega
theorem slst_eq(xs:List Int)(hx:xs.length<=KL)(h:∀x∈xs,i64 x):q96 xs/\slst_F xs=insS xs:=by
 have hq:q67 xs=(.exit 0,xs,(xs.length:Int),(xs.length:Int),xs.map numS):=by
  unfold q67;rw[El.ag_eq];exact sls_run xs hx h
 unfold q96 slst_F insS;rw[hq];simp only[El.ag_eq,El.okL_eq];have hl:(xs.map numS).length=xs.length:=List.length_map ..
 have h2:=sumS_le (xs:=xs.map numS) (n:=20) λx hx=>by
  obtain⟨y,hy,rfl⟩:=List.mem_map.1 hx;exact q0l (h y hy)
 have h3:=q4f 44 (xs.map numS);unfold KL at hx;refine⟨λ_=>⟨by simpa using h,⟨rfl,by show xs.length<=maxLen;unfold maxLen;omega,Int.le_refl _,by show(0:Int)<=(xs.length:Int);omega,Int.le_refl _,hx,h⟩,Nat.le_refl _,λe he=>eStr.ok_els _ e,by rw[hl];omega,?_⟩,?_⟩
 .rw[q5w];show(joiS 44 (xs.map numS)).size<=_;omega
 .rw[q5w];rfl
theorem slst_ok:FnPure Tryd.prog 57 aLI dStr insS (λxs=>[xs.length<=KL,∀x∈xs,i64 x]):=
 q0d (slst_okS _ λr _ hp=>(slst_eq r (hp _ (List.mem_cons_self ..)) (hp _ (List.mem_cons_of_mem _ (List.mem_cons_self ..)))).1) λr _ hp=>(slst_eq r (hp _ (List.mem_cons_self ..)) (hp _ (List.mem_cons_of_mem _ (List.mem_cons_self ..)))).2
theorem insF_pos:∀(l:List Int)(i:Int)(b:BA),0<i->insF i l b=b++strOf ((l.map λa=>44::bts (numS a)).flatten)
 | [],i,b,_=>by
  show b=b++strOf [];rw[show strOf []=ByteArray.empty from rfl,ByteArray.append_empty]
 |a::l,i,b,h=>by
  rw[insF,decide_eq_true (by omega:i>0),cond_true,insF_pos l (i+1) _ (by omega),ByteArray.append_assoc,ByteArray.append_assoc,show comma=strOf [44]from rfl]
  conv=>lhs;rw[<-q1q (numS a)]
  rw[q2l,q2l];rfl
theorem insF_joi(xs:List Int):insF 0 xs (ByteArray.mk #[])=joiS 44 (xs.map numS):=by
 cases xs with
 |nil=>rfl
 |cons a l=>
  rw[insF,decide_eq_false (by omega),cond_false,insF_pos l (0+1) _ (by omega),show ByteArray.mk #[]++numS a=numS a from ByteArray.empty_append]
  conv=>lhs;rw[<-q1q (numS a)]
  rw[q2l];unfold joiS;rw[List.map_cons,List.map_cons];unfold joiG;simp only[List.map_map];rfl
theorem rins_eq(xs:List Int)(hx:xs.length<=KL)(h:∀x∈xs,i64 x):q9a xs/\rins_F xs=insS xs:=by
 have hq:rins_q1 xs=(.exit 0,xs,(xs.length:Int),insF 0 xs (ByteArray.mk #[])):=by
  unfold rins_q1;rw[El.ag_eq];exact rin_run xs hx h
 unfold q9a rins_F insS;rw[hq,insF_joi];simp only[El.ag_eq,El.okL_eq];have hx':=hx;unfold KL at hx';exact⟨λ_=>⟨by simpa using h,⟨rfl,by show xs.length<=maxLen;unfold maxLen;omega,Int.le_refl _,by show(0:Int)<=(xs.length:Int);omega,Int.le_refl _,hx,h⟩⟩,trivial⟩
theorem rins_ok:FnPure Tryd.prog 30 aLI dStr insS (λxs=>[xs.length<=KL,∀x∈xs,i64 x]):=
 q0d (rins_okS _ λr _ hp=>(rins_eq r (hp _ (List.mem_cons_self ..)) (hp _ (List.mem_cons_of_mem _ (List.mem_cons_self ..)))).1) λr _ hp=>(rins_eq r (hp _ (List.mem_cons_self ..)) (hp _ (List.mem_cons_of_mem _ (List.mem_cons_self ..)))).2
theorem rhx_all:∀c<256,rhx_F ((c:Nat):Int)=hexV ((c:Nat):Int):=by
 unfold rhx_F;decide
theorem sixb_all:∀c<256,Lib.indexByte HEX.data.toList (((c:Nat):Int).toNat.toUInt8)=hexV ((c:Nat):Int):=by decide
theorem hexOk{c:Int}(h:0<=c/\c<=255):rhx_F c=hexV c/\Lib.indexByte HEX.data.toList c.toNat.toUInt8=hexV c:=by
 obtain⟨k,rfl⟩:∃k:Nat,c=k:=⟨c.toNat,by omega⟩;exact⟨rhx_all k (by omega),sixb_all k (by omega)⟩
theorem rhx_ok':FnPure Tryd.prog 63 a8 dI hexV (λc=>[0<=c/\c<=255]):=
 q0d (rhx_okS _ λc _ _=>by
  show rhx_side c;unfold rhx_side
  repeat' (first|apply And.intro|intro _)
  all_goals omega) λc _ hp=>(hexOk (hp _ (List.mem_cons_self ..))).1
abbrev pa_xs(c:pa_GC):List Int:=bts c.1
abbrev qb4(c:pa_GC):Int:=c.2
def dstep(u v:Int):Int:=IntKind.u64.wrap (IntKind.u64.wrap (10*u)+IntKind.u64.wrap (IntKind.u8.wrap (v-48)))
def pa_S(_:pa_GC)(b:pa_GB)(i:Int)(v:Int):Ex×pa_GB:=bif decide (v<48)||(decide (v>57)||decide (i>18))then(.ret,(b.1,0,false))else(.normal,(dstep b.1 v,b.2))
def pa_K(_:pa_GC)(_:pa_GB)(_:Int):Prop:=True
abbrev pa_I(g:pa_G):List Prop:=ixI qb4 pa_xs pa_K (pa_f g)
abbrev pa_M(g:pa_G):Nat:=ixM qb4 (pa_f g)
theorem pa_P:ixP pa_S pa_xs pa_K:=λ_ _ _ _ _ _ _=>trivial
abbrev pa_RR(g:pa_G):Ex×pa_G:=pa_R g.1 g.2.1 g.2.2.1 g.2.2.2.1 g.2.2.2.2.1 g.2.2.2.2.2
theorem pa_RF(d:Int×pa_GC×pa_GB)(_:allP (ixI qb4 pa_xs pa_K d)):pa_RR (pa_g d)=((ixF 0 qb4 pa_xs 0 pa_S d).1,pa_g (ixF 0 qb4 pa_xs 0 pa_S d).2):=by
 obtain⟨i,⟨s,n⟩,⟨u,r,o⟩⟩:=d;show pa_R s n i u r o=_;unfold pa_R ixF pa_S;simp only[q2y,qb4,pa_xs];generalize (bts s).getD i.toNat 0=v;cases decide (i<n)with
 |false=>rfl
 |true=>
  simp only[cond_true];cases decide (v<48)||(decide (v>57)||decide (i>18))<;>rfl
theorem pa_ok:∀b∈q00 Tryd.prog 91,lkey b=4->q04 Tryd.prog b (pa_C pa_I pa_M).g:=by
 refine pa_loop pa_I pa_M (λg hi=>?_) (q09 (φ:=pa_f) (ψ:=pa_g) (λ_=>rfl) (λ_=>rfl) pa_RF pa_P);obtain⟨s,n,i,u,r,o⟩:=g;obtain⟨h1,h2,h3,h4,h5⟩:=hi _ (List.mem_cons_self ..);have h1:n=((bts s).length:Int):=h1;have h3:0<=i:=h3;rw[q06]at h1;show pa_side s n i u r o;unfold pa_side;intro hlt;have hlt:=of_decide_eq_true hlt;exact⟨⟨h3,by omega⟩,λ_=>⟨h3,by omega⟩,λ_=>⟨h3,by omega⟩⟩
abbrev pn_xs(c:pn_GC):List Int:=bts c
abbrev qaz(c:pn_GC):Int:=(c.size:Int)
def pn_S(_:pn_GC)(b:pn_GB)(_:Int)(v:Int):Ex×pn_GB:=bif decide (v<48)||decide (v>57)then(.ret,(b.1,0,false))else(.normal,(dstep b.1 v,b.2))
def pn_K(_:pn_GC)(_:pn_GB)(_:Int):Prop:=True
abbrev pn_I(g:pn_G):List Prop:=ixI qaz pn_xs pn_K (pn_f g)
abbrev pn_M(g:pn_G):Nat:=ixM qaz (pn_f g)
theorem pn_P:ixP pn_S pn_xs pn_K:=λ_ _ _ _ _ _ _=>trivial
abbrev pn_RR(g:pn_G):Ex×pn_G:=pn_R g.1 g.2.1 g.2.2.1 g.2.2.2.1 g.2.2.2.2
theorem pn_RF(d:Int×pn_GC×pn_GB)(_:allP (ixI qaz pn_xs pn_K d)):pn_RR (pn_g d)=((ixF 0 qaz pn_xs 0 pn_S d).1,pn_g (ixF 0 qaz pn_xs 0 pn_S d).2):=by
 obtain⟨i,s,⟨u,r,o⟩⟩:=d;show pn_R s i u r o=_;unfold pn_R ixF pn_S;simp only[q2y,qaz,pn_xs];generalize (bts s).getD i.toNat 0=v;cases decide (i<(s.size:Int))with
 |false=>rfl
 |true=>
  simp only[cond_true];cases decide (v<48)||decide (v>57)<;>rfl
theorem pn_ok:∀b∈q00 Tryd.prog 34,lkey b=8->q04 Tryd.prog b (pn_C pn_I pn_M).g:=by
 refine pn_loop pn_I pn_M (λg hi=>?_) (q09 (φ:=pn_f) (ψ:=pn_g) (λ_=>rfl) (λ_=>rfl) pn_RF pn_P);obtain⟨s,i,u,r,o⟩:=g;obtain⟨h1,h2,h3,h4,h5⟩:=hi _ (List.mem_cons_self ..);have h3:0<=i:=h3;show pn_side s i u r o;unfold pn_side;intro hlt;have hlt:=of_decide_eq_true hlt;refine⟨⟨h3,by omega⟩,?_⟩
 repeat' (first|apply And.intro|intro _)
 all_goals first|trivial|omega
abbrev sp_xs(c:sp_GC):List Int:=bts c.1
abbrev q95(c:sp_GC):Int:=(ByteArray.size c.1:Int)
def sp_S(c:sp_GC)(b:sp_GB)(i:Int)(v:Int):Ex×sp_GB:=(.normal,bif v==c.2 then(b.1++[ByteArray.extract c.1 b.2.toNat i.toNat],i+1)else b)
def sp_K(c:sp_GC)(b:sp_GB)(i:Int):Prop:=ByteArray.size c.1<=KS/\(List.length b.1:Int)<=i/\0<=b.2/\b.2<=i
abbrev sp_I(g:sp_G):List Prop:=ixI q95 sp_xs sp_K (sp_f g)
abbrev sp_M(g:sp_G):Nat:=ixM q95 (sp_f g)
theorem sp_P:ixP sp_S sp_xs sp_K:=λc b i a h _ _=>by
 obtain⟨h1,h2,h3,h4⟩:=h;refine⟨h1,?_⟩;show((bif a==c.2 then(b.1++[ByteArray.extract c.1 b.2.toNat ((i:Int)).toNat],(i:Int)+1)else b).1.length:Int)<=_/\0<=(bif a==c.2 then(b.1++[ByteArray.extract c.1 b.2.toNat ((i:Int)).toNat],(i:Int)+1)else b).2/\(bif a==c.2 then(b.1++[ByteArray.extract c.1 b.2.toNat ((i:Int)).toNat],(i:Int)+1)else b).2<=_;cases a==c.2 with
 |true=>
  simp only[cond_true,List.length_append,List.length_cons,List.length_nil];omega
 |false=>
  simp only[cond_false];omega
abbrev sp_RR(g:sp_G):Ex×sp_G:=sp_R g.1 g.2.1 g.2.2.1 g.2.2.2.1 g.2.2.2.2
theorem sp_RF(d:Int×sp_GC×sp_GB)(hi:allP (ixI q95 sp_xs sp_K d)):sp_RR (sp_g d)=((ixF 0 q95 sp_xs 0 sp_S d).1,sp_g (ixF 0 q95 sp_xs 0 sp_S d).2):=by
 obtain⟨i,⟨s,n⟩,⟨o,k⟩⟩:=d;obtain⟨_,_,h3,h4,h5,_⟩:=hi _ (List.mem_cons_self ..);have h3:0<=i:=h3;have h4:i<=((bts s).length:Int):=h4;have h5:ByteArray.size s<=KS:=h5;rw[q06]at h4;unfold KS at h5;show sp_R s n o k i=_;unfold sp_R ixF sp_S;simp only[q2y,q95,sp_xs,El.ag_eq,q2s];have hw:w64 (i+1)=i+1:=wr64 (by omega);rw[wr64 (by omega),hw];generalize (bts s).getD i.toNat 0=v;cases decide (i<(ByteArray.size s:Int))with
 |false=>rfl
 |true=>
  simp only[cond_true];cases v==n<;>rfl
theorem sp_ok:∀b∈q00 Tryd.prog 33,lkey b=4->q04 Tryd.prog b (sp_C sp_I sp_M).g:=by
 refine sp_loop sp_I sp_M (λg hi=>?_) (q09 (φ:=sp_f) (ψ:=sp_g) (λ_=>rfl) (λ_=>rfl) sp_RF sp_P);obtain⟨s,n,o,k,i⟩:=g;obtain⟨_,_,h3,h4,h5,h6,h7,h8⟩:=hi _ (List.mem_cons_self ..);have h3:0<=i:=h3;have h4:i<=((bts s).length:Int):=h4;have h5:ByteArray.size s<=KS:=h5;have h6:(List.length o:Int)<=i:=h6;have h7:0<=k:=h7;have h8:k<=i:=h8;rw[q06]at h4;unfold KS at h5;show sp_side s n o k i;unfold sp_side;simp only[byS9];unfold maxLen
 repeat' (first|apply And.intro|(intro (h:decide _=true);have h':=of_decide_eq_true h;clear h)|intro _)
 all_goals first|trivial|omega
theorem sp_scan(s:BA)(n:Int):∀(l:List Int)(i k:Nat)(o:List BA),(bts s).drop i=l->k<=i->i<=(bts s).length->(∀a∈((bts s).take i).drop k,a≠n)->
  ∃o' k',scan 0 (sp_S (s,n)) i l (o,(k:Int))=(.exit 0,((bts s).length:Int),(o',((k':Nat):Int)))/\k'<=s.size/\o'++[ByteArray.extract s k' s.size]=o++(splG n ((bts s).drop k)).map strOf
 | [],i,k,o,hl,hk,hi,hf=>by
  have hie:i=(bts s).length:=by
   have:=congrArg List.length hl;rw[List.length_drop,List.length_nil]at this;omega
  refine⟨o,k,by rw[hie];rfl,by rw[<-q06,<-hie];exact hk,?_⟩;rw[hie,List.take_length]at hf;rw[q93 hf,List.map_cons,List.map_nil];congr 2;refine q8s ?_;rw[q8t,<-q06,List.take_length,q3m (λc hc=>q1t s c (List.mem_of_mem_drop hc))]
 |v::l,i,k,o,hl,hk,hi,hf=>by
  have hlt:i<(bts s).length:=by
   have:=congrArg List.length hl;rw[List.length_drop,List.length_cons]at this;omega
  have hd:=List.drop_eq_getElem_cons hlt;rw[hl]at hd;obtain⟨hv,hl'⟩:=List.cons.inj hd;have ht:(bts s).take (i+1)=(bts s).take i++[v]:=by rw[List.take_succ_eq_append_getElem hlt,<-hv]
  have e1:((i:Int))+1=((i+1:Nat):Int):=by omega
  have hsp:(bts s).drop k=((bts s).take i).drop k++v::l:=by
   have:(bts s)=(bts s).take i++v::l:=by rw[<-hl,List.take_append_drop]
   conv=>lhs;rw[this]
   rw[List.drop_append_of_le_length (by rw[List.length_take];omega)]
  by_cases h:v=n
  .subst h
   obtain⟨o',k',h1,h2,h3⟩:=sp_scan s v l (i+1) (i+1) (o++[ByteArray.extract s k i]) hl'.symm (Nat.le_refl _) (by omega) (by
    intro a ha;rw[List.drop_eq_nil_of_le (by rw[List.length_take];omega)]at ha;cases ha)
   refine⟨o',k',?_,h2,?_⟩
   .show(match sp_S (s,v) (o,(k:Int)) (i:Int) v with|(.normal,b')=>scan 0 (sp_S (s,v)) ((i:Int)+1) l b'|(e,b')=>(e,(i:Int),b'))=_;unfold sp_S;simp only[beq_self_eq_true,cond_true];rw[show((k:Int)).toNat=k by omega,show((i:Int)).toNat=i by omega,e1];exact h1
   .rw[h3,hsp,qbm hf,List.map_cons,List.append_assoc,<-hl'];congr 1;show ByteArray.extract s k i::_=strOf _::_;congr 1;refine q8s ?_;rw[q8t,q3m (λc hc=>q1t s c (List.mem_of_mem_take (List.mem_of_mem_drop hc)))]
  .obtain⟨o',k',h1,h2,h3⟩:=sp_scan s n l (i+1) k o hl'.symm (by omega) (by omega) (by
    intro a ha;rw[ht,List.drop_append_of_le_length (by rw[List.length_take];omega)]at ha;rcases List.mem_append.1 ha with ha|ha
    .exact hf a ha
    .rw[List.mem_singleton.1 ha];exact h)
   refine⟨o',k',?_,h2,h3⟩;show(match sp_S (s,n) (o,(k:Int)) (i:Int) v with|(.normal,b')=>scan 0 (sp_S (s,n)) ((i:Int)+1) l b'|(e,b')=>(e,(i:Int),b'))=_;unfold sp_S;simp only[beq_eq_false_iff_ne.2 h,cond_false];rw[e1];exact h1
theorem sp_run(s:BA)(n:Int)(hs:s.size<=KS):∃o' k',loopF sp_RR sp_M (s,n,[],0,0)=(.exit 0,s,n,o',((k':Nat):Int),(s.size:Int))/\k'<=s.size/\o'++[ByteArray.extract s k' s.size]=splS n s:=by
 have h':=q0e (φ:=sp_f) (ψ:=sp_g) (λ_=>rfl) (λ_=>rfl) sp_RF sp_P (s,n) ([],0) (by show(s.size:Int)=_;rw[q06]) (by show(bts s).length<=maxLen;rw[q06];unfold KS at hs;unfold maxLen;omega) ⟨hs,Int.le_refl _,Int.le_refl _,Int.le_refl _⟩;obtain⟨o',k',h1,h2,h3⟩:=sp_scan s n (bts s) 0 0 [] rfl (Nat.le_refl _) (Nat.zero_le _) (by simp);have h1:scan 0 (sp_S (s,n)) 0 (bts s) ([],0)=_:=h1;refine⟨o',k',?_,h2,h3⟩;show loopF sp_RR sp_M (sp_g (0,(s,n),([],0)))=_;rw[h'];show((scan 0 (sp_S (s,n)) 0 (bts s) ([],0)).1,sp_g ((scan 0 (sp_S (s,n)) 0 (bts s) ([],0)).2.1,_,(scan 0 (sp_S (s,n)) 0 (bts s) ([],0)).2.2))=_;rw[h1,q06];rfl
theorem q3u(c:UInt8)(s:BA):q1l (s,ByteArray.mk #[c])=splS (c.toNat:Int) s:=by
 refine splitB_one c _ s ?_;show s.data.toList.count c<=Lib.countB s (ByteArray.mk #[c]);rw[<-Lib.count_one];exact Nat.le_refl _
abbrev nu_B:Type:=Bool×Int×Int×Bool×Int
def nu_S(_:BA)(b:nu_B)(p:Nat)(d:Nat×Nat):Ex×nu_B:=
 bif !(((d.1:Nat):Int)==(45:Int)&&((p:Nat):Int)==(0:Int))&&!(decide (((d.1:Nat):Int)>=(48:Int))&&(decide (((d.1:Nat):Int)<=(57:Int))&&decide (b.2.2.2.2<(19:Int))))then(.ret,(true,0,b.2.2))
 else(.normal,(b.1,b.2.1,(bif ((d.1:Nat):Int)==(45:Int)&&((p:Nat):Int)==(0:Int)then b.2.2.1 else IntKind.u64.wrap (IntKind.u64.wrap ((10:Int)*b.2.2.1)+IntKind.u64.wrap (IntKind.i32.wrap (((d.1:Nat):Int)-(48:Int))))),(((d.1:Nat):Int)==(45:Int)&&((p:Nat):Int)==(0:Int)||b.2.2.2.1),(bif ((d.1:Nat):Int)==(45:Int)&&((p:Nat):Int)==(0:Int)then b.2.2.2.2 else IntKind.i64.wrap (b.2.2.2.2+(1:Int)))))
abbrev nu_mk(p:Nat)(c:BA)(b:nu_B):nu_G:=((),(),(c,p),b)
abbrev nu_I(g:nu_G):List Prop:=txI (λc:BA=>c) (λ(_:BA)(_:nu_B)_=>True) nu_mk g
abbrev nu_M(g:nu_G):Nat:=g.2.2.1.1.size-g.2.2.1.2
abbrev nu_RR(g:nu_G):Ex×nu_G:=nu_R g.1 g.2.1 g.2.2.1 g.2.2.2.1 g.2.2.2.2.1 g.2.2.2.2.2.1 g.2.2.2.2.2.2.1 g.2.2.2.2.2.2.2
theorem nu_RF(p:Nat)(c:BA)(b:nu_B):nu_RR (nu_mk p c b)=txR 0 (λc:BA=>c) nu_S true nu_mk p c b:=by
 obtain⟨z,r,u,g,m⟩:=b;show nu_R () () (c,p) z r u g m=_;unfold nu_R txR nu_S;by_cases h:p<c.size
 .rw[if_pos h,decide_eq_true h];simp only[cond_true];generalize Utf8.decode c p=d;cases !(((d.1:Nat):Int)==(45:Int)&&((p:Nat):Int)==(0:Int))&&!(decide (((d.1:Nat):Int)>=(48:Int))&&(decide (((d.1:Nat):Int)<=(57:Int))&&decide (m<(19:Int))))<;>rfl
 .rw[if_neg h,decide_eq_false h];rfl
theorem nu_K:txK (λc:BA=>c) nu_S (λ(_:BA)(_:nu_B)_=>True):=λ_ _ _ _ _ _=>trivial
theorem nu_goes:Goes nu_RR nu_M λg=>allP (nu_I g):=tx_goes (x:=0) (adv:=true) (λ_ _ _=>rfl) (λp c b _ _=>nu_RF p c b) nu_K
theorem nu_ok:∀b∈q00 Tryd.prog 54,lkey b=3->q04 Tryd.prog b (nu_C nu_I nu_M).g:=nu_loop nu_I nu_M (λ_ _=>trivial) nu_goes
def ltN15:LTab Tryd.prog:=(((ltN12.cons 33 4 (sp_C sp_I sp_M) sp_ok).cons 91 4 (pa_C pa_I pa_M) pa_ok).cons 34 8 (pn_C pn_I pn_M) pn_ok).cons 54 3 (nu_C nu_I nu_M) nu_ok
abbrev q9p:Lam:=ltN15.lam
theorem q4e:∀f k L,q9p f k=some L->∀b∈q00 Tryd.prog f,lkey b=k->q04 Tryd.prog b L.g:=ltN15.ok
def tabN15:PTab Tryd.prog:=((((tabN14.cons 58 (pconP aB dStr textZ (λs=>[s.size<=KT])) (q0o stxt_ok puS)).cons 31 (pconP aB dStr textZ (λs=>[s.size<=KT])) (q0o rtxt_ok puS)).cons 57 (pconP aLI dStr insS (λxs=>[xs.length<=KL,∀x∈xs,i64 x])) (q0o slst_ok puS)).cons 30 (pconP aLI dStr insS (λxs=>[xs.length<=KL,∀x∈xs,i64 x])) (q0o rins_ok puS)).cons 63 (pconP a8 dI hexV (λc=>[0<=c/\c<=255])) (q0o rhx_ok' puI)
def q70:MTab Tryd.prog:=MTab.of tabN15
abbrev dIBo:Dv (Int×Bool):=.tup (.cons dI (.one dBool))
theorem puIBo(r:Int×Bool):Pu (dIBo.enc r):=pu_tup (q26 (pu_v _) (q26 (pu_v _) q8m))
abbrev taR:TA Bool:=.one 75 (CT.pl eBool)
abbrev rLS:Rv (List ByteArray):=.list eStr
def q2h(s:BA)(c:Int):Ex×
 sp_G:=
 loopF (λg=>sp_R g.fst g.snd.fst g.snd.snd.fst g.snd.snd.snd.fst g.snd.snd.snd.snd) sp_M (s,c,[],(0:Int),(0:Int))
def spf_F(s:BA)(c:Int):Rv.T rLS:=
 eStr.lst (min ((q2h s c).snd.snd.snd.fst.length+(1:Nat)) (q2h s c).snd.snd.snd.fst.length) (eStr.els (q2h s c).snd.snd.snd.fst)++List.map (λx=>ByteArray.extract (q2h s c).snd.fst (q2h s c).snd.snd.snd.snd.fst.toNat (ByteArray.size (q2h s c).snd.fst)) (List.range ((q2h s c).snd.snd.snd.fst.length+(1:Nat)-(q2h s c).snd.snd.snd.fst.length))
def qbn(s:BA)(c:Int):Prop:=
 Lp.ixJ q95 sp_xs sp_K (sp_f (s,c,[],(0:Int),(0:Int)))/\ByteArray.size (q2h s c).snd.fst<=ByteArray.size (q2h s c).snd.fst/\((0:Int)<=(q2h s c).snd.snd.snd.snd.fst/\(q2h s c).snd.snd.snd.snd.fst<=(↑(ByteArray.size (q2h s c).snd.fst):Int))/\((q2h s c).snd.snd.snd.fst.length<=(q2h s c).snd.snd.snd.fst.length/\True/\(q2h s c).snd.snd.snd.fst.length+(1:Nat)<=maxLen/\((q2h s c).snd.snd.snd.fst.length+(1:Nat))*Tryd.prog.types[(9:Nat)].bytes<=(140737488355328:Nat))/\(q2h s c).snd.snd.snd.fst.length+(1:Nat)<=(q2h s c).snd.snd.snd.fst.length+(1:Nat)/\(∀(e:Nat),e<min ((q2h s c).snd.snd.snd.fst.length+(1:Nat)) (q2h s c).snd.snd.snd.fst.length->True)/\∀(e:Nat),e<(q2h s c).snd.snd.snd.fst.length+(1:Nat)-(q2h s c).snd.snd.snd.fst.length->True
theorem spf_okS(pre:DA.T aB8'->List Prop)(h:∀g,DA.bd aB8' g->(∀p∈pre g,p)->qbn g.1 g.2):FnPure Tryd.prog 33 aB8' (Rv.D rLS) (λg=>spf_F g.1 g.2) pre:=q68 (R:=rLS) (Γ:=(MTab.gamz q70 [] [])) (Λ:=q9p) (MTab.okz q70 [] []) q4e 100 default (λg=>qbn g.1 g.2) (λg=>by kernel_rfl) (λg=>by kernel_rfl) h
def q8a(s:BA):Ex×
 pa_G:=
 loopF (λg=>pa_R g.fst g.snd.fst g.snd.snd.fst g.snd.snd.snd.fst g.snd.snd.snd.snd.fst g.snd.snd.snd.snd.snd) pa_M (ByteArray.mk (Lib.trimPrefix s.data.toList #[(45:UInt8)].toList).toArray,(↑(ByteArray.mk (Lib.trimPrefix s.data.toList #[(45:UInt8)].toList).toArray).size:Int),(0:Int),(0:Int),(0:Int),false)
def paA_F(s:BA):Dv.T dIBo:=
 bif exB Ex.ret (q8a s).fst then(q8a s).snd.snd.snd.snd.snd
 else(bif Lib.hasPrefix s.data.toList #[(45:UInt8)].toList then IntKind.i64.wrap ((0:Int)-IntKind.i64.wrap (q8a s).snd.snd.snd.snd.fst)else IntKind.i64.wrap (q8a s).snd.snd.snd.snd.fst,decide (numS (bif Lib.hasPrefix s.data.toList #[(45:UInt8)].toList then IntKind.i64.wrap ((0:Int)-IntKind.i64.wrap (q8a s).snd.snd.snd.snd.fst)else IntKind.i64.wrap (q8a s).snd.snd.snd.snd.fst)=s))
def paA_side(s:BA):Prop:=
 Lp.ixJ qb4 pa_xs pa_K (pa_f (ByteArray.mk (Lib.trimPrefix s.data.toList #[(45:UInt8)].toList).toArray,(↑(ByteArray.mk (Lib.trimPrefix s.data.toList #[(45:UInt8)].toList).toArray).size:Int),(0:Int),(0:Int),(0:Int),false))/\(exB Ex.ret (q8a s).fst=false->i64 (bif Lib.hasPrefix s.data.toList #[(45:UInt8)].toList then IntKind.i64.wrap ((0:Int)-IntKind.i64.wrap (q8a s).snd.snd.snd.snd.fst)else IntKind.i64.wrap (q8a s).snd.snd.snd.snd.fst))
theorem paA_okS(pre:DA.T aB->List Prop)(h:∀g,DA.bd aB g->(∀p∈pre g,p)->paA_side g):FnPure Tryd.prog 91 aB dIBo (λg=>paA_F g) pre:=q05 (Γ:=(MTab.gamz q70 [] [])) (Λ:=q9p) (MTab.okz q70 [] []) q4e 100 default (λg=>paA_side g) (λg=>by kernel_rfl) (λg=>by kernel_rfl) h
def q5o(s:BA):Ex×
 pn_G:=
 loopF (λg=>pn_R g.fst g.snd.fst g.snd.snd.fst g.snd.snd.snd.fst g.snd.snd.snd.snd) pn_M (bif decide ((↑(ByteArray.size s):Int)>(0:Int))&&(↑(ByteArray.get! s (0:Nat)).toNat:Int)==(45:Int)then ByteArray.extract s (1:Nat) (ByteArray.size s)else s,(0:Int),(0:Int),(0:Int),false)
def paB_F(s:BA):Dv.T dIBo:=
 bif decide ((↑(bif decide ((↑(ByteArray.size s):Int)>(0:Int))&&(↑(ByteArray.get! s (0:Nat)).toNat:Int)==(45:Int)then ByteArray.extract s (1:Nat) (ByteArray.size s)else s).size:Int)>(19:Int))then((0:Int),false)
 else bif exB Ex.ret (q5o s).fst then(q5o s).snd.snd.snd.snd else(bif decide ((↑(ByteArray.size (q5o s).snd.fst):Int)<(↑(ByteArray.size s):Int))then IntKind.i64.wrap ((0:Int)-IntKind.i64.wrap (q5o s).snd.snd.snd.fst)else IntKind.i64.wrap (q5o s).snd.snd.snd.fst,decide (numS (bif decide ((↑(ByteArray.size (q5o s).snd.fst):Int)<(↑(ByteArray.size s):Int))then IntKind.i64.wrap ((0:Int)-IntKind.i64.wrap (q5o s).snd.snd.snd.fst)else IntKind.i64.wrap (q5o s).snd.snd.snd.fst)=s))
def paB_side(s:BA):Prop:=
 (decide ((↑(ByteArray.size s):Int)>(0:Int))=true->(0:Int)<=(0:Int)/\(0:Int)<(↑(ByteArray.size s):Int))/\((decide ((↑(ByteArray.size s):Int)>(0:Int))&&(↑(ByteArray.get! s (0:Nat)).toNat:Int)==(45:Int))=true->ByteArray.size s<=ByteArray.size s)/\((decide ((↑(ByteArray.size s):Int)>(0:Int))&&(↑(ByteArray.get! s (0:Nat)).toNat:Int)==(45:Int))=true->(0:Int)<=(1:Int)/\(1:Int)<=(↑(ByteArray.size s):Int))/\(decide ((↑(bif decide ((↑(ByteArray.size s):Int)>(0:Int))&&(↑(ByteArray.get! s (0:Nat)).toNat:Int)==(45:Int)then ByteArray.extract s (1:Nat) (ByteArray.size s)else s).size:Int)>(19:Int))=false->Lp.ixJ qaz pn_xs pn_K (pn_f (bif decide ((↑(ByteArray.size s):Int)>(0:Int))&&(↑(ByteArray.get! s (0:Nat)).toNat:Int)==(45:Int)then ByteArray.extract s (1:Nat) (ByteArray.size s)else s,(0:Int),(0:Int),(0:Int),false))/\(exB Ex.ret (q5o s).fst=false->i64 (bif decide ((↑(ByteArray.size (q5o s).snd.fst):Int)<(↑(ByteArray.size s):Int))then IntKind.i64.wrap ((0:Int)-IntKind.i64.wrap (q5o s).snd.snd.snd.fst)else IntKind.i64.wrap (q5o s).snd.snd.snd.fst)))
theorem paB_okS(pre:DA.T aB->List Prop)(h:∀g,DA.bd aB g->(∀p∈pre g,p)->paB_side g):FnPure Tryd.prog 34 aB dIBo (λg=>paB_F g) pre:=q05 (Γ:=(MTab.gamz q70 [] [])) (Λ:=q9p) (MTab.okz q70 [] []) q4e 100 default (λg=>paB_side g) (λg=>by kernel_rfl) (λg=>by kernel_rfl) h
def q4a(z:Bool)(s:BA):Ex×
 nu_G:=
 loopF (λg=>nu_R g.fst g.snd.fst g.snd.snd.fst g.snd.snd.snd.fst g.snd.snd.snd.snd.fst g.snd.snd.snd.snd.snd.fst g.snd.snd.snd.snd.snd.snd.fst g.snd.snd.snd.snd.snd.snd.snd) nu_M ((),(),(s,(0:Nat)),z,(0:Int),(0:Int),false,(0:Int))
def rnu_F(z:Bool)(s:BA):TA.T taR×TR.T (TR.pure dI):=
 bif exB Ex.ret (q4a z s).fst then((q4a z s).snd.snd.snd.snd.fst,(q4a z s).snd.snd.snd.snd.snd.fst)
 else bif (q4a z s).snd.snd.snd.snd.snd.snd.snd.snd==(0:Int)||!decide (numS (bif (q4a z s).snd.snd.snd.snd.snd.snd.snd.fst then IntKind.i64.wrap ((0:Int)-IntKind.i64.wrap (q4a z s).snd.snd.snd.snd.snd.snd.fst)else IntKind.i64.wrap (q4a z s).snd.snd.snd.snd.snd.snd.fst)=s)then(true,(0:Int))else((q4a z s).snd.snd.snd.snd.fst,bif (q4a z s).snd.snd.snd.snd.snd.snd.snd.fst then IntKind.i64.wrap ((0:Int)-IntKind.i64.wrap (q4a z s).snd.snd.snd.snd.snd.snd.fst)else IntKind.i64.wrap (q4a z s).snd.snd.snd.snd.snd.snd.fst)
def qbt(z:Bool)(s:BA):Prop:=
 (∃p c b,((),(),(s,(0:Nat)),z,(0:Int),(0:Int),false,(0:Int))=nu_mk p c b/\p<=ByteArray.size c/\True)/\(exB Ex.ret (q4a z s).fst=false->(!(q4a z s).snd.snd.snd.snd.snd.snd.snd.snd==(0:Int))=true->i64 (bif (q4a z s).snd.snd.snd.snd.snd.snd.snd.fst then IntKind.i64.wrap ((0:Int)-IntKind.i64.wrap (q4a z s).snd.snd.snd.snd.snd.snd.fst)else IntKind.i64.wrap (q4a z s).snd.snd.snd.snd.snd.snd.fst))
theorem rnu_okS(pre:TA.T taR->DA.T aB->List Prop)(h:∀k g,DA.bd aB g->(∀p∈pre k g,p)->qbt k g):FnT Tryd.prog 54 taR aB (TR.pure dI) (λk g=>rnu_F k g) pre:=q2q (Γ:=(MTab.gamz q70 [] [])) (Λ:=q9p) (MTab.okz q70 [] []) q4e 100 default (λk g=>qbt k g) (λk g=>by kernel_rfl) (λk g=>by kernel_rfl) h
end
end Go.Proofs.YtapdglacmebbaaaDoor

namespace Go.Proofs.YtapdglacmebbaaaDoor
open Go.RowKit Go.Sx Go.Lp
def wd(c:Int):Prop:=33<=c/\c<=126/\c≠44/\c≠59
theorem hexD_wd{v:Int}(h0:0<=v)(h1:v<16):wd (hexD v):=by
 unfold hexD wd;split<;>omega
theorem esc2_wd{a:Int}(h:0<=a/\a<=255):∀c∈esc2 a,wd c:=by
 intro c hc;unfold esc2 at hc;split at hc
 .rename_i hp;rw[List.mem_singleton.1 hc];unfold escP2 at hp;simp only[Bool.and_eq_true,decide_eq_true_eq,Bool.not_eq_true',decide_eq_false_iff_not]at hp;exact⟨hp.1,hp.2.1,hp.2.2.2.1,hp.2.2.2.2⟩
 .simp only[List.mem_cons,List.not_mem_nil,or_false]at hc;rcases hc with rfl|rfl|rfl
  .exact⟨by decide,by decide,by decide,by decide⟩
  .exact hexD_wd (by omega) (by omega)
  .exact hexD_wd (by omega) (by omega)
theorem escM_wd{l:List Int}(h:∀c∈l,0<=c/\c<=255):∀c∈escM l,wd c:=by
 intro c hc;obtain⟨a,ha,hc⟩:=List.mem_flatMap.1 hc;exact esc2_wd (h a ha) c hc
theorem wd_range{c:Int}(h:wd c):0<=c/\c<=255:=by unfold wd at h;omega
theorem bts_esc(s:BA):bts (strOf (escM (bts s)))=escM (bts s):=q3m λc hc=>wd_range (escM_wd (q1t s) c hc)
theorem q7q(s:BA):∀c∈bts (textZ s),wd c:=by
 unfold textZ;cases decide (s=ByteArray.mk #[])with
 |true=>
  intro c hc;have hc:c∈[(45:Int)]:=hc;rw[List.mem_singleton.1 hc];exact⟨by decide,by decide,by decide,by decide⟩
 |false=>
  cases decide (s=ByteArray.mk #[(45:UInt8)])with
  |true=>
   intro c hc;have hc:c∈[(37:Int),50,100]:=hc;simp only[List.mem_cons,List.not_mem_nil,or_false]at hc;rcases hc with rfl|rfl|rfl<;>exact⟨by decide,by decide,by decide,by decide⟩
  |false=>
   show∀c∈bts (strOf (escM (bts s))),wd c;rw[bts_esc];exact escM_wd (q1t s)
theorem unesc2:∀(l b:List Int)(n:Nat),(∀c∈l,0<=c/\c<=255)->(escM l).length<=n->q0y n (escM l) b=some (b++l)
 | [],b,n,_,_=>by
  have:escM []=[]:=rfl;rw[this,List.append_nil];cases n<;>rfl
 |c::l,b,n,hb,hn=>by
  have e:escM (c::l)=esc2 c++escM l:=rfl;rw[e]at hn ⊢;have hc:=hb c (List.mem_cons_self ..);have ih:=λb n h=>unesc2 l b n (λx hx=>hb x (List.mem_cons_of_mem _ hx)) h;have hl:=esc2_len c;rw[List.length_append]at hn;obtain⟨m,rfl⟩:∃m,n=m+1:=⟨n-1,by omega⟩;unfold esc2;by_cases hp:escP2 c=true
  .rw[if_pos hp]
   have h37:c≠37:=by
    unfold escP2 at hp;simp only[Bool.and_eq_true,Bool.not_eq_true',decide_eq_false_iff_not]at hp;exact hp.2.2.1
   show q0y (m+1) (c::escM l) b=_;unfold q0y;rw[if_neg h37,ih _ m (by omega),List.append_assoc];rfl
  .rw[if_neg hp];show q0y (m+1) (37::hexD (c/16)::hexD (c%16)::escM l) b=_;unfold q0y;rw[if_pos rfl];simp only;rw[hexV_D (by omega) (by omega),hexV_D (by omega) (by omega),if_neg (by omega),ih _ m (by omega),List.append_assoc];have:16*(c/16)+c%16=c:=by omega
   rw[this];rfl
abbrev bE:BA:=ByteArray.mk #[]
abbrev bM:BA:=ByteArray.mk #[(45:UInt8)]
def q0v(s:BA):BA×Bool:=bif decide (s=bM)then(bE,true)else match q0y s.size (bts s) []with
 |none=>(bE,false)
 |some b=>(strOf b,decide (textZ (strOf b)=s))
theorem untextZ_ok{s:BA}(h:(q0v s).2=true):textZ (q0v s).1=s:=by
 unfold q0v at h ⊢;by_cases hm:s=bM
 .rw[decide_eq_true hm];rw[hm];rfl
 .rw[decide_eq_false hm]at h ⊢;simp only[cond_false]at h ⊢;cases hu:q0y s.size (bts s) []with
  |none=>rw[hu]at h;cases h
  |some b=>
   rw[hu]at h;exact of_decide_eq_true h
theorem q3b(s:BA):q0v (textZ s)=(s,true):=by
 by_cases h0:s=bE
 .subst h0;rfl
 by_cases h1:s=bM
 .subst h1;decide+kernel
 have ht:textZ s=strOf (escM (bts s)):=by
  unfold textZ;rw[decide_eq_false h0,decide_eq_false h1];rfl
 have hu:=unesc2 (bts s) [] (strOf (escM (bts s))).size (q1t s) (by rw[q1b];exact Nat.le_refl _)
 have hne:strOf (escM (bts s))≠bM:=by
  intro e;have e2:=congrArg bts e;rw[bts_esc]at e2;rw[e,e2]at hu;have h3:q0y bM.size (bts bM) []=some [45]:=by decide
  rw[h3]at hu;have:=Option.some.inj hu;apply h1;rw[<-q1q s];rw[List.nil_append]at this;rw[<-this];rfl
 unfold q0v;rw[ht,decide_eq_false hne,cond_false,bts_esc,hu];simp only[List.nil_append,q1q,ht,decide_true]
def q07(s:BA):Int×Bool:=bif numOk (bts s)then(numV (bts s),decide (numS (numV (bts s))=s))else(0,false)
def tailL(l:List Int):List Int:=if l.head?=some 45 then l.drop 1 else l
theorem neg_wrap(x:Int):IntKind.i64.wrap ((0:Int)-x)=IntKind.i64.wrap (-x):=by rw[Int.zero_sub]
theorem wrap_i64(x:Int):i64 (IntKind.i64.wrap x):=by
 have:=IntKind.wrap_i64 x;unfold i64;omega
theorem numV_eq(l:List Int):numV l=bif decide (l.head?=some 45)then IntKind.i64.wrap ((0:Int)-IntKind.i64.wrap (dval (tailL l)))else IntKind.i64.wrap (dval (tailL l)):=by
 unfold numV tailL;by_cases h:l.head?=some 45
 .simp only[h,if_true,decide_true,cond_true,neg_wrap]
 .simp only[h,if_false,decide_false,cond_false]
theorem q5n(s:BA):i64 (q07 s).1:=by
 unfold q07;cases numOk (bts s)with
 |false=>
  show i64 0;exact⟨by decide,by decide⟩
 |true=>
  show i64 (numV (bts s));rw[numV_eq];cases decide ((bts s).head?=some 45)<;>exact wrap_i64 _
theorem qac{n:Int}(h:i64 n):∀c∈numL n,c=45\/(48<=c/\c<=57):=by
 obtain⟨hb1,hb2⟩:=abs_b h;have e:numL n=(if n<0 then [45]else [])++dgt 20 (absI n):=rfl;rw[e];intro c hc;rcases List.mem_append.1 hc with hc|hc
 .split at hc
  .exact .inl (List.mem_singleton.1 hc)
  .cases hc
 .exact .inr (q57 20 _ hb1 c hc)
theorem bts_num{n:Int}(h:i64 n):bts (numS n)=numL n:=q3m λc hc=>by
 rcases qac h c hc with h|h<;>omega
theorem q17{n:Int}(h:i64 n):∀c∈bts (numS n),wd c:=by
 rw[bts_num h];intro c hc;unfold wd;rcases qac h c hc with h|h<;>omega
theorem numS_ne{n:Int}(h:i64 n):numS n≠bM:=by
 intro e;have e2:=congrArg bts e;rw[bts_num h]at e2;have e2:numL n=[45]:=e2;have hb:=numL_back h.1 h.2;rw[e2]at hb;have:numV [45]=0:=by decide
 rw[this]at hb;have:n=0:=hb.2.symm;subst this;revert e2;decide
theorem q0t{n:Int}(h:i64 n):q07 (numS n)=(n,true):=by
 obtain⟨h1,h2⟩:=numL_back h.1 h.2;unfold q07;rw[bts_num h,h1,h2,cond_true,decide_eq_true rfl]
theorem q5m{s:BA}(h:(q07 s).2=true):numS (q07 s).1=s:=by
 unfold q07 at h ⊢;cases hb:numOk (bts s)with
 |false=>rw[hb]at h;cases h
 |true=>rw[hb]at h;exact of_decide_eq_true h
def listZ(s:BA):List Int×Bool:=bif decide (s=bM)then([],true)else((splS 44 s).map λw=>(q07 w).1,(splS 44 s).all λw=>(q07 w).2)
theorem len_beq{α:Type}(x:α)(l:List α):(((x::l).length:Int)==(0:Int))=false:=by
 rw[beq_eq_false_iff_ne,List.length_cons];omega
theorem q9u(x:Int)(l:List Int):insS (x::l)=joiS 44 ((x::l).map numS):=by
 unfold insS;rw[len_beq,cond_false]
theorem ins_ne{xs:List Int}(h:∀x∈xs,i64 x)(hne:xs≠[]):insS xs≠bM:=by
 cases xs with
 |nil=>exact absurd rfl hne
 |cons x l=>
  rw[q9u];intro e;have e2:=congrArg (splS 44) e
  rw[q4v ⟨by decide,by decide⟩ (by simp) (λy hy a ha=>by
   obtain⟨z,hz,rfl⟩:=List.mem_map.1 hy;exact(q17 (h z hz) a ha).2.2.1)]at e2
  have e3:splS 44 bM=[bM]:=by decide+kernel
  rw[e3]at e2;exact numS_ne (h x (List.mem_cons_self ..)) (List.cons.inj e2).1
theorem insS_wd{xs:List Int}(h:∀x∈xs,i64 x):∀c∈bts (insS xs),c=44\/wd c:=by
 cases xs with
 |nil=>
  intro c hc;have hc:c∈[(45:Int)]:=hc;rw[List.mem_singleton.1 hc];exact .inr ⟨by decide,by decide,by decide,by decide⟩
 |cons x l=>
  rw[q9u,q6k ⟨by decide,by decide⟩];intro c hc;rcases List.mem_append.1 hc with hc|hc
  .exact .inr (q17 (h x (List.mem_cons_self ..)) c hc)
  .obtain⟨y0,hy0,hc⟩:=List.mem_flatten.1 hc;obtain⟨y1,hy1,rfl⟩:=List.mem_map.1 hy0;obtain⟨y2,hy2,rfl⟩:=List.mem_map.1 hy1;obtain⟨z,hz,rfl⟩:=List.mem_map.1 hy2;rcases List.mem_cons.1 hc with hc|hc
   .exact .inl hc
   .exact .inr (q17 (h z (List.mem_cons_of_mem _ hz)) c hc)
theorem listZ_back{xs:List Int}(h:∀x∈xs,i64 x):listZ (insS xs)=(xs,true):=by
 by_cases hne:xs=[]
 .subst hne;rfl
 unfold listZ;rw[decide_eq_false (ins_ne h hne),cond_false];cases xs with
 |nil=>exact absurd rfl hne
 |cons x l=>
  rw[q9u,q4v ⟨by decide,by decide⟩ (by simp) (λy hy a ha=>by
   obtain⟨z,hz,rfl⟩:=List.mem_map.1 hy;exact(q17 (h z hz) a ha).2.2.1)]
  generalize x::l=xs at h;rw[Prod.mk.injEq];constructor
  .rw[List.map_map]
   conv=>rhs;rw[<-List.map_id xs]
   refine List.map_congr_left λy hy=>?_;show(q07 (numS y)).1=y;rw[q0t (h y hy)]
  .rw[List.all_eq_true];intro y hy;obtain⟨z,hz,rfl⟩:=List.mem_map.1 hy;rw[q0t (h z hz)]
theorem listZ_ok{s:BA}(h:(listZ s).2=true):insS (listZ s).1=s:=by
 unfold listZ at h ⊢;by_cases hm:s=bM
 .rw[decide_eq_true hm];rw[hm];rfl
 .rw[decide_eq_false hm]at h ⊢;simp only[cond_false]at h ⊢;rw[List.all_eq_true]at h
  have e:((splS 44 s).map λw=>(q07 w).1).map numS=splS 44 s:=by
   rw[List.map_map]
   conv=>rhs;rw[<-List.map_id (splS 44 s)]
   exact List.map_congr_left λw hw=>q5m (h w hw)
  have hj:=q9r 44 s;cases hx:(splS 44 s).map λw=>(q07 w).1 with
  |nil=>exact absurd (List.map_eq_nil_iff.1 hx) (splS_ne 44 s)
  |cons x l=>
   rw[q9u,<-hx,e,hj]
end Go.Proofs.YtapdglacmebbaaaDoor

namespace Go.Proofs.YtapdglacmebbaaaDoor
noncomputable section
open Go.RowKit Go.Sx Go.Lp
theorem spf_eq(s:BA)(c:Int)(hs:s.size<=KS):qbn s c/\spf_F s c=splS c s:=by
 obtain⟨o',k',h1,h2,h3⟩:=sp_run s c hs;have hq:q2h s c=(.exit 0,s,c,o',((k':Nat):Int),(s.size:Int)):=h1;have hl:=q59 c s;rw[<-h3,List.length_append]at hl;simp only[List.length_cons,List.length_nil]at hl;have hs0:=hs;unfold KS at hs;unfold qbn spf_F;rw[hq];simp only[byS9,q2s,Int.toNat_natCast,h3];refine⟨?_,trivial⟩;have hJ:Lp.ixJ q95 sp_xs sp_K (sp_f (s,c,[],0,0)):=ixJ0 (lim:=q95) (xs:=sp_xs) (P:=sp_K) (c:=(s,c)) (b:=([],0)) (by show(s.size:Int)=((bts s).length:Int);rw[q06]) (by show(bts s).length<=maxLen;rw[q06];unfold maxLen;omega) ⟨hs0,Int.le_refl _,Int.le_refl _,Int.le_refl _⟩;unfold maxLen
 repeat' (first|exact hJ|apply And.intro|intro _)
 all_goals first|trivial|omega
theorem spf_ok:FnPure Tryd.prog 33 aB8' dLS (λg=>splS g.2 g.1) (λg=>[g.1.size<=KS]):=
 q0d (spf_okS _ λr _ hp=>(spf_eq r.1 r.2 (hp _ (List.mem_cons_self ..))).1) λr _ hp=>(spf_eq r.1 r.2 (hp _ (List.mem_cons_self ..))).2
def digB(v:Int):Bool:=decide (48<=v)&&decide (v<=57)
theorem digB_iff(v:Int):(decide (v<48)||decide (v>57))=!digB v:=by
 unfold digB;rw[Bool.eq_iff_iff];simp only[Bool.or_eq_true,decide_eq_true_eq,Bool.not_eq_true',Bool.and_eq_false_iff,decide_eq_false_iff_not];omega
theorem dstep_eq{u v:Int}(h0:0<=u)(h1:u<1000000000000000000)(hv:digB v=true):dstep u v=10*u+(v-48):=by
 unfold digB at hv;simp only[Bool.and_eq_true,decide_eq_true_eq]at hv;unfold dstep;rw[wrB (by omega),wrU (x:=10*u) (by omega),wrU (x:=v-48) (by omega),wrU (by omega)]
theorem pow_le18{i:Nat}(h:i<=18):(10:Int)^i<=1000000000000000000:=by
 have:(10:Nat)^i<=10^18:=Nat.pow_le_pow_right (by decide) h;have e:((10^i:Nat):Int)=(10:Int)^i:=by simp
 rw[<-e];have e2:(10:Nat)^18=1000000000000000000:=by decide
 omega
theorem pa_scan(c:pa_GC):∀(l:List Int)(i:Nat)(u r:Int)(o:Bool),0<=u->u<10^i->i<=19->
  (bif decide (i+l.length<=19)&&l.all digB then scan 0 (pa_S c) i l (u,r,o)=(.exit 0,((i+l.length:Nat):Int),(l.foldl (λa c=>10*a+(c-48)) u,r,o))else∃j u',scan 0 (pa_S c) i l (u,r,o)=(.ret,j,(u',0,false)))
 | [],i,u,r,o,_,_,hi=>by
  rw[show(decide (i+([]:List Int).length<=19)&&([]:List Int).all digB)=true by simpa using hi];rfl
 |v::l,i,u,r,o,h0,h1,hi=>by
  have hs:pa_S c (u,r,o) (i:Int) v=bif !digB v||decide ((i:Int)>18)then(.ret,(u,0,false))else(.normal,(dstep u v,r,o)):=by
   unfold pa_S;rw[<-digB_iff,Bool.or_assoc]
  simp only[scan,hs,List.all_cons,List.length_cons];cases hv:digB v with
  |false=>
   simp only[Bool.false_and,Bool.and_false,cond_false,Bool.not_false,Bool.true_or,cond_true];exact⟨_,_,rfl⟩
  |true=>
   simp only[Bool.not_true,Bool.false_or,Bool.true_and];by_cases h18:i<=18
   .have hd:=dstep_eq h0 (Int.lt_of_lt_of_le h1 (pow_le18 h18)) hv;have hv':=hv;unfold digB at hv';simp only[Bool.and_eq_true,decide_eq_true_eq]at hv';have hp:(10:Int)^(i+1)=10^i*10:=Int.pow_succ ..;have ih:=pa_scan c l (i+1) (10*u+(v-48)) r o (by omega) (by omega) (by omega);rw[decide_eq_false (by omega:¬(i:Int)>18),cond_false];simp only[hd];rw[show(((i+1:Nat):Int))=(i:Int)+1 by omega,show i+1+l.length=i+(l.length+1) by omega]at ih;exact ih
   .rw[decide_eq_true (by omega:(i:Int)>18),cond_true,decide_eq_false (by omega)];exact⟨_,_,rfl⟩
theorem pn_scan(c:pn_GC):∀(l:List Int)(i:Nat)(u r:Int)(o:Bool),0<=u->u<10^i->i+l.length<=19->
  (bif l.all digB then scan 0 (pn_S c) i l (u,r,o)=(.exit 0,((i+l.length:Nat):Int),(l.foldl (λa c=>10*a+(c-48)) u,r,o))else∃j u',scan 0 (pn_S c) i l (u,r,o)=(.ret,j,(u',0,false)))
 | [],i,u,r,o,_,_,hi=>rfl
 |v::l,i,u,r,o,h0,h1,hi=>by
  have hs:pn_S c (u,r,o) (i:Int) v=bif !digB v then(.ret,(u,0,false))else(.normal,(dstep u v,r,o)):=by
   unfold pn_S;rw[<-digB_iff]
  simp only[List.length_cons]at hi;simp only[scan,hs,List.all_cons,List.length_cons];cases hv:digB v with
  |false=>
   simp only[Bool.false_and,cond_false,Bool.not_false,cond_true];exact⟨_,_,rfl⟩
  |true=>
   simp only[Bool.not_true,Bool.true_and,cond_false];have hd:=dstep_eq h0 (Int.lt_of_lt_of_le h1 (pow_le18 (by omega))) hv;have hv':=hv;unfold digB at hv';simp only[Bool.and_eq_true,decide_eq_true_eq]at hv';have hp:(10:Int)^(i+1)=10^i*10:=Int.pow_succ ..;have ih:=pn_scan c l (i+1) (10*u+(v-48)) r o (by omega) (by omega) (by omega);simp only[hd];rw[show(((i+1:Nat):Int))=(i:Int)+1 by omega,show i+1+l.length=i+(l.length+1) by omega]at ih;exact ih
theorem pre45(s:BA):Lib.hasPrefix s.data.toList #[(45:UInt8)].toList=decide ((bts s).head?=some 45)/\bts (ByteArray.mk (Lib.trimPrefix s.data.toList #[(45:UInt8)].toList).toArray)=tailL (bts s):=by
 have e:bts s=s.data.toList.map λx=>(x.toNat:Int):=rfl;have e2:bts (ByteArray.mk (Lib.trimPrefix s.data.toList #[(45:UInt8)].toList).toArray)=(Lib.trimPrefix s.data.toList #[(45:UInt8)].toList).map λx=>(x.toNat:Int):=rfl;rw[e2,e];generalize s.data.toList=l;unfold Lib.trimPrefix tailL;cases l with
 |nil=>exact⟨rfl,rfl⟩
 |cons c l=>
  have hp:Lib.hasPrefix (c::l) #[(45:UInt8)].toList=(45==c):=by
   show([45]:List UInt8).isPrefixOf (c::l)=_;simp[List.isPrefixOf]
  rw[hp];simp only[List.map_cons,List.head?_cons,Option.some.injEq];by_cases h:c=45
  .subst h;exact⟨rfl,rfl⟩
  .have h1:((45:UInt8)==c)=false:=by
    rw[beq_eq_false_iff_ne];exactλh'=>h h'.symm
   have h2:(c.toNat:Int)≠45:=λh'=>h (by
    apply UInt8.toNat_inj.1;show c.toNat=45;omega)
   rw[h1,decide_eq_false h2,if_neg h2];exact⟨rfl,rfl⟩
theorem numOk_eq(l:List Int):numOk l=(decide (0+(tailL l).length<=19)&&(tailL l).all digB):=by
 rw[Nat.zero_add];rfl
theorem pa_fin(t:BA)(ht:t.size<=KB):bif decide (0+(bts t).length<=19)&&(bts t).all digB then(loopF pa_RR pa_M (pa_g (0,(t,(t.size:Int)),(0,0,false)))).1=.exit 0/\(loopF pa_RR pa_M (pa_g (0,(t,(t.size:Int)),(0,0,false)))).2.2.2.2.1=dval (bts t)else(loopF pa_RR pa_M (pa_g (0,(t,(t.size:Int)),(0,0,false)))).1=.ret/\(loopF pa_RR pa_M (pa_g (0,(t,(t.size:Int)),(0,0,false)))).2.2.2.2.2=(0,false):=by
 unfold KB at ht;have hr:loopF pa_RR pa_M (pa_g (0,(t,(t.size:Int)),(0,0,false)))=_:=q0e (φ:=pa_f) (ψ:=pa_g) (λ_=>rfl) (λ_=>rfl) pa_RF pa_P (t,(t.size:Int)) (0,0,false) (by rw[q06]) (by show(bts t).length<=maxLen;rw[q06];unfold maxLen;omega) trivial;rw[hr];have hp:=pa_scan (t,(t.size:Int)) (bts t) 0 0 0 false (Int.le_refl _) (by decide) (by decide);have e0:((0:Nat):Int)=0:=rfl;rw[e0]at hp;cases hb:decide (0+(bts t).length<=19)&&(bts t).all digB with
 |true=>
  rw[hb]at hp;have hp:scan 0 (pa_S (t,(t.size:Int))) 0 (bts t) (0,0,false)=_:=hp;show(scan 0 (pa_S (t,(t.size:Int))) 0 (bts t) (0,0,false)).1=_/\(scan 0 (pa_S (t,(t.size:Int))) 0 (bts t) (0,0,false)).2.2.1=_;rw[hp];exact⟨rfl,rfl⟩
 |false=>
  rw[hb]at hp;obtain⟨j,u',hp⟩:∃j u',scan 0 (pa_S (t,(t.size:Int))) 0 (bts t) (0,0,false)=(.ret,j,(u',0,false)):=hp;show(scan 0 (pa_S (t,(t.size:Int))) 0 (bts t) (0,0,false)).1=_/\(scan 0 (pa_S (t,(t.size:Int))) 0 (bts t) (0,0,false)).2.2.2=_;rw[hp];exact⟨rfl,rfl⟩
theorem pn_fin(t:BA)(ht:t.size<=19):bif (bts t).all digB then(loopF pn_RR pn_M (pn_g (0,t,(0,0,false)))).1=.exit 0/\(loopF pn_RR pn_M (pn_g (0,t,(0,0,false)))).2.1=t/\(loopF pn_RR pn_M (pn_g (0,t,(0,0,false)))).2.2.2.1=dval (bts t)else(loopF pn_RR pn_M (pn_g (0,t,(0,0,false)))).1=.ret/\(loopF pn_RR pn_M (pn_g (0,t,(0,0,false)))).2.2.2.2=(0,false):=by
 have hr:loopF pn_RR pn_M (pn_g (0,t,(0,0,false)))=_:=q0e (φ:=pn_f) (ψ:=pn_g) (λ_=>rfl) (λ_=>rfl) pn_RF pn_P t (0,0,false) (by rw[q06]) (by rw[q06];unfold maxLen;omega) trivial;rw[hr];have hp:=pn_scan t (bts t) 0 0 0 false (Int.le_refl _) (by decide) (by rw[q06];omega);have e0:((0:Nat):Int)=0:=rfl;rw[e0]at hp;cases hb:(bts t).all digB with
 |true=>
  rw[hb]at hp;have hp:scan 0 (pn_S t) 0 (bts t) (0,0,false)=_:=hp;show(scan 0 (pn_S t) 0 (bts t) (0,0,false)).1=_/\t=t/\(scan 0 (pn_S t) 0 (bts t) (0,0,false)).2.2.1=_;rw[hp];exact⟨rfl,rfl,rfl⟩
 |false=>
  rw[hb]at hp;obtain⟨j,u',hp⟩:∃j u',scan 0 (pn_S t) 0 (bts t) (0,0,false)=(.ret,j,(u',0,false)):=hp;show(scan 0 (pn_S t) 0 (bts t) (0,0,false)).1=_/\(scan 0 (pn_S t) 0 (bts t) (0,0,false)).2.2.2=_;rw[hp];exact⟨rfl,rfl⟩
theorem tailL_len(l:List Int):(tailL l).length<=l.length/\((tailL l).length<l.length↔l.head?=some 45):=by
 unfold tailL;cases l with
 |nil=>simp
 |cons c l=>
  by_cases h:(c::l).head?=some 45
  .rw[if_pos h];simp[h]
  .rw[if_neg h];simp;simpa using h
theorem paA_eq(s:BA)(hs:s.size<=KB):paA_side s/\paA_F s=q07 s:=by
 obtain⟨h1,h2⟩:=pre45 s;have hlen:=(tailL_len (bts s)).1;rw[q06]at hlen;have hsz:(ByteArray.mk (Lib.trimPrefix s.data.toList #[(45:UInt8)].toList).toArray).size=(tailL (bts s)).length:=by rw[<-q06,h2]
 unfold paA_side paA_F q07 q8a;rw[h1];generalize ByteArray.mk (Lib.trimPrefix s.data.toList #[(45:UInt8)].toList).toArray=t at h2 hsz ⊢;have ht:t.size<=KB:=by omega
 have hf:=pa_fin t ht;rw[h2,<-numOk_eq,]at hf;rw[numV_eq];have hJ:Lp.ixJ qb4 pa_xs pa_K (pa_f (t,(t.size:Int),(0:Int),(0:Int),(0:Int),false)):=⟨by show(t.size:Int)=((bts t).length:Int);rw[q06],by show(bts t).length<=maxLen;rw[q06];unfold KB at ht;unfold maxLen;omega,Int.le_refl _,by show(0:Int)<=_;omega,trivial⟩;have hq:loopF (λg=>pa_R g.fst g.snd.fst g.snd.snd.fst g.snd.snd.snd.fst g.snd.snd.snd.snd.fst g.snd.snd.snd.snd.snd) pa_M (t,(t.size:Int),(0:Int),(0:Int),(0:Int),false)=loopF pa_RR pa_M (pa_g (0,(t,(t.size:Int)),(0,0,false))):=rfl;rw[hq];generalize loopF pa_RR pa_M (pa_g (0,(t,(t.size:Int)),(0,0,false)))=q at hf;cases hb:numOk (bts s)with
 |true=>
  rw[hb]at hf;obtain⟨f1,f2⟩:=hf;rw[f1,f2];refine⟨⟨hJ,λ_=>?_⟩,rfl⟩;cases decide ((bts s).head?=some 45)<;>exact wrap_i64 _
 |false=>
  rw[hb]at hf;obtain⟨f1,f2⟩:=hf;rw[f1,f2];exact⟨⟨hJ,λh=>(by cases h)⟩,rfl⟩
theorem paA_ok:FnPure Tryd.prog 91 aB dIBo q07 (λs=>[s.size<=KB]):=
 q0d (paA_okS _ λr _ hp=>(paA_eq r (hp _ (List.mem_cons_self ..))).1) λr _ hp=>(paA_eq r (hp _ (List.mem_cons_self ..))).2
theorem cutS45(s:BA):∀t,t=(bif decide ((↑(ByteArray.size s):Int)>(0:Int))&&(↑(ByteArray.get! s (0:Nat)).toNat:Int)==(45:Int)then ByteArray.extract s (1:Nat) (ByteArray.size s)else s)->bts t=tailL (bts s):=by
 rintro t rfl;rw[q2y];have hl:=q06 s;unfold tailL;cases h:bts s with
 |nil=>
  have h0:s.size=0:=by rw[<-hl,h];rfl
  rw[h0];show bts (bif false&&_ then _ else s)=_;rw[Bool.false_and,cond_false,h];rfl
 |cons c l=>
  have h0:s.size=l.length+1:=by rw[<-hl,h];rfl
  rw[h0,decide_eq_true (by omega),Bool.true_and];show bts (bif c==45 then _ else s)=_;simp only[List.head?_cons,Option.some.injEq];by_cases hc:c=45
  .subst hc;show bts (s.extract 1 (l.length+1))=_;rw[q8t,h,if_pos rfl,List.take_of_length_le (by simp)]
  .rw[beq_eq_false_iff_ne.2 hc,cond_false,if_neg hc,h]
theorem paB_eq(s:BA)(hs:s.size<=KB):paB_side s/\paB_F s=q07 s:=by
 unfold paB_side paB_F q07 q5o;have hcut:=cutS45 s;have hl:=tailL_len (bts s);rw[q06]at hl;have hd:decide ((↑(ByteArray.size s):Int)>(0:Int))=true->(0:Int)<=(0:Int)/\(0:Int)<(↑(ByteArray.size s):Int):=λh=>⟨Int.le_refl _,of_decide_eq_true h⟩
 have hd2:(decide ((↑(ByteArray.size s):Int)>(0:Int))&&(↑(ByteArray.get! s (0:Nat)).toNat:Int)==(45:Int))=true->(0:Int)<=(1:Int)/\(1:Int)<=(↑(ByteArray.size s):Int):=λh=>by
  rw[Bool.and_eq_true]at h;have:=of_decide_eq_true h.1;omega
 generalize (bif decide ((↑(ByteArray.size s):Int)>(0:Int))&&(↑(ByteArray.get! s (0:Nat)).toNat:Int)==(45:Int)then ByteArray.extract s (1:Nat) (ByteArray.size s)else s)=t at hcut ⊢;have h2:=hcut t rfl;have hsz:t.size=(tailL (bts s)).length:=by rw[<-q06,h2]
 have hle:t.size<=s.size:=by omega
 have hq:loopF (λg=>pn_R g.fst g.snd.fst g.snd.snd.fst g.snd.snd.snd.fst g.snd.snd.snd.snd) pn_M (t,(0:Int),(0:Int),(0:Int),false)=loopF pn_RR pn_M (pn_g (0,t,(0,0,false))):=rfl;rw[hq];have hN:=numOk_eq (bts s);rw[Nat.zero_add,<-hsz]at hN;by_cases h19:(t.size:Int)>19
 .rw[decide_eq_true h19];rw[decide_eq_false (by omega),Bool.false_and]at hN;rw[hN];exact⟨⟨hd,λ_=>Nat.le_refl _,hd2,λh=>(by cases h)⟩,rfl⟩
 .rw[decide_eq_false h19];rw[decide_eq_true (by omega),Bool.true_and]at hN;have hf:=pn_fin t (by omega);rw[h2,<-hN]at hf;have hJ:Lp.ixJ qaz pn_xs pn_K (pn_f (t,(0:Int),(0:Int),(0:Int),false)):=⟨by show(t.size:Int)=((bts t).length:Int);rw[q06],by show(bts t).length<=maxLen;rw[q06];unfold maxLen;omega,Int.le_refl _,by show(0:Int)<=_;omega,trivial⟩;generalize loopF pn_RR pn_M (pn_g (0,t,(0,0,false)))=q at hf;rw[numV_eq];cases hb:numOk (bts s)with
  |true=>
   rw[hb]at hf;obtain⟨f1,f2,f3⟩:=hf
   have e:decide ((t.size:Int)<(s.size:Int))=decide ((bts s).head?=some 45):=by
    rw[decide_eq_decide,<-hl.2];omega
   rw[f1,f2,f3,e];refine⟨⟨hd,λ_=>Nat.le_refl _,hd2,λ_=>⟨hJ,λ_=>?_⟩⟩,rfl⟩;cases decide ((bts s).head?=some 45)<;>exact wrap_i64 _
  |false=>
   rw[hb]at hf;obtain⟨f1,f2⟩:=hf;rw[f1,f2];exact⟨⟨hd,λ_=>Nat.le_refl _,hd2,λ_=>⟨hJ,λh=>(by cases h)⟩⟩,rfl⟩
theorem paB_ok:FnPure Tryd.prog 34 aB dIBo q07 (λs=>[s.size<=KB]):=
 q0d (paB_okS _ λr _ hp=>(paB_eq r (hp _ (List.mem_cons_self ..))).1) λr _ hp=>(paB_eq r (hp _ (List.mem_cons_self ..))).2
theorem wr32{x:Int}(h:-2147483648<=x/\x<=2147483647):IntKind.i32.wrap x=x:=by
 simp[IntKind.wrap,IntKind.signed,IntKind.bits];omega
theorem toL_strOf(l:List Int):(strOf l).data.toList=l.map λc=>UInt8.ofNat c.toNat:=by
 unfold strOf;simp
theorem rsL_asc:∀{l:List Int},(∀c∈l,0<=c/\c<128)->rsL (l.map λc=>UInt8.ofNat c.toNat)=l.map λc=>(c.toNat,1)
 | [],_=>rfl
 |c::l,h=>by
  have hc:=h c (List.mem_cons_self ..);have hs:sc c.toNat:=.inl (by omega)
  have he:encL c.toNat=[UInt8.ofNat c.toNat]:=by
   rcases qaj hs with ⟨_,e⟩|⟨h1,_⟩|⟨h1,_⟩|⟨h1,_⟩
   .exact e
   all_goals omega
  have:=rsL_enc hs (l.map λc=>UInt8.ofNat c.toNat);rw[he]at this;rw[List.map_cons,List.map_cons,<-rsL_asc λd hd=>h d (List.mem_cons_of_mem _ hd)];rw[show UInt8.ofNat c.toNat::l.map (λc=>UInt8.ofNat c.toNat)=[UInt8.ofNat c.toNat]++l.map λc=>UInt8.ofNat c.toNat from rfl,this];unfold rwd;rw[he];rfl
theorem nu_dig(c:BA):∀(l:List Int)(p k:Nat)(z:Bool)(r u:Int)(g:Bool),(∀d∈l,48<=d/\d<=57)->0<=u->u<10^k->k+l.length<=19->
  scanT 0 true (nu_S c) p (l.map λd=>(d.toNat,1)) (z,r,u,g,(k:Int))=(.exit 0,p+l.length,(z,r,l.foldl (λa c=>10*a+(c-48)) u,g,((k+l.length:Nat):Int)))
 | [],p,k,z,r,u,g,_,_,_,_=>rfl
 |d::l,p,k,z,r,u,g,hd,h0,h1,hk=>by
  rw[List.length_cons]at hk;have hdd:=hd d (List.mem_cons_self ..);have hb:=pow_le18 (i:=k) (by omega);have hp:(10:Int)^(k+1)=10^k*10:=Int.pow_succ ..;have ih:=nu_dig c l (p+1) (k+1) z r (10*u+(d-48)) g (λx hx=>hd x (List.mem_cons_of_mem _ hx)) (by omega) (by omega) (by omega)
  have hs:nu_S c (z,r,u,g,(k:Int)) p (d.toNat,1)=(.normal,(z,r,10*u+(d-48),g,((k+1:Nat):Int))):=by
   unfold nu_S;simp only;rw[show((d.toNat:Nat):Int)=d by omega,beq_eq_false_iff_ne.2 (by omega:d≠45),decide_eq_true (by omega:d>=48),decide_eq_true (by omega:d<=57),decide_eq_true (by omega:(k:Int)<19)];simp only[Bool.false_and,Bool.not_false,Bool.and_self,Bool.not_true,Bool.and_false,cond_false,Bool.false_or];rw[wr32 (by omega),wrU (x:=10*u) (by omega),wrU (x:=d-48) (by omega),wrU (by omega),wr64 (by omega)];rfl
  rw[List.map_cons,scanT,hs];simp only;rw[ih,List.foldl_cons,List.length_cons];rw[show p+1+l.length=p+(l.length+1) by omega,show k+1+l.length=k+(l.length+1) by omega]
theorem nu_ret(c:BA):∀(l:List (Nat×Nat))(p:Nat)(b:nu_B),((scanT 0 true (nu_S c) p l b).1=.ret/\(scanT 0 true (nu_S c) p l b).2.2.1=true/\(scanT 0 true (nu_S c) p l b).2.2.2.1=0)\/((scanT 0 true (nu_S c) p l b).1=.exit 0/\(scanT 0 true (nu_S c) p l b).2.2.1=b.1)
 | [],p,b=>.inr ⟨rfl,rfl⟩
 |d::l,p,b=>by
  have ih:=nu_ret c l (p+d.2);rw[scanT]
  have hs:(nu_S c b p d).1=.normal/\(nu_S c b p d).2.1=b.1\/nu_S c b p d=(.ret,(true,0,b.2.2)):=by
   unfold nu_S;generalize (!(((d.1:Nat):Int)==(45:Int)&&((p:Nat):Int)==(0:Int))&&!(decide (((d.1:Nat):Int)>=(48:Int))&&(decide (((d.1:Nat):Int)<=(57:Int))&&decide (b.2.2.2.2<(19:Int)))))=x;cases x
   .exact .inl ⟨rfl,rfl⟩
   .exact .inr rfl
  rcases hs with ⟨h1,h2⟩|h
  .generalize nu_S c b p d=x at h1 h2;obtain⟨e,b'⟩:=x;have h1:e=.normal:=h1;subst h1;rcases ih b' with h|⟨h,h'⟩
   .exact .inl h
   .exact .inr ⟨h,h'.trans h2⟩
  .rw[h];exact .inl ⟨rfl,rfl,rfl⟩
def numR(z:Bool)(s:BA):Bool×Int:=bif (q07 s).2 then(z,(q07 s).1)else(true,0)
theorem nu_run(s:BA)(z:Bool):loopF nu_RR nu_M (nu_mk 0 s (z,0,0,false,0))=((scanT 0 true (nu_S s) 0 (rsL s.data.toList) (z,0,0,false,0)).1,nu_mk (scanT 0 true (nu_S s) 0 (rsL s.data.toList) (z,0,0,false,0)).2.1 s (scanT 0 true (nu_S s) 0 (rsL s.data.toList) (z,0,0,false,0)).2.2):=by
 have:=tx_run (x:=0) (adv:=true) (tx:=λc:BA=>c) (m:=nu_M) (λ_ _ _=>rfl) (λp c b _ _=>nu_RF p c b) nu_K s.size 0 s (z,0,0,false,0) (Nat.zero_le _) trivial (by omega)
 rwa [List.drop_zero]at this
theorem nu_num{n:Int}(h:i64 n)(z:Bool):∃p,scanT 0 true (nu_S (numS n)) 0 (rsL (numS n).data.toList) (z,0,0,false,0)=(.exit 0,p,(z,0,absI n,decide (n<0),((dgt 20 (absI n)).length:Int))):=by
 obtain⟨hb1,hb2⟩:=abs_b h;have hl1:=q8r 20 19 (absI n) hb1 (by rw[p10_19];omega) (by decide);have hdd:=q57 20 (absI n) hb1
 have hv:dval (dgt 20 (absI n))=absI n:=dval_dgt 20 _ hb1 (by have:(10:Int)^20=100000000000000000000:=by decide
                                                              omega)
 have ha:∀c∈numL n,0<=c/\c<128:=λc hc=>by rcases qac h c hc with h|h<;>omega
 have hr:rsL (numS n).data.toList=(numL n).map λc=>(c.toNat,1):=by
  unfold numS;rw[toL_strOf,rsL_asc ha]
 rw[hr];have e:numL n=(if n<0 then [45]else [])++dgt 20 (absI n):=rfl;rw[e];by_cases hn:n<0
 .rw[if_pos hn,decide_eq_true hn];have hd:=nu_dig (numS n) (dgt 20 (absI n)) 1 0 z 0 0 true hdd (Int.le_refl _) (by decide) (by omega);refine⟨1+(dgt 20 (absI n)).length,?_⟩;rw[Nat.zero_add]at hd;have hv:(dgt 20 (absI n)).foldl (λa c=>10*a+(c-48)) 0=absI n:=hv;rw[hv]at hd;exact hd
 .rw[if_neg hn,decide_eq_false hn,List.nil_append];have hd:=nu_dig (numS n) (dgt 20 (absI n)) 0 0 z 0 0 false hdd (Int.le_refl _) (by decide) (by omega);refine⟨0+(dgt 20 (absI n)).length,?_⟩;rw[Nat.zero_add (dgt 20 (absI n)).length]at hd ⊢;have hv:(dgt 20 (absI n)).foldl (λa c=>10*a+(c-48)) 0=absI n:=hv;rw[hv]at hd;exact hd
theorem abs_back{n:Int}(h:i64 n):(bif decide (n<0)then IntKind.i64.wrap ((0:Int)-IntKind.i64.wrap (absI n))else IntKind.i64.wrap (absI n))=n:=by
 unfold i64 at h;unfold absI;by_cases hn:n<0
 .rw[decide_eq_true hn,if_pos hn,cond_true];by_cases hm:n=-9223372036854775808
  .subst hm;decide
  .rw[wr64 (x:=-n) (by omega),wr64 (by omega)];omega
 .rw[decide_eq_false hn,if_neg hn,cond_false,wr64 (by omega)]
theorem rnu_eq(z:Bool)(s:BA):qbt z s/\rnu_F z s=numR z s:=by
 have hq:q4a z s=_:=nu_run s z;unfold qbt rnu_F;rw[hq];have hr:=nu_ret s (rsL s.data.toList) 0 (z,0,0,false,0)
 have hn:(q07 s).2=true->∃p,scanT 0 true (nu_S s) 0 (rsL s.data.toList) (z,0,0,false,0)=(.exit 0,p,(z,0,absI (q07 s).1,decide ((q07 s).1<0),((dgt 20 (absI (q07 s).1)).length:Int))):=λh=>by
  have:=nu_num (q5n s) z
  rwa [q5m h]at this
 generalize scanT 0 true (nu_S s) 0 (rsL s.data.toList) (z,0,0,false,0)=S at hr hn;refine⟨⟨⟨0,s,(z,0,0,false,0),rfl,Nat.zero_le _,trivial⟩,λ_ _=>?_⟩,?_⟩
 .show i64 (bif S.2.2.2.2.2.1 then IntKind.i64.wrap ((0:Int)-IntKind.i64.wrap S.2.2.2.2.1)else IntKind.i64.wrap S.2.2.2.2.1);cases S.2.2.2.2.2.1<;>exact wrap_i64 _
 show(bif exB Ex.ret S.1 then(S.2.2.1,S.2.2.2.1)else bif S.2.2.2.2.2.2==(0:Int)||!decide (numS (bif S.2.2.2.2.2.1 then IntKind.i64.wrap ((0:Int)-IntKind.i64.wrap S.2.2.2.2.1)else IntKind.i64.wrap S.2.2.2.2.1)=s)then(true,(0:Int))else(S.2.2.1,bif S.2.2.2.2.2.1 then IntKind.i64.wrap ((0:Int)-IntKind.i64.wrap S.2.2.2.2.1)else IntKind.i64.wrap S.2.2.2.2.1))=_;unfold numR;cases hp:(q07 s).2 with
 |true=>
  obtain⟨p,e⟩:=hn hp;subst e;have hl:1<=(dgt 20 (absI (q07 s).1)).length:=dgt_pos 19 _;have h0:(((dgt 20 (absI (q07 s).1)).length:Int)==(0:Int))=false:=by rw[beq_eq_false_iff_ne];omega
  simp only[abs_back (q5n s),h0,q5m hp,decide_true,Bool.not_true,Bool.or_self,cond_true];rfl
 |false=>
  have hx:i64 (bif S.2.2.2.2.2.1 then IntKind.i64.wrap ((0:Int)-IntKind.i64.wrap S.2.2.2.2.1)else IntKind.i64.wrap S.2.2.2.2.1):=by
   cases S.2.2.2.2.2.1<;>exact wrap_i64 _
  generalize (bif S.2.2.2.2.2.1 then IntKind.i64.wrap ((0:Int)-IntKind.i64.wrap S.2.2.2.2.1)else IntKind.i64.wrap S.2.2.2.2.1)=x at hx;rcases hr with ⟨h1,h2,h3⟩|⟨h1,h2⟩
  .rw[h1,h2,h3];rfl
  .rw[h1]
   have hne:numS x≠s:=by
    rintro rfl;rw[q0t hx]at hp;cases hp
   rw[decide_eq_false hne];simp only[Bool.not_false,Bool.or_true,cond_true,cond_false];rfl
theorem rnu_c:FnT Tryd.prog 54 taR aB (TR.pure dI) (λz s=>numR z s) (λ_ _=>[]):=
 q5g (rnu_okS (λ_ _=>[]) λz s _ _=>(rnu_eq z s).1) (λ_ _ h=>h) λz s _ _=>(rnu_eq z s).2
def tabN17p:PTab Tryd.prog:=((tabN15.cons 33 (pconR aB8' dLS (λg=>splS g.2 g.1) (λg=>[g.1.size<=KS])) (q7k spf_ok)).cons 91 (pconP aB dIBo q07 (λs=>[s.size<=KB])) (q0o paA_ok puIBo)).cons 34 (pconP aB dIBo q07 (λs=>[s.size<=KB])) (q0o paB_ok puIBo)
def q8z:MTab Tryd.prog:=(MTab.of tabN17p).consM 54 (bconT taR aB (TR.pure dI) (λz s=>numR z s) (λ_ _=>[])) (q48 rnu_c)
open Go.RowKit Go.Sx
abbrev aBI':DA (ByteArray×Int):=.cons dStr (.one dI)
def rnm_F(z:Bool)(s:BA):TA.T taR×TR.T (TR.pure dI):=
 numR z s
def rnm_side(z:Bool)(s:BA):Prop:=
 True
theorem rnm_okS(pre:TA.T taR->DA.T aB->List Prop)(h:∀k g,DA.bd aB g->(∀p∈pre k g,p)->rnm_side k g):FnT Tryd.prog 52 taR aB (TR.pure dI) (λk g=>rnm_F k g) pre:=q2q (Γ:=(MTab.gamz q8z [] [])) (Λ:=q9p) (MTab.okz q8z [] []) q4e 100 default (λk g=>rnm_side k g) (λk g=>by kernel_rfl) (λk g=>by kernel_rfl) h
def rpc_F(z:Bool)(s:BA)(n:Int):TA.T taR×TR.T (TR.ct (CT.fz 9 eStr) rfl):=
 bif (↑(q1l (s,ByteArray.mk #[(59:UInt8)])).length:Int)!=n then(true,eStr.lst n.toNat (zeroEl (Value.string (ByteArray.mk #[]))))
 else(z,eStr.ag (q1l (s,ByteArray.mk #[(59:UInt8)])))
def qbr(z:Bool)(s:BA)(n:Int):Prop:=
 ByteArray.size s<=KS/\(1:Nat)<=(1:Nat)/\(((↑(q1l (s,ByteArray.mk #[(59:UInt8)])).length:Int)!=n)=true->((0:Int)<=n/\n<=n/\n<=(9223372036854775807:Int)/\(16:Int)*n<=(140737488355328:Int))/\n.toNat<=n.toNat/\∀(e:Nat),e<n.toNat->True)/\(((↑(q1l (s,ByteArray.mk #[(59:UInt8)])).length:Int)!=n)=false->eStr.okL (q1l (s,ByteArray.mk #[(59:UInt8)])))
theorem rpc_okS(pre:TA.T taR->DA.T aBI'->List Prop)(h:∀k g,DA.bd aBI' g->(∀p∈pre k g,p)->qbr k g.1 g.2):FnT Tryd.prog 60 taR aBI' (TR.ct (CT.fz 9 eStr) rfl) (λk g=>rpc_F k g.1 g.2) pre:=q2q (Γ:=(MTab.gamz q8z [] [])) (Λ:=q9p) (MTab.okz q8z [] []) q4e 100 default (λk g=>qbr k g.1 g.2) (λk g=>by kernel_rfl) (λk g=>by kernel_rfl) h
abbrev rt_G:Type:=Unit×Bool×BA×List Int×BA
def rt_LP:LP 1 rt_G:=.pair (.fix 1 0 (.p 0 0)) (.pair (.obj 1 0 75 eBool) (.pair (.slot 1 6 dStr) (.pair (.row 1 5 5 e8u) (.slot 1 4 dStr))))
def rt_R(_u:Unit)(z:Bool)(s:BA)(b:List Int)(e:BA):Ex×rt_G:=
 bif !decide (s=ByteArray.mk #[])then bif !(↑(ByteArray.get! s (0:Nat)).toNat:Int)!=(37:Int)&&decide ((↑(ByteArray.size s):Int)<(3:Int))then(Ex.ret,(),true,s,e8u.ag b,ByteArray.mk #[])else bif !(↑(ByteArray.get! s (0:Nat)).toNat:Int)!=(37:Int)&&(decide (Lib.indexByte #[(48:UInt8),(49:UInt8),(50:UInt8),(51:UInt8),(52:UInt8),(53:UInt8),(54:UInt8),(55:UInt8),(56:UInt8),(57:UInt8),(97:UInt8),(98:UInt8),(99:UInt8),(100:UInt8),(101:UInt8),(102:UInt8)].toList (↑(ByteArray.get! s (1:Nat)).toNat:Int).toNat.toUInt8<(0:Int))||decide (Lib.indexByte #[(48:UInt8),(49:UInt8),(50:UInt8),(51:UInt8),(52:UInt8),(53:UInt8),(54:UInt8),(55:UInt8),(56:UInt8),(57:UInt8),(97:UInt8),(98:UInt8),(99:UInt8),(100:UInt8),(101:UInt8),(102:UInt8)].toList (↑(ByteArray.get! s (2:Nat)).toNat:Int).toNat.toUInt8<(0:Int)))then(Ex.ret,(),true,s,e8u.ag b,ByteArray.mk #[])else(Ex.normal,(),z,bif (↑(ByteArray.get! s (0:Nat)).toNat:Int)!=(37:Int)then ByteArray.extract s (1:Nat) (ByteArray.size s)else ByteArray.extract s (3:Nat) (ByteArray.size s),bif (↑(ByteArray.get! s (0:Nat)).toNat:Int)!=(37:Int)then e8u.lst (min (bif (↑(ByteArray.get! s (0:Nat)).toNat:Int)!=(37:Int)then b.length+(1:Nat)else b.length+(1:Nat)) b.length) (e8u.els b)++List.map (λx=>(↑(ByteArray.get! s (0:Nat)).toNat:Int)) (List.range ((bif (↑(ByteArray.get! s (0:Nat)).toNat:Int)!=(37:Int)then b.length+(1:Nat)else b.length+(1:Nat))-b.length))else e8u.lst (min (bif (↑(ByteArray.get! s (0:Nat)).toNat:Int)!=(37:Int)then b.length+(1:Nat)else b.length+(1:Nat)) b.length) (e8u.els b)++List.map (λx=>IntKind.u8.wrap (iOr IntKind.i64 (iShl IntKind.i64 (Lib.indexByte #[(48:UInt8),(49:UInt8),(50:UInt8),(51:UInt8),(52:UInt8),(53:UInt8),(54:UInt8),(55:UInt8),(56:UInt8),(57:UInt8),(97:UInt8),(98:UInt8),(99:UInt8),(100:UInt8),(101:UInt8),(102:UInt8)].toList (↑(ByteArray.get! s (1:Nat)).toNat:Int).toNat.toUInt8) (4:Int)) (Lib.indexByte #[(48:UInt8),(49:UInt8),(50:UInt8),(51:UInt8),(52:UInt8),(53:UInt8),(54:UInt8),(55:UInt8),(56:UInt8),(57:UInt8),(97:UInt8),(98:UInt8),(99:UInt8),(100:UInt8),(101:UInt8),(102:UInt8)].toList (↑(ByteArray.get! s (2:Nat)).toNat:Int).toNat.toUInt8))) (List.range ((bif (↑(ByteArray.get! s (0:Nat)).toNat:Int)!=(37:Int)then b.length+(1:Nat)else b.length+(1:Nat))-b.length)),e)
 else(Ex.exit (0:Nat),(),z,s,e8u.ag b,e)
def rt_side(_u:Unit)(z:Bool)(s:BA)(b:List Int)(e:BA):Prop:=
 ((!decide (s=ByteArray.mk #[]))=true->((0:Int)<=(0:Int)/\(0:Int)<(↑(ByteArray.size s):Int))/\(((↑(ByteArray.get! s (0:Nat)).toNat:Int)!=(37:Int))=true->(0:Int)<=(0:Int)/\(0:Int)<(↑(ByteArray.size s):Int))/\(((↑(ByteArray.get! s (0:Nat)).toNat:Int)!=(37:Int))=true->b.length<=b.length/\True/\b.length+(1:Nat)<=maxLen/\(b.length+(1:Nat))*Tryd.prog.types[(5:Nat)].bytes<=(140737488355328:Nat))/\(((↑(ByteArray.get! s (0:Nat)).toNat:Int)!=(37:Int))=true->ByteArray.size s<=ByteArray.size s)/\(((↑(ByteArray.get! s (0:Nat)).toNat:Int)!=(37:Int))=true->(0:Int)<=(1:Int)/\(1:Int)<=(↑(ByteArray.size s):Int))/\((!(↑(ByteArray.get! s (0:Nat)).toNat:Int)!=(37:Int)&&decide ((↑(ByteArray.size s):Int)<(3:Int)))=true->b.length<=b.length/\∀(e:Nat),e<b.length->True)/\((!(↑(ByteArray.get! s (0:Nat)).toNat:Int)!=(37:Int)&&decide ((↑(ByteArray.size s):Int)<(3:Int)))=false->((!(↑(ByteArray.get! s (0:Nat)).toNat:Int)!=(37:Int))=true->(0:Int)<=(1:Int)/\(1:Int)<(↑(ByteArray.size s):Int))/\((!(↑(ByteArray.get! s (0:Nat)).toNat:Int)!=(37:Int))=true->(0:Int)<=(2:Int)/\(2:Int)<(↑(ByteArray.size s):Int))/\((!(↑(ByteArray.get! s (0:Nat)).toNat:Int)!=(37:Int)&&(decide (Lib.indexByte #[(48:UInt8),(49:UInt8),(50:UInt8),(51:UInt8),(52:UInt8),(53:UInt8),(54:UInt8),(55:UInt8),(56:UInt8),(57:UInt8),(97:UInt8),(98:UInt8),(99:UInt8),(100:UInt8),(101:UInt8),(102:UInt8)].toList (↑(ByteArray.get! s (1:Nat)).toNat:Int).toNat.toUInt8<(0:Int))||decide (Lib.indexByte #[(48:UInt8),(49:UInt8),(50:UInt8),(51:UInt8),(52:UInt8),(53:UInt8),(54:UInt8),(55:UInt8),(56:UInt8),(57:UInt8),(97:UInt8),(98:UInt8),(99:UInt8),(100:UInt8),(101:UInt8),(102:UInt8)].toList (↑(ByteArray.get! s (2:Nat)).toNat:Int).toNat.toUInt8<(0:Int))))=true->b.length<=b.length/\∀(e:Nat),e<b.length->True)/\((!(↑(ByteArray.get! s (0:Nat)).toNat:Int)!=(37:Int)&&(decide (Lib.indexByte #[(48:UInt8),(49:UInt8),(50:UInt8),(51:UInt8),(52:UInt8),(53:UInt8),(54:UInt8),(55:UInt8),(56:UInt8),(57:UInt8),(97:UInt8),(98:UInt8),(99:UInt8),(100:UInt8),(101:UInt8),(102:UInt8)].toList (↑(ByteArray.get! s (1:Nat)).toNat:Int).toNat.toUInt8<(0:Int))||decide (Lib.indexByte #[(48:UInt8),(49:UInt8),(50:UInt8),(51:UInt8),(52:UInt8),(53:UInt8),(54:UInt8),(55:UInt8),(56:UInt8),(57:UInt8),(97:UInt8),(98:UInt8),(99:UInt8),(100:UInt8),(101:UInt8),(102:UInt8)].toList (↑(ByteArray.get! s (2:Nat)).toNat:Int).toNat.toUInt8<(0:Int))))=false->((!(↑(ByteArray.get! s (0:Nat)).toNat:Int)!=(37:Int))=true->b.length<=b.length/\True/\b.length+(1:Nat)<=maxLen/\(b.length+(1:Nat))*Tryd.prog.types[(5:Nat)].bytes<=(140737488355328:Nat))/\((!(↑(ByteArray.get! s (0:Nat)).toNat:Int)!=(37:Int))=true->ByteArray.size s<=ByteArray.size s)/\((!(↑(ByteArray.get! s (0:Nat)).toNat:Int)!=(37:Int))=true->(0:Int)<=(3:Int)/\(3:Int)<=(↑(ByteArray.size s):Int))/\((bif (↑(ByteArray.get! s (0:Nat)).toNat:Int)!=(37:Int)then b.length+(1:Nat)else b.length+(1:Nat))<=bif (↑(ByteArray.get! s (0:Nat)).toNat:Int)!=(37:Int)then b.length+(1:Nat)else b.length+(1:Nat))/\(∀(e:Nat),e<min (bif (↑(ByteArray.get! s (0:Nat)).toNat:Int)!=(37:Int)then b.length+(1:Nat)else b.length+(1:Nat)) b.length->True)/\(∀(e:Nat),e<(bif (↑(ByteArray.get! s (0:Nat)).toNat:Int)!=(37:Int)then b.length+(1:Nat)else b.length+(1:Nat))-b.length->True)/\(∀(e:Nat),e<min (bif (↑(ByteArray.get! s (0:Nat)).toNat:Int)!=(37:Int)then b.length+(1:Nat)else b.length+(1:Nat)) b.length->True)/\∀(e:Nat),e<(bif (↑(ByteArray.get! s (0:Nat)).toNat:Int)!=(37:Int)then b.length+(1:Nat)else b.length+(1:Nat))-b.length->True)))/\((!decide (s=ByteArray.mk #[]))=false->b.length<=b.length/\∀(e:Nat),e<b.length->True)
theorem rt_one:((q00 Tryd.prog 62).filter λc=>Nat.beq (lkey c) 5).length=1:=by kernel_rfl
abbrev rt_rr(g:rt_G):Ex×rt_G:=rt_R g.1 g.2.1 g.2.2.1 g.2.2.2.1 g.2.2.2.2
abbrev rt_ss(g:rt_G):Prop:=rt_side g.1 g.2.1 g.2.2.1 g.2.2.2.1 g.2.2.2.2
theorem rt_es(g:rt_G):(rt_rr g).1=.normal\/(rt_rr g).1∈([.ret,.exit 0]:List Ex):=by
 unfold rt_rr rt_R
 repeat' (first|(left;rfl)|(right;simp only[cond_true,cond_false];simp;done)|(rw[Bool.cond_eq_ite];split))
abbrev rt_C(Inv:rt_G->List Prop)(m:rt_G->Nat):LCon:=loopR [.ret,.exit 0] (loopBody Tryd.prog 62 5) rt_LP [] 65 Inv rt_rr m
theorem rt_loop(Inv:rt_G->List Prop)(m:rt_G->Nat)(hs:∀g,allP (Inv g)->rt_ss g)(hg:Goes rt_rr m λg=>allP (Inv g)):∀b∈q00 Tryd.prog 62,lkey b=5->q04 Tryd.prog b (rt_C Inv m).g:=q0h (Γ:=(MTab.gamz q8z [] [])) (Λ:=q9p) (MTab.okz q8z [] []) q4e 100 62 5 65 rt_LP [] Inv rt_rr rt_ss m default [.ret,.exit 0] rt_one (λrd T B HL HB ds g=>by kernel_rfl) (λrd T B HL HB ds g=>by kernel_rfl) hs hg rt_es
abbrev ru_G:Type:=BA×Int×List Int×BA×Bool
def ru_LP:LP 0 ru_G:=.pair (.slot 0 0 dStr) (.pair (.slot 0 5 dI) (.pair (.row 0 4 5 e8u) (.pair (.slot 0 2 dStr) (.slot 0 3 dBool))))
def ru_R(s:BA)(i:Int)(b:List Int)(e:BA)(o:Bool):Ex×ru_G:=
 bif decide (i<(↑(ByteArray.size s):Int))then bif !(↑(ByteArray.get! s i.toNat).toNat:Int)!=(37:Int)&&(decide (IntKind.i64.wrap (i+(2:Int))>=(↑(ByteArray.size s):Int))||(decide (Lp.hexV (↑(ByteArray.get! s (IntKind.i64.wrap (i+(1:Int))).toNat).toNat:Int)<(0:Int))||decide (Lp.hexV (↑(ByteArray.get! s (IntKind.i64.wrap (i+(2:Int))).toNat).toNat:Int)<(0:Int))))then(Ex.ret,s,i,e8u.ag b,ByteArray.mk #[],false)else(Ex.normal,s,IntKind.i64.wrap ((bif (↑(ByteArray.get! s i.toNat).toNat:Int)!=(37:Int)then i else IntKind.i64.wrap (i+(2:Int)))+(1:Int)),bif (↑(ByteArray.get! s i.toNat).toNat:Int)!=(37:Int)then e8u.lst (min (bif (↑(ByteArray.get! s i.toNat).toNat:Int)!=(37:Int)then b.length+(1:Nat)else b.length+(1:Nat)) b.length) (e8u.els b)++List.map (λx=>(↑(ByteArray.get! s i.toNat).toNat:Int)) (List.range ((bif (↑(ByteArray.get! s i.toNat).toNat:Int)!=(37:Int)then b.length+(1:Nat)else b.length+(1:Nat))-b.length))else e8u.lst (min (bif (↑(ByteArray.get! s i.toNat).toNat:Int)!=(37:Int)then b.length+(1:Nat)else b.length+(1:Nat)) b.length) (e8u.els b)++List.map (λx=>IntKind.u8.wrap (IntKind.i64.wrap (IntKind.i64.wrap ((16:Int)*Lp.hexV (↑(ByteArray.get! s (IntKind.i64.wrap (i+(1:Int))).toNat).toNat:Int))+Lp.hexV (↑(ByteArray.get! s (IntKind.i64.wrap (i+(2:Int))).toNat).toNat:Int)))) (List.range ((bif (↑(ByteArray.get! s i.toNat).toNat:Int)!=(37:Int)then b.length+(1:Nat)else b.length+(1:Nat))-b.length)),e,o)
 else(Ex.exit (0:Nat),s,i,e8u.ag b,e,o)
def ru_side(s:BA)(i:Int)(b:List Int)(e:BA)(o:Bool):Prop:=
 (decide (i<(↑(ByteArray.size s):Int))=true->((0:Int)<=i/\i<(↑(ByteArray.size s):Int))/\(((↑(ByteArray.get! s i.toNat).toNat:Int)!=(37:Int))=true->(0:Int)<=i/\i<(↑(ByteArray.size s):Int))/\(((↑(ByteArray.get! s i.toNat).toNat:Int)!=(37:Int))=true->b.length<=b.length/\True/\b.length+(1:Nat)<=maxLen/\(b.length+(1:Nat))*Tryd.prog.types[(5:Nat)].bytes<=(140737488355328:Nat))/\((!(↑(ByteArray.get! s i.toNat).toNat:Int)!=(37:Int))=true->(!decide (IntKind.i64.wrap (i+(2:Int))>=(↑(ByteArray.size s):Int)))=true->(0:Int)<=IntKind.i64.wrap (i+(1:Int))/\IntKind.i64.wrap (i+(1:Int))<(↑(ByteArray.size s):Int))/\((!(↑(ByteArray.get! s i.toNat).toNat:Int)!=(37:Int))=true->(!decide (IntKind.i64.wrap (i+(2:Int))>=(↑(ByteArray.size s):Int)))=true->(0:Int)<=(↑(ByteArray.get! s (IntKind.i64.wrap (i+(1:Int))).toNat).toNat:Int)/\(↑(ByteArray.get! s (IntKind.i64.wrap (i+(1:Int))).toNat).toNat:Int)<=(255:Int))/\((!(↑(ByteArray.get! s i.toNat).toNat:Int)!=(37:Int))=true->(!decide (IntKind.i64.wrap (i+(2:Int))>=(↑(ByteArray.size s):Int)))=true->(!decide (Lp.hexV (↑(ByteArray.get! s (IntKind.i64.wrap (i+(1:Int))).toNat).toNat:Int)<(0:Int)))=true->(0:Int)<=IntKind.i64.wrap (i+(2:Int))/\IntKind.i64.wrap (i+(2:Int))<(↑(ByteArray.size s):Int))/\((!(↑(ByteArray.get! s i.toNat).toNat:Int)!=(37:Int))=true->(!decide (IntKind.i64.wrap (i+(2:Int))>=(↑(ByteArray.size s):Int)))=true->(!decide (Lp.hexV (↑(ByteArray.get! s (IntKind.i64.wrap (i+(1:Int))).toNat).toNat:Int)<(0:Int)))=true->(0:Int)<=(↑(ByteArray.get! s (IntKind.i64.wrap (i+(2:Int))).toNat).toNat:Int)/\(↑(ByteArray.get! s (IntKind.i64.wrap (i+(2:Int))).toNat).toNat:Int)<=(255:Int))/\((!(↑(ByteArray.get! s i.toNat).toNat:Int)!=(37:Int)&&(decide (IntKind.i64.wrap (i+(2:Int))>=(↑(ByteArray.size s):Int))||(decide (Lp.hexV (↑(ByteArray.get! s (IntKind.i64.wrap (i+(1:Int))).toNat).toNat:Int)<(0:Int))||decide (Lp.hexV (↑(ByteArray.get! s (IntKind.i64.wrap (i+(2:Int))).toNat).toNat:Int)<(0:Int)))))=true->b.length<=b.length/\∀(e:Nat),e<b.length->True)/\((!(↑(ByteArray.get! s i.toNat).toNat:Int)!=(37:Int)&&(decide (IntKind.i64.wrap (i+(2:Int))>=(↑(ByteArray.size s):Int))||(decide (Lp.hexV (↑(ByteArray.get! s (IntKind.i64.wrap (i+(1:Int))).toNat).toNat:Int)<(0:Int))||decide (Lp.hexV (↑(ByteArray.get! s (IntKind.i64.wrap (i+(2:Int))).toNat).toNat:Int)<(0:Int)))))=false->((!(↑(ByteArray.get! s i.toNat).toNat:Int)!=(37:Int))=true->(0:Int)<=IntKind.i64.wrap (i+(1:Int))/\IntKind.i64.wrap (i+(1:Int))<(↑(ByteArray.size s):Int))/\((!(↑(ByteArray.get! s i.toNat).toNat:Int)!=(37:Int))=true->(0:Int)<=(↑(ByteArray.get! s (IntKind.i64.wrap (i+(1:Int))).toNat).toNat:Int)/\(↑(ByteArray.get! s (IntKind.i64.wrap (i+(1:Int))).toNat).toNat:Int)<=(255:Int))/\((!(↑(ByteArray.get! s i.toNat).toNat:Int)!=(37:Int))=true->(0:Int)<=IntKind.i64.wrap (i+(2:Int))/\IntKind.i64.wrap (i+(2:Int))<(↑(ByteArray.size s):Int))/\((!(↑(ByteArray.get! s i.toNat).toNat:Int)!=(37:Int))=true->(0:Int)<=(↑(ByteArray.get! s (IntKind.i64.wrap (i+(2:Int))).toNat).toNat:Int)/\(↑(ByteArray.get! s (IntKind.i64.wrap (i+(2:Int))).toNat).toNat:Int)<=(255:Int))/\((!(↑(ByteArray.get! s i.toNat).toNat:Int)!=(37:Int))=true->b.length<=b.length/\True/\b.length+(1:Nat)<=maxLen/\(b.length+(1:Nat))*Tryd.prog.types[(5:Nat)].bytes<=(140737488355328:Nat))/\((bif (↑(ByteArray.get! s i.toNat).toNat:Int)!=(37:Int)then b.length+(1:Nat)else b.length+(1:Nat))<=bif (↑(ByteArray.get! s i.toNat).toNat:Int)!=(37:Int)then b.length+(1:Nat)else b.length+(1:Nat))/\(∀(e:Nat),e<min (bif (↑(ByteArray.get! s i.toNat).toNat:Int)!=(37:Int)then b.length+(1:Nat)else b.length+(1:Nat)) b.length->True)/\(∀(e:Nat),e<(bif (↑(ByteArray.get! s i.toNat).toNat:Int)!=(37:Int)then b.length+(1:Nat)else b.length+(1:Nat))-b.length->True)/\(∀(e:Nat),e<min (bif (↑(ByteArray.get! s i.toNat).toNat:Int)!=(37:Int)then b.length+(1:Nat)else b.length+(1:Nat)) b.length->True)/\∀(e:Nat),e<(bif (↑(ByteArray.get! s i.toNat).toNat:Int)!=(37:Int)then b.length+(1:Nat)else b.length+(1:Nat))-b.length->True))/\(decide (i<(↑(ByteArray.size s):Int))=false->b.length<=b.length/\∀(e:Nat),e<b.length->True)
theorem ru_one:((q00 Tryd.prog 35).filter λc=>Nat.beq (lkey c) 5).length=1:=by kernel_rfl
abbrev ru_rr(g:ru_G):Ex×ru_G:=ru_R g.1 g.2.1 g.2.2.1 g.2.2.2.1 g.2.2.2.2
abbrev ru_ss(g:ru_G):Prop:=ru_side g.1 g.2.1 g.2.2.1 g.2.2.2.1 g.2.2.2.2
theorem ru_es(g:ru_G):(ru_rr g).1=.normal\/(ru_rr g).1∈([.ret,.exit 0]:List Ex):=by
 unfold ru_rr ru_R
 repeat' (first|(left;rfl)|(right;simp only[cond_true,cond_false];simp;done)|(rw[Bool.cond_eq_ite];split))
abbrev ru_C(Inv:ru_G->List Prop)(m:ru_G->Nat):LCon:=loopR [.ret,.exit 0] (loopBody Tryd.prog 35 5) ru_LP [] 70 Inv ru_rr m
theorem ru_loop(Inv:ru_G->List Prop)(m:ru_G->Nat)(hs:∀g,allP (Inv g)->ru_ss g)(hg:Goes ru_rr m λg=>allP (Inv g)):∀b∈q00 Tryd.prog 35,lkey b=5->q04 Tryd.prog b (ru_C Inv m).g:=q0h (Γ:=(MTab.gamz q8z [] [])) (Λ:=q9p) (MTab.okz q8z [] []) q4e 100 35 5 70 ru_LP [] Inv ru_rr ru_ss m default [.ret,.exit 0] ru_one (λrd T B HL HB ds g=>by kernel_rfl) (λrd T B HL HB ds g=>by kernel_rfl) hs hg ru_es
def uStep(l:List Int)(p:Nat):Option (Nat×Int):=
 if l.getD p 0=37 then if p+2>=l.length\/hexV (l.getD (p+1) 0)<0\/hexV (l.getD (p+2) 0)<0 then none else some (3,16*hexV (l.getD (p+1) 0)+hexV (l.getD (p+2) 0))else some (1,l.getD p 0)
theorem q8w{l:List Int}{p k:Nat}{v:Int}(hp:p<l.length)(h:uStep l p=some (k,v)):1<=k/\p+k<=l.length:=by
 unfold uStep at h;split at h
 .split at h
  .cases h
  .cases h;omega
 .cases h;omega
theorem q4r(l:List Int)(p:Nat)(hp:p<l.length)(b:List Int):q0y (l.length-p) (l.drop p) b=match uStep l p with
  |none=>none
  |some (k,v)=>q0y (l.length-(p+k)) (l.drop (p+k)) (b++[v]):=by
 obtain⟨n,hn⟩:∃n,l.length-p=n+1:=⟨l.length-p-1,by omega⟩;rw[hn,List.drop_eq_getElem_cons hp];have e0:l.getD p 0=l[p]:=by rw[List.getD_eq_getElem?_getD,List.getElem?_eq_getElem hp];rfl
 conv=>lhs;unfold q0y
 unfold uStep;rw[e0];by_cases h37:l[p]=37
 .rw[if_pos h37,if_pos h37];by_cases h2:p+2<l.length
  .have h1:p+1<l.length:=by omega
   have e1:l.getD (p+1) 0=l[p+1]:=by rw[List.getD_eq_getElem?_getD,List.getElem?_eq_getElem h1];rfl
   have e2:l.getD (p+2) 0=l[p+2]:=by rw[List.getD_eq_getElem?_getD,List.getElem?_eq_getElem h2];rfl
   rw[List.drop_eq_getElem_cons h1,List.drop_eq_getElem_cons h2,e1,e2];simp only;by_cases hh:hexV l[p+1]<0\/hexV l[p+2]<0
   .rw[if_pos hh,if_pos (.inr hh)]
   .rw[if_neg hh,if_neg (by rintro(h|h);omega;exact hh h)];simp only;refine q65 _ _ _ _ ?_ ?_<;>rw[List.length_drop]<;>omega
  .rw[if_pos (.inl (by omega))];simp only;have hl:(l.drop (p+1)).length<=1:=by rw[List.length_drop];omega
   match hd:l.drop (p+1)with
   | []=>rfl
   | [_]=>rfl
   |_::_::_=>rw[hd]at hl;simp at hl
 .rw[if_neg h37,if_neg h37];simp only;refine q65 _ _ _ _ ?_ ?_<;>rw[List.length_drop]<;>omega
theorem unesc_end(l:List Int)(p:Nat)(hp:l.length<=p)(b:List Int):q0y (l.length-p) (l.drop p) b=some b:=by
 rw[show l.length-p=0 by omega];rfl
theorem or16:∀h<16,∀l<16,IntKind.u8.wrap (iOr .i64 (iShl .i64 ((h:Nat):Int) 4) ((l:Nat):Int))=16*((h:Nat):Int)+((l:Nat):Int):=by decide+kernel
theorem orH{h l:Int}(h1:¬h<0)(h2:h<16)(h3:¬l<0)(h4:l<16):IntKind.u8.wrap (iOr .i64 (iShl .i64 h 4) l)=16*h+l:=by
 obtain⟨a,rfl⟩:∃a:Nat,h=a:=⟨h.toNat,by omega⟩;obtain⟨c,rfl⟩:∃c:Nat,l=c:=⟨l.toNat,by omega⟩;exact or16 a (by omega) c (by omega)
theorem qai(c:Int):hexV c<16:=by rcases hexV_range c with h|h<;>omega
theorem ap1(b:List Int)(v:Int):e8u.lst (min (b.length+1) b.length) (e8u.els b)++List.map (λ_=>v) (List.range (b.length+1-b.length))=b++[v]:=tx_app1 b v
def rt_P(s:BA)(b:List Int):Prop:=b.length+s.size<=KB
abbrev rt_I(g:rt_G):List Prop:=[rt_P g.2.2.1 g.2.2.2.1]
abbrev rt_M(g:rt_G):Nat:=g.2.2.1.size
abbrev rt_RR(g:rt_G):Ex×rt_G:=rt_R g.1 g.2.1 g.2.2.1 g.2.2.2.1 g.2.2.2.2
theorem q7i(s:BA):s=ByteArray.mk #[]↔s.size=0:=by
 constructor
 .rintro rfl;rfl
 .intro h;have e:bts s=[]:=List.eq_nil_of_length_eq_zero (by rw[q06];exact h);exact q8s e
theorem ixb(k:Nat)(s:BA):Lib.indexByte [(48:UInt8),(49:UInt8),(50:UInt8),(51:UInt8),(52:UInt8),(53:UInt8),(54:UInt8),(55:UInt8),(56:UInt8),(57:UInt8),(97:UInt8),(98:UInt8),(99:UInt8),(100:UInt8),(101:UInt8),(102:UInt8)] (((bts s).getD k 0).toNat.toUInt8)=hexV ((bts s).getD k 0):=
 (hexOk (q47 s k)).2
theorem rt_RF(z:Bool)(s:BA)(b:List Int)(e:BA):rt_R () z s b e=if s.size=0 then(.exit 0,(),z,s,b,e)else match uStep (bts s) 0 with
  |none=>(.ret,(),true,s,b,bE)
  |some (k,v)=>(.normal,(),z,s.extract k s.size,b++[v],e):=by
 unfold rt_R uStep;simp only[q2y,El.ag_eq,ixb];by_cases h0:s.size=0
 .rw[if_pos h0,decide_eq_true ((q7i s).2 h0)];rfl
 .rw[if_neg h0,decide_eq_false (λh=>h0 ((q7i s).1 h))];have hl:=q06 s;simp only[Bool.not_false,cond_true,Nat.zero_add,hl];by_cases h37:(bts s).getD 0 0=37
  .rw[h37];simp only[bne_self_eq_false,Bool.not_false,Bool.true_and,cond_false,if_true];by_cases h3:(s.size:Int)<3
   .rw[decide_eq_true h3,if_pos (.inl (by omega))];rfl
   .rw[decide_eq_false h3];simp only[cond_false];have r1:=qai ((bts s).getD 1 0);have r2:=qai ((bts s).getD 2 0);generalize hexV ((bts s).getD 1 0)=x at r1 ⊢;generalize hexV ((bts s).getD 2 0)=y at r2 ⊢;by_cases hx:x<0
    .rw[decide_eq_true hx,if_pos (.inr (.inl hx))];rfl
    .by_cases hy:y<0
     .rw[decide_eq_true hy,if_pos (.inr (.inr hy)),Bool.or_true];rfl
     .rw[decide_eq_false hx,decide_eq_false hy,if_neg (by rintro(h|h|h);omega;exact hx h;exact hy h),orH hx r1 hy r2,ap1];rfl
  .rw[if_neg h37,bne_iff_ne.2 h37];simp only[Bool.not_true,Bool.false_and,cond_false,cond_true];rw[ap1]
theorem rt_step{s:BA}{b:List Int}(h:rt_P s b){k:Nat}{v:Int}(h0:s.size≠0)(hs:uStep (bts s) 0=some (k,v)):rt_P (s.extract k s.size) (b++[v])/\(s.extract k s.size).size<s.size/\bts (s.extract k s.size)=(bts s).drop k:=by
 have:=q8w (by rw[q06];omega) hs;rw[q06]at this;have hsz:(s.extract k s.size).size=s.size-k:=by rw[ByteArray.size_extract];omega
 refine⟨?_,by omega,?_⟩
 .unfold rt_P at h ⊢;rw[hsz,List.length_append];simp only[List.length_cons,List.length_nil];omega
 .rw[q8t,List.take_of_length_le (by rw[q06];exact Nat.le_refl _)]
theorem rt_goes:Goes rt_RR rt_M λg=>allP (rt_I g):=by
 rintro⟨⟨⟩,z,s,b,e⟩ hi hn;have h:rt_P s b:=hi _ (List.mem_cons_self ..);have eq:rt_RR ((),z,s,b,e)=_:=rt_RF z s b e;rw[eq]at hn ⊢;by_cases h0:s.size=0
 .rw[if_pos h0]at hn;cases hn
 .rw[if_neg h0]at hn ⊢;cases hu:uStep (bts s) 0 with
  |none=>rw[hu]at hn;cases hn
  |some x=>
   obtain⟨k,v⟩:=x;obtain⟨h1,h2,_⟩:=rt_step h h0 hu;refine⟨λp hp=>?_,h2⟩;rw[List.mem_singleton.1 hp];exact h1
theorem byt5(h:5<Tryd.prog.types.size):(Tryd.prog.types[(5:Nat)]'h).bytes=1:=by kernel_rfl
theorem rt_ok:∀b∈q00 Tryd.prog 62,lkey b=5->q04 Tryd.prog b (rt_C rt_I rt_M).g:=by
 refine rt_loop rt_I rt_M (λg hi=>?_) rt_goes;obtain⟨⟨⟩,z,s,b,e⟩:=g;have h:rt_P s b:=hi _ (List.mem_cons_self ..);unfold rt_P KB at h;show rt_side () z s b e;unfold rt_side;simp only[El.okL_eq,El.ag_eq,byt5];by_cases h0:s.size=0
 .rw[decide_eq_true ((q7i s).2 h0)];refine⟨λh=>(by cases h),λ_=>?_⟩
  repeat' (first|apply And.intro|intro _)
  all_goals first|trivial|omega
 .rw[decide_eq_false (λh=>h0 ((q7i s).1 h))];generalize ((↑(ByteArray.get! s (0:Nat)).toNat:Int)!=(37:Int))=zz;by_cases h3:(s.size:Int)<3
  .rw[decide_eq_true h3];unfold maxLen;cases zz
   .refine⟨λ_=>⟨⟨by omega,by omega⟩,λh=>(by cases h),λh=>(by cases h),λh=>(by cases h),λh=>(by cases h),?_⟩,λh=>(by cases h)⟩;refine⟨λ_=>⟨by omega,λ_ _=>trivial⟩,λh=>(by cases h)⟩
   .refine⟨λ_=>?_,λh=>(by cases h)⟩;simp only[Bool.not_true,Bool.false_and,Bool.false_eq_true,false_implies,true_and,forall_const]
    repeat' (first|apply And.intro|intro _)
    all_goals first|trivial|omega
  .rw[decide_eq_false h3];unfold maxLen;refine⟨λ_=>?_,λh=>(by cases h)⟩
   repeat' (first|apply And.intro|intro _)
   all_goals first|trivial|omega
theorem rt_run(z:Bool)(s:BA)(b:List Int)(e:BA)(h:rt_P s b):(∃b',q0y s.size (bts s) b=some b'/\(loopF rt_RR rt_M ((),z,s,b,e)).1=.exit 0/\(loopF rt_RR rt_M ((),z,s,b,e)).2.2.1=z/\(loopF rt_RR rt_M ((),z,s,b,e)).2.2.2.2.1=b'/\(loopF rt_RR rt_M ((),z,s,b,e)).2.2.2.2.2=e)\/(q0y s.size (bts s) b=none/\(loopF rt_RR rt_M ((),z,s,b,e)).1=.ret/\(loopF rt_RR rt_M ((),z,s,b,e)).2.2.1=true/\(loopF rt_RR rt_M ((),z,s,b,e)).2.2.2.2.2=bE):=by
 refine q1m rt_goes (Q:=λg r=>(∃b',q0y g.2.2.1.size (bts g.2.2.1) g.2.2.2.1=some b'/\r.1=.exit 0/\r.2.2.1=g.2.1/\r.2.2.2.2.1=b'/\r.2.2.2.2.2=g.2.2.2.2)\/(q0y g.2.2.1.size (bts g.2.2.1) g.2.2.2.1=none/\r.1=.ret/\r.2.2.1=true/\r.2.2.2.2.2=bE)) ?_ ?_ ((),z,s,b,e) (λp hp=>by rw[List.mem_singleton.1 hp];exact h)
 .rintro⟨⟨⟩,z,s,b,e⟩ hi hn;have eq:rt_RR ((),z,s,b,e)=_:=rt_RF z s b e;rw[eq]at hn ⊢;by_cases h0:s.size=0
  .rw[if_pos h0];refine Or.inl ⟨b,?_,rfl,rfl,rfl,rfl⟩;show q0y s.size (bts s) b=some b;rw[h0];rfl
  .rw[if_neg h0]at hn ⊢;have hst:=q4r (bts s) 0 (by rw[q06];omega) b;rw[Nat.sub_zero,List.drop_zero,q06]at hst;cases hu:uStep (bts s) 0 with
   |none=>
    rw[hu]at hst;exact .inr ⟨hst,rfl,rfl,rfl⟩
   |some x=>rw[hu]at hn;exact absurd rfl hn
 .rintro⟨⟨⟩,z,s,b,e⟩ g' r hi he _ _ hq;have h:rt_P s b:=hi _ (List.mem_cons_self ..);have eq:rt_RR ((),z,s,b,e)=_:=rt_RF z s b e;rw[eq]at he;by_cases h0:s.size=0
  .rw[if_pos h0]at he;cases he
  .rw[if_neg h0]at he;have hst:=q4r (bts s) 0 (by rw[q06];omega) b;rw[Nat.sub_zero,List.drop_zero,q06]at hst;cases hu:uStep (bts s) 0 with
   |none=>rw[hu]at he;cases he
   |some x=>
    obtain⟨k,v⟩:=x;rw[hu]at he hst;simp only[Prod.mk.injEq,true_and]at he;subst he;obtain⟨_,_,h3⟩:=rt_step h h0 hu;simp only[Nat.zero_add]at hst;have hk:=q8w (by rw[q06];omega) hu;rw[q06]at hk;have hsz:(s.extract k s.size).size=s.size-k:=by rw[ByteArray.size_extract];omega
    simp only[h3,hsz]at hq;rw[<-hst]at hq;exact hq
def ru_P(s:BA)(i:Int)(b:List Int):Prop:=s.size<=KB/\0<=i/\i<=(s.size:Int)/\(b.length:Int)<=i
abbrev ru_I(g:ru_G):List Prop:=[ru_P g.1 g.2.1 g.2.2.1]
abbrev ru_M(g:ru_G):Nat:=g.1.size-g.2.1.toNat
abbrev ru_RR(g:ru_G):Ex×ru_G:=ru_R g.1 g.2.1 g.2.2.1 g.2.2.2.1 g.2.2.2.2
theorem mulH{h l:Int}(h1:¬h<0)(h2:h<16)(h3:¬l<0)(h4:l<16):IntKind.u8.wrap (IntKind.i64.wrap (IntKind.i64.wrap (16*h)+l))=16*h+l:=by
 rw[wr64 (x:=16*h) (by omega),wr64 (by omega),wrB (by omega)]
theorem ru_RF(s:BA)(i:Int)(b:List Int)(e:BA)(o:Bool)(h:ru_P s i b):ru_R s i b e o=if i<(s.size:Int)then match uStep (bts s) i.toNat with
  |none=>(.ret,s,i,b,bE,false)
  |some (k,v)=>(.normal,s,i+k,b++[v],e,o)
  else(.exit 0,s,i,b,e,o):=by
 obtain⟨h1,h2,h3,h4⟩:=h;unfold KB at h1;unfold ru_R uStep;rw[wr64 (x:=i+1) (by omega),wr64 (x:=i+2) (by omega)];simp only[q2y,El.ag_eq];rw[show(i+1).toNat=i.toNat+1 by omega,show(i+2).toNat=i.toNat+2 by omega,q06];by_cases hlt:i<(s.size:Int)
 .rw[if_pos hlt,decide_eq_true hlt];simp only[cond_true];by_cases h37:(bts s).getD i.toNat 0=37
  .rw[h37];simp only[bne_self_eq_false,Bool.not_false,Bool.true_and,cond_false,if_true];by_cases h5:i+2>=(s.size:Int)
   .rw[decide_eq_true h5,if_pos (.inl (by omega))];rfl
   .rw[decide_eq_false h5];have r1:=qai ((bts s).getD (i.toNat+1) 0);have r2:=qai ((bts s).getD (i.toNat+2) 0);generalize hexV ((bts s).getD (i.toNat+1) 0)=x at r1 ⊢;generalize hexV ((bts s).getD (i.toNat+2) 0)=y at r2 ⊢;by_cases hx:x<0
    .rw[decide_eq_true hx,if_pos (.inr (.inl hx))];rfl
    .by_cases hy:y<0
     .rw[decide_eq_true hy,if_pos (.inr (.inr hy)),Bool.or_true];rfl
     .rw[decide_eq_false hx,decide_eq_false hy,if_neg (by rintro(h|h|h);omega;exact hx h;exact hy h),mulH hx r1 hy r2,ap1,wr64 (by omega),Int.add_assoc];rfl
  .rw[if_neg h37,bne_iff_ne.2 h37];simp only[Bool.not_true,Bool.false_and,cond_false,cond_true];rw[ap1,wr64 (by omega)];rfl
 .rw[if_neg hlt,decide_eq_false hlt];rfl
theorem ru_step{s:BA}{i:Int}{b:List Int}(h:ru_P s i b){k:Nat}{v:Int}(hlt:i<(s.size:Int))(hs:uStep (bts s) i.toNat=some (k,v)):ru_P s (i+k) (b++[v])/\1<=k:=by
 obtain⟨h1,h2,h3,h4⟩:=h;have:=q8w (by rw[q06];omega) hs;rw[q06]at this;refine⟨⟨h1,by omega,by omega,?_⟩,this.1⟩;rw[List.length_append];simp only[List.length_cons,List.length_nil];omega
theorem ru_goes:Goes ru_RR ru_M λg=>allP (ru_I g):=by
 rintro⟨s,i,b,e,o⟩ hi hn;have h:ru_P s i b:=hi _ (List.mem_cons_self ..);have eq:ru_RR (s,i,b,e,o)=_:=ru_RF s i b e o h;rw[eq]at hn ⊢;by_cases hlt:i<(s.size:Int)
 .rw[if_pos hlt]at hn ⊢;cases hu:uStep (bts s) i.toNat with
  |none=>rw[hu]at hn;cases hn
  |some x=>
   obtain⟨k,v⟩:=x;obtain⟨h1,h2⟩:=ru_step h hlt hu;refine⟨λp hp=>?_,?_⟩
   .rw[List.mem_singleton.1 hp];exact h1
   .show s.size-(i+k).toNat<s.size-i.toNat;have:=h.2.1;omega
 .rw[if_neg hlt]at hn;cases hn
theorem ru_ok:∀b∈q00 Tryd.prog 35,lkey b=5->q04 Tryd.prog b (ru_C ru_I ru_M).g:=by
 refine ru_loop ru_I ru_M (λg hi=>?_) ru_goes;obtain⟨s,i,b,e,o⟩:=g;have h:ru_P s i b:=hi _ (List.mem_cons_self ..);obtain⟨h1,h2,h3,h4⟩:=h;unfold KB at h1;show ru_side s i b e o;unfold ru_side;rw[wr64 (x:=i+1) (by omega),wr64 (x:=i+2) (by omega)];simp only[El.okL_eq,El.ag_eq,byt5,q2y];have r1:=q47 s (i+1).toNat;have r2:=q47 s (i+2).toNat;generalize (bts s).getD (i+1).toNat 0=x at r1 ⊢;generalize (bts s).getD (i+2).toNat 0=y at r2 ⊢;generalize ((bts s).getD i.toNat 0 !=(37:Int))=z;unfold maxLen;by_cases hlt:i<(s.size:Int)
 .rw[decide_eq_true hlt];refine⟨λ_=>?_,λh=>(by cases h)⟩;by_cases h5:i+2>=(s.size:Int)
  .rw[decide_eq_true h5];cases z
   .simp only[Bool.not_true,Bool.not_false,Bool.true_or,Bool.true_and,Bool.false_eq_true,false_implies,true_implies,true_and,forall_const,and_true,Bool.true_eq_false]
    repeat' (first|apply And.intro|intro _)
    all_goals first|trivial|omega
   .simp only[Bool.not_true,Bool.not_false,Bool.false_and,Bool.false_eq_true,false_implies,true_implies,true_and,forall_const,and_true,Bool.true_eq_false]
    repeat' (first|apply And.intro|intro _)
    all_goals first|trivial|omega
  .rw[decide_eq_false h5]
   repeat' (first|apply And.intro|intro _)
   all_goals first|trivial|omega
 .rw[decide_eq_false hlt];refine⟨λh=>(by cases h),λ_=>?_⟩
  repeat' (first|apply And.intro|intro _)
  all_goals first|trivial|omega
theorem ru_run(s:BA)(i:Int)(b:List Int)(e:BA)(o:Bool)(h:ru_P s i b):(∃b',q0y (s.size-i.toNat) ((bts s).drop i.toNat) b=some b'/\(loopF ru_RR ru_M (s,i,b,e,o)).1=.exit 0/\(loopF ru_RR ru_M (s,i,b,e,o)).2.1=s/\(loopF ru_RR ru_M (s,i,b,e,o)).2.2.2.1=b'/\(loopF ru_RR ru_M (s,i,b,e,o)).2.2.2.2=(e,o))\/(q0y (s.size-i.toNat) ((bts s).drop i.toNat) b=none/\(loopF ru_RR ru_M (s,i,b,e,o)).1=.ret/\(loopF ru_RR ru_M (s,i,b,e,o)).2.2.2.2=(bE,false)):=by
 refine q1m ru_goes (Q:=λg r=>(∃b',q0y (g.1.size-g.2.1.toNat) ((bts g.1).drop g.2.1.toNat) g.2.2.1=some b'/\r.1=.exit 0/\r.2.1=g.1/\r.2.2.2.1=b'/\r.2.2.2.2=(g.2.2.2.1,g.2.2.2.2))\/(q0y (g.1.size-g.2.1.toNat) ((bts g.1).drop g.2.1.toNat) g.2.2.1=none/\r.1=.ret/\r.2.2.2.2=(bE,false))) ?_ ?_ (s,i,b,e,o) (λp hp=>by rw[List.mem_singleton.1 hp];exact h)
 .rintro⟨s,i,b,e,o⟩ hi hn;have h:ru_P s i b:=hi _ (List.mem_cons_self ..);have eq:ru_RR (s,i,b,e,o)=_:=ru_RF s i b e o h;rw[eq]at hn ⊢;by_cases hlt:i<(s.size:Int)
  .rw[if_pos hlt]at hn ⊢;have h0i:=h.2.1;have hst:=q4r (bts s) i.toNat (by rw[q06];omega) b;rw[q06]at hst;cases hu:uStep (bts s) i.toNat with
   |none=>
    rw[hu]at hst;exact .inr ⟨hst,rfl,rfl⟩
   |some x=>rw[hu]at hn;exact absurd rfl hn
  .rw[if_neg hlt];have h0i:=h.2.1;have hst:=unesc_end (bts s) i.toNat (by rw[q06];omega) b;rw[q06]at hst;exact .inl ⟨b,hst,rfl,rfl,rfl,rfl⟩
 .rintro⟨s,i,b,e,o⟩ g' r hi he _ _ hq;have h:ru_P s i b:=hi _ (List.mem_cons_self ..);have eq:ru_RR (s,i,b,e,o)=_:=ru_RF s i b e o h;rw[eq]at he;by_cases hlt:i<(s.size:Int)
  .rw[if_pos hlt]at he;have h0i:=h.2.1;have hst:=q4r (bts s) i.toNat (by rw[q06];omega) b;rw[q06]at hst;cases hu:uStep (bts s) i.toNat with
   |none=>rw[hu]at he;cases he
   |some x=>
    obtain⟨k,v⟩:=x;rw[hu]at he hst;simp only[Prod.mk.injEq,true_and]at he;subst he;simp only at hst;have e1:(i+(k:Int)).toNat=i.toNat+k:=by have:=h.2.1;omega
    simp only[e1]at hq;rw[<-hst]at hq;exact hq
  .rw[if_neg hlt]at he;cases he
def pcsR(z:Bool)(s:BA)(n:Int):Bool×List BA:=bif ((splS 59 s).length:Int)!=n then(true,List.replicate n.toNat bE)else(z,splS 59 s)
theorem pcsR_len(z:Bool)(s:BA){n:Int}(h:0<=n):((pcsR z s n).2.length:Int)=n:=by
 unfold pcsR;cases hc:((splS 59 s).length:Int)!=n with
 |true=>
  show((List.replicate n.toNat bE).length:Int)=n;rw[List.length_replicate];omega
 |false=>simpa using hc
theorem zero_lst(n:Nat):eStr.lst n (zeroEl (Value.string (ByteArray.mk #[])))=List.replicate n bE:=by
 induction n with
 |zero=>rfl
 |succ n ih=>rw[List.replicate_succ'];unfold El.lst at ih ⊢;rw[List.range_succ,List.map_append,ih];rfl
theorem rpc_eq(z:Bool)(s:BA)(n:Int)(hs:s.size<=KS)(hn:0<=n/\n<=100):qbr z s n/\rpc_F z s n=pcsR z s n:=by
 unfold qbr rpc_F pcsR;rw[q3u,zero_lst];simp only[El.ag_eq,El.okL_eq];refine⟨⟨hs,Nat.le_refl _,λ_=>⟨⟨hn.1,Int.le_refl _,by omega,by omega⟩,Nat.le_refl _,λ_ _=>trivial⟩,λ_=>trivial⟩,rfl⟩
theorem rpc_c:FnT Tryd.prog 60 taR aBI' (TR.ct (CT.fz 9 eStr) rfl) (λz g=>pcsR z g.1 g.2) (λ_ g=>[g.1.size<=KS,0<=g.2/\g.2<=100]):=
 q5g (rpc_okS (λ_ g=>[g.1.size<=KS,0<=g.2/\g.2<=100]) λz g _ hp=>(rpc_eq z g.1 g.2 (hp _ (List.mem_cons_self ..)) (hp _ (List.mem_cons_of_mem _ (List.mem_cons_self ..)))).1) (λ_ _ h=>h) λz g _ hp=>(rpc_eq z g.1 g.2 (hp _ (List.mem_cons_self ..)) (hp _ (List.mem_cons_of_mem _ (List.mem_cons_self ..)))).2
theorem rnm_c:FnT Tryd.prog 52 taR aB (TR.pure dI) (λz s=>numR z s) (λ_ _=>[]):=
 q5g (rnm_okS (λ_ _=>[]) λz s _ _=>trivial) (λ_ _ h=>h) λz s _ _=>rfl
def ltN19:LTab Tryd.prog:=(ltN15.cons 62 5 (rt_C rt_I rt_M) rt_ok).cons 35 5 (ru_C ru_I ru_M) ru_ok
abbrev lamN19:Lam:=ltN19.lam
theorem lamN19_ok:∀f k L,lamN19 f k=some L->∀b∈q00 Tryd.prog f,lkey b=k->q04 Tryd.prog b L.g:=ltN19.ok
def tabN19:MTab Tryd.prog:=(q8z.consM 52 (bconT taR aB (TR.pure dI) (λz s=>numR z s) (λ_ _=>[])) (q48 rnm_c)).consM 60 (bconT taR aBI' (TR.ct (CT.fz 9 eStr) rfl) (λz g=>pcsR z g.1 g.2) (λ_ g=>[g.1.size<=KS,0<=g.2/\g.2<=100])) (q48 rpc_c)
end
end Go.Proofs.YtapdglacmebbaaaDoor
