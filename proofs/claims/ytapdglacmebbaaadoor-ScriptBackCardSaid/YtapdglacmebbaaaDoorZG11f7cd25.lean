/- Equal: loops. Printed by treegen.py. -/
import Derived.Test.YtapdglacmebbaaaDoorZG101d156d
import Derived.Test.YtapdglacmebbaaaDoorZG0781ad55
import Derived.Test.YtapdglacmebbaaaDoorZG06339971
set_option maxRecDepth 100000
set_option linter.unusedVariables false
set_option linter.unusedSimpArgs false
set_option linter.constructorNameAsVariable false
set_option linter.all false

namespace Go.Proofs.YtapdglacmebbaaaDoor
noncomputable section
open Go.RowKit Go.Sx
abbrev q4d:Type:=List Int×List Int×Int×Bool
def qrI1_LP:LP 0 q4d:=.pair (.slot 0 0 (.list eI)) (.pair (.slot 0 1 (.list eI)) (.pair (.slot 0 5 dI) (.slot 0 4 dBool)))
def qrI1_R(xs:List Int)(ys:List Int)(i:Int)(r:Bool):Ex×q4d:=
 bif decide (i<(↑xs.length:Int))then bif xs.getD i.toNat eI.dflt !=ys.getD i.toNat eI.dflt then(Ex.ret,eI.ag xs,eI.ag ys,i,false)else(Ex.normal,eI.ag xs,eI.ag ys,IntKind.i64.wrap (i+(1:Int)),r)
 else(Ex.exit (0:Nat),eI.ag xs,eI.ag ys,i,r)
def qrI1_side(xs:List Int)(ys:List Int)(i:Int)(r:Bool):Prop:=
 (decide (i<(↑xs.length:Int))=true->((0:Int)<=i/\i<(↑xs.length:Int))/\((0:Int)<=i/\i<(↑ys.length:Int))/\((xs.getD i.toNat eI.dflt !=ys.getD i.toNat eI.dflt)=true->eI.okL xs/\eI.okL ys)/\((xs.getD i.toNat eI.dflt !=ys.getD i.toNat eI.dflt)=false->eI.okL xs/\eI.okL ys))/\(decide (i<(↑xs.length:Int))=false->eI.okL xs/\eI.okL ys)
theorem qrI1_one:((q00 Tryd.prog 56).filter λc=>Nat.beq (lkey c) 4).length=1:=by kernel_rfl
abbrev q2w:Type:=List Int×List Int
abbrev q8l:Type:=Bool
def qrI1_f(g:q4d):Int×q2w×q8l:=(g.2.2.1,(g.1,g.2.1),g.2.2.2)
def qrI1_g(d:Int×q2w×q8l):q4d:=(d.2.1.1,d.2.1.2,d.1,d.2.2)
abbrev qaa(g:q4d):Ex×q4d:=qrI1_R g.1 g.2.1 g.2.2.1 g.2.2.2
abbrev qrI1_ss(g:q4d):Prop:=qrI1_side g.1 g.2.1 g.2.2.1 g.2.2.2
theorem qrI1_es(g:q4d):(qaa g).1=.normal\/(qaa g).1∈([.ret,.exit 0]:List Ex):=by
 unfold qaa qrI1_R
 repeat' (first|(left;rfl)|(right;simp only[cond_true,cond_false];simp;done)|(rw[Bool.cond_eq_ite];split))
abbrev qrI1_C(Inv:q4d->List Prop)(m:q4d->Nat):LCon:=loopR [.ret,.exit 0] (loopBody Tryd.prog 56 4) qrI1_LP [] 26 Inv qaa m
theorem qrI1_loop(Inv:q4d->List Prop)(m:q4d->Nat)(hs:∀g,allP (Inv g)->qrI1_ss g)(hg:Goes qaa m λg=>allP (Inv g)):∀b∈q00 Tryd.prog 56,lkey b=4->q04 Tryd.prog b (qrI1_C Inv m).g:=q0h (Γ:=(PTab.gamz tab0 [] [])) (Λ:=noΛ) (PTab.okz tab0 [] []) q5r 100 56 4 26 qrI1_LP [] Inv qaa qrI1_ss m default [.ret,.exit 0] qrI1_one (λrd T B HL HB ds g=>by kernel_rfl) (λrd T B HL HB ds g=>by kernel_rfl) hs hg qrI1_es
open Go.RowKit Go.Sx Go.Lp
def q88(c:q2w)(b:q8l)(i:Int)(v:Int):Ex×q8l:=bif !decide (v=c.2.getD i.toNat eI.dflt)then(.ret,false)else(.normal,b)
def qrI1_K(c:q2w)(b:q8l)(i:Int):Prop:=c.1.length=c.2.length
abbrev qrI1_I(g:q4d):List Prop:=ixI (λc:q2w=>(c.1.length:Int)) (λc:q2w=>c.1) qrI1_K (qrI1_f g)
abbrev qrI1_M(g:q4d):Nat:=ixM (λc:q2w=>(c.1.length:Int)) (qrI1_f g)
theorem qrI1_P:ixP q88 (λc:q2w=>c.1) qrI1_K:=λ_ _ _ _ h _ _=>h
abbrev qrI1_RR(g:q4d):Ex×q4d:=qrI1_R g.1 g.2.1 g.2.2.1 g.2.2.2
theorem qrI1_RF(d:Int×q2w×q8l)(hi:allP (ixI (λc:q2w=>(c.1.length:Int)) (λc:q2w=>c.1) qrI1_K d)):qrI1_RR (qrI1_g d)=((ixF 0 (λc:q2w=>(c.1.length:Int)) (λc:q2w=>c.1) eI.dflt q88 d).1,qrI1_g (ixF 0 (λc:q2w=>(c.1.length:Int)) (λc:q2w=>c.1) eI.dflt q88 d).2):=by
 obtain⟨i,⟨xs,ys⟩,r⟩:=d;show qrI1_R xs ys i r=_;unfold qrI1_R ixF q88;simp only[El.ag_eq,neI];cases decide (i<(xs.length:Int))with
 |false=>rfl
 |true=>
  simp only[cond_true];generalize (!decide ((xs.getD i.toNat eI.dflt)=ys.getD i.toNat eI.dflt))=z;cases z<;>rfl
theorem qrI1_ok:∀b∈q00 Tryd.prog 56,lkey b=4->q04 Tryd.prog b (qrI1_C qrI1_I qrI1_M).g:=by
 refine qrI1_loop qrI1_I qrI1_M (λg hi=>?_) (q09 (λ_=>rfl) (λ_=>rfl) qrI1_RF qrI1_P);obtain⟨xs,ys,i,r⟩:=g;obtain⟨h1,h2,h3,h4,h5⟩:=hi _ (List.mem_cons_self ..);have h1:(xs.length:Int)=(xs.length:Int):=h1;have h3:0<=i:=h3;have h5:xs.length=ys.length:=h5;show qrI1_side xs ys i r;unfold qrI1_side;simp only[decide_eq_true_eq,decide_eq_false_iff_not];have k0:∀e:Nat,e<xs.length->eI.Ok (eI.els xs e):=λe _=>eI.ok_els xs e;have k1:∀e:Nat,e<ys.length->eI.Ok (eI.els ys e):=λe _=>eI.ok_els ys e;clear hi
 repeat' (first|exact k0|exact k1|apply And.intro|intro _)
 all_goals omega
theorem qrI1_run(c:q2w)(b:q8l)(k1:(c.1.length:Int)=((c.1).length:Int))(k2:(c.1).length<=maxLen)(k3:qrI1_K c b 0):loopF qrI1_RR qrI1_M (qrI1_g (0,c,b))=((scan 0 (q88 c) 0 (c.1) b).1,qrI1_g ((scan 0 (q88 c) 0 (c.1) b).2.1,c,(scan 0 (q88 c) 0 (c.1) b).2.2)):=q0e (φ:=qrI1_f) (ψ:=qrI1_g) (λ_=>rfl) (λ_=>rfl) qrI1_RF qrI1_P c b k1 k2 k3
def ltD2:LTab Tryd.prog:=(LTab.nil.cons 56 4 (qrI1_C qrI1_I qrI1_M) qrI1_ok)
abbrev lamD2:Lam:=ltD2.lam
theorem lamD2_ok:∀f k L,lamD2 f k=some L->∀b∈q00 Tryd.prog f,lkey b=k->q04 Tryd.prog b L.g:=ltD2.ok
def rI1_q1(a:List Int)(b:List Int):Ex×
 q4d:=
 loopF (λg=>qrI1_R g.fst g.snd.fst g.snd.snd.fst g.snd.snd.snd) qrI1_M (eI.ag a,eI.ag b,(0:Int),false)
def rI1_F(a:List Int)(b:List Int):Dv.T dBool:=
 bif (↑a.length:Int)!=(↑b.length:Int)then false
 else bif exB Ex.ret (rI1_q1 a b).fst then(rI1_q1 a b).snd.snd.snd.snd else true
def rI1_side(a:List Int)(b:List Int):Prop:=
 ((↑a.length:Int)!=(↑b.length:Int))=false->eI.okL a/\eI.okL b/\Lp.ixJ (λc=>(↑c.fst.length:Int)) (λc=>c.fst) qrI1_K (qrI1_f (eI.ag a,eI.ag b,(0:Int),false))
theorem rI1_okS(pre:DA.T (.cons (.list eI) (.one (.list eI)))->List Prop)(h:∀g,DA.bd (.cons (.list eI) (.one (.list eI))) g->(∀p∈pre g,p)->rI1_side g.1 g.2):FnPure Tryd.prog 56 (.cons (.list eI) (.one (.list eI))) dBool (λg=>rI1_F g.1 g.2) pre:=q05 (Γ:=(PTab.gamz tab0 [] [])) (Λ:=lamD2) (PTab.okz tab0 [] []) lamD2_ok 100 default (λg=>rI1_side g.1 g.2) (λg=>by kernel_rfl) (λg=>by kernel_rfl) h
theorem rI1_ok:FnPure Tryd.prog 56 (.cons (.list eI) (.one (.list eI))) dBool (λg=>decide (g.1=g.2)) (λ_=>[]):=by
 refine q0d (rI1_okS (λ_=>[]) λg hb _=>?_) λg hb _=>?_
 all_goals (obtain⟨a,b⟩:=g;have ha:a.length<=maxLen:=hb.1.1)
 .show rI1_side a b;unfold rI1_side;simp only[El.okL_eq,El.ag_eq];exactλhc=>⟨trivial,trivial,ixJ0 rfl ha (qb5 hc)⟩
 show rI1_F a b=decide (a=b)
 have hq:rI1_q1 a b=loopF qrI1_RR qrI1_M (qrI1_g (0,(a,b),false)):=by
  unfold rI1_q1;rw[El.ag_eq,El.ag_eq];rfl
 unfold rI1_F;cases hc:((a.length:Int)!=(b.length:Int))with
 |true=>
  have:a≠b:=λe=>by subst e;simp at hc
  simp[this]
 |false=>
  have hl:=qb5 hc;obtain⟨h3,h4⟩:=scanEq (x:=0) eI.dflt a b hl (st:=q88 (a,b)) (r:=λ_=>false) (λ_ _ _=>rfl) false;rw[hq,qrI1_run (a,b) false rfl ha hl];show(bif exB .ret (scan 0 (q88 (a,b)) 0 a false).1 then(scan 0 (q88 (a,b)) 0 a false).2.2 else true)=_;rw[h3,h4];cases decide (a=b)<;>rfl
def tabD4:PTab Tryd.prog:=(tab0.cons 56 (pconP (.cons (.list eI) (.one (.list eI))) dBool (λg=>decide (g.1=g.2)) (λ_=>[])) (q0o rI1_ok puB))
abbrev gin_G:Type:=Unit×Nd×Unit×Nd×Int×Bool
def gin_LP:LP 4 gin_G:=.pair (.fix 4 6 (.p 2 0)) (.pair (.obj 4 2 44 eD) (.pair (.fix 4 7 (.p 3 0)) (.pair (.obj 4 3 44 eD) (.pair (.slot 4 8 dI) (.slot 4 4 dBool)))))
def gin_R(_u:Unit)(x:Nd)(_u2:Unit)(y:Nd)(i:Int)(r:Bool):Ex×gin_G:=
 bif decide (i<(↑x.ins.length:Int))then bif x.ins.getD i.toNat eI.dflt !=y.ins.getD i.toNat eI.dflt then(Ex.ret,(),Nd.mk x.id x.kind (eI.ag x.ins) x.fn x.name x.cap x.d,(),Nd.mk y.id y.kind (eI.ag y.ins) y.fn y.name y.cap y.d,i,false)else(Ex.normal,(),Nd.mk x.id x.kind (eI.ag x.ins) x.fn x.name x.cap x.d,(),Nd.mk y.id y.kind (eI.ag y.ins) y.fn y.name y.cap y.d,IntKind.i64.wrap (i+(1:Int)),r)
 else(Ex.exit (2:Nat),(),Nd.mk x.id x.kind (eI.ag x.ins) x.fn x.name x.cap x.d,(),Nd.mk y.id y.kind (eI.ag y.ins) y.fn y.name y.cap y.d,i,r)
def gin_side(_u:Unit)(x:Nd)(_u2:Unit)(y:Nd)(i:Int)(r:Bool):Prop:=
 (decide (i<(↑x.ins.length:Int))=true->((0:Int)<=i/\i<(↑x.ins.length:Int))/\((0:Int)<=i/\i<(↑y.ins.length:Int))/\((x.ins.getD i.toNat eI.dflt !=y.ins.getD i.toNat eI.dflt)=true->eI.okL x.ins/\eI.okL y.ins)/\((x.ins.getD i.toNat eI.dflt !=y.ins.getD i.toNat eI.dflt)=false->eI.okL x.ins/\eI.okL y.ins))/\(decide (i<(↑x.ins.length:Int))=false->eI.okL x.ins/\eI.okL y.ins)
theorem gin_one:((q00 Tryd.prog 15).filter λc=>Nat.beq (lkey c) 10).length=1:=by kernel_rfl
abbrev q4l:Type:=Nd×Nd
abbrev gin_GB:Type:=Bool×Unit×Unit
def gin_f(g:gin_G):Int×q4l×gin_GB:=(g.2.2.2.2.1,(g.2.1,g.2.2.2.1),(g.2.2.2.2.2,g.1,g.2.2.1))
def gin_g(d:Int×q4l×gin_GB):gin_G:=(d.2.2.2.1,d.2.1.1,d.2.2.2.2,d.2.1.2,d.1,d.2.2.1)
abbrev gin_rr(g:gin_G):Ex×gin_G:=gin_R g.1 g.2.1 g.2.2.1 g.2.2.2.1 g.2.2.2.2.1 g.2.2.2.2.2
abbrev gin_ss(g:gin_G):Prop:=gin_side g.1 g.2.1 g.2.2.1 g.2.2.2.1 g.2.2.2.2.1 g.2.2.2.2.2
theorem gin_es(g:gin_G):(gin_rr g).1=.normal\/(gin_rr g).1∈([.ret,.exit 2]:List Ex):=by
 unfold gin_rr gin_R
 repeat' (first|(left;rfl)|(right;simp only[cond_true,cond_false];simp;done)|(rw[Bool.cond_eq_ite];split))
abbrev gin_C(Inv:gin_G->List Prop)(m:gin_G->Nat):LCon:=loopR [.ret,.exit 2] (loopBody Tryd.prog 15 10) gin_LP [] 100 Inv gin_rr m
theorem gin_loop(Inv:gin_G->List Prop)(m:gin_G->Nat)(hs:∀g,allP (Inv g)->gin_ss g)(hg:Goes gin_rr m λg=>allP (Inv g)):∀b∈q00 Tryd.prog 15,lkey b=10->q04 Tryd.prog b (gin_C Inv m).g:=q0h (Γ:=(PTab.gamz tabD4 [] [])) (Λ:=noΛ) (PTab.okz tabD4 [] []) q5r 100 15 10 100 gin_LP [] Inv gin_rr gin_ss m default [.ret,.exit 2] gin_one (λrd T B HL HB ds g=>by kernel_rfl) (λrd T B HL HB ds g=>by kernel_rfl) hs hg gin_es
abbrev gio_G:Type:=Unit×Nd×Unit×Nd×Int×Bool
def gio_LP:LP 4 gio_G:=.pair (.fix 4 6 (.p 3 0)) (.pair (.obj 4 3 44 eD) (.pair (.fix 4 7 (.p 2 0)) (.pair (.obj 4 2 44 eD) (.pair (.slot 4 8 dI) (.slot 4 4 dBool)))))
def gio_R(_u:Unit)(x:Nd)(_u2:Unit)(y:Nd)(i:Int)(r:Bool):Ex×gio_G:=
 bif decide (i<(↑x.ins.length:Int))then bif x.ins.getD i.toNat eI.dflt !=y.ins.getD i.toNat eI.dflt then(Ex.ret,(),Nd.mk x.id x.kind (eI.ag x.ins) x.fn x.name x.cap x.d,(),Nd.mk y.id y.kind (eI.ag y.ins) y.fn y.name y.cap y.d,i,false)else(Ex.normal,(),Nd.mk x.id x.kind (eI.ag x.ins) x.fn x.name x.cap x.d,(),Nd.mk y.id y.kind (eI.ag y.ins) y.fn y.name y.cap y.d,IntKind.i64.wrap (i+(1:Int)),r)
 else(Ex.exit (2:Nat),(),Nd.mk x.id x.kind (eI.ag x.ins) x.fn x.name x.cap x.d,(),Nd.mk y.id y.kind (eI.ag y.ins) y.fn y.name y.cap y.d,i,r)
def gio_side(_u:Unit)(x:Nd)(_u2:Unit)(y:Nd)(i:Int)(r:Bool):Prop:=
 (decide (i<(↑x.ins.length:Int))=true->((0:Int)<=i/\i<(↑x.ins.length:Int))/\((0:Int)<=i/\i<(↑y.ins.length:Int))/\((x.ins.getD i.toNat eI.dflt !=y.ins.getD i.toNat eI.dflt)=true->eI.okL x.ins/\eI.okL y.ins)/\((x.ins.getD i.toNat eI.dflt !=y.ins.getD i.toNat eI.dflt)=false->eI.okL x.ins/\eI.okL y.ins))/\(decide (i<(↑x.ins.length:Int))=false->eI.okL x.ins/\eI.okL y.ins)
theorem gio_one:((q00 Tryd.prog 15).filter λc=>Nat.beq (lkey c) 10).length=1:=by kernel_rfl
abbrev q55:Type:=Nd×Nd
abbrev gio_GB:Type:=Bool×Unit×Unit
def gio_f(g:gio_G):Int×q55×gio_GB:=(g.2.2.2.2.1,(g.2.1,g.2.2.2.1),(g.2.2.2.2.2,g.1,g.2.2.1))
def gio_g(d:Int×q55×gio_GB):gio_G:=(d.2.2.2.1,d.2.1.1,d.2.2.2.2,d.2.1.2,d.1,d.2.2.1)
abbrev gio_rr(g:gio_G):Ex×gio_G:=gio_R g.1 g.2.1 g.2.2.1 g.2.2.2.1 g.2.2.2.2.1 g.2.2.2.2.2
abbrev gio_ss(g:gio_G):Prop:=gio_side g.1 g.2.1 g.2.2.1 g.2.2.2.1 g.2.2.2.2.1 g.2.2.2.2.2
theorem gio_es(g:gio_G):(gio_rr g).1=.normal\/(gio_rr g).1∈([.ret,.exit 2]:List Ex):=by
 unfold gio_rr gio_R
 repeat' (first|(left;rfl)|(right;simp only[cond_true,cond_false];simp;done)|(rw[Bool.cond_eq_ite];split))
abbrev gio_C(Inv:gio_G->List Prop)(m:gio_G->Nat):LCon:=loopR [.ret,.exit 2] (loopBody Tryd.prog 15 10) gio_LP [] 100 Inv gio_rr m
theorem gio_loop(Inv:gio_G->List Prop)(m:gio_G->Nat)(hs:∀g,allP (Inv g)->gio_ss g)(hg:Goes gio_rr m λg=>allP (Inv g)):∀b∈q00 Tryd.prog 15,lkey b=10->q04 Tryd.prog b (gio_C Inv m).g:=q0h (Γ:=(PTab.gamz tabD4 [] [])) (Λ:=noΛ) (PTab.okz tabD4 [] []) q5r 100 15 10 100 gio_LP [] Inv gio_rr gio_ss m default [.ret,.exit 2] gio_one (λrd T B HL HB ds g=>by kernel_rfl) (λrd T B HL HB ds g=>by kernel_rfl) hs hg gio_es
abbrev mvl_G:Type:=Unit×Dl×Unit×Dl×Int×Bool
def mvl_LP:LP 2 mvl_G:=.pair (.fix 2 2 (.p 0 0)) (.pair (.obj 2 0 27 eDl) (.pair (.fix 2 3 (.p 1 0)) (.pair (.obj 2 1 27 eDl) (.pair (.slot 2 5 dI) (.slot 2 4 dBool)))))
def mvl_R(_u:Unit)(x:Dl)(_u2:Unit)(y:Dl)(i:Int)(r:Bool):Ex×mvl_G:=
 bif decide (i<(↑x.moves.length:Int))then bif !conj ([(x.moves.getD i.toNat eV.dflt).fr==(y.moves.getD i.toNat eV.dflt).fr]++([(x.moves.getD i.toNat eV.dflt).to==(y.moves.getD i.toNat eV.dflt).to]++([(x.moves.getD i.toNat eV.dflt).kind==(y.moves.getD i.toNat eV.dflt).kind]++([(x.moves.getD i.toNat eV.dflt).a==(y.moves.getD i.toNat eV.dflt).a]++([(x.moves.getD i.toNat eV.dflt).fn.kind==(y.moves.getD i.toNat eV.dflt).fn.kind]++([(x.moves.getD i.toNat eV.dflt).fn.a==(y.moves.getD i.toNat eV.dflt).fn.a]++([decide ((x.moves.getD i.toNat eV.dflt).fn.s=(y.moves.getD i.toNat eV.dflt).fn.s)]++[]))++[])))))then(Ex.ret,(),Dl.mk (eI.ag x.drop) (eD.ag x.put) (eV.ag x.moves),(),Dl.mk (eI.ag y.drop) (eD.ag y.put) (eV.ag y.moves),i,false)else(Ex.normal,(),Dl.mk (eI.ag x.drop) (eD.ag x.put) (eV.ag x.moves),(),Dl.mk (eI.ag y.drop) (eD.ag y.put) (eV.ag y.moves),IntKind.i64.wrap (i+(1:Int)),r)
 else(Ex.exit (0:Nat),(),Dl.mk (eI.ag x.drop) (eD.ag x.put) (eV.ag x.moves),(),Dl.mk (eI.ag y.drop) (eD.ag y.put) (eV.ag y.moves),i,r)
def mvl_side(_u:Unit)(x:Dl)(_u2:Unit)(y:Dl)(i:Int)(r:Bool):Prop:=
 (decide (i<(↑x.moves.length:Int))=true->((0:Int)<=i/\i<(↑x.moves.length:Int))/\((0:Int)<=i/\i<(↑y.moves.length:Int))/\((!conj ([(x.moves.getD i.toNat eV.dflt).fr==(y.moves.getD i.toNat eV.dflt).fr]++([(x.moves.getD i.toNat eV.dflt).to==(y.moves.getD i.toNat eV.dflt).to]++([(x.moves.getD i.toNat eV.dflt).kind==(y.moves.getD i.toNat eV.dflt).kind]++([(x.moves.getD i.toNat eV.dflt).a==(y.moves.getD i.toNat eV.dflt).a]++([(x.moves.getD i.toNat eV.dflt).fn.kind==(y.moves.getD i.toNat eV.dflt).fn.kind]++([(x.moves.getD i.toNat eV.dflt).fn.a==(y.moves.getD i.toNat eV.dflt).fn.a]++([decide ((x.moves.getD i.toNat eV.dflt).fn.s=(y.moves.getD i.toNat eV.dflt).fn.s)]++[]))++[]))))))=true->eI.okL x.drop/\eD.okL x.put/\eV.okL x.moves/\eI.okL y.drop/\eD.okL y.put/\eV.okL y.moves)/\((!conj ([(x.moves.getD i.toNat eV.dflt).fr==(y.moves.getD i.toNat eV.dflt).fr]++([(x.moves.getD i.toNat eV.dflt).to==(y.moves.getD i.toNat eV.dflt).to]++([(x.moves.getD i.toNat eV.dflt).kind==(y.moves.getD i.toNat eV.dflt).kind]++([(x.moves.getD i.toNat eV.dflt).a==(y.moves.getD i.toNat eV.dflt).a]++([(x.moves.getD i.toNat eV.dflt).fn.kind==(y.moves.getD i.toNat eV.dflt).fn.kind]++([(x.moves.getD i.toNat eV.dflt).fn.a==(y.moves.getD i.toNat eV.dflt).fn.a]++([decide ((x.moves.getD i.toNat eV.dflt).fn.s=(y.moves.getD i.toNat eV.dflt).fn.s)]++[]))++[]))))))=false->eI.okL x.drop/\eD.okL x.put/\eV.okL x.moves/\eI.okL y.drop/\eD.okL y.put/\eV.okL y.moves))/\(decide (i<(↑x.moves.length:Int))=false->eI.okL x.drop/\eD.okL x.put/\eV.okL x.moves/\eI.okL y.drop/\eD.okL y.put/\eV.okL y.moves)
theorem mvl_one:((q00 Tryd.prog 27).filter λc=>Nat.beq (lkey c) 4).length=1:=by kernel_rfl
abbrev q4k:Type:=Dl×Dl
abbrev mvl_GB:Type:=Bool×Unit×Unit
def mvl_f(g:mvl_G):Int×q4k×mvl_GB:=(g.2.2.2.2.1,(g.2.1,g.2.2.2.1),(g.2.2.2.2.2,g.1,g.2.2.1))
def mvl_g(d:Int×q4k×mvl_GB):mvl_G:=(d.2.2.2.1,d.2.1.1,d.2.2.2.2,d.2.1.2,d.1,d.2.2.1)
abbrev mvl_rr(g:mvl_G):Ex×mvl_G:=mvl_R g.1 g.2.1 g.2.2.1 g.2.2.2.1 g.2.2.2.2.1 g.2.2.2.2.2
abbrev mvl_ss(g:mvl_G):Prop:=mvl_side g.1 g.2.1 g.2.2.1 g.2.2.2.1 g.2.2.2.2.1 g.2.2.2.2.2
theorem mvl_es(g:mvl_G):(mvl_rr g).1=.normal\/(mvl_rr g).1∈([.ret,.exit 0]:List Ex):=by
 unfold mvl_rr mvl_R
 repeat' (first|(left;rfl)|(right;simp only[cond_true,cond_false];simp;done)|(rw[Bool.cond_eq_ite];split))
abbrev mvl_C(Inv:mvl_G->List Prop)(m:mvl_G->Nat):LCon:=loopR [.ret,.exit 0] (loopBody Tryd.prog 27 4) mvl_LP [] 49 Inv mvl_rr m
theorem mvl_loop(Inv:mvl_G->List Prop)(m:mvl_G->Nat)(hs:∀g,allP (Inv g)->mvl_ss g)(hg:Goes mvl_rr m λg=>allP (Inv g)):∀b∈q00 Tryd.prog 27,lkey b=4->q04 Tryd.prog b (mvl_C Inv m).g:=q0h (Γ:=(PTab.gamz tabD4 [] [])) (Λ:=noΛ) (PTab.okz tabD4 [] []) q5r 100 27 4 49 mvl_LP [] Inv mvl_rr mvl_ss m default [.ret,.exit 0] mvl_one (λrd T B HL HB ds g=>by kernel_rfl) (λrd T B HL HB ds g=>by kernel_rfl) hs hg mvl_es
def gin_S(c:q4l)(b:gin_GB)(i:Int)(v:Int):Ex×gin_GB:=bif !decide (v=c.2.ins.getD i.toNat eI.dflt)then(.ret,false,(),())else(.normal,b.1,b.2.1,b.2.2)
def gin_K(c:q4l)(b:gin_GB)(i:Int):Prop:=c.1.ins.length=c.2.ins.length
abbrev gin_I(g:gin_G):List Prop:=ixI (λc:q4l=>(c.1.ins.length:Int)) (λc:q4l=>c.1.ins) gin_K (gin_f g)
abbrev gin_M(g:gin_G):Nat:=ixM (λc:q4l=>(c.1.ins.length:Int)) (gin_f g)
theorem gin_P:ixP gin_S (λc:q4l=>c.1.ins) gin_K:=λ_ _ _ _ h _ _=>h
abbrev gin_RR(g:gin_G):Ex×gin_G:=gin_R g.1 g.2.1 g.2.2.1 g.2.2.2.1 g.2.2.2.2.1 g.2.2.2.2.2
theorem gin_RF(d:Int×q4l×gin_GB)(hi:allP (ixI (λc:q4l=>(c.1.ins.length:Int)) (λc:q4l=>c.1.ins) gin_K d)):gin_RR (gin_g d)=((ixF 2 (λc:q4l=>(c.1.ins.length:Int)) (λc:q4l=>c.1.ins) eI.dflt gin_S d).1,gin_g (ixF 2 (λc:q4l=>(c.1.ins.length:Int)) (λc:q4l=>c.1.ins) eI.dflt gin_S d).2):=by
 obtain⟨i,⟨x,y⟩,⟨r,⟨⟩,⟨⟩⟩⟩:=d;show gin_R () x () y i r=_;unfold gin_R ixF gin_S;simp only[El.ag_eq,neI];cases decide (i<(x.ins.length:Int))with
 |false=>rfl
 |true=>
  simp only[cond_true];generalize (!decide ((x.ins.getD i.toNat eI.dflt)=y.ins.getD i.toNat eI.dflt))=z;cases z<;>rfl
theorem gin_ok:∀b∈q00 Tryd.prog 15,lkey b=10->q04 Tryd.prog b (gin_C gin_I gin_M).g:=by
 refine gin_loop gin_I gin_M (λg hi=>?_) (q09 (λ_=>rfl) (λ_=>rfl) gin_RF gin_P);obtain⟨⟨⟩,x,⟨⟩,y,i,r⟩:=g;obtain⟨h1,h2,h3,h4,h5⟩:=hi _ (List.mem_cons_self ..);have h1:(x.ins.length:Int)=(x.ins.length:Int):=h1;have h3:0<=i:=h3;have h5:x.ins.length=y.ins.length:=h5;show gin_side () x () y i r;unfold gin_side;simp only[decide_eq_true_eq,decide_eq_false_iff_not];have k0:∀e:Nat,e<x.ins.length->eI.Ok (eI.els x.ins e):=λe _=>eI.ok_els x.ins e;have k1:∀e:Nat,e<y.ins.length->eI.Ok (eI.els y.ins e):=λe _=>eI.ok_els y.ins e;clear hi
 repeat' (first|exact k0|exact k1|apply And.intro|intro _)
 all_goals omega
theorem gin_run(c:q4l)(b:gin_GB)(k1:(c.1.ins.length:Int)=((c.1.ins).length:Int))(k2:(c.1.ins).length<=maxLen)(k3:gin_K c b 0):loopF gin_RR gin_M (gin_g (0,c,b))=((scan 2 (gin_S c) 0 (c.1.ins) b).1,gin_g ((scan 2 (gin_S c) 0 (c.1.ins) b).2.1,c,(scan 2 (gin_S c) 0 (c.1.ins) b).2.2)):=q0e (φ:=gin_f) (ψ:=gin_g) (λ_=>rfl) (λ_=>rfl) gin_RF gin_P c b k1 k2 k3
def gio_S(c:q55)(b:gio_GB)(i:Int)(v:Int):Ex×gio_GB:=bif !decide (v=c.2.ins.getD i.toNat eI.dflt)then(.ret,false,(),())else(.normal,b.1,b.2.1,b.2.2)
def gio_K(c:q55)(b:gio_GB)(i:Int):Prop:=c.1.ins.length=c.2.ins.length
abbrev gio_I(g:gio_G):List Prop:=ixI (λc:q55=>(c.1.ins.length:Int)) (λc:q55=>c.1.ins) gio_K (gio_f g)
abbrev gio_M(g:gio_G):Nat:=ixM (λc:q55=>(c.1.ins.length:Int)) (gio_f g)
theorem gio_P:ixP gio_S (λc:q55=>c.1.ins) gio_K:=λ_ _ _ _ h _ _=>h
abbrev gio_RR(g:gio_G):Ex×gio_G:=gio_R g.1 g.2.1 g.2.2.1 g.2.2.2.1 g.2.2.2.2.1 g.2.2.2.2.2
theorem gio_RF(d:Int×q55×gio_GB)(hi:allP (ixI (λc:q55=>(c.1.ins.length:Int)) (λc:q55=>c.1.ins) gio_K d)):gio_RR (gio_g d)=((ixF 2 (λc:q55=>(c.1.ins.length:Int)) (λc:q55=>c.1.ins) eI.dflt gio_S d).1,gio_g (ixF 2 (λc:q55=>(c.1.ins.length:Int)) (λc:q55=>c.1.ins) eI.dflt gio_S d).2):=by
 obtain⟨i,⟨x,y⟩,⟨r,⟨⟩,⟨⟩⟩⟩:=d;show gio_R () x () y i r=_;unfold gio_R ixF gio_S;simp only[El.ag_eq,neI];cases decide (i<(x.ins.length:Int))with
 |false=>rfl
 |true=>
  simp only[cond_true];generalize (!decide ((x.ins.getD i.toNat eI.dflt)=y.ins.getD i.toNat eI.dflt))=z;cases z<;>rfl
theorem gio_ok:∀b∈q00 Tryd.prog 15,lkey b=10->q04 Tryd.prog b (gio_C gio_I gio_M).g:=by
 refine gio_loop gio_I gio_M (λg hi=>?_) (q09 (λ_=>rfl) (λ_=>rfl) gio_RF gio_P);obtain⟨⟨⟩,x,⟨⟩,y,i,r⟩:=g;obtain⟨h1,h2,h3,h4,h5⟩:=hi _ (List.mem_cons_self ..);have h1:(x.ins.length:Int)=(x.ins.length:Int):=h1;have h3:0<=i:=h3;have h5:x.ins.length=y.ins.length:=h5;show gio_side () x () y i r;unfold gio_side;simp only[decide_eq_true_eq,decide_eq_false_iff_not];have k0:∀e:Nat,e<x.ins.length->eI.Ok (eI.els x.ins e):=λe _=>eI.ok_els x.ins e;have k1:∀e:Nat,e<y.ins.length->eI.Ok (eI.els y.ins e):=λe _=>eI.ok_els y.ins e;clear hi
 repeat' (first|exact k0|exact k1|apply And.intro|intro _)
 all_goals omega
def mvl_S(c:q4k)(b:mvl_GB)(i:Int)(v:Mv):Ex×mvl_GB:=bif !decide (v=c.2.moves.getD i.toNat eV.dflt)then(.ret,false,(),())else(.normal,b.1,b.2.1,b.2.2)
def mvl_K(c:q4k)(b:mvl_GB)(i:Int):Prop:=c.1.moves.length=c.2.moves.length
abbrev mvl_I(g:mvl_G):List Prop:=ixI (λc:q4k=>(c.1.moves.length:Int)) (λc:q4k=>c.1.moves) mvl_K (mvl_f g)
abbrev mvl_M(g:mvl_G):Nat:=ixM (λc:q4k=>(c.1.moves.length:Int)) (mvl_f g)
theorem mvl_P:ixP mvl_S (λc:q4k=>c.1.moves) mvl_K:=λ_ _ _ _ h _ _=>h
abbrev mvl_RR(g:mvl_G):Ex×mvl_G:=mvl_R g.1 g.2.1 g.2.2.1 g.2.2.2.1 g.2.2.2.2.1 g.2.2.2.2.2
theorem mvl_RF(d:Int×q4k×mvl_GB)(hi:allP (ixI (λc:q4k=>(c.1.moves.length:Int)) (λc:q4k=>c.1.moves) mvl_K d)):mvl_RR (mvl_g d)=((ixF 0 (λc:q4k=>(c.1.moves.length:Int)) (λc:q4k=>c.1.moves) eV.dflt mvl_S d).1,mvl_g (ixF 0 (λc:q4k=>(c.1.moves.length:Int)) (λc:q4k=>c.1.moves) eV.dflt mvl_S d).2):=by
 obtain⟨i,⟨x,y⟩,⟨r,⟨⟩,⟨⟩⟩⟩:=d;show mvl_R () x () y i r=_;unfold mvl_R ixF mvl_S;simp only[El.ag_eq,conj_eV];cases decide (i<(x.moves.length:Int))with
 |false=>rfl
 |true=>
  simp only[cond_true];generalize (!decide ((x.moves.getD i.toNat eV.dflt)=y.moves.getD i.toNat eV.dflt))=z;cases z<;>rfl
theorem mvl_ok:∀b∈q00 Tryd.prog 27,lkey b=4->q04 Tryd.prog b (mvl_C mvl_I mvl_M).g:=by
 refine mvl_loop mvl_I mvl_M (λg hi=>?_) (q09 (λ_=>rfl) (λ_=>rfl) mvl_RF mvl_P);obtain⟨⟨⟩,x,⟨⟩,y,i,r⟩:=g;obtain⟨h1,h2,h3,h4,h5⟩:=hi _ (List.mem_cons_self ..);have h1:(x.moves.length:Int)=(x.moves.length:Int):=h1;have h3:0<=i:=h3;have h5:x.moves.length=y.moves.length:=h5;show mvl_side () x () y i r;unfold mvl_side;simp only[decide_eq_true_eq,decide_eq_false_iff_not];have k0:∀e:Nat,e<x.drop.length->eI.Ok (eI.els x.drop e):=λe _=>eI.ok_els x.drop e;have k1:∀e:Nat,e<x.put.length->eD.Ok (eD.els x.put e):=λe _=>eD.ok_els x.put e;have k2:∀e:Nat,e<x.moves.length->eV.Ok (eV.els x.moves e):=λe _=>eV.ok_els x.moves e;have k3:∀e:Nat,e<y.drop.length->eI.Ok (eI.els y.drop e):=λe _=>eI.ok_els y.drop e;have k4:∀e:Nat,e<y.put.length->eD.Ok (eD.els y.put e):=λe _=>eD.ok_els y.put e;have k5:∀e:Nat,e<y.moves.length->eV.Ok (eV.els y.moves e):=λe _=>eV.ok_els y.moves e;clear hi
 repeat' (first|exact k0|exact k1|exact k2|exact k3|exact k4|exact k5|apply And.intro|intro _)
 all_goals omega
theorem mvl_run(c:q4k)(b:mvl_GB)(k1:(c.1.moves.length:Int)=((c.1.moves).length:Int))(k2:(c.1.moves).length<=maxLen)(k3:mvl_K c b 0):loopF mvl_RR mvl_M (mvl_g (0,c,b))=((scan 0 (mvl_S c) 0 (c.1.moves) b).1,mvl_g ((scan 0 (mvl_S c) 0 (c.1.moves) b).2.1,c,(scan 0 (mvl_S c) 0 (c.1.moves) b).2.2)):=q0e (φ:=mvl_f) (ψ:=mvl_g) (λ_=>rfl) (λ_=>rfl) mvl_RF mvl_P c b k1 k2 k3
def ltE2a:LTab Tryd.prog:=(LTab.nil.cons 27 4 (mvl_C mvl_I mvl_M) mvl_ok)
def ltE2:LTab Tryd.prog:=ltE2a.cons 15 10 (lconAltS 6 2 (gin_C gin_I gin_M) (gio_C gio_I gio_M)) (λb hb hk=>altS_ok (gin_ok b hb hk) (gio_ok b hb hk))
abbrev lamE2:Lam:=ltE2.lam
theorem lamE2_ok:∀f k L,lamE2 f k=some L->∀b∈q00 Tryd.prog f,lkey b=k->q04 Tryd.prog b L.g:=ltE2.ok
def q1s(xs:List Nd)(ys:List Nd)(i:Int)(r:Bool):Ex×
 gin_G:=
 loopF (λg=>gin_R g.fst g.snd.fst g.snd.snd.fst g.snd.snd.snd.fst g.snd.snd.snd.snd.fst g.snd.snd.snd.snd.snd) gin_M ((),Nd.mk (xs.getD i.toNat eD.dflt).id (xs.getD i.toNat eD.dflt).kind (eI.ag (xs.getD i.toNat eD.dflt).ins) (xs.getD i.toNat eD.dflt).fn (xs.getD i.toNat eD.dflt).name (xs.getD i.toNat eD.dflt).cap (xs.getD i.toNat eD.dflt).d,(),Nd.mk (ys.getD i.toNat eD.dflt).id (ys.getD i.toNat eD.dflt).kind (eI.ag (ys.getD i.toNat eD.dflt).ins) (ys.getD i.toNat eD.dflt).fn (ys.getD i.toNat eD.dflt).name (ys.getD i.toNat eD.dflt).cap (ys.getD i.toNat eD.dflt).d,(0:Int),r)
def gou_q2(xs:List Nd)(ys:List Nd)(i:Int)(r:Bool):Ex×
 gio_G:=
 loopF (λg=>gio_R g.fst g.snd.fst g.snd.snd.fst g.snd.snd.snd.fst g.snd.snd.snd.snd.fst g.snd.snd.snd.snd.snd) gio_M ((),Nd.mk (xs.getD i.toNat eD.dflt).id (xs.getD i.toNat eD.dflt).kind (eI.ag (xs.getD i.toNat eD.dflt).ins) (xs.getD i.toNat eD.dflt).fn (xs.getD i.toNat eD.dflt).name (xs.getD i.toNat eD.dflt).cap (xs.getD i.toNat eD.dflt).d,(),Nd.mk (ys.getD i.toNat eD.dflt).id (ys.getD i.toNat eD.dflt).kind (eI.ag (ys.getD i.toNat eD.dflt).ins) (ys.getD i.toNat eD.dflt).fn (ys.getD i.toNat eD.dflt).name (ys.getD i.toNat eD.dflt).cap (ys.getD i.toNat eD.dflt).d,(0:Int),r)
abbrev gou_G:Type:=List Nd×List Nd×Int×Bool
def gou_LP:LP 2 gou_G:=.pair (.slot 2 2 (dPr eLD)) (.pair (.slot 2 3 (dPr eLD)) (.pair (.slot 2 5 dI) (.slot 2 4 dBool)))
def gou_R(xs:List Nd)(ys:List Nd)(i:Int)(r:Bool):Ex×gou_G:=
 bif decide (i<(↑xs.length:Int))then bif (xs.getD i.toNat eD.dflt).id !=(ys.getD i.toNat eD.dflt).id||((xs.getD i.toNat eD.dflt).kind !=(ys.getD i.toNat eD.dflt).kind||(!conj ([(xs.getD i.toNat eD.dflt).fn.kind==(ys.getD i.toNat eD.dflt).fn.kind]++([(xs.getD i.toNat eD.dflt).fn.a==(ys.getD i.toNat eD.dflt).fn.a]++([decide ((xs.getD i.toNat eD.dflt).fn.s=(ys.getD i.toNat eD.dflt).fn.s)]++[])))||(!decide ((xs.getD i.toNat eD.dflt).name=(ys.getD i.toNat eD.dflt).name)||((xs.getD i.toNat eD.dflt).cap !=(ys.getD i.toNat eD.dflt).cap||((xs.getD i.toNat eD.dflt).d !=(ys.getD i.toNat eD.dflt).d||(↑(xs.getD i.toNat eD.dflt).ins.length:Int)!=(↑(ys.getD i.toNat eD.dflt).ins.length:Int))))))then(Ex.ret,eD.ag xs,eD.ag ys,i,false)else bif exB Ex.ret (q1s xs ys i r).fst then(Ex.ret,eD.ag xs,eD.ag ys,i,(q1s xs ys i r).snd.snd.snd.snd.snd.snd)else(Ex.normal,eD.ag xs,eD.ag ys,IntKind.i64.wrap (i+(1:Int)),(q1s xs ys i r).snd.snd.snd.snd.snd.snd)
 else(Ex.exit (0:Nat),eD.ag xs,eD.ag ys,i,r)
def gou_side(xs:List Nd)(ys:List Nd)(i:Int)(r:Bool):Prop:=
 (decide (i<(↑xs.length:Int))=true->∀(cs:List Nat),(cs.isEmpty=true->((0:Int)<=i/\i<(↑xs.length:Int))/\((0:Int)<=i/\i<(↑ys.length:Int))/\(((xs.getD i.toNat eD.dflt).id !=(ys.getD i.toNat eD.dflt).id||((xs.getD i.toNat eD.dflt).kind !=(ys.getD i.toNat eD.dflt).kind||(!conj ([(xs.getD i.toNat eD.dflt).fn.kind==(ys.getD i.toNat eD.dflt).fn.kind]++([(xs.getD i.toNat eD.dflt).fn.a==(ys.getD i.toNat eD.dflt).fn.a]++([decide ((xs.getD i.toNat eD.dflt).fn.s=(ys.getD i.toNat eD.dflt).fn.s)]++[])))||(!decide ((xs.getD i.toNat eD.dflt).name=(ys.getD i.toNat eD.dflt).name)||((xs.getD i.toNat eD.dflt).cap !=(ys.getD i.toNat eD.dflt).cap||((xs.getD i.toNat eD.dflt).d !=(ys.getD i.toNat eD.dflt).d||(↑(xs.getD i.toNat eD.dflt).ins.length:Int)!=(↑(ys.getD i.toNat eD.dflt).ins.length:Int)))))))=true->eD.okL xs/\eD.okL ys/\∀(d:Ex×List Nd×List Nd×Int×Bool),(Ex.ret,eD.ag xs,eD.ag ys,i,false)=bif (xs.getD i.toNat eD.dflt).id !=(ys.getD i.toNat eD.dflt).id||((xs.getD i.toNat eD.dflt).kind !=(ys.getD i.toNat eD.dflt).kind||(!conj ([(xs.getD i.toNat eD.dflt).fn.kind==(ys.getD i.toNat eD.dflt).fn.kind]++([(xs.getD i.toNat eD.dflt).fn.a==(ys.getD i.toNat eD.dflt).fn.a]++([decide ((xs.getD i.toNat eD.dflt).fn.s=(ys.getD i.toNat eD.dflt).fn.s)]++[])))||(!decide ((xs.getD i.toNat eD.dflt).name=(ys.getD i.toNat eD.dflt).name)||((xs.getD i.toNat eD.dflt).cap !=(ys.getD i.toNat eD.dflt).cap||((xs.getD i.toNat eD.dflt).d !=(ys.getD i.toNat eD.dflt).d||(↑(xs.getD i.toNat eD.dflt).ins.length:Int)!=(↑(ys.getD i.toNat eD.dflt).ins.length:Int))))))then(Ex.ret,eD.ag xs,eD.ag ys,i,false)else bif exB Ex.ret (q1s xs ys i r).fst then(Ex.ret,eD.ag xs,eD.ag ys,i,(q1s xs ys i r).snd.snd.snd.snd.snd.snd)else(Ex.normal,eD.ag xs,eD.ag ys,IntKind.i64.wrap (i+(1:Int)),(q1s xs ys i r).snd.snd.snd.snd.snd.snd))/\(((xs.getD i.toNat eD.dflt).id !=(ys.getD i.toNat eD.dflt).id||((xs.getD i.toNat eD.dflt).kind !=(ys.getD i.toNat eD.dflt).kind||(!conj ([(xs.getD i.toNat eD.dflt).fn.kind==(ys.getD i.toNat eD.dflt).fn.kind]++([(xs.getD i.toNat eD.dflt).fn.a==(ys.getD i.toNat eD.dflt).fn.a]++([decide ((xs.getD i.toNat eD.dflt).fn.s=(ys.getD i.toNat eD.dflt).fn.s)]++[])))||(!decide ((xs.getD i.toNat eD.dflt).name=(ys.getD i.toNat eD.dflt).name)||((xs.getD i.toNat eD.dflt).cap !=(ys.getD i.toNat eD.dflt).cap||((xs.getD i.toNat eD.dflt).d !=(ys.getD i.toNat eD.dflt).d||(↑(xs.getD i.toNat eD.dflt).ins.length:Int)!=(↑(ys.getD i.toNat eD.dflt).ins.length:Int)))))))=false->eI.okL (xs.getD i.toNat eD.dflt).ins/\eI.okL (ys.getD i.toNat eD.dflt).ins/\Lp.ixJ (λc=>(↑c.fst.ins.length:Int)) (λc=>c.fst.ins) gin_K (gin_f ((),Nd.mk (xs.getD i.toNat eD.dflt).id (xs.getD i.toNat eD.dflt).kind (eI.ag (xs.getD i.toNat eD.dflt).ins) (xs.getD i.toNat eD.dflt).fn (xs.getD i.toNat eD.dflt).name (xs.getD i.toNat eD.dflt).cap (xs.getD i.toNat eD.dflt).d,(),Nd.mk (ys.getD i.toNat eD.dflt).id (ys.getD i.toNat eD.dflt).kind (eI.ag (ys.getD i.toNat eD.dflt).ins) (ys.getD i.toNat eD.dflt).fn (ys.getD i.toNat eD.dflt).name (ys.getD i.toNat eD.dflt).cap (ys.getD i.toNat eD.dflt).d,(0:Int),r))/\(exB Ex.ret (q1s xs ys i r).fst=true->eD.okL xs/\eD.okL ys/\∀(d:Ex×List Nd×List Nd×Int×Bool),(Ex.ret,eD.ag xs,eD.ag ys,i,(q1s xs ys i r).snd.snd.snd.snd.snd.snd)=bif (xs.getD i.toNat eD.dflt).id !=(ys.getD i.toNat eD.dflt).id||((xs.getD i.toNat eD.dflt).kind !=(ys.getD i.toNat eD.dflt).kind||(!conj ([(xs.getD i.toNat eD.dflt).fn.kind==(ys.getD i.toNat eD.dflt).fn.kind]++([(xs.getD i.toNat eD.dflt).fn.a==(ys.getD i.toNat eD.dflt).fn.a]++([decide ((xs.getD i.toNat eD.dflt).fn.s=(ys.getD i.toNat eD.dflt).fn.s)]++[])))||(!decide ((xs.getD i.toNat eD.dflt).name=(ys.getD i.toNat eD.dflt).name)||((xs.getD i.toNat eD.dflt).cap !=(ys.getD i.toNat eD.dflt).cap||((xs.getD i.toNat eD.dflt).d !=(ys.getD i.toNat eD.dflt).d||(↑(xs.getD i.toNat eD.dflt).ins.length:Int)!=(↑(ys.getD i.toNat eD.dflt).ins.length:Int))))))then(Ex.ret,eD.ag xs,eD.ag ys,i,false)else bif exB Ex.ret (q1s xs ys i r).fst then(Ex.ret,eD.ag xs,eD.ag ys,i,(q1s xs ys i r).snd.snd.snd.snd.snd.snd)else(Ex.normal,eD.ag xs,eD.ag ys,IntKind.i64.wrap (i+(1:Int)),(q1s xs ys i r).snd.snd.snd.snd.snd.snd))/\(exB Ex.ret (q1s xs ys i r).fst=false->eD.okL xs/\eD.okL ys/\∀(d:Ex×List Nd×List Nd×Int×Bool),(Ex.normal,eD.ag xs,eD.ag ys,IntKind.i64.wrap (i+(1:Int)),(q1s xs ys i r).snd.snd.snd.snd.snd.snd)=bif (xs.getD i.toNat eD.dflt).id !=(ys.getD i.toNat eD.dflt).id||((xs.getD i.toNat eD.dflt).kind !=(ys.getD i.toNat eD.dflt).kind||(!conj ([(xs.getD i.toNat eD.dflt).fn.kind==(ys.getD i.toNat eD.dflt).fn.kind]++([(xs.getD i.toNat eD.dflt).fn.a==(ys.getD i.toNat eD.dflt).fn.a]++([decide ((xs.getD i.toNat eD.dflt).fn.s=(ys.getD i.toNat eD.dflt).fn.s)]++[])))||(!decide ((xs.getD i.toNat eD.dflt).name=(ys.getD i.toNat eD.dflt).name)||((xs.getD i.toNat eD.dflt).cap !=(ys.getD i.toNat eD.dflt).cap||((xs.getD i.toNat eD.dflt).d !=(ys.getD i.toNat eD.dflt).d||(↑(xs.getD i.toNat eD.dflt).ins.length:Int)!=(↑(ys.getD i.toNat eD.dflt).ins.length:Int))))))then(Ex.ret,eD.ag xs,eD.ag ys,i,false)else bif exB Ex.ret (q1s xs ys i r).fst then(Ex.ret,eD.ag xs,eD.ag ys,i,(q1s xs ys i r).snd.snd.snd.snd.snd.snd)else(Ex.normal,eD.ag xs,eD.ag ys,IntKind.i64.wrap (i+(1:Int)),(q1s xs ys i r).snd.snd.snd.snd.snd.snd))))/\(cs.isEmpty=false->((0:Int)<=i/\i<(↑xs.length:Int))/\((0:Int)<=i/\i<(↑ys.length:Int))/\(((xs.getD i.toNat eD.dflt).id !=(ys.getD i.toNat eD.dflt).id||((xs.getD i.toNat eD.dflt).kind !=(ys.getD i.toNat eD.dflt).kind||(!conj ([(xs.getD i.toNat eD.dflt).fn.kind==(ys.getD i.toNat eD.dflt).fn.kind]++([(xs.getD i.toNat eD.dflt).fn.a==(ys.getD i.toNat eD.dflt).fn.a]++([decide ((xs.getD i.toNat eD.dflt).fn.s=(ys.getD i.toNat eD.dflt).fn.s)]++[])))||(!decide ((xs.getD i.toNat eD.dflt).name=(ys.getD i.toNat eD.dflt).name)||((xs.getD i.toNat eD.dflt).cap !=(ys.getD i.toNat eD.dflt).cap||((xs.getD i.toNat eD.dflt).d !=(ys.getD i.toNat eD.dflt).d||(↑(xs.getD i.toNat eD.dflt).ins.length:Int)!=(↑(ys.getD i.toNat eD.dflt).ins.length:Int)))))))=true->eD.okL xs/\eD.okL ys/\∀(d:Ex×List Nd×List Nd×Int×Bool),(Ex.ret,eD.ag xs,eD.ag ys,i,false)=bif (xs.getD i.toNat eD.dflt).id !=(ys.getD i.toNat eD.dflt).id||((xs.getD i.toNat eD.dflt).kind !=(ys.getD i.toNat eD.dflt).kind||(!conj ([(xs.getD i.toNat eD.dflt).fn.kind==(ys.getD i.toNat eD.dflt).fn.kind]++([(xs.getD i.toNat eD.dflt).fn.a==(ys.getD i.toNat eD.dflt).fn.a]++([decide ((xs.getD i.toNat eD.dflt).fn.s=(ys.getD i.toNat eD.dflt).fn.s)]++[])))||(!decide ((xs.getD i.toNat eD.dflt).name=(ys.getD i.toNat eD.dflt).name)||((xs.getD i.toNat eD.dflt).cap !=(ys.getD i.toNat eD.dflt).cap||((xs.getD i.toNat eD.dflt).d !=(ys.getD i.toNat eD.dflt).d||(↑(xs.getD i.toNat eD.dflt).ins.length:Int)!=(↑(ys.getD i.toNat eD.dflt).ins.length:Int))))))then(Ex.ret,eD.ag xs,eD.ag ys,i,false)else bif exB Ex.ret (q1s xs ys i r).fst then(Ex.ret,eD.ag xs,eD.ag ys,i,(q1s xs ys i r).snd.snd.snd.snd.snd.snd)else(Ex.normal,eD.ag xs,eD.ag ys,IntKind.i64.wrap (i+(1:Int)),(q1s xs ys i r).snd.snd.snd.snd.snd.snd))/\(((xs.getD i.toNat eD.dflt).id !=(ys.getD i.toNat eD.dflt).id||((xs.getD i.toNat eD.dflt).kind !=(ys.getD i.toNat eD.dflt).kind||(!conj ([(xs.getD i.toNat eD.dflt).fn.kind==(ys.getD i.toNat eD.dflt).fn.kind]++([(xs.getD i.toNat eD.dflt).fn.a==(ys.getD i.toNat eD.dflt).fn.a]++([decide ((xs.getD i.toNat eD.dflt).fn.s=(ys.getD i.toNat eD.dflt).fn.s)]++[])))||(!decide ((xs.getD i.toNat eD.dflt).name=(ys.getD i.toNat eD.dflt).name)||((xs.getD i.toNat eD.dflt).cap !=(ys.getD i.toNat eD.dflt).cap||((xs.getD i.toNat eD.dflt).d !=(ys.getD i.toNat eD.dflt).d||(↑(xs.getD i.toNat eD.dflt).ins.length:Int)!=(↑(ys.getD i.toNat eD.dflt).ins.length:Int)))))))=false->eI.okL (xs.getD i.toNat eD.dflt).ins/\eI.okL (ys.getD i.toNat eD.dflt).ins/\Lp.ixJ (λc=>(↑c.fst.ins.length:Int)) (λc=>c.fst.ins) gio_K (gio_f ((),Nd.mk (xs.getD i.toNat eD.dflt).id (xs.getD i.toNat eD.dflt).kind (eI.ag (xs.getD i.toNat eD.dflt).ins) (xs.getD i.toNat eD.dflt).fn (xs.getD i.toNat eD.dflt).name (xs.getD i.toNat eD.dflt).cap (xs.getD i.toNat eD.dflt).d,(),Nd.mk (ys.getD i.toNat eD.dflt).id (ys.getD i.toNat eD.dflt).kind (eI.ag (ys.getD i.toNat eD.dflt).ins) (ys.getD i.toNat eD.dflt).fn (ys.getD i.toNat eD.dflt).name (ys.getD i.toNat eD.dflt).cap (ys.getD i.toNat eD.dflt).d,(0:Int),r))/\(exB Ex.ret (gou_q2 xs ys i r).fst=true->eD.okL xs/\eD.okL ys/\∀(d:Ex×List Nd×List Nd×Int×Bool),(Ex.ret,eD.ag xs,eD.ag ys,i,(gou_q2 xs ys i r).snd.snd.snd.snd.snd.snd)=bif (xs.getD i.toNat eD.dflt).id !=(ys.getD i.toNat eD.dflt).id||((xs.getD i.toNat eD.dflt).kind !=(ys.getD i.toNat eD.dflt).kind||(!conj ([(xs.getD i.toNat eD.dflt).fn.kind==(ys.getD i.toNat eD.dflt).fn.kind]++([(xs.getD i.toNat eD.dflt).fn.a==(ys.getD i.toNat eD.dflt).fn.a]++([decide ((xs.getD i.toNat eD.dflt).fn.s=(ys.getD i.toNat eD.dflt).fn.s)]++[])))||(!decide ((xs.getD i.toNat eD.dflt).name=(ys.getD i.toNat eD.dflt).name)||((xs.getD i.toNat eD.dflt).cap !=(ys.getD i.toNat eD.dflt).cap||((xs.getD i.toNat eD.dflt).d !=(ys.getD i.toNat eD.dflt).d||(↑(xs.getD i.toNat eD.dflt).ins.length:Int)!=(↑(ys.getD i.toNat eD.dflt).ins.length:Int))))))then(Ex.ret,eD.ag xs,eD.ag ys,i,false)else bif exB Ex.ret (q1s xs ys i r).fst then(Ex.ret,eD.ag xs,eD.ag ys,i,(q1s xs ys i r).snd.snd.snd.snd.snd.snd)else(Ex.normal,eD.ag xs,eD.ag ys,IntKind.i64.wrap (i+(1:Int)),(q1s xs ys i r).snd.snd.snd.snd.snd.snd))/\(exB Ex.ret (gou_q2 xs ys i r).fst=false->eD.okL xs/\eD.okL ys/\∀(d:Ex×List Nd×List Nd×Int×Bool),(Ex.normal,eD.ag xs,eD.ag ys,IntKind.i64.wrap (i+(1:Int)),(gou_q2 xs ys i r).snd.snd.snd.snd.snd.snd)=bif (xs.getD i.toNat eD.dflt).id !=(ys.getD i.toNat eD.dflt).id||((xs.getD i.toNat eD.dflt).kind !=(ys.getD i.toNat eD.dflt).kind||(!conj ([(xs.getD i.toNat eD.dflt).fn.kind==(ys.getD i.toNat eD.dflt).fn.kind]++([(xs.getD i.toNat eD.dflt).fn.a==(ys.getD i.toNat eD.dflt).fn.a]++([decide ((xs.getD i.toNat eD.dflt).fn.s=(ys.getD i.toNat eD.dflt).fn.s)]++[])))||(!decide ((xs.getD i.toNat eD.dflt).name=(ys.getD i.toNat eD.dflt).name)||((xs.getD i.toNat eD.dflt).cap !=(ys.getD i.toNat eD.dflt).cap||((xs.getD i.toNat eD.dflt).d !=(ys.getD i.toNat eD.dflt).d||(↑(xs.getD i.toNat eD.dflt).ins.length:Int)!=(↑(ys.getD i.toNat eD.dflt).ins.length:Int))))))then(Ex.ret,eD.ag xs,eD.ag ys,i,false)else bif exB Ex.ret (q1s xs ys i r).fst then(Ex.ret,eD.ag xs,eD.ag ys,i,(q1s xs ys i r).snd.snd.snd.snd.snd.snd)else(Ex.normal,eD.ag xs,eD.ag ys,IntKind.i64.wrap (i+(1:Int)),(q1s xs ys i r).snd.snd.snd.snd.snd.snd)))))/\(decide (i<(↑xs.length:Int))=false->eD.okL xs/\eD.okL ys)
theorem gou_one:((q00 Tryd.prog 15).filter λc=>Nat.beq (lkey c) 4).length=1:=by kernel_rfl
abbrev q54:Type:=List Nd×List Nd
abbrev gou_GB:Type:=Bool
def gou_f(g:gou_G):Int×q54×gou_GB:=(g.2.2.1,(g.1,g.2.1),g.2.2.2)
def gou_g(d:Int×q54×gou_GB):gou_G:=(d.2.1.1,d.2.1.2,d.1,d.2.2)
abbrev gou_rr(g:gou_G):Ex×gou_G:=gou_R g.1 g.2.1 g.2.2.1 g.2.2.2
abbrev gou_ss(g:gou_G):Prop:=gou_side g.1 g.2.1 g.2.2.1 g.2.2.2
theorem gou_es(g:gou_G):(gou_rr g).1=.normal\/(gou_rr g).1∈([.ret,.exit 0]:List Ex):=by
 unfold gou_rr gou_R
 repeat' (first|(left;rfl)|(right;simp only[cond_true,cond_false];simp;done)|(rw[Bool.cond_eq_ite];split))
abbrev gou_C(Inv:gou_G->List Prop)(m:gou_G->Nat):LCon:=loopR [.ret,.exit 0] (loopBody Tryd.prog 15 4) gou_LP [] 100 Inv gou_rr m
theorem gou_loop(Inv:gou_G->List Prop)(m:gou_G->Nat)(hs:∀g,allP (Inv g)->gou_ss g)(hg:Goes gou_rr m λg=>allP (Inv g)):∀b∈q00 Tryd.prog 15,lkey b=4->q04 Tryd.prog b (gou_C Inv m).g:=q0h (Γ:=(PTab.gamz tabD4 [] [])) (Λ:=lamE2) (PTab.okz tabD4 [] []) lamE2_ok 100 15 4 100 gou_LP [] Inv gou_rr gou_ss m default [.ret,.exit 0] gou_one (λrd T B HL HB ds g=>by kernel_rfl) (λrd T B HL HB ds g=>by kernel_rfl) hs hg gou_es
def nsZ(x y:Nd):Bool:=x.id !=y.id||(x.kind !=y.kind||(!decide (x.fn=y.fn)||(!decide (x.name=y.name)||(x.cap !=y.cap||(x.d !=y.d||(x.ins.length:Int)!=(y.ins.length:Int))))))
theorem nsZ_true{x y:Nd}(h:nsZ x y=true):decide (x=y)=false:=by
 refine decide_eq_false λe=>?_;subst e;simp[nsZ]at h
theorem nsZ_false{x y:Nd}(h:nsZ x y=false):x.ins.length=y.ins.length/\decide (x=y)=decide (x.ins=y.ins):=by
 obtain⟨x1,x2,x3,x4,x5,x6,x7⟩:=x;obtain⟨y1,y2,y3,y4,y5,y6,y7⟩:=y;simp only[nsZ,Bool.or_eq_false_iff,bne_eq_false_iff_eq,Bool.not_eq_false',decide_eq_true_eq]at h;obtain⟨h1,h2,h3,h4,h5,h6,h7⟩:=h;subst h1 h2 h3 h4 h5 h6;refine⟨by show x3.length=y3.length;omega,?_⟩;rw[Bool.eq_iff_iff];simp
theorem gin_res(x y:Nd)(r:Bool)(hm:x.ins.length<=maxLen)(hl:x.ins.length=y.ins.length):(loopF gin_RR gin_M (gin_g (0,(x,y),(r,(),())))).1=(bif decide (x.ins=y.ins)then .exit 2 else .ret)/\(loopF gin_RR gin_M (gin_g (0,(x,y),(r,(),())))).2.2.2.2.2.2=bif decide (x.ins=y.ins)then r else false:=by
 rw[gin_run (x,y) (r,(),()) rfl hm hl];obtain⟨h3,h4⟩:=scanEq (x:=2) eI.dflt x.ins y.ins hl (st:=gin_S (x,y)) (r:=λ_=>(false,(),())) (λ_ _ _=>rfl) (r,(),());refine⟨h3,?_⟩;show(scan 2 (gin_S (x,y)) 0 x.ins (r,(),())).2.2.1=_;rw[h4];cases decide (x.ins=y.ins)<;>rfl
def gou_S(c:q54)(b:gou_GB)(i:Int)(v:Nd):Ex×gou_GB:=bif !decide (v=c.2.getD i.toNat eD.dflt)then(.ret,false)else(.normal,b)
def gou_K(c:q54)(b:gou_GB)(i:Int):Prop:=c.1.length=c.2.length/\∀e:Nat,(c.1.getD e eD.dflt).ins.length<=maxLen
abbrev gou_I(g:gou_G):List Prop:=ixI (λc:q54=>(c.1.length:Int)) (λc:q54=>c.1) gou_K (gou_f g)
abbrev gou_M(g:gou_G):Nat:=ixM (λc:q54=>(c.1.length:Int)) (gou_f g)
theorem gou_P:ixP gou_S (λc:q54=>c.1) gou_K:=λ_ _ _ _ h _ _=>h
abbrev gou_RR(g:gou_G):Ex×gou_G:=gou_R g.1 g.2.1 g.2.2.1 g.2.2.2
theorem gou_qs(xs ys:List Nd)(i:Int)(r:Bool):q1s xs ys i r=loopF gin_RR gin_M (gin_g (0,(xs.getD i.toNat eD.dflt,ys.getD i.toNat eD.dflt),(r,(),()))):=by
 unfold q1s;simp only[El.ag_eq];rfl
theorem gou_qs2(xs ys:List Nd)(i:Int)(r:Bool):gou_q2 xs ys i r=q1s xs ys i r:=rfl
theorem gou_step(xs ys:List Nd)(i:Int)(r:Bool)(hm:∀e:Nat,(xs.getD e eD.dflt).ins.length<=maxLen):(bif nsZ (xs.getD i.toNat eD.dflt) (ys.getD i.toNat eD.dflt)then((Ex.ret,xs,ys,i,false):Ex×gou_G)else bif exB Ex.ret (q1s xs ys i r).fst then(Ex.ret,xs,ys,i,(q1s xs ys i r).snd.snd.snd.snd.snd.snd)else(Ex.normal,xs,ys,IntKind.i64.wrap (i+(1:Int)),(q1s xs ys i r).snd.snd.snd.snd.snd.snd))
  =bif !decide (xs.getD i.toNat eD.dflt=ys.getD i.toNat eD.dflt)then(.ret,xs,ys,i,false)else(.normal,xs,ys,IntKind.i64.wrap (i+1),r):=by
 cases hz:nsZ (xs.getD i.toNat eD.dflt) (ys.getD i.toNat eD.dflt)with
 |true=>rw[nsZ_true hz];rfl
 |false=>
  obtain⟨hl,he⟩:=nsZ_false hz;obtain⟨h1,h2⟩:=gin_res _ _ r (hm i.toNat) hl;rw[<-gou_qs]at h1 h2;rw[h1,h2,he];cases decide ((xs.getD i.toNat eD.dflt).ins=(ys.getD i.toNat eD.dflt).ins)<;>rfl
theorem gou_RF(d:Int×q54×gou_GB)(hi:allP (ixI (λc:q54=>(c.1.length:Int)) (λc:q54=>c.1) gou_K d)):gou_RR (gou_g d)=((ixF 0 (λc:q54=>(c.1.length:Int)) (λc:q54=>c.1) eD.dflt gou_S d).1,gou_g (ixF 0 (λc:q54=>(c.1.length:Int)) (λc:q54=>c.1) eD.dflt gou_S d).2):=by
 obtain⟨i,⟨xs,ys⟩,r⟩:=d;have hm:=(hi _ (List.mem_cons_self ..)).2.2.2.2.2;show gou_R xs ys i r=_;unfold gou_R ixF gou_S;simp only[El.ag_eq,conj_eF];have hs:=gou_step xs ys i r hm;unfold nsZ at hs;rw[hs];cases decide (i<(xs.length:Int))with
 |false=>rfl
 |true=>
  simp only[cond_true];generalize (!decide ((xs.getD i.toNat eD.dflt)=ys.getD i.toNat eD.dflt))=z;cases z<;>rfl
theorem gou_ok:∀b∈q00 Tryd.prog 15,lkey b=4->q04 Tryd.prog b (gou_C gou_I gou_M).g:=by
 refine gou_loop gou_I gou_M (λg hi=>?_) (q09 (λ_=>rfl) (λ_=>rfl) gou_RF gou_P);obtain⟨xs,ys,i,r⟩:=g;obtain⟨h1,h2,h3,h4,h5,h6⟩:=hi _ (List.mem_cons_self ..);have h3:0<=i:=h3;have h5:xs.length=ys.length:=h5;have hm:=h6;show gou_side xs ys i r;unfold gou_side;simp only[El.okL_eq,El.ag_eq,true_and,and_true,conj_eF,gou_qs2];have hs:=gou_step xs ys i r h6;have hj:nsZ (xs.getD i.toNat eD.dflt) (ys.getD i.toNat eD.dflt)=false->(xs.getD i.toNat eD.dflt).ins.length<=maxLen/\(xs.getD i.toNat eD.dflt).ins.length=(ys.getD i.toNat eD.dflt).ins.length:=λhz=>⟨hm _,(nsZ_false hz).1⟩;refine⟨λhlt cs=>?_,λ_=>trivial⟩;have hlt:=of_decide_eq_true hlt;have h0:(0<=i/\i<(xs.length:Int))/\0<=i/\i<(ys.length:Int):=⟨⟨h3,hlt⟩,h3,by omega⟩;clear hs hm h6 h1 h2 h4;have hz0:∀z,nsZ (xs.getD i.toNat eD.dflt) (ys.getD i.toNat eD.dflt)=z->nsZ (xs.getD i.toNat eD.dflt) (ys.getD i.toNat eD.dflt)=z:=λ_ h=>h;refine⟨λ_=>⟨h0.1,h0.2,λhz d=>?_,λhz=>⟨ixJ0 rfl (hj hz).1 (hj hz).2,λhe d=>?_,λhe d=>?_⟩⟩,λ_=>⟨h0.1,h0.2,λhz d=>?_,λhz=>⟨ixJ0 rfl (hj hz).1 (hj hz).2,λhe d=>?_,λhe d=>?_⟩⟩⟩
 all_goals (first|(rw[hz];rfl)|(rw[hz,cond_false,he];rfl))
theorem gou_run(xs ys:List Nd)(r:Bool)(hl:xs.length<=maxLen)(hK:gou_K (xs,ys) r 0):loopF gou_RR gou_M (gou_g (0,(xs,ys),r))=((scan 0 (gou_S (xs,ys)) 0 xs r).1,gou_g ((scan 0 (gou_S (xs,ys)) 0 xs r).2.1,(xs,ys),(scan 0 (gou_S (xs,ys)) 0 xs r).2.2)):=
 q0e (φ:=gou_f) (ψ:=gou_g) (λ_=>rfl) (λ_=>rfl) gou_RF gou_P (xs,ys) r rfl hl hK
def ltE4:LTab Tryd.prog:=ltE2.cons 15 4 (lconFrz [2,3] (gou_C gou_I gou_M)) (λb hb hk=>frzLoop_ok (gou_ok b hb hk))
abbrev lamE4:Lam:=ltE4.lam
theorem lamE4_ok:∀f k L,lamE4 f k=some L->∀b∈q00 Tryd.prog f,lkey b=k->q04 Tryd.prog b L.g:=ltE4.ok
abbrev dG:Dv (List Nd):=.agg eLD
abbrev aGG:DA (List Nd×List Nd):=.cons dG (.one dG)
def gsm_q1(a:List Nd)(b:List Nd):Ex×
 gou_G:=
 loopF (λg=>gou_R g.fst g.snd.fst g.snd.snd.fst g.snd.snd.snd) gou_M (eD.ag a,eD.ag b,(0:Int),false)
def gsm_F(a:List Nd)(b:List Nd):Dv.T dBool:=
 bif (↑a.length:Int)!=(↑b.length:Int)then false
 else bif exB Ex.ret (gsm_q1 a b).fst then(gsm_q1 a b).snd.snd.snd.snd else true
def gsm_side(a:List Nd)(b:List Nd):Prop:=
 ((↑a.length:Int)!=(↑b.length:Int))=false->eD.okL a/\eD.okL b/\Lp.ixJ (λc=>(↑c.fst.length:Int)) (λc=>c.fst) gou_K (gou_f (eD.ag a,eD.ag b,(0:Int),false))
theorem gsm_okS(pre:DA.T aGG->List Prop)(h:∀g,DA.bd aGG g->(∀p∈pre g,p)->gsm_side g.1 g.2):FnPure Tryd.prog 15 aGG dBool (λg=>gsm_F g.1 g.2) pre:=q05 (Γ:=(PTab.gamz tabD4 [] [])) (Λ:=lamE4) (PTab.okz tabD4 [] []) lamE4_ok 100 default (λg=>gsm_side g.1 g.2) (λg=>by kernel_rfl) (λg=>by kernel_rfl) h
theorem nds_len(a:List Nd)(h:∀x∈a,eD.bd x)(e:Nat):(a.getD e eD.dflt).ins.length<=maxLen:=by
 by_cases he:e<a.length
 .rw[List.getD_eq_getElem?_getD,List.getElem?_eq_getElem he];have h:eD.bd a[e]:=h _ (List.getElem_mem he);exact h.2.2.1.1
 .rw[List.getD_eq_getElem?_getD,List.getElem?_eq_none (by omega)];exact Nat.zero_le _
theorem gsm_ok:FnPure Tryd.prog 15 aGG dBool (λg=>decide (g.1=g.2)) (λ_=>[]):=by
 refine q0d (gsm_okS (λ_=>[]) λg hb _=>?_) λg hb _=>?_
 all_goals (obtain⟨a,b⟩:=g;have ha:a.length<=maxLen:=hb.1.1;have hi:=nds_len a hb.1.2)
 .show gsm_side a b;unfold gsm_side;simp only[El.okL_eq,El.ag_eq];exactλhc=>⟨trivial,trivial,ixJ0 rfl ha ⟨qb5 hc,hi⟩⟩
 show gsm_F a b=decide (a=b)
 have hq:gsm_q1 a b=loopF gou_RR gou_M (gou_g (0,(a,b),false)):=by
  unfold gsm_q1;rw[El.ag_eq,El.ag_eq];rfl
 unfold gsm_F;cases hc:((a.length:Int)!=(b.length:Int))with
 |true=>
  have:a≠b:=λe=>by subst e;simp at hc
  simp[this]
 |false=>
  have hl:=qb5 hc;obtain⟨h3,h4⟩:=scanEq (x:=0) eD.dflt a b hl (st:=gou_S (a,b)) (r:=λ_=>false) (λ_ _ _=>rfl) false;rw[hq,gou_run a b false ha ⟨hl,hi⟩];show(bif exB .ret (scan 0 (gou_S (a,b)) 0 a false).1 then(scan 0 (gou_S (a,b)) 0 a false).2.2 else true)=_;rw[h3,h4];cases decide (a=b)<;>rfl
def tabE6:PTab Tryd.prog:=tabD4.cons 15 (pconP aGG dBool (λg=>decide (g.1=g.2)) (λ_=>[])) (q0o gsm_ok puB)
def rdsm_q1(a:Dl)(b:Dl):Ex×
 mvl_G:=
 loopF (λg=>mvl_R g.fst g.snd.fst g.snd.snd.fst g.snd.snd.snd.fst g.snd.snd.snd.snd.fst g.snd.snd.snd.snd.snd) mvl_M ((),Dl.mk (eI.ag a.drop) (eD.ag a.put) (eV.ag a.moves),(),Dl.mk (eI.ag b.drop) (eD.ag b.put) (eV.ag b.moves),(0:Int),false)
def rdsm_F(a:Dl)(b:Dl):Dv.T dBool:=
 bif !decide (eI.ag a.drop=eI.ag b.drop)||(!decide (eD.ag a.put=eD.ag b.put)||(↑a.moves.length:Int)!=(↑b.moves.length:Int))then false
 else bif exB Ex.ret (rdsm_q1 a b).fst then(rdsm_q1 a b).snd.snd.snd.snd.snd.snd else true
def q9b(a:Dl)(b:Dl):Prop:=
 eI.okL a.drop/\eI.okL b.drop/\((!!decide (eI.ag a.drop=eI.ag b.drop))=true->eD.okL a.put)/\((!!decide (eI.ag a.drop=eI.ag b.drop))=true->eD.okL b.put)/\((!decide (eI.ag a.drop=eI.ag b.drop)||(!decide (eD.ag a.put=eD.ag b.put)||(↑a.moves.length:Int)!=(↑b.moves.length:Int)))=false->eI.okL a.drop/\eD.okL a.put/\eV.okL a.moves/\eI.okL b.drop/\eD.okL b.put/\eV.okL b.moves/\Lp.ixJ (λc=>(↑c.fst.moves.length:Int)) (λc=>c.fst.moves) mvl_K (mvl_f ((),Dl.mk (eI.ag a.drop) (eD.ag a.put) (eV.ag a.moves),(),Dl.mk (eI.ag b.drop) (eD.ag b.put) (eV.ag b.moves),(0:Int),false)))
theorem rdsm_okS(pre:DA.T aDlDl->List Prop)(h:∀g,DA.bd aDlDl g->(∀p∈pre g,p)->q9b g.1 g.2):FnPure Tryd.prog 27 aDlDl dBool (λg=>rdsm_F g.1 g.2) pre:=q05 (Γ:=(PTab.gamz tabE6 [] [])) (Λ:=lamE4) (PTab.okz tabE6 [] []) lamE4_ok 100 default (λg=>q9b g.1 g.2) (λg=>by kernel_rfl) (λg=>by kernel_rfl) h
end
end Go.Proofs.YtapdglacmebbaaaDoor

namespace Go.Proofs.YtapdglacmebbaaaDoor
open Go.RowKit Go.Sx Go.Lp
theorem rdsm_ok:FnPure Tryd.prog 27 aDlDl dBool (λg=>decide (g.1=g.2)) (λ_=>[]):=by
 refine q0d (rdsm_okS (λ_=>[]) λg hb _=>?_) λg hb _=>?_
 all_goals (obtain⟨a,b⟩:=g;have ha:a.moves.length<=maxLen:=hb.1.2.2.1)
 .show q9b a b;unfold q9b;simp only[El.okL_eq,El.ag_eq,implies_true,true_and];intro h;simp only[Bool.or_eq_false_iff]at h;exact ixJ0 rfl ha (qb5 h.2.2)
 show rdsm_F a b=decide (a=b)
 have hq:rdsm_q1 a b=loopF mvl_RR mvl_M (mvl_g (0,(a,b),false,(),())):=by
  unfold rdsm_q1;simp only[El.ag_eq];rfl
 unfold rdsm_F;simp only[El.ag_eq];cases hc:(!decide (a.drop=b.drop)||(!decide (a.put=b.put)||(a.moves.length:Int)!=(b.moves.length:Int)))with
 |true=>
  have:a≠b:=λe=>by subst e;simp at hc
  simp[this]
 |false=>
  simp only[Bool.or_eq_false_iff,Bool.not_eq_false',decide_eq_true_eq]at hc;obtain⟨h1,h2,h3⟩:=hc;have hl:=qb5 h3;obtain⟨h3,h4⟩:=scanEq (x:=0) eV.dflt a.moves b.moves hl (st:=mvl_S (a,b)) (r:=λ_=>(false,(),())) (λ_ _ _=>rfl) (false,(),());rw[hq,mvl_run (a,b) (false,(),()) rfl ha hl];show(bif exB .ret (scan 0 (mvl_S (a,b)) 0 a.moves (false,(),())).1 then(scan 0 (mvl_S (a,b)) 0 a.moves (false,(),())).2.2.1 else true)=_;rw[h3,h4]
  have:decide (a=b)=decide (a.moves=b.moves):=by
   obtain⟨a1,a2,a3⟩:=a;obtain⟨b1,b2,b3⟩:=b;simp only at h1 h2;subst h1 h2;rw[Bool.eq_iff_iff];simp
  rw[this];cases decide (a.moves=b.moves)<;>rfl
end Go.Proofs.YtapdglacmebbaaaDoor

namespace Go.Proofs.YtapdglacmebbaaaDoor
noncomputable section
open Go.RowKit Go.Sx
structure Opn where
 kind:Int
 wk:Int
 dst:Int
 nd:Int
 ep:Int
 recs:List Rec
 dl:Dl
deriving DecidableEq,Inhabited
abbrev OpP:=Int×Int×Int×Int×Int×List Rec×Dl
def Opn.ofP:OpP->Opn:=λ(a,b,c,d,e,f,g)=>⟨a,b,c,d,e,f,g⟩
def Opn.toP(x:Opn):OpP:=(x.kind,x.wk,x.dst,x.nd,x.ep,x.recs,x.dl)
def eO:El Opn:=.iso (.pair eI (.pair eI (.pair eI (.pair eI (.pair eI (.pair eLR eDl)))))) Opn.ofP Opn.toP (λ_=>rfl) (λ_=>rfl)
abbrev dO:Dv Opn:=.agg eO
abbrev aO:DA Opn:=.one dO
abbrev aOO:DA (Opn×Opn):=.cons dO (.one dO)
abbrev dOE:Dv (Opn×Int):=.tup (.cons dO (.one dI))
abbrev dFr:Dv Unit:=dFnA 68 .none
abbrev dFd:Dv Unit:=dFnA 71 .none
abbrev dFv:Dv Unit:=dFnA 73 .none
abbrev aFr:DA (List Rec×Unit):=.cons dLR (.one dFr)
abbrev aFd:DA (List Nd×Unit):=.cons dLD (.one dFd)
abbrev aFv:DA (List Mv×Unit):=.cons dLV (.one dFv)
def tabQ0:MTab Tryd.prog:=tabP6.cons 27 (pconP aDlDl dBool (λg=>decide (g.1=g.2)) (λ_=>[])) (q0o rdsm_ok puB)
abbrev cDl:CT Dl:=.iso (.pair (.row 3 eI) (.pair (.row 44 eD) (.row 65 eV))) (λp=>⟨p.1,p.2.1,p.2.2⟩) (λl=>(l.drop,l.put,l.moves)) (λ_=>rfl)
abbrev w1_G:Type:=List Rec×Int×Int×List BA
def w1_LP:LP 3 w1_G:=.pair (.slot 3 25 dLR) (.pair (.slot 3 26 dI) (.pair (.slot 3 27 dI) (.row 3 3 9 eStr)))
def w1_R(xs:List Rec)(n:Int)(i:Int)(o:List BA):Ex×w1_G:=
 bif decide (i<n)then(Ex.normal,eR.ag xs,n,IntKind.i64.wrap (i+(1:Int)),eStr.lst (min (o.length+(1:Nat)) o.length) (eStr.els o)++List.map (λx=>textS (xs.getD i.toNat eR.dflt)) (List.range (o.length+(1:Nat)-o.length)))
 else(Ex.exit (1:Nat),eR.ag xs,n,i,eStr.ag o)
def w1_side(xs:List Rec)(n:Int)(i:Int)(o:List BA):Prop:=
 (decide (i<n)=true->((0:Int)<=i/\i<(↑xs.length:Int))/\i64 (xs.getD i.toNat eR.dflt).key/\(o.length<=o.length/\True/\o.length+(1:Nat)<=maxLen/\(o.length+(1:Nat))*Tryd.prog.types[(9:Nat)].bytes<=(140737488355328:Nat))/\eR.okL xs/\o.length+(1:Nat)<=o.length+(1:Nat)/\(∀(e:Nat),e<min (o.length+(1:Nat)) o.length->True)/\∀(e:Nat),e<o.length+(1:Nat)-o.length->True)/\(decide (i<n)=false->eR.okL xs/\o.length<=o.length/\∀(e:Nat),e<o.length->True)
theorem w1_one:((q00 Tryd.prog 24).filter λc=>Nat.beq (lkey c) 5).length=1:=by kernel_rfl
abbrev w1_GC:Type:=List Rec×Int
abbrev w1_GB:Type:=List BA
def w1_f(g:w1_G):Int×w1_GC×w1_GB:=(g.2.2.1,(g.1,g.2.1),g.2.2.2)
def w1_g(d:Int×w1_GC×w1_GB):w1_G:=(d.2.1.1,d.2.1.2,d.1,d.2.2)
abbrev w1_rr(g:w1_G):Ex×w1_G:=w1_R g.1 g.2.1 g.2.2.1 g.2.2.2
abbrev w1_ss(g:w1_G):Prop:=w1_side g.1 g.2.1 g.2.2.1 g.2.2.2
theorem w1_es(g:w1_G):(w1_rr g).1=.normal\/(w1_rr g).1∈([.exit 1]:List Ex):=by
 unfold w1_rr w1_R
 repeat' (first|(left;rfl)|(right;simp only[cond_true,cond_false];simp;done)|(rw[Bool.cond_eq_ite];split))
abbrev w1_C(Inv:w1_G->List Prop)(m:w1_G->Nat):LCon:=loopR [.exit 1] (loopBody Tryd.prog 24 5) w1_LP [] 130 Inv w1_rr m
theorem w1_loop(Inv:w1_G->List Prop)(m:w1_G->Nat)(hs:∀g,allP (Inv g)->w1_ss g)(hg:Goes w1_rr m λg=>allP (Inv g)):∀b∈q00 Tryd.prog 24,lkey b=5->q04 Tryd.prog b (w1_C Inv m).g:=q0h (Γ:=(MTab.gamz tabQ0 [] [])) (Λ:=lamP2) (MTab.okz tabQ0 [] []) q34 100 24 5 130 w1_LP [] Inv w1_rr w1_ss m default [.exit 1] w1_one (λrd T B HL HB ds g=>by kernel_rfl) (λrd T B HL HB ds g=>by kernel_rfl) hs hg w1_es
abbrev w2_G:Type:=List Int×Int×Int×List BA
def w2_LP:LP 3 w2_G:=.pair (.slot 3 89 dLI) (.pair (.slot 3 90 dI) (.pair (.slot 3 91 dI) (.row 3 6 9 eStr)))
def w2_R(xs:List Int)(n:Int)(i:Int)(o:List BA):Ex×w2_G:=
 bif decide (i<n)then(Ex.normal,eI.ag xs,n,IntKind.i64.wrap (i+(1:Int)),eStr.lst (min (o.length+(2:Nat)) o.length) (eStr.els o)++(List.map (λx=>ByteArray.mk #[(100:UInt8),(114:UInt8),(111:UInt8),(112:UInt8)]) (List.range (min (o.length+(2:Nat)-o.length) (1:Nat)))++List.map (λx=>numS (xs.getD i.toNat eI.dflt)) (List.range (o.length+(2:Nat)-o.length-(1:Nat)))))
 else(Ex.exit (3:Nat),eI.ag xs,n,i,eStr.ag o)
def w2_side(xs:List Int)(n:Int)(i:Int)(o:List BA):Prop:=
 (decide (i<n)=true->((0:Int)<=i/\i<(↑xs.length:Int))/\i64 (xs.getD i.toNat eI.dflt)/\(o.length<=o.length/\True/\o.length+(2:Nat)<=maxLen/\(o.length+(2:Nat))*Tryd.prog.types[(9:Nat)].bytes<=(140737488355328:Nat))/\eI.okL xs/\o.length+(2:Nat)<=o.length+(2:Nat)/\(∀(e:Nat),e<min (o.length+(2:Nat)) o.length->True)/\(∀(e:Nat),e<min (o.length+(2:Nat)-o.length) (1:Nat)->True)/\∀(e:Nat),e<o.length+(2:Nat)-o.length-(1:Nat)->True)/\(decide (i<n)=false->eI.okL xs/\o.length<=o.length/\∀(e:Nat),e<o.length->True)
theorem w2_one:((q00 Tryd.prog 24).filter λc=>Nat.beq (lkey c) 24).length=1:=by kernel_rfl
abbrev w2_GC:Type:=List Int×Int
abbrev w2_GB:Type:=List BA
def w2_f(g:w2_G):Int×w2_GC×w2_GB:=(g.2.2.1,(g.1,g.2.1),g.2.2.2)
def w2_g(d:Int×w2_GC×w2_GB):w2_G:=(d.2.1.1,d.2.1.2,d.1,d.2.2)
abbrev w2_rr(g:w2_G):Ex×w2_G:=w2_R g.1 g.2.1 g.2.2.1 g.2.2.2
abbrev w2_ss(g:w2_G):Prop:=w2_side g.1 g.2.1 g.2.2.1 g.2.2.2
theorem w2_es(g:w2_G):(w2_rr g).1=.normal\/(w2_rr g).1∈([.exit 3]:List Ex):=by
 unfold w2_rr w2_R
 repeat' (first|(left;rfl)|(right;simp only[cond_true,cond_false];simp;done)|(rw[Bool.cond_eq_ite];split))
abbrev w2_C(Inv:w2_G->List Prop)(m:w2_G->Nat):LCon:=loopR [.exit 3] (loopBody Tryd.prog 24 24) w2_LP [] 130 Inv w2_rr m
theorem w2_loop(Inv:w2_G->List Prop)(m:w2_G->Nat)(hs:∀g,allP (Inv g)->w2_ss g)(hg:Goes w2_rr m λg=>allP (Inv g)):∀b∈q00 Tryd.prog 24,lkey b=24->q04 Tryd.prog b (w2_C Inv m).g:=q0h (Γ:=(MTab.gamz tabQ0 [] [])) (Λ:=lamP2) (MTab.okz tabQ0 [] []) q34 100 24 24 130 w2_LP [] Inv w2_rr w2_ss m default [.exit 3] w2_one (λrd T B HL HB ds g=>by kernel_rfl) (λrd T B HL HB ds g=>by kernel_rfl) hs hg w2_es
abbrev w3_G:Type:=List Nd×Int×Int×List BA
def w3_LP:LP 4 w3_G:=.pair (.slot 4 103 dLD) (.pair (.slot 4 104 dI) (.pair (.slot 4 105 dI) (.row 4 6 9 eStr)))
def w3_R(xs:List Nd)(n:Int)(i:Int)(o:List BA):Ex×w3_G:=
 bif decide (i<n)then(Ex.normal,eD.ag xs,n,IntKind.i64.wrap (i+(1:Int)),eStr.lst (min (o.length+(2:Nat)) o.length) (eStr.els o)++(List.map (λx=>ByteArray.mk #[(110:UInt8),(111:UInt8),(100:UInt8),(101:UInt8)]) (List.range (min (o.length+(2:Nat)-o.length) (1:Nat)))++List.map (λx=>nodeS (Nd.mk (xs.getD i.toNat eD.dflt).id (xs.getD i.toNat eD.dflt).kind (eI.ag (xs.getD i.toNat eD.dflt).ins) (xs.getD i.toNat eD.dflt).fn (xs.getD i.toNat eD.dflt).name (xs.getD i.toNat eD.dflt).cap (xs.getD i.toNat eD.dflt).d)) (List.range (o.length+(2:Nat)-o.length-(1:Nat)))))
 else(Ex.exit (5:Nat),eD.ag xs,n,i,eStr.ag o)
def w3_side(xs:List Nd)(n:Int)(i:Int)(o:List BA):Prop:=
 (decide (i<n)=true->((0:Int)<=i/\i<(↑xs.length:Int))/\eI.okL (xs.getD i.toNat eD.dflt).ins/\wfD (Nd.mk (xs.getD i.toNat eD.dflt).id (xs.getD i.toNat eD.dflt).kind (eI.ag (xs.getD i.toNat eD.dflt).ins) (xs.getD i.toNat eD.dflt).fn (xs.getD i.toNat eD.dflt).name (xs.getD i.toNat eD.dflt).cap (xs.getD i.toNat eD.dflt).d)/\szD (Nd.mk (xs.getD i.toNat eD.dflt).id (xs.getD i.toNat eD.dflt).kind (eI.ag (xs.getD i.toNat eD.dflt).ins) (xs.getD i.toNat eD.dflt).fn (xs.getD i.toNat eD.dflt).name (xs.getD i.toNat eD.dflt).cap (xs.getD i.toNat eD.dflt).d)/\(o.length<=o.length/\True/\o.length+(2:Nat)<=maxLen/\(o.length+(2:Nat))*Tryd.prog.types[(9:Nat)].bytes<=(140737488355328:Nat))/\eD.okL xs/\o.length+(2:Nat)<=o.length+(2:Nat)/\(∀(e:Nat),e<min (o.length+(2:Nat)) o.length->True)/\(∀(e:Nat),e<min (o.length+(2:Nat)-o.length) (1:Nat)->True)/\∀(e:Nat),e<o.length+(2:Nat)-o.length-(1:Nat)->True)/\(decide (i<n)=false->eD.okL xs/\o.length<=o.length/\∀(e:Nat),e<o.length->True)
theorem w3_one:((q00 Tryd.prog 24).filter λc=>Nat.beq (lkey c) 29).length=1:=by kernel_rfl
abbrev w3_GC:Type:=List Nd×Int
abbrev w3_GB:Type:=List BA
def w3_f(g:w3_G):Int×w3_GC×w3_GB:=(g.2.2.1,(g.1,g.2.1),g.2.2.2)
def w3_g(d:Int×w3_GC×w3_GB):w3_G:=(d.2.1.1,d.2.1.2,d.1,d.2.2)
abbrev w3_rr(g:w3_G):Ex×w3_G:=w3_R g.1 g.2.1 g.2.2.1 g.2.2.2
abbrev w3_ss(g:w3_G):Prop:=w3_side g.1 g.2.1 g.2.2.1 g.2.2.2
theorem w3_es(g:w3_G):(w3_rr g).1=.normal\/(w3_rr g).1∈([.exit 5]:List Ex):=by
 unfold w3_rr w3_R
 repeat' (first|(left;rfl)|(right;simp only[cond_true,cond_false];simp;done)|(rw[Bool.cond_eq_ite];split))
abbrev w3_C(Inv:w3_G->List Prop)(m:w3_G->Nat):LCon:=loopR [.exit 5] (loopBody Tryd.prog 24 29) w3_LP [] 130 Inv w3_rr m
theorem w3_loop(Inv:w3_G->List Prop)(m:w3_G->Nat)(hs:∀g,allP (Inv g)->w3_ss g)(hg:Goes w3_rr m λg=>allP (Inv g)):∀b∈q00 Tryd.prog 24,lkey b=29->q04 Tryd.prog b (w3_C Inv m).g:=q0h (Γ:=(MTab.gamz tabQ0 [] [])) (Λ:=lamP2) (MTab.okz tabQ0 [] []) q34 100 24 29 130 w3_LP [] Inv w3_rr w3_ss m default [.exit 5] w3_one (λrd T B HL HB ds g=>by kernel_rfl) (λrd T B HL HB ds g=>by kernel_rfl) hs hg w3_es
abbrev w4_G:Type:=List Mv×Int×Int×List BA
def w4_LP:LP 5 w4_G:=.pair (.slot 5 117 dLV) (.pair (.slot 5 118 dI) (.pair (.slot 5 119 dI) (.row 5 6 9 eStr)))
def w4_R(xs:List Mv)(n:Int)(i:Int)(o:List BA):Ex×w4_G:=
 bif decide (i<n)then(Ex.normal,eV.ag xs,n,IntKind.i64.wrap (i+(1:Int)),eStr.lst (min (o.length+(2:Nat)) o.length) (eStr.els o)++(List.map (λx=>ByteArray.mk #[(109:UInt8),(111:UInt8),(118:UInt8),(101:UInt8)]) (List.range (min (o.length+(2:Nat)-o.length) (1:Nat)))++List.map (λx=>moveS (xs.getD i.toNat eV.dflt)) (List.range (o.length+(2:Nat)-o.length-(1:Nat)))))
 else(Ex.exit (7:Nat),eV.ag xs,n,i,eStr.ag o)
def w4_side(xs:List Mv)(n:Int)(i:Int)(o:List BA):Prop:=
 (decide (i<n)=true->((0:Int)<=i/\i<(↑xs.length:Int))/\wfV (xs.getD i.toNat eV.dflt)/\szV (xs.getD i.toNat eV.dflt)/\(o.length<=o.length/\True/\o.length+(2:Nat)<=maxLen/\(o.length+(2:Nat))*Tryd.prog.types[(9:Nat)].bytes<=(140737488355328:Nat))/\eV.okL xs/\o.length+(2:Nat)<=o.length+(2:Nat)/\(∀(e:Nat),e<min (o.length+(2:Nat)) o.length->True)/\(∀(e:Nat),e<min (o.length+(2:Nat)-o.length) (1:Nat)->True)/\∀(e:Nat),e<o.length+(2:Nat)-o.length-(1:Nat)->True)/\(decide (i<n)=false->eV.okL xs/\o.length<=o.length/\∀(e:Nat),e<o.length->True)
theorem w4_one:((q00 Tryd.prog 24).filter λc=>Nat.beq (lkey c) 34).length=1:=by kernel_rfl
abbrev w4_GC:Type:=List Mv×Int
abbrev w4_GB:Type:=List BA
def w4_f(g:w4_G):Int×w4_GC×w4_GB:=(g.2.2.1,(g.1,g.2.1),g.2.2.2)
def w4_g(d:Int×w4_GC×w4_GB):w4_G:=(d.2.1.1,d.2.1.2,d.1,d.2.2)
abbrev w4_rr(g:w4_G):Ex×w4_G:=w4_R g.1 g.2.1 g.2.2.1 g.2.2.2
abbrev w4_ss(g:w4_G):Prop:=w4_side g.1 g.2.1 g.2.2.1 g.2.2.2
theorem w4_es(g:w4_G):(w4_rr g).1=.normal\/(w4_rr g).1∈([.exit 7]:List Ex):=by
 unfold w4_rr w4_R
 repeat' (first|(left;rfl)|(right;simp only[cond_true,cond_false];simp;done)|(rw[Bool.cond_eq_ite];split))
abbrev w4_C(Inv:w4_G->List Prop)(m:w4_G->Nat):LCon:=loopR [.exit 7] (loopBody Tryd.prog 24 34) w4_LP [] 130 Inv w4_rr m
theorem w4_loop(Inv:w4_G->List Prop)(m:w4_G->Nat)(hs:∀g,allP (Inv g)->w4_ss g)(hg:Goes w4_rr m λg=>allP (Inv g)):∀b∈q00 Tryd.prog 24,lkey b=34->q04 Tryd.prog b (w4_C Inv m).g:=q0h (Γ:=(MTab.gamz tabQ0 [] [])) (Λ:=lamP2) (MTab.okz tabQ0 [] []) q34 100 24 34 130 w4_LP [] Inv w4_rr w4_ss m default [.exit 7] w4_one (λrd T B HL HB ds g=>by kernel_rfl) (λrd T B HL HB ds g=>by kernel_rfl) hs hg w4_es
abbrev po_G:Type:=List BA×Int×Int×Unit×List BA×LoopState×Option Code
def po_LP:LP 5 po_G:=.pair (.slot 5 6 dLS) (.pair (.slot 5 7 dI) (.pair (.slot 5 8 dI) (.pair (.fix 5 0 (.yl 4)) (.pair (.objRow 5 1 68 9 eStr) (.rf 5 4 Tryd.prog 9 0 43 [(4,.p 1 0)] 3)))))
def po_R(xs:List BA)(n:Int)(i:Int)(_u:Unit)(o:List BA):Ex×po_G:=
 bif decide (i<n)then(Ex.normal,eStr.ag xs,n,IntKind.i64.wrap (i+(1:Int)),(),eStr.lst (min (o.length+(1:Nat)) o.length) (eStr.els o)++List.map (λx=>xs.getD i.toNat eStr.dflt) (List.range (o.length+(1:Nat)-o.length)),LoopState.ready,none)
 else(Ex.exit (0:Nat),eStr.ag xs,n,i,(),eStr.ag o,LoopState.ready,none)
def po_side(xs:List BA)(n:Int)(i:Int)(_u:Unit)(o:List BA):Prop:=
 (decide (i<n)=true->((0:Int)<=i/\i<(↑xs.length:Int))/\(o.length<=o.length/\True/\o.length+(1:Nat)<=maxLen/\(o.length+(1:Nat))*Tryd.prog.types[(9:Nat)].bytes<=(140737488355328:Nat))/\eStr.okL xs/\o.length+(1:Nat)<=o.length+(1:Nat)/\(∀(e:Nat),e<min (o.length+(1:Nat)) o.length->True)/\(∀(e:Nat),e<o.length+(1:Nat)-o.length->True)/\q5d (q1c Tryd.prog (9:Nat) (0:Nat)).snd.fst (q1c Tryd.prog (9:Nat) (0:Nat)).snd.fst/\q5d (q1c Tryd.prog (9:Nat) (0:Nat)).snd.snd (q1c Tryd.prog (9:Nat) (0:Nat)).snd.snd)/\(decide (i<n)=false->eStr.okL xs/\o.length<=o.length/\(∀(e:Nat),e<o.length->True)/\q5d (q1c Tryd.prog (9:Nat) (0:Nat)).snd.fst (q1c Tryd.prog (9:Nat) (0:Nat)).snd.fst/\q5d (q1c Tryd.prog (9:Nat) (0:Nat)).snd.snd (q1c Tryd.prog (9:Nat) (0:Nat)).snd.snd)
theorem po_one:((q00 Tryd.prog 49).filter λc=>Nat.beq (lkey c) 1).length=1:=by kernel_rfl
abbrev po_GC:Type:=List BA×Int
abbrev po_GB:Type:=Unit×List BA×LoopState×Option Code
def po_f(g:po_G):Int×po_GC×po_GB:=(g.2.2.1,(g.1,g.2.1),(g.2.2.2.1,g.2.2.2.2.1,g.2.2.2.2.2))
def po_g(d:Int×po_GC×po_GB):po_G:=(d.2.1.1,d.2.1.2,d.1,d.2.2.1,d.2.2.2.1,d.2.2.2.2)
def po_E:List ((Ex×po_G->Bool)×Ex×(po_G->po_G)):=[(λx=>exB (.exit 0) x.1,.exit 0,λg=>(g.1,g.2.1,g.2.2.1,g.2.2.2.1,g.2.2.2.2.1,(.ready,none)))]
abbrev po_rr(g:po_G):Ex×po_G:=po_R g.1 g.2.1 g.2.2.1 g.2.2.2.1 g.2.2.2.2.1
abbrev po_ss(g:po_G):Prop:=po_side g.1 g.2.1 g.2.2.1 g.2.2.2.1 g.2.2.2.2.1
theorem po_es(g:po_G):(po_rr g).1=.normal\/q8q (po_rr g) po_E:=by
 unfold po_rr po_R
 repeat' (first|(left;rfl)|(right;exact⟨rfl,rfl⟩)|(rw[Bool.cond_eq_ite];split))
abbrev po_C(Inv:po_G->List Prop)(m:po_G->Nat):LCon:=loopRS po_E (loopBody Tryd.prog 49 1) po_LP [] 19 Inv po_rr m
def po_i(g:po_G):po_G:=(g.1,g.2.1,g.2.2.1,g.2.2.2.1,g.2.2.2.2.1,(LoopState.ready,none))
theorem po_loop(Inv:po_G->List Prop)(m:po_G->Nat)(hs:∀g,allP (Inv g)->po_ss g)(hι:∀g,allP (Inv g)->po_i g=g)(hg:Goes po_rr m λg=>allP (Inv g)):∀b∈q00 Tryd.prog 49,lkey b=1->q04 Tryd.prog b (po_C Inv m).g:=loop_runS po_i (Γ:=(MTab.gamz tabQ0 [] [])) (Λ:=lamP2) (MTab.okz tabQ0 [] []) q34 100 49 1 19 po_LP [] Inv po_rr po_ss m default po_E po_one (λrd T B HL HB ds g=>by kernel_rfl) (λrd T B HL HB ds g=>by kernel_rfl) hι hs hg po_es
abbrev dl_G:Type:=Unit×Bool×List BA×Unit×Dl×Int
def dl_LP:LP 3 dl_G:=.pair (.fix 3 0 (.p 0 0)) (.pair (.obj 3 0 75 eBool) (.pair (.slot 3 1 dLS) (.pair (.fix 3 5 (.p 2 0)) (.pair (.ctO 3 2 27 cDl) (.slot 3 6 dI)))))
def dl_R(_u:Unit)(z:Bool)(xs:List BA)(_v:Unit)(d:Dl)(i:Int):Ex×dl_G:=
 bif decide (IntKind.i64.wrap (i+(1:Int))<(↑xs.length:Int))&&!z then bif decide (xs.getD i.toNat eStr.dflt=ByteArray.mk #[(100:UInt8),(114:UInt8),(111:UInt8),(112:UInt8)])then(Ex.normal,(),(numR z (xs.getD (IntKind.i64.wrap (i+(1:Int))).toNat eStr.dflt)).fst,eStr.ag xs,(),Dl.mk (eI.lst (min (d.drop.length+(1:Nat)) d.drop.length) (eI.els d.drop)++List.map (λx=>(numR z (xs.getD (IntKind.i64.wrap (i+(1:Int))).toNat eStr.dflt)).snd) (List.range (d.drop.length+(1:Nat)-d.drop.length))) (eD.ag d.put) (eV.ag d.moves),IntKind.i64.wrap (i+(2:Int)))else bif decide (xs.getD i.toNat eStr.dflt=ByteArray.mk #[(110:UInt8),(111:UInt8),(100:UInt8),(101:UInt8)])then(Ex.normal,(),(nodeR z (xs.getD (IntKind.i64.wrap (i+(1:Int))).toNat eStr.dflt)).fst,eStr.ag xs,(),Dl.mk (eI.ag d.drop) (eD.lst (min (d.put.length+(1:Nat)) d.put.length) (eD.els d.put)++List.map (λx=>Nd.mk (nodeR z (xs.getD (IntKind.i64.wrap (i+(1:Int))).toNat eStr.dflt)).snd.id (nodeR z (xs.getD (IntKind.i64.wrap (i+(1:Int))).toNat eStr.dflt)).snd.kind (eI.ag (nodeR z (xs.getD (IntKind.i64.wrap (i+(1:Int))).toNat eStr.dflt)).snd.ins) (nodeR z (xs.getD (IntKind.i64.wrap (i+(1:Int))).toNat eStr.dflt)).snd.fn (nodeR z (xs.getD (IntKind.i64.wrap (i+(1:Int))).toNat eStr.dflt)).snd.name (nodeR z (xs.getD (IntKind.i64.wrap (i+(1:Int))).toNat eStr.dflt)).snd.cap (nodeR z (xs.getD (IntKind.i64.wrap (i+(1:Int))).toNat eStr.dflt)).snd.d) (List.range (d.put.length+(1:Nat)-d.put.length))) (eV.ag d.moves),IntKind.i64.wrap (i+(2:Int)))else bif decide (xs.getD i.toNat eStr.dflt=ByteArray.mk #[(109:UInt8),(111:UInt8),(118:UInt8),(101:UInt8)])then(Ex.normal,(),(moveR z (xs.getD (IntKind.i64.wrap (i+(1:Int))).toNat eStr.dflt)).fst,eStr.ag xs,(),Dl.mk (eI.ag d.drop) (eD.ag d.put) (eV.lst (min (d.moves.length+(1:Nat)) d.moves.length) (eV.els d.moves)++List.map (λx=>(moveR z (xs.getD (IntKind.i64.wrap (i+(1:Int))).toNat eStr.dflt)).snd) (List.range (d.moves.length+(1:Nat)-d.moves.length))),IntKind.i64.wrap (i+(2:Int)))else(Ex.normal,(),true,eStr.ag xs,(),Dl.mk (eI.ag d.drop) (eD.ag d.put) (eV.ag d.moves),IntKind.i64.wrap (i+(2:Int)))
 else(Ex.exit (0:Nat),(),z,eStr.ag xs,(),Dl.mk (eI.ag d.drop) (eD.ag d.put) (eV.ag d.moves),i)
def dl_side(_u:Unit)(z:Bool)(xs:List BA)(_v:Unit)(d:Dl)(i:Int):Prop:=
 ((decide (IntKind.i64.wrap (i+(1:Int))<(↑xs.length:Int))&&!z)=true->((0:Int)<=i/\i<(↑xs.length:Int))/\(decide (xs.getD i.toNat eStr.dflt=ByteArray.mk #[(100:UInt8),(114:UInt8),(111:UInt8),(112:UInt8)])=true->∀(cs:List Nat),(cs.isEmpty=true->((0:Int)<=IntKind.i64.wrap (i+(1:Int))/\IntKind.i64.wrap (i+(1:Int))<(↑xs.length:Int))/\(d.drop.length<=d.drop.length/\True/\d.drop.length+(1:Nat)<=maxLen/\(d.drop.length+(1:Nat))*Tryd.prog.types[(3:Nat)].bytes<=(140737488355328:Nat))/\eStr.okL xs/\d.drop.length+(1:Nat)<=d.drop.length+(1:Nat)/\(∀(e:Nat),e<min (d.drop.length+(1:Nat)) d.drop.length->True)/\(∀(e:Nat),e<d.drop.length+(1:Nat)-d.drop.length->True)/\d.put.length<=d.put.length/\(∀(e:Nat),e<d.put.length->∀(p:Prop),p∈[]++([]++([eI.okL (d.put.getD e eD.dflt).ins]++([]++([]++[])++([]++([]++[])))))->p)/\d.moves.length<=d.moves.length/\(∀(e:Nat),e<d.moves.length->True)/\∀(d_1:Ex×Unit×Bool×List ByteArray×Unit×Dl×Int),(Ex.normal,(),(numR z (xs.getD (IntKind.i64.wrap (i+(1:Int))).toNat eStr.dflt)).fst,eStr.ag xs,(),Dl.mk (eI.lst (min (d.drop.length+(1:Nat)) d.drop.length) (eI.els d.drop)++List.map (λx=>(numR z (xs.getD (IntKind.i64.wrap (i+(1:Int))).toNat eStr.dflt)).snd) (List.range (d.drop.length+(1:Nat)-d.drop.length))) (eD.ag d.put) (eV.ag d.moves),IntKind.i64.wrap (i+(2:Int)))=(Ex.normal,(),(numR z (xs.getD (IntKind.i64.wrap (i+(1:Int))).toNat eStr.dflt)).fst,eStr.ag xs,(),Dl.mk (eI.lst (min (d.drop.length+(1:Nat)) d.drop.length) (eI.els d.drop)++List.map (λx=>(numR z (xs.getD (IntKind.i64.wrap (i+(1:Int))).toNat eStr.dflt)).snd) (List.range (d.drop.length+(1:Nat)-d.drop.length))) (eD.ag d.put) (eV.ag d.moves),IntKind.i64.wrap (i+(2:Int))))/\(cs.isEmpty=false->∀(cs:List Nat),(cs.isEmpty=true->((0:Int)<=IntKind.i64.wrap (i+(1:Int))/\IntKind.i64.wrap (i+(1:Int))<(↑xs.length:Int))/\(d.drop.length<=d.drop.length/\True/\d.drop.length+(1:Nat)<=maxLen/\(d.drop.length+(1:Nat))*Tryd.prog.types[(3:Nat)].bytes<=(140737488355328:Nat))/\eStr.okL xs/\d.drop.length+(1:Nat)<=d.drop.length+(1:Nat)/\(∀(e:Nat),e<min (d.drop.length+(1:Nat)) d.drop.length->True)/\(∀(e:Nat),e<d.drop.length+(1:Nat)-d.drop.length->True)/\d.put.length<=d.put.length/\(∀(e:Nat),e<d.put.length->∀(p:Prop),p∈[]++([]++([eI.okL (d.put.getD e eD.dflt).ins]++([]++([]++[])++([]++([]++[])))))->p)/\d.moves.length<=d.moves.length/\(∀(e:Nat),e<d.moves.length->True)/\∀(d_1:Ex×Unit×Bool×List ByteArray×Unit×Dl×Int),(Ex.normal,(),(numR z (xs.getD (IntKind.i64.wrap (i+(1:Int))).toNat eStr.dflt)).fst,eStr.ag xs,(),Dl.mk (eI.lst (min (d.drop.length+(1:Nat)) d.drop.length) (eI.els d.drop)++List.map (λx=>(numR z (xs.getD (IntKind.i64.wrap (i+(1:Int))).toNat eStr.dflt)).snd) (List.range (d.drop.length+(1:Nat)-d.drop.length))) (eD.ag d.put) (eV.ag d.moves),IntKind.i64.wrap (i+(2:Int)))=(Ex.normal,(),(numR z (xs.getD (IntKind.i64.wrap (i+(1:Int))).toNat eStr.dflt)).fst,eStr.ag xs,(),Dl.mk (eI.lst (min (d.drop.length+(1:Nat)) d.drop.length) (eI.els d.drop)++List.map (λx=>(numR z (xs.getD (IntKind.i64.wrap (i+(1:Int))).toNat eStr.dflt)).snd) (List.range (d.drop.length+(1:Nat)-d.drop.length))) (eD.ag d.put) (eV.ag d.moves),IntKind.i64.wrap (i+(2:Int))))/\(cs.isEmpty=false->((0:Int)<=IntKind.i64.wrap (i+(1:Int))/\IntKind.i64.wrap (i+(1:Int))<(↑xs.length:Int))/\(d.drop.length<=d.drop.length/\True/\d.drop.length+(1:Nat)<=maxLen/\(d.drop.length+(1:Nat))*Tryd.prog.types[(3:Nat)].bytes<=(140737488355328:Nat))/\eStr.okL xs/\d.drop.length+(1:Nat)<=d.drop.length+(1:Nat)/\(∀(e:Nat),e<min (d.drop.length+(1:Nat)) d.drop.length->True)/\(∀(e:Nat),e<d.drop.length+(1:Nat)-d.drop.length->True)/\d.put.length<=d.put.length/\(∀(e:Nat),e<d.put.length->∀(p:Prop),p∈[]++([]++([eI.okL (d.put.getD e eD.dflt).ins]++([]++([]++[])++([]++([]++[])))))->p)/\d.moves.length<=d.moves.length/\(∀(e:Nat),e<d.moves.length->True)/\∀(d_1:Ex×Unit×Bool×List ByteArray×Unit×Dl×Int),(Ex.normal,(),(numR z (xs.getD (IntKind.i64.wrap (i+(1:Int))).toNat eStr.dflt)).fst,eStr.ag xs,(),Dl.mk (eI.lst (min (d.drop.length+(1:Nat)) d.drop.length) (eI.els d.drop)++List.map (λx=>(numR z (xs.getD (IntKind.i64.wrap (i+(1:Int))).toNat eStr.dflt)).snd) (List.range (d.drop.length+(1:Nat)-d.drop.length))) (eD.ag d.put) (eV.ag d.moves),IntKind.i64.wrap (i+(2:Int)))=(Ex.normal,(),(numR z (xs.getD (IntKind.i64.wrap (i+(1:Int))).toNat eStr.dflt)).fst,eStr.ag xs,(),Dl.mk (eI.lst (min (d.drop.length+(1:Nat)) d.drop.length) (eI.els d.drop)++List.map (λx=>(numR z (xs.getD (IntKind.i64.wrap (i+(1:Int))).toNat eStr.dflt)).snd) (List.range (d.drop.length+(1:Nat)-d.drop.length))) (eD.ag d.put) (eV.ag d.moves),IntKind.i64.wrap (i+(2:Int))))))/\(decide (xs.getD i.toNat eStr.dflt=ByteArray.mk #[(100:UInt8),(114:UInt8),(111:UInt8),(112:UInt8)])=false->(decide (xs.getD i.toNat eStr.dflt=ByteArray.mk #[(110:UInt8),(111:UInt8),(100:UInt8),(101:UInt8)])=true->∀(cs:List Nat),(cs.isEmpty=true->((0:Int)<=IntKind.i64.wrap (i+(1:Int))/\IntKind.i64.wrap (i+(1:Int))<(↑xs.length:Int))/\(xs.getD (IntKind.i64.wrap (i+(1:Int))).toNat eStr.dflt).size<=KP/\(d.put.length<=d.put.length/\True/\d.put.length+(1:Nat)<=maxLen/\(d.put.length+(1:Nat))*Tryd.prog.types[(44:Nat)].bytes<=(140737488355328:Nat))/\eStr.okL xs/\d.drop.length<=d.drop.length/\(∀(e:Nat),e<d.drop.length->True)/\d.put.length+(1:Nat)<=d.put.length+(1:Nat)/\(∀(e:Nat),e<min (d.put.length+(1:Nat)) d.put.length->∀(p:Prop),p∈[]++([]++([eI.okL (d.put.getD e eD.dflt).ins]++([]++([]++[])++([]++([]++[])))))->p)/\(∀(e:Nat),e<d.put.length+(1:Nat)-d.put.length->∀(p:Prop),p∈[]++([]++([eI.okL (nodeR z (xs.getD (IntKind.i64.wrap (i+(1:Int))).toNat eStr.dflt)).snd.ins]++([]++([]++[])++([]++([]++[])))))->p)/\d.moves.length<=d.moves.length/\(∀(e:Nat),e<d.moves.length->True)/\∀(d_1:Ex×Unit×Bool×List ByteArray×Unit×Dl×Int),(Ex.normal,(),(nodeR z (xs.getD (IntKind.i64.wrap (i+(1:Int))).toNat eStr.dflt)).fst,eStr.ag xs,(),Dl.mk (eI.ag d.drop) (eD.lst (min (d.put.length+(1:Nat)) d.put.length) (eD.els d.put)++List.map (λx=>Nd.mk (nodeR z (xs.getD (IntKind.i64.wrap (i+(1:Int))).toNat eStr.dflt)).snd.id (nodeR z (xs.getD (IntKind.i64.wrap (i+(1:Int))).toNat eStr.dflt)).snd.kind (eI.ag (nodeR z (xs.getD (IntKind.i64.wrap (i+(1:Int))).toNat eStr.dflt)).snd.ins) (nodeR z (xs.getD (IntKind.i64.wrap (i+(1:Int))).toNat eStr.dflt)).snd.fn (nodeR z (xs.getD (IntKind.i64.wrap (i+(1:Int))).toNat eStr.dflt)).snd.name (nodeR z (xs.getD (IntKind.i64.wrap (i+(1:Int))).toNat eStr.dflt)).snd.cap (nodeR z (xs.getD (IntKind.i64.wrap (i+(1:Int))).toNat eStr.dflt)).snd.d) (List.range (d.put.length+(1:Nat)-d.put.length))) (eV.ag d.moves),IntKind.i64.wrap (i+(2:Int)))=(Ex.normal,(),(nodeR z (xs.getD (IntKind.i64.wrap (i+(1:Int))).toNat eStr.dflt)).fst,eStr.ag xs,(),Dl.mk (eI.ag d.drop) (eD.lst (min (d.put.length+(1:Nat)) d.put.length) (eD.els d.put)++List.map (λx=>Nd.mk (nodeR z (xs.getD (IntKind.i64.wrap (i+(1:Int))).toNat eStr.dflt)).snd.id (nodeR z (xs.getD (IntKind.i64.wrap (i+(1:Int))).toNat eStr.dflt)).snd.kind (eI.ag (nodeR z (xs.getD (IntKind.i64.wrap (i+(1:Int))).toNat eStr.dflt)).snd.ins) (nodeR z (xs.getD (IntKind.i64.wrap (i+(1:Int))).toNat eStr.dflt)).snd.fn (nodeR z (xs.getD (IntKind.i64.wrap (i+(1:Int))).toNat eStr.dflt)).snd.name (nodeR z (xs.getD (IntKind.i64.wrap (i+(1:Int))).toNat eStr.dflt)).snd.cap (nodeR z (xs.getD (IntKind.i64.wrap (i+(1:Int))).toNat eStr.dflt)).snd.d) (List.range (d.put.length+(1:Nat)-d.put.length))) (eV.ag d.moves),IntKind.i64.wrap (i+(2:Int))))/\(cs.isEmpty=false->∀(cs:List Nat),(cs.isEmpty=true->((0:Int)<=IntKind.i64.wrap (i+(1:Int))/\IntKind.i64.wrap (i+(1:Int))<(↑xs.length:Int))/\(xs.getD (IntKind.i64.wrap (i+(1:Int))).toNat eStr.dflt).size<=KP/\(d.put.length<=d.put.length/\True/\d.put.length+(1:Nat)<=maxLen/\(d.put.length+(1:Nat))*Tryd.prog.types[(44:Nat)].bytes<=(140737488355328:Nat))/\eStr.okL xs/\d.drop.length<=d.drop.length/\(∀(e:Nat),e<d.drop.length->True)/\d.put.length+(1:Nat)<=d.put.length+(1:Nat)/\(∀(e:Nat),e<min (d.put.length+(1:Nat)) d.put.length->∀(p:Prop),p∈[]++([]++([eI.okL (d.put.getD e eD.dflt).ins]++([]++([]++[])++([]++([]++[])))))->p)/\(∀(e:Nat),e<d.put.length+(1:Nat)-d.put.length->∀(p:Prop),p∈[]++([]++([eI.okL (nodeR z (xs.getD (IntKind.i64.wrap (i+(1:Int))).toNat eStr.dflt)).snd.ins]++([]++([]++[])++([]++([]++[])))))->p)/\d.moves.length<=d.moves.length/\(∀(e:Nat),e<d.moves.length->True)/\∀(d_1:Ex×Unit×Bool×List ByteArray×Unit×Dl×Int),(Ex.normal,(),(nodeR z (xs.getD (IntKind.i64.wrap (i+(1:Int))).toNat eStr.dflt)).fst,eStr.ag xs,(),Dl.mk (eI.ag d.drop) (eD.lst (min (d.put.length+(1:Nat)) d.put.length) (eD.els d.put)++List.map (λx=>Nd.mk (nodeR z (xs.getD (IntKind.i64.wrap (i+(1:Int))).toNat eStr.dflt)).snd.id (nodeR z (xs.getD (IntKind.i64.wrap (i+(1:Int))).toNat eStr.dflt)).snd.kind (eI.ag (nodeR z (xs.getD (IntKind.i64.wrap (i+(1:Int))).toNat eStr.dflt)).snd.ins) (nodeR z (xs.getD (IntKind.i64.wrap (i+(1:Int))).toNat eStr.dflt)).snd.fn (nodeR z (xs.getD (IntKind.i64.wrap (i+(1:Int))).toNat eStr.dflt)).snd.name (nodeR z (xs.getD (IntKind.i64.wrap (i+(1:Int))).toNat eStr.dflt)).snd.cap (nodeR z (xs.getD (IntKind.i64.wrap (i+(1:Int))).toNat eStr.dflt)).snd.d) (List.range (d.put.length+(1:Nat)-d.put.length))) (eV.ag d.moves),IntKind.i64.wrap (i+(2:Int)))=(Ex.normal,(),(nodeR z (xs.getD (IntKind.i64.wrap (i+(1:Int))).toNat eStr.dflt)).fst,eStr.ag xs,(),Dl.mk (eI.ag d.drop) (eD.lst (min (d.put.length+(1:Nat)) d.put.length) (eD.els d.put)++List.map (λx=>Nd.mk (nodeR z (xs.getD (IntKind.i64.wrap (i+(1:Int))).toNat eStr.dflt)).snd.id (nodeR z (xs.getD (IntKind.i64.wrap (i+(1:Int))).toNat eStr.dflt)).snd.kind (eI.ag (nodeR z (xs.getD (IntKind.i64.wrap (i+(1:Int))).toNat eStr.dflt)).snd.ins) (nodeR z (xs.getD (IntKind.i64.wrap (i+(1:Int))).toNat eStr.dflt)).snd.fn (nodeR z (xs.getD (IntKind.i64.wrap (i+(1:Int))).toNat eStr.dflt)).snd.name (nodeR z (xs.getD (IntKind.i64.wrap (i+(1:Int))).toNat eStr.dflt)).snd.cap (nodeR z (xs.getD (IntKind.i64.wrap (i+(1:Int))).toNat eStr.dflt)).snd.d) (List.range (d.put.length+(1:Nat)-d.put.length))) (eV.ag d.moves),IntKind.i64.wrap (i+(2:Int))))/\(cs.isEmpty=false->((0:Int)<=IntKind.i64.wrap (i+(1:Int))/\IntKind.i64.wrap (i+(1:Int))<(↑xs.length:Int))/\(xs.getD (IntKind.i64.wrap (i+(1:Int))).toNat eStr.dflt).size<=KP/\(d.put.length<=d.put.length/\True/\d.put.length+(1:Nat)<=maxLen/\(d.put.length+(1:Nat))*Tryd.prog.types[(44:Nat)].bytes<=(140737488355328:Nat))/\eStr.okL xs/\d.drop.length<=d.drop.length/\(∀(e:Nat),e<d.drop.length->True)/\d.put.length+(1:Nat)<=d.put.length+(1:Nat)/\(∀(e:Nat),e<min (d.put.length+(1:Nat)) d.put.length->∀(p:Prop),p∈[]++([]++([eI.okL (d.put.getD e eD.dflt).ins]++([]++([]++[])++([]++([]++[])))))->p)/\(∀(e:Nat),e<d.put.length+(1:Nat)-d.put.length->∀(p:Prop),p∈[]++([]++([eI.okL (nodeR z (xs.getD (IntKind.i64.wrap (i+(1:Int))).toNat eStr.dflt)).snd.ins]++([]++([]++[])++([]++([]++[])))))->p)/\d.moves.length<=d.moves.length/\(∀(e:Nat),e<d.moves.length->True)/\∀(d_1:Ex×Unit×Bool×List ByteArray×Unit×Dl×Int),(Ex.normal,(),(nodeR z (xs.getD (IntKind.i64.wrap (i+(1:Int))).toNat eStr.dflt)).fst,eStr.ag xs,(),Dl.mk (eI.ag d.drop) (eD.lst (min (d.put.length+(1:Nat)) d.put.length) (eD.els d.put)++List.map (λx=>Nd.mk (nodeR z (xs.getD (IntKind.i64.wrap (i+(1:Int))).toNat eStr.dflt)).snd.id (nodeR z (xs.getD (IntKind.i64.wrap (i+(1:Int))).toNat eStr.dflt)).snd.kind (eI.ag (nodeR z (xs.getD (IntKind.i64.wrap (i+(1:Int))).toNat eStr.dflt)).snd.ins) (nodeR z (xs.getD (IntKind.i64.wrap (i+(1:Int))).toNat eStr.dflt)).snd.fn (nodeR z (xs.getD (IntKind.i64.wrap (i+(1:Int))).toNat eStr.dflt)).snd.name (nodeR z (xs.getD (IntKind.i64.wrap (i+(1:Int))).toNat eStr.dflt)).snd.cap (nodeR z (xs.getD (IntKind.i64.wrap (i+(1:Int))).toNat eStr.dflt)).snd.d) (List.range (d.put.length+(1:Nat)-d.put.length))) (eV.ag d.moves),IntKind.i64.wrap (i+(2:Int)))=(Ex.normal,(),(nodeR z (xs.getD (IntKind.i64.wrap (i+(1:Int))).toNat eStr.dflt)).fst,eStr.ag xs,(),Dl.mk (eI.ag d.drop) (eD.lst (min (d.put.length+(1:Nat)) d.put.length) (eD.els d.put)++List.map (λx=>Nd.mk (nodeR z (xs.getD (IntKind.i64.wrap (i+(1:Int))).toNat eStr.dflt)).snd.id (nodeR z (xs.getD (IntKind.i64.wrap (i+(1:Int))).toNat eStr.dflt)).snd.kind (eI.ag (nodeR z (xs.getD (IntKind.i64.wrap (i+(1:Int))).toNat eStr.dflt)).snd.ins) (nodeR z (xs.getD (IntKind.i64.wrap (i+(1:Int))).toNat eStr.dflt)).snd.fn (nodeR z (xs.getD (IntKind.i64.wrap (i+(1:Int))).toNat eStr.dflt)).snd.name (nodeR z (xs.getD (IntKind.i64.wrap (i+(1:Int))).toNat eStr.dflt)).snd.cap (nodeR z (xs.getD (IntKind.i64.wrap (i+(1:Int))).toNat eStr.dflt)).snd.d) (List.range (d.put.length+(1:Nat)-d.put.length))) (eV.ag d.moves),IntKind.i64.wrap (i+(2:Int))))))/\(decide (xs.getD i.toNat eStr.dflt=ByteArray.mk #[(110:UInt8),(111:UInt8),(100:UInt8),(101:UInt8)])=false->(decide (xs.getD i.toNat eStr.dflt=ByteArray.mk #[(109:UInt8),(111:UInt8),(118:UInt8),(101:UInt8)])=true->∀(cs:List Nat),(cs.isEmpty=true->((0:Int)<=IntKind.i64.wrap (i+(1:Int))/\IntKind.i64.wrap (i+(1:Int))<(↑xs.length:Int))/\(xs.getD (IntKind.i64.wrap (i+(1:Int))).toNat eStr.dflt).size<=KP/\(d.moves.length<=d.moves.length/\True/\d.moves.length+(1:Nat)<=maxLen/\(d.moves.length+(1:Nat))*Tryd.prog.types[(65:Nat)].bytes<=(140737488355328:Nat))/\eStr.okL xs/\d.drop.length<=d.drop.length/\(∀(e:Nat),e<d.drop.length->True)/\d.put.length<=d.put.length/\(∀(e:Nat),e<d.put.length->∀(p:Prop),p∈[]++([]++([eI.okL (d.put.getD e eD.dflt).ins]++([]++([]++[])++([]++([]++[])))))->p)/\d.moves.length+(1:Nat)<=d.moves.length+(1:Nat)/\(∀(e:Nat),e<min (d.moves.length+(1:Nat)) d.moves.length->True)/\(∀(e:Nat),e<d.moves.length+(1:Nat)-d.moves.length->True)/\∀(d_1:Ex×Unit×Bool×List ByteArray×Unit×Dl×Int),(Ex.normal,(),(moveR z (xs.getD (IntKind.i64.wrap (i+(1:Int))).toNat eStr.dflt)).fst,eStr.ag xs,(),Dl.mk (eI.ag d.drop) (eD.ag d.put) (eV.lst (min (d.moves.length+(1:Nat)) d.moves.length) (eV.els d.moves)++List.map (λx=>(moveR z (xs.getD (IntKind.i64.wrap (i+(1:Int))).toNat eStr.dflt)).snd) (List.range (d.moves.length+(1:Nat)-d.moves.length))),IntKind.i64.wrap (i+(2:Int)))=(Ex.normal,(),(moveR z (xs.getD (IntKind.i64.wrap (i+(1:Int))).toNat eStr.dflt)).fst,eStr.ag xs,(),Dl.mk (eI.ag d.drop) (eD.ag d.put) (eV.lst (min (d.moves.length+(1:Nat)) d.moves.length) (eV.els d.moves)++List.map (λx=>(moveR z (xs.getD (IntKind.i64.wrap (i+(1:Int))).toNat eStr.dflt)).snd) (List.range (d.moves.length+(1:Nat)-d.moves.length))),IntKind.i64.wrap (i+(2:Int))))/\(cs.isEmpty=false->∀(cs:List Nat),(cs.isEmpty=true->((0:Int)<=IntKind.i64.wrap (i+(1:Int))/\IntKind.i64.wrap (i+(1:Int))<(↑xs.length:Int))/\(xs.getD (IntKind.i64.wrap (i+(1:Int))).toNat eStr.dflt).size<=KP/\(d.moves.length<=d.moves.length/\True/\d.moves.length+(1:Nat)<=maxLen/\(d.moves.length+(1:Nat))*Tryd.prog.types[(65:Nat)].bytes<=(140737488355328:Nat))/\eStr.okL xs/\d.drop.length<=d.drop.length/\(∀(e:Nat),e<d.drop.length->True)/\d.put.length<=d.put.length/\(∀(e:Nat),e<d.put.length->∀(p:Prop),p∈[]++([]++([eI.okL (d.put.getD e eD.dflt).ins]++([]++([]++[])++([]++([]++[])))))->p)/\d.moves.length+(1:Nat)<=d.moves.length+(1:Nat)/\(∀(e:Nat),e<min (d.moves.length+(1:Nat)) d.moves.length->True)/\(∀(e:Nat),e<d.moves.length+(1:Nat)-d.moves.length->True)/\∀(d_1:Ex×Unit×Bool×List ByteArray×Unit×Dl×Int),(Ex.normal,(),(moveR z (xs.getD (IntKind.i64.wrap (i+(1:Int))).toNat eStr.dflt)).fst,eStr.ag xs,(),Dl.mk (eI.ag d.drop) (eD.ag d.put) (eV.lst (min (d.moves.length+(1:Nat)) d.moves.length) (eV.els d.moves)++List.map (λx=>(moveR z (xs.getD (IntKind.i64.wrap (i+(1:Int))).toNat eStr.dflt)).snd) (List.range (d.moves.length+(1:Nat)-d.moves.length))),IntKind.i64.wrap (i+(2:Int)))=(Ex.normal,(),(moveR z (xs.getD (IntKind.i64.wrap (i+(1:Int))).toNat eStr.dflt)).fst,eStr.ag xs,(),Dl.mk (eI.ag d.drop) (eD.ag d.put) (eV.lst (min (d.moves.length+(1:Nat)) d.moves.length) (eV.els d.moves)++List.map (λx=>(moveR z (xs.getD (IntKind.i64.wrap (i+(1:Int))).toNat eStr.dflt)).snd) (List.range (d.moves.length+(1:Nat)-d.moves.length))),IntKind.i64.wrap (i+(2:Int))))/\(cs.isEmpty=false->((0:Int)<=IntKind.i64.wrap (i+(1:Int))/\IntKind.i64.wrap (i+(1:Int))<(↑xs.length:Int))/\(xs.getD (IntKind.i64.wrap (i+(1:Int))).toNat eStr.dflt).size<=KP/\(d.moves.length<=d.moves.length/\True/\d.moves.length+(1:Nat)<=maxLen/\(d.moves.length+(1:Nat))*Tryd.prog.types[(65:Nat)].bytes<=(140737488355328:Nat))/\eStr.okL xs/\d.drop.length<=d.drop.length/\(∀(e:Nat),e<d.drop.length->True)/\d.put.length<=d.put.length/\(∀(e:Nat),e<d.put.length->∀(p:Prop),p∈[]++([]++([eI.okL (d.put.getD e eD.dflt).ins]++([]++([]++[])++([]++([]++[])))))->p)/\d.moves.length+(1:Nat)<=d.moves.length+(1:Nat)/\(∀(e:Nat),e<min (d.moves.length+(1:Nat)) d.moves.length->True)/\(∀(e:Nat),e<d.moves.length+(1:Nat)-d.moves.length->True)/\∀(d_1:Ex×Unit×Bool×List ByteArray×Unit×Dl×Int),(Ex.normal,(),(moveR z (xs.getD (IntKind.i64.wrap (i+(1:Int))).toNat eStr.dflt)).fst,eStr.ag xs,(),Dl.mk (eI.ag d.drop) (eD.ag d.put) (eV.lst (min (d.moves.length+(1:Nat)) d.moves.length) (eV.els d.moves)++List.map (λx=>(moveR z (xs.getD (IntKind.i64.wrap (i+(1:Int))).toNat eStr.dflt)).snd) (List.range (d.moves.length+(1:Nat)-d.moves.length))),IntKind.i64.wrap (i+(2:Int)))=(Ex.normal,(),(moveR z (xs.getD (IntKind.i64.wrap (i+(1:Int))).toNat eStr.dflt)).fst,eStr.ag xs,(),Dl.mk (eI.ag d.drop) (eD.ag d.put) (eV.lst (min (d.moves.length+(1:Nat)) d.moves.length) (eV.els d.moves)++List.map (λx=>(moveR z (xs.getD (IntKind.i64.wrap (i+(1:Int))).toNat eStr.dflt)).snd) (List.range (d.moves.length+(1:Nat)-d.moves.length))),IntKind.i64.wrap (i+(2:Int))))))/\(decide (xs.getD i.toNat eStr.dflt=ByteArray.mk #[(109:UInt8),(111:UInt8),(118:UInt8),(101:UInt8)])=false->eStr.okL xs/\d.drop.length<=d.drop.length/\(∀(e:Nat),e<d.drop.length->True)/\d.put.length<=d.put.length/\(∀(e:Nat),e<d.put.length->∀(p:Prop),p∈[]++([]++([eI.okL (d.put.getD e eD.dflt).ins]++([]++([]++[])++([]++([]++[])))))->p)/\d.moves.length<=d.moves.length/\∀(e:Nat),e<d.moves.length->True))))/\((decide (IntKind.i64.wrap (i+(1:Int))<(↑xs.length:Int))&&!z)=false->eStr.okL xs/\d.drop.length<=d.drop.length/\(∀(e:Nat),e<d.drop.length->True)/\d.put.length<=d.put.length/\(∀(e:Nat),e<d.put.length->∀(p:Prop),p∈[]++([]++([eI.okL (d.put.getD e eD.dflt).ins]++([]++([]++[])++([]++([]++[])))))->p)/\d.moves.length<=d.moves.length/\∀(e:Nat),e<d.moves.length->True)
theorem dl_one:((q00 Tryd.prog 55).filter λc=>Nat.beq (lkey c) 5).length=1:=by kernel_rfl
abbrev dl_rr(g:dl_G):Ex×dl_G:=dl_R g.1 g.2.1 g.2.2.1 g.2.2.2.1 g.2.2.2.2.1 g.2.2.2.2.2
abbrev dl_ss(g:dl_G):Prop:=dl_side g.1 g.2.1 g.2.2.1 g.2.2.2.1 g.2.2.2.2.1 g.2.2.2.2.2
theorem dl_es(g:dl_G):(dl_rr g).1=.normal\/(dl_rr g).1∈([.exit 0]:List Ex):=by
 unfold dl_rr dl_R
 repeat' (first|(left;rfl)|(right;simp only[cond_true,cond_false];simp;done)|(rw[Bool.cond_eq_ite];split))
abbrev dl_C(Inv:dl_G->List Prop)(m:dl_G->Nat):LCon:=loopR [.exit 0] (loopBody Tryd.prog 55 5) dl_LP [] 78 Inv dl_rr m
theorem dl_loop(Inv:dl_G->List Prop)(m:dl_G->Nat)(hs:∀g,allP (Inv g)->dl_ss g)(hg:Goes dl_rr m λg=>allP (Inv g)):∀b∈q00 Tryd.prog 55,lkey b=5->q04 Tryd.prog b (dl_C Inv m).g:=q0h (Γ:=(MTab.gamz tabQ0 [] [])) (Λ:=lamP2) (MTab.okz tabQ0 [] []) q34 100 55 5 78 dl_LP [] Inv dl_rr dl_ss m default [.exit 0] dl_one (λrd T B HL HB ds g=>by kernel_rfl) (λrd T B HL HB ds g=>by kernel_rfl) hs hg dl_es
abbrev ixr_G:Type:=List Rec×Unit×Int×Int×Int
def ixr_LP:LP 0 ixr_G:=.pair (.slot 0 0 dLR) (.pair (.fix 0 1 (.fn 68 [])) (.pair (.slot 0 7 dI) (.pair (.slot 0 8 dI) (.slot 0 4 dI))))
def ixr_R(xs:List Rec)(_u:Unit)(n:Int)(i:Int)(r:Int):Ex×ixr_G:=
 bif decide (i<n)then bif chkR (xs.getD i.toNat eR.dflt)!=(0:Int)then(Ex.ret,eR.ag xs,(),n,i,i)else(Ex.normal,eR.ag xs,(),n,IntKind.i64.wrap (i+(1:Int)),r)
 else(Ex.exit (0:Nat),eR.ag xs,(),n,i,r)
def ixr_side(xs:List Rec)(_u:Unit)(n:Int)(i:Int)(r:Int):Prop:=
 (decide (i<n)=true->((0:Int)<=i/\i<(↑xs.length:Int))/\((chkR (xs.getD i.toNat eR.dflt)!=(0:Int))=true->eR.okL xs)/\((chkR (xs.getD i.toNat eR.dflt)!=(0:Int))=false->eR.okL xs))/\(decide (i<n)=false->eR.okL xs)
theorem ixr_one:((q00 Tryd.prog 83).filter λc=>Nat.beq (lkey c) 2).length=1:=by kernel_rfl
abbrev q3q:Type:=List Rec×Int
abbrev ixr_GB:Type:=Int×Unit
def ixr_f(g:ixr_G):Int×q3q×ixr_GB:=(g.2.2.2.1,(g.1,g.2.2.1),(g.2.2.2.2,g.2.1))
def ixr_g(d:Int×q3q×ixr_GB):ixr_G:=(d.2.1.1,d.2.2.2,d.2.1.2,d.1,d.2.2.1)
abbrev ixr_rr(g:ixr_G):Ex×ixr_G:=ixr_R g.1 g.2.1 g.2.2.1 g.2.2.2.1 g.2.2.2.2
abbrev ixr_ss(g:ixr_G):Prop:=ixr_side g.1 g.2.1 g.2.2.1 g.2.2.2.1 g.2.2.2.2
theorem ixr_es(g:ixr_G):(ixr_rr g).1=.normal\/(ixr_rr g).1∈([.ret,.exit 0]:List Ex):=by
 unfold ixr_rr ixr_R
 repeat' (first|(left;rfl)|(right;simp only[cond_true,cond_false];simp;done)|(rw[Bool.cond_eq_ite];split))
abbrev ixr_C(Inv:ixr_G->List Prop)(m:ixr_G->Nat):LCon:=loopR [.ret,.exit 0] (loopBody Tryd.prog 83 2) ixr_LP [] 19 Inv ixr_rr m
theorem ixr_loop(Inv:ixr_G->List Prop)(m:ixr_G->Nat)(hs:∀g,allP (Inv g)->ixr_ss g)(hg:Goes ixr_rr m λg=>allP (Inv g)):∀b∈q00 Tryd.prog 83,lkey b=2->q04 Tryd.prog b (ixr_C Inv m).g:=q0h (Γ:=(MTab.gamz tabQ0 [] [])) (Λ:=lamP2) (MTab.okz tabQ0 [] []) q34 100 83 2 19 ixr_LP [] Inv ixr_rr ixr_ss m default [.ret,.exit 0] ixr_one (λrd T B HL HB ds g=>by kernel_rfl) (λrd T B HL HB ds g=>by kernel_rfl) hs hg ixr_es
abbrev ixd_G:Type:=List Nd×Unit×Int×Int×Int
def ixd_LP:LP 0 ixd_G:=.pair (.slot 0 0 dLD) (.pair (.fix 0 1 (.fn 71 [])) (.pair (.slot 0 7 dI) (.pair (.slot 0 8 dI) (.slot 0 4 dI))))
def ixd_R(xs:List Nd)(_u:Unit)(n:Int)(i:Int)(r:Int):Ex×ixd_G:=
 bif decide (i<n)then bif chkD (Nd.mk (xs.getD i.toNat eD.dflt).id (xs.getD i.toNat eD.dflt).kind (eI.ag (xs.getD i.toNat eD.dflt).ins) (xs.getD i.toNat eD.dflt).fn (xs.getD i.toNat eD.dflt).name (xs.getD i.toNat eD.dflt).cap (xs.getD i.toNat eD.dflt).d)!=(0:Int)then(Ex.ret,eD.ag xs,(),n,i,i)else(Ex.normal,eD.ag xs,(),n,IntKind.i64.wrap (i+(1:Int)),r)
 else(Ex.exit (0:Nat),eD.ag xs,(),n,i,r)
def ixd_side(xs:List Nd)(_u:Unit)(n:Int)(i:Int)(r:Int):Prop:=
 (decide (i<n)=true->((0:Int)<=i/\i<(↑xs.length:Int))/\eI.okL (xs.getD i.toNat eD.dflt).ins/\((chkD (Nd.mk (xs.getD i.toNat eD.dflt).id (xs.getD i.toNat eD.dflt).kind (eI.ag (xs.getD i.toNat eD.dflt).ins) (xs.getD i.toNat eD.dflt).fn (xs.getD i.toNat eD.dflt).name (xs.getD i.toNat eD.dflt).cap (xs.getD i.toNat eD.dflt).d)!=(0:Int))=true->eD.okL xs)/\((chkD (Nd.mk (xs.getD i.toNat eD.dflt).id (xs.getD i.toNat eD.dflt).kind (eI.ag (xs.getD i.toNat eD.dflt).ins) (xs.getD i.toNat eD.dflt).fn (xs.getD i.toNat eD.dflt).name (xs.getD i.toNat eD.dflt).cap (xs.getD i.toNat eD.dflt).d)!=(0:Int))=false->eD.okL xs))/\(decide (i<n)=false->eD.okL xs)
theorem ixd_one:((q00 Tryd.prog 85).filter λc=>Nat.beq (lkey c) 2).length=1:=by kernel_rfl
abbrev q3r:Type:=List Nd×Int
abbrev ixd_GB:Type:=Int×Unit
def ixd_f(g:ixd_G):Int×q3r×ixd_GB:=(g.2.2.2.1,(g.1,g.2.2.1),(g.2.2.2.2,g.2.1))
def ixd_g(d:Int×q3r×ixd_GB):ixd_G:=(d.2.1.1,d.2.2.2,d.2.1.2,d.1,d.2.2.1)
abbrev ixd_rr(g:ixd_G):Ex×ixd_G:=ixd_R g.1 g.2.1 g.2.2.1 g.2.2.2.1 g.2.2.2.2
abbrev ixd_ss(g:ixd_G):Prop:=ixd_side g.1 g.2.1 g.2.2.1 g.2.2.2.1 g.2.2.2.2
theorem ixd_es(g:ixd_G):(ixd_rr g).1=.normal\/(ixd_rr g).1∈([.ret,.exit 0]:List Ex):=by
 unfold ixd_rr ixd_R
 repeat' (first|(left;rfl)|(right;simp only[cond_true,cond_false];simp;done)|(rw[Bool.cond_eq_ite];split))
abbrev ixd_C(Inv:ixd_G->List Prop)(m:ixd_G->Nat):LCon:=loopR [.ret,.exit 0] (loopBody Tryd.prog 85 2) ixd_LP [] 19 Inv ixd_rr m
theorem ixd_loop(Inv:ixd_G->List Prop)(m:ixd_G->Nat)(hs:∀g,allP (Inv g)->ixd_ss g)(hg:Goes ixd_rr m λg=>allP (Inv g)):∀b∈q00 Tryd.prog 85,lkey b=2->q04 Tryd.prog b (ixd_C Inv m).g:=q0h (Γ:=(MTab.gamz tabQ0 [] [])) (Λ:=lamP2) (MTab.okz tabQ0 [] []) q34 100 85 2 19 ixd_LP [] Inv ixd_rr ixd_ss m default [.ret,.exit 0] ixd_one (λrd T B HL HB ds g=>by kernel_rfl) (λrd T B HL HB ds g=>by kernel_rfl) hs hg ixd_es
abbrev ixv_G:Type:=List Mv×Unit×Int×Int×Int
def ixv_LP:LP 0 ixv_G:=.pair (.slot 0 0 dLV) (.pair (.fix 0 1 (.fn 73 [])) (.pair (.slot 0 7 dI) (.pair (.slot 0 8 dI) (.slot 0 4 dI))))
def ixv_R(xs:List Mv)(_u:Unit)(n:Int)(i:Int)(r:Int):Ex×ixv_G:=
 bif decide (i<n)then bif decide ((↑(ByteArray.size (xs.getD i.toNat eV.dflt).fn.s):Int)>(64:Int))then(Ex.ret,eV.ag xs,(),n,i,i)else(Ex.normal,eV.ag xs,(),n,IntKind.i64.wrap (i+(1:Int)),r)
 else(Ex.exit (0:Nat),eV.ag xs,(),n,i,r)
def ixv_side(xs:List Mv)(_u:Unit)(n:Int)(i:Int)(r:Int):Prop:=
 (decide (i<n)=true->((0:Int)<=i/\i<(↑xs.length:Int))/\(decide ((↑(ByteArray.size (xs.getD i.toNat eV.dflt).fn.s):Int)>(64:Int))=true->eV.okL xs)/\(decide ((↑(ByteArray.size (xs.getD i.toNat eV.dflt).fn.s):Int)>(64:Int))=false->eV.okL xs))/\(decide (i<n)=false->eV.okL xs)
theorem ixv_one:((q00 Tryd.prog 86).filter λc=>Nat.beq (lkey c) 2).length=1:=by kernel_rfl
abbrev q3p:Type:=List Mv×Int
abbrev ixv_GB:Type:=Int×Unit
def ixv_f(g:ixv_G):Int×q3p×ixv_GB:=(g.2.2.2.1,(g.1,g.2.2.1),(g.2.2.2.2,g.2.1))
def ixv_g(d:Int×q3p×ixv_GB):ixv_G:=(d.2.1.1,d.2.2.2,d.2.1.2,d.1,d.2.2.1)
abbrev ixv_rr(g:ixv_G):Ex×ixv_G:=ixv_R g.1 g.2.1 g.2.2.1 g.2.2.2.1 g.2.2.2.2
abbrev ixv_ss(g:ixv_G):Prop:=ixv_side g.1 g.2.1 g.2.2.1 g.2.2.2.1 g.2.2.2.2
theorem ixv_es(g:ixv_G):(ixv_rr g).1=.normal\/(ixv_rr g).1∈([.ret,.exit 0]:List Ex):=by
 unfold ixv_rr ixv_R
 repeat' (first|(left;rfl)|(right;simp only[cond_true,cond_false];simp;done)|(rw[Bool.cond_eq_ite];split))
abbrev ixv_C(Inv:ixv_G->List Prop)(m:ixv_G->Nat):LCon:=loopR [.ret,.exit 0] (loopBody Tryd.prog 86 2) ixv_LP [] 19 Inv ixv_rr m
theorem ixv_loop(Inv:ixv_G->List Prop)(m:ixv_G->Nat)(hs:∀g,allP (Inv g)->ixv_ss g)(hg:Goes ixv_rr m λg=>allP (Inv g)):∀b∈q00 Tryd.prog 86,lkey b=2->q04 Tryd.prog b (ixv_C Inv m).g:=q0h (Γ:=(MTab.gamz tabQ0 [] [])) (Λ:=lamP2) (MTab.okz tabQ0 [] []) q34 100 86 2 19 ixv_LP [] Inv ixv_rr ixv_ss m default [.ret,.exit 0] ixv_one (λrd T B HL HB ds g=>by kernel_rfl) (λrd T B HL HB ds g=>by kernel_rfl) hs hg ixv_es
abbrev rcs_G:Type:=Unit×Bool×List BA×Int×List Rec×Int×List Rec
def rcs_LP:LP 1 rcs_G:=.pair (.fix 1 0 (.p 0 0)) (.pair (.obj 1 0 75 eBool) (.pair (.slot 1 10 dLS) (.pair (.slot 1 11 dI) (.pair (.row 1 5 63 eR) (.pair (.slot 1 12 dI) (.slot 1 4 dLR))))))
def rcs_R(_u:Unit)(z:Bool)(xs:List BA)(n:Int)(o:List Rec)(i:Int)(q:List Rec):Ex×rcs_G:=
 bif decide (i<n)then bif (q25 (xs.getD i.toNat eStr.dflt)).snd !=(0:Int)then(Ex.ret,(),true,eStr.ag xs,n,eR.ag o,i,[])else(Ex.normal,(),z,eStr.ag xs,n,eR.lst (min (o.length+(1:Nat)) o.length) (eR.els o)++List.map (λx=>(q25 (xs.getD i.toNat eStr.dflt)).fst) (List.range (o.length+(1:Nat)-o.length)),IntKind.i64.wrap (i+(1:Int)),eR.ag q)
 else(Ex.exit (0:Nat),(),z,eStr.ag xs,n,eR.ag o,i,eR.ag q)
def rcs_side(_u:Unit)(z:Bool)(xs:List BA)(n:Int)(o:List Rec)(i:Int)(q:List Rec):Prop:=
 (decide (i<n)=true->((0:Int)<=i/\i<(↑xs.length:Int))/\(xs.getD i.toNat eStr.dflt).size<=KS/\(((q25 (xs.getD i.toNat eStr.dflt)).snd !=(0:Int))=true->eStr.okL xs/\o.length<=o.length/\∀(e:Nat),e<o.length->True)/\(((q25 (xs.getD i.toNat eStr.dflt)).snd !=(0:Int))=false->(o.length<=o.length/\True/\o.length+(1:Nat)<=maxLen/\(o.length+(1:Nat))*Tryd.prog.types[(63:Nat)].bytes<=(140737488355328:Nat))/\eStr.okL xs/\o.length+(1:Nat)<=o.length+(1:Nat)/\(∀(e:Nat),e<min (o.length+(1:Nat)) o.length->True)/\(∀(e:Nat),e<o.length+(1:Nat)-o.length->True)/\eR.okL q))/\(decide (i<n)=false->eStr.okL xs/\o.length<=o.length/\(∀(e:Nat),e<o.length->True)/\eR.okL q)
theorem rcs_one:((q00 Tryd.prog 53).filter λc=>Nat.beq (lkey c) 3).length=1:=by kernel_rfl
abbrev qaw:Type:=List BA×Int
abbrev rcs_GB:Type:=Bool×List Rec×List Rec×Unit
def rcs_f(g:rcs_G):Int×qaw×rcs_GB:=(g.2.2.2.2.2.1,(g.2.2.1,g.2.2.2.1),(g.2.1,g.2.2.2.2.1,g.2.2.2.2.2.2,g.1))
def rcs_g(d:Int×qaw×rcs_GB):rcs_G:=(d.2.2.2.2.2,d.2.2.1,d.2.1.1,d.2.1.2,d.2.2.2.1,d.1,d.2.2.2.2.1)
abbrev rcs_rr(g:rcs_G):Ex×rcs_G:=rcs_R g.1 g.2.1 g.2.2.1 g.2.2.2.1 g.2.2.2.2.1 g.2.2.2.2.2.1 g.2.2.2.2.2.2
abbrev rcs_ss(g:rcs_G):Prop:=rcs_side g.1 g.2.1 g.2.2.1 g.2.2.2.1 g.2.2.2.2.1 g.2.2.2.2.2.1 g.2.2.2.2.2.2
theorem rcs_es(g:rcs_G):(rcs_rr g).1=.normal\/(rcs_rr g).1∈([.ret,.exit 0]:List Ex):=by
 unfold rcs_rr rcs_R
 repeat' (first|(left;rfl)|(right;simp only[cond_true,cond_false];simp;done)|(rw[Bool.cond_eq_ite];split))
abbrev rcs_C(Inv:rcs_G->List Prop)(m:rcs_G->Nat):LCon:=loopR [.ret,.exit 0] (loopBody Tryd.prog 53 3) rcs_LP [] 32 Inv rcs_rr m
theorem rcs_loop(Inv:rcs_G->List Prop)(m:rcs_G->Nat)(hs:∀g,allP (Inv g)->rcs_ss g)(hg:Goes rcs_rr m λg=>allP (Inv g)):∀b∈q00 Tryd.prog 53,lkey b=3->q04 Tryd.prog b (rcs_C Inv m).g:=q0h (Γ:=(MTab.gamz tabQ0 [] [])) (Λ:=lamP2) (MTab.okz tabQ0 [] []) q34 100 53 3 32 rcs_LP [] Inv rcs_rr rcs_ss m default [.ret,.exit 0] rcs_one (λrd T B HL HB ds g=>by kernel_rfl) (λrd T B HL HB ds g=>by kernel_rfl) hs hg rcs_es
open Go.RowKit Go.Sx Go.Lp
def ixr_S(c:q3q)(b:ixr_GB)(i:Int)(v:Rec):Ex×ixr_GB:=bif chkR v !=(0:Int)then(.ret,i,())else(.normal,b.1,b.2)
def ixr_K(c:q3q)(b:ixr_GB)(i:Int):Prop:=True
abbrev ixr_I(g:ixr_G):List Prop:=ixI (λc:q3q=>c.2) (λc:q3q=>c.1) ixr_K (ixr_f g)
abbrev ixr_M(g:ixr_G):Nat:=ixM (λc:q3q=>c.2) (ixr_f g)
theorem ixr_P:ixP ixr_S (λc:q3q=>c.1) ixr_K:=λ_ _ _ _ h _ _=>h
abbrev ixr_RR(g:ixr_G):Ex×ixr_G:=ixr_R g.1 g.2.1 g.2.2.1 g.2.2.2.1 g.2.2.2.2
theorem ixr_RF(d:Int×q3q×ixr_GB)(hi:allP (ixI (λc:q3q=>c.2) (λc:q3q=>c.1) ixr_K d)):ixr_RR (ixr_g d)=((ixF 0 (λc:q3q=>c.2) (λc:q3q=>c.1) eR.dflt ixr_S d).1,ixr_g (ixF 0 (λc:q3q=>c.2) (λc:q3q=>c.1) eR.dflt ixr_S d).2):=by
 obtain⟨i,⟨xs,n⟩,⟨r,⟨⟩⟩⟩:=d;show ixr_R xs () n i r=_;unfold ixr_R ixF ixr_S;simp only[El.ag_eq,El.okL_eq];cases decide (i<n)with
 |false=>rfl
 |true=>
  simp only[cond_true];generalize (chkR (xs.getD i.toNat eR.dflt)!=(0:Int))=z;cases z<;>rfl
theorem ixr_ok:∀b∈q00 Tryd.prog 83,lkey b=2->q04 Tryd.prog b (ixr_C ixr_I ixr_M).g:=by
 refine ixr_loop ixr_I ixr_M (λg hi=>?_) (q09 (λ_=>rfl) (λ_=>rfl) ixr_RF ixr_P);obtain⟨xs,⟨⟩,n,i,r⟩:=g;obtain⟨h1,h2,h3,h4,h5⟩:=hi _ (List.mem_cons_self ..);have h1:n=(xs.length:Int):=h1;have h3:0<=i:=h3;have h5:True:=h5;show ixr_side xs () n i r;unfold ixr_side;simp only[El.okL_eq,decide_eq_true_eq,decide_eq_false_iff_not];have k0:∀e:Nat,e<xs.length->eR.Ok (eR.els xs e):=λe _=>eR.ok_els xs e;clear hi
 repeat' (first|exact True.intro|exact k0|apply And.intro|intro _)
 all_goals omega
theorem ixr_run(c:q3q)(b:ixr_GB)(k1:c.2=((c.1).length:Int))(k2:(c.1).length<=maxLen)(k3:ixr_K c b 0):loopF ixr_RR ixr_M (ixr_g (0,c,b))=((scan 0 (ixr_S c) 0 (c.1) b).1,ixr_g ((scan 0 (ixr_S c) 0 (c.1) b).2.1,c,(scan 0 (ixr_S c) 0 (c.1) b).2.2)):=q0e (φ:=ixr_f) (ψ:=ixr_g) (λ_=>rfl) (λ_=>rfl) ixr_RF ixr_P c b k1 k2 k3
def ixd_S(c:q3r)(b:ixd_GB)(i:Int)(v:Nd):Ex×ixd_GB:=bif chkD v !=(0:Int)then(.ret,i,())else(.normal,b.1,b.2)
def ixd_K(c:q3r)(b:ixd_GB)(i:Int):Prop:=True
abbrev ixd_I(g:ixd_G):List Prop:=ixI (λc:q3r=>c.2) (λc:q3r=>c.1) ixd_K (ixd_f g)
abbrev ixd_M(g:ixd_G):Nat:=ixM (λc:q3r=>c.2) (ixd_f g)
theorem ixd_P:ixP ixd_S (λc:q3r=>c.1) ixd_K:=λ_ _ _ _ h _ _=>h
abbrev ixd_RR(g:ixd_G):Ex×ixd_G:=ixd_R g.1 g.2.1 g.2.2.1 g.2.2.2.1 g.2.2.2.2
theorem ixd_RF(d:Int×q3r×ixd_GB)(hi:allP (ixI (λc:q3r=>c.2) (λc:q3r=>c.1) ixd_K d)):ixd_RR (ixd_g d)=((ixF 0 (λc:q3r=>c.2) (λc:q3r=>c.1) eD.dflt ixd_S d).1,ixd_g (ixF 0 (λc:q3r=>c.2) (λc:q3r=>c.1) eD.dflt ixd_S d).2):=by
 obtain⟨i,⟨xs,n⟩,⟨r,⟨⟩⟩⟩:=d;show ixd_R xs () n i r=_;unfold ixd_R ixF ixd_S;simp only[El.ag_eq,El.okL_eq];cases decide (i<n)with
 |false=>rfl
 |true=>
  simp only[cond_true];generalize (chkD (xs.getD i.toNat eD.dflt)!=(0:Int))=z;cases z<;>rfl
theorem ixd_ok:∀b∈q00 Tryd.prog 85,lkey b=2->q04 Tryd.prog b (ixd_C ixd_I ixd_M).g:=by
 refine ixd_loop ixd_I ixd_M (λg hi=>?_) (q09 (λ_=>rfl) (λ_=>rfl) ixd_RF ixd_P);obtain⟨xs,⟨⟩,n,i,r⟩:=g;obtain⟨h1,h2,h3,h4,h5⟩:=hi _ (List.mem_cons_self ..);have h1:n=(xs.length:Int):=h1;have h3:0<=i:=h3;have h5:True:=h5;show ixd_side xs () n i r;unfold ixd_side;simp only[El.okL_eq,decide_eq_true_eq,decide_eq_false_iff_not];have k0:∀e:Nat,e<xs.length->eD.Ok (eD.els xs e):=λe _=>eD.ok_els xs e;clear hi
 repeat' (first|exact True.intro|exact k0|apply And.intro|intro _)
 all_goals omega
theorem ixd_run(c:q3r)(b:ixd_GB)(k1:c.2=((c.1).length:Int))(k2:(c.1).length<=maxLen)(k3:ixd_K c b 0):loopF ixd_RR ixd_M (ixd_g (0,c,b))=((scan 0 (ixd_S c) 0 (c.1) b).1,ixd_g ((scan 0 (ixd_S c) 0 (c.1) b).2.1,c,(scan 0 (ixd_S c) 0 (c.1) b).2.2)):=q0e (φ:=ixd_f) (ψ:=ixd_g) (λ_=>rfl) (λ_=>rfl) ixd_RF ixd_P c b k1 k2 k3
def ixv_S(c:q3p)(b:ixv_GB)(i:Int)(v:Mv):Ex×ixv_GB:=bif decide ((ByteArray.size v.fn.s:Int)>(64:Int))then(.ret,i,())else(.normal,b.1,b.2)
def ixv_K(c:q3p)(b:ixv_GB)(i:Int):Prop:=True
abbrev ixv_I(g:ixv_G):List Prop:=ixI (λc:q3p=>c.2) (λc:q3p=>c.1) ixv_K (ixv_f g)
abbrev ixv_M(g:ixv_G):Nat:=ixM (λc:q3p=>c.2) (ixv_f g)
theorem ixv_P:ixP ixv_S (λc:q3p=>c.1) ixv_K:=λ_ _ _ _ h _ _=>h
abbrev ixv_RR(g:ixv_G):Ex×ixv_G:=ixv_R g.1 g.2.1 g.2.2.1 g.2.2.2.1 g.2.2.2.2
theorem ixv_RF(d:Int×q3p×ixv_GB)(hi:allP (ixI (λc:q3p=>c.2) (λc:q3p=>c.1) ixv_K d)):ixv_RR (ixv_g d)=((ixF 0 (λc:q3p=>c.2) (λc:q3p=>c.1) eV.dflt ixv_S d).1,ixv_g (ixF 0 (λc:q3p=>c.2) (λc:q3p=>c.1) eV.dflt ixv_S d).2):=by
 obtain⟨i,⟨xs,n⟩,⟨r,⟨⟩⟩⟩:=d;show ixv_R xs () n i r=_;unfold ixv_R ixF ixv_S;simp only[El.ag_eq,El.okL_eq];cases decide (i<n)with
 |false=>rfl
 |true=>
  simp only[cond_true];generalize (decide ((ByteArray.size (xs.getD i.toNat eV.dflt).fn.s:Int)>(64:Int)))=z;cases z<;>rfl
theorem ixv_ok:∀b∈q00 Tryd.prog 86,lkey b=2->q04 Tryd.prog b (ixv_C ixv_I ixv_M).g:=by
 refine ixv_loop ixv_I ixv_M (λg hi=>?_) (q09 (λ_=>rfl) (λ_=>rfl) ixv_RF ixv_P);obtain⟨xs,⟨⟩,n,i,r⟩:=g;obtain⟨h1,h2,h3,h4,h5⟩:=hi _ (List.mem_cons_self ..);have h1:n=(xs.length:Int):=h1;have h3:0<=i:=h3;have h5:True:=h5;show ixv_side xs () n i r;unfold ixv_side;simp only[El.okL_eq,decide_eq_true_eq,decide_eq_false_iff_not];have k0:∀e:Nat,e<xs.length->eV.Ok (eV.els xs e):=λe _=>eV.ok_els xs e;clear hi
 repeat' (first|exact True.intro|exact k0|apply And.intro|intro _)
 all_goals omega
theorem ixv_run(c:q3p)(b:ixv_GB)(k1:c.2=((c.1).length:Int))(k2:(c.1).length<=maxLen)(k3:ixv_K c b 0):loopF ixv_RR ixv_M (ixv_g (0,c,b))=((scan 0 (ixv_S c) 0 (c.1) b).1,ixv_g ((scan 0 (ixv_S c) 0 (c.1) b).2.1,c,(scan 0 (ixv_S c) 0 (c.1) b).2.2)):=q0e (φ:=ixv_f) (ψ:=ixv_g) (λ_=>rfl) (λ_=>rfl) ixv_RF ixv_P c b k1 k2 k3
def ltQ3a:LTab Tryd.prog:=(((LTab.nil.cons 83 2 (ixr_C ixr_I ixr_M) ixr_ok).cons 85 2 (ixd_C ixd_I ixd_M) ixd_ok).cons 86 2 (ixv_C ixv_I ixv_M) ixv_ok)
end
end Go.Proofs.YtapdglacmebbaaaDoor
