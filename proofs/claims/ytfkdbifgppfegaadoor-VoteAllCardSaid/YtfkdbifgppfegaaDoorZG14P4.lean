/- Chapter 21: the law VoteAll: the inner loop. Printed by treegen.py. -/
import Derived.Test.YtfkdbifgppfegaaDoorZG13a22ed1
import Derived.Test.YtfkdbifgppfegaaDoorZG0555ce6c
import Derived.Test.YtfkdbifgppfegaaDoorZG065e5f9a
import Derived.Test.YtfkdbifgppfegaaDoorZG12f56d1d
import Derived.Test.YtfkdbifgppfegaaDoorCards
set_option linter.unusedVariables false
set_option linter.unusedSimpArgs false
set_option linter.constructorNameAsVariable false
set_option linter.all false

namespace Go.Proofs.YtfkdbifgppfegaaDoor
open Go.RowKit Go.Sx
set_option maxRecDepth 100000
abbrev vai_G:Type:=List Ms×Int×Int×Bool×Unit×Ld×Unit×Ld
noncomputable def vai_LP:LP 4 vai_G:=.pair (.slot 4 120 dLMs) (.pair (.slot 4 121 dI) (.pair (.slot 4 122 dI) (.pair (.slot 4 4 dBool) (.pair (.fix 4 6 (.p 0 0)) (.pair (.obj 4 0 31 eL) (.pair (.fix 4 14 (.p 3 0)) (.obj 4 3 31 eL)))))))
noncomputable def vai_R(xs:List Ms)(n:Int)(i:Int)(r:Bool)(_u:Unit)(l:Ld)(_v:Unit)(o:Ld):Ex×vai_G:=
 bif decide (i<n)then bif !(xs.getD i.toNat eMs.dflt).yes==(l.ver !=o.ver)then(Ex.ret,eMs.ag xs,n,i,false,(),Ld.mk l.workers l.stage l.ver l.cut (Dl.mk (eI.ag l.dl.drop) (eD.ag l.dl.put) (eV.ag l.dl.moves)) (eBool.ag l.voted) l.yes l.why (eN.ag l.ents),(),Ld.mk o.workers o.stage o.ver o.cut (Dl.mk (eI.ag o.dl.drop) (eD.ag o.dl.put) (eV.ag o.dl.moves)) (eBool.ag o.voted) o.yes o.why (eN.ag o.ents))else(Ex.normal,eMs.ag xs,n,IntKind.i64.wrap (i+(1:Int)),r,(),Ld.mk l.workers l.stage l.ver l.cut (Dl.mk (eI.ag l.dl.drop) (eD.ag l.dl.put) (eV.ag l.dl.moves)) (eBool.ag l.voted) l.yes l.why (eN.ag l.ents),(),Ld.mk o.workers o.stage o.ver o.cut (Dl.mk (eI.ag o.dl.drop) (eD.ag o.dl.put) (eV.ag o.dl.moves)) (eBool.ag o.voted) o.yes o.why (eN.ag o.ents))
 else(Ex.exit (3:Nat),eMs.ag xs,n,i,r,(),Ld.mk l.workers l.stage l.ver l.cut (Dl.mk (eI.ag l.dl.drop) (eD.ag l.dl.put) (eV.ag l.dl.moves)) (eBool.ag l.voted) l.yes l.why (eN.ag l.ents),(),Ld.mk o.workers o.stage o.ver o.cut (Dl.mk (eI.ag o.dl.drop) (eD.ag o.dl.put) (eV.ag o.dl.moves)) (eBool.ag o.voted) o.yes o.why (eN.ag o.ents))
def vai_side(xs:List Ms)(n:Int)(i:Int)(r:Bool)(_u:Unit)(l:Ld)(_v:Unit)(o:Ld):Prop:=
 (decide (i<n)=true->((0:Int)<=i/\i<(↑xs.length:Int))/\((!(xs.getD i.toNat eMs.dflt).yes==(l.ver !=o.ver))=true->eMs.okL xs/\eI.okL l.dl.drop/\eD.okL l.dl.put/\eV.okL l.dl.moves/\eBool.okL l.voted/\eN.okL l.ents/\eI.okL o.dl.drop/\eD.okL o.dl.put/\eV.okL o.dl.moves/\eBool.okL o.voted/\eN.okL o.ents)/\((!(xs.getD i.toNat eMs.dflt).yes==(l.ver !=o.ver))=false->eMs.okL xs/\eI.okL l.dl.drop/\eD.okL l.dl.put/\eV.okL l.dl.moves/\eBool.okL l.voted/\eN.okL l.ents/\eI.okL o.dl.drop/\eD.okL o.dl.put/\eV.okL o.dl.moves/\eBool.okL o.voted/\eN.okL o.ents))/\(decide (i<n)=false->eMs.okL xs/\eI.okL l.dl.drop/\eD.okL l.dl.put/\eV.okL l.dl.moves/\eBool.okL l.voted/\eN.okL l.ents/\eI.okL o.dl.drop/\eD.okL o.dl.put/\eV.okL o.dl.moves/\eBool.okL o.voted/\eN.okL o.ents)
theorem vai_one:((loopsOf Tryd.prog 5).filter λc=>Nat.beq (lkey c) 32).length=1:=by kernel_rfl
abbrev vai_GC:Type:=List Ms×Int×Ld×Ld
abbrev vai_GB:Type:=Bool×Unit×Unit
def vai_f(g:vai_G):Int×vai_GC×vai_GB:=(g.2.2.1,(g.1,g.2.1,g.2.2.2.2.2.1,g.2.2.2.2.2.2.2),(g.2.2.2.1,g.2.2.2.2.1,g.2.2.2.2.2.2.1))
def vai_g(d:Int×vai_GC×vai_GB):vai_G:=(d.2.1.1,d.2.1.2.1,d.1,d.2.2.1,d.2.2.2.1,d.2.1.2.2.1,d.2.2.2.2,d.2.1.2.2.2)
theorem vai_es(g:vai_G):(vai_R g.1 g.2.1 g.2.2.1 g.2.2.2.1 g.2.2.2.2.1 g.2.2.2.2.2.1 g.2.2.2.2.2.2.1 g.2.2.2.2.2.2.2).1=.normal\/(vai_R g.1 g.2.1 g.2.2.1 g.2.2.2.1 g.2.2.2.2.1 g.2.2.2.2.2.1 g.2.2.2.2.2.2.1 g.2.2.2.2.2.2.2).1∈([.ret,.exit 3]:List Ex):=by
 unfold vai_R
 repeat' (first|(left;rfl)|(right;simp only[cond_true,cond_false];simp;done)|(rw[Bool.cond_eq_ite];split))
noncomputable abbrev vai_C(Inv:vai_G->List Prop)(m:vai_G->Nat):LCon:=loopR [.ret,.exit 3] (loopBody Tryd.prog 5 32) vai_LP [] 136 Inv (λg=>vai_R g.1 g.2.1 g.2.2.1 g.2.2.2.1 g.2.2.2.2.1 g.2.2.2.2.2.1 g.2.2.2.2.2.2.1 g.2.2.2.2.2.2.2) m
theorem vai_loop(Inv:vai_G->List Prop)(m:vai_G->Nat)(hs:∀g,allP (Inv g)->vai_side g.1 g.2.1 g.2.2.1 g.2.2.2.1 g.2.2.2.2.1 g.2.2.2.2.2.1 g.2.2.2.2.2.2.1 g.2.2.2.2.2.2.2)(hg:Goes (λg:vai_G=>vai_R g.1 g.2.1 g.2.2.1 g.2.2.2.1 g.2.2.2.2.1 g.2.2.2.2.2.1 g.2.2.2.2.2.2.1 g.2.2.2.2.2.2.2) m λg=>allP (Inv g)):∀b∈loopsOf Tryd.prog 5,lkey b=32->LoopOk Tryd.prog b (vai_C Inv m).g:=loop_run (Γ:=(PTab.gamz tabZ6 [] [])) (Λ:=noΛ) (PTab.okz tabZ6 [] []) noΛ_ok 100 5 32 136 vai_LP [] Inv (λg=>vai_R g.1 g.2.1 g.2.2.1 g.2.2.2.1 g.2.2.2.2.1 g.2.2.2.2.2.1 g.2.2.2.2.2.2.1 g.2.2.2.2.2.2.2) (λg=>vai_side g.1 g.2.1 g.2.2.1 g.2.2.2.1 g.2.2.2.2.1 g.2.2.2.2.2.1 g.2.2.2.2.2.2.1 g.2.2.2.2.2.2.2) m default [.ret,.exit 3] vai_one (λrd T B HL HB ds g=>by kernel_rfl) (λrd T B HL HB ds g=>by kernel_rfl) hs hg vai_es
end Go.Proofs.YtfkdbifgppfegaaDoor

namespace Go.Proofs.YtfkdbifgppfegaaDoor
open Go.RowKit Go.Sx Go.Lp
set_option maxRecDepth 100000
noncomputable def vai_S(c:vai_GC)(b:vai_GB)(i:Int)(v:Ms):Ex×vai_GB:=bif !v.yes==(c.2.2.1.ver !=c.2.2.2.ver)then(.ret,false,(),())else(.normal,b.1,b.2.1,b.2.2)
def vai_K(c:vai_GC)(b:vai_GB)(i:Int):Prop:=True
abbrev vai_I(g:vai_G):List Prop:=ixI (λc:vai_GC=>c.2.1) (λc:vai_GC=>c.1) vai_K (vai_f g)
abbrev vai_M(g:vai_G):Nat:=ixM (λc:vai_GC=>c.2.1) (vai_f g)
theorem vai_P:ixP vai_S (λc:vai_GC=>c.1) vai_K:=λ_ _ _ _ h _ _=>h
noncomputable abbrev vai_RR(g:vai_G):Ex×vai_G:=vai_R g.1 g.2.1 g.2.2.1 g.2.2.2.1 g.2.2.2.2.1 g.2.2.2.2.2.1 g.2.2.2.2.2.2.1 g.2.2.2.2.2.2.2
theorem vai_RF(d:Int×vai_GC×vai_GB)(hi:allP (ixI (λc:vai_GC=>c.2.1) (λc:vai_GC=>c.1) vai_K d)):vai_RR (vai_g d)=((ixF 3 (λc:vai_GC=>c.2.1) (λc:vai_GC=>c.1) eMs.dflt vai_S d).1,vai_g (ixF 3 (λc:vai_GC=>c.2.1) (λc:vai_GC=>c.1) eMs.dflt vai_S d).2):=by
 obtain⟨i,⟨xs,n,l,o⟩,⟨r,⟨⟩,_v⟩⟩:=d;show vai_R xs n i r () l _v o=_;unfold vai_R ixF vai_S;simp only[El.ag_eq,El.okL_eq];cases decide (i<n)with
 |false=>rfl
 |true=>
  simp only[cond_true];generalize (!(xs.getD i.toNat eMs.dflt).yes==(l.ver !=o.ver))=z;cases z<;>rfl
theorem vai_ok:∀b∈loopsOf Tryd.prog 5,lkey b=32->LoopOk Tryd.prog b (vai_C vai_I vai_M).g:=by
 refine vai_loop vai_I vai_M (λg hi=>?_) (ix_conj_goes (λ_=>rfl) (λ_=>rfl) vai_RF vai_P);obtain⟨xs,n,i,r,⟨⟩,l,_v,o⟩:=g;obtain⟨h1,h2,h3,h4,h5⟩:=hi _ (List.mem_cons_self ..);have h1:n=(xs.length:Int):=h1;have h3:0<=i:=h3;have h5:True:=h5;show vai_side xs n i r () l _v o;unfold vai_side;simp only[El.okL_eq,decide_eq_true_eq,decide_eq_false_iff_not];have k0:∀e:Nat,e<xs.length->eMs.Ok (eMs.els xs e):=λe _=>eMs.ok_els xs e;clear hi
 repeat' (first|exact True.intro|exact k0|apply And.intro|intro _)
 all_goals omega
theorem vai_run(c:vai_GC)(b:vai_GB)(k1:c.2.1=((c.1).length:Int))(k2:(c.1).length<=maxLen)(k3:vai_K c b 0):loopF vai_RR vai_M (vai_g (0,c,b))=((scan 3 (vai_S c) 0 (c.1) b).1,vai_g ((scan 3 (vai_S c) 0 (c.1) b).2.1,c,(scan 3 (vai_S c) 0 (c.1) b).2.2)):=ix_conj_run (φ:=vai_f) (ψ:=vai_g) (λ_=>rfl) (λ_=>rfl) vai_RF vai_P c b k1 k2 k3
noncomputable def ltI2:LTab Tryd.prog:=(LTab.nil.cons 5 32 (vai_C vai_I vai_M) vai_ok)
noncomputable abbrev lamI2:Lam:=ltI2.lam
theorem lamI2_ok:∀f k L,lamI2 f k=some L->∀b∈loopsOf Tryd.prog f,lkey b=k->LoopOk Tryd.prog b L.g:=ltI2.ok
end Go.Proofs.YtfkdbifgppfegaaDoor

namespace Go.Proofs.YtfkdbifgppfegaaDoor
open Go.RowKit Go.Sx
set_option maxRecDepth 100000
noncomputable def vao_q1(xs:List Do)(n:Int)(i:Int)(r:Bool)(k:Int)(ys:Int)(bad:Bool)(en:Int)(_u:Unit)(l:Ld):dBool.T:=
 few21_F (Do.mk (xs.getD i.toNat eO.dflt).kind (xs.getD i.toNat eO.dflt).worker (xs.getD i.toNat eO.dflt).cut (xs.getD i.toNat eO.dflt).why (Dl.mk (eI.ag (xs.getD i.toNat eO.dflt).dl.drop) (eD.ag (xs.getD i.toNat eO.dflt).dl.put) (eV.ag (xs.getD i.toNat eO.dflt).dl.moves)) (Ms.mk (xs.getD i.toNat eO.dflt).m.kind (xs.getD i.toNat eO.dflt).m.ver (xs.getD i.toNat eO.dflt).m.p (xs.getD i.toNat eO.dflt).m.t (eR.ag (xs.getD i.toNat eO.dflt).m.recs) (eC.ag (xs.getD i.toNat eO.dflt).m.changes) (Dl.mk (eI.ag (xs.getD i.toNat eO.dflt).m.dl.drop) (eD.ag (xs.getD i.toNat eO.dflt).m.dl.put) (eV.ag (xs.getD i.toNat eO.dflt).m.dl.moves)) (xs.getD i.toNat eO.dflt).m.cut (eN.ag (xs.getD i.toNat eO.dflt).m.ents) (xs.getD i.toNat eO.dflt).m.yes (xs.getD i.toNat eO.dflt).m.why))
noncomputable def vao_q2(xs:List Do)(n:Int)(i:Int)(r:Bool)(k:Int)(ys:Int)(bad:Bool)(en:Int)(_u:Unit)(l:Ld):Sd:=
 doS (Ld.mk l.workers l.stage l.ver l.cut (Dl.mk (eI.ag l.dl.drop) (eD.ag l.dl.put) (eV.ag l.dl.moves)) (eBool.ag l.voted) l.yes l.why (eN.ag l.ents)) (Do.mk (xs.getD i.toNat eO.dflt).kind (xs.getD i.toNat eO.dflt).worker (xs.getD i.toNat eO.dflt).cut (xs.getD i.toNat eO.dflt).why (Dl.mk (eI.ag (xs.getD i.toNat eO.dflt).dl.drop) (eD.ag (xs.getD i.toNat eO.dflt).dl.put) (eV.ag (xs.getD i.toNat eO.dflt).dl.moves)) (Ms.mk (xs.getD i.toNat eO.dflt).m.kind (xs.getD i.toNat eO.dflt).m.ver (xs.getD i.toNat eO.dflt).m.p (xs.getD i.toNat eO.dflt).m.t (eR.ag (xs.getD i.toNat eO.dflt).m.recs) (eC.ag (xs.getD i.toNat eO.dflt).m.changes) (Dl.mk (eI.ag (xs.getD i.toNat eO.dflt).m.dl.drop) (eD.ag (xs.getD i.toNat eO.dflt).m.dl.put) (eV.ag (xs.getD i.toNat eO.dflt).m.dl.moves)) (xs.getD i.toNat eO.dflt).m.cut (eN.ag (xs.getD i.toNat eO.dflt).m.ents) (xs.getD i.toNat eO.dflt).m.yes (xs.getD i.toNat eO.dflt).m.why))
noncomputable def vao_q3(xs:List Do)(n:Int)(i:Int)(r:Bool)(k:Int)(ys:Int)(bad:Bool)(en:Int)(_u:Unit)(l:Ld):Ex×
 vai_G:=
 loopF (λg=>vai_R g.fst g.snd.fst g.snd.snd.fst g.snd.snd.snd.fst g.snd.snd.snd.snd.fst g.snd.snd.snd.snd.snd.fst g.snd.snd.snd.snd.snd.snd.fst g.snd.snd.snd.snd.snd.snd.snd) vai_M (eMs.ag (vao_q2 xs n i r k ys bad en _u l).ms,(↑(vao_q2 xs n i r k ys bad en _u l).ms.length:Int),(0:Int),r,(),Ld.mk (vao_q2 xs n i r k ys bad en _u l).l.workers (vao_q2 xs n i r k ys bad en _u l).l.stage (vao_q2 xs n i r k ys bad en _u l).l.ver (vao_q2 xs n i r k ys bad en _u l).l.cut (Dl.mk (eI.ag (vao_q2 xs n i r k ys bad en _u l).l.dl.drop) (eD.ag (vao_q2 xs n i r k ys bad en _u l).l.dl.put) (eV.ag (vao_q2 xs n i r k ys bad en _u l).l.dl.moves)) (eBool.ag (vao_q2 xs n i r k ys bad en _u l).l.voted) (vao_q2 xs n i r k ys bad en _u l).l.yes (vao_q2 xs n i r k ys bad en _u l).l.why (eN.ag (vao_q2 xs n i r k ys bad en _u l).l.ents),(),Ld.mk l.workers l.stage l.ver l.cut (Dl.mk (eI.ag l.dl.drop) (eD.ag l.dl.put) (eV.ag l.dl.moves)) (eBool.ag l.voted) l.yes l.why (eN.ag l.ents))
abbrev vao_G:Type:=List Do×Int×Int×Bool×Int×Int×Bool×Int×Unit×Ld
noncomputable def vao_LP:LP 1 vao_G:=.pair (.slot 1 34 dLO) (.pair (.slot 1 35 dI) (.pair (.slot 1 36 dI) (.pair (.slot 1 4 dBool) (.pair (.slot 1 5 dI) (.pair (.slot 1 8 dI) (.pair (.slot 1 9 dBool) (.pair (.slot 1 10 dI) (.pair (.fix 1 6 (.p 0 0)) (.obj 1 0 31 eL)))))))))
noncomputable def vao_R(xs:List Do)(n:Int)(i:Int)(r:Bool)(k:Int)(ys:Int)(bad:Bool)(en:Int)(_u:Unit)(l:Ld):Ex×vao_G:=
 bif decide (i<n)then bif !(vao_q1 xs n i r k ys bad en _u l)then(Ex.normal,eO.ag xs,n,IntKind.i64.wrap (i+(1:Int)),r,k,ys,bad,en,(),Ld.mk l.workers l.stage l.ver l.cut (Dl.mk (eI.ag l.dl.drop) (eD.ag l.dl.put) (eV.ag l.dl.moves)) (eBool.ag l.voted) l.yes l.why (eN.ag l.ents))else bif (vao_q2 xs n i r k ys bad en _u l).e !=(0:Int)then(Ex.normal,eO.ag xs,n,IntKind.i64.wrap (i+(1:Int)),r,k,ys,bad,en,(),Ld.mk (vao_q2 xs n i r k ys bad en _u l).l.workers (vao_q2 xs n i r k ys bad en _u l).l.stage (vao_q2 xs n i r k ys bad en _u l).l.ver (vao_q2 xs n i r k ys bad en _u l).l.cut (Dl.mk (eI.ag (vao_q2 xs n i r k ys bad en _u l).l.dl.drop) (eD.ag (vao_q2 xs n i r k ys bad en _u l).l.dl.put) (eV.ag (vao_q2 xs n i r k ys bad en _u l).l.dl.moves)) (eBool.ag (vao_q2 xs n i r k ys bad en _u l).l.voted) (vao_q2 xs n i r k ys bad en _u l).l.yes (vao_q2 xs n i r k ys bad en _u l).l.why (eN.ag (vao_q2 xs n i r k ys bad en _u l).l.ents))else bif (xs.getD i.toNat eO.dflt).kind==(0:Int)then(Ex.normal,eO.ag xs,n,IntKind.i64.wrap (i+(1:Int)),r,k,(0:Int),false,(0:Int),(),Ld.mk (vao_q2 xs n i r k ys bad en _u l).l.workers (vao_q2 xs n i r k ys bad en _u l).l.stage (vao_q2 xs n i r k ys bad en _u l).l.ver (vao_q2 xs n i r k ys bad en _u l).l.cut (Dl.mk (eI.ag (vao_q2 xs n i r k ys bad en _u l).l.dl.drop) (eD.ag (vao_q2 xs n i r k ys bad en _u l).l.dl.put) (eV.ag (vao_q2 xs n i r k ys bad en _u l).l.dl.moves)) (eBool.ag (vao_q2 xs n i r k ys bad en _u l).l.voted) (vao_q2 xs n i r k ys bad en _u l).l.yes (vao_q2 xs n i r k ys bad en _u l).l.why (eN.ag (vao_q2 xs n i r k ys bad en _u l).l.ents))else bif (xs.getD i.toNat eO.dflt).kind==(1:Int)then bif (xs.getD i.toNat eO.dflt).m.yes then(Ex.normal,eO.ag xs,n,IntKind.i64.wrap (i+(1:Int)),r,k,IntKind.i64.wrap (ys+(1:Int)),bad||(!(xs.getD i.toNat eO.dflt).m.yes||decide (IntKind.i64.wrap (en+(↑(xs.getD i.toNat eO.dflt).m.ents.length:Int))>(1024:Int))),IntKind.i64.wrap (en+(↑(xs.getD i.toNat eO.dflt).m.ents.length:Int)),(),Ld.mk (vao_q2 xs n i r k ys bad en _u l).l.workers (vao_q2 xs n i r k ys bad en _u l).l.stage (vao_q2 xs n i r k ys bad en _u l).l.ver (vao_q2 xs n i r k ys bad en _u l).l.cut (Dl.mk (eI.ag (vao_q2 xs n i r k ys bad en _u l).l.dl.drop) (eD.ag (vao_q2 xs n i r k ys bad en _u l).l.dl.put) (eV.ag (vao_q2 xs n i r k ys bad en _u l).l.dl.moves)) (eBool.ag (vao_q2 xs n i r k ys bad en _u l).l.voted) (vao_q2 xs n i r k ys bad en _u l).l.yes (vao_q2 xs n i r k ys bad en _u l).l.why (eN.ag (vao_q2 xs n i r k ys bad en _u l).l.ents))else(Ex.normal,eO.ag xs,n,IntKind.i64.wrap (i+(1:Int)),r,k,ys,bad||(!(xs.getD i.toNat eO.dflt).m.yes||decide (IntKind.i64.wrap (en+(↑(xs.getD i.toNat eO.dflt).m.ents.length:Int))>(1024:Int))),IntKind.i64.wrap (en+(↑(xs.getD i.toNat eO.dflt).m.ents.length:Int)),(),Ld.mk (vao_q2 xs n i r k ys bad en _u l).l.workers (vao_q2 xs n i r k ys bad en _u l).l.stage (vao_q2 xs n i r k ys bad en _u l).l.ver (vao_q2 xs n i r k ys bad en _u l).l.cut (Dl.mk (eI.ag (vao_q2 xs n i r k ys bad en _u l).l.dl.drop) (eD.ag (vao_q2 xs n i r k ys bad en _u l).l.dl.put) (eV.ag (vao_q2 xs n i r k ys bad en _u l).l.dl.moves)) (eBool.ag (vao_q2 xs n i r k ys bad en _u l).l.voted) (vao_q2 xs n i r k ys bad en _u l).l.yes (vao_q2 xs n i r k ys bad en _u l).l.why (eN.ag (vao_q2 xs n i r k ys bad en _u l).l.ents))else bif (xs.getD i.toNat eO.dflt).kind==(3:Int)then(Ex.normal,eO.ag xs,n,IntKind.i64.wrap (i+(1:Int)),r,k,ys,true,en,(),Ld.mk (vao_q2 xs n i r k ys bad en _u l).l.workers (vao_q2 xs n i r k ys bad en _u l).l.stage (vao_q2 xs n i r k ys bad en _u l).l.ver (vao_q2 xs n i r k ys bad en _u l).l.cut (Dl.mk (eI.ag (vao_q2 xs n i r k ys bad en _u l).l.dl.drop) (eD.ag (vao_q2 xs n i r k ys bad en _u l).l.dl.put) (eV.ag (vao_q2 xs n i r k ys bad en _u l).l.dl.moves)) (eBool.ag (vao_q2 xs n i r k ys bad en _u l).l.voted) (vao_q2 xs n i r k ys bad en _u l).l.yes (vao_q2 xs n i r k ys bad en _u l).l.why (eN.ag (vao_q2 xs n i r k ys bad en _u l).l.ents))else bif (xs.getD i.toNat eO.dflt).kind==(4:Int)then bif bif ys==IntKind.i64.wrap ((2:Int)*k)then !((vao_q2 xs n i r k ys bad en _u l).l.ver==IntKind.i64.wrap (l.ver+(1:Int)))==!bad||(vao_q2 xs n i r k ys bad en _u l).l.ver !=l.ver&&(vao_q2 xs n i r k ys bad en _u l).l.ver !=IntKind.i64.wrap (l.ver+(1:Int))else !((vao_q2 xs n i r k ys bad en _u l).l.ver==IntKind.i64.wrap (l.ver+(1:Int)))==false||(vao_q2 xs n i r k ys bad en _u l).l.ver !=l.ver&&(vao_q2 xs n i r k ys bad en _u l).l.ver !=IntKind.i64.wrap (l.ver+(1:Int))then(Ex.ret,eO.ag xs,n,i,false,k,ys,bad,en,(),Ld.mk (vao_q2 xs n i r k ys bad en _u l).l.workers (vao_q2 xs n i r k ys bad en _u l).l.stage (vao_q2 xs n i r k ys bad en _u l).l.ver (vao_q2 xs n i r k ys bad en _u l).l.cut (Dl.mk (eI.ag (vao_q2 xs n i r k ys bad en _u l).l.dl.drop) (eD.ag (vao_q2 xs n i r k ys bad en _u l).l.dl.put) (eV.ag (vao_q2 xs n i r k ys bad en _u l).l.dl.moves)) (eBool.ag (vao_q2 xs n i r k ys bad en _u l).l.voted) (vao_q2 xs n i r k ys bad en _u l).l.yes (vao_q2 xs n i r k ys bad en _u l).l.why (eN.ag (vao_q2 xs n i r k ys bad en _u l).l.ents))else bif (↑(vao_q2 xs n i r k ys bad en _u l).ms.length:Int)!=k then(Ex.ret,eO.ag xs,n,i,false,k,ys,bad,en,(),Ld.mk (vao_q2 xs n i r k ys bad en _u l).l.workers (vao_q2 xs n i r k ys bad en _u l).l.stage (vao_q2 xs n i r k ys bad en _u l).l.ver (vao_q2 xs n i r k ys bad en _u l).l.cut (Dl.mk (eI.ag (vao_q2 xs n i r k ys bad en _u l).l.dl.drop) (eD.ag (vao_q2 xs n i r k ys bad en _u l).l.dl.put) (eV.ag (vao_q2 xs n i r k ys bad en _u l).l.dl.moves)) (eBool.ag (vao_q2 xs n i r k ys bad en _u l).l.voted) (vao_q2 xs n i r k ys bad en _u l).l.yes (vao_q2 xs n i r k ys bad en _u l).l.why (eN.ag (vao_q2 xs n i r k ys bad en _u l).l.ents))else bif exB Ex.ret (vao_q3 xs n i r k ys bad en _u l).fst then(Ex.ret,eO.ag xs,n,i,(vao_q3 xs n i r k ys bad en _u l).snd.snd.snd.snd.fst,k,ys,bad,en,(),Ld.mk (vao_q3 xs n i r k ys bad en _u l).snd.snd.snd.snd.snd.snd.fst.workers (vao_q3 xs n i r k ys bad en _u l).snd.snd.snd.snd.snd.snd.fst.stage (vao_q3 xs n i r k ys bad en _u l).snd.snd.snd.snd.snd.snd.fst.ver (vao_q3 xs n i r k ys bad en _u l).snd.snd.snd.snd.snd.snd.fst.cut (Dl.mk (eI.ag (vao_q3 xs n i r k ys bad en _u l).snd.snd.snd.snd.snd.snd.fst.dl.drop) (eD.ag (vao_q3 xs n i r k ys bad en _u l).snd.snd.snd.snd.snd.snd.fst.dl.put) (eV.ag (vao_q3 xs n i r k ys bad en _u l).snd.snd.snd.snd.snd.snd.fst.dl.moves)) (eBool.ag (vao_q3 xs n i r k ys bad en _u l).snd.snd.snd.snd.snd.snd.fst.voted) (vao_q3 xs n i r k ys bad en _u l).snd.snd.snd.snd.snd.snd.fst.yes (vao_q3 xs n i r k ys bad en _u l).snd.snd.snd.snd.snd.snd.fst.why (eN.ag (vao_q3 xs n i r k ys bad en _u l).snd.snd.snd.snd.snd.snd.fst.ents))else(Ex.normal,eO.ag xs,n,IntKind.i64.wrap (i+(1:Int)),(vao_q3 xs n i r k ys bad en _u l).snd.snd.snd.snd.fst,k,ys,bad,en,(),Ld.mk (vao_q3 xs n i r k ys bad en _u l).snd.snd.snd.snd.snd.snd.fst.workers (vao_q3 xs n i r k ys bad en _u l).snd.snd.snd.snd.snd.snd.fst.stage (vao_q3 xs n i r k ys bad en _u l).snd.snd.snd.snd.snd.snd.fst.ver (vao_q3 xs n i r k ys bad en _u l).snd.snd.snd.snd.snd.snd.fst.cut (Dl.mk (eI.ag (vao_q3 xs n i r k ys bad en _u l).snd.snd.snd.snd.snd.snd.fst.dl.drop) (eD.ag (vao_q3 xs n i r k ys bad en _u l).snd.snd.snd.snd.snd.snd.fst.dl.put) (eV.ag (vao_q3 xs n i r k ys bad en _u l).snd.snd.snd.snd.snd.snd.fst.dl.moves)) (eBool.ag (vao_q3 xs n i r k ys bad en _u l).snd.snd.snd.snd.snd.snd.fst.voted) (vao_q3 xs n i r k ys bad en _u l).snd.snd.snd.snd.snd.snd.fst.yes (vao_q3 xs n i r k ys bad en _u l).snd.snd.snd.snd.snd.snd.fst.why (eN.ag (vao_q3 xs n i r k ys bad en _u l).snd.snd.snd.snd.snd.snd.fst.ents))else(Ex.normal,eO.ag xs,n,IntKind.i64.wrap (i+(1:Int)),r,k,ys,bad,en,(),Ld.mk (vao_q2 xs n i r k ys bad en _u l).l.workers (vao_q2 xs n i r k ys bad en _u l).l.stage (vao_q2 xs n i r k ys bad en _u l).l.ver (vao_q2 xs n i r k ys bad en _u l).l.cut (Dl.mk (eI.ag (vao_q2 xs n i r k ys bad en _u l).l.dl.drop) (eD.ag (vao_q2 xs n i r k ys bad en _u l).l.dl.put) (eV.ag (vao_q2 xs n i r k ys bad en _u l).l.dl.moves)) (eBool.ag (vao_q2 xs n i r k ys bad en _u l).l.voted) (vao_q2 xs n i r k ys bad en _u l).l.yes (vao_q2 xs n i r k ys bad en _u l).l.why (eN.ag (vao_q2 xs n i r k ys bad en _u l).l.ents))
 else(Ex.exit (0:Nat),eO.ag xs,n,i,r,k,ys,bad,en,(),Ld.mk l.workers l.stage l.ver l.cut (Dl.mk (eI.ag l.dl.drop) (eD.ag l.dl.put) (eV.ag l.dl.moves)) (eBool.ag l.voted) l.yes l.why (eN.ag l.ents))
def vao_side(xs:List Do)(n:Int)(i:Int)(r:Bool)(k:Int)(ys:Int)(bad:Bool)(en:Int)(_u:Unit)(l:Ld):Prop:=
 (decide (i<n)=true->((0:Int)<=i/\i<(↑xs.length:Int))/\eI.okL (xs.getD i.toNat eO.dflt).dl.drop/\eD.okL (xs.getD i.toNat eO.dflt).dl.put/\eV.okL (xs.getD i.toNat eO.dflt).dl.moves/\eR.okL (xs.getD i.toNat eO.dflt).m.recs/\eC.okL (xs.getD i.toNat eO.dflt).m.changes/\eI.okL (xs.getD i.toNat eO.dflt).m.dl.drop/\eD.okL (xs.getD i.toNat eO.dflt).m.dl.put/\eV.okL (xs.getD i.toNat eO.dflt).m.dl.moves/\eN.okL (xs.getD i.toNat eO.dflt).m.ents/\((!(vao_q1 xs n i r k ys bad en _u l))=true->eO.okL xs/\eI.okL l.dl.drop/\eD.okL l.dl.put/\eV.okL l.dl.moves/\eBool.okL l.voted/\eN.okL l.ents)/\((!(vao_q1 xs n i r k ys bad en _u l))=false->eI.okL l.dl.drop/\eD.okL l.dl.put/\eV.okL l.dl.moves/\eBool.okL l.voted/\eN.okL l.ents/\eI.okL (xs.getD i.toNat eO.dflt).dl.drop/\eD.okL (xs.getD i.toNat eO.dflt).dl.put/\eV.okL (xs.getD i.toNat eO.dflt).dl.moves/\eR.okL (xs.getD i.toNat eO.dflt).m.recs/\eC.okL (xs.getD i.toNat eO.dflt).m.changes/\eI.okL (xs.getD i.toNat eO.dflt).m.dl.drop/\eD.okL (xs.getD i.toNat eO.dflt).m.dl.put/\eV.okL (xs.getD i.toNat eO.dflt).m.dl.moves/\eN.okL (xs.getD i.toNat eO.dflt).m.ents/\fewLO (Ld.mk l.workers l.stage l.ver l.cut (Dl.mk (eI.ag l.dl.drop) (eD.ag l.dl.put) (eV.ag l.dl.moves)) (eBool.ag l.voted) l.yes l.why (eN.ag l.ents),Do.mk (xs.getD i.toNat eO.dflt).kind (xs.getD i.toNat eO.dflt).worker (xs.getD i.toNat eO.dflt).cut (xs.getD i.toNat eO.dflt).why (Dl.mk (eI.ag (xs.getD i.toNat eO.dflt).dl.drop) (eD.ag (xs.getD i.toNat eO.dflt).dl.put) (eV.ag (xs.getD i.toNat eO.dflt).dl.moves)) (Ms.mk (xs.getD i.toNat eO.dflt).m.kind (xs.getD i.toNat eO.dflt).m.ver (xs.getD i.toNat eO.dflt).m.p (xs.getD i.toNat eO.dflt).m.t (eR.ag (xs.getD i.toNat eO.dflt).m.recs) (eC.ag (xs.getD i.toNat eO.dflt).m.changes) (Dl.mk (eI.ag (xs.getD i.toNat eO.dflt).m.dl.drop) (eD.ag (xs.getD i.toNat eO.dflt).m.dl.put) (eV.ag (xs.getD i.toNat eO.dflt).m.dl.moves)) (xs.getD i.toNat eO.dflt).m.cut (eN.ag (xs.getD i.toNat eO.dflt).m.ents) (xs.getD i.toNat eO.dflt).m.yes (xs.getD i.toNat eO.dflt).m.why))/\(((vao_q2 xs n i r k ys bad en _u l).e !=(0:Int))=true->eO.okL xs/\eI.okL (vao_q2 xs n i r k ys bad en _u l).l.dl.drop/\eD.okL (vao_q2 xs n i r k ys bad en _u l).l.dl.put/\eV.okL (vao_q2 xs n i r k ys bad en _u l).l.dl.moves/\eBool.okL (vao_q2 xs n i r k ys bad en _u l).l.voted/\eN.okL (vao_q2 xs n i r k ys bad en _u l).l.ents)/\(((vao_q2 xs n i r k ys bad en _u l).e !=(0:Int))=false->(((xs.getD i.toNat eO.dflt).kind==(0:Int))=true->eO.okL xs/\eI.okL (vao_q2 xs n i r k ys bad en _u l).l.dl.drop/\eD.okL (vao_q2 xs n i r k ys bad en _u l).l.dl.put/\eV.okL (vao_q2 xs n i r k ys bad en _u l).l.dl.moves/\eBool.okL (vao_q2 xs n i r k ys bad en _u l).l.voted/\eN.okL (vao_q2 xs n i r k ys bad en _u l).l.ents)/\(((xs.getD i.toNat eO.dflt).kind==(0:Int))=false->(((xs.getD i.toNat eO.dflt).kind==(1:Int))=true->((xs.getD i.toNat eO.dflt).m.yes=true->eO.okL xs/\eI.okL (vao_q2 xs n i r k ys bad en _u l).l.dl.drop/\eD.okL (vao_q2 xs n i r k ys bad en _u l).l.dl.put/\eV.okL (vao_q2 xs n i r k ys bad en _u l).l.dl.moves/\eBool.okL (vao_q2 xs n i r k ys bad en _u l).l.voted/\eN.okL (vao_q2 xs n i r k ys bad en _u l).l.ents)/\((xs.getD i.toNat eO.dflt).m.yes=false->eO.okL xs/\eI.okL (vao_q2 xs n i r k ys bad en _u l).l.dl.drop/\eD.okL (vao_q2 xs n i r k ys bad en _u l).l.dl.put/\eV.okL (vao_q2 xs n i r k ys bad en _u l).l.dl.moves/\eBool.okL (vao_q2 xs n i r k ys bad en _u l).l.voted/\eN.okL (vao_q2 xs n i r k ys bad en _u l).l.ents))/\(((xs.getD i.toNat eO.dflt).kind==(1:Int))=false->(((xs.getD i.toNat eO.dflt).kind==(3:Int))=true->eO.okL xs/\eI.okL (vao_q2 xs n i r k ys bad en _u l).l.dl.drop/\eD.okL (vao_q2 xs n i r k ys bad en _u l).l.dl.put/\eV.okL (vao_q2 xs n i r k ys bad en _u l).l.dl.moves/\eBool.okL (vao_q2 xs n i r k ys bad en _u l).l.voted/\eN.okL (vao_q2 xs n i r k ys bad en _u l).l.ents)/\(((xs.getD i.toNat eO.dflt).kind==(3:Int))=false->(((xs.getD i.toNat eO.dflt).kind==(4:Int))=true->((bif ys==IntKind.i64.wrap ((2:Int)*k)then !((vao_q2 xs n i r k ys bad en _u l).l.ver==IntKind.i64.wrap (l.ver+(1:Int)))==!bad||(vao_q2 xs n i r k ys bad en _u l).l.ver !=l.ver&&(vao_q2 xs n i r k ys bad en _u l).l.ver !=IntKind.i64.wrap (l.ver+(1:Int))else !((vao_q2 xs n i r k ys bad en _u l).l.ver==IntKind.i64.wrap (l.ver+(1:Int)))==false||(vao_q2 xs n i r k ys bad en _u l).l.ver !=l.ver&&(vao_q2 xs n i r k ys bad en _u l).l.ver !=IntKind.i64.wrap (l.ver+(1:Int)))=true->eO.okL xs/\eI.okL (vao_q2 xs n i r k ys bad en _u l).l.dl.drop/\eD.okL (vao_q2 xs n i r k ys bad en _u l).l.dl.put/\eV.okL (vao_q2 xs n i r k ys bad en _u l).l.dl.moves/\eBool.okL (vao_q2 xs n i r k ys bad en _u l).l.voted/\eN.okL (vao_q2 xs n i r k ys bad en _u l).l.ents)/\((bif ys==IntKind.i64.wrap ((2:Int)*k)then !((vao_q2 xs n i r k ys bad en _u l).l.ver==IntKind.i64.wrap (l.ver+(1:Int)))==!bad||(vao_q2 xs n i r k ys bad en _u l).l.ver !=l.ver&&(vao_q2 xs n i r k ys bad en _u l).l.ver !=IntKind.i64.wrap (l.ver+(1:Int))else !((vao_q2 xs n i r k ys bad en _u l).l.ver==IntKind.i64.wrap (l.ver+(1:Int)))==false||(vao_q2 xs n i r k ys bad en _u l).l.ver !=l.ver&&(vao_q2 xs n i r k ys bad en _u l).l.ver !=IntKind.i64.wrap (l.ver+(1:Int)))=false->(((↑(vao_q2 xs n i r k ys bad en _u l).ms.length:Int)!=k)=true->eO.okL xs/\eI.okL (vao_q2 xs n i r k ys bad en _u l).l.dl.drop/\eD.okL (vao_q2 xs n i r k ys bad en _u l).l.dl.put/\eV.okL (vao_q2 xs n i r k ys bad en _u l).l.dl.moves/\eBool.okL (vao_q2 xs n i r k ys bad en _u l).l.voted/\eN.okL (vao_q2 xs n i r k ys bad en _u l).l.ents)/\(((↑(vao_q2 xs n i r k ys bad en _u l).ms.length:Int)!=k)=false->eMs.okL (vao_q2 xs n i r k ys bad en _u l).ms/\eI.okL (vao_q2 xs n i r k ys bad en _u l).l.dl.drop/\eD.okL (vao_q2 xs n i r k ys bad en _u l).l.dl.put/\eV.okL (vao_q2 xs n i r k ys bad en _u l).l.dl.moves/\eBool.okL (vao_q2 xs n i r k ys bad en _u l).l.voted/\eN.okL (vao_q2 xs n i r k ys bad en _u l).l.ents/\eI.okL l.dl.drop/\eD.okL l.dl.put/\eV.okL l.dl.moves/\eBool.okL l.voted/\eN.okL l.ents/\Lp.ixJ (λc=>c.snd.fst) (λc=>c.fst) vai_K (vai_f (eMs.ag (vao_q2 xs n i r k ys bad en _u l).ms,(↑(vao_q2 xs n i r k ys bad en _u l).ms.length:Int),(0:Int),r,(),Ld.mk (vao_q2 xs n i r k ys bad en _u l).l.workers (vao_q2 xs n i r k ys bad en _u l).l.stage (vao_q2 xs n i r k ys bad en _u l).l.ver (vao_q2 xs n i r k ys bad en _u l).l.cut (Dl.mk (eI.ag (vao_q2 xs n i r k ys bad en _u l).l.dl.drop) (eD.ag (vao_q2 xs n i r k ys bad en _u l).l.dl.put) (eV.ag (vao_q2 xs n i r k ys bad en _u l).l.dl.moves)) (eBool.ag (vao_q2 xs n i r k ys bad en _u l).l.voted) (vao_q2 xs n i r k ys bad en _u l).l.yes (vao_q2 xs n i r k ys bad en _u l).l.why (eN.ag (vao_q2 xs n i r k ys bad en _u l).l.ents),(),Ld.mk l.workers l.stage l.ver l.cut (Dl.mk (eI.ag l.dl.drop) (eD.ag l.dl.put) (eV.ag l.dl.moves)) (eBool.ag l.voted) l.yes l.why (eN.ag l.ents)))/\(exB Ex.ret (vao_q3 xs n i r k ys bad en _u l).fst=true->eO.okL xs/\eI.okL (vao_q3 xs n i r k ys bad en _u l).snd.snd.snd.snd.snd.snd.fst.dl.drop/\eD.okL (vao_q3 xs n i r k ys bad en _u l).snd.snd.snd.snd.snd.snd.fst.dl.put/\eV.okL (vao_q3 xs n i r k ys bad en _u l).snd.snd.snd.snd.snd.snd.fst.dl.moves/\eBool.okL (vao_q3 xs n i r k ys bad en _u l).snd.snd.snd.snd.snd.snd.fst.voted/\eN.okL (vao_q3 xs n i r k ys bad en _u l).snd.snd.snd.snd.snd.snd.fst.ents)/\(exB Ex.ret (vao_q3 xs n i r k ys bad en _u l).fst=false->eO.okL xs/\eI.okL (vao_q3 xs n i r k ys bad en _u l).snd.snd.snd.snd.snd.snd.fst.dl.drop/\eD.okL (vao_q3 xs n i r k ys bad en _u l).snd.snd.snd.snd.snd.snd.fst.dl.put/\eV.okL (vao_q3 xs n i r k ys bad en _u l).snd.snd.snd.snd.snd.snd.fst.dl.moves/\eBool.okL (vao_q3 xs n i r k ys bad en _u l).snd.snd.snd.snd.snd.snd.fst.voted/\eN.okL (vao_q3 xs n i r k ys bad en _u l).snd.snd.snd.snd.snd.snd.fst.ents))))/\(((xs.getD i.toNat eO.dflt).kind==(4:Int))=false->eO.okL xs/\eI.okL (vao_q2 xs n i r k ys bad en _u l).l.dl.drop/\eD.okL (vao_q2 xs n i r k ys bad en _u l).l.dl.put/\eV.okL (vao_q2 xs n i r k ys bad en _u l).l.dl.moves/\eBool.okL (vao_q2 xs n i r k ys bad en _u l).l.voted/\eN.okL (vao_q2 xs n i r k ys bad en _u l).l.ents)))))))/\(decide (i<n)=false->eO.okL xs/\eI.okL l.dl.drop/\eD.okL l.dl.put/\eV.okL l.dl.moves/\eBool.okL l.voted/\eN.okL l.ents)
theorem vao_one:((loopsOf Tryd.prog 5).filter λc=>Nat.beq (lkey c) 9).length=1:=by kernel_rfl
theorem vao_es(g:vao_G):(vao_R g.1 g.2.1 g.2.2.1 g.2.2.2.1 g.2.2.2.2.1 g.2.2.2.2.2.1 g.2.2.2.2.2.2.1 g.2.2.2.2.2.2.2.1 g.2.2.2.2.2.2.2.2.1 g.2.2.2.2.2.2.2.2.2).1=.normal\/(vao_R g.1 g.2.1 g.2.2.1 g.2.2.2.1 g.2.2.2.2.1 g.2.2.2.2.2.1 g.2.2.2.2.2.2.1 g.2.2.2.2.2.2.2.1 g.2.2.2.2.2.2.2.2.1 g.2.2.2.2.2.2.2.2.2).1∈([.ret,.exit 0]:List Ex):=by
 unfold vao_R
 repeat' (first|(left;rfl)|(right;simp only[cond_true,cond_false];simp;done)|(rw[Bool.cond_eq_ite];split))
noncomputable abbrev vao_C(Inv:vao_G->List Prop)(m:vao_G->Nat):LCon:=loopR [.ret,.exit 0] (loopBody Tryd.prog 5 9) vao_LP [] 136 Inv (λg=>vao_R g.1 g.2.1 g.2.2.1 g.2.2.2.1 g.2.2.2.2.1 g.2.2.2.2.2.1 g.2.2.2.2.2.2.1 g.2.2.2.2.2.2.2.1 g.2.2.2.2.2.2.2.2.1 g.2.2.2.2.2.2.2.2.2) m
theorem vao_loop(Inv:vao_G->List Prop)(m:vao_G->Nat)(hs:∀g,allP (Inv g)->vao_side g.1 g.2.1 g.2.2.1 g.2.2.2.1 g.2.2.2.2.1 g.2.2.2.2.2.1 g.2.2.2.2.2.2.1 g.2.2.2.2.2.2.2.1 g.2.2.2.2.2.2.2.2.1 g.2.2.2.2.2.2.2.2.2)(hg:Goes (λg:vao_G=>vao_R g.1 g.2.1 g.2.2.1 g.2.2.2.1 g.2.2.2.2.1 g.2.2.2.2.2.1 g.2.2.2.2.2.2.1 g.2.2.2.2.2.2.2.1 g.2.2.2.2.2.2.2.2.1 g.2.2.2.2.2.2.2.2.2) m λg=>allP (Inv g)):∀b∈loopsOf Tryd.prog 5,lkey b=9->LoopOk Tryd.prog b (vao_C Inv m).g:=loop_run (Γ:=(PTab.gamz tabZ6 [(4000000,0)] [])) (Λ:=lamI2) (PTab.okz tabZ6 [(4000000,0)] []) lamI2_ok 100 5 9 136 vao_LP [] Inv (λg=>vao_R g.1 g.2.1 g.2.2.1 g.2.2.2.1 g.2.2.2.2.1 g.2.2.2.2.2.1 g.2.2.2.2.2.2.1 g.2.2.2.2.2.2.2.1 g.2.2.2.2.2.2.2.2.1 g.2.2.2.2.2.2.2.2.2) (λg=>vao_side g.1 g.2.1 g.2.2.1 g.2.2.2.1 g.2.2.2.2.1 g.2.2.2.2.2.1 g.2.2.2.2.2.2.1 g.2.2.2.2.2.2.2.1 g.2.2.2.2.2.2.2.2.1 g.2.2.2.2.2.2.2.2.2) m default [.ret,.exit 0] vao_one (λrd T B HL HB ds g=>by kernel_rfl) (λrd T B HL HB ds g=>by kernel_rfl) hs hg vao_es
end Go.Proofs.YtfkdbifgppfegaaDoor

namespace Go.Proofs.YtfkdbifgppfegaaDoor
open Go.RowKit Go.Sx Go.Lp
set_option maxRecDepth 100000
def cntT:List Bool->Int
 | []=>0
 |a::v=>bif a then cntT v+1 else cntT v
theorem cntT_rep:∀n,cntT (List.replicate n false)=0
 |0=>rfl
 |n+1=>by rw[List.replicate_succ];exact cntT_rep n
theorem cntT_set:∀(v:List Bool)(k:Nat),k<v.length->v.getD k false=false->cntT (v.set k true)=cntT v+1
 |a::v,0,_,h=>by
  have h:a=false:=h;rw[h];rfl
 |a::v,k+1,hk,h=>by
  have hk:k<v.length:=by simpa using hk
  have h:v.getD k false=false:=h;have:=cntT_set v k hk h;show(bif a then cntT (v.set k true)+1 else cntT (v.set k true))=(bif a then cntT v+1 else cntT v)+1;rw[this];cases a<;>rfl
theorem cntT_all:∀v:List Bool,hasB v false=false->cntT v=v.length
 | [],_=>rfl
 |a::v,h=>by
  rw[hasB_cons]at h;simp only[Bool.or_eq_false_iff,Bool.not_eq_false']at h;have:=cntT_all v h.2;rw[h.1];show cntT v+1=((v.length+1:Nat):Int);omega
def tgt(l:Ld):Int:=bif l.stage==1 then cntT l.voted else bif l.stage==2 then l.workers else bif l.stage==3 then l.workers+cntT l.voted else 2*l.workers
structure J2(ys:Int)(bad:Bool)(en:Int)(l:Ld):Prop where
 b:l.stage≠0->bad=!l.yes
 e:l.stage≠0->l.yes=true->en=l.ents.length
 y:l.stage≠0->l.yes=true->ys=tgt l
theorem j2_idle{ys:Int}{bad:Bool}{en:Int}{l:Ld}(h:l.stage=0):J2 ys bad en l:=⟨λh'=>absurd h h',λh'=>absurd h h',λh'=>absurd h h'⟩
theorem j2_sub{l:Ld}{d:Dl}{c:Int}(h:Inv l)(he:(subS l d c).2.2=0):J2 0 false 0 (subS l d c).1/\(subS l d c).1.workers=l.workers:=by
 unfold subS at he ⊢;rw[ne0 h.c,cond_false]at he ⊢;cases h1:(l.stage !=0)with
 |true=>rw[h1]at he;cases he
 |false=>
  rw[h1,cond_false]at he;rw[cond_false];cases h2:(decide (c<1)||decide (c>1073741824))with
  |true=>rw[h2]at he;cases he
  |false=>
   rw[h2,cond_false]at he;rw[cond_false];cases h3:(l.ver==1099511627776)with
   |true=>rw[h3]at he;cases he
   |false=>
    rw[cond_false];exact⟨⟨λ_=>rfl,λ_ _=>rfl,λ_ _=>(cntT_rep _).symm⟩,rfl⟩
theorem j2_drn{ys:Int}{bad:Bool}{en:Int}{l:Ld}(h:Inv l)(j:J2 ys bad en l)(he:(drnS l).2.2=0):J2 ys bad en (drnS l).1/\(drnS l).1.workers=l.workers:=by
 unfold drnS at he ⊢;rw[ne0 h.c,cond_false]at he ⊢;cases h1:(l.stage !=2)with
 |true=>rw[h1]at he;cases he
 |false=>
  rw[cond_false];have h1:l.stage=2:=by simpa using h1
  have hn:l.stage≠0:=by omega
  refine⟨⟨λ_=>j.b hn,λ_ hy=>j.e hn hy,λ_ hy=>?_⟩,rfl⟩;rw[j.y hn hy];unfold tgt;rw[h1];show l.workers=l.workers+cntT (List.replicate l.workers.toNat false);rw[cntT_rep];omega
theorem j2_abt{ys:Int}{bad:Bool}{en:Int}{l:Ld}{why:Int}(h:Inv l)(he:(abtS l why).2=0):J2 ys true en (abtS l why).1/\(abtS l why).1.workers=l.workers:=by
 unfold abtS at he ⊢;rw[ne0 h.c,cond_false]at he ⊢;cases h1:(l.stage==0||l.stage==4)with
 |true=>rw[h1]at he;cases he
 |false=>
  rw[h1,cond_false]at he;rw[cond_false];cases h2:(why==0)with
  |true=>rw[h2]at he;cases he
  |false=>
   rw[cond_false];exact⟨⟨λ_=>rfl,λ_ hy=>(by cases hy),λ_ hy=>(by cases hy)⟩,rfl⟩
theorem end_at{l:Ld}(h:Inv l)(he:(endM l).2.2=0):l.stage=4/\endM l=(idleL l.workers (bif l.yes then l.ver+1 else l.ver),(List.range l.workers.toNat).map (msgL l),0):=by
 unfold endM at he ⊢;rw[ne0 h.c,cond_false]at he ⊢;cases h1:(l.stage !=4)with
 |true=>rw[h1]at he;cases he
 |false=>
  rw[cond_false];exact⟨by simpa using h1,rfl⟩
theorem j2_fin{ys en:Int}{bad:Bool}{l:Ld}{w:Int}{m:Ms}(j:J2 ys bad en l)(k:HeaK l w m){y:Bool}{why:Int}{es:List Ent}{ys' en':Int}{bad':Bool}(hb:bad'=!y)(he:y=true->en'=es.length)(hy:y=true->l.yes=true/\ys'=ys+1):J2 ys' bad' en' (finS l (l.voted.set w.toNat true) y why es).1/\(finS l (l.voted.set w.toNat true) y why es).1.workers=l.workers:=by
 have e13:=st_13 k.s;have hn:l.stage≠0:=by omega
 have ha:=hea_at k;have hc:=cntT_set l.voted w.toNat ha k.n;have hlen:=(chk_ask k.c k.s).2.2.2.2.1;unfold finS;cases hB:hasB (l.voted.set w.toNat true) false with
 |true=>
  refine⟨⟨λ_=>hb,λ_ h=>he h,λ_ h=>?_⟩,rfl⟩;obtain⟨h1,h2⟩:=hy h;have hy0:=j.y hn h1;rw[h2,hy0];show tgt l+1=(bif l.stage==1 then cntT (l.voted.set w.toNat true)else bif l.stage==2 then l.workers else bif l.stage==3 then l.workers+cntT (l.voted.set w.toNat true)else 2*l.workers);unfold tgt;rw[hc];rcases e13 with e|e<;>rw[e]
  .rfl
  .show l.workers+cntT l.voted+1=l.workers+(cntT l.voted+1);omega
 |false=>
  rw[cond_false];have hall:=cntT_all _ hB;rw[hc,List.length_set,hlen]at hall;cases hz:(l.stage==1&&y)with
  |false=>
   refine⟨⟨λ_=>hb,λ_ h=>he h,λ_ h=>?_⟩,rfl⟩;obtain⟨h1,h2⟩:=hy h;have h:y=true:=h;rw[h,Bool.and_true]at hz
   have e3:l.stage=3:=by rcases e13 with e|e;· rw[e]at hz;cases hz
                         .exact e
   have hy0:=j.y hn h1;rw[h2,hy0];show tgt l+1=2*l.workers;unfold tgt;rw[e3];show l.workers+cntT l.voted+1=2*l.workers;omega
  |true=>
   simp only[Bool.and_eq_true,beq_iff_eq]at hz;obtain⟨z1,z2⟩:=hz;refine⟨⟨λ_=>hb,λ_ h=>he h,λ_ h=>?_⟩,rfl⟩;obtain⟨h1,h2⟩:=hy h;have hy0:=j.y hn h1;rw[h2,hy0];show tgt l+1=l.workers;unfold tgt;rw[z1];show cntT l.voted+1=l.workers;omega
def en1(en:Int)(m:Ms):Int:=IntKind.i64.wrap (en+(m.ents.length:Int))
def bad1(bad:Bool)(en:Int)(m:Ms):Bool:=bad||(!m.yes||decide (en1 en m>1024))
def ys1(ys:Int)(m:Ms):Int:=bif m.yes then IntKind.i64.wrap (ys+1)else ys
theorem j2_hea{ys en:Int}{bad:Bool}{l:Ld}{w:Int}{m:Ms}(h:Inv l)(hm:m.ents.length<=KS)(j:J2 ys bad en l)(he:(heaS l w m).2=0):J2 (ys1 ys m) (bad1 bad en m) (en1 en m) (heaS l w m).1/\(heaS l w m).1.workers=l.workers:=by
 unfold KS at hm;unfold heaS at he ⊢;cases hh:(heaE l w m !=0)with
 |true=>
  rw[hh,cond_true]at he;rw[show heaE l w m=0 from he]at hh;cases hh
 |false=>
  have k:=heaK hh;have e13:=st_13 k.s;have hn:l.stage≠0:=by omega
  obtain⟨⟨hw1,hw2⟩,_⟩:=rng h;obtain⟨_,_,k3,_,k5,_⟩:=chk_ask k.c k.s;rw[cond_false];cases hy:m.yes with
  |false=>
   refine j2_fin j k ?_ (λh=>by cases h) (λh=>by cases h);unfold bad1;rw[hy];simp
  |true=>
   simp only[Bool.not_true,cond_false];cases hl:l.yes with
   |false=>
    have hb:=j.b hn;rw[hl]at hb;refine j2_fin j k ?_ (λh=>by cases h) (λh=>by cases h);unfold bad1;rw[hb];rfl
   |true=>
    have hb:=j.b hn;rw[hl]at hb;have hen:=j.e hn hl;have hys:=j.y hn hl
    have e1:en1 en m=((l.ents.length+m.ents.length:Nat):Int):=by
     unfold en1;rw[hen,show(l.ents.length:Int)+(m.ents.length:Int)=((l.ents.length+m.ents.length:Nat):Int) by omega];exact Lp.wr (n:=((l.ents.length+m.ents.length:Nat):Int)) (by omega)
    simp only[cond_true];cases hg:decide (((l.ents.length+m.ents.length:Nat):Int)>1024)with
    |true=>
     refine j2_fin j k ?_ (λh=>by cases h) (λh=>by cases h);unfold bad1;rw[e1,hg];simp
    |false=>
     refine j2_fin j k ?_ (λ_=>by rw[e1,List.length_append]) (λ_=>⟨hl,?_⟩)
     .unfold bad1;rw[e1,hg,hb,hy];rfl
     .unfold ys1;rw[hy,cond_true]
      have ht:0<=tgt l/\tgt l<=64:=by
       have hc:∀v:List Bool,0<=cntT v/\cntT v<=v.length:=by
        intro v
        induction v with
        |nil=>exact⟨Int.le_refl _,Int.le_refl _⟩
        |cons a v ih=>
         cases a
         .show 0<=cntT v/\cntT v<=((v.length+1:Nat):Int);omega
         .show 0<=cntT v+1/\cntT v+1<=((v.length+1:Nat):Int);omega
       have:=hc l.voted;unfold tgt;rcases e13 with e|e<;>rw[e]
       .show 0<=cntT l.voted/\cntT l.voted<=64;omega
       .show 0<=l.workers+cntT l.voted/\l.workers+cntT l.voted<=64;omega
      exact Lp.wr (n:=ys+1) (by rw[hys];omega)
end Go.Proofs.YtfkdbifgppfegaaDoor

namespace Go.Proofs.YtfkdbifgppfegaaDoor
open Go.RowKit Go.Sx Go.Lp
set_option maxRecDepth 100000
theorem fin_e(l:Ld)(v:List Bool)(y:Bool)(why:Int)(es:List Ent):(finS l v y why es).2=0:=by
 unfold finS;cases hasB v false<;>rfl
theorem do_err{l:Ld}{d:Do}(he:((doS l d).e !=0)=true):(doS l d).l=l:=by
 unfold doS at he ⊢;cases h0:(d.kind==0)with
 |true=>
  rw[h0]at he;simp only[cond_true]at he ⊢;unfold subS at he ⊢;cases h1:(chkL l !=0)with
  |true=>rfl
  |false=>
   cases h2:(l.stage !=0)with
   |true=>rfl
   |false=>
    cases h3:(decide (d.cut<1)||decide (d.cut>1073741824))with
    |true=>rfl
    |false=>
     cases h4:(l.ver==1099511627776)with
     |true=>rfl
     |false=>rw[h1,h2,h3,h4]at he;cases he
 |false=>
  rw[h0]at he;simp only[cond_false]at he ⊢;cases h1:(d.kind==1)with
  |true=>
   rw[h1]at he;simp only[cond_true]at he ⊢;unfold heaS at he ⊢;cases hh:(heaE l d.worker d.m !=0)with
   |true=>rfl
   |false=>
    rw[hh]at he;simp only[cond_false]at he;cases hy:d.m.yes<;>cases hl:l.yes<;>simp only[hy,hl,Bool.not_true,Bool.not_false,cond_true,cond_false,fin_e]at he<;>first|(cases he;done)|(cases hg:decide (((l.ents.length+d.m.ents.length:Nat):Int)>1024)<;>rw[hg]at he<;>simp only[cond_true,cond_false,fin_e]at he<;>cases he)
  |false=>
   rw[h1]at he;simp only[cond_false]at he ⊢;cases h2:(d.kind==2)with
   |true=>
    rw[h2]at he;simp only[cond_true]at he ⊢;unfold drnS at he ⊢;cases h3:(chkL l !=0)with
    |true=>rfl
    |false=>
     cases h4:(l.stage !=2)with
     |true=>rfl
     |false=>rw[h3,h4]at he;cases he
   |false=>
    rw[h2]at he;simp only[cond_false]at he ⊢;cases h3:(d.kind==3)with
    |true=>
     rw[h3]at he;simp only[cond_true]at he ⊢;unfold abtS at he ⊢;cases h4:(chkL l !=0)with
     |true=>rfl
     |false=>
      cases h5:(l.stage==0||l.stage==4)with
      |true=>rfl
      |false=>
       cases h6:(d.why==0)with
       |true=>rfl
       |false=>rw[h4,h5,h6]at he;cases he
    |false=>
     rw[h3]at he;simp only[cond_false]at he ⊢;unfold endM at he ⊢;cases h4:(chkL l !=0)with
     |true=>rfl
     |false=>
      cases h5:(l.stage !=4)with
      |true=>rfl
      |false=>rw[h4,h5]at he;cases he
abbrev vaC:=List Do×Int
abbrev vaB:=Bool×Int×Int×Bool×Int×Unit×Ld
noncomputable def vst(b:vaB)(d:Do):vaB:=bif few21_F d then(bif (doS b.2.2.2.2.2.2 d).e !=0 then(b.1,b.2.1,b.2.2.1,b.2.2.2.1,b.2.2.2.2.1,b.2.2.2.2.2.1,(doS b.2.2.2.2.2.2 d).l)else bif d.kind==0 then(b.1,b.2.1,0,false,0,b.2.2.2.2.2.1,(doS b.2.2.2.2.2.2 d).l)else bif d.kind==1 then(b.1,b.2.1,ys1 b.2.2.1 d.m,bad1 b.2.2.2.1 b.2.2.2.2.1 d.m,en1 b.2.2.2.2.1 d.m,b.2.2.2.2.2.1,(doS b.2.2.2.2.2.2 d).l)else bif d.kind==3 then(b.1,b.2.1,b.2.2.1,true,b.2.2.2.2.1,b.2.2.2.2.2.1,(doS b.2.2.2.2.2.2 d).l)else(b.1,b.2.1,b.2.2.1,b.2.2.2.1,b.2.2.2.2.1,b.2.2.2.2.2.1,(doS b.2.2.2.2.2.2 d).l))else b
structure VaK(b:vaB):Prop where
 i:Inv b.2.2.2.2.2.2
 j:J2 b.2.2.1 b.2.2.2.1 b.2.2.2.2.1 b.2.2.2.2.2.2
 k:b.2.2.2.2.2.2.workers=b.2.1
theorem va_nxt{b:vaB}(h:VaK b)(d:Do):VaK (vst b d):=by
 obtain⟨r,k,ys,bad,en,⟨⟩,l⟩:=b;obtain⟨hi,hj,hk⟩:=h;have hk:l.workers=k:=hk;unfold vst;cases hf:few21_F d with
 |false=>exact⟨hi,hj,hk⟩
 |true=>
  have fo:=few_few hf;have hi':=inv_do hi fo;rw[cond_true];cases he:((doS l d).e !=0)with
  |true=>
   rw[cond_true];have:=do_err he;refine⟨hi',?_,?_⟩
   .show J2 ys bad en (doS l d).l;rw[this];exact hj
   .show(doS l d).l.workers=k;rw[this];exact hk
  |false=>
   have he:(doS l d).e=0:=by simpa using he
   rw[cond_false];unfold doS at he hi' ⊢;cases h0:(d.kind==0)with
   |true=>
    rw[h0]at he hi';simp only[cond_true]at he hi' ⊢;obtain⟨a,b⟩:=j2_sub hi he;exact⟨hi',a,b.trans hk⟩
   |false=>
    rw[h0]at he hi';simp only[cond_false]at he hi' ⊢;cases h1:(d.kind==1)with
    |true=>
     rw[h1]at he hi';simp only[cond_true]at he hi' ⊢;obtain⟨a,b⟩:=j2_hea hi fo.2 hj he;exact⟨hi',a,b.trans hk⟩
    |false=>
     rw[h1]at he hi';simp only[cond_false]at he hi' ⊢;cases h2:(d.kind==2)with
     |true=>
      rw[h2]at he hi';have h3:(d.kind==3)=false:=by rw[beq_iff_eq.1 h2];rfl
      simp only[cond_true,h3,cond_false]at he hi' ⊢;obtain⟨a,b⟩:=j2_drn hi hj he;exact⟨hi',a,b.trans hk⟩
     |false=>
      rw[h2]at he hi';simp only[cond_false]at he hi' ⊢;cases h3:(d.kind==3)with
      |true=>
       rw[h3]at he hi';simp only[cond_true]at he hi' ⊢;obtain⟨a,b⟩:=j2_abt (ys:=ys) (bad:=bad) (en:=en) hi he;exact⟨hi',a,b.trans hk⟩
      |false=>
       rw[h3]at he hi';simp only[cond_false]at he hi' ⊢;obtain⟨_,e⟩:=end_at hi he;refine⟨hi',j2_idle ?_,?_⟩
       .show(endM l).1.stage=0;rw[e];rfl
       .show(endM l).1.workers=k;rw[e];exact hk
end Go.Proofs.YtfkdbifgppfegaaDoor

namespace Go.Proofs.YtfkdbifgppfegaaDoor
open Go.RowKit Go.Sx Go.Lp
set_option maxRecDepth 100000
noncomputable def va_S(_:vaC)(b:vaB)(_:Int)(a:Do):Ex×vaB:=(.normal,vst b a)
abbrev va_xs(c:vaC):List Do:=c.1
abbrev va_lim(c:vaC):Int:=c.2
def va_K(_:vaC)(b:vaB)(_:Int):Prop:=VaK b
theorem va_P:ixP va_S va_xs va_K:=λ_ _ _ a h _ _=>va_nxt h a
def vao_f(g:vao_G):Int×vaC×vaB:=(g.2.2.1,(g.1,g.2.1),(g.2.2.2.1,g.2.2.2.2.1,g.2.2.2.2.2.1,g.2.2.2.2.2.2.1,g.2.2.2.2.2.2.2.1,g.2.2.2.2.2.2.2.2.1,g.2.2.2.2.2.2.2.2.2))
def vao_g(d:Int×vaC×vaB):vao_G:=(d.2.1.1,d.2.1.2,d.1,d.2.2.1,d.2.2.2.1,d.2.2.2.2.1,d.2.2.2.2.2.1,d.2.2.2.2.2.2.1,d.2.2.2.2.2.2.2.1,d.2.2.2.2.2.2.2.2)
abbrev vao_I(g:vao_G):List Prop:=ixI va_lim va_xs va_K (vao_f g)
abbrev vao_M(g:vao_G):Nat:=ixM va_lim (vao_f g)
noncomputable abbrev vao_RR(g:vao_G):Ex×vao_G:=vao_R g.1 g.2.1 g.2.2.1 g.2.2.2.1 g.2.2.2.2.1 g.2.2.2.2.2.1 g.2.2.2.2.2.2.1 g.2.2.2.2.2.2.2.1 g.2.2.2.2.2.2.2.2.1 g.2.2.2.2.2.2.2.2.2
theorem vao_q(xs:List Do)(n i:Int)(r:Bool)(k ys:Int)(bad:Bool)(en:Int)(l:Ld):vao_q1 xs n i r k ys bad en () l=few21_F (xs.getD i.toNat eO.dflt)/\vao_q2 xs n i r k ys bad en () l=doS l (xs.getD i.toNat eO.dflt):=by
 refine⟨by unfold vao_q1;simp only[El.ag_eq,ms_eta,dl_eta,do_eta],?_⟩;unfold vao_q2;simp only[El.ag_eq,ld_eta,ms_eta,dl_eta,do_eta]
theorem vai_all(xs:List Ms)(r:Bool)(l o:Ld)(hx:xs.length<=maxLen)(h:∀m∈xs,m.yes=(l.ver !=o.ver)):loopF vai_RR vai_M (xs,(xs.length:Int),0,r,(),l,(),o)=(.exit 3,xs,(xs.length:Int),(xs.length:Int),r,(),l,(),o):=by
 have hr:=vai_run (xs,(xs.length:Int),l,o) (r,(),()) rfl hx trivial;have e:loopF vai_RR vai_M (xs,(xs.length:Int),0,r,(),l,(),o)=loopF vai_RR vai_M (vai_g (0,(xs,(xs.length:Int),l,o),(r,(),()))):=rfl;rw[e,hr];rcases search (x:=3) (st:=vai_S (xs,(xs.length:Int),l,o)) (p:=λv=>!v.yes==(l.ver !=o.ver)) (r:=λ_ _ _=>(false,(),())) (λ_ _ _=>rfl) xs (r,(),())with ⟨h1,_⟩|⟨_,h2⟩
 .exfalso;obtain⟨m,hm,hp⟩:=List.any_eq_true.1 h1;have:=h m hm;rw[this]at hp;simp at hp
 .show((scan 3 (vai_S (xs,(xs.length:Int),l,o)) 0 xs (r,(),())).1,vai_g ((scan 3 (vai_S (xs,(xs.length:Int),l,o)) 0 xs (r,(),())).2.1,_,(scan 3 (vai_S (xs,(xs.length:Int),l,o)) 0 xs (r,(),())).2.2))=_;rw[h2];rfl
theorem vao_RF(d:Int×vaC×vaB)(hi:allP (ixI va_lim va_xs va_K d)):vao_RR (vao_g d)=((ixF 0 va_lim va_xs eO.dflt va_S d).1,vao_g (ixF 0 va_lim va_xs eO.dflt va_S d).2):=by
 obtain⟨i,⟨xs,n⟩,⟨r,k,ys,bad,en,⟨⟩,l⟩⟩:=d;obtain⟨h,hj,hk⟩:VaK (r,k,ys,bad,en,(),l):=(hi _ (List.mem_cons_self ..)).2.2.2.2;have h:Inv l:=h;have hj:J2 ys bad en l:=hj;have hk:l.workers=k:=hk;obtain⟨q1,q2⟩:=vao_q xs n i r k ys bad en l
 have q3:∀s:Sd,doS l (xs.getD i.toNat eO.dflt)=s->vao_q3 xs n i r k ys bad en () l=loopF vai_RR vai_M (s.ms,(s.ms.length:Int),0,r,(),s.l,(),l):=λs hs=>by
  unfold vao_q3;simp only[El.ag_eq,ld_eta,q2,hs]
 show vao_R xs n i r k ys bad en () l=_;unfold vao_R ixF va_S vst;simp only[El.ag_eq,ld_eta,q1,q2];cases hc:decide (i<n)
 .rfl
 .simp only[cond_true];generalize xs.getD i.toNat eO.dflt=d at q3 ⊢;cases hf:few21_F d with
  |false=>rfl
  |true=>
   simp only[Bool.not_true,cond_true,cond_false];cases he:((doS l d).e !=0)with
   |true=>rfl
   |false=>
    simp only[cond_false];cases h0:(d.kind==0)with
    |true=>rfl
    |false=>
     simp only[cond_false];cases h1:(d.kind==1)with
     |true=>
      unfold ys1 bad1 en1;cases d.m.yes<;>rfl
     |false=>
      simp only[cond_false];cases h3:(d.kind==3)with
      |true=>rfl
      |false=>
       simp only[cond_false];cases h4:(d.kind==4)with
       |false=>rfl
       |true=>
        simp only[cond_true];have h2:(d.kind==2)=false:=by rw[beq_iff_eq.1 h4];rfl
        have he:(doS l d).e=0:=by simpa using he
        have hs:doS l d=⟨(endM l).1,(endM l).2.1,(endM l).2.2⟩:=by
         unfold doS;rw[h0,h1,h2,h3];rfl
        rw[hs]at he;obtain⟨s4,e4⟩:=end_at h he;obtain⟨⟨w1,w2⟩,v1,v2⟩:=rng h;have hn:l.stage≠0:=by omega
        have hv:l.ver<1099511627776:=by have:=h.v;omega
        have wv:IntKind.i64.wrap (l.ver+1)=l.ver+1:=Lp.wr (n:=l.ver+1) (by omega);rw[e4]at hs;have hq:=q3 _ hs;have hlen:((List.range l.workers.toNat).map (msgL l)).length=l.workers.toNat:=by rw[List.length_map,List.length_range]
        have hver:((bif l.yes then l.ver+1 else l.ver)!=l.ver)=l.yes:=by
         cases l.yes
         .simp
         .show(l.ver+1 !=l.ver)=true;rw[bne_iff_ne];omega
        rw[vai_all _ r (idleL l.workers (bif l.yes then l.ver+1 else l.ver)) l (by rw[hlen];unfold maxLen;omega) (λm hm=>by
         obtain⟨w,_,rfl⟩:=List.mem_map.1 hm;show l.yes=((bif l.yes then l.ver+1 else l.ver)!=l.ver);rw[hver])]at hq
        rw[hq,hs];have hb:=hj.b hn
        have hc1:(bif ys==IntKind.i64.wrap (2*k)then !((bif l.yes then l.ver+1 else l.ver)==IntKind.i64.wrap (l.ver+1))==!bad||(bif l.yes then l.ver+1 else l.ver)!=l.ver&&(bif l.yes then l.ver+1 else l.ver)!=IntKind.i64.wrap (l.ver+1)else !((bif l.yes then l.ver+1 else l.ver)==IntKind.i64.wrap (l.ver+1))==false||(bif l.yes then l.ver+1 else l.ver)!=l.ver&&(bif l.yes then l.ver+1 else l.ver)!=IntKind.i64.wrap (l.ver+1))=false:=by
         rw[wv,hb];cases hy:l.yes with
         |true=>
          have hys:=hj.y hn hy;have ht:tgt l=2*l.workers:=by unfold tgt;rw[s4];rfl
          rw[hys,ht,hk,show IntKind.i64.wrap (2*k)=2*k from Lp.wr (n:=2*k) (by omega)];simp
         |false=>
          have hne:(l.ver==l.ver+1)=false:=by rw[beq_eq_false_iff_ne];omega
          simp[hne]
        have hc2:((((List.range l.workers.toNat).map (msgL l)).length:Int)!=k)=false:=by
         rw[hlen,bne_eq_false_iff_eq];omega
        show(bif (bif ys==IntKind.i64.wrap (2*k)then !((bif l.yes then l.ver+1 else l.ver)==IntKind.i64.wrap (l.ver+1))==!bad||(bif l.yes then l.ver+1 else l.ver)!=l.ver&&(bif l.yes then l.ver+1 else l.ver)!=IntKind.i64.wrap (l.ver+1)else !((bif l.yes then l.ver+1 else l.ver)==IntKind.i64.wrap (l.ver+1))==false||(bif l.yes then l.ver+1 else l.ver)!=l.ver&&(bif l.yes then l.ver+1 else l.ver)!=IntKind.i64.wrap (l.ver+1))then _ else bif (((List.range l.workers.toNat).map (msgL l)).length:Int)!=k then _ else _)=_;rw[hc1,hc2];rfl
end Go.Proofs.YtfkdbifgppfegaaDoor

namespace Go.Proofs.YtfkdbifgppfegaaDoor
open Go.RowKit Go.Sx Go.Lp
set_option maxRecDepth 100000
theorem vao_ok:∀b∈loopsOf Tryd.prog 5,lkey b=9->LoopOk Tryd.prog b (vao_C vao_I vao_M).g:=by
 refine vao_loop vao_I vao_M (λg hi=>?_) (ix_conj_goes (φ:=vao_f) (ψ:=vao_g) (λ_=>rfl) (λ_=>rfl) vao_RF va_P);obtain⟨xs,n,i,r,k,ys,bad,en,⟨⟩,l⟩:=g;obtain⟨h1,h2,h3,h4,h5⟩:=hi _ (List.mem_cons_self ..);have h1:n=(xs.length:Int):=h1;have h3:0<=i:=h3;have hv:Inv l:=h5.i;obtain⟨q1,q2⟩:=vao_q xs n i r k ys bad en l;show vao_side xs n i r k ys bad en () l;unfold vao_side;simp only[El.okL_eq,El.ag_eq,ld_eta,ms_eta,dl_eta,do_eta,q1,q2,implies_true,true_and,and_true];intro hlt;have hlt:=of_decide_eq_true hlt;refine⟨⟨h3,by omega⟩,λhf=>?_⟩;have f:fewLO (l,xs.getD i.toNat eO.dflt):=⟨hv.few,few_few (by simpa using hf)⟩;refine⟨f,λ_ _ _ _ _ _ hlen=>ixJ0 rfl ?_ trivial⟩;have hk:l.workers=k:=h5.k;have hw:=(rng hv).1;rw[bne_eq_false_iff_eq]at hlen;unfold maxLen;show(doS l (xs.getD i.toNat eO.dflt)).ms.length<=_;omega
theorem vao_run(xs:List Do)(b:vaB)(hx:xs.length<=maxLen)(h:VaK b):(loopF vao_RR vao_M (vao_g (0,(xs,(xs.length:Int)),b))).1=.exit 0:=by
 have h:=ix_conj_run (φ:=vao_f) (ψ:=vao_g) (λ_=>rfl) (λ_=>rfl) vao_RF va_P (xs,(xs.length:Int)) b rfl hx h;have hs:=scan_fold (x:=0) (st:=va_S (xs,(xs.length:Int))) (f:=vst) (λ_ _ _=>rfl) xs 0 b;rw[hs]at h;exact congrArg Prod.fst h
noncomputable def ltI7:LTab Tryd.prog:=ltI2.cons 5 9 (vao_C vao_I vao_M) vao_ok
noncomputable abbrev lamI7:Lam:=ltI7.lam
theorem lamI7_ok:∀f k L,lamI7 f k=some L->∀b∈loopsOf Tryd.prog f,lkey b=k->LoopOk Tryd.prog b L.g:=ltI7.ok
end Go.Proofs.YtfkdbifgppfegaaDoor

namespace Go.Proofs.YtfkdbifgppfegaaDoor
open Go.RowKit Go.Sx
set_option maxRecDepth 100000
noncomputable def lva_q1(w:Int)(s:List Do):Ld×Int:=
 newS (IntKind.i64.wrap ((IntKind.i64.wrap w).tmod (4:Int)+(1:Int)))
noncomputable def lva_q2(w:Int)(s:List Do):Ex×
 vao_G:=
 loopF (λg=>vao_R g.fst g.snd.fst g.snd.snd.fst g.snd.snd.snd.fst g.snd.snd.snd.snd.fst g.snd.snd.snd.snd.snd.fst g.snd.snd.snd.snd.snd.snd.fst g.snd.snd.snd.snd.snd.snd.snd.fst g.snd.snd.snd.snd.snd.snd.snd.snd.fst g.snd.snd.snd.snd.snd.snd.snd.snd.snd) vao_M (eO.lst (List.foldl (λa x=>bif false then if x.snd.snd>a then x.snd.snd else a else if x.snd.snd<a then x.snd.snd else a) (↑s.length:Int) [(true,IntKind.i64,(100:Int))]).toNat (eO.els s),(↑(List.foldl (λa x=>bif false then if x.snd.snd>a then x.snd.snd else a else if x.snd.snd<a then x.snd.snd else a) (↑s.length:Int) [(true,IntKind.i64,(100:Int))]).toNat:Int),(0:Int),false,IntKind.i64.wrap ((IntKind.i64.wrap w).tmod (4:Int)+(1:Int)),(0:Int),false,(0:Int),(),Ld.mk (lva_q1 w s).fst.workers (lva_q1 w s).fst.stage (lva_q1 w s).fst.ver (lva_q1 w s).fst.cut (Dl.mk (eI.ag (lva_q1 w s).fst.dl.drop) (eD.ag (lva_q1 w s).fst.dl.put) (eV.ag (lva_q1 w s).fst.dl.moves)) (eBool.ag (lva_q1 w s).fst.voted) (lva_q1 w s).fst.yes (lva_q1 w s).fst.why (eN.ag (lva_q1 w s).fst.ents))
noncomputable def lva_F(w:Int)(s:List Do):Dv.T dBool:=
 bif (lva_q1 w s).snd !=(0:Int)then false else bif exB Ex.ret (lva_q2 w s).fst then(lva_q2 w s).snd.snd.snd.snd.fst else true
def lva_side(w:Int)(s:List Do):Prop:=
 (!true)=false->(4:Int)≠(0:Int)/\(((lva_q1 w s).snd !=(0:Int))=false->((0:Int)<=List.foldl (λa x=>bif false then if x.snd.snd>a then x.snd.snd else a else if x.snd.snd<a then x.snd.snd else a) (↑s.length:Int) [(true,IntKind.i64,(100:Int))]/\List.foldl (λa x=>bif false then if x.snd.snd>a then x.snd.snd else a else if x.snd.snd<a then x.snd.snd else a) (↑s.length:Int) [(true,IntKind.i64,(100:Int))]<=(↑s.length:Int))/\(∀(e:Nat),e<(List.foldl (λa x=>bif false then if x.snd.snd>a then x.snd.snd else a else if x.snd.snd<a then x.snd.snd else a) (↑s.length:Int) [(true,IntKind.i64,(100:Int))]).toNat->eO.Ok (eO.els s e))/\eI.okL (lva_q1 w s).fst.dl.drop/\eD.okL (lva_q1 w s).fst.dl.put/\eV.okL (lva_q1 w s).fst.dl.moves/\eBool.okL (lva_q1 w s).fst.voted/\eN.okL (lva_q1 w s).fst.ents/\Lp.ixJ va_lim va_xs va_K (vao_f (eO.lst (List.foldl (λa x=>bif false then if x.snd.snd>a then x.snd.snd else a else if x.snd.snd<a then x.snd.snd else a) (↑s.length:Int) [(true,IntKind.i64,(100:Int))]).toNat (eO.els s),(↑(List.foldl (λa x=>bif false then if x.snd.snd>a then x.snd.snd else a else if x.snd.snd<a then x.snd.snd else a) (↑s.length:Int) [(true,IntKind.i64,(100:Int))]).toNat:Int),(0:Int),false,IntKind.i64.wrap ((IntKind.i64.wrap w).tmod (4:Int)+(1:Int)),(0:Int),false,(0:Int),(),Ld.mk (lva_q1 w s).fst.workers (lva_q1 w s).fst.stage (lva_q1 w s).fst.ver (lva_q1 w s).fst.cut (Dl.mk (eI.ag (lva_q1 w s).fst.dl.drop) (eD.ag (lva_q1 w s).fst.dl.put) (eV.ag (lva_q1 w s).fst.dl.moves)) (eBool.ag (lva_q1 w s).fst.voted) (lva_q1 w s).fst.yes (lva_q1 w s).fst.why (eN.ag (lva_q1 w s).fst.ents))))
theorem lva_okS(pre:DA.T aUO->List Prop)(h:∀g,DA.bd aUO g->(∀p∈pre g,p)->lva_side g.1 g.2):FnPure Tryd.prog 5 aUO dBool (λg=>lva_F g.1 g.2) pre:=pure_of_sideS (Γ:=(PTab.gamz tabZ6 [] [])) (Λ:=lamI7) (PTab.okz tabZ6 [] []) lamI7_ok 100 default (λg=>lva_side g.1 g.2) (λg=>by kernel_rfl) (λg=>by kernel_rfl) h
end Go.Proofs.YtfkdbifgppfegaaDoor

namespace Go.Proofs.YtfkdbifgppfegaaDoor
open Go.RowKit Go.Sx Go.Lp
set_option maxRecDepth 100000
theorem va_new{w:Int}(h:0<=w/\w<=255):VaK (false,IntKind.i64.wrap ((IntKind.i64.wrap w).tmod (4:Int)+(1:Int)),0,false,0,(),(newS (IntKind.i64.wrap ((IntKind.i64.wrap w).tmod (4:Int)+(1:Int)))).1):=by
 have e:IntKind.i64.wrap w=w:=Lp.wr (n:=w) (by omega)
 have h1:0<=w.tmod 4/\w.tmod 4<4:=by
  rw[Int.tmod_eq_emod_of_nonneg h.1];omega
 have e2:IntKind.i64.wrap (w.tmod 4+1)=w.tmod 4+1:=Lp.wr (n:=w.tmod 4+1) (by omega);rw[e,e2]
 have hn:newS (w.tmod 4+1)=(idleL (w.tmod 4+1) 0,0):=by
  unfold newS;rw[decide_eq_false (by omega),decide_eq_false (by omega)];rfl
 refine⟨(inv_new ⟨by omega,by omega⟩).1,j2_idle ?_,?_⟩
 .show(newS (w.tmod 4+1)).1.stage=0;rw[hn];rfl
 .show(newS (w.tmod 4+1)).1.workers=w.tmod 4+1;rw[hn];rfl
theorem lva_ok:FnPure Tryd.prog 5 aUO dBool (λ_=>true) (λg=>[0<=g.1/\g.1<=255]):=by
 refine pure_congr (lva_okS (λg=>[0<=g.1/\g.1<=255]) λg hb hp=>?_) λg hb hp=>?_
 .obtain⟨w,s⟩:=g;have hs:s.length<=maxLen:=hb.2.1;obtain⟨n1,n2⟩:=new_q (w:=w) (hp _ (List.mem_cons_self ..));obtain⟨m1,m2,m3⟩:=mn100_le (s.length:Int) (by omega);show lva_side w s;unfold lva_side;intro _;refine⟨by decide,λ_=>⟨⟨m1,m2⟩,λe _=>El.ok_els _ _ _,?_⟩⟩;simp only[El.okL_eq,El.ag_eq,ld_eta,true_and];exact ixJ0 (c:=(eO.lst (mn100 (s.length:Int)).toNat (eO.els s),((mn100 (s.length:Int)).toNat:Int))) (by rw[El.lst_length]) (by rw[El.lst_length];omega) (va_new (w:=w) (hp _ (List.mem_cons_self ..)))
 .obtain⟨w,s⟩:=g;have hs:s.length<=maxLen:=hb.2.1;obtain⟨n1,n2⟩:=new_q (w:=w) (hp _ (List.mem_cons_self ..));obtain⟨m1,m2,m3⟩:=mn100_le (s.length:Int) (by omega);have hl:(eO.lst (mn100 (s.length:Int)).toNat (eO.els s)).length=(mn100 (s.length:Int)).toNat:=El.lst_length _ _ _;have hr:=vao_run (eO.lst (mn100 (s.length:Int)).toNat (eO.els s)) _ (by rw[hl];omega) (va_new (w:=w) (hp _ (List.mem_cons_self ..)));rw[hl]at hr
  have q2:(lva_q2 w s).1=.exit 0:=by
   unfold lva_q2 lva_q1;simp only[El.ag_eq,ld_eta];exact hr
  show lva_F w s=true;unfold lva_F;rw[q2];unfold lva_q1;rw[n2];rfl
end Go.Proofs.YtfkdbifgppfegaaDoor

namespace Go.Proofs.YtfkdbifgppfegaaDoor
open Go.ChangeShapes Go.WideShapes Go.ChangeAt Go.RowKit Go.Sx
set_option maxRecDepth 100000 in
theorem voteAll_lifted(law:FnPure Tryd.prog 5 aUO dBool (λ_=>true) (λg=>[0<=g.1/\g.1<=255]))(os:Os)(started:os.Started)(H:Type)(enc:TypeId×Value->H):
  ReturnsInHanded {} Tryd.checked os 5 .any (λw args=>(Rows.voteAllSpec.pre enc Tryd.prog Tryd.f5 Rows.voteAllRow.domain false w args/\laidMetH Tryd.prog Rows.voteAllRow.laid w)/\sizedMet enc Tryd.prog Tryd.f5 (OpenSpec.ofChange Rows.voteAllSpec) false w args) (Rows.voteAllSpec.post enc Tryd.prog Tryd.f5 false true false false):=by
 refine rowLaid (C:=Tryd.checked) (laid:=Rows.voteAllRow.laid) Tryd.own started (by kernel_rfl) Tryd.func5
  (ChangeSpec.witness_shaped (enc:=enc) (C:=Tryd.checked) (os:=os) (X:=λw _=>laidMetH Tryd.prog Rows.voteAllRow.laid w) false (World.laidAll Tryd.prog os Rows.voteAllRow.laid) #[.int .u8 0,.slice none 0 0] 8 (World.laidAll_os _ _ _)
   (World.shaped_of_ZipB (by kernel_rfl) (by kernel_rfl)) (by kernel_rfl) (by kernel_rfl) (by kernel_rfl)
   (by rw[MakeChecks.laidMetH_plain _ _ _ (by kernel_rfl)];exact laidMet_laidAll _ (by kernel_rfl) (by kernel_rfl))) ?_
 intro W base args ds gs before hval0 hW hcnd hL hsh;have hval:∀(j:Nat)t v,Tryd.f5.params[j]?=some t->args[j]?=some v->Value.okWide Tryd.prog W .any base t v:=hval0;have hW':=hW;obtain⟨p,q,hA0,hV,rfl,hfz,hnd⟩:=hW;have hA:DataW.TrodAll enc Tryd.prog W 0 (λ_=>true) true Tryd.f5.params.toList args.toList ds p:=hA0;rw[Tryd.params5]at hA hval;obtain⟨v0,vs0,d0,ds0,p0,qq0,hargs,rfl,rfl,h0,r0⟩:=trodAll_cons hA;obtain⟨v1,vs1,d1,ds1,p1,qq1,rfl,rfl,rfl,h1,r1⟩:=trodAll_cons r0;obtain⟨rfl,rfl,rfl⟩:=trodAll_nil r1;obtain rfl:args=#[v0,v1]:=by cases args;simp_all
 obtain⟨rfl,rfl⟩:=trodVars_none hV;obtain⟨a0,q0,f0⟩:=rdv8 _ _ _ _ _ _ _ _ _ _ _ (hval 0 5 v0 rfl rfl) h0;obtain⟨a1,q1,f1⟩:=rdvLO _ _ _ _ _ _ _ _ _ _ _ (hval 1 47 v1 rfl rfl) h1
 have lt:∀{t:TypeId}{v:Value}{d:DataW H}{ps:List MemPlace},DataW.Trod enc Tryd.prog W 0 (λ_=>true) true t v d ps->∀x∈ps,x.block<W.heap.size:=by
  rintro t v d ps ⟨m,hm⟩;exact DataW.trod_lt m _ _ _ hm
 clear hA0 hval0;refine(law W (λb=>W.heap[b]?) (a0,a1) [v0,v1] (λ_ _ h=>h) (rowEnv hL hsh) (by intro p hp;rw[List.mem_singleton.1 hp];exact wf8 q0) ⟨f0,f1,trivial⟩).mono λe W'⟨x,he,bel,hx⟩=>?_;obtain rfl:x=.bool true:=by simpa [dBool,SV.fit]using hx
 subst he
 exact⟨_,rfl,_,_,_,[],_,[],hW',trodAll_mk1 (shut_bool Tryd.underlying4 _),
  (trodAll_cons_mk (Below.trod Tryd.laidOut (by kernel_rfl) (of_decide_eq_true (by kernel_rfl)) h0 bel (lt h0))
  (trodAll_cons_mk (Below.trod Tryd.laidOut (by kernel_rfl) (of_decide_eq_true (by kernel_rfl)) h1 bel (lt h1)) trodAll_mk0)),rfl,bel.frame _,λh=>by cases h⟩
theorem voteAll_row:Rows.VoteAllSaid:=
 OpenClaim.holds_of_wide 5 Tryd.f5 rfl rfl rfl rfl rfl rfl rfl ⟨rfl,rfl,rfl,rfl,rfl⟩ rfl rfl rfl rfl rfl (by kernel_rfl) Tryd.func5 (by kernel_rfl)
  (of_decide_eq_true (by kernel_rfl)) (by unfold Func.isWrapper;first|(rw[if_pos (by decide+kernel)];kernel_rfl)|(rw[if_neg (by decide+kernel)];exact⟨rfl,rfl⟩))
  (λos started H enc _=>voteAll_lifted lva_ok os started H enc)
theorem voteAll_holds:Rows.VoteAllCardSaid:=
 Claim7.holds_tied_plain_at .later [] [.data,.pinned] true (true, "52912e261b64727618714ac4c8b505d61cbd702586b223c189c270799d03a0f4") false voteAll_row (λ_ h=>by cases h) (by kernel_rfl) (λ_ h=>by cases h) voteAll_row_tie rfl ⟨rfl,rfl⟩ (by kernel_rfl) rfl
  (λf fn hf hfn=>by
   obtain rfl:f=5:=Option.some.inj ((show Tryd.prog.funcNamed "rivulet/rivuletlaw21.VoteAll" =some 5 by kernel_rfl).symm.trans hf) |>.symm;obtain rfl:fn=Tryd.f5:=(Option.some.inj (Tryd.func5.symm.trans hfn)).symm
   exact⟨by kernel_rfl,λj t ht=>by
    rw[Tryd.params5]at ht;have hm:t∈[5,47]:=by simpa using Array.mem_of_getElem? ht
    have hall:([5,47].all λu=>!Tryd.prog.wantsStandIn u)=true:=by kernel_rfl
    exact(show Tryd.prog.wantsStandIn t=false by simpa using List.all_eq_true.1 hall t hm)⟩)
  (by kernel_rfl)
end Go.Proofs.YtfkdbifgppfegaaDoor
