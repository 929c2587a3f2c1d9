/- Reach: the document's sums: contract. -/
import Derived.Test.YthnojkbkojpadaaGreatZG11d10b6c
import Derived.Test.YthnojkbkojpadaaGreatZG088b3fbb
import Derived.Test.YthnojkbkojpadaaGreatZG07dea7ef
import Derived.Test.YthnojkbkojpadaaGreatZG104c7e85
set_option maxRecDepth 100000
set_option linter.unusedVariables false
set_option linter.unusedSimpArgs false
set_option linter.constructorNameAsVariable false
set_option linter.all false

namespace Go.Proofs.YthnojkbkojpadaaGreat
noncomputable section
open Go.RowKit Go.Sx Go.Lp
def rsmC(l:List S):Bool:=!((l.length:Int)==(0:Int)||decide ((l.length:Int)>(64:Int)))&&((Su.q1j l).2==(0:Int)&&decide ((Su.q1j l).1=l))
theorem zxw:q09 Tryz.prog 97 aLSo q0l rsmC (λ_=>[]):=by
 refine q19 (zjv (λ_=>[]) λl hb _=>?_) λl hb _=>?_
 .show qeu l;unfold qeu;simp only[El.okL_eq,El.ag_eq];intro h1;simp only[Bool.or_eq_false_iff,decide_eq_false_iff_not]at h1;refine⟨trivial,by unfold Su.KS;omega,λh2=>⟨trivial,trivial,ixJ0 rfl (by show l.length<=maxLen;unfold maxLen;omega) ?_⟩⟩;simp only[Bool.or_eq_false_iff,bne_eq_false_iff_eq]at h2;show l.length=(Su.q1j l).1.length;omega
 .show zjw l=rsmC l;unfold zjw rsmC qzm;simp only[El.ag_eq]
  have e0:decide ((l.length:Int)<1)=((l.length:Int)==(0:Int)):=by
   rw[Bool.eq_iff_iff,decide_eq_true_eq,beq_iff_eq];omega
  rw[e0];cases h1:((l.length:Int)==(0:Int)||decide ((l.length:Int)>(64:Int)))with
  |true=>rfl
  |false=>
   simp only[cond_false,Bool.not_false,Bool.true_and];simp only[Bool.or_eq_false_iff,decide_eq_false_iff_not]at h1;cases h2:(Su.q1j l).2==(0:Int)with
   |false=>
    have:((Su.q1j l).2 !=(0:Int))=true:=by unfold bne;rw[h2];rfl
    rw[this];rfl
   |true=>
    have:((Su.q1j l).2 !=(0:Int))=false:=by unfold bne;rw[h2];rfl
    rw[this];simp only[Bool.false_or,Bool.true_and];by_cases h3:(Su.q1j l).1.length=l.length
    .have e3:(((Su.q1j l).1.length:Int)!=(l.length:Int))=false:=by rw[h3];simp
     rw[e3,cond_false];obtain⟨j,hj⟩:=zjm l (Su.q1j l).1 h3.symm (by unfold maxLen;omega);have hj:q07 (λg:q7j=>qqq g.1 g.2.1 g.2.2.1 g.2.2.2) qqr (l,(Su.q1j l).1,0,false)=_:=hj;rw[hj];by_cases h4:l=(Su.q1j l).1
     .rw[<-h4];simp[exB]
     .have h5:¬(Su.q1j l).1=l:=λh=>h4 h.symm;simp[h4,h5,exB]
    .have e3:(((Su.q1j l).1.length:Int)!=(l.length:Int))=true:=by
      rw[bne_iff_ne];omega
     rw[e3,cond_true];have:¬(Su.q1j l).1=l:=λh=>h3 (by rw[h]);simp[this]
def qz5:PTab Tryz.prog:=qz6.cons 97 (q1y aLSo q0l rsmC (λ_=>[])) (q0k zxw puB)
open Go.RowKit Go.Sx
abbrev aLPv:DA (List Path×Path):=.cons dLP (.one dPa)
def qzq(l:List Path)(v:Path):Ex×
 q7k:=
 q07 (λg=>qqx g.fst g.snd.fst g.snd.snd.fst g.snd.snd.snd.fst g.snd.snd.snd.snd.fst g.snd.snd.snd.snd.snd) qqy (Path.mk v.fr v.to (eS.ag v.ss),(),(depL (ePa.ag l) v.fr).fst,(depL (ePa.ag l) v.to).fst,(0:Int),false)
def zk3(l:List Path)(v:Path):Dv.T q0l:=
 bif !(depL (ePa.ag l) v.fr).snd||(!(depL (ePa.ag l) v.to).snd||(!rsmC (eS.ag v.ss)||conj ([v.fr.node==v.to.node]++([v.fr.port==v.to.port]++[]))&&!decide (qbb (depL (ePa.ag l) v.fr).fst∈eS.ag v.ss)))then false
 else bif exB Ex.ret (qzq l v).fst then(qzq l v).snd.snd.snd.snd.snd.snd else true
def qev(l:List Path)(v:Path):Prop:=
 ePa.okL l/\ePa.okL l/\((!!(depL (ePa.ag l) v.fr).snd)=true->(!!(depL (ePa.ag l) v.to).snd)=true->eS.okL v.ss)/\((!!(depL (ePa.ag l) v.fr).snd)=true->(!!(depL (ePa.ag l) v.to).snd)=true->(!!rsmC (eS.ag v.ss))=true->conj ([v.fr.node==v.to.node]++([v.fr.port==v.to.port]++[]))=true->eS.okL v.ss)/\((!(depL (ePa.ag l) v.fr).snd||(!(depL (ePa.ag l) v.to).snd||(!rsmC (eS.ag v.ss)||conj ([v.fr.node==v.to.node]++([v.fr.port==v.to.port]++[]))&&!decide (qbb (depL (ePa.ag l) v.fr).fst∈eS.ag v.ss))))=false->eS.okL v.ss/\Lp.ixJ (λc=>(↑c.fst.ss.length:Int)) (λc=>c.fst.ss) z8s (z8r (Path.mk v.fr v.to (eS.ag v.ss),(),(depL (ePa.ag l) v.fr).fst,(depL (ePa.ag l) v.to).fst,(0:Int),false)))
theorem zk2(pre:DA.T aLPv->List Prop)(h:∀g,DA.bd aLPv g->(∀p∈pre g,p)->qev g.1 g.2):q09 Tryz.prog 55 aLPv q0l (λg=>zk3 g.1 g.2) pre:=q0o (Γ:=(PTab.gamz qz5 [] [])) (Λ:=z2f) (PTab.okz qz5 [] []) qp7 100 default (λg=>qev g.1 g.2) (λg=>by kernel_rfl) (λg=>by kernel_rfl) h
def depO(l:List Path)(p:Place):Option Int:=if(depL l p).2=true then some (depL l p).1 else none
theorem qoq{l:List S}(h:((Su.q1j l).2==(0:Int))=true):∀s∈l,q2y s=true:=by
 intro s hs;cases hm:q2y s with
 |true=>rfl
 |false=>
  have:l.any Su.mayN=true:=List.any_eq_true.2 ⟨s,hs,by show(!q2y s)=true;rw[hm];rfl⟩;unfold Su.q1j at h;rw[this]at h;have h:((20:Int)==0)=true:=h;exact absurd h (by decide)
theorem zqc{l:List S}(a b:Int)(h:((Su.q1j l).2==(0:Int))=true):l.any (qdw a b)=l.any (qo0 a b):=by
 have hm:=qoq h
 have:∀s∈l,qdw a b s=qo0 a b s:=λs hs=>by
  unfold qdw qo0 q7b q3u q60;rw[hm s hs];rfl
 rw[Bool.eq_iff_iff,List.any_eq_true,List.any_eq_true];constructor
 .rintro⟨s,hs,h2⟩;exact⟨s,hs,by rw[<-this s hs];exact h2⟩
 .rintro⟨s,hs,h2⟩;exact⟨s,hs,by rw[this s hs];exact h2⟩
theorem z01(d:Int):qbb d=qdb d:=rfl
theorem qzn{l:List S}(h:rsmC l=true):l.length<=maxLen:=by
 unfold rsmC at h;simp only[Bool.and_eq_true,Bool.not_eq_true',Bool.or_eq_false_iff,decide_eq_false_iff_not]at h;unfold maxLen;omega
theorem zxx:q09 Tryz.prog 55 aLPv q0l (λg=>q2d (depO g.1) g.2) (λ_=>[]):=by
 refine q19 (zk2 (λ_=>[]) λg hb _=>?_) λg hb _=>?_
 .obtain⟨l,v⟩:=g;show qev l v;unfold qev;simp only[El.okL_eq,El.ag_eq];refine⟨trivial,trivial,λ_ _=>trivial,λ_ _ _ _=>trivial,λh1=>⟨trivial,?_⟩⟩;simp only[Bool.or_eq_false_iff,Bool.not_eq_false']at h1;exact ixJ0 rfl (qzn h1.2.2.1) trivial
 .obtain⟨l,v⟩:=g;show zk3 l v=q2d (depO l) v;unfold zk3 q2d depO qzq;simp only[El.ag_eq,q7a,zbz,z01];generalize depL l v.fr=A;generalize depL l v.to=B;obtain⟨a,a2⟩:=A;obtain⟨b,b2⟩:=B;cases a2 with
  |false=>rfl
  |true=>
   cases b2 with
   |false=>rfl
   |true=>
    simp only[Bool.not_true,Bool.false_or,if_true];unfold z0m;cases h1:rsmC v.ss with
    |false=>
     simp only[Bool.not_false,Bool.true_or,cond_true];unfold rsmC at h1;generalize (!((v.ss.length:Int)==(0:Int)||decide ((v.ss.length:Int)>(64:Int))))=x at h1 ⊢;generalize ((Su.q1j v.ss).2==(0:Int))=y at h1 ⊢;generalize decide ((Su.q1j v.ss).1=v.ss)=z at h1 ⊢;cases x<;>cases y<;>cases z<;>simp_all
    |true=>
     obtain⟨j,hj⟩:=zjz v a b (qzn h1);have hj:q07 (λg:q7k=>qqx g.1 g.2.1 g.2.2.1 g.2.2.2.1 g.2.2.2.2.1 g.2.2.2.2.2) qqy (v,(),a,b,0,false)=_:=hj;rw[hj];unfold rsmC at h1;simp only[Bool.and_eq_true]at h1;obtain⟨x1,x2,x3⟩:=h1;rw[zqc a b x2,x1,x2,x3];generalize v.ss.any (qo0 a b)=p;generalize decide (v.fr=v.to)=q;generalize decide (qdb a∈v.ss)=r;cases p<;>cases q<;>cases r<;>rfl
def qnn:PTab Tryz.prog:=(qz5.cons 55 (q1y aLPv q0l (λg=>q2d (depO g.1) g.2) (λ_=>[])) (q0k zxx puB))
abbrev q7v:Type:=List Path×Int×Int×Int
def zhn:LP 0 q7v:=.pair (.slot 0 0 dLP) (.pair (.slot 0 4 dI) (.pair (.slot 0 3 dI) (.slot 0 2 dI)))
def qss(xs:List Path)(i:Int)(k:Int)(r:Int):Ex×q7v:=
 bif decide (i<(↑xs.length:Int))then bif bif decide (i>(0:Int))then decide (q67 (Path.mk (xs.getD (IntKind.i64.wrap (i-(1:Int))).toNat ePa.dflt).fr (xs.getD (IntKind.i64.wrap (i-(1:Int))).toNat ePa.dflt).to (eS.ag (xs.getD (IntKind.i64.wrap (i-(1:Int))).toNat ePa.dflt).ss)) (Path.mk (xs.getD i.toNat ePa.dflt).fr (xs.getD i.toNat ePa.dflt).to (eS.ag (xs.getD i.toNat ePa.dflt).ss))>=(0:Int))||!q2d (depO (ePa.ag xs)) (Path.mk (xs.getD i.toNat ePa.dflt).fr (xs.getD i.toNat ePa.dflt).to (eS.ag (xs.getD i.toNat ePa.dflt).ss))else !q2d (depO (ePa.ag xs)) (Path.mk (xs.getD i.toNat ePa.dflt).fr (xs.getD i.toNat ePa.dflt).to (eS.ag (xs.getD i.toNat ePa.dflt).ss))then(Ex.ret,ePa.ag xs,i,k,(110:Int))else(Ex.normal,ePa.ag xs,IntKind.i64.wrap (i+(1:Int)),bif conj ([(xs.getD i.toNat ePa.dflt).fr.node==(xs.getD i.toNat ePa.dflt).to.node]++([(xs.getD i.toNat ePa.dflt).fr.port==(xs.getD i.toNat ePa.dflt).to.port]++[]))then IntKind.i64.wrap (k+(1:Int))else k,r)
 else(Ex.exit (0:Nat),ePa.ag xs,i,k,r)
def qn3(xs:List Path)(i:Int)(k:Int)(r:Int):Prop:=
 (decide (i<(↑xs.length:Int))=true->(decide (i>(0:Int))=true->(0:Int)<=IntKind.i64.wrap (i-(1:Int))/\IntKind.i64.wrap (i-(1:Int))<(↑xs.length:Int))/\(decide (i>(0:Int))=true->(0:Int)<=i/\i<(↑xs.length:Int))/\(decide (i>(0:Int))=true->eS.okL (xs.getD (IntKind.i64.wrap (i-(1:Int))).toNat ePa.dflt).ss)/\(decide (i>(0:Int))=true->eS.okL (xs.getD i.toNat ePa.dflt).ss)/\(decide (i>(0:Int))=true->(!decide (q67 (Path.mk (xs.getD (IntKind.i64.wrap (i-(1:Int))).toNat ePa.dflt).fr (xs.getD (IntKind.i64.wrap (i-(1:Int))).toNat ePa.dflt).to (eS.ag (xs.getD (IntKind.i64.wrap (i-(1:Int))).toNat ePa.dflt).ss)) (Path.mk (xs.getD i.toNat ePa.dflt).fr (xs.getD i.toNat ePa.dflt).to (eS.ag (xs.getD i.toNat ePa.dflt).ss))>=(0:Int)))=true->(0:Int)<=i/\i<(↑xs.length:Int))/\(decide (i>(0:Int))=true->(!decide (q67 (Path.mk (xs.getD (IntKind.i64.wrap (i-(1:Int))).toNat ePa.dflt).fr (xs.getD (IntKind.i64.wrap (i-(1:Int))).toNat ePa.dflt).to (eS.ag (xs.getD (IntKind.i64.wrap (i-(1:Int))).toNat ePa.dflt).ss)) (Path.mk (xs.getD i.toNat ePa.dflt).fr (xs.getD i.toNat ePa.dflt).to (eS.ag (xs.getD i.toNat ePa.dflt).ss))>=(0:Int)))=true->ePa.okL xs)/\(decide (i>(0:Int))=true->(!decide (q67 (Path.mk (xs.getD (IntKind.i64.wrap (i-(1:Int))).toNat ePa.dflt).fr (xs.getD (IntKind.i64.wrap (i-(1:Int))).toNat ePa.dflt).to (eS.ag (xs.getD (IntKind.i64.wrap (i-(1:Int))).toNat ePa.dflt).ss)) (Path.mk (xs.getD i.toNat ePa.dflt).fr (xs.getD i.toNat ePa.dflt).to (eS.ag (xs.getD i.toNat ePa.dflt).ss))>=(0:Int)))=true->eS.okL (xs.getD i.toNat ePa.dflt).ss)/\((!decide (i>(0:Int)))=true->(0:Int)<=i/\i<(↑xs.length:Int))/\((!decide (i>(0:Int)))=true->ePa.okL xs)/\((!decide (i>(0:Int)))=true->eS.okL (xs.getD i.toNat ePa.dflt).ss)/\((bif decide (i>(0:Int))then decide (q67 (Path.mk (xs.getD (IntKind.i64.wrap (i-(1:Int))).toNat ePa.dflt).fr (xs.getD (IntKind.i64.wrap (i-(1:Int))).toNat ePa.dflt).to (eS.ag (xs.getD (IntKind.i64.wrap (i-(1:Int))).toNat ePa.dflt).ss)) (Path.mk (xs.getD i.toNat ePa.dflt).fr (xs.getD i.toNat ePa.dflt).to (eS.ag (xs.getD i.toNat ePa.dflt).ss))>=(0:Int))||!q2d (depO (ePa.ag xs)) (Path.mk (xs.getD i.toNat ePa.dflt).fr (xs.getD i.toNat ePa.dflt).to (eS.ag (xs.getD i.toNat ePa.dflt).ss))else !q2d (depO (ePa.ag xs)) (Path.mk (xs.getD i.toNat ePa.dflt).fr (xs.getD i.toNat ePa.dflt).to (eS.ag (xs.getD i.toNat ePa.dflt).ss)))=true->ePa.okL xs)/\((bif decide (i>(0:Int))then decide (q67 (Path.mk (xs.getD (IntKind.i64.wrap (i-(1:Int))).toNat ePa.dflt).fr (xs.getD (IntKind.i64.wrap (i-(1:Int))).toNat ePa.dflt).to (eS.ag (xs.getD (IntKind.i64.wrap (i-(1:Int))).toNat ePa.dflt).ss)) (Path.mk (xs.getD i.toNat ePa.dflt).fr (xs.getD i.toNat ePa.dflt).to (eS.ag (xs.getD i.toNat ePa.dflt).ss))>=(0:Int))||!q2d (depO (ePa.ag xs)) (Path.mk (xs.getD i.toNat ePa.dflt).fr (xs.getD i.toNat ePa.dflt).to (eS.ag (xs.getD i.toNat ePa.dflt).ss))else !q2d (depO (ePa.ag xs)) (Path.mk (xs.getD i.toNat ePa.dflt).fr (xs.getD i.toNat ePa.dflt).to (eS.ag (xs.getD i.toNat ePa.dflt).ss)))=false->((0:Int)<=i/\i<(↑xs.length:Int))/\((0:Int)<=i/\i<(↑xs.length:Int))/\ePa.okL xs))/\(decide (i<(↑xs.length:Int))=false->ePa.okL xs)
theorem zoy:((q03 Tryz.prog 16).filter λc=>Nat.beq (lkey c) 3).length=1:=by kernel_rfl
abbrev q8y:Type:=List Path
abbrev qkj:Type:=Int×Int
def zct(g:q7v):Int×q8y×qkj:=(g.2.1,g.1,(g.2.2.1,g.2.2.2))
def zoz(d:Int×q8y×qkj):q7v:=(d.2.1,d.1,d.2.2.1,d.2.2.2)
abbrev qki(g:q7v):Ex×q7v:=qss g.1 g.2.1 g.2.2.1 g.2.2.2
abbrev zhl(g:q7v):Prop:=qn3 g.1 g.2.1 g.2.2.1 g.2.2.2
theorem zw0(g:q7v):(qki g).1=.normal\/(qki g).1∈([.ret,.exit 0]:List Ex):=by
 unfold qki qss
 repeat' (first|(left;rfl)|(right;simp only[cond_true,cond_false];simp;done)|(rw[Bool.cond_eq_ite];split))
abbrev zp1(Inv:q7v->List Prop)(m:q7v->Nat):LCon:=q2q [.ret,.exit 0] (loopBody Tryz.prog 16 3) zhn [] 50 Inv qki m
theorem zcs(Inv:q7v->List Prop)(m:q7v->Nat)(hs:∀g,allP (Inv g)->zhl g)(hg:Goes qki m λg=>allP (Inv g)):∀b∈q03 Tryz.prog 16,lkey b=3->q06 Tryz.prog b (zp1 Inv m).g:=q0s (Γ:=(PTab.gamz qnn [] [])) (Λ:=noΛ) (PTab.okz qnn [] []) q0f 100 16 3 50 zhn [] Inv qki zhl m default [.ret,.exit 0] zoy (λrd T B HL HB ds g=>by kernel_rfl) (λrd T B HL HB ds g=>by kernel_rfl) hs hg zw0
theorem qtr(a b:Place):qad a b=q8l a b:=by
 unfold qad q8l;simp only[Su.qn7];rcases Su.cmp3 a.node b.node with ⟨h,e⟩|⟨h,e⟩|⟨h,e⟩<;>rw[e]
 .have h1:(a.node !=b.node)=true:=by rw[bne_iff_ne];omega
  simp[h1,h]
 .have h1:(a.node !=b.node)=true:=by rw[bne_iff_ne];omega
  have h2:¬a.node<b.node:=by omega
  simp[h1,h2]
 .rw[h];rcases Su.cmp3 a.port b.port with ⟨h,e⟩|⟨h,e⟩|⟨h,e⟩<;>rw[e]
  .simp[h]
  .have h2:¬a.port<b.port:=by omega
   simp[h,h2]
  .simp[h]
theorem z8u(a b:Path):q67 a b=q5h a b:=by
 unfold q67 q5h;rw[qtr,qtr];cases h:q8l a.fr b.fr !=(0:Int)with
 |true=>rfl
 |false=>
  simp only[cond_false];cases h2:q8l a.to b.to !=(0:Int)with
  |true=>rfl
  |false=>simpa using h2
def keyE(e:En):List Int:=[e.1.node,e.1.port,e.2.node,e.2.port]
theorem zb3(a b:En)(h:keyE a=keyE b):a=b:=by
 obtain⟨⟨f,k⟩,⟨c,n⟩⟩:=a;obtain⟨⟨f',k'⟩,⟨c',n'⟩⟩:=b;simp only[keyE,List.cons.injEq,and_true]at h;obtain⟨rfl,rfl,rfl,rfl⟩:=h;rfl
def lexE(a b:En):Int:=lexC (keyE a) (keyE b)
theorem toE:TO lexE:=qte keyE zb3 λ_ _=>Iff.rfl
theorem z9j(a b:Path):q5h a b=lexE (qbw a) (qbw b):=by
 show q5h a b=lexC [a.fr.node,a.fr.port,a.to.node,a.to.port] [b.fr.node,b.fr.port,b.to.node,b.to.port];unfold q5h q8l;simp only[Su.qn7,lexC];rcases Su.cmp3 a.fr.node b.fr.node with ⟨h,e⟩|⟨h,e⟩|⟨h,e⟩<;>simp only[e]
 .simp[h]
 .have:¬a.fr.node<b.fr.node:=by omega
  simp[h,this]
 rw[if_neg (by omega),if_neg (by omega)];rcases Su.cmp3 a.fr.port b.fr.port with ⟨h,e⟩|⟨h,e⟩|⟨h,e⟩<;>simp only[e]
 .simp[h]
 .have:¬a.fr.port<b.fr.port:=by omega
  simp[h,this]
 rw[if_neg (by omega),if_neg (by omega)];rcases Su.cmp3 a.to.node b.to.node with ⟨h,e⟩|⟨h,e⟩|⟨h,e⟩<;>simp only[e]
 .simp[h]
 .have:¬a.to.node<b.to.node:=by omega
  simp[h,this]
 rw[if_neg (by omega),if_neg (by omega)];rcases Su.cmp3 a.to.port b.to.port with ⟨h,e⟩|⟨h,e⟩|⟨h,e⟩<;>simp only[e]
 .simp[h]
 .have:¬a.to.port<b.to.port:=by omega
  simp[h,this]
 rw[if_neg (by omega),if_neg (by omega)];simp
def qpy(c:q8y)(b:qkj)(i:Int)(v:Path):Ex×qkj:=bif q7x c (q2d (depO c)) i v then(.ret,(b.1,110))else(.normal,(bif decide (v.fr=v.to)then b.1+1 else b.1,b.2))
def zcu(_:q8y)(b:qkj)(i:Int):Prop:=0<=b.1/\b.1<=i
abbrev zp0(g:q7v):List Prop:=ixI (λc:q8y=>(c.length:Int)) (λc=>c) zcu (zct g)
abbrev qst(g:q7v):Nat:=ixM (λc:q8y=>(c.length:Int)) (zct g)
theorem zw2:ixP qpy (λc:q8y=>c) zcu:=λc b i v h _ hn=>by
 have h:0<=b.1/\b.1<=i:=h;unfold qpy at hn ⊢;cases hc:q7x c (q2d (depO c)) i v with
 |true=>rw[hc]at hn;cases hn
 |false=>
  show 0<=(bif decide (v.fr=v.to)then b.1+1 else b.1)/\(bif decide (v.fr=v.to)then b.1+1 else b.1)<=i+1;cases decide (v.fr=v.to)
  .show 0<=b.1/\b.1<=i+1;omega
  .show 0<=b.1+1/\b.1+1<=i+1;omega
abbrev z5n(g:q7v):Ex×q7v:=qss g.1 g.2.1 g.2.2.1 g.2.2.2
theorem zhm(d:Int×q8y×qkj)(hi:allP (ixI (λc:q8y=>(c.length:Int)) (λc=>c) zcu d)):z5n (zoz d)=((ixF 0 (λc:q8y=>(c.length:Int)) (λc=>c) ePa.dflt qpy d).1,zoz (ixF 0 (λc:q8y=>(c.length:Int)) (λc=>c) ePa.dflt qpy d).2):=by
 obtain⟨i,xs,⟨k,r⟩⟩:=d;obtain⟨_,h2,h3,h4,h5,h6⟩:=hi _ (List.mem_cons_self ..);have h2:xs.length<=maxLen:=h2;have h4:i<=(xs.length:Int):=h4;have h5:0<=k:=h5;have h6:k<=i:=h6;show qss xs i k r=_;unfold qss ixF qpy q7x qg3;simp only[El.ag_eq,zbz,z8u,q7a];generalize (xs.getD i.toNat ePa.dflt)=v;cases hlt:decide (i<(xs.length:Int))with
 |false=>rfl
 |true=>
  have hlt:=of_decide_eq_true hlt;have hw:IntKind.i64.wrap (k+1)=k+1:=Lp.wr ⟨by omega,by unfold maxLen at h2;omega⟩;simp only[cond_true,hw];generalize decide (q5h (xs.getD (IntKind.i64.wrap (i-(1:Int))).toNat ePa.dflt) v>=(0:Int))=z;generalize q2d (depO xs) v=y;cases decide (i>(0:Int))<;>cases z<;>cases y<;>rfl
theorem zvz:∀b∈q03 Tryz.prog 16,lkey b=3->q06 Tryz.prog b (zp1 zp0 qst).g:=by
 refine zcs zp0 qst (λg hi=>?_) (q0e (λ_=>rfl) (λ_=>rfl) zhm zw2);obtain⟨xs,i,k,r⟩:=g;obtain⟨h1,h2,h3,h4,h5⟩:=hi _ (List.mem_cons_self ..);have h2:xs.length<=maxLen:=h2;have h3:0<=i:=h3;show qn3 xs i k r;unfold qn3;simp only[El.okL_eq,El.ag_eq];refine⟨λhlt=>?_,λ_=>?_⟩
 .have hr:=rngP i _ _ rfl h3 hlt;have hp:decide (i>0)=true->0<=IntKind.i64.wrap (i-1)/\IntKind.i64.wrap (i-1)<(xs.length:Int):=λh=>wrP (of_decide_eq_true h) _ h2 hr.2;refine⟨hp,?_⟩
  repeat' (first|exact hr|apply And.intro|intro _)
  all_goals first|trivial|exact hr.1|exact hr.2
 .repeat' (first|apply And.intro|intro _)
  all_goals trivial
theorem zox(xs:List Path)(k2:xs.length<=maxLen):∃j k,q07 z5n qst (xs,0,0,0)=(bif q5r (q7x xs (q2d (depO xs))) 0 xs then .ret else .exit 0,xs,j,bif q5r (q7x xs (q2d (depO xs))) 0 xs then k else((q3x xs).length:Int),bif q5r (q7x xs (q2d (depO xs))) 0 xs then 110 else 0):=by
 have h:=q0h (φ:=zct) (ψ:=zoz) (λ_=>rfl) (λ_=>rfl) zhm zw2 xs (0,0) rfl k2 ⟨Int.le_refl _,Int.le_refl _⟩;have h:q07 z5n qst (xs,0,0,0)=_:=h
 have hf:∀(l:List Path)(b:Int×Int),l.foldl (λ(b:Int×Int)(v:Path)=>(bif decide (v.fr=v.to)then b.1+1 else b.1,b.2)) b=(b.1+((q3x l).length:Int),b.2):=by
  intro l
  induction l with
  |nil=>intro b;simp[q3x]
  |cons v l ih=>
   intro b;rw[List.foldl_cons,ih];unfold q3x;rw[List.filter_cons];cases decide (v.fr=v.to)
   .rfl
   .show(b.1+1+_,b.2)=(b.1+((_::_:List Path).length:Int),b.2);rw[List.length_cons];simp only[Prod.mk.injEq,and_true];omega
 rcases qqu (x:=0) (e:=.ret) (st:=qpy xs) (p:=q7x xs (q2d (depO xs))) (h:=λb=>(b.1,110)) (f:=λb v=>(bif decide (v.fr=v.to)then b.1+1 else b.1,b.2)) (by intro h;cases h) (λ_ _ _=>rfl) xs 0 (0,0)with ⟨ha,j,b',h2⟩|⟨ha,h2⟩
 .have h2:scan 0 (qpy xs) 0 xs (0,0)=_:=h2;refine⟨j,b'.1,h.trans ?_⟩;rw[h2,ha];rfl
 .have h2:scan 0 (qpy xs) 0 xs (0,0)=_:=h2;refine⟨0+(xs.length:Int),0,h.trans ?_⟩;rw[h2,ha,hf];simp only[Int.zero_add];rfl
def zta:LTab Tryz.prog:=(zlx.cons 16 3 (zp1 zp0 qst) zvz)
abbrev quw:Lam:=zta.lam
theorem qgm:∀f k L,quw f k=some L->∀b∈q03 Tryz.prog f,lkey b=k->q06 Tryz.prog b L.g:=zta.ok
def qn2(l:List Path):Ex×
 q7v:=
 q07 (λg=>qss g.fst g.snd.fst g.snd.snd.fst g.snd.snd.snd) qst (ePa.ag l,(0:Int),(0:Int),(0:Int))
def z5m(l:List Path):Dv.T dI:=
 bif exB Ex.ret (qn2 l).fst then(qn2 l).snd.snd.snd.snd
 else bif decide ((qn2 l).snd.snd.snd.fst>(128:Int))then(110:Int)else(0:Int)
def qci(l:List Path):Prop:=
 ePa.okL l/\Lp.ixJ (λc=>(↑(List.length c):Int)) (λc=>c) zcu (zct (ePa.ag l,(0:Int),(0:Int),(0:Int)))
theorem zcr(pre:DA.T aLPo->List Prop)(h:∀g,DA.bd aLPo g->(∀p∈pre g,p)->qci g):q09 Tryz.prog 16 aLPo dI (λg=>z5m g) pre:=q0o (Γ:=(PTab.gamz qnn [] [])) (Λ:=quw) (PTab.okz qnn [] []) qgm 100 default (λg=>qci g) (λg=>by kernel_rfl) (λg=>by kernel_rfl) h
def dckC(l:List Path):Int:=bif q5r (q7x l (q2d (depO l))) 0 l then 110 else bif decide (((q3x l).length:Int)>128)then 110 else 0
theorem zw1:q09 Tryz.prog 16 aLPo dI dckC (λ_=>[]):=by
 refine q19 (zcr (λ_=>[]) λl hb _=>?_) λl hb _=>?_
 .have hl:l.length<=maxLen:=hb.1;show qci l;unfold qci;simp only[El.okL_eq,El.ag_eq];exact⟨trivial,ixJ0 rfl hl ⟨Int.le_refl _,Int.le_refl _⟩⟩
 .have hl:l.length<=maxLen:=hb.1;show z5m l=dckC l;unfold z5m qn2 dckC;simp only[El.ag_eq];obtain⟨j,k,hj⟩:=zox l hl;have hj:q07 (λg:q7v=>qss g.1 g.2.1 g.2.2.1 g.2.2.2) qst (l,0,0,0)=_:=hj;rw[hj];cases q5r (q7x l (q2d (depO l))) 0 l<;>rfl
def Str(l:List Path):Prop:=l.Pairwise λa b=>lexE (qbw a) (qbw b)<0
theorem qfj(l0:List Path)(q:Path->Bool):∀(l:List Path)(i:Int),q5r (q7x l0 q) i l=(q5r (qg3 l0) i l||l.any λv=>!q v)
 | [],_=>rfl
 |a::l,i=>by
  unfold q5r;rw[qfj l0 q l (i+1),List.any_cons];unfold q7x;generalize qg3 l0 i a=x;generalize q a=y;generalize q5r (qg3 l0) (i+1) l=z;generalize (l.any λv=>!q v)=w;cases x<;>cases y<;>cases z<;>cases w<;>rfl
theorem zel(l:List Path)(hl:l.length<=maxLen):∀(r pre:List Path)(a:Path),l=pre++a::r->q5r (qg3 l) ((pre.length+1:Nat):Int) r=false->Str (a::r)
 | [],_,a,_,_=>by
  unfold Str;simp
 |b::r,pre,a,he,h=>by
  unfold q5r at h;rw[Bool.or_eq_false_iff]at h;obtain⟨h1,h2⟩:=h;have hlen:pre.length+2+r.length=l.length:=by rw[he];simp;omega
  have hw:IntKind.i64.wrap (((pre.length+1:Nat):Int)-1)=(pre.length:Int):=by
   have h9:IntKind.i64.wrap (((pre.length+1:Nat):Int)-1)=((pre.length+1:Nat):Int)-1:=Lp.wr ⟨by omega,by unfold maxLen at hl;omega⟩;rw[h9];omega
  have hab:lexE (qbw a) (qbw b)<0:=by
   unfold qg3 at h1;have h0:decide (((pre.length+1:Nat):Int)>0)=true:=decide_eq_true (by omega);rw[h0,hw,cond_true]at h1
   have hg:l.getD (pre.length:Int).toNat ePa.dflt=a:=by
    rw[he];simp
   rw[hg,z9j]at h1;have h1:¬(lexE (qbw a) (qbw b)>=(0:Int)):=of_decide_eq_false h1;omega
  have ih:=zel l hl r (pre++[a]) b (by rw[he];simp) (by
   rw[List.length_append,show(([a]:List Path).length)=1 from rfl,show((pre.length+1+1:Nat):Int)=((pre.length+1:Nat):Int)+1 by omega];exact h2)
  unfold Str at ih ⊢;refine List.pairwise_cons.2 ⟨λx hx=>?_,ih⟩;rcases List.mem_cons.1 hx with rfl|hx
  .exact hab
  .exact toE.trans hab ((List.pairwise_cons.1 ih).1 x hx)
theorem zji(l:List Path)(hl:l.length<=maxLen)(h:q5r (qg3 l) 0 l=false):Str l:=by
 match l,h with
 | [],_=>exact List.Pairwise.nil
 |a::r,h=>
  have h2:q5r (qg3 (a::r)) (0+1) r=false:=by
   have h:=h;unfold q5r at h;rw[Bool.or_eq_false_iff]at h;exact h.2
  exact zel (a::r) hl r [] a rfl h2
theorem zjh{l:List Path}(h:Str l){a b:Path}(ha:a∈l)(hb:b∈l)(he:qbw a=qbw b):a=b:=by
 induction l with
 |nil=>cases ha
 |cons x l ih=>
  obtain⟨h1,h2⟩:=List.pairwise_cons.1 h;rcases List.mem_cons.1 ha with rfl|ha'
  .rcases List.mem_cons.1 hb with rfl|hb'
   .rfl
   .exact absurd (h1 b hb') (by rw[he];exact toE.irrefl _)
  .rcases List.mem_cons.1 hb with rfl|hb'
   .exact absurd (h1 a ha') (by rw[he];exact toE.irrefl _)
   .exact ih h2 ha' hb'
theorem qaz{l:List Path}{v:Path}:v∈q3x l↔v∈l/\v.fr=v.to:=by
 unfold q3x;rw[List.mem_filter];simp
theorem qqs{l:List Path}(h:Str l):(q3x l).Pairwise λa b=>a.fr≠b.fr:=by
 have h2:(q3x l).Pairwise λa b=>lexE (qbw a) (qbw b)<0:=List.Pairwise.sublist List.filter_sublist h;refine List.Pairwise.imp_of_mem (λ{a b}ha hb hab he=>?_) h2;have e1:=(qaz.1 ha).2;have e2:=(qaz.1 hb).2
 have:qbw a=qbw b:=by
  show(a.fr,a.to)=(b.fr,b.to);rw[<-e1,<-e2,he]
 rw[this]at hab;exact toE.irrefl _ hab
theorem qe0:∀(xs:List Path)(m:MPm),(∀x∈xs,mget m.1 x.fr=none)->xs.Pairwise (λa b=>a.fr≠b.fr)->(xs.foldl qga m).1.length=m.1.length+xs.length
 | [],m,_,_=>rfl
 |x::xs,m,h,hp=>by
  obtain⟨p1,p2⟩:=List.pairwise_cons.1 hp
  rw[List.foldl_cons,qe0 xs (qga m x) (λy hy=>by
   rw[show mget (qga m x).1 y.fr=_ from qul Path.fr hdS dEp m x y.fr,if_neg (p1 y hy)];exact h y (List.mem_cons_of_mem _ hy)) p2]
  have h0:=h x (List.mem_cons_self ..);rw[zls dEp]at h0;have hk:¬kAt m.1 x.fr<m.1.length:=λhk=>by rw[if_pos hk]at h0;cases h0
  have:(qga m x).1.length=m.1.length+1:=by
   show(qi2 Path.fr hdS dEp m x).1.length=_;unfold qi2;rw[if_neg hk];simp
  rw[this,List.length_cons];omega
theorem zcp(m:List (MpE Place Int))(p:Place):dget (m.map d3e) p=mget m p:=by
 unfold dget mget
 induction m with
 |nil=>rfl
 |cons e m ih=>
  rw[List.map_cons,List.find?_cons,List.find?_cons];show Option.map _ (match decide (p=e.1)with|true=>some (d3e e)|false=>_)=_;cases decide (p=e.1)with
  |true=>rfl
  |false=>exact ih
theorem zcq{l:List Path}(h:Str l)(hn:l.any noD=false)(p:Place):dget (qxr l) p=depO l p:=by
 unfold qxr;rw[zcp];show mget ((q3x l).foldl (qi2 Path.fr hdS dEp) ([],0)).1 p=_;rw[qoo]
 have hss:∀v∈l,v.fr=v.to->0<v.ss.length:=λv hv he=>by
  have:=List.any_eq_false.1 hn v hv;unfold noD at this;simp only[he,decide_true,Bool.true_and,beq_iff_eq]at this;omega
 unfold depO depL;cases h1:(q3x l).reverse.find? (λx=>decide (x.fr=p))with
 |none=>
  have h1:=List.find?_eq_none.1 h1
  have h2:l.find? (depP p)=none:=List.find?_eq_none.2 λv hv hd=>by
   unfold depP at hd;simp only[Bool.and_eq_true,decide_eq_true_eq]at hd;exact h1 v (List.mem_reverse.2 (qaz.2 ⟨hv,by rw[hd.1,hd.2.1]⟩)) (decide_eq_true hd.1)
  rw[h2];rfl
 |some x=>
  have m1:=qaz.1 (List.mem_reverse.1 (List.mem_of_find?_eq_some h1));have e1:x.fr=p:=of_decide_eq_true (List.find?_some (p:=λx:Path=>decide (x.fr=p)) h1);cases h2:l.find? (depP p)with
  |none=>
   have h2:=List.find?_eq_none.1 h2 x m1.1;refine absurd ?_ h2;have:=hss x m1.1 m1.2;unfold depP;simp only[Bool.and_eq_true,decide_eq_true_eq];exact⟨e1,by rw[<-m1.2];exact e1,by omega⟩
  |some y=>
   have m2:=List.mem_of_find?_eq_some h2;have h3:=List.find?_some h2;unfold depP at h3;simp only[Bool.and_eq_true,decide_eq_true_eq]at h3;have:x=y:=zjh h m1.1 m2 (by show(x.fr,x.to)=(y.fr,y.to);rw[<-m1.2,e1,h3.1,h3.2.1]);subst this;rfl
theorem qug{l:List Path}(D:Place->Option Int)(h:l.any noD=true):(l.any λv=>!q2d D v)=true:=by
 obtain⟨v,hv,hn⟩:=List.any_eq_true.1 h;refine List.any_eq_true.2 ⟨v,hv,?_⟩;unfold noD at hn;rw[Bool.and_eq_true]at hn;unfold q2d z0m;rw[hn.2];cases D v.fr<;>cases D v.to<;>rfl
theorem qvm(l:List Path)(hl:l.length<=maxLen):chkP l=dckC l:=by
 unfold chkP dckC;rw[qfj,qfj];cases h1:q5r (qg3 l) 0 l with
 |true=>simp
 |false=>
  have hs:=zji l hl h1;simp only[Bool.false_or];cases hn:l.any noD with
  |true=>
   rw[qug _ hn,qug _ hn];simp
  |false=>
   have hd:dpsC l=(qxr l,decide (((depM l).1.length:Int)<=128)):=by unfold dpsC;rw[hn];rfl
   rw[hd];have hf:dget (qxr l)=depO l:=funext λp=>zcq hs hn p
   have hlen:(depM l).1.length=(q3x l).length:=by
    have:=qe0 (q3x l) ([],0) (λ_ _=>rfl) (qqs hs);unfold depM;simpa using this
   simp only[hf,hlen];generalize (l.any λv=>!q2d (depO l) v)=z;by_cases h2:((q3x l).length:Int)<=128
   .have:¬((q3x l).length:Int)>128:=by omega
    simp[h2,this]
   .have:((q3x l).length:Int)>128:=by omega
    cases z<;>simp[h2,this]
theorem qqb{l:List Path}(hl:l.length<=maxLen)(h:chkP l=0):∀v∈l,q2d (depO l) v=true:=by
 rw[qvm l hl]at h;unfold dckC at h;rw[qfj]at h;intro v hv;cases hp:q2d (depO l) v with
 |true=>rfl
 |false=>
  have:(l.any λv=>!q2d (depO l) v)=true:=List.any_eq_true.2 ⟨v,hv,by rw[hp];rfl⟩;rw[this,Bool.or_true]at h;exact absurd h (by simp)
theorem qu5{D:Place->Option Int}{v:Path}(h:q2d D v=true):0<v.ss.length/\v.ss.length<=64:=by
 unfold q2d at h;split at h
 .unfold z0m at h;simp only[Bool.and_eq_true,Bool.not_eq_true',Bool.or_eq_false_iff,decide_eq_false_iff_not,beq_eq_false_iff_ne]at h;have:=h.1;omega
 .cases h
theorem z6g{l:List Path}(hl:l.length<=maxLen)(h:chkP l=0):Hd l:=λe he _=>by
 have hm:l.getD e ePa.dflt∈l:=by
  rw[List.getD_eq_getElem?_getD,List.getElem?_eq_getElem he];exact List.getElem_mem he
 exact(qu5 (qqb hl h _ hm)).1
def qlb:PTab Tryz.prog:=(qnn.cons 16 (q1y aLPo dI dckC (λ_=>[])) (q0k zw1 puI)).cons 21 (q1y z6y q0l (λg=>decide (g.1=g.2)) (λ_=>[])) (q0k zo3 puB)
abbrev rFp:Rv (List Spot):=.fn1 53 (.list eSp)
def zpi(l:List S):Rv.T rLS:=
 List.map (λx=>eS.get []) (List.range (min ((0:Nat)+l.length) (0:Nat)))++eS.lst ((0:Nat)+l.length-(0:Nat)) (eS.els l)
def qfh(l:List S):Prop:=
 ∀(cs:List Nat),(cs.isEmpty=false->l.length=(0:Nat))->((false !=!cs.isEmpty)=true->∀(d:List S),[]=List.map (λx=>eS.get []) (List.range (min ((0:Nat)+l.length) (0:Nat)))++eS.lst ((0:Nat)+l.length-(0:Nat)) (eS.els l))/\((false !=!cs.isEmpty)=false->((0:Nat)<=(0:Nat)/\(∀(e:Nat),e<l.length->(eS.els l e).all SV.one=true)/\(0:Nat)+l.length<=maxLen/\((0:Nat)+l.length)*Tryz.prog.types[(42:Nat)].bytes<=(140737488355328:Nat))/\(0:Nat)+l.length<=(0:Nat)+l.length/\(∀(e:Nat),e<min ((0:Nat)+l.length) (0:Nat)->eS.OkP [])/\(∀(e:Nat),e<(0:Nat)+l.length-(0:Nat)->True)/\∀(d:List S),List.map (λx=>eS.get []) (List.range (min ((0:Nat)+l.length) (0:Nat)))++eS.lst ((0:Nat)+l.length-(0:Nat)) (eS.els l)=List.map (λx=>eS.get []) (List.range (min ((0:Nat)+l.length) (0:Nat)))++eS.lst ((0:Nat)+l.length-(0:Nat)) (eS.els l))
theorem zph(pre:DA.T aLSo->List Prop)(h:∀g,DA.bd aLSo g->(∀p∈pre g,p)->qfh g):q09 Tryz.prog 56 aLSo (Rv.D rLS) (λg=>zpi g) pre:=q2l (R:=rLS) (Γ:=(PTab.gamz qlb [] [])) (Λ:=quw) (PTab.okz qlb [] []) qgm 100 default (λg=>qfh g) (λg=>by kernel_rfl) (λg=>by kernel_rfl) h
def qj5(l:List Path):Ex×
 q8k:=
 q07 (λg=>qwk g.fst g.snd.fst g.snd.snd.fst g.snd.snd.snd.fst g.snd.snd.snd.snd) z0i (ePa.ag l,(↑l.length:Int),(0:Int),(),[])
def zl3(l:List Path):Rv.T rFp:=
 bif chkP (ePa.ag l)==(0:Int)then eSp.ag (qj5 l).snd.snd.snd.snd.snd else []
def qez(l:List Path):Prop:=
 ePa.okL l/\((chkP (ePa.ag l)==(0:Int))=true->ePa.okL l/\Lp.ixJ (λc=>c.snd) (λc=>c.fst) z9m (z9l (ePa.ag l,(↑l.length:Int),(0:Int),(),[]))/\(qj5 l).snd.snd.snd.snd.snd.length<=(qj5 l).snd.snd.snd.snd.snd.length/\∀(e:Nat),e<(qj5 l).snd.snd.snd.snd.snd.length->True)
theorem zl2(pre:DA.T aLPo->List Prop)(h:∀g,DA.bd aLPo g->(∀p∈pre g,p)->qez g):q09 Tryz.prog 15 aLPo (Rv.D rFp) (λg=>zl3 g) pre:=q2l (R:=rFp) (Γ:=(PTab.gamz qlb [] [])) (Λ:=quw) (PTab.okz qlb [] []) qgm 100 default (λg=>qez g) (λg=>by kernel_rfl) (λg=>by kernel_rfl) h
theorem zyz(h:42<Tryz.prog.types.size):(Tryz.prog.types[(42:Nat)]'h).bytes=64:=by kernel_rfl
theorem zyw:q09 Tryz.prog 56 aLSo (Rv.D rLS) (λl=>l) (λl=>[l.length<=K30]):=by
 refine q19 (zph (λl=>[l.length<=K30]) λl hb hp=>?_) λl hb hp=>?_
 .have hl:l.length<=1000000:=hp _ (List.mem_cons_self ..);show qfh l;unfold qfh;simp only[ap0,zyz];intro cs hcs;refine⟨λh=>?_,λh=>?_⟩
  .have:cs.isEmpty=false:=by cases hc:cs.isEmpty<;>simp_all
   have:=List.eq_nil_of_length_eq_zero (hcs this);subst this;intro _;rfl
  .repeat' (first|apply And.intro|intro _)
   all_goals first|trivial|exact eS.one_els _ _|omega|(unfold maxLen;omega)|exact El.ok_els _ _ _
 .show zpi l=l;unfold zpi;exact ap0 eS l
def qtm(l:List Path):List Spot:=(q3x l).map λv=>Spot.mk v.fr (hdS v)
def plcC(l:List Path):List Spot:=bif chkP l==(0:Int)then qtm l else []
theorem zy3:q09 Tryz.prog 15 aLPo (Rv.D rFp) plcC (λl=>[l.length<=K30]):=by
 have hq:∀l:List Path,l.length<=K30->chkP l=0->qj5 l=(.exit 0,l,(l.length:Int),(l.length:Int),(),qtm l):=λl hl h=>by
  have hm:l.length<=maxLen:=by unfold maxLen;unfold K30 at hl;omega
  unfold qj5;rw[El.ag_eq];exact zl4 l hl (z6g hm h)
 refine q19 (zl2 (λl=>[l.length<=K30]) λl hb hp=>?_) λl hb hp=>?_
 .have hl:l.length<=K30:=hp _ (List.mem_cons_self ..);have hm:l.length<=maxLen:=hb.1;show qez l;unfold qez;simp only[El.okL_eq,El.ag_eq];refine⟨trivial,λh=>?_⟩;have h:chkP l=0:=by simpa using h
  exact⟨trivial,ixJ0 rfl hm ⟨z6g hm h,hl,Int.le_refl _⟩,Nat.le_refl _,λ_ _=>trivial⟩
 .have hl:l.length<=K30:=hp _ (List.mem_cons_self ..);show zl3 l=plcC l;unfold zl3 plcC;simp only[El.ag_eq];cases h:chkP l==(0:Int)with
  |true=>rw[hq l hl (by simpa using h)]
  |false=>rfl
theorem k30{n:Nat}(h:n<=K30):n<=maxLen:=by unfold maxLen;unfold K30 at h;omega
theorem zpu{l:List Path}(hl:l.length<=maxLen)(h:chkP l=0):Sm l:=λe=>by
 by_cases he:e<l.length
 .have hm:l.getD e ePa.dflt∈l:=by
   rw[List.getD_eq_getElem?_getD,List.getElem?_eq_getElem he];exact List.getElem_mem he
  exact Nat.le_trans (qu5 (qqb hl h _ hm)).2 (by omega)
 .rw[List.getD_eq_getElem?_getD,List.getElem?_eq_none (by omega)];exact Nat.zero_le _
open Go.RowKit Go.Sx Go.Lp Go.Shelf Go.Sort
def qxv:Go.Shelf.Ren:=⟨λ|5=>89|7=>130|n=>n,λ|23=>87|25=>132|3=>2|4=>4|20=>20|n=>n,λ|n=>n⟩
theorem cloneM:SlLaysW.n5 Tryz.prog qxv:={
 mixed:=by kernel_rfl,
 f5:=⟨Tryz.f89.name,by decide,Tryz.func89.trans (congrArg some (by kernel_rfl))⟩,
 f7:=Tryz.func130.trans (congrArg some (by kernel_rfl)),
 t4:=Tryz.underlying4,
 a4:=Tryz.isAgg4,
 z4:=Tryz.sizeOf4,
 v4:=Tryz.zeroValue4,
 t20:=Tryz.underlying20,
 a20:=Tryz.isAgg20,
 z20:=Tryz.sizeOf20,
 v20:=Tryz.zeroValue20,
 t23:=Tryz.underlying87,
 a23:=Tryz.isAgg87,
 z23:=Tryz.sizeOf87,
 v23:=Tryz.zeroValue87}
theorem zd5:FnOk Tryz.prog 89 z5x:=zd0 λb es clk w hb=>AnyW.maps_Clone cloneM b es clk w hb
def cLd:CT LdK:=.iso (.pair (.kb true) (.pair (.fz 105 ePa) (.pair (.fzm true false eP eI) (.map true false eKy eI)))) (λg=>g.2) (λk=>((),k)) (λ_=>rfl)
theorem qrq(k:LdK):SO.cells (cLd.cells 1 k) 89::cLd.blks 1 k=(layL k).map PO.so:=rfl
theorem qgl(k:LdK):∃xs t,(layL k)[0]?=some (.cells xs t):=⟨_,_,rfl⟩
def wLd:Wr Ldg:=⟨λg=>g,λg=>some g,λ_ _ h=>by cases h;rfl⟩
theorem repL(a:Ldg)(L:Lc)(S:Nat->Prop)(H F:Nat->Option Obj):Env.rep (wLd.wrap a) L S H F↔qbs layL relL a L S H F:=Iff.rfl
abbrev taL:TA LdK:=.one 89 cLd
def qz3:MTab Tryz.prog:=((((qnm.cons 33 (q1y aLPo dI chkP (λ_=>[])) (q0k zse puI)).cons 15 (qbf aLPo (Rv.D rFp) plcC (λl=>[l.length<=K30])) (q3v zy3)).cons 56 (qbf aLSo (Rv.D rLS) (λl=>l) (λl=>[l.length<=K30])) (q3v zyw)).consM 73 (qne 59 eC aMK ordC (λm=>[m.length<=KS,KdM m])) (qdi pusC zss)).consM 89 zx3 zd5
abbrev MPd:Type:=List (Place×Int×Int)×Nat
def qha(xs:List Spot)(n:Int)(i:Int)(_u:Unit)(_v:Unit)(mp:MPd):Nat:=
 q2h (λe=>(xs.getD i.toNat eSp.dflt).p.node==(mp.fst.getD e (eP.ent eI).dflt).fst.node&&(xs.getD i.toNat eSp.dflt).p.port==(mp.fst.getD e (eP.ent eI).dflt).fst.port) mp.fst.length (0:Nat)
abbrev q5v:Type:=List Spot×Int×Int×Unit×Unit×MPd×LoopState×Option Code
def zhk:LP 4 q5v:=.pair (.slot 4 5 dLSp) (.pair (.slot 4 6 dI) (.pair (.slot 4 7 dI) (.pair (.fix 4 0 (.yl 3)) (.pair (.fixO 4 1 86 (.mp 0)) (.pair (.mapO 4 0 true false eP eI) (.rf 4 3 Tryz.prog 157 0 12 [(2,.p 1 0)] 2))))))
def qxp(xs:List Spot)(n:Int)(i:Int)(_u:Unit)(_v:Unit)(mp:MPd):Ex×q5v:=
 bif decide (i<n)then(Ex.normal,eSp.ag xs,n,IntKind.i64.wrap (i+(1:Int)),(),(),(((eP.ent eI).lst (bif decide ((qha xs n i _u _v mp)<mp.fst.length)then mp.fst.length else mp.fst.length+(1:Nat)) ((eP.ent eI).els mp.fst)).set (qha xs n i _u _v mp) ((xs.getD i.toNat eSp.dflt).p,(xs.getD i.toNat eSp.dflt).d,bif decide ((qha xs n i _u _v mp)<mp.fst.length)then(mp.fst.getD (qha xs n i _u _v mp) (eP.ent eI).dflt).snd.snd else(↑mp.snd:Int)),bif decide ((qha xs n i _u _v mp)<mp.fst.length)then mp.snd else mp.snd+(1:Nat)),LoopState.ready,none)
 else(Ex.exit (0:Nat),eSp.ag xs,n,i,(),(),((eP.ent eI).ag mp.fst,mp.snd),LoopState.ready,none)
def qn1(xs:List Spot)(n:Int)(i:Int)(_u:Unit)(_v:Unit)(mp:MPd):Prop:=
 (decide (i<n)=true->((0:Int)<=i/\i<(↑xs.length:Int))/\(∀(e:Nat),e<mp.fst.length->(4:Nat)=(4:Nat))/\(∀(e:Nat),e<mp.fst.length->True)/\eSp.okL xs/\True/\(∀(e:Nat),(e<bif decide ((qha xs n i _u _v mp)<mp.fst.length)then mp.fst.length else mp.fst.length+(1:Nat))->True)/\q65 (q1q Tryz.prog (157:Nat) (0:Nat)).snd.fst (q1q Tryz.prog (157:Nat) (0:Nat)).snd.fst/\q65 (q1q Tryz.prog (157:Nat) (0:Nat)).snd.snd (q1q Tryz.prog (157:Nat) (0:Nat)).snd.snd)/\(decide (i<n)=false->eSp.okL xs/\(∀(e:Nat),e<mp.fst.length->True)/\q65 (q1q Tryz.prog (157:Nat) (0:Nat)).snd.fst (q1q Tryz.prog (157:Nat) (0:Nat)).snd.fst/\q65 (q1q Tryz.prog (157:Nat) (0:Nat)).snd.snd (q1q Tryz.prog (157:Nat) (0:Nat)).snd.snd)
theorem zor:((q03 Tryz.prog 53).filter λc=>Nat.beq (lkey c) 1).length=1:=by kernel_rfl
abbrev q8x:Type:=List Spot×Int
abbrev qcg:Type:=Unit×Unit×MPd×LoopState×Option Code
def zcl(g:q5v):Int×q8x×qcg:=(g.2.2.1,(g.1,g.2.1),(g.2.2.2.1,g.2.2.2.2.1,g.2.2.2.2.2.1,g.2.2.2.2.2.2))
def zos(d:Int×q8x×qcg):q5v:=(d.2.1.1,d.2.1.2,d.1,d.2.2.1,d.2.2.2.1,d.2.2.2.2.1,d.2.2.2.2.2)
def zou:List ((Ex×q5v->Bool)×Ex×(q5v->q5v)):=[(λx=>exB (.exit 0) x.1,.exit 0,λg=>(g.1,g.2.1,g.2.2.1,g.2.2.2.1,g.2.2.2.2.1,g.2.2.2.2.2.1,(.ready,none)))]
abbrev qkh(g:q5v):Ex×q5v:=qxp g.1 g.2.1 g.2.2.1 g.2.2.2.1 g.2.2.2.2.1 g.2.2.2.2.2.1
abbrev zhi(g:q5v):Prop:=qn1 g.1 g.2.1 g.2.2.1 g.2.2.2.1 g.2.2.2.2.1 g.2.2.2.2.2.1
theorem zvw(g:q5v):(qkh g).1=.normal\/qam (qkh g) zou:=by
 unfold qkh qxp
 repeat' (first|(left;rfl)|(right;exact⟨rfl,rfl⟩)|(rw[Bool.cond_eq_ite];split))
abbrev zov(Inv:q5v->List Prop)(m:q5v->Nat):LCon:=z1p zou (loopBody Tryz.prog 53 1) zhk [] 19 Inv qkh m
def zvv(g:q5v):q5v:=(g.1,g.2.1,g.2.2.1,g.2.2.2.1,g.2.2.2.2.1,g.2.2.2.2.2.1,(LoopState.ready,none))
theorem zck(Inv:q5v->List Prop)(m:q5v->Nat)(hs:∀g,allP (Inv g)->zhi g)(hι:∀g,allP (Inv g)->zvv g=g)(hg:Goes qkh m λg=>allP (Inv g)):∀b∈q03 Tryz.prog 53,lkey b=1->q06 Tryz.prog b (zov Inv m).g:=qov zvv (Γ:=(MTab.gamz qz3 [] [])) (Λ:=qp4) (MTab.okz qz3 [] []) q74 100 53 1 19 zhk [] Inv qkh zhi m default zou zor (λrd T B HL HB ds g=>by kernel_rfl) (λrd T B HL HB ds g=>by kernel_rfl) hι hs hg zvw
abbrev qrf(m:MPd)(v:Spot):MPd:=qi2 Spot.p Spot.d dEp m v
def z5h(_:q8x)(b:qcg)(_:Int)(v:Spot):Ex×qcg:=(.normal,((),(),qrf b.2.2.1 v,b.2.2.2))
def zcm(_:q8x)(b:qcg)(_:Int):Prop:=b.2.2.2=(LoopState.ready,(none:Option Code))
abbrev zot(g:q5v):List Prop:=ixI (λc:q8x=>c.2) (λc=>c.1) zcm (zcl g)
abbrev qxq(g:q5v):Nat:=ixM (λc:q8x=>c.2) (zcl g)
theorem zvx:ixP z5h (λc:q8x=>c.1) zcm:=λ_ _ _ _ h _ _=>h
abbrev z5i(g:q5v):Ex×q5v:=qxp g.1 g.2.1 g.2.2.1 g.2.2.2.1 g.2.2.2.2.1 g.2.2.2.2.2.1
theorem zvt(xs:List Spot)(n i:Int)(m:List (MpE Place Int))(clk:Nat):qha xs n i () () (m,clk)=kAt m (xs.getD i.toNat eSp.dflt).p:=q5k _ dEp m λj _=>eqKP _ _
theorem zhj(d:Int×q8x×qcg)(hi:allP (ixI (λc:q8x=>c.2) (λc=>c.1) zcm d)):z5i (zos d)=((ixF 0 (λc:q8x=>c.2) (λc=>c.1) eSp.dflt z5h d).1,zos (ixF 0 (λc:q8x=>c.2) (λc=>c.1) eSp.dflt z5h d).2):=by
 have hb:=(hi _ (List.mem_cons_self ..)).2.2.2.2;obtain⟨i,⟨xs,n⟩,⟨⟨⟩,⟨⟩,⟨m,clk⟩,f⟩⟩:=d;have hb:f=(LoopState.ready,(none:Option Code)):=hb;subst hb;show qxp xs n i () () (m,clk)=_;have hq:=zvt xs n i m clk;unfold qxp ixF z5h;rw[hq];simp only[El.ag_eq,q7a];generalize (xs.getD i.toNat eSp.dflt)=v;cases decide (i<n)with
 |false=>rfl
 |true=>
  simp only[cond_true];have hle:kAt m v.p<=m.length:=List.findIdx_le_length;rw[qgf _ _ _ hle];unfold qrf qi2;by_cases hj:kAt m v.p<m.length
  .simp only[hj,decide_true,cond_true,if_true];rfl
  .simp only[hj,decide_false,cond_false,if_false];rfl
theorem zvu:∀b∈q03 Tryz.prog 53,lkey b=1->q06 Tryz.prog b (zov zot qxq).g:=by
 refine zck zot qxq (λg hi=>?_) (λg hi=>?_) (q0e (λ_=>rfl) (λ_=>rfl) zhj zvx)
 .obtain⟨xs,n,i,⟨⟩,⟨⟩,⟨m,clk⟩,st,pd⟩:=g;obtain⟨h1,h2,h3,h4,h5⟩:=hi _ (List.mem_cons_self ..);have h1:n=(xs.length:Int):=h1;have h3:0<=i:=h3;have hle:kAt m (xs.getD i.toNat eSp.dflt).p<=m.length:=List.findIdx_le_length;show qn1 xs n i () () (m,clk);unfold qn1;simp only[El.okL_eq,El.ag_eq,q7a,zvt];generalize kAt m (xs.getD i.toNat eSp.dflt).p=q at hle;refine⟨λhlt=>?_,λ_=>?_⟩
  .have:=rngP i n _ h1 h3 hlt
   repeat' (first|apply And.intro|exact⟨trivial,rfl⟩|intro _)
   all_goals first|trivial|rfl|omega
  .repeat' (first|apply And.intro|intro _)
   all_goals first|trivial|rfl
 .obtain⟨xs,n,i,⟨⟩,⟨⟩,mp,st,pd⟩:=g;have h5:=(hi _ (List.mem_cons_self ..)).2.2.2.2;have h5:(st,pd)=(LoopState.ready,(none:Option Code)):=h5;cases h5;rfl
theorem zoq(xs:List Spot)(h:xs.length<=maxLen):∃j,q07 z5i qxq (xs,(xs.length:Int),0,(),(),([],0),.ready,none)=(.exit 0,xs,(xs.length:Int),j,(),(),xs.foldl qrf ([],0),.ready,none):=by
 have e:q07 z5i qxq (xs,(xs.length:Int),0,(),(),([],0),.ready,none)=_:=
  q0h (φ:=zcl) (ψ:=zos) (λ_=>rfl) (λ_=>rfl) zhj zvx (xs,(xs.length:Int)) ((),(),([],0),.ready,none) rfl h rfl
 have hs:=scan_fold (x:=0) (st:=z5h (xs,(xs.length:Int))) (f:=λ(b:qcg)v=>((),(),qrf b.2.2.1 v,b.2.2.2)) (λ_ _ _=>rfl) xs 0 ((),(),([],0),.ready,none)
 have hf:∀(l:List Spot)(m:MPd)(f:LoopState×Option Code),l.foldl (λ(b:qcg)v=>(((),(),qrf b.2.2.1 v,b.2.2.2):qcg)) ((),(),m,f)=((),(),l.foldl qrf m,f):=by
  intro l
  induction l with
  |nil=>intro m f;rfl
  |cons a l ih=>intro m f;rw[List.foldl_cons,ih];rfl
 rw[hf]at hs;exact⟨0+(xs.length:Int),e.trans (by rw[hs];rfl)⟩
def ltO7:LTab Tryz.prog:=ltO2.cons 53 1 (zov zot qxq) zvu
abbrev ztp:Lam:=ltO7.lam
theorem zat:∀f k L,ztp f k=some L->∀b∈q03 Tryz.prog f,lkey b=k->q06 Tryz.prog b L.g:=ltO7.ok
def qpw(_k:Unit)(l:List Path):Ex×
 q5v:=
 q07 (λg=>qxp g.fst g.snd.fst g.snd.snd.fst g.snd.snd.snd.fst g.snd.snd.snd.snd.fst g.snd.snd.snd.snd.snd.fst) qxq (eSp.ag (plcC (ePa.ag l)),(↑(plcC (ePa.ag l)).length:Int),(0:Int),(),(),(List.map (λx=>(Place.mk (0:Int) (0:Int),(0:Int),(0:Int))) (List.range (0:Nat)),(0:Nat)),LoopState.ready,none)
def zol(_k:Unit)(l:List Path):TA.T TA.nil×TR.T (trM true false eP eI):=
 ((),(eP.ent eI).ag (qpw _k l).snd.snd.snd.snd.snd.snd.fst.fst,(qpw _k l).snd.snd.snd.snd.snd.snd.fst.snd)
def qfd(_k:Unit)(l:List Path):Prop:=
 ePa.okL l/\(ePa.ag l).length<=K30/\eSp.okL (plcC (ePa.ag l))/\(∀(e:Nat),e<(0:Nat)->True)/\q65 (q1q Tryz.prog (157:Nat) (0:Nat)).snd.fst (q1q Tryz.prog (157:Nat) (0:Nat)).snd.fst/\q65 (q1q Tryz.prog (157:Nat) (0:Nat)).snd.snd (q1q Tryz.prog (157:Nat) (0:Nat)).snd.snd/\Lp.ixJ (λc=>c.snd) (λc=>c.fst) zcm (zcl (eSp.ag (plcC (ePa.ag l)),(↑(plcC (ePa.ag l)).length:Int),(0:Int),(),(),(List.map (λx=>(Place.mk (0:Int) (0:Int),(0:Int),(0:Int))) (List.range (0:Nat)),(0:Nat)),LoopState.ready,none))/\∀(e:Nat),e<(qpw _k l).snd.snd.snd.snd.snd.snd.fst.fst.length->True
theorem zok(pre:TA.T TA.nil->DA.T aLPo->List Prop)(h:∀k g,DA.bd aLPo g->(∀p∈pre k g,p)->qfd k g):FnT Tryz.prog 88 TA.nil aLPo (trM true false eP eI) (λk g=>zol k g) pre:=q9c (Γ:=(MTab.gamz qz3 [] [])) (Λ:=ztp) (MTab.okz qz3 [] []) zat 100 default (λk g=>qfd k g) (λk g=>by kernel_rfl) (λk g=>by kernel_rfl) h
def qpx(l:List Path):MPd:=(plcC l).foldl qrf ([],0)
theorem qu4{l:List Path}(h:l.length<=K30):(plcC l).length<=maxLen:=by
 unfold plcC;cases chkP l==(0:Int)with
 |false=>exact Nat.zero_le _
 |true=>
  show(qtm l).length<=_;unfold qtm q3x;rw[List.length_map];refine Nat.le_trans (List.length_filter_le _ _) ?_;unfold K30 at h;unfold maxLen;omega
theorem zyr:FnT Tryz.prog 88 TA.nil aLPo (trM true false eP eI) (λ_ l=>((),qpx l)) (λ_ l=>[l.length<=K30]):=by
 have hq:∀(u:Unit)(l:List Path),l.length<=K30->∃j,qpw u l=(.exit 0,plcC l,((plcC l).length:Int),j,(),(),qpx l,.ready,none):=λu l h=>by
  obtain⟨j,e⟩:=zoq (plcC l) (qu4 h);refine⟨j,?_⟩;unfold qpw;simp only[El.ag_eq];exact e
 refine qhs (zok (λ_ l=>[l.length<=K30]) λu l hb hp=>?_) (λ_ _ h=>h) λu l hb hp=>?_
 .have hl:l.length<=K30:=hp _ (List.mem_cons_self ..);obtain⟨j,e⟩:=hq u l hl;show qfd u l;unfold qfd;simp only[El.okL_eq,El.ag_eq];exact⟨trivial,hl,trivial,λ_ _=>trivial,rfl,rfl,ixJ0 rfl (qu4 hl) rfl,λ_ _=>trivial⟩
 .have hl:l.length<=K30:=hp _ (List.mem_cons_self ..);obtain⟨j,e⟩:=hq u l hl;show zol u l=_;unfold zol;rw[e];simp only[El.ag_eq]
theorem zy1(a:MpE Place Int):Pus ((eP.ent eI).cells a):=q1c (pu_v _) (q1c (pu_v _) (q1c (pu_v _) (q1c (pu_v _) qcy)))
def zxo:MTab Tryz.prog:=qz3.consM 88 (qvn true false eP eI aLPo qpx (λl=>[l.length<=K30])) (qkn zy1 zyr)
end
end Go.Proofs.YthnojkbkojpadaaGreat

namespace Go.Proofs.YthnojkbkojpadaaGreat
open Go.RowKit Go.Sx
theorem clp(xs:List Path):qqj Tryz.prog (PTab.gamz (PTab.nil:PTab Tryz.prog) [] []) noΛ 100 87 105 ePa (aLPo.enc xs)=
 Tr.all λcs=>Tr.giv (cs.isEmpty=false->xs.length=(0:Nat)) (Tr.br (false !=!cs.isEmpty) (Tr.ret []) (Tr.ask ((0:Nat)<=(0:Nat)/\(∀(e:Nat),e<xs.length->(ePa.els xs e).all SV.one=true)/\(0:Nat)+xs.length<=maxLen/\((0:Nat)+xs.length)*Tryz.prog.types[(105:Nat)].bytes<=(140737488355328:Nat)) (Tr.ask ((0:Nat)+xs.length=(0:Nat)+xs.length) (Tr.ask (∀(e:Nat),e<min ((0:Nat)+xs.length) (0:Nat)->ePa.OkP []) (Tr.ask (∀(e:Nat),e<(0:Nat)+xs.length-(0:Nat)->∀(p:Prop),p∈[]++[]++([]++[]++[∀(e_1:Nat),e_1<(xs.getD e ePa.dflt).ss.length->eS.Ok (eS.els (xs.getD e ePa.dflt).ss e_1)])->p) (Tr.ret (List.map (λx=>ePa.get []) (List.range (min ((0:Nat)+xs.length) (0:Nat)))++ePa.lst ((0:Nat)+xs.length-(0:Nat)) (ePa.els xs)))))))):=by kernel_rfl
end Go.Proofs.YthnojkbkojpadaaGreat

namespace Go.Proofs.YthnojkbkojpadaaGreat
noncomputable section
open Go.RowKit Go.Sx Go.Lp
theorem zwz(h:105<Tryz.prog.types.size):(Tryz.prog.types[(105:Nat)]'h).bytes=56:=by kernel_rfl
theorem zyv:qie Tryz.prog 87 105 ePa aLPo (λl=>l) (λl=>[l.length<=K30]):=
 q5d (PTab.okz (PTab.nil:PTab Tryz.prog) [] []) q0f 100 λl _ hp=>by
  have h:l.length<=K30:=hp _ (List.mem_cons_self ..);unfold K30 at h;rw[clp];intro cs hcs;refine⟨λhc=>?_,λ_=>?_⟩
  .have hx:l=[]:=List.length_eq_zero_iff.1 (hcs (by cases hh:cs.isEmpty with
    |true=>rw[hh]at hc;cases hc
    |false=>rfl))
   exact hx.symm
  .refine⟨⟨Nat.le_refl _,λe _=>rfl,by unfold maxLen;omega,by rw[zwz];omega⟩,rfl,λe he=>absurd he (by omega),λe _ p hp=>?_,?_⟩
   .simp only[List.append_nil,List.nil_append,List.mem_singleton]at hp;rw[hp];exactλe' _=>El.ok_els _ _ _
   .show _++_=l;simp[El.lst_els]
def qnl:MTab Tryz.prog:=zxo.consM 87 (qt3 105 ePa aLPo (λl=>l) (λl=>[l.length<=K30])) (qhe zyv)
open Go.RowKit Go.Sx
def cLd2:CT LdK:=.iso (.pair (.kb true) (.pair (.row 105 ePa) (.pair (.fzm true false eP eI) (.map true false eKy eI)))) (λg=>g.2) (λk=>((),k)) (λ_=>rfl)
abbrev q7z:Type:=Int×Int×Unit×LdK
def ze3:LP 3 q7z:=.pair (.slot 3 24 dI) (.pair (.slot 3 25 dI) (.pair (.fix 3 0 (.p 0 0)) (.ctO 3 0 89 cLd2)))
def qvu(n:Int)(i:Int)(_u:Unit)(k:LdK):Ex×q7z:=
 bif decide (i<n)then(Ex.normal,n,IntKind.i64.wrap (i+(1:Int)),(),(ePa.ag k.fst).set i.toNat (Path.mk (k.fst.getD i.toNat ePa.dflt).fr (k.fst.getD i.toNat ePa.dflt).to (eS.ag (eS.ag (k.fst.getD i.toNat ePa.dflt).ss))),(eP.pair eI).ag k.snd.fst,(eKy.ent eI).ag k.snd.snd.fst,k.snd.snd.snd)
 else(Ex.exit (0:Nat),n,i,(),ePa.ag k.fst,(eP.pair eI).ag k.snd.fst,(eKy.ent eI).ag k.snd.snd.fst,k.snd.snd.snd)
def ql6(n:Int)(i:Int)(_u:Unit)(k:LdK):Prop:=
 (decide (i<n)=true->((0:Int)<=i/\i<(↑k.fst.length:Int))/\i.toNat<k.fst.length/\eS.okL (k.fst.getD i.toNat ePa.dflt).ss/\(eS.ag (k.fst.getD i.toNat ePa.dflt).ss).length<=K30/\((0:Int)<=i/\i<(↑k.fst.length:Int))/\i.toNat<k.fst.length/\k.fst.length<=k.fst.length/\(∀(p:Prop),p∈[]++[]++([]++[]++[eS.okL (eS.ag (k.fst.getD i.toNat ePa.dflt).ss)])->p)/\(∀(e:Nat),e<k.fst.length->∀(p:Prop),p∈[]++[]++([]++[]++[eS.okL (k.fst.getD e ePa.dflt).ss])->p)/\(eP.pair eI).okL k.snd.fst/\∀(e:Nat),e<k.snd.snd.fst.length->True)/\(decide (i<n)=false->k.fst.length<=k.fst.length/\(∀(e:Nat),e<k.fst.length->∀(p:Prop),p∈[]++[]++([]++[]++[eS.okL (k.fst.getD e ePa.dflt).ss])->p)/\(eP.pair eI).okL k.snd.fst/\∀(e:Nat),e<k.snd.snd.fst.length->True)
theorem zii:((q03 Tryz.prog 44).filter λc=>Nat.beq (lkey c) 8).length=1:=by kernel_rfl
abbrev qif(g:q7z):Ex×q7z:=qvu g.1 g.2.1 g.2.2.1 g.2.2.2
abbrev ze1(g:q7z):Prop:=ql6 g.1 g.2.1 g.2.2.1 g.2.2.2
theorem zqu(g:q7z):(qif g).1=.normal\/(qif g).1∈([.exit 0]:List Ex):=by
 unfold qif qvu
 repeat' (first|(left;rfl)|(right;simp only[cond_true,cond_false];simp;done)|(rw[Bool.cond_eq_ite];split))
abbrev zik(Inv:q7z->List Prop)(m:q7z->Nat):LCon:=q2q [.exit 0] (loopBody Tryz.prog 44 8) ze3 [] 53 Inv qif m
theorem z7g(Inv:q7z->List Prop)(m:q7z->Nat)(hs:∀g,allP (Inv g)->ze1 g)(hg:Goes qif m λg=>allP (Inv g)):∀b∈q03 Tryz.prog 44,lkey b=8->q06 Tryz.prog b (zik Inv m).g:=q0s (Γ:=(MTab.gamz qnl [] [])) (Λ:=qp4) (MTab.okz qnl [] []) q74 100 44 8 53 ze3 [] Inv qif ze1 m default [.exit 0] zii (λrd T B HL HB ds g=>by kernel_rfl) (λrd T B HL HB ds g=>by kernel_rfl) hs hg zqu
abbrev q80:Type:=List Path×Int×List (Place×Int)×(List MK×Nat)
def qtb(g:q7z):Int×q80×Unit:=(g.2.1,(g.2.2.2.1,g.1,g.2.2.2.2),())
def qyq(d:Int×q80×Unit):q7z:=(d.2.1.2.1,d.1,(),d.2.1.1,d.2.1.2.2)
def qyr(_:q80)(b:Unit)(_:Int)(_:Path):Ex×Unit:=(.normal,b)
def z7h(c:q80)(_:Unit)(_:Int):Prop:=∀v∈c.1,v.ss.length<=K30
abbrev zij(g:q7z):List Prop:=ixI (λc:q80=>c.2.1) (λc=>c.1) z7h (qtb g)
abbrev qvv(g:q7z):Nat:=ixM (λc:q80=>c.2.1) (qtb g)
theorem zqv:ixP qyr (λc:q80=>c.1) z7h:=λ_ _ _ _ h _ _=>h
abbrev qys(g:q7z):Ex×q7z:=qvu g.1 g.2.1 g.2.2.1 g.2.2.2
theorem set_self{α:Type}(l:List α)(i:Nat)(d:α):l.set i (l.getD i d)=l:=by
 by_cases h:i<l.length
 .rw[List.getD_eq_getElem?_getD,List.getElem?_eq_getElem h];exact List.set_getElem_self h
 .exact List.set_eq_of_length_le (by omega)
theorem ze2(d:Int×q80×Unit)(_:allP (ixI (λc:q80=>c.2.1) (λc=>c.1) z7h d)):qys (qyq d)=((ixF 0 (λc:q80=>c.2.1) (λc=>c.1) ePa.dflt qyr d).1,qyq (ixF 0 (λc:q80=>c.2.1) (λc=>c.1) ePa.dflt qyr d).2):=by
 obtain⟨i,⟨xs,n,m⟩,⟨⟩⟩:=d;show qvu n i () (xs,m)=_;unfold qvu ixF qyr;simp only[El.ag_eq,q7a];rw[show Path.mk (xs.getD i.toNat ePa.dflt).fr (xs.getD i.toNat ePa.dflt).to (xs.getD i.toNat ePa.dflt).ss=xs.getD i.toNat ePa.dflt from rfl,set_self];cases decide (i<n)<;>rfl
theorem zqs:∀b∈q03 Tryz.prog 44,lkey b=8->q06 Tryz.prog b (zik zij qvv).g:=by
 refine z7g zij qvv (λg hi=>?_) (q0e (λ_=>rfl) (λ_=>rfl) ze2 zqv);obtain⟨n,i,⟨⟩,xs,m⟩:=g;obtain⟨h1,h2,h3,h4,h5⟩:=hi _ (List.mem_cons_self ..);have h1:n=(xs.length:Int):=h1;have h3:0<=i:=h3;have h5:∀v∈xs,v.ss.length<=K30:=h5
 have hp:∀(l:List S)(p:Prop),p∈[]++[]++([]++[]++[eS.okL l])->p:=λl p hp=>by
  simp only[List.append_nil,List.nil_append,List.mem_singleton]at hp;rw[hp,El.okL_eq];trivial
 show ql6 n i () (xs,m);unfold ql6;refine⟨λhlt=>?_,λ_=>⟨Nat.le_refl _,λe _=>hp _,by rw[El.okL_eq];trivial,λ_ _=>trivial⟩⟩;have hr:=rngP i n _ h1 h3 hlt;have hl:i.toNat<xs.length:=by omega
 refine⟨hr,hl,by rw[El.okL_eq];trivial,?_,hr,hl,Nat.le_refl _,hp _,λe _=>hp _,by rw[El.okL_eq];trivial,λ_ _=>trivial⟩;rw[El.ag_eq];show(xs.getD i.toNat ePa.dflt).ss.length<=K30;rw[List.getD_eq_getElem?_getD,List.getElem?_eq_getElem hl];exact h5 _ (List.getElem_mem hl)
theorem zih(xs:List Path)(m:List (Place×Int)×(List MK×Nat))(h:xs.length<=maxLen)(hs:∀v∈xs,v.ss.length<=K30):q07 qys qvv ((xs.length:Int),0,(),xs,m)=(.exit 0,(xs.length:Int),(xs.length:Int),(),xs,m):=by
 have e:q07 qys qvv ((xs.length:Int),0,(),xs,m)=_:=q0h (φ:=qtb) (ψ:=qyq) (λ_=>rfl) (λ_=>rfl) ze2 zqv (xs,(xs.length:Int),m) () rfl h hs;have hs:=scan_fold (x:=0) (st:=qyr (xs,(xs.length:Int),m)) (f:=λ(b:Unit)_=>b) (λ_ _ _=>rfl) xs 0 ();rw[e,hs];show(Ex.exit 0,(xs.length:Int),0+(xs.length:Int),(),xs,m)=_;rw[Int.zero_add]
def zt8:LTab Tryz.prog:=ltO2.cons 44 8 (zik zij qvv) zqs
abbrev zfy:Lam:=zt8.lam
theorem z2c:∀f k L,zfy f k=some L->∀b∈q03 Tryz.prog f,lkey b=k->q06 Tryz.prog b L.g:=zt8.ok
def q4h(k:LdK)(l:List Path):Ex×
 q7z:=
 q07 (λg=>qvu g.fst g.snd.fst g.snd.snd.fst g.snd.snd.snd) qvv ((↑(ePa.ag l).length:Int),(0:Int),(),ePa.ag (ePa.ag l),(eP.pair eI).ag k.snd.fst,(eKy.ent eI).ag k.snd.snd.fst,k.snd.snd.snd)
def zif(k:LdK)(l:List Path):TA.T taL×TR.T (TR.pure dI):=
 bif chkP (ePa.ag l)!=(0:Int)then((ePa.ag k.fst,(eP.pair eI).ag k.snd.fst,(eKy.ent eI).ag k.snd.snd.fst,k.snd.snd.snd),chkP (ePa.ag l))
 else((ePa.ag (q4h k l).snd.snd.snd.snd.fst,List.map d3e ((eP.ent eI).ag (qpx (ePa.ag (q4h k l).snd.snd.snd.snd.fst)).fst),(eKy.ent eI).ag (q4h k l).snd.snd.snd.snd.snd.snd.fst,(q4h k l).snd.snd.snd.snd.snd.snd.snd),(0:Int))
def qer(k:LdK)(l:List Path):Prop:=
 ePa.okL l/\((chkP (ePa.ag l)!=(0:Int))=true->ePa.okL k.fst/\(eP.pair eI).okL k.snd.fst/\∀(e:Nat),e<k.snd.snd.fst.length->True)/\((chkP (ePa.ag l)!=(0:Int))=false->ePa.okL l/\(ePa.ag l).length<=K30/\(ePa.ag l).length<=(ePa.ag l).length/\(∀(e:Nat),e<(ePa.ag l).length->∀(p:Prop),p∈[]++[]++([]++[]++[eS.okL ((ePa.ag l).getD e ePa.dflt).ss])->p)/\(eP.pair eI).okL k.snd.fst/\(∀(e:Nat),e<k.snd.snd.fst.length->True)/\Lp.ixJ (λc=>c.snd.fst) (λc=>c.fst) z7h (qtb ((↑(ePa.ag l).length:Int),(0:Int),(),ePa.ag (ePa.ag l),(eP.pair eI).ag k.snd.fst,(eKy.ent eI).ag k.snd.snd.fst,k.snd.snd.snd))/\(q4h k l).snd.snd.snd.snd.fst.length<=(q4h k l).snd.snd.snd.snd.fst.length/\(∀(e:Nat),e<(q4h k l).snd.snd.snd.snd.fst.length->ePa.Ok ((ElE.fn (ePa.els (q4h k l).snd.snd.snd.snd.fst)).at e))/\(ePa.ag (q4h k l).snd.snd.snd.snd.fst).length<=K30/\(q4h k l).snd.snd.snd.snd.fst.length<=(q4h k l).snd.snd.snd.snd.fst.length/\(∀(e:Nat),e<(q4h k l).snd.snd.snd.snd.fst.length->∀(p:Prop),p∈[]++[]++([]++[]++[eS.okL ((q4h k l).snd.snd.snd.snd.fst.getD e ePa.dflt).ss])->p)/\(∀(e:Nat),e<(qpx (ePa.ag (q4h k l).snd.snd.snd.snd.fst)).fst.length->True)/\∀(e:Nat),e<(q4h k l).snd.snd.snd.snd.snd.snd.fst.length->True)
theorem zie(pre:TA.T taL->DA.T aLPo->List Prop)(h:∀k g,DA.bd aLPo g->(∀p∈pre k g,p)->qer k g):FnT Tryz.prog 44 taL aLPo (TR.pure dI) (λk g=>zif k g) pre:=q9c (Γ:=(MTab.gamz qnl [] [])) (Λ:=zfy) (MTab.okz qnl [] []) z2c 100 default (λk g=>qer k g) (λk g=>by kernel_rfl) (λk g=>by kernel_rfl) h
def turK(k:LdK)(l:List Path):LdK×Int:=bif chkP l !=(0:Int)then(k,chkP l)else((l,(qpx l).1.map d3e,k.2.2),0)
theorem z6f{l:List Path}(hl:l.length<=maxLen)(h:chkP l=0):∀v∈l,v.ss.length<=K30:=λv hv=>by
 obtain⟨e,he,rfl⟩:=List.getElem_of_mem hv;have:=zpu hl h e;rw[List.getD_eq_getElem?_getD,List.getElem?_eq_getElem he]at this;unfold K30;exact Nat.le_trans this (by omega)
theorem zsq(p:Prop)(hp:p∈[]++[]++([]++[]++[True])):p:=by
 simp only[List.append_nil,List.nil_append,List.mem_singleton]at hp;rw[hp];trivial
theorem zqr{k:LdK}{l:List Path}(hl:l.length<=K30)(h:chkP l=0):q4h k l=(.exit 0,(l.length:Int),(l.length:Int),(),l,k.2):=by
 unfold q4h;simp only[El.ag_eq];exact zih l k.2 (k30 hl) (z6f (k30 hl) h)
theorem zxh:FnT Tryz.prog 44 taL aLPo (TR.pure dI) turK (λ_ l=>[l.length<=K30]):=by
 refine qhs (zie (λ_ l=>[l.length<=K30]) λk l hb hp=>?_) (λ_ _ h=>h) λk l hb hp=>?_
 .have hl:l.length<=K30:=hp _ (List.mem_cons_self ..);show qer k l;unfold qer;simp only[El.okL_eq,El.ag_eq];refine⟨trivial,λ_=>⟨trivial,trivial,λ_ _=>trivial⟩,λh=>?_⟩;have h:chkP l=0:=by simpa using h
  rw[zqr hl h];refine⟨trivial,hl,Nat.le_refl _,λe _ p hp=>zsq p hp,trivial,λ_ _=>trivial,ixJ0 rfl (k30 hl) (z6f (k30 hl) h),Nat.le_refl _,λe _=>El.ok_els _ _ _,hl,Nat.le_refl _,λe _ p hp=>zsq p hp,λ_ _=>trivial,λ_ _=>trivial⟩
 .have hl:l.length<=K30:=hp _ (List.mem_cons_self ..);show zif k l=turK k l;unfold zif turK;simp only[El.ag_eq];cases h:chkP l !=(0:Int)with
  |true=>rfl
  |false=>
   have h:chkP l=0:=by simpa using h
   rw[zqr hl h]
   try rfl
def q9z:MTab Tryz.prog:=qnl.consM 44 (qy8 taL aLPo (TR.pure dI) turK (λ_ l=>[l.length<=K30])) (qcp zxh)
abbrev dLK:LdK:=([],[],[],0)
abbrev trN:TR (Option LdK×Int):=TR.tup (CT.pair (CT.opt (CT.ptr 89 cLd) dLK rfl) (CT.pl eI))
def q7f(_k:Unit)(l:List Path):LdK×
 Int:=
 turK ([],[],List.map (λx=>((Place.mk (0:Int) (0:Int),T.mk (0:Int) (0:Int) (0:Int) (0:Int) (0:Int) (0:Int)),(0:Int),(0:Int))) (List.range (0:Nat)),(0:Nat)) (ePa.ag l)
def zli(_k:Unit)(l:List Path):TA.T TA.nil×TR.T trN:=
 bif (q7f _k l).snd !=(0:Int)then((),none,(q7f _k l).snd)
 else((),some (ePa.ag (q7f _k l).fst.fst,(eP.pair eI).ag (q7f _k l).fst.snd.fst,(eKy.ent eI).ag (q7f _k l).fst.snd.snd.fst,(q7f _k l).fst.snd.snd.snd),(0:Int))
def qf2(_k:Unit)(l:List Path):Prop:=
 (∀(e:Nat),e<(0:Nat)->True)/\ePa.okL l/\(ePa.ag l).length<=K30/\(((q7f _k l).snd !=(0:Int))=false->ePa.okL (q7f _k l).fst.fst/\(eP.pair eI).okL (q7f _k l).fst.snd.fst/\∀(e:Nat),e<(q7f _k l).fst.snd.snd.fst.length->True)
theorem zlh(pre:TA.T TA.nil->DA.T aLPo->List Prop)(h:∀k g,DA.bd aLPo g->(∀p∈pre k g,p)->qf2 k g):FnT Tryz.prog 34 TA.nil aLPo trN (λk g=>zli k g) pre:=q9c (Γ:=(MTab.gamz q9z [] [])) (Λ:=qp4) (MTab.okz q9z [] []) q74 100 default (λk g=>qf2 k g) (λk g=>by kernel_rfl) (λk g=>by kernel_rfl) h
def q02(xs:List q00)(n:Int)(i:Int)(_u:Unit)(k:LdK):Nat:=
 q2h (λe=>(xs.getD i.toNat eC.dflt).p.node==(k.snd.snd.fst.getD e (eKy.ent eI).dflt).fst.fst.node&&((xs.getD i.toNat eC.dflt).p.port==(k.snd.snd.fst.getD e (eKy.ent eI).dflt).fst.fst.port&&((xs.getD i.toNat eC.dflt).t.e==(k.snd.snd.fst.getD e (eKy.ent eI).dflt).fst.snd.e&&((xs.getD i.toNat eC.dflt).t.d==(k.snd.snd.fst.getD e (eKy.ent eI).dflt).fst.snd.d&&((xs.getD i.toNat eC.dflt).t.l0==(k.snd.snd.fst.getD e (eKy.ent eI).dflt).fst.snd.l0&&((xs.getD i.toNat eC.dflt).t.l1==(k.snd.snd.fst.getD e (eKy.ent eI).dflt).fst.snd.l1&&((xs.getD i.toNat eC.dflt).t.l2==(k.snd.snd.fst.getD e (eKy.ent eI).dflt).fst.snd.l2&&(xs.getD i.toNat eC.dflt).t.l3==(k.snd.snd.fst.getD e (eKy.ent eI).dflt).fst.snd.l3))))))) k.snd.snd.fst.length (0:Nat)
def q0c(xs:List q00)(n:Int)(i:Int)(_u:Unit)(k:LdK):Nat:=
 q2h (λe=>((xs.getD i.toNat eC.dflt).p.node==bif decide (e=(q02 xs n i _u k))then(xs.getD i.toNat eC.dflt).p.node else(k.snd.snd.fst.getD e (eKy.ent eI).dflt).fst.fst.node)&&(((xs.getD i.toNat eC.dflt).p.port==bif decide (e=(q02 xs n i _u k))then(xs.getD i.toNat eC.dflt).p.port else(k.snd.snd.fst.getD e (eKy.ent eI).dflt).fst.fst.port)&&(((xs.getD i.toNat eC.dflt).t.e==bif decide (e=(q02 xs n i _u k))then(xs.getD i.toNat eC.dflt).t.e else(k.snd.snd.fst.getD e (eKy.ent eI).dflt).fst.snd.e)&&(((xs.getD i.toNat eC.dflt).t.d==bif decide (e=(q02 xs n i _u k))then(xs.getD i.toNat eC.dflt).t.d else(k.snd.snd.fst.getD e (eKy.ent eI).dflt).fst.snd.d)&&(((xs.getD i.toNat eC.dflt).t.l0==bif decide (e=(q02 xs n i _u k))then(xs.getD i.toNat eC.dflt).t.l0 else(k.snd.snd.fst.getD e (eKy.ent eI).dflt).fst.snd.l0)&&(((xs.getD i.toNat eC.dflt).t.l1==bif decide (e=(q02 xs n i _u k))then(xs.getD i.toNat eC.dflt).t.l1 else(k.snd.snd.fst.getD e (eKy.ent eI).dflt).fst.snd.l1)&&(((xs.getD i.toNat eC.dflt).t.l2==bif decide (e=(q02 xs n i _u k))then(xs.getD i.toNat eC.dflt).t.l2 else(k.snd.snd.fst.getD e (eKy.ent eI).dflt).fst.snd.l2)&&(xs.getD i.toNat eC.dflt).t.l3==bif decide (e=(q02 xs n i _u k))then(xs.getD i.toNat eC.dflt).t.l3 else(k.snd.snd.fst.getD e (eKy.ent eI).dflt).fst.snd.l3))))))) (bif decide ((q02 xs n i _u k)<k.snd.snd.fst.length)then k.snd.snd.fst.length else k.snd.snd.fst.length+(1:Nat)) (0:Nat)
abbrev q82:Type:=List q00×Int×Int×Unit×LdK
def ze8:LP 3 q82:=.pair (.slot 3 66 dLC) (.pair (.slot 3 67 dI) (.pair (.slot 3 68 dI) (.pair (.fix 3 0 (.p 0 0)) (.ctO 3 0 89 cLd))))
def qvw(xs:List q00)(n:Int)(i:Int)(_u:Unit)(k:LdK):Ex×q82:=
 bif decide (i<n)then bif (bif decide ((q0c xs n i _u k)<bif decide ((q02 xs n i _u k)<k.snd.snd.fst.length)then k.snd.snd.fst.length else k.snd.snd.fst.length+(1:Nat))then bif decide ((q0c xs n i _u k)=(q02 xs n i _u k))then IntKind.i64.wrap ((bif decide ((q02 xs n i _u k)<k.snd.snd.fst.length)then(k.snd.snd.fst.getD (q02 xs n i _u k) (eKy.ent eI).dflt).snd.fst else(0:Int))+(xs.getD i.toNat eC.dflt).n)else(k.snd.snd.fst.getD (q0c xs n i _u k) (eKy.ent eI).dflt).snd.fst else(0:Int))==(0:Int)then(Ex.normal,eC.ag xs,n,IntKind.i64.wrap (i+(1:Int)),(),ePa.ag k.fst,(eP.pair eI).ag k.snd.fst,((eKy.ent eI).lst (min (bif decide ((q0c xs n i _u k)<bif decide ((q02 xs n i _u k)<k.snd.snd.fst.length)then k.snd.snd.fst.length else k.snd.snd.fst.length+(1:Nat))then(bif decide ((q02 xs n i _u k)<k.snd.snd.fst.length)then k.snd.snd.fst.length else k.snd.snd.fst.length+(1:Nat))-(1:Nat)else bif decide ((q02 xs n i _u k)<k.snd.snd.fst.length)then k.snd.snd.fst.length else k.snd.snd.fst.length+(1:Nat)) (q0c xs n i _u k)) ((eKy.ent eI).els k.snd.snd.fst)).set (q02 xs n i _u k) (((xs.getD i.toNat eC.dflt).p,(xs.getD i.toNat eC.dflt).t),IntKind.i64.wrap ((bif decide ((q02 xs n i _u k)<k.snd.snd.fst.length)then(k.snd.snd.fst.getD (q02 xs n i _u k) (eKy.ent eI).dflt).snd.fst else(0:Int))+(xs.getD i.toNat eC.dflt).n),bif decide ((q02 xs n i _u k)<k.snd.snd.fst.length)then(k.snd.snd.fst.getD (q02 xs n i _u k) (eKy.ent eI).dflt).snd.snd else(↑k.snd.snd.snd:Int))++List.drop ((q0c xs n i _u k)+(1:Nat)) (((eKy.ent eI).lst ((q0c xs n i _u k)+(1:Nat)+((bif decide ((q0c xs n i _u k)<bif decide ((q02 xs n i _u k)<k.snd.snd.fst.length)then k.snd.snd.fst.length else k.snd.snd.fst.length+(1:Nat))then(bif decide ((q02 xs n i _u k)<k.snd.snd.fst.length)then k.snd.snd.fst.length else k.snd.snd.fst.length+(1:Nat))-(1:Nat)else bif decide ((q02 xs n i _u k)<k.snd.snd.fst.length)then k.snd.snd.fst.length else k.snd.snd.fst.length+(1:Nat))-(q0c xs n i _u k))) ((eKy.ent eI).els k.snd.snd.fst)).set (q02 xs n i _u k) (((xs.getD i.toNat eC.dflt).p,(xs.getD i.toNat eC.dflt).t),IntKind.i64.wrap ((bif decide ((q02 xs n i _u k)<k.snd.snd.fst.length)then(k.snd.snd.fst.getD (q02 xs n i _u k) (eKy.ent eI).dflt).snd.fst else(0:Int))+(xs.getD i.toNat eC.dflt).n),bif decide ((q02 xs n i _u k)<k.snd.snd.fst.length)then(k.snd.snd.fst.getD (q02 xs n i _u k) (eKy.ent eI).dflt).snd.snd else(↑k.snd.snd.snd:Int))),bif decide ((q02 xs n i _u k)<k.snd.snd.fst.length)then k.snd.snd.snd else k.snd.snd.snd+(1:Nat))else(Ex.normal,eC.ag xs,n,IntKind.i64.wrap (i+(1:Int)),(),ePa.ag k.fst,(eP.pair eI).ag k.snd.fst,((eKy.ent eI).lst (bif decide ((q02 xs n i _u k)<k.snd.snd.fst.length)then k.snd.snd.fst.length else k.snd.snd.fst.length+(1:Nat)) ((eKy.ent eI).els k.snd.snd.fst)).set (q02 xs n i _u k) (((xs.getD i.toNat eC.dflt).p,(xs.getD i.toNat eC.dflt).t),IntKind.i64.wrap ((bif decide ((q02 xs n i _u k)<k.snd.snd.fst.length)then(k.snd.snd.fst.getD (q02 xs n i _u k) (eKy.ent eI).dflt).snd.fst else(0:Int))+(xs.getD i.toNat eC.dflt).n),bif decide ((q02 xs n i _u k)<k.snd.snd.fst.length)then(k.snd.snd.fst.getD (q02 xs n i _u k) (eKy.ent eI).dflt).snd.snd else(↑k.snd.snd.snd:Int)),bif decide ((q02 xs n i _u k)<k.snd.snd.fst.length)then k.snd.snd.snd else k.snd.snd.snd+(1:Nat))
 else(Ex.exit (2:Nat),eC.ag xs,n,i,(),ePa.ag k.fst,(eP.pair eI).ag k.snd.fst,(eKy.ent eI).ag k.snd.snd.fst,k.snd.snd.snd)
def ql7(xs:List q00)(n:Int)(i:Int)(_u:Unit)(k:LdK):Prop:=
 (decide (i<n)=true->((0:Int)<=i/\i<(↑xs.length:Int))/\∀(cs:List Nat),(cs.isEmpty=true->(∀(e:Nat),e<k.snd.snd.fst.length->(10:Nat)=(10:Nat))/\(∀(e:Nat),e<k.snd.snd.fst.length->True)/\(∀(e:Nat),e<k.snd.snd.fst.length->(10:Nat)=(10:Nat))/\(∀(e:Nat),e<k.snd.snd.fst.length->True)/\((bif decide ((q02 xs n i _u k)<k.snd.snd.fst.length)then(k.snd.snd.fst.getD (q02 xs n i _u k) (eKy.ent eI).dflt).snd.snd else(↑k.snd.snd.snd:Int))=bif decide ((q02 xs n i _u k)<k.snd.snd.fst.length)then(k.snd.snd.fst.getD (q02 xs n i _u k) (eKy.ent eI).dflt).snd.snd else(↑k.snd.snd.snd:Int))/\(∀(e:Nat),(e<bif decide ((q02 xs n i _u k)<k.snd.snd.fst.length)then k.snd.snd.fst.length else k.snd.snd.fst.length+(1:Nat))->(10:Nat)=(10:Nat))/\(∀(e:Nat),(e<bif decide ((q02 xs n i _u k)<k.snd.snd.fst.length)then k.snd.snd.fst.length else k.snd.snd.fst.length+(1:Nat))->True)/\(((bif decide ((q0c xs n i _u k)<bif decide ((q02 xs n i _u k)<k.snd.snd.fst.length)then k.snd.snd.fst.length else k.snd.snd.fst.length+(1:Nat))then bif decide ((q0c xs n i _u k)=(q02 xs n i _u k))then IntKind.i64.wrap ((bif decide ((q02 xs n i _u k)<k.snd.snd.fst.length)then(k.snd.snd.fst.getD (q02 xs n i _u k) (eKy.ent eI).dflt).snd.fst else(0:Int))+(xs.getD i.toNat eC.dflt).n)else(k.snd.snd.fst.getD (q0c xs n i _u k) (eKy.ent eI).dflt).snd.fst else(0:Int))==(0:Int))=true->(∀(e:Nat),(e<bif decide ((q02 xs n i _u k)<k.snd.snd.fst.length)then k.snd.snd.fst.length else k.snd.snd.fst.length+(1:Nat))->(10:Nat)=(10:Nat))/\(∀(e:Nat),(e<bif decide ((q02 xs n i _u k)<k.snd.snd.fst.length)then k.snd.snd.fst.length else k.snd.snd.fst.length+(1:Nat))->True)/\eC.okL xs/\ePa.okL k.fst/\(eP.pair eI).okL k.snd.fst/\True/\(∀(e:Nat),e<min (bif decide ((q0c xs n i _u k)<bif decide ((q02 xs n i _u k)<k.snd.snd.fst.length)then k.snd.snd.fst.length else k.snd.snd.fst.length+(1:Nat))then(bif decide ((q02 xs n i _u k)<k.snd.snd.fst.length)then k.snd.snd.fst.length else k.snd.snd.fst.length+(1:Nat))-(1:Nat)else bif decide ((q02 xs n i _u k)<k.snd.snd.fst.length)then k.snd.snd.fst.length else k.snd.snd.fst.length+(1:Nat)) (q0c xs n i _u k)->True)/\True/\(∀(e:Nat),e<(q0c xs n i _u k)+(1:Nat)+((bif decide ((q0c xs n i _u k)<bif decide ((q02 xs n i _u k)<k.snd.snd.fst.length)then k.snd.snd.fst.length else k.snd.snd.fst.length+(1:Nat))then(bif decide ((q02 xs n i _u k)<k.snd.snd.fst.length)then k.snd.snd.fst.length else k.snd.snd.fst.length+(1:Nat))-(1:Nat)else bif decide ((q02 xs n i _u k)<k.snd.snd.fst.length)then k.snd.snd.fst.length else k.snd.snd.fst.length+(1:Nat))-(q0c xs n i _u k))->True)/\∀(d:Ex×List q00×Int×Int×Unit×LdK),(Ex.normal,eC.ag xs,n,IntKind.i64.wrap (i+(1:Int)),(),ePa.ag k.fst,(eP.pair eI).ag k.snd.fst,((eKy.ent eI).lst (min (bif decide ((q0c xs n i _u k)<bif decide ((q02 xs n i _u k)<k.snd.snd.fst.length)then k.snd.snd.fst.length else k.snd.snd.fst.length+(1:Nat))then(bif decide ((q02 xs n i _u k)<k.snd.snd.fst.length)then k.snd.snd.fst.length else k.snd.snd.fst.length+(1:Nat))-(1:Nat)else bif decide ((q02 xs n i _u k)<k.snd.snd.fst.length)then k.snd.snd.fst.length else k.snd.snd.fst.length+(1:Nat)) (q0c xs n i _u k)) ((eKy.ent eI).els k.snd.snd.fst)).set (q02 xs n i _u k) (((xs.getD i.toNat eC.dflt).p,(xs.getD i.toNat eC.dflt).t),IntKind.i64.wrap ((bif decide ((q02 xs n i _u k)<k.snd.snd.fst.length)then(k.snd.snd.fst.getD (q02 xs n i _u k) (eKy.ent eI).dflt).snd.fst else(0:Int))+(xs.getD i.toNat eC.dflt).n),bif decide ((q02 xs n i _u k)<k.snd.snd.fst.length)then(k.snd.snd.fst.getD (q02 xs n i _u k) (eKy.ent eI).dflt).snd.snd else(↑k.snd.snd.snd:Int))++List.drop ((q0c xs n i _u k)+(1:Nat)) (((eKy.ent eI).lst ((q0c xs n i _u k)+(1:Nat)+((bif decide ((q0c xs n i _u k)<bif decide ((q02 xs n i _u k)<k.snd.snd.fst.length)then k.snd.snd.fst.length else k.snd.snd.fst.length+(1:Nat))then(bif decide ((q02 xs n i _u k)<k.snd.snd.fst.length)then k.snd.snd.fst.length else k.snd.snd.fst.length+(1:Nat))-(1:Nat)else bif decide ((q02 xs n i _u k)<k.snd.snd.fst.length)then k.snd.snd.fst.length else k.snd.snd.fst.length+(1:Nat))-(q0c xs n i _u k))) ((eKy.ent eI).els k.snd.snd.fst)).set (q02 xs n i _u k) (((xs.getD i.toNat eC.dflt).p,(xs.getD i.toNat eC.dflt).t),IntKind.i64.wrap ((bif decide ((q02 xs n i _u k)<k.snd.snd.fst.length)then(k.snd.snd.fst.getD (q02 xs n i _u k) (eKy.ent eI).dflt).snd.fst else(0:Int))+(xs.getD i.toNat eC.dflt).n),bif decide ((q02 xs n i _u k)<k.snd.snd.fst.length)then(k.snd.snd.fst.getD (q02 xs n i _u k) (eKy.ent eI).dflt).snd.snd else(↑k.snd.snd.snd:Int))),bif decide ((q02 xs n i _u k)<k.snd.snd.fst.length)then k.snd.snd.snd else k.snd.snd.snd+(1:Nat))=bif (bif decide ((q0c xs n i _u k)<bif decide ((q02 xs n i _u k)<k.snd.snd.fst.length)then k.snd.snd.fst.length else k.snd.snd.fst.length+(1:Nat))then bif decide ((q0c xs n i _u k)=(q02 xs n i _u k))then IntKind.i64.wrap ((bif decide ((q02 xs n i _u k)<k.snd.snd.fst.length)then(k.snd.snd.fst.getD (q02 xs n i _u k) (eKy.ent eI).dflt).snd.fst else(0:Int))+(xs.getD i.toNat eC.dflt).n)else(k.snd.snd.fst.getD (q0c xs n i _u k) (eKy.ent eI).dflt).snd.fst else(0:Int))==(0:Int)then(Ex.normal,eC.ag xs,n,IntKind.i64.wrap (i+(1:Int)),(),ePa.ag k.fst,(eP.pair eI).ag k.snd.fst,((eKy.ent eI).lst (min (bif decide ((q0c xs n i _u k)<bif decide ((q02 xs n i _u k)<k.snd.snd.fst.length)then k.snd.snd.fst.length else k.snd.snd.fst.length+(1:Nat))then(bif decide ((q02 xs n i _u k)<k.snd.snd.fst.length)then k.snd.snd.fst.length else k.snd.snd.fst.length+(1:Nat))-(1:Nat)else bif decide ((q02 xs n i _u k)<k.snd.snd.fst.length)then k.snd.snd.fst.length else k.snd.snd.fst.length+(1:Nat)) (q0c xs n i _u k)) ((eKy.ent eI).els k.snd.snd.fst)).set (q02 xs n i _u k) (((xs.getD i.toNat eC.dflt).p,(xs.getD i.toNat eC.dflt).t),IntKind.i64.wrap ((bif decide ((q02 xs n i _u k)<k.snd.snd.fst.length)then(k.snd.snd.fst.getD (q02 xs n i _u k) (eKy.ent eI).dflt).snd.fst else(0:Int))+(xs.getD i.toNat eC.dflt).n),bif decide ((q02 xs n i _u k)<k.snd.snd.fst.length)then(k.snd.snd.fst.getD (q02 xs n i _u k) (eKy.ent eI).dflt).snd.snd else(↑k.snd.snd.snd:Int))++List.drop ((q0c xs n i _u k)+(1:Nat)) (((eKy.ent eI).lst ((q0c xs n i _u k)+(1:Nat)+((bif decide ((q0c xs n i _u k)<bif decide ((q02 xs n i _u k)<k.snd.snd.fst.length)then k.snd.snd.fst.length else k.snd.snd.fst.length+(1:Nat))then(bif decide ((q02 xs n i _u k)<k.snd.snd.fst.length)then k.snd.snd.fst.length else k.snd.snd.fst.length+(1:Nat))-(1:Nat)else bif decide ((q02 xs n i _u k)<k.snd.snd.fst.length)then k.snd.snd.fst.length else k.snd.snd.fst.length+(1:Nat))-(q0c xs n i _u k))) ((eKy.ent eI).els k.snd.snd.fst)).set (q02 xs n i _u k) (((xs.getD i.toNat eC.dflt).p,(xs.getD i.toNat eC.dflt).t),IntKind.i64.wrap ((bif decide ((q02 xs n i _u k)<k.snd.snd.fst.length)then(k.snd.snd.fst.getD (q02 xs n i _u k) (eKy.ent eI).dflt).snd.fst else(0:Int))+(xs.getD i.toNat eC.dflt).n),bif decide ((q02 xs n i _u k)<k.snd.snd.fst.length)then(k.snd.snd.fst.getD (q02 xs n i _u k) (eKy.ent eI).dflt).snd.snd else(↑k.snd.snd.snd:Int))),bif decide ((q02 xs n i _u k)<k.snd.snd.fst.length)then k.snd.snd.snd else k.snd.snd.snd+(1:Nat))else(Ex.normal,eC.ag xs,n,IntKind.i64.wrap (i+(1:Int)),(),ePa.ag k.fst,(eP.pair eI).ag k.snd.fst,((eKy.ent eI).lst (bif decide ((q02 xs n i _u k)<k.snd.snd.fst.length)then k.snd.snd.fst.length else k.snd.snd.fst.length+(1:Nat)) ((eKy.ent eI).els k.snd.snd.fst)).set (q02 xs n i _u k) (((xs.getD i.toNat eC.dflt).p,(xs.getD i.toNat eC.dflt).t),IntKind.i64.wrap ((bif decide ((q02 xs n i _u k)<k.snd.snd.fst.length)then(k.snd.snd.fst.getD (q02 xs n i _u k) (eKy.ent eI).dflt).snd.fst else(0:Int))+(xs.getD i.toNat eC.dflt).n),bif decide ((q02 xs n i _u k)<k.snd.snd.fst.length)then(k.snd.snd.fst.getD (q02 xs n i _u k) (eKy.ent eI).dflt).snd.snd else(↑k.snd.snd.snd:Int)),bif decide ((q02 xs n i _u k)<k.snd.snd.fst.length)then k.snd.snd.snd else k.snd.snd.snd+(1:Nat)))/\(((bif decide ((q0c xs n i _u k)<bif decide ((q02 xs n i _u k)<k.snd.snd.fst.length)then k.snd.snd.fst.length else k.snd.snd.fst.length+(1:Nat))then bif decide ((q0c xs n i _u k)=(q02 xs n i _u k))then IntKind.i64.wrap ((bif decide ((q02 xs n i _u k)<k.snd.snd.fst.length)then(k.snd.snd.fst.getD (q02 xs n i _u k) (eKy.ent eI).dflt).snd.fst else(0:Int))+(xs.getD i.toNat eC.dflt).n)else(k.snd.snd.fst.getD (q0c xs n i _u k) (eKy.ent eI).dflt).snd.fst else(0:Int))==(0:Int))=false->eC.okL xs/\ePa.okL k.fst/\(eP.pair eI).okL k.snd.fst/\True/\(∀(e:Nat),(e<bif decide ((q02 xs n i _u k)<k.snd.snd.fst.length)then k.snd.snd.fst.length else k.snd.snd.fst.length+(1:Nat))->True)/\∀(d:Ex×List q00×Int×Int×Unit×LdK),(Ex.normal,eC.ag xs,n,IntKind.i64.wrap (i+(1:Int)),(),ePa.ag k.fst,(eP.pair eI).ag k.snd.fst,((eKy.ent eI).lst (bif decide ((q02 xs n i _u k)<k.snd.snd.fst.length)then k.snd.snd.fst.length else k.snd.snd.fst.length+(1:Nat)) ((eKy.ent eI).els k.snd.snd.fst)).set (q02 xs n i _u k) (((xs.getD i.toNat eC.dflt).p,(xs.getD i.toNat eC.dflt).t),IntKind.i64.wrap ((bif decide ((q02 xs n i _u k)<k.snd.snd.fst.length)then(k.snd.snd.fst.getD (q02 xs n i _u k) (eKy.ent eI).dflt).snd.fst else(0:Int))+(xs.getD i.toNat eC.dflt).n),bif decide ((q02 xs n i _u k)<k.snd.snd.fst.length)then(k.snd.snd.fst.getD (q02 xs n i _u k) (eKy.ent eI).dflt).snd.snd else(↑k.snd.snd.snd:Int)),bif decide ((q02 xs n i _u k)<k.snd.snd.fst.length)then k.snd.snd.snd else k.snd.snd.snd+(1:Nat))=bif (bif decide ((q0c xs n i _u k)<bif decide ((q02 xs n i _u k)<k.snd.snd.fst.length)then k.snd.snd.fst.length else k.snd.snd.fst.length+(1:Nat))then bif decide ((q0c xs n i _u k)=(q02 xs n i _u k))then IntKind.i64.wrap ((bif decide ((q02 xs n i _u k)<k.snd.snd.fst.length)then(k.snd.snd.fst.getD (q02 xs n i _u k) (eKy.ent eI).dflt).snd.fst else(0:Int))+(xs.getD i.toNat eC.dflt).n)else(k.snd.snd.fst.getD (q0c xs n i _u k) (eKy.ent eI).dflt).snd.fst else(0:Int))==(0:Int)then(Ex.normal,eC.ag xs,n,IntKind.i64.wrap (i+(1:Int)),(),ePa.ag k.fst,(eP.pair eI).ag k.snd.fst,((eKy.ent eI).lst (min (bif decide ((q0c xs n i _u k)<bif decide ((q02 xs n i _u k)<k.snd.snd.fst.length)then k.snd.snd.fst.length else k.snd.snd.fst.length+(1:Nat))then(bif decide ((q02 xs n i _u k)<k.snd.snd.fst.length)then k.snd.snd.fst.length else k.snd.snd.fst.length+(1:Nat))-(1:Nat)else bif decide ((q02 xs n i _u k)<k.snd.snd.fst.length)then k.snd.snd.fst.length else k.snd.snd.fst.length+(1:Nat)) (q0c xs n i _u k)) ((eKy.ent eI).els k.snd.snd.fst)).set (q02 xs n i _u k) (((xs.getD i.toNat eC.dflt).p,(xs.getD i.toNat eC.dflt).t),IntKind.i64.wrap ((bif decide ((q02 xs n i _u k)<k.snd.snd.fst.length)then(k.snd.snd.fst.getD (q02 xs n i _u k) (eKy.ent eI).dflt).snd.fst else(0:Int))+(xs.getD i.toNat eC.dflt).n),bif decide ((q02 xs n i _u k)<k.snd.snd.fst.length)then(k.snd.snd.fst.getD (q02 xs n i _u k) (eKy.ent eI).dflt).snd.snd else(↑k.snd.snd.snd:Int))++List.drop ((q0c xs n i _u k)+(1:Nat)) (((eKy.ent eI).lst ((q0c xs n i _u k)+(1:Nat)+((bif decide ((q0c xs n i _u k)<bif decide ((q02 xs n i _u k)<k.snd.snd.fst.length)then k.snd.snd.fst.length else k.snd.snd.fst.length+(1:Nat))then(bif decide ((q02 xs n i _u k)<k.snd.snd.fst.length)then k.snd.snd.fst.length else k.snd.snd.fst.length+(1:Nat))-(1:Nat)else bif decide ((q02 xs n i _u k)<k.snd.snd.fst.length)then k.snd.snd.fst.length else k.snd.snd.fst.length+(1:Nat))-(q0c xs n i _u k))) ((eKy.ent eI).els k.snd.snd.fst)).set (q02 xs n i _u k) (((xs.getD i.toNat eC.dflt).p,(xs.getD i.toNat eC.dflt).t),IntKind.i64.wrap ((bif decide ((q02 xs n i _u k)<k.snd.snd.fst.length)then(k.snd.snd.fst.getD (q02 xs n i _u k) (eKy.ent eI).dflt).snd.fst else(0:Int))+(xs.getD i.toNat eC.dflt).n),bif decide ((q02 xs n i _u k)<k.snd.snd.fst.length)then(k.snd.snd.fst.getD (q02 xs n i _u k) (eKy.ent eI).dflt).snd.snd else(↑k.snd.snd.snd:Int))),bif decide ((q02 xs n i _u k)<k.snd.snd.fst.length)then k.snd.snd.snd else k.snd.snd.snd+(1:Nat))else(Ex.normal,eC.ag xs,n,IntKind.i64.wrap (i+(1:Int)),(),ePa.ag k.fst,(eP.pair eI).ag k.snd.fst,((eKy.ent eI).lst (bif decide ((q02 xs n i _u k)<k.snd.snd.fst.length)then k.snd.snd.fst.length else k.snd.snd.fst.length+(1:Nat)) ((eKy.ent eI).els k.snd.snd.fst)).set (q02 xs n i _u k) (((xs.getD i.toNat eC.dflt).p,(xs.getD i.toNat eC.dflt).t),IntKind.i64.wrap ((bif decide ((q02 xs n i _u k)<k.snd.snd.fst.length)then(k.snd.snd.fst.getD (q02 xs n i _u k) (eKy.ent eI).dflt).snd.fst else(0:Int))+(xs.getD i.toNat eC.dflt).n),bif decide ((q02 xs n i _u k)<k.snd.snd.fst.length)then(k.snd.snd.fst.getD (q02 xs n i _u k) (eKy.ent eI).dflt).snd.snd else(↑k.snd.snd.snd:Int)),bif decide ((q02 xs n i _u k)<k.snd.snd.fst.length)then k.snd.snd.snd else k.snd.snd.snd+(1:Nat))))/\(cs.isEmpty=false->(∀(e:Nat),e<k.snd.snd.fst.length->(10:Nat)=(10:Nat))/\(∀(e:Nat),e<k.snd.snd.fst.length->True)/\(∀(e:Nat),(e<bif decide ((q02 xs n i _u k)<k.snd.snd.fst.length)then k.snd.snd.fst.length else k.snd.snd.fst.length+(1:Nat))->(10:Nat)=(10:Nat))/\(∀(e:Nat),(e<bif decide ((q02 xs n i _u k)<k.snd.snd.fst.length)then k.snd.snd.fst.length else k.snd.snd.fst.length+(1:Nat))->True)/\((bif decide ((q02 xs n i _u k)<k.snd.snd.fst.length)then(k.snd.snd.fst.getD (q02 xs n i _u k) (eKy.ent eI).dflt).snd.snd else(↑k.snd.snd.snd:Int))=bif decide ((q02 xs n i _u k)<k.snd.snd.fst.length)then(k.snd.snd.fst.getD (q02 xs n i _u k) (eKy.ent eI).dflt).snd.snd else(↑k.snd.snd.snd:Int))/\(∀(e:Nat),(e<bif decide ((q02 xs n i _u k)<k.snd.snd.fst.length)then k.snd.snd.fst.length else k.snd.snd.fst.length+(1:Nat))->(10:Nat)=(10:Nat))/\(∀(e:Nat),(e<bif decide ((q02 xs n i _u k)<k.snd.snd.fst.length)then k.snd.snd.fst.length else k.snd.snd.fst.length+(1:Nat))->True)/\(((bif decide ((q0c xs n i _u k)<bif decide ((q02 xs n i _u k)<k.snd.snd.fst.length)then k.snd.snd.fst.length else k.snd.snd.fst.length+(1:Nat))then bif decide ((q0c xs n i _u k)=(q02 xs n i _u k))then IntKind.i64.wrap ((bif decide ((q0c xs n i _u k)<bif decide ((q02 xs n i _u k)<k.snd.snd.fst.length)then k.snd.snd.fst.length else k.snd.snd.fst.length+(1:Nat))then bif decide ((q0c xs n i _u k)=(q02 xs n i _u k))then bif decide ((q02 xs n i _u k)<k.snd.snd.fst.length)then(k.snd.snd.fst.getD (q02 xs n i _u k) (eKy.ent eI).dflt).snd.fst else(0:Int)else(k.snd.snd.fst.getD (q0c xs n i _u k) (eKy.ent eI).dflt).snd.fst else(0:Int))+(xs.getD i.toNat eC.dflt).n)else(k.snd.snd.fst.getD (q0c xs n i _u k) (eKy.ent eI).dflt).snd.fst else(0:Int))==(0:Int))=true->(∀(e:Nat),(e<bif decide ((q02 xs n i _u k)<k.snd.snd.fst.length)then k.snd.snd.fst.length else k.snd.snd.fst.length+(1:Nat))->(10:Nat)=(10:Nat))/\(∀(e:Nat),(e<bif decide ((q02 xs n i _u k)<k.snd.snd.fst.length)then k.snd.snd.fst.length else k.snd.snd.fst.length+(1:Nat))->True)/\eC.okL xs/\ePa.okL k.fst/\(eP.pair eI).okL k.snd.fst/\True/\(∀(e:Nat),e<min (bif decide ((q0c xs n i _u k)<bif decide ((q02 xs n i _u k)<k.snd.snd.fst.length)then k.snd.snd.fst.length else k.snd.snd.fst.length+(1:Nat))then(bif decide ((q02 xs n i _u k)<k.snd.snd.fst.length)then k.snd.snd.fst.length else k.snd.snd.fst.length+(1:Nat))-(1:Nat)else bif decide ((q02 xs n i _u k)<k.snd.snd.fst.length)then k.snd.snd.fst.length else k.snd.snd.fst.length+(1:Nat)) (q0c xs n i _u k)->True)/\True/\(∀(e:Nat),e<(q0c xs n i _u k)+(1:Nat)+((bif decide ((q0c xs n i _u k)<bif decide ((q02 xs n i _u k)<k.snd.snd.fst.length)then k.snd.snd.fst.length else k.snd.snd.fst.length+(1:Nat))then(bif decide ((q02 xs n i _u k)<k.snd.snd.fst.length)then k.snd.snd.fst.length else k.snd.snd.fst.length+(1:Nat))-(1:Nat)else bif decide ((q02 xs n i _u k)<k.snd.snd.fst.length)then k.snd.snd.fst.length else k.snd.snd.fst.length+(1:Nat))-(q0c xs n i _u k))->True)/\∀(d:Ex×List q00×Int×Int×Unit×LdK),(Ex.normal,eC.ag xs,n,IntKind.i64.wrap (i+(1:Int)),(),ePa.ag k.fst,(eP.pair eI).ag k.snd.fst,((eKy.ent eI).lst (min (bif decide ((q0c xs n i _u k)<bif decide ((q02 xs n i _u k)<k.snd.snd.fst.length)then k.snd.snd.fst.length else k.snd.snd.fst.length+(1:Nat))then(bif decide ((q02 xs n i _u k)<k.snd.snd.fst.length)then k.snd.snd.fst.length else k.snd.snd.fst.length+(1:Nat))-(1:Nat)else bif decide ((q02 xs n i _u k)<k.snd.snd.fst.length)then k.snd.snd.fst.length else k.snd.snd.fst.length+(1:Nat)) (q0c xs n i _u k)) ((eKy.ent eI).els k.snd.snd.fst)).set (q02 xs n i _u k) (((xs.getD i.toNat eC.dflt).p,(xs.getD i.toNat eC.dflt).t),IntKind.i64.wrap ((bif decide ((q0c xs n i _u k)<bif decide ((q02 xs n i _u k)<k.snd.snd.fst.length)then k.snd.snd.fst.length else k.snd.snd.fst.length+(1:Nat))then bif decide ((q0c xs n i _u k)=(q02 xs n i _u k))then bif decide ((q02 xs n i _u k)<k.snd.snd.fst.length)then(k.snd.snd.fst.getD (q02 xs n i _u k) (eKy.ent eI).dflt).snd.fst else(0:Int)else(k.snd.snd.fst.getD (q0c xs n i _u k) (eKy.ent eI).dflt).snd.fst else(0:Int))+(xs.getD i.toNat eC.dflt).n),bif decide ((q02 xs n i _u k)<k.snd.snd.fst.length)then(k.snd.snd.fst.getD (q02 xs n i _u k) (eKy.ent eI).dflt).snd.snd else(↑k.snd.snd.snd:Int))++List.drop ((q0c xs n i _u k)+(1:Nat)) (((eKy.ent eI).lst ((q0c xs n i _u k)+(1:Nat)+((bif decide ((q0c xs n i _u k)<bif decide ((q02 xs n i _u k)<k.snd.snd.fst.length)then k.snd.snd.fst.length else k.snd.snd.fst.length+(1:Nat))then(bif decide ((q02 xs n i _u k)<k.snd.snd.fst.length)then k.snd.snd.fst.length else k.snd.snd.fst.length+(1:Nat))-(1:Nat)else bif decide ((q02 xs n i _u k)<k.snd.snd.fst.length)then k.snd.snd.fst.length else k.snd.snd.fst.length+(1:Nat))-(q0c xs n i _u k))) ((eKy.ent eI).els k.snd.snd.fst)).set (q02 xs n i _u k) (((xs.getD i.toNat eC.dflt).p,(xs.getD i.toNat eC.dflt).t),IntKind.i64.wrap ((bif decide ((q0c xs n i _u k)<bif decide ((q02 xs n i _u k)<k.snd.snd.fst.length)then k.snd.snd.fst.length else k.snd.snd.fst.length+(1:Nat))then bif decide ((q0c xs n i _u k)=(q02 xs n i _u k))then bif decide ((q02 xs n i _u k)<k.snd.snd.fst.length)then(k.snd.snd.fst.getD (q02 xs n i _u k) (eKy.ent eI).dflt).snd.fst else(0:Int)else(k.snd.snd.fst.getD (q0c xs n i _u k) (eKy.ent eI).dflt).snd.fst else(0:Int))+(xs.getD i.toNat eC.dflt).n),bif decide ((q02 xs n i _u k)<k.snd.snd.fst.length)then(k.snd.snd.fst.getD (q02 xs n i _u k) (eKy.ent eI).dflt).snd.snd else(↑k.snd.snd.snd:Int))),bif decide ((q02 xs n i _u k)<k.snd.snd.fst.length)then k.snd.snd.snd else k.snd.snd.snd+(1:Nat))=bif (bif decide ((q0c xs n i _u k)<bif decide ((q02 xs n i _u k)<k.snd.snd.fst.length)then k.snd.snd.fst.length else k.snd.snd.fst.length+(1:Nat))then bif decide ((q0c xs n i _u k)=(q02 xs n i _u k))then IntKind.i64.wrap ((bif decide ((q02 xs n i _u k)<k.snd.snd.fst.length)then(k.snd.snd.fst.getD (q02 xs n i _u k) (eKy.ent eI).dflt).snd.fst else(0:Int))+(xs.getD i.toNat eC.dflt).n)else(k.snd.snd.fst.getD (q0c xs n i _u k) (eKy.ent eI).dflt).snd.fst else(0:Int))==(0:Int)then(Ex.normal,eC.ag xs,n,IntKind.i64.wrap (i+(1:Int)),(),ePa.ag k.fst,(eP.pair eI).ag k.snd.fst,((eKy.ent eI).lst (min (bif decide ((q0c xs n i _u k)<bif decide ((q02 xs n i _u k)<k.snd.snd.fst.length)then k.snd.snd.fst.length else k.snd.snd.fst.length+(1:Nat))then(bif decide ((q02 xs n i _u k)<k.snd.snd.fst.length)then k.snd.snd.fst.length else k.snd.snd.fst.length+(1:Nat))-(1:Nat)else bif decide ((q02 xs n i _u k)<k.snd.snd.fst.length)then k.snd.snd.fst.length else k.snd.snd.fst.length+(1:Nat)) (q0c xs n i _u k)) ((eKy.ent eI).els k.snd.snd.fst)).set (q02 xs n i _u k) (((xs.getD i.toNat eC.dflt).p,(xs.getD i.toNat eC.dflt).t),IntKind.i64.wrap ((bif decide ((q02 xs n i _u k)<k.snd.snd.fst.length)then(k.snd.snd.fst.getD (q02 xs n i _u k) (eKy.ent eI).dflt).snd.fst else(0:Int))+(xs.getD i.toNat eC.dflt).n),bif decide ((q02 xs n i _u k)<k.snd.snd.fst.length)then(k.snd.snd.fst.getD (q02 xs n i _u k) (eKy.ent eI).dflt).snd.snd else(↑k.snd.snd.snd:Int))++List.drop ((q0c xs n i _u k)+(1:Nat)) (((eKy.ent eI).lst ((q0c xs n i _u k)+(1:Nat)+((bif decide ((q0c xs n i _u k)<bif decide ((q02 xs n i _u k)<k.snd.snd.fst.length)then k.snd.snd.fst.length else k.snd.snd.fst.length+(1:Nat))then(bif decide ((q02 xs n i _u k)<k.snd.snd.fst.length)then k.snd.snd.fst.length else k.snd.snd.fst.length+(1:Nat))-(1:Nat)else bif decide ((q02 xs n i _u k)<k.snd.snd.fst.length)then k.snd.snd.fst.length else k.snd.snd.fst.length+(1:Nat))-(q0c xs n i _u k))) ((eKy.ent eI).els k.snd.snd.fst)).set (q02 xs n i _u k) (((xs.getD i.toNat eC.dflt).p,(xs.getD i.toNat eC.dflt).t),IntKind.i64.wrap ((bif decide ((q02 xs n i _u k)<k.snd.snd.fst.length)then(k.snd.snd.fst.getD (q02 xs n i _u k) (eKy.ent eI).dflt).snd.fst else(0:Int))+(xs.getD i.toNat eC.dflt).n),bif decide ((q02 xs n i _u k)<k.snd.snd.fst.length)then(k.snd.snd.fst.getD (q02 xs n i _u k) (eKy.ent eI).dflt).snd.snd else(↑k.snd.snd.snd:Int))),bif decide ((q02 xs n i _u k)<k.snd.snd.fst.length)then k.snd.snd.snd else k.snd.snd.snd+(1:Nat))else(Ex.normal,eC.ag xs,n,IntKind.i64.wrap (i+(1:Int)),(),ePa.ag k.fst,(eP.pair eI).ag k.snd.fst,((eKy.ent eI).lst (bif decide ((q02 xs n i _u k)<k.snd.snd.fst.length)then k.snd.snd.fst.length else k.snd.snd.fst.length+(1:Nat)) ((eKy.ent eI).els k.snd.snd.fst)).set (q02 xs n i _u k) (((xs.getD i.toNat eC.dflt).p,(xs.getD i.toNat eC.dflt).t),IntKind.i64.wrap ((bif decide ((q02 xs n i _u k)<k.snd.snd.fst.length)then(k.snd.snd.fst.getD (q02 xs n i _u k) (eKy.ent eI).dflt).snd.fst else(0:Int))+(xs.getD i.toNat eC.dflt).n),bif decide ((q02 xs n i _u k)<k.snd.snd.fst.length)then(k.snd.snd.fst.getD (q02 xs n i _u k) (eKy.ent eI).dflt).snd.snd else(↑k.snd.snd.snd:Int)),bif decide ((q02 xs n i _u k)<k.snd.snd.fst.length)then k.snd.snd.snd else k.snd.snd.snd+(1:Nat)))/\(((bif decide ((q0c xs n i _u k)<bif decide ((q02 xs n i _u k)<k.snd.snd.fst.length)then k.snd.snd.fst.length else k.snd.snd.fst.length+(1:Nat))then bif decide ((q0c xs n i _u k)=(q02 xs n i _u k))then IntKind.i64.wrap ((bif decide ((q0c xs n i _u k)<bif decide ((q02 xs n i _u k)<k.snd.snd.fst.length)then k.snd.snd.fst.length else k.snd.snd.fst.length+(1:Nat))then bif decide ((q0c xs n i _u k)=(q02 xs n i _u k))then bif decide ((q02 xs n i _u k)<k.snd.snd.fst.length)then(k.snd.snd.fst.getD (q02 xs n i _u k) (eKy.ent eI).dflt).snd.fst else(0:Int)else(k.snd.snd.fst.getD (q0c xs n i _u k) (eKy.ent eI).dflt).snd.fst else(0:Int))+(xs.getD i.toNat eC.dflt).n)else(k.snd.snd.fst.getD (q0c xs n i _u k) (eKy.ent eI).dflt).snd.fst else(0:Int))==(0:Int))=false->eC.okL xs/\ePa.okL k.fst/\(eP.pair eI).okL k.snd.fst/\True/\(∀(e:Nat),(e<bif decide ((q02 xs n i _u k)<k.snd.snd.fst.length)then k.snd.snd.fst.length else k.snd.snd.fst.length+(1:Nat))->True)/\∀(d:Ex×List q00×Int×Int×Unit×LdK),(Ex.normal,eC.ag xs,n,IntKind.i64.wrap (i+(1:Int)),(),ePa.ag k.fst,(eP.pair eI).ag k.snd.fst,((eKy.ent eI).lst (bif decide ((q02 xs n i _u k)<k.snd.snd.fst.length)then k.snd.snd.fst.length else k.snd.snd.fst.length+(1:Nat)) ((eKy.ent eI).els k.snd.snd.fst)).set (q02 xs n i _u k) (((xs.getD i.toNat eC.dflt).p,(xs.getD i.toNat eC.dflt).t),IntKind.i64.wrap ((bif decide ((q0c xs n i _u k)<bif decide ((q02 xs n i _u k)<k.snd.snd.fst.length)then k.snd.snd.fst.length else k.snd.snd.fst.length+(1:Nat))then bif decide ((q0c xs n i _u k)=(q02 xs n i _u k))then bif decide ((q02 xs n i _u k)<k.snd.snd.fst.length)then(k.snd.snd.fst.getD (q02 xs n i _u k) (eKy.ent eI).dflt).snd.fst else(0:Int)else(k.snd.snd.fst.getD (q0c xs n i _u k) (eKy.ent eI).dflt).snd.fst else(0:Int))+(xs.getD i.toNat eC.dflt).n),bif decide ((q02 xs n i _u k)<k.snd.snd.fst.length)then(k.snd.snd.fst.getD (q02 xs n i _u k) (eKy.ent eI).dflt).snd.snd else(↑k.snd.snd.snd:Int)),bif decide ((q02 xs n i _u k)<k.snd.snd.fst.length)then k.snd.snd.snd else k.snd.snd.snd+(1:Nat))=bif (bif decide ((q0c xs n i _u k)<bif decide ((q02 xs n i _u k)<k.snd.snd.fst.length)then k.snd.snd.fst.length else k.snd.snd.fst.length+(1:Nat))then bif decide ((q0c xs n i _u k)=(q02 xs n i _u k))then IntKind.i64.wrap ((bif decide ((q02 xs n i _u k)<k.snd.snd.fst.length)then(k.snd.snd.fst.getD (q02 xs n i _u k) (eKy.ent eI).dflt).snd.fst else(0:Int))+(xs.getD i.toNat eC.dflt).n)else(k.snd.snd.fst.getD (q0c xs n i _u k) (eKy.ent eI).dflt).snd.fst else(0:Int))==(0:Int)then(Ex.normal,eC.ag xs,n,IntKind.i64.wrap (i+(1:Int)),(),ePa.ag k.fst,(eP.pair eI).ag k.snd.fst,((eKy.ent eI).lst (min (bif decide ((q0c xs n i _u k)<bif decide ((q02 xs n i _u k)<k.snd.snd.fst.length)then k.snd.snd.fst.length else k.snd.snd.fst.length+(1:Nat))then(bif decide ((q02 xs n i _u k)<k.snd.snd.fst.length)then k.snd.snd.fst.length else k.snd.snd.fst.length+(1:Nat))-(1:Nat)else bif decide ((q02 xs n i _u k)<k.snd.snd.fst.length)then k.snd.snd.fst.length else k.snd.snd.fst.length+(1:Nat)) (q0c xs n i _u k)) ((eKy.ent eI).els k.snd.snd.fst)).set (q02 xs n i _u k) (((xs.getD i.toNat eC.dflt).p,(xs.getD i.toNat eC.dflt).t),IntKind.i64.wrap ((bif decide ((q02 xs n i _u k)<k.snd.snd.fst.length)then(k.snd.snd.fst.getD (q02 xs n i _u k) (eKy.ent eI).dflt).snd.fst else(0:Int))+(xs.getD i.toNat eC.dflt).n),bif decide ((q02 xs n i _u k)<k.snd.snd.fst.length)then(k.snd.snd.fst.getD (q02 xs n i _u k) (eKy.ent eI).dflt).snd.snd else(↑k.snd.snd.snd:Int))++List.drop ((q0c xs n i _u k)+(1:Nat)) (((eKy.ent eI).lst ((q0c xs n i _u k)+(1:Nat)+((bif decide ((q0c xs n i _u k)<bif decide ((q02 xs n i _u k)<k.snd.snd.fst.length)then k.snd.snd.fst.length else k.snd.snd.fst.length+(1:Nat))then(bif decide ((q02 xs n i _u k)<k.snd.snd.fst.length)then k.snd.snd.fst.length else k.snd.snd.fst.length+(1:Nat))-(1:Nat)else bif decide ((q02 xs n i _u k)<k.snd.snd.fst.length)then k.snd.snd.fst.length else k.snd.snd.fst.length+(1:Nat))-(q0c xs n i _u k))) ((eKy.ent eI).els k.snd.snd.fst)).set (q02 xs n i _u k) (((xs.getD i.toNat eC.dflt).p,(xs.getD i.toNat eC.dflt).t),IntKind.i64.wrap ((bif decide ((q02 xs n i _u k)<k.snd.snd.fst.length)then(k.snd.snd.fst.getD (q02 xs n i _u k) (eKy.ent eI).dflt).snd.fst else(0:Int))+(xs.getD i.toNat eC.dflt).n),bif decide ((q02 xs n i _u k)<k.snd.snd.fst.length)then(k.snd.snd.fst.getD (q02 xs n i _u k) (eKy.ent eI).dflt).snd.snd else(↑k.snd.snd.snd:Int))),bif decide ((q02 xs n i _u k)<k.snd.snd.fst.length)then k.snd.snd.snd else k.snd.snd.snd+(1:Nat))else(Ex.normal,eC.ag xs,n,IntKind.i64.wrap (i+(1:Int)),(),ePa.ag k.fst,(eP.pair eI).ag k.snd.fst,((eKy.ent eI).lst (bif decide ((q02 xs n i _u k)<k.snd.snd.fst.length)then k.snd.snd.fst.length else k.snd.snd.fst.length+(1:Nat)) ((eKy.ent eI).els k.snd.snd.fst)).set (q02 xs n i _u k) (((xs.getD i.toNat eC.dflt).p,(xs.getD i.toNat eC.dflt).t),IntKind.i64.wrap ((bif decide ((q02 xs n i _u k)<k.snd.snd.fst.length)then(k.snd.snd.fst.getD (q02 xs n i _u k) (eKy.ent eI).dflt).snd.fst else(0:Int))+(xs.getD i.toNat eC.dflt).n),bif decide ((q02 xs n i _u k)<k.snd.snd.fst.length)then(k.snd.snd.fst.getD (q02 xs n i _u k) (eKy.ent eI).dflt).snd.snd else(↑k.snd.snd.snd:Int)),bif decide ((q02 xs n i _u k)<k.snd.snd.fst.length)then k.snd.snd.snd else k.snd.snd.snd+(1:Nat)))))/\(decide (i<n)=false->eC.okL xs/\ePa.okL k.fst/\(eP.pair eI).okL k.snd.fst/\∀(e:Nat),e<k.snd.snd.fst.length->True)
theorem zir:((q03 Tryz.prog 35).filter λc=>Nat.beq (lkey c) 22).length=1:=by kernel_rfl
abbrev q81:Type:=List q00×Int
abbrev qas:Type:=Unit×LdK
def z7m(g:q82):Int×q81×qas:=(g.2.2.1,(g.1,g.2.1),(g.2.2.2.1,g.2.2.2.2))
def zis(d:Int×q81×qas):q82:=(d.2.1.1,d.2.1.2,d.1,d.2.2.1,d.2.2.2)
abbrev qig(g:q82):Ex×q82:=qvw g.1 g.2.1 g.2.2.1 g.2.2.2.1 g.2.2.2.2
abbrev ze5(g:q82):Prop:=ql7 g.1 g.2.1 g.2.2.1 g.2.2.2.1 g.2.2.2.2
theorem zqy(g:q82):(qig g).1=.normal\/(qig g).1∈([.exit 2]:List Ex):=by
 unfold qig qvw
 repeat' (first|(left;rfl)|(right;simp only[cond_true,cond_false];simp;done)|(rw[Bool.cond_eq_ite];split))
abbrev ziu(Inv:q82->List Prop)(m:q82->Nat):LCon:=q2q [.exit 2] (loopBody Tryz.prog 35 22) ze8 [] 101 Inv qig m
theorem z7l(Inv:q82->List Prop)(m:q82->Nat)(hs:∀g,allP (Inv g)->ze5 g)(hg:Goes qig m λg=>allP (Inv g)):∀b∈q03 Tryz.prog 35,lkey b=22->q06 Tryz.prog b (ziu Inv m).g:=q0s (Γ:=(MTab.gamz q9z [] [])) (Λ:=qp4) (MTab.okz q9z [] []) q74 100 35 22 101 ze8 [] Inv qig ze5 m default [.exit 2] zir (λrd T B HL HB ds g=>by kernel_rfl) (λrd T B HL HB ds g=>by kernel_rfl) hs hg zqy
def q3m(xs:List q00)(n:Int)(i:Int)(_u:Unit)(k:LdK)(more:Int)(r:Int):Nat:=
 q2h (λe=>(xs.getD i.toNat eC.dflt).p.node==(k.snd.snd.fst.getD e (eKy.ent eI).dflt).fst.fst.node&&((xs.getD i.toNat eC.dflt).p.port==(k.snd.snd.fst.getD e (eKy.ent eI).dflt).fst.fst.port&&((xs.getD i.toNat eC.dflt).t.e==(k.snd.snd.fst.getD e (eKy.ent eI).dflt).fst.snd.e&&((xs.getD i.toNat eC.dflt).t.d==(k.snd.snd.fst.getD e (eKy.ent eI).dflt).fst.snd.d&&((xs.getD i.toNat eC.dflt).t.l0==(k.snd.snd.fst.getD e (eKy.ent eI).dflt).fst.snd.l0&&((xs.getD i.toNat eC.dflt).t.l1==(k.snd.snd.fst.getD e (eKy.ent eI).dflt).fst.snd.l1&&((xs.getD i.toNat eC.dflt).t.l2==(k.snd.snd.fst.getD e (eKy.ent eI).dflt).fst.snd.l2&&(xs.getD i.toNat eC.dflt).t.l3==(k.snd.snd.fst.getD e (eKy.ent eI).dflt).fst.snd.l3))))))) k.snd.snd.fst.length (0:Nat)
abbrev q84:Type:=List q00×Int×Int×Unit×LdK×Int×Int
def zeb:LP 2 q84:=.pair (.slot 2 26 dLC) (.pair (.slot 2 27 dI) (.pair (.slot 2 28 dI) (.pair (.fix 2 0 (.p 0 0)) (.pair (.ctO 2 0 89 cLd) (.pair (.slot 2 7 dI) (.slot 2 4 dI))))))
def qvy(xs:List q00)(n:Int)(i:Int)(_u:Unit)(k:LdK)(more:Int)(r:Int):Ex×q84:=
 bif decide (i<n)then bif !(decide (IntKind.i64.wrap ((bif decide ((q3m xs n i _u k more r)<k.snd.snd.fst.length)then(k.snd.snd.fst.getD (q3m xs n i _u k more r) (eKy.ent eI).dflt).snd.fst else(0:Int))+(xs.getD i.toNat eC.dflt).n)>=(-1099511627776:Int))&&decide (IntKind.i64.wrap ((bif decide ((q3m xs n i _u k more r)<k.snd.snd.fst.length)then(k.snd.snd.fst.getD (q3m xs n i _u k more r) (eKy.ent eI).dflt).snd.fst else(0:Int))+(xs.getD i.toNat eC.dflt).n)<=(1099511627776:Int)))then(Ex.ret,eC.ag xs,n,i,(),(ePa.ag k.fst,(eP.pair eI).ag k.snd.fst,(eKy.ent eI).ag k.snd.snd.fst,k.snd.snd.snd),more,(150:Int))else(Ex.normal,eC.ag xs,n,IntKind.i64.wrap (i+(1:Int)),(),(ePa.ag k.fst,(eP.pair eI).ag k.snd.fst,(eKy.ent eI).ag k.snd.snd.fst,k.snd.snd.snd),bif IntKind.i64.wrap ((bif decide ((q3m xs n i _u k more r)<k.snd.snd.fst.length)then(k.snd.snd.fst.getD (q3m xs n i _u k more r) (eKy.ent eI).dflt).snd.fst else(0:Int))+(xs.getD i.toNat eC.dflt).n)==(0:Int)then IntKind.i64.wrap ((bif (bif decide ((q3m xs n i _u k more r)<k.snd.snd.fst.length)then(k.snd.snd.fst.getD (q3m xs n i _u k more r) (eKy.ent eI).dflt).snd.fst else(0:Int))==(0:Int)then IntKind.i64.wrap (more+(1:Int))else more)-(1:Int))else bif (bif decide ((q3m xs n i _u k more r)<k.snd.snd.fst.length)then(k.snd.snd.fst.getD (q3m xs n i _u k more r) (eKy.ent eI).dflt).snd.fst else(0:Int))==(0:Int)then IntKind.i64.wrap (more+(1:Int))else more,r)
 else(Ex.exit (0:Nat),eC.ag xs,n,i,(),(ePa.ag k.fst,(eP.pair eI).ag k.snd.fst,(eKy.ent eI).ag k.snd.snd.fst,k.snd.snd.snd),more,r)
def ql8(xs:List q00)(n:Int)(i:Int)(_u:Unit)(k:LdK)(more:Int)(r:Int):Prop:=
 (decide (i<n)=true->((0:Int)<=i/\i<(↑xs.length:Int))/\(∀(e:Nat),e<k.snd.snd.fst.length->(10:Nat)=(10:Nat))/\(∀(e:Nat),e<k.snd.snd.fst.length->True)/\((!(decide (IntKind.i64.wrap ((bif decide ((q3m xs n i _u k more r)<k.snd.snd.fst.length)then(k.snd.snd.fst.getD (q3m xs n i _u k more r) (eKy.ent eI).dflt).snd.fst else(0:Int))+(xs.getD i.toNat eC.dflt).n)>=(-1099511627776:Int))&&decide (IntKind.i64.wrap ((bif decide ((q3m xs n i _u k more r)<k.snd.snd.fst.length)then(k.snd.snd.fst.getD (q3m xs n i _u k more r) (eKy.ent eI).dflt).snd.fst else(0:Int))+(xs.getD i.toNat eC.dflt).n)<=(1099511627776:Int))))=true->eC.okL xs/\ePa.okL k.fst/\(eP.pair eI).okL k.snd.fst/\∀(e:Nat),e<k.snd.snd.fst.length->True)/\((!(decide (IntKind.i64.wrap ((bif decide ((q3m xs n i _u k more r)<k.snd.snd.fst.length)then(k.snd.snd.fst.getD (q3m xs n i _u k more r) (eKy.ent eI).dflt).snd.fst else(0:Int))+(xs.getD i.toNat eC.dflt).n)>=(-1099511627776:Int))&&decide (IntKind.i64.wrap ((bif decide ((q3m xs n i _u k more r)<k.snd.snd.fst.length)then(k.snd.snd.fst.getD (q3m xs n i _u k more r) (eKy.ent eI).dflt).snd.fst else(0:Int))+(xs.getD i.toNat eC.dflt).n)<=(1099511627776:Int))))=false->eC.okL xs/\ePa.okL k.fst/\(eP.pair eI).okL k.snd.fst/\∀(e:Nat),e<k.snd.snd.fst.length->True))/\(decide (i<n)=false->eC.okL xs/\ePa.okL k.fst/\(eP.pair eI).okL k.snd.fst/\∀(e:Nat),e<k.snd.snd.fst.length->True)
theorem ziv:((q03 Tryz.prog 35).filter λc=>Nat.beq (lkey c) 8).length=1:=by kernel_rfl
abbrev q83:Type:=List q00×Int×LdK
abbrev qdr:Type:=Unit×Int×Int
def z7p(g:q84):Int×q83×qdr:=(g.2.2.1,(g.1,g.2.1,g.2.2.2.2.1),(g.2.2.2.1,g.2.2.2.2.2.1,g.2.2.2.2.2.2))
def ziw(d:Int×q83×qdr):q84:=(d.2.1.1,d.2.1.2.1,d.1,d.2.2.1,d.2.1.2.2,d.2.2.2.1,d.2.2.2.2)
abbrev qih(g:q84):Ex×q84:=qvy g.1 g.2.1 g.2.2.1 g.2.2.2.1 g.2.2.2.2.1 g.2.2.2.2.2.1 g.2.2.2.2.2.2
abbrev ze9(g:q84):Prop:=ql8 g.1 g.2.1 g.2.2.1 g.2.2.2.1 g.2.2.2.2.1 g.2.2.2.2.2.1 g.2.2.2.2.2.2
theorem zr1(g:q84):(qih g).1=.normal\/(qih g).1∈([.ret,.exit 0]:List Ex):=by
 unfold qih qvy
 repeat' (first|(left;rfl)|(right;simp only[cond_true,cond_false];simp;done)|(rw[Bool.cond_eq_ite];split))
abbrev ziy(Inv:q84->List Prop)(m:q84->Nat):LCon:=q2q [.ret,.exit 0] (loopBody Tryz.prog 35 8) zeb [] 101 Inv qih m
theorem z7o(Inv:q84->List Prop)(m:q84->Nat)(hs:∀g,allP (Inv g)->ze9 g)(hg:Goes qih m λg=>allP (Inv g)):∀b∈q03 Tryz.prog 35,lkey b=8->q06 Tryz.prog b (ziy Inv m).g:=q0s (Γ:=(MTab.gamz q9z [] [])) (Λ:=qp4) (MTab.okz q9z [] []) q74 100 35 8 101 zeb [] Inv qih ze9 m default [.ret,.exit 0] ziv (λrd T B HL HB ds g=>by kernel_rfl) (λrd T B HL HB ds g=>by kernel_rfl) hs hg zr1
def valM(m:List MK)(t:Ky):Int:=bif decide (kAt m t<m.length)then(m.getD (kAt m t) dK).2.1 else 0
def nowM(m:List MK)(v:q00):Int:=IntKind.i64.wrap (valM m (keyC v)+v.n)
def qbl(m:List MK)(o:Int)(v:q00):Int:=bif nowM m v==(0:Int)then IntKind.i64.wrap ((bif valM m (keyC v)==(0:Int)then IntKind.i64.wrap (o+1)else o)-1)else bif valM m (keyC v)==(0:Int)then IntKind.i64.wrap (o+1)else o
def qnj(c:q83)(b:qdr)(_:Int)(v:q00):Ex×qdr:=bif !q9y (nowM c.2.2.2.2.1 v)then(.ret,((),b.2.1,150))else(.normal,((),qbl c.2.2.2.2.1 b.2.1 v,b.2.2))
def z7q(_:q83)(_:qdr)(_:Int):Prop:=True
abbrev zix(g:q84):List Prop:=ixI (λc:q83=>c.2.1) (λc=>c.1) z7q (z7p g)
abbrev qvz(g:q84):Nat:=ixM (λc:q83=>c.2.1) (z7p g)
theorem zr2:ixP qnj (λc:q83=>c.1) z7q:=λ_ _ _ _ h _ _=>h
abbrev qyy(g:q84):Ex×q84:=qvy g.1 g.2.1 g.2.2.1 g.2.2.2.1 g.2.2.2.2.1 g.2.2.2.2.2.1 g.2.2.2.2.2.2
theorem z2l(m:List MK)(v:q00){f:Nat->Bool}(h:∀e,f e=(v.p.node==(m.getD e (eKy.ent eI).dflt).1.1.node&&(v.p.port==(m.getD e (eKy.ent eI).dflt).1.1.port&&(v.t.e==(m.getD e (eKy.ent eI).dflt).1.2.e&&(v.t.d==(m.getD e (eKy.ent eI).dflt).1.2.d&&(v.t.l0==(m.getD e (eKy.ent eI).dflt).1.2.l0&&(v.t.l1==(m.getD e (eKy.ent eI).dflt).1.2.l1&&(v.t.l2==(m.getD e (eKy.ent eI).dflt).1.2.l2&&v.t.l3==(m.getD e (eKy.ent eI).dflt).1.2.l3)))))))):q2h f m.length 0=kAt m (keyC v):=
 q5k _ dK m λj _=>by rw[h];exact(eqKy v.p v.t _).trans (by first|rfl|simp[keyC])
theorem zxi(xs:List q00)(n i:Int)(k:LdK)(o r:Int):q3m xs n i () k o r=kAt k.2.2.1 (keyC (xs.getD i.toNat eC.dflt)):=z2l k.2.2.1 _ λ_=>rfl
theorem zea(d:Int×q83×qdr)(_:allP (ixI (λc:q83=>c.2.1) (λc=>c.1) z7q d)):qyy (ziw d)=((ixF 0 (λc:q83=>c.2.1) (λc=>c.1) eC.dflt qnj d).1,ziw (ixF 0 (λc:q83=>c.2.1) (λc=>c.1) eC.dflt qnj d).2):=by
 obtain⟨i,⟨xs,n,k⟩,⟨⟨⟩,o,r⟩⟩:=d;show qvy xs n i () k o r=_;have hq:=zxi xs n i k o r;unfold qvy ixF qnj qbl nowM valM q9y;rw[hq];simp only[El.ag_eq,q7a];generalize (xs.getD i.toNat eC.dflt)=v;cases decide (i<n)with
 |false=>rfl
 |true=>
  simp only[cond_true];generalize (bif decide (kAt k.2.2.1 (keyC v)<k.2.2.1.length)then(k.2.2.1.getD (kAt k.2.2.1 (keyC v)) (eKy.ent eI).dflt).2.1 else(0:Int))=z;cases(decide (IntKind.i64.wrap (z+v.n)>=(-1099511627776:Int))&&decide (IntKind.i64.wrap (z+v.n)<=(1099511627776:Int)))<;>rfl
theorem zr0:∀b∈q03 Tryz.prog 35,lkey b=8->q06 Tryz.prog b (ziy zix qvz).g:=by
 refine z7o zix qvz (λg hi=>?_) (q0e (λ_=>rfl) (λ_=>rfl) zea zr2);obtain⟨xs,n,i,⟨⟩,k,o,r⟩:=g;obtain⟨h1,h2,h3,h4,h5⟩:=hi _ (List.mem_cons_self ..);have h1:n=(xs.length:Int):=h1;have h3:0<=i:=h3;show ql8 xs n i () k o r;unfold ql8;simp only[El.okL_eq,El.ag_eq,q7a];refine⟨λhlt=>?_,λ_=>?_⟩
 .have hr:=rngP i n _ h1 h3 hlt
  repeat' (first|apply And.intro|intro _)
  all_goals first|trivial|rfl|omega
 .repeat' (first|apply And.intro|intro _)
  all_goals first|trivial|rfl|omega
def stpM(m:List MK×Nat)(v:q00):List MK×Nat:=bif addW (valM m.1 (keyC v)) v.n==(0:Int)then((q5u m v).1.eraseIdx (kAt m.1 (keyC v)),(q5u m v).2)else q5u m v
def qyw(_:q81)(b:qas)(_:Int)(v:q00):Ex×qas:=(.normal,((),b.2.1,b.2.2.1,stpM b.2.2.2 v))
def z7n(_:q81)(_:qas)(_:Int):Prop:=True
abbrev zit(g:q82):List Prop:=ixI (λc:q81=>c.2) (λc=>c.1) z7n (z7m g)
abbrev qvx(g:q82):Nat:=ixM (λc:q81=>c.2) (z7m g)
theorem zqz:ixP qyw (λc:q81=>c.1) z7n:=λ_ _ _ _ h _ _=>h
abbrev qyx(g:q82):Ex×q82:=qvw g.1 g.2.1 g.2.2.1 g.2.2.2.1 g.2.2.2.2
theorem ziq(xs:List q00)(n i:Int)(k:LdK):q02 xs n i () k=kAt k.2.2.1 (keyC (xs.getD i.toNat eC.dflt)):=z2l k.2.2.1 _ λ_=>rfl
theorem qv1(m:List MK)(t:Ky):kAt m t<=m.length:=List.findIdx_le_length
theorem qyv(xs:List q00)(n i:Int)(k:LdK):q0c xs n i () k=q02 xs n i () k:=by
 have h1:=ziq xs n i k;have hle:q02 xs n i () k<=k.2.2.1.length:=by rw[h1];exact qv1 _ _
 have h2:=qaj (bif decide (q02 xs n i () k<k.2.2.1.length)then k.2.2.1.length else k.2.2.1.length+1) 0 (q02 xs n i () k);unfold q0c;rw[h2 _ ?_ ?_ ?_,Nat.zero_add]
 .by_cases h:q02 xs n i () k<k.2.2.1.length
  .rw[decide_eq_true h];exact h
  .rw[decide_eq_false h];show _<k.2.2.1.length+1;omega
 .rw[Nat.zero_add,decide_eq_true (rfl:q02 xs n i () k=q02 xs n i () k)];simp only[cond_true,beq_self_eq_true,Bool.and_self]
 .intro j hj;rw[Nat.zero_add,decide_eq_false (by omega:¬j=q02 xs n i () k)];simp only[cond_false];have h3:=eqKy (xs.getD i.toNat eC.dflt).p (xs.getD i.toNat eC.dflt).t (k.2.2.1.getD j dK).1;refine h3.trans ?_;rw[h1]at hj;have h4:=List.not_of_lt_findIdx hj;have hjl:j<k.2.2.1.length:=by rw[h1]at hle;omega
  rw[show k.2.2.1.getD j dK=k.2.2.1[j] by simp[List.getD_eq_getElem?_getD,hjl]];simpa [keyC]using h4
theorem zkv{α:Type}(A:El α)(xs:List α)(q:Nat)(h:q<=xs.length)(x:α):(A.lst (min ((bif decide (q<xs.length)then xs.length else xs.length+1)-1) q) (A.els xs)).set q x++List.drop (q+1) ((A.lst (q+1+((bif decide (q<xs.length)then xs.length else xs.length+1)-1-q)) (A.els xs)).set q x)=(if q<xs.length then xs.set q x else xs++[x]).eraseIdx q:=by
 rw[<-qgf A xs q h x];by_cases hq:q<xs.length
 .rw[decide_eq_true hq];simp only[cond_true];rw[show q+1+(xs.length-1-q)=xs.length by omega,Nat.min_eq_right (by omega),zfr A xs q h,A.lst_els,List.eraseIdx_eq_take_drop_succ,List.set_eq_of_length_le (by rw[List.length_take];omega),List.take_set_of_le (Nat.le_refl _)]
 .have:q=xs.length:=by omega
  subst this;rw[decide_eq_false hq];simp only[cond_false,Nat.add_sub_cancel,Nat.sub_self,Nat.add_zero,Nat.min_self];rw[zfq,A.lst_els,List.eraseIdx_eq_take_drop_succ,List.set_eq_of_length_le (Nat.le_refl _),List.take_set_of_le (Nat.le_refl _)];simp
theorem ze6(q l:Nat)(h:q<=l):decide (q<(bif decide (q<l)then l else l+1))=true:=by
 by_cases hq:q<l
 .rw[decide_eq_true hq];exact decide_eq_true hq
 .rw[decide_eq_false hq];exact decide_eq_true (by show q<l+1;omega)
theorem ze7(d:Int×q81×qas)(_:allP (ixI (λc:q81=>c.2) (λc=>c.1) z7n d)):qyx (zis d)=((ixF 2 (λc:q81=>c.2) (λc=>c.1) eC.dflt qyw d).1,zis (ixF 2 (λc:q81=>c.2) (λc=>c.1) eC.dflt qyw d).2):=by
 obtain⟨i,⟨xs,n⟩,⟨⟨⟩,l,dp,m,clk⟩⟩:=d;show qvw xs n i () (l,dp,m,clk)=_;have hq:=ziq xs n i (l,dp,m,clk);unfold qvw ixF qyw;rw[qyv,hq];have hle:=qv1 m (keyC (xs.getD i.toNat eC.dflt));simp only[El.ag_eq,q7a,ze6 _ _ hle,cond_true,decide_true];rw[zkv _ _ _ hle,qgf _ _ _ hle];generalize (xs.getD i.toNat eC.dflt)=v at hle;cases decide (i<n)with
 |false=>rfl
 |true=>
  simp only[cond_true]
  have hp:q5u (m,clk) v=((if kAt m (keyC v)<m.length then m.set (kAt m (keyC v)) (keyC v,addW (valM m (keyC v)) v.n,bif decide (kAt m (keyC v)<m.length)then(m.getD (kAt m (keyC v)) dK).2.2 else(clk:Int))else m++[(keyC v,addW (valM m (keyC v)) v.n,bif decide (kAt m (keyC v)<m.length)then(m.getD (kAt m (keyC v)) dK).2.2 else(clk:Int))]),bif decide (kAt m (keyC v)<m.length)then clk else clk+1):=by
   unfold q5u qef valM;show(if kAt m (keyC v)<m.length then _ else _)=_;by_cases h:kAt m (keyC v)<m.length
   .simp only[h,if_true,decide_true,cond_true];rfl
   .simp only[h,if_false,decide_false,cond_false]
  unfold stpM;rw[hp];show(bif addW (valM m (keyC v)) v.n==(0:Int)then _ else _)=_;cases addW (valM m (keyC v)) v.n==(0:Int)<;>rfl
theorem zqx:∀b∈q03 Tryz.prog 35,lkey b=22->q06 Tryz.prog b (ziu zit qvx).g:=by
 refine z7l zit qvx (λg hi=>?_) (q0e (λ_=>rfl) (λ_=>rfl) ze7 zqz);obtain⟨xs,n,i,⟨⟩,l,dp,m,clk⟩:=g;obtain⟨h1,h2,h3,h4,h5⟩:=hi _ (List.mem_cons_self ..);have h1:n=(xs.length:Int):=h1;have h3:0<=i:=h3;have hq:=ziq xs n i (l,dp,m,clk);have hle:=qv1 m (keyC (xs.getD i.toNat eC.dflt));show ql7 xs n i () (l,dp,m,clk);unfold ql7;simp only[El.okL_eq,El.ag_eq,q7a,qyv,hq,ze6 _ _ hle,cond_true,decide_true];refine⟨λhlt=>?_,λ_=>?_⟩
 .have hr:=rngP i n _ h1 h3 hlt;refine⟨hr,λcs=>⟨λ_=>?_,λ_=>?_⟩⟩
  .repeat' (first|exact(λ_ _=>rfl)|exact(λ_ _=>trivial)|exact(λ_=>rfl)|exact rfl|apply And.intro|exact trivial|intro _)
   all_goals (rename_i hz _;first|(rw[hz];rfl)|(rw[beq_eq_false_iff_ne.2 hz];rfl)|(simp only[hz];rfl))
  .repeat' (first|exact(λ_ _=>rfl)|exact(λ_ _=>trivial)|exact(λ_=>rfl)|exact rfl|apply And.intro|exact trivial|intro _)
   all_goals (rename_i hz _;first|(rw[hz];rfl)|(rw[beq_eq_false_iff_ne.2 hz];rfl)|(simp only[hz];rfl))
 .repeat' (first|exact(λ_ _=>trivial)|apply And.intro|exact trivial)
def zt7:LTab Tryz.prog:=(ltO2.cons 35 8 (ziy zix qvz) zr0).cons 35 22 (ziu zit qvx) zqx
abbrev zfx:Lam:=zt7.lam
theorem z2a:∀f k L,zfx f k=some L->∀b∈q03 Tryz.prog f,lkey b=k->q06 Tryz.prog b L.g:=zt7.ok
end
end Go.Proofs.YthnojkbkojpadaaGreat
