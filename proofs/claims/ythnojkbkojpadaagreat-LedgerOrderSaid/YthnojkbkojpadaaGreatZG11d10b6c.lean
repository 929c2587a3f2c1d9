/- Summaries: Compact, the inner loop. Printed by treegen.py. -/
import Derived.Test.YthnojkbkojpadaaGreatZG104c7e85
import Derived.Test.YthnojkbkojpadaaGreatZG0639e578
import Derived.Test.YthnojkbkojpadaaGreatZG07dea7ef
import Derived.Test.YthnojkbkojpadaaGreatZG088b3fbb
set_option maxRecDepth 100000
set_option linter.unusedVariables false
set_option linter.unusedSimpArgs false
set_option linter.constructorNameAsVariable false
set_option linter.all false

namespace Go.Proofs.YthnojkbkojpadaaGreat.Su
noncomputable section
open Go.RowKit Go.Sx
abbrev N2:Type:=Nat×Nat
abbrev qem:Type:=Nat×List S×Int×N2×Int
def zhr:LP 1 qem:=.pair (.owl 1 0 0) (.pair (.rowO 1 0 42 eS) (.pair (.slot 1 3 dI) (.pair (.seS 1 4 0 eS.sz) (.slot 1 5 dI))))
def qel(l:Nat)(xs:List S)(k:Int)(q:N2)(j:Int):Ex×qem:=
 bif decide (j<(↑q.snd:Int))then(Ex.normal,l,bif !conj ([(xs.getD (q.fst+j.toNat) eS.dflt).f==(xs.getD (q.fst+(IntKind.i64.wrap (j-(1:Int))).toNat) eS.dflt).f]++([(xs.getD (q.fst+j.toNat) eS.dflt).k==(xs.getD (q.fst+(IntKind.i64.wrap (j-(1:Int))).toNat) eS.dflt).k]++([(xs.getD (q.fst+j.toNat) eS.dflt).a==(xs.getD (q.fst+(IntKind.i64.wrap (j-(1:Int))).toNat) eS.dflt).a]++([(xs.getD (q.fst+j.toNat) eS.dflt).n==(xs.getD (q.fst+(IntKind.i64.wrap (j-(1:Int))).toNat) eS.dflt).n]++([(xs.getD (q.fst+j.toNat) eS.dflt).p0==(xs.getD (q.fst+(IntKind.i64.wrap (j-(1:Int))).toNat) eS.dflt).p0]++([(xs.getD (q.fst+j.toNat) eS.dflt).p1==(xs.getD (q.fst+(IntKind.i64.wrap (j-(1:Int))).toNat) eS.dflt).p1]++([(xs.getD (q.fst+j.toNat) eS.dflt).p2==(xs.getD (q.fst+(IntKind.i64.wrap (j-(1:Int))).toNat) eS.dflt).p2]++([(xs.getD (q.fst+j.toNat) eS.dflt).p3==(xs.getD (q.fst+(IntKind.i64.wrap (j-(1:Int))).toNat) eS.dflt).p3]++[])))++[])))))then(eS.lst (bif !conj ([(xs.getD (q.fst+j.toNat) eS.dflt).f==(xs.getD (q.fst+(IntKind.i64.wrap (j-(1:Int))).toNat) eS.dflt).f]++([(xs.getD (q.fst+j.toNat) eS.dflt).k==(xs.getD (q.fst+(IntKind.i64.wrap (j-(1:Int))).toNat) eS.dflt).k]++([(xs.getD (q.fst+j.toNat) eS.dflt).a==(xs.getD (q.fst+(IntKind.i64.wrap (j-(1:Int))).toNat) eS.dflt).a]++([(xs.getD (q.fst+j.toNat) eS.dflt).n==(xs.getD (q.fst+(IntKind.i64.wrap (j-(1:Int))).toNat) eS.dflt).n]++([(xs.getD (q.fst+j.toNat) eS.dflt).p0==(xs.getD (q.fst+(IntKind.i64.wrap (j-(1:Int))).toNat) eS.dflt).p0]++([(xs.getD (q.fst+j.toNat) eS.dflt).p1==(xs.getD (q.fst+(IntKind.i64.wrap (j-(1:Int))).toNat) eS.dflt).p1]++([(xs.getD (q.fst+j.toNat) eS.dflt).p2==(xs.getD (q.fst+(IntKind.i64.wrap (j-(1:Int))).toNat) eS.dflt).p2]++([(xs.getD (q.fst+j.toNat) eS.dflt).p3==(xs.getD (q.fst+(IntKind.i64.wrap (j-(1:Int))).toNat) eS.dflt).p3]++[])))++[])))))then xs.length else xs.length) (eS.els xs)).set k.toNat (xs.getD (q.fst+j.toNat) eS.dflt)else eS.lst (bif !conj ([(xs.getD (q.fst+j.toNat) eS.dflt).f==(xs.getD (q.fst+(IntKind.i64.wrap (j-(1:Int))).toNat) eS.dflt).f]++([(xs.getD (q.fst+j.toNat) eS.dflt).k==(xs.getD (q.fst+(IntKind.i64.wrap (j-(1:Int))).toNat) eS.dflt).k]++([(xs.getD (q.fst+j.toNat) eS.dflt).a==(xs.getD (q.fst+(IntKind.i64.wrap (j-(1:Int))).toNat) eS.dflt).a]++([(xs.getD (q.fst+j.toNat) eS.dflt).n==(xs.getD (q.fst+(IntKind.i64.wrap (j-(1:Int))).toNat) eS.dflt).n]++([(xs.getD (q.fst+j.toNat) eS.dflt).p0==(xs.getD (q.fst+(IntKind.i64.wrap (j-(1:Int))).toNat) eS.dflt).p0]++([(xs.getD (q.fst+j.toNat) eS.dflt).p1==(xs.getD (q.fst+(IntKind.i64.wrap (j-(1:Int))).toNat) eS.dflt).p1]++([(xs.getD (q.fst+j.toNat) eS.dflt).p2==(xs.getD (q.fst+(IntKind.i64.wrap (j-(1:Int))).toNat) eS.dflt).p2]++([(xs.getD (q.fst+j.toNat) eS.dflt).p3==(xs.getD (q.fst+(IntKind.i64.wrap (j-(1:Int))).toNat) eS.dflt).p3]++[])))++[])))))then xs.length else xs.length) (eS.els xs),bif !conj ([(xs.getD (q.fst+j.toNat) eS.dflt).f==(xs.getD (q.fst+(IntKind.i64.wrap (j-(1:Int))).toNat) eS.dflt).f]++([(xs.getD (q.fst+j.toNat) eS.dflt).k==(xs.getD (q.fst+(IntKind.i64.wrap (j-(1:Int))).toNat) eS.dflt).k]++([(xs.getD (q.fst+j.toNat) eS.dflt).a==(xs.getD (q.fst+(IntKind.i64.wrap (j-(1:Int))).toNat) eS.dflt).a]++([(xs.getD (q.fst+j.toNat) eS.dflt).n==(xs.getD (q.fst+(IntKind.i64.wrap (j-(1:Int))).toNat) eS.dflt).n]++([(xs.getD (q.fst+j.toNat) eS.dflt).p0==(xs.getD (q.fst+(IntKind.i64.wrap (j-(1:Int))).toNat) eS.dflt).p0]++([(xs.getD (q.fst+j.toNat) eS.dflt).p1==(xs.getD (q.fst+(IntKind.i64.wrap (j-(1:Int))).toNat) eS.dflt).p1]++([(xs.getD (q.fst+j.toNat) eS.dflt).p2==(xs.getD (q.fst+(IntKind.i64.wrap (j-(1:Int))).toNat) eS.dflt).p2]++([(xs.getD (q.fst+j.toNat) eS.dflt).p3==(xs.getD (q.fst+(IntKind.i64.wrap (j-(1:Int))).toNat) eS.dflt).p3]++[])))++[])))))then IntKind.i64.wrap (k+(1:Int))else k,q,IntKind.i64.wrap (j+(1:Int)))
 else(Ex.exit (2:Nat),l,eS.ag xs,k,q,j)
def qff(l:Nat)(xs:List S)(k:Int)(q:N2)(j:Int):Prop:=
 (decide (j<(↑q.snd:Int))=true->((0:Int)<=j/\j<(↑q.snd:Int))/\q.fst+j.toNat<xs.length/\((0:Int)<=IntKind.i64.wrap (j-(1:Int))/\IntKind.i64.wrap (j-(1:Int))<(↑q.snd:Int))/\q.fst+(IntKind.i64.wrap (j-(1:Int))).toNat<xs.length/\((!conj ([(xs.getD (q.fst+j.toNat) eS.dflt).f==(xs.getD (q.fst+(IntKind.i64.wrap (j-(1:Int))).toNat) eS.dflt).f]++([(xs.getD (q.fst+j.toNat) eS.dflt).k==(xs.getD (q.fst+(IntKind.i64.wrap (j-(1:Int))).toNat) eS.dflt).k]++([(xs.getD (q.fst+j.toNat) eS.dflt).a==(xs.getD (q.fst+(IntKind.i64.wrap (j-(1:Int))).toNat) eS.dflt).a]++([(xs.getD (q.fst+j.toNat) eS.dflt).n==(xs.getD (q.fst+(IntKind.i64.wrap (j-(1:Int))).toNat) eS.dflt).n]++([(xs.getD (q.fst+j.toNat) eS.dflt).p0==(xs.getD (q.fst+(IntKind.i64.wrap (j-(1:Int))).toNat) eS.dflt).p0]++([(xs.getD (q.fst+j.toNat) eS.dflt).p1==(xs.getD (q.fst+(IntKind.i64.wrap (j-(1:Int))).toNat) eS.dflt).p1]++([(xs.getD (q.fst+j.toNat) eS.dflt).p2==(xs.getD (q.fst+(IntKind.i64.wrap (j-(1:Int))).toNat) eS.dflt).p2]++([(xs.getD (q.fst+j.toNat) eS.dflt).p3==(xs.getD (q.fst+(IntKind.i64.wrap (j-(1:Int))).toNat) eS.dflt).p3]++[])))++[]))))))=true->(0:Int)<=j/\j<(↑q.snd:Int))/\((!conj ([(xs.getD (q.fst+j.toNat) eS.dflt).f==(xs.getD (q.fst+(IntKind.i64.wrap (j-(1:Int))).toNat) eS.dflt).f]++([(xs.getD (q.fst+j.toNat) eS.dflt).k==(xs.getD (q.fst+(IntKind.i64.wrap (j-(1:Int))).toNat) eS.dflt).k]++([(xs.getD (q.fst+j.toNat) eS.dflt).a==(xs.getD (q.fst+(IntKind.i64.wrap (j-(1:Int))).toNat) eS.dflt).a]++([(xs.getD (q.fst+j.toNat) eS.dflt).n==(xs.getD (q.fst+(IntKind.i64.wrap (j-(1:Int))).toNat) eS.dflt).n]++([(xs.getD (q.fst+j.toNat) eS.dflt).p0==(xs.getD (q.fst+(IntKind.i64.wrap (j-(1:Int))).toNat) eS.dflt).p0]++([(xs.getD (q.fst+j.toNat) eS.dflt).p1==(xs.getD (q.fst+(IntKind.i64.wrap (j-(1:Int))).toNat) eS.dflt).p1]++([(xs.getD (q.fst+j.toNat) eS.dflt).p2==(xs.getD (q.fst+(IntKind.i64.wrap (j-(1:Int))).toNat) eS.dflt).p2]++([(xs.getD (q.fst+j.toNat) eS.dflt).p3==(xs.getD (q.fst+(IntKind.i64.wrap (j-(1:Int))).toNat) eS.dflt).p3]++[])))++[]))))))=true->q.fst+j.toNat<xs.length)/\((!conj ([(xs.getD (q.fst+j.toNat) eS.dflt).f==(xs.getD (q.fst+(IntKind.i64.wrap (j-(1:Int))).toNat) eS.dflt).f]++([(xs.getD (q.fst+j.toNat) eS.dflt).k==(xs.getD (q.fst+(IntKind.i64.wrap (j-(1:Int))).toNat) eS.dflt).k]++([(xs.getD (q.fst+j.toNat) eS.dflt).a==(xs.getD (q.fst+(IntKind.i64.wrap (j-(1:Int))).toNat) eS.dflt).a]++([(xs.getD (q.fst+j.toNat) eS.dflt).n==(xs.getD (q.fst+(IntKind.i64.wrap (j-(1:Int))).toNat) eS.dflt).n]++([(xs.getD (q.fst+j.toNat) eS.dflt).p0==(xs.getD (q.fst+(IntKind.i64.wrap (j-(1:Int))).toNat) eS.dflt).p0]++([(xs.getD (q.fst+j.toNat) eS.dflt).p1==(xs.getD (q.fst+(IntKind.i64.wrap (j-(1:Int))).toNat) eS.dflt).p1]++([(xs.getD (q.fst+j.toNat) eS.dflt).p2==(xs.getD (q.fst+(IntKind.i64.wrap (j-(1:Int))).toNat) eS.dflt).p2]++([(xs.getD (q.fst+j.toNat) eS.dflt).p3==(xs.getD (q.fst+(IntKind.i64.wrap (j-(1:Int))).toNat) eS.dflt).p3]++[])))++[]))))))=true->(0:Int)<=k/\k<(↑l:Int))/\((!conj ([(xs.getD (q.fst+j.toNat) eS.dflt).f==(xs.getD (q.fst+(IntKind.i64.wrap (j-(1:Int))).toNat) eS.dflt).f]++([(xs.getD (q.fst+j.toNat) eS.dflt).k==(xs.getD (q.fst+(IntKind.i64.wrap (j-(1:Int))).toNat) eS.dflt).k]++([(xs.getD (q.fst+j.toNat) eS.dflt).a==(xs.getD (q.fst+(IntKind.i64.wrap (j-(1:Int))).toNat) eS.dflt).a]++([(xs.getD (q.fst+j.toNat) eS.dflt).n==(xs.getD (q.fst+(IntKind.i64.wrap (j-(1:Int))).toNat) eS.dflt).n]++([(xs.getD (q.fst+j.toNat) eS.dflt).p0==(xs.getD (q.fst+(IntKind.i64.wrap (j-(1:Int))).toNat) eS.dflt).p0]++([(xs.getD (q.fst+j.toNat) eS.dflt).p1==(xs.getD (q.fst+(IntKind.i64.wrap (j-(1:Int))).toNat) eS.dflt).p1]++([(xs.getD (q.fst+j.toNat) eS.dflt).p2==(xs.getD (q.fst+(IntKind.i64.wrap (j-(1:Int))).toNat) eS.dflt).p2]++([(xs.getD (q.fst+j.toNat) eS.dflt).p3==(xs.getD (q.fst+(IntKind.i64.wrap (j-(1:Int))).toNat) eS.dflt).p3]++[])))++[]))))))=true->k.toNat<xs.length)/\True/\(∀(e:Nat),(e<bif !conj ([(xs.getD (q.fst+j.toNat) eS.dflt).f==(xs.getD (q.fst+(IntKind.i64.wrap (j-(1:Int))).toNat) eS.dflt).f]++([(xs.getD (q.fst+j.toNat) eS.dflt).k==(xs.getD (q.fst+(IntKind.i64.wrap (j-(1:Int))).toNat) eS.dflt).k]++([(xs.getD (q.fst+j.toNat) eS.dflt).a==(xs.getD (q.fst+(IntKind.i64.wrap (j-(1:Int))).toNat) eS.dflt).a]++([(xs.getD (q.fst+j.toNat) eS.dflt).n==(xs.getD (q.fst+(IntKind.i64.wrap (j-(1:Int))).toNat) eS.dflt).n]++([(xs.getD (q.fst+j.toNat) eS.dflt).p0==(xs.getD (q.fst+(IntKind.i64.wrap (j-(1:Int))).toNat) eS.dflt).p0]++([(xs.getD (q.fst+j.toNat) eS.dflt).p1==(xs.getD (q.fst+(IntKind.i64.wrap (j-(1:Int))).toNat) eS.dflt).p1]++([(xs.getD (q.fst+j.toNat) eS.dflt).p2==(xs.getD (q.fst+(IntKind.i64.wrap (j-(1:Int))).toNat) eS.dflt).p2]++([(xs.getD (q.fst+j.toNat) eS.dflt).p3==(xs.getD (q.fst+(IntKind.i64.wrap (j-(1:Int))).toNat) eS.dflt).p3]++[])))++[])))))then xs.length else xs.length)->True)/\∀(e:Nat),(e<bif !conj ([(xs.getD (q.fst+j.toNat) eS.dflt).f==(xs.getD (q.fst+(IntKind.i64.wrap (j-(1:Int))).toNat) eS.dflt).f]++([(xs.getD (q.fst+j.toNat) eS.dflt).k==(xs.getD (q.fst+(IntKind.i64.wrap (j-(1:Int))).toNat) eS.dflt).k]++([(xs.getD (q.fst+j.toNat) eS.dflt).a==(xs.getD (q.fst+(IntKind.i64.wrap (j-(1:Int))).toNat) eS.dflt).a]++([(xs.getD (q.fst+j.toNat) eS.dflt).n==(xs.getD (q.fst+(IntKind.i64.wrap (j-(1:Int))).toNat) eS.dflt).n]++([(xs.getD (q.fst+j.toNat) eS.dflt).p0==(xs.getD (q.fst+(IntKind.i64.wrap (j-(1:Int))).toNat) eS.dflt).p0]++([(xs.getD (q.fst+j.toNat) eS.dflt).p1==(xs.getD (q.fst+(IntKind.i64.wrap (j-(1:Int))).toNat) eS.dflt).p1]++([(xs.getD (q.fst+j.toNat) eS.dflt).p2==(xs.getD (q.fst+(IntKind.i64.wrap (j-(1:Int))).toNat) eS.dflt).p2]++([(xs.getD (q.fst+j.toNat) eS.dflt).p3==(xs.getD (q.fst+(IntKind.i64.wrap (j-(1:Int))).toNat) eS.dflt).p3]++[])))++[])))))then xs.length else xs.length)->True)/\(decide (j<(↑q.snd:Int))=false->∀(e:Nat),e<xs.length->True)
theorem zp7:((q03 Tryz.prog 154).filter λc=>Nat.beq (lkey c) 9).length=1:=by kernel_rfl
theorem zw3(g:qem):(qel g.1 g.2.1 g.2.2.1 g.2.2.2.1 g.2.2.2.2).1=.normal\/(qel g.1 g.2.1 g.2.2.1 g.2.2.2.1 g.2.2.2.2).1∈([.exit 2]:List Ex):=by
 unfold qel
 repeat' (first|(left;rfl)|(right;simp only[cond_true,cond_false];simp;done)|(rw[Bool.cond_eq_ite];split))
abbrev zcw(Inv:qem->List Prop)(m:qem->Nat):LCon:=q2q [.exit 2] (loopBody Tryz.prog 154 9) zhr [] 61 Inv (λg=>qel g.1 g.2.1 g.2.2.1 g.2.2.2.1 g.2.2.2.2) m
theorem zcv(Inv:qem->List Prop)(m:qem->Nat)(hs:∀g,allP (Inv g)->qff g.1 g.2.1 g.2.2.1 g.2.2.2.1 g.2.2.2.2)(hg:Goes (λg:qem=>qel g.1 g.2.1 g.2.2.1 g.2.2.2.1 g.2.2.2.2) m λg=>allP (Inv g)):∀b∈q03 Tryz.prog 154,lkey b=9->q06 Tryz.prog b (zcw Inv m).g:=q0s (Γ:=(MTab.gamz (MTab.of qfr) [] [])) (Λ:=noΛ) (MTab.okz (MTab.of qfr) [] []) q0f 100 154 9 61 zhr [] Inv (λg=>qel g.1 g.2.1 g.2.2.1 g.2.2.2.1 g.2.2.2.2) (λg=>qff g.1 g.2.1 g.2.2.1 g.2.2.2.1 g.2.2.2.2) m default [.exit 2] zp7 (λrd T B HL HB ds g=>by kernel_rfl) (λrd T B HL HB ds g=>by kernel_rfl) hs hg zw3
open Go.RowKit Go.Sx Go.Lp
theorem zhq(g:qem):qel g.1 g.2.1 g.2.2.1 g.2.2.2.1 g.2.2.2.2=cpF eS.dflt g:=by
 obtain⟨l,xs,k,q,j⟩:=g;show qel l xs k q j=cpF eS.dflt (l,xs,k,q,j);unfold qel cpF;simp only[qkm,eqS,Bool.cond_self,El.lst_els,El.ag_eq,El.okL_eq]
theorem zhp:∀b∈q03 Tryz.prog 154,lkey b=9->q06 Tryz.prog b (zcw cpI cpM).g:=by
 refine zcv cpI cpM (λg hi=>?_) ?_
 .obtain⟨l,xs,k,⟨o,n⟩,j⟩:=g;obtain⟨h1,h2,h3,h4,h5,h6,h7⟩:=hi _ (List.mem_cons_self ..);simp only at h1 h2 h3 h4 h5 h6 h7;unfold maxLen at h2;show qff l xs k (o,n) j;unfold qff;simp only[qkm];generalize (!eqS _ _)=c;refine⟨λhc=>?_,λ_ _ _=>trivial⟩;have hc:j<(n:Int):=of_decide_eq_true hc;have w1:IntKind.i64.wrap (j-1)=j-1:=Lp.wr (by omega);rw[w1];refine⟨by omega,by omega,by omega,by omega,λ_=>by omega,λ_=>by omega,λ_=>by omega,λ_=>by omega,trivial,λ_ _=>trivial,λ_ _=>trivial⟩
 .have e:(λg:qem=>qel g.1 g.2.1 g.2.2.1 g.2.2.2.1 g.2.2.2.2)=cpF eS.dflt:=funext zhq;rw[e];exact z5q _
def lt22:LTab Tryz.prog:=LTab.nil.cons 154 9 (zcw cpI cpM) zhp
abbrev ztt:Lam:=lt22.lam
theorem zax:∀f k L,ztt f k=some L->∀b∈q03 Tryz.prog f,lkey b=k->q06 Tryz.prog b L.g:=lt22.ok
abbrev BN:Type:=Bool×Nat
def q3k(l:Nat)(xs:List S)(k:Int)(r:BN):Ex×
 qem:=
 q07 (λg=>qel g.fst g.snd.fst g.snd.snd.fst g.snd.snd.snd.fst g.snd.snd.snd.snd) Lp.cpM (l,eS.ag xs,k,(k.toNat,l-k.toNat),(1:Int))
abbrev qeo:Type:=Nat×List S×Int×BN
def zht:LP 1 qeo:=.pair (.owl 1 0 0) (.pair (.rowO 1 0 42 eS) (.pair (.slot 1 3 dI) (.owB 1 2 0)))
def qen(l:Nat)(xs:List S)(k:Int)(r:BN):Ex×qeo:=
 bif decide (k<(↑l:Int))then bif conj ([(xs.getD k.toNat eS.dflt).f==(xs.getD (IntKind.i64.wrap (k-(1:Int))).toNat eS.dflt).f]++([(xs.getD k.toNat eS.dflt).k==(xs.getD (IntKind.i64.wrap (k-(1:Int))).toNat eS.dflt).k]++([(xs.getD k.toNat eS.dflt).a==(xs.getD (IntKind.i64.wrap (k-(1:Int))).toNat eS.dflt).a]++([(xs.getD k.toNat eS.dflt).n==(xs.getD (IntKind.i64.wrap (k-(1:Int))).toNat eS.dflt).n]++([(xs.getD k.toNat eS.dflt).p0==(xs.getD (IntKind.i64.wrap (k-(1:Int))).toNat eS.dflt).p0]++([(xs.getD k.toNat eS.dflt).p1==(xs.getD (IntKind.i64.wrap (k-(1:Int))).toNat eS.dflt).p1]++([(xs.getD k.toNat eS.dflt).p2==(xs.getD (IntKind.i64.wrap (k-(1:Int))).toNat eS.dflt).p2]++([(xs.getD k.toNat eS.dflt).p3==(xs.getD (IntKind.i64.wrap (k-(1:Int))).toNat eS.dflt).p3]++[])))++[])))))then(Ex.ret,(q3k l xs k r).snd.fst,eS.lst (q3k l xs k r).snd.snd.snd.fst.toNat (eS.els (q3k l xs k r).snd.snd.fst),(q3k l xs k r).snd.snd.snd.fst,true,(q3k l xs k r).snd.snd.snd.fst.toNat)else(Ex.normal,l,eS.ag xs,IntKind.i64.wrap (k+(1:Int)),r)
 else(Ex.exit (0:Nat),l,eS.ag xs,k,r)
def qfg(l:Nat)(xs:List S)(k:Int)(r:BN):Prop:=
 (decide (k<(↑l:Int))=true->((0:Int)<=k/\k<(↑l:Int))/\k.toNat<xs.length/\((0:Int)<=IntKind.i64.wrap (k-(1:Int))/\IntKind.i64.wrap (k-(1:Int))<(↑l:Int))/\(IntKind.i64.wrap (k-(1:Int))).toNat<xs.length/\(conj ([(xs.getD k.toNat eS.dflt).f==(xs.getD (IntKind.i64.wrap (k-(1:Int))).toNat eS.dflt).f]++([(xs.getD k.toNat eS.dflt).k==(xs.getD (IntKind.i64.wrap (k-(1:Int))).toNat eS.dflt).k]++([(xs.getD k.toNat eS.dflt).a==(xs.getD (IntKind.i64.wrap (k-(1:Int))).toNat eS.dflt).a]++([(xs.getD k.toNat eS.dflt).n==(xs.getD (IntKind.i64.wrap (k-(1:Int))).toNat eS.dflt).n]++([(xs.getD k.toNat eS.dflt).p0==(xs.getD (IntKind.i64.wrap (k-(1:Int))).toNat eS.dflt).p0]++([(xs.getD k.toNat eS.dflt).p1==(xs.getD (IntKind.i64.wrap (k-(1:Int))).toNat eS.dflt).p1]++([(xs.getD k.toNat eS.dflt).p2==(xs.getD (IntKind.i64.wrap (k-(1:Int))).toNat eS.dflt).p2]++([(xs.getD k.toNat eS.dflt).p3==(xs.getD (IntKind.i64.wrap (k-(1:Int))).toNat eS.dflt).p3]++[])))++[])))))=true->l<=l/\((0:Int)<=k/\k<=(↑l:Int))/\(∀(e:Nat),e<xs.length->True)/\(l=(eS.ag xs).length/\(eS.ag xs).length<=maxLen/\k.toNat+(l-k.toNat)=(eS.ag xs).length/\(1:Int)<=(1:Int)/\(1:Int)<=(↑(l-k.toNat):Int)/\(0:Int)<=k/\k<=(↑k.toNat:Int)+(1:Int)-(1:Int))/\(q3k l xs k r).snd.fst<=(q3k l xs k r).snd.fst/\((0:Int)<=(q3k l xs k r).snd.snd.snd.fst/\(q3k l xs k r).snd.snd.snd.fst<=(↑(q3k l xs k r).snd.fst:Int))/\(q3k l xs k r).snd.snd.snd.fst.toNat+((q3k l xs k r).snd.fst-(q3k l xs k r).snd.snd.snd.fst.toNat)=(q3k l xs k r).snd.snd.fst.length/\((0:Int)<=(q3k l xs k r).snd.snd.snd.fst/\(q3k l xs k r).snd.snd.snd.fst<=(↑(q3k l xs k r).snd.fst:Int))/\∀(e:Nat),e<(q3k l xs k r).snd.snd.snd.fst.toNat->True)/\(conj ([(xs.getD k.toNat eS.dflt).f==(xs.getD (IntKind.i64.wrap (k-(1:Int))).toNat eS.dflt).f]++([(xs.getD k.toNat eS.dflt).k==(xs.getD (IntKind.i64.wrap (k-(1:Int))).toNat eS.dflt).k]++([(xs.getD k.toNat eS.dflt).a==(xs.getD (IntKind.i64.wrap (k-(1:Int))).toNat eS.dflt).a]++([(xs.getD k.toNat eS.dflt).n==(xs.getD (IntKind.i64.wrap (k-(1:Int))).toNat eS.dflt).n]++([(xs.getD k.toNat eS.dflt).p0==(xs.getD (IntKind.i64.wrap (k-(1:Int))).toNat eS.dflt).p0]++([(xs.getD k.toNat eS.dflt).p1==(xs.getD (IntKind.i64.wrap (k-(1:Int))).toNat eS.dflt).p1]++([(xs.getD k.toNat eS.dflt).p2==(xs.getD (IntKind.i64.wrap (k-(1:Int))).toNat eS.dflt).p2]++([(xs.getD k.toNat eS.dflt).p3==(xs.getD (IntKind.i64.wrap (k-(1:Int))).toNat eS.dflt).p3]++[])))++[])))))=false->∀(e:Nat),e<xs.length->True))/\(decide (k<(↑l:Int))=false->∀(e:Nat),e<xs.length->True)
theorem zp8:((q03 Tryz.prog 154).filter λc=>Nat.beq (lkey c) 4).length=1:=by kernel_rfl
theorem zw5(g:qeo):(qen g.1 g.2.1 g.2.2.1 g.2.2.2).1=.normal\/(qen g.1 g.2.1 g.2.2.1 g.2.2.2).1∈([.ret,.exit 0]:List Ex):=by
 unfold qen
 repeat' (first|(left;rfl)|(right;simp only[cond_true,cond_false];simp;done)|(rw[Bool.cond_eq_ite];split))
abbrev zp9(Inv:qeo->List Prop)(m:qeo->Nat):LCon:=q2q [.ret,.exit 0] (loopBody Tryz.prog 154 4) zht [] 61 Inv (λg=>qen g.1 g.2.1 g.2.2.1 g.2.2.2) m
theorem zcx(Inv:qeo->List Prop)(m:qeo->Nat)(hs:∀g,allP (Inv g)->qfg g.1 g.2.1 g.2.2.1 g.2.2.2)(hg:Goes (λg:qeo=>qen g.1 g.2.1 g.2.2.1 g.2.2.2) m λg=>allP (Inv g)):∀b∈q03 Tryz.prog 154,lkey b=4->q06 Tryz.prog b (zp9 Inv m).g:=q0s (Γ:=(MTab.gamz (MTab.of qfr) [] [])) (Λ:=ztt) (MTab.okz (MTab.of qfr) [] []) zax 100 154 4 61 zht [] Inv (λg=>qen g.1 g.2.1 g.2.2.1 g.2.2.2) (λg=>qfg g.1 g.2.1 g.2.2.1 g.2.2.2) m default [.ret,.exit 0] zp8 (λrd T B HL HB ds g=>by kernel_rfl) (λrd T B HL HB ds g=>by kernel_rfl) hs hg zw5
theorem z5r:(λg:qem=>qel g.1 g.2.1 g.2.2.1 g.2.2.2.1 g.2.2.2.2)=cpF eS.dflt:=funext zhq
theorem zhs(g:qeo):qen g.1 g.2.1 g.2.2.1 g.2.2.2=coF eS.dflt g:=by
 obtain⟨l,xs,k,r⟩:=g;show qen l xs k r=coF eS.dflt (l,xs,k,r);unfold qen q3k coF coQ;simp only[qkm,eqS,El.lst_els,El.ag_eq,El.okL_eq,z5r,zlz]
theorem zw4:∀b∈q03 Tryz.prog 154,lkey b=4->q06 Tryz.prog b (zp9 (coI eS.dflt) coM).g:=by
 refine zcx (coI eS.dflt) coM (λg hi=>?_) ?_
 .obtain⟨l,xs,k,r⟩:=g;obtain⟨h1,h2,h3,h4,h5⟩:=hi _ (List.mem_cons_self ..);simp only at h1 h2 h3 h4 h5;have h2':=h2;unfold maxLen at h2;show qfg l xs k r;unfold qfg q3k;simp only[qkm,El.lst_els,El.ag_eq,El.okL_eq,z5r];have w1:k<=(xs.length:Int)->IntKind.i64.wrap (k-1)=k-1:=λh=>Lp.wr (by omega);rw[w1 h4]
  have hI:k<(l:Int)->allP (cpI ((l,xs,k,(k.toNat,l-k.toNat),1):CpG S)):=λhk q hq=>by
   simp only[cpI,List.mem_singleton]at hq;subst hq;exact⟨h1,h2',by show k.toNat+(l-k.toNat)=xs.length;omega,Int.le_refl _,by show(1:Int)<=((l-k.toNat:Nat):Int);omega,by show 0<=k;omega,by show k<=(k.toNat:Int)+1-1;omega⟩
  have hrun:=λhk=>zho eS.dflt _ (hI hk);simp only at hrun;generalize q07 (cpF eS.dflt) cpM (l,xs,k,(k.toNat,l-k.toNat),1)=q at hrun ⊢;refine⟨λhc=>?_,?_⟩
  .have hc:k<(l:Int):=of_decide_eq_true hc;obtain⟨c1,c2,c3,c4,c5,c6⟩:=hrun hc
   repeat' (first|apply And.intro|intro h)
   all_goals (first|trivial|omega|(unfold maxLen;omega)|skip)
  .repeat' (first|apply And.intro|intro h)
   all_goals (first|trivial|omega|skip)
 .have e:(λg:qeo=>qen g.1 g.2.1 g.2.2.1 g.2.2.2)=coF eS.dflt:=funext zhs;rw[e];exact z6a _
def lt23:LTab Tryz.prog:=(LTab.nil.cons 154 9 (zcw cpI cpM) zhp).cons 154 4 (zp9 (coI eS.dflt) coM) zw4
abbrev zts:Lam:=lt23.lam
theorem zaw:∀f k L,zts f k=some L->∀b∈q03 Tryz.prog f,lkey b=k->q06 Tryz.prog b L.g:=lt23.ok
def q7i(xs:List S)(_u:Unit):Ex×
 qeo:=
 q07 (λg=>qen g.fst g.snd.fst g.snd.snd.fst g.snd.snd.snd) Lp.coM (xs.length,eS.ag xs,(1:Int),false,(0:Nat))
def zp5(xs:List S)(_u:Unit):List S×RM.T RM.self:=
 bif decide ((↑xs.length:Int)<(2:Int))then(eS.ag xs,xs.length)
 else bif exB Ex.ret (q7i xs _u).fst then(eS.ag (q7i xs _u).snd.snd.fst,(q7i xs _u).snd.snd.snd.snd.snd)else(eS.ag (q7i xs _u).snd.snd.fst,(q7i xs _u).snd.fst)
def qn4(xs:List S)(_u:Unit):Prop:=
 (decide ((↑xs.length:Int)<(2:Int))=true->∀(e:Nat),e<xs.length->True)/\(decide ((↑xs.length:Int)<(2:Int))=false->(∀(e:Nat),e<xs.length->True)/\(xs.length=(eS.ag xs).length/\(eS.ag xs).length<=maxLen/\(1:Int)<=(1:Int)/\(1:Int)<=(↑(eS.ag xs).length:Int)/\Lp.q5w (eS.ag xs)=List.take (1:Nat) (eS.ag xs)++Lp.dd ((eS.ag xs).getD (0:Nat) eS.dflt) (List.drop (1:Nat) (eS.ag xs)))/\(exB Ex.ret (q7i xs _u).fst=true->(∀(e:Nat),e<(q7i xs _u).snd.snd.fst.length->True)/\(q7i xs _u).snd.snd.snd.snd.fst=true)/\(exB Ex.ret (q7i xs _u).fst=false->∀(e:Nat),e<(q7i xs _u).snd.snd.fst.length->True))
theorem zp4(pre:List S->DA.T DA.none->List Prop)(h:∀xs g,DA.bd DA.none g->xs.length<=maxLen->(∀p∈pre xs g,p)->qn4 xs g):qht Tryz.prog 154 42 eS DA.none RM.self (λxs g=>zp5 xs g) pre:=qre (Γ:=(MTab.gamz (MTab.of qfr) [] [])) (Λ:=zts) (MTab.okz (MTab.of qfr) [] []) zaw 100 default (λxs g=>qn4 xs g) (λxs g=>by kernel_rfl) (λxs g=>by kernel_rfl) h
def z2r(xs:List S)(s:S):Ex×
 qek:=
 q07 (λg=>qgu g.fst g.snd.fst g.snd.snd.fst g.snd.snd.snd.fst g.snd.snd.snd.snd) Lp.fiM (eS.ag xs,s,(↑xs.length:Int),(0:Int),(0:Int))
def qx0(xs:List S)(s:S):Dv.T dI:=
 bif exB Ex.ret (z2r xs s).fst then(z2r xs s).snd.snd.snd.snd.snd else(-1:Int)
def qm8(xs:List S)(s:S):Prop:=
 eS.okL xs/\(↑xs.length:Int)=(↑(eS.ag xs).length:Int)/\(eS.ag xs).length<=maxLen/\(0:Int)<=(0:Int)/\(0:Int)<=(↑(eS.ag xs).length:Int)
theorem zmm(pre:DA.T aLE->List Prop)(h:∀g,DA.bd aLE g->(∀p∈pre g,p)->qm8 g.1 g.2):q09 Tryz.prog 109 aLE dI (λg=>qx0 g.1 g.2) pre:=q0o (Γ:=(PTab.gamz qfr [] [])) (Λ:=ztu) (PTab.okz qfr [] []) zay 100 default (λg=>qm8 g.1 g.2) (λg=>by kernel_rfl) (λg=>by kernel_rfl) h
theorem zn0:(λg:qek=>qgu g.1 g.2.1 g.2.2.1 g.2.2.2.1 g.2.2.2.2)=fiF eS.dflt (λs x=>q36 x s):=funext zgi
theorem zu6:q09 Tryz.prog 109 aLE dI (λg=>qx0 g.1 g.2) (λ_=>[]):=zmm _ λg hb _=>by
 obtain⟨xs,s⟩:=g;have hl:xs.length<=maxLen:=hb.1.1;unfold qm8;simp only[El.lst_els,El.ag_eq,El.okL_eq]
 repeat' apply And.intro
 all_goals first|trivial|rfl|omega
theorem zmn(xs:List S)(s:S)(h:xs.length<=maxLen):decide (0<=qx0 xs s)=xs.any (q36 · s):=by
 unfold qx0 z2r;simp only[El.lst_els,El.ag_eq,El.okL_eq];rw[zn0];obtain⟨h1,h2⟩:=zuy eS.dflt (λs x=>q36 x s) xs s 0 h;generalize q07 (fiF eS.dflt (λs x=>q36 x s)) fiM (xs,s,(xs.length:Int),0,0)=r at h1 h2;rw[<-h1];cases he:exB Ex.ret r.1 with
 |true=>
  have:=h2 (z4k he).symm;simpa using this
 |false=>rfl
def zjg:PTab Tryz.prog:=(qfr.cons 109 (q1y aLE dI (λg=>qx0 g.1 g.2) (λ_=>[])) (q0k zu6 puI))
def zn7(xs:List S)(s:S):Dv.T q0l:=
 decide (qx0 (eS.ag xs) s>=(0:Int))
def qv6(xs:List S)(s:S):Prop:=
 eS.okL xs
theorem zn6(pre:DA.T aLE->List Prop)(h:∀g,DA.bd aLE g->(∀p∈pre g,p)->qv6 g.1 g.2):q09 Tryz.prog 64 aLE q0l (λg=>zn7 g.1 g.2) pre:=q0o (Γ:=(PTab.gamz zjg [] [])) (Λ:=noΛ) (PTab.okz zjg [] []) q0f 100 default (λg=>qv6 g.1 g.2) (λg=>by kernel_rfl) (λg=>by kernel_rfl) h
end
end Go.Proofs.YthnojkbkojpadaaGreat.Su

namespace Go.Proofs.YthnojkbkojpadaaGreat.Su
open Go.RowKit Go.Sx Go.Lp
def keyS(a:S):List Int:=[a.f,a.k,a.a,a.n,a.p0,a.p1,a.p2,a.p3]
theorem zb1(a b:S)(h:keyS a=keyS b):a=b:=by
 obtain⟨f,k,c,n,p0,p1,p2,p3⟩:=a;obtain⟨f',k',c',n',p0',p1',p2',p3'⟩:=b;simp only[keyS,List.cons.injEq,and_true]at h;obtain⟨rfl,rfl,rfl,rfl,rfl,rfl,rfl,rfl⟩:=h;rfl
theorem cmp3(x y:Int):(x<y/\q08 x y=-1)\/(y<x/\q08 x y=1)\/(x=y/\q08 x y=0):=by
 unfold q08;by_cases h:x<y
 .left;simp[h]
 .by_cases h2:y<x
  .right;left;simp[h,h2]
  .right;right;refine⟨by omega,?_⟩;simp[h,h2]
theorem qn7(x y:Int):q0w x y=q08 x y:=rfl
theorem qhf(a b:S):q1u a b=lexC (keyS a) (keyS b):=by
 unfold q1u keyS;simp only[qn7,lexC];rcases cmp3 a.f b.f with ⟨h,e⟩|⟨h,e⟩|⟨h,e⟩<;>simp only[e]
 .simp[h]
 .have:¬a.f<b.f:=by omega
  simp[h,this]
 rw[if_neg (by omega),if_neg (by omega)];rcases cmp3 a.k b.k with ⟨h,e⟩|⟨h,e⟩|⟨h,e⟩<;>simp only[e]
 .simp[h]
 .have:¬a.k<b.k:=by omega
  simp[h,this]
 rw[if_neg (by omega),if_neg (by omega)];rcases cmp3 a.a b.a with ⟨h,e⟩|⟨h,e⟩|⟨h,e⟩<;>simp only[e]
 .simp[h]
 .have:¬a.a<b.a:=by omega
  simp[h,this]
 rw[if_neg (by omega),if_neg (by omega)];rcases cmp3 a.n b.n with ⟨h,e⟩|⟨h,e⟩|⟨h,e⟩<;>simp only[e]
 .simp[h]
 .have:¬a.n<b.n:=by omega
  simp[h,this]
 rw[if_neg (by omega),if_neg (by omega)];rcases cmp3 a.p0 b.p0 with ⟨h,e⟩|⟨h,e⟩|⟨h,e⟩<;>simp only[e]
 .simp[h]
 .have:¬a.p0<b.p0:=by omega
  simp[h,this]
 rw[if_neg (by omega),if_neg (by omega)];rcases cmp3 a.p1 b.p1 with ⟨h,e⟩|⟨h,e⟩|⟨h,e⟩<;>simp only[e]
 .simp[h]
 .have:¬a.p1<b.p1:=by omega
  simp[h,this]
 rw[if_neg (by omega),if_neg (by omega)];rcases cmp3 a.p2 b.p2 with ⟨h,e⟩|⟨h,e⟩|⟨h,e⟩<;>simp only[e]
 .simp[h]
 .have:¬a.p2<b.p2:=by omega
  simp[h,this]
 rw[if_neg (by omega),if_neg (by omega)];rcases cmp3 a.p3 b.p3 with ⟨h,e⟩|⟨h,e⟩|⟨h,e⟩<;>simp only[e]
 .simp[h]
 .have:¬a.p3<b.p3:=by omega
  simp[h,this]
 rw[if_neg (by omega),if_neg (by omega)];simp
theorem qo7(a b:S):q1w a b=lexC (keyS a) (keyS b):=by
 unfold q1w keyS;simp only[lexC,Bool.cond_decide,gt_iff_lt]
theorem toS:TO λa b=>q1u a b:=qte keyS zb1 λa b=>by rw[qhf]
end Go.Proofs.YthnojkbkojpadaaGreat.Su

namespace Go.Proofs.YthnojkbkojpadaaGreat.Su
open Go.RowKit Go.Sx Go.Lp Go.Shelf
def qzd:Go.Shelf.Ren:=⟨λ|6=>152|15=>138|14=>187|28=>172|29=>173|20=>210|21=>211|22=>212|23=>213|24=>214|25=>215|26=>216|27=>217|46=>225|47=>202|48=>203|49=>226|50=>227|57=>229|n=>n,λ|22=>39|24=>42|25=>203|3=>3|39=>188|0=>0|53=>218|55=>220|4=>4|46=>212|45=>211|50=>27|5=>5|9=>9|66=>237|70=>241|76=>259|77=>260|n=>n,λ|n=>n⟩
theorem zxu:SlLaysF0.n6 Tryz.prog qzd:={
 mixed:=by kernel_rfl,
 f6:=⟨Tryz.f152.name,by decide,Tryz.func152.trans (congrArg some (by kernel_rfl))⟩,
 f14:=⟨Tryz.f187.name,by decide,Tryz.func187.trans (congrArg some (by kernel_rfl))⟩,
 f15:=Tryz.func138.trans (congrArg some (by kernel_rfl)),
 f20:=⟨Tryz.f210.name,by decide,Tryz.func210.trans (congrArg some (by kernel_rfl))⟩,
 f21:=⟨Tryz.f211.name,by decide,Tryz.func211.trans (congrArg some (by kernel_rfl))⟩,
 f22:=⟨Tryz.f212.name,by decide,Tryz.func212.trans (congrArg some (by kernel_rfl))⟩,
 f23:=⟨Tryz.f213.name,by decide,Tryz.func213.trans (congrArg some (by kernel_rfl))⟩,
 f24:=⟨Tryz.f214.name,by decide,Tryz.func214.trans (congrArg some (by kernel_rfl))⟩,
 f25:=⟨Tryz.f215.name,by decide,Tryz.func215.trans (congrArg some (by kernel_rfl))⟩,
 f26:=⟨Tryz.f216.name,by decide,Tryz.func216.trans (congrArg some (by kernel_rfl))⟩,
 f27:=⟨Tryz.f217.name,by decide,Tryz.func217.trans (congrArg some (by kernel_rfl))⟩,
 f28:=Tryz.func172.trans (congrArg some (by kernel_rfl)),
 f29:=Tryz.func173.trans (congrArg some (by kernel_rfl)),
 f46:=⟨Tryz.f225.name,by decide,Tryz.func225.trans (congrArg some (by kernel_rfl))⟩,
 f47:=Tryz.func202.trans (congrArg some (by kernel_rfl)),
 f48:=Tryz.func203.trans (congrArg some (by kernel_rfl)),
 f49:=⟨Tryz.f226.name,by decide,Tryz.func226.trans (congrArg some (by kernel_rfl))⟩,
 f50:=⟨Tryz.f227.name,by decide,Tryz.func227.trans (congrArg some (by kernel_rfl))⟩,
 f57:=⟨Tryz.f229.name,by decide,Tryz.func229.trans (congrArg some (by kernel_rfl))⟩,
 t0:=Tryz.underlying0,
 a0:=Tryz.isAgg0,
 z0:=Tryz.sizeOf0,
 v0:=Tryz.zeroValue0,
 t3:=Tryz.underlying3,
 a3:=Tryz.isAgg3,
 z3:=Tryz.sizeOf3,
 v3:=Tryz.zeroValue3,
 t4:=Tryz.underlying4,
 a4:=Tryz.isAgg4,
 z4:=Tryz.sizeOf4,
 v4:=Tryz.zeroValue4,
 t5:=Tryz.underlying5,
 a5:=Tryz.isAgg5,
 z5:=Tryz.sizeOf5,
 v5:=Tryz.zeroValue5,
 t9:=Tryz.underlying9,
 a9:=Tryz.isAgg9,
 z9:=Tryz.sizeOf9,
 v9:=Tryz.zeroValue9,
 t22:=Tryz.underlying39,
 a22:=Tryz.isAgg39,
 z22:=Tryz.sizeOf39,
 v22:=Tryz.zeroValue39,
 t25:=Tryz.underlying203,
 a25:=Tryz.isAgg203,
 z25:=Tryz.sizeOf203,
 v25:=Tryz.zeroValue203,
 t39:=Tryz.underlying188,
 a39:=Tryz.isAgg188,
 z39:=Tryz.sizeOf188,
 v39:=Tryz.zeroValue188,
 t45:=Tryz.underlying211,
 a45:=Tryz.isAgg211,
 z45:=Tryz.sizeOf211,
 v45:=Tryz.zeroValue211,
 t46:=Tryz.underlying212,
 a46:=Tryz.isAgg212,
 z46:=Tryz.sizeOf212,
 v46:=Tryz.zeroValue212,
 t50:=Tryz.underlying27,
 a50:=Tryz.isAgg27,
 z50:=Tryz.sizeOf27,
 v50:=Tryz.zeroValue27,
 t53:=Tryz.underlying218,
 a53:=Tryz.isAgg218,
 z53:=Tryz.sizeOf218,
 v53:=Tryz.zeroValue218,
 t55:=Tryz.underlying220,
 a55:=Tryz.isAgg220,
 z55:=Tryz.sizeOf220,
 v55:=Tryz.zeroValue220,
 t66:=Tryz.underlying237,
 a66:=Tryz.isAgg237,
 z66:=Tryz.sizeOf237,
 v66:=Tryz.zeroValue237,
 t70:=Tryz.underlying241,
 a70:=Tryz.isAgg241,
 z70:=Tryz.sizeOf241,
 v70:=Tryz.zeroValue241,
 t76:=Tryz.underlying259,
 a76:=Tryz.isAgg259,
 z76:=Tryz.sizeOf259,
 v76:=Tryz.zeroValue259,
 t77:=Tryz.underlying260,
 a77:=Tryz.isAgg260,
 z77:=Tryz.sizeOf260,
 v77:=Tryz.zeroValue260}
abbrev qkk:Dv Unit:=.tup .none
abbrev qqh:DA Unit:=.one (dFn 153)
def qod(xs:List S)(_:Unit):List Prop:=[xs.length<4611686018427387904]
theorem z8b:qht Tryz.prog 152 42 eS qqh (.pure qkk) (λxs _=>(q2g (λa b=>q1u a b) xs,())) qod:=by
 have h:=qtn (P:=Tryz.prog) (A:=eS) (t:=42) (g:=153) (cf:=λa b=>q1u a b) (pre:=λ_=>[]) zxu Tryz.isAgg42 Tryz.sizeOf42 (by decide) (Go.Proofs.enters_of Tryz.func153 (by kernel_rfl) rfl) toS.swo qko;intro w F L xs g v0 vs h1 h2 h3 h4 h5 h6 h7;refine h w F L xs g v0 vs h1 h2 h3 h4 (λp hp=>?_) h6 h7;simp only[List.mem_cons,List.not_mem_nil,or_false]at hp;rcases hp with rfl|rfl|rfl
 .exact h5 _ (List.mem_cons_self ..)
 .exactλx _ y _ k1 k2=>toS.anti x y k1 k2
 .exactλx _ y _ p hp=>by cases hp
end Go.Proofs.YthnojkbkojpadaaGreat.Su

namespace Go.Proofs.YthnojkbkojpadaaGreat.Su
noncomputable section
open Go.RowKit Go.Sx Go.Lp
theorem z5s:(λg:qeo=>qen g.1 g.2.1 g.2.2.1 g.2.2.2)=coF eS.dflt:=funext zhs
theorem z5p(xs:List S)(h:xs.length<=maxLen)(h2:¬(xs.length:Int)<2):allP (coI eS.dflt ((xs.length,xs,1,false,0):CoG S)):=λq hq=>by
 simp only[coI,List.mem_singleton]at hq;subst hq;refine⟨trivial,h,Int.le_refl _,by show(1:Int)<=(xs.length:Int);omega,?_⟩
 match xs,h2 with
 |x::r,_=>rfl
theorem zp6:qht Tryz.prog 154 42 eS DA.none RM.self (λxs _=>(q5w xs,(q5w xs).length)) (λ_ _=>[]):=by
 have h:=zp4 (λ_ _=>[]) λxs g _ hl _=>by
  unfold qn4 q7i;simp only[El.lst_els,El.ag_eq,El.okL_eq];rw[z5s];refine⟨λ_ _ _=>trivial,λhc=>?_⟩;have hc:¬(xs.length:Int)<2:=of_decide_eq_false hc;have hI:=z5p xs hl hc;refine⟨λ_ _=>trivial,⟨trivial,(hI _ (List.mem_cons_self ..)).2⟩,λhe=>⟨λ_ _=>trivial,?_⟩,λ_ _ _=>trivial⟩;rcases zhv eS.dflt _ hI with ⟨h1,h2,h3,h4⟩|⟨h1,_⟩
  .rw[h4]
  .rw[h1]at he;cases he
 refine z1e h λxs g _ hl _=>?_;show zp5 xs g=_;unfold zp5 q7i;simp only[El.lst_els,El.ag_eq,El.okL_eq];rw[z5s];by_cases hc:(xs.length:Int)<2
 .simp only[hc,decide_true,cond_true];rw[qxt (by omega)]
 .simp only[hc,decide_false,cond_false];rcases zhv eS.dflt _ (z5p xs hl hc)with ⟨h1,h2,h3,h4⟩|⟨h1,h2,h3,h4⟩
  .rw[h1,h3,h4];rfl
  .rw[h1,h3,h2];simp only at h4;rw[h4];rfl
theorem zn8:q09 Tryz.prog 64 aLE q0l (λg=>g.1.any (q36 · g.2)) (λ_=>[]):=by
 have h:=zn6 (λ_=>[]) λg _ _=>q3j g.1;refine q19 h λg hb _=>?_;show zn7 g.1 g.2=_;unfold zn7;simp only[El.lst_els,El.ag_eq,El.okL_eq];exact zmn g.1 g.2 hb.1.1
def zej:PTab Tryz.prog:=zjg.cons 64 (q1y aLE q0l (λg=>g.1.any (q36 · g.2)) (λ_=>[])) (q0k zn8 puB)
def qau:MTab Tryz.prog:=((MTab.of zej).consM 152 (zqb 42 eS qqh (.pure qkk) (λxs _=>(q2g (λa b=>q1u a b) xs,())) qod) (qsv z8b)).consM 154 (zqb 42 eS DA.none RM.self (λxs _=>(q5w xs,(q5w xs).length)) (λ_ _=>[])) (qsv zp6)
open Go.RowKit Go.Sx
abbrev la_G:Type:=List S×Int×Int×Unit×Int
def ztx:LP 0 la_G:=.pair (.slot 0 9 dLS) (.pair (.slot 0 10 dI) (.pair (.slot 0 11 dI) (.pair (.fix 0 2 (.k (.slice none 0 0))) (.slot 0 3 dI))))
def la_R(xs:List S)(n:Int)(i:Int)(_u:Unit)(e:Int):Ex×la_G:=
 bif decide (i<n)then bif !q2y (xs.getD i.toNat eS.dflt)then(Ex.ret,eS.ag xs,n,i,(),(20:Int))else(Ex.normal,eS.ag xs,n,IntKind.i64.wrap (i+(1:Int)),(),e)
 else(Ex.exit (0:Nat),eS.ag xs,n,i,(),e)
def z2h(xs:List S)(n:Int)(i:Int)(_u:Unit)(e:Int):Prop:=
 (decide (i<n)=true->((0:Int)<=i/\i<(↑xs.length:Int))/\((!q2y (xs.getD i.toNat eS.dflt))=true->eS.okL xs)/\((!q2y (xs.getD i.toNat eS.dflt))=false->eS.okL xs))/\(decide (i<n)=false->eS.okL xs)
theorem ztv:((q03 Tryz.prog 124).filter λc=>Nat.beq (lkey c) 2).length=1:=by kernel_rfl
theorem zyg(g:la_G):(la_R g.1 g.2.1 g.2.2.1 g.2.2.2.1 g.2.2.2.2).1=.normal\/(la_R g.1 g.2.1 g.2.2.1 g.2.2.2.1 g.2.2.2.2).1∈([.ret,.exit 0]:List Ex):=by
 unfold la_R
 repeat' (first|(left;rfl)|(right;simp only[cond_true,cond_false];simp;done)|(rw[Bool.cond_eq_ite];split))
abbrev la_C(Inv:la_G->List Prop)(m:la_G->Nat):LCon:=q2q [.ret,.exit 0] (loopBody Tryz.prog 124 2) ztx [] 54 Inv (λg=>la_R g.1 g.2.1 g.2.2.1 g.2.2.2.1 g.2.2.2.2) m
theorem zmb(Inv:la_G->List Prop)(m:la_G->Nat)(hs:∀g,allP (Inv g)->z2h g.1 g.2.1 g.2.2.1 g.2.2.2.1 g.2.2.2.2)(hg:Goes (λg:la_G=>la_R g.1 g.2.1 g.2.2.1 g.2.2.2.1 g.2.2.2.2) m λg=>allP (Inv g)):∀b∈q03 Tryz.prog 124,lkey b=2->q06 Tryz.prog b (la_C Inv m).g:=q0s (Γ:=(MTab.gamz qau [] [])) (Λ:=noΛ) (MTab.okz qau [] []) q0f 100 124 2 54 ztx [] Inv (λg=>la_R g.1 g.2.1 g.2.2.1 g.2.2.2.1 g.2.2.2.2) (λg=>z2h g.1 g.2.1 g.2.2.1 g.2.2.2.1 g.2.2.2.2) m default [.ret,.exit 0] ztv (λrd T B HL HB ds g=>by kernel_rfl) (λrd T B HL HB ds g=>by kernel_rfl) hs hg zyg
abbrev lb_G:Type:=List S×List S×List S×Int×Int×Unit×Int
def ztn:LP 0 lb_G:=.pair (.slot 0 0 dLS) (.pair (.row 0 6 42 eS) (.pair (.slot 0 19 dLS) (.pair (.slot 0 20 dI) (.pair (.slot 0 21 dI) (.pair (.fix 0 2 (.k (.slice none 0 0))) (.slot 0 3 dI))))))
def lb_R(xs:List S)(out:List S)(ys:List S)(n:Int)(i:Int)(_u:Unit)(e:Int):Ex×lb_G:=
 bif decide (i<n)then bif (ys.getD i.toNat eS.dflt).f !=(xs.getD (0:Nat) eS.dflt).f||q3u (ys.getD i.toNat eS.dflt)!=q3u (xs.getD (0:Nat) eS.dflt)then(Ex.ret,eS.ag xs,eS.ag out,eS.ag ys,n,i,(),(11:Int))else bif !(eS.ag xs).any λx=>q36 x (ys.getD i.toNat eS.dflt)then(Ex.normal,eS.ag xs,eS.lst (min (out.length+(1:Nat)) out.length) (eS.els out)++List.map (λx=>ys.getD i.toNat eS.dflt) (List.range (out.length+(1:Nat)-out.length)),eS.ag ys,n,IntKind.i64.wrap (i+(1:Int)),(),e)else(Ex.normal,eS.ag xs,eS.ag out,eS.ag ys,n,IntKind.i64.wrap (i+(1:Int)),(),e)
 else(Ex.exit (2:Nat),eS.ag xs,eS.ag out,eS.ag ys,n,i,(),e)
def qm5(xs:List S)(out:List S)(ys:List S)(n:Int)(i:Int)(_u:Unit)(e:Int):Prop:=
 (decide (i<n)=true->((0:Int)<=i/\i<(↑ys.length:Int))/\((0:Int)<=(0:Int)/\(0:Int)<(↑xs.length:Int))/\((!(ys.getD i.toNat eS.dflt).f !=(xs.getD (0:Nat) eS.dflt).f)=true->(0:Int)<=(0:Int)/\(0:Int)<(↑xs.length:Int))/\(((ys.getD i.toNat eS.dflt).f !=(xs.getD (0:Nat) eS.dflt).f||q3u (ys.getD i.toNat eS.dflt)!=q3u (xs.getD (0:Nat) eS.dflt))=true->eS.okL xs/\out.length<=out.length/\(∀(e:Nat),e<out.length->True)/\eS.okL ys)/\(((ys.getD i.toNat eS.dflt).f !=(xs.getD (0:Nat) eS.dflt).f||q3u (ys.getD i.toNat eS.dflt)!=q3u (xs.getD (0:Nat) eS.dflt))=false->eS.okL xs/\((!(eS.ag xs).any λx=>q36 x (ys.getD i.toNat eS.dflt))=true->(out.length<=out.length/\True/\out.length+(1:Nat)<=maxLen/\(out.length+(1:Nat))*Tryz.prog.types[(42:Nat)].bytes<=(140737488355328:Nat))/\eS.okL xs/\out.length+(1:Nat)<=out.length+(1:Nat)/\(∀(e:Nat),e<min (out.length+(1:Nat)) out.length->True)/\(∀(e:Nat),e<out.length+(1:Nat)-out.length->True)/\eS.okL ys)/\((!(eS.ag xs).any λx=>q36 x (ys.getD i.toNat eS.dflt))=false->eS.okL xs/\out.length<=out.length/\(∀(e:Nat),e<out.length->True)/\eS.okL ys)))/\(decide (i<n)=false->eS.okL xs/\out.length<=out.length/\(∀(e:Nat),e<out.length->True)/\eS.okL ys)
theorem ztl:((q03 Tryz.prog 124).filter λc=>Nat.beq (lkey c) 9).length=1:=by kernel_rfl
theorem zye(g:lb_G):(lb_R g.1 g.2.1 g.2.2.1 g.2.2.2.1 g.2.2.2.2.1 g.2.2.2.2.2.1 g.2.2.2.2.2.2).1=.normal\/(lb_R g.1 g.2.1 g.2.2.1 g.2.2.2.1 g.2.2.2.2.1 g.2.2.2.2.2.1 g.2.2.2.2.2.2).1∈([.ret,.exit 2]:List Ex):=by
 unfold lb_R
 repeat' (first|(left;rfl)|(right;simp only[cond_true,cond_false];simp;done)|(rw[Bool.cond_eq_ite];split))
abbrev lb_C(Inv:lb_G->List Prop)(m:lb_G->Nat):LCon:=q2q [.ret,.exit 2] (loopBody Tryz.prog 124 9) ztn [] 54 Inv (λg=>lb_R g.1 g.2.1 g.2.2.1 g.2.2.2.1 g.2.2.2.2.1 g.2.2.2.2.2.1 g.2.2.2.2.2.2) m
theorem zm8(Inv:lb_G->List Prop)(m:lb_G->Nat)(hs:∀g,allP (Inv g)->qm5 g.1 g.2.1 g.2.2.1 g.2.2.2.1 g.2.2.2.2.1 g.2.2.2.2.2.1 g.2.2.2.2.2.2)(hg:Goes (λg:lb_G=>lb_R g.1 g.2.1 g.2.2.1 g.2.2.2.1 g.2.2.2.2.1 g.2.2.2.2.2.1 g.2.2.2.2.2.2) m λg=>allP (Inv g)):∀b∈q03 Tryz.prog 124,lkey b=9->q06 Tryz.prog b (lb_C Inv m).g:=q0s (Γ:=(MTab.gamz qau [] [])) (Λ:=noΛ) (MTab.okz qau [] []) q0f 100 124 9 54 ztn [] Inv (λg=>lb_R g.1 g.2.1 g.2.2.1 g.2.2.2.1 g.2.2.2.2.1 g.2.2.2.2.2.1 g.2.2.2.2.2.2) (λg=>qm5 g.1 g.2.1 g.2.2.1 g.2.2.2.1 g.2.2.2.2.1 g.2.2.2.2.2.1 g.2.2.2.2.2.2) m default [.ret,.exit 2] ztl (λrd T B HL HB ds g=>by kernel_rfl) (λrd T B HL HB ds g=>by kernel_rfl) hs hg zye
abbrev qec:Type:=List S×Unit×S×List S×Bool×Int
def zf5:LP 1 qec:=.pair (.slot 1 0 dLS) (.pair (.fix 1 3 (.p 0 0)) (.pair (.obj 1 0 42 eS) (.pair (.row 1 5 42 eS) (.pair (.slot 1 6 q0l) (.slot 1 7 dI)))))
def qeb(xs:List S)(_u:Unit)(s:S)(out:List S)(b:Bool)(i:Int):Ex×qec:=
 bif decide (i<(↑xs.length:Int))then bif !(conj ([(xs.getD i.toNat eS.dflt).f==s.f]++([(xs.getD i.toNat eS.dflt).k==s.k]++([(xs.getD i.toNat eS.dflt).a==s.a]++([(xs.getD i.toNat eS.dflt).n==s.n]++([(xs.getD i.toNat eS.dflt).p0==s.p0]++([(xs.getD i.toNat eS.dflt).p1==s.p1]++([(xs.getD i.toNat eS.dflt).p2==s.p2]++([(xs.getD i.toNat eS.dflt).p3==s.p3]++[])))++[])))))||b)&&decide (q1w s (xs.getD i.toNat eS.dflt)<(0:Int))then(Ex.normal,eS.ag xs,(),s,eS.lst (min (min (out.length+(1:Nat)+(1:Nat)) (out.length+(1:Nat))) out.length) (eS.els out)++List.map (λx=>s) (List.range (min (out.length+(1:Nat)+(1:Nat)) (out.length+(1:Nat))-out.length))++List.map (λx=>xs.getD i.toNat eS.dflt) (List.range (out.length+(1:Nat)+(1:Nat)-(out.length+(1:Nat)))),true,IntKind.i64.wrap (i+(1:Int)))else(Ex.normal,eS.ag xs,(),s,eS.lst (min (out.length+(1:Nat)) out.length) (eS.els out)++List.map (λx=>xs.getD i.toNat eS.dflt) (List.range (out.length+(1:Nat)-out.length)),conj ([(xs.getD i.toNat eS.dflt).f==s.f]++([(xs.getD i.toNat eS.dflt).k==s.k]++([(xs.getD i.toNat eS.dflt).a==s.a]++([(xs.getD i.toNat eS.dflt).n==s.n]++([(xs.getD i.toNat eS.dflt).p0==s.p0]++([(xs.getD i.toNat eS.dflt).p1==s.p1]++([(xs.getD i.toNat eS.dflt).p2==s.p2]++([(xs.getD i.toNat eS.dflt).p3==s.p3]++[])))++[])))))||b,IntKind.i64.wrap (i+(1:Int)))
 else(Ex.exit (0:Nat),eS.ag xs,(),s,eS.ag out,b,i)
def qew(xs:List S)(_u:Unit)(s:S)(out:List S)(b:Bool)(i:Int):Prop:=
 (decide (i<(↑xs.length:Int))=true->((0:Int)<=i/\i<(↑xs.length:Int))/\((!(conj ([(xs.getD i.toNat eS.dflt).f==s.f]++([(xs.getD i.toNat eS.dflt).k==s.k]++([(xs.getD i.toNat eS.dflt).a==s.a]++([(xs.getD i.toNat eS.dflt).n==s.n]++([(xs.getD i.toNat eS.dflt).p0==s.p0]++([(xs.getD i.toNat eS.dflt).p1==s.p1]++([(xs.getD i.toNat eS.dflt).p2==s.p2]++([(xs.getD i.toNat eS.dflt).p3==s.p3]++[])))++[])))))||b))=true->(0:Int)<=i/\i<(↑xs.length:Int))/\((!(conj ([(xs.getD i.toNat eS.dflt).f==s.f]++([(xs.getD i.toNat eS.dflt).k==s.k]++([(xs.getD i.toNat eS.dflt).a==s.a]++([(xs.getD i.toNat eS.dflt).n==s.n]++([(xs.getD i.toNat eS.dflt).p0==s.p0]++([(xs.getD i.toNat eS.dflt).p1==s.p1]++([(xs.getD i.toNat eS.dflt).p2==s.p2]++([(xs.getD i.toNat eS.dflt).p3==s.p3]++[])))++[])))))||b)&&decide (q1w s (xs.getD i.toNat eS.dflt)<(0:Int)))=true->(out.length<=out.length/\True/\out.length+(1:Nat)<=maxLen/\(out.length+(1:Nat))*Tryz.prog.types[(42:Nat)].bytes<=(140737488355328:Nat))/\((0:Int)<=i/\i<(↑xs.length:Int))/\(out.length+(1:Nat)<=out.length+(1:Nat)/\True/\out.length+(1:Nat)+(1:Nat)<=maxLen/\(out.length+(1:Nat)+(1:Nat))*Tryz.prog.types[(42:Nat)].bytes<=(140737488355328:Nat))/\eS.okL xs/\out.length+(1:Nat)+(1:Nat)<=out.length+(1:Nat)+(1:Nat)/\(∀(e:Nat),e<min (min (out.length+(1:Nat)+(1:Nat)) (out.length+(1:Nat))) out.length->True)/\(∀(e:Nat),e<min (out.length+(1:Nat)+(1:Nat)) (out.length+(1:Nat))-out.length->True)/\∀(e:Nat),e<out.length+(1:Nat)+(1:Nat)-(out.length+(1:Nat))->True)/\((!(conj ([(xs.getD i.toNat eS.dflt).f==s.f]++([(xs.getD i.toNat eS.dflt).k==s.k]++([(xs.getD i.toNat eS.dflt).a==s.a]++([(xs.getD i.toNat eS.dflt).n==s.n]++([(xs.getD i.toNat eS.dflt).p0==s.p0]++([(xs.getD i.toNat eS.dflt).p1==s.p1]++([(xs.getD i.toNat eS.dflt).p2==s.p2]++([(xs.getD i.toNat eS.dflt).p3==s.p3]++[])))++[])))))||b)&&decide (q1w s (xs.getD i.toNat eS.dflt)<(0:Int)))=false->((0:Int)<=i/\i<(↑xs.length:Int))/\(out.length<=out.length/\True/\out.length+(1:Nat)<=maxLen/\(out.length+(1:Nat))*Tryz.prog.types[(42:Nat)].bytes<=(140737488355328:Nat))/\eS.okL xs/\out.length+(1:Nat)<=out.length+(1:Nat)/\(∀(e:Nat),e<min (out.length+(1:Nat)) out.length->True)/\∀(e:Nat),e<out.length+(1:Nat)-out.length->True))/\(decide (i<(↑xs.length:Int))=false->eS.okL xs/\out.length<=out.length/\∀(e:Nat),e<out.length->True)
theorem zkm:((q03 Tryz.prog 163).filter λc=>Nat.beq (lkey c) 4).length=1:=by kernel_rfl
theorem zs8(g:qec):(qeb g.1 g.2.1 g.2.2.1 g.2.2.2.1 g.2.2.2.2.1 g.2.2.2.2.2).1=.normal\/(qeb g.1 g.2.1 g.2.2.1 g.2.2.2.1 g.2.2.2.2.1 g.2.2.2.2.2).1∈([.exit 0]:List Ex):=by
 unfold qeb
 repeat' (first|(left;rfl)|(right;simp only[cond_true,cond_false];simp;done)|(rw[Bool.cond_eq_ite];split))
abbrev zkn(Inv:qec->List Prop)(m:qec->Nat):LCon:=q2q [.exit 0] (loopBody Tryz.prog 163 4) zf5 [] 49 Inv (λg=>qeb g.1 g.2.1 g.2.2.1 g.2.2.2.1 g.2.2.2.2.1 g.2.2.2.2.2) m
theorem z98(Inv:qec->List Prop)(m:qec->Nat)(hs:∀g,allP (Inv g)->qew g.1 g.2.1 g.2.2.1 g.2.2.2.1 g.2.2.2.2.1 g.2.2.2.2.2)(hg:Goes (λg:qec=>qeb g.1 g.2.1 g.2.2.1 g.2.2.2.1 g.2.2.2.2.1 g.2.2.2.2.2) m λg=>allP (Inv g)):∀b∈q03 Tryz.prog 163,lkey b=4->q06 Tryz.prog b (zkn Inv m).g:=q0s (Γ:=(MTab.gamz qau [] [])) (Λ:=noΛ) (MTab.okz qau [] []) q0f 100 163 4 49 zf5 [] Inv (λg=>qeb g.1 g.2.1 g.2.2.1 g.2.2.2.1 g.2.2.2.2.1 g.2.2.2.2.2) (λg=>qew g.1 g.2.1 g.2.2.1 g.2.2.2.1 g.2.2.2.2.1 g.2.2.2.2.2) m default [.exit 0] zkm (λrd T B HL HB ds g=>by kernel_rfl) (λrd T B HL HB ds g=>by kernel_rfl) hs hg zs8
abbrev qea:Type:=List S×Int×Unit×Int
def zf3:LP 0 qea:=.pair (.slot 0 0 dLS) (.pair (.slot 0 4 dI) (.pair (.fix 0 2 (.k (.slice none 0 0))) (.slot 0 3 dI)))
def qe9(xs:List S)(i:Int)(_u:Unit)(e:Int):Ex×qea:=
 bif decide (i<(↑xs.length:Int))then bif q1f (xs.getD i.toNat eS.dflt)!=(0:Int)then(Ex.ret,eS.ag xs,i,(),(20:Int))else(Ex.normal,eS.ag xs,IntKind.i64.wrap (i+(1:Int)),(),e)
 else(Ex.exit (0:Nat),eS.ag xs,i,(),e)
def qts(xs:List S)(i:Int)(_u:Unit)(e:Int):Prop:=
 (decide (i<(↑xs.length:Int))=true->((0:Int)<=i/\i<(↑xs.length:Int))/\((q1f (xs.getD i.toNat eS.dflt)!=(0:Int))=true->eS.okL xs)/\((q1f (xs.getD i.toNat eS.dflt)!=(0:Int))=false->eS.okL xs))/\(decide (i<(↑xs.length:Int))=false->eS.okL xs)
theorem zkk:((q03 Tryz.prog 134).filter λc=>Nat.beq (lkey c) 2).length=1:=by kernel_rfl
theorem zs6(g:qea):(qe9 g.1 g.2.1 g.2.2.1 g.2.2.2).1=.normal\/(qe9 g.1 g.2.1 g.2.2.1 g.2.2.2).1∈([.ret,.exit 0]:List Ex):=by
 unfold qe9
 repeat' (first|(left;rfl)|(right;simp only[cond_true,cond_false];simp;done)|(rw[Bool.cond_eq_ite];split))
abbrev z95(Inv:qea->List Prop)(m:qea->Nat):LCon:=q2q [.ret,.exit 0] (loopBody Tryz.prog 134 2) zf3 [] 83 Inv (λg=>qe9 g.1 g.2.1 g.2.2.1 g.2.2.2) m
theorem z94(Inv:qea->List Prop)(m:qea->Nat)(hs:∀g,allP (Inv g)->qts g.1 g.2.1 g.2.2.1 g.2.2.2)(hg:Goes (λg:qea=>qe9 g.1 g.2.1 g.2.2.1 g.2.2.2) m λg=>allP (Inv g)):∀b∈q03 Tryz.prog 134,lkey b=2->q06 Tryz.prog b (z95 Inv m).g:=q0s (Γ:=(MTab.gamz qau [] [])) (Λ:=noΛ) (MTab.okz qau [] []) q0f 100 134 2 83 zf3 [] Inv (λg=>qe9 g.1 g.2.1 g.2.2.1 g.2.2.2) (λg=>qts g.1 g.2.1 g.2.2.1 g.2.2.2) m default [.ret,.exit 0] zkk (λrd T B HL HB ds g=>by kernel_rfl) (λrd T B HL HB ds g=>by kernel_rfl) hs hg zs6
theorem z6l(h:42<Tryz.prog.types.size):(Tryz.prog.types[42]'h).bytes=64:=by kernel_rfl
theorem app1(out:List S)(y:S):eS.lst (min (out.length+1) out.length) (eS.els out)++List.map (λ_=>y) (List.range (out.length+1-out.length))=out++[y]:=by
 rw[Nat.min_eq_right (Nat.le_succ _),El.lst_els,Nat.add_sub_cancel_left];rfl
theorem app2(out:List S)(s y:S):eS.lst (min (min (out.length+1+1) (out.length+1)) out.length) (eS.els out)++List.map (λ_=>s) (List.range (min (out.length+1+1) (out.length+1)-out.length))++List.map (λ_=>y) (List.range (out.length+1+1-(out.length+1)))=(out++[s])++[y]:=by
 rw[Nat.min_eq_right (Nat.le_succ (out.length+1)),Nat.min_eq_right (Nat.le_succ _),El.lst_els,Nat.add_sub_cancel_left,Nat.add_sub_cancel_left];rfl
abbrev mayN(a:S):Bool:=!q2y a
theorem ztw(g:la_G):la_R g.1 g.2.1 g.2.2.1 g.2.2.2.1 g.2.2.2.2=erF 0 eS.dflt mayN 20 g:=by
 obtain⟨xs,n,i,⟨⟩,e⟩:=g;show la_R xs n i () e=erF 0 eS.dflt mayN 20 (xs,n,i,(),e);unfold la_R;simp only[El.lst_els,El.ag_eq,El.okL_eq];rfl
theorem zyf:∀b∈q03 Tryz.prog 124,lkey b=2->q06 Tryz.prog b (la_C erI erM).g:=by
 refine zmb erI erM (λg hi=>?_) ?_
 .obtain⟨xs,n,i,⟨⟩,e⟩:=g;obtain⟨h1,h2,h3,h4⟩:=hi _ (List.mem_cons_self ..);simp only at h1 h2 h3 h4;refine⟨λhc=>?_,λ_=>q3j xs⟩;have hc:i<n:=of_decide_eq_true hc;exact⟨⟨h3,by simp only;omega⟩,λ_=>q3j xs,λ_=>q3j xs⟩
 .rw[show(λg:la_G=>la_R g.1 g.2.1 g.2.2.1 g.2.2.2.1 g.2.2.2.2)=erF 0 eS.dflt mayN 20 from funext ztw];exact z4o _ _ _ _
abbrev badS(xs:List S)(y:S):Bool:=y.f !=(xs.getD 0 eS.dflt).f||q3u y !=q3u (xs.getD 0 eS.dflt)
abbrev stepS(xs:List S)(out:List S)(y:S):List S:=bif !(xs.any λx=>q36 x y)then out++[y]else out
theorem ztm(g:lb_G):lb_R g.1 g.2.1 g.2.2.1 g.2.2.2.1 g.2.2.2.2.1 g.2.2.2.2.2.1 g.2.2.2.2.2.2=flF 2 eS.dflt badS stepS 11 g:=by
 obtain⟨xs,out,ys,n,i,⟨⟩,e⟩:=g;show lb_R xs out ys n i () e=flF 2 eS.dflt badS stepS 11 (xs,out,ys,n,i,(),e);unfold lb_R flF stepS;simp only[app1,El.lst_els,El.ag_eq,El.okL_eq];generalize (!xs.any λx=>q36 x (ys.getD i.toNat eS.dflt))=c;cases c<;>rfl
def q6l(K:Nat)(xs:List S)(out:List S)(i:Nat):Prop:=xs.length<=K/\out.length<=i
theorem qd0(K:Nat):∀xs out i,i<xs.length->q6l K xs out i->q6l K xs (stepS xs out (xs.getD i eS.dflt)) (i+1):=by
 rintro xs out i _ ⟨h1,h2⟩;refine⟨h1,?_⟩;unfold stepS;generalize (!xs.any λx=>q36 x (xs.getD i eS.dflt))=c;cases c<;>simp<;>omega
def KS:Nat:=1000000
theorem zyd:∀b∈q03 Tryz.prog 124,lkey b=9->q06 Tryz.prog b (lb_C (flI (q6l KS)) flM).g:=by
 refine zm8 (flI (q6l KS)) flM (λg hi=>?_) ?_
 .obtain⟨xs,out,ys,n,i,⟨⟩,e⟩:=g;obtain⟨h1,h0,h2,h3,h4,h5,h6⟩:=hi _ (List.mem_cons_self ..);simp only at h1 h0 h2 h3 h4 h5 h6;subst h0;unfold KS at h5;show qm5 ys out ys n i () e;unfold qm5;simp only[z6l];refine⟨λhc=>?_,λ_=>⟨q3j ys,Nat.le_refl _,λ_ _=>trivial,q3j ys⟩⟩;have hc:i<n:=of_decide_eq_true hc;refine⟨⟨h3,by omega⟩,⟨by omega,by omega⟩,λ_=>⟨by omega,by omega⟩,λ_=>⟨q3j ys,Nat.le_refl _,λ_ _=>trivial,q3j ys⟩,λ_=>⟨q3j ys,λ_=>⟨⟨Nat.le_refl _,trivial,by unfold maxLen;omega,by omega⟩,q3j ys,Nat.le_refl _,λ_ _=>trivial,λ_ _=>trivial,q3j ys⟩,λ_=>⟨q3j ys,Nat.le_refl _,λ_ _=>trivial,q3j ys⟩⟩⟩
 .rw[show(λg:lb_G=>lb_R g.1 g.2.1 g.2.2.1 g.2.2.2.1 g.2.2.2.2.1 g.2.2.2.2.2.1 g.2.2.2.2.2.2)=flF 2 eS.dflt badS stepS 11 from funext ztm];exact z3x _ _ _ _ _ _ (qd0 KS)
theorem zf2(g:qea):qe9 g.1 g.2.1 g.2.2.1 g.2.2.2=er2F 0 eS.dflt (λa=>q1f a !=0) 20 g:=by
 obtain⟨xs,i,⟨⟩,e⟩:=g;show qe9 xs i () e=er2F 0 eS.dflt (λa=>q1f a !=0) 20 (xs,i,(),e);unfold qe9;simp only[El.lst_els,El.ag_eq,El.okL_eq];rfl
theorem zf1:∀b∈q03 Tryz.prog 134,lkey b=2->q06 Tryz.prog b (z95 er2I er2M).g:=by
 refine z94 er2I er2M (λg hi=>?_) ?_
 .obtain⟨xs,i,⟨⟩,e⟩:=g;obtain⟨h2,h3,h4⟩:=hi _ (List.mem_cons_self ..);simp only at h2 h3 h4;refine⟨λhc=>?_,λ_=>q3j xs⟩;have hc:i<(xs.length:Int):=of_decide_eq_true hc;exact⟨⟨h3,by simp only;omega⟩,λ_=>q3j xs,λ_=>q3j xs⟩
 .rw[show(λg:qea=>qe9 g.1 g.2.1 g.2.2.1 g.2.2.2)=er2F 0 eS.dflt (λa=>q1f a !=0) 20 from funext zf2];exact qvf _ _ _ _
theorem zf4(g:qec):qeb g.1 g.2.1 g.2.2.1 g.2.2.2.1 g.2.2.2.2.1 g.2.2.2.2.2=isF 0 eS.dflt (λa b=>q1w a b) g:=by
 obtain⟨xs,⟨⟩,s,out,b,i⟩:=g;show qeb xs () s out b i=isF 0 eS.dflt (λa b=>q1w a b) (xs,(),s,out,b,i);unfold qeb isF;simp only[app1,app2,El.lst_els,El.ag_eq,El.okL_eq,qkm,eqS];generalize decide (xs.getD i.toNat eS.dflt=s)=c;cases c<;>rfl
theorem zs7:∀b∈q03 Tryz.prog 163,lkey b=4->q06 Tryz.prog b (zkn (isI KS) isM).g:=by
 refine z98 (isI KS) isM (λg hi=>?_) ?_
 .obtain⟨xs,⟨⟩,s,out,b,i⟩:=g;obtain⟨h2,h3,h4,h5⟩:=hi _ (List.mem_cons_self ..);simp only at h2 h3 h4 h5;unfold KS at h2;have h6:out.length<=1000002:=by cases b<;>simp only[cond_true,cond_false]at h5<;>omega
  show qew xs () s out b i;unfold qew;simp only[z6l];have ha:=q3j xs;refine⟨λhc=>?_,λ_=>?_⟩
  .have hc:i<(xs.length:Int):=of_decide_eq_true hc
   repeat' (first|apply And.intro|exact ha|(intro h;skip))
   all_goals (first|trivial|omega|(unfold maxLen;omega))
  .repeat' (first|apply And.intro|exact ha|(intro h;skip))
   all_goals (first|trivial|omega)
 .rw[show(λg:qec=>qeb g.1 g.2.1 g.2.2.1 g.2.2.2.1 g.2.2.2.2.1 g.2.2.2.2.2)=isF 0 eS.dflt (λa b=>q1w a b)from funext zf4];exact z2w _ _ _ (by unfold KS;omega)
def lt27:LTab Tryz.prog:=(((LTab.nil.cons 124 2 (la_C erI erM) zyf).cons 124 9 (lb_C (flI (q6l KS)) flM) zyd).cons 134 2 (z95 er2I er2M) zf1).cons 163 4 (zkn (isI KS) isM) zs7
abbrev zma:Lam:=lt27.lam
theorem qux:∀f k L,zma f k=some L->∀b∈q03 Tryz.prog f,lkey b=k->q06 Tryz.prog b L.g:=lt27.ok
abbrev aL1:DA (List S):=.one dLS
abbrev aLS1:DA (List S×S):=.cons dLS (.one dS)
abbrev rL:Rv (List S):=.list eS
abbrev rLE:Rv (List S×Int):=.tup (.cons (.list eS) (.one (.of dI)))
def q1x(xs:List S)(s:S):Ex×
 qec:=
 q07 (λg=>qeb g.fst g.snd.fst g.snd.snd.fst g.snd.snd.snd.fst g.snd.snd.snd.snd.fst g.snd.snd.snd.snd.snd) Lp.isM (eS.ag xs,(),s,[],false,(0:Int))
def qzx(xs:List S)(s:S):Rv.T rL:=
 bif !(q1x xs s).snd.snd.snd.snd.snd.fst then eS.lst (min ((q1x xs s).snd.snd.snd.snd.fst.length+(1:Nat)) (q1x xs s).snd.snd.snd.snd.fst.length) (eS.els (q1x xs s).snd.snd.snd.snd.fst)++List.map (λx=>(q1x xs s).snd.snd.snd.fst) (List.range ((q1x xs s).snd.snd.snd.snd.fst.length+(1:Nat)-(q1x xs s).snd.snd.snd.snd.fst.length))
 else eS.ag (q1x xs s).snd.snd.snd.snd.fst
def qba(xs:List S)(s:S):Prop:=
 eS.okL xs/\((eS.ag xs).length<=KS/\(0:Int)<=(0:Int)/\(0:Int)<=(↑(eS.ag xs).length:Int)/\(↑(0:Nat):Int)<=(0:Int)+bif false then(1:Int)else(0:Int))/\((!(q1x xs s).snd.snd.snd.snd.snd.fst)=true->((q1x xs s).snd.snd.snd.snd.fst.length<=(q1x xs s).snd.snd.snd.snd.fst.length/\True/\(q1x xs s).snd.snd.snd.snd.fst.length+(1:Nat)<=maxLen/\((q1x xs s).snd.snd.snd.snd.fst.length+(1:Nat))*Tryz.prog.types[(42:Nat)].bytes<=(140737488355328:Nat))/\(q1x xs s).snd.snd.snd.snd.fst.length+(1:Nat)<=(q1x xs s).snd.snd.snd.snd.fst.length+(1:Nat)/\(∀(e:Nat),e<min ((q1x xs s).snd.snd.snd.snd.fst.length+(1:Nat)) (q1x xs s).snd.snd.snd.snd.fst.length->True)/\∀(e:Nat),e<(q1x xs s).snd.snd.snd.snd.fst.length+(1:Nat)-(q1x xs s).snd.snd.snd.snd.fst.length->True)/\((!(q1x xs s).snd.snd.snd.snd.snd.fst)=false->(q1x xs s).snd.snd.snd.snd.fst.length<=(q1x xs s).snd.snd.snd.snd.fst.length/\∀(e:Nat),e<(q1x xs s).snd.snd.snd.snd.fst.length->True)
theorem z96(pre:DA.T aLS1->List Prop)(h:∀g,DA.bd aLS1 g->(∀p∈pre g,p)->qba g.1 g.2):q09 Tryz.prog 163 aLS1 (Rv.D rL) (λg=>qzx g.1 g.2) pre:=q2l (R:=rL) (Γ:=(MTab.gamz qau [] [])) (Λ:=zma) (MTab.okz qau [] []) qux 100 default (λg=>qba g.1 g.2) (λg=>by kernel_rfl) (λg=>by kernel_rfl) h
def q3d(xs:List S):Ex×
 la_G:=
 q07 (λg=>la_R g.fst g.snd.fst g.snd.snd.fst g.snd.snd.snd.fst g.snd.snd.snd.snd) Lp.erM (eS.ag xs,(↑xs.length:Int),(0:Int),(),(0:Int))
def q25(xs:List S):Ex×
 lb_G:=
 q07 (λg=>lb_R g.fst g.snd.fst g.snd.snd.fst g.snd.snd.snd.fst g.snd.snd.snd.snd.fst g.snd.snd.snd.snd.snd.fst g.snd.snd.snd.snd.snd.snd) Lp.flM (eS.ag xs,[],eS.ag xs,(↑xs.length:Int),(0:Int),(),(q3d xs).snd.snd.snd.snd.snd)
def qrp(xs:List S):Rv.T rLE:=
 bif exB Ex.ret (q3d xs).fst then([],(q3d xs).snd.snd.snd.snd.snd)
 else bif exB Ex.ret (q25 xs).fst then([],(q25 xs).snd.snd.snd.snd.snd.snd.snd)else(eS.ag (Lp.q5w (eS.ag (q2g (λa b=>q1u a b) (eS.ag (q25 xs).snd.snd.fst)))),(0:Int))
def q9k(xs:List S):Prop:=
 eS.okL xs/\((↑xs.length:Int)=(↑(eS.ag xs).length:Int)/\(eS.ag xs).length<=maxLen/\(0:Int)<=(0:Int)/\(0:Int)<=(↑(eS.ag xs).length:Int))/\(exB Ex.ret (q3d xs).fst=false->eS.okL xs/\eS.okL xs/\((↑xs.length:Int)=(↑(eS.ag xs).length:Int)/\eS.ag xs=eS.ag xs/\(eS.ag xs).length<=maxLen/\(0:Int)<=(0:Int)/\(0:Int)<=(↑(eS.ag xs).length:Int)/\q6l KS (eS.ag xs) [] (0:Nat))/\(exB Ex.ret (q25 xs).fst=false->(q25 xs).snd.snd.fst.length=(q25 xs).snd.snd.fst.length/\(∀(e:Nat),e<(q25 xs).snd.snd.fst.length->True)/\(eS.ag (q25 xs).snd.snd.fst).length<(4611686018427387904:Nat)/\(q25 xs).snd.snd.fst.length=(q2g (λa b=>q1u a b) (eS.ag (q25 xs).snd.snd.fst)).length/\(∀(e:Nat),e<(q2g (λa b=>q1u a b) (eS.ag (q25 xs).snd.snd.fst)).length->True)/\(Lp.q5w (eS.ag (q2g (λa b=>q1u a b) (eS.ag (q25 xs).snd.snd.fst)))).length<=(Lp.q5w (eS.ag (q2g (λa b=>q1u a b) (eS.ag (q25 xs).snd.snd.fst)))).length/\∀(e:Nat),e<(Lp.q5w (eS.ag (q2g (λa b=>q1u a b) (eS.ag (q25 xs).snd.snd.fst)))).length->True))
theorem z1v(pre:DA.T aL1->List Prop)(h:∀g,DA.bd aL1 g->(∀p∈pre g,p)->q9k g):q09 Tryz.prog 124 aL1 (Rv.D rLE) (λg=>qrp g) pre:=q2l (R:=rLE) (Γ:=(MTab.gamz qau [] [])) (Λ:=zma) (MTab.okz qau [] []) qux 100 default (λg=>q9k g) (λg=>by kernel_rfl) (λg=>by kernel_rfl) h
abbrev qee:Type:=List S×Int×Int×Bool
def zf8:LP 0 qee:=.pair (.slot 0 0 dLS) (.pair (.slot 0 6 dI) (.pair (.slot 0 8 dI) (.slot 0 7 q0l)))
def qed(xs:List S)(j:Int)(i:Int)(b:Bool):Ex×qee:=
 bif decide (i<(↑xs.length:Int))then(Ex.normal,eS.ag xs,j,IntKind.i64.wrap (i+(1:Int)),!q43 (xs.getD i.toNat eS.dflt) (xs.getD j.toNat eS.dflt)&&b)
 else(Ex.exit (4:Nat),eS.ag xs,j,i,b)
def qey(xs:List S)(j:Int)(i:Int)(b:Bool):Prop:=
 (decide (i<(↑xs.length:Int))=true->((0:Int)<=i/\i<(↑xs.length:Int))/\((0:Int)<=j/\j<(↑xs.length:Int))/\eS.okL xs)/\(decide (i<(↑xs.length:Int))=false->eS.okL xs)
theorem zkt:((q03 Tryz.prog 134).filter λc=>Nat.beq (lkey c) 14).length=1:=by kernel_rfl
theorem zsh(g:qee):(qed g.1 g.2.1 g.2.2.1 g.2.2.2).1=.normal\/(qed g.1 g.2.1 g.2.2.1 g.2.2.2).1∈([.exit 4]:List Ex):=by
 unfold qed
 repeat' (first|(left;rfl)|(right;simp only[cond_true,cond_false];simp;done)|(rw[Bool.cond_eq_ite];split))
abbrev zku(Inv:qee->List Prop)(m:qee->Nat):LCon:=q2q [.exit 4] (loopBody Tryz.prog 134 14) zf8 [] 83 Inv (λg=>qed g.1 g.2.1 g.2.2.1 g.2.2.2) m
theorem z9d(Inv:qee->List Prop)(m:qee->Nat)(hs:∀g,allP (Inv g)->qey g.1 g.2.1 g.2.2.1 g.2.2.2)(hg:Goes (λg:qee=>qed g.1 g.2.1 g.2.2.1 g.2.2.2) m λg=>allP (Inv g)):∀b∈q03 Tryz.prog 134,lkey b=14->q06 Tryz.prog b (zku Inv m).g:=q0s (Γ:=(MTab.gamz qau [] [])) (Λ:=noΛ) (MTab.okz qau [] []) q0f 100 134 14 83 zf8 [] Inv (λg=>qed g.1 g.2.1 g.2.2.1 g.2.2.2) (λg=>qey g.1 g.2.1 g.2.2.1 g.2.2.2) m default [.exit 4] zkt (λrd T B HL HB ds g=>by kernel_rfl) (λrd T B HL HB ds g=>by kernel_rfl) hs hg zsh
abbrev cR(a b:S):Int:=q1w a b
theorem qzz:(λg:qec=>qeb g.1 g.2.1 g.2.2.1 g.2.2.2.1 g.2.2.2.2.1 g.2.2.2.2.2)=isF 0 eS.dflt cR:=funext zf4
theorem qzy(xs:List S)(s:S)(h:xs.length<=KS):allP (isI KS ((xs,(),s,[],false,0):IsG S)):=λq hq=>by
 simp only[isI,List.mem_singleton]at hq;subst hq;exact⟨h,Int.le_refl _,by show(0:Int)<=(xs.length:Int);omega,by simp⟩
theorem z97:q09 Tryz.prog 163 aLS1 dLS (λg=>insU cR g.2 g.1) (λg=>[g.1.length<=KS]):=by
 have hK:KS<=9223372036854775807:=by unfold KS;omega
 have h:=z96 (λg=>[g.1.length<=KS]) λg _ hp=>by
  obtain⟨xs,s⟩:=g;have hl:xs.length<=KS:=hp _ (List.mem_cons_self ..);have hI:=qzy xs s hl;have hr:=zgg 0 eS.dflt cR hK _ hI;show qba xs s;unfold qba q1x;simp only[El.lst_els,El.ag_eq,El.okL_eq,qzz,z6l];generalize q07 (isF 0 eS.dflt cR) isM (xs,(),s,[],false,0)=r at hr ⊢;obtain⟨_,_,_,_,h5⟩:=hr;simp only at h5;unfold KS at hl;have ha:=q3j xs;have hI:=hI _ (List.mem_cons_self ..);refine⟨trivial,hI,λ_=>⟨⟨Nat.le_refl _,trivial,by unfold maxLen;omega,by omega⟩,Nat.le_refl _,λ_ _=>trivial,λ_ _=>trivial⟩,λ_=>⟨Nat.le_refl _,λ_ _=>trivial⟩⟩
 refine q19 h λg _ hp=>?_;obtain⟨xs,s⟩:=g;have hl:xs.length<=KS:=hp _ (List.mem_cons_self ..);have hr:=zgg 0 eS.dflt cR hK _ (qzy xs s hl);show qzx xs s=insU cR s xs;unfold qzx q1x;simp only[El.lst_els,El.ag_eq,El.okL_eq,qzz];generalize q07 (isF 0 eS.dflt cR) isM (xs,(),s,[],false,0)=r at hr ⊢;obtain⟨_,_,h3,h4,_⟩:=hr;simp only[List.nil_append,qjr]at h3 h4;have e0:(0:Int).toNat=0:=rfl;rw[e0,List.drop_zero]at h4;rw[<-h4,app1,h3];cases r.2.2.2.2.2.1<;>simp
abbrev undS(xs:List S)(j:Int)(y:S):Bool:=q43 y (xs.getD j.toNat eS.dflt)
theorem zf7(g:qee):qed g.1 g.2.1 g.2.2.1 g.2.2.2=anF 4 eS.dflt undS g:=by
 obtain⟨xs,j,i,b⟩:=g;show qed xs j i b=anF 4 eS.dflt undS (xs,j,i,b);unfold qed anF;simp only[El.lst_els,El.ag_eq,El.okL_eq];simp only[undS];generalize q43 (xs.getD i.toNat eS.dflt) (xs.getD j.toNat eS.dflt)=c;cases c<;>rfl
abbrev okJ(xs:List S)(j:Int):Prop:=0<=j/\j<(xs.length:Int)
theorem zsg:∀b∈q03 Tryz.prog 134,lkey b=14->q06 Tryz.prog b (zku (anI okJ) anM).g:=by
 refine z9d (anI okJ) anM (λg hi=>?_) ?_
 .obtain⟨xs,j,i,b⟩:=g;obtain⟨h2,h3,h4,h5⟩:=hi _ (List.mem_cons_self ..);simp only at h2 h3 h4 h5;show qey xs j i b;unfold qey;simp only[El.okL_eq,El.ag_eq];refine⟨λhc=>?_,λ_=>trivial⟩;have hc:i<(xs.length:Int):=of_decide_eq_true hc;exact⟨⟨h3,hc⟩,h5,trivial⟩
 .rw[show(λg:qee=>qed g.1 g.2.1 g.2.2.1 g.2.2.2)=anF 4 eS.dflt undS from funext zf7];exact z6t _ _ _ _
def lt28:LTab Tryz.prog:=((LTab.nil.cons 134 2 (z95 er2I er2M) zf1).cons 134 14 (zku (anI okJ) anM) zsg)
abbrev ztr:Lam:=lt28.lam
theorem zav:∀f k L,ztr f k=some L->∀b∈q03 Tryz.prog f,lkey b=k->q06 Tryz.prog b L.g:=lt28.ok
def qtg:PTab Tryz.prog:=zej.cons 163 (qbf aLS1 dLS (λg=>insU cR g.2 g.1) (λg=>[g.1.length<=KS])) (q3v z97)
def q2w(xs:List S)(out:List S)(i:Int)(_u:Unit)(e:Int):Ex×
 qee:=
 q07 (λg=>qed g.fst g.snd.fst g.snd.snd.fst g.snd.snd.snd) Lp.anM (eS.ag xs,i,(0:Int),true)
abbrev qhz:Type:=List S×List S×Int×Unit×Int
def zf0:LP 0 qhz:=.pair (.slot 0 0 dLS) (.pair (.slot 0 5 dLS) (.pair (.slot 0 6 dI) (.pair (.fix 0 2 (.k (.slice none 0 0))) (.slot 0 3 dI))))
def qhy(xs:List S)(out:List S)(i:Int)(_u:Unit)(e:Int):Ex×qhz:=
 bif decide (i<(↑xs.length:Int))then bif (xs.getD i.toNat eS.dflt).f !=(xs.getD (0:Nat) eS.dflt).f||IntKind.i64.wrap ((xs.getD i.toNat eS.dflt).k+(xs.getD i.toNat eS.dflt).n)!=IntKind.i64.wrap ((xs.getD (0:Nat) eS.dflt).k+(xs.getD (0:Nat) eS.dflt).n)then(Ex.ret,eS.ag xs,eS.ag out,i,(),(11:Int))else(Ex.normal,eS.ag (q2w xs out i _u e).snd.fst,eS.lst (bif (q2w xs out i _u e).snd.snd.snd.snd then(Lp.insU cR ((q2w xs out i _u e).snd.fst.getD (q2w xs out i _u e).snd.snd.fst.toNat eS.dflt) (eS.ag out)).length else out.length) (bif (q2w xs out i _u e).snd.snd.snd.snd then eS.els (Lp.insU cR ((q2w xs out i _u e).snd.fst.getD (q2w xs out i _u e).snd.snd.fst.toNat eS.dflt) (eS.ag out))else eS.els out),IntKind.i64.wrap ((q2w xs out i _u e).snd.snd.fst+(1:Int)),(),e)
 else(Ex.exit (2:Nat),eS.ag xs,eS.ag out,i,(),e)
def qb9(xs:List S)(out:List S)(i:Int)(_u:Unit)(e:Int):Prop:=
 (decide (i<(↑xs.length:Int))=true->((0:Int)<=i/\i<(↑xs.length:Int))/\((0:Int)<=(0:Int)/\(0:Int)<(↑xs.length:Int))/\((!(xs.getD i.toNat eS.dflt).f !=(xs.getD (0:Nat) eS.dflt).f)=true->(0:Int)<=i/\i<(↑xs.length:Int))/\((!(xs.getD i.toNat eS.dflt).f !=(xs.getD (0:Nat) eS.dflt).f)=true->(0:Int)<=i/\i<(↑xs.length:Int))/\((!(xs.getD i.toNat eS.dflt).f !=(xs.getD (0:Nat) eS.dflt).f)=true->(0:Int)<=(0:Int)/\(0:Int)<(↑xs.length:Int))/\((!(xs.getD i.toNat eS.dflt).f !=(xs.getD (0:Nat) eS.dflt).f)=true->(0:Int)<=(0:Int)/\(0:Int)<(↑xs.length:Int))/\(((xs.getD i.toNat eS.dflt).f !=(xs.getD (0:Nat) eS.dflt).f||IntKind.i64.wrap ((xs.getD i.toNat eS.dflt).k+(xs.getD i.toNat eS.dflt).n)!=IntKind.i64.wrap ((xs.getD (0:Nat) eS.dflt).k+(xs.getD (0:Nat) eS.dflt).n))=true->eS.okL xs/\eS.okL out)/\(((xs.getD i.toNat eS.dflt).f !=(xs.getD (0:Nat) eS.dflt).f||IntKind.i64.wrap ((xs.getD i.toNat eS.dflt).k+(xs.getD i.toNat eS.dflt).n)!=IntKind.i64.wrap ((xs.getD (0:Nat) eS.dflt).k+(xs.getD (0:Nat) eS.dflt).n))=false->eS.okL xs/\((eS.ag xs).length<=maxLen/\(0:Int)<=(0:Int)/\(0:Int)<=(↑(eS.ag xs).length:Int)/\okJ (eS.ag xs) i)/\((q2w xs out i _u e).snd.snd.snd.snd=true->(0:Int)<=(q2w xs out i _u e).snd.snd.fst/\(q2w xs out i _u e).snd.snd.fst<(↑(q2w xs out i _u e).snd.fst.length:Int))/\((q2w xs out i _u e).snd.snd.snd.snd=true->eS.okL out)/\((q2w xs out i _u e).snd.snd.snd.snd=true->(eS.ag out).length<=KS)/\eS.okL (q2w xs out i _u e).snd.fst/\∀(e:Nat),(e<bif (q2w xs out i _u e).snd.snd.snd.snd then(Lp.insU cR ((q2w xs out i _u e).snd.fst.getD (q2w xs out i _u e).snd.snd.fst.toNat eS.dflt) (eS.ag out)).length else out.length)->eS.Ok ((bif (q2w xs out i _u e).snd.snd.snd.snd then eS.els (Lp.insU cR ((q2w xs out i _u e).snd.fst.getD (q2w xs out i _u e).snd.snd.fst.toNat eS.dflt) (eS.ag out))else eS.els out) e)))/\(decide (i<(↑xs.length:Int))=false->eS.okL xs/\eS.okL out)
theorem zki:((q03 Tryz.prog 134).filter λc=>Nat.beq (lkey c) 8).length=1:=by kernel_rfl
theorem zs5(g:qhz):(qhy g.1 g.2.1 g.2.2.1 g.2.2.2.1 g.2.2.2.2).1=.normal\/(qhy g.1 g.2.1 g.2.2.1 g.2.2.2.1 g.2.2.2.2).1∈([.ret,.exit 2]:List Ex):=by
 unfold qhy
 repeat' (first|(left;rfl)|(right;simp only[cond_true,cond_false];simp;done)|(rw[Bool.cond_eq_ite];split))
abbrev zkj(Inv:qhz->List Prop)(m:qhz->Nat):LCon:=q2q [.ret,.exit 2] (loopBody Tryz.prog 134 8) zf0 [] 83 Inv (λg=>qhy g.1 g.2.1 g.2.2.1 g.2.2.2.1 g.2.2.2.2) m
theorem z92(Inv:qhz->List Prop)(m:qhz->Nat)(hs:∀g,allP (Inv g)->qb9 g.1 g.2.1 g.2.2.1 g.2.2.2.1 g.2.2.2.2)(hg:Goes (λg:qhz=>qhy g.1 g.2.1 g.2.2.1 g.2.2.2.1 g.2.2.2.2) m λg=>allP (Inv g)):∀b∈q03 Tryz.prog 134,lkey b=8->q06 Tryz.prog b (zkj Inv m).g:=q0s (Γ:=(PTab.gamz qtg [] [])) (Λ:=ztr) (PTab.okz qtg [] []) zav 100 134 8 83 zf0 [] Inv (λg=>qhy g.1 g.2.1 g.2.2.1 g.2.2.2.1 g.2.2.2.2) (λg=>qb9 g.1 g.2.1 g.2.2.1 g.2.2.2.1 g.2.2.2.2) m default [.ret,.exit 2] zki (λrd T B HL HB ds g=>by kernel_rfl) (λrd T B HL HB ds g=>by kernel_rfl) hs hg zs5
end
end Go.Proofs.YthnojkbkojpadaaGreat.Su

namespace Go.Sx
noncomputable section
theorem qjv{γ:Type}{F F':γ->Ex×γ}{m:γ->Nat}{Inv:γ->Prop}(h:Goes F' m Inv)(e:∀g,Inv g->F g=F' g):Goes F m Inv:=λg hi hn=>by
 rw[e g hi]at hn ⊢;exact h g hi hn
theorem qrk{γ:Type}{F F':γ->Ex×γ}{m:γ->Nat}{Inv:γ->Prop}(h:Goes F' m Inv)(e:∀g,Inv g->F g=F' g):∀g,Inv g->q07 F m g=q07 F' m g:=by
 have h0:=qjv h e;refine q1l h0 (Q:=λg r=>r=q07 F' m g) ?_ ?_
 .intro g hi hn;rw[e g hi]at hn ⊢;exact(qbo hn).symm
 .intro g g' r hi he _ _ hq;rw[e g hi]at he;rw[hq,q9j h hi he]
end
end Go.Sx
namespace Go.Proofs.YthnojkbkojpadaaGreat.Su
noncomputable section
open Go.RowKit Go.Sx Go.Lp
theorem qv4(s:S):∀l:List S,(insU cR s l).length<=l.length+1
 | []=>by simp[insU]
 |y::r=>by
  have:=qv4 s r;simp only[insU];split
  .simp
  .split
   .simp
   .simp;omega
abbrev badR(xs:List S)(y:S):Bool:=y.f !=(xs.getD 0 eS.dflt).f||w64 (y.k+y.n)!=w64 ((xs.getD 0 eS.dflt).k+(xs.getD 0 eS.dflt).n)
abbrev qcr(xs:List S)(out:List S)(y:S):List S:=bif !(xs.any λx=>q43 x y)then insU cR y out else out
theorem qae(K:Nat):∀xs out i,i<xs.length->q6l K xs out i->q6l K xs (qcr xs out (xs.getD i eS.dflt)) (i+1):=by
 rintro xs out i _ ⟨h1,h2⟩;refine⟨h1,?_⟩;unfold qcr;generalize (!xs.any λx=>q43 x (xs.getD i eS.dflt))=c;have:=qv4 (xs.getD i eS.dflt) out;cases c
 .simp only[cond_false];omega
 .simp only[cond_true];omega
theorem z0e:(λg:qee=>qed g.1 g.2.1 g.2.2.1 g.2.2.2)=anF 4 eS.dflt undS:=funext zf7
theorem zsf{xs:List S}{i:Int}(h:xs.length<=KS)(h0:0<=i)(h1:i<(xs.length:Int)):∃k:Int,q07 (anF 4 eS.dflt undS) anM (xs,i,0,true)=(.exit 4,xs,i,k,!(xs.any λx=>q43 x (xs.getD i.toNat eS.dflt))):=by
 have hI:allP (anI okJ ((xs,i,0,true):AnG S Int)):=λq hq=>by
  simp only[anI,List.mem_singleton]at hq;subst hq;exact⟨by unfold KS at h;unfold maxLen;show xs.length<=_;omega,Int.le_refl _,by show(0:Int)<=(xs.length:Int);omega,h0,h1⟩
 obtain⟨a,b,c,d⟩:=zx6 4 eS.dflt undS okJ _ hI;generalize q07 (anF 4 eS.dflt undS) anM (xs,i,0,true)=r at a b c d;obtain⟨r1,r2,r3,r4,r5⟩:=r;simp only at a b c d;subst a b c d;refine⟨r4,?_⟩;have e0:(0:Int).toNat=0:=rfl;simp only[Bool.true_and,e0,List.drop_zero]
theorem zez(g:qhz)(hi:allP (fl2I (q6l KS) g)):qhy g.1 g.2.1 g.2.2.1 g.2.2.2.1 g.2.2.2.2=fl2F 2 eS.dflt badR qcr 11 g:=by
 obtain⟨xs,out,i,⟨⟩,e⟩:=g;obtain⟨h2,h3,h4,h5,h6⟩:=hi _ (List.mem_cons_self ..);simp only at h2 h3 h4 h5 h6;show qhy xs out i () e=fl2F 2 eS.dflt badR qcr 11 (xs,out,i,(),e);unfold qhy fl2F q2w;simp only[El.lst_els,El.ag_eq,El.okL_eq,z0e];by_cases hlt:i<(xs.length:Int)
 .obtain⟨k,hk⟩:=zsf h5 h3 hlt;rw[hk];simp only[hlt,decide_true,cond_true,El.lst_els,El.ag_eq,El.okL_eq];unfold qcr;generalize (!xs.any λx=>q43 x (xs.getD i.toNat eS.dflt))=c2;cases c2<;>simp only[cond_false,cond_true,El.lst_els,El.ag_eq,El.okL_eq]<;>rfl
 .simp only[hlt,decide_false,cond_false]
theorem zs4:∀b∈q03 Tryz.prog 134,lkey b=8->q06 Tryz.prog b (zkj (fl2I (q6l KS)) fl2M).g:=by
 refine z92 (fl2I (q6l KS)) fl2M (λg hi=>?_) ?_
 .obtain⟨xs,out,i,⟨⟩,e⟩:=g;obtain⟨h2,h3,h4,h5,h6⟩:=hi _ (List.mem_cons_self ..);simp only at h2 h3 h4 h5 h6;have h5':=h5;unfold KS at h5;show qb9 xs out i () e;by_cases hc:i<(xs.length:Int)
  .obtain⟨k,hk⟩:=zsf h5' h3 hc
   have hq:∀e,q2w xs out i () e=(.exit 4,xs,i,k,!(xs.any λx=>q43 x (xs.getD i.toNat eS.dflt))):=by
    intro e;unfold q2w;simp only[El.lst_els,El.ag_eq,El.okL_eq];rw[z0e];exact hk
   unfold qb9;simp only[hq,El.lst_els,El.ag_eq,El.okL_eq];generalize (!xs.any λx=>q43 x (xs.getD i.toNat eS.dflt))=c2;refine⟨λ_=>?_,λ_=>?_⟩
   all_goals
    repeat' (first|apply And.intro|intro _)
    all_goals first|trivial|assumption|omega|(unfold KS;omega)|(unfold maxLen;omega)|(cases c2<;>trivial)|(cases c2<;>exact El.ok_els _ _ _)|skip
  .unfold qb9;refine⟨λh=>absurd (of_decide_eq_true h) hc,λ_=>?_⟩;simp only[El.lst_els,El.ag_eq,El.okL_eq]
   repeat' (first|apply And.intro|intro _)
   all_goals trivial
 .exact qjv (qml 2 eS.dflt badR qcr 11 (q6l KS) (qae KS)) zez
def lt29:LTab Tryz.prog:=lt28.cons 134 8 (zkj (fl2I (q6l KS)) fl2M) zs4
abbrev ztq:Lam:=lt29.lam
theorem zau:∀f k L,ztq f k=some L->∀b∈q03 Tryz.prog f,lkey b=k->q06 Tryz.prog b L.g:=lt29.ok
open Go.RowKit Go.Sx
def q2c(xs:List S):Ex×
 qea:=
 q07 (λg=>qe9 g.fst g.snd.fst g.snd.snd.fst g.snd.snd.snd) Lp.er2M (eS.ag xs,(0:Int),(),(0:Int))
def q4i(xs:List S):Ex×
 qhz:=
 q07 (λg=>qhy g.fst g.snd.fst g.snd.snd.fst g.snd.snd.snd.fst g.snd.snd.snd.snd) Lp.fl2M (eS.ag (q2c xs).snd.fst,[],(0:Int),(),(q2c xs).snd.snd.snd.snd)
def qll(xs:List S):Rv.T rLE:=
 bif exB Ex.ret (q2c xs).fst then([],(q2c xs).snd.snd.snd.snd)
 else bif exB Ex.ret (q4i xs).fst then([],(q4i xs).snd.snd.snd.snd.snd)else(eS.ag (q4i xs).snd.snd.fst,(0:Int))
def q6x(xs:List S):Prop:=
 eS.okL xs/\((eS.ag xs).length<=maxLen/\(0:Int)<=(0:Int)/\(0:Int)<=(↑(eS.ag xs).length:Int))/\(exB Ex.ret (q2c xs).fst=false->eS.okL (q2c xs).snd.fst/\((eS.ag (q2c xs).snd.fst).length<=maxLen/\(0:Int)<=(0:Int)/\(0:Int)<=(↑(eS.ag (q2c xs).snd.fst).length:Int)/\q6l KS (eS.ag (q2c xs).snd.fst) [] (0:Nat))/\(exB Ex.ret (q4i xs).fst=false->eS.okL (q4i xs).snd.snd.fst))
theorem qwd(pre:DA.T aL1->List Prop)(h:∀g,DA.bd aL1 g->(∀p∈pre g,p)->q6x g):q09 Tryz.prog 134 aL1 (Rv.D rLE) (λg=>qll g) pre:=q2l (R:=rLE) (Γ:=(PTab.gamz qtg [] [])) (Λ:=ztq) (PTab.okz qtg [] []) zau 100 default (λg=>q6x g) (λg=>by kernel_rfl) (λg=>by kernel_rfl) h
abbrev cS(a b:S):Int:=q1u a b
theorem zwy:cR=cS:=by funext a b;show q1w a b=q1u a b;rw[qhf,qo7]
theorem zc8(a b:S):q36 a b=(!eqS a b&&(leqC a b&&(!leqC b a||decide (cS a b<0)))):=by
 unfold q36;rw[qkm]
theorem qvt(a b:S):q43 a b=q36 a b:=by
 rw[zc8];unfold q43;rw[show q1w a b=cS a b from congrFun (congrFun zwy a) b];by_cases h:a=b
 .subst h;have h0:¬cS a a<0:=toS.irrefl a;simp[eqS,h0]
 .simp[eqS,h]
def qrr(xs:List S)(y:S):Bool:=!(xs.any λx=>q36 x y)
def q1j(xs:List S):List S×Int:=bif xs.any mayN then([],20)else bif xs.any (badS xs)then([],11)else(q3b cS (xs.filter (qrr xs)),0)
theorem zg1:(λg:la_G=>la_R g.1 g.2.1 g.2.2.1 g.2.2.2.1 g.2.2.2.2)=erF 0 eS.dflt mayN 20:=funext ztw
theorem zfv:(λg:lb_G=>lb_R g.1 g.2.1 g.2.2.1 g.2.2.2.1 g.2.2.2.2.1 g.2.2.2.2.2.1 g.2.2.2.2.2.2)=flF 2 eS.dflt badS stepS 11:=funext ztm
theorem zkl:(λg:qea=>qe9 g.1 g.2.1 g.2.2.1 g.2.2.2)=er2F 0 eS.dflt (λa=>q1f a !=0) 20:=funext zf2
theorem zfu(xs:List S)(e:Int)(h:xs.length<=KS):allP (flI (q6l KS) ((xs,[],xs,(xs.length:Int),0,(),e):FlG S (List S))):=λq hq=>by
 simp only[flI,List.mem_singleton]at hq;subst hq;exact⟨trivial,trivial,by unfold KS at h;unfold maxLen;show xs.length<=_;omega,Int.le_refl _,by show(0:Int)<=(xs.length:Int);omega,h,Nat.le_refl _⟩
theorem qzw(xs:List S)(e:Int)(h:xs.length<=KS):allP (fl2I (q6l KS) ((xs,[],0,(),e):Fl2G S (List S))):=λq hq=>by
 simp only[fl2I,List.mem_singleton]at hq;subst hq;exact⟨by unfold KS at h;unfold maxLen;show xs.length<=_;omega,Int.le_refl _,by show(0:Int)<=(xs.length:Int);omega,h,Nat.le_refl _⟩
theorem qx8(xs:List S):∀(ys out:List S),ys.foldl (stepS xs) out=out++ys.filter (qrr xs):=qjx (qrr xs)
theorem z1w:q09 Tryz.prog 124 aL1 (Rv.D rLE) q1j (λxs=>[xs.length<=KS]):=by
 have h:=z1v (λxs=>[xs.length<=KS]) λxs _ hp=>by
  have hl:xs.length<=KS:=hp _ (List.mem_cons_self ..);have hm:xs.length<=maxLen:=by unfold KS at hl;unfold maxLen;omega
  have ha:=q3j xs;show q9k xs;unfold q9k;simp only[El.lst_els,El.ag_eq,El.okL_eq];have e1:=(zgv 0 eS.dflt mayN 20 xs 0 hm).2;have hq1:q3d xs=q07 (erF 0 eS.dflt mayN 20) erM (xs,(xs.length:Int),0,(),0):=by unfold q3d;simp only[El.lst_els,El.ag_eq,El.okL_eq];rw[zg1]
  have hq2:q25 xs=q07 (flF 2 eS.dflt badS stepS 11) flM (xs,[],xs,(xs.length:Int),0,(),(q3d xs).2.2.2.2.2):=by unfold q25;simp only[El.lst_els,El.ag_eq,El.okL_eq];rw[zfv]
  have hr:=zgt 2 eS.dflt badS stepS 11 (q6l KS) (qd0 KS) _ (zfu xs (q3d xs).2.2.2.2.2 hl);rw[<-hq2]at hr;refine⟨trivial,⟨trivial,hm,by omega,by omega⟩,λ_=>⟨trivial,trivial,⟨trivial,trivial,hm,by omega,by omega,hl,Nat.zero_le _⟩,λh2=>?_⟩⟩;rcases hr with ⟨k1,_⟩|⟨_,_,_,_,k5,_⟩
  .rw[k1]at h2;cases h2
  .have k6:=k5.2;unfold KS at hl;refine⟨trivial,λ_ _=>trivial,by simp only at k6;omega,(q2b _ _).length_eq.symm,λ_ _=>trivial,Nat.le_refl _,λ_ _=>trivial⟩
 refine q19 h λxs _ hp=>?_;have hl:xs.length<=KS:=hp _ (List.mem_cons_self ..);have hm:xs.length<=maxLen:=by unfold KS at hl;unfold maxLen;omega
 show qrp xs=q1j xs;unfold qrp q1j;simp only[El.lst_els,El.ag_eq,El.okL_eq];obtain⟨e1,e2⟩:=zgv 0 eS.dflt mayN 20 xs 0 hm;have hq1:q3d xs=q07 (erF 0 eS.dflt mayN 20) erM (xs,(xs.length:Int),0,(),0):=by unfold q3d;simp only[El.lst_els,El.ag_eq,El.okL_eq];rw[zg1]
 have hq2:q25 xs=q07 (flF 2 eS.dflt badS stepS 11) flM (xs,[],xs,(xs.length:Int),0,(),(q3d xs).2.2.2.2.2):=by unfold q25;simp only[El.lst_els,El.ag_eq,El.okL_eq];rw[zfv]
 have hr:=zgt 2 eS.dflt badS stepS 11 (q6l KS) (qd0 KS) _ (zfu xs (q3d xs).2.2.2.2.2 hl);rw[<-hq2]at hr;rw[<-hq1]at e1 e2;rw[e1,e2];cases h1:xs.any mayN with
 |true=>rfl
 |false=>
  simp only[cond_false];rcases hr with ⟨k1,k2,k3⟩|⟨k1,_,_,k4,_,k6⟩
  .have k3:(xs.drop 0).any (badS xs)=true:=k3;rw[List.drop_zero]at k3;rw[k1,k2,k3];rfl
  .have k6:(xs.drop 0).any (badS xs)=false:=k6;have k4:(q25 xs).2.2.1=(xs.drop 0).foldl (stepS xs) []:=k4;rw[List.drop_zero]at k6 k4;rw[k1,k6,k4,qx8,List.nil_append,sorted_put toS];rfl
theorem qjz(xs:List S):∀(ys out:List S),ys.foldl (qcr xs) out=(ys.filter (qrr xs)).foldl (λl s=>insU cS s l) out
 | [],out=>rfl
 |y::ys,out=>by
  rw[List.foldl_cons,qjz xs ys,List.filter_cons]
  have e:qcr xs out y=(bif qrr xs y then insU cS y out else out):=by
   unfold qcr qrr;simp only[qvt];rw[zwy]
  rw[e];cases qrr xs y<;>rfl
theorem bad_eq{xs:List S}(h:xs.any mayN=false)(hl:xs≠[]){y:S}(hy:y∈xs):badR xs y=badS xs y:=by
 have hm:∀z∈xs,q2y z=true:=λz hz=>by
  have:=List.any_eq_false.1 h z hz;simpa [mayN]using this
 have h0:xs.getD 0 eS.dflt∈xs:=by
  cases xs with
  |nil=>exact absurd rfl hl
  |cons a r=>exact List.mem_cons_self ..
 have e:∀z∈xs,q3u z=w64 (z.k+z.n):=λz hz=>by
  unfold q3u;rw[hm z hz];rfl
 show(_||_)=(_||_);rw[e y hy,e _ h0]
theorem qwe:q09 Tryz.prog 134 aL1 (Rv.D rLE) q1j (λxs=>[xs.length<=KS]):=by
 have hQ:∀xs:List S,xs.length<=KS->q2c xs=q07 (er2F 0 eS.dflt (λa=>q1f a !=0) 20) er2M (xs,0,(),0):=λxs _=>by unfold q2c;simp only[El.lst_els,El.ag_eq,El.okL_eq];rw[zkl]
 have hX:∀xs:List S,xs.length<=KS->(q2c xs).2.1=xs:=λxs hl=>by
  have hm:xs.length<=maxLen:=by unfold KS at hl;unfold maxLen;omega
  rw[hQ xs hl]
  have h0:allP (er2I ((xs,(0:Int),(),0):Er2G S)):=λq hq=>by
   simp only[er2I,List.mem_singleton]at hq;subst hq;exact⟨hm,Int.le_refl _,by show(0:Int)<=(xs.length:Int);omega⟩
  rcases z4p 0 eS.dflt (λa=>q1f a !=0) 20 _ h0 with ⟨_,_,h3,_⟩|⟨_,_,h3,_⟩<;>exact h3
 have hQ2:∀xs:List S,xs.length<=KS->q4i xs=q07 (fl2F 2 eS.dflt badR qcr 11) fl2M (xs,[],0,(),(q2c xs).2.2.2.2):=λxs hl=>by
  unfold q4i;simp only[El.lst_els,El.ag_eq,El.okL_eq];rw[hX xs hl];exact qrk (qml 2 eS.dflt badR qcr 11 (q6l KS) (qae KS)) zez _ (qzw xs _ hl)
 have h:=qwd (λxs=>[xs.length<=KS]) λxs _ hp=>by
  have hl:xs.length<=KS:=hp _ (List.mem_cons_self ..);have hm:xs.length<=maxLen:=by unfold KS at hl;unfold maxLen;omega
  have ha:=q3j xs;show q6x xs;unfold q6x;simp only[El.lst_els,El.ag_eq,El.okL_eq,hX xs hl];exact⟨trivial,⟨hm,by omega,by omega⟩,λ_=>⟨trivial,⟨hm,by omega,by omega,hl,Nat.zero_le _⟩,λ_=>trivial⟩⟩
 refine q19 h λxs _ hp=>?_;have hl:xs.length<=KS:=hp _ (List.mem_cons_self ..);have hm:xs.length<=maxLen:=by unfold KS at hl;unfold maxLen;omega
 show qll xs=q1j xs;unfold qll q1j;simp only[El.lst_els,El.ag_eq,El.okL_eq];obtain⟨e1,e2⟩:=znq 0 eS.dflt (λa=>q1f a !=0) 20 xs 0 hm;rw[<-hQ xs hl]at e1 e2;have hr:=zni 2 eS.dflt badR qcr 11 (q6l KS) (qae KS) _ (qzw xs (q2c xs).2.2.2.2 hl);rw[<-hQ2 xs hl]at hr
 have e3:xs.any (λa=>q1f a !=0)=xs.any mayN:=by
  congr 1;funext a;exact qlm a
 rw[e1,e2,e3];cases h1:xs.any mayN with
 |true=>rfl
 |false=>
  simp only[cond_false]
  have e4:xs.any (badR xs)=xs.any (badS xs):=by
   by_cases hx:xs=[]
   .subst hx;rfl
   .rw[Bool.eq_iff_iff,List.any_eq_true,List.any_eq_true];constructor
    .rintro⟨y,hy,hb⟩;exact⟨y,hy,by rw[<-bad_eq h1 hx hy];exact hb⟩
    .rintro⟨y,hy,hb⟩;exact⟨y,hy,by rw[bad_eq h1 hx hy];exact hb⟩
  rcases hr with ⟨k1,k2,k3⟩|⟨k1,_,_,k4,_,k6⟩
  .have k3:(xs.drop 0).any (badR xs)=true:=k3;rw[List.drop_zero,e4]at k3;rw[k1,k2,k3];rfl
  .have k6:(xs.drop 0).any (badR xs)=false:=k6;have k4:(q4i xs).2.2.1=(xs.drop 0).foldl (qcr xs) []:=k4;rw[List.drop_zero,e4]at k6;rw[List.drop_zero]at k4;rw[k1,k6,k4,qjz];rfl
end
end Go.Proofs.YthnojkbkojpadaaGreat.Su

namespace Go.Proofs.YthnojkbkojpadaaGreat
noncomputable section
open Go.RowKit Go.Sx Go.Lp
def qz8:PTab Tryz.prog:=(zr8.cons 124 (qbf Su.aL1 (Rv.D Su.rLE) Su.q1j (λxs=>[xs.length<=Su.KS])) (q3v Su.z1w)).cons 155 (q1y aLSs dI (λg=>qjn g.1 g.2) (λ_=>[])) (q0k zu1 puI)
open Go.RowKit Go.Sx
def zp3(a:List S)(s:S):Dv.T q0l:=
 decide (qjn (eS.ag a) s>=(0:Int))
def qfe(a:List S)(s:S):Prop:=
 eS.okL a
theorem zp2(pre:DA.T aLSs->List Prop)(h:∀g,DA.bd aLSs g->(∀p∈pre g,p)->qfe g.1 g.2):q09 Tryz.prog 125 aLSs q0l (λg=>zp3 g.1 g.2) pre:=q0o (Γ:=(PTab.gamz qz8 [] [])) (Λ:=noΛ) (PTab.okz qz8 [] []) q0f 100 default (λg=>qfe g.1 g.2) (λg=>by kernel_rfl) (λg=>by kernel_rfl) h
theorem zyt:q09 Tryz.prog 125 aLSs q0l (λg=>decide (g.2∈g.1)) (λ_=>[]):=by
 refine q19 (zp2 (λ_=>[]) λg hb _=>?_) λg hb _=>?_
 .obtain⟨xs,s⟩:=g;show qfe xs s;unfold qfe;simp only[El.okL_eq,El.ag_eq]
 .obtain⟨xs,s⟩:=g;have hl:xs.length<=maxLen:=hb.1.1;show zp3 xs s=_;unfold zp3;simp only[El.ag_eq];exact zb9 xs s hl
def qz7:PTab Tryz.prog:=qz8.cons 125 (q1y aLSs q0l (λg=>decide (g.2∈g.1)) (λ_=>[])) (q0k zyt puB)
def q4n(v:Path)(m:List (Place×Int)):Nat:=
 q2h (λe=>v.fr.node==(m.getD e (eP.pair eI).dflt).fst.node&&v.fr.port==(m.getD e (eP.pair eI).dflt).fst.port) m.length (0:Nat)
def q4m(v:Path)(m:List (Place×Int)):Nat:=
 q2h (λe=>v.to.node==(m.getD e (eP.pair eI).dflt).fst.node&&v.to.port==(m.getD e (eP.pair eI).dflt).fst.port) m.length (0:Nat)
def qcv(v:Path)(m:List (Place×Int)):Ex×
 q6y:=
 q07 (λg=>qoc g.fst g.snd.fst g.snd.snd.fst g.snd.snd.snd.fst g.snd.snd.snd.snd.fst g.snd.snd.snd.snd.snd) qr4 (eS.ag v.ss,(↑v.ss.length:Int),(0:Int),bif decide ((q4n v m)<m.length)then(m.getD (q4n v m) (eP.pair eI).dflt).snd else(0:Int),bif decide ((q4m v m)<m.length)then(m.getD (q4m v m) (eP.pair eI).dflt).snd else(0:Int),false)
def qzo(v:Path)(m:List (Place×Int)):Dv.T q0l:=
 bif !decide ((q4n v m)<m.length)||(!decide ((q4m v m)<m.length)||((↑v.ss.length:Int)==(0:Int)||decide ((↑v.ss.length:Int)>(64:Int))))then false
 else bif exB Ex.ret (qcv v m).fst then(qcv v m).snd.snd.snd.snd.snd.snd else(Su.q1j (eS.ag v.ss)).snd==(0:Int)&&(decide (eS.ag (Su.q1j (eS.ag v.ss)).fst=eS.ag v.ss)&&(!conj ([v.fr.node==v.to.node]++([v.fr.port==v.to.port]++[]))||decide (qdb (qcv v m).snd.snd.snd.snd.fst∈eS.ag v.ss)))
def qb8(v:Path)(m:List (Place×Int)):Prop:=
 (∀(e:Nat),e<m.length->True)/\(∀(e:Nat),e<m.length->True)/\((!decide ((q4n v m)<m.length)||(!decide ((q4m v m)<m.length)||((↑v.ss.length:Int)==(0:Int)||decide ((↑v.ss.length:Int)>(64:Int)))))=false->eS.okL v.ss/\Lp.ixJ (λc=>c.snd.fst) (λc=>c.fst) z0g (z9i (eS.ag v.ss,(↑v.ss.length:Int),(0:Int),bif decide ((q4n v m)<m.length)then(m.getD (q4n v m) (eP.pair eI).dflt).snd else(0:Int),bif decide ((q4m v m)<m.length)then(m.getD (q4m v m) (eP.pair eI).dflt).snd else(0:Int),false))/\(exB Ex.ret (qcv v m).fst=false->eS.okL v.ss/\(eS.ag v.ss).length<=Su.KS/\(((Su.q1j (eS.ag v.ss)).snd==(0:Int))=true->eS.okL (Su.q1j (eS.ag v.ss)).fst)/\(((Su.q1j (eS.ag v.ss)).snd==(0:Int))=true->eS.okL v.ss)/\(((Su.q1j (eS.ag v.ss)).snd==(0:Int))=true->decide (eS.ag (Su.q1j (eS.ag v.ss)).fst=eS.ag v.ss)=true->(!!conj ([v.fr.node==v.to.node]++([v.fr.port==v.to.port]++[])))=true->eS.okL v.ss)))
theorem z8p(pre:DA.T dPaM->List Prop)(h:∀g,DA.bd dPaM g->(∀p∈pre g,p)->qb8 g.1 g.2):q09 Tryz.prog 80 dPaM q0l (λg=>qzo g.1 g.2) pre:=q0o (Γ:=(PTab.gamz qz7 [] [])) (Λ:=zm9) (PTab.okz qz7 [] []) quv 100 default (λg=>qb8 g.1 g.2) (λg=>by kernel_rfl) (λg=>by kernel_rfl) h
end
end Go.Proofs.YthnojkbkojpadaaGreat

namespace Go.Proofs.YthnojkbkojpadaaGreat
open Go.RowKit Go.Sx
end Go.Proofs.YthnojkbkojpadaaGreat

namespace Go.Proofs.YthnojkbkojpadaaGreat
noncomputable section
open Go.RowKit Go.Sx Go.Lp
def qxr(l:List Path):List (Place×Int):=(depM l).1.map d3e
def dpsC(l:List Path):List (Place×Int)×Bool:=bif l.any noD then([],false)else(qxr l,decide (((depM l).1.length:Int)<=128))
theorem zoh(l:List Path):q6q l=q07 z5g qxo (l,(l.length:Int),0,(),([],0),[],false):=by
 unfold q6q;rw[El.ag_eq];rfl
theorem zyq:q09 Tryz.prog 59 aLPo dMB dpsC (λ_=>[]):=by
 refine q19 (zoi (λ_=>[]) λl hb _=>?_) λl hb _=>?_
 .have hl:l.length<=maxLen:=hb.1;show qfc l;unfold qfc;simp only[El.okL_eq,El.ag_eq]
  repeat' (first|exact ixJ0 rfl hl trivial|apply And.intro|intro _)
  all_goals first|trivial|exact(qk7 (K:=eP) (V:=eI) (El.ok_els _ _ _)).1|omega
 .have hl:l.length<=maxLen:=hb.1;show zoj l=dpsC l;have hr:=zom l [] false hl;have hr:=(zoh l).trans hr;unfold zoj dpsC qxr depM;rw[hr];rcases qn0 (l,(l.length:Int)) l 0 ([],0) [] false with ⟨h1,j,m',h2⟩|⟨h1,j,h2⟩
  .rw[h1,h2];simp only[exB,El.ag_eq];rfl
  .rw[h1,h2];have e:=qsj (K:=eP) (V:=eI) (m:=((q3x l).foldl qga ([],0)).1.length) (el:=(eP.ent eI).els ((q3x l).foldl qga ([],0)).1) λe _=>El.ok_els _ _ e;rw[El.lst_els]at e;rw[<-e];rfl
def dget(m:List (Place×Int))(p:Place):Option Int:=(m.find? λe=>decide (p=e.1)).map (·.2)
theorem z5j(d:Place×Int)(m:List (Place×Int))(p:Place):dget m p=if(m.findIdx λe=>decide (p=e.1))<m.length then some (m.getD (m.findIdx λe=>decide (p=e.1)) d).2 else none:=by
 unfold dget
 induction m with
 |nil=>rfl
 |cons e r ih=>
  rw[List.find?_cons,List.findIdx_cons];cases h:decide (p=e.1)with
  |true=>simp
  |false=>
   simp only[cond_false,List.length_cons];rw[ih];by_cases hl:(r.findIdx λe=>decide (p=e.1))<r.length
   .rw[if_pos hl,if_pos (by omega)];simp
   .rw[if_neg hl,if_neg (by omega)]
def qdw(a b:Int)(v:S):Bool:=q7b v !=(0:Int)||(v.f !=a||q3u v !=b)
def z0m(v:Path)(a b:Int):Bool:=!((v.ss.length:Int)==(0:Int)||decide ((v.ss.length:Int)>(64:Int)))&&(!(v.ss.any (qdw a b))&&((Su.q1j v.ss).2==(0:Int)&&(decide ((Su.q1j v.ss).1=v.ss)&&(!decide (v.fr=v.to)||decide (qdb a∈v.ss)))))
def q2d(D:Place->Option Int)(v:Path):Bool:=match D v.fr,D v.to with
 |some a,some b=>z0m v a b
 |_,_=>false
theorem z8o(v:Path)(m:List (Place×Int)):q4n v m=m.findIdx λe=>decide (v.fr=e.1):=q5k _ (eP.pair eI).dflt m λj _=>eqKP _ _
theorem z8n(v:Path)(m:List (Place×Int)):q4m v m=m.findIdx λe=>decide (v.to=e.1):=q5k _ (eP.pair eI).dflt m λj _=>eqKP _ _
theorem zky(xs:List S)(a b:Int)(hl:xs.length<=maxLen):∃i,q07 (λg:q6y=>qoc g.1 g.2.1 g.2.2.1 g.2.2.2.1 g.2.2.2.2.1 g.2.2.2.2.2) qr4 (xs,(xs.length:Int),0,a,b,false)=(bif xs.any (qdw a b)then .ret else .exit 0,xs,(xs.length:Int),i,a,b,false):=by
 have h1:q07 (λg:q6y=>qoc g.1 g.2.1 g.2.2.1 g.2.2.2.1 g.2.2.2.2.1 g.2.2.2.2.2) qr4 (xs,(xs.length:Int),0,a,b,false)=_:=zkw (xs,(xs.length:Int),a,b) false rfl hl trivial;rcases search (x:=0) (st:=qi0 (xs,(xs.length:Int),a,b)) (p:=qdw a b) (r:=λ_ _ _=>false) (λ_ _ _=>rfl) xs false with ⟨ha,j,hj,c,_,_,h2⟩|⟨ha,h2⟩
 .have h2:scan 0 (qi0 (xs,(xs.length:Int),a,b)) 0 xs false=_:=h2;refine⟨j,h1.trans ?_⟩;rw[h2,ha];rfl
 .have h2:scan 0 (qi0 (xs,(xs.length:Int),a,b)) 0 xs false=_:=h2;refine⟨(xs.length:Int),h1.trans ?_⟩;rw[h2,ha];rfl
theorem zrj:q09 Tryz.prog 80 dPaM q0l (λg=>q2d (dget g.2) g.1) (λ_=>[]):=by
 refine q19 (z8p (λ_=>[]) λg hb _=>?_) λg hb _=>?_
 .obtain⟨v,m⟩:=g;show qb8 v m;unfold qb8;simp only[El.okL_eq,El.ag_eq,q7a];refine⟨λ_ _=>trivial,λ_ _=>trivial,λhn=>?_⟩;simp only[Bool.or_eq_false_iff,decide_eq_false_iff_not]at hn;have hs:¬(v.ss.length:Int)>64:=hn.2.2.2;have hm:v.ss.length<=maxLen:=by unfold maxLen;omega
  refine⟨trivial,ixJ0 rfl hm trivial,λ_=>⟨trivial,by unfold Su.KS;omega,λ_=>trivial,λ_=>trivial,λ_ _ _=>trivial⟩⟩
 .obtain⟨v,m⟩:=g;show qzo v m=q2d (dget m) v;unfold qzo q2d;rw[z5j (eP.pair eI).dflt m v.fr,z5j (eP.pair eI).dflt m v.to,<-z8o,<-z8n];simp only[El.ag_eq,q7a];by_cases h1:q4n v m<m.length
  .by_cases h2:q4m v m<m.length
   .simp only[h1,h2,decide_true,Bool.not_true,Bool.false_or,if_true]
    have hq:∃i,(v.ss.length:Int)<=64->qcv v m=(bif v.ss.any (qdw (m.getD (q4n v m) (eP.pair eI).dflt).2 (m.getD (q4m v m) (eP.pair eI).dflt).2)then .ret else .exit 0,v.ss,(v.ss.length:Int),i,(m.getD (q4n v m) (eP.pair eI).dflt).2,(m.getD (q4m v m) (eP.pair eI).dflt).2,false):=by
     by_cases hs:(v.ss.length:Int)<=64
     .obtain⟨i,hi⟩:=zky v.ss (m.getD (q4n v m) (eP.pair eI).dflt).2 (m.getD (q4m v m) (eP.pair eI).dflt).2 (by unfold maxLen;omega);refine⟨i,λ_=>?_⟩;unfold qcv;simp only[El.ag_eq,h1,h2,decide_true,cond_true];exact hi
     .exact⟨0,λh=>absurd h hs⟩
    obtain⟨i,hq⟩:=hq;unfold z0m;cases h3:((v.ss.length:Int)==(0:Int)||decide ((v.ss.length:Int)>(64:Int)))with
    |true=>rfl
    |false=>
     simp only[Bool.or_eq_false_iff,decide_eq_false_iff_not]at h3;rw[hq (by omega)];cases v.ss.any (qdw (m.getD (q4n v m) (eP.pair eI).dflt).2 (m.getD (q4m v m) (eP.pair eI).dflt).2)<;>rfl
   .simp only[h1,h2,decide_true,decide_false,Bool.not_true,Bool.not_false,Bool.false_or,Bool.true_or,cond_true,if_true,if_false]
  .simp only[h1,decide_false,Bool.not_false,Bool.true_or,cond_true,if_false]
def qfq:PTab Tryz.prog:=(qz7.cons 80 (q1y dPaM q0l (λg=>q2d (dget g.2) g.1) (λ_=>[])) (q0k zrj puB)).cons 59 (qbf aLPo dMB dpsC (λ_=>[])) (q3v zyq)
open Go.RowKit Go.Sx
abbrev q7w:Type:=List Path×Int×Int×List Path×MPz×Int
def zi1:LP 0 q7w:=.pair (.slot 0 14 dLP) (.pair (.slot 0 15 dI) (.pair (.slot 0 16 dI) (.pair (.slot 0 0 dLP) (.pair (.slot 0 3 dMP) (.slot 0 2 dI)))))
def qsz(xs:List Path)(n:Int)(i:Int)(l:List Path)(m:MPz)(r:Int):Ex×q7w:=
 bif decide (i<n)then bif bif decide (i>(0:Int))then decide (q5h (Path.mk (l.getD (IntKind.i64.wrap (i-(1:Int))).toNat ePa.dflt).fr (l.getD (IntKind.i64.wrap (i-(1:Int))).toNat ePa.dflt).to (eS.ag (l.getD (IntKind.i64.wrap (i-(1:Int))).toNat ePa.dflt).ss)) (Path.mk (xs.getD i.toNat ePa.dflt).fr (xs.getD i.toNat ePa.dflt).to (eS.ag (xs.getD i.toNat ePa.dflt).ss))>=(0:Int))||!q2d (dget ((eP.pair eI).ag m)) (Path.mk (xs.getD i.toNat ePa.dflt).fr (xs.getD i.toNat ePa.dflt).to (eS.ag (xs.getD i.toNat ePa.dflt).ss))else !q2d (dget ((eP.pair eI).ag m)) (Path.mk (xs.getD i.toNat ePa.dflt).fr (xs.getD i.toNat ePa.dflt).to (eS.ag (xs.getD i.toNat ePa.dflt).ss))then(Ex.ret,ePa.ag xs,n,i,ePa.ag l,(eP.pair eI).ag m,(110:Int))else(Ex.normal,ePa.ag xs,n,IntKind.i64.wrap (i+(1:Int)),ePa.ag l,(eP.pair eI).ag m,r)
 else(Ex.exit (0:Nat),ePa.ag xs,n,i,ePa.ag l,(eP.pair eI).ag m,r)
def qn9(xs:List Path)(n:Int)(i:Int)(l:List Path)(m:MPz)(r:Int):Prop:=
 (decide (i<n)=true->((0:Int)<=i/\i<(↑xs.length:Int))/\(decide (i>(0:Int))=true->(0:Int)<=IntKind.i64.wrap (i-(1:Int))/\IntKind.i64.wrap (i-(1:Int))<(↑l.length:Int))/\(decide (i>(0:Int))=true->eS.okL (l.getD (IntKind.i64.wrap (i-(1:Int))).toNat ePa.dflt).ss)/\(decide (i>(0:Int))=true->eS.okL (xs.getD i.toNat ePa.dflt).ss)/\(decide (i>(0:Int))=true->(!decide (q5h (Path.mk (l.getD (IntKind.i64.wrap (i-(1:Int))).toNat ePa.dflt).fr (l.getD (IntKind.i64.wrap (i-(1:Int))).toNat ePa.dflt).to (eS.ag (l.getD (IntKind.i64.wrap (i-(1:Int))).toNat ePa.dflt).ss)) (Path.mk (xs.getD i.toNat ePa.dflt).fr (xs.getD i.toNat ePa.dflt).to (eS.ag (xs.getD i.toNat ePa.dflt).ss))>=(0:Int)))=true->eS.okL (xs.getD i.toNat ePa.dflt).ss)/\(decide (i>(0:Int))=true->(!decide (q5h (Path.mk (l.getD (IntKind.i64.wrap (i-(1:Int))).toNat ePa.dflt).fr (l.getD (IntKind.i64.wrap (i-(1:Int))).toNat ePa.dflt).to (eS.ag (l.getD (IntKind.i64.wrap (i-(1:Int))).toNat ePa.dflt).ss)) (Path.mk (xs.getD i.toNat ePa.dflt).fr (xs.getD i.toNat ePa.dflt).to (eS.ag (xs.getD i.toNat ePa.dflt).ss))>=(0:Int)))=true->(eP.pair eI).okL m)/\((!decide (i>(0:Int)))=true->eS.okL (xs.getD i.toNat ePa.dflt).ss)/\((!decide (i>(0:Int)))=true->(eP.pair eI).okL m)/\((bif decide (i>(0:Int))then decide (q5h (Path.mk (l.getD (IntKind.i64.wrap (i-(1:Int))).toNat ePa.dflt).fr (l.getD (IntKind.i64.wrap (i-(1:Int))).toNat ePa.dflt).to (eS.ag (l.getD (IntKind.i64.wrap (i-(1:Int))).toNat ePa.dflt).ss)) (Path.mk (xs.getD i.toNat ePa.dflt).fr (xs.getD i.toNat ePa.dflt).to (eS.ag (xs.getD i.toNat ePa.dflt).ss))>=(0:Int))||!q2d (dget ((eP.pair eI).ag m)) (Path.mk (xs.getD i.toNat ePa.dflt).fr (xs.getD i.toNat ePa.dflt).to (eS.ag (xs.getD i.toNat ePa.dflt).ss))else !q2d (dget ((eP.pair eI).ag m)) (Path.mk (xs.getD i.toNat ePa.dflt).fr (xs.getD i.toNat ePa.dflt).to (eS.ag (xs.getD i.toNat ePa.dflt).ss)))=true->ePa.okL xs/\ePa.okL l/\(eP.pair eI).okL m)/\((bif decide (i>(0:Int))then decide (q5h (Path.mk (l.getD (IntKind.i64.wrap (i-(1:Int))).toNat ePa.dflt).fr (l.getD (IntKind.i64.wrap (i-(1:Int))).toNat ePa.dflt).to (eS.ag (l.getD (IntKind.i64.wrap (i-(1:Int))).toNat ePa.dflt).ss)) (Path.mk (xs.getD i.toNat ePa.dflt).fr (xs.getD i.toNat ePa.dflt).to (eS.ag (xs.getD i.toNat ePa.dflt).ss))>=(0:Int))||!q2d (dget ((eP.pair eI).ag m)) (Path.mk (xs.getD i.toNat ePa.dflt).fr (xs.getD i.toNat ePa.dflt).to (eS.ag (xs.getD i.toNat ePa.dflt).ss))else !q2d (dget ((eP.pair eI).ag m)) (Path.mk (xs.getD i.toNat ePa.dflt).fr (xs.getD i.toNat ePa.dflt).to (eS.ag (xs.getD i.toNat ePa.dflt).ss)))=false->ePa.okL xs/\ePa.okL l/\(eP.pair eI).okL m))/\(decide (i<n)=false->ePa.okL xs/\ePa.okL l/\(eP.pair eI).okL m)
theorem zpq:((q03 Tryz.prog 33).filter λc=>Nat.beq (lkey c) 5).length=1:=by kernel_rfl
abbrev q92:Type:=List Path×Int×List Path×MPz
abbrev qkr:Type:=Int
def zdd(g:q7w):Int×q92×qkr:=(g.2.2.1,(g.1,g.2.1,g.2.2.2.1,g.2.2.2.2.1),g.2.2.2.2.2)
def zpr(d:Int×q92×qkr):q7w:=(d.2.1.1,d.2.1.2.1,d.1,d.2.1.2.2.1,d.2.1.2.2.2,d.2.2)
abbrev qkq(g:q7w):Ex×q7w:=qsz g.1 g.2.1 g.2.2.1 g.2.2.2.1 g.2.2.2.2.1 g.2.2.2.2.2
abbrev zhz(g:q7w):Prop:=qn9 g.1 g.2.1 g.2.2.1 g.2.2.2.1 g.2.2.2.2.1 g.2.2.2.2.2
theorem zwk(g:q7w):(qkq g).1=.normal\/(qkq g).1∈([.ret,.exit 0]:List Ex):=by
 unfold qkq qsz
 repeat' (first|(left;rfl)|(right;simp only[cond_true,cond_false];simp;done)|(rw[Bool.cond_eq_ite];split))
abbrev zpt(Inv:q7w->List Prop)(m:q7w->Nat):LCon:=q2q [.ret,.exit 0] (loopBody Tryz.prog 33 5) zi1 [] 40 Inv qkq m
theorem zdc(Inv:q7w->List Prop)(m:q7w->Nat)(hs:∀g,allP (Inv g)->zhz g)(hg:Goes qkq m λg=>allP (Inv g)):∀b∈q03 Tryz.prog 33,lkey b=5->q06 Tryz.prog b (zpt Inv m).g:=q0s (Γ:=(PTab.gamz qfq [] [])) (Λ:=noΛ) (PTab.okz qfq [] []) q0f 100 33 5 40 zi1 [] Inv qkq zhz m default [.ret,.exit 0] zpq (λrd T B HL HB ds g=>by kernel_rfl) (λrd T B HL HB ds g=>by kernel_rfl) hs hg zwk
abbrev q7k:Type:=Path×Unit×Int×Int×Int×Bool
def zes:LP 1 q7k:=.pair (.obj 1 0 105 ePa) (.pair (.fix 1 3 (.p 0 0)) (.pair (.slot 1 5 dI) (.pair (.slot 1 7 dI) (.pair (.slot 1 9 dI) (.slot 1 4 q0l)))))
def qqx(v:Path)(_u:Unit)(a:Int)(b:Int)(i:Int)(r:Bool):Ex×q7k:=
 bif decide (i<(↑v.ss.length:Int))then bif (v.ss.getD i.toNat eS.dflt).f !=a||q60 (v.ss.getD i.toNat eS.dflt)!=b then(Ex.ret,Path.mk v.fr v.to (eS.ag v.ss),(),a,b,i,false)else(Ex.normal,Path.mk v.fr v.to (eS.ag v.ss),(),a,b,IntKind.i64.wrap (i+(1:Int)),r)
 else(Ex.exit (0:Nat),Path.mk v.fr v.to (eS.ag v.ss),(),a,b,i,r)
def qli(v:Path)(_u:Unit)(a:Int)(b:Int)(i:Int)(r:Bool):Prop:=
 (decide (i<(↑v.ss.length:Int))=true->((0:Int)<=i/\i<(↑v.ss.length:Int))/\((!(v.ss.getD i.toNat eS.dflt).f !=a)=true->(0:Int)<=i/\i<(↑v.ss.length:Int))/\(((v.ss.getD i.toNat eS.dflt).f !=a||q60 (v.ss.getD i.toNat eS.dflt)!=b)=true->eS.okL v.ss)/\(((v.ss.getD i.toNat eS.dflt).f !=a||q60 (v.ss.getD i.toNat eS.dflt)!=b)=false->eS.okL v.ss))/\(decide (i<(↑v.ss.length:Int))=false->eS.okL v.ss)
theorem zjx:((q03 Tryz.prog 55).filter λc=>Nat.beq (lkey c) 6).length=1:=by kernel_rfl
abbrev q8g:Type:=Path×Int×Int
abbrev qit:Type:=Unit×Bool
def z8r(g:q7k):Int×q8g×qit:=(g.2.2.2.2.1,(g.1,g.2.2.1,g.2.2.2.1),(g.2.1,g.2.2.2.2.2))
def zjy(d:Int×q8g×qit):q7k:=(d.2.1.1,d.2.2.1,d.2.1.2.1,d.2.1.2.2,d.1,d.2.2.2)
abbrev qis(g:q7k):Ex×q7k:=qqx g.1 g.2.1 g.2.2.1 g.2.2.2.1 g.2.2.2.2.1 g.2.2.2.2.2
abbrev zeq(g:q7k):Prop:=qli g.1 g.2.1 g.2.2.1 g.2.2.2.1 g.2.2.2.2.1 g.2.2.2.2.2
theorem zrl(g:q7k):(qis g).1=.normal\/(qis g).1∈([.ret,.exit 0]:List Ex):=by
 unfold qis qqx
 repeat' (first|(left;rfl)|(right;simp only[cond_true,cond_false];simp;done)|(rw[Bool.cond_eq_ite];split))
abbrev zk1(Inv:q7k->List Prop)(m:q7k->Nat):LCon:=q2q [.ret,.exit 0] (loopBody Tryz.prog 55 6) zes [] 76 Inv qis m
theorem z8q(Inv:q7k->List Prop)(m:q7k->Nat)(hs:∀g,allP (Inv g)->zeq g)(hg:Goes qis m λg=>allP (Inv g)):∀b∈q03 Tryz.prog 55,lkey b=6->q06 Tryz.prog b (zk1 Inv m).g:=q0s (Γ:=(PTab.gamz qfq [] [])) (Λ:=noΛ) (PTab.okz qfq [] []) q0f 100 55 6 76 zes [] Inv qis zeq m default [.ret,.exit 0] zjx (λrd T B HL HB ds g=>by kernel_rfl) (λrd T B HL HB ds g=>by kernel_rfl) hs hg zrl
theorem zbz(v:Path):Path.mk v.fr v.to v.ss=v:=rfl
def qg3(l:List Path)(i:Int)(v:Path):Bool:=bif decide (i>(0:Int))then decide (q5h (l.getD (IntKind.i64.wrap (i-(1:Int))).toNat ePa.dflt) v>=(0:Int))else false
def q7x(l:List Path)(q:Path->Bool)(i:Int)(v:Path):Bool:=qg3 l i v||!q v
def qsy(c:q92)(b:qkr)(i:Int)(v:Path):Ex×qkr:=bif q7x c.2.2.1 (q2d (dget c.2.2.2)) i v then(.ret,110)else(.normal,b)
def zde(c:q92)(_:qkr)(_:Int):Prop:=c.1=c.2.2.1
abbrev zps(g:q7w):List Prop:=ixI (λc:q92=>c.2.1) (λc=>c.1) zde (zdd g)
abbrev qt0(g:q7w):Nat:=ixM (λc:q92=>c.2.1) (zdd g)
theorem zwl:ixP qsy (λc:q92=>c.1) zde:=λ_ _ _ _ h _ _=>h
abbrev z6e(g:q7w):Ex×q7w:=qsz g.1 g.2.1 g.2.2.1 g.2.2.2.1 g.2.2.2.2.1 g.2.2.2.2.2
theorem zi0(d:Int×q92×qkr)(_:allP (ixI (λc:q92=>c.2.1) (λc=>c.1) zde d)):z6e (zpr d)=((ixF 0 (λc:q92=>c.2.1) (λc=>c.1) ePa.dflt qsy d).1,zpr (ixF 0 (λc:q92=>c.2.1) (λc=>c.1) ePa.dflt qsy d).2):=by
 obtain⟨i,⟨xs,n,l,m⟩,r⟩:=d;show qsz xs n i l m r=_;unfold qsz ixF qsy q7x qg3;simp only[El.ag_eq,zbz];generalize (xs.getD i.toNat ePa.dflt)=v;cases decide (i<n)with
 |false=>rfl
 |true=>
  simp only[cond_true];generalize decide (q5h (l.getD (IntKind.i64.wrap (i-(1:Int))).toNat ePa.dflt) v>=(0:Int))=z;generalize q2d (dget m) v=y;cases decide (i>(0:Int))<;>cases z<;>cases y<;>rfl
theorem wrP{i:Int}(h0:i>0)(l:Nat)(hl:l<=maxLen)(h:i<(l:Int)):0<=IntKind.i64.wrap (i-1)/\IntKind.i64.wrap (i-1)<(l:Int):=by
 have h3:IntKind.i64.wrap (i-1)=i-1:=Lp.wr ⟨by omega,by unfold maxLen at hl;omega⟩;rw[h3];omega
theorem zwj:∀b∈q03 Tryz.prog 33,lkey b=5->q06 Tryz.prog b (zpt zps qt0).g:=by
 refine zdc zps qt0 (λg hi=>?_) (q0e (λ_=>rfl) (λ_=>rfl) zi0 zwl);obtain⟨xs,n,i,l,m,r⟩:=g;obtain⟨h1,h2,h3,h4,h5⟩:=hi _ (List.mem_cons_self ..);have h1:n=(xs.length:Int):=h1;have h2:xs.length<=maxLen:=h2;have h3:0<=i:=h3;have h5:xs=l:=h5;subst h5;show qn9 xs n i xs m r;unfold qn9;simp only[El.okL_eq,El.ag_eq];refine⟨λhlt=>?_,λ_=>?_⟩
 .have hr:=rngP i n _ h1 h3 hlt;have hp:decide (i>0)=true->0<=IntKind.i64.wrap (i-1)/\IntKind.i64.wrap (i-1)<(xs.length:Int):=λh=>wrP (of_decide_eq_true h) _ h2 hr.2;refine⟨hr,hp,?_⟩
  repeat' (first|apply And.intro|intro _)
  all_goals trivial
 .repeat' (first|apply And.intro|intro _)
  all_goals trivial
theorem zpp(xs:List Path)(m:MPz)(r:Int)(k2:xs.length<=maxLen):∃j,q07 z6e qt0 (xs,(xs.length:Int),0,xs,m,r)=(bif q5r (q7x xs (q2d (dget m))) 0 xs then .ret else .exit 0,xs,(xs.length:Int),j,xs,m,bif q5r (q7x xs (q2d (dget m))) 0 xs then 110 else r):=by
 have h:=q0h (φ:=zdd) (ψ:=zpr) (λ_=>rfl) (λ_=>rfl) zi0 zwl (xs,(xs.length:Int),xs,m) r rfl k2 rfl;have h:q07 z6e qt0 (xs,(xs.length:Int),0,xs,m,r)=_:=h
 have hf:∀(l:List Path)(r:Int),l.foldl (λ(b:Int)(_:Path)=>b) r=r:=by
  intro l
  induction l with
  |nil=>intro r;rfl
  |cons v l ih=>intro r;exact ih _
 rcases qqu (x:=0) (e:=.ret) (st:=qsy (xs,(xs.length:Int),xs,m)) (p:=q7x xs (q2d (dget m))) (h:=λ_=>110) (f:=λb _=>b) (by intro h;cases h) (λ_ _ _=>rfl) xs 0 r with ⟨ha,j,b',h2⟩|⟨ha,h2⟩
 .have h2:scan 0 (qsy (xs,(xs.length:Int),xs,m)) 0 xs r=_:=h2;refine⟨j,h.trans ?_⟩;rw[h2,ha];rfl
 .have h2:scan 0 (qsy (xs,(xs.length:Int),xs,m)) 0 xs r=_:=h2;refine⟨0+(xs.length:Int),h.trans ?_⟩;rw[h2,ha,hf];rfl
def zly:LTab Tryz.prog:=ltM9.cons 33 5 (zpt zps qt0) zwj
abbrev zg0:Lam:=zly.lam
theorem z2g:∀f k L,zg0 f k=some L->∀b∈q03 Tryz.prog f,lkey b=k->q06 Tryz.prog b L.g:=zly.ok
def z07(l:List Path):Ex×
 q7w:=
 q07 (λg=>qsz g.fst g.snd.fst g.snd.snd.fst g.snd.snd.snd.fst g.snd.snd.snd.snd.fst g.snd.snd.snd.snd.snd) qt0 (ePa.ag l,(↑l.length:Int),(0:Int),ePa.ag l,(eP.pair eI).ag (dpsC (ePa.ag l)).fst,(0:Int))
def zks(l:List Path):Dv.T dI:=
 bif !(dpsC (ePa.ag l)).snd then(110:Int)
 else bif exB Ex.ret (z07 l).fst then(z07 l).snd.snd.snd.snd.snd.snd else(0:Int)
def qex(l:List Path):Prop:=
 ePa.okL l/\((!(dpsC (ePa.ag l)).snd)=false->ePa.okL l/\ePa.okL l/\(eP.pair eI).okL (dpsC (ePa.ag l)).fst/\Lp.ixJ (λc=>c.snd.fst) (λc=>c.fst) zde (zdd (ePa.ag l,(↑l.length:Int),(0:Int),ePa.ag l,(eP.pair eI).ag (dpsC (ePa.ag l)).fst,(0:Int))))
theorem zkr(pre:DA.T aLPo->List Prop)(h:∀g,DA.bd aLPo g->(∀p∈pre g,p)->qex g):q09 Tryz.prog 33 aLPo dI (λg=>zks g) pre:=q0o (Γ:=(PTab.gamz qfq [] [])) (Λ:=zg0) (PTab.okz qfq [] []) z2g 100 default (λg=>qex g) (λg=>by kernel_rfl) (λg=>by kernel_rfl) h
def chkP(l:List Path):Int:=bif !(dpsC l).2||q5r (q7x l (q2d (dget (dpsC l).1))) 0 l then 110 else 0
theorem zse:q09 Tryz.prog 33 aLPo dI chkP (λ_=>[]):=by
 refine q19 (zkr (λ_=>[]) λl hb _=>?_) λl hb _=>?_
 .have hl:l.length<=maxLen:=hb.1;show qex l;unfold qex;simp only[El.okL_eq,El.ag_eq]
  repeat' (first|exact ixJ0 rfl hl rfl|apply And.intro|intro _)
  all_goals trivial
 .have hl:l.length<=maxLen:=hb.1;show zks l=chkP l;unfold zks z07 chkP;simp only[El.ag_eq];obtain⟨j,hj⟩:=zpp l (dpsC l).1 0 hl;have hj:q07 (λg:q7w=>qsz g.1 g.2.1 g.2.2.1 g.2.2.2.1 g.2.2.2.2.1 g.2.2.2.2.2) qt0 (l,(l.length:Int),0,l,(dpsC l).1,0)=_:=hj;rw[hj];cases(dpsC l).2 with
  |false=>rfl
  |true=>
   cases q5r (q7x l (q2d (dget (dpsC l).1))) 0 l<;>rfl
def qo0(a b:Int)(v:S):Bool:=v.f !=a||q60 v !=b
def qqw(c:q8g)(b:qit)(_:Int)(v:S):Ex×qit:=bif qo0 c.2.1 c.2.2 v then(.ret,((),false))else(.normal,b)
def z8s(_:q8g)(_:qit)(_:Int):Prop:=True
abbrev zk0(g:q7k):List Prop:=ixI (λc:q8g=>(c.1.ss.length:Int)) (λc=>c.1.ss) z8s (z8r g)
abbrev qqy(g:q7k):Nat:=ixM (λc:q8g=>(c.1.ss.length:Int)) (z8r g)
theorem zrm:ixP qqw (λc:q8g=>c.1.ss) z8s:=λ_ _ _ _ h _ _=>h
abbrev qzp(g:q7k):Ex×q7k:=qqx g.1 g.2.1 g.2.2.1 g.2.2.2.1 g.2.2.2.2.1 g.2.2.2.2.2
theorem zer(d:Int×q8g×qit)(_:allP (ixI (λc:q8g=>(c.1.ss.length:Int)) (λc=>c.1.ss) z8s d)):qzp (zjy d)=((ixF 0 (λc:q8g=>(c.1.ss.length:Int)) (λc=>c.1.ss) eS.dflt qqw d).1,zjy (ixF 0 (λc:q8g=>(c.1.ss.length:Int)) (λc=>c.1.ss) eS.dflt qqw d).2):=by
 obtain⟨i,⟨v,a,b⟩,⟨⟨⟩,r⟩⟩:=d;show qqx v () a b i r=_;unfold qqx ixF qqw qo0;simp only[El.ag_eq,zbz];cases decide (i<(v.ss.length:Int))with
 |false=>rfl
 |true=>
  simp only[cond_true];generalize ((v.ss.getD i.toNat eS.dflt).f !=a||q60 (v.ss.getD i.toNat eS.dflt)!=b)=z;cases z<;>rfl
theorem zrk:∀b∈q03 Tryz.prog 55,lkey b=6->q06 Tryz.prog b (zk1 zk0 qqy).g:=by
 refine z8q zk0 qqy (λg hi=>?_) (q0e (λ_=>rfl) (λ_=>rfl) zer zrm);obtain⟨v,⟨⟩,a,b,i,r⟩:=g;obtain⟨h1,h2,h3,h4,h5⟩:=hi _ (List.mem_cons_self ..);have h3:0<=i:=h3;show qli v () a b i r;unfold qli;simp only[El.okL_eq,El.ag_eq];refine⟨λhlt=>?_,λ_=>trivial⟩;have hr:=rngP i _ _ rfl h3 hlt;exact⟨hr,λ_=>hr,λ_=>trivial,λ_=>trivial⟩
theorem zjz(v:Path)(a b:Int)(hl:v.ss.length<=maxLen):∃j,q07 qzp qqy (v,(),a,b,0,false)=(bif v.ss.any (qo0 a b)then .ret else .exit 0,v,(),a,b,j,false):=by
 have h1:q07 qzp qqy (v,(),a,b,0,false)=_:=q0h (φ:=z8r) (ψ:=zjy) (λ_=>rfl) (λ_=>rfl) zer zrm (v,a,b) ((),false) rfl hl trivial;rcases search (x:=0) (st:=qqw (v,a,b)) (p:=qo0 a b) (r:=λ_ _ _=>((),false)) (λ_ _ _=>rfl) v.ss ((),false)with ⟨ha,j,hj,c,_,_,h2⟩|⟨ha,h2⟩
 .have h2:scan 0 (qqw (v,a,b)) 0 v.ss ((),false)=_:=h2;refine⟨j,h1.trans ?_⟩;rw[h2,ha];rfl
 .have h2:scan 0 (qqw (v,a,b)) 0 v.ss ((),false)=_:=h2;refine⟨(v.ss.length:Int),h1.trans ?_⟩;rw[h2,ha];rfl
def qlf(c:q8b)(b:qio)(i:Int)(v:S):Ex×qio:=bif !decide (v=c.2.getD i.toNat eS.dflt)then(.ret,false)else(.normal,b)
def z8f(c:q8b)(_:qio)(_:Int):Prop:=c.1.length=c.2.length
abbrev zjq(g:q7j):List Prop:=ixI (λc:q8b=>(c.1.length:Int)) (λc=>c.1) z8f (z8e g)
abbrev qqr(g:q7j):Nat:=ixM (λc:q8b=>(c.1.length:Int)) (z8e g)
theorem zrg:ixP qlf (λc:q8b=>c.1) z8f:=λ_ _ _ _ h _ _=>h
abbrev qzf(g:q7j):Ex×q7j:=qqq g.1 g.2.1 g.2.2.1 g.2.2.2
theorem zen(d:Int×q8b×qio)(hi:allP (ixI (λc:q8b=>(c.1.length:Int)) (λc=>c.1) z8f d)):qzf (zjo d)=((ixF 0 (λc:q8b=>(c.1.length:Int)) (λc=>c.1) eS.dflt qlf d).1,zjo (ixF 0 (λc:q8b=>(c.1.length:Int)) (λc=>c.1) eS.dflt qlf d).2):=by
 obtain⟨i,⟨xs,ys⟩,r⟩:=d;obtain⟨_,_,_,_,h5⟩:=hi _ (List.mem_cons_self ..);have h5:xs.length=ys.length:=h5;show qqq xs ys i r=_;unfold qqq ixF qlf;simp only[El.ag_eq,z5v,<-h5,Bool.and_self];cases decide (i<(xs.length:Int))with
 |false=>rfl
 |true=>
  simp only[cond_true];have e:decide (ys.getD i.toNat eS.dflt=xs.getD i.toNat eS.dflt)=decide (xs.getD i.toNat eS.dflt=ys.getD i.toNat eS.dflt):=decide_eq_decide.2 eq_comm;rw[e];generalize decide (xs.getD i.toNat eS.dflt=ys.getD i.toNat eS.dflt)=z;cases z<;>rfl
theorem zre:∀b∈q03 Tryz.prog 97,lkey b=7->q06 Tryz.prog b (zjr zjq qqr).g:=by
 refine z8d zjq qqr (λg hi=>?_) (q0e (λ_=>rfl) (λ_=>rfl) zen zrg);obtain⟨xs,ys,i,r⟩:=g;obtain⟨h1,h2,h3,h4,h5⟩:=hi _ (List.mem_cons_self ..);have h3:0<=i:=h3;have h5:xs.length=ys.length:=h5;show qle xs ys i r;unfold qle;simp only[El.okL_eq,El.ag_eq,z5v,<-h5,Bool.and_self];refine⟨λhlt=>?_,λ_=>?_⟩
 .have hr:=rngP i _ _ rfl h3 hlt
  repeat' (first|exact hr|apply And.intro|intro _)
  all_goals first|trivial|exact hr.1|exact hr.2
 .repeat' (first|apply And.intro|intro _)
  all_goals trivial
theorem zjm(xs ys:List S)(h:xs.length=ys.length)(hl:xs.length<=maxLen):∃j,q07 qzf qqr (xs,ys,0,false)=(bif decide (xs=ys)then .exit 0 else .ret,xs,ys,j,false):=by
 have h1:q07 qzf qqr (xs,ys,0,false)=_:=q0h (φ:=z8e) (ψ:=zjo) (λ_=>rfl) (λ_=>rfl) zen zrg (xs,ys) false rfl hl h;rcases q8c (x:=0) ys eS.dflt (st:=qlf (xs,ys)) (λ_ _ _=>rfl) xs 0 false (by omega)with ⟨h2,h3⟩|⟨h2,h3,h4⟩
 .have h3:scan 0 (qlf (xs,ys)) 0 xs false=_:=h3;rw[h3]at h1;rw[List.drop_zero]at h2;refine⟨((0:Nat):Int)+(xs.length:Int),h1.trans ?_⟩;simp only[h2,decide_true];rfl
 .have h3:(scan 0 (qlf (xs,ys)) 0 xs false).1=_:=h3;have h4:(scan 0 (qlf (xs,ys)) 0 xs false).2.2=_:=h4;rw[List.drop_zero]at h2;refine⟨(scan 0 (qlf (xs,ys)) 0 xs false).2.1,h1.trans ?_⟩;rw[h3,h4];simp only[h2,decide_false];rfl
def qz6:PTab Tryz.prog:=((((qfq.cons 33 (q1y aLPo dI chkP (λ_=>[])) (q0k zse puI)).cons 52 (q1y aLPp dIBo (λg=>depL g.1 g.2) (λ_=>[])) (q0k zvl zy2)).cons 98 (q1y aLSs q0l (λg=>decide (g.2∈g.1)) (λ_=>[])) (q0k zuk puB)).cons 58 (qbf z6z (Rv.D rLS) (λg=>getL g.1 g.2.1 g.2.2) (λg=>[Sm g.1])) (q3v zuo)).cons 134 (qbf Su.aL1 (Rv.D Su.rLE) Su.q1j (λxs=>[xs.length<=Su.KS])) (q3v Su.qwe)
def zlx:LTab Tryz.prog:=(zly.cons 55 6 (zk1 zk0 qqy) zrk).cons 97 7 (zjr zjq qqr) zre
abbrev z2f:Lam:=zlx.lam
theorem qp7:∀f k L,z2f f k=some L->∀b∈q03 Tryz.prog f,lkey b=k->q06 Tryz.prog b L.g:=zlx.ok
abbrev aLSo:DA (List S):=.one dLS
def qzm(l:List S):Ex×
 q7j:=
 q07 (λg=>qqq g.fst g.snd.fst g.snd.snd.fst g.snd.snd.snd) qqr (eS.ag l,eS.ag (Su.q1j (eS.ag l)).fst,(0:Int),false)
def zjw(l:List S):Dv.T q0l:=
 bif decide ((↑l.length:Int)<(1:Int))||decide ((↑l.length:Int)>(64:Int))then false
 else bif (Su.q1j (eS.ag l)).snd !=(0:Int)||(↑(Su.q1j (eS.ag l)).fst.length:Int)!=(↑l.length:Int)then false else bif exB Ex.ret (qzm l).fst then(qzm l).snd.snd.snd.snd else true
def qeu(l:List S):Prop:=
 (decide ((↑l.length:Int)<(1:Int))||decide ((↑l.length:Int)>(64:Int)))=false->eS.okL l/\(eS.ag l).length<=Su.KS/\(((Su.q1j (eS.ag l)).snd !=(0:Int)||(↑(Su.q1j (eS.ag l)).fst.length:Int)!=(↑l.length:Int))=false->eS.okL l/\eS.okL (Su.q1j (eS.ag l)).fst/\Lp.ixJ (λc=>(↑c.fst.length:Int)) (λc=>c.fst) z8f (z8e (eS.ag l,eS.ag (Su.q1j (eS.ag l)).fst,(0:Int),false)))
theorem zjv(pre:DA.T aLSo->List Prop)(h:∀g,DA.bd aLSo g->(∀p∈pre g,p)->qeu g):q09 Tryz.prog 97 aLSo q0l (λg=>zjw g) pre:=q0o (Γ:=(PTab.gamz qz6 [] [])) (Λ:=z2f) (PTab.okz qz6 [] []) qp7 100 default (λg=>qeu g) (λg=>by kernel_rfl) (λg=>by kernel_rfl) h
end
end Go.Proofs.YthnojkbkojpadaaGreat
