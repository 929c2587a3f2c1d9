/- Ledger: Net: its contract. -/
import Derived.Test.YthnojkbkojpadaaGreatZG0935bc25
import Derived.Test.YthnojkbkojpadaaGreatZG07dea7ef
import Derived.Test.YthnojkbkojpadaaGreatZG088b3fbb
import Derived.Test.YthnojkbkojpadaaGreatZG0639e578
import Derived.Test.YthnojkbkojpadaaGreatZG056c14bf
set_option maxRecDepth 100000
set_option linter.unusedVariables false
set_option linter.unusedSimpArgs false
set_option linter.constructorNameAsVariable false
set_option linter.all false

namespace Go.Proofs.YthnojkbkojpadaaGreat
open Go.RowKit Go.Sx Go.Lp
theorem qph{β:Type}(f:β->q00->β):∀(l:List q00)(a:β)(r:Int),l.foldl (λ(b:Unit×β×Unit×Int)v=>((),f b.2.1 v,(),b.2.2.2)) ((),a,(),r)=((),l.foldl f a,(),r)
 | [],_,_=>rfl
 |_::l,a,r=>qph f l _ r
theorem za4(cs:List Nat)(xs:List q00)(h:xs.length<=KS):(xs.any cBad=true/\(q29 cs xs).1=.ret/\(q29 cs xs).2.2.2.2.2.2.2=150)\/(xs.any cBad=false/\(q29 cs xs).1=.exit 0/\(q29 cs xs).2.2.2.2.2.1=mapC xs):=by
 have hm:xs.length<=maxLen:=Nat.le_trans h (by decide);have hr:q07 zln nb_M (xs,(xs.length:Int),0,(),([],0),(),0)=_:=q0h (φ:=nb_f) (ψ:=nb_g) (λ_=>rfl) (λ_=>rfl) zt1 nb_P (xs,(xs.length:Int)) ((),([],0),(),(0:Int)) rfl hm trivial
 have h1:q29 cs xs=q07 zln nb_M (xs,(xs.length:Int),0,(),([],0),(),0):=by
  unfold q29;rw[eC.lst_els];rfl
 rw[hr]at h1;rcases scan_bad (x:=0) (st:=nb_S (xs,(xs.length:Int))) (e:=.ret) (p:=cBad) (r:=λ_ b=>((),b.2.1,(),(150:Int))) (f:=λb v=>((),q5u b.2.1 v,(),b.2.2.2)) (by simp) (λ_ _ _=>rfl) xs 0 ((),([],0),(),(0:Int))with ⟨ha,h2,a,b',_,_,h3⟩|⟨ha,h2⟩
 .refine .inl ⟨ha,?_,?_⟩
  .rw[h1];exact h2
  .rw[h1];show(scan 0 (nb_S (xs,(xs.length:Int))) 0 xs ((),([],0),(),(0:Int))).2.2.2.2.2=_;rw[h3]
 .refine .inr ⟨ha,?_,?_⟩
  .rw[h1];show(scan 0 (nb_S (xs,(xs.length:Int))) 0 xs ((),([],0),(),(0:Int))).1=_;rw[h2]
  .rw[h1];show(scan 0 (nb_S (xs,(xs.length:Int))) 0 xs ((),([],0),(),(0:Int))).2.2.2.1=_;rw[h2];show(xs.foldl (λ(b:Unit×(List MK×Nat)×Unit×Int)v=>((),q5u b.2.1 v,(),b.2.2.2)) ((),([],0),(),(0:Int))).2.1=_;rw[qph];rfl
theorem qp2(mp:List MK):left mp []=mp:=by
 unfold left;rw[List.filter_eq_self];intro a _;rfl
theorem za3(cs:List Nat)(xs:List q00)(h:(q29 cs xs).2.2.2.2.2.1=mapC xs):(q1o cs xs).2.2.2.2=outC (q4j (mapC xs).1.length (hdC cs) (mapC xs).1):=by
 unfold q1o nor_f' qok z9w;simp only[El.lst_els];rw[h];have:left (mapC xs).1 (List.map (λ_=>(0:Int)) (List.range 0))=(mapC xs).1:=qp2 _;simp only[this,quc];rfl
theorem zlj(cs:List Nat)(xs:List q00)(h:xs.length<=KS):qbj cs xs/\quk cs xs=netC xs:=by
 have hm:xs.length<=maxLen:=Nat.le_trans h (by decide);have okl:∀(l:List q00)(e:Nat),eC.Ok (eC.els l e):=λl e=>El.ok_els _ _ e;unfold qbj quk netC;simp only[El.lst_els,zmi xs () hm];cases ha:xs.any tBad with
 |true=>exact⟨⟨λ_ _=>okl _ _,λh=>(by cases h)⟩,rfl⟩
 |false=>
  have hJ:=ixJ0 (lim:=λc:qd1=>c.2) (xs:=λc:qd1=>c.1) (P:=nb_K) (c:=(xs,(xs.length:Int))) (b:=((),(([],0):List MK×Nat),(),(0:Int))) rfl hm trivial;rcases za4 cs xs h with ⟨hb,h1,h2⟩|⟨hb,h1,h2⟩
  .rw[h1,h2,hb];exact⟨⟨λ_ _=>okl _ _,λ_=>⟨λ_ _=>okl _ _,λ_ _=>trivial,hJ,λh=>(by cases h)⟩⟩,rfl⟩
  .have h3:=za3 cs xs h2;have hp:(q4j (mapC xs).1.length (hdC cs) (mapC xs).1).Perm (mapC xs).1:=qja _ _ _ rfl;obtain⟨r1,r2⟩:=z99 h hb hp
   have hlen:(outC (q4j (mapC xs).1.length (hdC cs) (mapC xs).1)).length<=KS:=by
    have e1:(outC (q4j (mapC xs).1.length (hdC cs) (mapC xs).1)).length<=(q4j (mapC xs).1.length (hdC cs) (mapC xs).1).length:=by
     unfold outC;rw[List.length_map];exact List.length_filter_le _ _
    have e2:=hp.length_eq;have e3:=qum xs;omega
   rw[h1,h2,h3,hb];generalize outC (q4j (mapC xs).1.length (hdC cs) (mapC xs).1)=o at r1 r2 hlen;have hl:(q2g cfC o).length=o.length:=(q2b cfC o).length_eq
   have hat:eC.lst o.length (ElE.fn (eC.els (q2g cfC o))).at=q2g cfC o:=by
    show eC.lst o.length (eC.els (q2g cfC o))=_;rw[<-hl,El.lst_els]
   have hml:(q2g cfC o).length<=maxLen:=by rw[hl];exact Nat.le_trans hlen (by decide)
   have hx:=zmk (q2g cfC o) () hml;rw[show(λa b=>q4o a b)=cfC from rfl];simp only[hat,hx];simp only[r1,zbu];refine⟨⟨λ_ _=>okl _ _,λ_=>⟨λ_ _=>okl _ _,λ_ _=>trivial,hJ,λ_=>⟨λ_ _=>trivial,trivial,λ_ _=>trivial,⟨⟨(qrg xs).1,(qrg xs).2.1,rfl⟩,?_⟩,trivial,λ_ _=>trivial,?_,r2,?_,λ_ _=>okl _ _,λ_=>⟨?_,λ_ _=>okl _ _⟩⟩⟩⟩,?_⟩
   .have e3:=qum xs;have:left (mapC xs).1 (List.map (λ_=>(0:Int)) (List.range 0))=(mapC xs).1:=qp2 _;rw[this];omega
   .unfold KS at hlen;omega
   .rw[<-r1,hl];exact Nat.le_refl _
   .rw[<-r1,hl];exact Nat.le_refl _
   .cases(totC xs).any cBad<;>rfl
theorem z1c:q09 Tryz.prog 29 aLC dLCE netC (λxs=>[xs.length<=KS]):=
 za5 netC _ λcs xs _ hp=>zlj cs xs (hp _ (List.mem_cons_self ..))
end Go.Proofs.YthnojkbkojpadaaGreat

namespace Go.Proofs.YthnojkbkojpadaaGreat
noncomputable section
open Go.RowKit Go.Sx Go.Lp
def qnm:MTab Tryz.prog:=qz4.cons 29 (qbf aLC dLCE netC (λxs=>[xs.length<=KS])) (q3v z1c)
end
end Go.Proofs.YthnojkbkojpadaaGreat

namespace Go.Proofs.YthnojkbkojpadaaGreat
open Go.RowKit Go.Sx
end Go.Proofs.YthnojkbkojpadaaGreat

namespace Go.Proofs.YthnojkbkojpadaaGreat
open Go.RowKit Go.Sx Go.Lp
end Go.Proofs.YthnojkbkojpadaaGreat

namespace Go.Proofs.YthnojkbkojpadaaGreat
open Go.RowKit Go.Sx Go.Lp
end Go.Proofs.YthnojkbkojpadaaGreat

namespace Go.Proofs.YthnojkbkojpadaaGreat
open Go.RowKit Go.Sx
end Go.Proofs.YthnojkbkojpadaaGreat

namespace Go.Proofs.YthnojkbkojpadaaGreat
open Go.RowKit Go.Sx Go.Lp
end Go.Proofs.YthnojkbkojpadaaGreat

namespace Go.Proofs.YthnojkbkojpadaaGreat
open Go.RowKit Go.Sx Go.Lp
end Go.Proofs.YthnojkbkojpadaaGreat

namespace Go.Proofs.YthnojkbkojpadaaGreat
open Go.RowKit Go.Sx Go.Lp
end Go.Proofs.YthnojkbkojpadaaGreat

namespace Go.Proofs.YthnojkbkojpadaaGreat
open Go.RowKit Go.Sx
end Go.Proofs.YthnojkbkojpadaaGreat

namespace Go.Proofs.YthnojkbkojpadaaGreat
open Go.RowKit Go.Sx Go.Lp
end Go.Proofs.YthnojkbkojpadaaGreat

namespace Go.Proofs.YthnojkbkojpadaaGreat
open Go.RowKit Go.Sx Go.Lp
end Go.Proofs.YthnojkbkojpadaaGreat

namespace Go.Proofs.YthnojkbkojpadaaGreat
open Go.RowKit Go.Sx Go.Lp
end Go.Proofs.YthnojkbkojpadaaGreat

namespace Go.Proofs.YthnojkbkojpadaaGreat
open Go.RowKit Go.Sx Go.Lp
end Go.Proofs.YthnojkbkojpadaaGreat

namespace Go.Proofs.YthnojkbkojpadaaGreat
open Go.RowKit Go.Sx Go.Lp
end Go.Proofs.YthnojkbkojpadaaGreat

namespace Go.Proofs.YthnojkbkojpadaaGreat
open Go.RowKit Go.Sx Go.Lp
abbrev SrtC(l:List q00):Prop:=Srt keyC lexK l
abbrev putC(c:q00)(l:List q00):List q00:=putK keyC q00.n mkC lexK c l
end Go.Proofs.YthnojkbkojpadaaGreat

namespace Go.Proofs.YthnojkbkojpadaaGreat
open Go.RowKit Go.Sx Go.Lp
end Go.Proofs.YthnojkbkojpadaaGreat

namespace Go.Proofs.YthnojkbkojpadaaGreat
noncomputable section
open Go.RowKit Go.Sx
abbrev q41:Type:=Unit×(List (Ky×Int))×List q00
def qr9:LP 1 q41:=.pair (.fix 1 7 (.p 0 0)) (.pair (.mif 1 0 true false eKy eI) (.row 1 3 59 eC))
def qdx(cs:List Nat)(_u:Unit)(it:List (Ky×Int))(o:List q00):Ex×q41:=
 bif decide (it.length=(0:Nat))then(Ex.exit (0:Nat),(),(eKy.pair eI).lst it.length ((eKy.pair eI).els it),eC.lst o.length (eC.els o))
 else bif (it.getD ((hdC cs).headD (0:Nat)%it.length) (eKy.pair eI).dflt).snd !=(0:Int)then(Ex.normal,(),(eKy.pair eI).lst (min (it.length-(1:Nat)) ((hdC cs).headD (0:Nat)%it.length)) ((eKy.pair eI).els it)++List.drop ((hdC cs).headD (0:Nat)%it.length+(1:Nat)) ((eKy.pair eI).lst ((hdC cs).headD (0:Nat)%it.length+(1:Nat)+(it.length-(1:Nat)-(hdC cs).headD (0:Nat)%it.length)) ((eKy.pair eI).els it)),eC.lst (min (o.length+(1:Nat)) o.length) (eC.els o)++List.map (λx=>q00.mk (it.getD ((hdC cs).headD (0:Nat)%it.length) (eKy.pair eI).dflt).fst.fst (it.getD ((hdC cs).headD (0:Nat)%it.length) (eKy.pair eI).dflt).fst.snd (it.getD ((hdC cs).headD (0:Nat)%it.length) (eKy.pair eI).dflt).snd) (List.range (o.length+(1:Nat)-o.length)))else(Ex.normal,(),(eKy.pair eI).lst (min (it.length-(1:Nat)) ((hdC cs).headD (0:Nat)%it.length)) ((eKy.pair eI).els it)++List.drop ((hdC cs).headD (0:Nat)%it.length+(1:Nat)) ((eKy.pair eI).lst ((hdC cs).headD (0:Nat)%it.length+(1:Nat)+(it.length-(1:Nat)-(hdC cs).headD (0:Nat)%it.length)) ((eKy.pair eI).els it)),eC.lst o.length (eC.els o))
def q8m(cs:List Nat)(_u:Unit)(it:List (Ky×Int))(o:List q00):Prop:=
 (decide (it.length=(0:Nat))=true->(∀(e:Nat),e<it.length->True)/\o.length<=o.length/\∀(e:Nat),e<o.length->True)/\(decide (it.length=(0:Nat))=false->(((it.getD ((hdC cs).headD (0:Nat)%it.length) (eKy.pair eI).dflt).snd !=(0:Int))=true->(o.length<=o.length/\True/\o.length+(1:Nat)<=maxLen/\(o.length+(1:Nat))*Tryz.prog.types[(59:Nat)].bytes<=(140737488355328:Nat))/\(∀(e:Nat),e<min (it.length-(1:Nat)) ((hdC cs).headD (0:Nat)%it.length)->True)/\(∀(e:Nat),e<(hdC cs).headD (0:Nat)%it.length+(1:Nat)+(it.length-(1:Nat)-(hdC cs).headD (0:Nat)%it.length)->True)/\o.length+(1:Nat)<=o.length+(1:Nat)/\(∀(e:Nat),e<min (o.length+(1:Nat)) o.length->True)/\∀(e:Nat),e<o.length+(1:Nat)-o.length->True)/\(((it.getD ((hdC cs).headD (0:Nat)%it.length) (eKy.pair eI).dflt).snd !=(0:Int))=false->(∀(e:Nat),e<min (it.length-(1:Nat)) ((hdC cs).headD (0:Nat)%it.length)->True)/\(∀(e:Nat),e<(hdC cs).headD (0:Nat)%it.length+(1:Nat)+(it.length-(1:Nat)-(hdC cs).headD (0:Nat)%it.length)->True)/\o.length<=o.length/\∀(e:Nat),e<o.length->True))
theorem z9t:((q03 Tryz.prog 73).filter λc=>Nat.beq (lkey c) 3).length=1:=by kernel_rfl
abbrev qub:List Ex:=[.exit 0]
theorem zld(cs:List Nat)(g:q41):(qdx cs g.1 g.2.1 g.2.2).1=.normal\/(qdx cs g.1 g.2.1 g.2.2).1∈qub:=by
 unfold qdx
 repeat' (first|(left;rfl)|(right;simp only[cond_true,cond_false];simp;done)|(rw[Bool.cond_eq_ite];split))
abbrev qdy(cs:List Nat)(g:q41):Ex×q41:=qdx cs g.1 g.2.1 g.2.2
abbrev zfj(Inv:q41->List Prop)(m:q41->Nat):LCon:=qur qub (loopBody Tryz.prog 73 3) qr9 [] 27 Inv qdy m
theorem z0w(Inv:q41->List Prop)(m:q41->Nat)(hs:∀cs g,allP (Inv g)->q8m cs g.1 g.2.1 g.2.2)(hg:qdq qdy m λg=>allP (Inv g)):∀b∈q03 Tryz.prog 73,lkey b=3->q06 Tryz.prog b (zfj Inv m).g:=qow (Γ:=(MTab.gamz qnm [] [])) (Λ:=z2e) (MTab.okz qnm [] []) qp6 100 73 3 27 qr9 [] Inv qdy (λcs g=>q8m cs g.1 g.2.1 g.2.2) m default qub z9t (λrd T B HL HB ds cs g=>by kernel_rfl) (λrd T B HL HB ds cs g=>by kernel_rfl) hs hg zld
open Go.RowKit Go.Sx Go.Lp
theorem z4m{α:Type}(A:El α)(it:List α)(k:Nat)(h:k<it.length):A.lst (min (it.length-1) k) (A.els it)++List.drop (k+1) (A.lst (k+1+(it.length-1-k)) (A.els it))=it.eraseIdx k:=by
 rw[show k+1+(it.length-1-k)=it.length by omega,A.lst_els,Nat.min_eq_right (by omega),zfr A it k (by omega),List.eraseIdx_eq_take_drop_succ]
def qa4(e:Ky×Int)(b:List q00):Ex×List q00:=(.normal,bif e.2 !=(0:Int)then b++[mkC e.1 e.2]else b)
abbrev qjc(g:q41):List Prop:=[g.2.1.length+g.2.2.length<=KS]
abbrev qoj(g:q41):Nat:=g.2.1.length
def qg5(_:q41)(l:List (Ky×Int))(b:List q00):q41:=((),l,b)
theorem qoi(cs:List Nat)(g:q41)(hi:allP (qjc g)):((g.2.1.length=0/\qdy cs g=(.exit 0,g))\/∃e,g.2.1[(hdC cs).headD 0%g.2.1.length]?=some e/\qdy cs g=((qa4 e g.2.2).1,qg5 g (g.2.1.eraseIdx ((hdC cs).headD 0%g.2.1.length)) (qa4 e g.2.2).2))/\q8m cs g.1 g.2.1 g.2.2:=by
 obtain⟨⟨⟩,it,o⟩:=g;have h:it.length+o.length<=KS:=hi _ (List.mem_cons_self ..);unfold KS at h;refine⟨?_,?_⟩
 .show(it.length=0/\qdx cs () it o=_)\/_;unfold qdx;by_cases h0:it.length=0
  .rw[decide_eq_true h0];simp only[cond_true,El.lst_els];exact .inl ⟨h0,trivial⟩
  .have hk:(hdC cs).headD 0%it.length<it.length:=Nat.mod_lt _ (by omega);refine .inr ⟨it[(hdC cs).headD 0%it.length],by rw[List.getElem?_eq_getElem hk],?_⟩;show qdx cs () it o=_;unfold qdx qa4;rw[decide_eq_false h0];have hg:it.getD ((hdC cs).headD 0%it.length) (eKy.pair eI).dflt=it[(hdC cs).headD 0%it.length]:=by rw[List.getD_eq_getElem?_getD,List.getElem?_eq_getElem hk];rfl
   rw[hg];simp only[cond_false,El.lst_els];rw[z4m _ it _ hk,qf4];cases it[(hdC cs).headD 0%it.length].2 !=(0:Int)<;>rfl
 .show q8m cs () it o;unfold q8m;simp only[qt2];unfold maxLen;by_cases h0:it.length=0
  .rw[decide_eq_true h0];exact⟨λ_=>⟨λ_ _=>trivial,Nat.le_refl _,λ_ _=>trivial⟩,λh=>(by cases h)⟩
  .rw[decide_eq_false h0];have h1:0<it.length:=by omega
   refine⟨λh=>(by cases h),λ_=>?_⟩
   repeat' (first|apply And.intro|intro _)
   all_goals first|trivial|omega
theorem qua:qdq qdy qoj (λg=>allP (qjc g))/\∀cs g,allP (qjc g)->∃s,q3s qdy qoj cs g=((qac 0 qa4 (q5t g.2.1.length cs g.2.1) g.2.2).1,qg5 g s (qac 0 qa4 (q5t g.2.1.length cs g.2.1) g.2.2).2):=
 za7 (st:=qa4) (rem:=λg:q41=>g.2.1) (bo:=λg=>g.2.2) (up:=qg5) (λ_ _ _=>rfl) (λ_ _ _=>rfl) (λ_ _ _ _ _=>rfl) (λ_=>rfl) (λ_=>rfl)
  (λg i e h he hn=>by
   have h:=h _ (List.mem_cons_self ..);intro p hp;rw[List.mem_singleton.1 hp];have hlt:=(List.getElem?_eq_some_iff.1 he).1;show(g.2.1.eraseIdx i).length+(bif e.2 !=(0:Int)then g.2.2++[mkC e.1 e.2]else g.2.2).length<=KS;rw[List.length_eraseIdx_of_lt hlt];cases e.2 !=(0:Int)<;>simp<;>omega)
  λcs g h=>(qoi cs g h).1
theorem z9v:∀b∈q03 Tryz.prog 73,lkey b=3->q06 Tryz.prog b (zfj qjc qoj).g:=
 z0w qjc qoj (λcs g hi=>(qoi cs g hi).2) qua.1
def qu9(cs:List Nat)(g:q41):Ex×q41:=((qac 0 qa4 (q5t g.2.1.length cs g.2.1) g.2.2).1,qg5 g (q3s qdy qoj cs g).2.2.1 (qac 0 qa4 (q5t g.2.1.length cs g.2.1) g.2.2).2)
abbrev z0x:LCon:=z1q qub (loopBody Tryz.prog 73 3) qr9 [] 27 qjc qu9
theorem z9u:∀b∈q03 Tryz.prog 73,lkey b=3->q06 Tryz.prog b z0x.g:=λb hb hk=>
 qjh (λ_ h=>h) (λg hi cs=>⟨cs,by
  obtain⟨s,hs⟩:=qua.2 cs g hi;unfold qu9;rw[hs];rfl⟩) (z9v b hb hk)
def ltO2:LTab Tryz.prog:=zlw.cons 73 3 z0x z9u
abbrev qp4:Lam:=ltO2.lam
theorem q74:∀f k L,qp4 f k=some L->∀b∈q03 Tryz.prog f,lkey b=k->q06 Tryz.prog b L.g:=ltO2.ok
abbrev dMK:Dv (List (Ky×Int)):=.map true false eKy eI
abbrev aMK:DA (List (Ky×Int)):=.one dMK
def q40(cs:List Nat)(m:List (Ky×Int)):Ex×q41:=
 qu9 (hdC cs) ((),(eKy.pair eI).lst m.length ((eKy.pair eI).els m),[])
def z9q(cs:List Nat)(m:List (Ky×Int)):List (q00):=
 eC.lst (q2g (λa b=>q4o a b) (eC.lst (q40 cs m).snd.snd.snd.length (eC.els (q40 cs m).snd.snd.snd))).length (eC.els (q2g (λa b=>q4o a b) (eC.lst (q40 cs m).snd.snd.snd.length (eC.els (q40 cs m).snd.snd.snd))))
def qf1(cs:List Nat)(m:List (Ky×Int)):Prop:=
 (∀(e:Nat),e<m.length->True)/\((eKy.pair eI).lst m.length ((eKy.pair eI).els m)).length+(0:Nat)<=KS/\(q40 cs m).snd.snd.snd.length=(q40 cs m).snd.snd.snd.length/\(∀(e:Nat),e<(q40 cs m).snd.snd.snd.length->True)/\(eC.lst (q40 cs m).snd.snd.snd.length (eC.els (q40 cs m).snd.snd.snd)).length<(4611686018427387904:Nat)/\Anti (λa b=>q4o a b) (eC.lst (q40 cs m).snd.snd.snd.length (eC.els (q40 cs m).snd.snd.snd))/\(q40 cs m).snd.snd.snd.length=(q2g (λa b=>q4o a b) (eC.lst (q40 cs m).snd.snd.snd.length (eC.els (q40 cs m).snd.snd.snd))).length/\∀(e:Nat),e<(q2g (λa b=>q4o a b) (eC.lst (q40 cs m).snd.snd.snd.length (eC.els (q40 cs m).snd.snd.snd))).length->True
theorem zlb(fn:DA.T aMK->List (q00))(pre:DA.T aMK->List Prop)(h:∀cs g,DA.bd aMK g->(∀p∈pre g,p)->qf1 cs g/\z9q cs g=fn g):qie Tryz.prog 73 59 eC aMK fn pre:=qo1 (Γ:=(MTab.gamz qnm [] [])) (Λ:=qp4) (MTab.okz qnm [] []) q74 100 default (λcs g=>qf1 cs g) (λcs g=>z9q cs g) (λcs g=>by kernel_rfl) (λcs g=>by kernel_rfl) h
open Go.RowKit Go.Sx Go.Lp Go.Sort
def mkE(e:Ky×Int):q00:=mkC e.1 e.2
def outF(m:List (Ky×Int)):List q00:=(m.filter λe=>e.2 !=(0:Int)).map mkE
def ordC(m:List (Ky×Int)):List q00:=totC (outF m)
def KdM(m:List (Ky×Int)):Prop:=m.Pairwise λa b=>a.1≠b.1
theorem qg2{m:List (Ky×Int)}(h:KdM m):(outF m).Pairwise λa b=>keyC a≠keyC b:=List.pairwise_map.2 ((List.Pairwise.sublist List.filter_sublist h).imp λ{a b}hab=>hab)
theorem qyu{xs:List q00}(h:xs.Pairwise λa b=>keyC a≠keyC b)(y:q00):y∈totC xs↔y∈xs:=by
 rw[qtd];constructor
 .rintro⟨⟨x,hx,hk⟩,hn⟩;have:=q3n keyC q00.n h hx;have he:x=y:=extC x y hk (by rw[hn,<-hk];exact this.symm);rw[<-he];exact hx
 .intro hy;exact⟨⟨y,hy,rfl⟩,(q3n keyC q00.n h hy).symm⟩
theorem zrb{xs:List q00}(h:xs.Pairwise λa b=>keyC a≠keyC b):SrtC (q2g cfC xs):=by
 have hs:=q5y cfC swoC xs;have hd:(q2g cfC xs).Pairwise λa b=>keyC a≠keyC b:=(List.Perm.pairwise_iff (λh=>Ne.symm h) (q2b cfC _)).2 h
 exact(hs.and hd).imp λ{a b}hab=>Classical.byContradiction λhn=>by
  have h3:=hab.1;simp only[cfC,qai]at h3;exact h3 (toK.lt_or hab.2 hn)
theorem qqp{xs ys:List q00}(h:ys.Pairwise λa b=>keyC a≠keyC b)(hp:xs.Perm ys):q2g cfC xs=totC ys:=by
 have hx:xs.Pairwise λa b=>keyC a≠keyC b:=(List.Perm.pairwise_iff (λh=>Ne.symm h) hp).2 h;refine q58 keyC q00.n lexK toK extC (zrb hx) (qar ys) λy=>?_;rw[qyu h,(q2b cfC xs).mem_iff,hp.mem_iff]
theorem zqf{xs:List q00}(h:xs.Pairwise λa b=>keyC a≠keyC b):Anti cfC xs:=λx hx y hy k1 k2=>by
 simp only[cfC,qai]at k1 k2;have hk:keyC x=keyC y:=toK.anti _ _ k1 k2;have h1:=q3n keyC q00.n h hx;have h2:=q3n keyC q00.n h hy;rw[hk]at h1;exact extC _ _ hk (h1.symm.trans h2)
theorem qoh:∀(l:List (Ky×Int))(b:List q00),qac 0 qa4 l b=(.exit 0,b++outF l)
 | [],b=>by simp[qac,outF]
 |e::l,b=>by
  show qac 0 qa4 l (bif e.2 !=(0:Int)then b++[mkC e.1 e.2]else b)=_;rw[qoh l];unfold outF;rw[List.filter_cons];cases h:e.2 !=(0:Int)with
  |true=>simp[mkE]
  |false=>simp
theorem z9p(m:List (Ky×Int)):(outF m).length<=m.length:=by
 unfold outF;rw[List.length_map];exact List.length_filter_le _ _
theorem zsr(cs:List Nat)(m:List (Ky×Int))(h1:m.length<=KS)(h2:KdM m):qf1 cs m/\z9q cs m=ordC m:=by
 have hP:(q5t m.length (hdC cs) m).Perm m:=qj8 _ _ _ rfl
 have hq:(q40 cs m).2.2.2=outF (q5t m.length (hdC cs) m):=by
  unfold q40 qu9 qg5;simp only[El.lst_els];rw[qoh];rfl
 have hp2:(outF (q5t m.length (hdC cs) m)).Perm (outF m):=(hP.filter _).map _;have hkd:=qg2 h2;have hkd2:(outF (q5t m.length (hdC cs) m)).Pairwise λa b=>keyC a≠keyC b:=(List.Perm.pairwise_iff (λh=>Ne.symm h) hp2).2 hkd;have hl:=z9p m;have hl2:=hp2.length_eq;unfold qf1 z9q;rw[hq];generalize outF (q5t m.length (hdC cs) m)=o at hp2 hkd2 hl2;simp only[El.lst_els];rw[show(λa b=>q4o a b)=cfC from rfl];unfold KS at h1;refine⟨⟨λ_ _=>trivial,by unfold KS;omega,trivial,λ_ _=>trivial,by omega,zqf hkd2,((q2b cfC o).length_eq).symm,λ_ _=>trivial⟩,?_⟩;exact qqp hkd hp2
theorem zss:qie Tryz.prog 73 59 eC aMK ordC (λm=>[m.length<=KS,KdM m]):=
 zlb ordC _ λcs m _ hp=>zsr cs m (hp _ (List.mem_cons_self ..)) (hp _ (List.mem_cons_of_mem _ (List.mem_cons_self ..)))
theorem pusC(r:q00):Pus (eC.cells r):=q1c (pu_v _) (q1c (pu_v _) (q1c (pu_v _) (q1c (pu_v _) (qwi (pus4 _ _ _ _) (q1c (pu_v _) qcy)))))
theorem qtu{k:LdK}{g:Ldg}(h:relL k g):ordC (k.2.2.1.map d3e)=g.c:=by
 obtain⟨_,_,hb,hk,hn,_,hs,hm⟩:=h;have hkd:KdM (k.2.2.1.map d3e):=List.pairwise_map.2 (hk.imp λ{a b}h=>h);refine q58 keyC q00.n lexK toK extC (qar _) (hs.imp λ{a b}h=>h) λy=>?_;show y∈totC _↔_;rw[qyu (qg2 hkd),hm y];unfold outF;constructor
 .intro hy;obtain⟨e,he,rfl⟩:=List.mem_map.1 hy;obtain⟨he,_⟩:=List.mem_filter.1 he;obtain⟨e',he',rfl⟩:=List.mem_map.1 he;exact⟨e',he',rfl⟩
 .rintro⟨e,he,rfl⟩;refine List.mem_map.2 ⟨d3e e,List.mem_filter.2 ⟨List.mem_map.2 ⟨e,he,rfl⟩,?_⟩,rfl⟩;have:=(hn e he).1;show(e.2.1 !=(0:Int))=true;simpa using this
def q8l(a:Place)(b:Place):Dv.T dI:=
 bif q0w a.node b.node !=(0:Int)then q0w a.node b.node
 else bif q0w a.port b.port !=(0:Int)then q0w a.port b.port else(0:Int)
theorem zla:q09 Tryz.prog 121 aPP dI (λg=>q8l g.1 g.2) (λ_=>[]):=q0g (Γ:=(PTab.gamz q6g [] [])) (Λ:=noΛ) (PTab.okz q6g [] []) q0f 100 default (λg=>by kernel_rfl) (λg=>by kernel_rfl)
def qad(a:Place)(b:Place):Dv.T dI:=
 bif a.node !=b.node&&decide (a.node<b.node)then(-1:Int)
 else bif a.node !=b.node then(1:Int)else bif decide (a.port<b.port)then(-1:Int)else bif decide (a.port>b.port)then(1:Int)else(0:Int)
theorem z8v:q09 Tryz.prog 96 aPP dI (λg=>qad g.1 g.2) (λ_=>[]):=q0g (Γ:=(PTab.gamz q6g [] [])) (Λ:=noΛ) (PTab.okz q6g [] []) q0f 100 default (λg=>by kernel_rfl) (λg=>by kernel_rfl)
abbrev q7r:Type:=List S×List S×Int×Int×Bool
def zgz:LP 0 q7r:=.pair (.slot 0 0 dLS) (.pair (.slot 0 1 dLS) (.pair (.slot 0 12 dI) (.pair (.slot 0 13 dI) (.slot 0 4 q0l))))
def qsd(xs:List S)(ys:List S)(n:Int)(i:Int)(r:Bool):Ex×q7r:=
 bif decide (i<n)then bif !conj ([(xs.getD i.toNat eS.dflt).f==(ys.getD i.toNat eS.dflt).f]++([(xs.getD i.toNat eS.dflt).k==(ys.getD i.toNat eS.dflt).k]++([(xs.getD i.toNat eS.dflt).a==(ys.getD i.toNat eS.dflt).a]++([(xs.getD i.toNat eS.dflt).n==(ys.getD i.toNat eS.dflt).n]++([(xs.getD i.toNat eS.dflt).p0==(ys.getD i.toNat eS.dflt).p0]++([(xs.getD i.toNat eS.dflt).p1==(ys.getD i.toNat eS.dflt).p1]++([(xs.getD i.toNat eS.dflt).p2==(ys.getD i.toNat eS.dflt).p2]++([(xs.getD i.toNat eS.dflt).p3==(ys.getD i.toNat eS.dflt).p3]++[])))++[])))))then(Ex.ret,eS.ag xs,eS.ag ys,n,i,false)else(Ex.normal,eS.ag xs,eS.ag ys,n,IntKind.i64.wrap (i+(1:Int)),r)
 else(Ex.exit (0:Nat),eS.ag xs,eS.ag ys,n,i,r)
def qmo(xs:List S)(ys:List S)(n:Int)(i:Int)(r:Bool):Prop:=
 (decide (i<n)=true->((0:Int)<=i/\i<(↑xs.length:Int))/\((0:Int)<=i/\i<(↑ys.length:Int))/\((!conj ([(xs.getD i.toNat eS.dflt).f==(ys.getD i.toNat eS.dflt).f]++([(xs.getD i.toNat eS.dflt).k==(ys.getD i.toNat eS.dflt).k]++([(xs.getD i.toNat eS.dflt).a==(ys.getD i.toNat eS.dflt).a]++([(xs.getD i.toNat eS.dflt).n==(ys.getD i.toNat eS.dflt).n]++([(xs.getD i.toNat eS.dflt).p0==(ys.getD i.toNat eS.dflt).p0]++([(xs.getD i.toNat eS.dflt).p1==(ys.getD i.toNat eS.dflt).p1]++([(xs.getD i.toNat eS.dflt).p2==(ys.getD i.toNat eS.dflt).p2]++([(xs.getD i.toNat eS.dflt).p3==(ys.getD i.toNat eS.dflt).p3]++[])))++[]))))))=true->eS.okL xs/\eS.okL ys)/\((!conj ([(xs.getD i.toNat eS.dflt).f==(ys.getD i.toNat eS.dflt).f]++([(xs.getD i.toNat eS.dflt).k==(ys.getD i.toNat eS.dflt).k]++([(xs.getD i.toNat eS.dflt).a==(ys.getD i.toNat eS.dflt).a]++([(xs.getD i.toNat eS.dflt).n==(ys.getD i.toNat eS.dflt).n]++([(xs.getD i.toNat eS.dflt).p0==(ys.getD i.toNat eS.dflt).p0]++([(xs.getD i.toNat eS.dflt).p1==(ys.getD i.toNat eS.dflt).p1]++([(xs.getD i.toNat eS.dflt).p2==(ys.getD i.toNat eS.dflt).p2]++([(xs.getD i.toNat eS.dflt).p3==(ys.getD i.toNat eS.dflt).p3]++[])))++[]))))))=false->eS.okL xs/\eS.okL ys))/\(decide (i<n)=false->eS.okL xs/\eS.okL ys)
theorem zns:((q03 Tryz.prog 18).filter λc=>Nat.beq (lkey c) 4).length=1:=by kernel_rfl
abbrev q4w:Type:=List S×List S×Int
abbrev qh2:Type:=Bool
def zc1(g:q7r):Int×q4w×qh2:=(g.2.2.2.1,(g.1,g.2.1,g.2.2.1),g.2.2.2.2)
def z4q(d:Int×q4w×qh2):q7r:=(d.2.1.1,d.2.1.2.1,d.2.1.2.2,d.1,d.2.2)
abbrev qk4(g:q7r):Ex×q7r:=qsd g.1 g.2.1 g.2.2.1 g.2.2.2.1 g.2.2.2.2
abbrev zgw(g:q7r):Prop:=qmo g.1 g.2.1 g.2.2.1 g.2.2.2.1 g.2.2.2.2
theorem zvb(g:q7r):(qk4 g).1=.normal\/(qk4 g).1∈([.ret,.exit 0]:List Ex):=by
 unfold qk4 qsd
 repeat' (first|(left;rfl)|(right;simp only[cond_true,cond_false];simp;done)|(rw[Bool.cond_eq_ite];split))
abbrev znu(Inv:q7r->List Prop)(m:q7r->Nat):LCon:=q2q [.ret,.exit 0] (loopBody Tryz.prog 18 4) zgz [] 26 Inv qk4 m
theorem zc0(Inv:q7r->List Prop)(m:q7r->Nat)(hs:∀g,allP (Inv g)->zgw g)(hg:Goes qk4 m λg=>allP (Inv g)):∀b∈q03 Tryz.prog 18,lkey b=4->q06 Tryz.prog b (znu Inv m).g:=q0s (Γ:=(PTab.gamz q6g [] [])) (Λ:=noΛ) (PTab.okz q6g [] []) q0f 100 18 4 26 zgz [] Inv qk4 zgw m default [.ret,.exit 0] zns (λrd T B HL HB ds g=>by kernel_rfl) (λrd T B HL HB ds g=>by kernel_rfl) hs hg zvb
abbrev q7s:Type:=List Spot×List Spot×Int×Int×Bool
def zh3:LP 0 q7s:=.pair (.slot 0 0 dLSp) (.pair (.slot 0 1 dLSp) (.pair (.slot 0 12 dI) (.pair (.slot 0 13 dI) (.slot 0 4 q0l))))
def qse(xs:List Spot)(ys:List Spot)(n:Int)(i:Int)(r:Bool):Ex×q7s:=
 bif decide (i<n)then bif !conj ([(xs.getD i.toNat eSp.dflt).p.node==(ys.getD i.toNat eSp.dflt).p.node]++([(xs.getD i.toNat eSp.dflt).p.port==(ys.getD i.toNat eSp.dflt).p.port]++[])++([(xs.getD i.toNat eSp.dflt).d==(ys.getD i.toNat eSp.dflt).d]++[]))then(Ex.ret,eSp.ag xs,eSp.ag ys,n,i,false)else(Ex.normal,eSp.ag xs,eSp.ag ys,n,IntKind.i64.wrap (i+(1:Int)),r)
 else(Ex.exit (0:Nat),eSp.ag xs,eSp.ag ys,n,i,r)
def qmp(xs:List Spot)(ys:List Spot)(n:Int)(i:Int)(r:Bool):Prop:=
 (decide (i<n)=true->((0:Int)<=i/\i<(↑xs.length:Int))/\((0:Int)<=i/\i<(↑ys.length:Int))/\((!conj ([(xs.getD i.toNat eSp.dflt).p.node==(ys.getD i.toNat eSp.dflt).p.node]++([(xs.getD i.toNat eSp.dflt).p.port==(ys.getD i.toNat eSp.dflt).p.port]++[])++([(xs.getD i.toNat eSp.dflt).d==(ys.getD i.toNat eSp.dflt).d]++[])))=true->eSp.okL xs/\eSp.okL ys)/\((!conj ([(xs.getD i.toNat eSp.dflt).p.node==(ys.getD i.toNat eSp.dflt).p.node]++([(xs.getD i.toNat eSp.dflt).p.port==(ys.getD i.toNat eSp.dflt).p.port]++[])++([(xs.getD i.toNat eSp.dflt).d==(ys.getD i.toNat eSp.dflt).d]++[])))=false->eSp.okL xs/\eSp.okL ys))/\(decide (i<n)=false->eSp.okL xs/\eSp.okL ys)
theorem znw:((q03 Tryz.prog 21).filter λc=>Nat.beq (lkey c) 4).length=1:=by kernel_rfl
abbrev q4x:Type:=List Spot×List Spot×Int
abbrev qh3:Type:=Bool
def zc3(g:q7s):Int×q4x×qh3:=(g.2.2.2.1,(g.1,g.2.1,g.2.2.1),g.2.2.2.2)
def z4s(d:Int×q4x×qh3):q7s:=(d.2.1.1,d.2.1.2.1,d.2.1.2.2,d.1,d.2.2)
abbrev qk5(g:q7s):Ex×q7s:=qse g.1 g.2.1 g.2.2.1 g.2.2.2.1 g.2.2.2.2
abbrev zh0(g:q7s):Prop:=qmp g.1 g.2.1 g.2.2.1 g.2.2.2.1 g.2.2.2.2
theorem zve(g:q7s):(qk5 g).1=.normal\/(qk5 g).1∈([.ret,.exit 0]:List Ex):=by
 unfold qk5 qse
 repeat' (first|(left;rfl)|(right;simp only[cond_true,cond_false];simp;done)|(rw[Bool.cond_eq_ite];split))
abbrev zny(Inv:q7s->List Prop)(m:q7s->Nat):LCon:=q2q [.ret,.exit 0] (loopBody Tryz.prog 21 4) zh3 [] 26 Inv qk5 m
theorem zc2(Inv:q7s->List Prop)(m:q7s->Nat)(hs:∀g,allP (Inv g)->zh0 g)(hg:Goes qk5 m λg=>allP (Inv g)):∀b∈q03 Tryz.prog 21,lkey b=4->q06 Tryz.prog b (zny Inv m).g:=q0s (Γ:=(PTab.gamz q6g [] [])) (Λ:=noΛ) (PTab.okz q6g [] []) q0f 100 21 4 26 zh3 [] Inv qk5 zh0 m default [.ret,.exit 0] znw (λrd T B HL HB ds g=>by kernel_rfl) (λrd T B HL HB ds g=>by kernel_rfl) hs hg zve
abbrev q7l:Type:=List S×Unit×S×Int×Int×Int
def zg6:LP 1 q7l:=.pair (.slot 1 0 dLS) (.pair (.fix 1 3 (.p 0 0)) (.pair (.obj 1 0 42 eS) (.pair (.slot 1 7 dI) (.pair (.slot 1 8 dI) (.slot 1 4 dI)))))
def qru(xs:List S)(_u:Unit)(s:S)(n:Int)(i:Int)(r:Int):Ex×q7l:=
 bif decide (i<n)then bif conj ([s.f==(xs.getD i.toNat eS.dflt).f]++([s.k==(xs.getD i.toNat eS.dflt).k]++([s.a==(xs.getD i.toNat eS.dflt).a]++([s.n==(xs.getD i.toNat eS.dflt).n]++([s.p0==(xs.getD i.toNat eS.dflt).p0]++([s.p1==(xs.getD i.toNat eS.dflt).p1]++([s.p2==(xs.getD i.toNat eS.dflt).p2]++([s.p3==(xs.getD i.toNat eS.dflt).p3]++[])))++[])))))then(Ex.ret,eS.ag xs,(),s,n,i,i)else(Ex.normal,eS.ag xs,(),s,n,IntKind.i64.wrap (i+(1:Int)),r)
 else(Ex.exit (0:Nat),eS.ag xs,(),s,n,i,r)
def qm7(xs:List S)(_u:Unit)(s:S)(n:Int)(i:Int)(r:Int):Prop:=
 (decide (i<n)=true->((0:Int)<=i/\i<(↑xs.length:Int))/\(conj ([s.f==(xs.getD i.toNat eS.dflt).f]++([s.k==(xs.getD i.toNat eS.dflt).k]++([s.a==(xs.getD i.toNat eS.dflt).a]++([s.n==(xs.getD i.toNat eS.dflt).n]++([s.p0==(xs.getD i.toNat eS.dflt).p0]++([s.p1==(xs.getD i.toNat eS.dflt).p1]++([s.p2==(xs.getD i.toNat eS.dflt).p2]++([s.p3==(xs.getD i.toNat eS.dflt).p3]++[])))++[])))))=true->eS.okL xs)/\(conj ([s.f==(xs.getD i.toNat eS.dflt).f]++([s.k==(xs.getD i.toNat eS.dflt).k]++([s.a==(xs.getD i.toNat eS.dflt).a]++([s.n==(xs.getD i.toNat eS.dflt).n]++([s.p0==(xs.getD i.toNat eS.dflt).p0]++([s.p1==(xs.getD i.toNat eS.dflt).p1]++([s.p2==(xs.getD i.toNat eS.dflt).p2]++([s.p3==(xs.getD i.toNat eS.dflt).p3]++[])))++[])))))=false->eS.okL xs))/\(decide (i<n)=false->eS.okL xs)
theorem zmf:((q03 Tryz.prog 155).filter λc=>Nat.beq (lkey c) 2).length=1:=by kernel_rfl
abbrev q4r:Type:=List S×S×Int
abbrev qgp:Type:=Unit×Int
def zbc(g:q7l):Int×q4r×qgp:=(g.2.2.2.2.1,(g.1,g.2.2.1,g.2.2.2.1),(g.2.1,g.2.2.2.2.2))
def z2m(d:Int×q4r×qgp):q7l:=(d.2.1.1,d.2.2.1,d.2.1.2.1,d.2.1.2.2,d.1,d.2.2.2)
abbrev qjo(g:q7l):Ex×q7l:=qru g.1 g.2.1 g.2.2.1 g.2.2.2.1 g.2.2.2.2.1 g.2.2.2.2.2
abbrev zg3(g:q7l):Prop:=qm7 g.1 g.2.1 g.2.2.1 g.2.2.2.1 g.2.2.2.2.1 g.2.2.2.2.2
theorem zu4(g:q7l):(qjo g).1=.normal\/(qjo g).1∈([.ret,.exit 0]:List Ex):=by
 unfold qjo qru
 repeat' (first|(left;rfl)|(right;simp only[cond_true,cond_false];simp;done)|(rw[Bool.cond_eq_ite];split))
abbrev zmh(Inv:q7l->List Prop)(m:q7l->Nat):LCon:=q2q [.ret,.exit 0] (loopBody Tryz.prog 155 2) zg6 [] 19 Inv qjo m
theorem zbb(Inv:q7l->List Prop)(m:q7l->Nat)(hs:∀g,allP (Inv g)->zg3 g)(hg:Goes qjo m λg=>allP (Inv g)):∀b∈q03 Tryz.prog 155,lkey b=2->q06 Tryz.prog b (zmh Inv m).g:=q0s (Γ:=(PTab.gamz q6g [] [])) (Λ:=noΛ) (PTab.okz q6g [] []) q0f 100 155 2 19 zg6 [] Inv qjo zg3 m default [.ret,.exit 0] zmf (λrd T B HL HB ds g=>by kernel_rfl) (λrd T B HL HB ds g=>by kernel_rfl) hs hg zu4
abbrev q7o:Type:=List S×Unit×S×Int×Bool
def zgn:LP 1 q7o:=.pair (.slot 1 0 dLS) (.pair (.fix 1 3 (.p 0 0)) (.pair (.obj 1 0 42 eS) (.pair (.slot 1 5 dI) (.slot 1 4 q0l))))
def qs2(xs:List S)(_u:Unit)(s:S)(i:Int)(r:Bool):Ex×q7o:=
 bif decide (i<(↑xs.length:Int))then bif conj ([(xs.getD i.toNat eS.dflt).f==s.f]++([(xs.getD i.toNat eS.dflt).k==s.k]++([(xs.getD i.toNat eS.dflt).a==s.a]++([(xs.getD i.toNat eS.dflt).n==s.n]++([(xs.getD i.toNat eS.dflt).p0==s.p0]++([(xs.getD i.toNat eS.dflt).p1==s.p1]++([(xs.getD i.toNat eS.dflt).p2==s.p2]++([(xs.getD i.toNat eS.dflt).p3==s.p3]++[])))++[])))))then(Ex.ret,eS.ag xs,(),s,i,true)else(Ex.normal,eS.ag xs,(),s,IntKind.i64.wrap (i+(1:Int)),r)
 else(Ex.exit (0:Nat),eS.ag xs,(),s,i,r)
def qmd(xs:List S)(_u:Unit)(s:S)(i:Int)(r:Bool):Prop:=
 (decide (i<(↑xs.length:Int))=true->((0:Int)<=i/\i<(↑xs.length:Int))/\(conj ([(xs.getD i.toNat eS.dflt).f==s.f]++([(xs.getD i.toNat eS.dflt).k==s.k]++([(xs.getD i.toNat eS.dflt).a==s.a]++([(xs.getD i.toNat eS.dflt).n==s.n]++([(xs.getD i.toNat eS.dflt).p0==s.p0]++([(xs.getD i.toNat eS.dflt).p1==s.p1]++([(xs.getD i.toNat eS.dflt).p2==s.p2]++([(xs.getD i.toNat eS.dflt).p3==s.p3]++[])))++[])))))=true->eS.okL xs)/\(conj ([(xs.getD i.toNat eS.dflt).f==s.f]++([(xs.getD i.toNat eS.dflt).k==s.k]++([(xs.getD i.toNat eS.dflt).a==s.a]++([(xs.getD i.toNat eS.dflt).n==s.n]++([(xs.getD i.toNat eS.dflt).p0==s.p0]++([(xs.getD i.toNat eS.dflt).p1==s.p1]++([(xs.getD i.toNat eS.dflt).p2==s.p2]++([(xs.getD i.toNat eS.dflt).p3==s.p3]++[])))++[])))))=false->eS.okL xs))/\(decide (i<(↑xs.length:Int))=false->eS.okL xs)
theorem zn3:((q03 Tryz.prog 98).filter λc=>Nat.beq (lkey c) 2).length=1:=by kernel_rfl
abbrev q4u:Type:=List S×S
abbrev qgv:Type:=Unit×Bool
def zbm(g:q7o):Int×q4u×qgv:=(g.2.2.2.1,(g.1,g.2.2.1),(g.2.1,g.2.2.2.2))
def z3d(d:Int×q4u×qgv):q7o:=(d.2.1.1,d.2.2.1,d.2.1.2,d.1,d.2.2.2)
abbrev qjs(g:q7o):Ex×q7o:=qs2 g.1 g.2.1 g.2.2.1 g.2.2.2.1 g.2.2.2.2
abbrev zgk(g:q7o):Prop:=qmd g.1 g.2.1 g.2.2.1 g.2.2.2.1 g.2.2.2.2
theorem zum(g:q7o):(qjs g).1=.normal\/(qjs g).1∈([.ret,.exit 0]:List Ex):=by
 unfold qjs qs2
 repeat' (first|(left;rfl)|(right;simp only[cond_true,cond_false];simp;done)|(rw[Bool.cond_eq_ite];split))
abbrev zn5(Inv:q7o->List Prop)(m:q7o->Nat):LCon:=q2q [.ret,.exit 0] (loopBody Tryz.prog 98 2) zgn [] 18 Inv qjs m
theorem zbl(Inv:q7o->List Prop)(m:q7o->Nat)(hs:∀g,allP (Inv g)->zgk g)(hg:Goes qjs m λg=>allP (Inv g)):∀b∈q03 Tryz.prog 98,lkey b=2->q06 Tryz.prog b (zn5 Inv m).g:=q0s (Γ:=(PTab.gamz q6g [] [])) (Λ:=noΛ) (PTab.okz q6g [] []) q0f 100 98 2 18 zgn [] Inv qjs zgk m default [.ret,.exit 0] zn3 (λrd T B HL HB ds g=>by kernel_rfl) (λrd T B HL HB ds g=>by kernel_rfl) hs hg zum
abbrev q7u:Type:=List Path×Unit×Place×Int×Int×Bool
def zhe:LP 1 q7u:=.pair (.slot 1 0 dLP) (.pair (.fix 1 3 (.p 0 0)) (.pair (.obj 1 0 24 eP) (.pair (.slot 1 6 dI) (.pair (.slot 1 4 dI) (.slot 1 5 q0l)))))
def qsr(xs:List Path)(_u:Unit)(p:Place)(i:Int)(r:Int)(o:Bool):Ex×q7u:=
 bif decide (i<(↑xs.length:Int))then bif conj ([(xs.getD i.toNat ePa.dflt).fr.node==p.node]++([(xs.getD i.toNat ePa.dflt).fr.port==p.port]++[]))&&(conj ([(xs.getD i.toNat ePa.dflt).to.node==p.node]++([(xs.getD i.toNat ePa.dflt).to.port==p.port]++[]))&&decide ((↑(xs.getD i.toNat ePa.dflt).ss.length:Int)>(0:Int)))then(Ex.ret,ePa.ag xs,(),p,i,((xs.getD i.toNat ePa.dflt).ss.getD (0:Nat) eS.dflt).f,true)else(Ex.normal,ePa.ag xs,(),p,IntKind.i64.wrap (i+(1:Int)),r,o)
 else(Ex.exit (0:Nat),ePa.ag xs,(),p,i,r,o)
def qmy(xs:List Path)(_u:Unit)(p:Place)(i:Int)(r:Int)(o:Bool):Prop:=
 (decide (i<(↑xs.length:Int))=true->((0:Int)<=i/\i<(↑xs.length:Int))/\(conj ([(xs.getD i.toNat ePa.dflt).fr.node==p.node]++([(xs.getD i.toNat ePa.dflt).fr.port==p.port]++[]))=true->(0:Int)<=i/\i<(↑xs.length:Int))/\(conj ([(xs.getD i.toNat ePa.dflt).fr.node==p.node]++([(xs.getD i.toNat ePa.dflt).fr.port==p.port]++[]))=true->conj ([(xs.getD i.toNat ePa.dflt).to.node==p.node]++([(xs.getD i.toNat ePa.dflt).to.port==p.port]++[]))=true->(0:Int)<=i/\i<(↑xs.length:Int))/\((conj ([(xs.getD i.toNat ePa.dflt).fr.node==p.node]++([(xs.getD i.toNat ePa.dflt).fr.port==p.port]++[]))&&(conj ([(xs.getD i.toNat ePa.dflt).to.node==p.node]++([(xs.getD i.toNat ePa.dflt).to.port==p.port]++[]))&&decide ((↑(xs.getD i.toNat ePa.dflt).ss.length:Int)>(0:Int))))=true->((0:Int)<=i/\i<(↑xs.length:Int))/\((0:Int)<=(0:Int)/\(0:Int)<(↑(xs.getD i.toNat ePa.dflt).ss.length:Int))/\ePa.okL xs)/\((conj ([(xs.getD i.toNat ePa.dflt).fr.node==p.node]++([(xs.getD i.toNat ePa.dflt).fr.port==p.port]++[]))&&(conj ([(xs.getD i.toNat ePa.dflt).to.node==p.node]++([(xs.getD i.toNat ePa.dflt).to.port==p.port]++[]))&&decide ((↑(xs.getD i.toNat ePa.dflt).ss.length:Int)>(0:Int))))=false->ePa.okL xs))/\(decide (i<(↑xs.length:Int))=false->ePa.okL xs)
theorem zoe:((q03 Tryz.prog 52).filter λc=>Nat.beq (lkey c) 2).length=1:=by kernel_rfl
abbrev q50:Type:=List Path×Place
abbrev qh8:Type:=Unit×Int×Bool
def zcf(g:q7u):Int×q50×qh8:=(g.2.2.2.1,(g.1,g.2.2.1),(g.2.1,g.2.2.2.2.1,g.2.2.2.2.2))
def z5e(d:Int×q50×qh8):q7u:=(d.2.1.1,d.2.2.1,d.2.1.2,d.1,d.2.2.2.1,d.2.2.2.2)
abbrev qke(g:q7u):Ex×q7u:=qsr g.1 g.2.1 g.2.2.1 g.2.2.2.1 g.2.2.2.2.1 g.2.2.2.2.2
abbrev zhb(g:q7u):Prop:=qmy g.1 g.2.1 g.2.2.1 g.2.2.2.1 g.2.2.2.2.1 g.2.2.2.2.2
theorem zvn(g:q7u):(qke g).1=.normal\/(qke g).1∈([.ret,.exit 0]:List Ex):=by
 unfold qke qsr
 repeat' (first|(left;rfl)|(right;simp only[cond_true,cond_false];simp;done)|(rw[Bool.cond_eq_ite];split))
abbrev zog(Inv:q7u->List Prop)(m:q7u->Nat):LCon:=q2q [.ret,.exit 0] (loopBody Tryz.prog 52 2) zhe [] 46 Inv qke m
theorem zce(Inv:q7u->List Prop)(m:q7u->Nat)(hs:∀g,allP (Inv g)->zhb g)(hg:Goes qke m λg=>allP (Inv g)):∀b∈q03 Tryz.prog 52,lkey b=2->q06 Tryz.prog b (zog Inv m).g:=q0s (Γ:=(PTab.gamz q6g [] [])) (Λ:=noΛ) (PTab.okz q6g [] []) q0f 100 52 2 46 zhe [] Inv qke zhb m default [.ret,.exit 0] zoe (λrd T B HL HB ds g=>by kernel_rfl) (λrd T B HL HB ds g=>by kernel_rfl) hs hg zvn
abbrev q7j:Type:=List S×List S×Int×Bool
def zeo:LP 0 q7j:=.pair (.slot 0 0 dLS) (.pair (.slot 0 3 dLS) (.pair (.slot 0 5 dI) (.slot 0 2 q0l)))
def qqq(xs:List S)(ys:List S)(i:Int)(r:Bool):Ex×q7j:=
 bif decide (i<(↑xs.length:Int))&&decide (i<(↑ys.length:Int))then bif !conj ([(ys.getD i.toNat eS.dflt).f==(xs.getD i.toNat eS.dflt).f]++([(ys.getD i.toNat eS.dflt).k==(xs.getD i.toNat eS.dflt).k]++([(ys.getD i.toNat eS.dflt).a==(xs.getD i.toNat eS.dflt).a]++([(ys.getD i.toNat eS.dflt).n==(xs.getD i.toNat eS.dflt).n]++([(ys.getD i.toNat eS.dflt).p0==(xs.getD i.toNat eS.dflt).p0]++([(ys.getD i.toNat eS.dflt).p1==(xs.getD i.toNat eS.dflt).p1]++([(ys.getD i.toNat eS.dflt).p2==(xs.getD i.toNat eS.dflt).p2]++([(ys.getD i.toNat eS.dflt).p3==(xs.getD i.toNat eS.dflt).p3]++[])))++[])))))then(Ex.ret,eS.ag xs,eS.ag ys,i,false)else(Ex.normal,eS.ag xs,eS.ag ys,IntKind.i64.wrap (i+(1:Int)),r)
 else(Ex.exit (0:Nat),eS.ag xs,eS.ag ys,i,r)
def qle(xs:List S)(ys:List S)(i:Int)(r:Bool):Prop:=
 ((decide (i<(↑xs.length:Int))&&decide (i<(↑ys.length:Int)))=true->((0:Int)<=i/\i<(↑ys.length:Int))/\((0:Int)<=i/\i<(↑xs.length:Int))/\((!conj ([(ys.getD i.toNat eS.dflt).f==(xs.getD i.toNat eS.dflt).f]++([(ys.getD i.toNat eS.dflt).k==(xs.getD i.toNat eS.dflt).k]++([(ys.getD i.toNat eS.dflt).a==(xs.getD i.toNat eS.dflt).a]++([(ys.getD i.toNat eS.dflt).n==(xs.getD i.toNat eS.dflt).n]++([(ys.getD i.toNat eS.dflt).p0==(xs.getD i.toNat eS.dflt).p0]++([(ys.getD i.toNat eS.dflt).p1==(xs.getD i.toNat eS.dflt).p1]++([(ys.getD i.toNat eS.dflt).p2==(xs.getD i.toNat eS.dflt).p2]++([(ys.getD i.toNat eS.dflt).p3==(xs.getD i.toNat eS.dflt).p3]++[])))++[]))))))=true->eS.okL xs/\eS.okL ys)/\((!conj ([(ys.getD i.toNat eS.dflt).f==(xs.getD i.toNat eS.dflt).f]++([(ys.getD i.toNat eS.dflt).k==(xs.getD i.toNat eS.dflt).k]++([(ys.getD i.toNat eS.dflt).a==(xs.getD i.toNat eS.dflt).a]++([(ys.getD i.toNat eS.dflt).n==(xs.getD i.toNat eS.dflt).n]++([(ys.getD i.toNat eS.dflt).p0==(xs.getD i.toNat eS.dflt).p0]++([(ys.getD i.toNat eS.dflt).p1==(xs.getD i.toNat eS.dflt).p1]++([(ys.getD i.toNat eS.dflt).p2==(xs.getD i.toNat eS.dflt).p2]++([(ys.getD i.toNat eS.dflt).p3==(xs.getD i.toNat eS.dflt).p3]++[])))++[]))))))=false->eS.okL xs/\eS.okL ys))/\((decide (i<(↑xs.length:Int))&&decide (i<(↑ys.length:Int)))=false->eS.okL xs/\eS.okL ys)
theorem zjn:((q03 Tryz.prog 97).filter λc=>Nat.beq (lkey c) 7).length=1:=by kernel_rfl
abbrev q8b:Type:=List S×List S
abbrev qio:Type:=Bool
def z8e(g:q7j):Int×q8b×qio:=(g.2.2.1,(g.1,g.2.1),g.2.2.2)
def zjo(d:Int×q8b×qio):q7j:=(d.2.1.1,d.2.1.2,d.1,d.2.2)
abbrev qin(g:q7j):Ex×q7j:=qqq g.1 g.2.1 g.2.2.1 g.2.2.2
abbrev zem(g:q7j):Prop:=qle g.1 g.2.1 g.2.2.1 g.2.2.2
theorem zrf(g:q7j):(qin g).1=.normal\/(qin g).1∈([.ret,.exit 0]:List Ex):=by
 unfold qin qqq
 repeat' (first|(left;rfl)|(right;simp only[cond_true,cond_false];simp;done)|(rw[Bool.cond_eq_ite];split))
abbrev zjr(Inv:q7j->List Prop)(m:q7j->Nat):LCon:=q2q [.ret,.exit 0] (loopBody Tryz.prog 97 7) zeo [] 49 Inv qin m
theorem z8d(Inv:q7j->List Prop)(m:q7j->Nat)(hs:∀g,allP (Inv g)->zem g)(hg:Goes qin m λg=>allP (Inv g)):∀b∈q03 Tryz.prog 97,lkey b=7->q06 Tryz.prog b (zjr Inv m).g:=q0s (Γ:=(PTab.gamz q6g [] [])) (Λ:=noΛ) (PTab.okz q6g [] []) q0f 100 97 7 49 zeo [] Inv qin zem m default [.ret,.exit 0] zjn (λrd T B HL HB ds g=>by kernel_rfl) (λrd T B HL HB ds g=>by kernel_rfl) hs hg zrf
abbrev q7p:Type:=List Path×Unit×Place×Unit×Place×List S×Int
def zgr:LP 2 q7p:=.pair (.slot 2 0 dLP) (.pair (.fix 2 4 (.p 0 0)) (.pair (.obj 2 0 24 eP) (.pair (.fix 2 5 (.p 1 0)) (.pair (.obj 2 1 24 eP) (.pair (.row 2 6 42 eS) (.slot 2 7 dI))))))
def qs5(xs:List Path)(_u:Unit)(p:Place)(_u2:Unit)(q:Place)(o:List S)(i:Int):Ex×q7p:=
 bif decide (i<(↑xs.length:Int))then bif conj ([(xs.getD i.toNat ePa.dflt).fr.node==p.node]++([(xs.getD i.toNat ePa.dflt).fr.port==p.port]++[]))&&conj ([(xs.getD i.toNat ePa.dflt).to.node==q.node]++([(xs.getD i.toNat ePa.dflt).to.port==q.port]++[]))then(Ex.ret,ePa.ag xs,(),p,(),q,List.map (λx=>eS.get []) (List.range (min ((0:Nat)+(xs.getD i.toNat ePa.dflt).ss.length) (0:Nat)))++eS.lst ((0:Nat)+(xs.getD i.toNat ePa.dflt).ss.length-(0:Nat)) (eS.els (xs.getD i.toNat ePa.dflt).ss),i)else(Ex.normal,ePa.ag xs,(),p,(),q,eS.ag o,IntKind.i64.wrap (i+(1:Int)))
 else(Ex.exit (0:Nat),ePa.ag xs,(),p,(),q,eS.ag o,i)
def qme(xs:List Path)(_u:Unit)(p:Place)(_u2:Unit)(q:Place)(o:List S)(i:Int):Prop:=
 (decide (i<(↑xs.length:Int))=true->((0:Int)<=i/\i<(↑xs.length:Int))/\(conj ([(xs.getD i.toNat ePa.dflt).fr.node==p.node]++([(xs.getD i.toNat ePa.dflt).fr.port==p.port]++[]))=true->(0:Int)<=i/\i<(↑xs.length:Int))/\((conj ([(xs.getD i.toNat ePa.dflt).fr.node==p.node]++([(xs.getD i.toNat ePa.dflt).fr.port==p.port]++[]))&&conj ([(xs.getD i.toNat ePa.dflt).to.node==q.node]++([(xs.getD i.toNat ePa.dflt).to.port==q.port]++[])))=true->((0:Int)<=i/\i<(↑xs.length:Int))/\(True/\(∀(e:Nat),e<(xs.getD i.toNat ePa.dflt).ss.length->(eS.els (xs.getD i.toNat ePa.dflt).ss e).all SV.one=true)/\(0:Nat)+(xs.getD i.toNat ePa.dflt).ss.length<=maxLen/\((0:Nat)+(xs.getD i.toNat ePa.dflt).ss.length)*Tryz.prog.types[(42:Nat)].bytes<=(140737488355328:Nat))/\ePa.okL xs/\(0:Nat)+(xs.getD i.toNat ePa.dflt).ss.length<=(0:Nat)+(xs.getD i.toNat ePa.dflt).ss.length/\(∀(e:Nat),e<min ((0:Nat)+(xs.getD i.toNat ePa.dflt).ss.length) (0:Nat)->eS.OkP [])/\∀(e:Nat),e<(0:Nat)+(xs.getD i.toNat ePa.dflt).ss.length-(0:Nat)->True)/\((conj ([(xs.getD i.toNat ePa.dflt).fr.node==p.node]++([(xs.getD i.toNat ePa.dflt).fr.port==p.port]++[]))&&conj ([(xs.getD i.toNat ePa.dflt).to.node==q.node]++([(xs.getD i.toNat ePa.dflt).to.port==q.port]++[])))=false->ePa.okL xs/\o.length<=o.length/\∀(e:Nat),e<o.length->True))/\(decide (i<(↑xs.length:Int))=false->ePa.okL xs/\o.length<=o.length/\∀(e:Nat),e<o.length->True)
theorem zna:((q03 Tryz.prog 58).filter λc=>Nat.beq (lkey c) 2).length=1:=by kernel_rfl
abbrev q4v:Type:=List Path×Place×Place
abbrev qgw:Type:=Unit×Unit×List S
def zbp(g:q7p):Int×q4v×qgw:=(g.2.2.2.2.2.2,(g.1,g.2.2.1,g.2.2.2.2.1),(g.2.1,g.2.2.2.1,g.2.2.2.2.2.1))
def z3m(d:Int×q4v×qgw):q7p:=(d.2.1.1,d.2.2.1,d.2.1.2.1,d.2.2.2.1,d.2.1.2.2,d.2.2.2.2,d.1)
abbrev qju(g:q7p):Ex×q7p:=qs5 g.1 g.2.1 g.2.2.1 g.2.2.2.1 g.2.2.2.2.1 g.2.2.2.2.2.1 g.2.2.2.2.2.2
abbrev zgo(g:q7p):Prop:=qme g.1 g.2.1 g.2.2.1 g.2.2.2.1 g.2.2.2.2.1 g.2.2.2.2.2.1 g.2.2.2.2.2.2
theorem zuq(g:q7p):(qju g).1=.normal\/(qju g).1∈([.ret,.exit 0]:List Ex):=by
 unfold qju qs5
 repeat' (first|(left;rfl)|(right;simp only[cond_true,cond_false];simp;done)|(rw[Bool.cond_eq_ite];split))
abbrev znc(Inv:q7p->List Prop)(m:q7p->Nat):LCon:=q2q [.ret,.exit 0] (loopBody Tryz.prog 58 2) zgr [] 36 Inv qju m
theorem zbo(Inv:q7p->List Prop)(m:q7p->Nat)(hs:∀g,allP (Inv g)->zgo g)(hg:Goes qju m λg=>allP (Inv g)):∀b∈q03 Tryz.prog 58,lkey b=2->q06 Tryz.prog b (znc Inv m).g:=q0s (Γ:=(PTab.gamz q6g [] [])) (Λ:=noΛ) (PTab.okz q6g [] []) q0f 100 58 2 36 zgr [] Inv qju zgo m default [.ret,.exit 0] zna (λrd T B HL HB ds g=>by kernel_rfl) (λrd T B HL HB ds g=>by kernel_rfl) hs hg zuq
def q89:PTab Tryz.prog:=((q6g).cons 121 (q1y aPP dI (λg=>q8l g.1 g.2) (λ_=>[])) (q0k zla puI)).cons 96 (q1y aPP dI (λg=>qad g.1 g.2) (λ_=>[])) (q0k z8v puI)
theorem z5v(a b:S):conj ([a.f==b.f]++([a.k==b.k]++([a.a==b.a]++([a.n==b.n]++([a.p0==b.p0]++([a.p1==b.p1]++([a.p2==b.p2]++([a.p3==b.p3]++[])))++[])))))=decide (a=b):=by
 obtain⟨f,k,c,n,p0,p1,p2,p3⟩:=a;obtain⟨f',k',c',n',p0',p1',p2',p3'⟩:=b;simp[conj];rw[Bool.eq_iff_iff];simp
theorem zw6(a b:Spot):conj ([a.p.node==b.p.node]++([a.p.port==b.p.port]++[])++([a.d==b.d]++[]))=decide (a=b):=by
 obtain⟨⟨f,k⟩,d⟩:=a;obtain⟨⟨f',k'⟩,d'⟩:=b;simp[conj];rw[Bool.eq_iff_iff];simp[and_assoc]
def qde(c:q4w)(b:qh2)(i:Int)(v:S):Ex×qh2:=bif !decide (v=(c.2.1.getD i.toNat eS.dflt))then(.ret,false)else(.normal,b)
def z4r(c:q4w)(b:qh2)(i:Int):Prop:=c.1.length=c.2.1.length
abbrev znt(g:q7r):List Prop:=ixI (λc:q4w=>c.2.2) (λc:q4w=>c.1) z4r (zc1 g)
abbrev qxc(g:q7r):Nat:=ixM (λc:q4w=>c.2.2) (zc1 g)
theorem zvc:ixP qde (λc:q4w=>c.1) z4r:=λ_ _ _ _ h _ _=>h
abbrev zgx(g:q7r):Ex×q7r:=qsd g.1 g.2.1 g.2.2.1 g.2.2.2.1 g.2.2.2.2
theorem zgy(d:Int×q4w×qh2)(hi:allP (ixI (λc:q4w=>c.2.2) (λc:q4w=>c.1) z4r d)):zgx (z4q d)=((ixF 0 (λc:q4w=>c.2.2) (λc:q4w=>c.1) eS.dflt qde d).1,z4q (ixF 0 (λc:q4w=>c.2.2) (λc:q4w=>c.1) eS.dflt qde d).2):=by
 obtain⟨i,⟨xs,ys,n⟩,r⟩:=d;show qsd xs ys n i r=_;unfold qsd ixF qde;simp only[El.ag_eq,z5v];cases decide (i<n)with
 |false=>rfl
 |true=>
  simp only[cond_true];generalize (!decide ((xs.getD i.toNat eS.dflt)=(ys.getD i.toNat eS.dflt)))=z;cases z<;>rfl
theorem zva:∀b∈q03 Tryz.prog 18,lkey b=4->q06 Tryz.prog b (znu znt qxc).g:=by
 refine zc0 znt qxc (λg hi=>?_) (q0e (λ_=>rfl) (λ_=>rfl) zgy zvc);obtain⟨xs,ys,n,i,r⟩:=g;obtain⟨h1,h2,h3,h4,h5⟩:=hi _ (List.mem_cons_self ..);have h1:n=(xs.length:Int):=h1;have h3:0<=i:=h3;have h5:xs.length=ys.length:=h5;show qmo xs ys n i r;unfold qmo;simp only[decide_eq_true_eq,decide_eq_false_iff_not];have k0:∀e:Nat,e<xs.length->eS.Ok (eS.els xs e):=λe _=>eS.ok_els xs e;have k1:∀e:Nat,e<ys.length->eS.Ok (eS.els ys e):=λe _=>eS.ok_els ys e;clear hi
 repeat' (first|exact k0|exact k1|apply And.intro|intro _)
 all_goals omega
theorem znr(c:q4w)(b:qh2)(k1:c.2.2=((c.1).length:Int))(k2:(c.1).length<=maxLen)(k3:z4r c b 0):q07 zgx qxc (z4q (0,c,b))=((scan 0 (qde c) 0 (c.1) b).1,z4q ((scan 0 (qde c) 0 (c.1) b).2.1,c,(scan 0 (qde c) 0 (c.1) b).2.2)):=q0h (φ:=zc1) (ψ:=z4q) (λ_=>rfl) (λ_=>rfl) zgy zvc c b k1 k2 k3
def qdf(c:q4x)(b:qh3)(i:Int)(v:Spot):Ex×qh3:=bif !decide (v=(c.2.1.getD i.toNat eSp.dflt))then(.ret,false)else(.normal,b)
def z4t(c:q4x)(b:qh3)(i:Int):Prop:=c.1.length=c.2.1.length
abbrev znx(g:q7s):List Prop:=ixI (λc:q4x=>c.2.2) (λc:q4x=>c.1) z4t (zc3 g)
abbrev qxd(g:q7s):Nat:=ixM (λc:q4x=>c.2.2) (zc3 g)
theorem zvf:ixP qdf (λc:q4x=>c.1) z4t:=λ_ _ _ _ h _ _=>h
abbrev zh1(g:q7s):Ex×q7s:=qse g.1 g.2.1 g.2.2.1 g.2.2.2.1 g.2.2.2.2
theorem zh2(d:Int×q4x×qh3)(hi:allP (ixI (λc:q4x=>c.2.2) (λc:q4x=>c.1) z4t d)):zh1 (z4s d)=((ixF 0 (λc:q4x=>c.2.2) (λc:q4x=>c.1) eSp.dflt qdf d).1,z4s (ixF 0 (λc:q4x=>c.2.2) (λc:q4x=>c.1) eSp.dflt qdf d).2):=by
 obtain⟨i,⟨xs,ys,n⟩,r⟩:=d;show qse xs ys n i r=_;unfold qse ixF qdf;simp only[El.ag_eq,zw6];cases decide (i<n)with
 |false=>rfl
 |true=>
  simp only[cond_true];generalize (!decide ((xs.getD i.toNat eSp.dflt)=(ys.getD i.toNat eSp.dflt)))=z;cases z<;>rfl
theorem zvd:∀b∈q03 Tryz.prog 21,lkey b=4->q06 Tryz.prog b (zny znx qxd).g:=by
 refine zc2 znx qxd (λg hi=>?_) (q0e (λ_=>rfl) (λ_=>rfl) zh2 zvf);obtain⟨xs,ys,n,i,r⟩:=g;obtain⟨h1,h2,h3,h4,h5⟩:=hi _ (List.mem_cons_self ..);have h1:n=(xs.length:Int):=h1;have h3:0<=i:=h3;have h5:xs.length=ys.length:=h5;show qmp xs ys n i r;unfold qmp;simp only[decide_eq_true_eq,decide_eq_false_iff_not];have k0:∀e:Nat,e<xs.length->eSp.Ok (eSp.els xs e):=λe _=>eSp.ok_els xs e;have k1:∀e:Nat,e<ys.length->eSp.Ok (eSp.els ys e):=λe _=>eSp.ok_els ys e;clear hi
 repeat' (first|exact k0|exact k1|apply And.intro|intro _)
 all_goals omega
theorem znv(c:q4x)(b:qh3)(k1:c.2.2=((c.1).length:Int))(k2:(c.1).length<=maxLen)(k3:z4t c b 0):q07 zh1 qxd (z4s (0,c,b))=((scan 0 (qdf c) 0 (c.1) b).1,z4s ((scan 0 (qdf c) 0 (c.1) b).2.1,c,(scan 0 (qdf c) 0 (c.1) b).2.2)):=q0h (φ:=zc3) (ψ:=z4s) (λ_=>rfl) (λ_=>rfl) zh2 zvf c b k1 k2 k3
def qi3(c:q4r)(b:qgp)(i:Int)(v:S):Ex×qgp:=bif decide (c.2.1=v)then(.ret,(),i)else(.normal,b.1,b.2)
def z2o(c:q4r)(b:qgp)(i:Int):Prop:=True
abbrev zmg(g:q7l):List Prop:=ixI (λc:q4r=>c.2.2) (λc:q4r=>c.1) z2o (zbc g)
abbrev qwz(g:q7l):Nat:=ixM (λc:q4r=>c.2.2) (zbc g)
theorem zu5:ixP qi3 (λc:q4r=>c.1) z2o:=λ_ _ _ _ h _ _=>h
abbrev zg4(g:q7l):Ex×q7l:=qru g.1 g.2.1 g.2.2.1 g.2.2.2.1 g.2.2.2.2.1 g.2.2.2.2.2
theorem zg5(d:Int×q4r×qgp)(hi:allP (ixI (λc:q4r=>c.2.2) (λc:q4r=>c.1) z2o d)):zg4 (z2m d)=((ixF 0 (λc:q4r=>c.2.2) (λc:q4r=>c.1) eS.dflt qi3 d).1,z2m (ixF 0 (λc:q4r=>c.2.2) (λc:q4r=>c.1) eS.dflt qi3 d).2):=by
 obtain⟨i,⟨xs,s,n⟩,⟨⟨⟩,r⟩⟩:=d;show qru xs () s n i r=_;unfold qru ixF qi3;simp only[El.ag_eq,z5v];cases decide (i<n)with
 |false=>rfl
 |true=>
  simp only[cond_true];generalize (decide (s=(xs.getD i.toNat eS.dflt)))=z;cases z<;>rfl
theorem zu3:∀b∈q03 Tryz.prog 155,lkey b=2->q06 Tryz.prog b (zmh zmg qwz).g:=by
 refine zbb zmg qwz (λg hi=>?_) (q0e (λ_=>rfl) (λ_=>rfl) zg5 zu5);obtain⟨xs,⟨⟩,s,n,i,r⟩:=g;obtain⟨h1,h2,h3,h4,h5⟩:=hi _ (List.mem_cons_self ..);have h1:n=(xs.length:Int):=h1;have h3:0<=i:=h3;have h5:True:=h5;show qm7 xs () s n i r;unfold qm7;simp only[decide_eq_true_eq,decide_eq_false_iff_not];have k0:∀e:Nat,e<xs.length->eS.Ok (eS.els xs e):=λe _=>eS.ok_els xs e;clear hi
 repeat' (first|exact k0|apply And.intro|intro _)
 all_goals omega
theorem zme(c:q4r)(b:qgp)(k1:c.2.2=((c.1).length:Int))(k2:(c.1).length<=maxLen)(k3:z2o c b 0):q07 zg4 qwz (z2m (0,c,b))=((scan 0 (qi3 c) 0 (c.1) b).1,z2m ((scan 0 (qi3 c) 0 (c.1) b).2.1,c,(scan 0 (qi3 c) 0 (c.1) b).2.2)):=q0h (φ:=zbc) (ψ:=z2m) (λ_=>rfl) (λ_=>rfl) zg5 zu5 c b k1 k2 k3
def qi6(c:q4u)(b:qgv)(i:Int)(v:S):Ex×qgv:=bif decide (v=c.2)then(.ret,(),true)else(.normal,b.1,b.2)
def z3e(c:q4u)(b:qgv)(i:Int):Prop:=True
abbrev zn4(g:q7o):List Prop:=ixI (λc:q4u=>(c.1.length:Int)) (λc:q4u=>c.1) z3e (zbm g)
abbrev qx3(g:q7o):Nat:=ixM (λc:q4u=>(c.1.length:Int)) (zbm g)
theorem zun:ixP qi6 (λc:q4u=>c.1) z3e:=λ_ _ _ _ h _ _=>h
abbrev zgl(g:q7o):Ex×q7o:=qs2 g.1 g.2.1 g.2.2.1 g.2.2.2.1 g.2.2.2.2
theorem zgm(d:Int×q4u×qgv)(hi:allP (ixI (λc:q4u=>(c.1.length:Int)) (λc:q4u=>c.1) z3e d)):zgl (z3d d)=((ixF 0 (λc:q4u=>(c.1.length:Int)) (λc:q4u=>c.1) eS.dflt qi6 d).1,z3d (ixF 0 (λc:q4u=>(c.1.length:Int)) (λc:q4u=>c.1) eS.dflt qi6 d).2):=by
 obtain⟨i,⟨xs,s⟩,⟨⟨⟩,r⟩⟩:=d;show qs2 xs () s i r=_;unfold qs2 ixF qi6;simp only[El.ag_eq,z5v];cases decide (i<(xs.length:Int))with
 |false=>rfl
 |true=>
  simp only[cond_true];generalize (decide ((xs.getD i.toNat eS.dflt)=s))=z;cases z<;>rfl
theorem zul:∀b∈q03 Tryz.prog 98,lkey b=2->q06 Tryz.prog b (zn5 zn4 qx3).g:=by
 refine zbl zn4 qx3 (λg hi=>?_) (q0e (λ_=>rfl) (λ_=>rfl) zgm zun);obtain⟨xs,⟨⟩,s,i,r⟩:=g;obtain⟨h1,h2,h3,h4,h5⟩:=hi _ (List.mem_cons_self ..);have h1:(xs.length:Int)=(xs.length:Int):=h1;have h3:0<=i:=h3;have h5:True:=h5;show qmd xs () s i r;unfold qmd;simp only[decide_eq_true_eq,decide_eq_false_iff_not];have k0:∀e:Nat,e<xs.length->eS.Ok (eS.els xs e):=λe _=>eS.ok_els xs e;clear hi
 repeat' (first|exact k0|apply And.intro|intro _)
 all_goals omega
theorem zn2(c:q4u)(b:qgv)(k1:(c.1.length:Int)=((c.1).length:Int))(k2:(c.1).length<=maxLen)(k3:z3e c b 0):q07 zgl qx3 (z3d (0,c,b))=((scan 0 (qi6 c) 0 (c.1) b).1,z3d ((scan 0 (qi6 c) 0 (c.1) b).2.1,c,(scan 0 (qi6 c) 0 (c.1) b).2.2)):=q0h (φ:=zbm) (ψ:=z3d) (λ_=>rfl) (λ_=>rfl) zgm zun c b k1 k2 k3
theorem bytS(h:42<Tryz.prog.types.size):(Tryz.prog.types[(42:Nat)]'h).bytes=64:=by kernel_rfl
def qib(c:q50)(b:qh8)(i:Int)(v:Path):Ex×qh8:=bif decide (v.fr=c.2)&&(decide (v.to=c.2)&&decide ((v.ss.length:Int)>(0:Int)))then(.ret,(),(v.ss.getD (0:Nat) eS.dflt).f,true)else(.normal,b.1,b.2.1,b.2.2)
def z5f(c:q50)(b:qh8)(i:Int):Prop:=True
abbrev zof(g:q7u):List Prop:=ixI (λc:q50=>(c.1.length:Int)) (λc:q50=>c.1) z5f (zcf g)
abbrev qxm(g:q7u):Nat:=ixM (λc:q50=>(c.1.length:Int)) (zcf g)
theorem zvo:ixP qib (λc:q50=>c.1) z5f:=λ_ _ _ _ h _ _=>h
abbrev zhc(g:q7u):Ex×q7u:=qsr g.1 g.2.1 g.2.2.1 g.2.2.2.1 g.2.2.2.2.1 g.2.2.2.2.2
theorem zhd(d:Int×q50×qh8)(hi:allP (ixI (λc:q50=>(c.1.length:Int)) (λc:q50=>c.1) z5f d)):zhc (z5e d)=((ixF 0 (λc:q50=>(c.1.length:Int)) (λc:q50=>c.1) ePa.dflt qib d).1,z5e (ixF 0 (λc:q50=>(c.1.length:Int)) (λc:q50=>c.1) ePa.dflt qib d).2):=by
 obtain⟨i,⟨xs,p⟩,⟨⟨⟩,r,o⟩⟩:=d;show qsr xs () p i r o=_;unfold qsr ixF qib;simp only[El.ag_eq,q7a];cases decide (i<(xs.length:Int))with
 |false=>rfl
 |true=>
  simp only[cond_true];generalize (decide ((xs.getD i.toNat ePa.dflt).fr=p)&&(decide ((xs.getD i.toNat ePa.dflt).to=p)&&decide (((xs.getD i.toNat ePa.dflt).ss.length:Int)>(0:Int))))=z;cases z<;>rfl
theorem zvm:∀b∈q03 Tryz.prog 52,lkey b=2->q06 Tryz.prog b (zog zof qxm).g:=by
 refine zce zof qxm (λg hi=>?_) (q0e (λ_=>rfl) (λ_=>rfl) zhd zvo);obtain⟨xs,⟨⟩,p,i,r,o⟩:=g;obtain⟨h1,h2,h3,h4,h5⟩:=hi _ (List.mem_cons_self ..);have h1:(xs.length:Int)=(xs.length:Int):=h1;have h3:0<=i:=h3;have h5:True:=h5;show qmy xs () p i r o;unfold qmy;simp only[El.okL_eq,q7a,decide_eq_true_eq,decide_eq_false_iff_not,Bool.and_eq_true];have k0:∀e:Nat,e<xs.length->ePa.Ok (ePa.els xs e):=λe _=>ePa.ok_els xs e;clear hi
 repeat' (first|exact k0|apply And.intro|intro _)
 all_goals (first|trivial|omega|(rename_i hz;omega))
theorem zod(c:q50)(b:qh8)(k1:(c.1.length:Int)=((c.1).length:Int))(k2:(c.1).length<=maxLen)(k3:z5f c b 0):q07 zhc qxm (z5e (0,c,b))=((scan 0 (qib c) 0 (c.1) b).1,z5e ((scan 0 (qib c) 0 (c.1) b).2.1,c,(scan 0 (qib c) 0 (c.1) b).2.2)):=q0h (φ:=zcf) (ψ:=z5e) (λ_=>rfl) (λ_=>rfl) zhd zvo c b k1 k2 k3
def qi7(c:q4v)(b:qgw)(i:Int)(v:Path):Ex×qgw:=bif decide (v.fr=c.2.1)&&decide (v.to=c.2.2)then(.ret,(),(),v.ss)else(.normal,b.1,b.2.1,b.2.2)
def z3n(c:q4v)(b:qgw)(i:Int):Prop:=∀e:Nat,(c.1.getD e ePa.dflt).ss.length<=1000
abbrev znb(g:q7p):List Prop:=ixI (λc:q4v=>(c.1.length:Int)) (λc:q4v=>c.1) z3n (zbp g)
abbrev qx4(g:q7p):Nat:=ixM (λc:q4v=>(c.1.length:Int)) (zbp g)
theorem zur:ixP qi7 (λc:q4v=>c.1) z3n:=λ_ _ _ _ h _ _=>h
abbrev zgp(g:q7p):Ex×q7p:=qs5 g.1 g.2.1 g.2.2.1 g.2.2.2.1 g.2.2.2.2.1 g.2.2.2.2.2.1 g.2.2.2.2.2.2
theorem zgq(d:Int×q4v×qgw)(hi:allP (ixI (λc:q4v=>(c.1.length:Int)) (λc:q4v=>c.1) z3n d)):zgp (z3m d)=((ixF 0 (λc:q4v=>(c.1.length:Int)) (λc:q4v=>c.1) ePa.dflt qi7 d).1,z3m (ixF 0 (λc:q4v=>(c.1.length:Int)) (λc:q4v=>c.1) ePa.dflt qi7 d).2):=by
 obtain⟨i,⟨xs,p,q⟩,⟨⟨⟩,⟨⟩,o⟩⟩:=d;show qs5 xs () p () q o i=_;unfold qs5 ixF qi7;simp only[El.ag_eq,q7a,ap0];cases decide (i<(xs.length:Int))with
 |false=>rfl
 |true=>
  simp only[cond_true];generalize (decide ((xs.getD i.toNat ePa.dflt).fr=p)&&decide ((xs.getD i.toNat ePa.dflt).to=q))=z;cases z<;>rfl
theorem zup:∀b∈q03 Tryz.prog 58,lkey b=2->q06 Tryz.prog b (znc znb qx4).g:=by
 refine zbo znb qx4 (λg hi=>?_) (q0e (λ_=>rfl) (λ_=>rfl) zgq zur);obtain⟨xs,⟨⟩,p,⟨⟩,q,o,i⟩:=g;obtain⟨h1,h2,h3,h4,h5⟩:=hi _ (List.mem_cons_self ..);have h1:(xs.length:Int)=(xs.length:Int):=h1;have h3:0<=i:=h3;have h5:∀e:Nat,(xs.getD e ePa.dflt).ss.length<=1000:=h5;show qme xs () p () q o i;unfold qme;simp only[El.okL_eq,q7a,bytS,decide_eq_true_eq,decide_eq_false_iff_not,Bool.and_eq_true];have k0:∀e:Nat,e<xs.length->ePa.Ok (ePa.els xs e):=λe _=>ePa.ok_els xs e;clear hi
 repeat' (first|exact k0|apply And.intro|intro _)
 all_goals (have h6:=h5 i.toNat;first|trivial|exact eS.one_els _ _|omega|(unfold maxLen;omega))
theorem zn9(c:q4v)(b:qgw)(k1:(c.1.length:Int)=((c.1).length:Int))(k2:(c.1).length<=maxLen)(k3:z3n c b 0):q07 zgp qx4 (z3m (0,c,b))=((scan 0 (qi7 c) 0 (c.1) b).1,z3m ((scan 0 (qi7 c) 0 (c.1) b).2.1,c,(scan 0 (qi7 c) 0 (c.1) b).2.2)):=q0h (φ:=zbp) (ψ:=z3m) (λ_=>rfl) (λ_=>rfl) zgq zur c b k1 k2 k3
def ltM2:LTab Tryz.prog:=((((((LTab.nil.cons 18 4 (znu znt qxc) zva).cons 21 4 (zny znx qxd) zvd).cons 155 2 (zmh zmg qwz) zu3).cons 98 2 (zn5 zn4 qx3) zul).cons 52 2 (zog zof qxm) zvm).cons 58 2 (znc znb qx4) zup)
abbrev qm6:Lam:=ltM2.lam
theorem q63:∀f k L,qm6 f k=some L->∀b∈q03 Tryz.prog f,lkey b=k->q06 Tryz.prog b L.g:=ltM2.ok
abbrev aLSS:DA (List S×List S):=.cons dLS (.one dLS)
abbrev z6y:DA (List Spot×List Spot):=.cons dLSp (.one dLSp)
abbrev aLSs:DA (List S×S):=.cons dLS (.one dS)
abbrev aLPp:DA (List Path×Place):=.cons dLP (.one dP)
abbrev z6z:DA (List Path×Place×Place):=.cons dLP (.cons dP (.one dP))
abbrev dIBo:Dv (Int×Bool):=.tup (.cons dI (.one q0l))
theorem zy2(r:Int×Bool):Pu (dIBo.enc r):=zf9 (q1c (pu_v _) (q1c (pu_v _) qcy))
abbrev rLS:Rv (List S):=.list eS
def q5h(a:Path)(b:Path):Dv.T dI:=
 bif q8l a.fr b.fr !=(0:Int)then q8l a.fr b.fr
 else bif q8l a.to b.to !=(0:Int)then q8l a.to b.to else(0:Int)
theorem zl1:q09 Tryz.prog 79 zdx dI (λg=>q5h g.1 g.2) (λ_=>[]):=q0g (Γ:=(PTab.gamz q89 [] [])) (Λ:=qm6) (PTab.okz q89 [] []) q63 100 default (λg=>by kernel_rfl) (λg=>by kernel_rfl)
def q67(a:Path)(b:Path):Dv.T dI:=
 bif qad a.fr b.fr !=(0:Int)then qad a.fr b.fr else qad a.to b.to
theorem z8t:q09 Tryz.prog 54 zdx dI (λg=>q67 g.1 g.2) (λ_=>[]):=q0g (Γ:=(PTab.gamz q89 [] [])) (Λ:=qm6) (PTab.okz q89 [] []) q63 100 default (λg=>by kernel_rfl) (λg=>by kernel_rfl)
def qsi(a:List S)(b:List S):Ex×
 q7r:=
 q07 (λg=>qsd g.fst g.snd.fst g.snd.snd.fst g.snd.snd.snd.fst g.snd.snd.snd.snd) qxc (eS.ag a,eS.ag b,(↑a.length:Int),(0:Int),false)
def z4y(a:List S)(b:List S):Dv.T q0l:=
 bif (↑a.length:Int)!=(↑b.length:Int)then false
 else bif exB Ex.ret (qsi a b).fst then(qsi a b).snd.snd.snd.snd.snd else true
def qcc(a:List S)(b:List S):Prop:=
 ((↑a.length:Int)!=(↑b.length:Int))=false->eS.okL a/\eS.okL b/\Lp.ixJ (λc=>c.snd.snd) (λc=>c.fst) z4r (zc1 (eS.ag a,eS.ag b,(↑a.length:Int),(0:Int),false))
theorem zc7(pre:DA.T aLSS->List Prop)(h:∀g,DA.bd aLSS g->(∀p∈pre g,p)->qcc g.1 g.2):q09 Tryz.prog 18 aLSS q0l (λg=>z4y g.1 g.2) pre:=q0o (Γ:=(PTab.gamz q89 [] [])) (Λ:=qm6) (PTab.okz q89 [] []) q63 100 default (λg=>qcc g.1 g.2) (λg=>by kernel_rfl) (λg=>by kernel_rfl) h
def qmr(a:List Spot)(b:List Spot):Ex×
 q7s:=
 q07 (λg=>qse g.fst g.snd.fst g.snd.snd.fst g.snd.snd.snd.fst g.snd.snd.snd.snd) qxd (eSp.ag a,eSp.ag b,(↑a.length:Int),(0:Int),false)
def qsh(a:List Spot)(b:List Spot):Dv.T q0l:=
 bif (↑a.length:Int)!=(↑b.length:Int)then false
 else bif exB Ex.ret (qmr a b).fst then(qmr a b).snd.snd.snd.snd.snd else true
def q9o(a:List Spot)(b:List Spot):Prop:=
 ((↑a.length:Int)!=(↑b.length:Int))=false->eSp.okL a/\eSp.okL b/\Lp.ixJ (λc=>c.snd.snd) (λc=>c.fst) z4t (zc3 (eSp.ag a,eSp.ag b,(↑a.length:Int),(0:Int),false))
theorem z4x(pre:DA.T z6y->List Prop)(h:∀g,DA.bd z6y g->(∀p∈pre g,p)->q9o g.1 g.2):q09 Tryz.prog 21 z6y q0l (λg=>qsh g.1 g.2) pre:=q0o (Γ:=(PTab.gamz q89 [] [])) (Λ:=qm6) (PTab.okz q89 [] []) q63 100 default (λg=>q9o g.1 g.2) (λg=>by kernel_rfl) (λg=>by kernel_rfl) h
def qrt(a:List S)(s:S):Ex×
 q7l:=
 q07 (λg=>qru g.fst g.snd.fst g.snd.snd.fst g.snd.snd.snd.fst g.snd.snd.snd.snd.fst g.snd.snd.snd.snd.snd) qwz (eS.ag a,(),s,(↑a.length:Int),(0:Int),(0:Int))
def qjn(a:List S)(s:S):Dv.T dI:=
 bif exB Ex.ret (qrt a s).fst then(qrt a s).snd.snd.snd.snd.snd.snd else(-1:Int)
def qby(a:List S)(s:S):Prop:=
 eS.okL a/\Lp.ixJ (λc=>c.snd.snd) (λc=>c.fst) z2o (zbc (eS.ag a,(),s,(↑a.length:Int),(0:Int),(0:Int)))
theorem zba(pre:DA.T aLSs->List Prop)(h:∀g,DA.bd aLSs g->(∀p∈pre g,p)->qby g.1 g.2):q09 Tryz.prog 155 aLSs dI (λg=>qjn g.1 g.2) pre:=q0o (Γ:=(PTab.gamz q89 [] [])) (Λ:=qm6) (PTab.okz q89 [] []) q63 100 default (λg=>qby g.1 g.2) (λg=>by kernel_rfl) (λg=>by kernel_rfl) h
def qs1(a:List S)(s:S):Ex×
 q7o:=
 q07 (λg=>qs2 g.fst g.snd.fst g.snd.snd.fst g.snd.snd.snd.fst g.snd.snd.snd.snd) qx3 (eS.ag a,(),s,(0:Int),false)
def z3c(a:List S)(s:S):Dv.T q0l:=
 bif exB Ex.ret (qs1 a s).fst then(qs1 a s).snd.snd.snd.snd.snd else false
def qc7(a:List S)(s:S):Prop:=
 eS.okL a/\Lp.ixJ (λc=>(↑c.fst.length:Int)) (λc=>c.fst) z3e (zbm (eS.ag a,(),s,(0:Int),false))
theorem zbk(pre:DA.T aLSs->List Prop)(h:∀g,DA.bd aLSs g->(∀p∈pre g,p)->qc7 g.1 g.2):q09 Tryz.prog 98 aLSs q0l (λg=>z3c g.1 g.2) pre:=q0o (Γ:=(PTab.gamz q89 [] [])) (Λ:=qm6) (PTab.okz q89 [] []) q63 100 default (λg=>qc7 g.1 g.2) (λg=>by kernel_rfl) (λg=>by kernel_rfl) h
def qsq(a:List Path)(p:Place):Ex×
 q7u:=
 q07 (λg=>qsr g.fst g.snd.fst g.snd.snd.fst g.snd.snd.snd.fst g.snd.snd.snd.snd.fst g.snd.snd.snd.snd.snd) qxm (ePa.ag a,(),p,(0:Int),(0:Int),false)
def z5d(a:List Path)(p:Place):Dv.T dIBo:=
 bif exB Ex.ret (qsq a p).fst then(qsq a p).snd.snd.snd.snd.snd else((0:Int),false)
def qcf(a:List Path)(p:Place):Prop:=
 ePa.okL a/\Lp.ixJ (λc=>(↑c.fst.length:Int)) (λc=>c.fst) z5f (zcf (ePa.ag a,(),p,(0:Int),(0:Int),false))
theorem zcd(pre:DA.T aLPp->List Prop)(h:∀g,DA.bd aLPp g->(∀p∈pre g,p)->qcf g.1 g.2):q09 Tryz.prog 52 aLPp dIBo (λg=>z5d g.1 g.2) pre:=q0o (Γ:=(PTab.gamz q89 [] [])) (Λ:=qm6) (PTab.okz q89 [] []) q63 100 default (λg=>qcf g.1 g.2) (λg=>by kernel_rfl) (λg=>by kernel_rfl) h
def qal(a:List Path)(p:Place)(q:Place):Ex×
 q7p:=
 q07 (λg=>qs5 g.fst g.snd.fst g.snd.snd.fst g.snd.snd.snd.fst g.snd.snd.snd.snd.fst g.snd.snd.snd.snd.snd.fst g.snd.snd.snd.snd.snd.snd) qx4 (ePa.ag a,(),p,(),q,[],(0:Int))
def z3l(a:List Path)(p:Place)(q:Place):Rv.T rLS:=
 bif exB Ex.ret (qal a p q).fst then eS.ag (qal a p q).snd.snd.snd.snd.snd.snd.fst else []
def qc8(a:List Path)(p:Place)(q:Place):Prop:=
 ePa.okL a/\Lp.ixJ (λc=>(↑c.fst.length:Int)) (λc=>c.fst) z3n (zbp (ePa.ag a,(),p,(),q,[],(0:Int)))/\(exB Ex.ret (qal a p q).fst=true->(qal a p q).snd.snd.snd.snd.snd.snd.fst.length<=(qal a p q).snd.snd.snd.snd.snd.snd.fst.length/\∀(e:Nat),e<(qal a p q).snd.snd.snd.snd.snd.snd.fst.length->True)
theorem zbn(pre:DA.T z6z->List Prop)(h:∀g,DA.bd z6z g->(∀p∈pre g,p)->qc8 g.1 g.2.1 g.2.2):q09 Tryz.prog 58 z6z (Rv.D rLS) (λg=>z3l g.1 g.2.1 g.2.2) pre:=q2l (R:=rLS) (Γ:=(PTab.gamz q89 [] [])) (Λ:=qm6) (PTab.okz q89 [] []) q63 100 default (λg=>qc8 g.1 g.2.1 g.2.2) (λg=>by kernel_rfl) (λg=>by kernel_rfl) h
def qqm:PTab Tryz.prog:=((q89).cons 79 (q1y zdx dI (λg=>q5h g.1 g.2) (λ_=>[])) (q0k zl1 puI)).cons 54 (q1y zdx dI (λg=>q67 g.1 g.2) (λ_=>[])) (q0k z8t puI)
end
end Go.Proofs.YthnojkbkojpadaaGreat

namespace Go.Proofs.YthnojkbkojpadaaGreat
open Go.RowKit Go.Sx Go.Lp
theorem qut{a b:Nat}(h:((a:Int)!=(b:Int))=false):a=b:=by
 have:=bne_eq_false_iff_eq.1 h;omega
theorem zvj:q09 Tryz.prog 18 aLSS q0l (λg=>decide (g.1=g.2)) (λ_=>[]):=by
 have h:=zc7 (λ_=>[]) λg hb _=>by
  obtain⟨a,b⟩:=g;have ha:a.length<=maxLen:=hb.1.1;show qcc a b;unfold qcc;simp only[El.okL_eq,El.ag_eq];exactλhc=>⟨trivial,trivial,ixJ0 rfl ha (qut hc)⟩
 refine q19 h λg hb _=>?_;obtain⟨a,b⟩:=g;have ha:a.length<=maxLen:=hb.1.1;show z4y a b=decide (a=b);unfold z4y qsi;simp only[El.ag_eq];cases hc:((a.length:Int)!=(b.length:Int))with
 |true=>
  have:a≠b:=λe=>by subst e;simp at hc
  simp[this]
 |false=>
  have hl:=qut hc;have h1:q07 (λg:q7r=>qsd g.1 g.2.1 g.2.2.1 g.2.2.2.1 g.2.2.2.2) qxc (a,b,(a.length:Int),0,false)=_:=znr (a,b,(a.length:Int)) false rfl ha hl;rw[h1];rcases q8c (x:=0) b eS.dflt (st:=qde (a,b,(a.length:Int))) (λ_ _ _=>rfl) a 0 false (by omega)with ⟨h2,h3⟩|⟨h2,h3,h4⟩
  .have h3:scan 0 (qde (a,b,(a.length:Int))) 0 a false=_:=h3;rw[h3];rw[List.drop_zero]at h2;simp[h2,exB]
  .have h3:(scan 0 (qde (a,b,(a.length:Int))) 0 a false).1=_:=h3;have h4:(scan 0 (qde (a,b,(a.length:Int))) 0 a false).2.2=_:=h4;rw[List.drop_zero]at h2;show(bif exB .ret (scan 0 (qde (a,b,(a.length:Int))) 0 a false).1 then(scan 0 (qde (a,b,(a.length:Int))) 0 a false).2.2 else true)=_;rw[h3,h4];simp[h2,exB]
theorem zo3:q09 Tryz.prog 21 z6y q0l (λg=>decide (g.1=g.2)) (λ_=>[]):=by
 have h:=z4x (λ_=>[]) λg hb _=>by
  obtain⟨a,b⟩:=g;have ha:a.length<=maxLen:=hb.1.1;show q9o a b;unfold q9o;simp only[El.okL_eq,El.ag_eq];exactλhc=>⟨trivial,trivial,ixJ0 rfl ha (qut hc)⟩
 refine q19 h λg hb _=>?_;obtain⟨a,b⟩:=g;have ha:a.length<=maxLen:=hb.1.1;show qsh a b=decide (a=b);unfold qsh qmr;simp only[El.ag_eq];cases hc:((a.length:Int)!=(b.length:Int))with
 |true=>
  have:a≠b:=λe=>by subst e;simp at hc
  simp[this]
 |false=>
  have hl:=qut hc;have h1:q07 (λg:q7s=>qse g.1 g.2.1 g.2.2.1 g.2.2.2.1 g.2.2.2.2) qxd (a,b,(a.length:Int),0,false)=_:=znv (a,b,(a.length:Int)) false rfl ha hl;rw[h1];rcases q8c (x:=0) b eSp.dflt (st:=qdf (a,b,(a.length:Int))) (λ_ _ _=>rfl) a 0 false (by omega)with ⟨h2,h3⟩|⟨h2,h3,h4⟩
  .have h3:scan 0 (qdf (a,b,(a.length:Int))) 0 a false=_:=h3;rw[h3];rw[List.drop_zero]at h2;simp[h2,exB]
  .have h3:(scan 0 (qdf (a,b,(a.length:Int))) 0 a false).1=_:=h3;have h4:(scan 0 (qdf (a,b,(a.length:Int))) 0 a false).2.2=_:=h4;rw[List.drop_zero]at h2;show(bif exB .ret (scan 0 (qdf (a,b,(a.length:Int))) 0 a false).1 then(scan 0 (qdf (a,b,(a.length:Int))) 0 a false).2.2 else true)=_;rw[h3,h4];simp[h2,exB]
theorem zb9(xs:List S)(s:S)(h:xs.length<=maxLen):decide (qjn xs s>=0)=decide (s∈xs):=by
 unfold qjn qrt;simp only[El.ag_eq];have h1:q07 (λg:q7l=>qru g.1 g.2.1 g.2.2.1 g.2.2.2.1 g.2.2.2.2.1 g.2.2.2.2.2) qwz (xs,(),s,(xs.length:Int),0,0)=_:=zme (xs,s,(xs.length:Int)) ((),0) rfl h trivial;rw[h1]
 have hm:decide (s∈xs)=xs.any λv=>decide (s=v):=by
  rw[Bool.eq_iff_iff,List.any_eq_true];simp
 rw[hm];rcases search (x:=0) (st:=qi3 (xs,s,(xs.length:Int))) (p:=λv=>decide (s=v)) (r:=λi _ _=>((),i)) (λ_ _ _=>rfl) xs ((),(0:Int))with ⟨ha,j,hj,a,_,_,h2⟩|⟨ha,h2⟩
 .have h2:scan 0 (qi3 (xs,s,(xs.length:Int))) 0 xs ((),(0:Int))=_:=h2;rw[h2,ha];exact decide_eq_true hj
 .have h2:scan 0 (qi3 (xs,s,(xs.length:Int))) 0 xs ((),(0:Int))=_:=h2;rw[h2,ha];rfl
theorem zu1:q09 Tryz.prog 155 aLSs dI (λg=>qjn g.1 g.2) (λ_=>[]):=zba _ λg hb _=>by
 obtain⟨a,s⟩:=g;have ha:a.length<=maxLen:=hb.1.1;show qby a s;unfold qby;simp only[El.okL_eq,El.ag_eq];exact⟨trivial,ixJ0 rfl ha trivial⟩
theorem zuk:q09 Tryz.prog 98 aLSs q0l (λg=>decide (g.2∈g.1)) (λ_=>[]):=by
 refine q19 (zbk (λ_=>[]) λg hb _=>?_) λg hb _=>?_
 .obtain⟨xs,t⟩:=g;have hl:xs.length<=maxLen:=hb.1.1;show qc7 xs t;unfold qc7;simp only[El.okL_eq,El.ag_eq];exact⟨trivial,ixJ0 rfl hl trivial⟩
 .obtain⟨xs,t⟩:=g;have h:xs.length<=maxLen:=hb.1.1;show z3c xs t=decide (t∈xs);unfold z3c qs1;simp only[El.ag_eq];have h1:q07 (λg:q7o=>qs2 g.1 g.2.1 g.2.2.1 g.2.2.2.1 g.2.2.2.2) qx3 (xs,(),t,0,false)=_:=zn2 (xs,t) ((),false) rfl h trivial;rw[h1]
  have hm:decide (t∈xs)=xs.any λv=>decide (v=t):=by
   rw[Bool.eq_iff_iff,List.any_eq_true];simp
  rw[hm];rcases search (x:=0) (st:=qi6 (xs,t)) (p:=λv=>decide (v=t)) (r:=λ_ _ _=>((),true)) (λ_ _ _=>rfl) xs ((),false)with ⟨ha,j,hj,a,_,_,h2⟩|⟨ha,h2⟩
  .have h2:scan 0 (qi6 (xs,t)) 0 xs ((),false)=_:=h2;rw[h2];exact ha.symm
  .have h2:scan 0 (qi6 (xs,t)) 0 xs ((),false)=_:=h2;rw[h2];exact ha.symm
def depP(p:Place)(v:Path):Bool:=decide (v.fr=p)&&(decide (v.to=p)&&decide ((v.ss.length:Int)>0))
def depL(l:List Path)(p:Place):Int×Bool:=match l.find? (depP p)with
 |some v=>((v.ss.getD 0 eS.dflt).f,true)
 |none=>(0,false)
def getP(p q:Place)(v:Path):Bool:=decide (v.fr=p)&&decide (v.to=q)
def getL(l:List Path)(p q:Place):List S:=match l.find? (getP p q)with
 |some v=>v.ss
 |none=>[]
theorem zvl:q09 Tryz.prog 52 aLPp dIBo (λg=>depL g.1 g.2) (λ_=>[]):=by
 refine q19 (zcd (λ_=>[]) λg hb _=>?_) λg hb _=>?_
 .obtain⟨xs,t⟩:=g;have hl:xs.length<=maxLen:=hb.1.1;show qcf xs t;unfold qcf;simp only[El.okL_eq,El.ag_eq];exact⟨trivial,ixJ0 rfl hl trivial⟩
 .obtain⟨xs,t⟩:=g;have h:xs.length<=maxLen:=hb.1.1;show z5d xs t=depL xs t;unfold z5d qsq depL;simp only[El.ag_eq];have h1:q07 (λg:q7u=>qsr g.1 g.2.1 g.2.2.1 g.2.2.2.1 g.2.2.2.2.1 g.2.2.2.2.2) qxm (xs,(),t,0,0,false)=_:=zod (xs,t) ((),0,false) rfl h trivial;rw[h1];rcases qft (x:=0) (st:=qib (xs,t)) (p:=depP t) (r:=λv _=>((),(v.ss.getD (0:Nat) eS.dflt).f,true)) (λ_ _ _=>rfl) xs 0 ((),0,false)with ⟨a,j,h2,h3⟩|⟨h2,h3⟩
  .have h3:scan 0 (qib (xs,t)) 0 xs ((),0,false)=_:=h3;rw[h3,h2];rfl
  .have h3:scan 0 (qib (xs,t)) 0 xs ((),0,false)=_:=h3;rw[h3,h2];rfl
def Sm(l:List Path):Prop:=∀e:Nat,(l.getD e ePa.dflt).ss.length<=1000
theorem zuo:q09 Tryz.prog 58 z6z (Rv.D rLS) (λg=>getL g.1 g.2.1 g.2.2) (λg=>[Sm g.1]):=by
 refine q19 (zbn (λg=>[Sm g.1]) λg hb hp=>?_) λg hb hp=>?_
 .obtain⟨xs,p,q⟩:=g;have hl:xs.length<=maxLen:=hb.1.1;have hs:Sm xs:=hp _ (List.mem_cons_self ..);show qc8 xs p q;unfold qc8;simp only[El.okL_eq,El.ag_eq];exact⟨trivial,ixJ0 rfl hl hs,λ_=>⟨Nat.le_refl _,λ_ _=>trivial⟩⟩
 .obtain⟨xs,p,q⟩:=g;have h:xs.length<=maxLen:=hb.1.1;have hs:Sm xs:=hp _ (List.mem_cons_self ..);show z3l xs p q=getL xs p q;unfold z3l qal getL;simp only[El.ag_eq];have h1:q07 (λg:q7p=>qs5 g.1 g.2.1 g.2.2.1 g.2.2.2.1 g.2.2.2.2.1 g.2.2.2.2.2.1 g.2.2.2.2.2.2) qx4 (xs,(),p,(),q,[],0)=_:=zn9 (xs,p,q) ((),(),[]) rfl h hs;rw[h1];rcases qft (x:=0) (st:=qi7 (xs,p,q)) (p:=getP p q) (r:=λv _=>((),(),v.ss)) (λ_ _ _=>rfl) xs 0 ((),(),[])with ⟨a,j,h2,h3⟩|⟨h2,h3⟩
  .have h3:scan 0 (qi7 (xs,p,q)) 0 xs ((),(),[])=_:=h3;rw[h3,h2];rfl
  .have h3:scan 0 (qi7 (xs,p,q)) 0 xs ((),(),[])=_:=h3;rw[h3,h2];rfl
end Go.Proofs.YthnojkbkojpadaaGreat

namespace Go.Proofs.YthnojkbkojpadaaGreat
noncomputable section
open Go.RowKit Go.Sx
abbrev dPaM:DA (Path×List (Place×Int)):=.cons dPa (.one dMP)
abbrev En:Type:=Place×Place
abbrev MPm:Type:=List (Place×Int×Int)×Nat
abbrev MPz:Type:=List (Place×Int)
def qh9(xs:List Path)(n:Int)(i:Int)(_u:Unit)(mp:MPm)(z:MPz)(r:Bool):Nat:=
 q2h (λe=>(xs.getD i.toNat ePa.dflt).fr.node==(mp.fst.getD e (eP.ent eI).dflt).fst.node&&(xs.getD i.toNat ePa.dflt).fr.port==(mp.fst.getD e (eP.ent eI).dflt).fst.port) mp.fst.length (0:Nat)
abbrev q8w:Type:=List Path×Int×Int×Unit×MPm×MPz×Bool
def zhh:LP 1 q8w:=.pair (.slot 1 8 dLP) (.pair (.slot 1 9 dI) (.pair (.slot 1 10 dI) (.pair (.fix 1 4 (.mp 0)) (.pair (.mapO 1 0 true false eP eI) (.pair (.slot 1 2 dMP) (.slot 1 3 q0l))))))
def qxn(xs:List Path)(n:Int)(i:Int)(_u:Unit)(mp:MPm)(z:MPz)(r:Bool):Ex×q8w:=
 bif decide (i<n)then bif !conj ([(xs.getD i.toNat ePa.dflt).fr.node==(xs.getD i.toNat ePa.dflt).to.node]++([(xs.getD i.toNat ePa.dflt).fr.port==(xs.getD i.toNat ePa.dflt).to.port]++[]))then(Ex.normal,ePa.ag xs,n,IntKind.i64.wrap (i+(1:Int)),(),((eP.ent eI).ag mp.fst,mp.snd),(eP.pair eI).ag z,r)else bif (↑(xs.getD i.toNat ePa.dflt).ss.length:Int)==(0:Int)then(Ex.ret,ePa.ag xs,n,i,(),((eP.ent eI).ag mp.fst,mp.snd),[],false)else(Ex.normal,ePa.ag xs,n,IntKind.i64.wrap (i+(1:Int)),(),(((eP.ent eI).lst (bif decide ((qh9 xs n i _u mp z r)<mp.fst.length)then mp.fst.length else mp.fst.length+(1:Nat)) ((eP.ent eI).els mp.fst)).set (qh9 xs n i _u mp z r) ((xs.getD i.toNat ePa.dflt).fr,((xs.getD i.toNat ePa.dflt).ss.getD (0:Nat) eS.dflt).f,bif decide ((qh9 xs n i _u mp z r)<mp.fst.length)then(mp.fst.getD (qh9 xs n i _u mp z r) (eP.ent eI).dflt).snd.snd else(↑mp.snd:Int)),bif decide ((qh9 xs n i _u mp z r)<mp.fst.length)then mp.snd else mp.snd+(1:Nat)),(eP.pair eI).ag z,r)
 else(Ex.exit (0:Nat),ePa.ag xs,n,i,(),((eP.ent eI).ag mp.fst,mp.snd),(eP.pair eI).ag z,r)
def qmz(xs:List Path)(n:Int)(i:Int)(_u:Unit)(mp:MPm)(z:MPz)(r:Bool):Prop:=
 (decide (i<n)=true->((0:Int)<=i/\i<(↑xs.length:Int))/\((!conj ([(xs.getD i.toNat ePa.dflt).fr.node==(xs.getD i.toNat ePa.dflt).to.node]++([(xs.getD i.toNat ePa.dflt).fr.port==(xs.getD i.toNat ePa.dflt).to.port]++[])))=true->ePa.okL xs/\(∀(e:Nat),e<mp.fst.length->True)/\(eP.pair eI).okL z)/\((!conj ([(xs.getD i.toNat ePa.dflt).fr.node==(xs.getD i.toNat ePa.dflt).to.node]++([(xs.getD i.toNat ePa.dflt).fr.port==(xs.getD i.toNat ePa.dflt).to.port]++[])))=false->(((↑(xs.getD i.toNat ePa.dflt).ss.length:Int)==(0:Int))=true->ePa.okL xs/\∀(e:Nat),e<mp.fst.length->True)/\(((↑(xs.getD i.toNat ePa.dflt).ss.length:Int)==(0:Int))=false->((0:Int)<=(0:Int)/\(0:Int)<(↑(xs.getD i.toNat ePa.dflt).ss.length:Int))/\(∀(e:Nat),e<mp.fst.length->(4:Nat)=(4:Nat))/\(∀(e:Nat),e<mp.fst.length->True)/\ePa.okL xs/\True/\(∀(e:Nat),(e<bif decide ((qh9 xs n i _u mp z r)<mp.fst.length)then mp.fst.length else mp.fst.length+(1:Nat))->True)/\(eP.pair eI).okL z)))/\(decide (i<n)=false->ePa.okL xs/\(∀(e:Nat),e<mp.fst.length->True)/\(eP.pair eI).okL z)
theorem zon:((q03 Tryz.prog 59).filter λc=>Nat.beq (lkey c) 3).length=1:=by kernel_rfl
abbrev q7h:Type:=List Path×Int
abbrev qkg:Type:=Unit×MPm×MPz×Bool
def zci(g:q8w):Int×q7h×qkg:=(g.2.2.1,(g.1,g.2.1),(g.2.2.2.1,g.2.2.2.2.1,g.2.2.2.2.2.1,g.2.2.2.2.2.2))
def zch(d:Int×q7h×qkg):q8w:=(d.2.1.1,d.2.1.2,d.1,d.2.2.1,d.2.2.2.1,d.2.2.2.2.1,d.2.2.2.2.2)
abbrev qkf(g:q8w):Ex×q8w:=qxn g.1 g.2.1 g.2.2.1 g.2.2.2.1 g.2.2.2.2.1 g.2.2.2.2.2.1 g.2.2.2.2.2.2
abbrev zhf(g:q8w):Prop:=qmz g.1 g.2.1 g.2.2.1 g.2.2.2.1 g.2.2.2.2.1 g.2.2.2.2.2.1 g.2.2.2.2.2.2
theorem zvr(g:q8w):(qkf g).1=.normal\/(qkf g).1∈([.ret,.exit 0]:List Ex):=by
 unfold qkf qxn
 repeat' (first|(left;rfl)|(right;simp only[cond_true,cond_false];simp;done)|(rw[Bool.cond_eq_ite];split))
abbrev zop(Inv:q8w->List Prop)(m:q8w->Nat):LCon:=q2q [.ret,.exit 0] (loopBody Tryz.prog 59 3) zhh [] 36 Inv qkf m
theorem zcg(Inv:q8w->List Prop)(m:q8w->Nat)(hs:∀g,allP (Inv g)->zhf g)(hg:Goes qkf m λg=>allP (Inv g)):∀b∈q03 Tryz.prog 59,lkey b=3->q06 Tryz.prog b (zop Inv m).g:=q0s (Γ:=(PTab.gamz qqm [] [])) (Λ:=noΛ) (PTab.okz qqm [] []) q0f 100 59 3 36 zhh [] Inv qkf zhf m default [.ret,.exit 0] zon (λrd T B HL HB ds g=>by kernel_rfl) (λrd T B HL HB ds g=>by kernel_rfl) hs hg zvr
abbrev q6y:Type:=List S×Int×Int×Int×Int×Bool
def zfe:LP 1 q6y:=.pair (.slot 1 46 dLS) (.pair (.slot 1 47 dI) (.pair (.slot 1 48 dI) (.pair (.slot 1 5 dI) (.pair (.slot 1 7 dI) (.slot 1 4 q0l)))))
def qoc(xs:List S)(n:Int)(i:Int)(a:Int)(b:Int)(r:Bool):Ex×q6y:=
 bif decide (i<n)then bif q7b (xs.getD i.toNat eS.dflt)!=(0:Int)||((xs.getD i.toNat eS.dflt).f !=a||q3u (xs.getD i.toNat eS.dflt)!=b)then(Ex.ret,eS.ag xs,n,i,a,b,false)else(Ex.normal,eS.ag xs,n,IntKind.i64.wrap (i+(1:Int)),a,b,r)
 else(Ex.exit (0:Nat),eS.ag xs,n,i,a,b,r)
def qlp(xs:List S)(n:Int)(i:Int)(a:Int)(b:Int)(r:Bool):Prop:=
 (decide (i<n)=true->((0:Int)<=i/\i<(↑xs.length:Int))/\((q7b (xs.getD i.toNat eS.dflt)!=(0:Int)||((xs.getD i.toNat eS.dflt).f !=a||q3u (xs.getD i.toNat eS.dflt)!=b))=true->eS.okL xs)/\((q7b (xs.getD i.toNat eS.dflt)!=(0:Int)||((xs.getD i.toNat eS.dflt).f !=a||q3u (xs.getD i.toNat eS.dflt)!=b))=false->eS.okL xs))/\(decide (i<n)=false->eS.okL xs)
theorem zkx:((q03 Tryz.prog 80).filter λc=>Nat.beq (lkey c) 6).length=1:=by kernel_rfl
abbrev q4q:Type:=List S×Int×Int×Int
abbrev qg0:Type:=Bool
def z9i(g:q6y):Int×q4q×qg0:=(g.2.2.1,(g.1,g.2.1,g.2.2.2.1,g.2.2.2.2.1),g.2.2.2.2.2)
def z0f(d:Int×q4q×qg0):q6y:=(d.2.1.1,d.2.1.2.1,d.1,d.2.1.2.2.1,d.2.1.2.2.2,d.2.2)
abbrev qj3(g:q6y):Ex×q6y:=qoc g.1 g.2.1 g.2.2.1 g.2.2.2.1 g.2.2.2.2.1 g.2.2.2.2.2
abbrev zfb(g:q6y):Prop:=qlp g.1 g.2.1 g.2.2.1 g.2.2.2.1 g.2.2.2.2.1 g.2.2.2.2.2
theorem zsk(g:q6y):(qj3 g).1=.normal\/(qj3 g).1∈([.ret,.exit 0]:List Ex):=by
 unfold qj3 qoc
 repeat' (first|(left;rfl)|(right;simp only[cond_true,cond_false];simp;done)|(rw[Bool.cond_eq_ite];split))
abbrev zl0(Inv:q6y->List Prop)(m:q6y->Nat):LCon:=q2q [.ret,.exit 0] (loopBody Tryz.prog 80 6) zfe [] 96 Inv qj3 m
theorem z9h(Inv:q6y->List Prop)(m:q6y->Nat)(hs:∀g,allP (Inv g)->zfb g)(hg:Goes qj3 m λg=>allP (Inv g)):∀b∈q03 Tryz.prog 80,lkey b=6->q06 Tryz.prog b (zl0 Inv m).g:=q0s (Γ:=(PTab.gamz qqm [] [])) (Λ:=noΛ) (PTab.okz qqm [] []) q0f 100 80 6 96 zfe [] Inv qj3 zfb m default [.ret,.exit 0] zkx (λrd T B HL HB ds g=>by kernel_rfl) (λrd T B HL HB ds g=>by kernel_rfl) hs hg zsk
abbrev q8k:Type:=List Path×Int×Int×Unit×List Spot
def zfi:LP 1 q8k:=.pair (.slot 1 9 dLP) (.pair (.slot 1 10 dI) (.pair (.slot 1 11 dI) (.pair (.fix 1 3 (.p 0 0)) (.objRow 1 0 32 34 eSp))))
def qwk(xs:List Path)(n:Int)(i:Int)(_u:Unit)(o:List Spot):Ex×q8k:=
 bif decide (i<n)then bif conj ([(xs.getD i.toNat ePa.dflt).fr.node==(xs.getD i.toNat ePa.dflt).to.node]++([(xs.getD i.toNat ePa.dflt).fr.port==(xs.getD i.toNat ePa.dflt).to.port]++[]))then(Ex.normal,ePa.ag xs,n,IntKind.i64.wrap (i+(1:Int)),(),eSp.lst (min (o.length+(1:Nat)) o.length) (eSp.els o)++List.map (λx=>Spot.mk (xs.getD i.toNat ePa.dflt).fr ((xs.getD i.toNat ePa.dflt).ss.getD (0:Nat) eS.dflt).f) (List.range (o.length+(1:Nat)-o.length)))else(Ex.normal,ePa.ag xs,n,IntKind.i64.wrap (i+(1:Int)),(),eSp.ag o)
 else(Ex.exit (0:Nat),ePa.ag xs,n,i,(),eSp.ag o)
def qlq(xs:List Path)(n:Int)(i:Int)(_u:Unit)(o:List Spot):Prop:=
 (decide (i<n)=true->((0:Int)<=i/\i<(↑xs.length:Int))/\(conj ([(xs.getD i.toNat ePa.dflt).fr.node==(xs.getD i.toNat ePa.dflt).to.node]++([(xs.getD i.toNat ePa.dflt).fr.port==(xs.getD i.toNat ePa.dflt).to.port]++[]))=true->∀(cs:List Nat),(cs.isEmpty=true->((0:Int)<=(0:Int)/\(0:Int)<(↑(xs.getD i.toNat ePa.dflt).ss.length:Int))/\(o.length<=o.length/\True/\o.length+(1:Nat)<=maxLen/\(o.length+(1:Nat))*Tryz.prog.types[(34:Nat)].bytes<=(140737488355328:Nat))/\ePa.okL xs/\o.length+(1:Nat)<=o.length+(1:Nat)/\(∀(e:Nat),e<min (o.length+(1:Nat)) o.length->True)/\(∀(e:Nat),e<o.length+(1:Nat)-o.length->True)/\∀(d:Ex×List Path×Int×Int×Unit×List Spot),(Ex.normal,ePa.ag xs,n,IntKind.i64.wrap (i+(1:Int)),(),eSp.lst (min (o.length+(1:Nat)) o.length) (eSp.els o)++List.map (λx=>Spot.mk (xs.getD i.toNat ePa.dflt).fr ((xs.getD i.toNat ePa.dflt).ss.getD (0:Nat) eS.dflt).f) (List.range (o.length+(1:Nat)-o.length)))=(Ex.normal,ePa.ag xs,n,IntKind.i64.wrap (i+(1:Int)),(),eSp.lst (min (o.length+(1:Nat)) o.length) (eSp.els o)++List.map (λx=>Spot.mk (xs.getD i.toNat ePa.dflt).fr ((xs.getD i.toNat ePa.dflt).ss.getD (0:Nat) eS.dflt).f) (List.range (o.length+(1:Nat)-o.length))))/\(cs.isEmpty=false->((0:Int)<=(0:Int)/\(0:Int)<(↑(xs.getD i.toNat ePa.dflt).ss.length:Int))/\(o.length<=o.length/\True/\o.length+(1:Nat)<=maxLen/\(o.length+(1:Nat))*Tryz.prog.types[(34:Nat)].bytes<=(140737488355328:Nat))/\ePa.okL xs/\o.length+(1:Nat)<=o.length+(1:Nat)/\(∀(e:Nat),e<min (o.length+(1:Nat)) o.length->True)/\(∀(e:Nat),e<o.length+(1:Nat)-o.length->True)/\∀(d:Ex×List Path×Int×Int×Unit×List Spot),(Ex.normal,ePa.ag xs,n,IntKind.i64.wrap (i+(1:Int)),(),eSp.lst (min (o.length+(1:Nat)) o.length) (eSp.els o)++List.map (λx=>Spot.mk (xs.getD i.toNat ePa.dflt).fr ((xs.getD i.toNat ePa.dflt).ss.getD (0:Nat) eS.dflt).f) (List.range (o.length+(1:Nat)-o.length)))=(Ex.normal,ePa.ag xs,n,IntKind.i64.wrap (i+(1:Int)),(),eSp.lst (min (o.length+(1:Nat)) o.length) (eSp.els o)++List.map (λx=>Spot.mk (xs.getD i.toNat ePa.dflt).fr ((xs.getD i.toNat ePa.dflt).ss.getD (0:Nat) eS.dflt).f) (List.range (o.length+(1:Nat)-o.length)))))/\(conj ([(xs.getD i.toNat ePa.dflt).fr.node==(xs.getD i.toNat ePa.dflt).to.node]++([(xs.getD i.toNat ePa.dflt).fr.port==(xs.getD i.toNat ePa.dflt).to.port]++[]))=false->ePa.okL xs/\o.length<=o.length/\∀(e:Nat),e<o.length->True))/\(decide (i<n)=false->ePa.okL xs/\o.length<=o.length/\∀(e:Nat),e<o.length->True)
theorem zl5:((q03 Tryz.prog 15).filter λc=>Nat.beq (lkey c) 4).length=1:=by kernel_rfl
abbrev q8j:Type:=List Path×Int
abbrev qj7:Type:=Unit×List Spot
def z9l(g:q8k):Int×q8j×qj7:=(g.2.2.1,(g.1,g.2.1),(g.2.2.2.1,g.2.2.2.2))
def zl6(d:Int×q8j×qj7):q8k:=(d.2.1.1,d.2.1.2,d.1,d.2.2.1,d.2.2.2)
abbrev qj6(g:q8k):Ex×q8k:=qwk g.1 g.2.1 g.2.2.1 g.2.2.2.1 g.2.2.2.2
abbrev zff(g:q8k):Prop:=qlq g.1 g.2.1 g.2.2.1 g.2.2.2.1 g.2.2.2.2
theorem zso(g:q8k):(qj6 g).1=.normal\/(qj6 g).1∈([.exit 0]:List Ex):=by
 unfold qj6 qwk
 repeat' (first|(left;rfl)|(right;simp only[cond_true,cond_false];simp;done)|(rw[Bool.cond_eq_ite];split))
abbrev zl8(Inv:q8k->List Prop)(m:q8k->Nat):LCon:=q2q [.exit 0] (loopBody Tryz.prog 15 4) zfi [] 33 Inv qj6 m
theorem z9k(Inv:q8k->List Prop)(m:q8k->Nat)(hs:∀g,allP (Inv g)->zff g)(hg:Goes qj6 m λg=>allP (Inv g)):∀b∈q03 Tryz.prog 15,lkey b=4->q06 Tryz.prog b (zl8 Inv m).g:=q0s (Γ:=(PTab.gamz qqm [] [])) (Λ:=noΛ) (PTab.okz qqm [] []) q0f 100 15 4 33 zfi [] Inv qj6 zff m default [.exit 0] zl5 (λrd T B HL HB ds g=>by kernel_rfl) (λrd T B HL HB ds g=>by kernel_rfl) hs hg zso
def zxp:PTab Tryz.prog:=qqm
open Go.RowKit Go.Sx Go.Lp
theorem eqKP(a b:Place):(a.node==b.node&&a.port==b.port)=decide (a=b):=by
 obtain⟨f,k⟩:=a;obtain⟨f',k'⟩:=b;rw[Bool.eq_iff_iff];simp
abbrev dEp:MpE Place Int:=(eP.ent eI).dflt
def hdS(v:Path):Int:=(v.ss.getD (0:Nat) eS.dflt).f
abbrev qga(m:MPm)(v:Path):MPm:=qi2 Path.fr hdS dEp m v
def qic(_:q7h)(b:qkg)(_:Int)(v:Path):Ex×qkg:=bif !decide (v.fr=v.to)then(.normal,b)else bif (v.ss.length:Int)==(0:Int)then(.ret,((),b.2.1,[],false))else(.normal,((),qga b.2.1 v,b.2.2))
def zcj(_:q7h)(_:qkg)(_:Int):Prop:=True
abbrev zoo(g:q8w):List Prop:=ixI (λc:q7h=>c.2) (λc=>c.1) zcj (zci g)
abbrev qxo(g:q8w):Nat:=ixM (λc:q7h=>c.2) (zci g)
theorem zvs:ixP qic (λc:q7h=>c.1) zcj:=λ_ _ _ _ h _ _=>h
abbrev z5g(g:q8w):Ex×q8w:=qxn g.1 g.2.1 g.2.2.1 g.2.2.2.1 g.2.2.2.2.1 g.2.2.2.2.2.1 g.2.2.2.2.2.2
theorem zvp(xs:List Path)(n i:Int)(m:List (MpE Place Int))(clk:Nat)(z:MPz)(r:Bool):qh9 xs n i () (m,clk) z r=kAt m (xs.getD i.toNat ePa.dflt).fr:=q5k _ dEp m λj _=>eqKP _ _
theorem zhg(d:Int×q7h×qkg)(_:allP (ixI (λc:q7h=>c.2) (λc=>c.1) zcj d)):z5g (zch d)=((ixF 0 (λc:q7h=>c.2) (λc=>c.1) ePa.dflt qic d).1,zch (ixF 0 (λc:q7h=>c.2) (λc=>c.1) ePa.dflt qic d).2):=by
 obtain⟨i,⟨xs,n⟩,⟨⟨⟩,⟨m,clk⟩,z,r⟩⟩:=d;show qxn xs n i () (m,clk) z r=_;have hq:=zvp xs n i m clk z r;unfold qxn ixF qic;rw[hq];simp only[El.ag_eq,q7a];generalize (xs.getD i.toNat ePa.dflt)=v;cases decide (i<n)with
 |false=>rfl
 |true=>
  simp only[cond_true];cases decide (v.fr=v.to)with
  |false=>rfl
  |true=>
   simp only[Bool.not_true,cond_false];cases(v.ss.length:Int)==(0:Int)with
   |true=>rfl
   |false=>
    simp only[cond_false];have hle:kAt m v.fr<=m.length:=List.findIdx_le_length;rw[qgf _ _ _ hle];unfold qga qi2;by_cases hj:kAt m v.fr<m.length
    .simp only[hj,decide_true,cond_true,if_true];rfl
    .simp only[hj,decide_false,cond_false,if_false];rfl
theorem zvq:∀b∈q03 Tryz.prog 59,lkey b=3->q06 Tryz.prog b (zop zoo qxo).g:=by
 refine zcg zoo qxo (λg hi=>?_) (q0e (λ_=>rfl) (λ_=>rfl) zhg zvs);obtain⟨xs,n,i,⟨⟩,⟨m,clk⟩,z,r⟩:=g;obtain⟨h1,h2,h3,h4,h5⟩:=hi _ (List.mem_cons_self ..);have h1:n=(xs.length:Int):=h1;have h3:0<=i:=h3;have hle:kAt m (xs.getD i.toNat ePa.dflt).fr<=m.length:=List.findIdx_le_length;show qmz xs n i () (m,clk) z r;unfold qmz;simp only[El.okL_eq,El.ag_eq,q7a,zvp];generalize kAt m (xs.getD i.toNat ePa.dflt).fr=q at hle;refine⟨λhlt=>?_,λ_=>?_⟩
 .have:=rngP i n _ h1 h3 hlt
  repeat' (first|apply And.intro|intro _)
  all_goals first|trivial|rfl|omega|(rename_i hz;have hz:=beq_eq_false_iff_ne.1 hz;omega)
 .repeat' (first|apply And.intro|intro _)
  all_goals first|trivial|rfl
theorem zom(xs:List Path)(z:MPz)(r:Bool)(k2:xs.length<=maxLen):q07 z5g qxo (xs,(xs.length:Int),0,(),([],0),z,r)=((scan 0 (qic (xs,(xs.length:Int))) 0 xs ((),([],0),z,r)).1,zch ((scan 0 (qic (xs,(xs.length:Int))) 0 xs ((),([],0),z,r)).2.1,(xs,(xs.length:Int)),(scan 0 (qic (xs,(xs.length:Int))) 0 xs ((),([],0),z,r)).2.2)):=q0h (φ:=zci) (ψ:=zch) (λ_=>rfl) (λ_=>rfl) zhg zvs (xs,(xs.length:Int)) ((),([],0),z,r) rfl k2 trivial
def q3x(xs:List Path):List Path:=xs.filter λv=>decide (v.fr=v.to)
def noD(v:Path):Bool:=decide (v.fr=v.to)&&(v.ss.length:Int)==(0:Int)
def depM(xs:List Path):MPm:=(q3x xs).foldl qga ([],0)
theorem qn0(c:q7h):∀(xs:List Path)(i:Int)(m:MPm)(z:MPz)(r:Bool),(xs.any noD=true/\∃j m',scan 0 (qic c) i xs ((),m,z,r)=(.ret,j,(),m',[],false))\/(xs.any noD=false/\∃j,scan 0 (qic c) i xs ((),m,z,r)=(.exit 0,j,(),(q3x xs).foldl qga m,z,r))
 | [],i,m,z,r=>.inr ⟨rfl,_,rfl⟩
 |v::xs,i,m,z,r=>by
  simp only[scan,qic,q3x,List.filter_cons,List.any_cons];cases h:decide (v.fr=v.to)with
  |false=>
   have hn:noD v=false:=by unfold noD;rw[h];rfl
   rw[hn,Bool.false_or];exact qn0 c xs (i+1) m z r
  |true=>
   cases h0:(v.ss.length:Int)==(0:Int)with
   |true=>
    have hn:noD v=true:=by unfold noD;rw[h,h0];rfl
    rw[hn,Bool.true_or];exact .inl ⟨rfl,_,_,rfl⟩
   |false=>
    have hn:noD v=false:=by unfold noD;rw[h,h0];rfl
    rw[hn,Bool.false_or];exact qn0 c xs (i+1) (qga m v) z r
def qi0(c:q4q)(b:qg0)(i:Int)(v:S):Ex×qg0:=bif q7b v !=(0:Int)||(v.f !=c.2.2.1||q3u v !=c.2.2.2)then(.ret,false)else(.normal,b)
def z0g(c:q4q)(b:qg0)(i:Int):Prop:=True
abbrev zkz(g:q6y):List Prop:=ixI (λc:q4q=>c.2.1) (λc:q4q=>c.1) z0g (z9i g)
abbrev qr4(g:q6y):Nat:=ixM (λc:q4q=>c.2.1) (z9i g)
theorem zsl:ixP qi0 (λc:q4q=>c.1) z0g:=λ_ _ _ _ h _ _=>h
abbrev zfc(g:q6y):Ex×q6y:=qoc g.1 g.2.1 g.2.2.1 g.2.2.2.1 g.2.2.2.2.1 g.2.2.2.2.2
theorem zfd(d:Int×q4q×qg0)(hi:allP (ixI (λc:q4q=>c.2.1) (λc:q4q=>c.1) z0g d)):zfc (z0f d)=((ixF 0 (λc:q4q=>c.2.1) (λc:q4q=>c.1) eS.dflt qi0 d).1,z0f (ixF 0 (λc:q4q=>c.2.1) (λc:q4q=>c.1) eS.dflt qi0 d).2):=by
 obtain⟨i,⟨xs,n,a,b⟩,r⟩:=d;show qoc xs n i a b r=_;unfold qoc ixF qi0;simp only[El.ag_eq];cases decide (i<n)with
 |false=>rfl
 |true=>
  simp only[cond_true];generalize (q7b (xs.getD i.toNat eS.dflt)!=(0:Int)||((xs.getD i.toNat eS.dflt).f !=a||q3u (xs.getD i.toNat eS.dflt)!=b))=z;cases z<;>rfl
theorem zsj:∀b∈q03 Tryz.prog 80,lkey b=6->q06 Tryz.prog b (zl0 zkz qr4).g:=by
 refine z9h zkz qr4 (λg hi=>?_) (q0e (λ_=>rfl) (λ_=>rfl) zfd zsl);obtain⟨xs,n,i,a,b,r⟩:=g;obtain⟨h1,h2,h3,h4,h5⟩:=hi _ (List.mem_cons_self ..);have h1:n=(xs.length:Int):=h1;have h3:0<=i:=h3;have h5:True:=h5;show qlp xs n i a b r;unfold qlp;simp only[decide_eq_true_eq,decide_eq_false_iff_not];have k0:∀e:Nat,e<xs.length->eS.Ok (eS.els xs e):=λe _=>eS.ok_els xs e;clear hi
 repeat' (first|exact k0|apply And.intro|intro _)
 all_goals omega
theorem zkw(c:q4q)(b:qg0)(k1:c.2.1=((c.1).length:Int))(k2:(c.1).length<=maxLen)(k3:z0g c b 0):q07 zfc qr4 (z0f (0,c,b))=((scan 0 (qi0 c) 0 (c.1) b).1,z0f ((scan 0 (qi0 c) 0 (c.1) b).2.1,c,(scan 0 (qi0 c) 0 (c.1) b).2.2)):=q0h (φ:=z9i) (ψ:=z0f) (λ_=>rfl) (λ_=>rfl) zfd zsl c b k1 k2 k3
def ltM7:LTab Tryz.prog:=(LTab.nil.cons 80 6 (zl0 zkz qr4) zsj)
theorem zz0(h:34<Tryz.prog.types.size):(Tryz.prog.types[(34:Nat)]'h).bytes=24:=by kernel_rfl
abbrev K30:Nat:=1000000
def qwj(_:q8j)(b:qj7)(_:Int)(v:Path):Ex×qj7:=(.normal,((),bif decide (v.fr=v.to)then b.2++[Spot.mk v.fr (hdS v)]else b.2))
def Hd(l:List Path):Prop:=∀e:Nat,e<l.length->(l.getD e ePa.dflt).fr=(l.getD e ePa.dflt).to->0<(l.getD e ePa.dflt).ss.length
def z9m(c:q8j)(b:qj7)(i:Int):Prop:=Hd c.1/\c.1.length<=K30/\(b.2.length:Int)<=i
abbrev zl7(g:q8k):List Prop:=ixI (λc:q8j=>c.2) (λc=>c.1) z9m (z9l g)
abbrev z0i(g:q8k):Nat:=ixM (λc:q8j=>c.2) (z9l g)
theorem zsp:ixP qwj (λc:q8j=>c.1) z9m:=λc b i v h _ _=>by
 refine⟨h.1,h.2.1,?_⟩;have:=h.2.2;show((bif decide (v.fr=v.to)then b.2++[Spot.mk v.fr (hdS v)]else b.2).length:Int)<=i+1;cases decide (v.fr=v.to)
 .show(b.2.length:Int)<=i+1;omega
 .show((b.2++[_]).length:Int)<=i+1;rw[List.length_append];simp only[List.length_cons,List.length_nil];omega
abbrev zfg(g:q8k):Ex×q8k:=qwk g.1 g.2.1 g.2.2.1 g.2.2.2.1 g.2.2.2.2
theorem zfh(d:Int×q8j×qj7)(_:allP (ixI (λc:q8j=>c.2) (λc=>c.1) z9m d)):zfg (zl6 d)=((ixF 0 (λc:q8j=>c.2) (λc=>c.1) ePa.dflt qwj d).1,zl6 (ixF 0 (λc:q8j=>c.2) (λc=>c.1) ePa.dflt qwj d).2):=by
 obtain⟨i,⟨xs,n⟩,⟨⟨⟩,o⟩⟩:=d;show qwk xs n i () o=_;unfold qwk ixF qwj;simp only[El.ag_eq,q7a,qun];generalize (xs.getD i.toNat ePa.dflt)=v;cases decide (i<n)with
 |false=>rfl
 |true=>
  cases decide (v.fr=v.to)<;>rfl
theorem zsn:∀b∈q03 Tryz.prog 15,lkey b=4->q06 Tryz.prog b (zl8 zl7 z0i).g:=by
 refine z9k zl7 z0i (λg hi=>?_) (q0e (λ_=>rfl) (λ_=>rfl) zfh zsp);obtain⟨xs,n,i,⟨⟩,o⟩:=g;obtain⟨h1,h2,h3,h4,h5,h6,h7⟩:=hi _ (List.mem_cons_self ..);have h1:n=(xs.length:Int):=h1;have h2:xs.length<=maxLen:=h2;have h3:0<=i:=h3;have h4:i<=(xs.length:Int):=h4;have h5:Hd xs:=h5;have h6:xs.length<=1000000:=h6;have h7:(o.length:Int)<=i:=h7;have hm:o.length+1<=maxLen:=by unfold maxLen;omega
 show qlq xs n i () o;unfold qlq;simp only[El.okL_eq,El.ag_eq,q7a,zz0];refine⟨λhlt=>?_,λ_=>?_⟩
 .have hr:=rngP i n _ h1 h3 hlt;have h5:=h5 i.toNat (by omega);generalize (xs.getD i.toNat ePa.dflt)=v at h5;refine⟨hr,λhq=>?_,λ_=>⟨trivial,Nat.le_refl _,λ_ _=>trivial⟩⟩;have h5:=h5 (of_decide_eq_true hq)
  repeat' (first|apply And.intro|intro _)
  all_goals first|trivial|rfl|omega
 .exact⟨trivial,Nat.le_refl _,λ_ _=>trivial⟩
theorem zl4(xs:List Path)(k2:xs.length<=K30)(hd:Hd xs):q07 zfg z0i (xs,(xs.length:Int),0,(),[])=(.exit 0,xs,(xs.length:Int),(xs.length:Int),(),(q3x xs).map λv=>Spot.mk v.fr (hdS v)):=by
 have h:=q0h (φ:=z9l) (ψ:=zl6) (λ_=>rfl) (λ_=>rfl) zfh zsp (xs,(xs.length:Int)) ((),[]) rfl (by show xs.length<=maxLen;unfold maxLen;unfold K30 at k2;omega) ⟨hd,k2,Int.le_refl _⟩
 have hs:∀(l:List Path)(i:Int)(o:List Spot),scan 0 (qwj (xs,(xs.length:Int))) i l ((),o)=(.exit 0,i+l.length,(),o++(q3x l).map λv=>Spot.mk v.fr (hdS v)):=by
  intro l
  induction l with
  |nil=>intro i o;show(Ex.exit 0,i,(),o)=_;simp[q3x]
  |cons v l ih=>
   intro i o;simp only[scan,qwj,q3x,List.filter_cons];have ih:=ih (i+1);unfold q3x at ih;cases h:decide (v.fr=v.to)with
   |false=>
    rw[cond_false];rw[ih o];simp only[List.length_cons,Bool.false_eq_true,if_false];rw[show i+1+(l.length:Int)=i+((l.length+1:Nat):Int) by omega]
   |true=>
    rw[cond_true];rw[ih (o++[_])];simp only[List.length_cons,if_true,List.map_cons,List.append_assoc,List.singleton_append];rw[show i+1+(l.length:Int)=i+((l.length+1:Nat):Int) by omega]
 have h:=h.trans (by
  show _=_;rw[hs xs 0 []])
 rw[Int.zero_add]at h;exact h
def qbw(v:Path):En:=(v.fr,v.to)
def zjf:PTab Tryz.prog:=zxp.cons 18 (q1y aLSS q0l (λg=>decide (g.1=g.2)) (λ_=>[])) (q0k zvj puB)
def ltM9:LTab Tryz.prog:=(ltM7.cons 59 3 (zop zoo qxo) zvq).cons 15 4 (zl8 zl7 z0i) zsn
abbrev zm9:Lam:=ltM9.lam
theorem quv:∀f k L,zm9 f k=some L->∀b∈q03 Tryz.prog f,lkey b=k->q06 Tryz.prog b L.g:=ltM9.ok
abbrev aLPo:DA (List Path):=.one dLP
abbrev dMB:Dv (List (Place×Int)×Bool):=.tup (.cons dMP (.one q0l))
def q6q(l:List Path):Ex×
 q8w:=
 q07 (λg=>qxn g.fst g.snd.fst g.snd.snd.fst g.snd.snd.snd.fst g.snd.snd.snd.snd.fst g.snd.snd.snd.snd.snd.fst g.snd.snd.snd.snd.snd.snd) qxo (ePa.ag l,(↑l.length:Int),(0:Int),(),(List.map (λx=>(Place.mk (0:Int) (0:Int),(0:Int),(0:Int))) (List.range (0:Nat)),(0:Nat)),[],false)
def zoj(l:List Path):Dv.T dMB:=
 bif exB Ex.ret (q6q l).fst then((eP.pair eI).ag (q6q l).snd.snd.snd.snd.snd.snd.fst,(q6q l).snd.snd.snd.snd.snd.snd.snd)
 else((eP.pair eI).lst (q6q l).snd.snd.snd.snd.snd.fst.fst.length λe=>List.take (3:Nat) ((ElE.fn ((eP.ent eI).els (q6q l).snd.snd.snd.snd.snd.fst.fst)).at e),decide ((↑(q6q l).snd.snd.snd.snd.snd.fst.fst.length:Int)<=(128:Int)))
def qfc(l:List Path):Prop:=
 ePa.okL l/\(∀(e:Nat),e<(0:Nat)->True)/\Lp.ixJ (λc=>c.snd) (λc=>c.fst) zcj (zci (ePa.ag l,(↑l.length:Int),(0:Int),(),(List.map (λx=>(Place.mk (0:Int) (0:Int),(0:Int),(0:Int))) (List.range (0:Nat)),(0:Nat)),[],false))/\(exB Ex.ret (q6q l).fst=true->(eP.pair eI).okL (q6q l).snd.snd.snd.snd.snd.snd.fst)/\(exB Ex.ret (q6q l).fst=false->∀(e:Nat),e<(q6q l).snd.snd.snd.snd.snd.fst.fst.length->(eP.pair eI).Ok (List.take (3:Nat) ((ElE.fn ((eP.ent eI).els (q6q l).snd.snd.snd.snd.snd.fst.fst)).at e)))
theorem zoi(pre:DA.T aLPo->List Prop)(h:∀g,DA.bd aLPo g->(∀p∈pre g,p)->qfc g):q09 Tryz.prog 59 aLPo dMB (λg=>zoj g) pre:=q0o (Γ:=(PTab.gamz zjf [] [])) (Λ:=zm9) (PTab.okz zjf [] []) quv 100 default (λg=>qfc g) (λg=>by kernel_rfl) (λg=>by kernel_rfl) h
def zr8:PTab Tryz.prog:=zjf
end
end Go.Proofs.YthnojkbkojpadaaGreat

namespace Go.Proofs.YthnojkbkojpadaaGreat.Su
noncomputable section
open Go.RowKit Go.Sx
abbrev C:=Bool×Int
abbrev CZ:=Bool×Bool×Int
def symZ(s:S)(k n:Nat):List CZ:=
 (match k with
  |0=>[]
  |j+1=>List.replicate j (true,true,(0:Int))++[(true,false,s.a)])++(s.p.take n).map λx=>(false,false,x)
def symC(s:S)(k n:Nat):List C:=
 (match k with
  |0=>[]
  |j+1=>List.replicate j (true,(0:Int))++[(true,s.a)])++(s.p.take n).map λx=>(false,x)
def leqT:List CZ->List CZ->Tr Bool
 |(s,z,n)::r,(s',z',m)::r'=>bif s&&!s' then .br (m !=1048576) (.ret false) (leqT r r')else bif z&&z' then leqT r r' else .br (decide (n>m)) (.ret false) (leqT r r')
 |_,_=>.ret true
def qr0:List CZ->List CZ->Tr Bool
 |(s,z,n)::r,(s',z',m)::r'=>bif s&&!s' then .br (!m==1048576) (.ret false) (qr0 r r')else bif z&&z' then qr0 r r' else .br (!decide (n<=m)) (.ret false) (qr0 r r')
 |_,_=>.ret true
def le1(x y:C):Bool:=bif x.1&&!y.1 then y.2==1048576 else decide (x.2<=y.2)
def leB:List C->List C->Bool
 |x::r,y::r'=>le1 x y&&leB r r'
 |_,_=>true
def symS(s:S):List C:=symC s s.k.toNat s.n.toNat
def leqC(a b:S):Bool:=q2y a&&(q2y b&&(a.f==b.f&&(a.k+a.n==b.k+b.n&&leB (symS a) (symS b))))
def unZ(x:CZ):C:=(x.1,x.2.2)
def ZOk(l:List CZ):Prop:=∀x∈l,x.2.1=true->x.2.2=0
theorem qda:∀(l l':List CZ),ZOk l->ZOk l'->(leqT l l').Holds (·=leB (l.map unZ) (l'.map unZ))
 | [],[],_,_=>rfl
 | [],_::_,_,_=>rfl
 |_::_,[],_,_=>rfl
 |(s,z,n)::r,(s',z',m)::r',h,h'=>by
  have ih:=qda r r' (λx hx=>h x (List.mem_cons_of_mem _ hx)) (λx hx=>h' x (List.mem_cons_of_mem _ hx));simp only[leqT,List.map_cons,leB,unZ,le1];cases hs:(s&&!s')with
  |true=>
   simp only[cond_true];refine⟨λhc=>?_,λhc=>?_⟩
   .show false=_;rw[show(m==1048576)=false by simpa [bne]using hc];rfl
   .rw[show(m==1048576)=true by simpa [bne]using hc];simpa using ih
  |false=>
   simp only[cond_false];cases hz:(z&&z')with
   |true=>
    simp only[Bool.and_eq_true]at hz;have h1:=h _ (List.mem_cons_self ..) hz.1;have h2:=h' _ (List.mem_cons_self ..) hz.2;simp only at h1 h2;subst h1;subst h2;simpa using ih
   |false=>
    simp only[cond_false];refine⟨λhc=>?_,λhc=>?_⟩
    .show false=_;rw[decide_eq_false (by have:=of_decide_eq_true hc;omega)];rfl
    .rw[decide_eq_true (p:=n<=m) (by have:=of_decide_eq_false hc;omega)];simpa using ih
theorem z8z:∀(l l':List CZ),(qr0 l l').Holds (·=leB (l.map unZ) (l'.map unZ))↔(leqT l l').Holds (·=leB (l.map unZ) (l'.map unZ)):=λl l'=>by
 have:qr0 l l'=leqT l l':=by
  induction l generalizing l' with
  |nil=>cases l'<;>rfl
  |cons x r ih=>
   obtain⟨s,z,n⟩:=x;cases l' with
   |nil=>rfl
   |cons y r'=>
    obtain⟨s',z',m⟩:=y;simp only[qr0,leqT,ih];have e1:(!m==1048576)=(m !=1048576):=rfl
    have e2:(!decide (n<=m))=decide (n>m):=by
     by_cases h:n<=m
     .rw[decide_eq_true h,decide_eq_false (by omega)];rfl
     .rw[decide_eq_false h,decide_eq_true (by omega)];rfl
    rw[e1,e2]
 rw[this]
theorem ql4(s:S)(k n:Nat):ZOk (symZ s k n):=by
 intro x hx hz;unfold symZ at hx;rcases List.mem_append.1 hx with h|h
 .cases k with
  |zero=>simp at h
  |succ j=>
   simp only[List.mem_append,List.mem_replicate,List.mem_singleton]at h;rcases h with ⟨_,rfl⟩|rfl
   .rfl
   .cases hz
 .obtain⟨y,_,rfl⟩:=List.mem_map.1 h;cases hz
theorem ql5(s:S)(k n:Nat):(symZ s k n).map unZ=symC s k n:=by
 unfold symZ symC;cases k<;>simp[unZ,Function.comp_def]
abbrev g1:Gam:=tab2.gamz [] [(186,0,5),(224,0,5),(199,4,5)]
def zth(a b:S)(k n k' n':Nat):Tr Bool:=
 .br (!q2y (litS a k n)||(!q2y (litS b k' n')||a.f !=b.f)) (.ret false) (leqT (symZ a k n) (symZ b k' n'))
def zey(a b:S)(k n k' n':Nat):Tr Bool:=
 .br (q1f (litS a k n)!=0||(q1f (litS b k' n')!=0||a.f !=b.f)) (.ret false) (qr0 (symZ a k n) (symZ b k' n'))
set_option maxHeartbeats 4000000 in
theorem zaq(a b:S)(k n k' n':Nat)(h1:k+n<=4)(h2:k'+n'=k+n):q21 Tryz.prog g1 noΛ 100 186 [encK a k n,encK b k' n'] q0l=zth a b k n k' n':=by
 rcases four (show k<=4 by omega)with rfl|rfl|rfl|rfl|rfl<;>rcases four (show n<=4 by omega)with rfl|rfl|rfl|rfl|rfl<;>first
  |(exfalso;omega)
  |(rcases four (show k'<=4 by omega)with rfl|rfl|rfl|rfl|rfl<;>first
   |(exfalso;omega)
   |(rcases four (show n'<=4 by omega)with rfl|rfl|rfl|rfl|rfl<;>first
    |(exfalso;omega)
    |as_aux_lemma=>kernel_rfl))
set_option maxHeartbeats 4000000 in
theorem qzu(a b:S)(k n k' n':Nat)(h1:k+n<=4)(h2:k'+n'=k+n):q21 Tryz.prog g1 noΛ 100 199 [encK a k n,encK b k' n'] q0l=zey a b k n k' n':=by
 rcases four (show k<=4 by omega)with rfl|rfl|rfl|rfl|rfl<;>rcases four (show n<=4 by omega)with rfl|rfl|rfl|rfl|rfl<;>first
  |(exfalso;omega)
  |(rcases four (show k'<=4 by omega)with rfl|rfl|rfl|rfl|rfl<;>first
   |(exfalso;omega)
   |(rcases four (show n'<=4 by omega)with rfl|rfl|rfl|rfl|rfl<;>first
    |(exfalso;omega)
    |as_aux_lemma=>kernel_rfl))
theorem ztg(a b:S):q21 Tryz.prog g1 noΛ 100 186 (aSS.enc (a,b)) q0l=.br (!q2y a||(!q2y b||(a.f !=b.f||w64 (a.k+a.n)!=w64 (b.k+b.n)))) (.ret false) (els (q21 Tryz.prog g1 noΛ 100 186 (aSS.enc (a,b)) q0l)):=by kernel_rfl
theorem zkh(a b:S):q21 Tryz.prog g1 noΛ 100 199 (aSS.enc (a,b)) q0l=.br (q1f a !=0||(q1f b !=0||(a.f !=b.f||w64 (a.k+a.n)!=w64 (b.k+b.n)))) (.ret false) (els (q21 Tryz.prog g1 noΛ 100 199 (aSS.enc (a,b)) q0l)):=by kernel_rfl
theorem qjl(a b:S):(leqC a b=false/\(!q2y a||(!q2y b||(a.f !=b.f||w64 (a.k+a.n)!=w64 (b.k+b.n))))=true)\/
  (q2y a=true/\q2y b=true/\a.f=b.f/\a.k+a.n=b.k+b.n/\leqC a b=leB (symS a) (symS b)):=by
 cases ha:q2y a with
 |false=>exact .inl ⟨by simp[leqC,ha],rfl⟩
 |true=>
  cases hb:q2y b with
  |false=>exact .inl ⟨by simp[leqC,hb],rfl⟩
  |true=>
   have fa:=((q68 a).1 ha).1;have fb:=((q68 b).1 hb).1;have wa:w64 (a.k+a.n)=a.k+a.n:=wr (by omega);have wb:w64 (b.k+b.n)=b.k+b.n:=wr (by omega);rw[wa,wb];by_cases hf:a.f=b.f
   .by_cases he:a.k+a.n=b.k+b.n
    .exact .inr ⟨rfl,rfl,hf,he,by simp[leqC,ha,hb,hf,he]⟩
    .exact .inl ⟨by simp[leqC,he],by simp[he]⟩
   .exact .inl ⟨by simp[leqC,hf],by simp[hf]⟩
theorem zm6:q09 Tryz.prog 186 aSS q0l (λg=>leqC g.1 g.2) (λ_=>[]):=by
 refine q3o (Γ:=g1) (Λ:=noΛ) (tab2.okz [] _) q0f 100 λg _ _=>?_;obtain⟨a,b⟩:=g;show∃args,(∀n ρ x,SV.fits n ρ (aSS.enc (a,b)) x->SV.fits n ρ args x)/\(q21 Tryz.prog g1 noΛ 100 186 args q0l).Holds (·=leqC a b);rcases qjl a b with ⟨h1,h2⟩|⟨ha,hb,hf,he,h⟩
 .refine⟨_,λ_ _ _ h=>h,?_⟩;rw[ztg,h2];generalize els (q21 Tryz.prog g1 noΛ 100 186 (aSS.enc (a,b)) q0l)=r;exact⟨λ_=>h1.symm,λhc=>by cases hc⟩
 .obtain⟨ka,na,h4⟩:=sizes ((q68 a).1 ha);obtain⟨kb,nb,_⟩:=sizes ((q68 b).1 hb);refine⟨[encK a a.k.toNat a.n.toNat,encK b b.k.toNat b.n.toNat],λ_ _ _ h=>qpr ka na kb nb h,?_⟩;rw[zaq a b _ _ _ _ h4 (by omega)];unfold zth;rw[qah ka na,qah kb nb,ha,hb,hf,h];have:=qda _ _ (ql4 a a.k.toNat a.n.toNat) (ql4 b b.k.toNat b.n.toNat);rw[ql5,ql5]at this;exact⟨λhc=>by simp at hc,λ_=>this⟩
theorem z90:q09 Tryz.prog 199 aSS q0l (λg=>leqC g.1 g.2) (λ_=>[]):=by
 refine q3o (Γ:=g1) (Λ:=noΛ) (tab2.okz [] _) q0f 100 λg _ _=>?_;obtain⟨a,b⟩:=g;show∃args,(∀n ρ x,SV.fits n ρ (aSS.enc (a,b)) x->SV.fits n ρ args x)/\(q21 Tryz.prog g1 noΛ 100 199 args q0l).Holds (·=leqC a b);rcases qjl a b with ⟨h1,h2⟩|⟨ha,hb,hf,he,h⟩
 .refine⟨_,λ_ _ _ h=>h,?_⟩;rw[zkh,qlm,qlm,h2];generalize els (q21 Tryz.prog g1 noΛ 100 199 (aSS.enc (a,b)) q0l)=r;exact⟨λ_=>h1.symm,λhc=>by cases hc⟩
 .obtain⟨ka,na,h4⟩:=sizes ((q68 a).1 ha);obtain⟨kb,nb,_⟩:=sizes ((q68 b).1 hb);refine⟨[encK a a.k.toNat a.n.toNat,encK b b.k.toNat b.n.toNat],λ_ _ _ h=>qpr ka na kb nb h,?_⟩;rw[qzu a b _ _ _ _ h4 (by omega)];unfold zey;rw[qah ka na,qah kb nb,qlm,qlm,ha,hb,hf,h];have:=(z8z _ _).2 (qda _ _ (ql4 a a.k.toNat a.n.toNat) (ql4 b b.k.toNat b.n.toNat));rw[ql5,ql5]at this;exact⟨λhc=>by simp at hc,λ_=>this⟩
def tab7:PTab Tryz.prog:=(q6g.cons 186 (q1y aSS q0l (λg=>leqC g.1 g.2) (λ_=>[])) (q0k zm6 puB)).cons 199 (q1y aSS q0l (λg=>leqC g.1 g.2) (λ_=>[])) (q0k z90 puB)
def q36(a:S)(b:S):Dv.T q0l:=
 !conj ([a.f==b.f]++([a.k==b.k]++([a.a==b.a]++([a.n==b.n]++([a.p0==b.p0]++([a.p1==b.p1]++([a.p2==b.p2]++([a.p3==b.p3]++[])))++[])))))&&(leqC a b&&(!leqC b a||decide (q1u a b<(0:Int))))
theorem zm5:q09 Tryz.prog 151 aSS q0l (λg=>q36 g.1 g.2) (λ_=>[]):=q0g (Γ:=(PTab.gamz tab7 [] [])) (Λ:=noΛ) (PTab.okz tab7 [] []) q0f 100 default (λg=>by kernel_rfl) (λg=>by kernel_rfl)
def q43(a:S)(b:S):Dv.T q0l:=
 leqC a b&&(!leqC b a||decide (q1w a b<(0:Int)))
theorem z7f:q09 Tryz.prog 162 aSS q0l (λg=>q43 g.1 g.2) (λ_=>[]):=q0g (Γ:=(PTab.gamz tab7 [] [])) (Λ:=noΛ) (PTab.okz tab7 [] []) q0f 100 default (λg=>by kernel_rfl) (λg=>by kernel_rfl)
def qfr:PTab Tryz.prog:=((tab7).cons 151 (q1y aSS q0l (λg=>q36 g.1 g.2) (λ_=>[])) (q0k zm5 puB)).cons 162 (q1y aSS q0l (λg=>q43 g.1 g.2) (λ_=>[])) (q0k z7f puB)
abbrev qek:Type:=List S×S×Int×Int×Int
def zgj:LP 0 qek:=.pair (.slot 0 0 dLS) (.pair (.slot 0 1 (dFnE 150 eS)) (.pair (.slot 0 7 dI) (.pair (.slot 0 8 dI) (.slot 0 4 dI))))
def qgu(xs:List S)(s:S)(n:Int)(i:Int)(r:Int):Ex×qek:=
 bif decide (i<n)then bif q36 (xs.getD i.toNat eS.dflt) s then(Ex.ret,eS.ag xs,s,n,i,i)else(Ex.normal,eS.ag xs,s,n,IntKind.i64.wrap (i+(1:Int)),r)
 else(Ex.exit (0:Nat),eS.ag xs,s,n,i,r)
def qf9(xs:List S)(s:S)(n:Int)(i:Int)(r:Int):Prop:=
 (decide (i<n)=true->((0:Int)<=i/\i<(↑xs.length:Int))/\(q36 (xs.getD i.toNat eS.dflt) s=true->eS.okL xs)/\(q36 (xs.getD i.toNat eS.dflt) s=false->eS.okL xs))/\(decide (i<n)=false->eS.okL xs)
theorem zmz:((q03 Tryz.prog 109).filter λc=>Nat.beq (lkey c) 2).length=1:=by kernel_rfl
theorem zuj(g:qek):(qgu g.1 g.2.1 g.2.2.1 g.2.2.2.1 g.2.2.2.2).1=.normal\/(qgu g.1 g.2.1 g.2.2.1 g.2.2.2.1 g.2.2.2.2).1∈([.ret,.exit 0]:List Ex):=by
 unfold qgu
 repeat' (first|(left;rfl)|(right;simp only[cond_true,cond_false];simp;done)|(rw[Bool.cond_eq_ite];split))
abbrev zn1(Inv:qek->List Prop)(m:qek->Nat):LCon:=q2q [.ret,.exit 0] (loopBody Tryz.prog 109 2) zgj [] 19 Inv (λg=>qgu g.1 g.2.1 g.2.2.1 g.2.2.2.1 g.2.2.2.2) m
theorem zbi(Inv:qek->List Prop)(m:qek->Nat)(hs:∀g,allP (Inv g)->qf9 g.1 g.2.1 g.2.2.1 g.2.2.2.1 g.2.2.2.2)(hg:Goes (λg:qek=>qgu g.1 g.2.1 g.2.2.1 g.2.2.2.1 g.2.2.2.2) m λg=>allP (Inv g)):∀b∈q03 Tryz.prog 109,lkey b=2->q06 Tryz.prog b (zn1 Inv m).g:=q0s (Γ:=(PTab.gamz qfr [] [])) (Λ:=noΛ) (PTab.okz qfr [] []) q0f 100 109 2 19 zgj [] Inv (λg=>qgu g.1 g.2.1 g.2.2.1 g.2.2.2.1 g.2.2.2.2) (λg=>qf9 g.1 g.2.1 g.2.2.1 g.2.2.2.1 g.2.2.2.2) m default [.ret,.exit 0] zmz (λrd T B HL HB ds g=>by kernel_rfl) (λrd T B HL HB ds g=>by kernel_rfl) hs hg zuj
open Go.RowKit Go.Sx Go.Lp
def eqS(a b:S):Bool:=decide (a=b)
theorem qkm(a b:S):conj ([a.f==b.f]++([a.k==b.k]++([a.a==b.a]++([a.n==b.n]++([a.p0==b.p0]++([a.p1==b.p1]++([a.p2==b.p2]++([a.p3==b.p3]++[])))++[])))))=eqS a b:=by
 obtain⟨f,k,c,n,p0,p1,p2,p3⟩:=a;obtain⟨f',k',c',n',p0',p1',p2',p3'⟩:=b;unfold eqS;simp[conj];rw[Bool.eq_iff_iff];simp
theorem zgi(g:qek):qgu g.1 g.2.1 g.2.2.1 g.2.2.2.1 g.2.2.2.2=fiF eS.dflt (λs x=>q36 x s) g:=by
 unfold qgu;simp only[El.ag_eq,El.okL_eq];rfl
theorem q3j(xs:List S):∀e:Nat,e<xs.length->eS.Ok (eS.els xs e):=λe _=>eS.ok_els xs e
theorem qc0:∀b∈q03 Tryz.prog 109,lkey b=2->q06 Tryz.prog b (zn1 fiI fiM).g:=by
 refine zbi fiI fiM (λg hi=>?_) ?_
 .obtain⟨xs,s,n,i,r⟩:=g;obtain⟨h1,h2,h3,h4⟩:=hi _ (List.mem_cons_self ..);simp only at h1 h2 h3 h4;show qf9 xs s n i r;unfold qf9;simp only[El.ag_eq,El.okL_eq];refine⟨λhc=>?_,λ_=>trivial⟩;have hc:i<n:=of_decide_eq_true hc;exact⟨⟨h3,by omega⟩,λ_=>trivial,λ_=>trivial⟩
 .have e:(λg:qek=>qgu g.1 g.2.1 g.2.2.1 g.2.2.2.1 g.2.2.2.2)=fiF eS.dflt (λs x=>q36 x s):=funext zgi;rw[e];exact z4d _ _
def lt20:LTab Tryz.prog:=(LTab.nil.cons 109 2 (zn1 fiI fiM) qc0)
abbrev ztu:Lam:=lt20.lam
theorem zay:∀f k L,ztu f k=some L->∀b∈q03 Tryz.prog f,lkey b=k->q06 Tryz.prog b L.g:=lt20.ok
abbrev aLE:DA (List S×S):=.cons dLS (.one (dFnE 150 eS))
end
end Go.Proofs.YthnojkbkojpadaaGreat.Su
