/- Reach: what changes bring, with what was put down before an error: plain. -/
import Derived.Test.YthnojkbkojpadaaGreatZG13746f4c
import Derived.Test.YthnojkbkojpadaaGreatZG0687ac95
import Derived.Test.YthnojkbkojpadaaGreatZG0800afda
import Derived.Test.YthnojkbkojpadaaGreatZG07857b98
import Derived.Test.YthnojkbkojpadaaGreatZG11c88abd
import Derived.Test.YthnojkbkojpadaaGreatZG09307a07
set_option maxRecDepth 100000
set_option linter.unusedVariables false
set_option linter.unusedSimpArgs false
set_option linter.constructorNameAsVariable false
set_option linter.all false

namespace Go.Proofs.YthnojkbkojpadaaGreat
noncomputable section
open Go.RowKit Go.Sx Go.Lp
def apP (t:T):List S→List T
 | []=>[]
 | s :: r=>bif (q0h s t).2 != (0:Int) then [] else (q0h s t).1 :: apP t r
theorem qst (t:T):∀ l:List S,(apP t l).length≤l.length
 | []=>Nat.le_refl _
 | s :: r=>by
  have ih:=qst t r
  unfold apP
  cases (q0h s t).2 != (0:Int) with
  | true=>exact Nat.zero_le _
  | false=>exact Nat.succ_le_succ ih
theorem qyw (t:T):∀ l:List S,(apL t l).2=0→(apL t l).1=apP t l
 | [],_=>rfl
 | s :: r,h=>by
  unfold apL at h ⊢
  unfold apP
  cases h1:(q0h s t).2 != (0:Int) with
  | true=>
   rw[h1] at h
   rw[cond_true] at h
   exact absurd h (bne_iff_ne.1 h1)
  | false=>
   rw[h1] at h
   rw[cond_false] at h
   cases h2:(apL t r).2 != (0:Int) with
   | true=>
    rw[h2] at h
    exact absurd h (bne_iff_ne.1 h2)
   | false=>
    have h3:(apL t r).2=0:=by simpa using h2
    simp only[cond_false,qyw t r h3]
theorem qha {β:Type} {st:β→Int→S→Ex×β} {t:T} {mk:List T→Int→β} (h:∀ o e i v,st (mk o e) i v=bif (q0h v t).2 != (0:Int) then (.ret,mk o (q0h v t).2) else (.normal,mk (o++[(q0h v t).1]) e)):∀ (l:List S) (i:Int) (o:List T) (e:Int),
  ∃ j,scan 2 st i l (mk o e)=(bif (apL t l).2 != (0:Int) then .ret else .exit 2,j,mk (o++apP t l) (bif (apL t l).2 != (0:Int) then (apL t l).2 else e))
 | [],i,o,e=>⟨i,by simp[scan,apL,apP]⟩
 | s :: r,i,o,e=>by
  obtain ⟨j,ih⟩:=qha h r (i+1) (o++[(q0h s t).1]) e
  unfold apL apP
  simp only[scan,h]
  cases h1:(q0h s t).2 != (0:Int) with
  | true=>exact ⟨i,by simp[h1]⟩
  | false=>
   simp only[cond_false]
   refine ⟨j,?_⟩
   rw[ih]
   cases h2:(apL t r).2 != (0:Int) with
   | true=>simp[h2]
   | false=>simp
def stC (D:Place→Option Int) (G:Place→List S) (o:List T) (er:Int) (v:q0j):Ex×List T×Int:=bif decide (v.n≤0) then (.normal,o,er) else match D v.p with
 | none=>(.ret,o,110)
 | some d=>bif q0e v.t != (0:Int)||v.t.d != d then (.ret,o,110) else (bif (apL v.t (G v.p)).2 != (0:Int) then .ret else .normal,o++apP v.t (G v.p),bif (apL v.t (G v.p)).2 != (0:Int) then (apL v.t (G v.p)).2 else er)
theorem qlm {β:Type} {st:β→Int→q0j→Ex×β} {D:Place→Option Int} {G:Place→List S} {mk:List T→Int→β} (h:∀ o e i v,st (mk o e) i v=((stC D G o e v).1,mk (stC D G o e v).2.1 (stC D G o e v).2.2)):∀ (l:List q0j) (i:Int) (o:List T) (e:Int),
  ((goC D G l).2=0∧scan 0 st i l (mk o e)=(.exit 0,i+l.length,mk (o++(goC D G l).1) e))∨((goC D G l).2≠0∧∃ j o',scan 0 st i l (mk o e)=(.ret,j,mk o' (goC D G l).2))
 | [],i,o,e=>.inl ⟨rfl,by simp[scan,goC]⟩
 | c :: r,i,o,e=>by
  have ih:=fun o' e'=>qlm h r (i+1) o' e'
  have hl:i+1+(r.length:Int)=i+((c :: r).length:Int):=by simp only[List.length_cons];omega
  unfold goC
  simp only[scan,h]
  unfold stC
  cases h1:decide (c.n≤0) with
  | true=>
   simp only[cond_true]
   rw[← hl]
   exact ih o e
  | false=>
   simp only[cond_false]
   cases h2:D c.p with
   | none=>exact .inr ⟨(by show (110:Int)≠0;decide),i,o,rfl⟩
   | some d=>
    simp only
    cases h3:(q0e c.t != (0:Int)||c.t.d != d) with
    | true=>exact .inr ⟨(by show (110:Int)≠0;decide),i,o,rfl⟩
    | false=>
     simp only[cond_false]
     cases h4:(apL c.t (G c.p)).2 != (0:Int) with
     | true=>exact .inr ⟨bne_iff_ne.1 h4,i,o++apP c.t (G c.p),rfl⟩
     | false=>
      have h4':(apL c.t (G c.p)).2=0:=by simpa using h4
      simp only[cond_false]
      rcases ih (o++apP c.t (G c.p)) e with ⟨h5,h6⟩ | ⟨h5,j,o',h6⟩
      ·refine .inl ⟨by rw[h5];rfl,?_⟩
       rw[h6,h5,← hl,qyw _ _ h4',List.append_assoc]
       rfl
      ·have h7:((goC D G r).2 != (0:Int))=true:=bne_iff_ne.2 h5
       refine .inr ⟨by rw[h7];exact h5,j,o',?_⟩
       rw[h6,h7];rfl
theorem qrz {D:Place→Option Int} {G:Place→List S} (hG:∀ q,(G q).length≤64):∀ l:List q0j,(goC D G l).1.length≤64 * l.length
 | []=>Nat.le_refl _
 | c :: r=>by
  have ih:=qrz (D:=D) hG r
  have h1:=qsu c.t (G c.p)
  have h2:=hG c.p
  unfold goC
  rw[List.length_cons]
  cases decide (c.n≤0) with
  | true=>show (goC D G r).1.length≤_;omega
  | false=>
   simp only[cond_false]
   cases D c.p with
   | none=>exact Nat.zero_le _
   | some d=>
    simp only
    cases (q0e c.t != (0:Int)||c.t.d != d) with
    | true=>exact Nat.zero_le _
    | false=>
     simp only[cond_false]
     cases (apL c.t (G c.p)).2 != (0:Int) with
     | true=>exact Nat.zero_le _
     | false=>
      simp only[cond_false]
      cases (goC D G r).2 != (0:Int) with
      | true=>exact Nat.zero_le _
      | false=>
       simp only[cond_false,List.length_append]
       omega
theorem qqo {D:Place→Option Int} {G:Place→List S} (hG:∀ q,(G q).length≤64) (o:List T) (er:Int) (v:q0j):(stC D G o er v).2.1.length≤o.length+64:=by
 have h1:=qst v.t (G v.p)
 have h2:=hG v.p
 unfold stC
 cases decide (v.n≤0) with
 | true=>show o.length≤_;omega
 | false=>
  simp only[cond_false]
  cases D v.p with
  | none=>show o.length≤_;omega
  | some d=>
   simp only
   cases (q0e v.t != (0:Int)||v.t.d != d) with
   | true=>show o.length≤_;omega
   | false=>
    show (o++apP v.t (G v.p)).length≤_
    rw[List.length_append];omega
theorem qug (xs:List S) (c:q0j) (o:List T) (e:Int) (hx:xs.length≤K30) (ho:o.length≤1000000):∃ j,loopF qs4 fri_M (xs,(xs.length:Int),0,(),c,o,(),e)=(bif (apL c.t xs).2 != (0:Int) then .ret else .exit 2,xs,(xs.length:Int),j,(),c,o++apP c.t xs,(),bif (apL c.t xs).2 != (0:Int) then (apL c.t xs).2 else e):=by
 have h:loopF qs4 fri_M (xs,(xs.length:Int),0,(),c,o,(),e)=_:=q0a (φ:=fri_f) (ψ:=fri_g) (fun _=>rfl) (fun _=>rfl) qxn fri_P (xs,(xs.length:Int),c) ((),o,(),e) rfl (k30 hx) ⟨hx,by show (o.length:Int)≤0+1000000;omega⟩
 obtain ⟨j,h3⟩:=qha (st:=fri_S (xs,(xs.length:Int),c)) (t:=c.t) (mk:=fun o e=>((),o,(),e)) (fun _ _ _ _=>rfl) xs 0 o e
 have h3:scan 2 (fri_S (xs,(xs.length:Int),c)) 0 xs ((),o,(),e)=_:=h3
 refine ⟨j,h.trans ?_⟩
 rw[h3];rfl
theorem quy (xs:List S) (cs:List q0j) (j:Int) (o:List T) (e:Int) (hx:xs.length≤K30) (ho:o.length≤1000000) (h8:0≤j) (h9:j<(cs.length:Int)):∃ k,loopF qsm cmi_M (xs,0,cs,j,o,(),e)=(bif (apL (cs.getD j.toNat eC.dflt).t xs).2 != (0:Int) then .ret else .exit 2,xs,k,cs,j,o++apP (cs.getD j.toNat eC.dflt).t xs,(),bif (apL (cs.getD j.toNat eC.dflt).t xs).2 != (0:Int) then (apL (cs.getD j.toNat eC.dflt).t xs).2 else e):=by
 have h:loopF qsm cmi_M (xs,0,cs,j,o,(),e)=_:=q0a (φ:=cmi_f) (ψ:=cmi_g) (fun _=>rfl) (fun _=>rfl) qyl cmi_P (xs,cs,j) (o,(),e) rfl (k30 hx) ⟨hx,by show (o.length:Int)≤0+1000000;omega,h8,h9⟩
 obtain ⟨k,h3⟩:=qha (st:=cmi_S (xs,cs,j)) (t:=(cs.getD j.toNat eC.dflt).t) (mk:=fun o e=>(o,(),e)) (fun _ _ _ _=>rfl) xs 0 o e
 have h3:scan 2 (cmi_S (xs,cs,j)) 0 xs (o,(),e)=_:=h3
 refine ⟨k,h.trans ?_⟩
 rw[h3];rfl
def froG (tb:TBt) (p q:Place):List S:=(mget tb.1.1 (q,p)).getD []
def fro_S (c:q6r) (b:qfk) (_:Int) (v:q0j):Ex×qfk:=((stC (dget c.2.2.1) (froG c.2.2.2.2 c.2.2.2.1) b.2.1 b.2.2.2 v).1,(),(stC (dget c.2.2.1) (froG c.2.2.2.2 c.2.2.2.1) b.2.1 b.2.2.2 v).2.1,(),(stC (dget c.2.2.1) (froG c.2.2.2.2 c.2.2.2.1) b.2.1 b.2.2.2 v).2.2)
def fro_K (c:q6r) (b:qfk) (i:Int):Prop:=c.1.length≤1000∧(∀ q,(froG c.2.2.2.2 c.2.2.2.1 q).length≤64)∧(List.length b.2.1:Int)≤64 * i
abbrev fro_I (g:fro_G):List Prop:=ixI (fun c:q6r=>c.2.1) (fun c=>c.1) fro_K (fro_f g)
abbrev fro_M (g:fro_G):Nat:=ixM (fun c:q6r=>c.2.1) (fro_f g)
theorem fro_P:ixP fro_S (fun c:q6r=>c.1) fro_K:=fun c b i v h _ hn=>by
 obtain ⟨h1,h2,h3⟩:=h
 refine ⟨h1,h2,?_⟩
 have h4:=qqo h2 (D:=dget c.2.2.1) b.2.1 b.2.2.2 v
 show ((stC (dget c.2.2.1) (froG c.2.2.2.2 c.2.2.2.1) b.2.1 b.2.2.2 v).2.1.length:Int)≤64 * (i+1)
 have h3:(b.2.1.length:Int)≤64 * i:=h3
 omega
abbrev qon (g:fro_G):Ex×fro_G:=fro_R g.1 g.2.1 g.2.2.1 g.2.2.2.1 g.2.2.2.2.1 g.2.2.2.2.2.1 g.2.2.2.2.2.2.1 g.2.2.2.2.2.2.2.1 g.2.2.2.2.2.2.2.2.1 g.2.2.2.2.2.2.2.2.2
theorem qs2 (cs n i m u p tb o v er):q2s cs n i m u p tb o v er=kAt tb.1.1 ((cs.getD i.toNat eC.dflt).p,p):=by
 unfold q2s
 exact q3l _ dEt tb.1.1 fun j _=>eqKT _ _ _ _
theorem fro_q1e (cs n i m u p tb o v er):q6q cs n i m u p tb o v er=m.findIdx fun e=>decide ((cs.getD i.toNat eC.dflt).p=e.1):=by
 unfold q6q
 exact q3l _ (eP.pair eI).dflt m fun j _=>eqKP _ _
theorem qs1 (cs n i m u p tb o v er):eS.lst (bif decide ((q2s cs n i m u p tb o v er)<tb.1.1.length) then (tb.1.1.getD (q2s cs n i m u p tb o v er) (eEn.ent eLS).dflt).2.1.length else (0:Nat)) (eS.els (tb.1.1.getD (q2s cs n i m u p tb o v er) (eEn.ent eLS).dflt).2.1)=froG tb p (cs.getD i.toNat eC.dflt).p:=by
 unfold froG
 rw[qs2,qhs dEt]
 by_cases h:kAt tb.1.1 ((cs.getD i.toNat eC.dflt).p,p)<tb.1.1.length
 ·rw[if_pos h,decide_eq_true h,cond_true,El.lst_els];rfl
 ·rw[if_neg h,decide_eq_false h,cond_false];rfl
theorem qs3 (cs n i m u p tb o v er):(bif decide ((q2s cs n i m u p tb o v er)<tb.1.1.length) then (tb.1.1.getD (q2s cs n i m u p tb o v er) (eEn.ent eLS).dflt).2.1.length else (0:Nat))=(froG tb p (cs.getD i.toNat eC.dflt).p).length:=by
 unfold froG
 rw[qs2,qhs dEt]
 by_cases h:kAt tb.1.1 ((cs.getD i.toNat eC.dflt).p,p)<tb.1.1.length
 ·rw[if_pos h,decide_eq_true h,cond_true];rfl
 ·rw[if_neg h,decide_eq_false h,cond_false];rfl
theorem fro_q3e (cs n i m u p tb o v er) (hx:(froG tb p (cs.getD i.toNat eC.dflt).p).length≤64) (ho:o.length≤1000000):∃ j,q4k cs n i m u p tb o v er=(bif (apL (cs.getD i.toNat eC.dflt).t (froG tb p (cs.getD i.toNat eC.dflt).p)).2 != (0:Int) then .ret else .exit 2,froG tb p (cs.getD i.toNat eC.dflt).p,((froG tb p (cs.getD i.toNat eC.dflt).p).length:Int),j,(),cs.getD i.toNat eC.dflt,o++apP (cs.getD i.toNat eC.dflt).t (froG tb p (cs.getD i.toNat eC.dflt).p),(),bif (apL (cs.getD i.toNat eC.dflt).t (froG tb p (cs.getD i.toNat eC.dflt).p)).2 != (0:Int) then (apL (cs.getD i.toNat eC.dflt).t (froG tb p (cs.getD i.toNat eC.dflt).p)).2 else er):=by
 obtain ⟨j,h⟩:=qug (froG tb p (cs.getD i.toNat eC.dflt).p) (cs.getD i.toNat eC.dflt) o er (by unfold K30;omega) ho
 refine ⟨j,?_⟩
 unfold q4k
 rw[qs1,qs3,El.ag_eq]
 exact h
theorem qxk (d:Int×q6r×qfk) (hi:allP (ixI (fun c:q6r=>c.2.1) (fun c=>c.1) fro_K d)):qon (fro_g d)=((ixF 0 (fun c:q6r=>c.2.1) (fun c=>c.1) eC.dflt fro_S d).1,fro_g (ixF 0 (fun c:q6r=>c.2.1) (fun c=>c.1) eC.dflt fro_S d).2):=by
 obtain ⟨i,⟨cs,n,m,p,tb⟩,⟨⟨⟩,o,⟨⟩,er⟩⟩:=d
 obtain ⟨h1,h2,h3,h4,h6,h7,h8⟩:=hi _ (List.mem_cons_self ..)
 have h4:i≤(cs.length:Int):=h4
 have h6:cs.length≤1000:=h6
 have h7:∀ q,(froG tb p q).length≤64:=h7
 have h8:(o.length:Int)≤64 * i:=h8
 show fro_R cs n i m () p tb o () er=_
 obtain ⟨j,hq⟩:=fro_q3e cs n i m () p tb o () er (h7 _) (by omega)
 unfold fro_R ixF fro_S stC
 rw[hq]
 simp only[El.ag_eq,fro_q1e]
 cases decide (i<n) with
 | false=>rfl
 | true=>
  simp only[cond_true]
  cases decide ((cs.getD i.toNat eC.dflt).n≤0) with
  | true=>rfl
  | false=>
   simp only[cond_false]
   rw[qiw (eP.pair eI).dflt]
   by_cases hk:(m.findIdx fun e=>decide ((cs.getD i.toNat eC.dflt).p=e.1))<m.length
   ·rw[if_pos hk,decide_eq_true hk]
    simp only[Bool.not_true,Bool.false_or,cond_true]
    generalize (q0e (cs.getD i.toNat eC.dflt).t != (0:Int)||(cs.getD i.toNat eC.dflt).t.d != (m.getD (m.findIdx fun e=>decide ((cs.getD i.toNat eC.dflt).p=e.1)) (eP.pair eI).dflt).2)=z
    cases z with
    | true=>rfl
    | false=>
     simp only[cond_false]
     cases (apL (cs.getD i.toNat eC.dflt).t (froG tb p (cs.getD i.toNat eC.dflt).p)).2 != (0:Int) <;> rfl
   ·rw[if_neg hk,decide_eq_false hk]
    rfl
theorem fro_ok:∀ b∈q00 Tryz.prog 22,lkey b=11→q02 Tryz.prog b (fro_C fro_I fro_M).g:=by
 refine quf fro_I fro_M (fun g hi=>?_) (q06 (fun _=>rfl) (fun _=>rfl) qxk fro_P)
 obtain ⟨cs,n,i,m,⟨⟩,p,tb,o,⟨⟩,er⟩:=g
 obtain ⟨h1,h2,h3,h4,h6,h7,h8⟩:=hi _ (List.mem_cons_self ..)
 have h1:n=(cs.length:Int):=h1
 have h3:0≤i:=h3
 have h4:i≤(cs.length:Int):=h4
 have h6:cs.length≤1000:=h6
 have h7:∀ q,(froG tb p q).length≤64:=h7
 have h8:(o.length:Int)≤64 * i:=h8
 have hx:=h7 (cs.getD i.toNat eC.dflt).p
 have hJ:ixJ (fun c:q5v=>c.2.1) (fun c=>c.1) fri_K (fri_f (froG tb p (cs.getD i.toNat eC.dflt).p,((froG tb p (cs.getD i.toNat eC.dflt).p).length:Int),0,(),cs.getD i.toNat eC.dflt,o,(),er)):=ixJ0 rfl (by unfold maxLen;show (froG tb p (cs.getD i.toNat eC.dflt).p).length≤_;omega) ⟨by unfold K30;show (froG tb p (cs.getD i.toNat eC.dflt).p).length≤_;omega,by show (o.length:Int)≤0+1000000;omega⟩
 show qie cs n i m () p tb o () er
 unfold qie
 simp only[qs1]
 simp only[El.okL_eq,El.ag_eq,qs3]
 refine ⟨fun hlt=>?_,fun _=>?_⟩
 ·have hr:=rngP i n _ h1 h3 hlt
  repeat' (first | exact hr | exact hJ | exact (fun _ _=>El.ok_els _ _ _) | exact (fun _ _ p h=>q5s _ trivial p h) | exact Nat.le_refl _ | exact (fun _ _=>rfl) | exact (fun _ _=>trivial) | apply And.intro | intro _)
  all_goals first | trivial | rfl | omega
 ·repeat' (first | exact (fun _ _ p h=>q5s _ trivial p h) | exact Nat.le_refl _ | apply And.intro | intro _)
  all_goals first | trivial | rfl | omega
theorem fro_run (cs:List q0j) (m:MPz) (p:Place) (tb:TBt) (hc:cs.length≤1000) (hG:∀ q,(froG tb p q).length≤64):((goC (dget m) (froG tb p) cs).2=0∧∃ j,loopF qon fro_M (cs,(cs.length:Int),0,m,(),p,tb,[],(),0)=(.exit 0,cs,(cs.length:Int),j,m,(),p,tb,(goC (dget m) (froG tb p) cs).1,(),0))∨((goC (dget m) (froG tb p) cs).2≠0∧∃ j o',loopF qon fro_M (cs,(cs.length:Int),0,m,(),p,tb,[],(),0)=(.ret,cs,(cs.length:Int),j,m,(),p,tb,o',(),(goC (dget m) (froG tb p) cs).2)):=by
 have h:loopF qon fro_M (cs,(cs.length:Int),0,m,(),p,tb,[],(),0)=_:=q0a (φ:=fro_f) (ψ:=fro_g) (fun _=>rfl) (fun _=>rfl) qxk fro_P (cs,(cs.length:Int),m,p,tb) ((),[],(),0) rfl (by unfold maxLen;show cs.length≤_;omega) ⟨hc,hG,Int.le_refl _⟩
 rcases qlm (st:=fro_S (cs,(cs.length:Int),m,p,tb)) (D:=dget m) (G:=froG tb p) (mk:=fun o e=>((),o,(),e)) (fun _ _ _ _=>rfl) cs 0 [] 0 with ⟨h2,h3⟩ | ⟨h2,j,o',h3⟩
 ·have h3:scan 0 (fro_S (cs,(cs.length:Int),m,p,tb)) 0 cs ((),[],(),0)=_:=h3
  refine .inl ⟨h2,0+(cs.length:Int),h.trans ?_⟩
  rw[h3];rfl
 ·have h3:scan 0 (fro_S (cs,(cs.length:Int),m,p,tb)) 0 cs ((),[],(),0)=_:=h3
  refine .inr ⟨h2,j,o',h.trans ?_⟩
  rw[h3];rfl
def cmo_S (c:q72) (b:qgj) (_:Int) (v:q0j):Ex×qgj:=((stC (depO c.1) (fun q=>getL c.1 q c.2.2) b.2.1 b.2.2.2 v).1,(),(stC (depO c.1) (fun q=>getL c.1 q c.2.2) b.2.1 b.2.2.2 v).2.1,(),(stC (depO c.1) (fun q=>getL c.1 q c.2.2) b.2.1 b.2.2.2 v).2.2)
def cmo_K (c:q72) (b:qgj) (i:Int):Prop:=(c.2.1.length≤1000∧Sm c.1∧∀ q,(getL c.1 q c.2.2).length≤64)∧(List.length b.2.1:Int)≤64 * i
abbrev cmo_I (g:cmo_G):List Prop:=ixI (fun c:q72=>(c.2.1.length:Int)) (fun c=>c.2.1) cmo_K (cmo_f g)
abbrev cmo_M (g:cmo_G):Nat:=ixM (fun c:q72=>(c.2.1.length:Int)) (cmo_f g)
theorem cmo_P:ixP cmo_S (fun c:q72=>c.2.1) cmo_K:=fun c b i v h _ hn=>by
 obtain ⟨h1,h3⟩:=h
 refine ⟨h1,?_⟩
 have h4:=qqo h1.2.2 (D:=depO c.1) b.2.1 b.2.2.2 v
 show ((stC (depO c.1) (fun q=>getL c.1 q c.2.2) b.2.1 b.2.2.2 v).2.1.length:Int)≤64 * (i+1)
 have h3:(b.2.1.length:Int)≤64 * i:=h3
 omega
abbrev qp4 (g:cmo_G):Ex×cmo_G:=cmo_R g.1 g.2.1 g.2.2.1 g.2.2.2.1 g.2.2.2.2.1 g.2.2.2.2.2.1 g.2.2.2.2.2.2.1 g.2.2.2.2.2.2.2
theorem cmo_q1e (l:List Path) (cs:List q0j) (i:Int) (u p o v er) (hx:(getL l (cs.getD i.toNat eC.dflt).p p).length≤64) (ho:o.length≤1000000) (h8:0≤i) (h9:i<(cs.length:Int)):∃ k,q2k l cs i u p o v er=(bif (apL (cs.getD i.toNat eC.dflt).t (getL l (cs.getD i.toNat eC.dflt).p p)).2 != (0:Int) then .ret else .exit 2,getL l (cs.getD i.toNat eC.dflt).p p,k,cs,i,o++apP (cs.getD i.toNat eC.dflt).t (getL l (cs.getD i.toNat eC.dflt).p p),(),bif (apL (cs.getD i.toNat eC.dflt).t (getL l (cs.getD i.toNat eC.dflt).p p)).2 != (0:Int) then (apL (cs.getD i.toNat eC.dflt).t (getL l (cs.getD i.toNat eC.dflt).p p)).2 else er):=by
 obtain ⟨k,h⟩:=quy (getL l (cs.getD i.toNat eC.dflt).p p) cs i o er (by unfold K30;omega) ho h8 h9
 refine ⟨k,?_⟩
 unfold q2k
 simp only[El.ag_eq]
 exact h
theorem qyi (d:Int×q72×qgj) (hi:allP (ixI (fun c:q72=>(c.2.1.length:Int)) (fun c=>c.2.1) cmo_K d)):qp4 (cmo_g d)=((ixF 0 (fun c:q72=>(c.2.1.length:Int)) (fun c=>c.2.1) eC.dflt cmo_S d).1,cmo_g (ixF 0 (fun c:q72=>(c.2.1.length:Int)) (fun c=>c.2.1) eC.dflt cmo_S d).2):=by
 obtain ⟨i,⟨l,cs,p⟩,⟨⟨⟩,o,⟨⟩,er⟩⟩:=d
 obtain ⟨h1,h2,h3,h4,⟨h6,h5,h7⟩,h8⟩:=hi _ (List.mem_cons_self ..)
 have h3:0≤i:=h3
 have h4:i≤(cs.length:Int):=h4
 have h6:cs.length≤1000:=h6
 have h7:∀ q,(getL l q p).length≤64:=h7
 have h8:(o.length:Int)≤64 * i:=h8
 show cmo_R l cs i () p o () er=_
 unfold cmo_R ixF cmo_S stC
 by_cases hlt:i<(cs.length:Int)
 ·obtain ⟨k,hq⟩:=cmo_q1e l cs i () p o () er (h7 _) (by omega) h3 hlt
  rw[hq]
  simp only[El.ag_eq,hlt,decide_true,cond_true]
  cases decide ((cs.getD i.toNat eC.dflt).n≤0) with
  | true=>rfl
  | false=>
   simp only[cond_false]
   unfold depO
   cases hk:(depL l (cs.getD i.toNat eC.dflt).p).2 with
   | true=>
    simp only[Bool.not_true,Bool.false_or,if_true]
    have e:q0y (cs.getD i.toNat eC.dflt).t=q0e (cs.getD i.toNat eC.dflt).t:=rfl
    rw[e]
    generalize (q0e (cs.getD i.toNat eC.dflt).t != (0:Int)||(cs.getD i.toNat eC.dflt).t.d != (depL l (cs.getD i.toNat eC.dflt).p).1)=z
    cases z with
    | true=>rfl
    | false=>
     simp only[cond_false]
     cases (apL (cs.getD i.toNat eC.dflt).t (getL l (cs.getD i.toNat eC.dflt).p p)).2 != (0:Int) <;> rfl
   | false=>
    simp
    rfl
 ·simp only[El.ag_eq,hlt,decide_false,cond_false]
  rfl
theorem cmo_ok:∀ b∈q00 Tryz.prog 63,lkey b=6→q02 Tryz.prog b (cmo_C cmo_I cmo_M).g:=by
 refine qux cmo_I cmo_M (fun g hi=>?_) (q06 (fun _=>rfl) (fun _=>rfl) qyi cmo_P)
 obtain ⟨l,cs,i,⟨⟩,p,o,⟨⟩,er⟩:=g
 obtain ⟨h1,h2,h3,h4,⟨h6,h5,h7⟩,h8⟩:=hi _ (List.mem_cons_self ..)
 have h3:0≤i:=h3
 have h4:i≤(cs.length:Int):=h4
 have h6:cs.length≤1000:=h6
 have h5:Sm l:=h5
 have h7:∀ q,(getL l q p).length≤64:=h7
 have h8:(o.length:Int)≤64 * i:=h8
 have hx:=h7 (cs.getD i.toNat eC.dflt).p
 show qj3 l cs i () p o () er
 unfold qj3
 simp only[El.okL_eq,El.ag_eq]
 refine ⟨fun hlt=>?_,fun _=>?_⟩
 ·have hr:=rngP i _ _ rfl h3 hlt
  have hJ:ixJ (fun c:q56=>(c.1.length:Int)) (fun c=>c.1) cmi_K (cmi_f (getL l (cs.getD i.toNat eC.dflt).p p,0,cs,i,o,(),er)):=ixJ0 rfl (by unfold maxLen;show (getL l (cs.getD i.toNat eC.dflt).p p).length≤_;omega) ⟨by unfold K30;show (getL l (cs.getD i.toNat eC.dflt).p p).length≤_;omega,by show (o.length:Int)≤0+1000000;omega,h3,hr.2⟩
  repeat' (first | exact hr | exact hJ | exact h5 | exact Nat.le_refl _ | exact (fun _ _=>trivial) | apply And.intro | intro _)
  all_goals first | trivial | rfl | omega
 ·repeat' (first | exact Nat.le_refl _ | apply And.intro | intro _)
  all_goals first | trivial | rfl | omega
theorem cmo_run (l:List Path) (cs:List q0j) (p:Place) (hc:cs.length≤1000) (hS:Sm l) (hG:∀ q,(getL l q p).length≤64):((goC (depO l) (fun q=>getL l q p) cs).2=0∧∃ j,loopF qp4 cmo_M (l,cs,0,(),p,[],(),0)=(.exit 0,l,cs,j,(),p,(goC (depO l) (fun q=>getL l q p) cs).1,(),0))∨((goC (depO l) (fun q=>getL l q p) cs).2≠0∧∃ j o',loopF qp4 cmo_M (l,cs,0,(),p,[],(),0)=(.ret,l,cs,j,(),p,o',(),(goC (depO l) (fun q=>getL l q p) cs).2)):=by
 have h:loopF qp4 cmo_M (l,cs,0,(),p,[],(),0)=_:=q0a (φ:=cmo_f) (ψ:=cmo_g) (fun _=>rfl) (fun _=>rfl) qyi cmo_P (l,cs,p) ((),[],(),0) rfl (by unfold maxLen;show cs.length≤_;omega) ⟨⟨hc,hS,hG⟩,Int.le_refl _⟩
 rcases qlm (st:=cmo_S (l,cs,p)) (D:=depO l) (G:=fun q=>getL l q p) (mk:=fun o e=>((),o,(),e)) (fun _ _ _ _=>rfl) cs 0 [] 0 with ⟨h2,h3⟩ | ⟨h2,j,o',h3⟩
 ·have h3:scan 0 (cmo_S (l,cs,p)) 0 cs ((),[],(),0)=_:=h3
  refine .inl ⟨h2,0+(cs.length:Int),h.trans ?_⟩
  rw[h3];rfl
 ·have h3:scan 0 (cmo_S (l,cs,p)) 0 cs ((),[],(),0)=_:=h3
  refine .inr ⟨h2,j,o',h.trans ?_⟩
  rw[h3];rfl
def ltM46:LTab Tryz.prog:=(ltM44.cons 22 11 (fro_C fro_I fro_M) fro_ok).cons 63 6 (cmo_C cmo_I cmo_M) cmo_ok
abbrev qf8:Lam:=ltM46.lam
theorem q6m:∀ f k L,qf8 f k=some L→∀ b∈q00 Tryz.prog f,lkey b=k→q02 Tryz.prog b L.g:=ltM46.ok
end
end Go.Proofs.YthnojkbkojpadaaGreat

namespace Go.Proofs.YthnojkbkojpadaaGreat
noncomputable section
open Go.RowKit Go.Sx
set_option linter.unusedVariables false
abbrev aLPpc:DA (List Path×Place×List q0j):=.cons dLP (.cons dP (.one dLC))
def qop (l:List Path) (p:Place) (cs:List q0j):Nat:=
 kfind (fun e=>p.node==((dpsC (ePa.ag l)).fst.getD e (eP.pair eI).dflt).fst.node&&p.port==((dpsC (ePa.ag l)).fst.getD e (eP.pair eI).dflt).fst.port) (dpsC (ePa.ag l)).fst.length (0:Nat)
def q53 (l:List Path) (p:Place) (cs:List q0j):Ex ×
 fro_G:=
 loopF (fun g=>fro_R g.fst g.snd.fst g.snd.snd.fst g.snd.snd.snd.fst g.snd.snd.snd.snd.fst g.snd.snd.snd.snd.snd.fst g.snd.snd.snd.snd.snd.snd.fst g.snd.snd.snd.snd.snd.snd.snd.fst g.snd.snd.snd.snd.snd.snd.snd.snd.fst g.snd.snd.snd.snd.snd.snd.snd.snd.snd) fro_M (eC.ag cs,(↑cs.length:Int),(0:Int),(eP.pair eI).ag (dpsC (ePa.ag l)).fst,(),p,(((eEn.ent eLS).ag (tblC (ePa.ag l)).fst.fst,(tblC (ePa.ag l)).fst.snd),eP.ag (tblC (ePa.ag l)).snd),[],(),(0:Int))
def frf_F (l:List Path) (p:Place) (cs:List q0j):Dv.T dLE:=
 bif chkP (ePa.ag l) != (0:Int) then ([],chkP (ePa.ag l))
 else bif !decide ((qop l p cs)<(dpsC (ePa.ag l)).fst.length) then ([],(4:Int)) else bif exB Ex.ret (q53 l p cs).fst then ([],(q53 l p cs).snd.snd.snd.snd.snd.snd.snd.snd.snd.snd) else (eT.ag (ofC (eT.ag (q53 l p cs).snd.snd.snd.snd.snd.snd.snd.snd.fst)).fst,(ofC (eT.ag (q53 l p cs).snd.snd.snd.snd.snd.snd.snd.snd.fst)).snd)
def qbe (l:List Path) (p:Place) (cs:List q0j):Prop:=
 ePa.okL l∧((chkP (ePa.ag l) != (0:Int))=false→ePa.okL l∧(∀ (e:Nat),e<(dpsC (ePa.ag l)).fst.length→True)∧((!decide ((qop l p cs)<(dpsC (ePa.ag l)).fst.length))=false→ePa.okL l∧(ePa.ag l).length≤K30∧eC.okL cs∧(eP.pair eI).okL (dpsC (ePa.ag l)).fst∧(∀ (e:Nat),e<(tblC (ePa.ag l)).fst.fst.length→∀ (p:Prop),p∈[]++[]++([]++[])++([eS.okL ((tblC (ePa.ag l)).fst.fst.getD e (eEn.ent eLS).dflt).snd.fst]++[])→p)∧(tblC (ePa.ag l)).snd.length≤(tblC (ePa.ag l)).snd.length∧(∀ (e:Nat),e<(tblC (ePa.ag l)).snd.length→True)∧Lp.ixJ (fun c=>c.snd.fst) (fun c=>c.fst) fro_K (fro_f (eC.ag cs,(↑cs.length:Int),(0:Int),(eP.pair eI).ag (dpsC (ePa.ag l)).fst,(),p,(((eEn.ent eLS).ag (tblC (ePa.ag l)).fst.fst,(tblC (ePa.ag l)).fst.snd),eP.ag (tblC (ePa.ag l)).snd),[],(),(0:Int)))∧(exB Ex.ret (q53 l p cs).fst=false→(q53 l p cs).snd.snd.snd.snd.snd.snd.snd.snd.fst.length≤(q53 l p cs).snd.snd.snd.snd.snd.snd.snd.snd.fst.length∧(∀ (e:Nat),e<(q53 l p cs).snd.snd.snd.snd.snd.snd.snd.snd.fst.length→True)∧(eT.ag (q53 l p cs).snd.snd.snd.snd.snd.snd.snd.snd.fst).length≤KS∧eT.okL (ofC (eT.ag (q53 l p cs).snd.snd.snd.snd.snd.snd.snd.snd.fst)).fst)))
theorem frf_okS (pre:DA.T aLPpc→List Prop) (h:∀ g,DA.bd aLPpc g→(∀ p∈pre g,p)→qbe g.1 g.2.1 g.2.2):q04 Tryz.prog 22 aLPpc dLE (fun g=>frf_F g.1 g.2.1 g.2.2) pre:=q08 (Γ:=(MTab.gamz q4u [] [])) (Λ:=qf8) (MTab.okz q4u [] []) q6m 100 default (fun g=>qbe g.1 g.2.1 g.2.2) (fun g=>by kernel_rfl) (fun g=>by kernel_rfl) h
def q57 (l:List Path) (p:Place) (cs:List q0j):Ex ×
 cmo_G:=
 loopF (fun g=>cmo_R g.fst g.snd.fst g.snd.snd.fst g.snd.snd.snd.fst g.snd.snd.snd.snd.fst g.snd.snd.snd.snd.snd.fst g.snd.snd.snd.snd.snd.snd.fst g.snd.snd.snd.snd.snd.snd.snd) cmo_M (ePa.ag l,eC.ag cs,(0:Int),(),p,[],(),(0:Int))
def cmf_F (l:List Path) (p:Place) (cs:List q0j):Dv.T dLE:=
 bif !(depL (ePa.ag l) p).snd then ([],(4:Int))
 else bif exB Ex.ret (q57 l p cs).fst then ([],(q57 l p cs).snd.snd.snd.snd.snd.snd.snd.snd) else (eT.ag (ofC (eT.ag (q57 l p cs).snd.snd.snd.snd.snd.snd.fst)).fst,(ofC (eT.ag (q57 l p cs).snd.snd.snd.snd.snd.snd.fst)).snd)
def qbl (l:List Path) (p:Place) (cs:List q0j):Prop:=
 ePa.okL l∧((!(depL (ePa.ag l) p).snd)=false→ePa.okL l∧eC.okL cs∧Lp.ixJ (fun c=>(↑c.snd.fst.length:Int)) (fun c=>c.snd.fst) cmo_K (cmo_f (ePa.ag l,eC.ag cs,(0:Int),(),p,[],(),(0:Int)))∧(exB Ex.ret (q57 l p cs).fst=false→(q57 l p cs).snd.snd.snd.snd.snd.snd.fst.length≤(q57 l p cs).snd.snd.snd.snd.snd.snd.fst.length∧(∀ (e:Nat),e<(q57 l p cs).snd.snd.snd.snd.snd.snd.fst.length→True)∧(eT.ag (q57 l p cs).snd.snd.snd.snd.snd.snd.fst).length≤KS∧eT.okL (ofC (eT.ag (q57 l p cs).snd.snd.snd.snd.snd.snd.fst)).fst))
theorem cmf_okS (pre:DA.T aLPpc→List Prop) (h:∀ g,DA.bd aLPpc g→(∀ p∈pre g,p)→qbl g.1 g.2.1 g.2.2):q04 Tryz.prog 63 aLPpc dLE (fun g=>cmf_F g.1 g.2.1 g.2.2) pre:=q08 (Γ:=(MTab.gamz q4u [] [])) (Λ:=qf8) (MTab.okz q4u [] []) q6m 100 default (fun g=>qbl g.1 g.2.1 g.2.2) (fun g=>by kernel_rfl) (fun g=>by kernel_rfl) h
end
end Go.Proofs.YthnojkbkojpadaaGreat

namespace Go.Proofs.YthnojkbkojpadaaGreat
noncomputable section
open Go.RowKit Go.Sx Go.Lp
def goL (l:List Path) (p:Place) (cs:List q0j):List T×Int:=goC (depO l) (fun q=>getL l q p) cs
def cmC (l:List Path) (p:Place) (cs:List q0j):List T×Int:=match depO l p with
 | none=>([],4)
 | some _=>bif (goL l p cs).2 != (0:Int) then ([],(goL l p cs).2) else ofC (goL l p cs).1
def frC (l:List Path) (p:Place) (cs:List q0j):List T×Int:=bif chkP l != (0:Int) then ([],chkP l) else cmC l p cs
def Few64 (l:List Path):Prop:=Sm l∧∀ p q,(getL l q p).length≤64
theorem qj6 {l:List Path} (hl:l.length≤maxLen) (h:chkP l=0):Few64 l:=⟨qso hl h,fun p q=>qmj hl h q p⟩
theorem qry {l:List Path} (h:Few64 l) (p:Place) (cs:List q0j) (hc:cs.length≤1000):(goL l p cs).1.length≤KS:=by
 have:=qrz (D:=depO l) (G:=fun q=>getL l q p) (h.2 p) cs
 unfold goL KS
 omega
theorem qp5 {l:List Path} (hl:l.length≤maxLen) (h:chkP l=0):dget (dpsC l).1=depO l:=by
 have hd:dpsC l=(depsL l,decide (((depM l).1.length:Int)≤128)):=by unfold dpsC;rw[qna hl h];rfl
 rw[hd]
 exact funext fun p=>qoy (qbn hl h) (qna hl h) p
theorem qoo {l:List Path} (hl:l.length≤maxLen) (h:chkP l=0) (p:Place):froG (tblC l) p=fun q=>getL l q p:=funext fun q=>qic (qbn hl h) q p
theorem qyn (l:List Path) (p:Place) (cs:List q0j) (h:Few64 l) (hc:cs.length≤1000):((goL l p cs).2=0∧∃ j,q57 l p cs=(.exit 0,l,cs,j,(),p,(goL l p cs).1,(),0))∨((goL l p cs).2≠0∧∃ j o',q57 l p cs=(.ret,l,cs,j,(),p,o',(),(goL l p cs).2)):=by
 unfold q57
 simp only[El.ag_eq]
 exact cmo_run l cs p hc h.1 (h.2 p)
theorem cmf_c:q04 Tryz.prog 63 aLPpc dLE (fun g=>cmC g.1 g.2.1 g.2.2) (fun g=>[Few64 g.1,g.2.2.length≤1000]):=by
 refine q0b (cmf_okS (fun g=>[Few64 g.1,g.2.2.length≤1000]) fun g hb hp=>?_) fun g hb hp=>?_
 ·obtain ⟨l,p,cs⟩:=g
  have hF:Few64 l:=hp _ (List.mem_cons_self ..)
  have hc:cs.length≤1000:=hp _ (List.mem_cons_of_mem _ (List.mem_cons_self ..))
  show qbl l p cs
  unfold qbl
  simp only[El.okL_eq,El.ag_eq]
  refine ⟨trivial,fun _=>⟨trivial,trivial,ixJ0 rfl (by unfold maxLen;show cs.length≤_;omega) ⟨⟨hc,hF.1,hF.2 p⟩,Int.le_refl _⟩,fun he=>?_⟩⟩
  rcases qyn l p cs hF hc with ⟨h1,j,h2⟩ | ⟨h1,j,o,h2⟩
  ·rw[h2]
   exact ⟨Nat.le_refl _,fun _ _=>trivial,qry hF p cs hc,trivial⟩
  ·rw[h2] at he;cases he
 ·obtain ⟨l,p,cs⟩:=g
  have hF:Few64 l:=hp _ (List.mem_cons_self ..)
  have hc:cs.length≤1000:=hp _ (List.mem_cons_of_mem _ (List.mem_cons_self ..))
  show cmf_F l p cs=cmC l p cs
  unfold cmf_F cmC depO
  simp only[El.ag_eq]
  cases hk:(depL l p).2 with
  | false=>rfl
  | true=>
   simp only[Bool.not_true,cond_false,if_true]
   rcases qyn l p cs hF hc with ⟨h1,j,h2⟩ | ⟨h1,j,o,h2⟩
   ·rw[h2,h1];rfl
   ·have h3:((goL l p cs).2 != (0:Int))=true:=bne_iff_ne.2 h1
    rw[h2,h3];rfl
theorem frf_q1e (l:List Path) (p:Place) (cs:List q0j):qop l p cs=(dpsC l).1.findIdx fun e=>decide (p=e.1):=by
 unfold qop
 rw[El.ag_eq]
 exact q3l _ (eP.pair eI).dflt (dpsC l).1 fun j _=>eqKP _ _
theorem qxp (l:List Path) (p:Place) (cs:List q0j) (hl:l.length≤maxLen) (h:chkP l=0) (hc:cs.length≤1000):((goL l p cs).2=0∧∃ j,q53 l p cs=(.exit 0,cs,(cs.length:Int),j,(dpsC l).1,(),p,tblC l,(goL l p cs).1,(),0))∨((goL l p cs).2≠0∧∃ j o',q53 l p cs=(.ret,cs,(cs.length:Int),j,(dpsC l).1,(),p,tblC l,o',(),(goL l p cs).2)):=by
 have hG:=qoo hl h p
 have:=fro_run cs (dpsC l).1 p (tblC l) hc (by rw[hG];exact (qj6 hl h).2 p)
 rw[hG,qp5 hl h] at this
 unfold q53
 simp only[El.ag_eq]
 exact this
theorem frf_c:q04 Tryz.prog 22 aLPpc dLE (fun g=>frC g.1 g.2.1 g.2.2) (fun g=>[g.1.length≤K30,g.2.2.length≤1000]):=by
 refine q0b (frf_okS (fun g=>[g.1.length≤K30,g.2.2.length≤1000]) fun g hb hp=>?_) fun g hb hp=>?_
 ·obtain ⟨l,p,cs⟩:=g
  have hl:l.length≤K30:=hp _ (List.mem_cons_self ..)
  have hc:cs.length≤1000:=hp _ (List.mem_cons_of_mem _ (List.mem_cons_self ..))
  show qbe l p cs
  unfold qbe
  simp only[El.okL_eq,El.ag_eq]
  refine ⟨trivial,fun h=>?_⟩
  have h:chkP l=0:=by simpa using h
  have hF:=qj6 (k30 hl) h
  refine ⟨trivial,fun _ _=>trivial,fun _=>⟨trivial,hl,trivial,trivial,fun _ _ p h=>q5s _ trivial p h,Nat.le_refl _,fun _ _=>trivial,ixJ0 rfl (by unfold maxLen;show cs.length≤_;omega) ⟨hc,by rw[show froG _ _=_ from qoo (k30 hl) h p];exact hF.2 p,Int.le_refl _⟩,fun he=>?_⟩⟩
  rcases qxp l p cs (k30 hl) h hc with ⟨h1,j,h2⟩ | ⟨h1,j,o,h2⟩
  ·rw[h2]
   exact ⟨Nat.le_refl _,fun _ _=>trivial,qry hF p cs hc,trivial⟩
  ·rw[h2] at he;cases he
 ·obtain ⟨l,p,cs⟩:=g
  have hl:l.length≤K30:=hp _ (List.mem_cons_self ..)
  have hc:cs.length≤1000:=hp _ (List.mem_cons_of_mem _ (List.mem_cons_self ..))
  show frf_F l p cs=frC l p cs
  unfold frf_F frC
  simp only[El.ag_eq]
  cases hk:chkP l != (0:Int) with
  | true=>rfl
  | false=>
   have h:chkP l=0:=by simpa using hk
   simp only[cond_false]
   unfold cmC
   rw[← qp5 (k30 hl) h,qiw (eP.pair eI).dflt,frf_q1e]
   by_cases hi:((dpsC l).1.findIdx fun e=>decide (p=e.1))<(dpsC l).1.length
   ·rw[if_pos hi,decide_eq_true hi]
    simp only[Bool.not_true,cond_false]
    rcases qxp l p cs (k30 hl) h hc with ⟨h1,j,h2⟩ | ⟨h1,j,o,h2⟩
    ·rw[h2,h1];rfl
    ·have h3:((goL l p cs).2 != (0:Int))=true:=bne_iff_ne.2 h1
     rw[h2,h3];rfl
   ·rw[if_neg hi,decide_eq_false hi];rfl
def q61:MTab Tryz.prog:=(q4u.cons 22 (pconR aLPpc dLE (fun g=>frC g.1 g.2.1 g.2.2) (fun g=>[g.1.length≤K30,g.2.2.length≤1000])) (q1v frf_c)).cons 63 (pconR aLPpc dLE (fun g=>cmC g.1 g.2.1 g.2.2) (fun g=>[Few64 g.1,g.2.2.length≤1000])) (q1v cmf_c)
end
end Go.Proofs.YthnojkbkojpadaaGreat

namespace Go.Proofs.YthnojkbkojpadaaGreat
noncomputable section
open Go.RowKit Go.Sx
set_option linter.unusedVariables false
abbrev dFcd:Dv (T×T):=dFnA 65 (.cons (dPr eT) (.one (dPr eT)))
abbrev aLScd:DA (List S×(T×T)):=.cons dLS (.one dFcd)
abbrev aLPcd:DA (List Path×(Place×(T×(Place×T)))):=.cons dLP (.cons dP (.cons dT (.cons dP (.one dT))))
abbrev Tu:Type:=T×T
def rff_F (l:List Path) (p:Place) (cs:List q0j):Dv.T dLE:=
 bif dckC (ePa.ag l) != (0:Int) then ([],dckC (ePa.ag l))
 else (eT.ag (cmC (ePa.ag l) p (eC.ag cs)).fst,(cmC (ePa.ag l) p (eC.ag cs)).snd)
def qaq (l:List Path) (p:Place) (cs:List q0j):Prop:=
 ePa.okL l∧((dckC (ePa.ag l) != (0:Int))=false→ePa.okL l∧eC.okL cs∧Few64 (ePa.ag l)∧(eC.ag cs).length≤(1000:Nat)∧eT.okL (cmC (ePa.ag l) p (eC.ag cs)).fst)
theorem z03 (pre:DA.T aLPpc→List Prop) (h:∀ g,DA.bd aLPpc g→(∀ p∈pre g,p)→qaq g.1 g.2.1 g.2.2):q04 Tryz.prog 23 aLPpc dLE (fun g=>rff_F g.1 g.2.1 g.2.2) pre:=q08 (Γ:=(MTab.gamz q61 [] [])) (Λ:=qf8) (MTab.okz q61 [] []) q6m 100 default (fun g=>qaq g.1 g.2.1 g.2.2) (fun g=>by kernel_rfl) (fun g=>by kernel_rfl) h
abbrev icl_G:Type:=List S×Tu×Int×Int×Int
def qx9:LP 0 icl_G:=.pair (.slot 0 0 dLS) (.pair (.slot 0 1 dFcd) (.pair (.slot 0 7 dI) (.pair (.slot 0 8 dI) (.slot 0 4 dI))))
def icl_R (xs:List S) (tu:Tu) (n:Int) (i:Int) (r:Int):Ex×icl_G:=
 bif decide (i<n) then bif (q0h (xs.getD i.toNat eS.dflt) tu.fst).snd==(0:Int)&&q0k (q0h (xs.getD i.toNat eS.dflt) tu.fst).fst tu.snd then (Ex.ret,eS.ag xs,tu,n,i,i) else (Ex.normal,eS.ag xs,tu,n,IntKind.i64.wrap (i+(1:Int)),r)
 else (Ex.exit (0:Nat),eS.ag xs,tu,n,i,r)
def qi7 (xs:List S) (tu:Tu) (n:Int) (i:Int) (r:Int):Prop:=
 (decide (i<n)=true→((0:Int)≤i∧i<(↑xs.length:Int))∧(((q0h (xs.getD i.toNat eS.dflt) tu.fst).snd==(0:Int)&&q0k (q0h (xs.getD i.toNat eS.dflt) tu.fst).fst tu.snd)=true→eS.okL xs)∧(((q0h (xs.getD i.toNat eS.dflt) tu.fst).snd==(0:Int)&&q0k (q0h (xs.getD i.toNat eS.dflt) tu.fst).fst tu.snd)=false→eS.okL xs))∧(decide (i<n)=false→eS.okL xs)
theorem z1k:((q00 Tryz.prog 109).filter fun c=>Nat.beq (lkey c) 2).length=1:=by kernel_rfl
abbrev q3v:Type:=List S×Tu×Int
abbrev qd4:Type:=Int
def icl_f (g:icl_G):Int×q3v×qd4:=(g.2.2.2.1,(g.1,g.2.1,g.2.2.1),g.2.2.2.2)
def icl_g (d:Int×q3v×qd4):icl_G:=(d.2.1.1,d.2.1.2.1,d.2.1.2.2,d.1,d.2.2)
abbrev qfe (g:icl_G):Ex×icl_G:=icl_R g.1 g.2.1 g.2.2.1 g.2.2.2.1 g.2.2.2.2
abbrev qx6 (g:icl_G):Prop:=qi7 g.1 g.2.1 g.2.2.1 g.2.2.2.1 g.2.2.2.2
theorem icl_es (g:icl_G):(qfe g).1=.normal∨(qfe g).1∈([.ret,.exit 0]:List Ex):=by
 unfold qfe icl_R
 repeat' (first | (left;rfl) | (right;simp only[cond_true,cond_false];simp;done) | (rw[Bool.cond_eq_ite];split))
abbrev icl_C (Inv:icl_G→List Prop) (m:icl_G→Nat):LCon:=loopR [.ret,.exit 0] (loopBody Tryz.prog 109 2) qx9 [] 19 Inv qfe m
theorem qua (Inv:icl_G→List Prop) (m:icl_G→Nat) (hs:∀ g,allP (Inv g)→qx6 g) (hg:Goes qfe m fun g=>allP (Inv g)):∀ b∈q00 Tryz.prog 109,lkey b=2→q02 Tryz.prog b (icl_C Inv m).g:=q0g (Γ:=(MTab.gamz q61 [] [])) (Λ:=qf8) (MTab.okz q61 [] []) q6m 100 109 2 19 qx9 [] Inv qfe qx6 m default [.ret,.exit 0] z1k (fun rd T B HL HB ds g=>by kernel_rfl) (fun rd T B HL HB ds g=>by kernel_rfl) hs hg icl_es
abbrev cdl_G:Type:=List S×Int×T×Unit×T×Bool
def qyu:LP 4 cdl_G:=.pair (.slot 4 11 dLS) (.pair (.slot 4 12 dI) (.pair (.slot 4 7 (dPr eT)) (.pair (.fix 4 9 (.p 3 0)) (.pair (.obj 4 3 47 eT) (.slot 4 10 dBool)))))
def cdl_R (xs:List S) (i:Int) (t:T) (_v:Unit) (w:T) (o:Bool):Ex×cdl_G:=
 bif decide (i<(↑xs.length:Int)) then bif (q0h (xs.getD i.toNat eS.dflt) t).snd==(0:Int)&&q2a (q0h (xs.getD i.toNat eS.dflt) t).fst w then (Ex.ret,eS.ag xs,i,t,(),w,true) else (Ex.normal,eS.ag xs,IntKind.i64.wrap (i+(1:Int)),t,(),w,o)
 else (Ex.exit (0:Nat),eS.ag xs,i,t,(),w,o)
def qj7 (xs:List S) (i:Int) (t:T) (_v:Unit) (w:T) (o:Bool):Prop:=
 (decide (i<(↑xs.length:Int))=true→((0:Int)≤i∧i<(↑xs.length:Int))∧(((q0h (xs.getD i.toNat eS.dflt) t).snd==(0:Int)&&q2a (q0h (xs.getD i.toNat eS.dflt) t).fst w)=true→eS.okL xs)∧(((q0h (xs.getD i.toNat eS.dflt) t).snd==(0:Int)&&q2a (q0h (xs.getD i.toNat eS.dflt) t).fst w)=false→eS.okL xs))∧(decide (i<(↑xs.length:Int))=false→eS.okL xs)
theorem cdl_one:((q00 Tryz.prog 26).filter fun c=>Nat.beq (lkey c) 3).length=1:=by kernel_rfl
abbrev q42:Type:=List S×T×T
abbrev qds:Type:=Unit×Bool
def cdl_f (g:cdl_G):Int×q42×qds:=(g.2.1,(g.1,g.2.2.1,g.2.2.2.2.1),(g.2.2.2.1,g.2.2.2.2.2))
def cdl_g (d:Int×q42×qds):cdl_G:=(d.2.1.1,d.1,d.2.1.2.1,d.2.2.1,d.2.1.2.2,d.2.2.2)
abbrev qgo (g:cdl_G):Ex×cdl_G:=cdl_R g.1 g.2.1 g.2.2.1 g.2.2.2.1 g.2.2.2.2.1 g.2.2.2.2.2
abbrev qyr (g:cdl_G):Prop:=qj7 g.1 g.2.1 g.2.2.1 g.2.2.2.1 g.2.2.2.2.1 g.2.2.2.2.2
theorem cdl_es (g:cdl_G):(qgo g).1=.normal∨(qgo g).1∈([.ret,.exit 0]:List Ex):=by
 unfold qgo cdl_R
 repeat' (first | (left;rfl) | (right;simp only[cond_true,cond_false];simp;done) | (rw[Bool.cond_eq_ite];split))
abbrev cdl_C (Inv:cdl_G→List Prop) (m:cdl_G→Nat):LCon:=loopR [.ret,.exit 0] (loopBody Tryz.prog 26 3) qyu [] 41 Inv qgo m
theorem qv2 (Inv:cdl_G→List Prop) (m:cdl_G→Nat) (hs:∀ g,allP (Inv g)→qyr g) (hg:Goes qgo m fun g=>allP (Inv g)):∀ b∈q00 Tryz.prog 26,lkey b=3→q02 Tryz.prog b (cdl_C Inv m).g:=q0g (Γ:=(MTab.gamz q61 [] [])) (Λ:=qf8) (MTab.okz q61 [] []) q6m 100 26 3 41 qyu [] Inv qgo qyr m default [.ret,.exit 0] cdl_one (fun rd T B HL HB ds g=>by kernel_rfl) (fun rd T B HL HB ds g=>by kernel_rfl) hs hg cdl_es
end
end Go.Proofs.YthnojkbkojpadaaGreat

namespace Go.Proofs.YthnojkbkojpadaaGreat
noncomputable section
open Go.RowKit Go.Sx Go.Lp
def icl_S (c:q3v) (b:qd4) (i:Int) (v:S):Ex×qd4:=bif (q0h v c.2.1.1).2==(0:Int)&&q0k (q0h v c.2.1.1).1 c.2.1.2 then (.ret,i) else (.normal,b)
def icl_K (c:q3v) (b:qd4) (i:Int):Prop:=True
abbrev icl_I (g:icl_G):List Prop:=ixI (fun c:q3v=>c.2.2) (fun c:q3v=>c.1) icl_K (icl_f g)
abbrev icl_M (g:icl_G):Nat:=ixM (fun c:q3v=>c.2.2) (icl_f g)
theorem icl_P:ixP icl_S (fun c:q3v=>c.1) icl_K:=fun _ _ _ _ h _ _=>h
abbrev qx7 (g:icl_G):Ex×icl_G:=icl_R g.1 g.2.1 g.2.2.1 g.2.2.2.1 g.2.2.2.2
theorem qx8 (d:Int×q3v×qd4) (hi:allP (ixI (fun c:q3v=>c.2.2) (fun c:q3v=>c.1) icl_K d)):qx7 (icl_g d)=((ixF 0 (fun c:q3v=>c.2.2) (fun c:q3v=>c.1) eS.dflt icl_S d).1,icl_g (ixF 0 (fun c:q3v=>c.2.2) (fun c:q3v=>c.1) eS.dflt icl_S d).2):=by
 obtain ⟨i,⟨xs,tu,n⟩,r⟩:=d
 show icl_R xs tu n i r=_
 unfold icl_R ixF icl_S
 simp only[El.ag_eq]
 cases decide (i<n) with
 | false=>rfl
 | true=>
  simp only[cond_true]
  generalize ((q0h (xs.getD i.toNat eS.dflt) tu.1).2==(0:Int)&&q0k (q0h (xs.getD i.toNat eS.dflt) tu.1).1 tu.2)=z
  cases z <;> rfl
theorem icl_ok:∀ b∈q00 Tryz.prog 109,lkey b=2→q02 Tryz.prog b (icl_C icl_I icl_M).g:=by
 refine qua icl_I icl_M (fun g hi=>?_) (q06 (fun _=>rfl) (fun _=>rfl) qx8 icl_P)
 obtain ⟨xs,tu,n,i,r⟩:=g
 obtain ⟨h1,h2,h3,h4,h5⟩:=hi _ (List.mem_cons_self ..)
 have h1:n=(xs.length:Int):=h1
 have h3:0≤i:=h3
 have h5:True:=h5
 show qi7 xs tu n i r
 unfold qi7
 simp only[El.okL_eq,decide_eq_true_eq,decide_eq_false_iff_not,Bool.and_eq_true]
 have k0:∀ e:Nat,e<xs.length→eS.Ok (eS.els xs e):=fun e _=>eS.ok_els xs e
 clear hi
 repeat' (first | exact k0 | apply And.intro | intro _)
 all_goals omega
theorem z1j (c:q3v) (b:qd4) (k1:c.2.2=((c.1).length:Int)) (k2:(c.1).length≤maxLen) (k3:icl_K c b 0):loopF qx7 icl_M (icl_g (0,c,b))=((scan 0 (icl_S c) 0 (c.1) b).1,icl_g ((scan 0 (icl_S c) 0 (c.1) b).2.1,c,(scan 0 (icl_S c) 0 (c.1) b).2.2)):=q0a (φ:=icl_f) (ψ:=icl_g) (fun _=>rfl) (fun _=>rfl) qx8 icl_P c b k1 k2 k3
def cdl_S (c:q42) (b:qds) (i:Int) (v:S):Ex×qds:=bif (q0h v c.2.1).2==(0:Int)&&q2a (q0h v c.2.1).1 c.2.2 then (.ret,(),true) else (.normal,b.1,b.2)
def cdl_K (c:q42) (b:qds) (i:Int):Prop:=True
abbrev cdl_I (g:cdl_G):List Prop:=ixI (fun c:q42=>(c.1.length:Int)) (fun c:q42=>c.1) cdl_K (cdl_f g)
abbrev cdl_M (g:cdl_G):Nat:=ixM (fun c:q42=>(c.1.length:Int)) (cdl_f g)
theorem cdl_P:ixP cdl_S (fun c:q42=>c.1) cdl_K:=fun _ _ _ _ h _ _=>h
abbrev qys (g:cdl_G):Ex×cdl_G:=cdl_R g.1 g.2.1 g.2.2.1 g.2.2.2.1 g.2.2.2.2.1 g.2.2.2.2.2
theorem qyt (d:Int×q42×qds) (hi:allP (ixI (fun c:q42=>(c.1.length:Int)) (fun c:q42=>c.1) cdl_K d)):qys (cdl_g d)=((ixF 0 (fun c:q42=>(c.1.length:Int)) (fun c:q42=>c.1) eS.dflt cdl_S d).1,cdl_g (ixF 0 (fun c:q42=>(c.1.length:Int)) (fun c:q42=>c.1) eS.dflt cdl_S d).2):=by
 obtain ⟨i,⟨xs,t,w⟩,⟨_v,o⟩⟩:=d
 show cdl_R xs i t _v w o=_
 unfold cdl_R ixF cdl_S
 simp only[El.ag_eq]
 cases decide (i<(xs.length:Int)) with
 | false=>rfl
 | true=>
  simp only[cond_true]
  generalize ((q0h (xs.getD i.toNat eS.dflt) t).2==(0:Int)&&q2a (q0h (xs.getD i.toNat eS.dflt) t).1 w)=z
  cases z <;> rfl
theorem cdl_ok:∀ b∈q00 Tryz.prog 26,lkey b=3→q02 Tryz.prog b (cdl_C cdl_I cdl_M).g:=by
 refine qv2 cdl_I cdl_M (fun g hi=>?_) (q06 (fun _=>rfl) (fun _=>rfl) qyt cdl_P)
 obtain ⟨xs,i,t,_v,w,o⟩:=g
 obtain ⟨h1,h2,h3,h4,h5⟩:=hi _ (List.mem_cons_self ..)
 have h1:(xs.length:Int)=(xs.length:Int):=h1
 have h3:0≤i:=h3
 have h5:True:=h5
 show qj7 xs i t _v w o
 unfold qj7
 simp only[El.okL_eq,decide_eq_true_eq,decide_eq_false_iff_not,Bool.and_eq_true]
 have k0:∀ e:Nat,e<xs.length→eS.Ok (eS.els xs e):=fun e _=>eS.ok_els xs e
 clear hi
 repeat' (first | exact k0 | apply And.intro | intro _)
 all_goals omega
theorem cdl_run (c:q42) (b:qds) (k1:(c.1.length:Int)=((c.1).length:Int)) (k2:(c.1).length≤maxLen) (k3:cdl_K c b 0):loopF qys cdl_M (cdl_g (0,c,b))=((scan 0 (cdl_S c) 0 (c.1) b).1,cdl_g ((scan 0 (cdl_S c) 0 (c.1) b).2.1,c,(scan 0 (cdl_S c) 0 (c.1) b).2.2)):=q0a (φ:=cdl_f) (ψ:=cdl_g) (fun _=>rfl) (fun _=>rfl) qyt cdl_P c b k1 k2 k3
def ltM50a:LTab Tryz.prog:=(ltM46.cons 109 2 (icl_C icl_I icl_M) icl_ok)
def ltM50:LTab Tryz.prog:=ltM50a.cons 26 3 (lconFrz [7] (cdl_C cdl_I cdl_M)) (fun b hb hk=>frzLoop_ok (cdl_ok b hb hk))
abbrev qka:Lam:=ltM50.lam
theorem q8x:∀ f k L,qka f k=some L→∀ b∈q00 Tryz.prog f,lkey b=k→q02 Tryz.prog b L.g:=ltM50.ok
end
end Go.Proofs.YthnojkbkojpadaaGreat

namespace Go.Proofs.YthnojkbkojpadaaGreat
noncomputable section
open Go.RowKit Go.Sx
set_option linter.unusedVariables false
def qru (xs:List S) (tu:Tu):Ex ×
 icl_G:=
 loopF (fun g=>icl_R g.fst g.snd.fst g.snd.snd.fst g.snd.snd.snd.fst g.snd.snd.snd.snd) icl_M (eS.ag xs,tu,(↑xs.length:Int),(0:Int),(0:Int))
def icf_F (xs:List S) (tu:Tu):Dv.T dI:=
 bif exB Ex.ret (qru xs tu).fst then (qru xs tu).snd.snd.snd.snd.snd else (-1:Int)
def qba (xs:List S) (tu:Tu):Prop:=
 eS.okL xs∧Lp.ixJ (fun c=>c.snd.snd) (fun c=>c.fst) icl_K (icl_f (eS.ag xs,tu,(↑xs.length:Int),(0:Int),(0:Int)))
theorem z1m (pre:DA.T aLScd→List Prop) (h:∀ g,DA.bd aLScd g→(∀ p∈pre g,p)→qba g.1 g.2):q04 Tryz.prog 109 aLScd dI (fun g=>icf_F g.1 g.2) pre:=q08 (Γ:=(MTab.gamz q61 [] [])) (Λ:=qka) (MTab.okz q61 [] []) q8x 100 default (fun g=>qba g.1 g.2) (fun g=>by kernel_rfl) (fun g=>by kernel_rfl) h
def qrd (l:List Path) (p:Place) (t:T) (q:Place) (w:T):Ex ×
 cdl_G:=
 loopF (fun g=>cdl_R g.fst g.snd.fst g.snd.snd.fst g.snd.snd.snd.fst g.snd.snd.snd.snd.fst g.snd.snd.snd.snd.snd) cdl_M (eS.ag (sumsR (ePa.ag l) p q),(0:Int),t,(),w,false)
def rcd_F (l:List Path) (p:Place) (t:T) (q:Place) (w:T):Dv.T dBool:=
 bif exB Ex.ret (qrd l p t q w).fst then (qrd l p t q w).snd.snd.snd.snd.snd.snd else false
def qau (l:List Path) (p:Place) (t:T) (q:Place) (w:T):Prop:=
 ePa.okL l∧eS.okL (sumsR (ePa.ag l) p q)∧Lp.ixJ (fun c=>(↑c.fst.length:Int)) (fun c=>c.fst) cdl_K (cdl_f (eS.ag (sumsR (ePa.ag l) p q),(0:Int),t,(),w,false))
theorem z07 (pre:DA.T aLPcd→List Prop) (h:∀ g,DA.bd aLPcd g→(∀ p∈pre g,p)→qau g.1 g.2.1 g.2.2.1 g.2.2.2.1 g.2.2.2.2):q04 Tryz.prog 26 aLPcd dBool (fun g=>rcd_F g.1 g.2.1 g.2.2.1 g.2.2.2.1 g.2.2.2.2) pre:=q08 (Γ:=(MTab.gamz q61 [] [])) (Λ:=qka) (MTab.okz q61 [] []) q8x 100 default (fun g=>qau g.1 g.2.1 g.2.2.1 g.2.2.2.1 g.2.2.2.2) (fun g=>by kernel_rfl) (fun g=>by kernel_rfl) h
end
end Go.Proofs.YthnojkbkojpadaaGreat

namespace Go.Proofs.YthnojkbkojpadaaGreat
noncomputable section
open Go.RowKit Go.Sx Go.Lp
def cdP (tu:Tu) (s:S):Bool:=(q0h s tu.1).2==(0:Int)&&q0k (q0h s tu.1).1 tu.2
def q6y (l:List Path) (p:Place) (t:T) (q:Place) (w:T):Bool:=(sumsR l p q).any (cdP (t,w))
theorem qbz {l:List Path} (hl:l.length≤maxLen) (p q:Place):(sumsR l p q).length≤64:=by
 unfold sumsR
 cases h:chkP l != (0:Int) with
 | true=>exact Nat.zero_le _
 | false=>exact qmj hl (by simpa using h) p q
theorem z1l (xs:List S) (tu:Tu) (h:xs.length≤maxLen):decide (icf_F xs tu≥0)=xs.any (cdP tu):=by
 unfold icf_F qru
 simp only[El.ag_eq]
 have h1:loopF (fun g:icl_G=>icl_R g.1 g.2.1 g.2.2.1 g.2.2.2.1 g.2.2.2.2) icl_M (xs,tu,(xs.length:Int),0,0)=_:=z1j (xs,tu,(xs.length:Int)) (0:Int) rfl h trivial
 rw[h1]
 rcases search (x:=0) (st:=icl_S (xs,tu,(xs.length:Int))) (p:=cdP tu) (r:=fun i _ _=>i) (fun _ _ _=>rfl) xs 0 with ⟨ha,j,hj,a,_,_,h2⟩ | ⟨ha,h2⟩
 ·have h2:scan 0 (icl_S (xs,tu,(xs.length:Int))) 0 xs 0=_:=h2
  rw[h2,ha]
  show decide (j≥0)=true
  exact decide_eq_true hj
 ·have h2:scan 0 (icl_S (xs,tu,(xs.length:Int))) 0 xs 0=_:=h2
  rw[h2,ha]
  rfl
theorem icf_c:q04 Tryz.prog 109 aLScd dI (fun g=>icf_F g.1 g.2) (fun _=>[]):=
 z1m _ fun g hb hp=>by
  obtain ⟨xs,tu⟩:=g
  have hl:xs.length≤maxLen:=hb.1.1
  show qba xs tu
  unfold qba
  simp only[El.okL_eq,El.ag_eq]
  exact ⟨trivial,ixJ0 rfl hl trivial⟩
theorem rcd_c:q04 Tryz.prog 26 aLPcd dBool (fun g=>q6y g.1 g.2.1 g.2.2.1 g.2.2.2.1 g.2.2.2.2) (fun _=>[]):=by
 refine q0b (z07 (fun _=>[]) fun g hb hp=>?_) fun g hb hp=>?_
 ·obtain ⟨l,p,t,q,w⟩:=g
  have hl:l.length≤maxLen:=hb.1.1
  show qau l p t q w
  unfold qau
  simp only[El.okL_eq,El.ag_eq]
  refine ⟨trivial,trivial,ixJ0 rfl ?_ trivial⟩
  have:=qbz hl p q
  unfold maxLen
  show (sumsR l p q).length≤_
  omega
 ·obtain ⟨l,p,t,q,w⟩:=g
  have hl:l.length≤maxLen:=hb.1.1
  have hm:(sumsR l p q).length≤maxLen:=by
   have:=qbz hl p q
   unfold maxLen
   omega
  show rcd_F l p t q w=q6y l p t q w
  unfold rcd_F qrd q6y
  simp only[El.ag_eq]
  have h1:loopF (fun g:cdl_G=>cdl_R g.1 g.2.1 g.2.2.1 g.2.2.2.1 g.2.2.2.2.1 g.2.2.2.2.2) cdl_M (sumsR l p q,0,t,(),w,false)=_:=cdl_run (sumsR l p q,t,w) ((),false) rfl hm trivial
  rw[h1]
  rcases search (x:=0) (st:=cdl_S (sumsR l p q,t,w)) (p:=cdP (t,w)) (r:=fun _ _ _=>((),true)) (fun _ _ _=>rfl) (sumsR l p q) ((),false) with ⟨ha,j,hj,a,_,_,h2⟩ | ⟨ha,h2⟩
  ·have h2:scan 0 (cdl_S (sumsR l p q,t,w)) 0 (sumsR l p q) ((),false)=_:=h2
   rw[h2,ha];rfl
  ·have h2:scan 0 (cdl_S (sumsR l p q,t,w)) 0 (sumsR l p q) ((),false)=_:=h2
   rw[h2,ha];rfl
theorem rff_c:q04 Tryz.prog 23 aLPpc dLE (fun g=>frC g.1 g.2.1 g.2.2) (fun g=>[g.2.2.length≤1000]):=by
 refine q0b (z03 (fun g=>[g.2.2.length≤1000]) fun g hb hp=>?_) fun g hb hp=>?_
 ·obtain ⟨l,p,cs⟩:=g
  have hl:l.length≤maxLen:=hb.1.1
  have hc:cs.length≤1000:=hp _ (List.mem_cons_self ..)
  show qaq l p cs
  unfold qaq
  simp only[El.okL_eq,El.ag_eq,← q5o l hl]
  exact ⟨trivial,fun h=>⟨trivial,trivial,qj6 hl (by simpa using h),hc,trivial⟩⟩
 ·obtain ⟨l,p,cs⟩:=g
  have hl:l.length≤maxLen:=hb.1.1
  show rff_F l p cs=frC l p cs
  unfold rff_F frC
  simp only[El.ag_eq,q5o l hl]
def qqg:MTab Tryz.prog:=((q61.cons 109 (pconP aLScd dI (fun g=>icf_F g.1 g.2) (fun _=>[])) (q0d icf_c puI)).cons 26 (pconP aLPcd dBool (fun g=>q6y g.1 g.2.1 g.2.2.1 g.2.2.2.1 g.2.2.2.2) (fun _=>[])) (q0d rcd_c puB)).cons 23 (pconR aLPpc dLE (fun g=>frC g.1 g.2.1 g.2.2) (fun g=>[g.2.2.length≤1000])) (q1v rff_c)
end
end Go.Proofs.YthnojkbkojpadaaGreat

namespace Go.Proofs.YthnojkbkojpadaaGreat
noncomputable section
open Go.RowKit Go.Sx
set_option linter.unusedVariables false
def cdf_F (l:List Path) (p:Place) (t:T) (q:Place) (w:T):Dv.T dBool:=
 decide (icf_F (eS.ag (sumsR (ePa.ag l) p q)) (t,w)≥(0:Int))
def qbp (l:List Path) (p:Place) (t:T) (q:Place) (w:T):Prop:=
 ePa.okL l∧(ePa.ag l).length≤K30∧eS.okL (sumsR (ePa.ag l) p q)
theorem cdf_okS (pre:DA.T aLPcd→List Prop) (h:∀ g,DA.bd aLPcd g→(∀ p∈pre g,p)→qbp g.1 g.2.1 g.2.2.1 g.2.2.2.1 g.2.2.2.2):q04 Tryz.prog 25 aLPcd dBool (fun g=>cdf_F g.1 g.2.1 g.2.2.1 g.2.2.2.1 g.2.2.2.2) pre:=q08 (Γ:=(MTab.gamz qqg [] [])) (Λ:=qka) (MTab.okz qqg [] []) q8x 100 default (fun g=>qbp g.1 g.2.1 g.2.2.1 g.2.2.2.1 g.2.2.2.2) (fun g=>by kernel_rfl) (fun g=>by kernel_rfl) h
end
end Go.Proofs.YthnojkbkojpadaaGreat

namespace Go.Proofs.YthnojkbkojpadaaGreat
noncomputable section
open Go.RowKit Go.Sx Go.Lp
theorem cdf_c:q04 Tryz.prog 25 aLPcd dBool (fun g=>q6y g.1 g.2.1 g.2.2.1 g.2.2.2.1 g.2.2.2.2) (fun g=>[g.1.length≤K30]):=by
 refine q0b (cdf_okS (fun g=>[g.1.length≤K30]) fun g hb hp=>?_) fun g hb hp=>?_
 ·obtain ⟨l,p,t,q,w⟩:=g
  have hl:l.length≤K30:=hp _ (List.mem_cons_self ..)
  show qbp l p t q w
  unfold qbp
  simp only[El.okL_eq,El.ag_eq]
  exact ⟨trivial,hl,trivial⟩
 ·obtain ⟨l,p,t,q,w⟩:=g
  have hl:l.length≤maxLen:=hb.1.1
  show cdf_F l p t q w=q6y l p t q w
  unfold cdf_F q6y
  simp only[El.ag_eq]
  exact z1l _ (t,w) (by have:=qbz hl p q;unfold maxLen;omega)
def tabM54:MTab Tryz.prog:=qqg.cons 25 (pconP aLPcd dBool (fun g=>q6y g.1 g.2.1 g.2.2.1 g.2.2.2.1 g.2.2.2.2) (fun g=>[g.1.length≤K30])) (q0d cdf_c puB)
end
end Go.Proofs.YthnojkbkojpadaaGreat

namespace Go.Proofs.YthnojkbkojpadaaGreat
open Go.RowKit Go.Sx Go.Lp Go.Shelf Go.Sort
def qph:Go.Shelf.Ren:=⟨fun | 6=>132 | 15=>138 | 14=>159 | 28=>172 | 29=>173 | 20=>189 | 21=>190 | 22=>191 | 23=>192 | 24=>193 | 25=>194 | 26=>195 | 27=>196 | 46=>218 | 47=>202 | 48=>203 | 49=>219 | 50=>220 | 57=>228 | n=>n,fun | 22=>22 | 24=>105 | 25=>107 | 3=>3 | 39=>188 | 0=>0 | 53=>218 | 55=>220 | 4=>4 | 46=>212 | 45=>211 | 50=>27 | 5=>5 | 9=>9 | 66=>237 | 70=>241 | 76=>259 | 77=>260 | n=>n,fun | n=>n⟩
theorem sortPa:SlLaysF0.n6 Tryz.prog qph:={
 mixed:=by kernel_rfl,
 f6:=⟨Tryz.f132.name,by decide,Tryz.func132.trans (congrArg some (by kernel_rfl))⟩,
 f14:=⟨Tryz.f159.name,by decide,Tryz.func159.trans (congrArg some (by kernel_rfl))⟩,
 f15:=Tryz.func138.trans (congrArg some (by kernel_rfl)),
 f20:=⟨Tryz.f189.name,by decide,Tryz.func189.trans (congrArg some (by kernel_rfl))⟩,
 f21:=⟨Tryz.f190.name,by decide,Tryz.func190.trans (congrArg some (by kernel_rfl))⟩,
 f22:=⟨Tryz.f191.name,by decide,Tryz.func191.trans (congrArg some (by kernel_rfl))⟩,
 f23:=⟨Tryz.f192.name,by decide,Tryz.func192.trans (congrArg some (by kernel_rfl))⟩,
 f24:=⟨Tryz.f193.name,by decide,Tryz.func193.trans (congrArg some (by kernel_rfl))⟩,
 f25:=⟨Tryz.f194.name,by decide,Tryz.func194.trans (congrArg some (by kernel_rfl))⟩,
 f26:=⟨Tryz.f195.name,by decide,Tryz.func195.trans (congrArg some (by kernel_rfl))⟩,
 f27:=⟨Tryz.f196.name,by decide,Tryz.func196.trans (congrArg some (by kernel_rfl))⟩,
 f28:=Tryz.func172.trans (congrArg some (by kernel_rfl)),
 f29:=Tryz.func173.trans (congrArg some (by kernel_rfl)),
 f46:=⟨Tryz.f218.name,by decide,Tryz.func218.trans (congrArg some (by kernel_rfl))⟩,
 f47:=Tryz.func202.trans (congrArg some (by kernel_rfl)),
 f48:=Tryz.func203.trans (congrArg some (by kernel_rfl)),
 f49:=⟨Tryz.f219.name,by decide,Tryz.func219.trans (congrArg some (by kernel_rfl))⟩,
 f50:=⟨Tryz.f220.name,by decide,Tryz.func220.trans (congrArg some (by kernel_rfl))⟩,
 f57:=⟨Tryz.f228.name,by decide,Tryz.func228.trans (congrArg some (by kernel_rfl))⟩,
 t0:=Tryz.underlying0,
 a0:=Tryz.isAgg0,
 z0:=Tryz.sizeOf0,
 v0:=Tryz.zeroValue0,
 t3:=Tryz.underlying3,
 a3:=Tryz.isAgg3,
 z3:=Tryz.sizeOf3,
 v3:=Tryz.zeroValue3,
 t4:=Tryz.underlying4,
 a4:=Tryz.isAgg4,
 z4:=Tryz.sizeOf4,
 v4:=Tryz.zeroValue4,
 t5:=Tryz.underlying5,
 a5:=Tryz.isAgg5,
 z5:=Tryz.sizeOf5,
 v5:=Tryz.zeroValue5,
 t9:=Tryz.underlying9,
 a9:=Tryz.isAgg9,
 z9:=Tryz.sizeOf9,
 v9:=Tryz.zeroValue9,
 t22:=Tryz.underlying22,
 a22:=Tryz.isAgg22,
 z22:=Tryz.sizeOf22,
 v22:=Tryz.zeroValue22,
 t25:=Tryz.underlying107,
 a25:=Tryz.isAgg107,
 z25:=Tryz.sizeOf107,
 v25:=Tryz.zeroValue107,
 t39:=Tryz.underlying188,
 a39:=Tryz.isAgg188,
 z39:=Tryz.sizeOf188,
 v39:=Tryz.zeroValue188,
 t45:=Tryz.underlying211,
 a45:=Tryz.isAgg211,
 z45:=Tryz.sizeOf211,
 v45:=Tryz.zeroValue211,
 t46:=Tryz.underlying212,
 a46:=Tryz.isAgg212,
 z46:=Tryz.sizeOf212,
 v46:=Tryz.zeroValue212,
 t50:=Tryz.underlying27,
 a50:=Tryz.isAgg27,
 z50:=Tryz.sizeOf27,
 v50:=Tryz.zeroValue27,
 t53:=Tryz.underlying218,
 a53:=Tryz.isAgg218,
 z53:=Tryz.sizeOf218,
 v53:=Tryz.zeroValue218,
 t55:=Tryz.underlying220,
 a55:=Tryz.isAgg220,
 z55:=Tryz.sizeOf220,
 v55:=Tryz.zeroValue220,
 t66:=Tryz.underlying237,
 a66:=Tryz.isAgg237,
 z66:=Tryz.sizeOf237,
 v66:=Tryz.zeroValue237,
 t70:=Tryz.underlying241,
 a70:=Tryz.isAgg241,
 z70:=Tryz.sizeOf241,
 v70:=Tryz.zeroValue241,
 t76:=Tryz.underlying259,
 a76:=Tryz.isAgg259,
 z76:=Tryz.sizeOf259,
 v76:=Tryz.zeroValue259,
 t77:=Tryz.underlying260,
 a77:=Tryz.isAgg260,
 z77:=Tryz.sizeOf260,
 v77:=Tryz.zeroValue260 }
theorem swoPa:SWO fun x y=>decide (q29 x y<0):=⟨fun x=>by rw[qax];exact toE.swo.irrefl _,fun x y z h1 h2=>by rw[qax] at h1 h2 ⊢;exact toE.swo.trans _ _ _ h1 h2,fun x y z h1 h2=>by rw[qax] at h1 h2 ⊢;exact toE.swo.ntrans _ _ _ h1 h2⟩
abbrev q8a:Dv Unit:=.tup .none
abbrev q9w:DA Unit:=.one (dFn 79)
def q9l (xs:List Path) (_:Unit):List Prop:=[xs.length<4611686018427387904,Anti (fun a b=>q29 a b) xs]
theorem qqr:FnMut Tryz.prog 132 105 ePa q9w (.pure q8a) (fun xs _=>(srtBy (fun a b=>q29 a b) xs,())) q9l:=by
 have h:=qh6 (P:=Tryz.prog) (A:=ePa) (t:=105) (g:=79) (cf:=fun a b=>q29 a b) (pre:=fun _=>[]) sortPa Tryz.isAgg105 Tryz.sizeOf105 (by decide) (Go.Proofs.enters_of Tryz.func79 (by kernel_rfl) rfl) swoPa qrh
 intro w F L xs g v0 vs h1 h2 h3 h4 h5 h6 h7
 refine h w F L xs g v0 vs h1 h2 h3 h4 (fun p hp=>?_) h6 h7
 simp only[List.mem_cons,List.not_mem_nil,or_false] at hp
 rcases hp with rfl | rfl | rfl
 ·exact h5 _ (List.mem_cons_self ..)
 ·exact h5 _ (List.mem_cons_of_mem _ (List.mem_cons_self ..))
 ·exact fun x _ y _ p hp=>by cases hp
end Go.Proofs.YthnojkbkojpadaaGreat

namespace Go.Proofs.YthnojkbkojpadaaGreat
noncomputable section
open Go.RowKit Go.Sx
def qnh (a b:S) (k k' n':Nat):Tr (S×Int):=
 bif Nat.beq k' k then
  .br (decide (w64 (b.a+a.a) > 1048576)) (.ret (zS,12)) (.ret (mkS a.f k' (w64 (b.a+a.a)) n' b.p,0))
 else bif Nat.blt k k' then
  .br (decide (w64 (a.p.getD (k' - k - 1) 0+b.a) > 1048576)) (.ret (zS,12)) (.br (decide (a.a > 1048576)) (.ret (zS,12)) (.ret (mkS a.f k a.a (k' - k+n':Nat) ((a.p.take (k' - k - 1)++[w64 (a.p.getD (k' - k - 1) 0+b.a)])++b.p.take n'),0)))
 else
  .br (decide (b.a > 1048576)) (.ret (zS,12)) (.ret (mkS a.f k' b.a n' b.p,0))
def qv9 (a b:S) (k n k' n':Nat):Tr (S×Int):=
 .br (!may_F (litS a k n)||!may_F (litS b k' n')) (.ret (zS,20)) (.br (w64 ((k:Int)+n) != b.f) (.ret (zS,11)) (qnh a b k k' n'))
set_option maxHeartbeats 4000000 in
theorem qqa (a b:S) (k n k' n':Nat) (h1:k+n≤4) (h2:k'≤k+n) (h3:k'+n'≤4):dTree Tryz.prog g3 noΛ 100 197 [encK a k n,encK b k' n'] dSE=qv9 a b k n k' n':=by
 rcases four (show k≤4 by omega) with rfl | rfl | rfl | rfl | rfl <;> rcases four (show n≤4 by omega) with rfl | rfl | rfl | rfl | rfl <;> first
  | (exfalso;omega)
  | (rcases four (show k'≤4 by omega) with rfl | rfl | rfl | rfl | rfl <;> first
    | (exfalso;omega)
    | (rcases four (show n'≤4 by omega) with rfl | rfl | rfl | rfl | rfl <;> first
      | (exfalso;omega)
      | as_aux_lemma=>kernel_rfl))
theorem qqb (a b:S):dTree Tryz.prog g3 noΛ 100 197 (aSS.enc (a,b)) dSE=.br (!may_F a||!may_F b) (.ret (zS,20)) (els (dTree Tryz.prog g3 noΛ 100 197 (aSS.enc (a,b)) dSE)):=by kernel_rfl
theorem qsx (a b:S):els (dTree Tryz.prog g3 noΛ 100 197 (aSS.enc (a,b)) dSE)=.br (w64 (a.k+a.n) != b.f) (.ret (zS,11)) (els (els (dTree Tryz.prog g3 noΛ 100 197 (aSS.enc (a,b)) dSE))):=by kernel_rfl
def thenC (a b:S) (k k' n':Nat):S×Int:=
 bif Nat.beq k' k then (bif decide (b.a+a.a > 1048576) then (zS,12) else (mkS a.f k (b.a+a.a) n' b.p,0))
 else bif Nat.blt k k' then (bif decide (a.p.getD (k' - k - 1) 0+b.a > 1048576) then (zS,12) else (mkS a.f k a.a (k' - k+n':Nat) ((a.p.take (k' - k - 1)++[a.p.getD (k' - k - 1) 0+b.a])++b.p.take n'),0))
 else (mkS a.f k' b.a n' b.p,0)
def thenF (a b:S):S×Int:=
 bif !may_F a||!may_F b then (zS,20) else bif a.k+a.n != b.f then (zS,11) else thenC a b a.k.toNat b.k.toNat b.n.toNat
theorem qpd {a b:S} (ha:may_F a=true) (hb:may_F b=true) (he:a.k+a.n=b.f):a.k.toNat+a.n.toNat≤4∧b.k.toNat≤a.k.toNat+a.n.toNat∧b.k.toNat+b.n.toNat≤4:=by
 have fa:=((q2u a).1 ha).1
 have fb:=((q2u b).1 hb).1
 omega
theorem qpe {a b:S} (ha:may_F a=true) (hb:may_F b=true) (he:a.k+a.n=b.f):thenF a b=thenC a b a.k.toNat b.k.toNat b.n.toNat:=by
 unfold thenF
 rw[ha,hb,he]
 simp
theorem then_ok:q04 Tryz.prog 197 aSS dSE (fun g=>thenF g.1 g.2) (fun _=>[]):=by
 refine q2f (Γ:=g3) (Λ:=noΛ) (tab3.okz [] []) q0o 100 fun g _ _=>?_
 obtain ⟨a,b⟩:=g
 show ∃ args,(∀ n ρ x,SV.fits n ρ (aSS.enc (a,b)) x→SV.fits n ρ args x)∧(dTree Tryz.prog g3 noΛ 100 197 args dSE).Holds (·=thenF a b)
 cases hab:(!may_F a||!may_F b) with
 | true=>
  refine ⟨_,fun _ _ _ h=>h,?_⟩
  rw[qqb]
  generalize els (dTree Tryz.prog g3 noΛ 100 197 (aSS.enc (a,b)) dSE)=r
  refine ⟨fun _=>?_,fun hc=>(by rw[hab] at hc;cases hc)⟩
  show (zS,(20:Int))=thenF a b
  unfold thenF;rw[hab];rfl
 | false=>
  obtain ⟨ha,hb⟩:=notOr hab
  have oa:=(q2u a).1 ha
  have ob:=(q2u b).1 hb
  have fa:=oa.1
  have fb:=ob.1
  have hw:w64 (a.k+a.n)=a.k+a.n:=wr (by omega)
  by_cases he:a.k+a.n=b.f
  ·obtain ⟨h1,h2,h3⟩:=qpd ha hb he
   obtain ⟨ka,na,_⟩:=sizes oa
   obtain ⟨kb,nb,_⟩:=sizes ob
   refine ⟨[encK a a.k.toNat a.n.toNat,encK b b.k.toNat b.n.toNat],fun _ _ _ h=>qdf ka na kb nb h,?_⟩
   rw[qqa a b _ _ _ _ h1 h2 h3,qpe ha hb he]
   unfold qv9
   rw[q5g ka na,q5g kb nb,hab,← ka,← na,hw,he]
   refine ⟨fun hc=>(by cases hc),fun _=>⟨fun hc=>(by simp at hc),fun _=>?_⟩⟩
   have hp:=p_get oa (b.k.toNat - a.k.toNat - 1)
   have ga:=oa.2.1
   have gb:=ob.2.1
   unfold qnh thenC
   cases hk:Nat.beq b.k.toNat a.k.toNat with
   | true=>
    rw[q03 hk]
    have hw2:w64 (b.a+a.a)=b.a+a.a:=wr (by omega)
    simp only[cond_true,hw2]
    exact ⟨fun h=>by rw[h];rfl,fun h=>by rw[h];rfl⟩
   | false=>
    simp only[cond_false]
    cases hl:Nat.blt a.k.toNat b.k.toNat with
    | true=>
     have hw2:w64 (a.p.getD (b.k.toNat - a.k.toNat - 1) 0+b.a)=a.p.getD (b.k.toNat - a.k.toNat - 1) 0+b.a:=wr (by omega)
     simp only[cond_true,hw2]
     exact ⟨fun h=>by rw[h];rfl,fun h=>⟨fun h'=>by simp at h';omega,fun _=>by rw[h];rfl⟩⟩
    | false=>
     simp only[cond_false]
     exact ⟨fun h'=>by simp at h';omega,fun _=>rfl⟩
  ·refine ⟨_,fun _ _ _ h=>h,?_⟩
   rw[qqb]
   refine ⟨fun hc=>(by rw[hab] at hc;cases hc),fun _=>?_⟩
   rw[qsx,hw]
   generalize els (els (dTree Tryz.prog g3 noΛ 100 197 (aSS.enc (a,b)) dSE))=r
   refine ⟨fun _=>?_,fun hc=>absurd (bne_eq_false_iff_eq.1 hc) he⟩
   show (zS,(11:Int))=thenF a b
   unfold thenF;rw[hab,show (a.k+a.n != b.f)=true by simpa using he];rfl
end
end Go.Proofs.YthnojkbkojpadaaGreat

namespace Go.Proofs.YthnojkbkojpadaaGreat
noncomputable section
open Go.RowKit Go.Sx
set_option linter.unusedVariables false
def qvg:PTab Tryz.prog:=PTab.nil.cons 197 (pconP aSS dSE (fun g=>thenF g.1 g.2) (fun _=>[])) (q0d then_ok puSE)
abbrev aSsS:DA (List S×S×List S):=.cons dLS (.cons dS (.one dLS))
abbrev rLSt:Rv (List S):=.list eS
def thr_F (a:List S) (x:S) (b:List S):Rv.T rLSt:=
 bif decide ((0:Int)<(↑a.length:Int)) then bif (thenF (a.getD (0:Nat) eS.dflt) x).snd != (0:Int) then bif decide ((1:Int)<(↑a.length:Int)) then bif (thenF (a.getD (1:Nat) eS.dflt) x).snd != (0:Int) then default else bif decide ((0:Int)<(↑b.length:Int)) then bif (thenF (thenF (a.getD (1:Nat) eS.dflt) x).fst (b.getD (0:Nat) eS.dflt)).snd==(0:Int) then bif decide ((1:Int)<(↑b.length:Int)) then bif (thenF (thenF (a.getD (1:Nat) eS.dflt) x).fst (b.getD (1:Nat) eS.dflt)).snd==(0:Int) then default else default else default else bif decide ((1:Int)<(↑b.length:Int)) then bif (thenF (thenF (a.getD (1:Nat) eS.dflt) x).fst (b.getD (1:Nat) eS.dflt)).snd==(0:Int) then default else default else default else default else [] else bif decide ((0:Int)<(↑b.length:Int)) then bif (thenF (thenF (a.getD (0:Nat) eS.dflt) x).fst (b.getD (0:Nat) eS.dflt)).snd==(0:Int) then bif decide ((1:Int)<(↑b.length:Int)) then bif (thenF (thenF (a.getD (0:Nat) eS.dflt) x).fst (b.getD (1:Nat) eS.dflt)).snd==(0:Int) then default else default else bif decide ((1:Int)<(↑a.length:Int)) then bif (thenF (a.getD (1:Nat) eS.dflt) x).snd != (0:Int) then default else bif decide ((0:Int)<(↑b.length:Int)) then bif (thenF (thenF (a.getD (1:Nat) eS.dflt) x).fst (b.getD (0:Nat) eS.dflt)).snd==(0:Int) then bif decide ((1:Int)<(↑b.length:Int)) then bif (thenF (thenF (a.getD (1:Nat) eS.dflt) x).fst (b.getD (1:Nat) eS.dflt)).snd==(0:Int) then default else default else default else bif decide ((1:Int)<(↑b.length:Int)) then bif (thenF (thenF (a.getD (1:Nat) eS.dflt) x).fst (b.getD (1:Nat) eS.dflt)).snd==(0:Int) then default else default else default else default else List.map (fun x=>eS.get []) (List.range (min (1:Nat) (0:Nat)))++List.map (fun x_1=>(thenF (thenF (a.getD (0:Nat) eS.dflt) x).fst (b.getD (0:Nat) eS.dflt)).fst) (List.range (1:Nat)) else bif decide ((1:Int)<(↑b.length:Int)) then bif (thenF (thenF (a.getD (0:Nat) eS.dflt) x).fst (b.getD (1:Nat) eS.dflt)).snd==(0:Int) then default else default else bif decide ((1:Int)<(↑a.length:Int)) then bif (thenF (a.getD (1:Nat) eS.dflt) x).snd != (0:Int) then default else bif decide ((0:Int)<(↑b.length:Int)) then bif (thenF (thenF (a.getD (1:Nat) eS.dflt) x).fst (b.getD (0:Nat) eS.dflt)).snd==(0:Int) then bif decide ((1:Int)<(↑b.length:Int)) then bif (thenF (thenF (a.getD (1:Nat) eS.dflt) x).fst (b.getD (1:Nat) eS.dflt)).snd==(0:Int) then default else default else default else bif decide ((1:Int)<(↑b.length:Int)) then bif (thenF (thenF (a.getD (1:Nat) eS.dflt) x).fst (b.getD (1:Nat) eS.dflt)).snd==(0:Int) then default else default else default else default else [] else bif decide ((1:Int)<(↑a.length:Int)) then bif (thenF (a.getD (1:Nat) eS.dflt) x).snd != (0:Int) then default else bif decide ((0:Int)<(↑b.length:Int)) then bif (thenF (thenF (a.getD (1:Nat) eS.dflt) x).fst (b.getD (0:Nat) eS.dflt)).snd==(0:Int) then bif decide ((1:Int)<(↑b.length:Int)) then bif (thenF (thenF (a.getD (1:Nat) eS.dflt) x).fst (b.getD (1:Nat) eS.dflt)).snd==(0:Int) then default else default else default else bif decide ((1:Int)<(↑b.length:Int)) then bif (thenF (thenF (a.getD (1:Nat) eS.dflt) x).fst (b.getD (1:Nat) eS.dflt)).snd==(0:Int) then default else default else default else default else []
 else []
def qag (a:List S) (x:S) (b:List S):Prop:=
 decide ((0:Int)<(↑a.length:Int))=true→((0:Int)≤(0:Int)∧(0:Int)<(↑a.length:Int))∧(((thenF (a.getD (0:Nat) eS.dflt) x).snd != (0:Int))=true→decide ((1:Int)<(↑a.length:Int))=true→((0:Int)≤(1:Int)∧(1:Int)<(↑a.length:Int))∧(((thenF (a.getD (1:Nat) eS.dflt) x).snd != (0:Int))=true→False)∧(((thenF (a.getD (1:Nat) eS.dflt) x).snd != (0:Int))=false→(decide ((0:Int)<(↑b.length:Int))=true→((0:Int)≤(0:Int)∧(0:Int)<(↑b.length:Int))∧(((thenF (thenF (a.getD (1:Nat) eS.dflt) x).fst (b.getD (0:Nat) eS.dflt)).snd==(0:Int))=true→(True∧True∧(1:Nat)≤maxLen∧(64:Nat)≤(140737488355328:Nat))∧(decide ((1:Int)<(↑b.length:Int))=true→((0:Int)≤(1:Int)∧(1:Int)<(↑b.length:Int))∧(((thenF (thenF (a.getD (1:Nat) eS.dflt) x).fst (b.getD (1:Nat) eS.dflt)).snd==(0:Int))=true→((1:Nat)≤(1:Nat)∧True∧(2:Nat)≤maxLen∧(128:Nat)≤(140737488355328:Nat))∧False)∧(((thenF (thenF (a.getD (1:Nat) eS.dflt) x).fst (b.getD (1:Nat) eS.dflt)).snd==(0:Int))=false→False))∧(decide ((1:Int)<(↑b.length:Int))=false→False))∧(((thenF (thenF (a.getD (1:Nat) eS.dflt) x).fst (b.getD (0:Nat) eS.dflt)).snd==(0:Int))=false→(decide ((1:Int)<(↑b.length:Int))=true→((0:Int)≤(1:Int)∧(1:Int)<(↑b.length:Int))∧(((thenF (thenF (a.getD (1:Nat) eS.dflt) x).fst (b.getD (1:Nat) eS.dflt)).snd==(0:Int))=true→(True∧True∧(1:Nat)≤maxLen∧(64:Nat)≤(140737488355328:Nat))∧False)∧(((thenF (thenF (a.getD (1:Nat) eS.dflt) x).fst (b.getD (1:Nat) eS.dflt)).snd==(0:Int))=false→False))∧(decide ((1:Int)<(↑b.length:Int))=false→False)))∧(decide ((0:Int)<(↑b.length:Int))=false→False)))∧(((thenF (a.getD (0:Nat) eS.dflt) x).snd != (0:Int))=false→(decide ((0:Int)<(↑b.length:Int))=true→((0:Int)≤(0:Int)∧(0:Int)<(↑b.length:Int))∧(((thenF (thenF (a.getD (0:Nat) eS.dflt) x).fst (b.getD (0:Nat) eS.dflt)).snd==(0:Int))=true→(True∧True∧(1:Nat)≤maxLen∧(64:Nat)≤(140737488355328:Nat))∧(decide ((1:Int)<(↑b.length:Int))=true→((0:Int)≤(1:Int)∧(1:Int)<(↑b.length:Int))∧(((thenF (thenF (a.getD (0:Nat) eS.dflt) x).fst (b.getD (1:Nat) eS.dflt)).snd==(0:Int))=true→((1:Nat)≤(1:Nat)∧True∧(2:Nat)≤maxLen∧(128:Nat)≤(140737488355328:Nat))∧False)∧(((thenF (thenF (a.getD (0:Nat) eS.dflt) x).fst (b.getD (1:Nat) eS.dflt)).snd==(0:Int))=false→False))∧(decide ((1:Int)<(↑b.length:Int))=false→(decide ((1:Int)<(↑a.length:Int))=true→((0:Int)≤(1:Int)∧(1:Int)<(↑a.length:Int))∧(((thenF (a.getD (1:Nat) eS.dflt) x).snd != (0:Int))=true→False)∧(((thenF (a.getD (1:Nat) eS.dflt) x).snd != (0:Int))=false→(decide ((0:Int)<(↑b.length:Int))=true→((0:Int)≤(0:Int)∧(0:Int)<(↑b.length:Int))∧(((thenF (thenF (a.getD (1:Nat) eS.dflt) x).fst (b.getD (0:Nat) eS.dflt)).snd==(0:Int))=true→((1:Nat)≤(1:Nat)∧True∧(2:Nat)≤maxLen∧(128:Nat)≤(140737488355328:Nat))∧(decide ((1:Int)<(↑b.length:Int))=true→((0:Int)≤(1:Int)∧(1:Int)<(↑b.length:Int))∧(((thenF (thenF (a.getD (1:Nat) eS.dflt) x).fst (b.getD (1:Nat) eS.dflt)).snd==(0:Int))=true→((2:Nat)≤(2:Nat)∧True∧(3:Nat)≤maxLen∧(192:Nat)≤(140737488355328:Nat))∧False)∧(((thenF (thenF (a.getD (1:Nat) eS.dflt) x).fst (b.getD (1:Nat) eS.dflt)).snd==(0:Int))=false→False))∧(decide ((1:Int)<(↑b.length:Int))=false→False))∧(((thenF (thenF (a.getD (1:Nat) eS.dflt) x).fst (b.getD (0:Nat) eS.dflt)).snd==(0:Int))=false→(decide ((1:Int)<(↑b.length:Int))=true→((0:Int)≤(1:Int)∧(1:Int)<(↑b.length:Int))∧(((thenF (thenF (a.getD (1:Nat) eS.dflt) x).fst (b.getD (1:Nat) eS.dflt)).snd==(0:Int))=true→((1:Nat)≤(1:Nat)∧True∧(2:Nat)≤maxLen∧(128:Nat)≤(140737488355328:Nat))∧False)∧(((thenF (thenF (a.getD (1:Nat) eS.dflt) x).fst (b.getD (1:Nat) eS.dflt)).snd==(0:Int))=false→False))∧(decide ((1:Int)<(↑b.length:Int))=false→False)))∧(decide ((0:Int)<(↑b.length:Int))=false→False)))∧(decide ((1:Int)<(↑a.length:Int))=false→(1:Nat)≤(1:Nat)∧(∀ (e:Nat),e<min (1:Nat) (0:Nat)→eS.OkP [])∧∀ (e:Nat),e<(1:Nat)→True)))∧(((thenF (thenF (a.getD (0:Nat) eS.dflt) x).fst (b.getD (0:Nat) eS.dflt)).snd==(0:Int))=false→(decide ((1:Int)<(↑b.length:Int))=true→((0:Int)≤(1:Int)∧(1:Int)<(↑b.length:Int))∧(((thenF (thenF (a.getD (0:Nat) eS.dflt) x).fst (b.getD (1:Nat) eS.dflt)).snd==(0:Int))=true→(True∧True∧(1:Nat)≤maxLen∧(64:Nat)≤(140737488355328:Nat))∧False)∧(((thenF (thenF (a.getD (0:Nat) eS.dflt) x).fst (b.getD (1:Nat) eS.dflt)).snd==(0:Int))=false→False))∧(decide ((1:Int)<(↑b.length:Int))=false→decide ((1:Int)<(↑a.length:Int))=true→((0:Int)≤(1:Int)∧(1:Int)<(↑a.length:Int))∧(((thenF (a.getD (1:Nat) eS.dflt) x).snd != (0:Int))=true→False)∧(((thenF (a.getD (1:Nat) eS.dflt) x).snd != (0:Int))=false→(decide ((0:Int)<(↑b.length:Int))=true→((0:Int)≤(0:Int)∧(0:Int)<(↑b.length:Int))∧(((thenF (thenF (a.getD (1:Nat) eS.dflt) x).fst (b.getD (0:Nat) eS.dflt)).snd==(0:Int))=true→(True∧True∧(1:Nat)≤maxLen∧(64:Nat)≤(140737488355328:Nat))∧(decide ((1:Int)<(↑b.length:Int))=true→((0:Int)≤(1:Int)∧(1:Int)<(↑b.length:Int))∧(((thenF (thenF (a.getD (1:Nat) eS.dflt) x).fst (b.getD (1:Nat) eS.dflt)).snd==(0:Int))=true→((1:Nat)≤(1:Nat)∧True∧(2:Nat)≤maxLen∧(128:Nat)≤(140737488355328:Nat))∧False)∧(((thenF (thenF (a.getD (1:Nat) eS.dflt) x).fst (b.getD (1:Nat) eS.dflt)).snd==(0:Int))=false→False))∧(decide ((1:Int)<(↑b.length:Int))=false→False))∧(((thenF (thenF (a.getD (1:Nat) eS.dflt) x).fst (b.getD (0:Nat) eS.dflt)).snd==(0:Int))=false→(decide ((1:Int)<(↑b.length:Int))=true→((0:Int)≤(1:Int)∧(1:Int)<(↑b.length:Int))∧(((thenF (thenF (a.getD (1:Nat) eS.dflt) x).fst (b.getD (1:Nat) eS.dflt)).snd==(0:Int))=true→(True∧True∧(1:Nat)≤maxLen∧(64:Nat)≤(140737488355328:Nat))∧False)∧(((thenF (thenF (a.getD (1:Nat) eS.dflt) x).fst (b.getD (1:Nat) eS.dflt)).snd==(0:Int))=false→False))∧(decide ((1:Int)<(↑b.length:Int))=false→False)))∧(decide ((0:Int)<(↑b.length:Int))=false→False)))))∧(decide ((0:Int)<(↑b.length:Int))=false→decide ((1:Int)<(↑a.length:Int))=true→((0:Int)≤(1:Int)∧(1:Int)<(↑a.length:Int))∧(((thenF (a.getD (1:Nat) eS.dflt) x).snd != (0:Int))=true→False)∧(((thenF (a.getD (1:Nat) eS.dflt) x).snd != (0:Int))=false→(decide ((0:Int)<(↑b.length:Int))=true→((0:Int)≤(0:Int)∧(0:Int)<(↑b.length:Int))∧(((thenF (thenF (a.getD (1:Nat) eS.dflt) x).fst (b.getD (0:Nat) eS.dflt)).snd==(0:Int))=true→(True∧True∧(1:Nat)≤maxLen∧(64:Nat)≤(140737488355328:Nat))∧(decide ((1:Int)<(↑b.length:Int))=true→((0:Int)≤(1:Int)∧(1:Int)<(↑b.length:Int))∧(((thenF (thenF (a.getD (1:Nat) eS.dflt) x).fst (b.getD (1:Nat) eS.dflt)).snd==(0:Int))=true→((1:Nat)≤(1:Nat)∧True∧(2:Nat)≤maxLen∧(128:Nat)≤(140737488355328:Nat))∧False)∧(((thenF (thenF (a.getD (1:Nat) eS.dflt) x).fst (b.getD (1:Nat) eS.dflt)).snd==(0:Int))=false→False))∧(decide ((1:Int)<(↑b.length:Int))=false→False))∧(((thenF (thenF (a.getD (1:Nat) eS.dflt) x).fst (b.getD (0:Nat) eS.dflt)).snd==(0:Int))=false→(decide ((1:Int)<(↑b.length:Int))=true→((0:Int)≤(1:Int)∧(1:Int)<(↑b.length:Int))∧(((thenF (thenF (a.getD (1:Nat) eS.dflt) x).fst (b.getD (1:Nat) eS.dflt)).snd==(0:Int))=true→(True∧True∧(1:Nat)≤maxLen∧(64:Nat)≤(140737488355328:Nat))∧False)∧(((thenF (thenF (a.getD (1:Nat) eS.dflt) x).fst (b.getD (1:Nat) eS.dflt)).snd==(0:Int))=false→False))∧(decide ((1:Int)<(↑b.length:Int))=false→False)))∧(decide ((0:Int)<(↑b.length:Int))=false→False))))
theorem qz2 (pre:DA.T aSsS→List Prop) (h:∀ g,DA.bd aSsS g→(∀ p∈pre g,p)→qag g.1 g.2.1 g.2.2):q04 Tryz.prog 160 aSsS (Rv.D rLSt) (fun g=>thr_F g.1 g.2.1 g.2.2) pre:=q1a (R:=rLSt) (Γ:=(PTab.gamz qvg [] [(160,3,2),(160,8,2)])) (Λ:=noΛ) (PTab.okz qvg [] [(160,3,2),(160,8,2)]) q0o 100 default (fun g=>qag g.1 g.2.1 g.2.2) (fun g=>by kernel_rfl) (fun g=>by kernel_rfl) h
end
end Go.Proofs.YthnojkbkojpadaaGreat

namespace Go.Proofs.YthnojkbkojpadaaGreat
noncomputable section
open Go.RowKit Go.Sx
def thrL (a:List S) (x:S) (b:List S):List S:=a.flatMap fun s=>bif (thenF s x).2 != (0:Int) then [] else b.flatMap fun t=>bif (thenF (thenF s x).1 t).2==(0:Int) then [(thenF (thenF s x).1 t).1] else []
theorem short {α:Type} {l:List α} (h:l.length≤1):l=[]∨∃ a,l=[a]:=by
 match l,h with
 | [],_=>exact .inl rfl
 | [a],_=>exact .inr ⟨a,rfl⟩
theorem thr_c:q04 Tryz.prog 160 aSsS (Rv.D rLSt) (fun g=>thrL g.1 g.2.1 g.2.2) (fun g=>[g.1.length≤1,g.2.2.length≤1]):=by
 refine q0b (qz2 (fun g=>[g.1.length≤1,g.2.2.length≤1]) fun g hb hp=>?_) fun g hb hp=>?_
 ·obtain ⟨a,x,b⟩:=g
  have h1:a.length≤1:=hp _ (List.mem_cons_self ..)
  have h2:b.length≤1:=hp _ (List.mem_cons_of_mem _ (List.mem_cons_self ..))
  show qag a x b
  unfold qag
  try simp only[El.okL_eq,El.ag_eq]
  rcases short h1 with rfl | ⟨s,rfl⟩ <;> rcases short h2 with rfl | ⟨t,rfl⟩ <;> simp[maxLen,El.okL_eq]
 ·obtain ⟨a,x,b⟩:=g
  have h1:a.length≤1:=hp _ (List.mem_cons_self ..)
  have h2:b.length≤1:=hp _ (List.mem_cons_of_mem _ (List.mem_cons_self ..))
  show thr_F a x b=thrL a x b
  unfold thr_F thrL
  rcases short h1 with rfl | ⟨s,rfl⟩ <;> rcases short h2 with rfl | ⟨t,rfl⟩ <;> simp[El.ag_eq]
end
end Go.Proofs.YthnojkbkojpadaaGreat

namespace Go.Proofs.YthnojkbkojpadaaGreat
noncomputable section
open Go.RowKit Go.Sx Go.Lp
abbrev pordI (xs:List Path):List Path:=isrt (fun a b=>q29 a b) xs
theorem qt3:FnMut Tryz.prog 132 105 ePa q9w (.pure q8a) (fun xs _=>(pordI xs,())) q9l:=
 qcm qqr fun xs g _ _ hp=>by
  show (srtBy (fun a b=>q29 a b) xs,())=_
  rw[isrt_srtBy swoPa (hp _ (List.mem_cons_of_mem _ (List.mem_cons_self ..)))]
def eLSB:El (List S):=eListB eS fun _=>rfl
def ePaB:El Path:=.iso (.pair eP (.pair eP eLSB)) Path.ofP Path.toP (fun _=>rfl) (fun _=>rfl)
abbrev qyx:DA (List Path×Place×List q0j):=.cons (.listB ePaB) (.cons dP (.one (.listB eC)))
theorem frf_cB:q04 Tryz.prog 22 qyx dLE (fun g=>frC g.1 g.2.1 g.2.2) (fun g=>[g.1.length≤K30,g.2.2.length≤1000]):=frf_c
abbrev aLPoB:DA (List Path):=.one (.listB ePaB)
theorem tbl_cB:FnT Tryz.prog 57 TA.nil aLPoB (TR.ct (CT.ptr 113 cTb) rfl) (fun _ l=>((),tblC l)) (fun _ l=>[l.length≤K30]):=tbl_c
theorem dpf_cP:q04 Tryz.prog 13 aLPp dIBo (fun g=>depR g.1 g.2) (fun g=>[g.1.length≤K30]):=dpf_c
def tabV2p:PTab Tryz.prog:=((((PTab.nil.cons 33 (pconP aLPo dI chkP (fun _=>[])) (q0d rck_c puI)).cons 13 (pconP aLPp dIBo (fun g=>depR g.1 g.2) (fun g=>[g.1.length≤K30])) (q0d dpf_cP puIBo)).cons 197 (pconP aSS dSE (fun g=>thenF g.1 g.2) (fun _=>[])) (q0d then_ok puSE)).cons 24 (pconP aLL dBool (fun g=>decide (g.1=g.2)) (fun _=>[])) (q0d qs7 puB)).cons 160 (pconR aSsS (Rv.D rLSt) (fun g=>thrL g.1 g.2.1 g.2.2) (fun g=>[g.1.length≤1,g.2.2.length≤1])) (q1v thr_c)
def qvh:MTab Tryz.prog:=((((MTab.of tabV2p).consM 132 (bconM 105 ePa q9w (.pure q8a) (fun xs _=>(pordI xs,())) q9l) (qdq qt3)).consM 22 (fconR qyx dLE (fun g=>frC g.1 g.2.1 g.2.2) (fun g=>[g.1.length≤K30,g.2.2.length≤1000])) (fconR_ok frf_cB)).consM 57 (fconT TA.nil aLPoB (TR.ct (CT.ptr 113 cTb) rfl) (fun _ l=>((),tblC l)) (fun _ l=>[l.length≤K30])) (fconT_ok tbl_cB)).consM 124 (lconR eS DA.none (Rv.D Su.rLE) (fun g=>Su.q14 g.1) (fun g=>[g.1.length≤Su.KS])) (qn7 (qce Su.qk9))
def usV:List (Nat×Nat×Nat):=[(94,6,3),(51,3,2),(133,3,3),(133,6,3)]
abbrev lvT:Tr Bool:=dTree Tryz.prog (MTab.gamz qvh [(4000000,0)] usV) noΛ 100 11 (DA.enc .none ()) dBool
end
end Go.Proofs.YthnojkbkojpadaaGreat

namespace Go.Proofs.YthnojkbkojpadaaGreat
noncomputable section
open Go.RowKit Go.Sx Go.Lp
theorem all_nil:∀ p∈([]:List Prop),p:=fun _ h=>by cases h
theorem all_cons {a:Prop} {l:List Prop} (h:a) (hl:∀ p∈l,p):∀ p∈a :: l,p:=fun p hp=>by
 rcases List.mem_cons.1 hp with e | hp
 ·rw[e];exact h
 ·exact hl p hp
abbrev lvA:List Prop:=[(∀ (e:Nat),e<(0:Nat)→(4:Nat)=(4:Nat)),
 (∀ (e:Nat),e<(0:Nat)→True),
 (∀ (e:Nat),e<(0:Nat)→(4:Nat)=(4:Nat)),
 (∀ (e:Nat),e<(0:Nat)→True),
 (True∧True∧(1:Nat)≤(9223372036854775807:Nat)∧(56:Nat)≤(140737488355328:Nat)),
 (∀ (e:Nat),e<(1:Nat)→(4:Nat)=(4:Nat)),
 (∀ (e:Nat),e<(1:Nat)→True),
 (∀ (e:Nat),e<(1:Nat)→(4:Nat)=(4:Nat)),
 (∀ (e:Nat),e<(1:Nat)→True),
 ((1:Nat)≤(1:Nat)∧True∧(2:Nat)≤(9223372036854775807:Nat)∧(112:Nat)≤(140737488355328:Nat)),
 ((2:Nat)=(2:Nat)),
 (∀ (e:Nat),e<(0:Nat)→ePa.OkP []),
 (∀ (e:Nat),e<(1:Nat)→∀ (p:Prop),p∈[]++[]++([]++[]++[∀ (e:Nat),e<(1:Nat)→eS.Ok (List.take (8:Nat) (List.drop ((0:Nat)+e * (8:Nat)) [SV.k (Value.int IntKind.i64 (0:Int)),SV.k (Value.int IntKind.i64 (0:Int)),SV.k (Value.int IntKind.i64 (0:Int)),SV.k (Value.int IntKind.i64 (0:Int)),SV.k (Value.int IntKind.i64 (0:Int)),SV.k (Value.int IntKind.i64 (0:Int)),SV.k (Value.int IntKind.i64 (0:Int)),SV.k (Value.int IntKind.i64 (0:Int))]))])→p),
 (∀ (e:Nat),e<(1:Nat)→∀ (p:Prop),p∈[]++[]++([]++[]++[∀ (e:Nat),e<(1:Nat)→eS.Ok (List.take (8:Nat) (List.drop ((0:Nat)+e * (8:Nat)) [SV.k (Value.int IntKind.i64 (0:Int)),SV.k (Value.int IntKind.i64 (0:Int)),SV.k (Value.int IntKind.i64 (0:Int)),SV.k (Value.int IntKind.i64 (0:Int)),SV.k (Value.int IntKind.i64 (0:Int)),SV.k (Value.int IntKind.i64 (0:Int)),SV.k (Value.int IntKind.i64 (0:Int)),SV.k (Value.int IntKind.i64 (0:Int))]))])→p),
 ((2:Nat)<(4611686018427387904:Nat)),
 (Anti (fun a b=>q29 a b) [Path.mk (Place.mk (1:Int) (2:Int)) (Place.mk (1:Int) (2:Int)) [S.mk (0:Int) (0:Int) (0:Int) (0:Int) (0:Int) (0:Int) (0:Int) (0:Int)],Path.mk (Place.mk (2:Int) (0:Int)) (Place.mk (2:Int) (0:Int)) [S.mk (0:Int) (0:Int) (0:Int) (0:Int) (0:Int) (0:Int) (0:Int) (0:Int)]]),
 ((2:Nat)≤(2:Nat)),
 (∀ (e:Nat),e<(2:Nat)→ePa.Ok ((ElE.fn (ePa.els [Path.mk (Place.mk (1:Int) (2:Int)) (Place.mk (1:Int) (2:Int)) [S.mk (0:Int) (0:Int) (0:Int) (0:Int) (0:Int) (0:Int) (0:Int) (0:Int)],Path.mk (Place.mk (2:Int) (0:Int)) (Place.mk (2:Int) (0:Int)) [S.mk (0:Int) (0:Int) (0:Int) (0:Int) (0:Int) (0:Int) (0:Int) (0:Int)]])).at e)),
 ((2:Nat)≤(2:Nat)),
 (∀ (e:Nat),e<(2:Nat)→ePa.Ok ((ElE.fn (ePa.els [Path.mk (Place.mk (1:Int) (2:Int)) (Place.mk (1:Int) (2:Int)) [S.mk (0:Int) (0:Int) (0:Int) (0:Int) (0:Int) (0:Int) (0:Int) (0:Int)],Path.mk (Place.mk (2:Int) (0:Int)) (Place.mk (2:Int) (0:Int)) [S.mk (0:Int) (0:Int) (0:Int) (0:Int) (0:Int) (0:Int) (0:Int) (0:Int)]])).at e)),
 ((2:Nat)≤(1000000:Nat)),
 ((2:Nat)≤(2:Nat)),
 (∀ (e:Nat),e<(2:Nat)→ePa.Ok ((ElE.fn (ePa.els [Path.mk (Place.mk (1:Int) (2:Int)) (Place.mk (1:Int) (2:Int)) [S.mk (0:Int) (0:Int) (0:Int) (0:Int) (0:Int) (0:Int) (0:Int) (0:Int)],Path.mk (Place.mk (2:Int) (0:Int)) (Place.mk (2:Int) (0:Int)) [S.mk (0:Int) (0:Int) (0:Int) (0:Int) (0:Int) (0:Int) (0:Int) (0:Int)]])).at e)),
 ((2:Nat)≤(1000000:Nat)),
 ((2:Nat)≤(2:Nat)),
 ((2:Nat)≤(1000000:Nat)),
 ((0:Int)≤(0:Int)∧(0:Int)<(2:Int)),
 ((0:Nat)<(2:Nat)),
 ((0:Int)≤(0:Int)∧(0:Int)<(2:Int)),
 ((0:Nat)<(2:Nat)),
 (∀ (e:Nat),e<(2:Nat)→(6:Nat)=(6:Nat)),
 (∀ (e:Nat),e<(2:Nat)→True),
 (∀ (e:Nat),e<(2:Nat)→(6:Nat)=(6:Nat)),
 (∀ (e:Nat),e<(2:Nat)→True),
 (∀ (e:Nat),e<(2:Nat)→(6:Nat)=(6:Nat)),
 (∀ (e:Nat),e<(2:Nat)→True),
 (∀ (e:Nat),e<(1:Nat)→eS.Ok (eS.els [S.mk (0:Int) (0:Int) (0:Int) (0:Int) (0:Int) (0:Int) (0:Int) (0:Int)] e)),
 (∀ (e:Nat),e<(0:Nat)→eS.Ok (eS.els [] e)),
 ((1:Nat)≤(1:Nat)),
 ((0:Nat)≤(1:Nat)),
 ((0:Int)≤(0:Int)∧(0:Int)≤(0:Int)),
 ((0:Int)<(1:Int)∧(1:Int)≤(9223372036854775807:Int)∧(64:Nat)≤(140737488355328:Nat)),
 ((0:Int)≤(0:Int)∧(0:Int)≤(1:Int)),
 ((0:Nat)≤(1:Nat)∧(∀ (e:Nat),e<(1:Nat)→(eS.els [S.mk (0:Int) (0:Int) (0:Int) (0:Int) (0:Int) (0:Int) (0:Int) (0:Int)] e).all SV.one=true)∧(1:Nat)≤(9223372036854775807:Nat)∧(64:Nat)≤(140737488355328:Nat)),
 ((1:Nat)≤(1:Nat)∧(∀ (e:Nat),e<(0:Nat)→(eS.els [] e).all SV.one=true)∧(1:Nat)≤(9223372036854775807:Nat)∧(64:Nat)≤(140737488355328:Nat)),
 ((1:Nat)≤(1:Nat)),
 (∀ (e:Nat),e<(0:Nat)→True),
 (∀ (e:Nat),e<(1:Nat)→True),
 (∀ (e:Nat),e<(0:Nat)→True),
 ((1:Nat)≤(1000000:Nat)),
 (True∧True∧(1:Nat)≤(9223372036854775807:Nat)∧(56:Nat)≤(140737488355328:Nat)),
 ((0:Int)≤(1:Int)∧(1:Int)<(2:Int)),
 ((1:Nat)<(2:Nat)),
 (∀ (e:Nat),e<(2:Nat)→(6:Nat)=(6:Nat)),
 (∀ (e:Nat),e<(2:Nat)→True),
 (∀ (e:Nat),e<(2:Nat)→(6:Nat)=(6:Nat)),
 (∀ (e:Nat),e<(2:Nat)→True),
 (∀ (e:Nat),e<(2:Nat)→(6:Nat)=(6:Nat)),
 (∀ (e:Nat),e<(2:Nat)→True),
 (∀ (e:Nat),e<(1:Nat)→eS.Ok (eS.els [S.mk (0:Int) (0:Int) (0:Int) (0:Int) (0:Int) (0:Int) (0:Int) (0:Int)] e)),
 (∀ (e:Nat),e<(1:Nat)→eS.Ok (eS.els [S.mk (0:Int) (0:Int) (0:Int) (0:Int) (0:Int) (0:Int) (0:Int) (0:Int)] e)),
 ((1:Nat)≤(1:Nat)),
 ((1:Nat)≤(1:Nat)),
 ((0:Int)≤(0:Int)∧(0:Int)≤(0:Int)),
 ((0:Int)<(1:Int)∧(1:Int)≤(9223372036854775807:Int)∧(64:Nat)≤(140737488355328:Nat)),
 ((0:Int)≤(0:Int)∧(0:Int)≤(1:Int)),
 ((0:Nat)≤(1:Nat)∧(∀ (e:Nat),e<(0:Nat)→(eS.els [] e).all SV.one=true)∧(0:Nat)≤(9223372036854775807:Nat)∧(0:Nat)≤(140737488355328:Nat)),
 ((0:Nat)≤(0:Nat)∧(∀ (e:Nat),e<(1:Nat)→(eS.els [S.mk (0:Int) (0:Int) (0:Int) (0:Int) (0:Int) (0:Int) (0:Int) (0:Int)] e).all SV.one=true)∧(1:Nat)≤(9223372036854775807:Nat)∧(64:Nat)≤(140737488355328:Nat)),
 ((1:Nat)≤(1:Nat)),
 (∀ (e:Nat),e<(0:Nat)→True),
 (∀ (e:Nat),e<(0:Nat)→True),
 (∀ (e:Nat),e<(1:Nat)→True),
 ((1:Nat)≤(1000000:Nat)),
 ((1:Nat)≤(1:Nat)∧True∧(2:Nat)≤(9223372036854775807:Nat)∧(112:Nat)≤(140737488355328:Nat)),
 ((0:Int)≤(1:Int)∧(1:Int)<(2:Int)),
 ((1:Nat)<(2:Nat)),
 ((0:Int)≤(0:Int)∧(0:Int)<(2:Int)),
 ((0:Nat)<(2:Nat)),
 (∀ (e:Nat),e<(2:Nat)→(6:Nat)=(6:Nat)),
 (∀ (e:Nat),e<(2:Nat)→True),
 (∀ (e:Nat),e<(2:Nat)→(6:Nat)=(6:Nat)),
 (∀ (e:Nat),e<(2:Nat)→True),
 (∀ (e:Nat),e<(2:Nat)→(6:Nat)=(6:Nat)),
 (∀ (e:Nat),e<(2:Nat)→True),
 (∀ (e:Nat),e<(0:Nat)→eS.Ok (eS.els [] e)),
 (∀ (e:Nat),e<(0:Nat)→eS.Ok (eS.els [] e)),
 ((0:Nat)≤(1:Nat)),
 ((0:Nat)≤(1:Nat)),
 (True∧(∀ (e:Nat),e<(0:Nat)→(eS.els [] e).all SV.one=true)∧(0:Nat)≤(9223372036854775807:Nat)∧(0:Nat)≤(140737488355328:Nat)),
 ((0:Nat)≤(0:Nat)∧(∀ (e:Nat),e<(0:Nat)→(eS.els [] e).all SV.one=true)∧(0:Nat)≤(9223372036854775807:Nat)∧(0:Nat)≤(140737488355328:Nat)),
 ((0:Nat)≤(0:Nat)),
 (∀ (e:Nat),e<(0:Nat)→eS.OkP []),
 (∀ (e:Nat),e<(0:Nat)→True),
 (∀ (e:Nat),e<(0:Nat)→True),
 ((0:Nat)≤(1000000:Nat)),
 ((0:Int)≤(1:Int)∧(1:Int)<(2:Int)),
 ((1:Nat)<(2:Nat)),
 (∀ (e:Nat),e<(2:Nat)→(6:Nat)=(6:Nat)),
 (∀ (e:Nat),e<(2:Nat)→True),
 (∀ (e:Nat),e<(2:Nat)→(6:Nat)=(6:Nat)),
 (∀ (e:Nat),e<(2:Nat)→True),
 (∀ (e:Nat),e<(2:Nat)→(6:Nat)=(6:Nat)),
 (∀ (e:Nat),e<(2:Nat)→True),
 (∀ (e:Nat),e<(0:Nat)→eS.Ok (eS.els [] e)),
 (∀ (e:Nat),e<(1:Nat)→eS.Ok (eS.els [S.mk (0:Int) (0:Int) (0:Int) (0:Int) (0:Int) (0:Int) (0:Int) (0:Int)] e)),
 ((0:Nat)≤(1:Nat)),
 ((1:Nat)≤(1:Nat)),
 ((0:Int)≤(0:Int)∧(0:Int)≤(0:Int)),
 ((0:Int)<(1:Int)∧(1:Int)≤(9223372036854775807:Int)∧(64:Nat)≤(140737488355328:Nat)),
 ((0:Int)≤(0:Int)∧(0:Int)≤(1:Int)),
 ((0:Nat)≤(1:Nat)∧(∀ (e:Nat),e<(1:Nat)→(eS.els [S.mk (0:Int) (0:Int) (0:Int) (0:Int) (0:Int) (0:Int) (0:Int) (0:Int)] e).all SV.one=true)∧(1:Nat)≤(9223372036854775807:Nat)∧(64:Nat)≤(140737488355328:Nat)),
 ((1:Nat)≤(1:Nat)∧(∀ (e:Nat),e<(0:Nat)→(eS.els [] e).all SV.one=true)∧(1:Nat)≤(9223372036854775807:Nat)∧(64:Nat)≤(140737488355328:Nat)),
 ((1:Nat)≤(1:Nat)),
 (∀ (e:Nat),e<(0:Nat)→True),
 (∀ (e:Nat),e<(1:Nat)→True),
 (∀ (e:Nat),e<(0:Nat)→True),
 ((1:Nat)≤(1000000:Nat)),
 ((2:Nat)≤(2:Nat)∧True∧(3:Nat)≤(9223372036854775807:Nat)∧(168:Nat)≤(140737488355328:Nat)),
 ((3:Nat)≤(3:Nat)),
 ((3:Nat)≤(1000000:Nat)),
 ((1:Nat)≤(1000:Nat)),
 (true=true→∀ (e:Nat),e<(1:Nat)→eT.Ok (eT.els [T.mk (3:Int) (0:Int) (0:Int) (0:Int) (0:Int) (0:Int)] e)),
 (true=true→∀ (e:Nat),e<(1:Nat)→eT.Ok (List.take (6:Nat) (List.drop ((0:Nat)+e * (6:Nat)) [SV.k (Value.int IntKind.i64 (3:Int)),SV.k (Value.int IntKind.i64 (0:Int)),SV.k (Value.int IntKind.i64 (0:Int)),SV.k (Value.int IntKind.i64 (0:Int)),SV.k (Value.int IntKind.i64 (0:Int)),SV.k (Value.int IntKind.i64 (0:Int))])))]
theorem lv_ev:lvT.evC false=true:=by kernel_rfl
theorem z0n:lvT.asksC=lvA:=by kernel_rfl
theorem qws {p q:Prop} (hq:q) (h:p∈[]++[]++([]++[]++[q])):p:=by
 simp only[List.nil_append,List.mem_singleton] at h
 rw[h];exact hq
theorem qwt:∀ e:Nat,e<1→eS.Ok (List.take 8 (List.drop (0+e * 8) [SV.k (.int .i64 0),SV.k (.int .i64 0),SV.k (.int .i64 0),SV.k (.int .i64 0),SV.k (.int .i64 0),SV.k (.int .i64 0),SV.k (.int .i64 0),SV.k (.int .i64 0)])):=fun e he=>by
 obtain rfl:e=0:=by omega
 exact El.okP (A:=eS) trivial
theorem lv_lt:q29 ⟨⟨1,2⟩,⟨1,2⟩,[⟨0,0,0,0,0,0,0,0⟩]⟩ ⟨⟨2,0⟩,⟨2,0⟩,[⟨0,0,0,0,0,0,0,0⟩]⟩<0:=of_decide_eq_true (by kernel_rfl)
theorem z0o:Anti (fun a b=>q29 a b) [⟨⟨1,2⟩,⟨1,2⟩,[⟨0,0,0,0,0,0,0,0⟩]⟩,⟨⟨2,0⟩,⟨2,0⟩,[⟨0,0,0,0,0,0,0,0⟩]⟩]:=by
 intro x hx y hy h1 h2
 rcases List.mem_cons.1 hx with rfl | hx <;> rcases List.mem_cons.1 hy with rfl | hy
 ·rfl
 ·obtain rfl:=List.mem_singleton.1 hy
  exact absurd lv_lt h1
 ·obtain rfl:=List.mem_singleton.1 hx
  exact absurd lv_lt h2
 ·rw[List.mem_singleton.1 hx,List.mem_singleton.1 hy]
theorem lv_z {q:Nat→Prop}:∀ e:Nat,e<0→q e:=fun _ h=>absurd h (Nat.not_lt_zero _)
theorem lv_t {n:Nat}:∀ e:Nat,e<n→True:=fun _ _=>trivial
theorem lv_r {n k:Nat}:∀ e:Nat,e<n→k=k:=fun _ _=>rfl
theorem lv_all:∀ p∈lvA,p:=all_cons lv_z <| all_cons lv_t <| all_cons lv_z <| all_cons lv_t <| all_cons ⟨trivial,trivial,by omega,by omega⟩ <| all_cons lv_r <| all_cons lv_t <| all_cons lv_r <| all_cons lv_t <| all_cons ⟨by omega,trivial,by omega,by omega⟩ <| all_cons (by omega) <| all_cons lv_z <| all_cons (fun e he p hp=>qws qwt hp) <| all_cons (fun e he p hp=>qws qwt hp) <| all_cons (by omega) <| all_cons z0o <| all_cons (by omega) <| all_cons (fun e _=>El.ok_els _ _ e) <| all_cons (by omega) <| all_cons (fun e _=>El.ok_els _ _ e) <| all_cons (by omega) <| all_cons (by omega) <| all_cons (fun e _=>El.ok_els _ _ e) <| all_cons (by omega) <| all_cons (by omega) <| all_cons (by omega) <| all_cons (by omega) <| all_cons (by omega) <| all_cons (by omega) <| all_cons (by omega) <| all_cons lv_r <| all_cons lv_t <| all_cons lv_r <| all_cons lv_t <| all_cons lv_r <| all_cons lv_t <| all_cons (fun e _=>El.ok_els _ _ e) <| all_cons lv_z <| all_cons (by omega) <| all_cons (by omega) <| all_cons (by omega) <| all_cons (by omega) <| all_cons (by omega) <| all_cons ⟨by first | trivial | omega,fun e _=>eS.one _,by omega,by omega⟩ <| all_cons ⟨by first | trivial | omega,fun e _=>eS.one _,by omega,by omega⟩ <| all_cons (by omega) <| all_cons lv_t <| all_cons lv_t <| all_cons lv_t <| all_cons (by omega) <| all_cons ⟨trivial,trivial,by omega,by omega⟩ <| all_cons (by omega) <| all_cons (by omega) <| all_cons lv_r <| all_cons lv_t <| all_cons lv_r <| all_cons lv_t <| all_cons lv_r <| all_cons lv_t <| all_cons (fun e _=>El.ok_els _ _ e) <| all_cons (fun e _=>El.ok_els _ _ e) <| all_cons (by omega) <| all_cons (by omega) <| all_cons (by omega) <| all_cons (by omega) <| all_cons (by omega) <| all_cons ⟨by first | trivial | omega,fun e _=>eS.one _,by omega,by omega⟩ <| all_cons ⟨by first | trivial | omega,fun e _=>eS.one _,by omega,by omega⟩ <| all_cons (by omega) <| all_cons lv_t <| all_cons lv_t <| all_cons lv_t <| all_cons (by omega) <| all_cons ⟨by omega,trivial,by omega,by omega⟩ <| all_cons (by omega) <| all_cons (by omega) <| all_cons (by omega) <| all_cons (by omega) <| all_cons lv_r <| all_cons lv_t <| all_cons lv_r <| all_cons lv_t <| all_cons lv_r <| all_cons lv_t <| all_cons lv_z <| all_cons lv_z <| all_cons (by omega) <| all_cons (by omega) <| all_cons ⟨by first | trivial | omega,fun e _=>eS.one _,by omega,by omega⟩ <| all_cons ⟨by first | trivial | omega,fun e _=>eS.one _,by omega,by omega⟩ <| all_cons (by omega) <| all_cons lv_z <| all_cons lv_t <| all_cons lv_t <| all_cons (by omega) <| all_cons (by omega) <| all_cons (by omega) <| all_cons lv_r <| all_cons lv_t <| all_cons lv_r <| all_cons lv_t <| all_cons lv_r <| all_cons lv_t <| all_cons lv_z <| all_cons (fun e _=>El.ok_els _ _ e) <| all_cons (by omega) <| all_cons (by omega) <| all_cons (by omega) <| all_cons (by omega) <| all_cons (by omega) <| all_cons ⟨by first | trivial | omega,fun e _=>eS.one _,by omega,by omega⟩ <| all_cons ⟨by first | trivial | omega,fun e _=>eS.one _,by omega,by omega⟩ <| all_cons (by omega) <| all_cons lv_t <| all_cons lv_t <| all_cons lv_t <| all_cons (by omega) <| all_cons ⟨by omega,trivial,by omega,by omega⟩ <| all_cons (by omega) <| all_cons (by omega) <| all_cons (by omega) <| all_cons (fun _ e _=>El.ok_els _ _ e) <| all_cons (fun _ e he=>by obtain rfl:e=0:=(by omega);exact El.okP (A:=eT) trivial) <| all_nil
theorem lv_ok:q04 Tryz.prog 11 .none dBool (fun _=>true) (fun _=>[]):=q6d (MTab.okz qvh [(4000000,0)] usV) q0o 100 fun g _ _=>by
 have h:=Tr.asksC_holds (t:=lvT) false (by rw[z0n];exact lv_all)
 rw[lv_ev] at h
 exact h
def tabV4:MTab Tryz.prog:=((tabM54.cons 24 (pconP aLL dBool (fun g=>decide (g.1=g.2)) (fun _=>[])) (q0d qs7 puB)).cons 27 (pconP aLT dBool (fun g=>g.1.any (q0k · g.2)) (fun _=>[])) (q0d qwc puB)).cons 11 (pconP .none dBool (fun _=>true) (fun _=>[])) (q0d lv_ok puB)
end
end Go.Proofs.YthnojkbkojpadaaGreat

namespace Go.Proofs.YthnojkbkojpadaaGreat
noncomputable section
open Go.RowKit Go.Sx
set_option linter.unusedVariables false
abbrev cvl_G:Type:=List q0j×Int×Int×List Path×Unit×Ask×Bool
def qyf:LP 1 cvl_G:=.pair (.slot 1 33 dLC) (.pair (.slot 1 34 dI) (.pair (.slot 1 35 dI) (.pair (.slot 1 0 dLP) (.pair (.fix 1 3 (.p 0 0)) (.pair (.obj 1 0 50 eA) (.slot 1 7 dBool))))))
def cvl_R (cs:List q0j) (n:Int) (i:Int) (l:List Path) (_u:Unit) (a:Ask) (o:Bool):Ex×cvl_G:=
 bif decide (i<n) then (Ex.normal,eC.ag cs,n,IntKind.i64.wrap (i+(1:Int)),ePa.ag l,(),Ask.mk a.p a.q a.t a.u (eC.ag a.cs),o||decide ((cs.getD i.toNat eC.dflt).n > (0:Int))&&q6y (ePa.ag l) (cs.getD i.toNat eC.dflt).p (cs.getD i.toNat eC.dflt).t a.p a.t)
 else (Ex.exit (0:Nat),eC.ag cs,n,i,ePa.ag l,(),Ask.mk a.p a.q a.t a.u (eC.ag a.cs),o)
def qiz (cs:List q0j) (n:Int) (i:Int) (l:List Path) (_u:Unit) (a:Ask) (o:Bool):Prop:=
 (decide (i<n)=true→((0:Int)≤i∧i<(↑cs.length:Int))∧((!o)=true→decide ((cs.getD i.toNat eC.dflt).n > (0:Int))=true→ePa.okL l)∧((!o)=true→decide ((cs.getD i.toNat eC.dflt).n > (0:Int))=true→(ePa.ag l).length≤K30)∧eC.okL cs∧ePa.okL l∧eC.okL a.cs)∧(decide (i<n)=false→eC.okL cs∧ePa.okL l∧eC.okL a.cs)
theorem cvl_one:((q00 Tryz.prog 5).filter fun c=>Nat.beq (lkey c) 10).length=1:=by kernel_rfl
abbrev q6x:Type:=List q0j×Int×List Path×Ask
abbrev qgc:Type:=Unit×Bool
def cvl_f (g:cvl_G):Int×q6x×qgc:=(g.2.2.1,(g.1,g.2.1,g.2.2.2.1,g.2.2.2.2.2.1),(g.2.2.2.2.1,g.2.2.2.2.2.2))
def cvl_g (d:Int×q6x×qgc):cvl_G:=(d.2.1.1,d.2.1.2.1,d.1,d.2.1.2.2.1,d.2.2.1,d.2.1.2.2.2,d.2.2.2)
abbrev qgb (g:cvl_G):Ex×cvl_G:=cvl_R g.1 g.2.1 g.2.2.1 g.2.2.2.1 g.2.2.2.2.1 g.2.2.2.2.2.1 g.2.2.2.2.2.2
abbrev qyd (g:cvl_G):Prop:=qiz g.1 g.2.1 g.2.2.1 g.2.2.2.1 g.2.2.2.2.1 g.2.2.2.2.2.1 g.2.2.2.2.2.2
theorem cvl_es (g:cvl_G):(qgb g).1=.normal∨(qgb g).1∈([.exit 0]:List Ex):=by
 unfold qgb cvl_R
 repeat' (first | (left;rfl) | (right;simp only[cond_true,cond_false];simp;done) | (rw[Bool.cond_eq_ite];split))
abbrev cvl_C (Inv:cvl_G→List Prop) (m:cvl_G→Nat):LCon:=loopR [.exit 0] (loopBody Tryz.prog 5 10) qyf [] 64 Inv qgb m
theorem quv (Inv:cvl_G→List Prop) (m:cvl_G→Nat) (hs:∀ g,allP (Inv g)→qyd g) (hg:Goes qgb m fun g=>allP (Inv g)):∀ b∈q00 Tryz.prog 5,lkey b=10→q02 Tryz.prog b (cvl_C Inv m).g:=q0g (Γ:=(MTab.gamz tabV4 [] [])) (Λ:=qka) (MTab.okz tabV4 [] []) q8x 100 5 10 64 qyf [] Inv qgb qyd m default [.exit 0] cvl_one (fun rd T B HL HB ds g=>by kernel_rfl) (fun rd T B HL HB ds g=>by kernel_rfl) hs hg cvl_es
def qvi:MTab Tryz.prog:=tabV4
end
end Go.Proofs.YthnojkbkojpadaaGreat

namespace Go.Proofs.YthnojkbkojpadaaGreat
noncomputable section
open Go.RowKit Go.Sx Go.Lp
def cvP (l:List Path) (a:Ask) (c:q0j):Bool:=decide (c.n > (0:Int))&&q6y l c.p c.t a.p a.t
def cvl_S (c:q6x) (b:qgc) (_:Int) (v:q0j):Ex×qgc:=(.normal,((),b.2||cvP c.2.2.1 c.2.2.2 v))
def cvl_K (c:q6x) (_:qgc) (_:Int):Prop:=c.2.2.1.length≤K30
abbrev cvl_I (g:cvl_G):List Prop:=ixI (fun c:q6x=>c.2.1) (fun c=>c.1) cvl_K (cvl_f g)
abbrev cvl_M (g:cvl_G):Nat:=ixM (fun c:q6x=>c.2.1) (cvl_f g)
theorem cvl_P:ixP cvl_S (fun c:q6x=>c.1) cvl_K:=fun _ _ _ _ h _ _=>h
abbrev qsg (g:cvl_G):Ex×cvl_G:=cvl_R g.1 g.2.1 g.2.2.1 g.2.2.2.1 g.2.2.2.2.1 g.2.2.2.2.2.1 g.2.2.2.2.2.2
theorem qs5 (a:Ask):Ask.mk a.p a.q a.t a.u a.cs=a:=rfl
theorem qye (d:Int×q6x×qgc) (_:allP (ixI (fun c:q6x=>c.2.1) (fun c=>c.1) cvl_K d)):qsg (cvl_g d)=((ixF 0 (fun c:q6x=>c.2.1) (fun c=>c.1) eC.dflt cvl_S d).1,cvl_g (ixF 0 (fun c:q6x=>c.2.1) (fun c=>c.1) eC.dflt cvl_S d).2):=by
 obtain ⟨i,⟨cs,n,l,a⟩,⟨⟨⟩,o⟩⟩:=d
 show cvl_R cs n i l () a o=_
 unfold cvl_R ixF cvl_S cvP
 simp only[El.ag_eq,qs5]
 cases decide (i<n) <;> rfl
theorem cvl_ok:∀ b∈q00 Tryz.prog 5,lkey b=10→q02 Tryz.prog b (cvl_C cvl_I cvl_M).g:=by
 refine quv cvl_I cvl_M (fun g hi=>?_) (q06 (fun _=>rfl) (fun _=>rfl) qye cvl_P)
 obtain ⟨cs,n,i,l,⟨⟩,a,o⟩:=g
 obtain ⟨h1,h2,h3,h4,h6⟩:=hi _ (List.mem_cons_self ..)
 have h1:n=(cs.length:Int):=h1
 have h3:0≤i:=h3
 have h6:l.length≤K30:=h6
 show qiz cs n i l () a o
 unfold qiz
 simp only[El.okL_eq,El.ag_eq]
 refine ⟨fun hlt=>?_,fun _=>?_⟩
 ·have hr:=rngP i n _ h1 h3 hlt
  repeat' (first | exact hr | exact h6 | exact Nat.le_refl _ | exact (fun _ _=>El.ok_els _ _ _) | exact (fun _ _=>trivial) | apply And.intro | intro _)
  all_goals first | trivial | rfl | omega
 ·repeat' (first | exact Nat.le_refl _ | exact (fun _ _=>El.ok_els _ _ _) | apply And.intro | intro _)
  all_goals first | trivial | rfl | omega
def ltM56:LTab Tryz.prog:=(ltM50.cons 5 10 (cvl_C cvl_I cvl_M) cvl_ok).cons 53 1 (tel_C tel_I tel_M) tel_ok
abbrev qww:Lam:=ltM56.lam
theorem qrm:∀ f k L,qww f k=some L→∀ b∈q00 Tryz.prog f,lkey b=k→q02 Tryz.prog b L.g:=ltM56.ok
end
end Go.Proofs.YthnojkbkojpadaaGreat

namespace Go.Proofs.YthnojkbkojpadaaGreat
open Go.RowKit Go.Sx
set_option linter.unusedVariables false
end Go.Proofs.YthnojkbkojpadaaGreat

namespace Go.Proofs.YthnojkbkojpadaaGreat
open Go.RowKit Go.Sx
set_option linter.unusedVariables false
end Go.Proofs.YthnojkbkojpadaaGreat

namespace Go.Proofs.YthnojkbkojpadaaGreat
noncomputable section
open Go.RowKit Go.Sx
set_option linter.unusedVariables false
def qz3 (l:List Path) (p:Place) (q:Place):Ex ×
 tel_G:=
 loopF (fun g=>tel_R g.fst g.snd.fst g.snd.snd.fst g.snd.snd.snd.fst g.snd.snd.snd.snd.fst g.snd.snd.snd.snd.snd.fst g.snd.snd.snd.snd.snd.snd.fst) tel_M (eSp.ag (plcC (ePa.ag l)),(↑(plcC (ePa.ag l)).length:Int),(0:Int),(),p,q,[],LoopState.ready,none)
def l3r_F (l:List Path) (p:Place) (q:Place):Dv.T dBool:=
 bif !fwf_F (ePa.ag l) then true
 else (depR (ePa.ag l) p).fst==(depR (ePa.ag l) p).fst&&((depR (ePa.ag l) p).snd==(depR (ePa.ag l) p).snd&&(decide (eS.ag (sumsR (ePa.ag l) (qz3 l p q).snd.snd.snd.snd.snd.fst (qz3 l p q).snd.snd.snd.snd.snd.snd.fst)=eS.ag (sumsR (ePa.ag l) (qz3 l p q).snd.snd.snd.snd.snd.fst (qz3 l p q).snd.snd.snd.snd.snd.snd.fst))&&decide (eSp.ag (qz3 l p q).snd.snd.snd.snd.snd.snd.snd.fst=eSp.lst (bif dckC (ePa.ag l)==(0:Int) then (q4c (ePa.ag l)).length else (0:Nat)) (eSp.els (q4c (ePa.ag l))))))
def qz5 (l:List Path) (p:Place) (q:Place):Prop:=
 (!true)=false→ePa.okL l∧((!fwf_F (ePa.ag l))=false→ePa.okL l∧(ePa.ag l).length≤K30∧ePa.okL l∧ePa.okL l∧(ePa.ag l).length≤K30∧eSp.okL (plcC (ePa.ag l))∧q1r (q0f Tryz.prog (3:Nat) (0:Nat)).snd.fst (q0f Tryz.prog (3:Nat) (0:Nat)).snd.fst∧q1r (q0f Tryz.prog (3:Nat) (0:Nat)).snd.snd (q0f Tryz.prog (3:Nat) (0:Nat)).snd.snd∧Lp.ixJ (fun c=>c.snd.fst) (fun c=>c.fst) tel_K (tel_f (eSp.ag (plcC (ePa.ag l)),(↑(plcC (ePa.ag l)).length:Int),(0:Int),(),p,q,[],LoopState.ready,none))∧ePa.okL l∧((dckC (ePa.ag l)==(0:Int))=true→ePa.okL l)∧((dckC (ePa.ag l)==(0:Int))=true→(ePa.ag l).length≤K30)∧((dckC (ePa.ag l)==(0:Int))=true→Hd (ePa.ag l))∧(((depR (ePa.ag l) p).fst==(depR (ePa.ag l) p).fst)=true→((depR (ePa.ag l) p).snd==(depR (ePa.ag l) p).snd)=true→ePa.okL l)∧(((depR (ePa.ag l) p).fst==(depR (ePa.ag l) p).fst)=true→((depR (ePa.ag l) p).snd==(depR (ePa.ag l) p).snd)=true→(ePa.ag l).length≤K30)∧(((depR (ePa.ag l) p).fst==(depR (ePa.ag l) p).fst)=true→((depR (ePa.ag l) p).snd==(depR (ePa.ag l) p).snd)=true→ePa.okL l)∧(((depR (ePa.ag l) p).fst==(depR (ePa.ag l) p).fst)=true→((depR (ePa.ag l) p).snd==(depR (ePa.ag l) p).snd)=true→eS.okL (sumsR (ePa.ag l) (qz3 l p q).snd.snd.snd.snd.snd.fst (qz3 l p q).snd.snd.snd.snd.snd.snd.fst))∧(((depR (ePa.ag l) p).fst==(depR (ePa.ag l) p).fst)=true→((depR (ePa.ag l) p).snd==(depR (ePa.ag l) p).snd)=true→eS.okL (sumsR (ePa.ag l) (qz3 l p q).snd.snd.snd.snd.snd.fst (qz3 l p q).snd.snd.snd.snd.snd.snd.fst))∧(((depR (ePa.ag l) p).fst==(depR (ePa.ag l) p).fst)=true→((depR (ePa.ag l) p).snd==(depR (ePa.ag l) p).snd)=true→decide (eS.ag (sumsR (ePa.ag l) (qz3 l p q).snd.snd.snd.snd.snd.fst (qz3 l p q).snd.snd.snd.snd.snd.snd.fst)=eS.ag (sumsR (ePa.ag l) (qz3 l p q).snd.snd.snd.snd.snd.fst (qz3 l p q).snd.snd.snd.snd.snd.snd.fst))=true→(qz3 l p q).snd.snd.snd.snd.snd.snd.snd.fst.length≤(qz3 l p q).snd.snd.snd.snd.snd.snd.snd.fst.length)∧(((depR (ePa.ag l) p).fst==(depR (ePa.ag l) p).fst)=true→((depR (ePa.ag l) p).snd==(depR (ePa.ag l) p).snd)=true→decide (eS.ag (sumsR (ePa.ag l) (qz3 l p q).snd.snd.snd.snd.snd.fst (qz3 l p q).snd.snd.snd.snd.snd.snd.fst)=eS.ag (sumsR (ePa.ag l) (qz3 l p q).snd.snd.snd.snd.snd.fst (qz3 l p q).snd.snd.snd.snd.snd.snd.fst))=true→∀ (e:Nat),e<(qz3 l p q).snd.snd.snd.snd.snd.snd.snd.fst.length→eSp.Ok ((ElE.fn (eSp.els (qz3 l p q).snd.snd.snd.snd.snd.snd.snd.fst)).at e))∧(((depR (ePa.ag l) p).fst==(depR (ePa.ag l) p).fst)=true→((depR (ePa.ag l) p).snd==(depR (ePa.ag l) p).snd)=true→decide (eS.ag (sumsR (ePa.ag l) (qz3 l p q).snd.snd.snd.snd.snd.fst (qz3 l p q).snd.snd.snd.snd.snd.snd.fst)=eS.ag (sumsR (ePa.ag l) (qz3 l p q).snd.snd.snd.snd.snd.fst (qz3 l p q).snd.snd.snd.snd.snd.snd.fst))=true→∀ (e:Nat),(e<bif dckC (ePa.ag l)==(0:Int) then (q4c (ePa.ag l)).length else (0:Nat))→eSp.Ok (eSp.els (q4c (ePa.ag l)) e)))
theorem z18 (pre:DA.T aLPpp→List Prop) (h:∀ g,DA.bd aLPpp g→(∀ p∈pre g,p)→qz5 g.1 g.2.1 g.2.2):q04 Tryz.prog 3 aLPpp dBool (fun g=>l3r_F g.1 g.2.1 g.2.2) pre:=q08 (Γ:=(MTab.gamz qvi [] [])) (Λ:=qww) (MTab.okz qvi [] []) qrm 100 default (fun g=>qz5 g.1 g.2.1 g.2.2) (fun g=>by kernel_rfl) (fun g=>by kernel_rfl) h
end
end Go.Proofs.YthnojkbkojpadaaGreat

namespace Go.Proofs.YthnojkbkojpadaaGreat
open Go.RowKit Go.Sx Go.Lp
theorem lt64 {n:Nat} (h:n≤64):n≤K30:=by unfold K30;omega
theorem qza (l:List Path) (p q:Place) (hl:l.length≤K30):qz3 l p q=(.exit 0,plcC l,((plcC l).length:Int),((plcC l).length:Int),(),p,q,plcC l,(.ready,none)):=by
 unfold qz3
 simp only[El.ag_eq]
 exact qzb (plcC l) p q (Nat.le_trans (qz6 l) hl)
theorem l3r_ok:q04 Tryz.prog 3 aLPpp dBool (fun _=>true) (fun _=>[]):=by
 refine q0b (z18 (fun _=>[]) fun g hb hp=>?_) fun g hb hp=>?_
 ·obtain ⟨l,p,q⟩:=g
  have hl:l.length≤maxLen:=hb.1.1
  show qz5 l p q
  unfold qz5
  simp only[El.okL_eq,El.ag_eq]
  refine fun _=>⟨trivial,fun h=>?_⟩
  have h1:l.length≤K30:=lt64 (qz8 (by simpa using h))
  simp only[qza l p q h1]
  have hH:(dckC l==(0:Int))=true→Hd l:=fun hz=>qsp hl (by rw[q5o l hl];simpa using hz)
  have hJ:ixJ (fun c:q5y=>c.2.1) (fun c=>c.1) tel_K (tel_f (plcC l,((plcC l).length:Int),0,(),p,q,[],.ready,none)):=ixJ0 rfl (Nat.le_trans (qz6 l) hl) ⟨rfl,Nat.le_trans (qz6 l) h1,by show (0:Int)≤0;omega⟩
  repeat' (first | exact h1 | exact hJ | exact hH | exact rfl | exact Nat.le_refl _ | exact (fun _ _=>El.ok_els _ _ _) | exact (fun _ _=>trivial) | apply And.intro | intro _)
  all_goals first | trivial | rfl | omega | exact El.ok_els _ _ _
 ·obtain ⟨l,p,q⟩:=g
  have hl:l.length≤maxLen:=hb.1.1
  show l3r_F l p q=true
  unfold l3r_F
  simp only[El.ag_eq]
  cases h:fwf_F l with
  | false=>rfl
  | true=>
   have h1:l.length≤K30:=lt64 (qz8 h)
   rw[qza l p q h1]
   simp only[← q5o l hl]
   unfold plcC
   cases hz:chkP l==(0:Int) with
   | true=>simp[El.lst_els]
   | false=>
    simp
    rfl
end Go.Proofs.YthnojkbkojpadaaGreat

namespace Go.Proofs.YthnojkbkojpadaaGreat
open Go.ChangeShapes Go.WideShapes Go.ChangeAt Go.RowKit Go.Sx
set_option maxRecDepth 100000 in
theorem qz4 (law:q04 Tryz.prog 3 aLPpp dBool (fun _=>true) (fun _=>[])) (os:Os) (started:os.Started) (H:Type) (enc:TypeId×Value→H) :
  ReturnsInHanded {} Tryz.checked os 3 .any (Rows.reachTellsSpec.pre6 enc Tryz.prog Tryz.f3 Rows.reachTellsRow.domain false) (Rows.reachTellsSpec.post enc Tryz.prog Tryz.f3 false true false false):=by
 refine returnsInHanded_of_change (C:=Tryz.checked) Tryz.own started (by kernel_rfl) Tryz.func3
  (ChangeSpec.witness6 (enc:=enc) (C:=Tryz.checked) false ⟨#[],#[.slice none 0 0,.agg #[.int .i64 0,.int .i64 0],.agg #[.int .i64 0,.int .i64 0]],[]⟩ 8 (by kernel_rfl) (by kernel_rfl) (by kernel_rfl) (by kernel_rfl)) ?_
 intro W base args ds gs before hval0 hW hcnd _
 have hval:∀ (j:Nat) t v,Tryz.f3.params[j]?=some t→args[j]?=some v→Value.okWide Tryz.prog W .any base t v:=hval0
 have hW':=hW
 obtain ⟨p,q,hA0,hV,rfl,hfz,hnd⟩:=hW
 have hA:DataW.TrodAll enc Tryz.prog W 0 (fun _=>true) true Tryz.f3.params.toList args.toList ds p:=hA0
 rw[Tryz.params3] at hA hval
 obtain ⟨v0,vs0,d0,ds0,p0,qq0,hargs,rfl,rfl,h0,r0⟩:=trodAll_cons hA
 obtain ⟨v1,vs1,d1,ds1,p1,qq1,rfl,rfl,rfl,h1,r1⟩:=trodAll_cons r0
 obtain ⟨v2,vs2,d2,ds2,p2,qq2,rfl,rfl,rfl,h2,r2⟩:=trodAll_cons r1
 obtain ⟨rfl,rfl,rfl⟩:=trodAll_nil r2
 obtain rfl:args=#[v0,v1,v2]:=by cases args;simp_all
 obtain ⟨rfl,rfl⟩:=trodVars_none hV
 obtain ⟨a0,q0,f0⟩:=rdvLP _ _ _ _ _ _ _ _ _ _ _ (hval 0 22 v0 rfl rfl) h0
 obtain ⟨a1,q1,f1⟩:=rdvP _ _ _ _ _ _ _ _ _ _ _ (hval 1 24 v1 rfl rfl) h1
 obtain ⟨a2,q2,f2⟩:=rdvP _ _ _ _ _ _ _ _ _ _ _ (hval 2 24 v2 rfl rfl) h2
 have lt:∀ {t:TypeId} {v:Value} {d:DataW H} {ps:List MemPlace},DataW.Trod enc Tryz.prog W 0 (fun _=>true) true t v d ps→∀ x∈ps,x.block<W.heap.size:=by
  rintro t v d ps ⟨m,hm⟩
  exact DataW.trod_lt m _ _ _ hm
 clear hA0 hval0
 refine (law W (fun b=>W.heap[b]?) (a0,a1,a2) [v0,v1,v2] (fun _ _ h=>h) trivial (by simp) ⟨f0,f1,f2,trivial⟩).mono fun e W' ⟨x,he,bel,hx⟩=>?_
 obtain rfl:x=.bool true:=by simpa [dBool,SV.fit] using hx
 subst he
 exact ⟨_,rfl,_,_,_,[],_,[],hW',trodAll_mk1 (shut_bool Tryz.underlying4 _),
  (trodAll_cons_mk (Below.trod Tryz.laidOut (by kernel_rfl) (of_decide_eq_true (by kernel_rfl)) h0 bel (lt h0))
  (trodAll_cons_mk (Below.trod Tryz.laidOut (by kernel_rfl) (of_decide_eq_true (by kernel_rfl)) h1 bel (lt h1))
  (trodAll_cons_mk (Below.trod Tryz.laidOut (by kernel_rfl) (of_decide_eq_true (by kernel_rfl)) h2 bel (lt h2)) trodAll_mk0))),rfl,bel.frame _,fun h=>by cases h⟩
theorem reachTells_over (law:q04 Tryz.prog 3 aLPpp dBool (fun _=>true) (fun _=>[])):Rows.ReachTellsSaid:=
 OpenClaim.holds_of_wide 3 Tryz.f3 rfl rfl rfl rfl rfl rfl rfl ⟨rfl,rfl,rfl,rfl,rfl⟩ rfl rfl rfl rfl rfl (by kernel_rfl) Tryz.func3 (by kernel_rfl)
  (of_decide_eq_true (by kernel_rfl)) (by unfold Func.isWrapper;first | (rw[if_pos (by decide +kernel)];kernel_rfl) | (rw[if_neg (by decide +kernel)];exact ⟨rfl,rfl⟩))
  (fun os started H enc _=>qz4 law os started H enc)
end Go.Proofs.YthnojkbkojpadaaGreat

namespace Go.Proofs.YthnojkbkojpadaaGreat
open Go.RowKit Go.Sx
theorem reachTells_holds:Rows.ReachTellsSaid:=reachTells_over l3r_ok
end Go.Proofs.YthnojkbkojpadaaGreat
