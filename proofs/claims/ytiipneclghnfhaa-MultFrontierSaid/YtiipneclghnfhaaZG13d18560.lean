/- Chapter 4: what a multiset tells: contracts of functions. -/
import Derived.Test.YtiipneclghnfhaaZG129c5c30
import Derived.Test.YtiipneclghnfhaaZG06e05322
import Derived.Test.YtiipneclghnfhaaZG0786cf4e
import Derived.Test.YtiipneclghnfhaaZG10d63bb5
set_option linter.unusedVariables false
set_option linter.unusedSimpArgs false
set_option linter.constructorNameAsVariable false
set_option linter.all false

namespace Go.Proofs.Ytiipneclghnfhaa
open Go.RowKit Go.Sx Go.Lp
theorem pairwise_of_adj {α:Type} {R:α→α→Prop} (tr:∀ a b c,R a b→R b c→R a c) {l:List α} (h:∀ (n:Nat) (a b:α),l[n]?=some a→l[n+1]?=some b→R a b):l.Pairwise R:=by
 rw[List.pairwise_iff_getElem]
 intro i j hi hj hij
 obtain ⟨k,rfl⟩:∃ k,j=i+1+k:=⟨j - i - 1,by omega⟩
 clear hij
 induction k with
 | zero=>exact h i _ _ (List.getElem?_eq_getElem hi) (List.getElem?_eq_getElem hj)
 | succ k ih=>exact tr _ _ _ (ih (by omega)) (h (i+1+k) _ _ (List.getElem?_eq_getElem (by omega)) (List.getElem?_eq_getElem hj))
theorem chk0 {xs:List Y} (hm:xs.length≤KS) (h:chkY xs=0):(∀ v∈xs,tcheck_F v.t=0)∧(∀ v∈xs,v.n≠0∧ywi_F v.n=true)∧SrtY xs:=by
 have hm:xs.length≤1000000:=hm
 unfold chkY at h
 cases ha:(xs.any fun v=>tcheck_F v.t != 0) with
 | true=>rw[ha] at h;cases h
 | false=>
  rw[ha] at h
  cases hb:badAt xs with
  | true=>rw[hb] at h;cases h
  | false=>
   have hbad:∀ (n:Nat) (a:Y),xs[n]?=some a→badP xs n a=false:=fun n a hn=>by
    cases hp:badP xs n a with
    | false=>rfl
    | true=>rw[badAt_of hn hp] at hb;cases hb
   have hall:∀ (n:Nat) (a:Y),xs[n]?=some a→a.n≠0∧ywi_F a.n=true∧(0<n→tcmp_F (xs.getD (n - 1) eY.dflt).t a.t<0):=fun n a hn=>by
    have h1:=hbad n a hn
    unfold badP at h1
    simp only[Bool.or_eq_false_iff,Bool.and_eq_false_iff,decide_eq_false_iff_not,beq_eq_false_iff_ne,Bool.not_eq_false'] at h1
    obtain ⟨h2,h3,h4⟩:=h1
    refine ⟨h2,h3,fun hpos=>?_⟩
    have hlt:=(List.getElem?_eq_some_iff.1 hn).1
    rw[wrS (x:=(n:Int) - 1) (by omega),show ((n:Int) - 1).toNat=n - 1 by omega] at h4
    rcases h4 with h4 | h4
    ·omega
    ·exact Classical.byContradiction fun hc=>h4 (Int.not_lt.1 hc)
   refine ⟨fun v hv=>?_,fun v hv=>?_,?_⟩
   ·rw[List.any_eq_false] at ha
    simpa using ha v hv
   ·obtain ⟨n,hn,rfl⟩:=List.getElem_of_mem hv
    have:=hall n _ (List.getElem?_eq_getElem hn)
    exact ⟨this.1,this.2.1⟩
   ·refine pairwise_of_adj (R:=fun a b:Y=>tcmp_F a.t b.t<0) (fun a b c h1 h2=>toT.trans h1 h2) fun n a b hna hnb=>?_
    have:=(hall (n+1) b hnb).2.2 (Nat.succ_pos n)
    rw[show n+1 - 1=n by omega,List.getD_eq_getElem?_getD,hna] at this
    exact this
def selS (p:Y→Bool):List Y→Int
 | []=>0
 | x :: l=>(bif p x then x.n else 0)+selS p l
theorem foldW (p:Y→Bool):∀ (l:List Y) (r k:Int),-(1099511627776 * k)≤r→r≤1099511627776 * k→k+l.length≤1000000→(∀ v∈l,ywi_F v.n=true)→l.foldl (fun r v=>bif p v then IntKind.i64.wrap (r+v.n) else r) r=r+selS p l
 | [],r,k,_,_,_,_=>by simp[selS]
 | v :: l,r,k,h1,h2,h3,h4=>by
  have hw:=(ywi_iff _).1 (h4 v (List.mem_cons_self ..))
  have h3':k+(l.length:Int)+1≤1000000:=by simp at h3;omega
  have h5:=fun y hy=>h4 y (List.mem_cons_of_mem _ hy)
  simp only[List.foldl_cons,selS]
  cases hp:p v with
  | true=>
   simp only[cond_true]
   rw[wrS (by omega),foldW p l (r+v.n) (k+1) (by omega) (by omega) (by omega) h5]
   omega
  | false=>
   simp only[cond_false]
   rw[foldW p l r (k+1) (by omega) (by omega) (by omega) h5]
   omega
noncomputable def getY (xs:List Y) (t:T):Int:=bif chkY xs != (0:Int) then 0 else sumY xs t
noncomputable def belY (xs:List Y) (t:T):Int:=bif chkY xs != (0:Int) then 0 else selS (fun v=>tleq_F v.t t) xs
noncomputable def totalY (xs:List Y):Int:=bif chkY xs != (0:Int) then 0 else selS (fun _=>true) xs
noncomputable def plainY (xs:List Y):Bool:=bif chkY xs != (0:Int) then false else !xs.any fun v=>decide (v.n<(0:Int))
theorem bne0 {x:Int} (h:(x != (0:Int))=false):x=0:=by simpa using h
theorem ygt_eq (xs:List Y) (t:T) (h:xs.length≤KS):ygt_F xs t=getY xs t∧ygt_side xs t:=by
 have hm:xs.length≤maxLen:=Nat.le_trans h (by decide)
 unfold ygt_F ygt_side ygt_q1 getY
 simp only[eY.lst_els]
 have h1:loopF (fun g:ga_G=>ga_R g.1 g.2.1 g.2.2.1 g.2.2.2.1 g.2.2.2.2.1 g.2.2.2.2.2) ga_M (xs,(xs.length:Int),0,(),t,0)=_:=ga_run (xs,(xs.length:Int),t) ((),(0:Int)) rfl hm trivial
 rw[h1]
 refine ⟨?_,okY xs,fun _=>⟨okY xs,ixJ0 rfl hm trivial⟩⟩
 cases hc:(chkY xs != (0:Int)) with
 | true=>rfl
 | false=>
  obtain ⟨_,_,hs⟩:=chk0 h (bne0 hc)
  simp only[cond_false]
  show (bif exB Ex.ret (scan 0 (ga_S (xs,(xs.length:Int),t)) 0 xs ((),(0:Int))).1 then (scan 0 (ga_S (xs,(xs.length:Int),t)) 0 xs ((),(0:Int))).2.2.2 else (0:Int))=_
  rcases search (x:=0) (st:=ga_S (xs,(xs.length:Int),t)) (p:=fun v=>eqT v.t t) (r:=fun _ v _=>((),v.n)) (fun _ _ _=>rfl) xs ((),(0:Int)) with ⟨ha,j,hj,a,haa,hp,h3⟩ | ⟨ha,h3⟩
  ·have h3:scan 0 (ga_S (xs,(xs.length:Int),t)) 0 xs ((),(0:Int))=_:=h3
   rw[h3]
   have:a.t=t:=by unfold eqT at hp;simpa using hp
   rw[← this]
   exact (sumK_one Y.t Y.n (srt_ne Y.t toT hs) haa).symm
  ·have h3:scan 0 (ga_S (xs,(xs.length:Int),t)) 0 xs ((),(0:Int))=_:=h3
   rw[h3]
   refine (sumK_none Y.t Y.n fun x hx e=>?_).symm
   rw[List.any_eq_false] at ha
   exact ha x hx (by unfold eqT;simpa using e)
theorem ygt_ok:FnPure Try.prog 40 aLYT dI (fun g=>getY g.1 g.2) (fun g=>[g.1.length≤KS]):=
 pure_congr (ygt_okS _ fun g _ hp=>(ygt_eq g.1 g.2 (hp _ (List.mem_cons_self ..))).2) fun g _ hp=>(ygt_eq g.1 g.2 (hp _ (List.mem_cons_self ..))).1
theorem fold_u {p:Y→Bool} (l:List Y) (u:Unit) (r:Int):(l.foldl (fun (b:Unit×Int) v=>(b.1,bif p v then IntKind.i64.wrap (b.2+v.n) else b.2)) (u,r)).2=l.foldl (fun r v=>bif p v then IntKind.i64.wrap (r+v.n) else r) r:=by
 induction l generalizing r with
 | nil=>rfl
 | cons v l ih=>exact ih _
theorem ybl_eq (xs:List Y) (t:T) (h:xs.length≤KS):ybl_F xs t=belY xs t∧ybl_side xs t:=by
 have hm:xs.length≤maxLen:=Nat.le_trans h (by decide)
 unfold ybl_F ybl_side ybl_q1 belY
 simp only[eY.lst_els]
 have h1:loopF (fun g:gc_G=>gc_R g.1 g.2.1 g.2.2.1 g.2.2.2.1 g.2.2.2.2.1 g.2.2.2.2.2) gc_M (xs,(xs.length:Int),0,(),t,0)=_:=gc_run (xs,(xs.length:Int),t) ((),(0:Int)) rfl hm trivial
 rw[h1]
 refine ⟨?_,okY xs,ixJ0 rfl hm trivial,okY xs⟩
 cases hc:(chkY xs != (0:Int)) with
 | true=>rfl
 | false=>
  obtain ⟨_,hw,_⟩:=chk0 h (bne0 hc)
  simp only[cond_false]
  show (scan 0 (gc_S (xs,(xs.length:Int),t)) 0 xs ((),(0:Int))).2.2.2=_
  rw[scan_fold (st:=gc_S (xs,(xs.length:Int),t)) (f:=fun (b:Unit×Int) (v:Y)=>(b.1,bif tleq_F v.t t then IntKind.i64.wrap (b.2+v.n) else b.2)) (fun _ _ _=>rfl)]
  show (xs.foldl (fun (b:Unit×Int) (v:Y)=>(b.1,bif tleq_F v.t t then IntKind.i64.wrap (b.2+v.n) else b.2)) ((),0)).2=_
  rw[fold_u (p:=fun v=>tleq_F v.t t),foldW _ xs 0 0 (by decide) (by decide) (by have:xs.length≤1000000:=h;omega) fun v hv=>(hw v hv).2]
  omega
theorem ybl_ok:FnPure Try.prog 42 aLYT dI (fun g=>belY g.1 g.2) (fun g=>[g.1.length≤KS]):=
 pure_congr (ybl_okS _ fun g _ hp=>(ybl_eq g.1 g.2 (hp _ (List.mem_cons_self ..))).2) fun g _ hp=>(ybl_eq g.1 g.2 (hp _ (List.mem_cons_self ..))).1
theorem fold_t (xs:List Y) (h:xs.length≤KS) (hw:∀ v∈xs,v.n≠0∧ywi_F v.n=true):xs.foldl (fun r v=>IntKind.i64.wrap (r+v.n)) 0=selS (fun _=>true) xs:=by
 have:=foldW (fun _=>true) xs 0 0 (by decide) (by decide) (by have:xs.length≤1000000:=h;omega) fun v hv=>(hw v hv).2
 simp only[cond_true] at this
 rw[this]
 omega
theorem ytl_eq (xs:List Y) (h:xs.length≤KS):ytl_F xs=totalY xs∧ytl_side xs:=by
 have hm:xs.length≤maxLen:=Nat.le_trans h (by decide)
 unfold ytl_F ytl_side ytl_q1 totalY
 simp only[eY.lst_els]
 have h1:loopF (fun g:ge_G=>ge_R g.1 g.2.1 g.2.2.1 g.2.2.2) ge_M (xs,(xs.length:Int),0,0)=_:=ge_run (xs,(xs.length:Int)) (0:Int) rfl hm trivial
 rw[h1]
 refine ⟨?_,okY xs,fun _=>⟨okY xs,ixJ0 rfl hm trivial⟩⟩
 cases hc:(chkY xs != (0:Int)) with
 | true=>rfl
 | false=>
  obtain ⟨_,hw,_⟩:=chk0 h (bne0 hc)
  simp only[cond_false]
  show (scan 0 (ge_S (xs,(xs.length:Int))) 0 xs (0:Int)).2.2=_
  rw[scan_fold (st:=ge_S (xs,(xs.length:Int))) (f:=fun (b:Int) (v:Y)=>IntKind.i64.wrap (b+v.n)) (fun _ _ _=>rfl)]
  exact fold_t xs h hw
theorem ytl_ok:FnPure Try.prog 44 aLY dI totalY (fun g=>[g.length≤KS]):=
 pure_congr (ytl_okS _ fun g _ hp=>(ytl_eq g (hp _ (List.mem_cons_self ..))).2) fun g _ hp=>(ytl_eq g (hp _ (List.mem_cons_self ..))).1
theorem ypl_eq (xs:List Y) (hm:xs.length≤maxLen):ypl_F xs=plainY xs∧ypl_side xs:=by
 unfold ypl_F ypl_side ypl_q1 plainY
 simp only[eY.lst_els]
 have h1:loopF (fun g:gh_G=>gh_R g.1 g.2.1 g.2.2.1 g.2.2.2.1 g.2.2.2.2) gh_M (xs,(),(xs.length:Int),0,0)=_:=gh_run (xs,(xs.length:Int)) ((),(0:Int)) rfl hm trivial
 rw[h1]
 refine ⟨?_,okY xs,fun _=>⟨okY xs,ixJ0 rfl hm trivial⟩⟩
 have e:(chkY xs != (0:Int))=!(chkY xs==(0:Int)):=rfl
 rw[e]
 cases chkY xs==(0:Int) with
 | false=>rfl
 | true=>
  simp only[cond_true,Bool.not_true,cond_false]
  show (bif exB Ex.ret (scan 0 (gh_S (xs,(xs.length:Int))) 0 xs ((),(0:Int))).1 then !decide ((scan 0 (gh_S (xs,(xs.length:Int))) 0 xs ((),(0:Int))).2.2.2≥(0:Int)) else !decide ((-1:Int)≥0))=_
  rcases search (x:=0) (st:=gh_S (xs,(xs.length:Int))) (p:=fun v:Y=>decide (v.n<(0:Int))) (r:=fun i _ _=>((),i)) (fun _ _ _=>rfl) xs ((),(0:Int)) with ⟨ha,j,hj,a,haa,hp,h3⟩ | ⟨ha,h3⟩
  ·have h3:scan 0 (gh_S (xs,(xs.length:Int))) 0 xs ((),(0:Int))=_:=h3
   rw[h3,ha]
   show (!decide (j≥0))=false
   rw[decide_eq_true hj];rfl
  ·have h3:scan 0 (gh_S (xs,(xs.length:Int))) 0 xs ((),(0:Int))=_:=h3
   rw[h3,ha];rfl
theorem ypl_ok:FnPure Try.prog 46 aLY dBool plainY (fun _=>[]):=
 pure_congr (ypl_okS _ fun g hb _=>(ypl_eq g hb.1).2) fun g hb _=>(ypl_eq g hb.1).1
theorem rpl_eq (xs:List Y) (hm:xs.length≤maxLen):rpl_F xs=plainY xs∧rpl_side xs:=by
 unfold rpl_F rpl_side rpl_q1 plainY
 simp only[eY.lst_els]
 have h1:loopF (fun g:gg_G=>gg_R g.1 g.2.1 g.2.2) gg_M (xs,0,false)=_:=gg_run xs false rfl hm trivial
 rw[h1]
 refine ⟨?_,okY xs,fun _=>⟨okY xs,ixJ0 rfl hm trivial⟩⟩
 cases chkY xs != (0:Int) with
 | true=>rfl
 | false=>
  simp only[cond_false]
  show (bif exB Ex.ret (scan 0 (gg_S xs) 0 xs false).1 then (scan 0 (gg_S xs) 0 xs false).2.2 else true)=_
  rcases search (x:=0) (st:=gg_S xs) (p:=fun v:Y=>decide (v.n<(0:Int))) (r:=fun _ _ _=>false) (fun _ _ _=>rfl) xs false with ⟨ha,j,hj,a,haa,hp,h3⟩ | ⟨ha,h3⟩
  ·have h3:scan 0 (gg_S xs) 0 xs false=_:=h3
   rw[h3,ha];rfl
  ·have h3:scan 0 (gg_S xs) 0 xs false=_:=h3
   rw[h3,ha];rfl
theorem rpl_ok:FnPure Try.prog 47 aLY dBool plainY (fun _=>[]):=
 pure_congr (rpl_okS _ fun g hb _=>(rpl_eq g hb.1).2) fun g hb _=>(rpl_eq g hb.1).1
theorem rpu_eq (xs:List Y) (w:Y) (h:xs.length≤KS) (hs:SrtY xs) (hw:∀ v∈xs,IntKind.i64.wrap (v.n+w.n)=v.n+w.n):rpu_F xs w=putY w xs∧rpu_side xs w:=by
 obtain ⟨s1,s2⟩:=pu_scan xs w xs 0 [] false
 have s3:=pu_all xs w xs [] hs hw
 rw[List.nil_append] at s3
 have hl:(xs.foldl (fun b v=>(puO w b.1 b.2 v,puZ w b.2 v)) ([],false)).1.length≤xs.length+1:=by
  have key:∀ (l:List Y) (o:List Y) (z:Bool),(l.foldl (fun b v=>(puO w b.1 b.2 v,puZ w b.2 v)) (o,z)).1.length≤o.length+l.length+(bif z then 0 else 1):=by
   intro l
   induction l with
   | nil=>intro o z;cases z <;> simp
   | cons v l ih=>
    intro o z
    rw[List.foldl_cons]
    refine Nat.le_trans (ih _ _) ?_
    unfold puO puZ
    cases z <;> cases decide (tcmp_F w.t v.t<(0:Int)) <;> cases tcmp_F w.t v.t==(0:Int) <;> simp <;> omega
  have:=key xs [] false
  simpa using this
 have h1:=pu_run xs w h
 unfold rpu_F rpu_side
 have hq:rpu_q1 xs w=loopF pu_RR pu_M (xs,(),w,[],false,0):=by
  unfold rpu_q1
  rw[eY.lst_els]
 rw[h1] at hq
 have e1:(rpu_q1 xs w).2.2.2.1=w:=by rw[hq];rfl
 have e2:(rpu_q1 xs w).2.2.2.2.1=(xs.foldl (fun b v=>(puO w b.1 b.2 v,puZ w b.2 v)) ([],false)).1:=by
  rw[hq]
  show (scan 0 (pu_S (xs,w)) 0 xs ((),[],false)).2.2.2.1=_
  rw[s2]
 have e3:(rpu_q1 xs w).2.2.2.2.2.1=(xs.foldl (fun b v=>(puO w b.1 b.2 v,puZ w b.2 v)) ([],false)).2:=by
  rw[hq]
  show (scan 0 (pu_S (xs,w)) 0 xs ((),[],false)).2.2.2.2=_
  rw[s2]
 rw[e1,e2,e3]
 simp only[eY.lst_els,lst_snoc,bytesY]
 have hk:xs.length≤1000000:=h
 refine ⟨s3,okY xs,pu_ix xs w h,fun _=>⟨⟨Nat.le_refl _,trivial,by unfold maxLen;omega,by omega⟩,Nat.le_refl _,fun _ _=>trivial,fun _ _=>trivial⟩,fun _=>⟨Nat.le_refl _,fun _ _=>trivial⟩⟩
theorem rpu_ok:FnPure Try.prog 111 aLYY (Rv.D rLY) (fun g=>putY g.2 g.1) (fun g=>[g.1.length≤KS∧SrtY g.1∧∀ v∈g.1,IntKind.i64.wrap (v.n+g.2.n)=v.n+g.2.n]):=
 pure_congr (rpu_okS _ fun g _ hp=>by
  obtain ⟨h1,h2,h3⟩:=hp _ (List.mem_cons_self ..)
  exact (rpu_eq g.1 g.2 h1 h2 h3).2) fun g _ hp=>by
  obtain ⟨h1,h2,h3⟩:=hp _ (List.mem_cons_self ..)
  exact (rpu_eq g.1 g.2 h1 h2 h3).1
def turn (y:Y):Y:=⟨y.t,-y.n⟩
noncomputable def negY (xs:List Y):List Y×Int:=bif chkY xs != (0:Int) then ([],chkY xs) else (xs.map turn,0)
theorem fold_map {α:Type} (f:Y→α):∀ (l:List Y) (o:List α),l.foldl (fun o v=>o++[f v]) o=o++l.map f
 | [],o=>by simp
 | x :: l,o=>by rw[List.foldl_cons,fold_map f l];simp
theorem rne_eq (xs:List Y) (h:xs.length≤KS):rne_F xs=negY xs∧rne_side xs:=by
 unfold rne_F rne_side rne_q1 negY
 simp only[eY.lst_els]
 have h1:loopF (fun g:ne_G=>ne_R g.1 g.2.1 g.2.2) ne_M (xs,[],0)=_:=ne_run xs [] rfl h rfl
 rw[h1]
 refine ⟨?_,okY xs,fun _=>⟨okY xs,ne_ix xs [] rfl h rfl,Nat.le_refl _,fun _ _=>trivial⟩⟩
 cases hc:(chkY xs != (0:Int)) with
 | true=>rfl
 | false=>
  obtain ⟨_,hw,_⟩:=chk0 h (bne0 hc)
  simp only[cond_false]
  have e:(scan 0 (ne_S xs) 0 xs []).2.2=xs.map turn:=by
   rw[scan_fold (st:=ne_S xs) (f:=fun (b:List Y) (v:Y)=>b++[Y.mk v.t (IntKind.i64.wrap ((0:Int) - v.n))]) (fun _ _ _=>rfl)]
   show xs.foldl _ []=_
   rw[fold_map]
   rw[List.nil_append]
   refine List.map_congr_left fun v hv=>?_
   have:=(ywi_iff _).1 (hw v hv).2
   unfold turn
   rw[wrS (by omega),Int.zero_sub]
  show ((scan 0 (ne_S xs) 0 xs []).2.2,(0:Int))=_
  rw[e]
theorem rne_ok:FnPure Try.prog 65 aLY (Rv.D rLYE) negY (fun g=>[g.length≤KS]):=
 pure_congr (rne_okS _ fun g _ hp=>(rne_eq g (hp _ (List.mem_cons_self ..))).2) fun g _ hp=>(rne_eq g (hp _ (List.mem_cons_self ..))).1
def there (xs:List Y):List Y:=xs.filter fun v=>decide (v.n > 0)
theorem fold_filter {α:Type} (p:Y→Bool) (f:Y→α):∀ (l:List Y) (o:List α),l.foldl (fun o v=>bif p v then o++[f v] else o) o=o++(l.filter p).map f
 | [],o=>by simp
 | x :: l,o=>by
  rw[List.foldl_cons,fold_filter p f l]
  cases hp:p x <;> simp[hp]
theorem yth_eq (xs:List Y) (h:xs.length≤KS):yth_F xs=there xs∧yth_side xs:=by
 unfold yth_F yth_side yth_q1 there
 simp only[eY.lst_els]
 have h1:loopF (fun g:th_G=>th_R g.1 g.2.1 g.2.2.1 g.2.2.2) th_M (xs,(xs.length:Int),0,[])=_:=th_run (xs,(xs.length:Int)) [] rfl h rfl
 rw[h1]
 refine ⟨?_,okY xs,th_ix (xs,(xs.length:Int)) [] rfl h rfl,Nat.le_refl _,fun _ _=>trivial⟩
 show (scan 0 (th_S (xs,(xs.length:Int))) 0 xs []).2.2=_
 rw[scan_fold (st:=th_S (xs,(xs.length:Int))) (f:=fun (b:List Y) (v:Y)=>bif decide (v.n > (0:Int)) then b++[v] else b) (fun _ _ _=>rfl)]
 show xs.foldl _ []=_
 rw[fold_filter (fun v:Y=>decide (v.n > (0:Int))) (fun v=>v)]
 simp
theorem yth_ok:FnPure Try.prog 97 aLY (Rv.D rLY) there (fun g=>[g.length≤KS]):=
 pure_congr (yth_okS _ fun g _ hp=>(yth_eq g (hp _ (List.mem_cons_self ..))).2) fun g _ hp=>(yth_eq g (hp _ (List.mem_cons_self ..))).1
theorem onesY (xs:List Y) (e:Nat):(eY.els xs e).all SV.one=true:=by
 unfold El.els
 generalize xs.getD e eY.dflt=t
 rfl
theorem clY (xs:List Y):List.map (fun _=>eY.get []) (List.range (min (0+xs.length) 0))++eY.lst (0+xs.length - 0) (eY.els xs)=xs:=by
 have h2:min (0+xs.length) 0=0:=by omega
 rw[h2,show 0+xs.length - 0=xs.length by omega,eY.lst_els]
 rfl
theorem cloneY_row:FnRow Try.prog 29 45 eY aLY (fun xs=>xs) (fun xs=>[xs.length≤KS]):=
 row_of_tree (PTab.okz (PTab.nil:PTab Try.prog) [] []) noΛ_ok 100 fun xs _ hp=>by
  have h:xs.length≤KS:=hp _ (List.mem_cons_self ..)
  unfold KS at h
  rw[ycl]
  intro cs hcs
  refine ⟨fun hc=>?_,fun _=>⟨⟨Nat.le_refl _,fun e _=>onesY xs e,by unfold maxLen;omega,by rw[bytesY];omega⟩,rfl,fun e he=>by omega,fun _ _=>trivial,?_⟩⟩
  ·have hx:xs=[]:=List.length_eq_zero_iff.1 (hcs (by cases hh:cs.isEmpty with
    | true=>rw[hh] at hc;cases hc
    | false=>rfl))
   exact hx.symm
  ·exact clY xs
noncomputable def tabU16:MTab Try.prog:=(((((((((tabU13.cons 40 (pconP aLYT dI (fun g=>getY g.1 g.2) (fun g=>[g.1.length≤KS])) (conP_ok ygt_ok puI)).cons 42 (pconP aLYT dI (fun g=>belY g.1 g.2) (fun g=>[g.1.length≤KS])) (conP_ok ybl_ok puI)).cons 44 (pconP aLY dI totalY (fun g=>[g.length≤KS])) (conP_ok ytl_ok puI)).cons 46 (pconP aLY dBool plainY (fun _=>[])) (conP_ok ypl_ok puB)).cons 47 (pconP aLY dBool plainY (fun _=>[])) (conP_ok rpl_ok puB)).cons 111 (pconR aLYY (Rv.D rLY) (fun g=>putY g.2 g.1) (fun g=>[g.1.length≤KS∧SrtY g.1∧∀ v∈g.1,IntKind.i64.wrap (v.n+g.2.n)=v.n+g.2.n])) (conR_ok rpu_ok)).cons 65 (pconR aLY (Rv.D rLYE) negY (fun g=>[g.length≤KS])) (conR_ok rne_ok)).consM 97 (lconR eY DA.none (Rv.D rLY) (fun g=>there g.1) (fun g=>[g.1.length≤KS])) (conL_ok (pure_none yth_ok))).consM 29 (bconRow 45 eY aLY (fun xs=>xs) (fun xs=>[xs.length≤KS])) (conRow_ok cloneY_row))
end Go.Proofs.Ytiipneclghnfhaa

namespace Go.Proofs.Ytiipneclghnfhaa
open Go.RowKit Go.Sx
set_option maxRecDepth 100000
set_option linter.unusedVariables false
noncomputable def rgt_q1 (xs:List Y) (t:T):Ex ×
 lg1_G:=
 loopF (fun g=>lg1_R g.fst g.snd.fst g.snd.snd.fst g.snd.snd.snd.fst g.snd.snd.snd.snd) lg1_M (eY.lst xs.length (eY.els xs),(),t,(0:Int),(0:Int))
noncomputable def rgt_F (xs:List Y) (t:T):Dv.T dI:=
 (rgt_q1 xs t).snd.snd.snd.snd.fst
def rgt_side (xs:List Y) (t:T):Prop:=
 (∀ (e:Nat),e<xs.length→eY.Ok (eY.els xs e))∧Lp.ixJ (fun c=>(↑(bif chkY c.fst==(0:Int) then c.fst else []).length:Int)) (fun c=>bif chkY c.fst==(0:Int) then c.fst else []) lg1_K (lg1_f (eY.lst xs.length (eY.els xs),(),t,(0:Int),(0:Int)))
theorem rgt_okS (pre:DA.T aLYT→List Prop) (h:∀ g,DA.bd aLYT g→(∀ p∈pre g,p)→rgt_side g.1 g.2):FnPure Try.prog 41 aLYT dI (fun g=>rgt_F g.1 g.2) pre:=pure_of_sideS (Γ:=(MTab.gamz tabU16 [] [])) (Λ:=lamU15) (MTab.okz tabU16 [] []) lamU15_ok 100 default (fun g=>rgt_side g.1 g.2) (fun g=>by kernel_rfl) (fun g=>by kernel_rfl) h
noncomputable def rbl_q1 (xs:List Y) (t:T):Ex ×
 lg2_G:=
 loopF (fun g=>lg2_R g.fst g.snd.fst g.snd.snd.fst g.snd.snd.snd.fst g.snd.snd.snd.snd) lg2_M (eY.lst xs.length (eY.els xs),(),t,(0:Int),(0:Int))
noncomputable def rbl_F (xs:List Y) (t:T):Dv.T dI:=
 (rbl_q1 xs t).snd.snd.snd.snd.fst
def rbl_side (xs:List Y) (t:T):Prop:=
 (∀ (e:Nat),e<xs.length→eY.Ok (eY.els xs e))∧Lp.ixJ (fun c=>(↑(bif chkY c.fst==(0:Int) then c.fst else []).length:Int)) (fun c=>bif chkY c.fst==(0:Int) then c.fst else []) lg2_K (lg2_f (eY.lst xs.length (eY.els xs),(),t,(0:Int),(0:Int)))
theorem rbl_okS (pre:DA.T aLYT→List Prop) (h:∀ g,DA.bd aLYT g→(∀ p∈pre g,p)→rbl_side g.1 g.2):FnPure Try.prog 43 aLYT dI (fun g=>rbl_F g.1 g.2) pre:=pure_of_sideS (Γ:=(MTab.gamz tabU16 [] [])) (Λ:=lamU15) (MTab.okz tabU16 [] []) lamU15_ok 100 default (fun g=>rbl_side g.1 g.2) (fun g=>by kernel_rfl) (fun g=>by kernel_rfl) h
noncomputable def rtl_q1 (xs:List Y):Ex ×
 lg3_G:=
 loopF (fun g=>lg3_R g.fst g.snd.fst g.snd.snd) lg3_M (eY.lst xs.length (eY.els xs),(0:Int),(0:Int))
noncomputable def rtl_F (xs:List Y):Dv.T dI:=
 (rtl_q1 xs).snd.snd.fst
def rtl_side (xs:List Y):Prop:=
 (∀ (e:Nat),e<xs.length→eY.Ok (eY.els xs e))∧Lp.ixJ (fun c=>(↑(List.length (bif chkY c==(0:Int) then c else [])):Int)) (fun c=>bif chkY c==(0:Int) then c else []) lg3_K (lg3_f (eY.lst xs.length (eY.els xs),(0:Int),(0:Int)))
theorem rtl_okS (pre:DA.T aLY→List Prop) (h:∀ g,DA.bd aLY g→(∀ p∈pre g,p)→rtl_side g):FnPure Try.prog 45 aLY dI (fun g=>rtl_F g) pre:=pure_of_sideS (Γ:=(MTab.gamz tabU16 [] [])) (Λ:=lamU15) (MTab.okz tabU16 [] []) lamU15_ok 100 default (fun g=>rtl_side g) (fun g=>by kernel_rfl) (fun g=>by kernel_rfl) h
noncomputable def rtz_q1 (xs:List Y):Ex ×
 lg4_G:=
 loopF (fun g=>lg4_R g.fst g.snd.fst g.snd.snd) lg4_M (eY.lst xs.length (eY.els xs),[],(0:Int))
noncomputable def rtz_F (xs:List Y):Rv.T rLY:=
 eY.lst (rtz_q1 xs).snd.snd.fst.length (eY.els (rtz_q1 xs).snd.snd.fst)
def rtz_side (xs:List Y):Prop:=
 (∀ (e:Nat),e<xs.length→eY.Ok (eY.els xs e))∧Lp.ixJ (fun c=>(↑(List.length (bif chkY c==(0:Int) then c else [])):Int)) (fun c=>bif chkY c==(0:Int) then c else []) lg4_K (lg4_f (eY.lst xs.length (eY.els xs),[],(0:Int)))∧(rtz_q1 xs).snd.snd.fst.length≤(rtz_q1 xs).snd.snd.fst.length∧∀ (e:Nat),e<(rtz_q1 xs).snd.snd.fst.length→True
theorem rtz_okS (pre:DA.T aLY→List Prop) (h:∀ g,DA.bd aLY g→(∀ p∈pre g,p)→rtz_side g):FnPure Try.prog 39 aLY (Rv.D rLY) (fun g=>rtz_F g) pre:=res_of_side (R:=rLY) (Γ:=(MTab.gamz tabU16 [] [])) (Λ:=lamU15) (MTab.okz tabU16 [] []) lamU15_ok 100 default (fun g=>rtz_side g) (fun g=>by kernel_rfl) (fun g=>by kernel_rfl) h
abbrev ng_G:Type:=List Y×Int×Int
noncomputable def ng_LP:LP 1 ng_G:=.pair (.row 1 5 tY eY) (.pair (.slot 1 15 dI) (.slot 1 16 dI))
noncomputable def ng_R (o:List Y) (n:Int) (i:Int):Ex×ng_G:=
 bif decide (i<n) then (Ex.normal,(eY.lst o.length (eY.els o)).set i.toNat (Y.mk (o.getD i.toNat eY.dflt).t (IntKind.i64.wrap ((0:Int) - (o.getD i.toNat eY.dflt).n))),n,IntKind.i64.wrap (i+(1:Int)))
 else (Ex.exit (0:Nat),eY.lst o.length (eY.els o),n,i)
def ng_side (o:List Y) (n:Int) (i:Int):Prop:=
 (decide (i<n)=true→((0:Int)≤i∧i<(↑o.length:Int))∧i.toNat<o.length∧((0:Int)≤i∧i<(↑o.length:Int))∧i.toNat<o.length∧o.length≤o.length∧True∧∀ (e:Nat),e<o.length→True)∧(decide (i<n)=false→o.length≤o.length∧∀ (e:Nat),e<o.length→True)
theorem ng_one:((loopsOf Try.prog 64).filter fun c=>Nat.beq (lkey c) 6).length=1:=by kernel_rfl
theorem ng_es (g:ng_G):(ng_R g.1 g.2.1 g.2.2).1=.normal∨(ng_R g.1 g.2.1 g.2.2).1∈([.exit 0]:List Ex):=by
 unfold ng_R
 repeat' (first | (left;rfl) | (right;simp only[cond_true,cond_false];simp;done) | (rw[Bool.cond_eq_ite];split))
noncomputable abbrev ng_C (Inv:ng_G→List Prop) (m:ng_G→Nat):LCon:=loopR [.exit 0] (loopBody Try.prog 64 6) ng_LP [] 31 Inv (fun g=>ng_R g.1 g.2.1 g.2.2) m
theorem ng_loop (Inv:ng_G→List Prop) (m:ng_G→Nat) (hs:∀ g,allP (Inv g)→ng_side g.1 g.2.1 g.2.2) (hg:Goes (fun g:ng_G=>ng_R g.1 g.2.1 g.2.2) m fun g=>allP (Inv g)):∀ b∈loopsOf Try.prog 64,lkey b=6→LoopOk Try.prog b (ng_C Inv m).g:=loop_run (Γ:=(MTab.gamz tabU16 [] [])) (Λ:=lamU15) (MTab.okz tabU16 [] []) lamU15_ok 100 64 6 31 ng_LP [] Inv (fun g=>ng_R g.1 g.2.1 g.2.2) (fun g=>ng_side g.1 g.2.1 g.2.2) m default [.exit 0] ng_one (fun rd T B HL HB ds g=>by kernel_rfl) (fun rd T B HL HB ds g=>by kernel_rfl) hs hg ng_es
abbrev al_G:Type:=List Y×List Y×Int
noncomputable def al_LP:LP 0 al_G:=.pair (.slot 0 0 dLY) (.pair (.slot 0 6 dLY) (.slot 0 7 dI))
noncomputable def al_R (xs:List Y) (a:List Y) (i:Int):Ex×al_G:=
 bif decide (i<(↑xs.length:Int)) then (Ex.normal,eY.lst xs.length (eY.els xs),eY.lst (putY (xs.getD i.toNat eY.dflt) (eY.lst a.length (eY.els a))).length (eY.els (putY (xs.getD i.toNat eY.dflt) (eY.lst a.length (eY.els a)))),IntKind.i64.wrap (i+(1:Int)))
 else (Ex.exit (2:Nat),eY.lst xs.length (eY.els xs),eY.lst a.length (eY.els a),i)
def al_side (xs:List Y) (a:List Y) (i:Int):Prop:=
 (decide (i<(↑xs.length:Int))=true→((0:Int)≤i∧i<(↑xs.length:Int))∧(∀ (e:Nat),e<a.length→eY.Ok (eY.els a e))∧((eY.lst a.length (eY.els a)).length≤KS∧SrtY (eY.lst a.length (eY.els a))∧∀ (v:Y),v∈eY.lst a.length (eY.els a)→IntKind.i64.wrap (v.n+(xs.getD i.toNat eY.dflt).n)=v.n+(xs.getD i.toNat eY.dflt).n)∧(∀ (e:Nat),e<xs.length→eY.Ok (eY.els xs e))∧∀ (e:Nat),e<(putY (xs.getD i.toNat eY.dflt) (eY.lst a.length (eY.els a))).length→eY.Ok (eY.els (putY (xs.getD i.toNat eY.dflt) (eY.lst a.length (eY.els a))) e))∧(decide (i<(↑xs.length:Int))=false→(∀ (e:Nat),e<xs.length→eY.Ok (eY.els xs e))∧∀ (e:Nat),e<a.length→eY.Ok (eY.els a e))
theorem al_one:((loopsOf Try.prog 60).filter fun c=>Nat.beq (lkey c) 11).length=1:=by kernel_rfl
abbrev al_GC:Type:=List Y
abbrev al_GB:Type:=List Y
def al_f (g:al_G):Int×al_GC×al_GB:=(g.2.2,g.1,g.2.1)
def al_g (d:Int×al_GC×al_GB):al_G:=(d.2.1,d.2.2,d.1)
theorem al_es (g:al_G):(al_R g.1 g.2.1 g.2.2).1=.normal∨(al_R g.1 g.2.1 g.2.2).1∈([.exit 2]:List Ex):=by
 unfold al_R
 repeat' (first | (left;rfl) | (right;simp only[cond_true,cond_false];simp;done) | (rw[Bool.cond_eq_ite];split))
noncomputable abbrev al_C (Inv:al_G→List Prop) (m:al_G→Nat):LCon:=loopR [.exit 2] (loopBody Try.prog 60 11) al_LP [] 67 Inv (fun g=>al_R g.1 g.2.1 g.2.2) m
theorem al_loop (Inv:al_G→List Prop) (m:al_G→Nat) (hs:∀ g,allP (Inv g)→al_side g.1 g.2.1 g.2.2) (hg:Goes (fun g:al_G=>al_R g.1 g.2.1 g.2.2) m fun g=>allP (Inv g)):∀ b∈loopsOf Try.prog 60,lkey b=11→LoopOk Try.prog b (al_C Inv m).g:=loop_run (Γ:=(MTab.gamz tabU16 [] [])) (Λ:=lamU15) (MTab.okz tabU16 [] []) lamU15_ok 100 60 11 67 al_LP [] Inv (fun g=>al_R g.1 g.2.1 g.2.2) (fun g=>al_side g.1 g.2.1 g.2.2) m default [.exit 2] al_one (fun rd T B HL HB ds g=>by kernel_rfl) (fun rd T B HL HB ds g=>by kernel_rfl) hs hg al_es
end Go.Proofs.Ytiipneclghnfhaa

namespace Go.Proofs.Ytiipneclghnfhaa
open Go.RowKit Go.Sx Go.Lp
theorem rgt_eq (xs:List Y) (t:T) (h:xs.length≤KS):rgt_F xs t=getY xs t∧rgt_side xs t:=by
 have hm:xs.length≤maxLen:=Nat.le_trans h (by decide)
 have hg:(bif chkY xs==(0:Int) then xs else []).length≤maxLen:=Nat.le_trans (guard_len _ _) hm
 unfold rgt_F rgt_side rgt_q1 getY
 simp only[eY.lst_els]
 have h1:loopF (fun g:lg1_G=>lg1_R g.1 g.2.1 g.2.2.1 g.2.2.2.1 g.2.2.2.2) lg1_M (xs,(),t,0,0)=_:=lg1_run (xs,t) ((),(0:Int)) rfl hg trivial
 rw[h1]
 refine ⟨?_,okY xs,ixJ0 rfl hg trivial⟩
 show (scan 0 (lg1_S (xs,t)) 0 (bif chkY xs==(0:Int) then xs else []) ((),(0:Int))).2.2.2=_
 rw[scan_fold (st:=lg1_S (xs,t)) (f:=fun (b:Unit×Int) (v:Y)=>(b.1,bif eqT v.t t then v.n else b.2)) (fun _ _ _=>rfl)]
 have e:(chkY xs != (0:Int))=!(chkY xs==(0:Int)):=rfl
 rw[e]
 cases hc:chkY xs==(0:Int) with
 | false=>rfl
 | true=>
  obtain ⟨_,_,hs⟩:=chk0 h (eq_of_beq hc)
  have key:∀ (l:List Y) (u:Unit) (r:Int),SrtY l→(l.foldl (fun (b:Unit×Int) (v:Y)=>(b.1,bif eqT v.t t then v.n else b.2)) (u,r)).2=if (∃ x∈l,x.t=t) then sumK Y.t Y.n l t else r:=by
   intro l
   induction l with
   | nil=>intro u r _;simp
   | cons v l ih=>
    intro u r hs
    have hs':=hs
    unfold SrtY Srt at hs'
    rw[List.pairwise_cons] at hs'
    rw[List.foldl_cons,ih _ _ hs'.2]
    simp only[sumK,List.mem_cons,exists_eq_or_imp]
    by_cases hv:v.t=t
    ·have hno:¬ ∃ x∈l,x.t=t:=by
      rintro ⟨x,hx,hxt⟩
      have:=hs'.1 x hx
      rw[hv,hxt] at this
      exact toT.irrefl _ this
     have e2:eqT v.t t=true:=by unfold eqT;simpa using hv
     rw[if_neg hno,if_pos (.inl hv),if_pos hv,e2,sumK_none Y.t Y.n fun x hx hxt=>hno ⟨x,hx,hxt⟩]
     simp
    ·have e2:eqT v.t t=false:=by unfold eqT;simpa using hv
     rw[e2,if_neg hv]
     simp only[hv,false_or,cond_false,Int.zero_add]
  simp only[Bool.not_true,cond_false,cond_true]
  show (xs.foldl (fun (b:Unit×Int) (v:Y)=>(b.1,bif eqT v.t t then v.n else b.2)) ((),0)).2=_
  rw[key xs () 0 hs]
  by_cases hex:∃ x∈xs,x.t=t
  ·rw[if_pos hex]
  ·rw[if_neg hex]
   exact (sumK_none Y.t Y.n fun x hx hxt=>hex ⟨x,hx,hxt⟩).symm
theorem rgt_ok:FnPure Try.prog 41 aLYT dI (fun g=>getY g.1 g.2) (fun g=>[g.1.length≤KS]):=
 pure_congr (rgt_okS _ fun g _ hp=>(rgt_eq g.1 g.2 (hp _ (List.mem_cons_self ..))).2) fun g _ hp=>(rgt_eq g.1 g.2 (hp _ (List.mem_cons_self ..))).1
theorem rbl_eq (xs:List Y) (t:T) (h:xs.length≤KS):rbl_F xs t=belY xs t∧rbl_side xs t:=by
 have hm:xs.length≤maxLen:=Nat.le_trans h (by decide)
 have hg:(bif chkY xs==(0:Int) then xs else []).length≤maxLen:=Nat.le_trans (guard_len _ _) hm
 unfold rbl_F rbl_side rbl_q1 belY
 simp only[eY.lst_els]
 have h1:loopF (fun g:lg2_G=>lg2_R g.1 g.2.1 g.2.2.1 g.2.2.2.1 g.2.2.2.2) lg2_M (xs,(),t,0,0)=_:=lg2_run (xs,t) ((),(0:Int)) rfl hg trivial
 rw[h1]
 refine ⟨?_,okY xs,ixJ0 rfl hg trivial⟩
 show (scan 0 (lg2_S (xs,t)) 0 (bif chkY xs==(0:Int) then xs else []) ((),(0:Int))).2.2.2=_
 rw[scan_fold (st:=lg2_S (xs,t)) (f:=fun (b:Unit×Int) (v:Y)=>(b.1,bif tleq_F v.t t then IntKind.i64.wrap (b.2+v.n) else b.2)) (fun _ _ _=>rfl)]
 have e:(chkY xs != (0:Int))=!(chkY xs==(0:Int)):=rfl
 rw[e]
 cases hc:chkY xs==(0:Int) with
 | false=>rfl
 | true=>
  obtain ⟨_,hw,_⟩:=chk0 h (eq_of_beq hc)
  simp only[Bool.not_true,cond_false,cond_true]
  show (xs.foldl (fun (b:Unit×Int) (v:Y)=>(b.1,bif tleq_F v.t t then IntKind.i64.wrap (b.2+v.n) else b.2)) ((),0)).2=_
  rw[fold_u (p:=fun v=>tleq_F v.t t),foldW _ xs 0 0 (by decide) (by decide) (by have:xs.length≤1000000:=h;omega) fun v hv=>(hw v hv).2]
  omega
theorem rbl_ok:FnPure Try.prog 43 aLYT dI (fun g=>belY g.1 g.2) (fun g=>[g.1.length≤KS]):=
 pure_congr (rbl_okS _ fun g _ hp=>(rbl_eq g.1 g.2 (hp _ (List.mem_cons_self ..))).2) fun g _ hp=>(rbl_eq g.1 g.2 (hp _ (List.mem_cons_self ..))).1
theorem rtl_eq (xs:List Y) (h:xs.length≤KS):rtl_F xs=totalY xs∧rtl_side xs:=by
 have hm:xs.length≤maxLen:=Nat.le_trans h (by decide)
 have hg:(bif chkY xs==(0:Int) then xs else []).length≤maxLen:=Nat.le_trans (guard_len _ _) hm
 unfold rtl_F rtl_side rtl_q1 totalY
 simp only[eY.lst_els]
 have h1:loopF (fun g:lg3_G=>lg3_R g.1 g.2.1 g.2.2) lg3_M (xs,0,0)=_:=lg3_run xs (0:Int) rfl hg trivial
 rw[h1]
 refine ⟨?_,okY xs,ixJ0 rfl hg trivial⟩
 show (scan 0 (lg3_S xs) 0 (bif chkY xs==(0:Int) then xs else []) (0:Int)).2.2=_
 rw[scan_fold (st:=lg3_S xs) (f:=fun (b:Int) (v:Y)=>IntKind.i64.wrap (b+v.n)) (fun _ _ _=>rfl)]
 have e:(chkY xs != (0:Int))=!(chkY xs==(0:Int)):=rfl
 rw[e]
 cases hc:chkY xs==(0:Int) with
 | false=>rfl
 | true=>
  obtain ⟨_,hw,_⟩:=chk0 h (eq_of_beq hc)
  exact fold_t xs h hw
theorem rtl_ok:FnPure Try.prog 45 aLY dI totalY (fun g=>[g.length≤KS]):=
 pure_congr (rtl_okS _ fun g _ hp=>(rtl_eq g (hp _ (List.mem_cons_self ..))).2) fun g _ hp=>(rtl_eq g (hp _ (List.mem_cons_self ..))).1
noncomputable def timesY (xs:List Y):List Y:=bif chkY xs==(0:Int) then there xs else []
theorem rtz_eq (xs:List Y) (h:xs.length≤KS):rtz_F xs=timesY xs∧rtz_side xs:=by
 unfold rtz_F rtz_side rtz_q1 timesY there
 simp only[eY.lst_els]
 have h1:loopF (fun g:lg4_G=>lg4_R g.1 g.2.1 g.2.2) lg4_M (xs,[],0)=_:=lg4_run xs [] rfl h rfl
 rw[h1]
 refine ⟨?_,okY xs,lg4_ix xs [] rfl h rfl,Nat.le_refl _,fun _ _=>trivial⟩
 show (scan 0 (lg4_S xs) 0 (bif chkY xs==(0:Int) then xs else []) []).2.2=_
 rw[scan_fold (st:=lg4_S xs) (f:=fun (b:List Y) (v:Y)=>bif decide (v.n > (0:Int)) then b++[v] else b) (fun _ _ _=>rfl)]
 show (List.foldl (fun (b:List Y) (v:Y)=>bif decide (v.n > (0:Int)) then b++[v] else b) [] (bif chkY xs==(0:Int) then xs else []))=_
 rw[fold_filter (fun v:Y=>decide (v.n > (0:Int))) (fun v=>v)]
 cases chkY xs==(0:Int) <;> simp
theorem rtz_ok:FnPure Try.prog 39 aLY (Rv.D rLY) timesY (fun g=>[g.length≤KS]):=
 pure_congr (rtz_okS _ fun g _ hp=>(rtz_eq g (hp _ (List.mem_cons_self ..))).2) fun g _ hp=>(rtz_eq g (hp _ (List.mem_cons_self ..))).1
def tw (v:Y):Y:=⟨v.t,IntKind.i64.wrap (0 - v.n)⟩
abbrev ng_I (g:ng_G):List Prop:=[g.2.1=(List.length g.1:Int)∧g.1.length≤KS∧0≤g.2.2∧g.2.2≤(List.length g.1:Int)]
abbrev ng_M (g:ng_G):Nat:=(g.2.1 - g.2.2).toNat
noncomputable abbrev ng_RR (g:ng_G):Ex×ng_G:=ng_R g.1 g.2.1 g.2.2
theorem ng_form (o:List Y) (n i:Int) (h:allP (ng_I (o,n,i))):ng_RR (o,n,i)=if i<n then (.normal,o.set i.toNat (tw (o.getD i.toNat eY.dflt)),n,i+1) else (.exit 0,o,n,i):=by
 obtain ⟨h1,h2,h3,h4⟩:=h _ (List.mem_cons_self ..)
 have h2:o.length≤1000000:=h2
 have h4:i≤(o.length:Int):=h4
 have h3:0≤i:=h3
 show ng_R o n i=_
 unfold ng_R
 simp only[eY.lst_els]
 by_cases hc:i<n
 ·rw[decide_eq_true hc,if_pos hc,cond_true,wrS (x:=i+1) (by omega)];rfl
 ·rw[decide_eq_false hc,if_neg hc];rfl
theorem ng_goes:Goes ng_RR ng_M fun g=>allP (ng_I g):=by
 rintro ⟨o,n,i⟩ hi hn
 have hf:=ng_form o n i hi
 obtain ⟨h1,h2,h3,h4⟩:=hi _ (List.mem_cons_self ..)
 have h1:n=(o.length:Int):=h1
 have h3:0≤i:=h3
 rw[hf] at hn ⊢
 by_cases hc:i<n
 ·rw[if_pos hc]
  refine ⟨fun p hp=>?_,?_⟩
  ·rw[List.mem_singleton.1 hp]
   refine ⟨by show n=((o.set _ _).length:Int);rw[List.length_set];exact h1,by show (o.set _ _).length≤KS;rw[List.length_set];exact h2,by show 0≤i+1;omega,by show i+1≤((o.set _ _).length:Int);rw[List.length_set];omega⟩
  ·show (n - (i+1)).toNat<(n - i).toNat
   omega
 ·rw[if_neg hc] at hn;cases hn
theorem ng_all:∀ g:ng_G,allP (ng_I g)→loopF ng_RR ng_M g=(.exit 0,g.1.take g.2.2.toNat++(g.1.drop g.2.2.toNat).map tw,g.2.1,g.2.1):=by
 refine loopF_induct ng_goes (Q:=fun g r=>r=(.exit 0,g.1.take g.2.2.toNat++(g.1.drop g.2.2.toNat).map tw,g.2.1,g.2.1)) ?_ ?_
 ·rintro ⟨o,n,i⟩ hi hn
  have hf:=ng_form o n i hi
  obtain ⟨h1,h2,h3,h4⟩:=hi _ (List.mem_cons_self ..)
  have h1:n=(o.length:Int):=h1
  have h4:i≤(o.length:Int):=h4
  rw[hf] at hn ⊢
  by_cases hc:i<n
  ·rw[if_pos hc] at hn;exact absurd rfl hn
  ·rw[if_neg hc]
   have:i=n:=by omega
   subst this
   simp only
   rw[List.take_of_length_le (by omega),List.drop_eq_nil_of_le (by omega)]
   simp
 ·rintro ⟨o,n,i⟩ g' r hi he _ _ hq
  have hf:=ng_form o n i hi
  obtain ⟨h1,h2,h3,h4⟩:=hi _ (List.mem_cons_self ..)
  have h1:n=(o.length:Int):=h1
  have h3:0≤i:=h3
  rw[hf] at he
  by_cases hc:i<n
  ·rw[if_pos hc] at he
   simp only[Prod.mk.injEq,true_and] at he
   subst he
   rw[hq]
   simp only
   have hlt:i.toNat<o.length:=by omega
   have e1:(i+1).toNat=i.toNat+1:=by omega
   rw[e1]
   congr 2
   have e2:(o.set i.toNat (tw (o.getD i.toNat eY.dflt))).take (i.toNat+1)=o.take i.toNat++[tw (o.getD i.toNat eY.dflt)]:=by
    rw[List.take_add_one,List.getElem?_set_self hlt,List.take_set_of_le (Nat.le_refl _)];rfl
   have e3:(o.set i.toNat (tw (o.getD i.toNat eY.dflt))).drop (i.toNat+1)=o.drop (i.toNat+1):=List.drop_set_of_lt (by omega)
   have e4:o.drop i.toNat=o.getD i.toNat eY.dflt :: o.drop (i.toNat+1):=drop_at eY.dflt hlt
   rw[e2,e3,e4]
   simp
  ·rw[if_neg hc] at he
   cases he
theorem ng_ok:∀ b∈loopsOf Try.prog 64,lkey b=6→LoopOk Try.prog b (ng_C ng_I ng_M).g:=by
 refine ng_loop ng_I ng_M (fun g hi=>?_) ng_goes
 obtain ⟨o,n,i⟩:=g
 obtain ⟨h1,h2,h3,h4⟩:=hi _ (List.mem_cons_self ..)
 have h1:n=(o.length:Int):=h1
 have h3:0≤i:=h3
 show ng_side o n i
 unfold ng_side
 simp only[decide_eq_true_eq,decide_eq_false_iff_not]
 clear hi
 repeat' (first | apply And.intro | intro _)
 all_goals (first | trivial | omega)
theorem putK_len (x:Y):∀ l:List Y,(putY x l).length≤l.length+1
 | []=>Nat.le_refl _
 | y :: l=>by
  unfold putY
  simp only[putK]
  split
  ·simp
  ·split
   ·simp
   ·have:=putK_len x l
    simpa using this
theorem totY_len (xs:List Y):(totY xs).length≤xs.length:=by
 have key:∀ (l a:List Y),(l.foldl (fun a x=>putY x a) a).length≤a.length+l.length:=by
  intro l
  induction l with
  | nil=>intro a;exact Nat.le_refl _
  | cons x l ih=>
   intro a
   have:=ih (putY x a)
   have:=putK_len x a
   rw[List.foldl_cons,List.length_cons]
   omega
 have:=key xs []
 rw[List.length_nil,Nat.zero_add] at this
 exact this
theorem totY_bound {xs:List Y} (hw:∀ v∈xs,ywi_F v.n=true) {v:Y} (hv:v∈totY xs):-(1099511627776 * xs.length)≤v.n∧v.n≤1099511627776 * xs.length:=by
 rw[((totY_mem xs v).1 hv).2]
 exact sumK_bound Y.t Y.n (by decide) fun x hx=>(ywi_iff _).1 (hw x hx)
noncomputable def al_S (_:al_GC) (b:al_GB) (_:Int) (v:Y):Ex×al_GB:=(.normal,putY v b)
noncomputable def al_K (c:al_GC) (b:al_GB) (i:Int):Prop:=List.length c≤KS∧(∀ v∈(c:List Y),ywi_F v.n=true)∧b=totY (List.take i.toNat c)
noncomputable abbrev al_I (g:al_G):List Prop:=ixI (fun c:al_GC=>(List.length c:Int)) (fun c=>c) al_K (al_f g)
abbrev al_M (g:al_G):Nat:=ixM (fun c:al_GC=>(List.length c:Int)) (al_f g)
theorem al_P:ixP al_S (fun c:al_GC=>c) al_K:=by
 rintro c b i a ⟨h1,h2,h3⟩ ha _
 refine ⟨h1,h2,?_⟩
 show putY a b=totY (List.take ((i:Int)+1).toNat c)
 have hlt:=(List.getElem?_eq_some_iff.1 ha).1
 have:List.take ((i:Int)+1).toNat c=List.take i c++[a]:=by
  rw[show ((i:Int)+1).toNat=i+1 by omega,List.take_add_one,ha];rfl
 rw[this,h3]
 unfold totY totK
 rw[List.foldl_append]
 simp
noncomputable abbrev al_RR (g:al_G):Ex×al_G:=al_R g.1 g.2.1 g.2.2
theorem al_RF (d:Int×al_GC×al_GB) (_:allP (ixI (fun c:al_GC=>(List.length c:Int)) (fun c=>c) al_K d)):al_RR (al_g d)=((ixF 2 (fun c:al_GC=>(List.length c:Int)) (fun c=>c) eY.dflt al_S d).1,al_g (ixF 2 (fun c:al_GC=>(List.length c:Int)) (fun c=>c) eY.dflt al_S d).2):=by
 obtain ⟨i,xs,a⟩:=d
 show al_R xs a i=_
 unfold al_R ixF al_S
 simp only[eY.lst_els]
 cases decide (i<(xs.length:Int)) <;> rfl
theorem al_ok:∀ b∈loopsOf Try.prog 60,lkey b=11→LoopOk Try.prog b (al_C al_I al_M).g:=by
 refine al_loop al_I al_M (fun g hi=>?_) (ix_conj_goes (fun _=>rfl) (fun _=>rfl) al_RF al_P)
 obtain ⟨xs,a,i⟩:=g
 obtain ⟨h1,h2,h3,h4,h5,h6,h7⟩:=hi _ (List.mem_cons_self ..)
 have h3:0≤i:=h3
 have h4:i≤(xs.length:Int):=h4
 have h5:xs.length≤1000000:=h5
 have h7:a=totY (List.take i.toNat xs):=h7
 have h6:∀ v∈xs,ywi_F v.n=true:=h6
 show al_side xs a i
 unfold al_side
 simp only[eY.lst_els,decide_eq_true_eq,decide_eq_false_iff_not]
 refine ⟨fun hc=>⟨⟨h3,by omega⟩,okY a,⟨?_,?_,fun v hv=>?_⟩,okY xs,okY _⟩,fun _=>⟨okY xs,okY a⟩⟩
 ·rw[h7]
  refine Nat.le_trans (totY_len _) ?_
  rw[List.length_take]
  show min i.toNat xs.length≤1000000
  omega
 ·rw[h7];exact totY_srt _
 ·rw[h7] at hv
  have hb:=totY_bound (fun v hv=>h6 v (List.mem_of_mem_take hv)) hv
  have hlt:i.toNat<xs.length:=by omega
  have hx:=(ywi_iff _).1 (h6 (xs.getD i.toNat eY.dflt) (by rw[List.getD_eq_getElem?_getD,List.getElem?_eq_getElem hlt];exact List.getElem_mem hlt))
  have hl:(List.take i.toNat xs).length≤1000000:=by rw[List.length_take];omega
  rw[wrS (by omega)]
theorem al_run (xs:List Y) (h:xs.length≤KS) (hw:∀ v∈xs,ywi_F v.n=true):loopF al_RR al_M (xs,[],0)=((scan 2 (al_S xs) 0 xs []).1,al_g ((scan 2 (al_S xs) 0 xs []).2.1,xs,(scan 2 (al_S xs) 0 xs []).2.2)):=ix_conj_run (φ:=al_f) (ψ:=al_g) (fun _=>rfl) (fun _=>rfl) al_RF al_P xs [] rfl (Nat.le_trans h (by decide)) ⟨h,hw,by simp[totY,totK]⟩
theorem al_ix (xs:List Y) (h:xs.length≤KS) (hw:∀ v∈xs,ywi_F v.n=true):ixJ (fun c:al_GC=>(List.length c:Int)) (fun c=>c) al_K (0,xs,[]):=ixJ0 rfl (Nat.le_trans h (by decide)) ⟨h,hw,by simp[totY,totK]⟩
noncomputable def ltU18:LTab Try.prog:=(ltU15.cons 64 6 (ng_C ng_I ng_M) ng_ok).cons 60 11 (al_C al_I al_M) al_ok
noncomputable abbrev lamU18:Lam:=ltU18.lam
theorem lamU18_ok:∀ f k L,lamU18 f k=some L→∀ b∈loopsOf Try.prog f,lkey b=k→LoopOk Try.prog b L.g:=ltU18.ok
end Go.Proofs.Ytiipneclghnfhaa

namespace Go.Proofs.Ytiipneclghnfhaa
open Go.RowKit Go.Sx
set_option maxRecDepth 100000
set_option linter.unusedVariables false
noncomputable def tabU18:MTab Try.prog:=(((tabU16.cons 41 (pconP aLYT dI (fun g=>getY g.1 g.2) (fun g=>[g.1.length≤KS])) (conP_ok rgt_ok puI)).cons 43 (pconP aLYT dI (fun g=>belY g.1 g.2) (fun g=>[g.1.length≤KS])) (conP_ok rbl_ok puI)).cons 45 (pconP aLY dI totalY (fun g=>[g.length≤KS])) (conP_ok rtl_ok puI)).cons 39 (pconR aLY (Rv.D rLY) timesY (fun g=>[g.length≤KS])) (conR_ok rtz_ok)
noncomputable def rfy_q1 (xs:List Y):Ex ×
 wi_G:=
 loopF (fun g=>wi_R g.fst g.snd.fst g.snd.snd.fst g.snd.snd.snd) wi_M (eY.lst xs.length (eY.els xs),(0:Int),(),(0:Int))
noncomputable def rfy_q2 (xs:List Y):Ex ×
 al_G:=
 loopF (fun g=>al_R g.fst g.snd.fst g.snd.snd) al_M (eY.lst (rfy_q1 xs).snd.fst.length (eY.els (rfy_q1 xs).snd.fst),[],(0:Int))
noncomputable def rfy_q3 (xs:List Y):Ex ×
 ou_G:=
 loopF (fun g=>ou_R g.fst g.snd.fst g.snd.snd.fst g.snd.snd.snd.fst g.snd.snd.snd.snd) ou_M (eY.lst (rfy_q2 xs).snd.snd.fst.length (eY.els (rfy_q2 xs).snd.snd.fst),[],(0:Int),(),(rfy_q1 xs).snd.snd.snd.snd)
noncomputable def rfy_F (xs:List Y):Rv.T rLYE:=
 bif tmY (eY.lst xs.length (eY.els xs)) != (0:Int) then ([],tmY (eY.lst xs.length (eY.els xs)))
 else bif exB Ex.ret (rfy_q1 xs).fst then ([],(rfy_q1 xs).snd.snd.snd.snd) else bif exB Ex.ret (rfy_q3 xs).fst then ([],(rfy_q3 xs).snd.snd.snd.snd.snd) else (eY.lst (rfy_q3 xs).snd.snd.fst.length (eY.els (rfy_q3 xs).snd.snd.fst),(0:Int))
def rfy_side (xs:List Y):Prop:=
 (∀ (e:Nat),e<xs.length→eY.Ok (eY.els xs e))∧((tmY (eY.lst xs.length (eY.els xs)) != (0:Int))=false→(∀ (e:Nat),e<xs.length→eY.Ok (eY.els xs e))∧Lp.ixJ (fun c=>(↑(List.length c):Int)) (fun c=>c) wi_K (wi_f (eY.lst xs.length (eY.els xs),(0:Int),(),(0:Int)))∧(exB Ex.ret (rfy_q1 xs).fst=false→(∀ (e:Nat),e<(rfy_q1 xs).snd.fst.length→eY.Ok (eY.els (rfy_q1 xs).snd.fst e))∧Lp.ixJ (fun c=>(↑(List.length c):Int)) (fun c=>c) al_K (al_f (eY.lst (rfy_q1 xs).snd.fst.length (eY.els (rfy_q1 xs).snd.fst),[],(0:Int)))∧(∀ (e:Nat),e<(rfy_q2 xs).snd.snd.fst.length→eY.Ok (eY.els (rfy_q2 xs).snd.snd.fst e))∧Lp.ixJ (fun c=>(↑(List.length c):Int)) (fun c=>c) ou_K (ou_f (eY.lst (rfy_q2 xs).snd.snd.fst.length (eY.els (rfy_q2 xs).snd.snd.fst),[],(0:Int),(),(rfy_q1 xs).snd.snd.snd.snd))∧(exB Ex.ret (rfy_q3 xs).fst=false→(rfy_q3 xs).snd.snd.fst.length≤(rfy_q3 xs).snd.snd.fst.length∧∀ (e:Nat),e<(rfy_q3 xs).snd.snd.fst.length→True)))
theorem rfy_okS (pre:DA.T aLY→List Prop) (h:∀ g,DA.bd aLY g→(∀ p∈pre g,p)→rfy_side g):FnPure Try.prog 60 aLY (Rv.D rLYE) (fun g=>rfy_F g) pre:=res_of_side (R:=rLYE) (Γ:=(MTab.gamz tabU18 [] [])) (Λ:=lamU18) (MTab.okz tabU18 [] []) lamU18_ok 100 default (fun g=>rfy_side g) (fun g=>by kernel_rfl) (fun g=>by kernel_rfl) h
noncomputable def yng_q1 (xs:List Y):Ex ×
 ng_G:=
 loopF (fun g=>ng_R g.fst g.snd.fst g.snd.snd) ng_M (eY.lst (eY.lst xs.length (eY.els xs)).length (eY.els (eY.lst xs.length (eY.els xs))),(↑(eY.lst xs.length (eY.els xs)).length:Int),(0:Int))
noncomputable def yng_F (xs:List Y):Rv.T rLYE:=
 bif chkY (eY.lst xs.length (eY.els xs)) != (0:Int) then ([],chkY (eY.lst xs.length (eY.els xs)))
 else (eY.lst (yng_q1 xs).snd.fst.length (eY.els (yng_q1 xs).snd.fst),(0:Int))
def yng_side (xs:List Y):Prop:=
 (∀ (e:Nat),e<xs.length→eY.Ok (eY.els xs e))∧((chkY (eY.lst xs.length (eY.els xs)) != (0:Int))=false→(∀ (e:Nat),e<xs.length→eY.Ok (eY.els xs e))∧(eY.lst xs.length (eY.els xs)).length≤KS∧(eY.lst xs.length (eY.els xs)).length≤(eY.lst xs.length (eY.els xs)).length∧(∀ (e:Nat),e<(eY.lst xs.length (eY.els xs)).length→True)∧((↑(eY.lst xs.length (eY.els xs)).length:Int)=(↑(eY.lst (eY.lst xs.length (eY.els xs)).length (eY.els (eY.lst xs.length (eY.els xs)))).length:Int)∧(eY.lst (eY.lst xs.length (eY.els xs)).length (eY.els (eY.lst xs.length (eY.els xs)))).length≤KS∧(0:Int)≤(0:Int)∧(0:Int)≤(↑(eY.lst (eY.lst xs.length (eY.els xs)).length (eY.els (eY.lst xs.length (eY.els xs)))).length:Int))∧(yng_q1 xs).snd.fst.length≤(yng_q1 xs).snd.fst.length∧∀ (e:Nat),e<(yng_q1 xs).snd.fst.length→True)
theorem yng_okS (pre:DA.T aLY→List Prop) (h:∀ g,DA.bd aLY g→(∀ p∈pre g,p)→yng_side g):FnPure Try.prog 64 aLY (Rv.D rLYE) (fun g=>yng_F g) pre:=res_of_side (R:=rLYE) (Γ:=(MTab.gamz tabU18 [] [])) (Λ:=lamU18) (MTab.okz tabU18 [] []) lamU18_ok 100 default (fun g=>yng_side g) (fun g=>by kernel_rfl) (fun g=>by kernel_rfl) h
noncomputable def ytw_F (xs:List Y) (ys:List Y):Dv.T dI:=
 bif chkY (eY.lst xs.length (eY.els xs)) != (0:Int) then chkY (eY.lst xs.length (eY.els xs))
 else chkY (eY.lst ys.length (eY.els ys))
def ytw_side (xs:List Y) (ys:List Y):Prop:=
 (∀ (e:Nat),e<xs.length→eY.Ok (eY.els xs e))∧((chkY (eY.lst xs.length (eY.els xs)) != (0:Int))=false→∀ (e:Nat),e<ys.length→eY.Ok (eY.els ys e))
theorem ytw_okS (pre:DA.T aLLY→List Prop) (h:∀ g,DA.bd aLLY g→(∀ p∈pre g,p)→ytw_side g.1 g.2):FnPure Try.prog 107 aLLY dI (fun g=>ytw_F g.1 g.2) pre:=pure_of_sideS (Γ:=(MTab.gamz tabU18 [] [])) (Λ:=lamU18) (MTab.okz tabU18 [] []) lamU18_ok 100 default (fun g=>ytw_side g.1 g.2) (fun g=>by kernel_rfl) (fun g=>by kernel_rfl) h
noncomputable def rbo_F (xs:List Y) (ys:List Y):Dv.T dI:=
 bif chkY (eY.lst xs.length (eY.els xs)) != (0:Int) then chkY (eY.lst xs.length (eY.els xs))
 else chkY (eY.lst ys.length (eY.els ys))
def rbo_side (xs:List Y) (ys:List Y):Prop:=
 (∀ (e:Nat),e<xs.length→eY.Ok (eY.els xs e))∧((chkY (eY.lst xs.length (eY.els xs)) != (0:Int))=false→∀ (e:Nat),e<ys.length→eY.Ok (eY.els ys e))
theorem rbo_okS (pre:DA.T aLLY→List Prop) (h:∀ g,DA.bd aLLY g→(∀ p∈pre g,p)→rbo_side g.1 g.2):FnPure Try.prog 112 aLLY dI (fun g=>rbo_F g.1 g.2) pre:=pure_of_sideS (Γ:=(MTab.gamz tabU18 [] [])) (Λ:=lamU18) (MTab.okz tabU18 [] []) lamU18_ok 100 default (fun g=>rbo_side g.1 g.2) (fun g=>by kernel_rfl) (fun g=>by kernel_rfl) h
end Go.Proofs.Ytiipneclghnfhaa

namespace Go.Proofs.Ytiipneclghnfhaa
open Go.RowKit Go.Sx Go.Lp
theorem wi_q (xs:List Y) (h:xs.length≤KS):(xs.any (fun v=>!ywi_F v.n)=true∧(rfy_q1 xs).1=.ret∧(rfy_q1 xs).2.2.2.2=40∧(rfy_q1 xs).2.1=xs)∨(xs.any (fun v=>!ywi_F v.n)=false∧(rfy_q1 xs).1=.exit 0∧(rfy_q1 xs).2.1=xs):=by
 have hm:xs.length≤maxLen:=Nat.le_trans h (by decide)
 have hr:=wi_run xs ((),(0:Int)) rfl hm trivial
 have h1:rfy_q1 xs=loopF wi_RR wi_M (wi_g (0,xs,((),(0:Int)))):=by
  unfold rfy_q1
  rw[eY.lst_els]
  rfl
 rw[hr] at h1
 rcases search (x:=0) (st:=wi_S xs) (p:=fun v:Y=>!ywi_F v.n) (r:=fun _ _ _=>((),(40:Int))) (fun _ _ _=>rfl) xs ((),(0:Int)) with ⟨ha,j,hj,a,haa,hp,h2⟩ | ⟨ha,h2⟩
 ·have h2:scan 0 (wi_S xs) 0 xs ((),(0:Int))=_:=h2
  exact .inl ⟨ha,by rw[h1];show (scan 0 (wi_S xs) 0 xs ((),(0:Int))).1=_;rw[h2],by rw[h1];show (scan 0 (wi_S xs) 0 xs ((),(0:Int))).2.2.2=_;rw[h2],by rw[h1];rfl⟩
 ·have h2:scan 0 (wi_S xs) 0 xs ((),(0:Int))=_:=h2
  exact .inr ⟨ha,by rw[h1];show (scan 0 (wi_S xs) 0 xs ((),(0:Int))).1=_;rw[h2],by rw[h1];rfl⟩
theorem al_q (xs:List Y) (h:xs.length≤KS) (hw:∀ v∈xs,ywi_F v.n=true) (h1:(rfy_q1 xs).2.1=xs):(rfy_q2 xs).2.2.1=totY xs:=by
 unfold rfy_q2
 rw[h1,eY.lst_els]
 have hr:=al_run xs h hw
 have e:loopF (fun g:al_G=>al_R g.1 g.2.1 g.2.2) al_M (xs,[],0)=_:=hr
 rw[e]
 show (scan 2 (al_S xs) 0 xs []).2.2=_
 rw[scan_fold (st:=al_S xs) (f:=fun (b:List Y) (v:Y)=>putY v b) (fun _ _ _=>rfl)]
 rfl
theorem fold_fil (p:Y→Bool) (r:Int):∀ (l:List Y) (u:Unit) (o:List Y),l.foldl (fun (b:Unit×List Y×Int) v=>(b.1,(bif p v then b.2.1++[v] else b.2.1),b.2.2)) (u,o,r)=(u,o++l.filter p,r)
 | [],u,o=>by simp
 | x :: l,u,o=>by
  rw[List.foldl_cons,fold_fil p r l]
  cases hp:p x <;> simp[hp]
theorem rfy_eq (xs:List Y) (h:xs.length≤KS):rfy_F xs=ofY xs∧rfy_side xs:=by
 have hm:xs.length≤maxLen:=Nat.le_trans h (by decide)
 have hi1:ixJ (fun c=>(↑(List.length c):Int)) (fun c=>c) wi_K (wi_f (eY.lst xs.length (eY.els xs),(0:Int),(),(0:Int))):=by
  rw[eY.lst_els];exact ixJ0 rfl hm trivial
 unfold rfy_F rfy_side ofY
 have ht:tmY (eY.lst xs.length (eY.els xs))=bif xs.any (fun v=>tcheck_F v.t != 0) then 10 else 0:=by rw[eY.lst_els];rfl
 rw[ht]
 cases xs.any (fun v=>tcheck_F v.t != 0) with
 | true=>exact ⟨rfl,okY xs,fun hc=>by cases hc⟩
 | false=>
  rcases wi_q xs h with ⟨hb,f1,f2,f3⟩ | ⟨hb,f1,f3⟩
  ·rw[f1,f2,hb]
   exact ⟨rfl,okY xs,fun _=>⟨okY xs,hi1,fun hc=>by cases hc⟩⟩
  ·have hx:∀ x∈xs,ywi_F x.n=true:=fun x hxm=>by
    rw[List.any_eq_false] at hb
    simpa using hb x hxm
   have g2:=al_q xs h hx f3
   have hlen:(totY xs).length≤KS:=Nat.le_trans (totY_len xs) h
   have h3:rfy_q3 xs=loopF ou_RR ou_M (ou_g (0,totY xs,((),[],(rfy_q1 xs).2.2.2.2))):=by
    unfold rfy_q3
    rw[g2,eY.lst_els]
    rfl
   rw[ou_run (totY xs) ((),[],(rfy_q1 xs).2.2.2.2) rfl hlen rfl] at h3
   rw[f1,f3,g2,hb]
   simp only[eY.lst_els]
   have side:rfy_side xs→rfy_side xs:=id
   rcases scan_bad (x:=4) (st:=ou_S (totY xs)) (e:=.ret) (p:=fun v:Y=>!ywi_F v.n) (r:=fun _ (b:ou_GB)=>((),b.2.1,(40:Int))) (f:=fun (b:ou_GB) (v:Y)=>(b.1,(bif v.n != (0:Int) then b.2.1++[v] else b.2.1),b.2.2)) (by simp) (fun _ _ _=>rfl) (totY xs) 0 ((),[],(rfy_q1 xs).2.2.2.2) with ⟨ha,h4,a,b',_,_,h5⟩ | ⟨ha,h4⟩
   ·have e1:(rfy_q3 xs).1=.ret:=by rw[h3];exact h4
    have e2:(rfy_q3 xs).2.2.2.2.2=40:=by rw[h3];show (scan 4 (ou_S (totY xs)) 0 (totY xs) ((),[],(rfy_q1 xs).2.2.2.2)).2.2.2.2=_;rw[h5]
    rw[e1,e2,ha]
    exact ⟨rfl,okY xs,fun _=>⟨okY xs,by rw[eY.lst_els] at hi1;exact hi1,fun _=>⟨okY xs,al_ix xs h hx,okY _,ou_ix (totY xs) ((),[],_) rfl hlen rfl,fun hc=>by cases hc⟩⟩⟩
   ·have e1:(rfy_q3 xs).1=.exit 4:=by rw[h3];show (scan 4 (ou_S (totY xs)) 0 (totY xs) ((),[],(rfy_q1 xs).2.2.2.2)).1=_;rw[h4]
    have e2:(rfy_q3 xs).2.2.1=(totY xs).filter fun v=>v.n != 0:=by
     rw[h3]
     show (scan 4 (ou_S (totY xs)) 0 (totY xs) ((),[],(rfy_q1 xs).2.2.2.2)).2.2.2.1=_
     rw[h4,fold_fil]
     simp
    rw[e1,e2,ha]
    exact ⟨rfl,okY xs,fun _=>⟨okY xs,by rw[eY.lst_els] at hi1;exact hi1,fun _=>⟨okY xs,al_ix xs h hx,okY _,ou_ix (totY xs) ((),[],_) rfl hlen rfl,fun _=>⟨Nat.le_refl _,fun _ _=>trivial⟩⟩⟩⟩
theorem rfy_ok:FnPure Try.prog 60 aLY (Rv.D rLYE) ofY (fun g=>[g.length≤KS]):=
 pure_congr (rfy_okS _ fun g _ hp=>(rfy_eq g (hp _ (List.mem_cons_self ..))).2) fun g _ hp=>(rfy_eq g (hp _ (List.mem_cons_self ..))).1
theorem yng_eq (xs:List Y) (h:xs.length≤KS):yng_F xs=negY xs∧yng_side xs:=by
 unfold yng_F yng_side yng_q1 negY
 simp only[eY.lst_els]
 have hI:allP (ng_I (xs,(xs.length:Int),0)):=fun p hp=>by
  rw[List.mem_singleton.1 hp]
  exact ⟨rfl,h,Int.le_refl _,by show (0:Int)≤(xs.length:Int);omega⟩
 have h1:loopF (fun g:ng_G=>ng_R g.1 g.2.1 g.2.2) ng_M (xs,(xs.length:Int),0)=_:=ng_all (xs,(xs.length:Int),0) hI
 rw[h1]
 refine ⟨?_,okY xs,fun _=>⟨okY xs,h,Nat.le_refl _,fun _ _=>trivial,⟨trivial,h,Int.le_refl _,by omega⟩,Nat.le_refl _,fun _ _=>trivial⟩⟩
 cases hc:(chkY xs != (0:Int)) with
 | true=>rfl
 | false=>
  obtain ⟨_,hw,_⟩:=chk0 h (bne0 hc)
  simp only[cond_false,Int.toNat_zero,List.take_zero,List.drop_zero,List.nil_append]
  have:xs.map tw=xs.map turn:=List.map_congr_left fun v hv=>by
   have:=(ywi_iff _).1 (hw v hv).2
   unfold tw turn
   rw[wrS (by omega),Int.zero_sub]
  rw[this]
theorem yng_ok:FnPure Try.prog 64 aLY (Rv.D rLYE) negY (fun g=>[g.length≤KS]):=
 pure_congr (yng_okS _ fun g _ hp=>(yng_eq g (hp _ (List.mem_cons_self ..))).2) fun g _ hp=>(yng_eq g (hp _ (List.mem_cons_self ..))).1
noncomputable def bothY (g:List Y×List Y):Int:=bif chkY g.1 != (0:Int) then chkY g.1 else chkY g.2
theorem ytw_ok:FnPure Try.prog 107 aLLY dI bothY (fun _=>[]):=
 pure_congr (ytw_okS (fun _=>[]) fun g _ _=>⟨okY _,fun _=>okY _⟩) fun g _ _=>by unfold ytw_F bothY;simp only[eY.lst_els]
theorem rbo_ok:FnPure Try.prog 112 aLLY dI bothY (fun _=>[]):=
 pure_congr (rbo_okS (fun _=>[]) fun g _ _=>⟨okY _,fun _=>okY _⟩) fun g _ _=>by unfold rbo_F bothY;simp only[eY.lst_els]
noncomputable def tabU20:MTab Try.prog:=(((tabU18.cons 107 (pconP aLLY dI bothY (fun _=>[])) (conP_ok ytw_ok puI)).cons 112 (pconP aLLY dI bothY (fun _=>[])) (conP_ok rbo_ok puI)).cons 64 (pconR aLY (Rv.D rLYE) negY (fun g=>[g.length≤KS])) (conR_ok yng_ok)).consM 60 (lconR eY DA.none (Rv.D rLYE) (fun g=>ofY g.1) (fun g=>[g.1.length≤KS])) (conL_ok (pure_none rfy_ok))
end Go.Proofs.Ytiipneclghnfhaa

namespace Go.Proofs.Ytiipneclghnfhaa
open Go.RowKit Go.Sx
set_option maxRecDepth 100000
set_option linter.unusedVariables false
noncomputable def ysm_F (xs:List Y) (ys:List Y):Dv.T dLYE:=
 bif bothY (eY.lst xs.length (eY.els xs),eY.lst ys.length (eY.els ys)) != (0:Int) then ([],bothY (eY.lst xs.length (eY.els xs),eY.lst ys.length (eY.els ys)))
 else bif decide (IntKind.i64.wrap ((0:Int)+(↑xs.length:Int))<(0:Int)) then default else bif decide (IntKind.i64.wrap (IntKind.i64.wrap ((0:Int)+(↑xs.length:Int))+(↑ys.length:Int))<(0:Int)) then default else bif decide (IntKind.i64.wrap (IntKind.i64.wrap ((0:Int)+(↑xs.length:Int))+(↑ys.length:Int))<(0:Int)) then default else bif decide (IntKind.i64.wrap (IntKind.i64.wrap (IntKind.i64.wrap ((0:Int)+(↑xs.length:Int))+(↑ys.length:Int)) - (0:Int)) > (0:Int)) then (eY.lst (ofY (eY.lst (min (min ((0:Nat)+xs.length+ys.length) ((0:Nat)+xs.length)) (0:Nat)) (zeroEl (Value.agg #[Value.int IntKind.i64 (0:Int),Value.int IntKind.i64 (0:Int),Value.int IntKind.i64 (0:Int),Value.int IntKind.i64 (0:Int),Value.int IntKind.i64 (0:Int),Value.int IntKind.i64 (0:Int),Value.int IntKind.i64 (0:Int)]))++eY.lst (min ((0:Nat)+xs.length+ys.length) ((0:Nat)+xs.length) - (0:Nat)) (eY.els xs)++eY.lst ((0:Nat)+xs.length+ys.length - ((0:Nat)+xs.length)) (eY.els ys))).fst.length (eY.els (ofY (eY.lst (min (min ((0:Nat)+xs.length+ys.length) ((0:Nat)+xs.length)) (0:Nat)) (zeroEl (Value.agg #[Value.int IntKind.i64 (0:Int),Value.int IntKind.i64 (0:Int),Value.int IntKind.i64 (0:Int),Value.int IntKind.i64 (0:Int),Value.int IntKind.i64 (0:Int),Value.int IntKind.i64 (0:Int),Value.int IntKind.i64 (0:Int)]))++eY.lst (min ((0:Nat)+xs.length+ys.length) ((0:Nat)+xs.length) - (0:Nat)) (eY.els xs)++eY.lst ((0:Nat)+xs.length+ys.length - ((0:Nat)+xs.length)) (eY.els ys))).fst),(ofY (eY.lst (min (min ((0:Nat)+xs.length+ys.length) ((0:Nat)+xs.length)) (0:Nat)) (zeroEl (Value.agg #[Value.int IntKind.i64 (0:Int),Value.int IntKind.i64 (0:Int),Value.int IntKind.i64 (0:Int),Value.int IntKind.i64 (0:Int),Value.int IntKind.i64 (0:Int),Value.int IntKind.i64 (0:Int),Value.int IntKind.i64 (0:Int)]))++eY.lst (min ((0:Nat)+xs.length+ys.length) ((0:Nat)+xs.length) - (0:Nat)) (eY.els xs)++eY.lst ((0:Nat)+xs.length+ys.length - ((0:Nat)+xs.length)) (eY.els ys))).snd) else (eY.lst (ofY (List.map (fun x=>eY.get []) (List.range (min (min ((0:Nat)+xs.length+ys.length) ((0:Nat)+xs.length)) (0:Nat)))++eY.lst (min ((0:Nat)+xs.length+ys.length) ((0:Nat)+xs.length) - (0:Nat)) (eY.els xs)++eY.lst ((0:Nat)+xs.length+ys.length - ((0:Nat)+xs.length)) (eY.els ys))).fst.length (eY.els (ofY (List.map (fun x=>eY.get []) (List.range (min (min ((0:Nat)+xs.length+ys.length) ((0:Nat)+xs.length)) (0:Nat)))++eY.lst (min ((0:Nat)+xs.length+ys.length) ((0:Nat)+xs.length) - (0:Nat)) (eY.els xs)++eY.lst ((0:Nat)+xs.length+ys.length - ((0:Nat)+xs.length)) (eY.els ys))).fst),(ofY (List.map (fun x=>eY.get []) (List.range (min (min ((0:Nat)+xs.length+ys.length) ((0:Nat)+xs.length)) (0:Nat)))++eY.lst (min ((0:Nat)+xs.length+ys.length) ((0:Nat)+xs.length) - (0:Nat)) (eY.els xs)++eY.lst ((0:Nat)+xs.length+ys.length - ((0:Nat)+xs.length)) (eY.els ys))).snd)
def ysm_side (xs:List Y) (ys:List Y):Prop:=
 (∀ (e:Nat),e<xs.length→eY.Ok (eY.els xs e))∧(∀ (e:Nat),e<ys.length→eY.Ok (eY.els ys e))∧((bothY (eY.lst xs.length (eY.els xs),eY.lst ys.length (eY.els ys)) != (0:Int))=false→(decide (IntKind.i64.wrap ((0:Int)+(↑xs.length:Int))<(0:Int))=true→False)∧(decide (IntKind.i64.wrap ((0:Int)+(↑xs.length:Int))<(0:Int))=false→(decide (IntKind.i64.wrap (IntKind.i64.wrap ((0:Int)+(↑xs.length:Int))+(↑ys.length:Int))<(0:Int))=true→False)∧(decide (IntKind.i64.wrap (IntKind.i64.wrap ((0:Int)+(↑xs.length:Int))+(↑ys.length:Int))<(0:Int))=false→(decide (IntKind.i64.wrap (IntKind.i64.wrap ((0:Int)+(↑xs.length:Int))+(↑ys.length:Int))<(0:Int))=true→False)∧(decide (IntKind.i64.wrap (IntKind.i64.wrap ((0:Int)+(↑xs.length:Int))+(↑ys.length:Int))<(0:Int))=false→(decide (IntKind.i64.wrap (IntKind.i64.wrap (IntKind.i64.wrap ((0:Int)+(↑xs.length:Int))+(↑ys.length:Int)) - (0:Int)) > (0:Int))=true→((0:Int)≤(0:Int)∧(0:Int)≤(0:Int))∧((0:Int)<IntKind.i64.wrap (IntKind.i64.wrap (IntKind.i64.wrap ((0:Int)+(↑xs.length:Int))+(↑ys.length:Int)) - (0:Int))∧IntKind.i64.wrap (IntKind.i64.wrap (IntKind.i64.wrap ((0:Int)+(↑xs.length:Int))+(↑ys.length:Int)) - (0:Int))≤(9223372036854775807:Int)∧(IntKind.i64.wrap (IntKind.i64.wrap (IntKind.i64.wrap ((0:Int)+(↑xs.length:Int))+(↑ys.length:Int)) - (0:Int))).toNat * Try.prog.types[(45:Nat)].bytes≤(140737488355328:Nat))∧((0:Int)≤(0:Int)∧(0:Int)≤(↑(IntKind.i64.wrap (IntKind.i64.wrap (IntKind.i64.wrap ((0:Int)+(↑xs.length:Int))+(↑ys.length:Int)) - (0:Int))).toNat:Int))∧((0:Nat)≤(IntKind.i64.wrap (IntKind.i64.wrap (IntKind.i64.wrap ((0:Int)+(↑xs.length:Int))+(↑ys.length:Int)) - (0:Int))).toNat∧(∀ (e:Nat),e<xs.length→(eY.els xs e).all SV.one=true)∧(0:Nat)+xs.length≤maxLen∧((0:Nat)+xs.length) * Try.prog.types[(45:Nat)].bytes≤(140737488355328:Nat))∧((0:Nat)+xs.length≤(0:Nat)+xs.length∧(∀ (e:Nat),e<ys.length→(eY.els ys e).all SV.one=true)∧(0:Nat)+xs.length+ys.length≤maxLen∧((0:Nat)+xs.length+ys.length) * Try.prog.types[(45:Nat)].bytes≤(140737488355328:Nat))∧(0:Nat)+xs.length+ys.length≤(0:Nat)+xs.length+ys.length∧(∀ (e:Nat),e<min (min ((0:Nat)+xs.length+ys.length) ((0:Nat)+xs.length)) (0:Nat)→True)∧(∀ (e:Nat),e<min ((0:Nat)+xs.length+ys.length) ((0:Nat)+xs.length) - (0:Nat)→True)∧(∀ (e:Nat),e<(0:Nat)+xs.length+ys.length - ((0:Nat)+xs.length)→True)∧(eY.lst (min (min ((0:Nat)+xs.length+ys.length) ((0:Nat)+xs.length)) (0:Nat)) (zeroEl (Value.agg #[Value.int IntKind.i64 (0:Int),Value.int IntKind.i64 (0:Int),Value.int IntKind.i64 (0:Int),Value.int IntKind.i64 (0:Int),Value.int IntKind.i64 (0:Int),Value.int IntKind.i64 (0:Int),Value.int IntKind.i64 (0:Int)]))++eY.lst (min ((0:Nat)+xs.length+ys.length) ((0:Nat)+xs.length) - (0:Nat)) (eY.els xs)++eY.lst ((0:Nat)+xs.length+ys.length - ((0:Nat)+xs.length)) (eY.els ys)).length≤KS∧∀ (e:Nat),e<(ofY (eY.lst (min (min ((0:Nat)+xs.length+ys.length) ((0:Nat)+xs.length)) (0:Nat)) (zeroEl (Value.agg #[Value.int IntKind.i64 (0:Int),Value.int IntKind.i64 (0:Int),Value.int IntKind.i64 (0:Int),Value.int IntKind.i64 (0:Int),Value.int IntKind.i64 (0:Int),Value.int IntKind.i64 (0:Int),Value.int IntKind.i64 (0:Int)]))++eY.lst (min ((0:Nat)+xs.length+ys.length) ((0:Nat)+xs.length) - (0:Nat)) (eY.els xs)++eY.lst ((0:Nat)+xs.length+ys.length - ((0:Nat)+xs.length)) (eY.els ys))).fst.length→eY.Ok (eY.els (ofY (eY.lst (min (min ((0:Nat)+xs.length+ys.length) ((0:Nat)+xs.length)) (0:Nat)) (zeroEl (Value.agg #[Value.int IntKind.i64 (0:Int),Value.int IntKind.i64 (0:Int),Value.int IntKind.i64 (0:Int),Value.int IntKind.i64 (0:Int),Value.int IntKind.i64 (0:Int),Value.int IntKind.i64 (0:Int),Value.int IntKind.i64 (0:Int)]))++eY.lst (min ((0:Nat)+xs.length+ys.length) ((0:Nat)+xs.length) - (0:Nat)) (eY.els xs)++eY.lst ((0:Nat)+xs.length+ys.length - ((0:Nat)+xs.length)) (eY.els ys))).fst e))∧(decide (IntKind.i64.wrap (IntKind.i64.wrap (IntKind.i64.wrap ((0:Int)+(↑xs.length:Int))+(↑ys.length:Int)) - (0:Int)) > (0:Int))=false→(True∧(∀ (e:Nat),e<xs.length→(eY.els xs e).all SV.one=true)∧(0:Nat)+xs.length≤maxLen∧((0:Nat)+xs.length) * Try.prog.types[(45:Nat)].bytes≤(140737488355328:Nat))∧((0:Nat)+xs.length≤(0:Nat)+xs.length∧(∀ (e:Nat),e<ys.length→(eY.els ys e).all SV.one=true)∧(0:Nat)+xs.length+ys.length≤maxLen∧((0:Nat)+xs.length+ys.length) * Try.prog.types[(45:Nat)].bytes≤(140737488355328:Nat))∧(0:Nat)+xs.length+ys.length≤(0:Nat)+xs.length+ys.length∧(∀ (e:Nat),e<min (min ((0:Nat)+xs.length+ys.length) ((0:Nat)+xs.length)) (0:Nat)→eY.OkP [])∧(∀ (e:Nat),e<min ((0:Nat)+xs.length+ys.length) ((0:Nat)+xs.length) - (0:Nat)→True)∧(∀ (e:Nat),e<(0:Nat)+xs.length+ys.length - ((0:Nat)+xs.length)→True)∧(List.map (fun x=>eY.get []) (List.range (min (min ((0:Nat)+xs.length+ys.length) ((0:Nat)+xs.length)) (0:Nat)))++eY.lst (min ((0:Nat)+xs.length+ys.length) ((0:Nat)+xs.length) - (0:Nat)) (eY.els xs)++eY.lst ((0:Nat)+xs.length+ys.length - ((0:Nat)+xs.length)) (eY.els ys)).length≤KS∧∀ (e:Nat),e<(ofY (List.map (fun x=>eY.get []) (List.range (min (min ((0:Nat)+xs.length+ys.length) ((0:Nat)+xs.length)) (0:Nat)))++eY.lst (min ((0:Nat)+xs.length+ys.length) ((0:Nat)+xs.length) - (0:Nat)) (eY.els xs)++eY.lst ((0:Nat)+xs.length+ys.length - ((0:Nat)+xs.length)) (eY.els ys))).fst.length→eY.Ok (eY.els (ofY (List.map (fun x=>eY.get []) (List.range (min (min ((0:Nat)+xs.length+ys.length) ((0:Nat)+xs.length)) (0:Nat)))++eY.lst (min ((0:Nat)+xs.length+ys.length) ((0:Nat)+xs.length) - (0:Nat)) (eY.els xs)++eY.lst ((0:Nat)+xs.length+ys.length - ((0:Nat)+xs.length)) (eY.els ys))).fst e))))))
theorem ysm_okS (pre:DA.T aLLY→List Prop) (h:∀ g,DA.bd aLLY g→(∀ p∈pre g,p)→ysm_side g.1 g.2):FnPure Try.prog 59 aLLY dLYE (fun g=>ysm_F g.1 g.2) pre:=pure_of_sideS (Γ:=(MTab.gamz tabU20 [] [(108,3,3),(108,11,3)])) (Λ:=noΛ) (MTab.okz tabU20 [] [(108,3,3),(108,11,3)]) noΛ_ok 100 default (fun g=>ysm_side g.1 g.2) (fun g=>by kernel_rfl) (fun g=>by kernel_rfl) h
noncomputable def rsm_F (xs:List Y) (ys:List Y):Dv.T dLYE:=
 bif bothY (eY.lst xs.length (eY.els xs),eY.lst ys.length (eY.els ys)) != (0:Int) then ([],bothY (eY.lst xs.length (eY.els xs),eY.lst ys.length (eY.els ys)))
 else (eY.lst (ofY (List.map (fun x=>eY.get []) (List.range (min (min ((0:Nat)+xs.length+ys.length) ((0:Nat)+xs.length)) (0:Nat)))++eY.lst (min ((0:Nat)+xs.length+ys.length) ((0:Nat)+xs.length) - (0:Nat)) (eY.els xs)++eY.lst ((0:Nat)+xs.length+ys.length - ((0:Nat)+xs.length)) (eY.els ys))).fst.length (eY.els (ofY (List.map (fun x=>eY.get []) (List.range (min (min ((0:Nat)+xs.length+ys.length) ((0:Nat)+xs.length)) (0:Nat)))++eY.lst (min ((0:Nat)+xs.length+ys.length) ((0:Nat)+xs.length) - (0:Nat)) (eY.els xs)++eY.lst ((0:Nat)+xs.length+ys.length - ((0:Nat)+xs.length)) (eY.els ys))).fst),(ofY (List.map (fun x=>eY.get []) (List.range (min (min ((0:Nat)+xs.length+ys.length) ((0:Nat)+xs.length)) (0:Nat)))++eY.lst (min ((0:Nat)+xs.length+ys.length) ((0:Nat)+xs.length) - (0:Nat)) (eY.els xs)++eY.lst ((0:Nat)+xs.length+ys.length - ((0:Nat)+xs.length)) (eY.els ys))).snd)
def rsm_side (xs:List Y) (ys:List Y):Prop:=
 (∀ (e:Nat),e<xs.length→eY.Ok (eY.els xs e))∧(∀ (e:Nat),e<ys.length→eY.Ok (eY.els ys e))∧((bothY (eY.lst xs.length (eY.els xs),eY.lst ys.length (eY.els ys)) != (0:Int))=false→(True∧(∀ (e:Nat),e<xs.length→(eY.els xs e).all SV.one=true)∧(0:Nat)+xs.length≤maxLen∧((0:Nat)+xs.length) * Try.prog.types[(45:Nat)].bytes≤(140737488355328:Nat))∧((0:Nat)+xs.length≤(0:Nat)+xs.length∧(∀ (e:Nat),e<ys.length→(eY.els ys e).all SV.one=true)∧(0:Nat)+xs.length+ys.length≤maxLen∧((0:Nat)+xs.length+ys.length) * Try.prog.types[(45:Nat)].bytes≤(140737488355328:Nat))∧(0:Nat)+xs.length+ys.length≤(0:Nat)+xs.length+ys.length∧(∀ (e:Nat),e<min (min ((0:Nat)+xs.length+ys.length) ((0:Nat)+xs.length)) (0:Nat)→eY.OkP [])∧(∀ (e:Nat),e<min ((0:Nat)+xs.length+ys.length) ((0:Nat)+xs.length) - (0:Nat)→True)∧(∀ (e:Nat),e<(0:Nat)+xs.length+ys.length - ((0:Nat)+xs.length)→True)∧(List.map (fun x=>eY.get []) (List.range (min (min ((0:Nat)+xs.length+ys.length) ((0:Nat)+xs.length)) (0:Nat)))++eY.lst (min ((0:Nat)+xs.length+ys.length) ((0:Nat)+xs.length) - (0:Nat)) (eY.els xs)++eY.lst ((0:Nat)+xs.length+ys.length - ((0:Nat)+xs.length)) (eY.els ys)).length≤KS∧∀ (e:Nat),e<(ofY (List.map (fun x=>eY.get []) (List.range (min (min ((0:Nat)+xs.length+ys.length) ((0:Nat)+xs.length)) (0:Nat)))++eY.lst (min ((0:Nat)+xs.length+ys.length) ((0:Nat)+xs.length) - (0:Nat)) (eY.els xs)++eY.lst ((0:Nat)+xs.length+ys.length - ((0:Nat)+xs.length)) (eY.els ys))).fst.length→eY.Ok (eY.els (ofY (List.map (fun x=>eY.get []) (List.range (min (min ((0:Nat)+xs.length+ys.length) ((0:Nat)+xs.length)) (0:Nat)))++eY.lst (min ((0:Nat)+xs.length+ys.length) ((0:Nat)+xs.length) - (0:Nat)) (eY.els xs)++eY.lst ((0:Nat)+xs.length+ys.length - ((0:Nat)+xs.length)) (eY.els ys))).fst e))
theorem rsm_okS (pre:DA.T aLLY→List Prop) (h:∀ g,DA.bd aLLY g→(∀ p∈pre g,p)→rsm_side g.1 g.2):FnPure Try.prog 61 aLLY dLYE (fun g=>rsm_F g.1 g.2) pre:=pure_of_sideS (Γ:=(MTab.gamz tabU20 [] [(108,3,3),(108,11,3)])) (Λ:=noΛ) (MTab.okz tabU20 [] [(108,3,3),(108,11,3)]) noΛ_ok 100 default (fun g=>rsm_side g.1 g.2) (fun g=>by kernel_rfl) (fun g=>by kernel_rfl) h
end Go.Proofs.Ytiipneclghnfhaa

namespace Go.Proofs.Ytiipneclghnfhaa
open Go.RowKit Go.Sx Go.Lp
theorem ccY (z:Nat→List SV) (xs ys:List Y):eY.lst (min (min (0+xs.length+ys.length) (0+xs.length)) 0) z++eY.lst (min (0+xs.length+ys.length) (0+xs.length) - 0) (eY.els xs)++eY.lst (0+xs.length+ys.length - (0+xs.length)) (eY.els ys)=xs++ys:=by
 have h1:min (0+xs.length+ys.length) (0+xs.length)=xs.length:=by omega
 have h2:min xs.length 0=0:=by omega
 have h3:0+xs.length+ys.length - (0+xs.length)=ys.length:=by omega
 rw[h1,h2,h3,Nat.sub_zero,eY.lst_els,eY.lst_els]
 rfl
theorem j2Y (xs ys:List Y):List.map (fun _=>eY.get []) (List.range (min (min (0+xs.length+ys.length) (0+xs.length)) 0))++eY.lst (min (0+xs.length+ys.length) (0+xs.length) - 0) (eY.els xs)++eY.lst (0+xs.length+ys.length - (0+xs.length)) (eY.els ys)=xs++ys:=by
 have h1:min (0+xs.length+ys.length) (0+xs.length)=xs.length:=by omega
 have h2:min xs.length 0=0:=by omega
 have h3:0+xs.length+ys.length - (0+xs.length)=ys.length:=by omega
 rw[h1,h2,h3,Nat.sub_zero,eY.lst_els,eY.lst_els]
 rfl
noncomputable def sumF (g:List Y×List Y):List Y×Int:=bif bothY g != (0:Int) then ([],bothY g) else ofY (g.1++g.2)
def preS (g:List Y×List Y):List Prop:=[g.1.length+g.2.length≤KS]
theorem ysm_eq (xs ys:List Y) (h:xs.length+ys.length≤KS):ysm_F xs ys=sumF (xs,ys)∧ysm_side xs ys:=by
 have h:xs.length+ys.length≤1000000:=h
 unfold ysm_F ysm_side sumF
 simp only[eY.lst_els]
 cases hb:(bothY (xs,ys) != 0) with
 | true=>exact ⟨rfl,okY xs,okY ys,fun h=>by cases h⟩
 | false=>
  have e1:IntKind.i64.wrap ((xs.length:Int)+(ys.length:Int))=(xs.length:Int)+(ys.length:Int):=wrS (by omega)
  have e2:IntKind.i64.wrap ((0:Int)+(xs.length:Int))=(xs.length:Int):=by rw[Int.zero_add];exact wrS (by omega)
  have e3:IntKind.i64.wrap ((xs.length:Int)+(ys.length:Int) - 0)=(xs.length:Int)+(ys.length:Int):=by rw[Int.sub_zero];exact wrS (by omega)
  have d1:decide ((xs.length:Int)<0)=false:=decide_eq_false (by omega)
  have d2:decide ((xs.length:Int)+(ys.length:Int)<0)=false:=decide_eq_false (by omega)
  have ha:=okY xs
  have hbb:=okY ys
  have hd:=okY (ofY (xs++ys)).1
  have hk:(xs++ys).length≤KS:=by unfold KS;simp;omega
  have ho:=fun e=>onesY xs e
  have ho2:=fun e=>onesY ys e
  rw[e2,e1,e3]
  simp only[d1,d2,cond_false,ccY,j2Y,bytesY]
  refine ⟨by generalize decide ((xs.length:Int)+(ys.length:Int) > 0)=c;cases c <;> rfl,ha,hbb,fun _=>⟨fun h=>(by cases h),fun _=>⟨fun h=>(by cases h),fun _=>⟨fun h=>(by cases h),fun _=>⟨fun hc=>?_,fun _=>?_⟩⟩⟩⟩⟩
  ·have hc:(xs.length:Int)+(ys.length:Int) > 0:=of_decide_eq_true hc
   unfold maxLen
   repeat' (first | with_reducible exact ha | with_reducible exact hbb | with_reducible exact hd | with_reducible exact hk | with_reducible exact ho _ | with_reducible exact ho2 _ | with_reducible exact rfl | apply And.intro | intro _)
   all_goals (first | trivial | omega)
  ·unfold maxLen
   repeat' (first | with_reducible exact ha | with_reducible exact hbb | with_reducible exact hd | with_reducible exact hk | with_reducible exact ho _ | with_reducible exact ho2 _ | with_reducible exact rfl | apply And.intro | intro _)
   all_goals (first | trivial | omega)
theorem ysm_ok:FnPure Try.prog 59 aLLY dLYE sumF preS:=
 pure_congr (ysm_okS _ fun g _ hp=>(ysm_eq g.1 g.2 (hp _ (List.mem_cons_self ..))).2) fun g _ hp=>(ysm_eq g.1 g.2 (hp _ (List.mem_cons_self ..))).1
theorem rsm_eq (xs ys:List Y) (h:xs.length+ys.length≤KS):rsm_F xs ys=sumF (xs,ys)∧rsm_side xs ys:=by
 have h:xs.length+ys.length≤1000000:=h
 unfold rsm_F rsm_side sumF
 simp only[eY.lst_els]
 cases hb:(bothY (xs,ys) != 0) with
 | true=>exact ⟨rfl,okY xs,okY ys,fun h=>by cases h⟩
 | false=>
  have ha:=okY xs
  have hbb:=okY ys
  have hd:=okY (ofY (xs++ys)).1
  have hk:(xs++ys).length≤KS:=by unfold KS;simp;omega
  have ho:=fun e=>onesY xs e
  have ho2:=fun e=>onesY ys e
  simp only[cond_false,j2Y,bytesY]
  refine ⟨trivial,ha,hbb,fun _=>?_⟩
  unfold maxLen
  repeat' (first | with_reducible exact ha | with_reducible exact hbb | with_reducible exact hd | with_reducible exact hk | with_reducible exact ho _ | with_reducible exact ho2 _ | with_reducible exact rfl | apply And.intro | intro _)
  all_goals (first | trivial | omega)
theorem rsm_ok:FnPure Try.prog 61 aLLY dLYE sumF preS:=
 pure_congr (rsm_okS _ fun g _ hp=>(rsm_eq g.1 g.2 (hp _ (List.mem_cons_self ..))).2) fun g _ hp=>(rsm_eq g.1 g.2 (hp _ (List.mem_cons_self ..))).1
noncomputable def tabU22:MTab Try.prog:=(tabU20.cons 59 (pconR aLLY dLYE sumF preS) (conR_ok ysm_ok)).cons 61 (pconR aLLY dLYE sumF preS) (conR_ok rsm_ok)
end Go.Proofs.Ytiipneclghnfhaa

namespace Go.Proofs.Ytiipneclghnfhaa
open Go.RowKit Go.Sx
set_option maxRecDepth 100000
set_option linter.unusedVariables false
noncomputable def ydf_F (xs:List Y) (ys:List Y):Dv.T dLYE:=
 bif bothY (eY.lst xs.length (eY.els xs),eY.lst ys.length (eY.els ys)) != (0:Int) then ([],bothY (eY.lst xs.length (eY.els xs),eY.lst ys.length (eY.els ys)))
 else (eY.lst (sumF (eY.lst xs.length (eY.els xs),eY.lst (negY (eY.lst ys.length (eY.els ys))).fst.length (eY.els (negY (eY.lst ys.length (eY.els ys))).fst))).fst.length (eY.els (sumF (eY.lst xs.length (eY.els xs),eY.lst (negY (eY.lst ys.length (eY.els ys))).fst.length (eY.els (negY (eY.lst ys.length (eY.els ys))).fst))).fst),(sumF (eY.lst xs.length (eY.els xs),eY.lst (negY (eY.lst ys.length (eY.els ys))).fst.length (eY.els (negY (eY.lst ys.length (eY.els ys))).fst))).snd)
def ydf_side (xs:List Y) (ys:List Y):Prop:=
 (∀ (e:Nat),e<xs.length→eY.Ok (eY.els xs e))∧(∀ (e:Nat),e<ys.length→eY.Ok (eY.els ys e))∧((bothY (eY.lst xs.length (eY.els xs),eY.lst ys.length (eY.els ys)) != (0:Int))=false→(∀ (e:Nat),e<ys.length→eY.Ok (eY.els ys e))∧(eY.lst ys.length (eY.els ys)).length≤KS∧(∀ (e:Nat),e<xs.length→eY.Ok (eY.els xs e))∧(∀ (e:Nat),e<(negY (eY.lst ys.length (eY.els ys))).fst.length→eY.Ok (eY.els (negY (eY.lst ys.length (eY.els ys))).fst e))∧(eY.lst xs.length (eY.els xs)).length+(eY.lst (negY (eY.lst ys.length (eY.els ys))).fst.length (eY.els (negY (eY.lst ys.length (eY.els ys))).fst)).length≤KS∧∀ (e:Nat),e<(sumF (eY.lst xs.length (eY.els xs),eY.lst (negY (eY.lst ys.length (eY.els ys))).fst.length (eY.els (negY (eY.lst ys.length (eY.els ys))).fst))).fst.length→eY.Ok (eY.els (sumF (eY.lst xs.length (eY.els xs),eY.lst (negY (eY.lst ys.length (eY.els ys))).fst.length (eY.els (negY (eY.lst ys.length (eY.els ys))).fst))).fst e))
theorem ydf_okS (pre:DA.T aLLY→List Prop) (h:∀ g,DA.bd aLLY g→(∀ p∈pre g,p)→ydf_side g.1 g.2):FnPure Try.prog 62 aLLY dLYE (fun g=>ydf_F g.1 g.2) pre:=pure_of_sideS (Γ:=(MTab.gamz tabU22 [] [])) (Λ:=noΛ) (MTab.okz tabU22 [] []) noΛ_ok 100 default (fun g=>ydf_side g.1 g.2) (fun g=>by kernel_rfl) (fun g=>by kernel_rfl) h
noncomputable def rdf_F (xs:List Y) (ys:List Y):Dv.T dLYE:=
 bif bothY (eY.lst xs.length (eY.els xs),eY.lst ys.length (eY.els ys)) != (0:Int) then ([],bothY (eY.lst xs.length (eY.els xs),eY.lst ys.length (eY.els ys)))
 else (eY.lst (sumF (eY.lst xs.length (eY.els xs),eY.lst (negY (eY.lst ys.length (eY.els ys))).fst.length (eY.els (negY (eY.lst ys.length (eY.els ys))).fst))).fst.length (eY.els (sumF (eY.lst xs.length (eY.els xs),eY.lst (negY (eY.lst ys.length (eY.els ys))).fst.length (eY.els (negY (eY.lst ys.length (eY.els ys))).fst))).fst),(sumF (eY.lst xs.length (eY.els xs),eY.lst (negY (eY.lst ys.length (eY.els ys))).fst.length (eY.els (negY (eY.lst ys.length (eY.els ys))).fst))).snd)
def rdf_side (xs:List Y) (ys:List Y):Prop:=
 (∀ (e:Nat),e<xs.length→eY.Ok (eY.els xs e))∧(∀ (e:Nat),e<ys.length→eY.Ok (eY.els ys e))∧((bothY (eY.lst xs.length (eY.els xs),eY.lst ys.length (eY.els ys)) != (0:Int))=false→(∀ (e:Nat),e<ys.length→eY.Ok (eY.els ys e))∧(eY.lst ys.length (eY.els ys)).length≤KS∧(∀ (e:Nat),e<xs.length→eY.Ok (eY.els xs e))∧(∀ (e:Nat),e<(negY (eY.lst ys.length (eY.els ys))).fst.length→eY.Ok (eY.els (negY (eY.lst ys.length (eY.els ys))).fst e))∧(eY.lst xs.length (eY.els xs)).length+(eY.lst (negY (eY.lst ys.length (eY.els ys))).fst.length (eY.els (negY (eY.lst ys.length (eY.els ys))).fst)).length≤KS∧∀ (e:Nat),e<(sumF (eY.lst xs.length (eY.els xs),eY.lst (negY (eY.lst ys.length (eY.els ys))).fst.length (eY.els (negY (eY.lst ys.length (eY.els ys))).fst))).fst.length→eY.Ok (eY.els (sumF (eY.lst xs.length (eY.els xs),eY.lst (negY (eY.lst ys.length (eY.els ys))).fst.length (eY.els (negY (eY.lst ys.length (eY.els ys))).fst))).fst e))
theorem rdf_okS (pre:DA.T aLLY→List Prop) (h:∀ g,DA.bd aLLY g→(∀ p∈pre g,p)→rdf_side g.1 g.2):FnPure Try.prog 63 aLLY dLYE (fun g=>rdf_F g.1 g.2) pre:=pure_of_sideS (Γ:=(MTab.gamz tabU22 [] [])) (Λ:=noΛ) (MTab.okz tabU22 [] []) noΛ_ok 100 default (fun g=>rdf_side g.1 g.2) (fun g=>by kernel_rfl) (fun g=>by kernel_rfl) h
noncomputable def few_F (xs:List Y):Dv.T dLY:=
 eY.lst (List.foldl (fun a x=>bif false then if x.snd.snd > a then x.snd.snd else a else if x.snd.snd<a then x.snd.snd else a) (↑xs.length:Int) [(true,IntKind.i64,(60:Int))]).toNat (eY.els xs)
def few_side (xs:List Y):Prop:=
 ((0:Int)≤List.foldl (fun a x=>bif false then if x.snd.snd > a then x.snd.snd else a else if x.snd.snd<a then x.snd.snd else a) (↑xs.length:Int) [(true,IntKind.i64,(60:Int))]∧List.foldl (fun a x=>bif false then if x.snd.snd > a then x.snd.snd else a else if x.snd.snd<a then x.snd.snd else a) (↑xs.length:Int) [(true,IntKind.i64,(60:Int))]≤(↑xs.length:Int))∧∀ (e:Nat),e<(List.foldl (fun a x=>bif false then if x.snd.snd > a then x.snd.snd else a else if x.snd.snd<a then x.snd.snd else a) (↑xs.length:Int) [(true,IntKind.i64,(60:Int))]).toNat→eY.Ok (eY.els xs e)
theorem few_okS (pre:DA.T aLY→List Prop) (h:∀ g,DA.bd aLY g→(∀ p∈pre g,p)→few_side g):FnPure Try.prog 26 aLY dLY (fun g=>few_F g) pre:=pure_of_sideS (Γ:=(MTab.gamz tabU22 [] [])) (Λ:=noΛ) (MTab.okz tabU22 [] []) noΛ_ok 100 default (fun g=>few_side g) (fun g=>by kernel_rfl) (fun g=>by kernel_rfl) h
end Go.Proofs.Ytiipneclghnfhaa

namespace Go.Proofs.Ytiipneclghnfhaa
open Go.RowKit Go.Sx
set_option maxRecDepth 100000
set_option linter.unusedVariables false
abbrev rFt:Rv (List Y):=.fn1 98 (.list eY)
noncomputable def yti_F (xs:List Y):Rv.T rFt:=
 eY.lst (bif chkY (eY.lst xs.length (eY.els xs))==(0:Int) then (there (eY.lst xs.length (eY.els xs))).length else (0:Nat)) (eY.els (there (eY.lst xs.length (eY.els xs))))
def yti_side (xs:List Y):Prop:=
 (∀ (e:Nat),e<xs.length→eY.Ok (eY.els xs e))∧((chkY (eY.lst xs.length (eY.els xs))==(0:Int))=true→∀ (e:Nat),e<xs.length→eY.Ok (eY.els xs e))∧((chkY (eY.lst xs.length (eY.els xs))==(0:Int))=true→(eY.lst xs.length (eY.els xs)).length≤KS)∧∀ (e:Nat),(e<bif chkY (eY.lst xs.length (eY.els xs))==(0:Int) then (there (eY.lst xs.length (eY.els xs))).length else (0:Nat))→eY.Ok (eY.els (there (eY.lst xs.length (eY.els xs))) e)
theorem yti_okS (pre:DA.T aLY→List Prop) (h:∀ g,DA.bd aLY g→(∀ p∈pre g,p)→yti_side g):FnPure Try.prog 49 aLY (Rv.D rFt) (fun g=>yti_F g) pre:=res_of_side (R:=rFt) (Γ:=(MTab.gamz tabU22 [] [])) (Λ:=lamU18) (MTab.okz tabU22 [] []) lamU18_ok 100 default (fun g=>yti_side g) (fun g=>by kernel_rfl) (fun g=>by kernel_rfl) h
end Go.Proofs.Ytiipneclghnfhaa

namespace Go.Proofs.Ytiipneclghnfhaa
open Go.RowKit Go.Sx Go.Lp
theorem yti_ok:FnPure Try.prog 49 aLY (Rv.D rFt) timesY (fun g=>[g.length≤KS]):=by
 refine pure_congr (yti_okS _ fun g _ hp=>?_) fun g _ _=>?_
 ·have h:g.length≤KS:=hp _ (List.mem_cons_self ..)
  unfold yti_side
  simp only[eY.lst_els]
  refine ⟨okY g,fun _=>okY g,fun _=>h,fun e he=>eY.ok_els _ e⟩
 ·unfold yti_F timesY
  simp only[eY.lst_els]
  cases chkY g==(0:Int) with
  | true=>exact eY.lst_els _
  | false=>rfl
theorem few60 (xs:List Y):List.foldl (fun a (x:Bool×IntKind×Int)=>bif false then if x.2.2 > a then x.2.2 else a else if x.2.2<a then x.2.2 else a) (xs.length:Int) [(true,IntKind.i64,(60:Int))]=((min xs.length 60:Nat):Int):=by
 simp only[List.foldl_cons,List.foldl_nil,cond_false]
 split <;> omega
theorem few_ok2:FnPure Try.prog 26 aLY dLY (fun g=>g.take 60) (fun _=>[]):=by
 refine pure_congr (few_okS (fun _=>[]) fun g _ _=>?_) fun g _ _=>?_
 ·unfold few_side
  rw[few60]
  refine ⟨⟨by omega,by omega⟩,fun e _=>eY.ok_els _ e⟩
 ·unfold few_F
  rw[few60,Int.toNat_natCast,lst_le eY g _ (Nat.min_le_left _ _)]
  rw[List.take_eq_take_iff]
  omega
noncomputable def diffF (g:List Y×List Y):List Y×Int:=bif bothY g != (0:Int) then ([],bothY g) else sumF (g.1,(negY g.2).1)
theorem neg_len (xs:List Y):(negY xs).1.length≤xs.length:=by
 unfold negY
 cases (chkY xs != (0:Int)) <;> simp
theorem ydf_eq (xs ys:List Y) (h:xs.length+ys.length≤KS):ydf_F xs ys=diffF (xs,ys)∧ydf_side xs ys:=by
 have h':xs.length+ys.length≤1000000:=h
 have hy:ys.length≤KS:=by unfold KS;omega
 have hn:=neg_len ys
 have hs:xs.length+(negY ys).1.length≤KS:=Nat.le_trans (by omega) h
 unfold ydf_F ydf_side diffF
 simp only[eY.lst_els]
 exact ⟨trivial,okY xs,okY ys,fun _=>⟨okY ys,hy,okY xs,okY _,hs,okY _⟩⟩
theorem ydf_ok:FnPure Try.prog 62 aLLY dLYE diffF preS:=
 pure_congr (ydf_okS _ fun g _ hp=>(ydf_eq g.1 g.2 (hp _ (List.mem_cons_self ..))).2) fun g _ hp=>(ydf_eq g.1 g.2 (hp _ (List.mem_cons_self ..))).1
theorem rdf_eq (xs ys:List Y) (h:xs.length+ys.length≤KS):rdf_F xs ys=diffF (xs,ys)∧rdf_side xs ys:=ydf_eq xs ys h
theorem rdf_ok:FnPure Try.prog 63 aLLY dLYE diffF preS:=
 pure_congr (rdf_okS _ fun g _ hp=>(rdf_eq g.1 g.2 (hp _ (List.mem_cons_self ..))).2) fun g _ hp=>(rdf_eq g.1 g.2 (hp _ (List.mem_cons_self ..))).1
noncomputable def tabU25:MTab Try.prog:=(((tabU22.cons 49 (pconR aLY (Rv.D rFt) timesY (fun g=>[g.length≤KS])) (conR_ok yti_ok)).cons 26 (pconR aLY dLY (fun g=>g.take 60) (fun _=>[])) (conR_ok few_ok2)).cons 62 (pconR aLLY dLYE diffF preS) (conR_ok ydf_ok)).cons 63 (pconR aLLY dLYE diffF preS) (conR_ok rdf_ok)
end Go.Proofs.Ytiipneclghnfhaa

namespace Go.Proofs.Ytiipneclghnfhaa
open Go.RowKit Go.Sx
set_option maxRecDepth 100000
set_option linter.unusedVariables false
abbrev fr_G:Type:=List Y×Int×Int×Unit×List T×LoopState×Option Code
noncomputable def fr_LP:LP 3 fr_G:=.pair (.slot 3 5 dLY) (.pair (.slot 3 6 dI) (.pair (.slot 3 7 dI) (.pair (.fix 3 0 (.yl 2)) (.pair (.objRow 3 0 22 30 eT) (.rf 3 2 Try.prog 37 0 24 [(5,.p 0 0)] 1)))))
noncomputable def fr_R (xs:List Y) (n:Int) (i:Int) (_u:Unit) (out:List T):Ex×fr_G:=
 bif decide (i<n) then (Ex.normal,eY.lst xs.length (eY.els xs),n,IntKind.i64.wrap (i+(1:Int)),(),eT.lst (min (out.length+(1:Nat)) out.length) (eT.els out)++List.map (fun x=>(xs.getD i.toNat eY.dflt).t) (List.range (out.length+(1:Nat) - out.length)),LoopState.ready,none)
 else (Ex.exit (0:Nat),eY.lst xs.length (eY.els xs),n,i,(),eT.lst out.length (eT.els out),LoopState.ready,none)
def fr_side (xs:List Y) (n:Int) (i:Int) (_u:Unit) (out:List T):Prop:=
 (decide (i<n)=true→((0:Int)≤i∧i<(↑xs.length:Int))∧(out.length≤out.length∧True∧out.length+(1:Nat)≤maxLen∧(out.length+(1:Nat)) * Try.prog.types[(30:Nat)].bytes≤(140737488355328:Nat))∧(∀ (e:Nat),e<xs.length→eY.Ok (eY.els xs e))∧out.length+(1:Nat)≤out.length+(1:Nat)∧(∀ (e:Nat),e<min (out.length+(1:Nat)) out.length→True)∧(∀ (e:Nat),e<out.length+(1:Nat) - out.length→True)∧CodeIs (rangeOf Try.prog (37:Nat) (0:Nat)).snd.fst (rangeOf Try.prog (37:Nat) (0:Nat)).snd.fst∧CodeIs (rangeOf Try.prog (37:Nat) (0:Nat)).snd.snd (rangeOf Try.prog (37:Nat) (0:Nat)).snd.snd)∧(decide (i<n)=false→(∀ (e:Nat),e<xs.length→eY.Ok (eY.els xs e))∧out.length≤out.length∧(∀ (e:Nat),e<out.length→True)∧CodeIs (rangeOf Try.prog (37:Nat) (0:Nat)).snd.fst (rangeOf Try.prog (37:Nat) (0:Nat)).snd.fst∧CodeIs (rangeOf Try.prog (37:Nat) (0:Nat)).snd.snd (rangeOf Try.prog (37:Nat) (0:Nat)).snd.snd)
theorem fr_one:((loopsOf Try.prog 98).filter fun c=>Nat.beq (lkey c) 1).length=1:=by kernel_rfl
abbrev fr_GC:Type:=List Y×Int
abbrev fr_GB:Type:=Unit×List T×LoopState×Option Code
def fr_f (g:fr_G):Int×fr_GC×fr_GB:=(g.2.2.1,(g.1,g.2.1),(g.2.2.2.1,g.2.2.2.2.1,g.2.2.2.2.2))
def fr_g (d:Int×fr_GC×fr_GB):fr_G:=(d.2.1.1,d.2.1.2,d.1,d.2.2.1,d.2.2.2.1,d.2.2.2.2)
def fr_E:List ((Ex×fr_G→Bool)×Ex×(fr_G→fr_G)):=[(fun x=>exB (.exit 0) x.1,.exit 0,fun g=>(g.1,g.2.1,g.2.2.1,g.2.2.2.1,g.2.2.2.2.1,(.ready,none)))]
theorem fr_es (g:fr_G):(fr_R g.1 g.2.1 g.2.2.1 g.2.2.2.1 g.2.2.2.2.1).1=.normal∨exitsOk (fr_R g.1 g.2.1 g.2.2.1 g.2.2.2.1 g.2.2.2.2.1) fr_E:=by
 unfold fr_R
 repeat' (first | (left;rfl) | (right;exact ⟨rfl,rfl⟩) | (rw[Bool.cond_eq_ite];split))
noncomputable abbrev fr_C (Inv:fr_G→List Prop) (m:fr_G→Nat):LCon:=loopRS fr_E (loopBody Try.prog 98 1) fr_LP [] 19 Inv (fun g=>fr_R g.1 g.2.1 g.2.2.1 g.2.2.2.1 g.2.2.2.2.1) m
noncomputable def fr_i (g:fr_G):fr_G:=(g.1,g.2.1,g.2.2.1,g.2.2.2.1,g.2.2.2.2.1,(LoopState.ready,none))
theorem fr_loop (Inv:fr_G→List Prop) (m:fr_G→Nat) (hs:∀ g,allP (Inv g)→fr_side g.1 g.2.1 g.2.2.1 g.2.2.2.1 g.2.2.2.2.1) (hι:∀ g,allP (Inv g)→fr_i g=g) (hg:Goes (fun g:fr_G=>fr_R g.1 g.2.1 g.2.2.1 g.2.2.2.1 g.2.2.2.2.1) m fun g=>allP (Inv g)):∀ b∈loopsOf Try.prog 98,lkey b=1→LoopOk Try.prog b (fr_C Inv m).g:=loop_runS fr_i (Γ:=(MTab.gamz tabU25 [] [])) (Λ:=lamU18) (MTab.okz tabU25 [] []) lamU18_ok 100 98 1 19 fr_LP [] Inv (fun g=>fr_R g.1 g.2.1 g.2.2.1 g.2.2.2.1 g.2.2.2.2.1) (fun g=>fr_side g.1 g.2.1 g.2.2.1 g.2.2.2.1 g.2.2.2.2.1) m default fr_E fr_one (fun rd T B HL HB ds g=>by kernel_rfl) (fun rd T B HL HB ds g=>by kernel_rfl) hι hs hg fr_es
end Go.Proofs.Ytiipneclghnfhaa

namespace Go.Proofs.Ytiipneclghnfhaa
open Go.RowKit Go.Sx Go.Lp
noncomputable def fr_S (_:fr_GC) (b:fr_GB) (_:Int) (v:Y):Ex×fr_GB:=(.normal,(),b.2.1++[v.t],.ready,none)
def fr_K (c:fr_GC) (b:fr_GB) (i:Int):Prop:=b.2.2=(LoopState.ready,(none:Option Code))∧c.1.length≤KS∧(List.length b.2.1:Int)≤i
abbrev fr_I (g:fr_G):List Prop:=ixI (fun c:fr_GC=>c.2) (fun c=>c.1) fr_K (fr_f g)
abbrev fr_M (g:fr_G):Nat:=ixM (fun c:fr_GC=>c.2) (fr_f g)
theorem fr_P:ixP fr_S (fun c:fr_GC=>c.1) fr_K:=by
 rintro ⟨xs,n⟩ ⟨⟨⟩,out,f⟩ i a ⟨h1,h3,h4⟩ _ _
 refine ⟨rfl,h3,?_⟩
 have h4:(List.length out:Int)≤(i:Int):=h4
 show ((out++[a.t]).length:Int)≤(i:Int)+1
 rw[List.length_append]
 simp only[List.length_cons,List.length_nil]
 omega
noncomputable abbrev fr_RR (g:fr_G):Ex×fr_G:=fr_R g.1 g.2.1 g.2.2.1 g.2.2.2.1 g.2.2.2.2.1
theorem fr_RF (d:Int×fr_GC×fr_GB) (hi:allP (ixI (fun c:fr_GC=>c.2) (fun c=>c.1) fr_K d)):fr_RR (fr_g d)=((ixF 0 (fun c:fr_GC=>c.2) (fun c=>c.1) eY.dflt fr_S d).1,fr_g (ixF 0 (fun c:fr_GC=>c.2) (fun c=>c.1) eY.dflt fr_S d).2):=by
 obtain ⟨hb,_⟩:=(hi _ (List.mem_cons_self ..)).2.2.2.2
 obtain ⟨i,⟨xs,n⟩,⟨⟨⟩,out,f⟩⟩:=d
 have hb:f=(LoopState.ready,(none:Option Code)):=hb
 subst hb
 show fr_R xs n i () out=_
 unfold fr_R ixF fr_S
 simp only[eT.lst_els,eY.lst_els,lst_snoc]
 cases decide (i<n) <;> rfl
theorem fr_ok:∀ b∈loopsOf Try.prog 98,lkey b=1→LoopOk Try.prog b (fr_C fr_I fr_M).g:=by
 refine fr_loop fr_I fr_M (fun g hi=>?_) (fun g hi=>?_) (ix_conj_goes (fun _=>rfl) (fun _=>rfl) fr_RF fr_P)
 ·obtain ⟨xs,n,i,⟨⟩,out,⟨st,pd⟩⟩:=g
  obtain ⟨h1,h2,h3,h4,h5,h7,h8⟩:=hi _ (List.mem_cons_self ..)
  have h1:n=(xs.length:Int):=h1
  have h3:0≤i:=h3
  have h7:xs.length≤1000000:=h7
  have h8:(List.length out:Int)≤i:=h8
  have h4:i≤(xs.length:Int):=h4
  have k0:=okY xs
  show fr_side xs n i () out
  unfold fr_side
  simp only[bytesT,decide_eq_true_eq,decide_eq_false_iff_not]
  clear hi
  unfold maxLen
  repeat' (first | with_reducible exact k0 | exact rfl | apply And.intro | intro _)
  all_goals (first | trivial | omega)
 ·obtain ⟨xs,n,i,⟨⟩,out,⟨st,pd⟩⟩:=g
  have h5:=(hi _ (List.mem_cons_self ..)).2.2.2.2.1
  have h5:(st,pd)=(LoopState.ready,(none:Option Code)):=h5
  cases h5
  rfl
theorem fr_run (xs:List Y) (h:xs.length≤KS):loopF fr_RR fr_M (xs,(xs.length:Int),0,(),[],(.ready,none))=(.exit 0,xs,(xs.length:Int),(xs.length:Int),(),xs.map (·.t),(.ready,none)):=by
 have hm:xs.length≤maxLen:=Nat.le_trans h (by decide)
 have hr:loopF fr_RR fr_M (xs,(xs.length:Int),0,(),[],(.ready,none))=_:=ix_conj_run (φ:=fr_f) (ψ:=fr_g) (fun _=>rfl) (fun _=>rfl) fr_RF fr_P (xs,(xs.length:Int)) ((),[],.ready,none) rfl hm ⟨rfl,h,by show (0:Int)≤0;omega⟩
 have hf:∀ (l:List Y) (b:List T),l.foldl (fun (b:fr_GB) (v:Y)=>((),b.2.1++[v.t],LoopState.ready,(none:Option Code))) ((),b,LoopState.ready,(none:Option Code))=((),b++l.map (·.t),LoopState.ready,none):=by
  intro l
  induction l with
  | nil=>intro b;simp
  | cons a l ih=>intro b;rw[List.foldl_cons,ih];simp
 have hs:=scan_fold (x:=0) (st:=fr_S (xs,(xs.length:Int))) (f:=fun (b:fr_GB) (v:Y)=>((),b.2.1++[v.t],LoopState.ready,(none:Option Code))) (fun _ _ _=>rfl) xs 0 ((),[],LoopState.ready,none)
 rw[hf] at hs
 rw[hr]
 show ((scan 0 (fr_S (xs,(xs.length:Int))) 0 xs ((),[],.ready,none)).1,fr_g ((scan 0 (fr_S (xs,(xs.length:Int))) 0 xs ((),[],.ready,none)).2.1,(xs,(xs.length:Int)),(scan 0 (fr_S (xs,(xs.length:Int))) 0 xs ((),[],.ready,none)).2.2))=_
 rw[hs,Int.zero_add]
 rfl
theorem fr_ix (xs:List Y) (h:xs.length≤KS):ixJ (fun c:fr_GC=>c.2) (fun c=>c.1) fr_K (0,(xs,(xs.length:Int)),((),[],.ready,none)):=ixJ0 rfl (Nat.le_trans h (by decide)) ⟨rfl,h,by show (0:Int)≤0;omega⟩
noncomputable def ltU27:LTab Try.prog:=ltU18.cons 98 1 (fr_C fr_I fr_M) fr_ok
noncomputable abbrev lamU27:Lam:=ltU27.lam
theorem lamU27_ok:∀ f k L,lamU27 f k=some L→∀ b∈loopsOf Try.prog f,lkey b=k→LoopOk Try.prog b L.g:=ltU27.ok
end Go.Proofs.Ytiipneclghnfhaa

namespace Go.Proofs.Ytiipneclghnfhaa
open Go.RowKit Go.Sx
set_option maxRecDepth 100000
set_option linter.unusedVariables false
noncomputable def yfr_q1 (xs:List Y):Ex ×
 fr_G:=
 loopF (fun g=>fr_R g.fst g.snd.fst g.snd.snd.fst g.snd.snd.snd.fst g.snd.snd.snd.snd.fst) fr_M (eY.lst (timesY (eY.lst xs.length (eY.els xs))).length (eY.els (timesY (eY.lst xs.length (eY.els xs)))),(↑(timesY (eY.lst xs.length (eY.els xs))).length:Int),(0:Int),(),[],LoopState.ready,none)
noncomputable def yfr_F (xs:List Y):Dv.T dLE:=
 bif chkY (eY.lst xs.length (eY.els xs)) != (0:Int) then ([],chkY (eY.lst xs.length (eY.els xs)))
 else (eT.lst (ofC (eT.lst (yfr_q1 xs).snd.snd.snd.snd.snd.fst.length (eT.els (yfr_q1 xs).snd.snd.snd.snd.snd.fst))).fst.length (eT.els (ofC (eT.lst (yfr_q1 xs).snd.snd.snd.snd.snd.fst.length (eT.els (yfr_q1 xs).snd.snd.snd.snd.snd.fst))).fst),(ofC (eT.lst (yfr_q1 xs).snd.snd.snd.snd.snd.fst.length (eT.els (yfr_q1 xs).snd.snd.snd.snd.snd.fst))).snd)
def yfr_side (xs:List Y):Prop:=
 (∀ (e:Nat),e<xs.length→eY.Ok (eY.els xs e))∧((chkY (eY.lst xs.length (eY.els xs)) != (0:Int))=false→(∀ (e:Nat),e<xs.length→eY.Ok (eY.els xs e))∧(eY.lst xs.length (eY.els xs)).length≤KS∧(∀ (e:Nat),e<(timesY (eY.lst xs.length (eY.els xs))).length→eY.Ok (eY.els (timesY (eY.lst xs.length (eY.els xs))) e))∧CodeIs (rangeOf Try.prog (37:Nat) (0:Nat)).snd.fst (rangeOf Try.prog (37:Nat) (0:Nat)).snd.fst∧CodeIs (rangeOf Try.prog (37:Nat) (0:Nat)).snd.snd (rangeOf Try.prog (37:Nat) (0:Nat)).snd.snd∧Lp.ixJ (fun c=>c.snd) (fun c=>c.fst) fr_K (fr_f (eY.lst (timesY (eY.lst xs.length (eY.els xs))).length (eY.els (timesY (eY.lst xs.length (eY.els xs)))),(↑(timesY (eY.lst xs.length (eY.els xs))).length:Int),(0:Int),(),[],LoopState.ready,none))∧(yfr_q1 xs).snd.snd.snd.snd.snd.fst.length≤(yfr_q1 xs).snd.snd.snd.snd.snd.fst.length∧(∀ (e:Nat),e<(yfr_q1 xs).snd.snd.snd.snd.snd.fst.length→True)∧(eT.lst (yfr_q1 xs).snd.snd.snd.snd.snd.fst.length (eT.els (yfr_q1 xs).snd.snd.snd.snd.snd.fst)).length≤KS∧∀ (e:Nat),e<(ofC (eT.lst (yfr_q1 xs).snd.snd.snd.snd.snd.fst.length (eT.els (yfr_q1 xs).snd.snd.snd.snd.snd.fst))).fst.length→eT.Ok (eT.els (ofC (eT.lst (yfr_q1 xs).snd.snd.snd.snd.snd.fst.length (eT.els (yfr_q1 xs).snd.snd.snd.snd.snd.fst))).fst e))
theorem yfr_okS (pre:DA.T aLY→List Prop) (h:∀ g,DA.bd aLY g→(∀ p∈pre g,p)→yfr_side g):FnPure Try.prog 37 aLY dLE (fun g=>yfr_F g) pre:=pure_of_sideS (Γ:=(MTab.gamz tabU25 [] [])) (Λ:=lamU27) (MTab.okz tabU25 [] []) lamU27_ok 100 default (fun g=>yfr_side g) (fun g=>by kernel_rfl) (fun g=>by kernel_rfl) h
noncomputable def rfr_q1 (xs:List Y):Ex ×
 lg5_G:=
 loopF (fun g=>lg5_R g.fst g.snd.fst g.snd.snd) lg5_M (eY.lst xs.length (eY.els xs),[],(0:Int))
noncomputable def rfr_F (xs:List Y):Dv.T dLE:=
 bif chkY (eY.lst xs.length (eY.els xs)) != (0:Int) then ([],chkY (eY.lst xs.length (eY.els xs)))
 else (eT.lst (ofC (eT.lst (rfr_q1 xs).snd.snd.fst.length (eT.els (rfr_q1 xs).snd.snd.fst))).fst.length (eT.els (ofC (eT.lst (rfr_q1 xs).snd.snd.fst.length (eT.els (rfr_q1 xs).snd.snd.fst))).fst),(ofC (eT.lst (rfr_q1 xs).snd.snd.fst.length (eT.els (rfr_q1 xs).snd.snd.fst))).snd)
def rfr_side (xs:List Y):Prop:=
 (∀ (e:Nat),e<xs.length→eY.Ok (eY.els xs e))∧((chkY (eY.lst xs.length (eY.els xs)) != (0:Int))=false→(∀ (e:Nat),e<xs.length→eY.Ok (eY.els xs e))∧Lp.ixJ (fun c=>(↑(List.length c):Int)) (fun c=>c) lg5_K (lg5_f (eY.lst xs.length (eY.els xs),[],(0:Int)))∧(rfr_q1 xs).snd.snd.fst.length≤(rfr_q1 xs).snd.snd.fst.length∧(∀ (e:Nat),e<(rfr_q1 xs).snd.snd.fst.length→True)∧(eT.lst (rfr_q1 xs).snd.snd.fst.length (eT.els (rfr_q1 xs).snd.snd.fst)).length≤KS∧∀ (e:Nat),e<(ofC (eT.lst (rfr_q1 xs).snd.snd.fst.length (eT.els (rfr_q1 xs).snd.snd.fst))).fst.length→eT.Ok (eT.els (ofC (eT.lst (rfr_q1 xs).snd.snd.fst.length (eT.els (rfr_q1 xs).snd.snd.fst))).fst e))
theorem rfr_okS (pre:DA.T aLY→List Prop) (h:∀ g,DA.bd aLY g→(∀ p∈pre g,p)→rfr_side g):FnPure Try.prog 38 aLY dLE (fun g=>rfr_F g) pre:=pure_of_sideS (Γ:=(MTab.gamz tabU25 [] [])) (Λ:=lamU27) (MTab.okz tabU25 [] []) lamU27_ok 100 default (fun g=>rfr_side g) (fun g=>by kernel_rfl) (fun g=>by kernel_rfl) h
end Go.Proofs.Ytiipneclghnfhaa

namespace Go.Proofs.Ytiipneclghnfhaa
open Go.RowKit Go.Sx Go.Lp
noncomputable def frontY (xs:List Y):List T×Int:=bif chkY xs != (0:Int) then ([],chkY xs) else ofC ((there xs).map (·.t))
theorem there_len (xs:List Y):(there xs).length≤xs.length:=List.length_filter_le _ _
theorem yfr_eq (xs:List Y) (h:xs.length≤KS):yfr_F xs=frontY xs∧yfr_side xs:=by
 unfold yfr_F yfr_side yfr_q1 frontY
 simp only[eY.lst_els,eT.lst_els]
 have hl:(timesY xs).length≤KS:=by
  unfold timesY
  cases chkY xs==(0:Int) with
  | true=>exact Nat.le_trans (there_len xs) h
  | false=>exact Nat.zero_le _
 have h1:loopF (fun g:fr_G=>fr_R g.1 g.2.1 g.2.2.1 g.2.2.2.1 g.2.2.2.2.1) fr_M (timesY xs,((timesY xs).length:Int),0,(),[],(.ready,none))=_:=fr_run (timesY xs) hl
 rw[h1]
 have hl2:((timesY xs).map (·.t)).length≤KS:=by rw[List.length_map];exact hl
 refine ⟨?_,okY xs,fun _=>⟨okY xs,h,okY _,rfl,rfl,fr_ix (timesY xs) hl,Nat.le_refl _,fun _ _=>trivial,hl2,okT _⟩⟩
 cases hc:(chkY xs != (0:Int)) with
 | true=>rfl
 | false=>
  have:timesY xs=there xs:=by
   unfold timesY
   rw[bne0 hc];rfl
  rw[this]
theorem yfr_ok:FnPure Try.prog 37 aLY dLE frontY (fun g=>[g.length≤KS]):=
 pure_congr (yfr_okS _ fun g _ hp=>(yfr_eq g (hp _ (List.mem_cons_self ..))).2) fun g _ hp=>(yfr_eq g (hp _ (List.mem_cons_self ..))).1
theorem rfr_eq (xs:List Y) (h:xs.length≤KS):rfr_F xs=frontY xs∧rfr_side xs:=by
 unfold rfr_F rfr_side rfr_q1 frontY
 simp only[eY.lst_els,eT.lst_els]
 have h1:loopF (fun g:lg5_G=>lg5_R g.1 g.2.1 g.2.2) lg5_M (xs,[],0)=_:=lg5_run xs [] rfl h rfl
 rw[h1]
 have e:(scan 0 (lg5_S xs) 0 xs []).2.2=(there xs).map (·.t):=by
  rw[scan_fold (st:=lg5_S xs) (f:=fun (b:List T) (v:Y)=>bif decide (v.n > (0:Int)) then b++[v.t] else b) (fun _ _ _=>rfl)]
  show List.foldl (fun (b:List T) (v:Y)=>bif decide (v.n > (0:Int)) then b++[v.t] else b) [] xs=_
  rw[fold_filter (fun v:Y=>decide (v.n > (0:Int))) (fun v=>v.t)]
  rfl
 show (bif chkY xs != (0:Int) then ([],chkY xs) else ((ofC (scan 0 (lg5_S xs) 0 xs []).2.2).1,(ofC (scan 0 (lg5_S xs) 0 xs []).2.2).2))=_∧((∀ (e:Nat),e<xs.length→eY.Ok (eY.els xs e))∧((chkY xs != (0:Int))=false→(∀ (e:Nat),e<xs.length→eY.Ok (eY.els xs e))∧Lp.ixJ (fun c=>(↑(List.length c):Int)) (fun c=>c) lg5_K (lg5_f (xs,[],(0:Int)))∧(scan 0 (lg5_S xs) 0 xs []).2.2.length≤(scan 0 (lg5_S xs) 0 xs []).2.2.length∧(∀ (e:Nat),e<(scan 0 (lg5_S xs) 0 xs []).2.2.length→True)∧(scan 0 (lg5_S xs) 0 xs []).2.2.length≤KS∧∀ (e:Nat),e<(ofC (scan 0 (lg5_S xs) 0 xs []).2.2).1.length→eT.Ok (eT.els (ofC (scan 0 (lg5_S xs) 0 xs []).2.2).1 e)))
 rw[e]
 have hl2:((there xs).map (·.t)).length≤KS:=by rw[List.length_map];exact Nat.le_trans (there_len xs) h
 exact ⟨rfl,okY xs,fun _=>⟨okY xs,lg5_ix xs [] rfl h rfl,Nat.le_refl _,fun _ _=>trivial,hl2,okT _⟩⟩
theorem rfr_ok:FnPure Try.prog 38 aLY dLE frontY (fun g=>[g.length≤KS]):=
 pure_congr (rfr_okS _ fun g _ hp=>(rfr_eq g (hp _ (List.mem_cons_self ..))).2) fun g _ hp=>(rfr_eq g (hp _ (List.mem_cons_self ..))).1
noncomputable def tabU29:MTab Try.prog:=(tabU25.cons 37 (pconR aLY dLE frontY (fun g=>[g.length≤KS])) (conR_ok yfr_ok)).cons 38 (pconR aLY dLE frontY (fun g=>[g.length≤KS])) (conR_ok rfr_ok)
abbrev aLYB:DA (List Y):=.one (.listB eY)
theorem yof_okB:FnPure Try.prog 27 aLYB dLYE ofY (fun g=>[g.length≤KS]):=yof_ok
end Go.Proofs.Ytiipneclghnfhaa

namespace Go.Sx
def Tr.asksC {α:Type}:Tr α→List Prop
 | .ret _=>[]
 | .br c a b=>bif c then a.asksC else b.asksC
 | .ask p a=>p :: a.asksC
 | .giv _ a=>a.asksC
 | .all _=>[False]
 | .bad _=>[False]
def Tr.evC {α:Type} (d:α):Tr α→α
 | .ret x=>x
 | .br c a b=>bif c then a.evC d else b.evC d
 | .ask _ a=>a.evC d
 | .giv _ a=>a.evC d
 | _=>d
theorem Tr.asksC_holds {α:Type} (d:α):∀ {t:Tr α},(∀ p∈t.asksC,p)→t.Holds (·=t.evC d)
 | .ret _,_=>rfl
 | .br true a b,h=>⟨fun _=>Tr.asksC_holds d (t:=a) h,fun h=>by cases h⟩
 | .br false a b,h=>⟨fun h=>(by cases h),fun _=>Tr.asksC_holds d (t:=b) h⟩
 | .ask p a,h=>⟨h p (List.mem_cons_self ..),Tr.asksC_holds d (t:=a) fun q hq=>h q (List.mem_cons_of_mem _ hq)⟩
 | .giv _ a,h=>fun _=>Tr.asksC_holds d (t:=a) h
 | .all _,h=>(h _ (List.mem_cons_self ..)).elim
 | .bad _,h=>(h _ (List.mem_cons_self ..)).elim
end Go.Sx
namespace Go.Proofs.Ytiipneclghnfhaa
open Go.RowKit Go.Sx Go.Lp
theorem pure_lit {γ δ:Type} {P:Program} {f:Nat} {D:DA γ} {R:Dv δ} {fn:γ→δ} {pre:γ→List Prop} (h:FnPure P f D R fn pre) (g0:γ) (r:δ) (hr:fn g0=r) (hp:∀ p∈pre g0,p):FnPure P f D R (fun _=>r) (fun g=>[g=g0]):=by
 intro w F g vs h1 h2 h3
 have e:g=g0:=h2 _ (List.mem_cons_self ..)
 subst e
 subst hr
 exact h w F g vs h1 hp h3
abbrev bgA:T:=T.mk (1:Int) (0:Int) (0:Int) (0:Int) (0:Int) (0:Int)
abbrev bgB:T:=T.mk (2:Int) (0:Int) (0:Int) (0:Int) (0:Int) (0:Int)
abbrev bgL:List Y:=[Y.mk bgA (1:Int),Y.mk bgB (2:Int),Y.mk bgA (-1:Int)]
abbrev bgM:List Y:=[Y.mk bgB (2:Int)]
abbrev aLLYB:DA (List Y×List Y):=.cons (.listB eY) (.one (.listB eY))
abbrev aLLB:DA (List T×List T):=.cons (.listB eT) (.one (.listB eT))
theorem bg_of:FnPure Try.prog 27 aLYB dLYE (fun _=>(bgM,(0:Int))) (fun g=>[g=bgL]):=
 pure_lit yof_okB bgL (bgM,0) (by kernel_rfl) (fun p hp=>by rw[List.mem_singleton.1 hp];decide)
theorem bg_fr:FnPure Try.prog 37 aLYB dLE (fun _=>([bgB],(0:Int))) (fun g=>[g=bgM]):=
 pure_lit (D:=aLYB) yfr_ok bgM ([bgB],0) (by kernel_rfl) (fun p hp=>by rw[List.mem_singleton.1 hp];decide)
theorem bg_pl:FnPure Try.prog 46 aLYB dBool (fun _=>true) (fun g=>[g=bgM]):=
 pure_lit (D:=aLYB) ypl_ok bgM true (by kernel_rfl) (fun p hp=>by cases hp)
theorem bg_ey:FnPure Try.prog 87 aLLYB dBool (fun _=>true) (fun g=>[g=(bgM,bgM)]):=
 pure_lit (D:=aLLYB) euy_ok (bgM,bgM) true (by kernel_rfl) (fun p hp=>by cases hp)
theorem bg_et:FnPure Try.prog 25 aLLB dBool (fun _=>true) (fun g=>[g=([bgB],[bgB])]):=
 pure_lit (D:=aLLB) eqf_ok ([bgB],[bgB]) true (by kernel_rfl) (fun p hp=>by cases hp)
noncomputable def tabU30:MTab Try.prog:=((((tabU29.consM 27 (fconR aLYB dLYE (fun _=>(bgM,(0:Int))) (fun g=>[g=bgL])) (fconR_ok bg_of)).cons 37 (pconR aLYB dLE (fun _=>([bgB],(0:Int))) (fun g=>[g=bgM])) (conR_ok bg_fr)).cons 46 (pconP aLYB dBool (fun _=>true) (fun g=>[g=bgM])) (conP_ok bg_pl puB)).cons 87 (pconP aLLYB dBool (fun _=>true) (fun g=>[g=(bgM,bgM)])) (conP_ok bg_ey puB)).cons 25 (pconP aLLB dBool (fun _=>true) (fun g=>[g=([bgB],[bgB])])) (conP_ok bg_et puB)
end Go.Proofs.Ytiipneclghnfhaa

namespace Go.Proofs.Ytiipneclghnfhaa
open Go.RowKit Go.Sx Go.Lp
set_option maxRecDepth 100000
noncomputable abbrev bgT:Tr Bool:=dTree Try.prog (MTab.gamz tabU30 [] []) noΛ 100 28 (DA.enc .none ()) dBool
theorem bg_ev:bgT.evC false=true:=by kernel_rfl
theorem bg_asks:bgT.asksC=[bgL=bgL,bgM=bgM,true=true→(bgM,bgM)=(bgM,bgM),true=true→true=true→true=true→([bgB],[bgB])=([bgB],[bgB]),true=true→true=true→true=true→true=true→bgM=bgM]:=by kernel_rfl
theorem bg_ok:FnPure Try.prog 28 .none dBool (fun _=>true) (fun _=>[]):=pure_of_tree (MTab.okz tabU30 [] []) noΛ_ok 100 fun g _ _=>by
 have h:=Tr.asksC_holds (t:=bgT) false (by
  rw[bg_asks]
  intro p hp
  rcases List.mem_cons.1 hp with e | hp
  ·exact e▸rfl
  rcases List.mem_cons.1 hp with e | hp
  ·exact e▸rfl
  rcases List.mem_cons.1 hp with e | hp
  ·exact e▸fun _=>rfl
  rcases List.mem_cons.1 hp with e | hp
  ·exact e▸fun _ _ _=>rfl
  rcases List.mem_cons.1 hp with e | hp
  ·exact e▸fun _ _ _ _=>rfl
  cases hp)
 rw[bg_ev] at h
 exact h
noncomputable def tabU31:MTab Try.prog:=tabU29.cons 28 (pconP .none dBool (fun _=>true) (fun _=>[])) (conP_ok bg_ok puB)
end Go.Proofs.Ytiipneclghnfhaa

namespace Go.Proofs.Ytiipneclghnfhaa
open Go.RowKit Go.Sx Go.Lp
noncomputable def nzY (xs:List Y):List Y:=(totY xs).filter fun v=>v.n != 0
def okTs (xs:List Y):Prop:=∀ v∈xs,tcheck_F v.t=0
def okNs (xs:List Y):Prop:=∀ v∈xs,ywi_F v.n=true
theorem sum_zero {xs:List Y} {t:T} (h:¬ ∃ x∈xs,x.t=t):sumY xs t=0:=sumK_none Y.t Y.n fun x hx e=>h ⟨x,hx,e⟩
theorem ywi0:ywi_F 0=true:=(ywi_iff _).2 (by decide)
theorem nz_mem (xs:List Y) (y:Y):y∈nzY xs↔y.n=sumY xs y.t∧y.n≠0:=by
 unfold nzY
 rw[List.mem_filter,totY_mem]
 constructor
 ·rintro ⟨⟨_,h⟩,hn⟩
  exact ⟨h,by simpa using hn⟩
 ·rintro ⟨h,hn⟩
  refine ⟨⟨Classical.byContradiction fun hc=>hn ?_,h⟩,by simpa using hn⟩
  rw[h,sum_zero hc]
theorem nz_srt (xs:List Y):SrtY (nzY xs):=List.Pairwise.filter _ (totY_srt xs)
theorem sum_srt {xs:List Y} (hs:SrtY xs) {y:Y} (hy:y∈xs):sumY xs y.t=y.n:=sumK_one Y.t Y.n (srt_ne Y.t toT hs) hy
theorem nz_self {xs:List Y} (hs:SrtY xs) (hn:∀ v∈xs,v.n≠0):nzY xs=xs:=
 srt_unique Y.t Y.n (fun a b=>tcmp_F a b) toT yext (nz_srt _) hs fun y=>by
  rw[nz_mem]
  constructor
  ·rintro ⟨h,h0⟩
   have:∃ x∈xs,x.t=y.t:=Classical.byContradiction fun hc=>h0 (by rw[h,sum_zero hc])
   obtain ⟨x,hx,hxt⟩:=this
   have:x=y:=yext x y hxt (by rw[h,← hxt,sum_srt hs hx])
   exact this▸hx
  ·intro hy
   exact ⟨(sum_srt hs hy).symm,hn y hy⟩
theorem of_inv {xs:List Y} (h:(ofY xs).2=0):okTs xs∧okNs xs∧(∀ t,ywi_F (sumY xs t)=true)∧ofY xs=(nzY xs,0):=by
 unfold ofY at h ⊢
 cases h1:xs.any (fun v=>tcheck_F v.t != 0) with
 | true=>rw[h1] at h;cases h
 | false=>
  cases h2:xs.any (fun v=>!ywi_F v.n) with
  | true=>rw[h1,h2] at h;cases h
  | false=>
   cases h3:(totY xs).any (fun v=>!ywi_F v.n) with
   | true=>rw[h1,h2,h3] at h;cases h
   | false=>
    rw[List.any_eq_false] at h1 h2 h3
    refine ⟨fun v hv=>by simpa using h1 v hv,fun v hv=>by simpa using h2 v hv,fun t=>?_,rfl⟩
    by_cases ht:∃ x∈xs,x.t=t
    ·have:=h3 ⟨t,sumY xs t⟩ ((totY_mem xs _).2 ⟨ht,rfl⟩)
     simpa using this
    ·rw[sum_zero ht];exact ywi0
theorem nz_len (xs:List Y):(nzY xs).length≤xs.length:=Nat.le_trans (List.length_filter_le _ _) (totY_len xs)
theorem of_len (xs:List Y):(ofY xs).1.length≤xs.length:=by
 unfold ofY
 repeat' (first | exact Nat.zero_le _ | exact nz_len xs | (rename_i h;cases h) | (cases h:List.any _ _ <;> simp only[cond_true,cond_false,List.length_nil]))
theorem chk_all {xs:List Y} (hm:xs.length≤KS) (h:chkY xs=0):okTs xs∧okNs xs∧SrtY xs∧nzY xs=xs∧∀ t,ywi_F (sumY xs t)=true:=by
 obtain ⟨h1,h2,h3⟩:=chk0 hm h
 refine ⟨h1,fun v hv=>(h2 v hv).2,h3,nz_self h3 fun v hv=>(h2 v hv).1,fun t=>?_⟩
 by_cases ht:∃ x∈xs,x.t=t
 ·obtain ⟨x,hx,rfl⟩:=ht
  rw[sum_srt h3 hx];exact (h2 x hx).2
 ·rw[sum_zero ht];exact ywi0
theorem sum_app (a b:List Y) (t:T):sumY (a++b) t=sumY a t+sumY b t:=sumK_append Y.t Y.n a b t
end Go.Proofs.Ytiipneclghnfhaa

namespace Go.Proofs.Ytiipneclghnfhaa
open Go.RowKit Go.Sx
set_option maxRecDepth 100000
set_option linter.unusedVariables false
end Go.Proofs.Ytiipneclghnfhaa

namespace Go.Proofs.Ytiipneclghnfhaa
open Go.RowKit Go.Sx Go.Lp
theorem s60 (xs:List Y):(xs.take 60).length≤60:=by rw[List.length_take];exact Nat.min_le_left _ _
theorem k60 {xs:List Y} (h:xs.length≤60):xs.length≤KS:=Nat.le_trans h (by unfold KS;decide)
theorem sum_is {a b:List Y} (h:(sumF (a,b)).2=0):bothY (a,b)=0∧sumF (a,b)=ofY (a++b):=by
 unfold sumF at h ⊢
 cases h1:(bothY (a,b) != (0:Int)) with
 | true=>
  rw[h1] at h
  have h:bothY (a,b)=0:=h
  rw[h] at h1;cases h1
 | false=>exact ⟨bne0 h1,rfl⟩
theorem sum_len (a b:List Y):(sumF (a,b)).1.length≤a.length+b.length:=by
 unfold sumF
 cases (bothY (a,b) != (0:Int)) with
 | true=>exact Nat.zero_le _
 | false=>exact Nat.le_trans (of_len _) (by rw[List.length_append];exact Nat.le_refl _)
end Go.Proofs.Ytiipneclghnfhaa

namespace Go.Proofs.Ytiipneclghnfhaa
open Go.RowKit Go.Sx Go.Lp
theorem bad_iff (xs:List T):badC xs=0↔(∀ x∈xs,x.Ok)∧∀ x∈xs,∀ y∈xs,x.d=y.d:=by
 unfold badC
 have h1:(xs.any fun v=>tcheck_F v != 0)=false↔∀ x∈xs,x.Ok:=by
  rw[List.any_eq_false]
  constructor
  ·intro h x hx
   have:=h x hx
   exact (tcheck_iff x).1 (by simpa using this)
  ·intro h x hx
   simpa using (tcheck_iff x).2 (h x hx)
 have h2:xs.any (difD xs)=false↔∀ x∈xs,∀ y∈xs,x.d=y.d:=by
  rw[List.any_eq_false]
  cases xs with
  | nil=>simp
  | cons z r=>
   have hd:∀ x,difD (z :: r) x=(x.d != z.d):=fun x=>rfl
   constructor
   ·intro h x hx y hy
    have k1:=h x hx
    have k2:=h y hy
    rw[hd] at k1 k2
    have k1:x.d=z.d:=by simpa using k1
    have k2:y.d=z.d:=by simpa using k2
    rw[k1,k2]
   ·intro h x hx
    rw[hd,h x hx z (List.mem_cons_self ..)]
    simp
 rw[← h1,← h2]
 cases (xs.any fun v=>tcheck_F v != 0) <;> cases xs.any (difD xs) <;> simp
theorem bad_rfl {xs:List T} (h:badC xs=0):Rfl tleq_F xs:=fun x hx=>tleq_refl (((bad_iff xs).1 h).1 x hx)
theorem of_iff (xs:List T):(ofC xs).2=0↔badC xs=0∧(minsT xs).length≤1024:=by
 unfold ofC
 by_cases hb:badC xs=0
 ·simp only[hb,bne_self_eq_false,cond_false,true_and]
  by_cases h:((minsT xs).length:Int) > 1024
  ·have:¬ (minsT xs).length≤1024:=by omega
   simp[h,this]
  ·have:(minsT xs).length≤1024:=by omega
   simp[h,this]
 ·have:(badC xs != 0)=true:=by simpa using hb
  simp[this,hb]
theorem of_eq {xs:List T} (h:(ofC xs).2=0):(ofC xs).1=minsT xs:=by
 obtain ⟨h1,h2⟩:=(of_iff xs).1 h
 unfold ofC
 have h3:¬ ((minsT xs).length:Int) > 1024:=by omega
 simp[h1,h3]
theorem minsT_sub {xs:List T} {x:T} (h:x∈minsT xs):x∈xs:=mins_sub toT h
theorem cov_minsT (xs:List T) (t:T):(minsT xs).any (tleq_F · t)=xs.any (tleq_F · t):=mins_cover toT poT
end Go.Proofs.Ytiipneclghnfhaa

namespace Go.Proofs.Ytiipneclghnfhaa
open Go.RowKit Go.Sx
set_option maxRecDepth 100000
set_option linter.unusedVariables false
abbrev lf_G:Type:=List Y×Int×Int×Unit×Bool×List T×LoopState×Option Code
noncomputable def lf_LP:LP 4 lf_G:=.pair (.slot 4 5 dLY) (.pair (.slot 4 6 dI) (.pair (.slot 4 7 dI) (.pair (.fix 4 0 (.yl 3)) (.pair (.obj 4 0 4 eBool) (.pair (.obj 4 1 22 (eList eT)) (.rf 4 3 Try.prog 12 0 72 [(4,.p 0 0),(5,.p 1 0)] 2))))))
noncomputable def lf_R (xs:List Y) (n:Int) (i:Int) (_u:Unit) (z:Bool) (fs:List T):Ex×lf_G:=
 bif decide (i<n) then bif !(eT.ag fs).any fun x=>tleq_F x (xs.getD i.toNat eY.dflt).t then (Ex.ret,eY.ag xs,n,i,(),false,eT.ag fs,LoopState.done,some Code.ret) else (Ex.normal,eY.ag xs,n,IntKind.i64.wrap (i+(1:Int)),(),z,eT.ag fs,LoopState.ready,none)
 else (Ex.exit (0:Nat),eY.ag xs,n,i,(),z,eT.ag fs,LoopState.ready,none)
def lf_side (xs:List Y) (n:Int) (i:Int) (_u:Unit) (z:Bool) (fs:List T):Prop:=
 (decide (i<n)=true→((0:Int)≤i∧i<(↑xs.length:Int))∧eT.okL fs∧((!(eT.ag fs).any fun x=>tleq_F x (xs.getD i.toNat eY.dflt).t)=true→eY.okL xs∧eT.okL fs∧CodeIs (rangeOf Try.prog (12:Nat) (0:Nat)).snd.fst (rangeOf Try.prog (12:Nat) (0:Nat)).snd.fst∧CodeIs (rangeOf Try.prog (12:Nat) (0:Nat)).snd.snd (rangeOf Try.prog (12:Nat) (0:Nat)).snd.snd)∧((!(eT.ag fs).any fun x=>tleq_F x (xs.getD i.toNat eY.dflt).t)=false→eY.okL xs∧eT.okL fs∧CodeIs (rangeOf Try.prog (12:Nat) (0:Nat)).snd.fst (rangeOf Try.prog (12:Nat) (0:Nat)).snd.fst∧CodeIs (rangeOf Try.prog (12:Nat) (0:Nat)).snd.snd (rangeOf Try.prog (12:Nat) (0:Nat)).snd.snd))∧(decide (i<n)=false→eY.okL xs∧eT.okL fs∧CodeIs (rangeOf Try.prog (12:Nat) (0:Nat)).snd.fst (rangeOf Try.prog (12:Nat) (0:Nat)).snd.fst∧CodeIs (rangeOf Try.prog (12:Nat) (0:Nat)).snd.snd (rangeOf Try.prog (12:Nat) (0:Nat)).snd.snd)
theorem lf_one:((loopsOf Try.prog 98).filter fun c=>Nat.beq (lkey c) 1).length=1:=by kernel_rfl
abbrev lf_GC:Type:=List Y×Int×List T
abbrev lf_GB:Type:=Unit×Bool×LoopState×Option Code
def lf_f (g:lf_G):Int×lf_GC×lf_GB:=(g.2.2.1,(g.1,g.2.1,g.2.2.2.2.2.1),(g.2.2.2.1,g.2.2.2.2.1,g.2.2.2.2.2.2))
def lf_g (d:Int×lf_GC×lf_GB):lf_G:=(d.2.1.1,d.2.1.2.1,d.1,d.2.2.1,d.2.2.2.1,d.2.1.2.2,d.2.2.2.2)
def lf_E:List ((Ex×lf_G→Bool)×Ex×(lf_G→lf_G)):=[(fun x=>exB (.ret) x.1,.ret,fun g=>(g.1,g.2.1,g.2.2.1,g.2.2.2.1,g.2.2.2.2.1,g.2.2.2.2.2.1,(.done,some .ret))),(fun x=>exB (.exit 0) x.1,.exit 0,fun g=>(g.1,g.2.1,g.2.2.1,g.2.2.2.1,g.2.2.2.2.1,g.2.2.2.2.2.1,(.ready,none)))]
theorem lf_es (g:lf_G):(lf_R g.1 g.2.1 g.2.2.1 g.2.2.2.1 g.2.2.2.2.1 g.2.2.2.2.2.1).1=.normal∨exitsOk (lf_R g.1 g.2.1 g.2.2.1 g.2.2.2.1 g.2.2.2.2.1 g.2.2.2.2.2.1) lf_E:=by
 unfold lf_R
 repeat' (first | (left;rfl) | (right;exact ⟨fun _=>⟨rfl,rfl⟩,fun h=>absurd h (by simp[exB,pdB])⟩) | (right;exact ⟨fun h=>absurd h (by simp[exB,pdB]),fun _=>⟨rfl,rfl⟩⟩) | (rw[Bool.cond_eq_ite];split))
noncomputable abbrev lf_C (Inv:lf_G→List Prop) (m:lf_G→Nat):LCon:=loopRS lf_E (loopBody Try.prog 98 1) lf_LP [] 19 Inv (fun g=>lf_R g.1 g.2.1 g.2.2.1 g.2.2.2.1 g.2.2.2.2.1 g.2.2.2.2.2.1) m
noncomputable def lf_i (g:lf_G):lf_G:=(g.1,g.2.1,g.2.2.1,g.2.2.2.1,g.2.2.2.2.1,g.2.2.2.2.2.1,(LoopState.ready,none))
theorem lf_loop (Inv:lf_G→List Prop) (m:lf_G→Nat) (hs:∀ g,allP (Inv g)→lf_side g.1 g.2.1 g.2.2.1 g.2.2.2.1 g.2.2.2.2.1 g.2.2.2.2.2.1) (hι:∀ g,allP (Inv g)→lf_i g=g) (hg:Goes (fun g:lf_G=>lf_R g.1 g.2.1 g.2.2.1 g.2.2.2.1 g.2.2.2.2.1 g.2.2.2.2.2.1) m fun g=>allP (Inv g)):∀ b∈loopsOf Try.prog 98,lkey b=1→LoopOk Try.prog b (lf_C Inv m).g:=loop_runS lf_i (Γ:=(MTab.gamz tabU31 [] [])) (Λ:=lamU18) (MTab.okz tabU31 [] []) lamU18_ok 100 98 1 19 lf_LP [] Inv (fun g=>lf_R g.1 g.2.1 g.2.2.1 g.2.2.2.1 g.2.2.2.2.1 g.2.2.2.2.2.1) (fun g=>lf_side g.1 g.2.1 g.2.2.1 g.2.2.2.1 g.2.2.2.2.1 g.2.2.2.2.2.1) m default lf_E lf_one (fun rd T B HL HB ds g=>by kernel_rfl) (fun rd T B HL HB ds g=>by kernel_rfl) hι hs hg lf_es
end Go.Proofs.Ytiipneclghnfhaa

namespace Go.Proofs.Ytiipneclghnfhaa
open Go.RowKit Go.Sx
set_option maxRecDepth 100000
set_option linter.unusedVariables false
end Go.Proofs.Ytiipneclghnfhaa

namespace Go.Proofs.Ytiipneclghnfhaa
open Go.RowKit Go.Sx Go.Lp
end Go.Proofs.Ytiipneclghnfhaa
