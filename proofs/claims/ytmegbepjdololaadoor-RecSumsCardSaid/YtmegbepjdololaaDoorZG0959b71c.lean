/- Chapter 5: beginnings of texts, the law's runes: contracts of loops. -/
import Derived.Test.YtmegbepjdololaaDoorZG08af0343
import Derived.Test.YtmegbepjdololaaDoorZG064a11a0
set_option linter.unusedVariables false
set_option linter.unusedSimpArgs false
set_option linter.constructorNameAsVariable false
set_option linter.all false

namespace Go.Proofs.YtmegbepjdololaaDoor
open Go.RowKit Go.Sx Go.Lp
structure CutC where
 t:BA
 s:BA
 n:Int
abbrev CutB:=BA×Int×LoopState×Option Code
def lct_mk (p:Nat) (c:CutC) (b:CutB):lct_G:=((),(),(c.t,p),c.s,c.n,b.1,b.2.1,b.2.2.1,b.2.2.2)
def lct_st (c:CutC) (b:CutB) (p:Nat) (_:Nat×Nat):Ex×CutB:=bif decide ((p:Int) > c.n) then (.ret,c.s.extract 0 b.2.1.toNat,b.2.1,.done,some .ret) else (.normal,b.1,(p:Int),.ready,none)
def lct_P (c:CutC) (b:CutB) (p:Nat):Prop:=b.2.2=(LoopState.ready,(none:Option Code))∧0≤b.2.1∧b.2.1≤p∧c.t=c.s
noncomputable abbrev lct_I (g:lct_G):List Prop:=txI (fun c:CutC=>c.t) lct_P lct_mk g
noncomputable abbrev lct_M (g:lct_G):Nat:=g.2.2.1.1.size - g.2.2.1.2
theorem lct_K:txK (fun c:CutC=>c.t) lct_st lct_P:=fun c b p h _ hn=>by
 have:=Lib.width_pos c.t p
 obtain ⟨h1,h2,h3,h4⟩:=h
 unfold lct_st at hn ⊢
 cases hc:decide ((p:Int) > c.n) with
 | true=>rw[hc] at hn;cases hn
 | false=>exact ⟨rfl,by simp only[cond_false];omega,by simp only[cond_false];push_cast;omega,h4⟩
theorem lct_F (p:Nat) (c:CutC) (b:CutB) (h:lct_P c b p):lct_R () () (c.t,p) c.s c.n b.1 b.2.1=txR 0 (fun c:CutC=>c.t) lct_st true lct_mk p c b:=by
 obtain ⟨r,z,f⟩:=b
 have h1:f=(LoopState.ready,(none:Option Code)):=h.1
 subst h1
 unfold lct_R txR lct_st lct_mk
 by_cases h:p<c.t.size
 ·rw[decide_eq_true h,if_pos h,cond_true]
  cases decide ((p:Int) > c.n) <;> rfl
 ·rw[decide_eq_false h,if_neg h,cond_false]
theorem lct_ok:∀ b∈loopsOf Tryd.prog 113,lkey b=1→LoopOk Tryd.prog b (lct_C lct_I lct_M).g:=
 lct_loop lct_I lct_M (fun g hi=>by
  obtain ⟨p,c,b,rfl,h1,h2,h3,h4,h5⟩:=hi _ (List.mem_cons_self ..)
  show lct_side () () (c.t,p) c.s c.n b.1 b.2.1
  unfold lct_side
  have h1:p≤c.t.size:=h1
  rw[h5] at h1
  exact ⟨fun _=>⟨fun _=>⟨⟨h3,by omega⟩,rfl,rfl⟩,fun _=>⟨rfl,rfl⟩⟩,fun _=>⟨rfl,rfl⟩⟩) (fun g hi=>by
  obtain ⟨p,c,b,rfl,h1,h2,h3,h4⟩:=hi _ (List.mem_cons_self ..)
  obtain ⟨r,z,f⟩:=b
  have h2:f=(LoopState.ready,(none:Option Code)):=h2
  subst h2
  rfl) (tx_goes (fun p s r=>by simp[lct_M,lct_mk]) (fun p c b h1 h2=>lct_F p c b h2) lct_K)
def cutP (n:Int):Nat→List (Nat×Nat)→Int→Bool×Int
 | _,[],z=>(false,z)
 | p,d :: l,z=>bif decide ((p:Int) > n) then (true,z) else cutP n (p+d.2) l p
theorem lct_scan1 (c:CutC):∀ (l:List (Nat×Nat)) (p:Nat) (r:BA) (z:Int),
  ((scanT 0 true (lct_st c) p l (r,z,.ready,none)).1,(scanT 0 true (lct_st c) p l (r,z,.ready,none)).2.2) =
    bif (cutP c.n p l z).1 then (.ret,c.s.extract 0 (cutP c.n p l z).2.toNat,(cutP c.n p l z).2,.done,some .ret) else (.exit 0,r,(cutP c.n p l z).2,.ready,none)
 | [],p,r,z=>by simp[scanT,cutP]
 | d :: l,p,r,z=>by
  simp only[scanT,lct_st,cutP]
  cases hc:decide ((p:Int) > c.n) with
  | true=>rfl
  | false=>
   simp only[cond_false]
   exact lct_scan1 c l (p+d.2) r p
theorem cutP_cut (n:Int):∀ (l:List (Nat×Nat)) (p:Nat) (z:Int),(∀ d∈l,1≤d.2)→(p:Int)≤n →
  (bif (cutP n p l z).1 then (cutP n p l z).2 else if ((p+wsum l:Nat):Int)≤n then ((p+wsum l:Nat):Int) else (cutP n p l z).2)=if l=[] then ((p:Nat):Int) else ((p+cutW l (n - p):Nat):Int)
 | [],p,z,_,hp=>by simp[cutP,wsum,hp]
 | (c,w) :: l,p,z,hw,hp=>by
  have hw1:=hw (c,w) (List.mem_cons_self ..)
  have hl:∀ d∈l,1≤d.2:=fun d hd=>hw d (List.mem_cons_of_mem _ hd)
  simp only[cutP]
  rw[decide_eq_false (by omega),cond_false,if_neg (show ¬ ((c,w) :: l=[]) by simp)]
  have hs:p+wsum ((c,w) :: l)=(p+w)+wsum l:=by simp only[wsum,List.map_cons,List.sum_cons];omega
  rw[hs]
  simp only[cutW]
  by_cases h:(w:Int)≤n - p
  ·have ih:=cutP_cut n l (p+w) p hl (by push_cast;omega)
   rw[ih,if_pos h]
   by_cases he:l=[]
   ·subst he;simp[cutW]
   ·rw[if_neg he]
    rw[show n - ((p+w:Nat):Int)=n - p - w by push_cast;omega]
    congr 1
    omega
  ·rw[if_neg h]
   cases l with
   | nil=>
    simp only[cutP,cond_false,wsum,List.map_nil,List.sum_nil,Nat.add_zero]
    rw[if_neg (by push_cast;omega)]
   | cons d l=>
    simp only[cutP]
    rw[decide_eq_true (by push_cast;omega),cond_true]
    simp
def cutS (s:BA) (n:Int):BA:=s.extract 0 (cutW (rsL (toL s)) n)
theorem rsL_pos:∀ l:List UInt8,∀ d∈rsL l,1≤d.2:=rsL_ind (by simp[rsL_nil]) fun l hne ih d hd=>by
 rw[rsL_step l hne] at hd
 rcases List.mem_cons.1 hd with rfl | hd
 ·exact Lib.decodeL_width l
 ·exact ih d hd
theorem cutW_neg:∀ (l:List (Nat×Nat)) (n:Int),n<0→cutW l n=0
 | [],_,_=>rfl
 | (c,w) :: l,n,h=>by simp only[cutW];rw[if_neg (by omega)]
theorem extract_all (s:BA):s.extract 0 s.size=s:=ByteArray.extract_zero_size
theorem cut_fin (s:BA) (n:Int):(bif (cutP n 0 (rsL (toL s)) 0).1 then s.extract 0 (cutP n 0 (rsL (toL s)) 0).2.toNat else bif decide ((s.size:Int)≤n) then s else s.extract 0 (cutP n 0 (rsL (toL s)) 0).2.toNat)=cutS s n:=by
 unfold cutS
 by_cases h0:(0:Int)≤n
 ·have h:=cutP_cut n (rsL (toL s)) 0 0 (rsL_pos _) (by simpa using h0)
  have hz:wsum (rsL (toL s))=s.size:=by rw[wsum_rsL,toL_len]
  simp only[Nat.zero_add,hz] at h
  rw[show n - ((0:Nat):Int)=n by simp] at h
  have hc:(if rsL (toL s)=[] then (0:Int) else ((cutW (rsL (toL s)) n:Nat):Int))=((cutW (rsL (toL s)) n:Nat):Int):=by
   by_cases he:rsL (toL s)=[]
   ·rw[if_pos he,he];rfl
   ·rw[if_neg he]
  have h:(bif (cutP n 0 (rsL (toL s)) 0).1 then (cutP n 0 (rsL (toL s)) 0).2 else if (s.size:Int)≤n then (s.size:Int) else (cutP n 0 (rsL (toL s)) 0).2)=((cutW (rsL (toL s)) n:Nat):Int):=h.trans hc
  cases hb:(cutP n 0 (rsL (toL s)) 0).1 with
  | true=>
   rw[hb,cond_true] at h
   rw[cond_true,h];rfl
  | false=>
   rw[hb,cond_false] at h
   rw[cond_false]
   by_cases hn:(s.size:Int)≤n
   ·rw[if_pos hn] at h
    rw[decide_eq_true hn,cond_true,← Int.natCast_inj.1 h,extract_all]
   ·rw[if_neg hn] at h
    rw[decide_eq_false hn,cond_false,h];rfl
 ·have hn:¬ ((s.size:Int)≤n):=by omega
  rw[decide_eq_false hn,cutW_neg _ _ (by omega),cond_false,Bool.cond_self]
  cases hr:rsL (toL s) with
  | nil=>rfl
  | cons d l=>simp only[cutP];rw[decide_eq_true (by omega),cond_true];rfl
theorem lct_run (s:BA) (n:Int) (r:BA):(loopF (fun g:lct_G=>lct_R g.1 g.2.1 g.2.2.1 g.2.2.2.1 g.2.2.2.2.1 g.2.2.2.2.2.1 g.2.2.2.2.2.2.1) lct_M ((),(),(s,0),s,n,r,0,.ready,none)).1=(bif (cutP n 0 (rsL (toL s)) 0).1 then .ret else .exit 0) ∧
  (loopF (fun g:lct_G=>lct_R g.1 g.2.1 g.2.2.1 g.2.2.2.1 g.2.2.2.2.1 g.2.2.2.2.2.1 g.2.2.2.2.2.2.1) lct_M ((),(),(s,0),s,n,r,0,.ready,none)).2.2.2.2=(s,n,bif (cutP n 0 (rsL (toL s)) 0).1 then (s.extract 0 (cutP n 0 (rsL (toL s)) 0).2.toNat,(cutP n 0 (rsL (toL s)) 0).2,.done,some .ret) else (r,(cutP n 0 (rsL (toL s)) 0).2,.ready,none)):=by
 have h:=tx_run (F:=fun g:lct_G=>lct_R g.1 g.2.1 g.2.2.1 g.2.2.2.1 g.2.2.2.2.1 g.2.2.2.2.2.1 g.2.2.2.2.2.2.1) (m:=lct_M) (mk:=lct_mk) (x:=0) (adv:=true) (step:=lct_st) (P:=lct_P) (tx:=fun c:CutC=>c.t) (fun p s r=>by simp[lct_M,lct_mk]) (fun p c b h1 h2=>lct_F p c b h2) lct_K s.size 0 ⟨s,s,n⟩ (r,0,.ready,none) (Nat.zero_le _) ⟨rfl,Int.le_refl _,Int.le_refl _,rfl⟩ (Nat.sub_le _ _)
 have e:lct_mk 0 ⟨s,s,n⟩ (r,0,.ready,none)=((),(),(s,0),s,n,r,0,.ready,none):=rfl
 rw[e] at h
 rw[h,List.drop_zero]
 have h2:=lct_scan1 ⟨s,s,n⟩ (rsL (toL s)) 0 r 0
 simp only[lct_mk]
 cases hb:(cutP n 0 (rsL (toL s)) 0).1 with
 | true=>rw[hb] at h2;simp only[cond_true,Prod.mk.injEq] at h2 ⊢;rw[h2.1,h2.2];simp
 | false=>rw[hb] at h2;simp only[cond_false,Prod.mk.injEq] at h2 ⊢;rw[h2.1,h2.2];simp
def lrl_mk (p:Nat) (s:BA) (b:List Rune×LoopState×Option Code):lrl_G:=((),(),(s,p),b.1,b.2.1,b.2.2)
def lrl_st (_:BA) (b:List Rune×LoopState×Option Code) (p:Nat) (d:Nat×Nat):Ex×(List Rune×LoopState×Option Code):=(.normal,b.1++[⟨(p:Int),(d.1:Int)⟩],.ready,none)
def lrl_P (s:BA) (b:List Rune×LoopState×Option Code) (p:Nat):Prop:=b.2=(LoopState.ready,(none:Option Code))∧s.size≤KB∧b.1.length≤p
noncomputable abbrev lrl_I (g:lrl_G):List Prop:=txI (fun s:BA=>s) lrl_P lrl_mk g
noncomputable abbrev lrl_M (g:lrl_G):Nat:=g.2.2.1.1.size - g.2.2.1.2
theorem lrl_K:txK (fun s:BA=>s) lrl_st lrl_P:=fun s b p h _ _=>⟨rfl,h.2.1,by
 have:=Lib.width_pos s p
 simp only[lrl_st,List.length_append,List.length_cons,List.length_nil]
 have:=h.2.2
 omega⟩
theorem lrl_F (p:Nat) (s:BA) (b:List Rune×LoopState×Option Code) (h:lrl_P s b p):lrl_R () () (s,p) b.1=txR 0 (fun s:BA=>s) lrl_st true lrl_mk p s b:=by
 obtain ⟨o,f⟩:=b
 have h1:f=(LoopState.ready,(none:Option Code)):=h.1
 subst h1
 unfold lrl_R txR lrl_st lrl_mk
 by_cases h:p<s.size
 ·rw[decide_eq_true h,if_pos h,cond_true,app1]
 ·rw[decide_eq_false h,if_neg h,cond_false,eU.ag_eq]
theorem lrl_ok:∀ b∈loopsOf Tryd.prog 113,lkey b=1→LoopOk Tryd.prog b (lrl_C lrl_I lrl_M).g:=
 lrl_loop lrl_I lrl_M (fun g hi=>by
  obtain ⟨p,s,b,rfl,h1,h2,h3,h4⟩:=hi _ (List.mem_cons_self ..)
  unfold KB at h3
  show lrl_side () () (s,p) b.1
  unfold lrl_side
  rw[bytesU]
  have h1:p≤s.size:=h1
  refine ⟨fun h=>?_,fun _=>⟨Nat.le_refl _,fun _ _=>trivial,rfl,rfl⟩⟩
  have hp:p<s.size:=of_decide_eq_true h
  unfold maxLen
  exact ⟨⟨Nat.le_refl _,trivial,by omega,by omega⟩,Nat.le_refl _,fun _ _=>trivial,fun _ _=>trivial,rfl,rfl⟩) (fun g hi=>by
  obtain ⟨p,s,b,rfl,h1,h2,h3,h4⟩:=hi _ (List.mem_cons_self ..)
  obtain ⟨o,f⟩:=b
  have h2:f=(LoopState.ready,(none:Option Code)):=h2
  subst h2
  rfl) (tx_goes (fun p s r=>by simp[lrl_M,lrl_mk]) (fun p c b h1 h2=>lrl_F p c b h2) lrl_K)
theorem lrl_scan (s:BA):∀ (l:List (Nat×Nat)) (p:Nat) (o:List Rune),((scanT 0 true (lrl_st s) p l (o,.ready,none)).1,(scanT 0 true (lrl_st s) p l (o,.ready,none)).2.2)=(.exit 0,o++(rpF p l).map (fun x=>⟨(x.1:Int),(x.2:Int)⟩),.ready,none)
 | [],p,o=>by simp[scanT,rpF]
 | d :: l,p,o=>by
  simp only[scanT,lrl_st]
  have:=lrl_scan s l (p+d.2) (o++[⟨(p:Int),(d.1:Int)⟩])
  rw[this,List.append_assoc]
  rfl
theorem lrl_run (s:BA) (hs:s.size≤KB):(loopF (fun g:lrl_G=>lrl_R g.1 g.2.1 g.2.2.1 g.2.2.2.1) lrl_M ((),(),(s,0),[],.ready,none)).1=.exit 0∧(loopF (fun g:lrl_G=>lrl_R g.1 g.2.1 g.2.2.1 g.2.2.2.1) lrl_M ((),(),(s,0),[],.ready,none)).2.2.2.2=(runes05 s,.ready,none):=by
 have h:=tx_run (F:=fun g:lrl_G=>lrl_R g.1 g.2.1 g.2.2.1 g.2.2.2.1) (m:=lrl_M) (mk:=lrl_mk) (x:=0) (adv:=true) (step:=lrl_st) (P:=lrl_P) (tx:=fun s:BA=>s) (fun p s r=>by simp[lrl_M,lrl_mk]) (fun p c b h1 h2=>lrl_F p c b h2) lrl_K s.size 0 s ([],.ready,none) (Nat.zero_le _) ⟨rfl,hs,Nat.le_refl _⟩ (Nat.sub_le _ _)
 have e:lrl_mk 0 s ([],.ready,none)=((),(),(s,0),[],.ready,none):=rfl
 rw[e] at h
 rw[h,List.drop_zero]
 have h2:=lrl_scan s (rsL (toL s)) 0 []
 simp only[Prod.mk.injEq] at h2
 simp only[lrl_mk]
 exact ⟨h2.1,h2.2⟩
def nxtR (s:BA):List Rune→Int
 | []=>(s.size:Int)
 | x :: _=>x.at'
def rcutF (s:BA) (n:Int):List Rune→Int→Int
 | [],r=>r
 | _ :: l,r=>rcutF s n l (bif decide (nxtR s l≤n) then nxtR s l else r)
noncomputable abbrev rct_I (g:rct_G):List Prop:=[0≤g.2.2.2.2∧g.2.2.2.2≤g.2.2.1.length∧g.2.2.1.length≤KB]
noncomputable abbrev rct_M (g:rct_G):Nat:=g.2.2.1.length - g.2.2.2.2.toNat
theorem rct_F (s:BA) (n:Int) (xs:List Rune) (r:Int) (i:Nat) (hi:i≤xs.length) (hN:xs.length≤KB):rct_R s n xs r (i:Int)=if i<xs.length then (.normal,s,n,xs,(bif decide (nxtR s (xs.drop (i+1))≤n) then nxtR s (xs.drop (i+1)) else r),((i+1:Nat):Int)) else (.exit 0,s,n,xs,r,(i:Int)):=by
 unfold KB at hN
 unfold rct_R
 by_cases h:i<xs.length
 ·rw[decide_eq_true (by omega),if_pos h,cond_true,wrS (x:=(i:Int)+1) (by omega),eU.ag_eq,show ((i:Int)+1).toNat=i+1 by omega]
  have e:(bif decide ((i:Int)+1<(xs.length:Int)) then (xs.getD (i+1) eU.dflt).at' else (s.size:Int))=nxtR s (xs.drop (i+1)):=by
   by_cases h1:i+1<xs.length
   ·rw[decide_eq_true (by omega),cond_true,List.drop_eq_getElem_cons h1,List.getD_eq_getElem?_getD,List.getElem?_eq_getElem h1];rfl
   ·rw[decide_eq_false (by omega),cond_false,List.drop_eq_nil_of_le (by omega)];rfl
  rw[e]
  rfl
 ·rw[decide_eq_false (by omega),if_neg h,cond_false,eU.ag_eq]
theorem rct_goes:Goes (fun g:rct_G=>rct_R g.1 g.2.1 g.2.2.1 g.2.2.2.1 g.2.2.2.2) rct_M fun g=>allP (rct_I g):=by
 rintro ⟨s,n,xs,r,i⟩ hi hn
 obtain ⟨h1,h2,h3⟩:=hi _ (List.mem_cons_self ..)
 simp only at h1 h2 h3
 obtain ⟨k,rfl⟩:∃ k:Nat,i=k:=⟨i.toNat,by omega⟩
 have e:=rct_F s n xs r k (by omega) h3
 change (rct_R s n xs r (k:Int)).1=.normal at hn
 change allP (rct_I (rct_R s n xs r (k:Int)).2)∧rct_M (rct_R s n xs r (k:Int)).2<_
 rw[e] at hn ⊢
 by_cases h:k<xs.length
 ·rw[if_pos h] at hn ⊢
  refine ⟨fun q hq=>?_,?_⟩
  ·simp only[List.mem_singleton] at hq
   subst hq
   exact ⟨by first | omega | (simp only;omega),by first | omega | (simp only;omega),h3⟩
  ·simp only[rct_M];omega
 ·rw[if_neg h] at hn;cases hn
theorem rct_ok:∀ b∈loopsOf Tryd.prog 21,lkey b=4→LoopOk Tryd.prog b (rct_C rct_I rct_M).g:=
 rct_loop rct_I rct_M (fun g hi=>by
  obtain ⟨s,n,xs,r,i⟩:=g
  obtain ⟨h1,h2,h3⟩:=hi _ (List.mem_cons_self ..)
  simp only at h1 h2 h3
  unfold KB at h3
  show rct_side s n xs r i
  unfold rct_side
  simp only[El.okL_eq,decide_eq_true_eq,and_true,implies_true]
  intro h
  rw[wrS (x:=i+1) (by omega)]
  intro h'
  omega) rct_goes
theorem rct_run (s:BA) (n:Int) (xs:List Rune) (hN:xs.length≤KB):∀ (m i:Nat) (r:Int),i≤xs.length→xs.length - i≤m→loopF (fun g:rct_G=>rct_R g.1 g.2.1 g.2.2.1 g.2.2.2.1 g.2.2.2.2) rct_M (s,n,xs,r,(i:Int))=(.exit 0,s,n,xs,rcutF s n (xs.drop i) r,(xs.length:Int)):=by
 have hI:∀ r (i:Nat),i≤xs.length→allP (rct_I (s,n,xs,r,(i:Int))):=fun r i h1 q hq=>by
  simp only[List.mem_singleton] at hq
  subst hq
  exact ⟨by first | omega | (simp only;omega),by first | omega | (simp only;omega),hN⟩
 intro m
 induction m with
 | zero=>
  intro i r h1 h3
  have e:=rct_F s n xs r i h1 hN
  rw[if_neg (by omega)] at e
  have hiN:i=xs.length:=by omega
  rw[loopF_end (by show (rct_R s n xs r (i:Int)).1≠_;rw[e];simp)]
  show rct_R s n xs r (i:Int)=_
  rw[e,List.drop_eq_nil_of_le (by omega),hiN];rfl
 | succ m ih=>
  intro i r h1 h3
  have e:=rct_F s n xs r i h1 hN
  by_cases h:i<xs.length
  ·rw[if_pos h] at e
   rw[loopF_next rct_goes (hI r i h1) (show rct_R s n xs r (i:Int)=_ from e),ih (i+1) _ h (by omega),List.drop_eq_getElem_cons h]
   rfl
  ·rw[if_neg h] at e
   have hiN:i=xs.length:=by omega
   rw[loopF_end (by show (rct_R s n xs r (i:Int)).1≠_;rw[e];simp)]
   show rct_R s n xs r (i:Int)=_
   rw[e,List.drop_eq_nil_of_le (by omega),hiN];rfl
theorem rcut_stay (s:BA) (n:Int):∀ (l:List (Nat×Nat)) (p:Nat) (r:Int),(p:Int)+wsum l=s.size→n<p→(∀ d∈l,1≤d.2)→rcutF s n ((rpF p l).map fun x=>⟨(x.1:Int),(x.2:Int)⟩) r=r
 | [],_,_,_,_,_=>rfl
 | (c,w) :: l,p,r,hs,hn,hw=>by
  have hw1:=hw (c,w) (List.mem_cons_self ..)
  have hs':(p:Int)+w+wsum l=s.size:=by simp only[wsum,List.map_cons,List.sum_cons] at hs ⊢;push_cast at hs ⊢;omega
  have e:nxtR s ((rpF (p+w) l).map fun x=>⟨(x.1:Int),(x.2:Int)⟩)=((p+w:Nat):Int):=by
   cases l with
   | nil=>simp only[rpF,List.map_nil,nxtR,wsum,List.sum_nil] at hs' ⊢;push_cast;omega
   | cons d l=>rfl
  simp only[rpF,List.map_cons,rcutF]
  rw[e,decide_eq_false (by push_cast;omega),cond_false]
  exact rcut_stay s n l (p+w) r (by push_cast;omega) (by push_cast;omega) fun d hd=>hw d (List.mem_cons_of_mem _ hd)
theorem rcut_law (s:BA) (n:Int):∀ (l:List (Nat×Nat)) (p:Nat),(p:Int)+wsum l=s.size→(∀ d∈l,1≤d.2)→rcutF s n ((rpF p l).map fun x=>⟨(x.1:Int),(x.2:Int)⟩) p=((p+cutW l (n - p):Nat):Int)
 | [],_,_,_=>by simp[rpF,rcutF,cutW]
 | (c,w) :: l,p,hs,hw=>by
  have hw1:=hw (c,w) (List.mem_cons_self ..)
  have hl:∀ d∈l,1≤d.2:=fun d hd=>hw d (List.mem_cons_of_mem _ hd)
  have hs':(p:Int)+w+wsum l=s.size:=by simp only[wsum,List.map_cons,List.sum_cons] at hs ⊢;push_cast at hs ⊢;omega
  have e:nxtR s ((rpF (p+w) l).map fun x=>⟨(x.1:Int),(x.2:Int)⟩)=((p+w:Nat):Int):=by
   cases l with
   | nil=>simp only[rpF,List.map_nil,nxtR,wsum,List.sum_nil] at hs' ⊢;push_cast;omega
   | cons d l=>rfl
  simp only[rpF,List.map_cons,rcutF,cutW]
  rw[e]
  by_cases h:(w:Int)≤n - p
  ·rw[decide_eq_true (by push_cast;omega),cond_true,if_pos h,rcut_law s n l (p+w) (by push_cast;omega) hl,show n - ((p+w:Nat):Int)=n - p - w by push_cast;omega]
   congr 1
   omega
  ·rw[decide_eq_false (by push_cast;omega),cond_false,if_neg h,rcut_stay s n l (p+w) p (by push_cast;omega) (by push_cast;omega) hl]
   simp
noncomputable def ltB9:LTab Tryd.prog:=(LTab.cons (LTab.cons ltB7 113 1 (lct_C lct_I lct_M) lct_ok) 21 4 (rct_C rct_I rct_M) rct_ok)
noncomputable abbrev lamB9:Lam:=ltB9.lam
theorem lamB9_ok:∀ f k L,lamB9 f k=some L→∀ b∈loopsOf Tryd.prog f,lkey b=k→LoopOk Tryd.prog b L.g:=ltB9.ok
end Go.Proofs.YtmegbepjdololaaDoor

namespace Go.Proofs.YtmegbepjdololaaDoor
open Go.RowKit Go.Sx
set_option maxRecDepth 100000
set_option linter.unusedVariables false
abbrev aB3:DA (BA×Int):=.cons dStr (.one d3)
noncomputable def sgl_q1 (s:BA):Ex×sg_G:=
 loopF (fun g=>sg_R g.fst g.snd.fst g.snd.snd) sg_M ((),(s,(0:Nat)),(0:Int))
noncomputable def sgl_F (s:BA):Dv.T dBool:=
 (sgl_q1 s).snd.snd.snd==(1:Int)&&Lib.validD s.data.toList
def sgl_side (s:BA):Prop:=
 (∃ p c b,((),(s,(0:Nat)),(0:Int))=sg_mk p c b∧p≤ByteArray.size c∧sg_P c b p)∧(((sgl_q1 s).snd.snd.snd==(1:Int))=true→ByteArray.size s≤KB)
theorem sgl_okS (pre:DA.T aB→List Prop) (h:∀ g,DA.bd aB g→(∀ p∈pre g,p)→sgl_side g):FnPure Tryd.prog 124 aB dBool (fun g=>sgl_F g) pre:=pure_of_sideS (Γ:=(PTab.gamz tabB7 [] [])) (Λ:=lamB9) (PTab.okz tabB7 [] []) lamB9_ok 100 default (fun g=>sgl_side g) (fun g=>by kernel_rfl) (fun g=>by kernel_rfl) h
noncomputable def upp_q1 (s:BA):Ex ×
 up_G:=
 loopF (fun g=>up_R g.fst g.snd.fst g.snd.snd.fst g.snd.snd.snd.fst g.snd.snd.snd.snd) up_M (ByteArray.size s,ByteArray.size s,e8.lst (ByteArray.size s) (byteEl s),(↑(ByteArray.size s):Int),(0:Int))
noncomputable def upp_F (s:BA):Dv.T dStr:=
 strOf (intsOf IntKind.u8 (upp_q1 s).snd.fst (e8.els (upp_q1 s).snd.snd.snd.fst))
def upp_side (s:BA):Prop:=
 ByteArray.size s≤maxLen∧(∀ (e:Nat),e<ByteArray.size s→True)∧(∃ N xs i,(ByteArray.size s,ByteArray.size s,e8.lst (ByteArray.size s) (byteEl s),(↑(ByteArray.size s):Int),(0:Int))=up_mk N xs i∧xs.length=N∧i≤N∧N≤KB)∧((upp_q1 s).snd.fst≤(upp_q1 s).snd.snd.snd.fst.length∧∀ (e:Nat),e<(upp_q1 s).snd.fst→((ElE.fn (e8.els (upp_q1 s).snd.snd.snd.fst)).at e).all SV.one=true)∧∀ (e:Nat),e<(upp_q1 s).snd.fst→(Sx.intOf IntKind.u8 ((ElE.fn (e8.els (upp_q1 s).snd.snd.snd.fst)).at e)).isSome=true
theorem upp_okS (pre:DA.T aB→List Prop) (h:∀ g,DA.bd aB g→(∀ p∈pre g,p)→upp_side g):FnPure Tryd.prog 94 aB dStr (fun g=>upp_F g) pre:=pure_of_sideS (Γ:=(PTab.gamz tabB7 [] [])) (Λ:=lamB9) (PTab.okz tabB7 [] []) lamB9_ok 100 default (fun g=>upp_side g) (fun g=>by kernel_rfl) (fun g=>by kernel_rfl) h
noncomputable def rup_q1 (s:BA):Ex ×
 ru_G:=
 loopF (fun g=>ru_R g.fst g.snd.fst g.snd.snd) ru_M (ByteArray.size s,e8.lst (ByteArray.size s) (byteEl s),(0:Int))
noncomputable def rup_F (s:BA):Dv.T dStr:=
 strOf (intsOf IntKind.u8 (rup_q1 s).snd.fst (e8.els (rup_q1 s).snd.snd.fst))
def rup_side (s:BA):Prop:=
 ByteArray.size s≤maxLen∧(∀ (e:Nat),e<ByteArray.size s→True)∧(∃ N xs i,(ByteArray.size s,e8.lst (ByteArray.size s) (byteEl s),(0:Int))=ru_mk N xs i∧xs.length=N∧i≤N∧N≤KB)∧((rup_q1 s).snd.fst≤(rup_q1 s).snd.snd.fst.length∧∀ (e:Nat),e<(rup_q1 s).snd.fst→((ElE.fn (e8.els (rup_q1 s).snd.snd.fst)).at e).all SV.one=true)∧∀ (e:Nat),e<(rup_q1 s).snd.fst→(Sx.intOf IntKind.u8 ((ElE.fn (e8.els (rup_q1 s).snd.snd.fst)).at e)).isSome=true
theorem rup_okS (pre:DA.T aB→List Prop) (h:∀ g,DA.bd aB g→(∀ p∈pre g,p)→rup_side g):FnPure Tryd.prog 109 aB dStr (fun g=>rup_F g) pre:=pure_of_sideS (Γ:=(PTab.gamz tabB7 [] [])) (Λ:=lamB9) (PTab.okz tabB7 [] []) lamB9_ok 100 default (fun g=>rup_side g) (fun g=>by kernel_rfl) (fun g=>by kernel_rfl) h
noncomputable def wds_q1 (s:BA) (c:Int):Ex ×
 wd_G:=
 loopF (fun g=>wd_R g.fst g.snd.fst g.snd.snd.fst g.snd.snd.snd.fst g.snd.snd.snd.snd) wd_M ((),(s,(0:Nat)),c,[],[])
noncomputable def wds_F (s:BA) (c:Int):Rv.T (.list eStr):=
 eStr.lst (min ((wds_q1 s c).snd.snd.snd.snd.fst.length+(1:Nat)) (wds_q1 s c).snd.snd.snd.snd.fst.length) (eStr.els (wds_q1 s c).snd.snd.snd.snd.fst)++List.map (fun x=>runesBytes (intsOf IntKind.i32 (wds_q1 s c).snd.snd.snd.snd.snd.length (e3.els (wds_q1 s c).snd.snd.snd.snd.snd))) (List.range ((wds_q1 s c).snd.snd.snd.snd.fst.length+(1:Nat) - (wds_q1 s c).snd.snd.snd.snd.fst.length))
def wds_side (s:BA) (c:Int):Prop:=
 (∃ p c_1 b,((),(s,(0:Nat)),c,[],[])=wd_mk p c_1 b∧p≤ByteArray.size c_1.fst∧wd_P c_1 b p)∧((wds_q1 s c).snd.snd.snd.snd.snd.length≤(wds_q1 s c).snd.snd.snd.snd.snd.length∧∀ (e:Nat),e<(wds_q1 s c).snd.snd.snd.snd.snd.length→((ElE.fn (e3.els (wds_q1 s c).snd.snd.snd.snd.snd)).at e).all SV.one=true)∧(∀ (e:Nat),e<(wds_q1 s c).snd.snd.snd.snd.snd.length→(Sx.intOf IntKind.i32 ((ElE.fn (e3.els (wds_q1 s c).snd.snd.snd.snd.snd)).at e)).isSome=true)∧((wds_q1 s c).snd.snd.snd.snd.fst.length≤(wds_q1 s c).snd.snd.snd.snd.fst.length∧True∧(wds_q1 s c).snd.snd.snd.snd.fst.length+(1:Nat)≤maxLen∧((wds_q1 s c).snd.snd.snd.snd.fst.length+(1:Nat)) * Tryd.prog.types[(9:Nat)].bytes≤(140737488355328:Nat))∧(wds_q1 s c).snd.snd.snd.snd.fst.length+(1:Nat)≤(wds_q1 s c).snd.snd.snd.snd.fst.length+(1:Nat)∧(∀ (e:Nat),e<min ((wds_q1 s c).snd.snd.snd.snd.fst.length+(1:Nat)) (wds_q1 s c).snd.snd.snd.snd.fst.length→True)∧∀ (e:Nat),e<(wds_q1 s c).snd.snd.snd.snd.fst.length+(1:Nat) - (wds_q1 s c).snd.snd.snd.snd.fst.length→True
theorem wds_okS (pre:DA.T aB3→List Prop) (h:∀ g,DA.bd aB3 g→(∀ p∈pre g,p)→wds_side g.1 g.2):FnPure Tryd.prog 104 aB3 (Rv.D (.list eStr)) (fun g=>wds_F g.1 g.2) pre:=res_of_side (R:=(.list eStr)) (Γ:=(PTab.gamz tabB7 [] [])) (Λ:=lamB9) (PTab.okz tabB7 [] []) lamB9_ok 100 default (fun g=>wds_side g.1 g.2) (fun g=>by kernel_rfl) (fun g=>by kernel_rfl) h
noncomputable def cut_q1 (s:BA) (n:Int):Ex ×
 lct_G:=
 loopF (fun g=>lct_R g.fst g.snd.fst g.snd.snd.fst g.snd.snd.snd.fst g.snd.snd.snd.snd.fst g.snd.snd.snd.snd.snd.fst g.snd.snd.snd.snd.snd.snd.fst) lct_M ((),(),(s,(0:Nat)),s,n,ByteArray.mk #[],(0:Int),LoopState.ready,none)
noncomputable def cut_F (s:BA) (n:Int):Dv.T dStr:=
 bif exB Ex.ret (cut_q1 s n).fst then (cut_q1 s n).snd.snd.snd.snd.snd.snd.fst
 else bif decide ((↑(ByteArray.size (cut_q1 s n).snd.snd.snd.snd.fst):Int)≤(cut_q1 s n).snd.snd.snd.snd.snd.fst) then (cut_q1 s n).snd.snd.snd.snd.fst else ByteArray.extract (cut_q1 s n).snd.snd.snd.snd.fst (0:Nat) (cut_q1 s n).snd.snd.snd.snd.snd.snd.snd.fst.toNat
def cut_side (s:BA) (n:Int):Prop:=
 CodeIs (rangeOf Tryd.prog (20:Nat) (0:Nat)).snd.fst (rangeOf Tryd.prog (20:Nat) (0:Nat)).snd.fst∧CodeIs (rangeOf Tryd.prog (20:Nat) (0:Nat)).snd.snd (rangeOf Tryd.prog (20:Nat) (0:Nat)).snd.snd∧(∃ p c b,((),(),(s,(0:Nat)),s,n,ByteArray.mk #[],(0:Int),LoopState.ready,none)=lct_mk p c b∧p≤ByteArray.size c.t∧lct_P c b p)∧(exB Ex.ret (cut_q1 s n).fst=false→decide ((↑(ByteArray.size (cut_q1 s n).snd.snd.snd.snd.fst):Int)≤(cut_q1 s n).snd.snd.snd.snd.snd.fst)=false→(0:Int)≤(cut_q1 s n).snd.snd.snd.snd.snd.snd.snd.fst∧(cut_q1 s n).snd.snd.snd.snd.snd.snd.snd.fst≤(↑(ByteArray.size (cut_q1 s n).snd.snd.snd.snd.fst):Int))
theorem cut_okS (pre:DA.T aBI→List Prop) (h:∀ g,DA.bd aBI g→(∀ p∈pre g,p)→cut_side g.1 g.2):FnPure Tryd.prog 20 aBI dStr (fun g=>cut_F g.1 g.2) pre:=pure_of_sideS (Γ:=(PTab.gamz tabB7 [] [])) (Λ:=lamB9) (PTab.okz tabB7 [] []) lamB9_ok 100 default (fun g=>cut_side g.1 g.2) (fun g=>by kernel_rfl) (fun g=>by kernel_rfl) h
noncomputable def rcu_q1 (s:BA) (n:Int):Ex ×
 rct_G:=
 loopF (fun g=>rct_R g.fst g.snd.fst g.snd.snd.fst g.snd.snd.snd.fst g.snd.snd.snd.snd) rct_M (s,n,eU.ag (runes05 s),(0:Int),(0:Int))
noncomputable def rcu_F (s:BA) (n:Int):Dv.T dStr:=
 ByteArray.extract (rcu_q1 s n).snd.fst (0:Nat) (rcu_q1 s n).snd.snd.snd.snd.fst.toNat
def rcu_side (s:BA) (n:Int):Prop:=
 ByteArray.size s≤KB∧eU.okL (runes05 s)∧((0:Int)≤(0:Int)∧(0:Int)≤(↑(eU.ag (runes05 s)).length:Int)∧(eU.ag (runes05 s)).length≤KB)∧(0:Int)≤(rcu_q1 s n).snd.snd.snd.snd.fst∧(rcu_q1 s n).snd.snd.snd.snd.fst≤(↑(ByteArray.size (rcu_q1 s n).snd.fst):Int)
theorem rcu_okS (pre:DA.T aBI→List Prop) (h:∀ g,DA.bd aBI g→(∀ p∈pre g,p)→rcu_side g.1 g.2):FnPure Tryd.prog 21 aBI dStr (fun g=>rcu_F g.1 g.2) pre:=pure_of_sideS (Γ:=(PTab.gamz tabB7 [] [])) (Λ:=lamB9) (PTab.okz tabB7 [] []) lamB9_ok 100 default (fun g=>rcu_side g.1 g.2) (fun g=>by kernel_rfl) (fun g=>by kernel_rfl) h
noncomputable def chk_F (r:Rec):Dv.T dI:=
 bif decide ((↑(ByteArray.size r.text):Int) > (64:Int))||!Lib.validD r.text.data.toList then (50:Int)
 else (0:Int)
def chk_side (r:Rec):Prop:=
 (!decide ((↑(ByteArray.size r.text):Int) > (64:Int)))=true→ByteArray.size r.text≤KB
theorem chk_okS (pre:DA.T aR→List Prop) (h:∀ g,DA.bd aR g→(∀ p∈pre g,p)→chk_side g):FnPure Tryd.prog 45 aR dI (fun g=>chk_F g) pre:=pure_of_sideS (Γ:=(PTab.gamz tabB7 [] [])) (Λ:=lamB9) (PTab.okz tabB7 [] []) lamB9_ok 100 default (fun g=>chk_side g) (fun g=>by kernel_rfl) (fun g=>by kernel_rfl) h
noncomputable def rchk_F (r:Rec):Dv.T dI:=
 bif decide ((↑(ByteArray.size r.text):Int) > (64:Int))||!validS r.text then (50:Int) else (0:Int)
def rchk_side (r:Rec):Prop:=
 (!decide ((↑(ByteArray.size r.text):Int) > (64:Int)))=true→ByteArray.size r.text≤KB
theorem rchk_okS (pre:DA.T aR→List Prop) (h:∀ g,DA.bd aR g→(∀ p∈pre g,p)→rchk_side g):FnPure Tryd.prog 46 aR dI (fun g=>rchk_F g) pre:=pure_of_sideS (Γ:=(PTab.gamz tabB7 [] [])) (Λ:=lamB9) (PTab.okz tabB7 [] []) lamB9_ok 100 default (fun g=>rchk_side g) (fun g=>by kernel_rfl) (fun g=>by kernel_rfl) h
end Go.Proofs.YtmegbepjdololaaDoor

namespace Go.Proofs.YtmegbepjdololaaDoor
open Go.RowKit Go.Sx
set_option maxRecDepth 100000
set_option linter.unusedVariables false
noncomputable def ltL:LTab Tryd.prog:=(LTab.nil.cons 113 1 (lrl_C lrl_I lrl_M) lrl_ok)
noncomputable abbrev lamL:Lam:=ltL.lam
theorem lamL_ok:∀ f k L,lamL f k=some L→∀ b∈loopsOf Tryd.prog f,lkey b=k→LoopOk Tryd.prog b L.g:=ltL.ok
noncomputable def lru_q1 (s:BA):Ex ×
 lrl_G:=
 loopF (fun g=>lrl_R g.fst g.snd.fst g.snd.snd.fst g.snd.snd.snd.fst) lrl_M ((),(),(s,(0:Nat)),[],LoopState.ready,none)
noncomputable def lru_F (s:BA):Rv.T (.list eU):=
 eU.ag (lru_q1 s).snd.snd.snd.snd.fst
def lru_side (s:BA):Prop:=
 CodeIs (rangeOf Tryd.prog (18:Nat) (0:Nat)).snd.fst (rangeOf Tryd.prog (18:Nat) (0:Nat)).snd.fst∧CodeIs (rangeOf Tryd.prog (18:Nat) (0:Nat)).snd.snd (rangeOf Tryd.prog (18:Nat) (0:Nat)).snd.snd∧(∃ p c b,((),(),(s,(0:Nat)),[],LoopState.ready,none)=lrl_mk p c b∧p≤ByteArray.size c∧lrl_P c b p)∧(lru_q1 s).snd.snd.snd.snd.fst.length≤(lru_q1 s).snd.snd.snd.snd.fst.length∧∀ (e:Nat),e<(lru_q1 s).snd.snd.snd.snd.fst.length→True
theorem lru_okS (pre:DA.T aB→List Prop) (h:∀ g,DA.bd aB g→(∀ p∈pre g,p)→lru_side g):FnPure Tryd.prog 18 aB (Rv.D (.list eU)) (fun g=>lru_F g) pre:=res_of_side (R:=(.list eU)) (Γ:=(PTab.gamz tabB7 [] [])) (Λ:=lamL) (PTab.okz tabB7 [] []) lamL_ok 100 default (fun g=>lru_side g) (fun g=>by kernel_rfl) (fun g=>by kernel_rfl) h
end Go.Proofs.YtmegbepjdololaaDoor

namespace Go.Proofs.YtmegbepjdololaaDoor
open Go.RowKit Go.Sx Go.Lp
def singleS (s:BA):Bool:=(runes06 s).length==1&&validS s
theorem sgl_ok:FnPure Tryd.prog 124 aB dBool singleS (fun s=>[s.size≤KB]):=
 pure_congr (sgl_okS _ fun s _ hp=>by
  have h:s.size≤KB:=hp _ (List.mem_cons_self ..)
  exact ⟨⟨0,s,0,rfl,Nat.zero_le _,h,Int.le_refl _,Int.le_refl _⟩,fun _=>h⟩) fun s _ hp=>by
  have h2:(sgl_q1 s).2.2.2=_:=(sg_run s (hp _ (List.mem_cons_self ..))).2
  show ((sgl_q1 s).2.2.2==(1:Int)&&validS s)=singleS s
  unfold singleS
  rw[h2]
  congr 1
  rw[Bool.eq_iff_iff]
  simp only[beq_iff_eq]
  omega
def intsL (s:BA):List Int:=(toL s).map fun x=>(x.toNat:Int)
def upS (s:BA):BA:=strOf ((intsL s).map upB)
theorem byte_lst (s:BA):e8.lst s.size (byteEl s)=intsL s:=by
 refine List.ext_getElem ?_ fun i h1 h2=>?_
 ·rw[e8.lst_length];unfold intsL;rw[List.length_map,toL_len]
 ·rw[e8.lst_length] at h1
  have hb:byteEl s i=e8.cells (((toL s)[i]'(by rw[toL_len];exact h1)).toNat:Int):=by
   unfold byteEl
   rw[get_toL,List.getD_eq_getElem?_getD,List.getElem?_eq_getElem (by rw[toL_len];exact h1)]
   rfl
  have:=e8.lst_getD s.size (byteEl s) _ h1
  rw[List.getD_eq_getElem?_getD,List.getElem?_eq_getElem (by rw[e8.lst_length];exact h1)] at this
  simp only[Option.getD_some] at this
  rw[this,hb]
  have e2:(intsL s)[i]=(((toL s)[i]'(by rw[toL_len];exact h1)).toNat:Int):=by simp[intsL]
  rw[e2]
  simp[El.get,e8,eInt,El.one',dInt,SV.int?]
theorem intsL_len (s:BA):(intsL s).length=s.size:=by unfold intsL;rw[List.length_map,toL_len]
theorem upp_q (s:BA) (h:s.size≤KB):upp_q1 s=(.exit 0,up_mk s.size ((intsL s).map upB) s.size):=by
 unfold upp_q1
 rw[byte_lst]
 have:=up_run s.size h s.size 0 (intsL s) (intsL_len s) (Nat.zero_le _) (Nat.sub_le _ _)
 simpa [up_mk] using this
theorem upp_ok:FnPure Tryd.prog 94 aB dStr upS (fun s=>[s.size≤KB]):=
 pure_congr (upp_okS _ fun s _ hp=>by
  have h:s.size≤KB:=hp _ (List.mem_cons_self ..)
  have h':=h
  unfold KB at h'
  unfold upp_side
  rw[upp_q s h]
  refine ⟨by unfold maxLen;omega,fun _ _=>trivial,⟨s.size,intsL s,0,by rw[byte_lst];rfl,intsL_len s,Nat.zero_le _,h⟩,⟨?_,fun k _=>rfl⟩,fun k _=>rfl⟩
  show s.size≤_
  simp only[up_mk,List.length_map,intsL_len]
  exact Nat.le_refl _) fun s _ hp=>by
  have h:s.size≤KB:=hp _ (List.mem_cons_self ..)
  show strOf (intsOf IntKind.u8 (upp_q1 s).2.1 (e8.els (upp_q1 s).2.2.2.1))=upS s
  rw[upp_q s h]
  have:=ints_els .u8 ((intsL s).map upB)
  rw[List.length_map,intsL_len] at this
  show strOf (intsOf IntKind.u8 s.size (e8.els ((intsL s).map upB)))=_
  rw[this];rfl
theorem rup_q (s:BA) (h:s.size≤KB):rup_q1 s=(.exit 0,ru_mk s.size ((intsL s).map upB) s.size):=by
 unfold rup_q1
 rw[byte_lst]
 have:=ru_run s.size h s.size 0 (intsL s) (intsL_len s) (Nat.zero_le _) (Nat.sub_le _ _)
 simpa [ru_mk] using this
theorem rup_ok:FnPure Tryd.prog 109 aB dStr upS (fun s=>[s.size≤KB]):=
 pure_congr (rup_okS _ fun s _ hp=>by
  have h:s.size≤KB:=hp _ (List.mem_cons_self ..)
  have h':=h
  unfold KB at h'
  unfold rup_side
  rw[rup_q s h]
  refine ⟨by unfold maxLen;omega,fun _ _=>trivial,⟨s.size,intsL s,0,by rw[byte_lst];rfl,intsL_len s,Nat.zero_le _,h⟩,⟨?_,fun k _=>rfl⟩,fun k _=>rfl⟩
  show s.size≤_
  simp only[ru_mk,List.length_map,intsL_len]
  exact Nat.le_refl _) fun s _ hp=>by
  have h:s.size≤KB:=hp _ (List.mem_cons_self ..)
  show strOf (intsOf IntKind.u8 (rup_q1 s).2.1 (e8.els (rup_q1 s).2.2.1))=upS s
  rw[rup_q s h]
  have:=ints_els .u8 ((intsL s).map upB)
  rw[List.length_map,intsL_len] at this
  show strOf (intsOf IntKind.u8 s.size (e8.els ((intsL s).map upB)))=_
  rw[this];rfl
theorem cut_ok:FnPure Tryd.prog 20 aBI dStr (fun g=>cutS g.1 g.2) (fun _=>[]):=
 pure_congr (cut_okS _ fun g _ _=>by
  obtain ⟨s,n⟩:=g
  obtain ⟨h1,h2⟩:=lct_run s n (ByteArray.mk #[])
  have e1:(cut_q1 s n).1=_:=h1
  have e2:(cut_q1 s n).2.2.2.2=_:=h2
  show cut_side s n
  refine ⟨rfl,rfl,⟨0,⟨s,s,n⟩,(_,0,.ready,none),rfl,Nat.zero_le _,rfl,Int.le_refl _,Int.le_refl _,rfl⟩,?_⟩
  rw[e1,e2]
  cases hb:(cutP n 0 (rsL (toL s)) 0).1 with
  | true=>intro h;cases h
  | false=>
   intro _ hn
   simp only[cond_false] at hn ⊢
   have hn:=of_decide_eq_false hn
   have hz:∀ (l:List (Nat×Nat)) (p:Nat) (z:Int),0≤z→z≤p→0≤(cutP n p l z).2∧(cutP n p l z).2≤((p+wsum l:Nat):Int):=by
    intro l
    induction l with
    | nil=>intro p z h1 h2;simp only[cutP,wsum,List.map_nil,List.sum_nil];omega
    | cons d l ih=>
     intro p z h1 h2
     simp only[cutP,wsum,List.map_cons,List.sum_cons]
     cases decide ((p:Int) > n) with
     | true=>simp only[cond_true];omega
     | false=>
      simp only[cond_false]
      have:=ih (p+d.2) p (by omega) (by omega)
      unfold wsum at this
      omega
   have:=hz (rsL (toL s)) 0 0 (Int.le_refl _) (Int.le_refl _)
   rw[wsum_rsL,toL_len] at this
   omega) fun g _ _=>by
  obtain ⟨s,n⟩:=g
  obtain ⟨h1,h2⟩:=lct_run s n (ByteArray.mk #[])
  have e1:(cut_q1 s n).1=_:=h1
  have e2:(cut_q1 s n).2.2.2.2=_:=h2
  show cut_F s n=cutS s n
  rw[← cut_fin s n]
  unfold cut_F
  rw[e1,e2]
  cases hb:(cutP n 0 (rsL (toL s)) 0).1 with
  | true=>rfl
  | false=>rfl
theorem runes05_len (s:BA):(runes05 s).length≤s.size:=by
 have h:=rns_len s
 unfold runes06 at h
 unfold runes05 rpL
 rw[List.length_map] at h ⊢
 have:∀ (l:List (Nat×Nat)) (p:Nat),(rpF p l).length=l.length:=by
  intro l
  induction l with
  | nil=>intro p;rfl
  | cons d l ih=>intro p;simp only[rpF,List.length_cons,ih]
 rw[this];exact h
theorem rcu_q (s:BA) (n:Int) (h:s.size≤KB):(rcu_q1 s n).2.1=s∧(rcu_q1 s n).2.2.2.2.1=((cutW (rsL (toL s)) n:Nat):Int):=by
 have hl:=runes05_len s
 have:=rct_run s n (runes05 s) (by omega) (runes05 s).length 0 0 (Nat.zero_le _) (Nat.sub_le _ _)
 have e:rcu_q1 s n=(Ex.exit 0,s,n,runes05 s,rcutF s n (List.drop 0 (runes05 s)) 0,((runes05 s).length:Int)):=by
  unfold rcu_q1
  rw[eU.ag_eq]
  exact this
 rw[e,List.drop_zero]
 refine ⟨rfl,?_⟩
 have h2:=rcut_law s n (rsL (toL s)) 0 (by rw[wsum_rsL,toL_len];omega) (rsL_pos _)
 rw[show n - ((0:Nat):Int)=n by omega,Nat.zero_add] at h2
 exact h2
theorem cutW_size (s:BA) (n:Int):cutW (rsL (toL s)) n≤s.size:=by
 have:=cutW_le (rsL (toL s)) n
 rw[wsum_rsL,toL_len] at this
 exact this
theorem rcu_ok:FnPure Tryd.prog 21 aBI dStr (fun g=>cutS g.1 g.2) (fun g=>[g.1.size≤KB]):=
 pure_congr (rcu_okS _ fun g _ hp=>by
  obtain ⟨s,n⟩:=g
  have h:s.size≤KB:=hp _ (List.mem_cons_self ..)
  obtain ⟨e1,e2⟩:=rcu_q s n h
  have hl:=runes05_len s
  show rcu_side s n
  unfold rcu_side
  rw[e1,e2,eU.ag_eq,eU.okL_eq]
  have:=cutW_size s n
  exact ⟨h,trivial,⟨Int.le_refl _,by omega,by omega⟩,by omega,by omega⟩) fun g _ hp=>by
  obtain ⟨s,n⟩:=g
  have h:s.size≤KB:=hp _ (List.mem_cons_self ..)
  obtain ⟨e1,e2⟩:=rcu_q s n h
  show ByteArray.extract (rcu_q1 s n).2.1 0 (rcu_q1 s n).2.2.2.2.1.toNat=_
  rw[e1,e2];rfl
def chkR (r:Rec):Int:=bif decide ((r.text.size:Int) > 64)||!validS r.text then 50 else 0
theorem chkR_iff (r:Rec):chkR r=0↔r.text.size≤64∧validS r.text=true:=by
 unfold chkR
 cases hv:validS r.text with
 | true=>
  by_cases h:r.text.size≤64
  ·rw[decide_eq_false (by omega)];simp[h]
  ·rw[decide_eq_true (by omega)];simp[h]
 | false=>simp
theorem chk_ok:FnPure Tryd.prog 45 aR dI chkR (fun _=>[]):=
 pure_congr (chk_okS _ fun r _ _ h=>by
  have h:=of_decide_eq_false (by simpa using h:decide ((r.text.size:Int) > 64)=false)
  unfold KB;omega) fun r _ _=>rfl
theorem rchk_ok:FnPure Tryd.prog 46 aR dI chkR (fun _=>[]):=
 pure_congr (rchk_okS _ fun r _ _ h=>by
  have h:=of_decide_eq_false (by simpa using h:decide ((r.text.size:Int) > 64)=false)
  unfold KB;omega) fun r _ _=>rfl
theorem wds_ok:FnPure Tryd.prog 104 aB3 dLB (fun g=>wordsF g.2 (runes06 g.1) [] []) (fun g=>[g.1.size≤KB]):=by
 refine pure_congr (wds_okS _ fun g _ hp=>?_) fun g _ hp=>?_
 ·obtain ⟨s,c⟩:=g
  have h:s.size≤KB:=hp _ (List.mem_cons_self ..)
  obtain ⟨h1,h2,h3⟩:=wd_run s c h
  have h3:(wds_q1 s c).2.2.2.2.1.length≤KB:=h3
  unfold KB at h3
  show wds_side s c
  unfold wds_side
  rw[bytesS]
  unfold maxLen
  refine ⟨⟨0,(s,c),([],[]),rfl,Nat.zero_le _,h,Nat.le_refl _,Nat.le_refl _⟩,⟨Nat.le_refl _,fun _ _=>rfl⟩,fun _ _=>rfl,⟨Nat.le_refl _,trivial,by omega,by omega⟩,Nat.le_refl _,fun _ _=>trivial,fun _ _=>trivial⟩
 ·obtain ⟨s,c⟩:=g
  have h:s.size≤KB:=hp _ (List.mem_cons_self ..)
  obtain ⟨h1,h2,h3⟩:=wd_run s c h
  show wds_F s c=_
  unfold wds_F
  rw[app1,ints_els]
  exact h2
theorem lru_ok:FnPure Tryd.prog 18 aB dLU runes05 (fun s=>[s.size≤KB]):=
 pure_congr (lru_okS _ fun s _ hp=>by
  have h:s.size≤KB:=hp _ (List.mem_cons_self ..)
  exact ⟨rfl,rfl,⟨0,s,([],.ready,none),rfl,Nat.zero_le _,rfl,h,Nat.le_refl _⟩,Nat.le_refl _,fun _ _=>trivial⟩) fun s _ hp=>by
  have h:s.size≤KB:=hp _ (List.mem_cons_self ..)
  obtain ⟨h1,h2⟩:=lrl_run s h
  show eU.ag (lru_q1 s).2.2.2.2.1=_
  rw[eU.ag_eq]
  exact congrArg (·.1) h2
noncomputable def tabB12:PTab Tryd.prog:=((((((((tabB7.cons 124 (pconP aB dBool singleS (fun s=>[s.size≤KB])) (conP_ok sgl_ok puB)).cons 94 (pconP aB dStr upS (fun s=>[s.size≤KB])) (conP_ok upp_ok puS)).cons 109 (pconP aB dStr upS (fun s=>[s.size≤KB])) (conP_ok rup_ok puS)).cons 20 (pconP aBI dStr (fun g=>cutS g.1 g.2) (fun _=>[])) (conP_ok cut_ok puS)).cons 21 (pconP aBI dStr (fun g=>cutS g.1 g.2) (fun g=>[g.1.size≤KB])) (conP_ok rcu_ok puS)).cons 45 (pconP aR dI chkR (fun _=>[])) (conP_ok chk_ok puI)).cons 46 (pconP aR dI chkR (fun _=>[])) (conP_ok rchk_ok puI)).cons 104 (pconR aB3 dLB (fun g=>wordsF g.2 (runes06 g.1) [] []) (fun g=>[g.1.size≤KB])) (conR_ok wds_ok)).cons 18 (pconR aB dLU runes05 (fun s=>[s.size≤KB])) (conR_ok lru_ok)
end Go.Proofs.YtmegbepjdololaaDoor

namespace Go.Proofs.YtmegbepjdololaaDoor
open Go.RowKit Go.Sx
set_option maxRecDepth 100000
set_option linter.unusedVariables false
noncomputable def txt_F (f:Fn):Dv.T dBool:=
 bif f.kind==(5:Int) then !decide (f.s=ByteArray.mk #[])&&(decide ((↑(ByteArray.size f.s):Int)≤(16:Int))&&Lib.validD f.s.data.toList)
 else bif bif f.kind==(12:Int) then f.kind==(12:Int) else f.kind==(22:Int) then singleS f.s else decide (f.s=ByteArray.mk #[])
def txt_side (f:Fn):Prop:=
 ((f.kind==(5:Int))=true→(!decide (f.s=ByteArray.mk #[]))=true→decide ((↑(ByteArray.size f.s):Int)≤(16:Int))=true→ByteArray.size f.s≤KB)∧((f.kind==(5:Int))=false→(bif f.kind==(12:Int) then f.kind==(12:Int) else f.kind==(22:Int))=true→ByteArray.size f.s≤KB)
theorem txt_okS (pre:DA.T aF→List Prop) (h:∀ g,DA.bd aF g→(∀ p∈pre g,p)→txt_side g):FnPure Tryd.prog 100 aF dBool (fun g=>txt_F g) pre:=pure_of_sideS (Γ:=(PTab.gamz tabB12 [] [])) (Λ:=noΛ) (PTab.okz tabB12 [] []) noΛ_ok 100 default (fun g=>txt_side g) (fun g=>by kernel_rfl) (fun g=>by kernel_rfl) h
noncomputable def rtx_F (f:Fn):Dv.T dBool:=
 bif f.kind==(5:Int) then decide ((↑(ByteArray.size f.s):Int)≥(1:Int))&&(decide ((↑(ByteArray.size f.s):Int)≤(16:Int))&&validS f.s)
 else bif bif f.kind==(12:Int) then f.kind==(12:Int) else f.kind==(22:Int) then decide ((↑(ByteArray.size f.s):Int)≤(4:Int))&&(validS f.s&&(↑(runes05 f.s).length:Int)==(1:Int)) else decide (f.s=ByteArray.mk #[])
def rtx_side (f:Fn):Prop:=
 ((f.kind==(5:Int))=true→decide ((↑(ByteArray.size f.s):Int)≥(1:Int))=true→decide ((↑(ByteArray.size f.s):Int)≤(16:Int))=true→ByteArray.size f.s≤KB)∧((f.kind==(5:Int))=false→(bif f.kind==(12:Int) then f.kind==(12:Int) else f.kind==(22:Int))=true→(decide ((↑(ByteArray.size f.s):Int)≤(4:Int))=true→ByteArray.size f.s≤KB)∧(decide ((↑(ByteArray.size f.s):Int)≤(4:Int))=true→validS f.s=true→ByteArray.size f.s≤KB))
theorem rtx_okS (pre:DA.T aF→List Prop) (h:∀ g,DA.bd aF g→(∀ p∈pre g,p)→rtx_side g):FnPure Tryd.prog 102 aF dBool (fun g=>rtx_F g) pre:=pure_of_sideS (Γ:=(PTab.gamz tabB12 [] [])) (Λ:=noΛ) (PTab.okz tabB12 [] []) noΛ_ok 100 default (fun g=>rtx_side g) (fun g=>by kernel_rfl) (fun g=>by kernel_rfl) h
noncomputable def tabB13:PTab Tryd.prog:=tabB12
end Go.Proofs.YtmegbepjdololaaDoor

namespace Go.Proofs.YtmegbepjdololaaDoor
open Go.RowKit Go.Sx Go.Lp
theorem single_size (s:BA) (h:singleS s=true):s.size≤4:=by
 unfold singleS at h
 simp only[Bool.and_eq_true,beq_iff_eq] at h
 obtain ⟨h1,h2⟩:=h
 have hv:=valid_rns (toL s) h2
 unfold runes06 at h1
 rw[List.length_map] at h1
 have h3:(rns (toL s)).length=1:=by unfold rns;rw[List.length_map];exact h1
 obtain ⟨c,hc⟩:=List.length_eq_one_iff.1 h3
 have hs:sc c:=rns_sc (toL s) c (by rw[hc];simp)
 rw[hc] at hv
 have:=congrArg List.length hv
 rw[toL_len] at this
 have h4:=(encL_len hs).2
 simp only[encs,List.flatMap_cons,List.flatMap_nil,List.append_nil] at this
 omega
theorem runes_len (s:BA):(runes05 s).length=(runes06 s).length:=by
 unfold runes05 runes06 rpL
 rw[List.length_map,List.length_map]
 have:∀ (l:List (Nat×Nat)) (p:Nat),(rpF p l).length=l.length:=by
  intro l
  induction l with
  | nil=>intro p;rfl
  | cons d l ih=>intro p;simp only[rpF,List.length_cons,ih]
 exact this _ _
def textF (f:Fn):Bool:=bif f.kind==(5:Int) then !decide (f.s=ByteArray.mk #[])&&(decide ((f.s.size:Int)≤16)&&validS f.s) else bif f.kind==(12:Int)||f.kind==(22:Int) then singleS f.s else decide (f.s=ByteArray.mk #[])
theorem size_emp (s:BA):s.size=0↔s=ByteArray.mk #[]:=by
 constructor
 ·intro h
  cases s with
  | mk d=>
   have:d.size=0:=h
   have:=Array.eq_empty_of_size_eq_zero this
   rw[this]
 ·rintro rfl;rfl
theorem txt_eq (f:Fn):txt_F f=textF f:=by
 unfold txt_F textF
 cases f.kind==(12:Int) <;> rfl
theorem rtx_eq (f:Fn):rtx_F f=textF f:=by
 unfold rtx_F textF
 have e1:decide ((f.s.size:Int)≥1)=!decide (f.s=ByteArray.mk #[]):=by
  rw[Bool.eq_iff_iff]
  simp only[decide_eq_true_eq,Bool.not_eq_true',decide_eq_false_iff_not,← size_emp]
  omega
 have e2:(decide ((f.s.size:Int)≤4)&&(validS f.s&&((runes05 f.s).length:Int)==(1:Int)))=singleS f.s:=by
  rw[runes_len]
  have e3:(((runes06 f.s).length:Int)==(1:Int))=((runes06 f.s).length==1):=by
   rw[Bool.eq_iff_iff];simp only[beq_iff_eq];omega
  rw[e3]
  cases hs:singleS f.s with
  | true=>
   have:=single_size f.s hs
   unfold singleS at hs
   simp only[Bool.and_eq_true] at hs
   rw[hs.1,hs.2,decide_eq_true (by omega)];rfl
  | false=>
   unfold singleS at hs
   cases h1:(runes06 f.s).length==1 with
   | false=>simp
   | true=>rw[h1] at hs;simp only[Bool.true_and] at hs;rw[hs];simp
 rw[e1,e2]
 cases f.kind==(12:Int) <;> rfl
theorem txt_ok:FnPure Tryd.prog 100 aF dBool textF (fun f=>[f.s.size≤KB]):=
 pure_congr (txt_okS _ fun f _ hp=>by
  have h:f.s.size≤KB:=hp _ (List.mem_cons_self ..)
  exact ⟨fun _ _ _=>h,fun _ _=>h⟩) fun f _ _=>txt_eq f
theorem rtx_ok:FnPure Tryd.prog 102 aF dBool textF (fun f=>[f.s.size≤KB]):=
 pure_congr (rtx_okS _ fun f _ hp=>by
  have h:f.s.size≤KB:=hp _ (List.mem_cons_self ..)
  exact ⟨fun _ _ _=>h,fun _ _=>⟨fun _=>h,fun _ _=>h⟩⟩) fun f _ _=>rtx_eq f
noncomputable def tabC1:PTab Tryd.prog:=(tabB13.cons 100 (pconP aF dBool textF (fun f=>[f.s.size≤KB])) (conP_ok txt_ok puB)).cons 102 (pconP aF dBool textF (fun f=>[f.s.size≤KB])) (conP_ok rtx_ok puB)
end Go.Proofs.YtmegbepjdololaaDoor

namespace Go.Proofs.YtmegbepjdololaaDoor
open Go.RowKit Go.Sx
set_option maxRecDepth 100000
set_option linter.unusedVariables false
abbrev pI:Dv Int:=dPr eI
abbrev dIt:Dv (Int×Int):=dFnA 103 (.cons pI (.one pI))
abbrev aIt:DA ((Int×Int)×Int):=.cons dIt (.one dI)
abbrev lfc_G:Type:=Unit×Unit×Int×Int×Fn×Int×LoopState×Option Code
noncomputable def lfc_LP:LP 6 lfc_G:=.pair (.fix 6 0 (.yl 5)) (.pair (.fix 6 2 (.p 3 0)) (.pair (.slot 6 4 dI) (.pair (.obj 6 3 3 eI) (.pair (.obj 6 0 66 eF) (.pair (.obj 6 1 35 eI) (.rf 6 5 Tryd.prog 54 0 33 [(3,.p 0 0),(4,.p 1 0)] 4))))))
noncomputable def lfc_R (_u:Unit) (_u2:Unit) (k:Int) (hi:Int) (f:Fn) (r:Int):Ex×lfc_G:=
 bif decide (k≤hi) then bif k==f.kind&&(num_F f&&textF f) then (Ex.ret,(),(),k,hi,f,(0:Int),LoopState.done,some Code.ret) else (Ex.normal,(),(),IntKind.i64.wrap (k+(1:Int)),hi,f,r,LoopState.ready,none)
 else (Ex.exit (0:Nat),(),(),k,hi,f,r,LoopState.ready,none)
def lfc_side (_u:Unit) (_u2:Unit) (k:Int) (hi:Int) (f:Fn) (r:Int):Prop:=
 (decide (k≤hi)=true→((k==f.kind)=true→num_F f=true→ByteArray.size f.s≤KB)∧((k==f.kind&&(num_F f&&textF f))=true→CodeIs (rangeOf Tryd.prog (54:Nat) (0:Nat)).snd.fst (rangeOf Tryd.prog (54:Nat) (0:Nat)).snd.fst∧CodeIs (rangeOf Tryd.prog (54:Nat) (0:Nat)).snd.snd (rangeOf Tryd.prog (54:Nat) (0:Nat)).snd.snd)∧((k==f.kind&&(num_F f&&textF f))=false→CodeIs (rangeOf Tryd.prog (54:Nat) (0:Nat)).snd.fst (rangeOf Tryd.prog (54:Nat) (0:Nat)).snd.fst∧CodeIs (rangeOf Tryd.prog (54:Nat) (0:Nat)).snd.snd (rangeOf Tryd.prog (54:Nat) (0:Nat)).snd.snd))∧(decide (k≤hi)=false→CodeIs (rangeOf Tryd.prog (54:Nat) (0:Nat)).snd.fst (rangeOf Tryd.prog (54:Nat) (0:Nat)).snd.fst∧CodeIs (rangeOf Tryd.prog (54:Nat) (0:Nat)).snd.snd (rangeOf Tryd.prog (54:Nat) (0:Nat)).snd.snd)
theorem lfc_one:((loopsOf Tryd.prog 103).filter fun c=>Nat.beq (lkey c) 1).length=1:=by kernel_rfl
def lfc_E:List ((Ex×lfc_G→Bool)×Ex×(lfc_G→lfc_G)):=[(fun x=>exB (.ret) x.1,.ret,fun g=>(g.1,g.2.1,g.2.2.1,g.2.2.2.1,g.2.2.2.2.1,g.2.2.2.2.2.1,(.done,some .ret))),(fun x=>exB (.exit 0) x.1,.exit 0,fun g=>(g.1,g.2.1,g.2.2.1,g.2.2.2.1,g.2.2.2.2.1,g.2.2.2.2.2.1,(.ready,none)))]
theorem lfc_es (g:lfc_G):(lfc_R g.1 g.2.1 g.2.2.1 g.2.2.2.1 g.2.2.2.2.1 g.2.2.2.2.2.1).1=.normal∨exitsOk (lfc_R g.1 g.2.1 g.2.2.1 g.2.2.2.1 g.2.2.2.2.1 g.2.2.2.2.2.1) lfc_E:=by
 unfold lfc_R
 repeat' (first | (left;rfl) | (right;exact ⟨fun _=>⟨rfl,rfl⟩,fun h=>absurd h (by simp[exB,pdB])⟩) | (right;exact ⟨fun h=>absurd h (by simp[exB,pdB]),fun _=>⟨rfl,rfl⟩⟩) | (rw[Bool.cond_eq_ite];split))
noncomputable abbrev lfc_C (Inv:lfc_G→List Prop) (m:lfc_G→Nat):LCon:=loopRS lfc_E (loopBody Tryd.prog 103 1) lfc_LP [] 15 Inv (fun g=>lfc_R g.1 g.2.1 g.2.2.1 g.2.2.2.1 g.2.2.2.2.1 g.2.2.2.2.2.1) m
noncomputable def lfc_i (g:lfc_G):lfc_G:=(g.1,g.2.1,g.2.2.1,g.2.2.2.1,g.2.2.2.2.1,g.2.2.2.2.2.1,(LoopState.ready,none))
theorem lfc_loop (Inv:lfc_G→List Prop) (m:lfc_G→Nat) (hs:∀ g,allP (Inv g)→lfc_side g.1 g.2.1 g.2.2.1 g.2.2.2.1 g.2.2.2.2.1 g.2.2.2.2.2.1) (hι:∀ g,allP (Inv g)→lfc_i g=g) (hg:Goes (fun g:lfc_G=>lfc_R g.1 g.2.1 g.2.2.1 g.2.2.2.1 g.2.2.2.2.1 g.2.2.2.2.2.1) m fun g=>allP (Inv g)):∀ b∈loopsOf Tryd.prog 103,lkey b=1→LoopOk Tryd.prog b (lfc_C Inv m).g:=loop_runS lfc_i (Γ:=(PTab.gamz tabC1 [] [])) (Λ:=noΛ) (PTab.okz tabC1 [] []) noΛ_ok 100 103 1 15 lfc_LP [] Inv (fun g=>lfc_R g.1 g.2.1 g.2.2.1 g.2.2.2.1 g.2.2.2.2.1 g.2.2.2.2.2.1) (fun g=>lfc_side g.1 g.2.1 g.2.2.1 g.2.2.2.1 g.2.2.2.2.1 g.2.2.2.2.2.1) m default lfc_E lfc_one (fun rd T B HL HB ds g=>by kernel_rfl) (fun rd T B HL HB ds g=>by kernel_rfl) hι hs hg lfc_es
abbrev ltl_G:Type:=Unit×Int×Int×Int×List Int×LoopState×Option Code
noncomputable def ltl_LP:LP 4 ltl_G:=.pair (.fix 4 0 (.yl 3)) (.pair (.slot 4 2 pI) (.pair (.slot 4 4 dI) (.pair (.obj 4 0 3 eI) (.pair (.objRow 4 1 72 3 eI) (.rf 4 3 Tryd.prog 57 0 20 [(3,.p 0 0),(5,.p 1 0)] 2)))))
noncomputable def ltl_R (_u:Unit) (hi:Int) (k:Int) (m:Int) (o:List Int):Ex×ltl_G:=
 bif decide (k≤hi) then bif decide ((↑o.length:Int)≥m) then (Ex.ret,(),hi,k,m,eI.ag o,LoopState.done,some (Code.exit (0:Nat))) else (Ex.normal,(),hi,IntKind.i64.wrap (k+(1:Int)),m,eI.lst (min (o.length+(1:Nat)) o.length) (eI.els o)++List.map (fun x=>k) (List.range (o.length+(1:Nat) - o.length)),LoopState.ready,none)
 else (Ex.exit (0:Nat),(),hi,k,m,eI.ag o,LoopState.ready,none)
def ltl_side (_u:Unit) (hi:Int) (k:Int) (m:Int) (o:List Int):Prop:=
 (decide (k≤hi)=true→(decide ((↑o.length:Int)≥m)=true→o.length≤o.length∧(∀ (e:Nat),e<o.length→True)∧CodeIs (rangeOf Tryd.prog (57:Nat) (0:Nat)).snd.fst (rangeOf Tryd.prog (57:Nat) (0:Nat)).snd.fst∧CodeIs (rangeOf Tryd.prog (57:Nat) (0:Nat)).snd.snd (rangeOf Tryd.prog (57:Nat) (0:Nat)).snd.snd)∧(decide ((↑o.length:Int)≥m)=false→(o.length≤o.length∧True∧o.length+(1:Nat)≤maxLen∧(o.length+(1:Nat)) * Tryd.prog.types[(3:Nat)].bytes≤(140737488355328:Nat))∧o.length+(1:Nat)≤o.length+(1:Nat)∧(∀ (e:Nat),e<min (o.length+(1:Nat)) o.length→True)∧(∀ (e:Nat),e<o.length+(1:Nat) - o.length→True)∧CodeIs (rangeOf Tryd.prog (57:Nat) (0:Nat)).snd.fst (rangeOf Tryd.prog (57:Nat) (0:Nat)).snd.fst∧CodeIs (rangeOf Tryd.prog (57:Nat) (0:Nat)).snd.snd (rangeOf Tryd.prog (57:Nat) (0:Nat)).snd.snd))∧(decide (k≤hi)=false→o.length≤o.length∧(∀ (e:Nat),e<o.length→True)∧CodeIs (rangeOf Tryd.prog (57:Nat) (0:Nat)).snd.fst (rangeOf Tryd.prog (57:Nat) (0:Nat)).snd.fst∧CodeIs (rangeOf Tryd.prog (57:Nat) (0:Nat)).snd.snd (rangeOf Tryd.prog (57:Nat) (0:Nat)).snd.snd)
theorem ltl_one:((loopsOf Tryd.prog 103).filter fun c=>Nat.beq (lkey c) 1).length=1:=by kernel_rfl
def ltl_E:List ((Ex×ltl_G→Bool)×Ex×(ltl_G→ltl_G)):=[(fun x=>exB (.ret) x.1,.ret,fun g=>(g.1,g.2.1,g.2.2.1,g.2.2.2.1,g.2.2.2.2.1,(.done,some (.exit 0)))),(fun x=>exB (.exit 0) x.1,.exit 0,fun g=>(g.1,g.2.1,g.2.2.1,g.2.2.2.1,g.2.2.2.2.1,(.ready,none)))]
theorem ltl_es (g:ltl_G):(ltl_R g.1 g.2.1 g.2.2.1 g.2.2.2.1 g.2.2.2.2.1).1=.normal∨exitsOk (ltl_R g.1 g.2.1 g.2.2.1 g.2.2.2.1 g.2.2.2.2.1) ltl_E:=by
 unfold ltl_R
 repeat' (first | (left;rfl) | (right;exact ⟨fun _=>⟨rfl,rfl⟩,fun h=>absurd h (by simp[exB,pdB])⟩) | (right;exact ⟨fun h=>absurd h (by simp[exB,pdB]),fun _=>⟨rfl,rfl⟩⟩) | (rw[Bool.cond_eq_ite];split))
noncomputable abbrev ltl_C (Inv:ltl_G→List Prop) (m:ltl_G→Nat):LCon:=loopRS ltl_E (loopBody Tryd.prog 103 1) ltl_LP [] 15 Inv (fun g=>ltl_R g.1 g.2.1 g.2.2.1 g.2.2.2.1 g.2.2.2.2.1) m
noncomputable def ltl_i (g:ltl_G):ltl_G:=(g.1,g.2.1,g.2.2.1,g.2.2.2.1,g.2.2.2.2.1,(LoopState.ready,none))
theorem ltl_loop (Inv:ltl_G→List Prop) (m:ltl_G→Nat) (hs:∀ g,allP (Inv g)→ltl_side g.1 g.2.1 g.2.2.1 g.2.2.2.1 g.2.2.2.2.1) (hι:∀ g,allP (Inv g)→ltl_i g=g) (hg:Goes (fun g:ltl_G=>ltl_R g.1 g.2.1 g.2.2.1 g.2.2.2.1 g.2.2.2.2.1) m fun g=>allP (Inv g)):∀ b∈loopsOf Tryd.prog 103,lkey b=1→LoopOk Tryd.prog b (ltl_C Inv m).g:=loop_runS ltl_i (Γ:=(PTab.gamz tabC1 [] [])) (Λ:=noΛ) (PTab.okz tabC1 [] []) noΛ_ok 100 103 1 15 ltl_LP [] Inv (fun g=>ltl_R g.1 g.2.1 g.2.2.1 g.2.2.2.1 g.2.2.2.2.1) (fun g=>ltl_side g.1 g.2.1 g.2.2.1 g.2.2.2.1 g.2.2.2.2.1) m default ltl_E ltl_one (fun rd T B HL HB ds g=>by kernel_rfl) (fun rd T B HL HB ds g=>by kernel_rfl) hι hs hg ltl_es
abbrev lru2_G:Type:=Int×List Int×Int
noncomputable def lru2_LP:LP 0 lru2_G:=.pair (.slot 0 4 dI) (.pair (.row 0 5 3 eI) (.slot 0 6 dI))
noncomputable def lru2_R (hi:Int) (o:List Int) (k:Int):Ex×lru2_G:=
 bif decide (k≤hi) then (Ex.normal,hi,eI.lst (min (o.length+(1:Nat)) o.length) (eI.els o)++List.map (fun x=>k) (List.range (o.length+(1:Nat) - o.length)),IntKind.i64.wrap (k+(1:Int)))
 else (Ex.exit (1:Nat),hi,eI.ag o,k)
def lru2_side (hi:Int) (o:List Int) (k:Int):Prop:=
 (decide (k≤hi)=true→(o.length≤o.length∧True∧o.length+(1:Nat)≤maxLen∧(o.length+(1:Nat)) * Tryd.prog.types[(3:Nat)].bytes≤(140737488355328:Nat))∧o.length+(1:Nat)≤o.length+(1:Nat)∧(∀ (e:Nat),e<min (o.length+(1:Nat)) o.length→True)∧∀ (e:Nat),e<o.length+(1:Nat) - o.length→True)∧(decide (k≤hi)=false→o.length≤o.length∧∀ (e:Nat),e<o.length→True)
theorem lru2_one:((loopsOf Tryd.prog 53).filter fun c=>Nat.beq (lkey c) 15).length=1:=by kernel_rfl
theorem lru2_es (g:lru2_G):(lru2_R g.1 g.2.1 g.2.2).1=.normal∨(lru2_R g.1 g.2.1 g.2.2).1∈([.exit 1]:List Ex):=by
 unfold lru2_R
 repeat' (first | (left;rfl) | (right;simp only[cond_true,cond_false];simp;done) | (rw[Bool.cond_eq_ite];split))
noncomputable abbrev lru2_C (Inv:lru2_G→List Prop) (m:lru2_G→Nat):LCon:=loopR [.exit 1] (loopBody Tryd.prog 53 15) lru2_LP [] 29 Inv (fun g=>lru2_R g.1 g.2.1 g.2.2) m
theorem lru2_loop (Inv:lru2_G→List Prop) (m:lru2_G→Nat) (hs:∀ g,allP (Inv g)→lru2_side g.1 g.2.1 g.2.2) (hg:Goes (fun g:lru2_G=>lru2_R g.1 g.2.1 g.2.2) m fun g=>allP (Inv g)):∀ b∈loopsOf Tryd.prog 53,lkey b=15→LoopOk Tryd.prog b (lru2_C Inv m).g:=loop_run (Γ:=(PTab.gamz tabC1 [] [])) (Λ:=noΛ) (PTab.okz tabC1 [] []) noΛ_ok 100 53 15 29 lru2_LP [] Inv (fun g=>lru2_R g.1 g.2.1 g.2.2) (fun g=>lru2_side g.1 g.2.1 g.2.2) m default [.exit 1] lru2_one (fun rd T B HL HB ds g=>by kernel_rfl) (fun rd T B HL HB ds g=>by kernel_rfl) hs hg lru2_es
abbrev lrc_G:Type:=List Int×Int×Unit×Fn×Int
noncomputable def lrc_LP:LP 1 lrc_G:=.pair (.slot 1 5 dLI) (.pair (.slot 1 6 dI) (.pair (.fix 1 3 (.p 0 0)) (.pair (.obj 1 0 66 eF) (.slot 1 4 dI))))
noncomputable def lrc_R (xs:List Int) (i:Int) (_u:Unit) (f:Fn) (r:Int):Ex×lrc_G:=
 bif decide (i<(↑xs.length:Int)) then bif xs.getD i.toNat eI.dflt==f.kind&&(rnum_F f&&textF f) then (Ex.ret,eI.ag xs,i,(),f,(0:Int)) else (Ex.normal,eI.ag xs,IntKind.i64.wrap (i+(1:Int)),(),f,r)
 else (Ex.exit (0:Nat),eI.ag xs,i,(),f,r)
def lrc_side (xs:List Int) (i:Int) (_u:Unit) (f:Fn) (r:Int):Prop:=
 (decide (i<(↑xs.length:Int))=true→((0:Int)≤i∧i<(↑xs.length:Int))∧((xs.getD i.toNat eI.dflt==f.kind)=true→rnum_F f=true→ByteArray.size f.s≤KB)∧((xs.getD i.toNat eI.dflt==f.kind&&(rnum_F f&&textF f))=true→eI.okL xs)∧((xs.getD i.toNat eI.dflt==f.kind&&(rnum_F f&&textF f))=false→eI.okL xs))∧(decide (i<(↑xs.length:Int))=false→eI.okL xs)
theorem lrc_one:((loopsOf Tryd.prog 55).filter fun c=>Nat.beq (lkey c) 5).length=1:=by kernel_rfl
abbrev lrc_GC:Type:=List Int×Fn
abbrev lrc_GB:Type:=Unit×Int
def lrc_f (g:lrc_G):Int×lrc_GC×lrc_GB:=(g.2.1,(g.1,g.2.2.2.1),(g.2.2.1,g.2.2.2.2))
def lrc_g (d:Int×lrc_GC×lrc_GB):lrc_G:=(d.2.1.1,d.1,d.2.2.1,d.2.1.2,d.2.2.2)
theorem lrc_es (g:lrc_G):(lrc_R g.1 g.2.1 g.2.2.1 g.2.2.2.1 g.2.2.2.2).1=.normal∨(lrc_R g.1 g.2.1 g.2.2.1 g.2.2.2.1 g.2.2.2.2).1∈([.ret,.exit 0]:List Ex):=by
 unfold lrc_R
 repeat' (first | (left;rfl) | (right;simp only[cond_true,cond_false];simp;done) | (rw[Bool.cond_eq_ite];split))
noncomputable abbrev lrc_C (Inv:lrc_G→List Prop) (m:lrc_G→Nat):LCon:=loopR [.ret,.exit 0] (loopBody Tryd.prog 55 5) lrc_LP [] 38 Inv (fun g=>lrc_R g.1 g.2.1 g.2.2.1 g.2.2.2.1 g.2.2.2.2) m
theorem lrc_loop (Inv:lrc_G→List Prop) (m:lrc_G→Nat) (hs:∀ g,allP (Inv g)→lrc_side g.1 g.2.1 g.2.2.1 g.2.2.2.1 g.2.2.2.2) (hg:Goes (fun g:lrc_G=>lrc_R g.1 g.2.1 g.2.2.1 g.2.2.2.1 g.2.2.2.2) m fun g=>allP (Inv g)):∀ b∈loopsOf Tryd.prog 55,lkey b=5→LoopOk Tryd.prog b (lrc_C Inv m).g:=loop_run (Γ:=(PTab.gamz tabC1 [] [])) (Λ:=noΛ) (PTab.okz tabC1 [] []) noΛ_ok 100 55 5 38 lrc_LP [] Inv (fun g=>lrc_R g.1 g.2.1 g.2.2.1 g.2.2.2.1 g.2.2.2.2) (fun g=>lrc_side g.1 g.2.1 g.2.2.1 g.2.2.2.1 g.2.2.2.2) m default [.ret,.exit 0] lrc_one (fun rd T B HL HB ds g=>by kernel_rfl) (fun rd T B HL HB ds g=>by kernel_rfl) hs hg lrc_es
end Go.Proofs.YtmegbepjdololaaDoor

namespace Go.Proofs.YtmegbepjdololaaDoor
open Go.RowKit Go.Sx Go.Lp
def upTo (lo hi:Int):List Int:=(List.range (hi+1 - lo).toNat).map fun (j:Nat)=>lo+(j:Int)
theorem upTo_step (lo hi:Int) (h:lo≤hi):upTo lo hi=lo :: upTo (lo+1) hi:=by
 unfold upTo
 obtain ⟨n,hn⟩:∃ n,(hi+1 - lo).toNat=n+1:=⟨(hi+1 - lo).toNat - 1,by omega⟩
 rw[hn,show (hi+1 - (lo+1)).toNat=n by omega,List.range_succ_eq_map,List.map_cons,List.map_map]
 congr 1
 ·simp
 ·refine List.map_congr_left fun j _=>?_
  simp only[Function.comp]
  omega
theorem upTo_nil (lo hi:Int) (h:hi<lo):upTo lo hi=[]:=by
 unfold upTo
 rw[show (hi+1 - lo).toNat=0 by omega];rfl
def smallI (k:Int):Prop:=-1000≤k∧k≤1000
structure FcC where
 hi:Int
 f:Fn
abbrev FcB:=Int×LoopState×Option Code
def lfc_mk (k:Int) (c:FcC) (b:FcB):lfc_G:=((),(),k,c.hi,c.f,b.1,b.2.1,b.2.2)
noncomputable def lfc_st (c:FcC) (b:FcB) (k:Int):Ex×FcB:=bif k==c.f.kind&&(num_F c.f&&textF c.f) then (.ret,0,.done,some .ret) else (.normal,b.1,.ready,none)
def lfc_P (c:FcC) (b:FcB) (k:Int):Prop:=b.2=(LoopState.ready,(none:Option Code))∧-1000≤k∧k≤1001∧smallI c.hi∧c.f.s.size≤KB
noncomputable abbrev lfc_J (g:lfc_G):List Prop:=ctI FcC.hi lfc_P lfc_mk g
noncomputable abbrev lfc_M (g:lfc_G):Nat:=(g.2.2.2.1+1 - g.2.2.1).toNat
theorem lfc_K:ctK FcC.hi lfc_st lfc_P:=fun c b k h hk hn=>by
 obtain ⟨h1,h2,h3,h4,h5⟩:=h
 have h4':=h4
 unfold smallI at h4'
 unfold lfc_st at hn ⊢
 cases hc:k==c.f.kind&&(num_F c.f&&textF c.f) with
 | true=>rw[hc] at hn;cases hn
 | false=>exact ⟨rfl,by omega,by omega,h4,h5⟩
theorem lfc_F (k:Int) (c:FcC) (b:FcB) (h:lfc_P c b k):lfc_R () () k c.hi c.f b.1=ctR 0 FcC.hi lfc_st lfc_mk k c b:=by
 obtain ⟨r,f⟩:=b
 obtain ⟨h1,h2,h3,h4,h5⟩:=h
 have h1:f=(LoopState.ready,(none:Option Code)):=h1
 subst h1
 unfold lfc_R ctR lfc_st lfc_mk
 by_cases h:k≤c.hi
 ·rw[decide_eq_true h,if_pos h,cond_true,wrS (by omega)]
  cases k==c.f.kind&&(num_F c.f&&textF c.f) <;> rfl
 ·rw[decide_eq_false h,if_neg h,cond_false]
theorem lfc_ok:∀ b∈loopsOf Tryd.prog 103,lkey b=1→LoopOk Tryd.prog b (lfc_C lfc_J lfc_M).g:=
 lfc_loop lfc_J lfc_M (fun g hi=>by
  obtain ⟨k,c,b,rfl,h1,h2,h3,h4,h5⟩:=hi _ (List.mem_cons_self ..)
  show lfc_side () () k c.hi c.f b.1
  exact ⟨fun _=>⟨fun _ _=>h5,fun _=>⟨rfl,rfl⟩,fun _=>⟨rfl,rfl⟩⟩,fun _=>⟨rfl,rfl⟩⟩) (fun g hi=>by
  obtain ⟨k,c,b,rfl,h1,h2⟩:=hi _ (List.mem_cons_self ..)
  obtain ⟨r,f⟩:=b
  have h1:f=(LoopState.ready,(none:Option Code)):=h1
  subst h1
  rfl) (ct_goes (fun k c b=>rfl) (fun k c b h=>lfc_F k c b h) lfc_K)
theorem lfc_scan (c:FcC):∀ (n:Nat) (k:Int) (r:Int),
  ((scanC 0 (lfc_st c) n k (r,.ready,none)).1,(scanC 0 (lfc_st c) n k (r,.ready,none)).2.2) =
    bif (decide (k≤c.f.kind)&&decide (c.f.kind<k+n))&&(num_F c.f&&textF c.f) then (.ret,0,.done,some .ret) else (.exit 0,r,.ready,none)
 | 0,k,r=>by
  have:(decide (k≤c.f.kind)&&decide (c.f.kind<k+((0:Nat):Int)))=false:=by
   cases h1:decide (k≤c.f.kind) with
   | false=>rfl
   | true=>rw[decide_eq_false (by have:=of_decide_eq_true h1;omega)];rfl
  rw[this];rfl
 | n+1,k,r=>by
  have es:lfc_st c (r,.ready,none) k=bif k==c.f.kind&&(num_F c.f&&textF c.f) then (.ret,0,.done,some .ret) else (.normal,r,.ready,none):=rfl
  simp only[scanC,es]
  by_cases hk:k=c.f.kind
  ·have e1:(k==c.f.kind)=true:=by simpa using hk
   have e2:(decide (k≤c.f.kind)&&decide (c.f.kind<k+((n+1:Nat):Int)))=true:=by
    rw[decide_eq_true (by omega),decide_eq_true (by omega)];rfl
   rw[e1,e2]
   cases hc:num_F c.f&&textF c.f with
   | true=>rfl
   | false=>
    have ih:=lfc_scan c n (k+1) r
    rw[hc,Bool.and_false] at ih
    exact ih
  ·have e1:(k==c.f.kind)=false:=by simpa using hk
   have e2:(decide (k≤c.f.kind)&&decide (c.f.kind<k+((n+1:Nat):Int)))=(decide (k+1≤c.f.kind)&&decide (c.f.kind<k+1+(n:Int))):=by
    rw[Bool.eq_iff_iff]
    simp only[Bool.and_eq_true,decide_eq_true_eq]
    omega
   rw[e1,e2]
   exact lfc_scan c n (k+1) r
noncomputable abbrev lfc_RR (g:lfc_G):Ex×lfc_G:=lfc_R g.1 g.2.1 g.2.2.1 g.2.2.2.1 g.2.2.2.2.1 g.2.2.2.2.2.1
theorem lfc_run (k hi:Int) (f:Fn) (r:Int) (h1:-1000≤k∧k≤1001) (h2:smallI hi) (h3:f.s.size≤KB):∃ k',loopF lfc_RR lfc_M ((),(),k,hi,f,r,.ready,none) =
  bif (decide (k≤f.kind)&&decide (f.kind≤hi))&&(num_F f&&textF f) then (.ret,(),(),k',hi,f,0,.done,some .ret) else (.exit 0,(),(),k',hi,f,r,.ready,none):=by
 have h:=ct_run (F:=lfc_RR) (m:=lfc_M) (mk:=lfc_mk) (x:=0) (step:=lfc_st) (P:=lfc_P) (hi:=FcC.hi) (fun k c b=>rfl) (fun k c b h=>lfc_F k c b h) lfc_K _ k ⟨hi,f⟩ (r,.ready,none) ⟨rfl,h1.1,h1.2,h2,h3⟩ rfl
 have e:lfc_mk k ⟨hi,f⟩ (r,.ready,none)=((),(),k,hi,f,r,.ready,none):=rfl
 rw[e] at h
 rw[h]
 have hs:=lfc_scan ⟨hi,f⟩ (hi+1 - k).toNat k r
 have e2:(decide (k≤f.kind)&&decide (f.kind<k+((hi+1 - k).toNat:Int)))=(decide (k≤f.kind)&&decide (f.kind≤hi)):=by
  rw[Bool.eq_iff_iff]
  simp only[Bool.and_eq_true,decide_eq_true_eq]
  omega
 simp only at hs
 rw[e2] at hs
 refine ⟨(scanC 0 (lfc_st ⟨hi,f⟩) (hi+1 - k).toNat k (r,.ready,none)).2.1,?_⟩
 show ((scanC 0 (lfc_st ⟨hi,f⟩) (hi+1 - k).toNat k (r,.ready,none)).1,lfc_mk _ ⟨hi,f⟩ (scanC 0 (lfc_st ⟨hi,f⟩) (hi+1 - k).toNat k (r,.ready,none)).2.2)=_
 rw[Prod.mk.injEq] at hs
 cases hb:(decide (k≤f.kind)&&decide (f.kind≤hi))&&(num_F f&&textF f) with
 | true=>rw[hb] at hs;rw[hs.1,hs.2];rfl
 | false=>rw[hb] at hs;rw[hs.1,hs.2];rfl
theorem bytesI (h:3<Tryd.prog.types.size):(Tryd.prog.types[3]'h).bytes=8:=by kernel_rfl
structure TlC where
 hi:Int
 m:Int
abbrev TlB:=List Int×LoopState×Option Code
def ltl_mk (k:Int) (c:TlC) (b:TlB):ltl_G:=((),c.hi,k,c.m,b.1,b.2.1,b.2.2)
def ltl_st (c:TlC) (b:TlB) (k:Int):Ex×TlB:=bif decide ((b.1.length:Int)≥c.m) then (.ret,b.1,.done,some (.exit 0)) else (.normal,b.1++[k],.ready,none)
def ltl_P (c:TlC) (b:TlB) (k:Int):Prop:=b.2=(LoopState.ready,(none:Option Code))∧-1000≤k∧k≤1001∧smallI c.hi∧(b.1.length:Int)≤k+1000
noncomputable abbrev ltl_J (g:ltl_G):List Prop:=ctI TlC.hi ltl_P ltl_mk g
noncomputable abbrev ltl_M (g:ltl_G):Nat:=(g.2.1+1 - g.2.2.1).toNat
theorem ltl_K:ctK TlC.hi ltl_st ltl_P:=fun c b k h hk hn=>by
 obtain ⟨h1,h2,h3,h4,h5⟩:=h
 have h4':=h4
 unfold smallI at h4'
 unfold ltl_st at hn ⊢
 cases hc:decide ((b.1.length:Int)≥c.m) with
 | true=>rw[hc] at hn;cases hn
 | false=>
  refine ⟨rfl,by omega,by omega,h4,?_⟩
  simp only[cond_false,List.length_append,List.length_cons,List.length_nil]
  omega
theorem ltl_F (k:Int) (c:TlC) (b:TlB) (h:ltl_P c b k):ltl_R () c.hi k c.m b.1=ctR 0 TlC.hi ltl_st ltl_mk k c b:=by
 obtain ⟨r,f⟩:=b
 obtain ⟨h1,h2,h3,h4,h5⟩:=h
 have h1:f=(LoopState.ready,(none:Option Code)):=h1
 subst h1
 unfold ltl_R ctR ltl_st ltl_mk
 by_cases h:k≤c.hi
 ·rw[decide_eq_true h,if_pos h,cond_true,wrS (by omega),app1,eI.ag_eq]
  cases decide ((r.length:Int)≥c.m) <;> rfl
 ·rw[decide_eq_false h,if_neg h,cond_false,eI.ag_eq]
theorem ltl_ok:∀ b∈loopsOf Tryd.prog 103,lkey b=1→LoopOk Tryd.prog b (ltl_C ltl_J ltl_M).g:=
 ltl_loop ltl_J ltl_M (fun g hi=>by
  obtain ⟨k,c,b,rfl,h1,h2,h3,h4,h5⟩:=hi _ (List.mem_cons_self ..)
  show ltl_side () c.hi k c.m b.1
  unfold ltl_side
  rw[bytesI]
  unfold maxLen
  repeat' (first | apply And.intro | intro _)
  all_goals first | trivial | rfl | omega) (fun g hi=>by
  obtain ⟨k,c,b,rfl,h1,h2⟩:=hi _ (List.mem_cons_self ..)
  obtain ⟨r,f⟩:=b
  have h1:f=(LoopState.ready,(none:Option Code)):=h1
  subst h1
  rfl) (ct_goes (fun k c b=>rfl) (fun k c b h=>ltl_F k c b h) ltl_K)
theorem ltl_scan (c:TlC):∀ (n:Nat) (k:Int) (o:List Int),(c.hi+1 - k).toNat=n→(scanC 0 (ltl_st c) n k (o,.ready,none)).2.2.1=o++(upTo k c.hi).take (c.m - o.length).toNat
 | 0,k,o,h=>by rw[upTo_nil k c.hi (by omega)];simp[scanC]
 | n+1,k,o,h=>by
  have es:ltl_st c (o,.ready,none) k=bif decide ((o.length:Int)≥c.m) then (.ret,o,.done,some (.exit 0)) else (.normal,o++[k],.ready,none):=rfl
  simp only[scanC,es]
  by_cases hm:(o.length:Int)≥c.m
  ·rw[decide_eq_true hm,show (c.m - (o.length:Int)).toNat=0 by omega]
   simp
  ·rw[decide_eq_false hm]
   have ih:=ltl_scan c n (k+1) (o++[k]) (by omega)
   simp only[cond_false]
   rw[ih,upTo_step k c.hi (by omega),List.append_assoc]
   congr 1
   rw[show (c.m - (o.length:Int)).toNat=(c.m - ((o++[k]).length:Int)).toNat+1 by simp only[List.length_append,List.length_cons,List.length_nil];omega]
   rfl
noncomputable abbrev ltl_RR (g:ltl_G):Ex×ltl_G:=ltl_R g.1 g.2.1 g.2.2.1 g.2.2.2.1 g.2.2.2.2.1
theorem ltl_run (k hi m:Int) (h1:-1000≤k∧k≤1001) (h2:smallI hi):(loopF ltl_RR ltl_M ((),hi,k,m,[],.ready,none)).2.2.2.2.2.1=(upTo k hi).take m.toNat:=by
 have h:=ct_run (F:=ltl_RR) (m:=ltl_M) (mk:=ltl_mk) (x:=0) (step:=ltl_st) (P:=ltl_P) (hi:=TlC.hi) (fun k c b=>rfl) (fun k c b h=>ltl_F k c b h) ltl_K _ k ⟨hi,m⟩ ([],.ready,none) ⟨rfl,h1.1,h1.2,h2,by simp only[List.length_nil];omega⟩ rfl
 have e:ltl_mk k ⟨hi,m⟩ ([],.ready,none)=((),hi,k,m,[],.ready,none):=rfl
 rw[e] at h
 rw[h]
 have hs:=ltl_scan ⟨hi,m⟩ (hi+1 - k).toNat k [] rfl
 simp only[List.length_nil,List.nil_append] at hs
 show (scanC 0 (ltl_st ⟨hi,m⟩) (hi+1 - k).toNat k ([],.ready,none)).2.2.1=_
 rw[hs]
 congr 1
 simp
def lru2_mk (k:Int) (hi:Int) (o:List Int):lru2_G:=(hi,o,k)
def lru2_st (_:Int) (o:List Int) (k:Int):Ex×List Int:=(.normal,o++[k])
def lru2_P (hi:Int) (o:List Int) (k:Int):Prop:=-1000≤k∧k≤1001∧smallI hi∧(o.length:Int)≤k+1000
noncomputable abbrev lru2_J (g:lru2_G):List Prop:=ctI (fun h:Int=>h) lru2_P lru2_mk g
noncomputable abbrev lru2_M (g:lru2_G):Nat:=(g.1+1 - g.2.2).toNat
theorem lru2_K:ctK (fun h:Int=>h) lru2_st lru2_P:=fun c b k h hk hn=>by
 obtain ⟨h2,h3,h4,h5⟩:=h
 have h4':=h4
 unfold smallI at h4'
 have hk:k≤c:=hk
 refine ⟨by omega,by omega,h4,?_⟩
 simp only[lru2_st,List.length_append,List.length_cons,List.length_nil]
 omega
theorem lru2_F (k:Int) (c:Int) (o:List Int) (h:lru2_P c o k):lru2_R c o k=ctR 1 (fun h:Int=>h) lru2_st lru2_mk k c o:=by
 obtain ⟨h2,h3,h4,h5⟩:=h
 unfold lru2_R ctR lru2_st lru2_mk
 by_cases h:k≤c
 ·rw[decide_eq_true h,if_pos h,cond_true,wrS (by omega),app1]
 ·rw[decide_eq_false h,if_neg h,cond_false,eI.ag_eq]
theorem lru2_ok:∀ b∈loopsOf Tryd.prog 53,lkey b=15→LoopOk Tryd.prog b (lru2_C lru2_J lru2_M).g:=
 lru2_loop lru2_J lru2_M (fun g hi=>by
  obtain ⟨k,c,o,rfl,h2,h3,h4,h5⟩:=hi _ (List.mem_cons_self ..)
  show lru2_side c o k
  unfold lru2_side
  rw[bytesI]
  unfold maxLen
  repeat' (first | apply And.intro | intro _)
  all_goals first | trivial | rfl | omega) (ct_goes (fun k c b=>rfl) (fun k c b h=>lru2_F k c b h) lru2_K)
theorem lru2_scan (c:Int):∀ (n:Nat) (k:Int) (o:List Int),(c+1 - k).toNat=n→(scanC 1 (lru2_st c) n k o).1=.exit 1∧(scanC 1 (lru2_st c) n k o).2.2=o++upTo k c
 | 0,k,o,h=>by rw[upTo_nil k c (by omega)];simp[scanC]
 | n+1,k,o,h=>by
  simp only[scanC,lru2_st]
  have ih:=lru2_scan c n (k+1) (o++[k]) (by omega)
  rw[upTo_step k c (by omega)]
  refine ⟨ih.1,ih.2.trans ?_⟩
  rw[List.append_assoc];rfl
noncomputable abbrev lru2_RR (g:lru2_G):Ex×lru2_G:=lru2_R g.1 g.2.1 g.2.2
theorem lru2_run (k hi:Int) (h1:-1000≤k∧k≤1001) (h2:smallI hi):(loopF lru2_RR lru2_M (hi,[],k)).1=.exit 1∧(loopF lru2_RR lru2_M (hi,[],k)).2.2.1=upTo k hi:=by
 have h:=ct_run (F:=lru2_RR) (m:=lru2_M) (mk:=lru2_mk) (x:=1) (step:=lru2_st) (P:=lru2_P) (hi:=fun h:Int=>h) (fun k c b=>rfl) (fun k c b h=>lru2_F k c b h) lru2_K _ k hi [] ⟨h1.1,h1.2,h2,by simp only[List.length_nil];omega⟩ rfl
 have e:lru2_mk k hi []=(hi,[],k):=rfl
 rw[e] at h
 rw[h]
 have hs:=lru2_scan hi (hi+1 - k).toNat k [] rfl
 exact hs
noncomputable def ltC3:LTab Tryd.prog:=(LTab.cons (LTab.cons ltB9 103 1 (lfc_C lfc_J lfc_M) lfc_ok) 53 15 (lru2_C lru2_J lru2_M) lru2_ok)
noncomputable def ltC3t:LTab Tryd.prog:=LTab.nil.cons 103 1 (ltl_C ltl_J ltl_M) ltl_ok
noncomputable abbrev lamC3t:Lam:=ltC3t.lam
theorem lamC3t_ok:∀ f k L,lamC3t f k=some L→∀ b∈loopsOf Tryd.prog f,lkey b=k→LoopOk Tryd.prog b L.g:=ltC3t.ok
end Go.Proofs.YtmegbepjdololaaDoor

namespace Go.Proofs.YtmegbepjdololaaDoor
open Go.RowKit Go.Sx Go.Lp
set_option maxRecDepth 100000
noncomputable def lrc_S (c:lrc_GC) (b:lrc_GB) (i:Int) (v:Int):Ex×lrc_GB:=bif v==c.2.kind&&(rnum_F c.2&&textF c.2) then (.ret,b.1,0) else (.normal,b.1,b.2)
def lrc_K (c:lrc_GC) (b:lrc_GB) (i:Int):Prop:=c.2.s.size≤KB
abbrev lrc_I (g:lrc_G):List Prop:=ixI (fun c:lrc_GC=>(c.1.length:Int)) (fun c:lrc_GC=>c.1) lrc_K (lrc_f g)
abbrev lrc_M (g:lrc_G):Nat:=ixM (fun c:lrc_GC=>(c.1.length:Int)) (lrc_f g)
theorem lrc_P:ixP lrc_S (fun c:lrc_GC=>c.1) lrc_K:=fun _ _ _ _ h _ _=>h
noncomputable abbrev lrc_RR (g:lrc_G):Ex×lrc_G:=lrc_R g.1 g.2.1 g.2.2.1 g.2.2.2.1 g.2.2.2.2
theorem lrc_RF (d:Int×lrc_GC×lrc_GB) (hi:allP (ixI (fun c:lrc_GC=>(c.1.length:Int)) (fun c:lrc_GC=>c.1) lrc_K d)):lrc_RR (lrc_g d)=((ixF 0 (fun c:lrc_GC=>(c.1.length:Int)) (fun c:lrc_GC=>c.1) eI.dflt lrc_S d).1,lrc_g (ixF 0 (fun c:lrc_GC=>(c.1.length:Int)) (fun c:lrc_GC=>c.1) eI.dflt lrc_S d).2):=by
 obtain ⟨i,⟨xs,f⟩,⟨⟨⟩,r⟩⟩:=d
 show lrc_R xs i () f r=_
 unfold lrc_R ixF lrc_S
 simp only[El.ag_eq]
 cases decide (i<(xs.length:Int)) with
 | false=>rfl
 | true=>
  simp only[cond_true]
  generalize ((xs.getD i.toNat eI.dflt)==f.kind&&(rnum_F f&&textF f))=z
  cases z <;> rfl
theorem lrc_ok:∀ b∈loopsOf Tryd.prog 55,lkey b=5→LoopOk Tryd.prog b (lrc_C lrc_I lrc_M).g:=by
 refine lrc_loop lrc_I lrc_M (fun g hi=>?_) (ix_conj_goes (fun _=>rfl) (fun _=>rfl) lrc_RF lrc_P)
 obtain ⟨xs,i,⟨⟩,f,r⟩:=g
 obtain ⟨h1,h2,h3,h4,h5⟩:=hi _ (List.mem_cons_self ..)
 have h1:(xs.length:Int)=(xs.length:Int):=h1
 have h3:0≤i:=h3
 have h5:f.s.size≤KB:=h5
 show lrc_side xs i () f r
 unfold lrc_side
 simp only[decide_eq_true_eq,decide_eq_false_iff_not]
 have k0:∀ e:Nat,e<xs.length→eI.Ok (eI.els xs e):=fun e _=>eI.ok_els xs e
 clear hi
 repeat' (first | exact k0 | apply And.intro | intro _)
 all_goals omega
theorem lrc_run (c:lrc_GC) (b:lrc_GB) (k1:(c.1.length:Int)=((c.1).length:Int)) (k2:(c.1).length≤maxLen) (k3:lrc_K c b 0):loopF lrc_RR lrc_M (lrc_g (0,c,b))=((scan 0 (lrc_S c) 0 (c.1) b).1,lrc_g ((scan 0 (lrc_S c) 0 (c.1) b).2.1,c,(scan 0 (lrc_S c) 0 (c.1) b).2.2)):=ix_conj_run (φ:=lrc_f) (ψ:=lrc_g) (fun _=>rfl) (fun _=>rfl) lrc_RF lrc_P c b k1 k2 k3
noncomputable def ltC4:LTab Tryd.prog:=(ltC3.cons 55 5 (lrc_C lrc_I lrc_M) lrc_ok)
noncomputable abbrev lamC4:Lam:=ltC4.lam
theorem lamC4_ok:∀ f k L,lamC4 f k=some L→∀ b∈loopsOf Tryd.prog f,lkey b=k→LoopOk Tryd.prog b L.g:=ltC4.ok
end Go.Proofs.YtmegbepjdololaaDoor

namespace Go.Proofs.YtmegbepjdololaaDoor
open Go.RowKit Go.Sx
set_option maxRecDepth 100000
set_option linter.unusedVariables false
noncomputable def fck_q1 (k:Int) (f:Fn):Ex ×
 lfc_G:=
 loopF (fun g=>lfc_R g.fst g.snd.fst g.snd.snd.fst g.snd.snd.snd.fst g.snd.snd.snd.snd.fst g.snd.snd.snd.snd.snd.fst) lfc_M ((),(),(uses_F k).fst,(uses_F k).snd,f,(0:Int),LoopState.ready,none)
noncomputable def fck_F (k:Int) (f:Fn):Dv.T dI:=
 bif decide ((uses_F k).snd<(0:Int)) then bif !conj ([f.kind==(0:Int)]++([f.a==(0:Int)]++([decide (f.s=ByteArray.mk #[])]++[]))) then (60:Int) else (0:Int)
 else bif exB Ex.ret (fck_q1 k f).fst then (fck_q1 k f).snd.snd.snd.snd.snd.snd.fst else (60:Int)
def fck_side (k:Int) (f:Fn):Prop:=
 decide ((uses_F k).snd<(0:Int))=false→CodeIs (rangeOf Tryd.prog (54:Nat) (0:Nat)).snd.fst (rangeOf Tryd.prog (54:Nat) (0:Nat)).snd.fst∧CodeIs (rangeOf Tryd.prog (54:Nat) (0:Nat)).snd.snd (rangeOf Tryd.prog (54:Nat) (0:Nat)).snd.snd∧∃ k_1 c b,((),(),(uses_F k).fst,(uses_F k).snd,f,(0:Int),LoopState.ready,none)=lfc_mk k_1 c b∧lfc_P c b k_1
theorem fck_okS (pre:DA.T aIF→List Prop) (h:∀ g,DA.bd aIF g→(∀ p∈pre g,p)→fck_side g.1 g.2):FnPure Tryd.prog 54 aIF dI (fun g=>fck_F g.1 g.2) pre:=pure_of_sideS (Γ:=(PTab.gamz tabC1 [] [])) (Λ:=lamC4) (PTab.okz tabC1 [] []) lamC4_ok 100 default (fun g=>fck_side g.1 g.2) (fun g=>by kernel_rfl) (fun g=>by kernel_rfl) h
noncomputable def rus_q1 (k:Int):Ex ×
 lru2_G:=
 loopF (fun g=>lru2_R g.fst g.snd.fst g.snd.snd) lru2_M (bif k==(2:Int) then (8:Int) else bif k==(3:Int) then (13:Int) else bif k==(4:Int) then (22:Int) else bif k==(8:Int) then (34:Int) else bif k==(11:Int) then (42:Int) else (0:Int),[],bif k==(2:Int) then (1:Int) else bif k==(3:Int) then (11:Int) else bif k==(4:Int) then (21:Int) else bif k==(8:Int) then (31:Int) else bif k==(11:Int) then (41:Int) else (1:Int))
noncomputable def rus_F (k:Int):Rv.T (.list eI):=
 eI.ag (rus_q1 k).snd.snd.fst
def rus_side (k:Int):Prop:=
 (∃ k_1 c b,(bif k==(2:Int) then (8:Int) else bif k==(3:Int) then (13:Int) else bif k==(4:Int) then (22:Int) else bif k==(8:Int) then (34:Int) else bif k==(11:Int) then (42:Int) else (0:Int),[],bif k==(2:Int) then (1:Int) else bif k==(3:Int) then (11:Int) else bif k==(4:Int) then (21:Int) else bif k==(8:Int) then (31:Int) else bif k==(11:Int) then (41:Int) else (1:Int))=lru2_mk k_1 c b∧lru2_P c b k_1)∧(rus_q1 k).snd.snd.fst.length≤(rus_q1 k).snd.snd.fst.length∧∀ (e:Nat),e<(rus_q1 k).snd.snd.fst.length→True
theorem rus_okS (pre:DA.T aI→List Prop) (h:∀ g,DA.bd aI g→(∀ p∈pre g,p)→rus_side g):FnPure Tryd.prog 53 aI (Rv.D (.list eI)) (fun g=>rus_F g) pre:=res_of_side (R:=(.list eI)) (Γ:=(PTab.gamz tabC1 [] [])) (Λ:=lamC4) (PTab.okz tabC1 [] []) lamC4_ok 100 default (fun g=>rus_side g) (fun g=>by kernel_rfl) (fun g=>by kernel_rfl) h
end Go.Proofs.YtmegbepjdololaaDoor

namespace Go.Proofs.YtmegbepjdololaaDoor
open Go.RowKit Go.Sx
set_option maxRecDepth 100000
set_option linter.unusedVariables false
noncomputable def tld_q1 (c:Int×Int) (m:Int):Ex ×
 ltl_G:=
 loopF (fun g=>ltl_R g.fst g.snd.fst g.snd.snd.fst g.snd.snd.snd.fst g.snd.snd.snd.snd.fst) ltl_M ((),c.snd,c.fst,m,[],LoopState.ready,none)
noncomputable def tld_F (c:Int×Int) (m:Int):Rv.T (.list eI):=
 bif exB Ex.ret (tld_q1 c m).fst then eI.lst (bif exB Ex.ret (tld_q1 c m).fst then (tld_q1 c m).snd.snd.snd.snd.snd.fst.length else (tld_q1 c m).snd.snd.snd.snd.snd.fst.length) (eI.els (tld_q1 c m).snd.snd.snd.snd.snd.fst)
 else eI.lst (bif exB Ex.ret (tld_q1 c m).fst then (tld_q1 c m).snd.snd.snd.snd.snd.fst.length else (tld_q1 c m).snd.snd.snd.snd.snd.fst.length) (eI.els (tld_q1 c m).snd.snd.snd.snd.snd.fst)
def tld_side (c:Int×Int) (m:Int):Prop:=
 CodeIs (rangeOf Tryd.prog (57:Nat) (0:Nat)).snd.fst (rangeOf Tryd.prog (57:Nat) (0:Nat)).snd.fst∧CodeIs (rangeOf Tryd.prog (57:Nat) (0:Nat)).snd.snd (rangeOf Tryd.prog (57:Nat) (0:Nat)).snd.snd∧(∃ k c_1 b,((),c.snd,c.fst,m,[],LoopState.ready,none)=ltl_mk k c_1 b∧ltl_P c_1 b k)∧((bif exB Ex.ret (tld_q1 c m).fst then (tld_q1 c m).snd.snd.snd.snd.snd.fst.length else (tld_q1 c m).snd.snd.snd.snd.snd.fst.length)≤bif exB Ex.ret (tld_q1 c m).fst then (tld_q1 c m).snd.snd.snd.snd.snd.fst.length else (tld_q1 c m).snd.snd.snd.snd.snd.fst.length)∧(∀ (e:Nat),(e<bif exB Ex.ret (tld_q1 c m).fst then (tld_q1 c m).snd.snd.snd.snd.snd.fst.length else (tld_q1 c m).snd.snd.snd.snd.snd.fst.length)→True)∧∀ (e:Nat),(e<bif exB Ex.ret (tld_q1 c m).fst then (tld_q1 c m).snd.snd.snd.snd.snd.fst.length else (tld_q1 c m).snd.snd.snd.snd.snd.fst.length)→True
theorem tld_okS (pre:DA.T aIt→List Prop) (h:∀ g,DA.bd aIt g→(∀ p∈pre g,p)→tld_side g.1 g.2):FnPure Tryd.prog 57 aIt (Rv.D (.list eI)) (fun g=>tld_F g.1 g.2) pre:=res_of_side (R:=(.list eI)) (Γ:=(PTab.gamz tabC1 [] [])) (Λ:=lamC3t) (PTab.okz tabC1 [] []) lamC3t_ok 100 default (fun g=>tld_side g.1 g.2) (fun g=>by kernel_rfl) (fun g=>by kernel_rfl) h
end Go.Proofs.YtmegbepjdololaaDoor

namespace Go.Proofs.YtmegbepjdololaaDoor
open Go.RowKit Go.Sx Go.Lp
noncomputable def usesL (k:Int):List Int:=upTo (uses_F k).1 (uses_F k).2
theorem uses_small (k:Int):(0≤(uses_F k).1∧(uses_F k).1≤100)∧(-1≤(uses_F k).2∧(uses_F k).2≤100):=by
 unfold uses_F
 generalize (k==(2:Int))=b1
 generalize (k==(3:Int))=b2
 generalize (k==(4:Int))=b3
 generalize (k==(8:Int))=b4
 generalize (k==(11:Int))=b5
 revert b1 b2 b3 b4 b5
 decide
def noFn:Fn:=⟨0,0,ByteArray.mk #[]⟩
noncomputable def chkF (k:Int) (f:Fn):Int:=
 bif decide ((uses_F k).2<0) then (bif decide (f=noFn) then 0 else 60) else bif (decide ((uses_F k).1≤f.kind)&&decide (f.kind≤(uses_F k).2))&&(num_F f&&textF f) then 0 else 60
theorem conj_F (f:Fn):conj ([f.kind==(0:Int)]++([f.a==(0:Int)]++([decide (f.s=ByteArray.mk #[])]++[])))=decide (f=noFn):=by
 obtain ⟨k,a,s⟩:=f
 unfold noFn
 rw[Bool.eq_iff_iff]
 simp[conj]
theorem fck_ok:FnPure Tryd.prog 54 aIF dI (fun g=>chkF g.1 g.2) (fun g=>[g.2.s.size≤KB]):=
 pure_congr (fck_okS _ fun g _ hp=>by
  obtain ⟨k,f⟩:=g
  have h:f.s.size≤KB:=hp _ (List.mem_cons_self ..)
  obtain ⟨⟨a1,a2⟩,a3,a4⟩:=uses_small k
  exact fun _=>⟨rfl,rfl,(uses_F k).1,⟨(uses_F k).2,f⟩,(0,.ready,none),rfl,rfl,by omega,by omega,⟨by show -1000≤(uses_F k).2;omega,by show (uses_F k).2≤1000;omega⟩,h⟩) fun g _ hp=>by
  obtain ⟨k,f⟩:=g
  have h:f.s.size≤KB:=hp _ (List.mem_cons_self ..)
  obtain ⟨⟨a1,a2⟩,a3,a4⟩:=uses_small k
  obtain ⟨k',hr⟩:=lfc_run (uses_F k).1 (uses_F k).2 f 0 ⟨by omega,by omega⟩ ⟨by omega,by omega⟩ h
  have hr:fck_q1 k f=_:=hr
  show fck_F k f=chkF k f
  unfold fck_F chkF
  rw[hr,conj_F]
  cases decide ((uses_F k).2<0) with
  | true=>cases decide (f=noFn) <;> rfl
  | false=>
   cases hb:(decide ((uses_F k).1≤f.kind)&&decide (f.kind≤(uses_F k).2))&&(num_F f&&textF f) <;> rfl
theorem rus_bounds (k:Int):(bif k==(2:Int) then (8:Int) else bif k==(3:Int) then (13:Int) else bif k==(4:Int) then (22:Int) else bif k==(8:Int) then (34:Int) else bif k==(11:Int) then (42:Int) else (0:Int))≤100 ∧
  0≤(bif k==(2:Int) then (8:Int) else bif k==(3:Int) then (13:Int) else bif k==(4:Int) then (22:Int) else bif k==(8:Int) then (34:Int) else bif k==(11:Int) then (42:Int) else (0:Int)) ∧
  (bif k==(2:Int) then (1:Int) else bif k==(3:Int) then (11:Int) else bif k==(4:Int) then (21:Int) else bif k==(8:Int) then (31:Int) else bif k==(11:Int) then (41:Int) else (1:Int))≤100 ∧
  0≤(bif k==(2:Int) then (1:Int) else bif k==(3:Int) then (11:Int) else bif k==(4:Int) then (21:Int) else bif k==(8:Int) then (31:Int) else bif k==(11:Int) then (41:Int) else (1:Int)) ∧
  upTo (bif k==(2:Int) then (1:Int) else bif k==(3:Int) then (11:Int) else bif k==(4:Int) then (21:Int) else bif k==(8:Int) then (31:Int) else bif k==(11:Int) then (41:Int) else (1:Int)) (bif k==(2:Int) then (8:Int) else bif k==(3:Int) then (13:Int) else bif k==(4:Int) then (22:Int) else bif k==(8:Int) then (34:Int) else bif k==(11:Int) then (42:Int) else (0:Int))=usesL k:=by
 unfold usesL uses_F
 generalize (k==(2:Int))=b1
 generalize (k==(3:Int))=b2
 generalize (k==(4:Int))=b3
 generalize (k==(8:Int))=b4
 generalize (k==(11:Int))=b5
 refine ⟨?_,?_,?_,?_,?_⟩
 ·revert b1 b2 b3 b4 b5;decide
 ·revert b1 b2 b3 b4 b5;decide
 ·revert b1 b2 b3 b4 b5;decide
 ·revert b1 b2 b3 b4 b5;decide
 ·cases b1 <;> cases b2 <;> cases b3 <;> cases b4 <;> cases b5 <;> rfl
theorem rus_ok:FnPure Tryd.prog 53 aI dLI usesL (fun _=>[]):=
 pure_congr (rus_okS _ fun k _ _=>by
  obtain ⟨b1,b2,b3,b4,_⟩:=rus_bounds k
  exact ⟨⟨_,_,[],rfl,Int.le_trans (by decide) b4,Int.le_trans b3 (by decide),⟨Int.le_trans (by decide) b2,Int.le_trans b1 (by decide)⟩,Int.le_trans (by decide) (Int.add_le_add b4 (Int.le_refl 1000))⟩,Nat.le_refl _,fun _ _=>trivial⟩) fun k _ _=>by
  obtain ⟨b1,b2,b3,b4,b5⟩:=rus_bounds k
  show eI.ag (rus_q1 k).2.2.1=_
  rw[eI.ag_eq]
  have hr:(rus_q1 k).2.2.1=_:=(lru2_run _ _ ⟨by omega,by omega⟩ ⟨by omega,by omega⟩).2
  rw[hr,b5]
theorem tld_ok:FnPure Tryd.prog 57 aIt dLI (fun g=>(upTo g.1.1 g.1.2).take g.2.toNat) (fun g=>[(0≤g.1.1∧g.1.1≤100)∧(-1≤g.1.2∧g.1.2≤100)]):=
 pure_congr (tld_okS _ fun g _ hp=>by
  obtain ⟨c,m⟩:=g
  have h:=hp _ (List.mem_cons_self ..)
  simp only at h
  obtain ⟨⟨a1,a2⟩,a3,a4⟩:=h
  refine ⟨rfl,rfl,⟨c.1,⟨c.2,m⟩,([],.ready,none),rfl,rfl,by omega,by omega,⟨by show -1000≤c.2;omega,by show c.2≤1000;omega⟩,by simp only[List.length_nil];omega⟩,Nat.le_refl _,fun _ _=>trivial,fun _ _=>trivial⟩) fun g _ hp=>by
  obtain ⟨c,m⟩:=g
  have h:=hp _ (List.mem_cons_self ..)
  simp only at h
  obtain ⟨⟨a1,a2⟩,a3,a4⟩:=h
  have hr:(tld_q1 c m).2.2.2.2.2.1=_:=ltl_run c.1 c.2 m ⟨by omega,by omega⟩ ⟨by omega,by omega⟩
  show tld_F c m=_
  unfold tld_F
  simp only[Bool.cond_self,eI.lst_els]
  exact hr
noncomputable def tabC7:PTab Tryd.prog:=((tabC1.cons 54 (pconP aIF dI (fun g=>chkF g.1 g.2) (fun g=>[g.2.s.size≤KB])) (conP_ok fck_ok puI)).cons 53 (pconR aI dLI usesL (fun _=>[])) (conR_ok rus_ok)).cons 57 (pconR aIt dLI (fun g=>(upTo g.1.1 g.1.2).take g.2.toNat) (fun g=>[(0≤g.1.1∧g.1.1≤100)∧(-1≤g.1.2∧g.1.2≤100)])) (conR_ok tld_ok)
end Go.Proofs.YtmegbepjdololaaDoor

namespace Go.Proofs.YtmegbepjdololaaDoor
open Go.RowKit Go.Sx
set_option maxRecDepth 100000
set_option linter.unusedVariables false
noncomputable def rfc_q1 (k:Int) (f:Fn):Ex ×
 lrc_G:=
 loopF (fun g=>lrc_R g.fst g.snd.fst g.snd.snd.fst g.snd.snd.snd.fst g.snd.snd.snd.snd) lrc_M (eI.ag (usesL k),(0:Int),(),f,(0:Int))
noncomputable def rfc_F (k:Int) (f:Fn):Dv.T dI:=
 bif (↑(usesL k).length:Int)==(0:Int)&&conj ([f.kind==(0:Int)]++([f.a==(0:Int)]++([decide (f.s=ByteArray.mk #[])]++[]))) then (0:Int)
 else bif exB Ex.ret (rfc_q1 k f).fst then (rfc_q1 k f).snd.snd.snd.snd.snd else (60:Int)
def rfc_side (k:Int) (f:Fn):Prop:=
 ((↑(usesL k).length:Int)==(0:Int)&&conj ([f.kind==(0:Int)]++([f.a==(0:Int)]++([decide (f.s=ByteArray.mk #[])]++[]))))=false→eI.okL (usesL k)∧Lp.ixJ (fun c=>(↑c.fst.length:Int)) (fun c=>c.fst) lrc_K (lrc_f (eI.ag (usesL k),(0:Int),(),f,(0:Int)))
theorem rfc_okS (pre:DA.T aIF→List Prop) (h:∀ g,DA.bd aIF g→(∀ p∈pre g,p)→rfc_side g.1 g.2):FnPure Tryd.prog 55 aIF dI (fun g=>rfc_F g.1 g.2) pre:=pure_of_sideS (Γ:=(PTab.gamz tabC7 [] [])) (Λ:=lamC4) (PTab.okz tabC7 [] []) lamC4_ok 100 default (fun g=>rfc_side g.1 g.2) (fun g=>by kernel_rfl) (fun g=>by kernel_rfl) h
noncomputable def both_F (k:Int) (f:Fn) (r:Rec):Dv.T dI:=
 bif chkF k f != (0:Int) then chkF k f else chkR r
def both_side (k:Int) (f:Fn) (r:Rec):Prop:=
 ByteArray.size f.s≤KB
theorem both_okS (pre:DA.T aIFR→List Prop) (h:∀ g,DA.bd aIFR g→(∀ p∈pre g,p)→both_side g.1 g.2.1 g.2.2):FnPure Tryd.prog 92 aIFR dI (fun g=>both_F g.1 g.2.1 g.2.2) pre:=pure_of_sideS (Γ:=(PTab.gamz tabC7 [] [])) (Λ:=lamC4) (PTab.okz tabC7 [] []) lamC4_ok 100 default (fun g=>both_side g.1 g.2.1 g.2.2) (fun g=>by kernel_rfl) (fun g=>by kernel_rfl) h
end Go.Proofs.YtmegbepjdololaaDoor

namespace Go.Proofs.YtmegbepjdololaaDoor
open Go.RowKit Go.Sx Go.Lp
theorem mem_upTo (lo hi v:Int):v∈upTo lo hi↔lo≤v∧v≤hi:=by
 unfold upTo
 rw[List.mem_map]
 constructor
 ·rintro ⟨j,h1,rfl⟩
  rw[List.mem_range] at h1
  omega
 ·rintro ⟨h1,h2⟩
  exact ⟨(v - lo).toNat,by rw[List.mem_range];omega,by omega⟩
theorem upTo_len (lo hi:Int):(upTo lo hi).length=(hi+1 - lo).toNat:=by simp[upTo]
theorem uses_none (k:Int):((usesL k).length=0)↔(uses_F k).2<0:=by
 unfold usesL
 rw[upTo_len]
 unfold uses_F
 generalize (k==(2:Int))=b1
 generalize (k==(3:Int))=b2
 generalize (k==(4:Int))=b3
 generalize (k==(8:Int))=b4
 generalize (k==(11:Int))=b5
 revert b1 b2 b3 b4 b5
 decide
theorem uses_len (k:Int):(usesL k).length≤8:=by
 unfold usesL
 rw[upTo_len]
 unfold uses_F
 generalize (k==(2:Int))=b1
 generalize (k==(3:Int))=b2
 generalize (k==(4:Int))=b3
 generalize (k==(8:Int))=b4
 generalize (k==(11:Int))=b5
 revert b1 b2 b3 b4 b5
 decide
theorem rfc_ok:FnPure Tryd.prog 55 aIF dI (fun g=>chkF g.1 g.2) (fun g=>[g.2.s.size≤KB]):=
 pure_congr (rfc_okS _ fun g _ hp=>by
  obtain ⟨k,f⟩:=g
  have h:f.s.size≤KB:=hp _ (List.mem_cons_self ..)
  have hl:=uses_len k
  show rfc_side k f
  unfold rfc_side
  simp only[El.okL_eq,El.ag_eq,true_and]
  exact fun _=>⟨rfl,by show (usesL k).length≤maxLen;unfold maxLen;omega,Int.le_refl _,by show (0:Int)≤((usesL k).length:Int);omega,h⟩) fun g _ hp=>by
  obtain ⟨k,f⟩:=g
  have h:f.s.size≤KB:=hp _ (List.mem_cons_self ..)
  have hl:=uses_len k
  have hn:=uses_none k
  have hrun:=lrc_run (usesL k,f) ((),0) rfl (by show (usesL k).length≤maxLen;unfold maxLen;omega) h
  have hq:rfc_q1 k f=loopF lrc_RR lrc_M (lrc_g (0,(usesL k,f),(),0)):=by
   unfold rfc_q1
   rw[eI.ag_eq]
   rfl
  show rfc_F k f=chkF k f
  unfold rfc_F chkF
  rw[conj_F,hq,hrun]
  have hs:=search (x:=0) (st:=lrc_S (usesL k,f)) (p:=fun v=>v==f.kind&&(rnum_F f&&textF f)) (r:=fun _ _ b=>(b.1,0)) (fun b i a=>rfl) (usesL k) ((),0)
  have hany:(usesL k).any (fun v=>v==f.kind&&(rnum_F f&&textF f))=((decide ((uses_F k).1≤f.kind)&&decide (f.kind≤(uses_F k).2))&&(num_F f&&textF f)):=by
   have e1:rnum_F f=num_F f:=rfl
   rw[e1,Bool.eq_iff_iff,List.any_eq_true]
   simp only[Bool.and_eq_true,beq_iff_eq,decide_eq_true_eq]
   constructor
   ·rintro ⟨v,h1,rfl,h2⟩
    exact ⟨(mem_upTo _ _ _).1 h1,h2⟩
   ·rintro ⟨h1,h2⟩
    exact ⟨f.kind,(mem_upTo _ _ _).2 h1,rfl,h2⟩
  by_cases hz:(uses_F k).2<0
  ·have h0:=hn.2 hz
   have hnil:=List.length_eq_zero_iff.1 h0
   rw[decide_eq_true hz,cond_true,h0]
   cases decide (f=noFn) with
   | true=>rfl
   | false=>
    rcases hs with ⟨h1,j,_,a,_,_,hs⟩ | ⟨_,hs⟩
    ·rw[hnil] at h1;cases h1
    ·rw[hs];rfl
  ·have h0:(((usesL k).length:Int)==0)=false:=by
    rw[beq_eq_false_iff_ne]
    intro hc
    exact hz (hn.1 (by omega))
   rw[decide_eq_false hz,cond_false,h0]
   rcases hs with ⟨h1,j,_,a,_,_,hs⟩ | ⟨h1,hs⟩
   ·rw[hany] at h1;rw[hs,h1];rfl
   ·rw[hany] at h1;rw[hs,h1];rfl
noncomputable def bothF (k:Int) (f:Fn) (r:Rec):Int:=bif chkF k f != (0:Int) then chkF k f else chkR r
theorem both_ok:FnPure Tryd.prog 92 aIFR dI (fun g=>bothF g.1 g.2.1 g.2.2) (fun g=>[g.2.1.s.size≤KB]):=
 pure_congr (both_okS _ fun g _ hp=>hp _ (List.mem_cons_self ..)) fun g _ _=>rfl
noncomputable def tabC9:PTab Tryd.prog:=(tabC7.cons 55 (pconP aIF dI (fun g=>chkF g.1 g.2) (fun g=>[g.2.s.size≤KB])) (conP_ok rfc_ok puI)).cons 92 (pconP aIFR dI (fun g=>bothF g.1 g.2.1 g.2.2) (fun g=>[g.2.1.s.size≤KB])) (conP_ok both_ok puI)
end Go.Proofs.YtmegbepjdololaaDoor

namespace Go.Proofs.YtmegbepjdololaaDoor
open Go.RowKit Go.Sx
set_option maxRecDepth 100000
set_option linter.unusedVariables false
abbrev aPt:DA (BA×List Rune×Int×Int):=.cons dStr (.cons dLU (.cons dI (.one dI)))
abbrev rUn:RM Unit:=RM.pure (Dv.tup DA.none)
noncomputable def may_F (k:Int) (f:Fn) (r:Rec):Dv.T dI:=
 bif chkF k f != (0:Int) then chkF k f else chkR r
def may_side (k:Int) (f:Fn) (r:Rec):Prop:=
 ByteArray.size f.s≤KB
theorem may_okS (pre:DA.T aIFR→List Prop) (h:∀ g,DA.bd aIFR g→(∀ p∈pre g,p)→may_side g.1 g.2.1 g.2.2):FnPure Tryd.prog 108 aIFR dI (fun g=>may_F g.1 g.2.1 g.2.2) pre:=pure_of_sideS (Γ:=(PTab.gamz tabC9 [] [])) (Λ:=noΛ) (PTab.okz tabC9 [] []) noΛ_ok 100 default (fun g=>may_side g.1 g.2.1 g.2.2) (fun g=>by kernel_rfl) (fun g=>by kernel_rfl) h
noncomputable def part_F (s:BA) (l:List Rune) (a:Int) (b:Int):Dv.T dStr:=
 ByteArray.extract s (bif decide (a<(↑l.length:Int)) then (l.getD a.toNat eU.dflt).at' else (↑(ByteArray.size s):Int)).toNat (bif decide (b<(↑l.length:Int)) then (l.getD b.toNat eU.dflt).at' else (↑(ByteArray.size s):Int)).toNat
def part_side (s:BA) (l:List Rune) (a:Int) (b:Int):Prop:=
 (decide (a<(↑l.length:Int))=true→(0:Int)≤a∧a<(↑l.length:Int))∧(decide (b<(↑l.length:Int))=true→(0:Int)≤b∧b<(↑l.length:Int))∧(((0:Int)≤bif decide (b<(↑l.length:Int)) then (l.getD b.toNat eU.dflt).at' else (↑(ByteArray.size s):Int))∧(bif decide (b<(↑l.length:Int)) then (l.getD b.toNat eU.dflt).at' else (↑(ByteArray.size s):Int))≤(↑(ByteArray.size s):Int))∧((0:Int)≤bif decide (a<(↑l.length:Int)) then (l.getD a.toNat eU.dflt).at' else (↑(ByteArray.size s):Int))∧(bif decide (a<(↑l.length:Int)) then (l.getD a.toNat eU.dflt).at' else (↑(ByteArray.size s):Int))≤(↑(bif decide (b<(↑l.length:Int)) then (l.getD b.toNat eU.dflt).at' else (↑(ByteArray.size s):Int)).toNat:Int)
theorem part_okS (pre:DA.T aPt→List Prop) (h:∀ g,DA.bd aPt g→(∀ p∈pre g,p)→part_side g.1 g.2.1 g.2.2.1 g.2.2.2):FnPure Tryd.prog 110 aPt dStr (fun g=>part_F g.1 g.2.1 g.2.2.1 g.2.2.2) pre:=pure_of_sideS (Γ:=(PTab.gamz tabC9 [] [])) (Λ:=noΛ) (PTab.okz tabC9 [] []) noΛ_ok 100 default (fun g=>part_side g.1 g.2.1 g.2.2.1 g.2.2.2) (fun g=>by kernel_rfl) (fun g=>by kernel_rfl) h
noncomputable def rest2_F (n:Int) (b:Int):Dv.T dI:=
 bif decide (n.tmod b<(0:Int)) then IntKind.i64.wrap (n.tmod b+b) else n.tmod b
def rest2_side (n:Int) (b:Int):Prop:=
 b≠(0:Int)
theorem rest2_okS (pre:DA.T aII→List Prop) (h:∀ g,DA.bd aII g→(∀ p∈pre g,p)→rest2_side g.1 g.2):FnPure Tryd.prog 96 aII dI (fun g=>rest2_F g.1 g.2) pre:=pure_of_sideS (Γ:=(PTab.gamz tabC9 [] [])) (Λ:=noΛ) (PTab.okz tabC9 [] []) noΛ_ok 100 default (fun g=>rest2_side g.1 g.2) (fun g=>by kernel_rfl) (fun g=>by kernel_rfl) h
abbrev rv_G:Type:=Nat×List Int×Int×Int
noncomputable def rv_LP:LP 1 rv_G:=.pair (.owl 1 0 0) (.pair (.rowO 1 0 21 e3) (.pair (.slot 1 2 dI) (.slot 1 3 dI)))
noncomputable def rv_R (l:Nat) (xs:List Int) (i:Int) (j:Int):Ex×rv_G:=
 bif decide (i<j) then (Ex.normal,l,((e3.ag xs).set i.toNat (xs.getD j.toNat e3.dflt)).set j.toNat (xs.getD i.toNat e3.dflt),IntKind.i64.wrap (i+(1:Int)),IntKind.i64.wrap (j - (1:Int)))
 else (Ex.exit (0:Nat),l,e3.ag xs,i,j)
def rv_side (l:Nat) (xs:List Int) (i:Int) (j:Int):Prop:=
 (decide (i<j)=true→((0:Int)≤j∧j<(↑l:Int))∧j.toNat<xs.length∧((0:Int)≤i∧i<(↑l:Int))∧i.toNat<xs.length∧((0:Int)≤i∧i<(↑l:Int))∧i.toNat<xs.length∧((0:Int)≤j∧j<(↑l:Int))∧j.toNat<xs.length∧True∧True∧∀ (e:Nat),e<xs.length→True)∧(decide (i<j)=false→∀ (e:Nat),e<xs.length→True)
theorem rv_one:((loopsOf Tryd.prog 95).filter fun c=>Nat.beq (lkey c) 1).length=1:=by kernel_rfl
theorem rv_es (g:rv_G):(rv_R g.1 g.2.1 g.2.2.1 g.2.2.2).1=.normal∨(rv_R g.1 g.2.1 g.2.2.1 g.2.2.2).1∈([.exit 0]:List Ex):=by
 unfold rv_R
 repeat' (first | (left;rfl) | (right;simp only[cond_true,cond_false];simp;done) | (rw[Bool.cond_eq_ite];split))
noncomputable abbrev rv_C (Inv:rv_G→List Prop) (m:rv_G→Nat):LCon:=loopR [.exit 0] (loopBody Tryd.prog 95 1) rv_LP [] 28 Inv (fun g=>rv_R g.1 g.2.1 g.2.2.1 g.2.2.2) m
theorem rv_loop (Inv:rv_G→List Prop) (m:rv_G→Nat) (hs:∀ g,allP (Inv g)→rv_side g.1 g.2.1 g.2.2.1 g.2.2.2) (hg:Goes (fun g:rv_G=>rv_R g.1 g.2.1 g.2.2.1 g.2.2.2) m fun g=>allP (Inv g)):∀ b∈loopsOf Tryd.prog 95,lkey b=1→LoopOk Tryd.prog b (rv_C Inv m).g:=loop_run (Γ:=(PTab.gamz tabC9 [] [])) (Λ:=noΛ) (PTab.okz tabC9 [] []) noΛ_ok 100 95 1 28 rv_LP [] Inv (fun g=>rv_R g.1 g.2.1 g.2.2.1 g.2.2.2) (fun g=>rv_side g.1 g.2.1 g.2.2.1 g.2.2.2) m default [.exit 0] rv_one (fun rd T B HL HB ds g=>by kernel_rfl) (fun rd T B HL HB ds g=>by kernel_rfl) hs hg rv_es
end Go.Proofs.YtmegbepjdololaaDoor

namespace Go.Proofs.YtmegbepjdololaaDoor
open Go.RowKit Go.Sx Go.Lp
theorem may_ok:FnPure Tryd.prog 108 aIFR dI (fun g=>bothF g.1 g.2.1 g.2.2) (fun g=>[g.2.1.s.size≤KB]):=
 pure_congr (may_okS _ fun g _ hp=>hp _ (List.mem_cons_self ..)) fun g _ _=>rfl
def posN (s:BA) (i:Nat):Nat:=wsum ((rsL (toL s)).take i)
theorem rp_len:∀ (l:List (Nat×Nat)) (p:Nat),(rpF p l).length=l.length
 | [],_=>rfl
 | d :: l,p=>by simp only[rpF,List.length_cons,rp_len l]
theorem rp_get:∀ (l:List (Nat×Nat)) (p i:Nat) (h:i<l.length),(rpF p l)[i]?=some (p+wsum (l.take i),l[i].1)
 | [],_,_,h=>by simp at h
 | (c,w) :: l,p,0,h=>by simp[rpF,wsum]
 | (c,w) :: l,p,i+1,h=>by
  simp only[rpF,List.getElem?_cons_succ,List.take_succ_cons,List.getElem_cons_succ]
  rw[rp_get l (p+w) i (by simpa using h)]
  simp only[wsum,List.map_cons,List.sum_cons]
  congr 2
  omega
theorem r05_len (s:BA):(runes05 s).length=(rsL (toL s)).length:=by unfold runes05 rpL;rw[List.length_map,rp_len]
theorem r05_at (s:BA) (i:Nat) (h:i<(runes05 s).length):(runes05 s).getD i eU.dflt=⟨(posN s i:Int),((rsL (toL s))[i]'(by rw[← r05_len];exact h)).1⟩:=by
 have h':i<(rsL (toL s)).length:=by rw[← r05_len];exact h
 rw[List.getD_eq_getElem?_getD]
 unfold runes05 rpL
 rw[List.getElem?_map,rp_get _ 0 i h']
 simp[posN]
theorem wsum_take_le:∀ (l:List (Nat×Nat)) (i j:Nat),i≤j→wsum (l.take i)≤wsum (l.take j)
 | [],i,j,_=>by simp
 | d :: l,0,j,_=>by simp[wsum]
 | d :: l,i+1,0,h=>by omega
 | d :: l,i+1,j+1,h=>by
  have:=wsum_take_le l i j (by omega)
  simp only[List.take_succ_cons,wsum,List.map_cons,List.sum_cons] at this ⊢
  omega
theorem posN_mono (s:BA) {i j:Nat} (h:i≤j):posN s i≤posN s j:=wsum_take_le _ i j h
theorem posN_all (s:BA) (i:Nat) (h:(runes05 s).length≤i):posN s i=s.size:=by
 unfold posN
 rw[List.take_of_length_le (by rw[← r05_len];exact h),wsum_rsL,toL_len]
theorem posN_le (s:BA) (i:Nat):posN s i≤s.size:=by
 rcases Nat.le_total i (runes05 s).length with h | h
 ·exact Nat.le_trans (posN_mono s h) (Nat.le_of_eq (posN_all s _ (Nat.le_refl _)))
 ·exact Nat.le_of_eq (posN_all s i h)
theorem pos_if (s:BA) (i:Nat):(bif decide ((i:Int)<((runes05 s).length:Int)) then ((runes05 s).getD ((i:Int)).toNat eU.dflt).at' else (s.size:Int))=(posN s i:Int):=by
 by_cases h:i<(runes05 s).length
 ·rw[decide_eq_true (by omega),cond_true,Int.toNat_natCast,r05_at s i h]
 ·rw[decide_eq_false (by omega),cond_false,posN_all s i (by omega)]
def partS (s:BA) (a b:Nat):BA:=s.extract (posN s a) (posN s b)
theorem part_ok:FnPure Tryd.prog 110 aPt dStr (fun g=>partS g.1 g.2.2.1.toNat g.2.2.2.toNat) (fun g=>[g.2.1=runes05 g.1,0≤g.2.2.1∧g.2.2.1≤g.2.2.2]):=
 pure_congr (part_okS _ fun g _ hp=>by
  obtain ⟨s,l,a,b⟩:=g
  have h1:l=runes05 s:=hp _ (List.mem_cons_self ..)
  have h2:0≤a∧a≤b:=hp _ (List.mem_cons_of_mem _ (List.mem_cons_self ..))
  obtain ⟨i,rfl⟩:∃ i:Nat,a=i:=⟨a.toNat,by omega⟩
  obtain ⟨j,rfl⟩:∃ j:Nat,b=j:=⟨b.toNat,by omega⟩
  subst h1
  show part_side s (runes05 s) i j
  unfold part_side
  rw[pos_if,pos_if]
  have:=posN_le s j
  have:=posN_mono s (show i≤j by omega)
  refine ⟨fun h=>⟨by omega,of_decide_eq_true h⟩,fun h=>⟨by omega,of_decide_eq_true h⟩,by omega,by omega⟩) fun g _ hp=>by
  obtain ⟨s,l,a,b⟩:=g
  have h1:l=runes05 s:=hp _ (List.mem_cons_self ..)
  have h2:0≤a∧a≤b:=hp _ (List.mem_cons_of_mem _ (List.mem_cons_self ..))
  obtain ⟨i,rfl⟩:∃ i:Nat,a=i:=⟨a.toNat,by omega⟩
  obtain ⟨j,rfl⟩:∃ j:Nat,b=j:=⟨b.toNat,by omega⟩
  subst h1
  show part_F s (runes05 s) i j=_
  unfold part_F
  rw[pos_if,pos_if]
  rfl
def restF (n b:Int):Int:=bif decide (n.tmod b<0) then n.tmod b+b else n.tmod b
theorem rest_ok2:FnPure Tryd.prog 96 aII dI (fun g=>restF g.1 g.2) (fun g=>[0<g.2∧g.2<1000000000]):=
 pure_congr (rest2_okS _ fun g _ hp=>by
  have h:=hp _ (List.mem_cons_self ..)
  show g.2≠0
  omega) fun g _ hp=>by
  obtain ⟨n,b⟩:=g
  have h:0<b∧b<1000000000:=hp _ (List.mem_cons_self ..)
  show rest2_F n b=restF n b
  unfold rest2_F restF
  have h1:n.tmod b<b:=Int.tmod_lt_of_pos n h.1
  have h2:-b<n.tmod b:=by
   have:=Int.lt_tmod_of_pos n h.1
   omega
  rw[wrS (by omega)]
def rv_mk (N:Nat) (xs:List Int) (i:Nat):rv_G:=(N,xs,(i:Int),(N:Int) - 1 - i)
noncomputable abbrev rv_I (g:rv_G):List Prop:=[∃ N xs i,g=rv_mk N xs i∧xs.length=N∧i≤N∧N≤KB]
noncomputable abbrev rv_M (g:rv_G):Nat:=(g.2.2.2 - g.2.2.1).toNat
theorem rv_F (N:Nat) (xs:List Int) (i:Nat) (hl:xs.length=N) (hi:i≤N) (hN:N≤KB):rv_R N xs (i:Int) ((N:Int) - 1 - i)=if 2 * i+1<N then (.normal,rv_mk N ((xs.set i (xs.getD (N - 1 - i) 0)).set (N - 1 - i) (xs.getD i 0)) (i+1)) else (.exit 0,rv_mk N xs i):=by
 unfold KB at hN
 unfold rv_R rv_mk
 by_cases h:2 * i+1<N
 ·rw[decide_eq_true (by omega),if_pos h,cond_true,Int.toNat_natCast,wrS (x:=(i:Int)+1) (by omega),wrS (x:=(N:Int) - 1 - (i:Int) - 1) (by omega),show ((N:Int) - 1 - (i:Int)).toNat=N - 1 - i by omega,e3.ag_eq]
  have e:(N:Int) - 1 - (i:Int) - 1=(N:Int) - 1 - ((i+1:Nat):Int):=by omega
  rw[e]
  rfl
 ·rw[decide_eq_false (by omega),if_neg h,cond_false,e3.ag_eq]
theorem rv_goes:Goes (fun g:rv_G=>rv_R g.1 g.2.1 g.2.2.1 g.2.2.2) rv_M fun g=>allP (rv_I g):=by
 intro g hi hn
 obtain ⟨N,xs,i,rfl,h1,h2,h3⟩:=hi _ (List.mem_cons_self ..)
 have e:=rv_F N xs i h1 h2 h3
 change (rv_R N xs (i:Int) ((N:Int) - 1 - i)).1=.normal at hn
 change allP (rv_I (rv_R N xs (i:Int) ((N:Int) - 1 - i)).2)∧rv_M (rv_R N xs (i:Int) ((N:Int) - 1 - i)).2<_
 rw[e] at hn ⊢
 by_cases h:2 * i+1<N
 ·rw[if_pos h] at hn ⊢
  refine ⟨fun q hq=>?_,?_⟩
  ·simp only[List.mem_singleton] at hq
   subst hq
   exact ⟨N,_,i+1,rfl,by simp[h1],by omega,h3⟩
  ·simp only[rv_M,rv_mk];omega
 ·rw[if_neg h] at hn;cases hn
theorem rv_ok:∀ b∈loopsOf Tryd.prog 95,lkey b=1→LoopOk Tryd.prog b (rv_C rv_I rv_M).g:=
 rv_loop rv_I rv_M (fun g hi=>by
  obtain ⟨N,xs,i,rfl,h1,h2,h3⟩:=hi _ (List.mem_cons_self ..)
  show rv_side N xs (i:Int) ((N:Int) - 1 - i)
  unfold rv_side
  simp only[decide_eq_true_eq,decide_eq_false_iff_not]
  repeat' (first | apply And.intro | intro _)
  all_goals first | trivial | omega) rv_goes
theorem rv_run (N:Nat) (hN:N≤KB):∀ (n i:Nat) (xs:List Int),xs.length=N→i≤N→N - i≤n→∃ ys i',loopF (fun g:rv_G=>rv_R g.1 g.2.1 g.2.2.1 g.2.2.2) rv_M (rv_mk N xs i)=(.exit 0,rv_mk N ys i')∧ys.length=N∧∀ k,k<N→ys.getD k 0=if i≤k∧k<N - i then xs.getD (N - 1 - k) 0 else xs.getD k 0:=by
 have hI:∀ xs i,xs.length=N→i≤N→allP (rv_I (rv_mk N xs i)):=fun xs i h1 h2 q hq=>by
  simp only[List.mem_singleton] at hq
  subst hq
  exact ⟨N,xs,i,rfl,h1,h2,hN⟩
 intro n
 induction n with
 | zero=>
  intro i xs h1 h2 h3
  have e:=rv_F N xs i h1 h2 hN
  rw[if_neg (by omega)] at e
  refine ⟨xs,i,?_,h1,fun k hk=>?_⟩
  ·rw[loopF_end (by show (rv_R N xs (i:Int) ((N:Int) - 1 - i)).1≠_;rw[e];simp)]
   exact e
  ·rw[if_neg (by omega)]
 | succ n ih=>
  intro i xs h1 h2 h3
  have e:=rv_F N xs i h1 h2 hN
  by_cases h:2 * i+1<N
  ·rw[if_pos h] at e
   rw[loopF_next rv_goes (hI xs i h1 h2) (show rv_R N xs (i:Int) ((N:Int) - 1 - i)=_ from e)]
   obtain ⟨ys,i',hy,hl,hys⟩:=ih (i+1) ((xs.set i (xs.getD (N - 1 - i) 0)).set (N - 1 - i) (xs.getD i 0)) (by simp[h1]) (by omega) (by omega)
   refine ⟨ys,i',hy,hl,fun k hk=>?_⟩
   rw[hys k hk]
   have hget:∀ k,k<N→((xs.set i (xs.getD (N - 1 - i) 0)).set (N - 1 - i) (xs.getD i 0)).getD k 0=if k=N - 1 - i then xs.getD i 0 else if k=i then xs.getD (N - 1 - i) 0 else xs.getD k 0:=fun k hk=>by
    simp only[List.getD_eq_getElem?_getD]
    by_cases k1:k=N - 1 - i
    ·rw[if_pos k1,k1,List.getElem?_set_self (by simp only[List.length_set];omega)];rfl
    ·rw[if_neg k1,List.getElem?_set_ne (by omega)]
     by_cases k2:k=i
     ·rw[if_pos k2,k2,List.getElem?_set_self (by omega)];rfl
     ·rw[if_neg k2,List.getElem?_set_ne (by omega)]
   by_cases c1:i+1≤k∧k<N - (i+1)
   ·rw[if_pos c1,if_pos (by omega),hget _ (by omega),if_neg (by omega),if_neg (by omega)]
   ·rw[if_neg c1,hget _ hk]
    by_cases c2:k=N - 1 - i
    ·rw[if_pos c2,if_pos (by omega)]
     congr 1
     omega
    ·rw[if_neg c2]
     by_cases c3:k=i
     ·rw[if_pos c3,if_pos (by omega)]
      congr 1
      omega
     ·rw[if_neg c3,if_neg (by omega)]
  ·rw[if_neg h] at e
   refine ⟨xs,i,?_,h1,fun k hk=>?_⟩
   ·rw[loopF_end (by show (rv_R N xs (i:Int) ((N:Int) - 1 - i)).1≠_;rw[e];simp)]
    exact e
   ·split
    ·congr 1;omega
    ·rfl
theorem rv_run0 (xs:List Int) (hN:xs.length≤KB):∃ i',loopF (fun g:rv_G=>rv_R g.1 g.2.1 g.2.2.1 g.2.2.2) rv_M (xs.length,xs,0,(xs.length:Int) - 1)=(.exit 0,rv_mk xs.length xs.reverse i'):=by
 obtain ⟨ys,i',h1,h2,h3⟩:=rv_run xs.length hN xs.length 0 xs rfl (Nat.zero_le _) (Nat.sub_le _ _)
 refine ⟨i',?_⟩
 have e:rv_mk xs.length xs 0=(xs.length,xs,0,(xs.length:Int) - 1):=by simp[rv_mk]
 rw[e] at h1
 rw[h1]
 have:ys=xs.reverse:=by
  refine List.ext_getElem (by simp[h2]) fun k k1 k2=>?_
  have h:=h3 k (by omega)
  rw[if_pos (by omega)] at h
  rw[List.getD_eq_getElem?_getD,List.getD_eq_getElem?_getD,List.getElem?_eq_getElem k1,List.getElem?_eq_getElem (by omega)] at h
  simp only[Option.getD_some] at h
  rw[h,List.getElem_reverse]
 rw[this]
noncomputable def ltC11:LTab Tryd.prog:=LTab.cons ltC4 95 1 (rv_C rv_I rv_M) rv_ok
noncomputable abbrev lamC11:Lam:=ltC11.lam
theorem lamC11_ok:∀ f k L,lamC11 f k=some L→∀ b∈loopsOf Tryd.prog f,lkey b=k→LoopOk Tryd.prog b L.g:=ltC11.ok
noncomputable def tabC11:PTab Tryd.prog:=((tabC9.cons 108 (pconP aIFR dI (fun g=>bothF g.1 g.2.1 g.2.2) (fun g=>[g.2.1.s.size≤KB])) (conP_ok may_ok puI)).cons 110 (pconP aPt dStr (fun g=>partS g.1 g.2.2.1.toNat g.2.2.2.toNat) (fun g=>[g.2.1=runes05 g.1,0≤g.2.2.1∧g.2.2.1≤g.2.2.2])) (conP_ok part_ok puS)).cons 96 (pconP aII dI (fun g=>restF g.1 g.2) (fun g=>[0<g.2∧g.2<1000000000])) (conP_ok rest_ok2 puI)
end Go.Proofs.YtmegbepjdololaaDoor

namespace Go.Proofs.YtmegbepjdololaaDoor
open Go.RowKit Go.Sx
set_option maxRecDepth 100000
set_option linter.unusedVariables false
abbrev aL3c:DA (List Rune×Int):=.cons dLU (.one d3)
noncomputable def rev_q1 (xs:List Int) (_u:Unit):Ex ×
 rv_G:=
 loopF (fun g=>rv_R g.fst g.snd.fst g.snd.snd.fst g.snd.snd.snd) rv_M (xs.length,e3.ag xs,(0:Int),IntKind.i64.wrap ((↑xs.length:Int) - (1:Int)))
noncomputable def rev_F (xs:List Int) (_u:Unit):List Int×RM.T rUn:=
 (e3.ag (rev_q1 xs _u).snd.snd.fst,())
def rev_side (xs:List Int) (_u:Unit):Prop:=
 (∀ (e:Nat),e<xs.length→True)∧(∃ N xs_1 i,(xs.length,e3.ag xs,(0:Int),IntKind.i64.wrap ((↑xs.length:Int) - (1:Int)))=rv_mk N xs_1 i∧xs_1.length=N∧i≤N∧N≤KB)∧∀ (e:Nat),e<(rev_q1 xs _u).snd.snd.fst.length→True
theorem rev_okS (pre:List Int→DA.T DA.none→List Prop) (h:∀ xs g,DA.bd DA.none g→xs.length≤maxLen→(∀ p∈pre xs g,p)→rev_side xs g):FnMut Tryd.prog 95 21 e3 DA.none rUn (fun xs g=>rev_F xs g) pre:=mut_of_side (Γ:=(PTab.gamz tabC11 [] [])) (Λ:=lamC11) (PTab.okz tabC11 [] []) lamC11_ok 100 default (fun xs g=>rev_side xs g) (fun xs g=>by kernel_rfl) (fun xs g=>by kernel_rfl) h
abbrev tn_G:Type:=BA×List Rune×BA×Int
noncomputable def tn_LP:LP 0 tn_G:=.pair (.slot 0 0 dStr) (.pair (.slot 0 3 dLU) (.pair (.slot 0 4 dStr) (.slot 0 5 dI)))
noncomputable def tn_R (s:BA) (l:List Rune) (o:BA) (i:Int):Ex×tn_G:=
 bif decide (i<(↑l.length:Int)) then (Ex.normal,s,eU.ag l,partS s i.toNat (IntKind.i64.wrap (i+(1:Int))).toNat++o,IntKind.i64.wrap (i+(1:Int)))
 else (Ex.exit (0:Nat),s,eU.ag l,o,i)
def tn_side (s:BA) (l:List Rune) (o:BA) (i:Int):Prop:=
 (decide (i<(↑l.length:Int))=true→eU.okL l∧eU.ag l=runes05 s∧((0:Int)≤i∧i≤IntKind.i64.wrap (i+(1:Int)))∧ByteArray.size (partS s i.toNat (IntKind.i64.wrap (i+(1:Int))).toNat)+ByteArray.size o≤(9223372036854775807:Nat)∧eU.okL l)∧(decide (i<(↑l.length:Int))=false→eU.okL l)
theorem tn_one:((loopsOf Tryd.prog 111).filter fun c=>Nat.beq (lkey c) 4).length=1:=by kernel_rfl
theorem tn_es (g:tn_G):(tn_R g.1 g.2.1 g.2.2.1 g.2.2.2).1=.normal∨(tn_R g.1 g.2.1 g.2.2.1 g.2.2.2).1∈([.exit 0]:List Ex):=by
 unfold tn_R
 repeat' (first | (left;rfl) | (right;simp only[cond_true,cond_false];simp;done) | (rw[Bool.cond_eq_ite];split))
noncomputable abbrev tn_C (Inv:tn_G→List Prop) (m:tn_G→Nat):LCon:=loopR [.exit 0] (loopBody Tryd.prog 111 4) tn_LP [] 23 Inv (fun g=>tn_R g.1 g.2.1 g.2.2.1 g.2.2.2) m
theorem tn_loop (Inv:tn_G→List Prop) (m:tn_G→Nat) (hs:∀ g,allP (Inv g)→tn_side g.1 g.2.1 g.2.2.1 g.2.2.2) (hg:Goes (fun g:tn_G=>tn_R g.1 g.2.1 g.2.2.1 g.2.2.2) m fun g=>allP (Inv g)):∀ b∈loopsOf Tryd.prog 111,lkey b=4→LoopOk Tryd.prog b (tn_C Inv m).g:=loop_run (Γ:=(PTab.gamz tabC11 [] [])) (Λ:=lamC11) (PTab.okz tabC11 [] []) lamC11_ok 100 111 4 23 tn_LP [] Inv (fun g=>tn_R g.1 g.2.1 g.2.2.1 g.2.2.2) (fun g=>tn_side g.1 g.2.1 g.2.2.1 g.2.2.2) m default [.exit 0] tn_one (fun rd T B HL HB ds g=>by kernel_rfl) (fun rd T B HL HB ds g=>by kernel_rfl) hs hg tn_es
abbrev hs_G:Type:=List Rune×Int×Int×Bool
noncomputable def hs_LP:LP 0 hs_G:=.pair (.slot 0 0 dLU) (.pair (.slot 0 1 d3) (.pair (.slot 0 5 dI) (.slot 0 4 dBool)))
noncomputable def hs_R (xs:List Rune) (c:Int) (i:Int) (r:Bool):Ex×hs_G:=
 bif decide (i<(↑xs.length:Int)) then bif (xs.getD i.toNat eU.dflt).r==c then (Ex.ret,eU.ag xs,c,i,true) else (Ex.normal,eU.ag xs,c,IntKind.i64.wrap (i+(1:Int)),r)
 else (Ex.exit (0:Nat),eU.ag xs,c,i,r)
def hs_side (xs:List Rune) (c:Int) (i:Int) (r:Bool):Prop:=
 (decide (i<(↑xs.length:Int))=true→((0:Int)≤i∧i<(↑xs.length:Int))∧(((xs.getD i.toNat eU.dflt).r==c)=true→eU.okL xs)∧(((xs.getD i.toNat eU.dflt).r==c)=false→eU.okL xs))∧(decide (i<(↑xs.length:Int))=false→eU.okL xs)
theorem hs_one:((loopsOf Tryd.prog 112).filter fun c=>Nat.beq (lkey c) 2).length=1:=by kernel_rfl
abbrev hs_GC:Type:=List Rune×Int
abbrev hs_GB:Type:=Bool
def hs_f (g:hs_G):Int×hs_GC×hs_GB:=(g.2.2.1,(g.1,g.2.1),g.2.2.2)
def hs_g (d:Int×hs_GC×hs_GB):hs_G:=(d.2.1.1,d.2.1.2,d.1,d.2.2)
theorem hs_es (g:hs_G):(hs_R g.1 g.2.1 g.2.2.1 g.2.2.2).1=.normal∨(hs_R g.1 g.2.1 g.2.2.1 g.2.2.2).1∈([.ret,.exit 0]:List Ex):=by
 unfold hs_R
 repeat' (first | (left;rfl) | (right;simp only[cond_true,cond_false];simp;done) | (rw[Bool.cond_eq_ite];split))
noncomputable abbrev hs_C (Inv:hs_G→List Prop) (m:hs_G→Nat):LCon:=loopR [.ret,.exit 0] (loopBody Tryd.prog 112 2) hs_LP [] 19 Inv (fun g=>hs_R g.1 g.2.1 g.2.2.1 g.2.2.2) m
theorem hs_loop (Inv:hs_G→List Prop) (m:hs_G→Nat) (hs:∀ g,allP (Inv g)→hs_side g.1 g.2.1 g.2.2.1 g.2.2.2) (hg:Goes (fun g:hs_G=>hs_R g.1 g.2.1 g.2.2.1 g.2.2.2) m fun g=>allP (Inv g)):∀ b∈loopsOf Tryd.prog 112,lkey b=2→LoopOk Tryd.prog b (hs_C Inv m).g:=loop_run (Γ:=(PTab.gamz tabC11 [] [])) (Λ:=lamC11) (PTab.okz tabC11 [] []) lamC11_ok 100 112 2 19 hs_LP [] Inv (fun g=>hs_R g.1 g.2.1 g.2.2.1 g.2.2.2) (fun g=>hs_side g.1 g.2.1 g.2.2.1 g.2.2.2) m default [.ret,.exit 0] hs_one (fun rd T B HL HB ds g=>by kernel_rfl) (fun rd T B HL HB ds g=>by kernel_rfl) hs hg hs_es
end Go.Proofs.YtmegbepjdololaaDoor
