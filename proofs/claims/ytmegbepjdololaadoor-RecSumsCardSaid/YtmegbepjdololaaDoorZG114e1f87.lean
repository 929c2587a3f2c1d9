/- Chapter 5: Equal: contracts of loops. Printed by ixgen.py. -/
import Derived.Test.YtmegbepjdololaaDoorZG10f87814
import Derived.Test.YtmegbepjdololaaDoorZG064a11a0
import Derived.Test.YtmegbepjdololaaDoorZG076c3315
set_option linter.unusedVariables false
set_option linter.unusedSimpArgs false
set_option linter.constructorNameAsVariable false
set_option linter.all false

namespace Go.Proofs.YtmegbepjdololaaDoor
open Go.RowKit Go.Sx Go.Lp
set_option maxRecDepth 100000
theorem conj_eR (a b:Rec):conj ([a.key==b.key]++([decide (a.text=b.text)]++[]))=decide (a=b):=by
 obtain ⟨k,s⟩:=a
 obtain ⟨k',s'⟩:=b
 rw[Bool.eq_iff_iff]
 simp[conj]
theorem conj_eU (a b:Rune):conj ([a.at'==b.at']++([a.r==b.r]++[]))=decide (a=b):=by
 obtain ⟨k,s⟩:=a
 obtain ⟨k',s'⟩:=b
 rw[Bool.eq_iff_iff]
 simp[conj]
theorem conj_eM (a b:Many):conj ([a.r.key==b.r.key]++([decide (a.r.text=b.r.text)]++[])++([a.n==b.n]++[]))=decide (a=b):=by
 obtain ⟨⟨k,s⟩,n⟩:=a
 obtain ⟨⟨k',s'⟩,n'⟩:=b
 rw[Bool.eq_iff_iff]
 simp[conj]
 exact ⟨fun ⟨h1,h2,h3⟩=>⟨⟨h1,h2⟩,h3⟩,fun ⟨⟨h1,h2⟩,h3⟩=>⟨h1,h2,h3⟩⟩
noncomputable def eqU_S (c:eqU_GC) (b:eqU_GB) (i:Int) (v:Rune):Ex×eqU_GB:=bif !decide (v=c.2.1.getD i.toNat eU.dflt) then (.ret,false) else (.normal,b)
def eqU_K (c:eqU_GC) (b:eqU_GB) (i:Int):Prop:=c.1.length=c.2.1.length
abbrev eqU_I (g:eqU_G):List Prop:=ixI (fun c:eqU_GC=>c.2.2) (fun c:eqU_GC=>c.1) eqU_K (eqU_f g)
abbrev eqU_M (g:eqU_G):Nat:=ixM (fun c:eqU_GC=>c.2.2) (eqU_f g)
theorem eqU_P:ixP eqU_S (fun c:eqU_GC=>c.1) eqU_K:=fun _ _ _ _ h _ _=>h
noncomputable abbrev eqU_RR (g:eqU_G):Ex×eqU_G:=eqU_R g.1 g.2.1 g.2.2.1 g.2.2.2.1 g.2.2.2.2
theorem eqU_RF (d:Int×eqU_GC×eqU_GB) (hi:allP (ixI (fun c:eqU_GC=>c.2.2) (fun c:eqU_GC=>c.1) eqU_K d)):eqU_RR (eqU_g d)=((ixF 0 (fun c:eqU_GC=>c.2.2) (fun c:eqU_GC=>c.1) eU.dflt eqU_S d).1,eqU_g (ixF 0 (fun c:eqU_GC=>c.2.2) (fun c:eqU_GC=>c.1) eU.dflt eqU_S d).2):=by
 obtain ⟨i,⟨xs,ys,n⟩,r⟩:=d
 show eqU_R xs ys n i r=_
 unfold eqU_R ixF eqU_S
 simp only[El.ag_eq,conj_eU]
 cases decide (i<n) with
 | false=>rfl
 | true=>
  simp only[cond_true]
  generalize (!decide ((xs.getD i.toNat eU.dflt)=ys.getD i.toNat eU.dflt))=z
  cases z <;> rfl
theorem eqU_ok:∀ b∈loopsOf Tryd.prog 17,lkey b=4→LoopOk Tryd.prog b (eqU_C eqU_I eqU_M).g:=by
 refine eqU_loop eqU_I eqU_M (fun g hi=>?_) (ix_conj_goes (fun _=>rfl) (fun _=>rfl) eqU_RF eqU_P)
 obtain ⟨xs,ys,n,i,r⟩:=g
 obtain ⟨h1,h2,h3,h4,h5⟩:=hi _ (List.mem_cons_self ..)
 have h1:n=(xs.length:Int):=h1
 have h3:0≤i:=h3
 have h5:xs.length=ys.length:=h5
 show eqU_side xs ys n i r
 unfold eqU_side
 simp only[decide_eq_true_eq,decide_eq_false_iff_not]
 have k0:∀ e:Nat,e<xs.length→eU.Ok (eU.els xs e):=fun e _=>eU.ok_els xs e
 have k1:∀ e:Nat,e<ys.length→eU.Ok (eU.els ys e):=fun e _=>eU.ok_els ys e
 clear hi
 repeat' (first | exact k0 | exact k1 | apply And.intro | intro _)
 all_goals omega
noncomputable def eqM_S (c:eqM_GC) (b:eqM_GB) (i:Int) (v:Many):Ex×eqM_GB:=bif !decide (v=c.2.1.getD i.toNat eM.dflt) then (.ret,false) else (.normal,b)
def eqM_K (c:eqM_GC) (b:eqM_GB) (i:Int):Prop:=c.1.length=c.2.1.length
abbrev eqM_I (g:eqM_G):List Prop:=ixI (fun c:eqM_GC=>c.2.2) (fun c:eqM_GC=>c.1) eqM_K (eqM_f g)
abbrev eqM_M (g:eqM_G):Nat:=ixM (fun c:eqM_GC=>c.2.2) (eqM_f g)
theorem eqM_P:ixP eqM_S (fun c:eqM_GC=>c.1) eqM_K:=fun _ _ _ _ h _ _=>h
noncomputable abbrev eqM_RR (g:eqM_G):Ex×eqM_G:=eqM_R g.1 g.2.1 g.2.2.1 g.2.2.2.1 g.2.2.2.2
theorem eqM_RF (d:Int×eqM_GC×eqM_GB) (hi:allP (ixI (fun c:eqM_GC=>c.2.2) (fun c:eqM_GC=>c.1) eqM_K d)):eqM_RR (eqM_g d)=((ixF 0 (fun c:eqM_GC=>c.2.2) (fun c:eqM_GC=>c.1) eM.dflt eqM_S d).1,eqM_g (ixF 0 (fun c:eqM_GC=>c.2.2) (fun c:eqM_GC=>c.1) eM.dflt eqM_S d).2):=by
 obtain ⟨i,⟨xs,ys,n⟩,r⟩:=d
 show eqM_R xs ys n i r=_
 unfold eqM_R ixF eqM_S
 simp only[El.ag_eq,conj_eM]
 cases decide (i<n) with
 | false=>rfl
 | true=>
  simp only[cond_true]
  generalize (!decide ((xs.getD i.toNat eM.dflt)=ys.getD i.toNat eM.dflt))=z
  cases z <;> rfl
theorem eqM_ok:∀ b∈loopsOf Tryd.prog 71,lkey b=4→LoopOk Tryd.prog b (eqM_C eqM_I eqM_M).g:=by
 refine eqM_loop eqM_I eqM_M (fun g hi=>?_) (ix_conj_goes (fun _=>rfl) (fun _=>rfl) eqM_RF eqM_P)
 obtain ⟨xs,ys,n,i,r⟩:=g
 obtain ⟨h1,h2,h3,h4,h5⟩:=hi _ (List.mem_cons_self ..)
 have h1:n=(xs.length:Int):=h1
 have h3:0≤i:=h3
 have h5:xs.length=ys.length:=h5
 show eqM_side xs ys n i r
 unfold eqM_side
 simp only[decide_eq_true_eq,decide_eq_false_iff_not]
 have k0:∀ e:Nat,e<xs.length→eM.Ok (eM.els xs e):=fun e _=>eM.ok_els xs e
 have k1:∀ e:Nat,e<ys.length→eM.Ok (eM.els ys e):=fun e _=>eM.ok_els ys e
 clear hi
 repeat' (first | exact k0 | exact k1 | apply And.intro | intro _)
 all_goals omega
theorem eqM_run (c:eqM_GC) (b:eqM_GB) (k1:c.2.2=((c.1).length:Int)) (k2:(c.1).length≤maxLen) (k3:eqM_K c b 0):loopF eqM_RR eqM_M (eqM_g (0,c,b))=((scan 0 (eqM_S c) 0 (c.1) b).1,eqM_g ((scan 0 (eqM_S c) 0 (c.1) b).2.1,c,(scan 0 (eqM_S c) 0 (c.1) b).2.2)):=ix_conj_run (φ:=eqM_f) (ψ:=eqM_g) (fun _=>rfl) (fun _=>rfl) eqM_RF eqM_P c b k1 k2 k3
noncomputable def eqR_S (c:eqR_GC) (b:eqR_GB) (i:Int) (v:Rec):Ex×eqR_GB:=bif !decide (v=c.2.1.getD i.toNat eR.dflt) then (.ret,false) else (.normal,b)
def eqR_K (c:eqR_GC) (b:eqR_GB) (i:Int):Prop:=c.1.length=c.2.1.length
abbrev eqR_I (g:eqR_G):List Prop:=ixI (fun c:eqR_GC=>c.2.2) (fun c:eqR_GC=>c.1) eqR_K (eqR_f g)
abbrev eqR_M (g:eqR_G):Nat:=ixM (fun c:eqR_GC=>c.2.2) (eqR_f g)
theorem eqR_P:ixP eqR_S (fun c:eqR_GC=>c.1) eqR_K:=fun _ _ _ _ h _ _=>h
noncomputable abbrev eqR_RR (g:eqR_G):Ex×eqR_G:=eqR_R g.1 g.2.1 g.2.2.1 g.2.2.2.1 g.2.2.2.2
theorem eqR_RF (d:Int×eqR_GC×eqR_GB) (hi:allP (ixI (fun c:eqR_GC=>c.2.2) (fun c:eqR_GC=>c.1) eqR_K d)):eqR_RR (eqR_g d)=((ixF 0 (fun c:eqR_GC=>c.2.2) (fun c:eqR_GC=>c.1) eR.dflt eqR_S d).1,eqR_g (ixF 0 (fun c:eqR_GC=>c.2.2) (fun c:eqR_GC=>c.1) eR.dflt eqR_S d).2):=by
 obtain ⟨i,⟨xs,ys,n⟩,r⟩:=d
 show eqR_R xs ys n i r=_
 unfold eqR_R ixF eqR_S
 simp only[El.ag_eq,conj_eR]
 cases decide (i<n) with
 | false=>rfl
 | true=>
  simp only[cond_true]
  generalize (!decide ((xs.getD i.toNat eR.dflt)=ys.getD i.toNat eR.dflt))=z
  cases z <;> rfl
theorem eqR_ok:∀ b∈loopsOf Tryd.prog 30,lkey b=4→LoopOk Tryd.prog b (eqR_C eqR_I eqR_M).g:=by
 refine eqR_loop eqR_I eqR_M (fun g hi=>?_) (ix_conj_goes (fun _=>rfl) (fun _=>rfl) eqR_RF eqR_P)
 obtain ⟨xs,ys,n,i,r⟩:=g
 obtain ⟨h1,h2,h3,h4,h5⟩:=hi _ (List.mem_cons_self ..)
 have h1:n=(xs.length:Int):=h1
 have h3:0≤i:=h3
 have h5:xs.length=ys.length:=h5
 show eqR_side xs ys n i r
 unfold eqR_side
 simp only[decide_eq_true_eq,decide_eq_false_iff_not]
 have k0:∀ e:Nat,e<xs.length→eR.Ok (eR.els xs e):=fun e _=>eR.ok_els xs e
 have k1:∀ e:Nat,e<ys.length→eR.Ok (eR.els ys e):=fun e _=>eR.ok_els ys e
 clear hi
 repeat' (first | exact k0 | exact k1 | apply And.intro | intro _)
 all_goals omega
theorem eqR_run (c:eqR_GC) (b:eqR_GB) (k1:c.2.2=((c.1).length:Int)) (k2:(c.1).length≤maxLen) (k3:eqR_K c b 0):loopF eqR_RR eqR_M (eqR_g (0,c,b))=((scan 0 (eqR_S c) 0 (c.1) b).1,eqR_g ((scan 0 (eqR_S c) 0 (c.1) b).2.1,c,(scan 0 (eqR_S c) 0 (c.1) b).2.2)):=ix_conj_run (φ:=eqR_f) (ψ:=eqR_g) (fun _=>rfl) (fun _=>rfl) eqR_RF eqR_P c b k1 k2 k3
noncomputable def ltM2:LTab Tryd.prog:=(((LTab.nil.cons 17 4 (eqU_C eqU_I eqU_M) eqU_ok).cons 71 4 (eqM_C eqM_I eqM_M) eqM_ok).cons 30 4 (eqR_C eqR_I eqR_M) eqR_ok)
noncomputable abbrev lamM2:Lam:=ltM2.lam
theorem lamM2_ok:∀ f k L,lamM2 f k=some L→∀ b∈loopsOf Tryd.prog f,lkey b=k→LoopOk Tryd.prog b L.g:=ltM2.ok
end Go.Proofs.YtmegbepjdololaaDoor

namespace Go.Proofs.YtmegbepjdololaaDoor
open Go.RowKit Go.Sx
set_option maxRecDepth 100000
set_option linter.unusedVariables false
abbrev aLMM:DA (List Many×List Many):=.cons dLM (.one dLM)
abbrev aLRR5:DA (List Rec×List Rec):=.cons dLR (.one dLR)
noncomputable def elM_q1 (a:List Many) (b:List Many):Ex ×
 eqM_G:=
 loopF (fun g=>eqM_R g.fst g.snd.fst g.snd.snd.fst g.snd.snd.snd.fst g.snd.snd.snd.snd) eqM_M (eM.ag a,eM.ag b,(↑a.length:Int),(0:Int),false)
noncomputable def elM_F (a:List Many) (b:List Many):Dv.T dBool:=
 bif (↑a.length:Int) != (↑b.length:Int) then false
 else bif exB Ex.ret (elM_q1 a b).fst then (elM_q1 a b).snd.snd.snd.snd.snd else true
def elM_side (a:List Many) (b:List Many):Prop:=
 ((↑a.length:Int) != (↑b.length:Int))=false→eM.okL a∧eM.okL b∧Lp.ixJ (fun c=>c.snd.snd) (fun c=>c.fst) eqM_K (eqM_f (eM.ag a,eM.ag b,(↑a.length:Int),(0:Int),false))
theorem elM_okS (pre:DA.T aLMM→List Prop) (h:∀ g,DA.bd aLMM g→(∀ p∈pre g,p)→elM_side g.1 g.2):FnPure Tryd.prog 71 aLMM dBool (fun g=>elM_F g.1 g.2) pre:=pure_of_sideS (Γ:=(PTab.gamz tabD2 [] [])) (Λ:=lamM2) (PTab.okz tabD2 [] []) lamM2_ok 100 default (fun g=>elM_side g.1 g.2) (fun g=>by kernel_rfl) (fun g=>by kernel_rfl) h
noncomputable def elR_q1 (a:List Rec) (b:List Rec):Ex ×
 eqR_G:=
 loopF (fun g=>eqR_R g.fst g.snd.fst g.snd.snd.fst g.snd.snd.snd.fst g.snd.snd.snd.snd) eqR_M (eR.ag a,eR.ag b,(↑a.length:Int),(0:Int),false)
noncomputable def elR_F (a:List Rec) (b:List Rec):Dv.T dBool:=
 bif (↑a.length:Int) != (↑b.length:Int) then false
 else bif exB Ex.ret (elR_q1 a b).fst then (elR_q1 a b).snd.snd.snd.snd.snd else true
def elR_side (a:List Rec) (b:List Rec):Prop:=
 ((↑a.length:Int) != (↑b.length:Int))=false→eR.okL a∧eR.okL b∧Lp.ixJ (fun c=>c.snd.snd) (fun c=>c.fst) eqR_K (eqR_f (eR.ag a,eR.ag b,(↑a.length:Int),(0:Int),false))
theorem elR_okS (pre:DA.T aLRR5→List Prop) (h:∀ g,DA.bd aLRR5 g→(∀ p∈pre g,p)→elR_side g.1 g.2):FnPure Tryd.prog 30 aLRR5 dBool (fun g=>elR_F g.1 g.2) pre:=pure_of_sideS (Γ:=(PTab.gamz tabD2 [] [])) (Λ:=lamM2) (PTab.okz tabD2 [] []) lamM2_ok 100 default (fun g=>elR_side g.1 g.2) (fun g=>by kernel_rfl) (fun g=>by kernel_rfl) h
end Go.Proofs.YtmegbepjdololaaDoor

namespace Go.Proofs.YtmegbepjdololaaDoor
open Go.RowKit Go.Sx Go.Lp
theorem elM_ok:FnPure Tryd.prog 71 aLMM dBool (fun g=>decide (g.1=g.2)) (fun g=>[g.1.length≤KB]):=
 pure_congr (elM_okS _ fun g _ hp=>by
  obtain ⟨a,b⟩:=g
  have h:a.length≤KB:=hp _ (List.mem_cons_self ..)
  unfold KB at h
  show elM_side a b
  intro hl
  have hl:a.length=b.length:=by
   have:=bne_eq_false_iff_eq.1 hl
   omega
  rw[eM.okL_eq,eM.okL_eq,eM.ag_eq,eM.ag_eq]
  exact ⟨trivial,trivial,rfl,by show a.length≤maxLen;unfold maxLen;omega,Int.le_refl _,by show (0:Int)≤(a.length:Int);omega,hl⟩) fun g _ hp=>by
  obtain ⟨a,b⟩:=g
  have h:a.length≤KB:=hp _ (List.mem_cons_self ..)
  unfold KB at h
  show elM_F a b=decide (a=b)
  unfold elM_F
  by_cases hl:a.length=b.length
  ·have e0:((a.length:Int) != (b.length:Int))=false:=by rw[bne_eq_false_iff_eq];omega
   rw[e0,cond_false]
   have hrun:=eqM_run (a,b,(a.length:Int)) false rfl (by show a.length≤maxLen;unfold maxLen;omega) hl
   have hq:elM_q1 a b=loopF eqM_RR eqM_M (eqM_g (0,(a,b,(a.length:Int)),false)):=by
    unfold elM_q1
    rw[eM.ag_eq,eM.ag_eq]
    rfl
   rw[hq,hrun]
   rcases searchI (x:=0) (st:=eqM_S (a,b,(a.length:Int))) (p:=fun i v=>!decide (v=b.getD i.toNat eM.dflt)) (r:=fun _ _ _=>false) (fun b i a=>rfl) a false with ⟨n,v,h1,h2,hs⟩ | ⟨h1,hs⟩
   ·rw[hs]
    have hne:a≠b:=by
     rintro rfl
     simp[List.getD_eq_getElem?_getD,h1] at h2
    rw[decide_eq_false hne];rfl
   ·rw[hs]
    have he:a=b:=by
     refine List.ext_getElem? fun n=>?_
     by_cases hn:n<a.length
     ·have:=h1 n a[n] (by simp[hn])
      have hn':n<b.length:=by omega
      simp only[List.getD_eq_getElem?_getD,Int.toNat_natCast,List.getElem?_eq_getElem hn',Option.getD_some,Bool.not_eq_false',decide_eq_true_eq] at this
      rw[List.getElem?_eq_getElem hn,List.getElem?_eq_getElem hn',this]
     ·rw[List.getElem?_eq_none (by omega),List.getElem?_eq_none (by omega)]
    rw[decide_eq_true he];rfl
  ·have e0:((a.length:Int) != (b.length:Int))=true:=by rw[bne_iff_ne];omega
   have hne:a≠b:=fun h=>hl (by rw[h])
   rw[e0,cond_true,decide_eq_false hne]
theorem elR_ok:FnPure Tryd.prog 30 aLRR5 dBool (fun g=>decide (g.1=g.2)) (fun g=>[g.1.length≤KB]):=
 pure_congr (elR_okS _ fun g _ hp=>by
  obtain ⟨a,b⟩:=g
  have h:a.length≤KB:=hp _ (List.mem_cons_self ..)
  unfold KB at h
  show elR_side a b
  intro hl
  have hl:a.length=b.length:=by
   have:=bne_eq_false_iff_eq.1 hl
   omega
  rw[eR.okL_eq,eR.okL_eq,eR.ag_eq,eR.ag_eq]
  exact ⟨trivial,trivial,rfl,by show a.length≤maxLen;unfold maxLen;omega,Int.le_refl _,by show (0:Int)≤(a.length:Int);omega,hl⟩) fun g _ hp=>by
  obtain ⟨a,b⟩:=g
  have h:a.length≤KB:=hp _ (List.mem_cons_self ..)
  unfold KB at h
  show elR_F a b=decide (a=b)
  unfold elR_F
  by_cases hl:a.length=b.length
  ·have e0:((a.length:Int) != (b.length:Int))=false:=by rw[bne_eq_false_iff_eq];omega
   rw[e0,cond_false]
   have hrun:=eqR_run (a,b,(a.length:Int)) false rfl (by show a.length≤maxLen;unfold maxLen;omega) hl
   have hq:elR_q1 a b=loopF eqR_RR eqR_M (eqR_g (0,(a,b,(a.length:Int)),false)):=by
    unfold elR_q1
    rw[eR.ag_eq,eR.ag_eq]
    rfl
   rw[hq,hrun]
   rcases searchI (x:=0) (st:=eqR_S (a,b,(a.length:Int))) (p:=fun i v=>!decide (v=b.getD i.toNat eR.dflt)) (r:=fun _ _ _=>false) (fun b i a=>rfl) a false with ⟨n,v,h1,h2,hs⟩ | ⟨h1,hs⟩
   ·rw[hs]
    have hne:a≠b:=by
     rintro rfl
     simp[List.getD_eq_getElem?_getD,h1] at h2
    rw[decide_eq_false hne];rfl
   ·rw[hs]
    have he:a=b:=by
     refine List.ext_getElem? fun n=>?_
     by_cases hn:n<a.length
     ·have:=h1 n a[n] (by simp[hn])
      have hn':n<b.length:=by omega
      simp only[List.getD_eq_getElem?_getD,Int.toNat_natCast,List.getElem?_eq_getElem hn',Option.getD_some,Bool.not_eq_false',decide_eq_true_eq] at this
      rw[List.getElem?_eq_getElem hn,List.getElem?_eq_getElem hn',this]
     ·rw[List.getElem?_eq_none (by omega),List.getElem?_eq_none (by omega)]
    rw[decide_eq_true he];rfl
  ·have e0:((a.length:Int) != (b.length:Int))=true:=by rw[bne_iff_ne];omega
   have hne:a≠b:=fun h=>hl (by rw[h])
   rw[e0,cond_true,decide_eq_false hne]
end Go.Proofs.YtmegbepjdololaaDoor

namespace Go.Proofs.YtmegbepjdololaaDoor
open Go.RowKit Go.Sx
set_option maxRecDepth 100000
set_option linter.unusedVariables false
end Go.Proofs.YtmegbepjdololaaDoor

namespace Go.Proofs.YtmegbepjdololaaDoor
open Go.RowKit Go.Sx Go.Lp
set_option maxRecDepth 100000
end Go.Proofs.YtmegbepjdololaaDoor

namespace Go.Proofs.YtmegbepjdololaaDoor
open Go.RowKit Go.Sx
set_option maxRecDepth 100000
set_option linter.unusedVariables false
end Go.Proofs.YtmegbepjdololaaDoor

namespace Go.Proofs.YtmegbepjdololaaDoor
open Go.RowKit Go.Sx Go.Lp
end Go.Proofs.YtmegbepjdololaaDoor

namespace Go.Proofs.YtmegbepjdololaaDoor
open Go.RowKit Go.Sx
set_option maxRecDepth 100000
set_option linter.unusedVariables false
end Go.Proofs.YtmegbepjdololaaDoor

namespace Go.Proofs.YtmegbepjdololaaDoor
open Go.RowKit Go.Sx Go.Lp
end Go.Proofs.YtmegbepjdololaaDoor

namespace Go.Proofs.YtmegbepjdololaaDoor
open Go.RowKit Go.Sx Go.Lp
structure Piece (f:Fn) (r p:Rec):Prop where
 key:p.key=r.key
 ne:p.text≠ByteArray.mk #[]
 part:∃ a u b:List Nat,rns (toL r.text)=a++u++b∧toL p.text=encs u∧(f.kind=22→∀ c:Nat,rune0 f.s=(c:Int)→c∉u)
end Go.Proofs.YtmegbepjdololaaDoor

namespace Go.Proofs.YtmegbepjdololaaDoor
open Go.RowKit Go.Sx
set_option maxRecDepth 100000
set_option linter.unusedVariables false
noncomputable def tabG0:PTab Tryd.prog:=(tabB1.cons 45 (pconP aR dI chkR (fun _=>[])) (conP_ok chk_ok puI)).cons 46 (pconP aR dI chkR (fun _=>[])) (conP_ok rchk_ok puI)
abbrev cor_G:Type:=List Int×Int×Int×Int×Int
noncomputable def cor_LP:LP 0 cor_G:=.pair (.slot 0 6 dLI) (.pair (.slot 0 7 dI) (.pair (.slot 0 3 dI) (.pair (.slot 0 8 dI) (.slot 0 2 dI))))
noncomputable def cor_R (xs:List Int) (n:Int) (z:Int) (i:Int) (r:Int):Ex×cor_G:=
 bif decide (i<n) then bif xs.getD i.toNat eI.dflt != z then (Ex.ret,eI.ag xs,n,z,i,xs.getD i.toNat eI.dflt) else (Ex.normal,eI.ag xs,n,z,IntKind.i64.wrap (i+(1:Int)),r)
 else (Ex.exit (0:Nat),eI.ag xs,n,z,i,r)
def cor_side (xs:List Int) (n:Int) (z:Int) (i:Int) (r:Int):Prop:=
 (decide (i<n)=true→((0:Int)≤i∧i<(↑xs.length:Int))∧((xs.getD i.toNat eI.dflt != z)=true→eI.okL xs)∧((xs.getD i.toNat eI.dflt != z)=false→eI.okL xs))∧(decide (i<n)=false→eI.okL xs)
theorem cor_one:((loopsOf Tryd.prog 89).filter fun c=>Nat.beq (lkey c) 3).length=1:=by kernel_rfl
abbrev cor_GC:Type:=List Int×Int×Int
abbrev cor_GB:Type:=Int
def cor_f (g:cor_G):Int×cor_GC×cor_GB:=(g.2.2.2.1,(g.1,g.2.1,g.2.2.1),g.2.2.2.2)
def cor_g (d:Int×cor_GC×cor_GB):cor_G:=(d.2.1.1,d.2.1.2.1,d.2.1.2.2,d.1,d.2.2)
theorem cor_es (g:cor_G):(cor_R g.1 g.2.1 g.2.2.1 g.2.2.2.1 g.2.2.2.2).1=.normal∨(cor_R g.1 g.2.1 g.2.2.1 g.2.2.2.1 g.2.2.2.2).1∈([.ret,.exit 0]:List Ex):=by
 unfold cor_R
 repeat' (first | (left;rfl) | (right;simp only[cond_true,cond_false];simp;done) | (rw[Bool.cond_eq_ite];split))
noncomputable abbrev cor_C (Inv:cor_G→List Prop) (m:cor_G→Nat):LCon:=loopR [.ret,.exit 0] (loopBody Tryd.prog 89 3) cor_LP [] 18 Inv (fun g=>cor_R g.1 g.2.1 g.2.2.1 g.2.2.2.1 g.2.2.2.2) m
theorem cor_loop (Inv:cor_G→List Prop) (m:cor_G→Nat) (hs:∀ g,allP (Inv g)→cor_side g.1 g.2.1 g.2.2.1 g.2.2.2.1 g.2.2.2.2) (hg:Goes (fun g:cor_G=>cor_R g.1 g.2.1 g.2.2.1 g.2.2.2.1 g.2.2.2.2) m fun g=>allP (Inv g)):∀ b∈loopsOf Tryd.prog 89,lkey b=3→LoopOk Tryd.prog b (cor_C Inv m).g:=loop_run (Γ:=(PTab.gamz tabG0 [] [])) (Λ:=noΛ) (PTab.okz tabG0 [] []) noΛ_ok 100 89 3 18 cor_LP [] Inv (fun g=>cor_R g.1 g.2.1 g.2.2.1 g.2.2.2.1 g.2.2.2.2) (fun g=>cor_side g.1 g.2.1 g.2.2.1 g.2.2.2.1 g.2.2.2.2) m default [.ret,.exit 0] cor_one (fun rd T B HL HB ds g=>by kernel_rfl) (fun rd T B HL HB ds g=>by kernel_rfl) hs hg cor_es
abbrev ixf_G:Type:=List Many×Unit×Int×Int×Int
noncomputable def ixf_LP:LP 0 ixf_G:=.pair (.slot 0 0 dLM) (.pair (.fix 0 1 (.fn 78 [])) (.pair (.slot 0 7 dI) (.pair (.slot 0 8 dI) (.slot 0 4 dI))))
noncomputable def ixf_R (xs:List Many) (_u:Unit) (n:Int) (i:Int) (r:Int):Ex×ixf_G:=
 bif decide (i<n) then bif chkR (xs.getD i.toNat eM.dflt).r != (0:Int) then (Ex.ret,eM.ag xs,(),n,i,i) else (Ex.normal,eM.ag xs,(),n,IntKind.i64.wrap (i+(1:Int)),r)
 else (Ex.exit (0:Nat),eM.ag xs,(),n,i,r)
def ixf_side (xs:List Many) (_u:Unit) (n:Int) (i:Int) (r:Int):Prop:=
 (decide (i<n)=true→((0:Int)≤i∧i<(↑xs.length:Int))∧((chkR (xs.getD i.toNat eM.dflt).r != (0:Int))=true→eM.okL xs)∧((chkR (xs.getD i.toNat eM.dflt).r != (0:Int))=false→eM.okL xs))∧(decide (i<n)=false→eM.okL xs)
theorem ixf_one:((loopsOf Tryd.prog 117).filter fun c=>Nat.beq (lkey c) 2).length=1:=by kernel_rfl
abbrev ixf_GC:Type:=List Many×Int
abbrev ixf_GB:Type:=Unit×Int
def ixf_f (g:ixf_G):Int×ixf_GC×ixf_GB:=(g.2.2.2.1,(g.1,g.2.2.1),(g.2.1,g.2.2.2.2))
def ixf_g (d:Int×ixf_GC×ixf_GB):ixf_G:=(d.2.1.1,d.2.2.1,d.2.1.2,d.1,d.2.2.2)
theorem ixf_es (g:ixf_G):(ixf_R g.1 g.2.1 g.2.2.1 g.2.2.2.1 g.2.2.2.2).1=.normal∨(ixf_R g.1 g.2.1 g.2.2.1 g.2.2.2.1 g.2.2.2.2).1∈([.ret,.exit 0]:List Ex):=by
 unfold ixf_R
 repeat' (first | (left;rfl) | (right;simp only[cond_true,cond_false];simp;done) | (rw[Bool.cond_eq_ite];split))
noncomputable abbrev ixf_C (Inv:ixf_G→List Prop) (m:ixf_G→Nat):LCon:=loopR [.ret,.exit 0] (loopBody Tryd.prog 117 2) ixf_LP [] 19 Inv (fun g=>ixf_R g.1 g.2.1 g.2.2.1 g.2.2.2.1 g.2.2.2.2) m
theorem ixf_loop (Inv:ixf_G→List Prop) (m:ixf_G→Nat) (hs:∀ g,allP (Inv g)→ixf_side g.1 g.2.1 g.2.2.1 g.2.2.2.1 g.2.2.2.2) (hg:Goes (fun g:ixf_G=>ixf_R g.1 g.2.1 g.2.2.1 g.2.2.2.1 g.2.2.2.2) m fun g=>allP (Inv g)):∀ b∈loopsOf Tryd.prog 117,lkey b=2→LoopOk Tryd.prog b (ixf_C Inv m).g:=loop_run (Γ:=(PTab.gamz tabG0 [] [])) (Λ:=noΛ) (PTab.okz tabG0 [] []) noΛ_ok 100 117 2 19 ixf_LP [] Inv (fun g=>ixf_R g.1 g.2.1 g.2.2.1 g.2.2.2.1 g.2.2.2.2) (fun g=>ixf_side g.1 g.2.1 g.2.2.1 g.2.2.2.1 g.2.2.2.2) m default [.ret,.exit 0] ixf_one (fun rd T B HL HB ds g=>by kernel_rfl) (fun rd T B HL HB ds g=>by kernel_rfl) hs hg ixf_es
noncomputable def rcm_F (a:Rec) (b:Rec):Dv.T dI:=
 bif decide (a.key<b.key) then (-1:Int)
 else bif decide (a.key > b.key) then (1:Int) else bif Op.bytesLess (ByteArray.toList a.text) (ByteArray.toList b.text) then (-1:Int) else bif !(Op.bytesLess (ByteArray.toList a.text) (ByteArray.toList b.text)||decide (a.text=b.text)) then (1:Int) else (0:Int)
theorem rcm_ok:FnPure Tryd.prog 48 aRR dI (fun g=>rcm_F g.1 g.2) (fun _=>[]):=pure_of_safe (Γ:=(PTab.gamz tabG0 [] [])) (Λ:=noΛ) (PTab.okz tabG0 [] []) noΛ_ok 100 default (fun g=>by kernel_rfl) (fun g=>by kernel_rfl)
noncomputable def tabG1:PTab Tryd.prog:=(tabG0).cons 48 (pconP aRR dI (fun g=>rcm_F g.1 g.2) (fun _=>[])) (conP_ok rcm_ok puI)
end Go.Proofs.YtmegbepjdololaaDoor

namespace Go.Proofs.YtmegbepjdololaaDoor
open Go.RowKit Go.Sx Go.Lp
set_option maxRecDepth 100000
noncomputable def cor_S (c:cor_GC) (b:cor_GB) (i:Int) (v:Int):Ex×cor_GB:=bif v != c.2.2 then (.ret,v) else (.normal,b)
def cor_K (c:cor_GC) (b:cor_GB) (i:Int):Prop:=True
abbrev cor_I (g:cor_G):List Prop:=ixI (fun c:cor_GC=>c.2.1) (fun c:cor_GC=>c.1) cor_K (cor_f g)
abbrev cor_M (g:cor_G):Nat:=ixM (fun c:cor_GC=>c.2.1) (cor_f g)
theorem cor_P:ixP cor_S (fun c:cor_GC=>c.1) cor_K:=fun _ _ _ _ h _ _=>h
noncomputable abbrev cor_RR (g:cor_G):Ex×cor_G:=cor_R g.1 g.2.1 g.2.2.1 g.2.2.2.1 g.2.2.2.2
theorem cor_RF (d:Int×cor_GC×cor_GB) (hi:allP (ixI (fun c:cor_GC=>c.2.1) (fun c:cor_GC=>c.1) cor_K d)):cor_RR (cor_g d)=((ixF 0 (fun c:cor_GC=>c.2.1) (fun c:cor_GC=>c.1) eI.dflt cor_S d).1,cor_g (ixF 0 (fun c:cor_GC=>c.2.1) (fun c:cor_GC=>c.1) eI.dflt cor_S d).2):=by
 obtain ⟨i,⟨xs,n,z⟩,r⟩:=d
 show cor_R xs n z i r=_
 unfold cor_R ixF cor_S
 simp only[El.ag_eq]
 cases decide (i<n) with
 | false=>rfl
 | true=>
  simp only[cond_true]
  generalize ((xs.getD i.toNat eI.dflt) != z)=z
  cases z <;> rfl
theorem cor_ok:∀ b∈loopsOf Tryd.prog 89,lkey b=3→LoopOk Tryd.prog b (cor_C cor_I cor_M).g:=by
 refine cor_loop cor_I cor_M (fun g hi=>?_) (ix_conj_goes (fun _=>rfl) (fun _=>rfl) cor_RF cor_P)
 obtain ⟨xs,n,z,i,r⟩:=g
 obtain ⟨h1,h2,h3,h4,h5⟩:=hi _ (List.mem_cons_self ..)
 have h1:n=(xs.length:Int):=h1
 have h3:0≤i:=h3
 have h5:True:=h5
 show cor_side xs n z i r
 unfold cor_side
 simp only[decide_eq_true_eq,decide_eq_false_iff_not]
 have k0:∀ e:Nat,e<xs.length→eI.Ok (eI.els xs e):=fun e _=>eI.ok_els xs e
 clear hi
 repeat' (first | exact k0 | apply And.intro | intro _)
 all_goals omega
theorem cor_run (c:cor_GC) (b:cor_GB) (k1:c.2.1=((c.1).length:Int)) (k2:(c.1).length≤maxLen) (k3:cor_K c b 0):loopF cor_RR cor_M (cor_g (0,c,b))=((scan 0 (cor_S c) 0 (c.1) b).1,cor_g ((scan 0 (cor_S c) 0 (c.1) b).2.1,c,(scan 0 (cor_S c) 0 (c.1) b).2.2)):=ix_conj_run (φ:=cor_f) (ψ:=cor_g) (fun _=>rfl) (fun _=>rfl) cor_RF cor_P c b k1 k2 k3
noncomputable def ixf_S (c:ixf_GC) (b:ixf_GB) (i:Int) (v:Many):Ex×ixf_GB:=bif chkR v.r != (0:Int) then (.ret,(),i) else (.normal,b.1,b.2)
def ixf_K (c:ixf_GC) (b:ixf_GB) (i:Int):Prop:=True
abbrev ixf_I (g:ixf_G):List Prop:=ixI (fun c:ixf_GC=>c.2) (fun c:ixf_GC=>c.1) ixf_K (ixf_f g)
abbrev ixf_M (g:ixf_G):Nat:=ixM (fun c:ixf_GC=>c.2) (ixf_f g)
theorem ixf_P:ixP ixf_S (fun c:ixf_GC=>c.1) ixf_K:=fun _ _ _ _ h _ _=>h
noncomputable abbrev ixf_RR (g:ixf_G):Ex×ixf_G:=ixf_R g.1 g.2.1 g.2.2.1 g.2.2.2.1 g.2.2.2.2
theorem ixf_RF (d:Int×ixf_GC×ixf_GB) (hi:allP (ixI (fun c:ixf_GC=>c.2) (fun c:ixf_GC=>c.1) ixf_K d)):ixf_RR (ixf_g d)=((ixF 0 (fun c:ixf_GC=>c.2) (fun c:ixf_GC=>c.1) eM.dflt ixf_S d).1,ixf_g (ixF 0 (fun c:ixf_GC=>c.2) (fun c:ixf_GC=>c.1) eM.dflt ixf_S d).2):=by
 obtain ⟨i,⟨xs,n⟩,⟨⟨⟩,r⟩⟩:=d
 show ixf_R xs () n i r=_
 unfold ixf_R ixF ixf_S
 simp only[El.ag_eq]
 cases decide (i<n) with
 | false=>rfl
 | true=>
  simp only[cond_true]
  generalize (chkR (xs.getD i.toNat eM.dflt).r != (0:Int))=z
  cases z <;> rfl
theorem ixf_ok:∀ b∈loopsOf Tryd.prog 117,lkey b=2→LoopOk Tryd.prog b (ixf_C ixf_I ixf_M).g:=by
 refine ixf_loop ixf_I ixf_M (fun g hi=>?_) (ix_conj_goes (fun _=>rfl) (fun _=>rfl) ixf_RF ixf_P)
 obtain ⟨xs,⟨⟩,n,i,r⟩:=g
 obtain ⟨h1,h2,h3,h4,h5⟩:=hi _ (List.mem_cons_self ..)
 have h1:n=(xs.length:Int):=h1
 have h3:0≤i:=h3
 have h5:True:=h5
 show ixf_side xs () n i r
 unfold ixf_side
 simp only[decide_eq_true_eq,decide_eq_false_iff_not]
 have k0:∀ e:Nat,e<xs.length→eM.Ok (eM.els xs e):=fun e _=>eM.ok_els xs e
 clear hi
 repeat' (first | exact k0 | apply And.intro | intro _)
 all_goals omega
theorem ixf_run (c:ixf_GC) (b:ixf_GB) (k1:c.2=((c.1).length:Int)) (k2:(c.1).length≤maxLen) (k3:ixf_K c b 0):loopF ixf_RR ixf_M (ixf_g (0,c,b))=((scan 0 (ixf_S c) 0 (c.1) b).1,ixf_g ((scan 0 (ixf_S c) 0 (c.1) b).2.1,c,(scan 0 (ixf_S c) 0 (c.1) b).2.2)):=ix_conj_run (φ:=ixf_f) (ψ:=ixf_g) (fun _=>rfl) (fun _=>rfl) ixf_RF ixf_P c b k1 k2 k3
noncomputable def ltG2:LTab Tryd.prog:=((LTab.nil.cons 89 3 (cor_C cor_I cor_M) cor_ok).cons 117 2 (ixf_C ixf_I ixf_M) ixf_ok)
noncomputable abbrev lamG2:Lam:=ltG2.lam
theorem lamG2_ok:∀ f k L,lamG2 f k=some L→∀ b∈loopsOf Tryd.prog f,lkey b=k→LoopOk Tryd.prog b L.g:=ltG2.ok
end Go.Proofs.YtmegbepjdololaaDoor

namespace Go.Proofs.YtmegbepjdololaaDoor
open Go.RowKit Go.Sx
set_option maxRecDepth 100000
set_option linter.unusedVariables false
abbrev aLI:DA (List Int):=.one dLI
noncomputable def coo_q1 (xs:List Int):Ex ×
 cor_G:=
 loopF (fun g=>cor_R g.fst g.snd.fst g.snd.snd.fst g.snd.snd.snd.fst g.snd.snd.snd.snd) cor_M (eI.ag xs,(↑xs.length:Int),(0:Int),(0:Int),(0:Int))
noncomputable def coo_F (xs:List Int):Dv.T dI:=
 bif exB Ex.ret (coo_q1 xs).fst then (coo_q1 xs).snd.snd.snd.snd.snd else (coo_q1 xs).snd.snd.snd.fst
def coo_side (xs:List Int):Prop:=
 eI.okL xs∧Lp.ixJ (fun c=>c.snd.fst) (fun c=>c.fst) cor_K (cor_f (eI.ag xs,(↑xs.length:Int),(0:Int),(0:Int),(0:Int)))
theorem coo_okS (pre:DA.T aLI→List Prop) (h:∀ g,DA.bd aLI g→(∀ p∈pre g,p)→coo_side g):FnPure Tryd.prog 89 aLI dI (fun g=>coo_F g) pre:=pure_of_sideS (Γ:=(PTab.gamz tabG1 [] [])) (Λ:=lamG2) (PTab.okz tabG1 [] []) lamG2_ok 100 default (fun g=>coo_side g) (fun g=>by kernel_rfl) (fun g=>by kernel_rfl) h
end Go.Proofs.YtmegbepjdololaaDoor

namespace Go.Proofs.YtmegbepjdololaaDoor
open Go.RowKit Go.Sx Go.Lp
@[irreducible] def orF (xs:List Int):Int:=(xs.find? (· != (0:Int))).getD 0
theorem coo_ok:FnPure Tryd.prog 89 aLI dI orF (fun g=>[g.length≤KB]):=
 pure_congr (coo_okS _ fun a _ hp=>by
  have h:a.length≤KB:=hp _ (List.mem_cons_self ..)
  unfold KB at h
  show coo_side a
  unfold coo_side
  rw[eI.okL_eq,eI.ag_eq]
  exact ⟨trivial,rfl,by show a.length≤maxLen;unfold maxLen;omega,Int.le_refl _,by show (0:Int)≤(a.length:Int);omega,trivial⟩) fun a _ hp=>by
  have h:a.length≤KB:=hp _ (List.mem_cons_self ..)
  unfold KB at h
  have hrun:=cor_run (a,(a.length:Int),0) 0 rfl (by show a.length≤maxLen;unfold maxLen;omega) trivial
  have hq:coo_q1 a=loopF cor_RR cor_M (cor_g (0,(a,(a.length:Int),0),0)):=by
   unfold coo_q1
   rw[eI.ag_eq]
   rfl
  show coo_F a=orF a
  unfold coo_F orF
  rw[hq,hrun]
  rcases scan_any (x:=0) (st:=cor_S (a,(a.length:Int),0)) (p:=fun v=>v != (0:Int)) (r:=fun v _=>v) (e:=.ret) (by intro h;cases h) (fun b i a=>rfl) a 0 0 with ⟨_,v,_,_,h3,h4,h5⟩ | ⟨h1,hs⟩
  ·rw[h3]
   show (bif exB Ex.ret (scan 0 (cor_S (a,(a.length:Int),0)) 0 a 0).1 then (scan 0 (cor_S (a,(a.length:Int),0)) 0 a 0).2.2 else _)=_
   rw[h4,h5]
   rfl
  ·rw[hs]
   have:a.find? (· != (0:Int))=none:=by
    rw[List.find?_eq_none]
    intro x hx hb
    have:a.any (fun v=>v != (0:Int))=true:=List.any_eq_true.2 ⟨x,hx,hb⟩
    rw[h1] at this
    cases this
   rw[this]
   rfl
abbrev aLIB:DA (List Int):=.one (.listB eI)
theorem coo_okB:FnPure Tryd.prog 89 aLIB dI orF (fun g=>[g.length≤KB]):=coo_ok
noncomputable def tabG4:PTab Tryd.prog:=(tabG1.cons 89 (pconP aLIB dI orF (fun g=>[g.length≤KB])) (conP_ok coo_okB puI))
end Go.Proofs.YtmegbepjdololaaDoor

namespace Go.Proofs.YtmegbepjdololaaDoor
open Go.RowKit Go.Sx
set_option maxRecDepth 100000
set_option linter.unusedVariables false
noncomputable def cmr_F (a:Rec) (b:Rec):Dv.T dI:=
 orF [cmp64_F a.key b.key,Lib.compareBytes a.text.data.toList b.text.data.toList]
def cmr_side (a:Rec) (b:Rec):Prop:=
 (2:Nat)≤KB
theorem cmr_okS (pre:DA.T aRR→List Prop) (h:∀ g,DA.bd aRR g→(∀ p∈pre g,p)→cmr_side g.1 g.2):FnPure Tryd.prog 47 aRR dI (fun g=>cmr_F g.1 g.2) pre:=pure_of_sideS (Γ:=(PTab.gamz tabG4 [] [])) (Λ:=noΛ) (PTab.okz tabG4 [] []) noΛ_ok 100 default (fun g=>cmr_side g.1 g.2) (fun g=>by kernel_rfl) (fun g=>by kernel_rfl) h
end Go.Proofs.YtmegbepjdololaaDoor

namespace Go.Proofs.YtmegbepjdololaaDoor
open Go.RowKit Go.Sx Go.Lp
theorem bl_eq:∀ (x y:List UInt8),Op.bytesLess x y=decide (x<y)
 | [],[]=>by simp[Op.bytesLess]
 | _ :: _,[]=>by simp[Op.bytesLess]
 | [],_ :: _=>by simp[Op.bytesLess]
 | a :: x,b :: y=>by
  rw[Op.bytesLess,bl_eq x y]
  simp only[List.cons_lt_cons_iff]
  by_cases h1:a<b <;> by_cases h2:a=b <;> by_cases h3:x<y <;> simp[h1,h2,h3]
theorem cb_eq:∀ (x y:List UInt8),Lib.compareBytes x y=if x<y then -1 else if x=y then 0 else 1
 | [],[]=>by simp[Lib.compareBytes]
 | _ :: _,[]=>by simp[Lib.compareBytes]
 | [],_ :: _=>by simp[Lib.compareBytes]
 | a :: x,b :: y=>by
  rw[Lib.compareBytes,cb_eq x y]
  simp only[List.cons_lt_cons_iff,List.cons.injEq]
  by_cases h1:a<b
  ·simp[h1]
  ·by_cases h2:b<a
   ·have h3:a≠b:=fun h=>by subst h;exact h1 h2
    simp[h1,h2,h3]
   ·have h3:a=b:=UInt8.le_antisymm (UInt8.not_lt.1 h2) (UInt8.not_lt.1 h1)
    subst h3
    simp[h1]
def tlt (a b:BA):Prop:=toL a<toL b
instance (a b:BA):Decidable (tlt a b):=inferInstanceAs (Decidable (toL a<toL b))
theorem tlt_irrefl (a:BA):¬ tlt a a:=List.lt_irrefl _
theorem tlt_trans {a b c:BA} (h:tlt a b) (h':tlt b c):tlt a c:=List.lt_trans h h'
theorem bl_tlt (a b:BA):Op.bytesLess (ByteArray.toList a) (ByteArray.toList b)=decide (tlt a b):=by
 rw[bl_eq,Lib.toList_data,Lib.toList_data]
 rfl
def rlt (a b:Rec):Prop:=a.key<b.key∨(a.key=b.key∧tlt a.text b.text)
instance (a b:Rec):Decidable (rlt a b):=inferInstanceAs (Decidable (_∨_))
def cmpR (a b:Rec):Int:=if rlt a b then -1 else if a=b then 0 else 1
theorem rec_ext' {a b:Rec} (h1:a.key=b.key) (h2:a.text=b.text):a=b:=by
 obtain ⟨k,t⟩:=a
 obtain ⟨k',t'⟩:=b
 simp only at h1 h2
 rw[h1,h2]
theorem cmpR_lt {a b:Rec} (h:rlt a b):cmpR a b=-1:=by unfold cmpR;rw[if_pos h]
theorem cmpR_same {a b:Rec} (h:¬ rlt a b) (h':a=b):cmpR a b=0:=by unfold cmpR;rw[if_neg h,if_pos h']
theorem cmpR_gt {a b:Rec} (h:¬ rlt a b) (h':a≠b):cmpR a b=1:=by unfold cmpR;rw[if_neg h,if_neg h']
theorem rlt_no {a b:Rec} (h:¬ a.key<b.key) (h':a.key=b.key→¬ tlt a.text b.text):¬ rlt a b:=by
 rintro (h1 | ⟨h1,h2⟩)
 ·exact h h1
 ·exact h' h1 h2
theorem rcm_eq (a b:Rec):rcm_F a b=cmpR a b:=by
 unfold rcm_F
 rw[bl_tlt]
 by_cases h1:a.key<b.key
 ·rw[decide_eq_true h1,cond_true,cmpR_lt (.inl h1)]
 rw[decide_eq_false h1,cond_false]
 by_cases h2:a.key > b.key
 ·have h3:a≠b:=fun h=>by subst h;omega
  rw[decide_eq_true h2,cond_true,cmpR_gt (rlt_no h1 fun h=>by omega) h3]
 have hk:a.key=b.key:=by omega
 rw[decide_eq_false h2,cond_false]
 by_cases h3:tlt a.text b.text
 ·rw[decide_eq_true h3,cond_true,cmpR_lt (.inr ⟨hk,h3⟩)]
 rw[decide_eq_false h3,cond_false,Bool.false_or]
 by_cases h4:a.text=b.text
 ·rw[decide_eq_true h4,cmpR_same (rlt_no h1 fun _=>h3) (rec_ext' hk h4)];rfl
 ·rw[decide_eq_false h4,cmpR_gt (rlt_no h1 fun _=>h3) (fun h=>h4 (by rw[h]))];rfl
theorem toL_iff (a b:BA):toL a=toL b↔a=b:=⟨toL_inj,fun h=>by rw[h]⟩
theorem orF_two (a b:Int):orF [a,b]=if a≠0 then a else b:=by
 unfold orF
 by_cases h:a=0
 ·subst h
  by_cases h':b=0
  ·subst h';rfl
  ·have e:(b != (0:Int))=true:=bne_iff_ne.2 h'
   simp[List.find?,e]
 ·have e:(a != (0:Int))=true:=bne_iff_ne.2 h
  simp[List.find?,e,h]
theorem cmr_eq (a b:Rec):cmr_F a b=cmpR a b:=by
 unfold cmr_F
 have e:Lib.compareBytes a.text.data.toList b.text.data.toList=if tlt a.text b.text then -1 else if a.text=b.text then 0 else 1:=by
  rw[cb_eq]
  show (if toL a.text<toL b.text then (-1:Int) else if toL a.text=toL b.text then 0 else 1)=_
  simp only[toL_iff]
  rfl
 have e2:cmp64_F a.key b.key=if a.key<b.key then -1 else if a.key > b.key then 1 else 0:=by
  unfold cmp64_F
  simp only[bne_self_eq_false,cond_false,Bool.cond_eq_ite,decide_eq_true_eq,Bool.false_eq_true,if_false]
 rw[e,e2,orF_two]
 by_cases h1:a.key<b.key
 ·rw[if_pos h1,if_pos (by decide),cmpR_lt (.inl h1)]
 by_cases h2:a.key > b.key
 ·have h3:a≠b:=fun h=>by subst h;omega
  rw[if_neg h1,if_pos h2,if_pos (by decide),cmpR_gt (rlt_no h1 fun h=>by omega) h3]
 have hk:a.key=b.key:=by omega
 rw[if_neg h1,if_neg h2,if_neg (by decide)]
 by_cases h3:tlt a.text b.text
 ·rw[if_pos h3,cmpR_lt (.inr ⟨hk,h3⟩)]
 rw[if_neg h3]
 by_cases h4:a.text=b.text
 ·rw[if_pos h4,cmpR_same (rlt_no h1 fun _=>h3) (rec_ext' hk h4)]
 ·rw[if_neg h4,cmpR_gt (rlt_no h1 fun _=>h3) (fun h=>h4 (by rw[h]))]
theorem cmr_ok:FnPure Tryd.prog 47 aRR dI (fun g=>cmpR g.1 g.2) (fun _=>[]):=
 pure_congr (cmr_okS _ fun _ _ _=>by show 2≤KB;unfold KB;omega) fun g _ _=>cmr_eq g.1 g.2
theorem rcm_ok':FnPure Tryd.prog 48 aRR dI (fun g=>cmpR g.1 g.2) (fun _=>[]):=
 pure_congr rcm_ok fun g _ _=>rcm_eq g.1 g.2
noncomputable def tabG6:PTab Tryd.prog:=(tabG0.cons 47 (pconP aRR dI (fun g=>cmpR g.1 g.2) (fun _=>[])) (conP_ok cmr_ok puI)).cons 48 (pconP aRR dI (fun g=>cmpR g.1 g.2) (fun _=>[])) (conP_ok rcm_ok' puI)
end Go.Proofs.YtmegbepjdololaaDoor

namespace Go.Proofs.YtmegbepjdololaaDoor
open Go.RowKit Go.Sx
set_option maxRecDepth 100000
set_option linter.unusedVariables false
abbrev nilV:SV:=.k (.slice none 0 0)
abbrev tM:Nat:=84
abbrev aMap:DA (List (Rec×Int)):=.one (.map true false eR eI)
noncomputable def ba_q1 (xs:List Rec) (n:Int) (i:Int) (_u:Unit) (mp:List (Rec×Int×Int)×Nat) (_u2:Unit) (r:Int):Nat:=
 kfind (fun e=>(xs.getD i.toNat eR.dflt).key==(mp.fst.getD e (eR.ent eI).dflt).fst.key&&decide ((xs.getD i.toNat eR.dflt).text=(mp.fst.getD e (eR.ent eI).dflt).fst.text)) mp.fst.length (0:Nat)
noncomputable def ba_q2 (xs:List Rec) (n:Int) (i:Int) (_u:Unit) (mp:List (Rec×Int×Int)×Nat) (_u2:Unit) (r:Int):Nat:=
 kfind (fun e=>((xs.getD i.toNat eR.dflt).key==bif decide (e=(ba_q1 xs n i _u mp _u2 r)) then (xs.getD i.toNat eR.dflt).key else (mp.fst.getD e (eR.ent eI).dflt).fst.key)&&decide ((xs.getD i.toNat eR.dflt).text=bif decide (e=(ba_q1 xs n i _u mp _u2 r)) then (xs.getD i.toNat eR.dflt).text else (mp.fst.getD e (eR.ent eI).dflt).fst.text)) (bif decide ((ba_q1 xs n i _u mp _u2 r)<mp.fst.length) then mp.fst.length else mp.fst.length+(1:Nat)) (0:Nat)
abbrev ba_G:Type:=List Rec×Int×Int×Unit×(List (Rec×Int×Int)×Nat)×Unit×Int
noncomputable def ba_LP:LP 1 ba_G:=.pair (.slot 1 9 dLR) (.pair (.slot 1 10 dI) (.pair (.slot 1 11 dI) (.pair (.fix 1 4 (.mp 0)) (.pair (.mapO 1 0 true false eR eI) (.pair (.fix 1 2 nilV) (.slot 1 3 dI))))))
noncomputable def ba_R (xs:List Rec) (n:Int) (i:Int) (_u:Unit) (mp:List (Rec×Int×Int)×Nat) (_u2:Unit) (r:Int):Ex×ba_G:=
 bif decide (i<n) then bif chkR (xs.getD i.toNat eR.dflt) != (0:Int) then (Ex.ret,eR.ag xs,n,i,(),((eR.ent eI).ag mp.fst,mp.snd),(),chkR (xs.getD i.toNat eR.dflt)) else (Ex.normal,eR.ag xs,n,IntKind.i64.wrap (i+(1:Int)),(),(((eR.ent eI).lst (bif decide ((ba_q1 xs n i _u mp _u2 r)<mp.fst.length) then mp.fst.length else mp.fst.length+(1:Nat)) ((eR.ent eI).els mp.fst)).set (ba_q1 xs n i _u mp _u2 r) (xs.getD i.toNat eR.dflt,IntKind.i64.wrap ((bif decide ((ba_q1 xs n i _u mp _u2 r)<mp.fst.length) then (mp.fst.getD (ba_q1 xs n i _u mp _u2 r) (eR.ent eI).dflt).snd.fst else (0:Int))+(1:Int)),bif decide ((ba_q1 xs n i _u mp _u2 r)<mp.fst.length) then (mp.fst.getD (ba_q1 xs n i _u mp _u2 r) (eR.ent eI).dflt).snd.snd else (↑mp.snd:Int)),bif decide ((ba_q1 xs n i _u mp _u2 r)<mp.fst.length) then mp.snd else mp.snd+(1:Nat)),(),r)
 else (Ex.exit (0:Nat),eR.ag xs,n,i,(),((eR.ent eI).ag mp.fst,mp.snd),(),r)
def ba_side (xs:List Rec) (n:Int) (i:Int) (_u:Unit) (mp:List (Rec×Int×Int)×Nat) (_u2:Unit) (r:Int):Prop:=
 (decide (i<n)=true→((0:Int)≤i∧i<(↑xs.length:Int))∧((chkR (xs.getD i.toNat eR.dflt) != (0:Int))=true→eR.okL xs∧∀ (e:Nat),e<mp.fst.length→True)∧((chkR (xs.getD i.toNat eR.dflt) != (0:Int))=false→∀ (cs:List Nat),(cs.isEmpty=true→(∀ (e:Nat),e<mp.fst.length→(4:Nat)=(4:Nat))∧(∀ (e:Nat),e<mp.fst.length→True)∧(∀ (e:Nat),e<mp.fst.length→(4:Nat)=(4:Nat))∧(∀ (e:Nat),e<mp.fst.length→True)∧((bif decide ((ba_q1 xs n i _u mp _u2 r)<mp.fst.length) then (mp.fst.getD (ba_q1 xs n i _u mp _u2 r) (eR.ent eI).dflt).snd.snd else (↑mp.snd:Int))=bif decide ((ba_q1 xs n i _u mp _u2 r)<mp.fst.length) then (mp.fst.getD (ba_q1 xs n i _u mp _u2 r) (eR.ent eI).dflt).snd.snd else (↑mp.snd:Int))∧eR.okL xs∧True∧(∀ (e:Nat),(e<bif decide ((ba_q1 xs n i _u mp _u2 r)<mp.fst.length) then mp.fst.length else mp.fst.length+(1:Nat))→True)∧∀ (d:Ex×List Rec×Int×Int×Unit×(List (Rec×Int×Int)×Nat)×Unit×Int),(Ex.normal,eR.ag xs,n,IntKind.i64.wrap (i+(1:Int)),(),(((eR.ent eI).lst (bif decide ((ba_q1 xs n i _u mp _u2 r)<mp.fst.length) then mp.fst.length else mp.fst.length+(1:Nat)) ((eR.ent eI).els mp.fst)).set (ba_q1 xs n i _u mp _u2 r) (xs.getD i.toNat eR.dflt,IntKind.i64.wrap ((bif decide ((ba_q1 xs n i _u mp _u2 r)<mp.fst.length) then (mp.fst.getD (ba_q1 xs n i _u mp _u2 r) (eR.ent eI).dflt).snd.fst else (0:Int))+(1:Int)),bif decide ((ba_q1 xs n i _u mp _u2 r)<mp.fst.length) then (mp.fst.getD (ba_q1 xs n i _u mp _u2 r) (eR.ent eI).dflt).snd.snd else (↑mp.snd:Int)),bif decide ((ba_q1 xs n i _u mp _u2 r)<mp.fst.length) then mp.snd else mp.snd+(1:Nat)),(),r)=(Ex.normal,eR.ag xs,n,IntKind.i64.wrap (i+(1:Int)),(),(((eR.ent eI).lst (bif decide ((ba_q1 xs n i _u mp _u2 r)<mp.fst.length) then mp.fst.length else mp.fst.length+(1:Nat)) ((eR.ent eI).els mp.fst)).set (ba_q1 xs n i _u mp _u2 r) (xs.getD i.toNat eR.dflt,IntKind.i64.wrap ((bif decide ((ba_q1 xs n i _u mp _u2 r)<mp.fst.length) then (mp.fst.getD (ba_q1 xs n i _u mp _u2 r) (eR.ent eI).dflt).snd.fst else (0:Int))+(1:Int)),bif decide ((ba_q1 xs n i _u mp _u2 r)<mp.fst.length) then (mp.fst.getD (ba_q1 xs n i _u mp _u2 r) (eR.ent eI).dflt).snd.snd else (↑mp.snd:Int)),bif decide ((ba_q1 xs n i _u mp _u2 r)<mp.fst.length) then mp.snd else mp.snd+(1:Nat)),(),r))∧(cs.isEmpty=false→(∀ (e:Nat),e<mp.fst.length→(4:Nat)=(4:Nat))∧(∀ (e:Nat),e<mp.fst.length→True)∧(∀ (e:Nat),(e<bif decide ((ba_q1 xs n i _u mp _u2 r)<mp.fst.length) then mp.fst.length else mp.fst.length+(1:Nat))→(4:Nat)=(4:Nat))∧(∀ (e:Nat),(e<bif decide ((ba_q1 xs n i _u mp _u2 r)<mp.fst.length) then mp.fst.length else mp.fst.length+(1:Nat))→True)∧((bif decide ((ba_q1 xs n i _u mp _u2 r)<mp.fst.length) then (mp.fst.getD (ba_q1 xs n i _u mp _u2 r) (eR.ent eI).dflt).snd.snd else (↑mp.snd:Int))=bif decide ((ba_q1 xs n i _u mp _u2 r)<mp.fst.length) then (mp.fst.getD (ba_q1 xs n i _u mp _u2 r) (eR.ent eI).dflt).snd.snd else (↑mp.snd:Int))∧eR.okL xs∧True∧(∀ (e:Nat),(e<bif decide ((ba_q1 xs n i _u mp _u2 r)<mp.fst.length) then mp.fst.length else mp.fst.length+(1:Nat))→True)∧∀ (d:Ex×List Rec×Int×Int×Unit×(List (Rec×Int×Int)×Nat)×Unit×Int),(Ex.normal,eR.ag xs,n,IntKind.i64.wrap (i+(1:Int)),(),(((eR.ent eI).lst (bif decide ((ba_q1 xs n i _u mp _u2 r)<mp.fst.length) then mp.fst.length else mp.fst.length+(1:Nat)) ((eR.ent eI).els mp.fst)).set (ba_q1 xs n i _u mp _u2 r) (xs.getD i.toNat eR.dflt,IntKind.i64.wrap ((bif decide ((ba_q2 xs n i _u mp _u2 r)<bif decide ((ba_q1 xs n i _u mp _u2 r)<mp.fst.length) then mp.fst.length else mp.fst.length+(1:Nat)) then bif decide ((ba_q2 xs n i _u mp _u2 r)=(ba_q1 xs n i _u mp _u2 r)) then bif decide ((ba_q1 xs n i _u mp _u2 r)<mp.fst.length) then (mp.fst.getD (ba_q1 xs n i _u mp _u2 r) (eR.ent eI).dflt).snd.fst else (0:Int) else (mp.fst.getD (ba_q2 xs n i _u mp _u2 r) (eR.ent eI).dflt).snd.fst else (0:Int))+(1:Int)),bif decide ((ba_q1 xs n i _u mp _u2 r)<mp.fst.length) then (mp.fst.getD (ba_q1 xs n i _u mp _u2 r) (eR.ent eI).dflt).snd.snd else (↑mp.snd:Int)),bif decide ((ba_q1 xs n i _u mp _u2 r)<mp.fst.length) then mp.snd else mp.snd+(1:Nat)),(),r)=(Ex.normal,eR.ag xs,n,IntKind.i64.wrap (i+(1:Int)),(),(((eR.ent eI).lst (bif decide ((ba_q1 xs n i _u mp _u2 r)<mp.fst.length) then mp.fst.length else mp.fst.length+(1:Nat)) ((eR.ent eI).els mp.fst)).set (ba_q1 xs n i _u mp _u2 r) (xs.getD i.toNat eR.dflt,IntKind.i64.wrap ((bif decide ((ba_q1 xs n i _u mp _u2 r)<mp.fst.length) then (mp.fst.getD (ba_q1 xs n i _u mp _u2 r) (eR.ent eI).dflt).snd.fst else (0:Int))+(1:Int)),bif decide ((ba_q1 xs n i _u mp _u2 r)<mp.fst.length) then (mp.fst.getD (ba_q1 xs n i _u mp _u2 r) (eR.ent eI).dflt).snd.snd else (↑mp.snd:Int)),bif decide ((ba_q1 xs n i _u mp _u2 r)<mp.fst.length) then mp.snd else mp.snd+(1:Nat)),(),r))))∧(decide (i<n)=false→eR.okL xs∧∀ (e:Nat),e<mp.fst.length→True)
theorem ba_one:((loopsOf Tryd.prog 24).filter fun c=>Nat.beq (lkey c) 3).length=1:=by kernel_rfl
abbrev ba_GC:Type:=List Rec×Int
abbrev ba_GB:Type:=(List (Rec×Int×Int)×Nat)×Int
def ba_f (g:ba_G):Int×ba_GC×ba_GB:=(g.2.2.1,(g.1,g.2.1),(g.2.2.2.2.1,g.2.2.2.2.2.2))
def ba_g (d:Int×ba_GC×ba_GB):ba_G:=(d.2.1.1,d.2.1.2,d.1,(),d.2.2.1,(),d.2.2.2)
theorem ba_es (g:ba_G):(ba_R g.1 g.2.1 g.2.2.1 g.2.2.2.1 g.2.2.2.2.1 g.2.2.2.2.2.1 g.2.2.2.2.2.2).1=.normal∨(ba_R g.1 g.2.1 g.2.2.1 g.2.2.2.1 g.2.2.2.2.1 g.2.2.2.2.2.1 g.2.2.2.2.2.2).1∈([.ret,.exit 0]:List Ex):=by
 unfold ba_R
 repeat' (first | (left;rfl) | (right;simp only[cond_true,cond_false];simp;done) | (rw[Bool.cond_eq_ite];split))
noncomputable abbrev ba_C (Inv:ba_G→List Prop) (m:ba_G→Nat):LCon:=loopR [.ret,.exit 0] (loopBody Tryd.prog 24 3) ba_LP [] 31 Inv (fun g=>ba_R g.1 g.2.1 g.2.2.1 g.2.2.2.1 g.2.2.2.2.1 g.2.2.2.2.2.1 g.2.2.2.2.2.2) m
theorem ba_loop (Inv:ba_G→List Prop) (m:ba_G→Nat) (hs:∀ g,allP (Inv g)→ba_side g.1 g.2.1 g.2.2.1 g.2.2.2.1 g.2.2.2.2.1 g.2.2.2.2.2.1 g.2.2.2.2.2.2) (hg:Goes (fun g:ba_G=>ba_R g.1 g.2.1 g.2.2.1 g.2.2.2.1 g.2.2.2.2.1 g.2.2.2.2.2.1 g.2.2.2.2.2.2) m fun g=>allP (Inv g)):∀ b∈loopsOf Tryd.prog 24,lkey b=3→LoopOk Tryd.prog b (ba_C Inv m).g:=loop_run (Γ:=(MTab.gamz (MTab.of tabG6) [] [])) (Λ:=noΛ) (MTab.okz (MTab.of tabG6) [] []) noΛ_ok 100 24 3 31 ba_LP [] Inv (fun g=>ba_R g.1 g.2.1 g.2.2.1 g.2.2.2.1 g.2.2.2.2.1 g.2.2.2.2.2.1 g.2.2.2.2.2.2) (fun g=>ba_side g.1 g.2.1 g.2.2.1 g.2.2.2.1 g.2.2.2.2.1 g.2.2.2.2.2.1 g.2.2.2.2.2.2) m default [.ret,.exit 0] ba_one (fun rd T B HL HB ds g=>by kernel_rfl) (fun rd T B HL HB ds g=>by kernel_rfl) hs hg ba_es
abbrev bg_G:Type:=Unit×(List (Rec×Int))×List Many×Unit×Int
noncomputable def bg_LP:LP 1 bg_G:=.pair (.fix 1 8 (.p 0 0)) (.pair (.mif 1 0 true false eR eI) (.pair (.row 1 4 tM eM) (.pair (.fix 1 2 nilV) (.slot 1 3 dI))))
noncomputable def bg_R (cs:List Nat) (_u:Unit) (it:List (Rec×Int)) (o:List Many) (_u2:Unit) (r:Int):Ex×bg_G:=
 bif decide (it.length=(0:Nat)) then (Ex.exit (0:Nat),(),(eR.pair eI).lst it.length ((eR.pair eI).els it),eM.lst o.length (eM.els o),(),r)
 else bif decide ((it.getD ((hdC cs).headD (0:Nat) % it.length) (eR.pair eI).dflt).snd > (1048576:Int)) then (Ex.ret,(),(eR.pair eI).lst (min (it.length - (1:Nat)) ((hdC cs).headD (0:Nat) % it.length)) ((eR.pair eI).els it)++List.drop ((hdC cs).headD (0:Nat) % it.length+(1:Nat)) ((eR.pair eI).lst ((hdC cs).headD (0:Nat) % it.length+(1:Nat)+(it.length - (1:Nat) - (hdC cs).headD (0:Nat) % it.length)) ((eR.pair eI).els it)),eM.lst o.length (eM.els o),(),(51:Int)) else (Ex.normal,(),(eR.pair eI).lst (min (it.length - (1:Nat)) ((hdC cs).headD (0:Nat) % it.length)) ((eR.pair eI).els it)++List.drop ((hdC cs).headD (0:Nat) % it.length+(1:Nat)) ((eR.pair eI).lst ((hdC cs).headD (0:Nat) % it.length+(1:Nat)+(it.length - (1:Nat) - (hdC cs).headD (0:Nat) % it.length)) ((eR.pair eI).els it)),eM.lst (min (o.length+(1:Nat)) o.length) (eM.els o)++List.map (fun x=>Many.mk (it.getD ((hdC cs).headD (0:Nat) % it.length) (eR.pair eI).dflt).fst (it.getD ((hdC cs).headD (0:Nat) % it.length) (eR.pair eI).dflt).snd) (List.range (o.length+(1:Nat) - o.length)),(),r)
def bg_side (cs:List Nat) (_u:Unit) (it:List (Rec×Int)) (o:List Many) (_u2:Unit) (r:Int):Prop:=
 (decide (it.length=(0:Nat))=true→(∀ (e:Nat),e<it.length→True)∧o.length≤o.length∧∀ (e:Nat),e<o.length→True)∧(decide (it.length=(0:Nat))=false→(decide ((it.getD ((hdC cs).headD (0:Nat) % it.length) (eR.pair eI).dflt).snd > (1048576:Int))=true→(∀ (e:Nat),e<min (it.length - (1:Nat)) ((hdC cs).headD (0:Nat) % it.length)→True)∧(∀ (e:Nat),e<(hdC cs).headD (0:Nat) % it.length+(1:Nat)+(it.length - (1:Nat) - (hdC cs).headD (0:Nat) % it.length)→True)∧o.length≤o.length∧∀ (e:Nat),e<o.length→True)∧(decide ((it.getD ((hdC cs).headD (0:Nat) % it.length) (eR.pair eI).dflt).snd > (1048576:Int))=false→(o.length≤o.length∧True∧o.length+(1:Nat)≤maxLen∧(o.length+(1:Nat)) * Tryd.prog.types[(84:Nat)].bytes≤(140737488355328:Nat))∧(∀ (e:Nat),e<min (it.length - (1:Nat)) ((hdC cs).headD (0:Nat) % it.length)→True)∧(∀ (e:Nat),e<(hdC cs).headD (0:Nat) % it.length+(1:Nat)+(it.length - (1:Nat) - (hdC cs).headD (0:Nat) % it.length)→True)∧o.length+(1:Nat)≤o.length+(1:Nat)∧(∀ (e:Nat),e<min (o.length+(1:Nat)) o.length→True)∧∀ (e:Nat),e<o.length+(1:Nat) - o.length→True))
theorem bg_one:((loopsOf Tryd.prog 74).filter fun c=>Nat.beq (lkey c) 3).length=1:=by kernel_rfl
abbrev bg_E:List Ex:=[.exit 0,.ret]
theorem bg_es (cs:List Nat) (g:bg_G):(bg_R cs g.1 g.2.1 g.2.2.1 g.2.2.2.1 g.2.2.2.2).1=.normal∨(bg_R cs g.1 g.2.1 g.2.2.1 g.2.2.2.1 g.2.2.2.2).1∈bg_E:=by
 unfold bg_R
 repeat' (first | (left;rfl) | (right;simp only[cond_true,cond_false];simp;done) | (rw[Bool.cond_eq_ite];split))
noncomputable abbrev bg_F (cs:List Nat) (g:bg_G):Ex×bg_G:=bg_R cs g.1 g.2.1 g.2.2.1 g.2.2.2.1 g.2.2.2.2
noncomputable abbrev bg_C (Inv:bg_G→List Prop) (m:bg_G→Nat):LCon:=loopRA bg_E (loopBody Tryd.prog 74 3) bg_LP [] 25 Inv bg_F m
theorem bg_loop (Inv:bg_G→List Prop) (m:bg_G→Nat) (hs:∀ cs g,allP (Inv g)→bg_side cs g.1 g.2.1 g.2.2.1 g.2.2.2.1 g.2.2.2.2) (hg:GoesA bg_F m fun g=>allP (Inv g)):∀ b∈loopsOf Tryd.prog 74,lkey b=3→LoopOk Tryd.prog b (bg_C Inv m).g:=loop_runA (Γ:=(MTab.gamz (MTab.of tabG6) [] [])) (Λ:=noΛ) (MTab.okz (MTab.of tabG6) [] []) noΛ_ok 100 74 3 25 bg_LP [] Inv bg_F (fun cs g=>bg_side cs g.1 g.2.1 g.2.2.1 g.2.2.2.1 g.2.2.2.2) m default bg_E bg_one (fun rd T B HL HB ds cs g=>by kernel_rfl) (fun rd T B HL HB ds cs g=>by kernel_rfl) hs hg bg_es
noncomputable def su_q1 (xs:List Many) (n:Int) (i:Int) (_u:Unit) (mp:List (Rec×Int×Int)×Nat):Nat:=
 kfind (fun e=>(xs.getD i.toNat eM.dflt).r.key==(mp.fst.getD e (eR.ent eI).dflt).fst.key&&decide ((xs.getD i.toNat eM.dflt).r.text=(mp.fst.getD e (eR.ent eI).dflt).fst.text)) mp.fst.length (0:Nat)
noncomputable def su_q2 (xs:List Many) (n:Int) (i:Int) (_u:Unit) (mp:List (Rec×Int×Int)×Nat):Nat:=
 kfind (fun e=>((xs.getD i.toNat eM.dflt).r.key==bif decide (e=(su_q1 xs n i _u mp)) then (xs.getD i.toNat eM.dflt).r.key else (mp.fst.getD e (eR.ent eI).dflt).fst.key)&&decide ((xs.getD i.toNat eM.dflt).r.text=bif decide (e=(su_q1 xs n i _u mp)) then (xs.getD i.toNat eM.dflt).r.text else (mp.fst.getD e (eR.ent eI).dflt).fst.text)) (bif decide ((su_q1 xs n i _u mp)<mp.fst.length) then mp.fst.length else mp.fst.length+(1:Nat)) (0:Nat)
abbrev su_G:Type:=List Many×Int×Int×Unit×List (Rec×Int×Int)×Nat
noncomputable def su_LP:LP 1 su_G:=.pair (.slot 1 24 dLM) (.pair (.slot 1 25 dI) (.pair (.slot 1 26 dI) (.pair (.fix 1 6 (.mp 0)) (.mapO 1 0 true false eR eI))))
noncomputable def su_R (xs:List Many) (n:Int) (i:Int) (_u:Unit) (mp:List (Rec×Int×Int)×Nat):Ex×su_G:=
 bif decide (i<n) then (Ex.normal,eM.ag xs,n,IntKind.i64.wrap (i+(1:Int)),(),((eR.ent eI).lst (bif decide ((su_q1 xs n i _u mp)<mp.fst.length) then mp.fst.length else mp.fst.length+(1:Nat)) ((eR.ent eI).els mp.fst)).set (su_q1 xs n i _u mp) ((xs.getD i.toNat eM.dflt).r,IntKind.i64.wrap ((bif decide ((su_q1 xs n i _u mp)<mp.fst.length) then (mp.fst.getD (su_q1 xs n i _u mp) (eR.ent eI).dflt).snd.fst else (0:Int))+(xs.getD i.toNat eM.dflt).n),bif decide ((su_q1 xs n i _u mp)<mp.fst.length) then (mp.fst.getD (su_q1 xs n i _u mp) (eR.ent eI).dflt).snd.snd else (↑mp.snd:Int)),bif decide ((su_q1 xs n i _u mp)<mp.fst.length) then mp.snd else mp.snd+(1:Nat))
 else (Ex.exit (2:Nat),eM.ag xs,n,i,(),(eR.ent eI).ag mp.fst,mp.snd)
def su_side (xs:List Many) (n:Int) (i:Int) (_u:Unit) (mp:List (Rec×Int×Int)×Nat):Prop:=
 (decide (i<n)=true→((0:Int)≤i∧i<(↑xs.length:Int))∧∀ (cs:List Nat),(cs.isEmpty=true→(∀ (e:Nat),e<mp.fst.length→(4:Nat)=(4:Nat))∧(∀ (e:Nat),e<mp.fst.length→True)∧(∀ (e:Nat),e<mp.fst.length→(4:Nat)=(4:Nat))∧(∀ (e:Nat),e<mp.fst.length→True)∧((bif decide ((su_q1 xs n i _u mp)<mp.fst.length) then (mp.fst.getD (su_q1 xs n i _u mp) (eR.ent eI).dflt).snd.snd else (↑mp.snd:Int))=bif decide ((su_q1 xs n i _u mp)<mp.fst.length) then (mp.fst.getD (su_q1 xs n i _u mp) (eR.ent eI).dflt).snd.snd else (↑mp.snd:Int))∧eM.okL xs∧True∧(∀ (e:Nat),(e<bif decide ((su_q1 xs n i _u mp)<mp.fst.length) then mp.fst.length else mp.fst.length+(1:Nat))→True)∧∀ (d:Ex×List Many×Int×Int×Unit×List (Rec×Int×Int)×Nat),(Ex.normal,eM.ag xs,n,IntKind.i64.wrap (i+(1:Int)),(),((eR.ent eI).lst (bif decide ((su_q1 xs n i _u mp)<mp.fst.length) then mp.fst.length else mp.fst.length+(1:Nat)) ((eR.ent eI).els mp.fst)).set (su_q1 xs n i _u mp) ((xs.getD i.toNat eM.dflt).r,IntKind.i64.wrap ((bif decide ((su_q1 xs n i _u mp)<mp.fst.length) then (mp.fst.getD (su_q1 xs n i _u mp) (eR.ent eI).dflt).snd.fst else (0:Int))+(xs.getD i.toNat eM.dflt).n),bif decide ((su_q1 xs n i _u mp)<mp.fst.length) then (mp.fst.getD (su_q1 xs n i _u mp) (eR.ent eI).dflt).snd.snd else (↑mp.snd:Int)),bif decide ((su_q1 xs n i _u mp)<mp.fst.length) then mp.snd else mp.snd+(1:Nat))=(Ex.normal,eM.ag xs,n,IntKind.i64.wrap (i+(1:Int)),(),((eR.ent eI).lst (bif decide ((su_q1 xs n i _u mp)<mp.fst.length) then mp.fst.length else mp.fst.length+(1:Nat)) ((eR.ent eI).els mp.fst)).set (su_q1 xs n i _u mp) ((xs.getD i.toNat eM.dflt).r,IntKind.i64.wrap ((bif decide ((su_q1 xs n i _u mp)<mp.fst.length) then (mp.fst.getD (su_q1 xs n i _u mp) (eR.ent eI).dflt).snd.fst else (0:Int))+(xs.getD i.toNat eM.dflt).n),bif decide ((su_q1 xs n i _u mp)<mp.fst.length) then (mp.fst.getD (su_q1 xs n i _u mp) (eR.ent eI).dflt).snd.snd else (↑mp.snd:Int)),bif decide ((su_q1 xs n i _u mp)<mp.fst.length) then mp.snd else mp.snd+(1:Nat)))∧(cs.isEmpty=false→(∀ (e:Nat),e<mp.fst.length→(4:Nat)=(4:Nat))∧(∀ (e:Nat),e<mp.fst.length→True)∧(∀ (e:Nat),(e<bif decide ((su_q1 xs n i _u mp)<mp.fst.length) then mp.fst.length else mp.fst.length+(1:Nat))→(4:Nat)=(4:Nat))∧(∀ (e:Nat),(e<bif decide ((su_q1 xs n i _u mp)<mp.fst.length) then mp.fst.length else mp.fst.length+(1:Nat))→True)∧((bif decide ((su_q1 xs n i _u mp)<mp.fst.length) then (mp.fst.getD (su_q1 xs n i _u mp) (eR.ent eI).dflt).snd.snd else (↑mp.snd:Int))=bif decide ((su_q1 xs n i _u mp)<mp.fst.length) then (mp.fst.getD (su_q1 xs n i _u mp) (eR.ent eI).dflt).snd.snd else (↑mp.snd:Int))∧eM.okL xs∧True∧(∀ (e:Nat),(e<bif decide ((su_q1 xs n i _u mp)<mp.fst.length) then mp.fst.length else mp.fst.length+(1:Nat))→True)∧∀ (d:Ex×List Many×Int×Int×Unit×List (Rec×Int×Int)×Nat),(Ex.normal,eM.ag xs,n,IntKind.i64.wrap (i+(1:Int)),(),((eR.ent eI).lst (bif decide ((su_q1 xs n i _u mp)<mp.fst.length) then mp.fst.length else mp.fst.length+(1:Nat)) ((eR.ent eI).els mp.fst)).set (su_q1 xs n i _u mp) ((xs.getD i.toNat eM.dflt).r,IntKind.i64.wrap ((bif decide ((su_q2 xs n i _u mp)<bif decide ((su_q1 xs n i _u mp)<mp.fst.length) then mp.fst.length else mp.fst.length+(1:Nat)) then bif decide ((su_q2 xs n i _u mp)=(su_q1 xs n i _u mp)) then bif decide ((su_q1 xs n i _u mp)<mp.fst.length) then (mp.fst.getD (su_q1 xs n i _u mp) (eR.ent eI).dflt).snd.fst else (0:Int) else (mp.fst.getD (su_q2 xs n i _u mp) (eR.ent eI).dflt).snd.fst else (0:Int))+(xs.getD i.toNat eM.dflt).n),bif decide ((su_q1 xs n i _u mp)<mp.fst.length) then (mp.fst.getD (su_q1 xs n i _u mp) (eR.ent eI).dflt).snd.snd else (↑mp.snd:Int)),bif decide ((su_q1 xs n i _u mp)<mp.fst.length) then mp.snd else mp.snd+(1:Nat))=(Ex.normal,eM.ag xs,n,IntKind.i64.wrap (i+(1:Int)),(),((eR.ent eI).lst (bif decide ((su_q1 xs n i _u mp)<mp.fst.length) then mp.fst.length else mp.fst.length+(1:Nat)) ((eR.ent eI).els mp.fst)).set (su_q1 xs n i _u mp) ((xs.getD i.toNat eM.dflt).r,IntKind.i64.wrap ((bif decide ((su_q1 xs n i _u mp)<mp.fst.length) then (mp.fst.getD (su_q1 xs n i _u mp) (eR.ent eI).dflt).snd.fst else (0:Int))+(xs.getD i.toNat eM.dflt).n),bif decide ((su_q1 xs n i _u mp)<mp.fst.length) then (mp.fst.getD (su_q1 xs n i _u mp) (eR.ent eI).dflt).snd.snd else (↑mp.snd:Int)),bif decide ((su_q1 xs n i _u mp)<mp.fst.length) then mp.snd else mp.snd+(1:Nat))))∧(decide (i<n)=false→eM.okL xs∧∀ (e:Nat),e<mp.fst.length→True)
theorem su_one:((loopsOf Tryd.prog 32).filter fun c=>Nat.beq (lkey c) 9).length=1:=by kernel_rfl
abbrev su_GC:Type:=List Many×Int
abbrev su_GB:Type:=List (Rec×Int×Int)×Nat
def su_f (g:su_G):Int×su_GC×su_GB:=(g.2.2.1,(g.1,g.2.1),g.2.2.2.2)
def su_g (d:Int×su_GC×su_GB):su_G:=(d.2.1.1,d.2.1.2,d.1,(),d.2.2)
theorem su_es (g:su_G):(su_R g.1 g.2.1 g.2.2.1 g.2.2.2.1 g.2.2.2.2).1=.normal∨(su_R g.1 g.2.1 g.2.2.1 g.2.2.2.1 g.2.2.2.2).1∈([.exit 2]:List Ex):=by
 unfold su_R
 repeat' (first | (left;rfl) | (right;simp only[cond_true,cond_false];simp;done) | (rw[Bool.cond_eq_ite];split))
noncomputable abbrev su_C (Inv:su_G→List Prop) (m:su_G→Nat):LCon:=loopR [.exit 2] (loopBody Tryd.prog 32 9) su_LP [] 45 Inv (fun g=>su_R g.1 g.2.1 g.2.2.1 g.2.2.2.1 g.2.2.2.2) m
theorem su_loop (Inv:su_G→List Prop) (m:su_G→Nat) (hs:∀ g,allP (Inv g)→su_side g.1 g.2.1 g.2.2.1 g.2.2.2.1 g.2.2.2.2) (hg:Goes (fun g:su_G=>su_R g.1 g.2.1 g.2.2.1 g.2.2.2.1 g.2.2.2.2) m fun g=>allP (Inv g)):∀ b∈loopsOf Tryd.prog 32,lkey b=9→LoopOk Tryd.prog b (su_C Inv m).g:=loop_run (Γ:=(MTab.gamz (MTab.of tabG6) [] [])) (Λ:=noΛ) (MTab.okz (MTab.of tabG6) [] []) noΛ_ok 100 32 9 45 su_LP [] Inv (fun g=>su_R g.1 g.2.1 g.2.2.1 g.2.2.2.1 g.2.2.2.2) (fun g=>su_side g.1 g.2.1 g.2.2.1 g.2.2.2.1 g.2.2.2.2) m default [.exit 2] su_one (fun rd T B HL HB ds g=>by kernel_rfl) (fun rd T B HL HB ds g=>by kernel_rfl) hs hg su_es
abbrev pu_G:Type:=Unit×Rec×List Many×Int×Int×Bool×List Many
noncomputable def pu_LP:LP 1 pu_G:=.pair (.fix 1 4 (.p 0 0)) (.pair (.obj 1 0 46 eR) (.pair (.slot 1 0 dLM) (.pair (.slot 1 2 dI) (.pair (.slot 1 9 dI) (.pair (.slot 1 8 dBool) (.row 1 7 tM eM))))))
noncomputable def pu_R (_u:Unit) (r:Rec) (xs:List Many) (n:Int) (i:Int) (d:Bool) (o:List Many):Ex×pu_G:=
 bif decide (i<(↑xs.length:Int)) then bif !d&&decide (cmpR r (xs.getD i.toNat eM.dflt).r<(0:Int)) then (Ex.normal,(),r,eM.ag xs,n,IntKind.i64.wrap (i+(1:Int)),true,bif cmpR r (xs.getD i.toNat eM.dflt).r==(0:Int) then eM.lst (min (min (bif cmpR r (xs.getD i.toNat eM.dflt).r==(0:Int) then o.length+(1:Nat)+(1:Nat) else o.length+(1:Nat)+(1:Nat)) (o.length+(1:Nat))) o.length) (eM.els o)++List.map (fun x=>Many.mk r n) (List.range (min (bif cmpR r (xs.getD i.toNat eM.dflt).r==(0:Int) then o.length+(1:Nat)+(1:Nat) else o.length+(1:Nat)+(1:Nat)) (o.length+(1:Nat)) - o.length))++List.map (fun x=>Many.mk r (IntKind.i64.wrap ((xs.getD i.toNat eM.dflt).n+n))) (List.range ((bif cmpR r (xs.getD i.toNat eM.dflt).r==(0:Int) then o.length+(1:Nat)+(1:Nat) else o.length+(1:Nat)+(1:Nat)) - (o.length+(1:Nat)))) else eM.lst (min (min (bif cmpR r (xs.getD i.toNat eM.dflt).r==(0:Int) then o.length+(1:Nat)+(1:Nat) else o.length+(1:Nat)+(1:Nat)) (o.length+(1:Nat))) o.length) (eM.els o)++List.map (fun x=>Many.mk r n) (List.range (min (bif cmpR r (xs.getD i.toNat eM.dflt).r==(0:Int) then o.length+(1:Nat)+(1:Nat) else o.length+(1:Nat)+(1:Nat)) (o.length+(1:Nat)) - o.length))++List.map (fun x=>xs.getD i.toNat eM.dflt) (List.range ((bif cmpR r (xs.getD i.toNat eM.dflt).r==(0:Int) then o.length+(1:Nat)+(1:Nat) else o.length+(1:Nat)+(1:Nat)) - (o.length+(1:Nat))))) else (Ex.normal,(),r,eM.ag xs,n,IntKind.i64.wrap (i+(1:Int)),cmpR r (xs.getD i.toNat eM.dflt).r==(0:Int)||d,bif cmpR r (xs.getD i.toNat eM.dflt).r==(0:Int) then eM.lst (min (bif cmpR r (xs.getD i.toNat eM.dflt).r==(0:Int) then o.length+(1:Nat) else o.length+(1:Nat)) o.length) (eM.els o)++List.map (fun x=>Many.mk r (IntKind.i64.wrap ((xs.getD i.toNat eM.dflt).n+n))) (List.range ((bif cmpR r (xs.getD i.toNat eM.dflt).r==(0:Int) then o.length+(1:Nat) else o.length+(1:Nat)) - o.length)) else eM.lst (min (bif cmpR r (xs.getD i.toNat eM.dflt).r==(0:Int) then o.length+(1:Nat) else o.length+(1:Nat)) o.length) (eM.els o)++List.map (fun x=>xs.getD i.toNat eM.dflt) (List.range ((bif cmpR r (xs.getD i.toNat eM.dflt).r==(0:Int) then o.length+(1:Nat) else o.length+(1:Nat)) - o.length)))
 else (Ex.exit (0:Nat),(),r,eM.ag xs,n,i,d,eM.ag o)
def pu_side (_u:Unit) (r:Rec) (xs:List Many) (n:Int) (i:Int) (d:Bool) (o:List Many):Prop:=
 (decide (i<(↑xs.length:Int))=true→((0:Int)≤i∧i<(↑xs.length:Int))∧((!d&&decide (cmpR r (xs.getD i.toNat eM.dflt).r<(0:Int)))=true→(o.length≤o.length∧True∧o.length+(1:Nat)≤maxLen∧(o.length+(1:Nat)) * Tryd.prog.types[(84:Nat)].bytes≤(140737488355328:Nat))∧((cmpR r (xs.getD i.toNat eM.dflt).r==(0:Int))=true→(0:Int)≤i∧i<(↑xs.length:Int))∧((cmpR r (xs.getD i.toNat eM.dflt).r==(0:Int))=true→o.length+(1:Nat)≤o.length+(1:Nat)∧True∧o.length+(1:Nat)+(1:Nat)≤maxLen∧(o.length+(1:Nat)+(1:Nat)) * Tryd.prog.types[(84:Nat)].bytes≤(140737488355328:Nat))∧((!cmpR r (xs.getD i.toNat eM.dflt).r==(0:Int))=true→(0:Int)≤i∧i<(↑xs.length:Int))∧((!cmpR r (xs.getD i.toNat eM.dflt).r==(0:Int))=true→o.length+(1:Nat)≤o.length+(1:Nat)∧True∧o.length+(1:Nat)+(1:Nat)≤maxLen∧(o.length+(1:Nat)+(1:Nat)) * Tryd.prog.types[(84:Nat)].bytes≤(140737488355328:Nat))∧eM.okL xs∧((bif cmpR r (xs.getD i.toNat eM.dflt).r==(0:Int) then o.length+(1:Nat)+(1:Nat) else o.length+(1:Nat)+(1:Nat))≤bif cmpR r (xs.getD i.toNat eM.dflt).r==(0:Int) then o.length+(1:Nat)+(1:Nat) else o.length+(1:Nat)+(1:Nat))∧(∀ (e:Nat),e<min (min (bif cmpR r (xs.getD i.toNat eM.dflt).r==(0:Int) then o.length+(1:Nat)+(1:Nat) else o.length+(1:Nat)+(1:Nat)) (o.length+(1:Nat))) o.length→True)∧(∀ (e:Nat),e<min (bif cmpR r (xs.getD i.toNat eM.dflt).r==(0:Int) then o.length+(1:Nat)+(1:Nat) else o.length+(1:Nat)+(1:Nat)) (o.length+(1:Nat)) - o.length→True)∧(∀ (e:Nat),e<(bif cmpR r (xs.getD i.toNat eM.dflt).r==(0:Int) then o.length+(1:Nat)+(1:Nat) else o.length+(1:Nat)+(1:Nat)) - (o.length+(1:Nat))→True)∧(∀ (e:Nat),e<min (min (bif cmpR r (xs.getD i.toNat eM.dflt).r==(0:Int) then o.length+(1:Nat)+(1:Nat) else o.length+(1:Nat)+(1:Nat)) (o.length+(1:Nat))) o.length→True)∧(∀ (e:Nat),e<min (bif cmpR r (xs.getD i.toNat eM.dflt).r==(0:Int) then o.length+(1:Nat)+(1:Nat) else o.length+(1:Nat)+(1:Nat)) (o.length+(1:Nat)) - o.length→True)∧∀ (e:Nat),e<(bif cmpR r (xs.getD i.toNat eM.dflt).r==(0:Int) then o.length+(1:Nat)+(1:Nat) else o.length+(1:Nat)+(1:Nat)) - (o.length+(1:Nat))→True)∧((!d&&decide (cmpR r (xs.getD i.toNat eM.dflt).r<(0:Int)))=false→((cmpR r (xs.getD i.toNat eM.dflt).r==(0:Int))=true→(0:Int)≤i∧i<(↑xs.length:Int))∧((cmpR r (xs.getD i.toNat eM.dflt).r==(0:Int))=true→o.length≤o.length∧True∧o.length+(1:Nat)≤maxLen∧(o.length+(1:Nat)) * Tryd.prog.types[(84:Nat)].bytes≤(140737488355328:Nat))∧((!cmpR r (xs.getD i.toNat eM.dflt).r==(0:Int))=true→(0:Int)≤i∧i<(↑xs.length:Int))∧((!cmpR r (xs.getD i.toNat eM.dflt).r==(0:Int))=true→o.length≤o.length∧True∧o.length+(1:Nat)≤maxLen∧(o.length+(1:Nat)) * Tryd.prog.types[(84:Nat)].bytes≤(140737488355328:Nat))∧eM.okL xs∧((bif cmpR r (xs.getD i.toNat eM.dflt).r==(0:Int) then o.length+(1:Nat) else o.length+(1:Nat))≤bif cmpR r (xs.getD i.toNat eM.dflt).r==(0:Int) then o.length+(1:Nat) else o.length+(1:Nat))∧(∀ (e:Nat),e<min (bif cmpR r (xs.getD i.toNat eM.dflt).r==(0:Int) then o.length+(1:Nat) else o.length+(1:Nat)) o.length→True)∧(∀ (e:Nat),e<(bif cmpR r (xs.getD i.toNat eM.dflt).r==(0:Int) then o.length+(1:Nat) else o.length+(1:Nat)) - o.length→True)∧(∀ (e:Nat),e<min (bif cmpR r (xs.getD i.toNat eM.dflt).r==(0:Int) then o.length+(1:Nat) else o.length+(1:Nat)) o.length→True)∧∀ (e:Nat),e<(bif cmpR r (xs.getD i.toNat eM.dflt).r==(0:Int) then o.length+(1:Nat) else o.length+(1:Nat)) - o.length→True))∧(decide (i<(↑xs.length:Int))=false→eM.okL xs∧o.length≤o.length∧∀ (e:Nat),e<o.length→True)
theorem pu_one:((loopsOf Tryd.prog 75).filter fun c=>Nat.beq (lkey c) 4).length=1:=by kernel_rfl
abbrev pu_GC:Type:=Rec×List Many×Int
abbrev pu_GB:Type:=Unit×Bool×List Many
def pu_f (g:pu_G):Int×pu_GC×pu_GB:=(g.2.2.2.2.1,(g.2.1,g.2.2.1,g.2.2.2.1),(g.1,g.2.2.2.2.2.1,g.2.2.2.2.2.2))
def pu_g (d:Int×pu_GC×pu_GB):pu_G:=(d.2.2.1,d.2.1.1,d.2.1.2.1,d.2.1.2.2,d.1,d.2.2.2.1,d.2.2.2.2)
theorem pu_es (g:pu_G):(pu_R g.1 g.2.1 g.2.2.1 g.2.2.2.1 g.2.2.2.2.1 g.2.2.2.2.2.1 g.2.2.2.2.2.2).1=.normal∨(pu_R g.1 g.2.1 g.2.2.1 g.2.2.2.1 g.2.2.2.2.1 g.2.2.2.2.2.1 g.2.2.2.2.2.2).1∈([.exit 0]:List Ex):=by
 unfold pu_R
 repeat' (first | (left;rfl) | (right;simp only[cond_true,cond_false];simp;done) | (rw[Bool.cond_eq_ite];split))
noncomputable abbrev pu_C (Inv:pu_G→List Prop) (m:pu_G→Nat):LCon:=loopR [.exit 0] (loopBody Tryd.prog 75 4) pu_LP [] 66 Inv (fun g=>pu_R g.1 g.2.1 g.2.2.1 g.2.2.2.1 g.2.2.2.2.1 g.2.2.2.2.2.1 g.2.2.2.2.2.2) m
theorem pu_loop (Inv:pu_G→List Prop) (m:pu_G→Nat) (hs:∀ g,allP (Inv g)→pu_side g.1 g.2.1 g.2.2.1 g.2.2.2.1 g.2.2.2.2.1 g.2.2.2.2.2.1 g.2.2.2.2.2.2) (hg:Goes (fun g:pu_G=>pu_R g.1 g.2.1 g.2.2.1 g.2.2.2.1 g.2.2.2.2.1 g.2.2.2.2.2.1 g.2.2.2.2.2.2) m fun g=>allP (Inv g)):∀ b∈loopsOf Tryd.prog 75,lkey b=4→LoopOk Tryd.prog b (pu_C Inv m).g:=loop_run (Γ:=(MTab.gamz (MTab.of tabG6) [] [])) (Λ:=noΛ) (MTab.okz (MTab.of tabG6) [] []) noΛ_ok 100 75 4 66 pu_LP [] Inv (fun g=>pu_R g.1 g.2.1 g.2.2.1 g.2.2.2.1 g.2.2.2.2.1 g.2.2.2.2.2.1 g.2.2.2.2.2.2) (fun g=>pu_side g.1 g.2.1 g.2.2.1 g.2.2.2.1 g.2.2.2.2.1 g.2.2.2.2.2.1 g.2.2.2.2.2.2) m default [.exit 0] pu_one (fun rd T B HL HB ds g=>by kernel_rfl) (fun rd T B HL HB ds g=>by kernel_rfl) hs hg pu_es
abbrev ov_G:Type:=List Many×Int×Int
noncomputable def ov_LP:LP 0 ov_G:=.pair (.slot 0 0 dLM) (.pair (.slot 0 3 dI) (.slot 0 2 dI))
noncomputable def ov_R (xs:List Many) (i:Int) (r:Int):Ex×ov_G:=
 bif decide (i<(↑xs.length:Int)) then bif decide ((xs.getD i.toNat eM.dflt).n > (1048576:Int)) then (Ex.ret,eM.ag xs,i,(51:Int)) else (Ex.normal,eM.ag xs,IntKind.i64.wrap (i+(1:Int)),r)
 else (Ex.exit (0:Nat),eM.ag xs,i,r)
def ov_side (xs:List Many) (i:Int) (r:Int):Prop:=
 (decide (i<(↑xs.length:Int))=true→((0:Int)≤i∧i<(↑xs.length:Int))∧(decide ((xs.getD i.toNat eM.dflt).n > (1048576:Int))=true→eM.okL xs)∧(decide ((xs.getD i.toNat eM.dflt).n > (1048576:Int))=false→eM.okL xs))∧(decide (i<(↑xs.length:Int))=false→eM.okL xs)
theorem ov_one:((loopsOf Tryd.prog 76).filter fun c=>Nat.beq (lkey c) 2).length=1:=by kernel_rfl
abbrev ov_GC:Type:=List Many
abbrev ov_GB:Type:=Int
def ov_f (g:ov_G):Int×ov_GC×ov_GB:=(g.2.1,g.1,g.2.2)
def ov_g (d:Int×ov_GC×ov_GB):ov_G:=(d.2.1,d.1,d.2.2)
theorem ov_es (g:ov_G):(ov_R g.1 g.2.1 g.2.2).1=.normal∨(ov_R g.1 g.2.1 g.2.2).1∈([.ret,.exit 0]:List Ex):=by
 unfold ov_R
 repeat' (first | (left;rfl) | (right;simp only[cond_true,cond_false];simp;done) | (rw[Bool.cond_eq_ite];split))
noncomputable abbrev ov_C (Inv:ov_G→List Prop) (m:ov_G→Nat):LCon:=loopR [.ret,.exit 0] (loopBody Tryd.prog 76 2) ov_LP [] 16 Inv (fun g=>ov_R g.1 g.2.1 g.2.2) m
theorem ov_loop (Inv:ov_G→List Prop) (m:ov_G→Nat) (hs:∀ g,allP (Inv g)→ov_side g.1 g.2.1 g.2.2) (hg:Goes (fun g:ov_G=>ov_R g.1 g.2.1 g.2.2) m fun g=>allP (Inv g)):∀ b∈loopsOf Tryd.prog 76,lkey b=2→LoopOk Tryd.prog b (ov_C Inv m).g:=loop_run (Γ:=(MTab.gamz (MTab.of tabG6) [] [])) (Λ:=noΛ) (MTab.okz (MTab.of tabG6) [] []) noΛ_ok 100 76 2 16 ov_LP [] Inv (fun g=>ov_R g.1 g.2.1 g.2.2) (fun g=>ov_side g.1 g.2.1 g.2.2) m default [.ret,.exit 0] ov_one (fun rd T B HL HB ds g=>by kernel_rfl) (fun rd T B HL HB ds g=>by kernel_rfl) hs hg ov_es
abbrev rb_G:Type:=List Rec×Int×Unit×Int
noncomputable def rb_LP:LP 0 rb_G:=.pair (.slot 0 0 dLR) (.pair (.slot 0 4 dI) (.pair (.fix 0 2 nilV) (.slot 0 3 dI)))
noncomputable def rb_R (xs:List Rec) (i:Int) (_u:Unit) (r:Int):Ex×rb_G:=
 bif decide (i<(↑xs.length:Int)) then bif chkR (xs.getD i.toNat eR.dflt) != (0:Int) then (Ex.ret,eR.ag xs,i,(),chkR (xs.getD i.toNat eR.dflt)) else (Ex.normal,eR.ag xs,IntKind.i64.wrap (i+(1:Int)),(),r)
 else (Ex.exit (0:Nat),eR.ag xs,i,(),r)
def rb_side (xs:List Rec) (i:Int) (_u:Unit) (r:Int):Prop:=
 (decide (i<(↑xs.length:Int))=true→((0:Int)≤i∧i<(↑xs.length:Int))∧((chkR (xs.getD i.toNat eR.dflt) != (0:Int))=true→eR.okL xs)∧((chkR (xs.getD i.toNat eR.dflt) != (0:Int))=false→eR.okL xs))∧(decide (i<(↑xs.length:Int))=false→eR.okL xs)
theorem rb_one:((loopsOf Tryd.prog 25).filter fun c=>Nat.beq (lkey c) 2).length=1:=by kernel_rfl
abbrev rb_GC:Type:=List Rec
abbrev rb_GB:Type:=Unit×Int
def rb_f (g:rb_G):Int×rb_GC×rb_GB:=(g.2.1,g.1,(g.2.2.1,g.2.2.2))
def rb_g (d:Int×rb_GC×rb_GB):rb_G:=(d.2.1,d.1,d.2.2.1,d.2.2.2)
theorem rb_es (g:rb_G):(rb_R g.1 g.2.1 g.2.2.1 g.2.2.2).1=.normal∨(rb_R g.1 g.2.1 g.2.2.1 g.2.2.2).1∈([.ret,.exit 0]:List Ex):=by
 unfold rb_R
 repeat' (first | (left;rfl) | (right;simp only[cond_true,cond_false];simp;done) | (rw[Bool.cond_eq_ite];split))
noncomputable abbrev rb_C (Inv:rb_G→List Prop) (m:rb_G→Nat):LCon:=loopR [.ret,.exit 0] (loopBody Tryd.prog 25 2) rb_LP [] 41 Inv (fun g=>rb_R g.1 g.2.1 g.2.2.1 g.2.2.2) m
theorem rb_loop (Inv:rb_G→List Prop) (m:rb_G→Nat) (hs:∀ g,allP (Inv g)→rb_side g.1 g.2.1 g.2.2.1 g.2.2.2) (hg:Goes (fun g:rb_G=>rb_R g.1 g.2.1 g.2.2.1 g.2.2.2) m fun g=>allP (Inv g)):∀ b∈loopsOf Tryd.prog 25,lkey b=2→LoopOk Tryd.prog b (rb_C Inv m).g:=loop_run (Γ:=(MTab.gamz (MTab.of tabG6) [] [])) (Λ:=noΛ) (MTab.okz (MTab.of tabG6) [] []) noΛ_ok 100 25 2 41 rb_LP [] Inv (fun g=>rb_R g.1 g.2.1 g.2.2.1 g.2.2.2) (fun g=>rb_side g.1 g.2.1 g.2.2.1 g.2.2.2) m default [.ret,.exit 0] rb_one (fun rd T B HL HB ds g=>by kernel_rfl) (fun rd T B HL HB ds g=>by kernel_rfl) hs hg rb_es
end Go.Proofs.YtmegbepjdololaaDoor

namespace Go.Proofs.YtmegbepjdololaaDoor
open Go.RowKit Go.Sx Go.Lp
set_option maxRecDepth 100000
noncomputable def ov_S (c:ov_GC) (b:ov_GB) (i:Int) (v:Many):Ex×ov_GB:=bif decide (v.n > (1048576:Int)) then (.ret,(51:Int)) else (.normal,b)
def ov_K (c:ov_GC) (b:ov_GB) (i:Int):Prop:=True
abbrev ov_I (g:ov_G):List Prop:=ixI (fun c:ov_GC=>(c.length:Int)) (fun c:ov_GC=>c) ov_K (ov_f g)
abbrev ov_M (g:ov_G):Nat:=ixM (fun c:ov_GC=>(c.length:Int)) (ov_f g)
theorem ov_P:ixP ov_S (fun c:ov_GC=>c) ov_K:=fun _ _ _ _ h _ _=>h
noncomputable abbrev ov_RR (g:ov_G):Ex×ov_G:=ov_R g.1 g.2.1 g.2.2
theorem ov_RF (d:Int×ov_GC×ov_GB) (hi:allP (ixI (fun c:ov_GC=>(c.length:Int)) (fun c:ov_GC=>c) ov_K d)):ov_RR (ov_g d)=((ixF 0 (fun c:ov_GC=>(c.length:Int)) (fun c:ov_GC=>c) eM.dflt ov_S d).1,ov_g (ixF 0 (fun c:ov_GC=>(c.length:Int)) (fun c:ov_GC=>c) eM.dflt ov_S d).2):=by
 obtain ⟨i,xs,r⟩:=d
 show ov_R xs i r=_
 unfold ov_R ixF ov_S
 simp only[El.ag_eq]
 cases decide (i<(xs.length:Int)) with
 | false=>rfl
 | true=>
  simp only[cond_true]
  generalize (decide ((xs.getD i.toNat eM.dflt).n > (1048576:Int)))=z
  cases z <;> rfl
theorem ov_ok:∀ b∈loopsOf Tryd.prog 76,lkey b=2→LoopOk Tryd.prog b (ov_C ov_I ov_M).g:=by
 refine ov_loop ov_I ov_M (fun g hi=>?_) (ix_conj_goes (fun _=>rfl) (fun _=>rfl) ov_RF ov_P)
 obtain ⟨xs,i,r⟩:=g
 obtain ⟨h1,h2,h3,h4,h5⟩:=hi _ (List.mem_cons_self ..)
 have h1:(xs.length:Int)=(xs.length:Int):=h1
 have h3:0≤i:=h3
 have h5:True:=h5
 show ov_side xs i r
 unfold ov_side
 simp only[decide_eq_true_eq,decide_eq_false_iff_not]
 have k0:∀ e:Nat,e<xs.length→eM.Ok (eM.els xs e):=fun e _=>eM.ok_els xs e
 clear hi
 repeat' (first | exact k0 | apply And.intro | intro _)
 all_goals omega
theorem ov_run (c:ov_GC) (b:ov_GB) (k1:(c.length:Int)=((c).length:Int)) (k2:(c).length≤maxLen) (k3:ov_K c b 0):loopF ov_RR ov_M (ov_g (0,c,b))=((scan 0 (ov_S c) 0 (c) b).1,ov_g ((scan 0 (ov_S c) 0 (c) b).2.1,c,(scan 0 (ov_S c) 0 (c) b).2.2)):=ix_conj_run (φ:=ov_f) (ψ:=ov_g) (fun _=>rfl) (fun _=>rfl) ov_RF ov_P c b k1 k2 k3
noncomputable def rb_S (c:rb_GC) (b:rb_GB) (i:Int) (v:Rec):Ex×rb_GB:=bif chkR v != (0:Int) then (.ret,(),chkR v) else (.normal,b.1,b.2)
def rb_K (c:rb_GC) (b:rb_GB) (i:Int):Prop:=True
abbrev rb_I (g:rb_G):List Prop:=ixI (fun c:rb_GC=>(c.length:Int)) (fun c:rb_GC=>c) rb_K (rb_f g)
abbrev rb_M (g:rb_G):Nat:=ixM (fun c:rb_GC=>(c.length:Int)) (rb_f g)
theorem rb_P:ixP rb_S (fun c:rb_GC=>c) rb_K:=fun _ _ _ _ h _ _=>h
noncomputable abbrev rb_RR (g:rb_G):Ex×rb_G:=rb_R g.1 g.2.1 g.2.2.1 g.2.2.2
theorem rb_RF (d:Int×rb_GC×rb_GB) (hi:allP (ixI (fun c:rb_GC=>(c.length:Int)) (fun c:rb_GC=>c) rb_K d)):rb_RR (rb_g d)=((ixF 0 (fun c:rb_GC=>(c.length:Int)) (fun c:rb_GC=>c) eR.dflt rb_S d).1,rb_g (ixF 0 (fun c:rb_GC=>(c.length:Int)) (fun c:rb_GC=>c) eR.dflt rb_S d).2):=by
 obtain ⟨i,xs,⟨⟨⟩,r⟩⟩:=d
 show rb_R xs i () r=_
 unfold rb_R ixF rb_S
 simp only[El.ag_eq]
 cases decide (i<(xs.length:Int)) with
 | false=>rfl
 | true=>
  simp only[cond_true]
  generalize (chkR (xs.getD i.toNat eR.dflt) != (0:Int))=z
  cases z <;> rfl
theorem rb_ok:∀ b∈loopsOf Tryd.prog 25,lkey b=2→LoopOk Tryd.prog b (rb_C rb_I rb_M).g:=by
 refine rb_loop rb_I rb_M (fun g hi=>?_) (ix_conj_goes (fun _=>rfl) (fun _=>rfl) rb_RF rb_P)
 obtain ⟨xs,i,⟨⟩,r⟩:=g
 obtain ⟨h1,h2,h3,h4,h5⟩:=hi _ (List.mem_cons_self ..)
 have h1:(xs.length:Int)=(xs.length:Int):=h1
 have h3:0≤i:=h3
 have h5:True:=h5
 show rb_side xs i () r
 unfold rb_side
 simp only[decide_eq_true_eq,decide_eq_false_iff_not]
 have k0:∀ e:Nat,e<xs.length→eR.Ok (eR.els xs e):=fun e _=>eR.ok_els xs e
 clear hi
 repeat' (first | exact k0 | apply And.intro | intro _)
 all_goals omega
noncomputable def ltO2:LTab Tryd.prog:=((LTab.nil.cons 76 2 (ov_C ov_I ov_M) ov_ok).cons 25 2 (rb_C rb_I rb_M) rb_ok)
end Go.Proofs.YtmegbepjdololaaDoor

namespace Go.Proofs.YtmegbepjdololaaDoor
open Go.RowKit Go.Sx Go.Lp
set_option maxRecDepth 100000
abbrev MEr:=MpE Rec Int
noncomputable abbrev dEr:MEr:=(eR.ent eI).dflt
def addW (b n:Int):Int:=IntKind.i64.wrap (b+n)
theorem eqKR (a b:Rec):(a.key==b.key&&decide (a.text=b.text))=decide (a=b):=by
 obtain ⟨k,s⟩:=a
 obtain ⟨k',s'⟩:=b
 rw[Bool.eq_iff_iff]
 simp
noncomputable abbrev mputR (m:List MEr×Nat) (v:Rec):List MEr×Nat:=mputG (fun x:Rec=>x) (fun _=>1) addW 0 dEr m v
noncomputable abbrev mputM (m:List MEr×Nat) (v:Many):List MEr×Nat:=mputG Many.r Many.n addW 0 dEr m v
theorem q2_eq (m:List MEr) (v:Rec) (q1:Nat) (h1:q1=kfind (fun e=>v.key==(m.getD e dEr).1.key&&decide (v.text=(m.getD e dEr).1.text)) m.length 0) :
  kfind (fun e=>(v.key==bif decide (e=q1) then v.key else (m.getD e dEr).1.key)&&decide (v.text=bif decide (e=q1) then v.text else (m.getD e dEr).1.text)) (bif decide (q1<m.length) then m.length else m.length+1) 0=q1:=by
 have hle:=(kfind_le (fun e=>v.key==(m.getD e dEr).1.key&&decide (v.text=(m.getD e dEr).1.text)) m.length 0).2
 rw[← h1] at hle
 refine kfind_at _ 0 q1 (Nat.zero_le _) ?_ (fun i _ hi=>?_) ?_
 ·by_cases h:q1<m.length
  ·rw[decide_eq_true h,cond_true];omega
  ·rw[decide_eq_false h,cond_false];omega
 ·have:=Go.Sx.kfind_lt (fun e=>v.key==(m.getD e dEr).1.key&&decide (v.text=(m.getD e dEr).1.text)) m.length 0 i (Nat.zero_le _) (by rw[← h1];exact hi)
  rw[decide_eq_false (by omega:¬ i=q1)]
  exact this
 ·rw[decide_eq_true rfl]
  simp
theorem q1_eq (m:List MEr) (v:Rec):kfind (fun e=>v.key==(m.getD e dEr).1.key&&decide (v.text=(m.getD e dEr).1.text)) m.length 0=m.findIdx fun e=>decide (v=e.1):=kfind_idx _ dEr m fun j _=>eqKR _ _
theorem rngR (i n:Int) (l:Nat) (h1:n=(l:Int)) (h3:0≤i):decide (i<n)=true→(0:Int)≤i∧i<(l:Int):=fun h=>by
 have:=of_decide_eq_true h
 exact ⟨h3,by omega⟩
noncomputable def ba_S (_:ba_GC) (b:ba_GB) (_:Int) (v:Rec):Ex×ba_GB:=bif chkR v != 0 then (.ret,(b.1,chkR v)) else (.normal,(mputR b.1 v,b.2))
def ba_K (_:ba_GC) (_:ba_GB) (_:Int):Prop:=True
abbrev ba_I (g:ba_G):List Prop:=ixI (fun c:ba_GC=>c.2) (fun c=>c.1) ba_K (ba_f g)
abbrev ba_M (g:ba_G):Nat:=ixM (fun c:ba_GC=>c.2) (ba_f g)
theorem ba_P:ixP ba_S (fun c:ba_GC=>c.1) ba_K:=fun _ _ _ _ h _ _=>h
noncomputable abbrev ba_RR (g:ba_G):Ex×ba_G:=ba_R g.1 g.2.1 g.2.2.1 g.2.2.2.1 g.2.2.2.2.1 g.2.2.2.2.2.1 g.2.2.2.2.2.2
theorem ba_RF (d:Int×ba_GC×ba_GB) (_:allP (ixI (fun c:ba_GC=>c.2) (fun c=>c.1) ba_K d)):ba_RR (ba_g d)=((ixF 0 (fun c:ba_GC=>c.2) (fun c=>c.1) eR.dflt ba_S d).1,ba_g (ixF 0 (fun c:ba_GC=>c.2) (fun c=>c.1) eR.dflt ba_S d).2):=by
 obtain ⟨i,⟨xs,n⟩,⟨⟨m,clk⟩,r⟩⟩:=d
 show ba_R xs n i () (m,clk) () r=_
 have hq:ba_q1 xs n i () (m,clk) () r=m.findIdx fun e=>decide (xs.getD i.toNat eR.dflt=e.1):=q1_eq _ _
 unfold ba_R ixF ba_S
 rw[hq]
 simp only[El.ag_eq]
 generalize (xs.getD i.toNat eR.dflt)=v
 cases decide (i<n) with
 | false=>rfl
 | true=>
  simp only[cond_true]
  cases chkR v != 0 with
  | true=>rfl
  | false=>
   simp only[cond_false]
   have hle:(m.findIdx fun e=>decide (v=e.1))≤m.length:=List.findIdx_le_length
   rw[lst_put _ _ _ hle]
   unfold mputR mputG
   by_cases hj:(m.findIdx fun e=>decide (v=e.1))<m.length
   ·simp only[hj,decide_true,cond_true,if_true];rfl
   ·simp only[hj,decide_false,cond_false,if_false];rfl
theorem ba_ok:∀ b∈loopsOf Tryd.prog 24,lkey b=3→LoopOk Tryd.prog b (ba_C ba_I ba_M).g:=by
 refine ba_loop ba_I ba_M (fun g hi=>?_) (ix_conj_goes (fun _=>rfl) (fun _=>rfl) ba_RF ba_P)
 obtain ⟨xs,n,i,⟨⟩,⟨m,clk⟩,⟨⟩,r⟩:=g
 obtain ⟨h1,h2,h3,h4,h5⟩:=hi _ (List.mem_cons_self ..)
 have h1:n=(xs.length:Int):=h1
 have h3:0≤i:=h3
 have hq:ba_q2 xs n i () (m,clk) () r=ba_q1 xs n i () (m,clk) () r:=q2_eq m (xs.getD i.toNat eR.dflt) _ rfl
 have hle:ba_q1 xs n i () (m,clk) () r≤m.length:=by
  have:=(kfind_le (fun e=>(xs.getD i.toNat eR.dflt).key==(m.getD e dEr).1.key&&decide ((xs.getD i.toNat eR.dflt).text=(m.getD e dEr).1.text)) m.length 0).2
  rw[Nat.zero_add] at this
  exact this
 show ba_side xs n i () (m,clk) () r
 unfold ba_side
 rw[hq]
 generalize ba_q1 xs n i () (m,clk) () r=q at hle
 have e2:(bif decide (q<bif decide (q<m.length) then m.length else m.length+1) then bif decide (q=q) then bif decide (q<m.length) then (m.getD q dEr).2.1 else (0:Int) else (m.getD q dEr).2.1 else (0:Int))=bif decide (q<m.length) then (m.getD q dEr).2.1 else (0:Int):=by
  rw[decide_eq_true (rfl:q=q)]
  by_cases h:q<m.length
  ·rw[decide_eq_true h];simp only[cond_true];rw[decide_eq_true h];rfl
  ·rw[decide_eq_false h];simp only[cond_false,cond_true];rw[decide_eq_true (by omega:q<m.length+1)];rfl
 dsimp only
 rw[e2]
 simp only[El.okL_eq,El.ag_eq]
 refine ⟨fun hlt=>?_,fun _=>?_⟩
 ·have:=rngR i n _ h1 h3 hlt
  repeat' (first | apply And.intro | intro _)
  all_goals first | trivial | rfl | omega
 ·repeat' (first | apply And.intro | intro _)
  all_goals first | trivial | rfl
theorem ba_run (xs:List Rec) (r:Int) (k2:xs.length≤maxLen):loopF ba_RR ba_M (ba_g (0,(xs,(xs.length:Int)),(([],0),r)))=((scan 0 (ba_S (xs,(xs.length:Int))) 0 xs (([],0),r)).1,ba_g ((scan 0 (ba_S (xs,(xs.length:Int))) 0 xs (([],0),r)).2.1,(xs,(xs.length:Int)),(scan 0 (ba_S (xs,(xs.length:Int))) 0 xs (([],0),r)).2.2)):=ix_conj_run (φ:=ba_f) (ψ:=ba_g) (fun _=>rfl) (fun _=>rfl) ba_RF ba_P (xs,(xs.length:Int)) (([],0),r) rfl k2 trivial
noncomputable def su_S (_:su_GC) (b:su_GB) (_:Int) (v:Many):Ex×su_GB:=(.normal,mputM b v)
def su_K (_:su_GC) (_:su_GB) (_:Int):Prop:=True
abbrev su_I (g:su_G):List Prop:=ixI (fun c:su_GC=>c.2) (fun c=>c.1) su_K (su_f g)
abbrev su_M (g:su_G):Nat:=ixM (fun c:su_GC=>c.2) (su_f g)
theorem su_P:ixP su_S (fun c:su_GC=>c.1) su_K:=fun _ _ _ _ h _ _=>h
noncomputable abbrev su_RR (g:su_G):Ex×su_G:=su_R g.1 g.2.1 g.2.2.1 g.2.2.2.1 g.2.2.2.2
theorem su_RF (d:Int×su_GC×su_GB) (_:allP (ixI (fun c:su_GC=>c.2) (fun c=>c.1) su_K d)):su_RR (su_g d)=((ixF 2 (fun c:su_GC=>c.2) (fun c=>c.1) eM.dflt su_S d).1,su_g (ixF 2 (fun c:su_GC=>c.2) (fun c=>c.1) eM.dflt su_S d).2):=by
 obtain ⟨i,⟨xs,n⟩,⟨m,clk⟩⟩:=d
 show su_R xs n i () (m,clk)=_
 have hq:su_q1 xs n i () (m,clk)=m.findIdx fun e=>decide ((xs.getD i.toNat eM.dflt).r=e.1):=q1_eq _ _
 unfold su_R ixF su_S
 rw[hq]
 simp only[El.ag_eq]
 generalize (xs.getD i.toNat eM.dflt)=v
 cases decide (i<n) with
 | false=>rfl
 | true=>
  simp only[cond_true]
  have hle:(m.findIdx fun e=>decide (v.r=e.1))≤m.length:=List.findIdx_le_length
  rw[lst_put _ _ _ hle]
  unfold mputM mputG
  by_cases hj:(m.findIdx fun e=>decide (v.r=e.1))<m.length
  ·simp only[hj,decide_true,cond_true,if_true];rfl
  ·simp only[hj,decide_false,cond_false,if_false];rfl
theorem su_ok:∀ b∈loopsOf Tryd.prog 32,lkey b=9→LoopOk Tryd.prog b (su_C su_I su_M).g:=by
 refine su_loop su_I su_M (fun g hi=>?_) (ix_conj_goes (fun _=>rfl) (fun _=>rfl) su_RF su_P)
 obtain ⟨xs,n,i,⟨⟩,⟨m,clk⟩⟩:=g
 obtain ⟨h1,h2,h3,h4,h5⟩:=hi _ (List.mem_cons_self ..)
 have h1:n=(xs.length:Int):=h1
 have h3:0≤i:=h3
 have hq:su_q2 xs n i () (m,clk)=su_q1 xs n i () (m,clk):=q2_eq m (xs.getD i.toNat eM.dflt).r _ rfl
 have hle:su_q1 xs n i () (m,clk)≤m.length:=by
  have:=(kfind_le (fun e=>(xs.getD i.toNat eM.dflt).r.key==(m.getD e dEr).1.key&&decide ((xs.getD i.toNat eM.dflt).r.text=(m.getD e dEr).1.text)) m.length 0).2
  rw[Nat.zero_add] at this
  exact this
 show su_side xs n i () (m,clk)
 unfold su_side
 rw[hq]
 generalize su_q1 xs n i () (m,clk)=q at hle
 have e2:(bif decide (q<bif decide (q<m.length) then m.length else m.length+1) then bif decide (q=q) then bif decide (q<m.length) then (m.getD q dEr).2.1 else (0:Int) else (m.getD q dEr).2.1 else (0:Int))=bif decide (q<m.length) then (m.getD q dEr).2.1 else (0:Int):=by
  rw[decide_eq_true (rfl:q=q)]
  by_cases h:q<m.length
  ·rw[decide_eq_true h];simp only[cond_true];rw[decide_eq_true h];rfl
  ·rw[decide_eq_false h];simp only[cond_false,cond_true];rw[decide_eq_true (by omega:q<m.length+1)];rfl
 dsimp only
 rw[e2]
 simp only[El.okL_eq,El.ag_eq]
 refine ⟨fun hlt=>?_,fun _=>?_⟩
 ·have:=rngR i n _ h1 h3 hlt
  repeat' (first | apply And.intro | intro _)
  all_goals first | trivial | rfl | omega
 ·repeat' (first | apply And.intro | intro _)
  all_goals first | trivial | rfl
theorem su_run (xs:List Many) (b:su_GB) (k2:xs.length≤maxLen):loopF su_RR su_M (su_g (0,(xs,(xs.length:Int)),b))=(.exit 2,su_g ((xs.length:Int),(xs,(xs.length:Int)),xs.foldl mputM b)):=by
 have hr:loopF su_RR su_M (su_g (0,(xs,(xs.length:Int)),b))=_:=ix_conj_run (φ:=su_f) (ψ:=su_g) (fun _=>rfl) (fun _=>rfl) su_RF su_P (xs,(xs.length:Int)) b rfl k2 trivial
 rw[hr]
 have hs:scan 2 (su_S (xs,(xs.length:Int))) 0 xs b=_:=scan_fold (st:=su_S (xs,(xs.length:Int))) (f:=mputM) (fun _ _ _=>rfl) xs 0 b
 show ((scan 2 (su_S (xs,(xs.length:Int))) 0 xs b).1,su_g ((scan 2 (su_S (xs,(xs.length:Int))) 0 xs b).2.1,_,(scan 2 (su_S (xs,(xs.length:Int))) 0 xs b).2.2))=_
 rw[hs,Int.zero_add]
def puStep (r:Rec) (n:Int) (b:Bool×List Many) (v:Many):Bool×List Many:=
 ((!b.1&&decide (cmpR r v.r<0))||(cmpR r v.r==0||b.1),(bif !b.1&&decide (cmpR r v.r<0) then b.2++[⟨r,n⟩] else b.2)++[bif cmpR r v.r==0 then ⟨r,IntKind.i64.wrap (v.n+n)⟩ else v])
def pu_S (c:pu_GC) (b:pu_GB) (_:Int) (v:Many):Ex×pu_GB:=(.normal,((),puStep c.1 c.2.2 b.2 v))
def pu_K (c:pu_GC) (b:pu_GB) (i:Int):Prop:=c.2.1.length≤1000000∧(b.2.2.length:Int)≤2 * i
abbrev pu_I (g:pu_G):List Prop:=ixI (fun c:pu_GC=>(c.2.1.length:Int)) (fun c=>c.2.1) pu_K (pu_f g)
abbrev pu_M (g:pu_G):Nat:=ixM (fun c:pu_GC=>(c.2.1.length:Int)) (pu_f g)
theorem puStep_len (r:Rec) (n:Int) (b:Bool×List Many) (v:Many):(puStep r n b v).2.length≤b.2.length+2:=by
 unfold puStep
 cases (!b.1&&decide (cmpR r v.r<0)) <;> simp
theorem pu_P:ixP pu_S (fun c:pu_GC=>c.2.1) pu_K:=fun c b i a h _ _=>⟨h.1,by
 have:=h.2
 have hl:=puStep_len c.1 c.2.2 b.2 a
 show ((puStep c.1 c.2.2 b.2 a).2.length:Int)≤_
 omega⟩
noncomputable abbrev pu_RR (g:pu_G):Ex×pu_G:=pu_R g.1 g.2.1 g.2.2.1 g.2.2.2.1 g.2.2.2.2.1 g.2.2.2.2.2.1 g.2.2.2.2.2.2
theorem bif_same {α:Type} (z:Bool) (a:α):(bif z then a else a)=a:=by cases z <;> rfl
theorem ap1M (o:List Many) (v:Many):eM.lst (min (o.length+1) o.length) (eM.els o)++List.map (fun _=>v) (List.range (o.length+1 - o.length))=o++[v]:=by
 rw[Nat.min_eq_right (Nat.le_add_right _ _),Nat.add_sub_cancel_left,eM.lst_els];rfl
theorem ap2M (o:List Many) (u v:Many):eM.lst (min (min (o.length+1+1) (o.length+1)) o.length) (eM.els o)++List.map (fun _=>u) (List.range (min (o.length+1+1) (o.length+1) - o.length))++List.map (fun _=>v) (List.range (o.length+1+1 - (o.length+1)))=o++[u]++[v]:=by
 rw[Nat.min_eq_right (Nat.le_add_right (o.length+1) 1),Nat.min_eq_right (Nat.le_add_right _ _),Nat.add_sub_cancel_left,Nat.add_sub_cancel_left,eM.lst_els];rfl
theorem pu_RF (d:Int×pu_GC×pu_GB) (_:allP (ixI (fun c:pu_GC=>(c.2.1.length:Int)) (fun c=>c.2.1) pu_K d)):pu_RR (pu_g d)=((ixF 0 (fun c:pu_GC=>(c.2.1.length:Int)) (fun c=>c.2.1) eM.dflt pu_S d).1,pu_g (ixF 0 (fun c:pu_GC=>(c.2.1.length:Int)) (fun c=>c.2.1) eM.dflt pu_S d).2):=by
 obtain ⟨i,⟨r,xs,n⟩,⟨⟨⟩,d,o⟩⟩:=d
 show pu_R () r xs n i d o=_
 unfold pu_R ixF pu_S puStep
 simp only[El.ag_eq,bif_same]
 generalize (xs.getD i.toNat eM.dflt)=v
 cases decide (i<(xs.length:Int)) with
 | false=>rfl
 | true=>
  simp only[cond_true]
  cases hz:(!d&&decide (cmpR r v.r<0)) with
  | true=>
   simp only[cond_true]
   cases cmpR r v.r==0 with
   | true=>simp only[cond_true,ap2M];rfl
   | false=>simp only[cond_false,ap2M];rfl
  | false=>
   simp only[cond_false]
   cases cmpR r v.r==0 with
   | true=>simp only[cond_true,ap1M];rfl
   | false=>simp only[cond_false,ap1M];rfl
theorem bytM (h:84<Tryd.prog.types.size):(Tryd.prog.types[(84:Nat)]'h).bytes=32:=by kernel_rfl
theorem pu_ok:∀ b∈loopsOf Tryd.prog 75,lkey b=4→LoopOk Tryd.prog b (pu_C pu_I pu_M).g:=by
 refine pu_loop pu_I pu_M (fun g hi=>?_) (ix_conj_goes (fun _=>rfl) (fun _=>rfl) pu_RF pu_P)
 obtain ⟨⟨⟩,r,xs,n,i,d,o⟩:=g
 obtain ⟨h1,h2,h3,h4,h5,h6⟩:=hi _ (List.mem_cons_self ..)
 have h3:0≤i:=h3
 have h4:i≤(xs.length:Int):=h4
 have h5:xs.length≤1000000:=h5
 have h6:(o.length:Int)≤2 * i:=h6
 show pu_side () r xs n i d o
 unfold pu_side
 simp only[El.okL_eq,El.ag_eq,bytM,bif_same]
 unfold maxLen
 generalize (cmpR r (xs.getD i.toNat eM.dflt).r==(0:Int))=y
 generalize (!d&&decide (cmpR r (xs.getD i.toNat eM.dflt).r<(0:Int)))=z
 by_cases hlt:i<(xs.length:Int)
 ·rw[decide_eq_true hlt]
  repeat' (first | apply And.intro | intro _)
  all_goals first | trivial | omega
 ·rw[decide_eq_false hlt]
  repeat' (first | apply And.intro | intro _)
  all_goals first | trivial | omega | (rename_i h;cases h)
theorem pu_run (r:Rec) (xs:List Many) (n:Int) (k:xs.length≤1000000):loopF pu_RR pu_M (pu_g (0,(r,xs,n),((),false,[])))=(.exit 0,pu_g ((xs.length:Int),(r,xs,n),((),xs.foldl (puStep r n) (false,[])))):=by
 have hr:loopF pu_RR pu_M (pu_g (0,(r,xs,n),((),false,[])))=_:=ix_conj_run (φ:=pu_f) (ψ:=pu_g) (fun _=>rfl) (fun _=>rfl) pu_RF pu_P (r,xs,n) ((),false,[]) rfl (Nat.le_trans k (by decide)) ⟨k,by decide⟩
 rw[hr]
 have hs:scan 0 (pu_S (r,xs,n)) 0 xs ((),false,[])=_:=scan_fold (st:=pu_S (r,xs,n)) (f:=fun (b:pu_GB) v=>((),puStep r n b.2 v)) (fun _ _ _=>rfl) xs 0 ((),false,[])
 have hf:∀ (l:List Many) (b:Bool×List Many),l.foldl (fun (b:pu_GB) v=>((),puStep r n b.2 v)) ((),b)=((),l.foldl (puStep r n) b):=by
  intro l
  induction l with
  | nil=>intro b;rfl
  | cons a l ih=>intro b;rw[List.foldl_cons,List.foldl_cons,ih]
 rw[hf] at hs
 show ((scan 0 (pu_S (r,xs,n)) 0 xs ((),false,[])).1,pu_g ((scan 0 (pu_S (r,xs,n)) 0 xs ((),false,[])).2.1,_,(scan 0 (pu_S (r,xs,n)) 0 xs ((),false,[])).2.2))=_
 rw[hs,Int.zero_add]
def bgP (e:Rec×Int):Bool:=decide (e.2 > 1048576)
def bg_S (e:Rec×Int) (b:List Many×Int):Ex×(List Many×Int):=bif bgP e then (.ret,(b.1,51)) else (.normal,(b.1++[⟨e.1,e.2⟩],b.2))
abbrev bg_I (g:bg_G):List Prop:=[g.2.1.length+g.2.2.1.length≤1000000]
abbrev bg_M (g:bg_G):Nat:=g.2.1.length
def bg_up (g:bg_G) (l:List (Rec×Int)) (b:List Many×Int):bg_G:=((),l,b.1,(),b.2)
theorem erase_lst (it:List (Rec×Int)) (k:Nat) (h:k<it.length):(eR.pair eI).lst (min (it.length - 1) k) ((eR.pair eI).els it)++List.drop (k+1) ((eR.pair eI).lst (k+1+(it.length - 1 - k)) ((eR.pair eI).els it))=it.eraseIdx k:=by
 rw[Nat.min_eq_right (by omega),El.lst_take _ _ _ (by omega),show k+1+(it.length - 1 - k)=it.length by omega,El.lst_els,List.eraseIdx_eq_take_drop_succ]
theorem bg_form (cs:List Nat) (g:bg_G) (hi:allP (bg_I g)):((g.2.1.length=0∧bg_F cs g=(.exit 0,g))∨∃ e,g.2.1[(hdC cs).headD 0 % g.2.1.length]?=some e∧bg_F cs g=((bg_S e (g.2.2.1,g.2.2.2.2)).1,bg_up g (g.2.1.eraseIdx ((hdC cs).headD 0 % g.2.1.length)) (bg_S e (g.2.2.1,g.2.2.2.2)).2))∧bg_side cs g.1 g.2.1 g.2.2.1 g.2.2.2.1 g.2.2.2.2:=by
 obtain ⟨⟨⟩,it,o,⟨⟩,r⟩:=g
 have h:it.length+o.length≤1000000:=hi _ (List.mem_cons_self ..)
 refine ⟨?_,?_⟩
 ·show (it.length=0∧bg_R cs () it o () r=_)∨_
  unfold bg_R
  by_cases h0:it.length=0
  ·rw[decide_eq_true h0]
   simp only[cond_true,El.lst_els]
   exact .inl ⟨h0,trivial⟩
  ·have hk:(hdC cs).headD 0 % it.length<it.length:=Nat.mod_lt _ (by omega)
   refine .inr ⟨it[(hdC cs).headD 0 % it.length],by rw[List.getElem?_eq_getElem hk],?_⟩
   show bg_R cs () it o () r=_
   unfold bg_R bg_S bgP
   rw[decide_eq_false h0]
   have hg:it.getD ((hdC cs).headD 0 % it.length) (eR.pair eI).dflt=it[(hdC cs).headD 0 % it.length]:=by rw[List.getD_eq_getElem?_getD,List.getElem?_eq_getElem hk];rfl
   rw[hg]
   simp only[cond_false,El.lst_els]
   rw[erase_lst it _ hk,ap1M]
   show (bif decide (it[(hdC cs).headD 0 % it.length].2 > 1048576) then _ else _)=((bif decide (it[(hdC cs).headD 0 % it.length].2 > 1048576) then _ else _:Ex×(List Many×Int)).1,_)
   cases decide (it[(hdC cs).headD 0 % it.length].2 > 1048576) <;> rfl
 ·show bg_side cs () it o () r
  unfold bg_side
  simp only[bytM]
  unfold maxLen
  repeat' (first | apply And.intro | intro _)
  all_goals first | trivial | omega
theorem bg_all:GoesA bg_F bg_M (fun g=>allP (bg_I g))∧∀ cs g,allP (bg_I g)→∃ s,loopFA bg_F bg_M cs g=((scanL 0 bg_S (permL g.2.1.length cs g.2.1) (g.2.2.1,g.2.2.2.2)).1,bg_up g s (scanL 0 bg_S (permL g.2.1.length cs g.2.1) (g.2.2.1,g.2.2.2.2)).2):=
 mif_loop (st:=bg_S) (rem:=fun g:bg_G=>g.2.1) (bo:=fun g=>(g.2.2.1,g.2.2.2.2)) (up:=bg_up) (fun _ _ _=>rfl) (fun _ _ _=>rfl) (fun _ _ _ _ _=>rfl) (fun _=>rfl) (fun _=>rfl)
  (fun g i e h he hn=>by
   have h:=h _ (List.mem_cons_self ..)
   intro p hp
   rw[List.mem_singleton.1 hp]
   have hlt:=(List.getElem?_eq_some_iff.1 he).1
   unfold bg_S at hn ⊢
   cases hb:bgP e with
   | true=>rw[hb] at hn;cases hn
   | false=>
    show (g.2.1.eraseIdx i).length+(g.2.2.1++[(⟨e.1,e.2⟩:Many)]).length≤1000000
    rw[List.length_eraseIdx_of_lt hlt,List.length_append]
    simp only[List.length_cons,List.length_nil]
    omega)
  fun cs g h=>(bg_form cs g h).1
theorem bg_lok:∀ b∈loopsOf Tryd.prog 74,lkey b=3→LoopOk Tryd.prog b (bg_C bg_I bg_M).g:=
 bg_loop bg_I bg_M (fun cs g hi=>(bg_form cs g hi).2) bg_all.1
noncomputable def bg_f (cs:List Nat) (g:bg_G):Ex×bg_G:=((scanL 0 bg_S (permL g.2.1.length cs g.2.1) (g.2.2.1,g.2.2.2.2)).1,bg_up g (loopFA bg_F bg_M cs g).2.2.1 (scanL 0 bg_S (permL g.2.1.length cs g.2.1) (g.2.2.1,g.2.2.2.2)).2)
noncomputable abbrev bg_C2:LCon:=loopRC bg_E (loopBody Tryd.prog 74 3) bg_LP [] 25 bg_I bg_f
theorem bg_ok2:∀ b∈loopsOf Tryd.prog 74,lkey b=3→LoopOk Tryd.prog b bg_C2.g:=fun b hb hk=>
 loop_quotC (fun _ h=>h) (fun g hi cs=>⟨cs,by
  obtain ⟨s,hs⟩:=bg_all.2 cs g hi
  unfold bg_f
  rw[hs];rfl⟩) (bg_lok b hb hk)
noncomputable def ltO3:LTab Tryd.prog:=(((ltO2.cons 24 3 (ba_C ba_I ba_M) ba_ok).cons 32 9 (su_C su_I su_M) su_ok).cons 75 4 (pu_C pu_I pu_M) pu_ok).cons 74 3 bg_C2 bg_ok2
noncomputable abbrev lamO3:Lam:=ltO3.lam
theorem lamO3_ok:∀ f k L,lamO3 f k=some L→∀ b∈loopsOf Tryd.prog f,lkey b=k→LoopOk Tryd.prog b L.g:=ltO3.ok
end Go.Proofs.YtmegbepjdololaaDoor

namespace Go.Proofs.YtmegbepjdololaaDoor
open Go.RowKit Go.Sx
set_option maxRecDepth 100000
set_option linter.unusedVariables false
noncomputable def mcf_F (a:Many) (b:Many):Dv.T dI:=
 cmpR a.r b.r
theorem mcf_ok:FnPure Tryd.prog 116 aMM dI (fun g=>mcf_F g.1 g.2) (fun _=>[]):=pure_of_safe (Γ:=(PTab.gamz tabG6 [] [])) (Λ:=noΛ) (PTab.okz tabG6 [] []) noΛ_ok 100 default (fun g=>by kernel_rfl) (fun g=>by kernel_rfl)
end Go.Proofs.YtmegbepjdololaaDoor

namespace Go.Proofs.YtmegbepjdololaaDoor
open Go.RowKit Go.Sx Go.Lp Go.Shelf Go.Sort
def sortM_ren:Go.Shelf.Ren:=⟨fun | 6=>115 | 15=>127 | 14=>126 | 28=>142 | 29=>143 | 20=>134 | 21=>135 | 22=>136 | 23=>137 | 24=>138 | 25=>139 | 26=>140 | 27=>141 | 46=>145 | 47=>146 | 48=>147 | 49=>148 | 50=>149 | 57=>150 | n=>n,fun | 22=>34 | 24=>84 | 25=>135 | 3=>3 | 39=>112 | 0=>0 | 53=>159 | 55=>139 | 4=>4 | 46=>152 | 45=>151 | 50=>156 | 5=>5 | 9=>9 | 66=>163 | 70=>167 | 76=>169 | 77=>123 | n=>n,fun | n=>n⟩
theorem sortM:SlLaysF0.n6 Tryd.prog sortM_ren:={
 mixed:=by kernel_rfl,
 f6:=⟨Tryd.f115.name,by decide,Tryd.func115.trans (congrArg some (by kernel_rfl))⟩,
 f14:=⟨Tryd.f126.name,by decide,Tryd.func126.trans (congrArg some (by kernel_rfl))⟩,
 f15:=Tryd.func127.trans (congrArg some (by kernel_rfl)),
 f20:=⟨Tryd.f134.name,by decide,Tryd.func134.trans (congrArg some (by kernel_rfl))⟩,
 f21:=⟨Tryd.f135.name,by decide,Tryd.func135.trans (congrArg some (by kernel_rfl))⟩,
 f22:=⟨Tryd.f136.name,by decide,Tryd.func136.trans (congrArg some (by kernel_rfl))⟩,
 f23:=⟨Tryd.f137.name,by decide,Tryd.func137.trans (congrArg some (by kernel_rfl))⟩,
 f24:=⟨Tryd.f138.name,by decide,Tryd.func138.trans (congrArg some (by kernel_rfl))⟩,
 f25:=⟨Tryd.f139.name,by decide,Tryd.func139.trans (congrArg some (by kernel_rfl))⟩,
 f26:=⟨Tryd.f140.name,by decide,Tryd.func140.trans (congrArg some (by kernel_rfl))⟩,
 f27:=⟨Tryd.f141.name,by decide,Tryd.func141.trans (congrArg some (by kernel_rfl))⟩,
 f28:=Tryd.func142.trans (congrArg some (by kernel_rfl)),
 f29:=Tryd.func143.trans (congrArg some (by kernel_rfl)),
 f46:=⟨Tryd.f145.name,by decide,Tryd.func145.trans (congrArg some (by kernel_rfl))⟩,
 f47:=Tryd.func146.trans (congrArg some (by kernel_rfl)),
 f48:=Tryd.func147.trans (congrArg some (by kernel_rfl)),
 f49:=⟨Tryd.f148.name,by decide,Tryd.func148.trans (congrArg some (by kernel_rfl))⟩,
 f50:=⟨Tryd.f149.name,by decide,Tryd.func149.trans (congrArg some (by kernel_rfl))⟩,
 f57:=⟨Tryd.f150.name,by decide,Tryd.func150.trans (congrArg some (by kernel_rfl))⟩,
 t0:=Tryd.underlying0,
 a0:=Tryd.isAgg0,
 z0:=Tryd.sizeOf0,
 v0:=Tryd.zeroValue0,
 t3:=Tryd.underlying3,
 a3:=Tryd.isAgg3,
 z3:=Tryd.sizeOf3,
 v3:=Tryd.zeroValue3,
 t4:=Tryd.underlying4,
 a4:=Tryd.isAgg4,
 z4:=Tryd.sizeOf4,
 v4:=Tryd.zeroValue4,
 t5:=Tryd.underlying5,
 a5:=Tryd.isAgg5,
 z5:=Tryd.sizeOf5,
 v5:=Tryd.zeroValue5,
 t9:=Tryd.underlying9,
 a9:=Tryd.isAgg9,
 z9:=Tryd.sizeOf9,
 v9:=Tryd.zeroValue9,
 t22:=Tryd.underlying34,
 a22:=Tryd.isAgg34,
 z22:=Tryd.sizeOf34,
 v22:=Tryd.zeroValue34,
 t25:=Tryd.underlying135,
 a25:=Tryd.isAgg135,
 z25:=Tryd.sizeOf135,
 v25:=Tryd.zeroValue135,
 t39:=Tryd.underlying112,
 a39:=Tryd.isAgg112,
 z39:=Tryd.sizeOf112,
 v39:=Tryd.zeroValue112,
 t45:=Tryd.underlying151,
 a45:=Tryd.isAgg151,
 z45:=Tryd.sizeOf151,
 v45:=Tryd.zeroValue151,
 t46:=Tryd.underlying152,
 a46:=Tryd.isAgg152,
 z46:=Tryd.sizeOf152,
 v46:=Tryd.zeroValue152,
 t50:=Tryd.underlying156,
 a50:=Tryd.isAgg156,
 z50:=Tryd.sizeOf156,
 v50:=Tryd.zeroValue156,
 t53:=Tryd.underlying159,
 a53:=Tryd.isAgg159,
 z53:=Tryd.sizeOf159,
 v53:=Tryd.zeroValue159,
 t55:=Tryd.underlying139,
 a55:=Tryd.isAgg139,
 z55:=Tryd.sizeOf139,
 v55:=Tryd.zeroValue139,
 t66:=Tryd.underlying163,
 a66:=Tryd.isAgg163,
 z66:=Tryd.sizeOf163,
 v66:=Tryd.zeroValue163,
 t70:=Tryd.underlying167,
 a70:=Tryd.isAgg167,
 z70:=Tryd.sizeOf167,
 v70:=Tryd.zeroValue167,
 t76:=Tryd.underlying169,
 a76:=Tryd.isAgg169,
 z76:=Tryd.sizeOf169,
 v76:=Tryd.zeroValue169,
 t77:=Tryd.underlying123,
 a77:=Tryd.isAgg123,
 z77:=Tryd.sizeOf123,
 v77:=Tryd.zeroValue123 }
theorem cmpR_neg (a b:Rec):cmpR a b<0↔rlt a b:=by
 unfold cmpR
 by_cases h:rlt a b
 ·simp[h]
 ·rw[if_neg h]
  refine ⟨fun h2=>?_,fun h2=>absurd h2 h⟩
  split at h2 <;> omega
theorem rlt_irrefl (a:Rec):¬ rlt a a:=by
 rintro (h | ⟨_,h⟩)
 ·omega
 ·exact tlt_irrefl _ h
theorem rlt_trans {a b c:Rec} (h:rlt a b) (h':rlt b c):rlt a c:=by
 rcases h with h | ⟨h1,h2⟩
 ·rcases h' with h' | ⟨h1',_⟩
  ·exact .inl (by omega)
  ·exact .inl (by omega)
 ·rcases h' with h' | ⟨h1',h2'⟩
  ·exact .inl (by omega)
  ·exact .inr ⟨by omega,tlt_trans h2 h2'⟩
theorem tlt_total {a b:BA} (h:¬ tlt a b) (h':¬ tlt b a):a=b:=by
 rw[← toL_iff]
 exact List.le_antisymm (List.not_lt.1 h') (List.not_lt.1 h)
theorem rlt_total {a b:Rec} (h:¬ rlt a b) (h':¬ rlt b a):a=b:=by
 have hk:a.key=b.key:=by
  have h1:¬ a.key<b.key:=fun x=>h (.inl x)
  have h2:¬ b.key<a.key:=fun x=>h' (.inl x)
  omega
 exact rec_ext' hk (tlt_total (fun x=>h (.inr ⟨hk,x⟩)) (fun x=>h' (.inr ⟨hk.symm,x⟩)))
theorem toR:TO cmpR where
 swo:={
  irrefl:=fun x=>decide_eq_false (by rw[cmpR_neg];exact rlt_irrefl x)
  trans:=fun x y z h1 h2=>by
   simp only[decide_eq_true_eq,cmpR_neg] at h1 h2 ⊢
   exact rlt_trans h1 h2
  ntrans:=fun x y z h1 h2=>by
   simp only[decide_eq_false_iff_not,cmpR_neg] at h1 h2 ⊢
   intro h3
   by_cases h4:rlt y x
   ·exact h2 (rlt_trans h4 h3)
   ·have:=rlt_total h1 h4
    subst this
    exact h2 h3 }
 anti:=fun x y h1 h2=>by
  rw[cmpR_neg] at h1 h2
  exact rlt_total h1 h2
def cmpM (a b:Many):Int:=cmpR a.r b.r
theorem swoM:SWO fun x y:Many=>decide (cmpM x y<0) where
 irrefl:=fun x=>toR.swo.irrefl x.r
 trans:=fun x y z h1 h2=>toR.swo.trans x.r y.r z.r h1 h2
 ntrans:=fun x y z h1 h2=>toR.swo.ntrans x.r y.r z.r h1 h2
abbrev dUn0:Dv Unit:=.tup .none
abbrev aFn116:DA Unit:=.one (dFn 116)
def preSort (xs:List Many) (_:Unit):List Prop:=[xs.length<4611686018427387904,Anti cmpM xs]
theorem sortF_ok:FnMut Tryd.prog 115 84 eM aFn116 (.pure dUn0) (fun xs _=>(srtBy cmpM xs,())) preSort:=by
 have h:=sort_mut (P:=Tryd.prog) (A:=eM) (t:=84) (g:=116) (cf:=cmpM) (pre:=fun _=>[]) sortM Tryd.isAgg84 Tryd.sizeOf84 (by decide) (Go.Proofs.enters_of Tryd.func116 (by kernel_rfl) rfl) swoM mcf_ok
 intro w F L xs g v0 vs h1 h2 hE h3 h4 h5 h6
 refine h w F L xs g v0 vs h1 h2 hE h3 (fun p hp=>?_) h5 h6
 simp only[List.mem_cons,List.not_mem_nil,or_false] at hp
 rcases hp with rfl | rfl | rfl
 ·exact h4 _ (List.mem_cons_self ..)
 ·exact h4 _ (List.mem_cons_of_mem _ (List.mem_cons_self ..))
 ·exact fun x _ y _ p hp=>by cases hp
noncomputable def tabO5:MTab Tryd.prog:=(MTab.of tabG6).consM 115 (bconM 84 eM aFn116 (.pure dUn0) (fun xs _=>(srtBy cmpM xs,())) preSort) (conM_ok sortF_ok)
end Go.Proofs.YtmegbepjdololaaDoor

namespace Go.Proofs.YtmegbepjdololaaDoor
open Go.RowKit Go.Sx
set_option maxRecDepth 100000
set_option linter.unusedVariables false
abbrev dLME:Dv (List Many×Int):=.tup (.cons dLM (.one dI))
abbrev aPut:DA (List Many×Rec×Int):=.cons dLM (.cons dR (.one dI))
abbrev aLM5:DA (List Many):=.one dLM
abbrev rLM5:Rv (List Many):=.list eM
noncomputable def put5_q1 (l:List Many) (r:Rec) (n:Int):Ex ×
 pu_G:=
 loopF (fun g=>pu_R g.fst g.snd.fst g.snd.snd.fst g.snd.snd.snd.fst g.snd.snd.snd.snd.fst g.snd.snd.snd.snd.snd.fst g.snd.snd.snd.snd.snd.snd) pu_M ((),r,eM.ag l,n,(0:Int),false,[])
noncomputable def put5_F (l:List Many) (r:Rec) (n:Int):Rv.T rLM5:=
 bif !(put5_q1 l r n).snd.snd.snd.snd.snd.snd.fst then eM.lst (min ((put5_q1 l r n).snd.snd.snd.snd.snd.snd.snd.length+(1:Nat)) (put5_q1 l r n).snd.snd.snd.snd.snd.snd.snd.length) (eM.els (put5_q1 l r n).snd.snd.snd.snd.snd.snd.snd)++List.map (fun x=>Many.mk (put5_q1 l r n).snd.snd.fst (put5_q1 l r n).snd.snd.snd.snd.fst) (List.range ((put5_q1 l r n).snd.snd.snd.snd.snd.snd.snd.length+(1:Nat) - (put5_q1 l r n).snd.snd.snd.snd.snd.snd.snd.length))
 else eM.ag (put5_q1 l r n).snd.snd.snd.snd.snd.snd.snd
def put5_side (l:List Many) (r:Rec) (n:Int):Prop:=
 eM.okL l∧Lp.ixJ (fun c=>(↑c.snd.fst.length:Int)) (fun c=>c.snd.fst) pu_K (pu_f ((),r,eM.ag l,n,(0:Int),false,[]))∧((!(put5_q1 l r n).snd.snd.snd.snd.snd.snd.fst)=true→((put5_q1 l r n).snd.snd.snd.snd.snd.snd.snd.length≤(put5_q1 l r n).snd.snd.snd.snd.snd.snd.snd.length∧True∧(put5_q1 l r n).snd.snd.snd.snd.snd.snd.snd.length+(1:Nat)≤maxLen∧((put5_q1 l r n).snd.snd.snd.snd.snd.snd.snd.length+(1:Nat)) * Tryd.prog.types[(84:Nat)].bytes≤(140737488355328:Nat))∧(put5_q1 l r n).snd.snd.snd.snd.snd.snd.snd.length+(1:Nat)≤(put5_q1 l r n).snd.snd.snd.snd.snd.snd.snd.length+(1:Nat)∧(∀ (e:Nat),e<min ((put5_q1 l r n).snd.snd.snd.snd.snd.snd.snd.length+(1:Nat)) (put5_q1 l r n).snd.snd.snd.snd.snd.snd.snd.length→True)∧∀ (e:Nat),e<(put5_q1 l r n).snd.snd.snd.snd.snd.snd.snd.length+(1:Nat) - (put5_q1 l r n).snd.snd.snd.snd.snd.snd.snd.length→True)∧((!(put5_q1 l r n).snd.snd.snd.snd.snd.snd.fst)=false→(put5_q1 l r n).snd.snd.snd.snd.snd.snd.snd.length≤(put5_q1 l r n).snd.snd.snd.snd.snd.snd.snd.length∧∀ (e:Nat),e<(put5_q1 l r n).snd.snd.snd.snd.snd.snd.snd.length→True)
theorem put5_okS (pre:DA.T aPut→List Prop) (h:∀ g,DA.bd aPut g→(∀ p∈pre g,p)→put5_side g.1 g.2.1 g.2.2):FnPure Tryd.prog 75 aPut (Rv.D rLM5) (fun g=>put5_F g.1 g.2.1 g.2.2) pre:=res_of_side (R:=rLM5) (Γ:=(MTab.gamz tabO5 [] [])) (Λ:=lamO3) (MTab.okz tabO5 [] []) lamO3_ok 100 default (fun g=>put5_side g.1 g.2.1 g.2.2) (fun g=>by kernel_rfl) (fun g=>by kernel_rfl) h
noncomputable def ovr_q1 (l:List Many):Ex×ov_G:=
 loopF (fun g=>ov_R g.fst g.snd.fst g.snd.snd) ov_M (eM.ag l,(0:Int),(0:Int))
noncomputable def ovr_F (l:List Many):Dv.T dI:=
 bif exB Ex.ret (ovr_q1 l).fst then (ovr_q1 l).snd.snd.snd else (0:Int)
def ovr_side (l:List Many):Prop:=
 eM.okL l∧Lp.ixJ (fun c=>(↑(List.length c):Int)) (fun c=>c) ov_K (ov_f (eM.ag l,(0:Int),(0:Int)))
theorem ovr_okS (pre:DA.T aLM5→List Prop) (h:∀ g,DA.bd aLM5 g→(∀ p∈pre g,p)→ovr_side g):FnPure Tryd.prog 76 aLM5 dI (fun g=>ovr_F g) pre:=pure_of_sideS (Γ:=(MTab.gamz tabO5 [] [])) (Λ:=lamO3) (MTab.okz tabO5 [] []) lamO3_ok 100 default (fun g=>ovr_side g) (fun g=>by kernel_rfl) (fun g=>by kernel_rfl) h
end Go.Proofs.YtmegbepjdololaaDoor

namespace Go.Proofs.YtmegbepjdololaaDoor
open Go.RowKit Go.Sx
set_option maxRecDepth 100000
set_option linter.unusedVariables false
noncomputable def bagf_q1 (cs:List Nat) (m:List (Rec×Int)):Ex×bg_G:=
 bg_f (hdC cs) ((),(eR.pair eI).lst m.length ((eR.pair eI).els m),[],(),(0:Int))
noncomputable def bagf_F (cs:List Nat) (m:List (Rec×Int)):Dv.T dLME:=
 bif exB (Ex.exit (0:Nat)) (bagf_q1 cs m).fst then (eM.lst (bagf_q1 cs m).snd.snd.snd.fst.length (ElE.fn (eM.els (srtBy cmpM (eM.lst (bagf_q1 cs m).snd.snd.snd.fst.length (eM.els (bagf_q1 cs m).snd.snd.snd.fst))))).at,(0:Int))
 else ([],(bagf_q1 cs m).snd.snd.snd.snd.snd)
def bagf_side (cs:List Nat) (m:List (Rec×Int)):Prop:=
 (∀ (e:Nat),e<m.length→True)∧((eR.pair eI).lst m.length ((eR.pair eI).els m)).length+(0:Nat)≤(1000000:Nat)∧(exB (Ex.exit (0:Nat)) (bagf_q1 cs m).fst=true→(bagf_q1 cs m).snd.snd.snd.fst.length=(bagf_q1 cs m).snd.snd.snd.fst.length∧(∀ (e:Nat),e<(bagf_q1 cs m).snd.snd.snd.fst.length→True)∧(eM.lst (bagf_q1 cs m).snd.snd.snd.fst.length (eM.els (bagf_q1 cs m).snd.snd.snd.fst)).length<(4611686018427387904:Nat)∧Anti cmpM (eM.lst (bagf_q1 cs m).snd.snd.snd.fst.length (eM.els (bagf_q1 cs m).snd.snd.snd.fst))∧(bagf_q1 cs m).snd.snd.snd.fst.length≤(srtBy cmpM (eM.lst (bagf_q1 cs m).snd.snd.snd.fst.length (eM.els (bagf_q1 cs m).snd.snd.snd.fst))).length∧∀ (e:Nat),e<(bagf_q1 cs m).snd.snd.snd.fst.length→eM.Ok ((ElE.fn (eM.els (srtBy cmpM (eM.lst (bagf_q1 cs m).snd.snd.snd.fst.length (eM.els (bagf_q1 cs m).snd.snd.snd.fst))))).at e))
theorem bagf_okA (fn:DA.T aMap→Dv.T dLME) (pre:DA.T aMap→List Prop) (h:∀ cs g,DA.bd aMap g→(∀ p∈pre g,p)→bagf_side cs g∧bagf_F cs g=fn g):FnPure Tryd.prog 74 aMap dLME fn pre:=pure_of_sideA (Γ:=(MTab.gamz tabO5 [] [])) (Λ:=lamO3) (MTab.okz tabO5 [] []) lamO3_ok 100 default (fun cs g=>bagf_side cs g) (fun cs g=>bagf_F cs g) (fun cs g=>by kernel_rfl) (fun cs g=>by kernel_rfl) h
end Go.Proofs.YtmegbepjdololaaDoor

namespace Go.Proofs.YtmegbepjdololaaDoor
open Go.RowKit Go.Sx Go.Lp
set_option maxRecDepth 100000
def putL (r:Rec) (n:Int) (xs:List Many):List Many:=bif !(xs.foldl (puStep r n) (false,[])).1 then (xs.foldl (puStep r n) (false,[])).2++[⟨r,n⟩] else (xs.foldl (puStep r n) (false,[])).2
theorem put5_eq (l:List Many) (r:Rec) (n:Int) (h:l.length≤1000000):put5_side l r n∧put5_F l r n=putL r n l:=by
 have hr:=pu_run r l n h
 have hq:put5_q1 l r n=loopF pu_RR pu_M (pu_g (0,(r,l,n),((),false,[]))):=by
  unfold put5_q1
  rw[El.ag_eq]
  rfl
 rw[hr] at hq
 have hlen:∀ (l:List Many) (b:Bool×List Many),(l.foldl (puStep r n) b).2.length≤b.2.length+2 * l.length:=by
  intro l
  induction l with
  | nil=>intro b;exact Nat.le_refl _
  | cons a l ih=>
   intro b
   have h1:=ih (puStep r n b a)
   have h2:=puStep_len r n b a
   rw[List.foldl_cons,List.length_cons]
   omega
 have hl:=hlen l (false,[])
 have e0:(([]:List Many)).length=0:=rfl
 unfold put5_side put5_F putL
 rw[hq]
 simp only[pu_g,El.okL_eq,El.ag_eq,bytM]
 generalize l.foldl (puStep r n) (false,[])=b at hl ⊢
 have hl:b.2.length≤2000000:=by
  simp only at hl
  omega
 refine ⟨⟨trivial,?_,?_⟩,?_⟩
 ·exact ⟨rfl,Nat.le_trans h (by decide),Int.le_refl _,by show (0:Int)≤_;omega,h,by show (0:Int)≤0;decide⟩
 ·unfold maxLen
  repeat' (first | apply And.intro | intro _)
  all_goals first | trivial | omega
 ·cases b.1 with
  | true=>rfl
  | false=>exact ap1M _ _
theorem put5_ok:FnPure Tryd.prog 75 aPut (Rv.D rLM5) (fun g=>putL g.2.1 g.2.2 g.1) (fun g=>[g.1.length≤1000000]):=
 pure_congr (put5_okS _ fun g _ hp=>(put5_eq g.1 g.2.1 g.2.2 (hp _ (List.mem_cons_self ..))).1) fun g _ hp=>(put5_eq g.1 g.2.1 g.2.2 (hp _ (List.mem_cons_self ..))).2
def overC (l:List Many):Int:=bif l.any (fun v=>decide (v.n > 1048576)) then 51 else 0
theorem ovr_eq (l:List Many) (h:l.length≤KB):ovr_side l∧ovr_F l=overC l:=by
 have hm:l.length≤maxLen:=by unfold KB at h;unfold maxLen;omega
 have h1:=ov_run l (0:Int) rfl hm trivial
 have hq:ovr_q1 l=loopF ov_RR ov_M (ov_g (0,l,0)):=by
  unfold ovr_q1
  rw[El.ag_eq]
  rfl
 rw[h1] at hq
 unfold ovr_side ovr_F overC
 rw[hq,El.okL_eq,El.ag_eq]
 refine ⟨⟨trivial,rfl,hm,Int.le_refl _,by show (0:Int)≤_;omega,trivial⟩,?_⟩
 rcases search (x:=0) (st:=ov_S l) (p:=fun v=>decide (v.n > (1048576:Int))) (r:=fun _ _ _=>(51:Int)) (fun _ _ _=>rfl) l (0:Int) with ⟨ha,j,hj,a,haa,hp,h3⟩ | ⟨ha,h3⟩
 ·have h3:scan 0 (ov_S l) 0 l (0:Int)=_:=h3
  rw[h3,ha];rfl
 ·have h3:scan 0 (ov_S l) 0 l (0:Int)=_:=h3
  rw[h3,ha];rfl
theorem ovr_ok:FnPure Tryd.prog 76 aLM5 dI overC (fun g=>[g.length≤KB]):=
 pure_congr (ovr_okS _ fun g _ hp=>(ovr_eq g (hp _ (List.mem_cons_self ..))).1) fun g _ hp=>(ovr_eq g (hp _ (List.mem_cons_self ..))).2
def mkM (e:Rec×Int):Many:=⟨e.1,e.2⟩
noncomputable def bagE (m:List (Rec×Int)):List Many×Int:=bif m.any bgP then ([],51) else (srtBy cmpM (m.map mkM),0)
theorem inj_pw:∀ {l:List Many},l.Pairwise (fun a b=>a.r≠b.r)→∀ {x y:Many},x∈l→y∈l→x.r=y.r→x=y
 | [],_,_,_,hx,_,_=>by cases hx
 | a :: l,h,x,y,hx,hy,e=>by
  rw[List.pairwise_cons] at h
  rcases List.mem_cons.1 hx with h1 | h1
  ·rcases List.mem_cons.1 hy with h2 | h2
   ·rw[h1,h2]
   ·exact absurd (h1▸e) (h.1 _ h2)
  ·rcases List.mem_cons.1 hy with h2 | h2
   ·exact absurd (h2▸e).symm (h.1 _ h1)
   ·exact inj_pw h.2 h1 h2 e
theorem anti_pw {l:List Many} (h:l.Pairwise fun a b=>a.r≠b.r):Anti cmpM l:=fun x hx y hy h1 h2=>inj_pw h hx hy (toR.anti _ _ h1 h2)
def KdE (m:List (Rec×Int)):Prop:=m.Pairwise fun a b=>a.1≠b.1
theorem kd_mk {m:List (Rec×Int)} (h:KdE m):(m.map mkM).Pairwise fun a b=>a.r≠b.r:=by
 rw[List.pairwise_map]
 exact h
theorem bagf_eq (cs:List Nat) (m:List (Rec×Int)) (h1:m.length≤1000000) (h2:KdE m):bagf_side cs m∧bagf_F cs m=bagE m:=by
 have hP:(permL m.length (hdC cs) m).Perm m:=permL_perm _ _ _ rfl
 have hq:bagf_q1 cs m=bg_f (hdC cs) ((),m,[],(),0):=by
  unfold bagf_q1
  rw[El.lst_els]
 have hb:∀ (l:List (Rec×Int)) (b:List Many×Int),l.foldl (fun (b:List Many×Int) e=>(b.1++[(⟨e.1,e.2⟩:Many)],b.2)) b=(b.1++l.map mkM,b.2):=by
  intro l
  induction l with
  | nil=>intro b;simp
  | cons a l ih=>intro b;rw[List.foldl_cons,ih];simp[mkM]
 have hany:(permL m.length (hdC cs) m).any bgP=m.any bgP:=by
  rw[Bool.eq_iff_iff,List.any_eq_true,List.any_eq_true]
  constructor
  ·rintro ⟨x,hx,hp⟩;exact ⟨x,hP.mem_iff.1 hx,hp⟩
  ·rintro ⟨x,hx,hp⟩;exact ⟨x,hP.mem_iff.2 hx,hp⟩
 unfold bagf_side bagf_F bagE
 rw[hq]
 unfold bg_f bg_up
 simp only[El.lst_els]
 rcases scanL_bad (x:=0) (st:=bg_S) (ex:=.ret) (p:=bgP) (r:=fun _ b=>(b.1,(51:Int))) (f:=fun b e=>(b.1++[(⟨e.1,e.2⟩:Many)],b.2)) (by simp) (fun _ _=>rfl) (permL m.length (hdC cs) m) ([],0) with ⟨ha,a,b',_,_,h3⟩ | ⟨ha,h3⟩
 ·rw[h3,← hany,ha]
  exact ⟨⟨fun _ _=>trivial,h1,fun h=>(by cases h)⟩,rfl⟩
 ·rw[h3,← hany,ha,hb]
  have hp2:((permL m.length (hdC cs) m).map mkM).Perm (m.map mkM):=hP.map _
  have hkd:=kd_mk h2
  have hkd2:((permL m.length (hdC cs) m).map mkM).Pairwise fun a b=>a.r≠b.r:=(List.Perm.pairwise_iff (fun h=>Ne.symm h) hp2).2 hkd
  have hs:srtBy cmpM ((permL m.length (hdC cs) m).map mkM)=srtBy cmpM (m.map mkM):=srtBy_unique swoM (anti_pw hkd) ((srtBy_perm _ _).trans hp2) (srtBy_sorted _ swoM _)
  have hl:((permL m.length (hdC cs) m).map mkM).length=m.length:=by rw[hp2.length_eq,List.length_map]
  have hls:(srtBy cmpM ((permL m.length (hdC cs) m).map mkM)).length=m.length:=by rw[(srtBy_perm _ _).length_eq,hl]
  simp only[List.nil_append]
  refine ⟨⟨fun _ _=>trivial,h1,fun _=>⟨trivial,fun _ _=>trivial,by omega,anti_pw hkd2,by rw[hls];omega,fun e _=>eM.ok_els _ e⟩⟩,?_⟩
  show (eM.lst _ (eM.els (srtBy cmpM ((permL m.length (hdC cs) m).map mkM))),(0:Int))=_
  have h5:=eM.lst_els (srtBy cmpM (m.map mkM))
  rw[← hs,hls] at h5
  rw[hl,h5,hs]
  rfl
theorem bagf_ok:FnPure Tryd.prog 74 aMap dLME bagE (fun m=>[m.length≤1000000,KdE m]):=
 bagf_okA bagE _ fun cs m _ hp=>bagf_eq cs m (hp _ (List.mem_cons_self ..)) (hp _ (List.mem_cons_of_mem _ (List.mem_cons_self ..)))
noncomputable def tabO8:MTab Tryd.prog:=((tabO5.cons 75 (pconR aPut (Rv.D rLM5) (fun g=>putL g.2.1 g.2.2 g.1) (fun g=>[g.1.length≤1000000])) (conR_ok put5_ok)).cons 76 (pconP aLM5 dI overC (fun g=>[g.length≤KB])) (conP_ok ovr_ok puI)).consM 74 (mconR true false eR eI DA.none dLME (fun g=>bagE g.1) (fun g=>[g.1.length≤1000000,KdE g.1])) (conMp_ok (pure_none bagf_ok))
end Go.Proofs.YtmegbepjdololaaDoor
