/- Chapter 6: Same. Printed by treegen.py. -/
import Derived.Test.YtmegbepjdololaaDoorZG09030a44
import Derived.Test.YtmegbepjdololaaDoorZG06140bb4
import Derived.Test.YtmegbepjdololaaDoorZG07671a7a
import Derived.Test.YtmegbepjdololaaDoorCards
set_option linter.unusedVariables false
set_option linter.unusedSimpArgs false
set_option linter.constructorNameAsVariable false
set_option linter.all false

namespace Go.Proofs.YtmegbepjdololaaDoor
open Go.RowKit Go.Sx
set_option maxRecDepth 100000
set_option linter.unusedVariables false
noncomputable def sme_q1 (a:List Rec) (b:List Rec):Ex ×
 sam_G:=
 loopF (fun g=>sam_R g.fst g.snd.fst g.snd.snd.fst g.snd.snd.snd) sam_M (eR.ag a,eR.ag b,(0:Int),false)
noncomputable def sme_F (a:List Rec) (b:List Rec):Dv.T dBool:=
 bif (↑a.length:Int) != (↑b.length:Int) then false
 else bif exB Ex.ret (sme_q1 a b).fst then (sme_q1 a b).snd.snd.snd.snd else true
def sme_side (a:List Rec) (b:List Rec):Prop:=
 ((↑a.length:Int) != (↑b.length:Int))=false→eR.okL a∧eR.okL b∧Lp.ixJ (fun c=>(↑c.fst.length:Int)) (fun c=>c.fst) sam_K (sam_f (eR.ag a,eR.ag b,(0:Int),false))
theorem sme_okS (pre:DA.T aLRR→List Prop) (h:∀ g,DA.bd aLRR g→(∀ p∈pre g,p)→sme_side g.1 g.2):FnPure Tryd.prog 70 aLRR dBool (fun g=>sme_F g.1 g.2) pre:=pure_of_sideS (Γ:=(PTab.gamz tabD2 [] [])) (Λ:=lamE9) (PTab.okz tabD2 [] []) lamE9_ok 100 default (fun g=>sme_side g.1 g.2) (fun g=>by kernel_rfl) (fun g=>by kernel_rfl) h
end Go.Proofs.YtmegbepjdololaaDoor

namespace Go.Proofs.YtmegbepjdololaaDoor
open Go.RowKit Go.Sx Go.Lp
theorem sme_ok:FnPure Tryd.prog 70 aLRR dBool (fun g=>decide (g.1=g.2)) (fun g=>[g.1.length≤KB]):=
 pure_congr (sme_okS _ fun g _ hp=>by
  obtain ⟨a,b⟩:=g
  have h:a.length≤KB:=hp _ (List.mem_cons_self ..)
  unfold KB at h
  show sme_side a b
  intro hl
  have hl:a.length=b.length:=by
   have:=bne_eq_false_iff_eq.1 hl
   omega
  rw[eR.okL_eq,eR.okL_eq,eR.ag_eq,eR.ag_eq]
  exact ⟨trivial,trivial,rfl,by show a.length≤maxLen;unfold maxLen;omega,Int.le_refl _,by show (0:Int)≤(a.length:Int);omega,hl⟩) fun g _ hp=>by
  obtain ⟨a,b⟩:=g
  have h:a.length≤KB:=hp _ (List.mem_cons_self ..)
  unfold KB at h
  show sme_F a b=decide (a=b)
  unfold sme_F
  by_cases hl:a.length=b.length
  ·have e0:((a.length:Int) != (b.length:Int))=false:=by rw[bne_eq_false_iff_eq];omega
   rw[e0,cond_false]
   have hrun:=sam_run (a,b) false rfl (by show a.length≤maxLen;unfold maxLen;omega) hl
   have hq:sme_q1 a b=loopF sam_RR sam_M (sam_g (0,(a,b),false)):=by
    unfold sme_q1
    rw[eR.ag_eq,eR.ag_eq]
    rfl
   rw[hq,hrun]
   rcases searchI (x:=0) (st:=sam_S (a,b)) (p:=fun i v=>!decide (v=b.getD i.toNat eR.dflt)) (r:=fun _ _ _=>false) (fun b i a=>rfl) a false with ⟨n,v,h1,h2,hs⟩ | ⟨h1,hs⟩
   ·rw[hs]
    have hne:a≠b:=by
     rintro rfl
     simp[List.getD_eq_getElem?_getD,h1] at h2
    rw[decide_eq_false hne];rfl
   ·rw[hs]
    have he:a=b:=by
     refine List.ext_getElem? fun n=>?_
     by_cases hn:n<a.length
     ·have:=h1 n a[n] (by simp[hn])
      have hn':n<b.length:=by omega
      simp only[List.getD_eq_getElem?_getD,Int.toNat_natCast,List.getElem?_eq_getElem hn',Option.getD_some,Bool.not_eq_false',decide_eq_true_eq] at this
      rw[List.getElem?_eq_getElem hn,List.getElem?_eq_getElem hn',this]
     ·rw[List.getElem?_eq_none (by omega),List.getElem?_eq_none (by omega)]
    rw[decide_eq_true he];rfl
  ·have e0:((a.length:Int) != (b.length:Int))=true:=by rw[bne_iff_ne];omega
   have hne:a≠b:=fun h=>hl (by rw[h])
   rw[e0,cond_true,decide_eq_false hne]
theorem single_cs {s:BA} (h:singleS s=true):∃ c,sc c∧toL s=encL c∧runes06 s=[(c:Int)]:=by
 have h1:=single_len h
 have hv:validS s=true:=by
  unfold singleS at h
  exact (Bool.and_eq_true_iff.1 h).2
 rw[r06_len] at h1
 obtain ⟨c,hc⟩:=List.length_eq_one_iff.1 h1
 refine ⟨c,rns_sc (toL s) c (by rw[hc];exact List.mem_cons_self ..),?_,?_⟩
 ·have:=valid_cs hv
  rw[hc] at this
  rw[this,encs_cons]
  show _++[]=_
  rw[List.append_nil]
 ·rw[runes06_cs,hc];rfl
theorem chk3 {f:Fn} (h:chkF 3 f=0):(11≤f.kind∧f.kind≤13)∧num_F f=true∧textF f=true:=by
 rcases chkF_zero h with ⟨h1,_⟩ | ⟨_,h2,h3,h4,h5⟩
 ·exact absurd h1 (by decide)
 ·exact ⟨⟨h2,h3⟩,h4,h5⟩
theorem flt_si (f:Fn) (r:Rec) (h:f.s.size≤KB):flt_side f r:=⟨h,fun hb=>by
 have hz:=both_zero hb
 have h64:=text_small hb
 exact ⟨fun hk=>by
  have:=num_mod (chk3 hz.1).2.1 (.inr (by simpa using hk))
  omega,fun _=>⟨fun _=>by unfold KS;omega,fun _=>by unfold KB;omega⟩⟩⟩
theorem flt_ok:FnPure Tryd.prog 65 aFR dBE (fun g=>flt_F g.1 g.2) (fun g=>[g.1.s.size≤KB]):=flt_okS _ fun g _ hp=>flt_si g.1 g.2 (hp _ (List.mem_cons_self ..))
theorem r05_pos {f:Fn} (h:singleS f.s=true):(0:Int)<((runes05 f.s).length:Int):=by
 have:=single_len h
 rw[runes_len];omega
theorem rfl_eq (f:Fn) (r:Rec):rfl_F f r=flt_F f r:=by
 unfold rfl_F flt_F
 cases hb:bothF (3:Int) f r != (0:Int) with
 | true=>rfl
 | false=>
  simp only[cond_false]
  cases h11:f.kind==(11:Int) with
  | true=>rfl
  | false=>
   simp only[cond_false]
   cases h12:f.kind==(12:Int) with
   | true=>
    simp only[cond_true]
    have hz:=both_zero hb
    have hk:f.kind=12:=by simpa using h12
    obtain ⟨c,hc,e1,e2⟩:=single_cs (text_single (chk3 hz.1).2.2 (.inl hk))
    have hv:=((chkR_iff r).1 hz.2).2
    have e3:((runes05 f.s).getD (0:Nat) eU.dflt).r=(c:Int):=by
     rw[r05_r0 f.s (by rw[e2];exact Nat.zero_lt_one),e2];rfl
    have e4:=valid_cs hv
    have e5:Lib.contains r.text.data.toList f.s.data.toList=decide (c∈rns (toL r.text)):=by
     show Lib.contains (toL r.text) (toL f.s)=_
     rw[e1,← has_enc hc (rns_sc (toL r.text)),← e4]
    rw[e3,eU.ag_eq,hasR_eq,e5]
   | false=>
    simp only[cond_false]
    rw[runes_len]
theorem rfl_si (f:Fn) (r:Rec) (h:f.s.size≤KB):rfl_side f r:=⟨h,fun hb=>by
 have hz:=both_zero hb
 have h64:=text_small hb
 exact ⟨by unfold KB;omega,fun hk=>by
  have:=num_mod (chk3 hz.1).2.1 (.inr (by simpa using hk))
  omega,fun _ hk=>⟨h,⟨Int.le_refl _,r05_pos (text_single (chk3 hz.1).2.2 (.inl (by simpa using hk)))⟩,by rw[eU.okL_eq];trivial,by
   rw[eU.ag_eq,runes_len,r06_len]
   have:=rns_len r.text
   rw[← r06_len]
   unfold KB;omega⟩⟩⟩
theorem rfl_ok:FnPure Tryd.prog 66 aFR dBE (fun g=>flt_F g.1 g.2) (fun g=>[g.1.s.size≤KB]):=pure_congr (rfl_okS _ fun g _ hp=>rfl_si g.1 g.2 (hp _ (List.mem_cons_self ..))) fun g _ _=>rfl_eq g.1 g.2
theorem puBE (r:Bool×Int):Pu (dBE.enc r):=pu_tup (pus_cons (pu_v _) (pus_cons (pu_v _) pus_nil))
noncomputable def tabE11:PTab Tryd.prog:=((tabD2.cons 65 (pconP aFR dBE (fun g=>flt_F g.1 g.2) (fun g=>[g.1.s.size≤KB])) (conP_ok flt_ok puBE)).cons 66 (pconP aFR dBE (fun g=>flt_F g.1 g.2) (fun g=>[g.1.s.size≤KB])) (conP_ok rfl_ok puBE)).cons 70 (pconP aLRR dBool (fun g=>decide (g.1=g.2)) (fun g=>[g.1.length≤KB])) (conP_ok sme_ok puB)
end Go.Proofs.YtmegbepjdololaaDoor

namespace Go.Proofs.YtmegbepjdololaaDoor
open Go.RowKit Go.Sx
set_option maxRecDepth 100000
set_option linter.unusedVariables false
abbrev pcs_G:Type:=Unit×Unit×Fn×Rec×List Rec×Int×Int×BA×Bool
noncomputable def pcs_LP:LP 5 pcs_G:=.pair (.fix 5 2 (.p 0 0)) (.pair (.fix 5 3 (.p 1 0)) (.pair (.obj 5 0 66 eF) (.pair (.obj 5 1 46 eR) (.pair (.slot 5 31 dLR) (.pair (.slot 5 32 dI) (.pair (.slot 5 33 dI) (.pair (.slot 5 7 dStr) (.slot 5 4 dBool))))))))
noncomputable def pcs_R (_u:Unit) (_u2:Unit) (f:Fn) (r:Rec) (xs:List Rec) (n:Int) (i:Int) (o:BA) (b:Bool):Ex×pcs_G:=
 bif decide (i<n) then bif decide ((xs.getD i.toNat eR.dflt).text=ByteArray.mk #[])||(!Lib.contains r.text.data.toList (xs.getD i.toNat eR.dflt).text.data.toList||f.kind==(22:Int)&&Lib.contains (xs.getD i.toNat eR.dflt).text.data.toList f.s.data.toList) then (Ex.ret,(),(),f,r,eR.ag xs,n,i,o,false) else (Ex.normal,(),(),f,r,eR.ag xs,n,IntKind.i64.wrap (i+(1:Int)),o++(xs.getD i.toNat eR.dflt).text,b)
 else (Ex.exit (0:Nat),(),(),f,r,eR.ag xs,n,i,o,b)
def pcs_side (_u:Unit) (_u2:Unit) (f:Fn) (r:Rec) (xs:List Rec) (n:Int) (i:Int) (o:BA) (b:Bool):Prop:=
 (decide (i<n)=true→((0:Int)≤i∧i<(↑xs.length:Int))∧((!decide ((xs.getD i.toNat eR.dflt).text=ByteArray.mk #[]))=true→ByteArray.size r.text≤KS)∧((!decide ((xs.getD i.toNat eR.dflt).text=ByteArray.mk #[]))=true→(!!Lib.contains r.text.data.toList (xs.getD i.toNat eR.dflt).text.data.toList)=true→(f.kind==(22:Int))=true→ByteArray.size (xs.getD i.toNat eR.dflt).text≤KS)∧((decide ((xs.getD i.toNat eR.dflt).text=ByteArray.mk #[])||(!Lib.contains r.text.data.toList (xs.getD i.toNat eR.dflt).text.data.toList||f.kind==(22:Int)&&Lib.contains (xs.getD i.toNat eR.dflt).text.data.toList f.s.data.toList))=true→eR.okL xs)∧((decide ((xs.getD i.toNat eR.dflt).text=ByteArray.mk #[])||(!Lib.contains r.text.data.toList (xs.getD i.toNat eR.dflt).text.data.toList||f.kind==(22:Int)&&Lib.contains (xs.getD i.toNat eR.dflt).text.data.toList f.s.data.toList))=false→ByteArray.size o+ByteArray.size (xs.getD i.toNat eR.dflt).text≤(9223372036854775807:Nat)∧eR.okL xs))∧(decide (i<n)=false→eR.okL xs)
theorem pcs_one:((loopsOf Tryd.prog 14).filter fun c=>Nat.beq (lkey c) 8).length=1:=by kernel_rfl
abbrev pcs_GC:Type:=Fn×Rec×List Rec×Int
abbrev pcs_GB:Type:=Unit×Unit×BA×Bool
def pcs_f (g:pcs_G):Int×pcs_GC×pcs_GB:=(g.2.2.2.2.2.2.1,(g.2.2.1,g.2.2.2.1,g.2.2.2.2.1,g.2.2.2.2.2.1),(g.1,g.2.1,g.2.2.2.2.2.2.2.1,g.2.2.2.2.2.2.2.2))
def pcs_g (d:Int×pcs_GC×pcs_GB):pcs_G:=(d.2.2.1,d.2.2.2.1,d.2.1.1,d.2.1.2.1,d.2.1.2.2.1,d.2.1.2.2.2,d.1,d.2.2.2.2.1,d.2.2.2.2.2)
theorem pcs_es (g:pcs_G):(pcs_R g.1 g.2.1 g.2.2.1 g.2.2.2.1 g.2.2.2.2.1 g.2.2.2.2.2.1 g.2.2.2.2.2.2.1 g.2.2.2.2.2.2.2.1 g.2.2.2.2.2.2.2.2).1=.normal∨(pcs_R g.1 g.2.1 g.2.2.1 g.2.2.2.1 g.2.2.2.2.1 g.2.2.2.2.2.1 g.2.2.2.2.2.2.1 g.2.2.2.2.2.2.2.1 g.2.2.2.2.2.2.2.2).1∈([.ret,.exit 0]:List Ex):=by
 unfold pcs_R
 repeat' (first | (left;rfl) | (right;simp only[cond_true,cond_false];simp;done) | (rw[Bool.cond_eq_ite];split))
noncomputable abbrev pcs_C (Inv:pcs_G→List Prop) (m:pcs_G→Nat):LCon:=loopR [.ret,.exit 0] (loopBody Tryd.prog 14 8) pcs_LP [] 85 Inv (fun g=>pcs_R g.1 g.2.1 g.2.2.1 g.2.2.2.1 g.2.2.2.2.1 g.2.2.2.2.2.1 g.2.2.2.2.2.2.1 g.2.2.2.2.2.2.2.1 g.2.2.2.2.2.2.2.2) m
theorem pcs_loop (Inv:pcs_G→List Prop) (m:pcs_G→Nat) (hs:∀ g,allP (Inv g)→pcs_side g.1 g.2.1 g.2.2.1 g.2.2.2.1 g.2.2.2.2.1 g.2.2.2.2.2.1 g.2.2.2.2.2.2.1 g.2.2.2.2.2.2.2.1 g.2.2.2.2.2.2.2.2) (hg:Goes (fun g:pcs_G=>pcs_R g.1 g.2.1 g.2.2.1 g.2.2.2.1 g.2.2.2.2.1 g.2.2.2.2.2.1 g.2.2.2.2.2.2.1 g.2.2.2.2.2.2.2.1 g.2.2.2.2.2.2.2.2) m fun g=>allP (Inv g)):∀ b∈loopsOf Tryd.prog 14,lkey b=8→LoopOk Tryd.prog b (pcs_C Inv m).g:=loop_run (Γ:=(PTab.gamz tabE11 [] [])) (Λ:=noΛ) (PTab.okz tabE11 [] []) noΛ_ok 100 14 8 85 pcs_LP [] Inv (fun g=>pcs_R g.1 g.2.1 g.2.2.1 g.2.2.2.1 g.2.2.2.2.1 g.2.2.2.2.2.1 g.2.2.2.2.2.2.1 g.2.2.2.2.2.2.2.1 g.2.2.2.2.2.2.2.2) (fun g=>pcs_side g.1 g.2.1 g.2.2.1 g.2.2.2.1 g.2.2.2.2.1 g.2.2.2.2.2.1 g.2.2.2.2.2.2.1 g.2.2.2.2.2.2.2.1 g.2.2.2.2.2.2.2.2) m default [.ret,.exit 0] pcs_one (fun rd T B HL HB ds g=>by kernel_rfl) (fun rd T B HL HB ds g=>by kernel_rfl) hs hg pcs_es
end Go.Proofs.YtmegbepjdololaaDoor

namespace Go.Proofs.YtmegbepjdololaaDoor
open Go.RowKit Go.Sx Go.Lp
set_option maxRecDepth 100000
noncomputable def pcs_bad (f:Fn) (r:Rec) (v:Rec):Bool:=decide (v.text=ByteArray.mk #[])||(!Lib.contains r.text.data.toList v.text.data.toList||f.kind==(22:Int)&&Lib.contains v.text.data.toList f.s.data.toList)
noncomputable def pcs_S (c:pcs_GC) (b:pcs_GB) (_:Int) (v:Rec):Ex×pcs_GB:=bif pcs_bad c.1 c.2.1 v then (.ret,(),(),b.2.2.1,false) else (.normal,(),(),b.2.2.1++v.text,b.2.2.2)
def pcs_K (c:pcs_GC) (b:pcs_GB) (i:Int):Prop:=c.2.1.text.size≤64∧c.2.2.1.length≤4∧(∀ x∈c.2.2.1,x.text.size≤64)∧(b.2.2.1.size:Int)≤64 * i
abbrev pcs_I (g:pcs_G):List Prop:=ixI (fun c:pcs_GC=>c.2.2.2) (fun c:pcs_GC=>c.2.2.1) pcs_K (pcs_f g)
abbrev pcs_M (g:pcs_G):Nat:=ixM (fun c:pcs_GC=>c.2.2.2) (pcs_f g)
theorem pcs_P:ixP pcs_S (fun c:pcs_GC=>c.2.2.1) pcs_K:=by
 intro c b i a h ha hn
 obtain ⟨h1,h2,h3,h4⟩:=h
 unfold pcs_S at hn ⊢
 cases hb:pcs_bad c.1 c.2.1 a with
 | true=>rw[hb] at hn;cases hn
 | false=>
  rw[cond_false]
  have hm:=h3 a (List.mem_of_getElem? ha)
  refine ⟨h1,h2,h3,?_⟩
  show ((b.2.2.1++a.text).size:Int)≤_
  rw[ByteArray.size_append]
  omega
noncomputable abbrev pcs_RR (g:pcs_G):Ex×pcs_G:=pcs_R g.1 g.2.1 g.2.2.1 g.2.2.2.1 g.2.2.2.2.1 g.2.2.2.2.2.1 g.2.2.2.2.2.2.1 g.2.2.2.2.2.2.2.1 g.2.2.2.2.2.2.2.2
theorem pcs_RF (d:Int×pcs_GC×pcs_GB) (hi:allP (ixI (fun c:pcs_GC=>c.2.2.2) (fun c:pcs_GC=>c.2.2.1) pcs_K d)):pcs_RR (pcs_g d)=((ixF 0 (fun c:pcs_GC=>c.2.2.2) (fun c:pcs_GC=>c.2.2.1) eR.dflt pcs_S d).1,pcs_g (ixF 0 (fun c:pcs_GC=>c.2.2.2) (fun c:pcs_GC=>c.2.2.1) eR.dflt pcs_S d).2):=by
 obtain ⟨i,⟨f,r,xs,n⟩,u1,u2,o,b⟩:=d
 show pcs_R u1 u2 f r xs n i o b=_
 unfold pcs_R ixF pcs_S
 simp only[El.ag_eq]
 cases decide (i<n) with
 | false=>rfl
 | true=>
  simp only[cond_true]
  show (bif pcs_bad f r (xs.getD i.toNat eR.dflt) then _ else _)=_
  generalize pcs_bad f r (xs.getD i.toNat eR.dflt)=z
  cases z <;> rfl
theorem pcs_ok:∀ b∈loopsOf Tryd.prog 14,lkey b=8→LoopOk Tryd.prog b (pcs_C pcs_I pcs_M).g:=by
 refine pcs_loop pcs_I pcs_M (fun g hi=>?_) (ix_conj_goes (fun _=>rfl) (fun _=>rfl) pcs_RF pcs_P)
 obtain ⟨u1,u2,f,r,xs,n,i,o,b⟩:=g
 obtain ⟨h1,h2,h3,h4,h5,h6,h7,h8⟩:=hi _ (List.mem_cons_self ..)
 have h1:n=(xs.length:Int):=h1
 have h3:0≤i:=h3
 have h4:i≤(xs.length:Int):=h4
 have h5:r.text.size≤64:=h5
 have h6:xs.length≤4:=h6
 have h7:∀ x∈xs,x.text.size≤64:=h7
 have h8:(o.size:Int)≤64 * i:=h8
 have hk:eR.okL xs:=by rw[eR.okL_eq];trivial
 show pcs_side u1 u2 f r xs n i o b
 have hv:decide (i<n)=true→(xs.getD i.toNat eR.dflt).text.size≤64:=fun hlt=>by
  have hlt:i<n:=by simpa using hlt
  have hl:i.toNat<xs.length:=by omega
  rw[List.getD_eq_getElem?_getD,List.getElem?_eq_getElem hl]
  exact h7 _ (List.getElem_mem _)
 refine ⟨fun hlt=>?_,fun _=>hk⟩
 have hs:=hv hlt
 have hlt:i<n:=by simpa using hlt
 exact ⟨⟨h3,by omega⟩,fun _=>by unfold KS;omega,fun _ _ _=>by unfold KS;omega,fun _=>hk,fun _=>⟨by omega,hk⟩⟩
theorem pcs_run (c:pcs_GC) (b:pcs_GB) (k1:c.2.2.2=((c.2.2.1).length:Int)) (k2:(c.2.2.1).length≤maxLen) (k3:pcs_K c b 0):loopF pcs_RR pcs_M (pcs_g (0,c,b))=((scan 0 (pcs_S c) 0 (c.2.2.1) b).1,pcs_g ((scan 0 (pcs_S c) 0 (c.2.2.1) b).2.1,c,(scan 0 (pcs_S c) 0 (c.2.2.1) b).2.2)):=ix_conj_run (φ:=pcs_f) (ψ:=pcs_g) (fun _=>rfl) (fun _=>rfl) pcs_RF pcs_P c b k1 k2 k3
theorem pcs_scan (c:pcs_GC):∀ (l:List Rec) (i:Int) (b:pcs_GB),(∀ v∈l,pcs_bad c.1 c.2.1 v=false)→∃ j,scan 0 (pcs_S c) i l b=(.exit 0,j,(),(),l.foldl (fun o v=>o++v.text) b.2.2.1,b.2.2.2)
 | [],i,b,_=>⟨i,rfl⟩
 | v :: l,i,b,h=>by
  have h0:=h v (List.mem_cons_self ..)
  have e:pcs_S c b i v=(.normal,(),(),b.2.2.1++v.text,b.2.2.2):=by unfold pcs_S;rw[h0];rfl
  simp only[scan,e]
  exact pcs_scan c l (i+1) _ fun x hx=>h x (List.mem_cons_of_mem _ hx)
noncomputable def ltF2:LTab Tryd.prog:=LTab.nil.cons 14 8 (pcs_C pcs_I pcs_M) pcs_ok
noncomputable abbrev lamF2:Lam:=ltF2.lam
theorem lamF2_ok:∀ f k L,lamF2 f k=some L→∀ b∈loopsOf Tryd.prog f,lkey b=k→LoopOk Tryd.prog b L.g:=ltF2.ok
end Go.Proofs.YtmegbepjdololaaDoor

namespace Go.Proofs.YtmegbepjdololaaDoor
open Go.RowKit Go.Sx
set_option maxRecDepth 100000
set_option linter.unusedVariables false
noncomputable def lpc_q1 (f:Fn) (r:Rec):List Rec×Int:=
 splF f r
noncomputable def lpc_q2 (f:Fn) (r:Rec):Ex ×
 pcs_G:=
 loopF (fun g=>pcs_R g.fst g.snd.fst g.snd.snd.fst g.snd.snd.snd.fst g.snd.snd.snd.snd.fst g.snd.snd.snd.snd.snd.fst g.snd.snd.snd.snd.snd.snd.fst g.snd.snd.snd.snd.snd.snd.snd.fst g.snd.snd.snd.snd.snd.snd.snd.snd) pcs_M ((),(),f,r,eR.ag (lpc_q1 f r).fst,(↑(lpc_q1 f r).fst.length:Int),(0:Int),ByteArray.mk #[],false)
noncomputable def lpc_F (f:Fn) (r:Rec):Dv.T dBool:=
 bif !true||!decide (IntKind.i64.wrap (List.foldl (fun a x=>bif false then if x.snd.snd > a then x.snd.snd else a else if x.snd.snd<a then x.snd.snd else a) (↑(ByteArray.size f.s):Int) [(true,IntKind.i64,(1048576:Int))]+List.foldl (fun a x=>bif false then if x.snd.snd > a then x.snd.snd else a else if x.snd.snd<a then x.snd.snd else a) (↑(ByteArray.size r.text):Int) [(true,IntKind.i64,(1048576:Int))])≤(3000:Int)) then true
 else bif (lpc_q1 f r).snd != (0:Int) then (↑(lpc_q1 f r).fst.length:Int)==(0:Int) else bif exB Ex.ret (lpc_q2 f r).fst then (lpc_q2 f r).snd.snd.snd.snd.snd.snd.snd.snd.snd else (lpc_q2 f r).snd.snd.snd.fst.kind != (21:Int)||Lib.hasPrefix (lpc_q2 f r).snd.snd.snd.snd.fst.text.data.toList (lpc_q2 f r).snd.snd.snd.snd.snd.snd.snd.snd.fst.data.toList&&(↑(runesOf (lpc_q2 f r).snd.snd.snd.snd.snd.snd.snd.snd.fst).length:Int)==List.foldl (fun a x=>bif false then if x.snd.snd > a then x.snd.snd else a else if x.snd.snd<a then x.snd.snd else a) (4:Int) [(false,IntKind.i64,(↑(runesOf (lpc_q2 f r).snd.snd.snd.snd.fst.text).length:Int))]
def lpc_side (f:Fn) (r:Rec):Prop:=
 (!true||!decide (IntKind.i64.wrap (List.foldl (fun a x=>bif false then if x.snd.snd > a then x.snd.snd else a else if x.snd.snd<a then x.snd.snd else a) (↑(ByteArray.size f.s):Int) [(true,IntKind.i64,(1048576:Int))]+List.foldl (fun a x=>bif false then if x.snd.snd > a then x.snd.snd else a else if x.snd.snd<a then x.snd.snd else a) (↑(ByteArray.size r.text):Int) [(true,IntKind.i64,(1048576:Int))])≤(3000:Int)))=false→ByteArray.size f.s≤KB∧(((lpc_q1 f r).snd != (0:Int))=false→eR.okL (lpc_q1 f r).fst∧Lp.ixJ (fun c=>c.snd.snd.snd) (fun c=>c.snd.snd.fst) pcs_K (pcs_f ((),(),f,r,eR.ag (lpc_q1 f r).fst,(↑(lpc_q1 f r).fst.length:Int),(0:Int),ByteArray.mk #[],false))∧(exB Ex.ret (lpc_q2 f r).fst=false→((!(lpc_q2 f r).snd.snd.snd.fst.kind != (21:Int))=true→Lib.hasPrefix (lpc_q2 f r).snd.snd.snd.snd.fst.text.data.toList (lpc_q2 f r).snd.snd.snd.snd.snd.snd.snd.snd.fst.data.toList=true→(runesOf (lpc_q2 f r).snd.snd.snd.snd.snd.snd.snd.snd.fst).length≤(70368744177664:Nat))∧((!(lpc_q2 f r).snd.snd.snd.fst.kind != (21:Int))=true→Lib.hasPrefix (lpc_q2 f r).snd.snd.snd.snd.fst.text.data.toList (lpc_q2 f r).snd.snd.snd.snd.snd.snd.snd.snd.fst.data.toList=true→(runesOf (lpc_q2 f r).snd.snd.snd.snd.fst.text).length≤(70368744177664:Nat))))
theorem lpc_okS (pre:DA.T aFR→List Prop) (h:∀ g,DA.bd aFR g→(∀ p∈pre g,p)→lpc_side g.1 g.2):FnPure Tryd.prog 14 aFR dBool (fun g=>lpc_F g.1 g.2) pre:=pure_of_sideS (Γ:=(PTab.gamz tabE11 [] [])) (Λ:=lamF2) (PTab.okz tabE11 [] []) lamF2_ok 100 default (fun g=>lpc_side g.1 g.2) (fun g=>by kernel_rfl) (fun g=>by kernel_rfl) h
end Go.Proofs.YtmegbepjdololaaDoor

namespace Go.Proofs.YtmegbepjdololaaDoor
open Go.RowKit Go.Sx
set_option maxRecDepth 100000
set_option linter.unusedVariables false
end Go.Proofs.YtmegbepjdololaaDoor

namespace Go.Proofs.YtmegbepjdololaaDoor
open Go.RowKit Go.Sx Go.Lp
end Go.Proofs.YtmegbepjdololaaDoor

namespace Go.Proofs.YtmegbepjdololaaDoor
open Go.RowKit Go.Sx Go.Lp
theorem words_mem (c:Int):∀ (l:List Int) (o:List BA) (w:List Int),(∀ x∈w,x≠c)→∀ s∈wordsF c l o w,s∈o∨∃ a u b,w++l=a++u++b∧(∀ x∈u,x≠c)∧s=runesBytes u
 | [],o,w,hw,s,hs=>by
  simp only[wordsF] at hs
  rcases List.mem_append.1 hs with h | h
  ·exact .inl h
  ·exact .inr ⟨[],w,[],by simp,hw,List.mem_singleton.1 h⟩
 | d :: l,o,w,hw,s,hs=>by
  simp only[wordsF] at hs
  cases hd:d != c with
  | true=>
   rw[hd,cond_true] at hs
   have hdc:d≠c:=bne_iff_ne.1 hd
   rcases words_mem c l o (w++[d]) (fun x hx=>by
    rcases List.mem_append.1 hx with h | h
    ·exact hw x h
    ·rw[List.mem_singleton.1 h];exact hdc) s hs with h | ⟨a,u,b,h1,h2,h3⟩
   ·exact .inl h
   ·exact .inr ⟨a,u,b,by rw[← h1];simp,h2,h3⟩
  | false=>
   rw[hd,cond_false] at hs
   rcases words_mem c l (o++[runesBytes w]) [] (fun x hx=>absurd hx (List.not_mem_nil)) s hs with h | ⟨a,u,b,h1,h2,h3⟩
   ·rcases List.mem_append.1 h with h | h
    ·exact .inl h
    ·exact .inr ⟨[],w,d :: l,by simp,hw,List.mem_singleton.1 h⟩
   ·refine .inr ⟨w++d :: a,u,b,?_,h2,h3⟩
    have h1:l=a++u++b:=by simpa using h1
    rw[h1];simp
theorem nat_split {cs:List Nat} {a u b:List Int} (h:cs.map (fun (c:Nat)=>(c:Int))=a++u++b):∃ a' u' b',cs=a'++u'++b'∧u=u'.map fun (c:Nat)=>(c:Int):=by
 obtain ⟨x,b',e1,e2,_⟩:=List.map_eq_append_iff.1 h
 obtain ⟨a',u',e3,_,e5⟩:=List.map_eq_append_iff.1 e2
 exact ⟨a',u',b',by rw[e1,e3],e5.symm⟩
theorem one_toL (c:Nat):toL (runesBytes [(c:Int)])=encs [c]:=by
 have:=rb_toL [c]
 rw[List.map_cons,List.map_nil] at this
 exact this
structure Piece (f:Fn) (r p:Rec):Prop where
 key:p.key=r.key
 ne:p.text≠ByteArray.mk #[]
 part:∃ a u b:List Nat,rns (toL r.text)=a++u++b∧toL p.text=encs u∧(f.kind=22→∀ c:Nat,rune0 f.s=(c:Int)→c∉u)
theorem pk_mem {key:Int} {l:List BA} {p:Rec} (h:p∈pk key l):∃ s∈l,s≠ByteArray.mk #[]∧p=⟨key,s⟩:=by
 unfold pk at h
 obtain ⟨s,hs,rfl⟩:=List.mem_map.1 h
 obtain ⟨h1,h2⟩:=List.mem_filter.1 (List.mem_of_mem_take hs)
 exact ⟨s,h1,by simpa using h2,rfl⟩
theorem piece_of (f:Fn) (r:Rec) (p:Rec) (hp:p∈splitL f r):Piece f r p:=by
 unfold splitL at hp
 obtain ⟨s,hs,hne,rfl⟩:=pk_mem hp
 refine ⟨rfl,hne,?_⟩
 cases hk:f.kind==(22:Int) with
 | true=>
  rw[hk,cond_true] at hs
  rcases words_mem _ _ _ _ (fun x hx=>absurd hx (List.not_mem_nil)) s hs with h | ⟨a,u,b,h1,h2,h3⟩
  ·exact absurd h (List.not_mem_nil)
  ·rw[List.nil_append,runes06_cs] at h1
   obtain ⟨a',u',b',e1,e2⟩:=nat_split h1
   refine ⟨a',u',b',e1,?_,fun _ c hc hm=>?_⟩
   ·show toL s=_
    rw[h3,e2,rb_toL]
   ·refine h2 (c:Int) ?_ hc.symm
    rw[e2]
    exact List.mem_map.2 ⟨c,hm,rfl⟩
 | false=>
  rw[hk,cond_false] at hs
  unfold eachL at hs
  rw[runes06_cs] at hs
  obtain ⟨x,hx,rfl⟩:=List.mem_map.1 hs
  obtain ⟨c,hc,rfl⟩:=List.mem_map.1 hx
  obtain ⟨a,b,e⟩:=List.append_of_mem hc
  refine ⟨a,[c],b,by rw[e];simp,one_toL c,fun h=>?_⟩
  rw[h] at hk;cases hk
theorem piece_sc {f:Fn} {r p:Rec} (h:Piece f r p):∃ u,(∀ c∈u,sc c)∧toL p.text=encs u∧(f.kind=22→∀ c:Nat,rune0 f.s=(c:Int)→c∉u):=by
 obtain ⟨a,u,b,e1,e2,e3⟩:=h.part
 exact ⟨u,fun c hc=>rns_sc (toL r.text) c (by rw[e1];simp[hc]),e2,e3⟩
theorem piece_in {f:Fn} {r p:Rec} (h:Piece f r p) (hv:validS r.text=true):Lib.contains (toL r.text) (toL p.text)=true:=by
 obtain ⟨a,u,b,e1,e2,_⟩:=h.part
 rw[contains_iff,valid_cs hv,e1,e2,List.append_assoc,encs_append,encs_append]
 refine ⟨(encs a).length,?_,?_⟩
 ·rw[List.length_append];omega
 ·rw[List.drop_left]
  exact ⟨encs b,rfl⟩
theorem piece_size {f:Fn} {r p:Rec} (h:Piece f r p) (hv:validS r.text=true):p.text.size≤r.text.size:=by
 obtain ⟨a,u,b,e1,e2,_⟩:=h.part
 rw[size_toL,size_toL,valid_cs hv,e1,e2,encs_append,encs_append,List.length_append,List.length_append]
 omega
theorem piece_without {f:Fn} {r p:Rec} (h:Piece f r p) (hk:f.kind=22) (hs:singleS f.s=true):Lib.contains (toL p.text) (toL f.s)=false:=by
 obtain ⟨u,h1,h2,h3⟩:=piece_sc h
 obtain ⟨c,hc,e1,e2⟩:=single_cs hs
 have h0:rune0 f.s=(c:Int):=by unfold rune0;rw[e2];rfl
 rw[h2,e1,has_enc hc h1]
 exact decide_eq_false (h3 hk c h0)
theorem cat_toL:∀ (l:List Rec) (o:BA),toL (l.foldl (fun o v=>o++v.text) o)=toL o++l.flatMap fun v=>toL v.text
 | [],o=>by simp
 | v :: l,o=>by
  rw[List.foldl_cons,cat_toL l,toL_app,List.flatMap_cons,List.append_assoc]
theorem each_all (key:Int) (t:BA):pk key (eachL t)=((rns (toL t)).take 4).map fun (c:Nat)=>⟨key,runesBytes [(c:Int)]⟩:=by
 unfold pk eachL
 rw[runes06_cs,List.map_map,List.filter_eq_self.2,← List.map_take,List.map_map]
 ·simp only[Function.comp_def]
 ·intro s hs
  obtain ⟨c,hc,rfl⟩:=List.mem_map.1 hs
  have:=one_ne c (rns_sc _ c hc)
  simpa using this
theorem each_cat (key:Int) (t:BA):toL ((pk key (eachL t)).foldl (fun o v=>o++v.text) (ByteArray.mk #[]))=encs ((rns (toL t)).take 4):=by
 rw[cat_toL,each_all,List.flatMap_map]
 show []++_=_
 rw[List.nil_append]
 unfold encs
 refine congrArg (fun g=>List.flatMap g _) (funext fun c=>?_)
 show toL (runesBytes [(c:Int)])=encL c
 rw[one_toL,encs_cons]
 show encL c++[]=encL c
 rw[List.append_nil]
end Go.Proofs.YtmegbepjdololaaDoor

namespace Go.Proofs.YtmegbepjdololaaDoor
open Go.RowKit Go.Sx Go.Lp
set_option maxRecDepth 100000
theorem splF_ok {f:Fn} {r:Rec} (h:((splF f r).2 != (0:Int))=false):chkF 4 f=0∧chkR r=0∧(splF f r).1=splitL f r:=by
 unfold splF at h ⊢
 cases hb:bothF 4 f r != (0:Int) with
 | true=>
  rw[hb,cond_true] at h
  rw[h] at hb;cases hb
 | false=>
  obtain ⟨h1,h2⟩:=both_zero hb
  exact ⟨h1,h2,rfl⟩
theorem splF_no {f:Fn} {r:Rec} (h:((splF f r).2 != (0:Int))=true):(splF f r).1=[]:=by
 unfold splF at h ⊢
 cases hb:bothF 4 f r != (0:Int) with
 | true=>rfl
 | false=>rw[hb,cond_false] at h;cases h
theorem pcs_good {f:Fn} {r:Rec} (hf:chkF 4 f=0) (hr:chkR r=0):∀ v∈splitL f r,pcs_bad f r v=false:=fun v hv=>by
 have hp:=piece_of f r v hv
 have h2:=((chkR_iff r).1 hr).2
 unfold pcs_bad
 rw[decide_eq_false hp.ne,Bool.false_or]
 have e1:Lib.contains r.text.data.toList v.text.data.toList=true:=piece_in hp h2
 rw[e1,Bool.not_true,Bool.false_or]
 cases hk:f.kind==(22:Int) with
 | false=>rfl
 | true=>
  have hk:f.kind=22:=by simpa using hk
  exact piece_without hp hk (text_single (chk4 hf).2.2 (.inr hk))
theorem splitL_len (f:Fn) (r:Rec):(splitL f r).length≤4:=pk_len _ _
theorem pcs_K0 {f:Fn} {r:Rec} (hr:chkR r=0) (n:Int) (b:Bool):pcs_K (f,r,splitL f r,n) ((),(),ByteArray.mk #[],b) 0:=by
 obtain ⟨h1,h2⟩:=(chkR_iff r).1 hr
 exact ⟨h1,splitL_len f r,fun x hx=>Nat.le_trans (piece_size (piece_of f r x hx) h2) h1,Int.le_refl _⟩
def allT (f:Fn) (r:Rec):BA:=(splitL f r).foldl (fun o v=>o++v.text) (ByteArray.mk #[])
theorem lpc_q2_eq {f:Fn} {r:Rec} (hf:chkF 4 f=0) (hr:chkR r=0) (he:(splF f r).1=splitL f r):∃ j,lpc_q2 f r=(.exit 0,(),(),f,r,splitL f r,((splitL f r).length:Int),j,allT f r,false):=by
 have hl:=splitL_len f r
 have hrun:=pcs_run (f,r,splitL f r,((splitL f r).length:Int)) ((),(),ByteArray.mk #[],false) rfl (by show (splitL f r).length≤maxLen;unfold maxLen;omega) (pcs_K0 hr _ _)
 obtain ⟨j,hs⟩:=pcs_scan (f,r,splitL f r,((splitL f r).length:Int)) (splitL f r) 0 ((),(),ByteArray.mk #[],false) (pcs_good hf hr)
 refine ⟨j,?_⟩
 have hq:lpc_q2 f r=loopF pcs_RR pcs_M (pcs_g (0,(f,r,splitL f r,((splitL f r).length:Int)),((),(),ByteArray.mk #[],false))):=by
  unfold lpc_q2
  rw[eR.ag_eq]
  show loopF _ _ ((),(),f,r,(splF f r).1,((splF f r).1.length:Int),(0:Int),ByteArray.mk #[],false)=_
  rw[he]
  rfl
 rw[hq,hrun]
 show ((scan 0 (pcs_S (f,r,splitL f r,((splitL f r).length:Int))) 0 (splitL f r) ((),(),ByteArray.mk #[],false)).1,_)=_
 rw[hs]
 rfl
theorem all_each {f:Fn} {r:Rec} (hk:f.kind=21):toL (allT f r)=encs ((rns (toL r.text)).take 4):=by
 unfold allT splitL
 rw[hk]
 exact each_cat r.key r.text
theorem lpc_eq (f:Fn) (r:Rec):lpc_F f r=true:=by
 unfold lpc_F
 show (bif !true||!decide (smallN f.s.size r.text.size≤3000) then true else bif (splF f r).2 != (0:Int) then ((splF f r).1.length:Int)==(0:Int) else _)=true
 cases decide (smallN f.s.size r.text.size≤3000) with
 | false=>rfl
 | true=>
  simp only[Bool.not_true,Bool.or_self,cond_false]
  cases he:(splF f r).2 != (0:Int) with
  | true=>rw[cond_true,splF_no he];rfl
  | false=>
   rw[cond_false]
   obtain ⟨hf,hr,hs⟩:=splF_ok he
   obtain ⟨j,hq⟩:=lpc_q2_eq hf hr hs
   rw[hq]
   show (f.kind != (21:Int)||Lib.hasPrefix (toL r.text) (toL (allT f r))&&(((runesOf (allT f r)).length:Int)==List.foldl _ (4:Int) [(false,IntKind.i64,((runesOf r.text).length:Int))]))=true
   cases hk:f.kind != (21:Int) with
   | true=>rfl
   | false=>
    have hk:f.kind=21:=by simpa using hk
    have hv:=((chkR_iff r).1 hr).2
    have ea:=all_each (r:=r) hk
    have h1:Lib.hasPrefix (toL r.text) (toL (allT f r))=true:=by
     unfold Lib.hasPrefix
     rw[List.isPrefixOf_iff_prefix,ea]
     have h2:=valid_cs hv
     have h3:encs (rns (toL r.text))=encs ((rns (toL r.text)).take 4)++encs ((rns (toL r.text)).drop 4):=by rw[← encs_append,List.take_append_drop]
     rw[h2,rns_encs (rns_sc _)]
     exact ⟨_,h3.symm⟩
    have h4:(runesOf (allT f r)).length=min 4 (runesOf r.text).length:=by
     rw[runesOf_eq,runesOf_eq,r06_len,r06_len,ea,rns_encs (take_sc _ _),List.length_take]
    rw[h1,Bool.false_or,Bool.true_and]
    show (((runesOf (allT f r)).length:Int)==(if ((runesOf r.text).length:Int)<4 then ((runesOf r.text).length:Int) else 4))=true
    rw[h4,beq_iff_eq]
    split <;> omega
theorem lpc_si (f:Fn) (r:Rec):lpc_side f r:=by
 intro hs
 have hs:(!true||!decide (smallN f.s.size r.text.size≤3000))=false:=hs
 simp only[Bool.not_true,Bool.false_or,Bool.not_eq_false',decide_eq_true_eq] at hs
 obtain ⟨h1,h2⟩:=small_le hs
 refine ⟨by unfold KB;omega,fun he=>?_⟩
 obtain ⟨hf,hr,hsp⟩:=splF_ok he
 have hl:=splitL_len f r
 have e1:(lpc_q1 f r).fst=splitL f r:=hsp
 obtain ⟨j,hq⟩:=lpc_q2_eq hf hr hsp
 rw[e1,eR.okL_eq,eR.ag_eq,hq]
 refine ⟨trivial,ixJ0 rfl (by show (splitL f r).length≤maxLen;unfold maxLen;omega) (pcs_K0 hr _ _),fun _=>⟨fun hk _=>?_,fun _ _=>?_⟩⟩
 ·have hk:f.kind=21:=by simpa using hk
  show (runesOf (allT f r)).length≤_
  rw[runesOf_eq,r06_len,all_each (r:=r) hk,rns_encs (take_sc _ _),List.length_take]
  omega
 ·show (runesOf r.text).length≤_
  rw[runesOf_eq]
  have:=rns_len r.text
  omega
theorem lpc_ok:FnPure Tryd.prog 14 aFR dBool (fun _=>true) (fun _=>[]):=
 pure_congr (lpc_okS _ fun g _ _=>lpc_si g.1 g.2) fun g _ _=>lpc_eq g.1 g.2
end Go.Proofs.YtmegbepjdololaaDoor

namespace Go.Proofs.YtmegbepjdololaaDoor
open Go.ChangeShapes Go.WideShapes Go.ChangeAt Go.RowKit Go.Sx
set_option maxRecDepth 100000 in
theorem fnPieces_lifted (law:FnPure Tryd.prog 14 aFR dBool (fun _=>true) (fun _=>[])) (os:Os) (started:os.Started) (H:Type) (enc:TypeId×Value→H) :
  ReturnsInHanded {} Tryd.checked os 14 .any (fun w args=>(Rows.fnPiecesSpec.pre enc Tryd.prog Tryd.f14 Rows.fnPiecesRow.domain false w args∧laidMetH Tryd.prog Rows.fnPiecesRow.laid w)∧sizedMet enc Tryd.prog Tryd.f14 (OpenSpec.ofChange Rows.fnPiecesSpec) false w args) (Rows.fnPiecesSpec.post enc Tryd.prog Tryd.f14 false true false false):=by
 refine rowLaid (C:=Tryd.checked) (laid:=Rows.fnPiecesRow.laid) Tryd.own started (by kernel_rfl) Tryd.func14
  (ChangeSpec.witness_shaped (enc:=enc) (C:=Tryd.checked) (os:=os) (X:=fun w _=>laidMetH Tryd.prog Rows.fnPiecesRow.laid w) false (World.laidAll Tryd.prog os Rows.fnPiecesRow.laid) #[.agg #[.int .i64 0,.int .i64 0,.string ByteArray.empty],.agg #[.int .i64 0,.string ByteArray.empty]] 8 (World.laidAll_os _ _ _)
   (World.shaped_of_ZipB (by kernel_rfl) (by kernel_rfl)) (by kernel_rfl) (by kernel_rfl) (by kernel_rfl)
   (by rw[MakeChecks.laidMetH_plain _ _ _ (by kernel_rfl)];exact laidMet_laidAll _ (by kernel_rfl) (by kernel_rfl))) ?_
 intro W base args ds gs before hval0 hW hcnd hL hsh
 have hval:∀ (j:Nat) t v,Tryd.f14.params[j]?=some t→args[j]?=some v→Value.okWide Tryd.prog W .any base t v:=hval0
 have hW':=hW
 obtain ⟨p,q,hA0,hV,rfl,hfz,hnd⟩:=hW
 have hA:DataW.TrodAll enc Tryd.prog W 0 (fun _=>true) true Tryd.f14.params.toList args.toList ds p:=hA0
 rw[Tryd.params14] at hA hval
 obtain ⟨v0,vs0,d0,ds0,p0,qq0,hargs,rfl,rfl,h0,r0⟩:=trodAll_cons hA
 obtain ⟨v1,vs1,d1,ds1,p1,qq1,rfl,rfl,rfl,h1,r1⟩:=trodAll_cons r0
 obtain ⟨rfl,rfl,rfl⟩:=trodAll_nil r1
 obtain rfl:args=#[v0,v1]:=by cases args;simp_all
 obtain ⟨rfl,rfl⟩:=trodVars_none hV
 obtain ⟨a0,q0,f0⟩:=rdvF _ _ _ _ _ _ _ _ _ _ _ (hval 0 66 v0 rfl rfl) h0
 obtain ⟨a1,q1,f1⟩:=rdvR _ _ _ _ _ _ _ _ _ _ _ (hval 1 46 v1 rfl rfl) h1
 have lt:∀ {t:TypeId} {v:Value} {d:DataW H} {ps:List MemPlace},DataW.Trod enc Tryd.prog W 0 (fun _=>true) true t v d ps→∀ x∈ps,x.block<W.heap.size:=by
  rintro t v d ps ⟨m,hm⟩
  exact DataW.trod_lt m _ _ _ hm
 clear hA0 hval0
 refine (law W (fun b=>W.heap[b]?) (a0,a1) [v0,v1] (fun _ _ h=>h) (rowEnv hL hsh) (by simp) ⟨f0,f1,trivial⟩).mono fun e W' ⟨x,he,bel,hx⟩=>?_
 obtain rfl:x=.bool true:=by simpa [dBool,SV.fit] using hx
 subst he
 exact ⟨_,rfl,_,_,_,[],_,[],hW',trodAll_mk1 (shut_bool Tryd.underlying4 _),
  (trodAll_cons_mk (Below.trod Tryd.laidOut (by kernel_rfl) (of_decide_eq_true (by kernel_rfl)) h0 bel (lt h0))
  (trodAll_cons_mk (Below.trod Tryd.laidOut (by kernel_rfl) (of_decide_eq_true (by kernel_rfl)) h1 bel (lt h1)) trodAll_mk0)),rfl,bel.frame _,fun h=>by cases h⟩
theorem fnPieces_row:Rows.FnPiecesSaid:=
 OpenClaim.holds_of_wide 14 Tryd.f14 rfl rfl rfl rfl rfl rfl rfl ⟨rfl,rfl,rfl,rfl,rfl⟩ rfl rfl rfl rfl rfl (by kernel_rfl) Tryd.func14 (by kernel_rfl)
  (of_decide_eq_true (by kernel_rfl)) (by unfold Func.isWrapper;first | (rw[if_pos (by decide +kernel)];kernel_rfl) | (rw[if_neg (by decide +kernel)];exact ⟨rfl,rfl⟩))
  (fun os started H enc _=>fnPieces_lifted lpc_ok os started H enc)
theorem fnPieces_holds:Rows.FnPiecesCardSaid:=
 Claim7.holds_tied_plain_at .later [] [.data,.pinned] true (true, "32193793d8c897b5bc8816bf3022b22418d0ad242f639242150ef454e65964bb") false fnPieces_row (fun _ h=>by cases h) (by kernel_rfl) (fun _ h=>by cases h) fnPieces_row_tie rfl ⟨rfl,rfl⟩ (by kernel_rfl) rfl
  (fun f fn hf hfn=>by
   obtain rfl:f=14:=Option.some.inj ((show Tryd.prog.funcNamed "rivulet/rivuletlaw06.FnPieces" = some 14 by kernel_rfl).symm.trans hf) |>.symm
   obtain rfl:fn=Tryd.f14:=(Option.some.inj (Tryd.func14.symm.trans hfn)).symm
   exact ⟨by kernel_rfl,fun j t ht=>by
    rw[Tryd.params14] at ht
    have hm:t∈[66,46]:=by simpa using Array.mem_of_getElem? ht
    have hall:([66,46].all fun u=>!Tryd.prog.wantsStandIn u)=true:=by kernel_rfl
    exact (show Tryd.prog.wantsStandIn t=false by simpa using List.all_eq_true.1 hall t hm)⟩)
  (by kernel_rfl)
end Go.Proofs.YtmegbepjdololaaDoor
