/- Chapter 6: Same. Printed by treegen.py. -/
import Derived.Test.YtmegbepjdololaaDoorZG09327a3d
import Derived.Test.YtmegbepjdololaaDoorZG06993bef
import Derived.Test.YtmegbepjdololaaDoorZG0850ffac
set_option linter.unusedVariables false
set_option linter.unusedSimpArgs false
set_option linter.constructorNameAsVariable false
set_option linter.all false

namespace Go.Proofs.YtmegbepjdololaaDoor
open Go.RowKit Go.Sx
set_option maxRecDepth 100000
set_option linter.unusedVariables false
noncomputable def sme_q1 (a:List Rec) (b:List Rec):Ex ×
 sam_G:=
 loopF (fun g=>sam_R g.fst g.snd.fst g.snd.snd.fst g.snd.snd.snd) sam_M (eR.ag a,eR.ag b,(0:Int),false)
noncomputable def sme_F (a:List Rec) (b:List Rec):Dv.T dBool:=
 bif (↑a.length:Int) != (↑b.length:Int) then false
 else bif exB Ex.ret (sme_q1 a b).fst then (sme_q1 a b).snd.snd.snd.snd else true
def sme_side (a:List Rec) (b:List Rec):Prop:=
 ((↑a.length:Int) != (↑b.length:Int))=false→eR.okL a∧eR.okL b∧Lp.ixJ (fun c=>(↑c.fst.length:Int)) (fun c=>c.fst) sam_K (sam_f (eR.ag a,eR.ag b,(0:Int),false))
theorem sme_okS (pre:DA.T aLRR→List Prop) (h:∀ g,DA.bd aLRR g→(∀ p∈pre g,p)→sme_side g.1 g.2):FnPure Tryd.prog 70 aLRR dBool (fun g=>sme_F g.1 g.2) pre:=pure_of_sideS (Γ:=(PTab.gamz tabD2 [] [])) (Λ:=lamE9) (PTab.okz tabD2 [] []) lamE9_ok 100 default (fun g=>sme_side g.1 g.2) (fun g=>by kernel_rfl) (fun g=>by kernel_rfl) h
end Go.Proofs.YtmegbepjdololaaDoor

namespace Go.Proofs.YtmegbepjdololaaDoor
open Go.RowKit Go.Sx Go.Lp
theorem sme_ok:FnPure Tryd.prog 70 aLRR dBool (fun g=>decide (g.1=g.2)) (fun g=>[g.1.length≤KB]):=
 pure_congr (sme_okS _ fun g _ hp=>by
  obtain ⟨a,b⟩:=g
  have h:a.length≤KB:=hp _ (List.mem_cons_self ..)
  unfold KB at h
  show sme_side a b
  intro hl
  have hl:a.length=b.length:=by
   have:=bne_eq_false_iff_eq.1 hl
   omega
  rw[eR.okL_eq,eR.okL_eq,eR.ag_eq,eR.ag_eq]
  exact ⟨trivial,trivial,rfl,by show a.length≤maxLen;unfold maxLen;omega,Int.le_refl _,by show (0:Int)≤(a.length:Int);omega,hl⟩) fun g _ hp=>by
  obtain ⟨a,b⟩:=g
  have h:a.length≤KB:=hp _ (List.mem_cons_self ..)
  unfold KB at h
  show sme_F a b=decide (a=b)
  unfold sme_F
  by_cases hl:a.length=b.length
  ·have e0:((a.length:Int) != (b.length:Int))=false:=by rw[bne_eq_false_iff_eq];omega
   rw[e0,cond_false]
   have hrun:=sam_run (a,b) false rfl (by show a.length≤maxLen;unfold maxLen;omega) hl
   have hq:sme_q1 a b=loopF sam_RR sam_M (sam_g (0,(a,b),false)):=by
    unfold sme_q1
    rw[eR.ag_eq,eR.ag_eq]
    rfl
   rw[hq,hrun]
   rcases searchI (x:=0) (st:=sam_S (a,b)) (p:=fun i v=>!decide (v=b.getD i.toNat eR.dflt)) (r:=fun _ _ _=>false) (fun b i a=>rfl) a false with ⟨n,v,h1,h2,hs⟩ | ⟨h1,hs⟩
   ·rw[hs]
    have hne:a≠b:=by
     rintro rfl
     simp[List.getD_eq_getElem?_getD,h1] at h2
    rw[decide_eq_false hne];rfl
   ·rw[hs]
    have he:a=b:=by
     refine List.ext_getElem? fun n=>?_
     by_cases hn:n<a.length
     ·have:=h1 n a[n] (by simp[hn])
      have hn':n<b.length:=by omega
      simp only[List.getD_eq_getElem?_getD,Int.toNat_natCast,List.getElem?_eq_getElem hn',Option.getD_some,Bool.not_eq_false',decide_eq_true_eq] at this
      rw[List.getElem?_eq_getElem hn,List.getElem?_eq_getElem hn',this]
     ·rw[List.getElem?_eq_none (by omega),List.getElem?_eq_none (by omega)]
    rw[decide_eq_true he];rfl
  ·have e0:((a.length:Int) != (b.length:Int))=true:=by rw[bne_iff_ne];omega
   have hne:a≠b:=fun h=>hl (by rw[h])
   rw[e0,cond_true,decide_eq_false hne]
theorem single_cs {s:BA} (h:singleS s=true):∃ c,sc c∧toL s=encL c∧runes06 s=[(c:Int)]:=by
 have h1:=single_len h
 have hv:validS s=true:=by
  unfold singleS at h
  exact (Bool.and_eq_true_iff.1 h).2
 rw[r06_len] at h1
 obtain ⟨c,hc⟩:=List.length_eq_one_iff.1 h1
 refine ⟨c,rns_sc (toL s) c (by rw[hc];exact List.mem_cons_self ..),?_,?_⟩
 ·have:=valid_cs hv
  rw[hc] at this
  rw[this,encs_cons]
  show _++[]=_
  rw[List.append_nil]
 ·rw[runes06_cs,hc];rfl
theorem chk3 {f:Fn} (h:chkF 3 f=0):(11≤f.kind∧f.kind≤13)∧num_F f=true∧textF f=true:=by
 rcases chkF_zero h with ⟨h1,_⟩ | ⟨_,h2,h3,h4,h5⟩
 ·exact absurd h1 (by decide)
 ·exact ⟨⟨h2,h3⟩,h4,h5⟩
theorem flt_si (f:Fn) (r:Rec) (h:f.s.size≤KB):flt_side f r:=⟨h,fun hb=>by
 have hz:=both_zero hb
 have h64:=text_small hb
 exact ⟨fun hk=>by
  have:=num_mod (chk3 hz.1).2.1 (.inr (by simpa using hk))
  omega,fun _=>⟨fun _=>by unfold KS;omega,fun _=>by unfold KB;omega⟩⟩⟩
theorem flt_ok:FnPure Tryd.prog 65 aFR dBE (fun g=>flt_F g.1 g.2) (fun g=>[g.1.s.size≤KB]):=flt_okS _ fun g _ hp=>flt_si g.1 g.2 (hp _ (List.mem_cons_self ..))
theorem r05_pos {f:Fn} (h:singleS f.s=true):(0:Int)<((runes05 f.s).length:Int):=by
 have:=single_len h
 rw[runes_len];omega
theorem rfl_eq (f:Fn) (r:Rec):rfl_F f r=flt_F f r:=by
 unfold rfl_F flt_F
 cases hb:bothF (3:Int) f r != (0:Int) with
 | true=>rfl
 | false=>
  simp only[cond_false]
  cases h11:f.kind==(11:Int) with
  | true=>rfl
  | false=>
   simp only[cond_false]
   cases h12:f.kind==(12:Int) with
   | true=>
    simp only[cond_true]
    have hz:=both_zero hb
    have hk:f.kind=12:=by simpa using h12
    obtain ⟨c,hc,e1,e2⟩:=single_cs (text_single (chk3 hz.1).2.2 (.inl hk))
    have hv:=((chkR_iff r).1 hz.2).2
    have e3:((runes05 f.s).getD (0:Nat) eU.dflt).r=(c:Int):=by
     rw[r05_r0 f.s (by rw[e2];exact Nat.zero_lt_one),e2];rfl
    have e4:=valid_cs hv
    have e5:Lib.contains r.text.data.toList f.s.data.toList=decide (c∈rns (toL r.text)):=by
     show Lib.contains (toL r.text) (toL f.s)=_
     rw[e1,← has_enc hc (rns_sc (toL r.text)),← e4]
    rw[e3,eU.ag_eq,hasR_eq,e5]
   | false=>
    simp only[cond_false]
    rw[runes_len]
theorem rfl_si (f:Fn) (r:Rec) (h:f.s.size≤KB):rfl_side f r:=⟨h,fun hb=>by
 have hz:=both_zero hb
 have h64:=text_small hb
 exact ⟨by unfold KB;omega,fun hk=>by
  have:=num_mod (chk3 hz.1).2.1 (.inr (by simpa using hk))
  omega,fun _ hk=>⟨h,⟨Int.le_refl _,r05_pos (text_single (chk3 hz.1).2.2 (.inl (by simpa using hk)))⟩,by rw[eU.okL_eq];trivial,by
   rw[eU.ag_eq,runes_len,r06_len]
   have:=rns_len r.text
   rw[← r06_len]
   unfold KB;omega⟩⟩⟩
theorem rfl_ok:FnPure Tryd.prog 66 aFR dBE (fun g=>flt_F g.1 g.2) (fun g=>[g.1.s.size≤KB]):=pure_congr (rfl_okS _ fun g _ hp=>rfl_si g.1 g.2 (hp _ (List.mem_cons_self ..))) fun g _ _=>rfl_eq g.1 g.2
theorem puBE (r:Bool×Int):Pu (dBE.enc r):=pu_tup (pus_cons (pu_v _) (pus_cons (pu_v _) pus_nil))
noncomputable def tabE11:PTab Tryd.prog:=((tabD2.cons 65 (pconP aFR dBE (fun g=>flt_F g.1 g.2) (fun g=>[g.1.s.size≤KB])) (conP_ok flt_ok puBE)).cons 66 (pconP aFR dBE (fun g=>flt_F g.1 g.2) (fun g=>[g.1.s.size≤KB])) (conP_ok rfl_ok puBE)).cons 70 (pconP aLRR dBool (fun g=>decide (g.1=g.2)) (fun g=>[g.1.length≤KB])) (conP_ok sme_ok puB)
end Go.Proofs.YtmegbepjdololaaDoor

namespace Go.Proofs.YtmegbepjdololaaDoor
open Go.RowKit Go.Sx
set_option maxRecDepth 100000
set_option linter.unusedVariables false
end Go.Proofs.YtmegbepjdololaaDoor

namespace Go.Proofs.YtmegbepjdololaaDoor
open Go.RowKit Go.Sx Go.Lp
end Go.Proofs.YtmegbepjdololaaDoor

namespace Go.Proofs.YtmegbepjdololaaDoor
open Go.RowKit Go.Sx Go.Lp
structure Piece (f:Fn) (r p:Rec):Prop where
 key:p.key=r.key
 ne:p.text≠ByteArray.mk #[]
 part:∃ a u b:List Nat,rns (toL r.text)=a++u++b∧toL p.text=encs u∧(f.kind=22→∀ c:Nat,rune0 f.s=(c:Int)→c∉u)
end Go.Proofs.YtmegbepjdololaaDoor

namespace Go.Proofs.YtmegbepjdololaaDoor
open Go.RowKit Go.Sx
set_option maxRecDepth 100000
set_option linter.unusedVariables false
abbrev cor_G:Type:=List Int×Int×Int×Int×Int
noncomputable def cor_LP:LP 0 cor_G:=.pair (.slot 0 6 dLI) (.pair (.slot 0 7 dI) (.pair (.slot 0 3 dI) (.pair (.slot 0 8 dI) (.slot 0 2 dI))))
noncomputable def cor_R (xs:List Int) (n:Int) (z:Int) (i:Int) (r:Int):Ex×cor_G:=
 bif decide (i<n) then bif xs.getD i.toNat eI.dflt != z then (Ex.ret,eI.ag xs,n,z,i,xs.getD i.toNat eI.dflt) else (Ex.normal,eI.ag xs,n,z,IntKind.i64.wrap (i+(1:Int)),r)
 else (Ex.exit (0:Nat),eI.ag xs,n,z,i,r)
def cor_side (xs:List Int) (n:Int) (z:Int) (i:Int) (r:Int):Prop:=
 (decide (i<n)=true→((0:Int)≤i∧i<(↑xs.length:Int))∧((xs.getD i.toNat eI.dflt != z)=true→eI.okL xs)∧((xs.getD i.toNat eI.dflt != z)=false→eI.okL xs))∧(decide (i<n)=false→eI.okL xs)
theorem cor_one:((loopsOf Tryd.prog 89).filter fun c=>Nat.beq (lkey c) 3).length=1:=by kernel_rfl
abbrev cor_GC:Type:=List Int×Int×Int
abbrev cor_GB:Type:=Int
def cor_f (g:cor_G):Int×cor_GC×cor_GB:=(g.2.2.2.1,(g.1,g.2.1,g.2.2.1),g.2.2.2.2)
def cor_g (d:Int×cor_GC×cor_GB):cor_G:=(d.2.1.1,d.2.1.2.1,d.2.1.2.2,d.1,d.2.2)
theorem cor_es (g:cor_G):(cor_R g.1 g.2.1 g.2.2.1 g.2.2.2.1 g.2.2.2.2).1=.normal∨(cor_R g.1 g.2.1 g.2.2.1 g.2.2.2.1 g.2.2.2.2).1∈([.ret,.exit 0]:List Ex):=by
 unfold cor_R
 repeat' (first | (left;rfl) | (right;simp only[cond_true,cond_false];simp;done) | (rw[Bool.cond_eq_ite];split))
noncomputable abbrev cor_C (Inv:cor_G→List Prop) (m:cor_G→Nat):LCon:=loopR [.ret,.exit 0] (loopBody Tryd.prog 89 3) cor_LP [] 18 Inv (fun g=>cor_R g.1 g.2.1 g.2.2.1 g.2.2.2.1 g.2.2.2.2) m
theorem cor_loop (Inv:cor_G→List Prop) (m:cor_G→Nat) (hs:∀ g,allP (Inv g)→cor_side g.1 g.2.1 g.2.2.1 g.2.2.2.1 g.2.2.2.2) (hg:Goes (fun g:cor_G=>cor_R g.1 g.2.1 g.2.2.1 g.2.2.2.1 g.2.2.2.2) m fun g=>allP (Inv g)):∀ b∈loopsOf Tryd.prog 89,lkey b=3→LoopOk Tryd.prog b (cor_C Inv m).g:=loop_run (Γ:=(PTab.gamz tabE11 [] [])) (Λ:=noΛ) (PTab.okz tabE11 [] []) noΛ_ok 100 89 3 18 cor_LP [] Inv (fun g=>cor_R g.1 g.2.1 g.2.2.1 g.2.2.2.1 g.2.2.2.2) (fun g=>cor_side g.1 g.2.1 g.2.2.1 g.2.2.2.1 g.2.2.2.2) m default [.ret,.exit 0] cor_one (fun rd T B HL HB ds g=>by kernel_rfl) (fun rd T B HL HB ds g=>by kernel_rfl) hs hg cor_es
abbrev ixf_G:Type:=List Many×Unit×Int×Int×Int
noncomputable def ixf_LP:LP 0 ixf_G:=.pair (.slot 0 0 dLM) (.pair (.fix 0 1 (.fn 78 [])) (.pair (.slot 0 7 dI) (.pair (.slot 0 8 dI) (.slot 0 4 dI))))
noncomputable def ixf_R (xs:List Many) (_u:Unit) (n:Int) (i:Int) (r:Int):Ex×ixf_G:=
 bif decide (i<n) then bif chkR (xs.getD i.toNat eM.dflt).r != (0:Int) then (Ex.ret,eM.ag xs,(),n,i,i) else (Ex.normal,eM.ag xs,(),n,IntKind.i64.wrap (i+(1:Int)),r)
 else (Ex.exit (0:Nat),eM.ag xs,(),n,i,r)
def ixf_side (xs:List Many) (_u:Unit) (n:Int) (i:Int) (r:Int):Prop:=
 (decide (i<n)=true→((0:Int)≤i∧i<(↑xs.length:Int))∧((chkR (xs.getD i.toNat eM.dflt).r != (0:Int))=true→eM.okL xs)∧((chkR (xs.getD i.toNat eM.dflt).r != (0:Int))=false→eM.okL xs))∧(decide (i<n)=false→eM.okL xs)
theorem ixf_one:((loopsOf Tryd.prog 117).filter fun c=>Nat.beq (lkey c) 2).length=1:=by kernel_rfl
abbrev ixf_GC:Type:=List Many×Int
abbrev ixf_GB:Type:=Unit×Int
def ixf_f (g:ixf_G):Int×ixf_GC×ixf_GB:=(g.2.2.2.1,(g.1,g.2.2.1),(g.2.1,g.2.2.2.2))
def ixf_g (d:Int×ixf_GC×ixf_GB):ixf_G:=(d.2.1.1,d.2.2.1,d.2.1.2,d.1,d.2.2.2)
theorem ixf_es (g:ixf_G):(ixf_R g.1 g.2.1 g.2.2.1 g.2.2.2.1 g.2.2.2.2).1=.normal∨(ixf_R g.1 g.2.1 g.2.2.1 g.2.2.2.1 g.2.2.2.2).1∈([.ret,.exit 0]:List Ex):=by
 unfold ixf_R
 repeat' (first | (left;rfl) | (right;simp only[cond_true,cond_false];simp;done) | (rw[Bool.cond_eq_ite];split))
noncomputable abbrev ixf_C (Inv:ixf_G→List Prop) (m:ixf_G→Nat):LCon:=loopR [.ret,.exit 0] (loopBody Tryd.prog 117 2) ixf_LP [] 19 Inv (fun g=>ixf_R g.1 g.2.1 g.2.2.1 g.2.2.2.1 g.2.2.2.2) m
theorem ixf_loop (Inv:ixf_G→List Prop) (m:ixf_G→Nat) (hs:∀ g,allP (Inv g)→ixf_side g.1 g.2.1 g.2.2.1 g.2.2.2.1 g.2.2.2.2) (hg:Goes (fun g:ixf_G=>ixf_R g.1 g.2.1 g.2.2.1 g.2.2.2.1 g.2.2.2.2) m fun g=>allP (Inv g)):∀ b∈loopsOf Tryd.prog 117,lkey b=2→LoopOk Tryd.prog b (ixf_C Inv m).g:=loop_run (Γ:=(PTab.gamz tabE11 [] [])) (Λ:=noΛ) (PTab.okz tabE11 [] []) noΛ_ok 100 117 2 19 ixf_LP [] Inv (fun g=>ixf_R g.1 g.2.1 g.2.2.1 g.2.2.2.1 g.2.2.2.2) (fun g=>ixf_side g.1 g.2.1 g.2.2.1 g.2.2.2.1 g.2.2.2.2) m default [.ret,.exit 0] ixf_one (fun rd T B HL HB ds g=>by kernel_rfl) (fun rd T B HL HB ds g=>by kernel_rfl) hs hg ixf_es
noncomputable def rcm_F (a:Rec) (b:Rec):Dv.T dI:=
 bif decide (a.key<b.key) then (-1:Int)
 else bif decide (a.key > b.key) then (1:Int) else bif Op.bytesLess (ByteArray.toList a.text) (ByteArray.toList b.text) then (-1:Int) else bif !(Op.bytesLess (ByteArray.toList a.text) (ByteArray.toList b.text)||decide (a.text=b.text)) then (1:Int) else (0:Int)
theorem rcm_ok:FnPure Tryd.prog 48 aRR dI (fun g=>rcm_F g.1 g.2) (fun _=>[]):=pure_of_safe (Γ:=(PTab.gamz tabE11 [] [])) (Λ:=noΛ) (PTab.okz tabE11 [] []) noΛ_ok 100 default (fun g=>by kernel_rfl) (fun g=>by kernel_rfl)
noncomputable def tabG1:PTab Tryd.prog:=(tabE11).cons 48 (pconP aRR dI (fun g=>rcm_F g.1 g.2) (fun _=>[])) (conP_ok rcm_ok puI)
end Go.Proofs.YtmegbepjdololaaDoor

namespace Go.Proofs.YtmegbepjdololaaDoor
open Go.RowKit Go.Sx Go.Lp
set_option maxRecDepth 100000
noncomputable def cor_S (c:cor_GC) (b:cor_GB) (i:Int) (v:Int):Ex×cor_GB:=bif v != c.2.2 then (.ret,v) else (.normal,b)
def cor_K (c:cor_GC) (b:cor_GB) (i:Int):Prop:=True
abbrev cor_I (g:cor_G):List Prop:=ixI (fun c:cor_GC=>c.2.1) (fun c:cor_GC=>c.1) cor_K (cor_f g)
abbrev cor_M (g:cor_G):Nat:=ixM (fun c:cor_GC=>c.2.1) (cor_f g)
theorem cor_P:ixP cor_S (fun c:cor_GC=>c.1) cor_K:=fun _ _ _ _ h _ _=>h
noncomputable abbrev cor_RR (g:cor_G):Ex×cor_G:=cor_R g.1 g.2.1 g.2.2.1 g.2.2.2.1 g.2.2.2.2
theorem cor_RF (d:Int×cor_GC×cor_GB) (hi:allP (ixI (fun c:cor_GC=>c.2.1) (fun c:cor_GC=>c.1) cor_K d)):cor_RR (cor_g d)=((ixF 0 (fun c:cor_GC=>c.2.1) (fun c:cor_GC=>c.1) eI.dflt cor_S d).1,cor_g (ixF 0 (fun c:cor_GC=>c.2.1) (fun c:cor_GC=>c.1) eI.dflt cor_S d).2):=by
 obtain ⟨i,⟨xs,n,z⟩,r⟩:=d
 show cor_R xs n z i r=_
 unfold cor_R ixF cor_S
 simp only[El.ag_eq]
 cases decide (i<n) with
 | false=>rfl
 | true=>
  simp only[cond_true]
  generalize ((xs.getD i.toNat eI.dflt) != z)=z
  cases z <;> rfl
theorem cor_ok:∀ b∈loopsOf Tryd.prog 89,lkey b=3→LoopOk Tryd.prog b (cor_C cor_I cor_M).g:=by
 refine cor_loop cor_I cor_M (fun g hi=>?_) (ix_conj_goes (fun _=>rfl) (fun _=>rfl) cor_RF cor_P)
 obtain ⟨xs,n,z,i,r⟩:=g
 obtain ⟨h1,h2,h3,h4,h5⟩:=hi _ (List.mem_cons_self ..)
 have h1:n=(xs.length:Int):=h1
 have h3:0≤i:=h3
 have h5:True:=h5
 show cor_side xs n z i r
 unfold cor_side
 simp only[decide_eq_true_eq,decide_eq_false_iff_not]
 have k0:∀ e:Nat,e<xs.length→eI.Ok (eI.els xs e):=fun e _=>eI.ok_els xs e
 clear hi
 repeat' (first | exact k0 | apply And.intro | intro _)
 all_goals omega
theorem cor_run (c:cor_GC) (b:cor_GB) (k1:c.2.1=((c.1).length:Int)) (k2:(c.1).length≤maxLen) (k3:cor_K c b 0):loopF cor_RR cor_M (cor_g (0,c,b))=((scan 0 (cor_S c) 0 (c.1) b).1,cor_g ((scan 0 (cor_S c) 0 (c.1) b).2.1,c,(scan 0 (cor_S c) 0 (c.1) b).2.2)):=ix_conj_run (φ:=cor_f) (ψ:=cor_g) (fun _=>rfl) (fun _=>rfl) cor_RF cor_P c b k1 k2 k3
noncomputable def ixf_S (c:ixf_GC) (b:ixf_GB) (i:Int) (v:Many):Ex×ixf_GB:=bif chkR v.r != (0:Int) then (.ret,(),i) else (.normal,b.1,b.2)
def ixf_K (c:ixf_GC) (b:ixf_GB) (i:Int):Prop:=True
abbrev ixf_I (g:ixf_G):List Prop:=ixI (fun c:ixf_GC=>c.2) (fun c:ixf_GC=>c.1) ixf_K (ixf_f g)
abbrev ixf_M (g:ixf_G):Nat:=ixM (fun c:ixf_GC=>c.2) (ixf_f g)
theorem ixf_P:ixP ixf_S (fun c:ixf_GC=>c.1) ixf_K:=fun _ _ _ _ h _ _=>h
noncomputable abbrev ixf_RR (g:ixf_G):Ex×ixf_G:=ixf_R g.1 g.2.1 g.2.2.1 g.2.2.2.1 g.2.2.2.2
theorem ixf_RF (d:Int×ixf_GC×ixf_GB) (hi:allP (ixI (fun c:ixf_GC=>c.2) (fun c:ixf_GC=>c.1) ixf_K d)):ixf_RR (ixf_g d)=((ixF 0 (fun c:ixf_GC=>c.2) (fun c:ixf_GC=>c.1) eM.dflt ixf_S d).1,ixf_g (ixF 0 (fun c:ixf_GC=>c.2) (fun c:ixf_GC=>c.1) eM.dflt ixf_S d).2):=by
 obtain ⟨i,⟨xs,n⟩,⟨⟨⟩,r⟩⟩:=d
 show ixf_R xs () n i r=_
 unfold ixf_R ixF ixf_S
 simp only[El.ag_eq]
 cases decide (i<n) with
 | false=>rfl
 | true=>
  simp only[cond_true]
  generalize (chkR (xs.getD i.toNat eM.dflt).r != (0:Int))=z
  cases z <;> rfl
theorem ixf_ok:∀ b∈loopsOf Tryd.prog 117,lkey b=2→LoopOk Tryd.prog b (ixf_C ixf_I ixf_M).g:=by
 refine ixf_loop ixf_I ixf_M (fun g hi=>?_) (ix_conj_goes (fun _=>rfl) (fun _=>rfl) ixf_RF ixf_P)
 obtain ⟨xs,⟨⟩,n,i,r⟩:=g
 obtain ⟨h1,h2,h3,h4,h5⟩:=hi _ (List.mem_cons_self ..)
 have h1:n=(xs.length:Int):=h1
 have h3:0≤i:=h3
 have h5:True:=h5
 show ixf_side xs () n i r
 unfold ixf_side
 simp only[decide_eq_true_eq,decide_eq_false_iff_not]
 have k0:∀ e:Nat,e<xs.length→eM.Ok (eM.els xs e):=fun e _=>eM.ok_els xs e
 clear hi
 repeat' (first | exact k0 | apply And.intro | intro _)
 all_goals omega
theorem ixf_run (c:ixf_GC) (b:ixf_GB) (k1:c.2=((c.1).length:Int)) (k2:(c.1).length≤maxLen) (k3:ixf_K c b 0):loopF ixf_RR ixf_M (ixf_g (0,c,b))=((scan 0 (ixf_S c) 0 (c.1) b).1,ixf_g ((scan 0 (ixf_S c) 0 (c.1) b).2.1,c,(scan 0 (ixf_S c) 0 (c.1) b).2.2)):=ix_conj_run (φ:=ixf_f) (ψ:=ixf_g) (fun _=>rfl) (fun _=>rfl) ixf_RF ixf_P c b k1 k2 k3
noncomputable def ltG2:LTab Tryd.prog:=((LTab.nil.cons 89 3 (cor_C cor_I cor_M) cor_ok).cons 117 2 (ixf_C ixf_I ixf_M) ixf_ok)
noncomputable abbrev lamG2:Lam:=ltG2.lam
theorem lamG2_ok:∀ f k L,lamG2 f k=some L→∀ b∈loopsOf Tryd.prog f,lkey b=k→LoopOk Tryd.prog b L.g:=ltG2.ok
end Go.Proofs.YtmegbepjdololaaDoor

namespace Go.Proofs.YtmegbepjdololaaDoor
open Go.RowKit Go.Sx
set_option maxRecDepth 100000
set_option linter.unusedVariables false
abbrev aLI:DA (List Int):=.one dLI
noncomputable def coo_q1 (xs:List Int):Ex ×
 cor_G:=
 loopF (fun g=>cor_R g.fst g.snd.fst g.snd.snd.fst g.snd.snd.snd.fst g.snd.snd.snd.snd) cor_M (eI.ag xs,(↑xs.length:Int),(0:Int),(0:Int),(0:Int))
noncomputable def coo_F (xs:List Int):Dv.T dI:=
 bif exB Ex.ret (coo_q1 xs).fst then (coo_q1 xs).snd.snd.snd.snd.snd else (coo_q1 xs).snd.snd.snd.fst
def coo_side (xs:List Int):Prop:=
 eI.okL xs∧Lp.ixJ (fun c=>c.snd.fst) (fun c=>c.fst) cor_K (cor_f (eI.ag xs,(↑xs.length:Int),(0:Int),(0:Int),(0:Int)))
theorem coo_okS (pre:DA.T aLI→List Prop) (h:∀ g,DA.bd aLI g→(∀ p∈pre g,p)→coo_side g):FnPure Tryd.prog 89 aLI dI (fun g=>coo_F g) pre:=pure_of_sideS (Γ:=(PTab.gamz tabG1 [] [])) (Λ:=lamG2) (PTab.okz tabG1 [] []) lamG2_ok 100 default (fun g=>coo_side g) (fun g=>by kernel_rfl) (fun g=>by kernel_rfl) h
end Go.Proofs.YtmegbepjdololaaDoor

namespace Go.Proofs.YtmegbepjdololaaDoor
open Go.RowKit Go.Sx Go.Lp
@[irreducible] def orF (xs:List Int):Int:=(xs.find? (· != (0:Int))).getD 0
theorem coo_ok:FnPure Tryd.prog 89 aLI dI orF (fun g=>[g.length≤KB]):=
 pure_congr (coo_okS _ fun a _ hp=>by
  have h:a.length≤KB:=hp _ (List.mem_cons_self ..)
  unfold KB at h
  show coo_side a
  unfold coo_side
  rw[eI.okL_eq,eI.ag_eq]
  exact ⟨trivial,rfl,by show a.length≤maxLen;unfold maxLen;omega,Int.le_refl _,by show (0:Int)≤(a.length:Int);omega,trivial⟩) fun a _ hp=>by
  have h:a.length≤KB:=hp _ (List.mem_cons_self ..)
  unfold KB at h
  have hrun:=cor_run (a,(a.length:Int),0) 0 rfl (by show a.length≤maxLen;unfold maxLen;omega) trivial
  have hq:coo_q1 a=loopF cor_RR cor_M (cor_g (0,(a,(a.length:Int),0),0)):=by
   unfold coo_q1
   rw[eI.ag_eq]
   rfl
  show coo_F a=orF a
  unfold coo_F orF
  rw[hq,hrun]
  rcases scan_any (x:=0) (st:=cor_S (a,(a.length:Int),0)) (p:=fun v=>v != (0:Int)) (r:=fun v _=>v) (e:=.ret) (by intro h;cases h) (fun b i a=>rfl) a 0 0 with ⟨_,v,_,_,h3,h4,h5⟩ | ⟨h1,hs⟩
  ·rw[h3]
   show (bif exB Ex.ret (scan 0 (cor_S (a,(a.length:Int),0)) 0 a 0).1 then (scan 0 (cor_S (a,(a.length:Int),0)) 0 a 0).2.2 else _)=_
   rw[h4,h5]
   rfl
  ·rw[hs]
   have:a.find? (· != (0:Int))=none:=by
    rw[List.find?_eq_none]
    intro x hx hb
    have:a.any (fun v=>v != (0:Int))=true:=List.any_eq_true.2 ⟨x,hx,hb⟩
    rw[h1] at this
    cases this
   rw[this]
   rfl
abbrev aLIB:DA (List Int):=.one (.listB eI)
theorem coo_okB:FnPure Tryd.prog 89 aLIB dI orF (fun g=>[g.length≤KB]):=coo_ok
noncomputable def tabG4:PTab Tryd.prog:=(tabG1.cons 89 (pconP aLIB dI orF (fun g=>[g.length≤KB])) (conP_ok coo_okB puI))
end Go.Proofs.YtmegbepjdololaaDoor

namespace Go.Proofs.YtmegbepjdololaaDoor
open Go.RowKit Go.Sx
set_option maxRecDepth 100000
set_option linter.unusedVariables false
noncomputable def cmr_F (a:Rec) (b:Rec):Dv.T dI:=
 orF [cmp64_F a.key b.key,Lib.compareBytes a.text.data.toList b.text.data.toList]
def cmr_side (a:Rec) (b:Rec):Prop:=
 (2:Nat)≤KB
theorem cmr_okS (pre:DA.T aRR→List Prop) (h:∀ g,DA.bd aRR g→(∀ p∈pre g,p)→cmr_side g.1 g.2):FnPure Tryd.prog 47 aRR dI (fun g=>cmr_F g.1 g.2) pre:=pure_of_sideS (Γ:=(PTab.gamz tabG4 [] [])) (Λ:=noΛ) (PTab.okz tabG4 [] []) noΛ_ok 100 default (fun g=>cmr_side g.1 g.2) (fun g=>by kernel_rfl) (fun g=>by kernel_rfl) h
end Go.Proofs.YtmegbepjdololaaDoor

namespace Go.Proofs.YtmegbepjdololaaDoor
open Go.RowKit Go.Sx Go.Lp
theorem bl_eq:∀ (x y:List UInt8),Op.bytesLess x y=decide (x<y)
 | [],[]=>by simp[Op.bytesLess]
 | _ :: _,[]=>by simp[Op.bytesLess]
 | [],_ :: _=>by simp[Op.bytesLess]
 | a :: x,b :: y=>by
  rw[Op.bytesLess,bl_eq x y]
  simp only[List.cons_lt_cons_iff]
  by_cases h1:a<b <;> by_cases h2:a=b <;> by_cases h3:x<y <;> simp[h1,h2,h3]
theorem cb_eq:∀ (x y:List UInt8),Lib.compareBytes x y=if x<y then -1 else if x=y then 0 else 1
 | [],[]=>by simp[Lib.compareBytes]
 | _ :: _,[]=>by simp[Lib.compareBytes]
 | [],_ :: _=>by simp[Lib.compareBytes]
 | a :: x,b :: y=>by
  rw[Lib.compareBytes,cb_eq x y]
  simp only[List.cons_lt_cons_iff,List.cons.injEq]
  by_cases h1:a<b
  ·simp[h1]
  ·by_cases h2:b<a
   ·have h3:a≠b:=fun h=>by subst h;exact h1 h2
    simp[h1,h2,h3]
   ·have h3:a=b:=UInt8.le_antisymm (UInt8.not_lt.1 h2) (UInt8.not_lt.1 h1)
    subst h3
    simp[h1]
def tlt (a b:BA):Prop:=toL a<toL b
instance (a b:BA):Decidable (tlt a b):=inferInstanceAs (Decidable (toL a<toL b))
theorem tlt_irrefl (a:BA):¬ tlt a a:=List.lt_irrefl _
theorem tlt_trans {a b c:BA} (h:tlt a b) (h':tlt b c):tlt a c:=List.lt_trans h h'
theorem tlt_asymm {a b:BA} (h:tlt a b):¬ tlt b a:=fun h'=>tlt_irrefl _ (tlt_trans h h')
theorem bl_tlt (a b:BA):Op.bytesLess (ByteArray.toList a) (ByteArray.toList b)=decide (tlt a b):=by
 rw[bl_eq,Lib.toList_data,Lib.toList_data]
 rfl
def rlt (a b:Rec):Prop:=a.key<b.key∨(a.key=b.key∧tlt a.text b.text)
instance (a b:Rec):Decidable (rlt a b):=inferInstanceAs (Decidable (_∨_))
def cmpR (a b:Rec):Int:=if rlt a b then -1 else if a=b then 0 else 1
theorem rec_ext' {a b:Rec} (h1:a.key=b.key) (h2:a.text=b.text):a=b:=by
 obtain ⟨k,t⟩:=a
 obtain ⟨k',t'⟩:=b
 simp only at h1 h2
 rw[h1,h2]
theorem cmpR_lt {a b:Rec} (h:rlt a b):cmpR a b=-1:=by unfold cmpR;rw[if_pos h]
theorem cmpR_same {a b:Rec} (h:¬ rlt a b) (h':a=b):cmpR a b=0:=by unfold cmpR;rw[if_neg h,if_pos h']
theorem cmpR_gt {a b:Rec} (h:¬ rlt a b) (h':a≠b):cmpR a b=1:=by unfold cmpR;rw[if_neg h,if_neg h']
theorem rlt_no {a b:Rec} (h:¬ a.key<b.key) (h':a.key=b.key→¬ tlt a.text b.text):¬ rlt a b:=by
 rintro (h1 | ⟨h1,h2⟩)
 ·exact h h1
 ·exact h' h1 h2
theorem rcm_eq (a b:Rec):rcm_F a b=cmpR a b:=by
 unfold rcm_F
 rw[bl_tlt]
 by_cases h1:a.key<b.key
 ·rw[decide_eq_true h1,cond_true,cmpR_lt (.inl h1)]
 rw[decide_eq_false h1,cond_false]
 by_cases h2:a.key > b.key
 ·have h3:a≠b:=fun h=>by subst h;omega
  rw[decide_eq_true h2,cond_true,cmpR_gt (rlt_no h1 fun h=>by omega) h3]
 have hk:a.key=b.key:=by omega
 rw[decide_eq_false h2,cond_false]
 by_cases h3:tlt a.text b.text
 ·rw[decide_eq_true h3,cond_true,cmpR_lt (.inr ⟨hk,h3⟩)]
 rw[decide_eq_false h3,cond_false,Bool.false_or]
 by_cases h4:a.text=b.text
 ·rw[decide_eq_true h4,cmpR_same (rlt_no h1 fun _=>h3) (rec_ext' hk h4)];rfl
 ·rw[decide_eq_false h4,cmpR_gt (rlt_no h1 fun _=>h3) (fun h=>h4 (by rw[h]))];rfl
theorem toL_iff (a b:BA):toL a=toL b↔a=b:=⟨toL_inj,fun h=>by rw[h]⟩
theorem orF_two (a b:Int):orF [a,b]=if a≠0 then a else b:=by
 unfold orF
 by_cases h:a=0
 ·subst h
  by_cases h':b=0
  ·subst h';rfl
  ·have e:(b != (0:Int))=true:=bne_iff_ne.2 h'
   simp[List.find?,e]
 ·have e:(a != (0:Int))=true:=bne_iff_ne.2 h
  simp[List.find?,e,h]
theorem cmr_eq (a b:Rec):cmr_F a b=cmpR a b:=by
 unfold cmr_F
 have e:Lib.compareBytes a.text.data.toList b.text.data.toList=if tlt a.text b.text then -1 else if a.text=b.text then 0 else 1:=by
  rw[cb_eq]
  show (if toL a.text<toL b.text then (-1:Int) else if toL a.text=toL b.text then 0 else 1)=_
  simp only[toL_iff]
  rfl
 have e2:cmp64_F a.key b.key=if a.key<b.key then -1 else if a.key > b.key then 1 else 0:=by
  unfold cmp64_F
  simp only[bne_self_eq_false,cond_false,Bool.cond_eq_ite,decide_eq_true_eq,Bool.false_eq_true,if_false]
 rw[e,e2,orF_two]
 by_cases h1:a.key<b.key
 ·rw[if_pos h1,if_pos (by decide),cmpR_lt (.inl h1)]
 by_cases h2:a.key > b.key
 ·have h3:a≠b:=fun h=>by subst h;omega
  rw[if_neg h1,if_pos h2,if_pos (by decide),cmpR_gt (rlt_no h1 fun h=>by omega) h3]
 have hk:a.key=b.key:=by omega
 rw[if_neg h1,if_neg h2,if_neg (by decide)]
 by_cases h3:tlt a.text b.text
 ·rw[if_pos h3,cmpR_lt (.inr ⟨hk,h3⟩)]
 rw[if_neg h3]
 by_cases h4:a.text=b.text
 ·rw[if_pos h4,cmpR_same (rlt_no h1 fun _=>h3) (rec_ext' hk h4)]
 ·rw[if_neg h4,cmpR_gt (rlt_no h1 fun _=>h3) (fun h=>h4 (by rw[h]))]
theorem cmr_ok:FnPure Tryd.prog 47 aRR dI (fun g=>cmpR g.1 g.2) (fun _=>[]):=
 pure_congr (cmr_okS _ fun _ _ _=>by show 2≤KB;unfold KB;omega) fun g _ _=>cmr_eq g.1 g.2
theorem rcm_ok':FnPure Tryd.prog 48 aRR dI (fun g=>cmpR g.1 g.2) (fun _=>[]):=
 pure_congr rcm_ok fun g _ _=>rcm_eq g.1 g.2
noncomputable def tabG6:PTab Tryd.prog:=(tabE11.cons 47 (pconP aRR dI (fun g=>cmpR g.1 g.2) (fun _=>[])) (conP_ok cmr_ok puI)).cons 48 (pconP aRR dI (fun g=>cmpR g.1 g.2) (fun _=>[])) (conP_ok rcm_ok' puI)
end Go.Proofs.YtmegbepjdololaaDoor

namespace Go.Proofs.YtmegbepjdololaaDoor
open Go.RowKit Go.Sx
set_option maxRecDepth 100000
set_option linter.unusedVariables false
abbrev cbg_G:Type:=List Many×List Many×Int×Int×Int
noncomputable def cbg_LP:LP 0 cbg_G:=.pair (.slot 0 0 dLM) (.pair (.slot 0 7 dLM) (.pair (.slot 0 8 dI) (.pair (.slot 0 9 dI) (.slot 0 2 dI))))
noncomputable def cbg_R (xs:List Many) (ys:List Many) (n:Int) (i:Int) (r:Int):Ex×cbg_G:=
 bif decide (i<n) then bif decide ((ys.getD i.toNat eM.dflt).n<(1:Int))||(decide ((ys.getD i.toNat eM.dflt).n > (1048576:Int))||decide (i > (0:Int))&&decide (cmpR (xs.getD (IntKind.i64.wrap (i - (1:Int))).toNat eM.dflt).r (ys.getD i.toNat eM.dflt).r≥(0:Int))) then (Ex.ret,eM.ag xs,eM.ag ys,n,i,(51:Int)) else (Ex.normal,eM.ag xs,eM.ag ys,n,IntKind.i64.wrap (i+(1:Int)),r)
 else (Ex.exit (0:Nat),eM.ag xs,eM.ag ys,n,i,r)
def cbg_side (xs:List Many) (ys:List Many) (n:Int) (i:Int) (r:Int):Prop:=
 (decide (i<n)=true→((0:Int)≤i∧i<(↑ys.length:Int))∧((!decide ((ys.getD i.toNat eM.dflt).n<(1:Int)))=true→(!decide ((ys.getD i.toNat eM.dflt).n > (1048576:Int)))=true→decide (i > (0:Int))=true→(0:Int)≤IntKind.i64.wrap (i - (1:Int))∧IntKind.i64.wrap (i - (1:Int))<(↑xs.length:Int))∧((decide ((ys.getD i.toNat eM.dflt).n<(1:Int))||(decide ((ys.getD i.toNat eM.dflt).n > (1048576:Int))||decide (i > (0:Int))&&decide (cmpR (xs.getD (IntKind.i64.wrap (i - (1:Int))).toNat eM.dflt).r (ys.getD i.toNat eM.dflt).r≥(0:Int))))=true→eM.okL xs∧eM.okL ys)∧((decide ((ys.getD i.toNat eM.dflt).n<(1:Int))||(decide ((ys.getD i.toNat eM.dflt).n > (1048576:Int))||decide (i > (0:Int))&&decide (cmpR (xs.getD (IntKind.i64.wrap (i - (1:Int))).toNat eM.dflt).r (ys.getD i.toNat eM.dflt).r≥(0:Int))))=false→eM.okL xs∧eM.okL ys))∧(decide (i<n)=false→eM.okL xs∧eM.okL ys)
theorem cbg_one:((loopsOf Tryd.prog 35).filter fun c=>Nat.beq (lkey c) 4).length=1:=by kernel_rfl
abbrev cbg_GC:Type:=List Many×List Many×Int
abbrev cbg_GB:Type:=Int
def cbg_f (g:cbg_G):Int×cbg_GC×cbg_GB:=(g.2.2.2.1,(g.1,g.2.1,g.2.2.1),g.2.2.2.2)
def cbg_g (d:Int×cbg_GC×cbg_GB):cbg_G:=(d.2.1.1,d.2.1.2.1,d.2.1.2.2,d.1,d.2.2)
theorem cbg_es (g:cbg_G):(cbg_R g.1 g.2.1 g.2.2.1 g.2.2.2.1 g.2.2.2.2).1=.normal∨(cbg_R g.1 g.2.1 g.2.2.1 g.2.2.2.1 g.2.2.2.2).1∈([.ret,.exit 0]:List Ex):=by
 unfold cbg_R
 repeat' (first | (left;rfl) | (right;simp only[cond_true,cond_false];simp;done) | (rw[Bool.cond_eq_ite];split))
noncomputable abbrev cbg_C (Inv:cbg_G→List Prop) (m:cbg_G→Nat):LCon:=loopR [.ret,.exit 0] (loopBody Tryd.prog 35 4) cbg_LP [] 39 Inv (fun g=>cbg_R g.1 g.2.1 g.2.2.1 g.2.2.2.1 g.2.2.2.2) m
theorem cbg_loop (Inv:cbg_G→List Prop) (m:cbg_G→Nat) (hs:∀ g,allP (Inv g)→cbg_side g.1 g.2.1 g.2.2.1 g.2.2.2.1 g.2.2.2.2) (hg:Goes (fun g:cbg_G=>cbg_R g.1 g.2.1 g.2.2.1 g.2.2.2.1 g.2.2.2.2) m fun g=>allP (Inv g)):∀ b∈loopsOf Tryd.prog 35,lkey b=4→LoopOk Tryd.prog b (cbg_C Inv m).g:=loop_run (Γ:=(PTab.gamz tabG6 [] [])) (Λ:=lamG2) (PTab.okz tabG6 [] []) lamG2_ok 100 35 4 39 cbg_LP [] Inv (fun g=>cbg_R g.1 g.2.1 g.2.2.1 g.2.2.2.1 g.2.2.2.2) (fun g=>cbg_side g.1 g.2.1 g.2.2.1 g.2.2.2.1 g.2.2.2.2) m default [.ret,.exit 0] cbg_one (fun rd T B HL HB ds g=>by kernel_rfl) (fun rd T B HL HB ds g=>by kernel_rfl) hs hg cbg_es
abbrev bga_G:Type:=List Many×Int×Int
noncomputable def bga_LP:LP 0 bga_G:=.pair (.slot 0 0 dLM) (.pair (.slot 0 3 dI) (.slot 0 2 dI))
noncomputable def bga_R (xs:List Many) (i:Int) (r:Int):Ex×bga_G:=
 bif decide (i<(↑xs.length:Int)) then bif chkR (xs.getD i.toNat eM.dflt).r != (0:Int) then (Ex.ret,eM.ag xs,i,chkR (xs.getD i.toNat eM.dflt).r) else (Ex.normal,eM.ag xs,IntKind.i64.wrap (i+(1:Int)),r)
 else (Ex.exit (0:Nat),eM.ag xs,i,r)
def bga_side (xs:List Many) (i:Int) (r:Int):Prop:=
 (decide (i<(↑xs.length:Int))=true→((0:Int)≤i∧i<(↑xs.length:Int))∧((chkR (xs.getD i.toNat eM.dflt).r != (0:Int))=true→eM.okL xs)∧((chkR (xs.getD i.toNat eM.dflt).r != (0:Int))=false→eM.okL xs))∧(decide (i<(↑xs.length:Int))=false→eM.okL xs)
theorem bga_one:((loopsOf Tryd.prog 36).filter fun c=>Nat.beq (lkey c) 2).length=1:=by kernel_rfl
abbrev bga_GC:Type:=List Many
abbrev bga_GB:Type:=Int
def bga_f (g:bga_G):Int×bga_GC×bga_GB:=(g.2.1,g.1,g.2.2)
def bga_g (d:Int×bga_GC×bga_GB):bga_G:=(d.2.1,d.1,d.2.2)
theorem bga_es (g:bga_G):(bga_R g.1 g.2.1 g.2.2).1=.normal∨(bga_R g.1 g.2.1 g.2.2).1∈([.ret,.exit 0]:List Ex):=by
 unfold bga_R
 repeat' (first | (left;rfl) | (right;simp only[cond_true,cond_false];simp;done) | (rw[Bool.cond_eq_ite];split))
noncomputable abbrev bga_C (Inv:bga_G→List Prop) (m:bga_G→Nat):LCon:=loopR [.ret,.exit 0] (loopBody Tryd.prog 36 2) bga_LP [] 60 Inv (fun g=>bga_R g.1 g.2.1 g.2.2) m
theorem bga_loop (Inv:bga_G→List Prop) (m:bga_G→Nat) (hs:∀ g,allP (Inv g)→bga_side g.1 g.2.1 g.2.2) (hg:Goes (fun g:bga_G=>bga_R g.1 g.2.1 g.2.2) m fun g=>allP (Inv g)):∀ b∈loopsOf Tryd.prog 36,lkey b=2→LoopOk Tryd.prog b (bga_C Inv m).g:=loop_run (Γ:=(PTab.gamz tabG6 [] [])) (Λ:=lamG2) (PTab.okz tabG6 [] []) lamG2_ok 100 36 2 60 bga_LP [] Inv (fun g=>bga_R g.1 g.2.1 g.2.2) (fun g=>bga_side g.1 g.2.1 g.2.2) m default [.ret,.exit 0] bga_one (fun rd T B HL HB ds g=>by kernel_rfl) (fun rd T B HL HB ds g=>by kernel_rfl) hs hg bga_es
abbrev bgb_G:Type:=List Many×Int×Int
noncomputable def bgb_LP:LP 0 bgb_G:=.pair (.slot 0 0 dLM) (.pair (.slot 0 5 dI) (.slot 0 2 dI))
noncomputable def bgb_R (xs:List Many) (i:Int) (r:Int):Ex×bgb_G:=
 bif decide (i<(↑xs.length:Int)) then bif decide ((xs.getD i.toNat eM.dflt).n<(1:Int))||(decide ((xs.getD i.toNat eM.dflt).n > (1048576:Int))||decide (i > (0:Int))&&decide (cmpR (xs.getD (IntKind.i64.wrap (i - (1:Int))).toNat eM.dflt).r (xs.getD i.toNat eM.dflt).r≥(0:Int))) then (Ex.ret,eM.ag xs,i,(51:Int)) else (Ex.normal,eM.ag xs,IntKind.i64.wrap (i+(1:Int)),r)
 else (Ex.exit (2:Nat),eM.ag xs,i,r)
def bgb_side (xs:List Many) (i:Int) (r:Int):Prop:=
 (decide (i<(↑xs.length:Int))=true→((0:Int)≤i∧i<(↑xs.length:Int))∧((!decide ((xs.getD i.toNat eM.dflt).n<(1:Int)))=true→(0:Int)≤i∧i<(↑xs.length:Int))∧((!decide ((xs.getD i.toNat eM.dflt).n<(1:Int)))=true→(!decide ((xs.getD i.toNat eM.dflt).n > (1048576:Int)))=true→decide (i > (0:Int))=true→(0:Int)≤IntKind.i64.wrap (i - (1:Int))∧IntKind.i64.wrap (i - (1:Int))<(↑xs.length:Int))∧((!decide ((xs.getD i.toNat eM.dflt).n<(1:Int)))=true→(!decide ((xs.getD i.toNat eM.dflt).n > (1048576:Int)))=true→decide (i > (0:Int))=true→(0:Int)≤i∧i<(↑xs.length:Int))∧((decide ((xs.getD i.toNat eM.dflt).n<(1:Int))||(decide ((xs.getD i.toNat eM.dflt).n > (1048576:Int))||decide (i > (0:Int))&&decide (cmpR (xs.getD (IntKind.i64.wrap (i - (1:Int))).toNat eM.dflt).r (xs.getD i.toNat eM.dflt).r≥(0:Int))))=true→eM.okL xs)∧((decide ((xs.getD i.toNat eM.dflt).n<(1:Int))||(decide ((xs.getD i.toNat eM.dflt).n > (1048576:Int))||decide (i > (0:Int))&&decide (cmpR (xs.getD (IntKind.i64.wrap (i - (1:Int))).toNat eM.dflt).r (xs.getD i.toNat eM.dflt).r≥(0:Int))))=false→eM.okL xs))∧(decide (i<(↑xs.length:Int))=false→eM.okL xs)
theorem bgb_one:((loopsOf Tryd.prog 36).filter fun c=>Nat.beq (lkey c) 8).length=1:=by kernel_rfl
abbrev bgb_GC:Type:=List Many
abbrev bgb_GB:Type:=Int
def bgb_f (g:bgb_G):Int×bgb_GC×bgb_GB:=(g.2.1,g.1,g.2.2)
def bgb_g (d:Int×bgb_GC×bgb_GB):bgb_G:=(d.2.1,d.1,d.2.2)
theorem bgb_es (g:bgb_G):(bgb_R g.1 g.2.1 g.2.2).1=.normal∨(bgb_R g.1 g.2.1 g.2.2).1∈([.ret,.exit 2]:List Ex):=by
 unfold bgb_R
 repeat' (first | (left;rfl) | (right;simp only[cond_true,cond_false];simp;done) | (rw[Bool.cond_eq_ite];split))
noncomputable abbrev bgb_C (Inv:bgb_G→List Prop) (m:bgb_G→Nat):LCon:=loopR [.ret,.exit 2] (loopBody Tryd.prog 36 8) bgb_LP [] 60 Inv (fun g=>bgb_R g.1 g.2.1 g.2.2) m
theorem bgb_loop (Inv:bgb_G→List Prop) (m:bgb_G→Nat) (hs:∀ g,allP (Inv g)→bgb_side g.1 g.2.1 g.2.2) (hg:Goes (fun g:bgb_G=>bgb_R g.1 g.2.1 g.2.2) m fun g=>allP (Inv g)):∀ b∈loopsOf Tryd.prog 36,lkey b=8→LoopOk Tryd.prog b (bgb_C Inv m).g:=loop_run (Γ:=(PTab.gamz tabG6 [] [])) (Λ:=lamG2) (PTab.okz tabG6 [] []) lamG2_ok 100 36 8 60 bgb_LP [] Inv (fun g=>bgb_R g.1 g.2.1 g.2.2) (fun g=>bgb_side g.1 g.2.1 g.2.2) m default [.ret,.exit 2] bgb_one (fun rd T B HL HB ds g=>by kernel_rfl) (fun rd T B HL HB ds g=>by kernel_rfl) hs hg bgb_es
end Go.Proofs.YtmegbepjdololaaDoor

namespace Go.Proofs.YtmegbepjdololaaDoor
open Go.RowKit Go.Sx Go.Lp
set_option maxRecDepth 100000
noncomputable def cbg_S (c:cbg_GC) (b:cbg_GB) (i:Int) (v:Many):Ex×cbg_GB:=bif decide (v.n<(1:Int))||(decide (v.n > (1048576:Int))||decide (i > (0:Int))&&decide (cmpR (c.1.getD (IntKind.i64.wrap (i - (1:Int))).toNat eM.dflt).r v.r≥(0:Int))) then (.ret,(51:Int)) else (.normal,b)
def cbg_K (c:cbg_GC) (b:cbg_GB) (i:Int):Prop:=c.1.length=c.2.1.length
abbrev cbg_I (g:cbg_G):List Prop:=ixI (fun c:cbg_GC=>c.2.2) (fun c:cbg_GC=>c.2.1) cbg_K (cbg_f g)
abbrev cbg_M (g:cbg_G):Nat:=ixM (fun c:cbg_GC=>c.2.2) (cbg_f g)
theorem cbg_P:ixP cbg_S (fun c:cbg_GC=>c.2.1) cbg_K:=fun _ _ _ _ h _ _=>h
noncomputable abbrev cbg_RR (g:cbg_G):Ex×cbg_G:=cbg_R g.1 g.2.1 g.2.2.1 g.2.2.2.1 g.2.2.2.2
theorem cbg_RF (d:Int×cbg_GC×cbg_GB) (hi:allP (ixI (fun c:cbg_GC=>c.2.2) (fun c:cbg_GC=>c.2.1) cbg_K d)):cbg_RR (cbg_g d)=((ixF 0 (fun c:cbg_GC=>c.2.2) (fun c:cbg_GC=>c.2.1) eM.dflt cbg_S d).1,cbg_g (ixF 0 (fun c:cbg_GC=>c.2.2) (fun c:cbg_GC=>c.2.1) eM.dflt cbg_S d).2):=by
 obtain ⟨i,⟨xs,ys,n⟩,r⟩:=d
 show cbg_R xs ys n i r=_
 unfold cbg_R ixF cbg_S
 simp only[El.ag_eq]
 cases decide (i<n) with
 | false=>rfl
 | true=>
  simp only[cond_true]
  generalize (decide ((ys.getD i.toNat eM.dflt).n<(1:Int))||(decide ((ys.getD i.toNat eM.dflt).n > (1048576:Int))||decide (i > (0:Int))&&decide (cmpR (xs.getD (IntKind.i64.wrap (i - (1:Int))).toNat eM.dflt).r (ys.getD i.toNat eM.dflt).r≥(0:Int))))=z
  cases z <;> rfl
theorem cbg_ok:∀ b∈loopsOf Tryd.prog 35,lkey b=4→LoopOk Tryd.prog b (cbg_C cbg_I cbg_M).g:=by
 refine cbg_loop cbg_I cbg_M (fun g hi=>?_) (ix_conj_goes (fun _=>rfl) (fun _=>rfl) cbg_RF cbg_P)
 obtain ⟨xs,ys,n,i,r⟩:=g
 obtain ⟨h1,h2,h3,h4,h5⟩:=hi _ (List.mem_cons_self ..)
 have h1:n=(ys.length:Int):=h1
 have h3:0≤i:=h3
 have h5:xs.length=ys.length:=h5
 have h2':ys.length≤maxLen:=h2
 have h2:ys.length≤9223372036854775807:=by unfold maxLen at h2';omega
 have h4:i≤(ys.length:Int):=h4
 have w1:0<i→IntKind.i64.wrap (i - (1:Int))=i - 1:=fun h=>Lp.wr (by omega)
 show cbg_side xs ys n i r
 unfold cbg_side
 simp only[decide_eq_true_eq,decide_eq_false_iff_not]
 have k0:∀ e:Nat,e<xs.length→eM.Ok (eM.els xs e):=fun e _=>eM.ok_els xs e
 have k1:∀ e:Nat,e<ys.length→eM.Ok (eM.els ys e):=fun e _=>eM.ok_els ys e
 clear hi
 repeat' (first | exact k0 | exact k1 | apply And.intro | intro _)
 all_goals (first | omega | (rw[w1 (by omega)];omega))
theorem cbg_run (c:cbg_GC) (b:cbg_GB) (k1:c.2.2=((c.2.1).length:Int)) (k2:(c.2.1).length≤maxLen) (k3:cbg_K c b 0):loopF cbg_RR cbg_M (cbg_g (0,c,b))=((scan 0 (cbg_S c) 0 (c.2.1) b).1,cbg_g ((scan 0 (cbg_S c) 0 (c.2.1) b).2.1,c,(scan 0 (cbg_S c) 0 (c.2.1) b).2.2)):=ix_conj_run (φ:=cbg_f) (ψ:=cbg_g) (fun _=>rfl) (fun _=>rfl) cbg_RF cbg_P c b k1 k2 k3
noncomputable def bga_S (c:bga_GC) (b:bga_GB) (i:Int) (v:Many):Ex×bga_GB:=bif chkR v.r != (0:Int) then (.ret,chkR v.r) else (.normal,b)
def bga_K (c:bga_GC) (b:bga_GB) (i:Int):Prop:=True
abbrev bga_I (g:bga_G):List Prop:=ixI (fun c:bga_GC=>(c.length:Int)) (fun c:bga_GC=>c) bga_K (bga_f g)
abbrev bga_M (g:bga_G):Nat:=ixM (fun c:bga_GC=>(c.length:Int)) (bga_f g)
theorem bga_P:ixP bga_S (fun c:bga_GC=>c) bga_K:=fun _ _ _ _ h _ _=>h
noncomputable abbrev bga_RR (g:bga_G):Ex×bga_G:=bga_R g.1 g.2.1 g.2.2
theorem bga_RF (d:Int×bga_GC×bga_GB) (hi:allP (ixI (fun c:bga_GC=>(c.length:Int)) (fun c:bga_GC=>c) bga_K d)):bga_RR (bga_g d)=((ixF 0 (fun c:bga_GC=>(c.length:Int)) (fun c:bga_GC=>c) eM.dflt bga_S d).1,bga_g (ixF 0 (fun c:bga_GC=>(c.length:Int)) (fun c:bga_GC=>c) eM.dflt bga_S d).2):=by
 obtain ⟨i,xs,r⟩:=d
 show bga_R xs i r=_
 unfold bga_R ixF bga_S
 simp only[El.ag_eq]
 cases decide (i<(xs.length:Int)) with
 | false=>rfl
 | true=>
  simp only[cond_true]
  generalize (chkR (xs.getD i.toNat eM.dflt).r != (0:Int))=z
  cases z <;> rfl
theorem bga_ok:∀ b∈loopsOf Tryd.prog 36,lkey b=2→LoopOk Tryd.prog b (bga_C bga_I bga_M).g:=by
 refine bga_loop bga_I bga_M (fun g hi=>?_) (ix_conj_goes (fun _=>rfl) (fun _=>rfl) bga_RF bga_P)
 obtain ⟨xs,i,r⟩:=g
 obtain ⟨h1,h2,h3,h4,h5⟩:=hi _ (List.mem_cons_self ..)
 have h1:(xs.length:Int)=(xs.length:Int):=h1
 have h3:0≤i:=h3
 have h5:True:=h5
 show bga_side xs i r
 unfold bga_side
 simp only[decide_eq_true_eq,decide_eq_false_iff_not]
 have k0:∀ e:Nat,e<xs.length→eM.Ok (eM.els xs e):=fun e _=>eM.ok_els xs e
 clear hi
 repeat' (first | exact k0 | apply And.intro | intro _)
 all_goals omega
theorem bga_run (c:bga_GC) (b:bga_GB) (k1:(c.length:Int)=((c).length:Int)) (k2:(c).length≤maxLen) (k3:bga_K c b 0):loopF bga_RR bga_M (bga_g (0,c,b))=((scan 0 (bga_S c) 0 (c) b).1,bga_g ((scan 0 (bga_S c) 0 (c) b).2.1,c,(scan 0 (bga_S c) 0 (c) b).2.2)):=ix_conj_run (φ:=bga_f) (ψ:=bga_g) (fun _=>rfl) (fun _=>rfl) bga_RF bga_P c b k1 k2 k3
noncomputable def bgb_S (c:bgb_GC) (b:bgb_GB) (i:Int) (v:Many):Ex×bgb_GB:=bif decide (v.n<(1:Int))||(decide (v.n > (1048576:Int))||decide (i > (0:Int))&&decide (cmpR (c.getD (IntKind.i64.wrap (i - (1:Int))).toNat eM.dflt).r v.r≥(0:Int))) then (.ret,(51:Int)) else (.normal,b)
def bgb_K (c:bgb_GC) (b:bgb_GB) (i:Int):Prop:=True
abbrev bgb_I (g:bgb_G):List Prop:=ixI (fun c:bgb_GC=>(c.length:Int)) (fun c:bgb_GC=>c) bgb_K (bgb_f g)
abbrev bgb_M (g:bgb_G):Nat:=ixM (fun c:bgb_GC=>(c.length:Int)) (bgb_f g)
theorem bgb_P:ixP bgb_S (fun c:bgb_GC=>c) bgb_K:=fun _ _ _ _ h _ _=>h
noncomputable abbrev bgb_RR (g:bgb_G):Ex×bgb_G:=bgb_R g.1 g.2.1 g.2.2
theorem bgb_RF (d:Int×bgb_GC×bgb_GB) (hi:allP (ixI (fun c:bgb_GC=>(c.length:Int)) (fun c:bgb_GC=>c) bgb_K d)):bgb_RR (bgb_g d)=((ixF 2 (fun c:bgb_GC=>(c.length:Int)) (fun c:bgb_GC=>c) eM.dflt bgb_S d).1,bgb_g (ixF 2 (fun c:bgb_GC=>(c.length:Int)) (fun c:bgb_GC=>c) eM.dflt bgb_S d).2):=by
 obtain ⟨i,xs,r⟩:=d
 show bgb_R xs i r=_
 unfold bgb_R ixF bgb_S
 simp only[El.ag_eq]
 cases decide (i<(xs.length:Int)) with
 | false=>rfl
 | true=>
  simp only[cond_true]
  generalize (decide ((xs.getD i.toNat eM.dflt).n<(1:Int))||(decide ((xs.getD i.toNat eM.dflt).n > (1048576:Int))||decide (i > (0:Int))&&decide (cmpR (xs.getD (IntKind.i64.wrap (i - (1:Int))).toNat eM.dflt).r (xs.getD i.toNat eM.dflt).r≥(0:Int))))=z
  cases z <;> rfl
theorem bgb_ok:∀ b∈loopsOf Tryd.prog 36,lkey b=8→LoopOk Tryd.prog b (bgb_C bgb_I bgb_M).g:=by
 refine bgb_loop bgb_I bgb_M (fun g hi=>?_) (ix_conj_goes (fun _=>rfl) (fun _=>rfl) bgb_RF bgb_P)
 obtain ⟨xs,i,r⟩:=g
 obtain ⟨h1,h2,h3,h4,h5⟩:=hi _ (List.mem_cons_self ..)
 have h1:(xs.length:Int)=(xs.length:Int):=h1
 have h3:0≤i:=h3
 have h5:True:=h5
 have h2':xs.length≤maxLen:=h2
 have h2:xs.length≤9223372036854775807:=by unfold maxLen at h2';omega
 have h4:i≤(xs.length:Int):=h4
 have w1:0<i→IntKind.i64.wrap (i - (1:Int))=i - 1:=fun h=>Lp.wr (by omega)
 show bgb_side xs i r
 unfold bgb_side
 simp only[decide_eq_true_eq,decide_eq_false_iff_not]
 have k0:∀ e:Nat,e<xs.length→eM.Ok (eM.els xs e):=fun e _=>eM.ok_els xs e
 clear hi
 repeat' (first | exact k0 | apply And.intro | intro _)
 all_goals (first | omega | (rw[w1 (by omega)];omega))
theorem bgb_run (c:bgb_GC) (b:bgb_GB) (k1:(c.length:Int)=((c).length:Int)) (k2:(c).length≤maxLen) (k3:bgb_K c b 0):loopF bgb_RR bgb_M (bgb_g (0,c,b))=((scan 2 (bgb_S c) 0 (c) b).1,bgb_g ((scan 2 (bgb_S c) 0 (c) b).2.1,c,(scan 2 (bgb_S c) 0 (c) b).2.2)):=ix_conj_run (φ:=bgb_f) (ψ:=bgb_g) (fun _=>rfl) (fun _=>rfl) bgb_RF bgb_P c b k1 k2 k3
noncomputable def ltG8:LTab Tryd.prog:=(((ltG2.cons 35 4 (cbg_C cbg_I cbg_M) cbg_ok).cons 36 2 (bga_C bga_I bga_M) bga_ok).cons 36 8 (bgb_C bgb_I bgb_M) bgb_ok)
noncomputable abbrev lamG8:Lam:=ltG8.lam
theorem lamG8_ok:∀ f k L,lamG8 f k=some L→∀ b∈loopsOf Tryd.prog f,lkey b=k→LoopOk Tryd.prog b L.g:=ltG8.ok
end Go.Proofs.YtmegbepjdololaaDoor

namespace Go.Proofs.YtmegbepjdololaaDoor
open Go.RowKit Go.Sx
set_option maxRecDepth 100000
set_option linter.unusedVariables false
abbrev aLM:DA (List Many):=.one dLM
noncomputable def cbb_q1 (xs:List Many):Ex ×
 ixf_G:=
 loopF (fun g=>ixf_R g.fst g.snd.fst g.snd.snd.fst g.snd.snd.snd.fst g.snd.snd.snd.snd) ixf_M (eM.ag xs,(),(↑xs.length:Int),(0:Int),(0:Int))
noncomputable def cbb_q2 (xs:List Many):Ex ×
 cbg_G:=
 loopF (fun g=>cbg_R g.fst g.snd.fst g.snd.snd.fst g.snd.snd.snd.fst g.snd.snd.snd.snd) cbg_M (eM.ag xs,eM.ag xs,(↑xs.length:Int),(0:Int),(0:Int))
noncomputable def cbb_F (xs:List Many):Dv.T dI:=
 bif exB Ex.ret (cbb_q1 xs).fst then bif decide ((cbb_q1 xs).snd.snd.snd.snd.snd≥(0:Int)) then (50:Int) else bif exB Ex.ret (cbb_q2 xs).fst then (cbb_q2 xs).snd.snd.snd.snd.snd else (0:Int)
 else bif exB Ex.ret (cbb_q2 xs).fst then (cbb_q2 xs).snd.snd.snd.snd.snd else (0:Int)
def cbb_side (xs:List Many):Prop:=
 eM.okL xs∧Lp.ixJ (fun c=>c.snd) (fun c=>c.fst) ixf_K (ixf_f (eM.ag xs,(),(↑xs.length:Int),(0:Int),(0:Int)))∧(exB Ex.ret (cbb_q1 xs).fst=true→decide ((cbb_q1 xs).snd.snd.snd.snd.snd≥(0:Int))=false→eM.okL xs∧eM.okL xs∧Lp.ixJ (fun c=>c.snd.snd) (fun c=>c.snd.fst) cbg_K (cbg_f (eM.ag xs,eM.ag xs,(↑xs.length:Int),(0:Int),(0:Int))))∧(exB Ex.ret (cbb_q1 xs).fst=false→eM.okL xs∧eM.okL xs∧Lp.ixJ (fun c=>c.snd.snd) (fun c=>c.snd.fst) cbg_K (cbg_f (eM.ag xs,eM.ag xs,(↑xs.length:Int),(0:Int),(0:Int))))
theorem cbb_okS (pre:DA.T aLM→List Prop) (h:∀ g,DA.bd aLM g→(∀ p∈pre g,p)→cbb_side g):FnPure Tryd.prog 35 aLM dI (fun g=>cbb_F g) pre:=pure_of_sideS (Γ:=(PTab.gamz tabG6 [] [])) (Λ:=lamG8) (PTab.okz tabG6 [] []) lamG8_ok 100 default (fun g=>cbb_side g) (fun g=>by kernel_rfl) (fun g=>by kernel_rfl) h
noncomputable def rcb_q1 (xs:List Many):Ex×bga_G:=
 loopF (fun g=>bga_R g.fst g.snd.fst g.snd.snd) bga_M (eM.ag xs,(0:Int),(0:Int))
noncomputable def rcb_q2 (xs:List Many):Ex ×
 bgb_G:=
 loopF (fun g=>bgb_R g.fst g.snd.fst g.snd.snd) bgb_M (eM.ag (rcb_q1 xs).snd.fst,(0:Int),(rcb_q1 xs).snd.snd.snd)
noncomputable def rcb_F (xs:List Many):Dv.T dI:=
 bif exB Ex.ret (rcb_q1 xs).fst then (rcb_q1 xs).snd.snd.snd else bif exB Ex.ret (rcb_q2 xs).fst then (rcb_q2 xs).snd.snd.snd else (0:Int)
def rcb_side (xs:List Many):Prop:=
 eM.okL xs∧Lp.ixJ (fun c=>(↑(List.length c):Int)) (fun c=>c) bga_K (bga_f (eM.ag xs,(0:Int),(0:Int)))∧(exB Ex.ret (rcb_q1 xs).fst=false→eM.okL (rcb_q1 xs).snd.fst∧Lp.ixJ (fun c=>(↑(List.length c):Int)) (fun c=>c) bgb_K (bgb_f (eM.ag (rcb_q1 xs).snd.fst,(0:Int),(rcb_q1 xs).snd.snd.snd)))
theorem rcb_okS (pre:DA.T aLM→List Prop) (h:∀ g,DA.bd aLM g→(∀ p∈pre g,p)→rcb_side g):FnPure Tryd.prog 36 aLM dI (fun g=>rcb_F g) pre:=pure_of_sideS (Γ:=(PTab.gamz tabG6 [] [])) (Λ:=lamG8) (PTab.okz tabG6 [] []) lamG8_ok 100 default (fun g=>rcb_side g) (fun g=>by kernel_rfl) (fun g=>by kernel_rfl) h
end Go.Proofs.YtmegbepjdololaaDoor

namespace Go.Proofs.YtmegbepjdololaaDoor
open Go.RowKit Go.Sx Go.Lp
noncomputable def bagBad (xs:List Many) (i:Int) (v:Many):Bool:=decide (v.n<(1:Int))||(decide (v.n > (1048576:Int))||decide (i > (0:Int))&&decide (cmpR (xs.getD (IntKind.i64.wrap (i - (1:Int))).toNat eM.dflt).r v.r≥(0:Int)))
noncomputable def bagF (xs:List Many):Int:=bif xs.any (fun v=>chkR v.r != (0:Int)) then 50 else bif (List.range xs.length).any (fun j=>bagBad xs (j:Int) (xs.getD j eM.dflt)) then 51 else 0
theorem chkR_two (r:Rec):chkR r=0∨chkR r=50:=by
 unfold chkR
 cases decide ((r.text.size:Int) > 64)||!validS r.text with
 | true=>exact .inr rfl
 | false=>exact .inl rfl
theorem bag_hit {xs:List Many} {n:Nat} {v:Many} (h:xs[n]?=some v) (hb:bagBad xs (n:Int) v=true):(List.range xs.length).any (fun j=>bagBad xs (j:Int) (xs.getD j eM.dflt))=true:=by
 obtain ⟨hn,hv⟩:=List.getElem?_eq_some_iff.1 h
 refine List.any_eq_true.2 ⟨n,List.mem_range.2 hn,?_⟩
 rw[List.getD_eq_getElem?_getD,h]
 exact hb
theorem bag_miss {xs:List Many} (h:∀ (n:Nat) (v:Many),xs[n]?=some v→bagBad xs (n:Int) v=false):(List.range xs.length).any (fun j=>bagBad xs (j:Int) (xs.getD j eM.dflt))=false:=by
 rw[Bool.eq_false_iff]
 intro ha
 obtain ⟨n,hn,hb⟩:=List.any_eq_true.1 ha
 have hn:=List.mem_range.1 hn
 rw[List.getD_eq_getElem?_getD,List.getElem?_eq_getElem hn,Option.getD_some,h n _ (List.getElem?_eq_getElem hn)] at hb
 cases hb
theorem cbb_q1_eq (xs:List Many) (h:xs.length≤KB):(xs.any (fun v=>chkR v.r != (0:Int))=true∧∃ n:Nat,cbb_q1 xs=(.ret,xs,(),(xs.length:Int),(n:Int),(n:Int)))∨(xs.any (fun v=>chkR v.r != (0:Int))=false∧(cbb_q1 xs).1=.exit 0):=by
 unfold KB at h
 have hrun:=ixf_run (xs,(xs.length:Int)) ((),0) rfl (by show xs.length≤maxLen;unfold maxLen;omega) trivial
 have hq:cbb_q1 xs=loopF ixf_RR ixf_M (ixf_g (0,(xs,(xs.length:Int)),((),0))):=by
  unfold cbb_q1
  rw[eM.ag_eq]
  rfl
 rcases searchI (x:=0) (st:=ixf_S (xs,(xs.length:Int))) (p:=fun _ v=>chkR v.r != (0:Int)) (r:=fun i _ _=>((),i)) (fun b i a=>rfl) xs ((),0) with ⟨n,v,h1,h2,hs⟩ | ⟨h1,hs⟩
 ·left
  refine ⟨List.any_eq_true.2 ⟨v,List.mem_of_getElem? h1,h2⟩,n,?_⟩
  rw[hq,hrun,hs]
  rfl
 ·right
  refine ⟨?_,by rw[hq,hrun,hs]⟩
  rw[Bool.eq_false_iff]
  intro ha
  obtain ⟨v,hv,hb⟩:=List.any_eq_true.1 ha
  obtain ⟨n,hn⟩:=List.getElem?_of_mem hv
  have:(chkR v.r != (0:Int))=false:=h1 n v hn
  rw[this] at hb
  cases hb
theorem cbb_q2_eq (xs:List Many) (h:xs.length≤KB):((List.range xs.length).any (fun j=>bagBad xs (j:Int) (xs.getD j eM.dflt))=true∧(cbb_q2 xs).1=.ret∧(cbb_q2 xs).2.2.2.2.2=51)∨((List.range xs.length).any (fun j=>bagBad xs (j:Int) (xs.getD j eM.dflt))=false∧(cbb_q2 xs).1=.exit 0):=by
 unfold KB at h
 have hrun:=cbg_run (xs,xs,(xs.length:Int)) 0 rfl (by show xs.length≤maxLen;unfold maxLen;omega) rfl
 have hq:cbb_q2 xs=loopF cbg_RR cbg_M (cbg_g (0,(xs,xs,(xs.length:Int)),0)):=by
  unfold cbb_q2
  rw[eM.ag_eq]
  rfl
 rcases searchI (x:=0) (st:=cbg_S (xs,xs,(xs.length:Int))) (p:=bagBad xs) (r:=fun _ _ _=>(51:Int)) (fun b i a=>rfl) xs 0 with ⟨n,v,h1,h2,hs⟩ | ⟨h1,hs⟩
 ·left
  refine ⟨bag_hit h1 h2,?_⟩
  rw[hq,hrun,hs]
  exact ⟨rfl,rfl⟩
 ·right
  exact ⟨bag_miss h1,by rw[hq,hrun,hs]⟩
theorem cbb_ok:FnPure Tryd.prog 35 aLM dI bagF (fun g=>[g.length≤KB]):=
 pure_congr (cbb_okS _ fun xs _ hp=>by
  have h:xs.length≤KB:=hp _ (List.mem_cons_self ..)
  have h':=h
  unfold KB at h'
  have hm:xs.length≤maxLen:=by unfold maxLen;omega
  show cbb_side xs
  unfold cbb_side
  rw[eM.okL_eq,eM.ag_eq]
  exact ⟨trivial,ixJ0 rfl hm trivial,fun _ _=>⟨trivial,trivial,ixJ0 rfl hm rfl⟩,fun _=>⟨trivial,trivial,ixJ0 rfl hm rfl⟩⟩) fun xs _ hp=>by
  have h:xs.length≤KB:=hp _ (List.mem_cons_self ..)
  show cbb_F xs=bagF xs
  unfold cbb_F bagF
  rcases cbb_q1_eq xs h with ⟨h1,n,h2⟩ | ⟨h1,h2⟩
  ·rw[h1,h2]
   have e:decide ((n:Int)≥(0:Int))=true:=decide_eq_true (by omega)
   show (bif true then bif decide ((n:Int)≥(0:Int)) then (50:Int) else _ else _)=_
   rw[e];rfl
  ·rw[h1,h2]
   show (bif false then _ else _)=_
   rw[cond_false,cond_false]
   rcases cbb_q2_eq xs h with ⟨k1,k2,k3⟩ | ⟨k1,k2⟩
   ·rw[k1,k2,k3];rfl
   ·rw[k1,k2];rfl
theorem rcb_q1_eq (xs:List Many) (h:xs.length≤KB):(xs.any (fun v=>chkR v.r != (0:Int))=true∧(rcb_q1 xs).1=.ret∧(rcb_q1 xs).2.2.2=50)∨(xs.any (fun v=>chkR v.r != (0:Int))=false∧rcb_q1 xs=(.exit 0,xs,(xs.length:Int),0)):=by
 unfold KB at h
 have hrun:=bga_run xs 0 rfl (by show xs.length≤maxLen;unfold maxLen;omega) trivial
 have hq:rcb_q1 xs=loopF bga_RR bga_M (bga_g (0,xs,0)):=by
  unfold rcb_q1
  rw[eM.ag_eq]
  rfl
 rcases search (x:=0) (st:=bga_S xs) (p:=fun v=>chkR v.r != (0:Int)) (r:=fun _ v _=>chkR v.r) (fun b i a=>rfl) xs 0 with ⟨h1,j,_,a,_,h3,hs⟩ | ⟨h1,hs⟩
 ·left
  refine ⟨h1,?_⟩
  rw[hq,hrun,hs]
  refine ⟨rfl,?_⟩
  show chkR a.r=50
  rcases chkR_two a.r with e | e
  ·rw[e] at h3;cases h3
  ·exact e
 ·right
  refine ⟨h1,?_⟩
  rw[hq,hrun,hs]
  rfl
theorem rcb_q2_eq (xs:List Many) (h:xs.length≤KB) (h1:rcb_q1 xs=(.exit 0,xs,(xs.length:Int),0)):((List.range xs.length).any (fun j=>bagBad xs (j:Int) (xs.getD j eM.dflt))=true∧(rcb_q2 xs).1=.ret∧(rcb_q2 xs).2.2.2=51)∨((List.range xs.length).any (fun j=>bagBad xs (j:Int) (xs.getD j eM.dflt))=false∧(rcb_q2 xs).1=.exit 2):=by
 unfold KB at h
 have hrun:=bgb_run xs 0 rfl (by show xs.length≤maxLen;unfold maxLen;omega) trivial
 have hq:rcb_q2 xs=loopF bgb_RR bgb_M (bgb_g (0,xs,0)):=by
  unfold rcb_q2
  rw[eM.ag_eq,h1]
  rfl
 rcases searchI (x:=2) (st:=bgb_S xs) (p:=bagBad xs) (r:=fun _ _ _=>(51:Int)) (fun b i a=>rfl) xs 0 with ⟨n,v,h1,h2,hs⟩ | ⟨h1,hs⟩
 ·left
  refine ⟨bag_hit h1 h2,?_⟩
  rw[hq,hrun,hs]
  exact ⟨rfl,rfl⟩
 ·right
  exact ⟨bag_miss h1,by rw[hq,hrun,hs]⟩
theorem rcb_ok:FnPure Tryd.prog 36 aLM dI bagF (fun g=>[g.length≤KB]):=
 pure_congr (rcb_okS _ fun xs _ hp=>by
  have h:xs.length≤KB:=hp _ (List.mem_cons_self ..)
  have h':=h
  unfold KB at h'
  have hm:xs.length≤maxLen:=by unfold maxLen;omega
  show rcb_side xs
  unfold rcb_side
  rw[eM.okL_eq,eM.okL_eq,eM.ag_eq]
  refine ⟨trivial,ixJ0 rfl hm trivial,fun hx=>⟨trivial,?_⟩⟩
  rcases rcb_q1_eq xs h with ⟨_,k2,_⟩ | ⟨_,k2⟩
  ·rw[k2] at hx;cases hx
  ·rw[eM.ag_eq,k2]
   exact ixJ0 rfl hm trivial) fun xs _ hp=>by
  have h:xs.length≤KB:=hp _ (List.mem_cons_self ..)
  show rcb_F xs=bagF xs
  unfold rcb_F bagF
  rcases rcb_q1_eq xs h with ⟨h1,h2,h3⟩ | ⟨h1,h2⟩
  ·rw[h1,h2,h3];rfl
  ·rw[h1]
   have e:(rcb_q1 xs).1=.exit 0:=by rw[h2]
   rw[e]
   show (bif false then _ else _)=_
   rw[cond_false,cond_false]
   rcases rcb_q2_eq xs h h2 with ⟨k1,k2,k3⟩ | ⟨k1,k2⟩
   ·rw[k1,k2,k3];rfl
   ·rw[k1,k2];rfl
theorem bag_zero {xs:List Many} (hl:xs.length≤KB) (h:bagF xs=0):(∀ v∈xs,chkR v.r=0)∧∀ (n:Nat) (a b:Many),xs[n]?=some a→xs[n+1]?=some b→rlt a.r b.r:=by
 unfold bagF at h
 cases h1:xs.any (fun v=>chkR v.r != (0:Int)) with
 | true=>rw[h1] at h;cases h
 | false=>
  rw[h1,cond_false] at h
  cases h2:(List.range xs.length).any (fun j=>bagBad xs (j:Int) (xs.getD j eM.dflt)) with
  | true=>rw[h2] at h;cases h
  | false=>
   refine ⟨fun v hv=>?_,fun n a b ha hb=>?_⟩
   ·rcases chkR_two v.r with e | e
    ·exact e
    ·have:xs.any (fun v=>chkR v.r != (0:Int))=true:=List.any_eq_true.2 ⟨v,hv,by rw[e];rfl⟩
     rw[h1] at this;cases this
   ·obtain ⟨hn,hb'⟩:=List.getElem?_eq_some_iff.1 hb
    by_cases hr:rlt a.r b.r
    ·exact hr
    exfalso
    have hk:bagBad xs ((n+1:Nat):Int) b=true:=by
     unfold bagBad
     have e1:decide (((n+1:Nat):Int) > 0)=true:=decide_eq_true (by omega)
     have e2:(IntKind.i64.wrap (((n+1:Nat):Int) - 1)).toNat=n:=by
      unfold KB at hl
      rw[wrS (by omega)]
      omega
     have e3:decide (cmpR (xs.getD (IntKind.i64.wrap (((n+1:Nat):Int) - 1)).toNat eM.dflt).r b.r≥0)=true:=by
      rw[e2,List.getD_eq_getElem?_getD,ha,Option.getD_some]
      refine decide_eq_true ?_
      unfold cmpR
      rw[if_neg hr]
      split <;> decide
     rw[e1,e3]
     simp
    have:=bag_hit hb hk
    rw[h2] at this
    cases this
end Go.Proofs.YtmegbepjdololaaDoor

namespace Go.Proofs.YtmegbepjdololaaDoor
open Go.RowKit Go.Sx Go.Lp
def SzK (f:Fn):Prop:=f.s.size≤KB∨30≤f.kind
theorem txt_ok8:FnPure Tryd.prog 100 aF dBool textF (fun f=>[SzK f]):=
 pure_congr (txt_okS _ fun f _ hp=>by
  have h:SzK f:=hp _ (List.mem_cons_self ..)
  refine ⟨fun _ _ hs=>?_,fun _ hk=>?_⟩
  ·have hs:(f.s.size:Int)≤16:=by simpa using hs
   unfold KB;omega
  ·rcases h with h | h
   ·exact h
   ·exfalso
    cases h12:f.kind==(12:Int) with
    | true=>have:f.kind=12:=by simpa using h12
            omega
    | false=>
     rw[h12,cond_false] at hk
     have:f.kind=22:=by simpa using hk
     omega) fun f _ _=>txt_eq f
theorem rtx_ok8:FnPure Tryd.prog 102 aF dBool textF (fun f=>[SzK f]):=
 pure_congr (rtx_okS _ fun f _ hp=>by
  have h:SzK f:=hp _ (List.mem_cons_self ..)
  refine ⟨fun _ _ hs=>?_,fun _ hk=>?_⟩
  ·have hs:(f.s.size:Int)≤16:=by simpa using hs
   unfold KB;omega
  ·have hx:f.s.size≤KB:=by
    rcases h with h | h
    ·exact h
    ·exfalso
     cases h12:f.kind==(12:Int) with
     | true=>have:f.kind=12:=by simpa using h12
             omega
     | false=>
      rw[h12,cond_false] at hk
      have:f.kind=22:=by simpa using hk
      omega
   exact ⟨fun _=>hx,fun _ _=>hx⟩) fun f _ _=>rtx_eq f
noncomputable def tabL1:PTab Tryd.prog:=(tabB13.cons 100 (pconP aF dBool textF (fun f=>[SzK f])) (conP_ok txt_ok8 puB)).cons 102 (pconP aF dBool textF (fun f=>[SzK f])) (conP_ok rtx_ok8 puB)
end Go.Proofs.YtmegbepjdololaaDoor

namespace Go.Proofs.YtmegbepjdololaaDoor
open Go.RowKit Go.Sx
set_option maxRecDepth 100000
set_option linter.unusedVariables false
abbrev lfe_G:Type:=Unit×Unit×Int×Int×Fn×Int×LoopState×Option Code
noncomputable def lfe_LP:LP 6 lfe_G:=.pair (.fix 6 0 (.yl 5)) (.pair (.fix 6 2 (.p 3 0)) (.pair (.slot 6 4 dI) (.pair (.obj 6 3 3 eI) (.pair (.obj 6 0 66 eF) (.pair (.obj 6 1 35 eI) (.rf 6 5 Tryd.prog 54 0 33 [(3,.p 0 0),(4,.p 1 0)] 4))))))
noncomputable def lfe_R (_u:Unit) (_u2:Unit) (k:Int) (hi:Int) (f:Fn) (r:Int):Ex×lfe_G:=
 bif decide (k≤hi) then bif k==f.kind&&(num_F f&&textF f) then (Ex.ret,(),(),k,hi,f,(0:Int),LoopState.done,some Code.ret) else (Ex.normal,(),(),IntKind.i64.wrap (k+(1:Int)),hi,f,r,LoopState.ready,none)
 else (Ex.exit (0:Nat),(),(),k,hi,f,r,LoopState.ready,none)
def lfe_side (_u:Unit) (_u2:Unit) (k:Int) (hi:Int) (f:Fn) (r:Int):Prop:=
 (decide (k≤hi)=true→((k==f.kind)=true→num_F f=true→SzK f)∧((k==f.kind&&(num_F f&&textF f))=true→CodeIs (rangeOf Tryd.prog (54:Nat) (0:Nat)).snd.fst (rangeOf Tryd.prog (54:Nat) (0:Nat)).snd.fst∧CodeIs (rangeOf Tryd.prog (54:Nat) (0:Nat)).snd.snd (rangeOf Tryd.prog (54:Nat) (0:Nat)).snd.snd)∧((k==f.kind&&(num_F f&&textF f))=false→CodeIs (rangeOf Tryd.prog (54:Nat) (0:Nat)).snd.fst (rangeOf Tryd.prog (54:Nat) (0:Nat)).snd.fst∧CodeIs (rangeOf Tryd.prog (54:Nat) (0:Nat)).snd.snd (rangeOf Tryd.prog (54:Nat) (0:Nat)).snd.snd))∧(decide (k≤hi)=false→CodeIs (rangeOf Tryd.prog (54:Nat) (0:Nat)).snd.fst (rangeOf Tryd.prog (54:Nat) (0:Nat)).snd.fst∧CodeIs (rangeOf Tryd.prog (54:Nat) (0:Nat)).snd.snd (rangeOf Tryd.prog (54:Nat) (0:Nat)).snd.snd)
theorem lfe_one:((loopsOf Tryd.prog 103).filter fun c=>Nat.beq (lkey c) 1).length=1:=by kernel_rfl
def lfe_E:List ((Ex×lfe_G→Bool)×Ex×(lfe_G→lfe_G)):=[(fun x=>exB (.ret) x.1,.ret,fun g=>(g.1,g.2.1,g.2.2.1,g.2.2.2.1,g.2.2.2.2.1,g.2.2.2.2.2.1,(.done,some .ret))),(fun x=>exB (.exit 0) x.1,.exit 0,fun g=>(g.1,g.2.1,g.2.2.1,g.2.2.2.1,g.2.2.2.2.1,g.2.2.2.2.2.1,(.ready,none)))]
theorem lfe_es (g:lfe_G):(lfe_R g.1 g.2.1 g.2.2.1 g.2.2.2.1 g.2.2.2.2.1 g.2.2.2.2.2.1).1=.normal∨exitsOk (lfe_R g.1 g.2.1 g.2.2.1 g.2.2.2.1 g.2.2.2.2.1 g.2.2.2.2.2.1) lfe_E:=by
 unfold lfe_R
 repeat' (first | (left;rfl) | (right;exact ⟨fun _=>⟨rfl,rfl⟩,fun h=>absurd h (by simp[exB,pdB])⟩) | (right;exact ⟨fun h=>absurd h (by simp[exB,pdB]),fun _=>⟨rfl,rfl⟩⟩) | (rw[Bool.cond_eq_ite];split))
noncomputable abbrev lfe_C (Inv:lfe_G→List Prop) (m:lfe_G→Nat):LCon:=loopRS lfe_E (loopBody Tryd.prog 103 1) lfe_LP [] 15 Inv (fun g=>lfe_R g.1 g.2.1 g.2.2.1 g.2.2.2.1 g.2.2.2.2.1 g.2.2.2.2.2.1) m
noncomputable def lfe_i (g:lfe_G):lfe_G:=(g.1,g.2.1,g.2.2.1,g.2.2.2.1,g.2.2.2.2.1,g.2.2.2.2.2.1,(LoopState.ready,none))
theorem lfe_loop (Inv:lfe_G→List Prop) (m:lfe_G→Nat) (hs:∀ g,allP (Inv g)→lfe_side g.1 g.2.1 g.2.2.1 g.2.2.2.1 g.2.2.2.2.1 g.2.2.2.2.2.1) (hι:∀ g,allP (Inv g)→lfe_i g=g) (hg:Goes (fun g:lfe_G=>lfe_R g.1 g.2.1 g.2.2.1 g.2.2.2.1 g.2.2.2.2.1 g.2.2.2.2.2.1) m fun g=>allP (Inv g)):∀ b∈loopsOf Tryd.prog 103,lkey b=1→LoopOk Tryd.prog b (lfe_C Inv m).g:=loop_runS lfe_i (Γ:=(PTab.gamz tabL1 [] [])) (Λ:=noΛ) (PTab.okz tabL1 [] []) noΛ_ok 100 103 1 15 lfe_LP [] Inv (fun g=>lfe_R g.1 g.2.1 g.2.2.1 g.2.2.2.1 g.2.2.2.2.1 g.2.2.2.2.2.1) (fun g=>lfe_side g.1 g.2.1 g.2.2.1 g.2.2.2.1 g.2.2.2.2.1 g.2.2.2.2.2.1) m default lfe_E lfe_one (fun rd T B HL HB ds g=>by kernel_rfl) (fun rd T B HL HB ds g=>by kernel_rfl) hι hs hg lfe_es
abbrev lre_G:Type:=List Int×Int×Unit×Fn×Int
noncomputable def lre_LP:LP 1 lre_G:=.pair (.slot 1 5 dLI) (.pair (.slot 1 6 dI) (.pair (.fix 1 3 (.p 0 0)) (.pair (.obj 1 0 66 eF) (.slot 1 4 dI))))
noncomputable def lre_R (xs:List Int) (i:Int) (_u:Unit) (f:Fn) (r:Int):Ex×lre_G:=
 bif decide (i<(↑xs.length:Int)) then bif xs.getD i.toNat eI.dflt==f.kind&&(rnum_F f&&textF f) then (Ex.ret,eI.ag xs,i,(),f,(0:Int)) else (Ex.normal,eI.ag xs,IntKind.i64.wrap (i+(1:Int)),(),f,r)
 else (Ex.exit (0:Nat),eI.ag xs,i,(),f,r)
def lre_side (xs:List Int) (i:Int) (_u:Unit) (f:Fn) (r:Int):Prop:=
 (decide (i<(↑xs.length:Int))=true→((0:Int)≤i∧i<(↑xs.length:Int))∧((xs.getD i.toNat eI.dflt==f.kind)=true→rnum_F f=true→SzK f)∧((xs.getD i.toNat eI.dflt==f.kind&&(rnum_F f&&textF f))=true→eI.okL xs)∧((xs.getD i.toNat eI.dflt==f.kind&&(rnum_F f&&textF f))=false→eI.okL xs))∧(decide (i<(↑xs.length:Int))=false→eI.okL xs)
theorem lre_one:((loopsOf Tryd.prog 55).filter fun c=>Nat.beq (lkey c) 5).length=1:=by kernel_rfl
abbrev lre_GC:Type:=List Int×Fn
abbrev lre_GB:Type:=Unit×Int
def lre_f (g:lre_G):Int×lre_GC×lre_GB:=(g.2.1,(g.1,g.2.2.2.1),(g.2.2.1,g.2.2.2.2))
def lre_g (d:Int×lre_GC×lre_GB):lre_G:=(d.2.1.1,d.1,d.2.2.1,d.2.1.2,d.2.2.2)
theorem lre_es (g:lre_G):(lre_R g.1 g.2.1 g.2.2.1 g.2.2.2.1 g.2.2.2.2).1=.normal∨(lre_R g.1 g.2.1 g.2.2.1 g.2.2.2.1 g.2.2.2.2).1∈([.ret,.exit 0]:List Ex):=by
 unfold lre_R
 repeat' (first | (left;rfl) | (right;simp only[cond_true,cond_false];simp;done) | (rw[Bool.cond_eq_ite];split))
noncomputable abbrev lre_C (Inv:lre_G→List Prop) (m:lre_G→Nat):LCon:=loopR [.ret,.exit 0] (loopBody Tryd.prog 55 5) lre_LP [] 38 Inv (fun g=>lre_R g.1 g.2.1 g.2.2.1 g.2.2.2.1 g.2.2.2.2) m
theorem lre_loop (Inv:lre_G→List Prop) (m:lre_G→Nat) (hs:∀ g,allP (Inv g)→lre_side g.1 g.2.1 g.2.2.1 g.2.2.2.1 g.2.2.2.2) (hg:Goes (fun g:lre_G=>lre_R g.1 g.2.1 g.2.2.1 g.2.2.2.1 g.2.2.2.2) m fun g=>allP (Inv g)):∀ b∈loopsOf Tryd.prog 55,lkey b=5→LoopOk Tryd.prog b (lre_C Inv m).g:=loop_run (Γ:=(PTab.gamz tabL1 [] [])) (Λ:=noΛ) (PTab.okz tabL1 [] []) noΛ_ok 100 55 5 38 lre_LP [] Inv (fun g=>lre_R g.1 g.2.1 g.2.2.1 g.2.2.2.1 g.2.2.2.2) (fun g=>lre_side g.1 g.2.1 g.2.2.1 g.2.2.2.1 g.2.2.2.2) m default [.ret,.exit 0] lre_one (fun rd T B HL HB ds g=>by kernel_rfl) (fun rd T B HL HB ds g=>by kernel_rfl) hs hg lre_es
end Go.Proofs.YtmegbepjdololaaDoor

namespace Go.Proofs.YtmegbepjdololaaDoor
open Go.RowKit Go.Sx Go.Lp
set_option maxRecDepth 100000
def lfe_P (c:FcC) (b:FcB) (k:Int):Prop:=b.2=(LoopState.ready,(none:Option Code))∧-1000≤k∧k≤1001∧smallI c.hi∧(c.f.s.size≤KB∨30≤k)
noncomputable abbrev lfe_J (g:lfe_G):List Prop:=ctI FcC.hi lfe_P lfc_mk g
noncomputable abbrev lfe_M (g:lfe_G):Nat:=(g.2.2.2.1+1 - g.2.2.1).toNat
theorem lfe_K:ctK FcC.hi lfc_st lfe_P:=fun c b k h hk hn=>by
 obtain ⟨h1,h2,h3,h4,h5⟩:=h
 have h4':=h4
 unfold smallI at h4'
 unfold lfc_st at hn ⊢
 cases hc:k==c.f.kind&&(num_F c.f&&textF c.f) with
 | true=>rw[hc] at hn;cases hn
 | false=>exact ⟨rfl,by omega,by omega,h4,h5.imp id fun h=>by omega⟩
theorem lfe_F (k:Int) (c:FcC) (b:FcB) (h:lfe_P c b k):lfe_R () () k c.hi c.f b.1=ctR 0 FcC.hi lfc_st lfc_mk k c b:=by
 obtain ⟨r,f⟩:=b
 obtain ⟨h1,h2,h3,h4,h5⟩:=h
 have h1:f=(LoopState.ready,(none:Option Code)):=h1
 subst h1
 unfold lfe_R ctR lfc_st lfc_mk
 by_cases h:k≤c.hi
 ·rw[decide_eq_true h,if_pos h,cond_true,wrS (by omega)]
  cases k==c.f.kind&&(num_F c.f&&textF c.f) <;> rfl
 ·rw[decide_eq_false h,if_neg h,cond_false]
theorem lfe_ok:∀ b∈loopsOf Tryd.prog 103,lkey b=1→LoopOk Tryd.prog b (lfe_C lfe_J lfe_M).g:=
 lfe_loop lfe_J lfe_M (fun g hi=>by
  obtain ⟨k,c,b,rfl,h1,h2,h3,h4,h5⟩:=hi _ (List.mem_cons_self ..)
  show lfe_side () () k c.hi c.f b.1
  exact ⟨fun _=>⟨fun hk _=>h5.imp id fun h=>by
   have:k=c.f.kind:=by simpa using hk
   omega,fun _=>⟨rfl,rfl⟩,fun _=>⟨rfl,rfl⟩⟩,fun _=>⟨rfl,rfl⟩⟩) (fun g hi=>by
  obtain ⟨k,c,b,rfl,h1,h2⟩:=hi _ (List.mem_cons_self ..)
  obtain ⟨r,f⟩:=b
  have h1:f=(LoopState.ready,(none:Option Code)):=h1
  subst h1
  rfl) (ct_goes (fun k c b=>rfl) (fun k c b h=>lfe_F k c b h) lfe_K)
noncomputable abbrev lfe_RR (g:lfe_G):Ex×lfe_G:=lfe_R g.1 g.2.1 g.2.2.1 g.2.2.2.1 g.2.2.2.2.1 g.2.2.2.2.2.1
theorem lfe_run (k hi:Int) (f:Fn) (r:Int) (h1:-1000≤k∧k≤1001) (h2:smallI hi) (h3:f.s.size≤KB∨30≤k):∃ k',loopF lfe_RR lfe_M ((),(),k,hi,f,r,.ready,none) =
  bif (decide (k≤f.kind)&&decide (f.kind≤hi))&&(num_F f&&textF f) then (.ret,(),(),k',hi,f,0,.done,some .ret) else (.exit 0,(),(),k',hi,f,r,.ready,none):=by
 have h:=ct_run (F:=lfe_RR) (m:=lfe_M) (mk:=lfc_mk) (x:=0) (step:=lfc_st) (P:=lfe_P) (hi:=FcC.hi) (fun k c b=>rfl) (fun k c b h=>lfe_F k c b h) lfe_K _ k ⟨hi,f⟩ (r,.ready,none) ⟨rfl,h1.1,h1.2,h2,h3⟩ rfl
 have e:lfc_mk k ⟨hi,f⟩ (r,.ready,none)=((),(),k,hi,f,r,.ready,none):=rfl
 rw[e] at h
 rw[h]
 have hs:=lfc_scan ⟨hi,f⟩ (hi+1 - k).toNat k r
 have e2:(decide (k≤f.kind)&&decide (f.kind<k+((hi+1 - k).toNat:Int)))=(decide (k≤f.kind)&&decide (f.kind≤hi)):=by
  rw[Bool.eq_iff_iff]
  simp only[Bool.and_eq_true,decide_eq_true_eq]
  omega
 simp only at hs
 rw[e2] at hs
 refine ⟨(scanC 0 (lfc_st ⟨hi,f⟩) (hi+1 - k).toNat k (r,.ready,none)).2.1,?_⟩
 show ((scanC 0 (lfc_st ⟨hi,f⟩) (hi+1 - k).toNat k (r,.ready,none)).1,lfc_mk _ ⟨hi,f⟩ (scanC 0 (lfc_st ⟨hi,f⟩) (hi+1 - k).toNat k (r,.ready,none)).2.2)=_
 rw[Prod.mk.injEq] at hs
 cases hb:(decide (k≤f.kind)&&decide (f.kind≤hi))&&(num_F f&&textF f) with
 | true=>rw[hb] at hs;rw[hs.1,hs.2];rfl
 | false=>rw[hb] at hs;rw[hs.1,hs.2];rfl
def lre_K (c:lre_GC) (_:lre_GB) (_:Int):Prop:=c.2.s.size≤KB∨∀ v∈c.1,(30:Int)≤v
noncomputable abbrev lre_I (g:lre_G):List Prop:=ixI (fun c:lre_GC=>(c.1.length:Int)) (fun c:lre_GC=>c.1) lre_K (lre_f g)
abbrev lre_M (g:lre_G):Nat:=ixM (fun c:lre_GC=>(c.1.length:Int)) (lre_f g)
theorem lre_P:ixP lrc_S (fun c:lre_GC=>c.1) lre_K:=fun _ _ _ _ h _ _=>h
noncomputable abbrev lre_RR (g:lre_G):Ex×lre_G:=lre_R g.1 g.2.1 g.2.2.1 g.2.2.2.1 g.2.2.2.2
theorem lre_RF (d:Int×lre_GC×lre_GB) (hi:allP (ixI (fun c:lre_GC=>(c.1.length:Int)) (fun c:lre_GC=>c.1) lre_K d)):lre_RR (lre_g d)=((ixF 0 (fun c:lre_GC=>(c.1.length:Int)) (fun c:lre_GC=>c.1) eI.dflt lrc_S d).1,lre_g (ixF 0 (fun c:lre_GC=>(c.1.length:Int)) (fun c:lre_GC=>c.1) eI.dflt lrc_S d).2):=by
 obtain ⟨i,⟨xs,f⟩,⟨⟩,r⟩:=d
 show lre_R xs i () f r=_
 unfold lre_R ixF lrc_S
 simp only[El.ag_eq]
 cases decide (i<(xs.length:Int)) with
 | false=>rfl
 | true=>
  simp only[cond_true]
  generalize ((xs.getD i.toNat eI.dflt)==f.kind&&(rnum_F f&&textF f))=z
  cases z <;> rfl
theorem lre_ok:∀ b∈loopsOf Tryd.prog 55,lkey b=5→LoopOk Tryd.prog b (lre_C lre_I lre_M).g:=by
 refine lre_loop lre_I lre_M (fun g hi=>?_) (ix_conj_goes (fun _=>rfl) (fun _=>rfl) lre_RF lre_P)
 obtain ⟨xs,i,⟨⟩,f,r⟩:=g
 obtain ⟨h1,h2,h3,h4,h5⟩:=hi _ (List.mem_cons_self ..)
 have h3:0≤i:=h3
 have h5:f.s.size≤KB∨∀ v∈xs,(30:Int)≤v:=h5
 have hk:eI.okL xs:=by rw[eI.okL_eq];trivial
 show lre_side xs i () f r
 refine ⟨fun hlt=>?_,fun _=>hk⟩
 have hlt:i<(xs.length:Int):=by simpa using hlt
 refine ⟨⟨h3,hlt⟩,fun he _=>h5.imp id fun h=>?_,fun _=>hk,fun _=>hk⟩
 have he:xs.getD i.toNat eI.dflt=f.kind:=by simpa using he
 have hl:i.toNat<xs.length:=by omega
 rw[List.getD_eq_getElem?_getD,List.getElem?_eq_getElem hl] at he
 have:=h _ (List.getElem_mem hl)
 have he:xs[i.toNat]=f.kind:=he
 omega
theorem lre_run (c:lre_GC) (b:lre_GB) (k1:(c.1.length:Int)=((c.1).length:Int)) (k2:(c.1).length≤maxLen) (k3:lre_K c b 0):loopF lre_RR lre_M (lre_g (0,c,b))=((scan 0 (lrc_S c) 0 (c.1) b).1,lre_g ((scan 0 (lrc_S c) 0 (c.1) b).2.1,c,(scan 0 (lrc_S c) 0 (c.1) b).2.2)):=ix_conj_run (φ:=lre_f) (ψ:=lre_g) (fun _=>rfl) (fun _=>rfl) lre_RF lre_P c b k1 k2 k3
noncomputable def ltL3:LTab Tryd.prog:=(LTab.nil.cons 103 1 (lfe_C lfe_J lfe_M) lfe_ok).cons 55 5 (lre_C lre_I lre_M) lre_ok
noncomputable abbrev lamL3:Lam:=ltL3.lam
theorem lamL3_ok:∀ f k L,lamL3 f k=some L→∀ b∈loopsOf Tryd.prog f,lkey b=k→LoopOk Tryd.prog b L.g:=ltL3.ok
noncomputable def tabL3:PTab Tryd.prog:=tabL1.cons 53 (pconR aI dLI usesL (fun _=>[])) (conR_ok rus_ok)
end Go.Proofs.YtmegbepjdololaaDoor

namespace Go.Proofs.YtmegbepjdololaaDoor
open Go.RowKit Go.Sx
set_option maxRecDepth 100000
set_option linter.unusedVariables false
noncomputable def fce_q1 (k:Int) (f:Fn):Ex ×
 lfe_G:=
 loopF (fun g=>lfe_R g.fst g.snd.fst g.snd.snd.fst g.snd.snd.snd.fst g.snd.snd.snd.snd.fst g.snd.snd.snd.snd.snd.fst) lfe_M ((),(),(uses_F k).fst,(uses_F k).snd,f,(0:Int),LoopState.ready,none)
noncomputable def fce_F (k:Int) (f:Fn):Dv.T dI:=
 bif decide ((uses_F k).snd<(0:Int)) then bif !conj ([f.kind==(0:Int)]++([f.a==(0:Int)]++([decide (f.s=ByteArray.mk #[])]++[]))) then (60:Int) else (0:Int)
 else bif exB Ex.ret (fce_q1 k f).fst then (fce_q1 k f).snd.snd.snd.snd.snd.snd.fst else (60:Int)
def fce_side (k:Int) (f:Fn):Prop:=
 decide ((uses_F k).snd<(0:Int))=false→CodeIs (rangeOf Tryd.prog (54:Nat) (0:Nat)).snd.fst (rangeOf Tryd.prog (54:Nat) (0:Nat)).snd.fst∧CodeIs (rangeOf Tryd.prog (54:Nat) (0:Nat)).snd.snd (rangeOf Tryd.prog (54:Nat) (0:Nat)).snd.snd∧∃ k_1 c b,((),(),(uses_F k).fst,(uses_F k).snd,f,(0:Int),LoopState.ready,none)=lfc_mk k_1 c b∧lfe_P c b k_1
theorem fce_okS (pre:DA.T aIF→List Prop) (h:∀ g,DA.bd aIF g→(∀ p∈pre g,p)→fce_side g.1 g.2):FnPure Tryd.prog 54 aIF dI (fun g=>fce_F g.1 g.2) pre:=pure_of_sideS (Γ:=(PTab.gamz tabL3 [] [])) (Λ:=lamL3) (PTab.okz tabL3 [] []) lamL3_ok 100 default (fun g=>fce_side g.1 g.2) (fun g=>by kernel_rfl) (fun g=>by kernel_rfl) h
noncomputable def rce_q1 (k:Int) (f:Fn):Ex ×
 lre_G:=
 loopF (fun g=>lre_R g.fst g.snd.fst g.snd.snd.fst g.snd.snd.snd.fst g.snd.snd.snd.snd) lre_M (eI.ag (usesL k),(0:Int),(),f,(0:Int))
noncomputable def rce_F (k:Int) (f:Fn):Dv.T dI:=
 bif (↑(usesL k).length:Int)==(0:Int)&&conj ([f.kind==(0:Int)]++([f.a==(0:Int)]++([decide (f.s=ByteArray.mk #[])]++[]))) then (0:Int)
 else bif exB Ex.ret (rce_q1 k f).fst then (rce_q1 k f).snd.snd.snd.snd.snd else (60:Int)
def rce_side (k:Int) (f:Fn):Prop:=
 ((↑(usesL k).length:Int)==(0:Int)&&conj ([f.kind==(0:Int)]++([f.a==(0:Int)]++([decide (f.s=ByteArray.mk #[])]++[]))))=false→eI.okL (usesL k)∧Lp.ixJ (fun c=>(↑c.fst.length:Int)) (fun c=>c.fst) lre_K (lre_f (eI.ag (usesL k),(0:Int),(),f,(0:Int)))
theorem rce_okS (pre:DA.T aIF→List Prop) (h:∀ g,DA.bd aIF g→(∀ p∈pre g,p)→rce_side g.1 g.2):FnPure Tryd.prog 55 aIF dI (fun g=>rce_F g.1 g.2) pre:=pure_of_sideS (Γ:=(PTab.gamz tabL3 [] [])) (Λ:=lamL3) (PTab.okz tabL3 [] []) lamL3_ok 100 default (fun g=>rce_side g.1 g.2) (fun g=>by kernel_rfl) (fun g=>by kernel_rfl) h
end Go.Proofs.YtmegbepjdololaaDoor

namespace Go.Proofs.YtmegbepjdololaaDoor
open Go.RowKit Go.Sx Go.Lp
theorem fce_ok:FnPure Tryd.prog 54 aIF dI (fun g=>chkF g.1 g.2) (fun g=>[g.1=8]):=
 pure_congr (fce_okS _ fun g _ hp=>by
  obtain ⟨k,f⟩:=g
  have h:k=8:=hp _ (List.mem_cons_self ..)
  obtain ⟨⟨a1,a2⟩,a3,a4⟩:=uses_small k
  have h30:f.s.size≤KB∨30≤(uses_F k).1:=.inr (by rw[h];decide)
  exact fun _=>⟨rfl,rfl,(uses_F k).1,⟨(uses_F k).2,f⟩,(0,.ready,none),rfl,rfl,by omega,by omega,⟨by show -1000≤(uses_F k).2;omega,by show (uses_F k).2≤1000;omega⟩,h30⟩) fun g _ hp=>by
  obtain ⟨k,f⟩:=g
  have h:k=8:=hp _ (List.mem_cons_self ..)
  obtain ⟨⟨a1,a2⟩,a3,a4⟩:=uses_small k
  have h30:f.s.size≤KB∨30≤(uses_F k).1:=.inr (by rw[h];decide)
  obtain ⟨k',hr⟩:=lfe_run (uses_F k).1 (uses_F k).2 f 0 ⟨by omega,by omega⟩ ⟨by omega,by omega⟩ h30
  have hr:fce_q1 k f=_:=hr
  show fce_F k f=chkF k f
  unfold fce_F chkF
  rw[hr,conj_F]
  cases decide ((uses_F k).2<0) with
  | true=>cases decide (f=noFn) <;> rfl
  | false=>
   cases hb:(decide ((uses_F k).1≤f.kind)&&decide (f.kind≤(uses_F k).2))&&(num_F f&&textF f) <;> rfl
theorem rce_ok:FnPure Tryd.prog 55 aIF dI (fun g=>chkF g.1 g.2) (fun g=>[g.1=8]):=
 pure_congr (rce_okS _ fun g _ hp=>by
  obtain ⟨k,f⟩:=g
  have h:k=8:=hp _ (List.mem_cons_self ..)
  have h30:f.s.size≤KB∨∀ v∈usesL k,(30:Int)≤v:=.inr fun v hv=>by
   have:=(mem_upTo _ _ _).1 hv
   rw[h] at this
   have h1:(31:Int)≤v:=this.1
   omega
  have hl:=uses_len k
  show rce_side k f
  unfold rce_side
  simp only[El.okL_eq,El.ag_eq,true_and]
  exact fun _=>⟨rfl,by show (usesL k).length≤maxLen;unfold maxLen;omega,Int.le_refl _,by show (0:Int)≤((usesL k).length:Int);omega,h30⟩) fun g _ hp=>by
  obtain ⟨k,f⟩:=g
  have h:k=8:=hp _ (List.mem_cons_self ..)
  have h30:f.s.size≤KB∨∀ v∈usesL k,(30:Int)≤v:=.inr fun v hv=>by
   have:=(mem_upTo _ _ _).1 hv
   rw[h] at this
   have h1:(31:Int)≤v:=this.1
   omega
  have hl:=uses_len k
  have hn:=uses_none k
  have hrun:=lre_run (usesL k,f) ((),0) rfl (by show (usesL k).length≤maxLen;unfold maxLen;omega) h30
  have hq:rce_q1 k f=loopF lre_RR lre_M (lre_g (0,(usesL k,f),(),0)):=by
   unfold rce_q1
   rw[eI.ag_eq]
   rfl
  show rce_F k f=chkF k f
  unfold rce_F chkF
  rw[conj_F,hq,hrun]
  have hs:=search (x:=0) (st:=lrc_S (usesL k,f)) (p:=fun v=>v==f.kind&&(rnum_F f&&textF f)) (r:=fun _ _ b=>(b.1,0)) (fun b i a=>rfl) (usesL k) ((),0)
  have hany:(usesL k).any (fun v=>v==f.kind&&(rnum_F f&&textF f))=((decide ((uses_F k).1≤f.kind)&&decide (f.kind≤(uses_F k).2))&&(num_F f&&textF f)):=by
   have e1:rnum_F f=num_F f:=rfl
   rw[e1,Bool.eq_iff_iff,List.any_eq_true]
   simp only[Bool.and_eq_true,beq_iff_eq,decide_eq_true_eq]
   constructor
   ·rintro ⟨v,h1,rfl,h2⟩
    exact ⟨(mem_upTo _ _ _).1 h1,h2⟩
   ·rintro ⟨h1,h2⟩
    exact ⟨f.kind,(mem_upTo _ _ _).2 h1,rfl,h2⟩
  by_cases hz:(uses_F k).2<0
  ·rw[h] at hz
   exact absurd hz (by decide)
  ·have h0:(((usesL k).length:Int)==0)=false:=by
    rw[beq_eq_false_iff_ne]
    intro hc
    exact hz (hn.1 (by omega))
   rw[decide_eq_false hz,cond_false,h0]
   rcases hs with ⟨h1,j,_,a,_,_,hs⟩ | ⟨h1,hs⟩
   ·rw[hany] at h1;rw[hs,h1];rfl
   ·rw[hany] at h1;rw[hs,h1];rfl
end Go.Proofs.YtmegbepjdololaaDoor

namespace Go.Proofs.YtmegbepjdololaaDoor
open Go.RowKit Go.Sx Go.Lp
theorem ahd_ok:FnPure Tryd.prog 105 aIBB dBool (fun g=>ahd_F g.1 g.2.1 g.2.2) (fun g=>[g.2.1.size≤KB,g.2.2.size≤KB]):=ahd_okS _ fun g _ hp=>
 fun _ _=>⟨hp _ (List.mem_cons_self ..),hp _ (List.mem_cons_of_mem _ (List.mem_cons_self ..))⟩
noncomputable def tabH1:PTab Tryd.prog:=((((tabG6.cons 54 (pconP aIF dI (fun g=>chkF g.1 g.2) (fun g=>[g.1=8])) (conP_ok fce_ok puI)).cons 55 (pconP aIF dI (fun g=>chkF g.1 g.2) (fun g=>[g.1=8])) (conP_ok rce_ok puI)).cons 35 (pconP aLM dI bagF (fun g=>[g.length≤KB])) (conP_ok cbb_ok puI)).cons 36 (pconP aLM dI bagF (fun g=>[g.length≤KB])) (conP_ok rcb_ok puI)).cons 105 (pconP aIBB dBool (fun g=>ahd_F g.1 g.2.1 g.2.2) (fun g=>[g.2.1.size≤KB,g.2.2.size≤KB])) (conP_ok ahd_ok puB)
end Go.Proofs.YtmegbepjdololaaDoor

namespace Go.Proofs.YtmegbepjdololaaDoor
open Go.RowKit Go.Sx
set_option maxRecDepth 100000
set_option linter.unusedVariables false
abbrev rdl_G:Type:=Unit×Unit×Unit×Fn×Rec×Rec×List Many×Int×Int×Int
noncomputable def rdl_LP:LP 3 rdl_G:=.pair (.fix 3 2 (.p 0 0)) (.pair (.fix 3 4 (.p 1 0)) (.pair (.fix 3 8 (.p 2 0)) (.pair (.obj 3 0 66 eF) (.pair (.obj 3 1 46 eR) (.pair (.obj 3 2 46 eR) (.pair (.slot 3 32 dLM) (.pair (.slot 3 33 dI) (.pair (.slot 3 34 dI) (.slot 3 5 dI)))))))))
noncomputable def rdl_R (_u1:Unit) (_u2:Unit) (_u3:Unit) (f:Fn) (w:Rec) (o:Rec) (xs:List Many) (n:Int) (i:Int) (e:Int):Ex×rdl_G:=
 bif decide (i<n) then bif (xs.getD i.toNat eM.dflt).r.key != o.key then (Ex.ret,(),(),(),f,Rec.mk (0:Int) (ByteArray.mk #[]),o,eM.ag xs,n,i,(1:Int)) else (Ex.normal,(),(),(),f,w,Rec.mk o.key (bif f.kind==(34:Int) then o.text++(xs.getD i.toNat eM.dflt).r.text else bif ahd_F f.kind (xs.getD i.toNat eM.dflt).r.text o.text then (xs.getD i.toNat eM.dflt).r.text else o.text),eM.ag xs,n,IntKind.i64.wrap (i+(1:Int)),e)
 else (Ex.exit (0:Nat),(),(),(),f,w,o,eM.ag xs,n,i,e)
def rdl_side (_u1:Unit) (_u2:Unit) (_u3:Unit) (f:Fn) (w:Rec) (o:Rec) (xs:List Many) (n:Int) (i:Int) (e:Int):Prop:=
 (decide (i<n)=true→((0:Int)≤i∧i<(↑xs.length:Int))∧(((xs.getD i.toNat eM.dflt).r.key != o.key)=true→eM.okL xs)∧(((xs.getD i.toNat eM.dflt).r.key != o.key)=false→((f.kind==(34:Int))=true→ByteArray.size o.text+ByteArray.size (xs.getD i.toNat eM.dflt).r.text≤(9223372036854775807:Nat))∧((!f.kind==(34:Int))=true→ByteArray.size (xs.getD i.toNat eM.dflt).r.text≤KB)∧((!f.kind==(34:Int))=true→ByteArray.size o.text≤KB)∧eM.okL xs))∧(decide (i<n)=false→eM.okL xs)
theorem rdl_one:((loopsOf Tryd.prog 60).filter fun c=>Nat.beq (lkey c) 11).length=1:=by kernel_rfl
abbrev rdl_GC:Type:=Fn×List Many×Int
abbrev rdl_GB:Type:=Unit×Unit×Unit×Rec×Rec×Int
def rdl_f (g:rdl_G):Int×rdl_GC×rdl_GB:=(g.2.2.2.2.2.2.2.2.1,(g.2.2.2.1,g.2.2.2.2.2.2.1,g.2.2.2.2.2.2.2.1),(g.1,g.2.1,g.2.2.1,g.2.2.2.2.1,g.2.2.2.2.2.1,g.2.2.2.2.2.2.2.2.2))
def rdl_g (d:Int×rdl_GC×rdl_GB):rdl_G:=(d.2.2.1,d.2.2.2.1,d.2.2.2.2.1,d.2.1.1,d.2.2.2.2.2.1,d.2.2.2.2.2.2.1,d.2.1.2.1,d.2.1.2.2,d.1,d.2.2.2.2.2.2.2)
theorem rdl_es (g:rdl_G):(rdl_R g.1 g.2.1 g.2.2.1 g.2.2.2.1 g.2.2.2.2.1 g.2.2.2.2.2.1 g.2.2.2.2.2.2.1 g.2.2.2.2.2.2.2.1 g.2.2.2.2.2.2.2.2.1 g.2.2.2.2.2.2.2.2.2).1=.normal∨(rdl_R g.1 g.2.1 g.2.2.1 g.2.2.2.1 g.2.2.2.2.1 g.2.2.2.2.2.1 g.2.2.2.2.2.2.1 g.2.2.2.2.2.2.2.1 g.2.2.2.2.2.2.2.2.1 g.2.2.2.2.2.2.2.2.2).1∈([.ret,.exit 0]:List Ex):=by
 unfold rdl_R
 repeat' (first | (left;rfl) | (right;simp only[cond_true,cond_false];simp;done) | (rw[Bool.cond_eq_ite];split))
noncomputable abbrev rdl_C (Inv:rdl_G→List Prop) (m:rdl_G→Nat):LCon:=loopR [.ret,.exit 0] (loopBody Tryd.prog 60 11) rdl_LP [] 76 Inv (fun g=>rdl_R g.1 g.2.1 g.2.2.1 g.2.2.2.1 g.2.2.2.2.1 g.2.2.2.2.2.1 g.2.2.2.2.2.2.1 g.2.2.2.2.2.2.2.1 g.2.2.2.2.2.2.2.2.1 g.2.2.2.2.2.2.2.2.2) m
theorem rdl_loop (Inv:rdl_G→List Prop) (m:rdl_G→Nat) (hs:∀ g,allP (Inv g)→rdl_side g.1 g.2.1 g.2.2.1 g.2.2.2.1 g.2.2.2.2.1 g.2.2.2.2.2.1 g.2.2.2.2.2.2.1 g.2.2.2.2.2.2.2.1 g.2.2.2.2.2.2.2.2.1 g.2.2.2.2.2.2.2.2.2) (hg:Goes (fun g:rdl_G=>rdl_R g.1 g.2.1 g.2.2.1 g.2.2.2.1 g.2.2.2.2.1 g.2.2.2.2.2.1 g.2.2.2.2.2.2.1 g.2.2.2.2.2.2.2.1 g.2.2.2.2.2.2.2.2.1 g.2.2.2.2.2.2.2.2.2) m fun g=>allP (Inv g)):∀ b∈loopsOf Tryd.prog 60,lkey b=11→LoopOk Tryd.prog b (rdl_C Inv m).g:=loop_run (Γ:=(PTab.gamz tabH1 [] [])) (Λ:=noΛ) (PTab.okz tabH1 [] []) noΛ_ok 100 60 11 76 rdl_LP [] Inv (fun g=>rdl_R g.1 g.2.1 g.2.2.1 g.2.2.2.1 g.2.2.2.2.1 g.2.2.2.2.2.1 g.2.2.2.2.2.2.1 g.2.2.2.2.2.2.2.1 g.2.2.2.2.2.2.2.2.1 g.2.2.2.2.2.2.2.2.2) (fun g=>rdl_side g.1 g.2.1 g.2.2.1 g.2.2.2.1 g.2.2.2.2.1 g.2.2.2.2.2.1 g.2.2.2.2.2.2.1 g.2.2.2.2.2.2.2.1 g.2.2.2.2.2.2.2.2.1 g.2.2.2.2.2.2.2.2.2) m default [.ret,.exit 0] rdl_one (fun rd T B HL HB ds g=>by kernel_rfl) (fun rd T B HL HB ds g=>by kernel_rfl) hs hg rdl_es
end Go.Proofs.YtmegbepjdololaaDoor

namespace Go.Proofs.YtmegbepjdololaaDoor
open Go.RowKit Go.Sx Go.Lp
set_option maxRecDepth 100000
noncomputable def rdT (f:Fn) (o:BA) (v:BA):BA:=bif f.kind==(34:Int) then o++v else bif ahd_F f.kind v o then v else o
noncomputable def rdl_S (c:rdl_GC) (b:rdl_GB) (_:Int) (v:Many):Ex×rdl_GB:=bif v.r.key != b.2.2.2.2.1.key then (.ret,(),(),(),Rec.mk (0:Int) (ByteArray.mk #[]),b.2.2.2.2.1,(1:Int)) else (.normal,(),(),(),b.2.2.2.1,Rec.mk b.2.2.2.2.1.key (rdT c.1 b.2.2.2.2.1.text v.r.text),b.2.2.2.2.2)
def rdl_K (c:rdl_GC) (b:rdl_GB) (i:Int):Prop:=c.2.1.length≤1000∧(∀ x∈c.2.1,x.r.text.size≤64)∧(b.2.2.2.2.1.text.size:Int)≤64 * (i+1)
abbrev rdl_I (g:rdl_G):List Prop:=ixI (fun c:rdl_GC=>c.2.2) (fun c:rdl_GC=>c.2.1) rdl_K (rdl_f g)
abbrev rdl_M (g:rdl_G):Nat:=ixM (fun c:rdl_GC=>c.2.2) (rdl_f g)
theorem rdT_size (f:Fn) (o v:BA) (n:Nat) (ho:o.size≤n) (hv:v.size≤64):(rdT f o v).size≤n+64:=by
 unfold rdT
 cases f.kind==(34:Int) with
 | true=>rw[cond_true,ByteArray.size_append];omega
 | false=>
  rw[cond_false]
  cases ahd_F f.kind v o with
  | true=>rw[cond_true];omega
  | false=>rw[cond_false];omega
theorem rdl_P:ixP rdl_S (fun c:rdl_GC=>c.2.1) rdl_K:=by
 intro c b i a h ha hn
 obtain ⟨h1,h2,h3⟩:=h
 unfold rdl_S at hn ⊢
 cases hb:a.r.key != b.2.2.2.2.1.key with
 | true=>rw[hb] at hn;cases hn
 | false=>
  rw[cond_false]
  have hm:=h2 a (List.mem_of_getElem? ha)
  refine ⟨h1,h2,?_⟩
  show ((rdT c.1 b.2.2.2.2.1.text a.r.text).size:Int)≤_
  have:=rdT_size c.1 b.2.2.2.2.1.text a.r.text (64 * (i+1)) (by omega) hm
  omega
noncomputable abbrev rdl_RR (g:rdl_G):Ex×rdl_G:=rdl_R g.1 g.2.1 g.2.2.1 g.2.2.2.1 g.2.2.2.2.1 g.2.2.2.2.2.1 g.2.2.2.2.2.2.1 g.2.2.2.2.2.2.2.1 g.2.2.2.2.2.2.2.2.1 g.2.2.2.2.2.2.2.2.2
theorem rdl_RF (d:Int×rdl_GC×rdl_GB) (hi:allP (ixI (fun c:rdl_GC=>c.2.2) (fun c:rdl_GC=>c.2.1) rdl_K d)):rdl_RR (rdl_g d)=((ixF 0 (fun c:rdl_GC=>c.2.2) (fun c:rdl_GC=>c.2.1) eM.dflt rdl_S d).1,rdl_g (ixF 0 (fun c:rdl_GC=>c.2.2) (fun c:rdl_GC=>c.2.1) eM.dflt rdl_S d).2):=by
 obtain ⟨i,⟨f,xs,n⟩,u1,u2,u3,w,o,e⟩:=d
 show rdl_R u1 u2 u3 f w o xs n i e=_
 unfold rdl_R ixF rdl_S
 simp only[El.ag_eq]
 cases decide (i<n) with
 | false=>rfl
 | true=>
  simp only[cond_true]
  show (bif (xs.getD i.toNat eM.dflt).r.key != o.key then _ else (Ex.normal,(),(),(),f,w,Rec.mk o.key (rdT f o.text (xs.getD i.toNat eM.dflt).r.text),xs,n,IntKind.i64.wrap (i+(1:Int)),e))=_
  generalize ((xs.getD i.toNat eM.dflt).r.key != o.key)=z
  cases z <;> rfl
theorem rdl_ok:∀ b∈loopsOf Tryd.prog 60,lkey b=11→LoopOk Tryd.prog b (rdl_C rdl_I rdl_M).g:=by
 refine rdl_loop rdl_I rdl_M (fun g hi=>?_) (ix_conj_goes (fun _=>rfl) (fun _=>rfl) rdl_RF rdl_P)
 obtain ⟨u1,u2,u3,f,w,o,xs,n,i,e⟩:=g
 obtain ⟨h1,h2,h3,h4,h5,h6,h7⟩:=hi _ (List.mem_cons_self ..)
 have h1:n=(xs.length:Int):=h1
 have h3:0≤i:=h3
 have h4:i≤(xs.length:Int):=h4
 have h5:xs.length≤1000:=h5
 have h6:∀ x∈xs,x.r.text.size≤64:=h6
 have h7:(o.text.size:Int)≤64 * (i+1):=h7
 have hk:eM.okL xs:=by rw[eM.okL_eq];trivial
 show rdl_side u1 u2 u3 f w o xs n i e
 refine ⟨fun hlt=>?_,fun _=>hk⟩
 have hlt:i<n:=by simpa using hlt
 have hl:i.toNat<xs.length:=by omega
 have hv:(xs.getD i.toNat eM.dflt).r.text.size≤64:=by
  rw[List.getD_eq_getElem?_getD,List.getElem?_eq_getElem hl]
  exact h6 _ (List.getElem_mem _)
 exact ⟨⟨h3,by omega⟩,fun _=>hk,fun _=>⟨fun _=>by omega,fun _=>by unfold KB;omega,fun _=>by unfold KB;omega,hk⟩⟩
theorem rdl_run (c:rdl_GC) (b:rdl_GB) (k1:c.2.2=((c.2.1).length:Int)) (k2:(c.2.1).length≤maxLen) (k3:rdl_K c b 0):loopF rdl_RR rdl_M (rdl_g (0,c,b))=((scan 0 (rdl_S c) 0 (c.2.1) b).1,rdl_g ((scan 0 (rdl_S c) 0 (c.2.1) b).2.1,c,(scan 0 (rdl_S c) 0 (c.2.1) b).2.2)):=ix_conj_run (φ:=rdl_f) (ψ:=rdl_g) (fun _=>rfl) (fun _=>rfl) rdl_RF rdl_P c b k1 k2 k3
theorem rdl_scan (c:rdl_GC):∀ (l:List Many) (i:Int) (w o:Rec) (e:Int),
  (l.any (fun v=>v.r.key != o.key)=true∧∃ j o',scan 0 (rdl_S c) i l ((),(),(),w,o,e)=(.ret,j,(),(),(),Rec.mk 0 (ByteArray.mk #[]),o',1)) ∨
  (l.any (fun v=>v.r.key != o.key)=false∧∃ j,scan 0 (rdl_S c) i l ((),(),(),w,o,e)=(.exit 0,j,(),(),(),w,Rec.mk o.key ((l.map (·.r.text)).foldl (rdT c.1) o.text),e))
 | [],i,w,o,e=>.inr ⟨rfl,i,rfl⟩
 | v :: l,i,w,o,e=>by
  cases hb:v.r.key != o.key with
  | true=>
   left
   have hs:rdl_S c ((),(),(),w,o,e) i v=(.ret,(),(),(),Rec.mk (0:Int) (ByteArray.mk #[]),o,(1:Int)):=by
    unfold rdl_S
    show (bif v.r.key != o.key then _ else _)=_
    rw[hb];rfl
   exact ⟨by simp[hb],i,o,by simp only[scan,hs]⟩
  | false=>
   have hs:rdl_S c ((),(),(),w,o,e) i v=(.normal,(),(),(),w,Rec.mk o.key (rdT c.1 o.text v.r.text),e):=by
    unfold rdl_S
    show (bif v.r.key != o.key then _ else _)=_
    rw[hb];rfl
   simp only[scan,hs,List.any_cons,hb,Bool.false_or,List.map_cons,List.foldl_cons]
   exact rdl_scan c l (i+1) w (Rec.mk o.key (rdT c.1 o.text v.r.text)) e
noncomputable def ltH3:LTab Tryd.prog:=LTab.nil.cons 60 11 (rdl_C rdl_I rdl_M) rdl_ok
noncomputable abbrev lamH3:Lam:=ltH3.lam
theorem lamH3_ok:∀ f k L,lamH3 f k=some L→∀ b∈loopsOf Tryd.prog f,lkey b=k→LoopOk Tryd.prog b L.g:=ltH3.ok
end Go.Proofs.YtmegbepjdololaaDoor

namespace Go.Proofs.YtmegbepjdololaaDoor
open Go.RowKit Go.Sx
set_option maxRecDepth 100000
set_option linter.unusedVariables false
abbrev aFLM:DA (Fn×List Many):=.cons dF (.one dLM)
noncomputable def red_q1 (f:Fn) (l:List Many):Ex ×
 rdl_G:=
 loopF (fun g=>rdl_R g.fst g.snd.fst g.snd.snd.fst g.snd.snd.snd.fst g.snd.snd.snd.snd.fst g.snd.snd.snd.snd.snd.fst g.snd.snd.snd.snd.snd.snd.fst g.snd.snd.snd.snd.snd.snd.snd.fst g.snd.snd.snd.snd.snd.snd.snd.snd.fst g.snd.snd.snd.snd.snd.snd.snd.snd.snd) rdl_M ((),(),(),f,Rec.mk (0:Int) (ByteArray.mk #[]),(l.getD (0:Nat) eM.dflt).r,eM.lst (l.length - (1:Nat)) (shEl (1:Nat) (eM.els l)),(↑(l.length - (1:Nat)):Int),(0:Int),(0:Int))
noncomputable def red_F (f:Fn) (l:List Many):Dv.T dRE:=
 bif chkF (8:Int) f != (0:Int) then (Rec.mk (0:Int) (ByteArray.mk #[]),chkF (8:Int) f)
 else bif bagF (eM.ag l) != (0:Int) then (Rec.mk (0:Int) (ByteArray.mk #[]),bagF (eM.ag l)) else bif (↑l.length:Int)==(0:Int) then (Rec.mk (0:Int) (ByteArray.mk #[]),(4:Int)) else bif exB Ex.ret (red_q1 f l).fst then ((red_q1 f l).snd.snd.snd.snd.snd.fst,(red_q1 f l).snd.snd.snd.snd.snd.snd.snd.snd.snd.snd) else (Rec.mk (red_q1 f l).snd.snd.snd.snd.snd.snd.fst.key (cutS (red_q1 f l).snd.snd.snd.snd.snd.snd.fst.text (64:Int)),(0:Int))
def red_side (f:Fn) (l:List Many):Prop:=
 (8:Int)=(8:Int)∧((chkF (8:Int) f != (0:Int))=false→eM.okL l∧(eM.ag l).length≤KB∧((bagF (eM.ag l) != (0:Int))=false→((↑l.length:Int)==(0:Int))=false→((0:Int)≤(0:Int)∧(0:Int)<(↑l.length:Int))∧l.length≤l.length∧((0:Int)≤(1:Int)∧(1:Int)≤(↑l.length:Int))∧(∀ (e:Nat),e<l.length - (1:Nat)→eM.Ok (shEl (1:Nat) (eM.els l) e))∧Lp.ixJ (fun c=>c.snd.snd) (fun c=>c.snd.fst) rdl_K (rdl_f ((),(),(),f,Rec.mk (0:Int) (ByteArray.mk #[]),(l.getD (0:Nat) eM.dflt).r,eM.lst (l.length - (1:Nat)) (shEl (1:Nat) (eM.els l)),(↑(l.length - (1:Nat)):Int),(0:Int),(0:Int)))))
theorem red_okS (pre:DA.T aFLM→List Prop) (h:∀ g,DA.bd aFLM g→(∀ p∈pre g,p)→red_side g.1 g.2):FnPure Tryd.prog 60 aFLM dRE (fun g=>red_F g.1 g.2) pre:=pure_of_sideS (Γ:=(PTab.gamz tabH1 [] [])) (Λ:=lamH3) (PTab.okz tabH1 [] []) lamH3_ok 100 default (fun g=>red_side g.1 g.2) (fun g=>by kernel_rfl) (fun g=>by kernel_rfl) h
end Go.Proofs.YtmegbepjdololaaDoor

namespace Go.Proofs.YtmegbepjdololaaDoor
open Go.RowKit Go.Sx Go.Lp
set_option maxRecDepth 100000
noncomputable def redT (f:Fn) (m:Many) (t:List Many):BA:=(t.map (·.r.text)).foldl (rdT f) m.r.text
noncomputable def redF (f:Fn):List Many→Rec×Int
 | []=>bif chkF 8 f != (0:Int) then (noRec,chkF 8 f) else (noRec,4)
 | m :: t=>bif chkF 8 f != (0:Int) then (noRec,chkF 8 f) else bif bagF (m :: t) != (0:Int) then (noRec,bagF (m :: t)) else bif t.any (fun v=>v.r.key != m.r.key) then (noRec,1) else (⟨m.r.key,cutS (redT f m t) 64⟩,0)
theorem redF_nil (f:Fn):redF f []=bif chkF 8 f != (0:Int) then (noRec,chkF 8 f) else (noRec,4):=by rw[redF]
theorem redF_cons (f:Fn) (m:Many) (t:List Many):redF f (m :: t)=bif chkF 8 f != (0:Int) then (noRec,chkF 8 f) else bif bagF (m :: t) != (0:Int) then (noRec,bagF (m :: t)) else bif t.any (fun v=>v.r.key != m.r.key) then (noRec,1) else (⟨m.r.key,cutS (redT f m t) 64⟩,0):=by rw[redF]
theorem red_K0 {m:Many} {t:List Many} (hl:(m :: t).length≤1000) (hb:bagF (m :: t)=0) (f:Fn) (w:Rec) (e:Int):rdl_K (f,t,(t.length:Int)) ((),(),(),w,m.r,e) 0:=by
 have hz:=(bag_zero (by unfold KB;omega) hb).1
 simp only[List.length_cons] at hl
 refine ⟨by show t.length≤1000;omega,fun x hx=>((chkR_iff x.r).1 (hz x (List.mem_cons_of_mem _ hx))).1,?_⟩
 have:=((chkR_iff m.r).1 (hz m (List.mem_cons_self ..))).1
 show (m.r.text.size:Int)≤64 * (0+1)
 omega
theorem red_q1_eq (f:Fn) (m:Many) (t:List Many) (hl:(m :: t).length≤1000) (hb:bagF (m :: t)=0) :
  red_q1 f (m :: t)=((scan 0 (rdl_S (f,t,(t.length:Int))) 0 t ((),(),(),noRec,m.r,0)).1,rdl_g ((scan 0 (rdl_S (f,t,(t.length:Int))) 0 t ((),(),(),noRec,m.r,0)).2.1,(f,t,(t.length:Int)),(scan 0 (rdl_S (f,t,(t.length:Int))) 0 t ((),(),(),noRec,m.r,0)).2.2)):=by
 have hk:=red_K0 hl hb f noRec 0
 simp only[List.length_cons] at hl
 have hrun:=rdl_run (f,t,(t.length:Int)) ((),(),(),noRec,m.r,0) rfl (by show t.length≤maxLen;unfold maxLen;omega) hk
 have hq:red_q1 f (m :: t)=loopF rdl_RR rdl_M (rdl_g (0,(f,t,(t.length:Int)),((),(),(),noRec,m.r,0))):=by
  unfold red_q1
  have e:eM.lst ((m :: t).length - 1) (shEl 1 (eM.els (m :: t)))=t:=by
   rw[eM.lst_sh 1 _ (m :: t) (by simp only[List.length_cons];omega)]
   simp only[List.drop_one,List.tail_cons,List.length_cons,Nat.add_sub_cancel,List.take_length]
  rw[e]
  rfl
 rw[hq,hrun]
theorem red_ok:FnPure Tryd.prog 60 aFLM dRE (fun g=>redF g.1 g.2) (fun g=>[g.2.length≤1000]):=
 pure_congr (red_okS _ fun g _ hp=>by
  obtain ⟨f,l⟩:=g
  have h2:l.length≤1000:=hp _ (List.mem_cons_self ..)
  show red_side f l
  refine ⟨rfl,fun _=>⟨by rw[eM.okL_eq];trivial,by rw[eM.ag_eq];unfold KB;omega,fun hb hn=>?_⟩⟩
  rw[eM.ag_eq] at hb
  have hb:bagF l=0:=by simpa using hb
  cases l with
  | nil=>cases hn
  | cons m t=>
   refine ⟨⟨Int.le_refl _,by simp only[List.length_cons];omega⟩,Nat.le_refl _,⟨by decide,by simp only[List.length_cons];omega⟩,fun e _=>eM.ok_els (m :: t) _,?_⟩
   have e:eM.lst ((m :: t).length - 1) (shEl 1 (eM.els (m :: t)))=t:=by
    rw[eM.lst_sh 1 _ (m :: t) (by simp only[List.length_cons];omega)]
    simp only[List.drop_one,List.tail_cons,List.length_cons,Nat.add_sub_cancel,List.take_length]
   rw[e]
   have hk:=red_K0 h2 hb f noRec 0
   simp only[List.length_cons] at h2
   exact ixJ0 (by rfl) (by show t.length≤maxLen;unfold maxLen;omega) hk) fun g _ hp=>by
  obtain ⟨f,l⟩:=g
  have h2:l.length≤1000:=hp _ (List.mem_cons_self ..)
  show red_F f l=redF f l
  unfold red_F
  rw[eM.ag_eq]
  cases l with
  | nil=>rw[redF_nil];rfl
  | cons m t=>
   rw[redF_cons]
   cases hf:chkF 8 f != (0:Int) with
   | true=>rfl
   | false=>
    rw[cond_false,cond_false]
    cases hb:bagF (m :: t) != (0:Int) with
    | true=>rfl
    | false=>
     have hb0:bagF (m :: t)=0:=by simpa using hb
     have e0:(((m :: t).length:Int)==(0:Int))=false:=by
      rw[beq_eq_false_iff_ne]
      simp only[List.length_cons]
      omega
     rw[cond_false,cond_false,e0,cond_false,red_q1_eq f m t h2 hb0]
     rcases rdl_scan (f,t,(t.length:Int)) t 0 noRec m.r 0 with ⟨k1,j,o',k2⟩ | ⟨k1,j,k2⟩
     ·rw[k1,k2];rfl
     ·rw[k1,k2];rfl
noncomputable def tabH5:PTab Tryd.prog:=tabH1.cons 60 (pconP aFLM dRE (fun g=>redF g.1 g.2) (fun g=>[g.2.length≤1000])) (conP_ok red_ok puRE)
end Go.Proofs.YtmegbepjdololaaDoor

namespace Go.Proofs.YtmegbepjdololaaDoor
open Go.RowKit Go.Sx
set_option maxRecDepth 100000
set_option linter.unusedVariables false
abbrev e8b:El Int:=eInt .u8
abbrev rrl_G:Type:=Unit×Unit×Unit×Fn×Rec×Rec×List Many×List Int×Int×Int
noncomputable def rrl_LP:LP 4 rrl_G:=.pair (.fix 4 2 (.p 0 0)) (.pair (.fix 4 4 (.p 1 0)) (.pair (.fix 4 8 (.p 2 0)) (.pair (.obj 4 0 66 eF) (.pair (.obj 4 1 46 eR) (.pair (.obj 4 2 46 eR) (.pair (.slot 4 1 dLM) (.pair (.row 4 9 5 e8b) (.pair (.slot 4 10 dI) (.slot 4 5 dI)))))))))
noncomputable def rrl_R (_u1:Unit) (_u2:Unit) (_u3:Unit) (f:Fn) (w:Rec) (o:Rec) (xs:List Many) (al:List Int) (i:Int) (e:Int):Ex×rrl_G:=
 bif decide (i<(↑xs.length:Int)) then bif (xs.getD i.toNat eM.dflt).r.key != o.key then (Ex.ret,(),(),(),f,Rec.mk (0:Int) (ByteArray.mk #[]),o,eM.ag xs,e8b.ag al,i,(1:Int)) else (Ex.normal,(),(),(),f,w,Rec.mk (bif f.kind==(32:Int)||f.kind==(33:Int)&&longS (xs.getD i.toNat eM.dflt).r.text o.text then (xs.getD i.toNat eM.dflt).r.key else o.key) (bif f.kind==(32:Int)||f.kind==(33:Int)&&longS (xs.getD i.toNat eM.dflt).r.text o.text then (xs.getD i.toNat eM.dflt).r.text else o.text),eM.ag xs,e8b.lst (min (al.length+ByteArray.size (xs.getD i.toNat eM.dflt).r.text) al.length) (e8b.els al)++e8b.lst (al.length+ByteArray.size (xs.getD i.toNat eM.dflt).r.text - al.length) (byteEl (xs.getD i.toNat eM.dflt).r.text),IntKind.i64.wrap (i+(1:Int)),e)
 else (Ex.exit (0:Nat),(),(),(),f,w,o,eM.ag xs,e8b.ag al,i,e)
def rrl_side (_u1:Unit) (_u2:Unit) (_u3:Unit) (f:Fn) (w:Rec) (o:Rec) (xs:List Many) (al:List Int) (i:Int) (e:Int):Prop:=
 (decide (i<(↑xs.length:Int))=true→((0:Int)≤i∧i<(↑xs.length:Int))∧(((xs.getD i.toNat eM.dflt).r.key != o.key)=true→eM.okL xs∧al.length≤al.length∧∀ (e:Nat),e<al.length→True)∧(((xs.getD i.toNat eM.dflt).r.key != o.key)=false→(al.length≤al.length∧True∧al.length+ByteArray.size (xs.getD i.toNat eM.dflt).r.text≤maxLen∧(al.length+ByteArray.size (xs.getD i.toNat eM.dflt).r.text) * Tryd.prog.types[(5:Nat)].bytes≤(140737488355328:Nat))∧((!f.kind==(32:Int))=true→(f.kind==(33:Int))=true→ByteArray.size (xs.getD i.toNat eM.dflt).r.text≤KB)∧((!f.kind==(32:Int))=true→(f.kind==(33:Int))=true→ByteArray.size o.text≤KB)∧eM.okL xs∧al.length+ByteArray.size (xs.getD i.toNat eM.dflt).r.text≤al.length+ByteArray.size (xs.getD i.toNat eM.dflt).r.text∧(∀ (e:Nat),e<min (al.length+ByteArray.size (xs.getD i.toNat eM.dflt).r.text) al.length→True)∧∀ (e:Nat),e<al.length+ByteArray.size (xs.getD i.toNat eM.dflt).r.text - al.length→True))∧(decide (i<(↑xs.length:Int))=false→eM.okL xs∧al.length≤al.length∧∀ (e:Nat),e<al.length→True)
theorem rrl_one:((loopsOf Tryd.prog 61).filter fun c=>Nat.beq (lkey c) 12).length=1:=by kernel_rfl
abbrev rrl_GC:Type:=Fn×List Many
abbrev rrl_GB:Type:=Unit×Unit×Unit×Rec×Rec×List Int×Int
def rrl_f (g:rrl_G):Int×rrl_GC×rrl_GB:=(g.2.2.2.2.2.2.2.2.1,(g.2.2.2.1,g.2.2.2.2.2.2.1),(g.1,g.2.1,g.2.2.1,g.2.2.2.2.1,g.2.2.2.2.2.1,g.2.2.2.2.2.2.2.1,g.2.2.2.2.2.2.2.2.2))
def rrl_g (d:Int×rrl_GC×rrl_GB):rrl_G:=(d.2.2.1,d.2.2.2.1,d.2.2.2.2.1,d.2.1.1,d.2.2.2.2.2.1,d.2.2.2.2.2.2.1,d.2.1.2,d.2.2.2.2.2.2.2.1,d.1,d.2.2.2.2.2.2.2.2)
theorem rrl_es (g:rrl_G):(rrl_R g.1 g.2.1 g.2.2.1 g.2.2.2.1 g.2.2.2.2.1 g.2.2.2.2.2.1 g.2.2.2.2.2.2.1 g.2.2.2.2.2.2.2.1 g.2.2.2.2.2.2.2.2.1 g.2.2.2.2.2.2.2.2.2).1=.normal∨(rrl_R g.1 g.2.1 g.2.2.1 g.2.2.2.1 g.2.2.2.2.1 g.2.2.2.2.2.1 g.2.2.2.2.2.2.1 g.2.2.2.2.2.2.2.1 g.2.2.2.2.2.2.2.2.1 g.2.2.2.2.2.2.2.2.2).1∈([.ret,.exit 0]:List Ex):=by
 unfold rrl_R
 repeat' (first | (left;rfl) | (right;simp only[cond_true,cond_false];simp;done) | (rw[Bool.cond_eq_ite];split))
noncomputable abbrev rrl_C (Inv:rrl_G→List Prop) (m:rrl_G→Nat):LCon:=loopR [.ret,.exit 0] (loopBody Tryd.prog 61 12) rrl_LP [] 80 Inv (fun g=>rrl_R g.1 g.2.1 g.2.2.1 g.2.2.2.1 g.2.2.2.2.1 g.2.2.2.2.2.1 g.2.2.2.2.2.2.1 g.2.2.2.2.2.2.2.1 g.2.2.2.2.2.2.2.2.1 g.2.2.2.2.2.2.2.2.2) m
theorem rrl_loop (Inv:rrl_G→List Prop) (m:rrl_G→Nat) (hs:∀ g,allP (Inv g)→rrl_side g.1 g.2.1 g.2.2.1 g.2.2.2.1 g.2.2.2.2.1 g.2.2.2.2.2.1 g.2.2.2.2.2.2.1 g.2.2.2.2.2.2.2.1 g.2.2.2.2.2.2.2.2.1 g.2.2.2.2.2.2.2.2.2) (hg:Goes (fun g:rrl_G=>rrl_R g.1 g.2.1 g.2.2.1 g.2.2.2.1 g.2.2.2.2.1 g.2.2.2.2.2.1 g.2.2.2.2.2.2.1 g.2.2.2.2.2.2.2.1 g.2.2.2.2.2.2.2.2.1 g.2.2.2.2.2.2.2.2.2) m fun g=>allP (Inv g)):∀ b∈loopsOf Tryd.prog 61,lkey b=12→LoopOk Tryd.prog b (rrl_C Inv m).g:=loop_run (Γ:=(PTab.gamz tabH5 [] [])) (Λ:=noΛ) (PTab.okz tabH5 [] []) noΛ_ok 100 61 12 80 rrl_LP [] Inv (fun g=>rrl_R g.1 g.2.1 g.2.2.1 g.2.2.2.1 g.2.2.2.2.1 g.2.2.2.2.2.1 g.2.2.2.2.2.2.1 g.2.2.2.2.2.2.2.1 g.2.2.2.2.2.2.2.2.1 g.2.2.2.2.2.2.2.2.2) (fun g=>rrl_side g.1 g.2.1 g.2.2.1 g.2.2.2.1 g.2.2.2.2.1 g.2.2.2.2.2.1 g.2.2.2.2.2.2.1 g.2.2.2.2.2.2.2.1 g.2.2.2.2.2.2.2.2.1 g.2.2.2.2.2.2.2.2.2) m default [.ret,.exit 0] rrl_one (fun rd T B HL HB ds g=>by kernel_rfl) (fun rd T B HL HB ds g=>by kernel_rfl) hs hg rrl_es
end Go.Proofs.YtmegbepjdololaaDoor

namespace Go.Proofs.YtmegbepjdololaaDoor
open Go.RowKit Go.Sx Go.Lp
set_option maxRecDepth 100000
def rrT (f:Fn) (o v:BA):BA:=bif f.kind==(32:Int)||f.kind==(33:Int)&&longS v o then v else o
noncomputable def rrl_S (c:rrl_GC) (b:rrl_GB) (_:Int) (v:Many):Ex×rrl_GB:=bif v.r.key != b.2.2.2.2.1.key then (.ret,(),(),(),Rec.mk (0:Int) (ByteArray.mk #[]),b.2.2.2.2.1,b.2.2.2.2.2.1,(1:Int)) else (.normal,(),(),(),b.2.2.2.1,Rec.mk (bif c.1.kind==(32:Int)||c.1.kind==(33:Int)&&longS v.r.text b.2.2.2.2.1.text then v.r.key else b.2.2.2.2.1.key) (rrT c.1 b.2.2.2.2.1.text v.r.text),b.2.2.2.2.2.1++intsL v.r.text,b.2.2.2.2.2.2)
def rrl_K (c:rrl_GC) (b:rrl_GB) (i:Int):Prop:=c.2.length≤1000∧(∀ x∈c.2,x.r.text.size≤64)∧b.2.2.2.2.1.text.size≤64∧(b.2.2.2.2.2.1.length:Int)≤64 * i
abbrev rrl_I (g:rrl_G):List Prop:=ixI (fun c:rrl_GC=>(c.2.length:Int)) (fun c:rrl_GC=>c.2) rrl_K (rrl_f g)
abbrev rrl_M (g:rrl_G):Nat:=ixM (fun c:rrl_GC=>(c.2.length:Int)) (rrl_f g)
theorem rrT_size (f:Fn) (o v:BA) (ho:o.size≤64) (hv:v.size≤64):(rrT f o v).size≤64:=by
 unfold rrT
 cases f.kind==(32:Int)||f.kind==(33:Int)&&longS v o with
 | true=>exact hv
 | false=>exact ho
theorem rrl_P:ixP rrl_S (fun c:rrl_GC=>c.2) rrl_K:=by
 intro c b i a h ha hn
 obtain ⟨h1,h2,h3,h4⟩:=h
 unfold rrl_S at hn ⊢
 cases hb:a.r.key != b.2.2.2.2.1.key with
 | true=>rw[hb] at hn;cases hn
 | false=>
  rw[cond_false]
  have hm:=h2 a (List.mem_of_getElem? ha)
  refine ⟨h1,h2,rrT_size _ _ _ h3 hm,?_⟩
  show ((b.2.2.2.2.2.1++intsL a.r.text).length:Int)≤_
  rw[List.length_append,intsL_len]
  omega
noncomputable abbrev rrl_RR (g:rrl_G):Ex×rrl_G:=rrl_R g.1 g.2.1 g.2.2.1 g.2.2.2.1 g.2.2.2.2.1 g.2.2.2.2.2.1 g.2.2.2.2.2.2.1 g.2.2.2.2.2.2.2.1 g.2.2.2.2.2.2.2.2.1 g.2.2.2.2.2.2.2.2.2
theorem app_bytes (al:List Int) (s:BA):e8b.lst (min (al.length+s.size) al.length) (e8b.els al)++e8b.lst (al.length+s.size - al.length) (byteEl s)=al++intsL s:=by
 rw[Nat.min_eq_right (by omega),Nat.add_sub_cancel_left,e8b.lst_els]
 exact congrArg (al++·) (byte_lst s)
theorem rrl_RF (d:Int×rrl_GC×rrl_GB) (hi:allP (ixI (fun c:rrl_GC=>(c.2.length:Int)) (fun c:rrl_GC=>c.2) rrl_K d)):rrl_RR (rrl_g d)=((ixF 0 (fun c:rrl_GC=>(c.2.length:Int)) (fun c:rrl_GC=>c.2) eM.dflt rrl_S d).1,rrl_g (ixF 0 (fun c:rrl_GC=>(c.2.length:Int)) (fun c:rrl_GC=>c.2) eM.dflt rrl_S d).2):=by
 obtain ⟨i,⟨f,xs⟩,u1,u2,u3,w,o,al,e⟩:=d
 show rrl_R u1 u2 u3 f w o xs al i e=_
 unfold rrl_R ixF rrl_S
 simp only[El.ag_eq,app_bytes]
 cases decide (i<(xs.length:Int)) with
 | false=>rfl
 | true=>
  simp only[cond_true]
  generalize ((xs.getD i.toNat eM.dflt).r.key != o.key)=z
  cases z <;> rfl
theorem rrl_ok:∀ b∈loopsOf Tryd.prog 61,lkey b=12→LoopOk Tryd.prog b (rrl_C rrl_I rrl_M).g:=by
 refine rrl_loop rrl_I rrl_M (fun g hi=>?_) (ix_conj_goes (fun _=>rfl) (fun _=>rfl) rrl_RF rrl_P)
 obtain ⟨u1,u2,u3,f,w,o,xs,al,i,e⟩:=g
 obtain ⟨h1,h2,h3,h4,h5,h6,h7,h8⟩:=hi _ (List.mem_cons_self ..)
 have h3:0≤i:=h3
 have h4:i≤(xs.length:Int):=h4
 have h5:xs.length≤1000:=h5
 have h6:∀ x∈xs,x.r.text.size≤64:=h6
 have h7:o.text.size≤64:=h7
 have h8:(al.length:Int)≤64 * i:=h8
 have hk:eM.okL xs:=by rw[eM.okL_eq];trivial
 have hn:al.length≤al.length∧∀ (e:Nat),e<al.length→True:=⟨Nat.le_refl _,fun _ _=>trivial⟩
 show rrl_side u1 u2 u3 f w o xs al i e
 refine ⟨fun hlt=>?_,fun _=>⟨hk,hn⟩⟩
 have hlt:i<(xs.length:Int):=by simpa using hlt
 have hl:i.toNat<xs.length:=by omega
 have hv:(xs.getD i.toNat eM.dflt).r.text.size≤64:=by
  rw[List.getD_eq_getElem?_getD,List.getElem?_eq_getElem hl]
  exact h6 _ (List.getElem_mem _)
 have h9:Tryd.prog.types[(5:Nat)].bytes=1:=by kernel_rfl
 exact ⟨⟨h3,hlt⟩,fun _=>⟨hk,hn⟩,fun _=>⟨⟨Nat.le_refl _,trivial,by unfold maxLen;omega,by rw[h9];omega⟩,fun _ _=>by unfold KB;omega,fun _ _=>by unfold KB;omega,hk,Nat.le_refl _,fun _ _=>trivial,fun _ _=>trivial⟩⟩
theorem rrl_run1 (f:Fn) (xs:List Many) (b:rrl_GB) (h:1≤xs.length) (hl:xs.length≤maxLen) (k:rrl_K (f,xs) b 1):loopF rrl_RR rrl_M (rrl_g (1,(f,xs),b))=((scan 0 (rrl_S (f,xs)) 1 (xs.drop 1) b).1,rrl_g ((scan 0 (rrl_S (f,xs)) 1 (xs.drop 1) b).2.1,(f,xs),(scan 0 (rrl_S (f,xs)) 1 (xs.drop 1) b).2.2)):=by
 have inv:allP (ixI (fun c:rrl_GC=>(c.2.length:Int)) (fun c:rrl_GC=>c.2) rrl_K (1,(f,xs),b)):=fun q hq=>by
  simp only[ixI,List.mem_singleton] at hq
  subst hq
  exact ⟨rfl,hl,by show (0:Int)≤1;decide,by show (1:Int)≤(xs.length:Int);omega,k⟩
 have hc:=loopF_conj (F:=rrl_RR) (F':=ixF 0 (fun c:rrl_GC=>(c.2.length:Int)) (fun c:rrl_GC=>c.2) eM.dflt rrl_S) (m:=rrl_M) (m':=ixM fun c:rrl_GC=>(c.2.length:Int)) (I':=fun d=>allP (ixI (fun c:rrl_GC=>(c.2.length:Int)) (fun c:rrl_GC=>c.2) rrl_K d)) rrl_f rrl_g (fun _=>rfl) (fun _=>rfl) (fun _=>rfl) rrl_RF (ix_goes rrl_P) (rrl_g (1,(f,xs),b)) inv
 rw[hc]
 show ((loopF (ixF 0 _ _ eM.dflt rrl_S) _ (1,(f,xs),b)).1,rrl_g (loopF (ixF 0 _ _ eM.dflt rrl_S) _ (1,(f,xs),b)).2)=_
 rw[ix_run rrl_P _ inv]
 rfl
theorem rrl_scan (c:rrl_GC):∀ (l:List Many) (i:Int) (w o:Rec) (al:List Int) (e:Int),
  (l.any (fun v=>v.r.key != o.key)=true∧∃ j o' al',scan 0 (rrl_S c) i l ((),(),(),w,o,al,e)=(.ret,j,(),(),(),Rec.mk 0 (ByteArray.mk #[]),o',al',1)) ∨
  (l.any (fun v=>v.r.key != o.key)=false∧∃ j,scan 0 (rrl_S c) i l ((),(),(),w,o,al,e)=(.exit 0,j,(),(),(),w,Rec.mk o.key ((l.map (·.r.text)).foldl (rrT c.1) o.text),al++l.flatMap (fun v=>intsL v.r.text),e))
 | [],i,w,o,al,e=>.inr ⟨rfl,i,by simp[scan]⟩
 | v :: l,i,w,o,al,e=>by
  cases hb:v.r.key != o.key with
  | true=>
   left
   have hs:rrl_S c ((),(),(),w,o,al,e) i v=(.ret,(),(),(),Rec.mk (0:Int) (ByteArray.mk #[]),o,al,(1:Int)):=by
    unfold rrl_S
    show (bif v.r.key != o.key then _ else _)=_
    rw[hb];rfl
   exact ⟨by simp[hb],i,o,al,by simp only[scan,hs]⟩
  | false=>
   have hk:v.r.key=o.key:=by simpa using hb
   have hs:rrl_S c ((),(),(),w,o,al,e) i v=(.normal,(),(),(),w,Rec.mk o.key (rrT c.1 o.text v.r.text),al++intsL v.r.text,e):=by
    unfold rrl_S
    show (bif v.r.key != o.key then _ else (Ex.normal,(),(),(),w,Rec.mk (bif c.1.kind==(32:Int)||c.1.kind==(33:Int)&&longS v.r.text o.text then v.r.key else o.key) (rrT c.1 o.text v.r.text),al++intsL v.r.text,e))=_
    rw[hb,hk,Bool.cond_self];rfl
   simp only[scan,hs,List.any_cons,hb,Bool.false_or,List.map_cons,List.foldl_cons,List.flatMap_cons]
   rw[← List.append_assoc]
   exact rrl_scan c l (i+1) w (Rec.mk o.key (rrT c.1 o.text v.r.text)) (al++intsL v.r.text) e
noncomputable def ltK2:LTab Tryd.prog:=LTab.nil.cons 61 12 (rrl_C rrl_I rrl_M) rrl_ok
noncomputable abbrev lamK2:Lam:=ltK2.lam
theorem lamK2_ok:∀ f k L,lamK2 f k=some L→∀ b∈loopsOf Tryd.prog f,lkey b=k→LoopOk Tryd.prog b L.g:=ltK2.ok
end Go.Proofs.YtmegbepjdololaaDoor

namespace Go.Proofs.YtmegbepjdololaaDoor
open Go.RowKit Go.Sx
set_option maxRecDepth 100000
set_option linter.unusedVariables false
noncomputable def rrd_q1 (f:Fn) (l:List Many):Ex ×
 rrl_G:=
 loopF (fun g=>rrl_R g.fst g.snd.fst g.snd.snd.fst g.snd.snd.snd.fst g.snd.snd.snd.snd.fst g.snd.snd.snd.snd.snd.fst g.snd.snd.snd.snd.snd.snd.fst g.snd.snd.snd.snd.snd.snd.snd.fst g.snd.snd.snd.snd.snd.snd.snd.snd.fst g.snd.snd.snd.snd.snd.snd.snd.snd.snd) rrl_M ((),(),(),f,Rec.mk (0:Int) (ByteArray.mk #[]),(l.getD (0:Nat) eM.dflt).r,eM.ag l,e8b.lst (ByteArray.size (l.getD (0:Nat) eM.dflt).r.text) (byteEl (l.getD (0:Nat) eM.dflt).r.text),(1:Int),(0:Int))
noncomputable def rrd_F (f:Fn) (l:List Many):Dv.T dRE:=
 bif chkF (8:Int) f != (0:Int) then (Rec.mk (0:Int) (ByteArray.mk #[]),chkF (8:Int) f)
 else bif bagF (eM.ag l) != (0:Int) then (Rec.mk (0:Int) (ByteArray.mk #[]),bagF (eM.ag l)) else bif (↑l.length:Int)==(0:Int) then (Rec.mk (0:Int) (ByteArray.mk #[]),(4:Int)) else bif exB Ex.ret (rrd_q1 f l).fst then ((rrd_q1 f l).snd.snd.snd.snd.snd.fst,(rrd_q1 f l).snd.snd.snd.snd.snd.snd.snd.snd.snd.snd) else (Rec.mk (rrd_q1 f l).snd.snd.snd.snd.snd.snd.fst.key (bif (rrd_q1 f l).snd.snd.snd.snd.fst.kind==(34:Int) then cutS (strOf (intsOf IntKind.u8 (rrd_q1 f l).snd.snd.snd.snd.snd.snd.snd.snd.fst.length (e8b.els (rrd_q1 f l).snd.snd.snd.snd.snd.snd.snd.snd.fst))) (64:Int) else (rrd_q1 f l).snd.snd.snd.snd.snd.snd.fst.text),(0:Int))
def rrd_side (f:Fn) (l:List Many):Prop:=
 (8:Int)=(8:Int)∧((chkF (8:Int) f != (0:Int))=false→eM.okL l∧(eM.ag l).length≤KB∧((bagF (eM.ag l) != (0:Int))=false→((↑l.length:Int)==(0:Int))=false→((0:Int)≤(0:Int)∧(0:Int)<(↑l.length:Int))∧ByteArray.size (l.getD (0:Nat) eM.dflt).r.text≤maxLen∧eM.okL l∧ByteArray.size (l.getD (0:Nat) eM.dflt).r.text≤ByteArray.size (l.getD (0:Nat) eM.dflt).r.text∧(∀ (e:Nat),e<ByteArray.size (l.getD (0:Nat) eM.dflt).r.text→True)∧Lp.ixJ (fun c=>(↑c.snd.length:Int)) (fun c=>c.snd) rrl_K (rrl_f ((),(),(),f,Rec.mk (0:Int) (ByteArray.mk #[]),(l.getD (0:Nat) eM.dflt).r,eM.ag l,e8b.lst (ByteArray.size (l.getD (0:Nat) eM.dflt).r.text) (byteEl (l.getD (0:Nat) eM.dflt).r.text),(1:Int),(0:Int)))∧(exB Ex.ret (rrd_q1 f l).fst=false→(((rrd_q1 f l).snd.snd.snd.snd.fst.kind==(34:Int))=true→(rrd_q1 f l).snd.snd.snd.snd.snd.snd.snd.snd.fst.length≤(rrd_q1 f l).snd.snd.snd.snd.snd.snd.snd.snd.fst.length∧∀ (e:Nat),e<(rrd_q1 f l).snd.snd.snd.snd.snd.snd.snd.snd.fst.length→((ElE.fn (e8b.els (rrd_q1 f l).snd.snd.snd.snd.snd.snd.snd.snd.fst)).at e).all SV.one=true)∧(((rrd_q1 f l).snd.snd.snd.snd.fst.kind==(34:Int))=true→∀ (e:Nat),e<(rrd_q1 f l).snd.snd.snd.snd.snd.snd.snd.snd.fst.length→(Sx.intOf IntKind.u8 ((ElE.fn (e8b.els (rrd_q1 f l).snd.snd.snd.snd.snd.snd.snd.snd.fst)).at e)).isSome=true)∧(((rrd_q1 f l).snd.snd.snd.snd.fst.kind==(34:Int))=true→(strOf (intsOf IntKind.u8 (rrd_q1 f l).snd.snd.snd.snd.snd.snd.snd.snd.fst.length (e8b.els (rrd_q1 f l).snd.snd.snd.snd.snd.snd.snd.snd.fst))).size≤KB))))
theorem rrd_okS (pre:DA.T aFLM→List Prop) (h:∀ g,DA.bd aFLM g→(∀ p∈pre g,p)→rrd_side g.1 g.2):FnPure Tryd.prog 61 aFLM dRE (fun g=>rrd_F g.1 g.2) pre:=pure_of_sideS (Γ:=(PTab.gamz tabH5 [] [])) (Λ:=lamK2) (PTab.okz tabH5 [] []) lamK2_ok 100 default (fun g=>rrd_side g.1 g.2) (fun g=>by kernel_rfl) (fun g=>by kernel_rfl) h
end Go.Proofs.YtmegbepjdololaaDoor
