/- Chapter 6: the kinds of functions. Printed by treegen.py. -/
import Derived.Test.YtmegbepjdololaaDoorZG0908bae7
import Derived.Test.YtmegbepjdololaaDoorZG0678006a
import Derived.Test.YtmegbepjdololaaDoorZG0703b2f7
set_option linter.unusedVariables false
set_option linter.unusedSimpArgs false
set_option linter.constructorNameAsVariable false
set_option linter.all false

namespace Go.Proofs.YtmegbepjdololaaDoor
open Go.RowKit Go.Sx
set_option maxRecDepth 100000
set_option linter.unusedVariables false
noncomputable def fck_q1 (k:Int) (f:Fn):Ex ×
 lfc_G:=
 loopF (fun g=>lfc_R g.fst g.snd.fst g.snd.snd.fst g.snd.snd.snd.fst g.snd.snd.snd.snd.fst g.snd.snd.snd.snd.snd.fst) lfc_M ((),(),(uses_F k).fst,(uses_F k).snd,f,(0:Int),LoopState.ready,none)
noncomputable def fck_F (k:Int) (f:Fn):Dv.T dI:=
 bif decide ((uses_F k).snd<(0:Int)) then bif !conj ([f.kind==(0:Int)]++([f.a==(0:Int)]++([decide (f.s=ByteArray.mk #[])]++[]))) then (60:Int) else (0:Int)
 else bif exB Ex.ret (fck_q1 k f).fst then (fck_q1 k f).snd.snd.snd.snd.snd.snd.fst else (60:Int)
def fck_side (k:Int) (f:Fn):Prop:=
 decide ((uses_F k).snd<(0:Int))=false→CodeIs (rangeOf Tryd.prog (54:Nat) (0:Nat)).snd.fst (rangeOf Tryd.prog (54:Nat) (0:Nat)).snd.fst∧CodeIs (rangeOf Tryd.prog (54:Nat) (0:Nat)).snd.snd (rangeOf Tryd.prog (54:Nat) (0:Nat)).snd.snd∧∃ k_1 c b,((),(),(uses_F k).fst,(uses_F k).snd,f,(0:Int),LoopState.ready,none)=lfc_mk k_1 c b∧lfc_P c b k_1
theorem fck_okS (pre:DA.T aIF→List Prop) (h:∀ g,DA.bd aIF g→(∀ p∈pre g,p)→fck_side g.1 g.2):FnPure Tryd.prog 54 aIF dI (fun g=>fck_F g.1 g.2) pre:=pure_of_sideS (Γ:=(PTab.gamz tabC1 [] [])) (Λ:=lamC4) (PTab.okz tabC1 [] []) lamC4_ok 100 default (fun g=>fck_side g.1 g.2) (fun g=>by kernel_rfl) (fun g=>by kernel_rfl) h
noncomputable def rus_q1 (k:Int):Ex ×
 lru2_G:=
 loopF (fun g=>lru2_R g.fst g.snd.fst g.snd.snd) lru2_M (bif k==(2:Int) then (8:Int) else bif k==(3:Int) then (13:Int) else bif k==(4:Int) then (22:Int) else bif k==(8:Int) then (34:Int) else bif k==(11:Int) then (42:Int) else (0:Int),[],bif k==(2:Int) then (1:Int) else bif k==(3:Int) then (11:Int) else bif k==(4:Int) then (21:Int) else bif k==(8:Int) then (31:Int) else bif k==(11:Int) then (41:Int) else (1:Int))
noncomputable def rus_F (k:Int):Rv.T (.list eI):=
 eI.ag (rus_q1 k).snd.snd.fst
def rus_side (k:Int):Prop:=
 (∃ k_1 c b,(bif k==(2:Int) then (8:Int) else bif k==(3:Int) then (13:Int) else bif k==(4:Int) then (22:Int) else bif k==(8:Int) then (34:Int) else bif k==(11:Int) then (42:Int) else (0:Int),[],bif k==(2:Int) then (1:Int) else bif k==(3:Int) then (11:Int) else bif k==(4:Int) then (21:Int) else bif k==(8:Int) then (31:Int) else bif k==(11:Int) then (41:Int) else (1:Int))=lru2_mk k_1 c b∧lru2_P c b k_1)∧(rus_q1 k).snd.snd.fst.length≤(rus_q1 k).snd.snd.fst.length∧∀ (e:Nat),e<(rus_q1 k).snd.snd.fst.length→True
theorem rus_okS (pre:DA.T aI→List Prop) (h:∀ g,DA.bd aI g→(∀ p∈pre g,p)→rus_side g):FnPure Tryd.prog 53 aI (Rv.D (.list eI)) (fun g=>rus_F g) pre:=res_of_side (R:=(.list eI)) (Γ:=(PTab.gamz tabC1 [] [])) (Λ:=lamC4) (PTab.okz tabC1 [] []) lamC4_ok 100 default (fun g=>rus_side g) (fun g=>by kernel_rfl) (fun g=>by kernel_rfl) h
end Go.Proofs.YtmegbepjdololaaDoor

namespace Go.Proofs.YtmegbepjdololaaDoor
open Go.RowKit Go.Sx
set_option maxRecDepth 100000
set_option linter.unusedVariables false
noncomputable def tld_q1 (c:Int×Int) (m:Int):Ex ×
 ltl_G:=
 loopF (fun g=>ltl_R g.fst g.snd.fst g.snd.snd.fst g.snd.snd.snd.fst g.snd.snd.snd.snd.fst) ltl_M ((),c.snd,c.fst,m,[],LoopState.ready,none)
noncomputable def tld_F (c:Int×Int) (m:Int):Rv.T (.list eI):=
 bif exB Ex.ret (tld_q1 c m).fst then eI.lst (bif exB Ex.ret (tld_q1 c m).fst then (tld_q1 c m).snd.snd.snd.snd.snd.fst.length else (tld_q1 c m).snd.snd.snd.snd.snd.fst.length) (eI.els (tld_q1 c m).snd.snd.snd.snd.snd.fst)
 else eI.lst (bif exB Ex.ret (tld_q1 c m).fst then (tld_q1 c m).snd.snd.snd.snd.snd.fst.length else (tld_q1 c m).snd.snd.snd.snd.snd.fst.length) (eI.els (tld_q1 c m).snd.snd.snd.snd.snd.fst)
def tld_side (c:Int×Int) (m:Int):Prop:=
 CodeIs (rangeOf Tryd.prog (57:Nat) (0:Nat)).snd.fst (rangeOf Tryd.prog (57:Nat) (0:Nat)).snd.fst∧CodeIs (rangeOf Tryd.prog (57:Nat) (0:Nat)).snd.snd (rangeOf Tryd.prog (57:Nat) (0:Nat)).snd.snd∧(∃ k c_1 b,((),c.snd,c.fst,m,[],LoopState.ready,none)=ltl_mk k c_1 b∧ltl_P c_1 b k)∧((bif exB Ex.ret (tld_q1 c m).fst then (tld_q1 c m).snd.snd.snd.snd.snd.fst.length else (tld_q1 c m).snd.snd.snd.snd.snd.fst.length)≤bif exB Ex.ret (tld_q1 c m).fst then (tld_q1 c m).snd.snd.snd.snd.snd.fst.length else (tld_q1 c m).snd.snd.snd.snd.snd.fst.length)∧(∀ (e:Nat),(e<bif exB Ex.ret (tld_q1 c m).fst then (tld_q1 c m).snd.snd.snd.snd.snd.fst.length else (tld_q1 c m).snd.snd.snd.snd.snd.fst.length)→True)∧∀ (e:Nat),(e<bif exB Ex.ret (tld_q1 c m).fst then (tld_q1 c m).snd.snd.snd.snd.snd.fst.length else (tld_q1 c m).snd.snd.snd.snd.snd.fst.length)→True
theorem tld_okS (pre:DA.T aIt→List Prop) (h:∀ g,DA.bd aIt g→(∀ p∈pre g,p)→tld_side g.1 g.2):FnPure Tryd.prog 57 aIt (Rv.D (.list eI)) (fun g=>tld_F g.1 g.2) pre:=res_of_side (R:=(.list eI)) (Γ:=(PTab.gamz tabC1 [] [])) (Λ:=lamC3t) (PTab.okz tabC1 [] []) lamC3t_ok 100 default (fun g=>tld_side g.1 g.2) (fun g=>by kernel_rfl) (fun g=>by kernel_rfl) h
end Go.Proofs.YtmegbepjdololaaDoor

namespace Go.Proofs.YtmegbepjdololaaDoor
open Go.RowKit Go.Sx Go.Lp
noncomputable def usesL (k:Int):List Int:=upTo (uses_F k).1 (uses_F k).2
theorem uses_small (k:Int):(0≤(uses_F k).1∧(uses_F k).1≤100)∧(-1≤(uses_F k).2∧(uses_F k).2≤100):=by
 unfold uses_F
 generalize (k==(2:Int))=b1
 generalize (k==(3:Int))=b2
 generalize (k==(4:Int))=b3
 generalize (k==(8:Int))=b4
 generalize (k==(11:Int))=b5
 revert b1 b2 b3 b4 b5
 decide
def noFn:Fn:=⟨0,0,ByteArray.mk #[]⟩
noncomputable def chkF (k:Int) (f:Fn):Int:=
 bif decide ((uses_F k).2<0) then (bif decide (f=noFn) then 0 else 60) else bif (decide ((uses_F k).1≤f.kind)&&decide (f.kind≤(uses_F k).2))&&(num_F f&&textF f) then 0 else 60
theorem conj_F (f:Fn):conj ([f.kind==(0:Int)]++([f.a==(0:Int)]++([decide (f.s=ByteArray.mk #[])]++[])))=decide (f=noFn):=by
 obtain ⟨k,a,s⟩:=f
 unfold noFn
 rw[Bool.eq_iff_iff]
 simp[conj]
theorem fck_ok:FnPure Tryd.prog 54 aIF dI (fun g=>chkF g.1 g.2) (fun g=>[g.2.s.size≤KB]):=
 pure_congr (fck_okS _ fun g _ hp=>by
  obtain ⟨k,f⟩:=g
  have h:f.s.size≤KB:=hp _ (List.mem_cons_self ..)
  obtain ⟨⟨a1,a2⟩,a3,a4⟩:=uses_small k
  exact fun _=>⟨rfl,rfl,(uses_F k).1,⟨(uses_F k).2,f⟩,(0,.ready,none),rfl,rfl,by omega,by omega,⟨by show -1000≤(uses_F k).2;omega,by show (uses_F k).2≤1000;omega⟩,h⟩) fun g _ hp=>by
  obtain ⟨k,f⟩:=g
  have h:f.s.size≤KB:=hp _ (List.mem_cons_self ..)
  obtain ⟨⟨a1,a2⟩,a3,a4⟩:=uses_small k
  obtain ⟨k',hr⟩:=lfc_run (uses_F k).1 (uses_F k).2 f 0 ⟨by omega,by omega⟩ ⟨by omega,by omega⟩ h
  have hr:fck_q1 k f=_:=hr
  show fck_F k f=chkF k f
  unfold fck_F chkF
  rw[hr,conj_F]
  cases decide ((uses_F k).2<0) with
  | true=>cases decide (f=noFn) <;> rfl
  | false=>
   cases hb:(decide ((uses_F k).1≤f.kind)&&decide (f.kind≤(uses_F k).2))&&(num_F f&&textF f) <;> rfl
theorem rus_bounds (k:Int):(bif k==(2:Int) then (8:Int) else bif k==(3:Int) then (13:Int) else bif k==(4:Int) then (22:Int) else bif k==(8:Int) then (34:Int) else bif k==(11:Int) then (42:Int) else (0:Int))≤100 ∧
  0≤(bif k==(2:Int) then (8:Int) else bif k==(3:Int) then (13:Int) else bif k==(4:Int) then (22:Int) else bif k==(8:Int) then (34:Int) else bif k==(11:Int) then (42:Int) else (0:Int)) ∧
  (bif k==(2:Int) then (1:Int) else bif k==(3:Int) then (11:Int) else bif k==(4:Int) then (21:Int) else bif k==(8:Int) then (31:Int) else bif k==(11:Int) then (41:Int) else (1:Int))≤100 ∧
  0≤(bif k==(2:Int) then (1:Int) else bif k==(3:Int) then (11:Int) else bif k==(4:Int) then (21:Int) else bif k==(8:Int) then (31:Int) else bif k==(11:Int) then (41:Int) else (1:Int)) ∧
  upTo (bif k==(2:Int) then (1:Int) else bif k==(3:Int) then (11:Int) else bif k==(4:Int) then (21:Int) else bif k==(8:Int) then (31:Int) else bif k==(11:Int) then (41:Int) else (1:Int)) (bif k==(2:Int) then (8:Int) else bif k==(3:Int) then (13:Int) else bif k==(4:Int) then (22:Int) else bif k==(8:Int) then (34:Int) else bif k==(11:Int) then (42:Int) else (0:Int))=usesL k:=by
 unfold usesL uses_F
 generalize (k==(2:Int))=b1
 generalize (k==(3:Int))=b2
 generalize (k==(4:Int))=b3
 generalize (k==(8:Int))=b4
 generalize (k==(11:Int))=b5
 refine ⟨?_,?_,?_,?_,?_⟩
 ·revert b1 b2 b3 b4 b5;decide
 ·revert b1 b2 b3 b4 b5;decide
 ·revert b1 b2 b3 b4 b5;decide
 ·revert b1 b2 b3 b4 b5;decide
 ·cases b1 <;> cases b2 <;> cases b3 <;> cases b4 <;> cases b5 <;> rfl
theorem rus_ok:FnPure Tryd.prog 53 aI dLI usesL (fun _=>[]):=
 pure_congr (rus_okS _ fun k _ _=>by
  obtain ⟨b1,b2,b3,b4,_⟩:=rus_bounds k
  exact ⟨⟨_,_,[],rfl,Int.le_trans (by decide) b4,Int.le_trans b3 (by decide),⟨Int.le_trans (by decide) b2,Int.le_trans b1 (by decide)⟩,Int.le_trans (by decide) (Int.add_le_add b4 (Int.le_refl 1000))⟩,Nat.le_refl _,fun _ _=>trivial⟩) fun k _ _=>by
  obtain ⟨b1,b2,b3,b4,b5⟩:=rus_bounds k
  show eI.ag (rus_q1 k).2.2.1=_
  rw[eI.ag_eq]
  have hr:(rus_q1 k).2.2.1=_:=(lru2_run _ _ ⟨by omega,by omega⟩ ⟨by omega,by omega⟩).2
  rw[hr,b5]
theorem tld_ok:FnPure Tryd.prog 57 aIt dLI (fun g=>(upTo g.1.1 g.1.2).take g.2.toNat) (fun g=>[(0≤g.1.1∧g.1.1≤100)∧(-1≤g.1.2∧g.1.2≤100)]):=
 pure_congr (tld_okS _ fun g _ hp=>by
  obtain ⟨c,m⟩:=g
  have h:=hp _ (List.mem_cons_self ..)
  simp only at h
  obtain ⟨⟨a1,a2⟩,a3,a4⟩:=h
  refine ⟨rfl,rfl,⟨c.1,⟨c.2,m⟩,([],.ready,none),rfl,rfl,by omega,by omega,⟨by show -1000≤c.2;omega,by show c.2≤1000;omega⟩,by simp only[List.length_nil];omega⟩,Nat.le_refl _,fun _ _=>trivial,fun _ _=>trivial⟩) fun g _ hp=>by
  obtain ⟨c,m⟩:=g
  have h:=hp _ (List.mem_cons_self ..)
  simp only at h
  obtain ⟨⟨a1,a2⟩,a3,a4⟩:=h
  have hr:(tld_q1 c m).2.2.2.2.2.1=_:=ltl_run c.1 c.2 m ⟨by omega,by omega⟩ ⟨by omega,by omega⟩
  show tld_F c m=_
  unfold tld_F
  simp only[Bool.cond_self,eI.lst_els]
  exact hr
noncomputable def tabC7:PTab Tryd.prog:=((tabC1.cons 54 (pconP aIF dI (fun g=>chkF g.1 g.2) (fun g=>[g.2.s.size≤KB])) (conP_ok fck_ok puI)).cons 53 (pconR aI dLI usesL (fun _=>[])) (conR_ok rus_ok)).cons 57 (pconR aIt dLI (fun g=>(upTo g.1.1 g.1.2).take g.2.toNat) (fun g=>[(0≤g.1.1∧g.1.1≤100)∧(-1≤g.1.2∧g.1.2≤100)])) (conR_ok tld_ok)
end Go.Proofs.YtmegbepjdololaaDoor

namespace Go.Proofs.YtmegbepjdololaaDoor
open Go.RowKit Go.Sx
set_option maxRecDepth 100000
set_option linter.unusedVariables false
noncomputable def rfc_q1 (k:Int) (f:Fn):Ex ×
 lrc_G:=
 loopF (fun g=>lrc_R g.fst g.snd.fst g.snd.snd.fst g.snd.snd.snd.fst g.snd.snd.snd.snd) lrc_M (eI.ag (usesL k),(0:Int),(),f,(0:Int))
noncomputable def rfc_F (k:Int) (f:Fn):Dv.T dI:=
 bif (↑(usesL k).length:Int)==(0:Int)&&conj ([f.kind==(0:Int)]++([f.a==(0:Int)]++([decide (f.s=ByteArray.mk #[])]++[]))) then (0:Int)
 else bif exB Ex.ret (rfc_q1 k f).fst then (rfc_q1 k f).snd.snd.snd.snd.snd else (60:Int)
def rfc_side (k:Int) (f:Fn):Prop:=
 ((↑(usesL k).length:Int)==(0:Int)&&conj ([f.kind==(0:Int)]++([f.a==(0:Int)]++([decide (f.s=ByteArray.mk #[])]++[]))))=false→eI.okL (usesL k)∧Lp.ixJ (fun c=>(↑c.fst.length:Int)) (fun c=>c.fst) lrc_K (lrc_f (eI.ag (usesL k),(0:Int),(),f,(0:Int)))
theorem rfc_okS (pre:DA.T aIF→List Prop) (h:∀ g,DA.bd aIF g→(∀ p∈pre g,p)→rfc_side g.1 g.2):FnPure Tryd.prog 55 aIF dI (fun g=>rfc_F g.1 g.2) pre:=pure_of_sideS (Γ:=(PTab.gamz tabC7 [] [])) (Λ:=lamC4) (PTab.okz tabC7 [] []) lamC4_ok 100 default (fun g=>rfc_side g.1 g.2) (fun g=>by kernel_rfl) (fun g=>by kernel_rfl) h
noncomputable def both_F (k:Int) (f:Fn) (r:Rec):Dv.T dI:=
 bif chkF k f != (0:Int) then chkF k f else chkR r
def both_side (k:Int) (f:Fn) (r:Rec):Prop:=
 ByteArray.size f.s≤KB
theorem both_okS (pre:DA.T aIFR→List Prop) (h:∀ g,DA.bd aIFR g→(∀ p∈pre g,p)→both_side g.1 g.2.1 g.2.2):FnPure Tryd.prog 92 aIFR dI (fun g=>both_F g.1 g.2.1 g.2.2) pre:=pure_of_sideS (Γ:=(PTab.gamz tabC7 [] [])) (Λ:=lamC4) (PTab.okz tabC7 [] []) lamC4_ok 100 default (fun g=>both_side g.1 g.2.1 g.2.2) (fun g=>by kernel_rfl) (fun g=>by kernel_rfl) h
end Go.Proofs.YtmegbepjdololaaDoor

namespace Go.Proofs.YtmegbepjdololaaDoor
open Go.RowKit Go.Sx Go.Lp
theorem mem_upTo (lo hi v:Int):v∈upTo lo hi↔lo≤v∧v≤hi:=by
 unfold upTo
 rw[List.mem_map]
 constructor
 ·rintro ⟨j,h1,rfl⟩
  rw[List.mem_range] at h1
  omega
 ·rintro ⟨h1,h2⟩
  exact ⟨(v - lo).toNat,by rw[List.mem_range];omega,by omega⟩
theorem upTo_len (lo hi:Int):(upTo lo hi).length=(hi+1 - lo).toNat:=by simp[upTo]
theorem uses_none (k:Int):((usesL k).length=0)↔(uses_F k).2<0:=by
 unfold usesL
 rw[upTo_len]
 unfold uses_F
 generalize (k==(2:Int))=b1
 generalize (k==(3:Int))=b2
 generalize (k==(4:Int))=b3
 generalize (k==(8:Int))=b4
 generalize (k==(11:Int))=b5
 revert b1 b2 b3 b4 b5
 decide
theorem uses_len (k:Int):(usesL k).length≤8:=by
 unfold usesL
 rw[upTo_len]
 unfold uses_F
 generalize (k==(2:Int))=b1
 generalize (k==(3:Int))=b2
 generalize (k==(4:Int))=b3
 generalize (k==(8:Int))=b4
 generalize (k==(11:Int))=b5
 revert b1 b2 b3 b4 b5
 decide
theorem rfc_ok:FnPure Tryd.prog 55 aIF dI (fun g=>chkF g.1 g.2) (fun g=>[g.2.s.size≤KB]):=
 pure_congr (rfc_okS _ fun g _ hp=>by
  obtain ⟨k,f⟩:=g
  have h:f.s.size≤KB:=hp _ (List.mem_cons_self ..)
  have hl:=uses_len k
  show rfc_side k f
  unfold rfc_side
  simp only[El.okL_eq,El.ag_eq,true_and]
  exact fun _=>⟨rfl,by show (usesL k).length≤maxLen;unfold maxLen;omega,Int.le_refl _,by show (0:Int)≤((usesL k).length:Int);omega,h⟩) fun g _ hp=>by
  obtain ⟨k,f⟩:=g
  have h:f.s.size≤KB:=hp _ (List.mem_cons_self ..)
  have hl:=uses_len k
  have hn:=uses_none k
  have hrun:=lrc_run (usesL k,f) ((),0) rfl (by show (usesL k).length≤maxLen;unfold maxLen;omega) h
  have hq:rfc_q1 k f=loopF lrc_RR lrc_M (lrc_g (0,(usesL k,f),(),0)):=by
   unfold rfc_q1
   rw[eI.ag_eq]
   rfl
  show rfc_F k f=chkF k f
  unfold rfc_F chkF
  rw[conj_F,hq,hrun]
  have hs:=search (x:=0) (st:=lrc_S (usesL k,f)) (p:=fun v=>v==f.kind&&(rnum_F f&&textF f)) (r:=fun _ _ b=>(b.1,0)) (fun b i a=>rfl) (usesL k) ((),0)
  have hany:(usesL k).any (fun v=>v==f.kind&&(rnum_F f&&textF f))=((decide ((uses_F k).1≤f.kind)&&decide (f.kind≤(uses_F k).2))&&(num_F f&&textF f)):=by
   have e1:rnum_F f=num_F f:=rfl
   rw[e1,Bool.eq_iff_iff,List.any_eq_true]
   simp only[Bool.and_eq_true,beq_iff_eq,decide_eq_true_eq]
   constructor
   ·rintro ⟨v,h1,rfl,h2⟩
    exact ⟨(mem_upTo _ _ _).1 h1,h2⟩
   ·rintro ⟨h1,h2⟩
    exact ⟨f.kind,(mem_upTo _ _ _).2 h1,rfl,h2⟩
  by_cases hz:(uses_F k).2<0
  ·have h0:=hn.2 hz
   have hnil:=List.length_eq_zero_iff.1 h0
   rw[decide_eq_true hz,cond_true,h0]
   cases decide (f=noFn) with
   | true=>rfl
   | false=>
    rcases hs with ⟨h1,j,_,a,_,_,hs⟩ | ⟨_,hs⟩
    ·rw[hnil] at h1;cases h1
    ·rw[hs];rfl
  ·have h0:(((usesL k).length:Int)==0)=false:=by
    rw[beq_eq_false_iff_ne]
    intro hc
    exact hz (hn.1 (by omega))
   rw[decide_eq_false hz,cond_false,h0]
   rcases hs with ⟨h1,j,_,a,_,_,hs⟩ | ⟨h1,hs⟩
   ·rw[hany] at h1;rw[hs,h1];rfl
   ·rw[hany] at h1;rw[hs,h1];rfl
noncomputable def bothF (k:Int) (f:Fn) (r:Rec):Int:=bif chkF k f != (0:Int) then chkF k f else chkR r
theorem both_ok:FnPure Tryd.prog 92 aIFR dI (fun g=>bothF g.1 g.2.1 g.2.2) (fun g=>[g.2.1.s.size≤KB]):=
 pure_congr (both_okS _ fun g _ hp=>hp _ (List.mem_cons_self ..)) fun g _ _=>rfl
noncomputable def tabC9:PTab Tryd.prog:=(tabC7.cons 55 (pconP aIF dI (fun g=>chkF g.1 g.2) (fun g=>[g.2.s.size≤KB])) (conP_ok rfc_ok puI)).cons 92 (pconP aIFR dI (fun g=>bothF g.1 g.2.1 g.2.2) (fun g=>[g.2.1.s.size≤KB])) (conP_ok both_ok puI)
end Go.Proofs.YtmegbepjdololaaDoor

namespace Go.Proofs.YtmegbepjdololaaDoor
open Go.RowKit Go.Sx
set_option maxRecDepth 100000
set_option linter.unusedVariables false
abbrev aPt:DA (BA×List Rune×Int×Int):=.cons dStr (.cons dLU (.cons dI (.one dI)))
noncomputable def part_F (s:BA) (l:List Rune) (a:Int) (b:Int):Dv.T dStr:=
 ByteArray.extract s (bif decide (a<(↑l.length:Int)) then (l.getD a.toNat eU.dflt).at' else (↑(ByteArray.size s):Int)).toNat (bif decide (b<(↑l.length:Int)) then (l.getD b.toNat eU.dflt).at' else (↑(ByteArray.size s):Int)).toNat
def part_side (s:BA) (l:List Rune) (a:Int) (b:Int):Prop:=
 (decide (a<(↑l.length:Int))=true→(0:Int)≤a∧a<(↑l.length:Int))∧(decide (b<(↑l.length:Int))=true→(0:Int)≤b∧b<(↑l.length:Int))∧(((0:Int)≤bif decide (b<(↑l.length:Int)) then (l.getD b.toNat eU.dflt).at' else (↑(ByteArray.size s):Int))∧(bif decide (b<(↑l.length:Int)) then (l.getD b.toNat eU.dflt).at' else (↑(ByteArray.size s):Int))≤(↑(ByteArray.size s):Int))∧((0:Int)≤bif decide (a<(↑l.length:Int)) then (l.getD a.toNat eU.dflt).at' else (↑(ByteArray.size s):Int))∧(bif decide (a<(↑l.length:Int)) then (l.getD a.toNat eU.dflt).at' else (↑(ByteArray.size s):Int))≤(↑(bif decide (b<(↑l.length:Int)) then (l.getD b.toNat eU.dflt).at' else (↑(ByteArray.size s):Int)).toNat:Int)
theorem part_okS (pre:DA.T aPt→List Prop) (h:∀ g,DA.bd aPt g→(∀ p∈pre g,p)→part_side g.1 g.2.1 g.2.2.1 g.2.2.2):FnPure Tryd.prog 110 aPt dStr (fun g=>part_F g.1 g.2.1 g.2.2.1 g.2.2.2) pre:=pure_of_sideS (Γ:=(PTab.gamz tabC9 [] [])) (Λ:=noΛ) (PTab.okz tabC9 [] []) noΛ_ok 100 default (fun g=>part_side g.1 g.2.1 g.2.2.1 g.2.2.2) (fun g=>by kernel_rfl) (fun g=>by kernel_rfl) h
end Go.Proofs.YtmegbepjdololaaDoor

namespace Go.Proofs.YtmegbepjdololaaDoor
open Go.RowKit Go.Sx Go.Lp
def posN (s:BA) (i:Nat):Nat:=wsum ((rsL (toL s)).take i)
theorem rp_len:∀ (l:List (Nat×Nat)) (p:Nat),(rpF p l).length=l.length
 | [],_=>rfl
 | d :: l,p=>by simp only[rpF,List.length_cons,rp_len l]
theorem rp_get:∀ (l:List (Nat×Nat)) (p i:Nat) (h:i<l.length),(rpF p l)[i]?=some (p+wsum (l.take i),l[i].1)
 | [],_,_,h=>by simp at h
 | (c,w) :: l,p,0,h=>by simp[rpF,wsum]
 | (c,w) :: l,p,i+1,h=>by
  simp only[rpF,List.getElem?_cons_succ,List.take_succ_cons,List.getElem_cons_succ]
  rw[rp_get l (p+w) i (by simpa using h)]
  simp only[wsum,List.map_cons,List.sum_cons]
  congr 2
  omega
theorem r05_len (s:BA):(runes05 s).length=(rsL (toL s)).length:=by unfold runes05 rpL;rw[List.length_map,rp_len]
theorem r05_at (s:BA) (i:Nat) (h:i<(runes05 s).length):(runes05 s).getD i eU.dflt=⟨(posN s i:Int),((rsL (toL s))[i]'(by rw[← r05_len];exact h)).1⟩:=by
 have h':i<(rsL (toL s)).length:=by rw[← r05_len];exact h
 rw[List.getD_eq_getElem?_getD]
 unfold runes05 rpL
 rw[List.getElem?_map,rp_get _ 0 i h']
 simp[posN]
theorem wsum_take_le:∀ (l:List (Nat×Nat)) (i j:Nat),i≤j→wsum (l.take i)≤wsum (l.take j)
 | [],i,j,_=>by simp
 | d :: l,0,j,_=>by simp[wsum]
 | d :: l,i+1,0,h=>by omega
 | d :: l,i+1,j+1,h=>by
  have:=wsum_take_le l i j (by omega)
  simp only[List.take_succ_cons,wsum,List.map_cons,List.sum_cons] at this ⊢
  omega
theorem posN_mono (s:BA) {i j:Nat} (h:i≤j):posN s i≤posN s j:=wsum_take_le _ i j h
theorem posN_all (s:BA) (i:Nat) (h:(runes05 s).length≤i):posN s i=s.size:=by
 unfold posN
 rw[List.take_of_length_le (by rw[← r05_len];exact h),wsum_rsL,toL_len]
theorem posN_le (s:BA) (i:Nat):posN s i≤s.size:=by
 rcases Nat.le_total i (runes05 s).length with h | h
 ·exact Nat.le_trans (posN_mono s h) (Nat.le_of_eq (posN_all s _ (Nat.le_refl _)))
 ·exact Nat.le_of_eq (posN_all s i h)
theorem pos_if (s:BA) (i:Nat):(bif decide ((i:Int)<((runes05 s).length:Int)) then ((runes05 s).getD ((i:Int)).toNat eU.dflt).at' else (s.size:Int))=(posN s i:Int):=by
 by_cases h:i<(runes05 s).length
 ·rw[decide_eq_true (by omega),cond_true,Int.toNat_natCast,r05_at s i h]
 ·rw[decide_eq_false (by omega),cond_false,posN_all s i (by omega)]
def partS (s:BA) (a b:Nat):BA:=s.extract (posN s a) (posN s b)
theorem part_ok:FnPure Tryd.prog 110 aPt dStr (fun g=>partS g.1 g.2.2.1.toNat g.2.2.2.toNat) (fun g=>[g.2.1=runes05 g.1,0≤g.2.2.1∧g.2.2.1≤g.2.2.2]):=
 pure_congr (part_okS _ fun g _ hp=>by
  obtain ⟨s,l,a,b⟩:=g
  have h1:l=runes05 s:=hp _ (List.mem_cons_self ..)
  have h2:0≤a∧a≤b:=hp _ (List.mem_cons_of_mem _ (List.mem_cons_self ..))
  obtain ⟨i,rfl⟩:∃ i:Nat,a=i:=⟨a.toNat,by omega⟩
  obtain ⟨j,rfl⟩:∃ j:Nat,b=j:=⟨b.toNat,by omega⟩
  subst h1
  show part_side s (runes05 s) i j
  unfold part_side
  rw[pos_if,pos_if]
  have:=posN_le s j
  have:=posN_mono s (show i≤j by omega)
  refine ⟨fun h=>⟨by omega,of_decide_eq_true h⟩,fun h=>⟨by omega,of_decide_eq_true h⟩,by omega,by omega⟩) fun g _ hp=>by
  obtain ⟨s,l,a,b⟩:=g
  have h1:l=runes05 s:=hp _ (List.mem_cons_self ..)
  have h2:0≤a∧a≤b:=hp _ (List.mem_cons_of_mem _ (List.mem_cons_self ..))
  obtain ⟨i,rfl⟩:∃ i:Nat,a=i:=⟨a.toNat,by omega⟩
  obtain ⟨j,rfl⟩:∃ j:Nat,b=j:=⟨b.toNat,by omega⟩
  subst h1
  show part_F s (runes05 s) i j=_
  unfold part_F
  rw[pos_if,pos_if]
  rfl
end Go.Proofs.YtmegbepjdololaaDoor

namespace Go.Proofs.YtmegbepjdololaaDoor
open Go.RowKit Go.Sx
set_option maxRecDepth 100000
set_option linter.unusedVariables false
end Go.Proofs.YtmegbepjdololaaDoor

namespace Go.Proofs.YtmegbepjdololaaDoor
open Go.RowKit Go.Sx Go.Lp
def turnN (s:BA):Nat→BA
 | 0=>ByteArray.mk #[]
 | n+1=>partS s n (n+1)++turnN s n
def turnS (s:BA):BA:=turnN s (runes05 s).length
end Go.Proofs.YtmegbepjdololaaDoor

namespace Go.Proofs.YtmegbepjdololaaDoor
open Go.RowKit Go.Sx Go.Lp
set_option maxRecDepth 100000
end Go.Proofs.YtmegbepjdololaaDoor

namespace Go.Proofs.YtmegbepjdololaaDoor
open Go.RowKit Go.Sx
set_option maxRecDepth 100000
set_option linter.unusedVariables false
end Go.Proofs.YtmegbepjdololaaDoor

namespace Go.Sx
end Go.Sx
namespace Go.Proofs.YtmegbepjdololaaDoor
open Go.RowKit Go.Sx Go.Lp
end Go.Proofs.YtmegbepjdololaaDoor

namespace Go.Proofs.YtmegbepjdololaaDoor
open Go.RowKit Go.Sx
set_option maxRecDepth 100000
set_option linter.unusedVariables false
end Go.Proofs.YtmegbepjdololaaDoor

namespace Go.Proofs.YtmegbepjdololaaDoor
open Go.RowKit Go.Sx
set_option maxRecDepth 100000
set_option linter.unusedVariables false
end Go.Proofs.YtmegbepjdololaaDoor

namespace Go.Proofs.YtmegbepjdololaaDoor
open Go.RowKit Go.Sx Go.Lp
theorem toL_inj {a b:BA} (h:toL a=toL b):a=b:=by
 rw[← ofToL a,← ofToL b]
 show (⟨(toL a).toArray⟩:ByteArray)=⟨(toL b).toArray⟩
 rw[h]
def mapT (f:Fn) (t:BA):BA:=bif f.kind==(2:Int) then upS t else bif f.kind==(3:Int) then partS t 0 f.a.toNat else bif f.kind==(4:Int) then turnS t else bif f.kind==(5:Int) then cutS (t++f.s) 64 else t
end Go.Proofs.YtmegbepjdololaaDoor

namespace Go.Proofs.YtmegbepjdololaaDoor
open Go.RowKit Go.Sx
set_option maxRecDepth 100000
set_option linter.unusedVariables false
end Go.Proofs.YtmegbepjdololaaDoor

namespace Go.Proofs.YtmegbepjdololaaDoor
open Go.RowKit Go.Sx Go.Lp
end Go.Proofs.YtmegbepjdololaaDoor

namespace Go.Proofs.YtmegbepjdololaaDoor
open Go.RowKit Go.Sx
set_option maxRecDepth 100000
set_option linter.unusedVariables false
end Go.Proofs.YtmegbepjdololaaDoor

namespace Go.Proofs.YtmegbepjdololaaDoor
open Go.RowKit Go.Sx Go.Lp
set_option maxRecDepth 100000
end Go.Proofs.YtmegbepjdololaaDoor

namespace Go.Proofs.YtmegbepjdololaaDoor
open Go.RowKit Go.Sx Go.Lp
end Go.Proofs.YtmegbepjdololaaDoor

namespace Go.Proofs.YtmegbepjdololaaDoor
open Go.RowKit Go.Sx Go.Lp
end Go.Proofs.YtmegbepjdololaaDoor

namespace Go.Proofs.YtmegbepjdololaaDoor
open Go.RowKit Go.Sx
set_option maxRecDepth 100000
set_option linter.unusedVariables false
end Go.Proofs.YtmegbepjdololaaDoor

namespace Go.Proofs.YtmegbepjdololaaDoor
open Go.RowKit Go.Sx Go.Lp
end Go.Proofs.YtmegbepjdololaaDoor

namespace Go.Proofs.YtmegbepjdololaaDoor
open Go.RowKit Go.Sx Go.Lp
set_option maxRecDepth 100000
end Go.Proofs.YtmegbepjdololaaDoor

namespace Go.Proofs.YtmegbepjdololaaDoor
open Go.RowKit Go.Sx Go.Lp
set_option maxRecDepth 100000
end Go.Proofs.YtmegbepjdololaaDoor

namespace Go.Proofs.YtmegbepjdololaaDoor
open Go.RowKit Go.Sx
set_option maxRecDepth 100000
set_option linter.unusedVariables false
end Go.Proofs.YtmegbepjdololaaDoor

namespace Go.Proofs.YtmegbepjdololaaDoor
open Go.RowKit Go.Sx Go.Lp
set_option maxRecDepth 100000
end Go.Proofs.YtmegbepjdololaaDoor

namespace Go.Proofs.YtmegbepjdololaaDoor
open Go.RowKit Go.Sx
set_option maxRecDepth 100000
set_option linter.unusedVariables false
end Go.Proofs.YtmegbepjdololaaDoor

namespace Go.Proofs.YtmegbepjdololaaDoor
open Go.RowKit Go.Sx Go.Lp
end Go.Proofs.YtmegbepjdololaaDoor

namespace Go.Proofs.YtmegbepjdololaaDoor
open Go.RowKit Go.Sx
set_option maxRecDepth 100000
set_option linter.unusedVariables false
end Go.Proofs.YtmegbepjdololaaDoor

namespace Go.Proofs.YtmegbepjdololaaDoor
open Go.RowKit Go.Sx
set_option maxRecDepth 100000
set_option linter.unusedVariables false
end Go.Proofs.YtmegbepjdololaaDoor

namespace Go.Proofs.YtmegbepjdololaaDoor
open Go.RowKit Go.Sx Go.Lp
end Go.Proofs.YtmegbepjdololaaDoor

namespace Go.Proofs.YtmegbepjdololaaDoor
open Go.RowKit Go.Sx Go.Lp
end Go.Proofs.YtmegbepjdololaaDoor

namespace Go.Proofs.YtmegbepjdololaaDoor
open Go.RowKit Go.Sx Go.Lp
end Go.Proofs.YtmegbepjdololaaDoor

namespace Go.Proofs.YtmegbepjdololaaDoor
open Go.RowKit Go.Sx Go.Lp
end Go.Proofs.YtmegbepjdololaaDoor

namespace Go.Proofs.YtmegbepjdololaaDoor
open Go.RowKit Go.Sx
set_option maxRecDepth 100000
set_option linter.unusedVariables false
abbrev eqU_G:Type:=List Rune×List Rune×Int×Int×Bool
noncomputable def eqU_LP:LP 0 eqU_G:=.pair (.slot 0 0 dLU) (.pair (.slot 0 1 dLU) (.pair (.slot 0 12 dI) (.pair (.slot 0 13 dI) (.slot 0 4 dBool))))
noncomputable def eqU_R (xs:List Rune) (ys:List Rune) (n:Int) (i:Int) (r:Bool):Ex×eqU_G:=
 bif decide (i<n) then bif !conj ([(xs.getD i.toNat eU.dflt).at'==(ys.getD i.toNat eU.dflt).at']++([(xs.getD i.toNat eU.dflt).r==(ys.getD i.toNat eU.dflt).r]++[])) then (Ex.ret,eU.ag xs,eU.ag ys,n,i,false) else (Ex.normal,eU.ag xs,eU.ag ys,n,IntKind.i64.wrap (i+(1:Int)),r)
 else (Ex.exit (0:Nat),eU.ag xs,eU.ag ys,n,i,r)
def eqU_side (xs:List Rune) (ys:List Rune) (n:Int) (i:Int) (r:Bool):Prop:=
 (decide (i<n)=true→((0:Int)≤i∧i<(↑xs.length:Int))∧((0:Int)≤i∧i<(↑ys.length:Int))∧((!conj ([(xs.getD i.toNat eU.dflt).at'==(ys.getD i.toNat eU.dflt).at']++([(xs.getD i.toNat eU.dflt).r==(ys.getD i.toNat eU.dflt).r]++[])))=true→eU.okL xs∧eU.okL ys)∧((!conj ([(xs.getD i.toNat eU.dflt).at'==(ys.getD i.toNat eU.dflt).at']++([(xs.getD i.toNat eU.dflt).r==(ys.getD i.toNat eU.dflt).r]++[])))=false→eU.okL xs∧eU.okL ys))∧(decide (i<n)=false→eU.okL xs∧eU.okL ys)
theorem eqU_one:((loopsOf Tryd.prog 17).filter fun c=>Nat.beq (lkey c) 4).length=1:=by kernel_rfl
abbrev eqU_GC:Type:=List Rune×List Rune×Int
abbrev eqU_GB:Type:=Bool
def eqU_f (g:eqU_G):Int×eqU_GC×eqU_GB:=(g.2.2.2.1,(g.1,g.2.1,g.2.2.1),g.2.2.2.2)
def eqU_g (d:Int×eqU_GC×eqU_GB):eqU_G:=(d.2.1.1,d.2.1.2.1,d.2.1.2.2,d.1,d.2.2)
theorem eqU_es (g:eqU_G):(eqU_R g.1 g.2.1 g.2.2.1 g.2.2.2.1 g.2.2.2.2).1=.normal∨(eqU_R g.1 g.2.1 g.2.2.1 g.2.2.2.1 g.2.2.2.2).1∈([.ret,.exit 0]:List Ex):=by
 unfold eqU_R
 repeat' (first | (left;rfl) | (right;simp only[cond_true,cond_false];simp;done) | (rw[Bool.cond_eq_ite];split))
noncomputable abbrev eqU_C (Inv:eqU_G→List Prop) (m:eqU_G→Nat):LCon:=loopR [.ret,.exit 0] (loopBody Tryd.prog 17 4) eqU_LP [] 26 Inv (fun g=>eqU_R g.1 g.2.1 g.2.2.1 g.2.2.2.1 g.2.2.2.2) m
theorem eqU_loop (Inv:eqU_G→List Prop) (m:eqU_G→Nat) (hs:∀ g,allP (Inv g)→eqU_side g.1 g.2.1 g.2.2.1 g.2.2.2.1 g.2.2.2.2) (hg:Goes (fun g:eqU_G=>eqU_R g.1 g.2.1 g.2.2.1 g.2.2.2.1 g.2.2.2.2) m fun g=>allP (Inv g)):∀ b∈loopsOf Tryd.prog 17,lkey b=4→LoopOk Tryd.prog b (eqU_C Inv m).g:=loop_run (Γ:=(PTab.gamz tabB1 [] [])) (Λ:=noΛ) (PTab.okz tabB1 [] []) noΛ_ok 100 17 4 26 eqU_LP [] Inv (fun g=>eqU_R g.1 g.2.1 g.2.2.1 g.2.2.2.1 g.2.2.2.2) (fun g=>eqU_side g.1 g.2.1 g.2.2.1 g.2.2.2.1 g.2.2.2.2) m default [.ret,.exit 0] eqU_one (fun rd T B HL HB ds g=>by kernel_rfl) (fun rd T B HL HB ds g=>by kernel_rfl) hs hg eqU_es
abbrev eqM_G:Type:=List Many×List Many×Int×Int×Bool
noncomputable def eqM_LP:LP 0 eqM_G:=.pair (.slot 0 0 dLM) (.pair (.slot 0 1 dLM) (.pair (.slot 0 12 dI) (.pair (.slot 0 13 dI) (.slot 0 4 dBool))))
noncomputable def eqM_R (xs:List Many) (ys:List Many) (n:Int) (i:Int) (r:Bool):Ex×eqM_G:=
 bif decide (i<n) then bif !conj ([(xs.getD i.toNat eM.dflt).r.key==(ys.getD i.toNat eM.dflt).r.key]++([decide ((xs.getD i.toNat eM.dflt).r.text=(ys.getD i.toNat eM.dflt).r.text)]++[])++([(xs.getD i.toNat eM.dflt).n==(ys.getD i.toNat eM.dflt).n]++[])) then (Ex.ret,eM.ag xs,eM.ag ys,n,i,false) else (Ex.normal,eM.ag xs,eM.ag ys,n,IntKind.i64.wrap (i+(1:Int)),r)
 else (Ex.exit (0:Nat),eM.ag xs,eM.ag ys,n,i,r)
def eqM_side (xs:List Many) (ys:List Many) (n:Int) (i:Int) (r:Bool):Prop:=
 (decide (i<n)=true→((0:Int)≤i∧i<(↑xs.length:Int))∧((0:Int)≤i∧i<(↑ys.length:Int))∧((!conj ([(xs.getD i.toNat eM.dflt).r.key==(ys.getD i.toNat eM.dflt).r.key]++([decide ((xs.getD i.toNat eM.dflt).r.text=(ys.getD i.toNat eM.dflt).r.text)]++[])++([(xs.getD i.toNat eM.dflt).n==(ys.getD i.toNat eM.dflt).n]++[])))=true→eM.okL xs∧eM.okL ys)∧((!conj ([(xs.getD i.toNat eM.dflt).r.key==(ys.getD i.toNat eM.dflt).r.key]++([decide ((xs.getD i.toNat eM.dflt).r.text=(ys.getD i.toNat eM.dflt).r.text)]++[])++([(xs.getD i.toNat eM.dflt).n==(ys.getD i.toNat eM.dflt).n]++[])))=false→eM.okL xs∧eM.okL ys))∧(decide (i<n)=false→eM.okL xs∧eM.okL ys)
theorem eqM_one:((loopsOf Tryd.prog 71).filter fun c=>Nat.beq (lkey c) 4).length=1:=by kernel_rfl
abbrev eqM_GC:Type:=List Many×List Many×Int
abbrev eqM_GB:Type:=Bool
def eqM_f (g:eqM_G):Int×eqM_GC×eqM_GB:=(g.2.2.2.1,(g.1,g.2.1,g.2.2.1),g.2.2.2.2)
def eqM_g (d:Int×eqM_GC×eqM_GB):eqM_G:=(d.2.1.1,d.2.1.2.1,d.2.1.2.2,d.1,d.2.2)
theorem eqM_es (g:eqM_G):(eqM_R g.1 g.2.1 g.2.2.1 g.2.2.2.1 g.2.2.2.2).1=.normal∨(eqM_R g.1 g.2.1 g.2.2.1 g.2.2.2.1 g.2.2.2.2).1∈([.ret,.exit 0]:List Ex):=by
 unfold eqM_R
 repeat' (first | (left;rfl) | (right;simp only[cond_true,cond_false];simp;done) | (rw[Bool.cond_eq_ite];split))
noncomputable abbrev eqM_C (Inv:eqM_G→List Prop) (m:eqM_G→Nat):LCon:=loopR [.ret,.exit 0] (loopBody Tryd.prog 71 4) eqM_LP [] 26 Inv (fun g=>eqM_R g.1 g.2.1 g.2.2.1 g.2.2.2.1 g.2.2.2.2) m
theorem eqM_loop (Inv:eqM_G→List Prop) (m:eqM_G→Nat) (hs:∀ g,allP (Inv g)→eqM_side g.1 g.2.1 g.2.2.1 g.2.2.2.1 g.2.2.2.2) (hg:Goes (fun g:eqM_G=>eqM_R g.1 g.2.1 g.2.2.1 g.2.2.2.1 g.2.2.2.2) m fun g=>allP (Inv g)):∀ b∈loopsOf Tryd.prog 71,lkey b=4→LoopOk Tryd.prog b (eqM_C Inv m).g:=loop_run (Γ:=(PTab.gamz tabB1 [] [])) (Λ:=noΛ) (PTab.okz tabB1 [] []) noΛ_ok 100 71 4 26 eqM_LP [] Inv (fun g=>eqM_R g.1 g.2.1 g.2.2.1 g.2.2.2.1 g.2.2.2.2) (fun g=>eqM_side g.1 g.2.1 g.2.2.1 g.2.2.2.1 g.2.2.2.2) m default [.ret,.exit 0] eqM_one (fun rd T B HL HB ds g=>by kernel_rfl) (fun rd T B HL HB ds g=>by kernel_rfl) hs hg eqM_es
abbrev eqR_G:Type:=List Rec×List Rec×Int×Int×Bool
noncomputable def eqR_LP:LP 0 eqR_G:=.pair (.slot 0 0 dLR) (.pair (.slot 0 1 dLR) (.pair (.slot 0 12 dI) (.pair (.slot 0 13 dI) (.slot 0 4 dBool))))
noncomputable def eqR_R (xs:List Rec) (ys:List Rec) (n:Int) (i:Int) (r:Bool):Ex×eqR_G:=
 bif decide (i<n) then bif !conj ([(xs.getD i.toNat eR.dflt).key==(ys.getD i.toNat eR.dflt).key]++([decide ((xs.getD i.toNat eR.dflt).text=(ys.getD i.toNat eR.dflt).text)]++[])) then (Ex.ret,eR.ag xs,eR.ag ys,n,i,false) else (Ex.normal,eR.ag xs,eR.ag ys,n,IntKind.i64.wrap (i+(1:Int)),r)
 else (Ex.exit (0:Nat),eR.ag xs,eR.ag ys,n,i,r)
def eqR_side (xs:List Rec) (ys:List Rec) (n:Int) (i:Int) (r:Bool):Prop:=
 (decide (i<n)=true→((0:Int)≤i∧i<(↑xs.length:Int))∧((0:Int)≤i∧i<(↑ys.length:Int))∧((!conj ([(xs.getD i.toNat eR.dflt).key==(ys.getD i.toNat eR.dflt).key]++([decide ((xs.getD i.toNat eR.dflt).text=(ys.getD i.toNat eR.dflt).text)]++[])))=true→eR.okL xs∧eR.okL ys)∧((!conj ([(xs.getD i.toNat eR.dflt).key==(ys.getD i.toNat eR.dflt).key]++([decide ((xs.getD i.toNat eR.dflt).text=(ys.getD i.toNat eR.dflt).text)]++[])))=false→eR.okL xs∧eR.okL ys))∧(decide (i<n)=false→eR.okL xs∧eR.okL ys)
theorem eqR_one:((loopsOf Tryd.prog 30).filter fun c=>Nat.beq (lkey c) 4).length=1:=by kernel_rfl
abbrev eqR_GC:Type:=List Rec×List Rec×Int
abbrev eqR_GB:Type:=Bool
def eqR_f (g:eqR_G):Int×eqR_GC×eqR_GB:=(g.2.2.2.1,(g.1,g.2.1,g.2.2.1),g.2.2.2.2)
def eqR_g (d:Int×eqR_GC×eqR_GB):eqR_G:=(d.2.1.1,d.2.1.2.1,d.2.1.2.2,d.1,d.2.2)
theorem eqR_es (g:eqR_G):(eqR_R g.1 g.2.1 g.2.2.1 g.2.2.2.1 g.2.2.2.2).1=.normal∨(eqR_R g.1 g.2.1 g.2.2.1 g.2.2.2.1 g.2.2.2.2).1∈([.ret,.exit 0]:List Ex):=by
 unfold eqR_R
 repeat' (first | (left;rfl) | (right;simp only[cond_true,cond_false];simp;done) | (rw[Bool.cond_eq_ite];split))
noncomputable abbrev eqR_C (Inv:eqR_G→List Prop) (m:eqR_G→Nat):LCon:=loopR [.ret,.exit 0] (loopBody Tryd.prog 30 4) eqR_LP [] 26 Inv (fun g=>eqR_R g.1 g.2.1 g.2.2.1 g.2.2.2.1 g.2.2.2.2) m
theorem eqR_loop (Inv:eqR_G→List Prop) (m:eqR_G→Nat) (hs:∀ g,allP (Inv g)→eqR_side g.1 g.2.1 g.2.2.1 g.2.2.2.1 g.2.2.2.2) (hg:Goes (fun g:eqR_G=>eqR_R g.1 g.2.1 g.2.2.1 g.2.2.2.1 g.2.2.2.2) m fun g=>allP (Inv g)):∀ b∈loopsOf Tryd.prog 30,lkey b=4→LoopOk Tryd.prog b (eqR_C Inv m).g:=loop_run (Γ:=(PTab.gamz tabB1 [] [])) (Λ:=noΛ) (PTab.okz tabB1 [] []) noΛ_ok 100 30 4 26 eqR_LP [] Inv (fun g=>eqR_R g.1 g.2.1 g.2.2.1 g.2.2.2.1 g.2.2.2.2) (fun g=>eqR_side g.1 g.2.1 g.2.2.1 g.2.2.2.1 g.2.2.2.2) m default [.ret,.exit 0] eqR_one (fun rd T B HL HB ds g=>by kernel_rfl) (fun rd T B HL HB ds g=>by kernel_rfl) hs hg eqR_es
end Go.Proofs.YtmegbepjdololaaDoor

namespace Go.Proofs.YtmegbepjdololaaDoor
open Go.RowKit Go.Sx Go.Lp
set_option maxRecDepth 100000
theorem conj_eR (a b:Rec):conj ([a.key==b.key]++([decide (a.text=b.text)]++[]))=decide (a=b):=by
 obtain ⟨k,s⟩:=a
 obtain ⟨k',s'⟩:=b
 rw[Bool.eq_iff_iff]
 simp[conj]
theorem conj_eU (a b:Rune):conj ([a.at'==b.at']++([a.r==b.r]++[]))=decide (a=b):=by
 obtain ⟨k,s⟩:=a
 obtain ⟨k',s'⟩:=b
 rw[Bool.eq_iff_iff]
 simp[conj]
theorem conj_eM (a b:Many):conj ([a.r.key==b.r.key]++([decide (a.r.text=b.r.text)]++[])++([a.n==b.n]++[]))=decide (a=b):=by
 obtain ⟨⟨k,s⟩,n⟩:=a
 obtain ⟨⟨k',s'⟩,n'⟩:=b
 rw[Bool.eq_iff_iff]
 simp[conj]
 exact ⟨fun ⟨h1,h2,h3⟩=>⟨⟨h1,h2⟩,h3⟩,fun ⟨⟨h1,h2⟩,h3⟩=>⟨h1,h2,h3⟩⟩
noncomputable def eqU_S (c:eqU_GC) (b:eqU_GB) (i:Int) (v:Rune):Ex×eqU_GB:=bif !decide (v=c.2.1.getD i.toNat eU.dflt) then (.ret,false) else (.normal,b)
def eqU_K (c:eqU_GC) (b:eqU_GB) (i:Int):Prop:=c.1.length=c.2.1.length
abbrev eqU_I (g:eqU_G):List Prop:=ixI (fun c:eqU_GC=>c.2.2) (fun c:eqU_GC=>c.1) eqU_K (eqU_f g)
abbrev eqU_M (g:eqU_G):Nat:=ixM (fun c:eqU_GC=>c.2.2) (eqU_f g)
theorem eqU_P:ixP eqU_S (fun c:eqU_GC=>c.1) eqU_K:=fun _ _ _ _ h _ _=>h
noncomputable abbrev eqU_RR (g:eqU_G):Ex×eqU_G:=eqU_R g.1 g.2.1 g.2.2.1 g.2.2.2.1 g.2.2.2.2
theorem eqU_RF (d:Int×eqU_GC×eqU_GB) (hi:allP (ixI (fun c:eqU_GC=>c.2.2) (fun c:eqU_GC=>c.1) eqU_K d)):eqU_RR (eqU_g d)=((ixF 0 (fun c:eqU_GC=>c.2.2) (fun c:eqU_GC=>c.1) eU.dflt eqU_S d).1,eqU_g (ixF 0 (fun c:eqU_GC=>c.2.2) (fun c:eqU_GC=>c.1) eU.dflt eqU_S d).2):=by
 obtain ⟨i,⟨xs,ys,n⟩,r⟩:=d
 show eqU_R xs ys n i r=_
 unfold eqU_R ixF eqU_S
 simp only[El.ag_eq,conj_eU]
 cases decide (i<n) with
 | false=>rfl
 | true=>
  simp only[cond_true]
  generalize (!decide ((xs.getD i.toNat eU.dflt)=ys.getD i.toNat eU.dflt))=z
  cases z <;> rfl
theorem eqU_ok:∀ b∈loopsOf Tryd.prog 17,lkey b=4→LoopOk Tryd.prog b (eqU_C eqU_I eqU_M).g:=by
 refine eqU_loop eqU_I eqU_M (fun g hi=>?_) (ix_conj_goes (fun _=>rfl) (fun _=>rfl) eqU_RF eqU_P)
 obtain ⟨xs,ys,n,i,r⟩:=g
 obtain ⟨h1,h2,h3,h4,h5⟩:=hi _ (List.mem_cons_self ..)
 have h1:n=(xs.length:Int):=h1
 have h3:0≤i:=h3
 have h5:xs.length=ys.length:=h5
 show eqU_side xs ys n i r
 unfold eqU_side
 simp only[decide_eq_true_eq,decide_eq_false_iff_not]
 have k0:∀ e:Nat,e<xs.length→eU.Ok (eU.els xs e):=fun e _=>eU.ok_els xs e
 have k1:∀ e:Nat,e<ys.length→eU.Ok (eU.els ys e):=fun e _=>eU.ok_els ys e
 clear hi
 repeat' (first | exact k0 | exact k1 | apply And.intro | intro _)
 all_goals omega
noncomputable def eqM_S (c:eqM_GC) (b:eqM_GB) (i:Int) (v:Many):Ex×eqM_GB:=bif !decide (v=c.2.1.getD i.toNat eM.dflt) then (.ret,false) else (.normal,b)
def eqM_K (c:eqM_GC) (b:eqM_GB) (i:Int):Prop:=c.1.length=c.2.1.length
abbrev eqM_I (g:eqM_G):List Prop:=ixI (fun c:eqM_GC=>c.2.2) (fun c:eqM_GC=>c.1) eqM_K (eqM_f g)
abbrev eqM_M (g:eqM_G):Nat:=ixM (fun c:eqM_GC=>c.2.2) (eqM_f g)
theorem eqM_P:ixP eqM_S (fun c:eqM_GC=>c.1) eqM_K:=fun _ _ _ _ h _ _=>h
noncomputable abbrev eqM_RR (g:eqM_G):Ex×eqM_G:=eqM_R g.1 g.2.1 g.2.2.1 g.2.2.2.1 g.2.2.2.2
theorem eqM_RF (d:Int×eqM_GC×eqM_GB) (hi:allP (ixI (fun c:eqM_GC=>c.2.2) (fun c:eqM_GC=>c.1) eqM_K d)):eqM_RR (eqM_g d)=((ixF 0 (fun c:eqM_GC=>c.2.2) (fun c:eqM_GC=>c.1) eM.dflt eqM_S d).1,eqM_g (ixF 0 (fun c:eqM_GC=>c.2.2) (fun c:eqM_GC=>c.1) eM.dflt eqM_S d).2):=by
 obtain ⟨i,⟨xs,ys,n⟩,r⟩:=d
 show eqM_R xs ys n i r=_
 unfold eqM_R ixF eqM_S
 simp only[El.ag_eq,conj_eM]
 cases decide (i<n) with
 | false=>rfl
 | true=>
  simp only[cond_true]
  generalize (!decide ((xs.getD i.toNat eM.dflt)=ys.getD i.toNat eM.dflt))=z
  cases z <;> rfl
theorem eqM_ok:∀ b∈loopsOf Tryd.prog 71,lkey b=4→LoopOk Tryd.prog b (eqM_C eqM_I eqM_M).g:=by
 refine eqM_loop eqM_I eqM_M (fun g hi=>?_) (ix_conj_goes (fun _=>rfl) (fun _=>rfl) eqM_RF eqM_P)
 obtain ⟨xs,ys,n,i,r⟩:=g
 obtain ⟨h1,h2,h3,h4,h5⟩:=hi _ (List.mem_cons_self ..)
 have h1:n=(xs.length:Int):=h1
 have h3:0≤i:=h3
 have h5:xs.length=ys.length:=h5
 show eqM_side xs ys n i r
 unfold eqM_side
 simp only[decide_eq_true_eq,decide_eq_false_iff_not]
 have k0:∀ e:Nat,e<xs.length→eM.Ok (eM.els xs e):=fun e _=>eM.ok_els xs e
 have k1:∀ e:Nat,e<ys.length→eM.Ok (eM.els ys e):=fun e _=>eM.ok_els ys e
 clear hi
 repeat' (first | exact k0 | exact k1 | apply And.intro | intro _)
 all_goals omega
theorem eqM_run (c:eqM_GC) (b:eqM_GB) (k1:c.2.2=((c.1).length:Int)) (k2:(c.1).length≤maxLen) (k3:eqM_K c b 0):loopF eqM_RR eqM_M (eqM_g (0,c,b))=((scan 0 (eqM_S c) 0 (c.1) b).1,eqM_g ((scan 0 (eqM_S c) 0 (c.1) b).2.1,c,(scan 0 (eqM_S c) 0 (c.1) b).2.2)):=ix_conj_run (φ:=eqM_f) (ψ:=eqM_g) (fun _=>rfl) (fun _=>rfl) eqM_RF eqM_P c b k1 k2 k3
noncomputable def eqR_S (c:eqR_GC) (b:eqR_GB) (i:Int) (v:Rec):Ex×eqR_GB:=bif !decide (v=c.2.1.getD i.toNat eR.dflt) then (.ret,false) else (.normal,b)
def eqR_K (c:eqR_GC) (b:eqR_GB) (i:Int):Prop:=c.1.length=c.2.1.length
abbrev eqR_I (g:eqR_G):List Prop:=ixI (fun c:eqR_GC=>c.2.2) (fun c:eqR_GC=>c.1) eqR_K (eqR_f g)
abbrev eqR_M (g:eqR_G):Nat:=ixM (fun c:eqR_GC=>c.2.2) (eqR_f g)
theorem eqR_P:ixP eqR_S (fun c:eqR_GC=>c.1) eqR_K:=fun _ _ _ _ h _ _=>h
noncomputable abbrev eqR_RR (g:eqR_G):Ex×eqR_G:=eqR_R g.1 g.2.1 g.2.2.1 g.2.2.2.1 g.2.2.2.2
theorem eqR_RF (d:Int×eqR_GC×eqR_GB) (hi:allP (ixI (fun c:eqR_GC=>c.2.2) (fun c:eqR_GC=>c.1) eqR_K d)):eqR_RR (eqR_g d)=((ixF 0 (fun c:eqR_GC=>c.2.2) (fun c:eqR_GC=>c.1) eR.dflt eqR_S d).1,eqR_g (ixF 0 (fun c:eqR_GC=>c.2.2) (fun c:eqR_GC=>c.1) eR.dflt eqR_S d).2):=by
 obtain ⟨i,⟨xs,ys,n⟩,r⟩:=d
 show eqR_R xs ys n i r=_
 unfold eqR_R ixF eqR_S
 simp only[El.ag_eq,conj_eR]
 cases decide (i<n) with
 | false=>rfl
 | true=>
  simp only[cond_true]
  generalize (!decide ((xs.getD i.toNat eR.dflt)=ys.getD i.toNat eR.dflt))=z
  cases z <;> rfl
theorem eqR_ok:∀ b∈loopsOf Tryd.prog 30,lkey b=4→LoopOk Tryd.prog b (eqR_C eqR_I eqR_M).g:=by
 refine eqR_loop eqR_I eqR_M (fun g hi=>?_) (ix_conj_goes (fun _=>rfl) (fun _=>rfl) eqR_RF eqR_P)
 obtain ⟨xs,ys,n,i,r⟩:=g
 obtain ⟨h1,h2,h3,h4,h5⟩:=hi _ (List.mem_cons_self ..)
 have h1:n=(xs.length:Int):=h1
 have h3:0≤i:=h3
 have h5:xs.length=ys.length:=h5
 show eqR_side xs ys n i r
 unfold eqR_side
 simp only[decide_eq_true_eq,decide_eq_false_iff_not]
 have k0:∀ e:Nat,e<xs.length→eR.Ok (eR.els xs e):=fun e _=>eR.ok_els xs e
 have k1:∀ e:Nat,e<ys.length→eR.Ok (eR.els ys e):=fun e _=>eR.ok_els ys e
 clear hi
 repeat' (first | exact k0 | exact k1 | apply And.intro | intro _)
 all_goals omega
theorem eqR_run (c:eqR_GC) (b:eqR_GB) (k1:c.2.2=((c.1).length:Int)) (k2:(c.1).length≤maxLen) (k3:eqR_K c b 0):loopF eqR_RR eqR_M (eqR_g (0,c,b))=((scan 0 (eqR_S c) 0 (c.1) b).1,eqR_g ((scan 0 (eqR_S c) 0 (c.1) b).2.1,c,(scan 0 (eqR_S c) 0 (c.1) b).2.2)):=ix_conj_run (φ:=eqR_f) (ψ:=eqR_g) (fun _=>rfl) (fun _=>rfl) eqR_RF eqR_P c b k1 k2 k3
noncomputable def ltM2:LTab Tryd.prog:=(((LTab.nil.cons 17 4 (eqU_C eqU_I eqU_M) eqU_ok).cons 71 4 (eqM_C eqM_I eqM_M) eqM_ok).cons 30 4 (eqR_C eqR_I eqR_M) eqR_ok)
noncomputable abbrev lamM2:Lam:=ltM2.lam
theorem lamM2_ok:∀ f k L,lamM2 f k=some L→∀ b∈loopsOf Tryd.prog f,lkey b=k→LoopOk Tryd.prog b L.g:=ltM2.ok
end Go.Proofs.YtmegbepjdololaaDoor

namespace Go.Proofs.YtmegbepjdololaaDoor
open Go.RowKit Go.Sx
set_option maxRecDepth 100000
set_option linter.unusedVariables false
abbrev aLMM:DA (List Many×List Many):=.cons dLM (.one dLM)
abbrev aLRR5:DA (List Rec×List Rec):=.cons dLR (.one dLR)
noncomputable def elM_q1 (a:List Many) (b:List Many):Ex ×
 eqM_G:=
 loopF (fun g=>eqM_R g.fst g.snd.fst g.snd.snd.fst g.snd.snd.snd.fst g.snd.snd.snd.snd) eqM_M (eM.ag a,eM.ag b,(↑a.length:Int),(0:Int),false)
noncomputable def elM_F (a:List Many) (b:List Many):Dv.T dBool:=
 bif (↑a.length:Int) != (↑b.length:Int) then false
 else bif exB Ex.ret (elM_q1 a b).fst then (elM_q1 a b).snd.snd.snd.snd.snd else true
def elM_side (a:List Many) (b:List Many):Prop:=
 ((↑a.length:Int) != (↑b.length:Int))=false→eM.okL a∧eM.okL b∧Lp.ixJ (fun c=>c.snd.snd) (fun c=>c.fst) eqM_K (eqM_f (eM.ag a,eM.ag b,(↑a.length:Int),(0:Int),false))
theorem elM_okS (pre:DA.T aLMM→List Prop) (h:∀ g,DA.bd aLMM g→(∀ p∈pre g,p)→elM_side g.1 g.2):FnPure Tryd.prog 71 aLMM dBool (fun g=>elM_F g.1 g.2) pre:=pure_of_sideS (Γ:=(PTab.gamz tabB1 [] [])) (Λ:=lamM2) (PTab.okz tabB1 [] []) lamM2_ok 100 default (fun g=>elM_side g.1 g.2) (fun g=>by kernel_rfl) (fun g=>by kernel_rfl) h
noncomputable def elR_q1 (a:List Rec) (b:List Rec):Ex ×
 eqR_G:=
 loopF (fun g=>eqR_R g.fst g.snd.fst g.snd.snd.fst g.snd.snd.snd.fst g.snd.snd.snd.snd) eqR_M (eR.ag a,eR.ag b,(↑a.length:Int),(0:Int),false)
noncomputable def elR_F (a:List Rec) (b:List Rec):Dv.T dBool:=
 bif (↑a.length:Int) != (↑b.length:Int) then false
 else bif exB Ex.ret (elR_q1 a b).fst then (elR_q1 a b).snd.snd.snd.snd.snd else true
def elR_side (a:List Rec) (b:List Rec):Prop:=
 ((↑a.length:Int) != (↑b.length:Int))=false→eR.okL a∧eR.okL b∧Lp.ixJ (fun c=>c.snd.snd) (fun c=>c.fst) eqR_K (eqR_f (eR.ag a,eR.ag b,(↑a.length:Int),(0:Int),false))
theorem elR_okS (pre:DA.T aLRR5→List Prop) (h:∀ g,DA.bd aLRR5 g→(∀ p∈pre g,p)→elR_side g.1 g.2):FnPure Tryd.prog 30 aLRR5 dBool (fun g=>elR_F g.1 g.2) pre:=pure_of_sideS (Γ:=(PTab.gamz tabB1 [] [])) (Λ:=lamM2) (PTab.okz tabB1 [] []) lamM2_ok 100 default (fun g=>elR_side g.1 g.2) (fun g=>by kernel_rfl) (fun g=>by kernel_rfl) h
end Go.Proofs.YtmegbepjdololaaDoor

namespace Go.Proofs.YtmegbepjdololaaDoor
open Go.RowKit Go.Sx Go.Lp
theorem elM_ok:FnPure Tryd.prog 71 aLMM dBool (fun g=>decide (g.1=g.2)) (fun g=>[g.1.length≤KB]):=
 pure_congr (elM_okS _ fun g _ hp=>by
  obtain ⟨a,b⟩:=g
  have h:a.length≤KB:=hp _ (List.mem_cons_self ..)
  unfold KB at h
  show elM_side a b
  intro hl
  have hl:a.length=b.length:=by
   have:=bne_eq_false_iff_eq.1 hl
   omega
  rw[eM.okL_eq,eM.okL_eq,eM.ag_eq,eM.ag_eq]
  exact ⟨trivial,trivial,rfl,by show a.length≤maxLen;unfold maxLen;omega,Int.le_refl _,by show (0:Int)≤(a.length:Int);omega,hl⟩) fun g _ hp=>by
  obtain ⟨a,b⟩:=g
  have h:a.length≤KB:=hp _ (List.mem_cons_self ..)
  unfold KB at h
  show elM_F a b=decide (a=b)
  unfold elM_F
  by_cases hl:a.length=b.length
  ·have e0:((a.length:Int) != (b.length:Int))=false:=by rw[bne_eq_false_iff_eq];omega
   rw[e0,cond_false]
   have hrun:=eqM_run (a,b,(a.length:Int)) false rfl (by show a.length≤maxLen;unfold maxLen;omega) hl
   have hq:elM_q1 a b=loopF eqM_RR eqM_M (eqM_g (0,(a,b,(a.length:Int)),false)):=by
    unfold elM_q1
    rw[eM.ag_eq,eM.ag_eq]
    rfl
   rw[hq,hrun]
   rcases searchI (x:=0) (st:=eqM_S (a,b,(a.length:Int))) (p:=fun i v=>!decide (v=b.getD i.toNat eM.dflt)) (r:=fun _ _ _=>false) (fun b i a=>rfl) a false with ⟨n,v,h1,h2,hs⟩ | ⟨h1,hs⟩
   ·rw[hs]
    have hne:a≠b:=by
     rintro rfl
     simp[List.getD_eq_getElem?_getD,h1] at h2
    rw[decide_eq_false hne];rfl
   ·rw[hs]
    have he:a=b:=by
     refine List.ext_getElem? fun n=>?_
     by_cases hn:n<a.length
     ·have:=h1 n a[n] (by simp[hn])
      have hn':n<b.length:=by omega
      simp only[List.getD_eq_getElem?_getD,Int.toNat_natCast,List.getElem?_eq_getElem hn',Option.getD_some,Bool.not_eq_false',decide_eq_true_eq] at this
      rw[List.getElem?_eq_getElem hn,List.getElem?_eq_getElem hn',this]
     ·rw[List.getElem?_eq_none (by omega),List.getElem?_eq_none (by omega)]
    rw[decide_eq_true he];rfl
  ·have e0:((a.length:Int) != (b.length:Int))=true:=by rw[bne_iff_ne];omega
   have hne:a≠b:=fun h=>hl (by rw[h])
   rw[e0,cond_true,decide_eq_false hne]
theorem elR_ok:FnPure Tryd.prog 30 aLRR5 dBool (fun g=>decide (g.1=g.2)) (fun g=>[g.1.length≤KB]):=
 pure_congr (elR_okS _ fun g _ hp=>by
  obtain ⟨a,b⟩:=g
  have h:a.length≤KB:=hp _ (List.mem_cons_self ..)
  unfold KB at h
  show elR_side a b
  intro hl
  have hl:a.length=b.length:=by
   have:=bne_eq_false_iff_eq.1 hl
   omega
  rw[eR.okL_eq,eR.okL_eq,eR.ag_eq,eR.ag_eq]
  exact ⟨trivial,trivial,rfl,by show a.length≤maxLen;unfold maxLen;omega,Int.le_refl _,by show (0:Int)≤(a.length:Int);omega,hl⟩) fun g _ hp=>by
  obtain ⟨a,b⟩:=g
  have h:a.length≤KB:=hp _ (List.mem_cons_self ..)
  unfold KB at h
  show elR_F a b=decide (a=b)
  unfold elR_F
  by_cases hl:a.length=b.length
  ·have e0:((a.length:Int) != (b.length:Int))=false:=by rw[bne_eq_false_iff_eq];omega
   rw[e0,cond_false]
   have hrun:=eqR_run (a,b,(a.length:Int)) false rfl (by show a.length≤maxLen;unfold maxLen;omega) hl
   have hq:elR_q1 a b=loopF eqR_RR eqR_M (eqR_g (0,(a,b,(a.length:Int)),false)):=by
    unfold elR_q1
    rw[eR.ag_eq,eR.ag_eq]
    rfl
   rw[hq,hrun]
   rcases searchI (x:=0) (st:=eqR_S (a,b,(a.length:Int))) (p:=fun i v=>!decide (v=b.getD i.toNat eR.dflt)) (r:=fun _ _ _=>false) (fun b i a=>rfl) a false with ⟨n,v,h1,h2,hs⟩ | ⟨h1,hs⟩
   ·rw[hs]
    have hne:a≠b:=by
     rintro rfl
     simp[List.getD_eq_getElem?_getD,h1] at h2
    rw[decide_eq_false hne];rfl
   ·rw[hs]
    have he:a=b:=by
     refine List.ext_getElem? fun n=>?_
     by_cases hn:n<a.length
     ·have:=h1 n a[n] (by simp[hn])
      have hn':n<b.length:=by omega
      simp only[List.getD_eq_getElem?_getD,Int.toNat_natCast,List.getElem?_eq_getElem hn',Option.getD_some,Bool.not_eq_false',decide_eq_true_eq] at this
      rw[List.getElem?_eq_getElem hn,List.getElem?_eq_getElem hn',this]
     ·rw[List.getElem?_eq_none (by omega),List.getElem?_eq_none (by omega)]
    rw[decide_eq_true he];rfl
  ·have e0:((a.length:Int) != (b.length:Int))=true:=by rw[bne_iff_ne];omega
   have hne:a≠b:=fun h=>hl (by rw[h])
   rw[e0,cond_true,decide_eq_false hne]
end Go.Proofs.YtmegbepjdololaaDoor

namespace Go.Proofs.YtmegbepjdololaaDoor
open Go.RowKit Go.Sx
set_option maxRecDepth 100000
set_option linter.unusedVariables false
end Go.Proofs.YtmegbepjdololaaDoor

namespace Go.Proofs.YtmegbepjdololaaDoor
open Go.RowKit Go.Sx Go.Lp
set_option maxRecDepth 100000
end Go.Proofs.YtmegbepjdololaaDoor

namespace Go.Proofs.YtmegbepjdololaaDoor
open Go.RowKit Go.Sx
set_option maxRecDepth 100000
set_option linter.unusedVariables false
end Go.Proofs.YtmegbepjdololaaDoor

namespace Go.Proofs.YtmegbepjdololaaDoor
open Go.RowKit Go.Sx Go.Lp
end Go.Proofs.YtmegbepjdololaaDoor

namespace Go.Proofs.YtmegbepjdololaaDoor
open Go.RowKit Go.Sx
set_option maxRecDepth 100000
set_option linter.unusedVariables false
end Go.Proofs.YtmegbepjdololaaDoor

namespace Go.Proofs.YtmegbepjdololaaDoor
open Go.RowKit Go.Sx Go.Lp
end Go.Proofs.YtmegbepjdololaaDoor

namespace Go.Proofs.YtmegbepjdololaaDoor
open Go.RowKit Go.Sx Go.Lp
end Go.Proofs.YtmegbepjdololaaDoor

namespace Go.Proofs.YtmegbepjdololaaDoor
open Go.RowKit Go.Sx
set_option maxRecDepth 100000
set_option linter.unusedVariables false
noncomputable def tabG0:PTab Tryd.prog:=(tabB1.cons 45 (pconP aR dI chkR (fun _=>[])) (conP_ok chk_ok puI)).cons 46 (pconP aR dI chkR (fun _=>[])) (conP_ok rchk_ok puI)
abbrev cor_G:Type:=List Int×Int×Int×Int×Int
noncomputable def cor_LP:LP 0 cor_G:=.pair (.slot 0 6 dLI) (.pair (.slot 0 7 dI) (.pair (.slot 0 3 dI) (.pair (.slot 0 8 dI) (.slot 0 2 dI))))
noncomputable def cor_R (xs:List Int) (n:Int) (z:Int) (i:Int) (r:Int):Ex×cor_G:=
 bif decide (i<n) then bif xs.getD i.toNat eI.dflt != z then (Ex.ret,eI.ag xs,n,z,i,xs.getD i.toNat eI.dflt) else (Ex.normal,eI.ag xs,n,z,IntKind.i64.wrap (i+(1:Int)),r)
 else (Ex.exit (0:Nat),eI.ag xs,n,z,i,r)
def cor_side (xs:List Int) (n:Int) (z:Int) (i:Int) (r:Int):Prop:=
 (decide (i<n)=true→((0:Int)≤i∧i<(↑xs.length:Int))∧((xs.getD i.toNat eI.dflt != z)=true→eI.okL xs)∧((xs.getD i.toNat eI.dflt != z)=false→eI.okL xs))∧(decide (i<n)=false→eI.okL xs)
theorem cor_one:((loopsOf Tryd.prog 89).filter fun c=>Nat.beq (lkey c) 3).length=1:=by kernel_rfl
abbrev cor_GC:Type:=List Int×Int×Int
abbrev cor_GB:Type:=Int
def cor_f (g:cor_G):Int×cor_GC×cor_GB:=(g.2.2.2.1,(g.1,g.2.1,g.2.2.1),g.2.2.2.2)
def cor_g (d:Int×cor_GC×cor_GB):cor_G:=(d.2.1.1,d.2.1.2.1,d.2.1.2.2,d.1,d.2.2)
theorem cor_es (g:cor_G):(cor_R g.1 g.2.1 g.2.2.1 g.2.2.2.1 g.2.2.2.2).1=.normal∨(cor_R g.1 g.2.1 g.2.2.1 g.2.2.2.1 g.2.2.2.2).1∈([.ret,.exit 0]:List Ex):=by
 unfold cor_R
 repeat' (first | (left;rfl) | (right;simp only[cond_true,cond_false];simp;done) | (rw[Bool.cond_eq_ite];split))
noncomputable abbrev cor_C (Inv:cor_G→List Prop) (m:cor_G→Nat):LCon:=loopR [.ret,.exit 0] (loopBody Tryd.prog 89 3) cor_LP [] 18 Inv (fun g=>cor_R g.1 g.2.1 g.2.2.1 g.2.2.2.1 g.2.2.2.2) m
theorem cor_loop (Inv:cor_G→List Prop) (m:cor_G→Nat) (hs:∀ g,allP (Inv g)→cor_side g.1 g.2.1 g.2.2.1 g.2.2.2.1 g.2.2.2.2) (hg:Goes (fun g:cor_G=>cor_R g.1 g.2.1 g.2.2.1 g.2.2.2.1 g.2.2.2.2) m fun g=>allP (Inv g)):∀ b∈loopsOf Tryd.prog 89,lkey b=3→LoopOk Tryd.prog b (cor_C Inv m).g:=loop_run (Γ:=(PTab.gamz tabG0 [] [])) (Λ:=noΛ) (PTab.okz tabG0 [] []) noΛ_ok 100 89 3 18 cor_LP [] Inv (fun g=>cor_R g.1 g.2.1 g.2.2.1 g.2.2.2.1 g.2.2.2.2) (fun g=>cor_side g.1 g.2.1 g.2.2.1 g.2.2.2.1 g.2.2.2.2) m default [.ret,.exit 0] cor_one (fun rd T B HL HB ds g=>by kernel_rfl) (fun rd T B HL HB ds g=>by kernel_rfl) hs hg cor_es
abbrev ixf_G:Type:=List Many×Unit×Int×Int×Int
noncomputable def ixf_LP:LP 0 ixf_G:=.pair (.slot 0 0 dLM) (.pair (.fix 0 1 (.fn 78 [])) (.pair (.slot 0 7 dI) (.pair (.slot 0 8 dI) (.slot 0 4 dI))))
noncomputable def ixf_R (xs:List Many) (_u:Unit) (n:Int) (i:Int) (r:Int):Ex×ixf_G:=
 bif decide (i<n) then bif chkR (xs.getD i.toNat eM.dflt).r != (0:Int) then (Ex.ret,eM.ag xs,(),n,i,i) else (Ex.normal,eM.ag xs,(),n,IntKind.i64.wrap (i+(1:Int)),r)
 else (Ex.exit (0:Nat),eM.ag xs,(),n,i,r)
def ixf_side (xs:List Many) (_u:Unit) (n:Int) (i:Int) (r:Int):Prop:=
 (decide (i<n)=true→((0:Int)≤i∧i<(↑xs.length:Int))∧((chkR (xs.getD i.toNat eM.dflt).r != (0:Int))=true→eM.okL xs)∧((chkR (xs.getD i.toNat eM.dflt).r != (0:Int))=false→eM.okL xs))∧(decide (i<n)=false→eM.okL xs)
theorem ixf_one:((loopsOf Tryd.prog 117).filter fun c=>Nat.beq (lkey c) 2).length=1:=by kernel_rfl
abbrev ixf_GC:Type:=List Many×Int
abbrev ixf_GB:Type:=Unit×Int
def ixf_f (g:ixf_G):Int×ixf_GC×ixf_GB:=(g.2.2.2.1,(g.1,g.2.2.1),(g.2.1,g.2.2.2.2))
def ixf_g (d:Int×ixf_GC×ixf_GB):ixf_G:=(d.2.1.1,d.2.2.1,d.2.1.2,d.1,d.2.2.2)
theorem ixf_es (g:ixf_G):(ixf_R g.1 g.2.1 g.2.2.1 g.2.2.2.1 g.2.2.2.2).1=.normal∨(ixf_R g.1 g.2.1 g.2.2.1 g.2.2.2.1 g.2.2.2.2).1∈([.ret,.exit 0]:List Ex):=by
 unfold ixf_R
 repeat' (first | (left;rfl) | (right;simp only[cond_true,cond_false];simp;done) | (rw[Bool.cond_eq_ite];split))
noncomputable abbrev ixf_C (Inv:ixf_G→List Prop) (m:ixf_G→Nat):LCon:=loopR [.ret,.exit 0] (loopBody Tryd.prog 117 2) ixf_LP [] 19 Inv (fun g=>ixf_R g.1 g.2.1 g.2.2.1 g.2.2.2.1 g.2.2.2.2) m
theorem ixf_loop (Inv:ixf_G→List Prop) (m:ixf_G→Nat) (hs:∀ g,allP (Inv g)→ixf_side g.1 g.2.1 g.2.2.1 g.2.2.2.1 g.2.2.2.2) (hg:Goes (fun g:ixf_G=>ixf_R g.1 g.2.1 g.2.2.1 g.2.2.2.1 g.2.2.2.2) m fun g=>allP (Inv g)):∀ b∈loopsOf Tryd.prog 117,lkey b=2→LoopOk Tryd.prog b (ixf_C Inv m).g:=loop_run (Γ:=(PTab.gamz tabG0 [] [])) (Λ:=noΛ) (PTab.okz tabG0 [] []) noΛ_ok 100 117 2 19 ixf_LP [] Inv (fun g=>ixf_R g.1 g.2.1 g.2.2.1 g.2.2.2.1 g.2.2.2.2) (fun g=>ixf_side g.1 g.2.1 g.2.2.1 g.2.2.2.1 g.2.2.2.2) m default [.ret,.exit 0] ixf_one (fun rd T B HL HB ds g=>by kernel_rfl) (fun rd T B HL HB ds g=>by kernel_rfl) hs hg ixf_es
noncomputable def rcm_F (a:Rec) (b:Rec):Dv.T dI:=
 bif decide (a.key<b.key) then (-1:Int)
 else bif decide (a.key > b.key) then (1:Int) else bif Op.bytesLess (ByteArray.toList a.text) (ByteArray.toList b.text) then (-1:Int) else bif !(Op.bytesLess (ByteArray.toList a.text) (ByteArray.toList b.text)||decide (a.text=b.text)) then (1:Int) else (0:Int)
theorem rcm_ok:FnPure Tryd.prog 48 aRR dI (fun g=>rcm_F g.1 g.2) (fun _=>[]):=pure_of_safe (Γ:=(PTab.gamz tabG0 [] [])) (Λ:=noΛ) (PTab.okz tabG0 [] []) noΛ_ok 100 default (fun g=>by kernel_rfl) (fun g=>by kernel_rfl)
noncomputable def tabG1:PTab Tryd.prog:=(tabG0).cons 48 (pconP aRR dI (fun g=>rcm_F g.1 g.2) (fun _=>[])) (conP_ok rcm_ok puI)
end Go.Proofs.YtmegbepjdololaaDoor

namespace Go.Proofs.YtmegbepjdololaaDoor
open Go.RowKit Go.Sx Go.Lp
set_option maxRecDepth 100000
noncomputable def cor_S (c:cor_GC) (b:cor_GB) (i:Int) (v:Int):Ex×cor_GB:=bif v != c.2.2 then (.ret,v) else (.normal,b)
def cor_K (c:cor_GC) (b:cor_GB) (i:Int):Prop:=True
abbrev cor_I (g:cor_G):List Prop:=ixI (fun c:cor_GC=>c.2.1) (fun c:cor_GC=>c.1) cor_K (cor_f g)
abbrev cor_M (g:cor_G):Nat:=ixM (fun c:cor_GC=>c.2.1) (cor_f g)
theorem cor_P:ixP cor_S (fun c:cor_GC=>c.1) cor_K:=fun _ _ _ _ h _ _=>h
noncomputable abbrev cor_RR (g:cor_G):Ex×cor_G:=cor_R g.1 g.2.1 g.2.2.1 g.2.2.2.1 g.2.2.2.2
theorem cor_RF (d:Int×cor_GC×cor_GB) (hi:allP (ixI (fun c:cor_GC=>c.2.1) (fun c:cor_GC=>c.1) cor_K d)):cor_RR (cor_g d)=((ixF 0 (fun c:cor_GC=>c.2.1) (fun c:cor_GC=>c.1) eI.dflt cor_S d).1,cor_g (ixF 0 (fun c:cor_GC=>c.2.1) (fun c:cor_GC=>c.1) eI.dflt cor_S d).2):=by
 obtain ⟨i,⟨xs,n,z⟩,r⟩:=d
 show cor_R xs n z i r=_
 unfold cor_R ixF cor_S
 simp only[El.ag_eq]
 cases decide (i<n) with
 | false=>rfl
 | true=>
  simp only[cond_true]
  generalize ((xs.getD i.toNat eI.dflt) != z)=z
  cases z <;> rfl
theorem cor_ok:∀ b∈loopsOf Tryd.prog 89,lkey b=3→LoopOk Tryd.prog b (cor_C cor_I cor_M).g:=by
 refine cor_loop cor_I cor_M (fun g hi=>?_) (ix_conj_goes (fun _=>rfl) (fun _=>rfl) cor_RF cor_P)
 obtain ⟨xs,n,z,i,r⟩:=g
 obtain ⟨h1,h2,h3,h4,h5⟩:=hi _ (List.mem_cons_self ..)
 have h1:n=(xs.length:Int):=h1
 have h3:0≤i:=h3
 have h5:True:=h5
 show cor_side xs n z i r
 unfold cor_side
 simp only[decide_eq_true_eq,decide_eq_false_iff_not]
 have k0:∀ e:Nat,e<xs.length→eI.Ok (eI.els xs e):=fun e _=>eI.ok_els xs e
 clear hi
 repeat' (first | exact k0 | apply And.intro | intro _)
 all_goals omega
theorem cor_run (c:cor_GC) (b:cor_GB) (k1:c.2.1=((c.1).length:Int)) (k2:(c.1).length≤maxLen) (k3:cor_K c b 0):loopF cor_RR cor_M (cor_g (0,c,b))=((scan 0 (cor_S c) 0 (c.1) b).1,cor_g ((scan 0 (cor_S c) 0 (c.1) b).2.1,c,(scan 0 (cor_S c) 0 (c.1) b).2.2)):=ix_conj_run (φ:=cor_f) (ψ:=cor_g) (fun _=>rfl) (fun _=>rfl) cor_RF cor_P c b k1 k2 k3
noncomputable def ixf_S (c:ixf_GC) (b:ixf_GB) (i:Int) (v:Many):Ex×ixf_GB:=bif chkR v.r != (0:Int) then (.ret,(),i) else (.normal,b.1,b.2)
def ixf_K (c:ixf_GC) (b:ixf_GB) (i:Int):Prop:=True
abbrev ixf_I (g:ixf_G):List Prop:=ixI (fun c:ixf_GC=>c.2) (fun c:ixf_GC=>c.1) ixf_K (ixf_f g)
abbrev ixf_M (g:ixf_G):Nat:=ixM (fun c:ixf_GC=>c.2) (ixf_f g)
theorem ixf_P:ixP ixf_S (fun c:ixf_GC=>c.1) ixf_K:=fun _ _ _ _ h _ _=>h
noncomputable abbrev ixf_RR (g:ixf_G):Ex×ixf_G:=ixf_R g.1 g.2.1 g.2.2.1 g.2.2.2.1 g.2.2.2.2
theorem ixf_RF (d:Int×ixf_GC×ixf_GB) (hi:allP (ixI (fun c:ixf_GC=>c.2) (fun c:ixf_GC=>c.1) ixf_K d)):ixf_RR (ixf_g d)=((ixF 0 (fun c:ixf_GC=>c.2) (fun c:ixf_GC=>c.1) eM.dflt ixf_S d).1,ixf_g (ixF 0 (fun c:ixf_GC=>c.2) (fun c:ixf_GC=>c.1) eM.dflt ixf_S d).2):=by
 obtain ⟨i,⟨xs,n⟩,⟨⟨⟩,r⟩⟩:=d
 show ixf_R xs () n i r=_
 unfold ixf_R ixF ixf_S
 simp only[El.ag_eq]
 cases decide (i<n) with
 | false=>rfl
 | true=>
  simp only[cond_true]
  generalize (chkR (xs.getD i.toNat eM.dflt).r != (0:Int))=z
  cases z <;> rfl
theorem ixf_ok:∀ b∈loopsOf Tryd.prog 117,lkey b=2→LoopOk Tryd.prog b (ixf_C ixf_I ixf_M).g:=by
 refine ixf_loop ixf_I ixf_M (fun g hi=>?_) (ix_conj_goes (fun _=>rfl) (fun _=>rfl) ixf_RF ixf_P)
 obtain ⟨xs,⟨⟩,n,i,r⟩:=g
 obtain ⟨h1,h2,h3,h4,h5⟩:=hi _ (List.mem_cons_self ..)
 have h1:n=(xs.length:Int):=h1
 have h3:0≤i:=h3
 have h5:True:=h5
 show ixf_side xs () n i r
 unfold ixf_side
 simp only[decide_eq_true_eq,decide_eq_false_iff_not]
 have k0:∀ e:Nat,e<xs.length→eM.Ok (eM.els xs e):=fun e _=>eM.ok_els xs e
 clear hi
 repeat' (first | exact k0 | apply And.intro | intro _)
 all_goals omega
theorem ixf_run (c:ixf_GC) (b:ixf_GB) (k1:c.2=((c.1).length:Int)) (k2:(c.1).length≤maxLen) (k3:ixf_K c b 0):loopF ixf_RR ixf_M (ixf_g (0,c,b))=((scan 0 (ixf_S c) 0 (c.1) b).1,ixf_g ((scan 0 (ixf_S c) 0 (c.1) b).2.1,c,(scan 0 (ixf_S c) 0 (c.1) b).2.2)):=ix_conj_run (φ:=ixf_f) (ψ:=ixf_g) (fun _=>rfl) (fun _=>rfl) ixf_RF ixf_P c b k1 k2 k3
noncomputable def ltG2:LTab Tryd.prog:=((LTab.nil.cons 89 3 (cor_C cor_I cor_M) cor_ok).cons 117 2 (ixf_C ixf_I ixf_M) ixf_ok)
noncomputable abbrev lamG2:Lam:=ltG2.lam
theorem lamG2_ok:∀ f k L,lamG2 f k=some L→∀ b∈loopsOf Tryd.prog f,lkey b=k→LoopOk Tryd.prog b L.g:=ltG2.ok
end Go.Proofs.YtmegbepjdololaaDoor

namespace Go.Proofs.YtmegbepjdololaaDoor
open Go.RowKit Go.Sx
set_option maxRecDepth 100000
set_option linter.unusedVariables false
abbrev aLI:DA (List Int):=.one dLI
noncomputable def coo_q1 (xs:List Int):Ex ×
 cor_G:=
 loopF (fun g=>cor_R g.fst g.snd.fst g.snd.snd.fst g.snd.snd.snd.fst g.snd.snd.snd.snd) cor_M (eI.ag xs,(↑xs.length:Int),(0:Int),(0:Int),(0:Int))
noncomputable def coo_F (xs:List Int):Dv.T dI:=
 bif exB Ex.ret (coo_q1 xs).fst then (coo_q1 xs).snd.snd.snd.snd.snd else (coo_q1 xs).snd.snd.snd.fst
def coo_side (xs:List Int):Prop:=
 eI.okL xs∧Lp.ixJ (fun c=>c.snd.fst) (fun c=>c.fst) cor_K (cor_f (eI.ag xs,(↑xs.length:Int),(0:Int),(0:Int),(0:Int)))
theorem coo_okS (pre:DA.T aLI→List Prop) (h:∀ g,DA.bd aLI g→(∀ p∈pre g,p)→coo_side g):FnPure Tryd.prog 89 aLI dI (fun g=>coo_F g) pre:=pure_of_sideS (Γ:=(PTab.gamz tabG1 [] [])) (Λ:=lamG2) (PTab.okz tabG1 [] []) lamG2_ok 100 default (fun g=>coo_side g) (fun g=>by kernel_rfl) (fun g=>by kernel_rfl) h
end Go.Proofs.YtmegbepjdololaaDoor

namespace Go.Proofs.YtmegbepjdololaaDoor
open Go.RowKit Go.Sx Go.Lp
@[irreducible] def orF (xs:List Int):Int:=(xs.find? (· != (0:Int))).getD 0
theorem coo_ok:FnPure Tryd.prog 89 aLI dI orF (fun g=>[g.length≤KB]):=
 pure_congr (coo_okS _ fun a _ hp=>by
  have h:a.length≤KB:=hp _ (List.mem_cons_self ..)
  unfold KB at h
  show coo_side a
  unfold coo_side
  rw[eI.okL_eq,eI.ag_eq]
  exact ⟨trivial,rfl,by show a.length≤maxLen;unfold maxLen;omega,Int.le_refl _,by show (0:Int)≤(a.length:Int);omega,trivial⟩) fun a _ hp=>by
  have h:a.length≤KB:=hp _ (List.mem_cons_self ..)
  unfold KB at h
  have hrun:=cor_run (a,(a.length:Int),0) 0 rfl (by show a.length≤maxLen;unfold maxLen;omega) trivial
  have hq:coo_q1 a=loopF cor_RR cor_M (cor_g (0,(a,(a.length:Int),0),0)):=by
   unfold coo_q1
   rw[eI.ag_eq]
   rfl
  show coo_F a=orF a
  unfold coo_F orF
  rw[hq,hrun]
  rcases scan_any (x:=0) (st:=cor_S (a,(a.length:Int),0)) (p:=fun v=>v != (0:Int)) (r:=fun v _=>v) (e:=.ret) (by intro h;cases h) (fun b i a=>rfl) a 0 0 with ⟨_,v,_,_,h3,h4,h5⟩ | ⟨h1,hs⟩
  ·rw[h3]
   show (bif exB Ex.ret (scan 0 (cor_S (a,(a.length:Int),0)) 0 a 0).1 then (scan 0 (cor_S (a,(a.length:Int),0)) 0 a 0).2.2 else _)=_
   rw[h4,h5]
   rfl
  ·rw[hs]
   have:a.find? (· != (0:Int))=none:=by
    rw[List.find?_eq_none]
    intro x hx hb
    have:a.any (fun v=>v != (0:Int))=true:=List.any_eq_true.2 ⟨x,hx,hb⟩
    rw[h1] at this
    cases this
   rw[this]
   rfl
abbrev aLIB:DA (List Int):=.one (.listB eI)
theorem coo_okB:FnPure Tryd.prog 89 aLIB dI orF (fun g=>[g.length≤KB]):=coo_ok
noncomputable def tabG4:PTab Tryd.prog:=(tabG1.cons 89 (pconP aLIB dI orF (fun g=>[g.length≤KB])) (conP_ok coo_okB puI))
end Go.Proofs.YtmegbepjdololaaDoor

namespace Go.Proofs.YtmegbepjdololaaDoor
open Go.RowKit Go.Sx
set_option maxRecDepth 100000
set_option linter.unusedVariables false
noncomputable def cmr_F (a:Rec) (b:Rec):Dv.T dI:=
 orF [cmp64_F a.key b.key,Lib.compareBytes a.text.data.toList b.text.data.toList]
def cmr_side (a:Rec) (b:Rec):Prop:=
 (2:Nat)≤KB
theorem cmr_okS (pre:DA.T aRR→List Prop) (h:∀ g,DA.bd aRR g→(∀ p∈pre g,p)→cmr_side g.1 g.2):FnPure Tryd.prog 47 aRR dI (fun g=>cmr_F g.1 g.2) pre:=pure_of_sideS (Γ:=(PTab.gamz tabG4 [] [])) (Λ:=noΛ) (PTab.okz tabG4 [] []) noΛ_ok 100 default (fun g=>cmr_side g.1 g.2) (fun g=>by kernel_rfl) (fun g=>by kernel_rfl) h
end Go.Proofs.YtmegbepjdololaaDoor

namespace Go.Proofs.YtmegbepjdololaaDoor
open Go.RowKit Go.Sx Go.Lp
theorem bl_eq:∀ (x y:List UInt8),Op.bytesLess x y=decide (x<y)
 | [],[]=>by simp[Op.bytesLess]
 | _ :: _,[]=>by simp[Op.bytesLess]
 | [],_ :: _=>by simp[Op.bytesLess]
 | a :: x,b :: y=>by
  rw[Op.bytesLess,bl_eq x y]
  simp only[List.cons_lt_cons_iff]
  by_cases h1:a<b <;> by_cases h2:a=b <;> by_cases h3:x<y <;> simp[h1,h2,h3]
theorem cb_eq:∀ (x y:List UInt8),Lib.compareBytes x y=if x<y then -1 else if x=y then 0 else 1
 | [],[]=>by simp[Lib.compareBytes]
 | _ :: _,[]=>by simp[Lib.compareBytes]
 | [],_ :: _=>by simp[Lib.compareBytes]
 | a :: x,b :: y=>by
  rw[Lib.compareBytes,cb_eq x y]
  simp only[List.cons_lt_cons_iff,List.cons.injEq]
  by_cases h1:a<b
  ·simp[h1]
  ·by_cases h2:b<a
   ·have h3:a≠b:=fun h=>by subst h;exact h1 h2
    simp[h1,h2,h3]
   ·have h3:a=b:=UInt8.le_antisymm (UInt8.not_lt.1 h2) (UInt8.not_lt.1 h1)
    subst h3
    simp[h1]
def tlt (a b:BA):Prop:=toL a<toL b
instance (a b:BA):Decidable (tlt a b):=inferInstanceAs (Decidable (toL a<toL b))
theorem tlt_irrefl (a:BA):¬ tlt a a:=List.lt_irrefl _
theorem tlt_trans {a b c:BA} (h:tlt a b) (h':tlt b c):tlt a c:=List.lt_trans h h'
theorem bl_tlt (a b:BA):Op.bytesLess (ByteArray.toList a) (ByteArray.toList b)=decide (tlt a b):=by
 rw[bl_eq,Lib.toList_data,Lib.toList_data]
 rfl
def rlt (a b:Rec):Prop:=a.key<b.key∨(a.key=b.key∧tlt a.text b.text)
instance (a b:Rec):Decidable (rlt a b):=inferInstanceAs (Decidable (_∨_))
def cmpR (a b:Rec):Int:=if rlt a b then -1 else if a=b then 0 else 1
theorem rec_ext' {a b:Rec} (h1:a.key=b.key) (h2:a.text=b.text):a=b:=by
 obtain ⟨k,t⟩:=a
 obtain ⟨k',t'⟩:=b
 simp only at h1 h2
 rw[h1,h2]
theorem cmpR_lt {a b:Rec} (h:rlt a b):cmpR a b=-1:=by unfold cmpR;rw[if_pos h]
theorem cmpR_same {a b:Rec} (h:¬ rlt a b) (h':a=b):cmpR a b=0:=by unfold cmpR;rw[if_neg h,if_pos h']
theorem cmpR_gt {a b:Rec} (h:¬ rlt a b) (h':a≠b):cmpR a b=1:=by unfold cmpR;rw[if_neg h,if_neg h']
theorem rlt_no {a b:Rec} (h:¬ a.key<b.key) (h':a.key=b.key→¬ tlt a.text b.text):¬ rlt a b:=by
 rintro (h1 | ⟨h1,h2⟩)
 ·exact h h1
 ·exact h' h1 h2
theorem rcm_eq (a b:Rec):rcm_F a b=cmpR a b:=by
 unfold rcm_F
 rw[bl_tlt]
 by_cases h1:a.key<b.key
 ·rw[decide_eq_true h1,cond_true,cmpR_lt (.inl h1)]
 rw[decide_eq_false h1,cond_false]
 by_cases h2:a.key > b.key
 ·have h3:a≠b:=fun h=>by subst h;omega
  rw[decide_eq_true h2,cond_true,cmpR_gt (rlt_no h1 fun h=>by omega) h3]
 have hk:a.key=b.key:=by omega
 rw[decide_eq_false h2,cond_false]
 by_cases h3:tlt a.text b.text
 ·rw[decide_eq_true h3,cond_true,cmpR_lt (.inr ⟨hk,h3⟩)]
 rw[decide_eq_false h3,cond_false,Bool.false_or]
 by_cases h4:a.text=b.text
 ·rw[decide_eq_true h4,cmpR_same (rlt_no h1 fun _=>h3) (rec_ext' hk h4)];rfl
 ·rw[decide_eq_false h4,cmpR_gt (rlt_no h1 fun _=>h3) (fun h=>h4 (by rw[h]))];rfl
theorem toL_iff (a b:BA):toL a=toL b↔a=b:=⟨toL_inj,fun h=>by rw[h]⟩
theorem orF_two (a b:Int):orF [a,b]=if a≠0 then a else b:=by
 unfold orF
 by_cases h:a=0
 ·subst h
  by_cases h':b=0
  ·subst h';rfl
  ·have e:(b != (0:Int))=true:=bne_iff_ne.2 h'
   simp[List.find?,e]
 ·have e:(a != (0:Int))=true:=bne_iff_ne.2 h
  simp[List.find?,e,h]
theorem cmr_eq (a b:Rec):cmr_F a b=cmpR a b:=by
 unfold cmr_F
 have e:Lib.compareBytes a.text.data.toList b.text.data.toList=if tlt a.text b.text then -1 else if a.text=b.text then 0 else 1:=by
  rw[cb_eq]
  show (if toL a.text<toL b.text then (-1:Int) else if toL a.text=toL b.text then 0 else 1)=_
  simp only[toL_iff]
  rfl
 have e2:cmp64_F a.key b.key=if a.key<b.key then -1 else if a.key > b.key then 1 else 0:=by
  unfold cmp64_F
  simp only[bne_self_eq_false,cond_false,Bool.cond_eq_ite,decide_eq_true_eq,Bool.false_eq_true,if_false]
 rw[e,e2,orF_two]
 by_cases h1:a.key<b.key
 ·rw[if_pos h1,if_pos (by decide),cmpR_lt (.inl h1)]
 by_cases h2:a.key > b.key
 ·have h3:a≠b:=fun h=>by subst h;omega
  rw[if_neg h1,if_pos h2,if_pos (by decide),cmpR_gt (rlt_no h1 fun h=>by omega) h3]
 have hk:a.key=b.key:=by omega
 rw[if_neg h1,if_neg h2,if_neg (by decide)]
 by_cases h3:tlt a.text b.text
 ·rw[if_pos h3,cmpR_lt (.inr ⟨hk,h3⟩)]
 rw[if_neg h3]
 by_cases h4:a.text=b.text
 ·rw[if_pos h4,cmpR_same (rlt_no h1 fun _=>h3) (rec_ext' hk h4)]
 ·rw[if_neg h4,cmpR_gt (rlt_no h1 fun _=>h3) (fun h=>h4 (by rw[h]))]
theorem cmr_ok:FnPure Tryd.prog 47 aRR dI (fun g=>cmpR g.1 g.2) (fun _=>[]):=
 pure_congr (cmr_okS _ fun _ _ _=>by show 2≤KB;unfold KB;omega) fun g _ _=>cmr_eq g.1 g.2
theorem rcm_ok':FnPure Tryd.prog 48 aRR dI (fun g=>cmpR g.1 g.2) (fun _=>[]):=
 pure_congr rcm_ok fun g _ _=>rcm_eq g.1 g.2
noncomputable def tabG6:PTab Tryd.prog:=(tabG0.cons 47 (pconP aRR dI (fun g=>cmpR g.1 g.2) (fun _=>[])) (conP_ok cmr_ok puI)).cons 48 (pconP aRR dI (fun g=>cmpR g.1 g.2) (fun _=>[])) (conP_ok rcm_ok' puI)
end Go.Proofs.YtmegbepjdololaaDoor

namespace Go.Proofs.YtmegbepjdololaaDoor
open Go.RowKit Go.Sx
set_option maxRecDepth 100000
set_option linter.unusedVariables false
abbrev nilV:SV:=.k (.slice none 0 0)
abbrev tM:Nat:=84
abbrev aMap:DA (List (Rec×Int)):=.one (.map true false eR eI)
noncomputable def ba_q1 (xs:List Rec) (n:Int) (i:Int) (_u:Unit) (mp:List (Rec×Int×Int)×Nat) (_u2:Unit) (r:Int):Nat:=
 kfind (fun e=>(xs.getD i.toNat eR.dflt).key==(mp.fst.getD e (eR.ent eI).dflt).fst.key&&decide ((xs.getD i.toNat eR.dflt).text=(mp.fst.getD e (eR.ent eI).dflt).fst.text)) mp.fst.length (0:Nat)
noncomputable def ba_q2 (xs:List Rec) (n:Int) (i:Int) (_u:Unit) (mp:List (Rec×Int×Int)×Nat) (_u2:Unit) (r:Int):Nat:=
 kfind (fun e=>((xs.getD i.toNat eR.dflt).key==bif decide (e=(ba_q1 xs n i _u mp _u2 r)) then (xs.getD i.toNat eR.dflt).key else (mp.fst.getD e (eR.ent eI).dflt).fst.key)&&decide ((xs.getD i.toNat eR.dflt).text=bif decide (e=(ba_q1 xs n i _u mp _u2 r)) then (xs.getD i.toNat eR.dflt).text else (mp.fst.getD e (eR.ent eI).dflt).fst.text)) (bif decide ((ba_q1 xs n i _u mp _u2 r)<mp.fst.length) then mp.fst.length else mp.fst.length+(1:Nat)) (0:Nat)
abbrev ba_G:Type:=List Rec×Int×Int×Unit×(List (Rec×Int×Int)×Nat)×Unit×Int
noncomputable def ba_LP:LP 1 ba_G:=.pair (.slot 1 9 dLR) (.pair (.slot 1 10 dI) (.pair (.slot 1 11 dI) (.pair (.fix 1 4 (.mp 0)) (.pair (.mapO 1 0 true false eR eI) (.pair (.fix 1 2 nilV) (.slot 1 3 dI))))))
noncomputable def ba_R (xs:List Rec) (n:Int) (i:Int) (_u:Unit) (mp:List (Rec×Int×Int)×Nat) (_u2:Unit) (r:Int):Ex×ba_G:=
 bif decide (i<n) then bif chkR (xs.getD i.toNat eR.dflt) != (0:Int) then (Ex.ret,eR.ag xs,n,i,(),((eR.ent eI).ag mp.fst,mp.snd),(),chkR (xs.getD i.toNat eR.dflt)) else (Ex.normal,eR.ag xs,n,IntKind.i64.wrap (i+(1:Int)),(),(((eR.ent eI).lst (bif decide ((ba_q1 xs n i _u mp _u2 r)<mp.fst.length) then mp.fst.length else mp.fst.length+(1:Nat)) ((eR.ent eI).els mp.fst)).set (ba_q1 xs n i _u mp _u2 r) (xs.getD i.toNat eR.dflt,IntKind.i64.wrap ((bif decide ((ba_q1 xs n i _u mp _u2 r)<mp.fst.length) then (mp.fst.getD (ba_q1 xs n i _u mp _u2 r) (eR.ent eI).dflt).snd.fst else (0:Int))+(1:Int)),bif decide ((ba_q1 xs n i _u mp _u2 r)<mp.fst.length) then (mp.fst.getD (ba_q1 xs n i _u mp _u2 r) (eR.ent eI).dflt).snd.snd else (↑mp.snd:Int)),bif decide ((ba_q1 xs n i _u mp _u2 r)<mp.fst.length) then mp.snd else mp.snd+(1:Nat)),(),r)
 else (Ex.exit (0:Nat),eR.ag xs,n,i,(),((eR.ent eI).ag mp.fst,mp.snd),(),r)
def ba_side (xs:List Rec) (n:Int) (i:Int) (_u:Unit) (mp:List (Rec×Int×Int)×Nat) (_u2:Unit) (r:Int):Prop:=
 (decide (i<n)=true→((0:Int)≤i∧i<(↑xs.length:Int))∧((chkR (xs.getD i.toNat eR.dflt) != (0:Int))=true→eR.okL xs∧∀ (e:Nat),e<mp.fst.length→True)∧((chkR (xs.getD i.toNat eR.dflt) != (0:Int))=false→∀ (cs:List Nat),(cs.isEmpty=true→(∀ (e:Nat),e<mp.fst.length→(4:Nat)=(4:Nat))∧(∀ (e:Nat),e<mp.fst.length→True)∧(∀ (e:Nat),e<mp.fst.length→(4:Nat)=(4:Nat))∧(∀ (e:Nat),e<mp.fst.length→True)∧((bif decide ((ba_q1 xs n i _u mp _u2 r)<mp.fst.length) then (mp.fst.getD (ba_q1 xs n i _u mp _u2 r) (eR.ent eI).dflt).snd.snd else (↑mp.snd:Int))=bif decide ((ba_q1 xs n i _u mp _u2 r)<mp.fst.length) then (mp.fst.getD (ba_q1 xs n i _u mp _u2 r) (eR.ent eI).dflt).snd.snd else (↑mp.snd:Int))∧eR.okL xs∧True∧(∀ (e:Nat),(e<bif decide ((ba_q1 xs n i _u mp _u2 r)<mp.fst.length) then mp.fst.length else mp.fst.length+(1:Nat))→True)∧∀ (d:Ex×List Rec×Int×Int×Unit×(List (Rec×Int×Int)×Nat)×Unit×Int),(Ex.normal,eR.ag xs,n,IntKind.i64.wrap (i+(1:Int)),(),(((eR.ent eI).lst (bif decide ((ba_q1 xs n i _u mp _u2 r)<mp.fst.length) then mp.fst.length else mp.fst.length+(1:Nat)) ((eR.ent eI).els mp.fst)).set (ba_q1 xs n i _u mp _u2 r) (xs.getD i.toNat eR.dflt,IntKind.i64.wrap ((bif decide ((ba_q1 xs n i _u mp _u2 r)<mp.fst.length) then (mp.fst.getD (ba_q1 xs n i _u mp _u2 r) (eR.ent eI).dflt).snd.fst else (0:Int))+(1:Int)),bif decide ((ba_q1 xs n i _u mp _u2 r)<mp.fst.length) then (mp.fst.getD (ba_q1 xs n i _u mp _u2 r) (eR.ent eI).dflt).snd.snd else (↑mp.snd:Int)),bif decide ((ba_q1 xs n i _u mp _u2 r)<mp.fst.length) then mp.snd else mp.snd+(1:Nat)),(),r)=(Ex.normal,eR.ag xs,n,IntKind.i64.wrap (i+(1:Int)),(),(((eR.ent eI).lst (bif decide ((ba_q1 xs n i _u mp _u2 r)<mp.fst.length) then mp.fst.length else mp.fst.length+(1:Nat)) ((eR.ent eI).els mp.fst)).set (ba_q1 xs n i _u mp _u2 r) (xs.getD i.toNat eR.dflt,IntKind.i64.wrap ((bif decide ((ba_q1 xs n i _u mp _u2 r)<mp.fst.length) then (mp.fst.getD (ba_q1 xs n i _u mp _u2 r) (eR.ent eI).dflt).snd.fst else (0:Int))+(1:Int)),bif decide ((ba_q1 xs n i _u mp _u2 r)<mp.fst.length) then (mp.fst.getD (ba_q1 xs n i _u mp _u2 r) (eR.ent eI).dflt).snd.snd else (↑mp.snd:Int)),bif decide ((ba_q1 xs n i _u mp _u2 r)<mp.fst.length) then mp.snd else mp.snd+(1:Nat)),(),r))∧(cs.isEmpty=false→(∀ (e:Nat),e<mp.fst.length→(4:Nat)=(4:Nat))∧(∀ (e:Nat),e<mp.fst.length→True)∧(∀ (e:Nat),(e<bif decide ((ba_q1 xs n i _u mp _u2 r)<mp.fst.length) then mp.fst.length else mp.fst.length+(1:Nat))→(4:Nat)=(4:Nat))∧(∀ (e:Nat),(e<bif decide ((ba_q1 xs n i _u mp _u2 r)<mp.fst.length) then mp.fst.length else mp.fst.length+(1:Nat))→True)∧((bif decide ((ba_q1 xs n i _u mp _u2 r)<mp.fst.length) then (mp.fst.getD (ba_q1 xs n i _u mp _u2 r) (eR.ent eI).dflt).snd.snd else (↑mp.snd:Int))=bif decide ((ba_q1 xs n i _u mp _u2 r)<mp.fst.length) then (mp.fst.getD (ba_q1 xs n i _u mp _u2 r) (eR.ent eI).dflt).snd.snd else (↑mp.snd:Int))∧eR.okL xs∧True∧(∀ (e:Nat),(e<bif decide ((ba_q1 xs n i _u mp _u2 r)<mp.fst.length) then mp.fst.length else mp.fst.length+(1:Nat))→True)∧∀ (d:Ex×List Rec×Int×Int×Unit×(List (Rec×Int×Int)×Nat)×Unit×Int),(Ex.normal,eR.ag xs,n,IntKind.i64.wrap (i+(1:Int)),(),(((eR.ent eI).lst (bif decide ((ba_q1 xs n i _u mp _u2 r)<mp.fst.length) then mp.fst.length else mp.fst.length+(1:Nat)) ((eR.ent eI).els mp.fst)).set (ba_q1 xs n i _u mp _u2 r) (xs.getD i.toNat eR.dflt,IntKind.i64.wrap ((bif decide ((ba_q2 xs n i _u mp _u2 r)<bif decide ((ba_q1 xs n i _u mp _u2 r)<mp.fst.length) then mp.fst.length else mp.fst.length+(1:Nat)) then bif decide ((ba_q2 xs n i _u mp _u2 r)=(ba_q1 xs n i _u mp _u2 r)) then bif decide ((ba_q1 xs n i _u mp _u2 r)<mp.fst.length) then (mp.fst.getD (ba_q1 xs n i _u mp _u2 r) (eR.ent eI).dflt).snd.fst else (0:Int) else (mp.fst.getD (ba_q2 xs n i _u mp _u2 r) (eR.ent eI).dflt).snd.fst else (0:Int))+(1:Int)),bif decide ((ba_q1 xs n i _u mp _u2 r)<mp.fst.length) then (mp.fst.getD (ba_q1 xs n i _u mp _u2 r) (eR.ent eI).dflt).snd.snd else (↑mp.snd:Int)),bif decide ((ba_q1 xs n i _u mp _u2 r)<mp.fst.length) then mp.snd else mp.snd+(1:Nat)),(),r)=(Ex.normal,eR.ag xs,n,IntKind.i64.wrap (i+(1:Int)),(),(((eR.ent eI).lst (bif decide ((ba_q1 xs n i _u mp _u2 r)<mp.fst.length) then mp.fst.length else mp.fst.length+(1:Nat)) ((eR.ent eI).els mp.fst)).set (ba_q1 xs n i _u mp _u2 r) (xs.getD i.toNat eR.dflt,IntKind.i64.wrap ((bif decide ((ba_q1 xs n i _u mp _u2 r)<mp.fst.length) then (mp.fst.getD (ba_q1 xs n i _u mp _u2 r) (eR.ent eI).dflt).snd.fst else (0:Int))+(1:Int)),bif decide ((ba_q1 xs n i _u mp _u2 r)<mp.fst.length) then (mp.fst.getD (ba_q1 xs n i _u mp _u2 r) (eR.ent eI).dflt).snd.snd else (↑mp.snd:Int)),bif decide ((ba_q1 xs n i _u mp _u2 r)<mp.fst.length) then mp.snd else mp.snd+(1:Nat)),(),r))))∧(decide (i<n)=false→eR.okL xs∧∀ (e:Nat),e<mp.fst.length→True)
theorem ba_one:((loopsOf Tryd.prog 24).filter fun c=>Nat.beq (lkey c) 3).length=1:=by kernel_rfl
abbrev ba_GC:Type:=List Rec×Int
abbrev ba_GB:Type:=(List (Rec×Int×Int)×Nat)×Int
def ba_f (g:ba_G):Int×ba_GC×ba_GB:=(g.2.2.1,(g.1,g.2.1),(g.2.2.2.2.1,g.2.2.2.2.2.2))
def ba_g (d:Int×ba_GC×ba_GB):ba_G:=(d.2.1.1,d.2.1.2,d.1,(),d.2.2.1,(),d.2.2.2)
theorem ba_es (g:ba_G):(ba_R g.1 g.2.1 g.2.2.1 g.2.2.2.1 g.2.2.2.2.1 g.2.2.2.2.2.1 g.2.2.2.2.2.2).1=.normal∨(ba_R g.1 g.2.1 g.2.2.1 g.2.2.2.1 g.2.2.2.2.1 g.2.2.2.2.2.1 g.2.2.2.2.2.2).1∈([.ret,.exit 0]:List Ex):=by
 unfold ba_R
 repeat' (first | (left;rfl) | (right;simp only[cond_true,cond_false];simp;done) | (rw[Bool.cond_eq_ite];split))
noncomputable abbrev ba_C (Inv:ba_G→List Prop) (m:ba_G→Nat):LCon:=loopR [.ret,.exit 0] (loopBody Tryd.prog 24 3) ba_LP [] 31 Inv (fun g=>ba_R g.1 g.2.1 g.2.2.1 g.2.2.2.1 g.2.2.2.2.1 g.2.2.2.2.2.1 g.2.2.2.2.2.2) m
theorem ba_loop (Inv:ba_G→List Prop) (m:ba_G→Nat) (hs:∀ g,allP (Inv g)→ba_side g.1 g.2.1 g.2.2.1 g.2.2.2.1 g.2.2.2.2.1 g.2.2.2.2.2.1 g.2.2.2.2.2.2) (hg:Goes (fun g:ba_G=>ba_R g.1 g.2.1 g.2.2.1 g.2.2.2.1 g.2.2.2.2.1 g.2.2.2.2.2.1 g.2.2.2.2.2.2) m fun g=>allP (Inv g)):∀ b∈loopsOf Tryd.prog 24,lkey b=3→LoopOk Tryd.prog b (ba_C Inv m).g:=loop_run (Γ:=(MTab.gamz (MTab.of tabG6) [] [])) (Λ:=noΛ) (MTab.okz (MTab.of tabG6) [] []) noΛ_ok 100 24 3 31 ba_LP [] Inv (fun g=>ba_R g.1 g.2.1 g.2.2.1 g.2.2.2.1 g.2.2.2.2.1 g.2.2.2.2.2.1 g.2.2.2.2.2.2) (fun g=>ba_side g.1 g.2.1 g.2.2.1 g.2.2.2.1 g.2.2.2.2.1 g.2.2.2.2.2.1 g.2.2.2.2.2.2) m default [.ret,.exit 0] ba_one (fun rd T B HL HB ds g=>by kernel_rfl) (fun rd T B HL HB ds g=>by kernel_rfl) hs hg ba_es
abbrev bg_G:Type:=Unit×(List (Rec×Int))×List Many×Unit×Int
noncomputable def bg_LP:LP 1 bg_G:=.pair (.fix 1 8 (.p 0 0)) (.pair (.mif 1 0 true false eR eI) (.pair (.row 1 4 tM eM) (.pair (.fix 1 2 nilV) (.slot 1 3 dI))))
noncomputable def bg_R (cs:List Nat) (_u:Unit) (it:List (Rec×Int)) (o:List Many) (_u2:Unit) (r:Int):Ex×bg_G:=
 bif decide (it.length=(0:Nat)) then (Ex.exit (0:Nat),(),(eR.pair eI).lst it.length ((eR.pair eI).els it),eM.lst o.length (eM.els o),(),r)
 else bif decide ((it.getD ((hdC cs).headD (0:Nat) % it.length) (eR.pair eI).dflt).snd > (1048576:Int)) then (Ex.ret,(),(eR.pair eI).lst (min (it.length - (1:Nat)) ((hdC cs).headD (0:Nat) % it.length)) ((eR.pair eI).els it)++List.drop ((hdC cs).headD (0:Nat) % it.length+(1:Nat)) ((eR.pair eI).lst ((hdC cs).headD (0:Nat) % it.length+(1:Nat)+(it.length - (1:Nat) - (hdC cs).headD (0:Nat) % it.length)) ((eR.pair eI).els it)),eM.lst o.length (eM.els o),(),(51:Int)) else (Ex.normal,(),(eR.pair eI).lst (min (it.length - (1:Nat)) ((hdC cs).headD (0:Nat) % it.length)) ((eR.pair eI).els it)++List.drop ((hdC cs).headD (0:Nat) % it.length+(1:Nat)) ((eR.pair eI).lst ((hdC cs).headD (0:Nat) % it.length+(1:Nat)+(it.length - (1:Nat) - (hdC cs).headD (0:Nat) % it.length)) ((eR.pair eI).els it)),eM.lst (min (o.length+(1:Nat)) o.length) (eM.els o)++List.map (fun x=>Many.mk (it.getD ((hdC cs).headD (0:Nat) % it.length) (eR.pair eI).dflt).fst (it.getD ((hdC cs).headD (0:Nat) % it.length) (eR.pair eI).dflt).snd) (List.range (o.length+(1:Nat) - o.length)),(),r)
def bg_side (cs:List Nat) (_u:Unit) (it:List (Rec×Int)) (o:List Many) (_u2:Unit) (r:Int):Prop:=
 (decide (it.length=(0:Nat))=true→(∀ (e:Nat),e<it.length→True)∧o.length≤o.length∧∀ (e:Nat),e<o.length→True)∧(decide (it.length=(0:Nat))=false→(decide ((it.getD ((hdC cs).headD (0:Nat) % it.length) (eR.pair eI).dflt).snd > (1048576:Int))=true→(∀ (e:Nat),e<min (it.length - (1:Nat)) ((hdC cs).headD (0:Nat) % it.length)→True)∧(∀ (e:Nat),e<(hdC cs).headD (0:Nat) % it.length+(1:Nat)+(it.length - (1:Nat) - (hdC cs).headD (0:Nat) % it.length)→True)∧o.length≤o.length∧∀ (e:Nat),e<o.length→True)∧(decide ((it.getD ((hdC cs).headD (0:Nat) % it.length) (eR.pair eI).dflt).snd > (1048576:Int))=false→(o.length≤o.length∧True∧o.length+(1:Nat)≤maxLen∧(o.length+(1:Nat)) * Tryd.prog.types[(84:Nat)].bytes≤(140737488355328:Nat))∧(∀ (e:Nat),e<min (it.length - (1:Nat)) ((hdC cs).headD (0:Nat) % it.length)→True)∧(∀ (e:Nat),e<(hdC cs).headD (0:Nat) % it.length+(1:Nat)+(it.length - (1:Nat) - (hdC cs).headD (0:Nat) % it.length)→True)∧o.length+(1:Nat)≤o.length+(1:Nat)∧(∀ (e:Nat),e<min (o.length+(1:Nat)) o.length→True)∧∀ (e:Nat),e<o.length+(1:Nat) - o.length→True))
theorem bg_one:((loopsOf Tryd.prog 74).filter fun c=>Nat.beq (lkey c) 3).length=1:=by kernel_rfl
abbrev bg_E:List Ex:=[.exit 0,.ret]
theorem bg_es (cs:List Nat) (g:bg_G):(bg_R cs g.1 g.2.1 g.2.2.1 g.2.2.2.1 g.2.2.2.2).1=.normal∨(bg_R cs g.1 g.2.1 g.2.2.1 g.2.2.2.1 g.2.2.2.2).1∈bg_E:=by
 unfold bg_R
 repeat' (first | (left;rfl) | (right;simp only[cond_true,cond_false];simp;done) | (rw[Bool.cond_eq_ite];split))
noncomputable abbrev bg_F (cs:List Nat) (g:bg_G):Ex×bg_G:=bg_R cs g.1 g.2.1 g.2.2.1 g.2.2.2.1 g.2.2.2.2
noncomputable abbrev bg_C (Inv:bg_G→List Prop) (m:bg_G→Nat):LCon:=loopRA bg_E (loopBody Tryd.prog 74 3) bg_LP [] 25 Inv bg_F m
theorem bg_loop (Inv:bg_G→List Prop) (m:bg_G→Nat) (hs:∀ cs g,allP (Inv g)→bg_side cs g.1 g.2.1 g.2.2.1 g.2.2.2.1 g.2.2.2.2) (hg:GoesA bg_F m fun g=>allP (Inv g)):∀ b∈loopsOf Tryd.prog 74,lkey b=3→LoopOk Tryd.prog b (bg_C Inv m).g:=loop_runA (Γ:=(MTab.gamz (MTab.of tabG6) [] [])) (Λ:=noΛ) (MTab.okz (MTab.of tabG6) [] []) noΛ_ok 100 74 3 25 bg_LP [] Inv bg_F (fun cs g=>bg_side cs g.1 g.2.1 g.2.2.1 g.2.2.2.1 g.2.2.2.2) m default bg_E bg_one (fun rd T B HL HB ds cs g=>by kernel_rfl) (fun rd T B HL HB ds cs g=>by kernel_rfl) hs hg bg_es
noncomputable def su_q1 (xs:List Many) (n:Int) (i:Int) (_u:Unit) (mp:List (Rec×Int×Int)×Nat):Nat:=
 kfind (fun e=>(xs.getD i.toNat eM.dflt).r.key==(mp.fst.getD e (eR.ent eI).dflt).fst.key&&decide ((xs.getD i.toNat eM.dflt).r.text=(mp.fst.getD e (eR.ent eI).dflt).fst.text)) mp.fst.length (0:Nat)
noncomputable def su_q2 (xs:List Many) (n:Int) (i:Int) (_u:Unit) (mp:List (Rec×Int×Int)×Nat):Nat:=
 kfind (fun e=>((xs.getD i.toNat eM.dflt).r.key==bif decide (e=(su_q1 xs n i _u mp)) then (xs.getD i.toNat eM.dflt).r.key else (mp.fst.getD e (eR.ent eI).dflt).fst.key)&&decide ((xs.getD i.toNat eM.dflt).r.text=bif decide (e=(su_q1 xs n i _u mp)) then (xs.getD i.toNat eM.dflt).r.text else (mp.fst.getD e (eR.ent eI).dflt).fst.text)) (bif decide ((su_q1 xs n i _u mp)<mp.fst.length) then mp.fst.length else mp.fst.length+(1:Nat)) (0:Nat)
abbrev su_G:Type:=List Many×Int×Int×Unit×List (Rec×Int×Int)×Nat
noncomputable def su_LP:LP 1 su_G:=.pair (.slot 1 24 dLM) (.pair (.slot 1 25 dI) (.pair (.slot 1 26 dI) (.pair (.fix 1 6 (.mp 0)) (.mapO 1 0 true false eR eI))))
noncomputable def su_R (xs:List Many) (n:Int) (i:Int) (_u:Unit) (mp:List (Rec×Int×Int)×Nat):Ex×su_G:=
 bif decide (i<n) then (Ex.normal,eM.ag xs,n,IntKind.i64.wrap (i+(1:Int)),(),((eR.ent eI).lst (bif decide ((su_q1 xs n i _u mp)<mp.fst.length) then mp.fst.length else mp.fst.length+(1:Nat)) ((eR.ent eI).els mp.fst)).set (su_q1 xs n i _u mp) ((xs.getD i.toNat eM.dflt).r,IntKind.i64.wrap ((bif decide ((su_q1 xs n i _u mp)<mp.fst.length) then (mp.fst.getD (su_q1 xs n i _u mp) (eR.ent eI).dflt).snd.fst else (0:Int))+(xs.getD i.toNat eM.dflt).n),bif decide ((su_q1 xs n i _u mp)<mp.fst.length) then (mp.fst.getD (su_q1 xs n i _u mp) (eR.ent eI).dflt).snd.snd else (↑mp.snd:Int)),bif decide ((su_q1 xs n i _u mp)<mp.fst.length) then mp.snd else mp.snd+(1:Nat))
 else (Ex.exit (2:Nat),eM.ag xs,n,i,(),(eR.ent eI).ag mp.fst,mp.snd)
def su_side (xs:List Many) (n:Int) (i:Int) (_u:Unit) (mp:List (Rec×Int×Int)×Nat):Prop:=
 (decide (i<n)=true→((0:Int)≤i∧i<(↑xs.length:Int))∧∀ (cs:List Nat),(cs.isEmpty=true→(∀ (e:Nat),e<mp.fst.length→(4:Nat)=(4:Nat))∧(∀ (e:Nat),e<mp.fst.length→True)∧(∀ (e:Nat),e<mp.fst.length→(4:Nat)=(4:Nat))∧(∀ (e:Nat),e<mp.fst.length→True)∧((bif decide ((su_q1 xs n i _u mp)<mp.fst.length) then (mp.fst.getD (su_q1 xs n i _u mp) (eR.ent eI).dflt).snd.snd else (↑mp.snd:Int))=bif decide ((su_q1 xs n i _u mp)<mp.fst.length) then (mp.fst.getD (su_q1 xs n i _u mp) (eR.ent eI).dflt).snd.snd else (↑mp.snd:Int))∧eM.okL xs∧True∧(∀ (e:Nat),(e<bif decide ((su_q1 xs n i _u mp)<mp.fst.length) then mp.fst.length else mp.fst.length+(1:Nat))→True)∧∀ (d:Ex×List Many×Int×Int×Unit×List (Rec×Int×Int)×Nat),(Ex.normal,eM.ag xs,n,IntKind.i64.wrap (i+(1:Int)),(),((eR.ent eI).lst (bif decide ((su_q1 xs n i _u mp)<mp.fst.length) then mp.fst.length else mp.fst.length+(1:Nat)) ((eR.ent eI).els mp.fst)).set (su_q1 xs n i _u mp) ((xs.getD i.toNat eM.dflt).r,IntKind.i64.wrap ((bif decide ((su_q1 xs n i _u mp)<mp.fst.length) then (mp.fst.getD (su_q1 xs n i _u mp) (eR.ent eI).dflt).snd.fst else (0:Int))+(xs.getD i.toNat eM.dflt).n),bif decide ((su_q1 xs n i _u mp)<mp.fst.length) then (mp.fst.getD (su_q1 xs n i _u mp) (eR.ent eI).dflt).snd.snd else (↑mp.snd:Int)),bif decide ((su_q1 xs n i _u mp)<mp.fst.length) then mp.snd else mp.snd+(1:Nat))=(Ex.normal,eM.ag xs,n,IntKind.i64.wrap (i+(1:Int)),(),((eR.ent eI).lst (bif decide ((su_q1 xs n i _u mp)<mp.fst.length) then mp.fst.length else mp.fst.length+(1:Nat)) ((eR.ent eI).els mp.fst)).set (su_q1 xs n i _u mp) ((xs.getD i.toNat eM.dflt).r,IntKind.i64.wrap ((bif decide ((su_q1 xs n i _u mp)<mp.fst.length) then (mp.fst.getD (su_q1 xs n i _u mp) (eR.ent eI).dflt).snd.fst else (0:Int))+(xs.getD i.toNat eM.dflt).n),bif decide ((su_q1 xs n i _u mp)<mp.fst.length) then (mp.fst.getD (su_q1 xs n i _u mp) (eR.ent eI).dflt).snd.snd else (↑mp.snd:Int)),bif decide ((su_q1 xs n i _u mp)<mp.fst.length) then mp.snd else mp.snd+(1:Nat)))∧(cs.isEmpty=false→(∀ (e:Nat),e<mp.fst.length→(4:Nat)=(4:Nat))∧(∀ (e:Nat),e<mp.fst.length→True)∧(∀ (e:Nat),(e<bif decide ((su_q1 xs n i _u mp)<mp.fst.length) then mp.fst.length else mp.fst.length+(1:Nat))→(4:Nat)=(4:Nat))∧(∀ (e:Nat),(e<bif decide ((su_q1 xs n i _u mp)<mp.fst.length) then mp.fst.length else mp.fst.length+(1:Nat))→True)∧((bif decide ((su_q1 xs n i _u mp)<mp.fst.length) then (mp.fst.getD (su_q1 xs n i _u mp) (eR.ent eI).dflt).snd.snd else (↑mp.snd:Int))=bif decide ((su_q1 xs n i _u mp)<mp.fst.length) then (mp.fst.getD (su_q1 xs n i _u mp) (eR.ent eI).dflt).snd.snd else (↑mp.snd:Int))∧eM.okL xs∧True∧(∀ (e:Nat),(e<bif decide ((su_q1 xs n i _u mp)<mp.fst.length) then mp.fst.length else mp.fst.length+(1:Nat))→True)∧∀ (d:Ex×List Many×Int×Int×Unit×List (Rec×Int×Int)×Nat),(Ex.normal,eM.ag xs,n,IntKind.i64.wrap (i+(1:Int)),(),((eR.ent eI).lst (bif decide ((su_q1 xs n i _u mp)<mp.fst.length) then mp.fst.length else mp.fst.length+(1:Nat)) ((eR.ent eI).els mp.fst)).set (su_q1 xs n i _u mp) ((xs.getD i.toNat eM.dflt).r,IntKind.i64.wrap ((bif decide ((su_q2 xs n i _u mp)<bif decide ((su_q1 xs n i _u mp)<mp.fst.length) then mp.fst.length else mp.fst.length+(1:Nat)) then bif decide ((su_q2 xs n i _u mp)=(su_q1 xs n i _u mp)) then bif decide ((su_q1 xs n i _u mp)<mp.fst.length) then (mp.fst.getD (su_q1 xs n i _u mp) (eR.ent eI).dflt).snd.fst else (0:Int) else (mp.fst.getD (su_q2 xs n i _u mp) (eR.ent eI).dflt).snd.fst else (0:Int))+(xs.getD i.toNat eM.dflt).n),bif decide ((su_q1 xs n i _u mp)<mp.fst.length) then (mp.fst.getD (su_q1 xs n i _u mp) (eR.ent eI).dflt).snd.snd else (↑mp.snd:Int)),bif decide ((su_q1 xs n i _u mp)<mp.fst.length) then mp.snd else mp.snd+(1:Nat))=(Ex.normal,eM.ag xs,n,IntKind.i64.wrap (i+(1:Int)),(),((eR.ent eI).lst (bif decide ((su_q1 xs n i _u mp)<mp.fst.length) then mp.fst.length else mp.fst.length+(1:Nat)) ((eR.ent eI).els mp.fst)).set (su_q1 xs n i _u mp) ((xs.getD i.toNat eM.dflt).r,IntKind.i64.wrap ((bif decide ((su_q1 xs n i _u mp)<mp.fst.length) then (mp.fst.getD (su_q1 xs n i _u mp) (eR.ent eI).dflt).snd.fst else (0:Int))+(xs.getD i.toNat eM.dflt).n),bif decide ((su_q1 xs n i _u mp)<mp.fst.length) then (mp.fst.getD (su_q1 xs n i _u mp) (eR.ent eI).dflt).snd.snd else (↑mp.snd:Int)),bif decide ((su_q1 xs n i _u mp)<mp.fst.length) then mp.snd else mp.snd+(1:Nat))))∧(decide (i<n)=false→eM.okL xs∧∀ (e:Nat),e<mp.fst.length→True)
theorem su_one:((loopsOf Tryd.prog 32).filter fun c=>Nat.beq (lkey c) 9).length=1:=by kernel_rfl
abbrev su_GC:Type:=List Many×Int
abbrev su_GB:Type:=List (Rec×Int×Int)×Nat
def su_f (g:su_G):Int×su_GC×su_GB:=(g.2.2.1,(g.1,g.2.1),g.2.2.2.2)
def su_g (d:Int×su_GC×su_GB):su_G:=(d.2.1.1,d.2.1.2,d.1,(),d.2.2)
theorem su_es (g:su_G):(su_R g.1 g.2.1 g.2.2.1 g.2.2.2.1 g.2.2.2.2).1=.normal∨(su_R g.1 g.2.1 g.2.2.1 g.2.2.2.1 g.2.2.2.2).1∈([.exit 2]:List Ex):=by
 unfold su_R
 repeat' (first | (left;rfl) | (right;simp only[cond_true,cond_false];simp;done) | (rw[Bool.cond_eq_ite];split))
noncomputable abbrev su_C (Inv:su_G→List Prop) (m:su_G→Nat):LCon:=loopR [.exit 2] (loopBody Tryd.prog 32 9) su_LP [] 45 Inv (fun g=>su_R g.1 g.2.1 g.2.2.1 g.2.2.2.1 g.2.2.2.2) m
theorem su_loop (Inv:su_G→List Prop) (m:su_G→Nat) (hs:∀ g,allP (Inv g)→su_side g.1 g.2.1 g.2.2.1 g.2.2.2.1 g.2.2.2.2) (hg:Goes (fun g:su_G=>su_R g.1 g.2.1 g.2.2.1 g.2.2.2.1 g.2.2.2.2) m fun g=>allP (Inv g)):∀ b∈loopsOf Tryd.prog 32,lkey b=9→LoopOk Tryd.prog b (su_C Inv m).g:=loop_run (Γ:=(MTab.gamz (MTab.of tabG6) [] [])) (Λ:=noΛ) (MTab.okz (MTab.of tabG6) [] []) noΛ_ok 100 32 9 45 su_LP [] Inv (fun g=>su_R g.1 g.2.1 g.2.2.1 g.2.2.2.1 g.2.2.2.2) (fun g=>su_side g.1 g.2.1 g.2.2.1 g.2.2.2.1 g.2.2.2.2) m default [.exit 2] su_one (fun rd T B HL HB ds g=>by kernel_rfl) (fun rd T B HL HB ds g=>by kernel_rfl) hs hg su_es
abbrev pu_G:Type:=Unit×Rec×List Many×Int×Int×Bool×List Many
noncomputable def pu_LP:LP 1 pu_G:=.pair (.fix 1 4 (.p 0 0)) (.pair (.obj 1 0 46 eR) (.pair (.slot 1 0 dLM) (.pair (.slot 1 2 dI) (.pair (.slot 1 9 dI) (.pair (.slot 1 8 dBool) (.row 1 7 tM eM))))))
noncomputable def pu_R (_u:Unit) (r:Rec) (xs:List Many) (n:Int) (i:Int) (d:Bool) (o:List Many):Ex×pu_G:=
 bif decide (i<(↑xs.length:Int)) then bif !d&&decide (cmpR r (xs.getD i.toNat eM.dflt).r<(0:Int)) then (Ex.normal,(),r,eM.ag xs,n,IntKind.i64.wrap (i+(1:Int)),true,bif cmpR r (xs.getD i.toNat eM.dflt).r==(0:Int) then eM.lst (min (min (bif cmpR r (xs.getD i.toNat eM.dflt).r==(0:Int) then o.length+(1:Nat)+(1:Nat) else o.length+(1:Nat)+(1:Nat)) (o.length+(1:Nat))) o.length) (eM.els o)++List.map (fun x=>Many.mk r n) (List.range (min (bif cmpR r (xs.getD i.toNat eM.dflt).r==(0:Int) then o.length+(1:Nat)+(1:Nat) else o.length+(1:Nat)+(1:Nat)) (o.length+(1:Nat)) - o.length))++List.map (fun x=>Many.mk r (IntKind.i64.wrap ((xs.getD i.toNat eM.dflt).n+n))) (List.range ((bif cmpR r (xs.getD i.toNat eM.dflt).r==(0:Int) then o.length+(1:Nat)+(1:Nat) else o.length+(1:Nat)+(1:Nat)) - (o.length+(1:Nat)))) else eM.lst (min (min (bif cmpR r (xs.getD i.toNat eM.dflt).r==(0:Int) then o.length+(1:Nat)+(1:Nat) else o.length+(1:Nat)+(1:Nat)) (o.length+(1:Nat))) o.length) (eM.els o)++List.map (fun x=>Many.mk r n) (List.range (min (bif cmpR r (xs.getD i.toNat eM.dflt).r==(0:Int) then o.length+(1:Nat)+(1:Nat) else o.length+(1:Nat)+(1:Nat)) (o.length+(1:Nat)) - o.length))++List.map (fun x=>xs.getD i.toNat eM.dflt) (List.range ((bif cmpR r (xs.getD i.toNat eM.dflt).r==(0:Int) then o.length+(1:Nat)+(1:Nat) else o.length+(1:Nat)+(1:Nat)) - (o.length+(1:Nat))))) else (Ex.normal,(),r,eM.ag xs,n,IntKind.i64.wrap (i+(1:Int)),cmpR r (xs.getD i.toNat eM.dflt).r==(0:Int)||d,bif cmpR r (xs.getD i.toNat eM.dflt).r==(0:Int) then eM.lst (min (bif cmpR r (xs.getD i.toNat eM.dflt).r==(0:Int) then o.length+(1:Nat) else o.length+(1:Nat)) o.length) (eM.els o)++List.map (fun x=>Many.mk r (IntKind.i64.wrap ((xs.getD i.toNat eM.dflt).n+n))) (List.range ((bif cmpR r (xs.getD i.toNat eM.dflt).r==(0:Int) then o.length+(1:Nat) else o.length+(1:Nat)) - o.length)) else eM.lst (min (bif cmpR r (xs.getD i.toNat eM.dflt).r==(0:Int) then o.length+(1:Nat) else o.length+(1:Nat)) o.length) (eM.els o)++List.map (fun x=>xs.getD i.toNat eM.dflt) (List.range ((bif cmpR r (xs.getD i.toNat eM.dflt).r==(0:Int) then o.length+(1:Nat) else o.length+(1:Nat)) - o.length)))
 else (Ex.exit (0:Nat),(),r,eM.ag xs,n,i,d,eM.ag o)
def pu_side (_u:Unit) (r:Rec) (xs:List Many) (n:Int) (i:Int) (d:Bool) (o:List Many):Prop:=
 (decide (i<(↑xs.length:Int))=true→((0:Int)≤i∧i<(↑xs.length:Int))∧((!d&&decide (cmpR r (xs.getD i.toNat eM.dflt).r<(0:Int)))=true→(o.length≤o.length∧True∧o.length+(1:Nat)≤maxLen∧(o.length+(1:Nat)) * Tryd.prog.types[(84:Nat)].bytes≤(140737488355328:Nat))∧((cmpR r (xs.getD i.toNat eM.dflt).r==(0:Int))=true→(0:Int)≤i∧i<(↑xs.length:Int))∧((cmpR r (xs.getD i.toNat eM.dflt).r==(0:Int))=true→o.length+(1:Nat)≤o.length+(1:Nat)∧True∧o.length+(1:Nat)+(1:Nat)≤maxLen∧(o.length+(1:Nat)+(1:Nat)) * Tryd.prog.types[(84:Nat)].bytes≤(140737488355328:Nat))∧((!cmpR r (xs.getD i.toNat eM.dflt).r==(0:Int))=true→(0:Int)≤i∧i<(↑xs.length:Int))∧((!cmpR r (xs.getD i.toNat eM.dflt).r==(0:Int))=true→o.length+(1:Nat)≤o.length+(1:Nat)∧True∧o.length+(1:Nat)+(1:Nat)≤maxLen∧(o.length+(1:Nat)+(1:Nat)) * Tryd.prog.types[(84:Nat)].bytes≤(140737488355328:Nat))∧eM.okL xs∧((bif cmpR r (xs.getD i.toNat eM.dflt).r==(0:Int) then o.length+(1:Nat)+(1:Nat) else o.length+(1:Nat)+(1:Nat))≤bif cmpR r (xs.getD i.toNat eM.dflt).r==(0:Int) then o.length+(1:Nat)+(1:Nat) else o.length+(1:Nat)+(1:Nat))∧(∀ (e:Nat),e<min (min (bif cmpR r (xs.getD i.toNat eM.dflt).r==(0:Int) then o.length+(1:Nat)+(1:Nat) else o.length+(1:Nat)+(1:Nat)) (o.length+(1:Nat))) o.length→True)∧(∀ (e:Nat),e<min (bif cmpR r (xs.getD i.toNat eM.dflt).r==(0:Int) then o.length+(1:Nat)+(1:Nat) else o.length+(1:Nat)+(1:Nat)) (o.length+(1:Nat)) - o.length→True)∧(∀ (e:Nat),e<(bif cmpR r (xs.getD i.toNat eM.dflt).r==(0:Int) then o.length+(1:Nat)+(1:Nat) else o.length+(1:Nat)+(1:Nat)) - (o.length+(1:Nat))→True)∧(∀ (e:Nat),e<min (min (bif cmpR r (xs.getD i.toNat eM.dflt).r==(0:Int) then o.length+(1:Nat)+(1:Nat) else o.length+(1:Nat)+(1:Nat)) (o.length+(1:Nat))) o.length→True)∧(∀ (e:Nat),e<min (bif cmpR r (xs.getD i.toNat eM.dflt).r==(0:Int) then o.length+(1:Nat)+(1:Nat) else o.length+(1:Nat)+(1:Nat)) (o.length+(1:Nat)) - o.length→True)∧∀ (e:Nat),e<(bif cmpR r (xs.getD i.toNat eM.dflt).r==(0:Int) then o.length+(1:Nat)+(1:Nat) else o.length+(1:Nat)+(1:Nat)) - (o.length+(1:Nat))→True)∧((!d&&decide (cmpR r (xs.getD i.toNat eM.dflt).r<(0:Int)))=false→((cmpR r (xs.getD i.toNat eM.dflt).r==(0:Int))=true→(0:Int)≤i∧i<(↑xs.length:Int))∧((cmpR r (xs.getD i.toNat eM.dflt).r==(0:Int))=true→o.length≤o.length∧True∧o.length+(1:Nat)≤maxLen∧(o.length+(1:Nat)) * Tryd.prog.types[(84:Nat)].bytes≤(140737488355328:Nat))∧((!cmpR r (xs.getD i.toNat eM.dflt).r==(0:Int))=true→(0:Int)≤i∧i<(↑xs.length:Int))∧((!cmpR r (xs.getD i.toNat eM.dflt).r==(0:Int))=true→o.length≤o.length∧True∧o.length+(1:Nat)≤maxLen∧(o.length+(1:Nat)) * Tryd.prog.types[(84:Nat)].bytes≤(140737488355328:Nat))∧eM.okL xs∧((bif cmpR r (xs.getD i.toNat eM.dflt).r==(0:Int) then o.length+(1:Nat) else o.length+(1:Nat))≤bif cmpR r (xs.getD i.toNat eM.dflt).r==(0:Int) then o.length+(1:Nat) else o.length+(1:Nat))∧(∀ (e:Nat),e<min (bif cmpR r (xs.getD i.toNat eM.dflt).r==(0:Int) then o.length+(1:Nat) else o.length+(1:Nat)) o.length→True)∧(∀ (e:Nat),e<(bif cmpR r (xs.getD i.toNat eM.dflt).r==(0:Int) then o.length+(1:Nat) else o.length+(1:Nat)) - o.length→True)∧(∀ (e:Nat),e<min (bif cmpR r (xs.getD i.toNat eM.dflt).r==(0:Int) then o.length+(1:Nat) else o.length+(1:Nat)) o.length→True)∧∀ (e:Nat),e<(bif cmpR r (xs.getD i.toNat eM.dflt).r==(0:Int) then o.length+(1:Nat) else o.length+(1:Nat)) - o.length→True))∧(decide (i<(↑xs.length:Int))=false→eM.okL xs∧o.length≤o.length∧∀ (e:Nat),e<o.length→True)
theorem pu_one:((loopsOf Tryd.prog 75).filter fun c=>Nat.beq (lkey c) 4).length=1:=by kernel_rfl
abbrev pu_GC:Type:=Rec×List Many×Int
abbrev pu_GB:Type:=Unit×Bool×List Many
def pu_f (g:pu_G):Int×pu_GC×pu_GB:=(g.2.2.2.2.1,(g.2.1,g.2.2.1,g.2.2.2.1),(g.1,g.2.2.2.2.2.1,g.2.2.2.2.2.2))
def pu_g (d:Int×pu_GC×pu_GB):pu_G:=(d.2.2.1,d.2.1.1,d.2.1.2.1,d.2.1.2.2,d.1,d.2.2.2.1,d.2.2.2.2)
theorem pu_es (g:pu_G):(pu_R g.1 g.2.1 g.2.2.1 g.2.2.2.1 g.2.2.2.2.1 g.2.2.2.2.2.1 g.2.2.2.2.2.2).1=.normal∨(pu_R g.1 g.2.1 g.2.2.1 g.2.2.2.1 g.2.2.2.2.1 g.2.2.2.2.2.1 g.2.2.2.2.2.2).1∈([.exit 0]:List Ex):=by
 unfold pu_R
 repeat' (first | (left;rfl) | (right;simp only[cond_true,cond_false];simp;done) | (rw[Bool.cond_eq_ite];split))
noncomputable abbrev pu_C (Inv:pu_G→List Prop) (m:pu_G→Nat):LCon:=loopR [.exit 0] (loopBody Tryd.prog 75 4) pu_LP [] 66 Inv (fun g=>pu_R g.1 g.2.1 g.2.2.1 g.2.2.2.1 g.2.2.2.2.1 g.2.2.2.2.2.1 g.2.2.2.2.2.2) m
theorem pu_loop (Inv:pu_G→List Prop) (m:pu_G→Nat) (hs:∀ g,allP (Inv g)→pu_side g.1 g.2.1 g.2.2.1 g.2.2.2.1 g.2.2.2.2.1 g.2.2.2.2.2.1 g.2.2.2.2.2.2) (hg:Goes (fun g:pu_G=>pu_R g.1 g.2.1 g.2.2.1 g.2.2.2.1 g.2.2.2.2.1 g.2.2.2.2.2.1 g.2.2.2.2.2.2) m fun g=>allP (Inv g)):∀ b∈loopsOf Tryd.prog 75,lkey b=4→LoopOk Tryd.prog b (pu_C Inv m).g:=loop_run (Γ:=(MTab.gamz (MTab.of tabG6) [] [])) (Λ:=noΛ) (MTab.okz (MTab.of tabG6) [] []) noΛ_ok 100 75 4 66 pu_LP [] Inv (fun g=>pu_R g.1 g.2.1 g.2.2.1 g.2.2.2.1 g.2.2.2.2.1 g.2.2.2.2.2.1 g.2.2.2.2.2.2) (fun g=>pu_side g.1 g.2.1 g.2.2.1 g.2.2.2.1 g.2.2.2.2.1 g.2.2.2.2.2.1 g.2.2.2.2.2.2) m default [.exit 0] pu_one (fun rd T B HL HB ds g=>by kernel_rfl) (fun rd T B HL HB ds g=>by kernel_rfl) hs hg pu_es
abbrev ov_G:Type:=List Many×Int×Int
noncomputable def ov_LP:LP 0 ov_G:=.pair (.slot 0 0 dLM) (.pair (.slot 0 3 dI) (.slot 0 2 dI))
noncomputable def ov_R (xs:List Many) (i:Int) (r:Int):Ex×ov_G:=
 bif decide (i<(↑xs.length:Int)) then bif decide ((xs.getD i.toNat eM.dflt).n > (1048576:Int)) then (Ex.ret,eM.ag xs,i,(51:Int)) else (Ex.normal,eM.ag xs,IntKind.i64.wrap (i+(1:Int)),r)
 else (Ex.exit (0:Nat),eM.ag xs,i,r)
def ov_side (xs:List Many) (i:Int) (r:Int):Prop:=
 (decide (i<(↑xs.length:Int))=true→((0:Int)≤i∧i<(↑xs.length:Int))∧(decide ((xs.getD i.toNat eM.dflt).n > (1048576:Int))=true→eM.okL xs)∧(decide ((xs.getD i.toNat eM.dflt).n > (1048576:Int))=false→eM.okL xs))∧(decide (i<(↑xs.length:Int))=false→eM.okL xs)
theorem ov_one:((loopsOf Tryd.prog 76).filter fun c=>Nat.beq (lkey c) 2).length=1:=by kernel_rfl
abbrev ov_GC:Type:=List Many
abbrev ov_GB:Type:=Int
def ov_f (g:ov_G):Int×ov_GC×ov_GB:=(g.2.1,g.1,g.2.2)
def ov_g (d:Int×ov_GC×ov_GB):ov_G:=(d.2.1,d.1,d.2.2)
theorem ov_es (g:ov_G):(ov_R g.1 g.2.1 g.2.2).1=.normal∨(ov_R g.1 g.2.1 g.2.2).1∈([.ret,.exit 0]:List Ex):=by
 unfold ov_R
 repeat' (first | (left;rfl) | (right;simp only[cond_true,cond_false];simp;done) | (rw[Bool.cond_eq_ite];split))
noncomputable abbrev ov_C (Inv:ov_G→List Prop) (m:ov_G→Nat):LCon:=loopR [.ret,.exit 0] (loopBody Tryd.prog 76 2) ov_LP [] 16 Inv (fun g=>ov_R g.1 g.2.1 g.2.2) m
theorem ov_loop (Inv:ov_G→List Prop) (m:ov_G→Nat) (hs:∀ g,allP (Inv g)→ov_side g.1 g.2.1 g.2.2) (hg:Goes (fun g:ov_G=>ov_R g.1 g.2.1 g.2.2) m fun g=>allP (Inv g)):∀ b∈loopsOf Tryd.prog 76,lkey b=2→LoopOk Tryd.prog b (ov_C Inv m).g:=loop_run (Γ:=(MTab.gamz (MTab.of tabG6) [] [])) (Λ:=noΛ) (MTab.okz (MTab.of tabG6) [] []) noΛ_ok 100 76 2 16 ov_LP [] Inv (fun g=>ov_R g.1 g.2.1 g.2.2) (fun g=>ov_side g.1 g.2.1 g.2.2) m default [.ret,.exit 0] ov_one (fun rd T B HL HB ds g=>by kernel_rfl) (fun rd T B HL HB ds g=>by kernel_rfl) hs hg ov_es
abbrev rb_G:Type:=List Rec×Int×Unit×Int
noncomputable def rb_LP:LP 0 rb_G:=.pair (.slot 0 0 dLR) (.pair (.slot 0 4 dI) (.pair (.fix 0 2 nilV) (.slot 0 3 dI)))
noncomputable def rb_R (xs:List Rec) (i:Int) (_u:Unit) (r:Int):Ex×rb_G:=
 bif decide (i<(↑xs.length:Int)) then bif chkR (xs.getD i.toNat eR.dflt) != (0:Int) then (Ex.ret,eR.ag xs,i,(),chkR (xs.getD i.toNat eR.dflt)) else (Ex.normal,eR.ag xs,IntKind.i64.wrap (i+(1:Int)),(),r)
 else (Ex.exit (0:Nat),eR.ag xs,i,(),r)
def rb_side (xs:List Rec) (i:Int) (_u:Unit) (r:Int):Prop:=
 (decide (i<(↑xs.length:Int))=true→((0:Int)≤i∧i<(↑xs.length:Int))∧((chkR (xs.getD i.toNat eR.dflt) != (0:Int))=true→eR.okL xs)∧((chkR (xs.getD i.toNat eR.dflt) != (0:Int))=false→eR.okL xs))∧(decide (i<(↑xs.length:Int))=false→eR.okL xs)
theorem rb_one:((loopsOf Tryd.prog 25).filter fun c=>Nat.beq (lkey c) 2).length=1:=by kernel_rfl
abbrev rb_GC:Type:=List Rec
abbrev rb_GB:Type:=Unit×Int
def rb_f (g:rb_G):Int×rb_GC×rb_GB:=(g.2.1,g.1,(g.2.2.1,g.2.2.2))
def rb_g (d:Int×rb_GC×rb_GB):rb_G:=(d.2.1,d.1,d.2.2.1,d.2.2.2)
theorem rb_es (g:rb_G):(rb_R g.1 g.2.1 g.2.2.1 g.2.2.2).1=.normal∨(rb_R g.1 g.2.1 g.2.2.1 g.2.2.2).1∈([.ret,.exit 0]:List Ex):=by
 unfold rb_R
 repeat' (first | (left;rfl) | (right;simp only[cond_true,cond_false];simp;done) | (rw[Bool.cond_eq_ite];split))
noncomputable abbrev rb_C (Inv:rb_G→List Prop) (m:rb_G→Nat):LCon:=loopR [.ret,.exit 0] (loopBody Tryd.prog 25 2) rb_LP [] 41 Inv (fun g=>rb_R g.1 g.2.1 g.2.2.1 g.2.2.2) m
theorem rb_loop (Inv:rb_G→List Prop) (m:rb_G→Nat) (hs:∀ g,allP (Inv g)→rb_side g.1 g.2.1 g.2.2.1 g.2.2.2) (hg:Goes (fun g:rb_G=>rb_R g.1 g.2.1 g.2.2.1 g.2.2.2) m fun g=>allP (Inv g)):∀ b∈loopsOf Tryd.prog 25,lkey b=2→LoopOk Tryd.prog b (rb_C Inv m).g:=loop_run (Γ:=(MTab.gamz (MTab.of tabG6) [] [])) (Λ:=noΛ) (MTab.okz (MTab.of tabG6) [] []) noΛ_ok 100 25 2 41 rb_LP [] Inv (fun g=>rb_R g.1 g.2.1 g.2.2.1 g.2.2.2) (fun g=>rb_side g.1 g.2.1 g.2.2.1 g.2.2.2) m default [.ret,.exit 0] rb_one (fun rd T B HL HB ds g=>by kernel_rfl) (fun rd T B HL HB ds g=>by kernel_rfl) hs hg rb_es
end Go.Proofs.YtmegbepjdololaaDoor

namespace Go.Proofs.YtmegbepjdololaaDoor
open Go.RowKit Go.Sx Go.Lp
set_option maxRecDepth 100000
noncomputable def ov_S (c:ov_GC) (b:ov_GB) (i:Int) (v:Many):Ex×ov_GB:=bif decide (v.n > (1048576:Int)) then (.ret,(51:Int)) else (.normal,b)
def ov_K (c:ov_GC) (b:ov_GB) (i:Int):Prop:=True
abbrev ov_I (g:ov_G):List Prop:=ixI (fun c:ov_GC=>(c.length:Int)) (fun c:ov_GC=>c) ov_K (ov_f g)
abbrev ov_M (g:ov_G):Nat:=ixM (fun c:ov_GC=>(c.length:Int)) (ov_f g)
theorem ov_P:ixP ov_S (fun c:ov_GC=>c) ov_K:=fun _ _ _ _ h _ _=>h
noncomputable abbrev ov_RR (g:ov_G):Ex×ov_G:=ov_R g.1 g.2.1 g.2.2
theorem ov_RF (d:Int×ov_GC×ov_GB) (hi:allP (ixI (fun c:ov_GC=>(c.length:Int)) (fun c:ov_GC=>c) ov_K d)):ov_RR (ov_g d)=((ixF 0 (fun c:ov_GC=>(c.length:Int)) (fun c:ov_GC=>c) eM.dflt ov_S d).1,ov_g (ixF 0 (fun c:ov_GC=>(c.length:Int)) (fun c:ov_GC=>c) eM.dflt ov_S d).2):=by
 obtain ⟨i,xs,r⟩:=d
 show ov_R xs i r=_
 unfold ov_R ixF ov_S
 simp only[El.ag_eq]
 cases decide (i<(xs.length:Int)) with
 | false=>rfl
 | true=>
  simp only[cond_true]
  generalize (decide ((xs.getD i.toNat eM.dflt).n > (1048576:Int)))=z
  cases z <;> rfl
theorem ov_ok:∀ b∈loopsOf Tryd.prog 76,lkey b=2→LoopOk Tryd.prog b (ov_C ov_I ov_M).g:=by
 refine ov_loop ov_I ov_M (fun g hi=>?_) (ix_conj_goes (fun _=>rfl) (fun _=>rfl) ov_RF ov_P)
 obtain ⟨xs,i,r⟩:=g
 obtain ⟨h1,h2,h3,h4,h5⟩:=hi _ (List.mem_cons_self ..)
 have h1:(xs.length:Int)=(xs.length:Int):=h1
 have h3:0≤i:=h3
 have h5:True:=h5
 show ov_side xs i r
 unfold ov_side
 simp only[decide_eq_true_eq,decide_eq_false_iff_not]
 have k0:∀ e:Nat,e<xs.length→eM.Ok (eM.els xs e):=fun e _=>eM.ok_els xs e
 clear hi
 repeat' (first | exact k0 | apply And.intro | intro _)
 all_goals omega
theorem ov_run (c:ov_GC) (b:ov_GB) (k1:(c.length:Int)=((c).length:Int)) (k2:(c).length≤maxLen) (k3:ov_K c b 0):loopF ov_RR ov_M (ov_g (0,c,b))=((scan 0 (ov_S c) 0 (c) b).1,ov_g ((scan 0 (ov_S c) 0 (c) b).2.1,c,(scan 0 (ov_S c) 0 (c) b).2.2)):=ix_conj_run (φ:=ov_f) (ψ:=ov_g) (fun _=>rfl) (fun _=>rfl) ov_RF ov_P c b k1 k2 k3
noncomputable def rb_S (c:rb_GC) (b:rb_GB) (i:Int) (v:Rec):Ex×rb_GB:=bif chkR v != (0:Int) then (.ret,(),chkR v) else (.normal,b.1,b.2)
def rb_K (c:rb_GC) (b:rb_GB) (i:Int):Prop:=True
abbrev rb_I (g:rb_G):List Prop:=ixI (fun c:rb_GC=>(c.length:Int)) (fun c:rb_GC=>c) rb_K (rb_f g)
abbrev rb_M (g:rb_G):Nat:=ixM (fun c:rb_GC=>(c.length:Int)) (rb_f g)
theorem rb_P:ixP rb_S (fun c:rb_GC=>c) rb_K:=fun _ _ _ _ h _ _=>h
noncomputable abbrev rb_RR (g:rb_G):Ex×rb_G:=rb_R g.1 g.2.1 g.2.2.1 g.2.2.2
theorem rb_RF (d:Int×rb_GC×rb_GB) (hi:allP (ixI (fun c:rb_GC=>(c.length:Int)) (fun c:rb_GC=>c) rb_K d)):rb_RR (rb_g d)=((ixF 0 (fun c:rb_GC=>(c.length:Int)) (fun c:rb_GC=>c) eR.dflt rb_S d).1,rb_g (ixF 0 (fun c:rb_GC=>(c.length:Int)) (fun c:rb_GC=>c) eR.dflt rb_S d).2):=by
 obtain ⟨i,xs,⟨⟨⟩,r⟩⟩:=d
 show rb_R xs i () r=_
 unfold rb_R ixF rb_S
 simp only[El.ag_eq]
 cases decide (i<(xs.length:Int)) with
 | false=>rfl
 | true=>
  simp only[cond_true]
  generalize (chkR (xs.getD i.toNat eR.dflt) != (0:Int))=z
  cases z <;> rfl
theorem rb_ok:∀ b∈loopsOf Tryd.prog 25,lkey b=2→LoopOk Tryd.prog b (rb_C rb_I rb_M).g:=by
 refine rb_loop rb_I rb_M (fun g hi=>?_) (ix_conj_goes (fun _=>rfl) (fun _=>rfl) rb_RF rb_P)
 obtain ⟨xs,i,⟨⟩,r⟩:=g
 obtain ⟨h1,h2,h3,h4,h5⟩:=hi _ (List.mem_cons_self ..)
 have h1:(xs.length:Int)=(xs.length:Int):=h1
 have h3:0≤i:=h3
 have h5:True:=h5
 show rb_side xs i () r
 unfold rb_side
 simp only[decide_eq_true_eq,decide_eq_false_iff_not]
 have k0:∀ e:Nat,e<xs.length→eR.Ok (eR.els xs e):=fun e _=>eR.ok_els xs e
 clear hi
 repeat' (first | exact k0 | apply And.intro | intro _)
 all_goals omega
noncomputable def ltO2:LTab Tryd.prog:=((LTab.nil.cons 76 2 (ov_C ov_I ov_M) ov_ok).cons 25 2 (rb_C rb_I rb_M) rb_ok)
end Go.Proofs.YtmegbepjdololaaDoor
