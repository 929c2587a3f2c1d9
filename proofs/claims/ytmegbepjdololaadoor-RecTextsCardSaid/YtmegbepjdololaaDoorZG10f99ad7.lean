/- Chapter 6: the kinds of functions. Printed by treegen.py. -/
import Derived.Test.YtmegbepjdololaaDoorZG099fc8a5
import Derived.Test.YtmegbepjdololaaDoorZG06804c20
set_option linter.unusedVariables false
set_option linter.unusedSimpArgs false
set_option linter.constructorNameAsVariable false
set_option linter.all false

namespace Go.Proofs.YtmegbepjdololaaDoor
open Go.RowKit Go.Sx
set_option maxRecDepth 100000
set_option linter.unusedVariables false
noncomputable def fck_q1 (k:Int) (f:Fn):Ex ×
 lfc_G:=
 loopF (fun g=>lfc_R g.fst g.snd.fst g.snd.snd.fst g.snd.snd.snd.fst g.snd.snd.snd.snd.fst g.snd.snd.snd.snd.snd.fst) lfc_M ((),(),(uses_F k).fst,(uses_F k).snd,f,(0:Int),LoopState.ready,none)
noncomputable def fck_F (k:Int) (f:Fn):Dv.T dI:=
 bif decide ((uses_F k).snd<(0:Int)) then bif !conj ([f.kind==(0:Int)]++([f.a==(0:Int)]++([decide (f.s=ByteArray.mk #[])]++[]))) then (60:Int) else (0:Int)
 else bif exB Ex.ret (fck_q1 k f).fst then (fck_q1 k f).snd.snd.snd.snd.snd.snd.fst else (60:Int)
def fck_side (k:Int) (f:Fn):Prop:=
 decide ((uses_F k).snd<(0:Int))=false→CodeIs (rangeOf Tryd.prog (54:Nat) (0:Nat)).snd.fst (rangeOf Tryd.prog (54:Nat) (0:Nat)).snd.fst∧CodeIs (rangeOf Tryd.prog (54:Nat) (0:Nat)).snd.snd (rangeOf Tryd.prog (54:Nat) (0:Nat)).snd.snd∧∃ k_1 c b,((),(),(uses_F k).fst,(uses_F k).snd,f,(0:Int),LoopState.ready,none)=lfc_mk k_1 c b∧lfc_P c b k_1
theorem fck_okS (pre:DA.T aIF→List Prop) (h:∀ g,DA.bd aIF g→(∀ p∈pre g,p)→fck_side g.1 g.2):FnPure Tryd.prog 54 aIF dI (fun g=>fck_F g.1 g.2) pre:=pure_of_sideS (Γ:=(PTab.gamz tabC1 [] [])) (Λ:=lamC4) (PTab.okz tabC1 [] []) lamC4_ok 100 default (fun g=>fck_side g.1 g.2) (fun g=>by kernel_rfl) (fun g=>by kernel_rfl) h
noncomputable def rus_q1 (k:Int):Ex ×
 lru2_G:=
 loopF (fun g=>lru2_R g.fst g.snd.fst g.snd.snd) lru2_M (bif k==(2:Int) then (8:Int) else bif k==(3:Int) then (13:Int) else bif k==(4:Int) then (22:Int) else bif k==(8:Int) then (34:Int) else bif k==(11:Int) then (42:Int) else (0:Int),[],bif k==(2:Int) then (1:Int) else bif k==(3:Int) then (11:Int) else bif k==(4:Int) then (21:Int) else bif k==(8:Int) then (31:Int) else bif k==(11:Int) then (41:Int) else (1:Int))
noncomputable def rus_F (k:Int):Rv.T (.list eI):=
 eI.ag (rus_q1 k).snd.snd.fst
def rus_side (k:Int):Prop:=
 (∃ k_1 c b,(bif k==(2:Int) then (8:Int) else bif k==(3:Int) then (13:Int) else bif k==(4:Int) then (22:Int) else bif k==(8:Int) then (34:Int) else bif k==(11:Int) then (42:Int) else (0:Int),[],bif k==(2:Int) then (1:Int) else bif k==(3:Int) then (11:Int) else bif k==(4:Int) then (21:Int) else bif k==(8:Int) then (31:Int) else bif k==(11:Int) then (41:Int) else (1:Int))=lru2_mk k_1 c b∧lru2_P c b k_1)∧(rus_q1 k).snd.snd.fst.length≤(rus_q1 k).snd.snd.fst.length∧∀ (e:Nat),e<(rus_q1 k).snd.snd.fst.length→True
theorem rus_okS (pre:DA.T aI→List Prop) (h:∀ g,DA.bd aI g→(∀ p∈pre g,p)→rus_side g):FnPure Tryd.prog 53 aI (Rv.D (.list eI)) (fun g=>rus_F g) pre:=res_of_side (R:=(.list eI)) (Γ:=(PTab.gamz tabC1 [] [])) (Λ:=lamC4) (PTab.okz tabC1 [] []) lamC4_ok 100 default (fun g=>rus_side g) (fun g=>by kernel_rfl) (fun g=>by kernel_rfl) h
end Go.Proofs.YtmegbepjdololaaDoor

namespace Go.Proofs.YtmegbepjdololaaDoor
open Go.RowKit Go.Sx
set_option maxRecDepth 100000
set_option linter.unusedVariables false
noncomputable def tld_q1 (c:Int×Int) (m:Int):Ex ×
 ltl_G:=
 loopF (fun g=>ltl_R g.fst g.snd.fst g.snd.snd.fst g.snd.snd.snd.fst g.snd.snd.snd.snd.fst) ltl_M ((),c.snd,c.fst,m,[],LoopState.ready,none)
noncomputable def tld_F (c:Int×Int) (m:Int):Rv.T (.list eI):=
 bif exB Ex.ret (tld_q1 c m).fst then eI.lst (bif exB Ex.ret (tld_q1 c m).fst then (tld_q1 c m).snd.snd.snd.snd.snd.fst.length else (tld_q1 c m).snd.snd.snd.snd.snd.fst.length) (eI.els (tld_q1 c m).snd.snd.snd.snd.snd.fst)
 else eI.lst (bif exB Ex.ret (tld_q1 c m).fst then (tld_q1 c m).snd.snd.snd.snd.snd.fst.length else (tld_q1 c m).snd.snd.snd.snd.snd.fst.length) (eI.els (tld_q1 c m).snd.snd.snd.snd.snd.fst)
def tld_side (c:Int×Int) (m:Int):Prop:=
 CodeIs (rangeOf Tryd.prog (57:Nat) (0:Nat)).snd.fst (rangeOf Tryd.prog (57:Nat) (0:Nat)).snd.fst∧CodeIs (rangeOf Tryd.prog (57:Nat) (0:Nat)).snd.snd (rangeOf Tryd.prog (57:Nat) (0:Nat)).snd.snd∧(∃ k c_1 b,((),c.snd,c.fst,m,[],LoopState.ready,none)=ltl_mk k c_1 b∧ltl_P c_1 b k)∧((bif exB Ex.ret (tld_q1 c m).fst then (tld_q1 c m).snd.snd.snd.snd.snd.fst.length else (tld_q1 c m).snd.snd.snd.snd.snd.fst.length)≤bif exB Ex.ret (tld_q1 c m).fst then (tld_q1 c m).snd.snd.snd.snd.snd.fst.length else (tld_q1 c m).snd.snd.snd.snd.snd.fst.length)∧(∀ (e:Nat),(e<bif exB Ex.ret (tld_q1 c m).fst then (tld_q1 c m).snd.snd.snd.snd.snd.fst.length else (tld_q1 c m).snd.snd.snd.snd.snd.fst.length)→True)∧∀ (e:Nat),(e<bif exB Ex.ret (tld_q1 c m).fst then (tld_q1 c m).snd.snd.snd.snd.snd.fst.length else (tld_q1 c m).snd.snd.snd.snd.snd.fst.length)→True
theorem tld_okS (pre:DA.T aIt→List Prop) (h:∀ g,DA.bd aIt g→(∀ p∈pre g,p)→tld_side g.1 g.2):FnPure Tryd.prog 57 aIt (Rv.D (.list eI)) (fun g=>tld_F g.1 g.2) pre:=res_of_side (R:=(.list eI)) (Γ:=(PTab.gamz tabC1 [] [])) (Λ:=lamC3t) (PTab.okz tabC1 [] []) lamC3t_ok 100 default (fun g=>tld_side g.1 g.2) (fun g=>by kernel_rfl) (fun g=>by kernel_rfl) h
end Go.Proofs.YtmegbepjdololaaDoor

namespace Go.Proofs.YtmegbepjdololaaDoor
open Go.RowKit Go.Sx Go.Lp
noncomputable def usesL (k:Int):List Int:=upTo (uses_F k).1 (uses_F k).2
theorem uses_small (k:Int):(0≤(uses_F k).1∧(uses_F k).1≤100)∧(-1≤(uses_F k).2∧(uses_F k).2≤100):=by
 unfold uses_F
 generalize (k==(2:Int))=b1
 generalize (k==(3:Int))=b2
 generalize (k==(4:Int))=b3
 generalize (k==(8:Int))=b4
 generalize (k==(11:Int))=b5
 revert b1 b2 b3 b4 b5
 decide
def noFn:Fn:=⟨0,0,ByteArray.mk #[]⟩
noncomputable def chkF (k:Int) (f:Fn):Int:=
 bif decide ((uses_F k).2<0) then (bif decide (f=noFn) then 0 else 60) else bif (decide ((uses_F k).1≤f.kind)&&decide (f.kind≤(uses_F k).2))&&(num_F f&&textF f) then 0 else 60
theorem conj_F (f:Fn):conj ([f.kind==(0:Int)]++([f.a==(0:Int)]++([decide (f.s=ByteArray.mk #[])]++[])))=decide (f=noFn):=by
 obtain ⟨k,a,s⟩:=f
 unfold noFn
 rw[Bool.eq_iff_iff]
 simp[conj]
theorem fck_ok:FnPure Tryd.prog 54 aIF dI (fun g=>chkF g.1 g.2) (fun g=>[g.2.s.size≤KB]):=
 pure_congr (fck_okS _ fun g _ hp=>by
  obtain ⟨k,f⟩:=g
  have h:f.s.size≤KB:=hp _ (List.mem_cons_self ..)
  obtain ⟨⟨a1,a2⟩,a3,a4⟩:=uses_small k
  exact fun _=>⟨rfl,rfl,(uses_F k).1,⟨(uses_F k).2,f⟩,(0,.ready,none),rfl,rfl,by omega,by omega,⟨by show -1000≤(uses_F k).2;omega,by show (uses_F k).2≤1000;omega⟩,h⟩) fun g _ hp=>by
  obtain ⟨k,f⟩:=g
  have h:f.s.size≤KB:=hp _ (List.mem_cons_self ..)
  obtain ⟨⟨a1,a2⟩,a3,a4⟩:=uses_small k
  obtain ⟨k',hr⟩:=lfc_run (uses_F k).1 (uses_F k).2 f 0 ⟨by omega,by omega⟩ ⟨by omega,by omega⟩ h
  have hr:fck_q1 k f=_:=hr
  show fck_F k f=chkF k f
  unfold fck_F chkF
  rw[hr,conj_F]
  cases decide ((uses_F k).2<0) with
  | true=>cases decide (f=noFn) <;> rfl
  | false=>
   cases hb:(decide ((uses_F k).1≤f.kind)&&decide (f.kind≤(uses_F k).2))&&(num_F f&&textF f) <;> rfl
theorem rus_bounds (k:Int):(bif k==(2:Int) then (8:Int) else bif k==(3:Int) then (13:Int) else bif k==(4:Int) then (22:Int) else bif k==(8:Int) then (34:Int) else bif k==(11:Int) then (42:Int) else (0:Int))≤100 ∧
  0≤(bif k==(2:Int) then (8:Int) else bif k==(3:Int) then (13:Int) else bif k==(4:Int) then (22:Int) else bif k==(8:Int) then (34:Int) else bif k==(11:Int) then (42:Int) else (0:Int)) ∧
  (bif k==(2:Int) then (1:Int) else bif k==(3:Int) then (11:Int) else bif k==(4:Int) then (21:Int) else bif k==(8:Int) then (31:Int) else bif k==(11:Int) then (41:Int) else (1:Int))≤100 ∧
  0≤(bif k==(2:Int) then (1:Int) else bif k==(3:Int) then (11:Int) else bif k==(4:Int) then (21:Int) else bif k==(8:Int) then (31:Int) else bif k==(11:Int) then (41:Int) else (1:Int)) ∧
  upTo (bif k==(2:Int) then (1:Int) else bif k==(3:Int) then (11:Int) else bif k==(4:Int) then (21:Int) else bif k==(8:Int) then (31:Int) else bif k==(11:Int) then (41:Int) else (1:Int)) (bif k==(2:Int) then (8:Int) else bif k==(3:Int) then (13:Int) else bif k==(4:Int) then (22:Int) else bif k==(8:Int) then (34:Int) else bif k==(11:Int) then (42:Int) else (0:Int))=usesL k:=by
 unfold usesL uses_F
 generalize (k==(2:Int))=b1
 generalize (k==(3:Int))=b2
 generalize (k==(4:Int))=b3
 generalize (k==(8:Int))=b4
 generalize (k==(11:Int))=b5
 refine ⟨?_,?_,?_,?_,?_⟩
 ·revert b1 b2 b3 b4 b5;decide
 ·revert b1 b2 b3 b4 b5;decide
 ·revert b1 b2 b3 b4 b5;decide
 ·revert b1 b2 b3 b4 b5;decide
 ·cases b1 <;> cases b2 <;> cases b3 <;> cases b4 <;> cases b5 <;> rfl
theorem rus_ok:FnPure Tryd.prog 53 aI dLI usesL (fun _=>[]):=
 pure_congr (rus_okS _ fun k _ _=>by
  obtain ⟨b1,b2,b3,b4,_⟩:=rus_bounds k
  exact ⟨⟨_,_,[],rfl,Int.le_trans (by decide) b4,Int.le_trans b3 (by decide),⟨Int.le_trans (by decide) b2,Int.le_trans b1 (by decide)⟩,Int.le_trans (by decide) (Int.add_le_add b4 (Int.le_refl 1000))⟩,Nat.le_refl _,fun _ _=>trivial⟩) fun k _ _=>by
  obtain ⟨b1,b2,b3,b4,b5⟩:=rus_bounds k
  show eI.ag (rus_q1 k).2.2.1=_
  rw[eI.ag_eq]
  have hr:(rus_q1 k).2.2.1=_:=(lru2_run _ _ ⟨by omega,by omega⟩ ⟨by omega,by omega⟩).2
  rw[hr,b5]
theorem tld_ok:FnPure Tryd.prog 57 aIt dLI (fun g=>(upTo g.1.1 g.1.2).take g.2.toNat) (fun g=>[(0≤g.1.1∧g.1.1≤100)∧(-1≤g.1.2∧g.1.2≤100)]):=
 pure_congr (tld_okS _ fun g _ hp=>by
  obtain ⟨c,m⟩:=g
  have h:=hp _ (List.mem_cons_self ..)
  simp only at h
  obtain ⟨⟨a1,a2⟩,a3,a4⟩:=h
  refine ⟨rfl,rfl,⟨c.1,⟨c.2,m⟩,([],.ready,none),rfl,rfl,by omega,by omega,⟨by show -1000≤c.2;omega,by show c.2≤1000;omega⟩,by simp only[List.length_nil];omega⟩,Nat.le_refl _,fun _ _=>trivial,fun _ _=>trivial⟩) fun g _ hp=>by
  obtain ⟨c,m⟩:=g
  have h:=hp _ (List.mem_cons_self ..)
  simp only at h
  obtain ⟨⟨a1,a2⟩,a3,a4⟩:=h
  have hr:(tld_q1 c m).2.2.2.2.2.1=_:=ltl_run c.1 c.2 m ⟨by omega,by omega⟩ ⟨by omega,by omega⟩
  show tld_F c m=_
  unfold tld_F
  simp only[Bool.cond_self,eI.lst_els]
  exact hr
noncomputable def tabC7:PTab Tryd.prog:=((tabC1.cons 54 (pconP aIF dI (fun g=>chkF g.1 g.2) (fun g=>[g.2.s.size≤KB])) (conP_ok fck_ok puI)).cons 53 (pconR aI dLI usesL (fun _=>[])) (conR_ok rus_ok)).cons 57 (pconR aIt dLI (fun g=>(upTo g.1.1 g.1.2).take g.2.toNat) (fun g=>[(0≤g.1.1∧g.1.1≤100)∧(-1≤g.1.2∧g.1.2≤100)])) (conR_ok tld_ok)
end Go.Proofs.YtmegbepjdololaaDoor

namespace Go.Proofs.YtmegbepjdololaaDoor
open Go.RowKit Go.Sx
set_option maxRecDepth 100000
set_option linter.unusedVariables false
noncomputable def rfc_q1 (k:Int) (f:Fn):Ex ×
 lrc_G:=
 loopF (fun g=>lrc_R g.fst g.snd.fst g.snd.snd.fst g.snd.snd.snd.fst g.snd.snd.snd.snd) lrc_M (eI.ag (usesL k),(0:Int),(),f,(0:Int))
noncomputable def rfc_F (k:Int) (f:Fn):Dv.T dI:=
 bif (↑(usesL k).length:Int)==(0:Int)&&conj ([f.kind==(0:Int)]++([f.a==(0:Int)]++([decide (f.s=ByteArray.mk #[])]++[]))) then (0:Int)
 else bif exB Ex.ret (rfc_q1 k f).fst then (rfc_q1 k f).snd.snd.snd.snd.snd else (60:Int)
def rfc_side (k:Int) (f:Fn):Prop:=
 ((↑(usesL k).length:Int)==(0:Int)&&conj ([f.kind==(0:Int)]++([f.a==(0:Int)]++([decide (f.s=ByteArray.mk #[])]++[]))))=false→eI.okL (usesL k)∧Lp.ixJ (fun c=>(↑c.fst.length:Int)) (fun c=>c.fst) lrc_K (lrc_f (eI.ag (usesL k),(0:Int),(),f,(0:Int)))
theorem rfc_okS (pre:DA.T aIF→List Prop) (h:∀ g,DA.bd aIF g→(∀ p∈pre g,p)→rfc_side g.1 g.2):FnPure Tryd.prog 55 aIF dI (fun g=>rfc_F g.1 g.2) pre:=pure_of_sideS (Γ:=(PTab.gamz tabC7 [] [])) (Λ:=lamC4) (PTab.okz tabC7 [] []) lamC4_ok 100 default (fun g=>rfc_side g.1 g.2) (fun g=>by kernel_rfl) (fun g=>by kernel_rfl) h
noncomputable def both_F (k:Int) (f:Fn) (r:Rec):Dv.T dI:=
 bif chkF k f != (0:Int) then chkF k f else chkR r
def both_side (k:Int) (f:Fn) (r:Rec):Prop:=
 ByteArray.size f.s≤KB
theorem both_okS (pre:DA.T aIFR→List Prop) (h:∀ g,DA.bd aIFR g→(∀ p∈pre g,p)→both_side g.1 g.2.1 g.2.2):FnPure Tryd.prog 92 aIFR dI (fun g=>both_F g.1 g.2.1 g.2.2) pre:=pure_of_sideS (Γ:=(PTab.gamz tabC7 [] [])) (Λ:=lamC4) (PTab.okz tabC7 [] []) lamC4_ok 100 default (fun g=>both_side g.1 g.2.1 g.2.2) (fun g=>by kernel_rfl) (fun g=>by kernel_rfl) h
end Go.Proofs.YtmegbepjdololaaDoor

namespace Go.Proofs.YtmegbepjdololaaDoor
open Go.RowKit Go.Sx Go.Lp
theorem mem_upTo (lo hi v:Int):v∈upTo lo hi↔lo≤v∧v≤hi:=by
 unfold upTo
 rw[List.mem_map]
 constructor
 ·rintro ⟨j,h1,rfl⟩
  rw[List.mem_range] at h1
  omega
 ·rintro ⟨h1,h2⟩
  exact ⟨(v - lo).toNat,by rw[List.mem_range];omega,by omega⟩
theorem upTo_len (lo hi:Int):(upTo lo hi).length=(hi+1 - lo).toNat:=by simp[upTo]
theorem uses_none (k:Int):((usesL k).length=0)↔(uses_F k).2<0:=by
 unfold usesL
 rw[upTo_len]
 unfold uses_F
 generalize (k==(2:Int))=b1
 generalize (k==(3:Int))=b2
 generalize (k==(4:Int))=b3
 generalize (k==(8:Int))=b4
 generalize (k==(11:Int))=b5
 revert b1 b2 b3 b4 b5
 decide
theorem uses_len (k:Int):(usesL k).length≤8:=by
 unfold usesL
 rw[upTo_len]
 unfold uses_F
 generalize (k==(2:Int))=b1
 generalize (k==(3:Int))=b2
 generalize (k==(4:Int))=b3
 generalize (k==(8:Int))=b4
 generalize (k==(11:Int))=b5
 revert b1 b2 b3 b4 b5
 decide
theorem rfc_ok:FnPure Tryd.prog 55 aIF dI (fun g=>chkF g.1 g.2) (fun g=>[g.2.s.size≤KB]):=
 pure_congr (rfc_okS _ fun g _ hp=>by
  obtain ⟨k,f⟩:=g
  have h:f.s.size≤KB:=hp _ (List.mem_cons_self ..)
  have hl:=uses_len k
  show rfc_side k f
  unfold rfc_side
  simp only[El.okL_eq,El.ag_eq,true_and]
  exact fun _=>⟨rfl,by show (usesL k).length≤maxLen;unfold maxLen;omega,Int.le_refl _,by show (0:Int)≤((usesL k).length:Int);omega,h⟩) fun g _ hp=>by
  obtain ⟨k,f⟩:=g
  have h:f.s.size≤KB:=hp _ (List.mem_cons_self ..)
  have hl:=uses_len k
  have hn:=uses_none k
  have hrun:=lrc_run (usesL k,f) ((),0) rfl (by show (usesL k).length≤maxLen;unfold maxLen;omega) h
  have hq:rfc_q1 k f=loopF lrc_RR lrc_M (lrc_g (0,(usesL k,f),(),0)):=by
   unfold rfc_q1
   rw[eI.ag_eq]
   rfl
  show rfc_F k f=chkF k f
  unfold rfc_F chkF
  rw[conj_F,hq,hrun]
  have hs:=search (x:=0) (st:=lrc_S (usesL k,f)) (p:=fun v=>v==f.kind&&(rnum_F f&&textF f)) (r:=fun _ _ b=>(b.1,0)) (fun b i a=>rfl) (usesL k) ((),0)
  have hany:(usesL k).any (fun v=>v==f.kind&&(rnum_F f&&textF f))=((decide ((uses_F k).1≤f.kind)&&decide (f.kind≤(uses_F k).2))&&(num_F f&&textF f)):=by
   have e1:rnum_F f=num_F f:=rfl
   rw[e1,Bool.eq_iff_iff,List.any_eq_true]
   simp only[Bool.and_eq_true,beq_iff_eq,decide_eq_true_eq]
   constructor
   ·rintro ⟨v,h1,rfl,h2⟩
    exact ⟨(mem_upTo _ _ _).1 h1,h2⟩
   ·rintro ⟨h1,h2⟩
    exact ⟨f.kind,(mem_upTo _ _ _).2 h1,rfl,h2⟩
  by_cases hz:(uses_F k).2<0
  ·have h0:=hn.2 hz
   have hnil:=List.length_eq_zero_iff.1 h0
   rw[decide_eq_true hz,cond_true,h0]
   cases decide (f=noFn) with
   | true=>rfl
   | false=>
    rcases hs with ⟨h1,j,_,a,_,_,hs⟩ | ⟨_,hs⟩
    ·rw[hnil] at h1;cases h1
    ·rw[hs];rfl
  ·have h0:(((usesL k).length:Int)==0)=false:=by
    rw[beq_eq_false_iff_ne]
    intro hc
    exact hz (hn.1 (by omega))
   rw[decide_eq_false hz,cond_false,h0]
   rcases hs with ⟨h1,j,_,a,_,_,hs⟩ | ⟨h1,hs⟩
   ·rw[hany] at h1;rw[hs,h1];rfl
   ·rw[hany] at h1;rw[hs,h1];rfl
noncomputable def bothF (k:Int) (f:Fn) (r:Rec):Int:=bif chkF k f != (0:Int) then chkF k f else chkR r
theorem both_ok:FnPure Tryd.prog 92 aIFR dI (fun g=>bothF g.1 g.2.1 g.2.2) (fun g=>[g.2.1.s.size≤KB]):=
 pure_congr (both_okS _ fun g _ hp=>hp _ (List.mem_cons_self ..)) fun g _ _=>rfl
noncomputable def tabC9:PTab Tryd.prog:=(tabC7.cons 55 (pconP aIF dI (fun g=>chkF g.1 g.2) (fun g=>[g.2.s.size≤KB])) (conP_ok rfc_ok puI)).cons 92 (pconP aIFR dI (fun g=>bothF g.1 g.2.1 g.2.2) (fun g=>[g.2.1.s.size≤KB])) (conP_ok both_ok puI)
end Go.Proofs.YtmegbepjdololaaDoor

namespace Go.Proofs.YtmegbepjdololaaDoor
open Go.RowKit Go.Sx
set_option maxRecDepth 100000
set_option linter.unusedVariables false
abbrev aPt:DA (BA×List Rune×Int×Int):=.cons dStr (.cons dLU (.cons dI (.one dI)))
abbrev rUn:RM Unit:=RM.pure (Dv.tup DA.none)
noncomputable def may_F (k:Int) (f:Fn) (r:Rec):Dv.T dI:=
 bif chkF k f != (0:Int) then chkF k f else chkR r
def may_side (k:Int) (f:Fn) (r:Rec):Prop:=
 ByteArray.size f.s≤KB
theorem may_okS (pre:DA.T aIFR→List Prop) (h:∀ g,DA.bd aIFR g→(∀ p∈pre g,p)→may_side g.1 g.2.1 g.2.2):FnPure Tryd.prog 108 aIFR dI (fun g=>may_F g.1 g.2.1 g.2.2) pre:=pure_of_sideS (Γ:=(PTab.gamz tabC9 [] [])) (Λ:=noΛ) (PTab.okz tabC9 [] []) noΛ_ok 100 default (fun g=>may_side g.1 g.2.1 g.2.2) (fun g=>by kernel_rfl) (fun g=>by kernel_rfl) h
noncomputable def part_F (s:BA) (l:List Rune) (a:Int) (b:Int):Dv.T dStr:=
 ByteArray.extract s (bif decide (a<(↑l.length:Int)) then (l.getD a.toNat eU.dflt).at' else (↑(ByteArray.size s):Int)).toNat (bif decide (b<(↑l.length:Int)) then (l.getD b.toNat eU.dflt).at' else (↑(ByteArray.size s):Int)).toNat
def part_side (s:BA) (l:List Rune) (a:Int) (b:Int):Prop:=
 (decide (a<(↑l.length:Int))=true→(0:Int)≤a∧a<(↑l.length:Int))∧(decide (b<(↑l.length:Int))=true→(0:Int)≤b∧b<(↑l.length:Int))∧(((0:Int)≤bif decide (b<(↑l.length:Int)) then (l.getD b.toNat eU.dflt).at' else (↑(ByteArray.size s):Int))∧(bif decide (b<(↑l.length:Int)) then (l.getD b.toNat eU.dflt).at' else (↑(ByteArray.size s):Int))≤(↑(ByteArray.size s):Int))∧((0:Int)≤bif decide (a<(↑l.length:Int)) then (l.getD a.toNat eU.dflt).at' else (↑(ByteArray.size s):Int))∧(bif decide (a<(↑l.length:Int)) then (l.getD a.toNat eU.dflt).at' else (↑(ByteArray.size s):Int))≤(↑(bif decide (b<(↑l.length:Int)) then (l.getD b.toNat eU.dflt).at' else (↑(ByteArray.size s):Int)).toNat:Int)
theorem part_okS (pre:DA.T aPt→List Prop) (h:∀ g,DA.bd aPt g→(∀ p∈pre g,p)→part_side g.1 g.2.1 g.2.2.1 g.2.2.2):FnPure Tryd.prog 110 aPt dStr (fun g=>part_F g.1 g.2.1 g.2.2.1 g.2.2.2) pre:=pure_of_sideS (Γ:=(PTab.gamz tabC9 [] [])) (Λ:=noΛ) (PTab.okz tabC9 [] []) noΛ_ok 100 default (fun g=>part_side g.1 g.2.1 g.2.2.1 g.2.2.2) (fun g=>by kernel_rfl) (fun g=>by kernel_rfl) h
noncomputable def rest2_F (n:Int) (b:Int):Dv.T dI:=
 bif decide (n.tmod b<(0:Int)) then IntKind.i64.wrap (n.tmod b+b) else n.tmod b
def rest2_side (n:Int) (b:Int):Prop:=
 b≠(0:Int)
theorem rest2_okS (pre:DA.T aII→List Prop) (h:∀ g,DA.bd aII g→(∀ p∈pre g,p)→rest2_side g.1 g.2):FnPure Tryd.prog 96 aII dI (fun g=>rest2_F g.1 g.2) pre:=pure_of_sideS (Γ:=(PTab.gamz tabC9 [] [])) (Λ:=noΛ) (PTab.okz tabC9 [] []) noΛ_ok 100 default (fun g=>rest2_side g.1 g.2) (fun g=>by kernel_rfl) (fun g=>by kernel_rfl) h
abbrev rv_G:Type:=Nat×List Int×Int×Int
noncomputable def rv_LP:LP 1 rv_G:=.pair (.owl 1 0 0) (.pair (.rowO 1 0 21 e3) (.pair (.slot 1 2 dI) (.slot 1 3 dI)))
noncomputable def rv_R (l:Nat) (xs:List Int) (i:Int) (j:Int):Ex×rv_G:=
 bif decide (i<j) then (Ex.normal,l,((e3.ag xs).set i.toNat (xs.getD j.toNat e3.dflt)).set j.toNat (xs.getD i.toNat e3.dflt),IntKind.i64.wrap (i+(1:Int)),IntKind.i64.wrap (j - (1:Int)))
 else (Ex.exit (0:Nat),l,e3.ag xs,i,j)
def rv_side (l:Nat) (xs:List Int) (i:Int) (j:Int):Prop:=
 (decide (i<j)=true→((0:Int)≤j∧j<(↑l:Int))∧j.toNat<xs.length∧((0:Int)≤i∧i<(↑l:Int))∧i.toNat<xs.length∧((0:Int)≤i∧i<(↑l:Int))∧i.toNat<xs.length∧((0:Int)≤j∧j<(↑l:Int))∧j.toNat<xs.length∧True∧True∧∀ (e:Nat),e<xs.length→True)∧(decide (i<j)=false→∀ (e:Nat),e<xs.length→True)
theorem rv_one:((loopsOf Tryd.prog 95).filter fun c=>Nat.beq (lkey c) 1).length=1:=by kernel_rfl
theorem rv_es (g:rv_G):(rv_R g.1 g.2.1 g.2.2.1 g.2.2.2).1=.normal∨(rv_R g.1 g.2.1 g.2.2.1 g.2.2.2).1∈([.exit 0]:List Ex):=by
 unfold rv_R
 repeat' (first | (left;rfl) | (right;simp only[cond_true,cond_false];simp;done) | (rw[Bool.cond_eq_ite];split))
noncomputable abbrev rv_C (Inv:rv_G→List Prop) (m:rv_G→Nat):LCon:=loopR [.exit 0] (loopBody Tryd.prog 95 1) rv_LP [] 28 Inv (fun g=>rv_R g.1 g.2.1 g.2.2.1 g.2.2.2) m
theorem rv_loop (Inv:rv_G→List Prop) (m:rv_G→Nat) (hs:∀ g,allP (Inv g)→rv_side g.1 g.2.1 g.2.2.1 g.2.2.2) (hg:Goes (fun g:rv_G=>rv_R g.1 g.2.1 g.2.2.1 g.2.2.2) m fun g=>allP (Inv g)):∀ b∈loopsOf Tryd.prog 95,lkey b=1→LoopOk Tryd.prog b (rv_C Inv m).g:=loop_run (Γ:=(PTab.gamz tabC9 [] [])) (Λ:=noΛ) (PTab.okz tabC9 [] []) noΛ_ok 100 95 1 28 rv_LP [] Inv (fun g=>rv_R g.1 g.2.1 g.2.2.1 g.2.2.2) (fun g=>rv_side g.1 g.2.1 g.2.2.1 g.2.2.2) m default [.exit 0] rv_one (fun rd T B HL HB ds g=>by kernel_rfl) (fun rd T B HL HB ds g=>by kernel_rfl) hs hg rv_es
end Go.Proofs.YtmegbepjdololaaDoor

namespace Go.Proofs.YtmegbepjdololaaDoor
open Go.RowKit Go.Sx Go.Lp
theorem may_ok:FnPure Tryd.prog 108 aIFR dI (fun g=>bothF g.1 g.2.1 g.2.2) (fun g=>[g.2.1.s.size≤KB]):=
 pure_congr (may_okS _ fun g _ hp=>hp _ (List.mem_cons_self ..)) fun g _ _=>rfl
def posN (s:BA) (i:Nat):Nat:=wsum ((rsL (toL s)).take i)
theorem rp_len:∀ (l:List (Nat×Nat)) (p:Nat),(rpF p l).length=l.length
 | [],_=>rfl
 | d :: l,p=>by simp only[rpF,List.length_cons,rp_len l]
theorem rp_get:∀ (l:List (Nat×Nat)) (p i:Nat) (h:i<l.length),(rpF p l)[i]?=some (p+wsum (l.take i),l[i].1)
 | [],_,_,h=>by simp at h
 | (c,w) :: l,p,0,h=>by simp[rpF,wsum]
 | (c,w) :: l,p,i+1,h=>by
  simp only[rpF,List.getElem?_cons_succ,List.take_succ_cons,List.getElem_cons_succ]
  rw[rp_get l (p+w) i (by simpa using h)]
  simp only[wsum,List.map_cons,List.sum_cons]
  congr 2
  omega
theorem r05_len (s:BA):(runes05 s).length=(rsL (toL s)).length:=by unfold runes05 rpL;rw[List.length_map,rp_len]
theorem r05_at (s:BA) (i:Nat) (h:i<(runes05 s).length):(runes05 s).getD i eU.dflt=⟨(posN s i:Int),((rsL (toL s))[i]'(by rw[← r05_len];exact h)).1⟩:=by
 have h':i<(rsL (toL s)).length:=by rw[← r05_len];exact h
 rw[List.getD_eq_getElem?_getD]
 unfold runes05 rpL
 rw[List.getElem?_map,rp_get _ 0 i h']
 simp[posN]
theorem wsum_take_le:∀ (l:List (Nat×Nat)) (i j:Nat),i≤j→wsum (l.take i)≤wsum (l.take j)
 | [],i,j,_=>by simp
 | d :: l,0,j,_=>by simp[wsum]
 | d :: l,i+1,0,h=>by omega
 | d :: l,i+1,j+1,h=>by
  have:=wsum_take_le l i j (by omega)
  simp only[List.take_succ_cons,wsum,List.map_cons,List.sum_cons] at this ⊢
  omega
theorem posN_mono (s:BA) {i j:Nat} (h:i≤j):posN s i≤posN s j:=wsum_take_le _ i j h
theorem posN_all (s:BA) (i:Nat) (h:(runes05 s).length≤i):posN s i=s.size:=by
 unfold posN
 rw[List.take_of_length_le (by rw[← r05_len];exact h),wsum_rsL,toL_len]
theorem posN_le (s:BA) (i:Nat):posN s i≤s.size:=by
 rcases Nat.le_total i (runes05 s).length with h | h
 ·exact Nat.le_trans (posN_mono s h) (Nat.le_of_eq (posN_all s _ (Nat.le_refl _)))
 ·exact Nat.le_of_eq (posN_all s i h)
theorem pos_if (s:BA) (i:Nat):(bif decide ((i:Int)<((runes05 s).length:Int)) then ((runes05 s).getD ((i:Int)).toNat eU.dflt).at' else (s.size:Int))=(posN s i:Int):=by
 by_cases h:i<(runes05 s).length
 ·rw[decide_eq_true (by omega),cond_true,Int.toNat_natCast,r05_at s i h]
 ·rw[decide_eq_false (by omega),cond_false,posN_all s i (by omega)]
def partS (s:BA) (a b:Nat):BA:=s.extract (posN s a) (posN s b)
theorem part_ok:FnPure Tryd.prog 110 aPt dStr (fun g=>partS g.1 g.2.2.1.toNat g.2.2.2.toNat) (fun g=>[g.2.1=runes05 g.1,0≤g.2.2.1∧g.2.2.1≤g.2.2.2]):=
 pure_congr (part_okS _ fun g _ hp=>by
  obtain ⟨s,l,a,b⟩:=g
  have h1:l=runes05 s:=hp _ (List.mem_cons_self ..)
  have h2:0≤a∧a≤b:=hp _ (List.mem_cons_of_mem _ (List.mem_cons_self ..))
  obtain ⟨i,rfl⟩:∃ i:Nat,a=i:=⟨a.toNat,by omega⟩
  obtain ⟨j,rfl⟩:∃ j:Nat,b=j:=⟨b.toNat,by omega⟩
  subst h1
  show part_side s (runes05 s) i j
  unfold part_side
  rw[pos_if,pos_if]
  have:=posN_le s j
  have:=posN_mono s (show i≤j by omega)
  refine ⟨fun h=>⟨by omega,of_decide_eq_true h⟩,fun h=>⟨by omega,of_decide_eq_true h⟩,by omega,by omega⟩) fun g _ hp=>by
  obtain ⟨s,l,a,b⟩:=g
  have h1:l=runes05 s:=hp _ (List.mem_cons_self ..)
  have h2:0≤a∧a≤b:=hp _ (List.mem_cons_of_mem _ (List.mem_cons_self ..))
  obtain ⟨i,rfl⟩:∃ i:Nat,a=i:=⟨a.toNat,by omega⟩
  obtain ⟨j,rfl⟩:∃ j:Nat,b=j:=⟨b.toNat,by omega⟩
  subst h1
  show part_F s (runes05 s) i j=_
  unfold part_F
  rw[pos_if,pos_if]
  rfl
def restF (n b:Int):Int:=bif decide (n.tmod b<0) then n.tmod b+b else n.tmod b
theorem rest_ok2:FnPure Tryd.prog 96 aII dI (fun g=>restF g.1 g.2) (fun g=>[0<g.2∧g.2<1000000000]):=
 pure_congr (rest2_okS _ fun g _ hp=>by
  have h:=hp _ (List.mem_cons_self ..)
  show g.2≠0
  omega) fun g _ hp=>by
  obtain ⟨n,b⟩:=g
  have h:0<b∧b<1000000000:=hp _ (List.mem_cons_self ..)
  show rest2_F n b=restF n b
  unfold rest2_F restF
  have h1:n.tmod b<b:=Int.tmod_lt_of_pos n h.1
  have h2:-b<n.tmod b:=by
   have:=Int.lt_tmod_of_pos n h.1
   omega
  rw[wrS (by omega)]
def rv_mk (N:Nat) (xs:List Int) (i:Nat):rv_G:=(N,xs,(i:Int),(N:Int) - 1 - i)
noncomputable abbrev rv_I (g:rv_G):List Prop:=[∃ N xs i,g=rv_mk N xs i∧xs.length=N∧i≤N∧N≤KB]
noncomputable abbrev rv_M (g:rv_G):Nat:=(g.2.2.2 - g.2.2.1).toNat
theorem rv_F (N:Nat) (xs:List Int) (i:Nat) (hl:xs.length=N) (hi:i≤N) (hN:N≤KB):rv_R N xs (i:Int) ((N:Int) - 1 - i)=if 2 * i+1<N then (.normal,rv_mk N ((xs.set i (xs.getD (N - 1 - i) 0)).set (N - 1 - i) (xs.getD i 0)) (i+1)) else (.exit 0,rv_mk N xs i):=by
 unfold KB at hN
 unfold rv_R rv_mk
 by_cases h:2 * i+1<N
 ·rw[decide_eq_true (by omega),if_pos h,cond_true,Int.toNat_natCast,wrS (x:=(i:Int)+1) (by omega),wrS (x:=(N:Int) - 1 - (i:Int) - 1) (by omega),show ((N:Int) - 1 - (i:Int)).toNat=N - 1 - i by omega,e3.ag_eq]
  have e:(N:Int) - 1 - (i:Int) - 1=(N:Int) - 1 - ((i+1:Nat):Int):=by omega
  rw[e]
  rfl
 ·rw[decide_eq_false (by omega),if_neg h,cond_false,e3.ag_eq]
theorem rv_goes:Goes (fun g:rv_G=>rv_R g.1 g.2.1 g.2.2.1 g.2.2.2) rv_M fun g=>allP (rv_I g):=by
 intro g hi hn
 obtain ⟨N,xs,i,rfl,h1,h2,h3⟩:=hi _ (List.mem_cons_self ..)
 have e:=rv_F N xs i h1 h2 h3
 change (rv_R N xs (i:Int) ((N:Int) - 1 - i)).1=.normal at hn
 change allP (rv_I (rv_R N xs (i:Int) ((N:Int) - 1 - i)).2)∧rv_M (rv_R N xs (i:Int) ((N:Int) - 1 - i)).2<_
 rw[e] at hn ⊢
 by_cases h:2 * i+1<N
 ·rw[if_pos h] at hn ⊢
  refine ⟨fun q hq=>?_,?_⟩
  ·simp only[List.mem_singleton] at hq
   subst hq
   exact ⟨N,_,i+1,rfl,by simp[h1],by omega,h3⟩
  ·simp only[rv_M,rv_mk];omega
 ·rw[if_neg h] at hn;cases hn
theorem rv_ok:∀ b∈loopsOf Tryd.prog 95,lkey b=1→LoopOk Tryd.prog b (rv_C rv_I rv_M).g:=
 rv_loop rv_I rv_M (fun g hi=>by
  obtain ⟨N,xs,i,rfl,h1,h2,h3⟩:=hi _ (List.mem_cons_self ..)
  show rv_side N xs (i:Int) ((N:Int) - 1 - i)
  unfold rv_side
  simp only[decide_eq_true_eq,decide_eq_false_iff_not]
  repeat' (first | apply And.intro | intro _)
  all_goals first | trivial | omega) rv_goes
theorem rv_run (N:Nat) (hN:N≤KB):∀ (n i:Nat) (xs:List Int),xs.length=N→i≤N→N - i≤n→∃ ys i',loopF (fun g:rv_G=>rv_R g.1 g.2.1 g.2.2.1 g.2.2.2) rv_M (rv_mk N xs i)=(.exit 0,rv_mk N ys i')∧ys.length=N∧∀ k,k<N→ys.getD k 0=if i≤k∧k<N - i then xs.getD (N - 1 - k) 0 else xs.getD k 0:=by
 have hI:∀ xs i,xs.length=N→i≤N→allP (rv_I (rv_mk N xs i)):=fun xs i h1 h2 q hq=>by
  simp only[List.mem_singleton] at hq
  subst hq
  exact ⟨N,xs,i,rfl,h1,h2,hN⟩
 intro n
 induction n with
 | zero=>
  intro i xs h1 h2 h3
  have e:=rv_F N xs i h1 h2 hN
  rw[if_neg (by omega)] at e
  refine ⟨xs,i,?_,h1,fun k hk=>?_⟩
  ·rw[loopF_end (by show (rv_R N xs (i:Int) ((N:Int) - 1 - i)).1≠_;rw[e];simp)]
   exact e
  ·rw[if_neg (by omega)]
 | succ n ih=>
  intro i xs h1 h2 h3
  have e:=rv_F N xs i h1 h2 hN
  by_cases h:2 * i+1<N
  ·rw[if_pos h] at e
   rw[loopF_next rv_goes (hI xs i h1 h2) (show rv_R N xs (i:Int) ((N:Int) - 1 - i)=_ from e)]
   obtain ⟨ys,i',hy,hl,hys⟩:=ih (i+1) ((xs.set i (xs.getD (N - 1 - i) 0)).set (N - 1 - i) (xs.getD i 0)) (by simp[h1]) (by omega) (by omega)
   refine ⟨ys,i',hy,hl,fun k hk=>?_⟩
   rw[hys k hk]
   have hget:∀ k,k<N→((xs.set i (xs.getD (N - 1 - i) 0)).set (N - 1 - i) (xs.getD i 0)).getD k 0=if k=N - 1 - i then xs.getD i 0 else if k=i then xs.getD (N - 1 - i) 0 else xs.getD k 0:=fun k hk=>by
    simp only[List.getD_eq_getElem?_getD]
    by_cases k1:k=N - 1 - i
    ·rw[if_pos k1,k1,List.getElem?_set_self (by simp only[List.length_set];omega)];rfl
    ·rw[if_neg k1,List.getElem?_set_ne (by omega)]
     by_cases k2:k=i
     ·rw[if_pos k2,k2,List.getElem?_set_self (by omega)];rfl
     ·rw[if_neg k2,List.getElem?_set_ne (by omega)]
   by_cases c1:i+1≤k∧k<N - (i+1)
   ·rw[if_pos c1,if_pos (by omega),hget _ (by omega),if_neg (by omega),if_neg (by omega)]
   ·rw[if_neg c1,hget _ hk]
    by_cases c2:k=N - 1 - i
    ·rw[if_pos c2,if_pos (by omega)]
     congr 1
     omega
    ·rw[if_neg c2]
     by_cases c3:k=i
     ·rw[if_pos c3,if_pos (by omega)]
      congr 1
      omega
     ·rw[if_neg c3,if_neg (by omega)]
  ·rw[if_neg h] at e
   refine ⟨xs,i,?_,h1,fun k hk=>?_⟩
   ·rw[loopF_end (by show (rv_R N xs (i:Int) ((N:Int) - 1 - i)).1≠_;rw[e];simp)]
    exact e
   ·split
    ·congr 1;omega
    ·rfl
theorem rv_run0 (xs:List Int) (hN:xs.length≤KB):∃ i',loopF (fun g:rv_G=>rv_R g.1 g.2.1 g.2.2.1 g.2.2.2) rv_M (xs.length,xs,0,(xs.length:Int) - 1)=(.exit 0,rv_mk xs.length xs.reverse i'):=by
 obtain ⟨ys,i',h1,h2,h3⟩:=rv_run xs.length hN xs.length 0 xs rfl (Nat.zero_le _) (Nat.sub_le _ _)
 refine ⟨i',?_⟩
 have e:rv_mk xs.length xs 0=(xs.length,xs,0,(xs.length:Int) - 1):=by simp[rv_mk]
 rw[e] at h1
 rw[h1]
 have:ys=xs.reverse:=by
  refine List.ext_getElem (by simp[h2]) fun k k1 k2=>?_
  have h:=h3 k (by omega)
  rw[if_pos (by omega)] at h
  rw[List.getD_eq_getElem?_getD,List.getD_eq_getElem?_getD,List.getElem?_eq_getElem k1,List.getElem?_eq_getElem (by omega)] at h
  simp only[Option.getD_some] at h
  rw[h,List.getElem_reverse]
 rw[this]
noncomputable def ltC11:LTab Tryd.prog:=LTab.cons ltC4 95 1 (rv_C rv_I rv_M) rv_ok
noncomputable abbrev lamC11:Lam:=ltC11.lam
theorem lamC11_ok:∀ f k L,lamC11 f k=some L→∀ b∈loopsOf Tryd.prog f,lkey b=k→LoopOk Tryd.prog b L.g:=ltC11.ok
noncomputable def tabC11:PTab Tryd.prog:=((tabC9.cons 108 (pconP aIFR dI (fun g=>bothF g.1 g.2.1 g.2.2) (fun g=>[g.2.1.s.size≤KB])) (conP_ok may_ok puI)).cons 110 (pconP aPt dStr (fun g=>partS g.1 g.2.2.1.toNat g.2.2.2.toNat) (fun g=>[g.2.1=runes05 g.1,0≤g.2.2.1∧g.2.2.1≤g.2.2.2])) (conP_ok part_ok puS)).cons 96 (pconP aII dI (fun g=>restF g.1 g.2) (fun g=>[0<g.2∧g.2<1000000000])) (conP_ok rest_ok2 puI)
end Go.Proofs.YtmegbepjdololaaDoor

namespace Go.Proofs.YtmegbepjdololaaDoor
open Go.RowKit Go.Sx
set_option maxRecDepth 100000
set_option linter.unusedVariables false
abbrev aL3c:DA (List Rune×Int):=.cons dLU (.one d3)
noncomputable def rev_q1 (xs:List Int) (_u:Unit):Ex ×
 rv_G:=
 loopF (fun g=>rv_R g.fst g.snd.fst g.snd.snd.fst g.snd.snd.snd) rv_M (xs.length,e3.ag xs,(0:Int),IntKind.i64.wrap ((↑xs.length:Int) - (1:Int)))
noncomputable def rev_F (xs:List Int) (_u:Unit):List Int×RM.T rUn:=
 (e3.ag (rev_q1 xs _u).snd.snd.fst,())
def rev_side (xs:List Int) (_u:Unit):Prop:=
 (∀ (e:Nat),e<xs.length→True)∧(∃ N xs_1 i,(xs.length,e3.ag xs,(0:Int),IntKind.i64.wrap ((↑xs.length:Int) - (1:Int)))=rv_mk N xs_1 i∧xs_1.length=N∧i≤N∧N≤KB)∧∀ (e:Nat),e<(rev_q1 xs _u).snd.snd.fst.length→True
theorem rev_okS (pre:List Int→DA.T DA.none→List Prop) (h:∀ xs g,DA.bd DA.none g→xs.length≤maxLen→(∀ p∈pre xs g,p)→rev_side xs g):FnMut Tryd.prog 95 21 e3 DA.none rUn (fun xs g=>rev_F xs g) pre:=mut_of_side (Γ:=(PTab.gamz tabC11 [] [])) (Λ:=lamC11) (PTab.okz tabC11 [] []) lamC11_ok 100 default (fun xs g=>rev_side xs g) (fun xs g=>by kernel_rfl) (fun xs g=>by kernel_rfl) h
abbrev tn_G:Type:=BA×List Rune×BA×Int
noncomputable def tn_LP:LP 0 tn_G:=.pair (.slot 0 0 dStr) (.pair (.slot 0 3 dLU) (.pair (.slot 0 4 dStr) (.slot 0 5 dI)))
noncomputable def tn_R (s:BA) (l:List Rune) (o:BA) (i:Int):Ex×tn_G:=
 bif decide (i<(↑l.length:Int)) then (Ex.normal,s,eU.ag l,partS s i.toNat (IntKind.i64.wrap (i+(1:Int))).toNat++o,IntKind.i64.wrap (i+(1:Int)))
 else (Ex.exit (0:Nat),s,eU.ag l,o,i)
def tn_side (s:BA) (l:List Rune) (o:BA) (i:Int):Prop:=
 (decide (i<(↑l.length:Int))=true→eU.okL l∧eU.ag l=runes05 s∧((0:Int)≤i∧i≤IntKind.i64.wrap (i+(1:Int)))∧ByteArray.size (partS s i.toNat (IntKind.i64.wrap (i+(1:Int))).toNat)+ByteArray.size o≤(9223372036854775807:Nat)∧eU.okL l)∧(decide (i<(↑l.length:Int))=false→eU.okL l)
theorem tn_one:((loopsOf Tryd.prog 111).filter fun c=>Nat.beq (lkey c) 4).length=1:=by kernel_rfl
theorem tn_es (g:tn_G):(tn_R g.1 g.2.1 g.2.2.1 g.2.2.2).1=.normal∨(tn_R g.1 g.2.1 g.2.2.1 g.2.2.2).1∈([.exit 0]:List Ex):=by
 unfold tn_R
 repeat' (first | (left;rfl) | (right;simp only[cond_true,cond_false];simp;done) | (rw[Bool.cond_eq_ite];split))
noncomputable abbrev tn_C (Inv:tn_G→List Prop) (m:tn_G→Nat):LCon:=loopR [.exit 0] (loopBody Tryd.prog 111 4) tn_LP [] 23 Inv (fun g=>tn_R g.1 g.2.1 g.2.2.1 g.2.2.2) m
theorem tn_loop (Inv:tn_G→List Prop) (m:tn_G→Nat) (hs:∀ g,allP (Inv g)→tn_side g.1 g.2.1 g.2.2.1 g.2.2.2) (hg:Goes (fun g:tn_G=>tn_R g.1 g.2.1 g.2.2.1 g.2.2.2) m fun g=>allP (Inv g)):∀ b∈loopsOf Tryd.prog 111,lkey b=4→LoopOk Tryd.prog b (tn_C Inv m).g:=loop_run (Γ:=(PTab.gamz tabC11 [] [])) (Λ:=lamC11) (PTab.okz tabC11 [] []) lamC11_ok 100 111 4 23 tn_LP [] Inv (fun g=>tn_R g.1 g.2.1 g.2.2.1 g.2.2.2) (fun g=>tn_side g.1 g.2.1 g.2.2.1 g.2.2.2) m default [.exit 0] tn_one (fun rd T B HL HB ds g=>by kernel_rfl) (fun rd T B HL HB ds g=>by kernel_rfl) hs hg tn_es
abbrev hs_G:Type:=List Rune×Int×Int×Bool
noncomputable def hs_LP:LP 0 hs_G:=.pair (.slot 0 0 dLU) (.pair (.slot 0 1 d3) (.pair (.slot 0 5 dI) (.slot 0 4 dBool)))
noncomputable def hs_R (xs:List Rune) (c:Int) (i:Int) (r:Bool):Ex×hs_G:=
 bif decide (i<(↑xs.length:Int)) then bif (xs.getD i.toNat eU.dflt).r==c then (Ex.ret,eU.ag xs,c,i,true) else (Ex.normal,eU.ag xs,c,IntKind.i64.wrap (i+(1:Int)),r)
 else (Ex.exit (0:Nat),eU.ag xs,c,i,r)
def hs_side (xs:List Rune) (c:Int) (i:Int) (r:Bool):Prop:=
 (decide (i<(↑xs.length:Int))=true→((0:Int)≤i∧i<(↑xs.length:Int))∧(((xs.getD i.toNat eU.dflt).r==c)=true→eU.okL xs)∧(((xs.getD i.toNat eU.dflt).r==c)=false→eU.okL xs))∧(decide (i<(↑xs.length:Int))=false→eU.okL xs)
theorem hs_one:((loopsOf Tryd.prog 112).filter fun c=>Nat.beq (lkey c) 2).length=1:=by kernel_rfl
abbrev hs_GC:Type:=List Rune×Int
abbrev hs_GB:Type:=Bool
def hs_f (g:hs_G):Int×hs_GC×hs_GB:=(g.2.2.1,(g.1,g.2.1),g.2.2.2)
def hs_g (d:Int×hs_GC×hs_GB):hs_G:=(d.2.1.1,d.2.1.2,d.1,d.2.2)
theorem hs_es (g:hs_G):(hs_R g.1 g.2.1 g.2.2.1 g.2.2.2).1=.normal∨(hs_R g.1 g.2.1 g.2.2.1 g.2.2.2).1∈([.ret,.exit 0]:List Ex):=by
 unfold hs_R
 repeat' (first | (left;rfl) | (right;simp only[cond_true,cond_false];simp;done) | (rw[Bool.cond_eq_ite];split))
noncomputable abbrev hs_C (Inv:hs_G→List Prop) (m:hs_G→Nat):LCon:=loopR [.ret,.exit 0] (loopBody Tryd.prog 112 2) hs_LP [] 19 Inv (fun g=>hs_R g.1 g.2.1 g.2.2.1 g.2.2.2) m
theorem hs_loop (Inv:hs_G→List Prop) (m:hs_G→Nat) (hs:∀ g,allP (Inv g)→hs_side g.1 g.2.1 g.2.2.1 g.2.2.2) (hg:Goes (fun g:hs_G=>hs_R g.1 g.2.1 g.2.2.1 g.2.2.2) m fun g=>allP (Inv g)):∀ b∈loopsOf Tryd.prog 112,lkey b=2→LoopOk Tryd.prog b (hs_C Inv m).g:=loop_run (Γ:=(PTab.gamz tabC11 [] [])) (Λ:=lamC11) (PTab.okz tabC11 [] []) lamC11_ok 100 112 2 19 hs_LP [] Inv (fun g=>hs_R g.1 g.2.1 g.2.2.1 g.2.2.2) (fun g=>hs_side g.1 g.2.1 g.2.2.1 g.2.2.2) m default [.ret,.exit 0] hs_one (fun rd T B HL HB ds g=>by kernel_rfl) (fun rd T B HL HB ds g=>by kernel_rfl) hs hg hs_es
end Go.Proofs.YtmegbepjdololaaDoor

namespace Go.Proofs.YtmegbepjdololaaDoor
open Go.RowKit Go.Sx Go.Lp
theorem mut_congr {α γ δ:Type} {P:Program} {f t:Nat} {A:El α} {D:DA γ} {R:RM δ} {fn fn':List α→γ→List α×δ} {pre:List α→γ→List Prop} (h:FnMut P f t A D R fn pre) (e:∀ xs g,D.bd g→xs.length≤maxLen→(∀ p∈pre xs g,p)→fn xs g=fn' xs g):FnMut P f t A D R fn' pre:=by
 intro w F L xs g v0 vs h1 hE h2 h3 h4 h5 h6
 refine (h w F L xs g v0 vs h1 hE h2 h3 h4 h5 h6).mono ?_
 rintro e' w' ⟨x,k1,k2,k3,k4⟩
 rw[e xs g (D.fb _ _ _ _ h6) h5.1 h4] at k3 k4
 exact ⟨x,k1,k2,k3,k4⟩
theorem rev_ok:FnMut Tryd.prog 95 21 e3 DA.none rUn (fun xs _=>(xs.reverse,())) (fun xs _=>[xs.length≤KB]):=
 mut_congr (rev_okS _ fun xs g _ _ hp=>by
  have h:xs.length≤KB:=hp _ (List.mem_cons_self ..)
  have h':=h
  unfold KB at h'
  show rev_side xs ()
  refine ⟨fun _ _=>trivial,⟨xs.length,xs,0,?_,rfl,Nat.zero_le _,h⟩,fun _ _=>trivial⟩
  rw[e3.ag_eq,wrS (by omega)]
  simp[rv_mk]) fun xs g _ _ hp=>by
  have h:xs.length≤KB:=hp _ (List.mem_cons_self ..)
  have h':=h
  unfold KB at h'
  obtain ⟨i',hr⟩:=rv_run0 xs h
  have hq:rev_q1 xs ()=(.exit 0,rv_mk xs.length xs.reverse i'):=by
   unfold rev_q1
   rw[e3.ag_eq,wrS (by omega)]
   exact hr
  show (e3.ag (rev_q1 xs ()).2.2.1,())=_
  rw[hq,e3.ag_eq]
  rfl
def turnN (s:BA):Nat→BA
 | 0=>ByteArray.mk #[]
 | n+1=>partS s n (n+1)++turnN s n
theorem size_ext (s:BA) (a b:Nat) (h:b≤s.size):(s.extract a b).size=b - a:=by
 rw[ByteArray.size_extract];omega
theorem turn_size (s:BA):∀ n,(turnN s n).size=posN s n
 | 0=>by simp only[posN,List.take_zero];rfl
 | n+1=>by
  show (partS s n (n+1)++turnN s n).size=_
  rw[ByteArray.size_append,turn_size s n]
  unfold partS
  rw[size_ext s _ _ (posN_le s _)]
  have:=posN_mono s (Nat.le_succ n)
  simp only[Nat.succ_eq_add_one] at this
  omega
def tn_mk (s:BA) (i:Nat):tn_G:=(s,runes05 s,turnN s i,(i:Int))
noncomputable abbrev tn_I (g:tn_G):List Prop:=[∃ s i,g=tn_mk s i∧i≤(runes05 s).length∧s.size≤KB]
noncomputable abbrev tn_M (g:tn_G):Nat:=g.2.1.length - g.2.2.2.toNat
theorem tn_F (s:BA) (i:Nat) (hi:i≤(runes05 s).length) (hN:s.size≤KB):tn_R s (runes05 s) (turnN s i) (i:Int)=if i<(runes05 s).length then (.normal,tn_mk s (i+1)) else (.exit 0,tn_mk s i):=by
 have hl:=runes05_len s
 unfold KB at hN
 unfold tn_R tn_mk
 by_cases h:i<(runes05 s).length
 ·rw[decide_eq_true (by omega),if_pos h,cond_true,Int.toNat_natCast,wrS (x:=(i:Int)+1) (by omega),show ((i:Int)+1).toNat=i+1 by omega,eU.ag_eq]
  rfl
 ·rw[decide_eq_false (by omega),if_neg h,cond_false,eU.ag_eq]
theorem tn_goes:Goes (fun g:tn_G=>tn_R g.1 g.2.1 g.2.2.1 g.2.2.2) tn_M fun g=>allP (tn_I g):=by
 intro g hi hn
 obtain ⟨s,i,rfl,h2,h3⟩:=hi _ (List.mem_cons_self ..)
 have e:=tn_F s i h2 h3
 change (tn_R s (runes05 s) (turnN s i) (i:Int)).1=.normal at hn
 change allP (tn_I (tn_R s (runes05 s) (turnN s i) (i:Int)).2)∧tn_M (tn_R s (runes05 s) (turnN s i) (i:Int)).2<_
 rw[e] at hn ⊢
 by_cases h:i<(runes05 s).length
 ·rw[if_pos h] at hn ⊢
  refine ⟨fun q hq=>?_,?_⟩
  ·simp only[List.mem_singleton] at hq
   subst hq
   exact ⟨s,i+1,rfl,h,h3⟩
  ·simp only[tn_M,tn_mk];omega
 ·rw[if_neg h] at hn;cases hn
theorem tn_ok:∀ b∈loopsOf Tryd.prog 111,lkey b=4→LoopOk Tryd.prog b (tn_C tn_I tn_M).g:=
 tn_loop tn_I tn_M (fun g hi=>by
  obtain ⟨s,i,rfl,h2,h3⟩:=hi _ (List.mem_cons_self ..)
  have hl:=runes05_len s
  have h3':=h3
  unfold KB at h3'
  show tn_side s (runes05 s) (turnN s i) (i:Int)
  unfold tn_side
  simp only[El.okL_eq,El.ag_eq,true_and,and_true,implies_true]
  intro h
  rw[wrS (x:=(i:Int)+1) (by omega),show ((i:Int)+1).toNat=i+1 by omega,Int.toNat_natCast]
  refine ⟨⟨by omega,by omega⟩,?_⟩
  have h1:=turn_size s (i+1)
  have h2:=posN_le s (i+1)
  unfold turnN at h1
  rw[ByteArray.size_append] at h1
  omega) tn_goes
theorem tn_run (s:BA) (hN:s.size≤KB):∀ (n i:Nat),i≤(runes05 s).length→(runes05 s).length - i≤n→loopF (fun g:tn_G=>tn_R g.1 g.2.1 g.2.2.1 g.2.2.2) tn_M (tn_mk s i)=(.exit 0,tn_mk s (runes05 s).length):=by
 have hI:∀ i,i≤(runes05 s).length→allP (tn_I (tn_mk s i)):=fun i h2 q hq=>by
  simp only[List.mem_singleton] at hq
  subst hq
  exact ⟨s,i,rfl,h2,hN⟩
 intro n
 induction n with
 | zero=>
  intro i h2 h3
  have e:=tn_F s i h2 hN
  rw[if_neg (by omega)] at e
  have hi:i=(runes05 s).length:=by omega
  rw[loopF_end (by show (tn_R s (runes05 s) (turnN s i) (i:Int)).1≠_;rw[e];simp)]
  show tn_R s (runes05 s) (turnN s i) (i:Int)=_
  rw[e,hi]
 | succ n ih=>
  intro i h2 h3
  have e:=tn_F s i h2 hN
  by_cases h:i<(runes05 s).length
  ·rw[if_pos h] at e
   rw[loopF_next tn_goes (hI i h2) (show tn_R s (runes05 s) (turnN s i) (i:Int)=_ from e)]
   exact ih (i+1) h (by omega)
  ·rw[if_neg h] at e
   have hi:i=(runes05 s).length:=by omega
   rw[loopF_end (by show (tn_R s (runes05 s) (turnN s i) (i:Int)).1≠_;rw[e];simp)]
   show tn_R s (runes05 s) (turnN s i) (i:Int)=_
   rw[e,hi]
def turnS (s:BA):BA:=turnN s (runes05 s).length
noncomputable def ltC13:LTab Tryd.prog:=LTab.cons ltC11 111 4 (tn_C tn_I tn_M) tn_ok
end Go.Proofs.YtmegbepjdololaaDoor

namespace Go.Proofs.YtmegbepjdololaaDoor
open Go.RowKit Go.Sx Go.Lp
set_option maxRecDepth 100000
noncomputable def hs_S (c:hs_GC) (b:hs_GB) (i:Int) (v:Rune):Ex×hs_GB:=bif v.r==c.2 then (.ret,true) else (.normal,b)
def hs_K (c:hs_GC) (b:hs_GB) (i:Int):Prop:=True
abbrev hs_I (g:hs_G):List Prop:=ixI (fun c:hs_GC=>(c.1.length:Int)) (fun c:hs_GC=>c.1) hs_K (hs_f g)
abbrev hs_M (g:hs_G):Nat:=ixM (fun c:hs_GC=>(c.1.length:Int)) (hs_f g)
theorem hs_P:ixP hs_S (fun c:hs_GC=>c.1) hs_K:=fun _ _ _ _ h _ _=>h
noncomputable abbrev hs_RR (g:hs_G):Ex×hs_G:=hs_R g.1 g.2.1 g.2.2.1 g.2.2.2
theorem hs_RF (d:Int×hs_GC×hs_GB) (hi:allP (ixI (fun c:hs_GC=>(c.1.length:Int)) (fun c:hs_GC=>c.1) hs_K d)):hs_RR (hs_g d)=((ixF 0 (fun c:hs_GC=>(c.1.length:Int)) (fun c:hs_GC=>c.1) eU.dflt hs_S d).1,hs_g (ixF 0 (fun c:hs_GC=>(c.1.length:Int)) (fun c:hs_GC=>c.1) eU.dflt hs_S d).2):=by
 obtain ⟨i,⟨xs,c⟩,r⟩:=d
 show hs_R xs c i r=_
 unfold hs_R ixF hs_S
 simp only[El.ag_eq]
 cases decide (i<(xs.length:Int)) with
 | false=>rfl
 | true=>
  simp only[cond_true]
  generalize ((xs.getD i.toNat eU.dflt).r==c)=z
  cases z <;> rfl
theorem hs_ok:∀ b∈loopsOf Tryd.prog 112,lkey b=2→LoopOk Tryd.prog b (hs_C hs_I hs_M).g:=by
 refine hs_loop hs_I hs_M (fun g hi=>?_) (ix_conj_goes (fun _=>rfl) (fun _=>rfl) hs_RF hs_P)
 obtain ⟨xs,c,i,r⟩:=g
 obtain ⟨h1,h2,h3,h4,h5⟩:=hi _ (List.mem_cons_self ..)
 have h1:(xs.length:Int)=(xs.length:Int):=h1
 have h3:0≤i:=h3
 have h5:True:=h5
 show hs_side xs c i r
 unfold hs_side
 simp only[decide_eq_true_eq,decide_eq_false_iff_not]
 have k0:∀ e:Nat,e<xs.length→eU.Ok (eU.els xs e):=fun e _=>eU.ok_els xs e
 clear hi
 repeat' (first | exact k0 | apply And.intro | intro _)
 all_goals omega
theorem hs_run (c:hs_GC) (b:hs_GB) (k1:(c.1.length:Int)=((c.1).length:Int)) (k2:(c.1).length≤maxLen) (k3:hs_K c b 0):loopF hs_RR hs_M (hs_g (0,c,b))=((scan 0 (hs_S c) 0 (c.1) b).1,hs_g ((scan 0 (hs_S c) 0 (c.1) b).2.1,c,(scan 0 (hs_S c) 0 (c.1) b).2.2)):=ix_conj_run (φ:=hs_f) (ψ:=hs_g) (fun _=>rfl) (fun _=>rfl) hs_RF hs_P c b k1 k2 k3
noncomputable def ltC14:LTab Tryd.prog:=(ltC13.cons 112 2 (hs_C hs_I hs_M) hs_ok)
noncomputable abbrev lamC14:Lam:=ltC14.lam
theorem lamC14_ok:∀ f k L,lamC14 f k=some L→∀ b∈loopsOf Tryd.prog f,lkey b=k→LoopOk Tryd.prog b L.g:=ltC14.ok
end Go.Proofs.YtmegbepjdololaaDoor

namespace Go.Proofs.YtmegbepjdololaaDoor
open Go.RowKit Go.Sx
set_option maxRecDepth 100000
set_option linter.unusedVariables false
noncomputable def trn_q1 (s:BA):Ex ×
 tn_G:=
 loopF (fun g=>tn_R g.fst g.snd.fst g.snd.snd.fst g.snd.snd.snd) tn_M (s,eU.ag (runes05 s),ByteArray.mk #[],(0:Int))
noncomputable def trn_F (s:BA):Dv.T dStr:=
 (trn_q1 s).snd.snd.snd.fst
def trn_side (s:BA):Prop:=
 ByteArray.size s≤KB∧eU.okL (runes05 s)∧∃ s_1 i,(s,eU.ag (runes05 s),ByteArray.mk #[],(0:Int))=tn_mk s_1 i∧i≤(runes05 s_1).length∧ByteArray.size s_1≤KB
theorem trn_okS (pre:DA.T aB→List Prop) (h:∀ g,DA.bd aB g→(∀ p∈pre g,p)→trn_side g):FnPure Tryd.prog 111 aB dStr (fun g=>trn_F g) pre:=pure_of_sideS (Γ:=(PTab.gamz tabC11 [] [])) (Λ:=lamC14) (PTab.okz tabC11 [] []) lamC14_ok 100 default (fun g=>trn_side g) (fun g=>by kernel_rfl) (fun g=>by kernel_rfl) h
noncomputable def has_q1 (l:List Rune) (c:Int):Ex ×
 hs_G:=
 loopF (fun g=>hs_R g.fst g.snd.fst g.snd.snd.fst g.snd.snd.snd) hs_M (eU.ag l,c,(0:Int),false)
noncomputable def has_F (l:List Rune) (c:Int):Dv.T dBool:=
 bif exB Ex.ret (has_q1 l c).fst then (has_q1 l c).snd.snd.snd.snd else false
def has_side (l:List Rune) (c:Int):Prop:=
 eU.okL l∧Lp.ixJ (fun c=>(↑c.fst.length:Int)) (fun c=>c.fst) hs_K (hs_f (eU.ag l,c,(0:Int),false))
theorem has_okS (pre:DA.T aL3c→List Prop) (h:∀ g,DA.bd aL3c g→(∀ p∈pre g,p)→has_side g.1 g.2):FnPure Tryd.prog 112 aL3c dBool (fun g=>has_F g.1 g.2) pre:=pure_of_sideS (Γ:=(PTab.gamz tabC11 [] [])) (Λ:=lamC14) (PTab.okz tabC11 [] []) lamC14_ok 100 default (fun g=>has_side g.1 g.2) (fun g=>by kernel_rfl) (fun g=>by kernel_rfl) h
noncomputable def lgr_F (a:BA) (b:BA):Dv.T dBool:=
 decide ((↑(runes05 a).length:Int) > (↑(runes05 b).length:Int))
def lgr_side (a:BA) (b:BA):Prop:=
 ByteArray.size a≤KB∧ByteArray.size b≤KB
theorem lgr_okS (pre:DA.T aBB→List Prop) (h:∀ g,DA.bd aBB g→(∀ p∈pre g,p)→lgr_side g.1 g.2):FnPure Tryd.prog 106 aBB dBool (fun g=>lgr_F g.1 g.2) pre:=pure_of_sideS (Γ:=(PTab.gamz tabC11 [] [])) (Λ:=lamC14) (PTab.okz tabC11 [] []) lamC14_ok 100 default (fun g=>lgr_side g.1 g.2) (fun g=>by kernel_rfl) (fun g=>by kernel_rfl) h
end Go.Proofs.YtmegbepjdololaaDoor

namespace Go.Sx
def PTab.del [Env] {P:Program} (t:PTab P) (f:Nat):PTab P:=⟨t.1.filter fun x=>!Nat.beq x.1 f,fun x hx=>t.2 x ((List.mem_filter.1 hx).1)⟩
end Go.Sx
namespace Go.Proofs.YtmegbepjdololaaDoor
open Go.RowKit Go.Sx Go.Lp
theorem trn_ok:FnPure Tryd.prog 111 aB dStr turnS (fun s=>[s.size≤KB]):=
 pure_congr (trn_okS _ fun s _ hp=>by
  have h:s.size≤KB:=hp _ (List.mem_cons_self ..)
  refine ⟨h,?_,s,0,?_,Nat.zero_le _,h⟩
  ·rw[eU.okL_eq];trivial
  ·rw[eU.ag_eq];rfl) fun s _ hp=>by
  have h:s.size≤KB:=hp _ (List.mem_cons_self ..)
  have hq:trn_q1 s=(.exit 0,tn_mk s (runes05 s).length):=by
   unfold trn_q1
   rw[eU.ag_eq]
   exact tn_run s h _ 0 (Nat.zero_le _) (Nat.sub_le _ _)
  show (trn_q1 s).2.2.2.1=_
  rw[hq];rfl
def hasR (l:List Rune) (c:Int):Bool:=l.any fun v=>v.r==c
theorem has_ok:FnPure Tryd.prog 112 aL3c dBool (fun g=>hasR g.1 g.2) (fun g=>[g.1.length≤KB]):=
 pure_congr (has_okS _ fun g _ hp=>by
  obtain ⟨l,c⟩:=g
  have h:l.length≤KB:=hp _ (List.mem_cons_self ..)
  unfold KB at h
  show has_side l c
  unfold has_side
  rw[eU.okL_eq,eU.ag_eq]
  exact ⟨trivial,rfl,by show l.length≤maxLen;unfold maxLen;omega,Int.le_refl _,by show (0:Int)≤(l.length:Int);omega,trivial⟩) fun g _ hp=>by
  obtain ⟨l,c⟩:=g
  have h:l.length≤KB:=hp _ (List.mem_cons_self ..)
  unfold KB at h
  have hrun:=hs_run (l,c) false rfl (by show l.length≤maxLen;unfold maxLen;omega) trivial
  have hq:has_q1 l c=loopF hs_RR hs_M (hs_g (0,(l,c),false)):=by
   unfold has_q1
   rw[eU.ag_eq]
   rfl
  show has_F l c=hasR l c
  unfold has_F hasR
  rw[hq,hrun]
  rcases search (x:=0) (st:=hs_S (l,c)) (p:=fun v=>v.r==c) (r:=fun _ _ _=>true) (fun b i a=>rfl) l false with ⟨h1,j,_,a,_,_,hs⟩ | ⟨h1,hs⟩
  ·rw[h1,hs];rfl
  ·rw[h1,hs];rfl
def longS (a b:BA):Bool:=decide ((runes05 a).length > (runes05 b).length)
theorem lgr_ok:FnPure Tryd.prog 106 aBB dBool (fun g=>longS g.1 g.2) (fun g=>[g.1.size≤KB,g.2.size≤KB]):=
 pure_congr (lgr_okS _ fun g _ hp=>⟨hp _ (List.mem_cons_self ..),hp _ (List.mem_cons_of_mem _ (List.mem_cons_self ..))⟩) fun g _ _=>by
  obtain ⟨a,b⟩:=g
  show decide (((runes05 a).length:Int) > ((runes05 b).length:Int))=decide ((runes05 a).length > (runes05 b).length)
  rw[Bool.eq_iff_iff]
  simp only[decide_eq_true_eq]
  omega
noncomputable def tabC16:PTab Tryd.prog:=((tabC11.cons 111 (pconP aB dStr turnS (fun s=>[s.size≤KB])) (conP_ok trn_ok puS)).cons 112 (pconP aL3c dBool (fun g=>hasR g.1 g.2) (fun g=>[g.1.length≤KB])) (conP_ok has_ok puB)).cons 106 (pconP aBB dBool (fun g=>longS g.1 g.2) (fun g=>[g.1.size≤KB,g.2.size≤KB])) (conP_ok lgr_ok puB)
noncomputable def tabC16m:MTab Tryd.prog:=((MTab.of (tabC16.del 93)).consM 93 (bconRow 21 e3 aB runes06 (fun s=>[s.size≤KB])) (conRow_ok frw_ok)).consM 95 (bconM 21 e3 DA.none rUn (fun xs _=>(xs.reverse,())) (fun xs _=>[xs.length≤KB])) (conM_ok rev_ok)
end Go.Proofs.YtmegbepjdololaaDoor

namespace Go.Proofs.YtmegbepjdololaaDoor
open Go.RowKit Go.Sx
set_option maxRecDepth 100000
set_option linter.unusedVariables false
noncomputable def map_F (f:Fn) (r:Rec):Dv.T dRE:=
 bif bothF (2:Int) f r != (0:Int) then (Rec.mk (0:Int) (ByteArray.mk #[]),bothF (2:Int) f r)
 else (Rec.mk (bif f.kind==(2:Int) then r.key else bif f.kind==(3:Int) then r.key else bif f.kind==(4:Int) then r.key else bif f.kind==(5:Int) then r.key else bif f.kind==(6:Int) then restF r.key f.a else bif f.kind==(7:Int) then (↑(runes06 r.text).length:Int) else bif f.kind==(8:Int) then bif decide ((↑(runes06 r.text).length:Int) > (0:Int)) then IntKind.i64.wrap ((runes06 r.text).getD (0:Nat) e3.dflt) else (0:Int) else r.key) (bif f.kind==(2:Int) then upS r.text else bif f.kind==(3:Int) then runesBytes (intsOf IntKind.i32 (List.foldl (fun a x=>bif false then if x.snd.snd > a then x.snd.snd else a else if x.snd.snd<a then x.snd.snd else a) (↑(runes06 r.text).length:Int) [(false,IntKind.i64,f.a)]).toNat (e3.els (runes06 r.text))) else bif f.kind==(4:Int) then runesBytes (intsOf IntKind.i32 (runes06 r.text).length (e3.els (e3.ag (runes06 r.text)).reverse)) else bif f.kind==(5:Int) then cutS (r.text++f.s) (64:Int) else r.text),(0:Int))
def map_side (f:Fn) (r:Rec):Prop:=
 ByteArray.size f.s≤KB∧((bothF (2:Int) f r != (0:Int))=false→ByteArray.size r.text≤KB∧((f.kind==(2:Int))=true→ByteArray.size r.text≤KB)∧((!f.kind==(2:Int))=true→(f.kind==(3:Int))=true→(0:Int)≤List.foldl (fun a x=>bif false then if x.snd.snd > a then x.snd.snd else a else if x.snd.snd<a then x.snd.snd else a) (↑(runes06 r.text).length:Int) [(false,IntKind.i64,f.a)]∧List.foldl (fun a x=>bif false then if x.snd.snd > a then x.snd.snd else a else if x.snd.snd<a then x.snd.snd else a) (↑(runes06 r.text).length:Int) [(false,IntKind.i64,f.a)]≤(↑(runes06 r.text).length:Int))∧((!f.kind==(2:Int))=true→(f.kind==(3:Int))=true→(List.foldl (fun a x=>bif false then if x.snd.snd > a then x.snd.snd else a else if x.snd.snd<a then x.snd.snd else a) (↑(runes06 r.text).length:Int) [(false,IntKind.i64,f.a)]).toNat≤(runes06 r.text).length∧∀ (e:Nat),e<(List.foldl (fun a x=>bif false then if x.snd.snd > a then x.snd.snd else a else if x.snd.snd<a then x.snd.snd else a) (↑(runes06 r.text).length:Int) [(false,IntKind.i64,f.a)]).toNat→((ElE.fn (e3.els (runes06 r.text))).at e).all SV.one=true)∧((!f.kind==(2:Int))=true→(f.kind==(3:Int))=true→∀ (e:Nat),e<(List.foldl (fun a x=>bif false then if x.snd.snd > a then x.snd.snd else a else if x.snd.snd<a then x.snd.snd else a) (↑(runes06 r.text).length:Int) [(false,IntKind.i64,f.a)]).toNat→(Sx.intOf IntKind.i32 ((ElE.fn (e3.els (runes06 r.text))).at e)).isSome=true)∧((!f.kind==(2:Int))=true→(!f.kind==(3:Int))=true→(f.kind==(4:Int))=true→(runes06 r.text).length=(runes06 r.text).length)∧((!f.kind==(2:Int))=true→(!f.kind==(3:Int))=true→(f.kind==(4:Int))=true→∀ (e:Nat),e<(runes06 r.text).length→True)∧((!f.kind==(2:Int))=true→(!f.kind==(3:Int))=true→(f.kind==(4:Int))=true→(e3.ag (runes06 r.text)).length≤KB)∧((!f.kind==(2:Int))=true→(!f.kind==(3:Int))=true→(f.kind==(4:Int))=true→(runes06 r.text).length≤(e3.ag (runes06 r.text)).reverse.length∧∀ (e:Nat),e<(runes06 r.text).length→((ElE.fn (e3.els (e3.ag (runes06 r.text)).reverse)).at e).all SV.one=true)∧((!f.kind==(2:Int))=true→(!f.kind==(3:Int))=true→(f.kind==(4:Int))=true→∀ (e:Nat),e<(runes06 r.text).length→(Sx.intOf IntKind.i32 ((ElE.fn (e3.els (e3.ag (runes06 r.text)).reverse)).at e)).isSome=true)∧((!f.kind==(2:Int))=true→(!f.kind==(3:Int))=true→(!f.kind==(4:Int))=true→(f.kind==(5:Int))=true→ByteArray.size r.text+ByteArray.size f.s≤(9223372036854775807:Nat))∧((!f.kind==(2:Int))=true→(!f.kind==(3:Int))=true→(!f.kind==(4:Int))=true→(!f.kind==(5:Int))=true→(f.kind==(6:Int))=true→(0:Int)<f.a∧f.a<(1000000000:Int))∧((!f.kind==(2:Int))=true→(!f.kind==(3:Int))=true→(!f.kind==(4:Int))=true→(!f.kind==(5:Int))=true→(!f.kind==(6:Int))=true→(!f.kind==(7:Int))=true→(f.kind==(8:Int))=true→decide ((↑(runes06 r.text).length:Int) > (0:Int))=true→(0:Int)≤(0:Int)∧(0:Int)<(↑(runes06 r.text).length:Int))∧((!f.kind==(2:Int))=true→(!f.kind==(3:Int))=true→(!f.kind==(4:Int))=true→(!f.kind==(5:Int))=true→(!f.kind==(6:Int))=true→(!f.kind==(7:Int))=true→(f.kind==(8:Int))=true→decide ((↑(runes06 r.text).length:Int) > (0:Int))=true→(0:Nat)<(runes06 r.text).length))
theorem map_okS (pre:DA.T aFR→List Prop) (h:∀ g,DA.bd aFR g→(∀ p∈pre g,p)→map_side g.1 g.2):FnPure Tryd.prog 51 aFR dRE (fun g=>map_F g.1 g.2) pre:=pure_of_sideS (Γ:=(MTab.gamz tabC16m [] [])) (Λ:=noΛ) (MTab.okz tabC16m [] []) noΛ_ok 100 default (fun g=>map_side g.1 g.2) (fun g=>by kernel_rfl) (fun g=>by kernel_rfl) h
noncomputable def rmp_F (f:Fn) (r:Rec):Dv.T dRE:=
 bif bothF (2:Int) f r != (0:Int) then (Rec.mk (0:Int) (ByteArray.mk #[]),bothF (2:Int) f r)
 else (Rec.mk (bif f.kind==(2:Int) then r.key else bif f.kind==(3:Int) then r.key else bif f.kind==(4:Int) then r.key else bif f.kind==(5:Int) then r.key else bif f.kind==(6:Int) then (IntKind.i64.wrap (r.key.tmod f.a+f.a)).tmod f.a else bif f.kind==(7:Int) then (↑(runes05 r.text).length:Int) else bif f.kind==(8:Int) then bif decide ((↑(runes05 r.text).length:Int) > (0:Int)) then IntKind.i64.wrap ((runes05 r.text).getD (0:Nat) eU.dflt).r else (0:Int) else r.key) (bif f.kind==(2:Int) then upS r.text else bif f.kind==(3:Int) then partS r.text (0:Nat) f.a.toNat else bif f.kind==(4:Int) then turnS r.text else bif f.kind==(5:Int) then cutS (r.text++f.s) (64:Int) else r.text),(0:Int))
def rmp_side (f:Fn) (r:Rec):Prop:=
 ByteArray.size f.s≤KB∧((bothF (2:Int) f r != (0:Int))=false→ByteArray.size r.text≤KB∧((f.kind==(2:Int))=true→ByteArray.size r.text≤KB)∧((!f.kind==(2:Int))=true→(f.kind==(3:Int))=true→eU.okL (runes05 r.text))∧((!f.kind==(2:Int))=true→(f.kind==(3:Int))=true→eU.ag (runes05 r.text)=runes05 r.text)∧((!f.kind==(2:Int))=true→(f.kind==(3:Int))=true→(0:Int)≤(0:Int)∧(0:Int)≤f.a)∧((!f.kind==(2:Int))=true→(!f.kind==(3:Int))=true→(f.kind==(4:Int))=true→ByteArray.size r.text≤KB)∧((!f.kind==(2:Int))=true→(!f.kind==(3:Int))=true→(!f.kind==(4:Int))=true→(f.kind==(5:Int))=true→ByteArray.size r.text+ByteArray.size f.s≤(9223372036854775807:Nat))∧((!f.kind==(2:Int))=true→(!f.kind==(3:Int))=true→(!f.kind==(4:Int))=true→(f.kind==(5:Int))=true→(r.text++f.s).size≤KB)∧((!f.kind==(2:Int))=true→(!f.kind==(3:Int))=true→(!f.kind==(4:Int))=true→(!f.kind==(5:Int))=true→(f.kind==(6:Int))=true→f.a≠(0:Int))∧((!f.kind==(2:Int))=true→(!f.kind==(3:Int))=true→(!f.kind==(4:Int))=true→(!f.kind==(5:Int))=true→(f.kind==(6:Int))=true→f.a≠(0:Int))∧((!f.kind==(2:Int))=true→(!f.kind==(3:Int))=true→(!f.kind==(4:Int))=true→(!f.kind==(5:Int))=true→(!f.kind==(6:Int))=true→(!f.kind==(7:Int))=true→(f.kind==(8:Int))=true→decide ((↑(runes05 r.text).length:Int) > (0:Int))=true→(0:Int)≤(0:Int)∧(0:Int)<(↑(runes05 r.text).length:Int)))
theorem rmp_okS (pre:DA.T aFR→List Prop) (h:∀ g,DA.bd aFR g→(∀ p∈pre g,p)→rmp_side g.1 g.2):FnPure Tryd.prog 64 aFR dRE (fun g=>rmp_F g.1 g.2) pre:=pure_of_sideS (Γ:=(MTab.gamz tabC16m [] [])) (Λ:=noΛ) (MTab.okz tabC16m [] []) noΛ_ok 100 default (fun g=>rmp_side g.1 g.2) (fun g=>by kernel_rfl) (fun g=>by kernel_rfl) h
end Go.Proofs.YtmegbepjdololaaDoor

namespace Go.Proofs.YtmegbepjdololaaDoor
open Go.RowKit Go.Sx
set_option maxRecDepth 100000
set_option linter.unusedVariables false
abbrev dBE:Dv (Bool×Int):=.tup (.cons dBool (.one dI))
noncomputable def flt_F (f:Fn) (r:Rec):Dv.T dBE:=
 bif bothF (3:Int) f r != (0:Int) then (false,bothF (3:Int) f r)
 else bif f.kind==(11:Int) then (r.key.tmod f.a==(0:Int),(0:Int)) else bif f.kind==(12:Int) then (Lib.contains r.text.data.toList f.s.data.toList,(0:Int)) else (decide ((↑(runes06 r.text).length:Int)≥f.a),(0:Int))
def flt_side (f:Fn) (r:Rec):Prop:=
 ByteArray.size f.s≤KB∧((bothF (3:Int) f r != (0:Int))=false→((f.kind==(11:Int))=true→f.a≠(0:Int))∧((f.kind==(11:Int))=false→((f.kind==(12:Int))=true→ByteArray.size r.text≤KS)∧((f.kind==(12:Int))=false→ByteArray.size r.text≤KB)))
theorem flt_okS (pre:DA.T aFR→List Prop) (h:∀ g,DA.bd aFR g→(∀ p∈pre g,p)→flt_side g.1 g.2):FnPure Tryd.prog 65 aFR dBE (fun g=>flt_F g.1 g.2) pre:=pure_of_sideS (Γ:=(PTab.gamz tabC16 [] [])) (Λ:=noΛ) (PTab.okz tabC16 [] []) noΛ_ok 100 default (fun g=>flt_side g.1 g.2) (fun g=>by kernel_rfl) (fun g=>by kernel_rfl) h
noncomputable def rfl_F (f:Fn) (r:Rec):Dv.T dBE:=
 bif bothF (3:Int) f r != (0:Int) then (false,bothF (3:Int) f r)
 else bif f.kind==(11:Int) then (r.key.tmod f.a==(0:Int),(0:Int)) else bif f.kind==(12:Int) then (hasR (eU.ag (runes05 r.text)) ((runes05 f.s).getD (0:Nat) eU.dflt).r,(0:Int)) else (decide ((↑(runes05 r.text).length:Int)≥f.a),(0:Int))
def rfl_side (f:Fn) (r:Rec):Prop:=
 ByteArray.size f.s≤KB∧((bothF (3:Int) f r != (0:Int))=false→ByteArray.size r.text≤KB∧((f.kind==(11:Int))=true→f.a≠(0:Int))∧((f.kind==(11:Int))=false→(f.kind==(12:Int))=true→ByteArray.size f.s≤KB∧((0:Int)≤(0:Int)∧(0:Int)<(↑(runes05 f.s).length:Int))∧eU.okL (runes05 r.text)∧(eU.ag (runes05 r.text)).length≤KB))
theorem rfl_okS (pre:DA.T aFR→List Prop) (h:∀ g,DA.bd aFR g→(∀ p∈pre g,p)→rfl_side g.1 g.2):FnPure Tryd.prog 66 aFR dBE (fun g=>rfl_F g.1 g.2) pre:=pure_of_sideS (Γ:=(PTab.gamz tabC16 [] [])) (Λ:=noΛ) (PTab.okz tabC16 [] []) noΛ_ok 100 default (fun g=>rfl_side g.1 g.2) (fun g=>by kernel_rfl) (fun g=>by kernel_rfl) h
noncomputable def mea_F (f:Fn) (r:Rec):Dv.T dII:=
 bif bothF (11:Int) f r != (0:Int) then ((0:Int),bothF (11:Int) f r)
 else bif f.kind==(41:Int) then ((1:Int),(0:Int)) else ((↑(runes06 r.text).length:Int),(0:Int))
def mea_side (f:Fn) (r:Rec):Prop:=
 ByteArray.size f.s≤KB∧((bothF (11:Int) f r != (0:Int))=false→(f.kind==(41:Int))=false→ByteArray.size r.text≤KB)
theorem mea_okS (pre:DA.T aFR→List Prop) (h:∀ g,DA.bd aFR g→(∀ p∈pre g,p)→mea_side g.1 g.2):FnPure Tryd.prog 68 aFR dII (fun g=>mea_F g.1 g.2) pre:=pure_of_sideS (Γ:=(PTab.gamz tabC16 [] [])) (Λ:=noΛ) (PTab.okz tabC16 [] []) noΛ_ok 100 default (fun g=>mea_side g.1 g.2) (fun g=>by kernel_rfl) (fun g=>by kernel_rfl) h
noncomputable def rme_F (f:Fn) (r:Rec):Dv.T dII:=
 bif bothF (11:Int) f r != (0:Int) then ((0:Int),bothF (11:Int) f r)
 else bif f.kind==(41:Int) then ((1:Int),(0:Int)) else ((↑(runes05 r.text).length:Int),(0:Int))
def rme_side (f:Fn) (r:Rec):Prop:=
 ByteArray.size f.s≤KB∧((bothF (11:Int) f r != (0:Int))=false→(f.kind==(41:Int))=false→ByteArray.size r.text≤KB)
theorem rme_okS (pre:DA.T aFR→List Prop) (h:∀ g,DA.bd aFR g→(∀ p∈pre g,p)→rme_side g.1 g.2):FnPure Tryd.prog 69 aFR dII (fun g=>rme_F g.1 g.2) pre:=pure_of_sideS (Γ:=(PTab.gamz tabC16 [] [])) (Λ:=noΛ) (PTab.okz tabC16 [] []) noΛ_ok 100 default (fun g=>rme_side g.1 g.2) (fun g=>by kernel_rfl) (fun g=>by kernel_rfl) h
end Go.Proofs.YtmegbepjdololaaDoor

namespace Go.Proofs.YtmegbepjdololaaDoor
open Go.RowKit Go.Sx Go.Lp
theorem toL_inj {a b:BA} (h:toL a=toL b):a=b:=by
 rw[← ofToL a,← ofToL b]
 show (⟨(toL a).toArray⟩:ByteArray)=⟨(toL b).toArray⟩
 rw[h]
theorem toL_app (a b:BA):toL (a++b)=toL a++toL b:=by
 show (a++b).data.toList=_
 rw[ByteArray.data_append,Array.toList_append]
theorem toL_ext (s:BA) (a b:Nat):toL (s.extract a b)=((toL s).take b).drop a:=by
 show (s.extract a b).data.toList=_
 rw[ByteArray.data_extract,Array.toList_extract,List.extract_eq_drop_take]
 rw[List.drop_take]
theorem rb_fold (E:Int→BA) (cs:List Nat):∀ a:BA,toL ((cs.map fun (c:Nat)=>(c:Int)).foldl (fun r n=>r++E n) a)=toL a++cs.flatMap fun (c:Nat)=>toL (E (c:Int)):=by
 induction cs with
 | nil=>intro a;simp
 | cons c cs ih=>
  intro a
  rw[List.map_cons,List.foldl_cons,ih,toL_app,List.flatMap_cons,List.append_assoc]
theorem encL_eq (c:Nat):encL c=(Utf8.encode (c:Int)).data.toList:=by rw[encL]
theorem rb_key (E:Int→BA) (L:Nat→List UInt8) (h:∀ c:Nat,L c=(E (c:Int)).data.toList) (cs:List Nat):toL ((cs.map fun (c:Nat)=>(c:Int)).foldl (fun r n=>r++E n) ByteArray.empty)=cs.flatMap L:=by
 rw[rb_fold]
 show []++_=_
 rw[List.nil_append]
 have e:(fun (c:Nat)=>toL (E (c:Int)))=L:=by
  funext c
  exact (h c).symm
 rw[e]
theorem rb_toL (cs:List Nat):toL (runesBytes (cs.map fun (c:Nat)=>(c:Int)))=encs cs:=by
 rw[runesBytes,encs]
 exact rb_key Utf8.encode encL encL_eq cs
theorem runes06_cs (s:BA):runes06 s=(rns (toL s)).map fun (c:Nat)=>(c:Int):=by
 unfold runes06 rns
 rw[List.map_map]
 rfl
theorem r06_len (s:BA):(runes06 s).length=(rns (toL s)).length:=by rw[runes06_cs,List.length_map]
theorem valid_cs {s:BA} (h:validS s=true):toL s=encs (rns (toL s)):=(valid_rns _ h).symm
theorem encs_len (cs:List Nat) (h:∀ c∈cs,sc c):(encs cs).length=wsum (cs.map rwd):=by
 rw[← rsL_encs0 h,wsum_rsL]
theorem posN_v {s:BA} (h:validS s=true) (i:Nat):posN s i=(encs ((rns (toL s)).take i)).length:=by
 have hs:=rns_sc (toL s)
 unfold posN
 have e:rsL (toL s)=(rns (toL s)).map rwd:=by
  have:=rsL_encs0 hs
  rw[← valid_cs h] at this
  exact this
 rw[e,← List.map_take,encs_len _ fun c hc=>hs c (List.mem_of_mem_take hc)]
theorem encs_take_len (cs:List Nat) (i:Nat):(encs cs).take (encs (cs.take i)).length=encs (cs.take i):=by
 have h:encs cs=encs (cs.take i)++encs (cs.drop i):=by rw[← encs_append,List.take_append_drop]
 rw[h,List.take_left]
theorem part_v {s:BA} (h:validS s=true) (a b:Nat) (hab:a≤b):toL (partS s a b)=encs (((rns (toL s)).take b).drop a):=by
 unfold partS
 rw[toL_ext,posN_v h,posN_v h]
 generalize hcs:rns (toL s)=cs
 have e:toL s=encs cs:=by rw[← hcs];exact valid_cs h
 rw[e,encs_take_len]
 have e2:encs (cs.take b)=encs (cs.take a)++encs ((cs.take b).drop a):=by
  rw[← encs_append]
  congr 1
  have:=List.take_append_drop a (cs.take b)
  rw[List.take_take,Nat.min_eq_left hab] at this
  exact this.symm
 rw[e2,List.drop_left]
theorem turn_v {s:BA} (h:validS s=true):∀ n,toL (turnN s n)=encs ((rns (toL s)).take n).reverse
 | 0=>rfl
 | n+1=>by
  show toL (partS s n (n+1)++turnN s n)=_
  rw[toL_app,turn_v h n,part_v h n (n+1) (Nat.le_succ n),← encs_append]
  congr 1
  generalize rns (toL s)=cs
  by_cases hn:n<cs.length
  ·rw[List.take_succ_eq_append_getElem hn,List.reverse_append,List.drop_left' (by rw[List.length_take];omega)]
   rfl
  ·rw[List.take_of_length_le (by omega),List.drop_eq_nil_of_le (by omega),List.take_of_length_le (by omega),List.nil_append]
theorem turnS_v {s:BA} (h:validS s=true):toL (turnS s)=encs (rns (toL s)).reverse:=by
 unfold turnS
 rw[turn_v h,runes_len,r06_len,List.take_of_length_le (Nat.le_refl _)]
theorem ints_take (q:IntKind) (xs:List Int) (n:Nat) (hn:n≤xs.length):intsOf q n ((eInt q).els xs)=xs.take n:=by
 unfold intsOf
 refine List.ext_getElem (by simp;omega) fun i h1 h2=>?_
 simp only[List.getElem_map,List.getElem_range,List.getElem_take]
 have hi:i<xs.length:=by rw[List.length_take] at h2;omega
 have:(eInt q).els xs i=[.v (.int q xs[i])]:=by
  simp[El.els,eInt,El.one',dInt,List.getD_eq_getElem?_getD,hi]
 rw[this]
 simp[intAt,Sx.intOf,SV.int?]
theorem min_fold (n a:Int):List.foldl (fun a (x:Bool×IntKind×Int)=>bif false then if x.2.2 > a then x.2.2 else a else if x.2.2<a then x.2.2 else a) n [(false,IntKind.i64,a)]=if a<n then a else n:=rfl
theorem rest_eq (n a:Int) (h:0<a∧a<1000000000):(IntKind.i64.wrap (n.tmod a+a)).tmod a=restF n a:=by
 have h1:n.tmod a<a:=Int.tmod_lt_of_pos n h.1
 have h2:-a<n.tmod a:=by
  have:=Int.lt_tmod_of_pos n h.1
  omega
 unfold restF
 rw[wrS (by omega)]
 by_cases hn:n.tmod a<0
 ·rw[decide_eq_true hn,cond_true,Int.tmod_eq_of_lt (by omega) (by omega)]
 ·rw[decide_eq_false hn,cond_false,Int.tmod_eq_emod_of_nonneg (by omega),Int.add_emod_right,Int.emod_eq_of_lt (by omega) (by omega)]
theorem r05_r0 (s:BA) (h:0<(runes06 s).length):((runes05 s).getD 0 eU.dflt).r=(runes06 s).getD 0 e3.dflt:=by
 have h5:0<(runes05 s).length:=by rw[runes_len];exact h
 rw[r05_at s 0 h5]
 unfold runes06
 rw[List.getD_eq_getElem?_getD,List.getElem?_map,List.getElem?_eq_getElem (by rw[← r05_len];exact h5)]
 rfl
def mapK (f:Fn) (r:Rec):Int:=bif f.kind==(6:Int) then restF r.key f.a else bif f.kind==(7:Int) then ((runes06 r.text).length:Int) else bif f.kind==(8:Int) then (bif decide (0<(runes06 r.text).length) then IntKind.i64.wrap ((runes06 r.text).getD 0 e3.dflt) else 0) else r.key
def mapT (f:Fn) (t:BA):BA:=bif f.kind==(2:Int) then upS t else bif f.kind==(3:Int) then partS t 0 f.a.toNat else bif f.kind==(4:Int) then turnS t else bif f.kind==(5:Int) then cutS (t++f.s) 64 else t
def noRec:Rec:=⟨0,ByteArray.mk #[]⟩
noncomputable def mapF (f:Fn) (r:Rec):Rec×Int:=bif bothF 2 f r != (0:Int) then (noRec,bothF 2 f r) else (⟨mapK f r,mapT f r.text⟩,0)
theorem both_zero {k:Int} {f:Fn} {r:Rec} (h:(bothF k f r != (0:Int))=false):chkF k f=0∧chkR r=0:=by
 have h:bothF k f r=0:=by simpa using h
 unfold bothF at h
 cases hc:chkF k f != (0:Int) with
 | true=>rw[hc,cond_true] at h;rw[h] at hc;cases hc
 | false=>
  rw[hc,cond_false] at h
  exact ⟨by simpa using hc,h⟩
theorem chkF_zero {k:Int} {f:Fn} (h:chkF k f=0):((uses_F k).2<0∧f=noFn)∨(0≤(uses_F k).2∧(uses_F k).1≤f.kind∧f.kind≤(uses_F k).2∧num_F f=true∧textF f=true):=by
 unfold chkF at h
 by_cases hn:(uses_F k).2<0
 ·rw[decide_eq_true hn,cond_true] at h
  by_cases hf:f=noFn
  ·exact .inl ⟨hn,hf⟩
  ·rw[decide_eq_false hf] at h;cases h
 ·rw[decide_eq_false hn,cond_false] at h
  cases hb:(decide ((uses_F k).1≤f.kind)&&decide (f.kind≤(uses_F k).2))&&(num_F f&&textF f) with
  | true=>
   simp only[Bool.and_eq_true,decide_eq_true_eq] at hb
   exact .inr ⟨by omega,hb.1.1,hb.1.2,hb.2.1,hb.2.2⟩
  | false=>rw[hb] at h;cases h
theorem num_cut {f:Fn} (h:num_F f=true) (hk:f.kind=3∨f.kind=13):0≤f.a∧f.a≤64:=by
 unfold num_F at h
 rcases hk with hk | hk <;> (rw[hk] at h;simpa using h)
theorem num_mod {f:Fn} (h:num_F f=true) (hk:f.kind=6∨f.kind=11):1≤f.a∧f.a≤1048576:=by
 unfold num_F at h
 rcases hk with hk | hk <;> (rw[hk] at h;simpa using h)
theorem chk2 {f:Fn} (h:chkF 2 f=0):1≤f.kind∧f.kind≤8∧num_F f=true∧textF f=true:=by
 rcases chkF_zero h with ⟨h1,_⟩ | ⟨_,h2,h3,h4,h5⟩
 ·exact absurd h1 (by decide)
 ·exact ⟨h2,h3,h4,h5⟩
theorem cut_text {f:Fn} {t:BA} (ht:validS t=true) (ha:0≤f.a):runesBytes (intsOf IntKind.i32 (List.foldl (fun a (x:Bool×IntKind×Int)=>bif false then if x.2.2 > a then x.2.2 else a else if x.2.2<a then x.2.2 else a) ((runes06 t).length:Int) [(false,IntKind.i64,f.a)]).toNat (e3.els (runes06 t)))=partS t 0 f.a.toNat:=by
 rw[min_fold]
 refine toL_inj ?_
 rw[part_v ht 0 _ (Nat.zero_le _),List.drop_zero]
 have hm:(if f.a<((runes06 t).length:Int) then f.a else ((runes06 t).length:Int)).toNat=min f.a.toNat (runes06 t).length:=by
  split <;> omega
 rw[hm,ints_take _ _ _ (Nat.min_le_right _ _),runes06_cs,← List.map_take,rb_toL,List.length_map]
 congr 1
 exact (List.take_eq_take_min).symm
theorem turn_text {t:BA} (ht:validS t=true):runesBytes (intsOf IntKind.i32 (runes06 t).length (e3.els (runes06 t).reverse))=turnS t:=by
 refine toL_inj ?_
 have:=ints_els .i32 (runes06 t).reverse
 rw[List.length_reverse] at this
 show toL (runesBytes (intsOf IntKind.i32 (runes06 t).length ((eInt .i32).els (runes06 t).reverse)))=_
 rw[this,turnS_v ht,runes06_cs,← List.map_reverse,rb_toL]
theorem map_eq (f:Fn) (r:Rec):map_F f r=mapF f r:=by
 unfold map_F mapF
 cases hb:bothF 2 f r != (0:Int) with
 | true=>rfl
 | false=>
  obtain ⟨h1,h2⟩:=both_zero hb
  obtain ⟨k1,k2,k3,k4⟩:=chk2 h1
  have hv:=((chkR_iff r).1 h2).2
  rw[cond_false,cond_false,e3.ag_eq]
  unfold mapK mapT
  have hc:f.kind=1∨f.kind=2∨f.kind=3∨f.kind=4∨f.kind=5∨f.kind=6∨f.kind=7∨f.kind=8:=by omega
  rcases hc with hc | hc | hc | hc | hc | hc | hc | hc
  ·rw[hc];rfl
  ·rw[hc];rfl
  ·have ha:=num_cut k3 (.inl hc)
   rw[cut_text hv ha.1,hc];rfl
  ·rw[turn_text hv,hc];rfl
  ·rw[hc];rfl
  ·rw[hc];rfl
  ·rw[hc];rfl
  ·have e:decide (((runes06 r.text).length:Int) > 0)=decide (0<(runes06 r.text).length):=by
    rw[Bool.eq_iff_iff];simp only[decide_eq_true_eq];omega
   rw[e,hc];rfl
theorem map_ok:FnPure Tryd.prog 51 aFR dRE (fun g=>mapF g.1 g.2) (fun g=>[g.1.s.size≤KB]):=
 pure_congr (map_okS _ fun g _ hp=>by
  obtain ⟨f,r⟩:=g
  have h:f.s.size≤KB:=hp _ (List.mem_cons_self ..)
  show map_side f r
  refine ⟨h,fun hb=>?_⟩
  obtain ⟨h1,h2⟩:=both_zero hb
  obtain ⟨k1,k2,k3,k4⟩:=chk2 h1
  have ht:=((chkR_iff r).1 h2).1
  have ht':r.text.size≤KB:=by unfold KB;omega
  have hl:=rns_len r.text
  have hcast:∀ k:Int,(f.kind==k)=true→f.kind=k:=fun k hk=>by simpa using hk
  refine ⟨ht',fun _=>ht',fun _ hk=>?_,fun _ hk=>?_,fun _ _ _ _=>rfl,fun _ _ _=>rfl,fun _ _ _ _ _=>trivial,fun _ _ _=>?_,fun _ _ _=>⟨?_,fun _ _=>rfl⟩,fun _ _ _ _ _=>rfl,fun _ _ _ hk=>?_,fun _ _ _ _ hk=>?_,fun _ _ _ _ _ _ _ hd=>?_,fun _ _ _ _ _ _ _ hd=>?_⟩
  ·have ha:=num_cut k3 (.inl (hcast 3 hk))
   rw[min_fold]
   split <;> omega
  ·have ha:=num_cut k3 (.inl (hcast 3 hk))
   rw[min_fold]
   exact ⟨by split <;> omega,fun _ _=>rfl⟩
  ·rw[e3.ag_eq];unfold KB at ht' ⊢;omega
  ·rw[e3.ag_eq,List.length_reverse];exact Nat.le_refl _
  ·have:f.s.size≤16:=by
    unfold textF at k4
    rw[hk] at k4
    simp only[cond_true,Bool.and_eq_true,decide_eq_true_eq] at k4
    omega
   omega
  ·have ha:=num_mod k3 (.inl (hcast 6 hk))
   omega
  ·have:=of_decide_eq_true hd
   exact ⟨Int.le_refl _,by omega⟩
  ·have:=of_decide_eq_true hd
   omega) fun g _ _=>map_eq g.1 g.2
theorem rmp_eq (f:Fn) (r:Rec):rmp_F f r=mapF f r:=by
 unfold rmp_F mapF
 cases hb:bothF 2 f r != (0:Int) with
 | true=>rfl
 | false=>
  obtain ⟨h1,h2⟩:=both_zero hb
  obtain ⟨k1,k2,k3,k4⟩:=chk2 h1
  simp only[cond_false]
  unfold mapK mapT
  have hc:f.kind=1∨f.kind=2∨f.kind=3∨f.kind=4∨f.kind=5∨f.kind=6∨f.kind=7∨f.kind=8:=by omega
  rcases hc with hc | hc | hc | hc | hc | hc | hc | hc
  ·rw[hc];rfl
  ·rw[hc];rfl
  ·rw[hc];rfl
  ·rw[hc];rfl
  ·rw[hc];rfl
  ·have ha:=num_mod k3 (.inl hc)
   rw[rest_eq _ _ ⟨by omega,by omega⟩,hc];rfl
  ·rw[runes_len,hc];rfl
  ·have e:decide (((runes05 r.text).length:Int) > 0)=decide (0<(runes06 r.text).length):=by
    rw[runes_len,Bool.eq_iff_iff];simp only[decide_eq_true_eq];omega
   rw[e]
   by_cases h0:0<(runes06 r.text).length
   ·rw[r05_r0 _ h0,hc];rfl
   ·rw[decide_eq_false h0,hc];rfl
theorem rmp_ok:FnPure Tryd.prog 64 aFR dRE (fun g=>mapF g.1 g.2) (fun g=>[g.1.s.size≤KB]):=
 pure_congr (rmp_okS _ fun g _ hp=>by
  obtain ⟨f,r⟩:=g
  have h:f.s.size≤KB:=hp _ (List.mem_cons_self ..)
  show rmp_side f r
  refine ⟨h,fun hb=>?_⟩
  obtain ⟨h1,h2⟩:=both_zero hb
  obtain ⟨k1,k2,k3,k4⟩:=chk2 h1
  have ht:=((chkR_iff r).1 h2).1
  have ht':r.text.size≤KB:=by unfold KB;omega
  have hcast:∀ k:Int,(f.kind==k)=true→f.kind=k:=fun k hk=>by simpa using hk
  have hs:(f.kind==(5:Int))=true→f.s.size≤16:=fun hk=>by
   unfold textF at k4
   rw[hk] at k4
   simp only[cond_true,Bool.and_eq_true,decide_eq_true_eq] at k4
   omega
  have hm:(f.kind==(6:Int))=true→f.a≠0:=fun hk=>by
   have ha:=num_mod k3 (.inl (hcast 6 hk))
   omega
  refine ⟨ht',fun _=>ht',fun _ _=>by rw[eU.okL_eq];trivial,fun _ _=>eU.ag_eq _,fun _ hk=>⟨Int.le_refl _,(num_cut k3 (.inl (hcast 3 hk))).1⟩,fun _ _ _=>ht',fun _ _ _ hk=>by have:=hs hk;omega,fun _ _ _ hk=>by have:=hs hk;rw[ByteArray.size_append];unfold KB;omega,fun _ _ _ _ hk=>hm hk,fun _ _ _ _ hk=>hm hk,fun _ _ _ _ _ _ _ hd=>⟨Int.le_refl _,of_decide_eq_true hd⟩⟩) fun g _ _=>rmp_eq g.1 g.2
noncomputable def meaF (f:Fn) (r:Rec):Int×Int:=bif bothF 11 f r != (0:Int) then (0,bothF 11 f r) else bif f.kind==(41:Int) then (1,0) else (((runes06 r.text).length:Int),0)
theorem rec_KB {k:Int} {f:Fn} {r:Rec} (hb:(bothF k f r != (0:Int))=false):r.text.size≤KB:=by
 have:=((chkR_iff r).1 (both_zero hb).2).1
 unfold KB;omega
theorem mea_ok:FnPure Tryd.prog 68 aFR dII (fun g=>meaF g.1 g.2) (fun g=>[g.1.s.size≤KB]):=
 pure_congr (mea_okS _ fun g _ hp=>⟨hp _ (List.mem_cons_self ..),fun hb _=>rec_KB hb⟩) fun g _ _=>rfl
theorem rme_ok:FnPure Tryd.prog 69 aFR dII (fun g=>meaF g.1 g.2) (fun g=>[g.1.s.size≤KB]):=
 pure_congr (rme_okS _ fun g _ hp=>⟨hp _ (List.mem_cons_self ..),fun hb _=>rec_KB hb⟩) fun g _ _=>by
  obtain ⟨f,r⟩:=g
  show rme_F f r=meaF f r
  unfold rme_F meaF
  rw[runes_len]
noncomputable def tabC19:PTab Tryd.prog:=(((tabC16.cons 51 (pconP aFR dRE (fun g=>mapF g.1 g.2) (fun g=>[g.1.s.size≤KB])) (conP_ok map_ok puRE)).cons 64 (pconP aFR dRE (fun g=>mapF g.1 g.2) (fun g=>[g.1.s.size≤KB])) (conP_ok rmp_ok puRE)).cons 68 (pconP aFR dII (fun g=>meaF g.1 g.2) (fun g=>[g.1.s.size≤KB])) (conP_ok mea_ok puII)).cons 69 (pconP aFR dII (fun g=>meaF g.1 g.2) (fun g=>[g.1.s.size≤KB])) (conP_ok rme_ok puII)
end Go.Proofs.YtmegbepjdololaaDoor

namespace Go.Proofs.YtmegbepjdololaaDoor
open Go.RowKit Go.Sx
set_option maxRecDepth 100000
set_option linter.unusedVariables false
abbrev dLRE:Dv (List Rec×Int):=.tup (.cons dLR (.one dI))
abbrev sp1_G:Type:=Unit×(BA×Nat)×List BA
noncomputable def sp1_LP:LP 3 sp1_G:=.pair (.fix 3 32 (.p 2 0)) (.pair (.iter 3 2) (.row 3 7 9 eStr))
noncomputable def sp1_R (_u:Unit) (q:BA×Nat) (o:List BA):Ex×sp1_G:=
 bif decide (q.snd<q.fst.size) then (Ex.normal,(),(q.fst,q.snd+(Utf8.decode q.fst q.snd).snd),eStr.lst (min (o.length+(1:Nat)) o.length) (eStr.els o)++List.map (fun x=>runesBytes [(↑(Utf8.decode q.fst q.snd).fst:Int)]) (List.range (o.length+(1:Nat) - o.length)))
 else (Ex.exit (0:Nat),(),q,eStr.ag o)
def sp1_side (_u:Unit) (q:BA×Nat) (o:List BA):Prop:=
 (decide (q.snd<q.fst.size)=true→True∧(o.length≤o.length∧True∧o.length+(1:Nat)≤maxLen∧(o.length+(1:Nat)) * Tryd.prog.types[(9:Nat)].bytes≤(140737488355328:Nat))∧o.length+(1:Nat)≤o.length+(1:Nat)∧(∀ (e:Nat),e<min (o.length+(1:Nat)) o.length→True)∧∀ (e:Nat),e<o.length+(1:Nat) - o.length→True)∧(decide (q.snd<q.fst.size)=false→o.length≤o.length∧∀ (e:Nat),e<o.length→True)
theorem sp1_one:((loopsOf Tryd.prog 59).filter fun c=>Nat.beq (lkey c) 8).length=1:=by kernel_rfl
theorem sp1_es (g:sp1_G):(sp1_R g.1 g.2.1 g.2.2).1=.normal∨(sp1_R g.1 g.2.1 g.2.2).1∈([.exit 0]:List Ex):=by
 unfold sp1_R
 repeat' (first | (left;rfl) | (right;simp only[cond_true,cond_false];simp;done) | (rw[Bool.cond_eq_ite];split))
noncomputable abbrev sp1_C (Inv:sp1_G→List Prop) (m:sp1_G→Nat):LCon:=loopR [.exit 0] (loopBody Tryd.prog 59 8) sp1_LP [] 64 Inv (fun g=>sp1_R g.1 g.2.1 g.2.2) m
theorem sp1_loop (Inv:sp1_G→List Prop) (m:sp1_G→Nat) (hs:∀ g,allP (Inv g)→sp1_side g.1 g.2.1 g.2.2) (hg:Goes (fun g:sp1_G=>sp1_R g.1 g.2.1 g.2.2) m fun g=>allP (Inv g)):∀ b∈loopsOf Tryd.prog 59,lkey b=8→LoopOk Tryd.prog b (sp1_C Inv m).g:=loop_run (Γ:=(PTab.gamz tabC19 [] [])) (Λ:=noΛ) (PTab.okz tabC19 [] []) noΛ_ok 100 59 8 64 sp1_LP [] Inv (fun g=>sp1_R g.1 g.2.1 g.2.2) (fun g=>sp1_side g.1 g.2.1 g.2.2) m default [.exit 0] sp1_one (fun rd T B HL HB ds g=>by kernel_rfl) (fun rd T B HL HB ds g=>by kernel_rfl) hs hg sp1_es
end Go.Proofs.YtmegbepjdololaaDoor

namespace Go.Proofs.YtmegbepjdololaaDoor
open Go.RowKit Go.Sx Go.Lp
def sp1_mk (p:Nat) (s:BA) (o:List BA):sp1_G:=((),(s,p),o)
def sp1_st (_:BA) (o:List BA) (_:Nat) (d:Nat×Nat):Ex×List BA:=(.normal,o++[runesBytes [(d.1:Int)]])
def sp1_P (s:BA) (o:List BA) (p:Nat):Prop:=s.size≤KB∧o.length≤p
noncomputable abbrev sp1_I (g:sp1_G):List Prop:=txI (fun s:BA=>s) sp1_P sp1_mk g
noncomputable abbrev sp1_M (g:sp1_G):Nat:=g.2.1.1.size - g.2.1.2
theorem sp1_K:txK (fun s:BA=>s) sp1_st sp1_P:=fun s o p h _ _=>⟨h.1,by
 have:=Lib.width_pos s p
 simp only[sp1_st,List.length_append,List.length_cons,List.length_nil]
 have:=h.2
 omega⟩
theorem sp1_F (p:Nat) (s:BA) (o:List BA):sp1_R () (s,p) o=txR 0 (fun s:BA=>s) sp1_st true sp1_mk p s o:=by
 unfold sp1_R txR sp1_st sp1_mk
 by_cases h:p<s.size
 ·rw[decide_eq_true h,if_pos h,cond_true,app1]
 ·rw[decide_eq_false h,if_neg h,cond_false,eStr.ag_eq]
theorem sp1_ok:∀ b∈loopsOf Tryd.prog 59,lkey b=8→LoopOk Tryd.prog b (sp1_C sp1_I sp1_M).g:=
 sp1_loop sp1_I sp1_M (fun g hi=>by
  obtain ⟨p,s,o,rfl,h1,h2⟩:=hi _ (List.mem_cons_self ..)
  have h3:=h2.1
  have h4:=h2.2
  unfold KB at h3
  show sp1_side () (s,p) o
  unfold sp1_side
  rw[bytesS]
  refine ⟨fun h=>?_,fun _=>⟨Nat.le_refl _,fun _ _=>trivial⟩⟩
  have hp:p<s.size:=of_decide_eq_true h
  unfold maxLen
  repeat' (first | apply And.intro | intro _)
  all_goals first | trivial | omega) (tx_goes (fun p s r=>by simp[sp1_M,sp1_mk]) (fun p s r h1 h2=>sp1_F p s r) sp1_K)
def eachL (s:BA):List BA:=(runes06 s).map fun c=>runesBytes [c]
theorem sp1_scan (s:BA):∀ (l:List (Nat×Nat)) (p:Nat) (o:List BA),((scanT 0 true (sp1_st s) p l o).1,(scanT 0 true (sp1_st s) p l o).2.2)=(.exit 0,o++(l.map fun x=>(x.1:Int)).map fun c=>runesBytes [c])
 | [],p,o=>by simp[scanT]
 | d :: l,p,o=>by
  simp only[scanT,sp1_st]
  have:=sp1_scan s l (p+d.2) (o++[runesBytes [(d.1:Int)]])
  rw[this,List.append_assoc]
  rfl
theorem sp1_run (s:BA) (hs:s.size≤KB):(loopF (fun g:sp1_G=>sp1_R g.1 g.2.1 g.2.2) sp1_M ((),(s,0),[])).1=.exit 0∧(loopF (fun g:sp1_G=>sp1_R g.1 g.2.1 g.2.2) sp1_M ((),(s,0),[])).2.2.2=eachL s:=by
 have h:=tx_run (F:=fun g:sp1_G=>sp1_R g.1 g.2.1 g.2.2) (m:=sp1_M) (mk:=sp1_mk) (x:=0) (adv:=true) (step:=sp1_st) (P:=sp1_P) (tx:=fun s:BA=>s) (fun p s r=>by simp[sp1_M,sp1_mk]) (fun p s r h1 h2=>sp1_F p s r) sp1_K s.size 0 s [] (Nat.zero_le _) ⟨hs,Nat.le_refl _⟩ (Nat.sub_le _ _)
 have e:sp1_mk 0 s []=((),(s,0),[]):=rfl
 rw[e] at h
 rw[h,List.drop_zero]
 have h2:=sp1_scan s (rsL (toL s)) 0 []
 simp only[Prod.mk.injEq] at h2
 exact ⟨h2.1,h2.2⟩
noncomputable def ltC21:LTab Tryd.prog:=LTab.cons LTab.nil 59 8 (sp1_C sp1_I sp1_M) sp1_ok
noncomputable abbrev lamC21:Lam:=ltC21.lam
theorem lamC21_ok:∀ f k L,lamC21 f k=some L→∀ b∈loopsOf Tryd.prog f,lkey b=k→LoopOk Tryd.prog b L.g:=ltC21.ok
end Go.Proofs.YtmegbepjdololaaDoor

namespace Go.Proofs.YtmegbepjdololaaDoor
open Go.RowKit Go.Sx
set_option maxRecDepth 100000
set_option linter.unusedVariables false
abbrev spa_G:Type:=List BA×Int×Int×List Rec×Unit×Rec
noncomputable def spa_LP:LP 2 spa_G:=.pair (.slot 2 42 dLB) (.pair (.slot 2 43 dI) (.pair (.slot 2 44 dI) (.pair (.row 2 10 46 eR) (.pair (.fix 2 3 (.p 1 0)) (.obj 2 1 46 eR)))))
noncomputable def spa_R (xs:List BA) (n:Int) (i:Int) (o:List Rec) (_u:Unit) (r:Rec):Ex×spa_G:=
 bif decide (i<n) then bif !decide (xs.getD i.toNat eStr.dflt=ByteArray.mk #[])&&decide ((↑o.length:Int)<(4:Int)) then (Ex.normal,eStr.ag xs,n,IntKind.i64.wrap (i+(1:Int)),eR.lst (min (o.length+(1:Nat)) o.length) (eR.els o)++List.map (fun x=>Rec.mk r.key (xs.getD i.toNat eStr.dflt)) (List.range (o.length+(1:Nat) - o.length)),(),r) else (Ex.normal,eStr.ag xs,n,IntKind.i64.wrap (i+(1:Int)),eR.ag o,(),r)
 else (Ex.exit (2:Nat),eStr.ag xs,n,i,eR.ag o,(),r)
def spa_side (xs:List BA) (n:Int) (i:Int) (o:List Rec) (_u:Unit) (r:Rec):Prop:=
 (decide (i<n)=true→((0:Int)≤i∧i<(↑xs.length:Int))∧((!decide (xs.getD i.toNat eStr.dflt=ByteArray.mk #[])&&decide ((↑o.length:Int)<(4:Int)))=true→(o.length≤o.length∧True∧o.length+(1:Nat)≤maxLen∧(o.length+(1:Nat)) * Tryd.prog.types[(46:Nat)].bytes≤(140737488355328:Nat))∧eStr.okL xs∧o.length+(1:Nat)≤o.length+(1:Nat)∧(∀ (e:Nat),e<min (o.length+(1:Nat)) o.length→True)∧∀ (e:Nat),e<o.length+(1:Nat) - o.length→True)∧((!decide (xs.getD i.toNat eStr.dflt=ByteArray.mk #[])&&decide ((↑o.length:Int)<(4:Int)))=false→eStr.okL xs∧o.length≤o.length∧∀ (e:Nat),e<o.length→True))∧(decide (i<n)=false→eStr.okL xs∧o.length≤o.length∧∀ (e:Nat),e<o.length→True)
theorem spa_one:((loopsOf Tryd.prog 59).filter fun c=>Nat.beq (lkey c) 13).length=1:=by kernel_rfl
abbrev spa_GC:Type:=List BA×Int×Rec
abbrev spa_GB:Type:=List Rec×Unit
def spa_f (g:spa_G):Int×spa_GC×spa_GB:=(g.2.2.1,(g.1,g.2.1,g.2.2.2.2.2),(g.2.2.2.1,g.2.2.2.2.1))
def spa_g (d:Int×spa_GC×spa_GB):spa_G:=(d.2.1.1,d.2.1.2.1,d.1,d.2.2.1,d.2.2.2,d.2.1.2.2)
theorem spa_es (g:spa_G):(spa_R g.1 g.2.1 g.2.2.1 g.2.2.2.1 g.2.2.2.2.1 g.2.2.2.2.2).1=.normal∨(spa_R g.1 g.2.1 g.2.2.1 g.2.2.2.1 g.2.2.2.2.1 g.2.2.2.2.2).1∈([.exit 2]:List Ex):=by
 unfold spa_R
 repeat' (first | (left;rfl) | (right;simp only[cond_true,cond_false];simp;done) | (rw[Bool.cond_eq_ite];split))
noncomputable abbrev spa_C (Inv:spa_G→List Prop) (m:spa_G→Nat):LCon:=loopR [.exit 2] (loopBody Tryd.prog 59 13) spa_LP [] 64 Inv (fun g=>spa_R g.1 g.2.1 g.2.2.1 g.2.2.2.1 g.2.2.2.2.1 g.2.2.2.2.2) m
theorem spa_loop (Inv:spa_G→List Prop) (m:spa_G→Nat) (hs:∀ g,allP (Inv g)→spa_side g.1 g.2.1 g.2.2.1 g.2.2.2.1 g.2.2.2.2.1 g.2.2.2.2.2) (hg:Goes (fun g:spa_G=>spa_R g.1 g.2.1 g.2.2.1 g.2.2.2.1 g.2.2.2.2.1 g.2.2.2.2.2) m fun g=>allP (Inv g)):∀ b∈loopsOf Tryd.prog 59,lkey b=13→LoopOk Tryd.prog b (spa_C Inv m).g:=loop_run (Γ:=(PTab.gamz tabC19 [] [])) (Λ:=lamC21) (PTab.okz tabC19 [] []) lamC21_ok 100 59 13 64 spa_LP [] Inv (fun g=>spa_R g.1 g.2.1 g.2.2.1 g.2.2.2.1 g.2.2.2.2.1 g.2.2.2.2.2) (fun g=>spa_side g.1 g.2.1 g.2.2.1 g.2.2.2.1 g.2.2.2.2.1 g.2.2.2.2.2) m default [.exit 2] spa_one (fun rd T B HL HB ds g=>by kernel_rfl) (fun rd T B HL HB ds g=>by kernel_rfl) hs hg spa_es
abbrev spb_G:Type:=Nat×List BA×Int×Int×List Rec×Unit×Rec
noncomputable def spb_LP:LP 4 spb_G:=.pair (.owl 4 42 3) (.pair (.rowO 4 3 9 eStr) (.pair (.slot 4 43 dI) (.pair (.slot 4 44 dI) (.pair (.row 4 10 46 eR) (.pair (.fix 4 3 (.p 1 0)) (.obj 4 1 46 eR))))))
noncomputable def spb_R (l:Nat) (xs:List BA) (n:Int) (i:Int) (o:List Rec) (_u:Unit) (r:Rec):Ex×spb_G:=
 bif decide (i<n) then bif !decide (xs.getD i.toNat eStr.dflt=ByteArray.mk #[])&&decide ((↑o.length:Int)<(4:Int)) then (Ex.normal,l,eStr.ag xs,n,IntKind.i64.wrap (i+(1:Int)),eR.lst (min (o.length+(1:Nat)) o.length) (eR.els o)++List.map (fun x=>Rec.mk r.key (xs.getD i.toNat eStr.dflt)) (List.range (o.length+(1:Nat) - o.length)),(),r) else (Ex.normal,l,eStr.ag xs,n,IntKind.i64.wrap (i+(1:Int)),eR.ag o,(),r)
 else (Ex.exit (2:Nat),l,eStr.ag xs,n,i,eR.ag o,(),r)
def spb_side (l:Nat) (xs:List BA) (n:Int) (i:Int) (o:List Rec) (_u:Unit) (r:Rec):Prop:=
 (decide (i<n)=true→((0:Int)≤i∧i<(↑l:Int))∧i.toNat<xs.length∧((!decide (xs.getD i.toNat eStr.dflt=ByteArray.mk #[])&&decide ((↑o.length:Int)<(4:Int)))=true→(o.length≤o.length∧True∧o.length+(1:Nat)≤maxLen∧(o.length+(1:Nat)) * Tryd.prog.types[(46:Nat)].bytes≤(140737488355328:Nat))∧(∀ (e:Nat),e<xs.length→True)∧o.length+(1:Nat)≤o.length+(1:Nat)∧(∀ (e:Nat),e<min (o.length+(1:Nat)) o.length→True)∧∀ (e:Nat),e<o.length+(1:Nat) - o.length→True)∧((!decide (xs.getD i.toNat eStr.dflt=ByteArray.mk #[])&&decide ((↑o.length:Int)<(4:Int)))=false→(∀ (e:Nat),e<xs.length→True)∧o.length≤o.length∧∀ (e:Nat),e<o.length→True))∧(decide (i<n)=false→(∀ (e:Nat),e<xs.length→True)∧o.length≤o.length∧∀ (e:Nat),e<o.length→True)
theorem spb_one:((loopsOf Tryd.prog 59).filter fun c=>Nat.beq (lkey c) 13).length=1:=by kernel_rfl
abbrev spb_GC:Type:=Nat×List BA×Int×Rec
abbrev spb_GB:Type:=List Rec×Unit
def spb_f (g:spb_G):Int×spb_GC×spb_GB:=(g.2.2.2.1,(g.1,g.2.1,g.2.2.1,g.2.2.2.2.2.2),(g.2.2.2.2.1,g.2.2.2.2.2.1))
def spb_g (d:Int×spb_GC×spb_GB):spb_G:=(d.2.1.1,d.2.1.2.1,d.2.1.2.2.1,d.1,d.2.2.1,d.2.2.2,d.2.1.2.2.2)
theorem spb_es (g:spb_G):(spb_R g.1 g.2.1 g.2.2.1 g.2.2.2.1 g.2.2.2.2.1 g.2.2.2.2.2.1 g.2.2.2.2.2.2).1=.normal∨(spb_R g.1 g.2.1 g.2.2.1 g.2.2.2.1 g.2.2.2.2.1 g.2.2.2.2.2.1 g.2.2.2.2.2.2).1∈([.exit 2]:List Ex):=by
 unfold spb_R
 repeat' (first | (left;rfl) | (right;simp only[cond_true,cond_false];simp;done) | (rw[Bool.cond_eq_ite];split))
noncomputable abbrev spb_C (Inv:spb_G→List Prop) (m:spb_G→Nat):LCon:=loopR [.exit 2] (loopBody Tryd.prog 59 13) spb_LP [] 64 Inv (fun g=>spb_R g.1 g.2.1 g.2.2.1 g.2.2.2.1 g.2.2.2.2.1 g.2.2.2.2.2.1 g.2.2.2.2.2.2) m
theorem spb_loop (Inv:spb_G→List Prop) (m:spb_G→Nat) (hs:∀ g,allP (Inv g)→spb_side g.1 g.2.1 g.2.2.1 g.2.2.2.1 g.2.2.2.2.1 g.2.2.2.2.2.1 g.2.2.2.2.2.2) (hg:Goes (fun g:spb_G=>spb_R g.1 g.2.1 g.2.2.1 g.2.2.2.1 g.2.2.2.2.1 g.2.2.2.2.2.1 g.2.2.2.2.2.2) m fun g=>allP (Inv g)):∀ b∈loopsOf Tryd.prog 59,lkey b=13→LoopOk Tryd.prog b (spb_C Inv m).g:=loop_run (Γ:=(PTab.gamz tabC19 [] [])) (Λ:=lamC21) (PTab.okz tabC19 [] []) lamC21_ok 100 59 13 64 spb_LP [] Inv (fun g=>spb_R g.1 g.2.1 g.2.2.1 g.2.2.2.1 g.2.2.2.2.1 g.2.2.2.2.2.1 g.2.2.2.2.2.2) (fun g=>spb_side g.1 g.2.1 g.2.2.1 g.2.2.2.1 g.2.2.2.2.1 g.2.2.2.2.2.1 g.2.2.2.2.2.2) m default [.exit 2] spb_one (fun rd T B HL HB ds g=>by kernel_rfl) (fun rd T B HL HB ds g=>by kernel_rfl) hs hg spb_es
abbrev rs1_G:Type:=List Rune×Int×List Rec×Unit×Rec
noncomputable def rs1_LP:LP 2 rs1_G:=.pair (.slot 2 7 dLU) (.pair (.slot 2 9 dI) (.pair (.row 2 8 46 eR) (.pair (.fix 2 3 (.p 1 0)) (.obj 2 1 46 eR))))
noncomputable def rs1_R (xs:List Rune) (i:Int) (o:List Rec) (_u:Unit) (r:Rec):Ex×rs1_G:=
 bif decide (i<(↑xs.length:Int))&&decide (i<(4:Int)) then (Ex.normal,eU.ag xs,IntKind.i64.wrap (i+(1:Int)),eR.lst (min (o.length+(1:Nat)) o.length) (eR.els o)++List.map (fun x=>Rec.mk r.key (partS r.text i.toNat (IntKind.i64.wrap (i+(1:Int))).toNat)) (List.range (o.length+(1:Nat) - o.length)),(),r)
 else (Ex.exit (0:Nat),eU.ag xs,i,eR.ag o,(),r)
def rs1_side (xs:List Rune) (i:Int) (o:List Rec) (_u:Unit) (r:Rec):Prop:=
 ((decide (i<(↑xs.length:Int))&&decide (i<(4:Int)))=true→eU.okL xs∧eU.ag xs=runes05 r.text∧((0:Int)≤i∧i≤IntKind.i64.wrap (i+(1:Int)))∧(o.length≤o.length∧True∧o.length+(1:Nat)≤maxLen∧(o.length+(1:Nat)) * Tryd.prog.types[(46:Nat)].bytes≤(140737488355328:Nat))∧eU.okL xs∧o.length+(1:Nat)≤o.length+(1:Nat)∧(∀ (e:Nat),e<min (o.length+(1:Nat)) o.length→True)∧∀ (e:Nat),e<o.length+(1:Nat) - o.length→True)∧((decide (i<(↑xs.length:Int))&&decide (i<(4:Int)))=false→eU.okL xs∧o.length≤o.length∧∀ (e:Nat),e<o.length→True)
theorem rs1_one:((loopsOf Tryd.prog 67).filter fun c=>Nat.beq (lkey c) 8).length=1:=by kernel_rfl
theorem rs1_es (g:rs1_G):(rs1_R g.1 g.2.1 g.2.2.1 g.2.2.2.1 g.2.2.2.2).1=.normal∨(rs1_R g.1 g.2.1 g.2.2.1 g.2.2.2.1 g.2.2.2.2).1∈([.exit 0]:List Ex):=by
 unfold rs1_R
 repeat' (first | (left;rfl) | (right;simp only[cond_true,cond_false];simp;done) | (rw[Bool.cond_eq_ite];split))
noncomputable abbrev rs1_C (Inv:rs1_G→List Prop) (m:rs1_G→Nat):LCon:=loopR [.exit 0] (loopBody Tryd.prog 67 8) rs1_LP [] 97 Inv (fun g=>rs1_R g.1 g.2.1 g.2.2.1 g.2.2.2.1 g.2.2.2.2) m
theorem rs1_loop (Inv:rs1_G→List Prop) (m:rs1_G→Nat) (hs:∀ g,allP (Inv g)→rs1_side g.1 g.2.1 g.2.2.1 g.2.2.2.1 g.2.2.2.2) (hg:Goes (fun g:rs1_G=>rs1_R g.1 g.2.1 g.2.2.1 g.2.2.2.1 g.2.2.2.2) m fun g=>allP (Inv g)):∀ b∈loopsOf Tryd.prog 67,lkey b=8→LoopOk Tryd.prog b (rs1_C Inv m).g:=loop_run (Γ:=(PTab.gamz tabC19 [] [])) (Λ:=lamC21) (PTab.okz tabC19 [] []) lamC21_ok 100 67 8 97 rs1_LP [] Inv (fun g=>rs1_R g.1 g.2.1 g.2.2.1 g.2.2.2.1 g.2.2.2.2) (fun g=>rs1_side g.1 g.2.1 g.2.2.1 g.2.2.2.1 g.2.2.2.2) m default [.exit 0] rs1_one (fun rd T B HL HB ds g=>by kernel_rfl) (fun rd T B HL HB ds g=>by kernel_rfl) hs hg rs1_es
abbrev rs2_G:Type:=List Rune×Int×Int×Int×List Rec×Unit×Rec
noncomputable def rs2_LP:LP 2 rs2_G:=.pair (.slot 2 7 dLU) (.pair (.slot 2 10 d3) (.pair (.slot 2 11 dI) (.pair (.slot 2 12 dI) (.pair (.row 2 8 46 eR) (.pair (.fix 2 3 (.p 1 0)) (.obj 2 1 46 eR))))))
noncomputable def rs2_R (xs:List Rune) (c:Int) (m:Int) (i:Int) (o:List Rec) (_u:Unit) (r:Rec):Ex×rs2_G:=
 bif decide (i≤(↑xs.length:Int)) then bif decide (i<(↑xs.length:Int))&&(xs.getD i.toNat eU.dflt).r != c then (Ex.normal,eU.ag xs,c,m,IntKind.i64.wrap (i+(1:Int)),eR.ag o,(),r) else bif decide (m<i)&&decide ((↑o.length:Int)<(4:Int)) then (Ex.normal,eU.ag xs,c,IntKind.i64.wrap (i+(1:Int)),IntKind.i64.wrap (i+(1:Int)),eR.lst (min (o.length+(1:Nat)) o.length) (eR.els o)++List.map (fun x=>Rec.mk r.key (partS r.text m.toNat i.toNat)) (List.range (o.length+(1:Nat) - o.length)),(),r) else (Ex.normal,eU.ag xs,c,IntKind.i64.wrap (i+(1:Int)),IntKind.i64.wrap (i+(1:Int)),eR.ag o,(),r)
 else (Ex.exit (2:Nat),eU.ag xs,c,m,i,eR.ag o,(),r)
def rs2_side (xs:List Rune) (c:Int) (m:Int) (i:Int) (o:List Rec) (_u:Unit) (r:Rec):Prop:=
 (decide (i≤(↑xs.length:Int))=true→(decide (i<(↑xs.length:Int))=true→(0:Int)≤i∧i<(↑xs.length:Int))∧((decide (i<(↑xs.length:Int))&&(xs.getD i.toNat eU.dflt).r != c)=true→eU.okL xs∧o.length≤o.length∧∀ (e:Nat),e<o.length→True)∧((decide (i<(↑xs.length:Int))&&(xs.getD i.toNat eU.dflt).r != c)=false→((decide (m<i)&&decide ((↑o.length:Int)<(4:Int)))=true→eU.okL xs∧eU.ag xs=runes05 r.text∧((0:Int)≤m∧m≤i)∧(o.length≤o.length∧True∧o.length+(1:Nat)≤maxLen∧(o.length+(1:Nat)) * Tryd.prog.types[(46:Nat)].bytes≤(140737488355328:Nat))∧eU.okL xs∧o.length+(1:Nat)≤o.length+(1:Nat)∧(∀ (e:Nat),e<min (o.length+(1:Nat)) o.length→True)∧∀ (e:Nat),e<o.length+(1:Nat) - o.length→True)∧((decide (m<i)&&decide ((↑o.length:Int)<(4:Int)))=false→eU.okL xs∧o.length≤o.length∧∀ (e:Nat),e<o.length→True)))∧(decide (i≤(↑xs.length:Int))=false→eU.okL xs∧o.length≤o.length∧∀ (e:Nat),e<o.length→True)
theorem rs2_one:((loopsOf Tryd.prog 67).filter fun c=>Nat.beq (lkey c) 15).length=1:=by kernel_rfl
theorem rs2_es (g:rs2_G):(rs2_R g.1 g.2.1 g.2.2.1 g.2.2.2.1 g.2.2.2.2.1 g.2.2.2.2.2.1 g.2.2.2.2.2.2).1=.normal∨(rs2_R g.1 g.2.1 g.2.2.1 g.2.2.2.1 g.2.2.2.2.1 g.2.2.2.2.2.1 g.2.2.2.2.2.2).1∈([.exit 2]:List Ex):=by
 unfold rs2_R
 repeat' (first | (left;rfl) | (right;simp only[cond_true,cond_false];simp;done) | (rw[Bool.cond_eq_ite];split))
noncomputable abbrev rs2_C (Inv:rs2_G→List Prop) (m:rs2_G→Nat):LCon:=loopR [.exit 2] (loopBody Tryd.prog 67 15) rs2_LP [] 97 Inv (fun g=>rs2_R g.1 g.2.1 g.2.2.1 g.2.2.2.1 g.2.2.2.2.1 g.2.2.2.2.2.1 g.2.2.2.2.2.2) m
theorem rs2_loop (Inv:rs2_G→List Prop) (m:rs2_G→Nat) (hs:∀ g,allP (Inv g)→rs2_side g.1 g.2.1 g.2.2.1 g.2.2.2.1 g.2.2.2.2.1 g.2.2.2.2.2.1 g.2.2.2.2.2.2) (hg:Goes (fun g:rs2_G=>rs2_R g.1 g.2.1 g.2.2.1 g.2.2.2.1 g.2.2.2.2.1 g.2.2.2.2.2.1 g.2.2.2.2.2.2) m fun g=>allP (Inv g)):∀ b∈loopsOf Tryd.prog 67,lkey b=15→LoopOk Tryd.prog b (rs2_C Inv m).g:=loop_run (Γ:=(PTab.gamz tabC19 [] [])) (Λ:=lamC21) (PTab.okz tabC19 [] []) lamC21_ok 100 67 15 97 rs2_LP [] Inv (fun g=>rs2_R g.1 g.2.1 g.2.2.1 g.2.2.2.1 g.2.2.2.2.1 g.2.2.2.2.2.1 g.2.2.2.2.2.2) (fun g=>rs2_side g.1 g.2.1 g.2.2.1 g.2.2.2.1 g.2.2.2.2.1 g.2.2.2.2.2.1 g.2.2.2.2.2.2) m default [.exit 2] rs2_one (fun rd T B HL HB ds g=>by kernel_rfl) (fun rd T B HL HB ds g=>by kernel_rfl) hs hg rs2_es
end Go.Proofs.YtmegbepjdololaaDoor

namespace Go.Proofs.YtmegbepjdololaaDoor
open Go.RowKit Go.Sx Go.Lp
set_option maxRecDepth 100000
def KL:Nat:=1000000
theorem bytesR (h:46<Tryd.prog.types.size):(Tryd.prog.types[46]'h).bytes=24:=by kernel_rfl
theorem lst_snoc {α:Type} (A:El α) (o:List α) (v:α):A.lst (min (o.length+1) o.length) (A.els o)++List.map (fun _=>v) (List.range (o.length+1 - o.length))=o++[v]:=app1 A o v
noncomputable def spa_S (c:spa_GC) (b:spa_GB) (i:Int) (v:BA):Ex×spa_GB:=(.normal,bif !decide (v=ByteArray.mk #[])&&decide ((b.1.length:Int)<(4:Int)) then b.1++[Rec.mk c.2.2.key v] else b.1,b.2)
def spa_K (c:spa_GC) (b:spa_GB) (i:Int):Prop:=(c.1).length≤KL∧(List.length b.1:Int)≤i
abbrev spa_I (g:spa_G):List Prop:=ixI (fun c:spa_GC=>c.2.1) (fun c:spa_GC=>c.1) spa_K (spa_f g)
abbrev spa_M (g:spa_G):Nat:=ixM (fun c:spa_GC=>c.2.1) (spa_f g)
theorem spa_P:ixP spa_S (fun c:spa_GC=>c.1) spa_K:=by
 intro c b i a h _ _
 obtain ⟨h1,h2⟩:=h
 refine ⟨h1,?_⟩
 have h2:(List.length b.1:Int)≤(i:Int):=h2
 show (List.length (spa_S c b i a).2.1:Int)≤(i:Int)+1
 unfold spa_S
 generalize (!decide (a=ByteArray.mk #[])&&decide ((b.1.length:Int)<(4:Int)))=z0
 cases z0 <;> simp only[cond_true,cond_false,List.length_append,List.length_cons,List.length_nil] <;> omega
noncomputable abbrev spa_RR (g:spa_G):Ex×spa_G:=spa_R g.1 g.2.1 g.2.2.1 g.2.2.2.1 g.2.2.2.2.1 g.2.2.2.2.2
theorem spa_RF (d:Int×spa_GC×spa_GB) (hi:allP (ixI (fun c:spa_GC=>c.2.1) (fun c:spa_GC=>c.1) spa_K d)):spa_RR (spa_g d)=((ixF 2 (fun c:spa_GC=>c.2.1) (fun c:spa_GC=>c.1) eStr.dflt spa_S d).1,spa_g (ixF 2 (fun c:spa_GC=>c.2.1) (fun c:spa_GC=>c.1) eStr.dflt spa_S d).2):=by
 obtain ⟨i,⟨xs,n,r⟩,⟨o,⟨⟩⟩⟩:=d
 show spa_R xs n i o () r=_
 unfold spa_R ixF spa_S
 simp only[El.ag_eq,El.okL_eq,lst_snoc]
 cases decide (i<n) with
 | false=>rfl
 | true=>
  simp only[cond_true]
  generalize (!decide ((xs.getD i.toNat eStr.dflt)=ByteArray.mk #[])&&decide ((o.length:Int)<(4:Int)))=z0
  cases z0 <;> rfl
theorem spa_ok:∀ b∈loopsOf Tryd.prog 59,lkey b=13→LoopOk Tryd.prog b (spa_C spa_I spa_M).g:=by
 refine spa_loop spa_I spa_M (fun g hi=>?_) (ix_conj_goes (fun _=>rfl) (fun _=>rfl) spa_RF spa_P)
 obtain ⟨xs,n,i,o,⟨⟩,r⟩:=g
 obtain ⟨h1,h2,h3,h4,h5,h6⟩:=hi _ (List.mem_cons_self ..)
 have h1:n=(xs.length:Int):=h1
 have h3:0≤i:=h3
 have h5:xs.length≤1000000:=h5
 have h6:(o.length:Int)≤i:=h6
 show spa_side xs n i o () r
 unfold spa_side
 simp only[bytesR,decide_eq_true_eq,decide_eq_false_iff_not]
 have k0:∀ e:Nat,e<xs.length→eStr.Ok (eStr.els xs e):=fun e _=>eStr.ok_els xs e
 clear hi
 repeat' (first | exact k0 | apply And.intro | intro _)
 all_goals (first | trivial | omega | (unfold maxLen;omega))
theorem spa_run (c:spa_GC) (b:spa_GB) (k1:c.2.1=((c.1).length:Int)) (k2:(c.1).length≤KL) (k3:List.length b.1=0):loopF spa_RR spa_M (spa_g (0,c,b))=((scan 2 (spa_S c) 0 (c.1) b).1,spa_g ((scan 2 (spa_S c) 0 (c.1) b).2.1,c,(scan 2 (spa_S c) 0 (c.1) b).2.2)):=ix_conj_run (φ:=spa_f) (ψ:=spa_g) (fun _=>rfl) (fun _=>rfl) spa_RF spa_P c b k1 (Nat.le_trans k2 (by decide)) ⟨k2,by rw[k3];decide⟩
theorem spa_ix (c:spa_GC) (b:spa_GB) (k1:c.2.1=((c.1).length:Int)) (k2:(c.1).length≤KL) (k3:List.length b.1=0):ixJ (fun c:spa_GC=>c.2.1) (fun c:spa_GC=>c.1) spa_K (0,c,b):=ixJ0 k1 (Nat.le_trans k2 (by decide)) ⟨k2,by rw[k3];decide⟩
noncomputable def spb_S (c:spb_GC) (b:spb_GB) (i:Int) (v:BA):Ex×spb_GB:=(.normal,bif !decide (v=ByteArray.mk #[])&&decide ((b.1.length:Int)<(4:Int)) then b.1++[Rec.mk c.2.2.2.key v] else b.1,b.2)
def spb_K (c:spb_GC) (b:spb_GB) (i:Int):Prop:=(c.2.1).length≤KL∧(List.length b.1:Int)≤i∧c.1=c.2.1.length
abbrev spb_I (g:spb_G):List Prop:=ixI (fun c:spb_GC=>c.2.2.1) (fun c:spb_GC=>c.2.1) spb_K (spb_f g)
abbrev spb_M (g:spb_G):Nat:=ixM (fun c:spb_GC=>c.2.2.1) (spb_f g)
theorem spb_P:ixP spb_S (fun c:spb_GC=>c.2.1) spb_K:=by
 intro c b i a h _ _
 obtain ⟨h1,h2,h3⟩:=h
 refine ⟨h1,?_,h3⟩
 have h2:(List.length b.1:Int)≤(i:Int):=h2
 show (List.length (spb_S c b i a).2.1:Int)≤(i:Int)+1
 unfold spb_S
 generalize (!decide (a=ByteArray.mk #[])&&decide ((b.1.length:Int)<(4:Int)))=z0
 cases z0 <;> simp only[cond_true,cond_false,List.length_append,List.length_cons,List.length_nil] <;> omega
noncomputable abbrev spb_RR (g:spb_G):Ex×spb_G:=spb_R g.1 g.2.1 g.2.2.1 g.2.2.2.1 g.2.2.2.2.1 g.2.2.2.2.2.1 g.2.2.2.2.2.2
theorem spb_RF (d:Int×spb_GC×spb_GB) (hi:allP (ixI (fun c:spb_GC=>c.2.2.1) (fun c:spb_GC=>c.2.1) spb_K d)):spb_RR (spb_g d)=((ixF 2 (fun c:spb_GC=>c.2.2.1) (fun c:spb_GC=>c.2.1) eStr.dflt spb_S d).1,spb_g (ixF 2 (fun c:spb_GC=>c.2.2.1) (fun c:spb_GC=>c.2.1) eStr.dflt spb_S d).2):=by
 obtain ⟨i,⟨l,xs,n,r⟩,⟨o,⟨⟩⟩⟩:=d
 show spb_R l xs n i o () r=_
 unfold spb_R ixF spb_S
 simp only[El.ag_eq,El.okL_eq,lst_snoc]
 cases decide (i<n) with
 | false=>rfl
 | true=>
  simp only[cond_true]
  generalize (!decide ((xs.getD i.toNat eStr.dflt)=ByteArray.mk #[])&&decide ((o.length:Int)<(4:Int)))=z0
  cases z0 <;> rfl
theorem spb_ok:∀ b∈loopsOf Tryd.prog 59,lkey b=13→LoopOk Tryd.prog b (spb_C spb_I spb_M).g:=by
 refine spb_loop spb_I spb_M (fun g hi=>?_) (ix_conj_goes (fun _=>rfl) (fun _=>rfl) spb_RF spb_P)
 obtain ⟨l,xs,n,i,o,⟨⟩,r⟩:=g
 obtain ⟨h1,h2,h3,h4,h5,h6,h7⟩:=hi _ (List.mem_cons_self ..)
 have h7:l=xs.length:=h7
 have h1:n=(xs.length:Int):=h1
 have h3:0≤i:=h3
 have h5:xs.length≤1000000:=h5
 have h6:(o.length:Int)≤i:=h6
 show spb_side l xs n i o () r
 unfold spb_side
 simp only[bytesR,decide_eq_true_eq,decide_eq_false_iff_not]
 have k0:∀ e:Nat,e<xs.length→eStr.Ok (eStr.els xs e):=fun e _=>eStr.ok_els xs e
 clear hi
 repeat' (first | exact k0 | apply And.intro | intro _)
 all_goals (first | trivial | omega | (unfold maxLen;omega))
theorem spb_run (c:spb_GC) (b:spb_GB) (k1:c.2.2.1=((c.2.1).length:Int)) (k2:(c.2.1).length≤KL) (k3:List.length b.1=0) (k4:c.1=c.2.1.length):loopF spb_RR spb_M (spb_g (0,c,b))=((scan 2 (spb_S c) 0 (c.2.1) b).1,spb_g ((scan 2 (spb_S c) 0 (c.2.1) b).2.1,c,(scan 2 (spb_S c) 0 (c.2.1) b).2.2)):=ix_conj_run (φ:=spb_f) (ψ:=spb_g) (fun _=>rfl) (fun _=>rfl) spb_RF spb_P c b k1 (Nat.le_trans k2 (by decide)) ⟨k2,by rw[k3];decide,k4⟩
theorem spb_ix (c:spb_GC) (b:spb_GB) (k1:c.2.2.1=((c.2.1).length:Int)) (k2:(c.2.1).length≤KL) (k3:List.length b.1=0) (k4:c.1=c.2.1.length):ixJ (fun c:spb_GC=>c.2.2.1) (fun c:spb_GC=>c.2.1) spb_K (0,c,b):=ixJ0 k1 (Nat.le_trans k2 (by decide)) ⟨k2,by rw[k3];decide,k4⟩
end Go.Proofs.YtmegbepjdololaaDoor
