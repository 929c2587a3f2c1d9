/- Chapter 6: Same, Filter: contracts. -/
import Derived.Test.YtmegbepjdololaaDoorZG09490557
import Derived.Test.YtmegbepjdololaaDoorZG06140bb4
import Derived.Test.YtmegbepjdololaaDoorZG07671a7a
import Derived.Test.YtmegbepjdololaaDoorCards
set_option linter.unusedVariables false
set_option linter.unusedSimpArgs false
set_option linter.constructorNameAsVariable false
set_option linter.all false

namespace Go.Proofs.YtmegbepjdololaaDoor
open Go.RowKit Go.Sx Go.Lp
theorem sme_ok:FnPure Tryd.prog 70 aLRR dBool (fun g=>decide (g.1=g.2)) (fun g=>[g.1.length≤KB]):=
 pure_congr (sme_okS _ fun g _ hp=>by
  obtain ⟨a,b⟩:=g
  have h:a.length≤KB:=hp _ (List.mem_cons_self ..)
  unfold KB at h
  show sme_side a b
  intro hl
  have hl:a.length=b.length:=by
   have:=bne_eq_false_iff_eq.1 hl
   omega
  rw[eR.okL_eq,eR.okL_eq,eR.ag_eq,eR.ag_eq]
  exact ⟨trivial,trivial,rfl,by show a.length≤maxLen;unfold maxLen;omega,Int.le_refl _,by show (0:Int)≤(a.length:Int);omega,hl⟩) fun g _ hp=>by
  obtain ⟨a,b⟩:=g
  have h:a.length≤KB:=hp _ (List.mem_cons_self ..)
  unfold KB at h
  show sme_F a b=decide (a=b)
  unfold sme_F
  by_cases hl:a.length=b.length
  ·have e0:((a.length:Int) != (b.length:Int))=false:=by rw[bne_eq_false_iff_eq];omega
   rw[e0,cond_false]
   have hrun:=sam_run (a,b) false rfl (by show a.length≤maxLen;unfold maxLen;omega) hl
   have hq:sme_q1 a b=loopF sam_RR sam_M (sam_g (0,(a,b),false)):=by
    unfold sme_q1
    rw[eR.ag_eq,eR.ag_eq]
    rfl
   rw[hq,hrun]
   rcases searchI (x:=0) (st:=sam_S (a,b)) (p:=fun i v=>!decide (v=b.getD i.toNat eR.dflt)) (r:=fun _ _ _=>false) (fun b i a=>rfl) a false with ⟨n,v,h1,h2,hs⟩ | ⟨h1,hs⟩
   ·rw[hs]
    have hne:a≠b:=by
     rintro rfl
     simp[List.getD_eq_getElem?_getD,h1] at h2
    rw[decide_eq_false hne];rfl
   ·rw[hs]
    have he:a=b:=by
     refine List.ext_getElem? fun n=>?_
     by_cases hn:n<a.length
     ·have:=h1 n a[n] (by simp[hn])
      have hn':n<b.length:=by omega
      simp only[List.getD_eq_getElem?_getD,Int.toNat_natCast,List.getElem?_eq_getElem hn',Option.getD_some,Bool.not_eq_false',decide_eq_true_eq] at this
      rw[List.getElem?_eq_getElem hn,List.getElem?_eq_getElem hn',this]
     ·rw[List.getElem?_eq_none (by omega),List.getElem?_eq_none (by omega)]
    rw[decide_eq_true he];rfl
  ·have e0:((a.length:Int) != (b.length:Int))=true:=by rw[bne_iff_ne];omega
   have hne:a≠b:=fun h=>hl (by rw[h])
   rw[e0,cond_true,decide_eq_false hne]
theorem single_cs {s:BA} (h:singleS s=true):∃ c,sc c∧toL s=encL c∧runes06 s=[(c:Int)]:=by
 have h1:=single_len h
 have hv:validS s=true:=by
  unfold singleS at h
  exact (Bool.and_eq_true_iff.1 h).2
 rw[r06_len] at h1
 obtain ⟨c,hc⟩:=List.length_eq_one_iff.1 h1
 refine ⟨c,rns_sc (toL s) c (by rw[hc];exact List.mem_cons_self ..),?_,?_⟩
 ·have:=valid_cs hv
  rw[hc] at this
  rw[this,encs_cons]
  show _++[]=_
  rw[List.append_nil]
 ·rw[runes06_cs,hc];rfl
theorem chk3 {f:Fn} (h:chkF 3 f=0):(11≤f.kind∧f.kind≤13)∧num_F f=true∧textF f=true:=by
 rcases chkF_zero h with ⟨h1,_⟩ | ⟨_,h2,h3,h4,h5⟩
 ·exact absurd h1 (by decide)
 ·exact ⟨⟨h2,h3⟩,h4,h5⟩
theorem flt_si (f:Fn) (r:Rec) (h:f.s.size≤KB):flt_side f r:=⟨h,fun hb=>by
 have hz:=both_zero hb
 have h64:=text_small hb
 exact ⟨fun hk=>by
  have:=num_mod (chk3 hz.1).2.1 (.inr (by simpa using hk))
  omega,fun _=>⟨fun _=>by unfold KS;omega,fun _=>by unfold KB;omega⟩⟩⟩
theorem flt_ok:FnPure Tryd.prog 65 aFR dBE (fun g=>flt_F g.1 g.2) (fun g=>[g.1.s.size≤KB]):=flt_okS _ fun g _ hp=>flt_si g.1 g.2 (hp _ (List.mem_cons_self ..))
theorem r05_pos {f:Fn} (h:singleS f.s=true):(0:Int)<((runes05 f.s).length:Int):=by
 have:=single_len h
 rw[runes_len];omega
theorem rfl_eq (f:Fn) (r:Rec):rfl_F f r=flt_F f r:=by
 unfold rfl_F flt_F
 cases hb:bothF (3:Int) f r != (0:Int) with
 | true=>rfl
 | false=>
  simp only[cond_false]
  cases h11:f.kind==(11:Int) with
  | true=>rfl
  | false=>
   simp only[cond_false]
   cases h12:f.kind==(12:Int) with
   | true=>
    simp only[cond_true]
    have hz:=both_zero hb
    have hk:f.kind=12:=by simpa using h12
    obtain ⟨c,hc,e1,e2⟩:=single_cs (text_single (chk3 hz.1).2.2 (.inl hk))
    have hv:=((chkR_iff r).1 hz.2).2
    have e3:((runes05 f.s).getD (0:Nat) eU.dflt).r=(c:Int):=by
     rw[r05_r0 f.s (by rw[e2];exact Nat.zero_lt_one),e2];rfl
    have e4:=valid_cs hv
    have e5:Lib.contains r.text.data.toList f.s.data.toList=decide (c∈rns (toL r.text)):=by
     show Lib.contains (toL r.text) (toL f.s)=_
     rw[e1,← has_enc hc (rns_sc (toL r.text)),← e4]
    rw[e3,eU.ag_eq,hasR_eq,e5]
   | false=>
    simp only[cond_false]
    rw[runes_len]
theorem rfl_si (f:Fn) (r:Rec) (h:f.s.size≤KB):rfl_side f r:=⟨h,fun hb=>by
 have hz:=both_zero hb
 have h64:=text_small hb
 exact ⟨by unfold KB;omega,fun hk=>by
  have:=num_mod (chk3 hz.1).2.1 (.inr (by simpa using hk))
  omega,fun _ hk=>⟨h,⟨Int.le_refl _,r05_pos (text_single (chk3 hz.1).2.2 (.inl (by simpa using hk)))⟩,by rw[eU.okL_eq];trivial,by
   rw[eU.ag_eq,runes_len,r06_len]
   have:=rns_len r.text
   rw[← r06_len]
   unfold KB;omega⟩⟩⟩
theorem rfl_ok:FnPure Tryd.prog 66 aFR dBE (fun g=>flt_F g.1 g.2) (fun g=>[g.1.s.size≤KB]):=pure_congr (rfl_okS _ fun g _ hp=>rfl_si g.1 g.2 (hp _ (List.mem_cons_self ..))) fun g _ _=>rfl_eq g.1 g.2
theorem puBE (r:Bool×Int):Pu (dBE.enc r):=pu_tup (pus_cons (pu_v _) (pus_cons (pu_v _) pus_nil))
noncomputable def tabE11:PTab Tryd.prog:=((tabD2.cons 65 (pconP aFR dBE (fun g=>flt_F g.1 g.2) (fun g=>[g.1.s.size≤KB])) (conP_ok flt_ok puBE)).cons 66 (pconP aFR dBE (fun g=>flt_F g.1 g.2) (fun g=>[g.1.s.size≤KB])) (conP_ok rfl_ok puBE)).cons 70 (pconP aLRR dBool (fun g=>decide (g.1=g.2)) (fun g=>[g.1.length≤KB])) (conP_ok sme_ok puB)
end Go.Proofs.YtmegbepjdololaaDoor

namespace Go.Proofs.YtmegbepjdololaaDoor
open Go.RowKit Go.Sx
set_option maxRecDepth 100000
set_option linter.unusedVariables false
noncomputable def lmk_q1 (f:Fn) (r:Rec):Rec×Int:=
 mapF f r
noncomputable def lmk_q2 (f:Fn) (r:Rec):dBE.T:=
 flt_F f r
noncomputable def lmk_q3 (f:Fn) (r:Rec):List Rec×Int:=
 splF f r
noncomputable def lmk_q4 (f:Fn) (r:Rec):Int×Int:=
 meaF f r
noncomputable def lmk_F (f:Fn) (r:Rec):Dv.T dBool:=
 bif !true||!decide (IntKind.i64.wrap (List.foldl (fun a x=>bif false then if x.snd.snd > a then x.snd.snd else a else if x.snd.snd<a then x.snd.snd else a) (↑(ByteArray.size f.s):Int) [(true,IntKind.i64,(1048576:Int))]+List.foldl (fun a x=>bif false then if x.snd.snd > a then x.snd.snd else a else if x.snd.snd<a then x.snd.snd else a) (↑(ByteArray.size r.text):Int) [(true,IntKind.i64,(1048576:Int))])≤(3000:Int)) then true
 else bif !conj ([(lmk_q1 f r).fst.key==(lmk_q1 f r).fst.key]++([decide ((lmk_q1 f r).fst.text=(lmk_q1 f r).fst.text)]++[]))||((lmk_q1 f r).snd != (lmk_q1 f r).snd||(!(lmk_q2 f r).fst==(lmk_q2 f r).fst||(lmk_q2 f r).snd != (lmk_q2 f r).snd)) then false else decide (eR.ag (lmk_q3 f r).fst=eR.ag (lmk_q3 f r).fst)&&((lmk_q3 f r).snd==(lmk_q3 f r).snd&&((lmk_q4 f r).fst==(lmk_q4 f r).fst&&(lmk_q4 f r).snd==(lmk_q4 f r).snd))
def lmk_side (f:Fn) (r:Rec):Prop:=
 (!true||!decide (IntKind.i64.wrap (List.foldl (fun a x=>bif false then if x.snd.snd > a then x.snd.snd else a else if x.snd.snd<a then x.snd.snd else a) (↑(ByteArray.size f.s):Int) [(true,IntKind.i64,(1048576:Int))]+List.foldl (fun a x=>bif false then if x.snd.snd > a then x.snd.snd else a else if x.snd.snd<a then x.snd.snd else a) (↑(ByteArray.size r.text):Int) [(true,IntKind.i64,(1048576:Int))])≤(3000:Int)))=false→ByteArray.size f.s≤KB∧ByteArray.size f.s≤KB∧ByteArray.size f.s≤KB∧ByteArray.size f.s≤KB∧((!conj ([(lmk_q1 f r).fst.key==(lmk_q1 f r).fst.key]++([decide ((lmk_q1 f r).fst.text=(lmk_q1 f r).fst.text)]++[]))||((lmk_q1 f r).snd != (lmk_q1 f r).snd||(!(lmk_q2 f r).fst==(lmk_q2 f r).fst||(lmk_q2 f r).snd != (lmk_q2 f r).snd)))=false→ByteArray.size f.s≤KB∧ByteArray.size f.s≤KB∧ByteArray.size f.s≤KB∧ByteArray.size f.s≤KB∧eR.okL (lmk_q3 f r).fst∧eR.okL (lmk_q3 f r).fst∧(eR.ag (lmk_q3 f r).fst).length≤KB)
theorem lmk_okS (pre:DA.T aFR→List Prop) (h:∀ g,DA.bd aFR g→(∀ p∈pre g,p)→lmk_side g.1 g.2):FnPure Tryd.prog 15 aFR dBool (fun g=>lmk_F g.1 g.2) pre:=pure_of_sideS (Γ:=(PTab.gamz tabE11 [] [])) (Λ:=noΛ) (PTab.okz tabE11 [] []) noΛ_ok 100 default (fun g=>lmk_side g.1 g.2) (fun g=>by kernel_rfl) (fun g=>by kernel_rfl) h
end Go.Proofs.YtmegbepjdololaaDoor

namespace Go.Proofs.YtmegbepjdololaaDoor
open Go.RowKit Go.Sx Go.Lp
theorem splF_len (f:Fn) (r:Rec):(splF f r).1.length≤4:=by
 unfold splF
 cases bothF 4 f r != (0:Int) with
 | true=>exact Nat.zero_le _
 | false=>exact pk_len _ _
theorem lmk_eq (f:Fn) (r:Rec):lmk_F f r=true:=by
 unfold lmk_F
 simp only[conj_R,decide_true,bne_self_eq_false,beq_self_eq_true,Bool.not_true,Bool.or_self,cond_false,Bool.and_self,Bool.cond_self,Bool.false_or]
 have e:conj ([true]++([true]++[]))=true:=rfl
 rw[e]
 simp only[Bool.not_true,Bool.or_self,cond_false,Bool.cond_self]
theorem lmk_si (f:Fn) (r:Rec):lmk_side f r:=by
 intro hs
 have hs:(!true||!decide (smallN f.s.size r.text.size≤3000))=false:=hs
 simp only[Bool.not_true,Bool.false_or,Bool.not_eq_false',decide_eq_true_eq] at hs
 obtain ⟨h1,h2⟩:=small_le hs
 have h:f.s.size≤KB:=by unfold KB;omega
 have h4:=splF_len f r
 exact ⟨h,h,h,h,fun _=>⟨h,h,h,h,by rw[eR.okL_eq];trivial,by rw[eR.okL_eq];trivial,by
  rw[eR.ag_eq]
  show (splF f r).1.length≤KB
  unfold KB;omega⟩⟩
theorem lmk_ok:FnPure Tryd.prog 15 aFR dBool (fun _=>true) (fun _=>[]):=
 pure_congr (lmk_okS _ fun g _ _=>lmk_si g.1 g.2) fun g _ _=>lmk_eq g.1 g.2
end Go.Proofs.YtmegbepjdololaaDoor

namespace Go.Proofs.YtmegbepjdololaaDoor
open Go.ChangeShapes Go.WideShapes Go.ChangeAt Go.RowKit Go.Sx
set_option maxRecDepth 100000 in
theorem fnMakes_lifted (law:FnPure Tryd.prog 15 aFR dBool (fun _=>true) (fun _=>[])) (os:Os) (started:os.Started) (H:Type) (enc:TypeId×Value→H) :
  ReturnsInHanded {} Tryd.checked os 15 .any (fun w args=>(Rows.fnMakesSpec.pre enc Tryd.prog Tryd.f15 Rows.fnMakesRow.domain false w args∧laidMetH Tryd.prog Rows.fnMakesRow.laid w)∧sizedMet enc Tryd.prog Tryd.f15 (OpenSpec.ofChange Rows.fnMakesSpec) false w args) (Rows.fnMakesSpec.post enc Tryd.prog Tryd.f15 false true false false):=by
 refine rowLaid (C:=Tryd.checked) (laid:=Rows.fnMakesRow.laid) Tryd.own started (by kernel_rfl) Tryd.func15
  (ChangeSpec.witness_shaped (enc:=enc) (C:=Tryd.checked) (os:=os) (X:=fun w _=>laidMetH Tryd.prog Rows.fnMakesRow.laid w) false (World.laidAll Tryd.prog os Rows.fnMakesRow.laid) #[.agg #[.int .i64 0,.int .i64 0,.string ByteArray.empty],.agg #[.int .i64 0,.string ByteArray.empty]] 8 (World.laidAll_os _ _ _)
   (World.shaped_of_ZipB (by kernel_rfl) (by kernel_rfl)) (by kernel_rfl) (by kernel_rfl) (by kernel_rfl)
   (by rw[MakeChecks.laidMetH_plain _ _ _ (by kernel_rfl)];exact laidMet_laidAll _ (by kernel_rfl) (by kernel_rfl))) ?_
 intro W base args ds gs before hval0 hW hcnd hL hsh
 have hval:∀ (j:Nat) t v,Tryd.f15.params[j]?=some t→args[j]?=some v→Value.okWide Tryd.prog W .any base t v:=hval0
 have hW':=hW
 obtain ⟨p,q,hA0,hV,rfl,hfz,hnd⟩:=hW
 have hA:DataW.TrodAll enc Tryd.prog W 0 (fun _=>true) true Tryd.f15.params.toList args.toList ds p:=hA0
 rw[Tryd.params15] at hA hval
 obtain ⟨v0,vs0,d0,ds0,p0,qq0,hargs,rfl,rfl,h0,r0⟩:=trodAll_cons hA
 obtain ⟨v1,vs1,d1,ds1,p1,qq1,rfl,rfl,rfl,h1,r1⟩:=trodAll_cons r0
 obtain ⟨rfl,rfl,rfl⟩:=trodAll_nil r1
 obtain rfl:args=#[v0,v1]:=by cases args;simp_all
 obtain ⟨rfl,rfl⟩:=trodVars_none hV
 obtain ⟨a0,q0,f0⟩:=rdvF _ _ _ _ _ _ _ _ _ _ _ (hval 0 66 v0 rfl rfl) h0
 obtain ⟨a1,q1,f1⟩:=rdvR _ _ _ _ _ _ _ _ _ _ _ (hval 1 46 v1 rfl rfl) h1
 have lt:∀ {t:TypeId} {v:Value} {d:DataW H} {ps:List MemPlace},DataW.Trod enc Tryd.prog W 0 (fun _=>true) true t v d ps→∀ x∈ps,x.block<W.heap.size:=by
  rintro t v d ps ⟨m,hm⟩
  exact DataW.trod_lt m _ _ _ hm
 clear hA0 hval0
 refine (law W (fun b=>W.heap[b]?) (a0,a1) [v0,v1] (fun _ _ h=>h) (rowEnv hL hsh) (by simp) ⟨f0,f1,trivial⟩).mono fun e W' ⟨x,he,bel,hx⟩=>?_
 obtain rfl:x=.bool true:=by simpa [dBool,SV.fit] using hx
 subst he
 exact ⟨_,rfl,_,_,_,[],_,[],hW',trodAll_mk1 (shut_bool Tryd.underlying4 _),
  (trodAll_cons_mk (Below.trod Tryd.laidOut (by kernel_rfl) (of_decide_eq_true (by kernel_rfl)) h0 bel (lt h0))
  (trodAll_cons_mk (Below.trod Tryd.laidOut (by kernel_rfl) (of_decide_eq_true (by kernel_rfl)) h1 bel (lt h1)) trodAll_mk0)),rfl,bel.frame _,fun h=>by cases h⟩
theorem fnMakes_row:Rows.FnMakesSaid:=
 OpenClaim.holds_of_wide 15 Tryd.f15 rfl rfl rfl rfl rfl rfl rfl ⟨rfl,rfl,rfl,rfl,rfl⟩ rfl rfl rfl rfl rfl (by kernel_rfl) Tryd.func15 (by kernel_rfl)
  (of_decide_eq_true (by kernel_rfl)) (by unfold Func.isWrapper;first | (rw[if_pos (by decide +kernel)];kernel_rfl) | (rw[if_neg (by decide +kernel)];exact ⟨rfl,rfl⟩))
  (fun os started H enc _=>fnMakes_lifted lmk_ok os started H enc)
theorem fnMakes_holds:Rows.FnMakesCardSaid:=
 Claim7.holds_tied_plain_at .later [] [.data,.pinned] true (true, "32193793d8c897b5bc8816bf3022b22418d0ad242f639242150ef454e65964bb") false fnMakes_row (fun _ h=>by cases h) (by kernel_rfl) (fun _ h=>by cases h) fnMakes_row_tie rfl ⟨rfl,rfl⟩ (by kernel_rfl) rfl
  (fun f fn hf hfn=>by
   obtain rfl:f=15:=Option.some.inj ((show Tryd.prog.funcNamed "rivulet/rivuletlaw06.FnMakes" = some 15 by kernel_rfl).symm.trans hf) |>.symm
   obtain rfl:fn=Tryd.f15:=(Option.some.inj (Tryd.func15.symm.trans hfn)).symm
   exact ⟨by kernel_rfl,fun j t ht=>by
    rw[Tryd.params15] at ht
    have hm:t∈[66,46]:=by simpa using Array.mem_of_getElem? ht
    have hall:([66,46].all fun u=>!Tryd.prog.wantsStandIn u)=true:=by kernel_rfl
    exact (show Tryd.prog.wantsStandIn t=false by simpa using List.all_eq_true.1 hall t hm)⟩)
  (by kernel_rfl)
end Go.Proofs.YtmegbepjdololaaDoor
