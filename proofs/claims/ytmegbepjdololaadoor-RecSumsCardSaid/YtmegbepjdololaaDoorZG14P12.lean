/- Chapter 5: the law RecSums. Printed by treegen.py. -/
import Derived.Test.YtmegbepjdololaaDoorZG13f628ef
import Derived.Test.YtmegbepjdololaaDoorZG064a11a0
import Derived.Test.YtmegbepjdololaaDoorZG08af0343
import Derived.Test.YtmegbepjdololaaDoorCards
set_option linter.unusedVariables false
set_option linter.unusedSimpArgs false
set_option linter.constructorNameAsVariable false
set_option linter.all false

namespace Go.Proofs.YtmegbepjdololaaDoor
open Go.RowKit Go.Sx
set_option maxRecDepth 100000
set_option linter.unusedVariables false
noncomputable def tabY9:MTab Tryd.prog:=tabY2b.cons 40 (pconR aLM5 (Rv.D rLR5) listC (fun l=>[l.length≤1000])) (conR_ok rlst_ok)
noncomputable def lsm5_q1 (a:List Many) (b:List Many):dBool.T:=
 few5_F (eR.ag (List.map (fun x=>x.r) (eM.ag a)))
noncomputable def lsm5_q2 (a:List Many) (b:List Many):dBool.T:=
 few5_F (eR.ag (List.map (fun x=>x.r) (eM.ag b)))
noncomputable def lsm5_q3 (a:List Many) (b:List Many):List Many×Int:=
 sumC (eM.ag a) (eM.ag b)
noncomputable def lsm5_q4 (a:List Many) (b:List Many):Int:=
 bagF (eM.ag a)
noncomputable def lsm5_q5 (a:List Many) (b:List Many):dBool.T:=
 rare5_F (eM.ag a)
noncomputable def lsm5_q6 (a:List Many) (b:List Many):Ex ×
 lo_G:=
 loopF (fun g=>lo_R g.fst g.snd.fst g.snd.snd.fst g.snd.snd.snd.fst g.snd.snd.snd.snd.fst g.snd.snd.snd.snd.snd.fst) lo_M ((↑(eM.lst (bif (lsm5_q4 a b) != (0:Int) then (0:Nat) else a.length) (eM.els a)).length:Int),(0:Int),(),[],(eM.lst (bif (lsm5_q4 a b) != (0:Int) then (0:Nat) else a.length) (eM.els a)).length,eM.ag (eM.lst (bif (lsm5_q4 a b) != (0:Int) then (0:Nat) else a.length) (eM.els a)),LoopState.ready,none)
noncomputable def lsm5_q7 (a:List Many) (b:List Many):List Rec:=
 listC (eM.ag a)
noncomputable def lsm5_F (a:List Many) (b:List Many):Dv.T dBool:=
 bif decide ((↑a.length:Int) > (100:Int))||(decide ((↑b.length:Int) > (100:Int))||(!(lsm5_q1 a b)||!(lsm5_q2 a b))) then true
 else bif !decide (eM.ag (lsm5_q3 a b).fst=eM.ag (lsm5_q3 a b).fst)||((lsm5_q3 a b).snd != (lsm5_q3 a b).snd||(lsm5_q4 a b) != (lsm5_q4 a b)) then false else bif !(lsm5_q5 a b) then true else decide (eR.ag (lsm5_q6 a b).snd.snd.snd.snd.fst=eR.ag (lsm5_q7 a b))
def lsm5_side (a:List Many) (b:List Many):Prop:=
 (!true)=false→((!decide ((↑a.length:Int) > (100:Int)))=true→(!decide ((↑b.length:Int) > (100:Int)))=true→eM.okL a)∧((!decide ((↑a.length:Int) > (100:Int)))=true→(!decide ((↑b.length:Int) > (100:Int)))=true→(eM.ag a).length≤(1000000:Nat))∧((!decide ((↑a.length:Int) > (100:Int)))=true→(!decide ((↑b.length:Int) > (100:Int)))=true→eR.okL (List.map (fun x=>x.r) (eM.ag a)))∧((!decide ((↑a.length:Int) > (100:Int)))=true→(!decide ((↑b.length:Int) > (100:Int)))=true→(!!(lsm5_q1 a b))=true→eM.okL b)∧((!decide ((↑a.length:Int) > (100:Int)))=true→(!decide ((↑b.length:Int) > (100:Int)))=true→(!!(lsm5_q1 a b))=true→(eM.ag b).length≤(1000000:Nat))∧((!decide ((↑a.length:Int) > (100:Int)))=true→(!decide ((↑b.length:Int) > (100:Int)))=true→(!!(lsm5_q1 a b))=true→eR.okL (List.map (fun x=>x.r) (eM.ag b)))∧((decide ((↑a.length:Int) > (100:Int))||(decide ((↑b.length:Int) > (100:Int))||(!(lsm5_q1 a b)||!(lsm5_q2 a b))))=false→eM.okL a∧eM.okL b∧(eM.ag a).length≤(200000:Nat)∧(eM.ag b).length≤(200000:Nat)∧eM.okL a∧eM.okL b∧(eM.ag a).length≤(200000:Nat)∧(eM.ag b).length≤(200000:Nat)∧eM.okL (lsm5_q3 a b).fst∧eM.okL (lsm5_q3 a b).fst∧((!!decide (eM.ag (lsm5_q3 a b).fst=eM.ag (lsm5_q3 a b).fst))=true→(!(lsm5_q3 a b).snd != (lsm5_q3 a b).snd)=true→eM.okL a)∧((!!decide (eM.ag (lsm5_q3 a b).fst=eM.ag (lsm5_q3 a b).fst))=true→(!(lsm5_q3 a b).snd != (lsm5_q3 a b).snd)=true→(eM.ag a).length≤KB)∧((!!decide (eM.ag (lsm5_q3 a b).fst=eM.ag (lsm5_q3 a b).fst))=true→(!(lsm5_q3 a b).snd != (lsm5_q3 a b).snd)=true→eM.okL a)∧((!!decide (eM.ag (lsm5_q3 a b).fst=eM.ag (lsm5_q3 a b).fst))=true→(!(lsm5_q3 a b).snd != (lsm5_q3 a b).snd)=true→(eM.ag a).length≤KB)∧((!decide (eM.ag (lsm5_q3 a b).fst=eM.ag (lsm5_q3 a b).fst)||((lsm5_q3 a b).snd != (lsm5_q3 a b).snd||(lsm5_q4 a b) != (lsm5_q4 a b)))=false→eM.okL a∧((!(lsm5_q5 a b))=false→eM.okL a∧(eM.ag a).length≤KB∧(∀ (e:Nat),(e<bif (lsm5_q4 a b) != (0:Int) then (0:Nat) else a.length)→eM.Ok (eM.els a e))∧(eM.lst (bif (lsm5_q4 a b) != (0:Int) then (0:Nat) else a.length) (eM.els a)).length≤KS∧(∀ (e:Nat),e<(eM.lst (bif (lsm5_q4 a b) != (0:Int) then (0:Nat) else a.length) (eM.els a)).length→True)∧CodeIs (rangeOf Tryd.prog (80:Nat) (0:Nat)).snd.fst (rangeOf Tryd.prog (80:Nat) (0:Nat)).snd.fst∧CodeIs (rangeOf Tryd.prog (80:Nat) (0:Nat)).snd.snd (rangeOf Tryd.prog (80:Nat) (0:Nat)).snd.snd∧Lp.ixJ (fun c=>c.fst) (fun c=>c.snd.snd) lo_K (lo_f ((↑(eM.lst (bif (lsm5_q4 a b) != (0:Int) then (0:Nat) else a.length) (eM.els a)).length:Int),(0:Int),(),[],(eM.lst (bif (lsm5_q4 a b) != (0:Int) then (0:Nat) else a.length) (eM.els a)).length,eM.ag (eM.lst (bif (lsm5_q4 a b) != (0:Int) then (0:Nat) else a.length) (eM.els a)),LoopState.ready,none))∧eM.okL a∧(eM.ag a).length≤(1000:Nat)∧(lsm5_q6 a b).snd.snd.snd.snd.fst.length≤(lsm5_q6 a b).snd.snd.snd.snd.fst.length∧(∀ (e:Nat),e<(lsm5_q6 a b).snd.snd.snd.snd.fst.length→eR.Ok ((ElE.fn (eR.els (lsm5_q6 a b).snd.snd.snd.snd.fst)).at e))∧eR.okL (lsm5_q7 a b)∧(eR.ag (lsm5_q6 a b).snd.snd.snd.snd.fst).length≤KB)))
theorem lsm5_okS (pre:DA.T aLMM2→List Prop) (h:∀ g,DA.bd aLMM2 g→(∀ p∈pre g,p)→lsm5_side g.1 g.2):FnPure Tryd.prog 7 aLMM2 dBool (fun g=>lsm5_F g.1 g.2) pre:=pure_of_sideS (Γ:=(MTab.gamz tabY9 [] [])) (Λ:=lamY6) (MTab.okz tabY9 [] []) lamY6_ok 100 default (fun g=>lsm5_side g.1 g.2) (fun g=>by kernel_rfl) (fun g=>by kernel_rfl) h
end Go.Proofs.YtmegbepjdololaaDoor

namespace Go.Proofs.YtmegbepjdololaaDoor
open Go.RowKit Go.Sx Go.Lp
set_option maxRecDepth 100000
theorem listM_len:∀ {l:List Many},(∀ v∈l,v.n≤1048576)→(listM l).length≤1048576 * l.length
 | [],_=>Nat.le_refl _
 | v :: l,h=>by
  have h1:=h v (List.mem_cons_self ..)
  have h2:=listM_len (l:=l) fun x hx=>h x (List.mem_cons_of_mem _ hx)
  unfold listM at h2 ⊢
  rw[List.flatMap_cons,List.length_append,repR_len,List.length_cons]
  omega
noncomputable def curM (l:List Many):List Many:=bif bagF l != (0:Int) then [] else l
theorem curM_lst (a:List Many):eM.lst (bif bagF a != (0:Int) then 0 else a.length) (eM.els a)=curM a:=by
 unfold curM
 cases bagF a != (0:Int)
 ·exact El.lst_els _ a
 ·rfl
theorem curM_list (a:List Many):listM (curM a)=listC a:=by
 unfold curM listC
 cases bagF a != (0:Int) <;> rfl
theorem curM_bnd {a:List Many} (h:a.length≤1000):Bnd (curM a) [] 0:=by
 unfold curM
 cases hz:bagF a != (0:Int) with
 | true=>exact ⟨Nat.zero_le _,fun e=>(by decide:(0:Int)≤1048576),by rw[List.length_nil];exact Int.le_refl _⟩
 | false=>
  have hb:bagF a=0:=by simpa using hz
  exact bnd_bag h hb
theorem curM_len (a:List Many):(curM a).length≤a.length:=by
 unfold curM
 cases bagF a != (0:Int)
 ·exact Nat.le_refl _
 ·exact Nat.zero_le _
theorem listC_len {a:List Many} (h:a.length≤1000):(listC a).length≤1048576000:=by
 unfold listC
 cases hz:bagF a != (0:Int) with
 | true=>exact Nat.zero_le _
 | false=>
  have hb:bagF a=0:=by simpa using hz
  have:=listM_len (l:=a) fun v hv=>(bag_pos hb v hv).2
  show (listM a).length≤_
  omega
theorem sums_q6 {a b:List Many} (h:a.length≤1000):lsm5_q6 a b=(.exit 0,((curM a).length:Int),((curM a).length:Int),(),listC a,(curM a).length,curM a,(.ready,none)):=by
 rw[← curM_list,← lo_run (curM a) (curM_bnd h)]
 unfold lsm5_q6 lsm5_q4
 simp only[El.ag_eq,curM_lst]
theorem lsm5_ok:FnPure Tryd.prog 7 aLMM2 dBool (fun _=>true) (fun _=>[]):=by
 refine pure_congr (lsm5_okS _ fun g _ _=>?_) fun g _ _=>?_
 ·obtain ⟨a,b⟩:=g
  show lsm5_side a b
  unfold lsm5_side
  simp only[El.okL_eq,El.ag_eq,lsm5_q4,curM_lst]
  have hs:a.length≤1000→(lsm5_q6 a b).snd.snd.snd.snd.fst=listC a:=fun h=>by rw[sums_q6 h]
  refine fun _=>⟨fun _ _=>trivial,fun h _=>?_,fun _ _=>trivial,fun _ _ _=>trivial,fun _ h _=>?_,fun _ _ _=>trivial,fun h=>?_⟩
  ·have:=of_decide_eq_false (by simpa only [Bool.not_eq_true'] using h)
   omega
  ·have:=of_decide_eq_false (by simpa only [Bool.not_eq_true'] using h)
   omega
  ·simp only[Bool.or_eq_false_iff,decide_eq_false_iff_not] at h
   obtain ⟨h1,h2,h3⟩:=h
   have ha:a.length≤1000:=by omega
   have hr:=hs ha
   have hc:=curM_len a
   have hll:=listC_len ha
   rw[hr]
   have hJ:Lp.ixJ (fun c:lo_GC=>c.1) (fun c=>c.2.2) lo_K (lo_f (((curM a).length:Int),(0:Int),(),[],(curM a).length,curM a,LoopState.ready,none)):=ixJ0 rfl (by show (curM a).length≤maxLen;unfold maxLen;omega) ⟨rfl,rfl,curM_bnd ha⟩
   unfold KB KS
   repeat' (first | exact rfl | exact hJ | apply And.intro | intro _)
   all_goals first | trivial | omega | exact eM.ok_els _ _ | exact eR.ok_els _ _
 ·obtain ⟨a,b⟩:=g
  show lsm5_F a b=true
  unfold lsm5_F
  simp only[El.ag_eq]
  by_cases ha:a.length≤1000
  ·rw[sums_q6 ha]
   have:lsm5_q7 a b=listC a:=by unfold lsm5_q7;rw[El.ag_eq]
   simp[this]
  ·rw[decide_eq_true (p:=(a.length:Int) > 100) (by omega)]
   rfl
end Go.Proofs.YtmegbepjdololaaDoor

namespace Go.Proofs.YtmegbepjdololaaDoor
open Go.ChangeShapes Go.WideShapes Go.ChangeAt Go.RowKit Go.Sx
set_option maxRecDepth 100000 in
theorem recSums_lifted (law:FnPure Tryd.prog 7 aLMM2 dBool (fun _=>true) (fun _=>[])) (os:Os) (started:os.Started) (H:Type) (enc:TypeId×Value→H) :
  ReturnsInHanded {} Tryd.checked os 7 .any (fun w args=>(Rows.recSumsSpec.pre enc Tryd.prog Tryd.f7 Rows.recSumsRow.domain false w args∧laidMetH Tryd.prog Rows.recSumsRow.laid w)∧sizedMet enc Tryd.prog Tryd.f7 (OpenSpec.ofChange Rows.recSumsSpec) false w args) (Rows.recSumsSpec.post enc Tryd.prog Tryd.f7 false true false false):=by
 refine rowLaid (C:=Tryd.checked) (laid:=Rows.recSumsRow.laid) Tryd.own started (by kernel_rfl) Tryd.func7
  (ChangeSpec.witness_shaped (enc:=enc) (C:=Tryd.checked) (os:=os) (X:=fun w _=>laidMetH Tryd.prog Rows.recSumsRow.laid w) false (World.laidAll Tryd.prog os Rows.recSumsRow.laid) #[.slice none 0 0,.slice none 0 0] 8 (World.laidAll_os _ _ _)
   (World.shaped_of_ZipB (by kernel_rfl) (by kernel_rfl)) (by kernel_rfl) (by kernel_rfl) (by kernel_rfl)
   (by rw[MakeChecks.laidMetH_plain _ _ _ (by kernel_rfl)];exact laidMet_laidAll _ (by kernel_rfl) (by kernel_rfl))) ?_
 intro W base args ds gs before hval0 hW hcnd hL hsh
 have hval:∀ (j:Nat) t v,Tryd.f7.params[j]?=some t→args[j]?=some v→Value.okWide Tryd.prog W .any base t v:=hval0
 have hW':=hW
 obtain ⟨p,q,hA0,hV,rfl,hfz,hnd⟩:=hW
 have hA:DataW.TrodAll enc Tryd.prog W 0 (fun _=>true) true Tryd.f7.params.toList args.toList ds p:=hA0
 rw[Tryd.params7] at hA hval
 obtain ⟨v0,vs0,d0,ds0,p0,qq0,hargs,rfl,rfl,h0,r0⟩:=trodAll_cons hA
 obtain ⟨v1,vs1,d1,ds1,p1,qq1,rfl,rfl,rfl,h1,r1⟩:=trodAll_cons r0
 obtain ⟨rfl,rfl,rfl⟩:=trodAll_nil r1
 obtain rfl:args=#[v0,v1]:=by cases args;simp_all
 obtain ⟨rfl,rfl⟩:=trodVars_none hV
 obtain ⟨a0,q0,f0⟩:=rdvLM _ _ _ _ _ _ _ _ _ _ _ (hval 0 34 v0 rfl rfl) h0
 obtain ⟨a1,q1,f1⟩:=rdvLM _ _ _ _ _ _ _ _ _ _ _ (hval 1 34 v1 rfl rfl) h1
 have lt:∀ {t:TypeId} {v:Value} {d:DataW H} {ps:List MemPlace},DataW.Trod enc Tryd.prog W 0 (fun _=>true) true t v d ps→∀ x∈ps,x.block<W.heap.size:=by
  rintro t v d ps ⟨m,hm⟩
  exact DataW.trod_lt m _ _ _ hm
 clear hA0 hval0
 refine (law W (fun b=>W.heap[b]?) (a0,a1) [v0,v1] (fun _ _ h=>h) (rowEnv hL hsh) (by simp) ⟨f0,f1,trivial⟩).mono fun e W' ⟨x,he,bel,hx⟩=>?_
 obtain rfl:x=.bool true:=by simpa [dBool,SV.fit] using hx
 subst he
 exact ⟨_,rfl,_,_,_,[],_,[],hW',trodAll_mk1 (shut_bool Tryd.underlying4 _),
  (trodAll_cons_mk (Below.trod Tryd.laidOut (by kernel_rfl) (of_decide_eq_true (by kernel_rfl)) h0 bel (lt h0))
  (trodAll_cons_mk (Below.trod Tryd.laidOut (by kernel_rfl) (of_decide_eq_true (by kernel_rfl)) h1 bel (lt h1)) trodAll_mk0)),rfl,bel.frame _,fun h=>by cases h⟩
theorem recSums_row:Rows.RecSumsSaid:=
 OpenClaim.holds_of_wide 7 Tryd.f7 rfl rfl rfl rfl rfl rfl rfl ⟨rfl,rfl,rfl,rfl,rfl⟩ rfl rfl rfl rfl rfl (by kernel_rfl) Tryd.func7 (by kernel_rfl)
  (of_decide_eq_true (by kernel_rfl)) (by unfold Func.isWrapper;first | (rw[if_pos (by decide +kernel)];kernel_rfl) | (rw[if_neg (by decide +kernel)];exact ⟨rfl,rfl⟩))
  (fun os started H enc _=>recSums_lifted lsm5_ok os started H enc)
theorem recSums_holds:Rows.RecSumsCardSaid:=
 Claim7.holds_tied_plain_at .later [] [.data,.pinned] true (true, "32193793d8c897b5bc8816bf3022b22418d0ad242f639242150ef454e65964bb") false recSums_row (fun _ h=>by cases h) (by kernel_rfl) (fun _ h=>by cases h) recSums_row_tie rfl ⟨rfl,rfl⟩ (by kernel_rfl) rfl
  (fun f fn hf hfn=>by
   obtain rfl:f=7:=Option.some.inj ((show Tryd.prog.funcNamed "rivulet/rivuletlaw05.RecSums" = some 7 by kernel_rfl).symm.trans hf) |>.symm
   obtain rfl:fn=Tryd.f7:=(Option.some.inj (Tryd.func7.symm.trans hfn)).symm
   exact ⟨by kernel_rfl,fun j t ht=>by
    rw[Tryd.params7] at ht
    have hm:t∈[34,34]:=by simpa using Array.mem_of_getElem? ht
    have hall:([34,34].all fun u=>!Tryd.prog.wantsStandIn u)=true:=by kernel_rfl
    exact (show Tryd.prog.wantsStandIn t=false by simpa using List.all_eq_true.1 hall t hm)⟩)
  (by kernel_rfl)
end Go.Proofs.YtmegbepjdololaaDoor
