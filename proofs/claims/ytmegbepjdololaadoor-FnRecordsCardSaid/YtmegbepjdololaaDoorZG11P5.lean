/- Chapter 6: the law FnRecords: its contract. -/
import Derived.Test.YtmegbepjdololaaDoorZG10cd1c0f
import Derived.Test.YtmegbepjdololaaDoorZG074170f6
import Derived.Test.YtmegbepjdololaaDoorCards
set_option linter.unusedVariables false
set_option linter.unusedSimpArgs false
set_option linter.constructorNameAsVariable false
set_option linter.all false

namespace Go.Proofs.YtmegbepjdololaaDoor
open Go.RowKit Go.Sx Go.Lp
set_option maxRecDepth 100000
def cutN (n:Nat):Int:=List.foldl (fun a (x:Bool×IntKind×Int)=>bif false then if x.2.2 > a then x.2.2 else a else if x.2.2<a then x.2.2 else a) (n:Int) [(true,IntKind.i64,(100:Int))]
theorem cutN_eq (n:Nat):cutN n=if (100:Int)<(n:Int) then 100 else (n:Int):=rfl
theorem cutN_nat (l:List Many):(cutN l.length).toNat=(l.take 100).length:=by
 rw[cutN_eq,List.length_take]
 split <;> omega
theorem cutN_le (n:Nat):0≤cutN n∧cutN n≤(n:Int):=by
 rw[cutN_eq]
 split <;> omega
theorem cut_lst (l:List Many):eM.lst (cutN l.length).toNat (eM.els l)=l.take 100:=by
 rw[eM.lst_take _ l (by have:=cutN_le l.length;omega),cutN_nat]
 simp only[List.length_take]
 rw[← List.take_eq_take_min]
theorem take_100 (l:List Many):(l.take 100).length≤100:=by rw[List.length_take];omega
theorem splF_rec {f:Fn} {r:Rec}:∀ v∈(splF f r).1,(chkR v != (0:Int)||v.key != r.key)=false:=fun v hv=>by
 cases he:(splF f r).2 != (0:Int) with
 | true=>rw[splF_no he] at hv;exact absurd hv (List.not_mem_nil)
 | false=>
  obtain ⟨hf,hr,hs⟩:=splF_ok he
  rw[hs] at hv
  have hp:=piece_of f r v hv
  rw[piece_rec hp hr,hp.key]
  simp
theorem lrr_q3_eq (f:Fn) (r:Rec) (l:List Many):∃ j,lrr_q3 f r l=(.exit 0,(),r,(splF f r).1,((splF f r).1.length:Int),j,false):=by
 have hl:=splF_len f r
 have hrun:=lra_run (r,(splF f r).1,((splF f r).1.length:Int)) ((),false) rfl (by show (splF f r).1.length≤maxLen;unfold maxLen;omega) trivial
 have hq:lrr_q3 f r l=loopF lra_RR lra_M (lra_g (0,(r,(splF f r).1,((splF f r).1.length:Int)),((),false))):=by
  unfold lrr_q3
  rw[eR.ag_eq]
  rfl
 rcases search (x:=0) (st:=lra_S (r,(splF f r).1,((splF f r).1.length:Int))) (p:=fun v=>chkR v != (0:Int)||v.key != r.key) (r:=fun _ _ _=>((),false)) (fun b i a=>rfl) (splF f r).1 ((),false) with ⟨h1,_⟩ | ⟨h1,hs⟩
 ·obtain ⟨v,hv,hb⟩:=List.any_eq_true.1 h1
  have:=splF_rec v hv
  rw[this] at hb
  cases hb
 ·refine ⟨((splF f r).1.length:Int),?_⟩
  rw[hq,hrun,hs]
  rfl
theorem lrr_q4_eq (f:Fn) (r:Rec) (l:List Many):((lrr_q4 f r l).1=.ret∧(lrr_q4 f r l).2.2.2.2.2.2=true)∨((lrr_q4 f r l).1=.exit 2∧(lrr_q4 f r l).2.2.1=f):=by
 obtain ⟨j,h3⟩:=lrr_q3_eq f r l
 have hl:=take_100 l
 have hrun:=lrb_run (f,l.take 100,((l.take 100).length:Int)) ((),false) rfl (by show (l.take 100).length≤maxLen;unfold maxLen;omega) trivial
 have hq:lrr_q4 f r l=loopF lrb_RR lrb_M (lrb_g (0,(f,l.take 100,((l.take 100).length:Int)),((),false))):=by
  unfold lrr_q4
  rw[h3]
  show loopF _ _ ((),f,eM.lst (cutN l.length).toNat (eM.els l),((cutN l.length).toNat:Int),(0:Int),false)=_
  rw[cut_lst,cutN_nat]
  rfl
 rcases search (x:=2) (st:=lrb_S (f,l.take 100,((l.take 100).length:Int))) (p:=fun v=>!decide (smallN f.s.size v.r.text.size≤3000)) (r:=fun _ _ _=>((),true)) (fun b i a=>rfl) (l.take 100) ((),false) with ⟨_,j,_,a,_,_,hs⟩ | ⟨h1,hs⟩
 ·left
  rw[hq,hrun,hs]
  exact ⟨rfl,rfl⟩
 ·right
  rw[hq,hrun,hs]
  exact ⟨rfl,rfl⟩
theorem lrr_q1_ok (f:Fn) (r:Rec):((mapF f r).2==(0:Int)&&chkR (mapF f r).1 != (0:Int))=false:=by
 cases h:(mapF f r).2==(0:Int) with
 | false=>rfl
 | true=>
  have h:(mapF f r).2=0:=by simpa using h
  obtain ⟨hf,hr⟩:=mapF_yes h
  rw[mapF_ok hf hr,map_rec f r hf hr]
  rfl
theorem lrr_q2_ok (f:Fn) (r:Rec):(decide (((splF f r).1.length:Int) > (4:Int))||(splF f r).2 != (0:Int)&&decide (((splF f r).1.length:Int) > (0:Int)))=false:=by
 have hl:=splF_len f r
 rw[decide_eq_false (by omega),Bool.false_or]
 cases he:(splF f r).2 != (0:Int) with
 | false=>rfl
 | true=>rw[splF_no he];rfl
theorem lrr_eq (f:Fn) (r:Rec) (l:List Many):lrr_F f r l=true:=by
 unfold lrr_F
 show (bif !true||!decide (smallN f.s.size r.text.size≤3000) then true else bif (mapF f r).2==(0:Int)&&chkR (mapF f r).1 != (0:Int) then false else
  bif decide (((splF f r).1.length:Int) > (4:Int))||(splF f r).2 != (0:Int)&&decide (((splF f r).1.length:Int) > (0:Int)) then false else _)=true
 rw[lrr_q1_ok,lrr_q2_ok]
 cases decide (smallN f.s.size r.text.size≤3000) with
 | false=>rfl
 | true=>
  rw[show (!true||!true)=false from rfl,cond_false,cond_false,cond_false]
  obtain ⟨j,h3⟩:=lrr_q3_eq f r l
  rw[h3]
  show (bif exB Ex.ret (Ex.exit 0) then _ else bif exB Ex.ret (lrr_q4 f r l).1 then (lrr_q4 f r l).2.2.2.2.2.2 else _)=true
  rw[show exB Ex.ret (Ex.exit 0)=false from rfl,cond_false]
  rcases lrr_q4_eq f r l with ⟨k1,k2⟩ | ⟨k1,k2⟩
  ·rw[k1,k2];rfl
  ·rw[k1,show exB Ex.ret (Ex.exit 2)=false from rfl,cond_false]
   have e5:lrr_q5 f r l=redF f (l.take 100):=by
    unfold lrr_q5
    rw[k2]
    show redF f (eM.lst (cutN l.length).toNat (eM.els l))=_
    rw[cut_lst]
   rw[e5]
   cases he:(redF f (l.take 100)).2 != (0:Int) with
   | true=>rfl
   | false=>
    rw[Bool.false_or]
    obtain ⟨m,t,h1,h2,h3⟩:=red_rec (f:=f) (l:=l.take 100) (by have:=take_100 l;omega) (by simpa using he)
    rw[h2,h3]
    have h4:l.getD 0 eM.dflt=m:=by
     cases l with
     | nil=>cases h1
     | cons a b=>
      rw[List.take_succ_cons] at h1
      exact (List.cons.inj h1).1
    rw[h4]
    simp
theorem lrr_si (f:Fn) (r:Rec) (l:List Many):lrr_side f r l:=by
 refine ⟨cutN_le l.length,fun hs=>?_⟩
 have hs:(!true||!decide (smallN f.s.size r.text.size≤3000))=false:=hs
 simp only[Bool.not_true,Bool.false_or,Bool.not_eq_false',decide_eq_true_eq] at hs
 obtain ⟨h1,h2⟩:=small_le hs
 have h:f.s.size≤KB:=by unfold KB;omega
 have hl:=splF_len f r
 have hl':=take_100 l
 obtain ⟨j,h3⟩:=lrr_q3_eq f r l
 refine ⟨h,fun _=>⟨h,fun _=>⟨by rw[eR.okL_eq];trivial,?_,fun _=>⟨fun e _=>eM.ok_els l e,?_,fun hx=>⟨fun e _=>eM.ok_els l e,?_,?_,fun k1 k2=>⟨Int.le_refl _,?_⟩⟩⟩⟩⟩⟩
 ·rw[eR.ag_eq]
  exact ixJ0 (by rfl) (by show (splF f r).1.length≤maxLen;unfold maxLen;omega) trivial
 ·rw[h3]
  show ixJ _ _ lrb_K (lrb_f ((),f,eM.lst (cutN l.length).toNat (eM.els l),((cutN l.length).toNat:Int),(0:Int),false))
  rw[cut_lst,cutN_nat]
  exact ixJ0 (by rfl) (by show (l.take 100).length≤maxLen;unfold maxLen;omega) trivial
 ·rcases lrr_q4_eq f r l with ⟨k1,_⟩ | ⟨_,k2⟩
  ·rw[k1] at hx;cases hx
  ·rw[k2];exact h
 ·show (eM.lst (cutN l.length).toNat (eM.els l)).length≤1000
  rw[cut_lst];omega
 ·show (0:Int)<((cutN l.length).toNat:Int)
  rw[cutN_nat]
  have e5:lrr_q5 f r l=redF f (l.take 100):=by
   rcases lrr_q4_eq f r l with ⟨k1,_⟩ | ⟨_,k2⟩
   ·rw[k1] at hx;cases hx
   unfold lrr_q5
   rw[k2]
   show redF f (eM.lst (cutN l.length).toNat (eM.els l))=_
   rw[cut_lst]
  rw[e5] at k1
  obtain ⟨m,t,e,_,_⟩:=red_rec (f:=f) (l:=l.take 100) (by omega) (by simpa using k1)
  rw[e,List.length_cons]
  omega
theorem lrr_ok:FnPure Tryd.prog 12 aFRL dBool (fun _=>true) (fun _=>[]):=
 pure_congr (lrr_okS _ fun g _ _=>lrr_si g.1 g.2.1 g.2.2) fun g _ _=>lrr_eq g.1 g.2.1 g.2.2
end Go.Proofs.YtmegbepjdololaaDoor

namespace Go.Proofs.YtmegbepjdololaaDoor
open Go.ChangeShapes Go.WideShapes Go.ChangeAt Go.RowKit Go.Sx
set_option maxRecDepth 100000 in
theorem fnRecords_lifted (law:FnPure Tryd.prog 12 aFRL dBool (fun _=>true) (fun _=>[])) (os:Os) (started:os.Started) (H:Type) (enc:TypeId×Value→H) :
  ReturnsInHanded {} Tryd.checked os 12 .any (fun w args=>(Rows.fnRecordsSpec.pre enc Tryd.prog Tryd.f12 Rows.fnRecordsRow.domain false w args∧laidMetH Tryd.prog Rows.fnRecordsRow.laid w)∧sizedMet enc Tryd.prog Tryd.f12 (OpenSpec.ofChange Rows.fnRecordsSpec) false w args) (Rows.fnRecordsSpec.post enc Tryd.prog Tryd.f12 false true false false):=by
 refine rowLaid (C:=Tryd.checked) (laid:=Rows.fnRecordsRow.laid) Tryd.own started (by kernel_rfl) Tryd.func12
  (ChangeSpec.witness_shaped (enc:=enc) (C:=Tryd.checked) (os:=os) (X:=fun w _=>laidMetH Tryd.prog Rows.fnRecordsRow.laid w) false (World.laidAll Tryd.prog os Rows.fnRecordsRow.laid) #[.agg #[.int .i64 0,.int .i64 0,.string ByteArray.empty],.agg #[.int .i64 0,.string ByteArray.empty],.slice none 0 0] 8 (World.laidAll_os _ _ _)
   (World.shaped_of_ZipB (by kernel_rfl) (by kernel_rfl)) (by kernel_rfl) (by kernel_rfl) (by kernel_rfl)
   (by rw[MakeChecks.laidMetH_plain _ _ _ (by kernel_rfl)];exact laidMet_laidAll _ (by kernel_rfl) (by kernel_rfl))) ?_
 intro W base args ds gs before hval0 hW hcnd hL hsh
 have hval:∀ (j:Nat) t v,Tryd.f12.params[j]?=some t→args[j]?=some v→Value.okWide Tryd.prog W .any base t v:=hval0
 have hW':=hW
 obtain ⟨p,q,hA0,hV,rfl,hfz,hnd⟩:=hW
 have hA:DataW.TrodAll enc Tryd.prog W 0 (fun _=>true) true Tryd.f12.params.toList args.toList ds p:=hA0
 rw[Tryd.params12] at hA hval
 obtain ⟨v0,vs0,d0,ds0,p0,qq0,hargs,rfl,rfl,h0,r0⟩:=trodAll_cons hA
 obtain ⟨v1,vs1,d1,ds1,p1,qq1,rfl,rfl,rfl,h1,r1⟩:=trodAll_cons r0
 obtain ⟨v2,vs2,d2,ds2,p2,qq2,rfl,rfl,rfl,h2,r2⟩:=trodAll_cons r1
 obtain ⟨rfl,rfl,rfl⟩:=trodAll_nil r2
 obtain rfl:args=#[v0,v1,v2]:=by cases args;simp_all
 obtain ⟨rfl,rfl⟩:=trodVars_none hV
 obtain ⟨a0,q0,f0⟩:=rdvF _ _ _ _ _ _ _ _ _ _ _ (hval 0 66 v0 rfl rfl) h0
 obtain ⟨a1,q1,f1⟩:=rdvR _ _ _ _ _ _ _ _ _ _ _ (hval 1 46 v1 rfl rfl) h1
 obtain ⟨a2,q2,f2⟩:=rdvLM _ _ _ _ _ _ _ _ _ _ _ (hval 2 34 v2 rfl rfl) h2
 have lt:∀ {t:TypeId} {v:Value} {d:DataW H} {ps:List MemPlace},DataW.Trod enc Tryd.prog W 0 (fun _=>true) true t v d ps→∀ x∈ps,x.block<W.heap.size:=by
  rintro t v d ps ⟨m,hm⟩
  exact DataW.trod_lt m _ _ _ hm
 clear hA0 hval0
 refine (law W (fun b=>W.heap[b]?) (a0,a1,a2) [v0,v1,v2] (fun _ _ h=>h) (rowEnv hL hsh) (by simp) ⟨f0,f1,f2,trivial⟩).mono fun e W' ⟨x,he,bel,hx⟩=>?_
 obtain rfl:x=.bool true:=by simpa [dBool,SV.fit] using hx
 subst he
 exact ⟨_,rfl,_,_,_,[],_,[],hW',trodAll_mk1 (shut_bool Tryd.underlying4 _),
  (trodAll_cons_mk (Below.trod Tryd.laidOut (by kernel_rfl) (of_decide_eq_true (by kernel_rfl)) h0 bel (lt h0))
  (trodAll_cons_mk (Below.trod Tryd.laidOut (by kernel_rfl) (of_decide_eq_true (by kernel_rfl)) h1 bel (lt h1))
  (trodAll_cons_mk (Below.trod Tryd.laidOut (by kernel_rfl) (of_decide_eq_true (by kernel_rfl)) h2 bel (lt h2)) trodAll_mk0))),rfl,bel.frame _,fun h=>by cases h⟩
theorem fnRecords_row:Rows.FnRecordsSaid:=
 OpenClaim.holds_of_wide 12 Tryd.f12 rfl rfl rfl rfl rfl rfl rfl ⟨rfl,rfl,rfl,rfl,rfl⟩ rfl rfl rfl rfl rfl (by kernel_rfl) Tryd.func12 (by kernel_rfl)
  (of_decide_eq_true (by kernel_rfl)) (by unfold Func.isWrapper;first | (rw[if_pos (by decide +kernel)];kernel_rfl) | (rw[if_neg (by decide +kernel)];exact ⟨rfl,rfl⟩))
  (fun os started H enc _=>fnRecords_lifted lrr_ok os started H enc)
theorem fnRecords_holds:Rows.FnRecordsCardSaid:=
 Claim7.holds_tied_plain_at .later [] [.data,.pinned] true (true, "32193793d8c897b5bc8816bf3022b22418d0ad242f639242150ef454e65964bb") false fnRecords_row (fun _ h=>by cases h) (by kernel_rfl) (fun _ h=>by cases h) fnRecords_row_tie rfl ⟨rfl,rfl⟩ (by kernel_rfl) rfl
  (fun f fn hf hfn=>by
   obtain rfl:f=12:=Option.some.inj ((show Tryd.prog.funcNamed "rivulet/rivuletlaw06.FnRecords" = some 12 by kernel_rfl).symm.trans hf) |>.symm
   obtain rfl:fn=Tryd.f12:=(Option.some.inj (Tryd.func12.symm.trans hfn)).symm
   exact ⟨by kernel_rfl,fun j t ht=>by
    rw[Tryd.params12] at ht
    have hm:t∈[66,46,34]:=by simpa using Array.mem_of_getElem? ht
    have hall:([66,46,34].all fun u=>!Tryd.prog.wantsStandIn u)=true:=by kernel_rfl
    exact (show Tryd.prog.wantsStandIn t=false by simpa using List.all_eq_true.1 hall t hm)⟩)
  (by kernel_rfl)
end Go.Proofs.YtmegbepjdololaaDoor
