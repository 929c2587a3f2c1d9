/- Chapter 5: a record's text, read: plain law. -/
import Derived.Test.YtmegbepjdololaaDoorZG135161f1
import Derived.Test.YtmegbepjdololaaDoorZG08acb6d4
import Derived.Test.YtmegbepjdololaaDoorCards
set_option linter.unusedVariables false
set_option linter.unusedSimpArgs false
set_option linter.constructorNameAsVariable false
set_option linter.all false

namespace Go.Proofs.YtmegbepjdololaaDoor
open Go.RowKit Go.Sx Go.Lp
set_option maxRecDepth 100000
theorem esc1_range:∀ c,0≤c→c≤255→∀ x∈esc1 c,0≤x∧x≤255:=by
 intro c h1 h2
 obtain ⟨k,rfl⟩:∃ k:Nat,c=(k:Int):=⟨c.toNat,by omega⟩
 have hk:k<256:=by omega
 have key:∀ k:Nat,k<256→((esc1 (k:Int)).all fun x=>decide (0≤x)&&decide (x≤255))=true:=by decide
 intro x hx
 have:=List.all_eq_true.1 (key k hk) x hx
 simpa using this
theorem numL_digit {n:Int}:∀ c∈numL n,(48≤c∧c≤57)∨c=45:=by
 intro c hc
 unfold numL at hc
 rcases List.mem_append.1 hc with h | h
 ·right
  split at h
  ·exact List.mem_singleton.1 h
  ·cases h
 ·left
  exact dgt_digit 20 _ (by split <;> omega) c h
theorem text_bts {r:Rec} (h:chkR r=0):bts (textS r)=numL r.key++58 :: escL (bts r.text):=by
 unfold textS
 rw[h]
 refine bts_strOf fun c hc=>?_
 rcases List.mem_append.1 hc with hc | hc
 ·have:=numL_digit c hc;omega
 ·rcases List.mem_cons.1 hc with rfl | hc
  ·omega
  ·obtain ⟨a,ha,hx⟩:=List.mem_flatMap.1 hc
   have:=bts_range _ a ha
   exact esc1_range a this.1 this.2 c hx
theorem colon_text {r:Rec} (h:chkR r=0):colon (bts (textS r))=(numL r.key).length:=by
 rw[text_bts h]
 unfold colon
 rw[List.findIdx_append]
 have:(numL r.key).findIdx (fun c=>decide (c=58))=(numL r.key).length:=by
  rw[List.findIdx_eq_length]
  intro c hc
  have:=numL_digit c hc
  rw[decide_eq_false_iff_not]
  omega
 rw[this,if_neg (by omega),List.findIdx_cons]
 simp
theorem parse_text {r:Rec} (h:chkR r=0) (hk:i64 r.key):parseR (textS r)=(r,0):=by
 have hb:=text_bts h
 have hc:=colon_text h
 have hl:(textS r).size=(numL r.key).length+1+(escL (bts r.text)).length:=by
  rw[← bts_len,hb,List.length_append,List.length_cons];omega
 obtain ⟨n1,n2⟩:=numL_back hk.1 hk.2
 have he:bts ((textS r).extract 0 (numL r.key).length)=numL r.key:=by
  rw[bts_ext,hb,List.take_left',List.drop_zero]
  rfl
 have hs:(textS r).extract 0 (numL r.key).length=numS r.key:=by
  rw[← strOf_bts ((textS r).extract 0 (numL r.key).length),he]
  rfl
 have hp:parseN ((textS r).extract 0 (numL r.key).length)=(r.key,true):=by
  unfold parseN
  rw[he,n1,n2,hs]
  simp
 have hd:(bts (textS r)).drop ((numL r.key).length+1)=escL (bts r.text):=by
  rw[hb,List.drop_append]
  simp
 unfold parseR
 rw[hc,hp,hd,decide_eq_false (by omega)]
 rw[unescF_esc (bts r.text) [] _ (bts_range _) (by omega),List.nil_append]
 show makeR (textS r) r.key (bts r.text)=(r,0)
 unfold makeR
 rw[strOf_bts]
 show (bif chkR r != 0||!decide (textS r=textS r) then errR else (r,0))=(r,0)
 rw[h]
 simp
end Go.Proofs.YtmegbepjdololaaDoor

namespace Go.Proofs.YtmegbepjdololaaDoor
open Go.RowKit Go.Sx Go.Lp
theorem chk_any {l:List Rec} (h:∀ v∈l,chkR v=0):(l.any fun v=>chkR v != 0)=false:=by
 rw[List.any_eq_false]
 intro x hx
 simp[h x hx]
end Go.Proofs.YtmegbepjdololaaDoor

namespace Go.Proofs.YtmegbepjdololaaDoor
open Go.RowKit Go.Sx Go.Lp
set_option maxRecDepth 100000
theorem rep_sum (n:Nat) (r k:Rec):sumM ((List.replicate n r).map oneM) k=if r=k then (n:Int) else 0:=by
 induction n with
 | zero=>by_cases h:r=k <;> simp[h,sumM,sumK]
 | succ n ih=>
  have e:sumM ((List.replicate (n+1) r).map oneM) k=(if r=k then 1 else 0)+sumM ((List.replicate n r).map oneM) k:=rfl
  rw[e,ih]
  by_cases h:r=k
  ·simp only[h,if_true];omega
  ·simp only[h,if_false];omega
theorem list_sum:∀ (l:List Many),(∀ v∈l,1≤v.n)→∀ k,sumM ((listM l).map oneM) k=sumM l k
 | [],_,k=>rfl
 | v :: l,h,k=>by
  have h1:=h v (List.mem_cons_self ..)
  have ih:=list_sum l (fun x hx=>h x (List.mem_cons_of_mem _ hx)) k
  have e:listM (v :: l)=repR v.n v.r++listM l:=by unfold listM;rw[List.flatMap_cons]
  have e2:sumM (v :: l) k=(if v.r=k then v.n else 0)+sumM l k:=rfl
  rw[e,List.map_append,e2,← ih]
  unfold sumM
  rw[sumK_append]
  have:=rep_sum v.n.toNat v.r k
  unfold sumM at this
  unfold repR
  rw[this]
  by_cases hk:v.r=k
  ·rw[if_pos hk,if_pos hk];omega
  ·rw[if_neg hk,if_neg hk]
theorem list_mem {l:List Many} {r:Rec}:r∈listM l→∃ v∈l,v.r=r:=by
 unfold listM
 intro h
 obtain ⟨v,hv,hr⟩:=List.mem_flatMap.1 h
 exact ⟨v,hv,(List.eq_of_mem_replicate hr).symm⟩
theorem bag_srt {l:List Many} (hl:l.length≤KB) (h:bagF l=0):Srt Many.r cmpR l:=by
 obtain ⟨_,h2⟩:=bag_zero hl h
 have hs:∀ (n m:Nat) (a b:Many),l[n]?=some a→l[n+1+m]?=some b→cmpR a.r b.r<0:=by
  intro n m
  induction m with
  | zero=>
   intro a b ha hb
   have:=h2 n a b ha hb
   rw[cmpR_lt this]
   decide
  | succ m ih=>
   intro a b ha hb
   have hlt:n+1+m<l.length:=by have:=(List.getElem?_eq_some_iff.1 hb).1;omega
   have h3:=ih a l[n+1+m] ha (List.getElem?_eq_getElem hlt)
   have h4:=h2 (n+1+m) l[n+1+m] b (List.getElem?_eq_getElem hlt) hb
   exact toR.trans h3 (by rw[cmpR_lt h4];decide)
 refine List.pairwise_iff_getElem.2 fun i j hi hj hij=>?_
 exact hs i (j - i - 1) l[i] l[j] (List.getElem?_eq_getElem hi) (by rw[show i+1+(j - i - 1)=j by omega];exact List.getElem?_eq_getElem hj)
theorem bag_list {l:List Many} (hl:l.length≤1000) (h:bagF l=0):bagC (listM l)=(l,0):=by
 have hp:=bag_pos h
 have hb:l.length≤KB:=by unfold KB;omega
 have hz:=(bag_zero hb h).1
 have hs:=bag_srt hb h
 have hne:=srt_ne Many.r toR hs
 unfold bagC
 rw[chk_any fun r hr=>by
  obtain ⟨v,hv,rfl⟩:=list_mem hr
  exact hz v hv]
 have e:totM ((listM l).map oneM)=l:=by
  refine srt_unique Many.r Many.n cmpR toR many_ext (totM_srt _) hs fun y=>?_
  rw[totM_mem,list_sum l fun v hv=>(hp v hv).1]
  constructor
  ·rintro ⟨⟨x,hx,e⟩,hn⟩
   obtain ⟨r,hr,rfl⟩:=List.mem_map.1 hx
   obtain ⟨v,hv,hvr⟩:=list_mem hr
   have e1:v.r=y.r:=hvr.trans e
   have e2:v.n=y.n:=by rw[hn,← e1];exact (sumK_one Many.r Many.n hne hv).symm
   rw[← many_ext v y e1 e2]
   exact hv
  ·intro hy
   refine ⟨⟨oneM y.r,List.mem_map.2 ⟨y.r,?_,rfl⟩,rfl⟩,(sumK_one Many.r Many.n hne hy).symm⟩
   unfold listM repR
   refine List.mem_flatMap.2 ⟨y,hy,List.mem_replicate.2 ⟨?_,rfl⟩⟩
   have:=(hp y hy).1
   omega
 show bagT _=_
 unfold bagT
 rw[e]
 have:l.any (fun v=>decide (v.n > 1048576))=false:=by
  rw[List.any_eq_false]
  intro v hv
  have:=(hp v hv).2
  rw[decide_eq_true_eq]
  omega
 rw[this]
 rfl
end Go.Proofs.YtmegbepjdololaaDoor

namespace Go.Proofs.YtmegbepjdololaaDoor
open Go.RowKit Go.Sx Go.Lp
set_option maxRecDepth 100000
theorem lbk_run (xs:List (List Rec)) (hl:xs.length≤1000000) (hx:∀ b∈xs,0<b.length∧b.length≤64):loopF lbk_RR lbk_M (xs,(xs.length:Int),0,[],false)=(.exit 0,xs,(xs.length:Int),(xs.length:Int),xs.flatten,false):=by
 have hr:loopF lbk_RR lbk_M (lbk_g (0,(xs,(xs.length:Int)),([],false)))=_:=ix_conj_run (φ:=lbk_f) (ψ:=lbk_g) (fun _=>rfl) (fun _=>rfl) lbk_RF lbk_P (xs,(xs.length:Int)) (([]:List Rec),false) rfl (Nat.le_trans hl (by decide)) ⟨hl,by show ((0:Nat):Int)≤64 * 0;decide⟩
 have key:∀ (l:List (List Rec)) (i:Int) (o:List Rec),(∀ b∈l,0<b.length∧b.length≤64)→scan 0 (lbk_S (xs,(xs.length:Int))) i l (o,false)=(.exit 0,i+l.length,o++l.flatten,false):=by
  intro l
  induction l with
  | nil=>intro i o _;simp[scan]
  | cons a l ih=>
   intro i o h
   have ha:=h a (List.mem_cons_self ..)
   have e:lbk_S (xs,(xs.length:Int)) (o,false) i a=(.normal,(o++a,false)):=by
    unfold lbk_S
    rw[show ((a.length:Int)==0||decide ((a.length:Int) > 64))=false from by
     simp only[Bool.or_eq_false_iff,decide_eq_false_iff_not,beq_eq_false_iff_ne]
     omega]
    rfl
   simp only[scan,e]
   rw[ih _ _ fun b hb=>h b (List.mem_cons_of_mem _ hb)]
   simp
   omega
 show loopF lbk_RR lbk_M (lbk_g (0,(xs,(xs.length:Int)),([],false)))=_
 rw[hr]
 show ((scan 0 (lbk_S (xs,(xs.length:Int))) 0 xs ([],false)).1,lbk_g ((scan 0 (lbk_S (xs,(xs.length:Int))) 0 xs ([],false)).2.1,(xs,(xs.length:Int)),(scan 0 (lbk_S (xs,(xs.length:Int))) 0 xs ([],false)).2.2))=_
 rw[key xs 0 [] hx,Int.zero_add,List.nil_append]
 rfl
theorem back_q7 {r:Rec} {l:List Many} {m:List Rec} (h:l.length≤1000):lrb5_q7 r l m=(.exit 0,((curM l).length:Int),((curM l).length:Int),(),listC l,(curM l).length,curM l,(.ready,none)):=by
 rw[← curM_list,← lp_run (curM l) (curM_bnd h)]
 unfold lrb5_q7 lrb5_q6
 simp only[El.ag_eq,curM_lst]
theorem back_q9 {r:Rec} {l:List Many} {m:List Rec} (h:m.length≤1000000):lrb5_q9 r l m=(.exit 0,pieces 64 m,((pieces 64 m).length:Int),((pieces 64 m).length:Int),m,false):=by
 have e:=lbk_run (pieces 64 m) (Nat.le_trans (pieces_len (by decide) m) h) (pieces_size (by decide) m)
 rw[pieces_flat (by decide) m] at e
 rw[← e]
 unfold lrb5_q9
 simp only[El.ag_eq]
theorem back_len {l:List Many} (h:rare5_F l=true):(listC l).length≤1048576:=by
 obtain ⟨h1,h2⟩:=rare5_len h
 unfold listC
 cases hz:bagF l != (0:Int) with
 | true=>exact Nat.zero_le _
 | false=>
  have hb:bagF l=0:=by simpa using hz
  have hp:=fun v hv=>bag_pos hb v hv
  have h3:=h2 hp
  have:∀ l:List Many,(∀ v∈l,1≤v.n)→((listM l).length:Int)=(l.map (·.n)).sum:=by
   intro l
   induction l with
   | nil=>intro _;rfl
   | cons v l ih=>
    intro hv
    have h1:=hv v (List.mem_cons_self ..)
    have ih:=ih fun x hx=>hv x (List.mem_cons_of_mem _ hx)
    unfold listM at ih ⊢
    rw[List.flatMap_cons,List.length_append,repR_len,List.map_cons,List.sum_cons,← ih]
    omega
  have:=this l fun v hv=>(hp v hv).1
  show (listM l).length≤_
  omega
theorem lrb5_ok:FnPure Tryd.prog 9 aRLL9 dBool (fun _=>true) (fun g=>[i64 g.1.key]):=by
 refine pure_congr (lrb5_okS _ fun g _ hp=>?_) fun g _ hp=>?_
 ·obtain ⟨r,l,m⟩:=g
  have hk:i64 r.key:=hp _ (List.mem_cons_self ..)
  show lrb5_side r l m
  unfold lrb5_side
  simp only[El.okL_eq]
  refine fun _=>⟨fun _=>trivial,fun _ _=>trivial,fun h=>?_⟩
  simp only[Bool.or_eq_false_iff,Bool.not_eq_false'] at h
  obtain ⟨h0,h1,h2⟩:=h
  have h1:rare5_F l=true:=by unfold lrb5_q1 at h1;rwa [El.ag_eq] at h1
  have h2:few5_F m=true:=by unfold lrb5_q2 at h2;rwa [El.ag_eq] at h2
  have hm:=few5_len h2
  have hl:=(rare5_len h1).1
  have hll:=back_len h1
  have e7:=back_q7 (r:=r) (m:=m) (show l.length≤1000 by omega)
  have e9:=back_q9 (r:=r) (l:=l) (show m.length≤1000000 by omega)
  have ht:=textS_size r hk
  have hc:=curM_len l
  have hpc:=pieces_len (k:=64) (by decide) m
  have hJ:Lp.ixJ (fun c:lp_GC=>c.1) (fun c=>c.2.2) lp_K (lp_f (((curM l).length:Int),(0:Int),(),[],(curM l).length,curM l,LoopState.ready,none)):=ixJ0 rfl (by show (curM l).length≤maxLen;unfold maxLen;omega) ⟨rfl,rfl,curM_bnd (by omega)⟩
  have hJ2:Lp.ixJ (fun c:lbk_GC=>c.2) (fun c=>c.1) lbk_K (lbk_f (pieces 64 m,((pieces 64 m).length:Int),(0:Int),[],false)):=ixJ0 rfl (by show (pieces 64 m).length≤maxLen;unfold maxLen;omega) ⟨by show (pieces 64 m).length≤_;omega,by show ((0:Nat):Int)≤64 * 0;decide⟩
  rw[e7,e9]
  simp only[El.okL_eq,El.ag_eq,lrb5_q6,lrb5_q4,curM_lst]
  unfold KB KS
  refine ⟨fun _=>hk,fun _=>by omega,fun _=>⟨trivial,by omega,?_⟩⟩
  repeat' (first | exact rfl | exact hJ | exact hJ2 | apply And.intro | intro _)
  all_goals first | trivial | omega | exact eM.ok_els _ _ | exact eR.ok_els _ _ | (rw[curM_lst];exact eM.ok_els _ _)
 ·obtain ⟨r,l,m⟩:=g
  have hk:i64 r.key:=hp _ (List.mem_cons_self ..)
  show lrb5_F r l m=true
  unfold lrb5_F
  cases hf:decide ((↑(ByteArray.size r.text):Int) > (2000:Int))||(!(lrb5_q1 r l m)||!(lrb5_q2 r l m)) with
  | true=>rfl
  | false=>
   simp only[Bool.or_eq_false_iff,Bool.not_eq_false'] at hf
   obtain ⟨_,h1,h2⟩:=hf
   have h1:rare5_F l=true:=by unfold lrb5_q1 at h1;rwa [El.ag_eq] at h1
   have h2:few5_F m=true:=by unfold lrb5_q2 at h2;rwa [El.ag_eq] at h2
   have hm:=few5_len h2
   have hl:=(rare5_len h1).1
   rw[cond_false]
   have a1:((lrb5_q3 r l m)==(0:Int)&&((lrb5_q5 r l m).snd != (0:Int)||!conj ([(lrb5_q5 r l m).fst.key==r.key]++([decide ((lrb5_q5 r l m).fst.text=r.text)]++[]))))=false:=by
    cases hz:(lrb5_q3 r l m)==(0:Int) with
    | false=>rfl
    | true=>
     have hc:chkR r=0:=by unfold lrb5_q3 at hz;simpa using hz
     unfold lrb5_q5 lrb5_q4
     rw[parse_text hc hk]
     simp[conj]
   have a2:((lrb5_q6 r l m)==(0:Int)&&((lrb5_q8 r l m).snd != (0:Int)||!decide (eM.ag (lrb5_q8 r l m).fst=eM.ag l)))=false:=by
    cases hz:(lrb5_q6 r l m)==(0:Int) with
    | false=>rfl
    | true=>
     have hc:bagF l=0:=by unfold lrb5_q6 at hz;simpa [El.ag_eq] using hz
     unfold lrb5_q8
     rw[back_q7 (show l.length≤1000 by omega)]
     simp only[El.ag_eq]
     rw[show listC l=listM l by unfold listC;rw[hc];rfl,bag_list (by omega) hc]
     simp
   rw[a1,a2,cond_false,cond_false,back_q9 (show m.length≤1000000 by omega)]
   simp[El.ag_eq]
   rfl
end Go.Proofs.YtmegbepjdololaaDoor

namespace Go.Proofs.YtmegbepjdololaaDoor
open Go.ChangeShapes Go.WideShapes Go.ChangeAt Go.RowKit Go.Sx
set_option maxRecDepth 100000 in
theorem recBack_lifted (law:FnPure Tryd.prog 9 aRLL9 dBool (fun _=>true) (fun g=>[i64 g.1.key])) (os:Os) (started:os.Started) (H:Type) (enc:TypeId×Value→H) :
  ReturnsInHanded {} Tryd.checked os 9 .any (fun w args=>(Rows.recBackSpec.pre enc Tryd.prog Tryd.f9 Rows.recBackRow.domain false w args∧laidMetH Tryd.prog Rows.recBackRow.laid w)∧sizedMet enc Tryd.prog Tryd.f9 (OpenSpec.ofChange Rows.recBackSpec) false w args) (Rows.recBackSpec.post enc Tryd.prog Tryd.f9 false true false false):=by
 refine rowLaid (C:=Tryd.checked) (laid:=Rows.recBackRow.laid) Tryd.own started (by kernel_rfl) Tryd.func9
  (ChangeSpec.witness_shaped (enc:=enc) (C:=Tryd.checked) (os:=os) (X:=fun w _=>laidMetH Tryd.prog Rows.recBackRow.laid w) false (World.laidAll Tryd.prog os Rows.recBackRow.laid) #[.agg #[.int .i64 0,.string ByteArray.empty],.slice none 0 0,.slice none 0 0] 8 (World.laidAll_os _ _ _)
   (World.shaped_of_ZipB (by kernel_rfl) (by kernel_rfl)) (by kernel_rfl) (by kernel_rfl) (by kernel_rfl)
   (by rw[MakeChecks.laidMetH_plain _ _ _ (by kernel_rfl)];exact laidMet_laidAll _ (by kernel_rfl) (by kernel_rfl))) ?_
 intro W base args ds gs before hval0 hW hcnd hL hsh
 have hval:∀ (j:Nat) t v,Tryd.f9.params[j]?=some t→args[j]?=some v→Value.okWide Tryd.prog W .any base t v:=hval0
 have hW':=hW
 obtain ⟨p,q,hA0,hV,rfl,hfz,hnd⟩:=hW
 have hA:DataW.TrodAll enc Tryd.prog W 0 (fun _=>true) true Tryd.f9.params.toList args.toList ds p:=hA0
 rw[Tryd.params9] at hA hval
 obtain ⟨v0,vs0,d0,ds0,p0,qq0,hargs,rfl,rfl,h0,r0⟩:=trodAll_cons hA
 obtain ⟨v1,vs1,d1,ds1,p1,qq1,rfl,rfl,rfl,h1,r1⟩:=trodAll_cons r0
 obtain ⟨v2,vs2,d2,ds2,p2,qq2,rfl,rfl,rfl,h2,r2⟩:=trodAll_cons r1
 obtain ⟨rfl,rfl,rfl⟩:=trodAll_nil r2
 obtain rfl:args=#[v0,v1,v2]:=by cases args;simp_all
 obtain ⟨rfl,rfl⟩:=trodVars_none hV
 obtain ⟨a0,q0,f0⟩:=rdvR _ _ _ _ _ _ _ _ _ _ _ (hval 0 46 v0 rfl rfl) h0
 obtain ⟨a1,q1,f1⟩:=rdvLM _ _ _ _ _ _ _ _ _ _ _ (hval 1 34 v1 rfl rfl) h1
 obtain ⟨a2,q2,f2⟩:=rdvLR _ _ _ _ _ _ _ _ _ _ _ (hval 2 32 v2 rfl rfl) h2
 have lt:∀ {t:TypeId} {v:Value} {d:DataW H} {ps:List MemPlace},DataW.Trod enc Tryd.prog W 0 (fun _=>true) true t v d ps→∀ x∈ps,x.block<W.heap.size:=by
  rintro t v d ps ⟨m,hm⟩
  exact DataW.trod_lt m _ _ _ hm
 clear hA0 hval0
 refine (law W (fun b=>W.heap[b]?) (a0,a1,a2) [v0,v1,v2] (fun _ _ h=>h) (rowEnv hL hsh) (by intro p hp;rw[List.mem_singleton.1 hp];exact wf64 q0.1) ⟨f0,f1,f2,trivial⟩).mono fun e W' ⟨x,he,bel,hx⟩=>?_
 obtain rfl:x=.bool true:=by simpa [dBool,SV.fit] using hx
 subst he
 exact ⟨_,rfl,_,_,_,[],_,[],hW',trodAll_mk1 (shut_bool Tryd.underlying4 _),
  (trodAll_cons_mk (Below.trod Tryd.laidOut (by kernel_rfl) (of_decide_eq_true (by kernel_rfl)) h0 bel (lt h0))
  (trodAll_cons_mk (Below.trod Tryd.laidOut (by kernel_rfl) (of_decide_eq_true (by kernel_rfl)) h1 bel (lt h1))
  (trodAll_cons_mk (Below.trod Tryd.laidOut (by kernel_rfl) (of_decide_eq_true (by kernel_rfl)) h2 bel (lt h2)) trodAll_mk0))),rfl,bel.frame _,fun h=>by cases h⟩
theorem recBack_row:Rows.RecBackSaid:=
 OpenClaim.holds_of_wide 9 Tryd.f9 rfl rfl rfl rfl rfl rfl rfl ⟨rfl,rfl,rfl,rfl,rfl⟩ rfl rfl rfl rfl rfl (by kernel_rfl) Tryd.func9 (by kernel_rfl)
  (of_decide_eq_true (by kernel_rfl)) (by unfold Func.isWrapper;first | (rw[if_pos (by decide +kernel)];kernel_rfl) | (rw[if_neg (by decide +kernel)];exact ⟨rfl,rfl⟩))
  (fun os started H enc _=>recBack_lifted lrb5_ok os started H enc)
theorem recBack_holds:Rows.RecBackCardSaid:=
 Claim7.holds_tied_plain_at .later [] [.data,.pinned] true (true, "32193793d8c897b5bc8816bf3022b22418d0ad242f639242150ef454e65964bb") false recBack_row (fun _ h=>by cases h) (by kernel_rfl) (fun _ h=>by cases h) recBack_row_tie rfl ⟨rfl,rfl⟩ (by kernel_rfl) rfl
  (fun f fn hf hfn=>by
   obtain rfl:f=9:=Option.some.inj ((show Tryd.prog.funcNamed "rivulet/rivuletlaw05.RecBack" = some 9 by kernel_rfl).symm.trans hf) |>.symm
   obtain rfl:fn=Tryd.f9:=(Option.some.inj (Tryd.func9.symm.trans hfn)).symm
   exact ⟨by kernel_rfl,fun j t ht=>by
    rw[Tryd.params9] at ht
    have hm:t∈[46,34,32]:=by simpa using Array.mem_of_getElem? ht
    have hall:([46,34,32].all fun u=>!Tryd.prog.wantsStandIn u)=true:=by kernel_rfl
    exact (show Tryd.prog.wantsStandIn t=false by simpa using List.all_eq_true.1 hall t hm)⟩)
  (by kernel_rfl)
end Go.Proofs.YtmegbepjdololaaDoor
