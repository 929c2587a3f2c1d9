/- Chapter 6: the law FnTwice: its contract. -/
import Derived.Test.YtmegbepjdololaaDoorZG09160e9e
import Derived.Test.YtmegbepjdololaaDoorZG078c76af
import Derived.Test.YtmegbepjdololaaDoorCards
set_option linter.unusedVariables false
set_option linter.unusedSimpArgs false
set_option linter.constructorNameAsVariable false
set_option linter.all false

namespace Go.Proofs.YtmegbepjdololaaDoor
open Go.RowKit Go.Sx Go.Lp
def smallN (a b:Nat):Int:=IntKind.i64.wrap (List.foldl (fun a (x:Bool×IntKind×Int)=>bif false then if x.2.2 > a then x.2.2 else a else if x.2.2<a then x.2.2 else a) (a:Int) [(true,IntKind.i64,(1048576:Int))]+List.foldl (fun a (x:Bool×IntKind×Int)=>bif false then if x.2.2 > a then x.2.2 else a else if x.2.2<a then x.2.2 else a) (b:Int) [(true,IntKind.i64,(1048576:Int))])
theorem small_le {a b:Nat} (h:smallN a b≤3000):a≤3000∧b≤3000:=by
 have e:smallN a b=IntKind.i64.wrap ((if (1048576:Int)<(a:Int) then 1048576 else (a:Int))+(if (1048576:Int)<(b:Int) then 1048576 else (b:Int))):=rfl
 rw[e] at h
 rw[wrS (by split <;> split <;> omega)] at h
 split at h <;> split at h <;> omega
theorem conj_R (a b:Rec):conj ([a.key==b.key]++([decide (a.text=b.text)]++[]))=decide (a=b):=by
 obtain ⟨k,s⟩:=a
 obtain ⟨k',s'⟩:=b
 rw[Bool.eq_iff_iff]
 simp[conj]
theorem conj_noR (a:Rec):conj ([a.key==(0:Int)]++([decide (a.text=ByteArray.mk #[])]++[]))=decide (a=noRec):=conj_R a noRec
theorem lft_eq (f:Fn) (r:Rec):lft_F f r=true:=by
 unfold lft_F
 simp only[conj_R,conj_noR]
 show (bif !true||!decide (smallN f.s.size r.text.size≤3000) then true else _)=true
 by_cases hs:smallN f.s.size r.text.size≤3000
 ·rw[decide_eq_true hs]
  simp only[Bool.not_true,Bool.or_self,cond_false]
  by_cases hq:(lft_q1 f r).2=0
  ·have e0:((lft_q1 f r).2 != (0:Int))=false:=by simpa using hq
   obtain ⟨hf,hr⟩:=mapF_yes hq
   obtain ⟨k1,k2,k3,k4⟩:=chk2 hf
   obtain ⟨h1,h2⟩:=(chkR_iff r).1 hr
   have q1:lft_q1 f r=(⟨mapK f r,mapT f r.text⟩,0):=mapF_ok hf hr
   have q2:lft_q2 f r=(⟨mapK f ⟨mapK f r,mapT f r.text⟩,mapT f (mapT f r.text)⟩,0):=by
    unfold lft_q2
    rw[q1]
    exact mapF_ok hf (map_rec f r hf hr)
   rw[e0,cond_false,q2]
   have hc:(f.kind=1∨f.kind=2∨f.kind=3∨f.kind=6∨f.kind=7∨f.kind=8)∨f.kind=4∨f.kind=5:=by omega
   rcases hc with hc | hc | hc
   ·have e1:=map_twice f r hf hr hc
    have eb:(bif f.kind==(2:Int) then f.kind==(2:Int) else bif f.kind==(3:Int) then f.kind==(3:Int) else bif f.kind==(6:Int) then f.kind==(6:Int) else bif f.kind==(1:Int) then f.kind==(1:Int) else bif f.kind==(7:Int) then f.kind==(7:Int) else f.kind==(8:Int))=true:=by
     rcases hc with hc | hc | hc | hc | hc | hc <;> (rw[hc];rfl)
    rw[eb,cond_true,q1]
    simp only[e1,decide_true,beq_self_eq_true,Bool.and_self]
   ·have eb:(bif f.kind==(2:Int) then f.kind==(2:Int) else bif f.kind==(3:Int) then f.kind==(3:Int) else bif f.kind==(6:Int) then f.kind==(6:Int) else bif f.kind==(1:Int) then f.kind==(1:Int) else bif f.kind==(7:Int) then f.kind==(7:Int) else f.kind==(8:Int))=false:=by rw[hc];rfl
    have e4:(f.kind==(4:Int))=true:=by rw[hc];rfl
    have t1:mapT f r.text=turnS r.text:=by unfold mapT;rw[hc];rfl
    have t2:mapT f (turnS r.text)=turnS (turnS r.text):=by unfold mapT;rw[hc];rfl
    have t3:mapK f ⟨mapK f r,mapT f r.text⟩=r.key:=by unfold mapK;rw[hc];rfl
    rw[eb,cond_false,e4,cond_true,q1,t3,t1,t2,turn_idem h2,runesOf_eq,runesOf_eq,turn_len h2]
    simp
   ·have eb:(bif f.kind==(2:Int) then f.kind==(2:Int) else bif f.kind==(3:Int) then f.kind==(3:Int) else bif f.kind==(6:Int) then f.kind==(6:Int) else bif f.kind==(1:Int) then f.kind==(1:Int) else bif f.kind==(7:Int) then f.kind==(7:Int) else f.kind==(8:Int))=false:=by rw[hc];rfl
    have e4:(f.kind==(4:Int))=false:=by rw[hc];rfl
    have t1:mapT f r.text=cutS (r.text++f.s) 64:=by unfold mapT;rw[hc];rfl
    rw[eb,cond_false,e4,cond_false,q1,t1]
    have hp:=cut_prefix r.text f.s 64 h2 h1
    have:Lib.hasPrefix (toL (cutS (r.text++f.s) 64)) (toL r.text)=true:=by
     unfold Lib.hasPrefix
     rw[List.isPrefixOf_iff_prefix]
     exact hp
    show ((0:Int)==0&&Lib.hasPrefix (toL (cutS (r.text++f.s) 64)) (toL r.text))=true
    rw[this];rfl
  ·have e0:((lft_q1 f r).2 != (0:Int))=true:=by simpa using hq
   rw[e0,cond_true]
   have:=mapF_no hq
   exact decide_eq_true this
 ·rw[decide_eq_false hs];rfl
theorem lft_si (f:Fn) (r:Rec):lft_side f r:=by
 intro hs
 have hs:(!true||!decide (smallN f.s.size r.text.size≤3000))=false:=hs
 simp only[Bool.not_true,Bool.false_or,Bool.not_eq_false',decide_eq_true_eq] at hs
 obtain ⟨h1,h2⟩:=small_le hs
 have h1':f.s.size≤KB:=by unfold KB;omega
 refine ⟨h1',fun hq=>⟨h1',fun _ hk=>?_⟩⟩
 have hq:(lft_q1 f r).2=0:=by simpa using hq
 obtain ⟨hf,hr⟩:=mapF_yes hq
 have q1:lft_q1 f r=(⟨mapK f r,mapT f r.text⟩,0):=mapF_ok hf hr
 have hr2:=(chkR_iff _).1 (map_rec f r hf hr)
 rw[runesOf_eq,runesOf_eq,q1]
 have l1:=rns_len (mapT f r.text)
 have l2:=rns_len r.text
 have l3:(mapT f r.text).size≤64:=hr2.1
 exact ⟨fun _ _=>by show (runes06 (mapT f r.text)).length≤_;omega,fun _ _=>by omega⟩
theorem lft_ok:FnPure Tryd.prog 10 aFR dBool (fun _=>true) (fun _=>[]):=
 pure_congr (lft_okS _ fun g _ _=>lft_si g.1 g.2) fun g _ _=>lft_eq g.1 g.2
end Go.Proofs.YtmegbepjdololaaDoor

namespace Go.Proofs.YtmegbepjdololaaDoor
open Go.ChangeShapes Go.WideShapes Go.ChangeAt Go.RowKit Go.Sx
set_option maxRecDepth 100000 in
theorem fnTwice_lifted (law:FnPure Tryd.prog 10 aFR dBool (fun _=>true) (fun _=>[])) (os:Os) (started:os.Started) (H:Type) (enc:TypeId×Value→H) :
  ReturnsInHanded {} Tryd.checked os 10 .any (fun w args=>(Rows.fnTwiceSpec.pre enc Tryd.prog Tryd.f10 Rows.fnTwiceRow.domain false w args∧laidMetH Tryd.prog Rows.fnTwiceRow.laid w)∧sizedMet enc Tryd.prog Tryd.f10 (OpenSpec.ofChange Rows.fnTwiceSpec) false w args) (Rows.fnTwiceSpec.post enc Tryd.prog Tryd.f10 false true false false):=by
 refine rowLaid (C:=Tryd.checked) (laid:=Rows.fnTwiceRow.laid) Tryd.own started (by kernel_rfl) Tryd.func10
  (ChangeSpec.witness_shaped (enc:=enc) (C:=Tryd.checked) (os:=os) (X:=fun w _=>laidMetH Tryd.prog Rows.fnTwiceRow.laid w) false (World.laidAll Tryd.prog os Rows.fnTwiceRow.laid) #[.agg #[.int .i64 0,.int .i64 0,.string ByteArray.empty],.agg #[.int .i64 0,.string ByteArray.empty]] 8 (World.laidAll_os _ _ _)
   (World.shaped_of_ZipB (by kernel_rfl) (by kernel_rfl)) (by kernel_rfl) (by kernel_rfl) (by kernel_rfl)
   (by rw[MakeChecks.laidMetH_plain _ _ _ (by kernel_rfl)];exact laidMet_laidAll _ (by kernel_rfl) (by kernel_rfl))) ?_
 intro W base args ds gs before hval0 hW hcnd hL hsh
 have hval:∀ (j:Nat) t v,Tryd.f10.params[j]?=some t→args[j]?=some v→Value.okWide Tryd.prog W .any base t v:=hval0
 have hW':=hW
 obtain ⟨p,q,hA0,hV,rfl,hfz,hnd⟩:=hW
 have hA:DataW.TrodAll enc Tryd.prog W 0 (fun _=>true) true Tryd.f10.params.toList args.toList ds p:=hA0
 rw[Tryd.params10] at hA hval
 obtain ⟨v0,vs0,d0,ds0,p0,qq0,hargs,rfl,rfl,h0,r0⟩:=trodAll_cons hA
 obtain ⟨v1,vs1,d1,ds1,p1,qq1,rfl,rfl,rfl,h1,r1⟩:=trodAll_cons r0
 obtain ⟨rfl,rfl,rfl⟩:=trodAll_nil r1
 obtain rfl:args=#[v0,v1]:=by cases args;simp_all
 obtain ⟨rfl,rfl⟩:=trodVars_none hV
 obtain ⟨a0,q0,f0⟩:=rdvF _ _ _ _ _ _ _ _ _ _ _ (hval 0 66 v0 rfl rfl) h0
 obtain ⟨a1,q1,f1⟩:=rdvR _ _ _ _ _ _ _ _ _ _ _ (hval 1 46 v1 rfl rfl) h1
 have lt:∀ {t:TypeId} {v:Value} {d:DataW H} {ps:List MemPlace},DataW.Trod enc Tryd.prog W 0 (fun _=>true) true t v d ps→∀ x∈ps,x.block<W.heap.size:=by
  rintro t v d ps ⟨m,hm⟩
  exact DataW.trod_lt m _ _ _ hm
 clear hA0 hval0
 refine (law W (fun b=>W.heap[b]?) (a0,a1) [v0,v1] (fun _ _ h=>h) (rowEnv hL hsh) (by simp) ⟨f0,f1,trivial⟩).mono fun e W' ⟨x,he,bel,hx⟩=>?_
 obtain rfl:x=.bool true:=by simpa [dBool,SV.fit] using hx
 subst he
 exact ⟨_,rfl,_,_,_,[],_,[],hW',trodAll_mk1 (shut_bool Tryd.underlying4 _),
  (trodAll_cons_mk (Below.trod Tryd.laidOut (by kernel_rfl) (of_decide_eq_true (by kernel_rfl)) h0 bel (lt h0))
  (trodAll_cons_mk (Below.trod Tryd.laidOut (by kernel_rfl) (of_decide_eq_true (by kernel_rfl)) h1 bel (lt h1)) trodAll_mk0)),rfl,bel.frame _,fun h=>by cases h⟩
theorem fnTwice_row:Rows.FnTwiceSaid:=
 OpenClaim.holds_of_wide 10 Tryd.f10 rfl rfl rfl rfl rfl rfl rfl ⟨rfl,rfl,rfl,rfl,rfl⟩ rfl rfl rfl rfl rfl (by kernel_rfl) Tryd.func10 (by kernel_rfl)
  (of_decide_eq_true (by kernel_rfl)) (by unfold Func.isWrapper;first | (rw[if_pos (by decide +kernel)];kernel_rfl) | (rw[if_neg (by decide +kernel)];exact ⟨rfl,rfl⟩))
  (fun os started H enc _=>fnTwice_lifted lft_ok os started H enc)
theorem fnTwice_holds:Rows.FnTwiceCardSaid:=
 Claim7.holds_tied_plain_at .later [] [.data,.pinned] true (true, "32193793d8c897b5bc8816bf3022b22418d0ad242f639242150ef454e65964bb") false fnTwice_row (fun _ h=>by cases h) (by kernel_rfl) (fun _ h=>by cases h) fnTwice_row_tie rfl ⟨rfl,rfl⟩ (by kernel_rfl) rfl
  (fun f fn hf hfn=>by
   obtain rfl:f=10:=Option.some.inj ((show Tryd.prog.funcNamed "rivulet/rivuletlaw06.FnTwice" = some 10 by kernel_rfl).symm.trans hf) |>.symm
   obtain rfl:fn=Tryd.f10:=(Option.some.inj (Tryd.func10.symm.trans hfn)).symm
   exact ⟨by kernel_rfl,fun j t ht=>by
    rw[Tryd.params10] at ht
    have hm:t∈[66,46]:=by simpa using Array.mem_of_getElem? ht
    have hall:([66,46].all fun u=>!Tryd.prog.wantsStandIn u)=true:=by kernel_rfl
    exact (show Tryd.prog.wantsStandIn t=false by simpa using List.all_eq_true.1 hall t hm)⟩)
  (by kernel_rfl)
end Go.Proofs.YtmegbepjdololaaDoor
