/- Chapter 6: the law FnTwice. Printed by treegen.py. -/
import Derived.Test.YtmegbepjdololaaDoorZG09498128
import Derived.Test.YtmegbepjdololaaDoorZG06140bb4
import Derived.Test.YtmegbepjdololaaDoorZG07188daf
import Derived.Test.YtmegbepjdololaaDoorCards
set_option linter.unusedVariables false
set_option linter.unusedSimpArgs false
set_option linter.constructorNameAsVariable false
set_option linter.all false

namespace Go.Proofs.YtmegbepjdololaaDoor
open Go.RowKit Go.Sx
set_option maxRecDepth 100000
set_option linter.unusedVariables false
end Go.Proofs.YtmegbepjdololaaDoor

namespace Go.Proofs.YtmegbepjdololaaDoor
open Go.RowKit Go.Sx Go.Lp
end Go.Proofs.YtmegbepjdololaaDoor

namespace Go.Proofs.YtmegbepjdololaaDoor
open Go.RowKit Go.Sx Go.Lp
end Go.Proofs.YtmegbepjdololaaDoor

namespace Go.Proofs.YtmegbepjdololaaDoor
open Go.RowKit Go.Sx Go.Lp
theorem uses_few (k:Int):(uses_F k).2+1 - (uses_F k).1≤50:=by
 unfold uses_F
 generalize (k==(2:Int))=b1
 generalize (k==(3:Int))=b2
 generalize (k==(4:Int))=b3
 generalize (k==(8:Int))=b4
 generalize (k==(11:Int))=b5
 revert b1 b2 b3 b4 b5
 decide
theorem usesL_len (k:Int):(usesL k).length≤50:=by
 unfold usesL upTo
 have:=uses_few k
 simp only[List.length_map,List.length_range]
 omega
def minN (a:Nat) (m:Int):Int:=List.foldl (fun a (x:Bool×IntKind×Int)=>bif false then if x.2.2 > a then x.2.2 else a else if x.2.2<a then x.2.2 else a) (a:Int) [(false,IntKind.i64,IntKind.i64.wrap m)]
theorem minN_eq (a:Nat) {m:Int} (h:0≤m∧m≤255):minN a m=if m<(a:Int) then m else (a:Int):=by
 have e:minN a m=if IntKind.i64.wrap m<(a:Int) then IntKind.i64.wrap m else (a:Int):=rfl
 rw[e,wrS (by omega)]
theorem okE_I (n:Nat) (l:List Int):∀ e,e<n→eI.Ok (eI.els l e):=fun e _=>eI.ok_els l e
theorem take_I (l:List Int) (n:Nat) (h:n≤l.length):eI.lst n (eI.els l)=l.take n:=by
 exact eI.lst_take n l h
theorem lfk_half (k m:Int) (h:0≤m∧m≤255):(decide (eI.ag (List.take (99:Nat) (upTo (uses_F k).fst (uses_F k).snd))=eI.ag (usesL k)) &&
    decide (eI.ag (List.take (IntKind.i64.wrap m).toNat (upTo (uses_F k).fst (uses_F k).snd))=eI.lst (minN (usesL k).length m).toNat (eI.els (usesL k))))=true:=by
 have hl:=usesL_len k
 have e1:eI.ag (List.take (99:Nat) (upTo (uses_F k).fst (uses_F k).snd))=eI.ag (usesL k):=by
  rw[eI.ag_eq,eI.ag_eq]
  show List.take 99 (usesL k)=_
  exact List.take_of_length_le (by omega)
 have e2:eI.ag (List.take (IntKind.i64.wrap m).toNat (upTo (uses_F k).fst (uses_F k).snd))=eI.lst (minN (usesL k).length m).toNat (eI.els (usesL k)):=by
  rw[eI.ag_eq,minN_eq _ h,wrS (by omega)]
  show List.take m.toNat (usesL k)=_
  by_cases hm:m<((usesL k).length:Int)
  ·rw[if_pos hm,take_I _ _ (by omega)]
  ·rw[if_neg hm,take_I _ _ (by omega),List.take_of_length_le (by omega),List.take_of_length_le (by omega)]
 rw[Bool.and_eq_true]
 exact ⟨decide_eq_true e1,decide_eq_true e2⟩
theorem lfk_eq (k:Int) (f:Fn) (m:Int) (h:0≤m∧m≤255):lfk_F k f m=true:=by
 have:=lfk_half k m h
 unfold lfk_F
 show (true&&bif _ then (decide (eI.ag (List.take (99:Nat) (upTo (uses_F k).fst (uses_F k).snd))=eI.ag (usesL k)) &&
       decide (eI.ag (List.take (IntKind.i64.wrap m).toNat (upTo (uses_F k).fst (uses_F k).snd))=eI.lst (minN (usesL k).length m).toNat (eI.els (usesL k)))) else (_&&(decide (eI.ag (List.take (99:Nat) (upTo (uses_F k).fst (uses_F k).snd))=eI.ag (usesL k)) &&
       decide (eI.ag (List.take (IntKind.i64.wrap m).toNat (upTo (uses_F k).fst (uses_F k).snd))=eI.lst (minN (usesL k).length m).toNat (eI.els (usesL k))))))=true
 rw[this,beq_self_eq_true]
 simp
theorem lfk_si (k:Int) (f:Fn) (m:Int) (h:0≤m∧m≤255):lfk_side k f m:=by
 have hl:=usesL_len k
 have h1:=uses_small k
 have h2:∀ l:List Int,eI.okL l:=fun l=>by rw[eI.okL_eq];trivial
 have h3:(eI.ag (List.take (99:Nat) (upTo (uses_F k).fst (uses_F k).snd))).length≤KB:=by
  rw[eI.ag_eq]
  show (List.take 99 (usesL k)).length≤KB
  have:=List.length_take_le 99 (usesL k)
  unfold KB
  omega
 have h4:(eI.ag (List.take (IntKind.i64.wrap m).toNat (upTo (uses_F k).fst (uses_F k).snd))).length≤KB:=by
  rw[eI.ag_eq]
  show (List.take _ (usesL k)).length≤KB
  have:=List.length_take_le' (IntKind.i64.wrap m).toNat (usesL k)
  unfold KB
  omega
 have h5:0≤minN (usesL k).length m∧minN (usesL k).length m≤((usesL k).length:Int):=by
  rw[minN_eq _ h]
  split <;> omega
 have h6:∀ n,∀ e,e<n→eI.Ok (eI.els (usesL k) e):=fun n=>okE_I n _
 have h7:(!!decide ((f.s.size:Int)≤(3000:Int)))=true→f.s.size≤KB:=fun hs=>by
  have hs:(f.s.size:Int)≤3000:=by simpa using hs
  unfold KB
  omega
 exact ⟨fun _ _=>h1,fun _ _=>h2 _,fun _ _=>h2 _,fun _ _=>h3,fun _ _ _=>h1,fun _ _ _=>h5,fun _ _ _=>h2 _,fun _ _ _=>h6 _,fun _ _ _=>h4,
  fun _ hs=>h7 hs,fun _ hs=>h7 hs,fun _ _ _=>h1,fun _ _ _=>h2 _,fun _ _ _=>h2 _,fun _ _ _=>h3,fun _ _ _ _=>h1,fun _ _ _ _=>h5,fun _ _ _ _=>h2 _,fun _ _ _ _=>h6 _,fun _ _ _ _=>h4⟩
theorem lfk_ok:FnPure Tryd.prog 11 aIFI dBool (fun _=>true) (fun g=>[0≤g.2.2∧g.2.2≤255]):=
 pure_congr (lfk_okS _ fun g _ hp=>lfk_si g.1 g.2.1 g.2.2 (hp _ (List.mem_cons_self ..))) fun g _ hp=>lfk_eq g.1 g.2.1 g.2.2 (hp _ (List.mem_cons_self ..))
end Go.Proofs.YtmegbepjdololaaDoor

namespace Go.Proofs.YtmegbepjdololaaDoor
open Go.ChangeShapes Go.WideShapes Go.ChangeAt Go.RowKit Go.Sx
set_option maxRecDepth 100000 in
theorem fnChecks_lifted (law:FnPure Tryd.prog 11 aIFI dBool (fun _=>true) (fun g=>[0≤g.2.2∧g.2.2≤255])) (os:Os) (started:os.Started) (H:Type) (enc:TypeId×Value→H) :
  ReturnsInHanded {} Tryd.checked os 11 .any (fun w args=>(Rows.fnChecksSpec.pre enc Tryd.prog Tryd.f11 Rows.fnChecksRow.domain false w args∧laidMetH Tryd.prog Rows.fnChecksRow.laid w)∧sizedMet enc Tryd.prog Tryd.f11 (OpenSpec.ofChange Rows.fnChecksSpec) false w args) (Rows.fnChecksSpec.post enc Tryd.prog Tryd.f11 false true false false):=by
 refine rowLaid (C:=Tryd.checked) (laid:=Rows.fnChecksRow.laid) Tryd.own started (by kernel_rfl) Tryd.func11
  (ChangeSpec.witness_shaped (enc:=enc) (C:=Tryd.checked) (os:=os) (X:=fun w _=>laidMetH Tryd.prog Rows.fnChecksRow.laid w) false (World.laidAll Tryd.prog os Rows.fnChecksRow.laid) #[.int .i64 0,.agg #[.int .i64 0,.int .i64 0,.string ByteArray.empty],.int .u8 0] 8 (World.laidAll_os _ _ _)
   (World.shaped_of_ZipB (by kernel_rfl) (by kernel_rfl)) (by kernel_rfl) (by kernel_rfl) (by kernel_rfl)
   (by rw[MakeChecks.laidMetH_plain _ _ _ (by kernel_rfl)];exact laidMet_laidAll _ (by kernel_rfl) (by kernel_rfl))) ?_
 intro W base args ds gs before hval0 hW hcnd hL hsh
 have hval:∀ (j:Nat) t v,Tryd.f11.params[j]?=some t→args[j]?=some v→Value.okWide Tryd.prog W .any base t v:=hval0
 have hW':=hW
 obtain ⟨p,q,hA0,hV,rfl,hfz,hnd⟩:=hW
 have hA:DataW.TrodAll enc Tryd.prog W 0 (fun _=>true) true Tryd.f11.params.toList args.toList ds p:=hA0
 rw[Tryd.params11] at hA hval
 obtain ⟨v0,vs0,d0,ds0,p0,qq0,hargs,rfl,rfl,h0,r0⟩:=trodAll_cons hA
 obtain ⟨v1,vs1,d1,ds1,p1,qq1,rfl,rfl,rfl,h1,r1⟩:=trodAll_cons r0
 obtain ⟨v2,vs2,d2,ds2,p2,qq2,rfl,rfl,rfl,h2,r2⟩:=trodAll_cons r1
 obtain ⟨rfl,rfl,rfl⟩:=trodAll_nil r2
 obtain rfl:args=#[v0,v1,v2]:=by cases args;simp_all
 obtain ⟨rfl,rfl⟩:=trodVars_none hV
 obtain ⟨a0,q0,f0⟩:=rdvI _ _ _ _ _ _ _ _ _ _ _ (hval 0 3 v0 rfl rfl) h0
 obtain ⟨a1,q1,f1⟩:=rdvF _ _ _ _ _ _ _ _ _ _ _ (hval 1 66 v1 rfl rfl) h1
 obtain ⟨a2,q2,f2⟩:=rdv8 _ _ _ _ _ _ _ _ _ _ _ (hval 2 5 v2 rfl rfl) h2
 have lt:∀ {t:TypeId} {v:Value} {d:DataW H} {ps:List MemPlace},DataW.Trod enc Tryd.prog W 0 (fun _=>true) true t v d ps→∀ x∈ps,x.block<W.heap.size:=by
  rintro t v d ps ⟨m,hm⟩
  exact DataW.trod_lt m _ _ _ hm
 clear hA0 hval0
 refine (law W (fun b=>W.heap[b]?) (a0,a1,a2) [v0,v1,v2] (fun _ _ h=>h) (rowEnv hL hsh) (by intro p hp;rw[List.mem_singleton.1 hp];exact wf8 q2) ⟨f0,f1,f2,trivial⟩).mono fun e W' ⟨x,he,bel,hx⟩=>?_
 obtain rfl:x=.bool true:=by simpa [dBool,SV.fit] using hx
 subst he
 exact ⟨_,rfl,_,_,_,[],_,[],hW',trodAll_mk1 (shut_bool Tryd.underlying4 _),
  (trodAll_cons_mk (Below.trod Tryd.laidOut (by kernel_rfl) (of_decide_eq_true (by kernel_rfl)) h0 bel (lt h0))
  (trodAll_cons_mk (Below.trod Tryd.laidOut (by kernel_rfl) (of_decide_eq_true (by kernel_rfl)) h1 bel (lt h1))
  (trodAll_cons_mk (Below.trod Tryd.laidOut (by kernel_rfl) (of_decide_eq_true (by kernel_rfl)) h2 bel (lt h2)) trodAll_mk0))),rfl,bel.frame _,fun h=>by cases h⟩
theorem fnChecks_row:Rows.FnChecksSaid:=
 OpenClaim.holds_of_wide 11 Tryd.f11 rfl rfl rfl rfl rfl rfl rfl ⟨rfl,rfl,rfl,rfl,rfl⟩ rfl rfl rfl rfl rfl (by kernel_rfl) Tryd.func11 (by kernel_rfl)
  (of_decide_eq_true (by kernel_rfl)) (by unfold Func.isWrapper;first | (rw[if_pos (by decide +kernel)];kernel_rfl) | (rw[if_neg (by decide +kernel)];exact ⟨rfl,rfl⟩))
  (fun os started H enc _=>fnChecks_lifted lfk_ok os started H enc)
theorem fnChecks_holds:Rows.FnChecksCardSaid:=
 Claim7.holds_tied_plain_at .later [] [.data,.pinned] true (true, "32193793d8c897b5bc8816bf3022b22418d0ad242f639242150ef454e65964bb") false fnChecks_row (fun _ h=>by cases h) (by kernel_rfl) (fun _ h=>by cases h) fnChecks_row_tie rfl ⟨rfl,rfl⟩ (by kernel_rfl) rfl
  (fun f fn hf hfn=>by
   obtain rfl:f=11:=Option.some.inj ((show Tryd.prog.funcNamed "rivulet/rivuletlaw06.FnChecks" = some 11 by kernel_rfl).symm.trans hf) |>.symm
   obtain rfl:fn=Tryd.f11:=(Option.some.inj (Tryd.func11.symm.trans hfn)).symm
   exact ⟨by kernel_rfl,fun j t ht=>by
    rw[Tryd.params11] at ht
    have hm:t∈[3,66,5]:=by simpa using Array.mem_of_getElem? ht
    have hall:([3,66,5].all fun u=>!Tryd.prog.wantsStandIn u)=true:=by kernel_rfl
    exact (show Tryd.prog.wantsStandIn t=false by simpa using List.all_eq_true.1 hall t hm)⟩)
  (by kernel_rfl)
end Go.Proofs.YtmegbepjdololaaDoor
