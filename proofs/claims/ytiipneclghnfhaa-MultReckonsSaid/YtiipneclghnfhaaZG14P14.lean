/- The row of MultReckonsSaid, from the law's contract. Printed by rowgen.py. -/
import Derived.Test.YtiipneclghnfhaaZG13f9a384
set_option linter.unusedVariables false
set_option linter.unusedSimpArgs false
set_option linter.constructorNameAsVariable false
set_option linter.all false

namespace Go.Proofs.Ytiipneclghnfhaa
open Go.ChangeShapes Go.WideShapes Go.ChangeAt Go.RowKit Go.Sx
theorem Try.own:ownKnob Try.prog.godebug=none:=by kernel_rfl
theorem Try.laidOut:laidOutB Try.prog=true:=by kernel_rfl
set_option maxRecDepth 100000 in
theorem multReckons_lifted (law:FnPure Try.prog 13 aL3Y dBool (fun _=>true) (fun _=>[])) (os:Os) (started:os.Started) (H:Type) (enc:TypeId×Value→H) :
  ReturnsInHanded {} Try.checked os 13 .any (Rows.multReckonsSpec.pre6 enc Try.prog Try.f13 Rows.multReckonsRow.domain false) (Rows.multReckonsSpec.post enc Try.prog Try.f13 false true false false):=by
 refine returnsInHanded_of_change (C:=Try.checked) Try.own started (by kernel_rfl) Try.func13
  (ChangeSpec.witness6 (enc:=enc) (C:=Try.checked) false ⟨#[],#[.slice none 0 0,.slice none 0 0,.slice none 0 0],[]⟩ 8 (by kernel_rfl) (by kernel_rfl) (by kernel_rfl) (by kernel_rfl)) ?_
 intro W base args ds gs before hval0 hW hcnd _
 have hval:∀ (j:Nat) t v,Try.f13.params[j]?=some t→args[j]?=some v→Value.okWide Try.prog W .any base t v:=hval0
 have hW':=hW
 obtain ⟨p,q,hA0,hV,rfl,hfz,hnd⟩:=hW
 have hA:DataW.TrodAll enc Try.prog W 0 (fun _=>true) true Try.f13.params.toList args.toList ds p:=hA0
 rw[Try.params13] at hA hval
 obtain ⟨v0,vs0,d0,ds0,p0,qq0,hargs,rfl,rfl,h0,r0⟩:=trodAll_cons hA
 obtain ⟨v1,vs1,d1,ds1,p1,qq1,rfl,rfl,rfl,h1,r1⟩:=trodAll_cons r0
 obtain ⟨v2,vs2,d2,ds2,p2,qq2,rfl,rfl,rfl,h2,r2⟩:=trodAll_cons r1
 obtain ⟨rfl,rfl,rfl⟩:=trodAll_nil r2
 obtain rfl:args=#[v0,v1,v2]:=by cases args;simp_all
 obtain ⟨rfl,rfl⟩:=trodVars_none hV
 obtain ⟨a0,q0,f0⟩:=rdvLY _ _ _ _ _ _ _ _ _ _ _ (hval 0 40 v0 rfl rfl) h0
 obtain ⟨a1,q1,f1⟩:=rdvLY _ _ _ _ _ _ _ _ _ _ _ (hval 1 40 v1 rfl rfl) h1
 obtain ⟨a2,q2,f2⟩:=rdvLY _ _ _ _ _ _ _ _ _ _ _ (hval 2 40 v2 rfl rfl) h2
 have lt:∀ {t:TypeId} {v:Value} {d:DataW H} {ps:List MemPlace},DataW.Trod enc Try.prog W 0 (fun _=>true) true t v d ps→∀ x∈ps,x.block<W.heap.size:=by
  rintro t v d ps ⟨m,hm⟩
  exact DataW.trod_lt m _ _ _ hm
 clear hA0 hval0
 refine (law W (fun b=>W.heap[b]?) (a0,a1,a2) [v0,v1,v2] (fun _ _ h=>h) (by simp) ⟨f0,f1,f2,trivial⟩).mono fun e W' ⟨x,he,bel,hx⟩=>?_
 obtain rfl:x=.bool true:=by simpa [dBool,SV.fit] using hx
 subst he
 exact ⟨_,rfl,_,_,_,[],_,[],hW',trodAll_mk1 (shut_bool Try.underlying4 _),
  (trodAll_cons_mk (Below.trod Try.laidOut (by kernel_rfl) (of_decide_eq_true (by kernel_rfl)) h0 bel (lt h0))
  (trodAll_cons_mk (Below.trod Try.laidOut (by kernel_rfl) (of_decide_eq_true (by kernel_rfl)) h1 bel (lt h1))
  (trodAll_cons_mk (Below.trod Try.laidOut (by kernel_rfl) (of_decide_eq_true (by kernel_rfl)) h2 bel (lt h2)) trodAll_mk0))),rfl,bel.frame _,fun h=>by cases h⟩
theorem multReckons_over (law:FnPure Try.prog 13 aL3Y dBool (fun _=>true) (fun _=>[])):Rows.MultReckonsSaid:=
 OpenClaim.holds_of_wide 13 Try.f13 rfl rfl rfl rfl rfl rfl rfl ⟨rfl,rfl,rfl,rfl,rfl⟩ rfl rfl rfl rfl rfl (by kernel_rfl) Try.func13 (by kernel_rfl)
  (of_decide_eq_true (by kernel_rfl)) (by unfold Func.isWrapper;first | (rw[if_pos (by decide +kernel)];kernel_rfl) | (rw[if_neg (by decide +kernel)];exact ⟨rfl,rfl⟩))
  (fun os started H enc _=>multReckons_lifted law os started H enc)
end Go.Proofs.Ytiipneclghnfhaa

namespace Go.Proofs.Ytiipneclghnfhaa
open Go.RowKit Go.Sx
theorem multReckons_holds:Rows.MultReckonsSaid:=multReckons_over lrk_ok
end Go.Proofs.Ytiipneclghnfhaa
