/- Chapter 4: the laws MultUndoes and MultAdds: plain law and contracts. -/
import Derived.Test.YtiipneclghnfhaaZG1305e0ca
import Derived.Test.YtiipneclghnfhaaZG083c8403
import Derived.Test.YtiipneclghnfhaaZG07150fba
import Derived.Test.YtiipneclghnfhaaZG11c67f71
set_option linter.unusedVariables false
set_option linter.unusedSimpArgs false
set_option linter.constructorNameAsVariable false
set_option linter.all false

namespace Go.Proofs.Ytiipneclghnfhaa
open Go.RowKit Go.Sx Go.Lp
theorem s60 (xs:List Y):(xs.take 60).length≤60:=by rw[List.length_take];exact Nat.min_le_left _ _
theorem k60 {xs:List Y} (h:xs.length≤60):xs.length≤KS:=Nat.le_trans h (by unfold KS;decide)
theorem neg_is {a:List Y} (h:(negY a).2=0):chkY a=0∧negY a=(a.map turn,0):=by
 unfold negY at h ⊢
 cases h1:(chkY a != (0:Int)) with
 | true=>
  rw[h1] at h
  have h:chkY a=0:=h
  rw[h] at h1;cases h1
 | false=>exact ⟨bne0 h1,rfl⟩
theorem neg_of {a:List Y} (h:chkY a=0):negY a=(a.map turn,0):=by
 unfold negY;rw[h];rfl
theorem both_is {a b:List Y} (h:bothY (a,b)=0):chkY a=0∧chkY b=0:=by
 unfold bothY at h
 cases h1:(chkY a != (0:Int)) with
 | true=>
  rw[h1] at h
  have h:chkY a=0:=h
  rw[h] at h1;cases h1
 | false=>
  rw[h1] at h
  exact ⟨bne0 h1,h⟩
theorem both_of {a b:List Y} (h:chkY a=0) (h2:chkY b=0):bothY (a,b)=0:=by
 unfold bothY;rw[h];exact h2
theorem sum_is {a b:List Y} (h:(sumF (a,b)).2=0):bothY (a,b)=0∧sumF (a,b)=ofY (a++b):=by
 unfold sumF at h ⊢
 cases h1:(bothY (a,b) != (0:Int)) with
 | true=>
  rw[h1] at h
  have h:bothY (a,b)=0:=h
  rw[h] at h1;cases h1
 | false=>exact ⟨bne0 h1,rfl⟩
theorem sum_of {a b:List Y} (h:chkY a=0) (h2:chkY b=0):sumF (a,b)=ofY (a++b):=by
 unfold sumF;rw[both_of h h2];rfl
theorem diff_of {a b:List Y} (h:chkY a=0) (h2:chkY b=0):diffF (a,b)=sumF (a,b.map turn):=by
 unfold diffF;rw[both_of h h2,neg_of h2];rfl
theorem undo1 {a:List Y} (hm:a.length≤KS) (h:chkY a=0):sumF (a,a.map turn)=([],0):=by
 have ht:=chk_turn hm h
 have hm':(a.map turn).length≤KS:=by rw[List.length_map];exact hm
 obtain ⟨h1,h2,_,_,h3⟩:=chk_all hm h
 obtain ⟨g1,g2,_,_,g3⟩:=chk_all hm' ht
 have hz:∀ t,sumY (a++a.map turn) t=0:=fun t=>by rw[sum_app,sum_turn];omega
 rw[sum_of h ht,of_of (okTs_app h1 g1) (okNs_app h2 g2) fun t=>by rw[hz];exact ywi0]
 rw[nz_ext (ys:=[]) fun t=>by rw[hz];rfl]
 rfl
theorem undo2 {a b:List Y} (hm:a.length+b.length≤KS) (ha:chkY a=0) (h:(sumF (a,b)).2=0):diffF ((sumF (a,b)).1,b)=(a,0):=by
 obtain ⟨hb,he⟩:=sum_is h
 have hb:=(both_is hb).2
 rw[he] at h ⊢
 obtain ⟨h1,h2,h3,h4⟩:=of_inv h
 have hma:a.length≤KS:=by omega
 have hmb:b.length≤KS:=by omega
 rw[h4]
 show diffF (nzY (a++b),b)=(a,0)
 have hc:chkY (nzY (a++b))=0:=nz_chk (by rw[List.length_append];exact hm) h1 h3
 have ht:=chk_turn hmb hb
 obtain ⟨a1,a2,_,a4,a5⟩:=chk_all hma ha
 obtain ⟨c1,c2,_,_,_⟩:=chk_all (Nat.le_trans (nz_len _) (by rw[List.length_append];exact hm)) hc
 obtain ⟨t1,t2,_,_,_⟩:=chk_all (by rw[List.length_map];exact hmb) ht
 have hz:∀ t,sumY (nzY (a++b)++b.map turn) t=sumY a t:=fun t=>by rw[sum_app,nz_sum,sum_app,sum_turn];omega
 rw[diff_of hc hb,sum_of hc ht,of_of (okTs_app c1 t1) (okNs_app c2 t2) fun t=>by rw[hz];exact a5 t]
 rw[nz_ext hz,a4]
theorem sum_len (a b:List Y):(sumF (a,b)).1.length≤a.length+b.length:=by
 unfold sumF
 cases (bothY (a,b) != (0:Int)) with
 | true=>exact Nat.zero_le _
 | false=>exact Nat.le_trans (of_len _) (by rw[List.length_append];exact Nat.le_refl _)
theorem lud_eq' (a b:List Y) (ha:a.length≤60) (hb:b.length≤60):(negY a).2=0→sumF (a,(negY a).1)=([],0)∧((sumF (a,b)).2=0→diffF ((sumF (a,b)).1,b)=(a,0)):=fun h=>by
 obtain ⟨h1,h2⟩:=neg_is h
 have hm:a.length+b.length≤KS:=Nat.le_trans (Nat.add_le_add ha hb) (by unfold KS;decide)
 rw[h2]
 exact ⟨undo1 (k60 ha) h1,undo2 hm h1⟩
theorem lud_eq (xs ys:List Y):lud_F xs ys=true:=by
 have h:=lud_eq' (xs.take 60) (ys.take 60) (s60 xs) (s60 ys)
 simp only[lud_F,El.ag_eq,Bool.not_true,Bool.false_or]
 cases h1:((negY (xs.take 60)).2 != (0:Int)) with
 | true=>rfl
 | false=>
  obtain ⟨h2,h3⟩:=h (bne0 h1)
  rw[h2]
  cases h4:((sumF (xs.take 60,ys.take 60)).2 != (0:Int)) with
  | true=>rfl
  | false=>
   rw[h3 (bne0 h4)]
   simp
theorem lud_si (xs ys:List Y):lud_side xs ys:=by
 have l1:=s60 xs
 have l2:=s60 ys
 have l3:=neg_len (xs.take 60)
 have l4:=sum_len (xs.take 60) (ys.take 60)
 have k:KS=1000000:=rfl
 simp only[lud_side,El.okL_eq,El.ag_eq,true_and,and_true,implies_true]
 refine ⟨by omega,fun _=>⟨by omega,fun _=>⟨by omega,fun _=>?_⟩⟩⟩
 first | omega | exact ⟨by omega,fun _=>trivial⟩
theorem lud_ok:FnPure Try.prog 14 aLLY dBool (fun _=>true) (fun _=>[]):=
 pure_congr (lud_okS _ fun g _ _=>lud_si _ _) fun g _ _=>lud_eq _ _
end Go.Proofs.Ytiipneclghnfhaa

namespace Go.Proofs.Ytiipneclghnfhaa
open Go.RowKit Go.Sx
def W1 (n:Int):Prop:=(Lit.int .i64 n).wf=true
def W4 (a:I4):Prop:=W1 a.1∧W1 a.2.1∧W1 a.2.2.1∧W1 a.2.2.2
def W6 (a:I6):Prop:=W1 a.1∧W1 a.2.1∧W4 a.2.2
def W8 (a:I8):Prop:=W1 a.1∧W1 a.2.1∧W1 a.2.2.1∧W1 a.2.2.2.1∧W4 a.2.2.2.2
def S.W (s:S):Prop:=W8 s.toP
def T.W (t:T):Prop:=W6 t.toP
theorem rd2:Rd Try.prog 2 eI W1:=rd_int Try.underlying2
theorem rd3:Rd Try.prog 3 eI W1:=rd_int Try.underlying3
theorem rd28:Rd Try.prog 28 e4 W4:=rd_array (ts:=[2,2,2,2]) Try.underlying28 rfl (by kernel_rfl) (rds_cons rd2 (rds_cons rd2 (rds_cons rd2 (rds_one rd2))))
theorem rd30:Rd Try.prog 30 eT T.W:=rd_iso (Q:=W6) (rd_struct (ts:=[2,3,28]) Try.underlying30 rfl (by kernel_rfl) (rds_cons rd2 (rds_cons rd3 (rds_one rd28)))) _ _ _ _
end Go.Proofs.Ytiipneclghnfhaa

namespace Go.Proofs.Ytiipneclghnfhaa
open Go.RowKit Go.Sx
abbrev W7 (a:T×Int):Prop:=T.W a.1∧W1 a.2
def Y.W (y:Y):Prop:=W7 y.toP
theorem rd45:Rd Try.prog 45 eY Y.W:=rd_iso (Q:=W7) (rd_struct (ts:=[30,2]) Try.underlying45 rfl (by kernel_rfl) (rds_cons rd30 (rds_one rd2))) _ _ _ _
theorem rdvLY:RdV Try.prog 40 dLY (fun l=>∀ s∈l,Y.W s):=rdv_slice Try.underlying40 (by kernel_rfl) (by decide) rd45
end Go.Proofs.Ytiipneclghnfhaa

namespace Go.Proofs.Ytiipneclghnfhaa
open Go.ChangeShapes Go.WideShapes Go.ChangeAt Go.RowKit Go.Sx
theorem Try.own:ownKnob Try.prog.godebug=none:=by kernel_rfl
theorem Try.laidOut:laidOutB Try.prog=true:=by kernel_rfl
set_option maxRecDepth 100000 in
theorem multUndoes_lifted (law:FnPure Try.prog 14 aLLY dBool (fun _=>true) (fun _=>[])) (os:Os) (started:os.Started) (H:Type) (enc:TypeId×Value→H) :
  ReturnsInHanded {} Try.checked os 14 .any (Rows.multUndoesSpec.pre6 enc Try.prog Try.f14 Rows.multUndoesRow.domain false) (Rows.multUndoesSpec.post enc Try.prog Try.f14 false true false false):=by
 refine returnsInHanded_of_change (C:=Try.checked) Try.own started (by kernel_rfl) Try.func14
  (ChangeSpec.witness6 (enc:=enc) (C:=Try.checked) false ⟨#[],#[.slice none 0 0,.slice none 0 0],[]⟩ 8 (by kernel_rfl) (by kernel_rfl) (by kernel_rfl) (by kernel_rfl)) ?_
 intro W base args ds gs before hval0 hW hcnd _
 have hval:∀ (j:Nat) t v,Try.f14.params[j]?=some t→args[j]?=some v→Value.okWide Try.prog W .any base t v:=hval0
 have hW':=hW
 obtain ⟨p,q,hA0,hV,rfl,hfz,hnd⟩:=hW
 have hA:DataW.TrodAll enc Try.prog W 0 (fun _=>true) true Try.f14.params.toList args.toList ds p:=hA0
 rw[Try.params14] at hA hval
 obtain ⟨v0,vs0,d0,ds0,p0,qq0,hargs,rfl,rfl,h0,r0⟩:=trodAll_cons hA
 obtain ⟨v1,vs1,d1,ds1,p1,qq1,rfl,rfl,rfl,h1,r1⟩:=trodAll_cons r0
 obtain ⟨rfl,rfl,rfl⟩:=trodAll_nil r1
 obtain rfl:args=#[v0,v1]:=by cases args;simp_all
 obtain ⟨rfl,rfl⟩:=trodVars_none hV
 obtain ⟨a0,q0,f0⟩:=rdvLY _ _ _ _ _ _ _ _ _ _ _ (hval 0 40 v0 rfl rfl) h0
 obtain ⟨a1,q1,f1⟩:=rdvLY _ _ _ _ _ _ _ _ _ _ _ (hval 1 40 v1 rfl rfl) h1
 have lt:∀ {t:TypeId} {v:Value} {d:DataW H} {ps:List MemPlace},DataW.Trod enc Try.prog W 0 (fun _=>true) true t v d ps→∀ x∈ps,x.block<W.heap.size:=by
  rintro t v d ps ⟨m,hm⟩
  exact DataW.trod_lt m _ _ _ hm
 clear hA0 hval0
 refine (law W (fun b=>W.heap[b]?) (a0,a1) [v0,v1] (fun _ _ h=>h) (by simp) ⟨f0,f1,trivial⟩).mono fun e W' ⟨x,he,bel,hx⟩=>?_
 obtain rfl:x=.bool true:=by simpa [dBool,SV.fit] using hx
 subst he
 exact ⟨_,rfl,_,_,_,[],_,[],hW',trodAll_mk1 (shut_bool Try.underlying4 _),
  (trodAll_cons_mk (Below.trod Try.laidOut (by kernel_rfl) (of_decide_eq_true (by kernel_rfl)) h0 bel (lt h0))
  (trodAll_cons_mk (Below.trod Try.laidOut (by kernel_rfl) (of_decide_eq_true (by kernel_rfl)) h1 bel (lt h1)) trodAll_mk0)),rfl,bel.frame _,fun h=>by cases h⟩
theorem multUndoes_over (law:FnPure Try.prog 14 aLLY dBool (fun _=>true) (fun _=>[])):Rows.MultUndoesSaid:=
 OpenClaim.holds_of_wide 14 Try.f14 rfl rfl rfl rfl rfl rfl rfl ⟨rfl,rfl,rfl,rfl,rfl⟩ rfl rfl rfl rfl rfl (by kernel_rfl) Try.func14 (by kernel_rfl)
  (of_decide_eq_true (by kernel_rfl)) (by unfold Func.isWrapper;first | (rw[if_pos (by decide +kernel)];kernel_rfl) | (rw[if_neg (by decide +kernel)];exact ⟨rfl,rfl⟩))
  (fun os started H enc _=>multUndoes_lifted law os started H enc)
end Go.Proofs.Ytiipneclghnfhaa

namespace Go.Proofs.Ytiipneclghnfhaa
open Go.RowKit Go.Sx
theorem multUndoes_holds:Rows.MultUndoesSaid:=multUndoes_over lud_ok
end Go.Proofs.Ytiipneclghnfhaa
