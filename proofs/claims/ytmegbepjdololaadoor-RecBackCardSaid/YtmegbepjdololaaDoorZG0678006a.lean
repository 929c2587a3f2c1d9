/- Contracts of functions that write a slice which is handed in: a row of the caller's own. -/
import Derived.Test.YtmegbepjdololaaDoorZG05ae7c06
import Derived.Lib.MapLaws
import Derived.Lib.ValidLaws
import Derived.Test.YtmegbepjdololaaDoorZG01783f77
import Derived.ProofKit
import Derived.OpenShut
import Derived.ShutString
import Derived.ChangeOld
import Derived.Below
import Derived.Deep.Slices
set_option linter.unusedVariables false
set_option linter.unusedSimpArgs false
set_option linter.constructorNameAsVariable false
set_option linter.all false

namespace Go.Sx
open Go.RowKit
variable [Env]
def ownB (L:Lc):Nat→Prop:=fun b=>L.nl=false∧b=L.blk
structure BelowM (B:Nat→Prop) (w w':World):Prop where
 os:w'.os=w.os
 tape:w'.tape=w.tape
 output:w'.output=w.output
 size:w.heap.size≤w'.heap.size
 block:∀ k,k<w.heap.size→¬ B k→w'.heap[k]?=w.heap[k]?
structure RM (δ:Type) where
 dec:SV→Option (δ×List Prop)
 enc:Nat→δ→SV
 ok:∀ (s:SV) (d:δ) (ps:List Prop),dec s=some (d,ps)→(∀ p∈ps,p)→∀ (n m i:Nat) (ρ ρ':Rh) (x:Value),(∀ b o,ρ.mem b=some o→ρ'.mem b=some o)→ρ' i=ρ 0→i<m→s.fit n ρ x→(enc i d).fit m ρ' x
 cl:∀ (i:Nat) (d:δ) (n m:Nat) (ρ ρ':Rh) (x:Value),(∀ b o,ρ.mem b=some o→ρ'.mem b=some o)→ρ' i=ρ i→i<m→(enc i d).fit n ρ x→(enc i d).fit m ρ' x
def RM.pure {δ:Type} (R:Dv δ):RM δ where
 dec:=R.dec
 enc _ d:=R.enc d
 ok s d ps hd hp n m i ρ ρ' x hm _ _ hf:=R.cl d n m ρ ρ' x hm (R.ok _ _ _ _ _ _ hd hp hf)
 cl i d n m ρ ρ' x hm _ _ hf:=R.cl d n m ρ ρ' x hm hf
section
variable {α:Type} (A:El α)
abbrev rowA (t:TypeId) (xs:List α):SO:=.row t A.sz (.fn (A.els xs)) xs.length
theorem rowA_cl {t:TypeId} {xs:List α} {n m:Nat} {ρ ρ':Rh} {L:Lc} {o:Option Obj} (hm:∀ b o,ρ.mem b=some o→ρ'.mem b=some o) (h:(rowA A t xs).fit n ρ L o):(rowA A t xs).fit m ρ' L o:=by
 refine ⟨h.1,?_⟩
 rcases h.2 with h2 | ⟨h1,h2,c,fz,h3,h3',h4,h5,h6,h7⟩
 ·exact .inl h2
 ·refine .inr ⟨h1,h2,c,fz,h3,h3',h4,h5,h6,fun e he=>?_⟩
  obtain ⟨l,q1,q2,q3⟩:=h7 e he
  exact ⟨l,q1,A.cl _ _ _ _ _ _ hm q2,q3⟩
theorem rowA_of {t:TypeId} {el:ElE} {k n m:Nat} {ρ ρ':Rh} {L:Lc} {o:Option Obj} (hm:∀ b o,ρ.mem b=some o→ρ'.mem b=some o) (hk:∀ e,e<k→A.Ok (el e)) (h:(SO.row t A.sz el k).fit n ρ L o):(rowA A t (A.lstE k el)).fit m ρ' L o:=by
 rw[A.lstE_eq]
 refine ⟨by rw[A.lst_length];exact h.1,?_⟩
 rw[A.lst_length]
 rcases h.2 with h2 | ⟨h1,h2,c,fz,h3,h3',h4,h5,h6,h7⟩
 ·exact .inl h2
 ·refine .inr ⟨h1,h2,c,fz,h3,h3',h4,h5,h6,fun e he=>?_⟩
  obtain ⟨l,q1,q2,q3⟩:=h7 e he
  obtain ⟨a,ps,d1,d2⟩:=hk e he
  refine ⟨l,q1,?_,q3⟩
  have:=A.cl a n m ρ ρ' l hm (A.ok _ _ _ _ _ _ d1 d2 q2)
  show SV.fits m ρ' (A.cells ((A.lst k el).getD e A.dflt)) l
  rw[A.lst_getD _ _ _ he]
  simpa only [El.get,d1] using this
end
def FnMut {α γ δ:Type} (P:Program) (f:Nat) (t:TypeId) (A:El α) (D:DA γ) (R:RM δ) (fn:List α→γ→List α×δ) (pre:List α→γ→List Prop):Prop:=
 ∀ (w:World) (F:Nat→Option Obj) (L:Lc) (xs:List α) (g:γ) (v0:Value) (vs:List Value),(∀ b o,F b=some o→w.heap[b]?=some o)→Env.E F→(∀ b,ownB L b→F b=none)→OwV L xs.length v0 →
  (∀ p∈pre xs g,p)→(rowA A t xs).fit 0 (emp F) L w.heap[L.blk]?→SV.fits 0 (emp F) (D.enc g) vs →
  Calls P f (v0 :: vs).toArray w fun e w'=>∃ x,e=.returned x∧BelowM (ownB L) w w'∧(rowA A t (fn xs g).1).fit 0 (emp (memAt F w w')) L w'.heap[L.blk]? ∧
   ∀ (m i:Nat) (ρ':Rh),(∀ b o,memAt F w w' b=some o→ρ'.mem b=some o)→ρ' i=L→i<m→(R.enc i (fn xs g).2).fit m ρ' x
def mTree {α δ:Type} (P:Program) (Γ:Gam) (Λ:Lam) (n f:Nat) (t:TypeId) (A:El α) (R:RM δ) (xs:List α) (args:List SV):Tr (List α×δ):=
 (fnTree P Γ Λ n f (.ow 0 xs.length :: args) ⟨1,[(0,.o (rowA A t xs))],[]⟩).bind fun y=>
  match y.2.get 0 with
  | .row t' sz el m=>match Nat.beq t' t&&Nat.beq sz A.sz with
   | true=>asks (A.okE m el) (match R.dec y.1 with
    | some (r,ps)=>asks ps (.ret (A.lstE m el,r))
    | none=>.bad 650)
   | false=>.bad 651
  | _=>.bad 652
section
variable {P:Program} {Γ:Gam} {Λ:Lam} {f t:Nat} {α γ δ:Type} {A:El α} {D:DA γ} {R:RM δ} {fn:List α→γ→List α×δ} {pre:List α→γ→List Prop}
theorem ow_of_owv {L:Lc} {l:Nat} {v:Value} {n i:Nat} {ρ:Rh} (hi:i<n) (hρ:ρ i=L) (h:OwV L l v) (hc:L.nl=false→l≤L.cap):(SV.ow i l).fit n ρ v:=by
 refine ⟨hi,?_⟩
 rw[hρ]
 rcases h with ⟨h1,h2,a,h3⟩ | ⟨h1,h2⟩
 ·exact .inl ⟨h1,h2,a,h3⟩
 ·exact .inr ⟨h1,hc h1,h2⟩
theorem mut_of_tree (hΓ:∀ f g,Γ.g f=some g→FnOk P f g) (hΛ:∀ f k L,Λ f k=some L→∀ b∈loopsOf P f,lkey b=k→LoopOk P b L.g) (n:Nat)
  (hT:∀ xs g,D.bd g→xs.length≤maxLen→(∀ p∈pre xs g,p)→(mTree P Γ Λ n f t A R xs (D.enc g)).Holds (·=fn xs g)):FnMut P f t A D R fn pre:=by
 intro w F L xs g v0 vs hF hE hFo hv0 hpre hrow hfit
 have hbd:=D.fb _ _ _ _ hfit
 have hT:=hT xs g hbd hrow.1 hpre
 let ρ0:Rh:=⟨fun _=>L,F,⟨F,fun _=>none⟩⟩
 have hg0:∀ i,(⟨1,[(0,.o (rowA A t xs))],[]⟩:SH).get i=if i=0 then rowA A t xs else .dead:=fun i=>by
  simp only[SH.get,lookE,SE.act]
  by_cases h:i=0
  ·subst h;rfl
  ·rw[if_neg h]
   have:Nat.beq i 0=false:=by
    cases hb:Nat.beq i 0 with
    | false=>rfl
    | true=>exact absurd (beq_of hb) h
   rw[this];rfl
 have hm0:HM (ownB L) w ρ0 ⟨1,[(0,.o (rowA A t xs))],[]⟩ w:={
  os:=rfl
  tape:=rfl
  output:=rfl
  size:=Nat.le_refl _
  block:=fun _ _ _=>rfl
  lt:=fun i h=>by
   rw[hg0] at h
   by_cases hi:i=0
   ·subst hi;exact Nat.lt_succ_self _
   ·rw[if_neg hi] at h;cases h
  ob:=fun i=>by
   rw[hg0]
   by_cases hi:i=0
   ·rw[if_pos hi]
    exact rowA_cl A (ρ:=emp F) (fun _ _ h=>h) hrow
   ·rw[if_neg hi];trivial
  ow:=fun i h=>by
   rw[hg0] at h
   by_cases hi:i=0
   ·rw[if_pos hi] at h
    exact .inr ⟨h,rfl⟩
   ·rw[if_neg hi] at h;exact h.elim
  fz:=hF
  sep:=fun i h=>by
   rw[hg0] at h
   by_cases hi:i=0
   ·rw[if_pos hi] at h
    exact hFo _ ⟨h,rfl⟩
   ·rw[if_neg hi] at h;exact h.elim
  old:=fun b o hb _ _=>hb
  env:=hE
  inj:=fun i j hi hj _=>by
   rw[hg0] at hi hj
   by_cases h1:i=0
   ·by_cases h2:j=0
    ·omega
    ·rw[if_neg h2] at hj;exact hj.elim
   ·rw[if_neg h1] at hi;exact hi.elim }
 have hcap:L.nl=false→xs.length≤L.cap:=fun hnl=>by
  rcases hrow.2 with ⟨h,_⟩ | ⟨_,_,_,_,_,_,_,h5,_⟩
  ·rw[hnl] at h;cases h
  ·exact h5
 have hargs:SV.fits 1 ρ0 (.ow 0 xs.length :: D.enc g) (v0 :: vs):=⟨ow_of_owv (Nat.lt_succ_self _) rfl hv0 hcap,D.cl g 0 1 (emp F) ρ0 vs (fun _ _ h=>h) hfit⟩
 have h0:=fnTree_ok hΓ hΛ n (ownB L) w w ρ0 ⟨1,[(0,.o (rowA A t xs))],[]⟩ _ (v0 :: vs) _ (Tr.holds_bind hT) hm0 hargs
 refine h0.mono ?_
 rintro e w' ⟨s,h',ρ',x,h1,h2,h3,h4,h5,rfl⟩
 have hρ0:ρ' 0=L:=h3.1 0 (Nat.lt_succ_self _)
 refine ⟨x,rfl,⟨h4.os,h4.tape,h4.output,h4.size,fun k hk hB=>h4.block k hk hB⟩,?_⟩
 simp only at h1
 split at h1
 ·rename_i t' sz el m hg
  split at h1
  ·rename_i hb
   simp only[Bool.and_eq_true] at hb
   have e1:=beq_of hb.1
   have e2:=beq_of hb.2
   subst e1;subst e2
   obtain ⟨hok,h1⟩:=asks_holds h1
   have hok:∀ e,e<m→A.Ok (el e):=A.okE_ok m el hok
   split at h1
   ·rename_i r ps hr
    obtain ⟨hps,h1⟩:=asks_holds h1
    have h1:(A.lstE m el,r)=fn xs g:=h1
    have hmem:∀ b o,ρ'.mem b=some o→memAt F w w' b=some o:=fun b o hb=>by
     unfold memAt
     split
     ·rename_i hlt
      by_cases hM:ownB L b
      ·exfalso
       have hs:=h4.sep 0
       rw[hg,hρ0] at hs
       rw[hM.2] at hb
       rw[hs hM.1] at hb
       cases hb
      ·have:=h4.old b o hb hlt hM
       rw[h3.2.2] at this
       exact this
     ·exact h4.fz b o hb
    have hob:=h4.ob 0
    rw[hg,hρ0] at hob
    rw[← h1]
    refine ⟨rowA_of A hmem hok hob,fun m' i ρ'' hmem' hi him=>?_⟩
    exact R.ok s r ps hr hps _ m' i ρ' ρ'' x (fun b o hb=>hmem' b o (hmem b o hb)) (by rw[hi,hρ0]) him h5
   ·exact h1.elim
  ·exact h1.elim
 ·exact h1.elim
def conM0 (t:TypeId) (A:El α) (D:DA γ) (R:RM δ) (fn:List α→γ→List α×δ) (pre:List α→γ→List Prop) (i l:Nat) (rest:List SV) (h:SH):Tr (SV×SH):=
 match h.get i with
 | .row t' sz el m=>match Nat.beq t' t&&Nat.beq sz A.sz with
  | true=>match D.dec rest with
   | some (g,ps)=>asks ((l=m) :: (A.okE m el++(ps++pre (A.lstE m el) g))) (.ret (R.enc i (fn (A.lstE m el) g).2,h.set i (rowA A t (fn (A.lstE m el) g).1)))
   | none=>.bad 653
  | false=>.bad 654
 | _=>.bad 655
def conM (t:TypeId) (A:El α) (D:DA γ) (R:RM δ) (fn:List α→γ→List α×δ) (pre:List α→γ→List Prop):Con:=fun args h=>
 match args with
 | .ow i l :: rest=>conM0 t A D R fn pre i l rest h
 | .k y :: rest=>match nilK y with
  | true=>conM0 t A D R fn pre h.nx 0 rest (h.push (.row t A.sz (.fn fun _=>[]) 0))
  | false=>.bad 656
 | _=>.bad 657
theorem conM0_ok (hp:FnMut P f t A D R fn pre) {M:Nat→Prop} {w0 w:World} {ρ:Rh} {h:SH} {i l:Nat} {rest:List SV} {v0:Value} {vs:List Value} {K:SV×SH→Prop} (hK:(conM0 t A D R fn pre i l rest h).Holds K) (hm:HM M w0 ρ h w)
  (h0:(SV.ow i l).fit h.nx ρ v0) (hr:SV.fits h.nx ρ rest vs):Calls P f (v0 :: vs).toArray w (FnGood M w0 ρ h K):=by
 unfold conM0 at hK
 split at hK
 ·rename_i t' sz el m hg
  split at hK
  ·rename_i hb
   simp only[Bool.and_eq_true] at hb
   have e1:=beq_of hb.1
   have e2:=beq_of hb.2
   subst e1;subst e2
   split at hK
   ·rename_i g ps hd
    obtain ⟨hq,hK⟩:=asks_holds hK
    have hl:l=m:=hq _ (List.mem_cons_self ..)
    have hok:∀ e,e<m→A.Ok (el e):=A.okE_ok m el fun p h'=>hq p (List.mem_cons_of_mem _ (List.mem_append_left _ h'))
    have hps:∀ p∈ps,p:=fun p h'=>hq p (List.mem_cons_of_mem _ (List.mem_append_right _ (List.mem_append_left _ h')))
    have hpre:∀ p∈pre (A.lstE m el) g,p:=fun p h'=>hq p (List.mem_cons_of_mem _ (List.mem_append_right _ (List.mem_append_right _ h')))
    subst hl
    have hob:=hm.ob i
    rw[hg] at hob
    have hown:∀ b,ownB (ρ i) b→(h.get i).own (ρ i):=fun b hb=>by rw[hg];exact hb.1
    have hilt:i<h.nx:=h0.1
    have hrow:(rowA A t' (A.lstE l el)).fit 0 (emp ρ.mem) (ρ i) w.heap[(ρ i).blk]?:=rowA_of A (ρ:=ρ) (fun _ _ h=>h) hok hob
    have hv0:OwV (ρ i) (A.lstE l el).length v0:=by
     rw[A.lstE_eq,A.lst_length]
     rcases h0.2 with ⟨h1,h2,a,h3⟩ | ⟨h1,_,h3⟩
     ·exact .inl ⟨h1,h2,a,h3⟩
     ·exact .inr ⟨h1,h3⟩
    have hvs:=D.cl _ _ 0 ρ (emp ρ.mem) vs (fun _ _ h=>h) (D.ok _ _ _ _ _ _ hd hps hr)
    refine (hp w ρ.mem (ρ i) (A.lstE l el) g v0 vs hm.fz hm.env (fun b hb=>by rw[hb.2];exact hm.sep i (hown b hb)) hv0 hpre hrow hvs).mono ?_
    rintro e w' ⟨x,rfl,hbm,hrow',hx⟩
    have hmem:∀ b o,ρ.mem b=some o→memAt ρ.mem w w' b=some o:=fun b o ho=>by
     unfold memAt
     rw[if_pos (hm.lt_mem ho)];exact ho
    have hag:Agree h.nx ρ ⟨ρ.lc,memAt ρ.mem w w',ρ.lo⟩:=⟨fun _ _=>rfl,hmem,rfl⟩
    have hgs:∀ j,(h.set i (rowA A t' (fn (A.lstE l el) g).1)).get j=if j=i then rowA A t' (fn (A.lstE l el) g).1 else h.get j:=fun j=>SH.get_set _ _ _ _
    have hown':∀ j,((h.set i (rowA A t' (fn (A.lstE l el) g).1)).get j).own (ρ j)→(h.get j).own (ρ j):=fun j hj=>by
     rw[hgs] at hj
     by_cases hji:j=i
     ·subst hji;rw[if_pos rfl] at hj;rw[hg];exact hj
     ·rw[if_neg hji] at hj;exact hj
    have hunc:∀ k,k<w.heap.size→¬ ownB (ρ i) k→w'.heap[k]?=w.heap[k]?:=hbm.block
    refine ⟨_,_,⟨ρ.lc,memAt ρ.mem w w',ρ.lo⟩,x,hK,Nat.le_refl _,hag,?_,hx h.nx i _ (fun _ _ h=>h) rfl hilt,rfl⟩
    exact {
     os:=hbm.os.trans hm.os
     tape:=hbm.tape.trans hm.tape
     output:=hbm.output.trans hm.output
     size:=Nat.le_trans hm.size hbm.size
     block:=fun k hk hM=>by
      rw[hunc k (Nat.lt_of_lt_of_le hk hm.size) fun hB=>?_]
      ·exact hm.block k hk hM
      ·rcases hm.ow i (hown k hB) with h | h
       ·rw[← hB.2] at h;omega
       ·rw[← hB.2] at h;exact hM h
     lt:=fun j hj=>by
      rw[hgs] at hj
      by_cases hji:j=i
      ·subst hji;exact hilt
      ·rw[if_neg hji] at hj;exact hm.lt j hj
     ob:=fun j=>by
      rw[hgs]
      by_cases hji:j=i
      ·subst hji
       rw[if_pos rfl]
       exact rowA_cl A (ρ:=emp (memAt ρ.mem w w')) (fun _ _ h=>h) hrow'
      ·rw[if_neg hji]
       refine SO.fit_mono (Nat.le_refl _) hag (hm.ob_other fun hj=>hunc _ (hm.lt_heap hj) fun hB=>?_)
       exact hm.ne_own (hown _ hB) hj hji hB.2
     ow:=fun j hj=>hm.ow j (hown' j hj)
     fz:=fun b o hb=>by
      simp only[memAt] at hb
      split at hb
      ·rename_i hlt
       rw[hunc b hlt fun hB=>?_]
       ·exact hm.fz b o hb
       ·have:=hm.sep i (hown b hB)
        rw[← hB.2,hb] at this
        cases this
      ·exact hb
     sep:=fun j hj=>by
      have h1:=hm.sep j (hown' j hj)
      have h2:=hm.lt_heap (hown' j hj)
      simp only[memAt]
      rw[if_pos h2];exact h1
     old:=fun b o hb hlt hM=>by
      simp only[memAt] at hb
      have hs:=hm.size
      rw[if_pos (by omega)] at hb
      exact hm.old b o hb hlt hM
     env:=Env.mono _ _ (fun b o hb _=>hmem b o hb) hm.env
     inj:=fun j k hj hk=>hm.inj j k (hown' j hj) (hown' k hk) }
   ·exact hK.elim
  ·exact hK.elim
 ·exact hK.elim
theorem conM_ok (hp:FnMut P f t A D R fn pre):FnOk P f (conM t A D R fn pre):=by
 intro M w0 w ρ h args vs K hK hm hfits
 unfold conM at hK
 split at hK
 ·rename_i i l rest
  obtain ⟨v0,r,rfl,h0,hr⟩:=fits_cons hfits
  exact conM0_ok hp hK hm h0 hr
 ·rename_i y rest
  obtain ⟨v0,r,rfl,h0,hr⟩:=fits_cons hfits
  split at hK
  ·rename_i hy
   have hm1:HM M w0 (upd ρ h.nx ⟨0,0,0,true⟩) (h.push (.row t A.sz (.fn fun _=>[]) 0)) w:=hm.learn ⟨Nat.zero_le _,.inl ⟨rfl,rfl⟩⟩ (fun h=>by cases h)
   have hy:=nilK_eq hy
   subst hy
   simp only[SV.fit] at h0
   subst h0
   have:=conM0_ok hp hK hm1 (v0:=.slice none 0 0) (vs:=r) ⟨Nat.lt_succ_self _,.inl ⟨by simp[upd],rfl,_,rfl⟩⟩ (SV.fits_mono (Nat.le_succ _) (agree_upd _ _ _) _ _ hr)
   refine this.mono ?_
   rintro e w' ⟨s,h',ρ',x,h1,h2,h3,h4,h5,rfl⟩
   exact ⟨s,h',ρ',x,h1,by have:h.nx+1≤h'.nx:=h2;omega,(agree_upd ρ h.nx _).trans (Nat.le_succ _) h3,h4,h5,rfl⟩
  ·exact hK.elim
 ·exact hK.elim
theorem conM0_b {i l:Nat} {rest:List SV} {h:SH}:(conM0 t A D R fn pre i l rest h).Each fun y=>y.2.b=h.b:=by
 unfold conM0
 split
 ·split
  ·split
   ·exact asks_each rfl
   ·trivial
  ·trivial
 ·trivial
def bconM (t:TypeId) (A:El α) (D:DA γ) (R:RM δ) (fn:List α→γ→List α×δ) (pre:List α→γ→List Prop):BCon:=⟨conM t A D R fn pre,fun args h=>by
 unfold conM
 split
 ·exact conM0_b
 ·split
  ·exact conM0_b (h:=h.push _)
  ·trivial
 ·trivial⟩
end
end Go.Sx
namespace Go.Sx
variable [Env]
structure MTab (P:Program) where
 p:PTab P
 m:{ l:List (Nat×BCon) // ∀ x∈l,FnOk P x.1 x.2.g }
section
variable {P:Program}
def MTab.of (t:PTab P):MTab P:=⟨t,⟨[],fun x h=>by simp at h⟩⟩
def MTab.cons (t:MTab P) (f:Nat) (c:PCon) (h:FnOk P f c.g):MTab P:=⟨t.p.cons f c h,t.m⟩
def MTab.consM (t:MTab P) (f:Nat) (c:BCon) (h:FnOk P f c.g):MTab P:=⟨t.p,⟨(f,c) :: t.m.1,fun x hx=>by
 rcases List.mem_cons.1 hx with rfl | hx
 ·exact h
 ·exact t.m.2 x hx⟩⟩
def MTab.gamz (t:MTab P) (zs:List (Nat×Nat)) (us:List (Nat×Nat×Nat)):Gam:=Go.Sx.gam t.p.1 t.m.1 zs us
theorem MTab.okz (t:MTab P) (zs:List (Nat×Nat)) (us:List (Nat×Nat×Nat)):∀ f g,(t.gamz zs us).g f=some g→FnOk P f g:=gam_ok t.p.2 t.m.2
theorem mut_of_side {f t:Nat} {α γ δ:Type} {A:El α} {D:DA γ} {R:RM δ} {fn:List α→γ→List α×δ} {pre:List α→γ→List Prop} {Γ:Gam} {Λ:Lam}
  (hΓ:∀ f g,Γ.g f=some g→FnOk P f g) (hΛ:∀ f k L,Λ f k=some L→∀ b∈loopsOf P f,lkey b=k→LoopOk P b L.g) (n:Nat) (d:List α×δ) (S:List α→γ→Prop)
  (hS:∀ xs g,(mTree P Γ Λ n f t A R xs (D.enc g)).side=S xs g) (he:∀ xs g,(mTree P Γ Λ n f t A R xs (D.enc g)).ev d=fn xs g) (hs:∀ xs g,D.bd g→xs.length≤maxLen→(∀ p∈pre xs g,p)→S xs g):FnMut P f t A D R fn pre:=
 mut_of_tree hΓ hΛ n fun xs g h1 h2 h3=>by
  have:=Tr.side_holds d (by rw[hS];exact hs xs g h1 h2 h3:(mTree P Γ Λ n f t A R xs (D.enc g)).side)
  rw[he xs g] at this
  exact this
def dFn (f:Nat):Dv Unit where
 dec s:=match s with
  | .fn f' []=>bif Nat.beq f f' then some ((),[]) else none
  | _=>none
 enc _:=.fn f []
 bd _:=True
 cl _ n m ρ ρ' x hm hf:=by
  obtain ⟨l,e,hl⟩:=hf
  have:=fits_nil hl
  subst this
  exact ⟨[],e,trivial⟩
 ok s a ps n ρ x hd hp hf:=by
  split at hd
  ·rename_i f'
   cases hb:Nat.beq f f' with
   | false=>rw[hb] at hd;cases hd
   | true=>
    rw[beq_of hb];exact hf
  ·cases hd
 fb _ _ _ _ _:=trivial
end
end Go.Sx
namespace Go.Sx
variable [Env]
abbrev RM.T {δ:Type} (_:RM δ):Type:=δ
end Go.Sx

namespace Go.Sx
open Go.RowKit
variable [Env]
section
variable {P:Program} {Γ:Gam} {Λ:Lam} {f t:Nat} {γ γ' κ δ:Type} {C:El κ} {D:DA γ} {D':DA γ'} {R:Dv δ} {fn:γ→κ→γ'→κ×δ} {pre:γ→κ→γ'→List Prop}
end
end Go.Sx

namespace Go.Sx
open Go.RowKit
variable [Env]
theorem cl_pr {xs:List SV} (h:Cls xs):Cl (.pr xs):=by
 intro n m ρ ρ' x hm hf
 obtain ⟨b,o,cs,t,fz,k1,k2,vs,k3,k4⟩:=hf
 exact ⟨b,o,cs,t,fz,k1,hm _ _ k2,vs,h n m ρ ρ' vs hm k3,k4⟩
theorem cl_fn {f:Nat} {xs:List SV} (h:Cls xs):Cl (.fn f xs):=by
 intro n m ρ ρ' x hm hf
 obtain ⟨l,rfl,hl⟩:=hf
 exact ⟨l,rfl,h n m ρ ρ' l hm hl⟩
end Go.Sx

namespace Go.Sx
open Go.RowKit
variable [Env]
structure Vwd (M:Nat→Prop) (w0:World) (ρ:Rh) (h:SH) (w:World) (G:Nat→Option Obj):Prop where
 hm:HM M w0 ρ h w
 hG:∀ b o,ρ.mem b=some o→G b=some o
 hO:∀ i o,(h.get i).own (ρ i)→w.heap[(ρ i).blk]?=some o→G (ρ i).blk=some o
structure Rv (δ:Type) where
 D:Dv δ
 dec:SH→SV→Option (δ×List Prop)
 ok:∀ {M:Nat→Prop} {w0:World} {ρ:Rh} {h:SH} {w:World} {G:Nat→Option Obj},Vwd M w0 ρ h w G→∀ {s:SV} {r:δ} {ps:List Prop} {x:Value},dec h s=some (r,ps)→(∀ p∈ps,p)→s.fit h.nx ρ x→(D.enc r).fit h.nx ⟨ρ.lc,G,ρ.lo⟩ x
abbrev Rv.T {δ:Type} (_:Rv δ):Type:=δ
def Rv.of {δ:Type} (D:Dv δ):Rv δ where
 D:=D
 dec h s:=match D.dec (vw2 h s).1 with
  | some (r,ps)=>some (r,(vw2 h s).2++ps)
  | none=>none
 ok {_ _ _ _ _ _} hv {_ _ _ _} hd hp hf:=by
  split at hd
  ·rename_i r ps hr
   simp only[Option.some.injEq,Prod.mk.injEq] at hd
   obtain ⟨rfl,rfl⟩:=hd
   exact D.ok _ _ _ _ _ _ hr (fun p h'=>hp p (List.mem_append_right _ h')) (vw2_ok hv.hm hv.hG hv.hO hf fun p h'=>hp p (List.mem_append_left _ h'))
  ·cases hd
def Rv.list {α:Type} (A:El α):Rv (List α) where
 D:=.list A
 dec h s:=match s with
  | .ow i l=>match h.get i with
   | .row _ sz el m=>bif Nat.beq sz A.sz then some (A.lstE l el,(l≤m) :: A.okE l el) else none
   | _=>none
  | .se i sz o l=>match h.get i with
   | .row _ s el m=>bif Nat.beq s sz&&Nat.beq sz A.sz then some (A.lstE l (.sh o el),(o+l≤m) :: A.okE l (.sh o el)) else none
   | _=>none
  | s=>(Rv.of (.list A)).dec h s
 ok {M w0 ρ h w G} hv {s r ps x} hd hp hf:=by
  split at hd
  ·rename_i i l
   split at hd
   ·rename_i t sz el m hg
    cases hb:Nat.beq sz A.sz with
    | false=>rw[hb] at hd;cases hd
    | true=>
     rw[hb] at hd
     simp only[cond_true,Option.some.injEq,Prod.mk.injEq] at hd
     obtain ⟨rfl,rfl⟩:=hd
     have e0:vw0 h (.ow i l)=(.rs sz l el,[l≤m]):=by simp only[vw0,hg]
     have h1:=vw0_ok hv.hm hv.hG hv.hO hf (by rw[e0];intro p hp';simp only[List.mem_singleton] at hp';subst hp';exact hp _ (List.mem_cons_self ..))
     rw[e0] at h1
     rw[A.lstE_eq]
     exact (Dv.list A).ok (.rs sz l el.at) _ [∀ e,e<l→A.Ok (el.at e)] _ _ _ (by simp[Dv.list,hb]) (by
      intro p hp'
      simp only[List.mem_singleton] at hp'
      subst hp'
      exact A.okE_ok l el fun p h'=>hp p (List.mem_cons_of_mem _ h')) h1
   ·cases hd
  ·rename_i i sz o l
   split at hd
   ·rename_i t s el m hg
    cases hb:(Nat.beq s sz&&Nat.beq sz A.sz) with
    | false=>rw[hb] at hd;cases hd
    | true=>
     rw[hb] at hd
     simp only[cond_true,Option.some.injEq,Prod.mk.injEq] at hd
     obtain ⟨rfl,rfl⟩:=hd
     simp only[Bool.and_eq_true] at hb
     have e0:vw0 h (.se i sz o l)=(.rs sz l (ElE.sh o el),[o+l≤m]):=by simp only[vw0,hg,hb.1,cond_true]
     have h1:=vw0_ok hv.hm hv.hG hv.hO hf (by rw[e0];intro p hp';simp only[List.mem_singleton] at hp';subst hp';exact hp _ (List.mem_cons_self ..))
     rw[e0] at h1
     rw[A.lstE_eq]
     exact (Dv.list A).ok (.rs sz l (ElE.sh o el).at) _ [∀ e,e<l→A.Ok ((ElE.sh o el).at e)] _ _ _ (by simp[Dv.list,hb.2]) (by
      intro p hp'
      simp only[List.mem_singleton] at hp'
      subst hp'
      exact A.okE_ok l (ElE.sh o el) fun p h'=>hp p (List.mem_cons_of_mem _ h')) h1
   ·cases hd
  ·exact (Rv.of (.list A)).ok hv hd hp hf
structure RvA (γ:Type) where
 D:DA γ
 dec:SH→List SV→Option (γ×List Prop)
 ok:∀ {M:Nat→Prop} {w0:World} {ρ:Rh} {h:SH} {w:World} {G:Nat→Option Obj},Vwd M w0 ρ h w G→∀ {s:List SV} {r:γ} {ps:List Prop} {x:List Value},dec h s=some (r,ps)→(∀ p∈ps,p)→SV.fits h.nx ρ s x→SV.fits h.nx ⟨ρ.lc,G,ρ.lo⟩ (D.enc r) x
def RvA.one {α:Type} (R:Rv α):RvA α where
 D:=.one R.D
 dec h l:=match l with
  | [s]=>R.dec h s
  | _=>Option.none
 ok {_ _ _ _ _ _} hv {s r ps x} hd hp hf:=by
  split at hd
  ·obtain ⟨y,r',rfl,hy,hr⟩:=fits_cons hf
   have:=fits_nil hr
   subst this
   exact ⟨R.ok hv hd hp hy,trivial⟩
  ·cases hd
def RvA.cons {α γ:Type} (R:Rv α) (A:RvA γ):RvA (α×γ) where
 D:=.cons R.D A.D
 dec h l:=match l with
  | s :: r=>match R.dec h s with
   | some (a,ps)=>match A.dec h r with
    | some (g,qs)=>some ((a,g),ps++qs)
    | Option.none=>Option.none
   | Option.none=>Option.none
  | []=>Option.none
 ok {_ _ _ _ _ _} hv {s r ps x} hd hp hf:=by
  split at hd
  ·rename_i s r
   split at hd
   ·rename_i a ps0 h1
    split at hd
    ·rename_i g0 qs0 h2
     simp only[Option.some.injEq,Prod.mk.injEq] at hd
     obtain ⟨rfl,rfl⟩:=hd
     obtain ⟨y,r',rfl,hy,hr⟩:=fits_cons hf
     exact ⟨R.ok hv h1 (fun p hp'=>hp p (List.mem_append_left _ hp')) hy,A.ok hv h2 (fun p hp'=>hp p (List.mem_append_right _ hp')) hr⟩
    ·cases hd
   ·cases hd
  ·cases hd
def Rv.tup {γ:Type} (A:RvA γ):Rv γ where
 D:=.tup A.D
 dec h s:=match s with
  | .tup l=>A.dec h l
  | _=>none
 ok {_ _ _ _ _ _} hv {s r ps x} hd hp hf:=by
  split at hd
  ·obtain ⟨v,rfl,hv'⟩:=hf
   exact ⟨v,rfl,A.ok hv hd hp hv'⟩
  ·cases hd
def rTree {δ:Type} (P:Program) (Γ:Gam) (Λ:Lam) (n f:Nat) (args:List SV) (R:Rv δ):Tr δ:=
 (fnTree P Γ Λ n f args ⟨0,[],[]⟩).bind fun y=>match R.dec y.2 y.1 with
  | some (r,ps)=>asks ps (.ret r)
  | none=>.bad 620
section
variable {P:Program} {Γ:Gam} {Λ:Lam} {f:Nat} {γ δ:Type} {D:DA γ} {R:Rv δ} {fn:γ→δ} {pre:γ→List Prop}
theorem res_of_tree (hΓ:∀ f g,Γ.g f=some g→FnOk P f g) (hΛ:∀ f k L,Λ f k=some L→∀ b∈loopsOf P f,lkey b=k→LoopOk P b L.g) (n:Nat)
  (hT:∀ g,D.bd g→(∀ p∈pre g,p)→(rTree P Γ Λ n f (D.enc g) R).Holds (·=fn g)):FnPure P f D R.D fn pre:=by
 intro w F g vs hF hE hpre hfit
 have hbd:=D.fb _ _ _ _ hfit
 have hT:=hT g hbd hpre
 have h0:=fnTree_ok hΓ hΛ n (fun _=>False) w w (emp F) ⟨0,[],[]⟩ _ vs _ (Tr.holds_bind hT) (HM.start w (emp F) hF (fun _ _ h=>h) hE) hfit
 refine h0.mono ?_
 rintro e w' ⟨s,h',ρ',x,h1,h2,h3,h4,h5,rfl⟩
 refine ⟨x,rfl,h4.toBelow,?_⟩
 simp only at h1
 have hv:Vwd (fun _=>False) w ρ' h' w' (memAt F w w'):={
  hm:=h4
  hG:=fun b o hb=>by
   unfold memAt
   split
   ·rename_i hlt
    have:=h4.old b o hb hlt (fun h=>h)
    rw[h3.2.2] at this
    exact this
   ·exact h4.fz b o hb
  hO:=fun i o hown ho=>by
   unfold memAt
   rcases h4.ow i hown with h | h
   ·rw[if_neg (by omega)];exact ho
   ·exact h.elim }
 split at h1
 ·rename_i r ps hr
  obtain ⟨hq,h1⟩:=asks_holds h1
  have h1:r=fn g:=h1
  have:=R.ok hv hr hq h5
  rw[h1] at this
  exact R.D.cl _ _ 0 ⟨ρ'.lc,memAt F w w',ρ'.lo⟩ (emp (memAt F w w')) x (fun _ _ h=>h) this
 ·exact h1.elim
theorem res_of_side (hΓ:∀ f g,Γ.g f=some g→FnOk P f g) (hΛ:∀ f k L,Λ f k=some L→∀ b∈loopsOf P f,lkey b=k→LoopOk P b L.g) (n:Nat) (d:δ) (S:γ→Prop)
  (hS:∀ g,(rTree P Γ Λ n f (D.enc g) R).side=S g) (he:∀ g,(rTree P Γ Λ n f (D.enc g) R).ev d=fn g) (hs:∀ g,D.bd g→(∀ p∈pre g,p)→S g):FnPure P f D R.D fn pre:=
 res_of_tree hΓ hΛ n fun g h1 h2=>by
  have:=Tr.side_holds d (by rw[hS];exact hs g h1 h2:(rTree P Γ Λ n f (D.enc g) R).side)
  rw[he g] at this
  exact this
end
end Go.Sx

namespace Go.Sx
open Go.RowKit
variable [Env]
def CodeIs (a b:Code):Prop:=a=b
def fixT (N:Nat) (t:List (Nat×SV)):List (Nat×SV)→Bool
 | []=>true
 | (i,v) :: r=>litEq N (look (.k undef) i t) v&&fixT N t r
theorem fixT_ok {N:Nat} {t:List (Nat×SV)}:∀ {l:List (Nat×SV)},fixT N t l=true→∀ i v,(i,v)∈l→look (.k undef) i t=v∧Bl N v
 | [],_,_,_,h=>by simp at h
 | (j,u) :: r,h,i,v,hm=>by
  simp only[fixT,Bool.and_eq_true] at h
  rcases List.mem_cons.1 hm with he | hm
  ·simp only[Prod.mk.injEq] at he
   obtain ⟨rfl,rfl⟩:=he
   exact litEq_ok h.1
  ·exact fixT_ok h.2 i v hm
def restU (n:Nat):List (Nat×SV):=(List.range n).map fun i=>(i,.u)
theorem look_restU {n i:Nat} (h:i<n):look (.k undef) i (restU n)=.u:=by
 rcases look_or (.k undef) i (restU n) with h1 | h1
 ·obtain ⟨j,_,e⟩:=List.mem_map.1 h1
  simp only[Prod.mk.injEq] at e
  exact e.2.symm
 ·exact absurd (by simp only[restU,List.map_map];simpa using h) h1
def LP.loopO (N id n:Nat) (fx:List (Nat×SV)) (ps:Array Tmp) (asg body:Code) (df:Nat):LP N (LoopState×Option Code) where
 R:=0
 read σ:=match σ.h.get id with
  | .loop st pd n' t ps' asg' body' df'=>bif Nat.beq n' n&&(Nat.beq df' df&&(Nat.blt df N&&(decide (ps'=ps)&&fixT N t fx))) then some ((st,pd),[CodeIs asg' asg,CodeIs body' body],[]) else none
  | _=>none
 ents _ _:=[]
 blks _ _:=[]
 objs _ g:=[(id,.loop g.1 g.2 n (fx++restU n) ps asg body df)]
 es:=[]
 os:=[id]
 eseq _ _:=rfl
 oseq _ _:=rfl
 blen _ _:=rfl
 ilen σ g ps' ids h:=by
  split at h
  ·rename_i st pd n' t ps'' asg' body' df' _
   cases hb:(Nat.beq n' n&&(Nat.beq df' df&&(Nat.blt df N&&(decide (ps''=ps)&&fixT N t fx)))) with
   | false=>rw[hb] at h;cases h
   | true=>rw[hb] at h;simp only[cond_true,Option.some.injEq,Prod.mk.injEq] at h;rw[← h.2.2];rfl
  ·cases h
 ok k0 σ g ps' ids h hp:=by
  split at h
  ·rename_i st pd n' t ps'' asg' body' df' hg
   cases hb:(Nat.beq n' n&&(Nat.beq df' df&&(Nat.blt df N&&(decide (ps''=ps)&&fixT N t fx)))) with
   | false=>rw[hb] at h;cases h
   | true=>
    rw[hb] at h
    simp only[cond_true,Option.some.injEq,Prod.mk.injEq] at h
    obtain ⟨rfl,rfl,rfl⟩:=h
    simp only[Bool.and_eq_true,decide_eq_true_eq] at hb
    obtain ⟨h1,h2,h3,h4,h5⟩:=hb
    have e1:=beq_of h1
    have e2:=beq_of h2
    subst e1;subst e2;subst h4
    have hlt:df'<N:=Nat.le_of_ble_eq_true h3
    have c1:asg'=asg:=hp _ (List.mem_cons_self ..)
    have c2:body'=body:=hp _ (List.mem_cons_of_mem _ (List.mem_cons_self ..))
    subst c1;subst c2
    refine ⟨fun k so h=>by simp at h,fun id' so h=>?_,fun j s h=>by simp at h⟩
    simp only[List.mem_singleton,Prod.mk.injEq] at h
    obtain ⟨rfl,rfl⟩:=h
    rw[hg]
    refine ⟨fun _ h=>h,fun n m ρ ρ' L o hr hf=>?_⟩
    have hNm:N≤m:=by have:=hr.le;omega
    have hag:=hr.ag
    obtain ⟨f1,f2,f,tm,f3,f4,f5⟩:=hf
    refine ⟨f1,by omega,f,tm,by rw[hag.1 _ hlt];exact f3,f4,fun i hi=>?_⟩
    have h6:=f5 i hi
    rw[look_append]
    rcases look_or (look (.k undef) i (restU n')) i fx with h7 | h7
    ·obtain ⟨e,hbl⟩:=fixT_ok h5 _ _ h7
     rw[e] at h6
     exact hbl _ _ _ _ _ hNm hag h6
    ·rw[look_not _ _ h7,look_restU hi]
     trivial
  ·cases h
section
variable {P:Program} {Γ:Gam} {Λ:Lam} {N:Nat} {γ:Type}
end
theorem pure_congr {γ δ:Type} {P:Program} {f:Nat} {D:DA γ} {R:Dv δ} {fn fn':γ→δ} {pre:γ→List Prop} (h:FnPure P f D R fn pre) (e:∀ g,D.bd g→(∀ p∈pre g,p)→fn g=fn' g):FnPure P f D R fn' pre:=by
 intro w F g vs h1 hE h2 h3
 refine (h w F g vs h1 hE h2 h3).mono ?_
 rintro e' w' ⟨x,k1,k2,k3⟩
 rw[e g (D.fb _ _ _ _ h3) h2] at k3
 exact ⟨x,k1,k2,k3⟩
end Go.Sx

namespace Go.Sx
variable [Env]
def rangesIn:Code→List (Array Tmp×Code×Code)
 | .seq a b=>rangesIn a++rangesIn b
 | .cond _ a b=>rangesIn a++rangesIn b
 | .block _ c=>rangesIn c
 | .scope c=>rangesIn c
 | .loop c=>rangesIn c
 | .rangeFunc _ ps a b=>(ps,a,b) :: (rangesIn a++rangesIn b)
 | _=>[]
def rangeOf (P:Program) (f k:Nat):Array Tmp×Code×Code:=
 match P.funcs[f]? with
 | some fn=>match fn.body with
  | some c=>((rangesIn c)[k]?).getD (#[],.skip,.skip)
  | none=>(#[],.skip,.skip)
 | none=>(#[],.skip,.skip)
def LP.rf (N id:Nat) (P:Program) (f k n:Nat) (fx:List (Nat×SV)) (df:Nat):LP N (LoopState×Option Code):=
 LP.loopO N id n fx (rangeOf P f k).1 (rangeOf P f k).2.1 (rangeOf P f k).2.2 df
def pdB:Option Code→Option Code→Bool
 | none,none=>true
 | some .ret,some .ret=>true
 | some (.exit a),some (.exit b)=>Nat.beq a b
 | some (.goto a),some (.goto b)=>Nat.beq a b
 | _,_=>false
def exitsS {γ:Type} (x:Ex×γ):List ((Ex×γ→Bool)×Ex×(γ→γ))→Tr (Ex×γ)
 | []=>.bad 645
 | [(_,e,s)]=>.ret (e,s x.2)
 | (t,e,s) :: y :: r=>.br (t x) (.ret (e,s x.2)) (exitsS x (y :: r))
def exitsOk {γ:Type} (x:Ex×γ):List ((Ex×γ→Bool)×Ex×(γ→γ))→Prop
 | []=>False
 | [(_,e,s)]=>x.1=e∧s x.2=x.2
 | (t,e,s) :: y :: r=>(t x=true→x.1=e∧s x.2=x.2)∧(t x=false→exitsOk x (y :: r))
theorem exitsS_holds {γ:Type} {x:Ex×γ} {K:Ex×γ→Prop}:∀ {l:List ((Ex×γ→Bool)×Ex×(γ→γ))},exitsOk x l→(exitsS x l).Holds K→K x
 | [],h,_=>h.elim
 | [(_,e,s)],h,hk=>by
  obtain ⟨h1,h2⟩:=h
  have hk:K (e,s x.2):=hk
  rw[← h1,h2] at hk
  exact hk
 | (t,e,s) :: y :: r,h,hk=>by
  cases hb:t x with
  | true=>
   obtain ⟨h1,h2⟩:=h.1 hb
   have hk:K (e,s x.2):=hk.1 hb
   rw[← h1,h2] at hk
   exact hk
  | false=>exact exitsS_holds (l:=y :: r) (h.2 hb) (hk.2 hb)
section
variable {P:Program} {Γ:Gam} {Λ:Lam} {N:Nat} {γ:Type}
noncomputable def loopRS (es:List ((Ex×γ→Bool)×Ex×(γ→γ))) (body:Code) (A:LP N γ) (DL:List Nat) (n0:Nat) (Inv:γ→List Prop) (F:γ→Ex×γ) (m:γ→Nat):LCon:=loopC body A DL n0 Inv fun g=>exitsS (loopF F m g) es
theorem loop_runS (ι:γ→γ) (hΓ:∀ f g,Γ.g f=some g→FnOk P f g) (hΛ:∀ f k L,Λ f k=some L→∀ b∈loopsOf P f,lkey b=k→LoopOk P b L.g) (n f key n0:Nat) (A:LP N γ) (DL:List Nat) (Inv:γ→List Prop) (F:γ→Ex×γ) (S:γ→Prop) (m:γ→Nat) (d:Ex×γ) (es:List ((Ex×γ→Bool)×Ex×(γ→γ)))
  (hu:((loopsOf P f).filter fun c=>Nat.beq (lkey c) key).length=1)
  (hS:∀ (rd:Option Nat) (T B:List (Nat×SV)) (HL HB:List (Nat×SE)) (ds:List Nat) (g:γ),(bT P Γ Λ n f none (loopBody P f key) A DL n0 ⟨n0,T,⟨N,HL,HB⟩,DL,B⟩ ds (ι g)).side=S g)
  (hF:∀ (rd:Option Nat) (T B:List (Nat×SV)) (HL HB:List (Nat×SE)) (ds:List Nat) (g:γ),(bT P Γ Λ n f none (loopBody P f key) A DL n0 ⟨n0,T,⟨N,HL,HB⟩,DL,B⟩ ds (ι g)).ev d=F g)
  (hι:∀ g,allP (Inv g)→ι g=g) (hs:∀ g,allP (Inv g)→S g) (hg:Goes F m fun g=>allP (Inv g)) (hes:∀ g,(F g).1=.normal∨exitsOk (F g) es):∀ b∈loopsOf P f,lkey b=key→LoopOk P b (loopRS es (loopBody P f key) A DL n0 Inv F m).g:=by
 refine loop_ok hΓ hΛ n f key n0 A DL Inv _ m hu ?_
 intro rd T B HL HB ds g hi K hK
 have h1:(bT P Γ Λ n f none (loopBody P f key) A DL n0 ⟨n0,T,⟨N,HL,HB⟩,DL,B⟩ ds (ι g)).side:=by rw[hS none];exact hs g hi
 have h2:=Tr.side_holds d h1
 rw[hF none,hι g hi] at h2
 refine Tr.mono ?_ h2
 rintro _ rfl
 have hK0:=hK
 have hx:exitsOk (loopF F m g) es:=loopF_induct hg (Q:=fun _ r=>exitsOk r es) (fun g _ hn=>(hes g).resolve_left hn) (fun _ _ _ _ _ _ _ ih=>ih) g hi
 have hK:K (loopF F m g):=exitsS_holds hx hK
 unfold StepP
 split
 ·rename_i he
  obtain ⟨k1,k2⟩:=hg g hi he
  refine ⟨k1,k2,?_⟩
  show (exitsS (loopF F m (F g).2) es).Holds K
  rw[← loopF_next hg hi (g':=(F g).2) (by rw[← he])]
  exact hK0
 ·rename_i he
  rw[loopF_end (by intro h;exact he h)] at hK
  exact hK
end
end Go.Sx

namespace Go.Sx
variable [Env]
section
variable {α:Type} (A:El α)
def El.ag (l:List α):List α:=A.lst l.length (A.els l)
def El.okL (l:List α):Prop:=∀ e,e<l.length→A.Ok (A.els l e)
@[simp] theorem El.ag_eq (l:List α):A.ag l=l:=A.lst_els l
@[simp] theorem El.okL_eq (l:List α):A.okL l=True:=eq_true fun e _=>A.ok_els l e
end
end Go.Sx

namespace Go.Lp
open Go.Lib Go.Sx
def sc (c:Nat):Prop:=c<55296∨(57344≤c∧c≤1114111)
def encL (c:Nat):List UInt8:=(Utf8.encode (c:Int)).data.toList
theorem sc_valid {c:Nat} (h:sc c):Utf8.valid (c:Int)=true:=by
 unfold Utf8.valid
 simp only[Bool.or_eq_true,Bool.and_eq_true,decide_eq_true_eq]
 rcases h with h | h <;> omega
set_option maxRecDepth 100000 in
theorem encL_cases {c:Nat} (h:sc c) :
  (c<128∧encL c=[UInt8.ofNat c])∨(128≤c∧c<2048∧encL c=[UInt8.ofNat (192+c / 64),UInt8.ofNat (128+c % 64)]) ∨
  (2048≤c∧c<65536∧encL c=[UInt8.ofNat (224+c / 4096),UInt8.ofNat (128+c / 64 % 64),UInt8.ofNat (128+c % 64)]) ∨
  (65536≤c∧c≤1114111∧encL c=[UInt8.ofNat (240+c / 262144),UInt8.ofNat (128+c / 4096 % 64),UInt8.ofNat (128+c / 64 % 64),UInt8.ofNat (128+c % 64)]):=by
 unfold encL Utf8.encode
 rw[sc_valid h]
 simp only[if_true,Int.toNat_natCast]
 have hc:c≤1114111:=by rcases h with h | h <;> omega
 by_cases h1:c<128
 ·left;exact ⟨h1,by rw[if_pos h1]⟩
 by_cases h2:c<2048
 ·right;left;exact ⟨by omega,h2,by rw[if_neg h1,if_pos h2]⟩
 by_cases h3:c<65536
 ·right;right;left;exact ⟨by omega,h3,by rw[if_neg h1,if_neg h2,if_pos h3]⟩
 ·right;right;right;exact ⟨by omega,hc,by rw[if_neg h1,if_neg h2,if_neg h3]⟩
theorem encL_len {c:Nat} (h:sc c):1≤(encL c).length∧(encL c).length≤4:=by
 rcases encL_cases h with ⟨_,e⟩ | ⟨_,_,e⟩ | ⟨_,_,e⟩ | ⟨_,_,e⟩ <;> rw[e] <;> simp
theorem encL_ne {c:Nat} (h:sc c):encL c≠[]:=by
 intro e
 have:=(encL_len h).1
 rw[e] at this
 simp at this
theorem ofNat_toNat {n:Nat} (h:n<256):(UInt8.ofNat n).toNat=n:=by simp;omega
theorem decode_enc {c:Nat} (h:sc c) (b:List UInt8):decodeL (encL c++b)=(c,(encL c).length):=by
 rw[decodeL_N]
 rcases encL_cases h with ⟨h1,e⟩ | ⟨h1,h2,e⟩ | ⟨h1,h2,e⟩ | ⟨h1,h2,e⟩
 ·rw[e]
  simp only[List.cons_append,List.nil_append,List.getD_cons_zero,List.length_cons,List.length_nil]
  rw[ofNat_toNat (by omega)]
  unfold decodeN
  rw[if_pos h1]
 ·rw[e]
  simp only[List.cons_append,List.nil_append,List.getD_cons_zero,List.getD_cons_succ,List.length_cons,List.length_nil]
  rw[ofNat_toNat (by omega),ofNat_toNat (by omega)]
  unfold decodeN
  have e1:(192+c / 64) % 32 * 64+(128+c % 64) % 64=c:=by omega
  rw[if_neg (by omega),if_pos (by refine ⟨by omega,by omega,by omega⟩),e1,if_pos (by omega)]
 ·rw[e]
  simp only[List.cons_append,List.nil_append,List.getD_cons_zero,List.getD_cons_succ,List.length_cons,List.length_nil]
  rw[ofNat_toNat (by omega),ofNat_toNat (by omega),ofNat_toNat (by omega)]
  have e1:(224+c / 4096) % 16 * 4096+(128+c / 64 % 64) % 64 * 64+(128+c % 64) % 64=c:=by omega
  unfold decodeN
  rw[if_neg (by omega),if_neg (by omega),if_pos (by refine ⟨by omega,⟨by omega,by omega⟩,by omega,by omega⟩),if_pos]
  ·rw[e1]
  ·rw[e1]
   refine ⟨by omega,?_⟩
   rcases h with h | h
   ·exact .inl h
   ·exact .inr h
 ·rw[e]
  simp only[List.cons_append,List.nil_append,List.getD_cons_zero,List.getD_cons_succ,List.length_cons,List.length_nil]
  rw[ofNat_toNat (by omega),ofNat_toNat (by omega),ofNat_toNat (by omega),ofNat_toNat (by omega)]
  have e1:(240+c / 262144) % 8 * 262144+(128+c / 4096 % 64) % 64 * 4096+(128+c / 64 % 64) % 64 * 64+(128+c % 64) % 64=c:=by omega
  unfold decodeN
  rw[if_neg (by omega),if_neg (by omega),if_neg (by omega),if_pos (by refine ⟨by omega,⟨by omega,by omega⟩,⟨by omega,by omega⟩,by omega,by omega⟩),if_pos]
  ·rw[e1]
  ·rw[e1]
   exact ⟨by omega,.inr ⟨by omega,by omega⟩⟩
theorem decode_sc (l:List UInt8):sc (decodeL l).1:=by
 rw[decodeL_N]
 rcases decodeN_shape l.length (l.getD 0 0).toNat (l.getD 1 0).toNat (l.getD 2 0).toNat (l.getD 3 0).toNat with ⟨c,e⟩ | ⟨c1,c2,c3,cv,e⟩ | ⟨c1,c2,c3,c4,cv,cs,e⟩ | ⟨c1,c2,c3,c4,c5,cv,cw,e⟩ | e
 ·rw[e];exact .inl (by omega)
 ·rw[e];exact .inl (by show _ * 64+_<55296;omega)
 ·rw[e]
  rcases cs with cs | cs
  ·exact .inl cs
  ·exact .inr ⟨cs,by show _≤1114111;omega⟩
 ·rw[e];exact .inr ⟨by show 57344≤_;omega,cw⟩
 ·rw[e];exact .inr ⟨by decide,by decide⟩
theorem enc_decode (l:List UInt8) (hne:l≠[]) (hv:¬ ((decodeL l).1=65533∧(decodeL l).2=1)):encL (decodeL l).1=l.take (decodeL l).2:=by
 rw[← encode_decode l hne hv]
 have h:=decode_sc l
 generalize (decodeL l).1=c at h
 unfold encodeRune
 have tb:∀ z:Int,∀ n:Nat,z=(n:Int)→z.toNat.toUInt8=UInt8.ofNat n:=fun z n e=>by subst e;rfl
 rcases encL_cases h with ⟨h1,e⟩ | ⟨h1,h2,e⟩ | ⟨h1,h2,e⟩ | ⟨h1,h2,e⟩
 ·rw[e,encodeRuneZ_one (by omega) (by omega)]
  simp only[List.map_cons,List.map_nil]
  rw[tb _ c rfl]
 ·rw[e,encodeRuneZ_two (by omega) (by omega)]
  simp only[List.map_cons,List.map_nil]
  rw[tb (192+(c:Int) / 64) (192+c / 64) (by omega),tb (128+(c:Int) % 64) (128+c % 64) (by omega)]
 ·rw[e,encodeRuneZ_three (by rcases h with h | h <;> omega)]
  simp only[List.map_cons,List.map_nil]
  rw[tb (224+(c:Int) / 4096) (224+c / 4096) (by omega),tb (128+(c:Int) / 64 % 64) (128+c / 64 % 64) (by omega),tb (128+(c:Int) % 64) (128+c % 64) (by omega)]
 ·rw[e,encodeRuneZ_four (by omega) (by omega)]
  simp only[List.map_cons,List.map_nil]
  rw[tb (240+(c:Int) / 262144) (240+c / 262144) (by omega),tb (128+(c:Int) / 4096 % 64) (128+c / 4096 % 64) (by omega),tb (128+(c:Int) / 64 % 64) (128+c / 64 % 64) (by omega),tb (128+(c:Int) % 64) (128+c % 64) (by omega)]
def rsA:Nat→List UInt8→List (Nat×Nat)
 | 0,_=>[]
 | n+1,l=>if l=[] then [] else decodeL l :: rsA n (l.drop (decodeL l).2)
def rsL (l:List UInt8):List (Nat×Nat):=rsA l.length l
theorem rsA_nil:∀ n,rsA n []=[]
 | 0=>rfl
 | _+1=>by simp[rsA]
theorem rsA_fuel:∀ (n m:Nat) (l:List UInt8),l.length≤n→l.length≤m→rsA n l=rsA m l
 | 0,m,l,hn,_=>by
  have:l=[]:=List.eq_nil_of_length_eq_zero (by omega)
  subst this
  rw[rsA_nil,rsA_nil]
 | n+1,0,l,_,hm=>by
  have:l=[]:=List.eq_nil_of_length_eq_zero (by omega)
  subst this
  rw[rsA_nil,rsA_nil]
 | n+1,m+1,l,hn,hm=>by
  unfold rsA
  by_cases hne:l=[]
  ·simp[hne]
  ·have hw:=decodeL_width l
   have hl:0<l.length:=List.length_pos_iff.2 hne
   rw[if_neg hne,if_neg hne,rsA_fuel n m (l.drop (decodeL l).2) (by rw[List.length_drop];omega) (by rw[List.length_drop];omega)]
theorem rsL_nil:rsL []=[]:=rfl
theorem rsL_step (l:List UInt8) (hne:l≠[]):rsL l=decodeL l :: rsL (l.drop (decodeL l).2):=by
 have hl:0<l.length:=List.length_pos_iff.2 hne
 have hw:=decodeL_width l
 obtain ⟨n,hn⟩:∃ n,l.length=n+1:=⟨l.length - 1,by omega⟩
 unfold rsL
 rw[hn]
 show (if l=[] then [] else _)=_
 rw[if_neg hne,rsA_fuel n (l.drop (decodeL l).2).length _ (by rw[List.length_drop];omega) (Nat.le_refl _)]
theorem rsL_ind {p:List UInt8→Prop} (h0:p []) (h1:∀ l,l≠[]→p (l.drop (decodeL l).2)→p l):∀ l,p l:=by
 have:∀ n (l:List UInt8),l.length≤n→p l:=by
  intro n
  induction n with
  | zero=>
   intro l hl
   have e:l=[]:=List.eq_nil_of_length_eq_zero (by omega)
   rw[e];exact h0
  | succ n ih=>
   intro l hl
   by_cases hne:l=[]
   ·rw[hne];exact h0
   ·have hw:=decodeL_width l
    exact h1 l hne (ih _ (by rw[List.length_drop];have:=List.length_pos_iff.2 hne;omega))
 exact fun l=>this _ l (Nat.le_refl _)
def encs (cs:List Nat):List UInt8:=cs.flatMap encL
def rwd (c:Nat):Nat×Nat:=(c,(encL c).length)
theorem encs_cons (c:Nat) (cs:List Nat):encs (c :: cs)=encL c++encs cs:=by simp[encs]
theorem encs_append (cs ds:List Nat):encs (cs++ds)=encs cs++encs ds:=by simp[encs]
theorem rsL_enc {c:Nat} (h:sc c) (b:List UInt8):rsL (encL c++b)=rwd c :: rsL b:=by
 rw[rsL_step _ (by intro e;exact encL_ne h (List.append_eq_nil_iff.1 e).1),decode_enc h]
 simp[rwd]
theorem rsL_encs:∀ {cs:List Nat},(∀ c∈cs,sc c)→∀ b,rsL (encs cs++b)=cs.map rwd++rsL b
 | [],_,b=>rfl
 | c :: cs,h,b=>by
  rw[encs_cons,List.append_assoc,rsL_enc (h c (List.mem_cons_self ..)),rsL_encs fun d hd=>h d (List.mem_cons_of_mem _ hd)]
  rfl
theorem rsL_encs0 {cs:List Nat} (h:∀ c∈cs,sc c):rsL (encs cs)=cs.map rwd:=by
 have:=rsL_encs h []
 simpa [rsL_nil] using this
theorem enc_notbad {c:Nat} (h:sc c):¬ (c=65533∧(encL c).length=1):=by
 rintro ⟨rfl,hl⟩
 rcases encL_cases h with ⟨h1,e⟩ | ⟨h1,h2,e⟩ | ⟨h1,h2,e⟩ | ⟨h1,h2,e⟩
 ·omega
 ·omega
 ·rw[e] at hl;simp at hl
 ·omega
theorem valid_enc {c:Nat} (h:sc c) (b:List UInt8):validD (encL c++b)=validD b:=by
 rw[validD_step _ (by intro e;exact encL_ne h (List.append_eq_nil_iff.1 e).1),decode_enc h,if_neg (enc_notbad h)]
 simp
theorem valid_encs:∀ {cs:List Nat},(∀ c∈cs,sc c)→∀ b,validD (encs cs++b)=validD b
 | [],_,b=>rfl
 | c :: cs,h,b=>by
  rw[encs_cons,List.append_assoc,valid_enc (h c (List.mem_cons_self ..)),valid_encs fun d hd=>h d (List.mem_cons_of_mem _ hd)]
theorem valid_encs0 {cs:List Nat} (h:∀ c∈cs,sc c):validD (encs cs)=true:=by
 have:=valid_encs h []
 simpa [validD_nil] using this
def rns (l:List UInt8):List Nat:=(rsL l).map (·.1)
theorem rns_sc:∀ l:List UInt8,∀ c∈rns l,sc c:=by
 refine rsL_ind (by simp[rns,rsL_nil]) fun l hne ih c hc=>?_
 unfold rns at hc ih
 rw[rsL_step l hne] at hc
 rcases List.mem_cons.1 hc with rfl | hc
 ·exact decode_sc l
 ·exact ih c hc
theorem valid_rns:∀ l:List UInt8,validD l=true→encs (rns l)=l:=by
 refine rsL_ind (fun _=>by simp[rns,rsL_nil,encs]) fun l hne ih hv=>?_
 rw[validD_step l hne] at hv
 split at hv
 ·cases hv
 ·rename_i hb
  unfold rns
  rw[rsL_step l hne,List.map_cons,encs_cons,enc_decode l hne hb]
  show _++encs (rns _)=_
  rw[ih hv,List.take_append_drop]
theorem rns_encs {cs:List Nat} (h:∀ c∈cs,sc c):rns (encs cs)=cs:=by
 unfold rns
 rw[rsL_encs0 h,List.map_map]
 show cs.map (fun c=>c)=cs
 simp
def rpF (p:Nat):List (Nat×Nat)→List (Nat×Nat)
 | []=>[]
 | (c,w) :: r=>(p,c) :: rpF (p+w) r
def rpL (l:List UInt8):List (Nat×Nat):=rpF 0 (rsL l)
def wsum (r:List (Nat×Nat)):Nat:=(r.map (·.2)).sum
theorem wsum_rsL:∀ l:List UInt8,wsum (rsL l)=l.length:=by
 refine rsL_ind rfl fun l hne ih=>?_
 have h1:=decodeL_le l hne
 rw[rsL_step l hne]
 unfold wsum at ih ⊢
 rw[List.map_cons,List.sum_cons,ih,List.length_drop]
 omega
def cutW:List (Nat×Nat)→Int→Nat
 | [],_=>0
 | (_,w) :: r,n=>if (w:Int)≤n then w+cutW r (n - w) else 0
theorem cutW_le:∀ (r:List (Nat×Nat)) (n:Int),cutW r n≤wsum r
 | [],_=>Nat.zero_le _
 | (c,w) :: r,n=>by
  simp only[cutW,wsum,List.map_cons,List.sum_cons]
  have:=cutW_le r (n - w)
  unfold wsum at this
  split <;> omega
theorem cutW_le':∀ (r:List (Nat×Nat)) (n:Int),cutW r n=0∨(cutW r n:Int)≤n
 | [],_=>.inl rfl
 | (c,w) :: r,n=>by
  simp only[cutW]
  split
  ·rename_i h
   rcases cutW_le' r (n - w) with e | e
   ·right;rw[e];simpa using h
   ·right;push_cast;omega
  ·exact .inl rfl
theorem cutW_app:∀ (r t:List (Nat×Nat)) (n:Int),(wsum r:Int)≤n→cutW (r++t) n=wsum r+cutW t (n - wsum r)
 | [],t,n,_=>by simp[wsum]
 | (c,w) :: r,t,n,h=>by
  simp only[wsum,List.map_cons,List.sum_cons] at h
  simp only[List.cons_append,cutW]
  rw[if_pos (by push_cast at h;omega),cutW_app r t (n - w) (by unfold wsum;push_cast at h;omega)]
  simp only[wsum,List.map_cons,List.sum_cons]
  rw[show n - (w:Int) - ((r.map (·.2)).sum:Nat)=n - ((w+(r.map (·.2)).sum:Nat):Int) by push_cast;omega]
  omega
end Go.Lp

namespace Go.Sx
open Go.RowKit Go.ChangeShapes Go.WideShapes Go.ChangeAt Go.Deep
variable [Env]
theorem add_none (b o n:Nat):(⟨b,o,none⟩:Addr).add n=⟨b,o+n,none⟩:=by
 by_cases h:n=0
 ·subst h;simp[Addr.add]
 ·simp[Addr.add,h]
abbrev wh (w:World):Rh:=emp fun b=>w.heap[b]?
def Rd {α:Type} (P:Program) (t:TypeId) (A:El α) (Q:α→Prop):Prop:=
 ∀ (H:Type) (enc:TypeId×Value→H) (w:World) (base:Nat) (spare:Nat→Bool) (held:Bool) (fuel:Nat) (cs:List Value) (x:DataW H×List MemPlace),
  DataW.trod enc P w base spare held fuel t cs=some x→∃ a,Q a∧SV.fits 0 (wh w) (A.cells a) cs
section
variable {H:Type} (enc:TypeId×Value→H) (P:Program) (w:World) (base:Nat) (spare:Nat→Bool) (held:Bool) (fuel:Nat)
def Cut:List TypeId→List Value→Prop
 | [],cs=>cs=[]
 | t :: ts,cs=>(∃ x,DataW.trod enc P w base spare held fuel t (cs.take (P.cellsOf t))=some x)∧Cut ts (cs.drop (P.cellsOf t))
def consec:Nat→List (Nat×TypeId)→Nat→Bool
 | o,[],n=>Nat.beq o n
 | o,p :: r,n=>Nat.beq p.1 o&&consec (o+P.cellsOf p.2) r n
theorem cut_of (cs:List Value):∀ (fs:List (Nat×TypeId)) (o:Nat),consec P o fs cs.length=true→(∀ p∈fs,∃ x,DataW.trod enc P w base spare held fuel p.2 ((cs.drop p.1).take (P.cellsOf p.2))=some x)→Cut enc P w base spare held fuel (fs.map (·.2)) (cs.drop o)
 | [],o,hc,_=>by
  have:=beq_of hc
  show cs.drop o=[]
  exact List.drop_eq_nil_of_le (by omega)
 | p :: r,o,hc,h=>by
  simp only[consec,Bool.and_eq_true] at hc
  have h0:=beq_of hc.1
  refine ⟨?_,?_⟩
  ·have:=h p (List.mem_cons_self ..)
   rwa [h0] at this
  ·have:=cut_of cs r (o+P.cellsOf p.2) hc.2 fun q hq=>h q (List.mem_cons_of_mem _ hq)
   rwa [List.drop_drop]
end
def Rds {α:Type} (P:Program) (ts:List TypeId) (A:El α) (Q:α→Prop):Prop:=
 ∀ (H:Type) (enc:TypeId×Value→H) (w:World) (base:Nat) (spare:Nat→Bool) (held:Bool) (fuel:Nat) (cs:List Value),
  Cut enc P w base spare held fuel ts cs→∃ a,Q a∧SV.fits 0 (wh w) (A.cells a) cs
section
variable {P:Program} {t e:TypeId} {α β:Type} {A:El α} {B:El β} {Q:α→Prop} {Q':β→Prop}
theorem rds_one (h:Rd P t A Q):Rds P [t] A Q:=fun H enc w base spare held fuel cs hc=>by
 obtain ⟨⟨x,hx⟩,hd⟩:=hc
 have hd:cs.drop (P.cellsOf t)=[]:=hd
 have h2:=List.take_append_drop (P.cellsOf t) cs
 rw[hd,List.append_nil] at h2
 rw[h2] at hx
 exact h H enc w base spare held fuel cs x hx
theorem rds_cons {ts:List TypeId} (h:Rd P t A Q) (h':Rds P ts B Q'):Rds P (t :: ts) (.pair A B) (fun a=>Q a.1∧Q' a.2):=fun H enc w base spare held fuel cs hc=>by
 obtain ⟨⟨x,hx⟩,hd⟩:=hc
 obtain ⟨a,qa,fa⟩:=h H enc w base spare held fuel _ x hx
 obtain ⟨b,qb,fb⟩:=h' H enc w base spare held fuel _ hd
 refine ⟨(a,b),⟨qa,qb⟩,?_⟩
 have:=fits_append fa fb
 rwa [List.take_append_drop] at this
theorem rd_iso (h:Rd P t A Q) (f:α→β) (g:β→α) (hfg:∀ b,f (g b)=b) (hgf:∀ a,g (f a)=a):Rd P t (A.iso f g hfg hgf) (fun b=>Q (g b)):=fun H enc w base spare held fuel cs x hx=>by
 obtain ⟨a,qa,fa⟩:=h H enc w base spare held fuel cs x hx
 refine ⟨f a,(show Q (g (f a)) by rwa [hgf]),?_⟩
 show SV.fits 0 _ (A.cells (g (f a))) cs
 rwa [hgf]
theorem rd_int {k:IntKind} (ht:P.underlying t=some (.int k)):Rd P t (eInt k) (fun n=>(Lit.int k n).wf=true):=fun H enc w base spare held fuel cs x hx=>by
 obtain ⟨n,rfl,_,hw⟩:=DataW.trod_int ht hx
 exact ⟨n,hw,by simp[eInt,El.one',dInt,SV.fits,SV.fit]⟩
theorem rd_struct {fs:Array Field} {ts:List TypeId} (ht:P.underlying t=some (.struct fs)) (hts:fs.toList.map (·.type)=ts) (hc:consec P 0 (fs.toList.map fun f=>(f.offset,f.type)) (P.cellsOf t)=true) (h:Rds P ts A Q):Rd P t A Q:=fun H enc w base spare held fuel cs x hx=>by
 obtain ⟨xs,n,rfl,_,hl,hxl,hf⟩:=DataW.trod_struct ht hx
 rw[← hl] at hc
 have:=cut_of enc P w base spare held n cs _ 0 hc fun p hp=>by
  obtain ⟨f,hfm,rfl⟩:=List.mem_map.1 hp
  obtain ⟨i,hi,rfl⟩:=List.getElem_of_mem hfm
  have hi':i<fs.size:=by simpa using hi
  have:=hf i fs[i] (by simp[hi'])
  exact ⟨xs[i]'(by omega),by simpa [hxl,hi'] using this⟩
 rw[List.map_map,List.drop_zero] at this
 refine h H enc w base spare held n cs ?_
 rw[← hts]
 exact this
end
def RdV {α:Type} (P:Program) (t:TypeId) (D:Dv α) (Q:α→Prop):Prop:=
 ∀ (H:Type) (enc:TypeId×Value→H) (w:World) (base:Nat) (spare:Nat→Bool) (held:Bool) (r:Reach) (b0:Nat) (v:Value) (d:DataW H) (ps:List MemPlace),
  Value.okWide P w r b0 t v→DataW.Trod enc P w base spare held t v d ps→∃ a,Q a∧(D.enc a).fit 0 (wh w) v
section
variable {P:Program} {t e:TypeId} {α β:Type} {A:El α} {Q:α→Prop}
theorem rdv_int {k:IntKind} (ht:P.underlying t=some (.int k)):RdV P t (dInt k) (fun n=>(Lit.int k n).wf=true):=fun H enc w base spare held r b0 v d ps hv hx=>by
 obtain ⟨n,rfl,_,_,hw⟩:=open_int ht hv hx
 exact ⟨n,hw,by simp[dInt,SV.fit]⟩
theorem rdv_struct {fs:Array Field} (ht:P.underlying t=some (.struct fs)) (h:Rd P t A Q):RdV P t (.agg A) Q:=fun H enc w base spare held r b0 v d ps hv hx=>by
 obtain ⟨cs,rfl,_⟩:=okWide_struct ht hv
 obtain ⟨fuel,hf⟩:=hx
 obtain ⟨a,qa,fa⟩:=h H enc w base spare held fuel _ _ hf
 exact ⟨a,qa,cs.toList,by simp,by simpa [Value.cells] using fa⟩
theorem rdv_slice (ht:P.underlying t=some (.slice e)) (hs:P.cellsOf e=A.sz) (hz:0<A.sz) (h:Rd P e A Q):RdV P t (.list A) (fun xs=>∀ a∈xs,Q a):=fun H enc w base spare held r b0 v d ps hv hx=>by
 obtain ⟨a0,len0,cap0,rfl⟩:=okWide_slice ht hv
 obtain ⟨fuel,hf⟩:=hx
 rcases open_slice ht hf with ⟨hcs,_⟩ | ⟨a,len,cap,m,n,D,Pl,hcs,hb,hl,hm,hmm,_,hel⟩
 ·simp[Value.cells] at hcs
  obtain ⟨rfl,rfl,rfl⟩:=hcs
  exact ⟨[],by simp,rs_nil _ _⟩
 ·simp[Value.cells] at hcs
  obtain ⟨rfl,rfl,rfl⟩:=hcs
  have hle:len0≤m:=by subst hmm;split <;> omega
  have key:∀ i,i<len0→∃ x:α,Q x∧∃ cs',cs'.length=A.sz∧SV.fits 0 (wh w) (A.cells x) cs'∧∀ j,j<A.sz→w.cell? ((a.add (i * A.sz)).add j)=cs'[j]?:=fun i hi=>by
   obtain ⟨cs',h1,h2⟩:=hel i (by omega)
   obtain ⟨x,qx,fx⟩:=h H enc w base spare held n cs' _ h2
   rw[hs] at h1
   obtain ⟨_,h3,h4⟩:=World.cells?_some h1
   exact ⟨x,qx,cs',h3,fx,h4⟩
  haveI:Inhabited α:=⟨A.dflt⟩
  obtain ⟨f,hf⟩:=choose_lt (α:=α) (fun i hi=>key i hi)
  refine ⟨(List.range len0).map f,?_,?_⟩
  ·intro x hx
   obtain ⟨i,hi,rfl⟩:=List.mem_map.1 hx
   exact (hf i (by simpa using hi)).1
  ·simp only[Dv.list,SV.fit]
   refine ⟨some a,cap0,by simp,by simpa using hl,hm,fun hpos=>?_⟩
   have hpos:0<len0:=by simpa using hpos
   obtain ⟨_,cs0,q1,q2,q3⟩:=hf 0 hpos
   have q4:=q3 0 hz
   obtain ⟨b,o,spot⟩:=a
   have hsome:∃ v0,cs0[0]?=some v0:=⟨cs0[0]'(by omega),by simp⟩
   obtain ⟨v0,hv0⟩:=hsome
   rw[hv0] at q4
   have hspot:spot=none:=by simpa [Addr.add] using World.cell?_spot q4
   subst hspot
   have hblk:∃ cs t fz,w.heap[b]?=some (.cells cs t fz):=by
    simp only[add_none,World.cell?] at q4
    split at q4
    ·rename_i c _ _ hh
     exact ⟨_,_,_,hh⟩
    ·cases q4
   obtain ⟨cs,t',fz,hh⟩:=hblk
   refine ⟨b,o,cs,t',fz,rfl,hh,fun i hi=>?_⟩
   have hi:i<len0:=by simpa using hi
   obtain ⟨_,cs',k1,k2,k3⟩:=hf i hi
   refine ⟨cs',k1,?_,fun j v hjv=>?_⟩
   ·simpa [El.els,List.getD_eq_getElem?_getD,hi] using k2
   ·have hj:j<A.sz:=by
     have:=(List.getElem?_eq_some_iff.1 hjv).1
     omega
    have:=k3 j hj
    rw[hjv] at this
    simp only[add_none,World.cell?,hh] at this
    simpa using this
end
end Go.Sx

namespace Go.Lp
open Go.Sx
theorem wr64 {x:Int} (h:-9223372036854775808≤x∧x≤9223372036854775807):IntKind.i64.wrap x=x:=by
 simp[IntKind.wrap,IntKind.signed,IntKind.bits]
 omega
def dgt:Nat→Int→List Int
 | 0,_=>[]
 | k+1,u=>(if u / 10=0 then [] else dgt k (u / 10))++[48+u % 10]
def dval (l:List Int):Int:=l.foldl (fun a c=>10 * a+(c - 48)) 0
theorem dval_snoc (l:List Int) (c:Int):dval (l++[c])=10 * dval l+(c - 48):=by simp[dval]
theorem dval_dgt:∀ (k:Nat) (u:Int),0≤u→u<(10:Int) ^ k→dval (dgt k u)=u
 | 0,u,h0,h1=>by
  have:(10:Int) ^ 0=1:=rfl
  rw[this] at h1
  have:u=0:=by omega
  subst this;rfl
 | k+1,u,h0,h1=>by
  unfold dgt
  rw[dval_snoc]
  have hp:(10:Int) ^ (k+1)=10 ^ k * 10:=Int.pow_succ ..
  by_cases h:u / 10=0
  ·rw[if_pos h];show 10 * 0+_=_;omega
  ·rw[if_neg h,dval_dgt k (u / 10) (by omega) (by omega)];omega
theorem dgt_len:∀ (k j:Nat) (u:Int),0≤u→u<(10:Int) ^ j→1≤j→(dgt k u).length≤j
 | 0,j,u,_,_,_=>Nat.zero_le _
 | k+1,j,u,h0,h1,hj=>by
  unfold dgt
  rw[List.length_append]
  by_cases h:u / 10=0
  ·rw[if_pos h];exact hj
  ·rw[if_neg h]
   obtain ⟨i,rfl⟩:∃ i,j=i+1:=⟨j - 1,by omega⟩
   have hp:(10:Int) ^ (i+1)=10 ^ i * 10:=Int.pow_succ ..
   have hi:1≤i:=by
    rcases Nat.eq_zero_or_pos i with rfl | hi
    ·have:(10:Int) ^ (0+1)=10:=rfl
     omega
    ·exact hi
   have:=dgt_len k i (u / 10) (by omega) (by omega) hi
   simp only[List.length_cons,List.length_nil]
   omega
theorem dgt_digit:∀ (k:Nat) (u:Int),0≤u→∀ c∈dgt k u,48≤c∧c≤57
 | 0,u,_,c,hc=>by cases hc
 | k+1,u,h0,c,hc=>by
  unfold dgt at hc
  rcases List.mem_append.1 hc with hc | hc
  ·by_cases h:u / 10=0
   ·rw[if_pos h] at hc;cases hc
   ·rw[if_neg h] at hc
    exact dgt_digit k (u / 10) (by omega) c hc
  ·rw[List.mem_singleton.1 hc];omega
theorem dgt_pos (k:Nat) (u:Int):1≤(dgt (k+1) u).length:=by
 unfold dgt
 rw[List.length_append]
 simp
theorem dgt_more:∀ (k j:Nat) (u:Int),0≤u→u<(10:Int) ^ k→dgt (k+j+1) u=dgt (k+1) u
 | 0,j,u,h0,h1=>by
  have:(10:Int) ^ 0=1:=rfl
  rw[this] at h1
  have:u=0:=by omega
  subst this
  show dgt (0+j+1) 0=dgt 1 0
  unfold dgt
  rfl
 | k+1,j,u,h0,h1=>by
  have hp:(10:Int) ^ (k+1)=10 ^ k * 10:=Int.pow_succ ..
  rw[show k+1+j+1=(k+j+1)+1 by omega]
  conv=>lhs;unfold dgt
  conv=>rhs;unfold dgt
  rw[dgt_more k j (u / 10) (by omega) (by omega)]
def hexD (i:Int):Int:=if i<10 then 48+i else 87+i
def hexV (c:Int):Int:=if 48≤c∧c≤57 then c - 48 else if 97≤c∧c≤102 then c - 87 else -1
theorem hexV_D {i:Int} (h0:0≤i) (h1:i<16):hexV (hexD i)=i:=by
 unfold hexV hexD
 by_cases h:i<10
 ·rw[if_pos h,if_pos (by omega)];omega
 ·rw[if_neg h,if_neg (by omega),if_pos (by omega)];omega
theorem hexV_range (c:Int):hexV c=-1∨(0≤hexV c∧hexV c<16):=by
 unfold hexV
 split
 ·right;omega
 ·split
  ·right;omega
  ·left;rfl
def escP (c:Int):Bool:=decide (33≤c)&&(decide (c≤126)&&!decide (c=37))
def esc1 (c:Int):List Int:=if escP c=true then [c] else [37,hexD (c / 16),hexD (c % 16)]
def escL (l:List Int):List Int:=l.flatMap esc1
def unescF:Nat→List Int→List Int→Option (List Int)
 | 0,_,b=>some b
 | _+1,[],b=>some b
 | n+1,c :: r,b=>if c=37 then match r with
   | h :: l :: r'=>if hexV h<0∨hexV l<0 then none else unescF n r' (b++[16 * hexV h+hexV l])
   | _=>none
  else unescF n r (b++[c])
theorem unescF_more:∀ (n m:Nat) (l b:List Int),l.length≤n→l.length≤m→unescF n l b=unescF m l b
 | 0,0,_,_,_,_=>rfl
 | 0,m+1,[],b,_,_=>rfl
 | n+1,0,[],b,_,_=>rfl
 | n+1,m+1,[],b,_,_=>rfl
 | n+1,m+1,c :: r,b,h1,h2=>by
  simp only[List.length_cons] at h1 h2
  unfold unescF
  by_cases h:c=37
  ·rw[if_pos h,if_pos h]
   match r with
   | h' :: l' :: r'=>
    simp only
    split
    ·rfl
    ·simp only[List.length_cons] at h1 h2
     exact unescF_more n m r' _ (by omega) (by omega)
   | [_]=>rfl
   | []=>rfl
  ·rw[if_neg h,if_neg h]
   exact unescF_more n m r _ (by omega) (by omega)
 | 0,_+1,_ :: _,_,h,_=>by simp at h
 | _+1,0,_ :: _,_,_,h=>by simp at h
theorem esc1_len (c:Int):1≤(esc1 c).length∧(esc1 c).length≤3:=by
 unfold esc1
 split <;> simp
theorem escL_len (l:List Int):(escL l).length≤3 * l.length:=by
 induction l with
 | nil=>simp[escL]
 | cons c l ih=>
  have:=(esc1_len c).2
  have e:escL (c :: l)=esc1 c++escL l:=rfl
  rw[e,List.length_append,List.length_cons]
  omega
theorem unescF_esc:∀ (l b:List Int) (n:Nat),(∀ c∈l,0≤c∧c≤255)→(escL l).length≤n→unescF n (escL l) b=some (b++l)
 | [],b,n,_,_=>by
  have:escL []=[]:=rfl
  rw[this,List.append_nil]
  cases n <;> rfl
 | c :: l,b,n,hb,hn=>by
  have e:escL (c :: l)=esc1 c++escL l:=rfl
  rw[e] at hn ⊢
  have hc:=hb c (List.mem_cons_self ..)
  have ih:=fun b n h=>unescF_esc l b n (fun x hx=>hb x (List.mem_cons_of_mem _ hx)) h
  have hl:=esc1_len c
  rw[List.length_append] at hn
  obtain ⟨m,rfl⟩:∃ m,n=m+1:=⟨n - 1,by omega⟩
  unfold esc1
  by_cases hp:escP c=true
  ·rw[if_pos hp]
   have h37:c≠37:=by
    unfold escP at hp
    simp only[Bool.and_eq_true,Bool.not_eq_true',decide_eq_false_iff_not] at hp
    exact hp.2.2
   show unescF (m+1) (c :: escL l) b=_
   unfold unescF
   rw[if_neg h37,ih _ m (by omega),List.append_assoc]
   rfl
  ·rw[if_neg hp]
   show unescF (m+1) (37 :: hexD (c / 16) :: hexD (c % 16) :: escL l) b=_
   unfold unescF
   rw[if_pos rfl]
   simp only
   rw[hexV_D (by omega) (by omega),hexV_D (by omega) (by omega),if_neg (by omega),ih _ m (by omega),List.append_assoc]
   have:16 * (c / 16)+c % 16=c:=by omega
   rw[this]
   rfl
def numL (n:Int):List Int:=(if n<0 then [45] else [])++dgt 20 (if n<0 then -n else n)
def digL (l:List Int):Bool:=decide (l.length≤19)&&l.all fun c=>decide (48≤c)&&decide (c≤57)
def numV (l:List Int):Int:=
 let d:=if l.head?=some 45 then l.drop 1 else l
 let x:=IntKind.i64.wrap (dval d)
 if l.head?=some 45 then IntKind.i64.wrap (-x) else x
def numOk (l:List Int):Bool:=digL (if l.head?=some 45 then l.drop 1 else l)
theorem numL_back {n:Int} (h1:-9223372036854775808≤n) (h2:n≤9223372036854775807):numOk (numL n)=true∧numV (numL n)=n:=by
 have h10:(10:Int) ^ 19=10000000000000000000:=by decide
 have h11:(10:Int) ^ 20=100000000000000000000:=by decide
 have hd:∀ u:Int,0≤u→u≤9223372036854775808→digL (dgt 20 u)=true∧dval (dgt 20 u)=u∧(dgt 20 u).head?≠some 45:=by
  intro u hu0 hu1
  have hl:=dgt_len 20 19 u hu0 (by omega) (by decide)
  refine ⟨?_,dval_dgt 20 u hu0 (by omega),fun h=>?_⟩
  ·unfold digL
   rw[Bool.and_eq_true,List.all_eq_true]
   refine ⟨decide_eq_true hl,fun c hc=>?_⟩
   have:=dgt_digit 20 u hu0 c hc
   simp[this.1,this.2]
  ·have hm:(45:Int)∈dgt 20 u:=List.mem_of_head? h
   have:=dgt_digit 20 u hu0 45 hm
   omega
 unfold numL numOk numV
 by_cases hn:n<0
 ·rw[if_pos hn,if_pos hn]
  obtain ⟨k1,k2,k3⟩:=hd (-n) (by omega) (by omega)
  simp only[List.cons_append,List.nil_append,List.head?_cons,if_true,List.drop_succ_cons,List.drop_zero]
  refine ⟨k1,?_⟩
  rw[k2]
  by_cases hmin:n=-9223372036854775808
  ·subst hmin;decide
  ·have e:IntKind.i64.wrap (-n)=-n:=wr64 (by omega)
   rw[e,Int.neg_neg]
   exact wr64 (by omega)
 ·rw[if_neg hn,if_neg hn]
  obtain ⟨k1,k2,k3⟩:=hd n (by omega) (by omega)
  simp only[List.nil_append]
  rw[if_neg k3,if_neg k3]
  refine ⟨k1,?_⟩
  rw[k2]
  exact wr64 (by omega)
theorem ba_inj {a b:ByteArray} (h:a.data.toList=b.data.toList):a=b:=by
 cases a with
 | mk x=>cases b with
  | mk y=>exact congrArg ByteArray.mk (Array.ext' h)
theorem ba_app (a b:ByteArray):(a++b).data.toList=a.data.toList++b.data.toList:=by
 rw[ByteArray.data_append,Array.toList_append]
theorem ba_ext (s:ByteArray) (a b:Nat):(s.extract a b).data.toList=(s.data.toList.take b).drop a:=by
 rw[ByteArray.data_extract,Array.toList_extract,List.extract_eq_drop_take,List.drop_take]
theorem dg16:∀ k<16,(ByteArray.mk #[(48:UInt8),(49:UInt8),(50:UInt8),(51:UInt8),(52:UInt8),(53:UInt8),(54:UInt8),(55:UInt8),(56:UInt8),(57:UInt8),(97:UInt8),(98:UInt8),(99:UInt8),(100:UInt8),(101:UInt8),(102:UInt8)]).extract k (k+1)=strOf [hexD k]:=by decide
theorem strOf_cons (c:Int) (l:List Int):strOf [c]++strOf l=strOf (c :: l):=ba_inj (by rw[ba_app];rfl)
theorem strOf_app (a b:List Int):strOf a++strOf b=strOf (a++b):=ba_inj (by rw[ba_app];unfold strOf;simp)
theorem strOf_size (l:List Int):(strOf l).size=l.length:=by
 show (strOf l).data.size=_
 simp[strOf]
theorem ba_get (s:ByteArray) (k:Nat):s.get! k=s.data.toList.getD k 0:=by
 show s.data[k]! = _
 rw[List.getD_eq_getElem?_getD,Array.getElem?_toList]
 by_cases h:k<s.data.size
 ·rw[getElem!_pos s.data k h,Array.getElem?_eq_getElem h];rfl
 ·rw[getElem!_neg s.data k h,Array.getElem?_eq_none (by omega)];rfl
def bts (s:ByteArray):List Int:=s.data.toList.map fun x=>(x.toNat:Int)
theorem bts_len (s:ByteArray):(bts s).length=s.size:=by unfold bts;rw[List.length_map,Array.length_toList];rfl
theorem bts_get (s:ByteArray) (k:Nat):((s.get! k).toNat:Int)=(bts s).getD k 0:=by
 rw[ba_get,bts,List.getD_eq_getElem?_getD,List.getD_eq_getElem?_getD,List.getElem?_map]
 cases s.data.toList[k]? <;> rfl
theorem bts_range (s:ByteArray):∀ c∈bts s,0≤c∧c≤255:=by
 intro c hc
 obtain ⟨x,_,rfl⟩:=List.mem_map.1 hc
 have:=x.toNat_lt
 omega
theorem bts_getD (s:ByteArray) (k:Nat):0≤(bts s).getD k 0∧(bts s).getD k 0≤255:=by
 rw[List.getD_eq_getElem?_getD]
 cases h:(bts s)[k]? with
 | none=>exact ⟨by decide,by decide⟩
 | some x=>exact bts_range s x (List.mem_of_getElem? h)
theorem strOf_bts (s:ByteArray):strOf (bts s)=s:=by
 apply ba_inj
 unfold strOf bts
 simp only[List.map_map]
 conv=>rhs;rw[← List.map_id s.data.toList]
 refine List.map_congr_left fun x _=>?_
 simp
theorem bts_strOf {l:List Int} (h:∀ c∈l,0≤c∧c≤255):bts (strOf l)=l:=by
 unfold strOf bts
 simp only[List.map_map]
 conv=>rhs;rw[← List.map_id l]
 refine List.map_congr_left fun c hc=>?_
 have:=h c hc
 simp only[Function.comp_apply,id_eq,UInt8.toNat_ofNat']
 omega
theorem bts_app (a b:ByteArray):bts (a++b)=bts a++bts b:=by unfold bts;rw[ba_app,List.map_append]
theorem bts_inj {a b:ByteArray} (h:bts a=bts b):a=b:=by rw[← strOf_bts a,← strOf_bts b,h]
theorem bts_ext (s:ByteArray) (a b:Nat):bts (s.extract a b)=((bts s).take b).drop a:=by unfold bts;rw[ba_ext,List.map_drop,List.map_take]
theorem ext_one (s:ByteArray) (k:Nat) (h:k<s.size):s.extract k (k+1)=strOf [(bts s).getD k 0]:=by
 apply bts_inj
 rw[bts_ext,bts_strOf (by
  intro c hc
  rw[List.mem_singleton.1 hc]
  exact bts_getD s k)]
 have hl:k<(bts s).length:=by rw[bts_len];exact h
 rw[List.drop_take,Nat.add_sub_cancel_left,List.drop_eq_getElem_cons hl,List.getD_eq_getElem?_getD,List.getElem?_eq_getElem hl]
 rfl
abbrev HEX:ByteArray:=ByteArray.mk #[(48:UInt8),(49:UInt8),(50:UInt8),(51:UInt8),(52:UInt8),(53:UInt8),(54:UInt8),(55:UInt8),(56:UInt8),(57:UInt8),(97:UInt8),(98:UInt8),(99:UInt8),(100:UInt8),(101:UInt8),(102:UInt8)]
set_option maxRecDepth 100000 in
theorem hx_shr:∀ v<256,((HEX.get! (iShr .u8 (v:Nat) 4).toNat).toNat:Int)=hexD ((v:Nat) / 16:Int):=by decide
set_option maxRecDepth 100000 in
theorem hx_and:∀ v<256,((HEX.get! (iAnd .u8 (v:Nat) 15).toNat).toNat:Int)=hexD ((v:Nat) % 16:Int):=by decide
set_option maxRecDepth 100000 in
theorem hx_shrR:∀ v<256,0≤iShr .u8 (v:Nat) 4∧iShr .u8 (v:Nat) 4<16:=by decide
set_option maxRecDepth 100000 in
theorem hx_andR:∀ v<256,0≤iAnd .u8 (v:Nat) 15∧iAnd .u8 (v:Nat) 15<16:=by decide
theorem dgx {i:Int} (h0:0≤i) (h1:i<16):HEX.extract i.toNat (i+1).toNat=strOf [hexD i]:=by
 obtain ⟨k,rfl⟩:∃ k:Nat,i=k:=⟨i.toNat,by omega⟩
 have:=dg16 k (by omega)
 rw[show ((k:Int)).toNat=k from rfl,show ((k:Int)+1).toNat=k+1 by omega,this]
end Go.Lp

namespace Go.Lp
open Go.Sx
variable [Env]
abbrev w64 (n:Int):Int:=IntKind.i64.wrap n
theorem wr {n:Int} (h:0≤n∧n≤9223372036854775807):w64 n=n:=by
 unfold w64
 simp[IntKind.wrap,IntKind.bits,IntKind.signed]
 omega
section
variable {α σ:Type}
end
end Go.Lp

namespace Go.Lp
open Go.Sx
variable [Env]
section
variable {α β:Type}
theorem drop_at (d:α) {xs:List α} {i:Nat} (h:i<xs.length):xs.drop i=xs.getD i d :: xs.drop (i+1):=by
 rw[List.drop_eq_getElem_cons h]
 simp[List.getD_eq_getElem?_getD,h]
section
variable (x:Nat) (d:α) (bad:List α→α→Bool) (step:List α→β→α→β) (c:Int) (ok:List α→β→Nat→Prop)
variable (hok:∀ xs b i,i<xs.length→ok xs b i→ok xs (step xs b (xs.getD i d)) (i+1))
include hok
end
section
variable (x:Nat) (d:α) (bad:List α→α→Bool) (step:List α→β→α→β) (c:Int) (ok:List α→β→Nat→Prop)
variable (hok:∀ xs b i,i<xs.length→ok xs b i→ok xs (step xs b (xs.getD i d)) (i+1))
include hok
end
variable {σ:Type}
end
end Go.Lp

namespace Go.Lp
open Go.Sx
variable [Env]
theorem runL_conj {γ δ:Type} {F:γ→Ex×γ} {F':δ→Ex×δ} {m':δ→Nat} {I':δ→Prop} (φ:γ→δ) (ψ:δ→γ) (h2:∀ d,φ (ψ d)=d) (hF:∀ d,I' d→F (ψ d)=((F' d).1,ψ (F' d).2)) (hg:Goes F' m' I'):∀ (n:Nat) (d:δ),I' d→runL F n (ψ d)=((runL F' n d).1,ψ (runL F' n d).2)
 | 0,d,_=>by simp[runL]
 | n+1,d,hi=>by
  simp only[runL]
  have h:=hF d hi
  have hk:=hg d hi
  rw[h]
  generalize F' d=x at hk
  obtain ⟨e,d'⟩:=x
  cases e with
  | normal=>
   simp only
   rw[runL_conj φ ψ h2 hF hg n d' (hk rfl).1]
  | _=>rfl
theorem loopF_conj {γ δ:Type} {F:γ→Ex×γ} {F':δ→Ex×δ} {m:γ→Nat} {m':δ→Nat} {I':δ→Prop} (φ:γ→δ) (ψ:δ→γ) (h1:∀ g,ψ (φ g)=g) (h2:∀ d,φ (ψ d)=d) (hm:∀ d,m (ψ d)=m' d) (hF:∀ d,I' d→F (ψ d)=((F' d).1,ψ (F' d).2)) (hg:Goes F' m' I') (g:γ) (hi:I' (φ g)) :
  loopF F m g=((loopF F' m' (φ g)).1,ψ (loopF F' m' (φ g)).2):=by
 have e:=hm (φ g)
 have r:=runL_conj φ ψ h2 hF hg (m' (φ g)+1) (φ g) hi
 rw[h1] at e r
 rw[loopF_def,loopF_def,e]
 exact r
theorem goes_conj {γ δ:Type} {F:γ→Ex×γ} {F':δ→Ex×δ} {m:γ→Nat} {m':δ→Nat} {I:γ→Prop} {I':δ→Prop} (φ:γ→δ) (ψ:δ→γ) (h1:∀ g,ψ (φ g)=g) (hm:∀ d,m (ψ d)=m' d) (hI:∀ d,I (ψ d)↔I' d) (hF:∀ d,I' d→F (ψ d)=((F' d).1,ψ (F' d).2)) (h:Goes F' m' I'):Goes F m I:=by
 intro g hi hn
 rw[← h1 g] at hi hn ⊢
 have hi':=(hI _).1 hi
 rw[hF _ hi'] at hn ⊢
 rw[hI]
 rw[hm,hm]
 exact h _ hi' hn
section
variable {α β C:Type}
def ixF (x:Nat) (lim:C→Int) (xs:C→List α) (d:α) (step:C→β→Int→α→Ex×β) (g:Int×C×β):Ex×(Int×C×β):=
 bif decide (g.1<lim g.2.1) then
  match step g.2.1 g.2.2 g.1 ((xs g.2.1).getD g.1.toNat d) with
  | (.normal,b)=>(.normal,w64 (g.1+1),g.2.1,b)
  | (e,b)=>(e,g.1,g.2.1,b)
 else (.exit x,g)
def ixJ (lim:C→Int) (xs:C→List α) (P:C→β→Int→Prop) (g:Int×C×β):Prop:=lim g.2.1=((xs g.2.1).length:Int)∧(xs g.2.1).length≤maxLen∧0≤g.1∧g.1≤((xs g.2.1).length:Int)∧P g.2.1 g.2.2 g.1
def ixI (lim:C→Int) (xs:C→List α) (P:C→β→Int→Prop) (g:Int×C×β):List Prop:=[ixJ lim xs P g]
def ixM (lim:C→Int) (g:Int×C×β):Nat:=(lim g.2.1 - g.1).toNat
def scan (x:Nat) (step:β→Int→α→Ex×β):Int→List α→β→Ex×Int×β
 | i,[],b=>(.exit x,i,b)
 | i,a :: l,b=>match step b i a with
  | (.normal,b')=>scan x step (i+1) l b'
  | (e,b')=>(e,i,b')
def ixP (step:C→β→Int→α→Ex×β) (xs:C→List α) (P:C→β→Int→Prop):Prop:=∀ c b (i:Nat) a,P c b i→(xs c)[i]?=some a→(step c b i a).1=.normal→P c (step c b i a).2 (i+1)
variable {x:Nat} {lim:C→Int} {xs:C→List α} {d:α} {step:C→β→Int→α→Ex×β} {P:C→β→Int→Prop}
theorem ix_goes (hP:ixP step xs P):Goes (ixF x lim xs d step) (ixM lim) fun g=>allP (ixI lim xs P g):=by
 rintro ⟨i,c,b⟩ hi hn
 obtain ⟨h1,h2,h3,h4,h5⟩:=hi _ (List.mem_cons_self ..)
 simp only at h1 h2 h3 h4 h5
 unfold ixF at hn ⊢
 simp only at hn ⊢
 unfold maxLen at h2
 by_cases hlt:i<lim c
 ·simp only[hlt,decide_true,cond_true] at hn ⊢
  have hlt':i.toNat<(xs c).length:=by omega
  have hp:=hP c b i.toNat ((xs c).getD i.toNat d) (by rw[show (i.toNat:Int)=i by omega];exact h5) (by rw[List.getD_eq_getElem?_getD,List.getElem?_eq_getElem hlt'];rfl)
  rw[show (i.toNat:Int)=i by omega] at hp
  generalize step c b i ((xs c).getD i.toNat d)=s at hn hp ⊢
  obtain ⟨e,b'⟩:=s
  cases e with
  | normal=>
   rw[wr (n:=i+1) (by omega)]
   refine ⟨fun q hq=>?_,?_⟩
   ·simp only[ixI,List.mem_singleton] at hq
    subst hq
    exact ⟨h1,by unfold maxLen;exact h2,by show (0:Int)≤i+1;omega,by show i+1≤((xs c).length:Int);omega,hp rfl⟩
   ·simp only[ixM];omega
  | _=>cases hn
 ·simp only[hlt,decide_false,cond_false] at hn
  cases hn
theorem ix_run (hP:ixP step xs P):∀ g:Int×C×β,allP (ixI lim xs P g) →
  loopF (ixF x lim xs d step) (ixM lim) g=((scan x (step g.2.1) g.1 ((xs g.2.1).drop g.1.toNat) g.2.2).1,(scan x (step g.2.1) g.1 ((xs g.2.1).drop g.1.toNat) g.2.2).2.1,g.2.1,(scan x (step g.2.1) g.1 ((xs g.2.1).drop g.1.toNat) g.2.2).2.2):=by
 refine loopF_induct (ix_goes (x:=x) (d:=d) hP) (Q:=fun g r=>r=((scan x (step g.2.1) g.1 ((xs g.2.1).drop g.1.toNat) g.2.2).1,(scan x (step g.2.1) g.1 ((xs g.2.1).drop g.1.toNat) g.2.2).2.1,g.2.1,(scan x (step g.2.1) g.1 ((xs g.2.1).drop g.1.toNat) g.2.2).2.2)) ?_ ?_
 ·rintro ⟨i,c,b⟩ hi hn
  obtain ⟨h1,h2,h3,h4,h5⟩:=hi _ (List.mem_cons_self ..)
  simp only at h1 h2 h3 h4 h5
  unfold ixF at hn ⊢
  simp only at hn ⊢
  by_cases hlt:i<lim c
  ·simp only[hlt,decide_true,cond_true] at hn ⊢
   have hlt':i.toNat<(xs c).length:=by omega
   rw[drop_at d hlt']
   simp only[scan]
   generalize step c b i ((xs c).getD i.toNat d)=s at hn ⊢
   obtain ⟨e,b'⟩:=s
   cases e with
   | normal=>exact absurd rfl hn
   | _=>rfl
  ·simp only[hlt,decide_false,cond_false]
   rw[List.drop_eq_nil_of_le (by omega)]
   rfl
 ·rintro ⟨i,c,b⟩ g' r hi he hi' _ hq
  obtain ⟨h1,h2,h3,h4,h5⟩:=hi _ (List.mem_cons_self ..)
  simp only at h1 h2 h3 h4 h5
  unfold maxLen at h2
  unfold ixF at he
  simp only at he
  by_cases hlt:i<lim c
  ·simp only[hlt,decide_true,cond_true] at he
   have hlt':i.toNat<(xs c).length:=by omega
   rw[hq]
   simp only
   rw[drop_at d hlt']
   simp only[scan]
   generalize step c b i ((xs c).getD i.toNat d)=s at he ⊢
   obtain ⟨e,b'⟩:=s
   cases e with
   | normal=>
    rw[wr (n:=i+1) (by omega)] at he
    simp only[Prod.mk.injEq,true_and] at he
    subst he
    simp only
    rw[show (i+1).toNat=i.toNat+1 by omega]
   | _=>simp at he
  ·simp only[hlt,decide_false,cond_false] at he
   cases he
theorem ix_run0 (hP:ixP step xs P) (c:C) (b:β) (h1:lim c=((xs c).length:Int)) (h2:(xs c).length≤maxLen) (h3:P c b 0) :
  loopF (ixF x lim xs d step) (ixM lim) (0,c,b)=((scan x (step c) 0 (xs c) b).1,(scan x (step c) 0 (xs c) b).2.1,c,(scan x (step c) 0 (xs c) b).2.2):=by
 have:=ix_run (x:=x) (lim:=lim) (d:=d) hP (0,c,b) (fun q hq=>by
  simp only[ixI,List.mem_singleton] at hq
  subst hq
  exact ⟨h1,h2,Int.le_refl _,by show (0:Int)≤((xs c).length:Int);omega,h3⟩)
 simpa using this
theorem ixJ0 {c:C} {b:β} (h1:lim c=((xs c).length:Int)) (h2:(xs c).length≤maxLen) (h3:P c b 0):ixJ lim xs P (0,c,b):=⟨h1,h2,Int.le_refl _,by show (0:Int)≤((xs c).length:Int);omega,h3⟩
theorem ix_inv0 {c:C} {b:β} (h1:lim c=((xs c).length:Int)) (h2:(xs c).length≤maxLen) (h3:P c b 0):allP (ixI lim xs P (0,c,b)):=fun q hq=>by
 simp only[ixI,List.mem_singleton] at hq
 subst hq
 exact ⟨h1,h2,Int.le_refl _,by show (0:Int)≤((xs c).length:Int);omega,h3⟩
section
variable {γ:Type} {F:γ→Ex×γ} {φ:γ→Int×C×β} {ψ:Int×C×β→γ}
theorem ix_conj_goes (h1:∀ g,ψ (φ g)=g) (h2:∀ d,φ (ψ d)=d) {d0:α} (hF:∀ d,allP (ixI lim xs P d)→F (ψ d)=((ixF x lim xs d0 step d).1,ψ (ixF x lim xs d0 step d).2)) (hP:ixP step xs P):Goes F (fun g=>ixM lim (φ g)) fun g=>allP (ixI lim xs P (φ g)):=
 goes_conj (m':=ixM lim) (I':=fun d=>allP (ixI lim xs P d)) φ ψ h1 (fun d=>by rw[h2]) (fun d=>by rw[h2]) hF (ix_goes hP)
theorem ix_conj_run (h1:∀ g,ψ (φ g)=g) (h2:∀ d,φ (ψ d)=d) {d0:α} (hF:∀ d,allP (ixI lim xs P d)→F (ψ d)=((ixF x lim xs d0 step d).1,ψ (ixF x lim xs d0 step d).2)) (hP:ixP step xs P) (c:C) (b:β) (k1:lim c=((xs c).length:Int)) (k2:(xs c).length≤maxLen) (k3:P c b 0) :
  loopF F (fun g=>ixM lim (φ g)) (ψ (0,c,b))=((scan x (step c) 0 (xs c) b).1,ψ ((scan x (step c) 0 (xs c) b).2.1,c,(scan x (step c) 0 (xs c) b).2.2)):=by
 have h:=loopF_conj (F:=F) (F':=ixF x lim xs d0 step) (m:=fun g=>ixM lim (φ g)) (m':=ixM lim) (I':=fun d=>allP (ixI lim xs P d)) φ ψ h1 h2 (fun d=>by rw[h2]) hF (ix_goes hP) (ψ (0,c,b)) (by rw[h2];exact ix_inv0 k1 k2 k3)
 rw[h,h2,ix_run0 hP c b k1 k2 k3]
end
section
variable {st:β→Int→α→Ex×β}
theorem scan_any {p:α→Bool} {r:α→β→β} {e:Ex} (he:e≠.normal) (h:∀ b i a,st b i a=bif p a then (e,r a b) else (.normal,b)):∀ (l:List α) (i:Int) (b:β),
  (l.any p=true∧∃ a∈l,p a=true∧l.find? p=some a∧(scan x st i l b).1=e∧(scan x st i l b).2.2=r a b)∨(l.any p=false∧scan x st i l b=(.exit x,i+l.length,b))
 | [],i,b=>.inr ⟨rfl,by simp[scan]⟩
 | a :: l,i,b=>by
  simp only[scan,h]
  cases hp:p a with
  | true=>
   left
   refine ⟨by simp[hp],a,List.mem_cons_self ..,hp,by simp[hp],?_⟩
   cases e <;> first | exact absurd rfl he | exact ⟨rfl,rfl⟩
  | false=>
   simp only[cond_false]
   rcases scan_any he h l (i+1) b with ⟨h1,a',h2,h3,h4,h5⟩ | ⟨h1,h2⟩
   ·exact .inl ⟨by simp[h1],a',List.mem_cons_of_mem _ h2,h3,by simp[hp,h4],h5⟩
   ·refine .inr ⟨by simp[hp,h1],?_⟩
    rw[h2]
    simp;omega
theorem scan_fold {f:β→α→β} (h:∀ b i a,st b i a=(.normal,f b a)):∀ (l:List α) (i:Int) (b:β),scan x st i l b=(.exit x,i+l.length,l.foldl f b)
 | [],i,b=>by simp[scan]
 | a :: l,i,b=>by
  simp only[scan,h,List.foldl_cons,List.length_cons]
  rw[scan_fold h l]
  simp;omega
theorem scan_bad {p:α→Bool} {r:α→β→β} {f:β→α→β} {e:Ex} (he:e≠.normal) (h:∀ b i a,st b i a=bif p a then (e,r a b) else (.normal,f b a)):∀ (l:List α) (i:Int) (b:β),
  (l.any p=true∧(scan x st i l b).1=e∧∃ a b',a∈l∧p a=true∧(scan x st i l b).2.2=r a b')∨(l.any p=false∧scan x st i l b=(.exit x,i+l.length,l.foldl f b))
 | [],i,b=>.inr ⟨rfl,by simp[scan]⟩
 | a :: l,i,b=>by
  simp only[scan,h]
  cases hp:p a with
  | true=>
   left
   refine ⟨by simp[hp],?_⟩
   cases e <;> first | exact absurd rfl he | exact ⟨rfl,a,b,List.mem_cons_self ..,hp,rfl⟩
  | false=>
   simp only[cond_false]
   rcases scan_bad he h l (i+1) (f b a) with ⟨h1,h2,a',b',h3,h4,h5⟩ | ⟨h1,h2⟩
   ·exact .inl ⟨by simp[h1],h2,a',b',List.mem_cons_of_mem _ h3,h4,h5⟩
   ·refine .inr ⟨by simp[hp,h1],?_⟩
    rw[h2]
    simp;omega
end
end
theorem scan_same {α:Type} [DecidableEq α] {x:Nat} (b:List α) (d:α) {st:Bool→Int→α→Ex×Bool} (h:∀ r (i:Int) a,st r i a=bif !decide (a=b.getD i.toNat d) then (.ret,false) else (.normal,r)):∀ (l:List α) (i:Nat) (r:Bool),l.length+i=b.length →
  (l=b.drop i∧scan x st (i:Int) l r=(.exit x,(i:Int)+l.length,r))∨(l≠b.drop i∧(scan x st (i:Int) l r).1=.ret∧(scan x st (i:Int) l r).2.2=false)
 | [],i,r,hl=>.inl ⟨by rw[List.drop_eq_nil_of_le (by simp at hl;omega)],by simp[scan]⟩
 | a :: l,i,r,hl=>by
  simp only[List.length_cons] at hl
  have hlt:i<b.length:=by omega
  rw[drop_at d hlt]
  simp only[scan,h,Int.toNat_natCast]
  by_cases hab:a=b.getD i d
  ·simp only[hab,decide_true,Bool.not_true,cond_false]
   have ih:=scan_same (x:=x) b d h l (i+1) r (by omega)
   rw[show ((i+1:Nat):Int)=(i:Int)+1 by omega] at ih
   rcases ih with ⟨h1,h2⟩ | ⟨h1,h2⟩
   ·refine .inl ⟨by rw[h1],?_⟩
    rw[h2]
    simp;omega
   ·refine .inr ⟨fun e=>h1 (by injection e),h2⟩
  ·right
   refine ⟨fun e=>hab (by injection e),?_⟩
   simp only[hab,decide_false,Bool.not_false,cond_true]
   exact ⟨trivial,trivial⟩
theorem lst_app1 {α:Type} (A:El α) (out:List α) (y:α):A.lst (min (out.length+1) out.length) (A.els out)++List.map (fun _=>y) (List.range (out.length+1 - out.length))=out++[y]:=by
 rw[Nat.min_eq_right (Nat.le_succ _),A.lst_els,Nat.add_sub_cancel_left];rfl
end Go.Lp

namespace Go.Lp
open Go.Lib Go.Sx
variable [Env]
theorem toL_len (s:ByteArray):s.data.toList.length=s.size:=(Lib.size_eq s).symm
theorem get_toL (s:ByteArray) (k:Nat):s.get! k=s.data.toList.getD k 0:=by
 show s.data[k]! = _
 rw[List.getD_eq_getElem?_getD,Array.getElem?_toList]
 by_cases h:k<s.data.size
 ·rw[getElem!_pos s.data k h,Array.getElem?_eq_getElem h];rfl
 ·rw[getElem!_neg s.data k h,Array.getElem?_eq_none (by omega)];rfl
theorem ofToL (s:ByteArray):(⟨s.data.toList.toArray⟩:ByteArray)=s:=by cases s;simp
theorem dec_toL (s:ByteArray) (p:Nat):Utf8.decode s p=decodeL (s.data.toList.drop p):=(decodeL_drop s p).symm
theorem dec_end (s:ByteArray) (p:Nat) (h:p<s.size):p+(Utf8.decode s p).2≤s.size:=by
 have h1:=decodeL_le (s.data.toList.drop p) (by intro e;have:=congrArg List.length e;simp only[List.length_drop,toL_len,List.length_nil] at this;omega)
 rw[dec_toL]
 simp only[List.length_drop,toL_len] at h1
 omega
theorem rs_at (s:ByteArray) (p:Nat) (h:p<s.size):rsL (s.data.toList.drop p)=Utf8.decode s p :: rsL (s.data.toList.drop (p+(Utf8.decode s p).2)):=by
 rw[rsL_step _ (by intro e;have:=congrArg List.length e;simp only[List.length_drop,toL_len,List.length_nil] at this;omega),← dec_toL,List.drop_drop]
theorem rs_end (s:ByteArray) (p:Nat) (h:s.size≤p):rsL (s.data.toList.drop p)=[]:=by
 rw[List.drop_eq_nil_of_le (by rw[toL_len];exact h)];rfl
section
variable {γ β C:Type}
def txR (x:Nat) (tx:C→ByteArray) (step:C→β→Nat→Nat×Nat→Ex×β) (adv:Bool) (mk:Nat→C→β→γ) (p:Nat) (c:C) (b:β):Ex×γ:=
 if p<(tx c).size then
  match step c b p (Utf8.decode (tx c) p) with
  | (.normal,b')=>(.normal,mk (p+(Utf8.decode (tx c) p).2) c b')
  | (e,b')=>(e,mk (bif adv then p+(Utf8.decode (tx c) p).2 else p) c b')
 else (.exit x,mk p c b)
def scanT (x:Nat) (adv:Bool) (step:β→Nat→Nat×Nat→Ex×β):Nat→List (Nat×Nat)→β→Ex×Nat×β
 | p,[],b=>(.exit x,p,b)
 | p,d :: l,b=>match step b p d with
  | (.normal,b')=>scanT x adv step (p+d.2) l b'
  | (e,b')=>(e,(bif adv then p+d.2 else p),b')
def txI (tx:C→ByteArray) (P:C→β→Nat→Prop) (mk:Nat→C→β→γ) (g:γ):List Prop:=[∃ p c b,g=mk p c b∧p≤(tx c).size∧P c b p]
variable {x:Nat} {tx:C→ByteArray} {step:C→β→Nat→Nat×Nat→Ex×β} {adv:Bool} {mk:Nat→C→β→γ} {P:C→β→Nat→Prop} {F:γ→Ex×γ} {m:γ→Nat}
def txK (tx:C→ByteArray) (step:C→β→Nat→Nat×Nat→Ex×β) (P:C→β→Nat→Prop):Prop:=∀ c b p,P c b p→p<(tx c).size→(step c b p (Utf8.decode (tx c) p)).1=.normal→P c (step c b p (Utf8.decode (tx c) p)).2 (p+(Utf8.decode (tx c) p).2)
theorem tx_goes (hm:∀ p c b,m (mk p c b)=(tx c).size - p) (hF:∀ p c b,p≤(tx c).size→P c b p→F (mk p c b)=txR x tx step adv mk p c b) (hP:txK tx step P):Goes F m fun g=>allP (txI tx P mk g):=by
 intro g hi hn
 obtain ⟨p,c,b,rfl,h1,h2⟩:=hi _ (List.mem_cons_self ..)
 rw[hF p c b h1 h2] at hn ⊢
 unfold txR at hn ⊢
 by_cases hlt:p<(tx c).size
 ·rw[if_pos hlt] at hn ⊢
  have hp:=hP c b p h2 hlt
  have he:=dec_end (tx c) p hlt
  have hw:=width_pos (tx c) p
  generalize step c b p (Utf8.decode (tx c) p)=s at hn hp ⊢
  obtain ⟨e,b'⟩:=s
  cases e with
  | normal=>
   refine ⟨fun q hq=>?_,?_⟩
   ·simp only[txI,List.mem_singleton] at hq
    subst hq
    exact ⟨_,c,b',rfl,he,hp rfl⟩
   ·rw[hm,hm];omega
  | _=>cases hn
 ·rw[if_neg hlt] at hn;cases hn
theorem tx_run (hm:∀ p c b,m (mk p c b)=(tx c).size - p) (hF:∀ p c b,p≤(tx c).size→P c b p→F (mk p c b)=txR x tx step adv mk p c b) (hP:txK tx step P):∀ (n p:Nat) (c:C) (b:β),p≤(tx c).size→P c b p→(tx c).size - p≤n →
  loopF F m (mk p c b)=((scanT x adv (step c) p (rsL ((tx c).data.toList.drop p)) b).1,mk (scanT x adv (step c) p (rsL ((tx c).data.toList.drop p)) b).2.1 c (scanT x adv (step c) p (rsL ((tx c).data.toList.drop p)) b).2.2):=by
 have hg:=tx_goes (x:=x) (adv:=adv) hm hF hP
 have hI:∀ p c b,p≤(tx c).size→P c b p→allP (txI tx P mk (mk p c b)):=fun p c b h1 h2 q hq=>by
  simp only[txI,List.mem_singleton] at hq
  subst hq
  exact ⟨p,c,b,rfl,h1,h2⟩
 intro n
 induction n with
 | zero=>
  intro p c b h1 h2 h3
  have hr:=hF p c b h1 h2
  unfold txR at hr
  rw[if_neg (by omega)] at hr
  rw[loopF_end (by rw[hr];simp),hr,rs_end _ _ (by omega)]
  rfl
 | succ n ih=>
  intro p c b h1 h2 h3
  have hr:=hF p c b h1 h2
  unfold txR at hr
  by_cases hlt:p<(tx c).size
  ·rw[if_pos hlt] at hr
   have hp:=hP c b p h2 hlt
   have he:=dec_end (tx c) p hlt
   have hw:=width_pos (tx c) p
   rw[rs_at _ _ hlt]
   simp only[scanT]
   generalize step c b p (Utf8.decode (tx c) p)=s at hr hp ⊢
   obtain ⟨e,b'⟩:=s
   cases e with
   | normal=>
    rw[loopF_next hg (hI p c b h1 h2) hr]
    exact ih _ c b' he (hp rfl) (by omega)
   | _=>rw[loopF_end (by rw[hr];simp),hr]
  ·rw[if_neg hlt] at hr
   rw[loopF_end (by rw[hr];simp),hr,rs_end _ _ (by omega)]
   rfl
end
end Go.Lp

namespace Go.Sx
open Go.RowKit
variable [Env]
section
variable {α γ:Type}
def memR (F:Nat→Option Obj) (w w':World) (L:Lc):Nat→Option Obj:=fun b=>if L.nl=false∧b=L.blk then none else memAt F w w' b
def FnRow (P:Program) (f:Nat) (t:TypeId) (A:El α) (D:DA γ) (fn:γ→List α) (pre:γ→List Prop):Prop:=
 ∀ (w:World) (F:Nat→Option Obj) (g:γ) (vs:List Value),(∀ b o,F b=some o→w.heap[b]?=some o)→Env.E F→(∀ p∈pre g,p)→SV.fits 0 (emp F) (D.enc g) vs →
  Calls P f vs.toArray w fun e w'=>∃ x L,e=.returned x∧Below w.heap.size w w'∧OwV L (fn g).length x∧(L.nl=false→w.heap.size≤L.blk)∧(rowA A t (fn g)).fit 0 (emp (memR F w w' L)) L w'.heap[L.blk]?
def wTree (P:Program) (Γ:Gam) (Λ:Lam) (n f:Nat) (t:TypeId) (A:El α) (args:List SV):Tr (List α):=
 (fnTree P Γ Λ n f args ⟨0,[],[]⟩).bind fun y=>match y.1 with
  | .ow i l=>match y.2.get i with
   | .row t' sz el m=>match Nat.beq t' t&&Nat.beq sz A.sz with
    | true=>asks ((l=m) :: A.okE m el) (.ret (A.lstE m el))
    | false=>.bad 690
   | _=>.bad 691
  | .k x=>match nilK x with
   | true=>.ret []
   | false=>.bad 692
  | _=>.bad 693
variable {P:Program} {Γ:Gam} {Λ:Lam} {f t:Nat} {A:El α} {D:DA γ} {fn:γ→List α} {pre:γ→List Prop}
theorem row_of_tree (hΓ:∀ f g,Γ.g f=some g→FnOk P f g) (hΛ:∀ f k L,Λ f k=some L→∀ b∈loopsOf P f,lkey b=k→LoopOk P b L.g) (n:Nat)
  (hT:∀ g,D.bd g→(∀ p∈pre g,p)→(wTree P Γ Λ n f t A (D.enc g)).Holds (·=fn g)):FnRow P f t A D fn pre:=by
 intro w F g vs hF hE hpre hfit
 have hbd:=D.fb _ _ _ _ hfit
 have hT:=hT g hbd hpre
 have h0:=fnTree_ok hΓ hΛ n (fun _=>False) w w (emp F) ⟨0,[],[]⟩ _ vs _ (Tr.holds_bind hT) (HM.start w (emp F) hF (fun _ _ h=>h) hE) hfit
 refine h0.mono ?_
 rintro e w' ⟨s,h',ρ',x,h1,h2,h3,h4,h5,rfl⟩
 simp only at h1
 split at h1
 ·rename_i i l
  split at h1
  ·rename_i t' sz el m hg
   split at h1
   ·rename_i hb
    simp only[Bool.and_eq_true] at hb
    have e1:=beq_of hb.1
    have e2:=beq_of hb.2
    subst e1;subst e2
    obtain ⟨hq,h1⟩:=asks_holds h1
    have hl:l=m:=hq _ (List.mem_cons_self ..)
    have hok:∀ e,e<m→A.Ok (el e):=A.okE_ok m el fun p h'=>hq p (List.mem_cons_of_mem _ h')
    subst hl
    have h1:A.lstE l el=fn g:=h1
    have hob:=h4.ob i
    rw[hg] at hob
    have hlen:(fn g).length=l:=by rw[← h1,A.lstE_eq,A.lst_length]
    have hmem:∀ b o,ρ'.mem b=some o→memR F w w' (ρ' i) b=some o:=fun b o hb'=>by
     unfold memR
     rw[if_neg]
     ·unfold memAt
      split
      ·rename_i hlt
       have:=h4.old b o hb' hlt (fun h=>h)
       rw[h3.2.2] at this
       exact this
      ·exact h4.fz b o hb'
     ·rintro ⟨hn,rfl⟩
      have:=h4.sep i (by rw[hg];exact hn)
      rw[this] at hb'
      cases hb'
    refine ⟨x,ρ' i,rfl,h4.toBelow,?_,fun hn=>?_,?_⟩
    ·rw[hlen]
     rcases h5.2 with ⟨k1,k2,a,k3⟩ | ⟨k1,_,k3⟩
     ·exact .inl ⟨k1,k2,a,k3⟩
     ·exact .inr ⟨k1,k3⟩
    ·rcases h4.ow i (by rw[hg];exact hn) with h | h
     ·exact h
     ·exact h.elim
    ·rw[← h1]
     exact rowA_of A hmem hok hob
   ·exact h1.elim
  ·exact h1.elim
 ·rename_i y
  split at h1
  ·rename_i hy
   have hy:=nilK_eq hy
   subst hy
   have h1:[]=fn g:=h1
   simp only[SV.fit] at h5
   subst h5
   refine ⟨_,⟨0,0,0,true⟩,rfl,h4.toBelow,?_,fun h=>(by cases h),?_⟩
   ·rw[← h1];exact .inl ⟨rfl,rfl,_,rfl⟩
   ·rw[← h1];exact ⟨Nat.zero_le _,.inl ⟨rfl,rfl⟩⟩
  ·exact h1.elim
 ·exact h1.elim
def conRow (t:TypeId) (A:El α) (D:DA γ) (fn:γ→List α) (pre:γ→List Prop):Con:=fun args h=>
 match D.dec args with
 | some (g,ps)=>asks (ps++pre g) (.ret (.ow h.nx (fn g).length,h.push (rowA A t (fn g))))
 | none=>.bad 694
theorem conRow_ok (hp:FnRow P f t A D fn pre):FnOk P f (conRow t A D fn pre):=by
 intro M w0 w ρ h args vs K hK hm hfits
 unfold conRow at hK
 split at hK
 ·rename_i g ps hd
  obtain ⟨hq,hK⟩:=asks_holds hK
  have hv2:=D.ok _ _ _ _ _ _ hd (fun p h'=>hq p (List.mem_append_left _ h')) hfits
  have hv3:=D.cl _ _ 0 ρ (emp ρ.mem) vs (fun _ _ h=>h) hv2
  refine (hp w ρ.mem g vs hm.fz hm.env (fun p h'=>hq p (List.mem_append_right _ h')) hv3).mono ?_
  rintro e w' ⟨x,L,rfl,hb,hx,hfresh,hrow⟩
  have hm1:=hm.below hb
  have hmem:∀ b o,ρ.mem b=some o→memR ρ.mem w w' L b=some o:=fun b o ho=>by
   have hlt:=hm.lt_mem ho
   unfold memR memAt
   rw[if_neg (fun hc=>by have:=hfresh hc.1;omega),if_pos hlt]
   exact ho
  have hag:Agree h.nx ρ ⟨ρ.lc,memR ρ.mem w w' L,ρ.lo⟩:=⟨fun _ _=>rfl,hmem,rfl⟩
  have hm2:HM M w0 ⟨ρ.lc,memR ρ.mem w w' L,ρ.lo⟩ h w':={
   os:=hm1.os
   tape:=hm1.tape
   output:=hm1.output
   size:=hm1.size
   block:=hm1.block
   lt:=hm1.lt
   ob:=fun i=>SO.fit_mono (Nat.le_refl _) hag (hm1.ob i)
   ow:=hm1.ow
   fz:=fun b o hb'=>by
    simp only[memR,memAt] at hb'
    split at hb'
    ·cases hb'
    ·split at hb'
     ·exact hm1.fz b o hb'
     ·exact hb'
   sep:=fun i hi=>by
    have h1:=hm.sep i hi
    have h2:=hm.lt_heap hi
    simp only[memR,memAt]
    split
    ·rfl
    ·first | exact h1 | (rw[if_pos h2];exact h1)
   old:=fun b o hb' hlt hM=>by
    simp only[memR,memAt] at hb'
    have hs:=hm.size
    split at hb'
    ·cases hb'
    ·rw[if_pos (by omega)] at hb'
     exact hm.old b o hb' hlt hM
   env:=Env.mono _ _ (fun b o hb _=>hmem b o hb) hm.env
   inj:=hm1.inj }
  have hm3:HM M w0 (upd ⟨ρ.lc,memR ρ.mem w w' L,ρ.lo⟩ h.nx L) (h.push (rowA A t (fn g))) w':=by
   refine hm2.learn (rowA_cl A (ρ:=emp (memR ρ.mem w w' L)) (fun _ _ h=>h) hrow) fun ho=>?_
   have hn:L.nl=false:=ho
   have hf:=hfresh hn
   refine ⟨.inl (Nat.le_trans hm.size hf),?_,fun j hj=>?_⟩
   ·simp only[memR,hn,true_and,if_pos]
   ·have:=hm.lt_heap hj
    show (ρ j).blk≠L.blk
    omega
  refine ⟨_,_,upd ⟨ρ.lc,memR ρ.mem w w' L,ρ.lo⟩ h.nx L,x,hK,Nat.le_succ _,hag.trans (Nat.le_refl _) (agree_upd _ _ _),hm3,⟨Nat.lt_succ_self _,?_⟩,rfl⟩
  have hu:(upd ⟨ρ.lc,memR ρ.mem w w' L,ρ.lo⟩ h.nx L) h.nx=L:=by simp[upd]
  rw[hu]
  rcases hx with ⟨h1,h2,a,h3⟩ | ⟨h1,h3⟩
  ·exact .inl ⟨h1,h2,a,h3⟩
  ·refine .inr ⟨h1,?_,h3⟩
   rcases hrow.2 with ⟨h4,_⟩ | ⟨_,_,c,fz,_,_,_,h8,_⟩
   ·rw[h1] at h4;cases h4
   ·exact h8
 ·exact hK.elim
def bconRow (t:TypeId) (A:El α) (D:DA γ) (fn:γ→List α) (pre:γ→List Prop):BCon:=⟨conRow t A D fn pre,fun args h=>by
 unfold conRow
 split
 ·exact asks_each rfl
 ·trivial⟩
end
end Go.Sx

namespace Go.Sx
open Go.RowKit
variable [Env]
def dPr {α:Type} (A:El α):Dv α where
 dec s:=match s with
  | .pr l=>A.decs l
  | _=>none
 enc a:=.pr (A.cells a)
 bd:=A.bd
 cl a:=cl_pr (A.cl a)
 ok s a ps n ρ x hd hp hf:=by
  split at hd
  ·obtain ⟨b,o,cs,t,fz,k1,k2,vs,k3,k4⟩:=hf
   exact ⟨b,o,cs,t,fz,k1,k2,vs,A.ok _ _ _ _ _ _ hd hp k3,k4⟩
  ·cases hd
 fb a n ρ x hf:=by
  obtain ⟨b,o,cs,t,fz,k1,k2,vs,k3,k4⟩:=hf
  exact A.fb _ _ _ _ k3
def dFnA {γ:Type} (f:Nat) (D:DA γ):Dv γ where
 dec s:=match s with
  | .fn f' l=>bif Nat.beq f f' then D.dec l else none
  | _=>none
 enc a:=.fn f (D.enc a)
 bd:=D.bd
 cl a:=cl_fn (D.cl a)
 ok s a ps n ρ x hd hp hf:=by
  split at hd
  ·rename_i f' s
   cases hb:Nat.beq f f' with
   | false=>rw[hb] at hd;cases hd
   | true=>
    rw[hb] at hd
    rw[beq_of hb]
    obtain ⟨l,rfl,hl⟩:=hf
    exact ⟨l,rfl,D.ok _ _ _ _ _ _ hd hp hl⟩
  ·cases hd
 fb a n ρ x hf:=by
  obtain ⟨l,rfl,hl⟩:=hf
  exact D.fb _ _ _ _ hl
end Go.Sx

namespace Go.Lp
open Go.Sx
variable [Env]
section
variable {γ β C:Type}
def ctR (x:Nat) (hi:C→Int) (step:C→β→Int→Ex×β) (mk:Int→C→β→γ) (k:Int) (c:C) (b:β):Ex×γ:=
 if k≤hi c then
  match step c b k with
  | (.normal,b')=>(.normal,mk (k+1) c b')
  | (e,b')=>(e,mk k c b')
 else (.exit x,mk k c b)
def scanC (x:Nat) (step:β→Int→Ex×β):Nat→Int→β→Ex×Int×β
 | 0,k,b=>(.exit x,k,b)
 | n+1,k,b=>match step b k with
  | (.normal,b')=>scanC x step n (k+1) b'
  | (e,b')=>(e,k,b')
def ctI (hi:C→Int) (P:C→β→Int→Prop) (mk:Int→C→β→γ) (g:γ):List Prop:=[∃ k c b,g=mk k c b∧P c b k]
variable {x:Nat} {hi:C→Int} {step:C→β→Int→Ex×β} {mk:Int→C→β→γ} {P:C→β→Int→Prop} {F:γ→Ex×γ} {m:γ→Nat}
def ctK (hi:C→Int) (step:C→β→Int→Ex×β) (P:C→β→Int→Prop):Prop:=∀ c b k,P c b k→k≤hi c→(step c b k).1=.normal→P c (step c b k).2 (k+1)
theorem ct_goes (hm:∀ k c b,m (mk k c b)=(hi c+1 - k).toNat) (hF:∀ k c b,P c b k→F (mk k c b)=ctR x hi step mk k c b) (hP:ctK hi step P):Goes F m fun g=>allP (ctI hi P mk g):=by
 intro g hI hn
 obtain ⟨k,c,b,rfl,h2⟩:=hI _ (List.mem_cons_self ..)
 rw[hF k c b h2] at hn ⊢
 unfold ctR at hn ⊢
 by_cases hlt:k≤hi c
 ·rw[if_pos hlt] at hn ⊢
  have hp:=hP c b k h2 hlt
  generalize step c b k=s at hn hp ⊢
  obtain ⟨e,b'⟩:=s
  cases e with
  | normal=>
   refine ⟨fun q hq=>?_,?_⟩
   ·simp only[ctI,List.mem_singleton] at hq
    subst hq
    exact ⟨_,c,b',rfl,hp rfl⟩
   ·rw[hm,hm];omega
  | _=>cases hn
 ·rw[if_neg hlt] at hn;cases hn
theorem ct_run (hm:∀ k c b,m (mk k c b)=(hi c+1 - k).toNat) (hF:∀ k c b,P c b k→F (mk k c b)=ctR x hi step mk k c b) (hP:ctK hi step P):∀ (n:Nat) (k:Int) (c:C) (b:β),P c b k→(hi c+1 - k).toNat=n →
  loopF F m (mk k c b)=((scanC x (step c) n k b).1,mk (scanC x (step c) n k b).2.1 c (scanC x (step c) n k b).2.2):=by
 have hg:=ct_goes (x:=x) hm hF hP
 have hI:∀ k c b,P c b k→allP (ctI hi P mk (mk k c b)):=fun k c b h2 q hq=>by
  simp only[ctI,List.mem_singleton] at hq
  subst hq
  exact ⟨k,c,b,rfl,h2⟩
 intro n
 induction n with
 | zero=>
  intro k c b h2 h3
  have hr:=hF k c b h2
  unfold ctR at hr
  rw[if_neg (by omega)] at hr
  rw[loopF_end (by rw[hr];simp),hr]
  rfl
 | succ n ih=>
  intro k c b h2 h3
  have hr:=hF k c b h2
  unfold ctR at hr
  have hlt:k≤hi c:=by omega
  rw[if_pos hlt] at hr
  have hp:=hP c b k h2 hlt
  simp only[scanC]
  generalize step c b k=s at hr hp ⊢
  obtain ⟨e,b'⟩:=s
  cases e with
  | normal=>
   rw[loopF_next hg (hI k c b h2) hr]
   exact ih _ c b' (hp rfl) (by omega)
  | _=>rw[loopF_end (by rw[hr];simp),hr]
end
end Go.Lp

namespace Go.Lp
open Go.Sx
variable [Env]
section
variable {α β:Type}
theorem search' {x:Nat} {st:β→Int→α→Ex×β} {p:α→Bool} {r:Int→α→β→β} (h:∀ b i a,st b i a=bif p a then (.ret,r i a b) else (.normal,b)):∀ (l:List α) (i:Int) (b:β),
  (l.any p=true∧∃ j,i≤j∧∃ a,a∈l∧p a=true∧scan x st i l b=(.ret,j,r j a b))∨(l.any p=false∧scan x st i l b=(.exit x,i+(l.length:Int),b))
 | [],i,b=>.inr ⟨rfl,by simp[scan]⟩
 | a :: l,i,b=>by
  simp only[scan,h]
  cases hp:p a with
  | true=>exact .inl ⟨by simp[hp],i,Int.le_refl _,a,List.mem_cons_self ..,hp,rfl⟩
  | false=>
   simp only[cond_false]
   rcases search' h l (i+1) b with ⟨h1,j,hj,a',h2,h3,h4⟩ | ⟨h1,h2⟩
   ·exact .inl ⟨by simp[h1],j,by omega,a',List.mem_cons_of_mem _ h2,h3,h4⟩
   ·refine .inr ⟨by simp[hp,h1],?_⟩
    rw[h2]
    simp;omega
theorem search {x:Nat} {st:β→Int→α→Ex×β} {p:α→Bool} {r:Int→α→β→β} (h:∀ b i a,st b i a=bif p a then (.ret,r i a b) else (.normal,b)) (l:List α) (b:β) :
  (l.any p=true∧∃ j,0≤j∧∃ a,a∈l∧p a=true∧scan x st 0 l b=(.ret,j,r j a b))∨(l.any p=false∧scan x st 0 l b=(.exit x,(l.length:Int),b)):=by
 have:=search' (x:=x) h l 0 b
 rwa [Int.zero_add] at this
theorem searchI' {x:Nat} {st:β→Int→α→Ex×β} {p:Int→α→Bool} {r:Int→α→β→β} (h:∀ b i a,st b i a=bif p i a then (.ret,r i a b) else (.normal,b)):∀ (l:List α) (i:Int) (b:β),
  (∃ (n:Nat) (a:α),l[n]?=some a∧p (i+n) a=true∧scan x st i l b=(.ret,i+n,r (i+n) a b))∨((∀ (n:Nat) (a:α),l[n]?=some a→p (i+n) a=false)∧scan x st i l b=(.exit x,i+(l.length:Int),b))
 | [],i,b=>.inr ⟨fun n a h=>by simp at h,by simp[scan]⟩
 | a :: l,i,b=>by
  simp only[scan,h]
  cases hp:p i a with
  | true=>exact .inl ⟨0,a,rfl,by simpa using hp,by simp⟩
  | false=>
   simp only[cond_false]
   rcases searchI' h l (i+1) b with ⟨n,a',h2,h3,h4⟩ | ⟨h1,h2⟩
   ·exact .inl ⟨n+1,a',h2,by rw[show i+((n+1:Nat):Int)=i+1+n by omega];exact h3,by rw[show i+((n+1:Nat):Int)=i+1+n by omega];exact h4⟩
   ·refine .inr ⟨fun n a' hn=>?_,?_⟩
    ·cases n with
     | zero=>injection hn with hn;subst hn;simpa using hp
     | succ n=>rw[show i+((n+1:Nat):Int)=i+1+n by omega];exact h1 n a' hn
    ·rw[h2]
     simp;omega
theorem searchI {x:Nat} {st:β→Int→α→Ex×β} {p:Int→α→Bool} {r:Int→α→β→β} (h:∀ b i a,st b i a=bif p i a then (.ret,r i a b) else (.normal,b)) (l:List α) (b:β) :
  (∃ (n:Nat) (a:α),l[n]?=some a∧p n a=true∧scan x st 0 l b=(.ret,(n:Int),r n a b))∨((∀ (n:Nat) (a:α),l[n]?=some a→p n a=false)∧scan x st 0 l b=(.exit x,(l.length:Int),b)):=by
 have:=searchI' (x:=x) h l 0 b
 simpa only [Int.zero_add] using this
theorem ne_len {α β:Type} {a:List α} {b:List β} (h:((a.length:Int) != (b.length:Int))=false):a.length=b.length:=by
 have:(a.length:Int)=(b.length:Int):=by simpa using h
 omega
end
end Go.Lp

namespace Go.Sx
open Go.RowKit
variable [Env]
def lconAlt (N:Nat) (c1 c2:LCon):LCon:=⟨fun σ=>bif Nat.beq σ.h.nx N then c1.g σ else c2.g σ,fun σ=>by
 cases Nat.beq σ.h.nx N with
 | true=>exact c1.on σ
 | false=>exact c2.on σ⟩
theorem altL_ok {P:Program} {b:Code} {N:Nat} {c1 c2:LCon} (h1:LoopOk P b c1.g) (h2:LoopOk P b c2.g):LoopOk P b (lconAlt N c1 c2).g:=by
 intro M w0 w ρ σ a K hK hm
 have hK:(bif Nat.beq σ.h.nx N then c1.g σ else c2.g σ).Holds K:=hK
 cases hc:Nat.beq σ.h.nx N with
 | true=>rw[hc] at hK;exact h1 M w0 w ρ σ a K hK hm
 | false=>rw[hc] at hK;exact h2 M w0 w ρ σ a K hK hm
end Go.Sx

namespace Go.Sx
open Go.RowKit
variable [Env]
def Tr.asksC {α:Type}:Tr α→List Prop
 | .ret _=>[]
 | .br c a b=>bif c then a.asksC else b.asksC
 | .ask p a=>p :: a.asksC
 | .giv _ a=>a.asksC
 | .all _=>[False]
 | .bad _=>[False]
def Tr.evC {α:Type} (d:α):Tr α→α
 | .ret x=>x
 | .br c a b=>bif c then a.evC d else b.evC d
 | .ask _ a=>a.evC d
 | .giv _ a=>a.evC d
 | _=>d
theorem Tr.asksC_holds {α:Type} (d:α):∀ {t:Tr α},(∀ p∈t.asksC,p)→t.Holds (·=t.evC d)
 | .ret _,_=>rfl
 | .br true a b,h=>⟨fun _=>Tr.asksC_holds d (t:=a) h,fun h=>by cases h⟩
 | .br false a b,h=>⟨fun h=>(by cases h),fun _=>Tr.asksC_holds d (t:=b) h⟩
 | .ask p a,h=>⟨h p (List.mem_cons_self ..),Tr.asksC_holds d (t:=a) fun q hq=>h q (List.mem_cons_of_mem _ hq)⟩
 | .giv _ a,h=>fun _=>Tr.asksC_holds d (t:=a) h
 | .all _,h=>(h _ (List.mem_cons_self ..)).elim
 | .bad _,h=>(h _ (List.mem_cons_self ..)).elim
theorem pure_lit {γ δ:Type} {P:Program} {f:Nat} {D:DA γ} {R:Dv δ} {fn:γ→δ} {pre:γ→List Prop} (h:FnPure P f D R fn pre) (g0:γ) (r:δ) (hr:fn g0=r) (hp:∀ p∈pre g0,p):FnPure P f D R (fun _=>r) (fun g=>[g=g0]):=by
 intro w F g vs h1 hE h2 h3
 have e:g=g0:=h2 _ (List.mem_cons_self ..)
 subst e
 subst hr
 exact h w F g vs h1 hE hp h3
end Go.Sx

namespace Go.Sx
open Go.RowKit
variable [Env]
def frzC (c:Con):Con:=fun args h=>asks (frzA h args).2.2 (c (frzA h args).1 (frzA h args).2.1)
section
variable {P:Program} {M:Nat→Prop} {w0 w:World}
theorem frzC_ok {f:Nat} {c:Con} (hc:FnOk P f c):FnOk P f (frzC c):=by
 intro M w0 w ρ h args vs K hK hm hf
 obtain ⟨hq,hK⟩:=asks_holds hK
 obtain ⟨ρ1,a1,m1,f1⟩:=frzA_ok hm hf hq
 have hnx:=(frzA_b args h).2
 refine (hc M w0 w ρ1 _ _ vs K hK m1 (by rw[hnx];exact f1)).mono ?_
 rintro e w' ⟨s,h',ρ',x,k1,k2,k3,k4,k5,k6⟩
 rw[hnx] at k2 k3
 exact ⟨s,h',ρ',x,k1,k2,a1.trans (Nat.le_refl _) k3,k4,k5,k6⟩
theorem frzC_b {c:Con} (hc:∀ args h,(c args h).Each fun y=>y.2=h):ConB (frzC c):=fun args h=>by
 have hb:=(frzA_b args h).1
 refine asks_each ?_
 have:=eq_b (hc (frzA h args).1 (frzA h args).2.1)
 rw[hb] at this
 exact this
def fconR {γ δ:Type} (D:DA γ) (R:Dv δ) (fn:γ→δ) (pre:γ→List Prop):BCon:=⟨frzC (conR D R fn pre),frzC_b (pconR D R fn pre).e⟩
theorem fconR_ok {f:Nat} {γ δ:Type} {D:DA γ} {R:Dv δ} {fn:γ→δ} {pre:γ→List Prop} (h:FnPure P f D R fn pre):FnOk P f (fconR D R fn pre).g:=frzC_ok (conR_ok h)
theorem asks_intro {α:Type} {K:α→Prop}:∀ {l:List Prop} {t:Tr α},(∀ p∈l,p)→t.Holds K→(asks l t).Holds K
 | [],_,_,h=>h
 | p :: r,t,hl,h=>⟨hl p (List.mem_cons_self ..),asks_intro (l:=r) (fun q hq=>hl q (List.mem_cons_of_mem _ hq)) h⟩
def conL {α γ δ:Type} (A:El α) (D:DA γ) (R:Dv δ) (fn:List α×γ→δ) (pre:List α×γ→List Prop):Con:=fun args h=>
 match args with
 | .ow i l :: rest=>match h.get i with
  | .row _ sz el m=>match Nat.beq sz A.sz with
   | true=>match D.dec rest with
    | some (g,ps)=>asks ((l≤m) :: (A.okE l el++(ps++pre (A.lstE l el,g)))) (.ret (R.enc (fn (A.lstE l el,g)),h.set i .dead))
    | none=>.bad 658
   | false=>.bad 659
  | _=>.bad 660
 | args=>frzC (conR (.cons (.list A) D) R fn pre) args h
theorem conL_ok {f:Nat} {α γ δ:Type} {A:El α} {D:DA γ} {R:Dv δ} {fn:List α×γ→δ} {pre:List α×γ→List Prop} (hp:FnPure P f (.cons (.list A) D) R fn pre):FnOk P f (conL A D R fn pre):=by
 intro M w0 w ρ h args vs K hK hm hf
 unfold conL at hK
 split at hK
 ·rename_i i l rest
  split at hK
  ·rename_i t sz el m hg
   split at hK
   ·rename_i hb
    split at hK
    ·rename_i g ps hd
     obtain ⟨hq,hK⟩:=asks_holds hK
     have hlm:l≤m:=hq _ (List.mem_cons_self ..)
     have hok:∀ e,e<l→A.Ok (el.at e):=A.okE_ok l el fun p h'=>hq p (List.mem_cons_of_mem _ (List.mem_append_left _ h'))
     have hps:∀ p∈ps,p:=fun p h'=>hq p (List.mem_cons_of_mem _ (List.mem_append_right _ (List.mem_append_left _ h')))
     have hpre:∀ p∈pre (A.lstE l el,g),p:=fun p h'=>hq p (List.mem_cons_of_mem _ (List.mem_append_right _ (List.mem_append_right _ h')))
     rw[A.lstE_eq] at hpre hK
     obtain ⟨y,ys,rfl,hy,hr⟩:=fits_cons hf
     have e1:frz1 h (.ow i l)=(.rs sz l el.at,h.set i .dead,[l≤m]):=by simp[frz1,hg]
     obtain ⟨ρ1,a1,m1,f1⟩:=frz1_ok (s:=.ow i l) hm hy (by rw[e1];intro p hp';simp only[List.mem_singleton] at hp';rw[hp'];exact hlm)
     rw[e1] at m1 f1
     have hdec:(DA.cons (.list A) D).dec (.rs sz l el.at :: rest)=some ((A.lst l el.at,g),[∀ e,e<l→A.Ok (el.at e)]++ps):=by
      simp only[DA.cons,Dv.list,hb,hd,cond_true]
     have hK1:(conR (.cons (.list A) D) R fn pre (.rs sz l el.at :: rest) (h.set i .dead)).Holds K:=by
      unfold conR
      rw[hdec]
      refine asks_intro (fun p h'=>?_) hK
      rcases List.mem_append.1 h' with h' | h'
      ·rcases List.mem_append.1 h' with h' | h'
       ·simp only[List.mem_singleton] at h'
        rw[h'];exact hok
       ·exact hps p h'
      ·exact hpre p h'
     refine (conR_ok hp M w0 w ρ1 (h.set i .dead) (.rs sz l el.at :: rest) (y :: ys) K hK1 m1 ⟨f1,SV.fits_mono (Nat.le_refl _) a1 _ _ hr⟩).mono ?_
     rintro e w' ⟨s,h',ρ',x,k1,k2,k3,k4,k5,k6⟩
     exact ⟨s,h',ρ',x,k1,k2,a1.trans (Nat.le_refl _) k3,k4,k5,k6⟩
    ·exact hK.elim
   ·exact hK.elim
  ·exact hK.elim
 ·exact frzC_ok (conR_ok hp) M w0 w ρ h _ vs K hK hm hf
theorem conL_b {α γ δ:Type} {A:El α} {D:DA γ} {R:Dv δ} {fn:List α×γ→δ} {pre:List α×γ→List Prop}:ConB (conL A D R fn pre):=fun args h=>by
 unfold conL
 split
 ·split
  ·split
   ·split
    ·exact asks_each rfl
    ·trivial
   ·trivial
  ·trivial
 ·exact frzC_b (pconR (.cons (.list A) D) R fn pre).e _ h
def lconR {α γ δ:Type} (A:El α) (D:DA γ) (R:Dv δ) (fn:List α×γ→δ) (pre:List α×γ→List Prop):BCon:=⟨conL A D R fn pre,conL_b⟩
theorem pure_none {f:Nat} {α δ:Type} {A:Dv α} {R:Dv δ} {fn:α→δ} {pre:α→List Prop} (h:FnPure P f (.one A) R fn pre):FnPure P f (.cons A .none) R (fun g=>fn g.1) (fun g=>pre g.1):=fun w F g vs h1 hE h2 h3=>h w F g.1 vs h1 hE h2 h3
def okAll {α:Type} (A:El α) (n:Nat) (el:Nat→List SV):Bool:=(List.range n).all fun e=>match A.decs (el e) with
 | some (_,[])=>true
 | _=>false
theorem okAll_ok {α:Type} {A:El α} {n:Nat} {el:Nat→List SV} (h:okAll A n el=true):∀ e,e<n→A.Ok (el e):=fun e he=>by
 have:=List.all_eq_true.1 h e (by simpa using he)
 split at this
 ·rename_i a hd
  exact ⟨a,[],hd,by simp⟩
 ·cases this
def Dv.listB {α:Type} (A:El α):Dv (List α) where
 dec s:=match s with
  | .rs sz n el=>bif Nat.beq sz A.sz&&okAll A n el then some (A.lst n el,[]) else none
  | _=>none
 enc:=(Dv.list A).enc
 bd:=(Dv.list A).bd
 cl:=(Dv.list A).cl
 ok s a ps n ρ x hd hp hf:=by
  split at hd
  ·rename_i sz m el
   cases hb:(Nat.beq sz A.sz&&okAll A m el) with
   | false=>rw[hb] at hd;cases hd
   | true=>
    rw[hb] at hd
    simp only[cond_true,Option.some.injEq,Prod.mk.injEq] at hd
    obtain ⟨rfl,rfl⟩:=hd
    simp only[Bool.and_eq_true] at hb
    exact (Dv.list A).ok (.rs sz m el) _ [∀ e,e<m→A.Ok (el e)] n ρ x (by simp[Dv.list,hb.1]) (by
     intro p hp
     simp only[List.mem_singleton] at hp
     subst hp
     exact okAll_ok hb.2) hf
  ·cases hd
 fb:=(Dv.list A).fb
end
end Go.Sx
