/- Contracts of functions that write a slice which is handed in: a row of the caller's own. -/
import Derived.Test.YthnojkbkojpadaaGreatZG05ed7749
import Derived.ProofKit
import Derived.OpenShut
import Derived.ShutString
import Derived.ChangeOld
import Derived.Below
import Derived.Deep.Slices
import Derived.Calls
import Derived.RunT
import Derived.StepT
import Derived.Shelf.SlSortCmp.WholeK
import Derived.Shelf.SlSortCmp.NoneTotal
set_option linter.unusedVariables false
set_option linter.unusedSimpArgs false
set_option linter.constructorNameAsVariable false
set_option linter.all false

namespace Go.Sx
open Go.RowKit
variable [Env]
def ownB (L:Lc):Nat→Prop:=fun b=>L.nl=false∧b=L.blk
structure BelowM (B:Nat→Prop) (w w':World):Prop where
 os:w'.os=w.os
 tape:w'.tape=w.tape
 output:w'.output=w.output
 size:w.heap.size≤w'.heap.size
 block:∀ k,k<w.heap.size→¬ B k→w'.heap[k]?=w.heap[k]?
structure RM (δ:Type) where
 dec:SV→Option (δ×List Prop)
 enc:Nat→δ→SV
 ok:∀ (s:SV) (d:δ) (ps:List Prop),dec s=some (d,ps)→(∀ p∈ps,p)→∀ (n m i:Nat) (ρ ρ':Rh) (x:Value),(∀ b o,ρ.mem b=some o→ρ'.mem b=some o)→ρ' i=ρ 0→i<m→s.fit n ρ x→(enc i d).fit m ρ' x
 cl:∀ (i:Nat) (d:δ) (n m:Nat) (ρ ρ':Rh) (x:Value),(∀ b o,ρ.mem b=some o→ρ'.mem b=some o)→ρ' i=ρ i→i<m→(enc i d).fit n ρ x→(enc i d).fit m ρ' x
def RM.pure {δ:Type} (R:Dv δ):RM δ where
 dec:=R.dec
 enc _ d:=R.enc d
 ok s d ps hd hp n m i ρ ρ' x hm _ _ hf:=R.cl d n m ρ ρ' x hm (R.ok _ _ _ _ _ _ hd hp hf)
 cl i d n m ρ ρ' x hm _ _ hf:=R.cl d n m ρ ρ' x hm hf
def RM.self:RM Nat where
 dec s:=match s with
  | .ow 0 k=>some (k,[])
  | .opt b (.ow 0 k)=>some (k,[b=true])
  | _=>none
 enc i k:=.ow i k
 ok s d ps hd hp n m i ρ ρ' x hm hi him hf:=by
  split at hd
  ·simp only[Option.some.injEq,Prod.mk.injEq] at hd
   obtain ⟨rfl,rfl⟩:=hd
   obtain ⟨_,hf⟩:=hf
   exact ⟨him,by rw[hi];exact hf⟩
  ·simp only[Option.some.injEq,Prod.mk.injEq] at hd
   obtain ⟨rfl,rfl⟩:=hd
   obtain ⟨_,hf⟩:=hf (hp _ (List.mem_cons_self ..))
   exact ⟨him,by rw[hi];exact hf⟩
  ·cases hd
 cl i d n m ρ ρ' x hm hi him hf:=by
  obtain ⟨_,hf⟩:=hf
  exact ⟨him,by rw[hi];exact hf⟩
section
variable {α:Type} (A:El α)
abbrev rowA (t:TypeId) (xs:List α):SO:=.row t A.sz (.fn (A.els xs)) xs.length
theorem qhc {t:TypeId} {xs:List α} {n m:Nat} {ρ ρ':Rh} {L:Lc} {o:Option Obj} (hm:∀ b o,ρ.mem b=some o→ρ'.mem b=some o) (h:(rowA A t xs).fit n ρ L o):(rowA A t xs).fit m ρ' L o:=by
 refine ⟨h.1,?_⟩
 rcases h.2 with h2 | ⟨h1,h2,c,fz,h3,h3',h4,h5,h6,h7⟩
 ·exact .inl h2
 ·refine .inr ⟨h1,h2,c,fz,h3,h3',h4,h5,h6,fun e he=>?_⟩
  obtain ⟨l,q1,q2,q3⟩:=h7 e he
  exact ⟨l,q1,A.cl _ _ _ _ _ _ hm q2,q3⟩
theorem rowA_of {t:TypeId} {el:ElE} {k n m:Nat} {ρ ρ':Rh} {L:Lc} {o:Option Obj} (hm:∀ b o,ρ.mem b=some o→ρ'.mem b=some o) (hk:∀ e,e<k→A.Ok (el e)) (h:(SO.row t A.sz el k).fit n ρ L o):(rowA A t (A.lstE k el)).fit m ρ' L o:=by
 rw[A.lstE_eq]
 refine ⟨by rw[A.lst_length];exact h.1,?_⟩
 rw[A.lst_length]
 rcases h.2 with h2 | ⟨h1,h2,c,fz,h3,h3',h4,h5,h6,h7⟩
 ·exact .inl h2
 ·refine .inr ⟨h1,h2,c,fz,h3,h3',h4,h5,h6,fun e he=>?_⟩
  obtain ⟨l,q1,q2,q3⟩:=h7 e he
  obtain ⟨a,ps,d1,d2⟩:=hk e he
  refine ⟨l,q1,?_,q3⟩
  have:=A.cl a n m ρ ρ' l hm (A.ok _ _ _ _ _ _ d1 d2 q2)
  show SV.fits m ρ' (A.cells ((A.lst k el).getD e A.dflt)) l
  rw[A.lst_getD _ _ _ he]
  simpa only [El.get,d1] using this
end
def FnMut {α γ δ:Type} (P:Program) (f:Nat) (t:TypeId) (A:El α) (D:DA γ) (R:RM δ) (fn:List α→γ→List α×δ) (pre:List α→γ→List Prop):Prop:=
 ∀ (w:World) (F:Nat→Option Obj) (L:Lc) (xs:List α) (g:γ) (v0:Value) (vs:List Value),(∀ b o,F b=some o→w.heap[b]?=some o)→Env.E F→(∀ b,ownB L b→F b=none)→OwV L xs.length v0 →
  (∀ p∈pre xs g,p)→(rowA A t xs).fit 0 (emp F) L w.heap[L.blk]?→SV.fits 0 (emp F) (D.enc g) vs →
  Calls P f (v0 :: vs).toArray w fun e w'=>∃ x,e=.returned x∧BelowM (ownB L) w w'∧(rowA A t (fn xs g).1).fit 0 (emp (memAt F w w')) L w'.heap[L.blk]? ∧
   ∀ (m i:Nat) (ρ':Rh),(∀ b o,memAt F w w' b=some o→ρ'.mem b=some o)→ρ' i=L→i<m→(R.enc i (fn xs g).2).fit m ρ' x
def mTree {α δ:Type} (P:Program) (Γ:Gam) (Λ:Lam) (n f:Nat) (t:TypeId) (A:El α) (R:RM δ) (xs:List α) (args:List SV):Tr (List α×δ):=
 (qkn P Γ Λ n f (.ow 0 xs.length :: args) ⟨1,[(0,.o (rowA A t xs))],[]⟩).bind fun y=>
  match y.2.get 0 with
  | .row t' sz el m=>match Nat.beq t' t&&Nat.beq sz A.sz with
   | true=>asks (A.okE m el) (match R.dec y.1 with
    | some (r,ps)=>asks ps (.ret (A.lstE m el,r))
    | none=>.bad 650)
   | false=>.bad 651
  | _=>.bad 652
section
variable {P:Program} {Γ:Gam} {Λ:Lam} {f t:Nat} {α γ δ:Type} {A:El α} {D:DA γ} {R:RM δ} {fn:List α→γ→List α×δ} {pre:List α→γ→List Prop}
theorem ow_of_owv {L:Lc} {l:Nat} {v:Value} {n i:Nat} {ρ:Rh} (hi:i<n) (hρ:ρ i=L) (h:OwV L l v) (hc:L.nl=false→l≤L.cap):(SV.ow i l).fit n ρ v:=by
 refine ⟨hi,?_⟩
 rw[hρ]
 rcases h with ⟨h1,h2,a,h3⟩ | ⟨h1,h2⟩
 ·exact .inl ⟨h1,h2,a,h3⟩
 ·exact .inr ⟨h1,hc h1,h2⟩
theorem qm2 (hΓ:∀ f g,Γ.g f=some g→FnOk P f g) (hΛ:∀ f k L,Λ f k=some L→∀ b∈q00 P f,lkey b=k→q02 P b L.g) (n:Nat)
  (hT:∀ xs g,D.bd g→xs.length≤maxLen→(∀ p∈pre xs g,p)→(mTree P Γ Λ n f t A R xs (D.enc g)).Holds (·=fn xs g)):FnMut P f t A D R fn pre:=by
 intro w F L xs g v0 vs hF hE hFo hv0 hpre hrow hfit
 have hbd:=D.fb _ _ _ _ hfit
 have hT:=hT xs g hbd hrow.1 hpre
 let ρ0:Rh:=⟨fun _=>L,F,⟨F,fun _=>none⟩⟩
 have hg0:∀ i,(⟨1,[(0,.o (rowA A t xs))],[]⟩:SH).get i=if i=0 then rowA A t xs else .dead:=fun i=>by
  simp only[SH.get,lookE,SE.act]
  by_cases h:i=0
  ·subst h;rfl
  ·rw[if_neg h]
   have:Nat.beq i 0=false:=by
    cases hb:Nat.beq i 0 with
    | false=>rfl
    | true=>exact absurd (q03 hb) h
   rw[this];rfl
 have hm0:HM (ownB L) w ρ0 ⟨1,[(0,.o (rowA A t xs))],[]⟩ w:={
  os:=rfl
  tape:=rfl
  output:=rfl
  size:=Nat.le_refl _
  block:=fun _ _ _=>rfl
  lt:=fun i h=>by
   rw[hg0] at h
   by_cases hi:i=0
   ·subst hi;exact Nat.lt_succ_self _
   ·rw[if_neg hi] at h;cases h
  ob:=fun i=>by
   rw[hg0]
   by_cases hi:i=0
   ·rw[if_pos hi]
    exact qhc A (ρ:=emp F) (fun _ _ h=>h) hrow
   ·rw[if_neg hi];trivial
  ow:=fun i h=>by
   rw[hg0] at h
   by_cases hi:i=0
   ·rw[if_pos hi] at h
    exact .inr ⟨h,rfl⟩
   ·rw[if_neg hi] at h;exact h.elim
  fz:=hF
  sep:=fun i h=>by
   rw[hg0] at h
   by_cases hi:i=0
   ·rw[if_pos hi] at h
    exact hFo _ ⟨h,rfl⟩
   ·rw[if_neg hi] at h;exact h.elim
  old:=fun b o hb _ _=>hb
  env:=hE
  inj:=fun i j hi hj _=>by
   rw[hg0] at hi hj
   by_cases h1:i=0
   ·by_cases h2:j=0
    ·omega
    ·rw[if_neg h2] at hj;exact hj.elim
   ·rw[if_neg h1] at hi;exact hi.elim }
 have hcap:L.nl=false→xs.length≤L.cap:=fun hnl=>by
  rcases hrow.2 with ⟨h,_⟩ | ⟨_,_,_,_,_,_,_,h5,_⟩
  ·rw[hnl] at h;cases h
  ·exact h5
 have hargs:SV.fits 1 ρ0 (.ow 0 xs.length :: D.enc g) (v0 :: vs):=⟨ow_of_owv (Nat.lt_succ_self _) rfl hv0 hcap,D.cl g 0 1 (emp F) ρ0 vs (fun _ _ h=>h) hfit⟩
 have h0:=q94 hΓ hΛ n (ownB L) w w ρ0 ⟨1,[(0,.o (rowA A t xs))],[]⟩ _ (v0 :: vs) _ (Tr.holds_bind hT) hm0 hargs
 refine h0.mono ?_
 rintro e w' ⟨s,h',ρ',x,h1,h2,h3,h4,h5,rfl⟩
 have hρ0:ρ' 0=L:=h3.1 0 (Nat.lt_succ_self _)
 refine ⟨x,rfl,⟨h4.os,h4.tape,h4.output,h4.size,fun k hk hB=>h4.block k hk hB⟩,?_⟩
 simp only at h1
 split at h1
 ·rename_i t' sz el m hg
  split at h1
  ·rename_i hb
   simp only[Bool.and_eq_true] at hb
   have e1:=q03 hb.1
   have e2:=q03 hb.2
   subst e1;subst e2
   obtain ⟨hok,h1⟩:=q1d h1
   have hok:∀ e,e<m→A.Ok (el e):=A.okE_ok m el hok
   split at h1
   ·rename_i r ps hr
    obtain ⟨hps,h1⟩:=q1d h1
    have h1:(A.lstE m el,r)=fn xs g:=h1
    have hmem:∀ b o,ρ'.mem b=some o→memAt F w w' b=some o:=fun b o hb=>by
     unfold memAt
     split
     ·rename_i hlt
      by_cases hM:ownB L b
      ·exfalso
       have hs:=h4.sep 0
       rw[hg,hρ0] at hs
       rw[hM.2] at hb
       rw[hs hM.1] at hb
       cases hb
      ·have:=h4.old b o hb hlt hM
       rw[h3.2.2] at this
       exact this
     ·exact h4.fz b o hb
    have hob:=h4.ob 0
    rw[hg,hρ0] at hob
    rw[← h1]
    refine ⟨rowA_of A hmem hok hob,fun m' i ρ'' hmem' hi him=>?_⟩
    exact R.ok s r ps hr hps _ m' i ρ' ρ'' x (fun b o hb=>hmem' b o (hmem b o hb)) (by rw[hi,hρ0]) him h5
   ·exact h1.elim
  ·exact h1.elim
 ·exact h1.elim
def conM0 (t:TypeId) (A:El α) (D:DA γ) (R:RM δ) (fn:List α→γ→List α×δ) (pre:List α→γ→List Prop) (i l:Nat) (rest:List SV) (h:SH):Tr (SV×SH):=
 match h.get i with
 | .row t' sz el m=>match Nat.beq t' t&&Nat.beq sz A.sz with
  | true=>match D.dec rest with
   | some (g,ps)=>asks ((l=m) :: (A.okE m el++(ps++pre (A.lstE m el) g))) (.ret (R.enc i (fn (A.lstE m el) g).2,h.set i (rowA A t (fn (A.lstE m el) g).1)))
   | none=>.bad 653
  | false=>.bad 654
 | _=>.bad 655
def conM (t:TypeId) (A:El α) (D:DA γ) (R:RM δ) (fn:List α→γ→List α×δ) (pre:List α→γ→List Prop):Con:=fun args h=>
 match args with
 | .ow i l :: rest=>conM0 t A D R fn pre i l rest h
 | .k y :: rest=>match nilK y with
  | true=>conM0 t A D R fn pre h.nx 0 rest (h.push (.row t A.sz (.fn fun _=>[]) 0))
  | false=>.bad 656
 | _=>.bad 657
theorem qp0 (hp:FnMut P f t A D R fn pre) {M:Nat→Prop} {w0 w:World} {ρ:Rh} {h:SH} {i l:Nat} {rest:List SV} {v0:Value} {vs:List Value} {K:SV×SH→Prop} (hK:(conM0 t A D R fn pre i l rest h).Holds K) (hm:HM M w0 ρ h w)
  (h0:(SV.ow i l).fit h.nx ρ v0) (hr:SV.fits h.nx ρ rest vs):Calls P f (v0 :: vs).toArray w (qgw M w0 ρ h K):=by
 unfold conM0 at hK
 split at hK
 ·rename_i t' sz el m hg
  split at hK
  ·rename_i hb
   simp only[Bool.and_eq_true] at hb
   have e1:=q03 hb.1
   have e2:=q03 hb.2
   subst e1;subst e2
   split at hK
   ·rename_i g ps hd
    obtain ⟨hq,hK⟩:=q1d hK
    have hl:l=m:=hq _ (List.mem_cons_self ..)
    have hok:∀ e,e<m→A.Ok (el e):=A.okE_ok m el fun p h'=>hq p (List.mem_cons_of_mem _ (List.mem_append_left _ h'))
    have hps:∀ p∈ps,p:=fun p h'=>hq p (List.mem_cons_of_mem _ (List.mem_append_right _ (List.mem_append_left _ h')))
    have hpre:∀ p∈pre (A.lstE m el) g,p:=fun p h'=>hq p (List.mem_cons_of_mem _ (List.mem_append_right _ (List.mem_append_right _ h')))
    subst hl
    have hob:=hm.ob i
    rw[hg] at hob
    have hown:∀ b,ownB (ρ i) b→(h.get i).own (ρ i):=fun b hb=>by rw[hg];exact hb.1
    have hilt:i<h.nx:=h0.1
    have hrow:(rowA A t' (A.lstE l el)).fit 0 (emp ρ.mem) (ρ i) w.heap[(ρ i).blk]?:=rowA_of A (ρ:=ρ) (fun _ _ h=>h) hok hob
    have hv0:OwV (ρ i) (A.lstE l el).length v0:=by
     rw[A.lstE_eq,A.lst_length]
     rcases h0.2 with ⟨h1,h2,a,h3⟩ | ⟨h1,_,h3⟩
     ·exact .inl ⟨h1,h2,a,h3⟩
     ·exact .inr ⟨h1,h3⟩
    have hvs:=D.cl _ _ 0 ρ (emp ρ.mem) vs (fun _ _ h=>h) (D.ok _ _ _ _ _ _ hd hps hr)
    refine (hp w ρ.mem (ρ i) (A.lstE l el) g v0 vs hm.fz hm.env (fun b hb=>by rw[hb.2];exact hm.sep i (hown b hb)) hv0 hpre hrow hvs).mono ?_
    rintro e w' ⟨x,rfl,hbm,hrow',hx⟩
    have hmem:∀ b o,ρ.mem b=some o→memAt ρ.mem w w' b=some o:=fun b o ho=>by
     unfold memAt
     rw[if_pos (hm.lt_mem ho)];exact ho
    have hag:Agree h.nx ρ ⟨ρ.lc,memAt ρ.mem w w',ρ.lo⟩:=⟨fun _ _=>rfl,hmem,rfl⟩
    have hgs:∀ j,(h.set i (rowA A t' (fn (A.lstE l el) g).1)).get j=if j=i then rowA A t' (fn (A.lstE l el) g).1 else h.get j:=fun j=>SH.get_set _ _ _ _
    have hown':∀ j,((h.set i (rowA A t' (fn (A.lstE l el) g).1)).get j).own (ρ j)→(h.get j).own (ρ j):=fun j hj=>by
     rw[hgs] at hj
     by_cases hji:j=i
     ·subst hji;rw[if_pos rfl] at hj;rw[hg];exact hj
     ·rw[if_neg hji] at hj;exact hj
    have hunc:∀ k,k<w.heap.size→¬ ownB (ρ i) k→w'.heap[k]?=w.heap[k]?:=hbm.block
    refine ⟨_,_,⟨ρ.lc,memAt ρ.mem w w',ρ.lo⟩,x,hK,Nat.le_refl _,hag,?_,hx h.nx i _ (fun _ _ h=>h) rfl hilt,rfl⟩
    exact {
     os:=hbm.os.trans hm.os
     tape:=hbm.tape.trans hm.tape
     output:=hbm.output.trans hm.output
     size:=Nat.le_trans hm.size hbm.size
     block:=fun k hk hM=>by
      rw[hunc k (Nat.lt_of_lt_of_le hk hm.size) fun hB=>?_]
      ·exact hm.block k hk hM
      ·rcases hm.ow i (hown k hB) with h | h
       ·rw[← hB.2] at h;omega
       ·rw[← hB.2] at h;exact hM h
     lt:=fun j hj=>by
      rw[hgs] at hj
      by_cases hji:j=i
      ·subst hji;exact hilt
      ·rw[if_neg hji] at hj;exact hm.lt j hj
     ob:=fun j=>by
      rw[hgs]
      by_cases hji:j=i
      ·subst hji
       rw[if_pos rfl]
       exact qhc A (ρ:=emp (memAt ρ.mem w w')) (fun _ _ h=>h) hrow'
      ·rw[if_neg hji]
       refine SO.fit_mono (Nat.le_refl _) hag (hm.ob_other fun hj=>hunc _ (hm.lt_heap hj) fun hB=>?_)
       exact hm.ne_own (hown _ hB) hj hji hB.2
     ow:=fun j hj=>hm.ow j (hown' j hj)
     fz:=fun b o hb=>by
      simp only[memAt] at hb
      split at hb
      ·rename_i hlt
       rw[hunc b hlt fun hB=>?_]
       ·exact hm.fz b o hb
       ·have:=hm.sep i (hown b hB)
        rw[← hB.2,hb] at this
        cases this
      ·exact hb
     sep:=fun j hj=>by
      have h1:=hm.sep j (hown' j hj)
      have h2:=hm.lt_heap (hown' j hj)
      simp only[memAt]
      rw[if_pos h2];exact h1
     old:=fun b o hb hlt hM=>by
      simp only[memAt] at hb
      have hs:=hm.size
      rw[if_pos (by omega)] at hb
      exact hm.old b o hb hlt hM
     env:=Env.mono _ _ (fun b o hb _=>hmem b o hb) hm.env
     inj:=fun j k hj hk=>hm.inj j k (hown' j hj) (hown' k hk) }
   ·exact hK.elim
  ·exact hK.elim
 ·exact hK.elim
theorem qdq (hp:FnMut P f t A D R fn pre):FnOk P f (conM t A D R fn pre):=by
 intro M w0 w ρ h args vs K hK hm hfits
 unfold conM at hK
 split at hK
 ·rename_i i l rest
  obtain ⟨v0,r,rfl,h0,hr⟩:=q05 hfits
  exact qp0 hp hK hm h0 hr
 ·rename_i y rest
  obtain ⟨v0,r,rfl,h0,hr⟩:=q05 hfits
  split at hK
  ·rename_i hy
   have hm1:HM M w0 (upd ρ h.nx ⟨0,0,0,true⟩) (h.push (.row t A.sz (.fn fun _=>[]) 0)) w:=hm.learn ⟨Nat.zero_le _,.inl ⟨rfl,rfl⟩⟩ (fun h=>by cases h)
   have hy:=q6i hy
   subst hy
   simp only[SV.fit] at h0
   subst h0
   have:=qp0 hp hK hm1 (v0:=.slice none 0 0) (vs:=r) ⟨Nat.lt_succ_self _,.inl ⟨by simp[upd],rfl,_,rfl⟩⟩ (SV.fits_mono (Nat.le_succ _) (q0v _ _ _) _ _ hr)
   refine this.mono ?_
   rintro e w' ⟨s,h',ρ',x,h1,h2,h3,h4,h5,rfl⟩
   exact ⟨s,h',ρ',x,h1,by have:h.nx+1≤h'.nx:=h2;omega,(q0v ρ h.nx _).trans (Nat.le_succ _) h3,h4,h5,rfl⟩
  ·exact hK.elim
 ·exact hK.elim
theorem conM0_b {i l:Nat} {rest:List SV} {h:SH}:(conM0 t A D R fn pre i l rest h).Each fun y=>y.2.b=h.b:=by
 unfold conM0
 split
 ·split
  ·split
   ·exact q2l rfl
   ·trivial
  ·trivial
 ·trivial
def bconM (t:TypeId) (A:El α) (D:DA γ) (R:RM δ) (fn:List α→γ→List α×δ) (pre:List α→γ→List Prop):BCon:=⟨conM t A D R fn pre,fun args h=>by
 unfold conM
 split
 ·exact conM0_b
 ·split
  ·exact conM0_b (h:=h.push _)
  ·trivial
 ·trivial⟩
end
end Go.Sx
namespace Go.Sx
variable [Env]
structure MTab (P:Program) where
 p:PTab P
 m:{ l:List (Nat×BCon) // ∀ x∈l,FnOk P x.1 x.2.g }
section
variable {P:Program}
def MTab.of (t:PTab P):MTab P:=⟨t,⟨[],fun x h=>by simp at h⟩⟩
def MTab.cons (t:MTab P) (f:Nat) (c:PCon) (h:FnOk P f c.g):MTab P:=⟨t.p.cons f c h,t.m⟩
def MTab.consM (t:MTab P) (f:Nat) (c:BCon) (h:FnOk P f c.g):MTab P:=⟨t.p,⟨(f,c) :: t.m.1,fun x hx=>by
 rcases List.mem_cons.1 hx with rfl | hx
 ·exact h
 ·exact t.m.2 x hx⟩⟩
def MTab.gamz (t:MTab P) (zs:List (Nat×Nat)) (us:List (Nat×Nat×Nat)):Gam:=Go.Sx.gam t.p.1 t.m.1 zs us
theorem MTab.okz (t:MTab P) (zs:List (Nat×Nat)) (us:List (Nat×Nat×Nat)):∀ f g,(t.gamz zs us).g f=some g→FnOk P f g:=gam_ok t.p.2 t.m.2
theorem qcl {f t:Nat} {α γ δ:Type} {A:El α} {D:DA γ} {R:RM δ} {fn:List α→γ→List α×δ} {pre:List α→γ→List Prop} {Γ:Gam} {Λ:Lam}
  (hΓ:∀ f g,Γ.g f=some g→FnOk P f g) (hΛ:∀ f k L,Λ f k=some L→∀ b∈q00 P f,lkey b=k→q02 P b L.g) (n:Nat) (d:List α×δ) (S:List α→γ→Prop)
  (hS:∀ xs g,(mTree P Γ Λ n f t A R xs (D.enc g)).side=S xs g) (he:∀ xs g,(mTree P Γ Λ n f t A R xs (D.enc g)).ev d=fn xs g) (hs:∀ xs g,D.bd g→xs.length≤maxLen→(∀ p∈pre xs g,p)→S xs g):FnMut P f t A D R fn pre:=
 qm2 hΓ hΛ n fun xs g h1 h2 h3=>by
  have:=Tr.side_holds d (by rw[hS];exact hs xs g h1 h2 h3:(mTree P Γ Λ n f t A R xs (D.enc g)).side)
  rw[he xs g] at this
  exact this
def dFn (f:Nat):Dv Unit where
 dec s:=match s with
  | .fn f' []=>bif Nat.beq f f' then some ((),[]) else none
  | _=>none
 enc _:=.fn f []
 bd _:=True
 cl _ n m ρ ρ' x hm hf:=by
  obtain ⟨l,e,hl⟩:=hf
  have:=q0i hl
  subst this
  exact ⟨[],e,trivial⟩
 ok s a ps n ρ x hd hp hf:=by
  split at hd
  ·rename_i f'
   cases hb:Nat.beq f f' with
   | false=>rw[hb] at hd;cases hd
   | true=>
    rw[q03 hb];exact hf
  ·cases hd
 fb _ _ _ _ _:=trivial
end
end Go.Sx
namespace Go.Sx
variable [Env]
abbrev RM.T {δ:Type} (_:RM δ):Type:=δ
end Go.Sx

namespace Go.Sx
open Go.RowKit
variable [Env]
section
variable {P:Program} {Γ:Gam} {Λ:Lam} {f t:Nat} {γ γ' κ δ:Type} {C:El κ} {D:DA γ} {D':DA γ'} {R:Dv δ} {fn:γ→κ→γ'→κ×δ} {pre:γ→κ→γ'→List Prop}
end
end Go.Sx

namespace Go.Sx
open Go.RowKit
variable [Env]
theorem cl_pr {xs:List SV} (h:Cls xs):Cl (.pr xs):=by
 intro n m ρ ρ' x hm hf
 obtain ⟨b,o,cs,t,fz,k1,k2,vs,k3,k4⟩:=hf
 exact ⟨b,o,cs,t,fz,k1,hm _ _ k2,vs,h n m ρ ρ' vs hm k3,k4⟩
theorem cl_fn {f:Nat} {xs:List SV} (h:Cls xs):Cl (.fn f xs):=by
 intro n m ρ ρ' x hm hf
 obtain ⟨l,rfl,hl⟩:=hf
 exact ⟨l,rfl,h n m ρ ρ' l hm hl⟩
def dFn1 {α:Type} (f:Nat) (A:Dv α):Dv α where
 dec s:=match s with
  | .fn f' [.pr [s]]=>bif Nat.beq f f' then A.dec s else none
  | _=>none
 enc a:=.fn f [.pr [A.enc a]]
 bd:=A.bd
 cl a:=cl_fn (q7l (cl_pr (q7l (A.cl a) q9u)) q9u)
 ok s a ps n ρ x hd hp hf:=by
  split at hd
  ·rename_i f' s
   cases hb:Nat.beq f f' with
   | false=>rw[hb] at hd;cases hd
   | true=>
    rw[hb] at hd
    rw[q03 hb]
    obtain ⟨l,rfl,hl⟩:=hf
    refine ⟨l,rfl,?_⟩
    obtain ⟨y,r,rfl,hy,hr⟩:=q05 hl
    refine ⟨?_,hr⟩
    obtain ⟨b,o,cs,t,fz,k1,k2,vs,k3,k4⟩:=hy
    obtain ⟨z,r',rfl,hz,hr'⟩:=q05 k3
    exact ⟨b,o,cs,t,fz,k1,k2,z :: r',⟨A.ok _ _ _ _ _ _ hd hp hz,hr'⟩,k4⟩
  ·cases hd
 fb a n ρ x hf:=by
  obtain ⟨l,rfl,hl⟩:=hf
  obtain ⟨y,r,rfl,hy,hr⟩:=q05 hl
  obtain ⟨b,o,cs,t,fz,k1,k2,vs,k3,k4⟩:=hy
  obtain ⟨z,r',rfl,hz,hr'⟩:=q05 k3
  exact A.fb _ _ _ _ hz
def dFnE {α:Type} (f:Nat) (A:El α):Dv α where
 dec s:=match s with
  | .fn f' [.pr l]=>bif Nat.beq f f' then A.decs l else none
  | _=>none
 enc a:=.fn f [.pr (A.cells a)]
 bd:=A.bd
 cl a:=cl_fn (q7l (cl_pr (A.cl a)) q9u)
 ok s a ps n ρ x hd hp hf:=by
  split at hd
  ·rename_i f' s
   cases hb:Nat.beq f f' with
   | false=>rw[hb] at hd;cases hd
   | true=>
    rw[hb] at hd
    rw[q03 hb]
    obtain ⟨l,rfl,hl⟩:=hf
    refine ⟨l,rfl,?_⟩
    obtain ⟨y,r,rfl,hy,hr⟩:=q05 hl
    refine ⟨?_,hr⟩
    obtain ⟨b,o,cs,t,fz,k1,k2,vs,k3,k4⟩:=hy
    exact ⟨b,o,cs,t,fz,k1,k2,vs,A.ok _ _ _ _ _ _ hd hp k3,k4⟩
  ·cases hd
 fb a n ρ x hf:=by
  obtain ⟨l,rfl,hl⟩:=hf
  obtain ⟨y,r,rfl,hy,hr⟩:=q05 hl
  obtain ⟨b,o,cs,t,fz,k1,k2,vs,k3,k4⟩:=hy
  exact A.fb _ _ _ _ k3
end Go.Sx

namespace Go.Sx
open Go.RowKit
variable [Env]
structure Vwd (M:Nat→Prop) (w0:World) (ρ:Rh) (h:SH) (w:World) (G:Nat→Option Obj):Prop where
 hm:HM M w0 ρ h w
 hG:∀ b o,ρ.mem b=some o→G b=some o
 hO:∀ i o,(h.get i).own (ρ i)→w.heap[(ρ i).blk]?=some o→G (ρ i).blk=some o
structure Rv (δ:Type) where
 D:Dv δ
 dec:SH→SV→Option (δ×List Prop)
 ok:∀ {M:Nat→Prop} {w0:World} {ρ:Rh} {h:SH} {w:World} {G:Nat→Option Obj},Vwd M w0 ρ h w G→∀ {s:SV} {r:δ} {ps:List Prop} {x:Value},dec h s=some (r,ps)→(∀ p∈ps,p)→s.fit h.nx ρ x→(D.enc r).fit h.nx ⟨ρ.lc,G,ρ.lo⟩ x
abbrev Rv.T {δ:Type} (_:Rv δ):Type:=δ
def Rv.of {δ:Type} (D:Dv δ):Rv δ where
 D:=D
 dec h s:=match D.dec (vw2 h s).1 with
  | some (r,ps)=>some (r,(vw2 h s).2++ps)
  | none=>none
 ok {_ _ _ _ _ _} hv {_ _ _ _} hd hp hf:=by
  split at hd
  ·rename_i r ps hr
   simp only[Option.some.injEq,Prod.mk.injEq] at hd
   obtain ⟨rfl,rfl⟩:=hd
   exact D.ok _ _ _ _ _ _ hr (fun p h'=>hp p (List.mem_append_right _ h')) (vw2_ok hv.hm hv.hG hv.hO hf fun p h'=>hp p (List.mem_append_left _ h'))
  ·cases hd
def Rv.list {α:Type} (A:El α):Rv (List α) where
 D:=.list A
 dec h s:=match s with
  | .ow i l=>match h.get i with
   | .row _ sz el m=>bif Nat.beq sz A.sz then some (A.lstE l el,(l≤m) :: A.okE l el) else none
   | _=>none
  | .se i sz o l=>match h.get i with
   | .row _ s el m=>bif Nat.beq s sz&&Nat.beq sz A.sz then some (A.lstE l (.sh o el),(o+l≤m) :: A.okE l (.sh o el)) else none
   | _=>none
  | s=>(Rv.of (.list A)).dec h s
 ok {M w0 ρ h w G} hv {s r ps x} hd hp hf:=by
  split at hd
  ·rename_i i l
   split at hd
   ·rename_i t sz el m hg
    cases hb:Nat.beq sz A.sz with
    | false=>rw[hb] at hd;cases hd
    | true=>
     rw[hb] at hd
     simp only[cond_true,Option.some.injEq,Prod.mk.injEq] at hd
     obtain ⟨rfl,rfl⟩:=hd
     have e0:vw0 h (.ow i l)=(.rs sz l el,[l≤m]):=by simp only[vw0,hg]
     have h1:=qnf hv.hm hv.hG hv.hO hf (by rw[e0];intro p hp';simp only[List.mem_singleton] at hp';subst hp';exact hp _ (List.mem_cons_self ..))
     rw[e0] at h1
     rw[A.lstE_eq]
     exact (Dv.list A).ok (.rs sz l el.at) _ [∀ e,e<l→A.Ok (el.at e)] _ _ _ (by simp[Dv.list,hb]) (by
      intro p hp'
      simp only[List.mem_singleton] at hp'
      subst hp'
      exact A.okE_ok l el fun p h'=>hp p (List.mem_cons_of_mem _ h')) h1
   ·cases hd
  ·rename_i i sz o l
   split at hd
   ·rename_i t s el m hg
    cases hb:(Nat.beq s sz&&Nat.beq sz A.sz) with
    | false=>rw[hb] at hd;cases hd
    | true=>
     rw[hb] at hd
     simp only[cond_true,Option.some.injEq,Prod.mk.injEq] at hd
     obtain ⟨rfl,rfl⟩:=hd
     simp only[Bool.and_eq_true] at hb
     have e0:vw0 h (.se i sz o l)=(.rs sz l (ElE.sh o el),[o+l≤m]):=by simp only[vw0,hg,hb.1,cond_true]
     have h1:=qnf hv.hm hv.hG hv.hO hf (by rw[e0];intro p hp';simp only[List.mem_singleton] at hp';subst hp';exact hp _ (List.mem_cons_self ..))
     rw[e0] at h1
     rw[A.lstE_eq]
     exact (Dv.list A).ok (.rs sz l (ElE.sh o el).at) _ [∀ e,e<l→A.Ok ((ElE.sh o el).at e)] _ _ _ (by simp[Dv.list,hb.2]) (by
      intro p hp'
      simp only[List.mem_singleton] at hp'
      subst hp'
      exact A.okE_ok l (ElE.sh o el) fun p h'=>hp p (List.mem_cons_of_mem _ h')) h1
   ·cases hd
  ·exact (Rv.of (.list A)).ok hv hd hp hf
structure RvA (γ:Type) where
 D:DA γ
 dec:SH→List SV→Option (γ×List Prop)
 ok:∀ {M:Nat→Prop} {w0:World} {ρ:Rh} {h:SH} {w:World} {G:Nat→Option Obj},Vwd M w0 ρ h w G→∀ {s:List SV} {r:γ} {ps:List Prop} {x:List Value},dec h s=some (r,ps)→(∀ p∈ps,p)→SV.fits h.nx ρ s x→SV.fits h.nx ⟨ρ.lc,G,ρ.lo⟩ (D.enc r) x
def RvA.one {α:Type} (R:Rv α):RvA α where
 D:=.one R.D
 dec h l:=match l with
  | [s]=>R.dec h s
  | _=>Option.none
 ok {_ _ _ _ _ _} hv {s r ps x} hd hp hf:=by
  split at hd
  ·obtain ⟨y,r',rfl,hy,hr⟩:=q05 hf
   have:=q0i hr
   subst this
   exact ⟨R.ok hv hd hp hy,trivial⟩
  ·cases hd
def RvA.cons {α γ:Type} (R:Rv α) (A:RvA γ):RvA (α×γ) where
 D:=.cons R.D A.D
 dec h l:=match l with
  | s :: r=>match R.dec h s with
   | some (a,ps)=>match A.dec h r with
    | some (g,qs)=>some ((a,g),ps++qs)
    | Option.none=>Option.none
   | Option.none=>Option.none
  | []=>Option.none
 ok {_ _ _ _ _ _} hv {s r ps x} hd hp hf:=by
  split at hd
  ·rename_i s r
   split at hd
   ·rename_i a ps0 h1
    split at hd
    ·rename_i g0 qs0 h2
     simp only[Option.some.injEq,Prod.mk.injEq] at hd
     obtain ⟨rfl,rfl⟩:=hd
     obtain ⟨y,r',rfl,hy,hr⟩:=q05 hf
     exact ⟨R.ok hv h1 (fun p hp'=>hp p (List.mem_append_left _ hp')) hy,A.ok hv h2 (fun p hp'=>hp p (List.mem_append_right _ hp')) hr⟩
    ·cases hd
   ·cases hd
  ·cases hd
def Rv.tup {γ:Type} (A:RvA γ):Rv γ where
 D:=.tup A.D
 dec h s:=match s with
  | .tup l=>A.dec h l
  | _=>none
 ok {_ _ _ _ _ _} hv {s r ps x} hd hp hf:=by
  split at hd
  ·obtain ⟨v,rfl,hv'⟩:=hf
   exact ⟨v,rfl,A.ok hv hd hp hv'⟩
  ·cases hd
def rTree {δ:Type} (P:Program) (Γ:Gam) (Λ:Lam) (n f:Nat) (args:List SV) (R:Rv δ):Tr δ:=
 (qkn P Γ Λ n f args ⟨0,[],[]⟩).bind fun y=>match R.dec y.2 y.1 with
  | some (r,ps)=>asks ps (.ret r)
  | none=>.bad 620
section
variable {P:Program} {Γ:Gam} {Λ:Lam} {f:Nat} {γ δ:Type} {D:DA γ} {R:Rv δ} {fn:γ→δ} {pre:γ→List Prop}
theorem qlq (hΓ:∀ f g,Γ.g f=some g→FnOk P f g) (hΛ:∀ f k L,Λ f k=some L→∀ b∈q00 P f,lkey b=k→q02 P b L.g) (n:Nat)
  (hT:∀ g,D.bd g→(∀ p∈pre g,p)→(rTree P Γ Λ n f (D.enc g) R).Holds (·=fn g)):q04 P f D R.D fn pre:=by
 intro w F g vs hF hE hpre hfit
 have hbd:=D.fb _ _ _ _ hfit
 have hT:=hT g hbd hpre
 have h0:=q94 hΓ hΛ n (fun _=>False) w w (emp F) ⟨0,[],[]⟩ _ vs _ (Tr.holds_bind hT) (HM.start w (emp F) hF (fun _ _ h=>h) hE) hfit
 refine h0.mono ?_
 rintro e w' ⟨s,h',ρ',x,h1,h2,h3,h4,h5,rfl⟩
 refine ⟨x,rfl,h4.toBelow,?_⟩
 simp only at h1
 have hv:Vwd (fun _=>False) w ρ' h' w' (memAt F w w'):={
  hm:=h4
  hG:=fun b o hb=>by
   unfold memAt
   split
   ·rename_i hlt
    have:=h4.old b o hb hlt (fun h=>h)
    rw[h3.2.2] at this
    exact this
   ·exact h4.fz b o hb
  hO:=fun i o hown ho=>by
   unfold memAt
   rcases h4.ow i hown with h | h
   ·rw[if_neg (by omega)];exact ho
   ·exact h.elim }
 split at h1
 ·rename_i r ps hr
  obtain ⟨hq,h1⟩:=q1d h1
  have h1:r=fn g:=h1
  have:=R.ok hv hr hq h5
  rw[h1] at this
  exact R.D.cl _ _ 0 ⟨ρ'.lc,memAt F w w',ρ'.lo⟩ (emp (memAt F w w')) x (fun _ _ h=>h) this
 ·exact h1.elim
theorem q1a (hΓ:∀ f g,Γ.g f=some g→FnOk P f g) (hΛ:∀ f k L,Λ f k=some L→∀ b∈q00 P f,lkey b=k→q02 P b L.g) (n:Nat) (d:δ) (S:γ→Prop)
  (hS:∀ g,(rTree P Γ Λ n f (D.enc g) R).side=S g) (he:∀ g,(rTree P Γ Λ n f (D.enc g) R).ev d=fn g) (hs:∀ g,D.bd g→(∀ p∈pre g,p)→S g):q04 P f D R.D fn pre:=
 qlq hΓ hΛ n fun g h1 h2=>by
  have:=Tr.side_holds d (by rw[hS];exact hs g h1 h2:(rTree P Γ Λ n f (D.enc g) R).side)
  rw[he g] at this
  exact this
end
end Go.Sx

namespace Go.Sx
open Go.RowKit
variable [Env]
def LP.seS (N i id sz:Nat):LP N (Nat×Nat) where
 R:=0
 read σ:=match σ.slot i with
  | .se j s o l=>bif Nat.beq j id&&(Nat.beq s sz&&Nat.blt id N) then some ((o,l),[],[]) else none
  | _=>none
 ents _ g:=[(i,.se id sz g.1 g.2)]
 blks _ _:=[]
 objs _ _:=[]
 es:=[i]
 os:=[]
 eseq _ _:=rfl
 oseq _ _:=rfl
 blen _ _:=rfl
 ilen σ g ps ids h:=by
  split at h
  ·rename_i j s o l _
   cases hb:(Nat.beq j id&&(Nat.beq s sz&&Nat.blt id N)) with
   | false=>rw[hb] at h;cases h
   | true=>
    rw[hb] at h
    simp only[cond_true,Option.some.injEq,Prod.mk.injEq] at h;rw[← h.2.2];rfl
  ·cases h
 ok k0 σ g ps ids h hp:=by
  split at h
  ·rename_i j s o l hs
   cases hb:(Nat.beq j id&&(Nat.beq s sz&&Nat.blt id N)) with
   | false=>rw[hb] at h;cases h
   | true=>
    rw[hb] at h
    simp only[cond_true,Option.some.injEq,Prod.mk.injEq] at h
    obtain ⟨rfl,rfl,rfl⟩:=h
    simp only[Bool.and_eq_true] at hb
    have e1:=q03 hb.1
    have e2:=q03 hb.2.1
    have hlt:=Nat.le_of_ble_eq_true hb.2.2
    subst e1;subst e2
    refine ⟨fun k so h=>by simp at h,fun id' so h=>by simp at h,fun i' s' h=>?_⟩
    simp only[List.mem_singleton,Prod.mk.injEq] at h
    obtain ⟨rfl,rfl⟩:=h
    refine qfv (fun n ρ x hx=>by rw[hs] at hx;exact hx) fun n m ρ ρ' x hm ha hf=>?_
    obtain ⟨_,a,c,h1,h2,h3,h4⟩:=hf
    exact ⟨by omega,a,c,h1,h2,h3,fun hl=>by rw[ha.1 _ hlt];exact h4 hl⟩
  ·cases h
def LP.owB (N i id:Nat):LP N (Bool×Nat) where
 R:=0
 read σ:=match σ.slot i with
  | .ow j l=>bif Nat.beq j id&&Nat.blt id N then some ((true,l),[],[]) else some ((false,0),[],[])
  | .opt b (.ow j l)=>bif Nat.beq j id&&Nat.blt id N then some ((b,l),[],[]) else some ((false,0),[],[])
  | _=>some ((false,0),[],[])
 ents _ g:=[(i,.opt g.1 (.ow id g.2))]
 blks _ _:=[]
 objs _ _:=[]
 es:=[i]
 os:=[]
 eseq _ _:=rfl
 oseq _ _:=rfl
 blen _ _:=rfl
 ilen σ g ps ids h:=by
  split at h
  ·rename_i j l _
   cases hb:Nat.beq j id&&Nat.blt id N with
   | false=>rw[hb] at h;simp only[cond_false,Option.some.injEq,Prod.mk.injEq] at h;rw[← h.2.2];rfl
   | true=>rw[hb] at h;simp only[cond_true,Option.some.injEq,Prod.mk.injEq] at h;rw[← h.2.2];rfl
  ·rename_i b j l _
   cases hb:Nat.beq j id&&Nat.blt id N with
   | false=>rw[hb] at h;simp only[cond_false,Option.some.injEq,Prod.mk.injEq] at h;rw[← h.2.2];rfl
   | true=>rw[hb] at h;simp only[cond_true,Option.some.injEq,Prod.mk.injEq] at h;rw[← h.2.2];rfl
  ·simp only[Option.some.injEq,Prod.mk.injEq] at h;rw[← h.2.2];rfl
 ok k0 σ g ps ids h hp:=by
  have hu:Rel N k0 σ [] [(i,.opt false (.ow id 0))] [] []:=⟨fun k so h=>by simp at h,fun id so h=>by simp at h,fun q s h=>by
   simp only[List.mem_singleton,Prod.mk.injEq] at h
   obtain ⟨rfl,rfl⟩:=h
   exact qfv (fun _ _ _ _ h=>(by cases h)) (fun _ _ _ _ _ _ _ _ h=>(by cases h))⟩
  have hw:∀ (b:Bool) (l:Nat),id<N→(∀ n ρ x,(σ.slot i).fit n ρ x→(SV.opt b (.ow id l)).fit n ρ x)→Rel N k0 σ [] [(i,.opt b (.ow id l))] [] []:=fun b l hlt hs=>
   ⟨fun k so h=>by simp at h,fun id so h=>by simp at h,fun q s h=>by
    simp only[List.mem_singleton,Prod.mk.injEq] at h
    obtain ⟨rfl,rfl⟩:=h
    refine qfv hs fun n m ρ ρ' x hm ha hf hb=>?_
    obtain ⟨_,hf⟩:=hf hb
    exact ⟨by omega,by rw[ha.1 _ hlt];exact hf⟩⟩
  split at h
  ·rename_i j l hs
   cases hb:Nat.beq j id&&Nat.blt id N with
   | false=>
    rw[hb] at h
    simp only[cond_false,Option.some.injEq,Prod.mk.injEq] at h
    obtain ⟨rfl,rfl,rfl⟩:=h
    exact hu
   | true=>
    rw[hb] at h
    simp only[Bool.and_eq_true] at hb
    have e1:=q03 hb.1
    have hlt:id<N:=Nat.le_of_ble_eq_true hb.2
    subst e1
    simp only[cond_true,Option.some.injEq,Prod.mk.injEq] at h
    obtain ⟨rfl,rfl,rfl⟩:=h
    exact hw _ _ hlt fun n ρ x hf _=>by rw[hs] at hf;exact hf
  ·rename_i b j l hs
   cases hb:Nat.beq j id&&Nat.blt id N with
   | false=>
    rw[hb] at h
    simp only[cond_false,Option.some.injEq,Prod.mk.injEq] at h
    obtain ⟨rfl,rfl,rfl⟩:=h
    exact hu
   | true=>
    rw[hb] at h
    simp only[Bool.and_eq_true] at hb
    have e1:=q03 hb.1
    have hlt:id<N:=Nat.le_of_ble_eq_true hb.2
    subst e1
    simp only[cond_true,Option.some.injEq,Prod.mk.injEq] at h
    obtain ⟨rfl,rfl,rfl⟩:=h
    exact hw _ _ hlt fun n ρ x hf=>by rw[hs] at hf;exact hf
  ·simp only[Option.some.injEq,Prod.mk.injEq] at h
   obtain ⟨rfl,rfl,rfl⟩:=h
   exact hu
def q1r (a b:Code):Prop:=a=b
def fixT (N:Nat) (t:List (Nat×SV)):List (Nat×SV)→Bool
 | []=>true
 | (i,v) :: r=>litEq N (look (.k undef) i t) v&&fixT N t r
theorem fixT_ok {N:Nat} {t:List (Nat×SV)}:∀ {l:List (Nat×SV)},fixT N t l=true→∀ i v,(i,v)∈l→look (.k undef) i t=v∧Bl N v
 | [],_,_,_,h=>by simp at h
 | (j,u) :: r,h,i,v,hm=>by
  simp only[fixT,Bool.and_eq_true] at h
  rcases List.mem_cons.1 hm with he | hm
  ·simp only[Prod.mk.injEq] at he
   obtain ⟨rfl,rfl⟩:=he
   exact qo9 h.1
  ·exact fixT_ok h.2 i v hm
def restU (n:Nat):List (Nat×SV):=(List.range n).map fun i=>(i,.u)
theorem qpx {n i:Nat} (h:i<n):look (.k undef) i (restU n)=.u:=by
 rcases q85 (.k undef) i (restU n) with h1 | h1
 ·obtain ⟨j,_,e⟩:=List.mem_map.1 h1
  simp only[Prod.mk.injEq] at e
  exact e.2.symm
 ·exact absurd (by simp only[restU,List.map_map];simpa using h) h1
def LP.loopO (N id n:Nat) (fx:List (Nat×SV)) (ps:Array Tmp) (asg body:Code) (df:Nat):LP N (LoopState×Option Code) where
 R:=0
 read σ:=match σ.h.get id with
  | .loop st pd n' t ps' asg' body' df'=>bif Nat.beq n' n&&(Nat.beq df' df&&(Nat.blt df N&&(decide (ps'=ps)&&fixT N t fx))) then some ((st,pd),[q1r asg' asg,q1r body' body],[]) else none
  | _=>none
 ents _ _:=[]
 blks _ _:=[]
 objs _ g:=[(id,.loop g.1 g.2 n (fx++restU n) ps asg body df)]
 es:=[]
 os:=[id]
 eseq _ _:=rfl
 oseq _ _:=rfl
 blen _ _:=rfl
 ilen σ g ps' ids h:=by
  split at h
  ·rename_i st pd n' t ps'' asg' body' df' _
   cases hb:(Nat.beq n' n&&(Nat.beq df' df&&(Nat.blt df N&&(decide (ps''=ps)&&fixT N t fx)))) with
   | false=>rw[hb] at h;cases h
   | true=>rw[hb] at h;simp only[cond_true,Option.some.injEq,Prod.mk.injEq] at h;rw[← h.2.2];rfl
  ·cases h
 ok k0 σ g ps' ids h hp:=by
  split at h
  ·rename_i st pd n' t ps'' asg' body' df' hg
   cases hb:(Nat.beq n' n&&(Nat.beq df' df&&(Nat.blt df N&&(decide (ps''=ps)&&fixT N t fx)))) with
   | false=>rw[hb] at h;cases h
   | true=>
    rw[hb] at h
    simp only[cond_true,Option.some.injEq,Prod.mk.injEq] at h
    obtain ⟨rfl,rfl,rfl⟩:=h
    simp only[Bool.and_eq_true,decide_eq_true_eq] at hb
    obtain ⟨h1,h2,h3,h4,h5⟩:=hb
    have e1:=q03 h1
    have e2:=q03 h2
    subst e1;subst e2;subst h4
    have hlt:df'<N:=Nat.le_of_ble_eq_true h3
    have c1:asg'=asg:=hp _ (List.mem_cons_self ..)
    have c2:body'=body:=hp _ (List.mem_cons_of_mem _ (List.mem_cons_self ..))
    subst c1;subst c2
    refine ⟨fun k so h=>by simp at h,fun id' so h=>?_,fun j s h=>by simp at h⟩
    simp only[List.mem_singleton,Prod.mk.injEq] at h
    obtain ⟨rfl,rfl⟩:=h
    rw[hg]
    refine ⟨fun _ h=>h,fun n m ρ ρ' L o hr hf=>?_⟩
    have hNm:N≤m:=by have:=hr.le;omega
    have hag:=hr.ag
    obtain ⟨f1,f2,f,tm,f3,f4,f5⟩:=hf
    refine ⟨f1,by omega,f,tm,by rw[hag.1 _ hlt];exact f3,f4,fun i hi=>?_⟩
    have h6:=f5 i hi
    rw[q2p]
    rcases q85 (look (.k undef) i (restU n')) i fx with h7 | h7
    ·obtain ⟨e,hbl⟩:=fixT_ok h5 _ _ h7
     rw[e] at h6
     exact hbl _ _ _ _ _ hNm hag h6
    ·rw[q1y _ _ h7,qpx hi]
     trivial
  ·cases h
section
variable {P:Program} {Γ:Gam} {Λ:Lam} {N:Nat} {γ:Type}
end
theorem q0b {γ δ:Type} {P:Program} {f:Nat} {D:DA γ} {R:Dv δ} {fn fn':γ→δ} {pre:γ→List Prop} (h:q04 P f D R fn pre) (e:∀ g,D.bd g→(∀ p∈pre g,p)→fn g=fn' g):q04 P f D R fn' pre:=by
 intro w F g vs h1 hE h2 h3
 refine (h w F g vs h1 hE h2 h3).mono ?_
 rintro e' w' ⟨x,k1,k2,k3⟩
 rw[e g (D.fb _ _ _ _ h3) h2] at k3
 exact ⟨x,k1,k2,k3⟩
end Go.Sx

namespace Go.Sx
noncomputable section
variable [Env]
def q3c:Code→List (Array Tmp×Code×Code)
 | .seq a b=>q3c a++q3c b
 | .cond _ a b=>q3c a++q3c b
 | .block _ c=>q3c c
 | .scope c=>q3c c
 | .loop c=>q3c c
 | .rangeFunc _ ps a b=>(ps,a,b) :: (q3c a++q3c b)
 | _=>[]
def q0f (P:Program) (f k:Nat):Array Tmp×Code×Code:=
 match P.funcs[f]? with
 | some fn=>match fn.body with
  | some c=>((q3c c)[k]?).getD (#[],.skip,.skip)
  | none=>(#[],.skip,.skip)
 | none=>(#[],.skip,.skip)
def LP.rf (N id:Nat) (P:Program) (f k n:Nat) (fx:List (Nat×SV)) (df:Nat):LP N (LoopState×Option Code):=
 LP.loopO N id n fx (q0f P f k).1 (q0f P f k).2.1 (q0f P f k).2.2 df
def pdB:Option Code→Option Code→Bool
 | none,none=>true
 | some .ret,some .ret=>true
 | some (.exit a),some (.exit b)=>Nat.beq a b
 | some (.goto a),some (.goto b)=>Nat.beq a b
 | _,_=>false
def qou {γ:Type} (x:Ex×γ):List ((Ex×γ→Bool)×Ex×(γ→γ))→Tr (Ex×γ)
 | []=>.bad 645
 | [(_,e,s)]=>.ret (e,s x.2)
 | (t,e,s) :: y :: r=>.br (t x) (.ret (e,s x.2)) (qou x (y :: r))
def q5k {γ:Type} (x:Ex×γ):List ((Ex×γ→Bool)×Ex×(γ→γ))→Prop
 | []=>False
 | [(_,e,s)]=>x.1=e∧s x.2=x.2
 | (t,e,s) :: y :: r=>(t x=true→x.1=e∧s x.2=x.2)∧(t x=false→q5k x (y :: r))
theorem qab {γ:Type} {x:Ex×γ} {K:Ex×γ→Prop}:∀ {l:List ((Ex×γ→Bool)×Ex×(γ→γ))},q5k x l→(qou x l).Holds K→K x
 | [],h,_=>h.elim
 | [(_,e,s)],h,hk=>by
  obtain ⟨h1,h2⟩:=h
  have hk:K (e,s x.2):=hk
  rw[← h1,h2] at hk
  exact hk
 | (t,e,s) :: y :: r,h,hk=>by
  cases hb:t x with
  | true=>
   obtain ⟨h1,h2⟩:=h.1 hb
   have hk:K (e,s x.2):=hk.1 hb
   rw[← h1,h2] at hk
   exact hk
  | false=>exact qab (l:=y :: r) (h.2 hb) (hk.2 hb)
section
variable {P:Program} {Γ:Gam} {Λ:Lam} {N:Nat} {γ:Type}
def qk4 (es:List ((Ex×γ→Bool)×Ex×(γ→γ))) (body:Code) (A:LP N γ) (DL:List Nat) (n0:Nat) (Inv:γ→List Prop) (F:γ→Ex×γ) (m:γ→Nat):LCon:=loopC body A DL n0 Inv fun g=>qou (loopF F m g) es
theorem q8v (ι:γ→γ) (hΓ:∀ f g,Γ.g f=some g→FnOk P f g) (hΛ:∀ f k L,Λ f k=some L→∀ b∈q00 P f,lkey b=k→q02 P b L.g) (n f key n0:Nat) (A:LP N γ) (DL:List Nat) (Inv:γ→List Prop) (F:γ→Ex×γ) (S:γ→Prop) (m:γ→Nat) (d:Ex×γ) (es:List ((Ex×γ→Bool)×Ex×(γ→γ)))
  (hu:((q00 P f).filter fun c=>Nat.beq (lkey c) key).length=1)
  (hS:∀ (rd:Option Nat) (T B:List (Nat×SV)) (HL HB:List (Nat×SE)) (ds:List Nat) (g:γ),(bT P Γ Λ n f none (loopBody P f key) A DL n0 ⟨n0,T,⟨N,HL,HB⟩,DL,B⟩ ds (ι g)).side=S g)
  (hF:∀ (rd:Option Nat) (T B:List (Nat×SV)) (HL HB:List (Nat×SE)) (ds:List Nat) (g:γ),(bT P Γ Λ n f none (loopBody P f key) A DL n0 ⟨n0,T,⟨N,HL,HB⟩,DL,B⟩ ds (ι g)).ev d=F g)
  (hι:∀ g,allP (Inv g)→ι g=g) (hs:∀ g,allP (Inv g)→S g) (hg:Goes F m fun g=>allP (Inv g)) (hes:∀ g,(F g).1=.normal∨q5k (F g) es):∀ b∈q00 P f,lkey b=key→q02 P b (qk4 es (loopBody P f key) A DL n0 Inv F m).g:=by
 refine loop_ok hΓ hΛ n f key n0 A DL Inv _ m hu ?_
 intro rd T B HL HB ds g hi K hK
 have h1:(bT P Γ Λ n f none (loopBody P f key) A DL n0 ⟨n0,T,⟨N,HL,HB⟩,DL,B⟩ ds (ι g)).side:=by rw[hS none];exact hs g hi
 have h2:=Tr.side_holds d h1
 rw[hF none,hι g hi] at h2
 refine Tr.mono ?_ h2
 rintro _ rfl
 have hK0:=hK
 have hx:q5k (loopF F m g) es:=q17 hg (Q:=fun _ r=>q5k r es) (fun g _ hn=>(hes g).resolve_left hn) (fun _ _ _ _ _ _ _ ih=>ih) g hi
 have hK:K (loopF F m g):=qab hx hK
 unfold StepP
 split
 ·rename_i he
  obtain ⟨k1,k2⟩:=hg g hi he
  refine ⟨k1,k2,?_⟩
  show (qou (loopF F m (F g).2) es).Holds K
  rw[← q7c hg hi (g':=(F g).2) (by rw[← he])]
  exact hK0
 ·rename_i he
  rw[q8w (by intro h;exact he h)] at hK
  exact hK
end
def Rv.fn1 {α:Type} (f:Nat) (R:Rv α):Rv α where
 D:=dFn1 f R.D
 dec h s:=match s with
  | .fn f' [.p i 0]=>match Nat.beq f f' with
   | true=>match h.get i with
    | .cells [s'] _=>R.dec h s'
    | _=>none
   | false=>none
  | _=>none
 ok {M w0 ρ h w G} hv {s r ps x} hd hp hf:=by
  split at hd
  ·rename_i f' i
   split at hd
   ·rename_i hb
    split at hd
    ·rename_i s' t hg
     have e1:=q03 hb
     subst e1
     obtain ⟨l,rfl,hl⟩:=hf
     obtain ⟨y,r',rfl,hy,hr⟩:=q05 hl
     have:=q0i hr
     subst this
     obtain ⟨_,rfl⟩:=hy
     have hob:=hv.hm.ob i
     have hown:=hv.hO i
     rw[hg] at hob hown
     obtain ⟨_,hz,v,hv',hfv⟩:=hob
     obtain ⟨z,r'',rfl,hz',hr''⟩:=q05 hfv
     have:=q0i hr''
     subst this
     refine ⟨_,rfl,⟨(ρ i).blk,(ρ i).off+0,_,_,_,rfl,hown _ trivial hv',[z],⟨R.ok hv hd hp hz',trivial⟩,fun j v hj=>?_⟩,trivial⟩
     cases j with
     | zero=>simpa [hz] using hj
     | succ j=>simp at hj
    ·cases hd
   ·cases hd
  ·cases hd
end
end Go.Sx

namespace Go.Sx
variable [Env]
section
variable {α:Type} (A:El α)
def El.ag (l:List α):List α:=A.lst l.length (A.els l)
def El.okL (l:List α):Prop:=∀ e,e<l.length→A.Ok (A.els l e)
@[simp] theorem El.ag_eq (l:List α):A.ag l=l:=A.lst_els l
@[simp] theorem El.okL_eq (l:List α):A.okL l=True:=eq_true fun e _=>A.ok_els l e
end
end Go.Sx

namespace Go.Sx
open Go.RowKit
variable [Env]
def dPr {α:Type} (A:El α):Dv α where
 dec s:=match s with
  | .pr l=>A.decs l
  | _=>none
 enc a:=.pr (A.cells a)
 bd:=A.bd
 cl a:=cl_pr (A.cl a)
 ok s a ps n ρ x hd hp hf:=by
  split at hd
  ·obtain ⟨b,o,cs,t,fz,k1,k2,vs,k3,k4⟩:=hf
   exact ⟨b,o,cs,t,fz,k1,k2,vs,A.ok _ _ _ _ _ _ hd hp k3,k4⟩
  ·cases hd
 fb a n ρ x hf:=by
  obtain ⟨b,o,cs,t,fz,k1,k2,vs,k3,k4⟩:=hf
  exact A.fb _ _ _ _ k3
def dFnA {γ:Type} (f:Nat) (D:DA γ):Dv γ where
 dec s:=match s with
  | .fn f' l=>bif Nat.beq f f' then D.dec l else none
  | _=>none
 enc a:=.fn f (D.enc a)
 bd:=D.bd
 cl a:=cl_fn (D.cl a)
 ok s a ps n ρ x hd hp hf:=by
  split at hd
  ·rename_i f' s
   cases hb:Nat.beq f f' with
   | false=>rw[hb] at hd;cases hd
   | true=>
    rw[hb] at hd
    rw[q03 hb]
    obtain ⟨l,rfl,hl⟩:=hf
    exact ⟨l,rfl,D.ok _ _ _ _ _ _ hd hp hl⟩
  ·cases hd
 fb a n ρ x hf:=by
  obtain ⟨l,rfl,hl⟩:=hf
  exact D.fb _ _ _ _ hl
end Go.Sx

namespace Go.Sx
open Go.RowKit Go.ChangeShapes Go.WideShapes Go.ChangeAt Go.Deep
variable [Env]
theorem qbr (b o n:Nat):(⟨b,o,none⟩:Addr).add n=⟨b,o+n,none⟩:=by
 by_cases h:n=0
 ·subst h;simp[Addr.add]
 ·simp[Addr.add,h]
abbrev wh (w:World):Rh:=emp fun b=>w.heap[b]?
def Rd {α:Type} (P:Program) (t:TypeId) (A:El α) (Q:α→Prop):Prop:=
 ∀ (H:Type) (enc:TypeId×Value→H) (w:World) (base:Nat) (spare:Nat→Bool) (held:Bool) (fuel:Nat) (cs:List Value) (x:DataW H×List MemPlace),
  DataW.trod enc P w base spare held fuel t cs=some x→∃ a,Q a∧SV.fits 0 (wh w) (A.cells a) cs
section
variable {H:Type} (enc:TypeId×Value→H) (P:Program) (w:World) (base:Nat) (spare:Nat→Bool) (held:Bool) (fuel:Nat)
def Cut:List TypeId→List Value→Prop
 | [],cs=>cs=[]
 | t :: ts,cs=>(∃ x,DataW.trod enc P w base spare held fuel t (cs.take (P.cellsOf t))=some x)∧Cut ts (cs.drop (P.cellsOf t))
def ql6:Nat→List (Nat×TypeId)→Nat→Bool
 | o,[],n=>Nat.beq o n
 | o,p :: r,n=>Nat.beq p.1 o&&ql6 (o+P.cellsOf p.2) r n
theorem cut_of (cs:List Value):∀ (fs:List (Nat×TypeId)) (o:Nat),ql6 P o fs cs.length=true→(∀ p∈fs,∃ x,DataW.trod enc P w base spare held fuel p.2 ((cs.drop p.1).take (P.cellsOf p.2))=some x)→Cut enc P w base spare held fuel (fs.map (·.2)) (cs.drop o)
 | [],o,hc,_=>by
  have:=q03 hc
  show cs.drop o=[]
  exact List.drop_eq_nil_of_le (by omega)
 | p :: r,o,hc,h=>by
  simp only[ql6,Bool.and_eq_true] at hc
  have h0:=q03 hc.1
  refine ⟨?_,?_⟩
  ·have:=h p (List.mem_cons_self ..)
   rwa [h0] at this
  ·have:=cut_of cs r (o+P.cellsOf p.2) hc.2 fun q hq=>h q (List.mem_cons_of_mem _ hq)
   rwa [List.drop_drop]
end
def Rds {α:Type} (P:Program) (ts:List TypeId) (A:El α) (Q:α→Prop):Prop:=
 ∀ (H:Type) (enc:TypeId×Value→H) (w:World) (base:Nat) (spare:Nat→Bool) (held:Bool) (fuel:Nat) (cs:List Value),
  Cut enc P w base spare held fuel ts cs→∃ a,Q a∧SV.fits 0 (wh w) (A.cells a) cs
section
variable {P:Program} {t e:TypeId} {α β:Type} {A:El α} {B:El β} {Q:α→Prop} {Q':β→Prop}
theorem q82 (h:Rd P t A Q):Rds P [t] A Q:=fun H enc w base spare held fuel cs hc=>by
 obtain ⟨⟨x,hx⟩,hd⟩:=hc
 have hd:cs.drop (P.cellsOf t)=[]:=hd
 have h2:=List.take_append_drop (P.cellsOf t) cs
 rw[hd,List.append_nil] at h2
 rw[h2] at hx
 exact h H enc w base spare held fuel cs x hx
theorem q1q {ts:List TypeId} (h:Rd P t A Q) (h':Rds P ts B Q'):Rds P (t :: ts) (.pair A B) (fun a=>Q a.1∧Q' a.2):=fun H enc w base spare held fuel cs hc=>by
 obtain ⟨⟨x,hx⟩,hd⟩:=hc
 obtain ⟨a,qa,fa⟩:=h H enc w base spare held fuel _ x hx
 obtain ⟨b,qb,fb⟩:=h' H enc w base spare held fuel _ hd
 refine ⟨(a,b),⟨qa,qb⟩,?_⟩
 have:=q0s fa fb
 rwa [List.take_append_drop] at this
theorem qeq (h:Rd P t A Q) (f:α→β) (g:β→α) (hfg:∀ b,f (g b)=b) (hgf:∀ a,g (f a)=a):Rd P t (A.iso f g hfg hgf) (fun b=>Q (g b)):=fun H enc w base spare held fuel cs x hx=>by
 obtain ⟨a,qa,fa⟩:=h H enc w base spare held fuel cs x hx
 refine ⟨f a,(show Q (g (f a)) by rwa [hgf]),?_⟩
 show SV.fits 0 _ (A.cells (g (f a))) cs
 rwa [hgf]
theorem rd_int {k:IntKind} (ht:P.underlying t=some (.int k)):Rd P t (eInt k) (fun n=>(Lit.int k n).wf=true):=fun H enc w base spare held fuel cs x hx=>by
 obtain ⟨n,rfl,_,hw⟩:=DataW.trod_int ht hx
 exact ⟨n,hw,by simp[eInt,El.one',dInt,SV.fits,SV.fit]⟩
theorem q4w {fs:Array Field} {ts:List TypeId} (ht:P.underlying t=some (.struct fs)) (hts:fs.toList.map (·.type)=ts) (hc:ql6 P 0 (fs.toList.map fun f=>(f.offset,f.type)) (P.cellsOf t)=true) (h:Rds P ts A Q):Rd P t A Q:=fun H enc w base spare held fuel cs x hx=>by
 obtain ⟨xs,n,rfl,_,hl,hxl,hf⟩:=DataW.trod_struct ht hx
 rw[← hl] at hc
 have:=cut_of enc P w base spare held n cs _ 0 hc fun p hp=>by
  obtain ⟨f,hfm,rfl⟩:=List.mem_map.1 hp
  obtain ⟨i,hi,rfl⟩:=List.getElem_of_mem hfm
  have hi':i<fs.size:=by simpa using hi
  have:=hf i fs[i] (by simp[hi'])
  exact ⟨xs[i]'(by omega),by simpa [hxl,hi'] using this⟩
 rw[List.map_map,List.drop_zero] at this
 refine h H enc w base spare held n cs ?_
 rw[← hts]
 exact this
theorem rd_array {n:Nat} {ts:List TypeId} (ht:P.underlying t=some (.array n e)) (hts:((List.range n).map fun _=>e)=ts) (hc:ql6 P 0 ((List.range n).map fun i=>(i * P.cellsOf e,e)) (P.cellsOf t)=true) (h:Rds P ts A Q):Rd P t A Q:=fun H enc w base spare held fuel cs x hx=>by
 obtain ⟨xs,m,rfl,_,hl,hxl,hf⟩:=DataW.trod_array ht hx
 rw[← hl] at hc
 have:=cut_of enc P w base spare held m cs _ 0 hc fun p hp=>by
  obtain ⟨i,hi,rfl⟩:=List.mem_map.1 hp
  have hi':i<n:=by simpa using hi
  have:=hf i hi'
  exact ⟨xs[i]'(by omega),by rw[this];simp[hxl,hi']⟩
 rw[List.map_map,List.drop_zero] at this
 refine h H enc w base spare held m cs ?_
 rw[← hts]
 exact this
end
def RdV {α:Type} (P:Program) (t:TypeId) (D:Dv α) (Q:α→Prop):Prop:=
 ∀ (H:Type) (enc:TypeId×Value→H) (w:World) (base:Nat) (spare:Nat→Bool) (held:Bool) (r:Reach) (b0:Nat) (v:Value) (d:DataW H) (ps:List MemPlace),
  Value.okWide P w r b0 t v→DataW.Trod enc P w base spare held t v d ps→∃ a,Q a∧(D.enc a).fit 0 (wh w) v
section
variable {P:Program} {t e:TypeId} {α β:Type} {A:El α} {Q:α→Prop}
theorem rdv_int {k:IntKind} (ht:P.underlying t=some (.int k)):RdV P t (dInt k) (fun n=>(Lit.int k n).wf=true):=fun H enc w base spare held r b0 v d ps hv hx=>by
 obtain ⟨n,rfl,_,_,hw⟩:=open_int ht hv hx
 exact ⟨n,hw,by simp[dInt,SV.fit]⟩
theorem qpq {fs:Array Field} (ht:P.underlying t=some (.struct fs)) (h:Rd P t A Q):RdV P t (.agg A) Q:=fun H enc w base spare held r b0 v d ps hv hx=>by
 obtain ⟨cs,rfl,_⟩:=okWide_struct ht hv
 obtain ⟨fuel,hf⟩:=hx
 obtain ⟨a,qa,fa⟩:=h H enc w base spare held fuel _ _ hf
 exact ⟨a,qa,cs.toList,by simp,by simpa [Value.cells] using fa⟩
theorem rdv_slice (ht:P.underlying t=some (.slice e)) (hs:P.cellsOf e=A.sz) (hz:0<A.sz) (h:Rd P e A Q):RdV P t (.list A) (fun xs=>∀ a∈xs,Q a):=fun H enc w base spare held r b0 v d ps hv hx=>by
 obtain ⟨a0,len0,cap0,rfl⟩:=okWide_slice ht hv
 obtain ⟨fuel,hf⟩:=hx
 rcases open_slice ht hf with ⟨hcs,_⟩ | ⟨a,len,cap,m,n,D,Pl,hcs,hb,hl,hm,hmm,_,hel⟩
 ·simp[Value.cells] at hcs
  obtain ⟨rfl,rfl,rfl⟩:=hcs
  exact ⟨[],by simp,qjo _ _⟩
 ·simp[Value.cells] at hcs
  obtain ⟨rfl,rfl,rfl⟩:=hcs
  have hle:len0≤m:=by subst hmm;split <;> omega
  have key:∀ i,i<len0→∃ x:α,Q x∧∃ cs',cs'.length=A.sz∧SV.fits 0 (wh w) (A.cells x) cs'∧∀ j,j<A.sz→w.cell? ((a.add (i * A.sz)).add j)=cs'[j]?:=fun i hi=>by
   obtain ⟨cs',h1,h2⟩:=hel i (by omega)
   obtain ⟨x,qx,fx⟩:=h H enc w base spare held n cs' _ h2
   rw[hs] at h1
   obtain ⟨_,h3,h4⟩:=World.cells?_some h1
   exact ⟨x,qx,cs',h3,fx,h4⟩
  haveI:Inhabited α:=⟨A.dflt⟩
  obtain ⟨f,hf⟩:=choose_lt (α:=α) (fun i hi=>key i hi)
  refine ⟨(List.range len0).map f,?_,?_⟩
  ·intro x hx
   obtain ⟨i,hi,rfl⟩:=List.mem_map.1 hx
   exact (hf i (by simpa using hi)).1
  ·simp only[Dv.list,SV.fit]
   refine ⟨some a,cap0,by simp,by simpa using hl,hm,fun hpos=>?_⟩
   have hpos:0<len0:=by simpa using hpos
   obtain ⟨_,cs0,q1,q2,q3⟩:=hf 0 hpos
   have q4:=q3 0 hz
   obtain ⟨b,o,spot⟩:=a
   have hsome:∃ v0,cs0[0]?=some v0:=⟨cs0[0]'(by omega),by simp⟩
   obtain ⟨v0,hv0⟩:=hsome
   rw[hv0] at q4
   have hspot:spot=none:=by simpa [Addr.add] using World.cell?_spot q4
   subst hspot
   have hblk:∃ cs t fz,w.heap[b]?=some (.cells cs t fz):=by
    simp only[qbr,World.cell?] at q4
    split at q4
    ·rename_i c _ _ hh
     exact ⟨_,_,_,hh⟩
    ·cases q4
   obtain ⟨cs,t',fz,hh⟩:=hblk
   refine ⟨b,o,cs,t',fz,rfl,hh,fun i hi=>?_⟩
   have hi:i<len0:=by simpa using hi
   obtain ⟨_,cs',k1,k2,k3⟩:=hf i hi
   refine ⟨cs',k1,?_,fun j v hjv=>?_⟩
   ·simpa [El.els,List.getD_eq_getElem?_getD,hi] using k2
   ·have hj:j<A.sz:=by
     have:=(List.getElem?_eq_some_iff.1 hjv).1
     omega
    have:=k3 j hj
    rw[hjv] at this
    simp only[qbr,World.cell?,hh] at this
    simpa using this
end
end Go.Sx

namespace Go.Sx
open Go.RowKit Go.ChangeShapes Go.WideShapes Go.ChangeAt Go.Deep
variable [Env]
section
variable {P:Program} {t e:TypeId} {α:Type} {A:El α} {Q:α→Prop}
theorem qnv (ht:P.underlying t=some (.slice e)) (hs:P.cellsOf e=A.sz) (hz:0<A.sz) (h:Rd P e A Q):Rd P t (eList A) (fun xs=>∀ a∈xs,Q a):=fun H enc w base spare held fuel cs0 x hf=>by
 rcases open_slice ht hf with ⟨rfl,_⟩ | ⟨a,len0,cap0,m,n,D,Pl,rfl,hb,hl,hm,hmm,_,hel⟩
 ·exact ⟨[],by simp,qjo _ _,trivial⟩
 ·have hcap:True:=trivial
  have hle:len0≤m:=by subst hmm;split <;> omega
  have key:∀ i,i<len0→∃ x:α,Q x∧∃ cs',cs'.length=A.sz∧SV.fits 0 (wh w) (A.cells x) cs'∧∀ j,j<A.sz→w.cell? ((a.add (i * A.sz)).add j)=cs'[j]?:=fun i hi=>by
   obtain ⟨cs',h1,h2⟩:=hel i (by omega)
   obtain ⟨x,qx,fx⟩:=h H enc w base spare held n cs' _ h2
   rw[hs] at h1
   obtain ⟨_,h3,h4⟩:=World.cells?_some h1
   exact ⟨x,qx,cs',h3,fx,h4⟩
  haveI:Inhabited α:=⟨A.dflt⟩
  obtain ⟨f,hf⟩:=choose_lt (α:=α) (fun i hi=>key i hi)
  refine ⟨(List.range len0).map f,?_,?_⟩
  ·intro x hx
   obtain ⟨i,hi,rfl⟩:=List.mem_map.1 hx
   exact (hf i (by simpa using hi)).1
  ·refine ⟨?_,trivial⟩
   show ((Dv.list A).enc ((List.range len0).map f)).fit 0 (wh w) _
   simp only[Dv.list,SV.fit]
   refine ⟨some a,cap0,by simp,by simpa using hl,hm,fun hpos=>?_⟩
   have hpos:0<len0:=by simpa using hpos
   obtain ⟨_,cs0,q1,q2,q3⟩:=hf 0 hpos
   have q4:=q3 0 hz
   obtain ⟨b,o,spot⟩:=a
   have hsome:∃ v0,cs0[0]?=some v0:=⟨cs0[0]'(by omega),by simp⟩
   obtain ⟨v0,hv0⟩:=hsome
   rw[hv0] at q4
   have hspot:spot=none:=by simpa [Addr.add] using World.cell?_spot q4
   subst hspot
   have hblk:∃ cs t fz,w.heap[b]?=some (.cells cs t fz):=by
    simp only[qbr,World.cell?] at q4
    split at q4
    ·rename_i c _ _ hh
     exact ⟨_,_,_,hh⟩
    ·cases q4
   obtain ⟨cs,t',fz,hh⟩:=hblk
   refine ⟨b,o,cs,t',fz,rfl,hh,fun i hi=>?_⟩
   have hi:i<len0:=by simpa using hi
   obtain ⟨_,cs',k1,k2,k3⟩:=hf i hi
   refine ⟨cs',k1,?_,fun j v hjv=>?_⟩
   ·simpa [El.els,List.getD_eq_getElem?_getD,hi] using k2
   ·have hj:j<A.sz:=by
     have:=(List.getElem?_eq_some_iff.1 hjv).1
     omega
    have:=k3 j hj
    rw[hjv] at this
    simp only[qbr,World.cell?,hh] at this
    simpa using this
end
end Go.Sx

namespace Go.Lp
open Go.Sx
variable [Env]
abbrev w64 (n:Int):Int:=IntKind.i64.wrap n
theorem wr {n:Int} (h:0≤n∧n≤9223372036854775807):w64 n=n:=by
 unfold w64
 simp[IntKind.wrap,IntKind.bits,IntKind.signed]
 omega
section
variable {α σ:Type}
abbrev FiG (α σ:Type):=List α×σ×Int×Int×Int
def fiF (d:α) (p:σ→α→Bool) (g:FiG α σ):Ex×FiG α σ:=
 bif decide (g.2.2.2.1<g.2.2.1) then
  bif p g.2.1 (g.1.getD g.2.2.2.1.toNat d) then (.ret,g.1,g.2.1,g.2.2.1,g.2.2.2.1,g.2.2.2.1) else (.normal,g.1,g.2.1,g.2.2.1,w64 (g.2.2.2.1+1),g.2.2.2.2)
 else (.exit 0,g)
def fiI (g:FiG α σ):List Prop:=[g.2.2.1=(g.1.length:Int)∧g.1.length≤maxLen∧0≤g.2.2.2.1∧g.2.2.2.1≤(g.1.length:Int)]
def fiM (g:FiG α σ):Nat:=(g.2.2.1 - g.2.2.2.1).toNat
theorem fi_goes (d:α) (p:σ→α→Bool):Goes (fiF d p) fiM fun g=>allP (fiI g):=by
 rintro ⟨xs,s,n,i,r0⟩ hi hn
 obtain ⟨h1,h2,h3,h4⟩:=hi _ (List.mem_cons_self ..)
 simp only at h1 h2 h3 h4
 unfold maxLen at h2
 unfold fiF at hn ⊢
 simp only at hn ⊢
 by_cases hlt:i<n
 ·simp only[hlt,decide_true,cond_true] at hn ⊢
  cases hp:p s (xs.getD i.toNat d) with
  | true=>rw[hp] at hn;cases hn
  | false=>
   simp only[cond_false]
   rw[wr (by omega)]
   refine ⟨fun q hq=>?_,?_⟩
   ·simp only[fiI,List.mem_singleton] at hq
    subst hq
    exact ⟨h1,by unfold maxLen;omega,by show (0:Int)≤i+1;omega,by show i+1≤(xs.length:Int);omega⟩
   ·simp only[fiM];omega
 ·simp only[hlt,decide_false,cond_false] at hn
  cases hn
theorem fi_run (d:α) (p:σ→α→Bool):∀ g:FiG α σ,allP (fiI g) →
  (((loopF (fiF d p) fiM g).1=.ret∧0≤(loopF (fiF d p) fiM g).2.2.2.2.2∧(loopF (fiF d p) fiM g).2.2.2.2.2<(g.1.length:Int)∧(g.1.drop g.2.2.2.1.toNat).any (p g.2.1)=true) ∨
   ((loopF (fiF d p) fiM g).1=.exit 0∧(g.1.drop g.2.2.2.1.toNat).any (p g.2.1)=false)):=by
 refine q17 (fi_goes d p) (Q:=fun g r=>((r.1=.ret∧0≤r.2.2.2.2.2∧r.2.2.2.2.2<(g.1.length:Int)∧(g.1.drop g.2.2.2.1.toNat).any (p g.2.1)=true)∨(r.1=.exit 0∧(g.1.drop g.2.2.2.1.toNat).any (p g.2.1)=false))) ?_ ?_
 ·rintro ⟨xs,s,n,i,r0⟩ hi hn
  obtain ⟨h1,h2,h3,h4⟩:=hi _ (List.mem_cons_self ..)
  simp only at h1 h2 h3 h4
  unfold fiF at hn ⊢
  simp only at hn ⊢
  by_cases hlt:i<n
  ·simp only[hlt,decide_true,cond_true] at hn ⊢
   have hlt':i.toNat<xs.length:=by omega
   have hd:xs.drop i.toNat=xs.getD i.toNat d :: xs.drop (i.toNat+1):=by
    rw[List.drop_eq_getElem_cons hlt']
    simp[List.getD_eq_getElem?_getD,hlt']
   cases hp:p s (xs.getD i.toNat d) with
   | true=>
    left
    simp only[cond_true]
    refine ⟨trivial,h3,by omega,?_⟩
    rw[hd,List.any_cons,hp];rfl
   | false=>rw[hp] at hn;exact absurd rfl hn
  ·right
   simp only[hlt,decide_false,cond_false]
   refine ⟨trivial,?_⟩
   rw[List.drop_eq_nil_of_le (by omega)];rfl
 ·rintro ⟨xs,s,n,i,r0⟩ g' r hi he hi' _ hq
  obtain ⟨h1,h2,h3,h4⟩:=hi _ (List.mem_cons_self ..)
  simp only at h1 h2 h3 h4
  unfold maxLen at h2
  unfold fiF at he
  simp only at he
  by_cases hlt:i<n
  ·simp only[hlt,decide_true,cond_true] at he
   have hlt':i.toNat<xs.length:=by omega
   have hd:xs.drop i.toNat=xs.getD i.toNat d :: xs.drop (i.toNat+1):=by
    rw[List.drop_eq_getElem_cons hlt']
    simp[List.getD_eq_getElem?_getD,hlt']
   cases hp:p s (xs.getD i.toNat d) with
   | true=>rw[hp] at he;cases he
   | false=>
    rw[hp] at he
    simp only[cond_false,Prod.mk.injEq,true_and] at he
    subst he
    simp only at hq ⊢
    rw[wr (by omega)] at hq
    rw[hd,List.any_cons,hp,Bool.false_or]
    have:(i+1).toNat=i.toNat+1:=by omega
    rw[this] at hq
    exact hq
  ·simp only[hlt,decide_false,cond_false] at he
   cases he
theorem fi_any (d:α) (p:σ→α→Bool) (xs:List α) (s:σ) (r0:Int) (h:xs.length≤maxLen) :
  ((exB .ret (loopF (fiF d p) fiM (xs,s,(xs.length:Int),0,r0)).1)=xs.any (p s))∧((loopF (fiF d p) fiM (xs,s,(xs.length:Int),0,r0)).1=.ret→0≤(loopF (fiF d p) fiM (xs,s,(xs.length:Int),0,r0)).2.2.2.2.2):=by
 have h0:allP (fiI ((xs,s,(xs.length:Int),(0:Int),r0):FiG α σ)):=fun q hq=>by
  simp only[fiI,List.mem_singleton] at hq
  subst hq
  exact ⟨trivial,h,Int.le_refl _,by show (0:Int)≤(xs.length:Int);omega⟩
 rcases fi_run d p (xs,s,(xs.length:Int),0,r0) h0 with ⟨h1,h2,_,h3⟩ | ⟨h1,h3⟩
 ·refine ⟨?_,fun _=>h2⟩
  rw[h1]
  have h4:(xs.drop 0).any (p s)=true:=h3
  rw[List.drop_zero] at h4
  exact h4.symm
 ·refine ⟨?_,fun h=>?_⟩
  ·rw[h1]
   have:(xs.drop 0).any (p s)=false:=h3
   simp only[List.drop_zero] at this
   rw[this];rfl
  ·rw[h1] at h;cases h
end
end Go.Lp

namespace Go.Lp
open Go.Sx
variable [Env]
section
variable {α:Type} [DecidableEq α]
def dd (p:α):List α→List α
 | []=>[]
 | y :: r=>if y=p then dd p r else y :: dd y r
def compL:List α→List α
 | []=>[]
 | x :: r=>x :: dd x r
abbrev CpG (α:Type):=Nat×List α×Int×(Nat×Nat)×Int
def cpF (d:α) (g:CpG α):Ex×CpG α:=
 bif decide (g.2.2.2.2<(g.2.2.2.1.2:Int)) then
  (.normal,g.1,
   (bif !decide (g.2.1.getD (g.2.2.2.1.1+g.2.2.2.2.toNat) d=g.2.1.getD (g.2.2.2.1.1+(w64 (g.2.2.2.2 - 1)).toNat) d) then g.2.1.set g.2.2.1.toNat (g.2.1.getD (g.2.2.2.1.1+g.2.2.2.2.toNat) d) else g.2.1),
   (bif !decide (g.2.1.getD (g.2.2.2.1.1+g.2.2.2.2.toNat) d=g.2.1.getD (g.2.2.2.1.1+(w64 (g.2.2.2.2 - 1)).toNat) d) then w64 (g.2.2.1+1) else g.2.2.1),
   g.2.2.2.1,w64 (g.2.2.2.2+1))
 else (.exit 2,g)
def cpI (g:CpG α):List Prop:=[g.1=g.2.1.length∧g.2.1.length≤maxLen∧g.2.2.2.1.1+g.2.2.2.1.2=g.2.1.length∧1≤g.2.2.2.2∧g.2.2.2.2≤(g.2.2.2.1.2:Int)∧0≤g.2.2.1∧g.2.2.1≤(g.2.2.2.1.1:Int)+g.2.2.2.2 - 1]
def cpM (g:CpG α):Nat:=((g.2.2.2.1.2:Int) - g.2.2.2.2).toNat
theorem qn4 (d:α):Goes (cpF d) cpM fun g=>allP (cpI g):=by
 rintro ⟨l,xs,k,⟨o,n⟩,j⟩ hi hn
 obtain ⟨h1,h2,h3,h4,h5,h6,h7⟩:=hi _ (List.mem_cons_self ..)
 simp only at h1 h2 h3 h4 h5 h6 h7
 unfold maxLen at h2
 unfold cpF at hn ⊢
 simp only at hn ⊢
 by_cases hlt:j<(n:Int)
 ·simp only[hlt,decide_true,cond_true] at hn ⊢
  rw[wr (n:=j+1) (by omega),wr (n:=k+1) (by omega)]
  generalize (!decide (xs.getD (o+j.toNat) d=xs.getD (o+(w64 (j - 1)).toNat) d))=c
  refine ⟨fun q hq=>?_,?_⟩
  ·simp only[cpI,List.mem_singleton] at hq
   subst hq
   have hl:(bif c then xs.set k.toNat (xs.getD (o+j.toNat) d) else xs).length=xs.length:=by cases c <;> simp
   simp only[hl]
   cases c
   ·exact ⟨h1,by unfold maxLen;omega,h3,by omega,by omega,by simp only[cond_false];omega,by simp only[cond_false];omega⟩
   ·exact ⟨h1,by unfold maxLen;omega,h3,by omega,by omega,by simp only[cond_true];omega,by simp only[cond_true];omega⟩
  ·simp only[cpM];omega
 ·simp only[hlt,decide_false,cond_false] at hn
  cases hn
theorem cp_run (d:α):∀ g:CpG α,allP (cpI g) →
  (loopF (cpF d) cpM g).1=.exit 2∧(loopF (cpF d) cpM g).2.1=g.1∧(loopF (cpF d) cpM g).2.2.1.length=g.2.1.length∧0≤(loopF (cpF d) cpM g).2.2.2.1∧(loopF (cpF d) cpM g).2.2.2.1<(g.2.1.length:Int) ∧
   (loopF (cpF d) cpM g).2.2.1.take (loopF (cpF d) cpM g).2.2.2.1.toNat=g.2.1.take g.2.2.1.toNat++dd (g.2.1.getD (g.2.2.2.1.1+g.2.2.2.2.toNat - 1) d) (g.2.1.drop (g.2.2.2.1.1+g.2.2.2.2.toNat)):=by
 refine q17 (qn4 d) (Q:=fun g r=>r.1=.exit 2∧r.2.1=g.1∧r.2.2.1.length=g.2.1.length∧0≤r.2.2.2.1∧r.2.2.2.1<(g.2.1.length:Int) ∧
   r.2.2.1.take r.2.2.2.1.toNat=g.2.1.take g.2.2.1.toNat++dd (g.2.1.getD (g.2.2.2.1.1+g.2.2.2.2.toNat - 1) d) (g.2.1.drop (g.2.2.2.1.1+g.2.2.2.2.toNat))) ?_ ?_
 ·rintro ⟨l,xs,k,⟨o,n⟩,j⟩ hi hn
  obtain ⟨h1,h2,h3,h4,h5,h6,h7⟩:=hi _ (List.mem_cons_self ..)
  simp only at h1 h2 h3 h4 h5 h6 h7
  unfold cpF at hn ⊢
  simp only at hn ⊢
  by_cases hlt:j<(n:Int)
  ·simp only[hlt,decide_true,cond_true] at hn
   exact absurd rfl hn
  ·simp only[hlt,decide_false,cond_false]
   refine ⟨trivial,trivial,trivial,h6,by omega,?_⟩
   rw[List.drop_eq_nil_of_le (by omega)]
   simp[dd]
 ·rintro ⟨l,xs,k,⟨o,n⟩,j⟩ g' r hi he hi' _ hq
  obtain ⟨h1,h2,h3,h4,h5,h6,h7⟩:=hi _ (List.mem_cons_self ..)
  simp only at h1 h2 h3 h4 h5 h6 h7
  unfold maxLen at h2
  unfold cpF at he
  simp only at he
  by_cases hlt:j<(n:Int)
  ·simp only[hlt,decide_true,cond_true,Prod.mk.injEq,true_and] at he
   subst he
   rw[wr (n:=j+1) (by omega),wr (n:=k+1) (by omega),wr (n:=j - 1) (by omega)] at hq
   simp only at hq ⊢
   have hy:o+j.toNat<xs.length:=by omega
   have e1:o+(j - 1).toNat=o+j.toNat - 1:=by omega
   have e2:o+(j+1).toNat - 1=o+j.toNat:=by omega
   have e3:o+(j+1).toNat=o+j.toNat+1:=by omega
   rw[e1,e2,e3] at hq
   have hd:xs.drop (o+j.toNat)=xs.getD (o+j.toNat) d :: xs.drop (o+j.toNat+1):=by
    rw[List.drop_eq_getElem_cons hy]
    simp[List.getD_eq_getElem?_getD,hy]
   rw[hd]
   simp only[dd]
   by_cases hc:xs.getD (o+j.toNat) d=xs.getD (o+j.toNat - 1) d
   ·simp only[hc,decide_true,Bool.not_true,cond_false] at hq
    rw[if_pos hc]
    exact hq
   ·simp only[hc,decide_false,Bool.not_false,cond_true] at hq
    rw[if_neg hc]
    obtain ⟨q1,q2,q3,q4,q5,q6⟩:=hq
    simp only[List.length_set] at q3 q5
    refine ⟨q1,q2,q3,q4,q5,?_⟩
    rw[q6]
    have hk:k.toNat<xs.length:=by omega
    have e4:(k+1).toNat=k.toNat+1:=by omega
    rw[e4]
    have e5:(xs.set k.toNat (xs.getD (o+j.toNat) d)).take (k.toNat+1)=xs.take k.toNat++[xs.getD (o+j.toNat) d]:=by
     rw[List.take_add_one,List.take_set_of_le (Nat.le_refl _),List.getElem?_set_self hk]
     rfl
    have e6:(xs.set k.toNat (xs.getD (o+j.toNat) d)).drop (o+j.toNat+1)=xs.drop (o+j.toNat+1):=by
     rw[List.drop_set_of_lt (by omega)]
    have e7:(xs.set k.toNat (xs.getD (o+j.toNat) d)).getD (o+j.toNat) d=xs.getD (o+j.toNat) d:=by
     simp only[List.getD_eq_getElem?_getD]
     by_cases h8:k.toNat=o+j.toNat
     ·omega
     ·rw[List.getElem?_set_ne h8]
    rw[e5,e6,e7]
    simp
  ·simp only[hlt,decide_false,cond_false] at he
   cases he
end
end Go.Lp

namespace Go.Lp
noncomputable section
open Go.Sx
variable [Env]
section
variable {α:Type} [DecidableEq α]
def pfx (d:α) (n:Nat) (xs:List α):List α:=(List.range n).map fun e=>xs.getD e d
theorem pfx_take (d:α) {n:Nat} {xs:List α} (h:n≤xs.length):pfx d n xs=xs.take n:=by
 apply List.ext_getElem
 ·simp[pfx];omega
 ·intro i h1 h2
  simp only[pfx,List.length_map,List.length_range] at h1
  have:i<xs.length:=by omega
  simp[pfx,List.getD_eq_getElem?_getD,this]
theorem lst_pfx (A:El α) (n:Nat) (xs:List α):A.lst n (A.els xs)=pfx A.dflt n xs:=by
 simp only[El.lst,El.els,El.get_cells,pfx]
abbrev CoG (α:Type):=Nat×List α×Int×(Bool×Nat)
def coQ (d:α) (g:CoG α):Ex×CpG α:=loopF (cpF d) cpM (g.1,g.2.1,g.2.2.1,(g.2.2.1.toNat,g.1 - g.2.2.1.toNat),1)
def coF (d:α) (g:CoG α):Ex×CoG α:=
 bif decide (g.2.2.1<(g.1:Int)) then
  bif decide (g.2.1.getD g.2.2.1.toNat d=g.2.1.getD (w64 (g.2.2.1 - 1)).toNat d) then
   (.ret,(coQ d g).2.1,pfx d (coQ d g).2.2.2.1.toNat (coQ d g).2.2.1,(coQ d g).2.2.2.1,(true,(coQ d g).2.2.2.1.toNat))
  else (.normal,g.1,g.2.1,w64 (g.2.2.1+1),g.2.2.2)
 else (.exit 0,g)
def coI (d:α) (g:CoG α):List Prop:=[g.1=g.2.1.length∧g.2.1.length≤maxLen∧1≤g.2.2.1∧g.2.2.1≤(g.2.1.length:Int)∧compL g.2.1=g.2.1.take g.2.2.1.toNat++dd (g.2.1.getD (g.2.2.1.toNat - 1) d) (g.2.1.drop g.2.2.1.toNat)]
def coM (g:CoG α):Nat:=((g.1:Int) - g.2.2.1).toNat
theorem qn9 (d:α):Goes (coF d) coM fun g=>allP (coI d g):=by
 rintro ⟨l,xs,k,r⟩ hi hn
 obtain ⟨h1,h2,h3,h4,h5⟩:=hi _ (List.mem_cons_self ..)
 simp only at h1 h2 h3 h4 h5
 unfold maxLen at h2
 unfold coF at hn ⊢
 simp only at hn ⊢
 by_cases hlt:k<(l:Int)
 ·simp only[hlt,decide_true,cond_true] at hn ⊢
  by_cases hc:xs.getD k.toNat d=xs.getD (w64 (k - 1)).toNat d
  ·simp only[hc,decide_true,cond_true] at hn
   cases hn
  ·simp only[hc,decide_false,cond_false]
   rw[wr (n:=k+1) (by omega)]
   refine ⟨fun q hq=>?_,?_⟩
   ·simp only[coI,List.mem_singleton] at hq
    subst hq
    refine ⟨h1,by unfold maxLen;omega,by show 1≤k+1;omega,by show k+1≤(xs.length:Int);omega,?_⟩
    show compL xs=xs.take (k+1).toNat++dd (xs.getD ((k+1).toNat - 1) d) (xs.drop (k+1).toNat)
    rw[wr (n:=k - 1) (by omega)] at hc
    have hk:k.toNat<xs.length:=by omega
    have e1:(k+1).toNat=k.toNat+1:=by omega
    have e2:(k - 1).toNat=k.toNat - 1:=by omega
    rw[e2] at hc
    have hd:xs.drop k.toNat=xs.getD k.toNat d :: xs.drop (k.toNat+1):=by
     rw[List.drop_eq_getElem_cons hk]
     simp[List.getD_eq_getElem?_getD,hk]
    have ht:xs.take (k.toNat+1)=xs.take k.toNat++[xs.getD k.toNat d]:=by
     rw[List.take_add_one]
     simp[List.getD_eq_getElem?_getD,hk]
    rw[h5,hd,e1,Nat.add_sub_cancel,ht]
    simp only[dd]
    rw[if_neg hc]
    simp
   ·simp only[coM];omega
 ·simp only[hlt,decide_false,cond_false] at hn
  cases hn
theorem qp3 (d:α):∀ g:CoG α,allP (coI d g) →
  ((loopF (coF d) coM g).1=.ret∧(loopF (coF d) coM g).2.1=g.1∧(loopF (coF d) coM g).2.2.1=compL g.2.1∧(loopF (coF d) coM g).2.2.2.2=(true,(compL g.2.1).length)) ∨
  ((loopF (coF d) coM g).1=.exit 0∧(loopF (coF d) coM g).2.1=g.1∧(loopF (coF d) coM g).2.2.1=g.2.1∧compL g.2.1=g.2.1):=by
 refine q17 (qn9 d) (Q:=fun g r=>(r.1=.ret∧r.2.1=g.1∧r.2.2.1=compL g.2.1∧r.2.2.2.2=(true,(compL g.2.1).length))∨(r.1=.exit 0∧r.2.1=g.1∧r.2.2.1=g.2.1∧compL g.2.1=g.2.1)) ?_ ?_
 ·rintro ⟨l,xs,k,r⟩ hi hn
  obtain ⟨h1,h2,h3,h4,h5⟩:=hi _ (List.mem_cons_self ..)
  simp only at h1 h2 h3 h4 h5
  have h2':=h2
  unfold maxLen at h2
  unfold coF at hn ⊢
  simp only at hn ⊢
  by_cases hlt:k<(l:Int)
  ·simp only[hlt,decide_true,cond_true] at hn ⊢
   by_cases hc:xs.getD k.toNat d=xs.getD (w64 (k - 1)).toNat d
   ·left
    simp only[hc,decide_true,cond_true]
    rw[wr (n:=k - 1) (by omega)] at hc
    have hk:k.toNat<xs.length:=by omega
    have e2:(k - 1).toNat=k.toNat - 1:=by omega
    rw[e2] at hc
    have hI:allP (cpI ((l,xs,k,(k.toNat,l - k.toNat),1):CpG α)):=fun q hq=>by
     simp only[cpI,List.mem_singleton] at hq
     subst hq
     exact ⟨h1,h2',by show k.toNat+(l - k.toNat)=xs.length;omega,Int.le_refl _,by show (1:Int)≤((l - k.toNat:Nat):Int);omega,by show 0≤k;omega,by show k≤(k.toNat:Int)+1 - 1;omega⟩
    obtain ⟨c1,c2,c3,c4,c5,c6⟩:=cp_run d _ hI
    simp only at c2 c3 c5 c6
    unfold coQ
    simp only
    have e3:k.toNat+(1:Int).toNat - 1=k.toNat:=by
     have:(1:Int).toNat=1:=rfl
     omega
    have e4:k.toNat+(1:Int).toNat=k.toNat+1:=rfl
    rw[e3,e4] at c6
    have hd:xs.drop k.toNat=xs.getD k.toNat d :: xs.drop (k.toNat+1):=by
     rw[List.drop_eq_getElem_cons hk]
     simp[List.getD_eq_getElem?_getD,hk]
    have hcomp:compL xs=xs.take k.toNat++dd (xs.getD k.toNat d) (xs.drop (k.toNat+1)):=by
     rw[h5,hd]
     simp only[dd]
     rw[if_pos hc,hc]
    rw[← hcomp] at c6
    generalize loopF (cpF d) cpM (l,xs,k,(k.toNat,l - k.toNat),1)=q at c1 c2 c3 c4 c5 c6 ⊢
    have hle:q.2.2.2.1.toNat≤q.2.2.1.length:=by omega
    rw[pfx_take d hle,c6]
    refine ⟨trivial,c2,rfl,?_⟩
    rw[← c6,List.length_take]
    congr 1
    omega
   ·simp only[hc,decide_false,cond_false] at hn
    exact absurd rfl hn
  ·right
   simp only[hlt,decide_false,cond_false]
   refine ⟨trivial,trivial,trivial,?_⟩
   rw[h5,List.drop_eq_nil_of_le (by omega),List.take_of_length_le (by omega)]
   simp[dd]
 ·rintro ⟨l,xs,k,r⟩ g' r' hi he hi' _ hq
  unfold coF at he
  simp only at he
  by_cases hlt:k<(l:Int)
  ·simp only[hlt,decide_true,cond_true] at he
   by_cases hc:xs.getD k.toNat d=xs.getD (w64 (k - 1)).toNat d
   ·simp only[hc,decide_true,cond_true] at he
    cases he
   ·simp only[hc,decide_false,cond_false,Prod.mk.injEq,true_and] at he
    subst he
    exact hq
  ·simp only[hlt,decide_false,cond_false] at he
   cases he
theorem qgh {xs:List α} (h:xs.length<2):compL xs=xs:=by
 match xs,h with
 | [],_=>rfl
 | [x],_=>rfl
end
end
end Go.Lp

namespace Go.Sx
def rw' {α:Type}:Result α→World
 | .ok _ w=>w
 | .halt _ w=>w
theorem qdx {α:Type}:∀ (a:Ask α) (w:World),w.drawn≤(w.ask a).2.drawn
 | .done _,w=>by simp[World.ask]
 | .ask what range k,w=>by
  rw[World.ask]
  split
  ·exact qdx (k 0) w
  ·exact Nat.le_trans (Nat.le_succ _) (qdx _ { w with drawn:=w.drawn+1 })
theorem qjf (w:World) (c:Sys):w.drawn≤(w.sys c).2.drawn:=by
 have h:=qdx (Kernel.perform c w.os) w
 unfold World.sys
 split
 ·exact Nat.le_refl _
 ·rename_i he
  rw[he] at h
  exact h
theorem qe5 {P:Program} {w w':World} {a:Addr} {v:Value} {b:Bool} {l:List Addr} (h:w.farStore P a v b=.ok (w',l)):w.drawn≤w'.drawn:=by
 unfold World.farStore at h
 split at h
 ·rename_i at_ u _
  split at h
  ·rename_i r hr
   injection h with h
   subst h
   unfold World.viewStore at hr
   simp only[bind,Except.bind,pure,Except.pure,throw,throwThe,MonadExceptOf.throw] at hr
   repeat' (first | (split at hr) | (cases hr))
   all_goals (first | exact Nat.le_refl _ | (simp at hr;done) | skip)
  ·cases h
 ·cases h
theorem q8k {α:Type} (P:Program):∀ (s:Sem α) (w:World),w.drawn≤(rw' (s.run P w)).drawn:=by
 intro s
 induction s with
 | pure a=>intro w;exact Nat.le_refl _
 | load m a k ih=>
  intro w
  simp only[Sem.run]
  split
  ·exact ih _ _
  ·split
   ·exact ih _ _
   ·exact Nat.le_refl _
 | store m a v k ih=>
  intro w
  cases v <;> simp only[Sem.run] <;> (try exact Nat.le_refl _)
  all_goals
   split
   ·split
    ·exact Nat.le_refl _
    ·exact ih (w.setCell a _)
   ·split
    ·rename_i h
     exact Nat.le_trans (qe5 h) (ih _)
    ·exact Nat.le_refl _
 | new o k ih=>intro w;exact ih _ { w with heap:=w.heap.push o }
 | shape r k ih=>intro w;exact ih _ _
 | freeze a n k ih=>
  intro w
  have h:(w.freeze a n).drawn=w.drawn:=by unfold World.freeze;split <;> rfl
  have:=ih (w.freeze a n)
  rw[h] at this
  exact this
 | frozen a k ih=>intro w;exact ih _ _
 | getObj r k ih=>
  intro w
  simp only[Sem.run]
  split
  ·exact Nat.le_refl _
  ·exact ih _ _
  ·exact Nat.le_refl _
 | setObj r o k ih=>
  intro w
  simp only[Sem.run]
  split
  ·exact Nat.le_refl _
  ·exact ih { w with heap:=w.heap.setIfInBounds r o }
  ·exact Nat.le_refl _
 | choose q k ih=>
  intro w
  simp only[Sem.run]
  split
  ·exact ih _ _
  ·exact Nat.le_trans (Nat.le_succ _) (ih _ { w with drawn:=w.drawn+1 })
 | sys c k ih=>intro w;exact Nat.le_trans (qjf w c) (ih _ _)
 | program k ih=>intro w;exact ih _ _
 | mark m k ih=>intro w;exact ih _
 | halt h=>intro w;exact Nat.le_refl _
theorem q2q {α:Type} (P:Program) (s:Sem α) (w:World) (es:Array Event):w.drawn≤(rw' (s.runT P w es).1).drawn:=by
 rw[Sem.runT_fst];exact q8k P s w
section
variable {α:Type} {P:Program} {s:Sem α} {w w':World} {a:α} {es es':Array Event} {x:Halt}
theorem q1f (h:s.run P w=.ok a w'):w.drawn≤w'.drawn:=by have:=q8k P s w;rw[h] at this;exact this
theorem run_halt (h:s.run P w=.halt x w'):w.drawn≤w'.drawn:=by have:=q8k P s w;rw[h] at this;exact this
theorem runT_ok (h:s.runT P w es=(.ok a w',es')):w.drawn≤w'.drawn:=by have:=q2q P s w es;rw[h] at this;exact this
theorem runT_halt (h:s.runT P w es=(.halt x w',es')):w.drawn≤w'.drawn:=by have:=q2q P s w es;rw[h] at this;exact this
theorem q8l (h:(s.runT P w es).1=.ok a w'):w.drawn≤w'.drawn:=by have:=q2q P s w es;rw[h] at this;exact this
theorem qei (h:(s.runT P w es).1=.halt x w'):w.drawn≤w'.drawn:=by have:=q2q P s w es;rw[h] at this;exact this
end
def Up (n:Nat):GStep→Prop
 | .go _ w _=>n≤w.drawn
 | .comm _ _ _ _ w _=>n≤w.drawn
 | .spawn _ _ w _=>n≤w.drawn
 | .count _ w _=>n≤w.drawn
 | .timer _ _ w _=>n≤w.drawn
 | .alone _ _ w _=>n≤w.drawn
 | .newcoro _ _ _ w _=>n≤w.drawn
 | .coroswitch _ _ _ w _=>n≤w.drawn
 | .collect _ w _=>n≤w.drawn
 | .watch _ w _=>n≤w.drawn
 | .ended _ _ _=>True
theorem q77 {n:Nat} {es:Array Event} {s:GStep}:Up n (GStep.after es s)↔Up n s:=by cases s <;> exact Iff.rfl
theorem q4b {n m:Nat} {s:GStep} (h:n≤m) (hu:Up m s):Up n s:=by
 cases s <;> first | exact trivial | exact Nat.le_trans h hu
theorem ite_up {n:Nat} {c:Prop} [Decidable c] {x y:GStep} (hx:Up n x) (hy:Up n y):Up n (if c then x else y):=by
 split
 ·exact hx
 ·exact hy
theorem elim_up {n:Nat} {α:Type} {o:Option α} {x:GStep} {f:α→GStep} (hx:Up n x) (hf:∀ a,Up n (f a)):Up n (o.elim x f):=by
 cases o
 ·exact hx
 ·exact hf _
theorem endWith_up (w:World) (fd:Nat) (text:ByteArray) (o:Outcome):Up w.drawn (endWith w fd text o):=by
 unfold endWith
 have:=qjf w (.write fd text)
 generalize w.sys (.write fd text)=x at this ⊢
 obtain ⟨r,w'⟩:=x
 cases r <;> simp only <;> (try split) <;> exact trivial
theorem dieOf_up (fr:Frame) (l:List ByteArray) (m:String) (b:Bool) (w:World):Up w.drawn (dieOf fr l m b w):=Nat.le_refl _
theorem q5l (fr:Frame) (m:String) (w:World):Up w.drawn (endThrow fr m w):=Nat.le_refl _
theorem q7v (P:Program) (fr:Frame) (v:Value) (w:World):Up w.drawn (endPrinting P fr v w):=by
 have:∀ o:Option String,Up w.drawn (match o with
  | some s=>endThrow fr ("panic while printing panic value"++s) w
  | none=>.ended (.unsupported (.noEntry "a panic in Error or String during the report of a panic, with a value that cannot be shown") "") w):=fun o=>by
  cases o with
  | some s=>exact q5l _ _ _
  | none=>trivial
 exact this _
theorem qde (P:Program) (fr:Frame) (cs:List Frame) (d:Option Dying) (m:String) (w:World):Up w.drawn (endFatal P fr cs d m w):=by
 unfold endFatal
 simp only
 split
 ·rename_i w' h
  exact q4b (q1f h) (dieOf_up _ _ _ _ _)
 ·trivial
 ·trivial
theorem qp9 (P:Program) (fr:Frame) (d:Dying) (f:Fatal) (w:World):Up w.drawn (writeOn P fr d f w):=by
 unfold writeOn
 simp only
 split
 ·trivial
 ·split
  ·rename_i h
   exact runT_ok h
  ·rename_i h
   exact runT_halt h
  ·trivial
  ·trivial
theorem die_up (P:Program) (fr:Frame) (d:Dying) (w:World):Up w.drawn (die P fr d w):=by
 unfold die
 split
 ·exact qp9 _ _ _ _ _
 ·split
  ·split
   ·exact Nat.le_refl _
   ·exact endWith_up _ _ _ _
  ·simp only
   split
   ·exact Nat.le_refl _
   ·split
    ·rename_i h
     exact q1f h
    ·trivial
   ·rw[q77]
    split
    ·rename_i h;exact q8l h
    ·rename_i h;exact q8l h
    ·trivial
    ·rename_i h;exact q4b (qei h) (q7v _ _ _ _)
    ·trivial
   ·trivial
theorem early_up (P:Program) (fr:Frame) (cs:List Frame) (d:Option Dying) (g:Nat) (w:World):Up w.drawn (early P fr cs d g w):=by
 have hn:∀ w':World,w.drawn≤w'.drawn→Up w.drawn (match w'.heap[g]? with
  | some (.pending c elem)=>
   .go { frame:=fr,callers:=cs,status:=.running,dying:=d } { w' with heap:=w'.heap.setIfInBounds g (.cells c elem) }
  | _=>.ended (.stuck "early: the variable does not wait" (fr.pos P)) w'):=fun w' h=>by
  split
  ·exact h
  ·trivial
 unfold early
 simp only
 repeat' split
 all_goals (first | exact trivial | exact Nat.le_refl _ | exact hn _ (Nat.le_refl _) | skip)
 all_goals (first | (rename_i h;have h9:=q1f h;exact h9) | (rename_i h _;have h9:=q1f h;exact h9) | (rename_i h _ _;have h9:=q1f h;exact h9) | (rename_i h _ _ _;have h9:=q1f h;exact h9) | (rename_i h _ _ _ _;have h9:=q1f h;exact h9) | (rename_i h _ _ _ _ _;have h9:=q1f h;exact h9) | (rename_i h _ _ _ _ _ _;have h9:=q1f h;exact h9))
theorem q89 (P:Program) (main:Bool) (fr:Frame) (cs:List Frame) (d:Option Dying) (v:Value) (w:World):Up w.drawn (doReturn P main fr cs d v w):=by
 unfold doReturn
 repeat' split
 all_goals (first | exact trivial | exact Nat.le_refl _)
theorem qdu (P:Program) (fr:Frame) (cs:List Frame) (dy:Option Dying) (d:Deferred) (w:World):Up w.drawn (callDeferred P fr cs dy d w):=by
 unfold callDeferred
 refine ite_up trivial ?_
 ·have:=q2q P (invoke d.target d.args) w #[]
  simp only
  rw[q77]
  generalize ((invoke d.target d.args).runT P w #[]).1=r at this ⊢
  repeat' split
  all_goals (first | exact trivial | exact this | exact q4b this (qde _ _ _ _ _ _) | exact q4b this (q5l _ _ _))
theorem unwind_up (P:Program) (main:Bool) (fr:Frame) (cs:List Frame) (dy:Option Dying) (w:World):Up w.drawn (unwind P main fr cs dy w):=by
 unfold unwind
 split
 ·rename_i block _ _ _
  have:=q2q P (Instr.takeDeferred block) w #[]
  simp only
  rw[q77]
  generalize ((Instr.takeDeferred block).runT P w #[]).1=r at this ⊢
  split
  ·exact this
  ·trivial
 ·exact qdu _ _ _ _ _ _
 ·split
  ·trivial
  ·split
   ·trivial
   ·split
    ·exact Nat.le_refl _
    ·split
     ·split
      ·exact Nat.le_refl _
      ·split
       ·rename_i h
        exact q1f h
       ·trivial
       ·trivial
     ·split
      ·exact q7v _ _ _ _
      ·trivial
  ·split
   ·exact q89 _ _ _ _ _ _ _
   ·rename_i fn _
    have:=q2q P (results fn fr.tmps) w #[]
    simp only
    rw[q77]
    generalize ((results fn fr.tmps).runT P w #[]).1=r at this ⊢
    split
    ·exact q4b this (q89 _ _ _ _ _ _ _)
    ·trivial
    ·trivial
theorem qbq (P:Program) (b:Bool) (fr:Frame) (cs:List Frame) (dy:Option Dying) (s:Sem Next) (w:World):Up w.drawn (stepG.apply P b fr cs dy s w):=by
 unfold stepG.apply
 have hr:w.drawn≤(rw' (if b=true then s.runT P w #[] else (s.run P w,#[])).1).drawn:=by
  split
  ·exact q2q P s w #[]
  ·exact q8k P s w
 simp only
 rw[q77]
 generalize (if b=true then s.runT P w #[] else (s.run P w,#[]))=x at hr ⊢
 obtain ⟨r,es⟩:=x
 simp only at hr ⊢
 split
 all_goals (try split)
 all_goals (first | exact trivial | exact hr | exact q4b hr (qde _ _ _ _ _ _) | exact q4b hr (q5l _ _ _) | exact q4b hr (early_up _ _ _ _ _ _) | exact ite_up (q4b hr (q5l _ _ _)) hr)
theorem oper_up (P:Program) (b:Bool) (fr:Frame) (cs:List Frame) (dy:Option Dying) (w:World):Up w.drawn (stepG.oper P b fr cs dy w):=by
 unfold stepG.oper
 split
 ·trivial
 ·split <;> exact qbq _ _ _ _ _ _ _
theorem exec_up (P:Program) (main b:Bool) (fr:Frame) (cs:List Frame) (dy:Option Dying) (w:World):Up w.drawn (stepG.exec P main b fr cs dy w):=by
 unfold stepG.exec
 simp only
 split
 all_goals (try first | exact trivial | exact Nat.le_refl _ | exact qbq _ _ _ _ _ _ _ | exact oper_up _ _ _ _ _ _)
 all_goals repeat' (first | exact trivial | exact Nat.le_refl _ | exact qbq _ _ _ _ _ _ _ | exact oper_up _ _ _ _ _ _ | rw[q77] | refine elim_up ?_ fun _=>?_ | split)
 all_goals (first | (exact q4b (q8l (by assumption)) (q89 _ _ _ _ _ _ _)) | (exact q4b (q8l (by assumption)) (qbq _ _ _ _ _ _ _)) | exact q8l (by assumption) | exact qei (by assumption) | exact q1f (by assumption))
theorem stepG_up (P:Program) (main:Bool) (g:Goroutine) (w:World) (b:Bool):Up w.drawn (stepG P main g w b):=by
 unfold stepG
 simp only
 split
 ·exact die_up _ _ _ _
 ·exact exec_up _ _ _ _ _ _ _
 ·exact unwind_up _ _ _ _ _ _
def UpS (n:Nat):Stepped→Prop
 | .next m=>n≤m.world.drawn
 | .ended _ _=>True
theorem q5b {n m:Nat} {s:Stepped} (h:n≤m) (hu:UpS m s):UpS n s:=by
 cases s <;> first | exact trivial | exact Nat.le_trans h hu
theorem look_up (P:Program) (gs:Array Goroutine) (rest:Rest) (w:World):UpS w.drawn (Go.look P gs rest w):=by
 unfold Go.look
 simp only
 repeat' split
 all_goals (first | exact trivial | (rename_i h;have h9:=q1f h;exact h9) | (rename_i h _;have h9:=q1f h;exact h9) | (rename_i h _ _;have h9:=q1f h;exact h9) | (rename_i h _ _ _;have h9:=q1f h;exact h9) | (rename_i h _ _ _ _;have h9:=q1f h;exact h9) | (rename_i h _ _ _ _ _;have h9:=q1f h;exact h9) | (rename_i h _ _ _ _ _ _;have h9:=q1f h;exact h9))
theorem serve_up (P:Program) (m:Machine) (k:Nat):UpS m.world.drawn (serve P m k):=by
 unfold serve
 simp only
 repeat' split
 all_goals (first | exact trivial | exact Nat.le_refl _)
theorem drain_up (w:World) (c:Nat):w.drawn≤(drain w c).2.drawn:=by
 unfold drain
 split <;> exact Nat.le_refl _
theorem qjp (m:Machine) (k:Nat) (t:Timer) (a b:Nat):m.world.drawn≤(retime m k t a b).2.world.drawn:=by
 unfold retime
 simp only
 split
 ·exact drain_up _ _
 ·exact Nat.le_refl _
theorem qpc {m m':Machine} {op:TimerOp} {v:Value} (h:timerOp m op=.ok (v,m')):m.world.drawn≤m'.world.drawn:=by
 have hnm:∀ (m0:Machine) (var:Addr) (f:Nat→Timer→Value×Machine),(∀ k t,m.world.drawn≤(f k t).2.world.drawn)→timerOp.named m0 var f=.ok (v,m')→m.world.drawn≤m'.world.drawn:=fun m0 var f hf h=>by
  unfold timerOp.named at h
  split at h
  ·rename_i k _
   injection h with h
   have:=hf k (m0.rest.timers.getD k default)
   rw[h] at this
   exact this
  ·cases h
 unfold timerOp at h
 split at h
 ·split at h
  ·cases h;exact Nat.le_refl _
  ·split at h
   ·split at h
    ·cases h
    ·cases h;exact Nat.le_refl _
   ·cases h
 ·exact hnm _ _ _ (fun k t=>qjp m k t _ _) h
 ·split at h
  ·rename_i m1 ho
   refine hnm _ _ _ (fun k t=>Nat.le_trans ?_ (qjp m1 k t _ _)) h
   unfold timerOp.opened at ho
   split at ho
   ·split at ho
    ·cases ho;exact Nat.le_refl _
    ·cases ho
   ·cases ho;exact Nat.le_refl _
  ·cases h
 ·cases h;exact Nat.le_refl _
theorem qe6 (P:Program) (rest:Rest) (gs:Array Goroutine) (i:Nat) (g:Goroutine) (cases_:Array CommCase) (b:Bool) (shape:CommShape) (w:World):UpS w.drawn (communicate P rest gs i g cases_ b shape w).1:=by
 unfold communicate
 simp only
 split
 ·trivial
 ·split
  ·split
   ·split
    ·rename_i h
     unfold waitingAt at h
     split at h
     ·split at h
      ·cases h;exact Nat.le_refl _
      ·cases h
     ·cases h;exact Nat.le_refl _
    ·trivial
   ·exact Nat.le_refl _
  ·split
   ·trivial
   ·rename_i hr
    have hr:=q1f hr
    refine q5b hr ?_
    repeat' split
    all_goals (first | exact trivial | exact Nat.le_refl _ | (rename_i h;have h9:=q1f h;exact h9) | (rename_i h _;have h9:=q1f h;exact h9) | (rename_i h _ _;have h9:=q1f h;exact h9) | (rename_i h _ _ _;have h9:=q1f h;exact h9) | (rename_i h _ _ _ _;have h9:=q1f h;exact h9) | (rename_i h _ _ _ _ _;have h9:=q1f h;exact h9) | (rename_i h _ _ _ _ _ _;have h9:=q1f h;exact h9) | (rename_i h;have h9:=run_halt h;exact h9) | (rename_i h _;have h9:=run_halt h;exact h9) | (rename_i h _ _;have h9:=run_halt h;exact h9) | (rename_i h _ _ _;have h9:=run_halt h;exact h9) | (rename_i h _ _ _ _;have h9:=run_halt h;exact h9) | (rename_i h _ _ _ _ _;have h9:=run_halt h;exact h9) | (rename_i h _ _ _ _ _ _;have h9:=run_halt h;exact h9))
theorem runT_up (P:Program) (m:Machine) (i:Nat) (b:Bool):UpS m.world.drawn (runT P m i b).1:=by
 unfold runT
 simp only
 generalize hs:stepG P (i==0) _ m.world b=s
 have hu:=stepG_up P (i==0) (m.gs.swapAt! i { (default:Goroutine) with status:=.finished }).1 m.world b
 rw[hs] at hu
 split
 ·trivial
 ·exact q5b hu (qe6 _ _ _ _ _ _ _ _ _)
 ·exact hu
 ·exact hu
 ·split
  ·trivial
  ·exact hu
 ·exact hu
 ·exact q5b hu (look_up _ _ _ _)
 ·exact hu
 ·exact hu
 ·split
  ·exact hu
  ·split
   ·rename_i h
    cases h;exact hu
   ·trivial
  ·trivial
 ·split
  ·rename_i h
   have:=qpc h
   exact Nat.le_trans hu this
  ·split
   ·rename_i h
    cases h;exact hu
   ·trivial
  ·trivial
  ·trivial
def UpM (n:Nat):Move→Prop
 | .goroutine m _=>n≤m.world.drawn
 | .machine s _=>UpS n s
theorem q8c {n m:Nat} {s:Move} (h:n≤m) (hu:UpM m s):UpM n s:=by
 cases s
 ·exact Nat.le_trans h hu
 ·exact q5b h hu
theorem qlz (P:Program) (rs:List Nat) (m:Machine):UpM m.world.drawn (match (choose (.sched rs.length)).run P m.world with
   | .halt _ w=>.machine (.ended (.stuck "sched" "") w)
   | .ok k world=>
    if rs.length≤1 then .goroutine { m with world } (rs.getD k 0) else
    match (choose (.extern "sched.slice" 65536)).run P world with
    | .halt _ w=>.machine (.ended (.stuck "sched.slice" "") w)
    | .ok n world=>.goroutine { m with world,rest:={ m.rest with slice:=if n=0 then none else some (rs.getD k 0,n) } } (rs.getD k 0)):=by
 split
 ·trivial
 ·rename_i h1
  split
  ·exact q1f h1
  ·split
   ·trivial
   ·rename_i h2
    exact Nat.le_trans (q1f h1) (q1f h2)
theorem qj9 (P:Program) (m:Machine):UpM m.world.drawn (askOn P m):=by
 unfold askOn
 simp only
 split
 ·trivial
 ·rename_i world h
  have h0:=q1f h
  split
  ·exact q5b h0 (serve_up P { m with world } _)
  ·split
   ·split
    ·exact h0
    ·split
     ·exact h0
     ·split <;> trivial
   ·split
    ·exact q8c h0 (qlz P _ { m with world })
    ·split
     ·trivial
     ·rename_i h2
      have h3:=q1f h2
      exact q8c (Nat.le_trans h0 h3) (qlz P (runnable m.gs m.world.os.mono) { m with world:=_ })
     ·rename_i h2
      have h3:=q1f h2
      exact Nat.le_trans h0 h3
     ·rename_i h2
      have h3:=q1f h2
      exact q8c (Nat.le_trans h0 h3) (qlz P (runnable m.gs m.world.os.mono) (Machine.advanceTo { m with world:=_ } _))
theorem ask_up (P:Program) (m:Machine):UpM m.world.drawn (ask P m):=by
 unfold ask
 split
 ·split
  ·trivial
  ·rename_i h
   have h1:=q1f h
   have h2:=look_up P m.gs m.rest (by assumption)
   split
   ·rename_i h3
    rw[h3] at h2
    exact q8c (Nat.le_trans h1 h2) (qj9 _ _)
   ·exact q5b h1 h2
  ·rename_i h
   exact q8c (q1f h) (qj9 _ _)
 ·exact qj9 _ _
theorem move_up (P:Program) (m:Machine):UpM m.world.drawn (move P m):=by
 unfold move
 repeat' split
 all_goals (first | exact trivial | exact Nat.le_refl _ | exact ask_up _ _)
theorem step_up (P:Program) (m:Machine):UpS m.world.drawn (step P m):=by
 unfold step stepT
 have:=move_up P m
 split
 ·rename_i h
  rw[h] at this
  exact q5b this (runT_up _ _ _ _)
 ·rename_i h
  rw[h] at this
  exact this
theorem steps_up {P:Program} {m m':Machine} (h:Steps P m m'):m.world.drawn≤m'.world.drawn:=by
 obtain ⟨n,h⟩:=h
 induction n generalizing m with
 | zero=>simp only[runN,Stepped.next.injEq] at h;subst h;exact Nat.le_refl _
 | succ n ih=>
  simp only[runN] at h
  have:=step_up P m
  cases hst:step P m with
  | next m1=>
   rw[hst] at this h
   exact Nat.le_trans this (ih h)
  | ended o w=>
   rw[hst] at h
   cases h
theorem comes_up {P:Program} {m m':Machine} {v:Value} (h:Comes P m m' (.returned v)):m.world.drawn≤m'.world.drawn:=steps_up h
theorem qnb {P:Program} {f:FuncId} {args:Array Value} {w:World} {R:Ending→World→Prop} (h:Calls P f args w R):Calls P f args w fun e w'=>R e w'∧∀ v,e=.returned v→w.drawn≤w'.drawn:=by
 intro cs
 obtain ⟨e,w',fr,h1,h2,h3⟩:=h cs
 refine ⟨e,w',fr,⟨h1,?_⟩,h2,h3⟩
 rintro v rfl
 exact comes_up h2
end Go.Sx

namespace Go.Sx
open Go.RowKit Go.Proofs Go.Sort
variable [Env]
theorem qia {w w':World} (h:Go.RowKit.Below w.heap.size w w') (hd:w.drawn≤w'.drawn):∃ q os,w'=grow (w.drewN q) os:=by
 refine ⟨w'.drawn - w.drawn,w'.heap.extract w.heap.size w'.heap.size,?_⟩
 have h1:w'.heap=w.heap++w'.heap.extract w.heap.size w'.heap.size:=by
  have hs:=h.size
  apply Array.ext_getElem?
  intro i
  by_cases hi:i<w.heap.size
  ·rw[h.block i hi,Array.getElem?_append_left hi]
  ·rw[Array.getElem?_append_right (by omega),Array.getElem?_extract]
   simp only[Nat.min_self]
   by_cases h2:i<w'.heap.size
   ·rw[if_pos (by omega)];congr 1;omega
   ·rw[if_neg (by omega)];exact Array.getElem?_eq_none (by omega)
 cases w'
 cases w
 simp only[grow,World.drewN] at *
 have e1:=h.os;have e2:=h.tape;have e3:=h.output
 simp only at e1 e2 e3
 subst e1;subst e2;subst e3
 rw[← h1]
 simp only[World.mk.injEq,true_and,and_true]
 omega
def Anti {α:Type} (cf:α→α→Int) (xs:List α):Prop:=∀ x∈xs,∀ y∈xs,¬ cf x y<0→¬ cf y x<0→x=y
def srtBy {α:Type} (cf:α→α→Int) (xs:List α):List α:=xs.mergeSort fun x y=>!decide (cf y x<0)
theorem qcg {α:Type} {le:α→α→Prop}:∀ {xs ys:List α},(∀ x∈xs,∀ y∈xs,le x y→le y x→x=y)→xs.Perm ys→xs.Pairwise le→ys.Pairwise le→xs=ys
 | [],ys,_,h,_,_=>by simpa using h
 | x :: xs,[],_,h,_,_=>by simp at h
 | x :: xs,y :: ys,ha,h,h1,h2=>by
  have hxy:x=y:=by
   have m1:x∈y :: ys:=h.subset (List.mem_cons_self ..)
   have m2:y∈x :: xs:=h.symm.subset (List.mem_cons_self ..)
   rcases List.mem_cons.1 m1 with rfl | m1
   ·rfl
   ·rcases List.mem_cons.1 m2 with rfl | m2
    ·rfl
    ·exact ha x (List.mem_cons_self ..) y (List.mem_cons_of_mem _ m2) ((List.pairwise_cons.1 h1).1 _ m2) ((List.pairwise_cons.1 h2).1 _ m1)
  subst hxy
  rw[qcg (fun a h3 b h4=>ha a (List.mem_cons_of_mem _ h3) b (List.mem_cons_of_mem _ h4)) (List.Perm.cons_inv h) (List.pairwise_cons.1 h1).2 (List.pairwise_cons.1 h2).2]
theorem q78 {α:Type} (cf:α→α→Int) (xs:List α):(srtBy cf xs).Perm xs:=List.mergeSort_perm _ _
theorem q9y {α:Type} (cf:α→α→Int) (hO:SWO fun x y=>decide (cf x y<0)) (xs:List α):(srtBy cf xs).Pairwise fun x y=>¬ cf y x<0:=by
 have:=List.pairwise_mergeSort (le:=fun x y:α=>!decide (cf y x<0)) (fun a b c h1 h2=>by
  have:=hO.ntrans c b a
  simp_all) (fun a b=>by
  cases h:decide (cf b a<0) with
  | false=>simp
  | true=>
   cases h':decide (cf a b<0) with
   | false=>simp
   | true=>
    have:=hO.trans _ _ _ h h'
    rw[hO.irrefl] at this
    cases this) xs
 exact this.imp fun h=>by simpa using h
theorem q9x {α:Type} {cf:α→α→Int} (hO:SWO fun x y=>decide (cf x y<0)) {xs ys:List α} (ha:Anti cf xs) (hp:ys.Perm xs) (hs:ys.Pairwise fun x y=>¬ cf y x<0):ys=srtBy cf xs:=by
 refine qcg (le:=fun x y=>¬ cf y x<0) (fun x hx y hy h1 h2=>?_) (hp.trans (q78 cf xs).symm) hs (q9y cf hO xs)
 exact ha x (hp.subset hx) y (hp.subset hy) h2 h1
theorem fits_map1 {n:Nat} {ρ:Rh} {l:List SV} {v:List Value} (h:l.all SV.one=true) (hf:SV.fits n ρ l v):∀ x∈v,x.oneCell'=true:=by
 induction l generalizing v with
 | nil=>have:=q0i hf;subst this;simp
 | cons s l ih=>
  obtain ⟨x,r,rfl,h1,h2⟩:=q05 hf
  simp only[List.all_cons,Bool.and_eq_true] at h
  intro y hy
  rcases List.mem_cons.1 hy with rfl | hy
  ·exact SV.one_fit h.1 h1
  ·exact ih h.2 h2 y hy
section
variable {P:Program} {ρ:Go.Shelf.Ren} {α:Type} {A:El α} {t g:Nat} {cf:α→α→Int} {pre:α×α→List Prop}
set_option maxHeartbeats 1000000 in
theorem qh6 (L:SlLaysF0.n6 P ρ) (aE:∀ w,(isAgg (ρ.t 24)).run P w=.ok true w) (zE:∀ w,(Go.sizeOf (ρ.t 24)).run P w=.ok A.sz w) (hz:0<A.sz) (eg:∀ args w,(callFunc g args).run P w=.ok (.enter g args) w)
  (hO:SWO fun x y=>decide (cf x y<0)) (hcmp:q04 P g (DA.cons (Dv.agg A) (DA.one (Dv.agg A))) (dInt .i64) (fun x=>cf x.1 x.2) pre) :
  FnMut P (ρ.f 6) t A (DA.one (dFn g)) (RM.pure (Dv.tup DA.none)) (fun xs _=>(srtBy cf xs,())) (fun xs _=>[xs.length<4611686018427387904,Anti cf xs,∀ x∈xs,∀ y∈xs,∀ p∈pre (x,y),p]):=by
 intro w F Lc0 xs _ v0 vs hF hE hFo hv0 hpre hrow hfit
 have hlen:=hpre _ (List.mem_cons_self ..)
 have hanti:=hpre _ (List.mem_cons_of_mem _ (List.mem_cons_self ..))
 have hpp:=hpre _ (List.mem_cons_of_mem _ (List.mem_cons_of_mem _ (List.mem_cons_self ..)))
 obtain ⟨vf,r,rfl,hvf,hr⟩:=q05 hfit
 have:=q0i hr
 subst this
 obtain ⟨lf,rfl,hlf⟩:=hvf
 have:=q0i hlf
 subst this
 cases hxs:xs with
 | nil=>
  subst hxs
  have hv:∃ p c,v0=.slice p 0 c:=by
   rcases hv0 with ⟨_,_,a,rfl⟩ | ⟨_,rfl⟩
   ·exact ⟨_,_,rfl⟩
   ·exact ⟨_,_,rfl⟩
  obtain ⟨p,c,rfl⟩:=hv
  refine (AnyF.slices_SortFunc_none L p c (.func (.func g) #[] #[]) w).mono ?_
  rintro e w' ⟨rfl,rfl⟩
  refine ⟨_,rfl,⟨rfl,rfl,rfl,Nat.le_refl _,fun _ _ _=>rfl⟩,?_,fun m i ρ' _ _ _=>⟨[],rfl,trivial⟩⟩
  have:srtBy cf ([]:List α)=[]:=by simp[srtBy]
  simp only[this]
  exact qhc A (ρ:=emp F) (fun b o h=>by
   simp only[emp,memAt]
   have:=(Array.getElem?_eq_some_iff.1 (hF b o h)).1
   rw[if_pos this];exact h) hrow
 | cons x0 xs0=>
  have hpos:0<xs.length:=by rw[hxs];simp
  rw[← hxs]
  rcases hv0 with ⟨_,h0,_⟩ | ⟨hnl,rfl⟩
  ·omega
  rcases hrow.2 with ⟨h0,_⟩ | ⟨_,hoff,c,fz,hob,hfz,hcs,hmc,hcm,hall⟩
  ·rw[hnl] at h0;cases h0
  have hblk:Lc0.blk<w.heap.size:=(Array.getElem?_eq_some_iff.1 hob).1
  let β:Type:={ p:α×List Value // p.1∈xs∧p.2.length=A.sz∧SV.fits 0 (emp F) (A.cells p.1) p.2 }
  have hcell:∀ i (hi:i<xs.length),∃ l:List Value,l.length=A.sz∧SV.fits 0 (emp F) (A.cells xs[i]) l∧∀ j x,l[j]?=some x→c[i * A.sz+j]?=some x:=fun i hi=>by
   obtain ⟨l,q1,q2,q3⟩:=hall i hi
   refine ⟨l,q1,?_,fun j x h=>by simpa using q3 j x h⟩
   have e0:A.els xs i=A.cells xs[i]:=by simp[El.els,List.getD_eq_getElem?_getD,hi]
   rw[← e0]
   exact q2
  let mk:Fin xs.length→β:=fun i=>⟨(xs[i],Classical.choose (hcell i i.2)),List.getElem_mem _,(Classical.choose_spec (hcell i i.2)).1,(Classical.choose_spec (hcell i i.2)).2.1⟩
  letI:Inhabited β:=⟨mk ⟨0,hpos⟩⟩
  let d:Array β:=Array.ofFn mk
  have hds:d.size=xs.length:=by simp[d]
  have hdi:∀ i (hi:i<xs.length),d[i]! = mk ⟨i,hi⟩:=fun i hi=>by
   rw[getElem!_pos d i (by omega)]
   simp[d]
  let enc:β→List Value:=fun x=>x.1.2
  let cf':β→β→Int:=fun x y=>cf x.1.1 y.1.1
  have hO':SWO (ltOf cf'):={ irrefl:=fun x=>hO.irrefl x.1.1,trans:=fun x y z=>hO.trans x.1.1 y.1.1 z.1.1,ntrans:=fun x y z=>hO.ntrans x.1.1 y.1.1 z.1.1 }
  have hkl:∀ x,(enc x).length=A.sz:=fun x=>x.2.2.1
  have hflat:∀ j,j<xs.length * A.sz→c[j]?=some (flatK enc A.sz d)[j]!:=fun j hj=>by
   rw[get_flatK _ _ _ _ (by rw[hds];exact hj)]
   have hdv:j / A.sz<xs.length:=Nat.div_lt_of_lt_mul (by rw[Nat.mul_comm];exact hj)
   rw[hdi _ hdv]
   have hspec:=(Classical.choose_spec (hcell (j / A.sz) hdv)).2.2 (j % A.sz)
   have hl:(Classical.choose (hcell (j / A.sz) hdv)).length=A.sz:=(Classical.choose_spec (hcell (j / A.sz) hdv)).1
   have hm:j % A.sz<A.sz:=Nat.mod_lt _ hz
   have:=hspec (Classical.choose (hcell (j / A.sz) hdv))[j % A.sz] (by rw[List.getElem?_eq_getElem])
   rw[Nat.div_add_mod'] at this
   rw[this]
   show some _=some ((enc (mk ⟨j / A.sz,hdv⟩))[j % A.sz]!)
   rw[getElem!_pos]
  have hsz:(flatK enc A.sz d).size=xs.length * A.sz:=by rw[size_flatK,hds]
  have hcb:xs.length * A.sz≤c.size:=by rw[hcs];exact Nat.mul_le_mul_right _ hmc
  have hH:HoldsK enc A.sz w Lc0.blk 0 d:=by
   intro j hj
   rw[hsz] at hj
   constructor
   ·simp only[World.cell?,hob,Option.isSome_none,Bool.false_eq_true,if_false,id_eq,Nat.zero_add]
    exact hflat j hj
   ·simp only[World.frozen?,hob,Nat.zero_add]
    have:=hfz j (by omega)
    simp only[Bool.and_eq_false_iff,decide_eq_false_iff_not]
    exact Classical.not_and_iff_not_or_not.1 this
  have hmem:∀ (m:Nat) (dk:Array β) (os:Array Obj) b o,F b=some o→(sortWorldK enc A.sz w Lc0.blk 0 m dk os).heap[b]?=some o:=fun m dk os b o hb=>by
   have hne:b≠Lc0.blk:=by
    rintro rfl
    rw[hFo _ ⟨hnl,rfl⟩] at hb;cases hb
   have hlt:=(Array.getElem?_eq_some_iff.1 (hF b o hb)).1
   simp only[sortWorldK,grow,putRowK,putRow,mapBlock]
   rw[Array.getElem?_append_left (by simpa using hlt),Array.getElem?_modify,if_neg (fun h=>hne h.symm)]
   exact hF b o hb
  have hC:CmpLays P g #[] enc A.sz cf' Lc0.blk 0 d.size w:=by
   intro m os dk _ x y
   have hfx:∀ x:β,(SV.agg (A.cells x.1.1)).fit 0 (emp F) (.agg (enc x).toArray):=fun x=>⟨_,rfl,x.2.2.2⟩
   have:=qnb (hcmp (sortWorldK enc A.sz w Lc0.blk 0 m dk os) F (x.1.1,y.1.1) [.agg (enc x).toArray,.agg (enc y).toArray] (hmem m dk os) hE (hpp _ x.2.1 _ y.2.1) ⟨hfx x,hfx y,trivial⟩)
   refine this.mono ?_
   rintro e w' ⟨⟨x',rfl,hb,hx⟩,hd⟩
   exact ⟨by have hx:x'=_:=hx;rw[hx],qia hb (hd _ rfl)⟩
  have hmain:=AnyQ.slices_SortFunc L A.sz aE zE enc hkl (fun x v hv=>fits_map1 (A.one x.1.1) x.2.2.2 v hv) cf' hO' g #[] Lc0.blk 0 Lc0.cap d w eg hC hH hblk (by rw[hds];exact hlen)
  rw[hds] at hmain
  refine hmain.mono ?_
  rintro e w' ⟨rfl,d',n,os,hp,hs,rfl⟩
  have hd's:d'.size=xs.length:=hp.1.trans hds
  have hys:d'.toList.map (fun x=>x.1.1)=srtBy cf xs:=by
   apply q9x hO hanti
   ·have h1:=hp.2.2
    have e1:d'.extract 0 xs.length=d':=by rw[← hd's];simp
    have e2:d.extract 0 xs.length=d:=by rw[← hds];simp
    rw[e1,e2] at h1
    have h2:=h1.map (fun x:β=>x.1.1)
    have e3:d.toList.map (fun x:β=>x.1.1)=xs:=by
     apply List.ext_getElem
     ·simp[hds]
     ·intro i h1 h2
      simp[d,mk]
    rw[e3] at h2
    exact h2
   ·rw[List.pairwise_map,List.pairwise_iff_getElem]
    intro i j hi hj hij
    have hi':i<d'.size:=by simpa using hi
    have hj':j<d'.size:=by simpa using hj
    have:=hs i j (Nat.zero_le _) hij (by omega)
    rw[getElem!_pos d' i hi',getElem!_pos d' j hj'] at this
    simpa [ltOf,cf'] using this
  have hblock:∀ k,k<w.heap.size→k≠Lc0.blk→(sortWorldK enc A.sz w Lc0.blk 0 n d' os).heap[k]?=w.heap[k]?:=fun k hk hne=>by
   simp only[sortWorldK,grow,putRowK,putRow,mapBlock]
   rw[Array.getElem?_append_left (by simpa using hk),Array.getElem?_modify,if_neg (fun h=>hne h.symm)]
   rfl
  have hnew:(sortWorldK enc A.sz w Lc0.blk 0 n d' os).heap[Lc0.blk]?=some (.cells (putCells id 0 (flatK enc A.sz d') c) t fz):=by
   simp only[sortWorldK,grow,putRowK,putRow,mapBlock]
   rw[Array.getElem?_append_left (by simpa using hblk),Array.getElem?_modify,if_pos rfl]
   show (w.heap[Lc0.blk]?).map _=_
   rw[hob]
   rfl
  have hle:w.heap.size≤(sortWorldK enc A.sz w Lc0.blk 0 n d' os).heap.size:=size_sortWorldK_c enc A.sz w Lc0.blk 0 n d' os
  refine ⟨_,rfl,⟨rfl,rfl,rfl,hle,fun k hk hB=>hblock k hk fun h=>hB ⟨hnl,h⟩⟩,?_,fun m i ρ' _ _ _=>⟨[],rfl,trivial⟩⟩
  have hylen:(srtBy cf xs).length=xs.length:=(q78 cf xs).length_eq
  have hmF:∀ b o,F b=some o→memAt F w (sortWorldK enc A.sz w Lc0.blk 0 n d' os) b=some o:=fun b o h=>by
   simp only[memAt]
   rw[if_pos (Array.getElem?_eq_some_iff.1 (hF b o h)).1];exact h
  refine ⟨by rw[hylen];exact hrow.1,.inr ⟨hnl,hoff,_,fz,hnew,by simpa [putCells] using hfz,by simpa [putCells] using hcs,by rw[hylen];exact hmc,hcm,fun e he=>?_⟩⟩
  rw[hylen] at he
  have hed:e<d'.size:=by omega
  refine ⟨enc d'[e],hkl _,?_,fun j x hx=>?_⟩
  ·have h1:(srtBy cf xs).getD e A.dflt=d'[e].1.1:=by
    rw[← hys,List.getD_eq_getElem?_getD]
    simp[hed]
   show SV.fits 0 _ (A.cells ((srtBy cf xs).getD e A.dflt)) _
   rw[h1]
   exact A.cl _ _ _ (emp F) _ _ hmF d'[e].2.2.2
  ·have hj:j<A.sz:=by
    have:=(List.getElem?_eq_some_iff.1 hx).1
    rw[hkl] at this;exact this
   have hlt:e * A.sz+j<xs.length * A.sz:=by
    have:=Nat.mul_le_mul_right A.sz (show e+1≤xs.length from he)
    rw[Nat.add_mul,Nat.one_mul] at this;omega
   have hcz:e * A.sz+j<c.size:=by omega
   simp only[putCells,Nat.zero_add,Array.getElem?_mapIdx,Array.getElem?_eq_getElem hcz,Option.map_some]
   rw[if_pos ⟨Nat.zero_le _,by rw[size_flatK,hd's];exact hlt⟩,Nat.sub_zero,id_eq,get_flatK _ _ _ _ (by rw[hd's];exact hlt)]
   have e1:(e * A.sz+j) / A.sz=e:=by
    rw[Nat.mul_comm,Nat.mul_add_div hz,Nat.div_eq_of_lt hj];rfl
   have e2:(e * A.sz+j) % A.sz=j:=by
    rw[Nat.mul_comm,Nat.mul_add_mod,Nat.mod_eq_of_lt hj]
   rw[e1,e2,getElem!_pos d' e hed]
   have hj2:j<(enc d'[e]).length:=by rw[hkl];exact hj
   rw[getElem!_pos (enc d'[e]) j hj2]
   rw[List.getElem?_eq_getElem hj2] at hx
   exact hx
end
end Go.Sx

namespace Go.Lp
open Go.Sx Go.Sort
variable [Env]
section
variable {α:Type} [DecidableEq α] {cf:α→α→Int}
structure TO (cf:α→α→Int):Prop where
 swo:SWO fun x y=>decide (cf x y<0)
 anti:∀ x y,¬ cf x y<0→¬ cf y x<0→x=y
theorem TO.irrefl (h:TO cf) (x:α):¬ cf x x<0:=by have:=h.swo.irrefl x;simpa using this
theorem TO.trans (h:TO cf) {x y z:α} (h1:cf x y<0) (h2:cf y z<0):cf x z<0:=by
 have:=h.swo.trans x y z (by simpa using h1) (by simpa using h2)
 simpa using this
theorem TO.asymm (h:TO cf) {x y:α} (h1:cf x y<0):¬ cf y x<0:=fun h2=>h.irrefl x (h.trans h1 h2)
theorem TO.lt_or (h:TO cf) {x y:α} (hne:x≠y) (h1:¬ cf x y<0):cf y x<0:=Classical.byContradiction fun h2=>hne (h.anti x y h1 h2)
theorem q5c (h:TO cf):∀ {l m:List α},l.Pairwise (fun x y=>cf x y<0)→m.Pairwise (fun x y=>cf x y<0)→(∀ x,x∈l↔x∈m)→l=m
 | [],[],_,_,_=>rfl
 | [],y :: m,_,_,he=>by have:=(he y).2 (List.mem_cons_self ..);cases this
 | x :: l,[],_,_,he=>by have:=(he x).1 (List.mem_cons_self ..);cases this
 | x :: l,y :: m,h1,h2,he=>by
  rw[List.pairwise_cons] at h1 h2
  have hxy:x=y:=by
   have a:=(he x).1 (List.mem_cons_self ..)
   have b:=(he y).2 (List.mem_cons_self ..)
   rcases List.mem_cons.1 a with e | a
   ·exact e
   ·rcases List.mem_cons.1 b with e | b
    ·exact e.symm
    ·exact absurd (h1.1 y b) (h.asymm (h2.1 x a))
  subst hxy
  congr 1
  refine q5c h h1.2 h2.2 fun z=>?_
  have:=he z
  simp only[List.mem_cons] at this
  constructor
  ·intro hz
   rcases this.1 (.inr hz) with e | h3
   ·subst e;exact absurd (h1.1 z hz) (h.irrefl z)
   ·exact h3
  ·intro hz
   rcases this.2 (.inr hz) with e | h3
   ·subst e;exact absurd (h2.1 z hz) (h.irrefl z)
   ·exact h3
theorem dd_mem:∀ {r:List α} {p x:α},x∈p :: dd p r↔x∈p :: r
 | [],_,_=>Iff.rfl
 | y :: r,p,x=>by
  simp only[dd]
  by_cases hy:y=p
  ·subst hy
   rw[if_pos rfl,dd_mem (r:=r)]
   simp
  ·rw[if_neg hy]
   have:=dd_mem (r:=r) (p:=y) (x:=x)
   simp only[List.mem_cons] at this ⊢
   rw[this]
theorem qdl (h:TO cf):∀ {r:List α} {p:α},(p :: r).Pairwise (fun x y=>¬ cf y x<0)→(p :: dd p r).Pairwise (fun x y=>cf x y<0)
 | [],_,_=>by simp[dd]
 | y :: r,p,hs=>by
  rw[List.pairwise_cons] at hs
  simp only[dd]
  by_cases hy:y=p
  ·rw[if_pos hy]
   subst hy
   exact qdl h hs.2
  ·rw[if_neg hy]
   have ih:=qdl h hs.2
   rw[List.pairwise_cons]
   refine ⟨fun z hz=>?_,ih⟩
   have hpy:cf p y<0:=h.lt_or hy (hs.1 y (List.mem_cons_self ..))
   rcases List.mem_cons.1 hz with e | hz
   ·rw[e];exact hpy
   ·rw[List.pairwise_cons] at ih
    exact h.trans hpy (ih.1 z hz)
theorem qn8 (h:TO cf) {xs:List α} (hs:xs.Pairwise (fun x y=>¬ cf y x<0)):(compL xs).Pairwise (fun x y=>cf x y<0):=by
 cases xs with
 | nil=>exact List.Pairwise.nil
 | cons x r=>exact qdl h hs
theorem comp_mem {xs:List α} {x:α}:x∈compL xs↔x∈xs:=by
 cases xs with
 | nil=>exact Iff.rfl
 | cons y r=>exact dd_mem
def insU (cf:α→α→Int) (s:α):List α→List α
 | []=>[s]
 | y :: r=>if y=s then y :: r else if cf s y<0 then s :: y :: r else y :: insU cf s r
theorem qi5 {s x:α}:∀ {l:List α},x∈insU cf s l↔x=s∨x∈l
 | []=>by simp[insU]
 | y :: r=>by
  simp only[insU]
  by_cases hy:y=s
  ·rw[if_pos hy]
   subst hy
   simp
  ·rw[if_neg hy]
   by_cases hl:cf s y<0
   ·rw[if_pos hl];simp
   ·rw[if_neg hl,List.mem_cons,qi5 (l:=r),List.mem_cons]
    constructor
    ·rintro (h | h | h) <;> simp[h]
    ·rintro (h | h | h) <;> simp[h]
theorem q87 (h:TO cf) {s:α}:∀ {l:List α},l.Pairwise (fun x y=>cf x y<0)→(insU cf s l).Pairwise (fun x y=>cf x y<0)
 | [],_=>by simp[insU]
 | y :: r,hs=>by
  simp only[insU]
  rw[List.pairwise_cons] at hs
  by_cases hy:y=s
  ·rw[if_pos hy,List.pairwise_cons];exact hs
  ·rw[if_neg hy]
   by_cases hl:cf s y<0
   ·rw[if_pos hl,List.pairwise_cons]
    refine ⟨fun z hz=>?_,List.pairwise_cons.2 hs⟩
    rcases List.mem_cons.1 hz with e | hz
    ·rw[e];exact hl
    ·exact h.trans hl (hs.1 z hz)
   ·rw[if_neg hl,List.pairwise_cons]
    refine ⟨fun z hz=>?_,q87 h hs.2⟩
    rcases qi5.1 hz with e | hz
    ·rw[e];exact h.lt_or (fun e=>hy e.symm) hl
    ·exact hs.1 z hz
def q8q (cf:α→α→Int) (xs:List α):List α:=xs.foldl (fun l s=>insU cf s l) []
theorem q7g (h:TO cf):∀ {xs l:List α},l.Pairwise (fun x y=>cf x y<0)→(xs.foldl (fun l s=>insU cf s l) l).Pairwise (fun x y=>cf x y<0)∧∀ x,x∈xs.foldl (fun l s=>insU cf s l) l↔x∈xs∨x∈l
 | [],l,hl=>⟨hl,fun x=>by simp⟩
 | y :: xs,l,hl=>by
  obtain ⟨h1,h2⟩:=q7g h (xs:=xs) (q87 h (s:=y) hl)
  refine ⟨h1,fun x=>?_⟩
  rw[List.foldl_cons,h2 x,qi5,List.mem_cons]
  constructor
  ·rintro (h | h | h) <;> simp[h]
  ·rintro ((h | h) | h) <;> simp[h]
theorem sorted_put (h:TO cf) (xs:List α):compL (srtBy cf xs)=q8q cf xs:=by
 obtain ⟨h1,h2⟩:=q7g h (xs:=xs) (l:=[]) List.Pairwise.nil
 refine q5c h (qn8 h (q9y cf h.swo xs)) h1 fun x=>?_
 unfold q8q
 rw[comp_mem,(q78 cf xs).mem_iff,h2 x]
 simp
end
end Go.Lp

namespace Go.Lp
open Go.Sx Go.Sort
variable [Env]
def lexC:List Int→List Int→Int
 | [],[]=>0
 | [],_ :: _=>-1
 | _ :: _,[]=>1
 | x :: r,y :: s=>if x<y then -1 else if y<x then 1 else lexC r s
theorem qf6:∀ x:List Int,¬ lexC x x<0
 | []=>by simp[lexC]
 | x :: r=>by simp only[lexC];rw[if_neg (by omega),if_neg (by omega)];exact qf6 r
theorem qcu:∀ x y z:List Int,lexC x y<0→lexC y z<0→lexC x z<0
 | [],[],_,h,_=>by simp[lexC] at h
 | [],_ :: _,[],_,h=>by simp[lexC] at h
 | [],_ :: _,_ :: _,_,_=>by simp[lexC]
 | _ :: _,[],_,h,_=>by simp[lexC] at h
 | _ :: _,_ :: _,[],_,h=>by simp[lexC] at h
 | x :: r,y :: s,z :: t,h1,h2=>by
  simp only[lexC] at h1 h2 ⊢
  by_cases a:x<y
  ·by_cases b:y<z
   ·rw[if_pos (by omega)];omega
   ·rw[if_neg b] at h2
    by_cases c:z<y
    ·rw[if_pos c] at h2;omega
    ·rw[if_pos (by omega)];omega
  ·rw[if_neg a] at h1
   by_cases b:y<x
   ·rw[if_pos b] at h1;omega
   ·rw[if_neg b] at h1
    have:x=y:=by omega
    subst this
    by_cases c:x<z
    ·rw[if_pos c];omega
    ·rw[if_neg c] at h2 ⊢
     by_cases d:z<x
     ·rw[if_pos d] at h2;omega
     ·rw[if_neg d] at h2 ⊢
      exact qcu r s t h1 h2
theorem qhx:∀ x y:List Int,¬ lexC x y<0→¬ lexC y x<0→x=y
 | [],[],_,_=>rfl
 | [],_ :: _,h,_=>by simp[lexC] at h
 | _ :: _,[],_,h=>by simp[lexC] at h
 | x :: r,y :: s,h1,h2=>by
  simp only[lexC] at h1 h2
  by_cases a:x<y
  ·rw[if_pos a] at h1;omega
  ·rw[if_neg a] at h1
   by_cases b:y<x
   ·rw[if_pos b] at h2;omega
   ·rw[if_neg b] at h1 h2
    rw[if_neg a] at h2
    rw[qhx r s h1 h2]
    congr 1
    omega
theorem lex_tot {x y:List Int} (h:¬ lexC x y<0):x=y∨lexC y x<0:=by
 by_cases h2:lexC y x<0
 ·exact .inr h2
 ·exact .inl (qhx x y h h2)
theorem to_lex {α:Type} (key:α→List Int) (hk:∀ a b,key a=key b→a=b) {cf:α→α→Int} (he:∀ a b,cf a b<0↔lexC (key a) (key b)<0):TO cf where
 swo:={
  irrefl:=fun x=>by simp only[decide_eq_false_iff_not,he];exact qf6 _
  trans:=fun x y z h1 h2=>by
   simp only[decide_eq_true_eq,he] at *
   exact qcu _ _ _ h1 h2
  ntrans:=fun x y z h1 h2=>by
   simp only[decide_eq_false_iff_not,he] at *
   intro h3
   rcases lex_tot h1 with e | e
   ·rw[e] at h3;exact h2 h3
   ·exact h2 (qcu _ _ _ e h3) }
 anti:=fun x y h1 h2=>by
  rw[he] at h1 h2
  exact hk _ _ (qhx _ _ h1 h2)
end Go.Lp
