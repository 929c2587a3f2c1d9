/- Contracts of functions that write a slice which is handed in: a row of the caller's own. -/
import Derived.Test.YthnojkbkojpadaaGreatZG056c14bf
import Derived.Calls
import Derived.RunT
import Derived.StepT
set_option linter.unusedVariables false
set_option linter.unusedSimpArgs false
set_option linter.constructorNameAsVariable false
set_option linter.all false

namespace Go.Sx
open Go.RowKit
variable[Env]
def ownB(L:Lc):Nat->Prop:=λb=>L.nl=false/\b=L.blk
structure zxd(B:Nat->Prop)(w w':World):Prop where
 os:w'.os=w.os
 tape:w'.tape=w.tape
 output:w'.output=w.output
 size:w.heap.size<=w'.heap.size
 block:∀k,k<w.heap.size->¬B k->w'.heap[k]?=w.heap[k]?
structure RM(δ:Type)where
 dec:SV->Option (δ×List Prop)
 enc:Nat->δ->SV
 ok:∀(s:SV)(d:δ)(ps:List Prop),dec s=some (d,ps)->(∀p∈ps,p)->∀(n m i:Nat)(ρ ρ':Rh)(x:Value),(∀b o,ρ.mem b=some o->ρ'.mem b=some o)->ρ' i=ρ 0->i<m->s.fit n ρ x->(enc i d).fit m ρ' x
 cl:∀(i:Nat)(d:δ)(n m:Nat)(ρ ρ':Rh)(x:Value),(∀b o,ρ.mem b=some o->ρ'.mem b=some o)->ρ' i=ρ i->i<m->(enc i d).fit n ρ x->(enc i d).fit m ρ' x
def RM.pure{δ:Type}(R:Dv δ):RM δ where
 dec:=R.dec
 enc _ d:=R.enc d
 ok s d ps hd hp n m i ρ ρ' x hm _ _ hf:=R.cl d n m ρ ρ' x hm (R.ok _ _ _ _ _ _ hd hp hf)
 cl i d n m ρ ρ' x hm _ _ hf:=R.cl d n m ρ ρ' x hm hf
def RM.self:RM Nat where
 dec s:=match s with
  | .ow 0 k=>some (k,[])
  | .opt b (.ow 0 k)=>some (k,[b=true])
  |_=>none
 enc i k:=.ow i k
 ok s d ps hd hp n m i ρ ρ' x hm hi him hf:=by
  split at hd
  .simp only[Option.some.injEq,Prod.mk.injEq]at hd;obtain⟨rfl,rfl⟩:=hd;obtain⟨_,hf⟩:=hf;exact⟨him,by rw[hi];exact hf⟩
  .simp only[Option.some.injEq,Prod.mk.injEq]at hd;obtain⟨rfl,rfl⟩:=hd;obtain⟨_,hf⟩:=hf (hp _ (List.mem_cons_self ..));exact⟨him,by rw[hi];exact hf⟩
  .cases hd
 cl i d n m ρ ρ' x hm hi him hf:=by
  obtain⟨_,hf⟩:=hf;exact⟨him,by rw[hi];exact hf⟩
section
variable{α:Type}(A:El α)
abbrev rowA(t:TypeId)(xs:List α):SO:=.row t A.sz (.fn (A.els xs)) xs.length
theorem qfx{t:TypeId}{xs:List α}{n m:Nat}{ρ ρ':Rh}{L:Lc}{o:Option Obj}(hm:∀b o,ρ.mem b=some o->ρ'.mem b=some o)(h:(rowA A t xs).fit n ρ L o):(rowA A t xs).fit m ρ' L o:=by
 refine⟨h.1,?_⟩;rcases h.2 with h2|⟨h1,h2,c,fz,h3,h3',h4,h5,h6,h7⟩
 .exact .inl h2
 .refine .inr ⟨h1,h2,c,fz,h3,h3',h4,h5,h6,λe he=>?_⟩;obtain⟨l,q1,q2,q3⟩:=h7 e he;exact⟨l,q1,A.cl _ _ _ _ _ _ hm q2,q3⟩
theorem qqz{t:TypeId}{el:ElE}{k n m:Nat}{ρ ρ':Rh}{L:Lc}{o:Option Obj}(hm:∀b o,ρ.mem b=some o->ρ'.mem b=some o)(hk:∀e,e<k->A.Ok (el e))(h:(SO.row t A.sz el k).fit n ρ L o):(rowA A t (A.lstE k el)).fit m ρ' L o:=by
 rw[A.lstE_eq];refine⟨by rw[A.lst_length];exact h.1,?_⟩;rw[A.lst_length];rcases h.2 with h2|⟨h1,h2,c,fz,h3,h3',h4,h5,h6,h7⟩
 .exact .inl h2
 .refine .inr ⟨h1,h2,c,fz,h3,h3',h4,h5,h6,λe he=>?_⟩;obtain⟨l,q1,q2,q3⟩:=h7 e he;obtain⟨a,ps,d1,d2⟩:=hk e he;refine⟨l,q1,?_,q3⟩;have:=A.cl a n m ρ ρ' l hm (A.ok _ _ _ _ _ _ d1 d2 q2);show SV.fits m ρ' (A.cells ((A.lst k el).getD e A.dflt)) l;rw[A.lst_getD _ _ _ he];simpa only [El.get,d1]using this
end
def qht{α γ δ:Type}(P:Program)(f:Nat)(t:TypeId)(A:El α)(D:DA γ)(R:RM δ)(fn:List α->γ->List α×δ)(pre:List α->γ->List Prop):Prop:=
 ∀(w:World)(F:Nat->Option Obj)(L:Lc)(xs:List α)(g:γ)(v0:Value)(vs:List Value),(∀b o,F b=some o->w.heap[b]?=some o)->Env.E F->(∀b,ownB L b->F b=none)->OwV L xs.length v0->
  (∀p∈pre xs g,p)->(rowA A t xs).fit 0 (emp F) L w.heap[L.blk]?->SV.fits 0 (emp F) (D.enc g) vs->
  Calls P f (v0::vs).toArray w λe w'=>∃x,e=.returned x/\zxd (ownB L) w w'/\(rowA A t (fn xs g).1).fit 0 (emp (q2e F w w')) L w'.heap[L.blk]? /\
   ∀(m i:Nat)(ρ':Rh),(∀b o,q2e F w w' b=some o->ρ'.mem b=some o)->ρ' i=L->i<m->(R.enc i (fn xs g).2).fit m ρ' x
def za8{α δ:Type}(P:Program)(Γ:Gam)(Λ:Lam)(n f:Nat)(t:TypeId)(A:El α)(R:RM δ)(xs:List α)(args:List SV):Tr (List α×δ):=
 (qk0 P Γ Λ n f (.ow 0 xs.length::args) ⟨1,[(0,.o (rowA A t xs))],[]⟩).bind λy=>
  match y.2.get 0 with
  | .row t' sz el m=>match Nat.beq t' t&&Nat.beq sz A.sz with
   |true=>asks (A.okE m el) (match R.dec y.1 with
    |some (r,ps)=>asks ps (.ret (A.lstE m el,r))
    |none=>.bad 650)
   |false=>.bad 651
  |_=>.bad 652
section
variable{P:Program}{Γ:Gam}{Λ:Lam}{f t:Nat}{α γ δ:Type}{A:El α}{D:DA γ}{R:RM δ}{fn:List α->γ->List α×δ}{pre:List α->γ->List Prop}
theorem z0p{L:Lc}{l:Nat}{v:Value}{n i:Nat}{ρ:Rh}(hi:i<n)(hρ:ρ i=L)(h:OwV L l v)(hc:L.nl=false->l<=L.cap):(SV.ow i l).fit n ρ v:=by
 refine⟨hi,?_⟩;rw[hρ];rcases h with ⟨h1,h2,a,h3⟩|⟨h1,h2⟩
 .exact .inl ⟨h1,h2,a,h3⟩
 .exact .inr ⟨h1,hc h1,h2⟩
theorem qrd(hΓ:∀f g,Γ.g f=some g->FnOk P f g)(hΛ:∀f k L,Λ f k=some L->∀b∈q03 P f,lkey b=k->q06 P b L.g)(n:Nat)
  (hT:∀xs g,D.bd g->xs.length<=maxLen->(∀p∈pre xs g,p)->(za8 P Γ Λ n f t A R xs (D.enc g)).Holds (·=fn xs g)):qht P f t A D R fn pre:=by
 intro w F L xs g v0 vs hF hE hFo hv0 hpre hrow hfit;have hbd:=D.fb _ _ _ _ hfit;have hT:=hT xs g hbd hrow.1 hpre
 let ρ0:Rh:=⟨λ_=>L,F,⟨F,λ_=>none⟩⟩
 have hg0:∀i,(⟨1,[(0,.o (rowA A t xs))],[]⟩:SH).get i=if i=0 then rowA A t xs else .dead:=λi=>by
  simp only[SH.get,q0y,SE.act];by_cases h:i=0
  .subst h;rfl
  .rw[if_neg h]
   have:Nat.beq i 0=false:=by
    cases hb:Nat.beq i 0 with
    |false=>rfl
    |true=>exact absurd (q05 hb) h
   rw[this];rfl
 have hm0:HM (ownB L) w ρ0 ⟨1,[(0,.o (rowA A t xs))],[]⟩ w:={
  os:=rfl
  tape:=rfl
  output:=rfl
  size:=Nat.le_refl _
  block:=λ_ _ _=>rfl
  lt:=λi h=>by
   rw[hg0]at h;by_cases hi:i=0
   .subst hi;exact Nat.lt_succ_self _
   .rw[if_neg hi]at h;cases h
  ob:=λi=>by
   rw[hg0];by_cases hi:i=0
   .rw[if_pos hi];exact qfx A (ρ:=emp F) (λ_ _ h=>h) hrow
   .rw[if_neg hi];trivial
  ow:=λi h=>by
   rw[hg0]at h;by_cases hi:i=0
   .rw[if_pos hi]at h;exact .inr ⟨h,rfl⟩
   .rw[if_neg hi]at h;exact h.elim
  fz:=hF
  sep:=λi h=>by
   rw[hg0]at h;by_cases hi:i=0
   .rw[if_pos hi]at h;exact hFo _ ⟨h,rfl⟩
   .rw[if_neg hi]at h;exact h.elim
  old:=λb o hb _ _=>hb
  env:=hE
  ab:=⟨λ_ _=>False,λi a h=>by
   rw[hg0]at h;by_cases hi:i=0
   .rw[if_pos hi]at h;cases h
   .rw[if_neg hi]at h;cases h⟩
  inj:=λi j hi hj _=>by
   rw[hg0]at hi hj;by_cases h1:i=0
   .by_cases h2:j=0
    .omega
    .rw[if_neg h2]at hj;exact hj.elim
   .rw[if_neg h1]at hi;exact hi.elim}
 have hcap:L.nl=false->xs.length<=L.cap:=λhnl=>by
  rcases hrow.2 with ⟨h,_⟩|⟨_,_,_,_,_,_,_,h5,_⟩
  .rw[hnl]at h;cases h
  .exact h5
 have hargs:SV.fits 1 ρ0 (.ow 0 xs.length::D.enc g) (v0::vs):=⟨z0p (Nat.lt_succ_self _) rfl hv0 hcap,D.cl g 0 1 (emp F) ρ0 vs (λ_ _ h=>h) hfit⟩;have h0:=q8s hΓ hΛ n (ownB L) w w ρ0 ⟨1,[(0,.o (rowA A t xs))],[]⟩ _ (v0::vs) _ (Tr.holds_bind hT) hm0 hargs;refine h0.mono ?_;rintro e w' ⟨s,h',ρ',x,h1,h2,h3,h4,h5,rfl⟩;have hρ0:ρ' 0=L:=h3.1 0 (Nat.lt_succ_self _);refine⟨x,rfl,⟨h4.os,h4.tape,h4.output,h4.size,λk hk hB=>h4.block k hk hB⟩,?_⟩;simp only at h1;split at h1
 .rename_i t' sz el m hg;split at h1
  .rename_i hb;simp only[Bool.and_eq_true]at hb;have e1:=q05 hb.1;have e2:=q05 hb.2;subst e1;subst e2;obtain⟨hok,h1⟩:=q1d h1;have hok:∀e,e<m->A.Ok (el e):=A.okE_ok m el hok;split at h1
   .rename_i r ps hr;obtain⟨hps,h1⟩:=q1d h1;have h1:(A.lstE m el,r)=fn xs g:=h1
    have hmem:∀b o,ρ'.mem b=some o->q2e F w w' b=some o:=λb o hb=>by
     unfold q2e;split
     .rename_i hlt;by_cases hM:ownB L b
      .exfalso;have hs:=h4.sep 0;rw[hg,hρ0]at hs;rw[hM.2]at hb;rw[hs hM.1]at hb;cases hb
      .have:=h4.old b o hb hlt hM;rw[h3.2.2]at this;exact this
     .exact h4.fz b o hb
    have hob:=h4.ob 0;rw[hg,hρ0]at hob;rw[<-h1];refine⟨qqz A hmem hok hob,λm' i ρ'' hmem' hi him=>?_⟩;exact R.ok s r ps hr hps _ m' i ρ' ρ'' x (λb o hb=>hmem' b o (hmem b o hb)) (by rw[hi,hρ0]) him h5
   .exact h1.elim
  .exact h1.elim
 .exact h1.elim
def qxs(t:TypeId)(A:El α)(D:DA γ)(R:RM δ)(fn:List α->γ->List α×δ)(pre:List α->γ->List Prop)(i l:Nat)(rest:List SV)(h:SH):Tr (SV×SH):=
 match h.get i with
 | .row t' sz el m=>match Nat.beq t' t&&Nat.beq sz A.sz with
  |true=>match D.dec rest with
   |some (g,ps)=>asks ((l=m)::(A.okE m el++(ps++pre (A.lstE m el) g))) (.ret (R.enc i (fn (A.lstE m el) g).2,h.set i (rowA A t (fn (A.lstE m el) g).1)))
   |none=>.bad 653
  |false=>.bad 654
 |_=>.bad 655
def conM(t:TypeId)(A:El α)(D:DA γ)(R:RM δ)(fn:List α->γ->List α×δ)(pre:List α->γ->List Prop):Con:=λargs h=>
 match args with
 | .ow i l::rest=>qxs t A D R fn pre i l rest h
 | .k y::rest=>match nilK y with
  |true=>qxs t A D R fn pre h.nx 0 rest (h.push (.row t A.sz (.fn λ_=>[]) 0))
  |false=>.bad 656
 |_=>.bad 657
theorem qvj(hp:qht P f t A D R fn pre){M:Nat->Prop}{w0 w:World}{ρ:Rh}{h:SH}{i l:Nat}{rest:List SV}{v0:Value}{vs:List Value}{K:SV×SH->Prop}(hK:(qxs t A D R fn pre i l rest h).Holds K)(hm:HM M w0 ρ h w)
  (h0:(SV.ow i l).fit h.nx ρ v0) (hr:SV.fits h.nx ρ rest vs):Calls P f (v0::vs).toArray w (ql3 M w0 ρ h K):=by
 unfold qxs at hK;split at hK
 .rename_i t' sz el m hg;split at hK
  .rename_i hb;simp only[Bool.and_eq_true]at hb;have e1:=q05 hb.1;have e2:=q05 hb.2;subst e1;subst e2;split at hK
   .rename_i g ps hd;obtain⟨hq,hK⟩:=q1d hK;have hl:l=m:=hq _ (List.mem_cons_self ..);have hok:∀e,e<m->A.Ok (el e):=A.okE_ok m el λp h'=>hq p (List.mem_cons_of_mem _ (List.mem_append_left _ h'));have hps:∀p∈ps,p:=λp h'=>hq p (List.mem_cons_of_mem _ (List.mem_append_right _ (List.mem_append_left _ h')));have hpre:∀p∈pre (A.lstE m el) g,p:=λp h'=>hq p (List.mem_cons_of_mem _ (List.mem_append_right _ (List.mem_append_right _ h')));subst hl;have hob:=hm.ob i;rw[hg]at hob;have hown:∀b,ownB (ρ i) b->(h.get i).own (ρ i):=λb hb=>by rw[hg];exact hb.1
    have hilt:i<h.nx:=h0.1;have hrow:(rowA A t' (A.lstE l el)).fit 0 (emp ρ.mem) (ρ i) w.heap[(ρ i).blk]?:=qqz A (ρ:=ρ) (λ_ _ h=>h) hok hob
    have hv0:OwV (ρ i) (A.lstE l el).length v0:=by
     rw[A.lstE_eq,A.lst_length];rcases h0.2 with ⟨h1,h2,a,h3⟩|⟨h1,_,h3⟩
     .exact .inl ⟨h1,h2,a,h3⟩
     .exact .inr ⟨h1,h3⟩
    have hvs:=D.cl _ _ 0 ρ (emp ρ.mem) vs (λ_ _ h=>h) (D.ok _ _ _ _ _ _ hd hps hr);refine(hp w ρ.mem (ρ i) (A.lstE l el) g v0 vs hm.fz hm.env (λb hb=>by rw[hb.2];exact hm.sep i (hown b hb)) hv0 hpre hrow hvs).mono ?_;rintro e w' ⟨x,rfl,hbm,hrow',hx⟩
    have hmem:∀b o,ρ.mem b=some o->q2e ρ.mem w w' b=some o:=λb o ho=>by
     unfold q2e;rw[if_pos (hm.lt_mem ho)];exact ho
    have hag:Agree h.nx ρ ⟨ρ.lc,q2e ρ.mem w w',ρ.lo⟩:=⟨λ_ _=>rfl,hmem,rfl⟩;have hgs:∀j,(h.set i (rowA A t' (fn (A.lstE l el) g).1)).get j=if j=i then rowA A t' (fn (A.lstE l el) g).1 else h.get j:=λj=>SH.get_set _ _ _ _
    have hown':∀j,((h.set i (rowA A t' (fn (A.lstE l el) g).1)).get j).own (ρ j)->(h.get j).own (ρ j):=λj hj=>by
     rw[hgs]at hj;by_cases hji:j=i
     .subst hji;rw[if_pos rfl]at hj;rw[hg];exact hj
     .rw[if_neg hji]at hj;exact hj
    have hunc:∀k,k<w.heap.size->¬ownB (ρ i) k->w'.heap[k]?=w.heap[k]?:=hbm.block;refine⟨_,_,⟨ρ.lc,q2e ρ.mem w w',ρ.lo⟩,x,hK,Nat.le_refl _,hag,?_,hx h.nx i _ (λ_ _ h=>h) rfl hilt,rfl⟩;exact {
     os:=hbm.os.trans hm.os
     tape:=hbm.tape.trans hm.tape
     output:=hbm.output.trans hm.output
     size:=Nat.le_trans hm.size hbm.size
     block:=λk hk hM=>by
      rw[hunc k (Nat.lt_of_lt_of_le hk hm.size) λhB=>?_]
      .exact hm.block k hk hM
      .rcases hm.ow i (hown k hB)with h|h
       .rw[<-hB.2]at h;omega
       .rw[<-hB.2]at h;exact hM h
     lt:=λj hj=>by
      rw[hgs]at hj;by_cases hji:j=i
      .subst hji;exact hilt
      .rw[if_neg hji]at hj;exact hm.lt j hj
     ob:=λj=>by
      rw[hgs];by_cases hji:j=i
      .subst hji;rw[if_pos rfl];exact qfx A (ρ:=emp (q2e ρ.mem w w')) (λ_ _ h=>h) hrow'
      .rw[if_neg hji];refine SO.fit_mono (Nat.le_refl _) hag (hm.ob_other λhj=>hunc _ (hm.lt_heap hj) λhB=>?_);exact hm.ne_own (hown _ hB) hj hji hB.2
     ow:=λj hj=>hm.ow j (hown' j hj)
     fz:=λb o hb=>by
      simp only[q2e]at hb;split at hb
      .rename_i hlt;rw[hunc b hlt λhB=>?_]
       .exact hm.fz b o hb
       .have:=hm.sep i (hown b hB);rw[<-hB.2,hb]at this;cases this
      .exact hb
     sep:=λj hj=>by
      have h1:=hm.sep j (hown' j hj);have h2:=hm.lt_heap (hown' j hj);simp only[q2e];rw[if_pos h2];exact h1
     old:=λb o hb hlt hM=>by
      simp only[q2e]at hb;have hs:=hm.size;rw[if_pos (by omega)]at hb;exact hm.old b o hb hlt hM
     env:=Env.mono _ _ (λb o hb _=>hmem b o hb) hm.env
     ab:=by
      have h1:∀j a,(h.set i (rowA A t' (fn (A.lstE l el) g).1)).get j=.abs a->j≠i/\h.get j=.abs a:=λj a hj=>by
       rw[hgs]at hj;by_cases hji:j=i
       .rw[if_pos hji]at hj;cases hj
       .rw[if_neg hji]at hj;exact⟨hji,hj⟩
      obtain⟨S,hS⟩:=hm.ab;refine⟨S,hS.step (λj a hj=>⟨(h1 j a hj).2,rfl⟩) hbm.size (λj a b hj hb=>?_) (λb o hb _=>hmem b o hb) (λj a b hj hb=>?_) λk j a hk hj=>hS.ne (h1 j a hj).2 (hown' k hk)⟩
      .obtain⟨q1,q2⟩:=h1 j a hj;rcases hb with rfl|hb
       .exact hunc _ (hm.lt_heap (q47 q2)) λhB=>hm.ne_own (hown _ hB) (q47 q2) q1 hB.2
       .exact hunc _ (hS.lt q2 hb) λhB=>hS.ne q2 (hown _ hB) (hB.2▸hb)
      .have q2:=(h1 j a hj).2;simp only[q2e];rw[if_pos (hS.lt q2 hb)];exact hS.mem q2 hb
     inj:=λj k hj hk=>hm.inj j k (hown' j hj) (hown' k hk)}
   .exact hK.elim
  .exact hK.elim
 .exact hK.elim
theorem qsv(hp:qht P f t A D R fn pre):FnOk P f (conM t A D R fn pre):=by
 intro M w0 w ρ h args vs K hK hm hfits;unfold conM at hK;split at hK
 .rename_i i l rest;obtain⟨v0,r,rfl,h0,hr⟩:=q04 hfits;exact qvj hp hK hm h0 hr
 .rename_i y rest;obtain⟨v0,r,rfl,h0,hr⟩:=q04 hfits;split at hK
  .rename_i hy;have hm1:HM M w0 (upd ρ h.nx ⟨0,0,0,true⟩) (h.push (.row t A.sz (.fn λ_=>[]) 0)) w:=hm.learn ⟨Nat.zero_le _,.inl ⟨rfl,rfl⟩⟩ (λh=>by cases h);have hy:=q72 hy;subst hy;simp only[SV.fit]at h0;subst h0;have:=qvj hp hK hm1 (v0:=.slice none 0 0) (vs:=r) ⟨Nat.lt_succ_self _,.inl ⟨by simp[upd],rfl,_,rfl⟩⟩ (SV.fits_mono (Nat.le_succ _) (q0t _ _ _) _ _ hr);refine this.mono ?_;rintro e w' ⟨s,h',ρ',x,h1,h2,h3,h4,h5,rfl⟩;exact⟨s,h',ρ',x,h1,by have:h.nx+1<=h'.nx:=h2;omega,(q0t ρ h.nx _).trans (Nat.le_succ _) h3,h4,h5,rfl⟩
  .exact hK.elim
 .exact hK.elim
theorem z5y{i l:Nat}{rest:List SV}{h:SH}:(qxs t A D R fn pre i l rest h).Each λy=>y.2.b=h.b:=by
 unfold qxs;split
 .split
  .split
   .exact q2r rfl
   .trivial
  .trivial
 .trivial
def zqb(t:TypeId)(A:El α)(D:DA γ)(R:RM δ)(fn:List α->γ->List α×δ)(pre:List α->γ->List Prop):BCon:=⟨conM t A D R fn pre,λargs h=>by
 unfold conM;split
 .exact z5y
 .split
  .exact z5y (h:=h.push _)
  .trivial
 .trivial⟩
end
end Go.Sx
namespace Go.Sx
variable[Env]
structure MTab(P:Program)where
 p:PTab P
 m:{ l:List (Nat×BCon)//∀x∈l,FnOk P x.1 x.2.g}
section
variable{P:Program}
def MTab.of(t:PTab P):MTab P:=⟨t,⟨[],λx h=>by simp at h⟩⟩
def MTab.cons(t:MTab P)(f:Nat)(c:PCon)(h:FnOk P f c.g):MTab P:=⟨t.p.cons f c h,t.m⟩
def MTab.consM(t:MTab P)(f:Nat)(c:BCon)(h:FnOk P f c.g):MTab P:=⟨t.p,⟨(f,c)::t.m.1,λx hx=>by
 rcases List.mem_cons.1 hx with rfl|hx
 .exact h
 .exact t.m.2 x hx⟩⟩
def MTab.gamz(t:MTab P)(zs:List (Nat×Nat))(us:List (Nat×Nat×Nat)):Gam:=Go.Sx.gam t.p.1 t.m.1 zs us
theorem MTab.okz(t:MTab P)(zs:List (Nat×Nat))(us:List (Nat×Nat×Nat)):∀f g,(t.gamz zs us).g f=some g->FnOk P f g:=z3p t.p.2 t.m.2
theorem qre{f t:Nat}{α γ δ:Type}{A:El α}{D:DA γ}{R:RM δ}{fn:List α->γ->List α×δ}{pre:List α->γ->List Prop}{Γ:Gam}{Λ:Lam}
  (hΓ:∀f g,Γ.g f=some g->FnOk P f g) (hΛ:∀f k L,Λ f k=some L->∀b∈q03 P f,lkey b=k->q06 P b L.g) (n:Nat) (d:List α×δ) (S:List α->γ->Prop)
  (hS:∀xs g,(za8 P Γ Λ n f t A R xs (D.enc g)).side=S xs g) (he:∀xs g,(za8 P Γ Λ n f t A R xs (D.enc g)).ev d=fn xs g) (hs:∀xs g,D.bd g->xs.length<=maxLen->(∀p∈pre xs g,p)->S xs g):qht P f t A D R fn pre:=
 qrd hΓ hΛ n λxs g h1 h2 h3=>by
  have:=Tr.side_holds d (by rw[hS];exact hs xs g h1 h2 h3:(za8 P Γ Λ n f t A R xs (D.enc g)).side);rw[he xs g]at this;exact this
def dFn(f:Nat):Dv Unit where
 dec s:=match s with
  | .fn f' []=>bif Nat.beq f f' then some ((),[])else none
  |_=>none
 enc _:=.fn f []
 bd _:=True
 cl _ n m ρ ρ' x hm hf:=by
  obtain⟨l,e,hl⟩:=hf;have:=q0b hl;subst this;exact⟨[],e,trivial⟩
 ok s a ps n ρ x hd hp hf:=by
  split at hd
  .rename_i f';cases hb:Nat.beq f f' with
   |false=>rw[hb]at hd;cases hd
   |true=>
    rw[q05 hb];exact hf
  .cases hd
 fb _ _ _ _ _:=trivial
end
end Go.Sx
namespace Go.Sx
variable[Env]
abbrev RM.T{δ:Type}(_:RM δ):Type:=δ
end Go.Sx

namespace Go.Sx
open Go.RowKit
variable[Env]
section
variable{P:Program}{Γ:Gam}{Λ:Lam}{f t:Nat}{γ γ' κ δ:Type}{C:El κ}{D:DA γ}{D':DA γ'}{R:Dv δ}{fn:γ->κ->γ'->κ×δ}{pre:γ->κ->γ'->List Prop}
end
end Go.Sx

namespace Go.Sx
open Go.RowKit
variable[Env]
theorem zpj{xs:List SV}(h:Cls xs):Cl (.pr xs):=by
 intro n m ρ ρ' x hm hf;obtain⟨b,o,cs,t,fz,k1,k2,vs,k3,k4⟩:=hf;exact⟨b,o,cs,t,fz,k1,hm _ _ k2,vs,h n m ρ ρ' vs hm k3,k4⟩
theorem zwd{f:Nat}{xs:List SV}(h:Cls xs):Cl (.fn f xs):=by
 intro n m ρ ρ' x hm hf;obtain⟨l,rfl,hl⟩:=hf;exact⟨l,rfl,h n m ρ ρ' l hm hl⟩
def dFn1{α:Type}(f:Nat)(A:Dv α):Dv α where
 dec s:=match s with
  | .fn f' [.pr [s]]=>bif Nat.beq f f' then A.dec s else none
  |_=>none
 enc a:=.fn f [.pr [A.enc a]]
 bd:=A.bd
 cl a:=zwd (q9r (zpj (q9r (A.cl a) qdk)) qdk)
 ok s a ps n ρ x hd hp hf:=by
  split at hd
  .rename_i f' s;cases hb:Nat.beq f f' with
   |false=>rw[hb]at hd;cases hd
   |true=>
    rw[hb]at hd;rw[q05 hb];obtain⟨l,rfl,hl⟩:=hf;refine⟨l,rfl,?_⟩;obtain⟨y,r,rfl,hy,hr⟩:=q04 hl;refine⟨?_,hr⟩;obtain⟨b,o,cs,t,fz,k1,k2,vs,k3,k4⟩:=hy;obtain⟨z,r',rfl,hz,hr'⟩:=q04 k3;exact⟨b,o,cs,t,fz,k1,k2,z::r',⟨A.ok _ _ _ _ _ _ hd hp hz,hr'⟩,k4⟩
  .cases hd
 fb a n ρ x hf:=by
  obtain⟨l,rfl,hl⟩:=hf;obtain⟨y,r,rfl,hy,hr⟩:=q04 hl;obtain⟨b,o,cs,t,fz,k1,k2,vs,k3,k4⟩:=hy;obtain⟨z,r',rfl,hz,hr'⟩:=q04 k3;exact A.fb _ _ _ _ hz
def dFnE{α:Type}(f:Nat)(A:El α):Dv α where
 dec s:=match s with
  | .fn f' [.pr l]=>bif Nat.beq f f' then A.decs l else none
  |_=>none
 enc a:=.fn f [.pr (A.cells a)]
 bd:=A.bd
 cl a:=zwd (q9r (zpj (A.cl a)) qdk)
 ok s a ps n ρ x hd hp hf:=by
  split at hd
  .rename_i f' s;cases hb:Nat.beq f f' with
   |false=>rw[hb]at hd;cases hd
   |true=>
    rw[hb]at hd;rw[q05 hb];obtain⟨l,rfl,hl⟩:=hf;refine⟨l,rfl,?_⟩;obtain⟨y,r,rfl,hy,hr⟩:=q04 hl;refine⟨?_,hr⟩;obtain⟨b,o,cs,t,fz,k1,k2,vs,k3,k4⟩:=hy;exact⟨b,o,cs,t,fz,k1,k2,vs,A.ok _ _ _ _ _ _ hd hp k3,k4⟩
  .cases hd
 fb a n ρ x hf:=by
  obtain⟨l,rfl,hl⟩:=hf;obtain⟨y,r,rfl,hy,hr⟩:=q04 hl;obtain⟨b,o,cs,t,fz,k1,k2,vs,k3,k4⟩:=hy;exact A.fb _ _ _ _ k3
end Go.Sx

namespace Go.Sx
open Go.RowKit
variable[Env]
structure Vwd(M:Nat->Prop)(w0:World)(ρ:Rh)(h:SH)(w:World)(G:Nat->Option Obj):Prop where
 hm:HM M w0 ρ h w
 hG:∀b o,ρ.mem b=some o->G b=some o
 hO:∀i o,(h.get i).own (ρ i)->w.heap[(ρ i).blk]?=some o->G (ρ i).blk=some o
structure Rv(δ:Type)where
 D:Dv δ
 dec:SH->SV->Option (δ×List Prop)
 ok:∀{M:Nat->Prop}{w0:World}{ρ:Rh}{h:SH}{w:World}{G:Nat->Option Obj},Vwd M w0 ρ h w G->∀{s:SV}{r:δ}{ps:List Prop}{x:Value},dec h s=some (r,ps)->(∀p∈ps,p)->s.fit h.nx ρ x->(D.enc r).fit h.nx ⟨ρ.lc,G,ρ.lo⟩ x
abbrev Rv.T{δ:Type}(_:Rv δ):Type:=δ
def Rv.of{δ:Type}(D:Dv δ):Rv δ where
 D:=D
 dec h s:=match D.dec (vw2 h s).1 with
  |some (r,ps)=>some (r,(vw2 h s).2++ps)
  |none=>none
 ok {_ _ _ _ _ _} hv {_ _ _ _} hd hp hf:=by
  split at hd
  .rename_i r ps hr;simp only[Option.some.injEq,Prod.mk.injEq]at hd;obtain⟨rfl,rfl⟩:=hd;exact D.ok _ _ _ _ _ _ hr (λp h'=>hp p (List.mem_append_right _ h')) (qyk hv.hm hv.hG hv.hO hf λp h'=>hp p (List.mem_append_left _ h'))
  .cases hd
def Rv.list{α:Type}(A:El α):Rv (List α) where
 D:=.list A
 dec h s:=match s with
  | .ow i l=>match h.get i with
   | .row _ sz el m=>bif Nat.beq sz A.sz then some (A.lstE l el,(l<=m)::A.okE l el)else none
   |_=>none
  | .se i sz o l=>match h.get i with
   | .row _ s el m=>bif Nat.beq s sz&&Nat.beq sz A.sz then some (A.lstE l (.sh o el),(o+l<=m)::A.okE l (.sh o el))else none
   |_=>none
  |s=>(Rv.of (.list A)).dec h s
 ok {M w0 ρ h w G} hv {s r ps x} hd hp hf:=by
  split at hd
  .rename_i i l;split at hd
   .rename_i t sz el m hg;cases hb:Nat.beq sz A.sz with
    |false=>rw[hb]at hd;cases hd
    |true=>
     rw[hb]at hd;simp only[cond_true,Option.some.injEq,Prod.mk.injEq]at hd;obtain⟨rfl,rfl⟩:=hd;have e0:vw0 h (.ow i l)=(.rs sz l el,[l<=m]):=by simp only[vw0,hg]
     have h1:=qta hv.hm hv.hG hv.hO hf (by rw[e0];intro p hp';simp only[List.mem_singleton]at hp';subst hp';exact hp _ (List.mem_cons_self ..));rw[e0]at h1;rw[A.lstE_eq]
     exact(Dv.list A).ok (.rs sz l el.at) _ [∀e,e<l->A.Ok (el.at e)] _ _ _ (by simp[Dv.list,hb]) (by
      intro p hp';simp only[List.mem_singleton]at hp';subst hp';exact A.okE_ok l el λp h'=>hp p (List.mem_cons_of_mem _ h')) h1
   .cases hd
  .rename_i i sz o l;split at hd
   .rename_i t s el m hg;cases hb:(Nat.beq s sz&&Nat.beq sz A.sz)with
    |false=>rw[hb]at hd;cases hd
    |true=>
     rw[hb]at hd;simp only[cond_true,Option.some.injEq,Prod.mk.injEq]at hd;obtain⟨rfl,rfl⟩:=hd;simp only[Bool.and_eq_true]at hb;have e0:vw0 h (.se i sz o l)=(.rs sz l (ElE.sh o el),[o+l<=m]):=by simp only[vw0,hg,hb.1,cond_true]
     have h1:=qta hv.hm hv.hG hv.hO hf (by rw[e0];intro p hp';simp only[List.mem_singleton]at hp';subst hp';exact hp _ (List.mem_cons_self ..));rw[e0]at h1;rw[A.lstE_eq]
     exact(Dv.list A).ok (.rs sz l (ElE.sh o el).at) _ [∀e,e<l->A.Ok ((ElE.sh o el).at e)] _ _ _ (by simp[Dv.list,hb.2]) (by
      intro p hp';simp only[List.mem_singleton]at hp';subst hp';exact A.okE_ok l (ElE.sh o el) λp h'=>hp p (List.mem_cons_of_mem _ h')) h1
   .cases hd
  .exact(Rv.of (.list A)).ok hv hd hp hf
structure RvA(γ:Type)where
 D:DA γ
 dec:SH->List SV->Option (γ×List Prop)
 ok:∀{M:Nat->Prop}{w0:World}{ρ:Rh}{h:SH}{w:World}{G:Nat->Option Obj},Vwd M w0 ρ h w G->∀{s:List SV}{r:γ}{ps:List Prop}{x:List Value},dec h s=some (r,ps)->(∀p∈ps,p)->SV.fits h.nx ρ s x->SV.fits h.nx ⟨ρ.lc,G,ρ.lo⟩ (D.enc r) x
def RvA.one{α:Type}(R:Rv α):RvA α where
 D:=.one R.D
 dec h l:=match l with
  | [s]=>R.dec h s
  |_=>Option.none
 ok {_ _ _ _ _ _} hv {s r ps x} hd hp hf:=by
  split at hd
  .obtain⟨y,r',rfl,hy,hr⟩:=q04 hf;have:=q0b hr;subst this;exact⟨R.ok hv hd hp hy,trivial⟩
  .cases hd
def RvA.cons{α γ:Type}(R:Rv α)(A:RvA γ):RvA (α×γ) where
 D:=.cons R.D A.D
 dec h l:=match l with
  |s::r=>match R.dec h s with
   |some (a,ps)=>match A.dec h r with
    |some (g,qs)=>some ((a,g),ps++qs)
    |Option.none=>Option.none
   |Option.none=>Option.none
  | []=>Option.none
 ok {_ _ _ _ _ _} hv {s r ps x} hd hp hf:=by
  split at hd
  .rename_i s r;split at hd
   .rename_i a ps0 h1;split at hd
    .rename_i g0 qs0 h2;simp only[Option.some.injEq,Prod.mk.injEq]at hd;obtain⟨rfl,rfl⟩:=hd;obtain⟨y,r',rfl,hy,hr⟩:=q04 hf;exact⟨R.ok hv h1 (λp hp'=>hp p (List.mem_append_left _ hp')) hy,A.ok hv h2 (λp hp'=>hp p (List.mem_append_right _ hp')) hr⟩
    .cases hd
   .cases hd
  .cases hd
def Rv.tup{γ:Type}(A:RvA γ):Rv γ where
 D:=.tup A.D
 dec h s:=match s with
  | .tup l=>A.dec h l
  |_=>none
 ok {_ _ _ _ _ _} hv {s r ps x} hd hp hf:=by
  split at hd
  .obtain⟨v,rfl,hv'⟩:=hf;exact⟨v,rfl,A.ok hv hd hp hv'⟩
  .cases hd
def z9e{δ:Type}(P:Program)(Γ:Gam)(Λ:Lam)(n f:Nat)(args:List SV)(R:Rv δ):Tr δ:=
 (qk0 P Γ Λ n f args ⟨0,[],[]⟩).bind λy=>match R.dec y.2 y.1 with
  |some (r,ps)=>asks ps (.ret r)
  |none=>.bad 620
section
variable{P:Program}{Γ:Gam}{Λ:Lam}{f:Nat}{γ δ:Type}{D:DA γ}{R:Rv δ}{fn:γ->δ}{pre:γ->List Prop}
theorem qr1(hΓ:∀f g,Γ.g f=some g->FnOk P f g)(hΛ:∀f k L,Λ f k=some L->∀b∈q03 P f,lkey b=k->q06 P b L.g)(n:Nat)
  (hT:∀g,D.bd g->(∀p∈pre g,p)->(z9e P Γ Λ n f (D.enc g) R).Holds (·=fn g)):q09 P f D R.D fn pre:=by
 intro w F g vs hF hE hpre hfit;have hbd:=D.fb _ _ _ _ hfit;have hT:=hT g hbd hpre;have h0:=q8s hΓ hΛ n (λ_=>False) w w (emp F) ⟨0,[],[]⟩ _ vs _ (Tr.holds_bind hT) (HM.start w (emp F) hF (λ_ _ h=>h) hE) hfit;refine h0.mono ?_;rintro e w' ⟨s,h',ρ',x,h1,h2,h3,h4,h5,rfl⟩;refine⟨x,rfl,h4.toBelow,?_⟩;simp only at h1
 have hv:Vwd (λ_=>False) w ρ' h' w' (q2e F w w'):={
  hm:=h4
  hG:=λb o hb=>by
   unfold q2e;split
   .rename_i hlt;have:=h4.old b o hb hlt (λh=>h);rw[h3.2.2]at this;exact this
   .exact h4.fz b o hb
  hO:=λi o hown ho=>by
   unfold q2e;rcases h4.ow i hown with h|h
   .rw[if_neg (by omega)];exact ho
   .exact h.elim}
 split at h1
 .rename_i r ps hr;obtain⟨hq,h1⟩:=q1d h1;have h1:r=fn g:=h1;have:=R.ok hv hr hq h5;rw[h1]at this;exact R.D.cl _ _ 0 ⟨ρ'.lc,q2e F w w',ρ'.lo⟩ (emp (q2e F w w')) x (λ_ _ h=>h) this
 .exact h1.elim
theorem q2l(hΓ:∀f g,Γ.g f=some g->FnOk P f g)(hΛ:∀f k L,Λ f k=some L->∀b∈q03 P f,lkey b=k->q06 P b L.g)(n:Nat)(d:δ)(S:γ->Prop)
  (hS:∀g,(z9e P Γ Λ n f (D.enc g) R).side=S g) (he:∀g,(z9e P Γ Λ n f (D.enc g) R).ev d=fn g) (hs:∀g,D.bd g->(∀p∈pre g,p)->S g):q09 P f D R.D fn pre:=
 qr1 hΓ hΛ n λg h1 h2=>by
  have:=Tr.side_holds d (by rw[hS];exact hs g h1 h2:(z9e P Γ Λ n f (D.enc g) R).side);rw[he g]at this;exact this
end
end Go.Sx

namespace Go.Sx
open Go.RowKit
variable[Env]
def LP.seS(N i id sz:Nat):LP N (Nat×Nat) where
 R:=0
 read σ:=match σ.slot i with
  | .se j s o l=>bif Nat.beq j id&&(Nat.beq s sz&&Nat.blt id N)then some ((o,l),[],[])else none
  |_=>none
 ents _ g:=[(i,.se id sz g.1 g.2)]
 blks _ _:=[]
 objs _ _:=[]
 es:=[i]
 os:=[]
 eseq _ _:=rfl
 oseq _ _:=rfl
 blen _ _:=rfl
 ilen σ g ps ids h:=by
  split at h
  .rename_i j s o l _;cases hb:(Nat.beq j id&&(Nat.beq s sz&&Nat.blt id N))with
   |false=>rw[hb]at h;cases h
   |true=>
    rw[hb]at h;simp only[cond_true,Option.some.injEq,Prod.mk.injEq]at h;rw[<-h.2.2];rfl
  .cases h
 ok k0 σ g ps ids h hp:=by
  split at h
  .rename_i j s o l hs;cases hb:(Nat.beq j id&&(Nat.beq s sz&&Nat.blt id N))with
   |false=>rw[hb]at h;cases h
   |true=>
    rw[hb]at h;simp only[cond_true,Option.some.injEq,Prod.mk.injEq]at h;obtain⟨rfl,rfl,rfl⟩:=h;simp only[Bool.and_eq_true]at hb;have e1:=q05 hb.1;have e2:=q05 hb.2.1;have hlt:=Nat.le_of_ble_eq_true hb.2.2;subst e1;subst e2;refine⟨λk so h=>by simp at h,λid' so h=>by simp at h,λi' s' h=>?_⟩;simp only[List.mem_singleton,Prod.mk.injEq]at h;obtain⟨rfl,rfl⟩:=h;refine qh5 (λn ρ x hx=>by rw[hs]at hx;exact hx) λn m ρ ρ' x hm ha hf=>?_;obtain⟨_,a,c,h1,h2,h3,h4⟩:=hf;exact⟨by omega,a,c,h1,h2,h3,λhl=>by rw[ha.1 _ hlt];exact h4 hl⟩
  .cases h
def LP.owB(N i id:Nat):LP N (Bool×Nat) where
 R:=0
 read σ:=match σ.slot i with
  | .ow j l=>bif Nat.beq j id&&Nat.blt id N then some ((true,l),[],[])else some ((false,0),[],[])
  | .opt b (.ow j l)=>bif Nat.beq j id&&Nat.blt id N then some ((b,l),[],[])else some ((false,0),[],[])
  |_=>some ((false,0),[],[])
 ents _ g:=[(i,.opt g.1 (.ow id g.2))]
 blks _ _:=[]
 objs _ _:=[]
 es:=[i]
 os:=[]
 eseq _ _:=rfl
 oseq _ _:=rfl
 blen _ _:=rfl
 ilen σ g ps ids h:=by
  split at h
  .rename_i j l _;cases hb:Nat.beq j id&&Nat.blt id N with
   |false=>rw[hb]at h;simp only[cond_false,Option.some.injEq,Prod.mk.injEq]at h;rw[<-h.2.2];rfl
   |true=>rw[hb]at h;simp only[cond_true,Option.some.injEq,Prod.mk.injEq]at h;rw[<-h.2.2];rfl
  .rename_i b j l _;cases hb:Nat.beq j id&&Nat.blt id N with
   |false=>rw[hb]at h;simp only[cond_false,Option.some.injEq,Prod.mk.injEq]at h;rw[<-h.2.2];rfl
   |true=>rw[hb]at h;simp only[cond_true,Option.some.injEq,Prod.mk.injEq]at h;rw[<-h.2.2];rfl
  .simp only[Option.some.injEq,Prod.mk.injEq]at h;rw[<-h.2.2];rfl
 ok k0 σ g ps ids h hp:=by
  have hu:Rel N k0 σ [] [(i,.opt false (.ow id 0))] [] []:=⟨λk so h=>by simp at h,λid so h=>by simp at h,λq s h=>by
   simp only[List.mem_singleton,Prod.mk.injEq]at h;obtain⟨rfl,rfl⟩:=h;exact qh5 (λ_ _ _ _ h=>(by cases h)) (λ_ _ _ _ _ _ _ _ h=>(by cases h))⟩
  have hw:∀(b:Bool)(l:Nat),id<N->(∀n ρ x,(σ.slot i).fit n ρ x->(SV.opt b (.ow id l)).fit n ρ x)->Rel N k0 σ [] [(i,.opt b (.ow id l))] [] []:=λb l hlt hs=>
   ⟨λk so h=>by simp at h,λid so h=>by simp at h,λq s h=>by
    simp only[List.mem_singleton,Prod.mk.injEq]at h;obtain⟨rfl,rfl⟩:=h;refine qh5 hs λn m ρ ρ' x hm ha hf hb=>?_;obtain⟨_,hf⟩:=hf hb;exact⟨by omega,by rw[ha.1 _ hlt];exact hf⟩⟩
  split at h
  .rename_i j l hs;cases hb:Nat.beq j id&&Nat.blt id N with
   |false=>
    rw[hb]at h;simp only[cond_false,Option.some.injEq,Prod.mk.injEq]at h;obtain⟨rfl,rfl,rfl⟩:=h;exact hu
   |true=>
    rw[hb]at h;simp only[Bool.and_eq_true]at hb;have e1:=q05 hb.1;have hlt:id<N:=Nat.le_of_ble_eq_true hb.2;subst e1;simp only[cond_true,Option.some.injEq,Prod.mk.injEq]at h;obtain⟨rfl,rfl,rfl⟩:=h;exact hw _ _ hlt λn ρ x hf _=>by rw[hs]at hf;exact hf
  .rename_i b j l hs;cases hb:Nat.beq j id&&Nat.blt id N with
   |false=>
    rw[hb]at h;simp only[cond_false,Option.some.injEq,Prod.mk.injEq]at h;obtain⟨rfl,rfl,rfl⟩:=h;exact hu
   |true=>
    rw[hb]at h;simp only[Bool.and_eq_true]at hb;have e1:=q05 hb.1;have hlt:id<N:=Nat.le_of_ble_eq_true hb.2;subst e1;simp only[cond_true,Option.some.injEq,Prod.mk.injEq]at h;obtain⟨rfl,rfl,rfl⟩:=h;exact hw _ _ hlt λn ρ x hf=>by rw[hs]at hf;exact hf
  .simp only[Option.some.injEq,Prod.mk.injEq]at h;obtain⟨rfl,rfl,rfl⟩:=h;exact hu
def q65(a b:Code):Prop:=a=b
def fixT(N:Nat)(t:List (Nat×SV)):List (Nat×SV)->Bool
 | []=>true
 |(i,v)::r=>qm3 N (look (.k undef) i t) v&&fixT N t r
theorem z3y{N:Nat}{t:List (Nat×SV)}:∀{l:List (Nat×SV)},fixT N t l=true->∀i v,(i,v)∈l->look (.k undef) i t=v/\Bl N v
 | [],_,_,_,h=>by simp at h
 |(j,u)::r,h,i,v,hm=>by
  simp only[fixT,Bool.and_eq_true]at h;rcases List.mem_cons.1 hm with he|hm
  .simp only[Prod.mk.injEq]at he;obtain⟨rfl,rfl⟩:=he;exact qm2 h.1
  .exact z3y h.2 i v hm
def z02(n:Nat):List (Nat×SV):=(List.range n).map λi=>(i,.u)
theorem qws{n i:Nat}(h:i<n):look (.k undef) i (z02 n)=.u:=by
 rcases qag (.k undef) i (z02 n)with h1|h1
 .obtain⟨j,_,e⟩:=List.mem_map.1 h1;simp only[Prod.mk.injEq]at e;exact e.2.symm
 .exact absurd (by simp only[z02,List.map_map];simpa using h) h1
def LP.loopO(N id n:Nat)(fx:List (Nat×SV))(ps:Array Tmp)(asg body:Code)(df:Nat):LP N (LoopState×Option Code) where
 R:=0
 read σ:=match σ.h.get id with
  | .loop st pd n' t ps' asg' body' df'=>bif Nat.beq n' n&&(Nat.beq df' df&&(Nat.blt df N&&(decide (ps'=ps)&&fixT N t fx)))then some ((st,pd),[q65 asg' asg,q65 body' body],[])else none
  |_=>none
 ents _ _:=[]
 blks _ _:=[]
 objs _ g:=[(id,.loop g.1 g.2 n (fx++z02 n) ps asg body df)]
 es:=[]
 os:=[id]
 eseq _ _:=rfl
 oseq _ _:=rfl
 blen _ _:=rfl
 ilen σ g ps' ids h:=by
  split at h
  .rename_i st pd n' t ps'' asg' body' df' _;cases hb:(Nat.beq n' n&&(Nat.beq df' df&&(Nat.blt df N&&(decide (ps''=ps)&&fixT N t fx))))with
   |false=>rw[hb]at h;cases h
   |true=>rw[hb]at h;simp only[cond_true,Option.some.injEq,Prod.mk.injEq]at h;rw[<-h.2.2];rfl
  .cases h
 ok k0 σ g ps' ids h hp:=by
  split at h
  .rename_i st pd n' t ps'' asg' body' df' hg;cases hb:(Nat.beq n' n&&(Nat.beq df' df&&(Nat.blt df N&&(decide (ps''=ps)&&fixT N t fx))))with
   |false=>rw[hb]at h;cases h
   |true=>
    rw[hb]at h;simp only[cond_true,Option.some.injEq,Prod.mk.injEq]at h;obtain⟨rfl,rfl,rfl⟩:=h;simp only[Bool.and_eq_true,decide_eq_true_eq]at hb;obtain⟨h1,h2,h3,h4,h5⟩:=hb;have e1:=q05 h1;have e2:=q05 h2;subst e1;subst e2;subst h4;have hlt:df'<N:=Nat.le_of_ble_eq_true h3;have c1:asg'=asg:=hp _ (List.mem_cons_self ..);have c2:body'=body:=hp _ (List.mem_cons_of_mem _ (List.mem_cons_self ..));subst c1;subst c2;refine⟨λk so h=>by simp at h,λid' so h=>?_,λj s h=>by simp at h⟩;simp only[List.mem_singleton,Prod.mk.injEq]at h;obtain⟨rfl,rfl⟩:=h;rw[hg];refine⟨qcz λ_ h=>h,λn m ρ ρ' L o hr hf=>?_⟩;have hNm:N<=m:=by have:=hr.le;omega
    have hag:=hr.ag;obtain⟨f1,f2,f,tm,f3,f4,f5⟩:=hf;refine⟨f1,by omega,f,tm,by rw[hag.1 _ hlt];exact f3,f4,λi hi=>?_⟩;have h6:=f5 i hi;rw[q3g];rcases qag (look (.k undef) i (z02 n')) i fx with h7|h7
    .obtain⟨e,hbl⟩:=z3y h5 _ _ h7;rw[e]at h6;exact hbl _ _ _ _ _ hNm hag h6
    .rw[q2n _ _ h7,qws hi];trivial
  .cases h
section
variable{P:Program}{Γ:Gam}{Λ:Lam}{N:Nat}{γ:Type}
end
theorem q19{γ δ:Type}{P:Program}{f:Nat}{D:DA γ}{R:Dv δ}{fn fn':γ->δ}{pre:γ->List Prop}(h:q09 P f D R fn pre)(e:∀g,D.bd g->(∀p∈pre g,p)->fn g=fn' g):q09 P f D R fn' pre:=by
 intro w F g vs h1 hE h2 h3;refine(h w F g vs h1 hE h2 h3).mono ?_;rintro e' w' ⟨x,k1,k2,k3⟩;rw[e g (D.fb _ _ _ _ h3) h2]at k3;exact⟨x,k1,k2,k3⟩
end Go.Sx

namespace Go.Lp
open Go.Sx
variable[Env]
abbrev w64(n:Int):Int:=IntKind.i64.wrap n
theorem wr{n:Int}(h:0<=n/\n<=9223372036854775807):w64 n=n:=by
 unfold w64;simp[IntKind.wrap,IntKind.bits,IntKind.signed];omega
section
variable{α σ:Type}
abbrev FiG(α σ:Type):=List α×σ×Int×Int×Int
def fiF(d:α)(p:σ->α->Bool)(g:FiG α σ):Ex×FiG α σ:=
 bif decide (g.2.2.2.1<g.2.2.1)then
  bif p g.2.1 (g.1.getD g.2.2.2.1.toNat d)then(.ret,g.1,g.2.1,g.2.2.1,g.2.2.2.1,g.2.2.2.1)else(.normal,g.1,g.2.1,g.2.2.1,w64 (g.2.2.2.1+1),g.2.2.2.2)
 else(.exit 0,g)
def fiI(g:FiG α σ):List Prop:=[g.2.2.1=(g.1.length:Int)/\g.1.length<=maxLen/\0<=g.2.2.2.1/\g.2.2.2.1<=(g.1.length:Int)]
def fiM(g:FiG α σ):Nat:=(g.2.2.1-g.2.2.2.1).toNat
theorem z4d(d:α)(p:σ->α->Bool):Goes (fiF d p) fiM λg=>allP (fiI g):=by
 rintro⟨xs,s,n,i,r0⟩ hi hn;obtain⟨h1,h2,h3,h4⟩:=hi _ (List.mem_cons_self ..);simp only at h1 h2 h3 h4;unfold maxLen at h2;unfold fiF at hn ⊢;simp only at hn ⊢;by_cases hlt:i<n
 .simp only[hlt,decide_true,cond_true]at hn ⊢;cases hp:p s (xs.getD i.toNat d)with
  |true=>rw[hp]at hn;cases hn
  |false=>
   simp only[cond_false];rw[wr (by omega)];refine⟨λq hq=>?_,?_⟩
   .simp only[fiI,List.mem_singleton]at hq;subst hq;exact⟨h1,by unfold maxLen;omega,by show(0:Int)<=i+1;omega,by show i+1<=(xs.length:Int);omega⟩
   .simp only[fiM];omega
 .simp only[hlt,decide_false,cond_false]at hn;cases hn
theorem zux(d:α)(p:σ->α->Bool):∀g:FiG α σ,allP (fiI g)->
  (((q07 (fiF d p) fiM g).1=.ret/\0<=(q07 (fiF d p) fiM g).2.2.2.2.2/\(q07 (fiF d p) fiM g).2.2.2.2.2<(g.1.length:Int)/\(g.1.drop g.2.2.2.1.toNat).any (p g.2.1)=true)\/
   ((q07 (fiF d p) fiM g).1=.exit 0/\(g.1.drop g.2.2.2.1.toNat).any (p g.2.1)=false)):=by
 refine q1l (z4d d p) (Q:=λg r=>((r.1=.ret/\0<=r.2.2.2.2.2/\r.2.2.2.2.2<(g.1.length:Int)/\(g.1.drop g.2.2.2.1.toNat).any (p g.2.1)=true)\/(r.1=.exit 0/\(g.1.drop g.2.2.2.1.toNat).any (p g.2.1)=false))) ?_ ?_
 .rintro⟨xs,s,n,i,r0⟩ hi hn;obtain⟨h1,h2,h3,h4⟩:=hi _ (List.mem_cons_self ..);simp only at h1 h2 h3 h4;unfold fiF at hn ⊢;simp only at hn ⊢;by_cases hlt:i<n
  .simp only[hlt,decide_true,cond_true]at hn ⊢;have hlt':i.toNat<xs.length:=by omega
   have hd:xs.drop i.toNat=xs.getD i.toNat d::xs.drop (i.toNat+1):=by
    rw[List.drop_eq_getElem_cons hlt'];simp[List.getD_eq_getElem?_getD,hlt']
   cases hp:p s (xs.getD i.toNat d)with
   |true=>
    left;simp only[cond_true];refine⟨trivial,h3,by omega,?_⟩;rw[hd,List.any_cons,hp];rfl
   |false=>rw[hp]at hn;exact absurd rfl hn
  .right;simp only[hlt,decide_false,cond_false];refine⟨trivial,?_⟩;rw[List.drop_eq_nil_of_le (by omega)];rfl
 .rintro⟨xs,s,n,i,r0⟩ g' r hi he hi' _ hq;obtain⟨h1,h2,h3,h4⟩:=hi _ (List.mem_cons_self ..);simp only at h1 h2 h3 h4;unfold maxLen at h2;unfold fiF at he;simp only at he;by_cases hlt:i<n
  .simp only[hlt,decide_true,cond_true]at he;have hlt':i.toNat<xs.length:=by omega
   have hd:xs.drop i.toNat=xs.getD i.toNat d::xs.drop (i.toNat+1):=by
    rw[List.drop_eq_getElem_cons hlt'];simp[List.getD_eq_getElem?_getD,hlt']
   cases hp:p s (xs.getD i.toNat d)with
   |true=>rw[hp]at he;cases he
   |false=>
    rw[hp]at he;simp only[cond_false,Prod.mk.injEq,true_and]at he;subst he;simp only at hq ⊢;rw[wr (by omega)]at hq;rw[hd,List.any_cons,hp,Bool.false_or];have:(i+1).toNat=i.toNat+1:=by omega
    rw[this]at hq;exact hq
  .simp only[hlt,decide_false,cond_false]at he;cases he
theorem zuy(d:α)(p:σ->α->Bool)(xs:List α)(s:σ)(r0:Int)(h:xs.length<=maxLen):
  ((exB .ret (q07 (fiF d p) fiM (xs,s,(xs.length:Int),0,r0)).1)=xs.any (p s))/\((q07 (fiF d p) fiM (xs,s,(xs.length:Int),0,r0)).1=.ret->0<=(q07 (fiF d p) fiM (xs,s,(xs.length:Int),0,r0)).2.2.2.2.2):=by
 have h0:allP (fiI ((xs,s,(xs.length:Int),(0:Int),r0):FiG α σ)):=λq hq=>by
  simp only[fiI,List.mem_singleton]at hq;subst hq;exact⟨trivial,h,Int.le_refl _,by show(0:Int)<=(xs.length:Int);omega⟩
 rcases zux d p (xs,s,(xs.length:Int),0,r0) h0 with ⟨h1,h2,_,h3⟩|⟨h1,h3⟩
 .refine⟨?_,λ_=>h2⟩;rw[h1];have h4:(xs.drop 0).any (p s)=true:=h3;rw[List.drop_zero]at h4;exact h4.symm
 .refine⟨?_,λh=>?_⟩
  .rw[h1];have:(xs.drop 0).any (p s)=false:=h3;simp only[List.drop_zero]at this;rw[this];rfl
  .rw[h1]at h;cases h
end
end Go.Lp

namespace Go.Lp
open Go.Sx
variable[Env]
section
variable{α β:Type}
theorem drop_at(d:α){xs:List α}{i:Nat}(h:i<xs.length):xs.drop i=xs.getD i d::xs.drop (i+1):=by
 rw[List.drop_eq_getElem_cons h];simp[List.getD_eq_getElem?_getD,h]
abbrev ErG(α:Type):=List α×Int×Int×Unit×Int
def erF(x:Nat)(d:α)(p:α->Bool)(c:Int)(g:ErG α):Ex×ErG α:=
 bif decide (g.2.2.1<g.2.1)then
  bif p (g.1.getD g.2.2.1.toNat d)then(.ret,g.1,g.2.1,g.2.2.1,(),c)else(.normal,g.1,g.2.1,w64 (g.2.2.1+1),(),g.2.2.2.2)
 else(.exit x,g)
def erI(g:ErG α):List Prop:=[g.2.1=(g.1.length:Int)/\g.1.length<=maxLen/\0<=g.2.2.1/\g.2.2.1<=(g.1.length:Int)]
def erM(g:ErG α):Nat:=(g.2.1-g.2.2.1).toNat
theorem z4o(x:Nat)(d:α)(p:α->Bool)(c:Int):Goes (erF x d p c) erM λg=>allP (erI g):=by
 rintro⟨xs,n,i,⟨⟩,e⟩ hi hn;obtain⟨h1,h2,h3,h4⟩:=hi _ (List.mem_cons_self ..);simp only at h1 h2 h3 h4;unfold maxLen at h2;unfold erF at hn ⊢;simp only at hn ⊢;by_cases hlt:i<n
 .simp only[hlt,decide_true,cond_true]at hn ⊢;cases hp:p (xs.getD i.toNat d)with
  |true=>rw[hp]at hn;cases hn
  |false=>
   simp only[cond_false];rw[wr (by omega)];refine⟨λq hq=>?_,?_⟩
   .simp only[erI,List.mem_singleton]at hq;subst hq;exact⟨h1,by unfold maxLen;omega,by show(0:Int)<=i+1;omega,by show i+1<=(xs.length:Int);omega⟩
   .simp only[erM];omega
 .simp only[hlt,decide_false,cond_false]at hn;cases hn
theorem zv9(x:Nat)(d:α)(p:α->Bool)(c:Int):∀g:ErG α,allP (erI g)->
  (((q07 (erF x d p c) erM g).1=.ret/\(q07 (erF x d p c) erM g).2.2.2.2.2=c/\(q07 (erF x d p c) erM g).2.1=g.1/\(g.1.drop g.2.2.1.toNat).any p=true)\/
   ((q07 (erF x d p c) erM g).1=.exit x/\(q07 (erF x d p c) erM g).2.2.2.2.2=g.2.2.2.2/\(q07 (erF x d p c) erM g).2.1=g.1/\(g.1.drop g.2.2.1.toNat).any p=false)):=by
 refine q1l (z4o x d p c) (Q:=λg r=>((r.1=.ret/\r.2.2.2.2.2=c/\r.2.1=g.1/\(g.1.drop g.2.2.1.toNat).any p=true)\/(r.1=.exit x/\r.2.2.2.2.2=g.2.2.2.2/\r.2.1=g.1/\(g.1.drop g.2.2.1.toNat).any p=false))) ?_ ?_
 .rintro⟨xs,n,i,⟨⟩,e⟩ hi hn;obtain⟨h1,h2,h3,h4⟩:=hi _ (List.mem_cons_self ..);simp only at h1 h2 h3 h4;unfold erF at hn ⊢;simp only at hn ⊢;by_cases hlt:i<n
  .simp only[hlt,decide_true,cond_true]at hn ⊢;have hlt':i.toNat<xs.length:=by omega
   cases hp:p (xs.getD i.toNat d)with
   |true=>
    left;simp only[cond_true];refine⟨trivial,trivial,trivial,?_⟩;rw[drop_at d hlt',List.any_cons,hp];rfl
   |false=>rw[hp]at hn;exact absurd rfl hn
  .right;simp only[hlt,decide_false,cond_false];refine⟨trivial,trivial,trivial,?_⟩;rw[List.drop_eq_nil_of_le (by omega)];rfl
 .rintro⟨xs,n,i,⟨⟩,e⟩ g' r hi he hi' _ hq;obtain⟨h1,h2,h3,h4⟩:=hi _ (List.mem_cons_self ..);simp only at h1 h2 h3 h4;unfold maxLen at h2;unfold erF at he;simp only at he;by_cases hlt:i<n
  .simp only[hlt,decide_true,cond_true]at he;have hlt':i.toNat<xs.length:=by omega
   cases hp:p (xs.getD i.toNat d)with
   |true=>rw[hp]at he;cases he
   |false=>
    rw[hp]at he;simp only[cond_false,Prod.mk.injEq,true_and]at he;subst he;simp only at hq ⊢;rw[wr (by omega)]at hq;rw[drop_at d hlt',List.any_cons,hp,Bool.false_or];have:(i+1).toNat=i.toNat+1:=by omega
    rw[this]at hq;exact hq
  .simp only[hlt,decide_false,cond_false]at he;cases he
theorem zgv(x:Nat)(d:α)(p:α->Bool)(c:Int)(xs:List α)(e:Int)(h:xs.length<=maxLen):
  exB .ret (q07 (erF x d p c) erM (xs,(xs.length:Int),0,(),e)).1=xs.any p/\(q07 (erF x d p c) erM (xs,(xs.length:Int),0,(),e)).2.2.2.2.2=(bif xs.any p then c else e):=by
 have h0:allP (erI ((xs,(xs.length:Int),(0:Int),(),e):ErG α)):=λq hq=>by
  simp only[erI,List.mem_singleton]at hq;subst hq;exact⟨trivial,h,Int.le_refl _,by show(0:Int)<=(xs.length:Int);omega⟩
 rcases zv9 x d p c _ h0 with ⟨h1,h2,_,h3⟩|⟨h1,h2,_,h3⟩
 .have h4:(xs.drop 0).any p=true:=h3;rw[List.drop_zero]at h4;rw[h1,h2,h4];exact⟨rfl,rfl⟩
 .have h4:(xs.drop 0).any p=false:=h3;rw[List.drop_zero]at h4;rw[h1,h2,h4];exact⟨rfl,rfl⟩
abbrev FlG(α β:Type):=List α×β×List α×Int×Int×Unit×Int
def flF(x:Nat)(d:α)(bad:List α->α->Bool)(step:List α->β->α->β)(c:Int)(g:FlG α β):Ex×FlG α β:=
 bif decide (g.2.2.2.2.1<g.2.2.2.1)then
  bif bad g.1 (g.2.2.1.getD g.2.2.2.2.1.toNat d)then(.ret,g.1,g.2.1,g.2.2.1,g.2.2.2.1,g.2.2.2.2.1,(),c)
  else(.normal,g.1,step g.1 g.2.1 (g.2.2.1.getD g.2.2.2.2.1.toNat d),g.2.2.1,g.2.2.2.1,w64 (g.2.2.2.2.1+1),(),g.2.2.2.2.2.2)
 else(.exit x,g)
def flI(ok:List α->β->Nat->Prop)(g:FlG α β):List Prop:=[g.2.2.2.1=(g.1.length:Int)/\g.2.2.1=g.1/\g.1.length<=maxLen/\0<=g.2.2.2.2.1/\g.2.2.2.2.1<=(g.1.length:Int)/\ok g.1 g.2.1 g.2.2.2.2.1.toNat]
def flM(g:FlG α β):Nat:=(g.2.2.2.1-g.2.2.2.2.1).toNat
section
variable(x:Nat)(d:α)(bad:List α->α->Bool)(step:List α->β->α->β)(c:Int)(ok:List α->β->Nat->Prop)
variable(hok:∀xs b i,i<xs.length->ok xs b i->ok xs (step xs b (xs.getD i d)) (i+1))
include hok
theorem z3x:Goes (flF x d bad step c) flM λg=>allP (flI ok g):=by
 rintro⟨xs,b,ys,n,i,⟨⟩,e⟩ hi hn;obtain⟨h1,h0,h2,h3,h4,h5⟩:=hi _ (List.mem_cons_self ..);simp only at h1 h0 h2 h3 h4 h5;subst h0;have h2':=h2;unfold maxLen at h2;unfold flF at hn ⊢;simp only at hn ⊢;by_cases hlt:i<n
 .simp only[hlt,decide_true,cond_true]at hn ⊢;cases hp:bad ys (ys.getD i.toNat d)with
  |true=>rw[hp]at hn;cases hn
  |false=>
   simp only[cond_false];rw[wr (by omega)];refine⟨λq hq=>?_,?_⟩
   .simp only[flI,List.mem_singleton]at hq;subst hq;refine⟨h1,trivial,h2',by show(0:Int)<=i+1;omega,by show i+1<=(ys.length:Int);omega,?_⟩;have:=hok ys b i.toNat (by omega) h5;have e1:(i+1).toNat=i.toNat+1:=by omega
    rw[e1];exact this
   .simp only[flM];omega
 .simp only[hlt,decide_false,cond_false]at hn;cases hn
theorem zgt:∀g:FlG α β,allP (flI ok g)->
  (((q07 (flF x d bad step c) flM g).1=.ret/\(q07 (flF x d bad step c) flM g).2.2.2.2.2.2.2=c/\(g.1.drop g.2.2.2.2.1.toNat).any (bad g.1)=true)\/
   ((q07 (flF x d bad step c) flM g).1=.exit x/\(q07 (flF x d bad step c) flM g).2.2.2.2.2.2.2=g.2.2.2.2.2.2/\(q07 (flF x d bad step c) flM g).2.1=g.1/\(q07 (flF x d bad step c) flM g).2.2.1=(g.1.drop g.2.2.2.2.1.toNat).foldl (step g.1) g.2.1/\ok g.1 (q07 (flF x d bad step c) flM g).2.2.1 g.1.length/\(g.1.drop g.2.2.2.2.1.toNat).any (bad g.1)=false)):=by
 refine q1l (z3x x d bad step c ok hok) (Q:=λg r=>((r.1=.ret/\r.2.2.2.2.2.2.2=c/\(g.1.drop g.2.2.2.2.1.toNat).any (bad g.1)=true)\/
   (r.1=.exit x/\r.2.2.2.2.2.2.2=g.2.2.2.2.2.2/\r.2.1=g.1/\r.2.2.1=(g.1.drop g.2.2.2.2.1.toNat).foldl (step g.1) g.2.1/\ok g.1 r.2.2.1 g.1.length/\(g.1.drop g.2.2.2.2.1.toNat).any (bad g.1)=false))) ?_ ?_
 .rintro⟨xs,b,ys,n,i,⟨⟩,e⟩ hi hn;obtain⟨h1,h0,h2,h3,h4,h5⟩:=hi _ (List.mem_cons_self ..);simp only at h1 h0 h2 h3 h4 h5;subst h0;unfold flF at hn ⊢;simp only at hn ⊢;by_cases hlt:i<n
  .simp only[hlt,decide_true,cond_true]at hn ⊢;have hlt':i.toNat<ys.length:=by omega
   cases hp:bad ys (ys.getD i.toNat d)with
   |true=>
    left;simp only[cond_true];refine⟨trivial,trivial,?_⟩;rw[drop_at d hlt',List.any_cons,hp];rfl
   |false=>rw[hp]at hn;exact absurd rfl hn
  .right;simp only[hlt,decide_false,cond_false];have e1:i.toNat=ys.length:=by omega
   refine⟨trivial,trivial,trivial,?_,?_,?_⟩
   .rw[List.drop_eq_nil_of_le (by omega)];rfl
   .rw[<-e1];exact h5
   .rw[List.drop_eq_nil_of_le (by omega)];rfl
 .rintro⟨xs,b,ys,n,i,⟨⟩,e⟩ g' r hi he hi' _ hq;obtain⟨h1,h0,h2,h3,h4,h5⟩:=hi _ (List.mem_cons_self ..);simp only at h1 h0 h2 h3 h4 h5;subst h0;unfold maxLen at h2;unfold flF at he;simp only at he;by_cases hlt:i<n
  .simp only[hlt,decide_true,cond_true]at he;have hlt':i.toNat<ys.length:=by omega
   cases hp:bad ys (ys.getD i.toNat d)with
   |true=>rw[hp]at he;cases he
   |false=>
    rw[hp]at he;simp only[cond_false,Prod.mk.injEq,true_and]at he;subst he;simp only at hq ⊢;rw[wr (by omega)]at hq;rw[drop_at d hlt',List.any_cons,hp,Bool.false_or,List.foldl_cons];have:(i+1).toNat=i.toNat+1:=by omega
    rw[this]at hq;exact hq
  .simp only[hlt,decide_false,cond_false]at he;cases he
end
abbrev Er2G(α:Type):=List α×Int×Unit×Int
def er2F(x:Nat)(d:α)(p:α->Bool)(c:Int)(g:Er2G α):Ex×Er2G α:=
 bif decide (g.2.1<(g.1.length:Int))then
  bif p (g.1.getD g.2.1.toNat d)then(.ret,g.1,g.2.1,(),c)else(.normal,g.1,w64 (g.2.1+1),(),g.2.2.2)
 else(.exit x,g)
def er2I(g:Er2G α):List Prop:=[g.1.length<=maxLen/\0<=g.2.1/\g.2.1<=(g.1.length:Int)]
def er2M(g:Er2G α):Nat:=((g.1.length:Int)-g.2.1).toNat
theorem qvf(x:Nat)(d:α)(p:α->Bool)(c:Int):Goes (er2F x d p c) er2M λg=>allP (er2I g):=by
 rintro⟨xs,i,⟨⟩,e⟩ hi hn;obtain⟨h2,h3,h4⟩:=hi _ (List.mem_cons_self ..);simp only at h2 h3 h4;unfold maxLen at h2;unfold er2F at hn ⊢;simp only at hn ⊢;by_cases hlt:i<(xs.length:Int)
 .simp only[hlt,decide_true,cond_true]at hn ⊢;cases hp:p (xs.getD i.toNat d)with
  |true=>rw[hp]at hn;cases hn
  |false=>
   simp only[cond_false];rw[wr (by omega)];refine⟨λq hq=>?_,?_⟩
   .simp only[er2I,List.mem_singleton]at hq;subst hq;exact⟨by unfold maxLen;omega,by show(0:Int)<=i+1;omega,by show i+1<=(xs.length:Int);omega⟩
   .simp only[er2M];omega
 .simp only[hlt,decide_false,cond_false]at hn;cases hn
theorem z4p(x:Nat)(d:α)(p:α->Bool)(c:Int):∀g:Er2G α,allP (er2I g)->
  (((q07 (er2F x d p c) er2M g).1=.ret/\(q07 (er2F x d p c) er2M g).2.2.2.2=c/\(q07 (er2F x d p c) er2M g).2.1=g.1/\(g.1.drop g.2.1.toNat).any p=true)\/
   ((q07 (er2F x d p c) er2M g).1=.exit x/\(q07 (er2F x d p c) er2M g).2.2.2.2=g.2.2.2/\(q07 (er2F x d p c) er2M g).2.1=g.1/\(g.1.drop g.2.1.toNat).any p=false)):=by
 refine q1l (qvf x d p c) (Q:=λg r=>((r.1=.ret/\r.2.2.2.2=c/\r.2.1=g.1/\(g.1.drop g.2.1.toNat).any p=true)\/(r.1=.exit x/\r.2.2.2.2=g.2.2.2/\r.2.1=g.1/\(g.1.drop g.2.1.toNat).any p=false))) ?_ ?_
 .rintro⟨xs,i,⟨⟩,e⟩ hi hn;obtain⟨h2,h3,h4⟩:=hi _ (List.mem_cons_self ..);simp only at h2 h3 h4;unfold er2F at hn ⊢;simp only at hn ⊢;by_cases hlt:i<(xs.length:Int)
  .simp only[hlt,decide_true,cond_true]at hn ⊢;have hlt':i.toNat<xs.length:=by omega
   cases hp:p (xs.getD i.toNat d)with
   |true=>
    left;simp only[cond_true];refine⟨trivial,trivial,trivial,?_⟩;rw[drop_at d hlt',List.any_cons,hp];rfl
   |false=>rw[hp]at hn;exact absurd rfl hn
  .right;simp only[hlt,decide_false,cond_false];refine⟨trivial,trivial,trivial,?_⟩;rw[List.drop_eq_nil_of_le (by omega)];rfl
 .rintro⟨xs,i,⟨⟩,e⟩ g' r hi he hi' _ hq;obtain⟨h2,h3,h4⟩:=hi _ (List.mem_cons_self ..);simp only at h2 h3 h4;unfold maxLen at h2;unfold er2F at he;simp only at he;by_cases hlt:i<(xs.length:Int)
  .simp only[hlt,decide_true,cond_true]at he;have hlt':i.toNat<xs.length:=by omega
   cases hp:p (xs.getD i.toNat d)with
   |true=>rw[hp]at he;cases he
   |false=>
    rw[hp]at he;simp only[cond_false,Prod.mk.injEq,true_and]at he;subst he;simp only at hq ⊢;rw[wr (by omega)]at hq;rw[drop_at d hlt',List.any_cons,hp,Bool.false_or];have:(i+1).toNat=i.toNat+1:=by omega
    rw[this]at hq;exact hq
  .simp only[hlt,decide_false,cond_false]at he;cases he
theorem znq(x:Nat)(d:α)(p:α->Bool)(c:Int)(xs:List α)(e:Int)(h:xs.length<=maxLen):
  exB .ret (q07 (er2F x d p c) er2M (xs,0,(),e)).1=xs.any p/\(q07 (er2F x d p c) er2M (xs,0,(),e)).2.2.2.2=(bif xs.any p then c else e):=by
 have h0:allP (er2I ((xs,(0:Int),(),e):Er2G α)):=λq hq=>by
  simp only[er2I,List.mem_singleton]at hq;subst hq;exact⟨h,Int.le_refl _,by show(0:Int)<=(xs.length:Int);omega⟩
 rcases z4p x d p c _ h0 with ⟨h1,h2,_,h3⟩|⟨h1,h2,_,h3⟩
 .have h4:(xs.drop 0).any p=true:=h3;rw[List.drop_zero]at h4;rw[h1,h2,h4];exact⟨rfl,rfl⟩
 .have h4:(xs.drop 0).any p=false:=h3;rw[List.drop_zero]at h4;rw[h1,h2,h4];exact⟨rfl,rfl⟩
abbrev Fl2G(α β:Type):=List α×β×Int×Unit×Int
def fl2F(x:Nat)(d:α)(bad:List α->α->Bool)(step:List α->β->α->β)(c:Int)(g:Fl2G α β):Ex×Fl2G α β:=
 bif decide (g.2.2.1<(g.1.length:Int))then
  bif bad g.1 (g.1.getD g.2.2.1.toNat d)then(.ret,g.1,g.2.1,g.2.2.1,(),c)
  else(.normal,g.1,step g.1 g.2.1 (g.1.getD g.2.2.1.toNat d),w64 (g.2.2.1+1),(),g.2.2.2.2)
 else(.exit x,g)
def fl2I(ok:List α->β->Nat->Prop)(g:Fl2G α β):List Prop:=[g.1.length<=maxLen/\0<=g.2.2.1/\g.2.2.1<=(g.1.length:Int)/\ok g.1 g.2.1 g.2.2.1.toNat]
def fl2M(g:Fl2G α β):Nat:=((g.1.length:Int)-g.2.2.1).toNat
section
variable(x:Nat)(d:α)(bad:List α->α->Bool)(step:List α->β->α->β)(c:Int)(ok:List α->β->Nat->Prop)
variable(hok:∀xs b i,i<xs.length->ok xs b i->ok xs (step xs b (xs.getD i d)) (i+1))
include hok
theorem qml:Goes (fl2F x d bad step c) fl2M λg=>allP (fl2I ok g):=by
 rintro⟨ys,b,i,⟨⟩,e⟩ hi hn;obtain⟨h2,h3,h4,h5⟩:=hi _ (List.mem_cons_self ..);simp only at h2 h3 h4 h5;have h2':=h2;unfold maxLen at h2;unfold fl2F at hn ⊢;simp only at hn ⊢;by_cases hlt:i<(ys.length:Int)
 .simp only[hlt,decide_true,cond_true]at hn ⊢;cases hp:bad ys (ys.getD i.toNat d)with
  |true=>rw[hp]at hn;cases hn
  |false=>
   simp only[cond_false];rw[wr (by omega)];refine⟨λq hq=>?_,?_⟩
   .simp only[fl2I,List.mem_singleton]at hq;subst hq;refine⟨h2',by show(0:Int)<=i+1;omega,by show i+1<=(ys.length:Int);omega,?_⟩;have:=hok ys b i.toNat (by omega) h5;have e1:(i+1).toNat=i.toNat+1:=by omega
    rw[e1];exact this
   .simp only[fl2M];omega
 .simp only[hlt,decide_false,cond_false]at hn;cases hn
theorem zni:∀g:Fl2G α β,allP (fl2I ok g)->
  (((q07 (fl2F x d bad step c) fl2M g).1=.ret/\(q07 (fl2F x d bad step c) fl2M g).2.2.2.2.2=c/\(g.1.drop g.2.2.1.toNat).any (bad g.1)=true)\/
   ((q07 (fl2F x d bad step c) fl2M g).1=.exit x/\(q07 (fl2F x d bad step c) fl2M g).2.2.2.2.2=g.2.2.2.2/\(q07 (fl2F x d bad step c) fl2M g).2.1=g.1/\(q07 (fl2F x d bad step c) fl2M g).2.2.1=(g.1.drop g.2.2.1.toNat).foldl (step g.1) g.2.1/\ok g.1 (q07 (fl2F x d bad step c) fl2M g).2.2.1 g.1.length/\(g.1.drop g.2.2.1.toNat).any (bad g.1)=false)):=by
 refine q1l (qml x d bad step c ok hok) (Q:=λg r=>((r.1=.ret/\r.2.2.2.2.2=c/\(g.1.drop g.2.2.1.toNat).any (bad g.1)=true)\/
   (r.1=.exit x/\r.2.2.2.2.2=g.2.2.2.2/\r.2.1=g.1/\r.2.2.1=(g.1.drop g.2.2.1.toNat).foldl (step g.1) g.2.1/\ok g.1 r.2.2.1 g.1.length/\(g.1.drop g.2.2.1.toNat).any (bad g.1)=false))) ?_ ?_
 .rintro⟨ys,b,i,⟨⟩,e⟩ hi hn;obtain⟨h2,h3,h4,h5⟩:=hi _ (List.mem_cons_self ..);simp only at h2 h3 h4 h5;unfold fl2F at hn ⊢;simp only at hn ⊢;by_cases hlt:i<(ys.length:Int)
  .simp only[hlt,decide_true,cond_true]at hn ⊢;have hlt':i.toNat<ys.length:=by omega
   cases hp:bad ys (ys.getD i.toNat d)with
   |true=>
    left;simp only[cond_true];refine⟨trivial,trivial,?_⟩;rw[drop_at d hlt',List.any_cons,hp];rfl
   |false=>rw[hp]at hn;exact absurd rfl hn
  .right;simp only[hlt,decide_false,cond_false];have e1:i.toNat=ys.length:=by omega
   refine⟨trivial,trivial,trivial,?_,?_,?_⟩
   .rw[List.drop_eq_nil_of_le (by omega)];rfl
   .rw[<-e1];exact h5
   .rw[List.drop_eq_nil_of_le (by omega)];rfl
 .rintro⟨ys,b,i,⟨⟩,e⟩ g' r hi he hi' _ hq;obtain⟨h2,h3,h4,h5⟩:=hi _ (List.mem_cons_self ..);simp only at h2 h3 h4 h5;unfold maxLen at h2;unfold fl2F at he;simp only at he;by_cases hlt:i<(ys.length:Int)
  .simp only[hlt,decide_true,cond_true]at he;have hlt':i.toNat<ys.length:=by omega
   cases hp:bad ys (ys.getD i.toNat d)with
   |true=>rw[hp]at he;cases he
   |false=>
    rw[hp]at he;simp only[cond_false,Prod.mk.injEq,true_and]at he;subst he;simp only at hq ⊢;rw[wr (by omega)]at hq;rw[drop_at d hlt',List.any_cons,hp,Bool.false_or,List.foldl_cons];have:(i+1).toNat=i.toNat+1:=by omega
    rw[this]at hq;exact hq
  .simp only[hlt,decide_false,cond_false]at he;cases he
end
theorem qjx(p:α->Bool):∀(xs out:List α),xs.foldl (λo x=>bif p x then o++[x]else o) out=out++xs.filter p
 | [],out=>by simp
 |x::xs,out=>by
  rw[List.foldl_cons,qjx p xs,List.filter_cons];cases p x<;>simp
abbrev AnG(α σ:Type):=List α×σ×Int×Bool
variable{σ:Type}
def anF(x:Nat)(d:α)(p:List α->σ->α->Bool)(g:AnG α σ):Ex×AnG α σ:=
 bif decide (g.2.2.1<(g.1.length:Int))then(.normal,g.1,g.2.1,w64 (g.2.2.1+1),bif p g.1 g.2.1 (g.1.getD g.2.2.1.toNat d)then false else g.2.2.2)
 else(.exit x,g)
def anI(ok:List α->σ->Prop)(g:AnG α σ):List Prop:=[g.1.length<=maxLen/\0<=g.2.2.1/\g.2.2.1<=(g.1.length:Int)/\ok g.1 g.2.1]
def anM(g:AnG α σ):Nat:=((g.1.length:Int)-g.2.2.1).toNat
theorem z6t(x:Nat)(d:α)(p:List α->σ->α->Bool)(ok:List α->σ->Prop):Goes (anF x d p) anM λg=>allP (anI ok g):=by
 rintro⟨xs,s,i,b⟩ hi hn;obtain⟨h2,h3,h4,h5⟩:=hi _ (List.mem_cons_self ..);simp only at h2 h3 h4 h5;have h2':=h2;unfold maxLen at h2;unfold anF at hn ⊢;simp only at hn ⊢;by_cases hlt:i<(xs.length:Int)
 .simp only[hlt,decide_true,cond_true];rw[wr (by omega)];refine⟨λq hq=>?_,?_⟩
  .simp only[anI,List.mem_singleton]at hq;subst hq;exact⟨h2',by show(0:Int)<=i+1;omega,by show i+1<=(xs.length:Int);omega,h5⟩
  .simp only[anM];omega
 .simp only[hlt,decide_false,cond_false]at hn;cases hn
theorem zx6(x:Nat)(d:α)(p:List α->σ->α->Bool)(ok:List α->σ->Prop):∀g:AnG α σ,allP (anI ok g)->
  (q07 (anF x d p) anM g).1=.exit x/\(q07 (anF x d p) anM g).2.1=g.1/\(q07 (anF x d p) anM g).2.2.1=g.2.1/\(q07 (anF x d p) anM g).2.2.2.2=(g.2.2.2&&!(g.1.drop g.2.2.1.toNat).any (p g.1 g.2.1)):=by
 refine q1l (z6t x d p ok) (Q:=λg r=>r.1=.exit x/\r.2.1=g.1/\r.2.2.1=g.2.1/\r.2.2.2.2=(g.2.2.2&&!(g.1.drop g.2.2.1.toNat).any (p g.1 g.2.1))) ?_ ?_
 .rintro⟨xs,s,i,b⟩ hi hn;obtain⟨h2,h3,h4,h5⟩:=hi _ (List.mem_cons_self ..);simp only at h2 h3 h4 h5;unfold anF at hn ⊢;simp only at hn ⊢;by_cases hlt:i<(xs.length:Int)
  .simp only[hlt,decide_true,cond_true]at hn;exact absurd rfl hn
  .simp only[hlt,decide_false,cond_false];refine⟨trivial,trivial,trivial,?_⟩;rw[List.drop_eq_nil_of_le (by omega)];simp
 .rintro⟨xs,s,i,b⟩ g' r hi he hi' _ hq;obtain⟨h2,h3,h4,h5⟩:=hi _ (List.mem_cons_self ..);simp only at h2 h3 h4 h5;unfold maxLen at h2;unfold anF at he;simp only at he;by_cases hlt:i<(xs.length:Int)
  .simp only[hlt,decide_true,cond_true,Prod.mk.injEq,true_and]at he;subst he;have hlt':i.toNat<xs.length:=by omega
   simp only at hq ⊢;rw[wr (by omega)]at hq;have:(i+1).toNat=i.toNat+1:=by omega
   rw[this]at hq;rw[drop_at d hlt',List.any_cons];refine⟨hq.1,hq.2.1,hq.2.2.1,?_⟩;rw[hq.2.2.2];cases p xs s (xs.getD i.toNat d)<;>simp
  .simp only[hlt,decide_false,cond_false]at he;cases he
end
end Go.Lp

namespace Go.Lp
open Go.Sx
variable[Env]
theorem qnx{γ δ:Type}{F:γ->Ex×γ}{F':δ->Ex×δ}{m':δ->Nat}{I':δ->Prop}(φ:γ->δ)(ψ:δ->γ)(h2:∀d,φ (ψ d)=d)(hF:∀d,I' d->F (ψ d)=((F' d).1,ψ (F' d).2))(hg:Goes F' m' I'):∀(n:Nat)(d:δ),I' d->runL F n (ψ d)=((runL F' n d).1,ψ (runL F' n d).2)
 |0,d,_=>by simp[runL]
 |n+1,d,hi=>by
  simp only[runL];have h:=hF d hi;have hk:=hg d hi;rw[h];generalize F' d=x at hk;obtain⟨e,d'⟩:=x;cases e with
  |normal=>
   simp only;rw[qnx φ ψ h2 hF hg n d' (hk rfl).1]
  |_=>rfl
theorem qwr{γ δ:Type}{F:γ->Ex×γ}{F':δ->Ex×δ}{m:γ->Nat}{m':δ->Nat}{I':δ->Prop}(φ:γ->δ)(ψ:δ->γ)(h1:∀g,ψ (φ g)=g)(h2:∀d,φ (ψ d)=d)(hm:∀d,m (ψ d)=m' d)(hF:∀d,I' d->F (ψ d)=((F' d).1,ψ (F' d).2))(hg:Goes F' m' I')(g:γ)(hi:I' (φ g)):
  q07 F m g=((q07 F' m' (φ g)).1,ψ (q07 F' m' (φ g)).2):=by
 have e:=hm (φ g);have r:=qnx φ ψ h2 hF hg (m' (φ g)+1) (φ g) hi;rw[h1]at e r;rw[q8o,q8o,e];exact r
theorem z3o{γ δ:Type}{F:γ->Ex×γ}{F':δ->Ex×δ}{m:γ->Nat}{m':δ->Nat}{I:γ->Prop}{I':δ->Prop}(φ:γ->δ)(ψ:δ->γ)(h1:∀g,ψ (φ g)=g)(hm:∀d,m (ψ d)=m' d)(hI:∀d,I (ψ d)↔I' d)(hF:∀d,I' d->F (ψ d)=((F' d).1,ψ (F' d).2))(h:Goes F' m' I'):Goes F m I:=by
 intro g hi hn;rw[<-h1 g]at hi hn ⊢;have hi':=(hI _).1 hi;rw[hF _ hi']at hn ⊢;rw[hI];rw[hm,hm];exact h _ hi' hn
section
variable{α β C:Type}
def ixF(x:Nat)(lim:C->Int)(xs:C->List α)(d:α)(step:C->β->Int->α->Ex×β)(g:Int×C×β):Ex×(Int×C×β):=
 bif decide (g.1<lim g.2.1)then
  match step g.2.1 g.2.2 g.1 ((xs g.2.1).getD g.1.toNat d)with
  |(.normal,b)=>(.normal,w64 (g.1+1),g.2.1,b)
  |(e,b)=>(e,g.1,g.2.1,b)
 else(.exit x,g)
def ixJ(lim:C->Int)(xs:C->List α)(P:C->β->Int->Prop)(g:Int×C×β):Prop:=lim g.2.1=((xs g.2.1).length:Int)/\(xs g.2.1).length<=maxLen/\0<=g.1/\g.1<=((xs g.2.1).length:Int)/\P g.2.1 g.2.2 g.1
def ixI(lim:C->Int)(xs:C->List α)(P:C->β->Int->Prop)(g:Int×C×β):List Prop:=[ixJ lim xs P g]
def ixM(lim:C->Int)(g:Int×C×β):Nat:=(lim g.2.1-g.1).toNat
def scan(x:Nat)(step:β->Int->α->Ex×β):Int->List α->β->Ex×Int×β
 |i,[],b=>(.exit x,i,b)
 |i,a::l,b=>match step b i a with
  |(.normal,b')=>scan x step (i+1) l b'
  |(e,b')=>(e,i,b')
def ixP(step:C->β->Int->α->Ex×β)(xs:C->List α)(P:C->β->Int->Prop):Prop:=∀c b(i:Nat)a,P c b i->(xs c)[i]?=some a->(step c b i a).1=.normal->P c (step c b i a).2 (i+1)
variable{x:Nat}{lim:C->Int}{xs:C->List α}{d:α}{step:C->β->Int->α->Ex×β}{P:C->β->Int->Prop}
theorem qrx(hP:ixP step xs P):Goes (ixF x lim xs d step) (ixM lim) λg=>allP (ixI lim xs P g):=by
 rintro⟨i,c,b⟩ hi hn;obtain⟨h1,h2,h3,h4,h5⟩:=hi _ (List.mem_cons_self ..);simp only at h1 h2 h3 h4 h5;unfold ixF at hn ⊢;simp only at hn ⊢;unfold maxLen at h2;by_cases hlt:i<lim c
 .simp only[hlt,decide_true,cond_true]at hn ⊢;have hlt':i.toNat<(xs c).length:=by omega
  have hp:=hP c b i.toNat ((xs c).getD i.toNat d) (by rw[show(i.toNat:Int)=i by omega];exact h5) (by rw[List.getD_eq_getElem?_getD,List.getElem?_eq_getElem hlt'];rfl);rw[show(i.toNat:Int)=i by omega]at hp;generalize step c b i ((xs c).getD i.toNat d)=s at hn hp ⊢;obtain⟨e,b'⟩:=s;cases e with
  |normal=>
   rw[wr (n:=i+1) (by omega)];refine⟨λq hq=>?_,?_⟩
   .simp only[ixI,List.mem_singleton]at hq;subst hq;exact⟨h1,by unfold maxLen;exact h2,by show(0:Int)<=i+1;omega,by show i+1<=((xs c).length:Int);omega,hp rfl⟩
   .simp only[ixM];omega
  |_=>cases hn
 .simp only[hlt,decide_false,cond_false]at hn;cases hn
theorem zu7(hP:ixP step xs P):∀g:Int×C×β,allP (ixI lim xs P g)->
  q07 (ixF x lim xs d step) (ixM lim) g=((scan x (step g.2.1) g.1 ((xs g.2.1).drop g.1.toNat) g.2.2).1,(scan x (step g.2.1) g.1 ((xs g.2.1).drop g.1.toNat) g.2.2).2.1,g.2.1,(scan x (step g.2.1) g.1 ((xs g.2.1).drop g.1.toNat) g.2.2).2.2):=by
 refine q1l (qrx (x:=x) (d:=d) hP) (Q:=λg r=>r=((scan x (step g.2.1) g.1 ((xs g.2.1).drop g.1.toNat) g.2.2).1,(scan x (step g.2.1) g.1 ((xs g.2.1).drop g.1.toNat) g.2.2).2.1,g.2.1,(scan x (step g.2.1) g.1 ((xs g.2.1).drop g.1.toNat) g.2.2).2.2)) ?_ ?_
 .rintro⟨i,c,b⟩ hi hn;obtain⟨h1,h2,h3,h4,h5⟩:=hi _ (List.mem_cons_self ..);simp only at h1 h2 h3 h4 h5;unfold ixF at hn ⊢;simp only at hn ⊢;by_cases hlt:i<lim c
  .simp only[hlt,decide_true,cond_true]at hn ⊢;have hlt':i.toNat<(xs c).length:=by omega
   rw[drop_at d hlt'];simp only[scan];generalize step c b i ((xs c).getD i.toNat d)=s at hn ⊢;obtain⟨e,b'⟩:=s;cases e with
   |normal=>exact absurd rfl hn
   |_=>rfl
  .simp only[hlt,decide_false,cond_false];rw[List.drop_eq_nil_of_le (by omega)];rfl
 .rintro⟨i,c,b⟩ g' r hi he hi' _ hq;obtain⟨h1,h2,h3,h4,h5⟩:=hi _ (List.mem_cons_self ..);simp only at h1 h2 h3 h4 h5;unfold maxLen at h2;unfold ixF at he;simp only at he;by_cases hlt:i<lim c
  .simp only[hlt,decide_true,cond_true]at he;have hlt':i.toNat<(xs c).length:=by omega
   rw[hq];simp only;rw[drop_at d hlt'];simp only[scan];generalize step c b i ((xs c).getD i.toNat d)=s at he ⊢;obtain⟨e,b'⟩:=s;cases e with
   |normal=>
    rw[wr (n:=i+1) (by omega)]at he;simp only[Prod.mk.injEq,true_and]at he;subst he;simp only;rw[show(i+1).toNat=i.toNat+1 by omega]
   |_=>simp at he
  .simp only[hlt,decide_false,cond_false]at he;cases he
theorem zmo(hP:ixP step xs P)(c:C)(b:β)(h1:lim c=((xs c).length:Int))(h2:(xs c).length<=maxLen)(h3:P c b 0):
  q07 (ixF x lim xs d step) (ixM lim) (0,c,b)=((scan x (step c) 0 (xs c) b).1,(scan x (step c) 0 (xs c) b).2.1,c,(scan x (step c) 0 (xs c) b).2.2):=by
 have:=zu7 (x:=x) (lim:=lim) (d:=d) hP (0,c,b) (λq hq=>by
  simp only[ixI,List.mem_singleton]at hq;subst hq;exact⟨h1,h2,Int.le_refl _,by show(0:Int)<=((xs c).length:Int);omega,h3⟩)
 simpa using this
theorem ixJ0{c:C}{b:β}(h1:lim c=((xs c).length:Int))(h2:(xs c).length<=maxLen)(h3:P c b 0):ixJ lim xs P (0,c,b):=⟨h1,h2,Int.le_refl _,by show(0:Int)<=((xs c).length:Int);omega,h3⟩
theorem zmp{c:C}{b:β}(h1:lim c=((xs c).length:Int))(h2:(xs c).length<=maxLen)(h3:P c b 0):allP (ixI lim xs P (0,c,b)):=λq hq=>by
 simp only[ixI,List.mem_singleton]at hq;subst hq;exact⟨h1,h2,Int.le_refl _,by show(0:Int)<=((xs c).length:Int);omega,h3⟩
section
variable{γ:Type}{F:γ->Ex×γ}{φ:γ->Int×C×β}{ψ:Int×C×β->γ}
theorem q0e(h1:∀g,ψ (φ g)=g)(h2:∀d,φ (ψ d)=d){d0:α}(hF:∀d,allP (ixI lim xs P d)->F (ψ d)=((ixF x lim xs d0 step d).1,ψ (ixF x lim xs d0 step d).2))(hP:ixP step xs P):Goes F (λg=>ixM lim (φ g)) λg=>allP (ixI lim xs P (φ g)):=
 z3o (m':=ixM lim) (I':=λd=>allP (ixI lim xs P d)) φ ψ h1 (λd=>by rw[h2]) (λd=>by rw[h2]) hF (qrx hP)
theorem q0h(h1:∀g,ψ (φ g)=g)(h2:∀d,φ (ψ d)=d){d0:α}(hF:∀d,allP (ixI lim xs P d)->F (ψ d)=((ixF x lim xs d0 step d).1,ψ (ixF x lim xs d0 step d).2))(hP:ixP step xs P)(c:C)(b:β)(k1:lim c=((xs c).length:Int))(k2:(xs c).length<=maxLen)(k3:P c b 0):
  q07 F (λg=>ixM lim (φ g)) (ψ (0,c,b))=((scan x (step c) 0 (xs c) b).1,ψ ((scan x (step c) 0 (xs c) b).2.1,c,(scan x (step c) 0 (xs c) b).2.2)):=by
 have h:=qwr (F:=F) (F':=ixF x lim xs d0 step) (m:=λg=>ixM lim (φ g)) (m':=ixM lim) (I':=λd=>allP (ixI lim xs P d)) φ ψ h1 h2 (λd=>by rw[h2]) hF (qrx hP) (ψ (0,c,b)) (by rw[h2];exact zmp k1 k2 k3);rw[h,h2,zmo hP c b k1 k2 k3]
end
section
variable{st:β->Int->α->Ex×β}
theorem scan_fold{f:β->α->β}(h:∀b i a,st b i a=(.normal,f b a)):∀(l:List α)(i:Int)(b:β),scan x st i l b=(.exit x,i+l.length,l.foldl f b)
 | [],i,b=>by simp[scan]
 |a::l,i,b=>by
  simp only[scan,h,List.foldl_cons,List.length_cons];rw[scan_fold h l];simp;omega
theorem scan_bad{p:α->Bool}{r:α->β->β}{f:β->α->β}{e:Ex}(he:e≠.normal)(h:∀b i a,st b i a=bif p a then(e,r a b)else(.normal,f b a)):∀(l:List α)(i:Int)(b:β),
  (l.any p=true/\(scan x st i l b).1=e/\∃a b',a∈l/\p a=true/\(scan x st i l b).2.2=r a b')\/(l.any p=false/\scan x st i l b=(.exit x,i+l.length,l.foldl f b))
 | [],i,b=>.inr ⟨rfl,by simp[scan]⟩
 |a::l,i,b=>by
  simp only[scan,h];cases hp:p a with
  |true=>
   left;refine⟨by simp[hp],?_⟩;cases e<;>first|exact absurd rfl he|exact⟨rfl,a,b,List.mem_cons_self ..,hp,rfl⟩
  |false=>
   simp only[cond_false];rcases scan_bad he h l (i+1) (f b a)with ⟨h1,h2,a',b',h3,h4,h5⟩|⟨h1,h2⟩
   .exact .inl ⟨by simp[h1],h2,a',b',List.mem_cons_of_mem _ h3,h4,h5⟩
   .refine .inr ⟨by simp[hp,h1],?_⟩;rw[h2];simp;omega
end
end
theorem q8c{α:Type}[DecidableEq α]{x:Nat}(b:List α)(d:α){st:Bool->Int->α->Ex×Bool}(h:∀r(i:Int)a,st r i a=bif !decide (a=b.getD i.toNat d)then(.ret,false)else(.normal,r)):∀(l:List α)(i:Nat)(r:Bool),l.length+i=b.length->
  (l=b.drop i/\scan x st (i:Int) l r=(.exit x,(i:Int)+l.length,r))\/(l≠b.drop i/\(scan x st (i:Int) l r).1=.ret/\(scan x st (i:Int) l r).2.2=false)
 | [],i,r,hl=>.inl ⟨by rw[List.drop_eq_nil_of_le (by simp at hl;omega)],by simp[scan]⟩
 |a::l,i,r,hl=>by
  simp only[List.length_cons]at hl;have hlt:i<b.length:=by omega
  rw[drop_at d hlt];simp only[scan,h,Int.toNat_natCast];by_cases hab:a=b.getD i d
  .simp only[hab,decide_true,Bool.not_true,cond_false];have ih:=q8c (x:=x) b d h l (i+1) r (by omega);rw[show((i+1:Nat):Int)=(i:Int)+1 by omega]at ih;rcases ih with ⟨h1,h2⟩|⟨h1,h2⟩
   .refine .inl ⟨by rw[h1],?_⟩;rw[h2];simp;omega
   .refine .inr ⟨λe=>h1 (by injection e),h2⟩
  .right;refine⟨λe=>hab (by injection e),?_⟩;simp only[hab,decide_false,Bool.not_false,cond_true];exact⟨trivial,trivial⟩
theorem qun{α:Type}(A:El α)(out:List α)(y:α):A.lst (min (out.length+1) out.length) (A.els out)++List.map (λ_=>y) (List.range (out.length+1-out.length))=out++[y]:=by
 rw[Nat.min_eq_right (Nat.le_succ _),A.lst_els,Nat.add_sub_cancel_left];rfl
end Go.Lp

namespace Go.Lp
open Go.Sx
variable[Env]
section
variable{α:Type}(A:El α)
theorem qf4(xs:List α)(x:α):A.lst (min (xs.length+1) xs.length) (A.els xs)++List.map (λ_=>x) (List.range (xs.length+1-xs.length))=xs++[x]:=by
 rw[Nat.min_eq_right (Nat.le_succ _),A.lst_els,show xs.length+1-xs.length=1 by omega];rfl
theorem zfq(xs:List α):A.lst (xs.length+1) (A.els xs)=xs++[A.dflt]:=by
 apply List.ext_getElem
 .simp[El.lst]
 .intro i h1 h2;simp only[El.lst,List.getElem_map,List.getElem_range,El.els,El.get_cells];by_cases h:i<xs.length
  .simp[List.getElem_append_left h,List.getD_eq_getElem?_getD,h]
  .have h3:i=xs.length:=by simp[El.lst]at h1;omega
   subst h3;simp[List.getD_eq_getElem?_getD]
theorem zfr(xs:List α)(k:Nat)(h:k<=xs.length):A.lst k (A.els xs)=xs.take k:=by
 apply List.ext_getElem
 .simp[El.lst];omega
 .intro i h1 h2;have:i<xs.length:=by simp[El.lst]at h1;omega
  simp[El.lst,El.els,El.get_cells,List.getD_eq_getElem?_getD,this]
theorem qgf(xs:List α)(i:Nat)(h:i<=xs.length)(x:α):(A.lst (bif decide (i<xs.length)then xs.length else xs.length+1) (A.els xs)).set i x=if i<xs.length then xs.set i x else xs++[x]:=by
 by_cases hi:i<xs.length
 .rw[decide_eq_true hi,cond_true,A.lst_els,if_pos hi]
 .have:i=xs.length:=by omega
  subst this;rw[decide_eq_false hi,cond_false,zfq,if_neg hi];simp
end
section
variable{α:Type}
theorem qjm(p:α->Bool)(d:α):∀(xs:List α)(e:Nat)(f:Nat->Bool),(∀i,i<xs.length->f (e+i)=p (xs.getD i d))->q2h f xs.length e=e+xs.findIdx p
 | [],e,f,_=>rfl
 |x::xs,e,f,h=>by
  simp only[List.length_cons,q2h];have h0:f e=p x:=h 0 (by simp);rw[List.findIdx_cons,h0];cases hp:p x with
  |true=>simp
  |false=>
   simp only[cond_false]
   rw[qjm p d xs (e+1) f λi hi=>by
    have:=h (i+1) (by simp;omega);rw[show e+1+i=e+(i+1) by omega];simpa using this]
   omega
theorem q5k(p:α->Bool)(d:α)(xs:List α){f:Nat->Bool}(h:∀i,i<xs.length->f i=p (xs.getD i d)):q2h f xs.length 0=xs.findIdx p:=by
 have:=qjm p d xs 0 f λi hi=>by rw[Nat.zero_add];exact h i hi
 rwa [Nat.zero_add]at this
theorem qgz{β:Type}[DecidableEq β](f:α->β){d:α}{xs:List α}(hd:xs.Pairwise λa b=>f a≠f b){i:Nat}(hi:i<xs.length):xs.findIdx (λx=>decide (f (xs.getD i d)=f x))=i:=by
 have hg:xs.getD i d=xs[i]:=by simp[List.getD_eq_getElem?_getD,hi]
 rw[hg,List.findIdx_eq hi];refine⟨by simp,λj hj=>?_⟩;have:=(List.pairwise_iff_getElem.1 hd) j i (by omega) hi hj;simp only[decide_eq_false_iff_not];exactλh=>this h.symm
end
section
variable{α β:Type}
abbrev MpE(α β:Type):=α×β×Int
def Bn(mp:List (MpE α β))(clk:Nat):Prop:=mp.Pairwise (λa b=>a.2.2<b.2.2)/\∀x∈mp,x.2.2<(clk:Int)
def Kd(mp:List (MpE α β)):Prop:=mp.Pairwise λa b=>a.1≠b.1
def left(mp:List (MpE α β))(seen:List Int):List (MpE α β):=mp.filter λx=>!seen.contains x.2.2
theorem quu(mp:List (MpE α β))(seen:List Int)(d:MpE α β)(d':Int):left mp seen=(qbq (λe=>(mp.getD e d).2.2) mp.length (λk=>seen.getD k d') seen.length).map λi=>mp.getD i d:=by
 have h1:mp=(List.range mp.length).map λi=>mp.getD i d:=by
  apply List.ext_getElem
  .simp
  .intro i h1 h2;simp[List.getD_eq_getElem?_getD,h1]
 have h2:qbq (λe=>(mp.getD e d).2.2) mp.length (λk=>seen.getD k d') seen.length=(List.range mp.length).filter ((λx:MpE α β=>!seen.contains x.2.2)∘λi=>mp.getD i d):=by
  unfold qbq;apply List.filter_congr;intro i _;simp only[Function.comp];congr 1;rw[Bool.eq_iff_iff,List.any_eq_true];constructor
  .rintro⟨k,hk,hk'⟩;have hk:=List.mem_range.1 hk;have hk':=eq_of_beq hk';rw[hk'];simp[List.getD_eq_getElem?_getD,hk]
  .intro h;have h:(mp.getD i d).2.2∈seen:=by simpa using h
   obtain⟨k,hk,hk'⟩:=List.getElem_of_mem h;refine⟨k,List.mem_range.2 hk,?_⟩;simp[List.getD_eq_getElem?_getD,hk,hk']
 rw[h2,<-List.filter_map,<-h1];rfl
theorem z1u{mp:List (MpE α β)}{seen:List Int}{d:MpE α β}{d':Int}{q:List Nat}(hq:q=qbq (λe=>(mp.getD e d).2.2) mp.length (λk=>seen.getD k d') seen.length)(h0:q.length≠0)(cs:List Nat):
  ∃j,qi1 q cs=j/\j<mp.length/\(left mp seen)[cs.headD 0%(left mp seen).length]?=some (mp.getD j d)/\seen.contains (mp.getD j d).2.2=false:=by
 have hl:=quu mp seen d d';rw[<-hq]at hl;have hlt:cs.headD 0%q.length<q.length:=Nat.mod_lt _ (by omega)
 have hp:qi1 q cs=q[cs.headD 0%q.length]:=by
  unfold qi1;rw[List.getD_eq_getElem?_getD,List.getElem?_eq_getElem hlt];rfl
 refine⟨_,rfl,?_,?_,?_⟩
 .rw[hp];have:=List.getElem_mem hlt;generalize q[cs.headD 0%q.length]=j at this;rw[hq]at this;exact List.mem_range.1 (List.mem_filter.1 this).1
 .rw[hl,List.length_map,List.getElem?_map,List.getElem?_eq_getElem hlt,hp];rfl
 .have:mp.getD (qi1 q cs) d∈left mp seen:=by
   rw[hl,hp];exact List.mem_map.2 ⟨_,List.getElem_mem hlt,rfl⟩
  have:=(List.mem_filter.1 this).2;simpa using this
theorem zar{mp:List (MpE α β)}{seen:List Int}{d:MpE α β}{d':Int}{q:List Nat}(hq:q=qbq (λe=>(mp.getD e d).2.2) mp.length (λk=>seen.getD k d') seen.length):q.length=(left mp seen).length:=by
 rw[quu mp seen d d',hq,List.length_map]
theorem zx1{mp:List (MpE α β)}{clk:Nat}(h:Bn mp clk):mp.Pairwise λa b=>a.2.2≠b.2.2:=h.1.imp λh=>by omega
theorem z8a{mp:List (MpE α β)}{clk:Nat}(h:Bn mp clk){d:MpE α β}{i:Nat}(hi:i<mp.length){q:Nat}(hq:q=q2h (λe=>(mp.getD e d).2.2==(mp.getD i d).2.2) mp.length 0):q=i:=by
 have e:q2h (λe=>(mp.getD e d).2.2==(mp.getD i d).2.2) mp.length 0=mp.findIdx λx=>decide ((mp.getD i d).2.2=x.2.2):=
  q5k _ d mp λj _=>by rw[Bool.eq_iff_iff,beq_iff_eq,decide_eq_true_eq];exact eq_comm
 rw[hq,e];exact qgz (λx:MpE α β=>x.2.2) (zx1 h) hi
theorem zdr{mp:List (MpE α β)}{clk:Nat}(h:Bn mp clk)(i:Nat):Bn (mp.eraseIdx i) clk:=⟨h.1.sublist (List.eraseIdx_sublist ..),λx hx=>h.2 x ((List.eraseIdx_sublist ..).subset hx)⟩
theorem zb4{mp:List (MpE α β)}(h:Kd mp)(i:Nat):Kd (mp.eraseIdx i):=h.sublist (List.eraseIdx_sublist ..)
theorem z6m{mp:List (MpE α β)}{clk:Nat}(h:Bn mp clk)(p:MpE α β->Bool):Bn (mp.filter p) clk:=⟨h.1.sublist List.filter_sublist,λx hx=>h.2 x (List.mem_filter.1 hx).1⟩
theorem z2k{mp:List (MpE α β)}(h:Kd mp)(p:MpE α β->Bool):Kd (mp.filter p):=h.sublist List.filter_sublist
theorem qe4{mp:List (MpE α β)}{clk:Nat}(h:Bn mp clk){i:Nat}(hi:i<mp.length)(p q:MpE α β->Bool)(hq:q mp[i]=false)(hpq:∀x∈mp,x.2.2≠mp[i].2.2->p x=q x):(mp.eraseIdx i).filter p=mp.filter q:=by
 have hsp:mp=mp.take i++mp[i]::mp.drop (i+1):=by
  rw[List.getElem_cons_drop,List.take_append_drop]
 have hne:∀x∈mp.take i++mp.drop (i+1),x.2.2≠mp[i].2.2:=λx hx=>by
  have hp:=zx1 h;rw[hsp,List.pairwise_append]at hp;obtain⟨_,h2,h3⟩:=hp;rcases List.mem_append.1 hx with hx|hx
  .exact h3 x hx _ (List.mem_cons_self ..)
  .exactλe=>(List.pairwise_cons.1 h2).1 x hx e.symm
 rw[List.eraseIdx_eq_take_drop_succ]
 have h1:mp.filter q=(mp.take i++mp.drop (i+1)).filter q:=by
  conv=>lhs;rw[hsp]
  rw[List.filter_append,List.filter_append,List.filter_cons,hq];rfl
 rw[h1];apply List.filter_congr;intro x hx;refine hpq x ?_ (hne x hx);rw[hsp];rcases List.mem_append.1 hx with hx|hx
 .exact List.mem_append_left _ hx
 .exact List.mem_append_right _ (List.mem_cons_of_mem _ hx)
def q4j:Nat->List Nat->List (MpE α β)->List (MpE α β)
 |0,_,_=>[]
 |n+1,cs,l=>match l[(hdC (hdC cs)).headD 0%l.length]? with
  |some e=>e::q4j n (tlC cs) (l.eraseIdx ((hdC (hdC cs)).headD 0%l.length))
  |none=>[]
theorem qja:∀(n:Nat)(cs:List Nat)(l:List (MpE α β)),l.length=n->(q4j n cs l).Perm l
 |0,cs,l,h=>by rw[List.length_eq_zero_iff.1 h];exact List.Perm.refl _
 |n+1,cs,l,h=>by
  have hlt:(hdC (hdC cs)).headD 0%l.length<l.length:=Nat.mod_lt _ (by omega);simp only[q4j,List.getElem?_eq_getElem hlt];refine((qja n (tlC cs) _ ?_).cons _).trans ?_
  .rw[List.length_eraseIdx_of_lt hlt];omega
  .rw[List.eraseIdx_eq_take_drop_succ];refine List.perm_middle.symm.trans (List.Perm.of_eq ?_);rw[List.getElem_cons_drop,List.take_append_drop]
theorem qjb{l:List (MpE α β)}{n:Nat}{cs:List Nat}{e:MpE α β}(hn:l.length=n+1)(hk:l[(hdC (hdC cs)).headD 0%l.length]?=some e):q4j l.length cs l=e::q4j n (tlC cs) (l.eraseIdx ((hdC (hdC cs)).headD 0%l.length)):=by
 have:q4j (n+1) cs l=e::q4j n (tlC cs) (l.eraseIdx ((hdC (hdC cs)).headD 0%l.length)):=by
  simp only[q4j,hk]
 rw[<-this,hn]
theorem qp1{mp:List (MpE α β)}{clk:Nat}(h:Bn mp clk){seen:List Int}{k:Nat}{e:MpE α β}(hk:(left mp seen)[k]?=some e):left mp (seen++[e.2.2])=(left mp seen).eraseIdx k:=by
 obtain⟨hlt,rfl⟩:=List.getElem?_eq_some_iff.1 hk;have hb:Bn (left mp seen) clk:=z6m h _
 have h1:left mp (seen++[(left mp seen)[k].2.2])=(left mp seen).filter λx=>!decide (x.2.2=(left mp seen)[k].2.2):=by
  generalize (left mp seen)[k].2.2=s;unfold left;rw[List.filter_filter];apply List.filter_congr;intro x _;rw[Bool.eq_iff_iff];simp;exact⟨λh=>⟨h.2,h.1⟩,λh=>⟨h.2,h.1⟩⟩
 rw[h1];have:=qe4 hb hlt (λ_=>true) (λx=>!decide (x.2.2=(left mp seen)[k].2.2)) (by simp) λx _ hx=>by simp[hx]
 rw[<-this,List.filter_eq_self.2 λ_ _=>rfl]
section
variable{γ δ:Type}{F:List Nat->γ->Ex×γ}{m:γ->Nat}{Inv:γ->Prop}
def qb3(x:Nat)(st:MpE α β->δ->Ex×δ):List (MpE α β)->δ->Ex×δ
 | [],b=>(.exit x,b)
 |e::l,b=>match st e b with
  |(.normal,b')=>qb3 x st l b'
  |r=>r
theorem z3u{x:Nat}{st:MpE α β->δ->Ex×δ}(mp:γ->List (MpE α β))(sn:γ->List Int)(clk:γ->Nat)(bo:γ->δ)(up:γ->List Int->δ->γ)(h1:∀g a b,mp (up g a b)=mp g)(h2:∀g a b,sn (up g a b)=a)(h2':∀g a b,bo (up g a b)=b)(h3:∀g a b c d,up (up g a b) c d=up g c d)(h4:∀g,up g (sn g) (bo g)=g)
  (hb:∀g,Inv g->Bn (mp g) (clk g)) (hm:∀g,m g=(left (mp g) (sn g)).length)
  (hI:∀g e,Inv g->e∈left (mp g) (sn g)->(left (mp g) (sn g++[e.2.2])).length<(left (mp g) (sn g)).length->(st e (bo g)).1=.normal->Inv (up g (sn g++[e.2.2]) (st e (bo g)).2))
  (hF:∀cs g,Inv g->((left (mp g) (sn g)).length=0/\F cs g=(.exit x,g))\/∃e,(left (mp g) (sn g))[(hdC cs).headD 0%(left (mp g) (sn g)).length]?=some e/\F cs g=((st e (bo g)).1,up g (sn g++[e.2.2]) (st e (bo g)).2)) :
  qdq F m Inv/\∀cs g,Inv g->∃s,q3s F m cs g=((qb3 x st (q4j (left (mp g) (sn g)).length cs (left (mp g) (sn g))) (bo g)).1,up g s (qb3 x st (q4j (left (mp g) (sn g)).length cs (left (mp g) (sn g))) (bo g)).2):=by
 have hg:qdq F m Inv:=λg cs hi hn=>by
  rcases hF cs g hi with ⟨_,e⟩|⟨e,hk,he⟩
  .rw[e]at hn;cases hn
  .rw[he]at hn ⊢
   have hlt:(left (mp g) (sn g++[e.2.2])).length<(left (mp g) (sn g)).length:=by
    rw[qp1 (hb g hi) hk];have:=(List.getElem?_eq_some_iff.1 hk).1;rw[List.length_eraseIdx_of_lt this];omega
   refine⟨hI g e hi (List.mem_of_getElem? hk) hlt hn,?_⟩;simp only;rw[hm,hm,h1,h2];exact hlt
 refine⟨hg,q73 hg (Q:=λcs g r=>∃s,r=((qb3 x st (q4j (left (mp g) (sn g)).length cs (left (mp g) (sn g))) (bo g)).1,up g s (qb3 x st (q4j (left (mp g) (sn g)).length cs (left (mp g) (sn g))) (bo g)).2)) (λg cs hi hn=>?_) λg g' cs r hi he hi' _ hq=>?_⟩
 .rcases hF (hdC cs) g hi with ⟨h0,e⟩|⟨e,hk,he⟩
  .refine⟨sn g,?_⟩;rw[h0];simp only[q4j,qb3];rw[h4,e]
  .rw[he]at hn ⊢;refine⟨sn g++[e.2.2],?_⟩;have hlt:=(List.getElem?_eq_some_iff.1 hk).1;obtain⟨n,hn'⟩:∃n,(left (mp g) (sn g)).length=n+1:=⟨(left (mp g) (sn g)).length-1,by omega⟩;have e1:q4j (left (mp g) (sn g)).length cs (left (mp g) (sn g))=e::q4j n (tlC cs) ((left (mp g) (sn g)).eraseIdx ((hdC (hdC cs)).headD 0%(left (mp g) (sn g)).length)):=qjb hn' hk;rw[e1];simp only[qb3];generalize st e (bo g)=r at hn;obtain⟨ex,b'⟩:=r;cases ex with
   |normal=>exact absurd rfl hn
   |_=>rfl
 .obtain⟨s,hs⟩:=hq;rcases hF (hdC cs) g hi with ⟨h0,e⟩|⟨e,hk,he2⟩
  .rw[he]at e;cases e
  .have hlt:=(List.getElem?_eq_some_iff.1 hk).1;obtain⟨n,hn'⟩:∃n,(left (mp g) (sn g)).length=n+1:=⟨(left (mp g) (sn g)).length-1,by omega⟩;have e1:q4j (left (mp g) (sn g)).length cs (left (mp g) (sn g))=e::q4j n (tlC cs) ((left (mp g) (sn g)).eraseIdx ((hdC (hdC cs)).headD 0%(left (mp g) (sn g)).length)):=qjb hn' hk;rw[he]at he2;simp only[Prod.mk.injEq]at he2;obtain⟨k1,k2⟩:=he2;have hst:st e (bo g)=(.normal,(st e (bo g)).2):=by rw[k1]
   have hl:left (mp g') (sn g')=(left (mp g) (sn g)).eraseIdx ((hdC (hdC cs)).headD 0%(left (mp g) (sn g)).length):=by
    rw[k2,h1,h2];exact qp1 (hb g hi) hk
   have hln:(left (mp g') (sn g')).length=n:=by rw[hl,List.length_eraseIdx_of_lt hlt];omega
   refine⟨s,?_⟩;rw[hs,e1,hln,hl];have hbo:bo g'=(st e (bo g)).2:=by rw[k2,h2']
   have hup:∀c d,up g' c d=up g c d:=λc d=>by rw[k2,h3]
   simp only[qb3];rw[hst,hbo,hup]
end
end
end Go.Lp

namespace Go.Lp
open Go.Sx
variable[Env]
section
variable{α:Type}[DecidableEq α]
def dd(p:α):List α->List α
 | []=>[]
 |y::r=>if y=p then dd p r else y::dd y r
def q5w:List α->List α
 | []=>[]
 |x::r=>x::dd x r
abbrev CpG(α:Type):=Nat×List α×Int×(Nat×Nat)×Int
def cpF(d:α)(g:CpG α):Ex×CpG α:=
 bif decide (g.2.2.2.2<(g.2.2.2.1.2:Int))then
  (.normal,g.1,
   (bif !decide (g.2.1.getD (g.2.2.2.1.1+g.2.2.2.2.toNat) d=g.2.1.getD (g.2.2.2.1.1+(w64 (g.2.2.2.2-1)).toNat) d)then g.2.1.set g.2.2.1.toNat (g.2.1.getD (g.2.2.2.1.1+g.2.2.2.2.toNat) d)else g.2.1),
   (bif !decide (g.2.1.getD (g.2.2.2.1.1+g.2.2.2.2.toNat) d=g.2.1.getD (g.2.2.2.1.1+(w64 (g.2.2.2.2-1)).toNat) d)then w64 (g.2.2.1+1)else g.2.2.1),
   g.2.2.2.1,w64 (g.2.2.2.2+1))
 else(.exit 2,g)
def cpI(g:CpG α):List Prop:=[g.1=g.2.1.length/\g.2.1.length<=maxLen/\g.2.2.2.1.1+g.2.2.2.1.2=g.2.1.length/\1<=g.2.2.2.2/\g.2.2.2.2<=(g.2.2.2.1.2:Int)/\0<=g.2.2.1/\g.2.2.1<=(g.2.2.2.1.1:Int)+g.2.2.2.2-1]
def cpM(g:CpG α):Nat:=((g.2.2.2.1.2:Int)-g.2.2.2.2).toNat
theorem z5q(d:α):Goes (cpF d) cpM λg=>allP (cpI g):=by
 rintro⟨l,xs,k,⟨o,n⟩,j⟩ hi hn;obtain⟨h1,h2,h3,h4,h5,h6,h7⟩:=hi _ (List.mem_cons_self ..);simp only at h1 h2 h3 h4 h5 h6 h7;unfold maxLen at h2;unfold cpF at hn ⊢;simp only at hn ⊢;by_cases hlt:j<(n:Int)
 .simp only[hlt,decide_true,cond_true]at hn ⊢;rw[wr (n:=j+1) (by omega),wr (n:=k+1) (by omega)];generalize (!decide (xs.getD (o+j.toNat) d=xs.getD (o+(w64 (j-1)).toNat) d))=c;refine⟨λq hq=>?_,?_⟩
  .simp only[cpI,List.mem_singleton]at hq;subst hq;have hl:(bif c then xs.set k.toNat (xs.getD (o+j.toNat) d)else xs).length=xs.length:=by cases c<;>simp
   simp only[hl];cases c
   .exact⟨h1,by unfold maxLen;omega,h3,by omega,by omega,by simp only[cond_false];omega,by simp only[cond_false];omega⟩
   .exact⟨h1,by unfold maxLen;omega,h3,by omega,by omega,by simp only[cond_true];omega,by simp only[cond_true];omega⟩
  .simp only[cpM];omega
 .simp only[hlt,decide_false,cond_false]at hn;cases hn
theorem zho(d:α):∀g:CpG α,allP (cpI g)->
  (q07 (cpF d) cpM g).1=.exit 2/\(q07 (cpF d) cpM g).2.1=g.1/\(q07 (cpF d) cpM g).2.2.1.length=g.2.1.length/\0<=(q07 (cpF d) cpM g).2.2.2.1/\(q07 (cpF d) cpM g).2.2.2.1<(g.2.1.length:Int)/\
   (q07 (cpF d) cpM g).2.2.1.take (q07 (cpF d) cpM g).2.2.2.1.toNat=g.2.1.take g.2.2.1.toNat++dd (g.2.1.getD (g.2.2.2.1.1+g.2.2.2.2.toNat-1) d) (g.2.1.drop (g.2.2.2.1.1+g.2.2.2.2.toNat)):=by
 refine q1l (z5q d) (Q:=λg r=>r.1=.exit 2/\r.2.1=g.1/\r.2.2.1.length=g.2.1.length/\0<=r.2.2.2.1/\r.2.2.2.1<(g.2.1.length:Int)/\
   r.2.2.1.take r.2.2.2.1.toNat=g.2.1.take g.2.2.1.toNat++dd (g.2.1.getD (g.2.2.2.1.1+g.2.2.2.2.toNat-1) d) (g.2.1.drop (g.2.2.2.1.1+g.2.2.2.2.toNat))) ?_ ?_
 .rintro⟨l,xs,k,⟨o,n⟩,j⟩ hi hn;obtain⟨h1,h2,h3,h4,h5,h6,h7⟩:=hi _ (List.mem_cons_self ..);simp only at h1 h2 h3 h4 h5 h6 h7;unfold cpF at hn ⊢;simp only at hn ⊢;by_cases hlt:j<(n:Int)
  .simp only[hlt,decide_true,cond_true]at hn;exact absurd rfl hn
  .simp only[hlt,decide_false,cond_false];refine⟨trivial,trivial,trivial,h6,by omega,?_⟩;rw[List.drop_eq_nil_of_le (by omega)];simp[dd]
 .rintro⟨l,xs,k,⟨o,n⟩,j⟩ g' r hi he hi' _ hq;obtain⟨h1,h2,h3,h4,h5,h6,h7⟩:=hi _ (List.mem_cons_self ..);simp only at h1 h2 h3 h4 h5 h6 h7;unfold maxLen at h2;unfold cpF at he;simp only at he;by_cases hlt:j<(n:Int)
  .simp only[hlt,decide_true,cond_true,Prod.mk.injEq,true_and]at he;subst he;rw[wr (n:=j+1) (by omega),wr (n:=k+1) (by omega),wr (n:=j-1) (by omega)]at hq;simp only at hq ⊢;have hy:o+j.toNat<xs.length:=by omega
   have e1:o+(j-1).toNat=o+j.toNat-1:=by omega
   have e2:o+(j+1).toNat-1=o+j.toNat:=by omega
   have e3:o+(j+1).toNat=o+j.toNat+1:=by omega
   rw[e1,e2,e3]at hq
   have hd:xs.drop (o+j.toNat)=xs.getD (o+j.toNat) d::xs.drop (o+j.toNat+1):=by
    rw[List.drop_eq_getElem_cons hy];simp[List.getD_eq_getElem?_getD,hy]
   rw[hd];simp only[dd];by_cases hc:xs.getD (o+j.toNat) d=xs.getD (o+j.toNat-1) d
   .simp only[hc,decide_true,Bool.not_true,cond_false]at hq;rw[if_pos hc];exact hq
   .simp only[hc,decide_false,Bool.not_false,cond_true]at hq;rw[if_neg hc];obtain⟨q1,q2,q3,q4,q5,q6⟩:=hq;simp only[List.length_set]at q3 q5;refine⟨q1,q2,q3,q4,q5,?_⟩;rw[q6];have hk:k.toNat<xs.length:=by omega
    have e4:(k+1).toNat=k.toNat+1:=by omega
    rw[e4]
    have e5:(xs.set k.toNat (xs.getD (o+j.toNat) d)).take (k.toNat+1)=xs.take k.toNat++[xs.getD (o+j.toNat) d]:=by
     rw[List.take_add_one,List.take_set_of_le (Nat.le_refl _),List.getElem?_set_self hk];rfl
    have e6:(xs.set k.toNat (xs.getD (o+j.toNat) d)).drop (o+j.toNat+1)=xs.drop (o+j.toNat+1):=by
     rw[List.drop_set_of_lt (by omega)]
    have e7:(xs.set k.toNat (xs.getD (o+j.toNat) d)).getD (o+j.toNat) d=xs.getD (o+j.toNat) d:=by
     simp only[List.getD_eq_getElem?_getD];by_cases h8:k.toNat=o+j.toNat
     .omega
     .rw[List.getElem?_set_ne h8]
    rw[e5,e6,e7];simp
  .simp only[hlt,decide_false,cond_false]at he;cases he
end
end Go.Lp

namespace Go.Lp
noncomputable section
open Go.Sx
variable[Env]
section
variable{α:Type}[DecidableEq α]
def pfx(d:α)(n:Nat)(xs:List α):List α:=(List.range n).map λe=>xs.getD e d
theorem z9o(d:α){n:Nat}{xs:List α}(h:n<=xs.length):pfx d n xs=xs.take n:=by
 apply List.ext_getElem
 .simp[pfx];omega
 .intro i h1 h2;simp only[pfx,List.length_map,List.length_range]at h1;have:i<xs.length:=by omega
  simp[pfx,List.getD_eq_getElem?_getD,this]
theorem zlz(A:El α)(n:Nat)(xs:List α):A.lst n (A.els xs)=pfx A.dflt n xs:=by
 simp only[El.lst,El.els,El.get_cells,pfx]
abbrev CoG(α:Type):=Nat×List α×Int×(Bool×Nat)
def coQ(d:α)(g:CoG α):Ex×CpG α:=q07 (cpF d) cpM (g.1,g.2.1,g.2.2.1,(g.2.2.1.toNat,g.1-g.2.2.1.toNat),1)
def coF(d:α)(g:CoG α):Ex×CoG α:=
 bif decide (g.2.2.1<(g.1:Int))then
  bif decide (g.2.1.getD g.2.2.1.toNat d=g.2.1.getD (w64 (g.2.2.1-1)).toNat d)then
   (.ret,(coQ d g).2.1,pfx d (coQ d g).2.2.2.1.toNat (coQ d g).2.2.1,(coQ d g).2.2.2.1,(true,(coQ d g).2.2.2.1.toNat))
  else(.normal,g.1,g.2.1,w64 (g.2.2.1+1),g.2.2.2)
 else(.exit 0,g)
def coI(d:α)(g:CoG α):List Prop:=[g.1=g.2.1.length/\g.2.1.length<=maxLen/\1<=g.2.2.1/\g.2.2.1<=(g.2.1.length:Int)/\q5w g.2.1=g.2.1.take g.2.2.1.toNat++dd (g.2.1.getD (g.2.2.1.toNat-1) d) (g.2.1.drop g.2.2.1.toNat)]
def coM(g:CoG α):Nat:=((g.1:Int)-g.2.2.1).toNat
theorem z6a(d:α):Goes (coF d) coM λg=>allP (coI d g):=by
 rintro⟨l,xs,k,r⟩ hi hn;obtain⟨h1,h2,h3,h4,h5⟩:=hi _ (List.mem_cons_self ..);simp only at h1 h2 h3 h4 h5;unfold maxLen at h2;unfold coF at hn ⊢;simp only at hn ⊢;by_cases hlt:k<(l:Int)
 .simp only[hlt,decide_true,cond_true]at hn ⊢;by_cases hc:xs.getD k.toNat d=xs.getD (w64 (k-1)).toNat d
  .simp only[hc,decide_true,cond_true]at hn;cases hn
  .simp only[hc,decide_false,cond_false];rw[wr (n:=k+1) (by omega)];refine⟨λq hq=>?_,?_⟩
   .simp only[coI,List.mem_singleton]at hq;subst hq;refine⟨h1,by unfold maxLen;omega,by show 1<=k+1;omega,by show k+1<=(xs.length:Int);omega,?_⟩;show q5w xs=xs.take (k+1).toNat++dd (xs.getD ((k+1).toNat-1) d) (xs.drop (k+1).toNat);rw[wr (n:=k-1) (by omega)]at hc;have hk:k.toNat<xs.length:=by omega
    have e1:(k+1).toNat=k.toNat+1:=by omega
    have e2:(k-1).toNat=k.toNat-1:=by omega
    rw[e2]at hc
    have hd:xs.drop k.toNat=xs.getD k.toNat d::xs.drop (k.toNat+1):=by
     rw[List.drop_eq_getElem_cons hk];simp[List.getD_eq_getElem?_getD,hk]
    have ht:xs.take (k.toNat+1)=xs.take k.toNat++[xs.getD k.toNat d]:=by
     rw[List.take_add_one];simp[List.getD_eq_getElem?_getD,hk]
    rw[h5,hd,e1,Nat.add_sub_cancel,ht];simp only[dd];rw[if_neg hc];simp
   .simp only[coM];omega
 .simp only[hlt,decide_false,cond_false]at hn;cases hn
theorem zhv(d:α):∀g:CoG α,allP (coI d g)->
  ((q07 (coF d) coM g).1=.ret/\(q07 (coF d) coM g).2.1=g.1/\(q07 (coF d) coM g).2.2.1=q5w g.2.1/\(q07 (coF d) coM g).2.2.2.2=(true,(q5w g.2.1).length))\/
  ((q07 (coF d) coM g).1=.exit 0/\(q07 (coF d) coM g).2.1=g.1/\(q07 (coF d) coM g).2.2.1=g.2.1/\q5w g.2.1=g.2.1):=by
 refine q1l (z6a d) (Q:=λg r=>(r.1=.ret/\r.2.1=g.1/\r.2.2.1=q5w g.2.1/\r.2.2.2.2=(true,(q5w g.2.1).length))\/(r.1=.exit 0/\r.2.1=g.1/\r.2.2.1=g.2.1/\q5w g.2.1=g.2.1)) ?_ ?_
 .rintro⟨l,xs,k,r⟩ hi hn;obtain⟨h1,h2,h3,h4,h5⟩:=hi _ (List.mem_cons_self ..);simp only at h1 h2 h3 h4 h5;have h2':=h2;unfold maxLen at h2;unfold coF at hn ⊢;simp only at hn ⊢;by_cases hlt:k<(l:Int)
  .simp only[hlt,decide_true,cond_true]at hn ⊢;by_cases hc:xs.getD k.toNat d=xs.getD (w64 (k-1)).toNat d
   .left;simp only[hc,decide_true,cond_true];rw[wr (n:=k-1) (by omega)]at hc;have hk:k.toNat<xs.length:=by omega
    have e2:(k-1).toNat=k.toNat-1:=by omega
    rw[e2]at hc
    have hI:allP (cpI ((l,xs,k,(k.toNat,l-k.toNat),1):CpG α)):=λq hq=>by
     simp only[cpI,List.mem_singleton]at hq;subst hq;exact⟨h1,h2',by show k.toNat+(l-k.toNat)=xs.length;omega,Int.le_refl _,by show(1:Int)<=((l-k.toNat:Nat):Int);omega,by show 0<=k;omega,by show k<=(k.toNat:Int)+1-1;omega⟩
    obtain⟨c1,c2,c3,c4,c5,c6⟩:=zho d _ hI;simp only at c2 c3 c5 c6;unfold coQ;simp only
    have e3:k.toNat+(1:Int).toNat-1=k.toNat:=by
     have:(1:Int).toNat=1:=rfl;omega
    have e4:k.toNat+(1:Int).toNat=k.toNat+1:=rfl;rw[e3,e4]at c6
    have hd:xs.drop k.toNat=xs.getD k.toNat d::xs.drop (k.toNat+1):=by
     rw[List.drop_eq_getElem_cons hk];simp[List.getD_eq_getElem?_getD,hk]
    have hcomp:q5w xs=xs.take k.toNat++dd (xs.getD k.toNat d) (xs.drop (k.toNat+1)):=by
     rw[h5,hd];simp only[dd];rw[if_pos hc,hc]
    rw[<-hcomp]at c6;generalize q07 (cpF d) cpM (l,xs,k,(k.toNat,l-k.toNat),1)=q at c1 c2 c3 c4 c5 c6 ⊢;have hle:q.2.2.2.1.toNat<=q.2.2.1.length:=by omega
    rw[z9o d hle,c6];refine⟨trivial,c2,rfl,?_⟩;rw[<-c6,List.length_take];congr 1;omega
   .simp only[hc,decide_false,cond_false]at hn;exact absurd rfl hn
  .right;simp only[hlt,decide_false,cond_false];refine⟨trivial,trivial,trivial,?_⟩;rw[h5,List.drop_eq_nil_of_le (by omega),List.take_of_length_le (by omega)];simp[dd]
 .rintro⟨l,xs,k,r⟩ g' r' hi he hi' _ hq;unfold coF at he;simp only at he;by_cases hlt:k<(l:Int)
  .simp only[hlt,decide_true,cond_true]at he;by_cases hc:xs.getD k.toNat d=xs.getD (w64 (k-1)).toNat d
   .simp only[hc,decide_true,cond_true]at he;cases he
   .simp only[hc,decide_false,cond_false,Prod.mk.injEq,true_and]at he;subst he;exact hq
  .simp only[hlt,decide_false,cond_false]at he;cases he
theorem qxt{xs:List α}(h:xs.length<2):q5w xs=xs:=by
 match xs,h with
 | [],_=>rfl
 | [x],_=>rfl
end
end
end Go.Lp

namespace Go.Sx
def rw'{α:Type}:Result α->World
 | .ok _ w=>w
 | .halt _ w=>w
theorem qhl{α:Type}:∀(a:Ask α)(w:World),w.drawn<=(w.ask a).2.drawn
 | .done _,w=>by simp[World.ask]
 | .ask what range k,w=>by
  rw[World.ask];split
  .exact qhl (k 0) w
  .exact Nat.le_trans (Nat.le_succ _) (qhl _ { w with drawn:=w.drawn+1})
theorem qno(w:World)(c:Sys):w.drawn<=(w.sys c).2.drawn:=by
 have h:=qhl (Kernel.perform c w.os) w;unfold World.sys;split
 .exact Nat.le_refl _
 .rename_i he;rw[he]at h;exact h
theorem qia{P:Program}{w w':World}{a:Addr}{v:Value}{b:Bool}{l:List Addr}(h:w.farStore P a v b=.ok (w',l)):w.drawn<=w'.drawn:=by
 unfold World.farStore at h;split at h
 .rename_i at_ u _;split at h
  .rename_i r hr;injection h with h
   subst h;unfold World.viewStore at hr;simp only[bind,Except.bind,pure,Except.pure,throw,throwThe,MonadExceptOf.throw]at hr
   repeat' (first|(split at hr)|(cases hr))
   all_goals (first|exact Nat.le_refl _|(simp at hr;done)|skip)
  .cases h
 .cases h
theorem qb6{α:Type}(P:Program):∀(s:Sem α)(w:World),w.drawn<=(rw' (s.run P w)).drawn:=by
 intro s
 induction s with
 |pure a=>intro w;exact Nat.le_refl _
 |load m a k ih=>
  intro w;simp only[Sem.run];split
  .exact ih _ _
  .split
   .exact ih _ _
   .exact Nat.le_refl _
 |store m a v k ih=>
  intro w;cases v<;>simp only[Sem.run]<;>(try exact Nat.le_refl _)
  all_goals
   split
   .split
    .exact Nat.le_refl _
    .exact ih (w.setCell a _)
   .split
    .rename_i h;exact Nat.le_trans (qia h) (ih _)
    .exact Nat.le_refl _
 |new o k ih=>intro w;exact ih _ { w with heap:=w.heap.push o}
 |shape r k ih=>intro w;exact ih _ _
 |freeze a n k ih=>
  intro w;have h:(w.freeze a n).drawn=w.drawn:=by unfold World.freeze;split<;>rfl
  have:=ih (w.freeze a n);rw[h]at this;exact this
 |frozen a k ih=>intro w;exact ih _ _
 |getObj r k ih=>
  intro w;simp only[Sem.run];split
  .exact Nat.le_refl _
  .exact ih _ _
  .exact Nat.le_refl _
 |setObj r o k ih=>
  intro w;simp only[Sem.run];split
  .exact Nat.le_refl _
  .exact ih { w with heap:=w.heap.setIfInBounds r o}
  .exact Nat.le_refl _
 |choose q k ih=>
  intro w;simp only[Sem.run];split
  .exact ih _ _
  .exact Nat.le_trans (Nat.le_succ _) (ih _ { w with drawn:=w.drawn+1})
 |sys c k ih=>intro w;exact Nat.le_trans (qno w c) (ih _ _)
 |program k ih=>intro w;exact ih _ _
 |mark m k ih=>intro w;exact ih _
 |halt h=>intro w;exact Nat.le_refl _
theorem q3i{α:Type}(P:Program)(s:Sem α)(w:World)(es:Array Event):w.drawn<=(rw' (s.runT P w es).1).drawn:=by
 rw[Sem.runT_fst];exact qb6 P s w
section
variable{α:Type}{P:Program}{s:Sem α}{w w':World}{a:α}{es es':Array Event}{x:Halt}
theorem q1s(h:s.run P w=.ok a w'):w.drawn<=w'.drawn:=by have:=qb6 P s w;rw[h]at this;exact this
theorem run_halt(h:s.run P w=.halt x w'):w.drawn<=w'.drawn:=by have:=qb6 P s w;rw[h]at this;exact this
theorem zju(h:s.runT P w es=(.ok a w',es')):w.drawn<=w'.drawn:=by have:=q3i P s w es;rw[h]at this;exact this
theorem qzj(h:s.runT P w es=(.halt x w',es')):w.drawn<=w'.drawn:=by have:=q3i P s w es;rw[h]at this;exact this
theorem qb7(h:(s.runT P w es).1=.ok a w'):w.drawn<=w'.drawn:=by have:=q3i P s w es;rw[h]at this;exact this
theorem qiq(h:(s.runT P w es).1=.halt x w'):w.drawn<=w'.drawn:=by have:=q3i P s w es;rw[h]at this;exact this
end
def Up(n:Nat):GStep->Prop
 | .go _ w _=>n<=w.drawn
 | .comm _ _ _ _ w _=>n<=w.drawn
 | .spawn _ _ w _=>n<=w.drawn
 | .count _ w _=>n<=w.drawn
 | .timer _ _ w _=>n<=w.drawn
 | .alone _ _ w _=>n<=w.drawn
 | .newcoro _ _ _ w _=>n<=w.drawn
 | .coroswitch _ _ _ w _=>n<=w.drawn
 | .collect _ w _=>n<=w.drawn
 | .watch _ w _=>n<=w.drawn
 | .ended _ _ _=>True
theorem q9f{n:Nat}{es:Array Event}{s:GStep}:Up n (GStep.after es s)↔Up n s:=by cases s<;>exact Iff.rfl
theorem q5b{n m:Nat}{s:GStep}(h:n<=m)(hu:Up m s):Up n s:=by
 cases s<;>first|exact trivial|exact Nat.le_trans h hu
theorem zgf{n:Nat}{c:Prop}[Decidable c]{x y:GStep}(hx:Up n x)(hy:Up n y):Up n (if c then x else y):=by
 split
 .exact hx
 .exact hy
theorem zo5{n:Nat}{α:Type}{o:Option α}{x:GStep}{f:α->GStep}(hx:Up n x)(hf:∀a,Up n (f a)):Up n (o.elim x f):=by
 cases o
 .exact hx
 .exact hf _
theorem qxf(w:World)(fd:Nat)(text:ByteArray)(o:Outcome):Up w.drawn (endWith w fd text o):=by
 unfold endWith;have:=qno w (.write fd text);generalize w.sys (.write fd text)=x at this ⊢;obtain⟨r,w'⟩:=x;cases r<;>simp only<;>(try split)<;>exact trivial
theorem zco(fr:Frame)(l:List ByteArray)(m:String)(b:Bool)(w:World):Up w.drawn (dieOf fr l m b w):=Nat.le_refl _
theorem q78(fr:Frame)(m:String)(w:World):Up w.drawn (endThrow fr m w):=Nat.le_refl _
theorem qa7(P:Program)(fr:Frame)(v:Value)(w:World):Up w.drawn (endPrinting P fr v w):=by
 have:∀o:Option String,Up w.drawn (match o with
  |some s=>endThrow fr ("panic while printing panic value"++s) w
  |none=>.ended (.unsupported (.noEntry "a panic in Error or String during the report of a panic, with a value that cannot be shown") "") w):=λo=>by
  cases o with
  |some s=>exact q78 _ _ _
  |none=>trivial
 exact this _
theorem qh6(P:Program)(fr:Frame)(cs:List Frame)(d:Option Dying)(m:String)(w:World):Up w.drawn (endFatal P fr cs d m w):=by
 unfold endFatal;simp only;split
 .rename_i w' h;exact q5b (q1s h) (zco _ _ _ _ _)
 .trivial
 .trivial
theorem qvq(P:Program)(fr:Frame)(d:Dying)(f:Fatal)(w:World):Up w.drawn (writeOn P fr d f w):=by
 unfold writeOn;simp only;split
 .trivial
 .split
  .rename_i h;exact zju h
  .rename_i h;exact qzj h
  .trivial
  .trivial
theorem zvy(P:Program)(fr:Frame)(d:Dying)(w:World):Up w.drawn (die P fr d w):=by
 unfold die;split
 .exact qvq _ _ _ _ _
 .split
  .split
   .exact Nat.le_refl _
   .exact qxf _ _ _ _
  .simp only;split
   .exact Nat.le_refl _
   .split
    .rename_i h;exact q1s h
    .trivial
   .rw[q9f];split
    .rename_i h;exact qb7 h
    .rename_i h;exact qb7 h
    .trivial
    .rename_i h;exact q5b (qiq h) (qa7 _ _ _ _)
    .trivial
   .trivial
theorem zcb(P:Program)(fr:Frame)(cs:List Frame)(d:Option Dying)(g:Nat)(w:World):Up w.drawn (early P fr cs d g w):=by
 have hn:∀w':World,w.drawn<=w'.drawn->Up w.drawn (match w'.heap[g]? with
  |some (.pending c elem)=>
   .go { frame:=fr,callers:=cs,status:=.running,dying:=d} { w' with heap:=w'.heap.setIfInBounds g (.cells c elem)}
  |_=>.ended (.stuck "early: the variable does not wait" (fr.pos P)) w'):=λw' h=>by
  split
  .exact h
  .trivial
 unfold early;simp only
 repeat' split
 all_goals (first|exact trivial|exact Nat.le_refl _|exact hn _ (Nat.le_refl _)|skip)
 all_goals (first|(rename_i h;have h9:=q1s h;exact h9)|(rename_i h _;have h9:=q1s h;exact h9)|(rename_i h _ _;have h9:=q1s h;exact h9)|(rename_i h _ _ _;have h9:=q1s h;exact h9)|(rename_i h _ _ _ _;have h9:=q1s h;exact h9)|(rename_i h _ _ _ _ _;have h9:=q1s h;exact h9)|(rename_i h _ _ _ _ _ _;have h9:=q1s h;exact h9))
theorem qan(P:Program)(main:Bool)(fr:Frame)(cs:List Frame)(d:Option Dying)(v:Value)(w:World):Up w.drawn (doReturn P main fr cs d v w):=by
 unfold doReturn
 repeat' split
 all_goals (first|exact trivial|exact Nat.le_refl _)
theorem qhh(P:Program)(fr:Frame)(cs:List Frame)(dy:Option Dying)(d:Deferred)(w:World):Up w.drawn (callDeferred P fr cs dy d w):=by
 unfold callDeferred;refine zgf trivial ?_
 .have:=q3i P (invoke d.target d.args) w #[];simp only;rw[q9f];generalize ((invoke d.target d.args).runT P w #[]).1=r at this ⊢
  repeat' split
  all_goals (first|exact trivial|exact this|exact q5b this (qh6 _ _ _ _ _ _)|exact q5b this (q78 _ _ _))
theorem qyo(P:Program)(main:Bool)(fr:Frame)(cs:List Frame)(dy:Option Dying)(w:World):Up w.drawn (unwind P main fr cs dy w):=by
 unfold unwind;split
 .rename_i block _ _ _;have:=q3i P (Instr.takeDeferred block) w #[];simp only;rw[q9f];generalize ((Instr.takeDeferred block).runT P w #[]).1=r at this ⊢;split
  .exact this
  .trivial
 .exact qhh _ _ _ _ _ _
 .split
  .trivial
  .split
   .trivial
   .split
    .exact Nat.le_refl _
    .split
     .split
      .exact Nat.le_refl _
      .split
       .rename_i h;exact q1s h
       .trivial
       .trivial
     .split
      .exact qa7 _ _ _ _
      .trivial
  .split
   .exact qan _ _ _ _ _ _ _
   .rename_i fn _;have:=q3i P (results fn fr.tmps) w #[];simp only;rw[q9f];generalize ((results fn fr.tmps).runT P w #[]).1=r at this ⊢;split
    .exact q5b this (qan _ _ _ _ _ _ _)
    .trivial
    .trivial
theorem qfi(P:Program)(b:Bool)(fr:Frame)(cs:List Frame)(dy:Option Dying)(s:Sem Next)(w:World):Up w.drawn (stepG.apply P b fr cs dy s w):=by
 unfold stepG.apply
 have hr:w.drawn<=(rw' (if b=true then s.runT P w #[]else(s.run P w,#[])).1).drawn:=by
  split
  .exact q3i P s w #[]
  .exact qb6 P s w
 simp only;rw[q9f];generalize (if b=true then s.runT P w #[]else(s.run P w,#[]))=x at hr ⊢;obtain⟨r,es⟩:=x;simp only at hr ⊢;split
 all_goals (try split)
 all_goals (first|exact trivial|exact hr|exact q5b hr (qh6 _ _ _ _ _ _)|exact q5b hr (q78 _ _ _)|exact q5b hr (zcb _ _ _ _ _ _)|exact zgf (q5b hr (q78 _ _ _)) hr)
theorem z0q(P:Program)(b:Bool)(fr:Frame)(cs:List Frame)(dy:Option Dying)(w:World):Up w.drawn (stepG.oper P b fr cs dy w):=by
 unfold stepG.oper;split
 .trivial
 .split<;>exact qfi _ _ _ _ _ _ _
theorem znp(P:Program)(main b:Bool)(fr:Frame)(cs:List Frame)(dy:Option Dying)(w:World):Up w.drawn (stepG.exec P main b fr cs dy w):=by
 unfold stepG.exec;simp only;split
 all_goals (try first|exact trivial|exact Nat.le_refl _|exact qfi _ _ _ _ _ _ _|exact z0q _ _ _ _ _ _)
 all_goals repeat' (first|exact trivial|exact Nat.le_refl _|exact qfi _ _ _ _ _ _ _|exact z0q _ _ _ _ _ _|rw[q9f]|refine zo5 ?_ λ_=>?_|split)
 all_goals (first|(exact q5b (qb7 (by assumption)) (qan _ _ _ _ _ _ _))|(exact q5b (qb7 (by assumption)) (qfi _ _ _ _ _ _ _))|exact qb7 (by assumption)|exact qiq (by assumption)|exact q1s (by assumption))
theorem z88(P:Program)(main:Bool)(g:Goroutine)(w:World)(b:Bool):Up w.drawn (stepG P main g w b):=by
 unfold stepG;simp only;split
 .exact zvy _ _ _ _
 .exact znp _ _ _ _ _ _ _
 .exact qyo _ _ _ _ _ _
def UpS(n:Nat):Stepped->Prop
 | .next m=>n<=m.world.drawn
 | .ended _ _=>True
theorem q6v{n m:Nat}{s:Stepped}(h:n<=m)(hu:UpS m s):UpS n s:=by
 cases s<;>first|exact trivial|exact Nat.le_trans h hu
theorem z1r(P:Program)(gs:Array Goroutine)(rest:Rest)(w:World):UpS w.drawn (Go.look P gs rest w):=by
 unfold Go.look;simp only
 repeat' split
 all_goals (first|exact trivial|(rename_i h;have h9:=q1s h;exact h9)|(rename_i h _;have h9:=q1s h;exact h9)|(rename_i h _ _;have h9:=q1s h;exact h9)|(rename_i h _ _ _;have h9:=q1s h;exact h9)|(rename_i h _ _ _ _;have h9:=q1s h;exact h9)|(rename_i h _ _ _ _ _;have h9:=q1s h;exact h9)|(rename_i h _ _ _ _ _ _;have h9:=q1s h;exact h9))
theorem z8i(P:Program)(m:Machine)(k:Nat):UpS m.world.drawn (serve P m k):=by
 unfold serve;simp only
 repeat' split
 all_goals (first|exact trivial|exact Nat.le_refl _)
theorem zcc(w:World)(c:Nat):w.drawn<=(drain w c).2.drawn:=by
 unfold drain;split<;>exact Nat.le_refl _
theorem qo2(m:Machine)(k:Nat)(t:Timer)(a b:Nat):m.world.drawn<=(retime m k t a b).2.world.drawn:=by
 unfold retime;simp only;split
 .exact zcc _ _
 .exact Nat.le_refl _
theorem qw0{m m':Machine}{op:TimerOp}{v:Value}(h:timerOp m op=.ok (v,m')):m.world.drawn<=m'.world.drawn:=by
 have hnm:∀(m0:Machine)(var:Addr)(f:Nat->Timer->Value×Machine),(∀k t,m.world.drawn<=(f k t).2.world.drawn)->timerOp.named m0 var f=.ok (v,m')->m.world.drawn<=m'.world.drawn:=λm0 var f hf h=>by
  unfold timerOp.named at h;split at h
  .rename_i k _;injection h with h
   have:=hf k (m0.rest.timers.getD k default);rw[h]at this;exact this
  .cases h
 unfold timerOp at h;split at h
 .split at h
  .cases h;exact Nat.le_refl _
  .split at h
   .split at h
    .cases h
    .cases h;exact Nat.le_refl _
   .cases h
 .exact hnm _ _ _ (λk t=>qo2 m k t _ _) h
 .split at h
  .rename_i m1 ho;refine hnm _ _ _ (λk t=>Nat.le_trans ?_ (qo2 m1 k t _ _)) h;unfold timerOp.opened at ho;split at ho
   .split at ho
    .cases ho;exact Nat.le_refl _
    .cases ho
   .cases ho;exact Nat.le_refl _
  .cases h
 .cases h;exact Nat.le_refl _
theorem qid(P:Program)(rest:Rest)(gs:Array Goroutine)(i:Nat)(g:Goroutine)(cases_:Array CommCase)(b:Bool)(shape:CommShape)(w:World):UpS w.drawn (communicate P rest gs i g cases_ b shape w).1:=by
 unfold communicate;simp only;split
 .trivial
 .split
  .split
   .split
    .rename_i h;unfold waitingAt at h;split at h
     .split at h
      .cases h;exact Nat.le_refl _
      .cases h
     .cases h;exact Nat.le_refl _
    .trivial
   .exact Nat.le_refl _
  .split
   .trivial
   .rename_i hr;have hr:=q1s hr;refine q6v hr ?_
    repeat' split
    all_goals (first|exact trivial|exact Nat.le_refl _|(rename_i h;have h9:=q1s h;exact h9)|(rename_i h _;have h9:=q1s h;exact h9)|(rename_i h _ _;have h9:=q1s h;exact h9)|(rename_i h _ _ _;have h9:=q1s h;exact h9)|(rename_i h _ _ _ _;have h9:=q1s h;exact h9)|(rename_i h _ _ _ _ _;have h9:=q1s h;exact h9)|(rename_i h _ _ _ _ _ _;have h9:=q1s h;exact h9)|(rename_i h;have h9:=run_halt h;exact h9)|(rename_i h _;have h9:=run_halt h;exact h9)|(rename_i h _ _;have h9:=run_halt h;exact h9)|(rename_i h _ _ _;have h9:=run_halt h;exact h9)|(rename_i h _ _ _ _;have h9:=run_halt h;exact h9)|(rename_i h _ _ _ _ _;have h9:=run_halt h;exact h9)|(rename_i h _ _ _ _ _ _;have h9:=run_halt h;exact h9))
theorem zjt(P:Program)(m:Machine)(i:Nat)(b:Bool):UpS m.world.drawn (runT P m i b).1:=by
 unfold runT;simp only;generalize hs:stepG P (i==0) _ m.world b=s;have hu:=z88 P (i==0) (m.gs.swapAt! i { (default:Goroutine)with status:=.finished}).1 m.world b;rw[hs]at hu;split
 .trivial
 .exact q6v hu (qid _ _ _ _ _ _ _ _ _)
 .exact hu
 .exact hu
 .split
  .trivial
  .exact hu
 .exact hu
 .exact q6v hu (z1r _ _ _ _)
 .exact hu
 .exact hu
 .split
  .exact hu
  .split
   .rename_i h;cases h;exact hu
   .trivial
  .trivial
 .split
  .rename_i h;have:=qw0 h;exact Nat.le_trans hu this
  .split
   .rename_i h;cases h;exact hu
   .trivial
  .trivial
  .trivial
def UpM(n:Nat):Move->Prop
 | .goroutine m _=>n<=m.world.drawn
 | .machine s _=>UpS n s
theorem qap{n m:Nat}{s:Move}(h:n<=m)(hu:UpM m s):UpM n s:=by
 cases s
 .exact Nat.le_trans h hu
 .exact q6v h hu
theorem qr6(P:Program)(rs:List Nat)(m:Machine):UpM m.world.drawn (match(choose (.sched rs.length)).run P m.world with
   | .halt _ w=>.machine (.ended (.stuck "sched" "") w)
   | .ok k world=>
    if rs.length<=1 then .goroutine { m with world} (rs.getD k 0)else
    match(choose (.extern "sched.slice" 65536)).run P world with
    | .halt _ w=>.machine (.ended (.stuck "sched.slice" "") w)
    | .ok n world=>.goroutine { m with world,rest:={ m.rest with slice:=if n=0 then none else some (rs.getD k 0,n)}} (rs.getD k 0)):=by
 split
 .trivial
 .rename_i h1;split
  .exact q1s h1
  .split
   .trivial
   .rename_i h2;exact Nat.le_trans (q1s h1) (q1s h2)
theorem qnf(P:Program)(m:Machine):UpM m.world.drawn (askOn P m):=by
 unfold askOn;simp only;split
 .trivial
 .rename_i world h;have h0:=q1s h;split
  .exact q6v h0 (z8i P { m with world} _)
  .split
   .split
    .exact h0
    .split
     .exact h0
     .split<;>trivial
   .split
    .exact qap h0 (qr6 P _ { m with world})
    .split
     .trivial
     .rename_i h2;have h3:=q1s h2;exact qap (Nat.le_trans h0 h3) (qr6 P (runnable m.gs m.world.os.mono) { m with world:=_})
     .rename_i h2;have h3:=q1s h2;exact Nat.le_trans h0 h3
     .rename_i h2;have h3:=q1s h2;exact qap (Nat.le_trans h0 h3) (qr6 P (runnable m.gs m.world.os.mono) (Machine.advanceTo { m with world:=_} _))
theorem zx5(P:Program)(m:Machine):UpM m.world.drawn (ask P m):=by
 unfold ask;split
 .split
  .trivial
  .rename_i h;have h1:=q1s h;have h2:=z1r P m.gs m.rest (by assumption);split
   .rename_i h3;rw[h3]at h2;exact qap (Nat.le_trans h1 h2) (qnf _ _)
   .exact q6v h1 h2
  .rename_i h;exact qap (q1s h) (qnf _ _)
 .exact qnf _ _
theorem zlq(P:Program)(m:Machine):UpM m.world.drawn (move P m):=by
 unfold move
 repeat' split
 all_goals (first|exact trivial|exact Nat.le_refl _|exact zx5 _ _)
theorem step_up(P:Program)(m:Machine):UpS m.world.drawn (step P m):=by
 unfold step stepT;have:=zlq P m;split
 .rename_i h;rw[h]at this;exact q6v this (zjt _ _ _ _)
 .rename_i h;rw[h]at this;exact this
theorem z81{P:Program}{m m':Machine}(h:Steps P m m'):m.world.drawn<=m'.world.drawn:=by
 obtain⟨n,h⟩:=h
 induction n generalizing m with
 |zero=>simp only[runN,Stepped.next.injEq]at h;subst h;exact Nat.le_refl _
 |succ n ih=>
  simp only[runN]at h;have:=step_up P m;cases hst:step P m with
  |next m1=>
   rw[hst]at this h;exact Nat.le_trans this (ih h)
  |ended o w=>
   rw[hst]at h;cases h
theorem zd2{P:Program}{m m':Machine}{v:Value}(h:Comes P m m' (.returned v)):m.world.drawn<=m'.world.drawn:=z81 h
theorem qt1{P:Program}{f:FuncId}{args:Array Value}{w:World}{R:Ending->World->Prop}(h:Calls P f args w R):Calls P f args w λe w'=>R e w'/\∀v,e=.returned v->w.drawn<=w'.drawn:=by
 intro cs;obtain⟨e,w',fr,h1,h2,h3⟩:=h cs;refine⟨e,w',fr,⟨h1,?_⟩,h2,h3⟩;rintro v rfl;exact zd2 h2
end Go.Sx
