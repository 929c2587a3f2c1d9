/- Contracts of loops in which the machine chooses: rounds, one behind the other, each with what is drawn in it. -/
import Derived.Test.YthnojkbkojpadaaGreatZG0561ca9d
import Derived.Calls
import Derived.RunT
import Derived.StepT
import Derived.Shelf.SlSortCmp.WholeK
import Derived.Shelf.SlSortCmp.NoneTotal
import Derived.ProofKit
import Derived.OpenShut
import Derived.ShutString
import Derived.ChangeOld
import Derived.Below
import Derived.Deep.Slices
set_option linter.unusedVariables false
set_option linter.unusedSimpArgs false
set_option linter.constructorNameAsVariable false
set_option linter.all false

namespace Go.Sx
open Go.RowKit
variable [Env]
def hdC:List Nat→List Nat
 | []=>[]
 | n :: r=>r.take n
def tlC:List Nat→List Nat
 | []=>[]
 | n :: r=>r.drop n
def joC (a b:List Nat):List Nat:=a.length :: (a++b)
theorem hd_jo (a b:List Nat):hdC (joC a b)=a:=by simp[hdC,joC]
theorem tl_jo (a b:List Nat):tlC (joC a b)=b:=by simp[tlC,joC]
def Tr.evA {α:Type} (d:α):Tr α→List Nat→α
 | .ret x,_=>x
 | .br c a b,cs=>bif c then a.evA d cs else b.evA d cs
 | .ask _ a,cs=>a.evA d cs
 | .giv _ a,cs=>a.evA d cs
 | .all k,cs=>(k (hdC cs)).evA d (tlC cs)
 | .bad _,_=>d
def Tr.sideA {α:Type}:Tr α→List Nat→Prop
 | .ret _,_=>True
 | .br c a b,cs=>match a.plain,b.plain with
  | true,true=>True
  | true,false=>c=false→b.sideA cs
  | false,true=>c=true→a.sideA cs
  | false,false=>(c=true→a.sideA cs)∧(c=false→b.sideA cs)
 | .ask p a,cs=>match a.plain with
  | true=>p
  | false=>p∧a.sideA cs
 | .giv p a,cs=>match a.plain with
  | true=>True
  | false=>p→a.sideA cs
 | .all k,cs=>(k (hdC cs)).sideA (tlC cs)
 | .bad _,_=>False
theorem Tr.plain_sideA {α:Type}:∀ {t:Tr α} {cs:List Nat},t.plain=true→t.sideA cs
 | .ret _,_,_=>trivial
 | .br c a b,_,h=>by
  simp only[Tr.plain,Bool.and_eq_true] at h
  simp only[Tr.sideA,h.1,h.2]
 | .ask _ _,_,h=>by cases h
 | .giv _ _,_,h=>by cases h
 | .all _,_,h=>by cases h
 | .bad _,_,h=>by cases h
theorem Tr.sideA_holds {α:Type} (d:α) {K:α→Prop}:∀ {t:Tr α},(∀ cs,t.sideA cs)→(∀ cs,K (t.evA d cs))→t.Holds K
 | .ret _,_,hk=>hk []
 | .br c a b,h,hk=>by
  have h2:(c=true→∀ cs,a.sideA cs)∧(c=false→∀ cs,b.sideA cs):=by
   simp only[Tr.sideA] at h
   split at h
   ·rename_i h1 h2;exact ⟨fun _ _=>Tr.plain_sideA h1,fun _ _=>Tr.plain_sideA h2⟩
   ·rename_i h1 h2;exact ⟨fun _ _=>Tr.plain_sideA h1,fun hc cs=>h cs hc⟩
   ·rename_i h1 h2;exact ⟨fun hc cs=>h cs hc,fun _ _=>Tr.plain_sideA h2⟩
   ·exact ⟨fun hc cs=>(h cs).1 hc,fun hc cs=>(h cs).2 hc⟩
  refine ⟨fun hc=>sideA_holds d (h2.1 hc) fun cs=>?_,fun hc=>sideA_holds d (h2.2 hc) fun cs=>?_⟩
  ·have:=hk cs;subst hc;exact this
  ·have:=hk cs;subst hc;exact this
 | .ask p a,h,hk=>by
  have h2:p∧∀ cs,a.sideA cs:=by
   simp only[Tr.sideA] at h
   split at h
   ·rename_i h1;exact ⟨h [],fun _=>Tr.plain_sideA h1⟩
   ·exact ⟨(h []).1,fun cs=>(h cs).2⟩
  exact ⟨h2.1,sideA_holds d h2.2 hk⟩
 | .giv p a,h,hk=>fun hp=>by
  have h2:∀ cs,a.sideA cs:=by
   simp only[Tr.sideA] at h
   split at h
   ·rename_i h1;exact fun _=>Tr.plain_sideA h1
   ·exact fun cs=>h cs hp
  exact sideA_holds d h2 hk
 | .all k,h,hk=>fun n=>sideA_holds d (fun cs=>by
   have:=h (joC n cs)
   simp only[Tr.sideA,hd_jo,tl_jo] at this
   exact this) fun cs=>by
  have:=hk (joC n cs)
  simp only[Tr.evA,hd_jo,tl_jo] at this
  exact this
 | .bad _,h,_=>(h []).elim
theorem holds_asks {α:Type} {K:α→Prop}:∀ {l:List Prop} {t:Tr α},(∀ p∈l,p)→t.Holds K→(asks l t).Holds K
 | [],_,_,ht=>ht
 | p :: _,_,h,ht=>⟨h p (List.mem_cons_self ..),holds_asks (fun q hq=>h q (List.mem_cons_of_mem _ hq)) ht⟩
theorem map_holds {α β:Type} {f:α→β} {K:β→Prop}:∀ {t:Tr α},(t.Holds fun x=>K (f x))→(t.map f).Holds K
 | .ret _,h=>h
 | .br _ _ _,h=>⟨fun c=>map_holds (h.1 c),fun c=>map_holds (h.2 c)⟩
 | .ask _ _,h=>⟨h.1,map_holds h.2⟩
 | .giv _ _,h=>fun q=>map_holds (h q)
 | .all _,h=>fun n=>map_holds (h n)
 | .bad _,h=>h
def runLA {γ:Type} (F:List Nat→γ→Ex×γ):Nat→List Nat→γ→Ex×γ
 | 0,_,g=>(.ret,g)
 | n+1,cs,g=>match F (hdC cs) g with
  | (.normal,g')=>runLA F n (tlC cs) g'
  | x=>x
noncomputable def loopFA {γ:Type} (F:List Nat→γ→Ex×γ) (m:γ→Nat) (cs:List Nat) (g:γ):Ex×γ:=runLA F (hush (m g+1)) cs g
theorem loopFA_def {γ:Type} (F:List Nat→γ→Ex×γ) (m:γ→Nat) (cs:List Nat) (g:γ):loopFA F m cs g=runLA F (m g+1) cs g:=by unfold loopFA;rw[hush_eq]
def GoesA {γ:Type} (F:List Nat→γ→Ex×γ) (m:γ→Nat) (Inv:γ→Prop):Prop:=∀ g cs,Inv g→(F cs g).1=.normal→Inv (F cs g).2∧m (F cs g).2<m g
section
variable {γ:Type} {F:List Nat→γ→Ex×γ} {m:γ→Nat} {Inv:γ→Prop}
theorem runLA_fuel (h:GoesA F m Inv):∀ (n k:Nat) (cs:List Nat) (g:γ),Inv g→m g<n→m g<k→runLA F n cs g=runLA F k cs g
 | 0,_,_,_,_,h1,_=>by omega
 | _,0,_,_,_,_,h1=>by omega
 | n+1,k+1,cs,g,hi,hn,hk=>by
  simp only[runLA]
  have hg:=h g (hdC cs) hi
  generalize F (hdC cs) g=x at hg ⊢
  obtain ⟨e,g'⟩:=x
  cases e with
  | normal=>
   obtain ⟨h1,h2⟩:=hg rfl
   exact runLA_fuel h n k (tlC cs) g' h1 (by simp only at h2;omega) (by simp only at h2;omega)
  | _=>rfl
theorem loopFA_next (h:GoesA F m Inv) {g g':γ} {cs:List Nat} (hi:Inv g) (he:F (hdC cs) g=(.normal,g')):loopFA F m cs g=loopFA F m (tlC cs) g':=by
 have h2:=h g (hdC cs) hi (by rw[he])
 rw[he] at h2
 rw[loopFA_def,loopFA_def]
 show (match F (hdC cs) g with
  | (.normal,g')=>runLA F (m g) (tlC cs) g'
  | x=>x)=_
 rw[he]
 exact runLA_fuel h _ _ _ g' h2.1 h2.2 (Nat.lt_succ_self _)
theorem loopFA_end {g:γ} {cs:List Nat} (he:(F (hdC cs) g).1≠.normal):loopFA F m cs g=F (hdC cs) g:=by
 rw[loopFA_def]
 show (match F (hdC cs) g with
  | (.normal,g')=>runLA F (m g) (tlC cs) g'
  | x=>x)=_
 generalize F (hdC cs) g=x at he
 obtain ⟨e,g'⟩:=x
 cases e with
 | normal=>exact absurd rfl he
 | _=>rfl
theorem loopFA_induct (h:GoesA F m Inv) {Q:List Nat→γ→Ex×γ→Prop} (h1:∀ g cs,Inv g→(F (hdC cs) g).1≠.normal→Q cs g (F (hdC cs) g)) (h2:∀ g g' cs r,Inv g→F (hdC cs) g=(.normal,g')→Inv g'→m g'<m g→Q (tlC cs) g' r→Q cs g r):∀ (cs:List Nat) (g:γ),Inv g→Q cs g (loopFA F m cs g):=by
 intro cs g
 induction hn:m g using Nat.strongRecOn generalizing g cs with
 | _ n ih=>
  intro hi
  by_cases he:(F (hdC cs) g).1=.normal
  ·obtain ⟨k1,k2⟩:=h g (hdC cs) hi he
   have hF:F (hdC cs) g=(.normal,(F (hdC cs) g).2):=by rw[← he]
   rw[loopFA_next h hi hF]
   exact h2 g _ _ _ hi hF k1 k2 (ih _ (by omega) _ _ rfl k1)
  ·rw[loopFA_end he]
   exact h1 g cs hi he
theorem loopFA_exit {es:List Ex} (h:GoesA F m Inv) (he:∀ cs g,(F cs g).1=.normal∨(F cs g).1∈es) {g:γ} {cs:List Nat} (hi:Inv g):(loopFA F m cs g).1∈es:=
 loopFA_induct h (Q:=fun _ _ r=>r.1∈es) (fun g _ _ hn=>(he _ g).resolve_left hn) (fun _ _ _ _ _ _ _ _ ih=>ih) cs g hi
end
theorem exitsT_in {γ:Type} {x:Ex×γ} {K:Ex×γ→Prop}:∀ {l:List Ex},x.1∈l→K x→(exitsT x l).Holds K
 | [],h,_=>by simp at h
 | [e],h,hk=>by
  have:x.1=e:=by simpa using h
  show K (e,x.2)
  rw[← this];exact hk
 | e :: e' :: r,h,hk=>by
  refine ⟨fun hb=>?_,fun hb=>exitsT_in (l:=e' :: r) ?_ hk⟩
  ·show K (e,x.2)
   rw[exB_eq hb];exact hk
  ·rcases List.mem_cons.1 h with h | h
   ·rw[h,exB_refl] at hb;cases hb
   ·exact h
section
variable {P:Program} {Γ:Gam} {Λ:Lam} {N:Nat} {γ:Type}
noncomputable def loopRA (es:List Ex) (body:Code) (A:LP N γ) (DL:List Nat) (n0:Nat) (Inv:γ→List Prop) (F:List Nat→γ→Ex×γ) (m:γ→Nat):LCon:=loopC body A DL n0 Inv fun g=>.all fun cs=>exitsT (loopFA F m cs g) es
theorem loop_runA (hΓ:∀ f g,Γ.g f=some g→FnOk P f g) (hΛ:∀ f k L,Λ f k=some L→∀ b∈loopsOf P f,lkey b=k→LoopOk P b L.g) (n f key n0:Nat) (A:LP N γ) (DL:List Nat) (Inv:γ→List Prop) (F:List Nat→γ→Ex×γ) (S:List Nat→γ→Prop) (m:γ→Nat) (d:Ex×γ) (es:List Ex)
  (hu:((loopsOf P f).filter fun c=>Nat.beq (lkey c) key).length=1)
  (hS:∀ (rd:Option Nat) (T B:List (Nat×SV)) (HL HB:List (Nat×SE)) (ds:List Nat) (cs:List Nat) (g:γ),(bT P Γ Λ n f none (loopBody P f key) A DL n0 ⟨n0,T,⟨N,HL,HB⟩,DL,B⟩ ds g).sideA cs=S cs g)
  (hF:∀ (rd:Option Nat) (T B:List (Nat×SV)) (HL HB:List (Nat×SE)) (ds:List Nat) (cs:List Nat) (g:γ),(bT P Γ Λ n f none (loopBody P f key) A DL n0 ⟨n0,T,⟨N,HL,HB⟩,DL,B⟩ ds g).evA d cs=F cs g)
  (hs:∀ cs g,allP (Inv g)→S cs g) (hg:GoesA F m fun g=>allP (Inv g)) (hes:∀ cs g,(F cs g).1=.normal∨(F cs g).1∈es):∀ b∈loopsOf P f,lkey b=key→LoopOk P b (loopRA es (loopBody P f key) A DL n0 Inv F m).g:=by
 refine loop_ok hΓ hΛ n f key n0 A DL Inv _ m hu ?_
 intro rd T B HL HB ds g hi K hK
 have h1:∀ cs,(bT P Γ Λ n f none (loopBody P f key) A DL n0 ⟨n0,T,⟨N,HL,HB⟩,DL,B⟩ ds g).sideA cs:=fun cs=>by rw[hS none];exact hs cs g hi
 refine Tr.sideA_holds d h1 fun c0=>?_
 rw[hF none]
 have hK:∀ cs,K (loopFA F m cs g):=fun cs=>exitsT_holds (loopFA_exit hg hes hi) (hK cs)
 unfold StepP
 split
 ·rename_i he
  obtain ⟨k1,k2⟩:=hg g c0 hi he
  refine ⟨k1,k2,fun cs=>?_⟩
  have h3:=hK (joC c0 cs)
  rw[loopFA_next hg hi (g':=(F c0 g).2) (by rw[hd_jo,← he]),tl_jo] at h3
  have h4:(loopFA F m cs (F c0 g).2).1∈es:=loopFA_exit hg hes k1
  exact exitsT_in h4 h3
 ·rename_i he
  have h3:=hK (joC c0 [])
  rw[loopFA_end (by rw[hd_jo];intro h;exact he h),hd_jo] at h3
  exact h3
theorem loop_say {body:Code} {A:LP N γ} {DL:List Nat} {n0:Nat} {Inv Inv':γ→List Prop} {G G':γ→Tr (Ex×γ)} {b:Code} (hi:∀ g,allP (Inv' g)→allP (Inv g)) (hG:∀ g,allP (Inv' g)→∀ K:Ex×γ→Prop,(G' g).Holds K→(G g).Holds K) (h:LoopOk P b (loopC body A DL n0 Inv G).g):LoopOk P b (loopC body A DL n0 Inv' G').g:=by
 intro M w0 w ρ σ a K hK hm
 refine h M w0 w ρ σ a K ?_ hm
 have hK:(loopG body A DL n0 Inv' G' σ).Holds K:=hK
 show (loopG body A DL n0 Inv G σ).Holds K
 unfold loopG at hK ⊢
 split at hK
 ·rename_i g ps ids hread
  split at hK
  ·rename_i hc
   obtain ⟨hps,hK⟩:=asks_holds hK
   have hI:allP (Inv' g):=fun p hp=>hps p (List.mem_append_right _ hp)
   refine holds_asks (fun p hp=>?_) (map_holds (hG g hI _ (Tr.holds_map hK)))
   rcases List.mem_append.1 hp with hp | hp
   ·exact hps p (List.mem_append_left _ hp)
   ·exact hi g hI p hp
  ·exact hK.elim
 ·exact hK.elim
noncomputable def loopRC (es:List Ex) (body:Code) (A:LP N γ) (DL:List Nat) (n0:Nat) (Inv:γ→List Prop) (f:List Nat→γ→Ex×γ):LCon:=loopC body A DL n0 Inv fun g=>.all fun cs=>exitsT (f cs g) es
theorem loop_quotC {es:List Ex} {body:Code} {A:LP N γ} {DL:List Nat} {n0:Nat} {Inv Inv':γ→List Prop} {F:List Nat→γ→Ex×γ} {m:γ→Nat} {b:Code} {f:List Nat→γ→Ex×γ} (hi:∀ g,allP (Inv' g)→allP (Inv g)) (hf:∀ g,allP (Inv' g)→∀ cs,∃ cs',loopFA F m cs g=f cs' g) (h:LoopOk P b (loopRA es body A DL n0 Inv F m).g):LoopOk P b (loopRC es body A DL n0 Inv' f).g:=
 loop_say (G:=fun g=>.all fun cs=>exitsT (loopFA F m cs g) es) hi (fun g hI K hK cs=>by
  obtain ⟨cs',e⟩:=hf g hI cs
  show (exitsT (loopFA F m cs g) es).Holds K
  rw[e];exact hK cs') h
theorem pure_of_sideA {f:Nat} {δ:Type} {D:DA γ} {R:Dv δ} {fn:γ→δ} {pre:γ→List Prop} (hΓ:∀ f g,Γ.g f=some g→FnOk P f g) (hΛ:∀ f k L,Λ f k=some L→∀ b∈loopsOf P f,lkey b=k→LoopOk P b L.g) (n:Nat) (d:δ) (S:List Nat→γ→Prop) (F:List Nat→γ→δ)
  (hS:∀ cs g,(dTree P Γ Λ n f (D.enc g) R).sideA cs=S cs g) (hF:∀ cs g,(dTree P Γ Λ n f (D.enc g) R).evA d cs=F cs g) (h:∀ cs g,D.bd g→(∀ p∈pre g,p)→S cs g∧F cs g=fn g):FnPure P f D R fn pre:=
 pure_of_tree hΓ hΛ n fun g h1 h2=>Tr.sideA_holds d (fun cs=>by rw[hS];exact (h cs g h1 h2).1) fun cs=>by rw[hF];exact (h cs g h1 h2).2
end
end Go.Sx

namespace Go.Sx
open Go.RowKit
variable [Env]
section
variable {N:Nat} {α β:Type}
def El.ent (K:El α) (V:El β):El (α×β×Int):=El.pair K (El.pair V (eInt .i64))
def LP.mapO (N id:Nat) (ka va:Bool) (K:El α) (V:El β):LP N (List (α×β×Int)×Nat) where
 R:=0
 read σ:=match σ.h.get id with
  | .map ks vs ka' va' el m clk _=>bif Nat.beq ks K.sz&&(Nat.beq vs V.sz&&(ka==ka'&&va==va')) then some (((El.ent K V).lstE m el,clk),(El.ent K V).okE m el,[]) else none
  | _=>none
 ents _ _:=[]
 blks _ _:=[]
 objs _ g:=[(id,.map K.sz V.sz ka va (.fn ((El.ent K V).els g.1)) g.1.length g.2 false)]
 es:=[]
 os:=[id]
 eseq _ _:=rfl
 oseq _ _:=rfl
 blen _ _:=rfl
 ilen σ g ps ids h:=by
  split at h
  ·rename_i ks vs ka' va' el m clk pd _
   cases hb:Nat.beq ks K.sz&&(Nat.beq vs V.sz&&(ka==ka'&&va==va')) with
   | false=>rw[hb] at h;cases h
   | true=>
    rw[hb] at h
    simp only[cond_true,Option.some.injEq,Prod.mk.injEq] at h
    rw[← h.2.2];rfl
  ·cases h
 ok k0 σ g ps ids h hp:=by
  split at h
  ·rename_i ks vs ka' va' el m clk pd hg
   cases hb:Nat.beq ks K.sz&&(Nat.beq vs V.sz&&(ka==ka'&&va==va')) with
   | false=>rw[hb] at h;cases h
   | true=>
    rw[hb] at h
    simp only[Bool.and_eq_true,beq_iff_eq] at hb
    obtain ⟨b1,b2,b3,b4⟩:=hb
    have e1:=beq_of b1
    have e2:=beq_of b2
    subst e1;subst e2;subst b3;subst b4
    simp only[cond_true,Option.some.injEq,Prod.mk.injEq] at h
    obtain ⟨rfl,rfl,rfl⟩:=h
    have hk:∀ e,e<m→(El.ent K V).Ok (el e):=El.okE_ok _ m el hp
    rw[El.lstE_eq]
    refine ⟨fun k so h=>by simp at h,fun id' so h=>?_,fun j s h=>by simp at h⟩
    simp only[List.mem_singleton,Prod.mk.injEq] at h
    obtain ⟨rfl,rfl⟩:=h
    rw[hg]
    refine ⟨ow_na fun _ h=>h,fun n m' ρ ρ' L o hr hf=>?_⟩
    obtain ⟨f1,f2,⟨es,f3,f4,f5,f6⟩,_⟩:=hf
    rw[El.lst_length]
    refine ⟨f1,f2,⟨es,f3,f4,f5,fun e he=>?_⟩,fun h=>by cases h⟩
    obtain ⟨y,kc,vc,q1,q2,q3⟩:=f6 e he
    obtain ⟨a,ps,d1,d2⟩:=hk e he
    refine ⟨y,kc,vc,q1,?_,q3⟩
    have:=(El.ent K V).cl a n m' ρ ρ' _ hr.ag.2.1 ((El.ent K V).ok _ _ _ _ _ _ d1 d2 q2)
    show SV.fits m' ρ' ((El.ent K V).cells (((El.ent K V).lst m el).getD e (El.ent K V).dflt)) _
    rw[El.lst_getD _ _ _ _ he]
    simpa only [El.get,d1] using this
  ·cases h
def LP.mit (N id i:Nat):LP N (List Int×Nat) where
 R:=0
 read σ:=match σ.h.get id with
  | .mit j since sel sn last _=>bif Nat.beq j i&&Nat.blt i N then some (((eInt .i64).lstE sn sel,since),(last=since) :: (eInt .i64).okE sn sel,[]) else none
  | _=>none
 ents _ _:=[]
 blks _ _:=[]
 objs _ g:=[(id,.mit i g.2 (.fn ((eInt .i64).els g.1)) g.1.length g.2 none)]
 es:=[]
 os:=[id]
 eseq _ _:=rfl
 oseq _ _:=rfl
 blen _ _:=rfl
 ilen σ g ps ids h:=by
  split at h
  ·rename_i j since sel sn last _ _
   cases hb:Nat.beq j i&&Nat.blt i N with
   | false=>rw[hb] at h;cases h
   | true=>
    rw[hb] at h
    simp only[cond_true,Option.some.injEq,Prod.mk.injEq] at h
    rw[← h.2.2];rfl
  ·cases h
 ok k0 σ g ps ids h hp:=by
  split at h
  ·rename_i j since sel sn last cu hg
   cases hb:Nat.beq j i&&Nat.blt i N with
   | false=>rw[hb] at h;cases h
   | true=>
    rw[hb] at h
    simp only[Bool.and_eq_true] at hb
    have e1:=beq_of hb.1
    have hlt:i<N:=Nat.le_of_ble_eq_true hb.2
    subst e1
    simp only[cond_true,Option.some.injEq,Prod.mk.injEq] at h
    obtain ⟨rfl,rfl,rfl⟩:=h
    have hls:last=since:=hp _ (List.mem_cons_self ..)
    subst hls
    have hk:∀ e,e<sn→(eInt .i64).Ok (sel e):=El.okE_ok _ sn sel fun p h=>hp p (List.mem_cons_of_mem _ h)
    rw[El.lstE_eq]
    refine ⟨fun k so h=>by simp at h,fun id' so h=>?_,fun j s h=>by simp at h⟩
    simp only[List.mem_singleton,Prod.mk.injEq] at h
    obtain ⟨rfl,rfl⟩:=h
    rw[hg]
    refine ⟨ow_na fun _ h=>h,fun n m' ρ ρ' L o hr hf=>?_⟩
    obtain ⟨f1,f2,f3,seen,f4,f5,f6,_⟩:=hf
    rw[El.lst_length]
    refine ⟨f1,f2,by have:=hr.le;omega,seen,by rw[hr.ag.1 j hlt];exact f4,f5,fun e x hx=>?_,fun s hs=>(by cases hs)⟩
    have he:e<sn:=by rw[← f5];exact (Array.getElem?_eq_some_iff.1 hx).1
    obtain ⟨a,ps,d1,d2⟩:=hk e he
    have:=(eInt .i64).cl a n m' ρ ρ' _ hr.ag.2.1 ((eInt .i64).ok _ _ _ _ _ _ d1 d2 (f6 e x hx))
    show SV.fits m' ρ' ((eInt .i64).cells (((eInt .i64).lst sn sel).getD e (eInt .i64).dflt)) _
    rw[El.lst_getD _ _ _ _ he]
    simpa only [El.get,d1] using this
  ·cases h
def LP.mif (N id:Nat) (ka va:Bool) (K:El α) (V:El β):LP N (List (α×β)) where
 R:=0
 read σ:=match σ.h.get id with
  | .mif ks vs ka' va' rem cnt _=>bif Nat.beq ks K.sz&&(Nat.beq vs V.sz&&(ka==ka'&&va==va')) then some ((El.pair K V).lstE cnt rem,(El.pair K V).okE cnt rem,[]) else none
  | _=>none
 ents _ _:=[]
 blks _ _:=[]
 objs _ g:=[(id,.mif K.sz V.sz ka va (.fn ((El.pair K V).els g)) g.length none)]
 es:=[]
 os:=[id]
 eseq _ _:=rfl
 oseq _ _:=rfl
 blen _ _:=rfl
 ilen σ g ps ids h:=by
  split at h
  ·rename_i ks vs ka' va' rem cnt _ _
   cases hb:Nat.beq ks K.sz&&(Nat.beq vs V.sz&&(ka==ka'&&va==va')) with
   | false=>rw[hb] at h;cases h
   | true=>
    rw[hb] at h
    simp only[cond_true,Option.some.injEq,Prod.mk.injEq] at h
    rw[← h.2.2];rfl
  ·cases h
 ok k0 σ g ps ids h hp:=by
  split at h
  ·rename_i ks vs ka' va' rem cnt cu hg
   cases hb:Nat.beq ks K.sz&&(Nat.beq vs V.sz&&(ka==ka'&&va==va')) with
   | false=>rw[hb] at h;cases h
   | true=>
    rw[hb] at h
    simp only[Bool.and_eq_true,beq_iff_eq] at hb
    obtain ⟨b1,b2,b3,b4⟩:=hb
    have e1:=beq_of b1
    have e2:=beq_of b2
    subst e1;subst e2;subst b3;subst b4
    simp only[cond_true,Option.some.injEq,Prod.mk.injEq] at h
    obtain ⟨rfl,rfl,rfl⟩:=h
    have hk:∀ e,e<cnt→(El.pair K V).Ok (rem e):=El.okE_ok _ cnt rem hp
    rw[El.lstE_eq]
    refine ⟨fun k so h=>by simp at h,fun id' so h=>?_,fun j s h=>by simp at h⟩
    simp only[List.mem_singleton,Prod.mk.injEq] at h
    obtain ⟨rfl,rfl⟩:=h
    rw[hg]
    refine ⟨ow_na fun _ h=>h,fun n m' ρ ρ' L o hr hf=>?_⟩
    obtain ⟨f1,f2,f3⟩:=hf
    rw[El.lst_length]
    refine ⟨f1,f2,?_⟩
    rcases f3 with f3 | ⟨b,es,clk,seen,k1,k2,k3,k4,k5,_⟩
    ·exact .inl ⟨f3.1,f3.2.1,rfl⟩
    ·refine .inr ⟨b,es,clk,seen,k1,hr.ag.2.1 _ _ k2,k3,k4,fun e he=>?_,fun c hc=>(by cases hc)⟩
     obtain ⟨y,kc,vc,q1,q2,q3⟩:=k5 e he
     obtain ⟨a,ps,d1,d2⟩:=hk e he
     refine ⟨y,kc,vc,q1,?_,q3⟩
     have:=(El.pair K V).cl a n m' ρ ρ' _ hr.ag.2.1 ((El.pair K V).ok _ _ _ _ _ _ d1 d2 q2)
     show SV.fits m' ρ' ((El.pair K V).cells (((El.pair K V).lst cnt rem).getD e (El.pair K V).dflt)) _
     rw[El.lst_getD _ _ _ _ he]
     simpa only [El.get,d1] using this
  ·cases h
end
end Go.Sx

namespace Go.Sx
open Go.RowKit
variable [Env]
def ownB (L:Lc):Nat→Prop:=fun b=>L.nl=false∧b=L.blk
structure BelowM (B:Nat→Prop) (w w':World):Prop where
 os:w'.os=w.os
 tape:w'.tape=w.tape
 output:w'.output=w.output
 size:w.heap.size≤w'.heap.size
 block:∀ k,k<w.heap.size→¬ B k→w'.heap[k]?=w.heap[k]?
structure RM (δ:Type) where
 dec:SV→Option (δ×List Prop)
 enc:Nat→δ→SV
 ok:∀ (s:SV) (d:δ) (ps:List Prop),dec s=some (d,ps)→(∀ p∈ps,p)→∀ (n m i:Nat) (ρ ρ':Rh) (x:Value),(∀ b o,ρ.mem b=some o→ρ'.mem b=some o)→ρ' i=ρ 0→i<m→s.fit n ρ x→(enc i d).fit m ρ' x
 cl:∀ (i:Nat) (d:δ) (n m:Nat) (ρ ρ':Rh) (x:Value),(∀ b o,ρ.mem b=some o→ρ'.mem b=some o)→ρ' i=ρ i→i<m→(enc i d).fit n ρ x→(enc i d).fit m ρ' x
def RM.pure {δ:Type} (R:Dv δ):RM δ where
 dec:=R.dec
 enc _ d:=R.enc d
 ok s d ps hd hp n m i ρ ρ' x hm _ _ hf:=R.cl d n m ρ ρ' x hm (R.ok _ _ _ _ _ _ hd hp hf)
 cl i d n m ρ ρ' x hm _ _ hf:=R.cl d n m ρ ρ' x hm hf
section
variable {α:Type} (A:El α)
abbrev rowA (t:TypeId) (xs:List α):SO:=.row t A.sz (.fn (A.els xs)) xs.length
theorem rowA_cl {t:TypeId} {xs:List α} {n m:Nat} {ρ ρ':Rh} {L:Lc} {o:Option Obj} (hm:∀ b o,ρ.mem b=some o→ρ'.mem b=some o) (h:(rowA A t xs).fit n ρ L o):(rowA A t xs).fit m ρ' L o:=by
 refine ⟨h.1,?_⟩
 rcases h.2 with h2 | ⟨h1,h2,c,fz,h3,h3',h4,h5,h6,h7⟩
 ·exact .inl h2
 ·refine .inr ⟨h1,h2,c,fz,h3,h3',h4,h5,h6,fun e he=>?_⟩
  obtain ⟨l,q1,q2,q3⟩:=h7 e he
  exact ⟨l,q1,A.cl _ _ _ _ _ _ hm q2,q3⟩
theorem rowA_of {t:TypeId} {el:ElE} {k n m:Nat} {ρ ρ':Rh} {L:Lc} {o:Option Obj} (hm:∀ b o,ρ.mem b=some o→ρ'.mem b=some o) (hk:∀ e,e<k→A.Ok (el e)) (h:(SO.row t A.sz el k).fit n ρ L o):(rowA A t (A.lstE k el)).fit m ρ' L o:=by
 rw[A.lstE_eq]
 refine ⟨by rw[A.lst_length];exact h.1,?_⟩
 rw[A.lst_length]
 rcases h.2 with h2 | ⟨h1,h2,c,fz,h3,h3',h4,h5,h6,h7⟩
 ·exact .inl h2
 ·refine .inr ⟨h1,h2,c,fz,h3,h3',h4,h5,h6,fun e he=>?_⟩
  obtain ⟨l,q1,q2,q3⟩:=h7 e he
  obtain ⟨a,ps,d1,d2⟩:=hk e he
  refine ⟨l,q1,?_,q3⟩
  have:=A.cl a n m ρ ρ' l hm (A.ok _ _ _ _ _ _ d1 d2 q2)
  show SV.fits m ρ' (A.cells ((A.lst k el).getD e A.dflt)) l
  rw[A.lst_getD _ _ _ he]
  simpa only [El.get,d1] using this
end
def FnMut {α γ δ:Type} (P:Program) (f:Nat) (t:TypeId) (A:El α) (D:DA γ) (R:RM δ) (fn:List α→γ→List α×δ) (pre:List α→γ→List Prop):Prop:=
 ∀ (w:World) (F:Nat→Option Obj) (L:Lc) (xs:List α) (g:γ) (v0:Value) (vs:List Value),(∀ b o,F b=some o→w.heap[b]?=some o)→Env.E F→(∀ b,ownB L b→F b=none)→OwV L xs.length v0 →
  (∀ p∈pre xs g,p)→(rowA A t xs).fit 0 (emp F) L w.heap[L.blk]?→SV.fits 0 (emp F) (D.enc g) vs →
  Calls P f (v0 :: vs).toArray w fun e w'=>∃ x,e=.returned x∧BelowM (ownB L) w w'∧(rowA A t (fn xs g).1).fit 0 (emp (memAt F w w')) L w'.heap[L.blk]? ∧
   ∀ (m i:Nat) (ρ':Rh),(∀ b o,memAt F w w' b=some o→ρ'.mem b=some o)→ρ' i=L→i<m→(R.enc i (fn xs g).2).fit m ρ' x
section
variable {P:Program} {Γ:Gam} {Λ:Lam} {f t:Nat} {α γ δ:Type} {A:El α} {D:DA γ} {R:RM δ} {fn:List α→γ→List α×δ} {pre:List α→γ→List Prop}
def conM0 (t:TypeId) (A:El α) (D:DA γ) (R:RM δ) (fn:List α→γ→List α×δ) (pre:List α→γ→List Prop) (i l:Nat) (rest:List SV) (h:SH):Tr (SV×SH):=
 match h.get i with
 | .row t' sz el m=>match Nat.beq t' t&&Nat.beq sz A.sz with
  | true=>match D.dec rest with
   | some (g,ps)=>asks ((l=m) :: (A.okE m el++(ps++pre (A.lstE m el) g))) (.ret (R.enc i (fn (A.lstE m el) g).2,h.set i (rowA A t (fn (A.lstE m el) g).1)))
   | none=>.bad 653
  | false=>.bad 654
 | _=>.bad 655
def conM (t:TypeId) (A:El α) (D:DA γ) (R:RM δ) (fn:List α→γ→List α×δ) (pre:List α→γ→List Prop):Con:=fun args h=>
 match args with
 | .ow i l :: rest=>conM0 t A D R fn pre i l rest h
 | .k y :: rest=>match nilK y with
  | true=>conM0 t A D R fn pre h.nx 0 rest (h.push (.row t A.sz (.fn fun _=>[]) 0))
  | false=>.bad 656
 | _=>.bad 657
theorem conM0_ok (hp:FnMut P f t A D R fn pre) {M:Nat→Prop} {w0 w:World} {ρ:Rh} {h:SH} {i l:Nat} {rest:List SV} {v0:Value} {vs:List Value} {K:SV×SH→Prop} (hK:(conM0 t A D R fn pre i l rest h).Holds K) (hm:HM M w0 ρ h w)
  (h0:(SV.ow i l).fit h.nx ρ v0) (hr:SV.fits h.nx ρ rest vs):Calls P f (v0 :: vs).toArray w (FnGood M w0 ρ h K):=by
 unfold conM0 at hK
 split at hK
 ·rename_i t' sz el m hg
  split at hK
  ·rename_i hb
   simp only[Bool.and_eq_true] at hb
   have e1:=beq_of hb.1
   have e2:=beq_of hb.2
   subst e1;subst e2
   split at hK
   ·rename_i g ps hd
    obtain ⟨hq,hK⟩:=asks_holds hK
    have hl:l=m:=hq _ (List.mem_cons_self ..)
    have hok:∀ e,e<m→A.Ok (el e):=A.okE_ok m el fun p h'=>hq p (List.mem_cons_of_mem _ (List.mem_append_left _ h'))
    have hps:∀ p∈ps,p:=fun p h'=>hq p (List.mem_cons_of_mem _ (List.mem_append_right _ (List.mem_append_left _ h')))
    have hpre:∀ p∈pre (A.lstE m el) g,p:=fun p h'=>hq p (List.mem_cons_of_mem _ (List.mem_append_right _ (List.mem_append_right _ h')))
    subst hl
    have hob:=hm.ob i
    rw[hg] at hob
    have hown:∀ b,ownB (ρ i) b→(h.get i).own (ρ i):=fun b hb=>by rw[hg];exact hb.1
    have hilt:i<h.nx:=h0.1
    have hrow:(rowA A t' (A.lstE l el)).fit 0 (emp ρ.mem) (ρ i) w.heap[(ρ i).blk]?:=rowA_of A (ρ:=ρ) (fun _ _ h=>h) hok hob
    have hv0:OwV (ρ i) (A.lstE l el).length v0:=by
     rw[A.lstE_eq,A.lst_length]
     rcases h0.2 with ⟨h1,h2,a,h3⟩ | ⟨h1,_,h3⟩
     ·exact .inl ⟨h1,h2,a,h3⟩
     ·exact .inr ⟨h1,h3⟩
    have hvs:=D.cl _ _ 0 ρ (emp ρ.mem) vs (fun _ _ h=>h) (D.ok _ _ _ _ _ _ hd hps hr)
    refine (hp w ρ.mem (ρ i) (A.lstE l el) g v0 vs hm.fz hm.env (fun b hb=>by rw[hb.2];exact hm.sep i (hown b hb)) hv0 hpre hrow hvs).mono ?_
    rintro e w' ⟨x,rfl,hbm,hrow',hx⟩
    have hmem:∀ b o,ρ.mem b=some o→memAt ρ.mem w w' b=some o:=fun b o ho=>by
     unfold memAt
     rw[if_pos (hm.lt_mem ho)];exact ho
    have hag:Agree h.nx ρ ⟨ρ.lc,memAt ρ.mem w w',ρ.lo⟩:=⟨fun _ _=>rfl,hmem,rfl⟩
    have hgs:∀ j,(h.set i (rowA A t' (fn (A.lstE l el) g).1)).get j=if j=i then rowA A t' (fn (A.lstE l el) g).1 else h.get j:=fun j=>SH.get_set _ _ _ _
    have hown':∀ j,((h.set i (rowA A t' (fn (A.lstE l el) g).1)).get j).own (ρ j)→(h.get j).own (ρ j):=fun j hj=>by
     rw[hgs] at hj
     by_cases hji:j=i
     ·subst hji;rw[if_pos rfl] at hj;rw[hg];exact hj
     ·rw[if_neg hji] at hj;exact hj
    have hunc:∀ k,k<w.heap.size→¬ ownB (ρ i) k→w'.heap[k]?=w.heap[k]?:=hbm.block
    refine ⟨_,_,⟨ρ.lc,memAt ρ.mem w w',ρ.lo⟩,x,hK,Nat.le_refl _,hag,?_,hx h.nx i _ (fun _ _ h=>h) rfl hilt,rfl⟩
    exact {
     os:=hbm.os.trans hm.os
     tape:=hbm.tape.trans hm.tape
     output:=hbm.output.trans hm.output
     size:=Nat.le_trans hm.size hbm.size
     block:=fun k hk hM=>by
      rw[hunc k (Nat.lt_of_lt_of_le hk hm.size) fun hB=>?_]
      ·exact hm.block k hk hM
      ·rcases hm.ow i (hown k hB) with h | h
       ·rw[← hB.2] at h;omega
       ·rw[← hB.2] at h;exact hM h
     lt:=fun j hj=>by
      rw[hgs] at hj
      by_cases hji:j=i
      ·subst hji;exact hilt
      ·rw[if_neg hji] at hj;exact hm.lt j hj
     ob:=fun j=>by
      rw[hgs]
      by_cases hji:j=i
      ·subst hji
       rw[if_pos rfl]
       exact rowA_cl A (ρ:=emp (memAt ρ.mem w w')) (fun _ _ h=>h) hrow'
      ·rw[if_neg hji]
       refine SO.fit_mono (Nat.le_refl _) hag (hm.ob_other fun hj=>hunc _ (hm.lt_heap hj) fun hB=>?_)
       exact hm.ne_own (hown _ hB) hj hji hB.2
     ow:=fun j hj=>hm.ow j (hown' j hj)
     fz:=fun b o hb=>by
      simp only[memAt] at hb
      split at hb
      ·rename_i hlt
       rw[hunc b hlt fun hB=>?_]
       ·exact hm.fz b o hb
       ·have:=hm.sep i (hown b hB)
        rw[← hB.2,hb] at this
        cases this
      ·exact hb
     sep:=fun j hj=>by
      have h1:=hm.sep j (hown' j hj)
      have h2:=hm.lt_heap (hown' j hj)
      simp only[memAt]
      rw[if_pos h2];exact h1
     old:=fun b o hb hlt hM=>by
      simp only[memAt] at hb
      have hs:=hm.size
      rw[if_pos (by omega)] at hb
      exact hm.old b o hb hlt hM
     env:=Env.mono _ _ (fun b o hb _=>hmem b o hb) hm.env
     ab:=by
      have h1:∀ j a,(h.set i (rowA A t' (fn (A.lstE l el) g).1)).get j=.abs a→j≠i∧h.get j=.abs a:=fun j a hj=>by
       rw[hgs] at hj
       by_cases hji:j=i
       ·rw[if_pos hji] at hj;cases hj
       ·rw[if_neg hji] at hj;exact ⟨hji,hj⟩
      obtain ⟨S,hS⟩:=hm.ab
      refine ⟨S,hS.step (fun j a hj=>⟨(h1 j a hj).2,rfl⟩) hbm.size (fun j a b hj hb=>?_) (fun b o hb _=>hmem b o hb) (fun j a b hj hb=>?_) fun k j a hk hj=>hS.ne (h1 j a hj).2 (hown' k hk)⟩
      ·obtain ⟨q1,q2⟩:=h1 j a hj
       rcases hb with rfl | hb
       ·exact hunc _ (hm.lt_heap (own_abs q2)) fun hB=>hm.ne_own (hown _ hB) (own_abs q2) q1 hB.2
       ·exact hunc _ (hS.lt q2 hb) fun hB=>hS.ne q2 (hown _ hB) (hB.2▸hb)
      ·have q2:=(h1 j a hj).2
       simp only[memAt]
       rw[if_pos (hS.lt q2 hb)];exact hS.mem q2 hb
     inj:=fun j k hj hk=>hm.inj j k (hown' j hj) (hown' k hk) }
   ·exact hK.elim
  ·exact hK.elim
 ·exact hK.elim
theorem conM_ok (hp:FnMut P f t A D R fn pre):FnOk P f (conM t A D R fn pre):=by
 intro M w0 w ρ h args vs K hK hm hfits
 unfold conM at hK
 split at hK
 ·rename_i i l rest
  obtain ⟨v0,r,rfl,h0,hr⟩:=fits_cons hfits
  exact conM0_ok hp hK hm h0 hr
 ·rename_i y rest
  obtain ⟨v0,r,rfl,h0,hr⟩:=fits_cons hfits
  split at hK
  ·rename_i hy
   have hm1:HM M w0 (upd ρ h.nx ⟨0,0,0,true⟩) (h.push (.row t A.sz (.fn fun _=>[]) 0)) w:=hm.learn ⟨Nat.zero_le _,.inl ⟨rfl,rfl⟩⟩ (fun h=>by cases h)
   have hy:=nilK_eq hy
   subst hy
   simp only[SV.fit] at h0
   subst h0
   have:=conM0_ok hp hK hm1 (v0:=.slice none 0 0) (vs:=r) ⟨Nat.lt_succ_self _,.inl ⟨by simp[upd],rfl,_,rfl⟩⟩ (SV.fits_mono (Nat.le_succ _) (agree_upd _ _ _) _ _ hr)
   refine this.mono ?_
   rintro e w' ⟨s,h',ρ',x,h1,h2,h3,h4,h5,rfl⟩
   exact ⟨s,h',ρ',x,h1,by have:h.nx+1≤h'.nx:=h2;omega,(agree_upd ρ h.nx _).trans (Nat.le_succ _) h3,h4,h5,rfl⟩
  ·exact hK.elim
 ·exact hK.elim
theorem conM0_b {i l:Nat} {rest:List SV} {h:SH}:(conM0 t A D R fn pre i l rest h).Each fun y=>y.2.b=h.b:=by
 unfold conM0
 split
 ·split
  ·split
   ·exact asks_each rfl
   ·trivial
  ·trivial
 ·trivial
def bconM (t:TypeId) (A:El α) (D:DA γ) (R:RM δ) (fn:List α→γ→List α×δ) (pre:List α→γ→List Prop):BCon:=⟨conM t A D R fn pre,fun args h=>by
 unfold conM
 split
 ·exact conM0_b
 ·split
  ·exact conM0_b (h:=h.push _)
  ·trivial
 ·trivial⟩
end
end Go.Sx
namespace Go.Sx
variable [Env]
structure MTab (P:Program) where
 p:PTab P
 m:{ l:List (Nat×BCon) // ∀ x∈l,FnOk P x.1 x.2.g }
section
variable {P:Program}
def MTab.of (t:PTab P):MTab P:=⟨t,⟨[],fun x h=>by simp at h⟩⟩
def MTab.cons (t:MTab P) (f:Nat) (c:PCon) (h:FnOk P f c.g):MTab P:=⟨t.p.cons f c h,t.m⟩
def MTab.consM (t:MTab P) (f:Nat) (c:BCon) (h:FnOk P f c.g):MTab P:=⟨t.p,⟨(f,c) :: t.m.1,fun x hx=>by
 rcases List.mem_cons.1 hx with rfl | hx
 ·exact h
 ·exact t.m.2 x hx⟩⟩
def MTab.gamz (t:MTab P) (zs:List (Nat×Nat)) (us:List (Nat×Nat×Nat)):Gam:=Go.Sx.gam t.p.1 t.m.1 zs us
theorem MTab.okz (t:MTab P) (zs:List (Nat×Nat)) (us:List (Nat×Nat×Nat)):∀ f g,(t.gamz zs us).g f=some g→FnOk P f g:=gam_ok t.p.2 t.m.2
def dFn (f:Nat):Dv Unit where
 dec s:=match s with
  | .fn f' []=>bif Nat.beq f f' then some ((),[]) else none
  | _=>none
 enc _:=.fn f []
 bd _:=True
 cl _ n m ρ ρ' x hm hf:=by
  obtain ⟨l,e,hl⟩:=hf
  have:=fits_nil hl
  subst this
  exact ⟨[],e,trivial⟩
 ok s a ps n ρ x hd hp hf:=by
  split at hd
  ·rename_i f'
   cases hb:Nat.beq f f' with
   | false=>rw[hb] at hd;cases hd
   | true=>
    rw[beq_of hb];exact hf
  ·cases hd
 fb _ _ _ _ _:=trivial
end
end Go.Sx
namespace Go.Sx
variable [Env]
abbrev RM.T {δ:Type} (_:RM δ):Type:=δ
end Go.Sx

namespace Go.Sx
open Go.RowKit
variable [Env]
section
variable {P:Program} {Γ:Gam} {Λ:Lam} {f t:Nat} {γ γ' κ δ:Type} {C:El κ} {D:DA γ} {D':DA γ'} {R:Dv δ} {fn:γ→κ→γ'→κ×δ} {pre:γ→κ→γ'→List Prop}
end
end Go.Sx

namespace Go.Sx
open Go.RowKit
variable [Env]
theorem cl_pr {xs:List SV} (h:Cls xs):Cl (.pr xs):=by
 intro n m ρ ρ' x hm hf
 obtain ⟨b,o,cs,t,fz,k1,k2,vs,k3,k4⟩:=hf
 exact ⟨b,o,cs,t,fz,k1,hm _ _ k2,vs,h n m ρ ρ' vs hm k3,k4⟩
end Go.Sx

namespace Go.Sx
open Go.RowKit
variable [Env]
structure Vwd (M:Nat→Prop) (w0:World) (ρ:Rh) (h:SH) (w:World) (G:Nat→Option Obj):Prop where
 hm:HM M w0 ρ h w
 hG:∀ b o,ρ.mem b=some o→G b=some o
 hO:∀ i o,(h.get i).own (ρ i)→w.heap[(ρ i).blk]?=some o→G (ρ i).blk=some o
structure Rv (δ:Type) where
 D:Dv δ
 dec:SH→SV→Option (δ×List Prop)
 ok:∀ {M:Nat→Prop} {w0:World} {ρ:Rh} {h:SH} {w:World} {G:Nat→Option Obj},Vwd M w0 ρ h w G→∀ {s:SV} {r:δ} {ps:List Prop} {x:Value},dec h s=some (r,ps)→(∀ p∈ps,p)→s.fit h.nx ρ x→(D.enc r).fit h.nx ⟨ρ.lc,G,ρ.lo⟩ x
abbrev Rv.T {δ:Type} (_:Rv δ):Type:=δ
def Rv.of {δ:Type} (D:Dv δ):Rv δ where
 D:=D
 dec h s:=match D.dec (vw2 h s).1 with
  | some (r,ps)=>some (r,(vw2 h s).2++ps)
  | none=>none
 ok {_ _ _ _ _ _} hv {_ _ _ _} hd hp hf:=by
  split at hd
  ·rename_i r ps hr
   simp only[Option.some.injEq,Prod.mk.injEq] at hd
   obtain ⟨rfl,rfl⟩:=hd
   exact D.ok _ _ _ _ _ _ hr (fun p h'=>hp p (List.mem_append_right _ h')) (vw2_ok hv.hm hv.hG hv.hO hf fun p h'=>hp p (List.mem_append_left _ h'))
  ·cases hd
def Rv.list {α:Type} (A:El α):Rv (List α) where
 D:=.list A
 dec h s:=match s with
  | .ow i l=>match h.get i with
   | .row _ sz el m=>bif Nat.beq sz A.sz then some (A.lstE l el,(l≤m) :: A.okE l el) else none
   | _=>none
  | .se i sz o l=>match h.get i with
   | .row _ s el m=>bif Nat.beq s sz&&Nat.beq sz A.sz then some (A.lstE l (.sh o el),(o+l≤m) :: A.okE l (.sh o el)) else none
   | _=>none
  | s=>(Rv.of (.list A)).dec h s
 ok {M w0 ρ h w G} hv {s r ps x} hd hp hf:=by
  split at hd
  ·rename_i i l
   split at hd
   ·rename_i t sz el m hg
    cases hb:Nat.beq sz A.sz with
    | false=>rw[hb] at hd;cases hd
    | true=>
     rw[hb] at hd
     simp only[cond_true,Option.some.injEq,Prod.mk.injEq] at hd
     obtain ⟨rfl,rfl⟩:=hd
     have e0:vw0 h (.ow i l)=(.rs sz l el,[l≤m]):=by simp only[vw0,hg]
     have h1:=vw0_ok hv.hm hv.hG hv.hO hf (by rw[e0];intro p hp';simp only[List.mem_singleton] at hp';subst hp';exact hp _ (List.mem_cons_self ..))
     rw[e0] at h1
     rw[A.lstE_eq]
     exact (Dv.list A).ok (.rs sz l el.at) _ [∀ e,e<l→A.Ok (el.at e)] _ _ _ (by simp[Dv.list,hb]) (by
      intro p hp'
      simp only[List.mem_singleton] at hp'
      subst hp'
      exact A.okE_ok l el fun p h'=>hp p (List.mem_cons_of_mem _ h')) h1
   ·cases hd
  ·rename_i i sz o l
   split at hd
   ·rename_i t s el m hg
    cases hb:(Nat.beq s sz&&Nat.beq sz A.sz) with
    | false=>rw[hb] at hd;cases hd
    | true=>
     rw[hb] at hd
     simp only[cond_true,Option.some.injEq,Prod.mk.injEq] at hd
     obtain ⟨rfl,rfl⟩:=hd
     simp only[Bool.and_eq_true] at hb
     have e0:vw0 h (.se i sz o l)=(.rs sz l (ElE.sh o el),[o+l≤m]):=by simp only[vw0,hg,hb.1,cond_true]
     have h1:=vw0_ok hv.hm hv.hG hv.hO hf (by rw[e0];intro p hp';simp only[List.mem_singleton] at hp';subst hp';exact hp _ (List.mem_cons_self ..))
     rw[e0] at h1
     rw[A.lstE_eq]
     exact (Dv.list A).ok (.rs sz l (ElE.sh o el).at) _ [∀ e,e<l→A.Ok ((ElE.sh o el).at e)] _ _ _ (by simp[Dv.list,hb.2]) (by
      intro p hp'
      simp only[List.mem_singleton] at hp'
      subst hp'
      exact A.okE_ok l (ElE.sh o el) fun p h'=>hp p (List.mem_cons_of_mem _ h')) h1
   ·cases hd
  ·exact (Rv.of (.list A)).ok hv hd hp hf
structure RvA (γ:Type) where
 D:DA γ
 dec:SH→List SV→Option (γ×List Prop)
 ok:∀ {M:Nat→Prop} {w0:World} {ρ:Rh} {h:SH} {w:World} {G:Nat→Option Obj},Vwd M w0 ρ h w G→∀ {s:List SV} {r:γ} {ps:List Prop} {x:List Value},dec h s=some (r,ps)→(∀ p∈ps,p)→SV.fits h.nx ρ s x→SV.fits h.nx ⟨ρ.lc,G,ρ.lo⟩ (D.enc r) x
def RvA.one {α:Type} (R:Rv α):RvA α where
 D:=.one R.D
 dec h l:=match l with
  | [s]=>R.dec h s
  | _=>Option.none
 ok {_ _ _ _ _ _} hv {s r ps x} hd hp hf:=by
  split at hd
  ·obtain ⟨y,r',rfl,hy,hr⟩:=fits_cons hf
   have:=fits_nil hr
   subst this
   exact ⟨R.ok hv hd hp hy,trivial⟩
  ·cases hd
def RvA.cons {α γ:Type} (R:Rv α) (A:RvA γ):RvA (α×γ) where
 D:=.cons R.D A.D
 dec h l:=match l with
  | s :: r=>match R.dec h s with
   | some (a,ps)=>match A.dec h r with
    | some (g,qs)=>some ((a,g),ps++qs)
    | Option.none=>Option.none
   | Option.none=>Option.none
  | []=>Option.none
 ok {_ _ _ _ _ _} hv {s r ps x} hd hp hf:=by
  split at hd
  ·rename_i s r
   split at hd
   ·rename_i a ps0 h1
    split at hd
    ·rename_i g0 qs0 h2
     simp only[Option.some.injEq,Prod.mk.injEq] at hd
     obtain ⟨rfl,rfl⟩:=hd
     obtain ⟨y,r',rfl,hy,hr⟩:=fits_cons hf
     exact ⟨R.ok hv h1 (fun p hp'=>hp p (List.mem_append_left _ hp')) hy,A.ok hv h2 (fun p hp'=>hp p (List.mem_append_right _ hp')) hr⟩
    ·cases hd
   ·cases hd
  ·cases hd
def Rv.tup {γ:Type} (A:RvA γ):Rv γ where
 D:=.tup A.D
 dec h s:=match s with
  | .tup l=>A.dec h l
  | _=>none
 ok {_ _ _ _ _ _} hv {s r ps x} hd hp hf:=by
  split at hd
  ·obtain ⟨v,rfl,hv'⟩:=hf
   exact ⟨v,rfl,A.ok hv hd hp hv'⟩
  ·cases hd
def rTree {δ:Type} (P:Program) (Γ:Gam) (Λ:Lam) (n f:Nat) (args:List SV) (R:Rv δ):Tr δ:=
 (fnTree P Γ Λ n f args ⟨0,[],[]⟩).bind fun y=>match R.dec y.2 y.1 with
  | some (r,ps)=>asks ps (.ret r)
  | none=>.bad 620
section
variable {P:Program} {Γ:Gam} {Λ:Lam} {f:Nat} {γ δ:Type} {D:DA γ} {R:Rv δ} {fn:γ→δ} {pre:γ→List Prop}
theorem res_of_tree (hΓ:∀ f g,Γ.g f=some g→FnOk P f g) (hΛ:∀ f k L,Λ f k=some L→∀ b∈loopsOf P f,lkey b=k→LoopOk P b L.g) (n:Nat)
  (hT:∀ g,D.bd g→(∀ p∈pre g,p)→(rTree P Γ Λ n f (D.enc g) R).Holds (·=fn g)):FnPure P f D R.D fn pre:=by
 intro w F g vs hF hE hpre hfit
 have hbd:=D.fb _ _ _ _ hfit
 have hT:=hT g hbd hpre
 have h0:=fnTree_ok hΓ hΛ n (fun _=>False) w w (emp F) ⟨0,[],[]⟩ _ vs _ (Tr.holds_bind hT) (HM.start w (emp F) hF (fun _ _ h=>h) hE) hfit
 refine h0.mono ?_
 rintro e w' ⟨s,h',ρ',x,h1,h2,h3,h4,h5,rfl⟩
 refine ⟨x,rfl,h4.toBelow,?_⟩
 simp only at h1
 have hv:Vwd (fun _=>False) w ρ' h' w' (memAt F w w'):={
  hm:=h4
  hG:=fun b o hb=>by
   unfold memAt
   split
   ·rename_i hlt
    have:=h4.old b o hb hlt (fun h=>h)
    rw[h3.2.2] at this
    exact this
   ·exact h4.fz b o hb
  hO:=fun i o hown ho=>by
   unfold memAt
   rcases h4.ow i hown with h | h
   ·rw[if_neg (by omega)];exact ho
   ·exact h.elim }
 split at h1
 ·rename_i r ps hr
  obtain ⟨hq,h1⟩:=asks_holds h1
  have h1:r=fn g:=h1
  have:=R.ok hv hr hq h5
  rw[h1] at this
  exact R.D.cl _ _ 0 ⟨ρ'.lc,memAt F w w',ρ'.lo⟩ (emp (memAt F w w')) x (fun _ _ h=>h) this
 ·exact h1.elim
theorem res_of_side (hΓ:∀ f g,Γ.g f=some g→FnOk P f g) (hΛ:∀ f k L,Λ f k=some L→∀ b∈loopsOf P f,lkey b=k→LoopOk P b L.g) (n:Nat) (d:δ) (S:γ→Prop)
  (hS:∀ g,(rTree P Γ Λ n f (D.enc g) R).side=S g) (he:∀ g,(rTree P Γ Λ n f (D.enc g) R).ev d=fn g) (hs:∀ g,D.bd g→(∀ p∈pre g,p)→S g):FnPure P f D R.D fn pre:=
 res_of_tree hΓ hΛ n fun g h1 h2=>by
  have:=Tr.side_holds d (by rw[hS];exact hs g h1 h2:(rTree P Γ Λ n f (D.enc g) R).side)
  rw[he g] at this
  exact this
end
end Go.Sx

namespace Go.Sx
open Go.RowKit
variable [Env]
section
variable {P:Program} {Γ:Gam} {Λ:Lam} {N:Nat} {γ:Type}
end
theorem pure_congr {γ δ:Type} {P:Program} {f:Nat} {D:DA γ} {R:Dv δ} {fn fn':γ→δ} {pre:γ→List Prop} (h:FnPure P f D R fn pre) (e:∀ g,D.bd g→(∀ p∈pre g,p)→fn g=fn' g):FnPure P f D R fn' pre:=by
 intro w F g vs h1 hE h2 h3
 refine (h w F g vs h1 hE h2 h3).mono ?_
 rintro e' w' ⟨x,k1,k2,k3⟩
 rw[e g (D.fb _ _ _ _ h3) h2] at k3
 exact ⟨x,k1,k2,k3⟩
end Go.Sx

namespace Go.Lp
open Go.Sx
variable [Env]
abbrev w64 (n:Int):Int:=IntKind.i64.wrap n
theorem wr {n:Int} (h:0≤n∧n≤9223372036854775807):w64 n=n:=by
 unfold w64
 simp[IntKind.wrap,IntKind.bits,IntKind.signed]
 omega
section
variable {α σ:Type}
end
end Go.Lp

namespace Go.Lp
open Go.Sx
variable [Env]
section
variable {α β:Type}
theorem drop_at (d:α) {xs:List α} {i:Nat} (h:i<xs.length):xs.drop i=xs.getD i d :: xs.drop (i+1):=by
 rw[List.drop_eq_getElem_cons h]
 simp[List.getD_eq_getElem?_getD,h]
section
variable (x:Nat) (d:α) (bad:List α→α→Bool) (step:List α→β→α→β) (c:Int) (ok:List α→β→Nat→Prop)
variable (hok:∀ xs b i,i<xs.length→ok xs b i→ok xs (step xs b (xs.getD i d)) (i+1))
include hok
end
section
variable (x:Nat) (d:α) (bad:List α→α→Bool) (step:List α→β→α→β) (c:Int) (ok:List α→β→Nat→Prop)
variable (hok:∀ xs b i,i<xs.length→ok xs b i→ok xs (step xs b (xs.getD i d)) (i+1))
include hok
end
variable {σ:Type}
end
end Go.Lp

namespace Go.Lp
open Go.Sx
variable [Env]
theorem runL_conj {γ δ:Type} {F:γ→Ex×γ} {F':δ→Ex×δ} {m':δ→Nat} {I':δ→Prop} (φ:γ→δ) (ψ:δ→γ) (h2:∀ d,φ (ψ d)=d) (hF:∀ d,I' d→F (ψ d)=((F' d).1,ψ (F' d).2)) (hg:Goes F' m' I'):∀ (n:Nat) (d:δ),I' d→runL F n (ψ d)=((runL F' n d).1,ψ (runL F' n d).2)
 | 0,d,_=>by simp[runL]
 | n+1,d,hi=>by
  simp only[runL]
  have h:=hF d hi
  have hk:=hg d hi
  rw[h]
  generalize F' d=x at hk
  obtain ⟨e,d'⟩:=x
  cases e with
  | normal=>
   simp only
   rw[runL_conj φ ψ h2 hF hg n d' (hk rfl).1]
  | _=>rfl
theorem loopF_conj {γ δ:Type} {F:γ→Ex×γ} {F':δ→Ex×δ} {m:γ→Nat} {m':δ→Nat} {I':δ→Prop} (φ:γ→δ) (ψ:δ→γ) (h1:∀ g,ψ (φ g)=g) (h2:∀ d,φ (ψ d)=d) (hm:∀ d,m (ψ d)=m' d) (hF:∀ d,I' d→F (ψ d)=((F' d).1,ψ (F' d).2)) (hg:Goes F' m' I') (g:γ) (hi:I' (φ g)) :
  loopF F m g=((loopF F' m' (φ g)).1,ψ (loopF F' m' (φ g)).2):=by
 have e:=hm (φ g)
 have r:=runL_conj φ ψ h2 hF hg (m' (φ g)+1) (φ g) hi
 rw[h1] at e r
 rw[loopF_def,loopF_def,e]
 exact r
theorem goes_conj {γ δ:Type} {F:γ→Ex×γ} {F':δ→Ex×δ} {m:γ→Nat} {m':δ→Nat} {I:γ→Prop} {I':δ→Prop} (φ:γ→δ) (ψ:δ→γ) (h1:∀ g,ψ (φ g)=g) (hm:∀ d,m (ψ d)=m' d) (hI:∀ d,I (ψ d)↔I' d) (hF:∀ d,I' d→F (ψ d)=((F' d).1,ψ (F' d).2)) (h:Goes F' m' I'):Goes F m I:=by
 intro g hi hn
 rw[← h1 g] at hi hn ⊢
 have hi':=(hI _).1 hi
 rw[hF _ hi'] at hn ⊢
 rw[hI]
 rw[hm,hm]
 exact h _ hi' hn
section
variable {α β C:Type}
def ixF (x:Nat) (lim:C→Int) (xs:C→List α) (d:α) (step:C→β→Int→α→Ex×β) (g:Int×C×β):Ex×(Int×C×β):=
 bif decide (g.1<lim g.2.1) then
  match step g.2.1 g.2.2 g.1 ((xs g.2.1).getD g.1.toNat d) with
  | (.normal,b)=>(.normal,w64 (g.1+1),g.2.1,b)
  | (e,b)=>(e,g.1,g.2.1,b)
 else (.exit x,g)
def ixJ (lim:C→Int) (xs:C→List α) (P:C→β→Int→Prop) (g:Int×C×β):Prop:=lim g.2.1=((xs g.2.1).length:Int)∧(xs g.2.1).length≤maxLen∧0≤g.1∧g.1≤((xs g.2.1).length:Int)∧P g.2.1 g.2.2 g.1
def ixI (lim:C→Int) (xs:C→List α) (P:C→β→Int→Prop) (g:Int×C×β):List Prop:=[ixJ lim xs P g]
def ixM (lim:C→Int) (g:Int×C×β):Nat:=(lim g.2.1 - g.1).toNat
def scan (x:Nat) (step:β→Int→α→Ex×β):Int→List α→β→Ex×Int×β
 | i,[],b=>(.exit x,i,b)
 | i,a :: l,b=>match step b i a with
  | (.normal,b')=>scan x step (i+1) l b'
  | (e,b')=>(e,i,b')
def ixP (step:C→β→Int→α→Ex×β) (xs:C→List α) (P:C→β→Int→Prop):Prop:=∀ c b (i:Nat) a,P c b i→(xs c)[i]?=some a→(step c b i a).1=.normal→P c (step c b i a).2 (i+1)
variable {x:Nat} {lim:C→Int} {xs:C→List α} {d:α} {step:C→β→Int→α→Ex×β} {P:C→β→Int→Prop}
theorem ix_goes (hP:ixP step xs P):Goes (ixF x lim xs d step) (ixM lim) fun g=>allP (ixI lim xs P g):=by
 rintro ⟨i,c,b⟩ hi hn
 obtain ⟨h1,h2,h3,h4,h5⟩:=hi _ (List.mem_cons_self ..)
 simp only at h1 h2 h3 h4 h5
 unfold ixF at hn ⊢
 simp only at hn ⊢
 unfold maxLen at h2
 by_cases hlt:i<lim c
 ·simp only[hlt,decide_true,cond_true] at hn ⊢
  have hlt':i.toNat<(xs c).length:=by omega
  have hp:=hP c b i.toNat ((xs c).getD i.toNat d) (by rw[show (i.toNat:Int)=i by omega];exact h5) (by rw[List.getD_eq_getElem?_getD,List.getElem?_eq_getElem hlt'];rfl)
  rw[show (i.toNat:Int)=i by omega] at hp
  generalize step c b i ((xs c).getD i.toNat d)=s at hn hp ⊢
  obtain ⟨e,b'⟩:=s
  cases e with
  | normal=>
   rw[wr (n:=i+1) (by omega)]
   refine ⟨fun q hq=>?_,?_⟩
   ·simp only[ixI,List.mem_singleton] at hq
    subst hq
    exact ⟨h1,by unfold maxLen;exact h2,by show (0:Int)≤i+1;omega,by show i+1≤((xs c).length:Int);omega,hp rfl⟩
   ·simp only[ixM];omega
  | _=>cases hn
 ·simp only[hlt,decide_false,cond_false] at hn
  cases hn
theorem ix_run (hP:ixP step xs P):∀ g:Int×C×β,allP (ixI lim xs P g) →
  loopF (ixF x lim xs d step) (ixM lim) g=((scan x (step g.2.1) g.1 ((xs g.2.1).drop g.1.toNat) g.2.2).1,(scan x (step g.2.1) g.1 ((xs g.2.1).drop g.1.toNat) g.2.2).2.1,g.2.1,(scan x (step g.2.1) g.1 ((xs g.2.1).drop g.1.toNat) g.2.2).2.2):=by
 refine loopF_induct (ix_goes (x:=x) (d:=d) hP) (Q:=fun g r=>r=((scan x (step g.2.1) g.1 ((xs g.2.1).drop g.1.toNat) g.2.2).1,(scan x (step g.2.1) g.1 ((xs g.2.1).drop g.1.toNat) g.2.2).2.1,g.2.1,(scan x (step g.2.1) g.1 ((xs g.2.1).drop g.1.toNat) g.2.2).2.2)) ?_ ?_
 ·rintro ⟨i,c,b⟩ hi hn
  obtain ⟨h1,h2,h3,h4,h5⟩:=hi _ (List.mem_cons_self ..)
  simp only at h1 h2 h3 h4 h5
  unfold ixF at hn ⊢
  simp only at hn ⊢
  by_cases hlt:i<lim c
  ·simp only[hlt,decide_true,cond_true] at hn ⊢
   have hlt':i.toNat<(xs c).length:=by omega
   rw[drop_at d hlt']
   simp only[scan]
   generalize step c b i ((xs c).getD i.toNat d)=s at hn ⊢
   obtain ⟨e,b'⟩:=s
   cases e with
   | normal=>exact absurd rfl hn
   | _=>rfl
  ·simp only[hlt,decide_false,cond_false]
   rw[List.drop_eq_nil_of_le (by omega)]
   rfl
 ·rintro ⟨i,c,b⟩ g' r hi he hi' _ hq
  obtain ⟨h1,h2,h3,h4,h5⟩:=hi _ (List.mem_cons_self ..)
  simp only at h1 h2 h3 h4 h5
  unfold maxLen at h2
  unfold ixF at he
  simp only at he
  by_cases hlt:i<lim c
  ·simp only[hlt,decide_true,cond_true] at he
   have hlt':i.toNat<(xs c).length:=by omega
   rw[hq]
   simp only
   rw[drop_at d hlt']
   simp only[scan]
   generalize step c b i ((xs c).getD i.toNat d)=s at he ⊢
   obtain ⟨e,b'⟩:=s
   cases e with
   | normal=>
    rw[wr (n:=i+1) (by omega)] at he
    simp only[Prod.mk.injEq,true_and] at he
    subst he
    simp only
    rw[show (i+1).toNat=i.toNat+1 by omega]
   | _=>simp at he
  ·simp only[hlt,decide_false,cond_false] at he
   cases he
theorem ix_run0 (hP:ixP step xs P) (c:C) (b:β) (h1:lim c=((xs c).length:Int)) (h2:(xs c).length≤maxLen) (h3:P c b 0) :
  loopF (ixF x lim xs d step) (ixM lim) (0,c,b)=((scan x (step c) 0 (xs c) b).1,(scan x (step c) 0 (xs c) b).2.1,c,(scan x (step c) 0 (xs c) b).2.2):=by
 have:=ix_run (x:=x) (lim:=lim) (d:=d) hP (0,c,b) (fun q hq=>by
  simp only[ixI,List.mem_singleton] at hq
  subst hq
  exact ⟨h1,h2,Int.le_refl _,by show (0:Int)≤((xs c).length:Int);omega,h3⟩)
 simpa using this
theorem ixJ0 {c:C} {b:β} (h1:lim c=((xs c).length:Int)) (h2:(xs c).length≤maxLen) (h3:P c b 0):ixJ lim xs P (0,c,b):=⟨h1,h2,Int.le_refl _,by show (0:Int)≤((xs c).length:Int);omega,h3⟩
theorem ix_inv0 {c:C} {b:β} (h1:lim c=((xs c).length:Int)) (h2:(xs c).length≤maxLen) (h3:P c b 0):allP (ixI lim xs P (0,c,b)):=fun q hq=>by
 simp only[ixI,List.mem_singleton] at hq
 subst hq
 exact ⟨h1,h2,Int.le_refl _,by show (0:Int)≤((xs c).length:Int);omega,h3⟩
section
variable {γ:Type} {F:γ→Ex×γ} {φ:γ→Int×C×β} {ψ:Int×C×β→γ}
theorem ix_conj_goes (h1:∀ g,ψ (φ g)=g) (h2:∀ d,φ (ψ d)=d) {d0:α} (hF:∀ d,allP (ixI lim xs P d)→F (ψ d)=((ixF x lim xs d0 step d).1,ψ (ixF x lim xs d0 step d).2)) (hP:ixP step xs P):Goes F (fun g=>ixM lim (φ g)) fun g=>allP (ixI lim xs P (φ g)):=
 goes_conj (m':=ixM lim) (I':=fun d=>allP (ixI lim xs P d)) φ ψ h1 (fun d=>by rw[h2]) (fun d=>by rw[h2]) hF (ix_goes hP)
theorem ix_conj_run (h1:∀ g,ψ (φ g)=g) (h2:∀ d,φ (ψ d)=d) {d0:α} (hF:∀ d,allP (ixI lim xs P d)→F (ψ d)=((ixF x lim xs d0 step d).1,ψ (ixF x lim xs d0 step d).2)) (hP:ixP step xs P) (c:C) (b:β) (k1:lim c=((xs c).length:Int)) (k2:(xs c).length≤maxLen) (k3:P c b 0) :
  loopF F (fun g=>ixM lim (φ g)) (ψ (0,c,b))=((scan x (step c) 0 (xs c) b).1,ψ ((scan x (step c) 0 (xs c) b).2.1,c,(scan x (step c) 0 (xs c) b).2.2)):=by
 have h:=loopF_conj (F:=F) (F':=ixF x lim xs d0 step) (m:=fun g=>ixM lim (φ g)) (m':=ixM lim) (I':=fun d=>allP (ixI lim xs P d)) φ ψ h1 h2 (fun d=>by rw[h2]) hF (ix_goes hP) (ψ (0,c,b)) (by rw[h2];exact ix_inv0 k1 k2 k3)
 rw[h,h2,ix_run0 hP c b k1 k2 k3]
end
section
variable {st:β→Int→α→Ex×β}
theorem scan_fold {f:β→α→β} (h:∀ b i a,st b i a=(.normal,f b a)):∀ (l:List α) (i:Int) (b:β),scan x st i l b=(.exit x,i+l.length,l.foldl f b)
 | [],i,b=>by simp[scan]
 | a :: l,i,b=>by
  simp only[scan,h,List.foldl_cons,List.length_cons]
  rw[scan_fold h l]
  simp;omega
theorem scan_bad {p:α→Bool} {r:α→β→β} {f:β→α→β} {e:Ex} (he:e≠.normal) (h:∀ b i a,st b i a=bif p a then (e,r a b) else (.normal,f b a)):∀ (l:List α) (i:Int) (b:β),
  (l.any p=true∧(scan x st i l b).1=e∧∃ a b',a∈l∧p a=true∧(scan x st i l b).2.2=r a b')∨(l.any p=false∧scan x st i l b=(.exit x,i+l.length,l.foldl f b))
 | [],i,b=>.inr ⟨rfl,by simp[scan]⟩
 | a :: l,i,b=>by
  simp only[scan,h]
  cases hp:p a with
  | true=>
   left
   refine ⟨by simp[hp],?_⟩
   cases e <;> first | exact absurd rfl he | exact ⟨rfl,a,b,List.mem_cons_self ..,hp,rfl⟩
  | false=>
   simp only[cond_false]
   rcases scan_bad he h l (i+1) (f b a) with ⟨h1,h2,a',b',h3,h4,h5⟩ | ⟨h1,h2⟩
   ·exact .inl ⟨by simp[h1],h2,a',b',List.mem_cons_of_mem _ h3,h4,h5⟩
   ·refine .inr ⟨by simp[hp,h1],?_⟩
    rw[h2]
    simp;omega
end
end
theorem scan_same {α:Type} [DecidableEq α] {x:Nat} (b:List α) (d:α) {st:Bool→Int→α→Ex×Bool} (h:∀ r (i:Int) a,st r i a=bif !decide (a=b.getD i.toNat d) then (.ret,false) else (.normal,r)):∀ (l:List α) (i:Nat) (r:Bool),l.length+i=b.length →
  (l=b.drop i∧scan x st (i:Int) l r=(.exit x,(i:Int)+l.length,r))∨(l≠b.drop i∧(scan x st (i:Int) l r).1=.ret∧(scan x st (i:Int) l r).2.2=false)
 | [],i,r,hl=>.inl ⟨by rw[List.drop_eq_nil_of_le (by simp at hl;omega)],by simp[scan]⟩
 | a :: l,i,r,hl=>by
  simp only[List.length_cons] at hl
  have hlt:i<b.length:=by omega
  rw[drop_at d hlt]
  simp only[scan,h,Int.toNat_natCast]
  by_cases hab:a=b.getD i d
  ·simp only[hab,decide_true,Bool.not_true,cond_false]
   have ih:=scan_same (x:=x) b d h l (i+1) r (by omega)
   rw[show ((i+1:Nat):Int)=(i:Int)+1 by omega] at ih
   rcases ih with ⟨h1,h2⟩ | ⟨h1,h2⟩
   ·refine .inl ⟨by rw[h1],?_⟩
    rw[h2]
    simp;omega
   ·refine .inr ⟨fun e=>h1 (by injection e),h2⟩
  ·right
   refine ⟨fun e=>hab (by injection e),?_⟩
   simp only[hab,decide_false,Bool.not_false,cond_true]
   exact ⟨trivial,trivial⟩
end Go.Lp

namespace Go.Lp
open Go.Sx
variable [Env]
section
variable {α:Type} (A:El α)
theorem lst_snoc (xs:List α) (x:α):A.lst (min (xs.length+1) xs.length) (A.els xs)++List.map (fun _=>x) (List.range (xs.length+1 - xs.length))=xs++[x]:=by
 rw[Nat.min_eq_right (Nat.le_succ _),A.lst_els,show xs.length+1 - xs.length=1 by omega]
 rfl
theorem lst_up (xs:List α):A.lst (xs.length+1) (A.els xs)=xs++[A.dflt]:=by
 apply List.ext_getElem
 ·simp[El.lst]
 ·intro i h1 h2
  simp only[El.lst,List.getElem_map,List.getElem_range,El.els,El.get_cells]
  by_cases h:i<xs.length
  ·simp[List.getElem_append_left h,List.getD_eq_getElem?_getD,h]
  ·have h3:i=xs.length:=by simp[El.lst] at h1;omega
   subst h3
   simp[List.getD_eq_getElem?_getD]
theorem lst_le (xs:List α) (k:Nat) (h:k≤xs.length):A.lst k (A.els xs)=xs.take k:=by
 apply List.ext_getElem
 ·simp[El.lst];omega
 ·intro i h1 h2
  have:i<xs.length:=by simp[El.lst] at h1;omega
  simp[El.lst,El.els,El.get_cells,List.getD_eq_getElem?_getD,this]
theorem lst_put (xs:List α) (i:Nat) (h:i≤xs.length) (x:α):(A.lst (bif decide (i<xs.length) then xs.length else xs.length+1) (A.els xs)).set i x=if i<xs.length then xs.set i x else xs++[x]:=by
 by_cases hi:i<xs.length
 ·rw[decide_eq_true hi,cond_true,A.lst_els,if_pos hi]
 ·have:i=xs.length:=by omega
  subst this
  rw[decide_eq_false hi,cond_false,lst_up,if_neg hi]
  simp
end
section
variable {α:Type}
theorem kfind_list (p:α→Bool) (d:α):∀ (xs:List α) (e:Nat) (f:Nat→Bool),(∀ i,i<xs.length→f (e+i)=p (xs.getD i d))→kfind f xs.length e=e+xs.findIdx p
 | [],e,f,_=>rfl
 | x :: xs,e,f,h=>by
  simp only[List.length_cons,kfind]
  have h0:f e=p x:=h 0 (by simp)
  rw[List.findIdx_cons,h0]
  cases hp:p x with
  | true=>simp
  | false=>
   simp only[cond_false]
   rw[kfind_list p d xs (e+1) f fun i hi=>by
    have:=h (i+1) (by simp;omega)
    rw[show e+1+i=e+(i+1) by omega]
    simpa using this]
   omega
theorem kfind_idx (p:α→Bool) (d:α) (xs:List α) {f:Nat→Bool} (h:∀ i,i<xs.length→f i=p (xs.getD i d)):kfind f xs.length 0=xs.findIdx p:=by
 have:=kfind_list p d xs 0 f fun i hi=>by rw[Nat.zero_add];exact h i hi
 rwa [Nat.zero_add] at this
theorem findIdx_one {β:Type} [DecidableEq β] (f:α→β) {d:α} {xs:List α} (hd:xs.Pairwise fun a b=>f a≠f b) {i:Nat} (hi:i<xs.length):xs.findIdx (fun x=>decide (f (xs.getD i d)=f x))=i:=by
 have hg:xs.getD i d=xs[i]:=by simp[List.getD_eq_getElem?_getD,hi]
 rw[hg,List.findIdx_eq hi]
 refine ⟨by simp,fun j hj=>?_⟩
 have:=(List.pairwise_iff_getElem.1 hd) j i (by omega) hi hj
 simp only[decide_eq_false_iff_not]
 exact fun h=>this h.symm
end
section
variable {α β:Type}
abbrev MpE (α β:Type):=α×β×Int
def Bn (mp:List (MpE α β)) (clk:Nat):Prop:=mp.Pairwise (fun a b=>a.2.2<b.2.2)∧∀ x∈mp,x.2.2<(clk:Int)
def Kd (mp:List (MpE α β)):Prop:=mp.Pairwise fun a b=>a.1≠b.1
def left (mp:List (MpE α β)) (seen:List Int):List (MpE α β):=mp.filter fun x=>!seen.contains x.2.2
theorem left_map (mp:List (MpE α β)) (seen:List Int) (d:MpE α β) (d':Int):left mp seen=(leftI (fun e=>(mp.getD e d).2.2) mp.length (fun k=>seen.getD k d') seen.length).map fun i=>mp.getD i d:=by
 have h1:mp=(List.range mp.length).map fun i=>mp.getD i d:=by
  apply List.ext_getElem
  ·simp
  ·intro i h1 h2
   simp[List.getD_eq_getElem?_getD,h1]
 have h2:leftI (fun e=>(mp.getD e d).2.2) mp.length (fun k=>seen.getD k d') seen.length=(List.range mp.length).filter ((fun x:MpE α β=>!seen.contains x.2.2) ∘ fun i=>mp.getD i d):=by
  unfold leftI
  apply List.filter_congr
  intro i _
  simp only[Function.comp]
  congr 1
  rw[Bool.eq_iff_iff,List.any_eq_true]
  constructor
  ·rintro ⟨k,hk,hk'⟩
   have hk:=List.mem_range.1 hk
   have hk':=eq_of_beq hk'
   rw[hk']
   simp[List.getD_eq_getElem?_getD,hk]
  ·intro h
   have h:(mp.getD i d).2.2∈seen:=by simpa using h
   obtain ⟨k,hk,hk'⟩:=List.getElem_of_mem h
   refine ⟨k,List.mem_range.2 hk,?_⟩
   simp[List.getD_eq_getElem?_getD,hk,hk']
 rw[h2,← List.filter_map,← h1]
 rfl
theorem left_pick {mp:List (MpE α β)} {seen:List Int} {d:MpE α β} {d':Int} {q:List Nat} (hq:q=leftI (fun e=>(mp.getD e d).2.2) mp.length (fun k=>seen.getD k d') seen.length) (h0:q.length≠0) (cs:List Nat) :
  ∃ j,pickI q cs=j∧j<mp.length∧(left mp seen)[cs.headD 0 % (left mp seen).length]?=some (mp.getD j d)∧seen.contains (mp.getD j d).2.2=false:=by
 have hl:=left_map mp seen d d'
 rw[← hq] at hl
 have hlt:cs.headD 0 % q.length<q.length:=Nat.mod_lt _ (by omega)
 have hp:pickI q cs=q[cs.headD 0 % q.length]:=by
  unfold pickI
  rw[List.getD_eq_getElem?_getD,List.getElem?_eq_getElem hlt];rfl
 refine ⟨_,rfl,?_,?_,?_⟩
 ·rw[hp]
  have:=List.getElem_mem hlt
  generalize q[cs.headD 0 % q.length]=j at this
  rw[hq] at this
  exact List.mem_range.1 (List.mem_filter.1 this).1
 ·rw[hl,List.length_map,List.getElem?_map,List.getElem?_eq_getElem hlt,hp];rfl
 ·have:mp.getD (pickI q cs) d∈left mp seen:=by
   rw[hl,hp]
   exact List.mem_map.2 ⟨_,List.getElem_mem hlt,rfl⟩
  have:=(List.mem_filter.1 this).2
  simpa using this
theorem left_len {mp:List (MpE α β)} {seen:List Int} {d:MpE α β} {d':Int} {q:List Nat} (hq:q=leftI (fun e=>(mp.getD e d).2.2) mp.length (fun k=>seen.getD k d') seen.length):q.length=(left mp seen).length:=by
 rw[left_map mp seen d d',hq,List.length_map]
theorem bn_ne {mp:List (MpE α β)} {clk:Nat} (h:Bn mp clk):mp.Pairwise fun a b=>a.2.2≠b.2.2:=h.1.imp fun h=>by omega
theorem stamp_at {mp:List (MpE α β)} {clk:Nat} (h:Bn mp clk) {d:MpE α β} {i:Nat} (hi:i<mp.length) {q:Nat} (hq:q=kfind (fun e=>(mp.getD e d).2.2==(mp.getD i d).2.2) mp.length 0):q=i:=by
 have e:kfind (fun e=>(mp.getD e d).2.2==(mp.getD i d).2.2) mp.length 0=mp.findIdx fun x=>decide ((mp.getD i d).2.2=x.2.2):=
  kfind_idx _ d mp fun j _=>by rw[Bool.eq_iff_iff,beq_iff_eq,decide_eq_true_eq];exact eq_comm
 rw[hq,e]
 exact findIdx_one (fun x:MpE α β=>x.2.2) (bn_ne h) hi
theorem bn_filter {mp:List (MpE α β)} {clk:Nat} (h:Bn mp clk) (p:MpE α β→Bool):Bn (mp.filter p) clk:=⟨h.1.sublist List.filter_sublist,fun x hx=>h.2 x (List.mem_filter.1 hx).1⟩
theorem erase_filter {mp:List (MpE α β)} {clk:Nat} (h:Bn mp clk) {i:Nat} (hi:i<mp.length) (p q:MpE α β→Bool) (hq:q mp[i]=false) (hpq:∀ x∈mp,x.2.2≠mp[i].2.2→p x=q x):(mp.eraseIdx i).filter p=mp.filter q:=by
 have hsp:mp=mp.take i++mp[i] :: mp.drop (i+1):=by
  rw[List.getElem_cons_drop,List.take_append_drop]
 have hne:∀ x∈mp.take i++mp.drop (i+1),x.2.2≠mp[i].2.2:=fun x hx=>by
  have hp:=bn_ne h
  rw[hsp,List.pairwise_append] at hp
  obtain ⟨_,h2,h3⟩:=hp
  rcases List.mem_append.1 hx with hx | hx
  ·exact h3 x hx _ (List.mem_cons_self ..)
  ·exact fun e=>(List.pairwise_cons.1 h2).1 x hx e.symm
 rw[List.eraseIdx_eq_take_drop_succ]
 have h1:mp.filter q=(mp.take i++mp.drop (i+1)).filter q:=by
  conv=>lhs;rw[hsp]
  rw[List.filter_append,List.filter_append,List.filter_cons,hq]
  rfl
 rw[h1]
 apply List.filter_congr
 intro x hx
 refine hpq x ?_ (hne x hx)
 rw[hsp]
 rcases List.mem_append.1 hx with hx | hx
 ·exact List.mem_append_left _ hx
 ·exact List.mem_append_right _ (List.mem_cons_of_mem _ hx)
def permC:Nat→List Nat→List (MpE α β)→List (MpE α β)
 | 0,_,_=>[]
 | n+1,cs,l=>match l[(hdC (hdC cs)).headD 0 % l.length]? with
  | some e=>e :: permC n (tlC cs) (l.eraseIdx ((hdC (hdC cs)).headD 0 % l.length))
  | none=>[]
theorem permC_perm:∀ (n:Nat) (cs:List Nat) (l:List (MpE α β)),l.length=n→(permC n cs l).Perm l
 | 0,cs,l,h=>by rw[List.length_eq_zero_iff.1 h];exact List.Perm.refl _
 | n+1,cs,l,h=>by
  have hlt:(hdC (hdC cs)).headD 0 % l.length<l.length:=Nat.mod_lt _ (by omega)
  simp only[permC,List.getElem?_eq_getElem hlt]
  refine ((permC_perm n (tlC cs) _ ?_).cons _).trans ?_
  ·rw[List.length_eraseIdx_of_lt hlt];omega
  ·rw[List.eraseIdx_eq_take_drop_succ]
   refine List.perm_middle.symm.trans (List.Perm.of_eq ?_)
   rw[List.getElem_cons_drop,List.take_append_drop]
theorem permC_next {l:List (MpE α β)} {n:Nat} {cs:List Nat} {e:MpE α β} (hn:l.length=n+1) (hk:l[(hdC (hdC cs)).headD 0 % l.length]?=some e):permC l.length cs l=e :: permC n (tlC cs) (l.eraseIdx ((hdC (hdC cs)).headD 0 % l.length)):=by
 have:permC (n+1) cs l=e :: permC n (tlC cs) (l.eraseIdx ((hdC (hdC cs)).headD 0 % l.length)):=by
  simp only[permC,hk]
 rw[← this,hn]
theorem left_next {mp:List (MpE α β)} {clk:Nat} (h:Bn mp clk) {seen:List Int} {k:Nat} {e:MpE α β} (hk:(left mp seen)[k]?=some e):left mp (seen++[e.2.2])=(left mp seen).eraseIdx k:=by
 obtain ⟨hlt,rfl⟩:=List.getElem?_eq_some_iff.1 hk
 have hb:Bn (left mp seen) clk:=bn_filter h _
 have h1:left mp (seen++[(left mp seen)[k].2.2])=(left mp seen).filter fun x=>!decide (x.2.2=(left mp seen)[k].2.2):=by
  generalize (left mp seen)[k].2.2=s
  unfold left
  rw[List.filter_filter]
  apply List.filter_congr
  intro x _
  rw[Bool.eq_iff_iff]
  simp
  exact ⟨fun h=>⟨h.2,h.1⟩,fun h=>⟨h.2,h.1⟩⟩
 rw[h1]
 have:=erase_filter hb hlt (fun _=>true) (fun x=>!decide (x.2.2=(left mp seen)[k].2.2)) (by simp) fun x _ hx=>by simp[hx]
 rw[← this,List.filter_eq_self.2 fun _ _=>rfl]
section
variable {γ δ:Type} {F:List Nat→γ→Ex×γ} {m:γ→Nat} {Inv:γ→Prop}
def scanM (x:Nat) (st:MpE α β→δ→Ex×δ):List (MpE α β)→δ→Ex×δ
 | [],b=>(.exit x,b)
 | e :: l,b=>match st e b with
  | (.normal,b')=>scanM x st l b'
  | r=>r
theorem fold_loop {x:Nat} {st:MpE α β→δ→Ex×δ} (mp:γ→List (MpE α β)) (sn:γ→List Int) (clk:γ→Nat) (bo:γ→δ) (up:γ→List Int→δ→γ) (h1:∀ g a b,mp (up g a b)=mp g) (h2:∀ g a b,sn (up g a b)=a) (h2':∀ g a b,bo (up g a b)=b) (h3:∀ g a b c d,up (up g a b) c d=up g c d) (h4:∀ g,up g (sn g) (bo g)=g)
  (hb:∀ g,Inv g→Bn (mp g) (clk g)) (hm:∀ g,m g=(left (mp g) (sn g)).length)
  (hI:∀ g e,Inv g→e∈left (mp g) (sn g)→(left (mp g) (sn g++[e.2.2])).length<(left (mp g) (sn g)).length→(st e (bo g)).1=.normal→Inv (up g (sn g++[e.2.2]) (st e (bo g)).2))
  (hF:∀ cs g,Inv g→((left (mp g) (sn g)).length=0∧F cs g=(.exit x,g))∨∃ e,(left (mp g) (sn g))[(hdC cs).headD 0 % (left (mp g) (sn g)).length]?=some e∧F cs g=((st e (bo g)).1,up g (sn g++[e.2.2]) (st e (bo g)).2)) :
  GoesA F m Inv∧∀ cs g,Inv g→∃ s,loopFA F m cs g=((scanM x st (permC (left (mp g) (sn g)).length cs (left (mp g) (sn g))) (bo g)).1,up g s (scanM x st (permC (left (mp g) (sn g)).length cs (left (mp g) (sn g))) (bo g)).2):=by
 have hg:GoesA F m Inv:=fun g cs hi hn=>by
  rcases hF cs g hi with ⟨_,e⟩ | ⟨e,hk,he⟩
  ·rw[e] at hn;cases hn
  ·rw[he] at hn ⊢
   have hlt:(left (mp g) (sn g++[e.2.2])).length<(left (mp g) (sn g)).length:=by
    rw[left_next (hb g hi) hk]
    have:=(List.getElem?_eq_some_iff.1 hk).1
    rw[List.length_eraseIdx_of_lt this]
    omega
   refine ⟨hI g e hi (List.mem_of_getElem? hk) hlt hn,?_⟩
   simp only
   rw[hm,hm,h1,h2]
   exact hlt
 refine ⟨hg,loopFA_induct hg (Q:=fun cs g r=>∃ s,r=((scanM x st (permC (left (mp g) (sn g)).length cs (left (mp g) (sn g))) (bo g)).1,up g s (scanM x st (permC (left (mp g) (sn g)).length cs (left (mp g) (sn g))) (bo g)).2)) (fun g cs hi hn=>?_) fun g g' cs r hi he hi' _ hq=>?_⟩
 ·rcases hF (hdC cs) g hi with ⟨h0,e⟩ | ⟨e,hk,he⟩
  ·refine ⟨sn g,?_⟩
   rw[h0]
   simp only[permC,scanM]
   rw[h4,e]
  ·rw[he] at hn ⊢
   refine ⟨sn g++[e.2.2],?_⟩
   have hlt:=(List.getElem?_eq_some_iff.1 hk).1
   obtain ⟨n,hn'⟩:∃ n,(left (mp g) (sn g)).length=n+1:=⟨(left (mp g) (sn g)).length - 1,by omega⟩
   have e1:permC (left (mp g) (sn g)).length cs (left (mp g) (sn g))=e :: permC n (tlC cs) ((left (mp g) (sn g)).eraseIdx ((hdC (hdC cs)).headD 0 % (left (mp g) (sn g)).length)):=permC_next hn' hk
   rw[e1]
   simp only[scanM]
   generalize st e (bo g)=r at hn
   obtain ⟨ex,b'⟩:=r
   cases ex with
   | normal=>exact absurd rfl hn
   | _=>rfl
 ·obtain ⟨s,hs⟩:=hq
  rcases hF (hdC cs) g hi with ⟨h0,e⟩ | ⟨e,hk,he2⟩
  ·rw[he] at e;cases e
  ·have hlt:=(List.getElem?_eq_some_iff.1 hk).1
   obtain ⟨n,hn'⟩:∃ n,(left (mp g) (sn g)).length=n+1:=⟨(left (mp g) (sn g)).length - 1,by omega⟩
   have e1:permC (left (mp g) (sn g)).length cs (left (mp g) (sn g))=e :: permC n (tlC cs) ((left (mp g) (sn g)).eraseIdx ((hdC (hdC cs)).headD 0 % (left (mp g) (sn g)).length)):=permC_next hn' hk
   rw[he] at he2
   simp only[Prod.mk.injEq] at he2
   obtain ⟨k1,k2⟩:=he2
   have hst:st e (bo g)=(.normal,(st e (bo g)).2):=by rw[k1]
   have hl:left (mp g') (sn g')=(left (mp g) (sn g)).eraseIdx ((hdC (hdC cs)).headD 0 % (left (mp g) (sn g)).length):=by
    rw[k2,h1,h2];exact left_next (hb g hi) hk
   have hln:(left (mp g') (sn g')).length=n:=by rw[hl,List.length_eraseIdx_of_lt hlt];omega
   refine ⟨s,?_⟩
   rw[hs,e1,hln,hl]
   have hbo:bo g'=(st e (bo g)).2:=by rw[k2,h2']
   have hup:∀ c d,up g' c d=up g c d:=fun c d=>by rw[k2,h3]
   simp only[scanM]
   rw[hst,hbo,hup]
end
end
end Go.Lp

namespace Go.Lp
open Go.Sx
variable [Env]
section
variable {α:Type} [DecidableEq α]
end
end Go.Lp

namespace Go.Lp
open Go.Sx
variable [Env]
section
variable {α:Type} [DecidableEq α]
end
end Go.Lp

namespace Go.Sx
def rw' {α:Type}:Result α→World
 | .ok _ w=>w
 | .halt _ w=>w
theorem ask_drawn {α:Type}:∀ (a:Ask α) (w:World),w.drawn≤(w.ask a).2.drawn
 | .done _,w=>by simp[World.ask]
 | .ask what range k,w=>by
  rw[World.ask]
  split
  ·exact ask_drawn (k 0) w
  ·exact Nat.le_trans (Nat.le_succ _) (ask_drawn _ { w with drawn:=w.drawn+1 })
theorem sys_drawn (w:World) (c:Sys):w.drawn≤(w.sys c).2.drawn:=by
 have h:=ask_drawn (Kernel.perform c w.os) w
 unfold World.sys
 split
 ·exact Nat.le_refl _
 ·rename_i he
  rw[he] at h
  exact h
theorem farStore_drawn {P:Program} {w w':World} {a:Addr} {v:Value} {b:Bool} {l:List Addr} (h:w.farStore P a v b=.ok (w',l)):w.drawn≤w'.drawn:=by
 unfold World.farStore at h
 split at h
 ·rename_i at_ u _
  split at h
  ·rename_i r hr
   injection h with h
   subst h
   unfold World.viewStore at hr
   simp only[bind,Except.bind,pure,Except.pure,throw,throwThe,MonadExceptOf.throw] at hr
   repeat' (first | (split at hr) | (cases hr))
   all_goals (first | exact Nat.le_refl _ | (simp at hr;done) | skip)
  ·cases h
 ·cases h
theorem run_drawn {α:Type} (P:Program):∀ (s:Sem α) (w:World),w.drawn≤(rw' (s.run P w)).drawn:=by
 intro s
 induction s with
 | pure a=>intro w;exact Nat.le_refl _
 | load m a k ih=>
  intro w
  simp only[Sem.run]
  split
  ·exact ih _ _
  ·split
   ·exact ih _ _
   ·exact Nat.le_refl _
 | store m a v k ih=>
  intro w
  cases v <;> simp only[Sem.run] <;> (try exact Nat.le_refl _)
  all_goals
   split
   ·split
    ·exact Nat.le_refl _
    ·exact ih (w.setCell a _)
   ·split
    ·rename_i h
     exact Nat.le_trans (farStore_drawn h) (ih _)
    ·exact Nat.le_refl _
 | new o k ih=>intro w;exact ih _ { w with heap:=w.heap.push o }
 | shape r k ih=>intro w;exact ih _ _
 | freeze a n k ih=>
  intro w
  have h:(w.freeze a n).drawn=w.drawn:=by unfold World.freeze;split <;> rfl
  have:=ih (w.freeze a n)
  rw[h] at this
  exact this
 | frozen a k ih=>intro w;exact ih _ _
 | getObj r k ih=>
  intro w
  simp only[Sem.run]
  split
  ·exact Nat.le_refl _
  ·exact ih _ _
  ·exact Nat.le_refl _
 | setObj r o k ih=>
  intro w
  simp only[Sem.run]
  split
  ·exact Nat.le_refl _
  ·exact ih { w with heap:=w.heap.setIfInBounds r o }
  ·exact Nat.le_refl _
 | choose q k ih=>
  intro w
  simp only[Sem.run]
  split
  ·exact ih _ _
  ·exact Nat.le_trans (Nat.le_succ _) (ih _ { w with drawn:=w.drawn+1 })
 | sys c k ih=>intro w;exact Nat.le_trans (sys_drawn w c) (ih _ _)
 | program k ih=>intro w;exact ih _ _
 | mark m k ih=>intro w;exact ih _
 | halt h=>intro w;exact Nat.le_refl _
theorem runT_drawn {α:Type} (P:Program) (s:Sem α) (w:World) (es:Array Event):w.drawn≤(rw' (s.runT P w es).1).drawn:=by
 rw[Sem.runT_fst];exact run_drawn P s w
section
variable {α:Type} {P:Program} {s:Sem α} {w w':World} {a:α} {es es':Array Event} {x:Halt}
theorem run_ok (h:s.run P w=.ok a w'):w.drawn≤w'.drawn:=by have:=run_drawn P s w;rw[h] at this;exact this
theorem run_halt (h:s.run P w=.halt x w'):w.drawn≤w'.drawn:=by have:=run_drawn P s w;rw[h] at this;exact this
theorem runT_ok (h:s.runT P w es=(.ok a w',es')):w.drawn≤w'.drawn:=by have:=runT_drawn P s w es;rw[h] at this;exact this
theorem runT_halt (h:s.runT P w es=(.halt x w',es')):w.drawn≤w'.drawn:=by have:=runT_drawn P s w es;rw[h] at this;exact this
theorem runT1_ok (h:(s.runT P w es).1=.ok a w'):w.drawn≤w'.drawn:=by have:=runT_drawn P s w es;rw[h] at this;exact this
theorem runT1_halt (h:(s.runT P w es).1=.halt x w'):w.drawn≤w'.drawn:=by have:=runT_drawn P s w es;rw[h] at this;exact this
end
def Up (n:Nat):GStep→Prop
 | .go _ w _=>n≤w.drawn
 | .comm _ _ _ _ w _=>n≤w.drawn
 | .spawn _ _ w _=>n≤w.drawn
 | .count _ w _=>n≤w.drawn
 | .timer _ _ w _=>n≤w.drawn
 | .alone _ _ w _=>n≤w.drawn
 | .newcoro _ _ _ w _=>n≤w.drawn
 | .coroswitch _ _ _ w _=>n≤w.drawn
 | .collect _ w _=>n≤w.drawn
 | .watch _ w _=>n≤w.drawn
 | .ended _ _ _=>True
theorem up_after {n:Nat} {es:Array Event} {s:GStep}:Up n (GStep.after es s)↔Up n s:=by cases s <;> exact Iff.rfl
theorem up_mono {n m:Nat} {s:GStep} (h:n≤m) (hu:Up m s):Up n s:=by
 cases s <;> first | exact trivial | exact Nat.le_trans h hu
theorem ite_up {n:Nat} {c:Prop} [Decidable c] {x y:GStep} (hx:Up n x) (hy:Up n y):Up n (if c then x else y):=by
 split
 ·exact hx
 ·exact hy
theorem elim_up {n:Nat} {α:Type} {o:Option α} {x:GStep} {f:α→GStep} (hx:Up n x) (hf:∀ a,Up n (f a)):Up n (o.elim x f):=by
 cases o
 ·exact hx
 ·exact hf _
theorem endWith_up (w:World) (fd:Nat) (text:ByteArray) (o:Outcome):Up w.drawn (endWith w fd text o):=by
 unfold endWith
 have:=sys_drawn w (.write fd text)
 generalize w.sys (.write fd text)=x at this ⊢
 obtain ⟨r,w'⟩:=x
 cases r <;> simp only <;> (try split) <;> exact trivial
theorem dieOf_up (fr:Frame) (l:List ByteArray) (m:String) (b:Bool) (w:World):Up w.drawn (dieOf fr l m b w):=Nat.le_refl _
theorem endThrow_up (fr:Frame) (m:String) (w:World):Up w.drawn (endThrow fr m w):=Nat.le_refl _
theorem endPrinting_up (P:Program) (fr:Frame) (v:Value) (w:World):Up w.drawn (endPrinting P fr v w):=by
 have:∀ o:Option String,Up w.drawn (match o with
  | some s=>endThrow fr ("panic while printing panic value"++s) w
  | none=>.ended (.unsupported (.noEntry "a panic in Error or String during the report of a panic, with a value that cannot be shown") "") w):=fun o=>by
  cases o with
  | some s=>exact endThrow_up _ _ _
  | none=>trivial
 exact this _
theorem endFatal_up (P:Program) (fr:Frame) (cs:List Frame) (d:Option Dying) (m:String) (w:World):Up w.drawn (endFatal P fr cs d m w):=by
 unfold endFatal
 simp only
 split
 ·rename_i w' h
  exact up_mono (run_ok h) (dieOf_up _ _ _ _ _)
 ·trivial
 ·trivial
theorem writeOn_up (P:Program) (fr:Frame) (d:Dying) (f:Fatal) (w:World):Up w.drawn (writeOn P fr d f w):=by
 unfold writeOn
 simp only
 split
 ·trivial
 ·split
  ·rename_i h
   exact runT_ok h
  ·rename_i h
   exact runT_halt h
  ·trivial
  ·trivial
theorem die_up (P:Program) (fr:Frame) (d:Dying) (w:World):Up w.drawn (die P fr d w):=by
 unfold die
 split
 ·exact writeOn_up _ _ _ _ _
 ·split
  ·split
   ·exact Nat.le_refl _
   ·exact endWith_up _ _ _ _
  ·simp only
   split
   ·exact Nat.le_refl _
   ·split
    ·rename_i h
     exact run_ok h
    ·trivial
   ·rw[up_after]
    split
    ·rename_i h;exact runT1_ok h
    ·rename_i h;exact runT1_ok h
    ·trivial
    ·rename_i h;exact up_mono (runT1_halt h) (endPrinting_up _ _ _ _)
    ·trivial
   ·trivial
theorem early_up (P:Program) (fr:Frame) (cs:List Frame) (d:Option Dying) (g:Nat) (w:World):Up w.drawn (early P fr cs d g w):=by
 have hn:∀ w':World,w.drawn≤w'.drawn→Up w.drawn (match w'.heap[g]? with
  | some (.pending c elem)=>
   .go { frame:=fr,callers:=cs,status:=.running,dying:=d } { w' with heap:=w'.heap.setIfInBounds g (.cells c elem) }
  | _=>.ended (.stuck "early: the variable does not wait" (fr.pos P)) w'):=fun w' h=>by
  split
  ·exact h
  ·trivial
 unfold early
 simp only
 repeat' split
 all_goals (first | exact trivial | exact Nat.le_refl _ | exact hn _ (Nat.le_refl _) | skip)
 all_goals (first | (rename_i h;have h9:=run_ok h;exact h9) | (rename_i h _;have h9:=run_ok h;exact h9) | (rename_i h _ _;have h9:=run_ok h;exact h9) | (rename_i h _ _ _;have h9:=run_ok h;exact h9) | (rename_i h _ _ _ _;have h9:=run_ok h;exact h9) | (rename_i h _ _ _ _ _;have h9:=run_ok h;exact h9) | (rename_i h _ _ _ _ _ _;have h9:=run_ok h;exact h9))
theorem doReturn_up (P:Program) (main:Bool) (fr:Frame) (cs:List Frame) (d:Option Dying) (v:Value) (w:World):Up w.drawn (doReturn P main fr cs d v w):=by
 unfold doReturn
 repeat' split
 all_goals (first | exact trivial | exact Nat.le_refl _)
theorem callDeferred_up (P:Program) (fr:Frame) (cs:List Frame) (dy:Option Dying) (d:Deferred) (w:World):Up w.drawn (callDeferred P fr cs dy d w):=by
 unfold callDeferred
 refine ite_up trivial ?_
 ·have:=runT_drawn P (invoke d.target d.args) w #[]
  simp only
  rw[up_after]
  generalize ((invoke d.target d.args).runT P w #[]).1=r at this ⊢
  repeat' split
  all_goals (first | exact trivial | exact this | exact up_mono this (endFatal_up _ _ _ _ _ _) | exact up_mono this (endThrow_up _ _ _))
theorem unwind_up (P:Program) (main:Bool) (fr:Frame) (cs:List Frame) (dy:Option Dying) (w:World):Up w.drawn (unwind P main fr cs dy w):=by
 unfold unwind
 split
 ·rename_i block _ _ _
  have:=runT_drawn P (Instr.takeDeferred block) w #[]
  simp only
  rw[up_after]
  generalize ((Instr.takeDeferred block).runT P w #[]).1=r at this ⊢
  split
  ·exact this
  ·trivial
 ·exact callDeferred_up _ _ _ _ _ _
 ·split
  ·trivial
  ·split
   ·trivial
   ·split
    ·exact Nat.le_refl _
    ·split
     ·split
      ·exact Nat.le_refl _
      ·split
       ·rename_i h
        exact run_ok h
       ·trivial
       ·trivial
     ·split
      ·exact endPrinting_up _ _ _ _
      ·trivial
  ·split
   ·exact doReturn_up _ _ _ _ _ _ _
   ·rename_i fn _
    have:=runT_drawn P (results fn fr.tmps) w #[]
    simp only
    rw[up_after]
    generalize ((results fn fr.tmps).runT P w #[]).1=r at this ⊢
    split
    ·exact up_mono this (doReturn_up _ _ _ _ _ _ _)
    ·trivial
    ·trivial
theorem apply_up (P:Program) (b:Bool) (fr:Frame) (cs:List Frame) (dy:Option Dying) (s:Sem Next) (w:World):Up w.drawn (stepG.apply P b fr cs dy s w):=by
 unfold stepG.apply
 have hr:w.drawn≤(rw' (if b=true then s.runT P w #[] else (s.run P w,#[])).1).drawn:=by
  split
  ·exact runT_drawn P s w #[]
  ·exact run_drawn P s w
 simp only
 rw[up_after]
 generalize (if b=true then s.runT P w #[] else (s.run P w,#[]))=x at hr ⊢
 obtain ⟨r,es⟩:=x
 simp only at hr ⊢
 split
 all_goals (try split)
 all_goals (first | exact trivial | exact hr | exact up_mono hr (endFatal_up _ _ _ _ _ _) | exact up_mono hr (endThrow_up _ _ _) | exact up_mono hr (early_up _ _ _ _ _ _) | exact ite_up (up_mono hr (endThrow_up _ _ _)) hr)
theorem oper_up (P:Program) (b:Bool) (fr:Frame) (cs:List Frame) (dy:Option Dying) (w:World):Up w.drawn (stepG.oper P b fr cs dy w):=by
 unfold stepG.oper
 split
 ·trivial
 ·split <;> exact apply_up _ _ _ _ _ _ _
theorem exec_up (P:Program) (main b:Bool) (fr:Frame) (cs:List Frame) (dy:Option Dying) (w:World):Up w.drawn (stepG.exec P main b fr cs dy w):=by
 unfold stepG.exec
 simp only
 split
 all_goals (try first | exact trivial | exact Nat.le_refl _ | exact apply_up _ _ _ _ _ _ _ | exact oper_up _ _ _ _ _ _)
 all_goals repeat' (first | exact trivial | exact Nat.le_refl _ | exact apply_up _ _ _ _ _ _ _ | exact oper_up _ _ _ _ _ _ | rw[up_after] | refine elim_up ?_ fun _=>?_ | split)
 all_goals (first | (exact up_mono (runT1_ok (by assumption)) (doReturn_up _ _ _ _ _ _ _)) | (exact up_mono (runT1_ok (by assumption)) (apply_up _ _ _ _ _ _ _)) | exact runT1_ok (by assumption) | exact runT1_halt (by assumption) | exact run_ok (by assumption))
theorem stepG_up (P:Program) (main:Bool) (g:Goroutine) (w:World) (b:Bool):Up w.drawn (stepG P main g w b):=by
 unfold stepG
 simp only
 split
 ·exact die_up _ _ _ _
 ·exact exec_up _ _ _ _ _ _ _
 ·exact unwind_up _ _ _ _ _ _
def UpS (n:Nat):Stepped→Prop
 | .next m=>n≤m.world.drawn
 | .ended _ _=>True
theorem upS_mono {n m:Nat} {s:Stepped} (h:n≤m) (hu:UpS m s):UpS n s:=by
 cases s <;> first | exact trivial | exact Nat.le_trans h hu
theorem look_up (P:Program) (gs:Array Goroutine) (rest:Rest) (w:World):UpS w.drawn (Go.look P gs rest w):=by
 unfold Go.look
 simp only
 repeat' split
 all_goals (first | exact trivial | (rename_i h;have h9:=run_ok h;exact h9) | (rename_i h _;have h9:=run_ok h;exact h9) | (rename_i h _ _;have h9:=run_ok h;exact h9) | (rename_i h _ _ _;have h9:=run_ok h;exact h9) | (rename_i h _ _ _ _;have h9:=run_ok h;exact h9) | (rename_i h _ _ _ _ _;have h9:=run_ok h;exact h9) | (rename_i h _ _ _ _ _ _;have h9:=run_ok h;exact h9))
theorem serve_up (P:Program) (m:Machine) (k:Nat):UpS m.world.drawn (serve P m k):=by
 unfold serve
 simp only
 repeat' split
 all_goals (first | exact trivial | exact Nat.le_refl _)
theorem drain_up (w:World) (c:Nat):w.drawn≤(drain w c).2.drawn:=by
 unfold drain
 split <;> exact Nat.le_refl _
theorem retime_up (m:Machine) (k:Nat) (t:Timer) (a b:Nat):m.world.drawn≤(retime m k t a b).2.world.drawn:=by
 unfold retime
 simp only
 split
 ·exact drain_up _ _
 ·exact Nat.le_refl _
theorem timerOp_up {m m':Machine} {op:TimerOp} {v:Value} (h:timerOp m op=.ok (v,m')):m.world.drawn≤m'.world.drawn:=by
 have hnm:∀ (m0:Machine) (var:Addr) (f:Nat→Timer→Value×Machine),(∀ k t,m.world.drawn≤(f k t).2.world.drawn)→timerOp.named m0 var f=.ok (v,m')→m.world.drawn≤m'.world.drawn:=fun m0 var f hf h=>by
  unfold timerOp.named at h
  split at h
  ·rename_i k _
   injection h with h
   have:=hf k (m0.rest.timers.getD k default)
   rw[h] at this
   exact this
  ·cases h
 unfold timerOp at h
 split at h
 ·split at h
  ·cases h;exact Nat.le_refl _
  ·split at h
   ·split at h
    ·cases h
    ·cases h;exact Nat.le_refl _
   ·cases h
 ·exact hnm _ _ _ (fun k t=>retime_up m k t _ _) h
 ·split at h
  ·rename_i m1 ho
   refine hnm _ _ _ (fun k t=>Nat.le_trans ?_ (retime_up m1 k t _ _)) h
   unfold timerOp.opened at ho
   split at ho
   ·split at ho
    ·cases ho;exact Nat.le_refl _
    ·cases ho
   ·cases ho;exact Nat.le_refl _
  ·cases h
 ·cases h;exact Nat.le_refl _
theorem communicate_up (P:Program) (rest:Rest) (gs:Array Goroutine) (i:Nat) (g:Goroutine) (cases_:Array CommCase) (b:Bool) (shape:CommShape) (w:World):UpS w.drawn (communicate P rest gs i g cases_ b shape w).1:=by
 unfold communicate
 simp only
 split
 ·trivial
 ·split
  ·split
   ·split
    ·rename_i h
     unfold waitingAt at h
     split at h
     ·split at h
      ·cases h;exact Nat.le_refl _
      ·cases h
     ·cases h;exact Nat.le_refl _
    ·trivial
   ·exact Nat.le_refl _
  ·split
   ·trivial
   ·rename_i hr
    have hr:=run_ok hr
    refine upS_mono hr ?_
    repeat' split
    all_goals (first | exact trivial | exact Nat.le_refl _ | (rename_i h;have h9:=run_ok h;exact h9) | (rename_i h _;have h9:=run_ok h;exact h9) | (rename_i h _ _;have h9:=run_ok h;exact h9) | (rename_i h _ _ _;have h9:=run_ok h;exact h9) | (rename_i h _ _ _ _;have h9:=run_ok h;exact h9) | (rename_i h _ _ _ _ _;have h9:=run_ok h;exact h9) | (rename_i h _ _ _ _ _ _;have h9:=run_ok h;exact h9) | (rename_i h;have h9:=run_halt h;exact h9) | (rename_i h _;have h9:=run_halt h;exact h9) | (rename_i h _ _;have h9:=run_halt h;exact h9) | (rename_i h _ _ _;have h9:=run_halt h;exact h9) | (rename_i h _ _ _ _;have h9:=run_halt h;exact h9) | (rename_i h _ _ _ _ _;have h9:=run_halt h;exact h9) | (rename_i h _ _ _ _ _ _;have h9:=run_halt h;exact h9))
theorem runT_up (P:Program) (m:Machine) (i:Nat) (b:Bool):UpS m.world.drawn (runT P m i b).1:=by
 unfold runT
 simp only
 generalize hs:stepG P (i==0) _ m.world b=s
 have hu:=stepG_up P (i==0) (m.gs.swapAt! i { (default:Goroutine) with status:=.finished }).1 m.world b
 rw[hs] at hu
 split
 ·trivial
 ·exact upS_mono hu (communicate_up _ _ _ _ _ _ _ _ _)
 ·exact hu
 ·exact hu
 ·split
  ·trivial
  ·exact hu
 ·exact hu
 ·exact upS_mono hu (look_up _ _ _ _)
 ·exact hu
 ·exact hu
 ·split
  ·exact hu
  ·split
   ·rename_i h
    cases h;exact hu
   ·trivial
  ·trivial
 ·split
  ·rename_i h
   have:=timerOp_up h
   exact Nat.le_trans hu this
  ·split
   ·rename_i h
    cases h;exact hu
   ·trivial
  ·trivial
  ·trivial
def UpM (n:Nat):Move→Prop
 | .goroutine m _=>n≤m.world.drawn
 | .machine s _=>UpS n s
theorem upM_mono {n m:Nat} {s:Move} (h:n≤m) (hu:UpM m s):UpM n s:=by
 cases s
 ·exact Nat.le_trans h hu
 ·exact upS_mono h hu
theorem pick_up (P:Program) (rs:List Nat) (m:Machine):UpM m.world.drawn (match (choose (.sched rs.length)).run P m.world with
   | .halt _ w=>.machine (.ended (.stuck "sched" "") w)
   | .ok k world=>
    if rs.length≤1 then .goroutine { m with world } (rs.getD k 0) else
    match (choose (.extern "sched.slice" 65536)).run P world with
    | .halt _ w=>.machine (.ended (.stuck "sched.slice" "") w)
    | .ok n world=>.goroutine { m with world,rest:={ m.rest with slice:=if n=0 then none else some (rs.getD k 0,n) } } (rs.getD k 0)):=by
 split
 ·trivial
 ·rename_i h1
  split
  ·exact run_ok h1
  ·split
   ·trivial
   ·rename_i h2
    exact Nat.le_trans (run_ok h1) (run_ok h2)
theorem askOn_up (P:Program) (m:Machine):UpM m.world.drawn (askOn P m):=by
 unfold askOn
 simp only
 split
 ·trivial
 ·rename_i world h
  have h0:=run_ok h
  split
  ·exact upS_mono h0 (serve_up P { m with world } _)
  ·split
   ·split
    ·exact h0
    ·split
     ·exact h0
     ·split <;> trivial
   ·split
    ·exact upM_mono h0 (pick_up P _ { m with world })
    ·split
     ·trivial
     ·rename_i h2
      have h3:=run_ok h2
      exact upM_mono (Nat.le_trans h0 h3) (pick_up P (runnable m.gs m.world.os.mono) { m with world:=_ })
     ·rename_i h2
      have h3:=run_ok h2
      exact Nat.le_trans h0 h3
     ·rename_i h2
      have h3:=run_ok h2
      exact upM_mono (Nat.le_trans h0 h3) (pick_up P (runnable m.gs m.world.os.mono) (Machine.advanceTo { m with world:=_ } _))
theorem ask_up (P:Program) (m:Machine):UpM m.world.drawn (ask P m):=by
 unfold ask
 split
 ·split
  ·trivial
  ·rename_i h
   have h1:=run_ok h
   have h2:=look_up P m.gs m.rest (by assumption)
   split
   ·rename_i h3
    rw[h3] at h2
    exact upM_mono (Nat.le_trans h1 h2) (askOn_up _ _)
   ·exact upS_mono h1 h2
  ·rename_i h
   exact upM_mono (run_ok h) (askOn_up _ _)
 ·exact askOn_up _ _
theorem move_up (P:Program) (m:Machine):UpM m.world.drawn (move P m):=by
 unfold move
 repeat' split
 all_goals (first | exact trivial | exact Nat.le_refl _ | exact ask_up _ _)
theorem step_up (P:Program) (m:Machine):UpS m.world.drawn (step P m):=by
 unfold step stepT
 have:=move_up P m
 split
 ·rename_i h
  rw[h] at this
  exact upS_mono this (runT_up _ _ _ _)
 ·rename_i h
  rw[h] at this
  exact this
theorem steps_up {P:Program} {m m':Machine} (h:Steps P m m'):m.world.drawn≤m'.world.drawn:=by
 obtain ⟨n,h⟩:=h
 induction n generalizing m with
 | zero=>simp only[runN,Stepped.next.injEq] at h;subst h;exact Nat.le_refl _
 | succ n ih=>
  simp only[runN] at h
  have:=step_up P m
  cases hst:step P m with
  | next m1=>
   rw[hst] at this h
   exact Nat.le_trans this (ih h)
  | ended o w=>
   rw[hst] at h
   cases h
theorem comes_up {P:Program} {m m':Machine} {v:Value} (h:Comes P m m' (.returned v)):m.world.drawn≤m'.world.drawn:=steps_up h
theorem calls_drawn {P:Program} {f:FuncId} {args:Array Value} {w:World} {R:Ending→World→Prop} (h:Calls P f args w R):Calls P f args w fun e w'=>R e w'∧∀ v,e=.returned v→w.drawn≤w'.drawn:=by
 intro cs
 obtain ⟨e,w',fr,h1,h2,h3⟩:=h cs
 refine ⟨e,w',fr,⟨h1,?_⟩,h2,h3⟩
 rintro v rfl
 exact comes_up h2
end Go.Sx

namespace Go.Sx
open Go.RowKit Go.Proofs Go.Sort
variable [Env]
theorem grow_of_below {w w':World} (h:Go.RowKit.Below w.heap.size w w') (hd:w.drawn≤w'.drawn):∃ q os,w'=grow (w.drewN q) os:=by
 refine ⟨w'.drawn - w.drawn,w'.heap.extract w.heap.size w'.heap.size,?_⟩
 have h1:w'.heap=w.heap++w'.heap.extract w.heap.size w'.heap.size:=by
  have hs:=h.size
  apply Array.ext_getElem?
  intro i
  by_cases hi:i<w.heap.size
  ·rw[h.block i hi,Array.getElem?_append_left hi]
  ·rw[Array.getElem?_append_right (by omega),Array.getElem?_extract]
   simp only[Nat.min_self]
   by_cases h2:i<w'.heap.size
   ·rw[if_pos (by omega)];congr 1;omega
   ·rw[if_neg (by omega)];exact Array.getElem?_eq_none (by omega)
 cases w'
 cases w
 simp only[grow,World.drewN] at *
 have e1:=h.os;have e2:=h.tape;have e3:=h.output
 simp only at e1 e2 e3
 subst e1;subst e2;subst e3
 rw[← h1]
 simp only[World.mk.injEq,true_and,and_true]
 omega
def Anti {α:Type} (cf:α→α→Int) (xs:List α):Prop:=∀ x∈xs,∀ y∈xs,¬ cf x y<0→¬ cf y x<0→x=y
def srtBy {α:Type} (cf:α→α→Int) (xs:List α):List α:=xs.mergeSort fun x y=>!decide (cf y x<0)
theorem pair_unique {α:Type} {le:α→α→Prop}:∀ {xs ys:List α},(∀ x∈xs,∀ y∈xs,le x y→le y x→x=y)→xs.Perm ys→xs.Pairwise le→ys.Pairwise le→xs=ys
 | [],ys,_,h,_,_=>by simpa using h
 | x :: xs,[],_,h,_,_=>by simp at h
 | x :: xs,y :: ys,ha,h,h1,h2=>by
  have hxy:x=y:=by
   have m1:x∈y :: ys:=h.subset (List.mem_cons_self ..)
   have m2:y∈x :: xs:=h.symm.subset (List.mem_cons_self ..)
   rcases List.mem_cons.1 m1 with rfl | m1
   ·rfl
   ·rcases List.mem_cons.1 m2 with rfl | m2
    ·rfl
    ·exact ha x (List.mem_cons_self ..) y (List.mem_cons_of_mem _ m2) ((List.pairwise_cons.1 h1).1 _ m2) ((List.pairwise_cons.1 h2).1 _ m1)
  subst hxy
  rw[pair_unique (fun a h3 b h4=>ha a (List.mem_cons_of_mem _ h3) b (List.mem_cons_of_mem _ h4)) (List.Perm.cons_inv h) (List.pairwise_cons.1 h1).2 (List.pairwise_cons.1 h2).2]
theorem srtBy_perm {α:Type} (cf:α→α→Int) (xs:List α):(srtBy cf xs).Perm xs:=List.mergeSort_perm _ _
theorem srtBy_sorted {α:Type} (cf:α→α→Int) (hO:SWO fun x y=>decide (cf x y<0)) (xs:List α):(srtBy cf xs).Pairwise fun x y=>¬ cf y x<0:=by
 have:=List.pairwise_mergeSort (le:=fun x y:α=>!decide (cf y x<0)) (fun a b c h1 h2=>by
  have:=hO.ntrans c b a
  simp_all) (fun a b=>by
  cases h:decide (cf b a<0) with
  | false=>simp
  | true=>
   cases h':decide (cf a b<0) with
   | false=>simp
   | true=>
    have:=hO.trans _ _ _ h h'
    rw[hO.irrefl] at this
    cases this) xs
 exact this.imp fun h=>by simpa using h
theorem srtBy_unique {α:Type} {cf:α→α→Int} (hO:SWO fun x y=>decide (cf x y<0)) {xs ys:List α} (ha:Anti cf xs) (hp:ys.Perm xs) (hs:ys.Pairwise fun x y=>¬ cf y x<0):ys=srtBy cf xs:=by
 refine pair_unique (le:=fun x y=>¬ cf y x<0) (fun x hx y hy h1 h2=>?_) (hp.trans (srtBy_perm cf xs).symm) hs (srtBy_sorted cf hO xs)
 exact ha x (hp.subset hx) y (hp.subset hy) h2 h1
theorem fits_map1 {n:Nat} {ρ:Rh} {l:List SV} {v:List Value} (h:l.all SV.one=true) (hf:SV.fits n ρ l v):∀ x∈v,x.oneCell'=true:=by
 induction l generalizing v with
 | nil=>have:=fits_nil hf;subst this;simp
 | cons s l ih=>
  obtain ⟨x,r,rfl,h1,h2⟩:=fits_cons hf
  simp only[List.all_cons,Bool.and_eq_true] at h
  intro y hy
  rcases List.mem_cons.1 hy with rfl | hy
  ·exact SV.one_fit h.1 h1
  ·exact ih h.2 h2 y hy
section
variable {P:Program} {ρ:Go.Shelf.Ren} {α:Type} {A:El α} {t g:Nat} {cf:α→α→Int} {pre:α×α→List Prop}
set_option maxHeartbeats 1000000 in
theorem sort_mut (L:SlLaysF0.n6 P ρ) (aE:∀ w,(isAgg (ρ.t 24)).run P w=.ok true w) (zE:∀ w,(Go.sizeOf (ρ.t 24)).run P w=.ok A.sz w) (hz:0<A.sz) (eg:∀ args w,(callFunc g args).run P w=.ok (.enter g args) w)
  (hO:SWO fun x y=>decide (cf x y<0)) (hcmp:FnPure P g (DA.cons (Dv.agg A) (DA.one (Dv.agg A))) (dInt .i64) (fun x=>cf x.1 x.2) pre) :
  FnMut P (ρ.f 6) t A (DA.one (dFn g)) (RM.pure (Dv.tup DA.none)) (fun xs _=>(srtBy cf xs,())) (fun xs _=>[xs.length<4611686018427387904,Anti cf xs,∀ x∈xs,∀ y∈xs,∀ p∈pre (x,y),p]):=by
 intro w F Lc0 xs _ v0 vs hF hE hFo hv0 hpre hrow hfit
 have hlen:=hpre _ (List.mem_cons_self ..)
 have hanti:=hpre _ (List.mem_cons_of_mem _ (List.mem_cons_self ..))
 have hpp:=hpre _ (List.mem_cons_of_mem _ (List.mem_cons_of_mem _ (List.mem_cons_self ..)))
 obtain ⟨vf,r,rfl,hvf,hr⟩:=fits_cons hfit
 have:=fits_nil hr
 subst this
 obtain ⟨lf,rfl,hlf⟩:=hvf
 have:=fits_nil hlf
 subst this
 cases hxs:xs with
 | nil=>
  subst hxs
  have hv:∃ p c,v0=.slice p 0 c:=by
   rcases hv0 with ⟨_,_,a,rfl⟩ | ⟨_,rfl⟩
   ·exact ⟨_,_,rfl⟩
   ·exact ⟨_,_,rfl⟩
  obtain ⟨p,c,rfl⟩:=hv
  refine (AnyF.slices_SortFunc_none L p c (.func (.func g) #[] #[]) w).mono ?_
  rintro e w' ⟨rfl,rfl⟩
  refine ⟨_,rfl,⟨rfl,rfl,rfl,Nat.le_refl _,fun _ _ _=>rfl⟩,?_,fun m i ρ' _ _ _=>⟨[],rfl,trivial⟩⟩
  have:srtBy cf ([]:List α)=[]:=by simp[srtBy]
  simp only[this]
  exact rowA_cl A (ρ:=emp F) (fun b o h=>by
   simp only[emp,memAt]
   have:=(Array.getElem?_eq_some_iff.1 (hF b o h)).1
   rw[if_pos this];exact h) hrow
 | cons x0 xs0=>
  have hpos:0<xs.length:=by rw[hxs];simp
  rw[← hxs]
  rcases hv0 with ⟨_,h0,_⟩ | ⟨hnl,rfl⟩
  ·omega
  rcases hrow.2 with ⟨h0,_⟩ | ⟨_,hoff,c,fz,hob,hfz,hcs,hmc,hcm,hall⟩
  ·rw[hnl] at h0;cases h0
  have hblk:Lc0.blk<w.heap.size:=(Array.getElem?_eq_some_iff.1 hob).1
  let β:Type:={ p:α×List Value // p.1∈xs∧p.2.length=A.sz∧SV.fits 0 (emp F) (A.cells p.1) p.2 }
  have hcell:∀ i (hi:i<xs.length),∃ l:List Value,l.length=A.sz∧SV.fits 0 (emp F) (A.cells xs[i]) l∧∀ j x,l[j]?=some x→c[i * A.sz+j]?=some x:=fun i hi=>by
   obtain ⟨l,q1,q2,q3⟩:=hall i hi
   refine ⟨l,q1,?_,fun j x h=>by simpa using q3 j x h⟩
   have e0:A.els xs i=A.cells xs[i]:=by simp[El.els,List.getD_eq_getElem?_getD,hi]
   rw[← e0]
   exact q2
  let mk:Fin xs.length→β:=fun i=>⟨(xs[i],Classical.choose (hcell i i.2)),List.getElem_mem _,(Classical.choose_spec (hcell i i.2)).1,(Classical.choose_spec (hcell i i.2)).2.1⟩
  letI:Inhabited β:=⟨mk ⟨0,hpos⟩⟩
  let d:Array β:=Array.ofFn mk
  have hds:d.size=xs.length:=by simp[d]
  have hdi:∀ i (hi:i<xs.length),d[i]! = mk ⟨i,hi⟩:=fun i hi=>by
   rw[getElem!_pos d i (by omega)]
   simp[d]
  let enc:β→List Value:=fun x=>x.1.2
  let cf':β→β→Int:=fun x y=>cf x.1.1 y.1.1
  have hO':SWO (ltOf cf'):={ irrefl:=fun x=>hO.irrefl x.1.1,trans:=fun x y z=>hO.trans x.1.1 y.1.1 z.1.1,ntrans:=fun x y z=>hO.ntrans x.1.1 y.1.1 z.1.1 }
  have hkl:∀ x,(enc x).length=A.sz:=fun x=>x.2.2.1
  have hflat:∀ j,j<xs.length * A.sz→c[j]?=some (flatK enc A.sz d)[j]!:=fun j hj=>by
   rw[get_flatK _ _ _ _ (by rw[hds];exact hj)]
   have hdv:j / A.sz<xs.length:=Nat.div_lt_of_lt_mul (by rw[Nat.mul_comm];exact hj)
   rw[hdi _ hdv]
   have hspec:=(Classical.choose_spec (hcell (j / A.sz) hdv)).2.2 (j % A.sz)
   have hl:(Classical.choose (hcell (j / A.sz) hdv)).length=A.sz:=(Classical.choose_spec (hcell (j / A.sz) hdv)).1
   have hm:j % A.sz<A.sz:=Nat.mod_lt _ hz
   have:=hspec (Classical.choose (hcell (j / A.sz) hdv))[j % A.sz] (by rw[List.getElem?_eq_getElem])
   rw[Nat.div_add_mod'] at this
   rw[this]
   show some _=some ((enc (mk ⟨j / A.sz,hdv⟩))[j % A.sz]!)
   rw[getElem!_pos]
  have hsz:(flatK enc A.sz d).size=xs.length * A.sz:=by rw[size_flatK,hds]
  have hcb:xs.length * A.sz≤c.size:=by rw[hcs];exact Nat.mul_le_mul_right _ hmc
  have hH:HoldsK enc A.sz w Lc0.blk 0 d:=by
   intro j hj
   rw[hsz] at hj
   constructor
   ·simp only[World.cell?,hob,Option.isSome_none,Bool.false_eq_true,if_false,id_eq,Nat.zero_add]
    exact hflat j hj
   ·simp only[World.frozen?,hob,Nat.zero_add]
    have:=hfz j (by omega)
    simp only[Bool.and_eq_false_iff,decide_eq_false_iff_not]
    exact Classical.not_and_iff_not_or_not.1 this
  have hmem:∀ (m:Nat) (dk:Array β) (os:Array Obj) b o,F b=some o→(sortWorldK enc A.sz w Lc0.blk 0 m dk os).heap[b]?=some o:=fun m dk os b o hb=>by
   have hne:b≠Lc0.blk:=by
    rintro rfl
    rw[hFo _ ⟨hnl,rfl⟩] at hb;cases hb
   have hlt:=(Array.getElem?_eq_some_iff.1 (hF b o hb)).1
   simp only[sortWorldK,grow,putRowK,putRow,mapBlock]
   rw[Array.getElem?_append_left (by simpa using hlt),Array.getElem?_modify,if_neg (fun h=>hne h.symm)]
   exact hF b o hb
  have hC:CmpLays P g #[] enc A.sz cf' Lc0.blk 0 d.size w:=by
   intro m os dk _ x y
   have hfx:∀ x:β,(SV.agg (A.cells x.1.1)).fit 0 (emp F) (.agg (enc x).toArray):=fun x=>⟨_,rfl,x.2.2.2⟩
   have:=calls_drawn (hcmp (sortWorldK enc A.sz w Lc0.blk 0 m dk os) F (x.1.1,y.1.1) [.agg (enc x).toArray,.agg (enc y).toArray] (hmem m dk os) hE (hpp _ x.2.1 _ y.2.1) ⟨hfx x,hfx y,trivial⟩)
   refine this.mono ?_
   rintro e w' ⟨⟨x',rfl,hb,hx⟩,hd⟩
   exact ⟨by have hx:x'=_:=hx;rw[hx],grow_of_below hb (hd _ rfl)⟩
  have hmain:=AnyQ.slices_SortFunc L A.sz aE zE enc hkl (fun x v hv=>fits_map1 (A.one x.1.1) x.2.2.2 v hv) cf' hO' g #[] Lc0.blk 0 Lc0.cap d w eg hC hH hblk (by rw[hds];exact hlen)
  rw[hds] at hmain
  refine hmain.mono ?_
  rintro e w' ⟨rfl,d',n,os,hp,hs,rfl⟩
  have hd's:d'.size=xs.length:=hp.1.trans hds
  have hys:d'.toList.map (fun x=>x.1.1)=srtBy cf xs:=by
   apply srtBy_unique hO hanti
   ·have h1:=hp.2.2
    have e1:d'.extract 0 xs.length=d':=by rw[← hd's];simp
    have e2:d.extract 0 xs.length=d:=by rw[← hds];simp
    rw[e1,e2] at h1
    have h2:=h1.map (fun x:β=>x.1.1)
    have e3:d.toList.map (fun x:β=>x.1.1)=xs:=by
     apply List.ext_getElem
     ·simp[hds]
     ·intro i h1 h2
      simp[d,mk]
    rw[e3] at h2
    exact h2
   ·rw[List.pairwise_map,List.pairwise_iff_getElem]
    intro i j hi hj hij
    have hi':i<d'.size:=by simpa using hi
    have hj':j<d'.size:=by simpa using hj
    have:=hs i j (Nat.zero_le _) hij (by omega)
    rw[getElem!_pos d' i hi',getElem!_pos d' j hj'] at this
    simpa [ltOf,cf'] using this
  have hblock:∀ k,k<w.heap.size→k≠Lc0.blk→(sortWorldK enc A.sz w Lc0.blk 0 n d' os).heap[k]?=w.heap[k]?:=fun k hk hne=>by
   simp only[sortWorldK,grow,putRowK,putRow,mapBlock]
   rw[Array.getElem?_append_left (by simpa using hk),Array.getElem?_modify,if_neg (fun h=>hne h.symm)]
   rfl
  have hnew:(sortWorldK enc A.sz w Lc0.blk 0 n d' os).heap[Lc0.blk]?=some (.cells (putCells id 0 (flatK enc A.sz d') c) t fz):=by
   simp only[sortWorldK,grow,putRowK,putRow,mapBlock]
   rw[Array.getElem?_append_left (by simpa using hblk),Array.getElem?_modify,if_pos rfl]
   show (w.heap[Lc0.blk]?).map _=_
   rw[hob]
   rfl
  have hle:w.heap.size≤(sortWorldK enc A.sz w Lc0.blk 0 n d' os).heap.size:=size_sortWorldK_c enc A.sz w Lc0.blk 0 n d' os
  refine ⟨_,rfl,⟨rfl,rfl,rfl,hle,fun k hk hB=>hblock k hk fun h=>hB ⟨hnl,h⟩⟩,?_,fun m i ρ' _ _ _=>⟨[],rfl,trivial⟩⟩
  have hylen:(srtBy cf xs).length=xs.length:=(srtBy_perm cf xs).length_eq
  have hmF:∀ b o,F b=some o→memAt F w (sortWorldK enc A.sz w Lc0.blk 0 n d' os) b=some o:=fun b o h=>by
   simp only[memAt]
   rw[if_pos (Array.getElem?_eq_some_iff.1 (hF b o h)).1];exact h
  refine ⟨by rw[hylen];exact hrow.1,.inr ⟨hnl,hoff,_,fz,hnew,by simpa [putCells] using hfz,by simpa [putCells] using hcs,by rw[hylen];exact hmc,hcm,fun e he=>?_⟩⟩
  rw[hylen] at he
  have hed:e<d'.size:=by omega
  refine ⟨enc d'[e],hkl _,?_,fun j x hx=>?_⟩
  ·have h1:(srtBy cf xs).getD e A.dflt=d'[e].1.1:=by
    rw[← hys,List.getD_eq_getElem?_getD]
    simp[hed]
   show SV.fits 0 _ (A.cells ((srtBy cf xs).getD e A.dflt)) _
   rw[h1]
   exact A.cl _ _ _ (emp F) _ _ hmF d'[e].2.2.2
  ·have hj:j<A.sz:=by
    have:=(List.getElem?_eq_some_iff.1 hx).1
    rw[hkl] at this;exact this
   have hlt:e * A.sz+j<xs.length * A.sz:=by
    have:=Nat.mul_le_mul_right A.sz (show e+1≤xs.length from he)
    rw[Nat.add_mul,Nat.one_mul] at this;omega
   have hcz:e * A.sz+j<c.size:=by omega
   simp only[putCells,Nat.zero_add,Array.getElem?_mapIdx,Array.getElem?_eq_getElem hcz,Option.map_some]
   rw[if_pos ⟨Nat.zero_le _,by rw[size_flatK,hd's];exact hlt⟩,Nat.sub_zero,id_eq,get_flatK _ _ _ _ (by rw[hd's];exact hlt)]
   have e1:(e * A.sz+j) / A.sz=e:=by
    rw[Nat.mul_comm,Nat.mul_add_div hz,Nat.div_eq_of_lt hj];rfl
   have e2:(e * A.sz+j) % A.sz=j:=by
    rw[Nat.mul_comm,Nat.mul_add_mod,Nat.mod_eq_of_lt hj]
   rw[e1,e2,getElem!_pos d' e hed]
   have hj2:j<(enc d'[e]).length:=by rw[hkl];exact hj
   rw[getElem!_pos (enc d'[e]) j hj2]
   rw[List.getElem?_eq_getElem hj2] at hx
   exact hx
end
end Go.Sx

namespace Go.Lp
open Go.Sx Go.Sort
variable [Env]
section
variable {α:Type} [DecidableEq α] {cf:α→α→Int}
structure TO (cf:α→α→Int):Prop where
 swo:SWO fun x y=>decide (cf x y<0)
 anti:∀ x y,¬ cf x y<0→¬ cf y x<0→x=y
theorem TO.irrefl (h:TO cf) (x:α):¬ cf x x<0:=by have:=h.swo.irrefl x;simpa using this
theorem TO.trans (h:TO cf) {x y z:α} (h1:cf x y<0) (h2:cf y z<0):cf x z<0:=by
 have:=h.swo.trans x y z (by simpa using h1) (by simpa using h2)
 simpa using this
theorem TO.asymm (h:TO cf) {x y:α} (h1:cf x y<0):¬ cf y x<0:=fun h2=>h.irrefl x (h.trans h1 h2)
theorem TO.lt_or (h:TO cf) {x y:α} (hne:x≠y) (h1:¬ cf x y<0):cf y x<0:=Classical.byContradiction fun h2=>hne (h.anti x y h1 h2)
end
end Go.Lp

namespace Go.Lp
open Go.Sx Go.Sort
variable [Env]
def lexC:List Int→List Int→Int
 | [],[]=>0
 | [],_ :: _=>-1
 | _ :: _,[]=>1
 | x :: r,y :: s=>if x<y then -1 else if y<x then 1 else lexC r s
theorem lex_irrefl:∀ x:List Int,¬ lexC x x<0
 | []=>by simp[lexC]
 | x :: r=>by simp only[lexC];rw[if_neg (by omega),if_neg (by omega)];exact lex_irrefl r
theorem lex_trans:∀ x y z:List Int,lexC x y<0→lexC y z<0→lexC x z<0
 | [],[],_,h,_=>by simp[lexC] at h
 | [],_ :: _,[],_,h=>by simp[lexC] at h
 | [],_ :: _,_ :: _,_,_=>by simp[lexC]
 | _ :: _,[],_,h,_=>by simp[lexC] at h
 | _ :: _,_ :: _,[],_,h=>by simp[lexC] at h
 | x :: r,y :: s,z :: t,h1,h2=>by
  simp only[lexC] at h1 h2 ⊢
  by_cases a:x<y
  ·by_cases b:y<z
   ·rw[if_pos (by omega)];omega
   ·rw[if_neg b] at h2
    by_cases c:z<y
    ·rw[if_pos c] at h2;omega
    ·rw[if_pos (by omega)];omega
  ·rw[if_neg a] at h1
   by_cases b:y<x
   ·rw[if_pos b] at h1;omega
   ·rw[if_neg b] at h1
    have:x=y:=by omega
    subst this
    by_cases c:x<z
    ·rw[if_pos c];omega
    ·rw[if_neg c] at h2 ⊢
     by_cases d:z<x
     ·rw[if_pos d] at h2;omega
     ·rw[if_neg d] at h2 ⊢
      exact lex_trans r s t h1 h2
theorem lex_anti:∀ x y:List Int,¬ lexC x y<0→¬ lexC y x<0→x=y
 | [],[],_,_=>rfl
 | [],_ :: _,h,_=>by simp[lexC] at h
 | _ :: _,[],_,h=>by simp[lexC] at h
 | x :: r,y :: s,h1,h2=>by
  simp only[lexC] at h1 h2
  by_cases a:x<y
  ·rw[if_pos a] at h1;omega
  ·rw[if_neg a] at h1
   by_cases b:y<x
   ·rw[if_pos b] at h2;omega
   ·rw[if_neg b] at h1 h2
    rw[if_neg a] at h2
    rw[lex_anti r s h1 h2]
    congr 1
    omega
theorem lex_tot {x y:List Int} (h:¬ lexC x y<0):x=y∨lexC y x<0:=by
 by_cases h2:lexC y x<0
 ·exact .inr h2
 ·exact .inl (lex_anti x y h h2)
theorem to_lex {α:Type} (key:α→List Int) (hk:∀ a b,key a=key b→a=b) {cf:α→α→Int} (he:∀ a b,cf a b<0↔lexC (key a) (key b)<0):TO cf where
 swo:={
  irrefl:=fun x=>by simp only[decide_eq_false_iff_not,he];exact lex_irrefl _
  trans:=fun x y z h1 h2=>by
   simp only[decide_eq_true_eq,he] at *
   exact lex_trans _ _ _ h1 h2
  ntrans:=fun x y z h1 h2=>by
   simp only[decide_eq_false_iff_not,he] at *
   intro h3
   rcases lex_tot h1 with e | e
   ·rw[e] at h3;exact h2 h3
   ·exact h2 (lex_trans _ _ _ e h3) }
 anti:=fun x y h1 h2=>by
  rw[he] at h1 h2
  exact hk _ _ (lex_anti _ _ h1 h2)
end Go.Lp

namespace Go.Sx
variable [Env]
section
variable {P:Program} {Γ:Gam} {Λ:Lam} {N:Nat} {γ:Type}
end
end Go.Sx

namespace Go.Sx
variable [Env]
section
variable {α:Type} (A:El α)
def El.ag (l:List α):List α:=A.lst l.length (A.els l)
def El.okL (l:List α):Prop:=∀ e,e<l.length→A.Ok (A.els l e)
@[simp] theorem El.ag_eq (l:List α):A.ag l=l:=A.lst_els l
@[simp] theorem El.okL_eq (l:List α):A.okL l=True:=eq_true fun e _=>A.ok_els l e
end
end Go.Sx

namespace Go.Sx
open Go.RowKit
variable [Env]
end Go.Sx

namespace Go.Sx
open Go.RowKit Go.ChangeShapes Go.WideShapes Go.ChangeAt Go.Deep
variable [Env]
theorem add_none (b o n:Nat):(⟨b,o,none⟩:Addr).add n=⟨b,o+n,none⟩:=by
 by_cases h:n=0
 ·subst h;simp[Addr.add]
 ·simp[Addr.add,h]
abbrev wh (w:World):Rh:=emp fun b=>w.heap[b]?
def Rd {α:Type} (P:Program) (t:TypeId) (A:El α) (Q:α→Prop):Prop:=
 ∀ (H:Type) (enc:TypeId×Value→H) (w:World) (base:Nat) (spare:Nat→Bool) (held:Bool) (fuel:Nat) (cs:List Value) (x:DataW H×List MemPlace),
  DataW.trod enc P w base spare held fuel t cs=some x→∃ a,Q a∧SV.fits 0 (wh w) (A.cells a) cs
section
variable {H:Type} (enc:TypeId×Value→H) (P:Program) (w:World) (base:Nat) (spare:Nat→Bool) (held:Bool) (fuel:Nat)
def Cut:List TypeId→List Value→Prop
 | [],cs=>cs=[]
 | t :: ts,cs=>(∃ x,DataW.trod enc P w base spare held fuel t (cs.take (P.cellsOf t))=some x)∧Cut ts (cs.drop (P.cellsOf t))
def consec:Nat→List (Nat×TypeId)→Nat→Bool
 | o,[],n=>Nat.beq o n
 | o,p :: r,n=>Nat.beq p.1 o&&consec (o+P.cellsOf p.2) r n
theorem cut_of (cs:List Value):∀ (fs:List (Nat×TypeId)) (o:Nat),consec P o fs cs.length=true→(∀ p∈fs,∃ x,DataW.trod enc P w base spare held fuel p.2 ((cs.drop p.1).take (P.cellsOf p.2))=some x)→Cut enc P w base spare held fuel (fs.map (·.2)) (cs.drop o)
 | [],o,hc,_=>by
  have:=beq_of hc
  show cs.drop o=[]
  exact List.drop_eq_nil_of_le (by omega)
 | p :: r,o,hc,h=>by
  simp only[consec,Bool.and_eq_true] at hc
  have h0:=beq_of hc.1
  refine ⟨?_,?_⟩
  ·have:=h p (List.mem_cons_self ..)
   rwa [h0] at this
  ·have:=cut_of cs r (o+P.cellsOf p.2) hc.2 fun q hq=>h q (List.mem_cons_of_mem _ hq)
   rwa [List.drop_drop]
end
def Rds {α:Type} (P:Program) (ts:List TypeId) (A:El α) (Q:α→Prop):Prop:=
 ∀ (H:Type) (enc:TypeId×Value→H) (w:World) (base:Nat) (spare:Nat→Bool) (held:Bool) (fuel:Nat) (cs:List Value),
  Cut enc P w base spare held fuel ts cs→∃ a,Q a∧SV.fits 0 (wh w) (A.cells a) cs
section
variable {P:Program} {t e:TypeId} {α β:Type} {A:El α} {B:El β} {Q:α→Prop} {Q':β→Prop}
theorem rds_one (h:Rd P t A Q):Rds P [t] A Q:=fun H enc w base spare held fuel cs hc=>by
 obtain ⟨⟨x,hx⟩,hd⟩:=hc
 have hd:cs.drop (P.cellsOf t)=[]:=hd
 have h2:=List.take_append_drop (P.cellsOf t) cs
 rw[hd,List.append_nil] at h2
 rw[h2] at hx
 exact h H enc w base spare held fuel cs x hx
theorem rds_cons {ts:List TypeId} (h:Rd P t A Q) (h':Rds P ts B Q'):Rds P (t :: ts) (.pair A B) (fun a=>Q a.1∧Q' a.2):=fun H enc w base spare held fuel cs hc=>by
 obtain ⟨⟨x,hx⟩,hd⟩:=hc
 obtain ⟨a,qa,fa⟩:=h H enc w base spare held fuel _ x hx
 obtain ⟨b,qb,fb⟩:=h' H enc w base spare held fuel _ hd
 refine ⟨(a,b),⟨qa,qb⟩,?_⟩
 have:=fits_append fa fb
 rwa [List.take_append_drop] at this
theorem rd_iso (h:Rd P t A Q) (f:α→β) (g:β→α) (hfg:∀ b,f (g b)=b) (hgf:∀ a,g (f a)=a):Rd P t (A.iso f g hfg hgf) (fun b=>Q (g b)):=fun H enc w base spare held fuel cs x hx=>by
 obtain ⟨a,qa,fa⟩:=h H enc w base spare held fuel cs x hx
 refine ⟨f a,(show Q (g (f a)) by rwa [hgf]),?_⟩
 show SV.fits 0 _ (A.cells (g (f a))) cs
 rwa [hgf]
theorem rd_int {k:IntKind} (ht:P.underlying t=some (.int k)):Rd P t (eInt k) (fun n=>(Lit.int k n).wf=true):=fun H enc w base spare held fuel cs x hx=>by
 obtain ⟨n,rfl,_,hw⟩:=DataW.trod_int ht hx
 exact ⟨n,hw,by simp[eInt,El.one',dInt,SV.fits,SV.fit]⟩
theorem rd_struct {fs:Array Field} {ts:List TypeId} (ht:P.underlying t=some (.struct fs)) (hts:fs.toList.map (·.type)=ts) (hc:consec P 0 (fs.toList.map fun f=>(f.offset,f.type)) (P.cellsOf t)=true) (h:Rds P ts A Q):Rd P t A Q:=fun H enc w base spare held fuel cs x hx=>by
 obtain ⟨xs,n,rfl,_,hl,hxl,hf⟩:=DataW.trod_struct ht hx
 rw[← hl] at hc
 have:=cut_of enc P w base spare held n cs _ 0 hc fun p hp=>by
  obtain ⟨f,hfm,rfl⟩:=List.mem_map.1 hp
  obtain ⟨i,hi,rfl⟩:=List.getElem_of_mem hfm
  have hi':i<fs.size:=by simpa using hi
  have:=hf i fs[i] (by simp[hi'])
  exact ⟨xs[i]'(by omega),by simpa [hxl,hi'] using this⟩
 rw[List.map_map,List.drop_zero] at this
 refine h H enc w base spare held n cs ?_
 rw[← hts]
 exact this
theorem rd_array {n:Nat} {ts:List TypeId} (ht:P.underlying t=some (.array n e)) (hts:((List.range n).map fun _=>e)=ts) (hc:consec P 0 ((List.range n).map fun i=>(i * P.cellsOf e,e)) (P.cellsOf t)=true) (h:Rds P ts A Q):Rd P t A Q:=fun H enc w base spare held fuel cs x hx=>by
 obtain ⟨xs,m,rfl,_,hl,hxl,hf⟩:=DataW.trod_array ht hx
 rw[← hl] at hc
 have:=cut_of enc P w base spare held m cs _ 0 hc fun p hp=>by
  obtain ⟨i,hi,rfl⟩:=List.mem_map.1 hp
  have hi':i<n:=by simpa using hi
  have:=hf i hi'
  exact ⟨xs[i]'(by omega),by rw[this];simp[hxl,hi']⟩
 rw[List.map_map,List.drop_zero] at this
 refine h H enc w base spare held m cs ?_
 rw[← hts]
 exact this
end
def RdV {α:Type} (P:Program) (t:TypeId) (D:Dv α) (Q:α→Prop):Prop:=
 ∀ (H:Type) (enc:TypeId×Value→H) (w:World) (base:Nat) (spare:Nat→Bool) (held:Bool) (r:Reach) (b0:Nat) (v:Value) (d:DataW H) (ps:List MemPlace),
  Value.okWide P w r b0 t v→DataW.Trod enc P w base spare held t v d ps→∃ a,Q a∧(D.enc a).fit 0 (wh w) v
section
variable {P:Program} {t e:TypeId} {α β:Type} {A:El α} {Q:α→Prop}
theorem rdv_int {k:IntKind} (ht:P.underlying t=some (.int k)):RdV P t (dInt k) (fun n=>(Lit.int k n).wf=true):=fun H enc w base spare held r b0 v d ps hv hx=>by
 obtain ⟨n,rfl,_,_,hw⟩:=open_int ht hv hx
 exact ⟨n,hw,by simp[dInt,SV.fit]⟩
theorem rdv_struct {fs:Array Field} (ht:P.underlying t=some (.struct fs)) (h:Rd P t A Q):RdV P t (.agg A) Q:=fun H enc w base spare held r b0 v d ps hv hx=>by
 obtain ⟨cs,rfl,_⟩:=okWide_struct ht hv
 obtain ⟨fuel,hf⟩:=hx
 obtain ⟨a,qa,fa⟩:=h H enc w base spare held fuel _ _ hf
 exact ⟨a,qa,cs.toList,by simp,by simpa [Value.cells] using fa⟩
theorem rdv_slice (ht:P.underlying t=some (.slice e)) (hs:P.cellsOf e=A.sz) (hz:0<A.sz) (h:Rd P e A Q):RdV P t (.list A) (fun xs=>∀ a∈xs,Q a):=fun H enc w base spare held r b0 v d ps hv hx=>by
 obtain ⟨a0,len0,cap0,rfl⟩:=okWide_slice ht hv
 obtain ⟨fuel,hf⟩:=hx
 rcases open_slice ht hf with ⟨hcs,_⟩ | ⟨a,len,cap,m,n,D,Pl,hcs,hb,hl,hm,hmm,_,hel⟩
 ·simp[Value.cells] at hcs
  obtain ⟨rfl,rfl,rfl⟩:=hcs
  exact ⟨[],by simp,rs_nil _ _⟩
 ·simp[Value.cells] at hcs
  obtain ⟨rfl,rfl,rfl⟩:=hcs
  have hle:len0≤m:=by subst hmm;split <;> omega
  have key:∀ i,i<len0→∃ x:α,Q x∧∃ cs',cs'.length=A.sz∧SV.fits 0 (wh w) (A.cells x) cs'∧∀ j,j<A.sz→w.cell? ((a.add (i * A.sz)).add j)=cs'[j]?:=fun i hi=>by
   obtain ⟨cs',h1,h2⟩:=hel i (by omega)
   obtain ⟨x,qx,fx⟩:=h H enc w base spare held n cs' _ h2
   rw[hs] at h1
   obtain ⟨_,h3,h4⟩:=World.cells?_some h1
   exact ⟨x,qx,cs',h3,fx,h4⟩
  haveI:Inhabited α:=⟨A.dflt⟩
  obtain ⟨f,hf⟩:=choose_lt (α:=α) (fun i hi=>key i hi)
  refine ⟨(List.range len0).map f,?_,?_⟩
  ·intro x hx
   obtain ⟨i,hi,rfl⟩:=List.mem_map.1 hx
   exact (hf i (by simpa using hi)).1
  ·simp only[Dv.list,SV.fit]
   refine ⟨some a,cap0,by simp,by simpa using hl,hm,fun hpos=>?_⟩
   have hpos:0<len0:=by simpa using hpos
   obtain ⟨_,cs0,q1,q2,q3⟩:=hf 0 hpos
   have q4:=q3 0 hz
   obtain ⟨b,o,spot⟩:=a
   have hsome:∃ v0,cs0[0]?=some v0:=⟨cs0[0]'(by omega),by simp⟩
   obtain ⟨v0,hv0⟩:=hsome
   rw[hv0] at q4
   have hspot:spot=none:=by simpa [Addr.add] using World.cell?_spot q4
   subst hspot
   have hblk:∃ cs t fz,w.heap[b]?=some (.cells cs t fz):=by
    simp only[add_none,World.cell?] at q4
    split at q4
    ·rename_i c _ _ hh
     exact ⟨_,_,_,hh⟩
    ·cases q4
   obtain ⟨cs,t',fz,hh⟩:=hblk
   refine ⟨b,o,cs,t',fz,rfl,hh,fun i hi=>?_⟩
   have hi:i<len0:=by simpa using hi
   obtain ⟨_,cs',k1,k2,k3⟩:=hf i hi
   refine ⟨cs',k1,?_,fun j v hjv=>?_⟩
   ·simpa [El.els,List.getD_eq_getElem?_getD,hi] using k2
   ·have hj:j<A.sz:=by
     have:=(List.getElem?_eq_some_iff.1 hjv).1
     omega
    have:=k3 j hj
    rw[hjv] at this
    simp only[add_none,World.cell?,hh] at this
    simpa using this
end
end Go.Sx

namespace Go.Sx
open Go.RowKit Go.ChangeShapes Go.WideShapes Go.ChangeAt Go.Deep
variable [Env]
section
variable {P:Program} {t e:TypeId} {α:Type} {A:El α} {Q:α→Prop}
theorem rd_slice (ht:P.underlying t=some (.slice e)) (hs:P.cellsOf e=A.sz) (hz:0<A.sz) (h:Rd P e A Q):Rd P t (eList A) (fun xs=>∀ a∈xs,Q a):=fun H enc w base spare held fuel cs0 x hf=>by
 rcases open_slice ht hf with ⟨rfl,_⟩ | ⟨a,len0,cap0,m,n,D,Pl,rfl,hb,hl,hm,hmm,_,hel⟩
 ·exact ⟨[],by simp,rs_nil _ _,trivial⟩
 ·have hcap:True:=trivial
  have hle:len0≤m:=by subst hmm;split <;> omega
  have key:∀ i,i<len0→∃ x:α,Q x∧∃ cs',cs'.length=A.sz∧SV.fits 0 (wh w) (A.cells x) cs'∧∀ j,j<A.sz→w.cell? ((a.add (i * A.sz)).add j)=cs'[j]?:=fun i hi=>by
   obtain ⟨cs',h1,h2⟩:=hel i (by omega)
   obtain ⟨x,qx,fx⟩:=h H enc w base spare held n cs' _ h2
   rw[hs] at h1
   obtain ⟨_,h3,h4⟩:=World.cells?_some h1
   exact ⟨x,qx,cs',h3,fx,h4⟩
  haveI:Inhabited α:=⟨A.dflt⟩
  obtain ⟨f,hf⟩:=choose_lt (α:=α) (fun i hi=>key i hi)
  refine ⟨(List.range len0).map f,?_,?_⟩
  ·intro x hx
   obtain ⟨i,hi,rfl⟩:=List.mem_map.1 hx
   exact (hf i (by simpa using hi)).1
  ·refine ⟨?_,trivial⟩
   show ((Dv.list A).enc ((List.range len0).map f)).fit 0 (wh w) _
   simp only[Dv.list,SV.fit]
   refine ⟨some a,cap0,by simp,by simpa using hl,hm,fun hpos=>?_⟩
   have hpos:0<len0:=by simpa using hpos
   obtain ⟨_,cs0,q1,q2,q3⟩:=hf 0 hpos
   have q4:=q3 0 hz
   obtain ⟨b,o,spot⟩:=a
   have hsome:∃ v0,cs0[0]?=some v0:=⟨cs0[0]'(by omega),by simp⟩
   obtain ⟨v0,hv0⟩:=hsome
   rw[hv0] at q4
   have hspot:spot=none:=by simpa [Addr.add] using World.cell?_spot q4
   subst hspot
   have hblk:∃ cs t fz,w.heap[b]?=some (.cells cs t fz):=by
    simp only[add_none,World.cell?] at q4
    split at q4
    ·rename_i c _ _ hh
     exact ⟨_,_,_,hh⟩
    ·cases q4
   obtain ⟨cs,t',fz,hh⟩:=hblk
   refine ⟨b,o,cs,t',fz,rfl,hh,fun i hi=>?_⟩
   have hi:i<len0:=by simpa using hi
   obtain ⟨_,cs',k1,k2,k3⟩:=hf i hi
   refine ⟨cs',k1,?_,fun j v hjv=>?_⟩
   ·simpa [El.els,List.getD_eq_getElem?_getD,hi] using k2
   ·have hj:j<A.sz:=by
     have:=(List.getElem?_eq_some_iff.1 hjv).1
     omega
    have:=k3 j hj
    rw[hjv] at this
    simp only[add_none,World.cell?,hh] at this
    simpa using this
end
end Go.Sx

namespace Go.Sx
open Go.RowKit
variable [Env]
def Tr.asksC {α:Type}:Tr α→List Prop
 | .ret _=>[]
 | .br c a b=>bif c then a.asksC else b.asksC
 | .ask p a=>p :: a.asksC
 | .giv _ a=>a.asksC
 | .all _=>[False]
 | .bad _=>[False]
def Tr.evC {α:Type} (d:α):Tr α→α
 | .ret x=>x
 | .br c a b=>bif c then a.evC d else b.evC d
 | .ask _ a=>a.evC d
 | .giv _ a=>a.evC d
 | _=>d
theorem Tr.asksC_holds {α:Type} (d:α):∀ {t:Tr α},(∀ p∈t.asksC,p)→t.Holds (·=t.evC d)
 | .ret _,_=>rfl
 | .br true a b,h=>⟨fun _=>Tr.asksC_holds d (t:=a) h,fun h=>by cases h⟩
 | .br false a b,h=>⟨fun h=>(by cases h),fun _=>Tr.asksC_holds d (t:=b) h⟩
 | .ask p a,h=>⟨h p (List.mem_cons_self ..),Tr.asksC_holds d (t:=a) fun q hq=>h q (List.mem_cons_of_mem _ hq)⟩
 | .giv _ a,h=>fun _=>Tr.asksC_holds d (t:=a) h
 | .all _,h=>(h _ (List.mem_cons_self ..)).elim
 | .bad _,h=>(h _ (List.mem_cons_self ..)).elim
end Go.Sx
