/- Contracts of loops in which the machine chooses: rounds, one behind the other, each with what is drawn in it. -/
import Derived.Test.YtmegbepjdololaaDoorZG05ae7c06
import Derived.Test.YtmegbepjdololaaDoorZG0678006a
import Derived.Calls
import Derived.RunT
import Derived.StepT
import Derived.Shelf.SlSortCmp.WholeK
import Derived.Shelf.SlSortCmp.NoneTotal
set_option linter.unusedVariables false
set_option linter.unusedSimpArgs false
set_option linter.constructorNameAsVariable false
set_option linter.all false

namespace Go.Sx
open Go.RowKit
variable [Env]
def hdC:List Nat→List Nat
 | []=>[]
 | n :: r=>r.take n
def tlC:List Nat→List Nat
 | []=>[]
 | n :: r=>r.drop n
def joC (a b:List Nat):List Nat:=a.length :: (a++b)
theorem hd_jo (a b:List Nat):hdC (joC a b)=a:=by simp[hdC,joC]
theorem tl_jo (a b:List Nat):tlC (joC a b)=b:=by simp[tlC,joC]
def Tr.evA {α:Type} (d:α):Tr α→List Nat→α
 | .ret x,_=>x
 | .br c a b,cs=>bif c then a.evA d cs else b.evA d cs
 | .ask _ a,cs=>a.evA d cs
 | .giv _ a,cs=>a.evA d cs
 | .all k,cs=>(k (hdC cs)).evA d (tlC cs)
 | .bad _,_=>d
def Tr.sideA {α:Type}:Tr α→List Nat→Prop
 | .ret _,_=>True
 | .br c a b,cs=>match a.plain,b.plain with
  | true,true=>True
  | true,false=>c=false→b.sideA cs
  | false,true=>c=true→a.sideA cs
  | false,false=>(c=true→a.sideA cs)∧(c=false→b.sideA cs)
 | .ask p a,cs=>match a.plain with
  | true=>p
  | false=>p∧a.sideA cs
 | .giv p a,cs=>match a.plain with
  | true=>True
  | false=>p→a.sideA cs
 | .all k,cs=>(k (hdC cs)).sideA (tlC cs)
 | .bad _,_=>False
theorem Tr.plain_sideA {α:Type}:∀ {t:Tr α} {cs:List Nat},t.plain=true→t.sideA cs
 | .ret _,_,_=>trivial
 | .br c a b,_,h=>by
  simp only[Tr.plain,Bool.and_eq_true] at h
  simp only[Tr.sideA,h.1,h.2]
 | .ask _ _,_,h=>by cases h
 | .giv _ _,_,h=>by cases h
 | .all _,_,h=>by cases h
 | .bad _,_,h=>by cases h
theorem Tr.sideA_holds {α:Type} (d:α) {K:α→Prop}:∀ {t:Tr α},(∀ cs,t.sideA cs)→(∀ cs,K (t.evA d cs))→t.Holds K
 | .ret _,_,hk=>hk []
 | .br c a b,h,hk=>by
  have h2:(c=true→∀ cs,a.sideA cs)∧(c=false→∀ cs,b.sideA cs):=by
   simp only[Tr.sideA] at h
   split at h
   ·rename_i h1 h2;exact ⟨fun _ _=>Tr.plain_sideA h1,fun _ _=>Tr.plain_sideA h2⟩
   ·rename_i h1 h2;exact ⟨fun _ _=>Tr.plain_sideA h1,fun hc cs=>h cs hc⟩
   ·rename_i h1 h2;exact ⟨fun hc cs=>h cs hc,fun _ _=>Tr.plain_sideA h2⟩
   ·exact ⟨fun hc cs=>(h cs).1 hc,fun hc cs=>(h cs).2 hc⟩
  refine ⟨fun hc=>sideA_holds d (h2.1 hc) fun cs=>?_,fun hc=>sideA_holds d (h2.2 hc) fun cs=>?_⟩
  ·have:=hk cs;subst hc;exact this
  ·have:=hk cs;subst hc;exact this
 | .ask p a,h,hk=>by
  have h2:p∧∀ cs,a.sideA cs:=by
   simp only[Tr.sideA] at h
   split at h
   ·rename_i h1;exact ⟨h [],fun _=>Tr.plain_sideA h1⟩
   ·exact ⟨(h []).1,fun cs=>(h cs).2⟩
  exact ⟨h2.1,sideA_holds d h2.2 hk⟩
 | .giv p a,h,hk=>fun hp=>by
  have h2:∀ cs,a.sideA cs:=by
   simp only[Tr.sideA] at h
   split at h
   ·rename_i h1;exact fun _=>Tr.plain_sideA h1
   ·exact fun cs=>h cs hp
  exact sideA_holds d h2 hk
 | .all k,h,hk=>fun n=>sideA_holds d (fun cs=>by
   have:=h (joC n cs)
   simp only[Tr.sideA,hd_jo,tl_jo] at this
   exact this) fun cs=>by
  have:=hk (joC n cs)
  simp only[Tr.evA,hd_jo,tl_jo] at this
  exact this
 | .bad _,h,_=>(h []).elim
theorem holds_asks {α:Type} {K:α→Prop}:∀ {l:List Prop} {t:Tr α},(∀ p∈l,p)→t.Holds K→(asks l t).Holds K
 | [],_,_,ht=>ht
 | p :: _,_,h,ht=>⟨h p (List.mem_cons_self ..),holds_asks (fun q hq=>h q (List.mem_cons_of_mem _ hq)) ht⟩
theorem map_holds {α β:Type} {f:α→β} {K:β→Prop}:∀ {t:Tr α},(t.Holds fun x=>K (f x))→(t.map f).Holds K
 | .ret _,h=>h
 | .br _ _ _,h=>⟨fun c=>map_holds (h.1 c),fun c=>map_holds (h.2 c)⟩
 | .ask _ _,h=>⟨h.1,map_holds h.2⟩
 | .giv _ _,h=>fun q=>map_holds (h q)
 | .all _,h=>fun n=>map_holds (h n)
 | .bad _,h=>h
def runLA {γ:Type} (F:List Nat→γ→Ex×γ):Nat→List Nat→γ→Ex×γ
 | 0,_,g=>(.ret,g)
 | n+1,cs,g=>match F (hdC cs) g with
  | (.normal,g')=>runLA F n (tlC cs) g'
  | x=>x
noncomputable def loopFA {γ:Type} (F:List Nat→γ→Ex×γ) (m:γ→Nat) (cs:List Nat) (g:γ):Ex×γ:=runLA F (hush (m g+1)) cs g
theorem loopFA_def {γ:Type} (F:List Nat→γ→Ex×γ) (m:γ→Nat) (cs:List Nat) (g:γ):loopFA F m cs g=runLA F (m g+1) cs g:=by unfold loopFA;rw[hush_eq]
def GoesA {γ:Type} (F:List Nat→γ→Ex×γ) (m:γ→Nat) (Inv:γ→Prop):Prop:=∀ g cs,Inv g→(F cs g).1=.normal→Inv (F cs g).2∧m (F cs g).2<m g
section
variable {γ:Type} {F:List Nat→γ→Ex×γ} {m:γ→Nat} {Inv:γ→Prop}
theorem runLA_fuel (h:GoesA F m Inv):∀ (n k:Nat) (cs:List Nat) (g:γ),Inv g→m g<n→m g<k→runLA F n cs g=runLA F k cs g
 | 0,_,_,_,_,h1,_=>by omega
 | _,0,_,_,_,_,h1=>by omega
 | n+1,k+1,cs,g,hi,hn,hk=>by
  simp only[runLA]
  have hg:=h g (hdC cs) hi
  generalize F (hdC cs) g=x at hg ⊢
  obtain ⟨e,g'⟩:=x
  cases e with
  | normal=>
   obtain ⟨h1,h2⟩:=hg rfl
   exact runLA_fuel h n k (tlC cs) g' h1 (by simp only at h2;omega) (by simp only at h2;omega)
  | _=>rfl
theorem loopFA_next (h:GoesA F m Inv) {g g':γ} {cs:List Nat} (hi:Inv g) (he:F (hdC cs) g=(.normal,g')):loopFA F m cs g=loopFA F m (tlC cs) g':=by
 have h2:=h g (hdC cs) hi (by rw[he])
 rw[he] at h2
 rw[loopFA_def,loopFA_def]
 show (match F (hdC cs) g with
  | (.normal,g')=>runLA F (m g) (tlC cs) g'
  | x=>x)=_
 rw[he]
 exact runLA_fuel h _ _ _ g' h2.1 h2.2 (Nat.lt_succ_self _)
theorem loopFA_end {g:γ} {cs:List Nat} (he:(F (hdC cs) g).1≠.normal):loopFA F m cs g=F (hdC cs) g:=by
 rw[loopFA_def]
 show (match F (hdC cs) g with
  | (.normal,g')=>runLA F (m g) (tlC cs) g'
  | x=>x)=_
 generalize F (hdC cs) g=x at he
 obtain ⟨e,g'⟩:=x
 cases e with
 | normal=>exact absurd rfl he
 | _=>rfl
theorem loopFA_induct (h:GoesA F m Inv) {Q:List Nat→γ→Ex×γ→Prop} (h1:∀ g cs,Inv g→(F (hdC cs) g).1≠.normal→Q cs g (F (hdC cs) g)) (h2:∀ g g' cs r,Inv g→F (hdC cs) g=(.normal,g')→Inv g'→m g'<m g→Q (tlC cs) g' r→Q cs g r):∀ (cs:List Nat) (g:γ),Inv g→Q cs g (loopFA F m cs g):=by
 intro cs g
 induction hn:m g using Nat.strongRecOn generalizing g cs with
 | _ n ih=>
  intro hi
  by_cases he:(F (hdC cs) g).1=.normal
  ·obtain ⟨k1,k2⟩:=h g (hdC cs) hi he
   have hF:F (hdC cs) g=(.normal,(F (hdC cs) g).2):=by rw[← he]
   rw[loopFA_next h hi hF]
   exact h2 g _ _ _ hi hF k1 k2 (ih _ (by omega) _ _ rfl k1)
  ·rw[loopFA_end he]
   exact h1 g cs hi he
theorem loopFA_exit {es:List Ex} (h:GoesA F m Inv) (he:∀ cs g,(F cs g).1=.normal∨(F cs g).1∈es) {g:γ} {cs:List Nat} (hi:Inv g):(loopFA F m cs g).1∈es:=
 loopFA_induct h (Q:=fun _ _ r=>r.1∈es) (fun g _ _ hn=>(he _ g).resolve_left hn) (fun _ _ _ _ _ _ _ _ ih=>ih) cs g hi
end
theorem exitsT_in {γ:Type} {x:Ex×γ} {K:Ex×γ→Prop}:∀ {l:List Ex},x.1∈l→K x→(exitsT x l).Holds K
 | [],h,_=>by simp at h
 | [e],h,hk=>by
  have:x.1=e:=by simpa using h
  show K (e,x.2)
  rw[← this];exact hk
 | e :: e' :: r,h,hk=>by
  refine ⟨fun hb=>?_,fun hb=>exitsT_in (l:=e' :: r) ?_ hk⟩
  ·show K (e,x.2)
   rw[exB_eq hb];exact hk
  ·rcases List.mem_cons.1 h with h | h
   ·rw[h,exB_refl] at hb;cases hb
   ·exact h
section
variable {P:Program} {Γ:Gam} {Λ:Lam} {N:Nat} {γ:Type}
noncomputable def loopRA (es:List Ex) (body:Code) (A:LP N γ) (DL:List Nat) (n0:Nat) (Inv:γ→List Prop) (F:List Nat→γ→Ex×γ) (m:γ→Nat):LCon:=loopC body A DL n0 Inv fun g=>.all fun cs=>exitsT (loopFA F m cs g) es
theorem loop_runA (hΓ:∀ f g,Γ.g f=some g→FnOk P f g) (hΛ:∀ f k L,Λ f k=some L→∀ b∈loopsOf P f,lkey b=k→LoopOk P b L.g) (n f key n0:Nat) (A:LP N γ) (DL:List Nat) (Inv:γ→List Prop) (F:List Nat→γ→Ex×γ) (S:List Nat→γ→Prop) (m:γ→Nat) (d:Ex×γ) (es:List Ex)
  (hu:((loopsOf P f).filter fun c=>Nat.beq (lkey c) key).length=1)
  (hS:∀ (rd:Option Nat) (T B:List (Nat×SV)) (HL HB:List (Nat×SE)) (ds:List Nat) (cs:List Nat) (g:γ),(bT P Γ Λ n f none (loopBody P f key) A DL n0 ⟨n0,T,⟨N,HL,HB⟩,DL,B⟩ ds g).sideA cs=S cs g)
  (hF:∀ (rd:Option Nat) (T B:List (Nat×SV)) (HL HB:List (Nat×SE)) (ds:List Nat) (cs:List Nat) (g:γ),(bT P Γ Λ n f none (loopBody P f key) A DL n0 ⟨n0,T,⟨N,HL,HB⟩,DL,B⟩ ds g).evA d cs=F cs g)
  (hs:∀ cs g,allP (Inv g)→S cs g) (hg:GoesA F m fun g=>allP (Inv g)) (hes:∀ cs g,(F cs g).1=.normal∨(F cs g).1∈es):∀ b∈loopsOf P f,lkey b=key→LoopOk P b (loopRA es (loopBody P f key) A DL n0 Inv F m).g:=by
 refine loop_ok hΓ hΛ n f key n0 A DL Inv _ m hu ?_
 intro rd T B HL HB ds g hi K hK
 have h1:∀ cs,(bT P Γ Λ n f none (loopBody P f key) A DL n0 ⟨n0,T,⟨N,HL,HB⟩,DL,B⟩ ds g).sideA cs:=fun cs=>by rw[hS none];exact hs cs g hi
 refine Tr.sideA_holds d h1 fun c0=>?_
 rw[hF none]
 have hK:∀ cs,K (loopFA F m cs g):=fun cs=>exitsT_holds (loopFA_exit hg hes hi) (hK cs)
 unfold StepP
 split
 ·rename_i he
  obtain ⟨k1,k2⟩:=hg g c0 hi he
  refine ⟨k1,k2,fun cs=>?_⟩
  have h3:=hK (joC c0 cs)
  rw[loopFA_next hg hi (g':=(F c0 g).2) (by rw[hd_jo,← he]),tl_jo] at h3
  have h4:(loopFA F m cs (F c0 g).2).1∈es:=loopFA_exit hg hes k1
  exact exitsT_in h4 h3
 ·rename_i he
  have h3:=hK (joC c0 [])
  rw[loopFA_end (by rw[hd_jo];intro h;exact he h),hd_jo] at h3
  exact h3
theorem loop_say {body:Code} {A:LP N γ} {DL:List Nat} {n0:Nat} {Inv Inv':γ→List Prop} {G G':γ→Tr (Ex×γ)} {b:Code} (hi:∀ g,allP (Inv' g)→allP (Inv g)) (hG:∀ g,allP (Inv' g)→∀ K:Ex×γ→Prop,(G' g).Holds K→(G g).Holds K) (h:LoopOk P b (loopC body A DL n0 Inv G).g):LoopOk P b (loopC body A DL n0 Inv' G').g:=by
 intro M w0 w ρ σ a K hK hm
 refine h M w0 w ρ σ a K ?_ hm
 have hK:(loopG body A DL n0 Inv' G' σ).Holds K:=hK
 show (loopG body A DL n0 Inv G σ).Holds K
 unfold loopG at hK ⊢
 split at hK
 ·rename_i g ps ids hread
  split at hK
  ·rename_i hc
   obtain ⟨hps,hK⟩:=asks_holds hK
   have hI:allP (Inv' g):=fun p hp=>hps p (List.mem_append_right _ hp)
   refine holds_asks (fun p hp=>?_) (map_holds (hG g hI _ (Tr.holds_map hK)))
   rcases List.mem_append.1 hp with hp | hp
   ·exact hps p (List.mem_append_left _ hp)
   ·exact hi g hI p hp
  ·exact hK.elim
 ·exact hK.elim
noncomputable def loopRC (es:List Ex) (body:Code) (A:LP N γ) (DL:List Nat) (n0:Nat) (Inv:γ→List Prop) (f:List Nat→γ→Ex×γ):LCon:=loopC body A DL n0 Inv fun g=>.all fun cs=>exitsT (f cs g) es
theorem loop_quotC {es:List Ex} {body:Code} {A:LP N γ} {DL:List Nat} {n0:Nat} {Inv Inv':γ→List Prop} {F:List Nat→γ→Ex×γ} {m:γ→Nat} {b:Code} {f:List Nat→γ→Ex×γ} (hi:∀ g,allP (Inv' g)→allP (Inv g)) (hf:∀ g,allP (Inv' g)→∀ cs,∃ cs',loopFA F m cs g=f cs' g) (h:LoopOk P b (loopRA es body A DL n0 Inv F m).g):LoopOk P b (loopRC es body A DL n0 Inv' f).g:=
 loop_say (G:=fun g=>.all fun cs=>exitsT (loopFA F m cs g) es) hi (fun g hI K hK cs=>by
  obtain ⟨cs',e⟩:=hf g hI cs
  show (exitsT (loopFA F m cs g) es).Holds K
  rw[e];exact hK cs') h
theorem pure_of_sideA {f:Nat} {δ:Type} {D:DA γ} {R:Dv δ} {fn:γ→δ} {pre:γ→List Prop} (hΓ:∀ f g,Γ.g f=some g→FnOk P f g) (hΛ:∀ f k L,Λ f k=some L→∀ b∈loopsOf P f,lkey b=k→LoopOk P b L.g) (n:Nat) (d:δ) (S:List Nat→γ→Prop) (F:List Nat→γ→δ)
  (hS:∀ cs g,(dTree P Γ Λ n f (D.enc g) R).sideA cs=S cs g) (hF:∀ cs g,(dTree P Γ Λ n f (D.enc g) R).evA d cs=F cs g) (h:∀ cs g,D.bd g→(∀ p∈pre g,p)→S cs g∧F cs g=fn g):FnPure P f D R fn pre:=
 pure_of_tree hΓ hΛ n fun g h1 h2=>Tr.sideA_holds d (fun cs=>by rw[hS];exact (h cs g h1 h2).1) fun cs=>by rw[hF];exact (h cs g h1 h2).2
end
end Go.Sx

namespace Go.Sx
open Go.RowKit
variable [Env]
section
variable {N:Nat} {α β:Type}
def El.ent (K:El α) (V:El β):El (α×β×Int):=El.pair K (El.pair V (eInt .i64))
def LP.mapO (N id:Nat) (ka va:Bool) (K:El α) (V:El β):LP N (List (α×β×Int)×Nat) where
 R:=0
 read σ:=match σ.h.get id with
  | .map ks vs ka' va' el m clk _=>bif Nat.beq ks K.sz&&(Nat.beq vs V.sz&&(ka==ka'&&va==va')) then some (((El.ent K V).lstE m el,clk),(El.ent K V).okE m el,[]) else none
  | _=>none
 ents _ _:=[]
 blks _ _:=[]
 objs _ g:=[(id,.map K.sz V.sz ka va (.fn ((El.ent K V).els g.1)) g.1.length g.2 false)]
 es:=[]
 os:=[id]
 eseq _ _:=rfl
 oseq _ _:=rfl
 blen _ _:=rfl
 ilen σ g ps ids h:=by
  split at h
  ·rename_i ks vs ka' va' el m clk pd _
   cases hb:Nat.beq ks K.sz&&(Nat.beq vs V.sz&&(ka==ka'&&va==va')) with
   | false=>rw[hb] at h;cases h
   | true=>
    rw[hb] at h
    simp only[cond_true,Option.some.injEq,Prod.mk.injEq] at h
    rw[← h.2.2];rfl
  ·cases h
 ok k0 σ g ps ids h hp:=by
  split at h
  ·rename_i ks vs ka' va' el m clk pd hg
   cases hb:Nat.beq ks K.sz&&(Nat.beq vs V.sz&&(ka==ka'&&va==va')) with
   | false=>rw[hb] at h;cases h
   | true=>
    rw[hb] at h
    simp only[Bool.and_eq_true,beq_iff_eq] at hb
    obtain ⟨b1,b2,b3,b4⟩:=hb
    have e1:=beq_of b1
    have e2:=beq_of b2
    subst e1;subst e2;subst b3;subst b4
    simp only[cond_true,Option.some.injEq,Prod.mk.injEq] at h
    obtain ⟨rfl,rfl,rfl⟩:=h
    have hk:∀ e,e<m→(El.ent K V).Ok (el e):=El.okE_ok _ m el hp
    rw[El.lstE_eq]
    refine ⟨fun k so h=>by simp at h,fun id' so h=>?_,fun j s h=>by simp at h⟩
    simp only[List.mem_singleton,Prod.mk.injEq] at h
    obtain ⟨rfl,rfl⟩:=h
    rw[hg]
    refine ⟨fun _ h=>h,fun n m' ρ ρ' L o hr hf=>?_⟩
    obtain ⟨f1,f2,⟨es,f3,f4,f5,f6⟩,_⟩:=hf
    rw[El.lst_length]
    refine ⟨f1,f2,⟨es,f3,f4,f5,fun e he=>?_⟩,fun h=>by cases h⟩
    obtain ⟨y,kc,vc,q1,q2,q3⟩:=f6 e he
    obtain ⟨a,ps,d1,d2⟩:=hk e he
    refine ⟨y,kc,vc,q1,?_,q3⟩
    have:=(El.ent K V).cl a n m' ρ ρ' _ hr.ag.2.1 ((El.ent K V).ok _ _ _ _ _ _ d1 d2 q2)
    show SV.fits m' ρ' ((El.ent K V).cells (((El.ent K V).lst m el).getD e (El.ent K V).dflt)) _
    rw[El.lst_getD _ _ _ _ he]
    simpa only [El.get,d1] using this
  ·cases h
def LP.mit (N id i:Nat):LP N (List Int×Nat) where
 R:=0
 read σ:=match σ.h.get id with
  | .mit j since sel sn last _=>bif Nat.beq j i&&Nat.blt i N then some (((eInt .i64).lstE sn sel,since),(last=since) :: (eInt .i64).okE sn sel,[]) else none
  | _=>none
 ents _ _:=[]
 blks _ _:=[]
 objs _ g:=[(id,.mit i g.2 (.fn ((eInt .i64).els g.1)) g.1.length g.2 none)]
 es:=[]
 os:=[id]
 eseq _ _:=rfl
 oseq _ _:=rfl
 blen _ _:=rfl
 ilen σ g ps ids h:=by
  split at h
  ·rename_i j since sel sn last _ _
   cases hb:Nat.beq j i&&Nat.blt i N with
   | false=>rw[hb] at h;cases h
   | true=>
    rw[hb] at h
    simp only[cond_true,Option.some.injEq,Prod.mk.injEq] at h
    rw[← h.2.2];rfl
  ·cases h
 ok k0 σ g ps ids h hp:=by
  split at h
  ·rename_i j since sel sn last cu hg
   cases hb:Nat.beq j i&&Nat.blt i N with
   | false=>rw[hb] at h;cases h
   | true=>
    rw[hb] at h
    simp only[Bool.and_eq_true] at hb
    have e1:=beq_of hb.1
    have hlt:i<N:=Nat.le_of_ble_eq_true hb.2
    subst e1
    simp only[cond_true,Option.some.injEq,Prod.mk.injEq] at h
    obtain ⟨rfl,rfl,rfl⟩:=h
    have hls:last=since:=hp _ (List.mem_cons_self ..)
    subst hls
    have hk:∀ e,e<sn→(eInt .i64).Ok (sel e):=El.okE_ok _ sn sel fun p h=>hp p (List.mem_cons_of_mem _ h)
    rw[El.lstE_eq]
    refine ⟨fun k so h=>by simp at h,fun id' so h=>?_,fun j s h=>by simp at h⟩
    simp only[List.mem_singleton,Prod.mk.injEq] at h
    obtain ⟨rfl,rfl⟩:=h
    rw[hg]
    refine ⟨fun _ h=>h,fun n m' ρ ρ' L o hr hf=>?_⟩
    obtain ⟨f1,f2,f3,seen,f4,f5,f6,_⟩:=hf
    rw[El.lst_length]
    refine ⟨f1,f2,by have:=hr.le;omega,seen,by rw[hr.ag.1 j hlt];exact f4,f5,fun e x hx=>?_,fun s hs=>(by cases hs)⟩
    have he:e<sn:=by rw[← f5];exact (Array.getElem?_eq_some_iff.1 hx).1
    obtain ⟨a,ps,d1,d2⟩:=hk e he
    have:=(eInt .i64).cl a n m' ρ ρ' _ hr.ag.2.1 ((eInt .i64).ok _ _ _ _ _ _ d1 d2 (f6 e x hx))
    show SV.fits m' ρ' ((eInt .i64).cells (((eInt .i64).lst sn sel).getD e (eInt .i64).dflt)) _
    rw[El.lst_getD _ _ _ _ he]
    simpa only [El.get,d1] using this
  ·cases h
def LP.mif (N id:Nat) (ka va:Bool) (K:El α) (V:El β):LP N (List (α×β)) where
 R:=0
 read σ:=match σ.h.get id with
  | .mif ks vs ka' va' rem cnt _=>bif Nat.beq ks K.sz&&(Nat.beq vs V.sz&&(ka==ka'&&va==va')) then some ((El.pair K V).lstE cnt rem,(El.pair K V).okE cnt rem,[]) else none
  | _=>none
 ents _ _:=[]
 blks _ _:=[]
 objs _ g:=[(id,.mif K.sz V.sz ka va (.fn ((El.pair K V).els g)) g.length none)]
 es:=[]
 os:=[id]
 eseq _ _:=rfl
 oseq _ _:=rfl
 blen _ _:=rfl
 ilen σ g ps ids h:=by
  split at h
  ·rename_i ks vs ka' va' rem cnt _ _
   cases hb:Nat.beq ks K.sz&&(Nat.beq vs V.sz&&(ka==ka'&&va==va')) with
   | false=>rw[hb] at h;cases h
   | true=>
    rw[hb] at h
    simp only[cond_true,Option.some.injEq,Prod.mk.injEq] at h
    rw[← h.2.2];rfl
  ·cases h
 ok k0 σ g ps ids h hp:=by
  split at h
  ·rename_i ks vs ka' va' rem cnt cu hg
   cases hb:Nat.beq ks K.sz&&(Nat.beq vs V.sz&&(ka==ka'&&va==va')) with
   | false=>rw[hb] at h;cases h
   | true=>
    rw[hb] at h
    simp only[Bool.and_eq_true,beq_iff_eq] at hb
    obtain ⟨b1,b2,b3,b4⟩:=hb
    have e1:=beq_of b1
    have e2:=beq_of b2
    subst e1;subst e2;subst b3;subst b4
    simp only[cond_true,Option.some.injEq,Prod.mk.injEq] at h
    obtain ⟨rfl,rfl,rfl⟩:=h
    have hk:∀ e,e<cnt→(El.pair K V).Ok (rem e):=El.okE_ok _ cnt rem hp
    rw[El.lstE_eq]
    refine ⟨fun k so h=>by simp at h,fun id' so h=>?_,fun j s h=>by simp at h⟩
    simp only[List.mem_singleton,Prod.mk.injEq] at h
    obtain ⟨rfl,rfl⟩:=h
    rw[hg]
    refine ⟨fun _ h=>h,fun n m' ρ ρ' L o hr hf=>?_⟩
    obtain ⟨f1,f2,f3⟩:=hf
    rw[El.lst_length]
    refine ⟨f1,f2,?_⟩
    rcases f3 with f3 | ⟨b,es,clk,seen,k1,k2,k3,k4,k5,_⟩
    ·exact .inl ⟨f3.1,f3.2.1,rfl⟩
    ·refine .inr ⟨b,es,clk,seen,k1,hr.ag.2.1 _ _ k2,k3,k4,fun e he=>?_,fun c hc=>(by cases hc)⟩
     obtain ⟨y,kc,vc,q1,q2,q3⟩:=k5 e he
     obtain ⟨a,ps,d1,d2⟩:=hk e he
     refine ⟨y,kc,vc,q1,?_,q3⟩
     have:=(El.pair K V).cl a n m' ρ ρ' _ hr.ag.2.1 ((El.pair K V).ok _ _ _ _ _ _ d1 d2 q2)
     show SV.fits m' ρ' ((El.pair K V).cells (((El.pair K V).lst cnt rem).getD e (El.pair K V).dflt)) _
     rw[El.lst_getD _ _ _ _ he]
     simpa only [El.get,d1] using this
  ·cases h
end
end Go.Sx

namespace Go.Sx
open Go.RowKit
variable [Env]
section
variable {α β γ δ:Type} {K:El α} {V:El β}
def d3e (e:α×β×Int):α×β:=(e.1,e.2.1)
theorem ent_take {l:List SV} {a:α×β×Int} {ps:List Prop} (h:(K.ent V).decs l=some (a,ps)):∃ qs,(El.pair K V).decs (l.take (K.sz+V.sz))=some (d3e a,qs)∧∀ q∈qs,q∈ps:=by
 simp only[El.ent,El.pair] at h ⊢
 rw[List.take_take,Nat.min_eq_left (Nat.le_add_right ..),List.drop_take,Nat.add_sub_cancel_left]
 split at h
 ·rename_i a0 ps0 h1
  split at h
  ·rename_i b0 qs0 h2
   simp only[Option.some.injEq,Prod.mk.injEq] at h
   obtain ⟨rfl,rfl⟩:=h
   split at h2
   ·rename_i v0 p1 h3
    split at h2
    ·rename_i n0 p2 h4
     simp only[Option.some.injEq,Prod.mk.injEq] at h2
     obtain ⟨rfl,rfl⟩:=h2
     refine ⟨_,rfl,fun q hq=>?_⟩
     rcases List.mem_append.1 hq with hq | hq
     ·exact List.mem_append_left _ hq
     ·exact List.mem_append_right _ (List.mem_append_left _ hq)
    ·cases h2
   ·cases h2
  ·cases h
 ·cases h
theorem ent_ok {l:List SV} (h:(K.ent V).Ok l):(El.pair K V).Ok (l.take (K.sz+V.sz))∧(El.pair K V).get (l.take (K.sz+V.sz))=d3e ((K.ent V).get l):=by
 obtain ⟨a,ps,h1,h2⟩:=h
 obtain ⟨qs,q1,q2⟩:=ent_take h1
 refine ⟨⟨_,qs,q1,fun q hq=>h2 q (q2 q hq)⟩,?_⟩
 simp only[El.get,h1,q1]
theorem ent_lst {m:Nat} {el:Nat→List SV} (h:∀ e,e<m→(K.ent V).Ok (el e)):(El.pair K V).lst m (fun e=>(el e).take (K.sz+V.sz))=((K.ent V).lst m el).map d3e:=by
 simp only[El.lst,List.map_map]
 refine List.map_congr_left fun e he=>?_
 exact (ent_ok (h e (List.mem_range.1 he))).2
def conMp (ka va:Bool) (K:El α) (V:El β) (D:DA γ) (R:Dv δ) (fn:List (α×β)×γ→δ) (pre:List (α×β)×γ→List Prop):Con:=fun args h=>
 match args with
 | .mp i :: rest=>match h.get i with
  | .map ks vs ka' va' el m _ _=>match Nat.beq ks K.sz&&(Nat.beq vs V.sz&&(ka==ka'&&va==va')) with
   | true=>match D.dec rest with
    | some (g,ps)=>asks ((K.ent V).okE m el++(ps++pre (((K.ent V).lstE m el).map d3e,g))) (.ret (R.enc (fn (((K.ent V).lstE m el).map d3e,g)),h.set i .dead))
    | none=>.bad 661
   | false=>.bad 662
  | _=>.bad 663
 | args=>conR (.cons (.map ka va K V) D) R fn pre args h
theorem conMp_ok {P:Program} {f:Nat} {ka va:Bool} {D:DA γ} {R:Dv δ} {fn:List (α×β)×γ→δ} {pre:List (α×β)×γ→List Prop} (hp:FnPure P f (.cons (.map ka va K V) D) R fn pre):FnOk P f (conMp ka va K V D R fn pre):=by
 intro M w0 w ρ h args vs Kk hK hm hf
 unfold conMp at hK
 split at hK
 ·rename_i i rest
  split at hK
  ·rename_i ks vs' ka' va' el m clk pend hg
   split at hK
   ·rename_i hb
    split at hK
    ·rename_i g ps hd
     obtain ⟨hq,hK⟩:=asks_holds hK
     have hok:∀ e,e<m→(K.ent V).Ok (el.at e):=(K.ent V).okE_ok m el fun p h'=>hq p (List.mem_append_left _ h')
     have hps:∀ p∈ps,p:=fun p h'=>hq p (List.mem_append_right _ (List.mem_append_left _ h'))
     have hpre:∀ p∈pre (((K.ent V).lstE m el).map d3e,g),p:=fun p h'=>hq p (List.mem_append_right _ (List.mem_append_right _ h'))
     rw[(K.ent V).lstE_eq] at hpre hK
     simp only[Bool.and_eq_true,beq_iff_eq] at hb
     obtain ⟨b1,b2,b3,b4⟩:=hb
     have e1:=beq_of b1
     have e2:=beq_of b2
     subst e1;subst e2;subst b3;subst b4
     obtain ⟨y,ys,rfl,hy,hr⟩:=fits_cons hf
     obtain ⟨hil,rfl⟩:=hy
     have hob:=hm.ob i
     rw[hg] at hob
     obtain ⟨_,_,⟨es,h3,h4,h5,h6⟩,_⟩:=hob
     have hown:(h.get i).own (ρ i):=by rw[hg];trivial
     have hag:Agree h.nx ρ (ρ.frz (ρ i).blk _):=agree_frz (n:=h.nx) ρ (o:=.map es clk) (hm.sep i hown)
     have m1:=HM.freeze hm hown h3
     have f1:(SV.rm K.sz V.sz m ka va (fun e=>(el.at e).take (K.sz+V.sz))).fit h.nx (ρ.frz (ρ i).blk (.map es clk)) (.map (some (ρ i).blk)):=by
      refine .inr ⟨_,es,clk,rfl,by simp[Rh.frz],h4,h5,fun e he=>?_⟩
      obtain ⟨y,kc,vc,q1,q2,q3,q4,q5⟩:=h6 e he
      refine ⟨y,kc,vc,q1,?_,q3,q4,q5⟩
      have:=fits_take (K.sz+V.sz) q2
      rw[show (kc++(vc++[Value.int .i64 (y.born:Int)])).take (K.sz+V.sz)=kc++vc by rw[← List.append_assoc];exact List.take_left' (by simp;omega)] at this
      exact SV.fits_mono (Nat.le_refl _) hag _ _ this
     have hls:=ent_lst hok
     have hdec:(DA.cons (.map ka va K V) D).dec (.rm K.sz V.sz m ka va (fun e=>(el.at e).take (K.sz+V.sz)) :: rest)=some ((((K.ent V).lst m el.at).map d3e,g),[∀ e,e<m→(El.pair K V).Ok ((el.at e).take (K.sz+V.sz))]++ps):=by
      simp only[DA.cons,Dv.map,show ∀ n,Nat.beq n n=true from fun n=>Nat.beq_refl n,beq_self_eq_true,Bool.and_self,cond_true,hd,hls]
     have hK1:(conR (.cons (.map ka va K V) D) R fn pre (.rm K.sz V.sz m ka va (fun e=>(el.at e).take (K.sz+V.sz)) :: rest) (h.set i .dead)).Holds Kk:=by
      unfold conR
      rw[hdec]
      refine asks_intro (fun p h'=>?_) hK
      rcases List.mem_append.1 h' with h' | h'
      ·rcases List.mem_append.1 h' with h' | h'
       ·simp only[List.mem_singleton] at h'
        rw[h'];exact fun e he=>(ent_ok (hok e he)).1
       ·exact hps p h'
      ·exact hpre p h'
     refine (conR_ok hp M w0 w _ (h.set i .dead) _ _ Kk hK1 m1 (show SV.fits h.nx _ (_ :: rest) (_ :: ys) from ⟨f1,SV.fits_mono (Nat.le_refl _) hag _ _ hr⟩)).mono ?_
     rintro e w' ⟨s,h',ρ',x,k1,k2,k3,k4,k5,k6⟩
     exact ⟨s,h',ρ',x,k1,k2,hag.trans (Nat.le_refl _) k3,k4,k5,k6⟩
    ·exact hK.elim
   ·exact hK.elim
  ·exact hK.elim
 ·exact conR_ok hp M w0 w ρ h _ vs Kk hK hm hf
theorem conMp_b {ka va:Bool} {D:DA γ} {R:Dv δ} {fn:List (α×β)×γ→δ} {pre:List (α×β)×γ→List Prop}:ConB (conMp ka va K V D R fn pre):=fun args h=>by
 unfold conMp
 split
 ·split
  ·split
   ·split
    ·exact asks_each rfl
    ·trivial
   ·trivial
  ·trivial
 ·exact eq_b ((pconR (.cons (.map ka va K V) D) R fn pre).e _ h)
def mconR (ka va:Bool) (K:El α) (V:El β) (D:DA γ) (R:Dv δ) (fn:List (α×β)×γ→δ) (pre:List (α×β)×γ→List Prop):BCon:=⟨conMp ka va K V D R fn pre,conMp_b⟩
end
end Go.Sx

namespace Go.Lp
open Go.Sx
variable [Env]
section
variable {α:Type} (A:El α)
theorem lst_snoc (xs:List α) (x:α):A.lst (min (xs.length+1) xs.length) (A.els xs)++List.map (fun _=>x) (List.range (xs.length+1 - xs.length))=xs++[x]:=by
 rw[Nat.min_eq_right (Nat.le_succ _),A.lst_els,show xs.length+1 - xs.length=1 by omega]
 rfl
theorem lst_up (xs:List α):A.lst (xs.length+1) (A.els xs)=xs++[A.dflt]:=by
 apply List.ext_getElem
 ·simp[El.lst]
 ·intro i h1 h2
  simp only[El.lst,List.getElem_map,List.getElem_range,El.els,El.get_cells]
  by_cases h:i<xs.length
  ·simp[List.getElem_append_left h,List.getD_eq_getElem?_getD,h]
  ·have h3:i=xs.length:=by simp[El.lst] at h1;omega
   subst h3
   simp[List.getD_eq_getElem?_getD]
theorem lst_put (xs:List α) (i:Nat) (h:i≤xs.length) (x:α):(A.lst (bif decide (i<xs.length) then xs.length else xs.length+1) (A.els xs)).set i x=if i<xs.length then xs.set i x else xs++[x]:=by
 by_cases hi:i<xs.length
 ·rw[decide_eq_true hi,cond_true,A.lst_els,if_pos hi]
 ·have:i=xs.length:=by omega
  subst this
  rw[decide_eq_false hi,cond_false,lst_up,if_neg hi]
  simp
end
section
variable {α:Type}
theorem kfind_list (p:α→Bool) (d:α):∀ (xs:List α) (e:Nat) (f:Nat→Bool),(∀ i,i<xs.length→f (e+i)=p (xs.getD i d))→kfind f xs.length e=e+xs.findIdx p
 | [],e,f,_=>rfl
 | x :: xs,e,f,h=>by
  simp only[List.length_cons,kfind]
  have h0:f e=p x:=h 0 (by simp)
  rw[List.findIdx_cons,h0]
  cases hp:p x with
  | true=>simp
  | false=>
   simp only[cond_false]
   rw[kfind_list p d xs (e+1) f fun i hi=>by
    have:=h (i+1) (by simp;omega)
    rw[show e+1+i=e+(i+1) by omega]
    simpa using this]
   omega
theorem kfind_idx (p:α→Bool) (d:α) (xs:List α) {f:Nat→Bool} (h:∀ i,i<xs.length→f i=p (xs.getD i d)):kfind f xs.length 0=xs.findIdx p:=by
 have:=kfind_list p d xs 0 f fun i hi=>by rw[Nat.zero_add];exact h i hi
 rwa [Nat.zero_add] at this
end
section
variable {α β:Type}
abbrev MpE (α β:Type):=α×β×Int
def Bn (mp:List (MpE α β)) (clk:Nat):Prop:=mp.Pairwise (fun a b=>a.2.2<b.2.2)∧∀ x∈mp,x.2.2<(clk:Int)
def Kd (mp:List (MpE α β)):Prop:=mp.Pairwise fun a b=>a.1≠b.1
def left (mp:List (MpE α β)) (seen:List Int):List (MpE α β):=mp.filter fun x=>!seen.contains x.2.2
section
variable {γ δ:Type} {F:List Nat→γ→Ex×γ} {m:γ→Nat} {Inv:γ→Prop}
end
end
end Go.Lp

namespace Go.Lp
open Go.Sx
variable [Env]
section
variable {α γ δ:Type} {F:List Nat→γ→Ex×γ} {m:γ→Nat} {Inv:γ→Prop}
def permL:Nat→List Nat→List α→List α
 | 0,_,_=>[]
 | n+1,cs,l=>match l[(hdC (hdC cs)).headD 0 % l.length]? with
  | some e=>e :: permL n (tlC cs) (l.eraseIdx ((hdC (hdC cs)).headD 0 % l.length))
  | none=>[]
theorem permL_perm:∀ (n:Nat) (cs:List Nat) (l:List α),l.length=n→(permL n cs l).Perm l
 | 0,cs,l,h=>by rw[List.length_eq_zero_iff.1 h];exact List.Perm.refl _
 | n+1,cs,l,h=>by
  have hlt:(hdC (hdC cs)).headD 0 % l.length<l.length:=Nat.mod_lt _ (by omega)
  simp only[permL,List.getElem?_eq_getElem hlt]
  refine ((permL_perm n (tlC cs) _ ?_).cons _).trans ?_
  ·rw[List.length_eraseIdx_of_lt hlt];omega
  ·rw[List.eraseIdx_eq_take_drop_succ]
   refine List.perm_middle.symm.trans (List.Perm.of_eq ?_)
   rw[List.getElem_cons_drop,List.take_append_drop]
theorem permL_next {l:List α} {n:Nat} {cs:List Nat} {e:α} (hn:l.length=n+1) (hk:l[(hdC (hdC cs)).headD 0 % l.length]?=some e):permL l.length cs l=e :: permL n (tlC cs) (l.eraseIdx ((hdC (hdC cs)).headD 0 % l.length)):=by
 have:permL (n+1) cs l=e :: permL n (tlC cs) (l.eraseIdx ((hdC (hdC cs)).headD 0 % l.length)):=by
  simp only[permL,hk]
 rw[← this,hn]
def scanL (x:Nat) (st:α→δ→Ex×δ):List α→δ→Ex×δ
 | [],b=>(.exit x,b)
 | e :: l,b=>match st e b with
  | (.normal,b')=>scanL x st l b'
  | r=>r
theorem mif_loop {x:Nat} {st:α→δ→Ex×δ} (rem:γ→List α) (bo:γ→δ) (up:γ→List α→δ→γ) (h1:∀ g a b,rem (up g a b)=a) (h2:∀ g a b,bo (up g a b)=b) (h3:∀ g a b c d,up (up g a b) c d=up g c d) (h4:∀ g,up g (rem g) (bo g)=g) (hm:∀ g,m g=(rem g).length)
  (hI:∀ g (i:Nat) e,Inv g→(rem g)[i]?=some e→(st e (bo g)).1=.normal→Inv (up g ((rem g).eraseIdx i) (st e (bo g)).2))
  (hF:∀ cs g,Inv g→((rem g).length=0∧F cs g=(.exit x,g))∨∃ e,(rem g)[(hdC cs).headD 0 % (rem g).length]?=some e∧F cs g=((st e (bo g)).1,up g ((rem g).eraseIdx ((hdC cs).headD 0 % (rem g).length)) (st e (bo g)).2)) :
  GoesA F m Inv∧∀ cs g,Inv g→∃ s,loopFA F m cs g=((scanL x st (permL (rem g).length cs (rem g)) (bo g)).1,up g s (scanL x st (permL (rem g).length cs (rem g)) (bo g)).2):=by
 have hg:GoesA F m Inv:=fun g cs hi hn=>by
  rcases hF cs g hi with ⟨_,e⟩ | ⟨e,hk,he⟩
  ·rw[e] at hn;cases hn
  ·rw[he] at hn ⊢
   refine ⟨hI g _ e hi hk hn,?_⟩
   simp only
   have:=(List.getElem?_eq_some_iff.1 hk).1
   rw[hm,hm,h1,List.length_eraseIdx_of_lt this]
   omega
 refine ⟨hg,loopFA_induct hg (Q:=fun cs g r=>∃ s,r=((scanL x st (permL (rem g).length cs (rem g)) (bo g)).1,up g s (scanL x st (permL (rem g).length cs (rem g)) (bo g)).2)) (fun g cs hi hn=>?_) fun g g' cs r hi he hi' _ hq=>?_⟩
 ·rcases hF (hdC cs) g hi with ⟨h0,e⟩ | ⟨e,hk,he⟩
  ·refine ⟨rem g,?_⟩
   rw[h0]
   simp only[permL,scanL]
   rw[h4,e]
  ·rw[he] at hn ⊢
   refine ⟨(rem g).eraseIdx ((hdC (hdC cs)).headD 0 % (rem g).length),?_⟩
   have hlt:=(List.getElem?_eq_some_iff.1 hk).1
   obtain ⟨n,hn'⟩:∃ n,(rem g).length=n+1:=⟨(rem g).length - 1,by omega⟩
   rw[permL_next hn' hk]
   simp only[scanL]
   generalize st e (bo g)=r at hn
   obtain ⟨ex,b'⟩:=r
   cases ex with
   | normal=>exact absurd rfl hn
   | _=>rfl
 ·obtain ⟨s,hs⟩:=hq
  rcases hF (hdC cs) g hi with ⟨h0,e⟩ | ⟨e,hk,he2⟩
  ·rw[he] at e;cases e
  ·have hlt:=(List.getElem?_eq_some_iff.1 hk).1
   obtain ⟨n,hn'⟩:∃ n,(rem g).length=n+1:=⟨(rem g).length - 1,by omega⟩
   rw[he] at he2
   simp only[Prod.mk.injEq] at he2
   obtain ⟨k1,k2⟩:=he2
   have hst:st e (bo g)=(.normal,(st e (bo g)).2):=by rw[k1]
   have hl:rem g'=(rem g).eraseIdx ((hdC (hdC cs)).headD 0 % (rem g).length):=by rw[k2,h1]
   have hln:(rem g').length=n:=by rw[hl,List.length_eraseIdx_of_lt hlt];omega
   refine ⟨s,?_⟩
   rw[hs,permL_next hn' hk,hln,hl]
   have hbo:bo g'=(st e (bo g)).2:=by rw[k2,h2]
   have hup:∀ c d,up g' c d=up g c d:=fun c d=>by rw[k2,h3]
   simp only[scanL]
   rw[hst,hbo,hup]
end
theorem scanL_bad {α δ:Type} {x:Nat} {st:α→δ→Ex×δ} {p:α→Bool} {r:α→δ→δ} {f:δ→α→δ} {ex:Ex} (he:ex≠.normal) (h:∀ e b,st e b=bif p e then (ex,r e b) else (.normal,f b e)):∀ (l:List α) (b:δ),
  (l.any p=true∧∃ a b',a∈l∧p a=true∧scanL x st l b=(ex,r a b'))∨(l.any p=false∧scanL x st l b=(.exit x,l.foldl f b))
 | [],b=>.inr ⟨rfl,rfl⟩
 | a :: l,b=>by
  simp only[scanL,h]
  cases hp:p a with
  | true=>
   left
   refine ⟨by simp[hp],a,b,List.mem_cons_self ..,hp,?_⟩
   cases ex <;> first | exact absurd rfl he | rfl
  | false=>
   simp only[cond_false]
   rcases scanL_bad (x:=x) (st:=st) he h l (f b a) with ⟨h1,a',b',h3,h4,h5⟩ | ⟨h1,h2⟩
   ·exact .inl ⟨by simp[h1],a',b',List.mem_cons_of_mem _ h3,h4,h5⟩
   ·exact .inr ⟨by simp[hp,h1],by rw[h2];rfl⟩
theorem kfind_at {f:Nat→Bool}:∀ (k e q:Nat),e≤q→q<e+k→(∀ i,e≤i→i<q→f i=false)→f q=true→kfind f k e=q
 | 0,e,q,h1,h2,_,_=>by omega
 | k+1,e,q,h1,h2,h3,h4=>by
  unfold kfind
  by_cases he:e=q
  ·subst he;rw[h4];rfl
  ·rw[h3 e (Nat.le_refl _) (by omega)]
   exact kfind_at k (e+1) q (by omega) (by omega) (fun i hi hq=>h3 i (by omega) hq) h4
end Go.Lp

namespace Go.Lp
open Go.Sx
variable [Env]
section
variable {α:Type} [DecidableEq α]
end
end Go.Lp

namespace Go.Lp
open Go.Sx
variable [Env]
section
variable {α:Type} [DecidableEq α]
end
end Go.Lp

namespace Go.Sx
def rw' {α:Type}:Result α→World
 | .ok _ w=>w
 | .halt _ w=>w
theorem ask_drawn {α:Type}:∀ (a:Ask α) (w:World),w.drawn≤(w.ask a).2.drawn
 | .done _,w=>by simp[World.ask]
 | .ask what range k,w=>by
  rw[World.ask]
  split
  ·exact ask_drawn (k 0) w
  ·exact Nat.le_trans (Nat.le_succ _) (ask_drawn _ { w with drawn:=w.drawn+1 })
theorem sys_drawn (w:World) (c:Sys):w.drawn≤(w.sys c).2.drawn:=by
 have h:=ask_drawn (Kernel.perform c w.os) w
 unfold World.sys
 split
 ·exact Nat.le_refl _
 ·rename_i he
  rw[he] at h
  exact h
theorem farStore_drawn {P:Program} {w w':World} {a:Addr} {v:Value} {b:Bool} {l:List Addr} (h:w.farStore P a v b=.ok (w',l)):w.drawn≤w'.drawn:=by
 unfold World.farStore at h
 split at h
 ·rename_i at_ u _
  split at h
  ·rename_i r hr
   injection h with h
   subst h
   unfold World.viewStore at hr
   simp only[bind,Except.bind,pure,Except.pure,throw,throwThe,MonadExceptOf.throw] at hr
   repeat' (first | (split at hr) | (cases hr))
   all_goals (first | exact Nat.le_refl _ | (simp at hr;done) | skip)
  ·cases h
 ·cases h
theorem run_drawn {α:Type} (P:Program):∀ (s:Sem α) (w:World),w.drawn≤(rw' (s.run P w)).drawn:=by
 intro s
 induction s with
 | pure a=>intro w;exact Nat.le_refl _
 | load m a k ih=>
  intro w
  simp only[Sem.run]
  split
  ·exact ih _ _
  ·split
   ·exact ih _ _
   ·exact Nat.le_refl _
 | store m a v k ih=>
  intro w
  cases v <;> simp only[Sem.run] <;> (try exact Nat.le_refl _)
  all_goals
   split
   ·split
    ·exact Nat.le_refl _
    ·exact ih (w.setCell a _)
   ·split
    ·rename_i h
     exact Nat.le_trans (farStore_drawn h) (ih _)
    ·exact Nat.le_refl _
 | new o k ih=>intro w;exact ih _ { w with heap:=w.heap.push o }
 | shape r k ih=>intro w;exact ih _ _
 | freeze a n k ih=>
  intro w
  have h:(w.freeze a n).drawn=w.drawn:=by unfold World.freeze;split <;> rfl
  have:=ih (w.freeze a n)
  rw[h] at this
  exact this
 | frozen a k ih=>intro w;exact ih _ _
 | getObj r k ih=>
  intro w
  simp only[Sem.run]
  split
  ·exact Nat.le_refl _
  ·exact ih _ _
  ·exact Nat.le_refl _
 | setObj r o k ih=>
  intro w
  simp only[Sem.run]
  split
  ·exact Nat.le_refl _
  ·exact ih { w with heap:=w.heap.setIfInBounds r o }
  ·exact Nat.le_refl _
 | choose q k ih=>
  intro w
  simp only[Sem.run]
  split
  ·exact ih _ _
  ·exact Nat.le_trans (Nat.le_succ _) (ih _ { w with drawn:=w.drawn+1 })
 | sys c k ih=>intro w;exact Nat.le_trans (sys_drawn w c) (ih _ _)
 | program k ih=>intro w;exact ih _ _
 | mark m k ih=>intro w;exact ih _
 | halt h=>intro w;exact Nat.le_refl _
theorem runT_drawn {α:Type} (P:Program) (s:Sem α) (w:World) (es:Array Event):w.drawn≤(rw' (s.runT P w es).1).drawn:=by
 rw[Sem.runT_fst];exact run_drawn P s w
section
variable {α:Type} {P:Program} {s:Sem α} {w w':World} {a:α} {es es':Array Event} {x:Halt}
theorem run_ok (h:s.run P w=.ok a w'):w.drawn≤w'.drawn:=by have:=run_drawn P s w;rw[h] at this;exact this
theorem run_halt (h:s.run P w=.halt x w'):w.drawn≤w'.drawn:=by have:=run_drawn P s w;rw[h] at this;exact this
theorem runT_ok (h:s.runT P w es=(.ok a w',es')):w.drawn≤w'.drawn:=by have:=runT_drawn P s w es;rw[h] at this;exact this
theorem runT_halt (h:s.runT P w es=(.halt x w',es')):w.drawn≤w'.drawn:=by have:=runT_drawn P s w es;rw[h] at this;exact this
theorem runT1_ok (h:(s.runT P w es).1=.ok a w'):w.drawn≤w'.drawn:=by have:=runT_drawn P s w es;rw[h] at this;exact this
theorem runT1_halt (h:(s.runT P w es).1=.halt x w'):w.drawn≤w'.drawn:=by have:=runT_drawn P s w es;rw[h] at this;exact this
end
def Up (n:Nat):GStep→Prop
 | .go _ w _=>n≤w.drawn
 | .comm _ _ _ _ w _=>n≤w.drawn
 | .spawn _ _ w _=>n≤w.drawn
 | .count _ w _=>n≤w.drawn
 | .timer _ _ w _=>n≤w.drawn
 | .alone _ _ w _=>n≤w.drawn
 | .newcoro _ _ _ w _=>n≤w.drawn
 | .coroswitch _ _ _ w _=>n≤w.drawn
 | .collect _ w _=>n≤w.drawn
 | .watch _ w _=>n≤w.drawn
 | .ended _ _ _=>True
theorem up_after {n:Nat} {es:Array Event} {s:GStep}:Up n (GStep.after es s)↔Up n s:=by cases s <;> exact Iff.rfl
theorem up_mono {n m:Nat} {s:GStep} (h:n≤m) (hu:Up m s):Up n s:=by
 cases s <;> first | exact trivial | exact Nat.le_trans h hu
theorem ite_up {n:Nat} {c:Prop} [Decidable c] {x y:GStep} (hx:Up n x) (hy:Up n y):Up n (if c then x else y):=by
 split
 ·exact hx
 ·exact hy
theorem elim_up {n:Nat} {α:Type} {o:Option α} {x:GStep} {f:α→GStep} (hx:Up n x) (hf:∀ a,Up n (f a)):Up n (o.elim x f):=by
 cases o
 ·exact hx
 ·exact hf _
theorem endWith_up (w:World) (fd:Nat) (text:ByteArray) (o:Outcome):Up w.drawn (endWith w fd text o):=by
 unfold endWith
 have:=sys_drawn w (.write fd text)
 generalize w.sys (.write fd text)=x at this ⊢
 obtain ⟨r,w'⟩:=x
 cases r <;> simp only <;> (try split) <;> exact trivial
theorem dieOf_up (fr:Frame) (l:List ByteArray) (m:String) (b:Bool) (w:World):Up w.drawn (dieOf fr l m b w):=Nat.le_refl _
theorem endThrow_up (fr:Frame) (m:String) (w:World):Up w.drawn (endThrow fr m w):=Nat.le_refl _
theorem endPrinting_up (P:Program) (fr:Frame) (v:Value) (w:World):Up w.drawn (endPrinting P fr v w):=by
 have:∀ o:Option String,Up w.drawn (match o with
  | some s=>endThrow fr ("panic while printing panic value"++s) w
  | none=>.ended (.unsupported (.noEntry "a panic in Error or String during the report of a panic, with a value that cannot be shown") "") w):=fun o=>by
  cases o with
  | some s=>exact endThrow_up _ _ _
  | none=>trivial
 exact this _
theorem endFatal_up (P:Program) (fr:Frame) (cs:List Frame) (d:Option Dying) (m:String) (w:World):Up w.drawn (endFatal P fr cs d m w):=by
 unfold endFatal
 simp only
 split
 ·rename_i w' h
  exact up_mono (run_ok h) (dieOf_up _ _ _ _ _)
 ·trivial
 ·trivial
theorem writeOn_up (P:Program) (fr:Frame) (d:Dying) (f:Fatal) (w:World):Up w.drawn (writeOn P fr d f w):=by
 unfold writeOn
 simp only
 split
 ·trivial
 ·split
  ·rename_i h
   exact runT_ok h
  ·rename_i h
   exact runT_halt h
  ·trivial
  ·trivial
theorem die_up (P:Program) (fr:Frame) (d:Dying) (w:World):Up w.drawn (die P fr d w):=by
 unfold die
 split
 ·exact writeOn_up _ _ _ _ _
 ·split
  ·split
   ·exact Nat.le_refl _
   ·exact endWith_up _ _ _ _
  ·simp only
   split
   ·exact Nat.le_refl _
   ·split
    ·rename_i h
     exact run_ok h
    ·trivial
   ·rw[up_after]
    split
    ·rename_i h;exact runT1_ok h
    ·rename_i h;exact runT1_ok h
    ·trivial
    ·rename_i h;exact up_mono (runT1_halt h) (endPrinting_up _ _ _ _)
    ·trivial
   ·trivial
theorem early_up (P:Program) (fr:Frame) (cs:List Frame) (d:Option Dying) (g:Nat) (w:World):Up w.drawn (early P fr cs d g w):=by
 have hn:∀ w':World,w.drawn≤w'.drawn→Up w.drawn (match w'.heap[g]? with
  | some (.pending c elem)=>
   .go { frame:=fr,callers:=cs,status:=.running,dying:=d } { w' with heap:=w'.heap.setIfInBounds g (.cells c elem) }
  | _=>.ended (.stuck "early: the variable does not wait" (fr.pos P)) w'):=fun w' h=>by
  split
  ·exact h
  ·trivial
 unfold early
 simp only
 repeat' split
 all_goals (first | exact trivial | exact Nat.le_refl _ | exact hn _ (Nat.le_refl _) | skip)
 all_goals (first | (rename_i h;have h9:=run_ok h;exact h9) | (rename_i h _;have h9:=run_ok h;exact h9) | (rename_i h _ _;have h9:=run_ok h;exact h9) | (rename_i h _ _ _;have h9:=run_ok h;exact h9) | (rename_i h _ _ _ _;have h9:=run_ok h;exact h9) | (rename_i h _ _ _ _ _;have h9:=run_ok h;exact h9) | (rename_i h _ _ _ _ _ _;have h9:=run_ok h;exact h9))
theorem doReturn_up (P:Program) (main:Bool) (fr:Frame) (cs:List Frame) (d:Option Dying) (v:Value) (w:World):Up w.drawn (doReturn P main fr cs d v w):=by
 unfold doReturn
 repeat' split
 all_goals (first | exact trivial | exact Nat.le_refl _)
theorem callDeferred_up (P:Program) (fr:Frame) (cs:List Frame) (dy:Option Dying) (d:Deferred) (w:World):Up w.drawn (callDeferred P fr cs dy d w):=by
 unfold callDeferred
 refine ite_up trivial ?_
 ·have:=runT_drawn P (invoke d.target d.args) w #[]
  simp only
  rw[up_after]
  generalize ((invoke d.target d.args).runT P w #[]).1=r at this ⊢
  repeat' split
  all_goals (first | exact trivial | exact this | exact up_mono this (endFatal_up _ _ _ _ _ _) | exact up_mono this (endThrow_up _ _ _))
theorem unwind_up (P:Program) (main:Bool) (fr:Frame) (cs:List Frame) (dy:Option Dying) (w:World):Up w.drawn (unwind P main fr cs dy w):=by
 unfold unwind
 split
 ·rename_i block _ _ _
  have:=runT_drawn P (Instr.takeDeferred block) w #[]
  simp only
  rw[up_after]
  generalize ((Instr.takeDeferred block).runT P w #[]).1=r at this ⊢
  split
  ·exact this
  ·trivial
 ·exact callDeferred_up _ _ _ _ _ _
 ·split
  ·trivial
  ·split
   ·trivial
   ·split
    ·exact Nat.le_refl _
    ·split
     ·split
      ·exact Nat.le_refl _
      ·split
       ·rename_i h
        exact run_ok h
       ·trivial
       ·trivial
     ·split
      ·exact endPrinting_up _ _ _ _
      ·trivial
  ·split
   ·exact doReturn_up _ _ _ _ _ _ _
   ·rename_i fn _
    have:=runT_drawn P (results fn fr.tmps) w #[]
    simp only
    rw[up_after]
    generalize ((results fn fr.tmps).runT P w #[]).1=r at this ⊢
    split
    ·exact up_mono this (doReturn_up _ _ _ _ _ _ _)
    ·trivial
    ·trivial
theorem apply_up (P:Program) (b:Bool) (fr:Frame) (cs:List Frame) (dy:Option Dying) (s:Sem Next) (w:World):Up w.drawn (stepG.apply P b fr cs dy s w):=by
 unfold stepG.apply
 have hr:w.drawn≤(rw' (if b=true then s.runT P w #[] else (s.run P w,#[])).1).drawn:=by
  split
  ·exact runT_drawn P s w #[]
  ·exact run_drawn P s w
 simp only
 rw[up_after]
 generalize (if b=true then s.runT P w #[] else (s.run P w,#[]))=x at hr ⊢
 obtain ⟨r,es⟩:=x
 simp only at hr ⊢
 split
 all_goals (try split)
 all_goals (first | exact trivial | exact hr | exact up_mono hr (endFatal_up _ _ _ _ _ _) | exact up_mono hr (endThrow_up _ _ _) | exact up_mono hr (early_up _ _ _ _ _ _) | exact ite_up (up_mono hr (endThrow_up _ _ _)) hr)
theorem oper_up (P:Program) (b:Bool) (fr:Frame) (cs:List Frame) (dy:Option Dying) (w:World):Up w.drawn (stepG.oper P b fr cs dy w):=by
 unfold stepG.oper
 split
 ·trivial
 ·split <;> exact apply_up _ _ _ _ _ _ _
theorem exec_up (P:Program) (main b:Bool) (fr:Frame) (cs:List Frame) (dy:Option Dying) (w:World):Up w.drawn (stepG.exec P main b fr cs dy w):=by
 unfold stepG.exec
 simp only
 split
 all_goals (try first | exact trivial | exact Nat.le_refl _ | exact apply_up _ _ _ _ _ _ _ | exact oper_up _ _ _ _ _ _)
 all_goals repeat' (first | exact trivial | exact Nat.le_refl _ | exact apply_up _ _ _ _ _ _ _ | exact oper_up _ _ _ _ _ _ | rw[up_after] | refine elim_up ?_ fun _=>?_ | split)
 all_goals (first | (exact up_mono (runT1_ok (by assumption)) (doReturn_up _ _ _ _ _ _ _)) | (exact up_mono (runT1_ok (by assumption)) (apply_up _ _ _ _ _ _ _)) | exact runT1_ok (by assumption) | exact runT1_halt (by assumption) | exact run_ok (by assumption))
theorem stepG_up (P:Program) (main:Bool) (g:Goroutine) (w:World) (b:Bool):Up w.drawn (stepG P main g w b):=by
 unfold stepG
 simp only
 split
 ·exact die_up _ _ _ _
 ·exact exec_up _ _ _ _ _ _ _
 ·exact unwind_up _ _ _ _ _ _
def UpS (n:Nat):Stepped→Prop
 | .next m=>n≤m.world.drawn
 | .ended _ _=>True
theorem upS_mono {n m:Nat} {s:Stepped} (h:n≤m) (hu:UpS m s):UpS n s:=by
 cases s <;> first | exact trivial | exact Nat.le_trans h hu
theorem look_up (P:Program) (gs:Array Goroutine) (rest:Rest) (w:World):UpS w.drawn (Go.look P gs rest w):=by
 unfold Go.look
 simp only
 repeat' split
 all_goals (first | exact trivial | (rename_i h;have h9:=run_ok h;exact h9) | (rename_i h _;have h9:=run_ok h;exact h9) | (rename_i h _ _;have h9:=run_ok h;exact h9) | (rename_i h _ _ _;have h9:=run_ok h;exact h9) | (rename_i h _ _ _ _;have h9:=run_ok h;exact h9) | (rename_i h _ _ _ _ _;have h9:=run_ok h;exact h9) | (rename_i h _ _ _ _ _ _;have h9:=run_ok h;exact h9))
theorem serve_up (P:Program) (m:Machine) (k:Nat):UpS m.world.drawn (serve P m k):=by
 unfold serve
 simp only
 repeat' split
 all_goals (first | exact trivial | exact Nat.le_refl _)
theorem drain_up (w:World) (c:Nat):w.drawn≤(drain w c).2.drawn:=by
 unfold drain
 split <;> exact Nat.le_refl _
theorem retime_up (m:Machine) (k:Nat) (t:Timer) (a b:Nat):m.world.drawn≤(retime m k t a b).2.world.drawn:=by
 unfold retime
 simp only
 split
 ·exact drain_up _ _
 ·exact Nat.le_refl _
theorem timerOp_up {m m':Machine} {op:TimerOp} {v:Value} (h:timerOp m op=.ok (v,m')):m.world.drawn≤m'.world.drawn:=by
 have hnm:∀ (m0:Machine) (var:Addr) (f:Nat→Timer→Value×Machine),(∀ k t,m.world.drawn≤(f k t).2.world.drawn)→timerOp.named m0 var f=.ok (v,m')→m.world.drawn≤m'.world.drawn:=fun m0 var f hf h=>by
  unfold timerOp.named at h
  split at h
  ·rename_i k _
   injection h with h
   have:=hf k (m0.rest.timers.getD k default)
   rw[h] at this
   exact this
  ·cases h
 unfold timerOp at h
 split at h
 ·split at h
  ·cases h;exact Nat.le_refl _
  ·split at h
   ·split at h
    ·cases h
    ·cases h;exact Nat.le_refl _
   ·cases h
 ·exact hnm _ _ _ (fun k t=>retime_up m k t _ _) h
 ·split at h
  ·rename_i m1 ho
   refine hnm _ _ _ (fun k t=>Nat.le_trans ?_ (retime_up m1 k t _ _)) h
   unfold timerOp.opened at ho
   split at ho
   ·split at ho
    ·cases ho;exact Nat.le_refl _
    ·cases ho
   ·cases ho;exact Nat.le_refl _
  ·cases h
 ·cases h;exact Nat.le_refl _
theorem communicate_up (P:Program) (rest:Rest) (gs:Array Goroutine) (i:Nat) (g:Goroutine) (cases_:Array CommCase) (b:Bool) (shape:CommShape) (w:World):UpS w.drawn (communicate P rest gs i g cases_ b shape w).1:=by
 unfold communicate
 simp only
 split
 ·trivial
 ·split
  ·split
   ·split
    ·rename_i h
     unfold waitingAt at h
     split at h
     ·split at h
      ·cases h;exact Nat.le_refl _
      ·cases h
     ·cases h;exact Nat.le_refl _
    ·trivial
   ·exact Nat.le_refl _
  ·split
   ·trivial
   ·rename_i hr
    have hr:=run_ok hr
    refine upS_mono hr ?_
    repeat' split
    all_goals (first | exact trivial | exact Nat.le_refl _ | (rename_i h;have h9:=run_ok h;exact h9) | (rename_i h _;have h9:=run_ok h;exact h9) | (rename_i h _ _;have h9:=run_ok h;exact h9) | (rename_i h _ _ _;have h9:=run_ok h;exact h9) | (rename_i h _ _ _ _;have h9:=run_ok h;exact h9) | (rename_i h _ _ _ _ _;have h9:=run_ok h;exact h9) | (rename_i h _ _ _ _ _ _;have h9:=run_ok h;exact h9) | (rename_i h;have h9:=run_halt h;exact h9) | (rename_i h _;have h9:=run_halt h;exact h9) | (rename_i h _ _;have h9:=run_halt h;exact h9) | (rename_i h _ _ _;have h9:=run_halt h;exact h9) | (rename_i h _ _ _ _;have h9:=run_halt h;exact h9) | (rename_i h _ _ _ _ _;have h9:=run_halt h;exact h9) | (rename_i h _ _ _ _ _ _;have h9:=run_halt h;exact h9))
theorem runT_up (P:Program) (m:Machine) (i:Nat) (b:Bool):UpS m.world.drawn (runT P m i b).1:=by
 unfold runT
 simp only
 generalize hs:stepG P (i==0) _ m.world b=s
 have hu:=stepG_up P (i==0) (m.gs.swapAt! i { (default:Goroutine) with status:=.finished }).1 m.world b
 rw[hs] at hu
 split
 ·trivial
 ·exact upS_mono hu (communicate_up _ _ _ _ _ _ _ _ _)
 ·exact hu
 ·exact hu
 ·split
  ·trivial
  ·exact hu
 ·exact hu
 ·exact upS_mono hu (look_up _ _ _ _)
 ·exact hu
 ·exact hu
 ·split
  ·exact hu
  ·split
   ·rename_i h
    cases h;exact hu
   ·trivial
  ·trivial
 ·split
  ·rename_i h
   have:=timerOp_up h
   exact Nat.le_trans hu this
  ·split
   ·rename_i h
    cases h;exact hu
   ·trivial
  ·trivial
  ·trivial
def UpM (n:Nat):Move→Prop
 | .goroutine m _=>n≤m.world.drawn
 | .machine s _=>UpS n s
theorem upM_mono {n m:Nat} {s:Move} (h:n≤m) (hu:UpM m s):UpM n s:=by
 cases s
 ·exact Nat.le_trans h hu
 ·exact upS_mono h hu
theorem pick_up (P:Program) (rs:List Nat) (m:Machine):UpM m.world.drawn (match (choose (.sched rs.length)).run P m.world with
   | .halt _ w=>.machine (.ended (.stuck "sched" "") w)
   | .ok k world=>
    if rs.length≤1 then .goroutine { m with world } (rs.getD k 0) else
    match (choose (.extern "sched.slice" 65536)).run P world with
    | .halt _ w=>.machine (.ended (.stuck "sched.slice" "") w)
    | .ok n world=>.goroutine { m with world,rest:={ m.rest with slice:=if n=0 then none else some (rs.getD k 0,n) } } (rs.getD k 0)):=by
 split
 ·trivial
 ·rename_i h1
  split
  ·exact run_ok h1
  ·split
   ·trivial
   ·rename_i h2
    exact Nat.le_trans (run_ok h1) (run_ok h2)
theorem askOn_up (P:Program) (m:Machine):UpM m.world.drawn (askOn P m):=by
 unfold askOn
 simp only
 split
 ·trivial
 ·rename_i world h
  have h0:=run_ok h
  split
  ·exact upS_mono h0 (serve_up P { m with world } _)
  ·split
   ·split
    ·exact h0
    ·split
     ·exact h0
     ·split <;> trivial
   ·split
    ·exact upM_mono h0 (pick_up P _ { m with world })
    ·split
     ·trivial
     ·rename_i h2
      have h3:=run_ok h2
      exact upM_mono (Nat.le_trans h0 h3) (pick_up P (runnable m.gs m.world.os.mono) { m with world:=_ })
     ·rename_i h2
      have h3:=run_ok h2
      exact Nat.le_trans h0 h3
     ·rename_i h2
      have h3:=run_ok h2
      exact upM_mono (Nat.le_trans h0 h3) (pick_up P (runnable m.gs m.world.os.mono) (Machine.advanceTo { m with world:=_ } _))
theorem ask_up (P:Program) (m:Machine):UpM m.world.drawn (ask P m):=by
 unfold ask
 split
 ·split
  ·trivial
  ·rename_i h
   have h1:=run_ok h
   have h2:=look_up P m.gs m.rest (by assumption)
   split
   ·rename_i h3
    rw[h3] at h2
    exact upM_mono (Nat.le_trans h1 h2) (askOn_up _ _)
   ·exact upS_mono h1 h2
  ·rename_i h
   exact upM_mono (run_ok h) (askOn_up _ _)
 ·exact askOn_up _ _
theorem move_up (P:Program) (m:Machine):UpM m.world.drawn (move P m):=by
 unfold move
 repeat' split
 all_goals (first | exact trivial | exact Nat.le_refl _ | exact ask_up _ _)
theorem step_up (P:Program) (m:Machine):UpS m.world.drawn (step P m):=by
 unfold step stepT
 have:=move_up P m
 split
 ·rename_i h
  rw[h] at this
  exact upS_mono this (runT_up _ _ _ _)
 ·rename_i h
  rw[h] at this
  exact this
theorem steps_up {P:Program} {m m':Machine} (h:Steps P m m'):m.world.drawn≤m'.world.drawn:=by
 obtain ⟨n,h⟩:=h
 induction n generalizing m with
 | zero=>simp only[runN,Stepped.next.injEq] at h;subst h;exact Nat.le_refl _
 | succ n ih=>
  simp only[runN] at h
  have:=step_up P m
  cases hst:step P m with
  | next m1=>
   rw[hst] at this h
   exact Nat.le_trans this (ih h)
  | ended o w=>
   rw[hst] at h
   cases h
theorem comes_up {P:Program} {m m':Machine} {v:Value} (h:Comes P m m' (.returned v)):m.world.drawn≤m'.world.drawn:=steps_up h
theorem calls_drawn {P:Program} {f:FuncId} {args:Array Value} {w:World} {R:Ending→World→Prop} (h:Calls P f args w R):Calls P f args w fun e w'=>R e w'∧∀ v,e=.returned v→w.drawn≤w'.drawn:=by
 intro cs
 obtain ⟨e,w',fr,h1,h2,h3⟩:=h cs
 refine ⟨e,w',fr,⟨h1,?_⟩,h2,h3⟩
 rintro v rfl
 exact comes_up h2
end Go.Sx

namespace Go.Sx
open Go.RowKit Go.Proofs Go.Sort
variable [Env]
theorem grow_of_below {w w':World} (h:Go.RowKit.Below w.heap.size w w') (hd:w.drawn≤w'.drawn):∃ q os,w'=grow (w.drewN q) os:=by
 refine ⟨w'.drawn - w.drawn,w'.heap.extract w.heap.size w'.heap.size,?_⟩
 have h1:w'.heap=w.heap++w'.heap.extract w.heap.size w'.heap.size:=by
  have hs:=h.size
  apply Array.ext_getElem?
  intro i
  by_cases hi:i<w.heap.size
  ·rw[h.block i hi,Array.getElem?_append_left hi]
  ·rw[Array.getElem?_append_right (by omega),Array.getElem?_extract]
   simp only[Nat.min_self]
   by_cases h2:i<w'.heap.size
   ·rw[if_pos (by omega)];congr 1;omega
   ·rw[if_neg (by omega)];exact Array.getElem?_eq_none (by omega)
 cases w'
 cases w
 simp only[grow,World.drewN] at *
 have e1:=h.os;have e2:=h.tape;have e3:=h.output
 simp only at e1 e2 e3
 subst e1;subst e2;subst e3
 rw[← h1]
 simp only[World.mk.injEq,true_and,and_true]
 omega
def Anti {α:Type} (cf:α→α→Int) (xs:List α):Prop:=∀ x∈xs,∀ y∈xs,¬ cf x y<0→¬ cf y x<0→x=y
def srtBy {α:Type} (cf:α→α→Int) (xs:List α):List α:=xs.mergeSort fun x y=>!decide (cf y x<0)
theorem pair_unique {α:Type} {le:α→α→Prop}:∀ {xs ys:List α},(∀ x∈xs,∀ y∈xs,le x y→le y x→x=y)→xs.Perm ys→xs.Pairwise le→ys.Pairwise le→xs=ys
 | [],ys,_,h,_,_=>by simpa using h
 | x :: xs,[],_,h,_,_=>by simp at h
 | x :: xs,y :: ys,ha,h,h1,h2=>by
  have hxy:x=y:=by
   have m1:x∈y :: ys:=h.subset (List.mem_cons_self ..)
   have m2:y∈x :: xs:=h.symm.subset (List.mem_cons_self ..)
   rcases List.mem_cons.1 m1 with rfl | m1
   ·rfl
   ·rcases List.mem_cons.1 m2 with rfl | m2
    ·rfl
    ·exact ha x (List.mem_cons_self ..) y (List.mem_cons_of_mem _ m2) ((List.pairwise_cons.1 h1).1 _ m2) ((List.pairwise_cons.1 h2).1 _ m1)
  subst hxy
  rw[pair_unique (fun a h3 b h4=>ha a (List.mem_cons_of_mem _ h3) b (List.mem_cons_of_mem _ h4)) (List.Perm.cons_inv h) (List.pairwise_cons.1 h1).2 (List.pairwise_cons.1 h2).2]
theorem srtBy_perm {α:Type} (cf:α→α→Int) (xs:List α):(srtBy cf xs).Perm xs:=List.mergeSort_perm _ _
theorem srtBy_sorted {α:Type} (cf:α→α→Int) (hO:SWO fun x y=>decide (cf x y<0)) (xs:List α):(srtBy cf xs).Pairwise fun x y=>¬ cf y x<0:=by
 have:=List.pairwise_mergeSort (le:=fun x y:α=>!decide (cf y x<0)) (fun a b c h1 h2=>by
  have:=hO.ntrans c b a
  simp_all) (fun a b=>by
  cases h:decide (cf b a<0) with
  | false=>simp
  | true=>
   cases h':decide (cf a b<0) with
   | false=>simp
   | true=>
    have:=hO.trans _ _ _ h h'
    rw[hO.irrefl] at this
    cases this) xs
 exact this.imp fun h=>by simpa using h
theorem srtBy_unique {α:Type} {cf:α→α→Int} (hO:SWO fun x y=>decide (cf x y<0)) {xs ys:List α} (ha:Anti cf xs) (hp:ys.Perm xs) (hs:ys.Pairwise fun x y=>¬ cf y x<0):ys=srtBy cf xs:=by
 refine pair_unique (le:=fun x y=>¬ cf y x<0) (fun x hx y hy h1 h2=>?_) (hp.trans (srtBy_perm cf xs).symm) hs (srtBy_sorted cf hO xs)
 exact ha x (hp.subset hx) y (hp.subset hy) h2 h1
theorem fits_map1 {n:Nat} {ρ:Rh} {l:List SV} {v:List Value} (h:l.all SV.one=true) (hf:SV.fits n ρ l v):∀ x∈v,x.oneCell'=true:=by
 induction l generalizing v with
 | nil=>have:=fits_nil hf;subst this;simp
 | cons s l ih=>
  obtain ⟨x,r,rfl,h1,h2⟩:=fits_cons hf
  simp only[List.all_cons,Bool.and_eq_true] at h
  intro y hy
  rcases List.mem_cons.1 hy with rfl | hy
  ·exact SV.one_fit h.1 h1
  ·exact ih h.2 h2 y hy
section
variable {P:Program} {ρ:Go.Shelf.Ren} {α:Type} {A:El α} {t g:Nat} {cf:α→α→Int} {pre:α×α→List Prop}
set_option maxHeartbeats 1000000 in
theorem sort_mut (L:SlLaysF0.n6 P ρ) (aE:∀ w,(isAgg (ρ.t 24)).run P w=.ok true w) (zE:∀ w,(Go.sizeOf (ρ.t 24)).run P w=.ok A.sz w) (hz:0<A.sz) (eg:∀ args w,(callFunc g args).run P w=.ok (.enter g args) w)
  (hO:SWO fun x y=>decide (cf x y<0)) (hcmp:FnPure P g (DA.cons (Dv.agg A) (DA.one (Dv.agg A))) (dInt .i64) (fun x=>cf x.1 x.2) pre) :
  FnMut P (ρ.f 6) t A (DA.one (dFn g)) (RM.pure (Dv.tup DA.none)) (fun xs _=>(srtBy cf xs,())) (fun xs _=>[xs.length<4611686018427387904,Anti cf xs,∀ x∈xs,∀ y∈xs,∀ p∈pre (x,y),p]):=by
 intro w F Lc0 xs _ v0 vs hF hE hFo hv0 hpre hrow hfit
 have hlen:=hpre _ (List.mem_cons_self ..)
 have hanti:=hpre _ (List.mem_cons_of_mem _ (List.mem_cons_self ..))
 have hpp:=hpre _ (List.mem_cons_of_mem _ (List.mem_cons_of_mem _ (List.mem_cons_self ..)))
 obtain ⟨vf,r,rfl,hvf,hr⟩:=fits_cons hfit
 have:=fits_nil hr
 subst this
 obtain ⟨lf,rfl,hlf⟩:=hvf
 have:=fits_nil hlf
 subst this
 cases hxs:xs with
 | nil=>
  subst hxs
  have hv:∃ p c,v0=.slice p 0 c:=by
   rcases hv0 with ⟨_,_,a,rfl⟩ | ⟨_,rfl⟩
   ·exact ⟨_,_,rfl⟩
   ·exact ⟨_,_,rfl⟩
  obtain ⟨p,c,rfl⟩:=hv
  refine (AnyF.slices_SortFunc_none L p c (.func (.func g) #[] #[]) w).mono ?_
  rintro e w' ⟨rfl,rfl⟩
  refine ⟨_,rfl,⟨rfl,rfl,rfl,Nat.le_refl _,fun _ _ _=>rfl⟩,?_,fun m i ρ' _ _ _=>⟨[],rfl,trivial⟩⟩
  have:srtBy cf ([]:List α)=[]:=by simp[srtBy]
  simp only[this]
  exact rowA_cl A (ρ:=emp F) (fun b o h=>by
   simp only[emp,memAt]
   have:=(Array.getElem?_eq_some_iff.1 (hF b o h)).1
   rw[if_pos this];exact h) hrow
 | cons x0 xs0=>
  have hpos:0<xs.length:=by rw[hxs];simp
  rw[← hxs]
  rcases hv0 with ⟨_,h0,_⟩ | ⟨hnl,rfl⟩
  ·omega
  rcases hrow.2 with ⟨h0,_⟩ | ⟨_,hoff,c,fz,hob,hfz,hcs,hmc,hcm,hall⟩
  ·rw[hnl] at h0;cases h0
  have hblk:Lc0.blk<w.heap.size:=(Array.getElem?_eq_some_iff.1 hob).1
  let β:Type:={ p:α×List Value // p.1∈xs∧p.2.length=A.sz∧SV.fits 0 (emp F) (A.cells p.1) p.2 }
  have hcell:∀ i (hi:i<xs.length),∃ l:List Value,l.length=A.sz∧SV.fits 0 (emp F) (A.cells xs[i]) l∧∀ j x,l[j]?=some x→c[i * A.sz+j]?=some x:=fun i hi=>by
   obtain ⟨l,q1,q2,q3⟩:=hall i hi
   refine ⟨l,q1,?_,fun j x h=>by simpa using q3 j x h⟩
   have e0:A.els xs i=A.cells xs[i]:=by simp[El.els,List.getD_eq_getElem?_getD,hi]
   rw[← e0]
   exact q2
  let mk:Fin xs.length→β:=fun i=>⟨(xs[i],Classical.choose (hcell i i.2)),List.getElem_mem _,(Classical.choose_spec (hcell i i.2)).1,(Classical.choose_spec (hcell i i.2)).2.1⟩
  letI:Inhabited β:=⟨mk ⟨0,hpos⟩⟩
  let d:Array β:=Array.ofFn mk
  have hds:d.size=xs.length:=by simp[d]
  have hdi:∀ i (hi:i<xs.length),d[i]! = mk ⟨i,hi⟩:=fun i hi=>by
   rw[getElem!_pos d i (by omega)]
   simp[d]
  let enc:β→List Value:=fun x=>x.1.2
  let cf':β→β→Int:=fun x y=>cf x.1.1 y.1.1
  have hO':SWO (ltOf cf'):={ irrefl:=fun x=>hO.irrefl x.1.1,trans:=fun x y z=>hO.trans x.1.1 y.1.1 z.1.1,ntrans:=fun x y z=>hO.ntrans x.1.1 y.1.1 z.1.1 }
  have hkl:∀ x,(enc x).length=A.sz:=fun x=>x.2.2.1
  have hflat:∀ j,j<xs.length * A.sz→c[j]?=some (flatK enc A.sz d)[j]!:=fun j hj=>by
   rw[get_flatK _ _ _ _ (by rw[hds];exact hj)]
   have hdv:j / A.sz<xs.length:=Nat.div_lt_of_lt_mul (by rw[Nat.mul_comm];exact hj)
   rw[hdi _ hdv]
   have hspec:=(Classical.choose_spec (hcell (j / A.sz) hdv)).2.2 (j % A.sz)
   have hl:(Classical.choose (hcell (j / A.sz) hdv)).length=A.sz:=(Classical.choose_spec (hcell (j / A.sz) hdv)).1
   have hm:j % A.sz<A.sz:=Nat.mod_lt _ hz
   have:=hspec (Classical.choose (hcell (j / A.sz) hdv))[j % A.sz] (by rw[List.getElem?_eq_getElem])
   rw[Nat.div_add_mod'] at this
   rw[this]
   show some _=some ((enc (mk ⟨j / A.sz,hdv⟩))[j % A.sz]!)
   rw[getElem!_pos]
  have hsz:(flatK enc A.sz d).size=xs.length * A.sz:=by rw[size_flatK,hds]
  have hcb:xs.length * A.sz≤c.size:=by rw[hcs];exact Nat.mul_le_mul_right _ hmc
  have hH:HoldsK enc A.sz w Lc0.blk 0 d:=by
   intro j hj
   rw[hsz] at hj
   constructor
   ·simp only[World.cell?,hob,Option.isSome_none,Bool.false_eq_true,if_false,id_eq,Nat.zero_add]
    exact hflat j hj
   ·simp only[World.frozen?,hob,Nat.zero_add]
    have:=hfz j (by omega)
    simp only[Bool.and_eq_false_iff,decide_eq_false_iff_not]
    exact Classical.not_and_iff_not_or_not.1 this
  have hmem:∀ (m:Nat) (dk:Array β) (os:Array Obj) b o,F b=some o→(sortWorldK enc A.sz w Lc0.blk 0 m dk os).heap[b]?=some o:=fun m dk os b o hb=>by
   have hne:b≠Lc0.blk:=by
    rintro rfl
    rw[hFo _ ⟨hnl,rfl⟩] at hb;cases hb
   have hlt:=(Array.getElem?_eq_some_iff.1 (hF b o hb)).1
   simp only[sortWorldK,grow,putRowK,putRow,mapBlock]
   rw[Array.getElem?_append_left (by simpa using hlt),Array.getElem?_modify,if_neg (fun h=>hne h.symm)]
   exact hF b o hb
  have hC:CmpLays P g #[] enc A.sz cf' Lc0.blk 0 d.size w:=by
   intro m os dk _ x y
   have hfx:∀ x:β,(SV.agg (A.cells x.1.1)).fit 0 (emp F) (.agg (enc x).toArray):=fun x=>⟨_,rfl,x.2.2.2⟩
   have:=calls_drawn (hcmp (sortWorldK enc A.sz w Lc0.blk 0 m dk os) F (x.1.1,y.1.1) [.agg (enc x).toArray,.agg (enc y).toArray] (hmem m dk os) hE (hpp _ x.2.1 _ y.2.1) ⟨hfx x,hfx y,trivial⟩)
   refine this.mono ?_
   rintro e w' ⟨⟨x',rfl,hb,hx⟩,hd⟩
   exact ⟨by have hx:x'=_:=hx;rw[hx],grow_of_below hb (hd _ rfl)⟩
  have hmain:=AnyQ.slices_SortFunc L A.sz aE zE enc hkl (fun x v hv=>fits_map1 (A.one x.1.1) x.2.2.2 v hv) cf' hO' g #[] Lc0.blk 0 Lc0.cap d w eg hC hH hblk (by rw[hds];exact hlen)
  rw[hds] at hmain
  refine hmain.mono ?_
  rintro e w' ⟨rfl,d',n,os,hp,hs,rfl⟩
  have hd's:d'.size=xs.length:=hp.1.trans hds
  have hys:d'.toList.map (fun x=>x.1.1)=srtBy cf xs:=by
   apply srtBy_unique hO hanti
   ·have h1:=hp.2.2
    have e1:d'.extract 0 xs.length=d':=by rw[← hd's];simp
    have e2:d.extract 0 xs.length=d:=by rw[← hds];simp
    rw[e1,e2] at h1
    have h2:=h1.map (fun x:β=>x.1.1)
    have e3:d.toList.map (fun x:β=>x.1.1)=xs:=by
     apply List.ext_getElem
     ·simp[hds]
     ·intro i h1 h2
      simp[d,mk]
    rw[e3] at h2
    exact h2
   ·rw[List.pairwise_map,List.pairwise_iff_getElem]
    intro i j hi hj hij
    have hi':i<d'.size:=by simpa using hi
    have hj':j<d'.size:=by simpa using hj
    have:=hs i j (Nat.zero_le _) hij (by omega)
    rw[getElem!_pos d' i hi',getElem!_pos d' j hj'] at this
    simpa [ltOf,cf'] using this
  have hblock:∀ k,k<w.heap.size→k≠Lc0.blk→(sortWorldK enc A.sz w Lc0.blk 0 n d' os).heap[k]?=w.heap[k]?:=fun k hk hne=>by
   simp only[sortWorldK,grow,putRowK,putRow,mapBlock]
   rw[Array.getElem?_append_left (by simpa using hk),Array.getElem?_modify,if_neg (fun h=>hne h.symm)]
   rfl
  have hnew:(sortWorldK enc A.sz w Lc0.blk 0 n d' os).heap[Lc0.blk]?=some (.cells (putCells id 0 (flatK enc A.sz d') c) t fz):=by
   simp only[sortWorldK,grow,putRowK,putRow,mapBlock]
   rw[Array.getElem?_append_left (by simpa using hblk),Array.getElem?_modify,if_pos rfl]
   show (w.heap[Lc0.blk]?).map _=_
   rw[hob]
   rfl
  have hle:w.heap.size≤(sortWorldK enc A.sz w Lc0.blk 0 n d' os).heap.size:=size_sortWorldK_c enc A.sz w Lc0.blk 0 n d' os
  refine ⟨_,rfl,⟨rfl,rfl,rfl,hle,fun k hk hB=>hblock k hk fun h=>hB ⟨hnl,h⟩⟩,?_,fun m i ρ' _ _ _=>⟨[],rfl,trivial⟩⟩
  have hylen:(srtBy cf xs).length=xs.length:=(srtBy_perm cf xs).length_eq
  have hmF:∀ b o,F b=some o→memAt F w (sortWorldK enc A.sz w Lc0.blk 0 n d' os) b=some o:=fun b o h=>by
   simp only[memAt]
   rw[if_pos (Array.getElem?_eq_some_iff.1 (hF b o h)).1];exact h
  refine ⟨by rw[hylen];exact hrow.1,.inr ⟨hnl,hoff,_,fz,hnew,by simpa [putCells] using hfz,by simpa [putCells] using hcs,by rw[hylen];exact hmc,hcm,fun e he=>?_⟩⟩
  rw[hylen] at he
  have hed:e<d'.size:=by omega
  refine ⟨enc d'[e],hkl _,?_,fun j x hx=>?_⟩
  ·have h1:(srtBy cf xs).getD e A.dflt=d'[e].1.1:=by
    rw[← hys,List.getD_eq_getElem?_getD]
    simp[hed]
   show SV.fits 0 _ (A.cells ((srtBy cf xs).getD e A.dflt)) _
   rw[h1]
   exact A.cl _ _ _ (emp F) _ _ hmF d'[e].2.2.2
  ·have hj:j<A.sz:=by
    have:=(List.getElem?_eq_some_iff.1 hx).1
    rw[hkl] at this;exact this
   have hlt:e * A.sz+j<xs.length * A.sz:=by
    have:=Nat.mul_le_mul_right A.sz (show e+1≤xs.length from he)
    rw[Nat.add_mul,Nat.one_mul] at this;omega
   have hcz:e * A.sz+j<c.size:=by omega
   simp only[putCells,Nat.zero_add,Array.getElem?_mapIdx,Array.getElem?_eq_getElem hcz,Option.map_some]
   rw[if_pos ⟨Nat.zero_le _,by rw[size_flatK,hd's];exact hlt⟩,Nat.sub_zero,id_eq,get_flatK _ _ _ _ (by rw[hd's];exact hlt)]
   have e1:(e * A.sz+j) / A.sz=e:=by
    rw[Nat.mul_comm,Nat.mul_add_div hz,Nat.div_eq_of_lt hj];rfl
   have e2:(e * A.sz+j) % A.sz=j:=by
    rw[Nat.mul_comm,Nat.mul_add_mod,Nat.mod_eq_of_lt hj]
   rw[e1,e2,getElem!_pos d' e hed]
   have hj2:j<(enc d'[e]).length:=by rw[hkl];exact hj
   rw[getElem!_pos (enc d'[e]) j hj2]
   rw[List.getElem?_eq_getElem hj2] at hx
   exact hx
end
end Go.Sx

namespace Go.Lp
open Go.Sx Go.Sort
variable [Env]
section
variable {α:Type} [DecidableEq α] {cf:α→α→Int}
structure TO (cf:α→α→Int):Prop where
 swo:SWO fun x y=>decide (cf x y<0)
 anti:∀ x y,¬ cf x y<0→¬ cf y x<0→x=y
theorem TO.irrefl (h:TO cf) (x:α):¬ cf x x<0:=by have:=h.swo.irrefl x;simpa using this
theorem TO.trans (h:TO cf) {x y z:α} (h1:cf x y<0) (h2:cf y z<0):cf x z<0:=by
 have:=h.swo.trans x y z (by simpa using h1) (by simpa using h2)
 simpa using this
theorem TO.asymm (h:TO cf) {x y:α} (h1:cf x y<0):¬ cf y x<0:=fun h2=>h.irrefl x (h.trans h1 h2)
theorem TO.lt_or (h:TO cf) {x y:α} (hne:x≠y) (h1:¬ cf x y<0):cf y x<0:=Classical.byContradiction fun h2=>hne (h.anti x y h1 h2)
end
end Go.Lp

namespace Go.Lp
open Go.Sx
variable [Env]
section
variable {α κ β:Type} [DecidableEq κ] (key:α→κ) (num:α→Int) (add:β→Int→β) (z:β) (d:MpE κ β)
def mputG (m:List (MpE κ β)×Nat) (x:α):List (MpE κ β)×Nat:=
 if m.1.findIdx (fun e=>decide (key x=e.1))<m.1.length then (m.1.set (m.1.findIdx fun e=>decide (key x=e.1)) (key x,add (m.1.getD (m.1.findIdx fun e=>decide (key x=e.1)) d).2.1 (num x),(m.1.getD (m.1.findIdx fun e=>decide (key x=e.1)) d).2.2),m.2)
 else (m.1++[(key x,add z (num x),(m.2:Int))],m.2+1)
def accK (xs:List α) (k:κ):β:=(xs.filter fun x=>decide (key x=k)).foldl (fun b x=>add b (num x)) z
def MapOf (xs:List α) (m:List (MpE κ β)×Nat):Prop:=Bn m.1 m.2∧Kd m.1∧(∀ k,(∃ e∈m.1,e.1=k)↔∃ x∈xs,key x=k)∧∀ e∈m.1,e.2.1=accK key num add z xs e.1
theorem accK_snoc (xs:List α) (x:α) (k:κ):accK key num add z (xs++[x]) k=if key x=k then add (accK key num add z xs k) (num x) else accK key num add z xs k:=by
 unfold accK
 rw[List.filter_append]
 by_cases h:key x=k
 ·rw[if_pos h];simp[h]
 ·rw[if_neg h];simp[h]
theorem accK_none {xs:List α} {k:κ} (h:¬ ∃ x∈xs,key x=k):accK key num add z xs k=z:=by
 unfold accK
 rw[List.filter_eq_nil_iff.2 fun x hx=>by simpa using fun e=>h ⟨x,hx,e⟩]
 rfl
theorem mput_of {xs:List α} {m:List (MpE κ β)×Nat} (h:MapOf key num add z xs m) (x:α):MapOf key num add z (xs++[x]) (mputG key num add z d m x):=by
 obtain ⟨hb,hk,h1,h2⟩:=h
 unfold mputG
 by_cases hi:m.1.findIdx (fun e=>decide (key x=e.1))<m.1.length
 ·rw[if_pos hi]
  have hx:=List.findIdx_getElem (w:=hi)
  generalize m.1.findIdx (fun e=>decide (key x=e.1))=i at hi hx
  have hx:key x=m.1[i].1:=by simpa using hx
  have hg:m.1.getD i d=m.1[i]:=by simp[List.getD_eq_getElem?_getD,hi]
  rw[hg]
  have hm:(m.1.set i (key x,add m.1[i].2.1 (num x),m.1[i].2.2)).map (fun e=>(e.1,e.2.2))=m.1.map fun e=>(e.1,e.2.2):=by
   rw[List.map_set,hx]
   apply List.ext_getElem
   ·simp
   ·intro j a b
    by_cases hj:i=j
    ·subst hj;simp
    ·simp[List.getElem_set,hj]
  have hmem:∀ e,e∈m.1.set i (key x,add m.1[i].2.1 (num x),m.1[i].2.2)→∃ e'∈m.1,e'.1=e.1∧e'.2.2=e.2.2:=fun e he=>by
   have:(e.1,e.2.2)∈(m.1.set i (key x,add m.1[i].2.1 (num x),m.1[i].2.2)).map fun e=>(e.1,e.2.2):=List.mem_map.2 ⟨e,he,rfl⟩
   rw[hm] at this
   obtain ⟨e',h3,h4⟩:=List.mem_map.1 this
   simp only[Prod.mk.injEq] at h4
   exact ⟨e',h3,h4.1,h4.2⟩
  refine ⟨⟨?_,fun e he=>?_⟩,?_,fun k=>?_,fun e he=>?_⟩
  ·have:=hb.1
   have h3:=(List.pairwise_map (f:=fun e:MpE κ β=>(e.1,e.2.2)) (R:=fun a b=>a.2<b.2)).2 this
   rw[← hm] at h3
   exact (List.pairwise_map (f:=fun e:MpE κ β=>(e.1,e.2.2)) (R:=fun a b=>a.2<b.2)).1 h3
  ·obtain ⟨e',h3,_,h4⟩:=hmem e he
   rw[← h4];exact hb.2 e' h3
  ·have h3:=(List.pairwise_map (f:=fun e:MpE κ β=>(e.1,e.2.2)) (R:=fun a b=>a.1≠b.1)).2 hk
   rw[← hm] at h3
   exact (List.pairwise_map (f:=fun e:MpE κ β=>(e.1,e.2.2)) (R:=fun a b=>a.1≠b.1)).1 h3
  ·constructor
   ·rintro ⟨e,he,rfl⟩
    obtain ⟨e',h3,h4,_⟩:=hmem e he
    obtain ⟨y,hy,hy'⟩:=(h1 e.1).1 ⟨e',h3,h4⟩
    exact ⟨y,List.mem_append_left _ hy,hy'⟩
   ·rintro ⟨y,hy,rfl⟩
    have:∃ e∈m.1,e.1=key y:=by
     rcases List.mem_append.1 hy with hy | hy
     ·exact (h1 _).2 ⟨y,hy,rfl⟩
     ·rw[List.mem_singleton.1 hy,hx]
      exact ⟨m.1[i],List.getElem_mem hi,rfl⟩
    obtain ⟨e,he,he'⟩:=this
    have h3:(e.1,e.2.2)∈m.1.map fun e=>(e.1,e.2.2):=List.mem_map.2 ⟨e,he,rfl⟩
    rw[← hm] at h3
    obtain ⟨e2,h4,h5⟩:=List.mem_map.1 h3
    simp only[Prod.mk.injEq] at h5
    exact ⟨e2,h4,by rw[h5.1];exact he'⟩
  ·obtain ⟨j,hj,rfl⟩:=List.getElem_of_mem he
   rw[List.length_set] at hj
   rw[List.getElem_set]
   by_cases hij:i=j
   ·rw[if_pos hij]
    subst hij
    simp only
    rw[accK_snoc,if_pos rfl,hx,h2 _ (List.getElem_mem hi)]
   ·rw[if_neg hij,accK_snoc,h2 _ (List.getElem_mem hj)]
    rw[if_neg]
    intro h3
    have hp:=List.pairwise_iff_getElem.1 hk
    have h3:=hx.symm.trans h3
    rcases Nat.lt_or_gt_of_ne hij with h4 | h4
    ·exact hp i j hi hj h4 h3
    ·exact hp j i hj hi h4 h3.symm
 ·rw[if_neg hi]
  have hno:∀ e∈m.1,key x≠e.1:=fun e he h3=>by
   apply hi
   have:=List.findIdx_lt_length_of_exists (p:=fun e:MpE κ β=>decide (key x=e.1)) ⟨e,he,by simpa using h3⟩
   exact this
  have hxs:¬ ∃ y∈xs,key y=key x:=fun h3=>by
   obtain ⟨e,he,h4⟩:=(h1 _).2 h3
   exact hno e he h4.symm
  refine ⟨⟨?_,fun e he=>?_⟩,?_,fun k=>?_,fun e he=>?_⟩
  ·rw[List.pairwise_append]
   refine ⟨hb.1,List.pairwise_singleton ..,fun a ha b hb'=>?_⟩
   rw[List.mem_singleton.1 hb']
   exact hb.2 a ha
  ·rcases List.mem_append.1 he with he | he
   ·have:=hb.2 e he
    show e.2.2<((m.2+1:Nat):Int)
    omega
   ·rw[List.mem_singleton.1 he]
    show (m.2:Int)<((m.2+1:Nat):Int)
    omega
  ·show (m.1++_).Pairwise _
   rw[List.pairwise_append]
   refine ⟨hk,List.pairwise_singleton ..,fun a ha b hb'=>?_⟩
   rw[List.mem_singleton.1 hb']
   exact fun h3=>hno a ha h3.symm
  ·constructor
   ·rintro ⟨e,he,rfl⟩
    rcases List.mem_append.1 he with he | he
    ·obtain ⟨y,hy,hy'⟩:=(h1 _).1 ⟨e,he,rfl⟩
     exact ⟨y,List.mem_append_left _ hy,hy'⟩
    ·rw[List.mem_singleton.1 he]
     exact ⟨x,List.mem_append_right _ (List.mem_singleton.2 rfl),rfl⟩
   ·rintro ⟨y,hy,rfl⟩
    rcases List.mem_append.1 hy with hy | hy
    ·obtain ⟨e,he,he'⟩:=(h1 _).2 ⟨y,hy,rfl⟩
     exact ⟨e,List.mem_append_left _ he,he'⟩
    ·rw[List.mem_singleton.1 hy]
     exact ⟨_,List.mem_append_right _ (List.mem_singleton.2 rfl),rfl⟩
  ·rcases List.mem_append.1 he with he | he
   ·rw[accK_snoc,if_neg (hno e he),h2 e he]
   ·rw[List.mem_singleton.1 he]
    simp only
    rw[accK_snoc,if_pos rfl,accK_none key num add z hxs]
theorem mapOf_nil:MapOf key num add z ([]:List α) (([],0):List (MpE κ β)×Nat):=⟨⟨List.Pairwise.nil,fun x hx=>by cases hx⟩,List.Pairwise.nil,fun k=>by simp,fun e he=>by cases he⟩
theorem mapOf_foldl:∀ (ys xs:List α) (m:List (MpE κ β)×Nat),MapOf key num add z xs m→MapOf key num add z (xs++ys) (ys.foldl (mputG key num add z d) m)
 | [],xs,m,h=>by simpa using h
 | y :: ys,xs,m,h=>by
  have:=mapOf_foldl ys (xs++[y]) _ (mput_of key num add z d h y)
  simpa using this
theorem mapOf_all (xs:List α):MapOf key num add z xs (xs.foldl (mputG key num add z d) ([],0)):=by
 have:=mapOf_foldl key num add z d xs [] _ (mapOf_nil key num add z)
 simpa using this
theorem mput_len (m:List (MpE κ β)×Nat) (x:α):(mputG key num add z d m x).1.length≤m.1.length+1:=by
 unfold mputG
 split <;> simp
theorem map_len:∀ (xs:List α) (m:List (MpE κ β)×Nat),(xs.foldl (mputG key num add z d) m).1.length≤m.1.length+xs.length
 | [],m=>Nat.le_refl _
 | x :: xs,m=>by
  have h1:=map_len xs (mputG key num add z d m x)
  have h2:=mput_len key num add z d m x
  rw[List.foldl_cons,List.length_cons]
  omega
end
section
variable {α κ:Type} [DecidableEq κ] (key:α→κ) (num:α→Int)
def sumK:List α→κ→Int
 | [],_=>0
 | x :: l,k=>(if key x=k then num x else 0)+sumK l k
theorem sumK_append:∀ (a b:List α) (k:κ),sumK key num (a++b) k=sumK key num a k+sumK key num b k
 | [],b,k=>by simp[sumK]
 | x :: a,b,k=>by
  simp only[List.cons_append,sumK]
  rw[sumK_append a b k]
  omega
theorem sumK_perm {a b:List α} (h:a.Perm b) (k:κ):sumK key num a k=sumK key num b k:=by
 induction h with
 | nil=>rfl
 | cons x _ ih=>simp only[sumK,ih]
 | swap x y l=>simp only[sumK];omega
 | trans _ _ ih1 ih2=>exact ih1.trans ih2
theorem sumK_none {xs:List α} {k:κ} (h:∀ x∈xs,key x≠k):sumK key num xs k=0:=by
 induction xs with
 | nil=>rfl
 | cons x xs ih=>
  simp only[sumK]
  rw[if_neg (h x (List.mem_cons_self ..)),ih fun y hy=>h y (List.mem_cons_of_mem _ hy)]
  rfl
theorem sumK_one {xs:List α} (hd:xs.Pairwise fun a b=>key a≠key b) {x:α} (hx:x∈xs):sumK key num xs (key x)=num x:=by
 induction xs with
 | nil=>cases hx
 | cons y xs ih=>
  rw[List.pairwise_cons] at hd
  simp only[sumK]
  rcases List.mem_cons.1 hx with rfl | hx
  ·rw[if_pos rfl,sumK_none key num fun z hz=>(hd.1 z hz).symm]
   simp
  ·rw[if_neg (hd.1 x hx),ih hd.2 hx]
   simp
variable (mk:κ→Int→α) (cf:κ→κ→Int)
def putK (x:α):List α→List α
 | []=>[x]
 | y :: r=>if cf (key x) (key y)<0 then x :: y :: r else if key x=key y then mk (key x) (num y+num x) :: r else y :: putK x r
def totK (xs:List α):List α:=xs.foldl (fun a x=>putK key num mk cf x a) []
def Srt (l:List α):Prop:=l.Pairwise fun a b=>cf (key a) (key b)<0
theorem srt_unique (h:TO cf) (he:∀ a b:α,key a=key b→num a=num b→a=b):∀ {l m:List α},Srt key cf l→Srt key cf m→(∀ x,x∈l↔x∈m)→l=m
 | [],[],_,_,_=>rfl
 | [],y :: m,_,_,he=>by have:=(he y).2 (List.mem_cons_self ..);cases this
 | x :: l,[],_,_,he=>by have:=(he x).1 (List.mem_cons_self ..);cases this
 | x :: l,y :: m,h1,h2,hm=>by
  unfold Srt at h1 h2
  rw[List.pairwise_cons] at h1 h2
  have hxy:x=y:=by
   have a:=(hm x).1 (List.mem_cons_self ..)
   have b:=(hm y).2 (List.mem_cons_self ..)
   rcases List.mem_cons.1 a with e | a
   ·exact e
   ·rcases List.mem_cons.1 b with e | b
    ·exact e.symm
    ·exact absurd (h1.1 y b) (h.asymm (h2.1 x a))
  subst hxy
  congr 1
  refine srt_unique h he h1.2 h2.2 fun z=>?_
  have:=hm z
  simp only[List.mem_cons] at this
  constructor
  ·intro hz
   rcases this.1 (.inr hz) with e | h3
   ·subst e;exact absurd (h1.1 z hz) (h.irrefl _)
   ·exact h3
  ·intro hz
   rcases this.2 (.inr hz) with e | h3
   ·subst e;exact absurd (h2.1 z hz) (h.irrefl _)
   ·exact h3
variable {mk} {cf}
theorem putK_key (h:TO cf) (hk:∀ k n,key (mk k n)=k) (x:α):∀ {l:List α} {k:κ},(∃ y∈putK key num mk cf x l,key y=k)↔key x=k∨∃ y∈l,key y=k
 | [],k=>by simp[putK]
 | y :: r,k=>by
  simp only[putK]
  split
  ·simp
  ·split
   ·rename_i he
    simp only[List.mem_cons,exists_eq_or_imp,hk]
    rw[he]
    constructor
    ·rintro (h | h)
     ·exact .inl h
     ·exact .inr (.inr h)
    ·rintro (h | h | h)
     ·exact .inl h
     ·exact .inl h
     ·exact .inr h
   ·have:=putK_key h hk x (l:=r) (k:=k)
    simp only[List.mem_cons,exists_eq_or_imp]
    rw[this]
    constructor
    ·rintro (h | h | h)
     ·exact .inr (.inl h)
     ·exact .inl h
     ·exact .inr (.inr h)
    ·rintro (h | h | h)
     ·exact .inr (.inl h)
     ·exact .inl h
     ·exact .inr (.inr h)
theorem putK_srt (h:TO cf) (hk:∀ k n,key (mk k n)=k) (x:α):∀ {l:List α},Srt key cf l→Srt key cf (putK key num mk cf x l)
 | [],_=>by simp[putK,Srt]
 | y :: r,hs=>by
  have hs':=hs
  unfold Srt at hs'
  rw[List.pairwise_cons] at hs'
  simp only[putK]
  split
  ·rename_i hl
   refine List.pairwise_cons.2 ⟨fun z hz=>?_,hs⟩
   rcases List.mem_cons.1 hz with rfl | hz
   ·exact hl
   ·exact h.trans hl (hs'.1 z hz)
  ·split
   ·rename_i he
    refine List.pairwise_cons.2 ⟨fun z hz=>?_,hs'.2⟩
    rw[hk,he]
    exact hs'.1 z hz
   ·rename_i hl he
    refine List.pairwise_cons.2 ⟨fun z hz=>?_,putK_srt h hk x hs'.2⟩
    rcases (putK_key key num h hk x (k:=key z)).1 ⟨z,hz,rfl⟩ with e | ⟨z',hz',e⟩
    ·rw[← e];exact h.lt_or he hl
    ·rw[← e];exact hs'.1 z' hz'
theorem putK_sum (h:TO cf) (hk:∀ k n,key (mk k n)=k) (hn:∀ k n,num (mk k n)=n) (x:α) (k:κ):∀ {l:List α},sumK key num (putK key num mk cf x l) k=sumK key num l k+if key x=k then num x else 0
 | []=>by simp[putK,sumK]
 | y :: r=>by
  simp only[putK]
  split
  ·simp only[sumK];omega
  ·split
   ·rename_i he
    simp only[sumK,hk,hn,he]
    split <;> omega
   ·simp only[sumK]
    rw[putK_sum h hk hn x k (l:=r)]
    omega
theorem totK_all (h:TO cf) (hk:∀ k n,key (mk k n)=k) (hn:∀ k n,num (mk k n)=n):∀ (xs a:List α),Srt key cf a→Srt key cf (xs.foldl (fun a x=>putK key num mk cf x a) a)∧(∀ k,(∃ y∈xs.foldl (fun a x=>putK key num mk cf x a) a,key y=k)↔(∃ y∈a,key y=k)∨∃ x∈xs,key x=k)∧∀ k,sumK key num (xs.foldl (fun a x=>putK key num mk cf x a) a) k=sumK key num a k+sumK key num xs k
 | [],a,ha=>⟨ha,fun k=>by simp,fun k=>by simp[sumK]⟩
 | x :: xs,a,ha=>by
  obtain ⟨h1,h2,h3⟩:=totK_all h hk hn xs (putK key num mk cf x a) (putK_srt key num h hk x ha)
  refine ⟨h1,fun k=>?_,fun k=>?_⟩
  ·rw[List.foldl_cons,h2 k,putK_key key num h hk x]
   simp only[List.mem_cons,exists_eq_or_imp]
   constructor
   ·rintro ((h | h) | h)
    ·exact .inr (.inl h)
    ·exact .inl h
    ·exact .inr (.inr h)
   ·rintro (h | h | h)
    ·exact .inl (.inr h)
    ·exact .inl (.inl h)
    ·exact .inr h
  ·rw[List.foldl_cons,h3 k,putK_sum key num h hk hn]
   simp only[sumK]
   omega
theorem srt_ne (h:TO cf) {l:List α} (hs:Srt key cf l):l.Pairwise fun a b=>key a≠key b:=hs.imp fun {a b} hl he=>by rw[he] at hl;exact h.irrefl _ hl
theorem totK_srt (h:TO cf) (hk:∀ k n,key (mk k n)=k) (hn:∀ k n,num (mk k n)=n) (xs:List α):Srt key cf (totK key num mk cf xs):=(totK_all key num h hk hn xs [] List.Pairwise.nil).1
theorem totK_mem (h:TO cf) (hk:∀ k n,key (mk k n)=k) (hn:∀ k n,num (mk k n)=n) (he:∀ a b:α,key a=key b→num a=num b→a=b) (xs:List α) (y:α):y∈totK key num mk cf xs↔(∃ x∈xs,key x=key y)∧num y=sumK key num xs (key y):=by
 obtain ⟨h1,h2,h3⟩:=totK_all key num h hk hn xs [] List.Pairwise.nil
 have h3':∀ k,sumK key num (totK key num mk cf xs) k=sumK key num xs k:=fun k=>by
  have:=h3 k
  simpa [sumK,totK] using this
 have h2':∀ k,(∃ y∈totK key num mk cf xs,key y=k)↔∃ x∈xs,key x=k:=fun k=>by
  have:=h2 k
  simpa [totK] using this
 have hd:=srt_ne key h h1
 constructor
 ·intro hy
  refine ⟨(h2' _).1 ⟨y,hy,rfl⟩,?_⟩
  rw[← h3']
  exact (sumK_one key num hd hy).symm
 ·rintro ⟨h4,h5⟩
  obtain ⟨y',hy',e⟩:=(h2' _).2 h4
  have h6:=sumK_one key num hd hy'
  rw[e] at h6
  have h7:y'=y:=he _ _ e (by rw[h5,← h3',← h6];rfl)
  rw[← h7];exact hy'
end
end Go.Lp

namespace Go.Lp
variable {α:Type}
def pcsF (k:Nat):Nat→List α→List (List α)
 | 0,_=>[]
 | n+1,l=>if l.length=0 then [] else l.take k :: pcsF k n (l.drop k)
theorem pcsF_fuel {k:Nat} (hk:0<k):∀ (n m:Nat) (l:List α),l.length≤n→l.length≤m→pcsF k n l=pcsF k m l
 | 0,0,_,_,_=>rfl
 | 0,m+1,l,h,_=>by
  have:l.length=0:=by omega
  simp only[pcsF]
  rw[if_pos this]
 | n+1,0,l,_,h=>by
  have:l.length=0:=by omega
  simp only[pcsF]
  rw[if_pos this]
 | n+1,m+1,l,h1,h2=>by
  simp only[pcsF]
  by_cases h0:l.length=0
  ·rw[if_pos h0,if_pos h0]
  ·rw[if_neg h0,if_neg h0,pcsF_fuel hk n m (l.drop k) (by rw[List.length_drop];omega) (by rw[List.length_drop];omega)]
def pieces (k:Nat) (l:List α):List (List α):=pcsF k l.length l
theorem pieces_nil {k:Nat} {l:List α} (h:l.length=0):pieces k l=[]:=by
 unfold pieces
 rw[h]
 rfl
theorem pieces_step {k:Nat} (hk:0<k) {l:List α} (h:l.length≠0):pieces k l=l.take k :: pieces k (l.drop k):=by
 unfold pieces
 obtain ⟨n,hn⟩:∃ n,l.length=n+1:=⟨l.length - 1,by omega⟩
 rw[hn]
 simp only[pcsF]
 rw[if_neg h,pcsF_fuel hk n (l.drop k).length (l.drop k) (by rw[List.length_drop];omega) (Nat.le_refl _)]
theorem pieces_ind {k:Nat} (hk:0<k) {Q:List α→List (List α)→Prop} (h0:∀ l,l.length=0→Q l []) (h1:∀ l,l.length≠0→Q (l.drop k) (pieces k (l.drop k))→Q l (l.take k :: pieces k (l.drop k))):∀ (n:Nat) (l:List α),l.length≤n→Q l (pieces k l)
 | 0,l,h=>by rw[pieces_nil (by omega)];exact h0 l (by omega)
 | n+1,l,h=>by
  by_cases hl:l.length=0
  ·rw[pieces_nil hl];exact h0 l hl
  ·rw[pieces_step hk hl]
   exact h1 l hl (pieces_ind hk h0 h1 n (l.drop k) (by rw[List.length_drop];omega))
theorem pieces_flat {k:Nat} (hk:0<k) (l:List α):(pieces k l).flatten=l:=
 pieces_ind hk (Q:=fun l p=>p.flatten=l) (fun l h=>(List.length_eq_zero_iff.1 h).symm) (fun l _ h=>by
  rw[List.flatten_cons,h,List.take_append_drop]) l.length l (Nat.le_refl _)
theorem pieces_size {k:Nat} (hk:0<k) (l:List α):∀ b∈pieces k l,0<b.length∧b.length≤k:=
 pieces_ind hk (Q:=fun _ p=>∀ b∈p,0<b.length∧b.length≤k) (fun l _ b hb=>by cases hb) (fun l hl h b hb=>by
  rcases List.mem_cons.1 hb with rfl | hb
  ·rw[List.length_take];omega
  ·exact h b hb) l.length l (Nat.le_refl _)
theorem pieces_len {k:Nat} (hk:0<k) (l:List α):(pieces k l).length≤l.length:=
 pieces_ind hk (Q:=fun l p=>p.length≤l.length) (fun l _=>Nat.zero_le _) (fun l hl h=>by
  rw[List.length_drop] at h
  rw[List.length_cons]
  omega) l.length l (Nat.le_refl _)
end Go.Lp
