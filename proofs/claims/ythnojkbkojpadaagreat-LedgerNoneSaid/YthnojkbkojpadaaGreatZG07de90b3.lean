/- A call to which rows of one's own are handed for good: they are frozen first. -/
import Derived.Test.YthnojkbkojpadaaGreatZG06943424
import Derived.Test.YthnojkbkojpadaaGreatZG00e125ff
set_option linter.unusedVariables false
set_option linter.unusedSimpArgs false
set_option linter.constructorNameAsVariable false
set_option linter.all false

namespace Go.Sx
open Go.RowKit
variable [Env]
def frzC (c:Con):Con:=fun args h=>asks (frzA h args).2.2 (c (frzA h args).1 (frzA h args).2.1)
section
variable {P:Program} {M:Nat→Prop} {w0 w:World}
theorem frzC_ok {f:Nat} {c:Con} (hc:FnOk P f c):FnOk P f (frzC c):=by
 intro M w0 w ρ h args vs K hK hm hf
 obtain ⟨hq,hK⟩:=asks_holds hK
 obtain ⟨ρ1,a1,m1,f1⟩:=frzA_ok hm hf hq
 have hnx:=(frzA_b args h).2
 refine (hc M w0 w ρ1 _ _ vs K hK m1 (by rw[hnx];exact f1)).mono ?_
 rintro e w' ⟨s,h',ρ',x,k1,k2,k3,k4,k5,k6⟩
 rw[hnx] at k2 k3
 exact ⟨s,h',ρ',x,k1,k2,a1.trans (Nat.le_refl _) k3,k4,k5,k6⟩
theorem frzC_b {c:Con} (hc:∀ args h,(c args h).Each fun y=>y.2=h):ConB (frzC c):=fun args h=>by
 have hb:=(frzA_b args h).1
 refine asks_each ?_
 have:=eq_b (hc (frzA h args).1 (frzA h args).2.1)
 rw[hb] at this
 exact this
def fconR {γ δ:Type} (D:DA γ) (R:Dv δ) (fn:γ→δ) (pre:γ→List Prop):BCon:=⟨frzC (conR D R fn pre),frzC_b (pconR D R fn pre).e⟩
theorem fconR_ok {f:Nat} {γ δ:Type} {D:DA γ} {R:Dv δ} {fn:γ→δ} {pre:γ→List Prop} (h:FnPure P f D R fn pre):FnOk P f (fconR D R fn pre).g:=frzC_ok (conR_ok h)
def okAll {α:Type} (A:El α) (n:Nat) (el:Nat→List SV):Bool:=(List.range n).all fun e=>match A.decs (el e) with
 | some (_,[])=>true
 | _=>false
theorem okAll_ok {α:Type} {A:El α} {n:Nat} {el:Nat→List SV} (h:okAll A n el=true):∀ e,e<n→A.Ok (el e):=fun e he=>by
 have:=List.all_eq_true.1 h e (by simpa using he)
 split at this
 ·rename_i a hd
  exact ⟨a,[],hd,by simp⟩
 ·cases this
def Dv.listB {α:Type} (A:El α):Dv (List α) where
 dec s:=match s with
  | .rs sz n el=>bif Nat.beq sz A.sz&&okAll A n el then some (A.lst n el,[]) else none
  | _=>none
 enc:=(Dv.list A).enc
 bd:=(Dv.list A).bd
 cl:=(Dv.list A).cl
 ok s a ps n ρ x hd hp hf:=by
  split at hd
  ·rename_i sz m el
   cases hb:(Nat.beq sz A.sz&&okAll A m el) with
   | false=>rw[hb] at hd;cases hd
   | true=>
    rw[hb] at hd
    simp only[cond_true,Option.some.injEq,Prod.mk.injEq] at hd
    obtain ⟨rfl,rfl⟩:=hd
    simp only[Bool.and_eq_true] at hb
    exact (Dv.list A).ok (.rs sz m el) _ [∀ e,e<m→A.Ok (el e)] n ρ x (by simp[Dv.list,hb.1]) (by
     intro p hp
     simp only[List.mem_singleton] at hp
     subst hp
     exact okAll_ok hb.2) hf
  ·cases hd
 fb:=(Dv.list A).fb
end
end Go.Sx

namespace Go.Sx
open Go.RowKit
variable [Env]
theorem okAll_els {α:Type} {A:El α} (hA:∀ a,A.decs (A.cells a)=some (a,[])) (xs:List α):∀ n,okAll A n (A.els xs)=true:=fun n=>by
 unfold okAll
 refine List.all_eq_true.2 fun e _=>?_
 simp only[El.els,hA]
def eListB {α:Type} (A:El α) (hA:∀ a,A.decs (A.cells a)=some (a,[])):El (List α):=.one' (.listB A) [] (fun _=>rfl) fun xs=>⟨[],by simp[Dv.listB,Dv.list,A.lst_els,okAll_els hA],by simp⟩
end Go.Sx

namespace Go.Sx
open Go.RowKit
variable [Env]
def dPrP {α:Type} (A:El α):Dv α where
 dec s:=match s with
  | .pr l=>A.decs (l.take A.sz)
  | _=>none
 enc a:=.pr (A.cells a)
 bd:=A.bd
 cl a:=cl_pr (A.cl a)
 ok s a ps n ρ x hd hp hf:=by
  split at hd
  ·obtain ⟨b,o,cs,t,fz,k1,k2,vs,k3,k4⟩:=hf
   refine ⟨b,o,cs,t,fz,k1,k2,vs.take A.sz,A.ok _ _ _ _ _ _ hd hp (fits_take _ k3),fun j v hv=>?_⟩
   rw[List.getElem?_take] at hv
   split at hv
   ·exact k4 j v hv
   ·cases hv
  ·cases hd
 fb a n ρ x hf:=by
  obtain ⟨b,o,cs,t,fz,k1,k2,vs,k3,k4⟩:=hf
  exact A.fb _ _ _ _ k3
end Go.Sx

namespace Go.Sx
open Go.RowKit
variable [Env]
section
variable {α:Type}
def Tr.asks1:Tr α→List Prop
 | .ret _=>[]
 | .br c a b=>bif c then a.asks1 else b.asks1
 | .ask p a=>p :: a.asks1
 | .giv _ a=>a.asks1
 | .all _=>[]
 | .bad _=>[]
def Tr.isAll:Tr α→Bool
 | .br c a b=>bif c then a.isAll else b.isAll
 | .ask _ a=>a.isAll
 | .giv _ a=>a.isAll
 | .all _=>true
 | _=>false
def Tr.kOf:Tr α→List Nat→Tr α
 | .br c a b,n=>bif c then a.kOf n else b.kOf n
 | .ask _ a,n=>a.kOf n
 | .giv _ a,n=>a.kOf n
 | .all k,n=>k n
 | t,_=>t
theorem Tr.kOf_holds {K:α→Prop}:∀ {t:Tr α},t.isAll=true→(∀ p∈t.asks1,p)→(∀ n,(t.kOf n).Holds K)→t.Holds K
 | .ret _,h,_,_=>by cases h
 | .br true a b,h,h1,h2=>⟨fun _=>Tr.kOf_holds (t:=a) h h1 h2,fun h=>by cases h⟩
 | .br false a b,h,h1,h2=>⟨fun h=>(by cases h),fun _=>Tr.kOf_holds (t:=b) h h1 h2⟩
 | .ask p a,h,h1,h2=>⟨h1 p (List.mem_cons_self ..),Tr.kOf_holds (t:=a) h (fun q hq=>h1 q (List.mem_cons_of_mem _ hq)) h2⟩
 | .giv _ a,h,h1,h2=>fun _=>Tr.kOf_holds (t:=a) h h1 h2
 | .all _,_,_,h2=>h2
 | .bad _,h,_,_=>by cases h
theorem Tr.fork_holds {K:α→Prop} {t:Tr α} (h:t.isAll=true) (h1:∀ p∈t.asks1,p) (h2:∀ (x:Nat) (n:List Nat),t.kOf (x :: n)=t.kOf [0]) (ha:(t.kOf []).Holds K) (hb:(t.kOf [0]).Holds K):t.Holds K:=
 Tr.kOf_holds h h1 fun n=>match n with
  | []=>ha
  | x :: n=>by rw[h2];exact hb
theorem Tr.leaf_holds {t:Tr α} {v:α} (d:α) (h:∀ p∈t.asksC,p) (hv:t.evC d=v):t.Holds (·=v):=by
 have:=Tr.asksC_holds d h
 rwa [hv] at this
end
end Go.Sx

namespace Go.Sx
open Go.RowKit
variable [Env]
def FzR (n:Nat) (h:SH) (fzs:List Nat) (ρ ρ':Rh):Prop:=∀ j∈fzs,∃ o,(h.get j).fit n ρ (ρ j) o∧((h.get j).own (ρ j)→ρ'.mem (ρ j).blk=o)
theorem FzR.left {n:Nat} {h:SH} {a b:List Nat} {ρ ρ':Rh} (hz:FzR n h (a++b) ρ ρ'):FzR n h a ρ ρ':=fun j hj=>hz j (List.mem_append_left _ hj)
theorem FzR.right {n:Nat} {h:SH} {a b:List Nat} {ρ ρ':Rh} (hz:FzR n h (a++b) ρ ρ'):FzR n h b ρ ρ':=fun j hj=>hz j (List.mem_append_right _ hj)
structure CRel (N k0:Nat) (h:SH) (ids:List (Option Nat)) (fzs:List Nat) (l cs:List SV) (blks:List SO):Prop where
 blk:∀ (k:Nat) (so:SO),blks[k]?=some so→(ids[k]?=some none∧NilSO so)∨∃ j:Nat,ids[k]?=some (some j)∧Ow so (h.get j)∧∀ (n m:Nat) (ρ ρ':Rh) (L:Lc) (o:Option Obj),Rn N k0 ids m ρ ρ'→FzR n h fzs ρ ρ'→(h.get j).fit n ρ L o→so.fit m ρ' L o
 fit:∀ (n m:Nat) (ρ ρ':Rh) (x:List Value),Rn N k0 ids m ρ ρ'→FzR n h fzs ρ ρ'→SV.fits n ρ l x→SV.fits m ρ' cs x
def OwE (so' so:SO):Prop:=(∀ L,so'.own L↔so.own L)∧∀ a,so'=.abs a↔so=.abs a
theorem owE_rfl {so:SO}:OwE so so:=⟨fun _=>Iff.rfl,fun _=>Iff.rfl⟩
theorem owE_na {so' so:SO} (h:∀ L,so'.own L↔so.own L) (h1:∀ a,so'≠.abs a:=by intro _ h;cases h) (h2:∀ a,so≠.abs a:=by intro _ h;cases h):OwE so' so:=⟨h,fun a=>⟨fun e=>absurd e (h1 a),fun e=>absurd e (h2 a)⟩⟩
def ShfB (n m:Nat) (ρ ρ':Rh) (bs bs':List SO):Prop:=∀ (k:Nat) (so:SO),bs[k]?=some so→∃ so',bs'[k]?=some so'∧OwE so' so∧∀ L o,so.fit n ρ L o→so'.fit m ρ' L o
structure CT (κ:Type) where
 R:Nat
 sz:Nat
 cells:Nat→κ→List SV
 blks:Nat→κ→List SO
 read:SH→List SV→Option (κ×List Prop×List (Option Nat)×List Nat)
 put:Nat→κ→Tr (List SV×List SO)
 blen:∀ b g,(blks b g).length=R
 clen:∀ b g,(cells b g).length=sz
 ilen:∀ h l g ps ids fzs,read h l=some (g,ps,ids,fzs)→ids.length=R
 ok:∀ N k0 h l g ps ids fzs,read h l=some (g,ps,ids,fzs)→(∀ p∈ps,p)→CRel N k0 h ids fzs l (cells (N+k0) g) (blks (N+k0) g)
 shf:∀ (b b':Nat) (g:κ) (n m:Nat) (ρ ρ':Rh),(∀ c o,ρ.mem c=some o→ρ'.mem c=some o)→(∀ k,k<R→ρ' (b'+k)=ρ (b+k))→b'+R≤m→(∀ x,SV.fits n ρ (cells b g) x→SV.fits m ρ' (cells b' g) x)∧ShfB n m ρ ρ' (blks b g) (blks b' g)
 putOk:∀ b g (K:List SV×List SO→Prop),(put b g).Holds K→K (cells b g,blks b g)
theorem shfB_nil {n m:Nat} {ρ ρ':Rh}:ShfB n m ρ ρ' [] []:=fun k so h=>by simp at h
theorem shfB_app {n m:Nat} {ρ ρ':Rh} {a a' b b':List SO} (hl:a.length=a'.length) (h1:ShfB n m ρ ρ' a a') (h2:ShfB n m ρ ρ' b b'):ShfB n m ρ ρ' (a++b) (a'++b'):=fun k so h=>by
 by_cases hk:k<a.length
 ·rw[List.getElem?_append_left hk] at h
  rw[List.getElem?_append_left (by omega)]
  exact h1 k so h
 ·rw[List.getElem?_append_right (by omega)] at h
  rw[List.getElem?_append_right (by omega),← hl]
  exact h2 _ so h
theorem shfB_cons {n m:Nat} {ρ ρ':Rh} {a a':SO} {b b':List SO} (h0:OwE a' a) (h1:∀ L o,a.fit n ρ L o→a'.fit m ρ' L o) (h2:ShfB n m ρ ρ' b b'):ShfB n m ρ ρ' (a :: b) (a' :: b'):=fun k so h=>by
 cases k with
 | zero=>
  simp only[List.getElem?_cons_zero,Option.some.injEq] at h
  subst h
  exact ⟨a',rfl,h0,h1⟩
 | succ k=>exact h2 k so (by simpa using h)
section
variable {κ α β:Type}
def CT.pl (A:El α):CT α where
 R:=0
 sz:=A.sz
 cells _ a:=A.cells a
 blks _ _:=[]
 read _ l:=match A.decs l with
  | some (a,ps)=>some (a,ps,[],[])
  | none=>none
 put _ a:=.ret (A.cells a,[])
 blen _ _:=rfl
 clen _ a:=A.len a
 ilen h l g ps ids fzs hr:=by
  split at hr
  ·simp only[Option.some.injEq,Prod.mk.injEq] at hr;rw[← hr.2.2.1];rfl
  ·cases hr
 ok N k0 h l g ps ids fzs hr hp:=by
  split at hr
  ·rename_i a ps' hd
   simp only[Option.some.injEq,Prod.mk.injEq] at hr
   obtain ⟨rfl,rfl,rfl,rfl⟩:=hr
   exact ⟨fun k so h=>by simp at h,fun n m ρ ρ' x hn _ hf=>A.cl a n m ρ ρ' x hn.ag.2.1 (A.ok _ _ _ _ _ _ hd hp hf)⟩
  ·cases hr
 shf b b' g n m ρ ρ' hm _ _:=⟨fun x hf=>A.cl g n m ρ ρ' x hm hf,shfB_nil⟩
 putOk _ _ _ h:=h
theorem ow_rn {N k0 n m j l l':Nat} {ids:List (Option Nat)} {ρ ρ':Rh} {x:Value} (hr:Rn N k0 ids m ρ ρ') (hi:ids[0]?=some (some j)) (hl:l'=l) (hf:(SV.ow j l).fit n ρ x):(SV.ow (N+k0) l').fit m ρ' x:=by
 obtain ⟨_,hor⟩:=hf
 have hk:0<ids.length:=by
  cases ids with
  | nil=>simp at hi
  | cons=>simp
 refine ⟨by have:=hr.le;omega,?_⟩
 have:=hr.yes 0 j hi
 rw[show N+k0+0=N+k0 from rfl] at this
 rw[this,hl]
 exact hor
def CT.row (t:TypeId) (A:El α):CT (List α) where
 R:=1
 sz:=1
 cells b xs:=[.ow b xs.length]
 blks _ xs:=[.row t A.sz (.fn (A.els xs)) xs.length]
 read h l:=match l with
  | [.ow j n]=>match h.get j with
   | .row t' sz el m=>bif Nat.beq t' t&&Nat.beq sz A.sz then some (A.lstE n el,(n≤m) :: A.okE n el,[some j],[]) else none
   | _=>none
  | [.k y]=>bif nilK y then some ([],[],[none],[]) else none
  | _=>none
 put b xs:=.ret ([.ow b xs.length],[.row t A.sz (.fn (A.els xs)) xs.length])
 blen _ _:=rfl
 clen _ _:=rfl
 ilen h l g ps ids fzs hr:=by
  split at hr
  ·split at hr
   ·rename_i j n t' sz el m hg
    cases hb:Nat.beq t' t&&Nat.beq sz A.sz with
    | false=>rw[hb] at hr;cases hr
    | true=>
     rw[hb] at hr
     simp only[cond_true,Option.some.injEq,Prod.mk.injEq] at hr
     rw[← hr.2.2.1];rfl
   ·cases hr
  ·rename_i y
   cases hb:nilK y with
   | false=>rw[hb] at hr;cases hr
   | true=>
    rw[hb] at hr
    simp only[cond_true,Option.some.injEq,Prod.mk.injEq] at hr
    rw[← hr.2.2.1];rfl
  ·cases hr
 ok N k0 h l g ps ids fzs hr hp:=by
  split at hr
  ·rename_i j n
   split at hr
   ·rename_i t' sz el m hg
    cases hb:Nat.beq t' t&&Nat.beq sz A.sz with
    | false=>rw[hb] at hr;cases hr
    | true=>
     rw[hb] at hr
     simp only[Bool.and_eq_true] at hb
     have e1:=beq_of hb.1
     have e2:=beq_of hb.2
     subst e1;subst e2
     simp only[cond_true,Option.some.injEq,Prod.mk.injEq] at hr
     obtain ⟨rfl,rfl,rfl,rfl⟩:=hr
     have hl:n≤m:=hp _ (List.mem_cons_self ..)
     have hk:∀ e,e<n→A.Ok (el e):=A.okE_ok n el fun p h'=>hp p (List.mem_cons_of_mem _ h')
     rw[A.lstE_eq]
     refine ⟨fun k so hso=>?_,fun n' m' ρ ρ' x hn hz hf=>?_⟩
     ·cases k with
      | succ k=>simp at hso
      | zero=>
       simp only[List.getElem?_cons_zero,Option.some.injEq] at hso
       subst hso
       rw[A.lst_length]
       refine .inr ⟨j,rfl,by rw[hg];exact ow_na fun _ h=>h,fun n' m' ρ ρ' L o hn hz hf=>?_⟩
       rw[hg] at hf
       refine row_so hl (fun e=>A.cl _) (fun e he n ρ v hv=>?_) hn.ag.2.1 hf
       show SV.fits n ρ (A.cells ((A.lst _ el).getD e A.dflt)) v
       rw[A.lst_getD _ _ _ he]
       obtain ⟨a,ps,d1,d2⟩:=hk e he
       have:=A.ok _ _ _ _ _ _ d1 d2 hv
       simpa only [El.get,d1] using this
     ·obtain ⟨y,r,rfl,hy,hr'⟩:=fits_cons hf
      exact ⟨ow_rn hn rfl (by rw[A.lst_length]) hy,by have:=fits_nil hr';subst this;trivial⟩
   ·cases hr
  ·rename_i y
   cases hb:nilK y with
   | false=>rw[hb] at hr;cases hr
   | true=>
    rw[hb] at hr
    simp only[cond_true,Option.some.injEq,Prod.mk.injEq] at hr
    obtain ⟨rfl,rfl,rfl,rfl⟩:=hr
    have:=nilK_eq hb
    subst this
    refine ⟨fun k so hso=>?_,fun n' m' ρ ρ' x hn hz hf=>?_⟩
    ·cases k with
     | succ k=>simp at hso
     | zero=>
      simp only[List.getElem?_cons_zero,Option.some.injEq] at hso
      subst hso
      exact .inl ⟨rfl,.inr ⟨_,_,_,rfl⟩⟩
    ·obtain ⟨y',r,rfl,hy,hr'⟩:=fits_cons hf
     refine ⟨⟨by have:=hn.le;simp only[List.length_cons,List.length_nil] at this;omega,.inl ?_⟩,by have:=fits_nil hr';subst this;trivial⟩
     have:=hn.no 0 rfl
     rw[show N+k0+0=N+k0 from rfl] at this
     rw[this]
     exact ⟨rfl,rfl,_,hy⟩
  ·cases hr
 shf b b' g n m ρ ρ' hm hk hb:=by
  have h0:=hk 0 (by omega)
  simp only[Nat.add_zero] at h0
  refine ⟨fun x hf=>?_,shfB_cons (owE_na fun _=>Iff.rfl) (fun L o hf=>rowA_cl A hm hf) shfB_nil⟩
  obtain ⟨y,r,rfl,hy,hr'⟩:=fits_cons hf
  refine ⟨⟨by omega,?_⟩,by have:=fits_nil hr';subst this;trivial⟩
  rw[h0]
  exact hy.2
 putOk _ _ _ h:=h
def CT.fz (t:TypeId) (A:El α):CT (List α) where
 R:=0
 sz:=1
 cells _ xs:=[(Dv.list A).enc xs]
 blks _ _:=[]
 read h l:=match l with
  | [.ow j n]=>match h.get j with
   | .row t' sz el m=>bif Nat.beq t' t&&Nat.beq sz A.sz then some (A.lstE n el,(n≤m) :: A.okE n el,[],[j]) else none
   | _=>none
  | [s]=>match (Dv.list A).dec s with
   | some (a,ps)=>some (a,ps,[],[])
   | none=>none
  | _=>none
 put b xs:=.ret ([(Dv.list A).enc xs],[])
 blen _ _:=rfl
 clen _ _:=rfl
 ilen h l g ps ids fzs hr:=by
  split at hr
  ·split at hr
   ·rename_i j n t' sz el m hg
    cases hb:Nat.beq t' t&&Nat.beq sz A.sz with
    | false=>rw[hb] at hr;cases hr
    | true=>
     rw[hb] at hr
     simp only[cond_true,Option.some.injEq,Prod.mk.injEq] at hr
     rw[← hr.2.2.1];rfl
   ·cases hr
  ·split at hr
   ·simp only[Option.some.injEq,Prod.mk.injEq] at hr;rw[← hr.2.2.1];rfl
   ·cases hr
  ·cases hr
 ok N k0 h l g ps ids fzs hr hp:=by
  split at hr
  ·rename_i j n
   split at hr
   ·rename_i t' sz el m hg
    cases hb:Nat.beq t' t&&Nat.beq sz A.sz with
    | false=>rw[hb] at hr;cases hr
    | true=>
     rw[hb] at hr
     simp only[Bool.and_eq_true] at hb
     have e2:=beq_of hb.2
     subst e2
     simp only[cond_true,Option.some.injEq,Prod.mk.injEq] at hr
     obtain ⟨rfl,rfl,rfl,rfl⟩:=hr
     have hl:n≤m:=hp _ (List.mem_cons_self ..)
     have hk:∀ e,e<n→A.Ok (el e):=A.okE_ok n el fun p h'=>hp p (List.mem_cons_of_mem _ h')
     refine ⟨fun k so hso=>by simp at hso,fun n' m' ρ ρ' x hn hz hf=>?_⟩
     obtain ⟨y,r,rfl,hy,hr'⟩:=fits_cons hf
     refine ⟨?_,by have:=fits_nil hr';subst this;trivial⟩
     obtain ⟨o,ho,hmem⟩:=hz j (List.mem_cons_self ..)
     rw[hg] at ho hmem
     rw[A.lstE_eq]
     have hlen:(A.lst n el).length=n:=A.lst_length _ _
     show (SV.rs A.sz (A.lst n el).length (A.els (A.lst n el))).fit m' ρ' y
     rw[hlen]
     obtain ⟨_,hor⟩:=hy
     rcases hor with ⟨h1,rfl,a,rfl⟩ | ⟨h1,h2,rfl⟩
     ·exact rs_nil0 _ _ _
     ·rcases ho.2 with ⟨k1,_⟩ | ⟨_,k2,c,fz,k3,_,k4,k5,k6,k7⟩
      ·rw[k1] at h1;cases h1
      ·refine ⟨_,_,rfl,h2,k6,fun _=>⟨(ρ j).blk,0,c,t',fz,rfl,by rw[hmem h1,k3],fun e he=>?_⟩⟩
       obtain ⟨v,q1,q2,q3⟩:=k7 e (by omega)
       obtain ⟨a,ps,d1,d2⟩:=hk e he
       refine ⟨v,q1,?_,q3⟩
       have q4:=A.cl a n' m' ρ ρ' _ hn.ag.2.1 (A.ok _ _ _ _ _ _ d1 d2 q2)
       show SV.fits m' ρ' (A.cells ((A.lst n el).getD e A.dflt)) v
       rw[A.lst_getD _ _ _ he]
       simpa only [El.get,d1] using q4
   ·cases hr
  ·rename_i s _
   split at hr
   ·rename_i a ps' hd
    simp only[Option.some.injEq,Prod.mk.injEq] at hr
    obtain ⟨rfl,rfl,rfl,rfl⟩:=hr
    refine ⟨fun k so h=>by simp at h,fun n m ρ ρ' x hn _ hf=>?_⟩
    obtain ⟨y,r,rfl,hy,hr'⟩:=fits_cons hf
    exact ⟨(Dv.list A).cl a n m ρ ρ' y hn.ag.2.1 ((Dv.list A).ok _ _ _ _ _ _ hd hp hy),by have:=fits_nil hr';subst this;trivial⟩
   ·cases hr
  ·cases hr
 shf b b' g n m ρ ρ' hm _ _:=⟨fun x hf=>by
  obtain ⟨y,r,rfl,hy,hr'⟩:=fits_cons hf
  exact ⟨(Dv.list A).cl g n m ρ ρ' y hm hy,by have:=fits_nil hr';subst this;trivial⟩,shfB_nil⟩
 putOk _ _ _ h:=h
def CT.map (ka va:Bool) (K:El α) (V:El β):CT (List (α×β×Int)×Nat) where
 R:=1
 sz:=1
 cells b _:=[.mp b]
 blks _ g:=[.map K.sz V.sz ka va (.fn ((El.ent K V).els g.1)) g.1.length g.2 false]
 read h l:=match l with
  | [.mp j]=>match h.get j with
   | .map ks vs ka' va' el m clk _=>bif Nat.beq ks K.sz&&(Nat.beq vs V.sz&&(ka==ka'&&va==va')) then some (((El.ent K V).lstE m el,clk),(El.ent K V).okE m el,[some j],[]) else none
   | _=>none
  | _=>none
 put b g:=.ret ([.mp b],[.map K.sz V.sz ka va (.fn ((El.ent K V).els g.1)) g.1.length g.2 false])
 blen _ _:=rfl
 clen _ _:=rfl
 ilen h l g ps ids fzs hr:=by
  split at hr
  ·split at hr
   ·rename_i j ks vs ka' va' el m clk pd hg
    cases hb:Nat.beq ks K.sz&&(Nat.beq vs V.sz&&(ka==ka'&&va==va')) with
    | false=>rw[hb] at hr;cases hr
    | true=>
     rw[hb] at hr
     simp only[cond_true,Option.some.injEq,Prod.mk.injEq] at hr
     rw[← hr.2.2.1];rfl
   ·cases hr
  ·cases hr
 ok N k0 h l g ps ids fzs hr hp:=by
  split at hr
  ·rename_i j
   split at hr
   ·rename_i ks vs ka' va' el m clk pd hg
    cases hb:Nat.beq ks K.sz&&(Nat.beq vs V.sz&&(ka==ka'&&va==va')) with
    | false=>rw[hb] at hr;cases hr
    | true=>
     rw[hb] at hr
     simp only[Bool.and_eq_true,beq_iff_eq] at hb
     obtain ⟨b1,b2,b3,b4⟩:=hb
     have e1:=beq_of b1
     have e2:=beq_of b2
     subst e1;subst e2;subst b3;subst b4
     simp only[cond_true,Option.some.injEq,Prod.mk.injEq] at hr
     obtain ⟨rfl,rfl,rfl,rfl⟩:=hr
     have hk:∀ e,e<m→(El.ent K V).Ok (el e):=El.okE_ok _ m el hp
     rw[El.lstE_eq]
     refine ⟨fun k so hso=>?_,fun n' m' ρ ρ' x hn hz hf=>?_⟩
     ·cases k with
      | succ k=>simp at hso
      | zero=>
       simp only[List.getElem?_cons_zero,Option.some.injEq] at hso
       subst hso
       refine .inr ⟨j,rfl,by rw[hg];exact ow_na fun _ h=>h,fun n' m' ρ ρ' L o hn hz hf=>?_⟩
       rw[hg] at hf
       obtain ⟨f1,f2,⟨es,f3,f4,f5,f6⟩,_⟩:=hf
       rw[El.lst_length]
       refine ⟨f1,f2,⟨es,f3,f4,f5,fun e he=>?_⟩,fun h=>by cases h⟩
       obtain ⟨y,kc,vc,q1,q2,q3⟩:=f6 e he
       obtain ⟨a,ps,d1,d2⟩:=hk e he
       refine ⟨y,kc,vc,q1,?_,q3⟩
       have:=(El.ent K V).cl a n' m' ρ ρ' _ hn.ag.2.1 ((El.ent K V).ok _ _ _ _ _ _ d1 d2 q2)
       show SV.fits m' ρ' ((El.ent K V).cells (((El.ent K V).lst m el).getD e (El.ent K V).dflt)) _
       rw[El.lst_getD _ _ _ _ he]
       simpa only [El.get,d1] using this
     ·obtain ⟨y,r,rfl,hy,hr'⟩:=fits_cons hf
      refine ⟨⟨by have:=hn.le;simp only[List.length_cons,List.length_nil] at this;omega,?_⟩,by have:=fits_nil hr';subst this;trivial⟩
      have:=hn.yes 0 j rfl
      rw[show N+k0+0=N+k0 from rfl] at this
      rw[this]
      exact hy.2
   ·cases hr
  ·cases hr
 shf b b' g n m ρ ρ' hm hk hb:=by
  have h0:=hk 0 (by omega)
  simp only[Nat.add_zero] at h0
  refine ⟨fun x hf=>?_,shfB_cons (owE_na fun _=>Iff.rfl) (fun L o hf=>?_) shfB_nil⟩
  ·obtain ⟨y,r,rfl,hy,hr'⟩:=fits_cons hf
   refine ⟨⟨by omega,?_⟩,by have:=fits_nil hr';subst this;trivial⟩
   rw[h0]
   exact hy.2
  ·obtain ⟨f1,f2,⟨es,f3,f4,f5,f6⟩,f7⟩:=hf
   refine ⟨f1,f2,⟨es,f3,f4,f5,fun e he=>?_⟩,f7⟩
   obtain ⟨y,kc,vc,q1,q2,q3⟩:=f6 e he
   exact ⟨y,kc,vc,q1,(El.ent K V).cl _ _ _ _ _ _ hm q2,q3⟩
 putOk _ _ _ h:=h
theorem Rn.tail {N k0 m j:Nat} {ids:List (Option Nat)} {ρ ρ':Rh} (h:Rn N k0 (some j :: ids) m ρ ρ'):Rn N (k0+1) ids m ρ ρ':=Rn.right (is:=[some j]) h
def CT.ptr (t:TypeId) (C:CT κ):CT κ where
 R:=C.R+1
 sz:=1
 cells b _:=[.p b 0]
 blks b g:=.cells (C.cells (b+1) g) t :: C.blks (b+1) g
 read h l:=match l with
  | [.p j 0]=>match h.get j with
   | .cells xs t'=>bif Nat.beq t' t then match C.read h xs with
    | some (g,ps,ids,fzs)=>some (g,ps,some j :: ids,fzs)
    | none=>none else none
   | _=>none
  | _=>none
 put b g:=(C.put (b+1) g).bind fun y=>.ret ([.p b 0],.cells y.1 t :: y.2)
 blen b g:=by simp[C.blen]
 clen _ _:=rfl
 ilen h l g ps ids fzs hr:=by
  split at hr
  ·split at hr
   ·rename_i j xs t' hg
    cases hb:Nat.beq t' t with
    | false=>rw[hb] at hr;cases hr
    | true=>
     rw[hb] at hr
     simp only[cond_true] at hr
     split at hr
     ·rename_i g' ps' ids' fz' hc
      simp only[Option.some.injEq,Prod.mk.injEq] at hr
      rw[← hr.2.2.1,List.length_cons,C.ilen _ _ _ _ _ _ hc]
     ·cases hr
   ·cases hr
  ·cases hr
 ok N k0 h l g ps ids fzs hr hp:=by
  split at hr
  ·rename_i j
   split at hr
   ·rename_i xs t' hg
    cases hb:Nat.beq t' t with
    | false=>rw[hb] at hr;cases hr
    | true=>
     have:=beq_of hb
     subst this
     rw[hb] at hr
     simp only[cond_true] at hr
     split at hr
     ·rename_i g' ps' ids' fz' hc
      simp only[Option.some.injEq,Prod.mk.injEq] at hr
      obtain ⟨rfl,rfl,rfl,rfl⟩:=hr
      have hC:=C.ok N (k0+1) h xs g' ps' ids' fz' hc hp
      rw[show N+(k0+1)=N+k0+1 by omega] at hC
      refine ⟨fun k so hso=>?_,fun n' m' ρ ρ' x hn hz hf=>?_⟩
      ·cases k with
       | succ k=>
        rcases hC.blk k so (by simpa using hso) with ⟨h1,h2⟩ | ⟨i,h1,h2,h3⟩
        ·exact .inl ⟨by simpa using h1,h2⟩
        ·exact .inr ⟨i,by simpa using h1,h2,fun n m ρ ρ' L o hn hz=>h3 n m ρ ρ' L o hn.tail hz⟩
       | zero=>
        simp only[List.getElem?_cons_zero,Option.some.injEq] at hso
        subst hso
        refine .inr ⟨j,rfl,by rw[hg];exact ow_na fun _ _=>trivial,fun n' m' ρ ρ' L o hn hz hf=>?_⟩
        rw[hg] at hf
        obtain ⟨f1,f2,l,f3,f4⟩:=hf
        exact ⟨f1,f2,l,f3,hC.fit n' m' ρ ρ' l hn.tail hz f4⟩
      ·obtain ⟨y,r,rfl,hy,hr'⟩:=fits_cons hf
       refine ⟨⟨by have:=hn.le;simp only[List.length_cons,List.length_nil] at this;omega,?_⟩,by have:=fits_nil hr';subst this;trivial⟩
       have:=hn.yes 0 j rfl
       rw[show N+k0+0=N+k0 from rfl] at this
       rw[this]
       exact hy.2
     ·cases hr
   ·cases hr
  ·cases hr
 shf b b' g n m ρ ρ' hm hk hb:=by
  have h0:=hk 0 (by omega)
  simp only[Nat.add_zero] at h0
  obtain ⟨s1,s2⟩:=C.shf (b+1) (b'+1) g n m ρ ρ' hm (fun k hk'=>by
   have:=hk (k+1) (by omega)
   rw[show b'+1+k=b'+(k+1) by omega,show b+1+k=b+(k+1) by omega]
   exact this) (by omega)
  refine ⟨fun x hf=>?_,shfB_cons (owE_na fun _=>Iff.rfl) (fun L o hf=>?_) s2⟩
  ·obtain ⟨y,r,rfl,hy,hr'⟩:=fits_cons hf
   refine ⟨⟨by omega,?_⟩,by have:=fits_nil hr';subst this;trivial⟩
   rw[h0]
   exact hy.2
  ·obtain ⟨f1,f2,l,f3,f4⟩:=hf
   exact ⟨f1,f2,l,f3,s1 l f4⟩
 putOk b g K h:=C.putOk (b+1) g _ (Tr.holds_bind h)
def CT.pair (A:CT α) (B:CT β):CT (α×β) where
 R:=A.R+B.R
 sz:=A.sz+B.sz
 cells b g:=A.cells b g.1++B.cells (b+A.R) g.2
 blks b g:=A.blks b g.1++B.blks (b+A.R) g.2
 read h l:=match A.read h (l.take A.sz) with
  | some (a,ps,is,fs)=>match B.read h (l.drop A.sz) with
   | some (b,qs,js,gs)=>some ((a,b),ps++qs,is++js,fs++gs)
   | none=>none
  | none=>none
 put b g:=(A.put b g.1).bind fun x=>(B.put (b+A.R) g.2).bind fun y=>.ret (x.1++y.1,x.2++y.2)
 blen b g:=by simp[A.blen,B.blen]
 clen b g:=by simp[A.clen,B.clen]
 ilen h l g ps ids fzs hr:=by
  split at hr
  ·rename_i a ps0 is fs ha
   split at hr
   ·rename_i b qs js gs hb
    simp only[Option.some.injEq,Prod.mk.injEq] at hr
    obtain ⟨rfl,rfl,rfl,rfl⟩:=hr
    simp[A.ilen _ _ _ _ _ _ ha,B.ilen _ _ _ _ _ _ hb]
   ·cases hr
  ·cases hr
 ok N k0 h l g ps ids fzs hr hp:=by
  split at hr
  ·rename_i a ps0 is fs ha
   split at hr
   ·rename_i b qs js gs hb
    simp only[Option.some.injEq,Prod.mk.injEq] at hr
    obtain ⟨rfl,rfl,rfl,rfl⟩:=hr
    have ra:=A.ok N k0 _ _ _ _ _ _ ha fun p h=>hp p (List.mem_append_left _ h)
    have rb:=B.ok N (k0+A.R) _ _ _ _ _ _ hb fun p h=>hp p (List.mem_append_right _ h)
    have la:=A.ilen _ _ _ _ _ _ ha
    have lr:=A.blen (N+k0) a
    have e:N+k0+A.R=N+(k0+A.R):=by omega
    simp only[e]
    refine ⟨fun k so h=>?_,fun n m ρ ρ' x hn hz hf=>?_⟩
    ·by_cases hk:k<A.R
     ·rw[List.getElem?_append_left (by omega)] at h
      rw[List.getElem?_append_left (by omega)]
      rcases ra.blk k so h with h1 | ⟨j,h1,h2,h3⟩
      ·exact .inl h1
      ·exact .inr ⟨j,h1,h2,fun n m ρ ρ' L o hr hz=>h3 n m ρ ρ' L o hr.left hz.left⟩
     ·rw[List.getElem?_append_right (by omega)] at h
      rw[List.getElem?_append_right (by omega),la]
      rw[lr] at h
      rcases rb.blk (k - A.R) so h with h1 | ⟨j,h1,h2,h3⟩
      ·exact .inl h1
      ·exact .inr ⟨j,h1,h2,fun n m ρ ρ' L o hr hz=>h3 n m ρ ρ' L o (la▸hr.right) hz.right⟩
    ·have f1:=ra.fit n m ρ ρ' _ hn.left hz.left (fits_take A.sz hf)
     have f2:=rb.fit n m ρ ρ' _ (la▸hn.right) hz.right (fits_drop A.sz hf)
     have:=fits_append f1 f2
     rwa [List.take_append_drop] at this
   ·cases hr
  ·cases hr
 shf b b' g n m ρ ρ' hm hk hb:=by
  obtain ⟨s1,s2⟩:=A.shf b b' g.1 n m ρ ρ' hm (fun k hk'=>hk k (by omega)) (by omega)
  obtain ⟨t1,t2⟩:=B.shf (b+A.R) (b'+A.R) g.2 n m ρ ρ' hm (fun k hk'=>by
   have:=hk (A.R+k) (by omega)
   rw[show b'+A.R+k=b'+(A.R+k) by omega,show b+A.R+k=b+(A.R+k) by omega]
   exact this) (by omega)
  refine ⟨fun x hf=>?_,shfB_app (by rw[A.blen,A.blen]) s2 t2⟩
  have h1:=fits_take A.sz hf
  have h2:=fits_drop A.sz hf
  rw[List.take_left' (A.clen _ _)] at h1
  rw[List.drop_left' (A.clen _ _)] at h2
  have:=fits_append (s1 _ h1) (t1 _ h2)
  rwa [List.take_append_drop] at this
 putOk b g K h:=B.putOk _ _ _ (Tr.holds_bind (A.putOk _ _ _ (Tr.holds_bind h)))
def CT.iso (A:CT α) (f:α→β) (g:β→α) (hgf:∀ a,g (f a)=a):CT β where
 R:=A.R
 sz:=A.sz
 cells b d:=A.cells b (g d)
 blks b d:=A.blks b (g d)
 read h l:=match A.read h l with
  | some (a,ps,is,fs)=>some (f a,ps,is,fs)
  | none=>none
 put b d:=A.put b (g d)
 blen b d:=A.blen _ _
 clen b d:=A.clen _ _
 ilen h l d ps ids fzs hr:=by
  split at hr
  ·rename_i a ps0 is fs ha
   simp only[Option.some.injEq,Prod.mk.injEq] at hr
   obtain ⟨rfl,rfl,rfl,rfl⟩:=hr
   exact A.ilen _ _ _ _ _ _ ha
  ·cases hr
 ok N k0 h l d ps ids fzs hr hp:=by
  split at hr
  ·rename_i a ps0 is fs ha
   simp only[Option.some.injEq,Prod.mk.injEq] at hr
   obtain ⟨rfl,rfl,rfl,rfl⟩:=hr
   rw[hgf]
   exact A.ok N k0 _ _ _ _ _ _ ha hp
  ·cases hr
 shf b b' d n m ρ ρ':=A.shf b b' (g d) n m ρ ρ'
 putOk b d K h:=A.putOk b (g d) K h
def CT.opt (A:CT α) (d:α) (h1:A.sz=1):CT (Option α) where
 R:=A.R
 sz:=1
 cells b g:=match g with
  | some a=>A.cells b a
  | none=>[.k (.pointer none)]
 blks b g:=match g with
  | some a=>A.blks b a
  | none=>List.replicate A.R .dead
 read h l:=match l with
  | [.k (.pointer none)]=>some (none,[],List.replicate A.R none,[])
  | l=>match A.read h l with
   | some (a,ps,is,fs)=>some (some a,ps,is,fs)
   | none=>none
 put b g:=.br g.isSome (A.put b (g.getD d)) (.ret ([.k (.pointer none)],List.replicate A.R .dead))
 blen b g:=by cases g <;> simp[A.blen]
 clen b g:=by cases g <;> simp[A.clen,h1]
 ilen h l g ps ids fzs hr:=by
  split at hr
  ·simp only[Option.some.injEq,Prod.mk.injEq] at hr
   rw[← hr.2.2.1];simp
  ·split at hr
   ·rename_i a ps0 is fs ha
    simp only[Option.some.injEq,Prod.mk.injEq] at hr
    obtain ⟨rfl,rfl,rfl,rfl⟩:=hr
    exact A.ilen _ _ _ _ _ _ ha
   ·cases hr
 ok N k0 h l g ps ids fzs hr hp:=by
  split at hr
  ·simp only[Option.some.injEq,Prod.mk.injEq] at hr
   obtain ⟨rfl,rfl,rfl,rfl⟩:=hr
   refine ⟨fun k so hso=>?_,fun n m ρ ρ' x _ _ hf=>?_⟩
   ·have hk:k<A.R:=by
     have:=(List.getElem?_eq_some_iff.1 hso).1
     simpa using this
    rw[List.getElem?_replicate,if_pos hk] at hso
    simp only[Option.some.injEq] at hso
    exact .inl ⟨by rw[List.getElem?_replicate,if_pos hk],.inl hso.symm⟩
   ·obtain ⟨y,r,rfl,hy,hr'⟩:=fits_cons hf
    have:=fits_nil hr'
    subst this
    exact ⟨hy,trivial⟩
  ·split at hr
   ·rename_i a ps0 is fs ha
    simp only[Option.some.injEq,Prod.mk.injEq] at hr
    obtain ⟨rfl,rfl,rfl,rfl⟩:=hr
    exact A.ok N k0 _ _ _ _ _ _ ha hp
   ·cases hr
 shf b b' g n m ρ ρ' hm hk hb:=by
  cases g with
  | some a=>exact A.shf b b' a n m ρ ρ' hm hk hb
  | none=>
   refine ⟨fun x hf=>?_,fun k so hso=>⟨so,hso,owE_rfl,fun L o _=>?_⟩⟩
   ·obtain ⟨y,r,rfl,hy,hr'⟩:=fits_cons hf
    have:=fits_nil hr'
    subst this
    exact ⟨hy,trivial⟩
   ·have hk:k<A.R:=by
     have:=(List.getElem?_eq_some_iff.1 hso).1
     simpa using this
    rw[List.getElem?_replicate,if_pos hk] at hso
    simp only[Option.some.injEq] at hso
    rw[← hso];trivial
 putOk b g K h:=by
  cases g with
  | some a=>exact A.putOk b a K (h.1 rfl)
  | none=>exact h.2 rfl
end
section
variable {N:Nat} {κ:Type}
def noFz:Option (κ×List Prop×List (Option Nat)×List Nat)→Option (κ×List Prop×List (Option Nat))
 | some (g,ps,ids,[])=>some (g,ps,ids)
 | _=>none
theorem noFz_eq {r:Option (κ×List Prop×List (Option Nat)×List Nat)} {g:κ} {ps:List Prop} {ids:List (Option Nat)} (h:noFz r=some (g,ps,ids)):r=some (g,ps,ids,[]):=by
 unfold noFz at h
 split at h
 ·simp only[Option.some.injEq,Prod.mk.injEq] at h
  obtain ⟨rfl,rfl,rfl⟩:=h
  rfl
 ·cases h
theorem fzR_nil {n:Nat} {h:SH} {ρ ρ':Rh}:FzR n h [] ρ ρ':=fun j hj=>by cases hj
theorem noFz_blk {k0:Nat} {h:SH} {ids:List (Option Nat)} {l cs:List SV} {blks:List SO} (hC:CRel N k0 h ids [] l cs blks):∀ (k:Nat) (so:SO),blks[k]?=some so→(ids[k]?=some none∧NilSO so)∨∃ j:Nat,ids[k]?=some (some j)∧Ow so (h.get j)∧∀ (n m:Nat) (ρ ρ':Rh) (L:Lc) (o:Option Obj),Rn N k0 ids m ρ ρ'→(h.get j).fit n ρ L o→so.fit m ρ' L o:=fun k so h=>by
 rcases hC.blk k so h with h1 | ⟨j,h1,h2,h3⟩
 ·exact .inl h1
 ·exact .inr ⟨j,h1,h2,fun n m ρ ρ' L o hn hf=>h3 n m ρ ρ' L o hn fzR_nil hf⟩
def LP.ct (N i:Nat) (C:CT κ) (h1:C.sz=1):LP N κ where
 R:=C.R
 read σ:=noFz (C.read σ.h [σ.slot i])
 ents k0 g:=[(i,(C.cells (N+k0) g).headD .u)]
 blks k0 g:=C.blks (N+k0) g
 objs _ _:=[]
 es:=[i]
 os:=[]
 eseq _ _:=rfl
 oseq _ _:=rfl
 blen k g:=C.blen _ _
 ilen σ g ps ids h:=C.ilen _ _ _ _ _ _ (noFz_eq h)
 ok k0 σ g ps ids h hp:=by
  have hC:=C.ok N k0 _ _ _ _ _ _ (noFz_eq h) hp
  refine ⟨noFz_blk hC,fun id so h=>by simp at h,fun j s hs n m ρ ρ' x hn hf=>?_⟩
  simp only[List.mem_singleton,Prod.mk.injEq] at hs
  obtain ⟨rfl,rfl⟩:=hs
  have:=hC.fit n m ρ ρ' [x] hn fzR_nil ⟨hf,trivial⟩
  have hl:=C.clen (N+k0) g
  generalize C.cells (N+k0) g=cs at this hl
  obtain ⟨c,rfl⟩:=List.length_eq_one_iff.1 (hl.trans h1)
  exact this.1
end
end Go.Sx

namespace Go.Sx
open Go.RowKit
variable [Env]
section
variable {α β γ δ:Type} {K:El α} {V:El β}
def d3e (e:α×β×Int):α×β:=(e.1,e.2.1)
theorem ent_take {l:List SV} {a:α×β×Int} {ps:List Prop} (h:(K.ent V).decs l=some (a,ps)):∃ qs,(El.pair K V).decs (l.take (K.sz+V.sz))=some (d3e a,qs)∧∀ q∈qs,q∈ps:=by
 simp only[El.ent,El.pair] at h ⊢
 rw[List.take_take,Nat.min_eq_left (Nat.le_add_right ..),List.drop_take,Nat.add_sub_cancel_left]
 split at h
 ·rename_i a0 ps0 h1
  split at h
  ·rename_i b0 qs0 h2
   simp only[Option.some.injEq,Prod.mk.injEq] at h
   obtain ⟨rfl,rfl⟩:=h
   split at h2
   ·rename_i v0 p1 h3
    split at h2
    ·rename_i n0 p2 h4
     simp only[Option.some.injEq,Prod.mk.injEq] at h2
     obtain ⟨rfl,rfl⟩:=h2
     refine ⟨_,rfl,fun q hq=>?_⟩
     rcases List.mem_append.1 hq with hq | hq
     ·exact List.mem_append_left _ hq
     ·exact List.mem_append_right _ (List.mem_append_left _ hq)
    ·cases h2
   ·cases h2
  ·cases h
 ·cases h
theorem ent_ok {l:List SV} (h:(K.ent V).Ok l):(El.pair K V).Ok (l.take (K.sz+V.sz))∧(El.pair K V).get (l.take (K.sz+V.sz))=d3e ((K.ent V).get l):=by
 obtain ⟨a,ps,h1,h2⟩:=h
 obtain ⟨qs,q1,q2⟩:=ent_take h1
 refine ⟨⟨_,qs,q1,fun q hq=>h2 q (q2 q hq)⟩,?_⟩
 simp only[El.get,h1,q1]
theorem ent_lst {m:Nat} {el:Nat→List SV} (h:∀ e,e<m→(K.ent V).Ok (el e)):(El.pair K V).lst m (fun e=>(el e).take (K.sz+V.sz))=((K.ent V).lst m el).map d3e:=by
 simp only[El.lst,List.map_map]
 refine List.map_congr_left fun e he=>?_
 exact (ent_ok (h e (List.mem_range.1 he))).2
end
end Go.Sx

namespace Go.Sx
open Go.RowKit
variable [Env]
section
variable {α β:Type}
def CT.kb (b:Bool):CT Unit where
 R:=0
 sz:=1
 cells _ _:=[.k (.bool b)]
 blks _ _:=[]
 read _ l:=match l with
  | [.k (.bool c)]=>bif c==b then some ((),[],[],[]) else none
  | _=>none
 put _ _:=.ret ([.k (.bool b)],[])
 blen _ _:=rfl
 clen _ _:=rfl
 ilen h l g ps ids fzs hr:=by
  split at hr
  ·rename_i c
   cases hb:c==b with
   | false=>rw[hb] at hr;cases hr
   | true=>
    rw[hb] at hr
    simp only[cond_true,Option.some.injEq,Prod.mk.injEq] at hr
    rw[← hr.2.2.1];rfl
  ·cases hr
 ok N k0 h l g ps ids fzs hr hp:=by
  split at hr
  ·rename_i c
   cases hb:c==b with
   | false=>rw[hb] at hr;cases hr
   | true=>
    rw[hb] at hr
    have hcb:c=b:=by simpa using hb
    subst hcb
    simp only[cond_true,Option.some.injEq,Prod.mk.injEq] at hr
    obtain ⟨-,rfl,rfl,rfl⟩:=hr
    exact ⟨fun k so h=>by simp at h,fun n m ρ ρ' x hn _ hf=>by
     obtain ⟨y,r,rfl,hy,hr'⟩:=fits_cons hf
     exact ⟨hy,by have:=fits_nil hr';subst this;trivial⟩⟩
  ·cases hr
 shf b' b'' g n m ρ ρ' hm _ _:=⟨fun x hf=>by
  obtain ⟨y,r,rfl,hy,hr'⟩:=fits_cons hf
  exact ⟨hy,by have:=fits_nil hr';subst this;trivial⟩,shfB_nil⟩
 putOk _ _ _ h:=h
def CT.fzm (ka va:Bool) (K:El α) (V:El β):CT (List (α×β)) where
 R:=0
 sz:=1
 cells _ xs:=[(Dv.map ka va K V).enc xs]
 blks _ _:=[]
 read h l:=match l with
  | [.mp j]=>match h.get j with
   | .map ks vs ka' va' el m _ _=>bif Nat.beq ks K.sz&&(Nat.beq vs V.sz&&(ka==ka'&&va==va')) then some (((K.ent V).lstE m el).map d3e,(K.ent V).okE m el,[],[j]) else none
   | _=>none
  | [s]=>match (Dv.map ka va K V).dec s with
   | some (a,ps)=>some (a,ps,[],[])
   | none=>none
  | _=>none
 put _ xs:=.ret ([(Dv.map ka va K V).enc xs],[])
 blen _ _:=rfl
 clen _ _:=rfl
 ilen h l g ps ids fzs hr:=by
  split at hr
  ·split at hr
   ·rename_i j ks vs ka' va' el m clk pd hg
    cases hb:Nat.beq ks K.sz&&(Nat.beq vs V.sz&&(ka==ka'&&va==va')) with
    | false=>rw[hb] at hr;cases hr
    | true=>
     rw[hb] at hr
     simp only[cond_true,Option.some.injEq,Prod.mk.injEq] at hr
     rw[← hr.2.2.1];rfl
   ·cases hr
  ·split at hr
   ·simp only[Option.some.injEq,Prod.mk.injEq] at hr;rw[← hr.2.2.1];rfl
   ·cases hr
  ·cases hr
 ok N k0 h l g ps ids fzs hr hp:=by
  split at hr
  ·rename_i j
   split at hr
   ·rename_i ks vs ka' va' el m clk pd hg
    cases hb:Nat.beq ks K.sz&&(Nat.beq vs V.sz&&(ka==ka'&&va==va')) with
    | false=>rw[hb] at hr;cases hr
    | true=>
     rw[hb] at hr
     simp only[Bool.and_eq_true,beq_iff_eq] at hb
     obtain ⟨b1,b2,b3,b4⟩:=hb
     have e1:=beq_of b1
     have e2:=beq_of b2
     subst e1;subst e2;subst b3;subst b4
     simp only[cond_true,Option.some.injEq,Prod.mk.injEq] at hr
     obtain ⟨rfl,rfl,rfl,rfl⟩:=hr
     have hok:∀ e,e<m→(K.ent V).Ok (el.at e):=(K.ent V).okE_ok m el hp
     refine ⟨fun k so hso=>by simp at hso,fun n' m' ρ ρ' x hn hz hf=>?_⟩
     obtain ⟨y,r,rfl,hy,hr'⟩:=fits_cons hf
     refine ⟨?_,by have:=fits_nil hr';subst this;trivial⟩
     obtain ⟨hil,rfl⟩:=hy
     obtain ⟨o,ho,hmem⟩:=hz j (List.mem_cons_self ..)
     rw[hg] at ho hmem
     obtain ⟨_,_,⟨es,h3,h4,h5,h6⟩,_⟩:=ho
     have hm:=hmem trivial
     rw[(K.ent V).lstE_eq,← ent_lst hok]
     show (SV.rm K.sz V.sz ((El.pair K V).lst m _).length ka va ((El.pair K V).els ((El.pair K V).lst m _))).fit m' ρ' _
     rw[El.lst_length]
     refine .inr ⟨_,es,clk,rfl,by rw[hm,h3],h4,h5,fun e he=>?_⟩
     obtain ⟨y,kc,vc,q1,q2,q3,q4,q5⟩:=h6 e he
     refine ⟨y,kc,vc,q1,?_,q3,q4,q5⟩
     have h7:=fits_take (K.sz+V.sz) q2
     rw[show (kc++(vc++[Value.int .i64 (y.born:Int)])).take (K.sz+V.sz)=kc++vc by rw[← List.append_assoc];exact List.take_left' (by simp;omega)] at h7
     obtain ⟨a,ps,d1,d2⟩:=(ent_ok (hok e he)).1
     have q6:=(El.pair K V).cl a n' m' ρ ρ' _ hn.ag.2.1 ((El.pair K V).ok _ _ _ _ _ _ d1 d2 h7)
     show SV.fits m' ρ' ((El.pair K V).cells (((El.pair K V).lst m _).getD e (El.pair K V).dflt)) _
     rw[El.lst_getD _ _ _ _ he]
     simpa only [El.get,d1] using q6
   ·cases hr
  ·rename_i s _
   split at hr
   ·rename_i a ps' hd
    simp only[Option.some.injEq,Prod.mk.injEq] at hr
    obtain ⟨rfl,rfl,rfl,rfl⟩:=hr
    refine ⟨fun k so h=>by simp at h,fun n m ρ ρ' x hn _ hf=>?_⟩
    obtain ⟨y,r,rfl,hy,hr'⟩:=fits_cons hf
    exact ⟨(Dv.map ka va K V).cl a n m ρ ρ' y hn.ag.2.1 ((Dv.map ka va K V).ok _ _ _ _ _ _ hd hp hy),by have:=fits_nil hr';subst this;trivial⟩
   ·cases hr
  ·cases hr
 shf b b' g n m ρ ρ' hm _ _:=⟨fun x hf=>by
  obtain ⟨y,r,rfl,hy,hr'⟩:=fits_cons hf
  exact ⟨(Dv.map ka va K V).cl g n m ρ ρ' y hm hy,by have:=fits_nil hr';subst this;trivial⟩,shfB_nil⟩
 putOk _ _ _ h:=h
end
end Go.Sx

namespace Go.Sx
open Go.RowKit
variable [Env]
structure TA (κ:Type) where
 q:Nat
 R:Nat
 objs:Nat→κ→List SO
 blks:Nat→κ→List SO
 read:SH→List Nat→Option (κ×List Prop×List (Option Nat)×List Nat)
 olen:∀ b g,(objs b g).length=q
 blen:∀ b g,(blks b g).length=R
 ilen:∀ h rs g ps ids fzs,read h rs=some (g,ps,ids,fzs)→ids.length=R∧rs.length=q
 ok:∀ N k0 h rs g ps ids fzs,read h rs=some (g,ps,ids,fzs)→(∀ p∈ps,p)→CRel N k0 h ids fzs [] [] (blks (N+k0) g)∧∀ (j r:Nat) (so:SO),rs[j]?=some r→(objs (N+k0) g)[j]?=some so→(∀ L,(h.get r).own L)∧(∀ L,so.own L)∧(∀ a,so=.abs a↔h.get r=.abs a)∧∀ (n m:Nat) (ρ ρ':Rh) (L:Lc) (o:Option Obj),Rn N k0 ids m ρ ρ'→FzR n h fzs ρ ρ'→(h.get r).fit n ρ L o→so.fit m ρ' L o
 shf:∀ (b b':Nat) (g:κ) (n m:Nat) (ρ ρ':Rh),(∀ c o,ρ.mem c=some o→ρ'.mem c=some o)→(∀ k,k<R→ρ' (b'+k)=ρ (b+k))→b'+R≤m→ShfB n m ρ ρ' (objs b g) (objs b' g)∧ShfB n m ρ ρ' (blks b g) (blks b' g)
abbrev TA.T {κ:Type} (_:TA κ):Type:=κ
def TA.nil:TA Unit where
 q:=0
 R:=0
 objs _ _:=[]
 blks _ _:=[]
 read _ rs:=match rs with
  | []=>some ((),[],[],[])
  | _=>none
 olen _ _:=rfl
 blen _ _:=rfl
 ilen h rs g ps ids fzs hr:=by
  split at hr
  ·simp only[Option.some.injEq,Prod.mk.injEq] at hr
   rw[← hr.2.2.1];exact ⟨rfl,rfl⟩
  ·cases hr
 ok N k0 h rs g ps ids fzs hr _:=⟨⟨fun k so h=>by simp at h,fun _ _ _ _ _ _ _ h=>by cases fits_nil h;trivial⟩,fun j r so _ h=>by simp at h⟩
 shf _ _ _ _ _ _ _ _ _ _:=⟨shfB_nil,shfB_nil⟩
def TA.one {κ:Type} (t:TypeId) (C:CT κ):TA κ where
 q:=1
 R:=C.R
 objs b g:=[.cells (C.cells b g) t]
 blks b g:=C.blks b g
 read h rs:=match rs with
  | [r]=>match h.get r with
   | .cells xs t'=>bif Nat.beq t' t then C.read h xs else none
   | _=>none
  | _=>none
 olen _ _:=rfl
 blen b g:=C.blen b g
 ilen h rs g ps ids fzs hr:=by
  split at hr
  ·split at hr
   ·rename_i xs t' hg
    cases hb:Nat.beq t' t with
    | false=>rw[hb] at hr;cases hr
    | true=>rw[hb] at hr;exact ⟨C.ilen _ _ _ _ _ _ hr,rfl⟩
   ·cases hr
  ·cases hr
 ok N k0 h rs g ps ids fzs hr hp:=by
  split at hr
  ·rename_i r
   split at hr
   ·rename_i xs t' hg
    cases hb:Nat.beq t' t with
    | false=>rw[hb] at hr;cases hr
    | true=>
     have:=beq_of hb
     subst this
     rw[hb] at hr
     have hC:=C.ok N k0 h xs g ps ids fzs hr hp
     refine ⟨⟨hC.blk,fun _ _ _ _ _ _ _ h=>by cases fits_nil h;trivial⟩,fun j r' so h1 h2=>?_⟩
     cases j with
     | succ j=>simp at h2
     | zero=>
      simp only[List.getElem?_cons_zero,Option.some.injEq] at h1 h2
      subst h1;subst h2
      rw[hg]
      refine ⟨fun _=>trivial,fun _=>trivial,fun a=>⟨fun e=>(by cases e),fun e=>(by cases e)⟩,fun n m ρ ρ' L o hn hz hf=>?_⟩
      obtain ⟨f1,f2,l,f3,f4⟩:=hf
      exact ⟨f1,f2,l,f3,hC.fit n m ρ ρ' l hn hz f4⟩
   ·cases hr
  ·cases hr
 shf b b' g n m ρ ρ' hm hk hb:=by
  obtain ⟨s1,s2⟩:=C.shf b b' g n m ρ ρ' hm hk hb
  exact ⟨shfB_cons (owE_na fun _=>Iff.rfl) (fun L o hf=>by
   obtain ⟨f1,f2,l,f3,f4⟩:=hf
   exact ⟨f1,f2,l,f3,s1 l f4⟩) shfB_nil,s2⟩
structure TR (δ:Type) where
 R:Nat
 val:Nat→δ→SV
 blks:Nat→δ→List SO
 read:SH→SV→Option (δ×List Prop×List (Option Nat)×List Nat)
 put:Nat→δ→Tr (SV×List SO)
 blen:∀ b g,(blks b g).length=R
 ilen:∀ h s g ps ids fzs,read h s=some (g,ps,ids,fzs)→ids.length=R
 ok:∀ N k0 h s g ps ids fzs,read h s=some (g,ps,ids,fzs)→(∀ p∈ps,p)→CRel N k0 h ids fzs [s] [val (N+k0) g] (blks (N+k0) g)
 shf:∀ (b b':Nat) (g:δ) (n m:Nat) (ρ ρ':Rh),(∀ c o,ρ.mem c=some o→ρ'.mem c=some o)→(∀ k,k<R→ρ' (b'+k)=ρ (b+k))→b'+R≤m→(∀ x,(val b g).fit n ρ x→(val b' g).fit m ρ' x)∧ShfB n m ρ ρ' (blks b g) (blks b' g)
 putOk:∀ b g (K:SV×List SO→Prop),(put b g).Holds K→K (val b g,blks b g)
abbrev TR.T {δ:Type} (_:TR δ):Type:=δ
section
variable {δ κ:Type}
def TR.pure (D:Dv δ):TR δ where
 R:=0
 val _ r:=D.enc r
 blks _ _:=[]
 read _ s:=match D.dec s with
  | some (r,ps)=>some (r,ps,[],[])
  | none=>none
 put _ r:=.ret (D.enc r,[])
 blen _ _:=rfl
 ilen h s g ps ids fzs hr:=by
  split at hr
  ·simp only[Option.some.injEq,Prod.mk.injEq] at hr;rw[← hr.2.2.1];rfl
  ·cases hr
 ok N k0 h s g ps ids fzs hr hp:=by
  split at hr
  ·rename_i a ps' hd
   simp only[Option.some.injEq,Prod.mk.injEq] at hr
   obtain ⟨rfl,rfl,rfl,rfl⟩:=hr
   refine ⟨fun k so h=>by simp at h,fun n m ρ ρ' x hn _ hf=>?_⟩
   obtain ⟨y,r,rfl,hy,hr'⟩:=fits_cons hf
   exact ⟨D.cl a n m ρ ρ' y hn.ag.2.1 (D.ok _ _ _ _ _ _ hd hp hy),by cases fits_nil hr';trivial⟩
  ·cases hr
 shf b b' g n m ρ ρ' hm _ _:=⟨fun x hf=>D.cl g n m ρ ρ' x hm hf,shfB_nil⟩
 putOk _ _ _ h:=h
def TR.ct (C:CT κ) (h1:C.sz=1):TR κ where
 R:=C.R
 val b g:=(C.cells b g).headD .u
 blks b g:=C.blks b g
 read h s:=C.read h [s]
 put b g:=(C.put b g).bind fun y=>.ret (y.1.headD .u,y.2)
 blen b g:=C.blen b g
 ilen h s g ps ids fzs hr:=C.ilen _ _ _ _ _ _ hr
 ok N k0 h s g ps ids fzs hr hp:=by
  have hC:=C.ok N k0 h [s] g ps ids fzs hr hp
  have hl:=C.clen (N+k0) g
  refine ⟨hC.blk,fun n m ρ ρ' x hn hz hf=>?_⟩
  have:=hC.fit n m ρ ρ' x hn hz hf
  generalize C.cells (N+k0) g=cs at this hl
  obtain ⟨c,rfl⟩:=List.length_eq_one_iff.1 (hl.trans h1)
  exact this
 shf b b' g n m ρ ρ' hm hk hb:=by
  obtain ⟨s1,s2⟩:=C.shf b b' g n m ρ ρ' hm hk hb
  refine ⟨fun x hf=>?_,s2⟩
  have l1:=C.clen b g
  have l2:=C.clen b' g
  generalize C.cells b g=c1 at *
  generalize C.cells b' g=c2 at *
  obtain ⟨a1,rfl⟩:=List.length_eq_one_iff.1 (l1.trans h1)
  obtain ⟨a2,rfl⟩:=List.length_eq_one_iff.1 (l2.trans h1)
  exact (s1 [x] ⟨hf,trivial⟩).1
 putOk b g K h:=C.putOk b g _ (Tr.holds_bind h)
def TR.tup (C:CT κ):TR κ where
 R:=C.R
 val b g:=.tup (C.cells b g)
 blks b g:=C.blks b g
 read h s:=match s with
  | .tup xs=>C.read h xs
  | _=>none
 put b g:=(C.put b g).bind fun y=>.ret (.tup y.1,y.2)
 blen b g:=C.blen b g
 ilen h s g ps ids fzs hr:=by
  split at hr
  ·exact C.ilen _ _ _ _ _ _ hr
  ·cases hr
 ok N k0 h s g ps ids fzs hr hp:=by
  split at hr
  ·rename_i xs
   have hC:=C.ok N k0 h xs g ps ids fzs hr hp
   refine ⟨hC.blk,fun n m ρ ρ' x hn hz hf=>?_⟩
   obtain ⟨y,r,rfl,hy,hr'⟩:=fits_cons hf
   obtain ⟨l,rfl,hl⟩:=hy
   exact ⟨⟨l,rfl,hC.fit n m ρ ρ' l hn hz hl⟩,by cases fits_nil hr';trivial⟩
  ·cases hr
 shf b b' g n m ρ ρ' hm hk hb:=by
  obtain ⟨s1,s2⟩:=C.shf b b' g n m ρ ρ' hm hk hb
  exact ⟨fun x hf=>by
   obtain ⟨l,rfl,hl⟩:=hf
   exact ⟨l,rfl,s1 l hl⟩,s2⟩
 putOk b g K h:=C.putOk b g _ (Tr.holds_bind h)
end
def canonH (sos:List SO):SH:=⟨sos.length,whole (rowsL 0 sos),[]⟩
theorem canonH_get (sos:List SO) (k:Nat):(canonH sos).get k=(sos[k]?).getD .dead:=by
 have e:(canonH sos).get k=look .dead k (rowsL 0 sos):=by
  simp only[canonH,SH.get,lookE,lookE_whole]
 obtain ⟨r1,r2⟩:=rowsL_get (i:=k) (r:=sos) (k:=0) .dead
 rw[e]
 by_cases hk:k<sos.length
 ·obtain ⟨so,h1,h2⟩:=r1 k (by omega) hk
  rw[h2,h1];rfl
 ·rw[r2 (by omega),List.getElem?_eq_none (by omega)];rfl
def kill:List Nat→SH→SH
 | [],h=>h
 | j :: r,h=>kill r (h.set j .dead)
theorem kill_nx:∀ (l:List Nat) (h:SH),(kill l h).nx=h.nx
 | [],_=>rfl
 | _ :: r,h=>kill_nx r _
theorem kill_get:∀ (l:List Nat) (h:SH) (i:Nat),i∉l→(kill l h).get i=h.get i
 | [],_,_,_=>rfl
 | j :: r,h,i,hi=>by
  simp only[List.mem_cons,not_or] at hi
  show (kill r (h.set j .dead)).get i=_
  rw[kill_get r _ i hi.2,SH.get_set,if_neg hi.1]
section
variable {M:Nat→Prop} {w0 w w':World} {ρ:Rh} {h:SH}
open Classical in
theorem HM.freezeAll:∀ (l:List Nat) {h:SH} {ρ:Rh},HM M w0 ρ h w→∃ ρ':Rh,ρ'.lc=ρ.lc∧(∀ b o,ρ.mem b=some o→ρ'.mem b=some o)∧ρ'.lo=ρ.lo∧HM M w0 ρ' (kill l h) w∧∀ j∈l,(h.get j).own (ρ j)→ρ'.mem (ρ j).blk=w.heap[(ρ j).blk]?
 | [],h,ρ,hm=>⟨ρ,rfl,fun _ _ h=>h,rfl,hm,fun j hj=>by cases hj⟩
 | j :: r,h,ρ,hm=>by
  by_cases hown:(h.get j).own (ρ j)
  ·obtain ⟨o,ho⟩:=SO.fit_some (hm.ob j) hown
   have hfz:=hm.freeze hown ho
   obtain ⟨ρ',e1,e2,e3,e4,e5⟩:=HM.freezeAll r hfz
   have hag:=agree_frz (n:=h.nx) (o:=o) ρ (hm.sep j hown)
   refine ⟨ρ',e1,fun b o' hb=>e2 b o' (hag.2.1 b o' hb),e3,e4,fun i hi hio=>?_⟩
   by_cases hij:i=j
   ·subst hij
    rw[ho]
    exact e2 _ _ (by simp[Rh.frz])
   ·rcases List.mem_cons.1 hi with hi | hi
    ·exact absurd hi hij
    ·exact e5 i hi (by rw[SH.get_set,if_neg hij];exact hio)
  ·obtain ⟨ρ',e1,e2,e3,e4,e5⟩:=HM.freezeAll r (hm.forget j)
   refine ⟨ρ',e1,e2,e3,e4,fun i hi hio=>?_⟩
   by_cases hij:i=j
   ·subst hij;exact absurd hio hown
   ·rcases List.mem_cons.1 hi with hi | hi
    ·exact absurd hi hij
    ·exact e5 i hi (by rw[SH.get_set,if_neg hij];exact hio)
theorem HM.relay (hm:HM M w0 ρ h w) {sos:List SO} {src:List (Option Nat)} (ρ':Rh) (hinj:∀ k k' j:Nat,src[k]?=some (some j)→src[k']?=some (some j)→k=k') (hmem:ρ'.mem=ρ.mem) (hlo:ρ'.lo=ρ.lo)
  (hyes:∀ k j:Nat,src[k]?=some (some j)→ρ' k=ρ j) (hno:∀ k:Nat,k<sos.length→src[k]?=some none→ρ' k=⟨0,0,0,true⟩)
  (hso:∀ (k:Nat) (so:SO),sos[k]?=some so→(src[k]?=some none∧NilSO so)∨∃ j:Nat,src[k]?=some (some j)∧Ow so (h.get j)∧((h.get j).fit h.nx ρ (ρ j) w.heap[(ρ j).blk]?→so.fit sos.length ρ' (ρ j) w.heap[(ρ j).blk]?)):HM M w0 ρ' (canonH sos) w:=by
 have hsrc:∀ k,((canonH sos).get k).own (ρ' k)→∃ j:Nat,src[k]?=some (some j)∧(h.get j).own (ρ j)∧ρ' k=ρ j:=fun k hk=>by
  rw[canonH_get] at hk
  cases hs:sos[k]? with
  | none=>rw[hs] at hk;exact hk.elim
  | some so=>
   rw[hs] at hk
   have hlt:=(List.getElem?_eq_some_iff.1 hs).1
   rcases hso k so hs with ⟨h1,rfl | ⟨t,sz,el,rfl⟩⟩ | ⟨j,h1,h2,_⟩
   ·exact hk.elim
   ·have hk:(ρ' k).nl=false:=hk
    rw[hno k hlt h1] at hk;cases hk
   ·rw[hyes k j h1] at hk
    exact ⟨j,h1,h2.1 _ hk,hyes k j h1⟩
 exact {
  os:=hm.os
  tape:=hm.tape
  output:=hm.output
  size:=hm.size
  block:=hm.block
  lt:=fun k hk=>by
   rw[canonH_get] at hk
   show k<sos.length
   by_cases hlt:k<sos.length
   ·exact hlt
   ·rw[List.getElem?_eq_none (by omega)] at hk;cases hk
  ob:=fun k=>by
   show ((canonH sos).get k).fit sos.length ρ' (ρ' k) _
   rw[canonH_get]
   cases hs:sos[k]? with
   | none=>trivial
   | some so=>
    have hlt:=(List.getElem?_eq_some_iff.1 hs).1
    rcases hso k so hs with ⟨h1,rfl | ⟨t,sz,el,rfl⟩⟩ | ⟨j,h1,_,h3⟩
    ·trivial
    ·rw[hno k hlt h1]
     exact ⟨Nat.zero_le _,.inl ⟨rfl,rfl⟩⟩
    ·rw[hyes k j h1]
     exact h3 (hm.ob j)
  ow:=fun k hk=>by
   obtain ⟨j,_,h2,h3⟩:=hsrc k hk
   rw[h3];exact hm.ow j h2
  fz:=by rw[hmem];exact hm.fz
  sep:=fun k hk=>by
   obtain ⟨j,_,h2,h3⟩:=hsrc k hk
   rw[h3,hmem];exact hm.sep j h2
  old:=by rw[hmem,hlo];exact hm.old
  env:=by rw[hmem];exact hm.env
  ab:=by
   have hab:∀ k a,(canonH sos).get k=.abs a→∃ j:Nat,src[k]?=some (some j)∧h.get j=.abs a∧ρ' k=ρ j:=fun k a hk=>by
    rw[canonH_get] at hk
    cases hs:sos[k]? with
    | none=>rw[hs] at hk;cases hk
    | some so=>
     rw[hs] at hk
     have hk:so=.abs a:=hk
     rcases hso k so hs with ⟨h1,rfl | ⟨t,sz,el,rfl⟩⟩ | ⟨j,h1,h2,_⟩
     ·cases hk
     ·cases hk
     ·exact ⟨j,h1,h2.2 a hk,hyes k j h1⟩
   obtain ⟨S,hS⟩:=hm.ab
   refine ⟨fun k=>S (match src[k]? with | some (some j)=>j | _=>0),fun k a hk=>?_⟩
   obtain ⟨j,h1,h2,h3⟩:=hab k a hk
   simp only[h1]
   obtain ⟨q1,q2⟩:=hS j a h2
   rw[h3,hmem]
   refine ⟨q1,fun b hb=>?_⟩
   obtain ⟨r1,r2,r3,r4,r5⟩:=q2 b hb
   refine ⟨r1,r2,r3,fun k' hk'=>?_,fun k' a' hk' hb'=>?_⟩
   ·obtain ⟨j',_,h2',h3'⟩:=hsrc k' hk'
    rw[h3'];exact r4 j' h2'
   ·obtain ⟨j',h1',h2',h3'⟩:=hab k' a' hk'
    simp only[h1'] at hb'
    have:=r5 j' a' h2' hb'
    subst this
    exact hinj k k' j h1 h1'
  inj:=fun k k' hk hk' he=>by
   obtain ⟨j,h1,h2,h3⟩:=hsrc k hk
   obtain ⟨j',h1',h2',h3'⟩:=hsrc k' hk'
   rw[h3,h3'] at he
   have:=hm.inj j j' h2 h2' he
   subst this
   exact hinj k k' j h1 h1' }
end
end Go.Sx

namespace Go.Sx
open Go.RowKit
variable [Env]
def rootsV (q:Nat):List SV:=(List.range q).map fun k=>.p k 0
def rootVs (q:Nat) (ρ:Rh):List Value:=(List.range q).map fun k=>.pointer (some ⟨(ρ k).blk,(ρ k).off+0,none⟩)
section
variable {κ γ δ:Type}
def canonA (A:TA κ) (g:κ):List SO:=A.objs A.q g++A.blks A.q g
def canonO (A:TA κ) (R:TR δ) (x:κ×δ):List SO:=A.objs A.q x.1++(A.blks A.q x.1++R.blks (A.q+A.R) x.2)
theorem canonA_len (A:TA κ) (g:κ):(canonA A g).length=A.q+A.R:=by simp[canonA,A.olen,A.blen]
theorem canonO_len (A:TA κ) (R:TR δ) (x:κ×δ):(canonO A R x).length=A.q+(A.R+R.R):=by simp[canonO,A.olen,A.blen,R.blen]
def FnT (P:Program) (f:Nat) (A:TA κ) (D:DA γ) (R:TR δ) (fn:κ→γ→κ×δ) (pre:κ→γ→List Prop):Prop:=
 ∀ (M:Nat→Prop) (w:World) (ρ:Rh) (g:κ) (d:γ) (vs:List Value),HM M w ρ (canonH (canonA A g)) w→(∀ p∈pre g d,p)→SV.fits 0 (emp ρ.mem) (D.enc d) vs →
  Calls P f (rootVs A.q ρ++vs).toArray w fun e w'=>∃ x ρ',e=.returned x∧(∀ k,k<A.q→ρ' k=ρ k)∧(∀ b o,ρ.mem b=some o→ρ'.mem b=some o)∧ρ'.lo=ρ.lo ∧
   HM M w ρ' (canonH (canonO A R (fn g d))) w'∧(R.val (A.q+A.R) (fn g d).2).fit (A.q+(A.R+R.R)) ρ' x
def FnTR (P:Program) (f:Nat) (A:TA κ) (D:DA γ) (R:TR δ) (post:κ→γ→κ×δ→Prop) (pre:κ→γ→List Prop):Prop:=
 ∀ (M:Nat→Prop) (w:World) (ρ:Rh) (g:κ) (d:γ) (vs:List Value),HM M w ρ (canonH (canonA A g)) w→(∀ p∈pre g d,p)→SV.fits 0 (emp ρ.mem) (D.enc d) vs →
  Calls P f (rootVs A.q ρ++vs).toArray w fun e w'=>∃ x ρ' r,post g d r∧e=.returned x∧(∀ k,k<A.q→ρ' k=ρ k)∧(∀ b o,ρ.mem b=some o→ρ'.mem b=some o)∧ρ'.lo=ρ.lo ∧
   HM M w ρ' (canonH (canonO A R r)) w'∧(R.val (A.q+A.R) r.2).fit (A.q+(A.R+R.R)) ρ' x
theorem FnTR.toT {P:Program} {f:Nat} {A:TA κ} {D:DA γ} {R:TR δ} {fn:κ→γ→κ×δ} {pre:κ→γ→List Prop} (h:FnTR P f A D R (fun g d r=>r=fn g d) pre):FnT P f A D R fn pre:=fun M w ρ g d vs h1 h2 h3=>
 (h M w ρ g d vs h1 h2 h3).mono fun e w' ⟨x,ρ',r,hr,q⟩=>by subst hr;exact ⟨x,ρ',q⟩
def tTree (P:Program) (Γ:Gam) (Λ:Lam) (n f:Nat) (A:TA κ) (R:TR δ) (g:κ) (args:List SV):Tr (κ×δ):=
 (fnTree P Γ Λ n f (rootsV A.q++args) (canonH (canonA A g))).bind fun y=>
  match A.read y.2 (List.range A.q) with
  | some (g',ps,ids,fs)=>match R.read y.2 y.1 with
   | some (r,qs,js,gs)=>match idsOk A.q (ids++js)&&(fs++gs).all fun j=>Nat.ble A.q j&&!isIn j (fdist (ids++js)) with
    | true=>asks (ps++qs) (.ret (g',r))
    | false=>.bad 710
   | none=>.bad 711
  | none=>.bad 712
end
section
variable {P:Program} {Γ:Gam} {Λ:Lam} {f:Nat} {κ γ δ:Type} {A:TA κ} {D:DA γ} {R:TR δ} {fn:κ→γ→κ×δ} {pre:κ→γ→List Prop}
theorem roots_fits {q n:Nat} {ρ:Rh} (h:q≤n):SV.fits n ρ (rootsV q) (rootVs q ρ):=by
 refine fits_of_get (by simp[rootsV,rootVs]) fun j s x h1 h2=>?_
 have hj:j<q:=by
  have:=(List.getElem?_eq_some_iff.1 h1).1
  simpa [rootsV] using this
 simp only[rootsV,rootVs,List.getElem?_map,List.getElem?_range hj,Option.map_some,Option.some.injEq] at h1 h2
 subst h1;subst h2
 exact ⟨by omega,rfl⟩
theorem range_get {q j:Nat} (h:j<q):(List.range q)[j]?=some j:=List.getElem?_range h
theorem TR_of_tree {post:κ→γ→κ×δ→Prop} (hΓ:∀ f g,Γ.g f=some g→FnOk P f g) (hΛ:∀ f k L,Λ f k=some L→∀ b∈loopsOf P f,lkey b=k→LoopOk P b L.g) (n:Nat)
  (hT:∀ g d,D.bd d→(∀ p∈pre g d,p)→(tTree P Γ Λ n f A R g (D.enc d)).Holds (post g d)):FnTR P f A D R post pre:=by
 intro M w ρ g d vs hm hpre hfit
 have hT:=hT g d (D.fb _ _ _ _ hfit) hpre
 have hnx:(canonH (canonA A g)).nx=A.q+A.R:=canonA_len A g
 have hargs:SV.fits (canonH (canonA A g)).nx ρ (rootsV A.q++D.enc d) (rootVs A.q ρ++vs):=
  fits_append (roots_fits (by omega)) (D.cl d 0 _ (emp ρ.mem) ρ vs (fun _ _ h=>h) hfit)
 have h0:=fnTree_ok hΓ hΛ n M w w ρ _ _ _ _ (Tr.holds_bind hT) hm hargs
 refine h0.mono ?_
 rintro e w' ⟨s,h',ρ1,x,h1,h2,h3,h4,h5,rfl⟩
 simp only at h1
 split at h1
 ·rename_i g' ps ids fs hA
  split at h1
  ·rename_i r qs js gs hR
   split at h1
   ·rename_i hchk
    obtain ⟨hq,h1⟩:=asks_holds h1
    have h1:post g d (g',r):=h1
    simp only[Bool.and_eq_true,List.all_eq_true,Bool.not_eq_true'] at hchk
    obtain ⟨c1,c2⟩:=hchk
    obtain ⟨i1,i2⟩:=idsOk_ok c1
    obtain ⟨la,lq⟩:=A.ilen _ _ _ _ _ _ hA
    have lj:=R.ilen _ _ _ _ _ _ hR
    obtain ⟨ρ2,e1,e2,e3,hm2,hfz⟩:=HM.freezeAll (fs++gs) h4
    let ρ3:Rh:=⟨fun k=>if k<A.q then ρ1 k else match (ids++js)[k - A.q]? with | some (some j)=>ρ1 j | _=>⟨0,0,0,true⟩,ρ2.mem,ρ2.lo⟩
    have r3l:∀ k,k<A.q→ρ3 k=ρ1 k:=fun k hk=>by show (if _ then _ else _)=_;rw[if_pos hk]
    have r3y:∀ k j:Nat,(ids++js)[k]?=some (some j)→ρ3 (A.q+k)=ρ1 j:=fun k j hk=>by
     show (if _ then _ else _)=_
     rw[if_neg (by omega),show A.q+k - A.q=k by omega,hk]
    have r3n:∀ k:Nat,(ids++js)[k]?=some none→ρ3 (A.q+k)=⟨0,0,0,true⟩:=fun k hk=>by
     show (if _ then _ else _)=_
     rw[if_neg (by omega),show A.q+k - A.q=k by omega,hk]
    have hmm:∀ b o,ρ1.mem b=some o→ρ3.mem b=some o:=e2
    have hrn:Rn A.q 0 (ids++js) (A.q+(A.R+R.R)) ρ1 ρ3:=⟨by rw[List.length_append];omega,⟨r3l,hmm,e3⟩,fun k j hk=>by simpa using r3y k j hk,fun k hk=>by simpa using r3n k hk⟩
    have hz:FzR h'.nx h' (fs++gs) ρ1 ρ3:=fun j hj=>⟨_,h4.ob j,fun ho=>hfz j hj ho⟩
    obtain ⟨a1,a2⟩:=A.ok A.q 0 _ _ _ _ _ _ hA fun p h=>hq p (List.mem_append_left _ h)
    have r1:=R.ok A.q (0+ids.length) _ _ _ _ _ _ hR fun p h=>hq p (List.mem_append_right _ h)
    rw[show A.q+(0+ids.length)=A.q+A.R by omega] at r1
    have hkeep:∀ j,j<A.q∨j∈fdist (ids++js)→(kill (fs++gs) h').get j=h'.get j:=fun j hj=>by
     refine kill_get _ _ _ fun hc=>?_
     obtain ⟨d1,d2⟩:=c2 j hc
     have:=Nat.le_of_ble_eq_true d1
     rcases hj with hj | hj
     ·omega
     ·exact isIn_not d2 hj
    have hin:∀ k j:Nat,(ids++js)[k]?=some (some j)→j∈fdist (ids++js):=fun k j h=>List.mem_filterMap.2 ⟨some j,List.mem_of_getElem? h,rfl⟩
    have lsrc:((List.range A.q).map some).length=A.q:=by simp
    have hsl:∀ k,k<A.q→((List.range A.q).map some++(ids++js))[k]?=some (some k):=fun k hk=>by
     rw[List.getElem?_append_left (by omega),List.getElem?_map,List.getElem?_range hk];rfl
    have hsr:∀ k,((List.range A.q).map some++(ids++js))[A.q+k]?=(ids++js)[k]?:=fun k=>by
     rw[List.getElem?_append_right (by omega),lsrc,show A.q+k - A.q=k by omega]
    have hge:∀ k,A.q≤k→∃ k',k=A.q+k':=fun k hk=>⟨k - A.q,by omega⟩
    have hlen:(canonO A R (g',r)).length=A.q+(A.R+R.R):=canonO_len A R (g',r)
    have hrel:=hm2.relay (sos:=canonO A R (g',r)) (src:=(List.range A.q).map some++(ids++js)) ρ3 (fun k k' j hk hk'=>by
      rcases Nat.lt_or_ge k A.q with h1 | h1 <;> rcases Nat.lt_or_ge k' A.q with h2 | h2
      ·rw[hsl k h1] at hk
       rw[hsl k' h2] at hk'
       simp only[Option.some.injEq] at hk hk'
       omega
      ·obtain ⟨k',rfl⟩:=hge k' h2
       rw[hsl k h1] at hk
       rw[hsr] at hk'
       simp only[Option.some.injEq] at hk
       have:=i2 _ _ hk'
       omega
      ·obtain ⟨k,rfl⟩:=hge k h1
       rw[hsl k' h2] at hk'
       rw[hsr] at hk
       simp only[Option.some.injEq] at hk'
       have:=i2 _ _ hk
       omega
      ·obtain ⟨k,rfl⟩:=hge k h1
       obtain ⟨k',rfl⟩:=hge k' h2
       rw[hsr] at hk hk'
       rw[i1 _ _ _ hk hk']) rfl rfl (fun k j hk=>by
      rw[show ρ2 j=ρ1 j from congrFun e1 j]
      rcases Nat.lt_or_ge k A.q with h1 | h1
      ·rw[hsl k h1] at hk
       simp only[Option.some.injEq] at hk
       subst hk
       exact r3l k h1
      ·obtain ⟨k,rfl⟩:=hge k h1
       rw[hsr] at hk
       exact r3y k j hk) (fun k _ hk=>by
      rcases Nat.lt_or_ge k A.q with h1 | h1
      ·rw[hsl k h1] at hk;cases hk
      ·obtain ⟨k,rfl⟩:=hge k h1
       rw[hsr] at hk
       exact r3n k hk) (fun k so hso=>by
      rw[hlen]
      have e1':∀ j,ρ2 j=ρ1 j:=fun j=>congrFun e1 j
      rcases Nat.lt_or_ge k A.q with hk | hk
      ·right
       unfold canonO at hso
       rw[List.getElem?_append_left (by rw[A.olen];exact hk)] at hso
       obtain ⟨o1,o2,o4,o3⟩:=a2 k k so (range_get hk) (by simpa using hso)
       refine ⟨k,hsl k hk,⟨fun L _=>?_,fun a ha=>?_⟩,fun hf=>?_⟩
       ·rw[hkeep k (.inl hk)];exact o1 L
       ·rw[hkeep k (.inl hk)];exact (o4 a).1 ha
       ·rw[hkeep k (.inl hk),e1'] at hf
        rw[e1']
        rw[kill_nx] at hf
        have hf1:(h'.get k).fit h'.nx ρ1 (ρ1 k) w'.heap[(ρ1 k).blk]?:=h4.ob k
        exact o3 _ _ _ _ _ _ hrn.left hz.left hf1
      ·obtain ⟨k,rfl⟩:=hge k hk
       unfold canonO at hso
       rw[List.getElem?_append_right (by rw[A.olen];omega),A.olen,show A.q+k - A.q=k by omega] at hso
       rw[hsr]
       by_cases hkA:k<A.R
       ·rw[List.getElem?_append_left (by rw[A.blen];exact hkA)] at hso
        rw[List.getElem?_append_left (by omega)]
        rcases a1.blk k so (by simpa using hso) with ⟨b1,b2⟩ | ⟨j,b1,b2,b3⟩
        ·exact .inl ⟨b1,b2⟩
        ·have hjm:=hin k j (by rw[List.getElem?_append_left (by omega)];exact b1)
         refine .inr ⟨j,b1,?_,fun _=>?_⟩
         ·rw[hkeep j (.inr hjm)];exact b2
         ·rw[e1']
          exact b3 _ _ _ _ _ _ hrn.left hz.left (h4.ob j)
       ·rw[List.getElem?_append_right (by rw[A.blen];omega),A.blen] at hso
        rw[List.getElem?_append_right (by omega),la]
        rcases r1.blk (k - A.R) so hso with ⟨b1,b2⟩ | ⟨j,b1,b2,b3⟩
        ·exact .inl ⟨b1,b2⟩
        ·have hjm:=hin k j (by rw[List.getElem?_append_right (by omega),la];exact b1)
         refine .inr ⟨j,b1,?_,fun _=>?_⟩
         ·rw[hkeep j (.inr hjm)];exact b2
         ·rw[e1']
          exact b3 _ _ _ _ _ _ hrn.right hz.right (h4.ob j))
    refine ⟨x,ρ3,(g',r),h1,rfl,fun k hk=>?_,fun b o hb=>hmm _ _ (h3.2.1 b o hb),?_,hrel,?_⟩
    ·rw[r3l k hk];exact h3.1 k (by rw[hnx];omega)
    ·show ρ2.lo=_
     rw[e3];exact h3.2.2
    ·have:=r1.fit _ _ _ _ [x] hrn.right hz.right ⟨h5,trivial⟩
     exact this.1
   ·exact h1.elim
  ·exact h1.elim
 ·exact h1.elim
theorem T_of_tree (hΓ:∀ f g,Γ.g f=some g→FnOk P f g) (hΛ:∀ f k L,Λ f k=some L→∀ b∈loopsOf P f,lkey b=k→LoopOk P b L.g) (n:Nat)
  (hT:∀ g d,D.bd d→(∀ p∈pre g d,p)→(tTree P Γ Λ n f A R g (D.enc d)).Holds (·=fn g d)):FnT P f A D R fn pre:=FnTR.toT (TR_of_tree hΓ hΛ n hT)
def rootsOf:Nat→List SV→Option (List Nat×List SV)
 | 0,l=>some ([],l)
 | q+1,.p r 0 :: l=>match rootsOf q l with
  | some (rs,rest)=>some (r :: rs,rest)
  | none=>none
 | _+1,_=>none
def conT (A:TA κ) (D:DA γ) (R:TR δ) (fn:κ→γ→κ×δ) (pre:κ→γ→List Prop):Con:=fun args h=>
 match rootsOf A.q args with
 | some (rs,rest)=>match A.read h rs with
  | some (g,ps,ids,fs)=>match D.dec rest with
   | some (d,qs)=>match idsOk 0 (rs.map some++ids)&&fs.isEmpty with
    | true=>asks (ps++(qs++pre g d)) ((R.put (h.nx+A.R) (fn g d).2).bind fun y=>.ret (y.1,
      ⟨h.nx+(A.R+R.R),whole (rowsL h.nx (A.blks h.nx (fn g d).1++y.2))++(whole (rs.zip (A.objs h.nx (fn g d).1))++(whole ((fdist ids).map fun i=>(i,SO.dead))++h.l)),h.b⟩))
    | false=>.bad 713
   | none=>.bad 714
  | none=>.bad 715
 | none=>.bad 716
theorem rootsOf_ok:∀ {q:Nat} {args:List SV} {rs:List Nat} {rest:List SV} {n:Nat} {ρ:Rh} {vs:List Value},rootsOf q args=some (rs,rest)→SV.fits n ρ args vs →
  ∃ vs',vs=(rs.map fun r=>Value.pointer (some ⟨(ρ r).blk,(ρ r).off+0,none⟩))++vs'∧SV.fits n ρ rest vs'∧rs.length=q∧∀ r∈rs,r<n
 | 0,args,rs,rest,n,ρ,vs,h,hf=>by
  simp only[rootsOf,Option.some.injEq,Prod.mk.injEq] at h
  obtain ⟨rfl,rfl⟩:=h
  exact ⟨vs,rfl,hf,rfl,fun r hr=>by cases hr⟩
 | q+1,args,rs,rest,n,ρ,vs,h,hf=>by
  unfold rootsOf at h
  split at h
  ·rename_i h0;omega
  ·rename_i q' r l h0
   split at h
   ·rename_i rs' rest' hr
    simp only[Option.some.injEq,Prod.mk.injEq] at h
    obtain ⟨rfl,rfl⟩:=h
    obtain ⟨x,vs1,rfl,hx,hl⟩:=fits_cons hf
    have h0:q'=q:=by omega
    subst h0
    obtain ⟨vs',rfl,k1,k2,k3⟩:=rootsOf_ok hr hl
    obtain ⟨hx1,rfl⟩:=hx
    exact ⟨vs',rfl,k1,by simp[k2],fun i hi=>by
     rcases List.mem_cons.1 hi with rfl | hi
     ·exact hx1
     ·exact k3 i hi⟩
   ·cases h
  ·cases h
theorem look_zip {i j:Nat} {so:SO}:∀ {rs:List Nat} {os:List SO} (d:SO),rs.Nodup→rs[j]?=some i→os[j]?=some so→look d i (rs.zip os)=so
 | [],_,_,_,h,_=>by simp at h
 | _ :: _,[],_,_,_,h=>by simp at h
 | r :: rs,o :: os,d,hnd,h1,h2=>by
  rw[List.zip_cons_cons,look_cons]
  cases j with
  | zero=>
   simp only[List.getElem?_cons_zero,Option.some.injEq] at h1 h2
   rw[if_pos h1.symm,h2]
  | succ j=>
   simp only[List.getElem?_cons_succ] at h1 h2
   obtain ⟨n1,n2⟩:=List.nodup_cons.1 hnd
   have hne:¬ i=r:=fun h=>n1 (by rw[← h];exact List.mem_of_getElem? h1)
   rw[if_neg hne]
   exact look_zip d n2 h1 h2
theorem look_zip_not {i:Nat} {rs:List Nat} {os:List SO} (d:SO) (h:i∉rs):look d i (rs.zip os)=d:=by
 refine look_not _ _ fun hm=>h ?_
 obtain ⟨x,hx,rfl⟩:=List.mem_map.1 hm
 exact (List.of_mem_zip hx).1
end
end Go.Sx

namespace Go.Sx
open Go.RowKit
variable [Env]
section
variable {P:Program} {f:Nat} {κ γ δ:Type} {A:TA κ} {D:DA γ} {R:TR δ} {fn:κ→γ→κ×δ} {pre:κ→γ→List Prop}
theorem nodup_roots:∀ {rs:List Nat} {ids:List (Option Nat)},(∀ k k' j:Nat,(rs.map some++ids)[k]?=some (some j)→(rs.map some++ids)[k']?=some (some j)→k=k')→rs.Nodup∧∀ r∈rs,r∉fdist ids:=fun {rs ids} h=>by
 have hl:∀ k r,rs[k]?=some r→(rs.map some++ids)[k]?=some (some r):=fun k r hk=>by
  have hlt:=(List.getElem?_eq_some_iff.1 hk).1
  rw[List.getElem?_append_left (by simpa using hlt),List.getElem?_map,hk];rfl
 constructor
 ·refine List.pairwise_iff_getElem.2 fun i j hi hj hij he=>?_
  have h1:=hl i rs[i] (List.getElem?_eq_getElem hi)
  have h2:=hl j rs[j] (List.getElem?_eq_getElem hj)
  rw[he] at h1
  have:=h i j _ h1 h2
  omega
 ·intro r hr hd
  obtain ⟨k,hk⟩:=List.getElem?_of_mem hr
  obtain ⟨x,hx,he⟩:=List.mem_filterMap.1 hd
  have he:x=some r:=he
  subst he
  obtain ⟨k',hk'⟩:=List.getElem?_of_mem hx
  have h2:(rs.map some++ids)[rs.length+k']?=some (some r):=by
   rw[List.getElem?_append_right (by simp),List.length_map,show rs.length+k' - rs.length=k' by omega,hk']
  have:=h k _ _ (hl k r hk) h2
  have:=(List.getElem?_eq_some_iff.1 hk).1
  omega
theorem conT_ok (hp:FnT P f A D R fn pre):FnOk P f (conT A D R fn pre):=by
 intro M w0 w ρ h args vs K hK hm hfits
 unfold conT at hK
 split at hK
 ·rename_i rs rest hroots
  obtain ⟨vs',rfl,hrest,hrl,hrn⟩:=rootsOf_ok hroots hfits
  split at hK
  ·rename_i g ps ids fs hA
   split at hK
   ·rename_i d qs hd
    split at hK
    ·rename_i hchk
     obtain ⟨hq,hK⟩:=asks_holds hK
     have hps:∀ p∈ps,p:=fun p h'=>hq p (List.mem_append_left _ h')
     have hqs:∀ p∈qs,p:=fun p h'=>hq p (List.mem_append_right _ (List.mem_append_left _ h'))
     have hpre:∀ p∈pre g d,p:=fun p h'=>hq p (List.mem_append_right _ (List.mem_append_right _ h'))
     simp only[Bool.and_eq_true,List.isEmpty_iff] at hchk
     obtain ⟨c1,rfl⟩:=hchk
     obtain ⟨i1,_⟩:=idsOk_ok c1
     obtain ⟨n1,n2⟩:=nodup_roots i1
     obtain ⟨la,lq⟩:=A.ilen _ _ _ _ _ _ hA
     let src:List (Option Nat):=rs.map some++ids
     let L:Nat→Lc:=fun k=>match src[k]? with | some (some j)=>ρ j | _=>⟨0,0,0,true⟩
     let ρa:Rh:=⟨L,ρ.mem,ρ.lo⟩
     let ρc:Rh:=⟨L,ρ.mem,⟨ρ.mem,fun _=>none⟩⟩
     have hsrl:src.length=A.q+A.R:=by simp[src,lq,la]
     have hL:∀ k j:Nat,src[k]?=some (some j)→L k=ρ j:=fun k j hk=>by simp only[L,hk]
     have hLn:∀ k:Nat,src[k]?=some none→L k=⟨0,0,0,true⟩:=fun k hk=>by simp only[L,hk]
     have hsl:∀ k r,rs[k]?=some r→src[k]?=some (some r):=fun k r hk=>by
      have hlt:=(List.getElem?_eq_some_iff.1 hk).1
      show (rs.map some++ids)[k]?=_
      rw[List.getElem?_append_left (by simpa using hlt),List.getElem?_map,hk];rfl
     have hsr:∀ k,src[A.q+k]?=ids[k]?:=fun k=>by
      show (rs.map some++ids)[A.q+k]?=_
      rw[List.getElem?_append_right (by simp[lq]),List.length_map,lq,show A.q+k - A.q=k by omega]
     have hrnA:Rn 0 A.q ids (A.q+A.R) ρ ρa:=⟨by omega,⟨fun i hi=>absurd hi (Nat.not_lt_zero i),fun _ _ h=>h,rfl⟩,fun k j hk=>by
      rw[show 0+A.q+k=A.q+k by omega]
      exact hL _ _ (by rw[hsr];exact hk),fun k hk=>by
      rw[show 0+A.q+k=A.q+k by omega]
      exact hLn _ (by rw[hsr];exact hk)⟩
     have hzA:FzR h.nx h [] ρ ρa:=fun j hj=>by cases hj
     obtain ⟨a1,a2⟩:=A.ok 0 A.q h rs g ps ids [] hA hps
     rw[Nat.zero_add] at a1 a2
     have hlenA:(canonA A g).length=A.q+A.R:=canonA_len A g
     have hge:∀ k,A.q≤k→∃ k',k=A.q+k':=fun k hk=>⟨k - A.q,by omega⟩
     have hso:∀ (k:Nat) (so:SO),(canonA A g)[k]?=some so→(src[k]?=some none∧NilSO so)∨∃ j:Nat,src[k]?=some (some j)∧Ow so (h.get j)∧so.fit (A.q+A.R) ρa (ρ j) w.heap[(ρ j).blk]?:=fun k so hk=>by
      rcases Nat.lt_or_ge k A.q with h1 | h1
      ·unfold canonA at hk
       rw[List.getElem?_append_left (by rw[A.olen];exact h1)] at hk
       have hlt:k<rs.length:=by omega
       obtain ⟨o1,o2,o4,o3⟩:=a2 k rs[k] so (List.getElem?_eq_getElem hlt) hk
       exact .inr ⟨rs[k],hsl k _ (List.getElem?_eq_getElem hlt),⟨fun L _=>o1 L,fun a=>(o4 a).1⟩,o3 _ _ _ _ _ _ hrnA hzA (hm.ob _)⟩
      ·obtain ⟨k,rfl⟩:=hge k h1
       unfold canonA at hk
       rw[List.getElem?_append_right (by rw[A.olen];omega),A.olen,show A.q+k - A.q=k by omega] at hk
       rw[hsr]
       rcases a1.blk k so hk with ⟨b1,b2⟩ | ⟨j,b1,b2,b3⟩
       ·exact .inl ⟨b1,b2⟩
       ·exact .inr ⟨j,b1,b2,b3 _ _ _ _ _ _ hrnA hzA (hm.ob _)⟩
     have hown:∀ k,((canonH (canonA A g)).get k).own (L k)→∃ j:Nat,src[k]?=some (some j)∧(h.get j).own (ρ j)∧L k=ρ j:=fun k hk=>by
      rw[canonH_get] at hk
      cases hs:(canonA A g)[k]? with
      | none=>rw[hs] at hk;exact hk.elim
      | some so=>
       rw[hs] at hk
       rcases hso k so hs with ⟨h1,rfl | ⟨t,sz,el,rfl⟩⟩ | ⟨j,h1,h2,_⟩
       ·exact hk.elim
       ·have hk:(L k).nl=false:=hk
        rw[hLn k h1] at hk;cases hk
       ·rw[hL k j h1] at hk
        exact ⟨j,h1,h2.1 _ hk,hL k j h1⟩
     have habs:∀ k a,(canonH (canonA A g)).get k=.abs a→∃ j:Nat,src[k]?=some (some j)∧h.get j=.abs a∧L k=ρ j:=fun k a hk=>by
      rw[canonH_get] at hk
      cases hs:(canonA A g)[k]? with
      | none=>rw[hs] at hk;cases hk
      | some so=>
       rw[hs] at hk
       have hk:so=.abs a:=hk
       rcases hso k so hs with ⟨h1,rfl | ⟨t,sz,el,rfl⟩⟩ | ⟨j,h1,h2,_⟩
       ·cases hk
       ·cases hk
       ·exact ⟨j,h1,h2.2 a hk,hL k j h1⟩
     have hagr:Agr (A.q+A.R) ρa ρc:=⟨fun _ _=>rfl,fun _ _ h _=>h⟩
     obtain ⟨S,hS⟩:=hm.ab
     let Sc:Nat→Nat→Prop:=fun k=>S (match src[k]? with | some (some j)=>j | _=>0)
     let Ft:Nat→Prop:=fun b=>∃ k,((canonH (canonA A g)).get k).own (L k)∧(b=(L k).blk∨∃ a,(canonH (canonA A g)).get k=.abs a∧Sc k b)
     have hSc:∀ k j:Nat,src[k]?=some (some j)→Sc k=S j:=fun k j hk=>by simp only[Sc,hk]
     have hent:HM Ft w ρc (canonH (canonA A g)) w:={
      os:=rfl
      tape:=rfl
      output:=rfl
      size:=Nat.le_refl _
      block:=fun _ _ _=>rfl
      lt:=fun k hk=>by
       rw[canonH_get] at hk
       show k<(canonA A g).length
       by_cases hlt:k<(canonA A g).length
       ·exact hlt
       ·rw[List.getElem?_eq_none (by omega)] at hk;cases hk
      ob:=fun k=>by
       show ((canonH (canonA A g)).get k).fit (canonA A g).length ρc (L k) _
       rw[canonH_get,hlenA]
       cases hs:(canonA A g)[k]? with
       | none=>trivial
       | some so=>
        rcases hso k so hs with ⟨h1,rfl | ⟨t,sz,el,rfl⟩⟩ | ⟨j,h1,_,h3⟩
        ·trivial
        ·rw[hLn k h1]
         exact ⟨Nat.zero_le _,.inl ⟨rfl,rfl⟩⟩
        ·show so.fit (A.q+A.R) ρc (L k) w.heap[(L k).blk]?
         rw[hL k j h1]
         exact SO.fit_mono0 (Nat.le_refl _) hagr h3
      ow:=fun k hk=>.inr ⟨k,hk,.inl rfl⟩
      fz:=hm.fz
      sep:=fun k hk=>by
       obtain ⟨j,_,h2,h3⟩:=hown k hk
       show ρ.mem (L k).blk=none
       rw[h3];exact hm.sep j h2
      old:=fun b o hb _ _=>hb
      env:=hm.env
      ab:=⟨Sc,fun k a hk=>by
       obtain ⟨j,h1,h2,h3⟩:=habs k a hk
       obtain ⟨q1,q2⟩:=hS j a h2
       refine ⟨by show Env.rep a (L k) _ _ _;rw[h3,hSc k j h1];exact q1,fun b hb=>?_⟩
       have hb':S j b:=by rw[← hSc k j h1];exact hb
       obtain ⟨r1,r2,r3,r4,r5⟩:=q2 b hb'
       refine ⟨.inr ⟨k,own_abs hk,.inr ⟨a,hk,hb⟩⟩,r2,r3,fun k' hk'=>?_,fun k' a' hk' hb2=>?_⟩
       ·obtain ⟨j',_,h2',h3'⟩:=hown k' hk'
        show (L k').blk≠b
        rw[h3'];exact r4 j' h2'
       ·obtain ⟨j',h1',h2',h3'⟩:=habs k' a' hk'
        rw[hSc k' j' h1'] at hb2
        have:=r5 j' a' h2' hb2
        subst this
        exact i1 k k' j h1 h1'⟩
      inj:=fun k k' hk hk' he=>by
       obtain ⟨j,h1,h2,h3⟩:=hown k hk
       obtain ⟨j',h1',h2',h3'⟩:=hown k' hk'
       have he:(L k).blk=(L k').blk:=he
       rw[h3,h3'] at he
       have:=hm.inj j j' h2 h2' he
       subst this
       exact i1 k k' j h1 h1' }
     have hvs':=D.cl _ _ 0 ρ (emp ρ.mem) _ (fun _ _ h=>h) (D.ok _ _ _ _ _ _ hd hqs hrest)
     have hrv:(rs.map fun r=>Value.pointer (some ⟨(ρ r).blk,(ρ r).off+0,none⟩))=rootVs A.q ρc:=by
      refine List.ext_getElem? fun k=>?_
      simp only[rootVs,List.getElem?_map]
      by_cases hk:k<A.q
      ·have hlt:k<rs.length:=by omega
       have e2:L k=ρ rs[k]:=hL k _ (hsl k _ (List.getElem?_eq_getElem hlt))
       rw[List.getElem?_eq_getElem hlt,List.getElem?_range hk,Option.map_some,Option.map_some]
       show _=some (Value.pointer (some ⟨(L k).blk,(L k).off+0,none⟩))
       rw[e2]
      ·rw[List.getElem?_eq_none (by omega),List.getElem?_eq_none (by simpa using Nat.not_lt.1 hk)]
       rfl
     have hcall:=hp Ft w ρc g d vs' hent hpre hvs'
     rw[hrv]
     refine hcall.mono ?_
     rintro e w' ⟨x,ρe,rfl,hroot,hmm,hlo,hme,hx⟩
     have hlenO:(canonO A R (fn g d)).length=A.q+(A.R+R.R):=canonO_len A R _
     have hfoot:∀ b,Ft b→∃ j,(j∈rs∨j∈fdist ids)∧(h.get j).own (ρ j)∧(b=(ρ j).blk∨∃ a,h.get j=.abs a∧S j b):=fun b ⟨k,hk,hb⟩=>by
      obtain ⟨j,h1,h2,h3⟩:=hown k hk
      have hb:b=(ρ j).blk∨∃ a,h.get j=.abs a∧S j b:=by
       rcases hb with hb | ⟨a,ha,hb⟩
       ·exact .inl (by rw[hb];exact congrArg Lc.blk h3)
       ·obtain ⟨j',k1,k2,k3⟩:=habs k a ha
        rw[h1] at k1
        simp only[Option.some.injEq] at k1
        subst k1
        exact .inr ⟨a,k2,by rw[hSc k j h1] at hb;exact hb⟩
      refine ⟨j,?_,h2,hb⟩
      rcases Nat.lt_or_ge k A.q with hk | hk
      ·left
       have hlt:k<rs.length:=by omega
       have:=hsl k _ (List.getElem?_eq_getElem hlt)
       rw[this] at h1
       simp only[Option.some.injEq] at h1
       rw[← h1];exact List.getElem_mem hlt
      ·obtain ⟨k,rfl⟩:=hge k hk
       rw[hsr] at h1
       exact .inr (List.mem_filterMap.2 ⟨some j,List.mem_of_getElem? h1,rfl⟩)
     have hfM:∀ b,Ft b→w0.heap.size≤b∨M b:=fun b hb=>by
      obtain ⟨j,_,h2,rfl | ⟨a,h3,h4⟩⟩:=hfoot b hb
      ·exact hm.ow j h2
      ·exact ((hS j a h3).2 b h4).1
     have hfa:∀ i a b,i∉rs→i∉fdist ids→h.get i=.abs a→S i b→¬ Ft b:=fun i a b h1 h2 ha hb hF=>by
      obtain ⟨j,hj,h3,h4⟩:=hfoot _ hF
      rcases h4 with rfl | ⟨a',h4,h5⟩
      ·exact hS.ne ha h3 hb
      ·have:=((hS i a ha).2 b hb).2.2.2.2 j a' h4 h5
       subst this
       rcases hj with hj | hj
       ·exact h1 hj
       ·exact h2 hj
     have hfk:∀ i,i∉rs→i∉fdist ids→(h.get i).own (ρ i)→¬ Ft (ρ i).blk:=fun i h1 h2 ho hb=>by
      obtain ⟨j,hj,h3,h4⟩:=hfoot _ hb
      rcases h4 with h4 | ⟨a,h4,h5⟩
      rotate_left
      ·exact hS.ne h4 ho h5
      have:=hm.inj i j ho h3 h4
      subst this
      rcases hj with hj | hj
      ·exact h1 hj
      ·exact h2 hj
     let T:Nat:=A.R+R.R
     let bs:List SO:=A.blks h.nx (fn g d).1++R.blks (h.nx+A.R) (fn g d).2
     let h2:SH:=⟨h.nx+T,whole (rowsL h.nx bs)++(whole (rs.zip (A.objs h.nx (fn g d).1))++(whole ((fdist ids).map fun i=>(i,SO.dead))++h.l)),h.b⟩
     let ρ2:Rh:=⟨fun k=>if h.nx≤k∧k<h.nx+T then ρe (A.q+(k - h.nx)) else ρ k,ρe.mem,ρ.lo⟩
     have hbl:bs.length=T:=by simp[bs,T,A.blen,R.blen]
     have r2n:∀ p,p<T→ρ2 (h.nx+p)=ρe (A.q+p):=fun p hp=>by
      show (if _ then _ else _)=_
      rw[if_pos (by omega),show h.nx+p - h.nx=p by omega]
     have r2o:∀ k,k<h.nx→ρ2 k=ρ k:=fun k hk=>by
      show (if _ then _ else _)=_
      rw[if_neg (by omega)]
     have hmemle:∀ b o,ρ.mem b=some o→ρe.mem b=some o:=hmm
     have hag:Agree h.nx ρ ρ2:=⟨r2o,hmemle,rfl⟩
     have hget:∀ k,(∃ p so,k=h.nx+p∧p<T∧bs[p]?=some so∧h2.get k=so)∨(∃ j so,rs[j]?=some k∧(A.objs h.nx (fn g d).1)[j]?=some so∧h2.get k=so)∨h2.get k=.dead∨(k∉rs∧k∉fdist ids∧h2.get k=h.get k):=fun k=>by
      have e:h2.get k=look (look (look (lookE (lookE .dead k h.b) k h.l) k ((fdist ids).map fun i=>(i,SO.dead))) k (rs.zip (A.objs h.nx (fn g d).1))) k (rowsL h.nx bs):=by
       simp only[h2,SH.get,lookE_append,lookE_whole]
      obtain ⟨q1,q2⟩:=rowsL_get (i:=k) (r:=bs) (k:=h.nx) (look (look (lookE (lookE .dead k h.b) k h.l) k ((fdist ids).map fun i=>(i,SO.dead))) k (rs.zip (A.objs h.nx (fn g d).1)))
      by_cases hk:h.nx≤k∧k<h.nx+T
      ·obtain ⟨so,e1,e2⟩:=q1 (k - h.nx) (by omega) (by omega)
       exact .inl ⟨k - h.nx,so,by omega,by omega,e1,by rw[e,e2]⟩
      ·rw[q2 (by omega)] at e
       by_cases hkr:k∈rs
       ·obtain ⟨j,hj⟩:=List.getElem?_of_mem hkr
        have hjl:=(List.getElem?_eq_some_iff.1 hj).1
        have hol:j<(A.objs h.nx (fn g d).1).length:=by rw[A.olen];omega
        exact .inr (.inl ⟨j,_,hj,List.getElem?_eq_getElem hol,by rw[e,look_zip _ n1 hj (List.getElem?_eq_getElem hol)]⟩)
       ·rw[look_zip_not _ hkr] at e
        by_cases hki:k∈fdist ids
        ·exact .inr (.inr (.inl (by rw[e,look_dead _ _ _ hki])))
        ·rw[look_not _ _ (by simpa using hki)] at e
         exact .inr (.inr (.inr ⟨hkr,hki,e⟩))
     have hshA:=A.shf A.q h.nx (fn g d).1 (A.q+(A.R+R.R)) (h.nx+T) ρe ρ2 (fun _ _ h=>h) (fun k hk=>r2n k (by show k<A.R+R.R;omega)) (by show h.nx+A.R≤h.nx+(A.R+R.R);omega)
     have hshR:=R.shf (A.q+A.R) (h.nx+A.R) (fn g d).2 (A.q+(A.R+R.R)) (h.nx+T) ρe ρ2 (fun _ _ h=>h) (fun k hk=>by
      rw[show h.nx+A.R+k=h.nx+(A.R+k) by omega,show A.q+A.R+k=A.q+(A.R+k) by omega]
      exact r2n _ (by show A.R+k<A.R+R.R;omega)) (by show h.nx+A.R+R.R≤h.nx+(A.R+R.R);omega)
     have hshB:ShfB (A.q+(A.R+R.R)) (h.nx+T) ρe ρ2 (A.blks A.q (fn g d).1++R.blks (A.q+A.R) (fn g d).2) bs:=shfB_app (by rw[A.blen,A.blen]) hshA.2 hshR.2
     have hcg:∀ p,(canonH (canonO A R (fn g d))).get (A.q+p)=((A.blks A.q (fn g d).1++R.blks (A.q+A.R) (fn g d).2)[p]?).getD .dead:=fun p=>by
      rw[canonH_get]
      unfold canonO
      rw[List.getElem?_append_right (by rw[A.olen];omega),A.olen,show A.q+p - A.q=p by omega]
     have hcr:∀ j,j<A.q→(canonH (canonO A R (fn g d))).get j=((A.objs A.q (fn g d).1)[j]?).getD .dead:=fun j hj=>by
      rw[canonH_get]
      unfold canonO
      rw[List.getElem?_append_left (by rw[A.olen];exact hj)]
     have hnb:∀ p so,bs[p]?=some so→∃ so',(canonH (canonO A R (fn g d))).get (A.q+p)=so'∧OwE so so'∧∀ L o,so'.fit (A.q+(A.R+R.R)) ρe L o→so.fit (h.nx+T) ρ2 L o:=fun p so hso=>by
      have hlt:p<(A.blks A.q (fn g d).1++R.blks (A.q+A.R) (fn g d).2).length:=by
       have:=(List.getElem?_eq_some_iff.1 hso).1
       rw[hbl] at this
       rw[List.length_append,A.blen,R.blen];exact this
      obtain ⟨so2,k1,k2,k3⟩:=hshB p _ (List.getElem?_eq_getElem hlt)
      rw[hso] at k1
      simp only[Option.some.injEq] at k1
      subst k1
      exact ⟨_,by rw[hcg,List.getElem?_eq_getElem hlt];rfl,k2,k3⟩
     have hno:∀ j so,(A.objs h.nx (fn g d).1)[j]?=some so→∃ so',(canonH (canonO A R (fn g d))).get j=so'∧OwE so so'∧∀ L o,so'.fit (A.q+(A.R+R.R)) ρe L o→so.fit (h.nx+T) ρ2 L o:=fun j so hso=>by
      have hjq:j<A.q:=by
       have:=(List.getElem?_eq_some_iff.1 hso).1
       rw[A.olen] at this;exact this
      have hlt:j<(A.objs A.q (fn g d).1).length:=by rw[A.olen];exact hjq
      obtain ⟨so2,k1,k2,k3⟩:=hshA.1 j _ (List.getElem?_eq_getElem hlt)
      rw[hso] at k1
      simp only[Option.some.injEq] at k1
      subst k1
      exact ⟨_,by rw[hcr j hjq,List.getElem?_eq_getElem hlt];rfl,k2,k3⟩
     have hrρ:∀ j r,rs[j]?=some r→ρe j=ρ r∧j<A.q∧r<h.nx:=fun j r hj=>by
      have hlt:=(List.getElem?_eq_some_iff.1 hj).1
      refine ⟨?_,by omega,hrn r (List.mem_of_getElem? hj)⟩
      rw[hroot j (by omega)]
      exact hL j r (hsl j r hj)
     have hsrc:∀ k,(h2.get k).own (ρ2 k)→(∃ i,((canonH (canonO A R (fn g d))).get i).own (ρe i)∧ρ2 k=ρe i∧((∃ p,k=h.nx+p∧i=A.q+p)∨(k<h.nx∧i<A.q∧rs[i]?=some k)))∨(k<h.nx∧k∉rs∧k∉fdist ids∧(h.get k).own (ρ k)∧ρ2 k=ρ k):=fun k hk=>by
      rcases hget k with ⟨p,so,rfl,hp',hso',e⟩ | ⟨j,so,hj,hso',e⟩ | e | ⟨e1,e2,e⟩
      ·left
       obtain ⟨so',k1,k2,_⟩:=hnb p so hso'
       rw[e,r2n p hp'] at hk
       exact ⟨A.q+p,by rw[k1];exact (k2.1 _).1 hk,r2n p hp',.inl ⟨p,rfl,rfl⟩⟩
      ·left
       obtain ⟨so',k1,k2,_⟩:=hno j so hso'
       obtain ⟨z1,z2,z3⟩:=hrρ j k hj
       rw[e,r2o k z3] at hk
       exact ⟨j,by rw[k1,z1];exact (k2.1 _).1 hk,by rw[r2o k z3,z1],.inr ⟨z3,z2,hj⟩⟩
      ·rw[e] at hk;exact hk.elim
      ·right
       rw[e] at hk
       have hlt:k<h.nx:=hm.lt k (SO.live_of hk)
       rw[r2o k hlt] at hk
       exact ⟨hlt,e1,e2,hk,r2o k hlt⟩
     have habs2:∀ k a,h2.get k=.abs a→(∃ i,(canonH (canonO A R (fn g d))).get i=.abs a∧ρ2 k=ρe i∧((∃ p,k=h.nx+p∧i=A.q+p)∨(k<h.nx∧i<A.q∧rs[i]?=some k)))∨(k<h.nx∧k∉rs∧k∉fdist ids∧h.get k=.abs a∧ρ2 k=ρ k):=fun k a hk=>by
      rcases hget k with ⟨p,so,rfl,hp',hso',e⟩ | ⟨j,so,hj,hso',e⟩ | e | ⟨e1,e2,e⟩
      ·left
       obtain ⟨so',k1,k2,_⟩:=hnb p so hso'
       rw[e] at hk
       exact ⟨A.q+p,by rw[k1];exact (k2.2 a).1 hk,r2n p hp',.inl ⟨p,rfl,rfl⟩⟩
      ·left
       obtain ⟨so',k1,k2,_⟩:=hno j so hso'
       obtain ⟨z1,z2,z3⟩:=hrρ j k hj
       rw[e] at hk
       exact ⟨j,by rw[k1];exact (k2.2 a).1 hk,by rw[r2o k z3,z1],.inr ⟨z3,z2,hj⟩⟩
      ·rw[e] at hk;cases hk
      ·right
       rw[e] at hk
       have hlt:k<h.nx:=hm.lt k (by rw[hk];rfl)
       exact ⟨hlt,e1,e2,hk,r2o k hlt⟩
     have hsize:=hm.size
     refine ⟨_,_,ρ2,x,R.putOk _ _ _ (Tr.holds_bind hK),?_,hag,?_,?_,rfl⟩
     ·show h.nx≤h.nx+(A.R+R.R)
      omega
     ·exact {
       os:=hme.os.trans hm.os
       tape:=hme.tape.trans hm.tape
       output:=hme.output.trans hm.output
       size:=Nat.le_trans hm.size hme.size
       block:=fun i hi hM=>by
        rw[hme.block i (by omega) fun hf=>?_]
        ·exact hm.block i hi hM
        ·rcases hfM i hf with h1 | h1
         ·omega
         ·exact hM h1
       lt:=fun k hk=>by
        show k<h.nx+T
        rcases hget k with ⟨p,so,rfl,hp',_,_⟩ | ⟨j,so,hj,_,_⟩ | e | ⟨_,_,e⟩
        ·omega
        ·have:=(hrρ j k hj).2.2;omega
        ·have hk:(h2.get k).live=true:=hk
         rw[e] at hk;cases hk
        ·have hk:(h2.get k).live=true:=hk
         rw[e] at hk
         have:=hm.lt k hk;omega
       ob:=fun k=>by
        show (h2.get k).fit (h.nx+T) ρ2 (ρ2 k) _
        rcases hget k with ⟨p,so,rfl,hp',hso',e⟩ | ⟨j,so,hj,hso',e⟩ | e | ⟨e1,e2,e⟩
        ·obtain ⟨so',k1,_,k3⟩:=hnb p so hso'
         rw[e,r2n p hp']
         have:=hme.ob (A.q+p)
         rw[k1,show (canonH (canonO A R (fn g d))).nx=A.q+(A.R+R.R) from hlenO] at this
         exact k3 _ _ this
        ·obtain ⟨so',k1,_,k3⟩:=hno j so hso'
         obtain ⟨z1,z2,z3⟩:=hrρ j k hj
         rw[e,r2o k z3,← z1]
         have:=hme.ob j
         rw[k1,show (canonH (canonO A R (fn g d))).nx=A.q+(A.R+R.R) from hlenO] at this
         exact k3 _ _ this
        ·rw[e];trivial
        ·rw[e]
         by_cases hlive:k<h.nx
         ·rw[r2o k hlive]
          refine SO.fit_mono (by omega) hag (hm.ob_other fun ho=>?_)
          exact hme.block _ (hm.lt_heap ho) (hfk k e1 e2 ho)
         ·have:h.get k=.dead:=by
           cases hg:h.get k with
           | dead=>rfl
           | _=>have:=hm.lt k (by rw[hg];rfl);omega
          rw[this];trivial
       ow:=fun k hk=>by
        rcases hsrc k hk with ⟨i,s1,s2,_⟩ | ⟨_,_,_,s4,s5⟩
        ·rw[s2]
         rcases hme.ow i s1 with h1 | h1
         ·exact .inl (by omega)
         ·exact hfM _ h1
        ·rw[s5];exact hm.ow k s4
       fz:=hme.fz
       sep:=fun k hk=>by
        show ρe.mem (ρ2 k).blk=none
        rcases hsrc k hk with ⟨i,s1,s2,_⟩ | ⟨_,s2,s3,s4,s5⟩
        ·rw[s2];exact hme.sep i s1
        ·rw[s5]
         cases hc:ρe.mem (ρ k).blk with
         | none=>rfl
         | some o=>
          have:=hme.old _ o hc (hm.lt_heap s4) (hfk k s2 s3 s4)
          rw[hlo] at this
          have:ρ.mem (ρ k).blk=some o:=this
          rw[hm.sep k s4] at this
          cases this
       old:=fun b o hb hlt hM=>by
        have h1:=hme.old b o hb (by omega) fun hf=>by
         rcases hfM b hf with h1 | h1
         ·omega
         ·exact hM h1
        rw[hlo] at h1
        exact hm.old b o h1 hlt hM
       env:=hme.env
       ab:=by
        obtain ⟨Se,hSe⟩:=hme.ab
        let c2:Nat→Nat→Prop:=fun k i=>(∃ p,k=h.nx+p∧i=A.q+p)∨(k<h.nx∧i<A.q∧rs[i]?=some k)
        have hu:∀ k i i',c2 k i→c2 k i'→i=i':=fun k i i' h1 h2=>by
         rcases h1 with ⟨p,rfl,rfl⟩ | ⟨z1,z2,z3⟩ <;> rcases h2 with ⟨p',e,rfl⟩ | ⟨z1',z2',z3'⟩
         ·omega
         ·omega
         ·omega
         ·obtain ⟨y1,y2⟩:=List.getElem?_eq_some_iff.1 z3
          obtain ⟨y3,y4⟩:=List.getElem?_eq_some_iff.1 z3'
          have hp:=List.pairwise_iff_getElem.1 n1
          rcases Nat.lt_trichotomy i i' with hlt | he | hlt
          ·exact absurd (y2.trans y4.symm) (hp i i' y1 y3 hlt)
          ·exact he
          ·exact absurd (y4.trans y2.symm) (hp i' i y3 y1 hlt)
        let S2:Nat→Nat→Prop:=fun k b=>(∃ i,c2 k i∧Se i b)∨((¬ ∃ i,c2 k i)∧S k b)
        have hS2:∀ k i,c2 k i→∀ b,S2 k b↔Se i b:=fun k i hc b=>⟨fun h=>by
         rcases h with ⟨i',h1,h2⟩ | ⟨h1,_⟩
         ·rw[hu k i i' hc h1];exact h2
         ·exact absurd ⟨i,hc⟩ h1,fun h=>.inl ⟨i,hc,h⟩⟩
        have hS3:∀ k,k<h.nx→k∉rs→∀ b,S2 k b↔S k b:=fun k h1 h2 b=>⟨fun h=>by
         rcases h with ⟨i',h3,_⟩ | ⟨_,h3⟩
         ·rcases h3 with ⟨p,h3,_⟩ | ⟨_,_,h3⟩
          ·omega
          ·exact absurd (List.mem_of_getElem? h3) h2
         ·exact h3,fun h=>.inr ⟨fun ⟨i,h3⟩=>by
          rcases h3 with ⟨p,h3,_⟩ | ⟨_,_,h3⟩
          ·omega
          ·exact h2 (List.mem_of_getElem? h3),h⟩⟩
        refine ⟨S2,fun k a hk=>?_⟩
        rcases habs2 k a hk with ⟨i,s1,s2,s3⟩ | ⟨t1,t2,t3,t4,t5⟩
        ·have hk2:=hS2 k i s3
         have hk3:S2 k=Se i:=funext fun b=>propext (hk2 b)
         rw[hk3]
         obtain ⟨q1,q2⟩:=hSe i a s1
         rw[s2]
         refine ⟨q1,fun b hb=>?_⟩
         obtain ⟨r1,r2,r3,r4,r5⟩:=q2 b hb
         refine ⟨?_,r2,r3,fun k' hk'=>?_,fun k' a' hk' hb'=>?_⟩
         ·rcases r1 with h1 | h1
          ·exact .inl (by omega)
          ·exact hfM _ h1
         ·rcases hsrc k' hk' with ⟨i',s1',s2',_⟩ | ⟨_,t2',t3',t4',t5'⟩
          ·rw[s2'];exact r4 i' s1'
          ·rw[t5']
           rintro rfl
           rcases r1 with h1 | h1
           ·have:=hm.lt_heap t4';omega
           ·exact hfk k' t2' t3' t4' h1
         ·rcases habs2 k' a' hk' with ⟨i',s1',s2',s3'⟩ | ⟨_,t2',t3',t4',t5'⟩
          ·have hb':=(hS2 k' i' s3' b).1 hb'
           have hii:=r5 i' a' s1' hb'
           subst hii
           rcases s3 with ⟨p,rfl,hp1⟩ | ⟨z1,z2,z3⟩ <;> rcases s3' with ⟨p',rfl,hp2⟩ | ⟨z1',z2',z3'⟩
           ·omega
           ·omega
           ·omega
           ·rw[z3] at z3'
            simpa using z3'
          ·exfalso
           have hb':=(hS3 k' ‹_› t2' b).1 hb'
           rcases r1 with h1 | h1
           ·have:=hS.lt t4' hb';omega
           ·exact hfa k' a' b t2' t3' t4' hb' h1
        ·have hk3:S2 k=S k:=funext fun b=>propext (hS3 k t1 t2 b)
         rw[hk3]
         obtain ⟨q1,q2⟩:=hS k a t4
         rw[t5]
         refine ⟨Env.rep_cl _ _ _ _ _ _ _ (fun b hb=>?_) (fun b o hb _=>hmemle b o hb) q1,fun b hb=>?_⟩
         ·rcases hb with rfl | hb
          ·exact hme.block _ (hm.lt_heap (own_abs t4)) (hfk k t2 t3 (own_abs t4))
          ·exact hme.block _ (hS.lt t4 hb) (hfa k a b t2 t3 t4 hb)
         ·obtain ⟨r1,r2,r3,r4,r5⟩:=q2 b hb
          have hnf:=hfa k a b t2 t3 t4 hb
          refine ⟨r1,?_,Nat.lt_of_lt_of_le r3 hme.size,fun k' hk'=>?_,fun k' a' hk' hb'=>?_⟩
          ·show ρe.mem b=none
           cases hc:ρe.mem b with
           | none=>rfl
           | some o=>
            have:=hme.old _ o hc r3 hnf
            rw[hlo] at this
            have:ρ.mem b=some o:=this
            rw[r2] at this
            cases this
          ·rcases hsrc k' hk' with ⟨i',s1',s2',_⟩ | ⟨_,t2',t3',t4',t5'⟩
           ·rw[s2']
            rintro rfl
            rcases hme.ow i' s1' with h1 | h1
            ·omega
            ·exact hnf h1
           ·rw[t5'];exact r4 k' t4'
          ·rcases habs2 k' a' hk' with ⟨i',s1',s2',s3'⟩ | ⟨_,t2',t3',t4',t5'⟩
           ·exfalso
            have hb':=(hS2 k' i' s3' b).1 hb'
            rcases ((hSe i' a' s1').2 b hb').1 with h1 | h1
            ·omega
            ·exact hnf h1
           ·exact r5 k' a' t4' ((hS3 k' ‹_› t2' b).1 hb')
       inj:=fun k k' hk hk' he=>by
        rcases hsrc k hk with ⟨i,s1,s2,s3⟩ | ⟨t1,t2,t3,t4,t5⟩ <;> rcases hsrc k' hk' with ⟨i',s1',s2',s3'⟩ | ⟨t1',t2',t3',t4',t5'⟩
        ·rw[s2,s2'] at he
         have hii:=hme.inj i i' s1 s1' he
         subst hii
         rcases s3 with ⟨p,rfl,hp1⟩ | ⟨z1,z2,z3⟩ <;> rcases s3' with ⟨p',rfl,hp2⟩ | ⟨z1',z2',z3'⟩
         ·omega
         ·omega
         ·omega
         ·rw[z3] at z3'
          simpa using z3'
        ·rw[s2,t5'] at he
         exfalso
         rcases hme.ow i s1 with h1 | h1
         ·rw[he] at h1
          have:=hm.lt_heap t4'
          omega
         ·rw[he] at h1
          exact hfk k' t2' t3' t4' h1
        ·rw[t5,s2'] at he
         exfalso
         rcases hme.ow i' s1' with h1 | h1
         ·rw[← he] at h1
          have:=hm.lt_heap t4
          omega
         ·rw[← he] at h1
          exact hfk k t2 t3 t4 h1
        ·rw[t5,t5'] at he
         exact hm.inj k k' t4 t4' he }
     ·exact hshR.1 x hx
    ·exact hK.elim
   ·exact hK.elim
  ·exact hK.elim
 ·exact hK.elim
theorem conT_b:ConB (conT A D R fn pre):=fun args h=>by
 unfold conT
 split
 ·split
  ·split
   ·split
    ·refine asks_each (Tr.each_bind (p:=fun y:SV×SH=>y.2.b=h.b) (fun y=>?_) _)
     show h.b=h.b
     rfl
    ·trivial
   ·trivial
  ·trivial
 ·trivial
def bconT (A:TA κ) (D:DA γ) (R:TR δ) (fn:κ→γ→κ×δ) (pre:κ→γ→List Prop):BCon:=⟨conT A D R fn pre,conT_b⟩
theorem bconT_ok (hp:FnT P f A D R fn pre):FnOk P f (bconT A D R fn pre).g:=conT_ok hp
def fconT (A:TA κ) (D:DA γ) (R:TR δ) (fn:κ→γ→κ×δ) (pre:κ→γ→List Prop):BCon:=⟨frzC (conT A D R fn pre),fun args h=>by
 have hb:=(frzA_b args h).1
 refine asks_each ?_
 have:=conT_b (A:=A) (D:=D) (R:=R) (fn:=fn) (pre:=pre) (frzA h args).1 (frzA h args).2.1
 rw[hb] at this
 exact this⟩
theorem fconT_ok (hp:FnT P f A D R fn pre):FnOk P f (fconT A D R fn pre).g:=frzC_ok (conT_ok hp)
end
end Go.Sx

namespace Go.Sx
open Go.RowKit
variable [Env]
section
variable {α γ:Type}
def memR (F:Nat→Option Obj) (w w':World) (L:Lc):Nat→Option Obj:=fun b=>if L.nl=false∧b=L.blk then none else memAt F w w' b
def FnRow (P:Program) (f:Nat) (t:TypeId) (A:El α) (D:DA γ) (fn:γ→List α) (pre:γ→List Prop):Prop:=
 ∀ (w:World) (F:Nat→Option Obj) (g:γ) (vs:List Value),(∀ b o,F b=some o→w.heap[b]?=some o)→Env.E F→(∀ p∈pre g,p)→SV.fits 0 (emp F) (D.enc g) vs →
  Calls P f vs.toArray w fun e w'=>∃ x L,e=.returned x∧Below w.heap.size w w'∧OwV L (fn g).length x∧(L.nl=false→w.heap.size≤L.blk)∧(rowA A t (fn g)).fit 0 (emp (memR F w w' L)) L w'.heap[L.blk]?
def wTree (P:Program) (Γ:Gam) (Λ:Lam) (n f:Nat) (t:TypeId) (A:El α) (args:List SV):Tr (List α):=
 (fnTree P Γ Λ n f args ⟨0,[],[]⟩).bind fun y=>match y.1 with
  | .ow i l=>match y.2.get i with
   | .row t' sz el m=>match Nat.beq t' t&&Nat.beq sz A.sz with
    | true=>asks ((l=m) :: A.okE m el) (.ret (A.lstE m el))
    | false=>.bad 690
   | _=>.bad 691
  | .k x=>match nilK x with
   | true=>.ret []
   | false=>.bad 692
  | _=>.bad 693
variable {P:Program} {Γ:Gam} {Λ:Lam} {f t:Nat} {A:El α} {D:DA γ} {fn:γ→List α} {pre:γ→List Prop}
theorem row_of_tree (hΓ:∀ f g,Γ.g f=some g→FnOk P f g) (hΛ:∀ f k L,Λ f k=some L→∀ b∈loopsOf P f,lkey b=k→LoopOk P b L.g) (n:Nat)
  (hT:∀ g,D.bd g→(∀ p∈pre g,p)→(wTree P Γ Λ n f t A (D.enc g)).Holds (·=fn g)):FnRow P f t A D fn pre:=by
 intro w F g vs hF hE hpre hfit
 have hbd:=D.fb _ _ _ _ hfit
 have hT:=hT g hbd hpre
 have h0:=fnTree_ok hΓ hΛ n (fun _=>False) w w (emp F) ⟨0,[],[]⟩ _ vs _ (Tr.holds_bind hT) (HM.start w (emp F) hF (fun _ _ h=>h) hE) hfit
 refine h0.mono ?_
 rintro e w' ⟨s,h',ρ',x,h1,h2,h3,h4,h5,rfl⟩
 simp only at h1
 split at h1
 ·rename_i i l
  split at h1
  ·rename_i t' sz el m hg
   split at h1
   ·rename_i hb
    simp only[Bool.and_eq_true] at hb
    have e1:=beq_of hb.1
    have e2:=beq_of hb.2
    subst e1;subst e2
    obtain ⟨hq,h1⟩:=asks_holds h1
    have hl:l=m:=hq _ (List.mem_cons_self ..)
    have hok:∀ e,e<m→A.Ok (el e):=A.okE_ok m el fun p h'=>hq p (List.mem_cons_of_mem _ h')
    subst hl
    have h1:A.lstE l el=fn g:=h1
    have hob:=h4.ob i
    rw[hg] at hob
    have hlen:(fn g).length=l:=by rw[← h1,A.lstE_eq,A.lst_length]
    have hmem:∀ b o,ρ'.mem b=some o→memR F w w' (ρ' i) b=some o:=fun b o hb'=>by
     unfold memR
     rw[if_neg]
     ·unfold memAt
      split
      ·rename_i hlt
       have:=h4.old b o hb' hlt (fun h=>h)
       rw[h3.2.2] at this
       exact this
      ·exact h4.fz b o hb'
     ·rintro ⟨hn,rfl⟩
      have:=h4.sep i (by rw[hg];exact hn)
      rw[this] at hb'
      cases hb'
    refine ⟨x,ρ' i,rfl,h4.toBelow,?_,fun hn=>?_,?_⟩
    ·rw[hlen]
     rcases h5.2 with ⟨k1,k2,a,k3⟩ | ⟨k1,_,k3⟩
     ·exact .inl ⟨k1,k2,a,k3⟩
     ·exact .inr ⟨k1,k3⟩
    ·rcases h4.ow i (by rw[hg];exact hn) with h | h
     ·exact h
     ·exact h.elim
    ·rw[← h1]
     exact rowA_of A hmem hok hob
   ·exact h1.elim
  ·exact h1.elim
 ·rename_i y
  split at h1
  ·rename_i hy
   have hy:=nilK_eq hy
   subst hy
   have h1:[]=fn g:=h1
   simp only[SV.fit] at h5
   subst h5
   refine ⟨_,⟨0,0,0,true⟩,rfl,h4.toBelow,?_,fun h=>(by cases h),?_⟩
   ·rw[← h1];exact .inl ⟨rfl,rfl,_,rfl⟩
   ·rw[← h1];exact ⟨Nat.zero_le _,.inl ⟨rfl,rfl⟩⟩
  ·exact h1.elim
 ·exact h1.elim
def conRow (t:TypeId) (A:El α) (D:DA γ) (fn:γ→List α) (pre:γ→List Prop):Con:=fun args h=>
 match D.dec args with
 | some (g,ps)=>asks (ps++pre g) (.ret (.ow h.nx (fn g).length,h.push (rowA A t (fn g))))
 | none=>.bad 694
theorem conRow_ok (hp:FnRow P f t A D fn pre):FnOk P f (conRow t A D fn pre):=by
 intro M w0 w ρ h args vs K hK hm hfits
 unfold conRow at hK
 split at hK
 ·rename_i g ps hd
  obtain ⟨hq,hK⟩:=asks_holds hK
  have hv2:=D.ok _ _ _ _ _ _ hd (fun p h'=>hq p (List.mem_append_left _ h')) hfits
  have hv3:=D.cl _ _ 0 ρ (emp ρ.mem) vs (fun _ _ h=>h) hv2
  refine (hp w ρ.mem g vs hm.fz hm.env (fun p h'=>hq p (List.mem_append_right _ h')) hv3).mono ?_
  rintro e w' ⟨x,L,rfl,hb,hx,hfresh,hrow⟩
  have hm1:=hm.below hb
  have hmem:∀ b o,ρ.mem b=some o→memR ρ.mem w w' L b=some o:=fun b o ho=>by
   have hlt:=hm.lt_mem ho
   unfold memR memAt
   rw[if_neg (fun hc=>by have:=hfresh hc.1;omega),if_pos hlt]
   exact ho
  have hnn:∀ b,b<w.heap.size→ρ.mem b=none→memR ρ.mem w w' L b=none:=fun b hlt hn=>by
   simp only[memR,memAt]
   split
   ·rfl
   ·first | exact hn | (rw[if_pos hlt];exact hn)
  have hag:Agree h.nx ρ ⟨ρ.lc,memR ρ.mem w w' L,ρ.lo⟩:=⟨fun _ _=>rfl,hmem,rfl⟩
  have hm2:HM M w0 ⟨ρ.lc,memR ρ.mem w w' L,ρ.lo⟩ h w':={
   os:=hm1.os
   tape:=hm1.tape
   output:=hm1.output
   size:=hm1.size
   block:=hm1.block
   lt:=hm1.lt
   ob:=fun i=>SO.fit_mono (Nat.le_refl _) hag (hm1.ob i)
   ow:=hm1.ow
   fz:=fun b o hb'=>by
    simp only[memR,memAt] at hb'
    split at hb'
    ·cases hb'
    ·split at hb'
     ·exact hm1.fz b o hb'
     ·exact hb'
   sep:=fun i hi=>by
    have h1:=hm.sep i hi
    have h2:=hm.lt_heap hi
    simp only[memR,memAt]
    split
    ·rfl
    ·first | exact h1 | (rw[if_pos h2];exact h1)
   old:=fun b o hb' hlt hM=>by
    simp only[memR,memAt] at hb'
    have hs:=hm.size
    split at hb'
    ·cases hb'
    ·rw[if_pos (by omega)] at hb'
     exact hm.old b o hb' hlt hM
   env:=Env.mono _ _ (fun b o hb _=>hmem b o hb) hm.env
   ab:=hm.ab_at hb hmem hnn
   inj:=hm1.inj }
  have hm3:HM M w0 (upd ⟨ρ.lc,memR ρ.mem w w' L,ρ.lo⟩ h.nx L) (h.push (rowA A t (fn g))) w':=by
   refine hm2.learn (rowA_cl A (ρ:=emp (memR ρ.mem w w' L)) (fun _ _ h=>h) hrow) fun ho=>?_
   have hn:L.nl=false:=ho
   have hf:=hfresh hn
   refine ⟨.inl (Nat.le_trans hm.size hf),?_,fun j hj=>?_,hm.ab_atB hb hmem hnn hf⟩
   ·simp only[memR,hn,true_and,if_pos]
   ·have:=hm.lt_heap hj
    show (ρ j).blk≠L.blk
    omega
  refine ⟨_,_,upd ⟨ρ.lc,memR ρ.mem w w' L,ρ.lo⟩ h.nx L,x,hK,Nat.le_succ _,hag.trans (Nat.le_refl _) (agree_upd _ _ _),hm3,⟨Nat.lt_succ_self _,?_⟩,rfl⟩
  have hu:(upd ⟨ρ.lc,memR ρ.mem w w' L,ρ.lo⟩ h.nx L) h.nx=L:=by simp[upd]
  rw[hu]
  rcases hx with ⟨h1,h2,a,h3⟩ | ⟨h1,h3⟩
  ·exact .inl ⟨h1,h2,a,h3⟩
  ·refine .inr ⟨h1,?_,h3⟩
   rcases hrow.2 with ⟨h4,_⟩ | ⟨_,_,c,fz,_,_,_,h8,_⟩
   ·rw[h1] at h4;cases h4
   ·exact h8
 ·exact hK.elim
def bconRow (t:TypeId) (A:El α) (D:DA γ) (fn:γ→List α) (pre:γ→List Prop):BCon:=⟨conRow t A D fn pre,fun args h=>by
 unfold conRow
 split
 ·exact asks_each rfl
 ·trivial⟩
end
end Go.Sx

namespace Go.Sx
open Go.RowKit
variable [Env]
section
variable {α γ δ:Type}
variable {P:Program} {Γ:Gam} {Λ:Lam} {f t:Nat} {A:El α} {D:DA γ} {R:Dv δ} {fn:γ→List α×δ} {pre:γ→List Prop}
end
end Go.Sx

namespace Go.Sx
open Go.RowKit
variable [Env]
section
variable {α β γ:Type} {P:Program} {f:Nat} {ka va:Bool} {K:El α} {V:El β} {D:DA γ}
abbrev trM (ka va:Bool) (K:El α) (V:El β):TR (List (α×β×Int)×Nat):=TR.ct (CT.map ka va K V) rfl
def mapA (ka va:Bool) (K:El α) (V:El β) (g:List (α×β×Int)×Nat):SO:=.map K.sz V.sz ka va (.fn ((El.ent K V).els g.1)) g.1.length g.2 false
theorem mapA_pu (hP:∀ a,Pus ((El.ent K V).cells a)) {g:List (α×β×Int)×Nat} {n m:Nat} {ρ ρ':Rh} {L L':Lc} {o:Option Obj} (hL:L'.nl=false∧L'.off=0) (h:(mapA ka va K V g).fit n ρ L o):(mapA ka va K V g).fit m ρ' L' o:=by
 obtain ⟨f1,f2,⟨es,f3,f4,f5,f6⟩,f7⟩:=h
 refine ⟨hL.1,hL.2,⟨es,f3,f4,f5,fun e he=>?_⟩,f7⟩
 obtain ⟨y,kc,vc,q1,q2,q3⟩:=f6 e he
 exact ⟨y,kc,vc,q1,hP _ _ _ _ _ _ q2,q3⟩
def conMapV (ka va:Bool) (K:El α) (V:El β) (D:DA γ) (fn:γ→List (α×β×Int)×Nat) (pre:γ→List Prop):Con:=fun args h=>
 match D.dec (vwA h args).1 with
 | some (g,ps)=>asks ((vwA h args).2++(ps++pre g)) (.ret (.mp h.nx,h.push (mapA ka va K V (fn g))))
 | none=>.bad 697
theorem conMapV_ok (hP:∀ a,Pus ((El.ent K V).cells a)) {fn:γ→List (α×β×Int)×Nat} {pre:γ→List Prop} (hp:FnT P f TA.nil D (trM ka va K V) (fun _ g=>((),fn g)) (fun _ g=>pre g)):FnOk P f (conMapV ka va K V D fn pre):=by
 intro M w0 w ρ h args vs Kk hK hm hfits
 unfold conMapV at hK
 split at hK
 ·rename_i g ps hd
  obtain ⟨hq,hK⟩:=asks_holds hK
  have hv:=vwA_ok (G:=fun b=>w.heap[b]?) hm hm.fz (fun _ _ _ h=>h) hfits fun p h'=>hq p (List.mem_append_left _ h')
  have hv2:=D.ok _ _ _ _ _ _ hd (fun p h'=>hq p (List.mem_append_right _ (List.mem_append_left _ h'))) hv
  have hv3:=D.cl _ _ 0 ⟨ρ.lc,fun b=>w.heap[b]?,ρ.lo⟩ (emp fun b=>w.heap[b]?) vs (fun _ _ h=>h) hv2
  have h0:HM (fun _=>False) w ⟨fun _=>⟨0,0,0,true⟩,fun b=>w.heap[b]?,⟨fun b=>w.heap[b]?,fun _=>none⟩⟩ ⟨0,[],[]⟩ w:=HM.start w _ (fun _ _ h=>h) (fun _ _ h=>h) (Env.mono _ _ (fun b o hb _=>hm.fz b o hb) hm.env)
  refine (hp (fun _=>False) w _ () g vs h0 (fun p h'=>hq p (List.mem_append_right _ (List.mem_append_right _ h'))) hv3).mono ?_
  rintro e w' ⟨x,ρ',rfl,_,_,_,hm',hx⟩
  have hb:=hm'.toBelow
  have hg0:(canonH (canonO TA.nil (trM ka va K V) ((),fn g))).get 0=mapA ka va K V (fn g):=by rw[canonH_get];rfl
  have hob:=hm'.ob 0
  have how:=hm'.ow 0
  rw[hg0] at hob how
  have hfr:w.heap.size≤(ρ' 0).blk:=by
   rcases how trivial with h1 | h1
   ·exact h1
   ·exact h1.elim
  have hm1:=hm.below hb
  have hm3:HM M w0 (upd ρ h.nx ⟨(ρ' 0).blk,0,0,false⟩) (h.push (mapA ka va K V (fn g))) w':=by
   refine hm1.learn (mapA_pu hP ⟨rfl,rfl⟩ hob) (fun _=>⟨.inl (Nat.le_trans hm.size hfr),?_,fun j hj=>?_,hm.ab_atB hb (fun _ _ h=>h) (fun _ _ h=>h) hfr⟩) (by intro _ h;cases h)
   ·exact hm.fresh hfr
   ·have:=hm.lt_heap hj
    show (ρ j).blk≠(ρ' 0).blk
    omega
  obtain ⟨_,y⟩:=(show (SV.mp 0).fit _ ρ' x from hx)
  refine ⟨_,_,upd ρ h.nx ⟨(ρ' 0).blk,0,0,false⟩,x,hK,Nat.le_succ _,agree_upd _ _ _,hm3,⟨Nat.lt_succ_self _,?_⟩,rfl⟩
  rw[y]
  simp[upd]
 ·exact hK.elim
def bconMapV (ka va:Bool) (K:El α) (V:El β) (D:DA γ) (fn:γ→List (α×β×Int)×Nat) (pre:γ→List Prop):BCon:=⟨conMapV ka va K V D fn pre,fun args h=>by
 unfold conMapV
 split
 ·exact asks_each rfl
 ·trivial⟩
end
end Go.Sx

namespace Go.Sx
open Go.RowKit
variable [Env]
section
variable {α γ δ:Type} {P:Program} {f t:Nat} {A:El α} {D:DA γ} {R:Dv δ}
theorem rowA_pu (hA:∀ a,Pus (A.cells a)) {xs:List α} {n m:Nat} {ρ ρ':Rh} {L:Lc} {o:Option Obj} (h:(rowA A t xs).fit n ρ L o):(rowA A t xs).fit m ρ' L o:=by
 refine ⟨h.1,?_⟩
 rcases h.2 with h2 | ⟨h1,h2,c,fz,h3,h3',h4,h5,h6,h7⟩
 ·exact .inl h2
 ·refine .inr ⟨h1,h2,c,fz,h3,h3',h4,h5,h6,fun e he=>?_⟩
  obtain ⟨l,q1,q2,q3⟩:=h7 e he
  exact ⟨l,q1,hA _ _ _ _ _ _ q2,q3⟩
theorem row_of_sideA {Γ:Gam} {Λ:Lam} {fn:γ→List α} {pre:γ→List Prop} (hΓ:∀ f g,Γ.g f=some g→FnOk P f g) (hΛ:∀ f k L,Λ f k=some L→∀ b∈loopsOf P f,lkey b=k→LoopOk P b L.g) (n:Nat) (d:List α) (S:List Nat→γ→Prop) (F:List Nat→γ→List α)
  (hS:∀ cs g,(wTree P Γ Λ n f t A (D.enc g)).sideA cs=S cs g) (hF:∀ cs g,(wTree P Γ Λ n f t A (D.enc g)).evA d cs=F cs g) (h:∀ cs g,D.bd g→(∀ p∈pre g,p)→S cs g∧F cs g=fn g):FnRow P f t A D fn pre:=
 row_of_tree hΓ hΛ n fun g h1 h2=>Tr.sideA_holds d (fun cs=>by rw[hS];exact (h cs g h1 h2).1) fun cs=>by rw[hF];exact (h cs g h1 h2).2
def conRowV (t:TypeId) (A:El α) (D:DA γ) (fn:γ→List α) (pre:γ→List Prop):Con:=fun args h=>
 match D.dec (vwA h args).1 with
 | some (g,ps)=>asks ((vwA h args).2++(ps++pre g)) (.ret (.ow h.nx (fn g).length,h.push (rowA A t (fn g))))
 | none=>.bad 694
theorem conRowV_ok (hA:∀ a,Pus (A.cells a)) {fn:γ→List α} {pre:γ→List Prop} (hp:FnRow P f t A D fn pre):FnOk P f (conRowV t A D fn pre):=by
 intro M w0 w ρ h args vs K hK hm hfits
 unfold conRowV at hK
 split at hK
 ·rename_i g ps hd
  obtain ⟨hq,hK⟩:=asks_holds hK
  have hv:=vwA_ok (G:=fun b=>w.heap[b]?) hm hm.fz (fun _ _ _ h=>h) hfits fun p h'=>hq p (List.mem_append_left _ h')
  have hv2:=D.ok _ _ _ _ _ _ hd (fun p h'=>hq p (List.mem_append_right _ (List.mem_append_left _ h'))) hv
  have hv3:=D.cl _ _ 0 ⟨ρ.lc,fun b=>w.heap[b]?,ρ.lo⟩ (emp fun b=>w.heap[b]?) vs (fun _ _ h=>h) hv2
  refine (hp w (fun b=>w.heap[b]?) g vs (fun _ _ h=>h) (Env.mono _ _ (fun b o hb _=>hm.fz b o hb) hm.env) (fun p h'=>hq p (List.mem_append_right _ (List.mem_append_right _ h'))) hv3).mono ?_
  rintro e w' ⟨x,L,rfl,hb,hx,hfresh,hrow⟩
  have hm1:=hm.below hb
  have hm3:HM M w0 (upd ρ h.nx L) (h.push (rowA A t (fn g))) w':=by
   refine hm1.learn (rowA_pu hA hrow) fun ho=>?_
   have hn:L.nl=false:=ho
   have hf:=hfresh hn
   refine ⟨.inl (Nat.le_trans hm.size hf),?_,fun j hj=>?_,hm.ab_atB hb (fun _ _ h=>h) (fun _ _ h=>h) hf⟩
   ·cases hmm:ρ.mem L.blk with
    | none=>rfl
    | some o=>have:=hm.lt_mem hmm;omega
   ·have:=hm.lt_heap hj
    show (ρ j).blk≠L.blk
    omega
  refine ⟨_,_,upd ρ h.nx L,x,hK,Nat.le_succ _,agree_upd _ _ _,hm3,⟨Nat.lt_succ_self _,?_⟩,rfl⟩
  have hu:(upd ρ h.nx L) h.nx=L:=by simp[upd]
  rw[hu]
  rcases hx with ⟨h1,h2,a,h3⟩ | ⟨h1,h3⟩
  ·exact .inl ⟨h1,h2,a,h3⟩
  ·refine .inr ⟨h1,?_,h3⟩
   rcases hrow.2 with ⟨h4,_⟩ | ⟨_,_,c,fz,_,_,_,h8,_⟩
   ·rw[h1] at h4;cases h4
   ·exact h8
 ·exact hK.elim
def bconRowV (t:TypeId) (A:El α) (D:DA γ) (fn:γ→List α) (pre:γ→List Prop):BCon:=⟨conRowV t A D fn pre,fun args h=>by
 unfold conRowV
 split
 ·exact asks_each rfl
 ·trivial⟩
end
end Go.Sx

namespace Go.Sx
section
variable {α:Type}
def Tr.hn (v:α):Tr α→Prop
 | .ret x=>x=v
 | .br c a b=>cond c (a.hn v) (b.hn v)
 | .ask p a=>p∧a.hn v
 | .giv _ a=>a.hn v
 | .all k=>(k []).hn v∧∀ (x:Nat) (n:List Nat),(k (x :: n)).hn v
 | .bad _=>False
theorem Tr.hn_holds {v:α}:∀ {t:Tr α},t.hn v→t.Holds (·=v)
 | .ret _,h=>h
 | .br true a _,h=>⟨fun _=>Tr.hn_holds (t:=a) h,fun h=>by cases h⟩
 | .br false _ b,h=>⟨fun h=>(by cases h),fun _=>Tr.hn_holds (t:=b) h⟩
 | .ask _ a,h=>⟨h.1,Tr.hn_holds (t:=a) h.2⟩
 | .giv _ a,h=>fun _=>Tr.hn_holds (t:=a) h
 | .all k,h=>fun n=>match n with
  | []=>Tr.hn_holds (t:=k []) h.1
  | x :: n=>Tr.hn_holds (t:=k (x :: n)) (h.2 x n)
 | .bad _,h=>h.elim
end
end Go.Sx

namespace Go.Lp
open Go.Sx Go.Sort
variable [Env]
section
variable {α:Type} [DecidableEq α] {cf:α→α→Int} {le:α→α→Bool}
structure PO (cf:α→α→Int) (le:α→α→Bool):Prop where
 trans:∀ x y z,le x y=true→le y z=true→le x z=true
 anti:∀ x y,le x y=true→le y x=true→x=y
 ext:∀ x y,le x y=true→x≠y→cf x y<0
end
end Go.Lp

namespace Go.Lp
open Go.Sx
variable [Env]
section
variable {α β:Type}
theorem search' {x:Nat} {st:β→Int→α→Ex×β} {p:α→Bool} {r:Int→α→β→β} (h:∀ b i a,st b i a=bif p a then (.ret,r i a b) else (.normal,b)):∀ (l:List α) (i:Int) (b:β),
  (l.any p=true∧∃ j,i≤j∧∃ a,a∈l∧p a=true∧scan x st i l b=(.ret,j,r j a b))∨(l.any p=false∧scan x st i l b=(.exit x,i+(l.length:Int),b))
 | [],i,b=>.inr ⟨rfl,by simp[scan]⟩
 | a :: l,i,b=>by
  simp only[scan,h]
  cases hp:p a with
  | true=>exact .inl ⟨by simp[hp],i,Int.le_refl _,a,List.mem_cons_self ..,hp,rfl⟩
  | false=>
   simp only[cond_false]
   rcases search' h l (i+1) b with ⟨h1,j,hj,a',h2,h3,h4⟩ | ⟨h1,h2⟩
   ·exact .inl ⟨by simp[h1],j,by omega,a',List.mem_cons_of_mem _ h2,h3,h4⟩
   ·refine .inr ⟨by simp[hp,h1],?_⟩
    rw[h2]
    simp;omega
theorem search {x:Nat} {st:β→Int→α→Ex×β} {p:α→Bool} {r:Int→α→β→β} (h:∀ b i a,st b i a=bif p a then (.ret,r i a b) else (.normal,b)) (l:List α) (b:β) :
  (l.any p=true∧∃ j,0≤j∧∃ a,a∈l∧p a=true∧scan x st 0 l b=(.ret,j,r j a b))∨(l.any p=false∧scan x st 0 l b=(.exit x,(l.length:Int),b)):=by
 have:=search' (x:=x) h l 0 b
 rwa [Int.zero_add] at this
theorem ne_len {α β:Type} {a:List α} {b:List β} (h:((a.length:Int) != (b.length:Int))=false):a.length=b.length:=by
 have:(a.length:Int)=(b.length:Int):=by simpa using h
 omega
end
end Go.Lp
