/- Functions on own trees: a call is what the machine does. -/
import Derived.Test.YthnojkbkojpadaaGreatZG07857b98
import Derived.Test.YthnojkbkojpadaaGreatZG0687ac95
import Derived.Test.YthnojkbkojpadaaGreatZG05ed7749
import Derived.Test.YthnojkbkojpadaaGreatZG04720a13
set_option linter.unusedVariables false
set_option linter.unusedSimpArgs false
set_option linter.constructorNameAsVariable false
set_option linter.all false

namespace Go.Sx
open Go.RowKit
variable [Env]
section
variable {P:Program} {f:Nat} {κ γ δ:Type} {A:TA κ} {D:DA γ} {R:TR δ} {fn:κ→γ→κ×δ} {pre:κ→γ→List Prop}
theorem qm1:∀ {rs:List Nat} {ids:List (Option Nat)},(∀ k k' j:Nat,(rs.map some++ids)[k]?=some (some j)→(rs.map some++ids)[k']?=some (some j)→k=k')→rs.Nodup∧∀ r∈rs,r∉fdist ids:=fun {rs ids} h=>by
 have hl:∀ k r,rs[k]?=some r→(rs.map some++ids)[k]?=some (some r):=fun k r hk=>by
  have hlt:=(List.getElem?_eq_some_iff.1 hk).1
  rw[List.getElem?_append_left (by simpa using hlt),List.getElem?_map,hk];rfl
 constructor
 ·refine List.pairwise_iff_getElem.2 fun i j hi hj hij he=>?_
  have h1:=hl i rs[i] (List.getElem?_eq_getElem hi)
  have h2:=hl j rs[j] (List.getElem?_eq_getElem hj)
  rw[he] at h1
  have:=h i j _ h1 h2
  omega
 ·intro r hr hd
  obtain ⟨k,hk⟩:=List.getElem?_of_mem hr
  obtain ⟨x,hx,he⟩:=List.mem_filterMap.1 hd
  have he:x=some r:=he
  subst he
  obtain ⟨k',hk'⟩:=List.getElem?_of_mem hx
  have h2:(rs.map some++ids)[rs.length+k']?=some (some r):=by
   rw[List.getElem?_append_right (by simp),List.length_map,show rs.length+k' - rs.length=k' by omega,hk']
  have:=h k _ _ (hl k r hk) h2
  have:=(List.getElem?_eq_some_iff.1 hk).1
  omega
theorem conT_ok (hp:FnT P f A D R fn pre):FnOk P f (conT A D R fn pre):=by
 intro M w0 w ρ h args vs K hK hm hfits
 unfold conT at hK
 split at hK
 ·rename_i rs rest hroots
  obtain ⟨vs',rfl,hrest,hrl,hrn⟩:=qem hroots hfits
  split at hK
  ·rename_i g ps ids fs hA
   split at hK
   ·rename_i d qs hd
    split at hK
    ·rename_i hchk
     obtain ⟨hq,hK⟩:=q1d hK
     have hps:∀ p∈ps,p:=fun p h'=>hq p (List.mem_append_left _ h')
     have hqs:∀ p∈qs,p:=fun p h'=>hq p (List.mem_append_right _ (List.mem_append_left _ h'))
     have hpre:∀ p∈pre g d,p:=fun p h'=>hq p (List.mem_append_right _ (List.mem_append_right _ h'))
     simp only[Bool.and_eq_true,List.isEmpty_iff] at hchk
     obtain ⟨c1,rfl⟩:=hchk
     obtain ⟨i1,_⟩:=q7f c1
     obtain ⟨n1,n2⟩:=qm1 i1
     obtain ⟨la,lq⟩:=A.ilen _ _ _ _ _ _ hA
     let src:List (Option Nat):=rs.map some++ids
     let L:Nat→Lc:=fun k=>match src[k]? with | some (some j)=>ρ j | _=>⟨0,0,0,true⟩
     let ρa:Rh:=⟨L,ρ.mem,ρ.lo⟩
     let ρc:Rh:=⟨L,ρ.mem,⟨ρ.mem,fun _=>none⟩⟩
     have hsrl:src.length=A.q+A.R:=by simp[src,lq,la]
     have hL:∀ k j:Nat,src[k]?=some (some j)→L k=ρ j:=fun k j hk=>by simp only[L,hk]
     have hLn:∀ k:Nat,src[k]?=some none→L k=⟨0,0,0,true⟩:=fun k hk=>by simp only[L,hk]
     have hsl:∀ k r,rs[k]?=some r→src[k]?=some (some r):=fun k r hk=>by
      have hlt:=(List.getElem?_eq_some_iff.1 hk).1
      show (rs.map some++ids)[k]?=_
      rw[List.getElem?_append_left (by simpa using hlt),List.getElem?_map,hk];rfl
     have hsr:∀ k,src[A.q+k]?=ids[k]?:=fun k=>by
      show (rs.map some++ids)[A.q+k]?=_
      rw[List.getElem?_append_right (by simp[lq]),List.length_map,lq,show A.q+k - A.q=k by omega]
     have hrnA:Rn 0 A.q ids (A.q+A.R) ρ ρa:=⟨by omega,⟨fun i hi=>absurd hi (Nat.not_lt_zero i),fun _ _ h=>h,rfl⟩,fun k j hk=>by
      rw[show 0+A.q+k=A.q+k by omega]
      exact hL _ _ (by rw[hsr];exact hk),fun k hk=>by
      rw[show 0+A.q+k=A.q+k by omega]
      exact hLn _ (by rw[hsr];exact hk)⟩
     have hzA:FzR h.nx h [] ρ ρa:=fun j hj=>by cases hj
     obtain ⟨a1,a2⟩:=A.ok 0 A.q h rs g ps ids [] hA hps
     rw[Nat.zero_add] at a1 a2
     have hlenA:(q26 A g).length=A.q+A.R:=qgq A g
     have hge:∀ k,A.q≤k→∃ k',k=A.q+k':=fun k hk=>⟨k - A.q,by omega⟩
     have hso:∀ (k:Nat) (so:SO),(q26 A g)[k]?=some so→(src[k]?=some none∧NilSO so)∨∃ j:Nat,src[k]?=some (some j)∧(∀ L,so.own L→(h.get j).own L)∧so.fit (A.q+A.R) ρa (ρ j) w.heap[(ρ j).blk]?:=fun k so hk=>by
      rcases Nat.lt_or_ge k A.q with h1 | h1
      ·unfold q26 at hk
       rw[List.getElem?_append_left (by rw[A.olen];exact h1)] at hk
       have hlt:k<rs.length:=by omega
       obtain ⟨o1,o2,o3⟩:=a2 k rs[k] so (List.getElem?_eq_getElem hlt) hk
       exact .inr ⟨rs[k],hsl k _ (List.getElem?_eq_getElem hlt),fun L _=>o1 L,o3 _ _ _ _ _ _ hrnA hzA (hm.ob _)⟩
      ·obtain ⟨k,rfl⟩:=hge k h1
       unfold q26 at hk
       rw[List.getElem?_append_right (by rw[A.olen];omega),A.olen,show A.q+k - A.q=k by omega] at hk
       rw[hsr]
       rcases a1.blk k so hk with ⟨b1,b2⟩ | ⟨j,b1,b2,b3⟩
       ·exact .inl ⟨b1,b2⟩
       ·exact .inr ⟨j,b1,b2,b3 _ _ _ _ _ _ hrnA hzA (hm.ob _)⟩
     have hown:∀ k,((q2h (q26 A g)).get k).own (L k)→∃ j:Nat,src[k]?=some (some j)∧(h.get j).own (ρ j)∧L k=ρ j:=fun k hk=>by
      rw[q2t] at hk
      cases hs:(q26 A g)[k]? with
      | none=>rw[hs] at hk;exact hk.elim
      | some so=>
       rw[hs] at hk
       rcases hso k so hs with ⟨h1,rfl | ⟨t,sz,el,rfl⟩⟩ | ⟨j,h1,h2,_⟩
       ·exact hk.elim
       ·have hk:(L k).nl=false:=hk
        rw[hLn k h1] at hk;cases hk
       ·rw[hL k j h1] at hk
        exact ⟨j,h1,h2 _ hk,hL k j h1⟩
     have hagr:Agr (A.q+A.R) ρa ρc:=⟨fun _ _=>rfl,fun _ _ h _=>h⟩
     have hent:HM (Foot (q26 A g) ρc) w ρc (q2h (q26 A g)) w:={
      os:=rfl
      tape:=rfl
      output:=rfl
      size:=Nat.le_refl _
      block:=fun _ _ _=>rfl
      lt:=fun k hk=>by
       rw[q2t] at hk
       show k<(q26 A g).length
       by_cases hlt:k<(q26 A g).length
       ·exact hlt
       ·rw[List.getElem?_eq_none (by omega)] at hk;cases hk
      ob:=fun k=>by
       show ((q2h (q26 A g)).get k).fit (q26 A g).length ρc (L k) _
       rw[q2t,hlenA]
       cases hs:(q26 A g)[k]? with
       | none=>trivial
       | some so=>
        rcases hso k so hs with ⟨h1,rfl | ⟨t,sz,el,rfl⟩⟩ | ⟨j,h1,_,h3⟩
        ·trivial
        ·rw[hLn k h1]
         exact ⟨Nat.zero_le _,.inl ⟨rfl,rfl⟩⟩
        ·show so.fit (A.q+A.R) ρc (L k) w.heap[(L k).blk]?
         rw[hL k j h1]
         exact SO.fit_mono0 (Nat.le_refl _) hagr h3
      ow:=fun k hk=>.inr ⟨k,hk,rfl⟩
      fz:=hm.fz
      sep:=fun k hk=>by
       obtain ⟨j,_,h2,h3⟩:=hown k hk
       show ρ.mem (L k).blk=none
       rw[h3];exact hm.sep j h2
      old:=fun b o hb _ _=>hb
      env:=hm.env
      inj:=fun k k' hk hk' he=>by
       obtain ⟨j,h1,h2,h3⟩:=hown k hk
       obtain ⟨j',h1',h2',h3'⟩:=hown k' hk'
       have he:(L k).blk=(L k').blk:=he
       rw[h3,h3'] at he
       have:=hm.inj j j' h2 h2' he
       subst this
       exact i1 k k' j h1 h1' }
     have hvs':=D.cl _ _ 0 ρ (emp ρ.mem) _ (fun _ _ h=>h) (D.ok _ _ _ _ _ _ hd hqs hrest)
     have hrv:(rs.map fun r=>Value.pointer (some ⟨(ρ r).blk,(ρ r).off+0,none⟩))=qca A.q ρc:=by
      refine List.ext_getElem? fun k=>?_
      simp only[qca,List.getElem?_map]
      by_cases hk:k<A.q
      ·have hlt:k<rs.length:=by omega
       have e2:L k=ρ rs[k]:=hL k _ (hsl k _ (List.getElem?_eq_getElem hlt))
       rw[List.getElem?_eq_getElem hlt,List.getElem?_range hk,Option.map_some,Option.map_some]
       show _=some (Value.pointer (some ⟨(L k).blk,(L k).off+0,none⟩))
       rw[e2]
      ·rw[List.getElem?_eq_none (by omega),List.getElem?_eq_none (by simpa using Nat.not_lt.1 hk)]
       rfl
     have hcall:=hp w ρc g d vs' hent hpre hvs'
     rw[hrv]
     refine hcall.mono ?_
     rintro e w' ⟨x,ρe,rfl,hroot,hmm,hlo,hme,hx⟩
     have hlenO:(q3n A R (fn g d)).length=A.q+(A.R+R.R):=qgp A R _
     have hfoot:∀ b,Foot (q26 A g) ρc b→∃ j,(j∈rs∨j∈fdist ids)∧(h.get j).own (ρ j)∧b=(ρ j).blk:=fun b ⟨k,hk,hb⟩=>by
      obtain ⟨j,h1,h2,h3⟩:=hown k hk
      refine ⟨j,?_,h2,by rw[hb];exact congrArg Lc.blk h3⟩
      rcases Nat.lt_or_ge k A.q with hk | hk
      ·left
       have hlt:k<rs.length:=by omega
       have:=hsl k _ (List.getElem?_eq_getElem hlt)
       rw[this] at h1
       simp only[Option.some.injEq] at h1
       rw[← h1];exact List.getElem_mem hlt
      ·obtain ⟨k,rfl⟩:=hge k hk
       rw[hsr] at h1
       exact .inr (List.mem_filterMap.2 ⟨some j,List.mem_of_getElem? h1,rfl⟩)
     have hfM:∀ b,Foot (q26 A g) ρc b→w0.heap.size≤b∨M b:=fun b hb=>by
      obtain ⟨j,_,h2,rfl⟩:=hfoot b hb
      exact hm.ow j h2
     have hfk:∀ i,i∉rs→i∉fdist ids→(h.get i).own (ρ i)→¬ Foot (q26 A g) ρc (ρ i).blk:=fun i h1 h2 ho hb=>by
      obtain ⟨j,hj,h3,h4⟩:=hfoot _ hb
      have:=hm.inj i j ho h3 h4
      subst this
      rcases hj with hj | hj
      ·exact h1 hj
      ·exact h2 hj
     let T:Nat:=A.R+R.R
     let bs:List SO:=A.blks h.nx (fn g d).1++R.blks (h.nx+A.R) (fn g d).2
     let h2:SH:=⟨h.nx+T,whole (rowsL h.nx bs)++(whole (rs.zip (A.objs h.nx (fn g d).1))++(whole ((fdist ids).map fun i=>(i,SO.dead))++h.l)),h.b⟩
     let ρ2:Rh:=⟨fun k=>if h.nx≤k∧k<h.nx+T then ρe (A.q+(k - h.nx)) else ρ k,ρe.mem,ρ.lo⟩
     have hbl:bs.length=T:=by simp[bs,T,A.blen,R.blen]
     have r2n:∀ p,p<T→ρ2 (h.nx+p)=ρe (A.q+p):=fun p hp=>by
      show (if _ then _ else _)=_
      rw[if_pos (by omega),show h.nx+p - h.nx=p by omega]
     have r2o:∀ k,k<h.nx→ρ2 k=ρ k:=fun k hk=>by
      show (if _ then _ else _)=_
      rw[if_neg (by omega)]
     have hmemle:∀ b o,ρ.mem b=some o→ρe.mem b=some o:=hmm
     have hag:Agree h.nx ρ ρ2:=⟨r2o,hmemle,rfl⟩
     have hget:∀ k,(∃ p so,k=h.nx+p∧p<T∧bs[p]?=some so∧h2.get k=so)∨(∃ j so,rs[j]?=some k∧(A.objs h.nx (fn g d).1)[j]?=some so∧h2.get k=so)∨h2.get k=.dead∨(k∉rs∧k∉fdist ids∧h2.get k=h.get k):=fun k=>by
      have e:h2.get k=look (look (look (lookE (lookE .dead k h.b) k h.l) k ((fdist ids).map fun i=>(i,SO.dead))) k (rs.zip (A.objs h.nx (fn g d).1))) k (rowsL h.nx bs):=by
       simp only[h2,SH.get,q2c,q4f]
      obtain ⟨q1,q2⟩:=q6a (i:=k) (r:=bs) (k:=h.nx) (look (look (lookE (lookE .dead k h.b) k h.l) k ((fdist ids).map fun i=>(i,SO.dead))) k (rs.zip (A.objs h.nx (fn g d).1)))
      by_cases hk:h.nx≤k∧k<h.nx+T
      ·obtain ⟨so,e1,e2⟩:=q1 (k - h.nx) (by omega) (by omega)
       exact .inl ⟨k - h.nx,so,by omega,by omega,e1,by rw[e,e2]⟩
      ·rw[q2 (by omega)] at e
       by_cases hkr:k∈rs
       ·obtain ⟨j,hj⟩:=List.getElem?_of_mem hkr
        have hjl:=(List.getElem?_eq_some_iff.1 hj).1
        have hol:j<(A.objs h.nx (fn g d).1).length:=by rw[A.olen];omega
        exact .inr (.inl ⟨j,_,hj,List.getElem?_eq_getElem hol,by rw[e,qo8 _ n1 hj (List.getElem?_eq_getElem hol)]⟩)
       ·rw[qk5 _ hkr] at e
        by_cases hki:k∈fdist ids
        ·exact .inr (.inr (.inl (by rw[e,qk6 _ _ _ hki])))
        ·rw[q1y _ _ (by simpa using hki)] at e
         exact .inr (.inr (.inr ⟨hkr,hki,e⟩))
     have hshA:=A.shf A.q h.nx (fn g d).1 (A.q+(A.R+R.R)) (h.nx+T) ρe ρ2 (fun _ _ h=>h) (fun k hk=>r2n k (by show k<A.R+R.R;omega)) (by show h.nx+A.R≤h.nx+(A.R+R.R);omega)
     have hshR:=R.shf (A.q+A.R) (h.nx+A.R) (fn g d).2 (A.q+(A.R+R.R)) (h.nx+T) ρe ρ2 (fun _ _ h=>h) (fun k hk=>by
      rw[show h.nx+A.R+k=h.nx+(A.R+k) by omega,show A.q+A.R+k=A.q+(A.R+k) by omega]
      exact r2n _ (by show A.R+k<A.R+R.R;omega)) (by show h.nx+A.R+R.R≤h.nx+(A.R+R.R);omega)
     have hshB:ShfB (A.q+(A.R+R.R)) (h.nx+T) ρe ρ2 (A.blks A.q (fn g d).1++R.blks (A.q+A.R) (fn g d).2) bs:=qnp (by rw[A.blen,A.blen]) hshA.2 hshR.2
     have hcg:∀ p,(q2h (q3n A R (fn g d))).get (A.q+p)=((A.blks A.q (fn g d).1++R.blks (A.q+A.R) (fn g d).2)[p]?).getD .dead:=fun p=>by
      rw[q2t]
      unfold q3n
      rw[List.getElem?_append_right (by rw[A.olen];omega),A.olen,show A.q+p - A.q=p by omega]
     have hcr:∀ j,j<A.q→(q2h (q3n A R (fn g d))).get j=((A.objs A.q (fn g d).1)[j]?).getD .dead:=fun j hj=>by
      rw[q2t]
      unfold q3n
      rw[List.getElem?_append_left (by rw[A.olen];exact hj)]
     have hnb:∀ p so,bs[p]?=some so→∃ so',(q2h (q3n A R (fn g d))).get (A.q+p)=so'∧(∀ L,so.own L↔so'.own L)∧∀ L o,so'.fit (A.q+(A.R+R.R)) ρe L o→so.fit (h.nx+T) ρ2 L o:=fun p so hso=>by
      have hlt:p<(A.blks A.q (fn g d).1++R.blks (A.q+A.R) (fn g d).2).length:=by
       have:=(List.getElem?_eq_some_iff.1 hso).1
       rw[hbl] at this
       rw[List.length_append,A.blen,R.blen];exact this
      obtain ⟨so2,k1,k2,k3⟩:=hshB p _ (List.getElem?_eq_getElem hlt)
      rw[hso] at k1
      simp only[Option.some.injEq] at k1
      subst k1
      exact ⟨_,by rw[hcg,List.getElem?_eq_getElem hlt];rfl,k2,k3⟩
     have hno:∀ j so,(A.objs h.nx (fn g d).1)[j]?=some so→∃ so',(q2h (q3n A R (fn g d))).get j=so'∧(∀ L,so.own L↔so'.own L)∧∀ L o,so'.fit (A.q+(A.R+R.R)) ρe L o→so.fit (h.nx+T) ρ2 L o:=fun j so hso=>by
      have hjq:j<A.q:=by
       have:=(List.getElem?_eq_some_iff.1 hso).1
       rw[A.olen] at this;exact this
      have hlt:j<(A.objs A.q (fn g d).1).length:=by rw[A.olen];exact hjq
      obtain ⟨so2,k1,k2,k3⟩:=hshA.1 j _ (List.getElem?_eq_getElem hlt)
      rw[hso] at k1
      simp only[Option.some.injEq] at k1
      subst k1
      exact ⟨_,by rw[hcr j hjq,List.getElem?_eq_getElem hlt];rfl,k2,k3⟩
     have hrρ:∀ j r,rs[j]?=some r→ρe j=ρ r∧j<A.q∧r<h.nx:=fun j r hj=>by
      have hlt:=(List.getElem?_eq_some_iff.1 hj).1
      refine ⟨?_,by omega,hrn r (List.mem_of_getElem? hj)⟩
      rw[hroot j (by omega)]
      exact hL j r (hsl j r hj)
     have hsrc:∀ k,(h2.get k).own (ρ2 k)→(∃ i,((q2h (q3n A R (fn g d))).get i).own (ρe i)∧ρ2 k=ρe i∧((∃ p,k=h.nx+p∧i=A.q+p)∨(k<h.nx∧i<A.q∧rs[i]?=some k)))∨(k<h.nx∧k∉rs∧k∉fdist ids∧(h.get k).own (ρ k)∧ρ2 k=ρ k):=fun k hk=>by
      rcases hget k with ⟨p,so,rfl,hp',hso',e⟩ | ⟨j,so,hj,hso',e⟩ | e | ⟨e1,e2,e⟩
      ·left
       obtain ⟨so',k1,k2,_⟩:=hnb p so hso'
       rw[e,r2n p hp'] at hk
       exact ⟨A.q+p,by rw[k1];exact (k2 _).1 hk,r2n p hp',.inl ⟨p,rfl,rfl⟩⟩
      ·left
       obtain ⟨so',k1,k2,_⟩:=hno j so hso'
       obtain ⟨z1,z2,z3⟩:=hrρ j k hj
       rw[e,r2o k z3] at hk
       exact ⟨j,by rw[k1,z1];exact (k2 _).1 hk,by rw[r2o k z3,z1],.inr ⟨z3,z2,hj⟩⟩
      ·rw[e] at hk;exact hk.elim
      ·right
       rw[e] at hk
       have hlt:k<h.nx:=hm.lt k (SO.live_of hk)
       rw[r2o k hlt] at hk
       exact ⟨hlt,e1,e2,hk,r2o k hlt⟩
     have hsize:=hm.size
     refine ⟨_,_,ρ2,x,R.putOk _ _ _ (Tr.holds_bind hK),?_,hag,?_,?_,rfl⟩
     ·show h.nx≤h.nx+(A.R+R.R)
      omega
     ·exact {
       os:=hme.os.trans hm.os
       tape:=hme.tape.trans hm.tape
       output:=hme.output.trans hm.output
       size:=Nat.le_trans hm.size hme.size
       block:=fun i hi hM=>by
        rw[hme.block i (by omega) fun hf=>?_]
        ·exact hm.block i hi hM
        ·rcases hfM i hf with h1 | h1
         ·omega
         ·exact hM h1
       lt:=fun k hk=>by
        show k<h.nx+T
        rcases hget k with ⟨p,so,rfl,hp',_,_⟩ | ⟨j,so,hj,_,_⟩ | e | ⟨_,_,e⟩
        ·omega
        ·have:=(hrρ j k hj).2.2;omega
        ·have hk:(h2.get k).live=true:=hk
         rw[e] at hk;cases hk
        ·have hk:(h2.get k).live=true:=hk
         rw[e] at hk
         have:=hm.lt k hk;omega
       ob:=fun k=>by
        show (h2.get k).fit (h.nx+T) ρ2 (ρ2 k) _
        rcases hget k with ⟨p,so,rfl,hp',hso',e⟩ | ⟨j,so,hj,hso',e⟩ | e | ⟨e1,e2,e⟩
        ·obtain ⟨so',k1,_,k3⟩:=hnb p so hso'
         rw[e,r2n p hp']
         have:=hme.ob (A.q+p)
         rw[k1,show (q2h (q3n A R (fn g d))).nx=A.q+(A.R+R.R) from hlenO] at this
         exact k3 _ _ this
        ·obtain ⟨so',k1,_,k3⟩:=hno j so hso'
         obtain ⟨z1,z2,z3⟩:=hrρ j k hj
         rw[e,r2o k z3,← z1]
         have:=hme.ob j
         rw[k1,show (q2h (q3n A R (fn g d))).nx=A.q+(A.R+R.R) from hlenO] at this
         exact k3 _ _ this
        ·rw[e];trivial
        ·rw[e]
         by_cases hlive:k<h.nx
         ·rw[r2o k hlive]
          refine SO.fit_mono (by omega) hag (hm.ob_other fun ho=>?_)
          exact hme.block _ (hm.lt_heap ho) (hfk k e1 e2 ho)
         ·have:h.get k=.dead:=by
           cases hg:h.get k with
           | dead=>rfl
           | _=>have:=hm.lt k (by rw[hg];rfl);omega
          rw[this];trivial
       ow:=fun k hk=>by
        rcases hsrc k hk with ⟨i,s1,s2,_⟩ | ⟨_,_,_,s4,s5⟩
        ·rw[s2]
         rcases hme.ow i s1 with h1 | h1
         ·exact .inl (by omega)
         ·exact hfM _ h1
        ·rw[s5];exact hm.ow k s4
       fz:=hme.fz
       sep:=fun k hk=>by
        show ρe.mem (ρ2 k).blk=none
        rcases hsrc k hk with ⟨i,s1,s2,_⟩ | ⟨_,s2,s3,s4,s5⟩
        ·rw[s2];exact hme.sep i s1
        ·rw[s5]
         cases hc:ρe.mem (ρ k).blk with
         | none=>rfl
         | some o=>
          have:=hme.old _ o hc (hm.lt_heap s4) (hfk k s2 s3 s4)
          rw[hlo] at this
          have:ρ.mem (ρ k).blk=some o:=this
          rw[hm.sep k s4] at this
          cases this
       old:=fun b o hb hlt hM=>by
        have h1:=hme.old b o hb (by omega) fun hf=>by
         rcases hfM b hf with h1 | h1
         ·omega
         ·exact hM h1
        rw[hlo] at h1
        exact hm.old b o h1 hlt hM
       env:=hme.env
       inj:=fun k k' hk hk' he=>by
        rcases hsrc k hk with ⟨i,s1,s2,s3⟩ | ⟨t1,t2,t3,t4,t5⟩ <;> rcases hsrc k' hk' with ⟨i',s1',s2',s3'⟩ | ⟨t1',t2',t3',t4',t5'⟩
        ·rw[s2,s2'] at he
         have hii:=hme.inj i i' s1 s1' he
         subst hii
         rcases s3 with ⟨p,rfl,hp1⟩ | ⟨z1,z2,z3⟩ <;> rcases s3' with ⟨p',rfl,hp2⟩ | ⟨z1',z2',z3'⟩
         ·omega
         ·omega
         ·omega
         ·rw[z3] at z3'
          simpa using z3'
        ·rw[s2,t5'] at he
         exfalso
         rcases hme.ow i s1 with h1 | h1
         ·rw[he] at h1
          have:=hm.lt_heap t4'
          omega
         ·rw[he] at h1
          exact hfk k' t2' t3' t4' h1
        ·rw[t5,s2'] at he
         exfalso
         rcases hme.ow i' s1' with h1 | h1
         ·rw[← he] at h1
          have:=hm.lt_heap t4
          omega
         ·rw[← he] at h1
          exact hfk k t2 t3 t4 h1
        ·rw[t5,t5'] at he
         exact hm.inj k k' t4 t4' he }
     ·exact hshR.1 x hx
    ·exact hK.elim
   ·exact hK.elim
  ·exact hK.elim
 ·exact hK.elim
theorem conT_b:ConB (conT A D R fn pre):=fun args h=>by
 unfold conT
 split
 ·split
  ·split
   ·split
    ·refine q2l (Tr.each_bind (p:=fun y:SV×SH=>y.2.b=h.b) (fun y=>?_) _)
     show h.b=h.b
     rfl
    ·trivial
   ·trivial
  ·trivial
 ·trivial
def bconT (A:TA κ) (D:DA γ) (R:TR δ) (fn:κ→γ→κ×δ) (pre:κ→γ→List Prop):BCon:=⟨conT A D R fn pre,conT_b⟩
theorem bconT_ok (hp:FnT P f A D R fn pre):FnOk P f (bconT A D R fn pre).g:=conT_ok hp
def fconT (A:TA κ) (D:DA γ) (R:TR δ) (fn:κ→γ→κ×δ) (pre:κ→γ→List Prop):BCon:=⟨frzC (conT A D R fn pre),fun args h=>by
 have hb:=(qfi args h).1
 refine q2l ?_
 have:=conT_b (A:=A) (D:=D) (R:=R) (fn:=fn) (pre:=pre) (frzA h args).1 (frzA h args).2.1
 rw[hb] at this
 exact this⟩
theorem fconT_ok (hp:FnT P f A D R fn pre):FnOk P f (fconT A D R fn pre).g:=qmm (conT_ok hp)
end
end Go.Sx

namespace Go.Lp
open Go.Sx
variable [Env]
section
variable {α:Type} (A:El α)
theorem lst_up (xs:List α):A.lst (xs.length+1) (A.els xs)=xs++[A.dflt]:=by
 apply List.ext_getElem
 ·simp[El.lst]
 ·intro i h1 h2
  simp only[El.lst,List.getElem_map,List.getElem_range,El.els,El.get_cells]
  by_cases h:i<xs.length
  ·simp[List.getElem_append_left h,List.getD_eq_getElem?_getD,h]
  ·have h3:i=xs.length:=by simp[El.lst] at h1;omega
   subst h3
   simp[List.getD_eq_getElem?_getD]
theorem lst_put (xs:List α) (i:Nat) (h:i≤xs.length) (x:α):(A.lst (bif decide (i<xs.length) then xs.length else xs.length+1) (A.els xs)).set i x=if i<xs.length then xs.set i x else xs++[x]:=by
 by_cases hi:i<xs.length
 ·rw[decide_eq_true hi,cond_true,A.lst_els,if_pos hi]
 ·have:i=xs.length:=by omega
  subst this
  rw[decide_eq_false hi,cond_false,lst_up,if_neg hi]
  simp
end
section
variable {α:Type}
theorem qfa (p:α→Bool) (d:α):∀ (xs:List α) (e:Nat) (f:Nat→Bool),(∀ i,i<xs.length→f (e+i)=p (xs.getD i d))→kfind f xs.length e=e+xs.findIdx p
 | [],e,f,_=>rfl
 | x :: xs,e,f,h=>by
  simp only[List.length_cons,kfind]
  have h0:f e=p x:=h 0 (by simp)
  rw[List.findIdx_cons,h0]
  cases hp:p x with
  | true=>simp
  | false=>
   simp only[cond_false]
   rw[qfa p d xs (e+1) f fun i hi=>by
    have:=h (i+1) (by simp;omega)
    rw[show e+1+i=e+(i+1) by omega]
    simpa using this]
   omega
theorem q3l (p:α→Bool) (d:α) (xs:List α) {f:Nat→Bool} (h:∀ i,i<xs.length→f i=p (xs.getD i d)):kfind f xs.length 0=xs.findIdx p:=by
 have:=qfa p d xs 0 f fun i hi=>by rw[Nat.zero_add];exact h i hi
 rwa [Nat.zero_add] at this
end
section
variable {α β:Type}
abbrev MpE (α β:Type):=α×β×Int
def left (mp:List (MpE α β)) (seen:List Int):List (MpE α β):=mp.filter fun x=>!seen.contains x.2.2
section
variable {γ δ:Type} {F:List Nat→γ→Ex×γ} {m:γ→Nat} {Inv:γ→Prop}
end
end
end Go.Lp

namespace Go.Lp
open Go.Sx
variable [Env]
section
variable {α κ β:Type} [DecidableEq κ] (key:α→κ) (val:α→β) (d:MpE κ β)
def kAt (m:List (MpE κ β)) (k:κ):Nat:=m.findIdx fun e=>decide (k=e.1)
def msetG (m:List (MpE κ β)×Nat) (x:α):List (MpE κ β)×Nat:=
 if kAt m.1 (key x)<m.1.length then (m.1.set (kAt m.1 (key x)) (key x,val x,(m.1.getD (kAt m.1 (key x)) d).2.2),m.2)
 else (m.1++[(key x,val x,(m.2:Int))],m.2+1)
def mget (m:List (MpE κ β)) (k:κ):Option β:=(m.find? fun e=>decide (k=e.1)).map fun e=>e.2.1
theorem qhs (m:List (MpE κ β)) (k:κ):mget m k=if kAt m k<m.length then some (m.getD (kAt m k) d).2.1 else none:=by
 unfold mget kAt
 induction m with
 | nil=>rfl
 | cons e m ih=>
  rw[List.find?_cons,List.findIdx_cons]
  cases h:decide (k=e.1) with
  | true=>simp
  | false=>
   simp only[cond_false,List.length_cons,Nat.add_lt_add_iff_right,List.getD_cons_succ]
   exact ih
theorem qo6 (m:List (MpE κ β)×Nat) (x:α) (k:κ):mget (msetG key val d m x).1 k=if key x=k then some (val x) else mget m.1 k:=by
 obtain ⟨m,clk⟩:=m
 unfold msetG
 simp only
 induction m with
 | nil=>
  by_cases h:key x=k
  ·simp[mget,kAt,h]
  ·simp[mget,kAt,h,Ne.symm h]
 | cons e m ih=>
  have hk:kAt (e :: m) (key x)=bif decide (key x=e.1) then 0 else kAt m (key x)+1:=by
   unfold kAt;rw[List.findIdx_cons]
  cases h:decide (key x=e.1) with
  | true=>
   rw[hk,h]
   have he:=of_decide_eq_true h
   simp only[cond_true,List.length_cons,Nat.zero_lt_succ,if_true,List.set_cons_zero]
   unfold mget
   rw[List.find?_cons,List.find?_cons]
   by_cases hx:key x=k
   ·simp[hx]
   ·have h1:decide (k=key x)=false:=decide_eq_false (Ne.symm hx)
    have h2:decide (k=e.1)=false:=decide_eq_false (by rw[← he];exact Ne.symm hx)
    simp[h1,h2,hx]
  | false=>
   rw[hk,h]
   have he:=of_decide_eq_false h
   simp only[cond_false,List.length_cons,Nat.add_lt_add_iff_right,List.getD_cons_succ,List.set_cons_succ,List.cons_append]
   have key2:∀ (t:List (MpE κ β)),mget (e :: t) k=if k=e.1 then some e.2.1 else mget t k:=fun t=>by
    unfold mget
    rw[List.find?_cons]
    by_cases hke:k=e.1
    ·simp[hke]
    ·simp[hke]
   by_cases hlt:kAt m (key x)<m.length
   ·rw[if_pos hlt] at ih ⊢
    rw[key2,key2,ih]
    by_cases hx:key x=k
    ·rw[if_pos hx,if_pos hx,if_neg (fun hke=>he (hx.trans hke))]
    ·rw[if_neg hx,if_neg hx]
   ·rw[if_neg hlt] at ih ⊢
    rw[key2,key2,ih]
    by_cases hx:key x=k
    ·rw[if_pos hx,if_pos hx,if_neg (fun hke=>he (hx.trans hke))]
    ·rw[if_neg hx,if_neg hx]
theorem qcn:∀ (xs:List α) (m:List (MpE κ β)×Nat) (k:κ),mget (xs.foldl (msetG key val d) m).1 k=match xs.reverse.find? (fun x=>decide (key x=k)) with
  | some x=>some (val x)
  | none=>mget m.1 k
 | [],m,k=>rfl
 | x :: xs,m,k=>by
  rw[List.foldl_cons,qcn xs,List.reverse_cons,List.find?_append]
  cases xs.reverse.find? (fun x=>decide (key x=k)) with
  | some y=>rfl
  | none=>
   rw[qo6]
   by_cases h:key x=k
   ·simp[h]
   ·simp[h]
end
end Go.Lp

namespace Go.Sx
variable [Env]
theorem qcm {α γ δ:Type} {P:Program} {f t:Nat} {A:El α} {D:DA γ} {R:RM δ} {fn fn':List α→γ→List α×δ} {pre:List α→γ→List Prop} (h:FnMut P f t A D R fn pre) (e:∀ xs g,D.bd g→xs.length≤maxLen→(∀ p∈pre xs g,p)→fn xs g=fn' xs g):FnMut P f t A D R fn' pre:=by
 intro w F L xs g v0 vs h1 hE h2 h3 h4 h5 h6
 refine (h w F L xs g v0 vs h1 hE h2 h3 h4 h5 h6).mono ?_
 rintro e' w' ⟨x,k1,k2,k3,k4⟩
 rw[e xs g (D.fb _ _ _ _ h6) h5.1 h4] at k3 k4
 exact ⟨x,k1,k2,k3,k4⟩
end Go.Sx

namespace Go.Lp
open Go.Sx
variable [Env]
section
variable {α:Type} [DecidableEq α]
def insG (cf:α→α→Int) (s:α):Bool→List α→List α
 | b,[]=>bif b then [] else [s]
 | b,y :: r=>bif b||decide (y=s) then y :: insG cf s true r else bif decide (cf s y<0) then s :: y :: insG cf s true r else y :: insG cf s false r
theorem qkh (cf:α→α→Int) (s:α):∀ l:List α,insG cf s true l=l
 | []=>rfl
 | y :: r=>by simp[insG,qkh cf s r]
theorem qfd (cf:α→α→Int) (s:α):∀ l:List α,insG cf s false l=insU cf s l
 | []=>rfl
 | y :: r=>by
  simp only[insG,insU,qkh,qfd cf s r,Bool.false_or]
  by_cases h:y=s
  ·simp[h]
  ·by_cases h2:cf s y<0 <;> simp[h,h2]
abbrev IsG (α:Type):=List α×Unit×α×List α×Bool×Int
def isF (x:Nat) (d:α) (cf:α→α→Int) (g:IsG α):Ex×IsG α:=
 bif decide (g.2.2.2.2.2<(g.1.length:Int)) then
  bif !(bif decide (g.1.getD g.2.2.2.2.2.toNat d=g.2.2.1) then true else g.2.2.2.2.1)&&decide (cf g.2.2.1 (g.1.getD g.2.2.2.2.2.toNat d)<0) then
   (.normal,g.1,(),g.2.2.1,(g.2.2.2.1++[g.2.2.1])++[g.1.getD g.2.2.2.2.2.toNat d],true,w64 (g.2.2.2.2.2+1))
  else (.normal,g.1,(),g.2.2.1,g.2.2.2.1++[g.1.getD g.2.2.2.2.2.toNat d],(bif decide (g.1.getD g.2.2.2.2.2.toNat d=g.2.2.1) then true else g.2.2.2.2.1),w64 (g.2.2.2.2.2+1))
 else (.exit x,g)
def isI (K:Nat) (g:IsG α):List Prop:=[g.1.length≤K∧0≤g.2.2.2.2.2∧g.2.2.2.2.2≤(g.1.length:Int)∧(g.2.2.2.1.length:Int)≤g.2.2.2.2.2+(bif g.2.2.2.2.1 then 1 else 0)]
def isM (g:IsG α):Nat:=((g.1.length:Int) - g.2.2.2.2.2).toNat
theorem is_goes (x:Nat) (d:α) (cf:α→α→Int) {K:Nat} (hK:K≤9223372036854775807):Goes (isF x d cf) isM fun g=>allP (isI K g):=by
 rintro ⟨xs,⟨⟩,s,out,b,i⟩ hi hn
 obtain ⟨h2,h3,h4,h5⟩:=hi _ (List.mem_cons_self ..)
 simp only at h2 h3 h4 h5
 unfold isF at hn ⊢
 simp only at hn ⊢
 by_cases hlt:i<(xs.length:Int)
 ·simp only[hlt,decide_true,cond_true] at hn ⊢
  rw[wr (n:=i+1) (by omega)]
  generalize hc1:decide (xs.getD i.toNat d=s)=c1
  generalize decide (cf s (xs.getD i.toNat d)<0)=c2
  have hb:(out.length:Int)≤i+1:=by cases b <;> simp only[cond_true,cond_false] at h5 <;> omega
  cases b <;> cases c1 <;> cases c2 <;> simp only[cond_true,cond_false,Bool.not_true,Bool.not_false,Bool.true_and,Bool.false_and,Bool.and_false] at h5 ⊢ <;>
   (refine ⟨fun q hq=>?_,?_⟩
    ·simp only[isI,List.mem_singleton] at hq
     subst hq
     refine ⟨h2,by show (0:Int)≤i+1;omega,by show i+1≤(xs.length:Int);omega,?_⟩
     simp only[List.length_append,List.length_cons,List.length_nil,cond_true,cond_false]
     omega
    ·simp only[isM];omega)
 ·simp only[hlt,decide_false,cond_false] at hn
  cases hn
theorem is_run (x:Nat) (d:α) (cf:α→α→Int) {K:Nat} (hK:K≤9223372036854775807):∀ g:IsG α,allP (isI K g) →
  (loopF (isF x d cf) isM g).1=.exit x∧(loopF (isF x d cf) isM g).2.1=g.1∧(loopF (isF x d cf) isM g).2.2.2.1=g.2.2.1 ∧
   (loopF (isF x d cf) isM g).2.2.2.2.1++(bif (loopF (isF x d cf) isM g).2.2.2.2.2.1 then [] else [g.2.2.1])=g.2.2.2.1++insG cf g.2.2.1 g.2.2.2.2.1 (g.1.drop g.2.2.2.2.2.toNat) ∧
   (loopF (isF x d cf) isM g).2.2.2.2.1.length≤g.1.length+1:=by
 refine q17 (is_goes x d cf hK) (Q:=fun g r=>r.1=.exit x∧r.2.1=g.1∧r.2.2.2.1=g.2.2.1 ∧
   r.2.2.2.2.1++(bif r.2.2.2.2.2.1 then [] else [g.2.2.1])=g.2.2.2.1++insG cf g.2.2.1 g.2.2.2.2.1 (g.1.drop g.2.2.2.2.2.toNat)∧r.2.2.2.2.1.length≤g.1.length+1) ?_ ?_
 ·rintro ⟨xs,⟨⟩,s,out,b,i⟩ hi hn
  obtain ⟨h2,h3,h4,h5⟩:=hi _ (List.mem_cons_self ..)
  simp only at h2 h3 h4 h5
  unfold isF at hn ⊢
  simp only at hn ⊢
  by_cases hlt:i<(xs.length:Int)
  ·simp only[hlt,decide_true,cond_true] at hn
   exfalso
   revert hn
   generalize (!(bif decide (xs.getD i.toNat d=s) then true else b)&&decide (cf s (xs.getD i.toNat d)<0))=c
   cases c <;> exact fun hn=>absurd rfl hn
  ·simp only[hlt,decide_false,cond_false]
   refine ⟨trivial,trivial,trivial,?_,?_⟩
   ·rw[List.drop_eq_nil_of_le (by omega)]
    cases b <;> simp[insG]
   ·cases b <;> simp only[cond_true,cond_false] at h5 <;> omega
 ·rintro ⟨xs,⟨⟩,s,out,b,i⟩ g' r hi he hi' _ hq
  obtain ⟨h2,h3,h4,h5⟩:=hi _ (List.mem_cons_self ..)
  simp only at h2 h3 h4 h5
  unfold isF at he
  simp only at he
  by_cases hlt:i<(xs.length:Int)
  ·have hlt':i.toNat<xs.length:=by omega
   simp only[hlt,decide_true,cond_true] at he
   have e1:(i+1).toNat=i.toNat+1:=by omega
   rw[wr (n:=i+1) (by omega)] at he
   rw[drop_at d hlt']
   simp only
   generalize hy:xs.getD i.toNat d=y at he ⊢
   simp only[insG]
   generalize decide (y=s)=c1 at he ⊢
   generalize decide (cf s y<0)=c2 at he ⊢
   cases b <;> cases c1 <;> cases c2 <;> simp only[cond_true,cond_false,Bool.not_true,Bool.not_false,Bool.true_and,Bool.false_and,Bool.and_false,Bool.true_or,Bool.false_or,Bool.or_true,Prod.mk.injEq,true_and] at he ⊢ <;>
    (subst he
     simp only[e1] at hq
     obtain ⟨q1,q2,q3,q4,q5⟩:=hq
     refine ⟨q1,q2,q3,?_,q5⟩
     rw[q4]
     simp)
  ·simp only[hlt,decide_false,cond_false] at he
   cases he
end
end Go.Lp

namespace Go.Sx
open Go.RowKit
variable [Env]
section
variable {α β γ δ:Type} {K:El α} {V:El β}
def d3e (e:α×β×Int):α×β:=(e.1,e.2.1)
theorem ent_take {l:List SV} {a:α×β×Int} {ps:List Prop} (h:(K.ent V).decs l=some (a,ps)):∃ qs,(El.pair K V).decs (l.take (K.sz+V.sz))=some (d3e a,qs)∧∀ q∈qs,q∈ps:=by
 simp only[El.ent,El.pair] at h ⊢
 rw[List.take_take,Nat.min_eq_left (Nat.le_add_right ..),List.drop_take,Nat.add_sub_cancel_left]
 split at h
 ·rename_i a0 ps0 h1
  split at h
  ·rename_i b0 qs0 h2
   simp only[Option.some.injEq,Prod.mk.injEq] at h
   obtain ⟨rfl,rfl⟩:=h
   split at h2
   ·rename_i v0 p1 h3
    split at h2
    ·rename_i n0 p2 h4
     simp only[Option.some.injEq,Prod.mk.injEq] at h2
     obtain ⟨rfl,rfl⟩:=h2
     refine ⟨_,rfl,fun q hq=>?_⟩
     rcases List.mem_append.1 hq with hq | hq
     ·exact List.mem_append_left _ hq
     ·exact List.mem_append_right _ (List.mem_append_left _ hq)
    ·cases h2
   ·cases h2
  ·cases h
 ·cases h
theorem ent_ok {l:List SV} (h:(K.ent V).Ok l):(El.pair K V).Ok (l.take (K.sz+V.sz))∧(El.pair K V).get (l.take (K.sz+V.sz))=d3e ((K.ent V).get l):=by
 obtain ⟨a,ps,h1,h2⟩:=h
 obtain ⟨qs,q1,q2⟩:=ent_take h1
 refine ⟨⟨_,qs,q1,fun q hq=>h2 q (q2 q hq)⟩,?_⟩
 simp only[El.get,h1,q1]
theorem ent_lst {m:Nat} {el:Nat→List SV} (h:∀ e,e<m→(K.ent V).Ok (el e)):(El.pair K V).lst m (fun e=>(el e).take (K.sz+V.sz))=((K.ent V).lst m el).map d3e:=by
 simp only[El.lst,List.map_map]
 refine List.map_congr_left fun e he=>?_
 exact (ent_ok (h e (List.mem_range.1 he))).2
end
end Go.Sx

namespace Go.Lp
open Go.Sx
section
variable {α β:Type}
def anyAt (p:Int→α→Bool):Int→List α→Bool
 | _,[]=>false
 | i,a :: l=>p i a||anyAt p (i+1) l
theorem qln {x:Nat} {e:Ex} {st:β→Int→α→Ex×β} {p:Int→α→Bool} {h:β→β} {f:β→α→β} (he:e≠.normal) (hst:∀ b i a,st b i a=bif p i a then (e,h b) else (.normal,f b a)):∀ (l:List α) (i:Int) (b:β),(anyAt p i l=true∧∃ j b',scan x st i l b=(e,j,h b'))∨(anyAt p i l=false∧scan x st i l b=(.exit x,i+l.length,l.foldl f b))
 | [],i,b=>.inr ⟨rfl,by simp[scan]⟩
 | a :: l,i,b=>by
  have ih:=qln (x:=x) he hst l (i+1) (f b a)
  unfold anyAt
  simp only[scan,hst]
  cases hp:p i a with
  | true=>
   refine .inl ⟨rfl,i,b,?_⟩
   simp only[cond_true]
  | false=>
   simp only[cond_false,Bool.false_or]
   rcases ih with ⟨h1,j,b',h2⟩ | ⟨h1,h2⟩
   ·exact .inl ⟨h1,j,b',h2⟩
   ·refine .inr ⟨h1,h2.trans ?_⟩
    simp only[List.length_cons,List.foldl_cons]
    rw[show i+1+(l.length:Int)=i+((l.length+1:Nat):Int) by omega]
end
end Go.Lp

namespace Go.Sx
open Go.RowKit
variable [Env]
def isFn (k:Nat):List SV→Bool
 | [_,.fn f _]=>Nat.beq f k
 | _=>false
def qm0 (k:Nat) (c1 c2:PCon):PCon:=⟨fun args h=>bif isFn k args then c1.g args h else c2.g args h,fun args h=>by
 cases isFn k args with
 | true=>exact c1.e args h
 | false=>exact c2.e args h,fun args ha=>q4i (c1.i args ha) (c2.i args ha)⟩
theorem alt_ok {P:Program} {f k:Nat} {c1 c2:PCon} (h1:FnOk P f c1.g) (h2:FnOk P f c2.g):FnOk P f (qm0 k c1 c2).g:=by
 intro M w0 w ρ h args vs K hK hm hf
 have hK:(bif isFn k args then c1.g args h else c2.g args h).Holds K:=hK
 cases hc:isFn k args with
 | true=>rw[hc] at hK;exact h1 M w0 w ρ h args vs K hK hm hf
 | false=>rw[hc] at hK;exact h2 M w0 w ρ h args vs K hK hm hf
end Go.Sx

namespace Go.Sx
open Go.RowKit
variable [Env]
def qm7 (N:Nat) (c1 c2:LCon):LCon:=⟨fun σ=>bif Nat.beq σ.h.nx N then c1.g σ else c2.g σ,fun σ=>by
 cases Nat.beq σ.h.nx N with
 | true=>exact c1.on σ
 | false=>exact c2.on σ⟩
theorem altL_ok {P:Program} {b:Code} {N:Nat} {c1 c2:LCon} (h1:q02 P b c1.g) (h2:q02 P b c2.g):q02 P b (qm7 N c1 c2).g:=by
 intro M w0 w ρ σ a K hK hm
 have hK:(bif Nat.beq σ.h.nx N then c1.g σ else c2.g σ).Holds K:=hK
 cases hc:Nat.beq σ.h.nx N with
 | true=>rw[hc] at hK;exact h1 M w0 w ρ σ a K hK hm
 | false=>rw[hc] at hK;exact h2 M w0 w ρ σ a K hK hm
end Go.Sx

namespace Go.Sx
open Go.RowKit
variable [Env]
def lconFrz (ts:List Nat) (c:LCon):LCon:=⟨fun σ=>c.g (frzL ts σ),fun σ=>by
 have h:=c.on (frzL ts σ)
 rw[(qd8 ts σ).1,(qd8 ts σ).2] at h
 exact h⟩
theorem frzLoop_ok {P:Program} {b:Code} {ts:List Nat} {c:LCon} (h:q02 P b c.g):q02 P b (lconFrz ts c).g:=by
 intro M w0 w ρ σ a K hK hm
 obtain ⟨ρ1,_,a1,m1,n1,_,_⟩:=qml ts hm
 have:=h M w0 w ρ1 (frzL ts σ) a K hK m1
 rw[n1] at this
 exact Code.wpIn_mono (fun x a w hx=>PostX.chain hx (Nat.le_refl _) a1) this
end Go.Sx

namespace Go.Sx
open Go.RowKit
variable [Env]
def Tr.asksC {α:Type}:Tr α→List Prop
 | .ret _=>[]
 | .br c a b=>bif c then a.asksC else b.asksC
 | .ask p a=>p :: a.asksC
 | .giv _ a=>a.asksC
 | .all _=>[False]
 | .bad _=>[False]
def Tr.evC {α:Type} (d:α):Tr α→α
 | .ret x=>x
 | .br c a b=>bif c then a.evC d else b.evC d
 | .ask _ a=>a.evC d
 | .giv _ a=>a.evC d
 | _=>d
theorem Tr.asksC_holds {α:Type} (d:α):∀ {t:Tr α},(∀ p∈t.asksC,p)→t.Holds (·=t.evC d)
 | .ret _,_=>rfl
 | .br true a b,h=>⟨fun _=>Tr.asksC_holds d (t:=a) h,fun h=>by cases h⟩
 | .br false a b,h=>⟨fun h=>(by cases h),fun _=>Tr.asksC_holds d (t:=b) h⟩
 | .ask p a,h=>⟨h p (List.mem_cons_self ..),Tr.asksC_holds d (t:=a) fun q hq=>h q (List.mem_cons_of_mem _ hq)⟩
 | .giv _ a,h=>fun _=>Tr.asksC_holds d (t:=a) h
 | .all _,h=>(h _ (List.mem_cons_self ..)).elim
 | .bad _,h=>(h _ (List.mem_cons_self ..)).elim
end Go.Sx

namespace Go.Sx
open Go.RowKit
variable [Env]
theorem okAll_els {α:Type} {A:El α} (hA:∀ a,A.decs (A.cells a)=some (a,[])) (xs:List α):∀ n,okAll A n (A.els xs)=true:=fun n=>by
 unfold okAll
 refine List.all_eq_true.2 fun e _=>?_
 simp only[El.els,hA]
def eListB {α:Type} (A:El α) (hA:∀ a,A.decs (A.cells a)=some (a,[])):El (List α):=.one' (.listB A) [] (fun _=>rfl) fun xs=>⟨[],by simp[Dv.listB,Dv.list,A.lst_els,okAll_els hA],by simp⟩
end Go.Sx

namespace Go.Lp
open Go.Sx Go.Sort
variable [Env]
def insB {α:Type} (cf:α→α→Int) (a:α):List α→List α
 | []=>[a]
 | b :: l=>bif decide (cf b a<0) then b :: insB cf a l else a :: b :: l
def isrt {α:Type} (cf:α→α→Int):List α→List α
 | []=>[]
 | a :: l=>insB cf a (isrt cf l)
section
variable {α:Type} {cf:α→α→Int}
theorem qd2 (a:α):∀ l:List α,(insB cf a l).Perm (a :: l)
 | []=>.refl _
 | b :: l=>by
  unfold insB
  cases decide (cf b a<0) with
  | true=>exact ((qd2 a l).cons b).trans (.swap a b l)
  | false=>exact .refl _
theorem qke:∀ l:List α,(isrt cf l).Perm l
 | []=>.refl _
 | a :: l=>(qd2 a _).trans ((qke l).cons a)
theorem qd1 (hO:SWO fun x y=>decide (cf x y<0)) (a:α):∀ l:List α,l.Pairwise (fun x y=>¬ cf y x<0)→(insB cf a l).Pairwise fun x y=>¬ cf y x<0
 | [],_=>List.pairwise_singleton _ _
 | b :: l,h=>by
  obtain ⟨h1,h2⟩:=List.pairwise_cons.1 h
  unfold insB
  by_cases hc:cf b a<0
  ·rw[decide_eq_true hc,cond_true]
   refine List.pairwise_cons.2 ⟨fun x hx=>?_,qd1 hO a l h2⟩
   rcases List.mem_cons.1 ((qd2 a l).mem_iff.1 hx) with rfl | hx
   ·intro h3
    have h4:=hO.trans _ _ _ (decide_eq_true hc) (decide_eq_true h3)
    rw[hO.irrefl] at h4
    cases h4
   ·exact h1 x hx
  ·rw[decide_eq_false hc,cond_false]
   refine List.pairwise_cons.2 ⟨fun x hx=>?_,h⟩
   rcases List.mem_cons.1 hx with rfl | hx
   ·exact hc
   ·intro h3
    have h4:=hO.ntrans x b a (decide_eq_false (h1 x hx)) (decide_eq_false hc)
    rw[decide_eq_true h3] at h4
    cases h4
theorem qd0 (hO:SWO fun x y=>decide (cf x y<0)):∀ l:List α,(isrt cf l).Pairwise fun x y=>¬ cf y x<0
 | []=>List.Pairwise.nil
 | a :: l=>qd1 hO a _ (qd0 hO l)
theorem isrt_srtBy (hO:SWO fun x y=>decide (cf x y<0)) {xs:List α} (ha:Anti cf xs):srtBy cf xs=isrt cf xs:=(q9x hO ha (qke xs) (qd0 hO xs)).symm
end
end Go.Lp
