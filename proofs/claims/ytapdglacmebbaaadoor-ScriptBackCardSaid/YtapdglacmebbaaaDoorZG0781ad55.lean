/- Functions on own trees: a call is what the machine does. -/
import Derived.Test.YtapdglacmebbaaaDoorZG06339971
import Derived.Lib.SplitLaws
import Derived.Lib.Join
import Derived.Lib.MapLaws
import Derived.Lib.ValidLaws
import Derived.Test.YtapdglacmebbaaaDoorZG013abc8b
import Derived.Test.YtapdglacmebbaaaDoorZG058b71cb
import Derived.Test.YtapdglacmebbaaaDoorZG04ecae44
import Derived.Shelf.Strings.Builder1
set_option linter.unusedVariables false
set_option linter.unusedSimpArgs false
set_option linter.constructorNameAsVariable false
set_option linter.all false

namespace Go.Sx
open Go.RowKit
variable[Env]
section
variable{P:Program}{f:Nat}{κ γ δ:Type}{A:TA κ}{D:DA γ}{R:TR δ}{fn:κ->γ->κ×δ}{pre:κ->γ->List Prop}
theorem nodup_roots:∀{rs:List Nat}{ids:List (Option Nat)},(∀k k' j:Nat,(rs.map some++ids)[k]?=some (some j)->(rs.map some++ids)[k']?=some (some j)->k=k')->rs.Nodup/\∀r∈rs,r∉fdist ids:=λ{rs ids}h=>by
 have hl:∀k r,rs[k]?=some r->(rs.map some++ids)[k]?=some (some r):=λk r hk=>by
  have hlt:=(List.getElem?_eq_some_iff.1 hk).1;rw[List.getElem?_append_left (by simpa using hlt),List.getElem?_map,hk];rfl
 constructor
 .refine List.pairwise_iff_getElem.2 λi j hi hj hij he=>?_;have h1:=hl i rs[i] (List.getElem?_eq_getElem hi);have h2:=hl j rs[j] (List.getElem?_eq_getElem hj);rw[he]at h1;have:=h i j _ h1 h2;omega
 .intro r hr hd;obtain⟨k,hk⟩:=List.getElem?_of_mem hr;obtain⟨x,hx,he⟩:=List.mem_filterMap.1 hd;have he:x=some r:=he;subst he;obtain⟨k',hk'⟩:=List.getElem?_of_mem hx
  have h2:(rs.map some++ids)[rs.length+k']?=some (some r):=by
   rw[List.getElem?_append_right (by simp),List.length_map,show rs.length+k'-rs.length=k' by omega,hk']
  have:=h k _ _ (hl k r hk) h2;have:=(List.getElem?_eq_some_iff.1 hk).1;omega
theorem conT_ok(hp:FnT P f A D R fn pre):FnOk P f (conT A D R fn pre):=by
 intro M w0 w ρ h args vs K hK hm hfits;unfold conT at hK;split at hK
 .rename_i rs rest hroots;obtain⟨vs',rfl,hrest,hrl,hrn⟩:=rootsOf_ok hroots hfits;split at hK
  .rename_i g ps ids fs hA;split at hK
   .rename_i d qs hd;split at hK
    .rename_i hchk;obtain⟨hq,hK⟩:=q1p hK;have hps:∀p∈ps,p:=λp h'=>hq p (List.mem_append_left _ h');have hqs:∀p∈qs,p:=λp h'=>hq p (List.mem_append_right _ (List.mem_append_left _ h'));have hpre:∀p∈pre g d,p:=λp h'=>hq p (List.mem_append_right _ (List.mem_append_right _ h'));simp only[Bool.and_eq_true,List.isEmpty_iff]at hchk;obtain⟨c1,rfl⟩:=hchk;obtain⟨i1,_⟩:=q80 c1;obtain⟨n1,n2⟩:=nodup_roots i1;obtain⟨la,lq⟩:=A.ilen _ _ _ _ _ _ hA
     let src:List (Option Nat):=rs.map some++ids
     let L:Nat->Lc:=λk=>match src[k]? with|some (some j)=>ρ j|_=>⟨0,0,0,true⟩
     let ρa:Rh:=⟨L,ρ.mem,ρ.lo⟩
     let ρc:Rh:=⟨L,ρ.mem,⟨ρ.mem,λ_=>none⟩⟩
     have hsrl:src.length=A.q+A.R:=by simp[src,lq,la]
     have hL:∀k j:Nat,src[k]?=some (some j)->L k=ρ j:=λk j hk=>by simp only[L,hk]
     have hLn:∀k:Nat,src[k]?=some none->L k=⟨0,0,0,true⟩:=λk hk=>by simp only[L,hk]
     have hsl:∀k r,rs[k]?=some r->src[k]?=some (some r):=λk r hk=>by
      have hlt:=(List.getElem?_eq_some_iff.1 hk).1;show(rs.map some++ids)[k]?=_;rw[List.getElem?_append_left (by simpa using hlt),List.getElem?_map,hk];rfl
     have hsr:∀k,src[A.q+k]?=ids[k]?:=λk=>by
      show(rs.map some++ids)[A.q+k]?=_;rw[List.getElem?_append_right (by simp[lq]),List.length_map,lq,show A.q+k-A.q=k by omega]
     have hrnA:Rn 0 A.q ids (A.q+A.R) ρ ρa:=⟨by omega,⟨λi hi=>absurd hi (Nat.not_lt_zero i),λ_ _ h=>h,rfl⟩,λk j hk=>by
      rw[show 0+A.q+k=A.q+k by omega];exact hL _ _ (by rw[hsr];exact hk),λk hk=>by
      rw[show 0+A.q+k=A.q+k by omega];exact hLn _ (by rw[hsr];exact hk)⟩
     have hzA:FzR h.nx h [] ρ ρa:=λj hj=>by cases hj
     obtain⟨a1,a2⟩:=A.ok 0 A.q h rs g ps ids [] hA hps;rw[Nat.zero_add]at a1 a2;have hlenA:(q2p A g).length=A.q+A.R:=canonA_len A g;have hge:∀k,A.q<=k->∃k',k=A.q+k':=λk hk=>⟨k-A.q,by omega⟩
     have hso:∀(k:Nat)(so:SO),(q2p A g)[k]?=some so->(src[k]?=some none/\NilSO so)\/∃j:Nat,src[k]?=some (some j)/\Ow so (h.get j)/\so.fit (A.q+A.R) ρa (ρ j) w.heap[(ρ j).blk]?:=λk so hk=>by
      rcases Nat.lt_or_ge k A.q with h1|h1
      .unfold q2p at hk;rw[List.getElem?_append_left (by rw[A.olen];exact h1)]at hk;have hlt:k<rs.length:=by omega
       obtain⟨o1,o2,o4,o3⟩:=a2 k rs[k] so (List.getElem?_eq_getElem hlt) hk;exact .inr ⟨rs[k],hsl k _ (List.getElem?_eq_getElem hlt),⟨λL _=>o1 L,λa=>(o4 a).1⟩,o3 _ _ _ _ _ _ hrnA hzA (hm.ob _)⟩
      .obtain⟨k,rfl⟩:=hge k h1;unfold q2p at hk;rw[List.getElem?_append_right (by rw[A.olen];omega),A.olen,show A.q+k-A.q=k by omega]at hk;rw[hsr];rcases a1.blk k so hk with ⟨b1,b2⟩|⟨j,b1,b2,b3⟩
       .exact .inl ⟨b1,b2⟩
       .exact .inr ⟨j,b1,b2,b3 _ _ _ _ _ _ hrnA hzA (hm.ob _)⟩
     have hown:∀k,((q1y (q2p A g)).get k).own (L k)->∃j:Nat,src[k]?=some (some j)/\(h.get j).own (ρ j)/\L k=ρ j:=λk hk=>by
      rw[q2f]at hk;cases hs:(q2p A g)[k]? with
      |none=>rw[hs]at hk;exact hk.elim
      |some so=>
       rw[hs]at hk;rcases hso k so hs with ⟨h1,rfl|⟨t,sz,el,rfl⟩⟩|⟨j,h1,h2,_⟩
       .exact hk.elim
       .have hk:(L k).nl=false:=hk;rw[hLn k h1]at hk;cases hk
       .rw[hL k j h1]at hk;exact⟨j,h1,h2.1 _ hk,hL k j h1⟩
     have habs:∀k a,(q1y (q2p A g)).get k=.abs a->∃j:Nat,src[k]?=some (some j)/\h.get j=.abs a/\L k=ρ j:=λk a hk=>by
      rw[q2f]at hk;cases hs:(q2p A g)[k]? with
      |none=>rw[hs]at hk;cases hk
      |some so=>
       rw[hs]at hk;have hk:so=.abs a:=hk;rcases hso k so hs with ⟨h1,rfl|⟨t,sz,el,rfl⟩⟩|⟨j,h1,h2,_⟩
       .cases hk
       .cases hk
       .exact⟨j,h1,h2.2 a hk,hL k j h1⟩
     have hagr:Agr (A.q+A.R) ρa ρc:=⟨λ_ _=>rfl,λ_ _ h _=>h⟩;obtain⟨S,hS⟩:=hm.ab
     let Sc:Nat->Nat->Prop:=λk=>S (match src[k]? with|some (some j)=>j|_=>0)
     let Ft:Nat->Prop:=λb=>∃k,((q1y (q2p A g)).get k).own (L k)/\(b=(L k).blk\/∃a,(q1y (q2p A g)).get k=.abs a/\Sc k b)
     have hSc:∀k j:Nat,src[k]?=some (some j)->Sc k=S j:=λk j hk=>by simp only[Sc,hk]
     have hent:HM Ft w ρc (q1y (q2p A g)) w:={
      os:=rfl
      tape:=rfl
      output:=rfl
      size:=Nat.le_refl _
      block:=λ_ _ _=>rfl
      lt:=λk hk=>by
       rw[q2f]at hk;show k<(q2p A g).length;by_cases hlt:k<(q2p A g).length
       .exact hlt
       .rw[List.getElem?_eq_none (by omega)]at hk;cases hk
      ob:=λk=>by
       show((q1y (q2p A g)).get k).fit (q2p A g).length ρc (L k) _;rw[q2f,hlenA];cases hs:(q2p A g)[k]? with
       |none=>trivial
       |some so=>
        rcases hso k so hs with ⟨h1,rfl|⟨t,sz,el,rfl⟩⟩|⟨j,h1,_,h3⟩
        .trivial
        .rw[hLn k h1];exact⟨Nat.zero_le _,.inl ⟨rfl,rfl⟩⟩
        .show so.fit (A.q+A.R) ρc (L k) w.heap[(L k).blk]?;rw[hL k j h1];exact SO.fit_mono0 (Nat.le_refl _) hagr h3
      ow:=λk hk=>.inr ⟨k,hk,.inl rfl⟩
      fz:=hm.fz
      sep:=λk hk=>by
       obtain⟨j,_,h2,h3⟩:=hown k hk;show ρ.mem (L k).blk=none;rw[h3];exact hm.sep j h2
      old:=λb o hb _ _=>hb
      env:=hm.env
      ab:=⟨Sc,λk a hk=>by
       obtain⟨j,h1,h2,h3⟩:=habs k a hk;obtain⟨q1,q2⟩:=hS j a h2;refine⟨by show Env.rep a (L k) _ _ _;rw[h3,hSc k j h1];exact q1,λb hb=>?_⟩;have hb':S j b:=by rw[<-hSc k j h1];exact hb
       obtain⟨r1,r2,r3,r4,r5⟩:=q2 b hb';refine⟨.inr ⟨k,q6c hk,.inr ⟨a,hk,hb⟩⟩,r2,r3,λk' hk'=>?_,λk' a' hk' hb2=>?_⟩
       .obtain⟨j',_,h2',h3'⟩:=hown k' hk';show(L k').blk≠b;rw[h3'];exact r4 j' h2'
       .obtain⟨j',h1',h2',h3'⟩:=habs k' a' hk';rw[hSc k' j' h1']at hb2;have:=r5 j' a' h2' hb2;subst this;exact i1 k k' j h1 h1'⟩
      inj:=λk k' hk hk' he=>by
       obtain⟨j,h1,h2,h3⟩:=hown k hk;obtain⟨j',h1',h2',h3'⟩:=hown k' hk';have he:(L k).blk=(L k').blk:=he;rw[h3,h3']at he;have:=hm.inj j j' h2 h2' he;subst this;exact i1 k k' j h1 h1'}
     have hvs':=D.cl _ _ 0 ρ (emp ρ.mem) _ (λ_ _ h=>h) (D.ok _ _ _ _ _ _ hd hqs hrest)
     have hrv:(rs.map λr=>Value.pointer (some ⟨(ρ r).blk,(ρ r).off+0,none⟩))=qav A.q ρc:=by
      refine List.ext_getElem? λk=>?_;simp only[qav,List.getElem?_map];by_cases hk:k<A.q
      .have hlt:k<rs.length:=by omega
       have e2:L k=ρ rs[k]:=hL k _ (hsl k _ (List.getElem?_eq_getElem hlt));rw[List.getElem?_eq_getElem hlt,List.getElem?_range hk,Option.map_some,Option.map_some];show _=some (Value.pointer (some ⟨(L k).blk,(L k).off+0,none⟩));rw[e2]
      .rw[List.getElem?_eq_none (by omega),List.getElem?_eq_none (by simpa using Nat.not_lt.1 hk)];rfl
     have hcall:=hp Ft w ρc g d vs' hent hpre hvs';rw[hrv];refine hcall.mono ?_;rintro e w' ⟨x,ρe,rfl,hroot,hmm,hlo,hme,hx⟩;have hlenO:(q3l A R (fn g d)).length=A.q+(A.R+R.R):=canonO_len A R _
     have hfoot:∀b,Ft b->∃j,(j∈rs\/j∈fdist ids)/\(h.get j).own (ρ j)/\(b=(ρ j).blk\/∃a,h.get j=.abs a/\S j b):=λb⟨k,hk,hb⟩=>by
      obtain⟨j,h1,h2,h3⟩:=hown k hk
      have hb:b=(ρ j).blk\/∃a,h.get j=.abs a/\S j b:=by
       rcases hb with hb|⟨a,ha,hb⟩
       .exact .inl (by rw[hb];exact congrArg Lc.blk h3)
       .obtain⟨j',k1,k2,k3⟩:=habs k a ha;rw[h1]at k1;simp only[Option.some.injEq]at k1;subst k1;exact .inr ⟨a,k2,by rw[hSc k j h1]at hb;exact hb⟩
      refine⟨j,?_,h2,hb⟩;rcases Nat.lt_or_ge k A.q with hk|hk
      .left;have hlt:k<rs.length:=by omega
       have:=hsl k _ (List.getElem?_eq_getElem hlt);rw[this]at h1;simp only[Option.some.injEq]at h1;rw[<-h1];exact List.getElem_mem hlt
      .obtain⟨k,rfl⟩:=hge k hk;rw[hsr]at h1;exact .inr (List.mem_filterMap.2 ⟨some j,List.mem_of_getElem? h1,rfl⟩)
     have hfM:∀b,Ft b->w0.heap.size<=b\/M b:=λb hb=>by
      obtain⟨j,_,h2,rfl|⟨a,h3,h4⟩⟩:=hfoot b hb
      .exact hm.ow j h2
      .exact((hS j a h3).2 b h4).1
     have hfa:∀i a b,i∉rs->i∉fdist ids->h.get i=.abs a->S i b->¬Ft b:=λi a b h1 h2 ha hb hF=>by
      obtain⟨j,hj,h3,h4⟩:=hfoot _ hF;rcases h4 with rfl|⟨a',h4,h5⟩
      .exact hS.ne ha h3 hb
      .have:=((hS i a ha).2 b hb).2.2.2.2 j a' h4 h5;subst this;rcases hj with hj|hj
       .exact h1 hj
       .exact h2 hj
     have hfk:∀i,i∉rs->i∉fdist ids->(h.get i).own (ρ i)->¬Ft (ρ i).blk:=λi h1 h2 ho hb=>by
      obtain⟨j,hj,h3,h4⟩:=hfoot _ hb;rcases h4 with h4|⟨a,h4,h5⟩
      rotate_left
      .exact hS.ne h4 ho h5
      have:=hm.inj i j ho h3 h4;subst this;rcases hj with hj|hj
      .exact h1 hj
      .exact h2 hj
     let T:Nat:=A.R+R.R
     let bs:List SO:=A.blks h.nx (fn g d).1++R.blks (h.nx+A.R) (fn g d).2
     let h2:SH:=⟨h.nx+T,whole (rowsL h.nx bs)++(whole (rs.zip (A.objs h.nx (fn g d).1))++(whole ((fdist ids).map λi=>(i,SO.dead))++h.l)),h.b⟩
     let ρ2:Rh:=⟨λk=>if h.nx<=k/\k<h.nx+T then ρe (A.q+(k-h.nx))else ρ k,ρe.mem,ρ.lo⟩
     have hbl:bs.length=T:=by simp[bs,T,A.blen,R.blen]
     have r2n:∀p,p<T->ρ2 (h.nx+p)=ρe (A.q+p):=λp hp=>by
      show(if _ then _ else _)=_;rw[if_pos (by omega),show h.nx+p-h.nx=p by omega]
     have r2o:∀k,k<h.nx->ρ2 k=ρ k:=λk hk=>by
      show(if _ then _ else _)=_;rw[if_neg (by omega)]
     have hmemle:∀b o,ρ.mem b=some o->ρe.mem b=some o:=hmm;have hag:Agree h.nx ρ ρ2:=⟨r2o,hmemle,rfl⟩
     have hget:∀k,(∃p so,k=h.nx+p/\p<T/\bs[p]?=some so/\h2.get k=so)\/(∃j so,rs[j]?=some k/\(A.objs h.nx (fn g d).1)[j]?=some so/\h2.get k=so)\/h2.get k=.dead\/(k∉rs/\k∉fdist ids/\h2.get k=h.get k):=λk=>by
      have e:h2.get k=look (look (look (lookE (lookE .dead k h.b) k h.l) k ((fdist ids).map λi=>(i,SO.dead))) k (rs.zip (A.objs h.nx (fn g d).1))) k (rowsL h.nx bs):=by
       simp only[h2,SH.get,q2n,q51]
      obtain⟨q1,q2⟩:=q75 (i:=k) (r:=bs) (k:=h.nx) (look (look (lookE (lookE .dead k h.b) k h.l) k ((fdist ids).map λi=>(i,SO.dead))) k (rs.zip (A.objs h.nx (fn g d).1)));by_cases hk:h.nx<=k/\k<h.nx+T
      .obtain⟨so,e1,e2⟩:=q1 (k-h.nx) (by omega) (by omega);exact .inl ⟨k-h.nx,so,by omega,by omega,e1,by rw[e,e2]⟩
      .rw[q2 (by omega)]at e;by_cases hkr:k∈rs
       .obtain⟨j,hj⟩:=List.getElem?_of_mem hkr;have hjl:=(List.getElem?_eq_some_iff.1 hj).1;have hol:j<(A.objs h.nx (fn g d).1).length:=by rw[A.olen];omega
        exact .inr (.inl ⟨j,_,hj,List.getElem?_eq_getElem hol,by rw[e,look_zip _ n1 hj (List.getElem?_eq_getElem hol)]⟩)
       .rw[look_zip_not _ hkr]at e;by_cases hki:k∈fdist ids
        .exact .inr (.inr (.inl (by rw[e,look_dead _ _ _ hki])))
        .rw[q2a _ _ (by simpa using hki)]at e;exact .inr (.inr (.inr ⟨hkr,hki,e⟩))
     have hshA:=A.shf A.q h.nx (fn g d).1 (A.q+(A.R+R.R)) (h.nx+T) ρe ρ2 (λ_ _ h=>h) (λk hk=>r2n k (by show k<A.R+R.R;omega)) (by show h.nx+A.R<=h.nx+(A.R+R.R);omega)
     have hshR:=R.shf (A.q+A.R) (h.nx+A.R) (fn g d).2 (A.q+(A.R+R.R)) (h.nx+T) ρe ρ2 (λ_ _ h=>h) (λk hk=>by
      rw[show h.nx+A.R+k=h.nx+(A.R+k) by omega,show A.q+A.R+k=A.q+(A.R+k) by omega];exact r2n _ (by show A.R+k<A.R+R.R;omega)) (by show h.nx+A.R+R.R<=h.nx+(A.R+R.R);omega)
     have hshB:ShfB (A.q+(A.R+R.R)) (h.nx+T) ρe ρ2 (A.blks A.q (fn g d).1++R.blks (A.q+A.R) (fn g d).2) bs:=shfB_app (by rw[A.blen,A.blen]) hshA.2 hshR.2
     have hcg:∀p,(q1y (q3l A R (fn g d))).get (A.q+p)=((A.blks A.q (fn g d).1++R.blks (A.q+A.R) (fn g d).2)[p]?).getD .dead:=λp=>by
      rw[q2f];unfold q3l;rw[List.getElem?_append_right (by rw[A.olen];omega),A.olen,show A.q+p-A.q=p by omega]
     have hcr:∀j,j<A.q->(q1y (q3l A R (fn g d))).get j=((A.objs A.q (fn g d).1)[j]?).getD .dead:=λj hj=>by
      rw[q2f];unfold q3l;rw[List.getElem?_append_left (by rw[A.olen];exact hj)]
     have hnb:∀p so,bs[p]?=some so->∃so',(q1y (q3l A R (fn g d))).get (A.q+p)=so'/\OwE so so'/\∀L o,so'.fit (A.q+(A.R+R.R)) ρe L o->so.fit (h.nx+T) ρ2 L o:=λp so hso=>by
      have hlt:p<(A.blks A.q (fn g d).1++R.blks (A.q+A.R) (fn g d).2).length:=by
       have:=(List.getElem?_eq_some_iff.1 hso).1;rw[hbl]at this;rw[List.length_append,A.blen,R.blen];exact this
      obtain⟨so2,k1,k2,k3⟩:=hshB p _ (List.getElem?_eq_getElem hlt);rw[hso]at k1;simp only[Option.some.injEq]at k1;subst k1;exact⟨_,by rw[hcg,List.getElem?_eq_getElem hlt];rfl,k2,k3⟩
     have hno:∀j so,(A.objs h.nx (fn g d).1)[j]?=some so->∃so',(q1y (q3l A R (fn g d))).get j=so'/\OwE so so'/\∀L o,so'.fit (A.q+(A.R+R.R)) ρe L o->so.fit (h.nx+T) ρ2 L o:=λj so hso=>by
      have hjq:j<A.q:=by
       have:=(List.getElem?_eq_some_iff.1 hso).1;rw[A.olen]at this;exact this
      have hlt:j<(A.objs A.q (fn g d).1).length:=by rw[A.olen];exact hjq
      obtain⟨so2,k1,k2,k3⟩:=hshA.1 j _ (List.getElem?_eq_getElem hlt);rw[hso]at k1;simp only[Option.some.injEq]at k1;subst k1;exact⟨_,by rw[hcr j hjq,List.getElem?_eq_getElem hlt];rfl,k2,k3⟩
     have hrρ:∀j r,rs[j]?=some r->ρe j=ρ r/\j<A.q/\r<h.nx:=λj r hj=>by
      have hlt:=(List.getElem?_eq_some_iff.1 hj).1;refine⟨?_,by omega,hrn r (List.mem_of_getElem? hj)⟩;rw[hroot j (by omega)];exact hL j r (hsl j r hj)
     have hsrc:∀k,(h2.get k).own (ρ2 k)->(∃i,((q1y (q3l A R (fn g d))).get i).own (ρe i)/\ρ2 k=ρe i/\((∃p,k=h.nx+p/\i=A.q+p)\/(k<h.nx/\i<A.q/\rs[i]?=some k)))\/(k<h.nx/\k∉rs/\k∉fdist ids/\(h.get k).own (ρ k)/\ρ2 k=ρ k):=λk hk=>by
      rcases hget k with ⟨p,so,rfl,hp',hso',e⟩|⟨j,so,hj,hso',e⟩|e|⟨e1,e2,e⟩
      .left;obtain⟨so',k1,k2,_⟩:=hnb p so hso';rw[e,r2n p hp']at hk;exact⟨A.q+p,by rw[k1];exact(k2.1 _).1 hk,r2n p hp',.inl ⟨p,rfl,rfl⟩⟩
      .left;obtain⟨so',k1,k2,_⟩:=hno j so hso';obtain⟨z1,z2,z3⟩:=hrρ j k hj;rw[e,r2o k z3]at hk;exact⟨j,by rw[k1,z1];exact(k2.1 _).1 hk,by rw[r2o k z3,z1],.inr ⟨z3,z2,hj⟩⟩
      .rw[e]at hk;exact hk.elim
      .right;rw[e]at hk;have hlt:k<h.nx:=hm.lt k (SO.live_of hk);rw[r2o k hlt]at hk;exact⟨hlt,e1,e2,hk,r2o k hlt⟩
     have habs2:∀k a,h2.get k=.abs a->(∃i,(q1y (q3l A R (fn g d))).get i=.abs a/\ρ2 k=ρe i/\((∃p,k=h.nx+p/\i=A.q+p)\/(k<h.nx/\i<A.q/\rs[i]?=some k)))\/(k<h.nx/\k∉rs/\k∉fdist ids/\h.get k=.abs a/\ρ2 k=ρ k):=λk a hk=>by
      rcases hget k with ⟨p,so,rfl,hp',hso',e⟩|⟨j,so,hj,hso',e⟩|e|⟨e1,e2,e⟩
      .left;obtain⟨so',k1,k2,_⟩:=hnb p so hso';rw[e]at hk;exact⟨A.q+p,by rw[k1];exact(k2.2 a).1 hk,r2n p hp',.inl ⟨p,rfl,rfl⟩⟩
      .left;obtain⟨so',k1,k2,_⟩:=hno j so hso';obtain⟨z1,z2,z3⟩:=hrρ j k hj;rw[e]at hk;exact⟨j,by rw[k1];exact(k2.2 a).1 hk,by rw[r2o k z3,z1],.inr ⟨z3,z2,hj⟩⟩
      .rw[e]at hk;cases hk
      .right;rw[e]at hk;have hlt:k<h.nx:=hm.lt k (by rw[hk];rfl);exact⟨hlt,e1,e2,hk,r2o k hlt⟩
     have hsize:=hm.size;refine⟨_,_,ρ2,x,R.putOk _ _ _ (Tr.holds_bind hK),?_,hag,?_,?_,rfl⟩
     .show h.nx<=h.nx+(A.R+R.R);omega
     .exact {
       os:=hme.os.trans hm.os
       tape:=hme.tape.trans hm.tape
       output:=hme.output.trans hm.output
       size:=Nat.le_trans hm.size hme.size
       block:=λi hi hM=>by
        rw[hme.block i (by omega) λhf=>?_]
        .exact hm.block i hi hM
        .rcases hfM i hf with h1|h1
         .omega
         .exact hM h1
       lt:=λk hk=>by
        show k<h.nx+T;rcases hget k with ⟨p,so,rfl,hp',_,_⟩|⟨j,so,hj,_,_⟩|e|⟨_,_,e⟩
        .omega
        .have:=(hrρ j k hj).2.2;omega
        .have hk:(h2.get k).live=true:=hk;rw[e]at hk;cases hk
        .have hk:(h2.get k).live=true:=hk;rw[e]at hk;have:=hm.lt k hk;omega
       ob:=λk=>by
        show(h2.get k).fit (h.nx+T) ρ2 (ρ2 k) _;rcases hget k with ⟨p,so,rfl,hp',hso',e⟩|⟨j,so,hj,hso',e⟩|e|⟨e1,e2,e⟩
        .obtain⟨so',k1,_,k3⟩:=hnb p so hso';rw[e,r2n p hp'];have:=hme.ob (A.q+p);rw[k1,show(q1y (q3l A R (fn g d))).nx=A.q+(A.R+R.R)from hlenO]at this;exact k3 _ _ this
        .obtain⟨so',k1,_,k3⟩:=hno j so hso';obtain⟨z1,z2,z3⟩:=hrρ j k hj;rw[e,r2o k z3,<-z1];have:=hme.ob j;rw[k1,show(q1y (q3l A R (fn g d))).nx=A.q+(A.R+R.R)from hlenO]at this;exact k3 _ _ this
        .rw[e];trivial
        .rw[e];by_cases hlive:k<h.nx
         .rw[r2o k hlive];refine SO.fit_mono (by omega) hag (hm.ob_other λho=>?_);exact hme.block _ (hm.lt_heap ho) (hfk k e1 e2 ho)
         .have:h.get k=.dead:=by
           cases hg:h.get k with
           |dead=>rfl
           |_=>have:=hm.lt k (by rw[hg];rfl);omega
          rw[this];trivial
       ow:=λk hk=>by
        rcases hsrc k hk with ⟨i,s1,s2,_⟩|⟨_,_,_,s4,s5⟩
        .rw[s2];rcases hme.ow i s1 with h1|h1
         .exact .inl (by omega)
         .exact hfM _ h1
        .rw[s5];exact hm.ow k s4
       fz:=hme.fz
       sep:=λk hk=>by
        show ρe.mem (ρ2 k).blk=none;rcases hsrc k hk with ⟨i,s1,s2,_⟩|⟨_,s2,s3,s4,s5⟩
        .rw[s2];exact hme.sep i s1
        .rw[s5];cases hc:ρe.mem (ρ k).blk with
         |none=>rfl
         |some o=>
          have:=hme.old _ o hc (hm.lt_heap s4) (hfk k s2 s3 s4);rw[hlo]at this;have:ρ.mem (ρ k).blk=some o:=this;rw[hm.sep k s4]at this;cases this
       old:=λb o hb hlt hM=>by
        have h1:=hme.old b o hb (by omega) λhf=>by
         rcases hfM b hf with h1|h1
         .omega
         .exact hM h1
        rw[hlo]at h1;exact hm.old b o h1 hlt hM
       env:=hme.env
       ab:=by
        obtain⟨Se,hSe⟩:=hme.ab
        let c2:Nat->Nat->Prop:=λk i=>(∃p,k=h.nx+p/\i=A.q+p)\/(k<h.nx/\i<A.q/\rs[i]?=some k)
        have hu:∀k i i',c2 k i->c2 k i'->i=i':=λk i i' h1 h2=>by
         rcases h1 with ⟨p,rfl,rfl⟩|⟨z1,z2,z3⟩<;>rcases h2 with ⟨p',e,rfl⟩|⟨z1',z2',z3'⟩
         .omega
         .omega
         .omega
         .obtain⟨y1,y2⟩:=List.getElem?_eq_some_iff.1 z3;obtain⟨y3,y4⟩:=List.getElem?_eq_some_iff.1 z3';have hp:=List.pairwise_iff_getElem.1 n1;rcases Nat.lt_trichotomy i i' with hlt|he|hlt
          .exact absurd (y2.trans y4.symm) (hp i i' y1 y3 hlt)
          .exact he
          .exact absurd (y4.trans y2.symm) (hp i' i y3 y1 hlt)
        let S2:Nat->Nat->Prop:=λk b=>(∃i,c2 k i/\Se i b)\/((¬∃i,c2 k i)/\S k b)
        have hS2:∀k i,c2 k i->∀b,S2 k b↔Se i b:=λk i hc b=>⟨λh=>by
         rcases h with ⟨i',h1,h2⟩|⟨h1,_⟩
         .rw[hu k i i' hc h1];exact h2
         .exact absurd ⟨i,hc⟩ h1,λh=>.inl ⟨i,hc,h⟩⟩
        have hS3:∀k,k<h.nx->k∉rs->∀b,S2 k b↔S k b:=λk h1 h2 b=>⟨λh=>by
         rcases h with ⟨i',h3,_⟩|⟨_,h3⟩
         .rcases h3 with ⟨p,h3,_⟩|⟨_,_,h3⟩
          .omega
          .exact absurd (List.mem_of_getElem? h3) h2
         .exact h3,λh=>.inr ⟨λ⟨i,h3⟩=>by
          rcases h3 with ⟨p,h3,_⟩|⟨_,_,h3⟩
          .omega
          .exact h2 (List.mem_of_getElem? h3),h⟩⟩
        refine⟨S2,λk a hk=>?_⟩;rcases habs2 k a hk with ⟨i,s1,s2,s3⟩|⟨t1,t2,t3,t4,t5⟩
        .have hk2:=hS2 k i s3;have hk3:S2 k=Se i:=funext λb=>propext (hk2 b);rw[hk3];obtain⟨q1,q2⟩:=hSe i a s1;rw[s2];refine⟨q1,λb hb=>?_⟩;obtain⟨r1,r2,r3,r4,r5⟩:=q2 b hb;refine⟨?_,r2,r3,λk' hk'=>?_,λk' a' hk' hb'=>?_⟩
         .rcases r1 with h1|h1
          .exact .inl (by omega)
          .exact hfM _ h1
         .rcases hsrc k' hk' with ⟨i',s1',s2',_⟩|⟨_,t2',t3',t4',t5'⟩
          .rw[s2'];exact r4 i' s1'
          .rw[t5'];rintro rfl;rcases r1 with h1|h1
           .have:=hm.lt_heap t4';omega
           .exact hfk k' t2' t3' t4' h1
         .rcases habs2 k' a' hk' with ⟨i',s1',s2',s3'⟩|⟨_,t2',t3',t4',t5'⟩
          .have hb':=(hS2 k' i' s3' b).1 hb';have hii:=r5 i' a' s1' hb';subst hii;rcases s3 with ⟨p,rfl,hp1⟩|⟨z1,z2,z3⟩<;>rcases s3' with ⟨p',rfl,hp2⟩|⟨z1',z2',z3'⟩
           .omega
           .omega
           .omega
           .rw[z3]at z3';simpa using z3'
          .exfalso;have hb':=(hS3 k' ‹_› t2' b).1 hb';rcases r1 with h1|h1
           .have:=hS.lt t4' hb';omega
           .exact hfa k' a' b t2' t3' t4' hb' h1
        .have hk3:S2 k=S k:=funext λb=>propext (hS3 k t1 t2 b);rw[hk3];obtain⟨q1,q2⟩:=hS k a t4;rw[t5];refine⟨Env.rep_cl _ _ _ _ _ _ _ (λb hb=>?_) (λb o hb _=>hmemle b o hb) q1,λb hb=>?_⟩
         .rcases hb with rfl|hb
          .exact hme.block _ (hm.lt_heap (q6c t4)) (hfk k t2 t3 (q6c t4))
          .exact hme.block _ (hS.lt t4 hb) (hfa k a b t2 t3 t4 hb)
         .obtain⟨r1,r2,r3,r4,r5⟩:=q2 b hb;have hnf:=hfa k a b t2 t3 t4 hb;refine⟨r1,?_,Nat.lt_of_lt_of_le r3 hme.size,λk' hk'=>?_,λk' a' hk' hb'=>?_⟩
          .show ρe.mem b=none;cases hc:ρe.mem b with
           |none=>rfl
           |some o=>
            have:=hme.old _ o hc r3 hnf;rw[hlo]at this;have:ρ.mem b=some o:=this;rw[r2]at this;cases this
          .rcases hsrc k' hk' with ⟨i',s1',s2',_⟩|⟨_,t2',t3',t4',t5'⟩
           .rw[s2'];rintro rfl;rcases hme.ow i' s1' with h1|h1
            .omega
            .exact hnf h1
           .rw[t5'];exact r4 k' t4'
          .rcases habs2 k' a' hk' with ⟨i',s1',s2',s3'⟩|⟨_,t2',t3',t4',t5'⟩
           .exfalso;have hb':=(hS2 k' i' s3' b).1 hb';rcases((hSe i' a' s1').2 b hb').1 with h1|h1
            .omega
            .exact hnf h1
           .exact r5 k' a' t4' ((hS3 k' ‹_› t2' b).1 hb')
       inj:=λk k' hk hk' he=>by
        rcases hsrc k hk with ⟨i,s1,s2,s3⟩|⟨t1,t2,t3,t4,t5⟩<;>rcases hsrc k' hk' with ⟨i',s1',s2',s3'⟩|⟨t1',t2',t3',t4',t5'⟩
        .rw[s2,s2']at he;have hii:=hme.inj i i' s1 s1' he;subst hii;rcases s3 with ⟨p,rfl,hp1⟩|⟨z1,z2,z3⟩<;>rcases s3' with ⟨p',rfl,hp2⟩|⟨z1',z2',z3'⟩
         .omega
         .omega
         .omega
         .rw[z3]at z3';simpa using z3'
        .rw[s2,t5']at he;exfalso;rcases hme.ow i s1 with h1|h1
         .rw[he]at h1;have:=hm.lt_heap t4';omega
         .rw[he]at h1;exact hfk k' t2' t3' t4' h1
        .rw[t5,s2']at he;exfalso;rcases hme.ow i' s1' with h1|h1
         .rw[<-he]at h1;have:=hm.lt_heap t4;omega
         .rw[<-he]at h1;exact hfk k t2 t3 t4 h1
        .rw[t5,t5']at he;exact hm.inj k k' t4 t4' he}
     .exact hshR.1 x hx
    .exact hK.elim
   .exact hK.elim
  .exact hK.elim
 .exact hK.elim
theorem conT_b:ConB (conT A D R fn pre):=λargs h=>by
 unfold conT;split
 .split
  .split
   .split
    .refine q4h (Tr.each_bind (p:=λy:SV×SH=>y.2.b=h.b) (λy=>?_) _);show h.b=h.b;rfl
    .trivial
   .trivial
  .trivial
 .trivial
def bconT(A:TA κ)(D:DA γ)(R:TR δ)(fn:κ->γ->κ×δ)(pre:κ->γ->List Prop):BCon:=⟨conT A D R fn pre,conT_b⟩
theorem q48(hp:FnT P f A D R fn pre):FnOk P f (bconT A D R fn pre).g:=conT_ok hp
def fconT(A:TA κ)(D:DA γ)(R:TR δ)(fn:κ->γ->κ×δ)(pre:κ->γ->List Prop):BCon:=⟨frzC (conT A D R fn pre),λargs h=>by
 have hb:=(frzA_b args h).1;refine q4h ?_;have:=conT_b (A:=A) (D:=D) (R:=R) (fn:=fn) (pre:=pre) (frzA h args).1 (frzA h args).2.1;rw[hb]at this;exact this⟩
theorem fconT_ok(hp:FnT P f A D R fn pre):FnOk P f (fconT A D R fn pre).g:=frzC_ok (conT_ok hp)
end
end Go.Sx

namespace Go.Sx
open Go.RowKit
variable[Env]
variable{κ:Type}
def TR.agg(C:CT κ):TR κ where
 R:=C.R
 val b g:=.agg (C.cells b g)
 blks b g:=C.blks b g
 read h s:=match s.agg? with
  |some xs=>C.read h xs
  |none=>none
 put b g:=(C.put b g).bind λy=>.ret (.agg y.1,y.2)
 blen b g:=C.blen b g
 ilen h s g ps ids fzs hr:=by
  split at hr
  .exact C.ilen _ _ _ _ _ _ hr
  .cases hr
 ok N k0 h s g ps ids fzs hr hp:=by
  split at hr
  .rename_i xs hs;have hC:=C.ok N k0 h xs g ps ids fzs hr hp;refine⟨hC.blk,λn m ρ ρ' x hn hz hf=>?_⟩;obtain⟨y,r,rfl,hy,hr'⟩:=q03 hf;obtain⟨l,rfl,hl⟩:=SV.agg_fit hs hy;exact⟨⟨l,rfl,hC.fit n m ρ ρ' l hn hz hl⟩,by cases q0b hr';trivial⟩
  .cases hr
 shf b b' g n m ρ ρ' hm hk hb:=by
  obtain⟨s1,s2⟩:=C.shf b b' g n m ρ ρ' hm hk hb
  exact⟨λx hf=>by
   obtain⟨l,rfl,hl⟩:=hf;exact⟨l,rfl,s1 l hl⟩,s2⟩
 putOk b g K h:=C.putOk b g _ (Tr.holds_bind h)
end Go.Sx

namespace Go.Lp
open Go.RowKit Go.Sx
def splG{α:Type}[DecidableEq α](c:α):List α->List (List α)
 | []=>[[]]
 |a::l=>if a=c then []::splG c l else match splG c l with
  | []=>[[a]]
  |x::xs=>(a::x)::xs
def joiG{α:Type}(c:α):List (List α)->List α
 | []=>[]
 |x::xs=>x++(xs.map (c::·)).flatten
theorem splG_ne{α:Type}[DecidableEq α](c:α)(l:List α):splG c l≠[]:=by
 cases l with
 |nil=>simp[splG]
 |cons a l=>
  unfold splG;split
  .simp
  .split<;>simp
theorem qbl{α:Type}[DecidableEq α](c:α)(l:List α):splG c (c::l)=[]::splG c l:=by
 rw[splG,if_pos rfl]
theorem q94{α:Type}[DecidableEq α]{c a:α}(h:a≠c){l x:List α}{xs:List (List α)}(hl:splG c l=x::xs):splG c (a::l)=(a::x)::xs:=by
 rw[splG,if_neg h,hl]
theorem splG_pre{α:Type}[DecidableEq α]{c:α}:∀{p:List α},(∀a∈p,a≠c)->∀{l x:List α}{xs:List (List α)},splG c l=x::xs->splG c (p++l)=(p++x)::xs
 | [],_,_,_,_,hl=>hl
 |a::p,h,l,x,xs,hl=>q94 (h a (List.mem_cons_self ..)) (splG_pre (λb hb=>h b (List.mem_cons_of_mem _ hb)) hl)
theorem q93{α:Type}[DecidableEq α]{c:α}{p:List α}(h:∀a∈p,a≠c):splG c p=[p]:=by
 have:=splG_pre h (l:=[]) (x:=[]) (xs:=[]) rfl
 rwa [List.append_nil]at this
theorem qbm{α:Type}[DecidableEq α]{c:α}{p:List α}(h:∀a∈p,a≠c)(l:List α):splG c (p++c::l)=p::splG c l:=by
 have:=splG_pre h (qbl c l)
 rwa [List.append_nil]at this
theorem q9s{α:Type}[DecidableEq α](c:α):∀l:List α,joiG c (splG c l)=l
 | []=>rfl
 |a::l=>by
  have ih:=q9s c l;cases hs:splG c l with
  |nil=>exact absurd hs (splG_ne c l)
  |cons x xs=>
   rw[hs]at ih;by_cases h:a=c
   .subst h;rw[qbl,hs];simp only[joiG,List.map_cons,List.flatten_cons,List.nil_append]at ih ⊢;rw[List.cons_append,ih]
   .rw[q94 h hs];simp only[joiG,List.cons_append]at ih ⊢;rw[ih]
theorem splG_joiG{α:Type}[DecidableEq α](c:α):∀(xs:List (List α)),xs≠[]->(∀x∈xs,∀a∈x,a≠c)->splG c (joiG c xs)=xs
 | [],h,_=>absurd rfl h
 | [x],_,h=>by
  have:=q93 (h x (List.mem_cons_self ..));simpa [joiG]using this
 |x::y::r,_,h=>by
  have ih:=splG_joiG c (y::r) (by simp) λz hz=>h z (List.mem_cons_of_mem _ hz);have e:joiG c (x::y::r)=x++c::joiG c (y::r):=by simp[joiG]
  rw[e,qbm (h x (List.mem_cons_self ..)),ih]
theorem splG_map{α β:Type}[DecidableEq α][DecidableEq β](f:α->β)(hf:∀a b,f a=f b->a=b)(c:α):∀l:List α,(splG c l).map (List.map f)=splG (f c) (l.map f)
 | []=>rfl
 |a::l=>by
  have ih:=splG_map f hf c l;cases hs:splG c l with
  |nil=>exact absurd hs (splG_ne c l)
  |cons x xs=>
   rw[hs]at ih;by_cases h:a=c
   .subst h;rw[qbl,hs,List.map_cons,ih,List.map_cons,qbl];rfl
   .rw[q94 h hs];exact(q94 (c:=f c) (a:=f a) (λe=>h (hf _ _ e)) (x:=x.map f) (xs:=xs.map (List.map f)) ih.symm).symm
theorem joiG_map{α β:Type}(f:α->β)(c:α):∀xs:List (List α),(joiG c xs).map f=joiG (f c) (xs.map (List.map f))
 | []=>rfl
 |x::xs=>by
  unfold joiG;rw[List.map_append,List.map_cons];congr 1
  induction xs with
  |nil=>rfl
  |cons y ys ih=>simp only[List.map_cons,List.flatten_cons,List.map_append,ih]
def sumL{α:Type}:List (List α)->Nat
 | []=>0
 |x::xs=>x.length+1+sumL xs
theorem joiG_len{α:Type}(c:α):∀xs:List (List α),xs≠[]->(joiG c xs).length+1=sumL xs
 | [],h=>absurd rfl h
 | [x],_=>by simp[joiG,sumL]
 |x::y::r,_=>by
  have ih:=joiG_len c (y::r) (by simp);have e:joiG c (x::y::r)=x++c::joiG c (y::r):=by simp[joiG]
  rw[e,List.length_append,List.length_cons,sumL];omega
theorem splG_len{α:Type}[DecidableEq α](c:α)(l:List α):sumL (splG c l)=l.length+1:=by
 have:=joiG_len c (splG c l) (splG_ne c l);rw[q9s]at this;exact this.symm
theorem sumL_mem{α:Type}:∀{xs:List (List α)}{x:List α},x∈xs->x.length+1<=sumL xs
 | [],_,h=>by cases h
 |y::ys,x,h=>by
  rw[sumL];rcases List.mem_cons.1 h with rfl|h
  .omega
  .have:=sumL_mem h;omega
theorem sumL_len{α:Type}:∀xs:List (List α),xs.length<=sumL xs
 | []=>Nat.le_refl _
 |x::xs=>by have:=sumL_len xs;rw[sumL,List.length_cons];omega
theorem index_one(c:UInt8):∀l:List UInt8,(Lib.index l [c]=-1/\∀a∈l,a≠c)\/∃p r,l=p++c::r/\(∀a∈p,a≠c)/\Lib.index l [c]=(p.length:Int)
 | []=>.inl ⟨rfl,λa h=>by cases h⟩
 |b::l=>by
  by_cases h:b=c
  .subst h;refine .inr ⟨[],l,rfl,λa h=>(by cases h),?_⟩;rw[Lib.index];simp[List.isPrefixOf]
  .have hp:([c]:List UInt8).isPrefixOf (b::l)=false:=by simp[List.isPrefixOf,Ne.symm h]
   have hix:Lib.index (b::l) [c]=if Lib.index l [c]==-1 then -1 else Lib.index l [c]+1:=by rw[Lib.index,hp];simp
   rcases index_one c l with ⟨h1,h2⟩|⟨p,r,h1,h2,h3⟩
   .refine .inl ⟨by rw[hix,h1];rfl,λa ha=>?_⟩;rcases List.mem_cons.1 ha with rfl|ha
    .exact h
    .exact h2 a ha
   .refine .inr ⟨b::p,r,by rw[h1];rfl,λa ha=>?_,?_⟩
    .rcases List.mem_cons.1 ha with rfl|ha
     .exact h
     .exact h2 a ha
    .rw[hix,h3,if_neg (by simp),List.length_cons];omega
theorem splitK_one(c:UInt8):∀(k:Nat)(l:List UInt8),l.count c<=k->Lib.splitK [c] 0 k l=splG c l
 |0,l,h=>by
  rw[Lib.splitK,q93];rintro a ha rfl;have:=List.count_pos_iff.2 ha;omega
 |k+1,l,h=>by
  rw[Lib.splitK];rcases index_one c l with ⟨h1,h2⟩|⟨p,r,h1,h2,h3⟩
  .rw[h1,q93 h2];rfl
  .rw[h3,if_neg (by simp)];have e1:((p.length:Int)).toNat=p.length:=by omega
   subst h1
   have hc:r.count c<=k:=by
    rw[List.count_append,List.count_cons_self]at h;omega
   rw[e1,Nat.add_zero,List.take_left,show p.length+([c]:List UInt8).length=p.length+1 from rfl,<-List.drop_drop,List.drop_left,List.drop_one,List.tail_cons,qbm h2,splitK_one c k r hc]
theorem join_joiG(c:UInt8):∀xs:List (List UInt8),Lib.join xs [c]=joiG c xs
 | []=>rfl
 |x::xs=>by
  rw[Lib.join_cons];rfl
def splS(c:Int)(s:ByteArray):List ByteArray:=(splG c (bts s)).map strOf
def joiS(c:Int)(xs:List ByteArray):ByteArray:=strOf (joiG c (xs.map bts))
theorem u8_inj:∀a b:UInt8,(a.toNat:Int)=(b.toNat:Int)->a=b:=λa b h=>UInt8.toNat_inj.1 (by omega)
theorem q9h(xs:List ByteArray):(xs.map bts).map strOf=xs:=by
 rw[List.map_map]
 conv=>rhs;rw[<-List.map_id xs]
 exact List.map_congr_left λx _=>q1q x
theorem splitB_one(c:UInt8)(k:Nat)(s:ByteArray)(h:s.data.toList.count c<=k):Lib.splitB ⟨#[c]⟩ 0 k s=splS (c.toNat:Int) s:=by
 have h1:=Lib.splitB_data ⟨#[c]⟩ 0 k s;rw[show(ByteArray.mk #[c]).data.toList=[c]from rfl,splitK_one c k _ h]at h1;have h2:=congrArg (List.map (List.map λx:UInt8=>(x.toNat:Int))) h1;rw[splG_map _ u8_inj,List.map_map]at h2;unfold splS;show _=(splG (c.toNat:Int) (s.data.toList.map λx=>(x.toNat:Int))).map strOf;rw[<-h2];exact(q9h _).symm
theorem join_one'(c:UInt8)(xs:List ByteArray):(⟨(Lib.join (xs.map (·.data.toList)) [c]).toArray⟩:ByteArray)=joiS (c.toNat:Int) xs:=by
 have h:=joiG_map (λx:UInt8=>(x.toNat:Int)) c (xs.map (·.data.toList));rw[List.map_map]at h;unfold joiS;have e:(xs.map bts)=xs.map (List.map (λx:UInt8=>(x.toNat:Int))∘(·.data.toList)):=rfl;rw[e,<-h,join_joiG];exact(q1q ⟨(joiG c (xs.map (·.data.toList))).toArray⟩).symm
theorem q6k{c:Int}(hc:0<=c/\c<=255)(xs:List ByteArray):bts (joiS c xs)=joiG c (xs.map bts):=by
 refine q3m λa ha=>?_;cases xs with
 |nil=>cases ha
 |cons x xs=>
  rcases List.mem_append.1 ha with ha|ha
  .exact q1t _ a ha
  .obtain⟨l,hl,ha⟩:=List.mem_flatten.1 ha;obtain⟨y,hy,rfl⟩:=List.mem_map.1 hl;obtain⟨z,hz,rfl⟩:=List.mem_map.1 hy;rcases List.mem_cons.1 ha with rfl|ha
   .exact hc
   .exact q1t _ a ha
theorem splG_range{c:Int}(s:ByteArray):∀x∈splG c (bts s),∀a∈x,0<=a/\a<=255:=by
 intro x hx a ha;have h:=q9s c (bts s);refine q1t s a ?_;rw[<-h];cases hs:splG c (bts s)with
 |nil=>exact absurd hs (splG_ne _ _)
 |cons y ys=>
  rw[hs]at hx;refine List.mem_append.2 ?_;rcases List.mem_cons.1 hx with rfl|hx
  .exact .inl ha
  .exact .inr (List.mem_flatten.2 ⟨c::x,List.mem_map.2 ⟨x,hx,rfl⟩,List.mem_cons_of_mem _ ha⟩)
theorem bts_splS(c:Int)(s:ByteArray):(splS c s).map bts=splG c (bts s):=by
 unfold splS;rw[List.map_map]
 conv=>rhs;rw[<-List.map_id (splG c (bts s))]
 exact List.map_congr_left λx hx=>q3m (splG_range s x hx)
theorem q9r(c:Int)(s:ByteArray):joiS c (splS c s)=s:=by
 unfold joiS;rw[bts_splS,q9s,q1q]
theorem q4v{c:Int}(hc:0<=c/\c<=255){xs:List ByteArray}(hne:xs≠[])(h:∀x∈xs,∀a∈bts x,a≠c):splS c (joiS c xs)=xs:=by
 unfold splS
 rw[q6k hc,splG_joiG c (xs.map bts) (by simpa using hne) (λx hx=>by
  obtain⟨y,hy,rfl⟩:=List.mem_map.1 hx;exact h y hy)]
 exact q9h xs
theorem splS_ne(c:Int)(s:ByteArray):splS c s≠[]:=by
 unfold splS;simpa using splG_ne c (bts s)
def sumS(xs:List ByteArray):Nat:=sumL (xs.map bts)
theorem sumS_cons(x:ByteArray)(xs:List ByteArray):sumS (x::xs)=x.size+1+sumS xs:=by
 show(bts x).length+1+sumL (xs.map bts)=_;rw[q06];rfl
theorem sumS_nil:sumS []=0:=rfl
theorem joiS_size{c:Int}{xs:List ByteArray}(h:xs≠[]):(joiS c xs).size+1=sumS xs:=by
 unfold joiS;rw[q1b];exact joiG_len c _ (by simpa using h)
theorem q4f(c:Int)(xs:List ByteArray):(joiS c xs).size<=sumS xs:=by
 cases xs with
 |nil=>exact Nat.zero_le _
 |cons x xs=>have:=joiS_size (c:=c) (xs:=x::xs) (by simp);omega
theorem splS_sum(c:Int)(s:ByteArray):sumS (splS c s)=s.size+1:=by
 unfold sumS;rw[bts_splS,splG_len,q06]
theorem sumS_mem{xs:List ByteArray}{x:ByteArray}(h:x∈xs):x.size+1<=sumS xs:=by
 have:=sumL_mem (List.mem_map.2 ⟨x,h,rfl⟩:bts x∈xs.map bts);rw[q06]at this;exact this
theorem sumS_len(xs:List ByteArray):xs.length<=sumS xs:=by
 have:=sumL_len (xs.map bts);rw[List.length_map]at this;exact this
theorem q7r{c:Int}{s x:ByteArray}(h:x∈splS c s):x.size<=s.size:=by
 have:=sumS_mem h;rw[splS_sum]at this;omega
theorem q59(c:Int)(s:ByteArray):(splS c s).length<=s.size+1:=by
 have:=sumS_len (splS c s)
 rwa [splS_sum]at this
theorem sumS_le{xs:List ByteArray}{n:Nat}(h:∀x∈xs,x.size<=n):sumS xs<=xs.length*(n+1):=by
 induction xs with
 |nil=>exact Nat.zero_le _
 |cons x xs ih=>
  rw[sumS_cons,List.length_cons,Nat.add_mul,Nat.one_mul];have:=h x (List.mem_cons_self ..);have:=ih λy hy=>h y (List.mem_cons_of_mem _ hy);omega
end Go.Lp

namespace Go.Lp
open Go.Lib Go.Sx
def sc(c:Nat):Prop:=c<55296\/(57344<=c/\c<=1114111)
def encL(c:Nat):List UInt8:=(Utf8.encode (c:Int)).data.toList
theorem sc_valid{c:Nat}(h:sc c):Utf8.valid (c:Int)=true:=by
 unfold Utf8.valid;simp only[Bool.or_eq_true,Bool.and_eq_true,decide_eq_true_eq];rcases h with h|h<;>omega
set_option maxRecDepth 100000 in
theorem qaj{c:Nat}(h:sc c):
  (c<128/\encL c=[UInt8.ofNat c])\/(128<=c/\c<2048/\encL c=[UInt8.ofNat (192+c/64),UInt8.ofNat (128+c%64)])\/
  (2048<=c/\c<65536/\encL c=[UInt8.ofNat (224+c/4096),UInt8.ofNat (128+c/64%64),UInt8.ofNat (128+c%64)])\/
  (65536<=c/\c<=1114111/\encL c=[UInt8.ofNat (240+c/262144),UInt8.ofNat (128+c/4096%64),UInt8.ofNat (128+c/64%64),UInt8.ofNat (128+c%64)]):=by
 unfold encL Utf8.encode;rw[sc_valid h];simp only[if_true,Int.toNat_natCast];have hc:c<=1114111:=by rcases h with h|h<;>omega
 by_cases h1:c<128
 .left;exact⟨h1,by rw[if_pos h1]⟩
 by_cases h2:c<2048
 .right;left;exact⟨by omega,h2,by rw[if_neg h1,if_pos h2]⟩
 by_cases h3:c<65536
 .right;right;left;exact⟨by omega,h3,by rw[if_neg h1,if_neg h2,if_pos h3]⟩
 .right;right;right;exact⟨by omega,hc,by rw[if_neg h1,if_neg h2,if_neg h3]⟩
theorem encL_len{c:Nat}(h:sc c):1<=(encL c).length/\(encL c).length<=4:=by
 rcases qaj h with ⟨_,e⟩|⟨_,_,e⟩|⟨_,_,e⟩|⟨_,_,e⟩<;>rw[e]<;>simp
theorem encL_ne{c:Nat}(h:sc c):encL c≠[]:=by
 intro e;have:=(encL_len h).1;rw[e]at this;simp at this
theorem q1w{n:Nat}(h:n<256):(UInt8.ofNat n).toNat=n:=by simp;omega
theorem decode_enc{c:Nat}(h:sc c)(b:List UInt8):decodeL (encL c++b)=(c,(encL c).length):=by
 rw[decodeL_N];rcases qaj h with ⟨h1,e⟩|⟨h1,h2,e⟩|⟨h1,h2,e⟩|⟨h1,h2,e⟩
 .rw[e];simp only[List.cons_append,List.nil_append,List.getD_cons_zero,List.length_cons,List.length_nil];rw[q1w (by omega)];unfold decodeN;rw[if_pos h1]
 .rw[e];simp only[List.cons_append,List.nil_append,List.getD_cons_zero,List.getD_cons_succ,List.length_cons,List.length_nil];rw[q1w (by omega),q1w (by omega)];unfold decodeN;have e1:(192+c/64)%32*64+(128+c%64)%64=c:=by omega
  rw[if_neg (by omega),if_pos (by refine⟨by omega,by omega,by omega⟩),e1,if_pos (by omega)]
 .rw[e];simp only[List.cons_append,List.nil_append,List.getD_cons_zero,List.getD_cons_succ,List.length_cons,List.length_nil];rw[q1w (by omega),q1w (by omega),q1w (by omega)];have e1:(224+c/4096)%16*4096+(128+c/64%64)%64*64+(128+c%64)%64=c:=by omega
  unfold decodeN;rw[if_neg (by omega),if_neg (by omega),if_pos (by refine⟨by omega,⟨by omega,by omega⟩,by omega,by omega⟩),if_pos]
  .rw[e1]
  .rw[e1];refine⟨by omega,?_⟩;rcases h with h|h
   .exact .inl h
   .exact .inr h
 .rw[e];simp only[List.cons_append,List.nil_append,List.getD_cons_zero,List.getD_cons_succ,List.length_cons,List.length_nil];rw[q1w (by omega),q1w (by omega),q1w (by omega),q1w (by omega)];have e1:(240+c/262144)%8*262144+(128+c/4096%64)%64*4096+(128+c/64%64)%64*64+(128+c%64)%64=c:=by omega
  unfold decodeN;rw[if_neg (by omega),if_neg (by omega),if_neg (by omega),if_pos (by refine⟨by omega,⟨by omega,by omega⟩,⟨by omega,by omega⟩,by omega,by omega⟩),if_pos]
  .rw[e1]
  .rw[e1];exact⟨by omega,.inr ⟨by omega,by omega⟩⟩
def rsA:Nat->List UInt8->List (Nat×Nat)
 |0,_=>[]
 |n+1,l=>if l=[]then []else decodeL l::rsA n (l.drop (decodeL l).2)
def rsL(l:List UInt8):List (Nat×Nat):=rsA l.length l
theorem rsA_nil:∀n,rsA n []=[]
 |0=>rfl
 |_+1=>by simp[rsA]
theorem rsA_fuel:∀(n m:Nat)(l:List UInt8),l.length<=n->l.length<=m->rsA n l=rsA m l
 |0,m,l,hn,_=>by
  have:l=[]:=List.eq_nil_of_length_eq_zero (by omega);subst this;rw[rsA_nil,rsA_nil]
 |n+1,0,l,_,hm=>by
  have:l=[]:=List.eq_nil_of_length_eq_zero (by omega);subst this;rw[rsA_nil,rsA_nil]
 |n+1,m+1,l,hn,hm=>by
  unfold rsA;by_cases hne:l=[]
  .simp[hne]
  .have hw:=decodeL_width l;have hl:0<l.length:=List.length_pos_iff.2 hne;rw[if_neg hne,if_neg hne,rsA_fuel n m (l.drop (decodeL l).2) (by rw[List.length_drop];omega) (by rw[List.length_drop];omega)]
theorem rsL_step(l:List UInt8)(hne:l≠[]):rsL l=decodeL l::rsL (l.drop (decodeL l).2):=by
 have hl:0<l.length:=List.length_pos_iff.2 hne;have hw:=decodeL_width l;obtain⟨n,hn⟩:∃n,l.length=n+1:=⟨l.length-1,by omega⟩;unfold rsL;rw[hn];show(if l=[]then []else _)=_;rw[if_neg hne,rsA_fuel n (l.drop (decodeL l).2).length _ (by rw[List.length_drop];omega) (Nat.le_refl _)]
def rwd(c:Nat):Nat×Nat:=(c,(encL c).length)
theorem rsL_enc{c:Nat}(h:sc c)(b:List UInt8):rsL (encL c++b)=rwd c::rsL b:=by
 rw[rsL_step _ (by intro e;exact encL_ne h (List.append_eq_nil_iff.1 e).1),decode_enc h];simp[rwd]
end Go.Lp

namespace Go.Lp
open Go.Lib Go.Sx
variable[Env]
theorem toL_len(s:ByteArray):s.data.toList.length=s.size:=(Lib.size_eq s).symm
theorem get_toL(s:ByteArray)(k:Nat):s.get! k=s.data.toList.getD k 0:=by
 show s.data[k]! =_;rw[List.getD_eq_getElem?_getD,Array.getElem?_toList];by_cases h:k<s.data.size
 .rw[getElem!_pos s.data k h,Array.getElem?_eq_getElem h];rfl
 .rw[getElem!_neg s.data k h,Array.getElem?_eq_none (by omega)];rfl
theorem dec_toL(s:ByteArray)(p:Nat):Utf8.decode s p=decodeL (s.data.toList.drop p):=(decodeL_drop s p).symm
theorem dec_end(s:ByteArray)(p:Nat)(h:p<s.size):p+(Utf8.decode s p).2<=s.size:=by
 have h1:=decodeL_le (s.data.toList.drop p) (by intro e;have:=congrArg List.length e;simp only[List.length_drop,toL_len,List.length_nil]at this;omega);rw[dec_toL];simp only[List.length_drop,toL_len]at h1;omega
theorem rs_at(s:ByteArray)(p:Nat)(h:p<s.size):rsL (s.data.toList.drop p)=Utf8.decode s p::rsL (s.data.toList.drop (p+(Utf8.decode s p).2)):=by
 rw[rsL_step _ (by intro e;have:=congrArg List.length e;simp only[List.length_drop,toL_len,List.length_nil]at this;omega),<-dec_toL,List.drop_drop]
theorem rs_end(s:ByteArray)(p:Nat)(h:s.size<=p):rsL (s.data.toList.drop p)=[]:=by
 rw[List.drop_eq_nil_of_le (by rw[toL_len];exact h)];rfl
section
variable{γ β C:Type}
def txR(x:Nat)(tx:C->ByteArray)(step:C->β->Nat->Nat×Nat->Ex×β)(adv:Bool)(mk:Nat->C->β->γ)(p:Nat)(c:C)(b:β):Ex×γ:=
 if p<(tx c).size then
  match step c b p (Utf8.decode (tx c) p)with
  |(.normal,b')=>(.normal,mk (p+(Utf8.decode (tx c) p).2) c b')
  |(e,b')=>(e,mk (bif adv then p+(Utf8.decode (tx c) p).2 else p) c b')
 else(.exit x,mk p c b)
def scanT(x:Nat)(adv:Bool)(step:β->Nat->Nat×Nat->Ex×β):Nat->List (Nat×Nat)->β->Ex×Nat×β
 |p,[],b=>(.exit x,p,b)
 |p,d::l,b=>match step b p d with
  |(.normal,b')=>scanT x adv step (p+d.2) l b'
  |(e,b')=>(e,(bif adv then p+d.2 else p),b')
def txI(tx:C->ByteArray)(P:C->β->Nat->Prop)(mk:Nat->C->β->γ)(g:γ):List Prop:=[∃p c b,g=mk p c b/\p<=(tx c).size/\P c b p]
variable{x:Nat}{tx:C->ByteArray}{step:C->β->Nat->Nat×Nat->Ex×β}{adv:Bool}{mk:Nat->C->β->γ}{P:C->β->Nat->Prop}{F:γ->Ex×γ}{m:γ->Nat}
def txK(tx:C->ByteArray)(step:C->β->Nat->Nat×Nat->Ex×β)(P:C->β->Nat->Prop):Prop:=∀c b p,P c b p->p<(tx c).size->(step c b p (Utf8.decode (tx c) p)).1=.normal->P c (step c b p (Utf8.decode (tx c) p)).2 (p+(Utf8.decode (tx c) p).2)
theorem tx_goes(hm:∀p c b,m (mk p c b)=(tx c).size-p)(hF:∀p c b,p<=(tx c).size->P c b p->F (mk p c b)=txR x tx step adv mk p c b)(hP:txK tx step P):Goes F m λg=>allP (txI tx P mk g):=by
 intro g hi hn;obtain⟨p,c,b,rfl,h1,h2⟩:=hi _ (List.mem_cons_self ..);rw[hF p c b h1 h2]at hn ⊢;unfold txR at hn ⊢;by_cases hlt:p<(tx c).size
 .rw[if_pos hlt]at hn ⊢;have hp:=hP c b p h2 hlt;have he:=dec_end (tx c) p hlt;have hw:=width_pos (tx c) p;generalize step c b p (Utf8.decode (tx c) p)=s at hn hp ⊢;obtain⟨e,b'⟩:=s;cases e with
  |normal=>
   refine⟨λq hq=>?_,?_⟩
   .simp only[txI,List.mem_singleton]at hq;subst hq;exact⟨_,c,b',rfl,he,hp rfl⟩
   .rw[hm,hm];omega
  |_=>cases hn
 .rw[if_neg hlt]at hn;cases hn
theorem tx_run(hm:∀p c b,m (mk p c b)=(tx c).size-p)(hF:∀p c b,p<=(tx c).size->P c b p->F (mk p c b)=txR x tx step adv mk p c b)(hP:txK tx step P):∀(n p:Nat)(c:C)(b:β),p<=(tx c).size->P c b p->(tx c).size-p<=n->
  loopF F m (mk p c b)=((scanT x adv (step c) p (rsL ((tx c).data.toList.drop p)) b).1,mk (scanT x adv (step c) p (rsL ((tx c).data.toList.drop p)) b).2.1 c (scanT x adv (step c) p (rsL ((tx c).data.toList.drop p)) b).2.2):=by
 have hg:=tx_goes (x:=x) (adv:=adv) hm hF hP
 have hI:∀p c b,p<=(tx c).size->P c b p->allP (txI tx P mk (mk p c b)):=λp c b h1 h2 q hq=>by
  simp only[txI,List.mem_singleton]at hq;subst hq;exact⟨p,c,b,rfl,h1,h2⟩
 intro n
 induction n with
 |zero=>
  intro p c b h1 h2 h3;have hr:=hF p c b h1 h2;unfold txR at hr;rw[if_neg (by omega)]at hr;rw[q5t (by rw[hr];simp),hr,rs_end _ _ (by omega)];rfl
 |succ n ih=>
  intro p c b h1 h2 h3;have hr:=hF p c b h1 h2;unfold txR at hr;by_cases hlt:p<(tx c).size
  .rw[if_pos hlt]at hr;have hp:=hP c b p h2 hlt;have he:=dec_end (tx c) p hlt;have hw:=width_pos (tx c) p;rw[rs_at _ _ hlt];simp only[scanT];generalize step c b p (Utf8.decode (tx c) p)=s at hr hp ⊢;obtain⟨e,b'⟩:=s;cases e with
   |normal=>
    rw[q7x hg (hI p c b h1 h2) hr];exact ih _ c b' he (hp rfl) (by omega)
   |_=>rw[q5t (by rw[hr];simp),hr]
  .rw[if_neg hlt]at hr;rw[q5t (by rw[hr];simp),hr,rs_end _ _ (by omega)];rfl
end
end Go.Lp

namespace Go.Sx
open Go.RowKit
variable[Env]
theorem un_fits{n:Nat}{ρ:Rh}:∀(k:Nat)(x:List Value),x.length=k->SV.fits n ρ (List.replicate k .u) x
 |0,[],_=>trivial
 |k+1,v::x,h=>⟨trivial,un_fits k x (by simpa using h)⟩
end Go.Sx

namespace Go.Sx
open Go.RowKit
variable[Env]
section
variable{κ:Type}
def CT.un(k:Nat):CT Unit where
 R:=0
 sz:=k
 cells _ _:=List.replicate k .u
 blks _ _:=[]
 read _ l:=bif Nat.beq l.length k then some ((),[],[],[])else Option.none
 put _ _:=.ret (List.replicate k .u,[])
 blen _ _:=rfl
 clen _ _:=by simp
 ilen h l g ps ids fzs hr:=by
  cases hb:Nat.beq l.length k with
  |false=>rw[hb]at hr;cases hr
  |true=>rw[hb]at hr;simp only[cond_true,Option.some.injEq,Prod.mk.injEq,true_and]at hr;rw[<-hr.2.1];rfl
 ok N k0 h l g ps ids fzs hr hp:=by
  cases hb:Nat.beq l.length k with
  |false=>rw[hb]at hr;cases hr
  |true=>
   rw[hb]at hr;simp only[cond_true,Option.some.injEq,Prod.mk.injEq,true_and]at hr;obtain⟨rfl,rfl,rfl⟩:=hr;have:=q02 hb;exact⟨λk so h=>by simp at h,λn m ρ ρ' x hn _ hf=>un_fits k x (by rw[<-q0a hf,this])⟩
 shf b b' g n m ρ ρ' hm _ _:=⟨λx hf=>un_fits k x (by have:=q0a hf;simpa using this.symm),q41⟩
 putOk _ _ _ h:=h
def CT.none(d:κ):CT (List κ) where
 R:=0
 sz:=0
 cells _ _:=[]
 blks _ _:=[]
 read _ l:=match l with
  | []=>some ([],[],[],[])
  |_::_=>Option.none
 put _ _:=.ret ([],[])
 blen _ _:=rfl
 clen _ _:=rfl
 ilen h l g ps ids fzs hr:=by
  split at hr
  .simp only[Option.some.injEq,Prod.mk.injEq]at hr;rw[<-hr.2.2.1];rfl
  .cases hr
 ok N k0 h l g ps ids fzs hr hp:=by
  split at hr
  .simp only[Option.some.injEq,Prod.mk.injEq]at hr;obtain⟨rfl,rfl,rfl,rfl⟩:=hr;exact⟨λk so h=>by simp at h,λn m ρ ρ' x hn _ hf=>by have:=q0b hf;subst this;trivial⟩
  .cases hr
 shf b b' g n m ρ ρ' hm _ _:=⟨λx hf=>by have:=q0b hf;subst this;trivial,q41⟩
 putOk _ _ _ h:=h
def CT.rep(C:CT κ)(d:κ):Nat->CT (List κ)
 |0=>CT.none d
 |n+1=>.iso (.pair C (CT.rep C d n)) (λx=>x.1::x.2) (λl=>(l.headD d,l.tail)) λ_=>rfl
end
end Go.Sx

namespace Go.Sx
open Go.RowKit
variable[Env]
structure RvE(α:Type)where
 E:El α
 dec:SH->List SV->Option (α×List Prop)
 ok:∀{M:Nat->Prop}{w0:World}{ρ:Rh}{h:SH}{w:World}{G:Nat->Option Obj},Vwd M w0 ρ h w G->∀{s:List SV}{r:α}{ps:List Prop}{x:List Value},dec h s=some (r,ps)->(∀p∈ps,p)->SV.fits h.nx ρ s x->SV.fits h.nx ⟨ρ.lc,G,ρ.lo⟩ (E.cells r) x
def RvE.pl{α:Type}(A:El α):RvE α where
 E:=A
 dec _ l:=A.decs l
 ok {_ _ _ _ _ _} hv {_ _ _ _} hd hp hf:=A.cl _ _ _ _ ⟨_,_,_⟩ _ hv.hG (A.ok _ _ _ _ _ _ hd hp hf)
def RvE.list{α:Type}(A:El α):RvE (List α) where
 E:=eList A
 dec h l:=match l with
  | [s]=>(Rv.list A).dec h s
  |_=>none
 ok {_ _ _ _ _ _} hv {s r ps x} hd hp hf:=by
  split at hd
  .obtain⟨y,r',rfl,hy,hr⟩:=q03 hf;have:=q0b hr;subst this;exact⟨(Rv.list A).ok hv hd hp hy,trivial⟩
  .cases hd
def RvE.pair{α β:Type}(A:RvE α)(B:RvE β):RvE (α×β) where
 E:=.pair A.E B.E
 dec h l:=match A.dec h (l.take A.E.sz)with
  |some (a,ps)=>match B.dec h (l.drop A.E.sz)with
   |some (b,qs)=>some ((a,b),ps++qs)
   |none=>none
  |none=>none
 ok {_ _ _ _ _ _} hv {s r ps x} hd hp hf:=by
  split at hd
  .rename_i a0 ps0 h1;split at hd
   .rename_i b0 qs0 h2;simp only[Option.some.injEq,Prod.mk.injEq]at hd;obtain⟨rfl,rfl⟩:=hd;have f1:=A.ok hv h1 (λp hp'=>hp p (List.mem_append_left _ hp')) (q0g A.E.sz hf);have f2:=B.ok hv h2 (λp hp'=>hp p (List.mem_append_right _ hp')) (q0f A.E.sz hf);have:=q0j f1 f2
    rwa [List.take_append_drop]at this
   .cases hd
  .cases hd
def RvE.iso{α β:Type}(A:RvE α)(f:α->β)(g:β->α)(hfg:∀b,f (g b)=b)(hgf:∀a,g (f a)=a):RvE β where
 E:=.iso A.E f g hfg hgf
 dec h l:=match A.dec h l with
  |some (a,ps)=>some (f a,ps)
  |none=>none
 ok {_ _ _ _ _ _} hv {s r ps x} hd hp hf:=by
  split at hd
  .rename_i a0 ps0 h1;simp only[Option.some.injEq,Prod.mk.injEq]at hd;obtain⟨rfl,rfl⟩:=hd;show SV.fits _ _ (A.E.cells (g (f a0))) x;rw[hgf];exact A.ok hv h1 hp hf
  .cases hd
def Rv.agg{α:Type}(A:RvE α):Rv α where
 D:=.agg A.E
 dec h s:=match s.agg? with
  |some l=>A.dec h l
  |none=>none
 ok {_ _ _ _ _ _} hv {s r ps x} hd hp hf:=by
  split at hd
  .rename_i l hl;obtain⟨v,rfl,hv'⟩:=SV.agg_fit hl hf;exact⟨v,rfl,A.ok hv hd hp hv'⟩
  .cases hd
end Go.Sx

namespace Go.Sx
open Go.RowKit
variable[Env]
def dPr{α:Type}(A:El α):Dv α where
 dec s:=match s with
  | .pr l=>A.decs l
  |_=>none
 enc a:=.pr (A.cells a)
 bd:=A.bd
 cl a:=cl_pr (A.cl a)
 ok s a ps n ρ x hd hp hf:=by
  split at hd
  .obtain⟨b,o,cs,t,fz,k1,k2,vs,k3,k4⟩:=hf;exact⟨b,o,cs,t,fz,k1,k2,vs,A.ok _ _ _ _ _ _ hd hp k3,k4⟩
  .cases hd
 fb a n ρ x hf:=by
  obtain⟨b,o,cs,t,fz,k1,k2,vs,k3,k4⟩:=hf;exact A.fb _ _ _ _ k3
def dFnA{γ:Type}(f:Nat)(D:DA γ):Dv γ where
 dec s:=match s with
  | .fn f' l=>bif Nat.beq f f' then D.dec l else none
  |_=>none
 enc a:=.fn f (D.enc a)
 bd:=D.bd
 cl a:=cl_fn (D.cl a)
 ok s a ps n ρ x hd hp hf:=by
  split at hd
  .rename_i f' s;cases hb:Nat.beq f f' with
   |false=>rw[hb]at hd;cases hd
   |true=>
    rw[hb]at hd;rw[q02 hb];obtain⟨l,rfl,hl⟩:=hf;exact⟨l,rfl,D.ok _ _ _ _ _ _ hd hp hl⟩
  .cases hd
 fb a n ρ x hf:=by
  obtain⟨l,rfl,hl⟩:=hf;exact D.fb _ _ _ _ hl
end Go.Sx

namespace Go.Lp
open Go.Sx
theorem list_eq_getD{α:Type}(d:α){a b:List α}(hl:a.length=b.length)(h:∀(n:Nat)(v:α),a[n]?=some v->v=b.getD n d):a=b:=by
 refine List.ext_getElem? λn=>?_;by_cases hn:n<a.length
 .have:=h n a[n] (by simp[hn]);have hn':n<b.length:=by omega
  simp only[List.getD_eq_getElem?_getD,List.getElem?_eq_getElem hn',Option.getD_some]at this;rw[List.getElem?_eq_getElem hn,List.getElem?_eq_getElem hn',this]
 .rw[List.getElem?_eq_none (by omega),List.getElem?_eq_none (by omega)]
theorem scanEq{α β:Type}[Env][DecidableEq α](d:α)(a b:List α)(hl:a.length=b.length){x:Nat}{st:β->Int->α->Ex×β}{r:β->β}(h:∀s i v,st s i v=bif !decide (v=b.getD i.toNat d)then(.ret,r s)else(.normal,s))(s:β):
  (scan x st 0 a s).1=(bif decide (a=b)then .exit x else .ret)/\(scan x st 0 a s).2.2=bif decide (a=b)then s else r s:=by
 rcases searchI (x:=x) (st:=st) (p:=λi v=>!decide (v=b.getD i.toNat d)) (r:=λ_ _ s=>r s) (λs i v=>h s i v) a s with ⟨n,v,h1,h2,hs⟩|⟨h1,hs⟩
 .rw[hs]
  have hne:a≠b:=by
   rintro rfl;simp[List.getD_eq_getElem?_getD,h1]at h2
  rw[decide_eq_false hne];exact⟨rfl,rfl⟩
 .rw[hs]
  have he:a=b:=list_eq_getD d hl λn v hv=>by
   have:=h1 n v hv
   rwa [Bool.not_eq_false',decide_eq_true_eq,Int.toNat_natCast]at this
  rw[decide_eq_true he];exact⟨rfl,rfl⟩
end Go.Lp

namespace Go.Sx
open Go.RowKit
variable[Env]
def isP(b:Nat):SV->Bool
 | .p b' _=>Nat.beq b' b
 |_=>false
def lconAltS(t b:Nat)(c1 c2:LCon):LCon:=⟨λσ=>bif isP b (σ.slot t)then c1.g σ else c2.g σ,λσ=>by
 cases isP b (σ.slot t)with
 |true=>exact c1.on σ
 |false=>exact c2.on σ⟩
theorem altS_ok{P:Program}{b:Code}{t i:Nat}{c1 c2:LCon}(h1:q04 P b c1.g)(h2:q04 P b c2.g):q04 P b (lconAltS t i c1 c2).g:=by
 intro M w0 w ρ σ a K hK hm;have hK:(bif isP i (σ.slot t)then c1.g σ else c2.g σ).Holds K:=hK;cases hc:isP i (σ.slot t)with
 |true=>rw[hc]at hK;exact h1 M w0 w ρ σ a K hK hm
 |false=>rw[hc]at hK;exact h2 M w0 w ρ σ a K hK hm
end Go.Sx

namespace Go.Sx
open Go.RowKit
variable[Env]
def lconFrz(ts:List Nat)(c:LCon):LCon:=⟨λσ=>c.g (frzL ts σ),λσ=>by
 have h:=c.on (frzL ts σ);rw[(frzL_on ts σ).1,(frzL_on ts σ).2]at h;exact h⟩
theorem frzLoop_ok{P:Program}{b:Code}{ts:List Nat}{c:LCon}(h:q04 P b c.g):q04 P b (lconFrz ts c).g:=by
 intro M w0 w ρ σ a K hK hm;obtain⟨ρ1,_,a1,m1,n1,_,_⟩:=frzL_ok ts hm;have:=h M w0 w ρ1 (frzL ts σ) a K hK m1;rw[n1]at this;exact Code.wpIn_mono (λx a w hx=>PostX.chain hx (Nat.le_refl _) a1) this
end Go.Sx

namespace Go.Sx
open Go.RowKit
variable[Env]
def litE(sz:Nat)(xs:List SV):Nat->ElE
 |0=>.fn λ_=>[]
 |k+1=>.app k (litE sz xs k) (.fn λ_=>(xs.drop (k*sz)).take sz)
theorem litE_at(sz:Nat)(xs:List SV):∀k e,e<k->(litE sz xs k).at e=(xs.drop (e*sz)).take sz
 |k+1,e,h=>by
  show(if e<k then(litE sz xs k).at e else(xs.drop (k*sz)).take sz)=_;by_cases he:e<k
  .rw[if_pos he,litE_at sz xs k e he]
  .rw[if_neg he,show e=k by omega]
def rowO(t sz:Nat)(σ:St)(i:Nat):St:=
 match σ.slot i with
 | .sl j o l c=>match σ.h.get j with
  | .cells xs ty=>bif Nat.blt i σ.n&&(Nat.beq o 0&&(Nat.beq l c&&(Nat.beq ty t&&(Nat.beq xs.length (l*sz)&&Nat.ble l 1000))))then⟨σ.n,(i,.ow σ.h.nx l)::σ.t,(σ.h.set j .dead).push (.row ty sz (litE sz xs l) l),σ.d,σ.b⟩else σ
  |_=>σ
 |_=>σ
section
variable{M:Nat->Prop}{w0 w:World}{ρ:Rh}
theorem rowO_ok{σ:St}{a:Act}(t sz i:Nat)(hm:Mod M w0 ρ σ a w):∃ρ',Agree σ.h.nx ρ ρ'/\Mod M w0 ρ' (rowO t sz σ i) a w/\σ.h.nx<=(rowO t sz σ i).h.nx:=by
 have same:rowO t sz σ i=σ->∃ρ',Agree σ.h.nx ρ ρ'/\Mod M w0 ρ' (rowO t sz σ i) a w/\σ.h.nx<=(rowO t sz σ i).h.nx:=λe=>by
  rw[e];exact⟨ρ,Agree.refl _ _,hm,Nat.le_refl _⟩
 cases hs:σ.slot i with
 |sl j o l c=>
  cases hg:σ.h.get j with
  |cells xs ty=>
   cases hb:Nat.blt i σ.n&&(Nat.beq o 0&&(Nat.beq l c&&(Nat.beq ty t&&(Nat.beq xs.length (l*sz)&&Nat.ble l 1000))))with
   |false=>exact same (by simp only[rowO,hs,hg,hb,cond_false])
   |true=>
    have e:rowO t sz σ i=⟨σ.n,(i,.ow σ.h.nx l)::σ.t,(σ.h.set j .dead).push (.row ty sz (litE sz xs l) l),σ.d,σ.b⟩:=by simp only[rowO,hs,hg,hb,cond_true]
    rw[e];simp only[Bool.and_eq_true]at hb;obtain⟨b1,b2,b3,b4,b5,b6⟩:=hb;have hin:i<σ.n:=Nat.le_of_ble_eq_true b1;have ho0:o=0:=Nat.eq_of_beq_eq_true b2;have hlc:l=c:=Nat.eq_of_beq_eq_true b3;have hlen:xs.length=l*sz:=Nat.eq_of_beq_eq_true b5;have hl1:l<=1000:=Nat.le_of_ble_eq_true b6;have hlm:l<=maxLen:=by unfold maxLen;omega
    subst ho0;subst hlc;have hown:(σ.h.get j).own (ρ j):=by rw[hg];trivial
    have hob:=hm.hp.ob j;rw[hg]at hob;obtain⟨hnl,hoff,v,hv,hfl⟩:=hob;have hvl:=q0a hfl;have m1:=hm.hp.forget j;have hag:Agree σ.h.nx ρ (upd ρ σ.h.nx ⟨(ρ j).blk,0,l,false⟩):=q0r ρ σ.h.nx _
    have m2:HM M w0 (upd ρ σ.h.nx ⟨(ρ j).blk,0,l,false⟩) ((σ.h.set j .dead).push (.row ty sz (litE sz xs l) l)) w:=by
     refine m1.learn (L:=⟨(ρ j).blk,0,l,false⟩) (so:=.row ty sz (litE sz xs l) l) ?_ (λ_=>⟨hm.hp.ow j hown,hm.hp.sep j hown,λk hk hkb=>?_,?_⟩)
     .refine⟨hlm,.inr ⟨rfl,rfl,List.toArray v,(0,0),hv,okFz0 _,?_,Nat.le_refl _,hlm,λk hk=>?_⟩⟩
      .show v.toArray.size=l*sz;rw[List.size_toArray,<-hvl,hlen]
      .refine⟨(v.drop (k*sz)).take sz,?_,?_,λq x hq=>?_⟩
       .have h1:(k+1)*sz<=l*sz:=Nat.mul_le_mul_right _ hk;rw[Nat.add_mul,Nat.one_mul]at h1;rw[List.length_take,List.length_drop,<-hvl,hlen];omega
       .show SV.fits _ _ ((litE sz xs l).at k) _;rw[litE_at sz xs l k hk];exact q0g _ (q0f _ hfl)
       .rw[List.getElem?_take]at hq;split at hq
        .rw[List.getElem?_drop]at hq;rw[Nat.zero_add];simpa using hq
        .cases hq
     .rw[SH.get_set]at hk;by_cases hkj:k=j
      .rw[if_pos hkj]at hk;exact hk.elim
      .rw[if_neg hkj]at hk;exact hkj (hm.hp.inj k j hk hown hkb)
     .obtain⟨S,hS⟩:=hm.hp.ab;refine⟨S,hS.dead j,λk a' hk hSb=>?_⟩;rw[SH.get_set]at hk;by_cases hkj:k=j
      .rw[if_pos hkj]at hk;cases hk
      .rw[if_neg hkj]at hk;exact((hS k a' hk).2 _ hSb).2.2.2.1 j hown rfl
    refine⟨_,hag,⟨⟨hm.tm.1,λk hk=>?_⟩,hm.df.mono hag hm.dl,λk hk=>Nat.lt_succ_of_lt (hm.dl k hk),m2⟩,Nat.le_succ _⟩;have hk':=(hm.tm.mono (Nat.le_succ _) hag).2 k hk;rw[St.look_lg]at hk' ⊢;show(look (look (.k undef) k σ.b) k ((i,SV.ow σ.h.nx l)::σ.t)).fit _ _ _;rw[q1i];by_cases hkt:k=i
    .rw[if_pos hkt];subst hkt;have h0:=hm.tm.2 k hk;rw[St.look_lg,hs]at h0;obtain⟨_,hx⟩:=h0;rw[hx];refine⟨Nat.lt_succ_self _,.inr ?_⟩;have e1:upd ρ σ.h.nx ⟨(ρ j).blk,0,l,false⟩ σ.h.nx=⟨(ρ j).blk,0,l,false⟩:=by simp only[upd,if_pos]
     rw[e1];refine⟨rfl,Nat.le_refl _,?_⟩;rw[hoff]
    .rw[if_neg hkt];exact hk'
  |_=>exact same (by simp only[rowO,hs,hg])
 |_=>exact same (by simp only[rowO,hs])
theorem rowO_on(t sz i:Nat)(σ:St):(rowO t sz σ i).b=σ.b/\(rowO t sz σ i).h.b=σ.h.b:=by
 unfold rowO;split
 .split
  .rw[Bool.cond_eq_ite];split<;>exact⟨rfl,rfl⟩
  .exact⟨rfl,rfl⟩
 .exact⟨rfl,rfl⟩
end
def lconRow(t sz i:Nat)(c:LCon):LCon:=⟨λσ=>c.g (rowO t sz σ i),λσ=>by
 have h:=c.on (rowO t sz σ i);rw[(rowO_on t sz i σ).1,(rowO_on t sz i σ).2]at h;exact h⟩
theorem rowLoop_ok{P:Program}{b:Code}{t sz i:Nat}{c:LCon}(h:q04 P b c.g):q04 P b (lconRow t sz i c).g:=by
 intro M w0 w ρ σ a K hK hm;obtain⟨ρ1,a1,m1,n1⟩:=rowO_ok t sz i hm;have:=h M w0 w ρ1 (rowO t sz σ i) a K hK m1;exact Code.wpIn_mono (λx a w hx=>PostX.chain hx n1 a1) this
end Go.Sx

namespace Go.Sx
open Go.RowKit
variable[Env]
section
variable{α:Type}(A:El α)
def decN(el:Nat->List SV):Nat->Option (List α×List Prop)
 |0=>some ([],[])
 |k+1=>match decN el k with
  |some (xs,ps)=>match A.decs (el k)with
   |some (a,qs)=>some (xs++[a],ps++qs)
   |none=>none
  |none=>none
theorem decN_ok{el:Nat->List SV}:∀(n:Nat)(xs:List α)(ps:List Prop),decN A el n=some (xs,ps)->(∀p∈ps,p)->xs=A.lst n el/\∀e,e<n->A.Ok (el e)
 |0,xs,ps,h,_=>by
  simp only[decN,Option.some.injEq,Prod.mk.injEq]at h;exact⟨h.1.symm,λe he=>absurd he (Nat.not_lt_zero e)⟩
 |n+1,xs,ps,h,hp=>by
  unfold decN at h;split at h
  .rename_i ys qs h1;split at h
   .rename_i a ss h2;simp only[Option.some.injEq,Prod.mk.injEq]at h;obtain⟨rfl,rfl⟩:=h;obtain⟨k1,k2⟩:=decN_ok n ys qs h1 λp hp'=>hp p (List.mem_append_left _ hp');refine⟨?_,λe he=>?_⟩
    .rw[k1];unfold El.lst;rw[List.range_succ,List.map_append];congr 1;simp only[List.map_cons,List.map_nil,El.get,h2]
    .by_cases hen:e<n
     .exact k2 e hen
     .have:e=n:=by omega
      subst this;exact⟨a,ss,h2,λp hp'=>hp p (List.mem_append_right _ hp')⟩
   .cases h
  .cases h
def Dv.listC:Dv (List α) where
 dec s:=match s with
  | .rs sz n el=>bif Nat.beq sz A.sz then decN A el n else none
  |_=>none
 enc:=(Dv.list A).enc
 bd:=(Dv.list A).bd
 cl:=(Dv.list A).cl
 ok s a ps n ρ x hd hp hf:=by
  split at hd
  .rename_i sz m el;cases hb:(Nat.beq sz A.sz)with
   |false=>rw[hb]at hd;cases hd
   |true=>
    rw[hb,cond_true]at hd;obtain⟨k1,k2⟩:=decN_ok A m _ _ hd hp;rw[k1]
    exact(Dv.list A).ok (.rs sz m el) _ [∀e,e<m->A.Ok (el e)] n ρ x (by simp[Dv.list,hb]) (by
     intro p hp;simp only[List.mem_singleton]at hp;subst hp;exact k2) hf
  .cases hd
 fb:=(Dv.list A).fb
def Rv.listN:Rv (List α) where
 D:=.list A
 dec h s:=match s with
  | .sl i o l c=>(Rv.of (.listC A)).dec h (.sl i o l c)
  |s=>(Rv.list A).dec h s
 ok {_ _ _ _ _ _} hv {s r ps x} hd hp hf:=by
  split at hd
  .exact(Rv.of (.listC A)).ok hv hd hp hf
  .exact(Rv.list A).ok hv hd hp hf
def RvE.listN:RvE (List α) where
 E:=eList A
 dec h l:=match l with
  | [s]=>(Rv.listN A).dec h s
  |_=>none
 ok {_ _ _ _ _ _} hv {s r ps x} hd hp hf:=by
  split at hd
  .obtain⟨y,r',rfl,hy,hr⟩:=q03 hf;have:=q0b hr;subst this;exact⟨(Rv.listN A).ok hv hd hp hy,trivial⟩
  .cases hd
end
end Go.Sx

namespace Go.Sx
open Go.RowKit Go.ChangeShapes Go.WideShapes Go.ChangeAt Go.Deep
variable[Env]
section
variable{P:Program}{t e:TypeId}{α:Type}{A:El α}{Q:α->Prop}
theorem q9c(ht:P.underlying t=some (.slice e))(hs:P.cellsOf e=A.sz)(hz:0<A.sz)(h:Rd P e A Q):Rd P t (eList A) (λxs=>∀a∈xs,Q a):=λH enc w base spare held fuel cs0 x hf=>by
 rcases open_slice ht hf with ⟨rfl,_⟩|⟨a,len0,cap0,m,n,D,Pl,rfl,hb,hl,hm,hmm,_,hel⟩
 .exact⟨[],by simp,rs_nil _ _,trivial⟩
 .have hcap:True:=trivial;have hle:len0<=m:=by subst hmm;split<;>omega
  have key:∀i,i<len0->∃x:α,Q x/\∃cs',cs'.length=A.sz/\SV.fits 0 (wh w) (A.cells x) cs'/\∀j,j<A.sz->w.cell? ((a.add (i*A.sz)).add j)=cs'[j]?:=λi hi=>by
   obtain⟨cs',h1,h2⟩:=hel i (by omega);obtain⟨x,qx,fx⟩:=h H enc w base spare held n cs' _ h2;rw[hs]at h1;obtain⟨_,h3,h4⟩:=World.cells?_some h1;exact⟨x,qx,cs',h3,fx,h4⟩
  haveI:Inhabited α:=⟨A.dflt⟩
  obtain⟨f,hf⟩:=choose_lt (α:=α) (λi hi=>key i hi);refine⟨(List.range len0).map f,?_,?_⟩
  .intro x hx;obtain⟨i,hi,rfl⟩:=List.mem_map.1 hx;exact(hf i (by simpa using hi)).1
  .refine⟨?_,trivial⟩;show((Dv.list A).enc ((List.range len0).map f)).fit 0 (wh w) _;simp only[Dv.list,SV.fit];refine⟨some a,cap0,by simp,by simpa using hl,hm,λhpos=>?_⟩;have hpos:0<len0:=by simpa using hpos
   obtain⟨_,cs0,q1,q2,q3⟩:=hf 0 hpos;have q4:=q3 0 hz;obtain⟨b,o,spot⟩:=a;have hsome:∃v0,cs0[0]?=some v0:=⟨cs0[0]'(by omega),by simp⟩;obtain⟨v0,hv0⟩:=hsome;rw[hv0]at q4;have hspot:spot=none:=by simpa [Addr.add]using World.cell?_spot q4
   subst hspot
   have hblk:∃cs t fz,w.heap[b]?=some (.cells cs t fz):=by
    simp only[add_none,World.cell?]at q4;split at q4
    .rename_i c _ _ hh;exact⟨_,_,_,hh⟩
    .cases q4
   obtain⟨cs,t',fz,hh⟩:=hblk;refine⟨b,o,cs,t',fz,rfl,hh,λi hi=>?_⟩;have hi:i<len0:=by simpa using hi
   obtain⟨_,cs',k1,k2,k3⟩:=hf i hi;refine⟨cs',k1,?_,λj v hjv=>?_⟩
   .simpa [El.els,List.getD_eq_getElem?_getD,hi]using k2
   .have hj:j<A.sz:=by
     have:=(List.getElem?_eq_some_iff.1 hjv).1;omega
    have:=k3 j hj;rw[hjv]at this;simp only[add_none,World.cell?,hh]at this;simpa using this
end
end Go.Sx

namespace Go.Sx
open Go.RowKit
variable[Env]
theorem decN_els{α:Type}(A:El α)(xs:List α):∀k,k<=xs.length->∃ps,decN A (A.els xs) k=some (xs.take k,ps)/\∀p∈ps,p
 |0,_=>⟨[],by simp[decN],λp hp=>by cases hp⟩
 |k+1,h=>by
  obtain⟨ps,h1,h2⟩:=decN_els A xs k (by omega);have hk:k<xs.length:=h
  have he:A.els xs k=A.cells xs[k]:=by
   simp only[El.els,List.getD_eq_getElem?_getD,List.getElem?_eq_getElem hk,Option.getD_some]
  obtain⟨qs,g1,g2⟩:=A.dec_cells xs[k];refine⟨ps++qs,?_,λp hp=>?_⟩
  .unfold decN;rw[h1,he,g1,List.take_succ_eq_append_getElem hk]
  .rcases List.mem_append.1 hp with hp|hp
   .exact h2 p hp
   .exact g2 p hp
def eListC{α:Type}(A:El α):El (List α):=.one' (.listC A) [] (λ_=>rfl) λxs=>by
 obtain⟨ps,h1,h2⟩:=decN_els A xs xs.length (Nat.le_refl _);refine⟨ps,?_,h2⟩;rw[List.take_length]at h1;simpa [Dv.listC,Dv.list]using h1
end Go.Sx

namespace Go.Sx
open Go.RowKit
variable[Env]
def frz1G(h:SH):SV->SV×SH×List Prop
 | .agg l=>(.agg (frzA h l).1,(frzA h l).2.1,(frzA h l).2.2)
 |s=>frz1 h s
def frzG:SH->List SV->List SV×SH×List Prop
 |h,[]=>([],h,[])
 |h,s::r=>((frz1G h s).1::(frzG (frz1G h s).2.1 r).1,(frzG (frz1G h s).2.1 r).2.1,(frz1G h s).2.2++(frzG (frz1G h s).2.1 r).2.2)
theorem frz1G_b(h:SH)(s:SV):(frz1G h s).2.1.b=h.b/\(frz1G h s).2.1.nx=h.nx:=by
 cases s with
 |agg l=>exact frzA_b l h
 |_=>exact frz1_b h _
theorem frzG_b:∀(args:List SV)(h:SH),(frzG h args).2.1.b=h.b/\(frzG h args).2.1.nx=h.nx
 | [],h=>⟨rfl,rfl⟩
 |s::r,h=>by
  obtain⟨h1,h2⟩:=frz1G_b h s;obtain⟨h3,h4⟩:=frzG_b r (frz1G h s).2.1;exact⟨h3.trans h1,h4.trans h2⟩
section
variable{P:Program}{M:Nat->Prop}{w0 w:World}
theorem frz1G_ok{ρ:Rh}{h:SH}{s:SV}{x:Value}(hm:HM M w0 ρ h w)(hf:s.fit h.nx ρ x)(hp:∀p∈(frz1G h s).2.2,p):∃ρ',Agree h.nx ρ ρ'/\HM M w0 ρ' (frz1G h s).2.1 w/\(frz1G h s).1.fit h.nx ρ' x:=by
 cases s with
 |agg l=>
  obtain⟨v,rfl,hv⟩:=SV.agg_fit (s:=.agg l) rfl hf;obtain⟨ρ1,a1,m1,f1⟩:=frzA_ok hm hv hp;exact⟨ρ1,a1,m1,⟨v,rfl,f1⟩⟩
 |_=>exact frz1_ok hm hf hp
theorem frzG_ok:∀{args:List SV}{ρ:Rh}{h:SH}{vs:List Value},HM M w0 ρ h w->SV.fits h.nx ρ args vs->(∀p∈(frzG h args).2.2,p)->∃ρ',Agree h.nx ρ ρ'/\HM M w0 ρ' (frzG h args).2.1 w/\SV.fits h.nx ρ' (frzG h args).1 vs
 | [],ρ,h,vs,hm,hf,_=>⟨ρ,Agree.refl _ _,hm,hf⟩
 |s::r,ρ,h,vs,hm,hf,hp=>by
  obtain⟨y,ys,rfl,hy,hr⟩:=q03 hf;simp only[frzG]at hp ⊢;obtain⟨ρ1,a1,m1,f1⟩:=frz1G_ok hm hy λp hq=>hp p (List.mem_append_left _ hq);have hnx:=(frz1G_b h s).2;have hr1:SV.fits (frz1G h s).2.1.nx ρ1 r ys:=by rw[hnx];exact SV.fits_mono (Nat.le_refl _) a1 _ _ hr
  obtain⟨ρ2,a2,m2,f2⟩:=frzG_ok (args:=r) m1 hr1 λp hq=>hp p (List.mem_append_right _ hq);rw[hnx]at a2 f2;exact⟨ρ2,a1.trans (Nat.le_refl _) a2,m2,SV.fit_mono (Nat.le_refl _) a2 _ _ f1,f2⟩
def frzCG(c:Con):Con:=λargs h=>asks (frzG h args).2.2 (c (frzG h args).1 (frzG h args).2.1)
theorem frzCG_ok{f:Nat}{c:Con}(hc:FnOk P f c):FnOk P f (frzCG c):=by
 intro M w0 w ρ h args vs K hK hm hf;obtain⟨hq,hK⟩:=q1p hK;obtain⟨ρ1,a1,m1,f1⟩:=frzG_ok hm hf hq;have hnx:=(frzG_b args h).2;refine(hc M w0 w ρ1 _ _ vs K hK m1 (by rw[hnx];exact f1)).mono ?_;rintro e w' ⟨s,h',ρ',x,k1,k2,k3,k4,k5,k6⟩;rw[hnx]at k2 k3;exact⟨s,h',ρ',x,k1,k2,a1.trans (Nat.le_refl _) k3,k4,k5,k6⟩
theorem frzCG_b{c:Con}(hc:∀args h,(c args h).Each λy=>y.2=h):ConB (frzCG c):=λargs h=>by
 have hb:=(frzG_b args h).1;refine q4h ?_;have:=eq_b (hc (frzG h args).1 (frzG h args).2.1);rw[hb]at this;exact this
def fconG{γ δ:Type}(D:DA γ)(R:Dv δ)(fn:γ->δ)(pre:γ->List Prop):BCon:=⟨frzCG (conR D R fn pre),frzCG_b (pconR D R fn pre).e⟩
theorem fconG_ok{f:Nat}{γ δ:Type}{D:DA γ}{R:Dv δ}{fn:γ->δ}{pre:γ->List Prop}(h:FnPure P f D R fn pre):FnOk P f (fconG D R fn pre).g:=frzCG_ok (q7k h)
end
end Go.Sx

namespace Go.Sx
open Go.RowKit
variable[Env]
section
variable{α γ:Type}
variable{P:Program}{Γ:Gam}{Λ:Lam}{f t:Nat}{A:El α}{D:DA γ}{fn:γ->List α}{pre:γ->List Prop}
end
end Go.Sx

namespace Go.Sx
open Go.RowKit Go.Shelf Go.Proofs
variable[Env]
section
variable{P:Program}{σ:Ren}
def conCC(T:TypeId):Con:=λargs h=>
 match args with
 | [.p i o]=>match h.get i with
  | .cells [a,_] t=>match a with
   | .k (.pointer none)=>bif Nat.beq o 0&&Nat.beq t T then .ret (.k (.tuple #[]),h.setCs i 0 [.p i 0])else .bad 890
   | .p j q=>bif (Nat.beq o 0&&Nat.beq t T)&&(Nat.beq j i&&Nat.beq q 0)then .ret (.k (.tuple #[]),h)else .bad 891
   |_=>.bad 892
  |_=>.bad 893
 |_=>.bad 895
theorem bif_each{α:Type}{p:α->Prop}{c:Bool}{x:α}{n:Nat}(h:p x):(bif c then(.ret x:Tr α)else .bad n).Each p:=by
 cases c
 .trivial
 .exact h
theorem conCC_ok(L:Lays.n240 P σ)(X:Builder.X72 P σ):FnOk P (σ.f 240) (conCC (σ.t 72)):=by
 intro M w0 w ρ h args vs K hK hm hf;unfold conCC at hK;split at hK
 .rename_i i o;split at hK
  .rename_i a b t hg;obtain⟨x,r,rfl,hx,hr⟩:=q03 hf;have:=q0b hr;subst this;have hob:=hm.ob i;rw[hg]at hob;obtain⟨hnl,hoff,l,hbk,hl⟩:=hob;obtain⟨xa,r,rfl,ha,hr⟩:=q03 hl;obtain⟨xb,r,rfl,hb,hr⟩:=q03 hr;have:=q0b hr;subst this;obtain⟨hin,rfl⟩:=hx;have hown:(h.get i).own (ρ i):=by rw[hg];trivial
   split at hK
   .obtain⟨hc,hK2⟩:=q08 hK;clear hK;simp only[Bool.and_eq_true]at hc;have e1:=q02 hc.1;have e2:=q02 hc.2;subst e1;subst e2;rw[hoff,Nat.add_zero];have ha:xa=.pointer none:=ha;subst ha;refine(Any.Builder_copyCheck_fresh L X (ρ i).blk w (by simp[World.cell?,hbk]) (by simp[World.shape?,hbk]) (by simp[World.frozen?,hbk])).mono ?_;rintro e w' ⟨rfl,rfl⟩;have hset:w.setCell ⟨(ρ i).blk,0,none⟩ (.pointer (some ⟨(ρ i).blk,0,none⟩))=w.setRow (ρ i).blk (#[Value.pointer none,xb].setIfInBounds 0 (.pointer (some ⟨(ρ i).blk,0,none⟩))):=setCell_eq_setRow w (ρ i).blk 0 _ _ _ _ hbk
    have hm2:HM M w0 ρ (h.set i (.cells [.p i 0,b] (σ.t 72))) (w.setCell ⟨(ρ i).blk,0,none⟩ (.pointer (some ⟨(ρ i).blk,0,none⟩))):=by
     rw[hset];refine hm.setOwn hown trivial rfl rfl rfl (by simp[World.setRow]) (λj hj=>setRow_other _ _ _ _ hj) (setRow_heap w _ _ _ _ _ hbk) ⟨hnl,hoff,[_,xb],rfl,⟨hin,by rw[hoff]⟩,hb,trivial⟩
    exact⟨_,_,ρ,_,hK2,by rw[SH.setCs_nx];exact Nat.le_refl _,Agree.refl _ _,hm.setCs (p:=0) (ys:=[.p i 0]) hg (by simp) hm2,rfl,rfl⟩
   .rename_i j q;obtain⟨hc,hK2⟩:=q08 hK;clear hK;simp only[Bool.and_eq_true]at hc;have e1:=q02 hc.1.1;have e2:=q02 hc.1.2;have e3:=q02 hc.2.1;have e4:=q02 hc.2.2;subst e1;subst e2;subst e3;subst e4;rw[hoff,Nat.add_zero];obtain⟨_,rfl⟩:=ha;refine(Any.Builder_copyCheck_used L X (ρ j).blk w (by simp[World.cell?,hbk,hoff])).mono ?_;rintro e w' ⟨rfl,rfl⟩;exact⟨_,_,ρ,_,hK2,Nat.le_refl _,Agree.refl _ _,hm,rfl,rfl⟩
   .exact hK.elim
  .exact hK.elim
 .exact hK.elim
def bconCC(T:TypeId):BCon:=⟨conCC T,λargs h=>by
 unfold conCC;split
 .split
  .split
   .exact bif_each (SH.setCs_b _ _ _ _)
   .exact bif_each rfl
   .trivial
  .trivial
 .trivial⟩
set_option maxHeartbeats 2000000 in
set_option maxRecDepth 100000 in
theorem string_run(L:Lays.n169 P σ)(X:Builder.Extra P σ){b g cap:Nat}{p:Value}{cur:Array Value}{fz:Nat×Nat}{l:List UInt8}{w:World}(hbk:w.heap[b]?=some (.cells #[p,.slice (some ⟨g,0,none⟩) l.length cap] (σ.t 72) (0,0)))
  (hg:w.heap[g]?=some (.cells cur (σ.t 5) fz)) (h0:l≠[]) (hlen:l.length<=cap) (hcm:cap<=maxLen) (hcs:cur.size=cap*1) (hcell:∀(j:Nat)(x:UInt8),l[j]?=some x->cur[j]?=some (Value.int .u8 x.toNat)) :
  Calls P (σ.f 169) #[.pointer (some ⟨b,0,none⟩)] w λe w'=>e=.returned (.string ⟨l.toArray⟩)/\w'=w.drew.freeze ⟨g,0,none⟩ l.length:=by
 have hl0:l.length≠0:=by simpa using h0
 have hbd:w.drew.heap[b]?=some (.cells #[p,.slice (some ⟨g,0,none⟩) l.length cap] (σ.t 72) (0,0)):=hbk;have hgd:w.drew.heap[g]?=some (.cells cur (σ.t 5) fz):=hg;have c1:w.drew.cell? ⟨b,1,none⟩=some (.slice (some ⟨g,0,none⟩) l.length cap):=by rw[Lib.cell_of_heap hbd];rfl
 have hSD:(Builtin.unsafeSliceData_ #[(σ.t 37)] (σ.t 127) #[.slice (some ⟨g,0,none⟩) l.length cap]).run P w.drew=.ok (.pointer (some ⟨g,0,none⟩)) w.drew:=
  Lib.run_unsafeSliceData_row _ _ _ _ _ _ (by omega)
 have hUS:(Builtin.unsafeString_ #[(σ.t 127),(σ.t 3)] (σ.t 9) #[.pointer (some ⟨g,0,none⟩),.int .i64 l.length]).run P w.drew=.ok (.string ⟨l.toArray⟩) (w.drew.freeze ⟨g,0,none⟩ l.length):=by
  refine Lib.run_unsafeString_row w.drew (σ.t 127) (σ.t 3) (σ.t 9) (σ.t 5) L.t127 X.cellsByte g cur.size (by simp[World.shape?,hgd]) l h0 (by omega) (by unfold maxLen at hcm;omega) λj x hx=>?_;have hadd:(⟨g,0,none⟩:Addr).add j=⟨g,j,none⟩:=by unfold Addr.add;split<;>simp_all
  rw[hadd];simp only[World.cell?,hgd];exact hcell j x hx
 have mixed:=L.mixed;have t72:=L.t72;have a72:=L.a72;have z72:=L.z72;have v72:=L.v72;have u72:=run_underlying L.t72;have t70:=L.t70;have a70:=L.a70;have z70:=L.z70;have v70:=L.v70;have u70:=run_underlying L.t70;have t37:=L.t37;have a37:=L.a37;have z37:=L.z37;have v37:=L.v37;have u37:=run_underlying L.t37;have t127:=L.t127;have a127:=L.a127;have z127:=L.z127;have v127:=L.v127;have u127:=run_underlying L.t127;have t3:=L.t3;have a3:=L.a3;have z3:=L.z3;have v3:=L.v3;have u3:=run_underlying L.t3;have t9:=L.t9;have a9:=L.a9;have z9:=L.z9;have v9:=L.v9;have u9:=run_underlying L.t9;have t5:=X.t5;have a5:=X.a5;have z5:=X.z5;have v5:=X.v5;have u5:=run_underlying X.t5
 go_enter L.f169,Body.n169_ntmps σ
 go_wp2
 go_region_o
 all_goals (go_wp2;go_ret;exact⟨rfl,rfl⟩)
def inB(n:Int):Bool:=decide (0<=n)&&decide (n<256)
theorem inB_eq{n:Int}(h:inB n=true):((UInt8.ofNat n.toNat).toNat:Int)=n:=by
 simp only[inB,Bool.and_eq_true,decide_eq_true_eq]at h;obtain⟨k,rfl⟩:=Int.eq_ofNat_of_zero_le h.1;have hk:k<256:=by omega
 simp[Nat.mod_eq_of_lt hk]
def conStr(T E:TypeId):Con:=λargs h=>
 match args with
 | [.p i o]=>match h.get i with
  | .cells [_,.ow j l] t=>match h.get j with
   | .row t' sz el m=>bif (Nat.beq o 0&&Nat.beq t T)&&(Nat.beq t' E&&Nat.beq sz 1)then
     .ask (0<l/\l<=m) (.ask (∀e,e<l->(intOf .u8 (el e)).isSome=true) (.ask ((intsOf .u8 l el).all inB=true) (.ret (.v (.string (strOf (intsOf .u8 l el))),h.set j .dead))))
    else .bad 896
   |_=>.bad 897
  |_=>.bad 898
 |_=>.bad 899
theorem conStr_ok(L:Lays.n169 P σ)(X:Builder.Extra P σ):FnOk P (σ.f 169) (conStr (σ.t 72) (σ.t 5)):=by
 intro M w0 w ρ h args vs K hK hm hf;unfold conStr at hK;split at hK
 .rename_i i o;split at hK
  .rename_i s0 j l t hgi;split at hK
   .rename_i t' sz el m hgj;obtain⟨hc,hK2⟩:=q08 hK;clear hK;simp only[Bool.and_eq_true]at hc;have e1:=q02 hc.1.1;have e2:=q02 hc.1.2;have e3:=q02 hc.2.1;have e4:=q02 hc.2.2;subst e1;subst e2;subst e3;subst e4;obtain⟨⟨hl0,hlm⟩,hall,hin,hK2⟩:=hK2;obtain⟨x,r,rfl,hx,hr⟩:=q03 hf;have:=q0b hr;subst this;obtain⟨_,rfl⟩:=hx;have hob:=hm.ob i;rw[hgi]at hob;obtain⟨hnl,hoff,lv,hbk,hlv⟩:=hob;obtain⟨xa,r,rfl,ha,hr⟩:=q03 hlv;obtain⟨xb,r,rfl,hb,hr⟩:=q03 hr;have:=q0b hr;subst this;have hbj:=hm.ob j;rw[hgj]at hbj;obtain⟨hmm,hor⟩:=hbj;rcases hor with ⟨_,rfl⟩|⟨hnj,hoj,c,fz,hgc,hfz,hcs,hmc,hcm,hel⟩
    .omega
    .rcases hb.2 with ⟨hn,_⟩|⟨_,hlc,rfl⟩
     .rw[hnj]at hn;cases hn
     .rw[hoff,Nat.add_zero];have hlen:((intsOf .u8 l el).map λn=>UInt8.ofNat n.toNat).length=l:=by simp[intsOf]
      have hne:((intsOf .u8 l el).map λn=>UInt8.ofNat n.toNat)≠[]:=λe=>by rw[e]at hlen;simp at hlen;omega
      refine(string_run L X (b:=(ρ i).blk) (g:=(ρ j).blk) (cap:=(ρ j).cap) (l:=(intsOf .u8 l el).map λn=>UInt8.ofNat n.toNat) (by rw[hlen];exact hbk) hgc hne (by omega) hcm hcs λq x hx=>?_).mono ?_
      .have hq:q<l:=by have:=(List.getElem?_eq_some_iff.1 hx).1;omega
       obtain⟨vl,k1,k2,k3⟩:=hel q (by omega);cases hn:intOf .u8 (el q)with
       |none=>have:=hall q hq;rw[hn]at this;cases this
       |some n=>
        have hv:=intOf_fit hn k2;subst hv;have hat:intAt .u8 (el q)=n:=by simp[intAt,hn]
        have hget:(intsOf .u8 l el)[q]?=some n:=by simp[intsOf,hq,hat]
        have hi:=inB_eq (List.all_eq_true.1 hin n (List.mem_of_getElem? hget));rw[List.getElem?_map,hget]at hx;simp only[Option.map_some,Option.some.injEq]at hx;subst hx;have:=k3 0 _ rfl;rw[hi];simpa using this
      .rintro e w' ⟨rfl,rfl⟩;have hown:(h.get j).own (ρ j):=by rw[hgj];exact hnj
       have hm1:=hm.below ((Below.refl w.heap.size w).drew);have hmd:w.drew.heap[(ρ j).blk]?=some (.cells c (σ.t 5) fz):=hgc
       have hm2:HM M w0 ρ (h.set j (.obj (.cells c (σ.t 5) (if fz.1==fz.2 then(0,0+l)else(min fz.1 0,max fz.2 (0+l)))))) (w.drew.freeze ⟨(ρ j).blk,0,none⟩ ((intsOf .u8 l el).map λn=>UInt8.ofNat n.toNat).length):=by
        rw[hlen];unfold World.freeze;rw[if_neg (show¬l=0 by omega)];refine hm1.setOwn hown trivial rfl rfl rfl (by simp) (λq hq=>?_) ?_ ⟨hnj,hoj,rfl⟩
        .simp only[Array.getElem?_modify];rw[if_neg (λe=>hq e.symm)]
        .simp only[Array.getElem?_modify,if_pos,hmd,Option.map_some]
       have hm3:=hm2.forget j
       have hm4:HM M w0 ρ (h.set j .dead) _:=hm3.same rfl λq=>by
        rw[SH.get_set,SH.get_set,SH.get_set];split<;>rfl
       exact⟨_,_,ρ,_,hK2,Nat.le_refl _,Agree.refl _ _,hm4,rfl,rfl⟩
   .exact hK.elim
  .exact hK.elim
 .exact hK.elim
def bconStr(T E:TypeId):BCon:=⟨conStr T E,λargs h=>by
 unfold conStr;split
 .split
  .split
   .cases hb:((Nat.beq _ 0&&Nat.beq _ T)&&(Nat.beq _ E&&Nat.beq _ 1))with
    |false=>trivial
    |true=>exact rfl
   .trivial
  .trivial
 .trivial⟩
end
section
variable{α:Type}
def LP.bld(N id t' t:Nat)(A:El α)(hN:id<N):LP N (List α) where
 R:=1
 read σ:=match σ.h.get id with
  | .cells [a,s] t1=>match a with
   | .p i o=>match s with
    | .ow j l=>match σ.h.get j with
     | .row t2 sz el m=>bif (Nat.beq i id&&(Nat.beq o 0&&Nat.beq t1 t'))&&(Nat.beq t2 t&&Nat.beq sz A.sz)then some (A.lstE l el,(l<=m)::A.okE l el,[some j])else none
     |_=>none
    |_=>none
   |_=>none
  |_=>none
 ents _ _:=[]
 blks _ xs:=[.row t A.sz (.fn (A.els xs)) xs.length]
 objs k0 xs:=[(id,.cells [.p id 0,.ow (N+k0+0) xs.length] t')]
 es:=[]
 os:=[id]
 eseq _ _:=rfl
 oseq _ _:=rfl
 blen _ _:=rfl
 ilen σ g ps ids h:=by
  split at h
  .rename_i a s t1 hc;split at h
   .rename_i i o;split at h
    .rename_i j l;split at h
     .rename_i t2 sz el m hg;cases hb:(Nat.beq i id&&(Nat.beq o 0&&Nat.beq t1 t'))&&(Nat.beq t2 t&&Nat.beq sz A.sz)with
      |false=>rw[hb]at h;cases h
      |true=>
       rw[hb]at h;simp only[cond_true,Option.some.injEq,Prod.mk.injEq]at h;rw[<-h.2.2];rfl
     .cases h
    .cases h
   .cases h
  .cases h
 ok k0 σ g ps ids h hp:=by
  split at h
  .rename_i a s t1 hc;split at h
   .rename_i i o;split at h
    .rename_i j l;split at h
     .rename_i t2 sz el m hg;cases hb:(Nat.beq i id&&(Nat.beq o 0&&Nat.beq t1 t'))&&(Nat.beq t2 t&&Nat.beq sz A.sz)with
      |false=>rw[hb]at h;cases h
      |true=>
       rw[hb]at h;simp only[Bool.and_eq_true]at hb;have e0:=q02 hb.1.1;have e1:=q02 hb.1.2.1;have e2:=q02 hb.1.2.2;have e3:=q02 hb.2.1;have e4:=q02 hb.2.2;subst e0;subst e1;subst e2;subst e3;subst e4;simp only[cond_true,Option.some.injEq,Prod.mk.injEq]at h;obtain⟨rfl,rfl,rfl⟩:=h;have hl:l<=m:=hp _ (List.mem_cons_self ..);have hk:∀e,e<l->A.Ok (el e):=A.okE_ok l el λp h'=>hp p (List.mem_cons_of_mem _ h');rw[A.lstE_eq];refine⟨λk so h=>?_,λid so h=>?_,λq s h=>by simp at h⟩
       .cases k with
        |succ k=>simp at h
        |zero=>
         simp only[List.getElem?_cons_zero,Option.some.injEq]at h;subst h;rw[A.lst_length];refine .inr ⟨j,rfl,row_blk hg hl (λe=>A.cl _) λe he n ρ v hv=>?_⟩;simp only[El.els];rw[A.lst_getD _ _ _ he];obtain⟨a,ps,d1,d2⟩:=hk e he;have:=A.ok _ _ _ _ _ _ d1 d2 hv;simpa only [El.get,d1]using this
       .simp only[List.mem_singleton,Prod.mk.injEq]at h;obtain⟨rfl,rfl⟩:=h;rw[hc];refine⟨ow_na λ_ h=>h,λn m ρ ρ' L o hr hf=>?_⟩;obtain⟨f1,f2,l',f3,f4⟩:=hf;refine⟨f1,f2,l',f3,?_⟩;obtain⟨x,r,rfl,hx,hr'⟩:=q03 f4;obtain⟨y,r,rfl,hy,hr'⟩:=q03 hr';refine⟨⟨by have:=hr.le;omega,?_⟩,ent_ow (k:=0) rfl rfl (by rw[A.lst_length]) n m ρ ρ' y hr hy,by have:=q0b hr';subst this;trivial⟩;rw[hr.ag.1 _ hN];exact hx.2
     .cases h
    .cases h
   .cases h
  .cases h
end
end Go.Sx
