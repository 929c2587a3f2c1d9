/- Functions on own trees: a call is what the machine does. -/
import Derived.Test.YtfkdbifgppfegaaDoorZG065e5f9a
import Derived.Test.YtfkdbifgppfegaaDoorZG0555ce6c
set_option linter.unusedVariables false
set_option linter.unusedSimpArgs false
set_option linter.constructorNameAsVariable false
set_option linter.all false

namespace Go.Sx
open Go.RowKit
variable[Env]
section
variable{P:Program}{f:Nat}{κ γ δ:Type}{A:TA κ}{D:DA γ}{R:TR δ}{fn:κ->γ->κ×δ}{pre:κ->γ->List Prop}
theorem nodup_roots:∀{rs:List Nat}{ids:List (Option Nat)},(∀k k' j:Nat,(rs.map some++ids)[k]?=some (some j)->(rs.map some++ids)[k']?=some (some j)->k=k')->rs.Nodup/\∀r∈rs,r∉fdist ids:=λ{rs ids}h=>by
 have hl:∀k r,rs[k]?=some r->(rs.map some++ids)[k]?=some (some r):=λk r hk=>by
  have hlt:=(List.getElem?_eq_some_iff.1 hk).1;rw[List.getElem?_append_left (by simpa using hlt),List.getElem?_map,hk];rfl
 constructor
 .refine List.pairwise_iff_getElem.2 λi j hi hj hij he=>?_;have h1:=hl i rs[i] (List.getElem?_eq_getElem hi);have h2:=hl j rs[j] (List.getElem?_eq_getElem hj);rw[he]at h1;have:=h i j _ h1 h2;omega
 .intro r hr hd;obtain⟨k,hk⟩:=List.getElem?_of_mem hr;obtain⟨x,hx,he⟩:=List.mem_filterMap.1 hd;have he:x=some r:=he;subst he;obtain⟨k',hk'⟩:=List.getElem?_of_mem hx
  have h2:(rs.map some++ids)[rs.length+k']?=some (some r):=by
   rw[List.getElem?_append_right (by simp),List.length_map,show rs.length+k'-rs.length=k' by omega,hk']
  have:=h k _ _ (hl k r hk) h2;have:=(List.getElem?_eq_some_iff.1 hk).1;omega
theorem conT_ok(hp:FnT P f A D R fn pre):FnOk P f (conT A D R fn pre):=by
 intro M w0 w ρ h args vs K hK hm hfits;unfold conT at hK;split at hK
 .rename_i rs rest hroots;obtain⟨vs',rfl,hrest,hrl,hrn⟩:=rootsOf_ok hroots hfits;split at hK
  .rename_i g ps ids fs hA;split at hK
   .rename_i d qs hd;split at hK
    .rename_i hchk;obtain⟨hq,hK⟩:=asks_holds hK;have hps:∀p∈ps,p:=λp h'=>hq p (List.mem_append_left _ h');have hqs:∀p∈qs,p:=λp h'=>hq p (List.mem_append_right _ (List.mem_append_left _ h'));have hpre:∀p∈pre g d,p:=λp h'=>hq p (List.mem_append_right _ (List.mem_append_right _ h'));simp only[Bool.and_eq_true,List.isEmpty_iff]at hchk;obtain⟨c1,rfl⟩:=hchk;obtain⟨i1,_⟩:=idsOk_ok c1;obtain⟨n1,n2⟩:=nodup_roots i1;obtain⟨la,lq⟩:=A.ilen _ _ _ _ _ _ hA
     let src:List (Option Nat):=rs.map some++ids
     let L:Nat->Lc:=λk=>match src[k]? with|some (some j)=>ρ j|_=>⟨0,0,0,true⟩
     let ρa:Rh:=⟨L,ρ.mem,ρ.lo⟩
     let ρc:Rh:=⟨L,ρ.mem,⟨ρ.mem,λ_=>none⟩⟩
     have hsrl:src.length=A.q+A.R:=by simp[src,lq,la]
     have hL:∀k j:Nat,src[k]?=some (some j)->L k=ρ j:=λk j hk=>by simp only[L,hk]
     have hLn:∀k:Nat,src[k]?=some none->L k=⟨0,0,0,true⟩:=λk hk=>by simp only[L,hk]
     have hsl:∀k r,rs[k]?=some r->src[k]?=some (some r):=λk r hk=>by
      have hlt:=(List.getElem?_eq_some_iff.1 hk).1;show(rs.map some++ids)[k]?=_;rw[List.getElem?_append_left (by simpa using hlt),List.getElem?_map,hk];rfl
     have hsr:∀k,src[A.q+k]?=ids[k]?:=λk=>by
      show(rs.map some++ids)[A.q+k]?=_;rw[List.getElem?_append_right (by simp[lq]),List.length_map,lq,show A.q+k-A.q=k by omega]
     have hrnA:Rn 0 A.q ids (A.q+A.R) ρ ρa:=⟨by omega,⟨λi hi=>absurd hi (Nat.not_lt_zero i),λ_ _ h=>h,rfl⟩,λk j hk=>by
      rw[show 0+A.q+k=A.q+k by omega];exact hL _ _ (by rw[hsr];exact hk),λk hk=>by
      rw[show 0+A.q+k=A.q+k by omega];exact hLn _ (by rw[hsr];exact hk)⟩
     have hzA:FzR h.nx h [] ρ ρa:=λj hj=>by cases hj
     obtain⟨a1,a2⟩:=A.ok 0 A.q h rs g ps ids [] hA hps;rw[Nat.zero_add]at a1 a2;have hlenA:(canonA A g).length=A.q+A.R:=canonA_len A g;have hge:∀k,A.q<=k->∃k',k=A.q+k':=λk hk=>⟨k-A.q,by omega⟩
     have hso:∀(k:Nat)(so:SO),(canonA A g)[k]?=some so->(src[k]?=some none/\NilSO so)\/∃j:Nat,src[k]?=some (some j)/\Ow so (h.get j)/\so.fit (A.q+A.R) ρa (ρ j) w.heap[(ρ j).blk]?:=λk so hk=>by
      rcases Nat.lt_or_ge k A.q with h1|h1
      .unfold canonA at hk;rw[List.getElem?_append_left (by rw[A.olen];exact h1)]at hk;have hlt:k<rs.length:=by omega
       obtain⟨o1,o2,o4,o3⟩:=a2 k rs[k] so (List.getElem?_eq_getElem hlt) hk;exact .inr ⟨rs[k],hsl k _ (List.getElem?_eq_getElem hlt),⟨λL _=>o1 L,λa=>(o4 a).1⟩,o3 _ _ _ _ _ _ hrnA hzA (hm.ob _)⟩
      .obtain⟨k,rfl⟩:=hge k h1;unfold canonA at hk;rw[List.getElem?_append_right (by rw[A.olen];omega),A.olen,show A.q+k-A.q=k by omega]at hk;rw[hsr];rcases a1.blk k so hk with ⟨b1,b2⟩|⟨j,b1,b2,b3⟩
       .exact .inl ⟨b1,b2⟩
       .exact .inr ⟨j,b1,b2,b3 _ _ _ _ _ _ hrnA hzA (hm.ob _)⟩
     have hown:∀k,((canonH (canonA A g)).get k).own (L k)->∃j:Nat,src[k]?=some (some j)/\(h.get j).own (ρ j)/\L k=ρ j:=λk hk=>by
      rw[canonH_get]at hk;cases hs:(canonA A g)[k]? with
      |none=>rw[hs]at hk;exact hk.elim
      |some so=>
       rw[hs]at hk;rcases hso k so hs with ⟨h1,rfl|⟨t,sz,el,rfl⟩⟩|⟨j,h1,h2,_⟩
       .exact hk.elim
       .have hk:(L k).nl=false:=hk;rw[hLn k h1]at hk;cases hk
       .rw[hL k j h1]at hk;exact⟨j,h1,h2.1 _ hk,hL k j h1⟩
     have habs:∀k a,(canonH (canonA A g)).get k=.abs a->∃j:Nat,src[k]?=some (some j)/\h.get j=.abs a/\L k=ρ j:=λk a hk=>by
      rw[canonH_get]at hk;cases hs:(canonA A g)[k]? with
      |none=>rw[hs]at hk;cases hk
      |some so=>
       rw[hs]at hk;have hk:so=.abs a:=hk;rcases hso k so hs with ⟨h1,rfl|⟨t,sz,el,rfl⟩⟩|⟨j,h1,h2,_⟩
       .cases hk
       .cases hk
       .exact⟨j,h1,h2.2 a hk,hL k j h1⟩
     have hagr:Agr (A.q+A.R) ρa ρc:=⟨λ_ _=>rfl,λ_ _ h _=>h⟩;obtain⟨S,hS⟩:=hm.ab
     let Sc:Nat->Nat->Prop:=λk=>S (match src[k]? with|some (some j)=>j|_=>0)
     let Ft:Nat->Prop:=λb=>∃k,((canonH (canonA A g)).get k).own (L k)/\(b=(L k).blk\/∃a,(canonH (canonA A g)).get k=.abs a/\Sc k b)
     have hSc:∀k j:Nat,src[k]?=some (some j)->Sc k=S j:=λk j hk=>by simp only[Sc,hk]
     have hent:HM Ft w ρc (canonH (canonA A g)) w:={
      os:=rfl
      tape:=rfl
      output:=rfl
      size:=Nat.le_refl _
      block:=λ_ _ _=>rfl
      lt:=λk hk=>by
       rw[canonH_get]at hk;show k<(canonA A g).length;by_cases hlt:k<(canonA A g).length
       .exact hlt
       .rw[List.getElem?_eq_none (by omega)]at hk;cases hk
      ob:=λk=>by
       show((canonH (canonA A g)).get k).fit (canonA A g).length ρc (L k) _;rw[canonH_get,hlenA];cases hs:(canonA A g)[k]? with
       |none=>trivial
       |some so=>
        rcases hso k so hs with ⟨h1,rfl|⟨t,sz,el,rfl⟩⟩|⟨j,h1,_,h3⟩
        .trivial
        .rw[hLn k h1];exact⟨Nat.zero_le _,.inl ⟨rfl,rfl⟩⟩
        .show so.fit (A.q+A.R) ρc (L k) w.heap[(L k).blk]?;rw[hL k j h1];exact SO.fit_mono0 (Nat.le_refl _) hagr h3
      ow:=λk hk=>.inr ⟨k,hk,.inl rfl⟩
      fz:=hm.fz
      sep:=λk hk=>by
       obtain⟨j,_,h2,h3⟩:=hown k hk;show ρ.mem (L k).blk=none;rw[h3];exact hm.sep j h2
      old:=λb o hb _ _=>hb
      env:=hm.env
      ab:=⟨Sc,λk a hk=>by
       obtain⟨j,h1,h2,h3⟩:=habs k a hk;obtain⟨q1,q2⟩:=hS j a h2;refine⟨by show Env.rep a (L k) _ _ _;rw[h3,hSc k j h1];exact q1,λb hb=>?_⟩;have hb':S j b:=by rw[<-hSc k j h1];exact hb
       obtain⟨r1,r2,r3,r4,r5⟩:=q2 b hb';refine⟨.inr ⟨k,own_abs hk,.inr ⟨a,hk,hb⟩⟩,r2,r3,λk' hk'=>?_,λk' a' hk' hb2=>?_⟩
       .obtain⟨j',_,h2',h3'⟩:=hown k' hk';show(L k').blk≠b;rw[h3'];exact r4 j' h2'
       .obtain⟨j',h1',h2',h3'⟩:=habs k' a' hk';rw[hSc k' j' h1']at hb2;have:=r5 j' a' h2' hb2;subst this;exact i1 k k' j h1 h1'⟩
      inj:=λk k' hk hk' he=>by
       obtain⟨j,h1,h2,h3⟩:=hown k hk;obtain⟨j',h1',h2',h3'⟩:=hown k' hk';have he:(L k).blk=(L k').blk:=he;rw[h3,h3']at he;have:=hm.inj j j' h2 h2' he;subst this;exact i1 k k' j h1 h1'}
     have hvs':=D.cl _ _ 0 ρ (emp ρ.mem) _ (λ_ _ h=>h) (D.ok _ _ _ _ _ _ hd hqs hrest)
     have hrv:(rs.map λr=>Value.pointer (some ⟨(ρ r).blk,(ρ r).off+0,none⟩))=rootVs A.q ρc:=by
      refine List.ext_getElem? λk=>?_;simp only[rootVs,List.getElem?_map];by_cases hk:k<A.q
      .have hlt:k<rs.length:=by omega
       have e2:L k=ρ rs[k]:=hL k _ (hsl k _ (List.getElem?_eq_getElem hlt));rw[List.getElem?_eq_getElem hlt,List.getElem?_range hk,Option.map_some,Option.map_some];show _=some (Value.pointer (some ⟨(L k).blk,(L k).off+0,none⟩));rw[e2]
      .rw[List.getElem?_eq_none (by omega),List.getElem?_eq_none (by simpa using Nat.not_lt.1 hk)];rfl
     have hcall:=hp Ft w ρc g d vs' hent hpre hvs';rw[hrv];refine hcall.mono ?_;rintro e w' ⟨x,ρe,rfl,hroot,hmm,hlo,hme,hx⟩;have hlenO:(canonO A R (fn g d)).length=A.q+(A.R+R.R):=canonO_len A R _
     have hfoot:∀b,Ft b->∃j,(j∈rs\/j∈fdist ids)/\(h.get j).own (ρ j)/\(b=(ρ j).blk\/∃a,h.get j=.abs a/\S j b):=λb⟨k,hk,hb⟩=>by
      obtain⟨j,h1,h2,h3⟩:=hown k hk
      have hb:b=(ρ j).blk\/∃a,h.get j=.abs a/\S j b:=by
       rcases hb with hb|⟨a,ha,hb⟩
       .exact .inl (by rw[hb];exact congrArg Lc.blk h3)
       .obtain⟨j',k1,k2,k3⟩:=habs k a ha;rw[h1]at k1;simp only[Option.some.injEq]at k1;subst k1;exact .inr ⟨a,k2,by rw[hSc k j h1]at hb;exact hb⟩
      refine⟨j,?_,h2,hb⟩;rcases Nat.lt_or_ge k A.q with hk|hk
      .left;have hlt:k<rs.length:=by omega
       have:=hsl k _ (List.getElem?_eq_getElem hlt);rw[this]at h1;simp only[Option.some.injEq]at h1;rw[<-h1];exact List.getElem_mem hlt
      .obtain⟨k,rfl⟩:=hge k hk;rw[hsr]at h1;exact .inr (List.mem_filterMap.2 ⟨some j,List.mem_of_getElem? h1,rfl⟩)
     have hfM:∀b,Ft b->w0.heap.size<=b\/M b:=λb hb=>by
      obtain⟨j,_,h2,rfl|⟨a,h3,h4⟩⟩:=hfoot b hb
      .exact hm.ow j h2
      .exact((hS j a h3).2 b h4).1
     have hfa:∀i a b,i∉rs->i∉fdist ids->h.get i=.abs a->S i b->¬Ft b:=λi a b h1 h2 ha hb hF=>by
      obtain⟨j,hj,h3,h4⟩:=hfoot _ hF;rcases h4 with rfl|⟨a',h4,h5⟩
      .exact hS.ne ha h3 hb
      .have:=((hS i a ha).2 b hb).2.2.2.2 j a' h4 h5;subst this;rcases hj with hj|hj
       .exact h1 hj
       .exact h2 hj
     have hfk:∀i,i∉rs->i∉fdist ids->(h.get i).own (ρ i)->¬Ft (ρ i).blk:=λi h1 h2 ho hb=>by
      obtain⟨j,hj,h3,h4⟩:=hfoot _ hb;rcases h4 with h4|⟨a,h4,h5⟩
      rotate_left
      .exact hS.ne h4 ho h5
      have:=hm.inj i j ho h3 h4;subst this;rcases hj with hj|hj
      .exact h1 hj
      .exact h2 hj
     let T:Nat:=A.R+R.R
     let bs:List SO:=A.blks h.nx (fn g d).1++R.blks (h.nx+A.R) (fn g d).2
     let h2:SH:=⟨h.nx+T,whole (rowsL h.nx bs)++(whole (rs.zip (A.objs h.nx (fn g d).1))++(whole ((fdist ids).map λi=>(i,SO.dead))++h.l)),h.b⟩
     let ρ2:Rh:=⟨λk=>if h.nx<=k/\k<h.nx+T then ρe (A.q+(k-h.nx))else ρ k,ρe.mem,ρ.lo⟩
     have hbl:bs.length=T:=by simp[bs,T,A.blen,R.blen]
     have r2n:∀p,p<T->ρ2 (h.nx+p)=ρe (A.q+p):=λp hp=>by
      show(if _ then _ else _)=_;rw[if_pos (by omega),show h.nx+p-h.nx=p by omega]
     have r2o:∀k,k<h.nx->ρ2 k=ρ k:=λk hk=>by
      show(if _ then _ else _)=_;rw[if_neg (by omega)]
     have hmemle:∀b o,ρ.mem b=some o->ρe.mem b=some o:=hmm;have hag:Agree h.nx ρ ρ2:=⟨r2o,hmemle,rfl⟩
     have hget:∀k,(∃p so,k=h.nx+p/\p<T/\bs[p]?=some so/\h2.get k=so)\/(∃j so,rs[j]?=some k/\(A.objs h.nx (fn g d).1)[j]?=some so/\h2.get k=so)\/h2.get k=.dead\/(k∉rs/\k∉fdist ids/\h2.get k=h.get k):=λk=>by
      have e:h2.get k=look (look (look (lookE (lookE .dead k h.b) k h.l) k ((fdist ids).map λi=>(i,SO.dead))) k (rs.zip (A.objs h.nx (fn g d).1))) k (rowsL h.nx bs):=by
       simp only[h2,SH.get,lookE_append,lookE_whole]
      obtain⟨q1,q2⟩:=rowsL_get (i:=k) (r:=bs) (k:=h.nx) (look (look (lookE (lookE .dead k h.b) k h.l) k ((fdist ids).map λi=>(i,SO.dead))) k (rs.zip (A.objs h.nx (fn g d).1)));by_cases hk:h.nx<=k/\k<h.nx+T
      .obtain⟨so,e1,e2⟩:=q1 (k-h.nx) (by omega) (by omega);exact .inl ⟨k-h.nx,so,by omega,by omega,e1,by rw[e,e2]⟩
      .rw[q2 (by omega)]at e;by_cases hkr:k∈rs
       .obtain⟨j,hj⟩:=List.getElem?_of_mem hkr;have hjl:=(List.getElem?_eq_some_iff.1 hj).1;have hol:j<(A.objs h.nx (fn g d).1).length:=by rw[A.olen];omega
        exact .inr (.inl ⟨j,_,hj,List.getElem?_eq_getElem hol,by rw[e,look_zip _ n1 hj (List.getElem?_eq_getElem hol)]⟩)
       .rw[look_zip_not _ hkr]at e;by_cases hki:k∈fdist ids
        .exact .inr (.inr (.inl (by rw[e,look_dead _ _ _ hki])))
        .rw[look_not _ _ (by simpa using hki)]at e;exact .inr (.inr (.inr ⟨hkr,hki,e⟩))
     have hshA:=A.shf A.q h.nx (fn g d).1 (A.q+(A.R+R.R)) (h.nx+T) ρe ρ2 (λ_ _ h=>h) (λk hk=>r2n k (by show k<A.R+R.R;omega)) (by show h.nx+A.R<=h.nx+(A.R+R.R);omega)
     have hshR:=R.shf (A.q+A.R) (h.nx+A.R) (fn g d).2 (A.q+(A.R+R.R)) (h.nx+T) ρe ρ2 (λ_ _ h=>h) (λk hk=>by
      rw[show h.nx+A.R+k=h.nx+(A.R+k) by omega,show A.q+A.R+k=A.q+(A.R+k) by omega];exact r2n _ (by show A.R+k<A.R+R.R;omega)) (by show h.nx+A.R+R.R<=h.nx+(A.R+R.R);omega)
     have hshB:ShfB (A.q+(A.R+R.R)) (h.nx+T) ρe ρ2 (A.blks A.q (fn g d).1++R.blks (A.q+A.R) (fn g d).2) bs:=shfB_app (by rw[A.blen,A.blen]) hshA.2 hshR.2
     have hcg:∀p,(canonH (canonO A R (fn g d))).get (A.q+p)=((A.blks A.q (fn g d).1++R.blks (A.q+A.R) (fn g d).2)[p]?).getD .dead:=λp=>by
      rw[canonH_get];unfold canonO;rw[List.getElem?_append_right (by rw[A.olen];omega),A.olen,show A.q+p-A.q=p by omega]
     have hcr:∀j,j<A.q->(canonH (canonO A R (fn g d))).get j=((A.objs A.q (fn g d).1)[j]?).getD .dead:=λj hj=>by
      rw[canonH_get];unfold canonO;rw[List.getElem?_append_left (by rw[A.olen];exact hj)]
     have hnb:∀p so,bs[p]?=some so->∃so',(canonH (canonO A R (fn g d))).get (A.q+p)=so'/\OwE so so'/\∀L o,so'.fit (A.q+(A.R+R.R)) ρe L o->so.fit (h.nx+T) ρ2 L o:=λp so hso=>by
      have hlt:p<(A.blks A.q (fn g d).1++R.blks (A.q+A.R) (fn g d).2).length:=by
       have:=(List.getElem?_eq_some_iff.1 hso).1;rw[hbl]at this;rw[List.length_append,A.blen,R.blen];exact this
      obtain⟨so2,k1,k2,k3⟩:=hshB p _ (List.getElem?_eq_getElem hlt);rw[hso]at k1;simp only[Option.some.injEq]at k1;subst k1;exact⟨_,by rw[hcg,List.getElem?_eq_getElem hlt];rfl,k2,k3⟩
     have hno:∀j so,(A.objs h.nx (fn g d).1)[j]?=some so->∃so',(canonH (canonO A R (fn g d))).get j=so'/\OwE so so'/\∀L o,so'.fit (A.q+(A.R+R.R)) ρe L o->so.fit (h.nx+T) ρ2 L o:=λj so hso=>by
      have hjq:j<A.q:=by
       have:=(List.getElem?_eq_some_iff.1 hso).1;rw[A.olen]at this;exact this
      have hlt:j<(A.objs A.q (fn g d).1).length:=by rw[A.olen];exact hjq
      obtain⟨so2,k1,k2,k3⟩:=hshA.1 j _ (List.getElem?_eq_getElem hlt);rw[hso]at k1;simp only[Option.some.injEq]at k1;subst k1;exact⟨_,by rw[hcr j hjq,List.getElem?_eq_getElem hlt];rfl,k2,k3⟩
     have hrρ:∀j r,rs[j]?=some r->ρe j=ρ r/\j<A.q/\r<h.nx:=λj r hj=>by
      have hlt:=(List.getElem?_eq_some_iff.1 hj).1;refine⟨?_,by omega,hrn r (List.mem_of_getElem? hj)⟩;rw[hroot j (by omega)];exact hL j r (hsl j r hj)
     have hsrc:∀k,(h2.get k).own (ρ2 k)->(∃i,((canonH (canonO A R (fn g d))).get i).own (ρe i)/\ρ2 k=ρe i/\((∃p,k=h.nx+p/\i=A.q+p)\/(k<h.nx/\i<A.q/\rs[i]?=some k)))\/(k<h.nx/\k∉rs/\k∉fdist ids/\(h.get k).own (ρ k)/\ρ2 k=ρ k):=λk hk=>by
      rcases hget k with ⟨p,so,rfl,hp',hso',e⟩|⟨j,so,hj,hso',e⟩|e|⟨e1,e2,e⟩
      .left;obtain⟨so',k1,k2,_⟩:=hnb p so hso';rw[e,r2n p hp']at hk;exact⟨A.q+p,by rw[k1];exact(k2.1 _).1 hk,r2n p hp',.inl ⟨p,rfl,rfl⟩⟩
      .left;obtain⟨so',k1,k2,_⟩:=hno j so hso';obtain⟨z1,z2,z3⟩:=hrρ j k hj;rw[e,r2o k z3]at hk;exact⟨j,by rw[k1,z1];exact(k2.1 _).1 hk,by rw[r2o k z3,z1],.inr ⟨z3,z2,hj⟩⟩
      .rw[e]at hk;exact hk.elim
      .right;rw[e]at hk;have hlt:k<h.nx:=hm.lt k (SO.live_of hk);rw[r2o k hlt]at hk;exact⟨hlt,e1,e2,hk,r2o k hlt⟩
     have habs2:∀k a,h2.get k=.abs a->(∃i,(canonH (canonO A R (fn g d))).get i=.abs a/\ρ2 k=ρe i/\((∃p,k=h.nx+p/\i=A.q+p)\/(k<h.nx/\i<A.q/\rs[i]?=some k)))\/(k<h.nx/\k∉rs/\k∉fdist ids/\h.get k=.abs a/\ρ2 k=ρ k):=λk a hk=>by
      rcases hget k with ⟨p,so,rfl,hp',hso',e⟩|⟨j,so,hj,hso',e⟩|e|⟨e1,e2,e⟩
      .left;obtain⟨so',k1,k2,_⟩:=hnb p so hso';rw[e]at hk;exact⟨A.q+p,by rw[k1];exact(k2.2 a).1 hk,r2n p hp',.inl ⟨p,rfl,rfl⟩⟩
      .left;obtain⟨so',k1,k2,_⟩:=hno j so hso';obtain⟨z1,z2,z3⟩:=hrρ j k hj;rw[e]at hk;exact⟨j,by rw[k1];exact(k2.2 a).1 hk,by rw[r2o k z3,z1],.inr ⟨z3,z2,hj⟩⟩
      .rw[e]at hk;cases hk
      .right;rw[e]at hk;have hlt:k<h.nx:=hm.lt k (by rw[hk];rfl);exact⟨hlt,e1,e2,hk,r2o k hlt⟩
     have hsize:=hm.size;refine⟨_,_,ρ2,x,R.putOk _ _ _ (Tr.holds_bind hK),?_,hag,?_,?_,rfl⟩
     .show h.nx<=h.nx+(A.R+R.R);omega
     .exact {
       os:=hme.os.trans hm.os
       tape:=hme.tape.trans hm.tape
       output:=hme.output.trans hm.output
       size:=Nat.le_trans hm.size hme.size
       block:=λi hi hM=>by
        rw[hme.block i (by omega) λhf=>?_]
        .exact hm.block i hi hM
        .rcases hfM i hf with h1|h1
         .omega
         .exact hM h1
       lt:=λk hk=>by
        show k<h.nx+T;rcases hget k with ⟨p,so,rfl,hp',_,_⟩|⟨j,so,hj,_,_⟩|e|⟨_,_,e⟩
        .omega
        .have:=(hrρ j k hj).2.2;omega
        .have hk:(h2.get k).live=true:=hk;rw[e]at hk;cases hk
        .have hk:(h2.get k).live=true:=hk;rw[e]at hk;have:=hm.lt k hk;omega
       ob:=λk=>by
        show(h2.get k).fit (h.nx+T) ρ2 (ρ2 k) _;rcases hget k with ⟨p,so,rfl,hp',hso',e⟩|⟨j,so,hj,hso',e⟩|e|⟨e1,e2,e⟩
        .obtain⟨so',k1,_,k3⟩:=hnb p so hso';rw[e,r2n p hp'];have:=hme.ob (A.q+p);rw[k1,show(canonH (canonO A R (fn g d))).nx=A.q+(A.R+R.R)from hlenO]at this;exact k3 _ _ this
        .obtain⟨so',k1,_,k3⟩:=hno j so hso';obtain⟨z1,z2,z3⟩:=hrρ j k hj;rw[e,r2o k z3,<-z1];have:=hme.ob j;rw[k1,show(canonH (canonO A R (fn g d))).nx=A.q+(A.R+R.R)from hlenO]at this;exact k3 _ _ this
        .rw[e];trivial
        .rw[e];by_cases hlive:k<h.nx
         .rw[r2o k hlive];refine SO.fit_mono (by omega) hag (hm.ob_other λho=>?_);exact hme.block _ (hm.lt_heap ho) (hfk k e1 e2 ho)
         .have:h.get k=.dead:=by
           cases hg:h.get k with
           |dead=>rfl
           |_=>have:=hm.lt k (by rw[hg];rfl);omega
          rw[this];trivial
       ow:=λk hk=>by
        rcases hsrc k hk with ⟨i,s1,s2,_⟩|⟨_,_,_,s4,s5⟩
        .rw[s2];rcases hme.ow i s1 with h1|h1
         .exact .inl (by omega)
         .exact hfM _ h1
        .rw[s5];exact hm.ow k s4
       fz:=hme.fz
       sep:=λk hk=>by
        show ρe.mem (ρ2 k).blk=none;rcases hsrc k hk with ⟨i,s1,s2,_⟩|⟨_,s2,s3,s4,s5⟩
        .rw[s2];exact hme.sep i s1
        .rw[s5];cases hc:ρe.mem (ρ k).blk with
         |none=>rfl
         |some o=>
          have:=hme.old _ o hc (hm.lt_heap s4) (hfk k s2 s3 s4);rw[hlo]at this;have:ρ.mem (ρ k).blk=some o:=this;rw[hm.sep k s4]at this;cases this
       old:=λb o hb hlt hM=>by
        have h1:=hme.old b o hb (by omega) λhf=>by
         rcases hfM b hf with h1|h1
         .omega
         .exact hM h1
        rw[hlo]at h1;exact hm.old b o h1 hlt hM
       env:=hme.env
       ab:=by
        obtain⟨Se,hSe⟩:=hme.ab
        let c2:Nat->Nat->Prop:=λk i=>(∃p,k=h.nx+p/\i=A.q+p)\/(k<h.nx/\i<A.q/\rs[i]?=some k)
        have hu:∀k i i',c2 k i->c2 k i'->i=i':=λk i i' h1 h2=>by
         rcases h1 with ⟨p,rfl,rfl⟩|⟨z1,z2,z3⟩<;>rcases h2 with ⟨p',e,rfl⟩|⟨z1',z2',z3'⟩
         .omega
         .omega
         .omega
         .obtain⟨y1,y2⟩:=List.getElem?_eq_some_iff.1 z3;obtain⟨y3,y4⟩:=List.getElem?_eq_some_iff.1 z3';have hp:=List.pairwise_iff_getElem.1 n1;rcases Nat.lt_trichotomy i i' with hlt|he|hlt
          .exact absurd (y2.trans y4.symm) (hp i i' y1 y3 hlt)
          .exact he
          .exact absurd (y4.trans y2.symm) (hp i' i y3 y1 hlt)
        let S2:Nat->Nat->Prop:=λk b=>(∃i,c2 k i/\Se i b)\/((¬∃i,c2 k i)/\S k b)
        have hS2:∀k i,c2 k i->∀b,S2 k b↔Se i b:=λk i hc b=>⟨λh=>by
         rcases h with ⟨i',h1,h2⟩|⟨h1,_⟩
         .rw[hu k i i' hc h1];exact h2
         .exact absurd ⟨i,hc⟩ h1,λh=>.inl ⟨i,hc,h⟩⟩
        have hS3:∀k,k<h.nx->k∉rs->∀b,S2 k b↔S k b:=λk h1 h2 b=>⟨λh=>by
         rcases h with ⟨i',h3,_⟩|⟨_,h3⟩
         .rcases h3 with ⟨p,h3,_⟩|⟨_,_,h3⟩
          .omega
          .exact absurd (List.mem_of_getElem? h3) h2
         .exact h3,λh=>.inr ⟨λ⟨i,h3⟩=>by
          rcases h3 with ⟨p,h3,_⟩|⟨_,_,h3⟩
          .omega
          .exact h2 (List.mem_of_getElem? h3),h⟩⟩
        refine⟨S2,λk a hk=>?_⟩;rcases habs2 k a hk with ⟨i,s1,s2,s3⟩|⟨t1,t2,t3,t4,t5⟩
        .have hk2:=hS2 k i s3;have hk3:S2 k=Se i:=funext λb=>propext (hk2 b);rw[hk3];obtain⟨q1,q2⟩:=hSe i a s1;rw[s2];refine⟨q1,λb hb=>?_⟩;obtain⟨r1,r2,r3,r4,r5⟩:=q2 b hb;refine⟨?_,r2,r3,λk' hk'=>?_,λk' a' hk' hb'=>?_⟩
         .rcases r1 with h1|h1
          .exact .inl (by omega)
          .exact hfM _ h1
         .rcases hsrc k' hk' with ⟨i',s1',s2',_⟩|⟨_,t2',t3',t4',t5'⟩
          .rw[s2'];exact r4 i' s1'
          .rw[t5'];rintro rfl;rcases r1 with h1|h1
           .have:=hm.lt_heap t4';omega
           .exact hfk k' t2' t3' t4' h1
         .rcases habs2 k' a' hk' with ⟨i',s1',s2',s3'⟩|⟨_,t2',t3',t4',t5'⟩
          .have hb':=(hS2 k' i' s3' b).1 hb';have hii:=r5 i' a' s1' hb';subst hii;rcases s3 with ⟨p,rfl,hp1⟩|⟨z1,z2,z3⟩<;>rcases s3' with ⟨p',rfl,hp2⟩|⟨z1',z2',z3'⟩
           .omega
           .omega
           .omega
           .rw[z3]at z3';simpa using z3'
          .exfalso;have hb':=(hS3 k' ‹_› t2' b).1 hb';rcases r1 with h1|h1
           .have:=hS.lt t4' hb';omega
           .exact hfa k' a' b t2' t3' t4' hb' h1
        .have hk3:S2 k=S k:=funext λb=>propext (hS3 k t1 t2 b);rw[hk3];obtain⟨q1,q2⟩:=hS k a t4;rw[t5];refine⟨Env.rep_cl _ _ _ _ _ _ _ (λb hb=>?_) (λb o hb _=>hmemle b o hb) q1,λb hb=>?_⟩
         .rcases hb with rfl|hb
          .exact hme.block _ (hm.lt_heap (own_abs t4)) (hfk k t2 t3 (own_abs t4))
          .exact hme.block _ (hS.lt t4 hb) (hfa k a b t2 t3 t4 hb)
         .obtain⟨r1,r2,r3,r4,r5⟩:=q2 b hb;have hnf:=hfa k a b t2 t3 t4 hb;refine⟨r1,?_,Nat.lt_of_lt_of_le r3 hme.size,λk' hk'=>?_,λk' a' hk' hb'=>?_⟩
          .show ρe.mem b=none;cases hc:ρe.mem b with
           |none=>rfl
           |some o=>
            have:=hme.old _ o hc r3 hnf;rw[hlo]at this;have:ρ.mem b=some o:=this;rw[r2]at this;cases this
          .rcases hsrc k' hk' with ⟨i',s1',s2',_⟩|⟨_,t2',t3',t4',t5'⟩
           .rw[s2'];rintro rfl;rcases hme.ow i' s1' with h1|h1
            .omega
            .exact hnf h1
           .rw[t5'];exact r4 k' t4'
          .rcases habs2 k' a' hk' with ⟨i',s1',s2',s3'⟩|⟨_,t2',t3',t4',t5'⟩
           .exfalso;have hb':=(hS2 k' i' s3' b).1 hb';rcases((hSe i' a' s1').2 b hb').1 with h1|h1
            .omega
            .exact hnf h1
           .exact r5 k' a' t4' ((hS3 k' ‹_› t2' b).1 hb')
       inj:=λk k' hk hk' he=>by
        rcases hsrc k hk with ⟨i,s1,s2,s3⟩|⟨t1,t2,t3,t4,t5⟩<;>rcases hsrc k' hk' with ⟨i',s1',s2',s3'⟩|⟨t1',t2',t3',t4',t5'⟩
        .rw[s2,s2']at he;have hii:=hme.inj i i' s1 s1' he;subst hii;rcases s3 with ⟨p,rfl,hp1⟩|⟨z1,z2,z3⟩<;>rcases s3' with ⟨p',rfl,hp2⟩|⟨z1',z2',z3'⟩
         .omega
         .omega
         .omega
         .rw[z3]at z3';simpa using z3'
        .rw[s2,t5']at he;exfalso;rcases hme.ow i s1 with h1|h1
         .rw[he]at h1;have:=hm.lt_heap t4';omega
         .rw[he]at h1;exact hfk k' t2' t3' t4' h1
        .rw[t5,s2']at he;exfalso;rcases hme.ow i' s1' with h1|h1
         .rw[<-he]at h1;have:=hm.lt_heap t4;omega
         .rw[<-he]at h1;exact hfk k t2 t3 t4 h1
        .rw[t5,t5']at he;exact hm.inj k k' t4 t4' he}
     .exact hshR.1 x hx
    .exact hK.elim
   .exact hK.elim
  .exact hK.elim
 .exact hK.elim
theorem conT_b:ConB (conT A D R fn pre):=λargs h=>by
 unfold conT;split
 .split
  .split
   .split
    .refine asks_each (Tr.each_bind (p:=λy:SV×SH=>y.2.b=h.b) (λy=>?_) _);show h.b=h.b;rfl
    .trivial
   .trivial
  .trivial
 .trivial
def bconT(A:TA κ)(D:DA γ)(R:TR δ)(fn:κ->γ->κ×δ)(pre:κ->γ->List Prop):BCon:=⟨conT A D R fn pre,conT_b⟩
theorem bconT_ok(hp:FnT P f A D R fn pre):FnOk P f (bconT A D R fn pre).g:=conT_ok hp
end
end Go.Sx

namespace Go.Sx
open Go.RowKit
variable[Env]
variable{κ:Type}
def TR.agg(C:CT κ):TR κ where
 R:=C.R
 val b g:=.agg (C.cells b g)
 blks b g:=C.blks b g
 read h s:=match s.agg? with
  |some xs=>C.read h xs
  |none=>none
 put b g:=(C.put b g).bind λy=>.ret (.agg y.1,y.2)
 blen b g:=C.blen b g
 ilen h s g ps ids fzs hr:=by
  split at hr
  .exact C.ilen _ _ _ _ _ _ hr
  .cases hr
 ok N k0 h s g ps ids fzs hr hp:=by
  split at hr
  .rename_i xs hs;have hC:=C.ok N k0 h xs g ps ids fzs hr hp;refine⟨hC.blk,λn m ρ ρ' x hn hz hf=>?_⟩;obtain⟨y,r,rfl,hy,hr'⟩:=fits_cons hf;obtain⟨l,rfl,hl⟩:=SV.agg_fit hs hy;exact⟨⟨l,rfl,hC.fit n m ρ ρ' l hn hz hl⟩,by cases fits_nil hr';trivial⟩
  .cases hr
 shf b b' g n m ρ ρ' hm hk hb:=by
  obtain⟨s1,s2⟩:=C.shf b b' g n m ρ ρ' hm hk hb
  exact⟨λx hf=>by
   obtain⟨l,rfl,hl⟩:=hf;exact⟨l,rfl,s1 l hl⟩,s2⟩
 putOk b g K h:=C.putOk b g _ (Tr.holds_bind h)
end Go.Sx

namespace Go.Sx
open Go.RowKit
variable[Env]
section
variable{α δ:Type}{P:Program}{f:Nat}
def conV(A:Rv α)(R:Dv δ)(fn:α->δ)(pre:α->List Prop):Con:=λargs h=>
 match args with
 | [s]=>match A.dec h s with
  |some (g,ps)=>asks (ps++pre g) (.ret (R.enc (fn g),h))
  |none=>.bad 621
 |_=>.bad 622
theorem conV_ok{A:Rv α}{R:Dv δ}{fn:α->δ}{pre:α->List Prop}(hp:FnPure P f (.one A.D) R fn pre)(hR:∀r,Pu (R.enc r)):FnOk P f (conV A R fn pre):=by
 intro M w0 w ρ h args vs K hK hm hfits;unfold conV at hK;split at hK
 .rename_i s;split at hK
  .rename_i g ps hd;obtain⟨hq,hK⟩:=asks_holds hK;obtain⟨x,r,rfl,hx,hr⟩:=fits_cons hfits;have:=fits_nil hr;subst this;have hv:=A.ok (G:=λb=>w.heap[b]?) ⟨hm,hm.fz,λ_ _ _ h=>h⟩ hd (λp h'=>hq p (List.mem_append_left _ h')) hx;have hv2:SV.fits h.nx ⟨ρ.lc,λb=>w.heap[b]?,ρ.lo⟩ ((DA.one A.D).enc g) [x]:=⟨hv,trivial⟩;have hv3:=(DA.one A.D).cl _ _ 0 ⟨ρ.lc,λb=>w.heap[b]?,ρ.lo⟩ (emp λb=>w.heap[b]?) [x] (λ_ _ h=>h) hv2;refine(hp w (λb=>w.heap[b]?) g [x] (λ_ _ h=>h) (Env.mono _ _ (λb o hb _=>hm.fz b o hb) hm.env) (λp h'=>hq p (List.mem_append_right _ h')) hv3).mono ?_;rintro e w' ⟨x,rfl,hb,hx⟩;exact⟨_,h,ρ,x,hK,Nat.le_refl _,Agree.refl _ _,hm.below hb,hR _ _ _ _ _ _ hx,rfl⟩
  .exact hK.elim
 .exact hK.elim
def bconV(A:Rv α)(R:Dv δ)(fn:α->δ)(pre:α->List Prop):BCon:=⟨conV A R fn pre,λargs h=>by
 unfold conV;split
 .split
  .exact asks_each rfl
  .trivial
 .trivial⟩
end
end Go.Sx

namespace Go.Sx
open Go.RowKit
variable[Env]
def lconAlt(N:Nat)(c1 c2:LCon):LCon:=⟨λσ=>bif Nat.beq σ.h.nx N then c1.g σ else c2.g σ,λσ=>by
 cases Nat.beq σ.h.nx N with
 |true=>exact c1.on σ
 |false=>exact c2.on σ⟩
theorem altL_ok{P:Program}{b:Code}{N:Nat}{c1 c2:LCon}(h1:LoopOk P b c1.g)(h2:LoopOk P b c2.g):LoopOk P b (lconAlt N c1 c2).g:=by
 intro M w0 w ρ σ a K hK hm;have hK:(bif Nat.beq σ.h.nx N then c1.g σ else c2.g σ).Holds K:=hK;cases hc:Nat.beq σ.h.nx N with
 |true=>rw[hc]at hK;exact h1 M w0 w ρ σ a K hK hm
 |false=>rw[hc]at hK;exact h2 M w0 w ρ σ a K hK hm
end Go.Sx

namespace Go.Sx
open Go.RowKit
variable[Env]
section
variable{α:Type}(A:El α)
def decN(el:Nat->List SV):Nat->Option (List α×List Prop)
 |0=>some ([],[])
 |k+1=>match decN el k with
  |some (xs,ps)=>match A.decs (el k)with
   |some (a,qs)=>some (xs++[a],ps++qs)
   |none=>none
  |none=>none
theorem decN_ok{el:Nat->List SV}:∀(n:Nat)(xs:List α)(ps:List Prop),decN A el n=some (xs,ps)->(∀p∈ps,p)->xs=A.lst n el/\∀e,e<n->A.Ok (el e)
 |0,xs,ps,h,_=>by
  simp only[decN,Option.some.injEq,Prod.mk.injEq]at h;exact⟨h.1.symm,λe he=>absurd he (Nat.not_lt_zero e)⟩
 |n+1,xs,ps,h,hp=>by
  unfold decN at h;split at h
  .rename_i ys qs h1;split at h
   .rename_i a ss h2;simp only[Option.some.injEq,Prod.mk.injEq]at h;obtain⟨rfl,rfl⟩:=h;obtain⟨k1,k2⟩:=decN_ok n ys qs h1 λp hp'=>hp p (List.mem_append_left _ hp');refine⟨?_,λe he=>?_⟩
    .rw[k1];unfold El.lst;rw[List.range_succ,List.map_append];congr 1;simp only[List.map_cons,List.map_nil,El.get,h2]
    .by_cases hen:e<n
     .exact k2 e hen
     .have:e=n:=by omega
      subst this;exact⟨a,ss,h2,λp hp'=>hp p (List.mem_append_right _ hp')⟩
   .cases h
  .cases h
def Dv.listC:Dv (List α) where
 dec s:=match s with
  | .rs sz n el=>bif Nat.beq sz A.sz then decN A el n else none
  |_=>none
 enc:=(Dv.list A).enc
 bd:=(Dv.list A).bd
 cl:=(Dv.list A).cl
 ok s a ps n ρ x hd hp hf:=by
  split at hd
  .rename_i sz m el;cases hb:(Nat.beq sz A.sz)with
   |false=>rw[hb]at hd;cases hd
   |true=>
    rw[hb,cond_true]at hd;obtain⟨k1,k2⟩:=decN_ok A m _ _ hd hp;rw[k1]
    exact(Dv.list A).ok (.rs sz m el) _ [∀e,e<m->A.Ok (el e)] n ρ x (by simp[Dv.list,hb]) (by
     intro p hp;simp only[List.mem_singleton]at hp;subst hp;exact k2) hf
  .cases hd
 fb:=(Dv.list A).fb
def Rv.listN:Rv (List α) where
 D:=.list A
 dec h s:=match s with
  | .sl i o l c=>(Rv.of (.listC A)).dec h (.sl i o l c)
  |s=>(Rv.list A).dec h s
 ok {_ _ _ _ _ _} hv {s r ps x} hd hp hf:=by
  split at hd
  .exact(Rv.of (.listC A)).ok hv hd hp hf
  .exact(Rv.list A).ok hv hd hp hf
def RvE.listN:RvE (List α) where
 E:=eList A
 dec h l:=match l with
  | [s]=>(Rv.listN A).dec h s
  |_=>none
 ok {_ _ _ _ _ _} hv {s r ps x} hd hp hf:=by
  split at hd
  .obtain⟨y,r',rfl,hy,hr⟩:=fits_cons hf;have:=fits_nil hr;subst this;exact⟨(Rv.listN A).ok hv hd hp hy,trivial⟩
  .cases hd
end
end Go.Sx
