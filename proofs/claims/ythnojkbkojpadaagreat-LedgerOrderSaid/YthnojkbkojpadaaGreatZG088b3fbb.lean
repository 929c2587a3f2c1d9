/- Functions on own trees: a call. -/
import Derived.Test.YthnojkbkojpadaaGreatZG07dea7ef
import Derived.Test.YthnojkbkojpadaaGreatZG04e10fff
import Derived.Test.YthnojkbkojpadaaGreatZG0639e578
import Derived.Test.YthnojkbkojpadaaGreatZG056c14bf
import Derived.Shelf.SlMaps.Clone
import Derived.Test.YthnojkbkojpadaaGreatZG00fe4c0d
set_option linter.unusedVariables false
set_option linter.unusedSimpArgs false
set_option linter.constructorNameAsVariable false
set_option linter.all false

namespace Go.Sx
open Go.RowKit
variable[Env]
def qiu(q:Nat):List SV:=(List.range q).map λk=>.p k 0
def q4p(q:Nat)(ρ:Rh):List Value:=(List.range q).map λk=>.pointer (some ⟨(ρ k).blk,(ρ k).off+0,none⟩)
section
variable{κ γ δ:Type}
def q2k(A:TA κ)(g:κ):List SO:=A.objs A.q g++A.blks A.q g
def q2f(A:TA κ)(R:TR δ)(x:κ×δ):List SO:=A.objs A.q x.1++(A.blks A.q x.1++R.blks (A.q+A.R) x.2)
theorem qkz(A:TA κ)(g:κ):(q2k A g).length=A.q+A.R:=by simp[q2k,A.olen,A.blen]
theorem qky(A:TA κ)(R:TR δ)(x:κ×δ):(q2f A R x).length=A.q+(A.R+R.R):=by simp[q2f,A.olen,A.blen,R.blen]
def FnT(P:Program)(f:Nat)(A:TA κ)(D:DA γ)(R:TR δ)(fn:κ->γ->κ×δ)(pre:κ->γ->List Prop):Prop:=
 ∀(M:Nat->Prop)(w:World)(ρ:Rh)(g:κ)(d:γ)(vs:List Value),HM M w ρ (q0u (q2k A g)) w->(∀p∈pre g d,p)->SV.fits 0 (emp ρ.mem) (D.enc d) vs->
  Calls P f (q4p A.q ρ++vs).toArray w λe w'=>∃x ρ',e=.returned x/\(∀k,k<A.q->ρ' k=ρ k)/\(∀b o,ρ.mem b=some o->ρ'.mem b=some o)/\ρ'.lo=ρ.lo/\
   HM M w ρ' (q0u (q2f A R (fn g d))) w'/\(R.val (A.q+A.R) (fn g d).2).fit (A.q+(A.R+R.R)) ρ' x
def FnTR(P:Program)(f:Nat)(A:TA κ)(D:DA γ)(R:TR δ)(post:κ->γ->κ×δ->Prop)(pre:κ->γ->List Prop):Prop:=
 ∀(M:Nat->Prop)(w:World)(ρ:Rh)(g:κ)(d:γ)(vs:List Value),HM M w ρ (q0u (q2k A g)) w->(∀p∈pre g d,p)->SV.fits 0 (emp ρ.mem) (D.enc d) vs->
  Calls P f (q4p A.q ρ++vs).toArray w λe w'=>∃x ρ' r,post g d r/\e=.returned x/\(∀k,k<A.q->ρ' k=ρ k)/\(∀b o,ρ.mem b=some o->ρ'.mem b=some o)/\ρ'.lo=ρ.lo/\
   HM M w ρ' (q0u (q2f A R r)) w'/\(R.val (A.q+A.R) r.2).fit (A.q+(A.R+R.R)) ρ' x
theorem FnTR.toT{P:Program}{f:Nat}{A:TA κ}{D:DA γ}{R:TR δ}{fn:κ->γ->κ×δ}{pre:κ->γ->List Prop}(h:FnTR P f A D R (λg d r=>r=fn g d) pre):FnT P f A D R fn pre:=λM w ρ g d vs h1 h2 h3=>
 (h M w ρ g d vs h1 h2 h3).mono λe w'⟨x,ρ',r,hr,q⟩=>by subst hr;exact⟨x,ρ',q⟩
def q6w(P:Program)(Γ:Gam)(Λ:Lam)(n f:Nat)(A:TA κ)(R:TR δ)(g:κ)(args:List SV):Tr (κ×δ):=
 (qk0 P Γ Λ n f (qiu A.q++args) (q0u (q2k A g))).bind λy=>
  match A.read y.2 (List.range A.q)with
  |some (g',ps,ids,fs)=>match R.read y.2 y.1 with
   |some (r,qs,js,gs)=>match qpe A.q (ids++js)&&(fs++gs).all λj=>Nat.ble A.q j&&!isIn j (q6b (ids++js))with
    |true=>asks (ps++qs) (.ret (g',r))
    |false=>.bad 710
   |none=>.bad 711
  |none=>.bad 712
end
section
variable{P:Program}{Γ:Gam}{Λ:Lam}{f:Nat}{κ γ δ:Type}{A:TA κ}{D:DA γ}{R:TR δ}{fn:κ->γ->κ×δ}{pre:κ->γ->List Prop}
theorem qwb{q n:Nat}{ρ:Rh}(h:q<=n):SV.fits n ρ (qiu q) (q4p q ρ):=by
 refine q76 (by simp[qiu,q4p]) λj s x h1 h2=>?_
 have hj:j<q:=by
  have:=(List.getElem?_eq_some_iff.1 h1).1;simpa [qiu]using this
 simp only[qiu,q4p,List.getElem?_map,List.getElem?_range hj,Option.map_some,Option.some.injEq]at h1 h2;subst h1;subst h2;exact⟨by omega,rfl⟩
theorem z0b{q j:Nat}(h:j<q):(List.range q)[j]?=some j:=List.getElem?_range h
theorem qyd{post:κ->γ->κ×δ->Prop}(hΓ:∀f g,Γ.g f=some g->FnOk P f g)(hΛ:∀f k L,Λ f k=some L->∀b∈q03 P f,lkey b=k->q06 P b L.g)(n:Nat)
  (hT:∀g d,D.bd d->(∀p∈pre g d,p)->(q6w P Γ Λ n f A R g (D.enc d)).Holds (post g d)):FnTR P f A D R post pre:=by
 intro M w ρ g d vs hm hpre hfit;have hT:=hT g d (D.fb _ _ _ _ hfit) hpre;have hnx:(q0u (q2k A g)).nx=A.q+A.R:=qkz A g
 have hargs:SV.fits (q0u (q2k A g)).nx ρ (qiu A.q++D.enc d) (q4p A.q ρ++vs):=
  q0q (qwb (by omega)) (D.cl d 0 _ (emp ρ.mem) ρ vs (λ_ _ h=>h) hfit)
 have h0:=q8s hΓ hΛ n M w w ρ _ _ _ _ (Tr.holds_bind hT) hm hargs;refine h0.mono ?_;rintro e w' ⟨s,h',ρ1,x,h1,h2,h3,h4,h5,rfl⟩;simp only at h1;split at h1
 .rename_i g' ps ids fs hA;split at h1
  .rename_i r qs js gs hR;split at h1
   .rename_i hchk;obtain⟨hq,h1⟩:=q1d h1;have h1:post g d (g',r):=h1;simp only[Bool.and_eq_true,List.all_eq_true,Bool.not_eq_true']at hchk;obtain⟨c1,c2⟩:=hchk;obtain⟨i1,i2⟩:=q9m c1;obtain⟨la,lq⟩:=A.ilen _ _ _ _ _ _ hA;have lj:=R.ilen _ _ _ _ _ _ hR;obtain⟨ρ2,e1,e2,e3,hm2,hfz⟩:=HM.freezeAll (fs++gs) h4
    let ρ3:Rh:=⟨λk=>if k<A.q then ρ1 k else match(ids++js)[k-A.q]? with|some (some j)=>ρ1 j|_=>⟨0,0,0,true⟩,ρ2.mem,ρ2.lo⟩
    have r3l:∀k,k<A.q->ρ3 k=ρ1 k:=λk hk=>by show(if _ then _ else _)=_;rw[if_pos hk]
    have r3y:∀k j:Nat,(ids++js)[k]?=some (some j)->ρ3 (A.q+k)=ρ1 j:=λk j hk=>by
     show(if _ then _ else _)=_;rw[if_neg (by omega),show A.q+k-A.q=k by omega,hk]
    have r3n:∀k:Nat,(ids++js)[k]?=some none->ρ3 (A.q+k)=⟨0,0,0,true⟩:=λk hk=>by
     show(if _ then _ else _)=_;rw[if_neg (by omega),show A.q+k-A.q=k by omega,hk]
    have hmm:∀b o,ρ1.mem b=some o->ρ3.mem b=some o:=e2;have hrn:Rn A.q 0 (ids++js) (A.q+(A.R+R.R)) ρ1 ρ3:=⟨by rw[List.length_append];omega,⟨r3l,hmm,e3⟩,λk j hk=>by simpa using r3y k j hk,λk hk=>by simpa using r3n k hk⟩;have hz:FzR h'.nx h' (fs++gs) ρ1 ρ3:=λj hj=>⟨_,h4.ob j,λho=>hfz j hj ho⟩;obtain⟨a1,a2⟩:=A.ok A.q 0 _ _ _ _ _ _ hA λp h=>hq p (List.mem_append_left _ h);have r1:=R.ok A.q (0+ids.length) _ _ _ _ _ _ hR λp h=>hq p (List.mem_append_right _ h);rw[show A.q+(0+ids.length)=A.q+A.R by omega]at r1
    have hkeep:∀j,j<A.q\/j∈q6b (ids++js)->(kill (fs++gs) h').get j=h'.get j:=λj hj=>by
     refine quz _ _ _ λhc=>?_;obtain⟨d1,d2⟩:=c2 j hc;have:=Nat.le_of_ble_eq_true d1;rcases hj with hj|hj
     .omega
     .exact qmb d2 hj
    have hin:∀k j:Nat,(ids++js)[k]?=some (some j)->j∈q6b (ids++js):=λk j h=>List.mem_filterMap.2 ⟨some j,List.mem_of_getElem? h,rfl⟩;have lsrc:((List.range A.q).map some).length=A.q:=by simp
    have hsl:∀k,k<A.q->((List.range A.q).map some++(ids++js))[k]?=some (some k):=λk hk=>by
     rw[List.getElem?_append_left (by omega),List.getElem?_map,List.getElem?_range hk];rfl
    have hsr:∀k,((List.range A.q).map some++(ids++js))[A.q+k]?=(ids++js)[k]?:=λk=>by
     rw[List.getElem?_append_right (by omega),lsrc,show A.q+k-A.q=k by omega]
    have hge:∀k,A.q<=k->∃k',k=A.q+k':=λk hk=>⟨k-A.q,by omega⟩;have hlen:(q2f A R (g',r)).length=A.q+(A.R+R.R):=qky A R (g',r)
    have hrel:=hm2.relay (sos:=q2f A R (g',r)) (src:=(List.range A.q).map some++(ids++js)) ρ3 (λk k' j hk hk'=>by
      rcases Nat.lt_or_ge k A.q with h1|h1<;>rcases Nat.lt_or_ge k' A.q with h2|h2
      .rw[hsl k h1]at hk;rw[hsl k' h2]at hk';simp only[Option.some.injEq]at hk hk';omega
      .obtain⟨k',rfl⟩:=hge k' h2;rw[hsl k h1]at hk;rw[hsr]at hk';simp only[Option.some.injEq]at hk;have:=i2 _ _ hk';omega
      .obtain⟨k,rfl⟩:=hge k h1;rw[hsl k' h2]at hk';rw[hsr]at hk;simp only[Option.some.injEq]at hk';have:=i2 _ _ hk;omega
      .obtain⟨k,rfl⟩:=hge k h1;obtain⟨k',rfl⟩:=hge k' h2;rw[hsr]at hk hk';rw[i1 _ _ _ hk hk']) rfl rfl (λk j hk=>by
      rw[show ρ2 j=ρ1 j from congrFun e1 j];rcases Nat.lt_or_ge k A.q with h1|h1
      .rw[hsl k h1]at hk;simp only[Option.some.injEq]at hk;subst hk;exact r3l k h1
      .obtain⟨k,rfl⟩:=hge k h1;rw[hsr]at hk;exact r3y k j hk) (λk _ hk=>by
      rcases Nat.lt_or_ge k A.q with h1|h1
      .rw[hsl k h1]at hk;cases hk
      .obtain⟨k,rfl⟩:=hge k h1;rw[hsr]at hk;exact r3n k hk) (λk so hso=>by
      rw[hlen];have e1':∀j,ρ2 j=ρ1 j:=λj=>congrFun e1 j;rcases Nat.lt_or_ge k A.q with hk|hk
      .right;unfold q2f at hso;rw[List.getElem?_append_left (by rw[A.olen];exact hk)]at hso;obtain⟨o1,o2,o4,o3⟩:=a2 k k so (z0b hk) (by simpa using hso);refine⟨k,hsl k hk,⟨λL _=>?_,λa ha=>?_⟩,λhf=>?_⟩
       .rw[hkeep k (.inl hk)];exact o1 L
       .rw[hkeep k (.inl hk)];exact(o4 a).1 ha
       .rw[hkeep k (.inl hk),e1']at hf;rw[e1'];rw[z2j]at hf;have hf1:(h'.get k).fit h'.nx ρ1 (ρ1 k) w'.heap[(ρ1 k).blk]?:=h4.ob k;exact o3 _ _ _ _ _ _ hrn.left hz.left hf1
      .obtain⟨k,rfl⟩:=hge k hk;unfold q2f at hso;rw[List.getElem?_append_right (by rw[A.olen];omega),A.olen,show A.q+k-A.q=k by omega]at hso;rw[hsr];by_cases hkA:k<A.R
       .rw[List.getElem?_append_left (by rw[A.blen];exact hkA)]at hso;rw[List.getElem?_append_left (by omega)];rcases a1.blk k so (by simpa using hso)with ⟨b1,b2⟩|⟨j,b1,b2,b3⟩
        .exact .inl ⟨b1,b2⟩
        .have hjm:=hin k j (by rw[List.getElem?_append_left (by omega)];exact b1);refine .inr ⟨j,b1,?_,λ_=>?_⟩
         .rw[hkeep j (.inr hjm)];exact b2
         .rw[e1'];exact b3 _ _ _ _ _ _ hrn.left hz.left (h4.ob j)
       .rw[List.getElem?_append_right (by rw[A.blen];omega),A.blen]at hso;rw[List.getElem?_append_right (by omega),la];rcases r1.blk (k-A.R) so hso with ⟨b1,b2⟩|⟨j,b1,b2,b3⟩
        .exact .inl ⟨b1,b2⟩
        .have hjm:=hin k j (by rw[List.getElem?_append_right (by omega),la];exact b1);refine .inr ⟨j,b1,?_,λ_=>?_⟩
         .rw[hkeep j (.inr hjm)];exact b2
         .rw[e1'];exact b3 _ _ _ _ _ _ hrn.right hz.right (h4.ob j))
    refine⟨x,ρ3,(g',r),h1,rfl,λk hk=>?_,λb o hb=>hmm _ _ (h3.2.1 b o hb),?_,hrel,?_⟩
    .rw[r3l k hk];exact h3.1 k (by rw[hnx];omega)
    .show ρ2.lo=_;rw[e3];exact h3.2.2
    .have:=r1.fit _ _ _ _ [x] hrn.right hz.right ⟨h5,trivial⟩;exact this.1
   .exact h1.elim
  .exact h1.elim
 .exact h1.elim
theorem q9b(hΓ:∀f g,Γ.g f=some g->FnOk P f g)(hΛ:∀f k L,Λ f k=some L->∀b∈q03 P f,lkey b=k->q06 P b L.g)(n:Nat)
  (hT:∀g d,D.bd d->(∀p∈pre g d,p)->(q6w P Γ Λ n f A R g (D.enc d)).Holds (·=fn g d)):FnT P f A D R fn pre:=FnTR.toT (qyd hΓ hΛ n hT)
theorem q9c(hΓ:∀f g,Γ.g f=some g->FnOk P f g)(hΛ:∀f k L,Λ f k=some L->∀b∈q03 P f,lkey b=k->q06 P b L.g)(n:Nat)(z:κ×δ)(S:κ->γ->Prop)
  (hS:∀g d,(q6w P Γ Λ n f A R g (D.enc d)).side=S g d) (he:∀g d,(q6w P Γ Λ n f A R g (D.enc d)).ev z=fn g d) (hs:∀g d,D.bd d->(∀p∈pre g d,p)->S g d):FnT P f A D R fn pre:=
 q9b hΓ hΛ n λg d h1 h2=>by
  have:=Tr.side_holds z (by rw[hS];exact hs g d h1 h2:(q6w P Γ Λ n f A R g (D.enc d)).side);rw[he g d]at this;exact this
theorem qhs{fn':κ->γ->κ×δ}{pre':κ->γ->List Prop}(h:FnT P f A D R fn pre)(hp:∀g d,(∀p∈pre' g d,p)->∀p∈pre g d,p)(he:∀g d,D.bd d->(∀p∈pre' g d,p)->fn g d=fn' g d):FnT P f A D R fn' pre':=λM w ρ g d vs hm hq hf=>by
 have:=h M w ρ g d vs hm (hp g d hq) hf;rw[he g d (D.fb _ _ _ _ hf) hq]at this;exact this
def qfy:Nat->List SV->Option (List Nat×List SV)
 |0,l=>some ([],l)
 |q+1,.p r 0::l=>match qfy q l with
  |some (rs,rest)=>some (r::rs,rest)
  |none=>none
 |_+1,_=>none
def conT(A:TA κ)(D:DA γ)(R:TR δ)(fn:κ->γ->κ×δ)(pre:κ->γ->List Prop):Con:=λargs h=>
 match qfy A.q args with
 |some (rs,rest)=>match A.read h rs with
  |some (g,ps,ids,fs)=>match D.dec rest with
   |some (d,qs)=>match qpe 0 (rs.map some++ids)&&fs.isEmpty with
    |true=>asks (ps++(qs++pre g d)) ((R.put (h.nx+A.R) (fn g d).2).bind λy=>.ret (y.1,
     ⟨h.nx+(A.R+R.R),whole (qe8 h.nx (A.blks h.nx (fn g d).1++y.2))++(whole (rs.zip (A.objs h.nx (fn g d).1))++(whole ((q6b ids).map λi=>(i,SO.dead))++h.l)),h.b⟩))
    |false=>.bad 713
   |none=>.bad 714
  |none=>.bad 715
 |none=>.bad 716
theorem qiv:∀{q:Nat}{args:List SV}{rs:List Nat}{rest:List SV}{n:Nat}{ρ:Rh}{vs:List Value},qfy q args=some (rs,rest)->SV.fits n ρ args vs->
  ∃vs',vs=(rs.map λr=>Value.pointer (some ⟨(ρ r).blk,(ρ r).off+0,none⟩))++vs'/\SV.fits n ρ rest vs'/\rs.length=q/\∀r∈rs,r<n
 |0,args,rs,rest,n,ρ,vs,h,hf=>by
  simp only[qfy,Option.some.injEq,Prod.mk.injEq]at h;obtain⟨rfl,rfl⟩:=h;exact⟨vs,rfl,hf,rfl,λr hr=>by cases hr⟩
 |q+1,args,rs,rest,n,ρ,vs,h,hf=>by
  unfold qfy at h;split at h
  .rename_i h0;omega
  .rename_i q' r l h0;split at h
   .rename_i rs' rest' hr;simp only[Option.some.injEq,Prod.mk.injEq]at h;obtain⟨rfl,rfl⟩:=h;obtain⟨x,vs1,rfl,hx,hl⟩:=q04 hf;have h0:q'=q:=by omega
    subst h0;obtain⟨vs',rfl,k1,k2,k3⟩:=qiv hr hl;obtain⟨hx1,rfl⟩:=hx
    exact⟨vs',rfl,k1,by simp[k2],λi hi=>by
     rcases List.mem_cons.1 hi with rfl|hi
     .exact hx1
     .exact k3 i hi⟩
   .cases h
  .cases h
theorem qus{i j:Nat}{so:SO}:∀{rs:List Nat}{os:List SO}(d:SO),rs.Nodup->rs[j]?=some i->os[j]?=some so->look d i (rs.zip os)=so
 | [],_,_,_,h,_=>by simp at h
 |_::_,[],_,_,_,h=>by simp at h
 |r::rs,o::os,d,hnd,h1,h2=>by
  rw[List.zip_cons_cons,q2a];cases j with
  |zero=>
   simp only[List.getElem?_cons_zero,Option.some.injEq]at h1 h2;rw[if_pos h1.symm,h2]
  |succ j=>
   simp only[List.getElem?_cons_succ]at h1 h2;obtain⟨n1,n2⟩:=List.nodup_cons.1 hnd;have hne:¬i=r:=λh=>n1 (by rw[<-h];exact List.mem_of_getElem? h1);rw[if_neg hne];exact qus d n2 h1 h2
theorem qox{i:Nat}{rs:List Nat}{os:List SO}(d:SO)(h:i∉rs):look d i (rs.zip os)=d:=by
 refine q2n _ _ λhm=>h ?_;obtain⟨x,hx,rfl⟩:=List.mem_map.1 hm;exact(List.of_mem_zip hx).1
end
end Go.Sx

namespace Go.Sx
open Go.RowKit
variable[Env]
section
variable{P:Program}{f:Nat}{κ γ δ:Type}{A:TA κ}{D:DA γ}{R:TR δ}{fn:κ->γ->κ×δ}{pre:κ->γ->List Prop}
theorem qra:∀{rs:List Nat}{ids:List (Option Nat)},(∀k k' j:Nat,(rs.map some++ids)[k]?=some (some j)->(rs.map some++ids)[k']?=some (some j)->k=k')->rs.Nodup/\∀r∈rs,r∉q6b ids:=λ{rs ids}h=>by
 have hl:∀k r,rs[k]?=some r->(rs.map some++ids)[k]?=some (some r):=λk r hk=>by
  have hlt:=(List.getElem?_eq_some_iff.1 hk).1;rw[List.getElem?_append_left (by simpa using hlt),List.getElem?_map,hk];rfl
 constructor
 .refine List.pairwise_iff_getElem.2 λi j hi hj hij he=>?_;have h1:=hl i rs[i] (List.getElem?_eq_getElem hi);have h2:=hl j rs[j] (List.getElem?_eq_getElem hj);rw[he]at h1;have:=h i j _ h1 h2;omega
 .intro r hr hd;obtain⟨k,hk⟩:=List.getElem?_of_mem hr;obtain⟨x,hx,he⟩:=List.mem_filterMap.1 hd;have he:x=some r:=he;subst he;obtain⟨k',hk'⟩:=List.getElem?_of_mem hx
  have h2:(rs.map some++ids)[rs.length+k']?=some (some r):=by
   rw[List.getElem?_append_right (by simp),List.length_map,show rs.length+k'-rs.length=k' by omega,hk']
  have:=h k _ _ (hl k r hk) h2;have:=(List.getElem?_eq_some_iff.1 hk).1;omega
theorem z5w(hp:FnT P f A D R fn pre):FnOk P f (conT A D R fn pre):=by
 intro M w0 w ρ h args vs K hK hm hfits;unfold conT at hK;split at hK
 .rename_i rs rest hroots;obtain⟨vs',rfl,hrest,hrl,hrn⟩:=qiv hroots hfits;split at hK
  .rename_i g ps ids fs hA;split at hK
   .rename_i d qs hd;split at hK
    .rename_i hchk;obtain⟨hq,hK⟩:=q1d hK;have hps:∀p∈ps,p:=λp h'=>hq p (List.mem_append_left _ h');have hqs:∀p∈qs,p:=λp h'=>hq p (List.mem_append_right _ (List.mem_append_left _ h'));have hpre:∀p∈pre g d,p:=λp h'=>hq p (List.mem_append_right _ (List.mem_append_right _ h'));simp only[Bool.and_eq_true,List.isEmpty_iff]at hchk;obtain⟨c1,rfl⟩:=hchk;obtain⟨i1,_⟩:=q9m c1;obtain⟨n1,n2⟩:=qra i1;obtain⟨la,lq⟩:=A.ilen _ _ _ _ _ _ hA
     let src:List (Option Nat):=rs.map some++ids
     let L:Nat->Lc:=λk=>match src[k]? with|some (some j)=>ρ j|_=>⟨0,0,0,true⟩
     let ρa:Rh:=⟨L,ρ.mem,ρ.lo⟩
     let ρc:Rh:=⟨L,ρ.mem,⟨ρ.mem,λ_=>none⟩⟩
     have hsrl:src.length=A.q+A.R:=by simp[src,lq,la]
     have hL:∀k j:Nat,src[k]?=some (some j)->L k=ρ j:=λk j hk=>by simp only[L,hk]
     have hLn:∀k:Nat,src[k]?=some none->L k=⟨0,0,0,true⟩:=λk hk=>by simp only[L,hk]
     have hsl:∀k r,rs[k]?=some r->src[k]?=some (some r):=λk r hk=>by
      have hlt:=(List.getElem?_eq_some_iff.1 hk).1;show(rs.map some++ids)[k]?=_;rw[List.getElem?_append_left (by simpa using hlt),List.getElem?_map,hk];rfl
     have hsr:∀k,src[A.q+k]?=ids[k]?:=λk=>by
      show(rs.map some++ids)[A.q+k]?=_;rw[List.getElem?_append_right (by simp[lq]),List.length_map,lq,show A.q+k-A.q=k by omega]
     have hrnA:Rn 0 A.q ids (A.q+A.R) ρ ρa:=⟨by omega,⟨λi hi=>absurd hi (Nat.not_lt_zero i),λ_ _ h=>h,rfl⟩,λk j hk=>by
      rw[show 0+A.q+k=A.q+k by omega];exact hL _ _ (by rw[hsr];exact hk),λk hk=>by
      rw[show 0+A.q+k=A.q+k by omega];exact hLn _ (by rw[hsr];exact hk)⟩
     have hzA:FzR h.nx h [] ρ ρa:=λj hj=>by cases hj
     obtain⟨a1,a2⟩:=A.ok 0 A.q h rs g ps ids [] hA hps;rw[Nat.zero_add]at a1 a2;have hlenA:(q2k A g).length=A.q+A.R:=qkz A g;have hge:∀k,A.q<=k->∃k',k=A.q+k':=λk hk=>⟨k-A.q,by omega⟩
     have hso:∀(k:Nat)(so:SO),(q2k A g)[k]?=some so->(src[k]?=some none/\z7c so)\/∃j:Nat,src[k]?=some (some j)/\Ow so (h.get j)/\so.fit (A.q+A.R) ρa (ρ j) w.heap[(ρ j).blk]?:=λk so hk=>by
      rcases Nat.lt_or_ge k A.q with h1|h1
      .unfold q2k at hk;rw[List.getElem?_append_left (by rw[A.olen];exact h1)]at hk;have hlt:k<rs.length:=by omega
       obtain⟨o1,o2,o4,o3⟩:=a2 k rs[k] so (List.getElem?_eq_getElem hlt) hk;exact .inr ⟨rs[k],hsl k _ (List.getElem?_eq_getElem hlt),⟨λL _=>o1 L,λa=>(o4 a).1⟩,o3 _ _ _ _ _ _ hrnA hzA (hm.ob _)⟩
      .obtain⟨k,rfl⟩:=hge k h1;unfold q2k at hk;rw[List.getElem?_append_right (by rw[A.olen];omega),A.olen,show A.q+k-A.q=k by omega]at hk;rw[hsr];rcases a1.blk k so hk with ⟨b1,b2⟩|⟨j,b1,b2,b3⟩
       .exact .inl ⟨b1,b2⟩
       .exact .inr ⟨j,b1,b2,b3 _ _ _ _ _ _ hrnA hzA (hm.ob _)⟩
     have hown:∀k,((q0u (q2k A g)).get k).own (L k)->∃j:Nat,src[k]?=some (some j)/\(h.get j).own (ρ j)/\L k=ρ j:=λk hk=>by
      rw[q0v]at hk;cases hs:(q2k A g)[k]? with
      |none=>rw[hs]at hk;exact hk.elim
      |some so=>
       rw[hs]at hk;rcases hso k so hs with ⟨h1,rfl|⟨t,sz,el,rfl⟩⟩|⟨j,h1,h2,_⟩
       .exact hk.elim
       .have hk:(L k).nl=false:=hk;rw[hLn k h1]at hk;cases hk
       .rw[hL k j h1]at hk;exact⟨j,h1,h2.1 _ hk,hL k j h1⟩
     have habs:∀k a,(q0u (q2k A g)).get k=.abs a->∃j:Nat,src[k]?=some (some j)/\h.get j=.abs a/\L k=ρ j:=λk a hk=>by
      rw[q0v]at hk;cases hs:(q2k A g)[k]? with
      |none=>rw[hs]at hk;cases hk
      |some so=>
       rw[hs]at hk;have hk:so=.abs a:=hk;rcases hso k so hs with ⟨h1,rfl|⟨t,sz,el,rfl⟩⟩|⟨j,h1,h2,_⟩
       .cases hk
       .cases hk
       .exact⟨j,h1,h2.2 a hk,hL k j h1⟩
     have hagr:Agr (A.q+A.R) ρa ρc:=⟨λ_ _=>rfl,λ_ _ h _=>h⟩;obtain⟨S,hS⟩:=hm.ab
     let Sc:Nat->Nat->Prop:=λk=>S (match src[k]? with|some (some j)=>j|_=>0)
     let Ft:Nat->Prop:=λb=>∃k,((q0u (q2k A g)).get k).own (L k)/\(b=(L k).blk\/∃a,(q0u (q2k A g)).get k=.abs a/\Sc k b)
     have hSc:∀k j:Nat,src[k]?=some (some j)->Sc k=S j:=λk j hk=>by simp only[Sc,hk]
     have hent:HM Ft w ρc (q0u (q2k A g)) w:={
      os:=rfl
      tape:=rfl
      output:=rfl
      size:=Nat.le_refl _
      block:=λ_ _ _=>rfl
      lt:=λk hk=>by
       rw[q0v]at hk;show k<(q2k A g).length;by_cases hlt:k<(q2k A g).length
       .exact hlt
       .rw[List.getElem?_eq_none (by omega)]at hk;cases hk
      ob:=λk=>by
       show((q0u (q2k A g)).get k).fit (q2k A g).length ρc (L k) _;rw[q0v,hlenA];cases hs:(q2k A g)[k]? with
       |none=>trivial
       |some so=>
        rcases hso k so hs with ⟨h1,rfl|⟨t,sz,el,rfl⟩⟩|⟨j,h1,_,h3⟩
        .trivial
        .rw[hLn k h1];exact⟨Nat.zero_le _,.inl ⟨rfl,rfl⟩⟩
        .show so.fit (A.q+A.R) ρc (L k) w.heap[(L k).blk]?;rw[hL k j h1];exact SO.fit_mono0 (Nat.le_refl _) hagr h3
      ow:=λk hk=>.inr ⟨k,hk,.inl rfl⟩
      fz:=hm.fz
      sep:=λk hk=>by
       obtain⟨j,_,h2,h3⟩:=hown k hk;show ρ.mem (L k).blk=none;rw[h3];exact hm.sep j h2
      old:=λb o hb _ _=>hb
      env:=hm.env
      ab:=⟨Sc,λk a hk=>by
       obtain⟨j,h1,h2,h3⟩:=habs k a hk;obtain⟨q1,q2⟩:=hS j a h2;refine⟨by show Env.rep a (L k) _ _ _;rw[h3,hSc k j h1];exact q1,λb hb=>?_⟩;have hb':S j b:=by rw[<-hSc k j h1];exact hb
       obtain⟨r1,r2,r3,r4,r5⟩:=q2 b hb';refine⟨.inr ⟨k,q47 hk,.inr ⟨a,hk,hb⟩⟩,r2,r3,λk' hk'=>?_,λk' a' hk' hb2=>?_⟩
       .obtain⟨j',_,h2',h3'⟩:=hown k' hk';show(L k').blk≠b;rw[h3'];exact r4 j' h2'
       .obtain⟨j',h1',h2',h3'⟩:=habs k' a' hk';rw[hSc k' j' h1']at hb2;have:=r5 j' a' h2' hb2;subst this;exact i1 k k' j h1 h1'⟩
      inj:=λk k' hk hk' he=>by
       obtain⟨j,h1,h2,h3⟩:=hown k hk;obtain⟨j',h1',h2',h3'⟩:=hown k' hk';have he:(L k).blk=(L k').blk:=he;rw[h3,h3']at he;have:=hm.inj j j' h2 h2' he;subst this;exact i1 k k' j h1 h1'}
     have hvs':=D.cl _ _ 0 ρ (emp ρ.mem) _ (λ_ _ h=>h) (D.ok _ _ _ _ _ _ hd hqs hrest)
     have hrv:(rs.map λr=>Value.pointer (some ⟨(ρ r).blk,(ρ r).off+0,none⟩))=q4p A.q ρc:=by
      refine List.ext_getElem? λk=>?_;simp only[q4p,List.getElem?_map];by_cases hk:k<A.q
      .have hlt:k<rs.length:=by omega
       have e2:L k=ρ rs[k]:=hL k _ (hsl k _ (List.getElem?_eq_getElem hlt));rw[List.getElem?_eq_getElem hlt,List.getElem?_range hk,Option.map_some,Option.map_some];show _=some (Value.pointer (some ⟨(L k).blk,(L k).off+0,none⟩));rw[e2]
      .rw[List.getElem?_eq_none (by omega),List.getElem?_eq_none (by simpa using Nat.not_lt.1 hk)];rfl
     have hcall:=hp Ft w ρc g d vs' hent hpre hvs';rw[hrv];refine hcall.mono ?_;rintro e w' ⟨x,ρe,rfl,hroot,hmm,hlo,hme,hx⟩;have hlenO:(q2f A R (fn g d)).length=A.q+(A.R+R.R):=qky A R _
     have hfoot:∀b,Ft b->∃j,(j∈rs\/j∈q6b ids)/\(h.get j).own (ρ j)/\(b=(ρ j).blk\/∃a,h.get j=.abs a/\S j b):=λb⟨k,hk,hb⟩=>by
      obtain⟨j,h1,h2,h3⟩:=hown k hk
      have hb:b=(ρ j).blk\/∃a,h.get j=.abs a/\S j b:=by
       rcases hb with hb|⟨a,ha,hb⟩
       .exact .inl (by rw[hb];exact congrArg Lc.blk h3)
       .obtain⟨j',k1,k2,k3⟩:=habs k a ha;rw[h1]at k1;simp only[Option.some.injEq]at k1;subst k1;exact .inr ⟨a,k2,by rw[hSc k j h1]at hb;exact hb⟩
      refine⟨j,?_,h2,hb⟩;rcases Nat.lt_or_ge k A.q with hk|hk
      .left;have hlt:k<rs.length:=by omega
       have:=hsl k _ (List.getElem?_eq_getElem hlt);rw[this]at h1;simp only[Option.some.injEq]at h1;rw[<-h1];exact List.getElem_mem hlt
      .obtain⟨k,rfl⟩:=hge k hk;rw[hsr]at h1;exact .inr (List.mem_filterMap.2 ⟨some j,List.mem_of_getElem? h1,rfl⟩)
     have hfM:∀b,Ft b->w0.heap.size<=b\/M b:=λb hb=>by
      obtain⟨j,_,h2,rfl|⟨a,h3,h4⟩⟩:=hfoot b hb
      .exact hm.ow j h2
      .exact((hS j a h3).2 b h4).1
     have hfa:∀i a b,i∉rs->i∉q6b ids->h.get i=.abs a->S i b->¬Ft b:=λi a b h1 h2 ha hb hF=>by
      obtain⟨j,hj,h3,h4⟩:=hfoot _ hF;rcases h4 with rfl|⟨a',h4,h5⟩
      .exact hS.ne ha h3 hb
      .have:=((hS i a ha).2 b hb).2.2.2.2 j a' h4 h5;subst this;rcases hj with hj|hj
       .exact h1 hj
       .exact h2 hj
     have hfk:∀i,i∉rs->i∉q6b ids->(h.get i).own (ρ i)->¬Ft (ρ i).blk:=λi h1 h2 ho hb=>by
      obtain⟨j,hj,h3,h4⟩:=hfoot _ hb;rcases h4 with h4|⟨a,h4,h5⟩
      rotate_left
      .exact hS.ne h4 ho h5
      have:=hm.inj i j ho h3 h4;subst this;rcases hj with hj|hj
      .exact h1 hj
      .exact h2 hj
     let T:Nat:=A.R+R.R
     let bs:List SO:=A.blks h.nx (fn g d).1++R.blks (h.nx+A.R) (fn g d).2
     let h2:SH:=⟨h.nx+T,whole (qe8 h.nx bs)++(whole (rs.zip (A.objs h.nx (fn g d).1))++(whole ((q6b ids).map λi=>(i,SO.dead))++h.l)),h.b⟩
     let ρ2:Rh:=⟨λk=>if h.nx<=k/\k<h.nx+T then ρe (A.q+(k-h.nx))else ρ k,ρe.mem,ρ.lo⟩
     have hbl:bs.length=T:=by simp[bs,T,A.blen,R.blen]
     have r2n:∀p,p<T->ρ2 (h.nx+p)=ρe (A.q+p):=λp hp=>by
      show(if _ then _ else _)=_;rw[if_pos (by omega),show h.nx+p-h.nx=p by omega]
     have r2o:∀k,k<h.nx->ρ2 k=ρ k:=λk hk=>by
      show(if _ then _ else _)=_;rw[if_neg (by omega)]
     have hmemle:∀b o,ρ.mem b=some o->ρe.mem b=some o:=hmm;have hag:Agree h.nx ρ ρ2:=⟨r2o,hmemle,rfl⟩
     have hget:∀k,(∃p so,k=h.nx+p/\p<T/\bs[p]?=some so/\h2.get k=so)\/(∃j so,rs[j]?=some k/\(A.objs h.nx (fn g d).1)[j]?=some so/\h2.get k=so)\/h2.get k=.dead\/(k∉rs/\k∉q6b ids/\h2.get k=h.get k):=λk=>by
      have e:h2.get k=look (look (look (q0y (q0y .dead k h.b) k h.l) k ((q6b ids).map λi=>(i,SO.dead))) k (rs.zip (A.objs h.nx (fn g d).1))) k (qe8 h.nx bs):=by
       simp only[h2,SH.get,q34,q5j]
      obtain⟨q1,q2⟩:=q8h (i:=k) (r:=bs) (k:=h.nx) (look (look (q0y (q0y .dead k h.b) k h.l) k ((q6b ids).map λi=>(i,SO.dead))) k (rs.zip (A.objs h.nx (fn g d).1)));by_cases hk:h.nx<=k/\k<h.nx+T
      .obtain⟨so,e1,e2⟩:=q1 (k-h.nx) (by omega) (by omega);exact .inl ⟨k-h.nx,so,by omega,by omega,e1,by rw[e,e2]⟩
      .rw[q2 (by omega)]at e;by_cases hkr:k∈rs
       .obtain⟨j,hj⟩:=List.getElem?_of_mem hkr;have hjl:=(List.getElem?_eq_some_iff.1 hj).1;have hol:j<(A.objs h.nx (fn g d).1).length:=by rw[A.olen];omega
        exact .inr (.inl ⟨j,_,hj,List.getElem?_eq_getElem hol,by rw[e,qus _ n1 hj (List.getElem?_eq_getElem hol)]⟩)
       .rw[qox _ hkr]at e;by_cases hki:k∈q6b ids
        .exact .inr (.inr (.inl (by rw[e,qoy _ _ _ hki])))
        .rw[q2n _ _ (by simpa using hki)]at e;exact .inr (.inr (.inr ⟨hkr,hki,e⟩))
     have hshA:=A.shf A.q h.nx (fn g d).1 (A.q+(A.R+R.R)) (h.nx+T) ρe ρ2 (λ_ _ h=>h) (λk hk=>r2n k (by show k<A.R+R.R;omega)) (by show h.nx+A.R<=h.nx+(A.R+R.R);omega)
     have hshR:=R.shf (A.q+A.R) (h.nx+A.R) (fn g d).2 (A.q+(A.R+R.R)) (h.nx+T) ρe ρ2 (λ_ _ h=>h) (λk hk=>by
      rw[show h.nx+A.R+k=h.nx+(A.R+k) by omega,show A.q+A.R+k=A.q+(A.R+k) by omega];exact r2n _ (by show A.R+k<A.R+R.R;omega)) (by show h.nx+A.R+R.R<=h.nx+(A.R+R.R);omega)
     have hshB:ShfB (A.q+(A.R+R.R)) (h.nx+T) ρe ρ2 (A.blks A.q (fn g d).1++R.blks (A.q+A.R) (fn g d).2) bs:=qtp (by rw[A.blen,A.blen]) hshA.2 hshR.2
     have hcg:∀p,(q0u (q2f A R (fn g d))).get (A.q+p)=((A.blks A.q (fn g d).1++R.blks (A.q+A.R) (fn g d).2)[p]?).getD .dead:=λp=>by
      rw[q0v];unfold q2f;rw[List.getElem?_append_right (by rw[A.olen];omega),A.olen,show A.q+p-A.q=p by omega]
     have hcr:∀j,j<A.q->(q0u (q2f A R (fn g d))).get j=((A.objs A.q (fn g d).1)[j]?).getD .dead:=λj hj=>by
      rw[q0v];unfold q2f;rw[List.getElem?_append_left (by rw[A.olen];exact hj)]
     have hnb:∀p so,bs[p]?=some so->∃so',(q0u (q2f A R (fn g d))).get (A.q+p)=so'/\OwE so so'/\∀L o,so'.fit (A.q+(A.R+R.R)) ρe L o->so.fit (h.nx+T) ρ2 L o:=λp so hso=>by
      have hlt:p<(A.blks A.q (fn g d).1++R.blks (A.q+A.R) (fn g d).2).length:=by
       have:=(List.getElem?_eq_some_iff.1 hso).1;rw[hbl]at this;rw[List.length_append,A.blen,R.blen];exact this
      obtain⟨so2,k1,k2,k3⟩:=hshB p _ (List.getElem?_eq_getElem hlt);rw[hso]at k1;simp only[Option.some.injEq]at k1;subst k1;exact⟨_,by rw[hcg,List.getElem?_eq_getElem hlt];rfl,k2,k3⟩
     have hno:∀j so,(A.objs h.nx (fn g d).1)[j]?=some so->∃so',(q0u (q2f A R (fn g d))).get j=so'/\OwE so so'/\∀L o,so'.fit (A.q+(A.R+R.R)) ρe L o->so.fit (h.nx+T) ρ2 L o:=λj so hso=>by
      have hjq:j<A.q:=by
       have:=(List.getElem?_eq_some_iff.1 hso).1;rw[A.olen]at this;exact this
      have hlt:j<(A.objs A.q (fn g d).1).length:=by rw[A.olen];exact hjq
      obtain⟨so2,k1,k2,k3⟩:=hshA.1 j _ (List.getElem?_eq_getElem hlt);rw[hso]at k1;simp only[Option.some.injEq]at k1;subst k1;exact⟨_,by rw[hcr j hjq,List.getElem?_eq_getElem hlt];rfl,k2,k3⟩
     have hrρ:∀j r,rs[j]?=some r->ρe j=ρ r/\j<A.q/\r<h.nx:=λj r hj=>by
      have hlt:=(List.getElem?_eq_some_iff.1 hj).1;refine⟨?_,by omega,hrn r (List.mem_of_getElem? hj)⟩;rw[hroot j (by omega)];exact hL j r (hsl j r hj)
     have hsrc:∀k,(h2.get k).own (ρ2 k)->(∃i,((q0u (q2f A R (fn g d))).get i).own (ρe i)/\ρ2 k=ρe i/\((∃p,k=h.nx+p/\i=A.q+p)\/(k<h.nx/\i<A.q/\rs[i]?=some k)))\/(k<h.nx/\k∉rs/\k∉q6b ids/\(h.get k).own (ρ k)/\ρ2 k=ρ k):=λk hk=>by
      rcases hget k with ⟨p,so,rfl,hp',hso',e⟩|⟨j,so,hj,hso',e⟩|e|⟨e1,e2,e⟩
      .left;obtain⟨so',k1,k2,_⟩:=hnb p so hso';rw[e,r2n p hp']at hk;exact⟨A.q+p,by rw[k1];exact(k2.1 _).1 hk,r2n p hp',.inl ⟨p,rfl,rfl⟩⟩
      .left;obtain⟨so',k1,k2,_⟩:=hno j so hso';obtain⟨z1,z2,z3⟩:=hrρ j k hj;rw[e,r2o k z3]at hk;exact⟨j,by rw[k1,z1];exact(k2.1 _).1 hk,by rw[r2o k z3,z1],.inr ⟨z3,z2,hj⟩⟩
      .rw[e]at hk;exact hk.elim
      .right;rw[e]at hk;have hlt:k<h.nx:=hm.lt k (SO.live_of hk);rw[r2o k hlt]at hk;exact⟨hlt,e1,e2,hk,r2o k hlt⟩
     have habs2:∀k a,h2.get k=.abs a->(∃i,(q0u (q2f A R (fn g d))).get i=.abs a/\ρ2 k=ρe i/\((∃p,k=h.nx+p/\i=A.q+p)\/(k<h.nx/\i<A.q/\rs[i]?=some k)))\/(k<h.nx/\k∉rs/\k∉q6b ids/\h.get k=.abs a/\ρ2 k=ρ k):=λk a hk=>by
      rcases hget k with ⟨p,so,rfl,hp',hso',e⟩|⟨j,so,hj,hso',e⟩|e|⟨e1,e2,e⟩
      .left;obtain⟨so',k1,k2,_⟩:=hnb p so hso';rw[e]at hk;exact⟨A.q+p,by rw[k1];exact(k2.2 a).1 hk,r2n p hp',.inl ⟨p,rfl,rfl⟩⟩
      .left;obtain⟨so',k1,k2,_⟩:=hno j so hso';obtain⟨z1,z2,z3⟩:=hrρ j k hj;rw[e]at hk;exact⟨j,by rw[k1];exact(k2.2 a).1 hk,by rw[r2o k z3,z1],.inr ⟨z3,z2,hj⟩⟩
      .rw[e]at hk;cases hk
      .right;rw[e]at hk;have hlt:k<h.nx:=hm.lt k (by rw[hk];rfl);exact⟨hlt,e1,e2,hk,r2o k hlt⟩
     have hsize:=hm.size;refine⟨_,_,ρ2,x,R.putOk _ _ _ (Tr.holds_bind hK),?_,hag,?_,?_,rfl⟩
     .show h.nx<=h.nx+(A.R+R.R);omega
     .exact {
       os:=hme.os.trans hm.os
       tape:=hme.tape.trans hm.tape
       output:=hme.output.trans hm.output
       size:=Nat.le_trans hm.size hme.size
       block:=λi hi hM=>by
        rw[hme.block i (by omega) λhf=>?_]
        .exact hm.block i hi hM
        .rcases hfM i hf with h1|h1
         .omega
         .exact hM h1
       lt:=λk hk=>by
        show k<h.nx+T;rcases hget k with ⟨p,so,rfl,hp',_,_⟩|⟨j,so,hj,_,_⟩|e|⟨_,_,e⟩
        .omega
        .have:=(hrρ j k hj).2.2;omega
        .have hk:(h2.get k).live=true:=hk;rw[e]at hk;cases hk
        .have hk:(h2.get k).live=true:=hk;rw[e]at hk;have:=hm.lt k hk;omega
       ob:=λk=>by
        show(h2.get k).fit (h.nx+T) ρ2 (ρ2 k) _;rcases hget k with ⟨p,so,rfl,hp',hso',e⟩|⟨j,so,hj,hso',e⟩|e|⟨e1,e2,e⟩
        .obtain⟨so',k1,_,k3⟩:=hnb p so hso';rw[e,r2n p hp'];have:=hme.ob (A.q+p);rw[k1,show(q0u (q2f A R (fn g d))).nx=A.q+(A.R+R.R)from hlenO]at this;exact k3 _ _ this
        .obtain⟨so',k1,_,k3⟩:=hno j so hso';obtain⟨z1,z2,z3⟩:=hrρ j k hj;rw[e,r2o k z3,<-z1];have:=hme.ob j;rw[k1,show(q0u (q2f A R (fn g d))).nx=A.q+(A.R+R.R)from hlenO]at this;exact k3 _ _ this
        .rw[e];trivial
        .rw[e];by_cases hlive:k<h.nx
         .rw[r2o k hlive];refine SO.fit_mono (by omega) hag (hm.ob_other λho=>?_);exact hme.block _ (hm.lt_heap ho) (hfk k e1 e2 ho)
         .have:h.get k=.dead:=by
           cases hg:h.get k with
           |dead=>rfl
           |_=>have:=hm.lt k (by rw[hg];rfl);omega
          rw[this];trivial
       ow:=λk hk=>by
        rcases hsrc k hk with ⟨i,s1,s2,_⟩|⟨_,_,_,s4,s5⟩
        .rw[s2];rcases hme.ow i s1 with h1|h1
         .exact .inl (by omega)
         .exact hfM _ h1
        .rw[s5];exact hm.ow k s4
       fz:=hme.fz
       sep:=λk hk=>by
        show ρe.mem (ρ2 k).blk=none;rcases hsrc k hk with ⟨i,s1,s2,_⟩|⟨_,s2,s3,s4,s5⟩
        .rw[s2];exact hme.sep i s1
        .rw[s5];cases hc:ρe.mem (ρ k).blk with
         |none=>rfl
         |some o=>
          have:=hme.old _ o hc (hm.lt_heap s4) (hfk k s2 s3 s4);rw[hlo]at this;have:ρ.mem (ρ k).blk=some o:=this;rw[hm.sep k s4]at this;cases this
       old:=λb o hb hlt hM=>by
        have h1:=hme.old b o hb (by omega) λhf=>by
         rcases hfM b hf with h1|h1
         .omega
         .exact hM h1
        rw[hlo]at h1;exact hm.old b o h1 hlt hM
       env:=hme.env
       ab:=by
        obtain⟨Se,hSe⟩:=hme.ab
        let c2:Nat->Nat->Prop:=λk i=>(∃p,k=h.nx+p/\i=A.q+p)\/(k<h.nx/\i<A.q/\rs[i]?=some k)
        have hu:∀k i i',c2 k i->c2 k i'->i=i':=λk i i' h1 h2=>by
         rcases h1 with ⟨p,rfl,rfl⟩|⟨z1,z2,z3⟩<;>rcases h2 with ⟨p',e,rfl⟩|⟨z1',z2',z3'⟩
         .omega
         .omega
         .omega
         .obtain⟨y1,y2⟩:=List.getElem?_eq_some_iff.1 z3;obtain⟨y3,y4⟩:=List.getElem?_eq_some_iff.1 z3';have hp:=List.pairwise_iff_getElem.1 n1;rcases Nat.lt_trichotomy i i' with hlt|he|hlt
          .exact absurd (y2.trans y4.symm) (hp i i' y1 y3 hlt)
          .exact he
          .exact absurd (y4.trans y2.symm) (hp i' i y3 y1 hlt)
        let S2:Nat->Nat->Prop:=λk b=>(∃i,c2 k i/\Se i b)\/((¬∃i,c2 k i)/\S k b)
        have hS2:∀k i,c2 k i->∀b,S2 k b↔Se i b:=λk i hc b=>⟨λh=>by
         rcases h with ⟨i',h1,h2⟩|⟨h1,_⟩
         .rw[hu k i i' hc h1];exact h2
         .exact absurd ⟨i,hc⟩ h1,λh=>.inl ⟨i,hc,h⟩⟩
        have hS3:∀k,k<h.nx->k∉rs->∀b,S2 k b↔S k b:=λk h1 h2 b=>⟨λh=>by
         rcases h with ⟨i',h3,_⟩|⟨_,h3⟩
         .rcases h3 with ⟨p,h3,_⟩|⟨_,_,h3⟩
          .omega
          .exact absurd (List.mem_of_getElem? h3) h2
         .exact h3,λh=>.inr ⟨λ⟨i,h3⟩=>by
          rcases h3 with ⟨p,h3,_⟩|⟨_,_,h3⟩
          .omega
          .exact h2 (List.mem_of_getElem? h3),h⟩⟩
        refine⟨S2,λk a hk=>?_⟩;rcases habs2 k a hk with ⟨i,s1,s2,s3⟩|⟨t1,t2,t3,t4,t5⟩
        .have hk2:=hS2 k i s3;have hk3:S2 k=Se i:=funext λb=>propext (hk2 b);rw[hk3];obtain⟨q1,q2⟩:=hSe i a s1;rw[s2];refine⟨q1,λb hb=>?_⟩;obtain⟨r1,r2,r3,r4,r5⟩:=q2 b hb;refine⟨?_,r2,r3,λk' hk'=>?_,λk' a' hk' hb'=>?_⟩
         .rcases r1 with h1|h1
          .exact .inl (by omega)
          .exact hfM _ h1
         .rcases hsrc k' hk' with ⟨i',s1',s2',_⟩|⟨_,t2',t3',t4',t5'⟩
          .rw[s2'];exact r4 i' s1'
          .rw[t5'];rintro rfl;rcases r1 with h1|h1
           .have:=hm.lt_heap t4';omega
           .exact hfk k' t2' t3' t4' h1
         .rcases habs2 k' a' hk' with ⟨i',s1',s2',s3'⟩|⟨_,t2',t3',t4',t5'⟩
          .have hb':=(hS2 k' i' s3' b).1 hb';have hii:=r5 i' a' s1' hb';subst hii;rcases s3 with ⟨p,rfl,hp1⟩|⟨z1,z2,z3⟩<;>rcases s3' with ⟨p',rfl,hp2⟩|⟨z1',z2',z3'⟩
           .omega
           .omega
           .omega
           .rw[z3]at z3';simpa using z3'
          .exfalso;have hb':=(hS3 k' ‹_› t2' b).1 hb';rcases r1 with h1|h1
           .have:=hS.lt t4' hb';omega
           .exact hfa k' a' b t2' t3' t4' hb' h1
        .have hk3:S2 k=S k:=funext λb=>propext (hS3 k t1 t2 b);rw[hk3];obtain⟨q1,q2⟩:=hS k a t4;rw[t5];refine⟨Env.rep_cl _ _ _ _ _ _ _ (λb hb=>?_) (λb o hb _=>hmemle b o hb) q1,λb hb=>?_⟩
         .rcases hb with rfl|hb
          .exact hme.block _ (hm.lt_heap (q47 t4)) (hfk k t2 t3 (q47 t4))
          .exact hme.block _ (hS.lt t4 hb) (hfa k a b t2 t3 t4 hb)
         .obtain⟨r1,r2,r3,r4,r5⟩:=q2 b hb;have hnf:=hfa k a b t2 t3 t4 hb;refine⟨r1,?_,Nat.lt_of_lt_of_le r3 hme.size,λk' hk'=>?_,λk' a' hk' hb'=>?_⟩
          .show ρe.mem b=none;cases hc:ρe.mem b with
           |none=>rfl
           |some o=>
            have:=hme.old _ o hc r3 hnf;rw[hlo]at this;have:ρ.mem b=some o:=this;rw[r2]at this;cases this
          .rcases hsrc k' hk' with ⟨i',s1',s2',_⟩|⟨_,t2',t3',t4',t5'⟩
           .rw[s2'];rintro rfl;rcases hme.ow i' s1' with h1|h1
            .omega
            .exact hnf h1
           .rw[t5'];exact r4 k' t4'
          .rcases habs2 k' a' hk' with ⟨i',s1',s2',s3'⟩|⟨_,t2',t3',t4',t5'⟩
           .exfalso;have hb':=(hS2 k' i' s3' b).1 hb';rcases((hSe i' a' s1').2 b hb').1 with h1|h1
            .omega
            .exact hnf h1
           .exact r5 k' a' t4' ((hS3 k' ‹_› t2' b).1 hb')
       inj:=λk k' hk hk' he=>by
        rcases hsrc k hk with ⟨i,s1,s2,s3⟩|⟨t1,t2,t3,t4,t5⟩<;>rcases hsrc k' hk' with ⟨i',s1',s2',s3'⟩|⟨t1',t2',t3',t4',t5'⟩
        .rw[s2,s2']at he;have hii:=hme.inj i i' s1 s1' he;subst hii;rcases s3 with ⟨p,rfl,hp1⟩|⟨z1,z2,z3⟩<;>rcases s3' with ⟨p',rfl,hp2⟩|⟨z1',z2',z3'⟩
         .omega
         .omega
         .omega
         .rw[z3]at z3';simpa using z3'
        .rw[s2,t5']at he;exfalso;rcases hme.ow i s1 with h1|h1
         .rw[he]at h1;have:=hm.lt_heap t4';omega
         .rw[he]at h1;exact hfk k' t2' t3' t4' h1
        .rw[t5,s2']at he;exfalso;rcases hme.ow i' s1' with h1|h1
         .rw[<-he]at h1;have:=hm.lt_heap t4;omega
         .rw[<-he]at h1;exact hfk k t2 t3 t4 h1
        .rw[t5,t5']at he;exact hm.inj k k' t4 t4' he}
     .exact hshR.1 x hx
    .exact hK.elim
   .exact hK.elim
  .exact hK.elim
 .exact hK.elim
theorem zhu:ConB (conT A D R fn pre):=λargs h=>by
 unfold conT;split
 .split
  .split
   .split
    .refine q2r (Tr.each_bind (p:=λy:SV×SH=>y.2.b=h.b) (λy=>?_) _);show h.b=h.b;rfl
    .trivial
   .trivial
  .trivial
 .trivial
def qy8(A:TA κ)(D:DA γ)(R:TR δ)(fn:κ->γ->κ×δ)(pre:κ->γ->List Prop):BCon:=⟨conT A D R fn pre,zhu⟩
theorem qcp(hp:FnT P f A D R fn pre):FnOk P f (qy8 A D R fn pre).g:=z5w hp
def zno(A:TA κ)(D:DA γ)(R:TR δ)(fn:κ->γ->κ×δ)(pre:κ->γ->List Prop):BCon:=⟨frzC (conT A D R fn pre),λargs h=>by
 have hb:=(qjw args h).1;refine q2r ?_;have:=zhu (A:=A) (D:=D) (R:=R) (fn:=fn) (pre:=pre) (frzA h args).1 (frzA h args).2.1;rw[hb]at this;exact this⟩
theorem qvc(hp:FnT P f A D R fn pre):FnOk P f (zno A D R fn pre).g:=z3t (z5w hp)
end
end Go.Sx

namespace Go.Sx
open Go.RowKit
variable[Env]
def PO.so:PO->SO
 | .cells xs t=>.cells xs t
 | .row t sz el m=>.row t sz el m
 | .map ks vs ka va el m clk=>.map ks vs ka va el m clk false
 | .dead=>.dead
theorem PO.so_fit{n:Nat}{ρ:Rh}{L:Lc}{o:Option Obj}(p:PO):p.so.fit n ρ L o↔p.fit n ρ L o:=by cases p<;>exact Iff.rfl
theorem PO.so_own{L:Lc}(p:PO):p.so.own L↔p.own L:=by cases p<;>exact Iff.rfl
theorem PO.so_abs(p:PO)(a:Env.Ab):p.so≠.abs a:=by intro h;cases p<;>cases h
section
variable{M:Nat->Prop}{w0 w:World}{ρ:Rh}{h:SH}
theorem HM.unfold(hm:HM M w0 ρ h w){S:Nat->Nat->Prop}(hS:AbsS S M w0.heap.size ρ h w){sos:List SO}{ρ':Rh}(hmem:ρ'.mem=ρ.mem)(hlo:ρ'.lo=ρ.lo)(hna:∀(k:Nat)so a,sos[k]?=some so->so≠.abs a)
  (hfit:∀(k:Nat)so,sos[k]?=some so->so.fit sos.length ρ' (ρ' k) w.heap[(ρ' k).blk]?)
  (hown:∀(k:Nat)so,sos[k]?=some so->so.own (ρ' k)->∃i a,h.get i=.abs a/\((ρ' k).blk=(ρ i).blk\/S i (ρ' k).blk))
  (hinj:∀(k k':Nat)so so',sos[k]?=some so->sos[k']?=some so'->so.own (ρ' k)->so'.own (ρ' k')->(ρ' k).blk=(ρ' k').blk->k=k'):HM M w0 ρ' (q0u sos) w:=by
 have hg:∀k,((q0u sos).get k).own (ρ' k)->∃so,sos[k]?=some so/\so.own (ρ' k):=λk hk=>by
  rw[q0v]at hk;cases hs:sos[k]? with
  |none=>rw[hs]at hk;exact hk.elim
  |some so=>rw[hs]at hk;exact⟨so,rfl,hk⟩
 exact {
  os:=hm.os
  tape:=hm.tape
  output:=hm.output
  size:=hm.size
  block:=hm.block
  lt:=λk hk=>by
   rw[q0v]at hk;show k<sos.length;by_cases hlt:k<sos.length
   .exact hlt
   .rw[List.getElem?_eq_none (by omega)]at hk;cases hk
  ob:=λk=>by
   show((q0u sos).get k).fit sos.length ρ' (ρ' k) _;rw[q0v];cases hs:sos[k]? with
   |none=>trivial
   |some so=>exact hfit k so hs
  ow:=λk hk=>by
   obtain⟨so,h1,h2⟩:=hg k hk;obtain⟨i,a,h3,h4|h4⟩:=hown k so h1 h2
   .rw[h4];exact hm.ow i (q47 h3)
   .exact((hS i a h3).2 _ h4).1
  fz:=by rw[hmem];exact hm.fz
  sep:=λk hk=>by
   obtain⟨so,h1,h2⟩:=hg k hk;obtain⟨i,a,h3,h4|h4⟩:=hown k so h1 h2
   .rw[h4,hmem];exact hm.sep i (q47 h3)
   .rw[hmem];exact hS.mem h3 h4
  old:=by rw[hmem,hlo];exact hm.old
  env:=by rw[hmem];exact hm.env
  ab:=⟨λ_ _=>False,λk a hk=>by
   rw[q0v]at hk;cases hs:sos[k]? with
   |none=>rw[hs]at hk;cases hk
   |some so=>rw[hs]at hk;exact absurd hk (hna k so a hs)⟩
  inj:=λk k' hk hk' he=>by
   obtain⟨so,h1,h2⟩:=hg k hk;obtain⟨so',h1',h2'⟩:=hg k' hk';exact hinj k k' so so' h1 h1' h2 h2' he}
theorem HM.fold(hm:HM M w0 ρ h w)(ρ':Rh)(sos:List SO)(rt:Nat->Nat)(grp S:Nat->Nat->Prop)(hmem:ρ'.mem=ρ.mem)(hlo:ρ'.lo=ρ.lo)(hg:∀k k' j,grp k j->grp k' j->k=k')
  (hso:∀(k:Nat)so,sos[k]?=some so->so=.dead\/∃x,so=.abs x/\grp k (rt k)/\(h.get (rt k)).own (ρ (rt k))/\(ρ' k).nl=false/\(ρ' k).off=0/\(ρ' k).blk=(ρ (rt k)).blk/\
   (∀b,S k b->∃i,grp k i/\i≠rt k/\(h.get i).own (ρ i)/\(ρ i).blk=b)/\Env.rep x (ρ' k) (S k) (λb=>w.heap[b]?) ρ.mem):HM M w0 ρ' (q0u sos) w:=by
 have hgt:∀k so,(q0u sos).get k=so->so≠.dead->∃x,so=.abs x/\grp k (rt k)/\(h.get (rt k)).own (ρ (rt k))/\(ρ' k).nl=false/\(ρ' k).off=0/\(ρ' k).blk=(ρ (rt k)).blk/\
   (∀b,S k b->∃i,grp k i/\i≠rt k/\(h.get i).own (ρ i)/\(ρ i).blk=b)/\Env.rep x (ρ' k) (S k) (λb=>w.heap[b]?) ρ.mem:=λk so hk hd=>by
  rw[q0v]at hk;cases hs:sos[k]? with
  |none=>rw[hs]at hk;exact absurd hk.symm hd
  |some so'=>
   rw[hs]at hk;have hk:so'=so:=hk;subst hk;rcases hso k so' hs with h1|h1
   .exact absurd h1 hd
   .exact h1
 have hnd:∀k,((q0u sos).get k).own (ρ' k)->(q0u sos).get k≠.dead:=λk hk h=>by rw[h]at hk;exact hk
 exact {
  os:=hm.os
  tape:=hm.tape
  output:=hm.output
  size:=hm.size
  block:=hm.block
  lt:=λk hk=>by
   rw[q0v]at hk;show k<sos.length;by_cases hlt:k<sos.length
   .exact hlt
   .rw[List.getElem?_eq_none (by omega)]at hk;cases hk
  ob:=λk=>by
   show((q0u sos).get k).fit sos.length ρ' (ρ' k) _;by_cases hd:(q0u sos).get k=.dead
   .rw[hd];trivial
   .obtain⟨x,h1,_,h3,h4,h5,h6,_⟩:=hgt k _ rfl hd;rw[h1];refine⟨h4,h5,?_⟩;rw[h6];exact SO.fit_some (hm.ob _) h3
  ow:=λk hk=>by
   obtain⟨x,_,_,h3,_,_,h6,_⟩:=hgt k _ rfl (hnd k hk);rw[h6];exact hm.ow _ h3
  fz:=by rw[hmem];exact hm.fz
  sep:=λk hk=>by
   obtain⟨x,_,_,h3,_,_,h6,_⟩:=hgt k _ rfl (hnd k hk);rw[h6,hmem];exact hm.sep _ h3
  old:=by rw[hmem,hlo];exact hm.old
  env:=by rw[hmem];exact hm.env
  ab:=⟨S,λk a hk=>by
   obtain⟨x,h1,h2,h3,h4,h5,h6,h7,h8⟩:=hgt k _ hk (by intro h;cases h);cases h1;rw[hmem];refine⟨h8,λb hb=>?_⟩;obtain⟨i,q1,q2,q3,rfl⟩:=h7 b hb;refine⟨hm.ow i q3,hm.sep i q3,hm.lt_heap q3,λk' hk' he=>?_,λk' a' hk' hb'=>?_⟩
   .obtain⟨x',_,r2,r3,_,_,r6,_⟩:=hgt k' _ rfl (hnd k' hk');rw[r6]at he;have:=hm.inj _ _ r3 q3 he;rw[this]at r2;have hkk:=hg k' k i r2 q1;subst hkk;exact q2 this.symm
   .obtain⟨x',_,_,_,_,_,_,r7,_⟩:=hgt k' _ hk' (by intro h;cases h);obtain⟨i',s1,_,s3,s4⟩:=r7 _ hb';have:=hm.inj i' i s3 q3 s4;subst this;exact hg k k' i' q1 s1⟩
  inj:=λk k' hk hk' he=>by
   obtain⟨x,_,h2,h3,_,_,h6,_⟩:=hgt k _ rfl (hnd k hk);obtain⟨x',_,h2',h3',_,_,h6',_⟩:=hgt k' _ rfl (hnd k' hk');rw[h6,h6']at he;have:=hm.inj _ _ h3 h3' he;rw[this]at h2;exact hg k k' _ h2 h2'}
end
end Go.Sx

namespace Go.Sx
open Go.RowKit
variable[Env]
structure Wr(α:Type)where
 wrap:α->Env.Ab
 un:Env.Ab->Option α
 ok:∀x a,un x=some a->wrap a=x
section
variable{α κ:Type}
def TA.abs(W:Wr α):TA α where
 q:=1
 R:=0
 objs _ g:=[.abs (W.wrap g)]
 blks _ _:=[]
 read h rs:=match rs with
  | [r]=>match h.get r with
   | .abs x=>match W.un x with
    |some g=>some (g,[],[],[])
    |none=>none
   |_=>none
  |_=>none
 olen _ _:=rfl
 blen _ _:=rfl
 ilen h rs g ps ids fzs hr:=by
  split at hr
  .split at hr
   .split at hr
    .simp only[Option.some.injEq,Prod.mk.injEq]at hr;rw[<-hr.2.2.1];exact⟨rfl,rfl⟩
    .cases hr
   .cases hr
  .cases hr
 ok N k0 h rs g ps ids fzs hr hp:=by
  split at hr
  .rename_i r;split at hr
   .rename_i x hg;split at hr
    .rename_i a hu;simp only[Option.some.injEq,Prod.mk.injEq]at hr;obtain⟨rfl,rfl,rfl,rfl⟩:=hr;refine⟨⟨λk so h=>by simp at h,λ_ _ _ _ _ _ _ h=>by cases q0b h;trivial⟩,λj r' so h1 h2=>?_⟩;cases j with
     |succ j=>simp at h2
     |zero=>
      simp only[List.getElem?_cons_zero,Option.some.injEq]at h1 h2;subst h1;subst h2;rw[hg,W.ok _ _ hu];exact⟨λ_=>trivial,λ_=>trivial,λ_=>Iff.rfl,λn m ρ ρ' L o hn hz hf=>hf⟩
    .cases hr
   .cases hr
  .cases hr
 shf b b' g n m ρ ρ' hm hk hb:=⟨q6h qr8 (λL o hf=>hf) q2v,q2v⟩
def CT.abs(W:Wr α):CT α where
 R:=1
 sz:=1
 cells b _:=[.p b 0]
 blks _ g:=[.abs (W.wrap g)]
 read h l:=match l with
  | [.p j 0]=>match h.get j with
   | .abs x=>match W.un x with
    |some g=>some (g,[],[some j],[])
    |none=>none
   |_=>none
  |_=>none
 put b g:=.ret ([.p b 0],[.abs (W.wrap g)])
 blen _ _:=rfl
 clen _ _:=rfl
 ilen h l g ps ids fzs hr:=by
  split at hr
  .split at hr
   .split at hr
    .simp only[Option.some.injEq,Prod.mk.injEq]at hr;rw[<-hr.2.2.1];rfl
    .cases hr
   .cases hr
  .cases hr
 ok N k0 h l g ps ids fzs hr hp:=by
  split at hr
  .rename_i j;split at hr
   .rename_i x hg;split at hr
    .rename_i a hu;simp only[Option.some.injEq,Prod.mk.injEq]at hr;obtain⟨rfl,rfl,rfl,rfl⟩:=hr;refine⟨λk so hso=>?_,λn' m' ρ ρ' x hn hz hf=>?_⟩
     .cases k with
      |succ k=>simp at hso
      |zero=>
       simp only[List.getElem?_cons_zero,Option.some.injEq]at hso;subst hso;refine .inr ⟨j,rfl,by rw[hg,W.ok _ _ hu];exact z0o,λn' m' ρ ρ' L o hn hz hf=>?_⟩;rw[hg]at hf;exact hf
     .obtain⟨y,r,rfl,hy,hr'⟩:=q04 hf;refine⟨⟨by have:=hn.le;simp only[List.length_cons,List.length_nil]at this;omega,?_⟩,by have:=q0b hr';subst this;trivial⟩;have:=hn.yes 0 j rfl;rw[show N+k0+0=N+k0 from rfl]at this;rw[this];exact hy.2
    .cases hr
   .cases hr
  .cases hr
 shf b b' g n m ρ ρ' hm hk hb:=by
  have h0:=hk 0 (by omega);simp only[Nat.add_zero]at h0;refine⟨λx hf=>?_,q6h qr8 (λL o hf=>hf) q2v⟩;obtain⟨y,r,rfl,hy,hr'⟩:=q04 hf;refine⟨⟨by omega,?_⟩,by have:=q0b hr';subst this;trivial⟩;rw[h0];exact hy.2
 putOk _ _ _ h:=h
def LP.abs(N id:Nat)(W:Wr α):LP N α where
 R:=0
 read σ:=match σ.h.get id with
  | .abs x=>match W.un x with
   |some g=>some (g,[],[])
   |none=>none
  |_=>none
 ents _ _:=[]
 blks _ _:=[]
 objs _ g:=[(id,.abs (W.wrap g))]
 es:=[]
 os:=[id]
 eseq _ _:=rfl
 oseq _ _:=rfl
 blen _ _:=rfl
 ilen σ g ps ids h:=by
  split at h
  .split at h
   .simp only[Option.some.injEq,Prod.mk.injEq]at h;rw[<-h.2.2];rfl
   .cases h
  .cases h
 ok k0 σ g ps ids h hp:=by
  split at h
  .rename_i x hg;split at h
   .rename_i a hu;simp only[Option.some.injEq,Prod.mk.injEq]at h;obtain⟨rfl,rfl,rfl⟩:=h;refine⟨λk so h=>by simp at h,λid' so h=>?_,λj s h=>by simp at h⟩;simp only[List.mem_singleton,Prod.mk.injEq]at h;obtain⟨rfl,rfl⟩:=h;rw[hg,W.ok _ _ hu];exact⟨z0o,λn m ρ ρ' L o hn hf=>hf⟩
   .cases h
  .cases h
end
section
variable{M:Nat->Prop}{w0 w:World}{ρ:Rh}{h:SH}{κ α:Type}{W:Wr α}{lay:κ->List PO}{Rel:κ->α->Prop}
theorem lay_get{pos:List PO}{k:Nat}{so:SO}(h:(pos.map PO.so)[k]?=some so):∃p,pos[k]?=some p/\so=p.so:=by
 rw[List.getElem?_map]at h;cases hp:pos[k]? with
 |none=>rw[hp]at h;cases h
 |some p=>rw[hp]at h;exact⟨p,rfl,(Option.some.inj h).symm⟩
theorem HM.enter(hm:HM M w0 ρ h w){i:Nat}{a:α}(hg:h.get i=.abs (W.wrap a))(hrep:∀L S H F,Env.rep (W.wrap a) L S H F->qbs lay Rel a L S H F):
  ∃k ρ1,Rel k a/\ρ1.mem=ρ.mem/\ρ1.lo=ρ.lo/\ρ1 0=ρ i/\HM M w0 ρ1 (q0u ((lay k).map PO.so)) w:=by
 obtain⟨S,hS⟩:=hm.ab;obtain⟨k,ρL,h1,h2,h3⟩:=hrep _ _ _ _ (hS i _ hg).1;refine⟨k,⟨ρL.lc,ρ.mem,ρ.lo⟩,h1,rfl,rfl,h3.r0,?_⟩;have hag:Agr (lay k).length ρL ⟨ρL.lc,ρ.mem,ρ.lo⟩:=⟨λ_ _=>rfl,λb o hb _=>by rw[h2]at hb;exact hb⟩;refine hm.unfold hS (ρ':=⟨ρL.lc,ρ.mem,ρ.lo⟩) rfl rfl (λk' so a' hk=>?_) (λk' so hk=>?_) (λk' so hk ho=>?_) λk1 k2 so so' hk hk' ho ho' he=>?_
 .obtain⟨p,_,rfl⟩:=lay_get hk;exact p.so_abs a'
 .obtain⟨p,hp,rfl⟩:=lay_get hk;rw[List.length_map];exact(p.so_fit).2 (PO.fit_mono (Nat.le_refl _) hag (h3.fit k' p hp))
 .obtain⟨p,hp,rfl⟩:=lay_get hk;have ho:=(p.so_own).1 ho;refine⟨i,_,hg,?_⟩;by_cases hk0:k'=0
  .subst hk0;exact .inl (by rw[<-h3.r0])
  .exact .inr ((h3.has _).2 ⟨k',p,by omega,hp,ho,rfl⟩)
 .obtain⟨p,hp,rfl⟩:=lay_get hk;obtain⟨p',hp',rfl⟩:=lay_get hk';exact h3.inj k1 k2 p p' hp hp' ((p.so_own).1 ho) ((p'.so_own).1 ho') he
def furB(ρ:Rh)(pos:List PO)(c:Nat):Nat->Prop:=λb=>∃(k:Nat)(p:PO),0<k/\pos[k]?=some p/\p.own (ρ (c+k))/\(ρ (c+k)).blk=b
theorem HM.rep_of(hm:HM M w0 ρ h w){pos:List PO}{c:Nat}{ρ':Rh}(hm':ρ'.mem=ρ.mem)(hr:∀k,k<pos.length->ρ' k=ρ (c+k))(hroot:∃xs t,pos[0]?=some (.cells xs t))
  (hso:∀(k:Nat)p,pos[k]?=some p->(∀L,(h.get (c+k)).own L↔p.own L)/\((h.get (c+k)).fit h.nx ρ (ρ (c+k)) w.heap[(ρ (c+k)).blk]?->p.fit pos.length ρ' (ρ (c+k)) w.heap[(ρ (c+k)).blk]?)):Lay pos ρ' (ρ c) (furB ρ pos c) λb=>w.heap[b]? where
 root:=hroot
 r0:=by
  obtain⟨xs,t,h0⟩:=hroot;exact hr 0 (List.getElem?_eq_some_iff.1 h0).1
 fit k p hp:=by
  rw[hr k (List.getElem?_eq_some_iff.1 hp).1];exact(hso k p hp).2 (hm.ob _)
 inj k k' p p' hp hp' ho ho' he:=by
  rw[hr k (List.getElem?_eq_some_iff.1 hp).1]at ho he;rw[hr k' (List.getElem?_eq_some_iff.1 hp').1]at ho' he;have:=hm.inj _ _ (((hso k p hp).1 _).2 ho) (((hso k' p' hp').1 _).2 ho') he;omega
 has b:=by
  unfold furB;constructor
  .rintro⟨k,p,h1,h2,h3,h4⟩;have:=hr k (List.getElem?_eq_some_iff.1 h2).1;exact⟨k,p,h1,h2,by rw[this];exact h3,by rw[this];exact h4⟩
  .rintro⟨k,p,h1,h2,h3,h4⟩;rw[hr k (List.getElem?_eq_some_iff.1 h2).1]at h3 h4;exact⟨k,p,h1,h2,h3,h4⟩
end
section
variable{P:Program}{f:Nat}{κ α γ δ:Type}{W:Wr α}{lay:κ->List PO}{Rel:κ->α->Prop}{C:CT κ}{t:TypeId}{D:DA γ}{E:Dv δ}
theorem qcw{ρ ρ':Rh}(h:ρ' 0=ρ 0):q4p 1 ρ'=q4p 1 ρ:=by
 show [Value.pointer (some ⟨(ρ' 0).blk,(ρ' 0).off+0,none⟩)]=[Value.pointer (some ⟨(ρ 0).blk,(ρ 0).off+0,none⟩)];rw[h]
theorem zxb(hlay:∀k,SO.cells (C.cells 1 k) t::C.blks 1 k=(lay k).map PO.so)(hroot:∀k,∃xs t,(lay k)[0]?=some (.cells xs t))(hrep:∀a L S H F,Env.rep (W.wrap a) L S H F↔qbs lay Rel a L S H F)
  {post:κ->γ->κ×δ->Prop} {pre:κ->γ->List Prop} (hp:FnTR P f (TA.one t C) D (TR.pure E) post pre) {fn:α->γ->α×δ} {pre':α->γ->List Prop}
  (hpre:∀k a d,Rel k a->D.bd d->(∀p∈pre' a d,p)->∀p∈pre k d,p) (hpost:∀k a d r,Rel k a->D.bd d->(∀p∈pre' a d,p)->post k d r->Rel r.1 (fn a d).1/\r.2=(fn a d).2):FnT P f (TA.abs W) D (TR.pure E) fn pre':=by
 intro M w ρ a d vs hm hq hf;have hbd:=D.fb _ _ _ _ hf;obtain⟨k,ρ1,h1,h2,h3,h4,h5⟩:=hm.enter (i:=0) (a:=a) (W:=W) (lay:=lay) (Rel:=Rel) rfl λL S H F h=>(hrep a L S H F).1 h;have hc:q2k (TA.one t C) k=(lay k).map PO.so:=hlay k;rw[<-hc]at h5;have hcall:=hp M w ρ1 k d vs h5 (hpre k a d h1 hbd hq) (by rw[h2];exact hf);have hr:q4p (TA.one t C).q ρ1=q4p (TA.abs W).q ρ:=qcw h4;rw[hr]at hcall;refine hcall.mono ?_;rintro e w' ⟨x,ρ',r,k1,rfl,k2,k3,k4,k5,k6⟩;obtain⟨p1,p2⟩:=hpost k a d r h1 hbd hq k1
 have hc':q2f (TA.one t C) (TR.pure E) r=(lay r.1).map PO.so:=by
  rw[<-hlay r.1];show _++(_++[])=_;rw[List.append_nil];rfl
 rw[hc']at k5;have hlen:∀q,(q0u ((lay r.1).map PO.so)).get q=(((lay r.1).map PO.so)[q]?).getD .dead:=λq=>q0v _ _
 have hL:Lay (lay r.1) ρ' (ρ' 0) (furB ρ' (lay r.1) 0) λb=>w'.heap[b]?:=k5.rep_of (c:=0) rfl (λq _=>by rw[Nat.zero_add]) (hroot r.1) λq p hp=>by
  rw[Nat.zero_add,hlen,List.getElem?_map,hp];refine⟨λL=>p.so_own,λhf=>?_⟩;have:=(p.so_fit).1 hf
  rwa [show(q0u ((lay r.1).map PO.so)).nx=(lay r.1).length from List.length_map ..]at this
 have hr0:ρ' 0=ρ 0:=(k2 0 (Nat.lt_succ_self 0)).trans h4
 refine⟨x,ρ',rfl,λq hq=>by
  have:q=0:=Nat.lt_one_iff.1 hq;subst this;exact hr0,λb o hb=>k3 b o (by rw[h2];exact hb),k4.trans h3,?_,by rw[<-p2];exact E.cl _ _ _ _ _ _ (λ_ _ h=>h) k6⟩
 obtain⟨xs,t',hx⟩:=hroot r.1;have h0:(q0u ((lay r.1).map PO.so)).get 0=.cells xs t':=by rw[hlen,List.getElem?_map,hx];rfl
 have hob:=k5.ob 0;rw[h0]at hob;refine k5.fold ρ' [.abs (W.wrap (fn a d).1)] (λ_=>0) (λk j=>k=0/\j<(lay r.1).length) (λ_=>furB ρ' (lay r.1) 0) rfl rfl (λk k' j h h'=>h.1.trans h'.1.symm) λq so hq=>?_;cases q with
 |succ q=>simp at hq
 |zero=>
  simp only[List.getElem?_cons_zero,Option.some.injEq]at hq;refine .inr ⟨_,hq.symm,⟨rfl,(List.getElem?_eq_some_iff.1 hx).1⟩,by rw[h0];trivial,hob.1,hob.2.1,rfl,λb hb=>?_,(hrep _ _ _ _ _).2 ⟨r.1,ρ',p1,rfl,hL⟩⟩;obtain⟨q,p,q1,q2,q3,q4⟩:=hb;rw[Nat.zero_add]at q3 q4;refine⟨q,⟨rfl,(List.getElem?_eq_some_iff.1 q2).1⟩,by omega,?_,q4⟩;rw[hlen,List.getElem?_map,q2];exact(p.so_own).2 q3
end
end Go.Sx

namespace Go.Sx
open Go.RowKit
variable[Env]
section
variable{M:Nat->Prop}{w0 w:World}{ρ:Rh}{h:SH}{κ α:Type}{W:Wr α}{lay:κ->List PO}{Rel:κ->α->Prop}{C:CT κ}{t:TypeId}
theorem HM.rep_ptr(hlay:∀k,SO.cells (C.cells 1 k) t::C.blks 1 k=(lay k).map PO.so)(hroot:∀k,∃xs t,(lay k)[0]?=some (.cells xs t))(hm:HM M w0 ρ h w){c:Nat}{g:κ}(hget:∀k,k<C.R+1->h.get (c+k)=(((CT.ptr t C).blks c g)[k]?).getD .dead):
  Lay (lay g) ⟨λk=>ρ (c+k),ρ.mem,ρ.lo⟩ (ρ c) (furB ρ (lay g) c) (λb=>w.heap[b]?)/\∀(k:Nat)p,(lay g)[k]?=some p->∀L,(h.get (c+k)).own L↔p.own L:=by
 have hlen:(lay g).length=C.R+1:=by
  have:=congrArg List.length (hlay g);simp only[List.length_cons,List.length_map,C.blen]at this;omega
 have hsh:=(CT.ptr t C).shf c 0 g h.nx (lay g).length ρ ⟨λk=>ρ (c+k),ρ.mem,ρ.lo⟩ (λ_ _ h=>h) (λk _=>by show ρ (c+(0+k))=_;rw[Nat.zero_add]) (by rw[hlen];show 0+(C.R+1)<=_;omega);have h0:(CT.ptr t C).blks 0 g=(lay g).map PO.so:=hlay g
 have key:∀(k:Nat)p,(lay g)[k]?=some p->(∀L,(h.get (c+k)).own L↔p.own L)/\∀L o,(h.get (c+k)).fit h.nx ρ L o->p.fit (lay g).length ⟨λk=>ρ (c+k),ρ.mem,ρ.lo⟩ L o:=λk p hp=>by
  have hk:k<C.R+1:=by rw[<-hlen];exact(List.getElem?_eq_some_iff.1 hp).1
  have hlt:k<((CT.ptr t C).blks c g).length:=by rw[(CT.ptr t C).blen];exact hk
  obtain⟨so',q1,q2,q3⟩:=hsh.2 k _ (List.getElem?_eq_getElem hlt);rw[h0,List.getElem?_map,hp]at q1;have q1:p.so=so':=Option.some.inj q1;subst q1;rw[hget k hk,List.getElem?_eq_getElem hlt];exact⟨λL=>(q2.1 L).symm.trans p.so_own,λL o hf=>(p.so_fit).1 (q3 L o hf)⟩
 exact⟨hm.rep_of rfl (λ_ _=>rfl) (hroot g) λk p hp=>⟨(key k p hp).1,λhf=>(key k p hp).2 _ _ hf⟩,λk p hp=>(key k p hp).1⟩
end
section
variable{P:Program}{f:Nat}{κ α γ δ:Type}{W:Wr α}{lay:κ->List PO}{Rel:κ->α->Prop}{C:CT κ}{t:TypeId}{D:DA γ}
theorem zz3(hlay:∀k,SO.cells (C.cells 1 k) t::C.blks 1 k=(lay k).map PO.so)(hroot:∀k,∃xs t,(lay k)[0]?=some (.cells xs t))(hrep:∀a L S H F,Env.rep (W.wrap a) L S H F↔qbs lay Rel a L S H F)
  {post:κ->γ->κ×κ->Prop} {pre:κ->γ->List Prop} (hp:FnTR P f (TA.one t C) D (TR.ct (CT.ptr t C) rfl) post pre) {fn:α->γ->α×α} {pre':α->γ->List Prop}
  (hpre:∀k a d,Rel k a->D.bd d->(∀p∈pre' a d,p)->∀p∈pre k d,p) (hpost:∀k a d r,Rel k a->D.bd d->(∀p∈pre' a d,p)->post k d r->Rel r.1 (fn a d).1/\Rel r.2 (fn a d).2):FnT P f (TA.abs W) D (TR.ct (CT.abs W) rfl) fn pre':=by
 intro M w ρ a d vs hm hq hf;have hbd:=D.fb _ _ _ _ hf;obtain⟨k,ρ1,h1,h2,h3,h4,h5⟩:=hm.enter (i:=0) (a:=a) (W:=W) (lay:=lay) (Rel:=Rel) rfl λL S H F h=>(hrep a L S H F).1 h;have hc:q2k (TA.one t C) k=(lay k).map PO.so:=hlay k;rw[<-hc]at h5;have hcall:=hp M w ρ1 k d vs h5 (hpre k a d h1 hbd hq) (by rw[h2];exact hf);have hr:q4p (TA.one t C).q ρ1=q4p (TA.abs W).q ρ:=qcw h4;rw[hr]at hcall;refine hcall.mono ?_;rintro e w' ⟨x,ρ',r,k1,rfl,k2,k3,k4,k5,k6⟩;obtain⟨p1,p2⟩:=hpost k a d r h1 hbd hq k1
 have hlen:∀g,(lay g).length=C.R+1:=λg=>by
  have:=congrArg List.length (hlay g);simp only[List.length_cons,List.length_map,C.blen]at this;omega
 have hc':q2f (TA.one t C) (TR.ct (CT.ptr t C) rfl) r=(CT.ptr t C).blks 0 r.1++(CT.ptr t C).blks (1+C.R) r.2:=by
  show [_]++(C.blks 1 r.1++(CT.ptr t C).blks (1+C.R) r.2)=_;show [_]++(C.blks 1 r.1++_)=(_::C.blks 1 r.1)++_;rfl
 rw[hc']at k5;have hl1:((CT.ptr t C).blks 0 r.1).length=C.R+1:=(CT.ptr t C).blen _ _
 have hg1:∀q,q<C.R+1->(q0u ((CT.ptr t C).blks 0 r.1++(CT.ptr t C).blks (1+C.R) r.2)).get (0+q)=(((CT.ptr t C).blks 0 r.1)[q]?).getD .dead:=λq hq=>by
  rw[q0v,Nat.zero_add,List.getElem?_append_left (by omega)]
 have hg2:∀q,q<C.R+1->(q0u ((CT.ptr t C).blks 0 r.1++(CT.ptr t C).blks (1+C.R) r.2)).get (1+C.R+q)=(((CT.ptr t C).blks (1+C.R) r.2)[q]?).getD .dead:=λq hq=>by
  rw[q0v,List.getElem?_append_right (by omega),hl1,show 1+C.R+q-(C.R+1)=q by omega]
 obtain⟨L1,O1⟩:=HM.rep_ptr (lay:=lay) hlay hroot k5 (c:=0) (g:=r.1) hg1;obtain⟨L2,O2⟩:=HM.rep_ptr (lay:=lay) hlay hroot k5 (c:=1+C.R) (g:=r.2) hg2;have hr0:ρ' 0=ρ 0:=(k2 0 (Nat.lt_succ_self 0)).trans h4
 let ρ3:Rh:=⟨λ|0=>ρ' 0|_+1=>ρ' (1+C.R),ρ'.mem,ρ'.lo⟩
 have hroot':∀(g:κ)(c:Nat),(∀(q:Nat)p,(lay g)[q]?=some p->∀L,((q0u ((CT.ptr t C).blks 0 r.1++(CT.ptr t C).blks (1+C.R) r.2)).get (c+q)).own L↔p.own L)->Lay (lay g) ⟨λq=>ρ' (c+q),ρ'.mem,ρ'.lo⟩ (ρ' c) (furB ρ' (lay g) c) (λb=>w'.heap[b]?)->(∀L,((q0u ((CT.ptr t C).blks 0 r.1++(CT.ptr t C).blks (1+C.R) r.2)).get c).own L)/\(ρ' c).nl=false/\(ρ' c).off=0:=λg c ho hL=>by
  obtain⟨xs,t',hx⟩:=hroot g;refine⟨λL=>by have:=(ho 0 _ hx L).2 trivial;exact this,?_⟩;have:=hL.fit 0 _ hx;exact⟨this.1,this.2.1⟩
 refine⟨x,ρ3,rfl,λq hq=>by
  have:q=0:=Nat.lt_one_iff.1 hq;subst this;exact hr0,λb o hb=>k3 b o (by rw[h2];exact hb),k4.trans h3,?_,?_⟩
 .refine k5.fold ρ3 [.abs (W.wrap (fn a d).1),.abs (W.wrap (fn a d).2)] (λ|0=>0|_+1=>1+C.R) (λ|0,j=>j<1+C.R|1,j=>1+C.R<=j|_+2,_=>False) (λ|0=>furB ρ' (lay r.1) 0|_+1=>furB ρ' (lay r.2) (1+C.R)) rfl rfl (λk k' j h h'=>?_) λq so hq=>?_
  .match k,k',h,h' with
   |0,0,_,_=>rfl
   |1,1,_,_=>rfl
   |0,1,h,h'=>exact absurd h (Nat.not_lt.2 h')
   |1,0,h,h'=>exact absurd h' (Nat.not_lt.2 h)
   |_+2,_,h,_=>exact h.elim
   |0,_+2,_,h=>exact h.elim
   |1,_+2,_,h=>exact h.elim
  match q,hq with
  |0,hq=>
   simp only[List.getElem?_cons_zero,Option.some.injEq]at hq;obtain⟨z1,z2,z3⟩:=hroot' r.1 0 O1 L1;refine .inr ⟨_,hq.symm,show 0<1+C.R by omega,z1 _,z2,z3,rfl,λb hb=>?_,(hrep _ _ _ _ _).2 ⟨r.1,⟨λk=>ρ' (0+k),ρ'.mem,ρ'.lo⟩,p1,rfl,L1⟩⟩;obtain⟨q,p,q1,q2,q3,q4⟩:=hb;have hlt:=(List.getElem?_eq_some_iff.1 q2).1;rw[hlen]at hlt;exact⟨0+q,show 0+q<1+C.R by omega,show 0+q≠0 by omega,(O1 q p q2 _).2 q3,q4⟩
  |1,hq=>
   simp only[List.getElem?_cons_succ,List.getElem?_cons_zero,Option.some.injEq]at hq;obtain⟨z1,z2,z3⟩:=hroot' r.2 (1+C.R) O2 L2;refine .inr ⟨_,hq.symm,show 1+C.R<=1+C.R from Nat.le_refl _,z1 _,z2,z3,rfl,λb hb=>?_,(hrep _ _ _ _ _).2 ⟨r.2,⟨λk=>ρ' (1+C.R+k),ρ'.mem,ρ'.lo⟩,p2,rfl,L2⟩⟩;obtain⟨q,p,q1,q2,q3,q4⟩:=hb;exact⟨1+C.R+q,show 1+C.R<=1+C.R+q by omega,show 1+C.R+q≠1+C.R by omega,(O2 q p q2 _).2 q3,q4⟩
  |q+2,hq=>simp at hq
 .obtain⟨_,y⟩:=(show(SV.p (1+C.R) 0).fit _ ρ' x from k6);exact⟨Nat.lt_succ_self 1,y⟩
theorem zxa{E:El δ}{d0:κ}{a0:α}(hlay:∀k,SO.cells (C.cells 1 k) t::C.blks 1 k=(lay k).map PO.so)(hroot:∀k,∃xs t,(lay k)[0]?=some (.cells xs t))(hrep:∀a L S H F,Env.rep (W.wrap a) L S H F↔qbs lay Rel a L S H F)
  {post:Unit->γ->Unit×(Option κ×δ)->Prop} {pre:Unit->γ->List Prop} (hp:FnTR P f TA.nil D (TR.tup (CT.pair (CT.opt (CT.ptr t C) d0 rfl) (CT.pl E))) post pre) {fn:γ->Option α×δ} {pre':γ->List Prop}
  (hpre:∀d,D.bd d->(∀p∈pre' d,p)->∀p∈pre () d,p) (hpost:∀d r,D.bd d->(∀p∈pre' d,p)->post () d r->r.2.2=(fn d).2/\((r.2.1=none/\(fn d).1=none)\/∃k a,r.2.1=some k/\(fn d).1=some a/\Rel k a)) :
  FnT P f TA.nil D (TR.tup (CT.pair (CT.opt (CT.abs W) a0 rfl) (CT.pl E))) (λ_ d=>((),fn d)) (λ_ d=>pre' d):=by
 intro M w ρ u d vs hm hq hf;have hbd:=D.fb _ _ _ _ hf;refine(hp M w ρ () d vs hm (hpre d hbd hq) hf).mono ?_;rintro e w' ⟨x,ρ',⟨u',g,z⟩,k1,rfl,k2,k3,k4,k5,k6⟩;obtain⟨p1,p2⟩:=hpost d _ hbd hq k1;have p3:z=(fn d).2:=p1;rcases p2 with ⟨e1,e2⟩|⟨k,a,e1,e2,e3⟩
 .have e1:g=none:=e1;subst e1
  have hlist:q2f (TA.nil:TA Unit) (TR.tup (CT.pair (CT.opt (CT.abs W) a0 rfl) (CT.pl E))) ((),fn d)=[.dead]:=by
   generalize fn d=y at e2 ⊢;obtain⟨y1,y2⟩:=y;have e2:y1=none:=e2;subst e2;rfl
  refine⟨x,ρ',rfl,λq hq=>absurd hq (Nat.not_lt_zero q),k3,k4,?_,?_⟩
  .show HM M w ρ' (q0u (q2f _ _ ((),fn d))) w';rw[hlist]
   exact k5.fold ρ' [.dead] (λ_=>0) (λ_ _=>False) (λ_ _=>False) rfl rfl (λ_ _ _ h=>h.elim) λq so hq=>by
    cases q with
    |succ q=>simp at hq
    |zero=>simp only[List.getElem?_cons_zero,Option.some.injEq]at hq;exact .inl hq.symm
  .have hv:(TR.tup (CT.pair (CT.opt (CT.ptr t C) d0 rfl) (CT.pl E))).val 0 (none,z)=.tup (.k (.pointer none)::E.cells z):=rfl
   have hw:(TR.tup (CT.pair (CT.opt (CT.abs W) a0 rfl) (CT.pl E))).val 0 (fn d)=.tup (.k (.pointer none)::E.cells z):=by
    rw[p3];generalize fn d=y at e2 ⊢;obtain⟨y1,y2⟩:=y;have e2:y1=none:=e2;subst e2;rfl
   obtain⟨l,rfl,hl⟩:=(show(SV.tup (.k (.pointer none)::E.cells z)).fit _ ρ' x from k6);show((TR.tup (CT.pair (CT.opt (CT.abs W) a0 rfl) (CT.pl E))).val 0 (fn d)).fit _ _ _;rw[hw];obtain⟨y,r,rfl,hy,hr⟩:=q04 hl;exact⟨_,rfl,hy,E.cl _ _ _ _ _ _ (λ_ _ h=>h) hr⟩
 .have e1:g=some k:=e1;subst e1
  have hc':q2f (TA.nil:TA Unit) (TR.tup (CT.pair (CT.opt (CT.ptr t C) d0 rfl) (CT.pl E))) (u',some k,z)=(CT.ptr t C).blks 0 k:=by
   show []++([]++((CT.ptr t C).blks 0 k++[]))=_;simp
  have k5:HM M w ρ' (q0u (q2f (TA.nil:TA Unit) (TR.tup (CT.pair (CT.opt (CT.ptr t C) d0 rfl) (CT.pl E))) (u',some k,z))) w':=k5;rw[hc']at k5;obtain⟨L1,O1⟩:=HM.rep_ptr (lay:=lay) hlay hroot k5 (c:=0) (g:=k) λq _=>by rw[q0v,Nat.zero_add]
  have hlist:q2f (TA.nil:TA Unit) (TR.tup (CT.pair (CT.opt (CT.abs W) a0 rfl) (CT.pl E))) ((),fn d)=[.abs (W.wrap a)]:=by
   generalize fn d=y at e2 ⊢;obtain⟨y1,y2⟩:=y;have e2:y1=some a:=e2;subst e2;rfl
  refine⟨x,ρ',rfl,λq hq=>absurd hq (Nat.not_lt_zero q),k3,k4,?_,?_⟩
  .show HM M w ρ' (q0u (q2f _ _ ((),fn d))) w';rw[hlist];obtain⟨xs,t',hx⟩:=hroot k;have hob:=L1.fit 0 _ hx;refine k5.fold ρ' [.abs (W.wrap a)] (λ_=>0) (λq _=>q=0) (λ_=>furB ρ' (lay k) 0) rfl rfl (λk k' j h h'=>h.trans h'.symm) λq so hq=>?_;cases q with
   |succ q=>simp at hq
   |zero=>
    simp only[List.getElem?_cons_zero,Option.some.injEq]at hq;refine .inr ⟨_,hq.symm,rfl,(O1 0 _ hx _).2 trivial,hob.1,hob.2.1,rfl,λb hb=>?_,(hrep _ _ _ _ _).2 ⟨k,⟨λk=>ρ' (0+k),ρ'.mem,ρ'.lo⟩,e3,rfl,L1⟩⟩;obtain⟨q,p,q1,q2,q3,q4⟩:=hb;exact⟨0+q,rfl,by omega,(O1 q p q2 _).2 q3,q4⟩
  .have hw:(TR.tup (CT.pair (CT.opt (CT.abs W) a0 rfl) (CT.pl E))).val 0 (fn d)=.tup (.p 0 0::E.cells z):=by
    rw[p3];generalize fn d=y at e2 ⊢;obtain⟨y1,y2⟩:=y;have e2:y1=some a:=e2;subst e2;rfl
   obtain⟨l,rfl,hl⟩:=(show(SV.tup (.p 0 0::E.cells z)).fit _ ρ' x from k6);show((TR.tup (CT.pair (CT.opt (CT.abs W) a0 rfl) (CT.pl E))).val 0 (fn d)).fit _ _ _;rw[hw];obtain⟨y,r,rfl,hy,hr⟩:=q04 hl;exact⟨_,rfl,⟨Nat.lt_succ_self 0,hy.2⟩,E.cl _ _ _ _ _ _ (λ_ _ h=>h) hr⟩
end
end Go.Sx

namespace Go.Lp
open Go.Sx
variable{α β:Type}
theorem qft{x:Nat}{st:β->Int->α->Ex×β}{p:α->Bool}{r:α->β->β}(h:∀b i a,st b i a=bif p a then(.ret,r a b)else(.normal,b)):∀(l:List α)(i:Int)(b:β),
  (∃a j,l.find? p=some a/\scan x st i l b=(.ret,j,r a b))\/(l.find? p=none/\scan x st i l b=(.exit x,i+(l.length:Int),b))
 | [],i,b=>.inr ⟨rfl,by simp[scan]⟩
 |a::l,i,b=>by
  simp only[scan,h];cases hp:p a with
  |true=>exact .inl ⟨a,i,by simp[hp],rfl⟩
  |false=>
   simp only[cond_false];rcases qft h l (i+1) b with ⟨a',j,h1,h2⟩|⟨h1,h2⟩
   .exact .inl ⟨a',j,by simp[hp,h1],h2⟩
   .refine .inr ⟨by simp[hp,h1],?_⟩;rw[h2,List.length_cons];simp only[Prod.mk.injEq,true_and,and_true];omega
end Go.Lp

namespace Go.Lp
open Go.Sx
variable[Env]
section
variable{α κ β:Type}[DecidableEq κ](key:α->κ)(val:α->β)(d:MpE κ β)
def kAt(m:List (MpE κ β))(k:κ):Nat:=m.findIdx λe=>decide (k=e.1)
def qi2(m:List (MpE κ β)×Nat)(x:α):List (MpE κ β)×Nat:=
 if kAt m.1 (key x)<m.1.length then(m.1.set (kAt m.1 (key x)) (key x,val x,(m.1.getD (kAt m.1 (key x)) d).2.2),m.2)
 else(m.1++[(key x,val x,(m.2:Int))],m.2+1)
def mget(m:List (MpE κ β))(k:κ):Option β:=(m.find? λe=>decide (k=e.1)).map λe=>e.2.1
theorem zls(m:List (MpE κ β))(k:κ):mget m k=if kAt m k<m.length then some (m.getD (kAt m k) d).2.1 else none:=by
 unfold mget kAt
 induction m with
 |nil=>rfl
 |cons e m ih=>
  rw[List.find?_cons,List.findIdx_cons];cases h:decide (k=e.1)with
  |true=>simp
  |false=>
   simp only[cond_false,List.length_cons,Nat.add_lt_add_iff_right,List.getD_cons_succ];exact ih
theorem qul(m:List (MpE κ β)×Nat)(x:α)(k:κ):mget (qi2 key val d m x).1 k=if key x=k then some (val x)else mget m.1 k:=by
 obtain⟨m,clk⟩:=m;unfold qi2;simp only
 induction m with
 |nil=>
  by_cases h:key x=k
  .simp[mget,kAt,h]
  .simp[mget,kAt,h,Ne.symm h]
 |cons e m ih=>
  have hk:kAt (e::m) (key x)=bif decide (key x=e.1)then 0 else kAt m (key x)+1:=by
   unfold kAt;rw[List.findIdx_cons]
  cases h:decide (key x=e.1)with
  |true=>
   rw[hk,h];have he:=of_decide_eq_true h;simp only[cond_true,List.length_cons,Nat.zero_lt_succ,if_true,List.set_cons_zero];unfold mget;rw[List.find?_cons,List.find?_cons];by_cases hx:key x=k
   .simp[hx]
   .have h1:decide (k=key x)=false:=decide_eq_false (Ne.symm hx);have h2:decide (k=e.1)=false:=decide_eq_false (by rw[<-he];exact Ne.symm hx);simp[h1,h2,hx]
  |false=>
   rw[hk,h];have he:=of_decide_eq_false h;simp only[cond_false,List.length_cons,Nat.add_lt_add_iff_right,List.getD_cons_succ,List.set_cons_succ,List.cons_append]
   have key2:∀(t:List (MpE κ β)),mget (e::t) k=if k=e.1 then some e.2.1 else mget t k:=λt=>by
    unfold mget;rw[List.find?_cons];by_cases hke:k=e.1
    .simp[hke]
    .simp[hke]
   by_cases hlt:kAt m (key x)<m.length
   .rw[if_pos hlt]at ih ⊢;rw[key2,key2,ih];by_cases hx:key x=k
    .rw[if_pos hx,if_pos hx,if_neg (λhke=>he (hx.trans hke))]
    .rw[if_neg hx,if_neg hx]
   .rw[if_neg hlt]at ih ⊢;rw[key2,key2,ih];by_cases hx:key x=k
    .rw[if_pos hx,if_pos hx,if_neg (λhke=>he (hx.trans hke))]
    .rw[if_neg hx,if_neg hx]
theorem qoo:∀(xs:List α)(m:List (MpE κ β)×Nat)(k:κ),mget (xs.foldl (qi2 key val d) m).1 k=match xs.reverse.find? (λx=>decide (key x=k))with
  |some x=>some (val x)
  |none=>mget m.1 k
 | [],m,k=>rfl
 |x::xs,m,k=>by
  rw[List.foldl_cons,qoo xs,List.reverse_cons,List.find?_append];cases xs.reverse.find? (λx=>decide (key x=k))with
  |some y=>rfl
  |none=>
   rw[qul];by_cases h:key x=k
   .simp[h]
   .simp[h]
end
end Go.Lp

namespace Go.Sx
variable[Env]
theorem z1e{α γ δ:Type}{P:Program}{f t:Nat}{A:El α}{D:DA γ}{R:RM δ}{fn fn':List α->γ->List α×δ}{pre:List α->γ->List Prop}(h:qht P f t A D R fn pre)(e:∀xs g,D.bd g->xs.length<=maxLen->(∀p∈pre xs g,p)->fn xs g=fn' xs g):qht P f t A D R fn' pre:=by
 intro w F L xs g v0 vs h1 hE h2 h3 h4 h5 h6;refine(h w F L xs g v0 vs h1 hE h2 h3 h4 h5 h6).mono ?_;rintro e' w' ⟨x,k1,k2,k3,k4⟩;rw[e xs g (D.fb _ _ _ _ h6) h5.1 h4]at k3 k4;exact⟨x,k1,k2,k3,k4⟩
end Go.Sx

namespace Go.Lp
open Go.Sx
variable[Env]
section
variable{α:Type}[DecidableEq α]
def insG(cf:α->α->Int)(s:α):Bool->List α->List α
 |b,[]=>bif b then []else [s]
 |b,y::r=>bif b||decide (y=s)then y::insG cf s true r else bif decide (cf s y<0)then s::y::insG cf s true r else y::insG cf s false r
theorem qpb(cf:α->α->Int)(s:α):∀l:List α,insG cf s true l=l
 | []=>rfl
 |y::r=>by simp[insG,qpb cf s r]
theorem qjr(cf:α->α->Int)(s:α):∀l:List α,insG cf s false l=insU cf s l
 | []=>rfl
 |y::r=>by
  simp only[insG,insU,qpb,qjr cf s r,Bool.false_or];by_cases h:y=s
  .simp[h]
  .by_cases h2:cf s y<0<;>simp[h,h2]
abbrev IsG(α:Type):=List α×Unit×α×List α×Bool×Int
def isF(x:Nat)(d:α)(cf:α->α->Int)(g:IsG α):Ex×IsG α:=
 bif decide (g.2.2.2.2.2<(g.1.length:Int))then
  bif !(bif decide (g.1.getD g.2.2.2.2.2.toNat d=g.2.2.1)then true else g.2.2.2.2.1)&&decide (cf g.2.2.1 (g.1.getD g.2.2.2.2.2.toNat d)<0)then
   (.normal,g.1,(),g.2.2.1,(g.2.2.2.1++[g.2.2.1])++[g.1.getD g.2.2.2.2.2.toNat d],true,w64 (g.2.2.2.2.2+1))
  else(.normal,g.1,(),g.2.2.1,g.2.2.2.1++[g.1.getD g.2.2.2.2.2.toNat d],(bif decide (g.1.getD g.2.2.2.2.2.toNat d=g.2.2.1)then true else g.2.2.2.2.1),w64 (g.2.2.2.2.2+1))
 else(.exit x,g)
def isI(K:Nat)(g:IsG α):List Prop:=[g.1.length<=K/\0<=g.2.2.2.2.2/\g.2.2.2.2.2<=(g.1.length:Int)/\(g.2.2.2.1.length:Int)<=g.2.2.2.2.2+(bif g.2.2.2.2.1 then 1 else 0)]
def isM(g:IsG α):Nat:=((g.1.length:Int)-g.2.2.2.2.2).toNat
theorem z2w(x:Nat)(d:α)(cf:α->α->Int){K:Nat}(hK:K<=9223372036854775807):Goes (isF x d cf) isM λg=>allP (isI K g):=by
 rintro⟨xs,⟨⟩,s,out,b,i⟩ hi hn;obtain⟨h2,h3,h4,h5⟩:=hi _ (List.mem_cons_self ..);simp only at h2 h3 h4 h5;unfold isF at hn ⊢;simp only at hn ⊢;by_cases hlt:i<(xs.length:Int)
 .simp only[hlt,decide_true,cond_true]at hn ⊢;rw[wr (n:=i+1) (by omega)];generalize hc1:decide (xs.getD i.toNat d=s)=c1;generalize decide (cf s (xs.getD i.toNat d)<0)=c2;have hb:(out.length:Int)<=i+1:=by cases b<;>simp only[cond_true,cond_false]at h5<;>omega
  cases b<;>cases c1<;>cases c2<;>simp only[cond_true,cond_false,Bool.not_true,Bool.not_false,Bool.true_and,Bool.false_and,Bool.and_false]at h5 ⊢ <;>
   (refine⟨λq hq=>?_,?_⟩
    .simp only[isI,List.mem_singleton]at hq;subst hq;refine⟨h2,by show(0:Int)<=i+1;omega,by show i+1<=(xs.length:Int);omega,?_⟩;simp only[List.length_append,List.length_cons,List.length_nil,cond_true,cond_false];omega
    .simp only[isM];omega)
 .simp only[hlt,decide_false,cond_false]at hn;cases hn
theorem zgg(x:Nat)(d:α)(cf:α->α->Int){K:Nat}(hK:K<=9223372036854775807):∀g:IsG α,allP (isI K g)->
  (q07 (isF x d cf) isM g).1=.exit x/\(q07 (isF x d cf) isM g).2.1=g.1/\(q07 (isF x d cf) isM g).2.2.2.1=g.2.2.1/\
   (q07 (isF x d cf) isM g).2.2.2.2.1++(bif (q07 (isF x d cf) isM g).2.2.2.2.2.1 then []else [g.2.2.1])=g.2.2.2.1++insG cf g.2.2.1 g.2.2.2.2.1 (g.1.drop g.2.2.2.2.2.toNat)/\
   (q07 (isF x d cf) isM g).2.2.2.2.1.length<=g.1.length+1:=by
 refine q1l (z2w x d cf hK) (Q:=λg r=>r.1=.exit x/\r.2.1=g.1/\r.2.2.2.1=g.2.2.1/\
   r.2.2.2.2.1++(bif r.2.2.2.2.2.1 then []else [g.2.2.1])=g.2.2.2.1++insG cf g.2.2.1 g.2.2.2.2.1 (g.1.drop g.2.2.2.2.2.toNat)/\r.2.2.2.2.1.length<=g.1.length+1) ?_ ?_
 .rintro⟨xs,⟨⟩,s,out,b,i⟩ hi hn;obtain⟨h2,h3,h4,h5⟩:=hi _ (List.mem_cons_self ..);simp only at h2 h3 h4 h5;unfold isF at hn ⊢;simp only at hn ⊢;by_cases hlt:i<(xs.length:Int)
  .simp only[hlt,decide_true,cond_true]at hn;exfalso;revert hn;generalize (!(bif decide (xs.getD i.toNat d=s)then true else b)&&decide (cf s (xs.getD i.toNat d)<0))=c;cases c<;>exactλhn=>absurd rfl hn
  .simp only[hlt,decide_false,cond_false];refine⟨trivial,trivial,trivial,?_,?_⟩
   .rw[List.drop_eq_nil_of_le (by omega)];cases b<;>simp[insG]
   .cases b<;>simp only[cond_true,cond_false]at h5<;>omega
 .rintro⟨xs,⟨⟩,s,out,b,i⟩ g' r hi he hi' _ hq;obtain⟨h2,h3,h4,h5⟩:=hi _ (List.mem_cons_self ..);simp only at h2 h3 h4 h5;unfold isF at he;simp only at he;by_cases hlt:i<(xs.length:Int)
  .have hlt':i.toNat<xs.length:=by omega
   simp only[hlt,decide_true,cond_true]at he;have e1:(i+1).toNat=i.toNat+1:=by omega
   rw[wr (n:=i+1) (by omega)]at he;rw[drop_at d hlt'];simp only;generalize hy:xs.getD i.toNat d=y at he ⊢;simp only[insG];generalize decide (y=s)=c1 at he ⊢;generalize decide (cf s y<0)=c2 at he ⊢
   cases b<;>cases c1<;>cases c2<;>simp only[cond_true,cond_false,Bool.not_true,Bool.not_false,Bool.true_and,Bool.false_and,Bool.and_false,Bool.true_or,Bool.false_or,Bool.or_true,Prod.mk.injEq,true_and]at he ⊢ <;>
    (subst he
     simp only[e1]at hq;obtain⟨q1,q2,q3,q4,q5⟩:=hq;refine⟨q1,q2,q3,?_,q5⟩;rw[q4];simp)
  .simp only[hlt,decide_false,cond_false]at he;cases he
end
end Go.Lp

namespace Go.Lp
open Go.Sx
section
variable{α β:Type}
def q5r(p:Int->α->Bool):Int->List α->Bool
 |_,[]=>false
 |i,a::l=>p i a||q5r p (i+1) l
theorem qqu{x:Nat}{e:Ex}{st:β->Int->α->Ex×β}{p:Int->α->Bool}{h:β->β}{f:β->α->β}(he:e≠.normal)(hst:∀b i a,st b i a=bif p i a then(e,h b)else(.normal,f b a)):∀(l:List α)(i:Int)(b:β),(q5r p i l=true/\∃j b',scan x st i l b=(e,j,h b'))\/(q5r p i l=false/\scan x st i l b=(.exit x,i+l.length,l.foldl f b))
 | [],i,b=>.inr ⟨rfl,by simp[scan]⟩
 |a::l,i,b=>by
  have ih:=qqu (x:=x) he hst l (i+1) (f b a);unfold q5r;simp only[scan,hst];cases hp:p i a with
  |true=>
   refine .inl ⟨rfl,i,b,?_⟩;simp only[cond_true]
  |false=>
   simp only[cond_false,Bool.false_or];rcases ih with ⟨h1,j,b',h2⟩|⟨h1,h2⟩
   .exact .inl ⟨h1,j,b',h2⟩
   .refine .inr ⟨h1,h2.trans ?_⟩;simp only[List.length_cons,List.foldl_cons];rw[show i+1+(l.length:Int)=i+((l.length+1:Nat):Int) by omega]
end
end Go.Lp

namespace Go.Sx
open Go.RowKit
variable[Env]
def z5x:Con:=λargs h=>
 match args with
 | [.mp i]=>match h.get i with
  | .map ks vs ka va el m clk _=>.ret (.mp h.nx,h.push (.map ks vs ka va el m clk false))
  |_=>.bad 730
 |_=>.bad 731
theorem zd0{P:Program}{f:Nat}(hp:∀(b:Nat)(es:Array MapEntry)(clock:Nat)(w:World),w.heap[b]?=some (.map es clock)->Calls P f #[.map (some b)] w λe w'=>e=.returned (.map (some w.heap.size))/\w'=w.alloc (.map es clock)):FnOk P f z5x:=by
 intro M w0 w ρ h args vs K hK hm hfits;unfold z5x at hK;split at hK
 .rename_i i;split at hK
  .rename_i ks vs' ka va el m clk pd hg;obtain⟨y,r,rfl,hy,hr⟩:=q04 hfits;have:=q0b hr;subst this;obtain⟨hil,rfl⟩:=hy;have hob:=hm.ob i;rw[hg]at hob;obtain⟨_,_,⟨es,h3,h4,h5,h6⟩,_⟩:=hob;refine(hp _ es clk w h3).mono ?_;rintro e w' ⟨rfl,rfl⟩;refine⟨_,_,upd ρ h.nx ⟨w.heap.size,0,0,false⟩,_,hK,Nat.le_succ _,q0t _ _ _,hm.push (o:=.map es clk) ⟨rfl,rfl,⟨es,rfl,h4,h5,h6⟩,λh=>by cases h⟩,⟨Nat.lt_succ_self _,?_⟩,rfl⟩;simp[upd]
  .exact hK.elim
 .exact hK.elim
def zx3:BCon:=⟨z5x,λargs h=>by
 unfold z5x;split
 .split
  .exact rfl
  .trivial
 .trivial⟩
end Go.Sx

namespace Go.Sx
open Go.RowKit
variable[Env]
def LP.fixO(N id t:Nat)(v:SV):LP N Unit where
 R:=0
 read σ:=match σ.h.get id with
  | .cells [a] t'=>bif qm3 N a v&&Nat.beq t' t then some ((),[],[])else none
  |_=>none
 ents _ _:=[]
 blks _ _:=[]
 objs _ _:=[(id,.cells [v] t)]
 es:=[]
 os:=[id]
 eseq _ _:=rfl
 oseq _ _:=rfl
 blen _ _:=rfl
 ilen σ g ps ids h:=by
  split at h
  .rename_i a t' _;cases hb:qm3 N a v&&Nat.beq t' t with
   |false=>rw[hb]at h;cases h
   |true=>
    rw[hb]at h;simp only[cond_true,Option.some.injEq,Prod.mk.injEq]at h;rw[<-h.2.2];rfl
  .cases h
 ok k0 σ g ps ids h hp:=by
  split at h
  .rename_i a t' hg;cases hb:qm3 N a v&&Nat.beq t' t with
   |false=>rw[hb]at h;cases h
   |true=>
    rw[hb]at h;simp only[cond_true,Option.some.injEq,Prod.mk.injEq]at h;obtain⟨_,rfl,rfl⟩:=h;simp only[Bool.and_eq_true]at hb;obtain⟨h1,h2⟩:=qm2 hb.1;have h3:=q05 hb.2;subst h1;subst h3;refine⟨λk so h=>by simp at h,λid' so h=>?_,λj s h=>by simp at h⟩;simp only[List.mem_singleton,Prod.mk.injEq]at h;obtain⟨rfl,rfl⟩:=h;rw[hg];refine⟨z0o,λn m ρ ρ' L o hr hf=>?_⟩;obtain⟨f1,f2,l,f3,f4⟩:=hf;obtain⟨y,r,rfl,hy,hr'⟩:=q04 f4;exact⟨f1,f2,_,f3,qh5 (λn ρ x hf=>hf) h2 _ _ _ _ _ hr hy,by cases q0b hr';trivial⟩
  .cases h
end Go.Sx

namespace Go.Sx
open Go.RowKit
variable[Env]
section
variable{α β γ:Type}{P:Program}{f:Nat}{ka va:Bool}{K:El α}{V:El β}{D:DA γ}
abbrev trM(ka va:Bool)(K:El α)(V:El β):TR (List (α×β×Int)×Nat):=TR.ct (CT.map ka va K V) rfl
def mapA(ka va:Bool)(K:El α)(V:El β)(g:List (α×β×Int)×Nat):SO:=.map K.sz V.sz ka va (.fn ((El.ent K V).els g.1)) g.1.length g.2 false
theorem zlt(hP:∀a,Pus ((El.ent K V).cells a)){g:List (α×β×Int)×Nat}{n m:Nat}{ρ ρ':Rh}{L L':Lc}{o:Option Obj}(hL:L'.nl=false/\L'.off=0)(h:(mapA ka va K V g).fit n ρ L o):(mapA ka va K V g).fit m ρ' L' o:=by
 obtain⟨f1,f2,⟨es,f3,f4,f5,f6⟩,f7⟩:=h;refine⟨hL.1,hL.2,⟨es,f3,f4,f5,λe he=>?_⟩,f7⟩;obtain⟨y,kc,vc,q1,q2,q3⟩:=f6 e he;exact⟨y,kc,vc,q1,hP _ _ _ _ _ _ q2,q3⟩
def qn6(ka va:Bool)(K:El α)(V:El β)(D:DA γ)(fn:γ->List (α×β×Int)×Nat)(pre:γ->List Prop):Con:=λargs h=>
 match D.dec (vwA h args).1 with
 |some (g,ps)=>asks ((vwA h args).2++(ps++pre g)) (.ret (.mp h.nx,h.push (mapA ka va K V (fn g))))
 |none=>.bad 697
theorem qkn(hP:∀a,Pus ((El.ent K V).cells a)){fn:γ->List (α×β×Int)×Nat}{pre:γ->List Prop}(hp:FnT P f TA.nil D (trM ka va K V) (λ_ g=>((),fn g)) (λ_ g=>pre g)):FnOk P f (qn6 ka va K V D fn pre):=by
 intro M w0 w ρ h args vs Kk hK hm hfits;unfold qn6 at hK;split at hK
 .rename_i g ps hd;obtain⟨hq,hK⟩:=q1d hK;have hv:=qt8 (G:=λb=>w.heap[b]?) hm hm.fz (λ_ _ _ h=>h) hfits λp h'=>hq p (List.mem_append_left _ h');have hv2:=D.ok _ _ _ _ _ _ hd (λp h'=>hq p (List.mem_append_right _ (List.mem_append_left _ h'))) hv;have hv3:=D.cl _ _ 0 ⟨ρ.lc,λb=>w.heap[b]?,ρ.lo⟩ (emp λb=>w.heap[b]?) vs (λ_ _ h=>h) hv2;have h0:HM (λ_=>False) w ⟨λ_=>⟨0,0,0,true⟩,λb=>w.heap[b]?,⟨λb=>w.heap[b]?,λ_=>none⟩⟩ ⟨0,[],[]⟩ w:=HM.start w _ (λ_ _ h=>h) (λ_ _ h=>h) (Env.mono _ _ (λb o hb _=>hm.fz b o hb) hm.env);refine(hp (λ_=>False) w _ () g vs h0 (λp h'=>hq p (List.mem_append_right _ (List.mem_append_right _ h'))) hv3).mono ?_;rintro e w' ⟨x,ρ',rfl,_,_,_,hm',hx⟩;have hb:=hm'.toBelow;have hg0:(q0u (q2f TA.nil (trM ka va K V) ((),fn g))).get 0=mapA ka va K V (fn g):=by rw[q0v];rfl
  have hob:=hm'.ob 0;have how:=hm'.ow 0;rw[hg0]at hob how
  have hfr:w.heap.size<=(ρ' 0).blk:=by
   rcases how trivial with h1|h1
   .exact h1
   .exact h1.elim
  have hm1:=hm.below hb
  have hm3:HM M w0 (upd ρ h.nx ⟨(ρ' 0).blk,0,0,false⟩) (h.push (mapA ka va K V (fn g))) w':=by
   refine hm1.learn (zlt hP ⟨rfl,rfl⟩ hob) (λ_=>⟨.inl (Nat.le_trans hm.size hfr),?_,λj hj=>?_,hm.ab_atB hb (λ_ _ h=>h) (λ_ _ h=>h) hfr⟩) (by intro _ h;cases h)
   .exact hm.fresh hfr
   .have:=hm.lt_heap hj;show(ρ j).blk≠(ρ' 0).blk;omega
  obtain⟨_,y⟩:=(show(SV.mp 0).fit _ ρ' x from hx);refine⟨_,_,upd ρ h.nx ⟨(ρ' 0).blk,0,0,false⟩,x,hK,Nat.le_succ _,q0t _ _ _,hm3,⟨Nat.lt_succ_self _,?_⟩,rfl⟩;rw[y];simp[upd]
 .exact hK.elim
def qvn(ka va:Bool)(K:El α)(V:El β)(D:DA γ)(fn:γ->List (α×β×Int)×Nat)(pre:γ->List Prop):BCon:=⟨qn6 ka va K V D fn pre,λargs h=>by
 unfold qn6;split
 .exact q2r rfl
 .trivial⟩
end
end Go.Sx

namespace Go.Sx
open Go.RowKit
variable[Env]
section
variable{M:Nat->Prop}{w0 w:World}{ρ:Rh}{h:SH}
theorem HM.fold2(hm:HM M w0 ρ h w)(ρ':Rh)(sos:List SO)(rt:Nat->Nat)(grp S:Nat->Nat->Prop)(hmem:ρ'.mem=ρ.mem)(hlo:ρ'.lo=ρ.lo)(hg:∀k k' j,grp k j->grp k' j->k=k')
  (hso:∀(k:Nat)so,sos[k]?=some so->so=.dead\/grp k (rt k)/\(so.own (ρ' k)->(h.get (rt k)).own (ρ (rt k)))/\(ρ' k).blk=(ρ (rt k)).blk/\so.fit sos.length ρ' (ρ' k) w.heap[(ρ' k).blk]?/\∀x,so=.abs x->
   (∀b,S k b->∃i,grp k i/\i≠rt k/\(h.get i).own (ρ i)/\(ρ i).blk=b)/\Env.rep x (ρ' k) (S k) (λb=>w.heap[b]?) ρ.mem):HM M w0 ρ' (q0u sos) w:=by
 have hgt:∀k so,(q0u sos).get k=so->so≠.dead->grp k (rt k)/\(so.own (ρ' k)->(h.get (rt k)).own (ρ (rt k)))/\(ρ' k).blk=(ρ (rt k)).blk/\so.fit sos.length ρ' (ρ' k) w.heap[(ρ' k).blk]?/\∀x,so=.abs x->
   (∀b,S k b->∃i,grp k i/\i≠rt k/\(h.get i).own (ρ i)/\(ρ i).blk=b)/\Env.rep x (ρ' k) (S k) (λb=>w.heap[b]?) ρ.mem:=λk so hk hd=>by
  rw[q0v]at hk;cases hs:sos[k]? with
  |none=>rw[hs]at hk;exact absurd hk.symm hd
  |some so'=>
   rw[hs]at hk;have hk:so'=so:=hk;subst hk;rcases hso k so' hs with h1|h1
   .exact absurd h1 hd
   .exact h1
 have hnd:∀k,((q0u sos).get k).own (ρ' k)->(q0u sos).get k≠.dead:=λk hk h=>by rw[h]at hk;exact hk
 exact {
  os:=hm.os
  tape:=hm.tape
  output:=hm.output
  size:=hm.size
  block:=hm.block
  lt:=λk hk=>by
   rw[q0v]at hk;show k<sos.length;by_cases hlt:k<sos.length
   .exact hlt
   .rw[List.getElem?_eq_none (by omega)]at hk;cases hk
  ob:=λk=>by
   show((q0u sos).get k).fit sos.length ρ' (ρ' k) _;by_cases hd:(q0u sos).get k=.dead
   .rw[hd];trivial
   .exact(hgt k _ rfl hd).2.2.2.1
  ow:=λk hk=>by
   obtain⟨_,h3,h6,_⟩:=hgt k _ rfl (hnd k hk);rw[h6];exact hm.ow _ (h3 hk)
  fz:=by rw[hmem];exact hm.fz
  sep:=λk hk=>by
   obtain⟨_,h3,h6,_⟩:=hgt k _ rfl (hnd k hk);rw[h6,hmem];exact hm.sep _ (h3 hk)
  old:=by rw[hmem,hlo];exact hm.old
  env:=by rw[hmem];exact hm.env
  ab:=⟨S,λk a hk=>by
   obtain⟨h2,h3,h6,_,h9⟩:=hgt k _ hk (by intro h;cases h);obtain⟨h7,h8⟩:=h9 a rfl;rw[hmem];refine⟨h8,λb hb=>?_⟩;obtain⟨i,q1,q2,q3,rfl⟩:=h7 b hb;refine⟨hm.ow i q3,hm.sep i q3,hm.lt_heap q3,λk' hk' he=>?_,λk' a' hk' hb'=>?_⟩
   .obtain⟨r2,r3,r6,_⟩:=hgt k' _ rfl (hnd k' hk');rw[r6]at he;have:=hm.inj _ _ (r3 hk') q3 he;rw[this]at r2;have hkk:=hg k' k i r2 q1;subst hkk;exact q2 this.symm
   .obtain⟨_,_,_,_,r9⟩:=hgt k' _ hk' (by intro h;cases h);obtain⟨i',s1,_,s3,s4⟩:=(r9 a' rfl).1 _ hb';have:=hm.inj i' i s3 q3 s4;subst this;exact hg k k' i' q1 s1⟩
  inj:=λk k' hk hk' he=>by
   obtain⟨h2,h3,h6,_⟩:=hgt k _ rfl (hnd k hk);obtain⟨h2',h3',h6',_⟩:=hgt k' _ rfl (hnd k' hk');rw[h6,h6']at he;have:=hm.inj _ _ (h3 hk) (h3' hk') he;rw[this]at h2;exact hg k k' _ h2 h2'}
end
theorem zqk{P:Program}{f:Nat}{κ γ δ:Type}{A:TA κ}{D:DA γ}{R:TR δ}{fn:κ->γ->κ×δ}{pre:κ->γ->List Prop}(h:FnT P f A D R fn pre):FnTR P f A D R (λg d r=>r=fn g d) pre:=λM w ρ g d vs h1 h2 h3=>
 (h M w ρ g d vs h1 h2 h3).mono λe w'⟨x,ρ',q⟩=>⟨x,ρ',fn g d,rfl,q⟩
section
variable{P:Program}{f:Nat}{κ α γ δ:Type}{W:Wr α}{lay:κ->List PO}{Rel:κ->α->Prop}{C:CT κ}{t:TypeId}{D:DA γ}{R:TR δ}
theorem zx9(hlay:∀k,SO.cells (C.cells 1 k) t::C.blks 1 k=(lay k).map PO.so)(hroot:∀k,∃xs t,(lay k)[0]?=some (.cells xs t))(hrep:∀a L S H F,Env.rep (W.wrap a) L S H F↔qbs lay Rel a L S H F)(hna:∀b g so,so∈R.blks b g->∀a,so≠.abs a)
  {post:κ->γ->κ×δ->Prop} {pre:κ->γ->List Prop} (hp:FnTR P f (TA.one t C) D R post pre) {fn:α->γ->α×δ} {pre':α->γ->List Prop}
  (hpre:∀k a d,Rel k a->D.bd d->(∀p∈pre' a d,p)->∀p∈pre k d,p) (hpost:∀k a d r,Rel k a->D.bd d->(∀p∈pre' a d,p)->post k d r->Rel r.1 (fn a d).1/\r.2=(fn a d).2):FnT P f (TA.abs W) D R fn pre':=by
 intro M w ρ a d vs hm hq hf;have hbd:=D.fb _ _ _ _ hf;obtain⟨k,ρ1,h1,h2,h3,h4,h5⟩:=hm.enter (i:=0) (a:=a) (W:=W) (lay:=lay) (Rel:=Rel) rfl λL S H F h=>(hrep a L S H F).1 h;have hc:q2k (TA.one t C) k=(lay k).map PO.so:=hlay k;rw[<-hc]at h5;have hcall:=hp M w ρ1 k d vs h5 (hpre k a d h1 hbd hq) (by rw[h2];exact hf);have hr:q4p (TA.one t C).q ρ1=q4p (TA.abs W).q ρ:=qcw h4;rw[hr]at hcall;refine hcall.mono ?_;rintro e w' ⟨x,ρ',r,k1,rfl,k2,k3,k4,k5,k6⟩;obtain⟨p1,p2⟩:=hpost k a d r h1 hbd hq k1
 have hlen:(lay r.1).length=C.R+1:=by
  have:=congrArg List.length (hlay r.1);simp only[List.length_cons,List.length_map,C.blen]at this;omega
 have hc':q2f (TA.one t C) R r=(lay r.1).map PO.so++R.blks (1+C.R) r.2:=by
  rw[<-hlay r.1];show [_]++(C.blks 1 r.1++R.blks (1+C.R) r.2)=_;rfl
 rw[hc']at k5
 have hnx:(q0u ((lay r.1).map PO.so++R.blks (1+C.R) r.2)).nx=1+(C.R+R.R):=by
  show List.length _=_;rw[List.length_append,List.length_map,hlen,R.blen];omega
 have hg1:∀q,q<C.R+1->(q0u ((lay r.1).map PO.so++R.blks (1+C.R) r.2)).get q=(((lay r.1).map PO.so)[q]?).getD .dead:=λq hq=>by
  rw[q0v,List.getElem?_append_left (by rw[List.length_map];omega)]
 have hg2:∀q so,(R.blks (1+C.R) r.2)[q]?=some so->(q0u ((lay r.1).map PO.so++R.blks (1+C.R) r.2)).get (1+C.R+q)=so:=λq so hq=>by
  rw[q0v,List.getElem?_append_right (by rw[List.length_map];omega),List.length_map,hlen,show 1+C.R+q-(C.R+1)=q by omega,hq];rfl
 obtain⟨L1,O1⟩:=HM.rep_ptr (lay:=lay) hlay hroot k5 (c:=0) (g:=r.1) λq hq=>by
  rw[Nat.zero_add,hg1 q hq];have:(CT.ptr t C).blks 0 r.1=(lay r.1).map PO.so:=hlay r.1;rw[this]
 have hr0:ρ' 0=ρ 0:=(k2 0 (Nat.lt_succ_self 0)).trans h4
 let ρ3:Rh:=⟨λ|0=>ρ' 0|k+1=>ρ' (1+C.R+k),ρ'.mem,ρ'.lo⟩
 obtain⟨s1,s2⟩:=R.shf (1+C.R) 1 r.2 (1+(C.R+R.R)) (1+(0+R.R)) ρ' ρ3 (λ_ _ h=>h) (λk _=>by rw[Nat.add_comm 1 k]) (by omega)
 refine⟨x,ρ3,rfl,λq hq=>by
  have:q=0:=Nat.lt_one_iff.1 hq;subst this;exact hr0,λb o hb=>k3 b o (by rw[h2];exact hb),k4.trans h3,?_,?_⟩
 .refine k5.fold2 ρ3 ([.abs (W.wrap (fn a d).1)]++R.blks 1 (fn a d).2) (λ|0=>0|k+1=>1+C.R+k) (λ|0,j=>j<1+C.R|k+1,j=>j=1+C.R+k) (λ|0=>furB ρ' (lay r.1) 0|_+1=>λ_=>False) rfl rfl (λk k' j h h'=>?_) λq so hq=>?_
  .match k,k',h,h' with
   |0,0,_,_=>rfl
   |0,k'+1,h,h'=>
    have h:j<1+C.R:=h;have h':j=1+C.R+k':=h';omega
   |k+1,0,h,h'=>
    have h:j=1+C.R+k:=h;have h':j<1+C.R:=h';omega
   |k+1,k'+1,h,h'=>
    have h:j=1+C.R+k:=h;have h':j=1+C.R+k':=h';omega
  match q,hq with
  |0,hq=>
   simp only[List.singleton_append,List.getElem?_cons_zero,Option.some.injEq]at hq;subst hq;obtain⟨xs,t',hx⟩:=hroot r.1
   have z1:∀L,((q0u ((lay r.1).map PO.so++R.blks (1+C.R) r.2)).get 0).own L:=λL=>by
    have:=(O1 0 _ hx L).2 trivial
    rwa [Nat.zero_add]at this
   have hfx:=L1.fit 0 _ hx;refine .inr ⟨show 0<1+C.R by omega,λ_=>z1 _,rfl,⟨hfx.1,hfx.2.1,SO.fit_some (k5.ob 0) (z1 _)⟩,λy hy=>?_⟩;cases hy;refine⟨λb hb=>?_,(hrep _ _ _ _ _).2 ⟨r.1,⟨λk=>ρ' (0+k),ρ'.mem,ρ'.lo⟩,p1,rfl,L1⟩⟩;obtain⟨q,p,q1,q2,q3,q4⟩:=hb;have hlt:=(List.getElem?_eq_some_iff.1 q2).1;rw[hlen]at hlt;exact⟨0+q,show 0+q<1+C.R by omega,show 0+q≠0 by omega,(O1 q p q2 _).2 q3,q4⟩
  |q+1,hq=>
   rw[List.singleton_append,List.getElem?_cons_succ,<-p2]at hq;have hql:=(List.getElem?_eq_some_iff.1 hq).1;rw[R.blen]at hql;obtain⟨so0,hso0⟩:∃so0,(R.blks (1+C.R) r.2)[q]?=some so0:=⟨_,List.getElem?_eq_getElem (by rw[R.blen];exact hql)⟩;obtain⟨so',t1,t2,t3⟩:=s2 q so0 hso0;rw[hq]at t1;cases t1;have hget:=hg2 q so0 hso0;refine .inr ⟨rfl,λho=>?_,rfl,?_,λy hy=>absurd hy (hna 1 r.2 so (List.mem_of_getElem? hq) y)⟩
   .show((q0u _).get (1+C.R+q)).own (ρ' (1+C.R+q));rw[hget];exact(t2.1 _).1 ho
   .have hob:=k5.ob (1+C.R+q);rw[hget,hnx]at hob;have:=t3 _ _ hob
    rwa [show([SO.abs (W.wrap (fn a d).1)]++R.blks 1 (fn a d).2).length=1+(0+R.R) by rw[List.length_append,R.blen];simp]
 .show(R.val (1+0) (fn a d).2).fit (1+(0+R.R)) ρ3 x;rw[<-p2];exact s1 x k6
end
end Go.Sx

namespace Go.Sx
open Go.RowKit
variable[Env]
def Tr.asksC{α:Type}:Tr α->List Prop
 | .ret _=>[]
 | .br c a b=>bif c then a.asksC else b.asksC
 | .ask p a=>p::a.asksC
 | .giv _ a=>a.asksC
 | .all _=>[False]
 | .bad _=>[False]
def Tr.evC{α:Type}(d:α):Tr α->α
 | .ret x=>x
 | .br c a b=>bif c then a.evC d else b.evC d
 | .ask _ a=>a.evC d
 | .giv _ a=>a.evC d
 |_=>d
theorem Tr.asksC_holds{α:Type}(d:α):∀{t:Tr α},(∀p∈t.asksC,p)->t.Holds (·=t.evC d)
 | .ret _,_=>rfl
 | .br true a b,h=>⟨λ_=>Tr.asksC_holds d (t:=a) h,λh=>by cases h⟩
 | .br false a b,h=>⟨λh=>(by cases h),λ_=>Tr.asksC_holds d (t:=b) h⟩
 | .ask p a,h=>⟨h p (List.mem_cons_self ..),Tr.asksC_holds d (t:=a) λq hq=>h q (List.mem_cons_of_mem _ hq)⟩
 | .giv _ a,h=>λ_=>Tr.asksC_holds d (t:=a) h
 | .all _,h=>(h _ (List.mem_cons_self ..)).elim
 | .bad _,h=>(h _ (List.mem_cons_self ..)).elim
end Go.Sx

namespace Go.Sx
open Go.RowKit
variable[Env]
theorem z0u{α:Type}{A:El α}(hA:∀a,A.decs (A.cells a)=some (a,[]))(xs:List α):∀n,z0v A n (A.els xs)=true:=λn=>by
 unfold z0v;refine List.all_eq_true.2 λe _=>?_;simp only[El.els,hA]
def zha{α:Type}(A:El α)(hA:∀a,A.decs (A.cells a)=some (a,[])):El (List α):=.one' (.listB A) [] (λ_=>rfl) λxs=>⟨[],by simp[Dv.listB,Dv.list,A.lst_els,z0u hA],by simp⟩
end Go.Sx

namespace Go.Sx
open Go.RowKit
variable[Env]
def dPrP{α:Type}(A:El α):Dv α where
 dec s:=match s with
  | .pr l=>A.decs (l.take A.sz)
  |_=>none
 enc a:=.pr (A.cells a)
 bd:=A.bd
 cl a:=zpj (A.cl a)
 ok s a ps n ρ x hd hp hf:=by
  split at hd
  .obtain⟨b,o,cs,t,fz,k1,k2,vs,k3,k4⟩:=hf;refine⟨b,o,cs,t,fz,k1,k2,vs.take A.sz,A.ok _ _ _ _ _ _ hd hp (q0i _ k3),λj v hv=>?_⟩;rw[List.getElem?_take]at hv;split at hv
   .exact k4 j v hv
   .cases hv
  .cases hd
 fb a n ρ x hf:=by
  obtain⟨b,o,cs,t,fz,k1,k2,vs,k3,k4⟩:=hf;exact A.fb _ _ _ _ k3
end Go.Sx

namespace Go.Sx
open Go.RowKit
variable[Env]
section
variable{α:Type}
end
end Go.Sx

namespace Go.Sx
section
variable{α:Type}
def Tr.hn(v:α):Tr α->Prop
 | .ret x=>x=v
 | .br c a b=>cond c (a.hn v) (b.hn v)
 | .ask p a=>p/\a.hn v
 | .giv _ a=>a.hn v
 | .all k=>(k []).hn v/\∀(x:Nat)(n:List Nat),(k (x::n)).hn v
 | .bad _=>False
theorem Tr.hn_holds{v:α}:∀{t:Tr α},t.hn v->t.Holds (·=v)
 | .ret _,h=>h
 | .br true a _,h=>⟨λ_=>Tr.hn_holds (t:=a) h,λh=>by cases h⟩
 | .br false _ b,h=>⟨λh=>(by cases h),λ_=>Tr.hn_holds (t:=b) h⟩
 | .ask _ a,h=>⟨h.1,Tr.hn_holds (t:=a) h.2⟩
 | .giv _ a,h=>λ_=>Tr.hn_holds (t:=a) h
 | .all k,h=>λn=>match n with
  | []=>Tr.hn_holds (t:=k []) h.1
  |x::n=>Tr.hn_holds (t:=k (x::n)) (h.2 x n)
 | .bad _,h=>h.elim
end
end Go.Sx

namespace Go.Sx
open Go.RowKit
variable[Env]
def z1x(N:Nat)(c1 c2:LCon):LCon:=⟨λσ=>bif Nat.beq σ.h.nx N then c1.g σ else c2.g σ,λσ=>by
 cases Nat.beq σ.h.nx N with
 |true=>exact c1.on σ
 |false=>exact c2.on σ⟩
theorem zqg{P:Program}{b:Code}{N:Nat}{c1 c2:LCon}(h1:q06 P b c1.g)(h2:q06 P b c2.g):q06 P b (z1x N c1 c2).g:=by
 intro M w0 w ρ σ a K hK hm;have hK:(bif Nat.beq σ.h.nx N then c1.g σ else c2.g σ).Holds K:=hK;cases hc:Nat.beq σ.h.nx N with
 |true=>rw[hc]at hK;exact h1 M w0 w ρ σ a K hK hm
 |false=>rw[hc]at hK;exact h2 M w0 w ρ σ a K hK hm
end Go.Sx
