/- Functions on own trees: a call. -/
import Derived.Test.YtfkdbifgppfegaaDoorZG06f19b95
import Derived.Test.YtfkdbifgppfegaaDoorZG053af284
import Derived.Calls
import Derived.RunT
import Derived.StepT
import Derived.Shelf.SlSortCmp.WholeK
import Derived.Shelf.SlSortCmp.NoneTotal
set_option linter.unusedVariables false
set_option linter.unusedSimpArgs false
set_option linter.constructorNameAsVariable false
set_option linter.all false

namespace Go.Sx
open Go.RowKit
variable[Env]
def rootsV(q:Nat):List SV:=(List.range q).map λk=>.p k 0
def rootVs(q:Nat)(ρ:Rh):List Value:=(List.range q).map λk=>.pointer (some ⟨(ρ k).blk,(ρ k).off+0,none⟩)
section
variable{κ γ δ:Type}
def canonA(A:TA κ)(g:κ):List SO:=A.objs A.q g++A.blks A.q g
def canonO(A:TA κ)(R:TR δ)(x:κ×δ):List SO:=A.objs A.q x.1++(A.blks A.q x.1++R.blks (A.q+A.R) x.2)
theorem canonA_len(A:TA κ)(g:κ):(canonA A g).length=A.q+A.R:=by simp[canonA,A.olen,A.blen]
theorem canonO_len(A:TA κ)(R:TR δ)(x:κ×δ):(canonO A R x).length=A.q+(A.R+R.R):=by simp[canonO,A.olen,A.blen,R.blen]
def FnT(P:Program)(f:Nat)(A:TA κ)(D:DA γ)(R:TR δ)(fn:κ->γ->κ×δ)(pre:κ->γ->List Prop):Prop:=
 ∀(M:Nat->Prop)(w:World)(ρ:Rh)(g:κ)(d:γ)(vs:List Value),HM M w ρ (canonH (canonA A g)) w->(∀p∈pre g d,p)->SV.fits 0 (emp ρ.mem) (D.enc d) vs->
  Calls P f (rootVs A.q ρ++vs).toArray w λe w'=>∃x ρ',e=.returned x/\(∀k,k<A.q->ρ' k=ρ k)/\(∀b o,ρ.mem b=some o->ρ'.mem b=some o)/\ρ'.lo=ρ.lo/\
   HM M w ρ' (canonH (canonO A R (fn g d))) w'/\(R.val (A.q+A.R) (fn g d).2).fit (A.q+(A.R+R.R)) ρ' x
def FnTR(P:Program)(f:Nat)(A:TA κ)(D:DA γ)(R:TR δ)(post:κ->γ->κ×δ->Prop)(pre:κ->γ->List Prop):Prop:=
 ∀(M:Nat->Prop)(w:World)(ρ:Rh)(g:κ)(d:γ)(vs:List Value),HM M w ρ (canonH (canonA A g)) w->(∀p∈pre g d,p)->SV.fits 0 (emp ρ.mem) (D.enc d) vs->
  Calls P f (rootVs A.q ρ++vs).toArray w λe w'=>∃x ρ' r,post g d r/\e=.returned x/\(∀k,k<A.q->ρ' k=ρ k)/\(∀b o,ρ.mem b=some o->ρ'.mem b=some o)/\ρ'.lo=ρ.lo/\
   HM M w ρ' (canonH (canonO A R r)) w'/\(R.val (A.q+A.R) r.2).fit (A.q+(A.R+R.R)) ρ' x
theorem FnTR.toT{P:Program}{f:Nat}{A:TA κ}{D:DA γ}{R:TR δ}{fn:κ->γ->κ×δ}{pre:κ->γ->List Prop}(h:FnTR P f A D R (λg d r=>r=fn g d) pre):FnT P f A D R fn pre:=λM w ρ g d vs h1 h2 h3=>
 (h M w ρ g d vs h1 h2 h3).mono λe w'⟨x,ρ',r,hr,q⟩=>by subst hr;exact⟨x,ρ',q⟩
def tTree(P:Program)(Γ:Gam)(Λ:Lam)(n f:Nat)(A:TA κ)(R:TR δ)(g:κ)(args:List SV):Tr (κ×δ):=
 (fnTree P Γ Λ n f (rootsV A.q++args) (canonH (canonA A g))).bind λy=>
  match A.read y.2 (List.range A.q)with
  |some (g',ps,ids,fs)=>match R.read y.2 y.1 with
   |some (r,qs,js,gs)=>match idsOk A.q (ids++js)&&(fs++gs).all λj=>Nat.ble A.q j&&!isIn j (fdist (ids++js))with
    |true=>asks (ps++qs) (.ret (g',r))
    |false=>.bad 710
   |none=>.bad 711
  |none=>.bad 712
end
section
variable{P:Program}{Γ:Gam}{Λ:Lam}{f:Nat}{κ γ δ:Type}{A:TA κ}{D:DA γ}{R:TR δ}{fn:κ->γ->κ×δ}{pre:κ->γ->List Prop}
theorem roots_fits{q n:Nat}{ρ:Rh}(h:q<=n):SV.fits n ρ (rootsV q) (rootVs q ρ):=by
 refine fits_of_get (by simp[rootsV,rootVs]) λj s x h1 h2=>?_
 have hj:j<q:=by
  have:=(List.getElem?_eq_some_iff.1 h1).1;simpa [rootsV]using this
 simp only[rootsV,rootVs,List.getElem?_map,List.getElem?_range hj,Option.map_some,Option.some.injEq]at h1 h2;subst h1;subst h2;exact⟨by omega,rfl⟩
theorem range_get{q j:Nat}(h:j<q):(List.range q)[j]?=some j:=List.getElem?_range h
theorem TR_of_tree{post:κ->γ->κ×δ->Prop}(hΓ:∀f g,Γ.g f=some g->FnOk P f g)(hΛ:∀f k L,Λ f k=some L->∀b∈loopsOf P f,lkey b=k->LoopOk P b L.g)(n:Nat)
  (hT:∀g d,D.bd d->(∀p∈pre g d,p)->(tTree P Γ Λ n f A R g (D.enc d)).Holds (post g d)):FnTR P f A D R post pre:=by
 intro M w ρ g d vs hm hpre hfit;have hT:=hT g d (D.fb _ _ _ _ hfit) hpre;have hnx:(canonH (canonA A g)).nx=A.q+A.R:=canonA_len A g
 have hargs:SV.fits (canonH (canonA A g)).nx ρ (rootsV A.q++D.enc d) (rootVs A.q ρ++vs):=
  fits_append (roots_fits (by omega)) (D.cl d 0 _ (emp ρ.mem) ρ vs (λ_ _ h=>h) hfit)
 have h0:=fnTree_ok hΓ hΛ n M w w ρ _ _ _ _ (Tr.holds_bind hT) hm hargs;refine h0.mono ?_;rintro e w' ⟨s,h',ρ1,x,h1,h2,h3,h4,h5,rfl⟩;simp only at h1;split at h1
 .rename_i g' ps ids fs hA;split at h1
  .rename_i r qs js gs hR;split at h1
   .rename_i hchk;obtain⟨hq,h1⟩:=asks_holds h1;have h1:post g d (g',r):=h1;simp only[Bool.and_eq_true,List.all_eq_true,Bool.not_eq_true']at hchk;obtain⟨c1,c2⟩:=hchk;obtain⟨i1,i2⟩:=idsOk_ok c1;obtain⟨la,lq⟩:=A.ilen _ _ _ _ _ _ hA;have lj:=R.ilen _ _ _ _ _ _ hR;obtain⟨ρ2,e1,e2,e3,hm2,hfz⟩:=HM.freezeAll (fs++gs) h4
    let ρ3:Rh:=⟨λk=>if k<A.q then ρ1 k else match(ids++js)[k-A.q]? with|some (some j)=>ρ1 j|_=>⟨0,0,0,true⟩,ρ2.mem,ρ2.lo⟩
    have r3l:∀k,k<A.q->ρ3 k=ρ1 k:=λk hk=>by show(if _ then _ else _)=_;rw[if_pos hk]
    have r3y:∀k j:Nat,(ids++js)[k]?=some (some j)->ρ3 (A.q+k)=ρ1 j:=λk j hk=>by
     show(if _ then _ else _)=_;rw[if_neg (by omega),show A.q+k-A.q=k by omega,hk]
    have r3n:∀k:Nat,(ids++js)[k]?=some none->ρ3 (A.q+k)=⟨0,0,0,true⟩:=λk hk=>by
     show(if _ then _ else _)=_;rw[if_neg (by omega),show A.q+k-A.q=k by omega,hk]
    have hmm:∀b o,ρ1.mem b=some o->ρ3.mem b=some o:=e2;have hrn:Rn A.q 0 (ids++js) (A.q+(A.R+R.R)) ρ1 ρ3:=⟨by rw[List.length_append];omega,⟨r3l,hmm,e3⟩,λk j hk=>by simpa using r3y k j hk,λk hk=>by simpa using r3n k hk⟩;have hz:FzR h'.nx h' (fs++gs) ρ1 ρ3:=λj hj=>⟨_,h4.ob j,λho=>hfz j hj ho⟩;obtain⟨a1,a2⟩:=A.ok A.q 0 _ _ _ _ _ _ hA λp h=>hq p (List.mem_append_left _ h);have r1:=R.ok A.q (0+ids.length) _ _ _ _ _ _ hR λp h=>hq p (List.mem_append_right _ h);rw[show A.q+(0+ids.length)=A.q+A.R by omega]at r1
    have hkeep:∀j,j<A.q\/j∈fdist (ids++js)->(kill (fs++gs) h').get j=h'.get j:=λj hj=>by
     refine kill_get _ _ _ λhc=>?_;obtain⟨d1,d2⟩:=c2 j hc;have:=Nat.le_of_ble_eq_true d1;rcases hj with hj|hj
     .omega
     .exact isIn_not d2 hj
    have hin:∀k j:Nat,(ids++js)[k]?=some (some j)->j∈fdist (ids++js):=λk j h=>List.mem_filterMap.2 ⟨some j,List.mem_of_getElem? h,rfl⟩;have lsrc:((List.range A.q).map some).length=A.q:=by simp
    have hsl:∀k,k<A.q->((List.range A.q).map some++(ids++js))[k]?=some (some k):=λk hk=>by
     rw[List.getElem?_append_left (by omega),List.getElem?_map,List.getElem?_range hk];rfl
    have hsr:∀k,((List.range A.q).map some++(ids++js))[A.q+k]?=(ids++js)[k]?:=λk=>by
     rw[List.getElem?_append_right (by omega),lsrc,show A.q+k-A.q=k by omega]
    have hge:∀k,A.q<=k->∃k',k=A.q+k':=λk hk=>⟨k-A.q,by omega⟩;have hlen:(canonO A R (g',r)).length=A.q+(A.R+R.R):=canonO_len A R (g',r)
    have hrel:=hm2.relay (sos:=canonO A R (g',r)) (src:=(List.range A.q).map some++(ids++js)) ρ3 (λk k' j hk hk'=>by
      rcases Nat.lt_or_ge k A.q with h1|h1<;>rcases Nat.lt_or_ge k' A.q with h2|h2
      .rw[hsl k h1]at hk;rw[hsl k' h2]at hk';simp only[Option.some.injEq]at hk hk';omega
      .obtain⟨k',rfl⟩:=hge k' h2;rw[hsl k h1]at hk;rw[hsr]at hk';simp only[Option.some.injEq]at hk;have:=i2 _ _ hk';omega
      .obtain⟨k,rfl⟩:=hge k h1;rw[hsl k' h2]at hk';rw[hsr]at hk;simp only[Option.some.injEq]at hk';have:=i2 _ _ hk;omega
      .obtain⟨k,rfl⟩:=hge k h1;obtain⟨k',rfl⟩:=hge k' h2;rw[hsr]at hk hk';rw[i1 _ _ _ hk hk']) rfl rfl (λk j hk=>by
      rw[show ρ2 j=ρ1 j from congrFun e1 j];rcases Nat.lt_or_ge k A.q with h1|h1
      .rw[hsl k h1]at hk;simp only[Option.some.injEq]at hk;subst hk;exact r3l k h1
      .obtain⟨k,rfl⟩:=hge k h1;rw[hsr]at hk;exact r3y k j hk) (λk _ hk=>by
      rcases Nat.lt_or_ge k A.q with h1|h1
      .rw[hsl k h1]at hk;cases hk
      .obtain⟨k,rfl⟩:=hge k h1;rw[hsr]at hk;exact r3n k hk) (λk so hso=>by
      rw[hlen];have e1':∀j,ρ2 j=ρ1 j:=λj=>congrFun e1 j;rcases Nat.lt_or_ge k A.q with hk|hk
      .right;unfold canonO at hso;rw[List.getElem?_append_left (by rw[A.olen];exact hk)]at hso;obtain⟨o1,o2,o4,o3⟩:=a2 k k so (range_get hk) (by simpa using hso);refine⟨k,hsl k hk,⟨λL _=>?_,λa ha=>?_⟩,λhf=>?_⟩
       .rw[hkeep k (.inl hk)];exact o1 L
       .rw[hkeep k (.inl hk)];exact(o4 a).1 ha
       .rw[hkeep k (.inl hk),e1']at hf;rw[e1'];rw[kill_nx]at hf;have hf1:(h'.get k).fit h'.nx ρ1 (ρ1 k) w'.heap[(ρ1 k).blk]?:=h4.ob k;exact o3 _ _ _ _ _ _ hrn.left hz.left hf1
      .obtain⟨k,rfl⟩:=hge k hk;unfold canonO at hso;rw[List.getElem?_append_right (by rw[A.olen];omega),A.olen,show A.q+k-A.q=k by omega]at hso;rw[hsr];by_cases hkA:k<A.R
       .rw[List.getElem?_append_left (by rw[A.blen];exact hkA)]at hso;rw[List.getElem?_append_left (by omega)];rcases a1.blk k so (by simpa using hso)with ⟨b1,b2⟩|⟨j,b1,b2,b3⟩
        .exact .inl ⟨b1,b2⟩
        .have hjm:=hin k j (by rw[List.getElem?_append_left (by omega)];exact b1);refine .inr ⟨j,b1,?_,λ_=>?_⟩
         .rw[hkeep j (.inr hjm)];exact b2
         .rw[e1'];exact b3 _ _ _ _ _ _ hrn.left hz.left (h4.ob j)
       .rw[List.getElem?_append_right (by rw[A.blen];omega),A.blen]at hso;rw[List.getElem?_append_right (by omega),la];rcases r1.blk (k-A.R) so hso with ⟨b1,b2⟩|⟨j,b1,b2,b3⟩
        .exact .inl ⟨b1,b2⟩
        .have hjm:=hin k j (by rw[List.getElem?_append_right (by omega),la];exact b1);refine .inr ⟨j,b1,?_,λ_=>?_⟩
         .rw[hkeep j (.inr hjm)];exact b2
         .rw[e1'];exact b3 _ _ _ _ _ _ hrn.right hz.right (h4.ob j))
    refine⟨x,ρ3,(g',r),h1,rfl,λk hk=>?_,λb o hb=>hmm _ _ (h3.2.1 b o hb),?_,hrel,?_⟩
    .rw[r3l k hk];exact h3.1 k (by rw[hnx];omega)
    .show ρ2.lo=_;rw[e3];exact h3.2.2
    .have:=r1.fit _ _ _ _ [x] hrn.right hz.right ⟨h5,trivial⟩;exact this.1
   .exact h1.elim
  .exact h1.elim
 .exact h1.elim
theorem T_of_tree(hΓ:∀f g,Γ.g f=some g->FnOk P f g)(hΛ:∀f k L,Λ f k=some L->∀b∈loopsOf P f,lkey b=k->LoopOk P b L.g)(n:Nat)
  (hT:∀g d,D.bd d->(∀p∈pre g d,p)->(tTree P Γ Λ n f A R g (D.enc d)).Holds (·=fn g d)):FnT P f A D R fn pre:=FnTR.toT (TR_of_tree hΓ hΛ n hT)
theorem T_of_side(hΓ:∀f g,Γ.g f=some g->FnOk P f g)(hΛ:∀f k L,Λ f k=some L->∀b∈loopsOf P f,lkey b=k->LoopOk P b L.g)(n:Nat)(z:κ×δ)(S:κ->γ->Prop)
  (hS:∀g d,(tTree P Γ Λ n f A R g (D.enc d)).side=S g d) (he:∀g d,(tTree P Γ Λ n f A R g (D.enc d)).ev z=fn g d) (hs:∀g d,D.bd d->(∀p∈pre g d,p)->S g d):FnT P f A D R fn pre:=
 T_of_tree hΓ hΛ n λg d h1 h2=>by
  have:=Tr.side_holds z (by rw[hS];exact hs g d h1 h2:(tTree P Γ Λ n f A R g (D.enc d)).side);rw[he g d]at this;exact this
theorem T_congr{fn':κ->γ->κ×δ}{pre':κ->γ->List Prop}(h:FnT P f A D R fn pre)(hp:∀g d,(∀p∈pre' g d,p)->∀p∈pre g d,p)(he:∀g d,D.bd d->(∀p∈pre' g d,p)->fn g d=fn' g d):FnT P f A D R fn' pre':=λM w ρ g d vs hm hq hf=>by
 have:=h M w ρ g d vs hm (hp g d hq) hf;rw[he g d (D.fb _ _ _ _ hf) hq]at this;exact this
def rootsOf:Nat->List SV->Option (List Nat×List SV)
 |0,l=>some ([],l)
 |q+1,.p r 0::l=>match rootsOf q l with
  |some (rs,rest)=>some (r::rs,rest)
  |none=>none
 |_+1,_=>none
def conT(A:TA κ)(D:DA γ)(R:TR δ)(fn:κ->γ->κ×δ)(pre:κ->γ->List Prop):Con:=λargs h=>
 match rootsOf A.q args with
 |some (rs,rest)=>match A.read h rs with
  |some (g,ps,ids,fs)=>match D.dec rest with
   |some (d,qs)=>match idsOk 0 (rs.map some++ids)&&fs.isEmpty with
    |true=>asks (ps++(qs++pre g d)) ((R.put (h.nx+A.R) (fn g d).2).bind λy=>.ret (y.1,
     ⟨h.nx+(A.R+R.R),whole (rowsL h.nx (A.blks h.nx (fn g d).1++y.2))++(whole (rs.zip (A.objs h.nx (fn g d).1))++(whole ((fdist ids).map λi=>(i,SO.dead))++h.l)),h.b⟩))
    |false=>.bad 713
   |none=>.bad 714
  |none=>.bad 715
 |none=>.bad 716
theorem rootsOf_ok:∀{q:Nat}{args:List SV}{rs:List Nat}{rest:List SV}{n:Nat}{ρ:Rh}{vs:List Value},rootsOf q args=some (rs,rest)->SV.fits n ρ args vs->
  ∃vs',vs=(rs.map λr=>Value.pointer (some ⟨(ρ r).blk,(ρ r).off+0,none⟩))++vs'/\SV.fits n ρ rest vs'/\rs.length=q/\∀r∈rs,r<n
 |0,args,rs,rest,n,ρ,vs,h,hf=>by
  simp only[rootsOf,Option.some.injEq,Prod.mk.injEq]at h;obtain⟨rfl,rfl⟩:=h;exact⟨vs,rfl,hf,rfl,λr hr=>by cases hr⟩
 |q+1,args,rs,rest,n,ρ,vs,h,hf=>by
  unfold rootsOf at h;split at h
  .rename_i h0;omega
  .rename_i q' r l h0;split at h
   .rename_i rs' rest' hr;simp only[Option.some.injEq,Prod.mk.injEq]at h;obtain⟨rfl,rfl⟩:=h;obtain⟨x,vs1,rfl,hx,hl⟩:=fits_cons hf;have h0:q'=q:=by omega
    subst h0;obtain⟨vs',rfl,k1,k2,k3⟩:=rootsOf_ok hr hl;obtain⟨hx1,rfl⟩:=hx
    exact⟨vs',rfl,k1,by simp[k2],λi hi=>by
     rcases List.mem_cons.1 hi with rfl|hi
     .exact hx1
     .exact k3 i hi⟩
   .cases h
  .cases h
theorem look_zip{i j:Nat}{so:SO}:∀{rs:List Nat}{os:List SO}(d:SO),rs.Nodup->rs[j]?=some i->os[j]?=some so->look d i (rs.zip os)=so
 | [],_,_,_,h,_=>by simp at h
 |_::_,[],_,_,_,h=>by simp at h
 |r::rs,o::os,d,hnd,h1,h2=>by
  rw[List.zip_cons_cons,look_cons];cases j with
  |zero=>
   simp only[List.getElem?_cons_zero,Option.some.injEq]at h1 h2;rw[if_pos h1.symm,h2]
  |succ j=>
   simp only[List.getElem?_cons_succ]at h1 h2;obtain⟨n1,n2⟩:=List.nodup_cons.1 hnd;have hne:¬i=r:=λh=>n1 (by rw[<-h];exact List.mem_of_getElem? h1);rw[if_neg hne];exact look_zip d n2 h1 h2
theorem look_zip_not{i:Nat}{rs:List Nat}{os:List SO}(d:SO)(h:i∉rs):look d i (rs.zip os)=d:=by
 refine look_not _ _ λhm=>h ?_;obtain⟨x,hx,rfl⟩:=List.mem_map.1 hm;exact(List.of_mem_zip hx).1
end
end Go.Sx

namespace Go.Sx
open Go.RowKit
variable[Env]
section
variable{P:Program}{f:Nat}{κ γ δ:Type}{A:TA κ}{D:DA γ}{R:TR δ}{fn:κ->γ->κ×δ}{pre:κ->γ->List Prop}
theorem nodup_roots:∀{rs:List Nat}{ids:List (Option Nat)},(∀k k' j:Nat,(rs.map some++ids)[k]?=some (some j)->(rs.map some++ids)[k']?=some (some j)->k=k')->rs.Nodup/\∀r∈rs,r∉fdist ids:=λ{rs ids}h=>by
 have hl:∀k r,rs[k]?=some r->(rs.map some++ids)[k]?=some (some r):=λk r hk=>by
  have hlt:=(List.getElem?_eq_some_iff.1 hk).1;rw[List.getElem?_append_left (by simpa using hlt),List.getElem?_map,hk];rfl
 constructor
 .refine List.pairwise_iff_getElem.2 λi j hi hj hij he=>?_;have h1:=hl i rs[i] (List.getElem?_eq_getElem hi);have h2:=hl j rs[j] (List.getElem?_eq_getElem hj);rw[he]at h1;have:=h i j _ h1 h2;omega
 .intro r hr hd;obtain⟨k,hk⟩:=List.getElem?_of_mem hr;obtain⟨x,hx,he⟩:=List.mem_filterMap.1 hd;have he:x=some r:=he;subst he;obtain⟨k',hk'⟩:=List.getElem?_of_mem hx
  have h2:(rs.map some++ids)[rs.length+k']?=some (some r):=by
   rw[List.getElem?_append_right (by simp),List.length_map,show rs.length+k'-rs.length=k' by omega,hk']
  have:=h k _ _ (hl k r hk) h2;have:=(List.getElem?_eq_some_iff.1 hk).1;omega
theorem conT_ok(hp:FnT P f A D R fn pre):FnOk P f (conT A D R fn pre):=by
 intro M w0 w ρ h args vs K hK hm hfits;unfold conT at hK;split at hK
 .rename_i rs rest hroots;obtain⟨vs',rfl,hrest,hrl,hrn⟩:=rootsOf_ok hroots hfits;split at hK
  .rename_i g ps ids fs hA;split at hK
   .rename_i d qs hd;split at hK
    .rename_i hchk;obtain⟨hq,hK⟩:=asks_holds hK;have hps:∀p∈ps,p:=λp h'=>hq p (List.mem_append_left _ h');have hqs:∀p∈qs,p:=λp h'=>hq p (List.mem_append_right _ (List.mem_append_left _ h'));have hpre:∀p∈pre g d,p:=λp h'=>hq p (List.mem_append_right _ (List.mem_append_right _ h'));simp only[Bool.and_eq_true,List.isEmpty_iff]at hchk;obtain⟨c1,rfl⟩:=hchk;obtain⟨i1,_⟩:=idsOk_ok c1;obtain⟨n1,n2⟩:=nodup_roots i1;obtain⟨la,lq⟩:=A.ilen _ _ _ _ _ _ hA
     let src:List (Option Nat):=rs.map some++ids
     let L:Nat->Lc:=λk=>match src[k]? with|some (some j)=>ρ j|_=>⟨0,0,0,true⟩
     let ρa:Rh:=⟨L,ρ.mem,ρ.lo⟩
     let ρc:Rh:=⟨L,ρ.mem,⟨ρ.mem,λ_=>none⟩⟩
     have hsrl:src.length=A.q+A.R:=by simp[src,lq,la]
     have hL:∀k j:Nat,src[k]?=some (some j)->L k=ρ j:=λk j hk=>by simp only[L,hk]
     have hLn:∀k:Nat,src[k]?=some none->L k=⟨0,0,0,true⟩:=λk hk=>by simp only[L,hk]
     have hsl:∀k r,rs[k]?=some r->src[k]?=some (some r):=λk r hk=>by
      have hlt:=(List.getElem?_eq_some_iff.1 hk).1;show(rs.map some++ids)[k]?=_;rw[List.getElem?_append_left (by simpa using hlt),List.getElem?_map,hk];rfl
     have hsr:∀k,src[A.q+k]?=ids[k]?:=λk=>by
      show(rs.map some++ids)[A.q+k]?=_;rw[List.getElem?_append_right (by simp[lq]),List.length_map,lq,show A.q+k-A.q=k by omega]
     have hrnA:Rn 0 A.q ids (A.q+A.R) ρ ρa:=⟨by omega,⟨λi hi=>absurd hi (Nat.not_lt_zero i),λ_ _ h=>h,rfl⟩,λk j hk=>by
      rw[show 0+A.q+k=A.q+k by omega];exact hL _ _ (by rw[hsr];exact hk),λk hk=>by
      rw[show 0+A.q+k=A.q+k by omega];exact hLn _ (by rw[hsr];exact hk)⟩
     have hzA:FzR h.nx h [] ρ ρa:=λj hj=>by cases hj
     obtain⟨a1,a2⟩:=A.ok 0 A.q h rs g ps ids [] hA hps;rw[Nat.zero_add]at a1 a2;have hlenA:(canonA A g).length=A.q+A.R:=canonA_len A g;have hge:∀k,A.q<=k->∃k',k=A.q+k':=λk hk=>⟨k-A.q,by omega⟩
     have hso:∀(k:Nat)(so:SO),(canonA A g)[k]?=some so->(src[k]?=some none/\NilSO so)\/∃j:Nat,src[k]?=some (some j)/\Ow so (h.get j)/\so.fit (A.q+A.R) ρa (ρ j) w.heap[(ρ j).blk]?:=λk so hk=>by
      rcases Nat.lt_or_ge k A.q with h1|h1
      .unfold canonA at hk;rw[List.getElem?_append_left (by rw[A.olen];exact h1)]at hk;have hlt:k<rs.length:=by omega
       obtain⟨o1,o2,o4,o3⟩:=a2 k rs[k] so (List.getElem?_eq_getElem hlt) hk;exact .inr ⟨rs[k],hsl k _ (List.getElem?_eq_getElem hlt),⟨λL _=>o1 L,λa=>(o4 a).1⟩,o3 _ _ _ _ _ _ hrnA hzA (hm.ob _)⟩
      .obtain⟨k,rfl⟩:=hge k h1;unfold canonA at hk;rw[List.getElem?_append_right (by rw[A.olen];omega),A.olen,show A.q+k-A.q=k by omega]at hk;rw[hsr];rcases a1.blk k so hk with ⟨b1,b2⟩|⟨j,b1,b2,b3⟩
       .exact .inl ⟨b1,b2⟩
       .exact .inr ⟨j,b1,b2,b3 _ _ _ _ _ _ hrnA hzA (hm.ob _)⟩
     have hown:∀k,((canonH (canonA A g)).get k).own (L k)->∃j:Nat,src[k]?=some (some j)/\(h.get j).own (ρ j)/\L k=ρ j:=λk hk=>by
      rw[canonH_get]at hk;cases hs:(canonA A g)[k]? with
      |none=>rw[hs]at hk;exact hk.elim
      |some so=>
       rw[hs]at hk;rcases hso k so hs with ⟨h1,rfl|⟨t,sz,el,rfl⟩⟩|⟨j,h1,h2,_⟩
       .exact hk.elim
       .have hk:(L k).nl=false:=hk;rw[hLn k h1]at hk;cases hk
       .rw[hL k j h1]at hk;exact⟨j,h1,h2.1 _ hk,hL k j h1⟩
     have habs:∀k a,(canonH (canonA A g)).get k=.abs a->∃j:Nat,src[k]?=some (some j)/\h.get j=.abs a/\L k=ρ j:=λk a hk=>by
      rw[canonH_get]at hk;cases hs:(canonA A g)[k]? with
      |none=>rw[hs]at hk;cases hk
      |some so=>
       rw[hs]at hk;have hk:so=.abs a:=hk;rcases hso k so hs with ⟨h1,rfl|⟨t,sz,el,rfl⟩⟩|⟨j,h1,h2,_⟩
       .cases hk
       .cases hk
       .exact⟨j,h1,h2.2 a hk,hL k j h1⟩
     have hagr:Agr (A.q+A.R) ρa ρc:=⟨λ_ _=>rfl,λ_ _ h _=>h⟩;obtain⟨S,hS⟩:=hm.ab
     let Sc:Nat->Nat->Prop:=λk=>S (match src[k]? with|some (some j)=>j|_=>0)
     let Ft:Nat->Prop:=λb=>∃k,((canonH (canonA A g)).get k).own (L k)/\(b=(L k).blk\/∃a,(canonH (canonA A g)).get k=.abs a/\Sc k b)
     have hSc:∀k j:Nat,src[k]?=some (some j)->Sc k=S j:=λk j hk=>by simp only[Sc,hk]
     have hent:HM Ft w ρc (canonH (canonA A g)) w:={
      os:=rfl
      tape:=rfl
      output:=rfl
      size:=Nat.le_refl _
      block:=λ_ _ _=>rfl
      lt:=λk hk=>by
       rw[canonH_get]at hk;show k<(canonA A g).length;by_cases hlt:k<(canonA A g).length
       .exact hlt
       .rw[List.getElem?_eq_none (by omega)]at hk;cases hk
      ob:=λk=>by
       show((canonH (canonA A g)).get k).fit (canonA A g).length ρc (L k) _;rw[canonH_get,hlenA];cases hs:(canonA A g)[k]? with
       |none=>trivial
       |some so=>
        rcases hso k so hs with ⟨h1,rfl|⟨t,sz,el,rfl⟩⟩|⟨j,h1,_,h3⟩
        .trivial
        .rw[hLn k h1];exact⟨Nat.zero_le _,.inl ⟨rfl,rfl⟩⟩
        .show so.fit (A.q+A.R) ρc (L k) w.heap[(L k).blk]?;rw[hL k j h1];exact SO.fit_mono0 (Nat.le_refl _) hagr h3
      ow:=λk hk=>.inr ⟨k,hk,.inl rfl⟩
      fz:=hm.fz
      sep:=λk hk=>by
       obtain⟨j,_,h2,h3⟩:=hown k hk;show ρ.mem (L k).blk=none;rw[h3];exact hm.sep j h2
      old:=λb o hb _ _=>hb
      env:=hm.env
      ab:=⟨Sc,λk a hk=>by
       obtain⟨j,h1,h2,h3⟩:=habs k a hk;obtain⟨q1,q2⟩:=hS j a h2;refine⟨by show Env.rep a (L k) _ _ _;rw[h3,hSc k j h1];exact q1,λb hb=>?_⟩;have hb':S j b:=by rw[<-hSc k j h1];exact hb
       obtain⟨r1,r2,r3,r4,r5⟩:=q2 b hb';refine⟨.inr ⟨k,own_abs hk,.inr ⟨a,hk,hb⟩⟩,r2,r3,λk' hk'=>?_,λk' a' hk' hb2=>?_⟩
       .obtain⟨j',_,h2',h3'⟩:=hown k' hk';show(L k').blk≠b;rw[h3'];exact r4 j' h2'
       .obtain⟨j',h1',h2',h3'⟩:=habs k' a' hk';rw[hSc k' j' h1']at hb2;have:=r5 j' a' h2' hb2;subst this;exact i1 k k' j h1 h1'⟩
      inj:=λk k' hk hk' he=>by
       obtain⟨j,h1,h2,h3⟩:=hown k hk;obtain⟨j',h1',h2',h3'⟩:=hown k' hk';have he:(L k).blk=(L k').blk:=he;rw[h3,h3']at he;have:=hm.inj j j' h2 h2' he;subst this;exact i1 k k' j h1 h1'}
     have hvs':=D.cl _ _ 0 ρ (emp ρ.mem) _ (λ_ _ h=>h) (D.ok _ _ _ _ _ _ hd hqs hrest)
     have hrv:(rs.map λr=>Value.pointer (some ⟨(ρ r).blk,(ρ r).off+0,none⟩))=rootVs A.q ρc:=by
      refine List.ext_getElem? λk=>?_;simp only[rootVs,List.getElem?_map];by_cases hk:k<A.q
      .have hlt:k<rs.length:=by omega
       have e2:L k=ρ rs[k]:=hL k _ (hsl k _ (List.getElem?_eq_getElem hlt));rw[List.getElem?_eq_getElem hlt,List.getElem?_range hk,Option.map_some,Option.map_some];show _=some (Value.pointer (some ⟨(L k).blk,(L k).off+0,none⟩));rw[e2]
      .rw[List.getElem?_eq_none (by omega),List.getElem?_eq_none (by simpa using Nat.not_lt.1 hk)];rfl
     have hcall:=hp Ft w ρc g d vs' hent hpre hvs';rw[hrv];refine hcall.mono ?_;rintro e w' ⟨x,ρe,rfl,hroot,hmm,hlo,hme,hx⟩;have hlenO:(canonO A R (fn g d)).length=A.q+(A.R+R.R):=canonO_len A R _
     have hfoot:∀b,Ft b->∃j,(j∈rs\/j∈fdist ids)/\(h.get j).own (ρ j)/\(b=(ρ j).blk\/∃a,h.get j=.abs a/\S j b):=λb⟨k,hk,hb⟩=>by
      obtain⟨j,h1,h2,h3⟩:=hown k hk
      have hb:b=(ρ j).blk\/∃a,h.get j=.abs a/\S j b:=by
       rcases hb with hb|⟨a,ha,hb⟩
       .exact .inl (by rw[hb];exact congrArg Lc.blk h3)
       .obtain⟨j',k1,k2,k3⟩:=habs k a ha;rw[h1]at k1;simp only[Option.some.injEq]at k1;subst k1;exact .inr ⟨a,k2,by rw[hSc k j h1]at hb;exact hb⟩
      refine⟨j,?_,h2,hb⟩;rcases Nat.lt_or_ge k A.q with hk|hk
      .left;have hlt:k<rs.length:=by omega
       have:=hsl k _ (List.getElem?_eq_getElem hlt);rw[this]at h1;simp only[Option.some.injEq]at h1;rw[<-h1];exact List.getElem_mem hlt
      .obtain⟨k,rfl⟩:=hge k hk;rw[hsr]at h1;exact .inr (List.mem_filterMap.2 ⟨some j,List.mem_of_getElem? h1,rfl⟩)
     have hfM:∀b,Ft b->w0.heap.size<=b\/M b:=λb hb=>by
      obtain⟨j,_,h2,rfl|⟨a,h3,h4⟩⟩:=hfoot b hb
      .exact hm.ow j h2
      .exact((hS j a h3).2 b h4).1
     have hfa:∀i a b,i∉rs->i∉fdist ids->h.get i=.abs a->S i b->¬Ft b:=λi a b h1 h2 ha hb hF=>by
      obtain⟨j,hj,h3,h4⟩:=hfoot _ hF;rcases h4 with rfl|⟨a',h4,h5⟩
      .exact hS.ne ha h3 hb
      .have:=((hS i a ha).2 b hb).2.2.2.2 j a' h4 h5;subst this;rcases hj with hj|hj
       .exact h1 hj
       .exact h2 hj
     have hfk:∀i,i∉rs->i∉fdist ids->(h.get i).own (ρ i)->¬Ft (ρ i).blk:=λi h1 h2 ho hb=>by
      obtain⟨j,hj,h3,h4⟩:=hfoot _ hb;rcases h4 with h4|⟨a,h4,h5⟩
      rotate_left
      .exact hS.ne h4 ho h5
      have:=hm.inj i j ho h3 h4;subst this;rcases hj with hj|hj
      .exact h1 hj
      .exact h2 hj
     let T:Nat:=A.R+R.R
     let bs:List SO:=A.blks h.nx (fn g d).1++R.blks (h.nx+A.R) (fn g d).2
     let h2:SH:=⟨h.nx+T,whole (rowsL h.nx bs)++(whole (rs.zip (A.objs h.nx (fn g d).1))++(whole ((fdist ids).map λi=>(i,SO.dead))++h.l)),h.b⟩
     let ρ2:Rh:=⟨λk=>if h.nx<=k/\k<h.nx+T then ρe (A.q+(k-h.nx))else ρ k,ρe.mem,ρ.lo⟩
     have hbl:bs.length=T:=by simp[bs,T,A.blen,R.blen]
     have r2n:∀p,p<T->ρ2 (h.nx+p)=ρe (A.q+p):=λp hp=>by
      show(if _ then _ else _)=_;rw[if_pos (by omega),show h.nx+p-h.nx=p by omega]
     have r2o:∀k,k<h.nx->ρ2 k=ρ k:=λk hk=>by
      show(if _ then _ else _)=_;rw[if_neg (by omega)]
     have hmemle:∀b o,ρ.mem b=some o->ρe.mem b=some o:=hmm;have hag:Agree h.nx ρ ρ2:=⟨r2o,hmemle,rfl⟩
     have hget:∀k,(∃p so,k=h.nx+p/\p<T/\bs[p]?=some so/\h2.get k=so)\/(∃j so,rs[j]?=some k/\(A.objs h.nx (fn g d).1)[j]?=some so/\h2.get k=so)\/h2.get k=.dead\/(k∉rs/\k∉fdist ids/\h2.get k=h.get k):=λk=>by
      have e:h2.get k=look (look (look (lookE (lookE .dead k h.b) k h.l) k ((fdist ids).map λi=>(i,SO.dead))) k (rs.zip (A.objs h.nx (fn g d).1))) k (rowsL h.nx bs):=by
       simp only[h2,SH.get,lookE_append,lookE_whole]
      obtain⟨q1,q2⟩:=rowsL_get (i:=k) (r:=bs) (k:=h.nx) (look (look (lookE (lookE .dead k h.b) k h.l) k ((fdist ids).map λi=>(i,SO.dead))) k (rs.zip (A.objs h.nx (fn g d).1)));by_cases hk:h.nx<=k/\k<h.nx+T
      .obtain⟨so,e1,e2⟩:=q1 (k-h.nx) (by omega) (by omega);exact .inl ⟨k-h.nx,so,by omega,by omega,e1,by rw[e,e2]⟩
      .rw[q2 (by omega)]at e;by_cases hkr:k∈rs
       .obtain⟨j,hj⟩:=List.getElem?_of_mem hkr;have hjl:=(List.getElem?_eq_some_iff.1 hj).1;have hol:j<(A.objs h.nx (fn g d).1).length:=by rw[A.olen];omega
        exact .inr (.inl ⟨j,_,hj,List.getElem?_eq_getElem hol,by rw[e,look_zip _ n1 hj (List.getElem?_eq_getElem hol)]⟩)
       .rw[look_zip_not _ hkr]at e;by_cases hki:k∈fdist ids
        .exact .inr (.inr (.inl (by rw[e,look_dead _ _ _ hki])))
        .rw[look_not _ _ (by simpa using hki)]at e;exact .inr (.inr (.inr ⟨hkr,hki,e⟩))
     have hshA:=A.shf A.q h.nx (fn g d).1 (A.q+(A.R+R.R)) (h.nx+T) ρe ρ2 (λ_ _ h=>h) (λk hk=>r2n k (by show k<A.R+R.R;omega)) (by show h.nx+A.R<=h.nx+(A.R+R.R);omega)
     have hshR:=R.shf (A.q+A.R) (h.nx+A.R) (fn g d).2 (A.q+(A.R+R.R)) (h.nx+T) ρe ρ2 (λ_ _ h=>h) (λk hk=>by
      rw[show h.nx+A.R+k=h.nx+(A.R+k) by omega,show A.q+A.R+k=A.q+(A.R+k) by omega];exact r2n _ (by show A.R+k<A.R+R.R;omega)) (by show h.nx+A.R+R.R<=h.nx+(A.R+R.R);omega)
     have hshB:ShfB (A.q+(A.R+R.R)) (h.nx+T) ρe ρ2 (A.blks A.q (fn g d).1++R.blks (A.q+A.R) (fn g d).2) bs:=shfB_app (by rw[A.blen,A.blen]) hshA.2 hshR.2
     have hcg:∀p,(canonH (canonO A R (fn g d))).get (A.q+p)=((A.blks A.q (fn g d).1++R.blks (A.q+A.R) (fn g d).2)[p]?).getD .dead:=λp=>by
      rw[canonH_get];unfold canonO;rw[List.getElem?_append_right (by rw[A.olen];omega),A.olen,show A.q+p-A.q=p by omega]
     have hcr:∀j,j<A.q->(canonH (canonO A R (fn g d))).get j=((A.objs A.q (fn g d).1)[j]?).getD .dead:=λj hj=>by
      rw[canonH_get];unfold canonO;rw[List.getElem?_append_left (by rw[A.olen];exact hj)]
     have hnb:∀p so,bs[p]?=some so->∃so',(canonH (canonO A R (fn g d))).get (A.q+p)=so'/\OwE so so'/\∀L o,so'.fit (A.q+(A.R+R.R)) ρe L o->so.fit (h.nx+T) ρ2 L o:=λp so hso=>by
      have hlt:p<(A.blks A.q (fn g d).1++R.blks (A.q+A.R) (fn g d).2).length:=by
       have:=(List.getElem?_eq_some_iff.1 hso).1;rw[hbl]at this;rw[List.length_append,A.blen,R.blen];exact this
      obtain⟨so2,k1,k2,k3⟩:=hshB p _ (List.getElem?_eq_getElem hlt);rw[hso]at k1;simp only[Option.some.injEq]at k1;subst k1;exact⟨_,by rw[hcg,List.getElem?_eq_getElem hlt];rfl,k2,k3⟩
     have hno:∀j so,(A.objs h.nx (fn g d).1)[j]?=some so->∃so',(canonH (canonO A R (fn g d))).get j=so'/\OwE so so'/\∀L o,so'.fit (A.q+(A.R+R.R)) ρe L o->so.fit (h.nx+T) ρ2 L o:=λj so hso=>by
      have hjq:j<A.q:=by
       have:=(List.getElem?_eq_some_iff.1 hso).1;rw[A.olen]at this;exact this
      have hlt:j<(A.objs A.q (fn g d).1).length:=by rw[A.olen];exact hjq
      obtain⟨so2,k1,k2,k3⟩:=hshA.1 j _ (List.getElem?_eq_getElem hlt);rw[hso]at k1;simp only[Option.some.injEq]at k1;subst k1;exact⟨_,by rw[hcr j hjq,List.getElem?_eq_getElem hlt];rfl,k2,k3⟩
     have hrρ:∀j r,rs[j]?=some r->ρe j=ρ r/\j<A.q/\r<h.nx:=λj r hj=>by
      have hlt:=(List.getElem?_eq_some_iff.1 hj).1;refine⟨?_,by omega,hrn r (List.mem_of_getElem? hj)⟩;rw[hroot j (by omega)];exact hL j r (hsl j r hj)
     have hsrc:∀k,(h2.get k).own (ρ2 k)->(∃i,((canonH (canonO A R (fn g d))).get i).own (ρe i)/\ρ2 k=ρe i/\((∃p,k=h.nx+p/\i=A.q+p)\/(k<h.nx/\i<A.q/\rs[i]?=some k)))\/(k<h.nx/\k∉rs/\k∉fdist ids/\(h.get k).own (ρ k)/\ρ2 k=ρ k):=λk hk=>by
      rcases hget k with ⟨p,so,rfl,hp',hso',e⟩|⟨j,so,hj,hso',e⟩|e|⟨e1,e2,e⟩
      .left;obtain⟨so',k1,k2,_⟩:=hnb p so hso';rw[e,r2n p hp']at hk;exact⟨A.q+p,by rw[k1];exact(k2.1 _).1 hk,r2n p hp',.inl ⟨p,rfl,rfl⟩⟩
      .left;obtain⟨so',k1,k2,_⟩:=hno j so hso';obtain⟨z1,z2,z3⟩:=hrρ j k hj;rw[e,r2o k z3]at hk;exact⟨j,by rw[k1,z1];exact(k2.1 _).1 hk,by rw[r2o k z3,z1],.inr ⟨z3,z2,hj⟩⟩
      .rw[e]at hk;exact hk.elim
      .right;rw[e]at hk;have hlt:k<h.nx:=hm.lt k (SO.live_of hk);rw[r2o k hlt]at hk;exact⟨hlt,e1,e2,hk,r2o k hlt⟩
     have habs2:∀k a,h2.get k=.abs a->(∃i,(canonH (canonO A R (fn g d))).get i=.abs a/\ρ2 k=ρe i/\((∃p,k=h.nx+p/\i=A.q+p)\/(k<h.nx/\i<A.q/\rs[i]?=some k)))\/(k<h.nx/\k∉rs/\k∉fdist ids/\h.get k=.abs a/\ρ2 k=ρ k):=λk a hk=>by
      rcases hget k with ⟨p,so,rfl,hp',hso',e⟩|⟨j,so,hj,hso',e⟩|e|⟨e1,e2,e⟩
      .left;obtain⟨so',k1,k2,_⟩:=hnb p so hso';rw[e]at hk;exact⟨A.q+p,by rw[k1];exact(k2.2 a).1 hk,r2n p hp',.inl ⟨p,rfl,rfl⟩⟩
      .left;obtain⟨so',k1,k2,_⟩:=hno j so hso';obtain⟨z1,z2,z3⟩:=hrρ j k hj;rw[e]at hk;exact⟨j,by rw[k1];exact(k2.2 a).1 hk,by rw[r2o k z3,z1],.inr ⟨z3,z2,hj⟩⟩
      .rw[e]at hk;cases hk
      .right;rw[e]at hk;have hlt:k<h.nx:=hm.lt k (by rw[hk];rfl);exact⟨hlt,e1,e2,hk,r2o k hlt⟩
     have hsize:=hm.size;refine⟨_,_,ρ2,x,R.putOk _ _ _ (Tr.holds_bind hK),?_,hag,?_,?_,rfl⟩
     .show h.nx<=h.nx+(A.R+R.R);omega
     .exact {
       os:=hme.os.trans hm.os
       tape:=hme.tape.trans hm.tape
       output:=hme.output.trans hm.output
       size:=Nat.le_trans hm.size hme.size
       block:=λi hi hM=>by
        rw[hme.block i (by omega) λhf=>?_]
        .exact hm.block i hi hM
        .rcases hfM i hf with h1|h1
         .omega
         .exact hM h1
       lt:=λk hk=>by
        show k<h.nx+T;rcases hget k with ⟨p,so,rfl,hp',_,_⟩|⟨j,so,hj,_,_⟩|e|⟨_,_,e⟩
        .omega
        .have:=(hrρ j k hj).2.2;omega
        .have hk:(h2.get k).live=true:=hk;rw[e]at hk;cases hk
        .have hk:(h2.get k).live=true:=hk;rw[e]at hk;have:=hm.lt k hk;omega
       ob:=λk=>by
        show(h2.get k).fit (h.nx+T) ρ2 (ρ2 k) _;rcases hget k with ⟨p,so,rfl,hp',hso',e⟩|⟨j,so,hj,hso',e⟩|e|⟨e1,e2,e⟩
        .obtain⟨so',k1,_,k3⟩:=hnb p so hso';rw[e,r2n p hp'];have:=hme.ob (A.q+p);rw[k1,show(canonH (canonO A R (fn g d))).nx=A.q+(A.R+R.R)from hlenO]at this;exact k3 _ _ this
        .obtain⟨so',k1,_,k3⟩:=hno j so hso';obtain⟨z1,z2,z3⟩:=hrρ j k hj;rw[e,r2o k z3,<-z1];have:=hme.ob j;rw[k1,show(canonH (canonO A R (fn g d))).nx=A.q+(A.R+R.R)from hlenO]at this;exact k3 _ _ this
        .rw[e];trivial
        .rw[e];by_cases hlive:k<h.nx
         .rw[r2o k hlive];refine SO.fit_mono (by omega) hag (hm.ob_other λho=>?_);exact hme.block _ (hm.lt_heap ho) (hfk k e1 e2 ho)
         .have:h.get k=.dead:=by
           cases hg:h.get k with
           |dead=>rfl
           |_=>have:=hm.lt k (by rw[hg];rfl);omega
          rw[this];trivial
       ow:=λk hk=>by
        rcases hsrc k hk with ⟨i,s1,s2,_⟩|⟨_,_,_,s4,s5⟩
        .rw[s2];rcases hme.ow i s1 with h1|h1
         .exact .inl (by omega)
         .exact hfM _ h1
        .rw[s5];exact hm.ow k s4
       fz:=hme.fz
       sep:=λk hk=>by
        show ρe.mem (ρ2 k).blk=none;rcases hsrc k hk with ⟨i,s1,s2,_⟩|⟨_,s2,s3,s4,s5⟩
        .rw[s2];exact hme.sep i s1
        .rw[s5];cases hc:ρe.mem (ρ k).blk with
         |none=>rfl
         |some o=>
          have:=hme.old _ o hc (hm.lt_heap s4) (hfk k s2 s3 s4);rw[hlo]at this;have:ρ.mem (ρ k).blk=some o:=this;rw[hm.sep k s4]at this;cases this
       old:=λb o hb hlt hM=>by
        have h1:=hme.old b o hb (by omega) λhf=>by
         rcases hfM b hf with h1|h1
         .omega
         .exact hM h1
        rw[hlo]at h1;exact hm.old b o h1 hlt hM
       env:=hme.env
       ab:=by
        obtain⟨Se,hSe⟩:=hme.ab
        let c2:Nat->Nat->Prop:=λk i=>(∃p,k=h.nx+p/\i=A.q+p)\/(k<h.nx/\i<A.q/\rs[i]?=some k)
        have hu:∀k i i',c2 k i->c2 k i'->i=i':=λk i i' h1 h2=>by
         rcases h1 with ⟨p,rfl,rfl⟩|⟨z1,z2,z3⟩<;>rcases h2 with ⟨p',e,rfl⟩|⟨z1',z2',z3'⟩
         .omega
         .omega
         .omega
         .obtain⟨y1,y2⟩:=List.getElem?_eq_some_iff.1 z3;obtain⟨y3,y4⟩:=List.getElem?_eq_some_iff.1 z3';have hp:=List.pairwise_iff_getElem.1 n1;rcases Nat.lt_trichotomy i i' with hlt|he|hlt
          .exact absurd (y2.trans y4.symm) (hp i i' y1 y3 hlt)
          .exact he
          .exact absurd (y4.trans y2.symm) (hp i' i y3 y1 hlt)
        let S2:Nat->Nat->Prop:=λk b=>(∃i,c2 k i/\Se i b)\/((¬∃i,c2 k i)/\S k b)
        have hS2:∀k i,c2 k i->∀b,S2 k b↔Se i b:=λk i hc b=>⟨λh=>by
         rcases h with ⟨i',h1,h2⟩|⟨h1,_⟩
         .rw[hu k i i' hc h1];exact h2
         .exact absurd ⟨i,hc⟩ h1,λh=>.inl ⟨i,hc,h⟩⟩
        have hS3:∀k,k<h.nx->k∉rs->∀b,S2 k b↔S k b:=λk h1 h2 b=>⟨λh=>by
         rcases h with ⟨i',h3,_⟩|⟨_,h3⟩
         .rcases h3 with ⟨p,h3,_⟩|⟨_,_,h3⟩
          .omega
          .exact absurd (List.mem_of_getElem? h3) h2
         .exact h3,λh=>.inr ⟨λ⟨i,h3⟩=>by
          rcases h3 with ⟨p,h3,_⟩|⟨_,_,h3⟩
          .omega
          .exact h2 (List.mem_of_getElem? h3),h⟩⟩
        refine⟨S2,λk a hk=>?_⟩;rcases habs2 k a hk with ⟨i,s1,s2,s3⟩|⟨t1,t2,t3,t4,t5⟩
        .have hk2:=hS2 k i s3;have hk3:S2 k=Se i:=funext λb=>propext (hk2 b);rw[hk3];obtain⟨q1,q2⟩:=hSe i a s1;rw[s2];refine⟨q1,λb hb=>?_⟩;obtain⟨r1,r2,r3,r4,r5⟩:=q2 b hb;refine⟨?_,r2,r3,λk' hk'=>?_,λk' a' hk' hb'=>?_⟩
         .rcases r1 with h1|h1
          .exact .inl (by omega)
          .exact hfM _ h1
         .rcases hsrc k' hk' with ⟨i',s1',s2',_⟩|⟨_,t2',t3',t4',t5'⟩
          .rw[s2'];exact r4 i' s1'
          .rw[t5'];rintro rfl;rcases r1 with h1|h1
           .have:=hm.lt_heap t4';omega
           .exact hfk k' t2' t3' t4' h1
         .rcases habs2 k' a' hk' with ⟨i',s1',s2',s3'⟩|⟨_,t2',t3',t4',t5'⟩
          .have hb':=(hS2 k' i' s3' b).1 hb';have hii:=r5 i' a' s1' hb';subst hii;rcases s3 with ⟨p,rfl,hp1⟩|⟨z1,z2,z3⟩<;>rcases s3' with ⟨p',rfl,hp2⟩|⟨z1',z2',z3'⟩
           .omega
           .omega
           .omega
           .rw[z3]at z3';simpa using z3'
          .exfalso;have hb':=(hS3 k' ‹_› t2' b).1 hb';rcases r1 with h1|h1
           .have:=hS.lt t4' hb';omega
           .exact hfa k' a' b t2' t3' t4' hb' h1
        .have hk3:S2 k=S k:=funext λb=>propext (hS3 k t1 t2 b);rw[hk3];obtain⟨q1,q2⟩:=hS k a t4;rw[t5];refine⟨Env.rep_cl _ _ _ _ _ _ _ (λb hb=>?_) (λb o hb _=>hmemle b o hb) q1,λb hb=>?_⟩
         .rcases hb with rfl|hb
          .exact hme.block _ (hm.lt_heap (own_abs t4)) (hfk k t2 t3 (own_abs t4))
          .exact hme.block _ (hS.lt t4 hb) (hfa k a b t2 t3 t4 hb)
         .obtain⟨r1,r2,r3,r4,r5⟩:=q2 b hb;have hnf:=hfa k a b t2 t3 t4 hb;refine⟨r1,?_,Nat.lt_of_lt_of_le r3 hme.size,λk' hk'=>?_,λk' a' hk' hb'=>?_⟩
          .show ρe.mem b=none;cases hc:ρe.mem b with
           |none=>rfl
           |some o=>
            have:=hme.old _ o hc r3 hnf;rw[hlo]at this;have:ρ.mem b=some o:=this;rw[r2]at this;cases this
          .rcases hsrc k' hk' with ⟨i',s1',s2',_⟩|⟨_,t2',t3',t4',t5'⟩
           .rw[s2'];rintro rfl;rcases hme.ow i' s1' with h1|h1
            .omega
            .exact hnf h1
           .rw[t5'];exact r4 k' t4'
          .rcases habs2 k' a' hk' with ⟨i',s1',s2',s3'⟩|⟨_,t2',t3',t4',t5'⟩
           .exfalso;have hb':=(hS2 k' i' s3' b).1 hb';rcases((hSe i' a' s1').2 b hb').1 with h1|h1
            .omega
            .exact hnf h1
           .exact r5 k' a' t4' ((hS3 k' ‹_› t2' b).1 hb')
       inj:=λk k' hk hk' he=>by
        rcases hsrc k hk with ⟨i,s1,s2,s3⟩|⟨t1,t2,t3,t4,t5⟩<;>rcases hsrc k' hk' with ⟨i',s1',s2',s3'⟩|⟨t1',t2',t3',t4',t5'⟩
        .rw[s2,s2']at he;have hii:=hme.inj i i' s1 s1' he;subst hii;rcases s3 with ⟨p,rfl,hp1⟩|⟨z1,z2,z3⟩<;>rcases s3' with ⟨p',rfl,hp2⟩|⟨z1',z2',z3'⟩
         .omega
         .omega
         .omega
         .rw[z3]at z3';simpa using z3'
        .rw[s2,t5']at he;exfalso;rcases hme.ow i s1 with h1|h1
         .rw[he]at h1;have:=hm.lt_heap t4';omega
         .rw[he]at h1;exact hfk k' t2' t3' t4' h1
        .rw[t5,s2']at he;exfalso;rcases hme.ow i' s1' with h1|h1
         .rw[<-he]at h1;have:=hm.lt_heap t4;omega
         .rw[<-he]at h1;exact hfk k t2 t3 t4 h1
        .rw[t5,t5']at he;exact hm.inj k k' t4 t4' he}
     .exact hshR.1 x hx
    .exact hK.elim
   .exact hK.elim
  .exact hK.elim
 .exact hK.elim
theorem conT_b:ConB (conT A D R fn pre):=λargs h=>by
 unfold conT;split
 .split
  .split
   .split
    .refine asks_each (Tr.each_bind (p:=λy:SV×SH=>y.2.b=h.b) (λy=>?_) _);show h.b=h.b;rfl
    .trivial
   .trivial
  .trivial
 .trivial
def bconT(A:TA κ)(D:DA γ)(R:TR δ)(fn:κ->γ->κ×δ)(pre:κ->γ->List Prop):BCon:=⟨conT A D R fn pre,conT_b⟩
theorem bconT_ok(hp:FnT P f A D R fn pre):FnOk P f (bconT A D R fn pre).g:=conT_ok hp
end
end Go.Sx

namespace Go.Sx
open Go.RowKit
variable[Env]
variable{κ:Type}
def TR.agg(C:CT κ):TR κ where
 R:=C.R
 val b g:=.agg (C.cells b g)
 blks b g:=C.blks b g
 read h s:=match s.agg? with
  |some xs=>C.read h xs
  |none=>none
 put b g:=(C.put b g).bind λy=>.ret (.agg y.1,y.2)
 blen b g:=C.blen b g
 ilen h s g ps ids fzs hr:=by
  split at hr
  .exact C.ilen _ _ _ _ _ _ hr
  .cases hr
 ok N k0 h s g ps ids fzs hr hp:=by
  split at hr
  .rename_i xs hs;have hC:=C.ok N k0 h xs g ps ids fzs hr hp;refine⟨hC.blk,λn m ρ ρ' x hn hz hf=>?_⟩;obtain⟨y,r,rfl,hy,hr'⟩:=fits_cons hf;obtain⟨l,rfl,hl⟩:=SV.agg_fit hs hy;exact⟨⟨l,rfl,hC.fit n m ρ ρ' l hn hz hl⟩,by cases fits_nil hr';trivial⟩
  .cases hr
 shf b b' g n m ρ ρ' hm hk hb:=by
  obtain⟨s1,s2⟩:=C.shf b b' g n m ρ ρ' hm hk hb
  exact⟨λx hf=>by
   obtain⟨l,rfl,hl⟩:=hf;exact⟨l,rfl,s1 l hl⟩,s2⟩
 putOk b g K h:=C.putOk b g _ (Tr.holds_bind h)
end Go.Sx

namespace Go.Sx
open Go.RowKit
variable[Env]
section
variable{α δ:Type}{P:Program}{f:Nat}
def conV(A:Rv α)(R:Dv δ)(fn:α->δ)(pre:α->List Prop):Con:=λargs h=>
 match args with
 | [s]=>match A.dec h s with
  |some (g,ps)=>asks (ps++pre g) (.ret (R.enc (fn g),h))
  |none=>.bad 621
 |_=>.bad 622
theorem conV_ok{A:Rv α}{R:Dv δ}{fn:α->δ}{pre:α->List Prop}(hp:FnPure P f (.one A.D) R fn pre)(hR:∀r,Pu (R.enc r)):FnOk P f (conV A R fn pre):=by
 intro M w0 w ρ h args vs K hK hm hfits;unfold conV at hK;split at hK
 .rename_i s;split at hK
  .rename_i g ps hd;obtain⟨hq,hK⟩:=asks_holds hK;obtain⟨x,r,rfl,hx,hr⟩:=fits_cons hfits;have:=fits_nil hr;subst this;have hv:=A.ok (G:=λb=>w.heap[b]?) ⟨hm,hm.fz,λ_ _ _ h=>h⟩ hd (λp h'=>hq p (List.mem_append_left _ h')) hx;have hv2:SV.fits h.nx ⟨ρ.lc,λb=>w.heap[b]?,ρ.lo⟩ ((DA.one A.D).enc g) [x]:=⟨hv,trivial⟩;have hv3:=(DA.one A.D).cl _ _ 0 ⟨ρ.lc,λb=>w.heap[b]?,ρ.lo⟩ (emp λb=>w.heap[b]?) [x] (λ_ _ h=>h) hv2;refine(hp w (λb=>w.heap[b]?) g [x] (λ_ _ h=>h) (Env.mono _ _ (λb o hb _=>hm.fz b o hb) hm.env) (λp h'=>hq p (List.mem_append_right _ h')) hv3).mono ?_;rintro e w' ⟨x,rfl,hb,hx⟩;exact⟨_,h,ρ,x,hK,Nat.le_refl _,Agree.refl _ _,hm.below hb,hR _ _ _ _ _ _ hx,rfl⟩
  .exact hK.elim
 .exact hK.elim
def bconV(A:Rv α)(R:Dv δ)(fn:α->δ)(pre:α->List Prop):BCon:=⟨conV A R fn pre,λargs h=>by
 unfold conV;split
 .split
  .exact asks_each rfl
  .trivial
 .trivial⟩
end
end Go.Sx

namespace Go.Sx
open Go.RowKit
variable[Env]
def lconAlt(N:Nat)(c1 c2:LCon):LCon:=⟨λσ=>bif Nat.beq σ.h.nx N then c1.g σ else c2.g σ,λσ=>by
 cases Nat.beq σ.h.nx N with
 |true=>exact c1.on σ
 |false=>exact c2.on σ⟩
theorem altL_ok{P:Program}{b:Code}{N:Nat}{c1 c2:LCon}(h1:LoopOk P b c1.g)(h2:LoopOk P b c2.g):LoopOk P b (lconAlt N c1 c2).g:=by
 intro M w0 w ρ σ a K hK hm;have hK:(bif Nat.beq σ.h.nx N then c1.g σ else c2.g σ).Holds K:=hK;cases hc:Nat.beq σ.h.nx N with
 |true=>rw[hc]at hK;exact h1 M w0 w ρ σ a K hK hm
 |false=>rw[hc]at hK;exact h2 M w0 w ρ σ a K hK hm
end Go.Sx

namespace Go.Sx
open Go.RowKit
variable[Env]
section
variable{α:Type}(A:El α)
def decN(el:Nat->List SV):Nat->Option (List α×List Prop)
 |0=>some ([],[])
 |k+1=>match decN el k with
  |some (xs,ps)=>match A.decs (el k)with
   |some (a,qs)=>some (xs++[a],ps++qs)
   |none=>none
  |none=>none
theorem decN_ok{el:Nat->List SV}:∀(n:Nat)(xs:List α)(ps:List Prop),decN A el n=some (xs,ps)->(∀p∈ps,p)->xs=A.lst n el/\∀e,e<n->A.Ok (el e)
 |0,xs,ps,h,_=>by
  simp only[decN,Option.some.injEq,Prod.mk.injEq]at h;exact⟨h.1.symm,λe he=>absurd he (Nat.not_lt_zero e)⟩
 |n+1,xs,ps,h,hp=>by
  unfold decN at h;split at h
  .rename_i ys qs h1;split at h
   .rename_i a ss h2;simp only[Option.some.injEq,Prod.mk.injEq]at h;obtain⟨rfl,rfl⟩:=h;obtain⟨k1,k2⟩:=decN_ok n ys qs h1 λp hp'=>hp p (List.mem_append_left _ hp');refine⟨?_,λe he=>?_⟩
    .rw[k1];unfold El.lst;rw[List.range_succ,List.map_append];congr 1;simp only[List.map_cons,List.map_nil,El.get,h2]
    .by_cases hen:e<n
     .exact k2 e hen
     .have:e=n:=by omega
      subst this;exact⟨a,ss,h2,λp hp'=>hp p (List.mem_append_right _ hp')⟩
   .cases h
  .cases h
def Dv.listC:Dv (List α) where
 dec s:=match s with
  | .rs sz n el=>bif Nat.beq sz A.sz then decN A el n else none
  |_=>none
 enc:=(Dv.list A).enc
 bd:=(Dv.list A).bd
 cl:=(Dv.list A).cl
 ok s a ps n ρ x hd hp hf:=by
  split at hd
  .rename_i sz m el;cases hb:(Nat.beq sz A.sz)with
   |false=>rw[hb]at hd;cases hd
   |true=>
    rw[hb,cond_true]at hd;obtain⟨k1,k2⟩:=decN_ok A m _ _ hd hp;rw[k1]
    exact(Dv.list A).ok (.rs sz m el) _ [∀e,e<m->A.Ok (el e)] n ρ x (by simp[Dv.list,hb]) (by
     intro p hp;simp only[List.mem_singleton]at hp;subst hp;exact k2) hf
  .cases hd
 fb:=(Dv.list A).fb
def Rv.listN:Rv (List α) where
 D:=.list A
 dec h s:=match s with
  | .sl i o l c=>(Rv.of (.listC A)).dec h (.sl i o l c)
  |s=>(Rv.list A).dec h s
 ok {_ _ _ _ _ _} hv {s r ps x} hd hp hf:=by
  split at hd
  .exact(Rv.of (.listC A)).ok hv hd hp hf
  .exact(Rv.list A).ok hv hd hp hf
def RvE.listN:RvE (List α) where
 E:=eList A
 dec h l:=match l with
  | [s]=>(Rv.listN A).dec h s
  |_=>none
 ok {_ _ _ _ _ _} hv {s r ps x} hd hp hf:=by
  split at hd
  .obtain⟨y,r',rfl,hy,hr⟩:=fits_cons hf;have:=fits_nil hr;subst this;exact⟨(Rv.listN A).ok hv hd hp hy,trivial⟩
  .cases hd
end
end Go.Sx

namespace Go.Sx
def rw'{α:Type}:Result α->World
 | .ok _ w=>w
 | .halt _ w=>w
theorem ask_drawn{α:Type}:∀(a:Ask α)(w:World),w.drawn<=(w.ask a).2.drawn
 | .done _,w=>by simp[World.ask]
 | .ask what range k,w=>by
  rw[World.ask];split
  .exact ask_drawn (k 0) w
  .exact Nat.le_trans (Nat.le_succ _) (ask_drawn _ { w with drawn:=w.drawn+1})
theorem sys_drawn(w:World)(c:Sys):w.drawn<=(w.sys c).2.drawn:=by
 have h:=ask_drawn (Kernel.perform c w.os) w;unfold World.sys;split
 .exact Nat.le_refl _
 .rename_i he;rw[he]at h;exact h
theorem farStore_drawn{P:Program}{w w':World}{a:Addr}{v:Value}{b:Bool}{l:List Addr}(h:w.farStore P a v b=.ok (w',l)):w.drawn<=w'.drawn:=by
 unfold World.farStore at h;split at h
 .rename_i at_ u _;split at h
  .rename_i r hr;injection h with h
   subst h;unfold World.viewStore at hr;simp only[bind,Except.bind,pure,Except.pure,throw,throwThe,MonadExceptOf.throw]at hr
   repeat' (first|(split at hr)|(cases hr))
   all_goals (first|exact Nat.le_refl _|(simp at hr;done)|skip)
  .cases h
 .cases h
theorem run_drawn{α:Type}(P:Program):∀(s:Sem α)(w:World),w.drawn<=(rw' (s.run P w)).drawn:=by
 intro s
 induction s with
 |pure a=>intro w;exact Nat.le_refl _
 |load m a k ih=>
  intro w;simp only[Sem.run];split
  .exact ih _ _
  .split
   .exact ih _ _
   .exact Nat.le_refl _
 |store m a v k ih=>
  intro w;cases v<;>simp only[Sem.run]<;>(try exact Nat.le_refl _)
  all_goals
   split
   .split
    .exact Nat.le_refl _
    .exact ih (w.setCell a _)
   .split
    .rename_i h;exact Nat.le_trans (farStore_drawn h) (ih _)
    .exact Nat.le_refl _
 |new o k ih=>intro w;exact ih _ { w with heap:=w.heap.push o}
 |shape r k ih=>intro w;exact ih _ _
 |freeze a n k ih=>
  intro w;have h:(w.freeze a n).drawn=w.drawn:=by unfold World.freeze;split<;>rfl
  have:=ih (w.freeze a n);rw[h]at this;exact this
 |frozen a k ih=>intro w;exact ih _ _
 |getObj r k ih=>
  intro w;simp only[Sem.run];split
  .exact Nat.le_refl _
  .exact ih _ _
  .exact Nat.le_refl _
 |setObj r o k ih=>
  intro w;simp only[Sem.run];split
  .exact Nat.le_refl _
  .exact ih { w with heap:=w.heap.setIfInBounds r o}
  .exact Nat.le_refl _
 |choose q k ih=>
  intro w;simp only[Sem.run];split
  .exact ih _ _
  .exact Nat.le_trans (Nat.le_succ _) (ih _ { w with drawn:=w.drawn+1})
 |sys c k ih=>intro w;exact Nat.le_trans (sys_drawn w c) (ih _ _)
 |program k ih=>intro w;exact ih _ _
 |mark m k ih=>intro w;exact ih _
 |halt h=>intro w;exact Nat.le_refl _
theorem runT_drawn{α:Type}(P:Program)(s:Sem α)(w:World)(es:Array Event):w.drawn<=(rw' (s.runT P w es).1).drawn:=by
 rw[Sem.runT_fst];exact run_drawn P s w
section
variable{α:Type}{P:Program}{s:Sem α}{w w':World}{a:α}{es es':Array Event}{x:Halt}
theorem run_ok(h:s.run P w=.ok a w'):w.drawn<=w'.drawn:=by have:=run_drawn P s w;rw[h]at this;exact this
theorem run_halt(h:s.run P w=.halt x w'):w.drawn<=w'.drawn:=by have:=run_drawn P s w;rw[h]at this;exact this
theorem runT_ok(h:s.runT P w es=(.ok a w',es')):w.drawn<=w'.drawn:=by have:=runT_drawn P s w es;rw[h]at this;exact this
theorem runT_halt(h:s.runT P w es=(.halt x w',es')):w.drawn<=w'.drawn:=by have:=runT_drawn P s w es;rw[h]at this;exact this
theorem runT1_ok(h:(s.runT P w es).1=.ok a w'):w.drawn<=w'.drawn:=by have:=runT_drawn P s w es;rw[h]at this;exact this
theorem runT1_halt(h:(s.runT P w es).1=.halt x w'):w.drawn<=w'.drawn:=by have:=runT_drawn P s w es;rw[h]at this;exact this
end
def Up(n:Nat):GStep->Prop
 | .go _ w _=>n<=w.drawn
 | .comm _ _ _ _ w _=>n<=w.drawn
 | .spawn _ _ w _=>n<=w.drawn
 | .count _ w _=>n<=w.drawn
 | .timer _ _ w _=>n<=w.drawn
 | .alone _ _ w _=>n<=w.drawn
 | .newcoro _ _ _ w _=>n<=w.drawn
 | .coroswitch _ _ _ w _=>n<=w.drawn
 | .collect _ w _=>n<=w.drawn
 | .watch _ w _=>n<=w.drawn
 | .ended _ _ _=>True
theorem up_after{n:Nat}{es:Array Event}{s:GStep}:Up n (GStep.after es s)↔Up n s:=by cases s<;>exact Iff.rfl
theorem up_mono{n m:Nat}{s:GStep}(h:n<=m)(hu:Up m s):Up n s:=by
 cases s<;>first|exact trivial|exact Nat.le_trans h hu
theorem ite_up{n:Nat}{c:Prop}[Decidable c]{x y:GStep}(hx:Up n x)(hy:Up n y):Up n (if c then x else y):=by
 split
 .exact hx
 .exact hy
theorem elim_up{n:Nat}{α:Type}{o:Option α}{x:GStep}{f:α->GStep}(hx:Up n x)(hf:∀a,Up n (f a)):Up n (o.elim x f):=by
 cases o
 .exact hx
 .exact hf _
theorem endWith_up(w:World)(fd:Nat)(text:ByteArray)(o:Outcome):Up w.drawn (endWith w fd text o):=by
 unfold endWith;have:=sys_drawn w (.write fd text);generalize w.sys (.write fd text)=x at this ⊢;obtain⟨r,w'⟩:=x;cases r<;>simp only<;>(try split)<;>exact trivial
theorem dieOf_up(fr:Frame)(l:List ByteArray)(m:String)(b:Bool)(w:World):Up w.drawn (dieOf fr l m b w):=Nat.le_refl _
theorem endThrow_up(fr:Frame)(m:String)(w:World):Up w.drawn (endThrow fr m w):=Nat.le_refl _
theorem endPrinting_up(P:Program)(fr:Frame)(v:Value)(w:World):Up w.drawn (endPrinting P fr v w):=by
 have:∀o:Option String,Up w.drawn (match o with
  |some s=>endThrow fr ("panic while printing panic value"++s) w
  |none=>.ended (.unsupported (.noEntry "a panic in Error or String during the report of a panic, with a value that cannot be shown") "") w):=λo=>by
  cases o with
  |some s=>exact endThrow_up _ _ _
  |none=>trivial
 exact this _
theorem endFatal_up(P:Program)(fr:Frame)(cs:List Frame)(d:Option Dying)(m:String)(w:World):Up w.drawn (endFatal P fr cs d m w):=by
 unfold endFatal;simp only;split
 .rename_i w' h;exact up_mono (run_ok h) (dieOf_up _ _ _ _ _)
 .trivial
 .trivial
theorem writeOn_up(P:Program)(fr:Frame)(d:Dying)(f:Fatal)(w:World):Up w.drawn (writeOn P fr d f w):=by
 unfold writeOn;simp only;split
 .trivial
 .split
  .rename_i h;exact runT_ok h
  .rename_i h;exact runT_halt h
  .trivial
  .trivial
theorem die_up(P:Program)(fr:Frame)(d:Dying)(w:World):Up w.drawn (die P fr d w):=by
 unfold die;split
 .exact writeOn_up _ _ _ _ _
 .split
  .split
   .exact Nat.le_refl _
   .exact endWith_up _ _ _ _
  .simp only;split
   .exact Nat.le_refl _
   .split
    .rename_i h;exact run_ok h
    .trivial
   .rw[up_after];split
    .rename_i h;exact runT1_ok h
    .rename_i h;exact runT1_ok h
    .trivial
    .rename_i h;exact up_mono (runT1_halt h) (endPrinting_up _ _ _ _)
    .trivial
   .trivial
theorem early_up(P:Program)(fr:Frame)(cs:List Frame)(d:Option Dying)(g:Nat)(w:World):Up w.drawn (early P fr cs d g w):=by
 have hn:∀w':World,w.drawn<=w'.drawn->Up w.drawn (match w'.heap[g]? with
  |some (.pending c elem)=>
   .go { frame:=fr,callers:=cs,status:=.running,dying:=d} { w' with heap:=w'.heap.setIfInBounds g (.cells c elem)}
  |_=>.ended (.stuck "early: the variable does not wait" (fr.pos P)) w'):=λw' h=>by
  split
  .exact h
  .trivial
 unfold early;simp only
 repeat' split
 all_goals (first|exact trivial|exact Nat.le_refl _|exact hn _ (Nat.le_refl _)|skip)
 all_goals (first|(rename_i h;have h9:=run_ok h;exact h9)|(rename_i h _;have h9:=run_ok h;exact h9)|(rename_i h _ _;have h9:=run_ok h;exact h9)|(rename_i h _ _ _;have h9:=run_ok h;exact h9)|(rename_i h _ _ _ _;have h9:=run_ok h;exact h9)|(rename_i h _ _ _ _ _;have h9:=run_ok h;exact h9)|(rename_i h _ _ _ _ _ _;have h9:=run_ok h;exact h9))
theorem doReturn_up(P:Program)(main:Bool)(fr:Frame)(cs:List Frame)(d:Option Dying)(v:Value)(w:World):Up w.drawn (doReturn P main fr cs d v w):=by
 unfold doReturn
 repeat' split
 all_goals (first|exact trivial|exact Nat.le_refl _)
theorem callDeferred_up(P:Program)(fr:Frame)(cs:List Frame)(dy:Option Dying)(d:Deferred)(w:World):Up w.drawn (callDeferred P fr cs dy d w):=by
 unfold callDeferred;refine ite_up trivial ?_
 .have:=runT_drawn P (invoke d.target d.args) w #[];simp only;rw[up_after];generalize ((invoke d.target d.args).runT P w #[]).1=r at this ⊢
  repeat' split
  all_goals (first|exact trivial|exact this|exact up_mono this (endFatal_up _ _ _ _ _ _)|exact up_mono this (endThrow_up _ _ _))
theorem unwind_up(P:Program)(main:Bool)(fr:Frame)(cs:List Frame)(dy:Option Dying)(w:World):Up w.drawn (unwind P main fr cs dy w):=by
 unfold unwind;split
 .rename_i block _ _ _;have:=runT_drawn P (Instr.takeDeferred block) w #[];simp only;rw[up_after];generalize ((Instr.takeDeferred block).runT P w #[]).1=r at this ⊢;split
  .exact this
  .trivial
 .exact callDeferred_up _ _ _ _ _ _
 .split
  .trivial
  .split
   .trivial
   .split
    .exact Nat.le_refl _
    .split
     .split
      .exact Nat.le_refl _
      .split
       .rename_i h;exact run_ok h
       .trivial
       .trivial
     .split
      .exact endPrinting_up _ _ _ _
      .trivial
  .split
   .exact doReturn_up _ _ _ _ _ _ _
   .rename_i fn _;have:=runT_drawn P (results fn fr.tmps) w #[];simp only;rw[up_after];generalize ((results fn fr.tmps).runT P w #[]).1=r at this ⊢;split
    .exact up_mono this (doReturn_up _ _ _ _ _ _ _)
    .trivial
    .trivial
theorem apply_up(P:Program)(b:Bool)(fr:Frame)(cs:List Frame)(dy:Option Dying)(s:Sem Next)(w:World):Up w.drawn (stepG.apply P b fr cs dy s w):=by
 unfold stepG.apply
 have hr:w.drawn<=(rw' (if b=true then s.runT P w #[]else(s.run P w,#[])).1).drawn:=by
  split
  .exact runT_drawn P s w #[]
  .exact run_drawn P s w
 simp only;rw[up_after];generalize (if b=true then s.runT P w #[]else(s.run P w,#[]))=x at hr ⊢;obtain⟨r,es⟩:=x;simp only at hr ⊢;split
 all_goals (try split)
 all_goals (first|exact trivial|exact hr|exact up_mono hr (endFatal_up _ _ _ _ _ _)|exact up_mono hr (endThrow_up _ _ _)|exact up_mono hr (early_up _ _ _ _ _ _)|exact ite_up (up_mono hr (endThrow_up _ _ _)) hr)
theorem oper_up(P:Program)(b:Bool)(fr:Frame)(cs:List Frame)(dy:Option Dying)(w:World):Up w.drawn (stepG.oper P b fr cs dy w):=by
 unfold stepG.oper;split
 .trivial
 .split<;>exact apply_up _ _ _ _ _ _ _
theorem exec_up(P:Program)(main b:Bool)(fr:Frame)(cs:List Frame)(dy:Option Dying)(w:World):Up w.drawn (stepG.exec P main b fr cs dy w):=by
 unfold stepG.exec;simp only;split
 all_goals (try first|exact trivial|exact Nat.le_refl _|exact apply_up _ _ _ _ _ _ _|exact oper_up _ _ _ _ _ _)
 all_goals repeat' (first|exact trivial|exact Nat.le_refl _|exact apply_up _ _ _ _ _ _ _|exact oper_up _ _ _ _ _ _|rw[up_after]|refine elim_up ?_ λ_=>?_|split)
 all_goals (first|(exact up_mono (runT1_ok (by assumption)) (doReturn_up _ _ _ _ _ _ _))|(exact up_mono (runT1_ok (by assumption)) (apply_up _ _ _ _ _ _ _))|exact runT1_ok (by assumption)|exact runT1_halt (by assumption)|exact run_ok (by assumption))
theorem stepG_up(P:Program)(main:Bool)(g:Goroutine)(w:World)(b:Bool):Up w.drawn (stepG P main g w b):=by
 unfold stepG;simp only;split
 .exact die_up _ _ _ _
 .exact exec_up _ _ _ _ _ _ _
 .exact unwind_up _ _ _ _ _ _
def UpS(n:Nat):Stepped->Prop
 | .next m=>n<=m.world.drawn
 | .ended _ _=>True
theorem upS_mono{n m:Nat}{s:Stepped}(h:n<=m)(hu:UpS m s):UpS n s:=by
 cases s<;>first|exact trivial|exact Nat.le_trans h hu
theorem look_up(P:Program)(gs:Array Goroutine)(rest:Rest)(w:World):UpS w.drawn (Go.look P gs rest w):=by
 unfold Go.look;simp only
 repeat' split
 all_goals (first|exact trivial|(rename_i h;have h9:=run_ok h;exact h9)|(rename_i h _;have h9:=run_ok h;exact h9)|(rename_i h _ _;have h9:=run_ok h;exact h9)|(rename_i h _ _ _;have h9:=run_ok h;exact h9)|(rename_i h _ _ _ _;have h9:=run_ok h;exact h9)|(rename_i h _ _ _ _ _;have h9:=run_ok h;exact h9)|(rename_i h _ _ _ _ _ _;have h9:=run_ok h;exact h9))
theorem serve_up(P:Program)(m:Machine)(k:Nat):UpS m.world.drawn (serve P m k):=by
 unfold serve;simp only
 repeat' split
 all_goals (first|exact trivial|exact Nat.le_refl _)
theorem drain_up(w:World)(c:Nat):w.drawn<=(drain w c).2.drawn:=by
 unfold drain;split<;>exact Nat.le_refl _
theorem retime_up(m:Machine)(k:Nat)(t:Timer)(a b:Nat):m.world.drawn<=(retime m k t a b).2.world.drawn:=by
 unfold retime;simp only;split
 .exact drain_up _ _
 .exact Nat.le_refl _
theorem timerOp_up{m m':Machine}{op:TimerOp}{v:Value}(h:timerOp m op=.ok (v,m')):m.world.drawn<=m'.world.drawn:=by
 have hnm:∀(m0:Machine)(var:Addr)(f:Nat->Timer->Value×Machine),(∀k t,m.world.drawn<=(f k t).2.world.drawn)->timerOp.named m0 var f=.ok (v,m')->m.world.drawn<=m'.world.drawn:=λm0 var f hf h=>by
  unfold timerOp.named at h;split at h
  .rename_i k _;injection h with h
   have:=hf k (m0.rest.timers.getD k default);rw[h]at this;exact this
  .cases h
 unfold timerOp at h;split at h
 .split at h
  .cases h;exact Nat.le_refl _
  .split at h
   .split at h
    .cases h
    .cases h;exact Nat.le_refl _
   .cases h
 .exact hnm _ _ _ (λk t=>retime_up m k t _ _) h
 .split at h
  .rename_i m1 ho;refine hnm _ _ _ (λk t=>Nat.le_trans ?_ (retime_up m1 k t _ _)) h;unfold timerOp.opened at ho;split at ho
   .split at ho
    .cases ho;exact Nat.le_refl _
    .cases ho
   .cases ho;exact Nat.le_refl _
  .cases h
 .cases h;exact Nat.le_refl _
theorem communicate_up(P:Program)(rest:Rest)(gs:Array Goroutine)(i:Nat)(g:Goroutine)(cases_:Array CommCase)(b:Bool)(shape:CommShape)(w:World):UpS w.drawn (communicate P rest gs i g cases_ b shape w).1:=by
 unfold communicate;simp only;split
 .trivial
 .split
  .split
   .split
    .rename_i h;unfold waitingAt at h;split at h
     .split at h
      .cases h;exact Nat.le_refl _
      .cases h
     .cases h;exact Nat.le_refl _
    .trivial
   .exact Nat.le_refl _
  .split
   .trivial
   .rename_i hr;have hr:=run_ok hr;refine upS_mono hr ?_
    repeat' split
    all_goals (first|exact trivial|exact Nat.le_refl _|(rename_i h;have h9:=run_ok h;exact h9)|(rename_i h _;have h9:=run_ok h;exact h9)|(rename_i h _ _;have h9:=run_ok h;exact h9)|(rename_i h _ _ _;have h9:=run_ok h;exact h9)|(rename_i h _ _ _ _;have h9:=run_ok h;exact h9)|(rename_i h _ _ _ _ _;have h9:=run_ok h;exact h9)|(rename_i h _ _ _ _ _ _;have h9:=run_ok h;exact h9)|(rename_i h;have h9:=run_halt h;exact h9)|(rename_i h _;have h9:=run_halt h;exact h9)|(rename_i h _ _;have h9:=run_halt h;exact h9)|(rename_i h _ _ _;have h9:=run_halt h;exact h9)|(rename_i h _ _ _ _;have h9:=run_halt h;exact h9)|(rename_i h _ _ _ _ _;have h9:=run_halt h;exact h9)|(rename_i h _ _ _ _ _ _;have h9:=run_halt h;exact h9))
theorem runT_up(P:Program)(m:Machine)(i:Nat)(b:Bool):UpS m.world.drawn (runT P m i b).1:=by
 unfold runT;simp only;generalize hs:stepG P (i==0) _ m.world b=s;have hu:=stepG_up P (i==0) (m.gs.swapAt! i { (default:Goroutine)with status:=.finished}).1 m.world b;rw[hs]at hu;split
 .trivial
 .exact upS_mono hu (communicate_up _ _ _ _ _ _ _ _ _)
 .exact hu
 .exact hu
 .split
  .trivial
  .exact hu
 .exact hu
 .exact upS_mono hu (look_up _ _ _ _)
 .exact hu
 .exact hu
 .split
  .exact hu
  .split
   .rename_i h;cases h;exact hu
   .trivial
  .trivial
 .split
  .rename_i h;have:=timerOp_up h;exact Nat.le_trans hu this
  .split
   .rename_i h;cases h;exact hu
   .trivial
  .trivial
  .trivial
def UpM(n:Nat):Move->Prop
 | .goroutine m _=>n<=m.world.drawn
 | .machine s _=>UpS n s
theorem upM_mono{n m:Nat}{s:Move}(h:n<=m)(hu:UpM m s):UpM n s:=by
 cases s
 .exact Nat.le_trans h hu
 .exact upS_mono h hu
theorem pick_up(P:Program)(rs:List Nat)(m:Machine):UpM m.world.drawn (match(choose (.sched rs.length)).run P m.world with
   | .halt _ w=>.machine (.ended (.stuck "sched" "") w)
   | .ok k world=>
    if rs.length<=1 then .goroutine { m with world} (rs.getD k 0)else
    match(choose (.extern "sched.slice" 65536)).run P world with
    | .halt _ w=>.machine (.ended (.stuck "sched.slice" "") w)
    | .ok n world=>.goroutine { m with world,rest:={ m.rest with slice:=if n=0 then none else some (rs.getD k 0,n)}} (rs.getD k 0)):=by
 split
 .trivial
 .rename_i h1;split
  .exact run_ok h1
  .split
   .trivial
   .rename_i h2;exact Nat.le_trans (run_ok h1) (run_ok h2)
theorem askOn_up(P:Program)(m:Machine):UpM m.world.drawn (askOn P m):=by
 unfold askOn;simp only;split
 .trivial
 .rename_i world h;have h0:=run_ok h;split
  .exact upS_mono h0 (serve_up P { m with world} _)
  .split
   .split
    .exact h0
    .split
     .exact h0
     .split<;>trivial
   .split
    .exact upM_mono h0 (pick_up P _ { m with world})
    .split
     .trivial
     .rename_i h2;have h3:=run_ok h2;exact upM_mono (Nat.le_trans h0 h3) (pick_up P (runnable m.gs m.world.os.mono) { m with world:=_})
     .rename_i h2;have h3:=run_ok h2;exact Nat.le_trans h0 h3
     .rename_i h2;have h3:=run_ok h2;exact upM_mono (Nat.le_trans h0 h3) (pick_up P (runnable m.gs m.world.os.mono) (Machine.advanceTo { m with world:=_} _))
theorem ask_up(P:Program)(m:Machine):UpM m.world.drawn (ask P m):=by
 unfold ask;split
 .split
  .trivial
  .rename_i h;have h1:=run_ok h;have h2:=look_up P m.gs m.rest (by assumption);split
   .rename_i h3;rw[h3]at h2;exact upM_mono (Nat.le_trans h1 h2) (askOn_up _ _)
   .exact upS_mono h1 h2
  .rename_i h;exact upM_mono (run_ok h) (askOn_up _ _)
 .exact askOn_up _ _
theorem move_up(P:Program)(m:Machine):UpM m.world.drawn (move P m):=by
 unfold move
 repeat' split
 all_goals (first|exact trivial|exact Nat.le_refl _|exact ask_up _ _)
theorem step_up(P:Program)(m:Machine):UpS m.world.drawn (step P m):=by
 unfold step stepT;have:=move_up P m;split
 .rename_i h;rw[h]at this;exact upS_mono this (runT_up _ _ _ _)
 .rename_i h;rw[h]at this;exact this
theorem steps_up{P:Program}{m m':Machine}(h:Steps P m m'):m.world.drawn<=m'.world.drawn:=by
 obtain⟨n,h⟩:=h
 induction n generalizing m with
 |zero=>simp only[runN,Stepped.next.injEq]at h;subst h;exact Nat.le_refl _
 |succ n ih=>
  simp only[runN]at h;have:=step_up P m;cases hst:step P m with
  |next m1=>
   rw[hst]at this h;exact Nat.le_trans this (ih h)
  |ended o w=>
   rw[hst]at h;cases h
theorem comes_up{P:Program}{m m':Machine}{v:Value}(h:Comes P m m' (.returned v)):m.world.drawn<=m'.world.drawn:=steps_up h
theorem calls_drawn{P:Program}{f:FuncId}{args:Array Value}{w:World}{R:Ending->World->Prop}(h:Calls P f args w R):Calls P f args w λe w'=>R e w'/\∀v,e=.returned v->w.drawn<=w'.drawn:=by
 intro cs;obtain⟨e,w',fr,h1,h2,h3⟩:=h cs;refine⟨e,w',fr,⟨h1,?_⟩,h2,h3⟩;rintro v rfl;exact comes_up h2
end Go.Sx

namespace Go.Sx
open Go.RowKit Go.Proofs Go.Sort
variable[Env]
theorem grow_of_below{w w':World}(h:Go.RowKit.Below w.heap.size w w')(hd:w.drawn<=w'.drawn):∃q os,w'=grow (w.drewN q) os:=by
 refine⟨w'.drawn-w.drawn,w'.heap.extract w.heap.size w'.heap.size,?_⟩
 have h1:w'.heap=w.heap++w'.heap.extract w.heap.size w'.heap.size:=by
  have hs:=h.size;apply Array.ext_getElem?;intro i;by_cases hi:i<w.heap.size
  .rw[h.block i hi,Array.getElem?_append_left hi]
  .rw[Array.getElem?_append_right (by omega),Array.getElem?_extract];simp only[Nat.min_self];by_cases h2:i<w'.heap.size
   .rw[if_pos (by omega)];congr 1;omega
   .rw[if_neg (by omega)];exact Array.getElem?_eq_none (by omega)
 cases w';cases w;simp only[grow,World.drewN]at *;have e1:=h.os;have e2:=h.tape;have e3:=h.output;simp only at e1 e2 e3;subst e1;subst e2;subst e3;rw[<-h1];simp only[World.mk.injEq,true_and,and_true];omega
def Anti{α:Type}(cf:α->α->Int)(xs:List α):Prop:=∀x∈xs,∀y∈xs,¬cf x y<0->¬cf y x<0->x=y
def srtBy{α:Type}(cf:α->α->Int)(xs:List α):List α:=xs.mergeSort λx y=>!decide (cf y x<0)
theorem pair_unique{α:Type}{le:α->α->Prop}:∀{xs ys:List α},(∀x∈xs,∀y∈xs,le x y->le y x->x=y)->xs.Perm ys->xs.Pairwise le->ys.Pairwise le->xs=ys
 | [],ys,_,h,_,_=>by simpa using h
 |x::xs,[],_,h,_,_=>by simp at h
 |x::xs,y::ys,ha,h,h1,h2=>by
  have hxy:x=y:=by
   have m1:x∈y::ys:=h.subset (List.mem_cons_self ..);have m2:y∈x::xs:=h.symm.subset (List.mem_cons_self ..);rcases List.mem_cons.1 m1 with rfl|m1
   .rfl
   .rcases List.mem_cons.1 m2 with rfl|m2
    .rfl
    .exact ha x (List.mem_cons_self ..) y (List.mem_cons_of_mem _ m2) ((List.pairwise_cons.1 h1).1 _ m2) ((List.pairwise_cons.1 h2).1 _ m1)
  subst hxy;rw[pair_unique (λa h3 b h4=>ha a (List.mem_cons_of_mem _ h3) b (List.mem_cons_of_mem _ h4)) (List.Perm.cons_inv h) (List.pairwise_cons.1 h1).2 (List.pairwise_cons.1 h2).2]
theorem srtBy_perm{α:Type}(cf:α->α->Int)(xs:List α):(srtBy cf xs).Perm xs:=List.mergeSort_perm _ _
theorem srtBy_sorted{α:Type}(cf:α->α->Int)(hO:SWO λx y=>decide (cf x y<0))(xs:List α):(srtBy cf xs).Pairwise λx y=>¬cf y x<0:=by
 have:=List.pairwise_mergeSort (le:=λx y:α=>!decide (cf y x<0)) (λa b c h1 h2=>by
  have:=hO.ntrans c b a;simp_all) (λa b=>by
  cases h:decide (cf b a<0)with
  |false=>simp
  |true=>
   cases h':decide (cf a b<0)with
   |false=>simp
   |true=>
    have:=hO.trans _ _ _ h h';rw[hO.irrefl]at this;cases this) xs
 exact this.imp λh=>by simpa using h
theorem srtBy_unique{α:Type}{cf:α->α->Int}(hO:SWO λx y=>decide (cf x y<0)){xs ys:List α}(ha:Anti cf xs)(hp:ys.Perm xs)(hs:ys.Pairwise λx y=>¬cf y x<0):ys=srtBy cf xs:=by
 refine pair_unique (le:=λx y=>¬cf y x<0) (λx hx y hy h1 h2=>?_) (hp.trans (srtBy_perm cf xs).symm) hs (srtBy_sorted cf hO xs);exact ha x (hp.subset hx) y (hp.subset hy) h2 h1
theorem fits_map1{n:Nat}{ρ:Rh}{l:List SV}{v:List Value}(h:l.all SV.one=true)(hf:SV.fits n ρ l v):∀x∈v,x.oneCell'=true:=by
 induction l generalizing v with
 |nil=>have:=fits_nil hf;subst this;simp
 |cons s l ih=>
  obtain⟨x,r,rfl,h1,h2⟩:=fits_cons hf;simp only[List.all_cons,Bool.and_eq_true]at h;intro y hy;rcases List.mem_cons.1 hy with rfl|hy
  .exact SV.one_fit h.1 h1
  .exact ih h.2 h2 y hy
section
variable{P:Program}{ρ:Go.Shelf.Ren}{α:Type}{A:El α}{t g:Nat}{cf:α->α->Int}{pre:α×α->List Prop}
set_option maxHeartbeats 1000000 in
theorem sort_mut(L:SlLaysF0.n6 P ρ)(aE:∀w,(isAgg (ρ.t 24)).run P w=.ok true w)(zE:∀w,(Go.sizeOf (ρ.t 24)).run P w=.ok A.sz w)(hz:0<A.sz)(eg:∀args w,(callFunc g args).run P w=.ok (.enter g args) w)
  (hO:SWO λx y=>decide (cf x y<0)) (hcmp:FnPure P g (DA.cons (Dv.agg A) (DA.one (Dv.agg A))) (dInt .i64) (λx=>cf x.1 x.2) pre) :
  FnMut P (ρ.f 6) t A (DA.one (dFn g)) (RM.pure (Dv.tup DA.none)) (λxs _=>(srtBy cf xs,())) (λxs _=>[xs.length<4611686018427387904,Anti cf xs,∀x∈xs,∀y∈xs,∀p∈pre (x,y),p]):=by
 intro w F Lc0 xs _ v0 vs hF hE hFo hv0 hpre hrow hfit;have hlen:=hpre _ (List.mem_cons_self ..);have hanti:=hpre _ (List.mem_cons_of_mem _ (List.mem_cons_self ..));have hpp:=hpre _ (List.mem_cons_of_mem _ (List.mem_cons_of_mem _ (List.mem_cons_self ..)));obtain⟨vf,r,rfl,hvf,hr⟩:=fits_cons hfit;have:=fits_nil hr;subst this;obtain⟨lf,rfl,hlf⟩:=hvf;have:=fits_nil hlf;subst this;cases hxs:xs with
 |nil=>
  subst hxs
  have hv:∃p c,v0=.slice p 0 c:=by
   rcases hv0 with ⟨_,_,a,rfl⟩|⟨_,rfl⟩
   .exact⟨_,_,rfl⟩
   .exact⟨_,_,rfl⟩
  obtain⟨p,c,rfl⟩:=hv;refine(AnyF.slices_SortFunc_none L p c (.func (.func g) #[] #[]) w).mono ?_;rintro e w' ⟨rfl,rfl⟩;refine⟨_,rfl,⟨rfl,rfl,rfl,Nat.le_refl _,λ_ _ _=>rfl⟩,?_,λm i ρ' _ _ _=>⟨[],rfl,trivial⟩⟩;have:srtBy cf ([]:List α)=[]:=by simp[srtBy]
  simp only[this]
  exact rowA_cl A (ρ:=emp F) (λb o h=>by
   simp only[emp,memAt];have:=(Array.getElem?_eq_some_iff.1 (hF b o h)).1;rw[if_pos this];exact h) hrow
 |cons x0 xs0=>
  have hpos:0<xs.length:=by rw[hxs];simp
  rw[<-hxs];rcases hv0 with ⟨_,h0,_⟩|⟨hnl,rfl⟩
  .omega
  rcases hrow.2 with ⟨h0,_⟩|⟨_,hoff,c,fz,hob,hfz,hcs,hmc,hcm,hall⟩
  .rw[hnl]at h0;cases h0
  have hblk:Lc0.blk<w.heap.size:=(Array.getElem?_eq_some_iff.1 hob).1
  let β:Type:={ p:α×List Value//p.1∈xs/\p.2.length=A.sz/\SV.fits 0 (emp F) (A.cells p.1) p.2}
  have hcell:∀i(hi:i<xs.length),∃l:List Value,l.length=A.sz/\SV.fits 0 (emp F) (A.cells xs[i]) l/\∀j x,l[j]?=some x->c[i*A.sz+j]?=some x:=λi hi=>by
   obtain⟨l,q1,q2,q3⟩:=hall i hi;refine⟨l,q1,?_,λj x h=>by simpa using q3 j x h⟩;have e0:A.els xs i=A.cells xs[i]:=by simp[El.els,List.getD_eq_getElem?_getD,hi]
   rw[<-e0];exact q2
  let mk:Fin xs.length->β:=λi=>⟨(xs[i],Classical.choose (hcell i i.2)),List.getElem_mem _,(Classical.choose_spec (hcell i i.2)).1,(Classical.choose_spec (hcell i i.2)).2.1⟩
  letI:Inhabited β:=⟨mk ⟨0,hpos⟩⟩
  let d:Array β:=Array.ofFn mk
  have hds:d.size=xs.length:=by simp[d]
  have hdi:∀i(hi:i<xs.length),d[i]! =mk ⟨i,hi⟩:=λi hi=>by
   rw[getElem!_pos d i (by omega)];simp[d]
  let enc:β->List Value:=λx=>x.1.2
  let cf':β->β->Int:=λx y=>cf x.1.1 y.1.1
  have hO':SWO (ltOf cf'):={ irrefl:=λx=>hO.irrefl x.1.1,trans:=λx y z=>hO.trans x.1.1 y.1.1 z.1.1,ntrans:=λx y z=>hO.ntrans x.1.1 y.1.1 z.1.1};have hkl:∀x,(enc x).length=A.sz:=λx=>x.2.2.1
  have hflat:∀j,j<xs.length*A.sz->c[j]?=some (flatK enc A.sz d)[j]!:=λj hj=>by
   rw[get_flatK _ _ _ _ (by rw[hds];exact hj)];have hdv:j/A.sz<xs.length:=Nat.div_lt_of_lt_mul (by rw[Nat.mul_comm];exact hj);rw[hdi _ hdv];have hspec:=(Classical.choose_spec (hcell (j/A.sz) hdv)).2.2 (j%A.sz);have hl:(Classical.choose (hcell (j/A.sz) hdv)).length=A.sz:=(Classical.choose_spec (hcell (j/A.sz) hdv)).1;have hm:j%A.sz<A.sz:=Nat.mod_lt _ hz;have:=hspec (Classical.choose (hcell (j/A.sz) hdv))[j%A.sz] (by rw[List.getElem?_eq_getElem]);rw[Nat.div_add_mod']at this;rw[this];show some _=some ((enc (mk ⟨j/A.sz,hdv⟩))[j%A.sz]!);rw[getElem!_pos]
  have hsz:(flatK enc A.sz d).size=xs.length*A.sz:=by rw[size_flatK,hds]
  have hcb:xs.length*A.sz<=c.size:=by rw[hcs];exact Nat.mul_le_mul_right _ hmc
  have hH:HoldsK enc A.sz w Lc0.blk 0 d:=by
   intro j hj;rw[hsz]at hj;constructor
   .simp only[World.cell?,hob,Option.isSome_none,Bool.false_eq_true,if_false,id_eq,Nat.zero_add];exact hflat j hj
   .simp only[World.frozen?,hob,Nat.zero_add];have:=hfz j (by omega);simp only[Bool.and_eq_false_iff,decide_eq_false_iff_not];exact Classical.not_and_iff_not_or_not.1 this
  have hmem:∀(m:Nat)(dk:Array β)(os:Array Obj)b o,F b=some o->(sortWorldK enc A.sz w Lc0.blk 0 m dk os).heap[b]?=some o:=λm dk os b o hb=>by
   have hne:b≠Lc0.blk:=by
    rintro rfl;rw[hFo _ ⟨hnl,rfl⟩]at hb;cases hb
   have hlt:=(Array.getElem?_eq_some_iff.1 (hF b o hb)).1;simp only[sortWorldK,grow,putRowK,putRow,mapBlock];rw[Array.getElem?_append_left (by simpa using hlt),Array.getElem?_modify,if_neg (λh=>hne h.symm)];exact hF b o hb
  have hC:CmpLays P g #[] enc A.sz cf' Lc0.blk 0 d.size w:=by
   intro m os dk _ x y;have hfx:∀x:β,(SV.agg (A.cells x.1.1)).fit 0 (emp F) (.agg (enc x).toArray):=λx=>⟨_,rfl,x.2.2.2⟩;have:=calls_drawn (hcmp (sortWorldK enc A.sz w Lc0.blk 0 m dk os) F (x.1.1,y.1.1) [.agg (enc x).toArray,.agg (enc y).toArray] (hmem m dk os) hE (hpp _ x.2.1 _ y.2.1) ⟨hfx x,hfx y,trivial⟩);refine this.mono ?_;rintro e w' ⟨⟨x',rfl,hb,hx⟩,hd⟩;exact⟨by have hx:x'=_:=hx;rw[hx],grow_of_below hb (hd _ rfl)⟩
  have hmain:=AnyQ.slices_SortFunc L A.sz aE zE enc hkl (λx v hv=>fits_map1 (A.one x.1.1) x.2.2.2 v hv) cf' hO' g #[] Lc0.blk 0 Lc0.cap d w eg hC hH hblk (by rw[hds];exact hlen);rw[hds]at hmain;refine hmain.mono ?_;rintro e w' ⟨rfl,d',n,os,hp,hs,rfl⟩;have hd's:d'.size=xs.length:=hp.1.trans hds
  have hys:d'.toList.map (λx=>x.1.1)=srtBy cf xs:=by
   apply srtBy_unique hO hanti
   .have h1:=hp.2.2;have e1:d'.extract 0 xs.length=d':=by rw[<-hd's];simp
    have e2:d.extract 0 xs.length=d:=by rw[<-hds];simp
    rw[e1,e2]at h1;have h2:=h1.map (λx:β=>x.1.1)
    have e3:d.toList.map (λx:β=>x.1.1)=xs:=by
     apply List.ext_getElem
     .simp[hds]
     .intro i h1 h2;simp[d,mk]
    rw[e3]at h2;exact h2
   .rw[List.pairwise_map,List.pairwise_iff_getElem];intro i j hi hj hij;have hi':i<d'.size:=by simpa using hi
    have hj':j<d'.size:=by simpa using hj
    have:=hs i j (Nat.zero_le _) hij (by omega);rw[getElem!_pos d' i hi',getElem!_pos d' j hj']at this;simpa [ltOf,cf']using this
  have hblock:∀k,k<w.heap.size->k≠Lc0.blk->(sortWorldK enc A.sz w Lc0.blk 0 n d' os).heap[k]?=w.heap[k]?:=λk hk hne=>by
   simp only[sortWorldK,grow,putRowK,putRow,mapBlock];rw[Array.getElem?_append_left (by simpa using hk),Array.getElem?_modify,if_neg (λh=>hne h.symm)];rfl
  have hnew:(sortWorldK enc A.sz w Lc0.blk 0 n d' os).heap[Lc0.blk]?=some (.cells (putCells id 0 (flatK enc A.sz d') c) t fz):=by
   simp only[sortWorldK,grow,putRowK,putRow,mapBlock];rw[Array.getElem?_append_left (by simpa using hblk),Array.getElem?_modify,if_pos rfl];show(w.heap[Lc0.blk]?).map _=_;rw[hob];rfl
  have hle:w.heap.size<=(sortWorldK enc A.sz w Lc0.blk 0 n d' os).heap.size:=size_sortWorldK_c enc A.sz w Lc0.blk 0 n d' os;refine⟨_,rfl,⟨rfl,rfl,rfl,hle,λk hk hB=>hblock k hk λh=>hB ⟨hnl,h⟩⟩,?_,λm i ρ' _ _ _=>⟨[],rfl,trivial⟩⟩;have hylen:(srtBy cf xs).length=xs.length:=(srtBy_perm cf xs).length_eq
  have hmF:∀b o,F b=some o->memAt F w (sortWorldK enc A.sz w Lc0.blk 0 n d' os) b=some o:=λb o h=>by
   simp only[memAt];rw[if_pos (Array.getElem?_eq_some_iff.1 (hF b o h)).1];exact h
  refine⟨by rw[hylen];exact hrow.1,.inr ⟨hnl,hoff,_,fz,hnew,by simpa [putCells]using hfz,by simpa [putCells]using hcs,by rw[hylen];exact hmc,hcm,λe he=>?_⟩⟩;rw[hylen]at he;have hed:e<d'.size:=by omega
  refine⟨enc d'[e],hkl _,?_,λj x hx=>?_⟩
  .have h1:(srtBy cf xs).getD e A.dflt=d'[e].1.1:=by
    rw[<-hys,List.getD_eq_getElem?_getD];simp[hed]
   show SV.fits 0 _ (A.cells ((srtBy cf xs).getD e A.dflt)) _;rw[h1];exact A.cl _ _ _ (emp F) _ _ hmF d'[e].2.2.2
  .have hj:j<A.sz:=by
    have:=(List.getElem?_eq_some_iff.1 hx).1;rw[hkl]at this;exact this
   have hlt:e*A.sz+j<xs.length*A.sz:=by
    have:=Nat.mul_le_mul_right A.sz (show e+1<=xs.length from he);rw[Nat.add_mul,Nat.one_mul]at this;omega
   have hcz:e*A.sz+j<c.size:=by omega
   simp only[putCells,Nat.zero_add,Array.getElem?_mapIdx,Array.getElem?_eq_getElem hcz,Option.map_some];rw[if_pos ⟨Nat.zero_le _,by rw[size_flatK,hd's];exact hlt⟩,Nat.sub_zero,id_eq,get_flatK _ _ _ _ (by rw[hd's];exact hlt)]
   have e1:(e*A.sz+j)/A.sz=e:=by
    rw[Nat.mul_comm,Nat.mul_add_div hz,Nat.div_eq_of_lt hj];rfl
   have e2:(e*A.sz+j)%A.sz=j:=by
    rw[Nat.mul_comm,Nat.mul_add_mod,Nat.mod_eq_of_lt hj]
   rw[e1,e2,getElem!_pos d' e hed];have hj2:j<(enc d'[e]).length:=by rw[hkl];exact hj
   rw[getElem!_pos (enc d'[e]) j hj2];rw[List.getElem?_eq_getElem hj2]at hx;exact hx
end
end Go.Sx
