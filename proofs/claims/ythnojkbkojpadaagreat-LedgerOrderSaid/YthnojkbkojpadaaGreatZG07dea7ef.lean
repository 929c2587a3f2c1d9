/- The library's SortFunc at structs, as a function that writes a row of one's own: the shelf's contract, led over to plain lists. -/
import Derived.Test.YthnojkbkojpadaaGreatZG0639e578
import Derived.Shelf.SlSortCmp.WholeK
import Derived.Shelf.SlSortCmp.NoneTotal
import Derived.Test.YthnojkbkojpadaaGreatZG04e10fff
import Derived.Test.YthnojkbkojpadaaGreatZG056c14bf
import Derived.ProofKit
import Derived.OpenShut
import Derived.ShutString
import Derived.ChangeOld
import Derived.Below
import Derived.Deep.Slices
set_option linter.unusedVariables false
set_option linter.unusedSimpArgs false
set_option linter.constructorNameAsVariable false
set_option linter.all false

namespace Go.Sx
open Go.RowKit Go.Proofs Go.Sort
variable[Env]
theorem qmf{w w':World}(h:Go.RowKit.Below w.heap.size w w')(hd:w.drawn<=w'.drawn):∃q os,w'=grow (w.drewN q) os:=by
 refine⟨w'.drawn-w.drawn,w'.heap.extract w.heap.size w'.heap.size,?_⟩
 have h1:w'.heap=w.heap++w'.heap.extract w.heap.size w'.heap.size:=by
  have hs:=h.size;apply Array.ext_getElem?;intro i;by_cases hi:i<w.heap.size
  .rw[h.block i hi,Array.getElem?_append_left hi]
  .rw[Array.getElem?_append_right (by omega),Array.getElem?_extract];simp only[Nat.min_self];by_cases h2:i<w'.heap.size
   .rw[if_pos (by omega)];congr 1;omega
   .rw[if_neg (by omega)];exact Array.getElem?_eq_none (by omega)
 cases w';cases w;simp only[grow,World.drewN]at *;have e1:=h.os;have e2:=h.tape;have e3:=h.output;simp only at e1 e2 e3;subst e1;subst e2;subst e3;rw[<-h1];simp only[World.mk.injEq,true_and,and_true];omega
def Anti{α:Type}(cf:α->α->Int)(xs:List α):Prop:=∀x∈xs,∀y∈xs,¬cf x y<0->¬cf y x<0->x=y
def q2g{α:Type}(cf:α->α->Int)(xs:List α):List α:=xs.mergeSort λx y=>!decide (cf y x<0)
theorem qg1{α:Type}{le:α->α->Prop}:∀{xs ys:List α},(∀x∈xs,∀y∈xs,le x y->le y x->x=y)->xs.Perm ys->xs.Pairwise le->ys.Pairwise le->xs=ys
 | [],ys,_,h,_,_=>by simpa using h
 |x::xs,[],_,h,_,_=>by simp at h
 |x::xs,y::ys,ha,h,h1,h2=>by
  have hxy:x=y:=by
   have m1:x∈y::ys:=h.subset (List.mem_cons_self ..);have m2:y∈x::xs:=h.symm.subset (List.mem_cons_self ..);rcases List.mem_cons.1 m1 with rfl|m1
   .rfl
   .rcases List.mem_cons.1 m2 with rfl|m2
    .rfl
    .exact ha x (List.mem_cons_self ..) y (List.mem_cons_of_mem _ m2) ((List.pairwise_cons.1 h1).1 _ m2) ((List.pairwise_cons.1 h2).1 _ m1)
  subst hxy;rw[qg1 (λa h3 b h4=>ha a (List.mem_cons_of_mem _ h3) b (List.mem_cons_of_mem _ h4)) (List.Perm.cons_inv h) (List.pairwise_cons.1 h1).2 (List.pairwise_cons.1 h2).2]
theorem q2b{α:Type}(cf:α->α->Int)(xs:List α):(q2g cf xs).Perm xs:=List.mergeSort_perm _ _
theorem q5y{α:Type}(cf:α->α->Int)(hO:SWO λx y=>decide (cf x y<0))(xs:List α):(q2g cf xs).Pairwise λx y=>¬cf y x<0:=by
 have:=List.pairwise_mergeSort (le:=λx y:α=>!decide (cf y x<0)) (λa b c h1 h2=>by
  have:=hO.ntrans c b a;simp_all) (λa b=>by
  cases h:decide (cf b a<0)with
  |false=>simp
  |true=>
   cases h':decide (cf a b<0)with
   |false=>simp
   |true=>
    have:=hO.trans _ _ _ h h';rw[hO.irrefl]at this;cases this) xs
 exact this.imp λh=>by simpa using h
theorem qnq{α:Type}{cf:α->α->Int}(hO:SWO λx y=>decide (cf x y<0)){xs ys:List α}(ha:Anti cf xs)(hp:ys.Perm xs)(hs:ys.Pairwise λx y=>¬cf y x<0):ys=q2g cf xs:=by
 refine qg1 (le:=λx y=>¬cf y x<0) (λx hx y hy h1 h2=>?_) (hp.trans (q2b cf xs).symm) hs (q5y cf hO xs);exact ha x (hp.subset hx) y (hp.subset hy) h2 h1
theorem z4b{n:Nat}{ρ:Rh}{l:List SV}{v:List Value}(h:l.all SV.one=true)(hf:SV.fits n ρ l v):∀x∈v,x.oneCell'=true:=by
 induction l generalizing v with
 |nil=>have:=q0b hf;subst this;simp
 |cons s l ih=>
  obtain⟨x,r,rfl,h1,h2⟩:=q04 hf;simp only[List.all_cons,Bool.and_eq_true]at h;intro y hy;rcases List.mem_cons.1 hy with rfl|hy
  .exact SV.one_fit h.1 h1
  .exact ih h.2 h2 y hy
section
variable{P:Program}{ρ:Go.Shelf.Ren}{α:Type}{A:El α}{t g:Nat}{cf:α->α->Int}{pre:α×α->List Prop}
set_option maxHeartbeats 1000000 in
theorem qtn(L:SlLaysF0.n6 P ρ)(aE:∀w,(isAgg (ρ.t 24)).run P w=.ok true w)(zE:∀w,(Go.sizeOf (ρ.t 24)).run P w=.ok A.sz w)(hz:0<A.sz)(eg:∀args w,(callFunc g args).run P w=.ok (.enter g args) w)
  (hO:SWO λx y=>decide (cf x y<0)) (hcmp:q09 P g (DA.cons (Dv.agg A) (DA.one (Dv.agg A))) (dInt .i64) (λx=>cf x.1 x.2) pre) :
  qht P (ρ.f 6) t A (DA.one (dFn g)) (RM.pure (Dv.tup DA.none)) (λxs _=>(q2g cf xs,())) (λxs _=>[xs.length<4611686018427387904,Anti cf xs,∀x∈xs,∀y∈xs,∀p∈pre (x,y),p]):=by
 intro w F Lc0 xs _ v0 vs hF hE hFo hv0 hpre hrow hfit;have hlen:=hpre _ (List.mem_cons_self ..);have hanti:=hpre _ (List.mem_cons_of_mem _ (List.mem_cons_self ..));have hpp:=hpre _ (List.mem_cons_of_mem _ (List.mem_cons_of_mem _ (List.mem_cons_self ..)));obtain⟨vf,r,rfl,hvf,hr⟩:=q04 hfit;have:=q0b hr;subst this;obtain⟨lf,rfl,hlf⟩:=hvf;have:=q0b hlf;subst this;cases hxs:xs with
 |nil=>
  subst hxs
  have hv:∃p c,v0=.slice p 0 c:=by
   rcases hv0 with ⟨_,_,a,rfl⟩|⟨_,rfl⟩
   .exact⟨_,_,rfl⟩
   .exact⟨_,_,rfl⟩
  obtain⟨p,c,rfl⟩:=hv;refine(AnyF.slices_SortFunc_none L p c (.func (.func g) #[] #[]) w).mono ?_;rintro e w' ⟨rfl,rfl⟩;refine⟨_,rfl,⟨rfl,rfl,rfl,Nat.le_refl _,λ_ _ _=>rfl⟩,?_,λm i ρ' _ _ _=>⟨[],rfl,trivial⟩⟩;have:q2g cf ([]:List α)=[]:=by simp[q2g]
  simp only[this]
  exact qfx A (ρ:=emp F) (λb o h=>by
   simp only[emp,q2e];have:=(Array.getElem?_eq_some_iff.1 (hF b o h)).1;rw[if_pos this];exact h) hrow
 |cons x0 xs0=>
  have hpos:0<xs.length:=by rw[hxs];simp
  rw[<-hxs];rcases hv0 with ⟨_,h0,_⟩|⟨hnl,rfl⟩
  .omega
  rcases hrow.2 with ⟨h0,_⟩|⟨_,hoff,c,fz,hob,hfz,hcs,hmc,hcm,hall⟩
  .rw[hnl]at h0;cases h0
  have hblk:Lc0.blk<w.heap.size:=(Array.getElem?_eq_some_iff.1 hob).1
  let β:Type:={ p:α×List Value//p.1∈xs/\p.2.length=A.sz/\SV.fits 0 (emp F) (A.cells p.1) p.2}
  have hcell:∀i(hi:i<xs.length),∃l:List Value,l.length=A.sz/\SV.fits 0 (emp F) (A.cells xs[i]) l/\∀j x,l[j]?=some x->c[i*A.sz+j]?=some x:=λi hi=>by
   obtain⟨l,q1,q2,q3⟩:=hall i hi;refine⟨l,q1,?_,λj x h=>by simpa using q3 j x h⟩;have e0:A.els xs i=A.cells xs[i]:=by simp[El.els,List.getD_eq_getElem?_getD,hi]
   rw[<-e0];exact q2
  let mk:Fin xs.length->β:=λi=>⟨(xs[i],Classical.choose (hcell i i.2)),List.getElem_mem _,(Classical.choose_spec (hcell i i.2)).1,(Classical.choose_spec (hcell i i.2)).2.1⟩
  letI:Inhabited β:=⟨mk ⟨0,hpos⟩⟩
  let d:Array β:=Array.ofFn mk
  have hds:d.size=xs.length:=by simp[d]
  have hdi:∀i(hi:i<xs.length),d[i]! =mk ⟨i,hi⟩:=λi hi=>by
   rw[getElem!_pos d i (by omega)];simp[d]
  let enc:β->List Value:=λx=>x.1.2
  let cf':β->β->Int:=λx y=>cf x.1.1 y.1.1
  have hO':SWO (ltOf cf'):={ irrefl:=λx=>hO.irrefl x.1.1,trans:=λx y z=>hO.trans x.1.1 y.1.1 z.1.1,ntrans:=λx y z=>hO.ntrans x.1.1 y.1.1 z.1.1};have hkl:∀x,(enc x).length=A.sz:=λx=>x.2.2.1
  have hflat:∀j,j<xs.length*A.sz->c[j]?=some (flatK enc A.sz d)[j]!:=λj hj=>by
   rw[get_flatK _ _ _ _ (by rw[hds];exact hj)];have hdv:j/A.sz<xs.length:=Nat.div_lt_of_lt_mul (by rw[Nat.mul_comm];exact hj);rw[hdi _ hdv];have hspec:=(Classical.choose_spec (hcell (j/A.sz) hdv)).2.2 (j%A.sz);have hl:(Classical.choose (hcell (j/A.sz) hdv)).length=A.sz:=(Classical.choose_spec (hcell (j/A.sz) hdv)).1;have hm:j%A.sz<A.sz:=Nat.mod_lt _ hz;have:=hspec (Classical.choose (hcell (j/A.sz) hdv))[j%A.sz] (by rw[List.getElem?_eq_getElem]);rw[Nat.div_add_mod']at this;rw[this];show some _=some ((enc (mk ⟨j/A.sz,hdv⟩))[j%A.sz]!);rw[getElem!_pos]
  have hsz:(flatK enc A.sz d).size=xs.length*A.sz:=by rw[size_flatK,hds]
  have hcb:xs.length*A.sz<=c.size:=by rw[hcs];exact Nat.mul_le_mul_right _ hmc
  have hH:HoldsK enc A.sz w Lc0.blk 0 d:=by
   intro j hj;rw[hsz]at hj;constructor
   .simp only[World.cell?,hob,Option.isSome_none,Bool.false_eq_true,if_false,id_eq,Nat.zero_add];exact hflat j hj
   .simp only[World.frozen?,hob,Nat.zero_add];have:=hfz j (by omega);simp only[Bool.and_eq_false_iff,decide_eq_false_iff_not];exact Classical.not_and_iff_not_or_not.1 this
  have hmem:∀(m:Nat)(dk:Array β)(os:Array Obj)b o,F b=some o->(sortWorldK enc A.sz w Lc0.blk 0 m dk os).heap[b]?=some o:=λm dk os b o hb=>by
   have hne:b≠Lc0.blk:=by
    rintro rfl;rw[hFo _ ⟨hnl,rfl⟩]at hb;cases hb
   have hlt:=(Array.getElem?_eq_some_iff.1 (hF b o hb)).1;simp only[sortWorldK,grow,putRowK,putRow,mapBlock];rw[Array.getElem?_append_left (by simpa using hlt),Array.getElem?_modify,if_neg (λh=>hne h.symm)];exact hF b o hb
  have hC:CmpLays P g #[] enc A.sz cf' Lc0.blk 0 d.size w:=by
   intro m os dk _ x y;have hfx:∀x:β,(SV.agg (A.cells x.1.1)).fit 0 (emp F) (.agg (enc x).toArray):=λx=>⟨_,rfl,x.2.2.2⟩;have:=qt1 (hcmp (sortWorldK enc A.sz w Lc0.blk 0 m dk os) F (x.1.1,y.1.1) [.agg (enc x).toArray,.agg (enc y).toArray] (hmem m dk os) hE (hpp _ x.2.1 _ y.2.1) ⟨hfx x,hfx y,trivial⟩);refine this.mono ?_;rintro e w' ⟨⟨x',rfl,hb,hx⟩,hd⟩;exact⟨by have hx:x'=_:=hx;rw[hx],qmf hb (hd _ rfl)⟩
  have hmain:=AnyQ.slices_SortFunc L A.sz aE zE enc hkl (λx v hv=>z4b (A.one x.1.1) x.2.2.2 v hv) cf' hO' g #[] Lc0.blk 0 Lc0.cap d w eg hC hH hblk (by rw[hds];exact hlen);rw[hds]at hmain;refine hmain.mono ?_;rintro e w' ⟨rfl,d',n,os,hp,hs,rfl⟩;have hd's:d'.size=xs.length:=hp.1.trans hds
  have hys:d'.toList.map (λx=>x.1.1)=q2g cf xs:=by
   apply qnq hO hanti
   .have h1:=hp.2.2;have e1:d'.extract 0 xs.length=d':=by rw[<-hd's];simp
    have e2:d.extract 0 xs.length=d:=by rw[<-hds];simp
    rw[e1,e2]at h1;have h2:=h1.map (λx:β=>x.1.1)
    have e3:d.toList.map (λx:β=>x.1.1)=xs:=by
     apply List.ext_getElem
     .simp[hds]
     .intro i h1 h2;simp[d,mk]
    rw[e3]at h2;exact h2
   .rw[List.pairwise_map,List.pairwise_iff_getElem];intro i j hi hj hij;have hi':i<d'.size:=by simpa using hi
    have hj':j<d'.size:=by simpa using hj
    have:=hs i j (Nat.zero_le _) hij (by omega);rw[getElem!_pos d' i hi',getElem!_pos d' j hj']at this;simpa [ltOf,cf']using this
  have hblock:∀k,k<w.heap.size->k≠Lc0.blk->(sortWorldK enc A.sz w Lc0.blk 0 n d' os).heap[k]?=w.heap[k]?:=λk hk hne=>by
   simp only[sortWorldK,grow,putRowK,putRow,mapBlock];rw[Array.getElem?_append_left (by simpa using hk),Array.getElem?_modify,if_neg (λh=>hne h.symm)];rfl
  have hnew:(sortWorldK enc A.sz w Lc0.blk 0 n d' os).heap[Lc0.blk]?=some (.cells (putCells id 0 (flatK enc A.sz d') c) t fz):=by
   simp only[sortWorldK,grow,putRowK,putRow,mapBlock];rw[Array.getElem?_append_left (by simpa using hblk),Array.getElem?_modify,if_pos rfl];show(w.heap[Lc0.blk]?).map _=_;rw[hob];rfl
  have hle:w.heap.size<=(sortWorldK enc A.sz w Lc0.blk 0 n d' os).heap.size:=size_sortWorldK_c enc A.sz w Lc0.blk 0 n d' os;refine⟨_,rfl,⟨rfl,rfl,rfl,hle,λk hk hB=>hblock k hk λh=>hB ⟨hnl,h⟩⟩,?_,λm i ρ' _ _ _=>⟨[],rfl,trivial⟩⟩;have hylen:(q2g cf xs).length=xs.length:=(q2b cf xs).length_eq
  have hmF:∀b o,F b=some o->q2e F w (sortWorldK enc A.sz w Lc0.blk 0 n d' os) b=some o:=λb o h=>by
   simp only[q2e];rw[if_pos (Array.getElem?_eq_some_iff.1 (hF b o h)).1];exact h
  refine⟨by rw[hylen];exact hrow.1,.inr ⟨hnl,hoff,_,fz,hnew,by simpa [putCells]using hfz,by simpa [putCells]using hcs,by rw[hylen];exact hmc,hcm,λe he=>?_⟩⟩;rw[hylen]at he;have hed:e<d'.size:=by omega
  refine⟨enc d'[e],hkl _,?_,λj x hx=>?_⟩
  .have h1:(q2g cf xs).getD e A.dflt=d'[e].1.1:=by
    rw[<-hys,List.getD_eq_getElem?_getD];simp[hed]
   show SV.fits 0 _ (A.cells ((q2g cf xs).getD e A.dflt)) _;rw[h1];exact A.cl _ _ _ (emp F) _ _ hmF d'[e].2.2.2
  .have hj:j<A.sz:=by
    have:=(List.getElem?_eq_some_iff.1 hx).1;rw[hkl]at this;exact this
   have hlt:e*A.sz+j<xs.length*A.sz:=by
    have:=Nat.mul_le_mul_right A.sz (show e+1<=xs.length from he);rw[Nat.add_mul,Nat.one_mul]at this;omega
   have hcz:e*A.sz+j<c.size:=by omega
   simp only[putCells,Nat.zero_add,Array.getElem?_mapIdx,Array.getElem?_eq_getElem hcz,Option.map_some];rw[if_pos ⟨Nat.zero_le _,by rw[size_flatK,hd's];exact hlt⟩,Nat.sub_zero,id_eq,get_flatK _ _ _ _ (by rw[hd's];exact hlt)]
   have e1:(e*A.sz+j)/A.sz=e:=by
    rw[Nat.mul_comm,Nat.mul_add_div hz,Nat.div_eq_of_lt hj];rfl
   have e2:(e*A.sz+j)%A.sz=j:=by
    rw[Nat.mul_comm,Nat.mul_add_mod,Nat.mod_eq_of_lt hj]
   rw[e1,e2,getElem!_pos d' e hed];have hj2:j<(enc d'[e]).length:=by rw[hkl];exact hj
   rw[getElem!_pos (enc d'[e]) j hj2];rw[List.getElem?_eq_getElem hj2]at hx;exact hx
end
end Go.Sx

namespace Go.Lp
open Go.Sx Go.Sort
variable[Env]
section
variable{α:Type}[DecidableEq α]{cf:α->α->Int}
structure TO(cf:α->α->Int):Prop where
 swo:SWO λx y=>decide (cf x y<0)
 anti:∀x y,¬cf x y<0->¬cf y x<0->x=y
theorem TO.irrefl(h:TO cf)(x:α):¬cf x x<0:=by have:=h.swo.irrefl x;simpa using this
theorem TO.trans(h:TO cf){x y z:α}(h1:cf x y<0)(h2:cf y z<0):cf x z<0:=by
 have:=h.swo.trans x y z (by simpa using h1) (by simpa using h2);simpa using this
theorem TO.asymm(h:TO cf){x y:α}(h1:cf x y<0):¬cf y x<0:=λh2=>h.irrefl x (h.trans h1 h2)
theorem TO.lt_or(h:TO cf){x y:α}(hne:x≠y)(h1:¬cf x y<0):cf y x<0:=Classical.byContradiction λh2=>hne (h.anti x y h1 h2)
theorem qax(h:TO cf):∀{l m:List α},l.Pairwise (λx y=>cf x y<0)->m.Pairwise (λx y=>cf x y<0)->(∀x,x∈l↔x∈m)->l=m
 | [],[],_,_,_=>rfl
 | [],y::m,_,_,he=>by have:=(he y).2 (List.mem_cons_self ..);cases this
 |x::l,[],_,_,he=>by have:=(he x).1 (List.mem_cons_self ..);cases this
 |x::l,y::m,h1,h2,he=>by
  rw[List.pairwise_cons]at h1 h2
  have hxy:x=y:=by
   have a:=(he x).1 (List.mem_cons_self ..);have b:=(he y).2 (List.mem_cons_self ..);rcases List.mem_cons.1 a with e|a
   .exact e
   .rcases List.mem_cons.1 b with e|b
    .exact e.symm
    .exact absurd (h1.1 y b) (h.asymm (h2.1 x a))
  subst hxy;congr 1;refine qax h h1.2 h2.2 λz=>?_;have:=he z;simp only[List.mem_cons]at this;constructor
  .intro hz;rcases this.1 (.inr hz)with e|h3
   .subst e;exact absurd (h1.1 z hz) (h.irrefl z)
   .exact h3
  .intro hz;rcases this.2 (.inr hz)with e|h3
   .subst e;exact absurd (h2.1 z hz) (h.irrefl z)
   .exact h3
theorem z5l:∀{r:List α}{p x:α},x∈p::dd p r↔x∈p::r
 | [],_,_=>Iff.rfl
 |y::r,p,x=>by
  simp only[dd];by_cases hy:y=p
  .subst hy;rw[if_pos rfl,z5l (r:=r)];simp
  .rw[if_neg hy];have:=z5l (r:=r) (p:=y) (x:=x);simp only[List.mem_cons]at this ⊢;rw[this]
theorem qhd(h:TO cf):∀{r:List α}{p:α},(p::r).Pairwise (λx y=>¬cf y x<0)->(p::dd p r).Pairwise (λx y=>cf x y<0)
 | [],_,_=>by simp[dd]
 |y::r,p,hs=>by
  rw[List.pairwise_cons]at hs;simp only[dd];by_cases hy:y=p
  .rw[if_pos hy];subst hy;exact qhd h hs.2
  .rw[if_neg hy];have ih:=qhd h hs.2;rw[List.pairwise_cons];refine⟨λz hz=>?_,ih⟩;have hpy:cf p y<0:=h.lt_or hy (hs.1 y (List.mem_cons_self ..));rcases List.mem_cons.1 hz with e|hz
   .rw[e];exact hpy
   .rw[List.pairwise_cons]at ih;exact h.trans hpy (ih.1 z hz)
theorem qsw(h:TO cf){xs:List α}(hs:xs.Pairwise (λx y=>¬cf y x<0)):(q5w xs).Pairwise (λx y=>cf x y<0):=by
 cases xs with
 |nil=>exact List.Pairwise.nil
 |cons x r=>exact qhd h hs
theorem zd1{xs:List α}{x:α}:x∈q5w xs↔x∈xs:=by
 cases xs with
 |nil=>exact Iff.rfl
 |cons y r=>exact z5l
def insU(cf:α->α->Int)(s:α):List α->List α
 | []=>[s]
 |y::r=>if y=s then y::r else if cf s y<0 then s::y::r else y::insU cf s r
theorem qmc{s x:α}:∀{l:List α},x∈insU cf s l↔x=s\/x∈l
 | []=>by simp[insU]
 |y::r=>by
  simp only[insU];by_cases hy:y=s
  .rw[if_pos hy];subst hy;simp
  .rw[if_neg hy];by_cases hl:cf s y<0
   .rw[if_pos hl];simp
   .rw[if_neg hl,List.mem_cons,qmc (l:=r),List.mem_cons];constructor
    .rintro(h|h|h)<;>simp[h]
    .rintro(h|h|h)<;>simp[h]
theorem qgs(h:TO cf){s:α}:∀{l:List α},l.Pairwise (λx y=>cf x y<0)->(insU cf s l).Pairwise (λx y=>cf x y<0)
 | [],_=>by simp[insU]
 |y::r,hs=>by
  simp only[insU];rw[List.pairwise_cons]at hs;by_cases hy:y=s
  .rw[if_pos hy,List.pairwise_cons];exact hs
  .rw[if_neg hy];by_cases hl:cf s y<0
   .rw[if_pos hl,List.pairwise_cons];refine⟨λz hz=>?_,List.pairwise_cons.2 hs⟩;rcases List.mem_cons.1 hz with e|hz
    .rw[e];exact hl
    .exact h.trans hl (hs.1 z hz)
   .rw[if_neg hl,List.pairwise_cons];refine⟨λz hz=>?_,qgs h hs.2⟩;rcases qmc.1 hz with e|hz
    .rw[e];exact h.lt_or (λe=>hy e.symm) hl
    .exact hs.1 z hz
def q3b(cf:α->α->Int)(xs:List α):List α:=xs.foldl (λl s=>insU cf s l) []
theorem qjy(h:TO cf):∀{xs l:List α},l.Pairwise (λx y=>cf x y<0)->(xs.foldl (λl s=>insU cf s l) l).Pairwise (λx y=>cf x y<0)/\∀x,x∈xs.foldl (λl s=>insU cf s l) l↔x∈xs\/x∈l
 | [],l,hl=>⟨hl,λx=>by simp⟩
 |y::xs,l,hl=>by
  obtain⟨h1,h2⟩:=qjy h (xs:=xs) (qgs h (s:=y) hl);refine⟨h1,λx=>?_⟩;rw[List.foldl_cons,h2 x,qmc,List.mem_cons];constructor
  .rintro(h|h|h)<;>simp[h]
  .rintro((h|h)|h)<;>simp[h]
theorem sorted_put(h:TO cf)(xs:List α):q5w (q2g cf xs)=q3b cf xs:=by
 obtain⟨h1,h2⟩:=qjy h (xs:=xs) (l:=[]) List.Pairwise.nil;refine qax h (qsw h (q5y cf h.swo xs)) h1 λx=>?_;unfold q3b;rw[zd1,(q2b cf xs).mem_iff,h2 x];simp
end
end Go.Lp

namespace Go.Lp
open Go.Sx Go.Sort
variable[Env]
def lexC:List Int->List Int->Int
 | [],[]=>0
 | [],_::_=>-1
 |_::_,[]=>1
 |x::r,y::s=>if x<y then -1 else if y<x then 1 else lexC r s
theorem qjk:∀x:List Int,¬lexC x x<0
 | []=>by simp[lexC]
 |x::r=>by simp only[lexC];rw[if_neg (by omega),if_neg (by omega)];exact qjk r
theorem qgk:∀x y z:List Int,lexC x y<0->lexC y z<0->lexC x z<0
 | [],[],_,h,_=>by simp[lexC]at h
 | [],_::_,[],_,h=>by simp[lexC]at h
 | [],_::_,_::_,_,_=>by simp[lexC]
 |_::_,[],_,h,_=>by simp[lexC]at h
 |_::_,_::_,[],_,h=>by simp[lexC]at h
 |x::r,y::s,z::t,h1,h2=>by
  simp only[lexC]at h1 h2 ⊢;by_cases a:x<y
  .by_cases b:y<z
   .rw[if_pos (by omega)];omega
   .rw[if_neg b]at h2;by_cases c:z<y
    .rw[if_pos c]at h2;omega
    .rw[if_pos (by omega)];omega
  .rw[if_neg a]at h1;by_cases b:y<x
   .rw[if_pos b]at h1;omega
   .rw[if_neg b]at h1;have:x=y:=by omega
    subst this;by_cases c:x<z
    .rw[if_pos c];omega
    .rw[if_neg c]at h2 ⊢;by_cases d:z<x
     .rw[if_pos d]at h2;omega
     .rw[if_neg d]at h2 ⊢;exact qgk r s t h1 h2
theorem qm4:∀x y:List Int,¬lexC x y<0->¬lexC y x<0->x=y
 | [],[],_,_=>rfl
 | [],_::_,h,_=>by simp[lexC]at h
 |_::_,[],_,h=>by simp[lexC]at h
 |x::r,y::s,h1,h2=>by
  simp only[lexC]at h1 h2;by_cases a:x<y
  .rw[if_pos a]at h1;omega
  .rw[if_neg a]at h1;by_cases b:y<x
   .rw[if_pos b]at h2;omega
   .rw[if_neg b]at h1 h2;rw[if_neg a]at h2;rw[qm4 r s h1 h2];congr 1;omega
theorem zm4{x y:List Int}(h:¬lexC x y<0):x=y\/lexC y x<0:=by
 by_cases h2:lexC y x<0
 .exact .inr h2
 .exact .inl (qm4 x y h h2)
theorem qte{α:Type}(key:α->List Int)(hk:∀a b,key a=key b->a=b){cf:α->α->Int}(he:∀a b,cf a b<0↔lexC (key a) (key b)<0):TO cf where
 swo:={
  irrefl:=λx=>by simp only[decide_eq_false_iff_not,he];exact qjk _
  trans:=λx y z h1 h2=>by
   simp only[decide_eq_true_eq,he]at *;exact qgk _ _ _ h1 h2
  ntrans:=λx y z h1 h2=>by
   simp only[decide_eq_false_iff_not,he]at *;intro h3;rcases zm4 h1 with e|e
   .rw[e]at h3;exact h2 h3
   .exact h2 (qgk _ _ _ e h3)}
 anti:=λx y h1 h2=>by
  rw[he]at h1 h2;exact hk _ _ (qm4 _ _ h1 h2)
end Go.Lp

namespace Go.Sx
noncomputable section
variable[Env]
def q4c:Code->List (Array Tmp×Code×Code)
 | .seq a b=>q4c a++q4c b
 | .cond _ a b=>q4c a++q4c b
 | .block _ c=>q4c c
 | .scope c=>q4c c
 | .loop c=>q4c c
 | .rangeFunc _ ps a b=>(ps,a,b)::(q4c a++q4c b)
 |_=>[]
def q1q(P:Program)(f k:Nat):Array Tmp×Code×Code:=
 match P.funcs[f]? with
 |some fn=>match fn.body with
  |some c=>((q4c c)[k]?).getD (#[],.skip,.skip)
  |none=>(#[],.skip,.skip)
 |none=>(#[],.skip,.skip)
def LP.rf(N id:Nat)(P:Program)(f k n:Nat)(fx:List (Nat×SV))(df:Nat):LP N (LoopState×Option Code):=
 LP.loopO N id n fx (q1q P f k).1 (q1q P f k).2.1 (q1q P f k).2.2 df
def qvd{γ:Type}(x:Ex×γ):List ((Ex×γ->Bool)×Ex×(γ->γ))->Tr (Ex×γ)
 | []=>.bad 645
 | [(_,e,s)]=>.ret (e,s x.2)
 |(t,e,s)::y::r=>.br (t x) (.ret (e,s x.2)) (qvd x (y::r))
def qam{γ:Type}(x:Ex×γ):List ((Ex×γ->Bool)×Ex×(γ->γ))->Prop
 | []=>False
 | [(_,e,s)]=>x.1=e/\s x.2=x.2
 |(t,e,s)::y::r=>(t x=true->x.1=e/\s x.2=x.2)/\(t x=false->qam x (y::r))
theorem qe3{γ:Type}{x:Ex×γ}{K:Ex×γ->Prop}:∀{l:List ((Ex×γ->Bool)×Ex×(γ->γ))},qam x l->(qvd x l).Holds K->K x
 | [],h,_=>h.elim
 | [(_,e,s)],h,hk=>by
  obtain⟨h1,h2⟩:=h;have hk:K (e,s x.2):=hk;rw[<-h1,h2]at hk;exact hk
 |(t,e,s)::y::r,h,hk=>by
  cases hb:t x with
  |true=>
   obtain⟨h1,h2⟩:=h.1 hb;have hk:K (e,s x.2):=hk.1 hb;rw[<-h1,h2]at hk;exact hk
  |false=>exact qe3 (l:=y::r) (h.2 hb) (hk.2 hb)
section
variable{P:Program}{Γ:Gam}{Λ:Lam}{N:Nat}{γ:Type}
def z1p(es:List ((Ex×γ->Bool)×Ex×(γ->γ)))(body:Code)(A:LP N γ)(DL:List Nat)(n0:Nat)(Inv:γ->List Prop)(F:γ->Ex×γ)(m:γ->Nat):LCon:=qrl body A DL n0 Inv λg=>qvd (q07 F m g) es
theorem qov(ι:γ->γ)(hΓ:∀f g,Γ.g f=some g->FnOk P f g)(hΛ:∀f k L,Λ f k=some L->∀b∈q03 P f,lkey b=k->q06 P b L.g)(n f key n0:Nat)(A:LP N γ)(DL:List Nat)(Inv:γ->List Prop)(F:γ->Ex×γ)(S:γ->Prop)(m:γ->Nat)(d:Ex×γ)(es:List ((Ex×γ->Bool)×Ex×(γ->γ)))
  (hu:((q03 P f).filter λc=>Nat.beq (lkey c) key).length=1)
  (hS:∀(rd:Option Nat)(T B:List (Nat×SV))(HL HB:List (Nat×SE))(ds:List Nat)(g:γ),(bT P Γ Λ n f none (loopBody P f key) A DL n0 ⟨n0,T,⟨N,HL,HB⟩,DL,B⟩ ds (ι g)).side=S g)
  (hF:∀(rd:Option Nat)(T B:List (Nat×SV))(HL HB:List (Nat×SE))(ds:List Nat)(g:γ),(bT P Γ Λ n f none (loopBody P f key) A DL n0 ⟨n0,T,⟨N,HL,HB⟩,DL,B⟩ ds (ι g)).ev d=F g)
  (hι:∀g,allP (Inv g)->ι g=g) (hs:∀g,allP (Inv g)->S g) (hg:Goes F m λg=>allP (Inv g)) (hes:∀g,(F g).1=.normal\/qam (F g) es):∀b∈q03 P f,lkey b=key->q06 P b (z1p es (loopBody P f key) A DL n0 Inv F m).g:=by
 refine qri hΓ hΛ n f key n0 A DL Inv _ m hu ?_;intro rd T B HL HB ds g hi K hK;have h1:(bT P Γ Λ n f none (loopBody P f key) A DL n0 ⟨n0,T,⟨N,HL,HB⟩,DL,B⟩ ds (ι g)).side:=by rw[hS none];exact hs g hi
 have h2:=Tr.side_holds d h1;rw[hF none,hι g hi]at h2;refine Tr.mono ?_ h2;rintro _ rfl;have hK0:=hK;have hx:qam (q07 F m g) es:=q1l hg (Q:=λ_ r=>qam r es) (λg _ hn=>(hes g).resolve_left hn) (λ_ _ _ _ _ _ _ ih=>ih) g hi;have hK:K (q07 F m g):=qe3 hx hK;unfold qye;split
 .rename_i he;obtain⟨k1,k2⟩:=hg g hi he;refine⟨k1,k2,?_⟩;show(qvd (q07 F m (F g).2) es).Holds K;rw[<-q9j hg hi (g':=(F g).2) (by rw[<-he])];exact hK0
 .rename_i he;rw[qbo (by intro h;exact he h)]at hK;exact hK
end
def Rv.fn1{α:Type}(f:Nat)(R:Rv α):Rv α where
 D:=dFn1 f R.D
 dec h s:=match s with
  | .fn f' [.p i 0]=>match Nat.beq f f' with
   |true=>match h.get i with
    | .cells [s'] _=>R.dec h s'
    |_=>none
   |false=>none
  |_=>none
 ok {M w0 ρ h w G} hv {s r ps x} hd hp hf:=by
  split at hd
  .rename_i f' i;split at hd
   .rename_i hb;split at hd
    .rename_i s' t hg;have e1:=q05 hb;subst e1;obtain⟨l,rfl,hl⟩:=hf;obtain⟨y,r',rfl,hy,hr⟩:=q04 hl;have:=q0b hr;subst this;obtain⟨_,rfl⟩:=hy;have hob:=hv.hm.ob i;have hown:=hv.hO i;rw[hg]at hob hown;obtain⟨_,hz,v,hv',hfv⟩:=hob;obtain⟨z,r'',rfl,hz',hr''⟩:=q04 hfv;have:=q0b hr'';subst this;refine⟨_,rfl,⟨(ρ i).blk,(ρ i).off+0,_,_,_,rfl,hown _ trivial hv',[z],⟨R.ok hv hd hp hz',trivial⟩,λj v hj=>?_⟩,trivial⟩;cases j with
     |zero=>simpa [hz]using hj
     |succ j=>simp at hj
    .cases hd
   .cases hd
  .cases hd
end
end Go.Sx

namespace Go.Sx
variable[Env]
section
variable{α:Type}(A:El α)
def El.ag(l:List α):List α:=A.lst l.length (A.els l)
def El.okL(l:List α):Prop:=∀e,e<l.length->A.Ok (A.els l e)
@[simp] theorem El.ag_eq (l:List α):A.ag l=l:=A.lst_els l
@[simp] theorem El.okL_eq (l:List α):A.okL l=True:=eq_true λe _=>A.ok_els l e
end
end Go.Sx

namespace Go.Sx
open Go.RowKit
variable[Env]
end Go.Sx

namespace Go.Sx
open Go.RowKit Go.ChangeShapes Go.WideShapes Go.ChangeAt Go.Deep
variable[Env]
theorem qfk(b o n:Nat):(⟨b,o,none⟩:Addr).add n=⟨b,o+n,none⟩:=by
 by_cases h:n=0
 .subst h;simp[Addr.add]
 .simp[Addr.add,h]
abbrev wh(w:World):Rh:=emp λb=>w.heap[b]?
def Rd{α:Type}(P:Program)(t:TypeId)(A:El α)(Q:α->Prop):Prop:=
 ∀(H:Type)(enc:TypeId×Value->H)(w:World)(base:Nat)(spare:Nat->Bool)(held:Bool)(fuel:Nat)(cs:List Value)(x:DataW H×List MemPlace),
  DataW.trod enc P w base spare held fuel t cs=some x->∃a,Q a/\SV.fits 0 (wh w) (A.cells a) cs
section
variable{H:Type}(enc:TypeId×Value->H)(P:Program)(w:World)(base:Nat)(spare:Nat->Bool)(held:Bool)(fuel:Nat)
def Cut:List TypeId->List Value->Prop
 | [],cs=>cs=[]
 |t::ts,cs=>(∃x,DataW.trod enc P w base spare held fuel t (cs.take (P.cellsOf t))=some x)/\Cut ts (cs.drop (P.cellsOf t))
def qq4:Nat->List (Nat×TypeId)->Nat->Bool
 |o,[],n=>Nat.beq o n
 |o,p::r,n=>Nat.beq p.1 o&&qq4 (o+P.cellsOf p.2) r n
theorem z5o(cs:List Value):∀(fs:List (Nat×TypeId))(o:Nat),qq4 P o fs cs.length=true->(∀p∈fs,∃x,DataW.trod enc P w base spare held fuel p.2 ((cs.drop p.1).take (P.cellsOf p.2))=some x)->Cut enc P w base spare held fuel (fs.map (·.2)) (cs.drop o)
 | [],o,hc,_=>by
  have:=q05 hc;show cs.drop o=[];exact List.drop_eq_nil_of_le (by omega)
 |p::r,o,hc,h=>by
  simp only[qq4,Bool.and_eq_true]at hc;have h0:=q05 hc.1;refine⟨?_,?_⟩
  .have:=h p (List.mem_cons_self ..)
   rwa [h0]at this
  .have:=z5o cs r (o+P.cellsOf p.2) hc.2 λq hq=>h q (List.mem_cons_of_mem _ hq)
   rwa [List.drop_drop]
end
def Rds{α:Type}(P:Program)(ts:List TypeId)(A:El α)(Q:α->Prop):Prop:=
 ∀(H:Type)(enc:TypeId×Value->H)(w:World)(base:Nat)(spare:Nat->Bool)(held:Bool)(fuel:Nat)(cs:List Value),
  Cut enc P w base spare held fuel ts cs->∃a,Q a/\SV.fits 0 (wh w) (A.cells a) cs
section
variable{P:Program}{t e:TypeId}{α β:Type}{A:El α}{B:El β}{Q:α->Prop}{Q':β->Prop}
theorem qcx(h:Rd P t A Q):Rds P [t] A Q:=λH enc w base spare held fuel cs hc=>by
 obtain⟨⟨x,hx⟩,hd⟩:=hc;have hd:cs.drop (P.cellsOf t)=[]:=hd;have h2:=List.take_append_drop (P.cellsOf t) cs;rw[hd,List.append_nil]at h2;rw[h2]at hx;exact h H enc w base spare held fuel cs x hx
theorem q2x{ts:List TypeId}(h:Rd P t A Q)(h':Rds P ts B Q'):Rds P (t::ts) (.pair A B) (λa=>Q a.1/\Q' a.2):=λH enc w base spare held fuel cs hc=>by
 obtain⟨⟨x,hx⟩,hd⟩:=hc;obtain⟨a,qa,fa⟩:=h H enc w base spare held fuel _ x hx;obtain⟨b,qb,fb⟩:=h' H enc w base spare held fuel _ hd;refine⟨(a,b),⟨qa,qb⟩,?_⟩;have:=q0q fa fb
 rwa [List.take_append_drop]at this
theorem qo6(h:Rd P t A Q)(f:α->β)(g:β->α)(hfg:∀b,f (g b)=b)(hgf:∀a,g (f a)=a):Rd P t (A.iso f g hfg hgf) (λb=>Q (g b)):=λH enc w base spare held fuel cs x hx=>by
 obtain⟨a,qa,fa⟩:=h H enc w base spare held fuel cs x hx;refine⟨f a,(show Q (g (f a)) by rwa [hgf]),?_⟩;show SV.fits 0 _ (A.cells (g (f a))) cs
 rwa [hgf]
theorem zf6{k:IntKind}(ht:P.underlying t=some (.int k)):Rd P t (eInt k) (λn=>(Lit.int k n).wf=true):=λH enc w base spare held fuel cs x hx=>by
 obtain⟨n,rfl,_,hw⟩:=DataW.trod_int ht hx;exact⟨n,hw,by simp[eInt,El.one',dInt,SV.fits,SV.fit]⟩
theorem q8i{fs:Array Field}{ts:List TypeId}(ht:P.underlying t=some (.struct fs))(hts:fs.toList.map (·.type)=ts)(hc:qq4 P 0 (fs.toList.map λf=>(f.offset,f.type)) (P.cellsOf t)=true)(h:Rds P ts A Q):Rd P t A Q:=λH enc w base spare held fuel cs x hx=>by
 obtain⟨xs,n,rfl,_,hl,hxl,hf⟩:=DataW.trod_struct ht hx;rw[<-hl]at hc
 have:=z5o enc P w base spare held n cs _ 0 hc λp hp=>by
  obtain⟨f,hfm,rfl⟩:=List.mem_map.1 hp;obtain⟨i,hi,rfl⟩:=List.getElem_of_mem hfm;have hi':i<fs.size:=by simpa using hi
  have:=hf i fs[i] (by simp[hi']);exact⟨xs[i]'(by omega),by simpa [hxl,hi']using this⟩
 rw[List.map_map,List.drop_zero]at this;refine h H enc w base spare held n cs ?_;rw[<-hts];exact this
theorem z9c{n:Nat}{ts:List TypeId}(ht:P.underlying t=some (.array n e))(hts:((List.range n).map λ_=>e)=ts)(hc:qq4 P 0 ((List.range n).map λi=>(i*P.cellsOf e,e)) (P.cellsOf t)=true)(h:Rds P ts A Q):Rd P t A Q:=λH enc w base spare held fuel cs x hx=>by
 obtain⟨xs,m,rfl,_,hl,hxl,hf⟩:=DataW.trod_array ht hx;rw[<-hl]at hc
 have:=z5o enc P w base spare held m cs _ 0 hc λp hp=>by
  obtain⟨i,hi,rfl⟩:=List.mem_map.1 hp;have hi':i<n:=by simpa using hi
  have:=hf i hi';exact⟨xs[i]'(by omega),by rw[this];simp[hxl,hi']⟩
 rw[List.map_map,List.drop_zero]at this;refine h H enc w base spare held m cs ?_;rw[<-hts];exact this
end
def RdV{α:Type}(P:Program)(t:TypeId)(D:Dv α)(Q:α->Prop):Prop:=
 ∀(H:Type)(enc:TypeId×Value->H)(w:World)(base:Nat)(spare:Nat->Bool)(held:Bool)(r:Reach)(b0:Nat)(v:Value)(d:DataW H)(ps:List MemPlace),
  Value.okWide P w r b0 t v->DataW.Trod enc P w base spare held t v d ps->∃a,Q a/\(D.enc a).fit 0 (wh w) v
section
variable{P:Program}{t e:TypeId}{α β:Type}{A:El α}{Q:α->Prop}
theorem zkp{k:IntKind}(ht:P.underlying t=some (.int k)):RdV P t (dInt k) (λn=>(Lit.int k n).wf=true):=λH enc w base spare held r b0 v d ps hv hx=>by
 obtain⟨n,rfl,_,_,hw⟩:=open_int ht hv hx;exact⟨n,hw,by simp[dInt,SV.fit]⟩
theorem zqn{fs:Array Field}(ht:P.underlying t=some (.struct fs))(h:Rd P t A Q):RdV P t (.agg A) Q:=λH enc w base spare held r b0 v d ps hv hx=>by
 obtain⟨cs,rfl,_⟩:=okWide_struct ht hv;obtain⟨fuel,hf⟩:=hx;obtain⟨a,qa,fa⟩:=h H enc w base spare held fuel _ _ hf;exact⟨a,qa,cs.toList,by simp,by simpa [Value.cells]using fa⟩
theorem qo5(ht:P.underlying t=some (.slice e))(hs:P.cellsOf e=A.sz)(hz:0<A.sz)(h:Rd P e A Q):RdV P t (.list A) (λxs=>∀a∈xs,Q a):=λH enc w base spare held r b0 v d ps hv hx=>by
 obtain⟨a0,len0,cap0,rfl⟩:=okWide_slice ht hv;obtain⟨fuel,hf⟩:=hx;rcases open_slice ht hf with ⟨hcs,_⟩|⟨a,len,cap,m,n,D,Pl,hcs,hb,hl,hm,hmm,_,hel⟩
 .simp[Value.cells]at hcs;obtain⟨rfl,rfl,rfl⟩:=hcs;exact⟨[],by simp,qnz _ _⟩
 .simp[Value.cells]at hcs;obtain⟨rfl,rfl,rfl⟩:=hcs;have hle:len0<=m:=by subst hmm;split<;>omega
  have key:∀i,i<len0->∃x:α,Q x/\∃cs',cs'.length=A.sz/\SV.fits 0 (wh w) (A.cells x) cs'/\∀j,j<A.sz->w.cell? ((a.add (i*A.sz)).add j)=cs'[j]?:=λi hi=>by
   obtain⟨cs',h1,h2⟩:=hel i (by omega);obtain⟨x,qx,fx⟩:=h H enc w base spare held n cs' _ h2;rw[hs]at h1;obtain⟨_,h3,h4⟩:=World.cells?_some h1;exact⟨x,qx,cs',h3,fx,h4⟩
  haveI:Inhabited α:=⟨A.dflt⟩
  obtain⟨f,hf⟩:=choose_lt (α:=α) (λi hi=>key i hi);refine⟨(List.range len0).map f,?_,?_⟩
  .intro x hx;obtain⟨i,hi,rfl⟩:=List.mem_map.1 hx;exact(hf i (by simpa using hi)).1
  .simp only[Dv.list,SV.fit];refine⟨some a,cap0,by simp,by simpa using hl,hm,λhpos=>?_⟩;have hpos:0<len0:=by simpa using hpos
   obtain⟨_,cs0,q1,q2,q3⟩:=hf 0 hpos;have q4:=q3 0 hz;obtain⟨b,o,spot⟩:=a;have hsome:∃v0,cs0[0]?=some v0:=⟨cs0[0]'(by omega),by simp⟩;obtain⟨v0,hv0⟩:=hsome;rw[hv0]at q4;have hspot:spot=none:=by simpa [Addr.add]using World.cell?_spot q4
   subst hspot
   have hblk:∃cs t fz,w.heap[b]?=some (.cells cs t fz):=by
    simp only[qfk,World.cell?]at q4;split at q4
    .rename_i c _ _ hh;exact⟨_,_,_,hh⟩
    .cases q4
   obtain⟨cs,t',fz,hh⟩:=hblk;refine⟨b,o,cs,t',fz,rfl,hh,λi hi=>?_⟩;have hi:i<len0:=by simpa using hi
   obtain⟨_,cs',k1,k2,k3⟩:=hf i hi;refine⟨cs',k1,?_,λj v hjv=>?_⟩
   .simpa [El.els,List.getD_eq_getElem?_getD,hi]using k2
   .have hj:j<A.sz:=by
     have:=(List.getElem?_eq_some_iff.1 hjv).1;omega
    have:=k3 j hj;rw[hjv]at this;simp only[qfk,World.cell?,hh]at this;simpa using this
end
end Go.Sx

namespace Go.Sx
open Go.RowKit Go.ChangeShapes Go.WideShapes Go.ChangeAt Go.Deep
variable[Env]
section
variable{P:Program}{t e:TypeId}{α:Type}{A:El α}{Q:α->Prop}
theorem qtv(ht:P.underlying t=some (.slice e))(hs:P.cellsOf e=A.sz)(hz:0<A.sz)(h:Rd P e A Q):Rd P t (zob A) (λxs=>∀a∈xs,Q a):=λH enc w base spare held fuel cs0 x hf=>by
 rcases open_slice ht hf with ⟨rfl,_⟩|⟨a,len0,cap0,m,n,D,Pl,rfl,hb,hl,hm,hmm,_,hel⟩
 .exact⟨[],by simp,qnz _ _,trivial⟩
 .have hcap:True:=trivial;have hle:len0<=m:=by subst hmm;split<;>omega
  have key:∀i,i<len0->∃x:α,Q x/\∃cs',cs'.length=A.sz/\SV.fits 0 (wh w) (A.cells x) cs'/\∀j,j<A.sz->w.cell? ((a.add (i*A.sz)).add j)=cs'[j]?:=λi hi=>by
   obtain⟨cs',h1,h2⟩:=hel i (by omega);obtain⟨x,qx,fx⟩:=h H enc w base spare held n cs' _ h2;rw[hs]at h1;obtain⟨_,h3,h4⟩:=World.cells?_some h1;exact⟨x,qx,cs',h3,fx,h4⟩
  haveI:Inhabited α:=⟨A.dflt⟩
  obtain⟨f,hf⟩:=choose_lt (α:=α) (λi hi=>key i hi);refine⟨(List.range len0).map f,?_,?_⟩
  .intro x hx;obtain⟨i,hi,rfl⟩:=List.mem_map.1 hx;exact(hf i (by simpa using hi)).1
  .refine⟨?_,trivial⟩;show((Dv.list A).enc ((List.range len0).map f)).fit 0 (wh w) _;simp only[Dv.list,SV.fit];refine⟨some a,cap0,by simp,by simpa using hl,hm,λhpos=>?_⟩;have hpos:0<len0:=by simpa using hpos
   obtain⟨_,cs0,q1,q2,q3⟩:=hf 0 hpos;have q4:=q3 0 hz;obtain⟨b,o,spot⟩:=a;have hsome:∃v0,cs0[0]?=some v0:=⟨cs0[0]'(by omega),by simp⟩;obtain⟨v0,hv0⟩:=hsome;rw[hv0]at q4;have hspot:spot=none:=by simpa [Addr.add]using World.cell?_spot q4
   subst hspot
   have hblk:∃cs t fz,w.heap[b]?=some (.cells cs t fz):=by
    simp only[qfk,World.cell?]at q4;split at q4
    .rename_i c _ _ hh;exact⟨_,_,_,hh⟩
    .cases q4
   obtain⟨cs,t',fz,hh⟩:=hblk;refine⟨b,o,cs,t',fz,rfl,hh,λi hi=>?_⟩;have hi:i<len0:=by simpa using hi
   obtain⟨_,cs',k1,k2,k3⟩:=hf i hi;refine⟨cs',k1,?_,λj v hjv=>?_⟩
   .simpa [El.els,List.getD_eq_getElem?_getD,hi]using k2
   .have hj:j<A.sz:=by
     have:=(List.getElem?_eq_some_iff.1 hjv).1;omega
    have:=k3 j hj;rw[hjv]at this;simp only[qfk,World.cell?,hh]at this;simpa using this
end
end Go.Sx

namespace Go.Lp
open Go.Sx Go.Sort
variable[Env]
section
variable{α:Type}[DecidableEq α]{cf:α->α->Int}{le:α->α->Bool}
structure PO(cf:α->α->Int)(le:α->α->Bool):Prop where
 trans:∀x y z,le x y=true->le y z=true->le x z=true
 anti:∀x y,le x y=true->le y x=true->x=y
 ext:∀x y,le x y=true->x≠y->cf x y<0
end
end Go.Lp

namespace Go.Lp
open Go.Sx
variable[Env]
section
variable{α β:Type}
theorem search'{x:Nat}{st:β->Int->α->Ex×β}{p:α->Bool}{r:Int->α->β->β}(h:∀b i a,st b i a=bif p a then(.ret,r i a b)else(.normal,b)):∀(l:List α)(i:Int)(b:β),
  (l.any p=true/\∃j,i<=j/\∃a,a∈l/\p a=true/\scan x st i l b=(.ret,j,r j a b))\/(l.any p=false/\scan x st i l b=(.exit x,i+(l.length:Int),b))
 | [],i,b=>.inr ⟨rfl,by simp[scan]⟩
 |a::l,i,b=>by
  simp only[scan,h];cases hp:p a with
  |true=>exact .inl ⟨by simp[hp],i,Int.le_refl _,a,List.mem_cons_self ..,hp,rfl⟩
  |false=>
   simp only[cond_false];rcases search' h l (i+1) b with ⟨h1,j,hj,a',h2,h3,h4⟩|⟨h1,h2⟩
   .exact .inl ⟨by simp[h1],j,by omega,a',List.mem_cons_of_mem _ h2,h3,h4⟩
   .refine .inr ⟨by simp[hp,h1],?_⟩;rw[h2];simp;omega
theorem search{x:Nat}{st:β->Int->α->Ex×β}{p:α->Bool}{r:Int->α->β->β}(h:∀b i a,st b i a=bif p a then(.ret,r i a b)else(.normal,b))(l:List α)(b:β):
  (l.any p=true/\∃j,0<=j/\∃a,a∈l/\p a=true/\scan x st 0 l b=(.ret,j,r j a b))\/(l.any p=false/\scan x st 0 l b=(.exit x,(l.length:Int),b)):=by
 have:=search' (x:=x) h l 0 b
 rwa [Int.zero_add]at this
theorem zfm{α β:Type}{a:List α}{b:List β}(h:((a.length:Int)!=(b.length:Int))=false):a.length=b.length:=by
 have:(a.length:Int)=(b.length:Int):=by simpa using h
 omega
end
end Go.Lp

namespace Go.Lp
open Go.Sx
variable[Env]
section
variable{α κ β:Type}[DecidableEq κ](key:α->κ)(num:α->Int)(add:β->Int->β)(z:β)(d:MpE κ β)
def qef(m:List (MpE κ β)×Nat)(x:α):List (MpE κ β)×Nat:=
 if m.1.findIdx (λe=>decide (key x=e.1))<m.1.length then(m.1.set (m.1.findIdx λe=>decide (key x=e.1)) (key x,add (m.1.getD (m.1.findIdx λe=>decide (key x=e.1)) d).2.1 (num x),(m.1.getD (m.1.findIdx λe=>decide (key x=e.1)) d).2.2),m.2)
 else(m.1++[(key x,add z (num x),(m.2:Int))],m.2+1)
def accK(xs:List α)(k:κ):β:=(xs.filter λx=>decide (key x=k)).foldl (λb x=>add b (num x)) z
def MapOf(xs:List α)(m:List (MpE κ β)×Nat):Prop:=Bn m.1 m.2/\Kd m.1/\(∀k,(∃e∈m.1,e.1=k)↔∃x∈xs,key x=k)/\∀e∈m.1,e.2.1=accK key num add z xs e.1
theorem q9a(xs:List α)(x:α)(k:κ):accK key num add z (xs++[x]) k=if key x=k then add (accK key num add z xs k) (num x)else accK key num add z xs k:=by
 unfold accK;rw[List.filter_append];by_cases h:key x=k
 .rw[if_pos h];simp[h]
 .rw[if_neg h];simp[h]
theorem qqg{xs:List α}{k:κ}(h:¬∃x∈xs,key x=k):accK key num add z xs k=z:=by
 unfold accK;rw[List.filter_eq_nil_iff.2 λx hx=>by simpa usingλe=>h ⟨x,hx,e⟩];rfl
theorem qlw{xs:List α}{m:List (MpE κ β)×Nat}(h:MapOf key num add z xs m)(x:α):MapOf key num add z (xs++[x]) (qef key num add z d m x):=by
 obtain⟨hb,hk,h1,h2⟩:=h;unfold qef;by_cases hi:m.1.findIdx (λe=>decide (key x=e.1))<m.1.length
 .rw[if_pos hi];have hx:=List.findIdx_getElem (w:=hi);generalize m.1.findIdx (λe=>decide (key x=e.1))=i at hi hx;have hx:key x=m.1[i].1:=by simpa using hx
  have hg:m.1.getD i d=m.1[i]:=by simp[List.getD_eq_getElem?_getD,hi]
  rw[hg]
  have hm:(m.1.set i (key x,add m.1[i].2.1 (num x),m.1[i].2.2)).map (λe=>(e.1,e.2.2))=m.1.map λe=>(e.1,e.2.2):=by
   rw[List.map_set,hx];apply List.ext_getElem
   .simp
   .intro j a b;by_cases hj:i=j
    .subst hj;simp
    .simp[List.getElem_set,hj]
  have hmem:∀e,e∈m.1.set i (key x,add m.1[i].2.1 (num x),m.1[i].2.2)->∃e'∈m.1,e'.1=e.1/\e'.2.2=e.2.2:=λe he=>by
   have:(e.1,e.2.2)∈(m.1.set i (key x,add m.1[i].2.1 (num x),m.1[i].2.2)).map λe=>(e.1,e.2.2):=List.mem_map.2 ⟨e,he,rfl⟩;rw[hm]at this;obtain⟨e',h3,h4⟩:=List.mem_map.1 this;simp only[Prod.mk.injEq]at h4;exact⟨e',h3,h4.1,h4.2⟩
  refine⟨⟨?_,λe he=>?_⟩,?_,λk=>?_,λe he=>?_⟩
  .have:=hb.1;have h3:=(List.pairwise_map (f:=λe:MpE κ β=>(e.1,e.2.2)) (R:=λa b=>a.2<b.2)).2 this;rw[<-hm]at h3;exact(List.pairwise_map (f:=λe:MpE κ β=>(e.1,e.2.2)) (R:=λa b=>a.2<b.2)).1 h3
  .obtain⟨e',h3,_,h4⟩:=hmem e he;rw[<-h4];exact hb.2 e' h3
  .have h3:=(List.pairwise_map (f:=λe:MpE κ β=>(e.1,e.2.2)) (R:=λa b=>a.1≠b.1)).2 hk;rw[<-hm]at h3;exact(List.pairwise_map (f:=λe:MpE κ β=>(e.1,e.2.2)) (R:=λa b=>a.1≠b.1)).1 h3
  .constructor
   .rintro⟨e,he,rfl⟩;obtain⟨e',h3,h4,_⟩:=hmem e he;obtain⟨y,hy,hy'⟩:=(h1 e.1).1 ⟨e',h3,h4⟩;exact⟨y,List.mem_append_left _ hy,hy'⟩
   .rintro⟨y,hy,rfl⟩
    have:∃e∈m.1,e.1=key y:=by
     rcases List.mem_append.1 hy with hy|hy
     .exact(h1 _).2 ⟨y,hy,rfl⟩
     .rw[List.mem_singleton.1 hy,hx];exact⟨m.1[i],List.getElem_mem hi,rfl⟩
    obtain⟨e,he,he'⟩:=this;have h3:(e.1,e.2.2)∈m.1.map λe=>(e.1,e.2.2):=List.mem_map.2 ⟨e,he,rfl⟩;rw[<-hm]at h3;obtain⟨e2,h4,h5⟩:=List.mem_map.1 h3;simp only[Prod.mk.injEq]at h5;exact⟨e2,h4,by rw[h5.1];exact he'⟩
  .obtain⟨j,hj,rfl⟩:=List.getElem_of_mem he;rw[List.length_set]at hj;rw[List.getElem_set];by_cases hij:i=j
   .rw[if_pos hij];subst hij;simp only;rw[q9a,if_pos rfl,hx,h2 _ (List.getElem_mem hi)]
   .rw[if_neg hij,q9a,h2 _ (List.getElem_mem hj)];rw[if_neg];intro h3;have hp:=List.pairwise_iff_getElem.1 hk;have h3:=hx.symm.trans h3;rcases Nat.lt_or_gt_of_ne hij with h4|h4
    .exact hp i j hi hj h4 h3
    .exact hp j i hj hi h4 h3.symm
 .rw[if_neg hi]
  have hno:∀e∈m.1,key x≠e.1:=λe he h3=>by
   apply hi;have:=List.findIdx_lt_length_of_exists (p:=λe:MpE κ β=>decide (key x=e.1)) ⟨e,he,by simpa using h3⟩;exact this
  have hxs:¬∃y∈xs,key y=key x:=λh3=>by
   obtain⟨e,he,h4⟩:=(h1 _).2 h3;exact hno e he h4.symm
  refine⟨⟨?_,λe he=>?_⟩,?_,λk=>?_,λe he=>?_⟩
  .rw[List.pairwise_append];refine⟨hb.1,List.pairwise_singleton ..,λa ha b hb'=>?_⟩;rw[List.mem_singleton.1 hb'];exact hb.2 a ha
  .rcases List.mem_append.1 he with he|he
   .have:=hb.2 e he;show e.2.2<((m.2+1:Nat):Int);omega
   .rw[List.mem_singleton.1 he];show(m.2:Int)<((m.2+1:Nat):Int);omega
  .show(m.1++_).Pairwise _;rw[List.pairwise_append];refine⟨hk,List.pairwise_singleton ..,λa ha b hb'=>?_⟩;rw[List.mem_singleton.1 hb'];exactλh3=>hno a ha h3.symm
  .constructor
   .rintro⟨e,he,rfl⟩;rcases List.mem_append.1 he with he|he
    .obtain⟨y,hy,hy'⟩:=(h1 _).1 ⟨e,he,rfl⟩;exact⟨y,List.mem_append_left _ hy,hy'⟩
    .rw[List.mem_singleton.1 he];exact⟨x,List.mem_append_right _ (List.mem_singleton.2 rfl),rfl⟩
   .rintro⟨y,hy,rfl⟩;rcases List.mem_append.1 hy with hy|hy
    .obtain⟨e,he,he'⟩:=(h1 _).2 ⟨y,hy,rfl⟩;exact⟨e,List.mem_append_left _ he,he'⟩
    .rw[List.mem_singleton.1 hy];exact⟨_,List.mem_append_right _ (List.mem_singleton.2 rfl),rfl⟩
  .rcases List.mem_append.1 he with he|he
   .rw[q9a,if_neg (hno e he),h2 e he]
   .rw[List.mem_singleton.1 he];simp only;rw[q9a,if_pos rfl,qqg key num add z hxs]
theorem z1k:MapOf key num add z ([]:List α) (([],0):List (MpE κ β)×Nat):=⟨⟨List.Pairwise.nil,λx hx=>by cases hx⟩,List.Pairwise.nil,λk=>by simp,λe he=>by cases he⟩
theorem qge:∀(ys xs:List α)(m:List (MpE κ β)×Nat),MapOf key num add z xs m->MapOf key num add z (xs++ys) (ys.foldl (qef key num add z d) m)
 | [],xs,m,h=>by simpa using h
 |y::ys,xs,m,h=>by
  have:=qge ys (xs++[y]) _ (qlw key num add z d h y);simpa using this
theorem z1l(xs:List α):MapOf key num add z xs (xs.foldl (qef key num add z d) ([],0)):=by
 have:=qge key num add z d xs [] _ (z1k key num add z);simpa using this
theorem za6(m:List (MpE κ β)×Nat)(x:α):(qef key num add z d m x).1.length<=m.1.length+1:=by
 unfold qef;split<;>simp
theorem z1i:∀(xs:List α)(m:List (MpE κ β)×Nat),(xs.foldl (qef key num add z d) m).1.length<=m.1.length+xs.length
 | [],m=>Nat.le_refl _
 |x::xs,m=>by
  have h1:=z1i xs (qef key num add z d m x);have h2:=za6 key num add z d m x;rw[List.foldl_cons,List.length_cons];omega
end
section
variable{α κ:Type}[DecidableEq κ](key:α->κ)(num:α->Int)
def sumK:List α->κ->Int
 | [],_=>0
 |x::l,k=>(if key x=k then num x else 0)+sumK l k
theorem qfs:∀(a b:List α)(k:κ),sumK key num (a++b) k=sumK key num a k+sumK key num b k
 | [],b,k=>by simp[sumK]
 |x::a,b,k=>by
  simp only[List.cons_append,sumK];rw[qfs a b k];omega
theorem qav{xs:List α}{k:κ}(h:∀x∈xs,key x≠k):sumK key num xs k=0:=by
 induction xs with
 |nil=>rfl
 |cons x xs ih=>
  simp only[sumK];rw[if_neg (h x (List.mem_cons_self ..)),ih λy hy=>h y (List.mem_cons_of_mem _ hy)];rfl
theorem q3n{xs:List α}(hd:xs.Pairwise λa b=>key a≠key b){x:α}(hx:x∈xs):sumK key num xs (key x)=num x:=by
 induction xs with
 |nil=>cases hx
 |cons y xs ih=>
  rw[List.pairwise_cons]at hd;simp only[sumK];rcases List.mem_cons.1 hx with rfl|hx
  .rw[if_pos rfl,qav key num λz hz=>(hd.1 z hz).symm];simp
  .rw[if_neg (hd.1 x hx),ih hd.2 hx];simp
variable(mk:κ->Int->α)(cf:κ->κ->Int)
def putK(x:α):List α->List α
 | []=>[x]
 |y::r=>if cf (key x) (key y)<0 then x::y::r else if key x=key y then mk (key x) (num y+num x)::r else y::putK x r
def totK(xs:List α):List α:=xs.foldl (λa x=>putK key num mk cf x a) []
def Srt(l:List α):Prop:=l.Pairwise λa b=>cf (key a) (key b)<0
theorem q58(h:TO cf)(he:∀a b:α,key a=key b->num a=num b->a=b):∀{l m:List α},Srt key cf l->Srt key cf m->(∀x,x∈l↔x∈m)->l=m
 | [],[],_,_,_=>rfl
 | [],y::m,_,_,he=>by have:=(he y).2 (List.mem_cons_self ..);cases this
 |x::l,[],_,_,he=>by have:=(he x).1 (List.mem_cons_self ..);cases this
 |x::l,y::m,h1,h2,hm=>by
  unfold Srt at h1 h2;rw[List.pairwise_cons]at h1 h2
  have hxy:x=y:=by
   have a:=(hm x).1 (List.mem_cons_self ..);have b:=(hm y).2 (List.mem_cons_self ..);rcases List.mem_cons.1 a with e|a
   .exact e
   .rcases List.mem_cons.1 b with e|b
    .exact e.symm
    .exact absurd (h1.1 y b) (h.asymm (h2.1 x a))
  subst hxy;congr 1;refine q58 h he h1.2 h2.2 λz=>?_;have:=hm z;simp only[List.mem_cons]at this;constructor
  .intro hz;rcases this.1 (.inr hz)with e|h3
   .subst e;exact absurd (h1.1 z hz) (h.irrefl _)
   .exact h3
  .intro hz;rcases this.2 (.inr hz)with e|h3
   .subst e;exact absurd (h2.1 z hz) (h.irrefl _)
   .exact h3
variable{mk}{cf}
theorem qlo(h:TO cf)(hk:∀k n,key (mk k n)=k)(x:α):∀{l:List α}{k:κ},(∃y∈putK key num mk cf x l,key y=k)↔key x=k\/∃y∈l,key y=k
 | [],k=>by simp[putK]
 |y::r,k=>by
  simp only[putK];split
  .simp
  .split
   .rename_i he;simp only[List.mem_cons,exists_eq_or_imp,hk];rw[he];constructor
    .rintro(h|h)
     .exact .inl h
     .exact .inr (.inr h)
    .rintro(h|h|h)
     .exact .inl h
     .exact .inl h
     .exact .inr h
   .have:=qlo h hk x (l:=r) (k:=k);simp only[List.mem_cons,exists_eq_or_imp];rw[this];constructor
    .rintro(h|h|h)
     .exact .inr (.inl h)
     .exact .inl h
     .exact .inr (.inr h)
    .rintro(h|h|h)
     .exact .inr (.inl h)
     .exact .inl h
     .exact .inr (.inr h)
theorem qu0(h:TO cf)(hk:∀k n,key (mk k n)=k)(x:α):∀{l:List α},Srt key cf l->Srt key cf (putK key num mk cf x l)
 | [],_=>by simp[putK,Srt]
 |y::r,hs=>by
  have hs':=hs;unfold Srt at hs';rw[List.pairwise_cons]at hs';simp only[putK];split
  .rename_i hl;refine List.pairwise_cons.2 ⟨λz hz=>?_,hs⟩;rcases List.mem_cons.1 hz with rfl|hz
   .exact hl
   .exact h.trans hl (hs'.1 z hz)
  .split
   .rename_i he;refine List.pairwise_cons.2 ⟨λz hz=>?_,hs'.2⟩;rw[hk,he];exact hs'.1 z hz
   .rename_i hl he;refine List.pairwise_cons.2 ⟨λz hz=>?_,qu0 h hk x hs'.2⟩;rcases(qlo key num h hk x (k:=key z)).1 ⟨z,hz,rfl⟩with e|⟨z',hz',e⟩
    .rw[<-e];exact h.lt_or he hl
    .rw[<-e];exact hs'.1 z' hz'
theorem qtz(h:TO cf)(hk:∀k n,key (mk k n)=k)(hn:∀k n,num (mk k n)=n)(x:α)(k:κ):∀{l:List α},sumK key num (putK key num mk cf x l) k=sumK key num l k+if key x=k then num x else 0
 | []=>by simp[putK,sumK]
 |y::r=>by
  simp only[putK];split
  .simp only[sumK];omega
  .split
   .rename_i he;simp only[sumK,hk,hn,he];split<;>omega
   .simp only[sumK];rw[qtz h hk hn x k (l:=r)];omega
theorem qaq(h:TO cf)(hk:∀k n,key (mk k n)=k)(hn:∀k n,num (mk k n)=n):∀(xs a:List α),Srt key cf a->Srt key cf (xs.foldl (λa x=>putK key num mk cf x a) a)/\(∀k,(∃y∈xs.foldl (λa x=>putK key num mk cf x a) a,key y=k)↔(∃y∈a,key y=k)\/∃x∈xs,key x=k)/\∀k,sumK key num (xs.foldl (λa x=>putK key num mk cf x a) a) k=sumK key num a k+sumK key num xs k
 | [],a,ha=>⟨ha,λk=>by simp,λk=>by simp[sumK]⟩
 |x::xs,a,ha=>by
  obtain⟨h1,h2,h3⟩:=qaq h hk hn xs (putK key num mk cf x a) (qu0 key num h hk x ha);refine⟨h1,λk=>?_,λk=>?_⟩
  .rw[List.foldl_cons,h2 k,qlo key num h hk x];simp only[List.mem_cons,exists_eq_or_imp];constructor
   .rintro((h|h)|h)
    .exact .inr (.inl h)
    .exact .inl h
    .exact .inr (.inr h)
   .rintro(h|h|h)
    .exact .inl (.inr h)
    .exact .inl (.inl h)
    .exact .inr h
  .rw[List.foldl_cons,h3 k,qtz key num h hk hn];simp only[sumK];omega
theorem qim(h:TO cf){l:List α}(hs:Srt key cf l):l.Pairwise λa b=>key a≠key b:=hs.imp λ{a b}hl he=>by rw[he]at hl;exact h.irrefl _ hl
theorem z7i(h:TO cf)(hk:∀k n,key (mk k n)=k)(hn:∀k n,num (mk k n)=n)(xs:List α):Srt key cf (totK key num mk cf xs):=(qaq key num h hk hn xs [] List.Pairwise.nil).1
theorem z7j(h:TO cf)(hk:∀k n,key (mk k n)=k)(hn:∀k n,num (mk k n)=n)(he:∀a b:α,key a=key b->num a=num b->a=b)(xs:List α)(y:α):y∈totK key num mk cf xs↔(∃x∈xs,key x=key y)/\num y=sumK key num xs (key y):=by
 obtain⟨h1,h2,h3⟩:=qaq key num h hk hn xs [] List.Pairwise.nil
 have h3':∀k,sumK key num (totK key num mk cf xs) k=sumK key num xs k:=λk=>by
  have:=h3 k;simpa [sumK,totK]using this
 have h2':∀k,(∃y∈totK key num mk cf xs,key y=k)↔∃x∈xs,key x=k:=λk=>by
  have:=h2 k;simpa [totK]using this
 have hd:=qim key h h1;constructor
 .intro hy;refine⟨(h2' _).1 ⟨y,hy,rfl⟩,?_⟩;rw[<-h3'];exact(q3n key num hd hy).symm
 .rintro⟨h4,h5⟩;obtain⟨y',hy',e⟩:=(h2' _).2 h4;have h6:=q3n key num hd hy';rw[e]at h6;have h7:y'=y:=he _ _ e (by rw[h5,<-h3',<-h6];rfl);rw[<-h7];exact hy'
end
end Go.Lp

namespace Go.Sx
open Go.RowKit
variable[Env]
def isFn(k:Nat):List SV->Bool
 | [_,.fn f _]=>Nat.beq f k
 |_=>false
def z0l(k:Nat)(c1 c2:PCon):PCon:=⟨λargs h=>bif isFn k args then c1.g args h else c2.g args h,λargs h=>by
 cases isFn k args with
 |true=>exact c1.e args h
 |false=>exact c2.e args h,λargs ha=>q5m (c1.i args ha) (c2.i args ha)⟩
theorem zx7{P:Program}{f k:Nat}{c1 c2:PCon}(h1:FnOk P f c1.g)(h2:FnOk P f c2.g):FnOk P f (z0l k c1 c2).g:=by
 intro M w0 w ρ h args vs K hK hm hf;have hK:(bif isFn k args then c1.g args h else c2.g args h).Holds K:=hK;cases hc:isFn k args with
 |true=>rw[hc]at hK;exact h1 M w0 w ρ h args vs K hK hm hf
 |false=>rw[hc]at hK;exact h2 M w0 w ρ h args vs K hK hm hf
end Go.Sx

namespace Go.Lp
open Go.Sx
variable[Env]
section
variable{α γ δ:Type}{F:List Nat->γ->Ex×γ}{m:γ->Nat}{Inv:γ->Prop}
def q5t:Nat->List Nat->List α->List α
 |0,_,_=>[]
 |n+1,cs,l=>match l[(hdC (hdC cs)).headD 0%l.length]? with
  |some e=>e::q5t n (tlC cs) (l.eraseIdx ((hdC (hdC cs)).headD 0%l.length))
  |none=>[]
theorem qj8:∀(n:Nat)(cs:List Nat)(l:List α),l.length=n->(q5t n cs l).Perm l
 |0,cs,l,h=>by rw[List.length_eq_zero_iff.1 h];exact List.Perm.refl _
 |n+1,cs,l,h=>by
  have hlt:(hdC (hdC cs)).headD 0%l.length<l.length:=Nat.mod_lt _ (by omega);simp only[q5t,List.getElem?_eq_getElem hlt];refine((qj8 n (tlC cs) _ ?_).cons _).trans ?_
  .rw[List.length_eraseIdx_of_lt hlt];omega
  .rw[List.eraseIdx_eq_take_drop_succ];refine List.perm_middle.symm.trans (List.Perm.of_eq ?_);rw[List.getElem_cons_drop,List.take_append_drop]
theorem qj9{l:List α}{n:Nat}{cs:List Nat}{e:α}(hn:l.length=n+1)(hk:l[(hdC (hdC cs)).headD 0%l.length]?=some e):q5t l.length cs l=e::q5t n (tlC cs) (l.eraseIdx ((hdC (hdC cs)).headD 0%l.length)):=by
 have:q5t (n+1) cs l=e::q5t n (tlC cs) (l.eraseIdx ((hdC (hdC cs)).headD 0%l.length)):=by
  simp only[q5t,hk]
 rw[<-this,hn]
def qac(x:Nat)(st:α->δ->Ex×δ):List α->δ->Ex×δ
 | [],b=>(.exit x,b)
 |e::l,b=>match st e b with
  |(.normal,b')=>qac x st l b'
  |r=>r
theorem za7{x:Nat}{st:α->δ->Ex×δ}(rem:γ->List α)(bo:γ->δ)(up:γ->List α->δ->γ)(h1:∀g a b,rem (up g a b)=a)(h2:∀g a b,bo (up g a b)=b)(h3:∀g a b c d,up (up g a b) c d=up g c d)(h4:∀g,up g (rem g) (bo g)=g)(hm:∀g,m g=(rem g).length)
  (hI:∀g(i:Nat)e,Inv g->(rem g)[i]?=some e->(st e (bo g)).1=.normal->Inv (up g ((rem g).eraseIdx i) (st e (bo g)).2))
  (hF:∀cs g,Inv g->((rem g).length=0/\F cs g=(.exit x,g))\/∃e,(rem g)[(hdC cs).headD 0%(rem g).length]?=some e/\F cs g=((st e (bo g)).1,up g ((rem g).eraseIdx ((hdC cs).headD 0%(rem g).length)) (st e (bo g)).2)) :
  qdq F m Inv/\∀cs g,Inv g->∃s,q3s F m cs g=((qac x st (q5t (rem g).length cs (rem g)) (bo g)).1,up g s (qac x st (q5t (rem g).length cs (rem g)) (bo g)).2):=by
 have hg:qdq F m Inv:=λg cs hi hn=>by
  rcases hF cs g hi with ⟨_,e⟩|⟨e,hk,he⟩
  .rw[e]at hn;cases hn
  .rw[he]at hn ⊢;refine⟨hI g _ e hi hk hn,?_⟩;simp only;have:=(List.getElem?_eq_some_iff.1 hk).1;rw[hm,hm,h1,List.length_eraseIdx_of_lt this];omega
 refine⟨hg,q73 hg (Q:=λcs g r=>∃s,r=((qac x st (q5t (rem g).length cs (rem g)) (bo g)).1,up g s (qac x st (q5t (rem g).length cs (rem g)) (bo g)).2)) (λg cs hi hn=>?_) λg g' cs r hi he hi' _ hq=>?_⟩
 .rcases hF (hdC cs) g hi with ⟨h0,e⟩|⟨e,hk,he⟩
  .refine⟨rem g,?_⟩;rw[h0];simp only[q5t,qac];rw[h4,e]
  .rw[he]at hn ⊢;refine⟨(rem g).eraseIdx ((hdC (hdC cs)).headD 0%(rem g).length),?_⟩;have hlt:=(List.getElem?_eq_some_iff.1 hk).1;obtain⟨n,hn'⟩:∃n,(rem g).length=n+1:=⟨(rem g).length-1,by omega⟩;rw[qj9 hn' hk];simp only[qac];generalize st e (bo g)=r at hn;obtain⟨ex,b'⟩:=r;cases ex with
   |normal=>exact absurd rfl hn
   |_=>rfl
 .obtain⟨s,hs⟩:=hq;rcases hF (hdC cs) g hi with ⟨h0,e⟩|⟨e,hk,he2⟩
  .rw[he]at e;cases e
  .have hlt:=(List.getElem?_eq_some_iff.1 hk).1;obtain⟨n,hn'⟩:∃n,(rem g).length=n+1:=⟨(rem g).length-1,by omega⟩;rw[he]at he2;simp only[Prod.mk.injEq]at he2;obtain⟨k1,k2⟩:=he2;have hst:st e (bo g)=(.normal,(st e (bo g)).2):=by rw[k1]
   have hl:rem g'=(rem g).eraseIdx ((hdC (hdC cs)).headD 0%(rem g).length):=by rw[k2,h1]
   have hln:(rem g').length=n:=by rw[hl,List.length_eraseIdx_of_lt hlt];omega
   refine⟨s,?_⟩;rw[hs,qj9 hn' hk,hln,hl];have hbo:bo g'=(st e (bo g)).2:=by rw[k2,h2]
   have hup:∀c d,up g' c d=up g c d:=λc d=>by rw[k2,h3]
   simp only[qac];rw[hst,hbo,hup]
end
theorem qbv{f:Nat->Bool}:∀(k e q:Nat),e<=q->q<e+k->(∀i,e<=i->i<q->f i=false)->f q=true->q2h f k e=q
 |0,e,q,h1,h2,_,_=>by omega
 |k+1,e,q,h1,h2,h3,h4=>by
  unfold q2h;by_cases he:e=q
  .subst he;rw[h4];rfl
  .rw[h3 e (Nat.le_refl _) (by omega)];exact qbv k (e+1) q (by omega) (by omega) (λi hi hq=>h3 i (by omega) hq) h4
end Go.Lp

namespace Go.Sx
open Go.RowKit
variable[Env]
section
variable{α γ:Type}
def memR(F:Nat->Option Obj)(w w':World)(L:Lc):Nat->Option Obj:=λb=>if L.nl=false/\b=L.blk then none else q2e F w w' b
def qie(P:Program)(f:Nat)(t:TypeId)(A:El α)(D:DA γ)(fn:γ->List α)(pre:γ->List Prop):Prop:=
 ∀(w:World)(F:Nat->Option Obj)(g:γ)(vs:List Value),(∀b o,F b=some o->w.heap[b]?=some o)->Env.E F->(∀p∈pre g,p)->SV.fits 0 (emp F) (D.enc g) vs->
  Calls P f vs.toArray w λe w'=>∃x L,e=.returned x/\Below w.heap.size w w'/\OwV L (fn g).length x/\(L.nl=false->w.heap.size<=L.blk)/\(rowA A t (fn g)).fit 0 (emp (memR F w w' L)) L w'.heap[L.blk]?
def qqj(P:Program)(Γ:Gam)(Λ:Lam)(n f:Nat)(t:TypeId)(A:El α)(args:List SV):Tr (List α):=
 (qk0 P Γ Λ n f args ⟨0,[],[]⟩).bind λy=>match y.1 with
  | .ow i l=>match y.2.get i with
   | .row t' sz el m=>match Nat.beq t' t&&Nat.beq sz A.sz with
    |true=>asks ((l=m)::A.okE m el) (.ret (A.lstE m el))
    |false=>.bad 690
   |_=>.bad 691
  | .k x=>match nilK x with
   |true=>.ret []
   |false=>.bad 692
  |_=>.bad 693
variable{P:Program}{Γ:Gam}{Λ:Lam}{f t:Nat}{A:El α}{D:DA γ}{fn:γ->List α}{pre:γ->List Prop}
theorem q5d(hΓ:∀f g,Γ.g f=some g->FnOk P f g)(hΛ:∀f k L,Λ f k=some L->∀b∈q03 P f,lkey b=k->q06 P b L.g)(n:Nat)
  (hT:∀g,D.bd g->(∀p∈pre g,p)->(qqj P Γ Λ n f t A (D.enc g)).Holds (·=fn g)):qie P f t A D fn pre:=by
 intro w F g vs hF hE hpre hfit;have hbd:=D.fb _ _ _ _ hfit;have hT:=hT g hbd hpre;have h0:=q8s hΓ hΛ n (λ_=>False) w w (emp F) ⟨0,[],[]⟩ _ vs _ (Tr.holds_bind hT) (HM.start w (emp F) hF (λ_ _ h=>h) hE) hfit;refine h0.mono ?_;rintro e w' ⟨s,h',ρ',x,h1,h2,h3,h4,h5,rfl⟩;simp only at h1;split at h1
 .rename_i i l;split at h1
  .rename_i t' sz el m hg;split at h1
   .rename_i hb;simp only[Bool.and_eq_true]at hb;have e1:=q05 hb.1;have e2:=q05 hb.2;subst e1;subst e2;obtain⟨hq,h1⟩:=q1d h1;have hl:l=m:=hq _ (List.mem_cons_self ..);have hok:∀e,e<m->A.Ok (el e):=A.okE_ok m el λp h'=>hq p (List.mem_cons_of_mem _ h');subst hl;have h1:A.lstE l el=fn g:=h1;have hob:=h4.ob i;rw[hg]at hob;have hlen:(fn g).length=l:=by rw[<-h1,A.lstE_eq,A.lst_length]
    have hmem:∀b o,ρ'.mem b=some o->memR F w w' (ρ' i) b=some o:=λb o hb'=>by
     unfold memR;rw[if_neg]
     .unfold q2e;split
      .rename_i hlt;have:=h4.old b o hb' hlt (λh=>h);rw[h3.2.2]at this;exact this
      .exact h4.fz b o hb'
     .rintro⟨hn,rfl⟩;have:=h4.sep i (by rw[hg];exact hn);rw[this]at hb';cases hb'
    refine⟨x,ρ' i,rfl,h4.toBelow,?_,λhn=>?_,?_⟩
    .rw[hlen];rcases h5.2 with ⟨k1,k2,a,k3⟩|⟨k1,_,k3⟩
     .exact .inl ⟨k1,k2,a,k3⟩
     .exact .inr ⟨k1,k3⟩
    .rcases h4.ow i (by rw[hg];exact hn)with h|h
     .exact h
     .exact h.elim
    .rw[<-h1];exact qqz A hmem hok hob
   .exact h1.elim
  .exact h1.elim
 .rename_i y;split at h1
  .rename_i hy;have hy:=q72 hy;subst hy;have h1:[]=fn g:=h1;simp only[SV.fit]at h5;subst h5;refine⟨_,⟨0,0,0,true⟩,rfl,h4.toBelow,?_,λh=>(by cases h),?_⟩
   .rw[<-h1];exact .inl ⟨rfl,rfl,_,rfl⟩
   .rw[<-h1];exact⟨Nat.zero_le _,.inl ⟨rfl,rfl⟩⟩
  .exact h1.elim
 .exact h1.elim
def qvi(t:TypeId)(A:El α)(D:DA γ)(fn:γ->List α)(pre:γ->List Prop):Con:=λargs h=>
 match D.dec args with
 |some (g,ps)=>asks (ps++pre g) (.ret (.ow h.nx (fn g).length,h.push (rowA A t (fn g))))
 |none=>.bad 694
theorem qhe(hp:qie P f t A D fn pre):FnOk P f (qvi t A D fn pre):=by
 intro M w0 w ρ h args vs K hK hm hfits;unfold qvi at hK;split at hK
 .rename_i g ps hd;obtain⟨hq,hK⟩:=q1d hK;have hv2:=D.ok _ _ _ _ _ _ hd (λp h'=>hq p (List.mem_append_left _ h')) hfits;have hv3:=D.cl _ _ 0 ρ (emp ρ.mem) vs (λ_ _ h=>h) hv2;refine(hp w ρ.mem g vs hm.fz hm.env (λp h'=>hq p (List.mem_append_right _ h')) hv3).mono ?_;rintro e w' ⟨x,L,rfl,hb,hx,hfresh,hrow⟩;have hm1:=hm.below hb
  have hmem:∀b o,ρ.mem b=some o->memR ρ.mem w w' L b=some o:=λb o ho=>by
   have hlt:=hm.lt_mem ho;unfold memR q2e;rw[if_neg (λhc=>by have:=hfresh hc.1;omega),if_pos hlt];exact ho
  have hnn:∀b,b<w.heap.size->ρ.mem b=none->memR ρ.mem w w' L b=none:=λb hlt hn=>by
   simp only[memR,q2e];split
   .rfl
   .first|exact hn|(rw[if_pos hlt];exact hn)
  have hag:Agree h.nx ρ ⟨ρ.lc,memR ρ.mem w w' L,ρ.lo⟩:=⟨λ_ _=>rfl,hmem,rfl⟩
  have hm2:HM M w0 ⟨ρ.lc,memR ρ.mem w w' L,ρ.lo⟩ h w':={
   os:=hm1.os
   tape:=hm1.tape
   output:=hm1.output
   size:=hm1.size
   block:=hm1.block
   lt:=hm1.lt
   ob:=λi=>SO.fit_mono (Nat.le_refl _) hag (hm1.ob i)
   ow:=hm1.ow
   fz:=λb o hb'=>by
    simp only[memR,q2e]at hb';split at hb'
    .cases hb'
    .split at hb'
     .exact hm1.fz b o hb'
     .exact hb'
   sep:=λi hi=>by
    have h1:=hm.sep i hi;have h2:=hm.lt_heap hi;simp only[memR,q2e];split
    .rfl
    .first|exact h1|(rw[if_pos h2];exact h1)
   old:=λb o hb' hlt hM=>by
    simp only[memR,q2e]at hb';have hs:=hm.size;split at hb'
    .cases hb'
    .rw[if_pos (by omega)]at hb';exact hm.old b o hb' hlt hM
   env:=Env.mono _ _ (λb o hb _=>hmem b o hb) hm.env
   ab:=hm.ab_at hb hmem hnn
   inj:=hm1.inj}
  have hm3:HM M w0 (upd ⟨ρ.lc,memR ρ.mem w w' L,ρ.lo⟩ h.nx L) (h.push (rowA A t (fn g))) w':=by
   refine hm2.learn (qfx A (ρ:=emp (memR ρ.mem w w' L)) (λ_ _ h=>h) hrow) λho=>?_;have hn:L.nl=false:=ho;have hf:=hfresh hn;refine⟨.inl (Nat.le_trans hm.size hf),?_,λj hj=>?_,hm.ab_atB hb hmem hnn hf⟩
   .simp only[memR,hn,true_and,if_pos]
   .have:=hm.lt_heap hj;show(ρ j).blk≠L.blk;omega
  refine⟨_,_,upd ⟨ρ.lc,memR ρ.mem w w' L,ρ.lo⟩ h.nx L,x,hK,Nat.le_succ _,hag.trans (Nat.le_refl _) (q0t _ _ _),hm3,⟨Nat.lt_succ_self _,?_⟩,rfl⟩;have hu:(upd ⟨ρ.lc,memR ρ.mem w w' L,ρ.lo⟩ h.nx L) h.nx=L:=by simp[upd]
  rw[hu];rcases hx with ⟨h1,h2,a,h3⟩|⟨h1,h3⟩
  .exact .inl ⟨h1,h2,a,h3⟩
  .refine .inr ⟨h1,?_,h3⟩;rcases hrow.2 with ⟨h4,_⟩|⟨_,_,c,fz,_,_,_,h8,_⟩
   .rw[h1]at h4;cases h4
   .exact h8
 .exact hK.elim
def qt3(t:TypeId)(A:El α)(D:DA γ)(fn:γ->List α)(pre:γ->List Prop):BCon:=⟨qvi t A D fn pre,λargs h=>by
 unfold qvi;split
 .exact q2r rfl
 .trivial⟩
end
end Go.Sx

namespace Go.Sx
open Go.RowKit
variable[Env]
def frzC(c:Con):Con:=λargs h=>asks (frzA h args).2.2 (c (frzA h args).1 (frzA h args).2.1)
section
variable{P:Program}{M:Nat->Prop}{w0 w:World}
theorem z3t{f:Nat}{c:Con}(hc:FnOk P f c):FnOk P f (frzC c):=by
 intro M w0 w ρ h args vs K hK hm hf;obtain⟨hq,hK⟩:=q1d hK;obtain⟨ρ1,a1,m1,f1⟩:=qs8 hm hf hq;have hnx:=(qjw args h).2;refine(hc M w0 w ρ1 _ _ vs K hK m1 (by rw[hnx];exact f1)).mono ?_;rintro e w' ⟨s,h',ρ',x,k1,k2,k3,k4,k5,k6⟩;rw[hnx]at k2 k3;exact⟨s,h',ρ',x,k1,k2,a1.trans (Nat.le_refl _) k3,k4,k5,k6⟩
theorem zut{c:Con}(hc:∀args h,(c args h).Each λy=>y.2=h):ConB (frzC c):=λargs h=>by
 have hb:=(qjw args h).1;refine q2r ?_;have:=eq_b (hc (frzA h args).1 (frzA h args).2.1);rw[hb]at this;exact this
def zby{γ δ:Type}(D:DA γ)(R:Dv δ)(fn:γ->δ)(pre:γ->List Prop):BCon:=⟨frzC (conR D R fn pre),zut (qbf D R fn pre).e⟩
theorem qmn{f:Nat}{γ δ:Type}{D:DA γ}{R:Dv δ}{fn:γ->δ}{pre:γ->List Prop}(h:q09 P f D R fn pre):FnOk P f (zby D R fn pre).g:=z3t (q3v h)
def z0v{α:Type}(A:El α)(n:Nat)(el:Nat->List SV):Bool:=(List.range n).all λe=>match A.decs (el e)with
 |some (_,[])=>true
 |_=>false
theorem z9r{α:Type}{A:El α}{n:Nat}{el:Nat->List SV}(h:z0v A n el=true):∀e,e<n->A.Ok (el e):=λe he=>by
 have:=List.all_eq_true.1 h e (by simpa using he);split at this
 .rename_i a hd;exact⟨a,[],hd,by simp⟩
 .cases this
def Dv.listB{α:Type}(A:El α):Dv (List α) where
 dec s:=match s with
  | .rs sz n el=>bif Nat.beq sz A.sz&&z0v A n el then some (A.lst n el,[])else none
  |_=>none
 enc:=(Dv.list A).enc
 bd:=(Dv.list A).bd
 cl:=(Dv.list A).cl
 ok s a ps n ρ x hd hp hf:=by
  split at hd
  .rename_i sz m el;cases hb:(Nat.beq sz A.sz&&z0v A m el)with
   |false=>rw[hb]at hd;cases hd
   |true=>
    rw[hb]at hd;simp only[cond_true,Option.some.injEq,Prod.mk.injEq]at hd;obtain⟨rfl,rfl⟩:=hd;simp only[Bool.and_eq_true]at hb
    exact(Dv.list A).ok (.rs sz m el) _ [∀e,e<m->A.Ok (el e)] n ρ x (by simp[Dv.list,hb.1]) (by
     intro p hp;simp only[List.mem_singleton]at hp;subst hp;exact z9r hb.2) hf
  .cases hd
 fb:=(Dv.list A).fb
end
end Go.Sx

namespace Go.Sx
open Go.RowKit
variable[Env]
section
variable{α γ δ:Type}
variable{P:Program}{Γ:Gam}{Λ:Lam}{f t:Nat}{A:El α}{D:DA γ}{R:Dv δ}{fn:γ->List α×δ}{pre:γ->List Prop}
end
end Go.Sx

namespace Go.Sx
open Go.RowKit
variable[Env]
section
variable{α γ δ:Type}{P:Program}{f t:Nat}{A:El α}{D:DA γ}{R:Dv δ}
theorem zk4(hA:∀a,Pus (A.cells a)){xs:List α}{n m:Nat}{ρ ρ':Rh}{L:Lc}{o:Option Obj}(h:(rowA A t xs).fit n ρ L o):(rowA A t xs).fit m ρ' L o:=by
 refine⟨h.1,?_⟩;rcases h.2 with h2|⟨h1,h2,c,fz,h3,h3',h4,h5,h6,h7⟩
 .exact .inl h2
 .refine .inr ⟨h1,h2,c,fz,h3,h3',h4,h5,h6,λe he=>?_⟩;obtain⟨l,q1,q2,q3⟩:=h7 e he;exact⟨l,q1,hA _ _ _ _ _ _ q2,q3⟩
theorem qo1{Γ:Gam}{Λ:Lam}{fn:γ->List α}{pre:γ->List Prop}(hΓ:∀f g,Γ.g f=some g->FnOk P f g)(hΛ:∀f k L,Λ f k=some L->∀b∈q03 P f,lkey b=k->q06 P b L.g)(n:Nat)(d:List α)(S:List Nat->γ->Prop)(F:List Nat->γ->List α)
  (hS:∀cs g,(qqj P Γ Λ n f t A (D.enc g)).sideA cs=S cs g) (hF:∀cs g,(qqj P Γ Λ n f t A (D.enc g)).evA d cs=F cs g) (h:∀cs g,D.bd g->(∀p∈pre g,p)->S cs g/\F cs g=fn g):qie P f t A D fn pre:=
 q5d hΓ hΛ n λg h1 h2=>Tr.sideA_holds d (λcs=>by rw[hS];exact(h cs g h1 h2).1) λcs=>by rw[hF];exact(h cs g h1 h2).2
def qn5(t:TypeId)(A:El α)(D:DA γ)(fn:γ->List α)(pre:γ->List Prop):Con:=λargs h=>
 match D.dec (vwA h args).1 with
 |some (g,ps)=>asks ((vwA h args).2++(ps++pre g)) (.ret (.ow h.nx (fn g).length,h.push (rowA A t (fn g))))
 |none=>.bad 694
theorem qdi(hA:∀a,Pus (A.cells a)){fn:γ->List α}{pre:γ->List Prop}(hp:qie P f t A D fn pre):FnOk P f (qn5 t A D fn pre):=by
 intro M w0 w ρ h args vs K hK hm hfits;unfold qn5 at hK;split at hK
 .rename_i g ps hd;obtain⟨hq,hK⟩:=q1d hK;have hv:=qt8 (G:=λb=>w.heap[b]?) hm hm.fz (λ_ _ _ h=>h) hfits λp h'=>hq p (List.mem_append_left _ h');have hv2:=D.ok _ _ _ _ _ _ hd (λp h'=>hq p (List.mem_append_right _ (List.mem_append_left _ h'))) hv;have hv3:=D.cl _ _ 0 ⟨ρ.lc,λb=>w.heap[b]?,ρ.lo⟩ (emp λb=>w.heap[b]?) vs (λ_ _ h=>h) hv2;refine(hp w (λb=>w.heap[b]?) g vs (λ_ _ h=>h) (Env.mono _ _ (λb o hb _=>hm.fz b o hb) hm.env) (λp h'=>hq p (List.mem_append_right _ (List.mem_append_right _ h'))) hv3).mono ?_;rintro e w' ⟨x,L,rfl,hb,hx,hfresh,hrow⟩;have hm1:=hm.below hb
  have hm3:HM M w0 (upd ρ h.nx L) (h.push (rowA A t (fn g))) w':=by
   refine hm1.learn (zk4 hA hrow) λho=>?_;have hn:L.nl=false:=ho;have hf:=hfresh hn;refine⟨.inl (Nat.le_trans hm.size hf),?_,λj hj=>?_,hm.ab_atB hb (λ_ _ h=>h) (λ_ _ h=>h) hf⟩
   .cases hmm:ρ.mem L.blk with
    |none=>rfl
    |some o=>have:=hm.lt_mem hmm;omega
   .have:=hm.lt_heap hj;show(ρ j).blk≠L.blk;omega
  refine⟨_,_,upd ρ h.nx L,x,hK,Nat.le_succ _,q0t _ _ _,hm3,⟨Nat.lt_succ_self _,?_⟩,rfl⟩;have hu:(upd ρ h.nx L) h.nx=L:=by simp[upd]
  rw[hu];rcases hx with ⟨h1,h2,a,h3⟩|⟨h1,h3⟩
  .exact .inl ⟨h1,h2,a,h3⟩
  .refine .inr ⟨h1,?_,h3⟩;rcases hrow.2 with ⟨h4,_⟩|⟨_,_,c,fz,_,_,_,h8,_⟩
   .rw[h1]at h4;cases h4
   .exact h8
 .exact hK.elim
def qne(t:TypeId)(A:El α)(D:DA γ)(fn:γ->List α)(pre:γ->List Prop):BCon:=⟨qn5 t A D fn pre,λargs h=>by
 unfold qn5;split
 .exact q2r rfl
 .trivial⟩
end
end Go.Sx

namespace Go.Sx
open Go.RowKit
variable[Env]
def FzR(n:Nat)(h:SH)(fzs:List Nat)(ρ ρ':Rh):Prop:=∀j∈fzs,∃o,(h.get j).fit n ρ (ρ j) o/\((h.get j).own (ρ j)->ρ'.mem (ρ j).blk=o)
theorem FzR.left{n:Nat}{h:SH}{a b:List Nat}{ρ ρ':Rh}(hz:FzR n h (a++b) ρ ρ'):FzR n h a ρ ρ':=λj hj=>hz j (List.mem_append_left _ hj)
theorem FzR.right{n:Nat}{h:SH}{a b:List Nat}{ρ ρ':Rh}(hz:FzR n h (a++b) ρ ρ'):FzR n h b ρ ρ':=λj hj=>hz j (List.mem_append_right _ hj)
structure CRel(N k0:Nat)(h:SH)(ids:List (Option Nat))(fzs:List Nat)(l cs:List SV)(blks:List SO):Prop where
 blk:∀(k:Nat)(so:SO),blks[k]?=some so->(ids[k]?=some none/\z7c so)\/∃j:Nat,ids[k]?=some (some j)/\Ow so (h.get j)/\∀(n m:Nat)(ρ ρ':Rh)(L:Lc)(o:Option Obj),Rn N k0 ids m ρ ρ'->FzR n h fzs ρ ρ'->(h.get j).fit n ρ L o->so.fit m ρ' L o
 fit:∀(n m:Nat)(ρ ρ':Rh)(x:List Value),Rn N k0 ids m ρ ρ'->FzR n h fzs ρ ρ'->SV.fits n ρ l x->SV.fits m ρ' cs x
def OwE(so' so:SO):Prop:=(∀L,so'.own L↔so.own L)/\∀a,so'=.abs a↔so=.abs a
theorem qr8{so:SO}:OwE so so:=⟨λ_=>Iff.rfl,λ_=>Iff.rfl⟩
theorem qu6{so' so:SO}(h:∀L,so'.own L↔so.own L)(h1:∀a,so'≠.abs a:=by intro _ h;cases h)(h2:∀a,so≠.abs a:=by intro _ h;cases h):OwE so' so:=⟨h,λa=>⟨λe=>absurd e (h1 a),λe=>absurd e (h2 a)⟩⟩
def ShfB(n m:Nat)(ρ ρ':Rh)(bs bs':List SO):Prop:=∀(k:Nat)(so:SO),bs[k]?=some so->∃so',bs'[k]?=some so'/\OwE so' so/\∀L o,so.fit n ρ L o->so'.fit m ρ' L o
structure CT(κ:Type)where
 R:Nat
 sz:Nat
 cells:Nat->κ->List SV
 blks:Nat->κ->List SO
 read:SH->List SV->Option (κ×List Prop×List (Option Nat)×List Nat)
 put:Nat->κ->Tr (List SV×List SO)
 blen:∀b g,(blks b g).length=R
 clen:∀b g,(cells b g).length=sz
 ilen:∀h l g ps ids fzs,read h l=some (g,ps,ids,fzs)->ids.length=R
 ok:∀N k0 h l g ps ids fzs,read h l=some (g,ps,ids,fzs)->(∀p∈ps,p)->CRel N k0 h ids fzs l (cells (N+k0) g) (blks (N+k0) g)
 shf:∀(b b':Nat)(g:κ)(n m:Nat)(ρ ρ':Rh),(∀c o,ρ.mem c=some o->ρ'.mem c=some o)->(∀k,k<R->ρ' (b'+k)=ρ (b+k))->b'+R<=m->(∀x,SV.fits n ρ (cells b g) x->SV.fits m ρ' (cells b' g) x)/\ShfB n m ρ ρ' (blks b g) (blks b' g)
 putOk:∀b g(K:List SV×List SO->Prop),(put b g).Holds K->K (cells b g,blks b g)
theorem q2v{n m:Nat}{ρ ρ':Rh}:ShfB n m ρ ρ' [] []:=λk so h=>by simp at h
theorem qtp{n m:Nat}{ρ ρ':Rh}{a a' b b':List SO}(hl:a.length=a'.length)(h1:ShfB n m ρ ρ' a a')(h2:ShfB n m ρ ρ' b b'):ShfB n m ρ ρ' (a++b) (a'++b'):=λk so h=>by
 by_cases hk:k<a.length
 .rw[List.getElem?_append_left hk]at h;rw[List.getElem?_append_left (by omega)];exact h1 k so h
 .rw[List.getElem?_append_right (by omega)]at h;rw[List.getElem?_append_right (by omega),<-hl];exact h2 _ so h
theorem q6h{n m:Nat}{ρ ρ':Rh}{a a':SO}{b b':List SO}(h0:OwE a' a)(h1:∀L o,a.fit n ρ L o->a'.fit m ρ' L o)(h2:ShfB n m ρ ρ' b b'):ShfB n m ρ ρ' (a::b) (a'::b'):=λk so h=>by
 cases k with
 |zero=>
  simp only[List.getElem?_cons_zero,Option.some.injEq]at h;subst h;exact⟨a',rfl,h0,h1⟩
 |succ k=>exact h2 k so (by simpa using h)
section
variable{κ α β:Type}
def CT.pl(A:El α):CT α where
 R:=0
 sz:=A.sz
 cells _ a:=A.cells a
 blks _ _:=[]
 read _ l:=match A.decs l with
  |some (a,ps)=>some (a,ps,[],[])
  |none=>none
 put _ a:=.ret (A.cells a,[])
 blen _ _:=rfl
 clen _ a:=A.len a
 ilen h l g ps ids fzs hr:=by
  split at hr
  .simp only[Option.some.injEq,Prod.mk.injEq]at hr;rw[<-hr.2.2.1];rfl
  .cases hr
 ok N k0 h l g ps ids fzs hr hp:=by
  split at hr
  .rename_i a ps' hd;simp only[Option.some.injEq,Prod.mk.injEq]at hr;obtain⟨rfl,rfl,rfl,rfl⟩:=hr;exact⟨λk so h=>by simp at h,λn m ρ ρ' x hn _ hf=>A.cl a n m ρ ρ' x hn.ag.2.1 (A.ok _ _ _ _ _ _ hd hp hf)⟩
  .cases hr
 shf b b' g n m ρ ρ' hm _ _:=⟨λx hf=>A.cl g n m ρ ρ' x hm hf,q2v⟩
 putOk _ _ _ h:=h
theorem zy5{N k0 n m j l l':Nat}{ids:List (Option Nat)}{ρ ρ':Rh}{x:Value}(hr:Rn N k0 ids m ρ ρ')(hi:ids[0]?=some (some j))(hl:l'=l)(hf:(SV.ow j l).fit n ρ x):(SV.ow (N+k0) l').fit m ρ' x:=by
 obtain⟨_,hor⟩:=hf
 have hk:0<ids.length:=by
  cases ids with
  |nil=>simp at hi
  |cons=>simp
 refine⟨by have:=hr.le;omega,?_⟩;have:=hr.yes 0 j hi;rw[show N+k0+0=N+k0 from rfl]at this;rw[this,hl];exact hor
def CT.row(t:TypeId)(A:El α):CT (List α) where
 R:=1
 sz:=1
 cells b xs:=[.ow b xs.length]
 blks _ xs:=[.row t A.sz (.fn (A.els xs)) xs.length]
 read h l:=match l with
  | [.ow j n]=>match h.get j with
   | .row t' sz el m=>bif Nat.beq t' t&&Nat.beq sz A.sz then some (A.lstE n el,(n<=m)::A.okE n el,[some j],[])else none
   |_=>none
  | [.k y]=>bif nilK y then some ([],[],[none],[])else none
  |_=>none
 put b xs:=.ret ([.ow b xs.length],[.row t A.sz (.fn (A.els xs)) xs.length])
 blen _ _:=rfl
 clen _ _:=rfl
 ilen h l g ps ids fzs hr:=by
  split at hr
  .split at hr
   .rename_i j n t' sz el m hg;cases hb:Nat.beq t' t&&Nat.beq sz A.sz with
    |false=>rw[hb]at hr;cases hr
    |true=>
     rw[hb]at hr;simp only[cond_true,Option.some.injEq,Prod.mk.injEq]at hr;rw[<-hr.2.2.1];rfl
   .cases hr
  .rename_i y;cases hb:nilK y with
   |false=>rw[hb]at hr;cases hr
   |true=>
    rw[hb]at hr;simp only[cond_true,Option.some.injEq,Prod.mk.injEq]at hr;rw[<-hr.2.2.1];rfl
  .cases hr
 ok N k0 h l g ps ids fzs hr hp:=by
  split at hr
  .rename_i j n;split at hr
   .rename_i t' sz el m hg;cases hb:Nat.beq t' t&&Nat.beq sz A.sz with
    |false=>rw[hb]at hr;cases hr
    |true=>
     rw[hb]at hr;simp only[Bool.and_eq_true]at hb;have e1:=q05 hb.1;have e2:=q05 hb.2;subst e1;subst e2;simp only[cond_true,Option.some.injEq,Prod.mk.injEq]at hr;obtain⟨rfl,rfl,rfl,rfl⟩:=hr;have hl:n<=m:=hp _ (List.mem_cons_self ..);have hk:∀e,e<n->A.Ok (el e):=A.okE_ok n el λp h'=>hp p (List.mem_cons_of_mem _ h');rw[A.lstE_eq];refine⟨λk so hso=>?_,λn' m' ρ ρ' x hn hz hf=>?_⟩
     .cases k with
      |succ k=>simp at hso
      |zero=>
       simp only[List.getElem?_cons_zero,Option.some.injEq]at hso;subst hso;rw[A.lst_length];refine .inr ⟨j,rfl,by rw[hg];exact qcz λ_ h=>h,λn' m' ρ ρ' L o hn hz hf=>?_⟩;rw[hg]at hf;refine zet hl (λe=>A.cl _) (λe he n ρ v hv=>?_) hn.ag.2.1 hf;show SV.fits n ρ (A.cells ((A.lst _ el).getD e A.dflt)) v;rw[A.lst_getD _ _ _ he];obtain⟨a,ps,d1,d2⟩:=hk e he;have:=A.ok _ _ _ _ _ _ d1 d2 hv;simpa only [El.get,d1]using this
     .obtain⟨y,r,rfl,hy,hr'⟩:=q04 hf;exact⟨zy5 hn rfl (by rw[A.lst_length]) hy,by have:=q0b hr';subst this;trivial⟩
   .cases hr
  .rename_i y;cases hb:nilK y with
   |false=>rw[hb]at hr;cases hr
   |true=>
    rw[hb]at hr;simp only[cond_true,Option.some.injEq,Prod.mk.injEq]at hr;obtain⟨rfl,rfl,rfl,rfl⟩:=hr;have:=q72 hb;subst this;refine⟨λk so hso=>?_,λn' m' ρ ρ' x hn hz hf=>?_⟩
    .cases k with
     |succ k=>simp at hso
     |zero=>
      simp only[List.getElem?_cons_zero,Option.some.injEq]at hso;subst hso;exact .inl ⟨rfl,.inr ⟨_,_,_,rfl⟩⟩
    .obtain⟨y',r,rfl,hy,hr'⟩:=q04 hf;refine⟨⟨by have:=hn.le;simp only[List.length_cons,List.length_nil]at this;omega,.inl ?_⟩,by have:=q0b hr';subst this;trivial⟩;have:=hn.no 0 rfl;rw[show N+k0+0=N+k0 from rfl]at this;rw[this];exact⟨rfl,rfl,_,hy⟩
  .cases hr
 shf b b' g n m ρ ρ' hm hk hb:=by
  have h0:=hk 0 (by omega);simp only[Nat.add_zero]at h0;refine⟨λx hf=>?_,q6h (qu6 λ_=>Iff.rfl) (λL o hf=>qfx A hm hf) q2v⟩;obtain⟨y,r,rfl,hy,hr'⟩:=q04 hf;refine⟨⟨by omega,?_⟩,by have:=q0b hr';subst this;trivial⟩;rw[h0];exact hy.2
 putOk _ _ _ h:=h
def CT.fz(t:TypeId)(A:El α):CT (List α) where
 R:=0
 sz:=1
 cells _ xs:=[(Dv.list A).enc xs]
 blks _ _:=[]
 read h l:=match l with
  | [.ow j n]=>match h.get j with
   | .row t' sz el m=>bif Nat.beq t' t&&Nat.beq sz A.sz then some (A.lstE n el,(n<=m)::A.okE n el,[],[j])else none
   |_=>none
  | [s]=>match(Dv.list A).dec s with
   |some (a,ps)=>some (a,ps,[],[])
   |none=>none
  |_=>none
 put b xs:=.ret ([(Dv.list A).enc xs],[])
 blen _ _:=rfl
 clen _ _:=rfl
 ilen h l g ps ids fzs hr:=by
  split at hr
  .split at hr
   .rename_i j n t' sz el m hg;cases hb:Nat.beq t' t&&Nat.beq sz A.sz with
    |false=>rw[hb]at hr;cases hr
    |true=>
     rw[hb]at hr;simp only[cond_true,Option.some.injEq,Prod.mk.injEq]at hr;rw[<-hr.2.2.1];rfl
   .cases hr
  .split at hr
   .simp only[Option.some.injEq,Prod.mk.injEq]at hr;rw[<-hr.2.2.1];rfl
   .cases hr
  .cases hr
 ok N k0 h l g ps ids fzs hr hp:=by
  split at hr
  .rename_i j n;split at hr
   .rename_i t' sz el m hg;cases hb:Nat.beq t' t&&Nat.beq sz A.sz with
    |false=>rw[hb]at hr;cases hr
    |true=>
     rw[hb]at hr;simp only[Bool.and_eq_true]at hb;have e2:=q05 hb.2;subst e2;simp only[cond_true,Option.some.injEq,Prod.mk.injEq]at hr;obtain⟨rfl,rfl,rfl,rfl⟩:=hr;have hl:n<=m:=hp _ (List.mem_cons_self ..);have hk:∀e,e<n->A.Ok (el e):=A.okE_ok n el λp h'=>hp p (List.mem_cons_of_mem _ h');refine⟨λk so hso=>by simp at hso,λn' m' ρ ρ' x hn hz hf=>?_⟩;obtain⟨y,r,rfl,hy,hr'⟩:=q04 hf;refine⟨?_,by have:=q0b hr';subst this;trivial⟩;obtain⟨o,ho,hmem⟩:=hz j (List.mem_cons_self ..);rw[hg]at ho hmem;rw[A.lstE_eq];have hlen:(A.lst n el).length=n:=A.lst_length _ _;show(SV.rs A.sz (A.lst n el).length (A.els (A.lst n el))).fit m' ρ' y;rw[hlen];obtain⟨_,hor⟩:=hy;rcases hor with ⟨h1,rfl,a,rfl⟩|⟨h1,h2,rfl⟩
     .exact qqv _ _ _
     .rcases ho.2 with ⟨k1,_⟩|⟨_,k2,c,fz,k3,_,k4,k5,k6,k7⟩
      .rw[k1]at h1;cases h1
      .refine⟨_,_,rfl,h2,k6,λ_=>⟨(ρ j).blk,0,c,t',fz,rfl,by rw[hmem h1,k3],λe he=>?_⟩⟩;obtain⟨v,q1,q2,q3⟩:=k7 e (by omega);obtain⟨a,ps,d1,d2⟩:=hk e he;refine⟨v,q1,?_,q3⟩;have q4:=A.cl a n' m' ρ ρ' _ hn.ag.2.1 (A.ok _ _ _ _ _ _ d1 d2 q2);show SV.fits m' ρ' (A.cells ((A.lst n el).getD e A.dflt)) v;rw[A.lst_getD _ _ _ he];simpa only [El.get,d1]using q4
   .cases hr
  .rename_i s _;split at hr
   .rename_i a ps' hd;simp only[Option.some.injEq,Prod.mk.injEq]at hr;obtain⟨rfl,rfl,rfl,rfl⟩:=hr;refine⟨λk so h=>by simp at h,λn m ρ ρ' x hn _ hf=>?_⟩;obtain⟨y,r,rfl,hy,hr'⟩:=q04 hf;exact⟨(Dv.list A).cl a n m ρ ρ' y hn.ag.2.1 ((Dv.list A).ok _ _ _ _ _ _ hd hp hy),by have:=q0b hr';subst this;trivial⟩
   .cases hr
  .cases hr
 shf b b' g n m ρ ρ' hm _ _:=⟨λx hf=>by
  obtain⟨y,r,rfl,hy,hr'⟩:=q04 hf;exact⟨(Dv.list A).cl g n m ρ ρ' y hm hy,by have:=q0b hr';subst this;trivial⟩,q2v⟩
 putOk _ _ _ h:=h
def CT.map(ka va:Bool)(K:El α)(V:El β):CT (List (α×β×Int)×Nat) where
 R:=1
 sz:=1
 cells b _:=[.mp b]
 blks _ g:=[.map K.sz V.sz ka va (.fn ((El.ent K V).els g.1)) g.1.length g.2 false]
 read h l:=match l with
  | [.mp j]=>match h.get j with
   | .map ks vs ka' va' el m clk _=>bif Nat.beq ks K.sz&&(Nat.beq vs V.sz&&(ka==ka'&&va==va'))then some (((El.ent K V).lstE m el,clk),(El.ent K V).okE m el,[some j],[])else none
   |_=>none
  |_=>none
 put b g:=.ret ([.mp b],[.map K.sz V.sz ka va (.fn ((El.ent K V).els g.1)) g.1.length g.2 false])
 blen _ _:=rfl
 clen _ _:=rfl
 ilen h l g ps ids fzs hr:=by
  split at hr
  .split at hr
   .rename_i j ks vs ka' va' el m clk pd hg;cases hb:Nat.beq ks K.sz&&(Nat.beq vs V.sz&&(ka==ka'&&va==va'))with
    |false=>rw[hb]at hr;cases hr
    |true=>
     rw[hb]at hr;simp only[cond_true,Option.some.injEq,Prod.mk.injEq]at hr;rw[<-hr.2.2.1];rfl
   .cases hr
  .cases hr
 ok N k0 h l g ps ids fzs hr hp:=by
  split at hr
  .rename_i j;split at hr
   .rename_i ks vs ka' va' el m clk pd hg;cases hb:Nat.beq ks K.sz&&(Nat.beq vs V.sz&&(ka==ka'&&va==va'))with
    |false=>rw[hb]at hr;cases hr
    |true=>
     rw[hb]at hr;simp only[Bool.and_eq_true,beq_iff_eq]at hb;obtain⟨b1,b2,b3,b4⟩:=hb;have e1:=q05 b1;have e2:=q05 b2;subst e1;subst e2;subst b3;subst b4;simp only[cond_true,Option.some.injEq,Prod.mk.injEq]at hr;obtain⟨rfl,rfl,rfl,rfl⟩:=hr;have hk:∀e,e<m->(El.ent K V).Ok (el e):=El.okE_ok _ m el hp;rw[El.lstE_eq];refine⟨λk so hso=>?_,λn' m' ρ ρ' x hn hz hf=>?_⟩
     .cases k with
      |succ k=>simp at hso
      |zero=>
       simp only[List.getElem?_cons_zero,Option.some.injEq]at hso;subst hso;refine .inr ⟨j,rfl,by rw[hg];exact qcz λ_ h=>h,λn' m' ρ ρ' L o hn hz hf=>?_⟩;rw[hg]at hf;obtain⟨f1,f2,⟨es,f3,f4,f5,f6⟩,_⟩:=hf;rw[El.lst_length];refine⟨f1,f2,⟨es,f3,f4,f5,λe he=>?_⟩,λh=>by cases h⟩;obtain⟨y,kc,vc,q1,q2,q3⟩:=f6 e he;obtain⟨a,ps,d1,d2⟩:=hk e he;refine⟨y,kc,vc,q1,?_,q3⟩;have:=(El.ent K V).cl a n' m' ρ ρ' _ hn.ag.2.1 ((El.ent K V).ok _ _ _ _ _ _ d1 d2 q2);show SV.fits m' ρ' ((El.ent K V).cells (((El.ent K V).lst m el).getD e (El.ent K V).dflt)) _;rw[El.lst_getD _ _ _ _ he];simpa only [El.get,d1]using this
     .obtain⟨y,r,rfl,hy,hr'⟩:=q04 hf;refine⟨⟨by have:=hn.le;simp only[List.length_cons,List.length_nil]at this;omega,?_⟩,by have:=q0b hr';subst this;trivial⟩;have:=hn.yes 0 j rfl;rw[show N+k0+0=N+k0 from rfl]at this;rw[this];exact hy.2
   .cases hr
  .cases hr
 shf b b' g n m ρ ρ' hm hk hb:=by
  have h0:=hk 0 (by omega);simp only[Nat.add_zero]at h0;refine⟨λx hf=>?_,q6h (qu6 λ_=>Iff.rfl) (λL o hf=>?_) q2v⟩
  .obtain⟨y,r,rfl,hy,hr'⟩:=q04 hf;refine⟨⟨by omega,?_⟩,by have:=q0b hr';subst this;trivial⟩;rw[h0];exact hy.2
  .obtain⟨f1,f2,⟨es,f3,f4,f5,f6⟩,f7⟩:=hf;refine⟨f1,f2,⟨es,f3,f4,f5,λe he=>?_⟩,f7⟩;obtain⟨y,kc,vc,q1,q2,q3⟩:=f6 e he;exact⟨y,kc,vc,q1,(El.ent K V).cl _ _ _ _ _ _ hm q2,q3⟩
 putOk _ _ _ h:=h
theorem Rn.tail{N k0 m j:Nat}{ids:List (Option Nat)}{ρ ρ':Rh}(h:Rn N k0 (some j::ids) m ρ ρ'):Rn N (k0+1) ids m ρ ρ':=Rn.right (is:=[some j]) h
def CT.ptr(t:TypeId)(C:CT κ):CT κ where
 R:=C.R+1
 sz:=1
 cells b _:=[.p b 0]
 blks b g:=.cells (C.cells (b+1) g) t::C.blks (b+1) g
 read h l:=match l with
  | [.p j 0]=>match h.get j with
   | .cells xs t'=>bif Nat.beq t' t then match C.read h xs with
    |some (g,ps,ids,fzs)=>some (g,ps,some j::ids,fzs)
    |none=>none else none
   |_=>none
  |_=>none
 put b g:=(C.put (b+1) g).bind λy=>.ret ([.p b 0],.cells y.1 t::y.2)
 blen b g:=by simp[C.blen]
 clen _ _:=rfl
 ilen h l g ps ids fzs hr:=by
  split at hr
  .split at hr
   .rename_i j xs t' hg;cases hb:Nat.beq t' t with
    |false=>rw[hb]at hr;cases hr
    |true=>
     rw[hb]at hr;simp only[cond_true]at hr;split at hr
     .rename_i g' ps' ids' fz' hc;simp only[Option.some.injEq,Prod.mk.injEq]at hr;rw[<-hr.2.2.1,List.length_cons,C.ilen _ _ _ _ _ _ hc]
     .cases hr
   .cases hr
  .cases hr
 ok N k0 h l g ps ids fzs hr hp:=by
  split at hr
  .rename_i j;split at hr
   .rename_i xs t' hg;cases hb:Nat.beq t' t with
    |false=>rw[hb]at hr;cases hr
    |true=>
     have:=q05 hb;subst this;rw[hb]at hr;simp only[cond_true]at hr;split at hr
     .rename_i g' ps' ids' fz' hc;simp only[Option.some.injEq,Prod.mk.injEq]at hr;obtain⟨rfl,rfl,rfl,rfl⟩:=hr;have hC:=C.ok N (k0+1) h xs g' ps' ids' fz' hc hp;rw[show N+(k0+1)=N+k0+1 by omega]at hC;refine⟨λk so hso=>?_,λn' m' ρ ρ' x hn hz hf=>?_⟩
      .cases k with
       |succ k=>
        rcases hC.blk k so (by simpa using hso)with ⟨h1,h2⟩|⟨i,h1,h2,h3⟩
        .exact .inl ⟨by simpa using h1,h2⟩
        .exact .inr ⟨i,by simpa using h1,h2,λn m ρ ρ' L o hn hz=>h3 n m ρ ρ' L o hn.tail hz⟩
       |zero=>
        simp only[List.getElem?_cons_zero,Option.some.injEq]at hso;subst hso;refine .inr ⟨j,rfl,by rw[hg];exact qcz λ_ _=>trivial,λn' m' ρ ρ' L o hn hz hf=>?_⟩;rw[hg]at hf;obtain⟨f1,f2,l,f3,f4⟩:=hf;exact⟨f1,f2,l,f3,hC.fit n' m' ρ ρ' l hn.tail hz f4⟩
      .obtain⟨y,r,rfl,hy,hr'⟩:=q04 hf;refine⟨⟨by have:=hn.le;simp only[List.length_cons,List.length_nil]at this;omega,?_⟩,by have:=q0b hr';subst this;trivial⟩;have:=hn.yes 0 j rfl;rw[show N+k0+0=N+k0 from rfl]at this;rw[this];exact hy.2
     .cases hr
   .cases hr
  .cases hr
 shf b b' g n m ρ ρ' hm hk hb:=by
  have h0:=hk 0 (by omega);simp only[Nat.add_zero]at h0
  obtain⟨s1,s2⟩:=C.shf (b+1) (b'+1) g n m ρ ρ' hm (λk hk'=>by
   have:=hk (k+1) (by omega);rw[show b'+1+k=b'+(k+1) by omega,show b+1+k=b+(k+1) by omega];exact this) (by omega)
  refine⟨λx hf=>?_,q6h (qu6 λ_=>Iff.rfl) (λL o hf=>?_) s2⟩
  .obtain⟨y,r,rfl,hy,hr'⟩:=q04 hf;refine⟨⟨by omega,?_⟩,by have:=q0b hr';subst this;trivial⟩;rw[h0];exact hy.2
  .obtain⟨f1,f2,l,f3,f4⟩:=hf;exact⟨f1,f2,l,f3,s1 l f4⟩
 putOk b g K h:=C.putOk (b+1) g _ (Tr.holds_bind h)
def CT.pair(A:CT α)(B:CT β):CT (α×β) where
 R:=A.R+B.R
 sz:=A.sz+B.sz
 cells b g:=A.cells b g.1++B.cells (b+A.R) g.2
 blks b g:=A.blks b g.1++B.blks (b+A.R) g.2
 read h l:=match A.read h (l.take A.sz)with
  |some (a,ps,is,fs)=>match B.read h (l.drop A.sz)with
   |some (b,qs,js,gs)=>some ((a,b),ps++qs,is++js,fs++gs)
   |none=>none
  |none=>none
 put b g:=(A.put b g.1).bind λx=>(B.put (b+A.R) g.2).bind λy=>.ret (x.1++y.1,x.2++y.2)
 blen b g:=by simp[A.blen,B.blen]
 clen b g:=by simp[A.clen,B.clen]
 ilen h l g ps ids fzs hr:=by
  split at hr
  .rename_i a ps0 is fs ha;split at hr
   .rename_i b qs js gs hb;simp only[Option.some.injEq,Prod.mk.injEq]at hr;obtain⟨rfl,rfl,rfl,rfl⟩:=hr;simp[A.ilen _ _ _ _ _ _ ha,B.ilen _ _ _ _ _ _ hb]
   .cases hr
  .cases hr
 ok N k0 h l g ps ids fzs hr hp:=by
  split at hr
  .rename_i a ps0 is fs ha;split at hr
   .rename_i b qs js gs hb;simp only[Option.some.injEq,Prod.mk.injEq]at hr;obtain⟨rfl,rfl,rfl,rfl⟩:=hr;have ra:=A.ok N k0 _ _ _ _ _ _ ha λp h=>hp p (List.mem_append_left _ h);have rb:=B.ok N (k0+A.R) _ _ _ _ _ _ hb λp h=>hp p (List.mem_append_right _ h);have la:=A.ilen _ _ _ _ _ _ ha;have lr:=A.blen (N+k0) a;have e:N+k0+A.R=N+(k0+A.R):=by omega
    simp only[e];refine⟨λk so h=>?_,λn m ρ ρ' x hn hz hf=>?_⟩
    .by_cases hk:k<A.R
     .rw[List.getElem?_append_left (by omega)]at h;rw[List.getElem?_append_left (by omega)];rcases ra.blk k so h with h1|⟨j,h1,h2,h3⟩
      .exact .inl h1
      .exact .inr ⟨j,h1,h2,λn m ρ ρ' L o hr hz=>h3 n m ρ ρ' L o hr.left hz.left⟩
     .rw[List.getElem?_append_right (by omega)]at h;rw[List.getElem?_append_right (by omega),la];rw[lr]at h;rcases rb.blk (k-A.R) so h with h1|⟨j,h1,h2,h3⟩
      .exact .inl h1
      .exact .inr ⟨j,h1,h2,λn m ρ ρ' L o hr hz=>h3 n m ρ ρ' L o (la▸hr.right) hz.right⟩
    .have f1:=ra.fit n m ρ ρ' _ hn.left hz.left (q0i A.sz hf);have f2:=rb.fit n m ρ ρ' _ (la▸hn.right) hz.right (q0j A.sz hf);have:=q0q f1 f2
     rwa [List.take_append_drop]at this
   .cases hr
  .cases hr
 shf b b' g n m ρ ρ' hm hk hb:=by
  obtain⟨s1,s2⟩:=A.shf b b' g.1 n m ρ ρ' hm (λk hk'=>hk k (by omega)) (by omega)
  obtain⟨t1,t2⟩:=B.shf (b+A.R) (b'+A.R) g.2 n m ρ ρ' hm (λk hk'=>by
   have:=hk (A.R+k) (by omega);rw[show b'+A.R+k=b'+(A.R+k) by omega,show b+A.R+k=b+(A.R+k) by omega];exact this) (by omega)
  refine⟨λx hf=>?_,qtp (by rw[A.blen,A.blen]) s2 t2⟩;have h1:=q0i A.sz hf;have h2:=q0j A.sz hf;rw[List.take_left' (A.clen _ _)]at h1;rw[List.drop_left' (A.clen _ _)]at h2;have:=q0q (s1 _ h1) (t1 _ h2)
  rwa [List.take_append_drop]at this
 putOk b g K h:=B.putOk _ _ _ (Tr.holds_bind (A.putOk _ _ _ (Tr.holds_bind h)))
def CT.iso(A:CT α)(f:α->β)(g:β->α)(hgf:∀a,g (f a)=a):CT β where
 R:=A.R
 sz:=A.sz
 cells b d:=A.cells b (g d)
 blks b d:=A.blks b (g d)
 read h l:=match A.read h l with
  |some (a,ps,is,fs)=>some (f a,ps,is,fs)
  |none=>none
 put b d:=A.put b (g d)
 blen b d:=A.blen _ _
 clen b d:=A.clen _ _
 ilen h l d ps ids fzs hr:=by
  split at hr
  .rename_i a ps0 is fs ha;simp only[Option.some.injEq,Prod.mk.injEq]at hr;obtain⟨rfl,rfl,rfl,rfl⟩:=hr;exact A.ilen _ _ _ _ _ _ ha
  .cases hr
 ok N k0 h l d ps ids fzs hr hp:=by
  split at hr
  .rename_i a ps0 is fs ha;simp only[Option.some.injEq,Prod.mk.injEq]at hr;obtain⟨rfl,rfl,rfl,rfl⟩:=hr;rw[hgf];exact A.ok N k0 _ _ _ _ _ _ ha hp
  .cases hr
 shf b b' d n m ρ ρ':=A.shf b b' (g d) n m ρ ρ'
 putOk b d K h:=A.putOk b (g d) K h
def CT.opt(A:CT α)(d:α)(h1:A.sz=1):CT (Option α) where
 R:=A.R
 sz:=1
 cells b g:=match g with
  |some a=>A.cells b a
  |none=>[.k (.pointer none)]
 blks b g:=match g with
  |some a=>A.blks b a
  |none=>List.replicate A.R .dead
 read h l:=match l with
  | [.k (.pointer none)]=>some (none,[],List.replicate A.R none,[])
  |l=>match A.read h l with
   |some (a,ps,is,fs)=>some (some a,ps,is,fs)
   |none=>none
 put b g:=.br g.isSome (A.put b (g.getD d)) (.ret ([.k (.pointer none)],List.replicate A.R .dead))
 blen b g:=by cases g<;>simp[A.blen]
 clen b g:=by cases g<;>simp[A.clen,h1]
 ilen h l g ps ids fzs hr:=by
  split at hr
  .simp only[Option.some.injEq,Prod.mk.injEq]at hr;rw[<-hr.2.2.1];simp
  .split at hr
   .rename_i a ps0 is fs ha;simp only[Option.some.injEq,Prod.mk.injEq]at hr;obtain⟨rfl,rfl,rfl,rfl⟩:=hr;exact A.ilen _ _ _ _ _ _ ha
   .cases hr
 ok N k0 h l g ps ids fzs hr hp:=by
  split at hr
  .simp only[Option.some.injEq,Prod.mk.injEq]at hr;obtain⟨rfl,rfl,rfl,rfl⟩:=hr;refine⟨λk so hso=>?_,λn m ρ ρ' x _ _ hf=>?_⟩
   .have hk:k<A.R:=by
     have:=(List.getElem?_eq_some_iff.1 hso).1;simpa using this
    rw[List.getElem?_replicate,if_pos hk]at hso;simp only[Option.some.injEq]at hso;exact .inl ⟨by rw[List.getElem?_replicate,if_pos hk],.inl hso.symm⟩
   .obtain⟨y,r,rfl,hy,hr'⟩:=q04 hf;have:=q0b hr';subst this;exact⟨hy,trivial⟩
  .split at hr
   .rename_i a ps0 is fs ha;simp only[Option.some.injEq,Prod.mk.injEq]at hr;obtain⟨rfl,rfl,rfl,rfl⟩:=hr;exact A.ok N k0 _ _ _ _ _ _ ha hp
   .cases hr
 shf b b' g n m ρ ρ' hm hk hb:=by
  cases g with
  |some a=>exact A.shf b b' a n m ρ ρ' hm hk hb
  |none=>
   refine⟨λx hf=>?_,λk so hso=>⟨so,hso,qr8,λL o _=>?_⟩⟩
   .obtain⟨y,r,rfl,hy,hr'⟩:=q04 hf;have:=q0b hr';subst this;exact⟨hy,trivial⟩
   .have hk:k<A.R:=by
     have:=(List.getElem?_eq_some_iff.1 hso).1;simpa using this
    rw[List.getElem?_replicate,if_pos hk]at hso;simp only[Option.some.injEq]at hso;rw[<-hso];trivial
 putOk b g K h:=by
  cases g with
  |some a=>exact A.putOk b a K (h.1 rfl)
  |none=>exact h.2 rfl
end
section
variable{N:Nat}{κ:Type}
def noFz:Option (κ×List Prop×List (Option Nat)×List Nat)->Option (κ×List Prop×List (Option Nat))
 |some (g,ps,ids,[])=>some (g,ps,ids)
 |_=>none
theorem qlu{r:Option (κ×List Prop×List (Option Nat)×List Nat)}{g:κ}{ps:List Prop}{ids:List (Option Nat)}(h:noFz r=some (g,ps,ids)):r=some (g,ps,ids,[]):=by
 unfold noFz at h;split at h
 .simp only[Option.some.injEq,Prod.mk.injEq]at h;obtain⟨rfl,rfl,rfl⟩:=h;rfl
 .cases h
theorem qs6{n:Nat}{h:SH}{ρ ρ':Rh}:FzR n h [] ρ ρ':=λj hj=>by cases hj
theorem quf{k0:Nat}{h:SH}{ids:List (Option Nat)}{l cs:List SV}{blks:List SO}(hC:CRel N k0 h ids [] l cs blks):∀(k:Nat)(so:SO),blks[k]?=some so->(ids[k]?=some none/\z7c so)\/∃j:Nat,ids[k]?=some (some j)/\Ow so (h.get j)/\∀(n m:Nat)(ρ ρ':Rh)(L:Lc)(o:Option Obj),Rn N k0 ids m ρ ρ'->(h.get j).fit n ρ L o->so.fit m ρ' L o:=λk so h=>by
 rcases hC.blk k so h with h1|⟨j,h1,h2,h3⟩
 .exact .inl h1
 .exact .inr ⟨j,h1,h2,λn m ρ ρ' L o hn hf=>h3 n m ρ ρ' L o hn qs6 hf⟩
def LP.ct(N i:Nat)(C:CT κ)(h1:C.sz=1):LP N κ where
 R:=C.R
 read σ:=noFz (C.read σ.h [σ.slot i])
 ents k0 g:=[(i,(C.cells (N+k0) g).headD .u)]
 blks k0 g:=C.blks (N+k0) g
 objs _ _:=[]
 es:=[i]
 os:=[]
 eseq _ _:=rfl
 oseq _ _:=rfl
 blen k g:=C.blen _ _
 ilen σ g ps ids h:=C.ilen _ _ _ _ _ _ (qlu h)
 ok k0 σ g ps ids h hp:=by
  have hC:=C.ok N k0 _ _ _ _ _ _ (qlu h) hp;refine⟨quf hC,λid so h=>by simp at h,λj s hs n m ρ ρ' x hn hf=>?_⟩;simp only[List.mem_singleton,Prod.mk.injEq]at hs;obtain⟨rfl,rfl⟩:=hs;have:=hC.fit n m ρ ρ' [x] hn qs6 ⟨hf,trivial⟩;have hl:=C.clen (N+k0) g;generalize C.cells (N+k0) g=cs at this hl;obtain⟨c,rfl⟩:=List.length_eq_one_iff.1 (hl.trans h1);exact this.1
def LP.ctO(N id t:Nat)(C:CT κ):LP N κ where
 R:=C.R
 read σ:=match σ.h.get id with
  | .cells xs t'=>bif Nat.beq t' t then noFz (C.read σ.h xs)else none
  |_=>none
 ents _ _:=[]
 blks k0 g:=C.blks (N+k0) g
 objs k0 g:=[(id,.cells (C.cells (N+k0) g) t)]
 es:=[]
 os:=[id]
 eseq _ _:=rfl
 oseq _ _:=rfl
 blen k g:=C.blen _ _
 ilen σ g ps ids h:=by
  split at h
  .rename_i xs t' _;cases hb:Nat.beq t' t with
   |false=>rw[hb]at h;cases h
   |true=>rw[hb]at h;exact C.ilen _ _ _ _ _ _ (qlu h)
  .cases h
 ok k0 σ g ps ids h hp:=by
  split at h
  .rename_i xs t' hg;cases hb:Nat.beq t' t with
   |false=>rw[hb]at h;cases h
   |true=>
    rw[hb]at h;have:=q05 hb;subst this;have hC:=C.ok N k0 _ _ _ _ _ _ (qlu h) hp;refine⟨quf hC,λid' so h=>?_,λj s h=>by simp at h⟩;simp only[List.mem_singleton,Prod.mk.injEq]at h;obtain⟨rfl,rfl⟩:=h;rw[hg];refine⟨qcz λ_ h=>h,λn m ρ ρ' L o hn hf=>?_⟩;obtain⟨f1,f2,l,f3,f4⟩:=hf;exact⟨f1,f2,l,f3,hC.fit n m ρ ρ' l hn qs6 f4⟩
  .cases h
end
end Go.Sx

namespace Go.Sx
open Go.RowKit
variable[Env]
section
variable{α β γ δ:Type}{K:El α}{V:El β}
def d3e(e:α×β×Int):α×β:=(e.1,e.2.1)
theorem zca{l:List SV}{a:α×β×Int}{ps:List Prop}(h:(K.ent V).decs l=some (a,ps)):∃qs,(El.pair K V).decs (l.take (K.sz+V.sz))=some (d3e a,qs)/\∀q∈qs,q∈ps:=by
 simp only[El.ent,El.pair]at h ⊢;rw[List.take_take,Nat.min_eq_left (Nat.le_add_right ..),List.drop_take,Nat.add_sub_cancel_left];split at h
 .rename_i a0 ps0 h1;split at h
  .rename_i b0 qs0 h2;simp only[Option.some.injEq,Prod.mk.injEq]at h;obtain⟨rfl,rfl⟩:=h;split at h2
   .rename_i v0 p1 h3;split at h2
    .rename_i n0 p2 h4;simp only[Option.some.injEq,Prod.mk.injEq]at h2;obtain⟨rfl,rfl⟩:=h2;refine⟨_,rfl,λq hq=>?_⟩;rcases List.mem_append.1 hq with hq|hq
     .exact List.mem_append_left _ hq
     .exact List.mem_append_right _ (List.mem_append_left _ hq)
    .cases h2
   .cases h2
  .cases h
 .cases h
theorem qk7{l:List SV}(h:(K.ent V).Ok l):(El.pair K V).Ok (l.take (K.sz+V.sz))/\(El.pair K V).get (l.take (K.sz+V.sz))=d3e ((K.ent V).get l):=by
 obtain⟨a,ps,h1,h2⟩:=h;obtain⟨qs,q1,q2⟩:=zca h1;refine⟨⟨_,qs,q1,λq hq=>h2 q (q2 q hq)⟩,?_⟩;simp only[El.get,h1,q1]
theorem qsj{m:Nat}{el:Nat->List SV}(h:∀e,e<m->(K.ent V).Ok (el e)):(El.pair K V).lst m (λe=>(el e).take (K.sz+V.sz))=((K.ent V).lst m el).map d3e:=by
 simp only[El.lst,List.map_map];refine List.map_congr_left λe he=>?_;exact(qk7 (h e (List.mem_range.1 he))).2
end
end Go.Sx

namespace Go.Sx
open Go.RowKit
variable[Env]
section
variable{α β:Type}
def CT.kb(b:Bool):CT Unit where
 R:=0
 sz:=1
 cells _ _:=[.k (.bool b)]
 blks _ _:=[]
 read _ l:=match l with
  | [.k (.bool c)]=>bif c==b then some ((),[],[],[])else none
  |_=>none
 put _ _:=.ret ([.k (.bool b)],[])
 blen _ _:=rfl
 clen _ _:=rfl
 ilen h l g ps ids fzs hr:=by
  split at hr
  .rename_i c;cases hb:c==b with
   |false=>rw[hb]at hr;cases hr
   |true=>
    rw[hb]at hr;simp only[cond_true,Option.some.injEq,Prod.mk.injEq]at hr;rw[<-hr.2.2.1];rfl
  .cases hr
 ok N k0 h l g ps ids fzs hr hp:=by
  split at hr
  .rename_i c;cases hb:c==b with
   |false=>rw[hb]at hr;cases hr
   |true=>
    rw[hb]at hr;have hcb:c=b:=by simpa using hb
    subst hcb;simp only[cond_true,Option.some.injEq,Prod.mk.injEq]at hr;obtain⟨-,rfl,rfl,rfl⟩:=hr
    exact⟨λk so h=>by simp at h,λn m ρ ρ' x hn _ hf=>by
     obtain⟨y,r,rfl,hy,hr'⟩:=q04 hf;exact⟨hy,by have:=q0b hr';subst this;trivial⟩⟩
  .cases hr
 shf b' b'' g n m ρ ρ' hm _ _:=⟨λx hf=>by
  obtain⟨y,r,rfl,hy,hr'⟩:=q04 hf;exact⟨hy,by have:=q0b hr';subst this;trivial⟩,q2v⟩
 putOk _ _ _ h:=h
def CT.fnv{κ:Type}(f:Nat)(C:CT κ)(hR:C.R=0):CT κ where
 R:=0
 sz:=1
 cells b g:=[.fn f [.pr (C.cells b g)]]
 blks _ _:=[]
 read h l:=match l with
  | [.fn f' [.p v 0]]=>bif Nat.beq f f' then match h.get v with
   | .cells xs _=>match C.read h xs with
    |some (g,ps,_,fzs)=>some (g,ps,[],v::fzs)
    |none=>none
   |_=>none else none
  |_=>none
 put b g:=(C.put b g).bind λy=>.ret ([.fn f [.pr y.1]],[])
 blen _ _:=rfl
 clen _ _:=rfl
 ilen h l g ps ids fzs hr:=by
  split at hr
  .rename_i f' v;cases hb:Nat.beq f f' with
   |false=>rw[hb]at hr;cases hr
   |true=>
    rw[hb]at hr;simp only[cond_true]at hr;split at hr
    .split at hr
     .simp only[Option.some.injEq,Prod.mk.injEq]at hr;rw[<-hr.2.2.1];rfl
     .cases hr
    .cases hr
  .cases hr
 ok N k0 h l g ps ids fzs hr hp:=by
  split at hr
  .rename_i f' v;cases hb:Nat.beq f f' with
   |false=>rw[hb]at hr;cases hr
   |true=>
    rw[hb]at hr;have:=q05 hb;subst this;simp only[cond_true]at hr;split at hr
    .rename_i xs t hg;split at hr
     .rename_i g' ps' ids' fz' hc;simp only[Option.some.injEq,Prod.mk.injEq]at hr;obtain⟨rfl,rfl,rfl,rfl⟩:=hr;have hi:ids'=[]:=List.length_eq_zero_iff.1 ((C.ilen _ _ _ _ _ _ hc).trans hR);subst hi;have hC:=C.ok N k0 h xs g' ps' [] fz' hc hp;refine⟨λk so hso=>by simp at hso,λn m ρ ρ' x hn hz hf=>?_⟩;obtain⟨y,r,rfl,hy,hr'⟩:=q04 hf;refine⟨?_,by have:=q0b hr';subst this;trivial⟩;obtain⟨l',rfl,hl'⟩:=hy;obtain⟨y,r,rfl,hy,hr2⟩:=q04 hl';have:=q0b hr2;subst this;obtain⟨_,rfl⟩:=hy;obtain⟨o,ho,hmem⟩:=hz v (List.mem_cons_self ..);rw[hg]at ho hmem;obtain⟨_,h2,vs,h3,h4⟩:=ho;have hm:=hmem trivial;have hz':FzR n h fz' ρ ρ':=λj hj=>hz j (List.mem_cons_of_mem _ hj);refine⟨_,rfl,⟨_,_,_,t,(0,0),rfl,by rw[hm,h3],vs,hC.fit n m ρ ρ' vs hn hz' h4,λj v hv=>?_⟩,trivial⟩;rw[h2];simpa using hv
     .cases hr
    .cases hr
  .cases hr
 shf b b' g n m ρ ρ' hm _ hb:=by
  have hs:=(C.shf b b' g n m ρ ρ' hm (λk hk=>by omega) (by omega)).1;refine⟨λx hf=>?_,q2v⟩;obtain⟨y,r,rfl,hy,hr'⟩:=q04 hf;refine⟨?_,by have:=q0b hr';subst this;trivial⟩;obtain⟨l',rfl,hl'⟩:=hy;obtain⟨y,r,rfl,hy,hr2⟩:=q04 hl';have:=q0b hr2;subst this;obtain⟨c,o,cs,t,fz,k1,k2,vs,k3,k4⟩:=hy;exact⟨_,rfl,⟨c,o,cs,t,fz,k1,hm _ _ k2,vs,hs vs k3,k4⟩,trivial⟩
 putOk b g K h:=C.putOk _ _ _ (Tr.holds_bind h)
def CT.fzm(ka va:Bool)(K:El α)(V:El β):CT (List (α×β)) where
 R:=0
 sz:=1
 cells _ xs:=[(Dv.map ka va K V).enc xs]
 blks _ _:=[]
 read h l:=match l with
  | [.mp j]=>match h.get j with
   | .map ks vs ka' va' el m _ _=>bif Nat.beq ks K.sz&&(Nat.beq vs V.sz&&(ka==ka'&&va==va'))then some (((K.ent V).lstE m el).map d3e,(K.ent V).okE m el,[],[j])else none
   |_=>none
  | [s]=>match(Dv.map ka va K V).dec s with
   |some (a,ps)=>some (a,ps,[],[])
   |none=>none
  |_=>none
 put _ xs:=.ret ([(Dv.map ka va K V).enc xs],[])
 blen _ _:=rfl
 clen _ _:=rfl
 ilen h l g ps ids fzs hr:=by
  split at hr
  .split at hr
   .rename_i j ks vs ka' va' el m clk pd hg;cases hb:Nat.beq ks K.sz&&(Nat.beq vs V.sz&&(ka==ka'&&va==va'))with
    |false=>rw[hb]at hr;cases hr
    |true=>
     rw[hb]at hr;simp only[cond_true,Option.some.injEq,Prod.mk.injEq]at hr;rw[<-hr.2.2.1];rfl
   .cases hr
  .split at hr
   .simp only[Option.some.injEq,Prod.mk.injEq]at hr;rw[<-hr.2.2.1];rfl
   .cases hr
  .cases hr
 ok N k0 h l g ps ids fzs hr hp:=by
  split at hr
  .rename_i j;split at hr
   .rename_i ks vs ka' va' el m clk pd hg;cases hb:Nat.beq ks K.sz&&(Nat.beq vs V.sz&&(ka==ka'&&va==va'))with
    |false=>rw[hb]at hr;cases hr
    |true=>
     rw[hb]at hr;simp only[Bool.and_eq_true,beq_iff_eq]at hb;obtain⟨b1,b2,b3,b4⟩:=hb;have e1:=q05 b1;have e2:=q05 b2;subst e1;subst e2;subst b3;subst b4;simp only[cond_true,Option.some.injEq,Prod.mk.injEq]at hr;obtain⟨rfl,rfl,rfl,rfl⟩:=hr;have hok:∀e,e<m->(K.ent V).Ok (el.at e):=(K.ent V).okE_ok m el hp;refine⟨λk so hso=>by simp at hso,λn' m' ρ ρ' x hn hz hf=>?_⟩;obtain⟨y,r,rfl,hy,hr'⟩:=q04 hf;refine⟨?_,by have:=q0b hr';subst this;trivial⟩;obtain⟨hil,rfl⟩:=hy;obtain⟨o,ho,hmem⟩:=hz j (List.mem_cons_self ..);rw[hg]at ho hmem;obtain⟨_,_,⟨es,h3,h4,h5,h6⟩,_⟩:=ho;have hm:=hmem trivial;rw[(K.ent V).lstE_eq,<-qsj hok];show(SV.rm K.sz V.sz ((El.pair K V).lst m _).length ka va ((El.pair K V).els ((El.pair K V).lst m _))).fit m' ρ' _;rw[El.lst_length];refine .inr ⟨_,es,clk,rfl,by rw[hm,h3],h4,h5,λe he=>?_⟩;obtain⟨y,kc,vc,q1,q2,q3,q4,q5⟩:=h6 e he;refine⟨y,kc,vc,q1,?_,q3,q4,q5⟩;have h7:=q0i (K.sz+V.sz) q2;rw[show(kc++(vc++[Value.int .i64 (y.born:Int)])).take (K.sz+V.sz)=kc++vc by rw[<-List.append_assoc];exact List.take_left' (by simp;omega)]at h7;obtain⟨a,ps,d1,d2⟩:=(qk7 (hok e he)).1;have q6:=(El.pair K V).cl a n' m' ρ ρ' _ hn.ag.2.1 ((El.pair K V).ok _ _ _ _ _ _ d1 d2 h7);show SV.fits m' ρ' ((El.pair K V).cells (((El.pair K V).lst m _).getD e (El.pair K V).dflt)) _;rw[El.lst_getD _ _ _ _ he];simpa only [El.get,d1]using q6
   .cases hr
  .rename_i s _;split at hr
   .rename_i a ps' hd;simp only[Option.some.injEq,Prod.mk.injEq]at hr;obtain⟨rfl,rfl,rfl,rfl⟩:=hr;refine⟨λk so h=>by simp at h,λn m ρ ρ' x hn _ hf=>?_⟩;obtain⟨y,r,rfl,hy,hr'⟩:=q04 hf;exact⟨(Dv.map ka va K V).cl a n m ρ ρ' y hn.ag.2.1 ((Dv.map ka va K V).ok _ _ _ _ _ _ hd hp hy),by have:=q0b hr';subst this;trivial⟩
   .cases hr
  .cases hr
 shf b b' g n m ρ ρ' hm _ _:=⟨λx hf=>by
  obtain⟨y,r,rfl,hy,hr'⟩:=q04 hf;exact⟨(Dv.map ka va K V).cl g n m ρ ρ' y hm hy,by have:=q0b hr';subst this;trivial⟩,q2v⟩
 putOk _ _ _ h:=h
end
end Go.Sx

namespace Go.Sx
open Go.RowKit
variable[Env]
structure TA(κ:Type)where
 q:Nat
 R:Nat
 objs:Nat->κ->List SO
 blks:Nat->κ->List SO
 read:SH->List Nat->Option (κ×List Prop×List (Option Nat)×List Nat)
 olen:∀b g,(objs b g).length=q
 blen:∀b g,(blks b g).length=R
 ilen:∀h rs g ps ids fzs,read h rs=some (g,ps,ids,fzs)->ids.length=R/\rs.length=q
 ok:∀N k0 h rs g ps ids fzs,read h rs=some (g,ps,ids,fzs)->(∀p∈ps,p)->CRel N k0 h ids fzs [] [] (blks (N+k0) g)/\∀(j r:Nat)(so:SO),rs[j]?=some r->(objs (N+k0) g)[j]?=some so->(∀L,(h.get r).own L)/\(∀L,so.own L)/\(∀a,so=.abs a↔h.get r=.abs a)/\∀(n m:Nat)(ρ ρ':Rh)(L:Lc)(o:Option Obj),Rn N k0 ids m ρ ρ'->FzR n h fzs ρ ρ'->(h.get r).fit n ρ L o->so.fit m ρ' L o
 shf:∀(b b':Nat)(g:κ)(n m:Nat)(ρ ρ':Rh),(∀c o,ρ.mem c=some o->ρ'.mem c=some o)->(∀k,k<R->ρ' (b'+k)=ρ (b+k))->b'+R<=m->ShfB n m ρ ρ' (objs b g) (objs b' g)/\ShfB n m ρ ρ' (blks b g) (blks b' g)
abbrev TA.T{κ:Type}(_:TA κ):Type:=κ
def TA.nil:TA Unit where
 q:=0
 R:=0
 objs _ _:=[]
 blks _ _:=[]
 read _ rs:=match rs with
  | []=>some ((),[],[],[])
  |_=>none
 olen _ _:=rfl
 blen _ _:=rfl
 ilen h rs g ps ids fzs hr:=by
  split at hr
  .simp only[Option.some.injEq,Prod.mk.injEq]at hr;rw[<-hr.2.2.1];exact⟨rfl,rfl⟩
  .cases hr
 ok N k0 h rs g ps ids fzs hr _:=⟨⟨λk so h=>by simp at h,λ_ _ _ _ _ _ _ h=>by cases q0b h;trivial⟩,λj r so _ h=>by simp at h⟩
 shf _ _ _ _ _ _ _ _ _ _:=⟨q2v,q2v⟩
def TA.one{κ:Type}(t:TypeId)(C:CT κ):TA κ where
 q:=1
 R:=C.R
 objs b g:=[.cells (C.cells b g) t]
 blks b g:=C.blks b g
 read h rs:=match rs with
  | [r]=>match h.get r with
   | .cells xs t'=>bif Nat.beq t' t then C.read h xs else none
   |_=>none
  |_=>none
 olen _ _:=rfl
 blen b g:=C.blen b g
 ilen h rs g ps ids fzs hr:=by
  split at hr
  .split at hr
   .rename_i xs t' hg;cases hb:Nat.beq t' t with
    |false=>rw[hb]at hr;cases hr
    |true=>rw[hb]at hr;exact⟨C.ilen _ _ _ _ _ _ hr,rfl⟩
   .cases hr
  .cases hr
 ok N k0 h rs g ps ids fzs hr hp:=by
  split at hr
  .rename_i r;split at hr
   .rename_i xs t' hg;cases hb:Nat.beq t' t with
    |false=>rw[hb]at hr;cases hr
    |true=>
     have:=q05 hb;subst this;rw[hb]at hr;have hC:=C.ok N k0 h xs g ps ids fzs hr hp;refine⟨⟨hC.blk,λ_ _ _ _ _ _ _ h=>by cases q0b h;trivial⟩,λj r' so h1 h2=>?_⟩;cases j with
     |succ j=>simp at h2
     |zero=>
      simp only[List.getElem?_cons_zero,Option.some.injEq]at h1 h2;subst h1;subst h2;rw[hg];refine⟨λ_=>trivial,λ_=>trivial,λa=>⟨λe=>(by cases e),λe=>(by cases e)⟩,λn m ρ ρ' L o hn hz hf=>?_⟩;obtain⟨f1,f2,l,f3,f4⟩:=hf;exact⟨f1,f2,l,f3,hC.fit n m ρ ρ' l hn hz f4⟩
   .cases hr
  .cases hr
 shf b b' g n m ρ ρ' hm hk hb:=by
  obtain⟨s1,s2⟩:=C.shf b b' g n m ρ ρ' hm hk hb
  exact⟨q6h (qu6 λ_=>Iff.rfl) (λL o hf=>by
   obtain⟨f1,f2,l,f3,f4⟩:=hf;exact⟨f1,f2,l,f3,s1 l f4⟩) q2v,s2⟩
structure TR(δ:Type)where
 R:Nat
 val:Nat->δ->SV
 blks:Nat->δ->List SO
 read:SH->SV->Option (δ×List Prop×List (Option Nat)×List Nat)
 put:Nat->δ->Tr (SV×List SO)
 blen:∀b g,(blks b g).length=R
 ilen:∀h s g ps ids fzs,read h s=some (g,ps,ids,fzs)->ids.length=R
 ok:∀N k0 h s g ps ids fzs,read h s=some (g,ps,ids,fzs)->(∀p∈ps,p)->CRel N k0 h ids fzs [s] [val (N+k0) g] (blks (N+k0) g)
 shf:∀(b b':Nat)(g:δ)(n m:Nat)(ρ ρ':Rh),(∀c o,ρ.mem c=some o->ρ'.mem c=some o)->(∀k,k<R->ρ' (b'+k)=ρ (b+k))->b'+R<=m->(∀x,(val b g).fit n ρ x->(val b' g).fit m ρ' x)/\ShfB n m ρ ρ' (blks b g) (blks b' g)
 putOk:∀b g(K:SV×List SO->Prop),(put b g).Holds K->K (val b g,blks b g)
abbrev TR.T{δ:Type}(_:TR δ):Type:=δ
section
variable{δ κ:Type}
def TR.pure(D:Dv δ):TR δ where
 R:=0
 val _ r:=D.enc r
 blks _ _:=[]
 read _ s:=match D.dec s with
  |some (r,ps)=>some (r,ps,[],[])
  |none=>none
 put _ r:=.ret (D.enc r,[])
 blen _ _:=rfl
 ilen h s g ps ids fzs hr:=by
  split at hr
  .simp only[Option.some.injEq,Prod.mk.injEq]at hr;rw[<-hr.2.2.1];rfl
  .cases hr
 ok N k0 h s g ps ids fzs hr hp:=by
  split at hr
  .rename_i a ps' hd;simp only[Option.some.injEq,Prod.mk.injEq]at hr;obtain⟨rfl,rfl,rfl,rfl⟩:=hr;refine⟨λk so h=>by simp at h,λn m ρ ρ' x hn _ hf=>?_⟩;obtain⟨y,r,rfl,hy,hr'⟩:=q04 hf;exact⟨D.cl a n m ρ ρ' y hn.ag.2.1 (D.ok _ _ _ _ _ _ hd hp hy),by cases q0b hr';trivial⟩
  .cases hr
 shf b b' g n m ρ ρ' hm _ _:=⟨λx hf=>D.cl g n m ρ ρ' x hm hf,q2v⟩
 putOk _ _ _ h:=h
def TR.ct(C:CT κ)(h1:C.sz=1):TR κ where
 R:=C.R
 val b g:=(C.cells b g).headD .u
 blks b g:=C.blks b g
 read h s:=C.read h [s]
 put b g:=(C.put b g).bind λy=>.ret (y.1.headD .u,y.2)
 blen b g:=C.blen b g
 ilen h s g ps ids fzs hr:=C.ilen _ _ _ _ _ _ hr
 ok N k0 h s g ps ids fzs hr hp:=by
  have hC:=C.ok N k0 h [s] g ps ids fzs hr hp;have hl:=C.clen (N+k0) g;refine⟨hC.blk,λn m ρ ρ' x hn hz hf=>?_⟩;have:=hC.fit n m ρ ρ' x hn hz hf;generalize C.cells (N+k0) g=cs at this hl;obtain⟨c,rfl⟩:=List.length_eq_one_iff.1 (hl.trans h1);exact this
 shf b b' g n m ρ ρ' hm hk hb:=by
  obtain⟨s1,s2⟩:=C.shf b b' g n m ρ ρ' hm hk hb;refine⟨λx hf=>?_,s2⟩;have l1:=C.clen b g;have l2:=C.clen b' g;generalize C.cells b g=c1 at *;generalize C.cells b' g=c2 at *;obtain⟨a1,rfl⟩:=List.length_eq_one_iff.1 (l1.trans h1);obtain⟨a2,rfl⟩:=List.length_eq_one_iff.1 (l2.trans h1);exact(s1 [x] ⟨hf,trivial⟩).1
 putOk b g K h:=C.putOk b g _ (Tr.holds_bind h)
def TR.tup(C:CT κ):TR κ where
 R:=C.R
 val b g:=.tup (C.cells b g)
 blks b g:=C.blks b g
 read h s:=match s with
  | .tup xs=>C.read h xs
  |_=>none
 put b g:=(C.put b g).bind λy=>.ret (.tup y.1,y.2)
 blen b g:=C.blen b g
 ilen h s g ps ids fzs hr:=by
  split at hr
  .exact C.ilen _ _ _ _ _ _ hr
  .cases hr
 ok N k0 h s g ps ids fzs hr hp:=by
  split at hr
  .rename_i xs;have hC:=C.ok N k0 h xs g ps ids fzs hr hp;refine⟨hC.blk,λn m ρ ρ' x hn hz hf=>?_⟩;obtain⟨y,r,rfl,hy,hr'⟩:=q04 hf;obtain⟨l,rfl,hl⟩:=hy;exact⟨⟨l,rfl,hC.fit n m ρ ρ' l hn hz hl⟩,by cases q0b hr';trivial⟩
  .cases hr
 shf b b' g n m ρ ρ' hm hk hb:=by
  obtain⟨s1,s2⟩:=C.shf b b' g n m ρ ρ' hm hk hb
  exact⟨λx hf=>by
   obtain⟨l,rfl,hl⟩:=hf;exact⟨l,rfl,s1 l hl⟩,s2⟩
 putOk b g K h:=C.putOk b g _ (Tr.holds_bind h)
end
def q0u(sos:List SO):SH:=⟨sos.length,whole (qe8 0 sos),[]⟩
theorem q0v(sos:List SO)(k:Nat):(q0u sos).get k=(sos[k]?).getD .dead:=by
 have e:(q0u sos).get k=look .dead k (qe8 0 sos):=by
  simp only[q0u,SH.get,q0y,q5j]
 obtain⟨r1,r2⟩:=q8h (i:=k) (r:=sos) (k:=0) .dead;rw[e];by_cases hk:k<sos.length
 .obtain⟨so,h1,h2⟩:=r1 k (by omega) hk;rw[h2,h1];rfl
 .rw[r2 (by omega),List.getElem?_eq_none (by omega)];rfl
def kill:List Nat->SH->SH
 | [],h=>h
 |j::r,h=>kill r (h.set j .dead)
theorem z2j:∀(l:List Nat)(h:SH),(kill l h).nx=h.nx
 | [],_=>rfl
 |_::r,h=>z2j r _
theorem quz:∀(l:List Nat)(h:SH)(i:Nat),i∉l->(kill l h).get i=h.get i
 | [],_,_,_=>rfl
 |j::r,h,i,hi=>by
  simp only[List.mem_cons,not_or]at hi;show(kill r (h.set j .dead)).get i=_;rw[quz r _ i hi.2,SH.get_set,if_neg hi.1]
section
variable{M:Nat->Prop}{w0 w w':World}{ρ:Rh}{h:SH}
open Classical in
theorem HM.freezeAll:∀(l:List Nat){h:SH}{ρ:Rh},HM M w0 ρ h w->∃ρ':Rh,ρ'.lc=ρ.lc/\(∀b o,ρ.mem b=some o->ρ'.mem b=some o)/\ρ'.lo=ρ.lo/\HM M w0 ρ' (kill l h) w/\∀j∈l,(h.get j).own (ρ j)->ρ'.mem (ρ j).blk=w.heap[(ρ j).blk]?
 | [],h,ρ,hm=>⟨ρ,rfl,λ_ _ h=>h,rfl,hm,λj hj=>by cases hj⟩
 |j::r,h,ρ,hm=>by
  by_cases hown:(h.get j).own (ρ j)
  .obtain⟨o,ho⟩:=SO.fit_some (hm.ob j) hown;have hfz:=hm.freeze hown ho;obtain⟨ρ',e1,e2,e3,e4,e5⟩:=HM.freezeAll r hfz;have hag:=q6r (n:=h.nx) (o:=o) ρ (hm.sep j hown);refine⟨ρ',e1,λb o' hb=>e2 b o' (hag.2.1 b o' hb),e3,e4,λi hi hio=>?_⟩;by_cases hij:i=j
   .subst hij;rw[ho];exact e2 _ _ (by simp[Rh.frz])
   .rcases List.mem_cons.1 hi with hi|hi
    .exact absurd hi hij
    .exact e5 i hi (by rw[SH.get_set,if_neg hij];exact hio)
  .obtain⟨ρ',e1,e2,e3,e4,e5⟩:=HM.freezeAll r (hm.forget j);refine⟨ρ',e1,e2,e3,e4,λi hi hio=>?_⟩;by_cases hij:i=j
   .subst hij;exact absurd hio hown
   .rcases List.mem_cons.1 hi with hi|hi
    .exact absurd hi hij
    .exact e5 i hi (by rw[SH.get_set,if_neg hij];exact hio)
theorem HM.relay(hm:HM M w0 ρ h w){sos:List SO}{src:List (Option Nat)}(ρ':Rh)(hinj:∀k k' j:Nat,src[k]?=some (some j)->src[k']?=some (some j)->k=k')(hmem:ρ'.mem=ρ.mem)(hlo:ρ'.lo=ρ.lo)
  (hyes:∀k j:Nat,src[k]?=some (some j)->ρ' k=ρ j) (hno:∀k:Nat,k<sos.length->src[k]?=some none->ρ' k=⟨0,0,0,true⟩)
  (hso:∀(k:Nat)(so:SO),sos[k]?=some so->(src[k]?=some none/\z7c so)\/∃j:Nat,src[k]?=some (some j)/\Ow so (h.get j)/\((h.get j).fit h.nx ρ (ρ j) w.heap[(ρ j).blk]?->so.fit sos.length ρ' (ρ j) w.heap[(ρ j).blk]?)):HM M w0 ρ' (q0u sos) w:=by
 have hsrc:∀k,((q0u sos).get k).own (ρ' k)->∃j:Nat,src[k]?=some (some j)/\(h.get j).own (ρ j)/\ρ' k=ρ j:=λk hk=>by
  rw[q0v]at hk;cases hs:sos[k]? with
  |none=>rw[hs]at hk;exact hk.elim
  |some so=>
   rw[hs]at hk;have hlt:=(List.getElem?_eq_some_iff.1 hs).1;rcases hso k so hs with ⟨h1,rfl|⟨t,sz,el,rfl⟩⟩|⟨j,h1,h2,_⟩
   .exact hk.elim
   .have hk:(ρ' k).nl=false:=hk;rw[hno k hlt h1]at hk;cases hk
   .rw[hyes k j h1]at hk;exact⟨j,h1,h2.1 _ hk,hyes k j h1⟩
 exact {
  os:=hm.os
  tape:=hm.tape
  output:=hm.output
  size:=hm.size
  block:=hm.block
  lt:=λk hk=>by
   rw[q0v]at hk;show k<sos.length;by_cases hlt:k<sos.length
   .exact hlt
   .rw[List.getElem?_eq_none (by omega)]at hk;cases hk
  ob:=λk=>by
   show((q0u sos).get k).fit sos.length ρ' (ρ' k) _;rw[q0v];cases hs:sos[k]? with
   |none=>trivial
   |some so=>
    have hlt:=(List.getElem?_eq_some_iff.1 hs).1;rcases hso k so hs with ⟨h1,rfl|⟨t,sz,el,rfl⟩⟩|⟨j,h1,_,h3⟩
    .trivial
    .rw[hno k hlt h1];exact⟨Nat.zero_le _,.inl ⟨rfl,rfl⟩⟩
    .rw[hyes k j h1];exact h3 (hm.ob j)
  ow:=λk hk=>by
   obtain⟨j,_,h2,h3⟩:=hsrc k hk;rw[h3];exact hm.ow j h2
  fz:=by rw[hmem];exact hm.fz
  sep:=λk hk=>by
   obtain⟨j,_,h2,h3⟩:=hsrc k hk;rw[h3,hmem];exact hm.sep j h2
  old:=by rw[hmem,hlo];exact hm.old
  env:=by rw[hmem];exact hm.env
  ab:=by
   have hab:∀k a,(q0u sos).get k=.abs a->∃j:Nat,src[k]?=some (some j)/\h.get j=.abs a/\ρ' k=ρ j:=λk a hk=>by
    rw[q0v]at hk;cases hs:sos[k]? with
    |none=>rw[hs]at hk;cases hk
    |some so=>
     rw[hs]at hk;have hk:so=.abs a:=hk;rcases hso k so hs with ⟨h1,rfl|⟨t,sz,el,rfl⟩⟩|⟨j,h1,h2,_⟩
     .cases hk
     .cases hk
     .exact⟨j,h1,h2.2 a hk,hyes k j h1⟩
   obtain⟨S,hS⟩:=hm.ab;refine⟨λk=>S (match src[k]? with|some (some j)=>j|_=>0),λk a hk=>?_⟩;obtain⟨j,h1,h2,h3⟩:=hab k a hk;simp only[h1];obtain⟨q1,q2⟩:=hS j a h2;rw[h3,hmem];refine⟨q1,λb hb=>?_⟩;obtain⟨r1,r2,r3,r4,r5⟩:=q2 b hb;refine⟨r1,r2,r3,λk' hk'=>?_,λk' a' hk' hb'=>?_⟩
   .obtain⟨j',_,h2',h3'⟩:=hsrc k' hk';rw[h3'];exact r4 j' h2'
   .obtain⟨j',h1',h2',h3'⟩:=hab k' a' hk';simp only[h1']at hb';have:=r5 j' a' h2' hb';subst this;exact hinj k k' j h1 h1'
  inj:=λk k' hk hk' he=>by
   obtain⟨j,h1,h2,h3⟩:=hsrc k hk;obtain⟨j',h1',h2',h3'⟩:=hsrc k' hk';rw[h3,h3']at he;have:=hm.inj j j' h2 h2' he;subst this;exact hinj k k' j h1 h1'}
end
end Go.Sx
