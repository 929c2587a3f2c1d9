/- Keys of maps: what the machine asks of them, and where it finds them. -/
import Derived.Test.YtapdglacmebbaaaDoorZG013abc8b
import Derived.MapKept
import Derived.RangeFuncRecord
set_option linter.unusedVariables false
set_option linter.unusedSimpArgs false
set_option linter.constructorNameAsVariable false
set_option linter.all false

namespace Go.Sx
open Go.RowKit
variable[Env]
section
variable{P:Program}{w:World}{ρ:Rh}
def valSV(ag:Bool)(cells:List SV):SV:=
 match ag with
 |true=>.agg cells
 |false=>match cells with
  | [s]=>s
  |_=>.u
theorem q7h{α:Type}{f:α->Option (List Bool)}:∀{l:List α}{bs:List Bool},flatM f l=some bs->∀x∈l,∃b,f x=some b/\(conj bs=true->conj b=true)
 | [],_,_,_,h=>by cases h
 |y::l,bs,h,x,hx=>by
  simp only[flatM]at h;split at h
  .rename_i a b ha hb;simp only[Option.some.injEq]at h;subst h;rcases List.mem_cons.1 hx with rfl|hx
   .exact⟨a,ha,λhc=>by rw[q58,Bool.and_eq_true]at hc;exact hc.1⟩
   .obtain⟨b',h1,h2⟩:=q7h hb x hx;exact⟨b',h1,λhc=>by rw[q58,Bool.and_eq_true]at hc;exact h2 hc.2⟩
  .cases h
theorem q3a{n:Nat}:∀(d k:Nat)(t:TypeId)(a b:SV)(x:Value)(bs:List Bool)(em:Bool),eqV P d t a b=some bs->a.fit n ρ x->∀w,(Instr.checkKey em (d+k) t x).run P w=.ok () w
 |0,_,_,_,_,_,_,_,h,_,_=>by simp[eqV]at h
 |d+1,k,t,a,b,x,bs,em,hh,ha,w=>by
  rw[show d+1+k=(d+k)+1 by omega];unfold eqV at hh;unfold Instr.checkKey;split at hh
  .rename_i hu;split at hh
   .rename_i _ y1 _ y2 h1 h2;rw[SV.bool_fit h1 ha];simp[run_underlying hu]
   .cases hh
  .rename_i hu;split at hh
   .rename_i _ q y1 _ q' y2 h1 h2;rw[SV.int_fit h1 ha];simp[run_underlying hu]
   .cases hh
  .rename_i hu;split at hh
   .rename_i _ y1 _ y2 h1 h2;rw[SV.str_fit h1 ha];simp[run_underlying hu]
   .cases hh
  .rename_i fs hu;split at hh
   .rename_i xs ys h1 h2;obtain⟨l,rfl,hl⟩:=SV.agg_fit h1 ha;cases hst:P.stoodInHeld t with
    |true=>simp[hst]at hh
    |false=>
     simp only[hst,cond_false]at hh;simp only[Sem.run_bind,run_underlying hu,Result.andThen_ok];rw[<-Array.forIn_toList];have each:=λf hf=>q7h hh f hf;clear hh;generalize fs.toList=L at each
     induction L with
     |nil=>simp
     |cons f L ih=>
      obtain⟨b1,hb1,_⟩:=each f (List.mem_cons_self ..)
      have hname:(f.name== "_")=false:=by
       cases hn:(f.name== "_")with
       |false=>rfl
       |true=>simp[hn]at hb1
      simp only[hname,cond_false]at hb1;split at hb1
      .rename_i y1 y2 hu1 hv1;obtain⟨a1,hfa,hra⟩:=q43 hu1 hl;have p2:=q3a d k f.type y1 y2 a1 b1 em hb1 hfa w;simp only[List.forIn_cons,Sem.run_bind,beq_eq_false_iff_ne.1 hname,ne_eq,not_false_eq_true,if_true,Result.andThen_ok,hra,p2,Sem.run_pure];exact ih λy hy=>each y (List.mem_cons_of_mem _ hy)
      .cases hb1
   .cases hh
  .rename_i len e hu;split at hh
   .rename_i xs ys sz h1 h2 hsz;obtain⟨l,rfl,hl⟩:=SV.agg_fit h1 ha;simp only[Sem.run_bind,run_underlying hu,Result.andThen_ok];simp only[Std.Legacy.Range.forIn_eq_forIn_range',Std.Legacy.Range.size,Nat.sub_zero,Nat.add_one_sub_one,Nat.div_one];rw[List.range_eq_range']at hh;have each:=λf hf=>q7h hh f hf;clear hh;generalize List.range' 0 len=L at each
    induction L with
    |nil=>simp
    |cons f L ih=>
     obtain⟨b1,hb1,_⟩:=each f (List.mem_cons_self ..);split at hb1
     .rename_i y1 y2 hu1 hv1;obtain⟨a1,hfa,hra⟩:=q43 hu1 hl;have p2:=q3a d k e y1 y2 a1 b1 em hb1 hfa w;simp only[List.forIn_cons,Sem.run_bind,q0k hsz,Result.andThen_ok,hra,p2,Sem.run_pure];exact ih λy hy=>each y (List.mem_cons_of_mem _ hy)
     .cases hb1
   .cases hh
  .cases hh
def flatO{α β:Type}(f:α->Option (List β)):List α->Option (List β)
 | []=>some []
 |x::r=>match f x,flatO f r with
  |some a,some b=>some (a++b)
  |_,_=>none
theorem flatO_mem{α β:Type}{f:α->Option (List β)}:∀{l:List α}{bs:List β},flatO f l=some bs->∀p∈bs,∃x∈l,∃b,f x=some b/\p∈b
 | [],_,h,p,hp=>by simp only[flatO,Option.some.injEq]at h;subst h;cases hp
 |y::l,bs,h,p,hp=>by
  simp only[flatO]at h;split at h
  .rename_i a b ha hb;simp only[Option.some.injEq]at h;subst h;rcases List.mem_append.1 hp with hp|hp
   .exact⟨y,List.mem_cons_self ..,a,ha,hp⟩
   .obtain⟨x,h1,b',h2,h3⟩:=flatO_mem hb p hp;exact⟨x,List.mem_cons_of_mem _ h1,b',h2,h3⟩
  .cases h
def covP(P:Program):Nat->TypeId->Option (List Nat)
 |0,_=>none
 |d+1,t=>match P.underlying t with
  |some .bool=>some [0]
  |some (.int _)=>some [0]
  |some .string=>some [0]
  |some (.struct fs)=>flatO (λf:Field=>(covP P d f.type).map λl=>l.map (·+f.offset)) fs.toList
  |some (.array n e)=>match szOf P e with
   |some sz=>flatO (λi=>(covP P d e).map λl=>l.map (·+i*sz)) (List.range n)
   |none=>none
  |_=>none
theorem q9e{t:TypeId}{l:List Value}{o p:Nat}{xs:List SV}{s:SV}{a u:Value}{n:Nat}(hs:partV P t xs o=some s)(hl:SV.fits n ρ xs l)(hra:∀w,(part t l.toArray o).run P w=.ok a w)(hu:a.cells[p]?=some u)(hp1:aggT P t=some false->a.cells=#[a]):l[o+p]?=some u:=by
 unfold partV at hs;split at hs
 .rename_i n0 hag hsz
  have:a=.agg ((l.drop o).take n0).toArray:=by
   have h1:=hra default
   have h2:(part t l.toArray o).run P default=.ok (.agg ((l.drop o).take n0).toArray) default:=by
    unfold part;simp only[Sem.run_bind,q4m hag,Result.andThen_ok,if_true,q0k hsz];simp[List.extract_eq_drop_take]
   rw[h1]at h2;simpa using h2
  subst this;simp only[Value.cells,List.getElem?_toArray]at hu;rw[List.getElem?_take]at hu;split at hu
  .rwa [List.getElem?_drop]at hu
  .cases hu
 .rename_i _ hag;have h1:=hra default;obtain⟨x,hx,_⟩:=q44 hl hs
  have h2:(part t l.toArray o).run P default=.ok x default:=by
   unfold part;simp[q4m hag,hx]
  rw[h1]at h2;have:a=x:=by simpa using h2
  subst this;rw[hp1 hag]at hu;cases p with
  |zero=>simpa [hx]using hu
  |succ p=>simp at hu
 .cases hs
def scal:Value->Bool
 | .bool _| .int _ _| .string _=>true
 |_=>false
theorem scal_same{x:Value}(h:scal x=true)(n:Nat):Instr.sameBits n x x=true:=by
 cases x<;>simp_all[scal,Instr.sameBits,qa4]
theorem aggT_scal{t:TypeId}(h:aggT P t=some false):∀{d:Nat}{n:Nat}{a b:SV}{x:Value}{bs:List Bool},eqV P d t a b=some bs->a.fit n ρ x->x.cells=#[x]
 |0,_,_,_,_,_,hh,_=>by simp[eqV]at hh
 |d+1,n,a,b,x,bs,hh,ha=>by
  unfold eqV at hh;split at hh
  .split at hh
   .rename_i h1 h2;rw[SV.bool_fit h1 ha];rfl
   .cases hh
  .split at hh
   .rename_i h1 h2;rw[SV.int_fit h1 ha];rfl
   .cases hh
  .split at hh
   .rename_i h1 h2;rw[SV.str_fit h1 ha];rfl
   .cases hh
  .rename_i hu;simp[aggT,hu]at h
  .rename_i hu;simp[aggT,hu]at h
  .cases hh
theorem aggT_scal'{t:TypeId}(h:aggT P t=some false):∀{d:Nat}{n:Nat}{a b:SV}{x:Value}{bs:List Bool},eqV P d t a b=some bs->b.fit n ρ x->x.cells=#[x]
 |0,_,_,_,_,_,hh,_=>by simp[eqV]at hh
 |d+1,n,a,b,x,bs,hh,ha=>by
  unfold eqV at hh;split at hh
  .split at hh
   .rename_i h1 h2;rw[SV.bool_fit h2 ha];rfl
   .cases hh
  .split at hh
   .rename_i h1 h2;rw[SV.int_fit h2 ha];rfl
   .cases hh
  .split at hh
   .rename_i h1 h2;rw[SV.str_fit h2 ha];rfl
   .cases hh
  .rename_i hu;simp[aggT,hu]at h
  .rename_i hu;simp[aggT,hu]at h
  .cases hh
theorem cov_ok{n:Nat}:∀(d:Nat)(t:TypeId)(a b:SV)(x y:Value)(bs:List Bool)(ps:List Nat),eqV P d t a b=some bs->conj bs=true->a.fit n ρ x->b.fit n ρ y->covP P d t=some ps->
  ∀p∈ps,∃u,scal u=true/\x.cells[p]?=some u/\y.cells[p]?=some u
 |0,_,_,_,_,_,_,_,h,_,_,_,_=>by simp[eqV]at h
 |d+1,t,a,b,x,y,bs,ps,hh,hc,ha,hb,hcov=>by
  unfold eqV at hh;unfold covP at hcov;split at hh
  .rename_i hu;simp only[hu,Option.some.injEq]at hcov;subst hcov;split at hh
   .rename_i _ y1 _ y2 h1 h2;simp only[Option.some.injEq]at hh;subst hh;have e:y1=y2:=by simpa [conj]using hc
    rw[SV.bool_fit h1 ha,SV.bool_fit h2 hb,e];intro p hp;simp only[List.mem_singleton]at hp;subst hp;exact⟨_,rfl,rfl,rfl⟩
   .cases hh
  .rename_i hu;simp only[hu,Option.some.injEq]at hcov;subst hcov;split at hh
   .rename_i _ q y1 _ q' y2 h1 h2;cases hq:decide (q=q')with
    |false=>simp[hq]at hh
    |true=>
     have hqq:=of_decide_eq_true hq;simp only[hq,cond_true,Option.some.injEq]at hh;subst hh;subst hqq;have e:y1=y2:=by simpa [conj]using hc
     rw[SV.int_fit h1 ha,SV.int_fit h2 hb,e];intro p hp;simp only[List.mem_singleton]at hp;subst hp;exact⟨_,rfl,rfl,rfl⟩
   .cases hh
  .rename_i hu;simp only[hu,Option.some.injEq]at hcov;subst hcov;split at hh
   .rename_i _ y1 _ y2 h1 h2;simp only[Option.some.injEq]at hh;subst hh;have e:y1=y2:=by simpa [conj]using hc
    rw[SV.str_fit h1 ha,SV.str_fit h2 hb,e];intro p hp;simp only[List.mem_singleton]at hp;subst hp;exact⟨_,rfl,rfl,rfl⟩
   .cases hh
  .rename_i fs hu;simp only[hu]at hcov;split at hh
   .rename_i xs ys h1 h2;obtain⟨l,rfl,hl⟩:=SV.agg_fit h1 ha;obtain⟨m,rfl,hm⟩:=SV.agg_fit h2 hb;cases hst:P.stoodInHeld t with
    |true=>simp[hst]at hh
    |false=>
     simp only[hst,cond_false]at hh;intro p hp;obtain⟨f,hf,qs,hq1,hq2⟩:=flatO_mem hcov p hp;obtain⟨b1,hb1,hb2⟩:=q7h hh f hf;have hc1:=hb2 hc;cases hn:(f.name== "_")with
     |true=>simp[hn]at hb1
     |false=>
      simp only[hn,cond_false]at hb1;split at hb1
      .rename_i y1 y2 hu1 hv1;obtain⟨a1,hfa,hra⟩:=q43 hu1 hl;obtain⟨a2,hfb,hrb⟩:=q43 hv1 hm;cases hcp:covP P d f.type with
       |none=>rw[hcp]at hq1;cases hq1
       |some rs=>
        rw[hcp]at hq1;simp only[Option.map_some,Option.some.injEq]at hq1;subst hq1;obtain⟨r,hr,rfl⟩:=List.mem_map.1 hq2;obtain⟨u,k1,k2,k3⟩:=cov_ok d f.type y1 y2 a1 a2 b1 rs hb1 hc1 hfa hfb hcp r hr;have e1:=q9e hu1 hl hra k2 (λh=>aggT_scal h hb1 hfa);have e2:=q9e hv1 hm hrb k3 (λh=>aggT_scal' h hb1 hfb);refine⟨u,k1,?_,?_⟩
        .rw[Nat.add_comm];simpa [Value.cells]using e1
        .rw[Nat.add_comm];simpa [Value.cells]using e2
      .cases hb1
   .cases hh
  .rename_i len e hu;simp only[hu]at hcov;split at hh
   .rename_i xs ys sz h1 h2 hsz;simp only[hsz]at hcov;obtain⟨l,rfl,hl⟩:=SV.agg_fit h1 ha;obtain⟨m,rfl,hm⟩:=SV.agg_fit h2 hb;intro p hp;obtain⟨f,hf,qs,hq1,hq2⟩:=flatO_mem hcov p hp;obtain⟨b1,hb1,hb2⟩:=q7h hh f hf;have hc1:=hb2 hc;split at hb1
    .rename_i y1 y2 hu1 hv1;obtain⟨a1,hfa,hra⟩:=q43 hu1 hl;obtain⟨a2,hfb,hrb⟩:=q43 hv1 hm;cases hcp:covP P d e with
     |none=>rw[hcp]at hq1;cases hq1
     |some rs=>
      rw[hcp]at hq1;simp only[Option.map_some,Option.some.injEq]at hq1;subst hq1;obtain⟨r,hr,rfl⟩:=List.mem_map.1 hq2;obtain⟨u,k1,k2,k3⟩:=cov_ok d e y1 y2 a1 a2 b1 rs hb1 hc1 hfa hfb hcp r hr;have e1:=q9e hu1 hl hra k2 (λh=>aggT_scal h hb1 hfa);have e2:=q9e hv1 hm hrb k3 (λh=>aggT_scal' h hb1 hfb);refine⟨u,k1,?_,?_⟩
      .rw[Nat.add_comm];simpa [Value.cells]using e1
      .rw[Nat.add_comm];simpa [Value.cells]using e2
    .cases hb1
   .cases hh
  .cases hh
def tileP(P:Program)(t:TypeId)(ks:Nat):Bool:=
 match covP P 50 t with
 |some ps=>(List.range ks).all λi=>ps.any (Nat.beq i)
 |none=>false
theorem same_ok{n ks:Nat}{t:TypeId}{a b:SV}{x y:Value}{bs:List Bool}(ht:tileP P t ks=true)(hh:eqV P 50 t a b=some bs)(hc:conj bs=true)(ha:a.fit n ρ x)(hb:b.fit n ρ y)(hx:x.cells.size=ks)(hy:y.cells.size=ks)(k:Nat):
  x=y/\Instr.sameBits (k+2) x x=true:=by
 unfold tileP at ht;split at ht
 .rename_i ps hps
  have hall:∀i,i<ks->∃u,scal u=true/\x.cells[i]?=some u/\y.cells[i]?=some u:=λi hi=>by
   have:=List.all_eq_true.1 ht i (List.mem_range.2 hi);obtain⟨j,hj,e⟩:=List.any_eq_true.1 this;rw[q02 e];exact cov_ok 50 t a b x y bs ps hh hc ha hb hps j hj
  have one:x.cells=#[x]->y.cells=#[y]->x=y/\Instr.sameBits (k+2) x x=true:=λe1 e2=>by
   rw[e1]at hx;obtain⟨u,h1,h2,h3⟩:=hall 0 (by simp at hx;omega);rw[e1]at h2;rw[e2]at h3;simp only[List.size_toArray,List.length_cons,List.length_nil,Nat.zero_add,Nat.lt_add_one,getElem?_pos,List.getElem_toArray,List.getElem_cons_zero,Option.some.injEq]at h2 h3;rw[h2,h3];exact⟨rfl,scal_same h1 _⟩
  have agg:∀l m,x=.agg l->y=.agg m->x=y/\Instr.sameBits (k+2) x x=true:=λl m e1 e2=>by
   subst e1;subst e2;simp only[Value.cells]at hx hy hall
   have hlm:l=m:=Array.ext (by omega) λi h1 h2=>by
    obtain⟨u',_,h4,h5⟩:=hall i (by omega);rw[Array.getElem?_eq_getElem h1]at h4;rw[Array.getElem?_eq_getElem h2]at h5;injection h4 with h4
    injection h5 with h5
    rw[h4,h5]
   subst hlm;refine⟨rfl,?_⟩;simp only[Instr.sameBits,BEq.rfl,Bool.true_and,List.all_eq_true];rintro⟨u,v⟩ huv;obtain⟨i,hi,e⟩:=List.getElem_of_mem huv;simp only[List.getElem_zip,Prod.mk.injEq]at e;simp only[List.length_zip,Array.length_toList]at hi;obtain⟨u',h1,h2,h3⟩:=hall i (by omega)
   have e1:l[i]?=some u:=by
    rw[<-e.1];simp
   have e2:l[i]?=some v:=by
    rw[<-e.2];simp
   rw[h2]at e1 e2;cases e1;cases e2;exact scal_same h1 _
  have h50:=hh;unfold eqV at h50;split at h50
  .split at h50
   .rename_i h1 h2;exact one (by rw[SV.bool_fit h1 ha];rfl) (by rw[SV.bool_fit h2 hb];rfl)
   .cases h50
  .split at h50
   .rename_i h1 h2;exact one (by rw[SV.int_fit h1 ha];rfl) (by rw[SV.int_fit h2 hb];rfl)
   .cases h50
  .split at h50
   .rename_i h1 h2;exact one (by rw[SV.str_fit h1 ha];rfl) (by rw[SV.str_fit h2 hb];rfl)
   .cases h50
  .split at h50
   .rename_i h1 h2;obtain⟨l,e1,_⟩:=SV.agg_fit h1 ha;obtain⟨m,e2,_⟩:=SV.agg_fit h2 hb;exact agg _ _ e1 e2
   .cases h50
  .split at h50
   .rename_i h1 h2 _;obtain⟨l,e1,_⟩:=SV.agg_fit h1 ha;obtain⟨m,e2,_⟩:=SV.agg_fit h2 hb;exact agg _ _ e1 e2
   .cases h50
  .cases h50
 .cases ht
def kfind(f:Nat->Bool):Nat->Nat->Nat
 |0,e=>e
 |k+1,e=>bif f e then e else kfind f k (e+1)
theorem kfind_le(f:Nat->Bool):∀(k e:Nat),e<=kfind f k e/\kfind f k e<=e+k
 |0,e=>⟨Nat.le_refl _,Nat.le_refl _⟩
 |k+1,e=>by
  simp only[kfind];have:=kfind_le f k (e+1);cases f e<;>simp only[cond_true,cond_false]<;>omega
theorem kfind_at(f:Nat->Bool):∀(k e:Nat),kfind f k e<e+k->f (kfind f k e)=true
 |0,e,h=>by simp[kfind]at h
 |k+1,e,h=>by
  simp only[kfind]at h ⊢;cases hf:f e with
  |true=>exact hf
  |false=>
   rw[hf]at h;simp only[cond_false]at h ⊢;exact kfind_at f k (e+1) (by omega)
theorem q9w{t:TypeId}{k:Value}{f:Nat->Bool}:∀(l:List MapEntry)(i:Nat),(∀j x,l[j]?=some x->∀w,(Op.equal t k x.key).run P w=.ok (f (i+j)) w)->
  ∀w,(Instr.findAsking t k l i).run P w=.ok (match l[kfind f l.length i-i]? with
   |some x=>some (kfind f l.length i,x.val)
   |none=>none) w
 | [],i,_,w=>by simp[Instr.findAsking]
 |x::l,i,h,w=>by
  have h0:=h 0 x rfl w;rw[Nat.add_zero]at h0;have ih:=q9w (f:=f) l (i+1) (λj y hy w=>by rw[show i+1+j=i+(j+1) by omega];exact h (j+1) y (by simpa using hy) w) w;simp only[Instr.findAsking,Sem.run_bind,h0,Result.andThen_ok,List.length_cons,kfind];cases hf:f i with
  |true=>simp
  |false=>
   simp only[Bool.false_eq_true,if_false,cond_false];rw[ih];have hle:=(kfind_le f l.length (i+1)).1;obtain⟨q,hq⟩:∃q,kfind f l.length (i+1)=i+1+q:=⟨_,(Nat.add_sub_of_le hle).symm⟩;rw[hq,show i+1+q-(i+1)=q by omega,show i+1+q-i=q+1 by omega];simp
theorem findNow_at{d:TypeDesc}{k:Value}{f:Nat->Bool}:∀(l:List MapEntry)(i:Nat),(∀j x,l[j]?=some x->Instr.sameNow d k x.key=some (f (i+j)))->
  Instr.findNow d k l i=some (match l[kfind f l.length i-i]? with
   |some x=>some (kfind f l.length i,x.val)
   |none=>none)
 | [],i,_=>by simp[Instr.findNow]
 |x::l,i,h=>by
  have h0:=h 0 x rfl;rw[Nat.add_zero]at h0;have ih:=findNow_at (f:=f) l (i+1) (λj y hy=>by rw[show i+1+j=i+(j+1) by omega];exact h (j+1) y (by simpa using hy));simp only[Instr.findNow,h0,List.length_cons,kfind];cases hf:f i with
  |true=>simp
  |false=>
   simp only[cond_false];rw[ih];have hle:=(kfind_le f l.length (i+1)).1;obtain⟨q,hq⟩:∃q,kfind f l.length (i+1)=i+1+q:=⟨_,(Nat.add_sub_of_le hle).symm⟩;rw[hq,show i+1+q-(i+1)=q by omega,show i+1+q-i=q+1 by omega];simp
theorem sameNow_ok{n:Nat}{t:TypeId}{d:TypeDesc}(hu:P.underlying t=some d){a b:SV}{x y:Value}{bs:List Bool}(hh:eqV P 50 t a b=some bs)(ha:a.fit n ρ x)(hb:b.fit n ρ y):
  (∃fs,d=.struct fs)\/(∃m e,d=.array m e)\/Instr.sameNow d x y=some (conj bs):=by
 unfold eqV at hh;split at hh
 .rename_i hu';rw[hu]at hu';cases hu';split at hh
  .rename_i h1 h2;simp only[Option.some.injEq]at hh;subst hh;rw[SV.bool_fit h1 ha,SV.bool_fit h2 hb];exact .inr (.inr rfl)
  .cases hh
 .rename_i hu';rw[hu]at hu';cases hu';split at hh
  .rename_i _ q y1 _ q' y2 h1 h2;cases hq:decide (q=q')with
   |false=>simp[hq]at hh
   |true=>
    have hqq:=of_decide_eq_true hq;simp only[hq,cond_true,Option.some.injEq]at hh;subst hh;subst hqq;rw[SV.int_fit h1 ha,SV.int_fit h2 hb];exact .inr (.inr (by simp[Instr.sameNow,conj]))
  .cases hh
 .rename_i hu';rw[hu]at hu';cases hu';split at hh
  .rename_i h1 h2;simp only[Option.some.injEq]at hh;subst hh;rw[SV.str_fit h1 ha,SV.str_fit h2 hb];exact .inr (.inr (by simp[Instr.sameNow,conj,qa4]))
  .cases hh
 .rename_i fs hu';rw[hu]at hu';cases hu';exact .inl ⟨_,rfl⟩
 .rename_i m e hu';rw[hu]at hu';cases hu';exact .inr (.inl ⟨_,_,rfl⟩)
 .cases hh
theorem findKey_ok{n:Nat}{t:TypeId}{d:TypeDesc}(hu:P.underlying t=some d){a:SV}{k:Value}(ha:a.fit n ρ k){s:Nat->SV}{f:Nat->Bool}{es:Array MapEntry}
  (hs:∀(e:Nat)(x:MapEntry),es[e]?=some x->(s e).fit n ρ x.key/\∃bs,eqV P 50 t a (s e)=some bs/\f e=conj bs) (w:World) :
  (Instr.findKey t k es.toList).run P w=.ok (match es[kfind f es.size 0]? with
   |some x=>some (kfind f es.size 0,x.val)
   |none=>none) w:=by
 have hget:∀j x,es.toList[j]?=some x->es[j]?=some x:=λj x h=>by rw[<-Array.getElem?_toList];exact h
 have h1:=q9w (P:=P) (t:=t) (k:=k) (f:=f) es.toList 0 (λj x hx w=>by
  obtain⟨h1,bs,h2,h3⟩:=hs j x (hget j x hx);rw[Nat.zero_add,h3];exact eqV_ok 50 9950 t a (s j) k x.key bs h2 ha h1 w) w
 simp only[Array.length_toList,Nat.sub_zero,Array.getElem?_toList]at h1;unfold Instr.findKey;simp only[Sem.run_bind,run_underlying hu,Result.andThen_ok];by_cases hd:(∃fs,d=.struct fs)\/(∃m e,d=.array m e)
 .have:Instr.findNow d k es.toList 0=none\/es.toList=[]:=by
   cases hl:es.toList with
   |nil=>exact .inr rfl
   |cons x l=>
    left;rcases hd with ⟨fs,rfl⟩|⟨m,e,rfl⟩<;>simp[Instr.findNow,Instr.sameNow]
  rcases this with h|h
  .rw[h];exact h1
  .rw[h]at h1 ⊢;have h2:(Instr.findNow d k [] 0)=some none:=rfl;rw[h2];simp only[Instr.findAsking,Sem.run_pure]at h1 ⊢;exact h1
 .have h2:=findNow_at (d:=d) (k:=k) (f:=f) es.toList 0 (λj x hx=>by
   obtain⟨h1,bs,h2,h3⟩:=hs j x (hget j x hx);rw[Nat.zero_add,h3];rcases sameNow_ok hu h2 ha h1 with h|h|h
   .exact absurd (.inl h) hd
   .exact absurd (.inr h) hd
   .exact h)
  simp only[Array.length_toList,Nat.sub_zero,Array.getElem?_toList]at h2;rw[h2];rfl
end
end Go.Sx

namespace Go.Sx
open Go.RowKit
variable[Env]
structure MapT where
 kt:TypeId
 ks:Nat
 ka:Bool
 vs:Nat
 va:Bool
 zk:List SV
 zv:List SV
def shapeOk(ag:Bool)(n:Nat)(z:Value):Bool:=
 match ag with
 |true=>(match z with
  | .agg cs=>Nat.beq cs.size n
  |_=>false)
 |false=>z.oneCell'&&Nat.beq n 1
def mapT(P:Program)(t:TypeId):Option MapT:=
 match P.underlying t with
 |some (.map kt vt)=>
  match aggT P kt,szOf P kt,zeroT P kt,aggT P vt,szOf P vt,zeroT P vt with
  |some ka,some ks,some zk,some va,some vs,some zv=>
   bif tileP P kt ks&&(shapeOk ka ks zk&&shapeOk va vs zv)then some ⟨kt,ks,ka,vs,va,zk.cells.toList.map .k,zv.cells.toList.map .k⟩else none
  |_,_,_,_,_,_=>none
 |_=>none
theorem shape_un{ag:Bool}{n:Nat}{z:Value}(h:shapeOk ag n z=true):z=unval ag z.cells.toList/\z.cells.size=n/\(ag=false->n=1):=by
 unfold shapeOk at h;cases ag with
 |true=>
  simp only at h;split at h
  .rename_i cs;exact⟨by simp[unval,Value.cells],q02 h,λh=>by cases h⟩
  .cases h
 |false=>
  simp only[Bool.and_eq_true]at h
  have hc:z.cells=#[z]:=by
   have:=h.1;cases z<;>simp_all[Value.cells,Value.oneCell']
  rw[hc];exact⟨rfl,(q02 h.2).symm,λ_=>q02 h.2⟩
def nilM0:Value->Bool
 | .map none=>true
 |_=>false
theorem nilM0_eq{y:Value}(h:nilM0 y=true):y=.map none:=by
 unfold nilM0 at h;split at h
 .rfl
 .cases h
structure MapTS(P:Program)(t:TypeId)(T:MapT):Prop where
 un:∃vt d zv,P.underlying t=some (.map T.kt vt)/\P.underlying T.kt=some d/\zeroT P vt=some zv/\T.zv=zv.cells.toList.map .k/\zv=unval T.va zv.cells.toList/\zv.cells.size=T.vs
 zk:∃zk:Value,T.zk=zk.cells.toList.map .k/\zk.cells.size=T.ks
 tile:tileP P T.kt T.ks=true
 ka:aggT P T.kt=some T.ka
 k1:T.ka=false->T.ks=1
 v1:T.va=false->T.vs=1
theorem qae{P:Program}{t:TypeId}{T:MapT}(h:mapT P t=some T):MapTS P t T:=by
 unfold mapT at h;split at h
 .rename_i kt vt hu;split at h
  .rename_i ka ks zk va vs zv h1 h2 h3 h4 h5 h6;obtain⟨hc,h⟩:=q4q h;simp only[Option.some.injEq]at h;subst h;simp only[Bool.and_eq_true]at hc;obtain⟨c1,c2,c3⟩:=hc;obtain⟨a1,a2,a3⟩:=shape_un c2;obtain⟨b1,b2,b3⟩:=shape_un c3
   have hd:∃d,P.underlying kt=some d:=by
    unfold aggT at h1;split at h1
    .rename_i hx;exact⟨_,hx⟩
    .rename_i hx;exact⟨_,hx⟩
    .rename_i hx;exact⟨_,hx⟩
    .cases h1
   obtain⟨d,hd⟩:=hd;exact⟨⟨vt,d,zv,hu,hd,h6,rfl,b1,b2⟩,⟨zk,rfl,a2⟩,c1,h1,a3,b3⟩
  .cases h
 .cases h
section
variable{P:Program}{M:Nat->Prop}{w0 w:World}{ρ:Rh}{h:SH}
theorem q19{n:Nat}{ag:Bool}{cs:List SV}{vs:List Value}(hf:SV.fits n ρ cs vs)(h1:ag=false->vs.length=1):(valSV ag cs).fit n ρ (unval ag vs):=by
 cases ag with
 |true=>exact⟨vs,rfl,hf⟩
 |false=>
  obtain⟨v,rfl⟩:=List.length_eq_one_iff.1 (h1 rfl);have hl:=q0a hf
  match cs,hl with
  | [s],_=>exact hf.1
def keyEq(P:Program)(kt:TypeId)(k s:SV):Bool:=
 match eqV P 50 kt k s with
 |some bs=>conj bs
 |none=>false
def keyOk(P:Program)(T:MapT)(k:SV)(c:List SV):Prop:=
 match Nat.beq c.length (T.ks+T.vs),eqV P 50 T.kt k (valSV T.ka (c.take T.ks))with
 |true,some _=>True
 |_,_=>False
theorem keyOk_ok{T:MapT}{k:SV}{c:List SV}(h:keyOk P T k c):c.length=T.ks+T.vs/\∃bs,eqV P 50 T.kt k (valSV T.ka (c.take T.ks))=some bs/\keyEq P T.kt k (valSV T.ka (c.take T.ks))=conj bs:=by
 unfold keyOk at h;split at h
 .rename_i bs h1 h2;exact⟨q02 h1,bs,h2,by simp only[keyEq,h2]⟩
 .exact h.elim
def Ents(n:Nat)(ρ:Rh)(T:MapT)(m:Nat)(c:Nat->List SV)(es:Array MapEntry):Prop:=
 es.size=m/\∀e,e<m->∃y kc vc,es[e]?=some y/\SV.fits n ρ (c e) (kc++vc)/\kc.length=T.ks/\vc.length=T.vs/\y.key=unval T.ka kc/\y.val=unval T.va vc
def kix(P:Program)(T:MapT)(k:SV)(m:Nat)(c:Nat->List SV):Nat:=kfind (λe=>keyEq P T.kt k (valSV T.ka ((c e).take T.ks))) m 0
theorem kix_le{T:MapT}{k:SV}{m:Nat}{c:Nat->List SV}:kix P T k m c<=m:=by
 have:=(kfind_le (λe=>keyEq P T.kt k (valSV T.ka ((c e).take T.ks))) m 0).2;unfold kix;omega
theorem ents_key{n:Nat}{T:MapT}{t:TypeId}(hT:MapTS P t T){m:Nat}{c:Nat->List SV}{es:Array MapEntry}(he:Ents n ρ T m c es){e:Nat}{y:MapEntry}(hy:es[e]?=some y):
  e<m/\(valSV T.ka ((c e).take T.ks)).fit n ρ y.key/\(valSV T.va (((c e).drop T.ks).take T.vs)).fit n ρ y.val/\∃kc,y.key=unval T.ka kc/\kc.length=T.ks:=by
 have hlt:e<m:=by
  have:=(Array.getElem?_eq_some_iff.1 hy).1;rw[he.1]at this;exact this
 obtain⟨y',kc,vc,q1,q2,q3,q4,q5,q6⟩:=he.2 e hlt;rw[hy]at q1;injection q1 with q1
 subst q1;have h1:=q0g T.ks q2;rw[List.take_left' q3]at h1;have h2:=q0g T.vs (q0f T.ks q2);rw[List.drop_left' q3,List.take_of_length_le (i:=T.vs) (l:=vc) (by omega)]at h2;refine⟨hlt,?_,?_,kc,q5,q3⟩
 .rw[q5];exact q19 h1 λh=>by rw[q3];exact hT.k1 h
 .rw[q6];exact q19 h2 λh=>by rw[q4];exact hT.v1 h
theorem key_size{n:Nat}{T:MapT}{t:TypeId}(hT:MapTS P t T){a b:SV}{x:Value}{bs:List Bool}{kc:List Value}(hx:x=unval T.ka kc)(hl:kc.length=T.ks)(hh:eqV P 50 T.kt a b=some bs)(hf:a.fit n ρ x\/b.fit n ρ x):x.cells.size=T.ks:=by
 cases hk:T.ka with
 |true=>rw[hx,hk];simp[unval,Value.cells,hl]
 |false=>
  have hag:=hT.ka;rw[hk]at hag
  have hc:x.cells=#[x]:=by
   rcases hf with hf|hf
   .exact aggT_scal hag hh hf
   .exact aggT_scal' hag hh hf
  rw[hc,hT.k1 hk];rfl
theorem q9v{n:Nat}{T:MapT}{t:TypeId}(hT:MapTS P t T){m:Nat}{c:Nat->List SV}{es:Array MapEntry}(he:Ents n ρ T m c es){k:SV}{kv:Value}(hk:k.fit n ρ kv)(hok:∀e,e<m->keyOk P T k (c e))(w:World):
  (Instr.findKey T.kt kv es.toList).run P w=.ok (match es[kix P T k m c]? with
   |some x=>some (kix P T k m c,x.val)
   |none=>none) w:=by
 obtain⟨vt,d,zv,_,hd,_⟩:=hT.un
 have:=findKey_ok (P:=P) (t:=T.kt) hd hk (s:=λe=>valSV T.ka ((c e).take T.ks)) (f:=λe=>keyEq P T.kt k (valSV T.ka ((c e).take T.ks))) (es:=es) (λe x hx=>by
  obtain⟨h1,h2,_⟩:=ents_key hT he hx;obtain⟨_,bs,h3,h4⟩:=keyOk_ok (hok e h1);exact⟨h2,bs,h3,h4⟩) w
 rw[he.1]at this;exact this
def lookG(P:Program)(T:MapT)(h:SH)(k:SV)(ok:Bool)(m:Nat)(c:Nat->List SV):Tr (SV×SH):=
 match eqV P 50 T.kt k k with
 |none=>.bad 801
 |some _=>
  let vc:=((c (kix P T k m c)).drop T.ks).take T.vs
  bif Nat.beq vc.length T.vs&&Nat.beq T.zv.length T.vs then
   .ask (∀e,e<m->keyOk P T k (c e)) (.ret (bif ok then .tup [valSV T.va (selC (decide (kix P T k m c<m)) vc T.zv),.v (.bool (decide (kix P T k m c<m)))]else valSV T.va (selC (decide (kix P T k m c<m)) vc T.zv),h))
  else .bad 802
def brAt{α:Type}:ElE->Nat->(List SV->Tr α)->Tr α
 | .set e ys r,k,f=>.br (decide (k=e)) (f ys) (brAt r k f)
 | .fn g,k,f=>f (g k)
 |E,k,f=>f (E.at k)
theorem brAt_holds{α:Type}{K:α->Prop}{f:List SV->Tr α}:∀(E:ElE)(k:Nat),(brAt E k f).Holds K->(f (E.at k)).Holds K
 | .set e ys r,k,h=>by
  by_cases he:k=e
  .simpa [ElE.at,he]using h.1 (decide_eq_true he)
  .simpa [ElE.at,he]using brAt_holds r k (h.2 (decide_eq_false he))
 | .fn g,k,h=>h
 | .put ..,k,h=>h
 | .app ..,k,h=>h
 | .sh ..,k,h=>h
 | .cond ..,k,h=>h
def isPtT(P:Program)(t:TypeId):Bool:=match P.underlying t with
 |some (.map _ vt)=>(match P.underlying vt with
  |some (.pointer _)=>true
  |_=>false)
 |_=>false
def lookB(P:Program)(T:MapT)(h:SH)(k:SV)(ok:Bool)(m:Nat)(el:ElE):Tr (SV×SH):=
 match eqV P 50 T.kt k k with
 |none=>.bad 801
 |some _=>
  .ask (∀e,e<m->keyOk P T k ((el.view e).take (T.ks+T.vs))) (.br (decide (kix P T k m (λe=>(el.view e).take (T.ks+T.vs))<m))
   (brAt el (kix P T k m λe=>(el.view e).take (T.ks+T.vs)) λys=>.ret (bif ok then .tup [valSV T.va ((ys.drop T.ks).take T.vs),.k (.bool true)]else valSV T.va ((ys.drop T.ks).take T.vs),h))
   (.ret (bif ok then .tup [valSV T.va T.zv,.k (.bool false)]else valSV T.va T.zv,h)))
def lookS(P:Program)(h:SH)(t:TypeId)(a k:SV)(ok:Bool):Tr (SV×SH):=
 match mapT P t with
 |none=>.bad 800
 |some T=>match a with
  | .mp i=>match h.get i with
   | .map ks vs ka va el m _ _=>bif Nat.beq ks T.ks&&(Nat.beq vs T.vs&&(ka==T.ka&&va==T.va))then .ask (∀e,e<m->(el.view e).length=T.ks+T.vs+1) (bif isPtT P t then lookB P T h k ok m el else lookG P T h k ok m λe=>(el.view e).take (T.ks+T.vs))else .bad 803
   |_=>.bad 804
  | .rm ks vs m ka va el=>bif Nat.beq ks T.ks&&(Nat.beq vs T.vs&&(ka==T.ka&&va==T.va))then lookG P T h k ok m el else .bad 805
  | .k y=>bif nilM0 y then lookG P T h k ok 0 (λ_=>T.zk++T.zv)else .bad 806
  |_=>.bad 807
theorem lookG_ok{T:MapT}{t:TypeId}(hT:MapTS P t T){k:SV}{x kv:Value}{ok:Bool}{m:Nat}{c:Nat->List SV}{es:Array MapEntry}(hm:HM M w0 ρ h w)(he:Ents h.nx ρ T m c es)(hk:k.fit h.nx ρ kv)
  (hx:(x=.map none/\es=#[])\/∃r clk,x=.map (some r)/\w.heap[r]?=some (.map es clk)) {K:SV×SH->Prop} (hK:(lookG P T h k ok m c).Holds K):GoodV P M w0 ρ h K (Instr.lookup t x kv ok) w:=by
 unfold lookG at hK;split at hK
 .exact hK.elim
 .rename_i bs hbs;obtain⟨hc,hok,hK⟩:=q08 hK;simp only[Bool.and_eq_true]at hc;obtain⟨c1,c2⟩:=hc;have hl1:=q02 c1;have hl2:=q02 c2;obtain⟨vt,d,zv,hu,hd,hz,hzv,hzu,hzs⟩:=hT.un;have hfind:=q9v hT he hk hok w;have hchk:∀em,(Instr.checkKey em 10000 T.kt kv).run P w=.ok () w:=λem=>q3a 50 9950 T.kt k k kv bs em hbs hk w;have hzr:=q71 (P:=P) hz w;have hsz:es.size=m:=he.1
  have hrun:(Instr.lookup t x kv ok).run P w=.ok (match es[kix P T k m c]? with
    |some y=>if ok then .tuple #[y.val,.bool true]else y.val
    |none=>if ok then .tuple #[zv,.bool false]else zv) w:=by
   unfold Instr.lookup;rcases hx with ⟨rfl,rfl⟩|⟨r,clk,rfl,hr⟩
   .have h0:(#[]:Array MapEntry)[kix P T k m c]?=none:=by simp
    rw[h0]at hfind ⊢;simp only[Sem.run_bind,run_underlying hu,Result.andThen_ok,Sem.run_pure,hchk,hfind];cases ok<;>simp[hzr]
   .have hg:(getObj r).run P w=.ok (.map es clk) w:=by simp[getObj,Sem.run,hr]
    simp only[Sem.run_bind,run_underlying hu,Result.andThen_ok,Sem.run_pure,hg,hchk,hfind];cases hj:es[kix P T k m c]? with
    |some y=>cases ok<;>simp
    |none=>cases ok<;>simp[hzr]
  have hval:(valSV T.va (selC (decide (kix P T k m c<m)) (((c (kix P T k m c)).drop T.ks).take T.vs) T.zv)).fit h.nx ρ (match es[kix P T k m c]? with
    |some y=>y.val
    |none=>zv):=by
   by_cases hlt:kix P T k m c<m
   .rw[decide_eq_true hlt];obtain⟨y,kc,vc,q1,q2,q3,q4,q5,q6⟩:=he.2 _ hlt;rw[q1];simp only;rw[q6];refine q19 ?_ λh=>by rw[q4];exact hT.v1 h
    refine qas (by omega) ?_;have h2:=q0g T.vs (q0f T.ks q2)
    rwa [List.drop_left' q3,List.take_of_length_le (i:=T.vs) (l:=vc) (by omega)]at h2
   .rw[decide_eq_false hlt]
    have:es[kix P T k m c]?=none:=by
     rw[Array.getElem?_eq_none_iff];omega
    rw[this];simp only;rw[hzu];refine q19 ?_ λh=>by rw[Array.length_toList,hzs];exact hT.v1 h
    refine qar (by omega) ?_;rw[hzv];exact q6v _
  have hfound:(match es[kix P T k m c]? with
    |some _=>true
    |none=>false)=decide (kix P T k m c<m):=by
   by_cases hlt:kix P T k m c<m
   .rw[decide_eq_true hlt,Array.getElem?_eq_getElem (by omega)]
   .rw[decide_eq_false hlt];rw[Array.getElem?_eq_none_iff.2 (by omega)]
  refine GoodV.same hm hK ?_ hrun;cases ok with
  |false=>
   simp only[cond_false,Bool.false_eq_true,if_false];exact hval
  |true=>
   simp only[cond_true,if_true];refine⟨[match es[kix P T k m c]? with
    |some y=>y.val
    |none=>zv,.bool (decide (kix P T k m c<m))],?_,hval,rfl,trivial⟩
   rw[<-hfound];cases es[kix P T k m c]? <;>rfl
theorem lookB_ok{T:MapT}{t:TypeId}(hT:MapTS P t T){k:SV}{kv:Value}{ok:Bool}{m:Nat}{el:ElE}{es:Array MapEntry}{r:Nat}{clk:Nat}(hm:HM M w0 ρ h w)(he:Ents h.nx ρ T m (λe=>(el.view e).take (T.ks+T.vs)) es)(hk:k.fit h.nx ρ kv)
  (hr:w.heap[r]?=some (.map es clk)) (hE:∀e,e<m->∃y kc vc,es[e]?=some y/\SV.fits h.nx ρ (el e) (kc++(vc++[.int .i64 (y.born:Int)]))/\kc.length=T.ks/\vc.length=T.vs/\y.val=unval T.va vc) {K:SV×SH->Prop} (hK:(lookB P T h k ok m el).Holds K):GoodV P M w0 ρ h K (Instr.lookup t (.map (some r)) kv ok) w:=by
 unfold lookB at hK;split at hK
 .exact hK.elim
 .rename_i bs hbs;obtain⟨hok,hK1,hK2⟩:=hK;obtain⟨vt,d,zv,hu,hd,hz,hzv,hzu,hzs⟩:=hT.un;have hfind:=q9v hT he hk hok w;have hchk:∀em,(Instr.checkKey em 10000 T.kt kv).run P w=.ok () w:=λem=>q3a 50 9950 T.kt k k kv bs em hbs hk w;have hzr:=q71 (P:=P) hz w;have hsz:es.size=m:=he.1;have hg:(getObj r).run P w=.ok (.map es clk) w:=by simp[getObj,Sem.run,hr]
  by_cases hlt:kix P T k m (λe=>(el.view e).take (T.ks+T.vs))<m
  .have hK:=brAt_holds _ _ (hK1 (decide_eq_true hlt));obtain⟨y,kc,vc,q1,q2,q3,q4,q6⟩:=hE _ hlt
   have hfit:(valSV T.va (((el.at (kix P T k m λe=>(el.view e).take (T.ks+T.vs))).drop T.ks).take T.vs)).fit h.nx ρ y.val:=by
    rw[q6];refine q19 ?_ λh=>by rw[q4];exact hT.v1 h
    have h2:=q0g T.vs (q0f T.ks q2)
    rwa [List.drop_left' q3,List.take_left' q4]at h2
   refine GoodV.same (x:=if ok then .tuple #[y.val,.bool true]else y.val) hm hK ?_ ?_
   .cases ok with
    |false=>exact hfit
    |true=>exact⟨[y.val,.bool true],rfl,hfit,rfl,trivial⟩
   .unfold Instr.lookup;simp only[Sem.run_bind,run_underlying hu,Result.andThen_ok,Sem.run_pure,hg,hchk,hfind,q1]
  .have hK:=hK2 (decide_eq_false hlt)
   have hn:es[kix P T k m (λe=>(el.view e).take (T.ks+T.vs))]?=none:=by
    rw[Array.getElem?_eq_none_iff];omega
   have hfit:(valSV T.va T.zv).fit h.nx ρ zv:=by
    rw[hzu];refine q19 ?_ λh=>by rw[Array.length_toList,hzs];exact hT.v1 h
    rw[hzv];exact q6v _
   refine GoodV.same (x:=if ok then .tuple #[zv,.bool false]else zv) hm hK ?_ ?_
   .cases ok with
    |false=>exact hfit
    |true=>exact⟨[zv,.bool false],rfl,hfit,rfl,trivial⟩
   .unfold Instr.lookup;simp only[Sem.run_bind,run_underlying hu,Result.andThen_ok,Sem.run_pure,hg,hchk,hfind,hn];cases ok<;>simp[hzr]
theorem own_ents{i:Nat}{ks vs:Nat}{ka va:Bool}{el:ElE}{m clk:Nat}{pd:Bool}(hm:HM M w0 ρ h w)(hg:h.get i=.map ks vs ka va el m clk pd){T:MapT}(e1:ks=T.ks)(e2:vs=T.vs)(e3:ka=T.ka)(e4:va=T.va)(hlen:∀e,e<m->(el.view e).length=T.ks+T.vs+1):
  ∃es,w.heap[(ρ i).blk]?=some (.map es clk)/\Stp es clk/\Ents h.nx ρ T m (λe=>(el.view e).take (T.ks+T.vs)) es/\∀e,e<m->∃y kc vc,es[e]?=some y/\SV.fits h.nx ρ (el e) (kc++(vc++[.int .i64 (y.born:Int)]))/\SV.fits h.nx ρ (el.view e) (kc++(vc++[.int .i64 (y.born:Int)]))/\kc.length=T.ks/\vc.length=T.vs/\y.key=unval T.ka kc/\y.val=unval T.va vc:=by
 have hob:=hm.ob i;rw[hg]at hob;obtain⟨_,_,⟨es,h3,h4,h5,h6⟩,_⟩:=hob;subst e1;subst e2;subst e3;subst e4
 have key:∀e,e<m->∃y kc vc,es[e]?=some y/\SV.fits h.nx ρ (el e) (kc++(vc++[.int .i64 (y.born:Int)]))/\SV.fits h.nx ρ (el.view e) (kc++(vc++[.int .i64 (y.born:Int)]))/\kc.length=T.ks/\vc.length=T.vs/\y.key=unval T.ka kc/\y.val=unval T.va vc:=λe he=>by
  obtain⟨y,kc,vc,q1,q2,q3,q4,q5,q6⟩:=h6 e he;exact⟨y,kc,vc,q1,q2,q3s el e q2 (by rw[hlen e he];simp;omega),q3,q4,q5,q6⟩
 refine⟨es,h3,h5,⟨h4,λe he=>?_⟩,key⟩;obtain⟨y,kc,vc,q1,_,q2,q3,q4,q5,q6⟩:=key e he;refine⟨y,kc,vc,q1,?_,q3,q4,q5,q6⟩;have:=q0g (T.ks+T.vs) q2
 rwa [show(kc++(vc++[Value.int .i64 (y.born:Int)])).take (T.ks+T.vs)=kc++vc by rw[<-List.append_assoc];exact List.take_left' (by simp;omega)]at this
theorem look_ok{t:TypeId}{a k:SV}{x kv:Value}{ok:Bool}(hm:HM M w0 ρ h w)(ha:a.fit h.nx ρ x)(hk:k.fit h.nx ρ kv){K:SV×SH->Prop}(hK:(lookS P h t a k ok).Holds K):GoodV P M w0 ρ h K (Instr.lookup t x kv ok) w:=by
 unfold lookS at hK;split at hK
 .exact hK.elim
 .rename_i T hT0;have hT:=qae hT0;split at hK
  .rename_i i;split at hK
   .rename_i ks vs ka va el m clk pd hg;obtain⟨hc,hlen,hK⟩:=q08 hK;simp only[Bool.and_eq_true,beq_iff_eq]at hc;obtain⟨c1,c2,c3,c4⟩:=hc;obtain⟨es,h1,h2,h3,h4⟩:=own_ents hm hg (q02 c1) (q02 c2) c3 c4 hlen;obtain⟨_,rfl⟩:=ha;cases hp:isPtT P t with
    |true=>
     rw[hp,cond_true]at hK
     exact lookB_ok hT hm h3 hk h1 (λe he=>by
      obtain⟨y,kc,vc,p1,p2,_,p4,p5,_,p7⟩:=h4 e he;exact⟨y,kc,vc,p1,p2,p4,p5,p7⟩) hK
    |false=>
     rw[hp,cond_false]at hK;exact lookG_ok hT hm h3 hk (.inr ⟨_,clk,rfl,h1⟩) hK
   .exact hK.elim
  .rename_i ks vs m ka va el;obtain⟨hc,hK1⟩:=q08 hK;simp only[Bool.and_eq_true,beq_iff_eq]at hc;obtain⟨c1,c2,c3,c4⟩:=hc;have e1:=q02 c1;have e2:=q02 c2;subst e1;subst e2;subst c3;subst c4;rcases ha with ⟨rfl,rfl⟩|⟨b,es,clk,rfl,k2,k3,k4,k5⟩
   .exact lookG_ok hT hm (m:=0) (es:=#[]) ⟨rfl,λe he=>by omega⟩ hk (.inl ⟨rfl,rfl⟩) hK1
   .exact lookG_ok hT hm ⟨k3,k5⟩ hk (.inr ⟨b,clk,rfl,hm.fz _ _ k2⟩) hK1
  .rename_i y;obtain⟨hc,hK1⟩:=q08 hK;have:=nilM0_eq hc;subst this;have ha:x=.map none:=ha;subst ha;exact lookG_ok hT hm (m:=0) (es:=#[]) ⟨rfl,λe he=>by omega⟩ hk (.inl ⟨rfl,rfl⟩) hK1
  .exact hK.elim
end
end Go.Sx

namespace Go.Sx
open Go.RowKit
variable[Env]
def qal(ag:Bool)(n:Nat)(s:SV):Bool:=(bif ag then s.aggy else s.one)&&Nat.beq s.cells.length n
section
variable{P:Program}{M:Nat->Prop}{w0 w:World}{ρ:Rh}{h:SH}
theorem aggy_fit{n:Nat}{s:SV}{x:Value}(hc:s.aggy=true)(hf:s.fit n ρ x):∃cs,x=.agg cs:=by
 cases s with
 |agg xs=>obtain⟨l,rfl,_⟩:=hf;exact⟨_,rfl⟩
 |k y=>have hf:x=y:=hf;subst hf;cases x<;>first|exact⟨_,rfl⟩|cases hc
 |v y=>have hf:x=y:=hf;subst hf;cases x<;>first|exact⟨_,rfl⟩|cases hc
 |_=>cases hc
theorem q6i{n:Nat}{ag:Bool}{k:Nat}{s:SV}{x:Value}(hc:qal ag k s=true)(hf:s.fit n ρ x):SV.fits n ρ s.cells x.cells.toList/\x.cells.toList.length=k/\x=unval ag x.cells.toList:=by
 unfold qal at hc;simp only[Bool.and_eq_true]at hc;obtain⟨c1,c2⟩:=hc;have hl:=q02 c2;cases ag with
 |true=>
  simp only[cond_true]at c1;have h1:=q40 (.inr c1) hf;refine⟨h1,by rw[<-q0a h1];exact hl,?_⟩;obtain⟨cs,rfl⟩:=aggy_fit c1 hf;simp[unval,Value.cells]
 |false=>
  simp only[cond_false]at c1;have h1:=q40 (.inl c1) hf;have ho:=SV.one_fit c1 hf;have hx:x.cells=#[x]:=by cases x<;>simp_all[Value.cells,Value.oneCell']
  refine⟨h1,by rw[<-q0a h1];exact hl,?_⟩;rw[hx];rfl
theorem q1f{r:Nat}{es:Array MapEntry}{clk:Nat}(hr:w.heap[r]?=some (.map es clk)):(getObj r).run P w=.ok (.map es clk) w:=by simp[getObj,Sem.run,hr]
theorem q3v{r:Nat}{es:Array MapEntry}{clk:Nat}(hr:w.heap[r]?=some (.map es clk))(o:Obj):(setObj r o).run P w=.ok () (w.putObj r o):=by
 simp only[setObj,Sem.run,hr];rfl
theorem q8o{i:Nat}(hm:HM M w0 ρ h w){ks vs:Nat}{ka va:Bool}{el:ElE}{m clk:Nat}{pd:Bool}(hg:h.get i=.map ks vs ka va el m clk pd){es es':Array MapEntry}{c0 clk':Nat}(hr:w.heap[(ρ i).blk]?=some (.map es c0)){so:SO}(hso:so.own (ρ i))(hfit:so.fit h.nx ρ (ρ i) (some (.map es' clk')))(hna:∀a,so≠.abs a:=by intro _ h;cases h):
  HM M w0 ρ (h.set i so) (w.putObj (ρ i).blk (.map es' clk')):=
 hm.setOwn (by rw[hg];trivial) hso rfl rfl rfl (by simp[World.putObj]) (λj hj=>World.putObj_heap_other hj) (World.putObj_heap_same (Array.getElem?_eq_some_iff.1 hr).1) hfit hna
theorem stp_push{es:Array MapEntry}{clk:Nat}(hs:Stp es clk)(y:MapEntry)(hy:y.born=clk):Stp (es.push y) (clk+1):=by
 refine⟨λe x hx=>?_,λi j x x' hij hx hx'=>?_⟩
 .rw[Array.getElem?_push]at hx;split at hx
  .injection hx with hx;subst hx;omega
  .have:=hs.1 e x hx;omega
 .rw[Array.getElem?_push]at hx hx';split at hx'
  .injection hx' with hx'
   subst hx';split at hx
   .omega
   .have:=hs.1 i x hx;omega
  .split at hx
   .have:=(Array.getElem?_eq_some_iff.1 hx').1;omega
   .exact hs.2 i j x x' hij hx hx'
theorem stp_modify{es:Array MapEntry}{clk:Nat}(hs:Stp es clk)(j:Nat){f:MapEntry->MapEntry}(hf:∀x,(f x).born=x.born):Stp (es.modify j f) clk:=by
 have key:∀(e:Nat)(x:MapEntry),(es.modify j f)[e]?=some x->∃y,es[e]?=some y/\x.born=y.born:=λe x hx=>by
  rw[Array.getElem?_modify]at hx;split at hx
  .rw[Option.map_eq_some_iff]at hx;obtain⟨y,h1,h2⟩:=hx;exact⟨y,h1,by rw[<-h2,hf]⟩
  .exact⟨x,hx,rfl⟩
 refine⟨λe x hx=>?_,λi k x x' hij hx hx'=>?_⟩
 .obtain⟨y,h1,h2⟩:=key e x hx;rw[h2];exact hs.1 e y h1
 .obtain⟨y,h1,h2⟩:=key i x hx;obtain⟨y',h1',h2'⟩:=key k x' hx';rw[h2,h2'];exact hs.2 i k y y' hij h1 h1'
def bornC(T:MapT)(c:List SV):List SV:=c.drop (T.ks+T.vs)
def putM(T:MapT)(el:ElE)(m clk j:Nat)(ys:List SV)(pd:Bool):SO:=.map T.ks T.vs T.ka T.va (.set j ys el) (bif decide (j<m)then m else m+1) (bif decide (j<m)then clk else clk+1) pd
def bornS(T:MapT)(el:ElE)(m clk j:Nat):List SV:=selC (decide (j<m)) (bornC T (el.view j)) [.v (.int .i64 (clk:Int))]
def qa5(P:Program)(h:SH)(t:TypeId)(a k v:SV):Tr (SV×SH):=
 match mapT P t with
 |none=>.bad 810
 |some T=>match a with
  | .mp i=>match h.get i with
   | .map ks vs ka va el m clk _=>
    match eqV P 50 T.kt k k with
    |none=>.bad 811
    |some _=>
     let j:=kix P T k m λe=>(el.view e).take (T.ks+T.vs)
     bif (Nat.beq ks T.ks&&(Nat.beq vs T.vs&&(ka==T.ka&&va==T.va)))&&(qal T.ka T.ks k&&(qal T.va T.vs v&&(Nat.beq (bornC T (el.view j)).length 1)))then
      .ask (∀e,e<m->(el.view e).length=T.ks+T.vs+1) (.ask (∀e,e<m->keyOk P T k ((el.view e).take (T.ks+T.vs)))
       (.ret (.u,h.set i (putM T el m clk j (k.cells++(v.cells++bornS T el m clk j)) false))))
     else .bad 812
   |_=>.bad 813
  |_=>.bad 814
theorem putM_fit{i:Nat}{T:MapT}{t:TypeId}(hT:MapTS P t T){el:ElE}{m clk:Nat}{pd:Bool}(hm:HM M w0 ρ h w)(hg:h.get i=.map T.ks T.vs T.ka T.va el m clk pd){es:Array MapEntry}(hr:w.heap[(ρ i).blk]?=some (.map es clk))(hs:Stp es clk)
  (hall:∀e,e<m->∃y kc vc,es[e]?=some y/\SV.fits h.nx ρ (el e) (kc++(vc++[.int .i64 (y.born:Int)]))/\SV.fits h.nx ρ (el.view e) (kc++(vc++[.int .i64 (y.born:Int)]))/\kc.length=T.ks/\vc.length=T.vs/\y.key=unval T.ka kc/\y.val=unval T.va vc) (hsz:es.size=m)
  {j:Nat} (hj:j<=m) (hb1:(bornC T (el.view j)).length=1) {kc vc:List Value} {ksv vsv:List SV} (hk:SV.fits h.nx ρ ksv kc) (hv:SV.fits h.nx ρ vsv vc) (hkl:kc.length=T.ks) (hvl:vc.length=T.vs) {pd':Bool} :
  (j<m->(putM T el m clk j (ksv++(vsv++bornS T el m clk j)) pd').fit h.nx ρ (ρ i) (some (.map (es.modify j λe=>{ e with key:=unval T.ka kc,val:=unval T.va vc}) clk)))/\
  (¬j<m->(putM T el m clk j (ksv++(vsv++bornS T el m clk j)) pd').fit h.nx ρ (ρ i) (some (.map (es.push { key:=unval T.ka kc,val:=unval T.va vc,born:=clk}) (clk+1)))):=by
 have hob:=hm.ob i;rw[hg]at hob;obtain⟨o1,o2,_⟩:=hob;refine⟨λhlt=>?_,λhlt=>?_⟩
 .unfold putM bornS;rw[decide_eq_true hlt];simp only[cond_true];refine⟨o1,o2,⟨_,rfl,by simp[hsz],stp_modify hs j λ_=>rfl,λe he=>?_⟩,λ_=>⟨j,_,el,rfl,hlt⟩⟩;obtain⟨y,kc0,vc0,q1,q2,q2',q3,q4,q5,q6⟩:=hall e he;by_cases hej:e=j
  .subst hej;refine⟨{ y with key:=unval T.ka kc,val:=unval T.va vc},kc,vc,by simp[Array.getElem?_modify,q1],?_,hkl,hvl,rfl,rfl⟩;simp only[ElE.at,if_true];refine q0j hk (q0j hv ?_);have h2:=q0f (T.ks+T.vs) q2';rw[show(kc0++(vc0++[Value.int .i64 (y.born:Int)])).drop (T.ks+T.vs)=[Value.int .i64 (y.born:Int)] by rw[<-List.append_assoc];exact List.drop_left' (by simp;omega)]at h2;exact qas (by rw[hb1];simp) h2
  .refine⟨y,kc0,vc0,?_,?_,q3,q4,q5,q6⟩
   .rw[Array.getElem?_modify,if_neg (λh=>hej h.symm)];exact q1
   .simp only[ElE.at,if_neg hej];exact q2
 .unfold putM bornS;rw[decide_eq_false hlt];simp only[cond_false];have hjm:j=m:=by omega
  subst hjm;refine⟨o1,o2,⟨_,rfl,by simp[hsz],stp_push hs _ rfl,λe he=>?_⟩,λ_=>⟨j,_,el,rfl,Nat.lt_succ_self _⟩⟩;by_cases hej:e=j
  .subst hej;refine⟨{ key:=unval T.ka kc,val:=unval T.va vc,born:=clk},kc,vc,by rw[Array.getElem?_push,if_pos hsz.symm],?_,hkl,hvl,rfl,rfl⟩;simp only[ElE.at,if_true];refine q0j hk (q0j hv ?_);refine qar (by rw[hb1];simp) ⟨rfl,trivial⟩
  .obtain⟨y,kc0,vc0,q1,q2,q2',q3,q4,q5,q6⟩:=hall e (by omega);refine⟨y,kc0,vc0,?_,?_,q3,q4,q5,q6⟩
   .rw[Array.getElem?_push,if_neg (by omega)];exact q1
   .simp only[ElE.at,if_neg hej];exact q2
theorem stays_ok{n:Nat}{T:MapT}{t:TypeId}(hT:MapTS P t T){m:Nat}{c:Nat->List SV}{es:Array MapEntry}(he:Ents n ρ T m c es){k:SV}{kv:Value}(hk:k.fit n ρ kv)(hok:∀e,e<m->keyOk P T k (c e))(hks:kv.cells.size=T.ks){y:MapEntry}(hy:es[kix P T k m c]?=some y)(w:World):
  (Instr.keyThatStays y.key kv).run P w=.ok kv w:=by
 obtain⟨h1,h2,_,kc,h4,h5⟩:=ents_key hT he hy;obtain⟨_,bs,h6,h7⟩:=keyOk_ok (hok _ h1)
 have hc:conj bs=true:=by
  rw[<-h7];exact kfind_at (λe=>keyEq P T.kt k (valSV T.ka ((c e).take T.ks))) m 0 (by unfold kix at h1;omega)
 have hsz:=key_size hT h4 h5 h6 (.inr h2);obtain⟨e1,e2⟩:=same_ok hT.tile h6 hc hk h2 hks hsz 9998;rw[<-e1];unfold Instr.keyThatStays;rw[if_pos e2];rfl
end
end Go.Sx

namespace Go.Sx
open Go.RowKit
variable[Env]
section
variable{P:Program}{M:Nat->Prop}{w0 w:World}{ρ:Rh}{h:SH}
theorem modify_eq{α:Type}{es:Array α}{j:Nat}{y:α}(hy:es[j]?=some y){f g:α->α}(h:f y=g y):es.modify j f=es.modify j g:=by
 apply Array.ext_getElem?;intro i;rw[Array.getElem?_modify,Array.getElem?_modify];split
 .rename_i hij;subst hij;rw[hy];simp[h]
 .rfl
theorem update_ok{t:TypeId}{a k v:SV}{x kv vv:Value}(hm:HM M w0 ρ h w)(ha:a.fit h.nx ρ x)(hk:k.fit h.nx ρ kv)(hv:v.fit h.nx ρ vv){K:SV×SH->Prop}(hK:(qa5 P h t a k v).Holds K):GoodU P M w0 ρ h K (Instr.mapUpdate t x kv vv) w:=by
 unfold qa5 at hK;split at hK
 .exact hK.elim
 .rename_i T hT0;have hT:=qae hT0;split at hK
  .rename_i i;split at hK
   .rename_i ks vs ka va el m clk pd hg;split at hK
    .exact hK.elim
    .rename_i bs hbs;obtain⟨hc,hlen,hok,hK1⟩:=q08 hK;simp only[Bool.and_eq_true,beq_iff_eq]at hc;obtain⟨⟨c1,c2,c3,c4⟩,c5,c6,c7⟩:=hc;have e1:=q02 c1;have e2:=q02 c2;subst e1;subst e2;subst c3;subst c4;obtain⟨es,h1,h2,h3,h4⟩:=own_ents hm hg rfl rfl rfl rfl hlen;obtain⟨hi,rfl⟩:=ha;obtain⟨k1,k2,k3⟩:=q6i c5 hk;obtain⟨v1,v2,v3⟩:=q6i c6 hv;have hfind:=q9v hT h3 hk hok w;have hsz:es.size=m:=h3.1;obtain⟨vt,d,zv,hu,hd,hz,_⟩:=hT.un;have hchk:(Instr.checkKey false 10000 T.kt kv).run P w=.ok () w:=q3a 50 9950 T.kt k k kv bs false hbs hk w;have hfit:=putM_fit (pd':=false) hT hm hg h1 h2 h4 hsz kix_le (q02 c7) k1 v1 k2 v2;rw[<-k3,<-v3]at hfit;by_cases hlt:kix P T k m (λe=>(el.view e).take (T.ks+T.vs))<m
     .obtain⟨y,hy⟩:∃y,es[kix P T k m (λe=>(el.view e).take (T.ks+T.vs))]?=some y:=⟨_,Array.getElem?_eq_getElem (by omega)⟩;rw[hy]at hfind;have hst:=stays_ok hT h3 hk hok (by simpa using k2) hy w;refine⟨_,ρ,_,hK1,Nat.le_refl _,Agree.refl _ _,q8o hm hg h1 trivial (hfit.1 hlt),?_⟩;unfold Instr.mapUpdate;simp only[Sem.run_bind,run_underlying hu,Result.andThen_ok,q1f h1,hchk,hfind,hy,Option.map_some,Option.getD_some,hst,q3v h1]
     .have hy:es[kix P T k m (λe=>(el.view e).take (T.ks+T.vs))]?=none:=by
       rw[Array.getElem?_eq_none_iff];omega
      rw[hy]at hfind;refine⟨_,ρ,_,hK1,Nat.le_refl _,Agree.refl _ _,q8o hm hg h1 trivial (hfit.2 hlt),?_⟩;unfold Instr.mapUpdate;simp only[Sem.run_bind,run_underlying hu,Result.andThen_ok,q1f h1,hchk,hfind,q3v h1]
   .exact hK.elim
  .exact hK.elim
def entryS(P:Program)(h:SH)(t:TypeId)(a k:SV):Tr (SV×SH):=
 match mapT P t with
 |none=>.bad 820
 |some T=>match a with
  | .mp i=>match h.get i with
   | .map ks vs ka va el m clk _=>
    match eqV P 50 T.kt k k with
    |none=>.bad 821
    |some _=>
     let j:=kix P T k m λe=>(el.view e).take (T.ks+T.vs)
     let vc:=selC (decide (j<m)) (((el.view j).drop T.ks).take T.vs) T.zv
     bif (Nat.beq ks T.ks&&(Nat.beq vs T.vs&&(ka==T.ka&&va==T.va)))&&(qal T.ka T.ks k&&(Nat.beq (((el.view j).drop T.ks).take T.vs).length T.vs&&(Nat.beq (bornC T (el.view j)).length 1)))then
      .ask (∀e,e<m->(el.view e).length=T.ks+T.vs+1) (.ask (∀e,e<m->keyOk P T k ((el.view e).take (T.ks+T.vs)))
       (.ret (.tup [valSV T.va vc,valSV false (bornS T el m clk j)],h.set i (putM T el m clk j (k.cells++(vc++bornS T el m clk j)) true))))
     else .bad 822
   |_=>.bad 823
  |_=>.bad 824
theorem entry_ok{t:TypeId}{a k:SV}{x kv:Value}(hm:HM M w0 ρ h w)(ha:a.fit h.nx ρ x)(hk:k.fit h.nx ρ kv){K:SV×SH->Prop}(hK:(entryS P h t a k).Holds K):GoodV P M w0 ρ h K (Instr.mapEntry t x kv) w:=by
 unfold entryS at hK;split at hK
 .exact hK.elim
 .rename_i T hT0;have hT:=qae hT0;split at hK
  .rename_i i;split at hK
   .rename_i ks vs ka va el m clk pd hg;split at hK
    .exact hK.elim
    .rename_i bs hbs;obtain⟨hc,hlen,hok,hK1⟩:=q08 hK;simp only[Bool.and_eq_true,beq_iff_eq]at hc;obtain⟨⟨c1,c2,c3,c4⟩,c5,c6,c7⟩:=hc;have e1:=q02 c1;have e2:=q02 c2;subst e1;subst e2;subst c3;subst c4;obtain⟨es,h1,h2,h3,h4⟩:=own_ents hm hg rfl rfl rfl rfl hlen;obtain⟨hi,rfl⟩:=ha;obtain⟨k1,k2,k3⟩:=q6i c5 hk;have hfind:=q9v hT h3 hk hok w;have hsz:es.size=m:=h3.1;obtain⟨vt,d,zv,hu,hd,hz,hzv,hzu,hzs⟩:=hT.un;have hl6:=q02 c6;have hl7:=q02 c7;have hzl:T.zv.length=T.vs:=by rw[hzv];simp[hzs]
     have hchk:(Instr.checkKey false 10000 T.kt kv).run P w=.ok () w:=q3a 50 9950 T.kt k k kv bs false hbs hk w;by_cases hlt:kix P T k m (λe=>(el.view e).take (T.ks+T.vs))<m
     .obtain⟨y,kc0,vc0,q1,q2,q2',q3,q4,q5,q6⟩:=h4 _ hlt;rw[q1]at hfind;have hst:=stays_ok hT h3 hk hok (by simpa using k2) q1 w
      have hvc:SV.fits h.nx ρ (selC (decide (kix P T k m (λe=>(el.view e).take (T.ks+T.vs))<m)) (((el.view (kix P T k m (λe=>(el.view e).take (T.ks+T.vs)))).drop T.ks).take T.vs) T.zv) vc0:=by
       rw[decide_eq_true hlt];refine qas (by omega) ?_;have h5:=q0g T.vs (q0f T.ks q2')
       rwa [List.drop_left' q3,List.take_left' q4]at h5
      have hbn:SV.fits h.nx ρ (bornS T el m clk (kix P T k m (λe=>(el.view e).take (T.ks+T.vs)))) [.int .i64 (y.born:Int)]:=by
       unfold bornS;rw[decide_eq_true hlt];refine qas (by rw[hl7];simp) ?_;have h5:=q0f (T.ks+T.vs) q2'
       rwa [show(kc0++(vc0++[Value.int .i64 (y.born:Int)])).drop (T.ks+T.vs)=[Value.int .i64 (y.born:Int)] by rw[<-List.append_assoc];exact List.drop_left' (by simp;omega)]at h5
      have hfit:=(putM_fit (pd':=true) hT hm hg h1 h2 h4 hsz kix_le hl7 k1 hvc k2 q4).1 hlt;rw[<-k3,<-q6]at hfit;refine⟨_,_,ρ,.tuple #[y.val,.int .i64 (y.born:Int)],_,hK1,Nat.le_refl _,Agree.refl _ _,q8o hm hg h1 trivial hfit,⟨[y.val,.int .i64 (y.born:Int)],rfl,?_,q19 (ag:=false) (vs:=[.int .i64 (y.born:Int)]) hbn λ_=>rfl,trivial⟩,?_⟩
      .rw[q6];exact q19 hvc λh=>by rw[q4];exact hT.v1 h
      .have hmod:(es.modify (kix P T k m λe=>(el.view e).take (T.ks+T.vs)) λe=>{ e with key:=kv,val:=y.val})=(es.modify (kix P T k m λe=>(el.view e).take (T.ks+T.vs)) λe=>{ e with key:=kv}):=modify_eq q1 rfl;unfold Instr.mapEntry;simp only[Sem.run_bind,run_underlying hu,Result.andThen_ok,q1f h1,hchk,hfind,q1,Option.map_some,Option.getD_some,hst,q3v h1,hmod];rfl
     .have hy:es[kix P T k m (λe=>(el.view e).take (T.ks+T.vs))]?=none:=by
       rw[Array.getElem?_eq_none_iff];omega
      rw[hy]at hfind
      have hvc:SV.fits h.nx ρ (selC (decide (kix P T k m (λe=>(el.view e).take (T.ks+T.vs))<m)) (((el.view (kix P T k m (λe=>(el.view e).take (T.ks+T.vs)))).drop T.ks).take T.vs) T.zv) zv.cells.toList:=by
       rw[decide_eq_false hlt];refine qar (by omega) ?_;rw[hzv];exact q6v _
      have hbn:SV.fits h.nx ρ (bornS T el m clk (kix P T k m (λe=>(el.view e).take (T.ks+T.vs)))) [.int .i64 (clk:Int)]:=by
       unfold bornS;rw[decide_eq_false hlt];exact qar (by rw[hl7];simp) ⟨rfl,trivial⟩
      have hfit:=(putM_fit (pd':=true) hT hm hg h1 h2 h4 hsz kix_le hl7 k1 hvc k2 (by simpa using hzs)).2 hlt;rw[<-k3,<-hzu]at hfit;refine⟨_,_,ρ,.tuple #[zv,.int .i64 (clk:Int)],_,hK1,Nat.le_refl _,Agree.refl _ _,q8o hm hg h1 trivial hfit,⟨[zv,.int .i64 (clk:Int)],rfl,?_,q19 (ag:=false) (vs:=[.int .i64 (clk:Int)]) hbn λ_=>rfl,trivial⟩,?_⟩
      .rw[hzu];exact q19 hvc λh=>by rw[Array.length_toList,hzs];exact hT.v1 h
      .unfold Instr.mapEntry;simp only[Sem.run_bind,run_underlying hu,Result.andThen_ok,q1f h1,hchk,hfind,q71 hz,q3v h1];rfl
   .exact hK.elim
  .exact hK.elim
def storeS'(P:Program)(h:SH)(t:TypeId)(a st v:SV):Tr (SV×SH):=
 match mapT P t with
 |none=>.bad 830
 |some T=>match a with
  | .mp i=>match h.get i with
   | .map ks vs ka va el m clk true=>match el with
    | .set j ys r=>match st.int?,(bornC T ys)with
     |some (_,.i64,b),[bs]=>match bs.int? with
      |some (_,.i64,b')=>bif (Nat.beq ks T.ks&&(Nat.beq vs T.vs&&(ka==T.ka&&va==T.va)))&&qal T.va T.vs v then
       .ask (b=b') (.ret (.u,h.set i (.map ks vs ka va (.set j (ys.take T.ks++(v.cells++[bs])) r) m clk false)))
       else .bad 831
      |_=>.bad 832
     |_,_=>.bad 833
    |_=>.bad 834
   |_=>.bad 835
  |_=>.bad 836
theorem estore_ok{t:TypeId}{a st v:SV}{x sv vv:Value}(hm:HM M w0 ρ h w)(ha:a.fit h.nx ρ x)(hs:st.fit h.nx ρ sv)(hv:v.fit h.nx ρ vv){K:SV×SH->Prop}(hK:(storeS' P h t a st v).Holds K):GoodU P M w0 ρ h K (Instr.entryStore t x sv vv) w:=by
 unfold storeS' at hK;split at hK
 .exact hK.elim
 .rename_i T hT0;have hT:=qae hT0;split at hK
  .rename_i i;split at hK
   .rename_i ks vs ka va el m clk hg;split at hK
    .rename_i j ys r;split at hK
     .rename_i c b bs hst hys;split at hK
      .rename_i c' b' hbs;obtain⟨hc,hbb,hK1⟩:=q08 hK;subst hbb;simp only[Bool.and_eq_true,beq_iff_eq]at hc;obtain⟨⟨c1,c2,c3,c4⟩,c5⟩:=hc;have e1:=q02 c1;have e2:=q02 c2;subst e1;subst e2;subst c3;subst c4;obtain⟨hi,rfl⟩:=ha;obtain⟨v1,v2,v3⟩:=q6i c5 hv;have hob:=hm.ob i;rw[hg]at hob;obtain⟨o1,o2,⟨es,h3,h4,h5,h6⟩,h7⟩:=hob;obtain⟨j',ys',r',e3,hj⟩:=h7 rfl;injection e3 with e3 e4 e5
       subst e3;subst e4;subst e5;obtain⟨y,kc,vc,q1,q2,q3,q4,q5,q6⟩:=h6 j hj;simp only[ElE.at,if_true]at q2
       have hborn:SV.fits h.nx ρ [bs] [.int .i64 (y.born:Int)]:=by
        have h8:=q0f (T.ks+T.vs) q2;rw[show(kc++(vc++[Value.int .i64 (y.born:Int)])).drop (T.ks+T.vs)=[Value.int .i64 (y.born:Int)] by rw[<-List.append_assoc];exact List.drop_left' (by simp;omega)]at h8;unfold bornC at hys
        rwa [hys]at h8
       have hb:b=(y.born:Int):=by
        have:=SV.int_fit hbs hborn.1;injection this with _ h9
        exact h9.symm
       have hsv:=SV.int_fit hst hs;subst hsv
       have hidx:es.findIdx? (λe=>(e.born:Int)==b)=some j:=by
        rw[Array.findIdx?_eq_some_iff_getElem];have hjs:j<es.size:=by omega
        have hjy:es[j]=y:=by
         rw[Array.getElem?_eq_getElem hjs]at q1;injection q1
        refine⟨hjs,by rw[hjy,hb];simp,λq hq=>?_⟩;have:=h5.2 q j es[q] y hq (Array.getElem?_eq_getElem (by omega)) q1;rw[hb];simp only[Bool.not_eq_true,beq_eq_false_iff_ne];omega
       refine⟨_,ρ,w.putObj (ρ i).blk (.map (es.modify j λe=>{ e with val:=vv}) clk),hK1,Nat.le_refl _,Agree.refl _ _,q8o hm hg h3 trivial ?_,?_⟩
       .refine⟨o1,o2,⟨_,rfl,by simp[h4],stp_modify h5 j λ_=>rfl,λe he=>?_⟩,λh=>by cases h⟩;by_cases hej:e=j
        .subst hej;refine⟨{ y with val:=vv},kc,vv.cells.toList,by simp[Array.getElem?_modify,q1],?_,q3,v2,q5,v3⟩;simp only[ElE.at,if_true];have h8:=q0g T.ks q2;rw[List.take_left' q3]at h8;exact q0j h8 (q0j v1 hborn)
        .obtain⟨y',kc',vc',p1,p2,p3⟩:=h6 e he;refine⟨y',kc',vc',?_,?_,p3⟩
         .rw[Array.getElem?_modify,if_neg (λh=>hej h.symm)];exact p1
         .simp only[ElE.at,if_neg hej]at p2 ⊢;exact p2
       .unfold Instr.entryStore;simp only[Sem.run_bind,Result.andThen_ok,q1f h3];have:(asInt (.int .i64 b)).run P w=.ok b w:=by simp[asInt,asIntOf]
        simp only[this,Result.andThen_ok,hidx,q3v h3]
      .exact hK.elim
     .exact hK.elim
    .exact hK.elim
   .exact hK.elim
  .exact hK.elim
end
end Go.Sx

namespace Go.Sx
open Go.RowKit
variable[Env]
section
variable{P:Program}{M:Nat->Prop}{w0 w:World}{ρ:Rh}{h:SH}
theorem stp_erase{es:Array MapEntry}{clk:Nat}(hs:Stp es clk)(j:Nat):Stp (es.eraseIdxIfInBounds j) clk:=by
 have key:∀(e:Nat),(es.eraseIdxIfInBounds j)[e]?=if e<j then es[e]? else es[e+1]?:=λe=>by
  unfold Array.eraseIdxIfInBounds;split
  .rw[Array.getElem?_eraseIdx]
  .rename_i hj;split
   .rfl
   .rw[Array.getElem?_eq_none_iff.2 (by omega),Array.getElem?_eq_none_iff.2 (by omega)]
 refine⟨λe x hx=>?_,λi k x x' hik hx hx'=>?_⟩
 .rw[key]at hx;split at hx
  .exact hs.1 _ x hx
  .exact hs.1 _ x hx
 .rw[key]at hx hx';split at hx<;>split at hx'
  .exact hs.2 _ _ x x' hik hx hx'
  .exact hs.2 _ _ x x' (by omega) hx hx'
  .omega
  .exact hs.2 _ _ x x' (by omega) hx hx'
def deleteS(P:Program)(h:SH)(t:TypeId)(a k:SV):Tr (SV×SH):=
 match mapT P t with
 |none=>.bad 840
 |some T=>match eqV P 50 T.kt k k with
  |none=>.bad 841
  |some _=>match a with
   | .mp i=>match h.get i with
    | .map ks vs ka va el m clk _=>
     let j:=kix P T k m λe=>(el.view e).take (T.ks+T.vs)
     bif Nat.beq ks T.ks&&(Nat.beq vs T.vs&&(ka==T.ka&&va==T.va))then
      .ask (∀e,e<m->(el.view e).length=T.ks+T.vs+1) (.ask (∀e,e<m->keyOk P T k ((el.view e).take (T.ks+T.vs)))
       (.ret (.tup [],h.set i (.map ks vs ka va (.app j el (.sh (j+1) el)) (bif decide (j<m)then m-1 else m) clk false))))
     else .bad 842
    |_=>.bad 843
   |_=>.bad 844
theorem delete_ok{t t' ty:TypeId}{a k:SV}{x kv:Value}(hm:HM M w0 ρ h w)(ha:a.fit h.nx ρ x)(hk:k.fit h.nx ρ kv){K:SV×SH->Prop}(hK:(deleteS P h t a k).Holds K):GoodV P M w0 ρ h K (Builtin.delete_ #[t,t'] ty #[x,kv]) w:=by
 unfold deleteS at hK;split at hK
 .exact hK.elim
 .rename_i T hT0;have hT:=qae hT0;split at hK
  .exact hK.elim
  .rename_i bs hbs;split at hK
   .rename_i i;split at hK
    .rename_i ks vs ka va el m clk pd hg;obtain⟨hc,hlen,hok,hK1⟩:=q08 hK;simp only[Bool.and_eq_true,beq_iff_eq]at hc;obtain⟨c1,c2,c3,c4⟩:=hc;have e1:=q02 c1;have e2:=q02 c2;subst e1;subst e2;subst c3;subst c4;obtain⟨es,h1,h2,h3,h4⟩:=own_ents hm hg rfl rfl rfl rfl hlen;obtain⟨hi,rfl⟩:=ha;have hfind:=q9v hT h3 hk hok w;have hsz:es.size=m:=h3.1;obtain⟨vt,d,zv,hu,hd,hz,_⟩:=hT.un;have hchk:∀em,(Instr.checkKey em 10000 T.kt kv).run P w=.ok () w:=λem=>q3a 50 9950 T.kt k k kv bs em hbs hk w;have hob:=hm.ob i;rw[hg]at hob;obtain⟨o1,o2,_⟩:=hob;have hle:=kix_le (P:=P) (T:=T) (k:=k) (m:=m) (c:=λe=>(el.view e).take (T.ks+T.vs));generalize hj:kix P T k m (λe=>(el.view e).take (T.ks+T.vs))=j at hK1 hfind hle;by_cases hlt:j<m
     .obtain⟨y,hy⟩:∃y,es[j]?=some y:=⟨_,Array.getElem?_eq_getElem (by omega)⟩;rw[hy]at hfind;refine⟨_,_,ρ,.tuple #[],w.putObj (ρ i).blk (.map (es.eraseIdxIfInBounds j) clk),hK1,Nat.le_refl _,Agree.refl _ _,q8o hm hg h1 trivial ?_,⟨[],rfl,trivial⟩,?_⟩
      .rw[decide_eq_true hlt];refine⟨o1,o2,⟨_,rfl,?_,stp_erase h2 j,λe he=>?_⟩,λh=>by cases h⟩
       .unfold Array.eraseIdxIfInBounds;rw[dif_pos (by omega)];simp[hsz]
       .simp only[cond_true]at he
        have hget:(es.eraseIdxIfInBounds j)[e]?=if e<j then es[e]? else es[e+1]?:=by
         unfold Array.eraseIdxIfInBounds;rw[dif_pos (by omega),Array.getElem?_eraseIdx]
        rw[hget];simp only[ElE.at];split
        .obtain⟨y',kc,vc,q1,q2,_,q3⟩:=h4 e (by omega);exact⟨y',kc,vc,q1,q2,q3⟩
        .obtain⟨y',kc,vc,q1,q2,_,q3⟩:=h4 (e+1) (by omega);refine⟨y',kc,vc,q1,?_,q3⟩;rw[show j+1+(e-j)=e+1 by omega];exact q2
      .simp[Builtin.delete_,run_underlying hu,q1f h1,hchk,hfind,q3v h1]
     .have hy:es[j]?=none:=by
       rw[Array.getElem?_eq_none_iff];omega
      rw[hy]at hfind;refine⟨_,_,ρ,.tuple #[],w.putObj (ρ i).blk (.map es clk),hK1,Nat.le_refl _,Agree.refl _ _,q8o hm hg h1 trivial ?_,⟨[],rfl,trivial⟩,?_⟩
      .rw[decide_eq_false hlt];refine⟨o1,o2,⟨_,rfl,hsz,h2,λe he=>?_⟩,λh=>by cases h⟩;simp only[cond_false]at he;obtain⟨y',kc,vc,q1,q2,_,q3⟩:=h4 e he;refine⟨y',kc,vc,q1,?_,q3⟩;simp only[ElE.at];rw[if_pos (by omega)];exact q2
      .simp[Builtin.delete_,run_underlying hu,q1f h1,hchk,hfind,q3v h1]
    .exact hK.elim
   .exact hK.elim
def q9i(P:Program)(h:SH)(t:TypeId)(r:Option SV):Tr (SV×SH):=
 match mapT P t with
 |none=>.bad 850
 |some T=>match r with
  |none=>.ret (.mp h.nx,h.push (.map T.ks T.vs T.ka T.va (.fn λ_=>T.zk++(T.zv++[.k (.int .i64 0)])) 0 0 false))
  |some s=>match s.int? with
   |some _=>.ret (.mp h.nx,h.push (.map T.ks T.vs T.ka T.va (.fn λ_=>T.zk++(T.zv++[.k (.int .i64 0)])) 0 0 false))
   |none=>.bad 851
theorem qb7{t:TypeId}{T:MapT}(hm:HM M w0 ρ h w){K:SV×SH->Prop}(hK:K (.mp h.nx,h.push (.map T.ks T.vs T.ka T.va (.fn λ_=>T.zk++(T.zv++[.k (.int .i64 0)])) 0 0 false))){rv:Option Value}(hr:(Instr.makeMap t rv).run P w=.ok (.map (some w.heap.size)) (w.alloc (.map #[] 0))):GoodV P M w0 ρ h K (Instr.makeMap t rv) w:=
 ⟨_,_,upd ρ h.nx ⟨w.heap.size,0,0,false⟩,_,_,hK,Nat.le_succ _,q0r _ _ _,hm.push ⟨rfl,rfl,⟨#[],rfl,rfl,⟨λe x hx=>by simp at hx,λi j x y _ hx=>by simp at hx⟩,λe he=>by omega⟩,λh=>by cases h⟩,⟨Nat.lt_succ_self _,by simp[upd]⟩,hr⟩
theorem makeMap_ok{t:TypeId}{r:Option SV}{rv:Option Value}(hm:HM M w0 ρ h w)(hf:optFit h.nx ρ r rv){K:SV×SH->Prop}(hK:(q9i P h t r).Holds K):GoodV P M w0 ρ h K (Instr.makeMap t rv) w:=by
 unfold q9i at hK;split at hK
 .exact hK.elim
 .rename_i T hT0;have hT:=qae hT0;obtain⟨vt,d,zv,hu,_⟩:=hT.un;split at hK
  .cases rv with
   |some v=>exact hf.elim
   |none=>exact qb7 hm hK (by simp[Instr.makeMap])
  .rename_i s;cases rv with
   |none=>exact hf.elim
   |some v=>
    split at hK
    .rename_i x hx;obtain⟨c,q,n⟩:=x;have:=SV.int_fit hx hf;subst this;exact qb7 hm hK (by simp[Instr.makeMap,run_underlying hu,asInt,asIntOf])
    .exact hK.elim
def lenH(P:Program)(h:SH)(t:TypeId)(a:SV):Tr SV:=
 match P.underlying t with
 |some (.map _ _)=>match a with
  | .mp i=>match h.get i with
   | .map _ _ _ _ _ m _ _=>.ret (.v (.int .i64 (m:Int)))
   |_=>.bad 860
  | .rm _ _ m _ _ _=>.ret (.v (.int .i64 (m:Int)))
  | .k y=>bif nilM0 y then .ret (.k (.int .i64 0))else .bad 861
  |_=>.bad 862
 |_=>lenS P t a
theorem lenH_ok{t ty:TypeId}{ts:List TypeId}{a:SV}{x:Value}{K:SV×SH->Prop}(hm:HM M w0 ρ h w)(ha:a.fit h.nx ρ x)(hK0:((lenH P h t a).bind λs=>(.ret (s,h):Tr (SV×SH))).Holds K):GoodV P M w0 ρ h K (Builtin.len_ (t::ts).toArray ty #[x]) w:=by
 have hK:=Tr.holds_bind hK0;clear hK0;unfold lenH at hK;split at hK
 .rename_i kt vt hu;split at hK
  .rename_i i;split at hK
   .rename_i ks vs ka va el m clk pd hg;obtain⟨_,rfl⟩:=ha;have hob:=hm.ob i;rw[hg]at hob;obtain⟨_,_,⟨es,h3,h4,_⟩,_⟩:=hob;refine GoodV.same hm hK (x:=.int .i64 (m:Int)) rfl ?_;simp[Builtin.len_,run_underlying hu,q1f h3,h4,goInt]
   .exact hK.elim
  .rename_i ks vs m ka va el;rcases ha with ⟨rfl,rfl⟩|⟨b,es,clk,rfl,k2,k3,_⟩
   .refine GoodV.same hm hK (x:=.int .i64 0) rfl ?_;simp[Builtin.len_,run_underlying hu,goInt]
   .refine GoodV.same hm hK (x:=.int .i64 (m:Int)) rfl ?_;simp[Builtin.len_,run_underlying hu,q1f (hm.fz _ _ k2),k3,goInt]
  .rename_i y;obtain⟨hc,hK1⟩:=q08 hK;have:=nilM0_eq hc;subst this;have ha:x=.map none:=ha;subst ha;refine GoodV.same hm hK1 (x:=.int .i64 0) rfl ?_;simp[Builtin.len_,run_underlying hu,goInt]
  .exact hK.elim
 .obtain⟨sv,y,h1,h2,h3⟩:=len_ok (P:=P) (ts:=ts) (ty:=ty) ha hK;exact GoodV.same hm h1 h2 (h3 w)
def rangeM(P:Program)(h:SH)(t:TypeId)(a:SV):Tr (SV×SH):=
 match P.underlying t with
 |some (.map _ _)=>match a with
  | .mp i=>match h.get i with
   | .map _ _ _ _ _ _ clk _=>.ret (.p h.nx 0,h.push (.mit i clk (.fn λ_=>[.k (.int .i64 0)]) 0 clk none))
   |_=>.bad 870
  | .rm ks vs m ka va el=>.ret (.p h.nx 0,h.push (.mif ks vs ka va (.fn el) m none))
  | .k y=>bif nilM0 y then .ret (.p h.nx 0,h.push (.mif 0 0 true true (.fn λ_=>[]) 0 none))else .bad 871
  |_=>.bad 872
 |_=>rangeS P h t a
theorem rangeM_ok{t:TypeId}{a:SV}{x:Value}(hm:HM M w0 ρ h w)(ha:a.fit h.nx ρ x){K:SV×SH->Prop}(hK:(rangeM P h t a).Holds K):GoodV P M w0 ρ h K (Instr.range t x) w:=by
 unfold rangeM at hK;split at hK
 .rename_i kt vt hu;split at hK
  .rename_i i;split at hK
   .rename_i ks vs ka va el m clk pd hg;obtain⟨hi,rfl⟩:=ha;have hob:=hm.ob i;rw[hg]at hob;obtain⟨_,_,⟨es,h3,_⟩,_⟩:=hob;refine⟨_,_,upd ρ h.nx ⟨w.heap.size,0,0,false⟩,.pointer (some ⟨w.heap.size,0,none⟩),_,hK,Nat.le_succ _,q0r _ _ _,hm.push (o:=.mapIter (some (ρ i).blk) clk #[] clk) ⟨rfl,rfl,hi,#[],rfl,rfl,λe x hx=>(by simp at hx),λs hs=>(by cases hs)⟩,⟨Nat.lt_succ_self _,by simp[upd]⟩,?_⟩;simp[Instr.range,run_underlying hu,q1f h3]
   .exact hK.elim
  .rename_i ks vs m ka va el;rcases ha with ⟨rfl,rfl⟩|⟨b,es,clk,rfl,k2,k3,k4,k5⟩
   .refine⟨_,_,upd ρ h.nx ⟨w.heap.size,0,0,false⟩,.pointer (some ⟨w.heap.size,0,none⟩),_,hK,Nat.le_succ _,q0r _ _ _,hm.push (o:=.mapIter none 0 #[] 0) ⟨rfl,rfl,.inl ⟨rfl,rfl,rfl⟩⟩,⟨Nat.lt_succ_self _,by simp[upd]⟩,?_⟩;simp[Instr.range,run_underlying hu]
   .have hfl:(es.toList.filter λe=>!(#[]:Array Nat).contains e.born)=es.toList:=by
     apply List.filter_eq_self.2;intro a _;simp
    refine⟨_,_,upd ρ h.nx ⟨w.heap.size,0,0,false⟩,.pointer (some ⟨w.heap.size,0,none⟩),_,hK,Nat.le_succ _,q0r _ _ _,hm.push (o:=.mapIter (some b) clk #[] clk) ⟨rfl,rfl,.inr ⟨b,es,clk,#[],rfl,k2,k4,by rw[hfl];simpa using k3,λe he=>?_,λc hc=>(by cases hc)⟩⟩,⟨Nat.lt_succ_self _,by simp[upd]⟩,?_⟩
    .obtain⟨y,kc,vc,q1,q2,q3⟩:=k5 e he;exact⟨y,kc,vc,by rw[hfl];simpa using q1,q2,q3⟩
    .simp[Instr.range,run_underlying hu,q1f (hm.fz _ _ k2)]
  .rename_i y;obtain⟨hc,hK1⟩:=q08 hK;have:=nilM0_eq hc;subst this;have ha:x=.map none:=ha;subst ha;refine⟨_,_,upd ρ h.nx ⟨w.heap.size,0,0,false⟩,.pointer (some ⟨w.heap.size,0,none⟩),_,hK1,Nat.le_succ _,q0r _ _ _,hm.push (o:=.mapIter none 0 #[] 0) ⟨rfl,rfl,.inl ⟨rfl,rfl,rfl⟩⟩,⟨Nat.lt_succ_self _,by simp[upd]⟩,?_⟩;simp[Instr.range,run_underlying hu]
  .exact hK.elim
 .exact rangeS_ok hm ha hK
theorem run_choice(n:Nat)(hn:0<n)(w:World):∃t w',(choose (.mapNext n)).run P w=.ok (t%n) w'/\(w'=w\/w'=w.drew):=by
 rw[run_choose_drew];split
 .rename_i hf;simp only[Question.forced,decide_eq_true_eq]at hf;have:n=1:=by omega
  subst this;exact⟨0,w,rfl,.inl rfl⟩
 .exact⟨_,w.drew,rfl,.inr rfl⟩
theorem hm_drew{w':World}(hm:HM M w0 ρ h w)(hw:w'=w\/w'=w.drew):HM M w0 ρ h w'/\w'.heap=w.heap:=by
 rcases hw with rfl|rfl
 .exact⟨hm,rfl⟩
 .exact⟨hm.below ((Below.refl _ w).drew),rfl⟩
def stI(c:List SV):Int:=
 match c with
 | [s]=>match s.int? with
  |some (_,_,n)=>n
  |none=>0
 |_=>0
def stP(ks vs:Nat)(c:List SV):Prop:=
 match Nat.beq c.length (ks+vs+1),c.drop (ks+vs)with
 |true,[s]=>match s.int? with
  |some (_,.i64,_)=>True
  |_=>False
 |_,_=>False
theorem stP_ok{ks vs:Nat}{c:List SV}(h:stP ks vs c):c.length=ks+vs+1/\∃s b n,c.drop (ks+vs)=[s]/\s.int?=some (b,.i64,n)/\stI (c.drop (ks+vs))=n:=by
 unfold stP at h;split at h
 .rename_i s h1 h2;split at h
  .rename_i b n h3;exact⟨q02 h1,s,b,n,h2,h3,by rw[h2];simp only[stI,h3]⟩
  .exact h.elim
 .exact h.elim
def leftI(b:Nat->Int)(m:Nat)(s:Nat->Int)(sn:Nat):List Nat:=(List.range m).filter λe=>!(List.range sn).any λk=>b e==s k
def pickI(l:List Nat)(cs:List Nat):Nat:=l.getD (cs.headD 0%l.length) 0
def okKV(ks vs:Nat)(ka va:Bool)(c:List SV):Bool:=Nat.beq c.length (ks+vs)&&((ka||Nat.beq ks 1)&&(va||Nat.beq vs 1))
def nextM(h:SH)(a:SV)(str:Bool):Tr (SV×SH):=
 match str with
 |true=>nextS h a true
 |false=>match a with
  | .p i 0=>match h.get i with
   | .mif ks vs ka va rem cnt _=>.br (decide (cnt=0)) (.ret (.tup [.k (.bool false)],h)) (.all λcs=>
     let j:=cs.headD 0%cnt
     bif okKV ks vs ka va (rem.view j)then .ret (.tup [.k (.bool true),valSV ka ((rem.view j).take ks),valSV va ((rem.view j).drop ks)],h.set i (.mif ks vs ka va (.app j rem (.sh (j+1) rem)) (cnt-1) (some (rem.view j))))
     else .bad 880)
   | .mit mi since sel sn last _=>match h.get mi with
    | .map ks vs ka va el m clk _=>.ask (since=clk/\last=clk) (.ask (∀e,e<m->stP ks vs (el.view e)) (.ask (∀k,k<sn->stP 0 0 (sel.view k))
      (.br (decide ((leftI (λe=>stI ((el.view e).drop (ks+vs))) m (λk=>stI (sel.view k)) sn).length=0)) (.ret (.tup [.k (.bool false)],h)) (.all λcs=>
       let j:=pickI (leftI (λe=>stI ((el.view e).drop (ks+vs))) m (λk=>stI (sel.view k)) sn) cs
       bif Nat.beq (el.view j).length (ks+vs+1)&&((ka||Nat.beq ks 1)&&(va||Nat.beq vs 1))then
        .ret (.tup [.k (.bool true),valSV ka ((el.view j).take ks),valSV va (((el.view j).drop ks).take vs)],h.set i (.mit mi since (.app sn sel (.fn λ_=>[.v (.int .i64 (stI ((el.view j).drop (ks+vs))))])) (sn+1) last (some (.v (.int .i64 (stI ((el.view j).drop (ks+vs))))))))
       else .bad 883))))
    |_=>.bad 884
   |_=>.bad 881
  |_=>.bad 882
def entryM(h:SH)(a:SV):Tr (SV×SH):=
 match a with
 | .p i 0=>match h.get i with
  | .mif ks vs ka va _ _ (some c)=>bif okKV ks vs ka va c then .ret (.tup [valSV ka (c.take ks),valSV va (c.drop ks)],h)else .bad 890
  | .mit mi _ _ _ last (some s)=>match h.get mi with
   | .map ks vs ka va el m clk _=>.ask (last=clk) (.ask (∀e,e<m->stP ks vs (el.view e)) (.ask (stP 0 0 [s])
     (let j:=kfind (λe=>stI ((el.view e).drop (ks+vs))==stI [s]) m 0
      .ask (j<m) (bif Nat.beq (el.view j).length (ks+vs+1)&&((ka||Nat.beq ks 1)&&(va||Nat.beq vs 1))then
         .ret (.tup [valSV ka ((el.view j).take ks),valSV va (((el.view j).drop ks).take vs)],h)
        else .bad 891))))
   |_=>.bad 892
  |_=>.bad 893
 |_=>.bad 894
end
end Go.Sx

namespace Go.Sx
open Go.RowKit
variable[Env]
theorem qb9{α:Type}(b:α->Nat):∀{l:List α}{j:Nat}{e:α},l.Pairwise (λx y=>b x<b y)->l[j]?=some e->l.filter (λx=>!decide (b x=b e))=l.eraseIdx j
 | [],_,_,_,h=>by simp at h
 |x::l,0,e,hp,h=>by
  simp only[List.getElem?_cons_zero,Option.some.injEq]at h;subst h;rw[List.pairwise_cons]at hp;simp only[List.eraseIdx_zero,List.tail_cons,List.filter_cons,decide_true,Bool.not_true,Bool.false_eq_true,if_false];rw[List.filter_eq_self];intro y hy;have:=hp.1 y hy;simp only[Bool.not_eq_true',decide_eq_false_iff_not];omega
 |x::l,j+1,e,hp,h=>by
  rw[List.pairwise_cons]at hp;have h:l[j]?=some e:=by simpa using h
  have hx:=hp.1 e (List.mem_of_getElem? h);have hne:¬b x=b e:=by omega
  simp only[List.filter_cons,hne,decide_false,Bool.not_false,if_true,List.eraseIdx_cons_succ];rw[qb9 b hp.2 h]
section
variable{P:Program}{M:Nat->Prop}{w0 w:World}{ρ:Rh}{h:SH}
theorem stp_pair{es:Array MapEntry}{clk:Nat}(hs:Stp es clk):es.toList.Pairwise (λx y=>x.born<y.born):=by
 rw[List.pairwise_iff_getElem];intro i j hi hj hij;exact hs.2 i j _ _ hij (by rw[<-Array.getElem?_toList,List.getElem?_eq_getElem hi]) (by rw[<-Array.getElem?_toList,List.getElem?_eq_getElem hj])
theorem next_run{r m clk:Nat}{es:Array MapEntry}{seen:Array Nat}{ty:TypeId}(hr:w.heap[r]?=some (.mapIter (some m) clk seen clk))(hmp:w.heap[m]?=some (.map es clk))(hs:Stp es clk):
  ((es.toList.filter λe=>!seen.contains e.born)=[]->(Instr.next (.pointer (some ⟨r,0,none⟩)) false ty).run P w=.ok (.tuple #[.bool false]) w)/\
  (∀n,(es.toList.filter λe=>!seen.contains e.born).length=n->0<n->∃t w' e,(w'=w\/w'=w.drew)/\(es.toList.filter λe=>!seen.contains e.born)[t%n]?=some e/\
   (Instr.next (.pointer (some ⟨r,0,none⟩)) false ty).run P w=.ok (.tuple #[.bool true,e.key,e.val]) (w'.putObj r (.mapIter (some m) clk (seen.push e.born) clk))):=by
 have g1:(getObj r).run P w=.ok (.mapIter (some m) clk seen clk) w:=by simp[getObj,Sem.run,hr]
 have g2:(getObj m).run P w=.ok (.map es clk) w:=q1f hmp
 have hlt:∀e∈es.toList,e.born<clk:=λe he=>by
  obtain⟨i,hi,rfl⟩:=List.getElem_of_mem he;exact hs.1 i _ (by rw[<-Array.getElem?_toList,List.getElem?_eq_getElem hi])
 have hun:(!seen.isEmpty&&!es.isEmpty&&es.all (λe=>decide (e.born>=clk)))=false:=by
  cases he:es.isEmpty with
  |true=>simp
  |false=>
   have hne:es.size≠0:=by
    intro h0;have:es=#[]:=Array.eq_empty_of_size_eq_zero h0;subst this;simp at he
   have:es.all (λe=>decide (e.born>=clk))=false:=by
    rw[Array.all_eq_false];refine⟨0,by omega,?_⟩;have:=hlt es[0] (by rw[<-Array.getElem_toList];exact List.getElem_mem _);simp only[ge_iff_le,decide_eq_true_eq];omega
   simp[this]
 have hleft:(es.filter λe=>!seen.contains e.born).toList=es.toList.filter λe=>!seen.contains e.born:=Array.toList_filter
 have hold:((es.filter λe=>!seen.contains e.born).filter λe=>decide (e.born<clk))=es.filter λe=>!seen.contains e.born:=by
  apply Array.toList_inj.1;rw[Array.toList_filter,List.filter_eq_self,hleft];intro a ha;exact decide_eq_true (hlt a ((List.mem_filter.1 ha).1))
 have hnew:((es.filter λe=>!seen.contains e.born).filter λe=>decide (e.born>=clk))=#[]:=by
  apply Array.toList_inj.1;rw[Array.toList_filter,hleft];rw[List.filter_eq_nil_iff];intro a ha;have:=hlt a ((List.mem_filter.1 ha).1);simp only[ge_iff_le,decide_eq_true_eq];omega
 refine⟨λh0=>?_,λn hn hpos=>?_⟩
 .have he:(es.filter λe=>!seen.contains e.born)=#[]:=Array.toList_inj.1 (by rw[hleft,h0]);unfold Instr.next;simp only[Sem.run_bind,g1,Result.andThen_ok,g2,hun,Bool.false_eq_true,if_false,Sem.run_pure,hold,hnew,he];simp[run_choose_drew,Question.forced]
 .generalize hL:(es.filter λe:MapEntry=>!seen.contains e.born)=L at hleft hold hnew;have hsz:L.size=n:=by rw[<-Array.length_toList,hleft];exact hn
  have hemp:L.isEmpty=false:=by
   rw[Array.isEmpty_eq_false_iff];intro h0;rw[h0]at hsz;simp at hsz;omega
  obtain⟨t,w',h1,h2⟩:=run_choice (P:=P) n hpos w;have hlt2:t%n<L.size:=by rw[hsz];exact Nat.mod_lt _ hpos
  have hel:L[t%n]?=some L[t%n]:=Array.getElem?_eq_getElem hlt2;refine⟨t,w',L[t%n],h2,?_,?_⟩
  .rw[<-hleft,Array.getElem?_toList];exact hel
  .have hcs:((if L.isEmpty=true then(#[none]:Array (Option MapEntry))else #[])++(L++#[]).map some)=L.map some:=by
    rw[hemp];simp
   have hr':w'.heap[r]?=some (.mapIter (some m) clk seen clk):=by
    rcases h2 with rfl|rfl
    .exact hr
    .exact hr
   have hso:(setObj r (.mapIter (some m) clk (seen.push (L[t%n]).born) clk)).run P w'=.ok () (w'.putObj r (.mapIter (some m) clk (seen.push (L[t%n]).born) clk)):=by
    simp only[setObj,Sem.run,hr'];rfl
   unfold Instr.next;simp only[Sem.run_bind,g1,Result.andThen_ok,g2,hun,Bool.false_eq_true,if_false,Sem.run_pure,hL,hold,hnew,hcs];simp only[Array.size_map,hsz,h1,Result.andThen_ok,Array.getElem?_map,hel,Option.map_some,Sem.run_bind,hso,Sem.run_pure]
theorem left_push{es:Array MapEntry}{clk:Nat}(hs:Stp es clk){seen:Array Nat}{j:Nat}{e:MapEntry}(hj:(es.toList.filter λx=>!seen.contains x.born)[j]?=some e):
  (es.toList.filter λx=>!(seen.push e.born).contains x.born)=(es.toList.filter λx=>!seen.contains x.born).eraseIdx j:=by
 rw[<-qb9 (·.born) ((stp_pair hs).filter _) hj,List.filter_filter];congr 1;funext x;rw[Bool.eq_iff_iff];simp only[Array.contains_eq_mem,Array.mem_push,Bool.not_eq_true',decide_eq_false_iff_not,Bool.and_eq_true];constructor
 .intro h;exact⟨λh'=>h (.inr h'),λh'=>h (.inl h')⟩
 .rintro⟨h1,h2⟩ (h3|h3)
  .exact h2 h3
  .exact h1 h3
theorem left_eq{es:Array MapEntry}{seen:Array Nat}{m sn:Nat}{b s:Nat->Int}(hm:es.size=m)(hs:seen.size=sn)(hb:∀(e:Nat)(y:MapEntry),es[e]?=some y->b e=(y.born:Int))(hs':∀k x:Nat,seen[k]?=some x->s k=(x:Int))(d:MapEntry):
  (es.toList.filter λe=>!seen.contains e.born)=(leftI b m s sn).map λi=>es.toList.getD i d:=by
 have h1:es.toList=(List.range m).map λi=>es.toList.getD i d:=by
  apply List.ext_getElem
  .simp[hm]
  .intro i h1 h2;have h3:i<es.size:=by simpa using h1
   simp[List.getD_eq_getElem?_getD,h3]
 have h2:((List.range m).filter λi=>!seen.contains (es.toList.getD i d).born)=leftI b m s sn:=by
  unfold leftI;apply List.filter_congr;intro i hi;have hi:=List.mem_range.1 hi;have hlt:i<es.size:=by omega
  have he:es.toList.getD i d=es[i]:=by simp[List.getD_eq_getElem?_getD,hlt]
  rw[he,hb i es[i] (Array.getElem?_eq_getElem hlt)];congr 1;rw[Bool.eq_iff_iff,List.any_eq_true];constructor
  .intro h;have h:=Array.contains_iff_mem.1 h;obtain⟨k,hk,hk'⟩:=Array.getElem_of_mem h;refine⟨k,List.mem_range.2 (by omega),?_⟩;rw[hs' k es[i].born (by rw[Array.getElem?_eq_getElem hk,hk'])];simp
  .rintro⟨k,hk,hk'⟩;have hk:=List.mem_range.1 hk;have hlk:k<seen.size:=by omega
   rw[hs' k seen[k] (Array.getElem?_eq_getElem hlk)]at hk';have hk':=eq_of_beq hk';have:es[i].born=seen[k]:=by omega
   rw[this];exact Array.contains_iff_mem.2 (Array.getElem_mem hlk)
 rw[<-h2]
 conv=>lhs;rw[h1]
 rw[List.filter_map];rfl
theorem nextM_ok{ty:TypeId}{a:SV}{x:Value}{str:Bool}(hm:HM M w0 ρ h w)(ha:a.fit h.nx ρ x){K:SV×SH->Prop}(hK:(nextM h a str).Holds K):GoodV P M w0 ρ h K (Instr.next x str ty) w:=by
 unfold nextM at hK;split at hK
 .exact nextS_ok hm ha hK
 .split at hK
  .rename_i i;split at hK
   .rename_i ks vs ka va rem cnt _ hg;obtain⟨hi,rfl⟩:=ha;have hob:=hm.ob i;have hown:(h.get i).own (ρ i):=by rw[hg];trivial
    rw[hg]at hob;obtain⟨o1,o2,hob⟩:=hob;rw[o2,Nat.zero_add];have over:cnt=0->K (.tup [.k (.bool false)],h):=λh0=>hK.1 (decide_eq_true h0);have tf:(SV.tup [.k (.bool false)]).fit h.nx ρ (.tuple #[.bool false]):=⟨[.bool false],rfl,rfl,trivial⟩;rcases hob with ⟨hr,h0,_⟩|⟨b,es,clk,seen,hr,hb,hst,hlen,hall,_⟩
    .refine GoodV.same hm (over h0) tf ?_;have g1:(getObj (ρ i).blk).run P w=.ok (.mapIter none 0 #[] 0) w:=by simp[getObj,Sem.run,hr]
     simp[Instr.next,g1]
    .have hmp:=hm.fz _ _ hb;obtain⟨n1,n2⟩:=next_run (P:=P) (ty:=ty) hr hmp hst;by_cases h0:cnt=0
     .exact GoodV.same hm (over h0) tf (n1 (List.length_eq_zero_iff.1 (by rw[hlen];exact h0)))
     .obtain⟨t,w',e,hw',hte,hrun⟩:=n2 cnt hlen (by omega);have hK1:=hK.2 (decide_eq_false h0) [t];obtain⟨hc,hK1⟩:=q08 hK1;simp only[List.headD_cons]at hc hK1;unfold okKV at hc;simp only[Bool.and_eq_true]at hc;obtain⟨c1,c2,c3⟩:=hc;have hl:=q02 c1;have hjlt:t%cnt<cnt:=Nat.mod_lt _ (by omega);obtain⟨y,kc,vc,q1,q2,q3,q4,q5,q6⟩:=hall _ hjlt;rw[hte]at q1;injection q1 with q1
      subst q1;have hv:=q3s rem (t%cnt) q2 (by rw[hl];simp;omega);obtain⟨hm',hh⟩:=hm_drew hm hw';have hlb:(ρ i).blk<w'.heap.size:=by rw[hh];exact(Array.getElem?_eq_some_iff.1 hr).1
      refine⟨_,_,ρ,_,_,hK1,Nat.le_refl _,Agree.refl _ _,?_,⟨[.bool true,e.key,e.val],rfl,rfl,?_,?_,trivial⟩,hrun⟩
      .refine hm'.setOwn hown trivial rfl rfl rfl (by simp[World.putObj]) (λj hj=>World.putObj_heap_other hj) (World.putObj_heap_same hlb) ⟨o1,o2,.inr ⟨b,es,clk,seen.push e.born,rfl,hb,hst,?_,λq hq=>?_,λc hc=>?_⟩⟩
       .rw[left_push hst hte,List.length_eraseIdx,hlen,if_pos hjlt]
       .rw[left_push hst hte,List.getElem?_eraseIdx];simp only[ElE.at];split
        .exact hall q (by omega)
        .obtain⟨y',kc',vc',p1,p2,p3⟩:=hall (q+1) (by omega);refine⟨y',kc',vc',p1,?_,p3⟩;rw[show t%cnt+1+(q-t%cnt)=q+1 by omega];exact p2
       .injection hc with hc
        subst hc;exact⟨e,kc,vc,by simp,(List.mem_filter.1 (List.mem_of_getElem? hte)).1,hv,q3,q4,q5,q6⟩
      .rw[q5];refine q19 (by have:=q0g ks hv;rwa [List.take_left' q3]at this) λhk=>?_;subst hk;rw[q3];exact q02 (by simpa using c2)
      .rw[q6];refine q19 (by have:=q0f ks hv;rwa [List.drop_left' q3]at this) λhk=>?_;subst hk;rw[q4];exact q02 (by simpa using c3)
   .rename_i mi since sel sn last _ hg;split at hK
    .rename_i ks vs ka va el m clk pd hg';obtain⟨⟨hsi,hla⟩,hstp,hsep,hK⟩:=hK;subst hsi;subst hla;obtain⟨hi,rfl⟩:=ha;have hob:=hm.ob i;have hown:(h.get i).own (ρ i):=by rw[hg];trivial
     rw[hg]at hob;obtain⟨o1,o2,hmi,seen,hr,hsn,hseen,_⟩:=hob;have hobm:=hm.ob mi;rw[hg']at hobm;obtain⟨_,_,⟨es,hmp,hsz,hst,hall⟩,_⟩:=hobm;rw[o2,Nat.zero_add]
     have hb:∀(e:Nat)(y:MapEntry),es[e]?=some y->stI ((el.view e).drop (ks+vs))=(y.born:Int):=λe y hy=>by
      have he:e<m:=by rw[<-hsz];exact(Array.getElem?_eq_some_iff.1 hy).1
      obtain⟨hl,s,bb,n,h1,h2,h3⟩:=stP_ok (hstp e he);obtain⟨y',kc,vc,q1,q2,q3,q4,_⟩:=hall e he;rw[hy]at q1;injection q1 with q1
      subst q1;have hv:=q3s el e q2 (by rw[hl];simp;omega);have hd:=q0f (ks+vs) hv;rw[show(kc++(vc++[Value.int .i64 (y.born:Int)])).drop (ks+vs)=[Value.int .i64 (y.born:Int)] by rw[<-List.append_assoc];exact List.drop_left' (by simp;omega),h1]at hd;have:=SV.int_fit h2 hd.1;injection this with _ h9
      rw[h3,h9]
     have hs':∀k x:Nat,seen[k]?=some x->stI (sel.view k)=(x:Int):=λk x hx=>by
      have hk:k<sn:=by rw[<-hsn];exact(Array.getElem?_eq_some_iff.1 hx).1
      obtain⟨hl,s,bb,n,h1,h2,h3⟩:=stP_ok (hsep k hk);have hv:=q3s sel k (hseen k x hx) (by rw[hl];rfl);simp only[Nat.add_zero,List.drop_zero]at h1 h3;rw[h1]at hv;have:=SV.int_fit h2 hv.1;injection this with _ h9
      rw[h3,h9]
     have hle:=left_eq hsz hsn hb hs' ⟨undef,undef,0⟩;have hlm:∀j∈leftI (λe=>stI ((el.view e).drop (ks+vs))) m (λk=>stI (sel.view k)) sn,j<m:=λj hj=>List.mem_range.1 (List.mem_filter.1 hj).1;generalize leftI (λe=>stI ((el.view e).drop (ks+vs))) m (λk=>stI (sel.view k)) sn=lf at hK hle hlm;obtain⟨n1,n2⟩:=next_run (P:=P) (ty:=ty) hr hmp hst;have tf:(SV.tup [.k (.bool false)]).fit h.nx ρ (.tuple #[.bool false]):=⟨[.bool false],rfl,rfl,trivial⟩;by_cases h0:lf.length=0
     .exact GoodV.same hm (hK.1 (decide_eq_true h0)) tf (n1 (by rw[hle,List.length_eq_zero_iff.1 h0];rfl))
     .obtain⟨t,w',e,hw',hte,hrun⟩:=n2 lf.length (by rw[hle,List.length_map]) (by omega);have hK1:=hK.2 (decide_eq_false h0) [t];obtain⟨hc,hK1⟩:=q08 hK1;have hjlt:t%lf.length<lf.length:=Nat.mod_lt _ (by omega)
      have hpk:pickI lf [t]=lf[t%lf.length]:=by
       unfold pickI;simp[List.getD_eq_getElem?_getD,hjlt]
      rw[hle,List.getElem?_map,List.getElem?_eq_getElem hjlt,<-hpk]at hte;have hjm:pickI lf [t]<m:=by rw[hpk];exact hlm _ (List.getElem_mem hjlt)
      generalize pickI lf [t]=j at hc hK1 hte hjm;simp only[Option.map_some,Option.some.injEq]at hte;simp only[Bool.and_eq_true]at hc;obtain⟨c1,c2,c3⟩:=hc;have hl:=q02 c1;obtain⟨y,kc,vc,q1,q2,q3,q4,q5,q6⟩:=hall j hjm
      have hye:y=e:=by
       rw[<-hte,List.getD_eq_getElem?_getD,Array.getElem?_toList,q1];rfl
      subst hye;have hv:=q3s el j q2 (by rw[hl];simp;omega);obtain⟨hm',hh⟩:=hm_drew hm hw';have hlb:(ρ i).blk<w'.heap.size:=by rw[hh];exact(Array.getElem?_eq_some_iff.1 hr).1
      refine⟨_,_,ρ,_,_,hK1,Nat.le_refl _,Agree.refl _ _,?_,⟨[.bool true,y.key,y.val],rfl,rfl,?_,?_,trivial⟩,hrun⟩
      .refine hm'.setOwn hown trivial rfl rfl rfl (by simp[World.putObj]) (λj hj=>World.putObj_heap_other hj) (World.putObj_heap_same hlb) ⟨o1,o2,hmi,seen.push y.born,rfl,by simp[hsn],λk x hx=>?_,λs hs=>?_⟩
       .simp only[ElE.at];rw[Array.getElem?_push]at hx;split at hx
        .rename_i hks;injection hx with hx
         rw[if_neg (by omega)];refine⟨?_,trivial⟩;show Value.int .i64 (x:Int)=_;rw[hb j y q1,hx]
        .have:k<seen.size:=(Array.getElem?_eq_some_iff.1 hx).1;rw[if_pos (by omega)];exact hseen k x hx
       .injection hs with hs
        subst hs;exact⟨y.born,by simp,by rw[hb j y q1];rfl⟩
      .rw[q5];have h5:=q0g ks hv;rw[List.take_left' q3]at h5;refine q19 h5 λhk=>?_;subst hk;rw[q3];exact q02 (by simpa using c2)
      .rw[q6];have h5:=q0g vs (q0f ks hv);rw[List.drop_left' q3,List.take_left' q4]at h5;refine q19 h5 λhk=>?_;subst hk;rw[q4];exact q02 (by simpa using c3)
    .exact hK.elim
   .exact hK.elim
  .exact hK.elim
theorem find_born{es:Array MapEntry}{clk:Nat}(hs:Stp es clk){j:Nat}{y:MapEntry}(hy:es[j]?=some y):es.find? (λe=>e.born==y.born)=some y:=by
 have hj:j<es.size:=(Array.getElem?_eq_some_iff.1 hy).1
 have hyj:es[j]=y:=by
  rw[Array.getElem?_eq_getElem hj]at hy;injection hy
 rw[Array.find?_eq_some_iff_getElem];refine⟨by simp,j,hj,hyj,λk hk=>?_⟩;have:=hs.2 k j es[k] y hk (Array.getElem?_eq_getElem (by omega)) hy;simp only[Bool.not_eq_true',beq_eq_false_iff_ne];omega
theorem entryM_ok{a:SV}{x:Value}(hm:HM M w0 ρ h w)(ha:a.fit h.nx ρ x){K:SV×SH->Prop}(hK:(entryM h a).Holds K):GoodV P M w0 ρ h K (Instr.entry x) w:=by
 unfold entryM at hK;split at hK
 .rename_i i;obtain⟨hi,rfl⟩:=ha;have hob:=hm.ob i;split at hK
  .rename_i ks vs ka va _ _ c hg;rw[hg]at hob;obtain⟨o1,o2,hob⟩:=hob;rw[o2,Nat.zero_add];rcases hob with ⟨_,_,hc⟩|⟨b,es,clk,seen,hr,hb,hst,hlen,hall,hcur⟩
   .cases hc
   .obtain⟨y,kc,vc,q1,q2,q3,q4,q5,q6,q7⟩:=hcur c rfl;obtain⟨hc,hK⟩:=q08 hK;unfold okKV at hc;simp only[Bool.and_eq_true]at hc;obtain⟨c1,c2,c3⟩:=hc;have hmp:=hm.fz _ _ hb;obtain⟨j,hj,hj'⟩:=List.getElem_of_mem q2;have hfd:=find_born hst (j:=j) (y:=y) (by rw[<-Array.getElem?_toList,List.getElem?_eq_getElem hj,hj']);have g1:(getObj (ρ i).blk).run P w=.ok (.mapIter (some b) clk seen clk) w:=by simp[getObj,Sem.run,hr]
    have g2:(getObj b).run P w=.ok (.map es clk) w:=q1f hmp;refine GoodV.same hm hK (x:=.tuple #[y.key,y.val]) ⟨[y.key,y.val],rfl,?_,?_,trivial⟩ ?_
    .rw[q6];refine q19 (by have:=q0g ks q3;rwa [List.take_left' q4]at this) λhk=>?_;subst hk;rw[q4];exact q02 (by simpa using c2)
    .rw[q7];refine q19 (by have:=q0f ks q3;rwa [List.drop_left' q4]at this) λhk=>?_;subst hk;rw[q5];exact q02 (by simpa using c3)
    .unfold Instr.entry;simp only[Sem.run_bind,g1,Result.andThen_ok,q1,g2,bne_self_eq_false,Bool.false_eq_true,if_false,Sem.run_pure,hfd]
  .rename_i mi snc selc snn last s hg;split at hK
   .rename_i ks vs ka va el m clk pd hg';obtain⟨hla,hstp,hsp,hjm,hK⟩:=hK;subst hla;rw[hg]at hob;obtain⟨o1,o2,hmi,seen,hr,hsn,hseen,hcur⟩:=hob;obtain⟨z,hz,hzf⟩:=hcur s rfl;have hobm:=hm.ob mi;rw[hg']at hobm;obtain⟨_,_,⟨es,hmp,hsz,hst,hall⟩,_⟩:=hobm;rw[o2,Nat.zero_add];obtain⟨hc,hK⟩:=q08 hK;simp only[Bool.and_eq_true]at hc;obtain⟨c1,c2,c3⟩:=hc
    have hsi:stI [s]=(z:Int):=by
     obtain⟨_,s',bb,n,h1,h2,h3⟩:=stP_ok hsp;simp only[Nat.add_zero,List.drop_zero,List.cons.injEq,and_true]at h1 h3;subst h1;have:=SV.int_fit h2 hzf;injection this with _ h9
     rw[h3,h9]
    have hpk:=kfind_at (λe=>stI ((el.view e).drop (ks+vs))==stI [s]) m 0 (by omega);generalize kfind (λe=>stI ((el.view e).drop (ks+vs))==stI [s]) m 0=j at hjm hK c1 hpk;have hl:=q02 c1;obtain⟨y,kc,vc,q1,q2,q3,q4,q5,q6⟩:=hall j hjm;have hv:=q3s el j q2 (by rw[hl];simp;omega)
    have hby:stI ((el.view j).drop (ks+vs))=(y.born:Int):=by
     obtain⟨_,s',bb,n,h1,h2,h3⟩:=stP_ok (hstp j hjm);have hd:=q0f (ks+vs) hv;rw[show(kc++(vc++[Value.int .i64 (y.born:Int)])).drop (ks+vs)=[Value.int .i64 (y.born:Int)] by rw[<-List.append_assoc];exact List.drop_left' (by simp;omega),h1]at hd;have:=SV.int_fit h2 hd.1;injection this with _ h9
     rw[h3,h9]
    have hzy:z=y.born:=by
     have:=eq_of_beq hpk;rw[hby,hsi]at this;omega
    subst hzy;have hfd:=find_born hst q1;have g1:(getObj (ρ i).blk).run P w=.ok (.mapIter (some (ρ mi).blk) snc seen last) w:=by simp[getObj,Sem.run,hr]
    have g2:(getObj (ρ mi).blk).run P w=.ok (.map es last) w:=q1f hmp;refine GoodV.same hm hK (x:=.tuple #[y.key,y.val]) ⟨[y.key,y.val],rfl,?_,?_,trivial⟩ ?_
    .rw[q5];have h5:=q0g ks hv;rw[List.take_left' q3]at h5;refine q19 h5 λhk=>?_;subst hk;rw[q3];exact q02 (by simpa using c2)
    .rw[q6];have h5:=q0g vs (q0f ks hv);rw[List.drop_left' q3,List.take_left' q4]at h5;refine q19 h5 λhk=>?_;subst hk;rw[q4];exact q02 (by simpa using c3)
    .unfold Instr.entry;simp only[Sem.run_bind,g1,Result.andThen_ok,hz,g2,bne_self_eq_false,Bool.false_eq_true,if_false,Sem.run_pure,hfd]
   .exact hK.elim
  .exact hK.elim
 .exact hK.elim
end
end Go.Sx

namespace Go.Sx
open Go.RowKit
variable[Env]
def q7n(P:Program)(h:SH)(t t':TypeId)(d s:SV):Tr (SV×SH):=
 match P.underlying t,P.underlying t' with
 |some (.slice e),some (.int _)=>
  match d,s.int? with
  | .k (.slice none 0 0),some (_,_,n)=>
   match P.info? e with
   |some i=>match i.zero with
    |some z=>bif Nat.beq z.cells.size i.size&&Nat.blt 0 i.size then
     .ask (0<n/\n<=(maxLen:Int)/\n.toNat*i.bytes<=140737488355328) (.ret (.ow h.nx n.toNat,h.push (.row e i.size (.fn (zeroEl z)) n.toNat)))else .bad 340
    |none=>.bad 341
   |none=>.bad 342
  |_,_=>.bad 343
 |_,_=>appendS P h t t' d s
def capS(P:Program)(t:TypeId)(a:SV):Tr SV:=
 match P.underlying t,a with
 |some (.slice _),.k (.slice _ _ c)=>.ret (.k (.int .i64 (c:Int)))
 |some (.slice _),.sl _ _ _ c=>.ret (.k (.int .i64 (c:Int)))
 |_,_=>.bad 344
theorem wrap_small{n:Int}(h:0<=n/\n<=9223372036854775807):IntKind.i64.wrap n=n:=by
 simp[IntKind.wrap,IntKind.bits,IntKind.signed];omega
section
variable{P:Program}{M:Nat->Prop}{w0 w:World}{ρ:Rh}{h:SH}
theorem cap_ok{t ty:TypeId}{ts:List TypeId}{a:SV}{x:Value}{K:SV×SH->Prop}(hm:HM M w0 ρ h w)(ha:a.fit h.nx ρ x)(hK0:((capS P t a).bind λs=>(.ret (s,h):Tr (SV×SH))).Holds K):GoodV P M w0 ρ h K (Builtin.cap_ (t::ts).toArray ty #[x]) w:=by
 have hK:=Tr.holds_bind hK0;clear hK0;unfold capS at hK;split at hK
 .rename_i e a' n c hu;simp only[SV.fit]at ha;subst ha;exact GoodV.same hm hK (x:=.int .i64 (c:Int)) rfl (by simp[Builtin.cap_,run_underlying hu,goInt])
 .rename_i e i o l c hu;obtain⟨_,rfl⟩:=ha;exact GoodV.same hm hK (x:=.int .i64 (c:Int)) rfl (by simp[Builtin.cap_,run_underlying hu,goInt])
 .exact hK.elim
theorem q85{t t':TypeId}{ty:TypeId}{d s:SV}{x y:Value}(hm:HM M w0 ρ h w)(hd:d.fit h.nx ρ x)(hs:s.fit h.nx ρ y){K:SV×SH->Prop}(hK:(q7n P h t t' d s).Holds K):
  GoodV P M w0 ρ h K (Builtin.append_ #[t,t'] ty #[x,y]) w:=by
 unfold q7n at hK;split at hK
 .rename_i e q0 ht ht';split at hK
  .rename_i _ q n hn;split at hK
   .rename_i i hi;split at hK
    .rename_i z hz;obtain⟨hb,hK⟩:=q08 hK;obtain⟨⟨h0,h1,h2⟩,hK⟩:=hK;simp only[Bool.and_eq_true]at hb;have hzs:=q02 hb.1;have hsz:0<i.size:=by simpa [Nat.blt_eq]using hb.2
     rw[SV.int_fit hn hs];simp only[SV.fit]at hd;subst hd;have hm0:n.toNat<=maxLen:=by omega
     obtain⟨m,rfl⟩:∃m:Nat,n=(m:Int):=⟨n.toNat,by omega⟩;simp only[Int.toNat_natCast]at *;have hmp:0<m:=by omega
     have hge:=grownCap_ge w m 0 e;have hcm:=grownCap_le_maxLen w m 0 e hm0;have hw:IntKind.i64.wrap (m:Int)=(m:Int):=wrap_small (by unfold maxLen at hm0;omega);have hfit:=growslice_fits (bytes:=i.bytes) hmp h2
     have hr:(Builtin.append_ #[t,t'] ty #[.slice none 0 0,.int q (m:Int)]).run P w=.ok (.slice (some ⟨w.heap.size,0,none⟩) m (grownCap w m 0 e)) (w.drew.alloc (.cells (Builtin.zeroCells z.cells m++Builtin.zeroCells z.cells (grownCap w m 0 e-m)) e)):=by
      have k1:¬((m:Int)<0):=by omega
      have k2:¬(281474976710656<(m:Int)*(i.bytes:Int)):=by
       have:((m*i.bytes:Nat):Int)<=140737488355328:=by omega
       rw[Int.natCast_mul]at this;omega
      have k3:¬(m=0):=by omega
      have k4:¬(9223372036854775807<(m:Int)):=by unfold maxLen at hm0;omega
      have k5:¬(281474976710656<Builtin.nextslicecap m 0*i.bytes):=by omega
      have k6:¬(i.size=0):=by omega
      have k7:¬(m*i.size=0):=Nat.ne_of_gt (Nat.mul_pos hmp hsz);simp[Builtin.append_,run_underlying ht,run_underlying ht',sizeOf,typeInfo,zeroValue,hi,hz,hw,asInt,asIntOf,k1,k2,k3,k4,k5,k6,Question.forced,newRow,grownCap,Builtin.firstCells];exactλhh=>(k7 hh).elim
     have hcs:(Builtin.zeroCells z.cells m++Builtin.zeroCells z.cells (grownCap w m 0 e-m)).size=grownCap w m 0 e*i.size:=by
      rw[Array.size_append,size_zeroCells,size_zeroCells,hzs,<-Nat.add_mul];congr 1;omega
     have hg:w.grownBy (w.drew.alloc (.cells (Builtin.zeroCells z.cells m++Builtin.zeroCells z.cells (grownCap w m 0 e-m)) e)) none:=⟨rfl,rfl,rfl,by simp,λq hq _=>Below.heap_alloc w.drew _ q hq⟩
     have hm1:=hm.move (i:=h.nx) hg (λb hb=>by cases hb) (so:=.row e i.size (.fn (zeroEl z)) m) (L:=⟨w.heap.size,0,grownCap w m 0 e,false⟩)
      ⟨hm0,.inr ⟨rfl,rfl,_,_,heap_alloc_new w.drew _,okFz0 _,hcs,hge,hcm,λk hk=>?_⟩⟩ (λ_=>.inl (Nat.le_refl _))
     .refine⟨_,_,upd ρ h.nx ⟨w.heap.size,0,grownCap w m 0 e,false⟩,_,_,hK,Nat.le_succ _,q0r _ _ _,hm1.same rfl λj=>?_,⟨Nat.lt_succ_self _,.inr ⟨by simp[upd],by simp[upd];exact hge,by simp[upd]⟩⟩,hr⟩;rw[SH.get_push,SH.get_push,show(h.set h.nx .dead).nx=h.nx from rfl,SH.get_set];split<;>rfl
     .refine⟨z.cells.toList,by simp[hzs],q6v _,λj v hv=>?_⟩;have hj:j<z.cells.size:=by simpa using(List.getElem?_eq_some_iff.1 hv).1
      have hlt:0+k*i.size+j<m*i.size:=by
       have:=Nat.mul_le_mul_right i.size (show k+1<=m by omega);rw[Nat.add_mul,Nat.one_mul]at this;omega
      rw[Array.getElem?_append_left (by rw[size_zeroCells,hzs];exact hlt)];unfold Builtin.zeroCells;rw[hzs,Array.getElem?_map,Array.getElem?_range,if_pos hlt];simp only[Option.map_some];rw[Nat.zero_add,Nat.mul_comm,Nat.mul_add_mod,Nat.mod_eq_of_lt (by omega)];rw[<-hv];rw[getElem!_pos z.cells j hj];simp[hj]
    .exact hK.elim
   .exact hK.elim
  .exact hK.elim
 .exact append_ok hm hd hs hK
end
end Go.Sx

namespace Go.Sx
open Go.RowKit
variable[Env]
def asks{α:Type}:List Prop->Tr α->Tr α
 | [],t=>t
 |p::r,t=>.ask p (asks r t)
theorem q1p{α:Type}{K:α->Prop}:∀{l:List Prop}{t:Tr α},(asks l t).Holds K->(∀p∈l,p)/\t.Holds K
 | [],t,h=>⟨λp hp=>by simp at hp,h⟩
 |p::r,t,h=>by
  obtain⟨h1,h2⟩:=q1p h.2;refine⟨λq hq=>?_,h2⟩;rcases List.mem_cons.1 hq with rfl|hq
  .exact h.1
  .exact h1 q hq
def frz1(h:SH):SV->SV×SH×List Prop
 | .ow i l=>match h.get i with
  | .row _ sz el m=>(.rs sz l el,h.set i .dead,[l<=m])
  |_=>(.ow i l,h,[])
 | .sl i o l c=>match h.get i with
  | .cells xs _=>bif Nat.ble l c&&(Nat.ble c 16777216&&Nat.ble (o+l*((xs.length-o)/c)) xs.length)then(.rs ((xs.length-o)/c) l (λe=>(xs.drop (o+e*((xs.length-o)/c))).take ((xs.length-o)/c)),h.set i .dead,[])else(.u,h,[])
  |_=>(.sl i o l c,h,[])
 |s=>(s,h,[])
def frzA:SH->List SV->List SV×SH×List Prop
 |h,[]=>([],h,[])
 |h,s::r=>((frz1 h s).1::(frzA (frz1 h s).2.1 r).1,(frzA (frz1 h s).2.1 r).2.1,(frz1 h s).2.2++(frzA (frz1 h s).2.1 r).2.2)
def isOw:SV->Bool
 | .ow ..=>true
 | .sl ..=>true
 |_=>false
def nest(P:Program)(h:SH)(xs:List SV):Bool:=xs.all λs=>match s with
 | .ow i _=>match h.get i with
  | .row t _ _ _=>match P.underlying t with
   |some (.slice _)=>true
   |_=>false
  |_=>false
 | .sl i _ _ _=>match h.get i with
  | .cells _ t=>match P.underlying t with
   |some (.slice _)=>true
   |_=>false
  |_=>false
 |_=>false
def appendY(P:Program)(h:SH)(t t':TypeId)(d s:SV):Tr (SV×SH):=
 match s with
 | .sl i o l c=>match h.get i with
  | .cells xs tt=>bif xs.any isOw&&!nest P h xs then asks (frzA h xs).2.2 (match(frzA h xs).2.1.get i with
    | .cells _ _=>q7n P ((frzA h xs).2.1.set i (.cells (frzA h xs).1 tt)) t t' d (.sl i o l c)
    |_=>.bad 345)else q7n P h t t' d (.sl i o l c)
  |_=>q7n P h t t' d (.sl i o l c)
 |s=>q7n P h t t' d s
theorem frz1_b(h:SH)(s:SV):(frz1 h s).2.1.b=h.b/\(frz1 h s).2.1.nx=h.nx:=by
 unfold frz1;split
 .split<;>exact⟨rfl,rfl⟩
 .split
  .rw[Bool.cond_eq_ite];split<;>exact⟨rfl,rfl⟩
  .exact⟨rfl,rfl⟩
 .exact⟨rfl,rfl⟩
theorem frzA_b:∀(args:List SV)(h:SH),(frzA h args).2.1.b=h.b/\(frzA h args).2.1.nx=h.nx
 | [],h=>⟨rfl,rfl⟩
 |s::r,h=>by
  obtain⟨h1,h2⟩:=frz1_b h s;obtain⟨h3,h4⟩:=frzA_b r (frz1 h s).2.1;exact⟨h3.trans h1,h4.trans h2⟩
section
variable{P:Program}{M:Nat->Prop}{w0 w:World}
theorem frz1_ok{ρ:Rh}{h:SH}{s:SV}{x:Value}(hm:HM M w0 ρ h w)(hf:s.fit h.nx ρ x)(hp:∀p∈(frz1 h s).2.2,p):∃ρ',Agree h.nx ρ ρ'/\HM M w0 ρ' (frz1 h s).2.1 w/\(frz1 h s).1.fit h.nx ρ' x:=by
 generalize hr:frz1 h s=r at hp ⊢;unfold frz1 at hr;split at hr
 .rename_i i l;split at hr
  .rename_i t sz el m hg;subst hr;have hl:l<=m:=hp _ (List.mem_cons_self ..);have hob:=hm.ob i;rw[hg]at hob;obtain⟨hil,⟨hnl,rfl,ad,rfl⟩|⟨hnl,hlc,rfl⟩⟩:=hf
   .exact⟨ρ,Agree.refl _ _,hm.forget i,rs_nil0 _ _ _⟩
   .rcases hob.2 with ⟨hnl',_⟩|⟨_,hoff,c,fz,hob',_,hcs,hmc,hcm,hall⟩
    .rw[hnl]at hnl';cases hnl'
    .have hown:(h.get i).own (ρ i):=by rw[hg];exact hnl
     have hag:Agree h.nx ρ (ρ.frz (ρ i).blk _):=q61 (n:=h.nx) ρ (o:=.cells c t fz) (hm.sep i hown);refine⟨_,hag,HM.freeze hm hown hob',?_⟩;refine⟨_,_,rfl,hlc,by omega,λ_=>⟨_,0,c,t,fz,rfl,?_,λe he=>?_⟩⟩
     .simp[Rh.frz]
     .obtain⟨vs,q1,q2,q3⟩:=hall e (by omega);exact⟨vs,q1,SV.fits_mono (Nat.le_refl _) hag _ _ q2,q3⟩
  .subst hr;exact⟨ρ,Agree.refl _ _,hm,hf⟩
 .rename_i i o l c;split at hr
  .rename_i xs t hg;cases hb:Nat.ble l c&&(Nat.ble c 16777216&&Nat.ble (o+l*((xs.length-o)/c)) xs.length)with
   |false=>rw[hb]at hr;subst hr;exact⟨ρ,Agree.refl _ _,hm,trivial⟩
   |true=>
    rw[hb]at hr;subst hr;simp only[Bool.and_eq_true]at hb;have b1:=Nat.le_of_ble_eq_true hb.1;have b2:=Nat.le_of_ble_eq_true hb.2.1;have b3:=Nat.le_of_ble_eq_true hb.2.2;have hob:=hm.ob i;rw[hg]at hob;obtain⟨hil,rfl⟩:=hf;obtain⟨_,hoff,v,hob',hfl⟩:=hob;have hll:=q0a hfl;have hown:(h.get i).own (ρ i):=by rw[hg];trivial
    have hag:Agree h.nx ρ (ρ.frz (ρ i).blk _):=q61 (n:=h.nx) ρ (o:=.cells v.toArray t (0,0)) (hm.sep i hown);refine⟨_,hag,HM.freeze hm hown hob',?_⟩;show(SV.rs ((xs.length-o)/c) l (λe=>(xs.drop (o+e*((xs.length-o)/c))).take ((xs.length-o)/c))).fit h.nx _ _;generalize (xs.length-o)/c=sz at b3 ⊢;refine⟨_,_,rfl,b1,by unfold maxLen;omega,λ_=>⟨_,_,v.toArray,t,(0,0),rfl,by simp[Rh.frz],λe he=>?_⟩⟩
    have hle:o+e*sz+sz<=xs.length:=by
     have:=Nat.mul_le_mul_right sz (show e+1<=l by omega);rw[Nat.add_mul,Nat.one_mul]at this;omega
    refine⟨(v.drop (o+e*sz)).take sz,by simp;omega,SV.fits_mono (Nat.le_refl _) hag _ _ (q0g _ (q0f _ hfl)),λj y hy=>?_⟩;rw[List.getElem?_take]at hy;split at hy
    .rw[List.getElem?_drop]at hy;rw[hoff];simpa [Nat.add_assoc]using hy
    .cases hy
  .subst hr;exact⟨ρ,Agree.refl _ _,hm,hf⟩
 .subst hr;exact⟨ρ,Agree.refl _ _,hm,hf⟩
theorem frzA_ok:∀{args:List SV}{ρ:Rh}{h:SH}{vs:List Value},HM M w0 ρ h w->SV.fits h.nx ρ args vs->(∀p∈(frzA h args).2.2,p)->∃ρ',Agree h.nx ρ ρ'/\HM M w0 ρ' (frzA h args).2.1 w/\SV.fits h.nx ρ' (frzA h args).1 vs
 | [],ρ,h,vs,hm,hf,_=>⟨ρ,Agree.refl _ _,hm,hf⟩
 |s::r,ρ,h,vs,hm,hf,hp=>by
  obtain⟨y,ys,rfl,hy,hr⟩:=q03 hf;simp only[frzA]at hp ⊢;obtain⟨ρ1,a1,m1,f1⟩:=frz1_ok hm hy λp hq=>hp p (List.mem_append_left _ hq);have hnx:=(frz1_b h s).2;have hr1:SV.fits (frz1 h s).2.1.nx ρ1 r ys:=by rw[hnx];exact SV.fits_mono (Nat.le_refl _) a1 _ _ hr
  obtain⟨ρ2,a2,m2,f2⟩:=frzA_ok (args:=r) m1 hr1 λp hq=>hp p (List.mem_append_right _ hq);rw[hnx]at a2 f2;exact⟨ρ2,a1.trans (Nat.le_refl _) a2,m2,SV.fit_mono (Nat.le_refl _) a2 _ _ f1,f2⟩
theorem appendY_ok{ρ:Rh}{h:SH}{t t':TypeId}{ty:TypeId}{d s:SV}{x y:Value}(hm:HM M w0 ρ h w)(hd:d.fit h.nx ρ x)(hs:s.fit h.nx ρ y){K:SV×SH->Prop}(hK:(appendY P h t t' d s).Holds K):
  GoodV P M w0 ρ h K (Builtin.append_ #[t,t'] ty #[x,y]) w:=by
 unfold appendY at hK;split at hK
 .rename_i i o l c;split at hK
  .rename_i xs tt hg;cases hb:xs.any isOw&&!nest P h xs with
   |false=>rw[hb]at hK;exact q85 hm hd hs hK
   |true=>
    rw[hb]at hK;obtain⟨hq,hK⟩:=q1p hK;split at hK
    .rename_i ys t2 hg2;have hob:=hm.ob i;rw[hg]at hob;obtain⟨hnl,hoff,v,hob',hfl⟩:=hob;obtain⟨ρ1,a1,m1,f1⟩:=frzA_ok hm hfl hq;have hnx:=(frzA_b xs h).2;have hi:i<h.nx:=hm.lt i (by rw[hg];rfl);have e1:ρ1 i=ρ i:=(a1.1 i hi);have hown:((frzA h xs).2.1.get i).own (ρ1 i):=by rw[hg2];trivial
     have m2:HM M w0 ρ1 ((frzA h xs).2.1.set i (.cells (frzA h xs).1 tt)) w:=m1.setOwn hown (so:=.cells (frzA h xs).1 tt) (by trivial) rfl rfl rfl rfl (λ_ _=>rfl) (by rw[e1];exact hob') (by
      rw[hnx,e1];exact⟨hnl,hoff,v,rfl,f1⟩)
     have hd1:d.fit ((frzA h xs).2.1.set i (.cells (frzA h xs).1 tt)).nx ρ1 x:=by
      show d.fit (frzA h xs).2.1.nx ρ1 x;rw[hnx];exact SV.fit_mono (Nat.le_refl _) a1 _ _ hd
     have hs1:(SV.sl i o l c).fit ((frzA h xs).2.1.set i (.cells (frzA h xs).1 tt)).nx ρ1 y:=by
      show(SV.sl i o l c).fit (frzA h xs).2.1.nx ρ1 y;rw[hnx];exact SV.fit_mono (Nat.le_refl _) a1 _ _ hs
     obtain⟨s',h',ρ',x',w',k1,k2,k3,k4,k5,k6⟩:=q85 (ty:=ty) m2 hd1 hs1 hK;have k2':(frzA h xs).2.1.nx<=h'.nx:=k2;have k3':Agree (frzA h xs).2.1.nx ρ1 ρ':=k3;rw[hnx]at k2' k3';exact⟨s',h',ρ',x',w',k1,k2',a1.trans (Nat.le_refl _) k3',k4,k5,k6⟩
    .exact hK.elim
  .exact q85 hm hd hs hK
 .exact q85 hm hd hs hK
end
end Go.Sx
