/- The pieces of a range over a function, picked out of a function's code. -/
import Derived.Test.YtfkdbifgppfegaaDoorZG053af284
import Derived.Test.YtfkdbifgppfegaaDoorZG04a3c07c
import Derived.Lib.MapLaws
import Derived.Lib.ValidLaws
import Derived.Test.YtfkdbifgppfegaaDoorZG01b92856
import Derived.Test.YtfkdbifgppfegaaDoorZG0004d31a
import Derived.ProofKit
import Derived.OpenShut
import Derived.ShutString
import Derived.ChangeOld
import Derived.Below
import Derived.Deep.Slices
set_option linter.unusedVariables false
set_option linter.unusedSimpArgs false
set_option linter.constructorNameAsVariable false
set_option linter.all false

namespace Go.Sx
variable[Env]
def rangesIn:Code->List (Array Tmp×Code×Code)
 | .seq a b=>rangesIn a++rangesIn b
 | .cond _ a b=>rangesIn a++rangesIn b
 | .block _ c=>rangesIn c
 | .scope c=>rangesIn c
 | .loop c=>rangesIn c
 | .rangeFunc _ ps a b=>(ps,a,b)::(rangesIn a++rangesIn b)
 |_=>[]
def rangeOf(P:Program)(f k:Nat):Array Tmp×Code×Code:=
 match P.funcs[f]? with
 |some fn=>match fn.body with
  |some c=>((rangesIn c)[k]?).getD (#[],.skip,.skip)
  |none=>(#[],.skip,.skip)
 |none=>(#[],.skip,.skip)
def LP.rf(N id:Nat)(P:Program)(f k n:Nat)(fx:List (Nat×SV))(df:Nat):LP N (LoopState×Option Code):=
 LP.loopO N id n fx (rangeOf P f k).1 (rangeOf P f k).2.1 (rangeOf P f k).2.2 df
def exitsS{γ:Type}(x:Ex×γ):List ((Ex×γ->Bool)×Ex×(γ->γ))->Tr (Ex×γ)
 | []=>.bad 645
 | [(_,e,s)]=>.ret (e,s x.2)
 |(t,e,s)::y::r=>.br (t x) (.ret (e,s x.2)) (exitsS x (y::r))
def exitsOk{γ:Type}(x:Ex×γ):List ((Ex×γ->Bool)×Ex×(γ->γ))->Prop
 | []=>False
 | [(_,e,s)]=>x.1=e/\s x.2=x.2
 |(t,e,s)::y::r=>(t x=true->x.1=e/\s x.2=x.2)/\(t x=false->exitsOk x (y::r))
theorem exitsS_holds{γ:Type}{x:Ex×γ}{K:Ex×γ->Prop}:∀{l:List ((Ex×γ->Bool)×Ex×(γ->γ))},exitsOk x l->(exitsS x l).Holds K->K x
 | [],h,_=>h.elim
 | [(_,e,s)],h,hk=>by
  obtain⟨h1,h2⟩:=h;have hk:K (e,s x.2):=hk;rw[<-h1,h2]at hk;exact hk
 |(t,e,s)::y::r,h,hk=>by
  cases hb:t x with
  |true=>
   obtain⟨h1,h2⟩:=h.1 hb;have hk:K (e,s x.2):=hk.1 hb;rw[<-h1,h2]at hk;exact hk
  |false=>exact exitsS_holds (l:=y::r) (h.2 hb) (hk.2 hb)
section
variable{P:Program}{Γ:Gam}{Λ:Lam}{N:Nat}{γ:Type}
noncomputable def loopRS(es:List ((Ex×γ->Bool)×Ex×(γ->γ)))(body:Code)(A:LP N γ)(DL:List Nat)(n0:Nat)(Inv:γ->List Prop)(F:γ->Ex×γ)(m:γ->Nat):LCon:=loopC body A DL n0 Inv λg=>exitsS (loopF F m g) es
theorem loop_runS(ι:γ->γ)(hΓ:∀f g,Γ.g f=some g->FnOk P f g)(hΛ:∀f k L,Λ f k=some L->∀b∈loopsOf P f,lkey b=k->LoopOk P b L.g)(n f key n0:Nat)(A:LP N γ)(DL:List Nat)(Inv:γ->List Prop)(F:γ->Ex×γ)(S:γ->Prop)(m:γ->Nat)(d:Ex×γ)(es:List ((Ex×γ->Bool)×Ex×(γ->γ)))
  (hu:((loopsOf P f).filter λc=>Nat.beq (lkey c) key).length=1)
  (hS:∀(rd:Option Nat)(T B:List (Nat×SV))(HL HB:List (Nat×SE))(ds:List Nat)(g:γ),(bT P Γ Λ n f none (loopBody P f key) A DL n0 ⟨n0,T,⟨N,HL,HB⟩,DL,B⟩ ds (ι g)).side=S g)
  (hF:∀(rd:Option Nat)(T B:List (Nat×SV))(HL HB:List (Nat×SE))(ds:List Nat)(g:γ),(bT P Γ Λ n f none (loopBody P f key) A DL n0 ⟨n0,T,⟨N,HL,HB⟩,DL,B⟩ ds (ι g)).ev d=F g)
  (hι:∀g,allP (Inv g)->ι g=g) (hs:∀g,allP (Inv g)->S g) (hg:Goes F m λg=>allP (Inv g)) (hes:∀g,(F g).1=.normal\/exitsOk (F g) es):∀b∈loopsOf P f,lkey b=key->LoopOk P b (loopRS es (loopBody P f key) A DL n0 Inv F m).g:=by
 refine loop_ok hΓ hΛ n f key n0 A DL Inv _ m hu ?_;intro rd T B HL HB ds g hi K hK;have h1:(bT P Γ Λ n f none (loopBody P f key) A DL n0 ⟨n0,T,⟨N,HL,HB⟩,DL,B⟩ ds (ι g)).side:=by rw[hS none];exact hs g hi
 have h2:=Tr.side_holds d h1;rw[hF none,hι g hi]at h2;refine Tr.mono ?_ h2;rintro _ rfl;have hK0:=hK;have hx:exitsOk (loopF F m g) es:=loopF_induct hg (Q:=λ_ r=>exitsOk r es) (λg _ hn=>(hes g).resolve_left hn) (λ_ _ _ _ _ _ _ ih=>ih) g hi;have hK:K (loopF F m g):=exitsS_holds hx hK;unfold StepP;split
 .rename_i he;obtain⟨k1,k2⟩:=hg g hi he;refine⟨k1,k2,?_⟩;show(exitsS (loopF F m (F g).2) es).Holds K;rw[<-loopF_next hg hi (g':=(F g).2) (by rw[<-he])];exact hK0
 .rename_i he;rw[loopF_end (by intro h;exact he h)]at hK;exact hK
end
def Rv.fn1{α:Type}(f:Nat)(R:Rv α):Rv α where
 D:=dFn1 f R.D
 dec h s:=match s with
  | .fn f' [.p i 0]=>match Nat.beq f f' with
   |true=>match h.get i with
    | .cells [s'] _=>R.dec h s'
    |_=>none
   |false=>none
  |_=>none
 ok {M w0 ρ h w G} hv {s r ps x} hd hp hf:=by
  split at hd
  .rename_i f' i;split at hd
   .rename_i hb;split at hd
    .rename_i s' t hg;have e1:=beq_of hb;subst e1;obtain⟨l,rfl,hl⟩:=hf;obtain⟨y,r',rfl,hy,hr⟩:=fits_cons hl;have:=fits_nil hr;subst this;obtain⟨_,rfl⟩:=hy;have hob:=hv.hm.ob i;have hown:=hv.hO i;rw[hg]at hob hown;obtain⟨_,hz,v,hv',hfv⟩:=hob;obtain⟨z,r'',rfl,hz',hr''⟩:=fits_cons hfv;have:=fits_nil hr'';subst this;refine⟨_,rfl,⟨(ρ i).blk,(ρ i).off+0,_,_,_,rfl,hown _ trivial hv',[z],⟨R.ok hv hd hp hz',trivial⟩,λj v hj=>?_⟩,trivial⟩;cases j with
     |zero=>simpa [hz]using hj
     |succ j=>simp at hj
    .cases hd
   .cases hd
  .cases hd
end Go.Sx

namespace Go.Sx
variable[Env]
section
variable{α:Type}(A:El α)
def El.ag(l:List α):List α:=A.lst l.length (A.els l)
def El.okL(l:List α):Prop:=∀e,e<l.length->A.Ok (A.els l e)
@[simp] theorem El.ag_eq (l:List α):A.ag l=l:=A.lst_els l
@[simp] theorem El.okL_eq (l:List α):A.okL l=True:=eq_true λe _=>A.ok_els l e
end
end Go.Sx

namespace Go.Lp
open Go.Lib Go.Sx
def rsA:Nat->List UInt8->List (Nat×Nat)
 |0,_=>[]
 |n+1,l=>if l=[]then []else decodeL l::rsA n (l.drop (decodeL l).2)
def rsL(l:List UInt8):List (Nat×Nat):=rsA l.length l
theorem rsA_nil:∀n,rsA n []=[]
 |0=>rfl
 |_+1=>by simp[rsA]
theorem rsA_fuel:∀(n m:Nat)(l:List UInt8),l.length<=n->l.length<=m->rsA n l=rsA m l
 |0,m,l,hn,_=>by
  have:l=[]:=List.eq_nil_of_length_eq_zero (by omega);subst this;rw[rsA_nil,rsA_nil]
 |n+1,0,l,_,hm=>by
  have:l=[]:=List.eq_nil_of_length_eq_zero (by omega);subst this;rw[rsA_nil,rsA_nil]
 |n+1,m+1,l,hn,hm=>by
  unfold rsA;by_cases hne:l=[]
  .simp[hne]
  .have hw:=decodeL_width l;have hl:0<l.length:=List.length_pos_iff.2 hne;rw[if_neg hne,if_neg hne,rsA_fuel n m (l.drop (decodeL l).2) (by rw[List.length_drop];omega) (by rw[List.length_drop];omega)]
theorem rsL_step(l:List UInt8)(hne:l≠[]):rsL l=decodeL l::rsL (l.drop (decodeL l).2):=by
 have hl:0<l.length:=List.length_pos_iff.2 hne;have hw:=decodeL_width l;obtain⟨n,hn⟩:∃n,l.length=n+1:=⟨l.length-1,by omega⟩;unfold rsL;rw[hn];show(if l=[]then []else _)=_;rw[if_neg hne,rsA_fuel n (l.drop (decodeL l).2).length _ (by rw[List.length_drop];omega) (Nat.le_refl _)]
theorem rsL_ind{p:List UInt8->Prop}(h0:p [])(h1:∀l,l≠[]->p (l.drop (decodeL l).2)->p l):∀l,p l:=by
 have:∀n(l:List UInt8),l.length<=n->p l:=by
  intro n
  induction n with
  |zero=>
   intro l hl;have e:l=[]:=List.eq_nil_of_length_eq_zero (by omega);rw[e];exact h0
  |succ n ih=>
   intro l hl;by_cases hne:l=[]
   .rw[hne];exact h0
   .have hw:=decodeL_width l;exact h1 l hne (ih _ (by rw[List.length_drop];have:=List.length_pos_iff.2 hne;omega))
 exactλl=>this _ l (Nat.le_refl _)
end Go.Lp

namespace Go.Lp
open Go.Sx
variable[Env]
abbrev w64(n:Int):Int:=IntKind.i64.wrap n
theorem wr{n:Int}(h:0<=n/\n<=9223372036854775807):w64 n=n:=by
 unfold w64;simp[IntKind.wrap,IntKind.bits,IntKind.signed];omega
section
variable{α σ:Type}
end
end Go.Lp

namespace Go.Lp
open Go.Sx
variable[Env]
section
variable{α β:Type}
theorem drop_at(d:α){xs:List α}{i:Nat}(h:i<xs.length):xs.drop i=xs.getD i d::xs.drop (i+1):=by
 rw[List.drop_eq_getElem_cons h];simp[List.getD_eq_getElem?_getD,h]
section
variable(x:Nat)(d:α)(bad:List α->α->Bool)(step:List α->β->α->β)(c:Int)(ok:List α->β->Nat->Prop)
variable(hok:∀xs b i,i<xs.length->ok xs b i->ok xs (step xs b (xs.getD i d)) (i+1))
include hok
end
section
variable(x:Nat)(d:α)(bad:List α->α->Bool)(step:List α->β->α->β)(c:Int)(ok:List α->β->Nat->Prop)
variable(hok:∀xs b i,i<xs.length->ok xs b i->ok xs (step xs b (xs.getD i d)) (i+1))
include hok
end
variable{σ:Type}
end
end Go.Lp

namespace Go.Lp
open Go.Sx
variable[Env]
theorem runL_conj{γ δ:Type}{F:γ->Ex×γ}{F':δ->Ex×δ}{m':δ->Nat}{I':δ->Prop}(φ:γ->δ)(ψ:δ->γ)(h2:∀d,φ (ψ d)=d)(hF:∀d,I' d->F (ψ d)=((F' d).1,ψ (F' d).2))(hg:Goes F' m' I'):∀(n:Nat)(d:δ),I' d->runL F n (ψ d)=((runL F' n d).1,ψ (runL F' n d).2)
 |0,d,_=>by simp[runL]
 |n+1,d,hi=>by
  simp only[runL];have h:=hF d hi;have hk:=hg d hi;rw[h];generalize F' d=x at hk;obtain⟨e,d'⟩:=x;cases e with
  |normal=>
   simp only;rw[runL_conj φ ψ h2 hF hg n d' (hk rfl).1]
  |_=>rfl
theorem loopF_conj{γ δ:Type}{F:γ->Ex×γ}{F':δ->Ex×δ}{m:γ->Nat}{m':δ->Nat}{I':δ->Prop}(φ:γ->δ)(ψ:δ->γ)(h1:∀g,ψ (φ g)=g)(h2:∀d,φ (ψ d)=d)(hm:∀d,m (ψ d)=m' d)(hF:∀d,I' d->F (ψ d)=((F' d).1,ψ (F' d).2))(hg:Goes F' m' I')(g:γ)(hi:I' (φ g)):
  loopF F m g=((loopF F' m' (φ g)).1,ψ (loopF F' m' (φ g)).2):=by
 have e:=hm (φ g);have r:=runL_conj φ ψ h2 hF hg (m' (φ g)+1) (φ g) hi;rw[h1]at e r;rw[loopF_def,loopF_def,e];exact r
theorem goes_conj{γ δ:Type}{F:γ->Ex×γ}{F':δ->Ex×δ}{m:γ->Nat}{m':δ->Nat}{I:γ->Prop}{I':δ->Prop}(φ:γ->δ)(ψ:δ->γ)(h1:∀g,ψ (φ g)=g)(hm:∀d,m (ψ d)=m' d)(hI:∀d,I (ψ d)↔I' d)(hF:∀d,I' d->F (ψ d)=((F' d).1,ψ (F' d).2))(h:Goes F' m' I'):Goes F m I:=by
 intro g hi hn;rw[<-h1 g]at hi hn ⊢;have hi':=(hI _).1 hi;rw[hF _ hi']at hn ⊢;rw[hI];rw[hm,hm];exact h _ hi' hn
section
variable{α β C:Type}
def ixF(x:Nat)(lim:C->Int)(xs:C->List α)(d:α)(step:C->β->Int->α->Ex×β)(g:Int×C×β):Ex×(Int×C×β):=
 bif decide (g.1<lim g.2.1)then
  match step g.2.1 g.2.2 g.1 ((xs g.2.1).getD g.1.toNat d)with
  |(.normal,b)=>(.normal,w64 (g.1+1),g.2.1,b)
  |(e,b)=>(e,g.1,g.2.1,b)
 else(.exit x,g)
def ixJ(lim:C->Int)(xs:C->List α)(P:C->β->Int->Prop)(g:Int×C×β):Prop:=lim g.2.1=((xs g.2.1).length:Int)/\(xs g.2.1).length<=maxLen/\0<=g.1/\g.1<=((xs g.2.1).length:Int)/\P g.2.1 g.2.2 g.1
def ixI(lim:C->Int)(xs:C->List α)(P:C->β->Int->Prop)(g:Int×C×β):List Prop:=[ixJ lim xs P g]
def ixM(lim:C->Int)(g:Int×C×β):Nat:=(lim g.2.1-g.1).toNat
def scan(x:Nat)(step:β->Int->α->Ex×β):Int->List α->β->Ex×Int×β
 |i,[],b=>(.exit x,i,b)
 |i,a::l,b=>match step b i a with
  |(.normal,b')=>scan x step (i+1) l b'
  |(e,b')=>(e,i,b')
def ixP(step:C->β->Int->α->Ex×β)(xs:C->List α)(P:C->β->Int->Prop):Prop:=∀c b(i:Nat)a,P c b i->(xs c)[i]?=some a->(step c b i a).1=.normal->P c (step c b i a).2 (i+1)
variable{x:Nat}{lim:C->Int}{xs:C->List α}{d:α}{step:C->β->Int->α->Ex×β}{P:C->β->Int->Prop}
theorem ix_goes(hP:ixP step xs P):Goes (ixF x lim xs d step) (ixM lim) λg=>allP (ixI lim xs P g):=by
 rintro⟨i,c,b⟩ hi hn;obtain⟨h1,h2,h3,h4,h5⟩:=hi _ (List.mem_cons_self ..);simp only at h1 h2 h3 h4 h5;unfold ixF at hn ⊢;simp only at hn ⊢;unfold maxLen at h2;by_cases hlt:i<lim c
 .simp only[hlt,decide_true,cond_true]at hn ⊢;have hlt':i.toNat<(xs c).length:=by omega
  have hp:=hP c b i.toNat ((xs c).getD i.toNat d) (by rw[show(i.toNat:Int)=i by omega];exact h5) (by rw[List.getD_eq_getElem?_getD,List.getElem?_eq_getElem hlt'];rfl);rw[show(i.toNat:Int)=i by omega]at hp;generalize step c b i ((xs c).getD i.toNat d)=s at hn hp ⊢;obtain⟨e,b'⟩:=s;cases e with
  |normal=>
   rw[wr (n:=i+1) (by omega)];refine⟨λq hq=>?_,?_⟩
   .simp only[ixI,List.mem_singleton]at hq;subst hq;exact⟨h1,by unfold maxLen;exact h2,by show(0:Int)<=i+1;omega,by show i+1<=((xs c).length:Int);omega,hp rfl⟩
   .simp only[ixM];omega
  |_=>cases hn
 .simp only[hlt,decide_false,cond_false]at hn;cases hn
theorem ix_run(hP:ixP step xs P):∀g:Int×C×β,allP (ixI lim xs P g)->
  loopF (ixF x lim xs d step) (ixM lim) g=((scan x (step g.2.1) g.1 ((xs g.2.1).drop g.1.toNat) g.2.2).1,(scan x (step g.2.1) g.1 ((xs g.2.1).drop g.1.toNat) g.2.2).2.1,g.2.1,(scan x (step g.2.1) g.1 ((xs g.2.1).drop g.1.toNat) g.2.2).2.2):=by
 refine loopF_induct (ix_goes (x:=x) (d:=d) hP) (Q:=λg r=>r=((scan x (step g.2.1) g.1 ((xs g.2.1).drop g.1.toNat) g.2.2).1,(scan x (step g.2.1) g.1 ((xs g.2.1).drop g.1.toNat) g.2.2).2.1,g.2.1,(scan x (step g.2.1) g.1 ((xs g.2.1).drop g.1.toNat) g.2.2).2.2)) ?_ ?_
 .rintro⟨i,c,b⟩ hi hn;obtain⟨h1,h2,h3,h4,h5⟩:=hi _ (List.mem_cons_self ..);simp only at h1 h2 h3 h4 h5;unfold ixF at hn ⊢;simp only at hn ⊢;by_cases hlt:i<lim c
  .simp only[hlt,decide_true,cond_true]at hn ⊢;have hlt':i.toNat<(xs c).length:=by omega
   rw[drop_at d hlt'];simp only[scan];generalize step c b i ((xs c).getD i.toNat d)=s at hn ⊢;obtain⟨e,b'⟩:=s;cases e with
   |normal=>exact absurd rfl hn
   |_=>rfl
  .simp only[hlt,decide_false,cond_false];rw[List.drop_eq_nil_of_le (by omega)];rfl
 .rintro⟨i,c,b⟩ g' r hi he hi' _ hq;obtain⟨h1,h2,h3,h4,h5⟩:=hi _ (List.mem_cons_self ..);simp only at h1 h2 h3 h4 h5;unfold maxLen at h2;unfold ixF at he;simp only at he;by_cases hlt:i<lim c
  .simp only[hlt,decide_true,cond_true]at he;have hlt':i.toNat<(xs c).length:=by omega
   rw[hq];simp only;rw[drop_at d hlt'];simp only[scan];generalize step c b i ((xs c).getD i.toNat d)=s at he ⊢;obtain⟨e,b'⟩:=s;cases e with
   |normal=>
    rw[wr (n:=i+1) (by omega)]at he;simp only[Prod.mk.injEq,true_and]at he;subst he;simp only;rw[show(i+1).toNat=i.toNat+1 by omega]
   |_=>simp at he
  .simp only[hlt,decide_false,cond_false]at he;cases he
theorem ix_run0(hP:ixP step xs P)(c:C)(b:β)(h1:lim c=((xs c).length:Int))(h2:(xs c).length<=maxLen)(h3:P c b 0):
  loopF (ixF x lim xs d step) (ixM lim) (0,c,b)=((scan x (step c) 0 (xs c) b).1,(scan x (step c) 0 (xs c) b).2.1,c,(scan x (step c) 0 (xs c) b).2.2):=by
 have:=ix_run (x:=x) (lim:=lim) (d:=d) hP (0,c,b) (λq hq=>by
  simp only[ixI,List.mem_singleton]at hq;subst hq;exact⟨h1,h2,Int.le_refl _,by show(0:Int)<=((xs c).length:Int);omega,h3⟩)
 simpa using this
theorem ixJ0{c:C}{b:β}(h1:lim c=((xs c).length:Int))(h2:(xs c).length<=maxLen)(h3:P c b 0):ixJ lim xs P (0,c,b):=⟨h1,h2,Int.le_refl _,by show(0:Int)<=((xs c).length:Int);omega,h3⟩
theorem ix_inv0{c:C}{b:β}(h1:lim c=((xs c).length:Int))(h2:(xs c).length<=maxLen)(h3:P c b 0):allP (ixI lim xs P (0,c,b)):=λq hq=>by
 simp only[ixI,List.mem_singleton]at hq;subst hq;exact⟨h1,h2,Int.le_refl _,by show(0:Int)<=((xs c).length:Int);omega,h3⟩
section
variable{γ:Type}{F:γ->Ex×γ}{φ:γ->Int×C×β}{ψ:Int×C×β->γ}
theorem ix_conj_goes(h1:∀g,ψ (φ g)=g)(h2:∀d,φ (ψ d)=d){d0:α}(hF:∀d,allP (ixI lim xs P d)->F (ψ d)=((ixF x lim xs d0 step d).1,ψ (ixF x lim xs d0 step d).2))(hP:ixP step xs P):Goes F (λg=>ixM lim (φ g)) λg=>allP (ixI lim xs P (φ g)):=
 goes_conj (m':=ixM lim) (I':=λd=>allP (ixI lim xs P d)) φ ψ h1 (λd=>by rw[h2]) (λd=>by rw[h2]) hF (ix_goes hP)
theorem ix_conj_run(h1:∀g,ψ (φ g)=g)(h2:∀d,φ (ψ d)=d){d0:α}(hF:∀d,allP (ixI lim xs P d)->F (ψ d)=((ixF x lim xs d0 step d).1,ψ (ixF x lim xs d0 step d).2))(hP:ixP step xs P)(c:C)(b:β)(k1:lim c=((xs c).length:Int))(k2:(xs c).length<=maxLen)(k3:P c b 0):
  loopF F (λg=>ixM lim (φ g)) (ψ (0,c,b))=((scan x (step c) 0 (xs c) b).1,ψ ((scan x (step c) 0 (xs c) b).2.1,c,(scan x (step c) 0 (xs c) b).2.2)):=by
 have h:=loopF_conj (F:=F) (F':=ixF x lim xs d0 step) (m:=λg=>ixM lim (φ g)) (m':=ixM lim) (I':=λd=>allP (ixI lim xs P d)) φ ψ h1 h2 (λd=>by rw[h2]) hF (ix_goes hP) (ψ (0,c,b)) (by rw[h2];exact ix_inv0 k1 k2 k3);rw[h,h2,ix_run0 hP c b k1 k2 k3]
end
section
variable{st:β->Int->α->Ex×β}
theorem scan_fold{f:β->α->β}(h:∀b i a,st b i a=(.normal,f b a)):∀(l:List α)(i:Int)(b:β),scan x st i l b=(.exit x,i+l.length,l.foldl f b)
 | [],i,b=>by simp[scan]
 |a::l,i,b=>by
  simp only[scan,h,List.foldl_cons,List.length_cons];rw[scan_fold h l];simp;omega
end
end
theorem lst_app1{α:Type}(A:El α)(out:List α)(y:α):A.lst (min (out.length+1) out.length) (A.els out)++List.map (λ_=>y) (List.range (out.length+1-out.length))=out++[y]:=by
 rw[Nat.min_eq_right (Nat.le_succ _),A.lst_els,Nat.add_sub_cancel_left];rfl
end Go.Lp

namespace Go.Lp
open Go.Sx
variable[Env]
section
variable{α β:Type}
theorem search'{x:Nat}{st:β->Int->α->Ex×β}{p:α->Bool}{r:Int->α->β->β}(h:∀b i a,st b i a=bif p a then(.ret,r i a b)else(.normal,b)):∀(l:List α)(i:Int)(b:β),
  (l.any p=true/\∃j,i<=j/\∃a,a∈l/\p a=true/\scan x st i l b=(.ret,j,r j a b))\/(l.any p=false/\scan x st i l b=(.exit x,i+(l.length:Int),b))
 | [],i,b=>.inr ⟨rfl,by simp[scan]⟩
 |a::l,i,b=>by
  simp only[scan,h];cases hp:p a with
  |true=>exact .inl ⟨by simp[hp],i,Int.le_refl _,a,List.mem_cons_self ..,hp,rfl⟩
  |false=>
   simp only[cond_false];rcases search' h l (i+1) b with ⟨h1,j,hj,a',h2,h3,h4⟩|⟨h1,h2⟩
   .exact .inl ⟨by simp[h1],j,by omega,a',List.mem_cons_of_mem _ h2,h3,h4⟩
   .refine .inr ⟨by simp[hp,h1],?_⟩;rw[h2];simp;omega
theorem search{x:Nat}{st:β->Int->α->Ex×β}{p:α->Bool}{r:Int->α->β->β}(h:∀b i a,st b i a=bif p a then(.ret,r i a b)else(.normal,b))(l:List α)(b:β):
  (l.any p=true/\∃j,0<=j/\∃a,a∈l/\p a=true/\scan x st 0 l b=(.ret,j,r j a b))\/(l.any p=false/\scan x st 0 l b=(.exit x,(l.length:Int),b)):=by
 have:=search' (x:=x) h l 0 b
 rwa [Int.zero_add]at this
theorem searchI'{x:Nat}{st:β->Int->α->Ex×β}{p:Int->α->Bool}{r:Int->α->β->β}(h:∀b i a,st b i a=bif p i a then(.ret,r i a b)else(.normal,b)):∀(l:List α)(i:Int)(b:β),
  (∃(n:Nat)(a:α),l[n]?=some a/\p (i+n) a=true/\scan x st i l b=(.ret,i+n,r (i+n) a b))\/((∀(n:Nat)(a:α),l[n]?=some a->p (i+n) a=false)/\scan x st i l b=(.exit x,i+(l.length:Int),b))
 | [],i,b=>.inr ⟨λn a h=>by simp at h,by simp[scan]⟩
 |a::l,i,b=>by
  simp only[scan,h];cases hp:p i a with
  |true=>exact .inl ⟨0,a,rfl,by simpa using hp,by simp⟩
  |false=>
   simp only[cond_false];rcases searchI' h l (i+1) b with ⟨n,a',h2,h3,h4⟩|⟨h1,h2⟩
   .exact .inl ⟨n+1,a',h2,by rw[show i+((n+1:Nat):Int)=i+1+n by omega];exact h3,by rw[show i+((n+1:Nat):Int)=i+1+n by omega];exact h4⟩
   .refine .inr ⟨λn a' hn=>?_,?_⟩
    .cases n with
     |zero=>injection hn with hn;subst hn;simpa using hp
     |succ n=>rw[show i+((n+1:Nat):Int)=i+1+n by omega];exact h1 n a' hn
    .rw[h2];simp;omega
theorem searchI{x:Nat}{st:β->Int->α->Ex×β}{p:Int->α->Bool}{r:Int->α->β->β}(h:∀b i a,st b i a=bif p i a then(.ret,r i a b)else(.normal,b))(l:List α)(b:β):
  (∃(n:Nat)(a:α),l[n]?=some a/\p n a=true/\scan x st 0 l b=(.ret,(n:Int),r n a b))\/((∀(n:Nat)(a:α),l[n]?=some a->p n a=false)/\scan x st 0 l b=(.exit x,(l.length:Int),b)):=by
 have:=searchI' (x:=x) h l 0 b;simpa only [Int.zero_add]using this
theorem ne_len{α β:Type}{a:List α}{b:List β}(h:((a.length:Int)!=(b.length:Int))=false):a.length=b.length:=by
 have:(a.length:Int)=(b.length:Int):=by simpa using h
 omega
end
end Go.Lp

namespace Go.Sx
open Go.RowKit
variable[Env]
def dPr{α:Type}(A:El α):Dv α where
 dec s:=match s with
  | .pr l=>A.decs l
  |_=>none
 enc a:=.pr (A.cells a)
 bd:=A.bd
 cl a:=cl_pr (A.cl a)
 ok s a ps n ρ x hd hp hf:=by
  split at hd
  .obtain⟨b,o,cs,t,fz,k1,k2,vs,k3,k4⟩:=hf;exact⟨b,o,cs,t,fz,k1,k2,vs,A.ok _ _ _ _ _ _ hd hp k3,k4⟩
  .cases hd
 fb a n ρ x hf:=by
  obtain⟨b,o,cs,t,fz,k1,k2,vs,k3,k4⟩:=hf;exact A.fb _ _ _ _ k3
def dFnA{γ:Type}(f:Nat)(D:DA γ):Dv γ where
 dec s:=match s with
  | .fn f' l=>bif Nat.beq f f' then D.dec l else none
  |_=>none
 enc a:=.fn f (D.enc a)
 bd:=D.bd
 cl a:=cl_fn (D.cl a)
 ok s a ps n ρ x hd hp hf:=by
  split at hd
  .rename_i f' s;cases hb:Nat.beq f f' with
   |false=>rw[hb]at hd;cases hd
   |true=>
    rw[hb]at hd;rw[beq_of hb];obtain⟨l,rfl,hl⟩:=hf;exact⟨l,rfl,D.ok _ _ _ _ _ _ hd hp hl⟩
  .cases hd
 fb a n ρ x hf:=by
  obtain⟨l,rfl,hl⟩:=hf;exact D.fb _ _ _ _ hl
end Go.Sx

namespace Go.Lp
open Go.Sx
theorem list_eq_getD{α:Type}(d:α){a b:List α}(hl:a.length=b.length)(h:∀(n:Nat)(v:α),a[n]?=some v->v=b.getD n d):a=b:=by
 refine List.ext_getElem? λn=>?_;by_cases hn:n<a.length
 .have:=h n a[n] (by simp[hn]);have hn':n<b.length:=by omega
  simp only[List.getD_eq_getElem?_getD,List.getElem?_eq_getElem hn',Option.getD_some]at this;rw[List.getElem?_eq_getElem hn,List.getElem?_eq_getElem hn',this]
 .rw[List.getElem?_eq_none (by omega),List.getElem?_eq_none (by omega)]
theorem scanEq{α β:Type}[Env][DecidableEq α](d:α)(a b:List α)(hl:a.length=b.length){x:Nat}{st:β->Int->α->Ex×β}{r:β->β}(h:∀s i v,st s i v=bif !decide (v=b.getD i.toNat d)then(.ret,r s)else(.normal,s))(s:β):
  (scan x st 0 a s).1=(bif decide (a=b)then .exit x else .ret)/\(scan x st 0 a s).2.2=bif decide (a=b)then s else r s:=by
 rcases searchI (x:=x) (st:=st) (p:=λi v=>!decide (v=b.getD i.toNat d)) (r:=λ_ _ s=>r s) (λs i v=>h s i v) a s with ⟨n,v,h1,h2,hs⟩|⟨h1,hs⟩
 .rw[hs]
  have hne:a≠b:=by
   rintro rfl;simp[List.getD_eq_getElem?_getD,h1]at h2
  rw[decide_eq_false hne];exact⟨rfl,rfl⟩
 .rw[hs]
  have he:a=b:=list_eq_getD d hl λn v hv=>by
   have:=h1 n v hv
   rwa [Bool.not_eq_false',decide_eq_true_eq,Int.toNat_natCast]at this
  rw[decide_eq_true he];exact⟨rfl,rfl⟩
end Go.Lp

namespace Go.Sx
open Go.RowKit
variable[Env]
def isP(b:Nat):SV->Bool
 | .p b' _=>Nat.beq b' b
 |_=>false
def lconAltS(t b:Nat)(c1 c2:LCon):LCon:=⟨λσ=>bif isP b (σ.slot t)then c1.g σ else c2.g σ,λσ=>by
 cases isP b (σ.slot t)with
 |true=>exact c1.on σ
 |false=>exact c2.on σ⟩
theorem altS_ok{P:Program}{b:Code}{t i:Nat}{c1 c2:LCon}(h1:LoopOk P b c1.g)(h2:LoopOk P b c2.g):LoopOk P b (lconAltS t i c1 c2).g:=by
 intro M w0 w ρ σ a K hK hm;have hK:(bif isP i (σ.slot t)then c1.g σ else c2.g σ).Holds K:=hK;cases hc:isP i (σ.slot t)with
 |true=>rw[hc]at hK;exact h1 M w0 w ρ σ a K hK hm
 |false=>rw[hc]at hK;exact h2 M w0 w ρ σ a K hK hm
end Go.Sx

namespace Go.Sx
open Go.RowKit
variable[Env]
def lconFrz(ts:List Nat)(c:LCon):LCon:=⟨λσ=>c.g (frzL ts σ),λσ=>by
 have h:=c.on (frzL ts σ);rw[(frzL_on ts σ).1,(frzL_on ts σ).2]at h;exact h⟩
theorem frzLoop_ok{P:Program}{b:Code}{ts:List Nat}{c:LCon}(h:LoopOk P b c.g):LoopOk P b (lconFrz ts c).g:=by
 intro M w0 w ρ σ a K hK hm;obtain⟨ρ1,_,a1,m1,n1,_,_⟩:=frzL_ok ts hm;have:=h M w0 w ρ1 (frzL ts σ) a K hK m1;rw[n1]at this;exact Code.wpIn_mono (λx a w hx=>PostX.chain hx (Nat.le_refl _) a1) this
end Go.Sx

namespace Go.Sx
open Go.RowKit
variable[Env]
def forkI{X:Type}(r:Int):Nat->Int->(Int->X)->Tr X
 |0,i,t=>.ret (t i)
 |n+1,i,t=>.br (r==i) (.ret (t i)) (forkI r n (i+1) t)
theorem forkI_holds{X:Type}{r:Int}{K:X->Prop}:∀(n:Nat)(i:Int)(t:Int->X),(forkI r n i t).Holds K->i<=r->r<=i+n->K (t r)
 |0,i,t,h,h1,h2=>by
  have:r=i:=by omega
  subst this;exact h
 |n+1,i,t,h,h1,h2=>by
  cases hc:(r==i)with
  |true=>
   have:=h.1 hc;rw[<-(beq_iff_eq.1 hc)]at this;exact this
  |false=>
   have hne:r≠i:=by simpa using hc
   exact forkI_holds n (i+1) t (h.2 hc) (by omega) (by omega)
theorem forkI_bind{X Y:Type}{r:Int}{f:X->Y}:∀(n:Nat)(i:Int)(t:Int->X),(forkI r n i t).bind (λs=>.ret (f s))=forkI r n i λk=>f (t k)
 |0,_,_=>rfl
 |n+1,i,t=>by
  show Tr.br _ _ _=Tr.br _ _ _;rw[forkI_bind n (i+1) t];rfl
theorem asks_bindT{α β:Type}{f:α->Tr β}{t:Tr α}:∀l:List Prop,(asks l t).bind f=asks l (t.bind f)
 | []=>rfl
 |p::r=>by
  show Tr.ask p ((asks r t).bind f)=Tr.ask p (asks r (t.bind f));rw[asks_bindT r]
theorem forkI_each{X:Type}{r:Int}{K:X->Prop}:∀(n:Nat)(i:Int)(t:Int->X),(∀k,K (t k))->(forkI r n i t).Each K
 |0,_,_,h=>h _
 |n+1,i,t,h=>⟨h _,forkI_each n (i+1) t h⟩
section
variable{P:Program}{f:Nat}{γ:Type}{D:DA γ}{fn:γ->Int}{pre:γ->List Prop}{N:γ->Nat}
def conK(D:DA γ)(fn:γ->Int)(N:γ->Nat)(pre:γ->List Prop):Con:=λargs h=>
 match D.dec (vwA h args).1 with
 |some (g,ps)=>asks ((vwA h args).2++(ps++pre g)) (forkI (fn g) (N g-1) 0 λi=>(.k (.int .i64 i),h))
 |none=>.bad 621
theorem conK_ok(hp:FnPure P f D (dInt .i64) fn pre)(hN:∀g,(∀p∈pre g,p)->0<=fn g/\fn g<N g):FnOk P f (conK D fn N pre):=by
 intro M w0 w ρ h args vs K hK hm hfits;unfold conK at hK;split at hK
 .rename_i g ps hd;obtain⟨hq,hK⟩:=asks_holds hK;have hpre:∀p∈pre g,p:=λp h'=>hq p (List.mem_append_right _ (List.mem_append_right _ h'));have hv:=vwA_ok (G:=λb=>w.heap[b]?) hm hm.fz (λ_ _ _ h=>h) hfits λp h'=>hq p (List.mem_append_left _ h');have hv2:=D.ok _ _ _ _ _ _ hd (λp h'=>hq p (List.mem_append_right _ (List.mem_append_left _ h'))) hv;have hv3:=D.cl _ _ 0 ⟨ρ.lc,λb=>w.heap[b]?,ρ.lo⟩ (emp λb=>w.heap[b]?) vs (λ_ _ h=>h) hv2;have hr:=hN g hpre;refine(hp w (λb=>w.heap[b]?) g vs (λ_ _ h=>h) (Env.mono _ _ (λb o hb _=>hm.fz b o hb) hm.env) hpre hv3).mono ?_;rintro e w' ⟨x,rfl,hb,hx⟩;exact⟨_,h,ρ,x,forkI_holds _ _ _ hK hr.1 (by omega),Nat.le_refl _,Agree.refl _ _,hm.below hb,hx,rfl⟩
 .exact hK.elim
def pconK(D:DA γ)(fn:γ->Int)(N:γ->Nat)(pre:γ->List Prop):PCon:=⟨conK D fn N pre,λargs h=>by
 unfold conK;split
 .exact asks_each (forkI_each _ _ _ λ_=>rfl)
 .trivial,λargs ha=>by
 unfold conK;simp only[vwA_noId ha];split
 .exact⟨asks _ (forkI _ _ _ λi=>.k (.int .i64 i)),λh=>by rw[asks_bindT,forkI_bind]⟩
 .exact⟨.bad _,λ_=>rfl⟩⟩
end
def eK(n:Int):El Unit where
 sz:=1
 cells _:=[.k (.int .i64 n)]
 decs l:=match l with
  | [.k (.int .i64 m)]=>bif decide (m=n)then some ((),[])else none
  |_=>none
 dflt:=()
 bd _:=True
 dec_cells _:=⟨[],by simp,by simp⟩
 len _:=rfl
 one _:=rfl
 cl _ n m ρ ρ' x _ h:=by
  obtain⟨y,r,rfl,hy,hr⟩:=fits_cons h;exact⟨hy,by have:=fits_nil hr;subst this;trivial⟩
 ok l a ps n' ρ x hd hp hf:=by
  split at hd
  .rename_i m;cases hm:decide (m=n)with
   |false=>rw[hm]at hd;cases hd
   |true=>
    have:=of_decide_eq_true hm;subst this;exact hf
  .cases hd
 fb _ _ _ _ _:=trivial
end Go.Sx

namespace Go.Sx
open Go.RowKit
variable[Env]
section
variable{γ:Type}{F:List Nat->γ->Ex×γ}{m:γ->Nat}{Inv:γ->Prop}
end
section
variable{P:Program}{Γ:Gam}{Λ:Lam}{N:Nat}{γ:Type}
end
end Go.Sx

namespace Go.Sx
open Go.RowKit
variable[Env]
section
variable{N:Nat}{α β:Type}
def El.ent(K:El α)(V:El β):El (α×β×Int):=El.pair K (El.pair V (eInt .i64))
def LP.mit(N id i:Nat):LP N (List Int×Nat) where
 R:=0
 read σ:=match σ.h.get id with
  | .mit j since sel sn last _=>bif Nat.beq j i&&Nat.blt i N then some (((eInt .i64).lstE sn sel,since),(last=since)::(eInt .i64).okE sn sel,[])else none
  |_=>none
 ents _ _:=[]
 blks _ _:=[]
 objs _ g:=[(id,.mit i g.2 (.fn ((eInt .i64).els g.1)) g.1.length g.2 none)]
 es:=[]
 os:=[id]
 eseq _ _:=rfl
 oseq _ _:=rfl
 blen _ _:=rfl
 ilen σ g ps ids h:=by
  split at h
  .rename_i j since sel sn last _ _;cases hb:Nat.beq j i&&Nat.blt i N with
   |false=>rw[hb]at h;cases h
   |true=>
    rw[hb]at h;simp only[cond_true,Option.some.injEq,Prod.mk.injEq]at h;rw[<-h.2.2];rfl
  .cases h
 ok k0 σ g ps ids h hp:=by
  split at h
  .rename_i j since sel sn last cu hg;cases hb:Nat.beq j i&&Nat.blt i N with
   |false=>rw[hb]at h;cases h
   |true=>
    rw[hb]at h;simp only[Bool.and_eq_true]at hb;have e1:=beq_of hb.1;have hlt:i<N:=Nat.le_of_ble_eq_true hb.2;subst e1;simp only[cond_true,Option.some.injEq,Prod.mk.injEq]at h;obtain⟨rfl,rfl,rfl⟩:=h;have hls:last=since:=hp _ (List.mem_cons_self ..);subst hls;have hk:∀e,e<sn->(eInt .i64).Ok (sel e):=El.okE_ok _ sn sel λp h=>hp p (List.mem_cons_of_mem _ h);rw[El.lstE_eq];refine⟨λk so h=>by simp at h,λid' so h=>?_,λj s h=>by simp at h⟩;simp only[List.mem_singleton,Prod.mk.injEq]at h;obtain⟨rfl,rfl⟩:=h;rw[hg];refine⟨ow_na λ_ h=>h,λn m' ρ ρ' L o hr hf=>?_⟩;obtain⟨f1,f2,f3,seen,f4,f5,f6,_⟩:=hf;rw[El.lst_length];refine⟨f1,f2,by have:=hr.le;omega,seen,by rw[hr.ag.1 j hlt];exact f4,f5,λe x hx=>?_,λs hs=>(by cases hs)⟩;have he:e<sn:=by rw[<-f5];exact(Array.getElem?_eq_some_iff.1 hx).1
    obtain⟨a,ps,d1,d2⟩:=hk e he;have:=(eInt .i64).cl a n m' ρ ρ' _ hr.ag.2.1 ((eInt .i64).ok _ _ _ _ _ _ d1 d2 (f6 e x hx));show SV.fits m' ρ' ((eInt .i64).cells (((eInt .i64).lst sn sel).getD e (eInt .i64).dflt)) _;rw[El.lst_getD _ _ _ _ he];simpa only [El.get,d1]using this
  .cases h
def LP.mif(N id:Nat)(ka va:Bool)(K:El α)(V:El β):LP N (List (α×β)) where
 R:=0
 read σ:=match σ.h.get id with
  | .mif ks vs ka' va' rem cnt _=>bif Nat.beq ks K.sz&&(Nat.beq vs V.sz&&(ka==ka'&&va==va'))then some ((El.pair K V).lstE cnt rem,(El.pair K V).okE cnt rem,[])else none
  |_=>none
 ents _ _:=[]
 blks _ _:=[]
 objs _ g:=[(id,.mif K.sz V.sz ka va (.fn ((El.pair K V).els g)) g.length none)]
 es:=[]
 os:=[id]
 eseq _ _:=rfl
 oseq _ _:=rfl
 blen _ _:=rfl
 ilen σ g ps ids h:=by
  split at h
  .rename_i ks vs ka' va' rem cnt _ _;cases hb:Nat.beq ks K.sz&&(Nat.beq vs V.sz&&(ka==ka'&&va==va'))with
   |false=>rw[hb]at h;cases h
   |true=>
    rw[hb]at h;simp only[cond_true,Option.some.injEq,Prod.mk.injEq]at h;rw[<-h.2.2];rfl
  .cases h
 ok k0 σ g ps ids h hp:=by
  split at h
  .rename_i ks vs ka' va' rem cnt cu hg;cases hb:Nat.beq ks K.sz&&(Nat.beq vs V.sz&&(ka==ka'&&va==va'))with
   |false=>rw[hb]at h;cases h
   |true=>
    rw[hb]at h;simp only[Bool.and_eq_true,beq_iff_eq]at hb;obtain⟨b1,b2,b3,b4⟩:=hb;have e1:=beq_of b1;have e2:=beq_of b2;subst e1;subst e2;subst b3;subst b4;simp only[cond_true,Option.some.injEq,Prod.mk.injEq]at h;obtain⟨rfl,rfl,rfl⟩:=h;have hk:∀e,e<cnt->(El.pair K V).Ok (rem e):=El.okE_ok _ cnt rem hp;rw[El.lstE_eq];refine⟨λk so h=>by simp at h,λid' so h=>?_,λj s h=>by simp at h⟩;simp only[List.mem_singleton,Prod.mk.injEq]at h;obtain⟨rfl,rfl⟩:=h;rw[hg];refine⟨ow_na λ_ h=>h,λn m' ρ ρ' L o hr hf=>?_⟩;obtain⟨f1,f2,f3⟩:=hf;rw[El.lst_length];refine⟨f1,f2,?_⟩;rcases f3 with f3|⟨b,es,clk,seen,k1,k2,k3,k4,k5,_⟩
    .exact .inl ⟨f3.1,f3.2.1,rfl⟩
    .refine .inr ⟨b,es,clk,seen,k1,hr.ag.2.1 _ _ k2,k3,k4,λe he=>?_,λc hc=>(by cases hc)⟩;obtain⟨y,kc,vc,q1,q2,q3⟩:=k5 e he;obtain⟨a,ps,d1,d2⟩:=hk e he;refine⟨y,kc,vc,q1,?_,q3⟩;have:=(El.pair K V).cl a n m' ρ ρ' _ hr.ag.2.1 ((El.pair K V).ok _ _ _ _ _ _ d1 d2 q2);show SV.fits m' ρ' ((El.pair K V).cells (((El.pair K V).lst cnt rem).getD e (El.pair K V).dflt)) _;rw[El.lst_getD _ _ _ _ he];simpa only [El.get,d1]using this
  .cases h
end
end Go.Sx

namespace Go.Sx
open Go.RowKit
variable[Env]
def FzR(n:Nat)(h:SH)(fzs:List Nat)(ρ ρ':Rh):Prop:=∀j∈fzs,∃o,(h.get j).fit n ρ (ρ j) o/\((h.get j).own (ρ j)->ρ'.mem (ρ j).blk=o)
theorem FzR.left{n:Nat}{h:SH}{a b:List Nat}{ρ ρ':Rh}(hz:FzR n h (a++b) ρ ρ'):FzR n h a ρ ρ':=λj hj=>hz j (List.mem_append_left _ hj)
theorem FzR.right{n:Nat}{h:SH}{a b:List Nat}{ρ ρ':Rh}(hz:FzR n h (a++b) ρ ρ'):FzR n h b ρ ρ':=λj hj=>hz j (List.mem_append_right _ hj)
structure CRel(N k0:Nat)(h:SH)(ids:List (Option Nat))(fzs:List Nat)(l cs:List SV)(blks:List SO):Prop where
 blk:∀(k:Nat)(so:SO),blks[k]?=some so->(ids[k]?=some none/\NilSO so)\/∃j:Nat,ids[k]?=some (some j)/\Ow so (h.get j)/\∀(n m:Nat)(ρ ρ':Rh)(L:Lc)(o:Option Obj),Rn N k0 ids m ρ ρ'->FzR n h fzs ρ ρ'->(h.get j).fit n ρ L o->so.fit m ρ' L o
 fit:∀(n m:Nat)(ρ ρ':Rh)(x:List Value),Rn N k0 ids m ρ ρ'->FzR n h fzs ρ ρ'->SV.fits n ρ l x->SV.fits m ρ' cs x
def OwE(so' so:SO):Prop:=(∀L,so'.own L↔so.own L)/\∀a,so'=.abs a↔so=.abs a
theorem owE_rfl{so:SO}:OwE so so:=⟨λ_=>Iff.rfl,λ_=>Iff.rfl⟩
theorem owE_na{so' so:SO}(h:∀L,so'.own L↔so.own L)(h1:∀a,so'≠.abs a:=by intro _ h;cases h)(h2:∀a,so≠.abs a:=by intro _ h;cases h):OwE so' so:=⟨h,λa=>⟨λe=>absurd e (h1 a),λe=>absurd e (h2 a)⟩⟩
def ShfB(n m:Nat)(ρ ρ':Rh)(bs bs':List SO):Prop:=∀(k:Nat)(so:SO),bs[k]?=some so->∃so',bs'[k]?=some so'/\OwE so' so/\∀L o,so.fit n ρ L o->so'.fit m ρ' L o
structure CT(κ:Type)where
 R:Nat
 sz:Nat
 cells:Nat->κ->List SV
 blks:Nat->κ->List SO
 read:SH->List SV->Option (κ×List Prop×List (Option Nat)×List Nat)
 put:Nat->κ->Tr (List SV×List SO)
 blen:∀b g,(blks b g).length=R
 clen:∀b g,(cells b g).length=sz
 ilen:∀h l g ps ids fzs,read h l=some (g,ps,ids,fzs)->ids.length=R
 ok:∀N k0 h l g ps ids fzs,read h l=some (g,ps,ids,fzs)->(∀p∈ps,p)->CRel N k0 h ids fzs l (cells (N+k0) g) (blks (N+k0) g)
 shf:∀(b b':Nat)(g:κ)(n m:Nat)(ρ ρ':Rh),(∀c o,ρ.mem c=some o->ρ'.mem c=some o)->(∀k,k<R->ρ' (b'+k)=ρ (b+k))->b'+R<=m->(∀x,SV.fits n ρ (cells b g) x->SV.fits m ρ' (cells b' g) x)/\ShfB n m ρ ρ' (blks b g) (blks b' g)
 putOk:∀b g(K:List SV×List SO->Prop),(put b g).Holds K->K (cells b g,blks b g)
theorem shfB_nil{n m:Nat}{ρ ρ':Rh}:ShfB n m ρ ρ' [] []:=λk so h=>by simp at h
theorem shfB_app{n m:Nat}{ρ ρ':Rh}{a a' b b':List SO}(hl:a.length=a'.length)(h1:ShfB n m ρ ρ' a a')(h2:ShfB n m ρ ρ' b b'):ShfB n m ρ ρ' (a++b) (a'++b'):=λk so h=>by
 by_cases hk:k<a.length
 .rw[List.getElem?_append_left hk]at h;rw[List.getElem?_append_left (by omega)];exact h1 k so h
 .rw[List.getElem?_append_right (by omega)]at h;rw[List.getElem?_append_right (by omega),<-hl];exact h2 _ so h
theorem shfB_cons{n m:Nat}{ρ ρ':Rh}{a a':SO}{b b':List SO}(h0:OwE a' a)(h1:∀L o,a.fit n ρ L o->a'.fit m ρ' L o)(h2:ShfB n m ρ ρ' b b'):ShfB n m ρ ρ' (a::b) (a'::b'):=λk so h=>by
 cases k with
 |zero=>
  simp only[List.getElem?_cons_zero,Option.some.injEq]at h;subst h;exact⟨a',rfl,h0,h1⟩
 |succ k=>exact h2 k so (by simpa using h)
section
variable{κ α β:Type}
def CT.pl(A:El α):CT α where
 R:=0
 sz:=A.sz
 cells _ a:=A.cells a
 blks _ _:=[]
 read _ l:=match A.decs l with
  |some (a,ps)=>some (a,ps,[],[])
  |none=>none
 put _ a:=.ret (A.cells a,[])
 blen _ _:=rfl
 clen _ a:=A.len a
 ilen h l g ps ids fzs hr:=by
  split at hr
  .simp only[Option.some.injEq,Prod.mk.injEq]at hr;rw[<-hr.2.2.1];rfl
  .cases hr
 ok N k0 h l g ps ids fzs hr hp:=by
  split at hr
  .rename_i a ps' hd;simp only[Option.some.injEq,Prod.mk.injEq]at hr;obtain⟨rfl,rfl,rfl,rfl⟩:=hr;exact⟨λk so h=>by simp at h,λn m ρ ρ' x hn _ hf=>A.cl a n m ρ ρ' x hn.ag.2.1 (A.ok _ _ _ _ _ _ hd hp hf)⟩
  .cases hr
 shf b b' g n m ρ ρ' hm _ _:=⟨λx hf=>A.cl g n m ρ ρ' x hm hf,shfB_nil⟩
 putOk _ _ _ h:=h
theorem ow_rn{N k0 n m j l l':Nat}{ids:List (Option Nat)}{ρ ρ':Rh}{x:Value}(hr:Rn N k0 ids m ρ ρ')(hi:ids[0]?=some (some j))(hl:l'=l)(hf:(SV.ow j l).fit n ρ x):(SV.ow (N+k0) l').fit m ρ' x:=by
 obtain⟨_,hor⟩:=hf
 have hk:0<ids.length:=by
  cases ids with
  |nil=>simp at hi
  |cons=>simp
 refine⟨by have:=hr.le;omega,?_⟩;have:=hr.yes 0 j hi;rw[show N+k0+0=N+k0 from rfl]at this;rw[this,hl];exact hor
def CT.row(t:TypeId)(A:El α):CT (List α) where
 R:=1
 sz:=1
 cells b xs:=[.ow b xs.length]
 blks _ xs:=[.row t A.sz (.fn (A.els xs)) xs.length]
 read h l:=match l with
  | [.ow j n]=>match h.get j with
   | .row t' sz el m=>bif Nat.beq t' t&&Nat.beq sz A.sz then some (A.lstE n el,(n<=m)::A.okE n el,[some j],[])else none
   |_=>none
  | [.k y]=>bif nilK y then some ([],[],[none],[])else none
  |_=>none
 put b xs:=.ret ([.ow b xs.length],[.row t A.sz (.fn (A.els xs)) xs.length])
 blen _ _:=rfl
 clen _ _:=rfl
 ilen h l g ps ids fzs hr:=by
  split at hr
  .split at hr
   .rename_i j n t' sz el m hg;cases hb:Nat.beq t' t&&Nat.beq sz A.sz with
    |false=>rw[hb]at hr;cases hr
    |true=>
     rw[hb]at hr;simp only[cond_true,Option.some.injEq,Prod.mk.injEq]at hr;rw[<-hr.2.2.1];rfl
   .cases hr
  .rename_i y;cases hb:nilK y with
   |false=>rw[hb]at hr;cases hr
   |true=>
    rw[hb]at hr;simp only[cond_true,Option.some.injEq,Prod.mk.injEq]at hr;rw[<-hr.2.2.1];rfl
  .cases hr
 ok N k0 h l g ps ids fzs hr hp:=by
  split at hr
  .rename_i j n;split at hr
   .rename_i t' sz el m hg;cases hb:Nat.beq t' t&&Nat.beq sz A.sz with
    |false=>rw[hb]at hr;cases hr
    |true=>
     rw[hb]at hr;simp only[Bool.and_eq_true]at hb;have e1:=beq_of hb.1;have e2:=beq_of hb.2;subst e1;subst e2;simp only[cond_true,Option.some.injEq,Prod.mk.injEq]at hr;obtain⟨rfl,rfl,rfl,rfl⟩:=hr;have hl:n<=m:=hp _ (List.mem_cons_self ..);have hk:∀e,e<n->A.Ok (el e):=A.okE_ok n el λp h'=>hp p (List.mem_cons_of_mem _ h');rw[A.lstE_eq];refine⟨λk so hso=>?_,λn' m' ρ ρ' x hn hz hf=>?_⟩
     .cases k with
      |succ k=>simp at hso
      |zero=>
       simp only[List.getElem?_cons_zero,Option.some.injEq]at hso;subst hso;rw[A.lst_length];refine .inr ⟨j,rfl,by rw[hg];exact ow_na λ_ h=>h,λn' m' ρ ρ' L o hn hz hf=>?_⟩;rw[hg]at hf;refine row_so hl (λe=>A.cl _) (λe he n ρ v hv=>?_) hn.ag.2.1 hf;show SV.fits n ρ (A.cells ((A.lst _ el).getD e A.dflt)) v;rw[A.lst_getD _ _ _ he];obtain⟨a,ps,d1,d2⟩:=hk e he;have:=A.ok _ _ _ _ _ _ d1 d2 hv;simpa only [El.get,d1]using this
     .obtain⟨y,r,rfl,hy,hr'⟩:=fits_cons hf;exact⟨ow_rn hn rfl (by rw[A.lst_length]) hy,by have:=fits_nil hr';subst this;trivial⟩
   .cases hr
  .rename_i y;cases hb:nilK y with
   |false=>rw[hb]at hr;cases hr
   |true=>
    rw[hb]at hr;simp only[cond_true,Option.some.injEq,Prod.mk.injEq]at hr;obtain⟨rfl,rfl,rfl,rfl⟩:=hr;have:=nilK_eq hb;subst this;refine⟨λk so hso=>?_,λn' m' ρ ρ' x hn hz hf=>?_⟩
    .cases k with
     |succ k=>simp at hso
     |zero=>
      simp only[List.getElem?_cons_zero,Option.some.injEq]at hso;subst hso;exact .inl ⟨rfl,.inr ⟨_,_,_,rfl⟩⟩
    .obtain⟨y',r,rfl,hy,hr'⟩:=fits_cons hf;refine⟨⟨by have:=hn.le;simp only[List.length_cons,List.length_nil]at this;omega,.inl ?_⟩,by have:=fits_nil hr';subst this;trivial⟩;have:=hn.no 0 rfl;rw[show N+k0+0=N+k0 from rfl]at this;rw[this];exact⟨rfl,rfl,_,hy⟩
  .cases hr
 shf b b' g n m ρ ρ' hm hk hb:=by
  have h0:=hk 0 (by omega);simp only[Nat.add_zero]at h0;refine⟨λx hf=>?_,shfB_cons (owE_na λ_=>Iff.rfl) (λL o hf=>rowA_cl A hm hf) shfB_nil⟩;obtain⟨y,r,rfl,hy,hr'⟩:=fits_cons hf;refine⟨⟨by omega,?_⟩,by have:=fits_nil hr';subst this;trivial⟩;rw[h0];exact hy.2
 putOk _ _ _ h:=h
def CT.fz(t:TypeId)(A:El α):CT (List α) where
 R:=0
 sz:=1
 cells _ xs:=[(Dv.list A).enc xs]
 blks _ _:=[]
 read h l:=match l with
  | [.ow j n]=>match h.get j with
   | .row t' sz el m=>bif Nat.beq t' t&&Nat.beq sz A.sz then some (A.lstE n el,(n<=m)::A.okE n el,[],[j])else none
   |_=>none
  | [s]=>match(Dv.list A).dec s with
   |some (a,ps)=>some (a,ps,[],[])
   |none=>none
  |_=>none
 put b xs:=.ret ([(Dv.list A).enc xs],[])
 blen _ _:=rfl
 clen _ _:=rfl
 ilen h l g ps ids fzs hr:=by
  split at hr
  .split at hr
   .rename_i j n t' sz el m hg;cases hb:Nat.beq t' t&&Nat.beq sz A.sz with
    |false=>rw[hb]at hr;cases hr
    |true=>
     rw[hb]at hr;simp only[cond_true,Option.some.injEq,Prod.mk.injEq]at hr;rw[<-hr.2.2.1];rfl
   .cases hr
  .split at hr
   .simp only[Option.some.injEq,Prod.mk.injEq]at hr;rw[<-hr.2.2.1];rfl
   .cases hr
  .cases hr
 ok N k0 h l g ps ids fzs hr hp:=by
  split at hr
  .rename_i j n;split at hr
   .rename_i t' sz el m hg;cases hb:Nat.beq t' t&&Nat.beq sz A.sz with
    |false=>rw[hb]at hr;cases hr
    |true=>
     rw[hb]at hr;simp only[Bool.and_eq_true]at hb;have e2:=beq_of hb.2;subst e2;simp only[cond_true,Option.some.injEq,Prod.mk.injEq]at hr;obtain⟨rfl,rfl,rfl,rfl⟩:=hr;have hl:n<=m:=hp _ (List.mem_cons_self ..);have hk:∀e,e<n->A.Ok (el e):=A.okE_ok n el λp h'=>hp p (List.mem_cons_of_mem _ h');refine⟨λk so hso=>by simp at hso,λn' m' ρ ρ' x hn hz hf=>?_⟩;obtain⟨y,r,rfl,hy,hr'⟩:=fits_cons hf;refine⟨?_,by have:=fits_nil hr';subst this;trivial⟩;obtain⟨o,ho,hmem⟩:=hz j (List.mem_cons_self ..);rw[hg]at ho hmem;rw[A.lstE_eq];have hlen:(A.lst n el).length=n:=A.lst_length _ _;show(SV.rs A.sz (A.lst n el).length (A.els (A.lst n el))).fit m' ρ' y;rw[hlen];obtain⟨_,hor⟩:=hy;rcases hor with ⟨h1,rfl,a,rfl⟩|⟨h1,h2,rfl⟩
     .exact rs_nil0 _ _ _
     .rcases ho.2 with ⟨k1,_⟩|⟨_,k2,c,fz,k3,_,k4,k5,k6,k7⟩
      .rw[k1]at h1;cases h1
      .refine⟨_,_,rfl,h2,k6,λ_=>⟨(ρ j).blk,0,c,t',fz,rfl,by rw[hmem h1,k3],λe he=>?_⟩⟩;obtain⟨v,q1,q2,q3⟩:=k7 e (by omega);obtain⟨a,ps,d1,d2⟩:=hk e he;refine⟨v,q1,?_,q3⟩;have q4:=A.cl a n' m' ρ ρ' _ hn.ag.2.1 (A.ok _ _ _ _ _ _ d1 d2 q2);show SV.fits m' ρ' (A.cells ((A.lst n el).getD e A.dflt)) v;rw[A.lst_getD _ _ _ he];simpa only [El.get,d1]using q4
   .cases hr
  .rename_i s _;split at hr
   .rename_i a ps' hd;simp only[Option.some.injEq,Prod.mk.injEq]at hr;obtain⟨rfl,rfl,rfl,rfl⟩:=hr;refine⟨λk so h=>by simp at h,λn m ρ ρ' x hn _ hf=>?_⟩;obtain⟨y,r,rfl,hy,hr'⟩:=fits_cons hf;exact⟨(Dv.list A).cl a n m ρ ρ' y hn.ag.2.1 ((Dv.list A).ok _ _ _ _ _ _ hd hp hy),by have:=fits_nil hr';subst this;trivial⟩
   .cases hr
  .cases hr
 shf b b' g n m ρ ρ' hm _ _:=⟨λx hf=>by
  obtain⟨y,r,rfl,hy,hr'⟩:=fits_cons hf;exact⟨(Dv.list A).cl g n m ρ ρ' y hm hy,by have:=fits_nil hr';subst this;trivial⟩,shfB_nil⟩
 putOk _ _ _ h:=h
def CT.map(ka va:Bool)(K:El α)(V:El β):CT (List (α×β×Int)×Nat) where
 R:=1
 sz:=1
 cells b _:=[.mp b]
 blks _ g:=[.map K.sz V.sz ka va (.fn ((El.ent K V).els g.1)) g.1.length g.2 false]
 read h l:=match l with
  | [.mp j]=>match h.get j with
   | .map ks vs ka' va' el m clk _=>bif Nat.beq ks K.sz&&(Nat.beq vs V.sz&&(ka==ka'&&va==va'))then some (((El.ent K V).lstE m el,clk),(El.ent K V).okE m el,[some j],[])else none
   |_=>none
  |_=>none
 put b g:=.ret ([.mp b],[.map K.sz V.sz ka va (.fn ((El.ent K V).els g.1)) g.1.length g.2 false])
 blen _ _:=rfl
 clen _ _:=rfl
 ilen h l g ps ids fzs hr:=by
  split at hr
  .split at hr
   .rename_i j ks vs ka' va' el m clk pd hg;cases hb:Nat.beq ks K.sz&&(Nat.beq vs V.sz&&(ka==ka'&&va==va'))with
    |false=>rw[hb]at hr;cases hr
    |true=>
     rw[hb]at hr;simp only[cond_true,Option.some.injEq,Prod.mk.injEq]at hr;rw[<-hr.2.2.1];rfl
   .cases hr
  .cases hr
 ok N k0 h l g ps ids fzs hr hp:=by
  split at hr
  .rename_i j;split at hr
   .rename_i ks vs ka' va' el m clk pd hg;cases hb:Nat.beq ks K.sz&&(Nat.beq vs V.sz&&(ka==ka'&&va==va'))with
    |false=>rw[hb]at hr;cases hr
    |true=>
     rw[hb]at hr;simp only[Bool.and_eq_true,beq_iff_eq]at hb;obtain⟨b1,b2,b3,b4⟩:=hb;have e1:=beq_of b1;have e2:=beq_of b2;subst e1;subst e2;subst b3;subst b4;simp only[cond_true,Option.some.injEq,Prod.mk.injEq]at hr;obtain⟨rfl,rfl,rfl,rfl⟩:=hr;have hk:∀e,e<m->(El.ent K V).Ok (el e):=El.okE_ok _ m el hp;rw[El.lstE_eq];refine⟨λk so hso=>?_,λn' m' ρ ρ' x hn hz hf=>?_⟩
     .cases k with
      |succ k=>simp at hso
      |zero=>
       simp only[List.getElem?_cons_zero,Option.some.injEq]at hso;subst hso;refine .inr ⟨j,rfl,by rw[hg];exact ow_na λ_ h=>h,λn' m' ρ ρ' L o hn hz hf=>?_⟩;rw[hg]at hf;obtain⟨f1,f2,⟨es,f3,f4,f5,f6⟩,_⟩:=hf;rw[El.lst_length];refine⟨f1,f2,⟨es,f3,f4,f5,λe he=>?_⟩,λh=>by cases h⟩;obtain⟨y,kc,vc,q1,q2,q3⟩:=f6 e he;obtain⟨a,ps,d1,d2⟩:=hk e he;refine⟨y,kc,vc,q1,?_,q3⟩;have:=(El.ent K V).cl a n' m' ρ ρ' _ hn.ag.2.1 ((El.ent K V).ok _ _ _ _ _ _ d1 d2 q2);show SV.fits m' ρ' ((El.ent K V).cells (((El.ent K V).lst m el).getD e (El.ent K V).dflt)) _;rw[El.lst_getD _ _ _ _ he];simpa only [El.get,d1]using this
     .obtain⟨y,r,rfl,hy,hr'⟩:=fits_cons hf;refine⟨⟨by have:=hn.le;simp only[List.length_cons,List.length_nil]at this;omega,?_⟩,by have:=fits_nil hr';subst this;trivial⟩;have:=hn.yes 0 j rfl;rw[show N+k0+0=N+k0 from rfl]at this;rw[this];exact hy.2
   .cases hr
  .cases hr
 shf b b' g n m ρ ρ' hm hk hb:=by
  have h0:=hk 0 (by omega);simp only[Nat.add_zero]at h0;refine⟨λx hf=>?_,shfB_cons (owE_na λ_=>Iff.rfl) (λL o hf=>?_) shfB_nil⟩
  .obtain⟨y,r,rfl,hy,hr'⟩:=fits_cons hf;refine⟨⟨by omega,?_⟩,by have:=fits_nil hr';subst this;trivial⟩;rw[h0];exact hy.2
  .obtain⟨f1,f2,⟨es,f3,f4,f5,f6⟩,f7⟩:=hf;refine⟨f1,f2,⟨es,f3,f4,f5,λe he=>?_⟩,f7⟩;obtain⟨y,kc,vc,q1,q2,q3⟩:=f6 e he;exact⟨y,kc,vc,q1,(El.ent K V).cl _ _ _ _ _ _ hm q2,q3⟩
 putOk _ _ _ h:=h
theorem Rn.tail{N k0 m j:Nat}{ids:List (Option Nat)}{ρ ρ':Rh}(h:Rn N k0 (some j::ids) m ρ ρ'):Rn N (k0+1) ids m ρ ρ':=Rn.right (is:=[some j]) h
def CT.pair(A:CT α)(B:CT β):CT (α×β) where
 R:=A.R+B.R
 sz:=A.sz+B.sz
 cells b g:=A.cells b g.1++B.cells (b+A.R) g.2
 blks b g:=A.blks b g.1++B.blks (b+A.R) g.2
 read h l:=match A.read h (l.take A.sz)with
  |some (a,ps,is,fs)=>match B.read h (l.drop A.sz)with
   |some (b,qs,js,gs)=>some ((a,b),ps++qs,is++js,fs++gs)
   |none=>none
  |none=>none
 put b g:=(A.put b g.1).bind λx=>(B.put (b+A.R) g.2).bind λy=>.ret (x.1++y.1,x.2++y.2)
 blen b g:=by simp[A.blen,B.blen]
 clen b g:=by simp[A.clen,B.clen]
 ilen h l g ps ids fzs hr:=by
  split at hr
  .rename_i a ps0 is fs ha;split at hr
   .rename_i b qs js gs hb;simp only[Option.some.injEq,Prod.mk.injEq]at hr;obtain⟨rfl,rfl,rfl,rfl⟩:=hr;simp[A.ilen _ _ _ _ _ _ ha,B.ilen _ _ _ _ _ _ hb]
   .cases hr
  .cases hr
 ok N k0 h l g ps ids fzs hr hp:=by
  split at hr
  .rename_i a ps0 is fs ha;split at hr
   .rename_i b qs js gs hb;simp only[Option.some.injEq,Prod.mk.injEq]at hr;obtain⟨rfl,rfl,rfl,rfl⟩:=hr;have ra:=A.ok N k0 _ _ _ _ _ _ ha λp h=>hp p (List.mem_append_left _ h);have rb:=B.ok N (k0+A.R) _ _ _ _ _ _ hb λp h=>hp p (List.mem_append_right _ h);have la:=A.ilen _ _ _ _ _ _ ha;have lr:=A.blen (N+k0) a;have e:N+k0+A.R=N+(k0+A.R):=by omega
    simp only[e];refine⟨λk so h=>?_,λn m ρ ρ' x hn hz hf=>?_⟩
    .by_cases hk:k<A.R
     .rw[List.getElem?_append_left (by omega)]at h;rw[List.getElem?_append_left (by omega)];rcases ra.blk k so h with h1|⟨j,h1,h2,h3⟩
      .exact .inl h1
      .exact .inr ⟨j,h1,h2,λn m ρ ρ' L o hr hz=>h3 n m ρ ρ' L o hr.left hz.left⟩
     .rw[List.getElem?_append_right (by omega)]at h;rw[List.getElem?_append_right (by omega),la];rw[lr]at h;rcases rb.blk (k-A.R) so h with h1|⟨j,h1,h2,h3⟩
      .exact .inl h1
      .exact .inr ⟨j,h1,h2,λn m ρ ρ' L o hr hz=>h3 n m ρ ρ' L o (la▸hr.right) hz.right⟩
    .have f1:=ra.fit n m ρ ρ' _ hn.left hz.left (fits_take A.sz hf);have f2:=rb.fit n m ρ ρ' _ (la▸hn.right) hz.right (fits_drop A.sz hf);have:=fits_append f1 f2
     rwa [List.take_append_drop]at this
   .cases hr
  .cases hr
 shf b b' g n m ρ ρ' hm hk hb:=by
  obtain⟨s1,s2⟩:=A.shf b b' g.1 n m ρ ρ' hm (λk hk'=>hk k (by omega)) (by omega)
  obtain⟨t1,t2⟩:=B.shf (b+A.R) (b'+A.R) g.2 n m ρ ρ' hm (λk hk'=>by
   have:=hk (A.R+k) (by omega);rw[show b'+A.R+k=b'+(A.R+k) by omega,show b+A.R+k=b+(A.R+k) by omega];exact this) (by omega)
  refine⟨λx hf=>?_,shfB_app (by rw[A.blen,A.blen]) s2 t2⟩;have h1:=fits_take A.sz hf;have h2:=fits_drop A.sz hf;rw[List.take_left' (A.clen _ _)]at h1;rw[List.drop_left' (A.clen _ _)]at h2;have:=fits_append (s1 _ h1) (t1 _ h2)
  rwa [List.take_append_drop]at this
 putOk b g K h:=B.putOk _ _ _ (Tr.holds_bind (A.putOk _ _ _ (Tr.holds_bind h)))
def CT.iso(A:CT α)(f:α->β)(g:β->α)(hgf:∀a,g (f a)=a):CT β where
 R:=A.R
 sz:=A.sz
 cells b d:=A.cells b (g d)
 blks b d:=A.blks b (g d)
 read h l:=match A.read h l with
  |some (a,ps,is,fs)=>some (f a,ps,is,fs)
  |none=>none
 put b d:=A.put b (g d)
 blen b d:=A.blen _ _
 clen b d:=A.clen _ _
 ilen h l d ps ids fzs hr:=by
  split at hr
  .rename_i a ps0 is fs ha;simp only[Option.some.injEq,Prod.mk.injEq]at hr;obtain⟨rfl,rfl,rfl,rfl⟩:=hr;exact A.ilen _ _ _ _ _ _ ha
  .cases hr
 ok N k0 h l d ps ids fzs hr hp:=by
  split at hr
  .rename_i a ps0 is fs ha;simp only[Option.some.injEq,Prod.mk.injEq]at hr;obtain⟨rfl,rfl,rfl,rfl⟩:=hr;rw[hgf];exact A.ok N k0 _ _ _ _ _ _ ha hp
  .cases hr
 shf b b' d n m ρ ρ':=A.shf b b' (g d) n m ρ ρ'
 putOk b d K h:=A.putOk b (g d) K h
def CT.opt(A:CT α)(d:α)(h1:A.sz=1):CT (Option α) where
 R:=A.R
 sz:=1
 cells b g:=match g with
  |some a=>A.cells b a
  |none=>[.k (.pointer none)]
 blks b g:=match g with
  |some a=>A.blks b a
  |none=>List.replicate A.R .dead
 read h l:=match l with
  | [.k (.pointer none)]=>some (none,[],List.replicate A.R none,[])
  |l=>match A.read h l with
   |some (a,ps,is,fs)=>some (some a,ps,is,fs)
   |none=>none
 put b g:=.br g.isSome (A.put b (g.getD d)) (.ret ([.k (.pointer none)],List.replicate A.R .dead))
 blen b g:=by cases g<;>simp[A.blen]
 clen b g:=by cases g<;>simp[A.clen,h1]
 ilen h l g ps ids fzs hr:=by
  split at hr
  .simp only[Option.some.injEq,Prod.mk.injEq]at hr;rw[<-hr.2.2.1];simp
  .split at hr
   .rename_i a ps0 is fs ha;simp only[Option.some.injEq,Prod.mk.injEq]at hr;obtain⟨rfl,rfl,rfl,rfl⟩:=hr;exact A.ilen _ _ _ _ _ _ ha
   .cases hr
 ok N k0 h l g ps ids fzs hr hp:=by
  split at hr
  .simp only[Option.some.injEq,Prod.mk.injEq]at hr;obtain⟨rfl,rfl,rfl,rfl⟩:=hr;refine⟨λk so hso=>?_,λn m ρ ρ' x _ _ hf=>?_⟩
   .have hk:k<A.R:=by
     have:=(List.getElem?_eq_some_iff.1 hso).1;simpa using this
    rw[List.getElem?_replicate,if_pos hk]at hso;simp only[Option.some.injEq]at hso;exact .inl ⟨by rw[List.getElem?_replicate,if_pos hk],.inl hso.symm⟩
   .obtain⟨y,r,rfl,hy,hr'⟩:=fits_cons hf;have:=fits_nil hr';subst this;exact⟨hy,trivial⟩
  .split at hr
   .rename_i a ps0 is fs ha;simp only[Option.some.injEq,Prod.mk.injEq]at hr;obtain⟨rfl,rfl,rfl,rfl⟩:=hr;exact A.ok N k0 _ _ _ _ _ _ ha hp
   .cases hr
 shf b b' g n m ρ ρ' hm hk hb:=by
  cases g with
  |some a=>exact A.shf b b' a n m ρ ρ' hm hk hb
  |none=>
   refine⟨λx hf=>?_,λk so hso=>⟨so,hso,owE_rfl,λL o _=>?_⟩⟩
   .obtain⟨y,r,rfl,hy,hr'⟩:=fits_cons hf;have:=fits_nil hr';subst this;exact⟨hy,trivial⟩
   .have hk:k<A.R:=by
     have:=(List.getElem?_eq_some_iff.1 hso).1;simpa using this
    rw[List.getElem?_replicate,if_pos hk]at hso;simp only[Option.some.injEq]at hso;rw[<-hso];trivial
 putOk b g K h:=by
  cases g with
  |some a=>exact A.putOk b a K (h.1 rfl)
  |none=>exact h.2 rfl
end
section
variable{N:Nat}{κ:Type}
def noFz:Option (κ×List Prop×List (Option Nat)×List Nat)->Option (κ×List Prop×List (Option Nat))
 |some (g,ps,ids,[])=>some (g,ps,ids)
 |_=>none
theorem noFz_eq{r:Option (κ×List Prop×List (Option Nat)×List Nat)}{g:κ}{ps:List Prop}{ids:List (Option Nat)}(h:noFz r=some (g,ps,ids)):r=some (g,ps,ids,[]):=by
 unfold noFz at h;split at h
 .simp only[Option.some.injEq,Prod.mk.injEq]at h;obtain⟨rfl,rfl,rfl⟩:=h;rfl
 .cases h
theorem fzR_nil{n:Nat}{h:SH}{ρ ρ':Rh}:FzR n h [] ρ ρ':=λj hj=>by cases hj
theorem noFz_blk{k0:Nat}{h:SH}{ids:List (Option Nat)}{l cs:List SV}{blks:List SO}(hC:CRel N k0 h ids [] l cs blks):∀(k:Nat)(so:SO),blks[k]?=some so->(ids[k]?=some none/\NilSO so)\/∃j:Nat,ids[k]?=some (some j)/\Ow so (h.get j)/\∀(n m:Nat)(ρ ρ':Rh)(L:Lc)(o:Option Obj),Rn N k0 ids m ρ ρ'->(h.get j).fit n ρ L o->so.fit m ρ' L o:=λk so h=>by
 rcases hC.blk k so h with h1|⟨j,h1,h2,h3⟩
 .exact .inl h1
 .exact .inr ⟨j,h1,h2,λn m ρ ρ' L o hn hf=>h3 n m ρ ρ' L o hn fzR_nil hf⟩
def LP.ct(N i:Nat)(C:CT κ)(h1:C.sz=1):LP N κ where
 R:=C.R
 read σ:=noFz (C.read σ.h [σ.slot i])
 ents k0 g:=[(i,(C.cells (N+k0) g).headD .u)]
 blks k0 g:=C.blks (N+k0) g
 objs _ _:=[]
 es:=[i]
 os:=[]
 eseq _ _:=rfl
 oseq _ _:=rfl
 blen k g:=C.blen _ _
 ilen σ g ps ids h:=C.ilen _ _ _ _ _ _ (noFz_eq h)
 ok k0 σ g ps ids h hp:=by
  have hC:=C.ok N k0 _ _ _ _ _ _ (noFz_eq h) hp;refine⟨noFz_blk hC,λid so h=>by simp at h,λj s hs n m ρ ρ' x hn hf=>?_⟩;simp only[List.mem_singleton,Prod.mk.injEq]at hs;obtain⟨rfl,rfl⟩:=hs;have:=hC.fit n m ρ ρ' [x] hn fzR_nil ⟨hf,trivial⟩;have hl:=C.clen (N+k0) g;generalize C.cells (N+k0) g=cs at this hl;obtain⟨c,rfl⟩:=List.length_eq_one_iff.1 (hl.trans h1);exact this.1
def LP.ctO(N id t:Nat)(C:CT κ):LP N κ where
 R:=C.R
 read σ:=match σ.h.get id with
  | .cells xs t'=>bif Nat.beq t' t then noFz (C.read σ.h xs)else none
  |_=>none
 ents _ _:=[]
 blks k0 g:=C.blks (N+k0) g
 objs k0 g:=[(id,.cells (C.cells (N+k0) g) t)]
 es:=[]
 os:=[id]
 eseq _ _:=rfl
 oseq _ _:=rfl
 blen k g:=C.blen _ _
 ilen σ g ps ids h:=by
  split at h
  .rename_i xs t' _;cases hb:Nat.beq t' t with
   |false=>rw[hb]at h;cases h
   |true=>rw[hb]at h;exact C.ilen _ _ _ _ _ _ (noFz_eq h)
  .cases h
 ok k0 σ g ps ids h hp:=by
  split at h
  .rename_i xs t' hg;cases hb:Nat.beq t' t with
   |false=>rw[hb]at h;cases h
   |true=>
    rw[hb]at h;have:=beq_of hb;subst this;have hC:=C.ok N k0 _ _ _ _ _ _ (noFz_eq h) hp;refine⟨noFz_blk hC,λid' so h=>?_,λj s h=>by simp at h⟩;simp only[List.mem_singleton,Prod.mk.injEq]at h;obtain⟨rfl,rfl⟩:=h;rw[hg];refine⟨ow_na λ_ h=>h,λn m ρ ρ' L o hn hf=>?_⟩;obtain⟨f1,f2,l,f3,f4⟩:=hf;exact⟨f1,f2,l,f3,hC.fit n m ρ ρ' l hn fzR_nil f4⟩
  .cases h
end
end Go.Sx

namespace Go.Sx
open Go.RowKit
variable[Env]
def eqK:List Value->List SV->Bool
 | [],[]=>true
 |v::r,.k x::l=>(match v,x with
  | .int q n,.int q' m=>decide (q=q')&&decide (n=m)
  | .slice none 0 0,.slice none 0 0=>true
  | .bool a,.bool b=>a==b
  |_,_=>false)&&eqK r l
 |_,_=>false
theorem eqK_eq:∀{r:List Value}{l:List SV},eqK r l=true->l=r.map .k
 | [],[],_=>rfl
 |v::r,.k x::l,h=>by
  simp only[eqK,Bool.and_eq_true]at h;rw[List.map_cons,eqK_eq h.2];have h1:=h.1;split at h1
  .rw[Bool.and_eq_true]at h1;rw[of_decide_eq_true h1.1,of_decide_eq_true h1.2]
  .rfl
  .rw[beq_iff_eq]at h1;rw[h1]
  .cases h1
 | [],_::_,h=>by simp[eqK]at h
 |_::_,[],h=>by simp[eqK]at h
theorem con_cl{n m:Nat}{ρ ρ':Rh}:∀(r:List Value)(ys:List Value),SV.fits n ρ (r.map .k) ys->SV.fits m ρ' (r.map .k) ys
 | [],ys,h=>by have:=fits_nil h;subst this;trivial
 |v::r,ys,h=>by
  obtain⟨y,ys,rfl,hy,hr⟩:=fits_cons h;exact⟨hy,con_cl r _ hr⟩
theorem un_fits{n:Nat}{ρ:Rh}:∀(k:Nat)(x:List Value),x.length=k->SV.fits n ρ (List.replicate k .u) x
 |0,[],_=>trivial
 |k+1,v::x,h=>⟨trivial,un_fits k x (by simpa using h)⟩
def eCon(vs:List Value)(h:eqK vs (vs.map .k)=true)(h1:(vs.map SV.k).all SV.one=true):El Unit where
 sz:=vs.length
 cells _:=vs.map .k
 decs l:=bif eqK vs l then some ((),[])else none
 dflt:=()
 bd _:=True
 dec_cells _:=⟨[],by rw[h];rfl,by simp⟩
 len _:=by simp
 one _:=h1
 cl _ n m ρ ρ' x _ hf:=con_cl vs x hf
 ok l a ps n ρ x hd hp hf:=by
  cases hb:eqK vs l with
  |false=>rw[hb]at hd;cases hd
  |true=>rw[<-eqK_eq hb];exact hf
 fb _ _ _ _ _:=trivial
end Go.Sx

namespace Go.Sx
open Go.RowKit
variable[Env]
def flatE(el:Nat->List SV):Nat->List SV
 |0=>[]
 |n+1=>flatE el n++el n
theorem els_flat{n:Nat}{ρ:Rh}{sz:Nat}{el:Nat->List SV}{c:Array Value}:∀m,Els n ρ 0 sz el m c->∃x:List Value,x.length=m*sz/\SV.fits n ρ (flatE el m) x/\∀(j:Nat)y,x[j]?=some y->c[j]?=some y
 |0,_=>⟨[],by simp,trivial,λj y h=>by simp at h⟩
 |m+1,h=>by
  obtain⟨x,h1,h2,h3⟩:=els_flat m λi hi=>h i (by omega);obtain⟨l,k1,k2,k3⟩:=h m (by omega);refine⟨x++l,by simp[h1,k1,Nat.succ_mul],fits_append h2 k2,λj y hj=>?_⟩;by_cases hl:j<x.length
  .rw[List.getElem?_append_left hl]at hj;exact h3 j y hj
  .rw[List.getElem?_append_right (by omega)]at hj;have:=k3 _ _ hj
   rwa [show 0+m*sz+(j-x.length)=j by omega]at this
theorem flat_els{n:Nat}{ρ:Rh}{sz m:Nat}{cs:List SV}{c:Array Value}{x:List Value}(hx:x.length=m*sz)(hf:SV.fits n ρ cs x)(hc:∀(j:Nat)y,x[j]?=some y->c[j]?=some y):Els n ρ 0 sz (λe=>(cs.drop (e*sz)).take sz) m c:=λi hi=>by
 refine⟨(x.drop (i*sz)).take sz,?_,fits_take sz (fits_drop (i*sz) hf),λj y hj=>?_⟩
 .rw[List.length_take,List.length_drop,hx];have:(i+1)*sz<=m*sz:=Nat.mul_le_mul_right _ hi;rw[Nat.succ_mul]at this;omega
 .rw[List.getElem?_take]at hj;split at hj
  .rw[List.getElem?_drop]at hj;rw[show 0+i*sz+j=i*sz+j by omega];exact hc _ _ hj
  .cases hj
section
variable{κ:Type}
def CT.un(k:Nat):CT Unit where
 R:=0
 sz:=k
 cells _ _:=List.replicate k .u
 blks _ _:=[]
 read _ l:=bif Nat.beq l.length k then some ((),[],[],[])else Option.none
 put _ _:=.ret (List.replicate k .u,[])
 blen _ _:=rfl
 clen _ _:=by simp
 ilen h l g ps ids fzs hr:=by
  cases hb:Nat.beq l.length k with
  |false=>rw[hb]at hr;cases hr
  |true=>rw[hb]at hr;simp only[cond_true,Option.some.injEq,Prod.mk.injEq,true_and]at hr;rw[<-hr.2.1];rfl
 ok N k0 h l g ps ids fzs hr hp:=by
  cases hb:Nat.beq l.length k with
  |false=>rw[hb]at hr;cases hr
  |true=>
   rw[hb]at hr;simp only[cond_true,Option.some.injEq,Prod.mk.injEq,true_and]at hr;obtain⟨rfl,rfl,rfl⟩:=hr;have:=beq_of hb;exact⟨λk so h=>by simp at h,λn m ρ ρ' x hn _ hf=>un_fits k x (by rw[<-fits_length hf,this])⟩
 shf b b' g n m ρ ρ' hm _ _:=⟨λx hf=>un_fits k x (by have:=fits_length hf;simpa using this.symm),shfB_nil⟩
 putOk _ _ _ h:=h
def CT.none(d:κ):CT (List κ) where
 R:=0
 sz:=0
 cells _ _:=[]
 blks _ _:=[]
 read _ l:=match l with
  | []=>some ([],[],[],[])
  |_::_=>Option.none
 put _ _:=.ret ([],[])
 blen _ _:=rfl
 clen _ _:=rfl
 ilen h l g ps ids fzs hr:=by
  split at hr
  .simp only[Option.some.injEq,Prod.mk.injEq]at hr;rw[<-hr.2.2.1];rfl
  .cases hr
 ok N k0 h l g ps ids fzs hr hp:=by
  split at hr
  .simp only[Option.some.injEq,Prod.mk.injEq]at hr;obtain⟨rfl,rfl,rfl,rfl⟩:=hr;exact⟨λk so h=>by simp at h,λn m ρ ρ' x hn _ hf=>by have:=fits_nil hf;subst this;trivial⟩
  .cases hr
 shf b b' g n m ρ ρ' hm _ _:=⟨λx hf=>by have:=fits_nil hf;subst this;trivial,shfB_nil⟩
 putOk _ _ _ h:=h
def CT.rep(C:CT κ)(d:κ):Nat->CT (List κ)
 |0=>CT.none d
 |n+1=>.iso (.pair C (CT.rep C d n)) (λx=>x.1::x.2) (λl=>(l.headD d,l.tail)) λ_=>rfl
theorem CT.rep_sz(C:CT κ)(d:κ):∀n,(CT.rep C d n).sz=n*C.sz
 |0=>(Nat.zero_mul _).symm
 |n+1=>by
  show C.sz+(CT.rep C d n).sz=_;rw[CT.rep_sz C d n,Nat.succ_mul,Nat.add_comm]
def CT.arr(t:TypeId)(n0:Nat)(C:CT κ)(d:κ):CT (List κ) where
 R:=(CT.rep C d n0).R+1
 sz:=1
 cells b _:=[.ow b n0]
 blks b g:=.row t C.sz (.fn λe=>(((CT.rep C d n0).cells (b+1) g).drop (e*C.sz)).take C.sz) n0::(CT.rep C d n0).blks (b+1) g
 read h l:=match l with
  | [.ow j n]=>match h.get j with
   | .row t' sz el m=>bif Nat.beq t' t&&Nat.beq sz C.sz&&Nat.beq n n0&&Nat.beq m n0 then match(CT.rep C d n0).read h (flatE el.at n0)with
    |some (g,ps,ids,fzs)=>some (g,ps,some j::ids,fzs)
    |Option.none=>Option.none else Option.none
   |_=>Option.none
  |_=>Option.none
 put b g:=((CT.rep C d n0).put (b+1) g).bind λy=>.ret ([.ow b n0],.row t C.sz (.fn λe=>(y.1.drop (e*C.sz)).take C.sz) n0::y.2)
 blen b g:=by simp[CT.blen]
 clen _ _:=rfl
 ilen h l g ps ids fzs hr:=by
  split at hr
  .rename_i j n;split at hr
   .rename_i t' sz el m hg;cases hb:(Nat.beq t' t&&Nat.beq sz C.sz&&Nat.beq n n0&&Nat.beq m n0)with
    |false=>rw[hb]at hr;cases hr
    |true=>
     rw[hb]at hr;simp only[cond_true]at hr;split at hr
     .rename_i g' ps' ids' fz' hc;simp only[Option.some.injEq,Prod.mk.injEq]at hr;rw[<-hr.2.2.1,List.length_cons,CT.ilen _ _ _ _ _ _ _ hc]
     .cases hr
   .cases hr
  .cases hr
 ok N k0 h l g ps ids fzs hr hp:=by
  split at hr
  .rename_i j n;split at hr
   .rename_i t' sz el m hg;cases hb:(Nat.beq t' t&&Nat.beq sz C.sz&&Nat.beq n n0&&Nat.beq m n0)with
    |false=>rw[hb]at hr;cases hr
    |true=>
     rw[hb]at hr;simp only[Bool.and_eq_true]at hb;obtain⟨⟨⟨b1,b2⟩,b3⟩,b4⟩:=hb;have e1:=beq_of b1;have e2:=beq_of b2;have e3:=beq_of b3;have e4:=beq_of b4;subst e1 e2 e3 e4;simp only[cond_true]at hr;split at hr
     .rename_i g' ps' ids' fz' hc;simp only[Option.some.injEq,Prod.mk.injEq]at hr;obtain⟨rfl,rfl,rfl,rfl⟩:=hr;have hC:=(CT.rep C d _).ok N (k0+1) h _ g' ps' ids' fz' hc hp;rw[show N+(k0+1)=N+k0+1 by omega]at hC;refine⟨λk so hso=>?_,λn' m' ρ ρ' x hn hz hf=>?_⟩
      .cases k with
       |succ k=>
        rcases hC.blk k so (by simpa using hso)with ⟨h1,h2⟩|⟨i,h1,h2,h3⟩
        .exact .inl ⟨by simpa using h1,h2⟩
        .exact .inr ⟨i,by simpa using h1,h2,λn m ρ ρ' L o hn hz=>h3 n m ρ ρ' L o hn.tail hz⟩
       |zero=>
        simp only[List.getElem?_cons_zero,Option.some.injEq]at hso;subst hso;refine .inr ⟨j,rfl,by rw[hg];exact ow_na λ_ h=>h,λn' m' ρ ρ' L o hn hz hf=>?_⟩;rw[hg]at hf;obtain⟨f0,f1⟩:=hf;refine⟨f0,?_⟩;rcases f1 with f1|⟨f1,f2,c,fz,f3,f4,f5,f6,f7,f8⟩
        .exact .inl f1
        .obtain⟨y,g1,g2,g3⟩:=els_flat _ f8;exact .inr ⟨f1,f2,c,fz,f3,f4,f5,f6,f7,flat_els g1 (hC.fit n' m' ρ ρ' y hn.tail hz g2) g3⟩
      .obtain⟨y,r,rfl,hy,hr'⟩:=fits_cons hf;refine⟨ow_rn hn rfl rfl hy,by have:=fits_nil hr';subst this;trivial⟩
     .cases hr
   .cases hr
  .cases hr
 shf b b' g n m ρ ρ' hm hk hb:=by
  have h0:=hk 0 (by omega);simp only[Nat.add_zero]at h0
  obtain⟨s1,s2⟩:=(CT.rep C d n0).shf (b+1) (b'+1) g n m ρ ρ' hm (λk hk'=>by
   have:=hk (k+1) (by omega);rw[show b'+1+k=b'+(k+1) by omega,show b+1+k=b+(k+1) by omega];exact this) (by omega)
  refine⟨λx hf=>?_,shfB_cons (owE_na λ_=>Iff.rfl) (λL o hf=>?_) s2⟩
  .obtain⟨y,r,rfl,hy,hr'⟩:=fits_cons hf;refine⟨⟨by omega,?_⟩,by have:=fits_nil hr';subst this;trivial⟩;rw[h0];exact hy.2
  .obtain⟨f0,f1⟩:=hf;refine⟨f0,?_⟩;rcases f1 with f1|⟨f1,f2,c,fz,f3,f4,f5,f6,f7,f8⟩
   .exact .inl f1
   .refine .inr ⟨f1,f2,c,fz,f3,f4,f5,f6,f7,λi hi=>?_⟩;obtain⟨y,g1,g2,g3⟩:=els_flat _ f8
    have hsz:∀(xs:List SV)k,xs.length=k*C.sz->flatE (λe=>(xs.drop (e*C.sz)).take C.sz) k=xs:=by
     intro xs k hk
     have key:∀k',k'<=k->flatE (λe=>(xs.drop (e*C.sz)).take C.sz) k'=xs.take (k'*C.sz):=by
      intro k'
      induction k' with
      |zero=>intro _;simp[flatE]
      |succ k' ih=>
       intro hk';rw[flatE,ih (by omega),Nat.succ_mul,List.take_add]
     rw[key k (Nat.le_refl _),<-hk,List.take_length]
    have hl:=(CT.rep C d n0).clen (b+1) g;rw[CT.rep_sz]at hl
    have g2':SV.fits n ρ ((CT.rep C d n0).cells (b+1) g) y:=by
     have:=hsz _ _ hl;rw[<-this];exact g2
    exact flat_els g1 (s1 y g2') g3 i hi
 putOk b g K h:=CT.putOk _ (b+1) g _ (Tr.holds_bind h)
end
end Go.Sx

namespace Go.Sx
open Go.RowKit
variable[Env]
section
variable{α γ:Type}
def memR(F:Nat->Option Obj)(w w':World)(L:Lc):Nat->Option Obj:=λb=>if L.nl=false/\b=L.blk then none else memAt F w w' b
def FnRow(P:Program)(f:Nat)(t:TypeId)(A:El α)(D:DA γ)(fn:γ->List α)(pre:γ->List Prop):Prop:=
 ∀(w:World)(F:Nat->Option Obj)(g:γ)(vs:List Value),(∀b o,F b=some o->w.heap[b]?=some o)->Env.E F->(∀p∈pre g,p)->SV.fits 0 (emp F) (D.enc g) vs->
  Calls P f vs.toArray w λe w'=>∃x L,e=.returned x/\Below w.heap.size w w'/\OwV L (fn g).length x/\(L.nl=false->w.heap.size<=L.blk)/\(rowA A t (fn g)).fit 0 (emp (memR F w w' L)) L w'.heap[L.blk]?
def wTree(P:Program)(Γ:Gam)(Λ:Lam)(n f:Nat)(t:TypeId)(A:El α)(args:List SV):Tr (List α):=
 (fnTree P Γ Λ n f args ⟨0,[],[]⟩).bind λy=>match y.1 with
  | .ow i l=>match y.2.get i with
   | .row t' sz el m=>match Nat.beq t' t&&Nat.beq sz A.sz with
    |true=>asks ((l=m)::A.okE m el) (.ret (A.lstE m el))
    |false=>.bad 690
   |_=>.bad 691
  | .k x=>match nilK x with
   |true=>.ret []
   |false=>.bad 692
  |_=>.bad 693
variable{P:Program}{Γ:Gam}{Λ:Lam}{f t:Nat}{A:El α}{D:DA γ}{fn:γ->List α}{pre:γ->List Prop}
theorem row_of_tree(hΓ:∀f g,Γ.g f=some g->FnOk P f g)(hΛ:∀f k L,Λ f k=some L->∀b∈loopsOf P f,lkey b=k->LoopOk P b L.g)(n:Nat)
  (hT:∀g,D.bd g->(∀p∈pre g,p)->(wTree P Γ Λ n f t A (D.enc g)).Holds (·=fn g)):FnRow P f t A D fn pre:=by
 intro w F g vs hF hE hpre hfit;have hbd:=D.fb _ _ _ _ hfit;have hT:=hT g hbd hpre;have h0:=fnTree_ok hΓ hΛ n (λ_=>False) w w (emp F) ⟨0,[],[]⟩ _ vs _ (Tr.holds_bind hT) (HM.start w (emp F) hF (λ_ _ h=>h) hE) hfit;refine h0.mono ?_;rintro e w' ⟨s,h',ρ',x,h1,h2,h3,h4,h5,rfl⟩;simp only at h1;split at h1
 .rename_i i l;split at h1
  .rename_i t' sz el m hg;split at h1
   .rename_i hb;simp only[Bool.and_eq_true]at hb;have e1:=beq_of hb.1;have e2:=beq_of hb.2;subst e1;subst e2;obtain⟨hq,h1⟩:=asks_holds h1;have hl:l=m:=hq _ (List.mem_cons_self ..);have hok:∀e,e<m->A.Ok (el e):=A.okE_ok m el λp h'=>hq p (List.mem_cons_of_mem _ h');subst hl;have h1:A.lstE l el=fn g:=h1;have hob:=h4.ob i;rw[hg]at hob;have hlen:(fn g).length=l:=by rw[<-h1,A.lstE_eq,A.lst_length]
    have hmem:∀b o,ρ'.mem b=some o->memR F w w' (ρ' i) b=some o:=λb o hb'=>by
     unfold memR;rw[if_neg]
     .unfold memAt;split
      .rename_i hlt;have:=h4.old b o hb' hlt (λh=>h);rw[h3.2.2]at this;exact this
      .exact h4.fz b o hb'
     .rintro⟨hn,rfl⟩;have:=h4.sep i (by rw[hg];exact hn);rw[this]at hb';cases hb'
    refine⟨x,ρ' i,rfl,h4.toBelow,?_,λhn=>?_,?_⟩
    .rw[hlen];rcases h5.2 with ⟨k1,k2,a,k3⟩|⟨k1,_,k3⟩
     .exact .inl ⟨k1,k2,a,k3⟩
     .exact .inr ⟨k1,k3⟩
    .rcases h4.ow i (by rw[hg];exact hn)with h|h
     .exact h
     .exact h.elim
    .rw[<-h1];exact rowA_of A hmem hok hob
   .exact h1.elim
  .exact h1.elim
 .rename_i y;split at h1
  .rename_i hy;have hy:=nilK_eq hy;subst hy;have h1:[]=fn g:=h1;simp only[SV.fit]at h5;subst h5;refine⟨_,⟨0,0,0,true⟩,rfl,h4.toBelow,?_,λh=>(by cases h),?_⟩
   .rw[<-h1];exact .inl ⟨rfl,rfl,_,rfl⟩
   .rw[<-h1];exact⟨Nat.zero_le _,.inl ⟨rfl,rfl⟩⟩
  .exact h1.elim
 .exact h1.elim
def conRow(t:TypeId)(A:El α)(D:DA γ)(fn:γ->List α)(pre:γ->List Prop):Con:=λargs h=>
 match D.dec args with
 |some (g,ps)=>asks (ps++pre g) (.ret (.ow h.nx (fn g).length,h.push (rowA A t (fn g))))
 |none=>.bad 694
theorem conRow_ok(hp:FnRow P f t A D fn pre):FnOk P f (conRow t A D fn pre):=by
 intro M w0 w ρ h args vs K hK hm hfits;unfold conRow at hK;split at hK
 .rename_i g ps hd;obtain⟨hq,hK⟩:=asks_holds hK;have hv2:=D.ok _ _ _ _ _ _ hd (λp h'=>hq p (List.mem_append_left _ h')) hfits;have hv3:=D.cl _ _ 0 ρ (emp ρ.mem) vs (λ_ _ h=>h) hv2;refine(hp w ρ.mem g vs hm.fz hm.env (λp h'=>hq p (List.mem_append_right _ h')) hv3).mono ?_;rintro e w' ⟨x,L,rfl,hb,hx,hfresh,hrow⟩;have hm1:=hm.below hb
  have hmem:∀b o,ρ.mem b=some o->memR ρ.mem w w' L b=some o:=λb o ho=>by
   have hlt:=hm.lt_mem ho;unfold memR memAt;rw[if_neg (λhc=>by have:=hfresh hc.1;omega),if_pos hlt];exact ho
  have hnn:∀b,b<w.heap.size->ρ.mem b=none->memR ρ.mem w w' L b=none:=λb hlt hn=>by
   simp only[memR,memAt];split
   .rfl
   .first|exact hn|(rw[if_pos hlt];exact hn)
  have hag:Agree h.nx ρ ⟨ρ.lc,memR ρ.mem w w' L,ρ.lo⟩:=⟨λ_ _=>rfl,hmem,rfl⟩
  have hm2:HM M w0 ⟨ρ.lc,memR ρ.mem w w' L,ρ.lo⟩ h w':={
   os:=hm1.os
   tape:=hm1.tape
   output:=hm1.output
   size:=hm1.size
   block:=hm1.block
   lt:=hm1.lt
   ob:=λi=>SO.fit_mono (Nat.le_refl _) hag (hm1.ob i)
   ow:=hm1.ow
   fz:=λb o hb'=>by
    simp only[memR,memAt]at hb';split at hb'
    .cases hb'
    .split at hb'
     .exact hm1.fz b o hb'
     .exact hb'
   sep:=λi hi=>by
    have h1:=hm.sep i hi;have h2:=hm.lt_heap hi;simp only[memR,memAt];split
    .rfl
    .first|exact h1|(rw[if_pos h2];exact h1)
   old:=λb o hb' hlt hM=>by
    simp only[memR,memAt]at hb';have hs:=hm.size;split at hb'
    .cases hb'
    .rw[if_pos (by omega)]at hb';exact hm.old b o hb' hlt hM
   env:=Env.mono _ _ (λb o hb _=>hmem b o hb) hm.env
   ab:=hm.ab_at hb hmem hnn
   inj:=hm1.inj}
  have hm3:HM M w0 (upd ⟨ρ.lc,memR ρ.mem w w' L,ρ.lo⟩ h.nx L) (h.push (rowA A t (fn g))) w':=by
   refine hm2.learn (rowA_cl A (ρ:=emp (memR ρ.mem w w' L)) (λ_ _ h=>h) hrow) λho=>?_;have hn:L.nl=false:=ho;have hf:=hfresh hn;refine⟨.inl (Nat.le_trans hm.size hf),?_,λj hj=>?_,hm.ab_atB hb hmem hnn hf⟩
   .simp only[memR,hn,true_and,if_pos]
   .have:=hm.lt_heap hj;show(ρ j).blk≠L.blk;omega
  refine⟨_,_,upd ⟨ρ.lc,memR ρ.mem w w' L,ρ.lo⟩ h.nx L,x,hK,Nat.le_succ _,hag.trans (Nat.le_refl _) (agree_upd _ _ _),hm3,⟨Nat.lt_succ_self _,?_⟩,rfl⟩;have hu:(upd ⟨ρ.lc,memR ρ.mem w w' L,ρ.lo⟩ h.nx L) h.nx=L:=by simp[upd]
  rw[hu];rcases hx with ⟨h1,h2,a,h3⟩|⟨h1,h3⟩
  .exact .inl ⟨h1,h2,a,h3⟩
  .refine .inr ⟨h1,?_,h3⟩;rcases hrow.2 with ⟨h4,_⟩|⟨_,_,c,fz,_,_,_,h8,_⟩
   .rw[h1]at h4;cases h4
   .exact h8
 .exact hK.elim
def bconRow(t:TypeId)(A:El α)(D:DA γ)(fn:γ->List α)(pre:γ->List Prop):BCon:=⟨conRow t A D fn pre,λargs h=>by
 unfold conRow;split
 .exact asks_each rfl
 .trivial⟩
end
end Go.Sx

namespace Go.Sx
open Go.RowKit
variable[Env]
structure RvE(α:Type)where
 E:El α
 dec:SH->List SV->Option (α×List Prop)
 ok:∀{M:Nat->Prop}{w0:World}{ρ:Rh}{h:SH}{w:World}{G:Nat->Option Obj},Vwd M w0 ρ h w G->∀{s:List SV}{r:α}{ps:List Prop}{x:List Value},dec h s=some (r,ps)->(∀p∈ps,p)->SV.fits h.nx ρ s x->SV.fits h.nx ⟨ρ.lc,G,ρ.lo⟩ (E.cells r) x
def RvE.pl{α:Type}(A:El α):RvE α where
 E:=A
 dec _ l:=A.decs l
 ok {_ _ _ _ _ _} hv {_ _ _ _} hd hp hf:=A.cl _ _ _ _ ⟨_,_,_⟩ _ hv.hG (A.ok _ _ _ _ _ _ hd hp hf)
def RvE.list{α:Type}(A:El α):RvE (List α) where
 E:=eList A
 dec h l:=match l with
  | [s]=>(Rv.list A).dec h s
  |_=>none
 ok {_ _ _ _ _ _} hv {s r ps x} hd hp hf:=by
  split at hd
  .obtain⟨y,r',rfl,hy,hr⟩:=fits_cons hf;have:=fits_nil hr;subst this;exact⟨(Rv.list A).ok hv hd hp hy,trivial⟩
  .cases hd
def RvE.pair{α β:Type}(A:RvE α)(B:RvE β):RvE (α×β) where
 E:=.pair A.E B.E
 dec h l:=match A.dec h (l.take A.E.sz)with
  |some (a,ps)=>match B.dec h (l.drop A.E.sz)with
   |some (b,qs)=>some ((a,b),ps++qs)
   |none=>none
  |none=>none
 ok {_ _ _ _ _ _} hv {s r ps x} hd hp hf:=by
  split at hd
  .rename_i a0 ps0 h1;split at hd
   .rename_i b0 qs0 h2;simp only[Option.some.injEq,Prod.mk.injEq]at hd;obtain⟨rfl,rfl⟩:=hd;have f1:=A.ok hv h1 (λp hp'=>hp p (List.mem_append_left _ hp')) (fits_take A.E.sz hf);have f2:=B.ok hv h2 (λp hp'=>hp p (List.mem_append_right _ hp')) (fits_drop A.E.sz hf);have:=fits_append f1 f2
    rwa [List.take_append_drop]at this
   .cases hd
  .cases hd
def RvE.iso{α β:Type}(A:RvE α)(f:α->β)(g:β->α)(hfg:∀b,f (g b)=b)(hgf:∀a,g (f a)=a):RvE β where
 E:=.iso A.E f g hfg hgf
 dec h l:=match A.dec h l with
  |some (a,ps)=>some (f a,ps)
  |none=>none
 ok {_ _ _ _ _ _} hv {s r ps x} hd hp hf:=by
  split at hd
  .rename_i a0 ps0 h1;simp only[Option.some.injEq,Prod.mk.injEq]at hd;obtain⟨rfl,rfl⟩:=hd;show SV.fits _ _ (A.E.cells (g (f a0))) x;rw[hgf];exact A.ok hv h1 hp hf
  .cases hd
def Rv.agg{α:Type}(A:RvE α):Rv α where
 D:=.agg A.E
 dec h s:=match s.agg? with
  |some l=>A.dec h l
  |none=>none
 ok {_ _ _ _ _ _} hv {s r ps x} hd hp hf:=by
  split at hd
  .rename_i l hl;obtain⟨v,rfl,hv'⟩:=SV.agg_fit hl hf;exact⟨v,rfl,A.ok hv hd hp hv'⟩
  .cases hd
end Go.Sx

namespace Go.Sx
open Go.RowKit
variable[Env]
section
variable{α:Type}(A:RvE α)
def readN(h:SH)(el:Nat->List SV):Nat->Option (List α×List Prop)
 |0=>some ([],[])
 |k+1=>match readN h el k with
  |some (xs,ps)=>match A.dec h (el k)with
   |some (a,qs)=>some (xs++[a],ps++qs)
   |none=>none
  |none=>none
theorem readN_ok{M:Nat->Prop}{w0:World}{ρ:Rh}{h:SH}{w:World}{G:Nat->Option Obj}(hv:Vwd M w0 ρ h w G){el:Nat->List SV}:∀(n:Nat)(r:List α)(ps:List Prop),readN A h el n=some (r,ps)->(∀p∈ps,p)->r.length=n/\∀k,k<n->∀x,SV.fits h.nx ρ (el k) x->SV.fits h.nx ⟨ρ.lc,G,ρ.lo⟩ (A.E.cells (r.getD k A.E.dflt)) x
 |0,r,ps,hr,hp=>by
  simp only[readN,Option.some.injEq,Prod.mk.injEq]at hr;rw[<-hr.1];exact⟨rfl,λk hk=>absurd hk (Nat.not_lt_zero k)⟩
 |n+1,r,ps,hr,hp=>by
  unfold readN at hr;split at hr
  .rename_i xs qs h1;split at hr
   .rename_i a ss h2;simp only[Option.some.injEq,Prod.mk.injEq]at hr;obtain⟨rfl,rfl⟩:=hr;obtain⟨k1,k2⟩:=readN_ok hv n xs qs h1 λp hp'=>hp p (List.mem_append_left _ hp');refine⟨by simp[k1],λk hk x hx=>?_⟩;by_cases hkn:k<n
    .rw[List.getD_eq_getElem?_getD,List.getElem?_append_left (by omega),<-List.getD_eq_getElem?_getD];exact k2 k hkn x hx
    .have:k=n:=by omega
     subst this;rw[List.getD_eq_getElem?_getD,List.getElem?_append_right (by omega),k1,Nat.sub_self];exact A.ok hv h2 (λp hp'=>hp p (List.mem_append_right _ hp')) hx
   .cases hr
  .cases hr
def Rv.rowN(n0:Nat):Rv (List α) where
 D:=.list A.E
 dec h s:=match s with
  | .ow i l=>match h.get i with
   | .row _ sz el m=>bif (Nat.beq sz A.E.sz&&Nat.beq l n0)&&(Nat.beq m n0&&Nat.blt 0 n0)then readN A h el.at n0 else none
   |_=>none
  |s=>(Rv.of (.list A.E)).dec h s
 ok {M w0 ρ h w G} hv {s r ps x} hd hp hf:=by
  split at hd
  .rename_i i l;split at hd
   .rename_i t sz el m hg;cases hb:((Nat.beq sz A.E.sz&&Nat.beq l n0)&&(Nat.beq m n0&&Nat.blt 0 n0))with
    |false=>rw[hb]at hd;cases hd
    |true=>
     rw[hb]at hd;simp only[Bool.and_eq_true]at hb;obtain⟨⟨b1,b2⟩,b3,b4⟩:=hb;have e1:=beq_of b1;have e2:=beq_of b2;have e3:=beq_of b3;have e4:0<n0:=by simpa [Nat.blt_eq]using b4
     subst e1 e2 e3;simp only[cond_true]at hd;obtain⟨k1,k2⟩:=readN_ok A hv _ _ _ hd hp;have hob:=hv.hm.ob i;rw[hg]at hob;obtain⟨hm0,hob⟩:=hob;obtain⟨hil,⟨_,hl0,_⟩|⟨hnl,hle,rfl⟩⟩:=hf
     .omega
     rcases hob with ⟨hnl',_⟩|⟨_,hoff,c,fz,hc,hfz,hsz,hmc,hcap,hels⟩
     .rw[hnl]at hnl';cases hnl'
     have hown:(h.get i).own (ρ i):=by rw[hg];exact hnl
     have hG:=hv.hO i _ hown hc;show SV.fit _ _ (.rs _ r.length (A.E.els r)) _;rw[k1];refine⟨some ⟨(ρ i).blk,0,none⟩,(ρ i).cap,rfl,?_,?_,λ_=>⟨(ρ i).blk,0,c,t,fz,rfl,hG,λe he=>?_⟩⟩
     .omega
     .omega
     .obtain⟨vs,v1,v2,v3⟩:=hels e he;exact⟨vs,v1,k2 e he vs v2,λj y hj=>v3 j y hj⟩
   .cases hd
  .exact(Rv.of (.list A.E)).ok hv hd hp hf
end
end Go.Sx

namespace Go.Sx
open Go.RowKit
variable[Env]
section
variable{P:Program}{M:Nat->Prop}{w0 w:World}
end
end Go.Sx

namespace Go.Sx
open Go.RowKit
variable[Env]
def frz1G(h:SH):SV->SV×SH×List Prop
 | .agg l=>(.agg (frzA h l).1,(frzA h l).2.1,(frzA h l).2.2)
 |s=>frz1 h s
def frzG:SH->List SV->List SV×SH×List Prop
 |h,[]=>([],h,[])
 |h,s::r=>((frz1G h s).1::(frzG (frz1G h s).2.1 r).1,(frzG (frz1G h s).2.1 r).2.1,(frz1G h s).2.2++(frzG (frz1G h s).2.1 r).2.2)
theorem frz1G_b(h:SH)(s:SV):(frz1G h s).2.1.b=h.b/\(frz1G h s).2.1.nx=h.nx:=by
 cases s with
 |agg l=>exact frzA_b l h
 |_=>exact frz1_b h _
theorem frzG_b:∀(args:List SV)(h:SH),(frzG h args).2.1.b=h.b/\(frzG h args).2.1.nx=h.nx
 | [],h=>⟨rfl,rfl⟩
 |s::r,h=>by
  obtain⟨h1,h2⟩:=frz1G_b h s;obtain⟨h3,h4⟩:=frzG_b r (frz1G h s).2.1;exact⟨h3.trans h1,h4.trans h2⟩
section
variable{P:Program}{M:Nat->Prop}{w0 w:World}
theorem frz1G_ok{ρ:Rh}{h:SH}{s:SV}{x:Value}(hm:HM M w0 ρ h w)(hf:s.fit h.nx ρ x)(hp:∀p∈(frz1G h s).2.2,p):∃ρ',Agree h.nx ρ ρ'/\HM M w0 ρ' (frz1G h s).2.1 w/\(frz1G h s).1.fit h.nx ρ' x:=by
 cases s with
 |agg l=>
  obtain⟨v,rfl,hv⟩:=SV.agg_fit (s:=.agg l) rfl hf;obtain⟨ρ1,a1,m1,f1⟩:=frzA_ok hm hv hp;exact⟨ρ1,a1,m1,⟨v,rfl,f1⟩⟩
 |_=>exact frz1_ok hm hf hp
theorem frzG_ok:∀{args:List SV}{ρ:Rh}{h:SH}{vs:List Value},HM M w0 ρ h w->SV.fits h.nx ρ args vs->(∀p∈(frzG h args).2.2,p)->∃ρ',Agree h.nx ρ ρ'/\HM M w0 ρ' (frzG h args).2.1 w/\SV.fits h.nx ρ' (frzG h args).1 vs
 | [],ρ,h,vs,hm,hf,_=>⟨ρ,Agree.refl _ _,hm,hf⟩
 |s::r,ρ,h,vs,hm,hf,hp=>by
  obtain⟨y,ys,rfl,hy,hr⟩:=fits_cons hf;simp only[frzG]at hp ⊢;obtain⟨ρ1,a1,m1,f1⟩:=frz1G_ok hm hy λp hq=>hp p (List.mem_append_left _ hq);have hnx:=(frz1G_b h s).2;have hr1:SV.fits (frz1G h s).2.1.nx ρ1 r ys:=by rw[hnx];exact SV.fits_mono (Nat.le_refl _) a1 _ _ hr
  obtain⟨ρ2,a2,m2,f2⟩:=frzG_ok (args:=r) m1 hr1 λp hq=>hp p (List.mem_append_right _ hq);rw[hnx]at a2 f2;exact⟨ρ2,a1.trans (Nat.le_refl _) a2,m2,SV.fit_mono (Nat.le_refl _) a2 _ _ f1,f2⟩
def frzCG(c:Con):Con:=λargs h=>asks (frzG h args).2.2 (c (frzG h args).1 (frzG h args).2.1)
theorem frzCG_ok{f:Nat}{c:Con}(hc:FnOk P f c):FnOk P f (frzCG c):=by
 intro M w0 w ρ h args vs K hK hm hf;obtain⟨hq,hK⟩:=asks_holds hK;obtain⟨ρ1,a1,m1,f1⟩:=frzG_ok hm hf hq;have hnx:=(frzG_b args h).2;refine(hc M w0 w ρ1 _ _ vs K hK m1 (by rw[hnx];exact f1)).mono ?_;rintro e w' ⟨s,h',ρ',x,k1,k2,k3,k4,k5,k6⟩;rw[hnx]at k2 k3;exact⟨s,h',ρ',x,k1,k2,a1.trans (Nat.le_refl _) k3,k4,k5,k6⟩
theorem frzCG_b{c:Con}(hc:∀args h,(c args h).Each λy=>y.2=h):ConB (frzCG c):=λargs h=>by
 have hb:=(frzG_b args h).1;refine asks_each ?_;have:=eq_b (hc (frzG h args).1 (frzG h args).2.1);rw[hb]at this;exact this
def fconG{γ δ:Type}(D:DA γ)(R:Dv δ)(fn:γ->δ)(pre:γ->List Prop):BCon:=⟨frzCG (conR D R fn pre),frzCG_b (pconR D R fn pre).e⟩
theorem fconG_ok{f:Nat}{γ δ:Type}{D:DA γ}{R:Dv δ}{fn:γ->δ}{pre:γ->List Prop}(h:FnPure P f D R fn pre):FnOk P f (fconG D R fn pre).g:=frzCG_ok (conR_ok h)
end
end Go.Sx

namespace Go.Lp
open Go.Lib Go.Sx
variable[Env]
theorem toL_len(s:ByteArray):s.data.toList.length=s.size:=(Lib.size_eq s).symm
theorem dec_toL(s:ByteArray)(p:Nat):Utf8.decode s p=decodeL (s.data.toList.drop p):=(decodeL_drop s p).symm
theorem dec_end(s:ByteArray)(p:Nat)(h:p<s.size):p+(Utf8.decode s p).2<=s.size:=by
 have h1:=decodeL_le (s.data.toList.drop p) (by intro e;have:=congrArg List.length e;simp only[List.length_drop,toL_len,List.length_nil]at this;omega);rw[dec_toL];simp only[List.length_drop,toL_len]at h1;omega
theorem rs_at(s:ByteArray)(p:Nat)(h:p<s.size):rsL (s.data.toList.drop p)=Utf8.decode s p::rsL (s.data.toList.drop (p+(Utf8.decode s p).2)):=by
 rw[rsL_step _ (by intro e;have:=congrArg List.length e;simp only[List.length_drop,toL_len,List.length_nil]at this;omega),<-dec_toL,List.drop_drop]
theorem rs_end(s:ByteArray)(p:Nat)(h:s.size<=p):rsL (s.data.toList.drop p)=[]:=by
 rw[List.drop_eq_nil_of_le (by rw[toL_len];exact h)];rfl
section
variable{γ β C:Type}
def txR(x:Nat)(tx:C->ByteArray)(step:C->β->Nat->Nat×Nat->Ex×β)(adv:Bool)(mk:Nat->C->β->γ)(p:Nat)(c:C)(b:β):Ex×γ:=
 if p<(tx c).size then
  match step c b p (Utf8.decode (tx c) p)with
  |(.normal,b')=>(.normal,mk (p+(Utf8.decode (tx c) p).2) c b')
  |(e,b')=>(e,mk (bif adv then p+(Utf8.decode (tx c) p).2 else p) c b')
 else(.exit x,mk p c b)
def scanT(x:Nat)(adv:Bool)(step:β->Nat->Nat×Nat->Ex×β):Nat->List (Nat×Nat)->β->Ex×Nat×β
 |p,[],b=>(.exit x,p,b)
 |p,d::l,b=>match step b p d with
  |(.normal,b')=>scanT x adv step (p+d.2) l b'
  |(e,b')=>(e,(bif adv then p+d.2 else p),b')
def txI(tx:C->ByteArray)(P:C->β->Nat->Prop)(mk:Nat->C->β->γ)(g:γ):List Prop:=[∃p c b,g=mk p c b/\p<=(tx c).size/\P c b p]
variable{x:Nat}{tx:C->ByteArray}{step:C->β->Nat->Nat×Nat->Ex×β}{adv:Bool}{mk:Nat->C->β->γ}{P:C->β->Nat->Prop}{F:γ->Ex×γ}{m:γ->Nat}
def txK(tx:C->ByteArray)(step:C->β->Nat->Nat×Nat->Ex×β)(P:C->β->Nat->Prop):Prop:=∀c b p,P c b p->p<(tx c).size->(step c b p (Utf8.decode (tx c) p)).1=.normal->P c (step c b p (Utf8.decode (tx c) p)).2 (p+(Utf8.decode (tx c) p).2)
theorem tx_goes(hm:∀p c b,m (mk p c b)=(tx c).size-p)(hF:∀p c b,p<=(tx c).size->P c b p->F (mk p c b)=txR x tx step adv mk p c b)(hP:txK tx step P):Goes F m λg=>allP (txI tx P mk g):=by
 intro g hi hn;obtain⟨p,c,b,rfl,h1,h2⟩:=hi _ (List.mem_cons_self ..);rw[hF p c b h1 h2]at hn ⊢;unfold txR at hn ⊢;by_cases hlt:p<(tx c).size
 .rw[if_pos hlt]at hn ⊢;have hp:=hP c b p h2 hlt;have he:=dec_end (tx c) p hlt;have hw:=width_pos (tx c) p;generalize step c b p (Utf8.decode (tx c) p)=s at hn hp ⊢;obtain⟨e,b'⟩:=s;cases e with
  |normal=>
   refine⟨λq hq=>?_,?_⟩
   .simp only[txI,List.mem_singleton]at hq;subst hq;exact⟨_,c,b',rfl,he,hp rfl⟩
   .rw[hm,hm];omega
  |_=>cases hn
 .rw[if_neg hlt]at hn;cases hn
theorem tx_run(hm:∀p c b,m (mk p c b)=(tx c).size-p)(hF:∀p c b,p<=(tx c).size->P c b p->F (mk p c b)=txR x tx step adv mk p c b)(hP:txK tx step P):∀(n p:Nat)(c:C)(b:β),p<=(tx c).size->P c b p->(tx c).size-p<=n->
  loopF F m (mk p c b)=((scanT x adv (step c) p (rsL ((tx c).data.toList.drop p)) b).1,mk (scanT x adv (step c) p (rsL ((tx c).data.toList.drop p)) b).2.1 c (scanT x adv (step c) p (rsL ((tx c).data.toList.drop p)) b).2.2):=by
 have hg:=tx_goes (x:=x) (adv:=adv) hm hF hP
 have hI:∀p c b,p<=(tx c).size->P c b p->allP (txI tx P mk (mk p c b)):=λp c b h1 h2 q hq=>by
  simp only[txI,List.mem_singleton]at hq;subst hq;exact⟨p,c,b,rfl,h1,h2⟩
 intro n
 induction n with
 |zero=>
  intro p c b h1 h2 h3;have hr:=hF p c b h1 h2;unfold txR at hr;rw[if_neg (by omega)]at hr;rw[loopF_end (by rw[hr];simp),hr,rs_end _ _ (by omega)];rfl
 |succ n ih=>
  intro p c b h1 h2 h3;have hr:=hF p c b h1 h2;unfold txR at hr;by_cases hlt:p<(tx c).size
  .rw[if_pos hlt]at hr;have hp:=hP c b p h2 hlt;have he:=dec_end (tx c) p hlt;have hw:=width_pos (tx c) p;rw[rs_at _ _ hlt];simp only[scanT];generalize step c b p (Utf8.decode (tx c) p)=s at hr hp ⊢;obtain⟨e,b'⟩:=s;cases e with
   |normal=>
    rw[loopF_next hg (hI p c b h1 h2) hr];exact ih _ c b' he (hp rfl) (by omega)
   |_=>rw[loopF_end (by rw[hr];simp),hr]
  .rw[if_neg hlt]at hr;rw[loopF_end (by rw[hr];simp),hr,rs_end _ _ (by omega)];rfl
end
end Go.Lp

namespace Go.Sx
open Go.RowKit
variable[Env]
end Go.Sx

namespace Go.Sx
section
variable{α:Type}
def Tr.hn(v:α):Tr α->Prop
 | .ret x=>x=v
 | .br c a b=>cond c (a.hn v) (b.hn v)
 | .ask p a=>p/\a.hn v
 | .giv _ a=>a.hn v
 | .all k=>(k []).hn v/\∀(x:Nat)(n:List Nat),(k (x::n)).hn v
 | .bad _=>False
theorem Tr.hn_holds{v:α}:∀{t:Tr α},t.hn v->t.Holds (·=v)
 | .ret _,h=>h
 | .br true a _,h=>⟨λ_=>Tr.hn_holds (t:=a) h,λh=>by cases h⟩
 | .br false _ b,h=>⟨λh=>(by cases h),λ_=>Tr.hn_holds (t:=b) h⟩
 | .ask _ a,h=>⟨h.1,Tr.hn_holds (t:=a) h.2⟩
 | .giv _ a,h=>λ_=>Tr.hn_holds (t:=a) h
 | .all k,h=>λn=>match n with
  | []=>Tr.hn_holds (t:=k []) h.1
  |x::n=>Tr.hn_holds (t:=k (x::n)) (h.2 x n)
 | .bad _,h=>h.elim
end
end Go.Sx

namespace Go.Sx
open Go.RowKit Go.ChangeShapes Go.WideShapes Go.ChangeAt Go.Deep
variable[Env]
theorem add_none(b o n:Nat):(⟨b,o,none⟩:Addr).add n=⟨b,o+n,none⟩:=by
 by_cases h:n=0
 .subst h;simp[Addr.add]
 .simp[Addr.add,h]
abbrev wh(w:World):Rh:=emp λb=>w.heap[b]?
def Rd{α:Type}(P:Program)(t:TypeId)(A:El α)(Q:α->Prop):Prop:=
 ∀(H:Type)(enc:TypeId×Value->H)(w:World)(base:Nat)(spare:Nat->Bool)(held:Bool)(fuel:Nat)(cs:List Value)(x:DataW H×List MemPlace),
  DataW.trod enc P w base spare held fuel t cs=some x->∃a,Q a/\SV.fits 0 (wh w) (A.cells a) cs
section
variable{H:Type}(enc:TypeId×Value->H)(P:Program)(w:World)(base:Nat)(spare:Nat->Bool)(held:Bool)(fuel:Nat)
def Cut:List TypeId->List Value->Prop
 | [],cs=>cs=[]
 |t::ts,cs=>(∃x,DataW.trod enc P w base spare held fuel t (cs.take (P.cellsOf t))=some x)/\Cut ts (cs.drop (P.cellsOf t))
def consec:Nat->List (Nat×TypeId)->Nat->Bool
 |o,[],n=>Nat.beq o n
 |o,p::r,n=>Nat.beq p.1 o&&consec (o+P.cellsOf p.2) r n
theorem cut_of(cs:List Value):∀(fs:List (Nat×TypeId))(o:Nat),consec P o fs cs.length=true->(∀p∈fs,∃x,DataW.trod enc P w base spare held fuel p.2 ((cs.drop p.1).take (P.cellsOf p.2))=some x)->Cut enc P w base spare held fuel (fs.map (·.2)) (cs.drop o)
 | [],o,hc,_=>by
  have:=beq_of hc;show cs.drop o=[];exact List.drop_eq_nil_of_le (by omega)
 |p::r,o,hc,h=>by
  simp only[consec,Bool.and_eq_true]at hc;have h0:=beq_of hc.1;refine⟨?_,?_⟩
  .have:=h p (List.mem_cons_self ..)
   rwa [h0]at this
  .have:=cut_of cs r (o+P.cellsOf p.2) hc.2 λq hq=>h q (List.mem_cons_of_mem _ hq)
   rwa [List.drop_drop]
end
def Rds{α:Type}(P:Program)(ts:List TypeId)(A:El α)(Q:α->Prop):Prop:=
 ∀(H:Type)(enc:TypeId×Value->H)(w:World)(base:Nat)(spare:Nat->Bool)(held:Bool)(fuel:Nat)(cs:List Value),
  Cut enc P w base spare held fuel ts cs->∃a,Q a/\SV.fits 0 (wh w) (A.cells a) cs
section
variable{P:Program}{t e:TypeId}{α β:Type}{A:El α}{B:El β}{Q:α->Prop}{Q':β->Prop}
theorem rds_one(h:Rd P t A Q):Rds P [t] A Q:=λH enc w base spare held fuel cs hc=>by
 obtain⟨⟨x,hx⟩,hd⟩:=hc;have hd:cs.drop (P.cellsOf t)=[]:=hd;have h2:=List.take_append_drop (P.cellsOf t) cs;rw[hd,List.append_nil]at h2;rw[h2]at hx;exact h H enc w base spare held fuel cs x hx
theorem rds_cons{ts:List TypeId}(h:Rd P t A Q)(h':Rds P ts B Q'):Rds P (t::ts) (.pair A B) (λa=>Q a.1/\Q' a.2):=λH enc w base spare held fuel cs hc=>by
 obtain⟨⟨x,hx⟩,hd⟩:=hc;obtain⟨a,qa,fa⟩:=h H enc w base spare held fuel _ x hx;obtain⟨b,qb,fb⟩:=h' H enc w base spare held fuel _ hd;refine⟨(a,b),⟨qa,qb⟩,?_⟩;have:=fits_append fa fb
 rwa [List.take_append_drop]at this
theorem rd_iso(h:Rd P t A Q)(f:α->β)(g:β->α)(hfg:∀b,f (g b)=b)(hgf:∀a,g (f a)=a):Rd P t (A.iso f g hfg hgf) (λb=>Q (g b)):=λH enc w base spare held fuel cs x hx=>by
 obtain⟨a,qa,fa⟩:=h H enc w base spare held fuel cs x hx;refine⟨f a,(show Q (g (f a)) by rwa [hgf]),?_⟩;show SV.fits 0 _ (A.cells (g (f a))) cs
 rwa [hgf]
theorem rd_int{k:IntKind}(ht:P.underlying t=some (.int k)):Rd P t (eInt k) (λn=>(Lit.int k n).wf=true):=λH enc w base spare held fuel cs x hx=>by
 obtain⟨n,rfl,_,hw⟩:=DataW.trod_int ht hx;exact⟨n,hw,by simp[eInt,El.one',dInt,SV.fits,SV.fit]⟩
theorem rd_struct{fs:Array Field}{ts:List TypeId}(ht:P.underlying t=some (.struct fs))(hts:fs.toList.map (·.type)=ts)(hc:consec P 0 (fs.toList.map λf=>(f.offset,f.type)) (P.cellsOf t)=true)(h:Rds P ts A Q):Rd P t A Q:=λH enc w base spare held fuel cs x hx=>by
 obtain⟨xs,n,rfl,_,hl,hxl,hf⟩:=DataW.trod_struct ht hx;rw[<-hl]at hc
 have:=cut_of enc P w base spare held n cs _ 0 hc λp hp=>by
  obtain⟨f,hfm,rfl⟩:=List.mem_map.1 hp;obtain⟨i,hi,rfl⟩:=List.getElem_of_mem hfm;have hi':i<fs.size:=by simpa using hi
  have:=hf i fs[i] (by simp[hi']);exact⟨xs[i]'(by omega),by simpa [hxl,hi']using this⟩
 rw[List.map_map,List.drop_zero]at this;refine h H enc w base spare held n cs ?_;rw[<-hts];exact this
theorem rd_array{n:Nat}{ts:List TypeId}(ht:P.underlying t=some (.array n e))(hts:((List.range n).map λ_=>e)=ts)(hc:consec P 0 ((List.range n).map λi=>(i*P.cellsOf e,e)) (P.cellsOf t)=true)(h:Rds P ts A Q):Rd P t A Q:=λH enc w base spare held fuel cs x hx=>by
 obtain⟨xs,m,rfl,_,hl,hxl,hf⟩:=DataW.trod_array ht hx;rw[<-hl]at hc
 have:=cut_of enc P w base spare held m cs _ 0 hc λp hp=>by
  obtain⟨i,hi,rfl⟩:=List.mem_map.1 hp;have hi':i<n:=by simpa using hi
  have:=hf i hi';exact⟨xs[i]'(by omega),by rw[this];simp[hxl,hi']⟩
 rw[List.map_map,List.drop_zero]at this;refine h H enc w base spare held m cs ?_;rw[<-hts];exact this
end
def RdV{α:Type}(P:Program)(t:TypeId)(D:Dv α)(Q:α->Prop):Prop:=
 ∀(H:Type)(enc:TypeId×Value->H)(w:World)(base:Nat)(spare:Nat->Bool)(held:Bool)(r:Reach)(b0:Nat)(v:Value)(d:DataW H)(ps:List MemPlace),
  Value.okWide P w r b0 t v->DataW.Trod enc P w base spare held t v d ps->∃a,Q a/\(D.enc a).fit 0 (wh w) v
section
variable{P:Program}{t e:TypeId}{α β:Type}{A:El α}{Q:α->Prop}
theorem rdv_int{k:IntKind}(ht:P.underlying t=some (.int k)):RdV P t (dInt k) (λn=>(Lit.int k n).wf=true):=λH enc w base spare held r b0 v d ps hv hx=>by
 obtain⟨n,rfl,_,_,hw⟩:=open_int ht hv hx;exact⟨n,hw,by simp[dInt,SV.fit]⟩
theorem rdv_struct{fs:Array Field}(ht:P.underlying t=some (.struct fs))(h:Rd P t A Q):RdV P t (.agg A) Q:=λH enc w base spare held r b0 v d ps hv hx=>by
 obtain⟨cs,rfl,_⟩:=okWide_struct ht hv;obtain⟨fuel,hf⟩:=hx;obtain⟨a,qa,fa⟩:=h H enc w base spare held fuel _ _ hf;exact⟨a,qa,cs.toList,by simp,by simpa [Value.cells]using fa⟩
theorem rdv_slice(ht:P.underlying t=some (.slice e))(hs:P.cellsOf e=A.sz)(hz:0<A.sz)(h:Rd P e A Q):RdV P t (.list A) (λxs=>∀a∈xs,Q a):=λH enc w base spare held r b0 v d ps hv hx=>by
 obtain⟨a0,len0,cap0,rfl⟩:=okWide_slice ht hv;obtain⟨fuel,hf⟩:=hx;rcases open_slice ht hf with ⟨hcs,_⟩|⟨a,len,cap,m,n,D,Pl,hcs,hb,hl,hm,hmm,_,hel⟩
 .simp[Value.cells]at hcs;obtain⟨rfl,rfl,rfl⟩:=hcs;exact⟨[],by simp,rs_nil _ _⟩
 .simp[Value.cells]at hcs;obtain⟨rfl,rfl,rfl⟩:=hcs;have hle:len0<=m:=by subst hmm;split<;>omega
  have key:∀i,i<len0->∃x:α,Q x/\∃cs',cs'.length=A.sz/\SV.fits 0 (wh w) (A.cells x) cs'/\∀j,j<A.sz->w.cell? ((a.add (i*A.sz)).add j)=cs'[j]?:=λi hi=>by
   obtain⟨cs',h1,h2⟩:=hel i (by omega);obtain⟨x,qx,fx⟩:=h H enc w base spare held n cs' _ h2;rw[hs]at h1;obtain⟨_,h3,h4⟩:=World.cells?_some h1;exact⟨x,qx,cs',h3,fx,h4⟩
  haveI:Inhabited α:=⟨A.dflt⟩
  obtain⟨f,hf⟩:=choose_lt (α:=α) (λi hi=>key i hi);refine⟨(List.range len0).map f,?_,?_⟩
  .intro x hx;obtain⟨i,hi,rfl⟩:=List.mem_map.1 hx;exact(hf i (by simpa using hi)).1
  .simp only[Dv.list,SV.fit];refine⟨some a,cap0,by simp,by simpa using hl,hm,λhpos=>?_⟩;have hpos:0<len0:=by simpa using hpos
   obtain⟨_,cs0,q1,q2,q3⟩:=hf 0 hpos;have q4:=q3 0 hz;obtain⟨b,o,spot⟩:=a;have hsome:∃v0,cs0[0]?=some v0:=⟨cs0[0]'(by omega),by simp⟩;obtain⟨v0,hv0⟩:=hsome;rw[hv0]at q4;have hspot:spot=none:=by simpa [Addr.add]using World.cell?_spot q4
   subst hspot
   have hblk:∃cs t fz,w.heap[b]?=some (.cells cs t fz):=by
    simp only[add_none,World.cell?]at q4;split at q4
    .rename_i c _ _ hh;exact⟨_,_,_,hh⟩
    .cases q4
   obtain⟨cs,t',fz,hh⟩:=hblk;refine⟨b,o,cs,t',fz,rfl,hh,λi hi=>?_⟩;have hi:i<len0:=by simpa using hi
   obtain⟨_,cs',k1,k2,k3⟩:=hf i hi;refine⟨cs',k1,?_,λj v hjv=>?_⟩
   .simpa [El.els,List.getD_eq_getElem?_getD,hi]using k2
   .have hj:j<A.sz:=by
     have:=(List.getElem?_eq_some_iff.1 hjv).1;omega
    have:=k3 j hj;rw[hjv]at this;simp only[add_none,World.cell?,hh]at this;simpa using this
end
end Go.Sx

namespace Go.Sx
open Go.RowKit Go.ChangeShapes Go.WideShapes Go.ChangeAt Go.Deep
variable[Env]
section
variable{P:Program}{t e:TypeId}{α:Type}{A:El α}{Q:α->Prop}
theorem rd_slice(ht:P.underlying t=some (.slice e))(hs:P.cellsOf e=A.sz)(hz:0<A.sz)(h:Rd P e A Q):Rd P t (eList A) (λxs=>∀a∈xs,Q a):=λH enc w base spare held fuel cs0 x hf=>by
 rcases open_slice ht hf with ⟨rfl,_⟩|⟨a,len0,cap0,m,n,D,Pl,rfl,hb,hl,hm,hmm,_,hel⟩
 .exact⟨[],by simp,rs_nil _ _,trivial⟩
 .have hcap:True:=trivial;have hle:len0<=m:=by subst hmm;split<;>omega
  have key:∀i,i<len0->∃x:α,Q x/\∃cs',cs'.length=A.sz/\SV.fits 0 (wh w) (A.cells x) cs'/\∀j,j<A.sz->w.cell? ((a.add (i*A.sz)).add j)=cs'[j]?:=λi hi=>by
   obtain⟨cs',h1,h2⟩:=hel i (by omega);obtain⟨x,qx,fx⟩:=h H enc w base spare held n cs' _ h2;rw[hs]at h1;obtain⟨_,h3,h4⟩:=World.cells?_some h1;exact⟨x,qx,cs',h3,fx,h4⟩
  haveI:Inhabited α:=⟨A.dflt⟩
  obtain⟨f,hf⟩:=choose_lt (α:=α) (λi hi=>key i hi);refine⟨(List.range len0).map f,?_,?_⟩
  .intro x hx;obtain⟨i,hi,rfl⟩:=List.mem_map.1 hx;exact(hf i (by simpa using hi)).1
  .refine⟨?_,trivial⟩;show((Dv.list A).enc ((List.range len0).map f)).fit 0 (wh w) _;simp only[Dv.list,SV.fit];refine⟨some a,cap0,by simp,by simpa using hl,hm,λhpos=>?_⟩;have hpos:0<len0:=by simpa using hpos
   obtain⟨_,cs0,q1,q2,q3⟩:=hf 0 hpos;have q4:=q3 0 hz;obtain⟨b,o,spot⟩:=a;have hsome:∃v0,cs0[0]?=some v0:=⟨cs0[0]'(by omega),by simp⟩;obtain⟨v0,hv0⟩:=hsome;rw[hv0]at q4;have hspot:spot=none:=by simpa [Addr.add]using World.cell?_spot q4
   subst hspot
   have hblk:∃cs t fz,w.heap[b]?=some (.cells cs t fz):=by
    simp only[add_none,World.cell?]at q4;split at q4
    .rename_i c _ _ hh;exact⟨_,_,_,hh⟩
    .cases q4
   obtain⟨cs,t',fz,hh⟩:=hblk;refine⟨b,o,cs,t',fz,rfl,hh,λi hi=>?_⟩;have hi:i<len0:=by simpa using hi
   obtain⟨_,cs',k1,k2,k3⟩:=hf i hi;refine⟨cs',k1,?_,λj v hjv=>?_⟩
   .simpa [El.els,List.getD_eq_getElem?_getD,hi]using k2
   .have hj:j<A.sz:=by
     have:=(List.getElem?_eq_some_iff.1 hjv).1;omega
    have:=k3 j hj;rw[hjv]at this;simp only[add_none,World.cell?,hh]at this;simpa using this
end
end Go.Sx

namespace Go.Sx
open Go.RowKit
variable[Env]
structure TA(κ:Type)where
 q:Nat
 R:Nat
 objs:Nat->κ->List SO
 blks:Nat->κ->List SO
 read:SH->List Nat->Option (κ×List Prop×List (Option Nat)×List Nat)
 olen:∀b g,(objs b g).length=q
 blen:∀b g,(blks b g).length=R
 ilen:∀h rs g ps ids fzs,read h rs=some (g,ps,ids,fzs)->ids.length=R/\rs.length=q
 ok:∀N k0 h rs g ps ids fzs,read h rs=some (g,ps,ids,fzs)->(∀p∈ps,p)->CRel N k0 h ids fzs [] [] (blks (N+k0) g)/\∀(j r:Nat)(so:SO),rs[j]?=some r->(objs (N+k0) g)[j]?=some so->(∀L,(h.get r).own L)/\(∀L,so.own L)/\(∀a,so=.abs a↔h.get r=.abs a)/\∀(n m:Nat)(ρ ρ':Rh)(L:Lc)(o:Option Obj),Rn N k0 ids m ρ ρ'->FzR n h fzs ρ ρ'->(h.get r).fit n ρ L o->so.fit m ρ' L o
 shf:∀(b b':Nat)(g:κ)(n m:Nat)(ρ ρ':Rh),(∀c o,ρ.mem c=some o->ρ'.mem c=some o)->(∀k,k<R->ρ' (b'+k)=ρ (b+k))->b'+R<=m->ShfB n m ρ ρ' (objs b g) (objs b' g)/\ShfB n m ρ ρ' (blks b g) (blks b' g)
abbrev TA.T{κ:Type}(_:TA κ):Type:=κ
def TA.nil:TA Unit where
 q:=0
 R:=0
 objs _ _:=[]
 blks _ _:=[]
 read _ rs:=match rs with
  | []=>some ((),[],[],[])
  |_=>none
 olen _ _:=rfl
 blen _ _:=rfl
 ilen h rs g ps ids fzs hr:=by
  split at hr
  .simp only[Option.some.injEq,Prod.mk.injEq]at hr;rw[<-hr.2.2.1];exact⟨rfl,rfl⟩
  .cases hr
 ok N k0 h rs g ps ids fzs hr _:=⟨⟨λk so h=>by simp at h,λ_ _ _ _ _ _ _ h=>by cases fits_nil h;trivial⟩,λj r so _ h=>by simp at h⟩
 shf _ _ _ _ _ _ _ _ _ _:=⟨shfB_nil,shfB_nil⟩
def TA.one{κ:Type}(t:TypeId)(C:CT κ):TA κ where
 q:=1
 R:=C.R
 objs b g:=[.cells (C.cells b g) t]
 blks b g:=C.blks b g
 read h rs:=match rs with
  | [r]=>match h.get r with
   | .cells xs t'=>bif Nat.beq t' t then C.read h xs else none
   |_=>none
  |_=>none
 olen _ _:=rfl
 blen b g:=C.blen b g
 ilen h rs g ps ids fzs hr:=by
  split at hr
  .split at hr
   .rename_i xs t' hg;cases hb:Nat.beq t' t with
    |false=>rw[hb]at hr;cases hr
    |true=>rw[hb]at hr;exact⟨C.ilen _ _ _ _ _ _ hr,rfl⟩
   .cases hr
  .cases hr
 ok N k0 h rs g ps ids fzs hr hp:=by
  split at hr
  .rename_i r;split at hr
   .rename_i xs t' hg;cases hb:Nat.beq t' t with
    |false=>rw[hb]at hr;cases hr
    |true=>
     have:=beq_of hb;subst this;rw[hb]at hr;have hC:=C.ok N k0 h xs g ps ids fzs hr hp;refine⟨⟨hC.blk,λ_ _ _ _ _ _ _ h=>by cases fits_nil h;trivial⟩,λj r' so h1 h2=>?_⟩;cases j with
     |succ j=>simp at h2
     |zero=>
      simp only[List.getElem?_cons_zero,Option.some.injEq]at h1 h2;subst h1;subst h2;rw[hg];refine⟨λ_=>trivial,λ_=>trivial,λa=>⟨λe=>(by cases e),λe=>(by cases e)⟩,λn m ρ ρ' L o hn hz hf=>?_⟩;obtain⟨f1,f2,l,f3,f4⟩:=hf;exact⟨f1,f2,l,f3,hC.fit n m ρ ρ' l hn hz f4⟩
   .cases hr
  .cases hr
 shf b b' g n m ρ ρ' hm hk hb:=by
  obtain⟨s1,s2⟩:=C.shf b b' g n m ρ ρ' hm hk hb
  exact⟨shfB_cons (owE_na λ_=>Iff.rfl) (λL o hf=>by
   obtain⟨f1,f2,l,f3,f4⟩:=hf;exact⟨f1,f2,l,f3,s1 l f4⟩) shfB_nil,s2⟩
structure TR(δ:Type)where
 R:Nat
 val:Nat->δ->SV
 blks:Nat->δ->List SO
 read:SH->SV->Option (δ×List Prop×List (Option Nat)×List Nat)
 put:Nat->δ->Tr (SV×List SO)
 blen:∀b g,(blks b g).length=R
 ilen:∀h s g ps ids fzs,read h s=some (g,ps,ids,fzs)->ids.length=R
 ok:∀N k0 h s g ps ids fzs,read h s=some (g,ps,ids,fzs)->(∀p∈ps,p)->CRel N k0 h ids fzs [s] [val (N+k0) g] (blks (N+k0) g)
 shf:∀(b b':Nat)(g:δ)(n m:Nat)(ρ ρ':Rh),(∀c o,ρ.mem c=some o->ρ'.mem c=some o)->(∀k,k<R->ρ' (b'+k)=ρ (b+k))->b'+R<=m->(∀x,(val b g).fit n ρ x->(val b' g).fit m ρ' x)/\ShfB n m ρ ρ' (blks b g) (blks b' g)
 putOk:∀b g(K:SV×List SO->Prop),(put b g).Holds K->K (val b g,blks b g)
abbrev TR.T{δ:Type}(_:TR δ):Type:=δ
section
variable{δ κ:Type}
def TR.pure(D:Dv δ):TR δ where
 R:=0
 val _ r:=D.enc r
 blks _ _:=[]
 read _ s:=match D.dec s with
  |some (r,ps)=>some (r,ps,[],[])
  |none=>none
 put _ r:=.ret (D.enc r,[])
 blen _ _:=rfl
 ilen h s g ps ids fzs hr:=by
  split at hr
  .simp only[Option.some.injEq,Prod.mk.injEq]at hr;rw[<-hr.2.2.1];rfl
  .cases hr
 ok N k0 h s g ps ids fzs hr hp:=by
  split at hr
  .rename_i a ps' hd;simp only[Option.some.injEq,Prod.mk.injEq]at hr;obtain⟨rfl,rfl,rfl,rfl⟩:=hr;refine⟨λk so h=>by simp at h,λn m ρ ρ' x hn _ hf=>?_⟩;obtain⟨y,r,rfl,hy,hr'⟩:=fits_cons hf;exact⟨D.cl a n m ρ ρ' y hn.ag.2.1 (D.ok _ _ _ _ _ _ hd hp hy),by cases fits_nil hr';trivial⟩
  .cases hr
 shf b b' g n m ρ ρ' hm _ _:=⟨λx hf=>D.cl g n m ρ ρ' x hm hf,shfB_nil⟩
 putOk _ _ _ h:=h
def TR.ct(C:CT κ)(h1:C.sz=1):TR κ where
 R:=C.R
 val b g:=(C.cells b g).headD .u
 blks b g:=C.blks b g
 read h s:=C.read h [s]
 put b g:=(C.put b g).bind λy=>.ret (y.1.headD .u,y.2)
 blen b g:=C.blen b g
 ilen h s g ps ids fzs hr:=C.ilen _ _ _ _ _ _ hr
 ok N k0 h s g ps ids fzs hr hp:=by
  have hC:=C.ok N k0 h [s] g ps ids fzs hr hp;have hl:=C.clen (N+k0) g;refine⟨hC.blk,λn m ρ ρ' x hn hz hf=>?_⟩;have:=hC.fit n m ρ ρ' x hn hz hf;generalize C.cells (N+k0) g=cs at this hl;obtain⟨c,rfl⟩:=List.length_eq_one_iff.1 (hl.trans h1);exact this
 shf b b' g n m ρ ρ' hm hk hb:=by
  obtain⟨s1,s2⟩:=C.shf b b' g n m ρ ρ' hm hk hb;refine⟨λx hf=>?_,s2⟩;have l1:=C.clen b g;have l2:=C.clen b' g;generalize C.cells b g=c1 at *;generalize C.cells b' g=c2 at *;obtain⟨a1,rfl⟩:=List.length_eq_one_iff.1 (l1.trans h1);obtain⟨a2,rfl⟩:=List.length_eq_one_iff.1 (l2.trans h1);exact(s1 [x] ⟨hf,trivial⟩).1
 putOk b g K h:=C.putOk b g _ (Tr.holds_bind h)
def TR.tup(C:CT κ):TR κ where
 R:=C.R
 val b g:=.tup (C.cells b g)
 blks b g:=C.blks b g
 read h s:=match s with
  | .tup xs=>C.read h xs
  |_=>none
 put b g:=(C.put b g).bind λy=>.ret (.tup y.1,y.2)
 blen b g:=C.blen b g
 ilen h s g ps ids fzs hr:=by
  split at hr
  .exact C.ilen _ _ _ _ _ _ hr
  .cases hr
 ok N k0 h s g ps ids fzs hr hp:=by
  split at hr
  .rename_i xs;have hC:=C.ok N k0 h xs g ps ids fzs hr hp;refine⟨hC.blk,λn m ρ ρ' x hn hz hf=>?_⟩;obtain⟨y,r,rfl,hy,hr'⟩:=fits_cons hf;obtain⟨l,rfl,hl⟩:=hy;exact⟨⟨l,rfl,hC.fit n m ρ ρ' l hn hz hl⟩,by cases fits_nil hr';trivial⟩
  .cases hr
 shf b b' g n m ρ ρ' hm hk hb:=by
  obtain⟨s1,s2⟩:=C.shf b b' g n m ρ ρ' hm hk hb
  exact⟨λx hf=>by
   obtain⟨l,rfl,hl⟩:=hf;exact⟨l,rfl,s1 l hl⟩,s2⟩
 putOk b g K h:=C.putOk b g _ (Tr.holds_bind h)
end
def canonH(sos:List SO):SH:=⟨sos.length,whole (rowsL 0 sos),[]⟩
theorem canonH_get(sos:List SO)(k:Nat):(canonH sos).get k=(sos[k]?).getD .dead:=by
 have e:(canonH sos).get k=look .dead k (rowsL 0 sos):=by
  simp only[canonH,SH.get,lookE,lookE_whole]
 obtain⟨r1,r2⟩:=rowsL_get (i:=k) (r:=sos) (k:=0) .dead;rw[e];by_cases hk:k<sos.length
 .obtain⟨so,h1,h2⟩:=r1 k (by omega) hk;rw[h2,h1];rfl
 .rw[r2 (by omega),List.getElem?_eq_none (by omega)];rfl
def kill:List Nat->SH->SH
 | [],h=>h
 |j::r,h=>kill r (h.set j .dead)
theorem kill_nx:∀(l:List Nat)(h:SH),(kill l h).nx=h.nx
 | [],_=>rfl
 |_::r,h=>kill_nx r _
theorem kill_get:∀(l:List Nat)(h:SH)(i:Nat),i∉l->(kill l h).get i=h.get i
 | [],_,_,_=>rfl
 |j::r,h,i,hi=>by
  simp only[List.mem_cons,not_or]at hi;show(kill r (h.set j .dead)).get i=_;rw[kill_get r _ i hi.2,SH.get_set,if_neg hi.1]
section
variable{M:Nat->Prop}{w0 w w':World}{ρ:Rh}{h:SH}
open Classical in
theorem HM.freezeAll:∀(l:List Nat){h:SH}{ρ:Rh},HM M w0 ρ h w->∃ρ':Rh,ρ'.lc=ρ.lc/\(∀b o,ρ.mem b=some o->ρ'.mem b=some o)/\ρ'.lo=ρ.lo/\HM M w0 ρ' (kill l h) w/\∀j∈l,(h.get j).own (ρ j)->ρ'.mem (ρ j).blk=w.heap[(ρ j).blk]?
 | [],h,ρ,hm=>⟨ρ,rfl,λ_ _ h=>h,rfl,hm,λj hj=>by cases hj⟩
 |j::r,h,ρ,hm=>by
  by_cases hown:(h.get j).own (ρ j)
  .obtain⟨o,ho⟩:=SO.fit_some (hm.ob j) hown;have hfz:=hm.freeze hown ho;obtain⟨ρ',e1,e2,e3,e4,e5⟩:=HM.freezeAll r hfz;have hag:=agree_frz (n:=h.nx) (o:=o) ρ (hm.sep j hown);refine⟨ρ',e1,λb o' hb=>e2 b o' (hag.2.1 b o' hb),e3,e4,λi hi hio=>?_⟩;by_cases hij:i=j
   .subst hij;rw[ho];exact e2 _ _ (by simp[Rh.frz])
   .rcases List.mem_cons.1 hi with hi|hi
    .exact absurd hi hij
    .exact e5 i hi (by rw[SH.get_set,if_neg hij];exact hio)
  .obtain⟨ρ',e1,e2,e3,e4,e5⟩:=HM.freezeAll r (hm.forget j);refine⟨ρ',e1,e2,e3,e4,λi hi hio=>?_⟩;by_cases hij:i=j
   .subst hij;exact absurd hio hown
   .rcases List.mem_cons.1 hi with hi|hi
    .exact absurd hi hij
    .exact e5 i hi (by rw[SH.get_set,if_neg hij];exact hio)
theorem HM.relay(hm:HM M w0 ρ h w){sos:List SO}{src:List (Option Nat)}(ρ':Rh)(hinj:∀k k' j:Nat,src[k]?=some (some j)->src[k']?=some (some j)->k=k')(hmem:ρ'.mem=ρ.mem)(hlo:ρ'.lo=ρ.lo)
  (hyes:∀k j:Nat,src[k]?=some (some j)->ρ' k=ρ j) (hno:∀k:Nat,k<sos.length->src[k]?=some none->ρ' k=⟨0,0,0,true⟩)
  (hso:∀(k:Nat)(so:SO),sos[k]?=some so->(src[k]?=some none/\NilSO so)\/∃j:Nat,src[k]?=some (some j)/\Ow so (h.get j)/\((h.get j).fit h.nx ρ (ρ j) w.heap[(ρ j).blk]?->so.fit sos.length ρ' (ρ j) w.heap[(ρ j).blk]?)):HM M w0 ρ' (canonH sos) w:=by
 have hsrc:∀k,((canonH sos).get k).own (ρ' k)->∃j:Nat,src[k]?=some (some j)/\(h.get j).own (ρ j)/\ρ' k=ρ j:=λk hk=>by
  rw[canonH_get]at hk;cases hs:sos[k]? with
  |none=>rw[hs]at hk;exact hk.elim
  |some so=>
   rw[hs]at hk;have hlt:=(List.getElem?_eq_some_iff.1 hs).1;rcases hso k so hs with ⟨h1,rfl|⟨t,sz,el,rfl⟩⟩|⟨j,h1,h2,_⟩
   .exact hk.elim
   .have hk:(ρ' k).nl=false:=hk;rw[hno k hlt h1]at hk;cases hk
   .rw[hyes k j h1]at hk;exact⟨j,h1,h2.1 _ hk,hyes k j h1⟩
 exact {
  os:=hm.os
  tape:=hm.tape
  output:=hm.output
  size:=hm.size
  block:=hm.block
  lt:=λk hk=>by
   rw[canonH_get]at hk;show k<sos.length;by_cases hlt:k<sos.length
   .exact hlt
   .rw[List.getElem?_eq_none (by omega)]at hk;cases hk
  ob:=λk=>by
   show((canonH sos).get k).fit sos.length ρ' (ρ' k) _;rw[canonH_get];cases hs:sos[k]? with
   |none=>trivial
   |some so=>
    have hlt:=(List.getElem?_eq_some_iff.1 hs).1;rcases hso k so hs with ⟨h1,rfl|⟨t,sz,el,rfl⟩⟩|⟨j,h1,_,h3⟩
    .trivial
    .rw[hno k hlt h1];exact⟨Nat.zero_le _,.inl ⟨rfl,rfl⟩⟩
    .rw[hyes k j h1];exact h3 (hm.ob j)
  ow:=λk hk=>by
   obtain⟨j,_,h2,h3⟩:=hsrc k hk;rw[h3];exact hm.ow j h2
  fz:=by rw[hmem];exact hm.fz
  sep:=λk hk=>by
   obtain⟨j,_,h2,h3⟩:=hsrc k hk;rw[h3,hmem];exact hm.sep j h2
  old:=by rw[hmem,hlo];exact hm.old
  env:=by rw[hmem];exact hm.env
  ab:=by
   have hab:∀k a,(canonH sos).get k=.abs a->∃j:Nat,src[k]?=some (some j)/\h.get j=.abs a/\ρ' k=ρ j:=λk a hk=>by
    rw[canonH_get]at hk;cases hs:sos[k]? with
    |none=>rw[hs]at hk;cases hk
    |some so=>
     rw[hs]at hk;have hk:so=.abs a:=hk;rcases hso k so hs with ⟨h1,rfl|⟨t,sz,el,rfl⟩⟩|⟨j,h1,h2,_⟩
     .cases hk
     .cases hk
     .exact⟨j,h1,h2.2 a hk,hyes k j h1⟩
   obtain⟨S,hS⟩:=hm.ab;refine⟨λk=>S (match src[k]? with|some (some j)=>j|_=>0),λk a hk=>?_⟩;obtain⟨j,h1,h2,h3⟩:=hab k a hk;simp only[h1];obtain⟨q1,q2⟩:=hS j a h2;rw[h3,hmem];refine⟨q1,λb hb=>?_⟩;obtain⟨r1,r2,r3,r4,r5⟩:=q2 b hb;refine⟨r1,r2,r3,λk' hk'=>?_,λk' a' hk' hb'=>?_⟩
   .obtain⟨j',_,h2',h3'⟩:=hsrc k' hk';rw[h3'];exact r4 j' h2'
   .obtain⟨j',h1',h2',h3'⟩:=hab k' a' hk';simp only[h1']at hb';have:=r5 j' a' h2' hb';subst this;exact hinj k k' j h1 h1'
  inj:=λk k' hk hk' he=>by
   obtain⟨j,h1,h2,h3⟩:=hsrc k hk;obtain⟨j',h1',h2',h3'⟩:=hsrc k' hk';rw[h3,h3']at he;have:=hm.inj j j' h2 h2' he;subst this;exact hinj k k' j h1 h1'}
end
end Go.Sx
