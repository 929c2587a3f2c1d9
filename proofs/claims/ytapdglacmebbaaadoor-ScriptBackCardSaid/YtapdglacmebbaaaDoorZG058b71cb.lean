/- Codecs: plain data as known values, and back. -/
import Derived.Test.YtapdglacmebbaaaDoorZG04ecae44
set_option linter.unusedVariables false
set_option linter.unusedSimpArgs false
set_option linter.constructorNameAsVariable false
set_option linter.all false

namespace Go.Sx
open Go.RowKit
def Cl(s:SV):Prop:=∀(n m:Nat)(ρ ρ':Rh)(x:Value),(∀b o,ρ.mem b=some o->ρ'.mem b=some o)->s.fit n ρ x->s.fit m ρ' x
def Cls(l:List SV):Prop:=∀(n m:Nat)(ρ ρ':Rh)(x:List Value),(∀b o,ρ.mem b=some o->ρ'.mem b=some o)->SV.fits n ρ l x->SV.fits m ρ' l x
def Pu(s:SV):Prop:=∀(n m:Nat)(ρ ρ':Rh)(x:Value),s.fit n ρ x->s.fit m ρ' x
def Pus(l:List SV):Prop:=∀(n m:Nat)(ρ ρ':Rh)(x:List Value),SV.fits n ρ l x->SV.fits m ρ' l x
theorem cl_v(x:Value):Cl (.v x):=λ_ _ _ _ _ _ h=>h
theorem pu_v(x:Value):Pu (.v x):=λ_ _ _ _ _ h=>h
theorem cls_nil:Cls []:=λ_ _ _ _ x _ h=>by have:=q0b h;subst this;trivial
theorem q8m:Pus []:=λ_ _ _ _ x h=>by have:=q0b h;subst this;trivial
theorem cls_cons{s:SV}{l:List SV}(h:Cl s)(h':Cls l):Cls (s::l):=λn m ρ ρ' x hm hf=>by
 obtain⟨y,r,rfl,hy,hr⟩:=q03 hf;exact⟨h n m ρ ρ' y hm hy,h' n m ρ ρ' r hm hr⟩
theorem q26{s:SV}{l:List SV}(h:Pu s)(h':Pus l):Pus (s::l):=λn m ρ ρ' x hf=>by
 obtain⟨y,r,rfl,hy,hr⟩:=q03 hf;exact⟨h n m ρ ρ' y hy,h' n m ρ ρ' r hr⟩
theorem cls_append:∀{l l':List SV},Cls l->Cls l'->Cls (l++l')
 | [],_,_,h'=>h'
 |s::l,l',h,h'=>λn m ρ ρ' x hm hf=>by
  have hl:x.length=l.length+1+l'.length:=by have:=q0a hf;simp at this;omega
  have h1:=q0g (l.length+1) hf;have h2:=q0f (l.length+1) hf;rw[show((s::l)++l').take (l.length+1)=s::l by simp]at h1;rw[show((s::l)++l').drop (l.length+1)=l' by simp]at h2;have:=q0j (h n m ρ ρ' _ hm h1) (h' n m ρ ρ' _ hm h2)
  rwa [List.take_append_drop]at this
theorem cl_agg{l:List SV}(h:Cls l):Cl (.agg l):=λn m ρ ρ' _ hm⟨v,e,hv⟩=>⟨v,e,h n m ρ ρ' v hm hv⟩
theorem cl_tup{l:List SV}(h:Cls l):Cl (.tup l):=λn m ρ ρ' _ hm⟨v,e,hv⟩=>⟨v,e,h n m ρ ρ' v hm hv⟩
theorem pu_agg{l:List SV}(h:Pus l):Pu (.agg l):=λn m ρ ρ' _⟨v,e,hv⟩=>⟨v,e,h n m ρ ρ' v hv⟩
theorem pu_tup{l:List SV}(h:Pus l):Pu (.tup l):=λn m ρ ρ' _⟨v,e,hv⟩=>⟨v,e,h n m ρ ρ' v hv⟩
theorem cl_rs{sz l:Nat}{el:Nat->List SV}(h:∀e,Cls (el e)):Cl (.rs sz l el):=λn m ρ ρ' x hm hf=>by
 simp only[SV.fit]at hf ⊢;obtain⟨a,c,e,h1,h2,h3⟩:=hf;refine⟨a,c,e,h1,h2,λhl=>?_⟩;obtain⟨b,o,cs,t,fz,k1,k2,k3⟩:=h3 hl;refine⟨b,o,cs,t,fz,k1,hm _ _ k2,λe he=>?_⟩;obtain⟨vs,q1,q2,q3⟩:=k3 e he;exact⟨vs,q1,h e n m ρ ρ' vs hm q2,q3⟩
theorem cl_rm{ks vs m:Nat}{ka va:Bool}{el:Nat->List SV}(h:∀e,Cls (el e)):Cl (.rm ks vs m ka va el):=λn n' ρ ρ' x hm hf=>by
 simp only[SV.fit]at hf ⊢;rcases hf with hf|⟨b,es,clk,k1,k2,k3,k4,k5⟩
 .exact .inl hf
 .refine .inr ⟨b,es,clk,k1,hm _ _ k2,k3,k4,λe he=>?_⟩;obtain⟨y,kc,vc,q1,q2,q3⟩:=k5 e he;exact⟨y,kc,vc,q1,h e n n' ρ ρ' _ hm q2,q3⟩
structure Dv(α:Type)where
 dec:SV->Option (α×List Prop)
 enc:α->SV
 bd:α->Prop
 cl:∀a,Cl (enc a)
 ok:∀(s:SV)(a:α)(ps:List Prop)(n:Nat)(ρ:Rh)(x:Value),dec s=some (a,ps)->(∀p∈ps,p)->s.fit n ρ x->(enc a).fit n ρ x
 fb:∀(a:α)(n:Nat)(ρ:Rh)(x:Value),(enc a).fit n ρ x->bd a
abbrev Dv.T{α:Type}(_:Dv α):Type:=α
def dInt(q:IntKind):Dv Int where
 dec s:=match s.int? with
  |some (_,q',n)=>bif decide (q=q')then some (n,[])else none
  |none=>none
 enc n:=.v (.int q n)
 bd _:=True
 cl _:=cl_v _
 ok s a ps n ρ x hd _ hf:=by
  split at hd
  .rename_i c q' i hs;cases hq:decide (q=q')with
   |false=>simp[hq]at hd
   |true=>
    simp only[hq,cond_true,Option.some.injEq,Prod.mk.injEq]at hd;rw[SV.int_fit hs hf,hd.1,of_decide_eq_true hq];simp[SV.fit]
  .cases hd
 fb _ _ _ _ _:=trivial
def dBool:Dv Bool where
 dec s:=match s.bool? with
  |some (_,b)=>some (b,[])
  |none=>none
 enc b:=.v (.bool b)
 bd _:=True
 cl _:=cl_v _
 ok s a ps n ρ x hd _ hf:=by
  split at hd
  .rename_i c b hs;simp only[Option.some.injEq,Prod.mk.injEq]at hd;rw[SV.bool_fit hs hf,hd.1];simp[SV.fit]
  .cases hd
 fb _ _ _ _ _:=trivial
def dStr:Dv ByteArray where
 dec s:=match s.str? with
  |some (_,b)=>some (b,[])
  |none=>none
 enc b:=.v (.string b)
 bd _:=True
 cl _:=cl_v _
 ok s a ps n ρ x hd _ hf:=by
  split at hd
  .rename_i c b hs;simp only[Option.some.injEq,Prod.mk.injEq]at hd;rw[SV.str_fit hs hf,hd.1];simp[SV.fit]
  .cases hd
 fb _ _ _ _ _:=trivial
structure El(α:Type)where
 sz:Nat
 cells:α->List SV
 decs:List SV->Option (α×List Prop)
 dflt:α
 bd:α->Prop
 dec_cells:∀a,∃ps,decs (cells a)=some (a,ps)/\∀p∈ps,p
 len:∀a,(cells a).length=sz
 one:∀a,(cells a).all SV.one=true
 cl:∀a,Cls (cells a)
 ok:∀(l:List SV)(a:α)(ps:List Prop)(n:Nat)(ρ:Rh)(x:List Value),decs l=some (a,ps)->(∀p∈ps,p)->SV.fits n ρ l x->SV.fits n ρ (cells a) x
 fb:∀(a:α)(n:Nat)(ρ:Rh)(x:List Value),SV.fits n ρ (cells a) x->bd a
def El.one'{α:Type}(D:Dv α)(d:α)(h1:∀a,(D.enc a).one=true)(h2:∀a,∃ps,D.dec (D.enc a)=some (a,ps)/\∀p∈ps,p):El α where
 sz:=1
 cells a:=[D.enc a]
 decs l:=match l with
  | [s]=>D.dec s
  |_=>none
 dflt:=d
 bd:=D.bd
 dec_cells a:=h2 a
 len _:=rfl
 one a:=by simp[h1]
 cl a:=cls_cons (D.cl a) cls_nil
 ok l a ps n ρ x hd hp hf:=by
  split at hd
  .obtain⟨y,r,rfl,hy,hr⟩:=q03 hf;exact⟨D.ok _ _ _ _ _ _ hd hp hy,hr⟩
  .cases hd
 fb a n ρ x hf:=by
  obtain⟨y,r,rfl,hy,hr⟩:=q03 hf;exact D.fb _ _ _ _ hy
def eInt(q:IntKind):El Int:=.one' (dInt q) 0 (λ_=>rfl) λa=>⟨[],by simp[dInt,SV.int?],by simp⟩
def eBool:El Bool:=.one' dBool false (λ_=>rfl) λa=>⟨[],by simp[dBool,SV.bool?],by simp⟩
def eStr:El ByteArray:=.one' dStr ByteArray.empty (λ_=>rfl) λa=>⟨[],by simp[dStr,SV.str?],by simp⟩
def El.pair{α β:Type}(A:El α)(B:El β):El (α×β) where
 sz:=A.sz+B.sz
 cells a:=A.cells a.1++B.cells a.2
 decs l:=match A.decs (l.take A.sz)with
  |some (a,ps)=>match B.decs (l.drop A.sz)with
   |some (b,qs)=>some ((a,b),ps++qs)
   |none=>none
  |none=>none
 dflt:=(A.dflt,B.dflt)
 bd a:=A.bd a.1/\B.bd a.2
 dec_cells a:=by
  obtain⟨ps,h1,h2⟩:=A.dec_cells a.1;obtain⟨qs,k1,k2⟩:=B.dec_cells a.2;refine⟨ps++qs,?_,λp hp=>?_⟩
  .rw[List.take_left' (A.len _),List.drop_left' (A.len _),h1];simp only[k1]
  .rcases List.mem_append.1 hp with hp|hp
   .exact h2 p hp
   .exact k2 p hp
 len a:=by simp[A.len,B.len]
 one a:=by simp only[List.all_append,A.one,B.one,Bool.and_self]
 cl a:=cls_append (A.cl _) (B.cl _)
 ok l a ps n ρ x hd hp hf:=by
  split at hd
  .rename_i a0 ps0 h1;split at hd
   .rename_i b0 qs0 h2;simp only[Option.some.injEq,Prod.mk.injEq]at hd;obtain⟨rfl,rfl⟩:=hd;have f1:=A.ok _ _ _ _ _ _ h1 (λp hp'=>hp p (List.mem_append_left _ hp')) (q0g A.sz hf);have f2:=B.ok _ _ _ _ _ _ h2 (λp hp'=>hp p (List.mem_append_right _ hp')) (q0f A.sz hf);have:=q0j f1 f2
    rwa [List.take_append_drop]at this
   .cases hd
  .cases hd
 fb a n ρ x hf:=by
  have h1:=q0g A.sz hf;have h2:=q0f A.sz hf;rw[List.take_left' (A.len _)]at h1;rw[List.drop_left' (A.len _)]at h2;exact⟨A.fb _ _ _ _ h1,B.fb _ _ _ _ h2⟩
def El.iso{α β:Type}(A:El α)(f:α->β)(g:β->α)(hfg:∀b,f (g b)=b)(hgf:∀a,g (f a)=a):El β where
 sz:=A.sz
 cells b:=A.cells (g b)
 decs l:=match A.decs l with
  |some (a,ps)=>some (f a,ps)
  |none=>none
 dflt:=f A.dflt
 bd b:=A.bd (g b)
 dec_cells b:=by
  obtain⟨ps,h1,h2⟩:=A.dec_cells (g b);exact⟨ps,by simp only[h1,hfg],h2⟩
 len b:=A.len _
 one b:=A.one _
 cl b:=A.cl _
 ok l b ps n ρ x hd hp hf:=by
  split at hd
  .rename_i a0 ps0 h1;simp only[Option.some.injEq,Prod.mk.injEq]at hd;obtain⟨rfl,rfl⟩:=hd;rw[hgf];exact A.ok _ _ _ _ _ _ h1 hp hf
  .cases hd
 fb b n ρ x hf:=A.fb _ _ _ _ hf
def Dv.agg{α:Type}(A:El α):Dv α where
 dec s:=match s.agg? with
  |some l=>A.decs l
  |none=>none
 enc a:=.agg (A.cells a)
 bd:=A.bd
 cl a:=cl_agg (A.cl a)
 ok s a ps n ρ x hd hp hf:=by
  split at hd
  .rename_i l hl;obtain⟨v,rfl,hv⟩:=SV.agg_fit hl hf;exact⟨v,rfl,A.ok _ _ _ _ _ _ hd hp hv⟩
  .cases hd
 fb a n ρ x hf:=by
  obtain⟨v,rfl,hv⟩:=hf;exact A.fb _ _ _ _ hv
section
variable{α:Type}(A:El α)
def El.els(xs:List α):Nat->List SV:=λe=>A.cells (xs.getD e A.dflt)
def El.get(l:List SV):α:=
 match A.decs l with
 |some (a,_)=>a
 |none=>A.dflt
def El.lst(n:Nat)(el:Nat->List SV):List α:=(List.range n).map λe=>A.get (el e)
def El.Ok(l:List SV):Prop:=∃a ps,A.decs l=some (a,ps)/\∀p∈ps,p
theorem El.ok_cells(a:α):A.Ok (A.cells a):=by
 obtain⟨ps,h1,h2⟩:=A.dec_cells a;exact⟨a,ps,h1,h2⟩
theorem El.get_cells(a:α):A.get (A.cells a)=a:=by
 obtain⟨ps,h1,h2⟩:=A.dec_cells a;simp only[El.get,h1]
theorem El.lst_length(n:Nat)(el:Nat->List SV):(A.lst n el).length=n:=by simp[El.lst]
theorem El.ok_els(xs:List α)(e:Nat):A.Ok (A.els xs e):=A.ok_cells _
theorem El.one_els(xs:List α)(e:Nat):(A.els xs e).all SV.one=true:=A.one _
theorem El.lst_getD(n:Nat)(el:Nat->List SV)(e:Nat)(he:e<n):(A.lst n el).getD e A.dflt=A.get (el e):=by
 simp[El.lst,List.getD_eq_getElem?_getD,he]
theorem El.lst_els(xs:List α):A.lst xs.length (A.els xs)=xs:=by
 apply List.ext_getElem
 .simp[El.lst]
 .intro i h1 h2;simp[El.lst,El.els,El.get_cells,h2]
theorem El.lst_sh(k n:Nat)(xs:List α)(h:k+n<=xs.length):A.lst n (shEl k (A.els xs))=(xs.drop k).take n:=by
 apply List.ext_getElem
 .simp[El.lst];omega
 .intro i h1 h2;have:k+i<xs.length:=by simp at h2;omega
  simp[El.lst,El.els,shEl,El.get_cells,this]
def El.OkP(l:List SV):Prop:=
 match A.decs l with
 |some (_,[])=>True
 |some (_,ps)=>∀p∈ps,p
 |none=>False
theorem El.okP{l:List SV}(h:A.OkP l):A.Ok l:=by
 unfold El.OkP at h;split at h
 .rename_i a hd;exact⟨a,[],hd,by simp⟩
 .rename_i a ps _ hd;exact⟨a,ps,hd,h⟩
 .exact h.elim
def El.lstE:Nat->ElE->List α
 |n,.fn f=>A.lst n f
 |n,.set e ys r=>(El.lstE n r).set e (A.get ys)
 |n,.put e o ys r=>(El.lstE n r).set e (A.get ((r.at e).take o++ys++(r.at e).drop (o+ys.length)))
 |n,.app l a b=>El.lstE (min n l) a++El.lstE (n-l) b
 |n,.sh k r=>(El.lstE (k+n) r).drop k
 |n,.cond z a b=>bif z then El.lstE n a else El.lstE n b
theorem El.lstE_eq:∀(n:Nat)(E:ElE),A.lstE n E=A.lst n E.at
 |n,.fn f=>rfl
 |n,.set e ys r=>by
  simp only[El.lstE];rw[El.lstE_eq n r];apply List.ext_getElem
  .simp[El.lst]
  .intro i h1 h2;simp only[El.lst,List.getElem_map,List.getElem_range,List.getElem_set,ElE.at];by_cases h:i=e
   .subst h;simp
   .rw[if_neg h,if_neg (λh'=>h h'.symm)]
 |n,.put e o ys r=>by
  simp only[El.lstE];rw[El.lstE_eq n r];apply List.ext_getElem
  .simp[El.lst]
  .intro i h1 h2;simp only[El.lst,List.getElem_map,List.getElem_range,List.getElem_set,ElE.at];by_cases h:i=e
   .subst h;simp
   .rw[if_neg h,if_neg (λh'=>h h'.symm)]
 |n,.app l a b=>by
  simp only[El.lstE];rw[El.lstE_eq _ a,El.lstE_eq _ b];apply List.ext_getElem
  .simp[El.lst];omega
  .intro i h1 h2;simp only[El.lst,List.getElem_map,List.getElem_range,ElE.at,List.getElem_append,List.length_map,List.length_range];have hn:i<n:=by simpa [El.lst]using h2
   by_cases h:i<l
   .rw[dif_pos (by omega),if_pos h]
   .rw[dif_neg (by omega),if_neg h];congr 2;omega
 |n,.sh k r=>by
  simp only[El.lstE];rw[El.lstE_eq _ r];apply List.ext_getElem
  .simp[El.lst]
  .intro i h1 h2;simp[El.lst,ElE.at]
 |n,.cond z a b=>by
  simp only[El.lstE];rw[El.lstE_eq n a,El.lstE_eq n b];cases z<;>rfl
def El.okE:Nat->ElE->List Prop
 |n,.fn f=>[∀e,e<n->A.OkP (f e)]
 |n,.set _ ys r=>A.OkP ys::El.okE n r
 |n,.put e o ys r=>A.OkP ((r.at e).take o++ys++(r.at e).drop (o+ys.length))::El.okE n r
 |n,.app l a b=>El.okE (min n l) a++El.okE (n-l) b
 |n,.sh k r=>El.okE (k+n) r
 |n,.cond _ a b=>El.okE n a++El.okE n b
theorem El.okE_ok:∀(n:Nat)(E:ElE),(∀p∈A.okE n E,p)->∀e,e<n->A.Ok (E.at e)
 |n,.fn f,h,e,he=>A.okP (h _ (List.mem_cons_self ..) e he)
 |n,.set e0 ys r,h,e,he=>by
  simp only[ElE.at];split
  .exact A.okP (h _ (List.mem_cons_self ..))
  .exact El.okE_ok n r (λp hp=>h p (List.mem_cons_of_mem _ hp)) e he
 |n,.put e0 o ys r,h,e,he=>by
  simp only[ElE.at];split
  .rename_i hee;subst hee;exact A.okP (h _ (List.mem_cons_self ..))
  .exact El.okE_ok n r (λp hp=>h p (List.mem_cons_of_mem _ hp)) e he
 |n,.app l a b,h,e,he=>by
  simp only[ElE.at];split
  .exact El.okE_ok _ a (λp hp=>h p (List.mem_append_left _ hp)) e (by omega)
  .exact El.okE_ok _ b (λp hp=>h p (List.mem_append_right _ hp)) _ (by omega)
 |n,.sh k r,h,e,he=>El.okE_ok (k+n) r h (k+e) (by omega)
 |n,.cond z a b,h,e,he=>by
  simp only[ElE.at];cases z with
  |true=>exact El.okE_ok n a (λp hp=>h p (List.mem_append_left _ hp)) e he
  |false=>exact El.okE_ok n b (λp hp=>h p (List.mem_append_right _ hp)) e he
end
def Dv.list{α:Type}(A:El α):Dv (List α) where
 dec s:=match s with
  | .rs sz n el=>bif Nat.beq sz A.sz then some (A.lst n el,[∀e,e<n->A.Ok (el e)])else none
  | .k y=>bif nilK y then some ([],[])else none
  |_=>none
 enc xs:=.rs A.sz xs.length (A.els xs)
 bd xs:=xs.length<=maxLen/\∀a∈xs,A.bd a
 cl xs:=cl_rs λe=>A.cl _
 ok s a ps n ρ x hd hp hf:=by
  split at hd
  .rename_i sz m el;cases hb:Nat.beq sz A.sz with
   |false=>rw[hb]at hd;cases hd
   |true=>
    rw[hb]at hd;simp only[cond_true,Option.some.injEq,Prod.mk.injEq]at hd;obtain⟨rfl,rfl⟩:=hd;have hk:=hp _ (List.mem_cons_self ..);have:=q02 hb;subst this;simp only[SV.fit]at hf ⊢;rw[A.lst_length];obtain⟨p,c,h0,h1,h2,h3⟩:=hf;refine⟨p,c,h0,h1,h2,λhl=>?_⟩;obtain⟨b,o,cs,t,fz,k1,k2,k3⟩:=h3 hl;refine⟨b,o,cs,t,fz,k1,k2,λe he=>?_⟩;obtain⟨vs,q1,q2,q3⟩:=k3 e he;refine⟨vs,q1,?_,q3⟩;simp only[El.els];rw[A.lst_getD _ _ _ he];obtain⟨a,ps,d1,d2⟩:=hk e he;have:=A.ok _ _ _ _ _ _ d1 d2 q2;simpa only [El.get,d1]using this
  .rename_i y;cases hb:nilK y with
   |false=>rw[hb]at hd;cases hd
   |true=>
    rw[hb]at hd;simp only[cond_true,Option.some.injEq,Prod.mk.injEq]at hd;obtain⟨rfl,rfl⟩:=hd;have:=q8n hb;subst this;simp only[SV.fit]at hf;subst hf;exact rs_nil _ _
  .cases hd
 fb xs n ρ x hf:=by
  simp only[SV.fit]at hf;obtain⟨p,c,h0,h1,h2,h3⟩:=hf;refine⟨by omega,λa ha=>?_⟩;obtain⟨i,hi,rfl⟩:=List.getElem_of_mem ha;obtain⟨b,o,cs,t,fz,k1,k2,k3⟩:=h3 (by omega);obtain⟨vs,q1,q2,q3⟩:=k3 i hi;have:=A.fb _ _ _ _ q2;simpa [List.getD_eq_getElem?_getD,hi]using this
def nilM:Value->Bool
 | .map none=>true
 |_=>false
theorem nilM_eq{y:Value}(h:nilM y=true):y=.map none:=by
 unfold nilM at h;split at h
 .rfl
 .cases h
def Dv.map{α β:Type}(ka va:Bool)(K:El α)(V:El β):Dv (List (α×β)) where
 dec s:=match s with
  | .rm ks vs m ka' va' el=>bif Nat.beq ks K.sz&&(Nat.beq vs V.sz&&(ka==ka'&&va==va'))then some ((El.pair K V).lst m el,[∀e,e<m->(El.pair K V).Ok (el e)])else none
  | .k y=>bif nilM y then some ([],[])else none
  |_=>none
 enc xs:=.rm K.sz V.sz xs.length ka va ((El.pair K V).els xs)
 bd xs:=∀a∈xs,(El.pair K V).bd a
 cl xs:=cl_rm λe=>(El.pair K V).cl _
 ok s a ps n ρ x hd hp hf:=by
  split at hd
  .rename_i ks vs m ka' va' el;cases hb:Nat.beq ks K.sz&&(Nat.beq vs V.sz&&(ka==ka'&&va==va'))with
   |false=>rw[hb]at hd;cases hd
   |true=>
    rw[hb]at hd;simp only[cond_true,Option.some.injEq,Prod.mk.injEq]at hd;obtain⟨rfl,rfl⟩:=hd;have hk:=hp _ (List.mem_cons_self ..);simp only[Bool.and_eq_true,beq_iff_eq]at hb;obtain⟨b1,b2,b3,b4⟩:=hb;have e1:=q02 b1;have e2:=q02 b2;subst e1;subst e2;subst b3;subst b4;simp only[SV.fit]at hf ⊢;rw[El.lst_length];rcases hf with hf|⟨b,es,clk,k1,k2,k3,k4,k5⟩
    .exact .inl hf
    .refine .inr ⟨b,es,clk,k1,k2,k3,k4,λe he=>?_⟩;obtain⟨y,kc,vc,q1,q2,q3⟩:=k5 e he;refine⟨y,kc,vc,q1,?_,q3⟩;simp only[El.els];rw[El.lst_getD _ _ _ _ he];obtain⟨a,ps,d1,d2⟩:=hk e he;have:=(El.pair K V).ok _ _ _ _ _ _ d1 d2 q2;simpa only [El.get,d1]using this
  .rename_i y;cases hb:nilM y with
   |false=>rw[hb]at hd;cases hd
   |true=>
    rw[hb]at hd;simp only[cond_true,Option.some.injEq,Prod.mk.injEq]at hd;obtain⟨rfl,rfl⟩:=hd;have:=nilM_eq hb;subst this;simp only[SV.fit]at hf ⊢;exact .inl ⟨hf,rfl⟩
  .cases hd
 fb xs n ρ x hf:=by
  simp only[SV.fit]at hf;intro a ha;obtain⟨i,hi,rfl⟩:=List.getElem_of_mem ha;rcases hf with ⟨_,hf⟩|⟨b,es,clk,k1,k2,k3,k4,k5⟩
  .omega
  .obtain⟨y,kc,vc,q1,q2,q3⟩:=k5 i hi;have:=(El.pair K V).fb _ _ _ _ q2;simpa [List.getD_eq_getElem?_getD,hi]using this
def eList{α:Type}(A:El α):El (List α):=.one' (.list A) [] (λ_=>rfl) λxs=>⟨[∀e,e<xs.length->A.Ok (A.els xs e)],by simp[Dv.list,A.lst_els],by
 intro p hp;simp only[List.mem_singleton]at hp;subst hp;exactλe _=>A.ok_els xs e⟩
structure DA(γ:Type)where
 dec:List SV->Option (γ×List Prop)
 enc:γ->List SV
 bd:γ->Prop
 cl:∀g,Cls (enc g)
 ok:∀(l:List SV)(g:γ)(ps:List Prop)(n:Nat)(ρ:Rh)(x:List Value),dec l=some (g,ps)->(∀p∈ps,p)->SV.fits n ρ l x->SV.fits n ρ (enc g) x
 fb:∀(g:γ)(n:Nat)(ρ:Rh)(x:List Value),SV.fits n ρ (enc g) x->bd g
abbrev DA.T{γ:Type}(_:DA γ):Type:=γ
def DA.none:DA Unit where
 dec l:=match l with
  | []=>some ((),[])
  |_=>Option.none
 enc _:=[]
 bd _:=True
 cl _:=cls_nil
 ok l g ps n ρ x hd hp hf:=by
  split at hd
  .exact hf
  .cases hd
 fb _ _ _ _ _:=trivial
def DA.one{α:Type}(A:Dv α):DA α where
 dec l:=match l with
  | [s]=>A.dec s
  |_=>Option.none
 enc a:=[A.enc a]
 bd:=A.bd
 cl a:=cls_cons (A.cl a) cls_nil
 ok l a ps n ρ x hd hp hf:=by
  split at hd
  .obtain⟨y,r,rfl,hy,hr⟩:=q03 hf;exact⟨A.ok _ _ _ _ _ _ hd hp hy,hr⟩
  .cases hd
 fb a n ρ x hf:=by
  obtain⟨y,r,rfl,hy,hr⟩:=q03 hf;exact A.fb _ _ _ _ hy
def DA.cons{α γ:Type}(A:Dv α)(D:DA γ):DA (α×γ) where
 dec l:=match l with
  |s::r=>match A.dec s with
   |some (a,ps)=>match D.dec r with
    |some (g,qs)=>some ((a,g),ps++qs)
    |Option.none=>Option.none
   |Option.none=>Option.none
  | []=>Option.none
 enc g:=A.enc g.1::D.enc g.2
 bd g:=A.bd g.1/\D.bd g.2
 cl g:=cls_cons (A.cl _) (D.cl _)
 ok l g ps n ρ x hd hp hf:=by
  split at hd
  .rename_i s r;split at hd
   .rename_i a ps0 h1;split at hd
    .rename_i g0 qs0 h2;simp only[Option.some.injEq,Prod.mk.injEq]at hd;obtain⟨rfl,rfl⟩:=hd;obtain⟨y,r',rfl,hy,hr⟩:=q03 hf;exact⟨A.ok _ _ _ _ _ _ h1 (λp hp'=>hp p (List.mem_append_left _ hp')) hy,D.ok _ _ _ _ _ _ h2 (λp hp'=>hp p (List.mem_append_right _ hp')) hr⟩
    .cases hd
   .cases hd
  .cases hd
 fb g n ρ x hf:=by
  obtain⟨y,r,rfl,hy,hr⟩:=q03 hf;exact⟨A.fb _ _ _ _ hy,D.fb _ _ _ _ hr⟩
def Dv.tup{γ:Type}(D:DA γ):Dv γ where
 dec s:=match s with
  | .tup l=>D.dec l
  |_=>none
 enc g:=.tup (D.enc g)
 bd:=D.bd
 cl g:=cl_tup (D.cl g)
 ok s a ps n ρ x hd hp hf:=by
  split at hd
  .obtain⟨v,rfl,hv⟩:=hf;exact⟨v,rfl,D.ok _ _ _ _ _ _ hd hp hv⟩
  .cases hd
 fb g n ρ x hf:=by
  obtain⟨v,rfl,hv⟩:=hf;exact D.fb _ _ _ _ hv
end Go.Sx

namespace Go.Sx
open Go.RowKit
inductive PO where
 |cells (xs:List SV) (t:TypeId)
 |row (t:TypeId) (sz:Nat) (el:ElE) (m:Nat)
 |map (ks vs:Nat) (ka va:Bool) (el:ElE) (m clk:Nat)
 |dead
def PO.fit(n:Nat)(ρ:Rh)(L:Lc):PO->Option Obj->Prop
 | .cells xs t,o=>L.nl=false/\L.off=0/\∃l,o=some (.cells (List.toArray l) t (0,0))/\SV.fits n ρ xs l
 | .row t sz el m,o=>m<=maxLen/\((L.nl=true/\m=0)\/(L.nl=false/\L.off=0/\∃c fz,o=some (.cells c t fz)/\OkFz fz c.size/\c.size=L.cap*sz/\m<=L.cap/\L.cap<=maxLen/\Els n ρ 0 sz el m c))
 | .map ks vs ka va el m clk,o=>L.nl=false/\L.off=0/\(∃es,o=some (.map es clk)/\es.size=m/\Stp es clk/\∀e,e<m->∃y kc vc,es[e]?=some y/\SV.fits n ρ (el e) (kc++(vc++[.int .i64 (y.born:Int)]))/\kc.length=ks/\vc.length=vs/\y.key=unval ka kc/\y.val=unval va vc)/\(false=true->∃j ys r,el=.set j ys r/\j<m)
 | .dead,_=>True
def PO.own(L:Lc):PO->Prop
 | .cells .. | .map ..=>True
 | .row ..=>L.nl=false
 | .dead=>False
theorem PO.fit_mono{n m:Nat}{ρ ρ':Rh}(hnm:n<=m)(ha:Agr n ρ ρ'){s:PO}{o:Option Obj}{L:Lc}(h:s.fit n ρ L o):s.fit m ρ' L o:=by
 cases s with
 |cells xs t=>obtain⟨hz,hb,l,hl,hf⟩:=h;exact⟨hz,hb,l,hl,SV.fits_mono0 hnm ha _ _ hf⟩
 |row t sz el k=>
  refine⟨h.1,?_⟩;rcases h.2 with h|⟨h1,h2,c,fz,hc,h6,h3,h4,h5,hall⟩
  .exact .inl h
  .exact .inr ⟨h1,h2,c,fz,hc,h6,h3,h4,h5,hall.mono0 hnm ha⟩
 |map ks vs ka va el m clk=>
  obtain⟨h1,h2,⟨es,h3,h4,h5,h6⟩,h7⟩:=h;refine⟨h1,h2,⟨es,h3,h4,h5,λe he=>?_⟩,h7⟩;obtain⟨y,kc,vc,q1,q2,q3⟩:=h6 e he;exact⟨y,kc,vc,q1,SV.fits_mono0 hnm ha _ _ q2,q3⟩
 |dead=>trivial
theorem PO.fit_none{n:Nat}{ρ:Rh}{L:Lc}{s:PO}{o o':Option Obj}(h:s.fit n ρ L o)(h1:¬s.own L):s.fit n ρ L o':=by
 cases s with
 |cells xs t=>exact absurd trivial h1
 |row t sz el k=>
  refine⟨h.1,?_⟩;rcases h.2 with h|⟨h3,_⟩
  .exact .inl h
  .exact absurd h3 h1
 |map=>exact absurd trivial h1
 |dead=>trivial
structure Lay(pos:List PO)(ρ:Rh)(L:Lc)(S:Nat->Prop)(H:Nat->Option Obj):Prop where
 root:∃xs t,pos[0]?=some (.cells xs t)
 r0:ρ 0=L
 fit:∀(k:Nat)(p:PO),pos[k]?=some p->p.fit pos.length ρ (ρ k) (H (ρ k).blk)
 inj:∀(k k':Nat)(p p':PO),pos[k]?=some p->pos[k']?=some p'->p.own (ρ k)->p'.own (ρ k')->(ρ k).blk=(ρ k').blk->k=k'
 has:∀b,S b↔∃(k:Nat)(p:PO),0<k/\pos[k]?=some p/\p.own (ρ k)/\(ρ k).blk=b
open Classical in
theorem Lay.cl{pos:List PO}{ρ:Rh}{L:Lc}{S:Nat->Prop}{H H' F':Nat->Option Obj}(hl:Lay pos ρ L S H)(h1:∀b,b=L.blk\/S b->H' b=H b)(h2:∀b o,ρ.mem b=some o->dataO o->F' b=some o):Lay pos ⟨ρ.lc,F',ρ.lo⟩ L S H' where
 root:=hl.root
 r0:=hl.r0
 fit k p hp:=by
  have hf:=PO.fit_mono (ρ:=ρ) (ρ':=⟨ρ.lc,F',ρ.lo⟩) (Nat.le_refl _) ⟨λ_ _=>rfl,h2⟩ (hl.fit k p hp);by_cases ho:p.own (ρ k)
  .rw[show(⟨ρ.lc,F',ρ.lo⟩:Rh) k=ρ k from rfl,h1 (ρ k).blk ?_]
   .exact hf
   .by_cases hk:k=0
    .subst hk;rw[hl.r0];exact .inl rfl
    .exact .inr ((hl.has _).2 ⟨k,p,by omega,hp,ho,rfl⟩)
  .exact PO.fit_none hf ho
 inj:=hl.inj
 has:=hl.has
end Go.Sx

namespace Go.Sx
open Go.RowKit
variable[Env]
def vw0(h:SH):SV->SV×List Prop
 | .ow i l=>match h.get i with
  | .row _ sz el m=>(.rs sz l el,[l<=m])
  |_=>(.ow i l,[])
 | .se i sz o l=>match h.get i with
  | .row _ s el m=>bif Nat.beq s sz then(.rs sz l (ElE.sh o el),[o+l<=m])else(.u,[])
  |_=>(.se i sz o l,[])
 | .sl i o l c=>match h.get i with
  | .cells xs _=>bif Nat.ble l c&&(Nat.ble c 16777216&&Nat.ble (o+l*((xs.length-o)/c)) xs.length)then(.rs ((xs.length-o)/c) l (λe=>(xs.drop (o+e*((xs.length-o)/c))).take ((xs.length-o)/c)),[])else(.u,[])
  |_=>(.sl i o l c,[])
 | .mp i=>match h.get i with
  | .map ks vs ka va el m _ _=>(.rm ks vs m ka va (λe=>(el e).take (ks+vs)),[])
  |_=>(.mp i,[])
 |s=>(s,[])
def mapV(f:SV->SV×List Prop):List SV->List SV×List Prop
 | []=>([],[])
 |s::r=>((f s).1::(mapV f r).1,(f s).2++(mapV f r).2)
def vw1(h:SH):SV->SV×List Prop
 | .p i o=>match h.get i with
  | .cells xs _=>(.pr (mapV (vw0 h) (xs.drop o)).1,(mapV (vw0 h) (xs.drop o)).2)
  |_=>(.p i o,[])
 |s=>vw0 h s
def vw2(h:SH):SV->SV×List Prop
 | .fn f cs=>(.fn f (mapV (vw1 h) cs).1,(mapV (vw1 h) cs).2)
 |s=>vw1 h s
def vws(h:SH):List SV->List SV×List Prop:=mapV (vw2 h)
def vw(h:SH):SV->SV×List Prop
 | .tup xs=>(.tup (vws h xs).1,(vws h xs).2)
 | .agg xs=>(.agg (vws h xs).1,(vws h xs).2)
 |s=>vw2 h s
def vwA(h:SH):List SV->List SV×List Prop
 | []=>([],[])
 |s::r=>((vw h s).1::(vwA h r).1,(vw h s).2++(vwA h r).2)
section
variable{P:Program}{M:Nat->Prop}{w0 w:World}{ρ:Rh}{h:SH}
theorem vw0_ok(hm:HM M w0 ρ h w){G:Nat->Option Obj}(hG:∀b o,ρ.mem b=some o->G b=some o)(hO:∀i o,(h.get i).own (ρ i)->w.heap[(ρ i).blk]?=some o->G (ρ i).blk=some o)
  {s:SV} {x:Value} (hf:s.fit h.nx ρ x) (hp:∀p∈(vw0 h s).2,p):(vw0 h s).1.fit h.nx ⟨ρ.lc,G,ρ.lo⟩ x:=by
 have hag:Agree h.nx ρ ⟨ρ.lc,G,ρ.lo⟩:=⟨λ_ _=>rfl,hG,rfl⟩;have mono:∀{s:SV}{x:Value},s.fit h.nx ρ x->s.fit h.nx ⟨ρ.lc,G,ρ.lo⟩ x:=λ{s x}hf=>SV.fit_mono (Nat.le_refl _) hag s x hf;generalize hr:vw0 h s=r at hp ⊢;unfold vw0 at hr;split at hr
 .rename_i i l;split at hr
  .rename_i t sz el m hg;subst hr;have hl:l<=m:=hp _ (List.mem_cons_self ..);have hob:=hm.ob i;have hown:=hO i;rw[hg]at hob hown;obtain⟨hil,⟨hnl,rfl,ad,rfl⟩|⟨hnl,hlc,rfl⟩⟩:=hf
   .exact rs_nil0 _ _ _
   .rcases hob.2 with ⟨hnl',_⟩|⟨_,hoff,c,fz,hob',_,hcs,hmc,hcm,hall⟩
    .rw[hnl]at hnl';cases hnl'
    .refine⟨_,_,rfl,hlc,by omega,λ_=>⟨_,0,c,t,fz,rfl,hown _ hnl hob',λe he=>?_⟩⟩;obtain⟨vs,q1,q2,q3⟩:=hall e (by omega);exact⟨vs,q1,SV.fits_mono (Nat.le_refl _) hag _ _ q2,q3⟩
  .subst hr;exact mono hf
 .rename_i i sz o l;split at hr
  .rename_i t s el m hg;cases hb:Nat.beq s sz with
   |false=>rw[hb]at hr;subst hr;trivial
   |true=>
    rw[hb]at hr;subst hr;have:=q02 hb;subst this;have hl:o+l<=m:=hp _ (List.mem_cons_self ..);have hob:=hm.ob i;have hown:=hO i;rw[hg]at hob hown;obtain⟨hil,a,c,rfl,hlc,hcm,hadr⟩:=hf;refine⟨a,c,rfl,hlc,hcm,λhpos=>?_⟩;rcases hob.2 with ⟨hnl',h0⟩|⟨hnl,hoff,c',fz,hob',_,hcs,hmc,hcm',hall⟩
    .omega
    .refine⟨_,(ρ i).off+o*s,c',t,fz,hadr hpos,hown _ hnl hob',λe he=>?_⟩;obtain⟨vs,q1,q2,q3⟩:=hall (o+e) (by omega);refine⟨vs,q1,SV.fits_mono (Nat.le_refl _) hag _ _ q2,λj v hv=>?_⟩;have:=q3 j v hv;rw[Nat.add_mul]at this;rw[hoff];simpa [Nat.add_assoc]using this
  .subst hr;exact mono hf
 .rename_i i o l c;split at hr
  .rename_i xs t hg;cases hb:Nat.ble l c&&(Nat.ble c 16777216&&Nat.ble (o+l*((xs.length-o)/c)) xs.length)with
   |false=>rw[hb]at hr;subst hr;trivial
   |true=>
    rw[hb]at hr;subst hr;simp only[Bool.and_eq_true]at hb;have b1:=Nat.le_of_ble_eq_true hb.1;have b2:=Nat.le_of_ble_eq_true hb.2.1;have b3:=Nat.le_of_ble_eq_true hb.2.2;generalize (xs.length-o)/c=sz at b3 ⊢;have hob:=hm.ob i;have hown:=hO i;rw[hg]at hob hown;obtain⟨hil,rfl⟩:=hf;obtain⟨_,hoff,v,hob',hfl⟩:=hob;have hll:=q0a hfl;refine⟨_,_,rfl,b1,by unfold maxLen;omega,λ_=>⟨_,_,v.toArray,t,(0,0),rfl,hown _ trivial hob',λe he=>?_⟩⟩
    have hle:o+e*sz+sz<=xs.length:=by
     have:=Nat.mul_le_mul_right sz (show e+1<=l by omega);rw[Nat.add_mul,Nat.one_mul]at this;omega
    refine⟨(v.drop (o+e*sz)).take sz,by simp;omega,SV.fits_mono (Nat.le_refl _) hag _ _ (q0g _ (q0f _ hfl)),λj y hy=>?_⟩;rw[List.getElem?_take]at hy;split at hy
    .rw[List.getElem?_drop]at hy;rw[hoff];simpa [Nat.add_assoc]using hy
    .cases hy
  .subst hr;exact mono hf
 .rename_i i;split at hr
  .rename_i ks vs ka va el m clk pd hg;subst hr;have hob:=hm.ob i;have hown:=hO i;rw[hg]at hob hown;obtain⟨hil,rfl⟩:=hf;obtain⟨_,_,⟨es,h3,h4,h5,h6⟩,_⟩:=hob;refine .inr ⟨_,es,clk,rfl,hown _ trivial h3,h4,h5,λe he=>?_⟩;obtain⟨y,kc,vc,q1,q2,q3,q4,q5⟩:=h6 e he;refine⟨y,kc,vc,q1,?_,q3,q4,q5⟩;have:=q0g (ks+vs) q2;rw[show(kc++(vc++[Value.int .i64 (y.born:Int)])).take (ks+vs)=kc++vc by rw[<-List.append_assoc];exact List.take_left' (by simp;omega)]at this;exact SV.fits_mono (Nat.le_refl _) hag _ _ this
  .subst hr;exact mono hf
 .subst hr;exact mono hf
theorem mapV_ok{n m:Nat}{ρ ρ':Rh}{f:SV->SV×List Prop}(hf:∀s x,s.fit n ρ x->(∀p∈(f s).2,p)->(f s).1.fit m ρ' x):
  ∀{s:List SV}{x:List Value},SV.fits n ρ s x->(∀p∈(mapV f s).2,p)->SV.fits m ρ' (mapV f s).1 x
 | [],x,hx,_=>by have:=q0b hx;subst this;trivial
 |s::r,x,hx,hp=>by
  obtain⟨y,r',rfl,hy,hr⟩:=q03 hx;simp only[mapV]at hp ⊢;exact⟨hf _ _ hy λp h'=>hp p (List.mem_append_left _ h'),mapV_ok hf hr λp h'=>hp p (List.mem_append_right _ h')⟩
theorem vw1_ok(hm:HM M w0 ρ h w){G:Nat->Option Obj}(hG:∀b o,ρ.mem b=some o->G b=some o)(hO:∀i o,(h.get i).own (ρ i)->w.heap[(ρ i).blk]?=some o->G (ρ i).blk=some o)
  {s:SV} {x:Value} (hf:s.fit h.nx ρ x) (hp:∀p∈(vw1 h s).2,p):(vw1 h s).1.fit h.nx ⟨ρ.lc,G,ρ.lo⟩ x:=by
 have hag:Agree h.nx ρ ⟨ρ.lc,G,ρ.lo⟩:=⟨λ_ _=>rfl,hG,rfl⟩;generalize hr:vw1 h s=r at hp ⊢;unfold vw1 at hr;split at hr
 .rename_i i o;split at hr
  .rename_i xs t hg;subst hr;have hob:=hm.ob i;have hown:=hO i;rw[hg]at hob hown;obtain⟨hil,rfl⟩:=hf;obtain⟨_,hoff,l,hob',hfl⟩:=hob;refine⟨_,(ρ i).off+o,l.toArray,t,(0,0),rfl,hown _ trivial hob',l.drop o,mapV_ok (λs x h1 h2=>vw0_ok hm hG hO h1 h2) (q0f o hfl) hp,λj v hv=>?_⟩;rw[hoff];rw[List.getElem?_drop]at hv;simpa using hv
  .subst hr;exact SV.fit_mono (Nat.le_refl _) hag _ _ hf
 .subst hr;exact vw0_ok hm hG hO hf hp
theorem vw2_ok(hm:HM M w0 ρ h w){G:Nat->Option Obj}(hG:∀b o,ρ.mem b=some o->G b=some o)(hO:∀i o,(h.get i).own (ρ i)->w.heap[(ρ i).blk]?=some o->G (ρ i).blk=some o)
  {s:SV} {x:Value} (hf:s.fit h.nx ρ x) (hp:∀p∈(vw2 h s).2,p):(vw2 h s).1.fit h.nx ⟨ρ.lc,G,ρ.lo⟩ x:=by
 cases s with
 |fn f cs=>
  obtain⟨v,rfl,hv⟩:=hf;exact⟨v,rfl,mapV_ok (λs x h1 h2=>vw1_ok hm hG hO h1 h2) hv hp⟩
 |_=>exact vw1_ok hm hG hO hf hp
theorem vws_ok(hm:HM M w0 ρ h w){G:Nat->Option Obj}(hG:∀b o,ρ.mem b=some o->G b=some o)(hO:∀i o,(h.get i).own (ρ i)->w.heap[(ρ i).blk]?=some o->G (ρ i).blk=some o)
  {s:List SV} {x:List Value} (hf:SV.fits h.nx ρ s x) (hp:∀p∈(vws h s).2,p):SV.fits h.nx ⟨ρ.lc,G,ρ.lo⟩ (vws h s).1 x:=
 mapV_ok (λs x h1 h2=>vw2_ok hm hG hO h1 h2) hf hp
theorem vw_ok(hm:HM M w0 ρ h w){G:Nat->Option Obj}(hG:∀b o,ρ.mem b=some o->G b=some o)(hO:∀i o,(h.get i).own (ρ i)->w.heap[(ρ i).blk]?=some o->G (ρ i).blk=some o)
  {s:SV} {x:Value} (hf:s.fit h.nx ρ x) (hp:∀p∈(vw h s).2,p):(vw h s).1.fit h.nx ⟨ρ.lc,G,ρ.lo⟩ x:=by
 cases s with
 |tup xs=>
  obtain⟨v,rfl,hv⟩:=hf;exact⟨v,rfl,vws_ok hm hG hO hv hp⟩
 |agg xs=>
  obtain⟨v,rfl,hv⟩:=hf;exact⟨v,rfl,vws_ok hm hG hO hv hp⟩
 |_=>exact vw2_ok hm hG hO hf hp
theorem vwA_ok(hm:HM M w0 ρ h w){G:Nat->Option Obj}(hG:∀b o,ρ.mem b=some o->G b=some o)(hO:∀i o,(h.get i).own (ρ i)->w.heap[(ρ i).blk]?=some o->G (ρ i).blk=some o):
  ∀{s:List SV}{x:List Value},SV.fits h.nx ρ s x->(∀p∈(vwA h s).2,p)->SV.fits h.nx ⟨ρ.lc,G,ρ.lo⟩ (vwA h s).1 x
 | [],x,hf,_=>by have:=q0b hf;subst this;trivial
 |s::r,x,hf,hp=>by
  obtain⟨y,r',rfl,hy,hr⟩:=q03 hf;simp only[vwA]at hp ⊢;exact⟨vw_ok hm hG hO hy λp h'=>hp p (List.mem_append_left _ h'),vwA_ok hm hG hO hr λp h'=>hp p (List.mem_append_right _ h')⟩
end
def emp(F:Nat->Option Obj):Rh:=⟨λ_=>⟨0,0,0,false⟩,F,⟨F,λ_=>none⟩⟩
def memAt(F:Nat->Option Obj)(w w':World):Nat->Option Obj:=λb=>if b<w.heap.size then F b else w'.heap[b]?
def FnPure{γ δ:Type}(P:Program)(f:Nat)(D:DA γ)(R:Dv δ)(fn:γ->δ)(pre:γ->List Prop):Prop:=
 ∀(w:World)(F:Nat->Option Obj)(g:γ)(vs:List Value),(∀b o,F b=some o->w.heap[b]?=some o)->Env.E F->(∀p∈pre g,p)->SV.fits 0 (emp F) (D.enc g) vs->
  Calls P f vs.toArray w λe w'=>∃x,e=.returned x/\Below w.heap.size w w'/\(R.enc (fn g)).fit 0 (emp (memAt F w w')) x
def dTree{δ:Type}(P:Program)(Γ:Gam)(Λ:Lam)(n f:Nat)(args:List SV)(R:Dv δ):Tr δ:=
 (fnTree P Γ Λ n f args ⟨0,[],[]⟩).bind λy=>asks (vw y.2 y.1).2 (match R.dec (vw y.2 y.1).1 with
  |some (r,ps)=>asks ps (.ret r)
  |none=>.bad 620)
section
variable{P:Program}{Γ:Gam}{Λ:Lam}{f:Nat}{γ δ:Type}{D:DA γ}{R:Dv δ}{fn:γ->δ}{pre:γ->List Prop}
theorem fnTree_ok(hΓ:∀f g,Γ.g f=some g->FnOk P f g)(hΛ:∀f k L,Λ f k=some L->∀b∈q00 P f,lkey b=k->q04 P b L.g)(n:Nat):FnOk P f (fnTree P Γ Λ n f):=by
 refine fnRun_ok λM w0 w ρ fn c σ a K hfn hc hk hm=>?_
 exact exec_ok hΓ hΛ n (some f) none c (by
  intro f' hf' b hb;injection hf' with hf'
  subst hf';simp only[q00,hfn,hc];exact hb) M w0 w ρ σ a K (by intro l hl;cases hl) hk hm
theorem pure_of_cases(hΓ:∀f g,Γ.g f=some g->FnOk P f g)(hΛ:∀f k L,Λ f k=some L->∀b∈q00 P f,lkey b=k->q04 P b L.g)(n:Nat)
  (hT:∀g,D.bd g->(∀p∈pre g,p)->∃args,(∀n ρ x,SV.fits n ρ (D.enc g) x->SV.fits n ρ args x)/\(dTree P Γ Λ n f args R).Holds (·=fn g)):FnPure P f D R fn pre:=by
 intro w F g vs hF hE hpre hfit;have hbd:=D.fb _ _ _ _ hfit;obtain⟨args,hargs,hT⟩:=hT g hbd hpre;have h0:=fnTree_ok hΓ hΛ n (λ_=>False) w w (emp F) ⟨0,[],[]⟩ args vs _ (Tr.holds_bind hT) (HM.start w (emp F) hF (λ_ _ h=>h) hE) (hargs _ _ _ hfit);refine h0.mono ?_;rintro e w' ⟨s,h',ρ',x,h1,h2,h3,h4,h5,rfl⟩;refine⟨x,rfl,h4.toBelow,?_⟩;obtain⟨hp,h1⟩:=q1p h1
 have hG:∀b o,ρ'.mem b=some o->memAt F w w' b=some o:=λb o hb=>by
  unfold memAt;split
  .rename_i hlt;have:=h4.old b o hb hlt (λh=>h);rw[h3.2.2]at this;exact this
  .exact h4.fz b o hb
 have hO:∀i o,(h'.get i).own (ρ' i)->w'.heap[(ρ' i).blk]?=some o->memAt F w w' (ρ' i).blk=some o:=λi o hown ho=>by
  unfold memAt;rcases h4.ow i hown with h|h
  .rw[if_neg (by omega)];exact ho
  .exact h.elim
 have hv:=vw_ok h4 hG hO h5 hp;split at h1
 .rename_i r ps hr;obtain⟨hq,h1⟩:=q1p h1;have h1:r=fn g:=h1;have:=R.ok _ _ _ _ _ _ hr hq hv;rw[h1]at this;exact R.cl _ _ 0 ⟨ρ'.lc,memAt F w w',ρ'.lo⟩ (emp (memAt F w w')) x (λ_ _ h=>h) this
 .exact h1.elim
theorem qax(hΓ:∀f g,Γ.g f=some g->FnOk P f g)(hΛ:∀f k L,Λ f k=some L->∀b∈q00 P f,lkey b=k->q04 P b L.g)(n:Nat)
  (hT:∀g,D.bd g->(∀p∈pre g,p)->(dTree P Γ Λ n f (D.enc g) R).Holds (·=fn g)):FnPure P f D R fn pre:=
 pure_of_cases hΓ hΛ n λg h1 h2=>⟨_,λ_ _ _ h=>h,hT g h1 h2⟩
def _root_.Go.Sx.Tr.safe{α:Type}:Tr α->Bool
 | .ret _=>true
 | .br _ a b=>a.safe&&b.safe
 |_=>false
def _root_.Go.Sx.Tr.ev{α:Type}(d:α):Tr α->α
 | .ret x=>x
 | .br c a b=>bif c then a.ev d else b.ev d
 | .ask _ a=>a.ev d
 | .giv _ a=>a.ev d
 | .all k=>(k []).ev d
 | .bad _=>d
theorem _root_.Go.Sx.Tr.safe_holds{α:Type}(d:α):∀{t:Tr α},t.safe=true->t.Holds (·=t.ev d)
 | .ret _,_=>rfl
 | .br c a b,h=>by
  simp only[Tr.safe,Bool.and_eq_true]at h;refine⟨λhc=>?_,λhc=>?_⟩
  .subst hc;exact safe_holds d h.1
  .subst hc;exact safe_holds d h.2
 | .ask _ _,h=>by cases h
 | .giv _ _,h=>by cases h
 | .all _,h=>by cases h
 | .bad _,h=>by cases h
theorem q78(hΓ:∀f g,Γ.g f=some g->FnOk P f g)(hΛ:∀f k L,Λ f k=some L->∀b∈q00 P f,lkey b=k->q04 P b L.g)(n:Nat)(d:δ)
  (hs:∀g,(dTree P Γ Λ n f (D.enc g) R).safe=true) (he:∀g,(dTree P Γ Λ n f (D.enc g) R).ev d=fn g):FnPure P f D R fn pre:=
 qax hΓ hΛ n λg _ _=>by
  have:=Tr.safe_holds d (hs g);rw[he g]at this;exact this
def _root_.Go.Sx.Tr.plain{α:Type}:Tr α->Bool
 | .ret _=>true
 | .br _ a b=>a.plain&&b.plain
 |_=>false
def _root_.Go.Sx.Tr.sideV{α:Type}(v:α->α):Tr α->Prop
 | .ret x=>∀d,x=v d
 | .br c a b=>(c=true->a.sideV v)/\(c=false->b.sideV v)
 | .ask p a=>p/\a.sideV v
 | .giv p a=>p->a.sideV v
 | .all k=>∀cs,(k cs).sideV v
 | .bad _=>False
theorem _root_.Go.Sx.Tr.sideV_holds{α:Type}{v:α->α}(d:α):∀{t:Tr α},t.sideV v->t.Holds (·=v d)
 | .ret _,h=>h d
 | .br _ _ _,h=>⟨λhc=>sideV_holds d (h.1 hc),λhc=>sideV_holds d (h.2 hc)⟩
 | .ask _ _,h=>⟨h.1,sideV_holds d h.2⟩
 | .giv _ _,h=>λhp=>sideV_holds d (h hp)
 | .all _,h=>λn=>sideV_holds d (h n)
 | .bad _,h=>h.elim
def _root_.Go.Sx.Tr.side{α:Type}:Tr α->Prop
 | .ret _=>True
 | .br c a b=>match a.plain,b.plain with
  |true,true=>True
  |true,false=>c=false->b.side
  |false,true=>c=true->a.side
  |false,false=>(c=true->a.side)/\(c=false->b.side)
 | .ask p a=>match a.plain with
  |true=>p
  |false=>p/\a.side
 | .giv p a=>match a.plain with
  |true=>True
  |false=>p->a.side
 | .all k=>∀cs,(k cs).sideV λd=>(k []).ev d
 | .bad _=>False
theorem _root_.Go.Sx.Tr.plain_side{α:Type}:∀{t:Tr α},t.plain=true->t.side
 | .ret _,_=>trivial
 | .br c a b,h=>by
  simp only[Tr.plain,Bool.and_eq_true]at h;simp only[Tr.side,h.1,h.2]
 | .ask _ _,h=>by cases h
 | .giv _ _,h=>by cases h
 | .all _,h=>by cases h
 | .bad _,h=>by cases h
theorem _root_.Go.Sx.Tr.side_holds{α:Type}(d:α):∀{t:Tr α},t.side->t.Holds (·=t.ev d)
 | .ret _,_=>rfl
 | .br c a b,h=>by
  have h2:(c=true->a.side)/\(c=false->b.side):=by
   simp only[Tr.side]at h;split at h
   .rename_i h1 h2;exact⟨λ_=>Tr.plain_side h1,λ_=>Tr.plain_side h2⟩
   .rename_i h1 h2;exact⟨λ_=>Tr.plain_side h1,h⟩
   .rename_i h1 h2;exact⟨h,λ_=>Tr.plain_side h2⟩
   .exact h
  refine⟨λhc=>?_,λhc=>?_⟩
  .have:=side_holds d (h2.1 hc);subst hc;exact this
  .have:=side_holds d (h2.2 hc);subst hc;exact this
 | .ask p a,h=>by
  have h2:p/\a.side:=by
   simp only[Tr.side]at h;split at h
   .rename_i h1;exact⟨h,Tr.plain_side h1⟩
   .exact h
  exact⟨h2.1,side_holds d h2.2⟩
 | .giv p a,h=>λhp=>by
  have h2:a.side:=by
   simp only[Tr.side]at h;split at h
   .rename_i h1;exact Tr.plain_side h1
   .exact h hp
  exact side_holds d h2
 | .all k,h=>λn=>Tr.sideV_holds d (h n)
 | .bad _,h=>h.elim
theorem pure_of_side(hΓ:∀f g,Γ.g f=some g->FnOk P f g)(hΛ:∀f k L,Λ f k=some L->∀b∈q00 P f,lkey b=k->q04 P b L.g)(n:Nat)(d:δ)
  (hs:∀g,D.bd g->(∀p∈pre g,p)->(dTree P Γ Λ n f (D.enc g) R).side) (he:∀g,(dTree P Γ Λ n f (D.enc g) R).ev d=fn g):FnPure P f D R fn pre:=
 qax hΓ hΛ n λg h1 h2=>by
  have:=Tr.side_holds d (hs g h1 h2);rw[he g]at this;exact this
theorem q05(hΓ:∀f g,Γ.g f=some g->FnOk P f g)(hΛ:∀f k L,Λ f k=some L->∀b∈q00 P f,lkey b=k->q04 P b L.g)(n:Nat)(d:δ)(S:γ->Prop)
  (hS:∀g,(dTree P Γ Λ n f (D.enc g) R).side=S g) (he:∀g,(dTree P Γ Λ n f (D.enc g) R).ev d=fn g) (hs:∀g,D.bd g->(∀p∈pre g,p)->S g):FnPure P f D R fn pre:=
 pure_of_side hΓ hΛ n d (λg h1 h2=>by rw[hS g];exact hs g h1 h2) he
def conP(D:DA γ)(R:Dv δ)(fn:γ->δ)(pre:γ->List Prop):Con:=λargs h=>
 match D.dec (vwA h args).1 with
 |some (g,ps)=>asks ((vwA h args).2++(ps++pre g)) (.ret (R.enc (fn g),h))
 |none=>.bad 621
def conR(D:DA γ)(R:Dv δ)(fn:γ->δ)(pre:γ->List Prop):Con:=λargs h=>
 match D.dec args with
 |some (g,ps)=>asks (ps++pre g) (.ret (R.enc (fn g),h))
 |none=>.bad 622
theorem q0o(hp:FnPure P f D R fn pre)(hR:∀r,Pu (R.enc r)):FnOk P f (conP D R fn pre):=by
 intro M w0 w ρ h args vs K hK hm hfits;unfold conP at hK;split at hK
 .rename_i g ps hd;obtain⟨hq,hK⟩:=q1p hK;have hv:=vwA_ok (G:=λb=>w.heap[b]?) hm hm.fz (λ_ _ _ h=>h) hfits λp h'=>hq p (List.mem_append_left _ h');have hv2:=D.ok _ _ _ _ _ _ hd (λp h'=>hq p (List.mem_append_right _ (List.mem_append_left _ h'))) hv;have hv3:=D.cl _ _ 0 ⟨ρ.lc,λb=>w.heap[b]?,ρ.lo⟩ (emp λb=>w.heap[b]?) vs (λ_ _ h=>h) hv2;refine(hp w (λb=>w.heap[b]?) g vs (λ_ _ h=>h) (Env.mono _ _ (λb o hb _=>hm.fz b o hb) hm.env) (λp h'=>hq p (List.mem_append_right _ (List.mem_append_right _ h'))) hv3).mono ?_;rintro e w' ⟨x,rfl,hb,hx⟩;exact⟨_,h,ρ,x,hK,Nat.le_refl _,Agree.refl _ _,hm.below hb,hR _ _ _ _ _ _ hx,rfl⟩
 .exact hK.elim
theorem q7k(hp:FnPure P f D R fn pre):FnOk P f (conR D R fn pre):=by
 intro M w0 w ρ h args vs K hK hm hfits;unfold conR at hK;split at hK
 .rename_i g ps hd;obtain⟨hq,hK⟩:=q1p hK;have hv2:=D.ok _ _ _ _ _ _ hd (λp h'=>hq p (List.mem_append_left _ h')) hfits;have hv3:=D.cl _ _ 0 ρ (emp ρ.mem) vs (λ_ _ h=>h) hv2;refine(hp w ρ.mem g vs hm.fz hm.env (λp h'=>hq p (List.mem_append_right _ h')) hv3).mono ?_;rintro e w' ⟨x,rfl,hb,hx⟩;have hm1:=hm.below hb
  have hmem:∀b o,ρ.mem b=some o->memAt ρ.mem w w' b=some o:=λb o ho=>by
   unfold memAt;rw[if_pos (hm.lt_mem ho)];exact ho
  have hag:Agree h.nx ρ ⟨ρ.lc,memAt ρ.mem w w',ρ.lo⟩:=⟨λ_ _=>rfl,hmem,rfl⟩;refine⟨_,h,⟨ρ.lc,memAt ρ.mem w w',ρ.lo⟩,x,hK,Nat.le_refl _,hag,?_,R.cl _ 0 _ (emp (memAt ρ.mem w w')) _ _ (λ_ _ h=>h) hx,rfl⟩;exact {
   os:=hm1.os
   tape:=hm1.tape
   output:=hm1.output
   size:=hm1.size
   block:=hm1.block
   lt:=hm1.lt
   ob:=λi=>SO.fit_mono (Nat.le_refl _) hag (hm1.ob i)
   ow:=hm1.ow
   fz:=λb o hb'=>by
    simp only[memAt]at hb';split at hb'
    .exact hm1.fz b o hb'
    .exact hb'
   sep:=λi hi=>by
    have h1:=hm.sep i hi;have h2:=hm.lt_heap hi;simp only[memAt];rw[if_pos h2];exact h1
   old:=λb o hb' hlt hM=>by
    simp only[memAt]at hb';have hs:=hm.size;rw[if_pos (by omega)]at hb';exact hm.old b o hb' hlt hM
   env:=Env.mono _ _ (λb o hb _=>hmem b o hb) hm.env
   ab:=hm.ab_at hb hmem λb hlt hn=>by
    simp only[memAt];rw[if_pos hlt];exact hn
   inj:=hm1.inj}
 .exact hK.elim
theorem asks_bind{α β:Type}{f:α->Tr β}:∀(l:List Prop)(x:α),asks l (f x)=(asks l (.ret x)).bind f
 | [],_=>rfl
 |p::r,x=>by
  show Tr.ask p (asks r (f x))=Tr.ask p ((asks r (.ret x)).bind f);rw[asks_bind r x]
theorem mapV_id{f:SV->SV×List Prop}:∀{xs:List SV},(∀s∈xs,f s=(s,[]))->mapV f xs=(xs,[])
 | [],_=>rfl
 |s::r,h=>by
  rw[mapV,h s (List.mem_cons_self ..),mapV_id λx hx=>h x (List.mem_cons_of_mem _ hx)];rfl
theorem vw_noId{h:SH}{s:SV}(hs:noId s=true):vw h s=(s,[]):=by
 have h0:∀s:SV,noId0 s=true->vw2 h s=(s,[]):=λs hs=>by cases s<;>simp[noId0]at hs<;>rfl
 cases s<;>simp[noId,noId0]at hs
 case agg xs=>
  show(SV.agg (vws h xs).1,(vws h xs).2)=_;unfold vws;rw[mapV_id λx hx=>h0 x (hs x hx)]
 all_goals rfl
theorem vwA_noId{h:SH}:∀{args:List SV},args.all noId=true->vwA h args=(args,[])
 | [],_=>rfl
 |s::r,hs=>by
  simp only[List.all_cons,Bool.and_eq_true]at hs;rw[vwA,vw_noId hs.1,vwA_noId hs.2];rfl
structure PCon where
 g:Con
 e:∀args h,(g args h).Each λy=>y.2=h
 i:∀args,args.all noId=true->Indep λh=>g args h
def pconP(D:DA γ)(R:Dv δ)(fn:γ->δ)(pre:γ->List Prop):PCon:=⟨conP D R fn pre,λargs h=>by
 unfold conP;split
 .exact q4h rfl
 .trivial,λargs ha=>by
 unfold conP;simp only[vwA_noId ha];split
 .exact⟨asks _ (.ret _),λh=>asks_bind (f:=λs=>.ret (s,h)) _ _⟩
 .exact⟨.bad _,λ_=>rfl⟩⟩
def pconR(D:DA γ)(R:Dv δ)(fn:γ->δ)(pre:γ->List Prop):PCon:=⟨conR D R fn pre,λargs h=>by
 unfold conR;split
 .exact q4h rfl
 .trivial,λargs _=>by
 unfold conR;split
 .exact⟨asks _ (.ret _),λh=>asks_bind (f:=λs=>.ret (s,h)) _ _⟩
 .exact⟨.bad _,λ_=>rfl⟩⟩
structure BCon where
 g:Con
 b:ConB g
def pick{α:Type}(f:Nat):List (Nat×α)->Option α
 | []=>none
 |(j,x)::r=>bif Nat.beq f j then some x else pick f r
theorem pick_mem{α:Type}{f:Nat}{x:α}:∀{l:List (Nat×α)},pick f l=some x->(f,x)∈l
 | [],h=>by cases h
 |(j,y)::r,h=>by
  simp only[pick]at h;cases hb:Nat.beq f j with
  |true=>
   rw[hb]at h;simp only[cond_true,Option.some.injEq]at h;rw[h,q02 hb];exact List.mem_cons_self ..
  |false=>
   rw[hb]at h;exact List.mem_cons_of_mem _ (pick_mem h)
def gam(l:List (Nat×PCon))(m:List (Nat×BCon))(zs:List (Nat×Nat))(us:List (Nat×Nat×Nat)):Gam where
 u f k:=match us.find? λx=>Nat.beq x.1 f&&Nat.beq x.2.1 k with
  |some x=>x.2.2
  |none=>0
 z f i:=zs.any λx=>Nat.beq x.1 f&&Nat.beq x.2 i
 g f:=match pick f l with
  |some c=>some c.g
  |none=>match pick f m with
   |some c=>some c.g
   |none=>none
 q f:=(pick f l).isSome
 hq f h:=by
  cases hp:pick f l with
  |none=>rw[hp]at h;cases h
  |some c=>exact⟨c.g,rfl,c.e,c.i⟩
 hb f c h:=by
  cases hp:pick f l with
  |some c'=>
   rw[hp]at h;injection h with h
   subst h;exactλargs h=>eq_b (c'.e args h)
  |none=>
   rw[hp]at h;simp only at h;cases hq:pick f m with
   |none=>rw[hq]at h;cases h
   |some c'=>
    rw[hq]at h;injection h with h
    subst h;exact c'.b
theorem gam_ok{l:List (Nat×PCon)}{m:List (Nat×BCon)}{zs:List (Nat×Nat)}{us:List (Nat×Nat×Nat)}(hl:∀x∈l,FnOk P x.1 x.2.g)(hm:∀x∈m,FnOk P x.1 x.2.g):∀f g,(gam l m zs us).g f=some g->FnOk P f g:=by
 intro f g h;simp only[gam]at h;cases hp:pick f l with
 |some c=>
  rw[hp]at h;injection h with h
  subst h;exact hl _ (pick_mem hp)
 |none=>
  rw[hp]at h;simp only at h;cases hq:pick f m with
  |none=>rw[hq]at h;cases h
  |some c'=>
   rw[hq]at h;injection h with h
   subst h;exact hm _ (pick_mem hq)
def PTab(P:Program):={ l:List (Nat×PCon)//∀x∈l,FnOk P x.1 x.2.g}
def PTab.nil:PTab P:=⟨[],λx h=>by simp at h⟩
def PTab.cons(t:PTab P)(f:Nat)(c:PCon)(h:FnOk P f c.g):PTab P:=⟨(f,c)::t.1,λx hx=>by
 rcases List.mem_cons.1 hx with rfl|hx
 .exact h
 .exact t.2 x hx⟩
def PTab.gam(t:PTab P):Gam:=Go.Sx.gam t.1 [] [] []
theorem PTab.ok(t:PTab P):∀f g,t.gam.g f=some g->FnOk P f g:=gam_ok t.2 (λx h=>by simp at h)
def PTab.gamz(t:PTab P)(zs:List (Nat×Nat))(us:List (Nat×Nat×Nat)):Gam:=Go.Sx.gam t.1 [] zs us
theorem PTab.okz(t:PTab P)(zs:List (Nat×Nat))(us:List (Nat×Nat×Nat)):∀f g,(t.gamz zs us).g f=some g->FnOk P f g:=gam_ok t.2 (λx h=>by simp at h)
def noΛ:Lam:=λ_ _=>none
theorem q5r:∀f k L,noΛ f k=some L->∀b∈q00 P f,lkey b=k->q04 P b L.g:=by intro f k L h;cases h
end
end Go.Sx

namespace Go.Sx
open Go.RowKit
variable[Env]
mutual
theorem fit_low{N n N':Nat}{ρ0 ρ ρ':Rh}(hN:N<=N')(ha:Agree N ρ ρ'):∀(s:SV)(x0 x:Value),SV.fit N ρ0 s x0->SV.fit n ρ s x->SV.fit N' ρ' s x
 | .k _,_,_,_,h=>h
 | .v _,_,_,_,h=>h
 | .p i o,x0,x,h0,h=>by simp only[SV.fit]at h0 h ⊢;exact⟨by omega,by rw[ha.1 i h0.1];exact h.2⟩
 | .pe i sz e o,x0,x,h0,h=>by simp only[SV.fit]at h0 h ⊢;exact⟨by omega,by rw[ha.1 i h0.1];exact h.2⟩
 | .sl i o l c,x0,x,h0,h=>by simp only[SV.fit]at h0 h ⊢;exact⟨by omega,by rw[ha.1 i h0.1];exact h.2⟩
 | .se i sz o l,x0,x,h0,h=>by simp only[SV.fit]at h0 h ⊢;exact⟨by omega,by rw[ha.1 i h0.1];exact h.2⟩
 | .ow i l,x0,x,h0,h=>by simp only[SV.fit]at h0 h ⊢;exact⟨by omega,by rw[ha.1 i h0.1];exact h.2⟩
 | .yl i,x0,x,h0,h=>by simp only[SV.fit]at h0 h ⊢;exact⟨by omega,by rw[ha.1 i h0.1];exact h.2⟩
 | .mp i,x0,x,h0,h=>by simp only[SV.fit]at h0 h ⊢;exact⟨by omega,by rw[ha.1 i h0.1];exact h.2⟩
 | .rs sz l el,x0,x,h0,h=>by
  simp only[SV.fit]at h0 h ⊢;obtain⟨a,c,h1,h2,h3,h4⟩:=h;obtain⟨_,_,_,_,_,k4⟩:=h0;refine⟨a,c,h1,h2,h3,λhl=>?_⟩;obtain⟨b,o,cs,t,fz,q1,q2,q3⟩:=h4 hl;obtain⟨_,_,_,_,_,_,_,r3⟩:=k4 hl;refine⟨b,o,cs,t,fz,q1,ha.2.1 _ _ q2,λe he=>?_⟩;obtain⟨vs,u1,u2,u3⟩:=q3 e he;obtain⟨vs0,_,u20,_⟩:=r3 e he;exact⟨vs,u1,q2t hN ha (el e) vs0 vs u20 u2,u3⟩
 | .pr xs,x0,x,h0,h=>by
  simp only[SV.fit]at h0 h ⊢;obtain⟨b,o,cs,t,fz,q1,q2,vs,q3,q4⟩:=h;obtain⟨_,_,_,_,_,_,_,vs0,r3,_⟩:=h0;exact⟨b,o,cs,t,fz,q1,ha.2.1 _ _ q2,vs,q2t hN ha xs vs0 vs r3 q3,q4⟩
 | .fn f cs,x0,x,h0,h=>by
  simp only[SV.fit]at h0 h ⊢;obtain⟨l,hx,hl⟩:=h;obtain⟨l0,_,hl0⟩:=h0;exact⟨l,hx,q2t hN ha cs l0 l hl0 hl⟩
 | .agg cs,x0,x,h0,h=>by
  simp only[SV.fit]at h0 h ⊢;obtain⟨l,hx,hl⟩:=h;obtain⟨l0,_,hl0⟩:=h0;exact⟨l,hx,q2t hN ha cs l0 l hl0 hl⟩
 | .tup cs,x0,x,h0,h=>by
  simp only[SV.fit]at h0 h ⊢;obtain⟨l,hx,hl⟩:=h;obtain⟨l0,_,hl0⟩:=h0;exact⟨l,hx,q2t hN ha cs l0 l hl0 hl⟩
 | .opt b s,x0,x,h0,h=>by
  simp only[SV.fit]at h0 h ⊢;exactλhb=>fit_low hN ha s x0 x (h0 hb) (h hb)
 | .rm ks vs m ka va el,x0,x,h0,h=>by
  simp only[SV.fit]at h0 h ⊢;rcases h with h|⟨b,es,clk,k1,k2,k3,k4,k5⟩
  .exact .inl h
  .refine .inr ⟨b,es,clk,k1,ha.2.1 _ _ k2,k3,k4,λe he=>?_⟩;obtain⟨y,kc,vc,q1,q2,q3⟩:=k5 e he;rcases h0 with ⟨_,h0⟩|⟨_,_,_,_,_,_,_,k05⟩
   .omega
   .obtain⟨_,kc0,vc0,_,r2,_⟩:=k05 e he;exact⟨y,kc,vc,q1,q2t hN ha (el e) _ _ r2 q2,q3⟩
 | .u,_,_,_,_=>by simp only[SV.fit]
theorem q2t{N n N':Nat}{ρ0 ρ ρ':Rh}(hN:N<=N')(ha:Agree N ρ ρ'):∀(ss:List SV)(xs0 xs:List Value),SV.fits N ρ0 ss xs0->SV.fits n ρ ss xs->SV.fits N' ρ' ss xs
 | [],[],[],_,h=>h
 |s::ss,x0::xs0,x::xs,h0,h=>by
  simp only[SV.fits]at h0 h ⊢;exact⟨fit_low hN ha s x0 x h0.1 h.1,q2t hN ha ss xs0 xs h0.2 h.2⟩
 | [],[],_::_,_,h=>by simp only[SV.fits]at h
 | [],_::_,_,h0,_=>by simp only[SV.fits]at h0
 |_::_,[],_,h0,_=>by simp only[SV.fits]at h0
 |_::_,_::_,[],_,h=>by simp only[SV.fits]at h
end
theorem slots_low{N n N':Nat}{ρ0 ρ ρ':Rh}(hN:N<=N')(ha:Agree N ρ ρ'){k:Nat}{t:List (Nat×SV)}{tm0 tm:Array Value}(h0:Slots N ρ0 k t tm0)(h:Slots n ρ k t tm):Slots N' ρ' k t tm:=
 ⟨h.1,λi hi=>fit_low hN ha _ _ _ (h0.2 i hi) (h.2 i hi)⟩
theorem so_low{N n N':Nat}{ρ0 ρ ρ':Rh}(hN:N<=N')(ha:Agree N ρ ρ'){s:SO}{L0 L:Lc}{o0 o:Option Obj}(h0:s.fit N ρ0 L0 o0)(h:s.fit n ρ L o):s.fit N' ρ' L o:=by
 cases s with
 |cells xs t=>
  obtain⟨h1,h2,l,h3,h4⟩:=h;obtain⟨_,_,l0,_,k4⟩:=h0;exact⟨h1,h2,l,h3,q2t hN ha _ _ _ k4 h4⟩
 |row t sz el m=>
  refine⟨h.1,?_⟩;rcases h.2 with h2|⟨h1,h2,c,fz,h3,h3',h4,h5,h6,h7⟩
  .exact .inl h2
  .refine .inr ⟨h1,h2,c,fz,h3,h3',h4,h5,h6,λe he=>?_⟩;obtain⟨l,q1,q2,q3⟩:=h7 e he;rcases h0.2 with ⟨_,k0⟩|⟨_,_,c0,_,_,_,_,_,_,k7⟩
   .omega
   .obtain⟨l0,_,r2,_⟩:=k7 e he;exact⟨l,q1,q2t hN ha _ _ _ r2 q2,q3⟩
 |obj o'=>exact h
 |loop st pd k t ps asg body df=>
  obtain⟨h1,h2,f,tm,h3,h4⟩:=h;obtain⟨_,k2,f0,tm0,_,k4⟩:=h0;exact⟨h1,by omega,f,tm,by rw[ha.1 df k2];exact h3,slots_low hN ha k4 h4⟩
 |map ks vs ka va el m clk pend=>
  obtain⟨h1,h2,⟨es,h3,h4,h5,h6⟩,h7⟩:=h;obtain⟨_,_,⟨es0,_,_,_,k6⟩,_⟩:=h0;refine⟨h1,h2,⟨es,h3,h4,h5,λe he=>?_⟩,h7⟩;obtain⟨y,kc,vc,q1,q2,q3⟩:=h6 e he;obtain⟨_,kc0,vc0,_,r2,_⟩:=k6 e he;exact⟨y,kc,vc,q1,q2t hN ha _ _ _ r2 q2,q3⟩
 |mif ks vs ka va rem cnt cur=>
  obtain⟨h1,h2,h3⟩:=h;obtain⟨_,_,k3⟩:=h0;refine⟨h1,h2,?_⟩;rcases h3 with h3|⟨b,es,clk,seen,j1,j2,j3,j4,j5,j6⟩
  .exact .inl h3
  .refine .inr ⟨b,es,clk,seen,j1,ha.2.1 _ _ j2,j3,j4,λe he=>?_,λc hc=>?_⟩
   .obtain⟨y,kc,vc,q1,q2,q3⟩:=j5 e he;rcases k3 with ⟨_,k3,_⟩|⟨_,_,_,_,_,_,_,_,k5,_⟩
    .omega
    .obtain⟨_,kc0,vc0,_,r2,_⟩:=k5 e he;exact⟨y,kc,vc,q1,q2t hN ha _ _ _ r2 q2,q3⟩
   .obtain⟨y,kc,vc,q1,q2,q3,q4⟩:=j6 c hc;rcases k3 with ⟨_,_,k3⟩|⟨_,_,_,_,_,_,_,_,_,k6⟩
    .rw[k3]at hc;cases hc
    .obtain⟨_,kc0,vc0,_,_,r3,_⟩:=k6 c hc;exact⟨y,kc,vc,q1,q2,q2t hN ha _ _ _ r3 q3,q4⟩
 |mit i since sel sn last cur=>
  obtain⟨h1,h2,h3,seen,k1,k2,k3,k4⟩:=h;obtain⟨_,_,l3,seen0,l1,l2,l4,l5⟩:=h0;refine⟨h1,h2,by omega,seen,by rw[ha.1 i l3];exact k1,k2,λe x hx=>?_,λs hs=>?_⟩
  .have he:e<seen0.size:=by
    have:=(Array.getElem?_eq_some_iff.1 hx).1;omega
   exact q2t hN ha _ _ _ (l4 e seen0[e] (by simp[he])) (k3 e x hx)
  .obtain⟨x,q1,q2⟩:=k4 s hs;obtain⟨x0,_,r2⟩:=l5 s hs;exact⟨x,q1,fit_low hN ha _ _ _ r2 q2⟩
 |abs=>exact h
 |dead=>trivial
def Bl(N:Nat)(s:SV):Prop:=∀(n m:Nat)(ρ ρ':Rh)(x:Value),N<=m->Agree N ρ ρ'->s.fit n ρ x->s.fit m ρ' x
theorem bl_of_cl{N:Nat}{s:SV}(h:Cl s):Bl N s:=λn m ρ ρ' x _ ha hf=>h n m ρ ρ' x ha.2.1 hf
structure Rn(N k0:Nat)(ids:List (Option Nat))(m:Nat)(ρ ρ':Rh):Prop where
 le:N+k0+ids.length<=m
 ag:Agree N ρ ρ'
 yes:∀k j:Nat,ids[k]?=some (some j)->ρ' (N+k0+k)=ρ j
 no:∀k:Nat,ids[k]?=some none->ρ' (N+k0+k)=⟨0,0,0,true⟩
theorem Rn.left{N k0 m:Nat}{is js:List (Option Nat)}{ρ ρ':Rh}(h:Rn N k0 (is++js) m ρ ρ'):Rn N k0 is m ρ ρ':=
 ⟨by have:=h.le;simp at this;omega,h.ag,λk j hk=>h.yes k j (by rw[List.getElem?_append_left (by by_cases hl:k<is.length;exact hl;rw[List.getElem?_eq_none (by omega)]at hk;cases hk)];exact hk),
  λk hk=>h.no k (by rw[List.getElem?_append_left (by by_cases hl:k<is.length;exact hl;rw[List.getElem?_eq_none (by omega)]at hk;cases hk)];exact hk)⟩
theorem Rn.right{N k0 m:Nat}{is js:List (Option Nat)}{ρ ρ':Rh}(h:Rn N k0 (is++js) m ρ ρ'):Rn N (k0+is.length) js m ρ ρ':=
 ⟨by have:=h.le;simp at this;omega,h.ag,λk j hk=>by
     rw[show N+(k0+is.length)+k=N+k0+(is.length+k) by omega];exact h.yes _ j (by rw[List.getElem?_append_right (by omega)];simpa using hk),
  λk hk=>by
   rw[show N+(k0+is.length)+k=N+k0+(is.length+k) by omega];exact h.no _ (by rw[List.getElem?_append_right (by omega)];simpa using hk)⟩
def Ow(so s:SO):Prop:=(∀L,so.own L->s.own L)/\∀a,so=.abs a->s=.abs a
theorem ow_na{so s:SO}(h:∀L,so.own L->s.own L)(hna:∀a,so≠.abs a:=by intro _ h;cases h):Ow so s:=⟨h,λa e=>absurd e (hna a)⟩
theorem ow_rfl{so:SO}:Ow so so:=⟨λ_ h=>h,λ_ h=>h⟩
def NilSO(so:SO):Prop:=so=.dead\/∃t sz el,so=.row t sz el 0
structure Rel(N k0:Nat)(σ:St)(ids:List (Option Nat))(ents:List (Nat×SV))(blks:List SO)(objs:List (Nat×SO)):Prop where
 blk:∀(k:Nat)(so:SO),blks[k]?=some so->(ids[k]?=some none/\NilSO so)\/∃j:Nat,ids[k]?=some (some j)/\Ow so (σ.h.get j)/\∀(n m:Nat)(ρ ρ':Rh)(L:Lc)(o:Option Obj),Rn N k0 ids m ρ ρ'->(σ.h.get j).fit n ρ L o->so.fit m ρ' L o
 obj:∀(id:Nat)(so:SO),(id,so)∈objs->Ow so (σ.h.get id)/\∀(n m:Nat)(ρ ρ':Rh)(L:Lc)(o:Option Obj),Rn N k0 ids m ρ ρ'->(σ.h.get id).fit n ρ L o->so.fit m ρ' L o
 ent:∀(i:Nat)(s:SV),(i,s)∈ents->∀(n m:Nat)(ρ ρ':Rh)(x:Value),Rn N k0 ids m ρ ρ'->(σ.slot i).fit n ρ x->s.fit m ρ' x
theorem row_so{t sz l m:Nat}{el':ElE}{el:Nat->List SV}(hl:l<=m)(hcl:∀e,Cls (el e))(himp:∀e,e<l->∀n ρ v,SV.fits n ρ (el' e) v->SV.fits n ρ (el e) v){n m':Nat}{ρ ρ':Rh}{L:Lc}{o:Option Obj}(hm:∀b o,ρ.mem b=some o->ρ'.mem b=some o)(hf:(SO.row t sz el' m).fit n ρ L o):(SO.row t sz (.fn el) l).fit m' ρ' L o:=by
 refine⟨by have:=hf.1;omega,?_⟩;rcases hf.2 with ⟨h1,h2⟩|⟨h1,h2,c,fz,h3,h3',h4,h5,h6,h7⟩
 .exact .inl ⟨h1,by omega⟩
 .refine .inr ⟨h1,h2,c,fz,h3,h3',h4,by omega,h6,λe he=>?_⟩;obtain⟨v,q1,q2,q3⟩:=h7 e (by omega);exact⟨v,q1,hcl e n m' ρ ρ' v hm (himp e he _ _ _ q2),q3⟩
theorem row_blk{N k0 t sz l m j:Nat}{σ:St}{ids:List (Option Nat)}{el':ElE}{el:Nat->List SV}(hg:σ.h.get j=.row t sz el' m)(hl:l<=m)(hcl:∀e,Cls (el e))(himp:∀e,e<l->∀n ρ v,SV.fits n ρ (el' e) v->SV.fits n ρ (el e) v):Ow (.row t sz (.fn el) l) (σ.h.get j)/\∀(n m:Nat)(ρ ρ':Rh)(L:Lc)(o:Option Obj),Rn N k0 ids m ρ ρ'->(σ.h.get j).fit n ρ L o->(SO.row t sz (.fn el) l).fit m ρ' L o:=by
 rw[hg];exact⟨ow_na λ_ h=>h,λn m ρ ρ' L o hr hf=>row_so hl hcl himp hr.ag.2.1 hf⟩
theorem ent_bl{N k0:Nat}{ids:List (Option Nat)}{a s:SV}(h1:∀n ρ x,a.fit n ρ x->s.fit n ρ x)(h2:Bl N s):∀(n m:Nat)(ρ ρ':Rh)(x:Value),Rn N k0 ids m ρ ρ'->a.fit n ρ x->s.fit m ρ' x:=
 λn m ρ ρ' x hr hf=>h2 n m ρ ρ' x (by have:=hr.le;omega) hr.ag (h1 n ρ x hf)
theorem ent_ow{N k0:Nat}{ids:List (Option Nat)}{a:SV}{j l l' k:Nat}(hs:a=.ow j l)(hi:ids[k]?=some (some j))(hl:l'=l):∀(n m:Nat)(ρ ρ':Rh)(x:Value),Rn N k0 ids m ρ ρ'->a.fit n ρ x->(SV.ow (N+k0+k) l').fit m ρ' x:=λn m ρ ρ' x hr hf=>by
 rw[hs]at hf;obtain⟨_,hor⟩:=hf
 have hk:k<ids.length:=by
  by_cases h:k<ids.length
  .exact h
  .rw[List.getElem?_eq_none (by omega)]at hi;cases hi
 refine⟨by have:=hr.le;omega,?_⟩;rw[hr.yes k j hi,hl];exact hor
theorem ent_nil{N k0:Nat}{ids:List (Option Nat)}{a:SV}{y:Value}{k:Nat}(hs:a=.k y)(hy:nilK y=true)(hi:ids[k]?=some none):∀(n m:Nat)(ρ ρ':Rh)(x:Value),Rn N k0 ids m ρ ρ'->a.fit n ρ x->(SV.ow (N+k0+k) 0).fit m ρ' x:=λn m ρ ρ' x hr hf=>by
 rw[hs]at hf;have:=q8n hy;subst this
 have hk:k<ids.length:=by
  by_cases h:k<ids.length
  .exact h
  .rw[List.getElem?_eq_none (by omega)]at hi;cases hi
 refine⟨by have:=hr.le;omega,.inl ?_⟩;rw[hr.no k hi];exact⟨rfl,rfl,_,hf⟩
structure LP(N:Nat)(γ:Type)where
 R:Nat
 read:St->Option (γ×List Prop×List (Option Nat))
 ents:Nat->γ->List (Nat×SV)
 blks:Nat->γ->List SO
 objs:Nat->γ->List (Nat×SO)
 es:List Nat
 os:List Nat
 eseq:∀k g,(ents k g).map (·.1)=es
 oseq:∀k g,(objs k g).map (·.1)=os
 blen:∀k g,(blks k g).length=R
 ilen:∀σ g ps ids,read σ=some (g,ps,ids)->ids.length=R
 ok:∀k0 σ g ps ids,read σ=some (g,ps,ids)->(∀p∈ps,p)->Rel N k0 σ ids (ents k0 g) (blks k0 g) (objs k0 g)
section
variable{N:Nat}{γ δ α:Type}
def LP.slot(N i:Nat)(A:Dv α):LP N α where
 R:=0
 read σ:=match A.dec (σ.slot i)with
  |some (a,ps)=>some (a,ps,[])
  |none=>none
 ents _ a:=[(i,A.enc a)]
 blks _ _:=[]
 objs _ _:=[]
 es:=[i]
 os:=[]
 eseq _ _:=rfl
 oseq _ _:=rfl
 blen _ _:=rfl
 ilen σ g ps ids h:=by
  split at h
  .simp only[Option.some.injEq,Prod.mk.injEq]at h;rw[<-h.2.2];rfl
  .cases h
 ok k0 σ g ps ids h hp:=by
  split at h
  .rename_i a ps' hd;simp only[Option.some.injEq,Prod.mk.injEq]at h;obtain⟨rfl,rfl,rfl⟩:=h;refine⟨λk so h=>by simp at h,λid so h=>by simp at h,λj s h=>?_⟩;simp only[List.mem_singleton,Prod.mk.injEq]at h;obtain⟨rfl,rfl⟩:=h;exact ent_bl (λn ρ x hf=>A.ok _ _ _ _ _ _ hd hp hf) (bl_of_cl (A.cl a))
  .cases h
def LP.row(N i t:Nat)(A:El α):LP N (List α) where
 R:=1
 read σ:=match σ.slot i with
  | .ow j l=>match σ.h.get j with
   | .row t' sz el m=>bif Nat.beq t' t&&Nat.beq sz A.sz then some (A.lstE l el,(l<=m)::A.okE l el,[some j])else none
   |_=>none
  | .k y=>bif nilK y then some ([],[],[none])else none
  |_=>none
 ents k0 xs:=[(i,.ow (N+k0+0) xs.length)]
 blks _ xs:=[.row t A.sz (.fn (A.els xs)) xs.length]
 objs _ _:=[]
 es:=[i]
 os:=[]
 eseq _ _:=rfl
 oseq _ _:=rfl
 blen _ _:=rfl
 ilen σ g ps ids h:=by
  split at h
  .split at h
   .rename_i j l _ t' sz el m hg;cases hb:Nat.beq t' t&&Nat.beq sz A.sz with
    |false=>rw[hb]at h;cases h
    |true=>
     rw[hb]at h;simp only[cond_true,Option.some.injEq,Prod.mk.injEq]at h;rw[<-h.2.2];rfl
   .cases h
  .rename_i y _;cases hb:nilK y with
   |false=>rw[hb]at h;cases h
   |true=>
    rw[hb]at h;simp only[cond_true,Option.some.injEq,Prod.mk.injEq]at h;rw[<-h.2.2];rfl
  .cases h
 ok k0 σ g ps ids h hp:=by
  split at h
  .rename_i j l hs;split at h
   .rename_i t' sz el m hg;cases hb:Nat.beq t' t&&Nat.beq sz A.sz with
    |false=>rw[hb]at h;cases h
    |true=>
     rw[hb]at h;simp only[Bool.and_eq_true]at hb;have e1:=q02 hb.1;have e2:=q02 hb.2;subst e1;subst e2;simp only[cond_true,Option.some.injEq,Prod.mk.injEq]at h;obtain⟨rfl,rfl,rfl⟩:=h;have hl:l<=m:=hp _ (List.mem_cons_self ..);have hk:∀e,e<l->A.Ok (el e):=A.okE_ok l el λp h'=>hp p (List.mem_cons_of_mem _ h');rw[A.lstE_eq];refine⟨λk so h=>?_,λid so h=>by simp at h,λq s h=>?_⟩
     .cases k with
      |succ k=>simp at h
      |zero=>
       simp only[List.getElem?_cons_zero,Option.some.injEq]at h;subst h;rw[A.lst_length];refine .inr ⟨j,rfl,row_blk hg hl (λe=>A.cl _) λe he n ρ v hv=>?_⟩;simp only[El.els];rw[A.lst_getD _ _ _ he];obtain⟨a,ps,d1,d2⟩:=hk e he;have:=A.ok _ _ _ _ _ _ d1 d2 hv;simpa only [El.get,d1]using this
     .simp only[List.mem_singleton,Prod.mk.injEq]at h;obtain⟨rfl,rfl⟩:=h;exact ent_ow (k:=0) hs rfl (by rw[A.lst_length])
   .cases h
  .rename_i y hs;cases hb:nilK y with
   |false=>rw[hb]at h;cases h
   |true=>
    rw[hb]at h;simp only[cond_true,Option.some.injEq,Prod.mk.injEq]at h;obtain⟨rfl,rfl,rfl⟩:=h;refine⟨λk so h=>?_,λid so h=>by simp at h,λq s h=>?_⟩
    .cases k with
     |succ k=>simp at h
     |zero=>
      simp only[List.getElem?_cons_zero,Option.some.injEq]at h;subst h;exact .inl ⟨rfl,.inr ⟨_,_,_,rfl⟩⟩
    .simp only[List.mem_singleton,Prod.mk.injEq]at h;obtain⟨rfl,rfl⟩:=h;exact ent_nil (k:=0) hs hb rfl
  .cases h
def LP.obj(N id t:Nat)(A:El α):LP N α where
 R:=0
 read σ:=match σ.h.get id with
  | .cells xs t'=>bif Nat.beq t' t then match A.decs xs with
   |some (a,ps)=>some (a,ps,[])
   |none=>none else none
  |_=>none
 ents _ _:=[]
 blks _ _:=[]
 objs _ a:=[(id,.cells (A.cells a) t)]
 es:=[]
 os:=[id]
 eseq _ _:=rfl
 oseq _ _:=rfl
 blen _ _:=rfl
 ilen σ g ps ids h:=by
  split at h
  .rename_i xs t' _;cases hb:Nat.beq t' t with
   |false=>rw[hb]at h;cases h
   |true=>
    rw[hb]at h;simp only[cond_true]at h;split at h
    .simp only[Option.some.injEq,Prod.mk.injEq]at h;rw[<-h.2.2];rfl
    .cases h
  .cases h
 ok k0 σ g ps ids h hp:=by
  split at h
  .rename_i xs t' hg;cases hb:Nat.beq t' t with
   |false=>rw[hb]at h;cases h
   |true=>
    rw[hb]at h;have:=q02 hb;subst this;simp only[cond_true]at h;split at h
    .rename_i a ps' hd;simp only[Option.some.injEq,Prod.mk.injEq]at h;obtain⟨rfl,rfl,rfl⟩:=h;refine⟨λk so h=>by simp at h,λid' so h=>?_,λj s h=>by simp at h⟩;simp only[List.mem_singleton,Prod.mk.injEq]at h;obtain⟨rfl,rfl⟩:=h;rw[hg];refine⟨ow_na λ_ h=>h,λn m ρ ρ' L o hr hf=>?_⟩;obtain⟨f1,f2,l,f3,f4⟩:=hf;exact⟨f1,f2,l,f3,A.cl a n m ρ ρ' l hr.ag.2.1 (A.ok _ _ _ _ _ _ hd hp f4)⟩
    .cases h
  .cases h
def LP.rowO(N id t:Nat)(A:El α):LP N (List α) where
 R:=0
 read σ:=match σ.h.get id with
  | .row t' sz el m=>bif Nat.beq t' t&&Nat.beq sz A.sz then some (A.lstE m el,A.okE m el,[])else none
  |_=>none
 ents _ _:=[]
 blks _ _:=[]
 objs _ xs:=[(id,.row t A.sz (.fn (A.els xs)) xs.length)]
 es:=[]
 os:=[id]
 eseq _ _:=rfl
 oseq _ _:=rfl
 blen _ _:=rfl
 ilen σ g ps ids h:=by
  split at h
  .rename_i t' sz el m _;cases hb:Nat.beq t' t&&Nat.beq sz A.sz with
   |false=>rw[hb]at h;cases h
   |true=>
    rw[hb]at h;simp only[cond_true,Option.some.injEq,Prod.mk.injEq]at h;rw[<-h.2.2];rfl
  .cases h
 ok k0 σ g ps ids h hp:=by
  split at h
  .rename_i t' sz el m hg;cases hb:Nat.beq t' t&&Nat.beq sz A.sz with
   |false=>rw[hb]at h;cases h
   |true=>
    rw[hb]at h;simp only[Bool.and_eq_true]at hb;have e1:=q02 hb.1;have e2:=q02 hb.2;subst e1;subst e2;simp only[cond_true,Option.some.injEq,Prod.mk.injEq]at h;obtain⟨rfl,rfl,rfl⟩:=h;have hk:∀e,e<m->A.Ok (el e):=A.okE_ok m el hp;rw[A.lstE_eq];refine⟨λk so h=>by simp at h,λid' so h=>?_,λj s h=>by simp at h⟩;simp only[List.mem_singleton,Prod.mk.injEq]at h;obtain⟨rfl,rfl⟩:=h;rw[hg];refine⟨ow_na λ_ h=>h,λn m' ρ ρ' L o hr hf=>?_⟩;rw[A.lst_length];refine⟨hf.1,?_⟩;rcases hf.2 with h2|⟨h1,h2,c,fz,h3,h3',h4,h5,h6,h7⟩
    .exact .inl h2
    .refine .inr ⟨h1,h2,c,fz,h3,h3',h4,h5,h6,λe he=>?_⟩;obtain⟨l,q1,q2,q3⟩:=h7 e he;obtain⟨a,ps,d1,d2⟩:=hk e he;refine⟨l,q1,?_,q3⟩;have:=A.cl a n m' ρ ρ' l hr.ag.2.1 (A.ok _ _ _ _ _ _ d1 d2 q2);show SV.fits m' ρ' (A.cells ((A.lst m el).getD e A.dflt)) l;rw[A.lst_getD _ _ _ he];simpa only [El.get,d1]using this
  .cases h
def LP.objRow(N id t' t:Nat)(A:El α):LP N (List α) where
 R:=1
 read σ:=match σ.h.get id with
  | .cells [s] t1=>bif Nat.beq t1 t' then match s with
   | .ow j l=>match σ.h.get j with
    | .row t2 sz el m=>bif Nat.beq t2 t&&Nat.beq sz A.sz then some (A.lstE l el,(l<=m)::A.okE l el,[some j])else none
    |_=>none
   | .k y=>bif nilK y then some ([],[],[none])else none
   |_=>none else none
  |_=>none
 ents _ _:=[]
 blks _ xs:=[.row t A.sz (.fn (A.els xs)) xs.length]
 objs k0 xs:=[(id,.cells [.ow (N+k0+0) xs.length] t')]
 es:=[]
 os:=[id]
 eseq _ _:=rfl
 oseq _ _:=rfl
 blen _ _:=rfl
 ilen σ g ps ids h:=by
  split at h
  .rename_i s t1 _;cases hb:Nat.beq t1 t' with
   |false=>rw[hb]at h;cases h
   |true=>
    rw[hb]at h;simp only[cond_true]at h;cases s with
    |ow j l=>
     dsimp only at h;split at h
     .rename_i t2 sz el m hg;cases hb:Nat.beq t2 t&&Nat.beq sz A.sz with
      |false=>rw[hb]at h;cases h
      |true=>
       rw[hb]at h;simp only[cond_true,Option.some.injEq,Prod.mk.injEq]at h;rw[<-h.2.2];rfl
     .cases h
    |k y=>
     dsimp only at h;cases hb:nilK y with
     |false=>rw[hb]at h;cases h
     |true=>
      rw[hb]at h;simp only[cond_true,Option.some.injEq,Prod.mk.injEq]at h;rw[<-h.2.2];rfl
    |_=>cases h
  .cases h
 ok k0 σ g ps ids h hp:=by
  split at h
  .rename_i s t1 hc;cases hb1:Nat.beq t1 t' with
   |false=>rw[hb1]at h;cases h
   |true=>
    have e0:=q02 hb1;subst e0;rw[hb1]at h;simp only[cond_true]at h;cases s with
    |ow j l=>
     dsimp only at h;split at h
     .rename_i t2 sz el m hg;cases hb:Nat.beq t2 t&&Nat.beq sz A.sz with
      |false=>rw[hb]at h;cases h
      |true=>
       rw[hb]at h;simp only[Bool.and_eq_true]at hb;have e1:=q02 hb.1;have e2:=q02 hb.2;subst e1;subst e2;simp only[cond_true,Option.some.injEq,Prod.mk.injEq]at h;obtain⟨rfl,rfl,rfl⟩:=h;have hl:l<=m:=hp _ (List.mem_cons_self ..);have hk:∀e,e<l->A.Ok (el e):=A.okE_ok l el λp h'=>hp p (List.mem_cons_of_mem _ h');rw[A.lstE_eq];refine⟨λk so h=>?_,λid so h=>?_,λq s h=>by simp at h⟩
       .cases k with
        |succ k=>simp at h
        |zero=>
         simp only[List.getElem?_cons_zero,Option.some.injEq]at h;subst h;rw[A.lst_length];refine .inr ⟨j,rfl,row_blk hg hl (λe=>A.cl _) λe he n ρ v hv=>?_⟩;simp only[El.els];rw[A.lst_getD _ _ _ he];obtain⟨a,ps,d1,d2⟩:=hk e he;have:=A.ok _ _ _ _ _ _ d1 d2 hv;simpa only [El.get,d1]using this
       .simp only[List.mem_singleton,Prod.mk.injEq]at h;obtain⟨rfl,rfl⟩:=h;rw[hc];refine⟨ow_na λ_ h=>h,λn m ρ ρ' L o hr hf=>?_⟩;obtain⟨f1,f2,l',f3,f4⟩:=hf;refine⟨f1,f2,l',f3,?_⟩;obtain⟨y,r,rfl,hy,hr'⟩:=q03 f4;exact⟨ent_ow (k:=0) rfl rfl (by rw[A.lst_length]) n m ρ ρ' y hr hy,by have:=q0b hr';subst this;trivial⟩
     .cases h
    |k y=>
     dsimp only at h;cases hb:nilK y with
     |false=>rw[hb]at h;cases h
     |true=>
      rw[hb]at h;simp only[cond_true,Option.some.injEq,Prod.mk.injEq]at h;obtain⟨rfl,rfl,rfl⟩:=h;refine⟨λk so h=>?_,λid so h=>?_,λq s h=>by simp at h⟩
      .cases k with
       |succ k=>simp at h
       |zero=>
        simp only[List.getElem?_cons_zero,Option.some.injEq]at h;subst h;exact .inl ⟨rfl,.inr ⟨_,_,_,rfl⟩⟩
      .simp only[List.mem_singleton,Prod.mk.injEq]at h;obtain⟨rfl,rfl⟩:=h;rw[hc];refine⟨ow_na λ_ h=>h,λn m ρ ρ' L o hr hf=>?_⟩;obtain⟨f1,f2,l',f3,f4⟩:=hf;refine⟨f1,f2,l',f3,?_⟩;obtain⟨y',r,rfl,hy,hr'⟩:=q03 f4;exact⟨ent_nil (k:=0) rfl hb rfl n m ρ ρ' y' hr hy,by have:=q0b hr';subst this;trivial⟩
    |_=>cases h
  .cases h
def LP.iter(N id:Nat):LP N (ByteArray×Nat) where
 R:=0
 read σ:=match σ.h.get id with
  | .obj (.stringIter s p)=>some ((s,p),[],[])
  |_=>none
 ents _ _:=[]
 blks _ _:=[]
 objs _ g:=[(id,.obj (.stringIter g.1 g.2))]
 es:=[]
 os:=[id]
 eseq _ _:=rfl
 oseq _ _:=rfl
 blen _ _:=rfl
 ilen σ g ps ids h:=by
  split at h
  .simp only[Option.some.injEq,Prod.mk.injEq]at h;rw[<-h.2.2];rfl
  .cases h
 ok k0 σ g ps ids h hp:=by
  split at h
  .rename_i s p hg;simp only[Option.some.injEq,Prod.mk.injEq]at h;obtain⟨rfl,rfl,rfl⟩:=h;refine⟨λk so h=>by simp at h,λid' so h=>?_,λj s h=>by simp at h⟩;simp only[List.mem_singleton,Prod.mk.injEq]at h;obtain⟨rfl,rfl⟩:=h;rw[hg];exact⟨ow_rfl,λn m ρ ρ' L o _ hf=>hf⟩
  .cases h
def litEq(N:Nat)(a b:SV):Bool:=
 match a,b with
 | .p i o,.p i' o'=>Nat.beq i i'&&Nat.beq o o'&&Nat.blt i N
 | .sl i o l c,.sl i' o' l' c'=>Nat.beq i i'&&Nat.beq o o'&&Nat.beq l l'&&Nat.beq c c'&&Nat.blt i N
 | .yl i,.yl i'=>Nat.beq i i'&&Nat.blt i N
 | .mp i,.mp i'=>Nat.beq i i'&&Nat.blt i N
 | .fn f [],.fn f' []=>Nat.beq f f'
 | .k (.int q i),.k (.int q' i')=>decide (q=q')&&decide (i=i')
 | .k (.bool x),.k (.bool y)=>x==y
 | .k (.slice none 0 0),.k (.slice none 0 0)=>true
 |_,_=>false
theorem litEq_ok{a b:SV}(h:litEq N a b=true):a=b/\Bl N b:=by
 unfold litEq at h;split at h
 .simp only[Bool.and_eq_true]at h;refine⟨by rw[q02 h.1.1,q02 h.1.2],λn m ρ ρ' x hm ha hf=>?_⟩;have hlt:=Nat.le_of_ble_eq_true h.2;rw[q02 h.1.1]at hlt;obtain⟨_,rfl⟩:=hf;exact⟨by omega,by rw[ha.1 _ hlt]⟩
 .simp only[Bool.and_eq_true]at h;refine⟨by rw[q02 h.1.1.1.1,q02 h.1.1.1.2,q02 h.1.1.2,q02 h.1.2],λn m ρ ρ' x hm ha hf=>?_⟩;have hlt:=Nat.le_of_ble_eq_true h.2;rw[q02 h.1.1.1.1]at hlt;obtain⟨_,rfl⟩:=hf;exact⟨by omega,by rw[ha.1 _ hlt]⟩
 .simp only[Bool.and_eq_true]at h;refine⟨by rw[q02 h.1],λn m ρ ρ' x hm ha hf=>?_⟩;have hlt:=Nat.le_of_ble_eq_true h.2;rw[q02 h.1]at hlt;obtain⟨_,rfl⟩:=hf;exact⟨by omega,by rw[ha.1 _ hlt]⟩
 .simp only[Bool.and_eq_true]at h;refine⟨by rw[q02 h.1],λn m ρ ρ' x hm ha hf=>?_⟩;have hlt:=Nat.le_of_ble_eq_true h.2;rw[q02 h.1]at hlt;obtain⟨_,rfl⟩:=hf;exact⟨by omega,by rw[ha.1 _ hlt]⟩
 .refine⟨by rw[q02 h],λn m ρ ρ' x _ _ hf=>?_⟩;obtain⟨l,e,hl⟩:=hf;have:=q0b hl;subst this;exact⟨[],e,trivial⟩
 .simp only[Bool.and_eq_true,decide_eq_true_eq]at h;exact⟨by rw[h.1,h.2],λ_ _ _ _ _ _ _ h=>h⟩
 .rename_i x y;have:x=y:=by simpa using h
  exact⟨by rw[this],λ_ _ _ _ _ _ _ h=>h⟩
 .exact⟨rfl,λ_ _ _ _ _ _ _ h=>h⟩
 .cases h
def LP.fix(N i:Nat)(v:SV):LP N Unit where
 R:=0
 read σ:=bif litEq N (σ.slot i) v then some ((),[],[])else none
 ents _ _:=[(i,v)]
 blks _ _:=[]
 objs _ _:=[]
 es:=[i]
 os:=[]
 eseq _ _:=rfl
 oseq _ _:=rfl
 blen _ _:=rfl
 ilen σ g ps ids h:=by
  cases hb:litEq N (σ.slot i) v with
  |false=>rw[hb]at h;cases h
  |true=>
   rw[hb]at h;simp only[cond_true,Option.some.injEq,Prod.mk.injEq]at h;rw[<-h.2.2];rfl
 ok k0 σ g ps ids h hp:=by
  cases hb:litEq N (σ.slot i) v with
  |false=>rw[hb]at h;cases h
  |true=>
   rw[hb]at h;simp only[cond_true,Option.some.injEq,Prod.mk.injEq]at h;obtain⟨_,rfl,rfl⟩:=h;obtain⟨h1,h2⟩:=litEq_ok hb;refine⟨λk so h=>by simp at h,λid so h=>by simp at h,λj s h=>?_⟩;simp only[List.mem_singleton,Prod.mk.injEq]at h;obtain⟨rfl,rfl⟩:=h;exact ent_bl (λn ρ x hf=>by rw[h1]at hf;exact hf) h2
def LP.pair(A:LP N γ)(B:LP N δ):LP N (γ×δ) where
 R:=A.R+B.R
 read σ:=match A.read σ with
  |some (a,ps,is)=>match B.read σ with
   |some (b,qs,js)=>some ((a,b),ps++qs,is++js)
   |none=>none
  |none=>none
 ents k0 g:=A.ents k0 g.1++B.ents (k0+A.R) g.2
 blks k0 g:=A.blks k0 g.1++B.blks (k0+A.R) g.2
 objs k0 g:=A.objs k0 g.1++B.objs (k0+A.R) g.2
 es:=A.es++B.es
 os:=A.os++B.os
 eseq k g:=by simp[A.eseq,B.eseq]
 oseq k g:=by simp[A.oseq,B.oseq]
 blen k g:=by simp[A.blen,B.blen]
 ilen σ g ps ids h:=by
  split at h
  .rename_i a ps0 is ha;split at h
   .rename_i b qs js hb;simp only[Option.some.injEq,Prod.mk.injEq]at h;obtain⟨rfl,rfl,rfl⟩:=h;simp[A.ilen _ _ _ _ ha,B.ilen _ _ _ _ hb]
   .cases h
  .cases h
 ok k0 σ g ps ids h hp:=by
  split at h
  .rename_i a ps0 is ha;split at h
   .rename_i b qs js hb;simp only[Option.some.injEq,Prod.mk.injEq]at h;obtain⟨rfl,rfl,rfl⟩:=h;have ra:=A.ok k0 _ _ _ _ ha λp h=>hp p (List.mem_append_left _ h);have rb:=B.ok (k0+A.R) _ _ _ _ hb λp h=>hp p (List.mem_append_right _ h);have la:=A.ilen _ _ _ _ ha;have lr:=A.blen k0 a;simp only;refine⟨λk so h=>?_,λid so h=>?_,λj s h=>?_⟩
    .by_cases hk:k<A.R
     .rw[List.getElem?_append_left (by omega)]at h;rw[List.getElem?_append_left (by omega)];rcases ra.blk k so h with h1|⟨j,h1,h2,h3⟩
      .exact .inl h1
      .exact .inr ⟨j,h1,h2,λn m ρ ρ' L o hr=>h3 n m ρ ρ' L o hr.left⟩
     .rw[List.getElem?_append_right (by omega)]at h;rw[List.getElem?_append_right (by omega),la];rw[lr]at h;rcases rb.blk (k-A.R) so h with h1|⟨j,h1,h2,h3⟩
      .exact .inl h1
      .exact .inr ⟨j,h1,h2,λn m ρ ρ' L o hr=>h3 n m ρ ρ' L o (la▸hr.right)⟩
    .rcases List.mem_append.1 h with h|h
     .obtain⟨o1,o2⟩:=ra.obj id so h;exact⟨o1,λn m ρ ρ' L o hr=>o2 n m ρ ρ' L o hr.left⟩
     .obtain⟨o1,o2⟩:=rb.obj id so h;exact⟨o1,λn m ρ ρ' L o hr=>o2 n m ρ ρ' L o (la▸hr.right)⟩
    .rcases List.mem_append.1 h with h|h
     .exactλn m ρ ρ' x hr=>ra.ent j s h n m ρ ρ' x hr.left
     .exactλn m ρ ρ' x hr=>rb.ent j s h n m ρ ρ' x (la▸hr.right)
   .cases h
  .cases h
def LP.iso(A:LP N γ)(f:γ->δ)(g:δ->γ)(hgf:∀a,g (f a)=a):LP N δ where
 R:=A.R
 read σ:=match A.read σ with
  |some (a,ps,is)=>some (f a,ps,is)
  |none=>none
 ents k d:=A.ents k (g d)
 blks k d:=A.blks k (g d)
 objs k d:=A.objs k (g d)
 es:=A.es
 os:=A.os
 eseq k d:=A.eseq _ _
 oseq k d:=A.oseq _ _
 blen k d:=A.blen _ _
 ilen σ d ps ids h:=by
  split at h
  .rename_i a ps0 is ha;simp only[Option.some.injEq,Prod.mk.injEq]at h;obtain⟨rfl,rfl,rfl⟩:=h;exact A.ilen _ _ _ _ ha
  .cases h
 ok k0 σ d ps ids h hp:=by
  split at h
  .rename_i a ps0 is ha;simp only[Option.some.injEq,Prod.mk.injEq]at h;obtain⟨rfl,rfl,rfl⟩:=h;rw[hgf];exact A.ok _ _ _ _ _ ha hp
  .cases h
end
end Go.Sx

namespace Go.Sx
open Go.RowKit
variable[Env]
def dstsOf:Code->List Nat
 | .region _ ops _=>ops.toList.filterMap (·.dst)
 | .seq a b=>dstsOf a++dstsOf b
 | .cond _ a b=>dstsOf a++dstsOf b
 | .block _ c=>dstsOf c
 | .scope c=>dstsOf c
 | .loop c=>dstsOf c
 |_=>[]
def rowsL:Nat->List SO->List (Nat×SO)
 |_,[]=>[]
 |i,so::r=>(i,so)::rowsL (i+1) r
def injL{N:Nat}{γ:Type}(A:LP N γ)(W:List Nat)(σ:St)(ds:List Nat)(g:γ):St:=
 ⟨σ.n,A.ents 0 g++(W.map (λi=>(i,SV.u))++σ.t),⟨σ.h.nx+A.R,whole (rowsL σ.h.nx (A.blks 0 g))++(whole (A.objs 0 g)++(whole (ds.map (λi=>(i,SO.dead)))++σ.h.l)),σ.h.b⟩,σ.d,σ.b⟩
def isIn(i:Nat):List Nat->Bool
 | []=>false
 |j::r=>bif Nat.beq i j then true else isIn i r
theorem q9t{i:Nat}:∀{l:List Nat},isIn i l=true↔i∈l
 | []=>by simp[isIn]
 |j::r=>by
  simp only[isIn,List.mem_cons];cases hb:Nat.beq i j with
  |true=>simp[q02 hb]
  |false=>
   simp only[cond_false];rw[q9t];constructor
   .exact .inr
   .rintro(rfl|h)
    .rw[Nat.beq_refl]at hb;cases hb
    .exact h
theorem isIn_not{i:Nat}{l:List Nat}(h:isIn i l=false):i∉l:=λhm=>by rw[q9t.2 hm]at h;cases h
def idsOk(N:Nat):List (Option Nat)->Bool
 | []=>true
 |none::r=>idsOk N r
 |some j::r=>Nat.ble N j&&(!isIn j (r.filterMap λx=>x)&&idsOk N r)
def chkL{N:Nat}{γ:Type}(A:LP N γ)(W DL:List Nat)(n0:Nat)(y:St):Bool:=
 ((jkeys y.t []).all λi=>isIn i A.es||isIn i W)&&(((jkeys y.h.l []).all λi=>Nat.ble N i||isIn i A.os)&&(qb6 y.d DL&&(Nat.beq y.n n0&&A.os.all λi=>Nat.blt i N)))
def isMark:SO->Bool
 | .obj (.deferred (some []))=>true
 |_=>false
theorem isMark_eq{s:SO}(h:isMark s=true):s=.obj (.deferred (some [])):=by
 unfold isMark at h;split at h
 .rfl
 .cases h
def strip(N m:Nat)(h:SH):List Nat->SH×List Nat
 | []=>(h,[])
 |i::d=>match Nat.ble m d.length&&Nat.ble N i with
  |true=>match isMark (h.get i)with
   |true=>strip N m (h.set i .dead) d
   |false=>(h,i::d)
  |false=>(h,i::d)
def q91(N:Nat)(DL:List Nat)(y:St):St:=match qb6 y.d DL with
 |true=>y
 |false=>⟨y.n,y.t,(strip N DL.length y.h y.d).1,(strip N DL.length y.h y.d).2,y.b⟩
theorem q75{i:Nat}:∀{r:List SO}{k:Nat}(d:SO),(∀q,i=k+q->q<r.length->∃so,r[q]?=some so/\look d i (rowsL k r)=so)/\((i<k\/k+r.length<=i)->look d i (rowsL k r)=d)
 | [],k,d=>⟨λq _ h=>by simp at h,λ_=>rfl⟩
 |so::r,k,d=>by
  obtain⟨h1,h2⟩:=q75 (i:=i) (r:=r) (k:=k+1) d;constructor
  .intro q hq hlt;simp only[rowsL,q1i];by_cases hik:i=k
   .rw[if_pos hik];have:q=0:=by omega
    subst this;exact⟨so,rfl,rfl⟩
   .rw[if_neg hik];obtain⟨q',rfl⟩:∃q',q=q'+1:=⟨q-1,by omega⟩;obtain⟨so',e1,e2⟩:=h1 q' (by omega) (by simpa using hlt);exact⟨so',by simpa using e1,e2⟩
  .intro h;simp only[rowsL,q1i];simp only[List.length_cons]at h;rw[if_neg (by omega)];exact h2 (by omega)
theorem q8p{α:Type}(d:α)(i:Nat):∀(l:List (Nat×α)),(i,look d i l)∈l\/i∉l.map (·.1)
 | []=>.inr (by simp)
 |(j,x)::r=>by
  rw[q1i];by_cases hij:i=j
  .subst hij;rw[if_pos rfl];exact .inl (List.mem_cons_self ..)
  .rw[if_neg hij];rcases q8p d i r with h|h
   .exact .inl (List.mem_cons_of_mem _ h)
   .refine .inr ?_;simp only[List.map_cons,List.mem_cons,not_or];exact⟨hij,h⟩
theorem look_dead(i:Nat)(d:SO)(l:List Nat)(h:i∈l):look d i (l.map λi=>(i,SO.dead))=.dead:=by
 rcases q8p d i (l.map λi=>(i,SO.dead))with h1|h1
 .obtain⟨j,_,e⟩:=List.mem_map.1 h1;simp only[Prod.mk.injEq]at e;exact e.2.symm
 .exact absurd (by simpa using h) h1
section
variable{M:Nat->Prop}{w0 w w00:World}{ρ ρ0:Rh}{N:Nat}{γ:Type}
theorem strip_ok:∀(m:Nat)(d:List Nat)(n:Nat)(t:List (Nat×SV))(h:SH)(b:List (Nat×SV))(ρ:Rh){a:Act},Mod M w0 ρ ⟨n,t,h,d,b⟩ a w->
  ∃ρ',Agree h.nx ρ ρ'/\Mod M w0 ρ' ⟨n,t,(strip N m h d).1,(strip N m h d).2,b⟩ a w/\(strip N m h d).1.nx=h.nx/\(strip N m h d).1.b=h.b/\∀i,i<N->(strip N m h d).1.get i=h.get i
 |m,[],n,t,h,b,ρ,a,hm=>⟨ρ,Agree.refl _ _,hm,rfl,rfl,λ_ _=>rfl⟩
 |m,i::d,n,t,h,b,ρ,a,hm=>by
  have same:(strip N m h (i::d))=(h,i::d)->∃ρ',Agree h.nx ρ ρ'/\Mod M w0 ρ' ⟨n,t,(strip N m h (i::d)).1,(strip N m h (i::d)).2,b⟩ a w/\(strip N m h (i::d)).1.nx=h.nx/\(strip N m h (i::d)).1.b=h.b/\∀j,j<N->(strip N m h (i::d)).1.get j=h.get j:=λe=>by
   rw[e];exact⟨ρ,Agree.refl _ _,hm,rfl,rfl,λ_ _=>rfl⟩
  cases hc:Nat.ble m d.length&&Nat.ble N i with
  |false=>exact same (by simp only[strip,hc])
  |true=>
   cases hg:isMark (h.get i)with
   |false=>exact same (by simp only[strip,hc,hg])
   |true=>
    have e:strip N m h (i::d)=strip N m (h.set i .dead) d:=by simp only[strip,hc,hg]
    rw[e];have hgi:=isMark_eq hg;have hown:(h.get i).own (ρ i):=by rw[hgi];trivial
    have hf:=hm.hp.ob i;rw[show(⟨n,t,h,i::d,b⟩:St).h.get i=.obj (.deferred (some []))from hgi]at hf;have hfz:=hm.hp.freeze (i:=i) hown hf.2.2;have hsep:=hm.hp.sep i hown;have hag:Agree h.nx ρ (ρ.frz (ρ i).blk (.deferred (some []))):=q61 ρ hsep;obtain⟨s,h1,h2,h3⟩:=hm.df.mix;obtain⟨s',q1,q2⟩:=h1.drop
    have hnot:(ρ i).blk∉s:=λhb=>by
     have:=(h3 _ hb).1;rw[hsep]at this;cases this
    have hmod:Mod M w0 (ρ.frz (ρ i).blk (.deferred (some []))) ⟨n,t,h.set i .dead,d,b⟩ a w:={
     tm:=hm.tm.mono (Nat.le_refl _) hag
     df:=⟨⟨s',q1.lc λ_ _=>rfl,q2.nodup_iff.2 (List.nodup_cons.2 ⟨hnot,h2⟩),λc hc=>by
      rcases List.mem_cons.1 (q2.mem_iff.1 hc)with rfl|hc
      .refine⟨by simp[Rh.frz],hm.hp.ow i hown,?_⟩;cases hc:ρ.lo.m0 (ρ i).blk with
       |none=>exact hc
       |some o=>have:=hm.df.m0 _ _ hc;rw[hsep]at this;cases this
      .obtain⟨r1,r2,r3⟩:=h3 c hc;exact⟨hag.2.1 _ _ r1,r2,r3⟩⟩,λc o hc=>hag.2.1 _ _ (hm.df.m0 c o hc)⟩
     dl:=λj hj=>hm.dl j (List.mem_cons_of_mem _ hj)
     hp:=hfz}
    obtain⟨ρ',k1,k2,k3,k4,k5⟩:=strip_ok m d n t (h.set i .dead) b _ hmod;refine⟨ρ',hag.trans (Nat.le_refl _) k1,k2,k3,k4,λj hj=>?_⟩;rw[k5 j hj,SH.get_set];simp only[Bool.and_eq_true]at hc;have:=Nat.le_of_ble_eq_true hc.2;rw[if_neg (by omega)]
theorem stripS_ok{DL:List Nat}{y:St}{a:Act}(hm:Mod M w0 ρ y a w):∃ρ',Agree y.h.nx ρ ρ'/\Mod M w0 ρ' (q91 N DL y) a w/\(q91 N DL y).h.nx=y.h.nx/\(q91 N DL y).b=y.b/\(q91 N DL y).h.b=y.h.b/\∀i,i<N->(q91 N DL y).h.get i=y.h.get i:=by
 unfold q91;split
 .exact⟨ρ,Agree.refl _ _,hm,rfl,rfl,rfl,λ_ _=>rfl⟩
 .obtain⟨ρ',h1,h2,h3,h4,h5⟩:=strip_ok (N:=N) DL.length y.d y.n y.t y.h y.b ρ (a:=a) hm;exact⟨ρ',h1,h2,h3,rfl,h4,h5⟩
theorem inj_ok{A:LP N γ}{W ds:List Nat}{σ0 σ:St}{a a0:Act}{g:γ}{ids:List (Option Nat)}(h0:Mod M w0 ρ0 σ0 a0 w00)(hm:Mod M w0 ρ σ a w)(hN:σ0.h.nx=N)(hNle:N<=σ.h.nx)
  (hn:σ.n=σ0.n) (hd:σ.d=σ0.d) (rel:Rel N 0 σ ids (A.ents 0 g) (A.blks 0 g) (A.objs 0 g)) (hil:ids.length=A.R)
  (hid:∀(k k' j:Nat),ids[k]?=some (some j)->ids[k']?=some (some j)->k=k') (hj:∀(k j:Nat),ids[k]?=some (some j)->N<=j\/j∈ds) (hob:∀id,id∈A.os->id<N/\id∉ds)
  (hs:∀i,i∈A.es\/i∈W\/σ.slot i=σ0.slot i) (hh:∀id,id<N->id∈A.os\/id∈ds\/σ.h.get id=σ0.h.get id) :
  ∃ρ',Agree N ρ ρ'/\Mod M w0 ρ' (injL A W σ0 ds g) a w:=by
 let ρ':Rh:=⟨λk=>if N<=k/\k<N+A.R then(match ids[k-N]? with|some (some j)=>ρ j|_=>⟨0,0,0,true⟩)else ρ k,ρ.mem,ρ.lo⟩
 have hag:Agree N ρ ρ':=⟨λi hi=>by show(if _ then _ else _)=_;rw[if_neg (by omega)],λ_ _ h=>h,rfl⟩
 have hρ:∀(k j:Nat),k<A.R->ids[k]?=some (some j)->ρ' (N+k)=ρ j:=λk j hk hj=>by
  show(if _ then _ else _)=_;rw[if_pos (by omega),show N+k-N=k by omega,hj]
 have hρn:∀k,k<A.R->ids[k]?=some none->ρ' (N+k)=⟨0,0,0,true⟩:=λk hk hj=>by
  show(if _ then _ else _)=_;rw[if_pos (by omega),show N+k-N=k by omega,hj]
 have hρl:∀k,k<N->ρ' k=ρ k:=λk hk=>hag.1 k hk;have hrl:=A.blen 0 g
 have hrn:Rn N 0 ids (N+A.R) ρ ρ':=⟨by rw[hil];omega,hag,λk j hk=>by
   have hlt:k<ids.length:=by
    by_cases h:k<ids.length
    .exact h
    .rw[List.getElem?_eq_none (by omega)]at hk;cases hk
   simpa using hρ k j (by omega) hk,λk hk=>by
   have hlt:k<ids.length:=by
    by_cases h:k<ids.length
    .exact h
    .rw[List.getElem?_eq_none (by omega)]at hk;cases hk
   simpa using hρn k (by omega) hk⟩
 have hget:∀k,(∃q so,k=N+q/\q<A.R/\(A.blks 0 g)[q]?=some so/\(injL A W σ0 ds g).h.get k=so)\/
   (k∈A.os/\(k,(injL A W σ0 ds g).h.get k)∈A.objs 0 g)\/(injL A W σ0 ds g).h.get k=.dead\/(k<N/\k∉A.os/\k∉ds/\(injL A W σ0 ds g).h.get k=σ0.h.get k):=λk=>by
  have e:(injL A W σ0 ds g).h.get k=look (look (look (lookE (lookE .dead k σ0.h.b) k σ0.h.l) k (ds.map λi=>(i,SO.dead))) k (A.objs 0 g)) k (rowsL N (A.blks 0 g)):=by
   simp only[injL,SH.get,q2n,q51,hN]
  obtain⟨r1,r2⟩:=q75 (i:=k) (r:=A.blks 0 g) (k:=N) (look (look (lookE (lookE .dead k σ0.h.b) k σ0.h.l) k (ds.map λi=>(i,SO.dead))) k (A.objs 0 g));by_cases hk:N<=k/\k<N+A.R
  .obtain⟨so,e1,e2⟩:=r1 (k-N) (by omega) (by omega);exact .inl ⟨k-N,so,by omega,by omega,e1,by rw[e,e2]⟩
  .rw[r2 (by omega)]at e;rcases q8p (look (lookE (lookE .dead k σ0.h.b) k σ0.h.l) k (ds.map λi=>(i,SO.dead))) k (A.objs 0 g)with h|h
   .refine .inr (.inl ⟨?_,by rw[e];exact h⟩);rw[<-A.oseq 0 g];exact List.mem_map.2 ⟨_,h,rfl⟩
   .rw[q2a _ _ h]at e;rw[A.oseq 0 g]at h;by_cases hkd:k∈ds
    .exact .inr (.inr (.inl (by rw[e,look_dead _ _ _ hkd])))
    .rw[q2a _ _ (by simpa using hkd)]at e;by_cases hkN:k<N
     .exact .inr (.inr (.inr ⟨hkN,h,hkd,e⟩))
     .refine .inr (.inr (.inl ?_))
      have:σ0.h.get k=.dead:=by
       cases hg:σ0.h.get k with
       |dead=>rfl
       |_=>have:=h0.hp.lt k (by rw[hg];rfl);omega
      rw[e];exact this
 have hsrc:∀k,((injL A W σ0 ds g).h.get k).own (ρ' k)->∃j,(σ.h.get j).own (ρ j)/\ρ' k=ρ j/\((∃q,k=N+q/\q<A.R/\ids[q]?=some (some j))\/(k=j/\k<N/\k∉ds)):=λk hk=>by
  rcases hget k with ⟨q,so,rfl,hq,hr,e⟩|⟨ho,e⟩|e|⟨hkN,hko,hkd,e⟩
  .rw[e]at hk;rcases rel.blk q so hr with ⟨hi,rfl|⟨t,sz,el,rfl⟩⟩|⟨j,hi,hgj,_⟩
   .exact hk.elim
   .rw[hρn q hq hi]at hk;cases hk
   .rw[hρ q j hq hi]at hk ⊢;exact⟨j,hgj.1 _ hk,rfl,.inl ⟨q,rfl,hq,hi⟩⟩
  .have:=hob k ho;rw[hρl k this.1]at hk;exact⟨k,(rel.obj _ _ e).1.1 _ hk,hρl k this.1,.inr ⟨rfl,this.1,this.2⟩⟩
  .rw[e]at hk;exact hk.elim
  .rw[e,hρl k hkN]at hk;rcases hh k hkN with h|h|h
   .exact absurd h hko
   .exact absurd h hkd
   .exact⟨k,by rw[h];exact hk,hρl k hkN,.inr ⟨rfl,hkN,hkd⟩⟩
 refine⟨ρ',hag,⟨hm.tm.1.trans hn,λi hi=>?_⟩,?_,λi hi=>?_,?_⟩
 ·
  have hi':i<σ.n:=by rw[hn];exact hi
  have hf:=hm.tm.2 i hi';rw[St.look_lg]at hf ⊢
  have e:(injL A W σ0 ds g).slot i=look (look (look (look (.k undef) i σ0.b) i σ0.t) i (W.map λi=>(i,SV.u))) i (A.ents 0 g):=by
   simp only[injL,St.slot,q39]
  show((injL A W σ0 ds g).slot i).fit (σ0.h.nx+A.R) ρ' _;rw[hN];rcases q8p (look (look (look (.k undef) i σ0.b) i σ0.t) i (W.map λi=>(i,SV.u))) i (A.ents 0 g)with h|h
  .rw[<-e]at h;exact rel.ent i _ h _ _ _ _ _ hrn hf
  .rw[q2a _ _ h]at e;by_cases hiW:i∈W
   .have:(injL A W σ0 ds g).slot i=.u:=by
     rw[e];rcases q8p (look (look (.k undef) i σ0.b) i σ0.t) i (W.map λi=>(i,SV.u))with h1|h1
     .obtain⟨j,_,e⟩:=List.mem_map.1 h1;simp only[Prod.mk.injEq]at e;exact e.2.symm
     .exact absurd (by simpa using hiW) h1
    rw[this];trivial
   .rw[q2a _ _ (by simpa using hiW)]at e;rw[A.eseq]at h;rcases hs i with h1|h1|h1
    .exact absurd h1 h
    .exact absurd h1 hiW
    .have hf0:=h0.tm.2 i hi;rw[St.look_lg,hN]at hf0;have e':(injL A W σ0 ds g).slot i=σ0.slot i:=e;rw[e'];rw[h1]at hf;exact fit_low (Nat.le_add_right _ _) hag _ _ _ hf0 hf
 ·
  show Dfs M w0 ρ' σ0.d a.defers;have h1:=hm.df;rw[hd]at h1;refine h1.mono hag λi hi=>?_;rw[<-hN];exact h0.dl i hi
 .show i<σ0.h.nx+A.R;have:=h0.dl i hi;omega
 ·
  exact {
   os:=hm.hp.os
   tape:=hm.hp.tape
   output:=hm.hp.output
   size:=hm.hp.size
   block:=hm.hp.block
   lt:=λk hl=>by
    show k<σ0.h.nx+A.R;rw[hN];rcases hget k with ⟨q,so,rfl,hq,_⟩|⟨ho,_⟩|e|⟨hkN,_⟩
    .omega
    .have:=(hob k ho).1;omega
    .rw[e]at hl;cases hl
    .omega
   ob:=λk=>by
    show((injL A W σ0 ds g).h.get k).fit (σ0.h.nx+A.R) ρ' (ρ' k) _;rw[hN];rcases hget k with ⟨q,so,rfl,hq,hr,e⟩|⟨ho,e⟩|e|⟨hkN,hko,hkd,e⟩
    .rw[e];rcases rel.blk q so hr with ⟨hi,rfl|⟨t,sz,el,rfl⟩⟩|⟨j,hi,hgj,himp⟩
     .trivial
     .rw[hρn q hq hi];exact⟨Nat.zero_le _,.inl ⟨rfl,rfl⟩⟩
     .rw[hρ q j hq hi];exact himp σ.h.nx _ ρ ρ' _ _ hrn (hm.hp.ob j)
    .have hk:=(hob k ho).1;rw[hρl k hk];exact(rel.obj _ _ e).2 σ.h.nx _ ρ ρ' _ _ hrn (hm.hp.ob k)
    .rw[e];trivial
    .rw[e,hρl k hkN];have hf:=hm.hp.ob k;have hf0:=h0.hp.ob k;rw[hN]at hf0;rcases hh k hkN with h|h|h
     .exact absurd h hko
     .exact absurd h hkd
     .rw[h]at hf;exact so_low (Nat.le_add_right _ _) hag hf0 hf
   ow:=λk hk=>by
    obtain⟨j,h1,h2,_⟩:=hsrc k hk;rw[h2];exact hm.hp.ow j h1
   fz:=hm.hp.fz
   sep:=λk hk=>by
    obtain⟨j,h1,h2,_⟩:=hsrc k hk;rw[h2];exact hm.hp.sep j h1
   old:=hm.hp.old
   env:=hm.hp.env
   ab:=by
    have hab:∀k a,(injL A W σ0 ds g).h.get k=.abs a->∃j,σ.h.get j=.abs a/\ρ' k=ρ j/\((∃q,k=N+q/\q<A.R/\ids[q]?=some (some j))\/(k=j/\k<N/\k∉ds)):=λk a hk=>by
     rcases hget k with ⟨q,so,rfl,hq,hr,e⟩|⟨ho,e⟩|e|⟨hkN,hko,hkd,e⟩
     .rw[e]at hk;rcases rel.blk q so hr with ⟨hi,rfl|⟨t,sz,el,rfl⟩⟩|⟨j,hi,hgj,_⟩
      .cases hk
      .cases hk
      .exact⟨j,hgj.2 a hk,hρ q j hq hi,.inl ⟨q,rfl,hq,hi⟩⟩
     .have:=hob k ho;exact⟨k,(rel.obj _ _ e).1.2 a hk,hρl k this.1,.inr ⟨rfl,this.1,this.2⟩⟩
     .rw[e]at hk;cases hk
     .rw[e]at hk;rcases hh k hkN with h|h|h
      .exact absurd h hko
      .exact absurd h hkd
      .exact⟨k,by rw[h];exact hk,hρl k hkN,.inr ⟨rfl,hkN,hkd⟩⟩
    obtain⟨S,hS⟩:=hm.hp.ab;refine⟨λk=>S (if N<=k/\k<N+A.R then(match ids[k-N]? with|some (some j)=>j|_=>0)else k),λk a hk=>?_⟩
    have hSk:∀k a,(injL A W σ0 ds g).h.get k=.abs a->∃j,σ.h.get j=.abs a/\ρ' k=ρ j/\((∃q,k=N+q/\q<A.R/\ids[q]?=some (some j))\/(k=j/\k<N/\k∉ds))/\(if N<=k/\k<N+A.R then(match ids[k-N]? with|some (some j)=>j|_=>0)else k)=j:=λk a hk=>by
     obtain⟨j,h1,h2,h3⟩:=hab k a hk;refine⟨j,h1,h2,h3,?_⟩;rcases h3 with ⟨q,rfl,hq,hi⟩|⟨rfl,hkN,_⟩
     .rw[if_pos (by omega),show N+q-N=q by omega,hi]
     .rw[if_neg (by omega)]
    obtain⟨j,h1,h2,h3,h4⟩:=hSk k a hk;simp only[h4];obtain⟨q1,q2⟩:=hS j a h1;rw[h2];refine⟨q1,λb hb=>?_⟩;obtain⟨r1,r2,r3,r4,r5⟩:=q2 b hb;refine⟨r1,r2,r3,λk' hk'=>?_,λk' a' hk' hb'=>?_⟩
    .obtain⟨j',h1',h2',_⟩:=hsrc k' hk';rw[h2'];exact r4 j' h1'
    .obtain⟨j',h1',h2',h3',h4'⟩:=hSk k' a' hk';rw[h4']at hb';have hjj:=r5 j' a' h1' hb';subst hjj;rcases h3 with ⟨q,rfl,hq,hi⟩|⟨rfl,hkN,hkd⟩<;>rcases h3' with ⟨q',rfl,hq',hi'⟩|⟨rfl,hkN',hkd'⟩
     .rw[hid q q' j hi hi']
     .rcases hj q k' hi with h|h
      .omega
      .exact absurd h hkd'
     .rcases hj q' k hi' with h|h
      .omega
      .exact absurd h hkd
     .rfl
   inj:=λk k' hk hk' he=>by
    obtain⟨j,h1,h2,h3⟩:=hsrc k hk;obtain⟨j',h1',h2',h3'⟩:=hsrc k' hk';rw[h2,h2']at he;have hjj:=hm.hp.inj j j' h1 h1' he;subst hjj;rcases h3 with ⟨q,rfl,hq,hi⟩|⟨rfl,hkN,hkd⟩<;>rcases h3' with ⟨q',rfl,hq',hi'⟩|⟨rfl,hkN',hkd'⟩
    .rw[hid q q' j hi hi']
    .rcases hj q k' hi with h|h
     .omega
     .exact absurd h hkd'
    .rcases hj q' k hi' with h|h
     .omega
     .exact absurd h hkd
    .rfl}
end
section
variable{P:Program}{Γ:Gam}{Λ:Lam}{N:Nat}{γ:Type}
def fdist(ids:List (Option Nat)):List Nat:=ids.filterMap λx=>x
theorem q80:∀{ids:List (Option Nat)},idsOk N ids=true->(∀k k' j:Nat,ids[k]?=some (some j)->ids[k']?=some (some j)->k=k')/\∀k j:Nat,ids[k]?=some (some j)->N<=j
 | [],_=>⟨λk k' j h=>by simp at h,λk j h=>by simp at h⟩
 |none::r,h=>by
  obtain⟨h1,h2⟩:=q80 (ids:=r) h;refine⟨λk k' j hk hk'=>?_,λk j hk=>?_⟩
  .cases k with
   |zero=>simp at hk
   |succ k=>cases k' with
    |zero=>simp at hk'
    |succ k'=>rw[h1 k k' j (by simpa using hk) (by simpa using hk')]
  .cases k with
   |zero=>simp at hk
   |succ k=>exact h2 k j (by simpa using hk)
 |some i::r,h=>by
  simp only[idsOk,Bool.and_eq_true,Bool.not_eq_true']at h;obtain⟨h0,hni,hr⟩:=h;obtain⟨h1,h2⟩:=q80 (ids:=r) hr;have hn:=isIn_not hni;have nin:∀k:Nat,r[k]?=some (some i)->False:=λk hk=>hn (List.mem_filterMap.2 ⟨some i,List.mem_of_getElem? hk,rfl⟩);refine⟨λk k' j hk hk'=>?_,λk j hk=>?_⟩
  .cases k with
   |zero=>
    simp at hk;subst hk;cases k' with
    |zero=>rfl
    |succ k'=>exact(nin k' (by simpa using hk')).elim
   |succ k=>cases k' with
    |zero=>
     simp at hk';subst hk';exact(nin k (by simpa using hk)).elim
    |succ k'=>rw[h1 k k' j (by simpa using hk) (by simpa using hk')]
  .cases k with
   |zero=>simp at hk;subst hk;exact Nat.le_of_ble_eq_true h0
   |succ k=>exact h2 k j (by simpa using hk)
def StepP(Inv:γ->List Prop)(m:γ->Nat)(G:γ->Tr (Ex×γ))(g:γ)(K:Ex×γ->Prop)(x:Ex×γ):Prop:=
 match x.1 with
 | .normal=>(∀p∈Inv x.2,p)/\m x.2<m g/\(G x.2).Holds K
 |_=>K x
def bT(P:Program)(Γ:Gam)(Λ:Lam)(n f:Nat)(rd:Option Nat)(body:Code)(A:LP N γ)(DL:List Nat)(n0:Nat)(σ0:St)(ds:List Nat)(g:γ):Tr (Ex×γ):=
 (exec P Γ Λ n (some f) none body (injL A (dstsOf body) σ0 ds g).base).bind λy=>
  match chkL A (dstsOf body) DL n0 (q91 N DL y.2)with
  |true=>match A.read (q91 N DL y.2)with
   |some (g',ps,ids)=>match idsOk N ids with
    |true=>asks ps (.ret (y.1,g'))
    |false=>.bad 640
   |none=>.bad 641
  |false=>.bad 642
def chkE{N:Nat}{γ:Type}(A:LP N γ)(DL:List Nat)(n0:Nat)(σ:St)(ids:List (Option Nat)):Bool:=
 Nat.beq σ.n n0&&(Nat.beq σ.h.nx N&&(qb6 σ.d DL&&(idsOk 0 ids&&A.os.all λi=>Nat.blt i N&&!isIn i (fdist ids))))
def loopG(body:Code)(A:LP N γ)(DL:List Nat)(n0:Nat)(Inv:γ->List Prop)(G:γ->Tr (Ex×γ))(σ:St):Tr (Ex×St):=
 match A.read σ with
 |some (g,ps,ids)=>match chkE A DL n0 σ ids with
  |true=>asks (ps++Inv g) ((G g).map λx=>(x.1,injL A (dstsOf body) σ (fdist ids) x.2))
  |false=>.bad 643
 |none=>.bad 644
def loopC(body:Code)(A:LP N γ)(DL:List Nat)(n0:Nat)(Inv:γ->List Prop)(G:γ->Tr (Ex×γ)):LCon:=⟨loopG body A DL n0 Inv G,λσ=>by
 unfold loopG;split
 .split
  .exact q4h (Tr.each_map (q:=λ_=>True) (λx _=>⟨rfl,rfl⟩) (q60 _))
  .trivial
 .trivial⟩
theorem q20:∀(c:Code)(x:Code),x∈q0s c->∀b∈q0s x,b∈q0s c
 | .seq a b,x,h,y,hy=>by
  simp only[q0s,List.mem_append]at h ⊢;rcases h with h|h
  .exact .inl (q20 a x h y hy)
  .exact .inr (q20 b x h y hy)
 | .cond _ a b,x,h,y,hy=>by
  simp only[q0s,List.mem_append]at h ⊢;rcases h with h|h
  .exact .inl (q20 a x h y hy)
  .exact .inr (q20 b x h y hy)
 | .block _ c,x,h,y,hy=>by simp only[q0s]at h ⊢;exact q20 c x h y hy
 | .scope c,x,h,y,hy=>by simp only[q0s]at h ⊢;exact q20 c x h y hy
 | .loop c,x,h,y,hy=>by
  simp only[q0s,List.mem_cons]at h ⊢;rcases h with rfl|h
  .exact .inr hy
  .exact .inr (q20 c x h y hy)
 | .skip,x,h,_,_| .label _,x,h,_,_| .ret,x,h,_,_| .exit _,x,h,_,_| .goto _,x,h,_,_| .region ..,x,h,_,_| .rangeFunc ..,x,h,_,_| .refuse _,x,h,_,_=>by simp[q0s]at h
theorem only_loop{l:List Code}{k:Nat}(hu:(l.filter λc=>Nat.beq (lkey c) k).length=1){b:Code}(hb:b∈l)(hk:lkey b=k):b=(l.find? λc=>Nat.beq (lkey c) k).getD .skip:=by
 obtain⟨x,hx⟩:=List.length_eq_one_iff.1 hu;have h1:b∈l.filter λc=>Nat.beq (lkey c) k:=List.mem_filter.2 ⟨hb,by simp[hk]⟩;rw[hx,List.mem_singleton]at h1
 have h2:l.find? (λc=>Nat.beq (lkey c) k)=some x:=by
  rw[<-List.head?_filter,hx];rfl
 rw[h2,h1];rfl
theorem loop_rounds(hΓ:∀f g,Γ.g f=some g->FnOk P f g)(hΛ:∀f k L,Λ f k=some L->∀b∈q00 P f,lkey b=k->q04 P b L.g){n f n0:Nat}{body:Code}(hsub:∀b∈q0s body,b∈q00 P f)
  {A:LP N γ} {DL:List Nat} {Inv:γ->List Prop} {G:γ->Tr (Ex×γ)} {m:γ->Nat} {M:Nat->Prop} {w0 w00:World} {ρ0:Rh} {σ0:St} {a0:Act} {ds:List Nat} (h0:Mod M w0 ρ0 σ0 a0 w00) (hn0:σ0.n=n0) (hN:σ0.h.nx=N) (hDL:σ0.d=DL)
  (hob:∀id,id∈A.os->id<N/\id∉ds)
  (hbody:∀g,(∀p∈Inv g,p)->∀K:Ex×γ->Prop,(G g).Holds K->(bT P Γ Λ n f none body A DL n0 σ0 ds g).Holds (StepP Inv m G g K)) {K:Ex×γ->Prop} {Q:Exit->Act->World->Prop} {ρb:Rh} (hQ:∀e g' ρ' a w,K (e,g')->Agree N ρb ρ'->Mod M w0 ρ' (injL A (dstsOf body) σ0 ds g') a w->e≠.normal->Q (Ex.ex e) a w) :
  ∀(k:Nat)(g:γ)(ρ:Rh)(a:Act)(w:World),m g<k->(∀p∈Inv g,p)->(G g).Holds K->Agree N ρb ρ->Mod M w0 ρ (injL A (dstsOf body) σ0 ds g) a w->Code.roundsIn (Fw none) 0 P body Q k a w
 |0,g,ρ,a,w,hk,_,_,_,_=>by omega
 |k+1,g,ρ,a,w,hk,hi,hG,hag,hm=>by
  rw[roundsIn_succ];have hK:=hbody g hi K hG;unfold bT at hK;have hex:=exec_ok hΓ hΛ n (some f) none body (by intro f' hf' b hb;injection hf' with hf';subst hf';exact hsub b hb);have hon:=q2x (P:=P) (Γ:=Γ) (Λ:=Λ) n (some f) none body (injL A (dstsOf body) σ0 ds g).base;have hwp:=hex M w0 w ρ _ a _ (λl h=>by cases h) (Tr.each_holds hon (Tr.holds_bind hK)) hm.base;refine wpIn_mono hwp ?_;rintro x a' w' ⟨e,y0,ρ0',rfl,⟨hk1,hon1⟩,hny0,hay0,hmy0⟩;simp only at hk1 hon1;obtain⟨ρ',hay1,hmy,hnxy,⟨ob1',ob2',oget⟩⟩:=stripS_ok (N:=N) (DL:=DL) hmy0;generalize q91 N DL y0=y at hk1 hmy hnxy ob1' ob2' oget;have hny:(injL A (dstsOf body) σ0 ds g).base.h.nx<=y.h.nx:=by rw[hnxy];exact hny0
  have hay:Agree (injL A (dstsOf body) σ0 ds g).base.h.nx ρ ρ':=hay0.trans hny0 hay1;have hon1:y.On (injL A (dstsOf body) σ0 ds g).base.b (injL A (dstsOf body) σ0 ds g).base.h.b:=⟨ob1'.trans hon1.1,ob2'.trans hon1.2⟩;have hlow:N<=(injL A (dstsOf body) σ0 ds g).base.h.nx:=by show N<=σ0.h.nx+A.R;omega
  have hagy:Agree N ρb ρ':=hag.trans (Nat.le_refl _) ⟨λi hi=>hay.1 i (Nat.lt_of_lt_of_le hi hlow),hay.2⟩;split at hk1
  .rename_i hchk;split at hk1
   .rename_i g' ps ids hread;split at hk1
    .rename_i hids;obtain⟨hps,hk1⟩:=q1p hk1;have hk1:StepP Inv m G g K (e,g'):=hk1;simp only[chkL,Bool.and_eq_true,List.all_eq_true,Bool.or_eq_true]at hchk;obtain⟨c1,c2,c3,c4,c5⟩:=hchk;obtain⟨i1,i2⟩:=q80 hids;obtain⟨ob1,ob2⟩:=hon1;have hyn:y.n=σ0.n:=by rw[hn0];exact q02 c4
     have hyd:y.d=σ0.d:=by rw[hDL];exact q9g c3
     obtain⟨ρ'',ha'',hm''⟩:=inj_ok (A:=A) (W:=dstsOf body) (ds:=ds) h0 hmy hN (Nat.le_trans hlow hny) hyn hyd (A.ok 0 y g' ps ids hread hps) (A.ilen _ _ _ _ hread) i1 (λk j h=>.inl (i2 k j h)) hob (λi=>by
       by_cases hes:i∈A.es
       .exact .inl hes
       by_cases hW:i∈dstsOf body
       .exact .inr (.inl hW)
       refine .inr (.inr ?_)
       have hni:i∉y.t.map (·.1):=λh=>by
        have:=c1 i ((q31 _ _ _).2 (.inr h));rcases this with h|h
        .exact hes (q9t.1 h)
        .exact hW (q9t.1 h)
       unfold St.slot;rw[q2a _ _ hni,ob1];simp only[St.base,injL,List.append_nil,List.nil_append,q39];rw[q2a _ _ (by rw[A.eseq];exact hes),q2a _ _ (by simpa using hW)]) (λid hid=>by
       by_cases hos:id∈A.os
       .exact .inl hos
       by_cases hds:id∈ds
       .exact .inr (.inl hds)
       refine .inr (.inr ?_)
       have hni:id∉y.h.l.map (·.1):=λh=>by
        have:=c2 id ((q31 _ _ _).2 (.inr h));rcases this with h|h
        .have:=Nat.le_of_ble_eq_true h;omega
        .exact hos (q9t.1 h)
       obtain⟨_,r2⟩:=q75 (i:=id) (r:=A.blks 0 g) (k:=N) (look (look (lookE (lookE .dead id σ0.h.b) id σ0.h.l) id (ds.map λi=>(i,SO.dead))) id (A.objs 0 g));unfold SH.get;rw[q7d _ _ hni,ob2];simp only[St.base,injL,q2n,q51,hN];rw[r2 (.inl hid),q2a _ _ (by rw[A.oseq];exact hos),q2a _ _ (by simpa using hds)])
     have haq:Agree N ρb ρ'':=hagy.trans (Nat.le_refl _) ha'';cases e with
     |normal=>exact loop_rounds hΓ hΛ hsub h0 hn0 hN hDL hob hbody hQ k g' ρ'' a' w' (by have h2:m g'<m g:=hk1.2.1;omega) hk1.1 hk1.2.2 haq hm''
     |exit id=>exact hQ _ g' ρ'' a' w' hk1 haq hm'' (by simp)
     |goto id=>exact hQ _ g' ρ'' a' w' hk1 haq hm'' (by simp)
     |ret=>exact hQ _ g' ρ'' a' w' hk1 haq hm'' (by simp)
    .exact hk1.elim
   .exact hk1.elim
  .exact hk1.elim
theorem loop_ok(hΓ:∀f g,Γ.g f=some g->FnOk P f g)(hΛ:∀f k L,Λ f k=some L->∀b∈q00 P f,lkey b=k->q04 P b L.g)(n f key n0:Nat)(A:LP N γ)(DL:List Nat)(Inv:γ->List Prop)(G:γ->Tr (Ex×γ))(m:γ->Nat)
  (hu:((q00 P f).filter λc=>Nat.beq (lkey c) key).length=1)
  (hbody:∀(rd:Option Nat)(T B:List (Nat×SV))(HL HB:List (Nat×SE))(ds:List Nat)(g:γ),(∀p∈Inv g,p)->∀K:Ex×γ->Prop,(G g).Holds K->(bT P Γ Λ n f none (loopBody P f key) A DL n0 ⟨n0,T,⟨N,HL,HB⟩,DL,B⟩ ds g).Holds (StepP Inv m G g K)):∀b∈q00 P f,lkey b=key->q04 P b (loopC (loopBody P f key) A DL n0 Inv G).g:=by
 intro b hb hk;have hbe:b=loopBody P f key:=only_loop hu hb hk;intro M w0 w ρ σ a K hK hm
 have hsub:∀x∈q0s b,x∈q00 P f:=λx hx=>by
  unfold q00 at hb ⊢;split at hb
  .split at hb
   .rename_i fn _ c _;exact q20 c b hb x hx
   .simp at hb
  .simp at hb
 subst hbe;have hK:(loopG (loopBody P f key) A DL n0 Inv G σ).Holds K:=hK;unfold loopG at hK;split at hK
 .rename_i g ps ids hread;split at hK
  .rename_i hc;obtain⟨hps,hK⟩:=q1p hK;have hK:=Tr.holds_map hK;simp only[chkE,Bool.and_eq_true,List.all_eq_true,Bool.not_eq_true']at hc;obtain⟨c1,c2,c3,c4,c5⟩:=hc;have e1:=q02 c1;have e2:=q02 c2;have e3:=q9g c3;obtain⟨i1,_⟩:=q80 c4
   have hob:∀id,id∈A.os->id<N/\id∉fdist ids:=λid h=>by
    obtain⟨h1,h2⟩:=c5 id h;exact⟨Nat.le_of_ble_eq_true h1,isIn_not h2⟩
   obtain⟨ρ1,ha1,hm1⟩:=inj_ok (A:=A) (W:=dstsOf (loopBody P f key)) (ds:=fdist ids) hm hm e2 (Nat.le_of_eq e2.symm) rfl rfl (A.ok 0 σ g ps ids hread λp h=>hps p (List.mem_append_left _ h)) (A.ilen _ _ _ _ hread) i1
    (λk j h=>.inr (List.mem_filterMap.2 ⟨some j,List.mem_of_getElem? h,rfl⟩)) hob (λi=>.inr (.inr rfl)) (λid _=>.inr (.inr rfl))
   have hσ:σ=⟨n0,σ.t,⟨N,σ.h.l,σ.h.b⟩,DL,σ.b⟩:=by
    obtain⟨n1,t1,⟨nx1,l1,b1⟩,d1,bb1⟩:=σ;simp only at e1 e2 e3;subst e1;subst e2;subst e3;rfl
   refine wpIn_loop_rounds (m g+1) (loop_rounds (n:=n) hΓ hΛ hsub hm e1 e2 e3 hob (m:=m) (λg hi K hG=>?_) (K:=λx=>K (x.1,injL A (dstsOf (loopBody P f key)) σ (fdist ids) x.2)) (ρb:=ρ) ?_ (m g+1) g ρ1 a w (Nat.lt_succ_self _) (λp h=>hps p (List.mem_append_right _ h)) hK ha1 hm1)
   .have:=hbody none σ.t σ.b σ.h.l σ.h.b (fdist ids) g hi K hG;rw[<-hσ]at this;exact this
   .intro e g' ρ' a' w' hk ha' hm' _;refine⟨e,_,ρ',rfl,hk,?_,?_,hm'⟩
    .show σ.h.nx<=σ.h.nx+A.R;omega
    .rw[e2];exact ha'
  .exact hK.elim
 .exact hK.elim
def LTab(P:Program):={ l:List (Nat×Nat×LCon)//∀x∈l,∀b∈q00 P x.1,lkey b=x.2.1->q04 P b x.2.2.g}
def LTab.nil:LTab P:=⟨[],λx h=>by simp at h⟩
def LTab.cons(t:LTab P)(f k:Nat)(c:LCon)(h:∀b∈q00 P f,lkey b=k->q04 P b c.g):LTab P:=⟨(f,k,c)::t.1,λx hx=>by
 rcases List.mem_cons.1 hx with rfl|hx
 .exact h
 .exact t.2 x hx⟩
def pickL(f k:Nat):List (Nat×Nat×LCon)->Option LCon
 | []=>none
 |(j,i,c)::r=>bif Nat.beq f j&&Nat.beq k i then some c else pickL f k r
theorem pickL_mem{f k:Nat}{c:LCon}:∀{l:List (Nat×Nat×LCon)},pickL f k l=some c->(f,k,c)∈l
 | [],h=>by cases h
 |(j,i,x)::r,h=>by
  simp only[pickL]at h;cases hb:Nat.beq f j&&Nat.beq k i with
  |true=>
   rw[hb]at h;simp only[Bool.and_eq_true]at hb;simp only[cond_true,Option.some.injEq]at h;rw[h,q02 hb.1,q02 hb.2];exact List.mem_cons_self ..
  |false=>
   rw[hb]at h;exact List.mem_cons_of_mem _ (pickL_mem h)
def LTab.lam(t:LTab P):Lam:=λf k=>pickL f k t.1
theorem LTab.ok(t:LTab P):∀f k L,t.lam f k=some L->∀b∈q00 P f,lkey b=k->q04 P b L.g:=λf k L h=>t.2 _ (pickL_mem h)
end
end Go.Sx

namespace Go.Sx
noncomputable section
open Go.RowKit
variable[Env]
instance:Inhabited Ex:=⟨.normal⟩
def runL{γ:Type}(F:γ->Ex×γ):Nat->γ->Ex×γ
 |0,g=>(.ret,g)
 |n+1,g=>match F g with
  |(.normal,g')=>runL F n g'
  |x=>x
def hush(n:Nat):Nat:=Classical.choose (⟨n,rfl⟩:∃k,k=n)
theorem hush_eq(n:Nat):hush n=n:=Classical.choose_spec (⟨n,rfl⟩:∃k,k=n)
def loopF{γ:Type}(F:γ->Ex×γ)(m:γ->Nat)(g:γ):Ex×γ:=runL F (hush (m g+1)) g
theorem q7c{γ:Type}(F:γ->Ex×γ)(m:γ->Nat)(g:γ):loopF F m g=runL F (m g+1) g:=by unfold loopF;rw[hush_eq]
section
variable{γ:Type}{F:γ->Ex×γ}{m:γ->Nat}{Inv:γ->Prop}
def Goes(F:γ->Ex×γ)(m:γ->Nat)(Inv:γ->Prop):Prop:=∀g,Inv g->(F g).1=.normal->Inv (F g).2/\m (F g).2<m g
theorem runL_fuel(h:Goes F m Inv):∀(n k:Nat)(g:γ),Inv g->m g<n->m g<k->runL F n g=runL F k g
 |0,_,_,_,h1,_=>by omega
 |_,0,_,_,_,h1=>by omega
 |n+1,k+1,g,hi,hn,hk=>by
  simp only[runL];have hg:=h g hi;generalize F g=x at hg ⊢;obtain⟨e,g'⟩:=x;cases e with
  |normal=>
   obtain⟨h1,h2⟩:=hg rfl;exact runL_fuel h n k g' h1 (by simp only at h2;omega) (by simp only at h2;omega)
  |_=>rfl
theorem q7x(h:Goes F m Inv){g g':γ}(hi:Inv g)(he:F g=(.normal,g')):loopF F m g=loopF F m g':=by
 have h2:=h g hi (by rw[he]);rw[he]at h2;rw[q7c,q7c]
 show(match F g with
  |(.normal,g')=>runL F (m g) g'
  |x=>x)=_
 rw[he];exact runL_fuel h _ _ g' h2.1 h2.2 (Nat.lt_succ_self _)
theorem q5t{g:γ}(he:(F g).1≠.normal):loopF F m g=F g:=by
 rw[q7c]
 show(match F g with
  |(.normal,g')=>runL F (m g) g'
  |x=>x)=_
 generalize F g=x at he;obtain⟨e,g'⟩:=x;cases e with
 |normal=>exact absurd rfl he
 |_=>rfl
theorem q1m(h:Goes F m Inv){Q:γ->Ex×γ->Prop}(h1:∀g,Inv g->(F g).1≠.normal->Q g (F g))(h2:∀g g' r,Inv g->F g=(.normal,g')->Inv g'->m g'<m g->Q g' r->Q g r):∀(g:γ),Inv g->Q g (loopF F m g):=by
 intro g
 induction hn:m g using Nat.strongRecOn generalizing g with
 |_ n ih=>
  intro hi;by_cases he:(F g).1=.normal
  .obtain⟨k1,k2⟩:=h g hi he;have hF:F g=(.normal,(F g).2):=by rw[<-he]
   rw[q7x h hi hF];exact h2 g _ _ hi hF k1 k2 (ih _ (by omega) _ rfl k1)
  .rw[q5t he];exact h1 g hi he
end
def allP(l:List Prop):Prop:=∀p∈l,p
section
variable{P:Program}{Γ:Gam}{Λ:Lam}{N:Nat}{γ:Type}
def exB:Ex->Ex->Bool
 | .normal,.normal=>true
 | .exit a,.exit b=>Nat.beq a b
 | .goto a,.goto b=>Nat.beq a b
 | .ret,.ret=>true
 |_,_=>false
theorem exB_eq{a b:Ex}(h:exB a b=true):a=b:=by
 cases a<;>cases b<;>simp[exB]at h<;>first|rfl|(rw[h])
theorem exB_refl(a:Ex):exB a a=true:=by cases a<;>simp[exB]
def exitsT{γ:Type}(x:Ex×γ):List Ex->Tr (Ex×γ)
 | []=>.bad 645
 | [e]=>.ret (e,x.2)
 |e::e'::r=>.br (exB e x.1) (.ret (e,x.2)) (exitsT x (e'::r))
theorem qba{γ:Type}{x:Ex×γ}{K:Ex×γ->Prop}:∀{l:List Ex},x.1∈l->(exitsT x l).Holds K->K x
 | [],h,_=>by simp at h
 | [e],h,hk=>by
  have:x.1=e:=by simpa using h
  have hk:K (e,x.2):=hk;rw[<-this]at hk;exact hk
 |e::e'::r,h,hk=>by
  cases hb:exB e x.1 with
  |true=>
   have hk:=hk.1 hb;have hk:K (e,x.2):=hk;rw[exB_eq hb]at hk;exact hk
  |false=>
   refine qba (l:=e'::r) ?_ (hk.2 hb);rcases List.mem_cons.1 h with h|h
   .rw[h,exB_refl]at hb;cases hb
   .exact h
theorem loopF_exit{γ:Type}{F:γ->Ex×γ}{m:γ->Nat}{Inv:γ->Prop}{es:List Ex}(h:Goes F m Inv)(he:∀g,(F g).1=.normal\/(F g).1∈es){g:γ}(hi:Inv g):(loopF F m g).1∈es:=
 q1m h (Q:=λ_ r=>r.1∈es) (λg _ hn=>(he g).resolve_left hn) (λ_ _ _ _ _ _ _ ih=>ih) g hi
def loopR(es:List Ex)(body:Code)(A:LP N γ)(DL:List Nat)(n0:Nat)(Inv:γ->List Prop)(F:γ->Ex×γ)(m:γ->Nat):LCon:=loopC body A DL n0 Inv λg=>exitsT (loopF F m g) es
theorem q0h(hΓ:∀f g,Γ.g f=some g->FnOk P f g)(hΛ:∀f k L,Λ f k=some L->∀b∈q00 P f,lkey b=k->q04 P b L.g)(n f key n0:Nat)(A:LP N γ)(DL:List Nat)(Inv:γ->List Prop)(F:γ->Ex×γ)(S:γ->Prop)(m:γ->Nat)(d:Ex×γ)(es:List Ex)
  (hu:((q00 P f).filter λc=>Nat.beq (lkey c) key).length=1)
  (hS:∀(rd:Option Nat)(T B:List (Nat×SV))(HL HB:List (Nat×SE))(ds:List Nat)(g:γ),(bT P Γ Λ n f none (loopBody P f key) A DL n0 ⟨n0,T,⟨N,HL,HB⟩,DL,B⟩ ds g).side=S g)
  (hF:∀(rd:Option Nat)(T B:List (Nat×SV))(HL HB:List (Nat×SE))(ds:List Nat)(g:γ),(bT P Γ Λ n f none (loopBody P f key) A DL n0 ⟨n0,T,⟨N,HL,HB⟩,DL,B⟩ ds g).ev d=F g)
  (hs:∀g,allP (Inv g)->S g) (hg:Goes F m λg=>allP (Inv g)) (hes:∀g,(F g).1=.normal\/(F g).1∈es):∀b∈q00 P f,lkey b=key->q04 P b (loopR es (loopBody P f key) A DL n0 Inv F m).g:=by
 refine loop_ok hΓ hΛ n f key n0 A DL Inv _ m hu ?_;intro rd T B HL HB ds g hi K hK;have h1:(bT P Γ Λ n f none (loopBody P f key) A DL n0 ⟨n0,T,⟨N,HL,HB⟩,DL,B⟩ ds g).side:=by rw[hS none];exact hs g hi
 have h2:=Tr.side_holds d h1;rw[hF none]at h2;refine Tr.mono ?_ h2;rintro _ rfl;have hK0:=hK;have hK:K (loopF F m g):=qba (loopF_exit hg hes hi) hK;unfold StepP;split
 .rename_i he;obtain⟨k1,k2⟩:=hg g hi he;refine⟨k1,k2,?_⟩;show(exitsT (loopF F m (F g).2) es).Holds K;rw[<-q7x hg hi (g':=(F g).2) (by rw[<-he])];exact hK0
 .rename_i he;rw[q5t (by intro h;exact he h)]at hK;exact hK
end
end
end Go.Sx

namespace Go.Sx
open Go.RowKit
variable[Env]
structure RM(δ:Type)where
 dec:SV->Option (δ×List Prop)
 enc:Nat->δ->SV
 ok:∀(s:SV)(d:δ)(ps:List Prop),dec s=some (d,ps)->(∀p∈ps,p)->∀(n m i:Nat)(ρ ρ':Rh)(x:Value),(∀b o,ρ.mem b=some o->ρ'.mem b=some o)->ρ' i=ρ 0->i<m->s.fit n ρ x->(enc i d).fit m ρ' x
 cl:∀(i:Nat)(d:δ)(n m:Nat)(ρ ρ':Rh)(x:Value),(∀b o,ρ.mem b=some o->ρ'.mem b=some o)->ρ' i=ρ i->i<m->(enc i d).fit n ρ x->(enc i d).fit m ρ' x
def RM.pure{δ:Type}(R:Dv δ):RM δ where
 dec:=R.dec
 enc _ d:=R.enc d
 ok s d ps hd hp n m i ρ ρ' x hm _ _ hf:=R.cl d n m ρ ρ' x hm (R.ok _ _ _ _ _ _ hd hp hf)
 cl i d n m ρ ρ' x hm _ _ hf:=R.cl d n m ρ ρ' x hm hf
section
variable{α:Type}(A:El α)
abbrev rowA(t:TypeId)(xs:List α):SO:=.row t A.sz (.fn (A.els xs)) xs.length
theorem rowA_cl{t:TypeId}{xs:List α}{n m:Nat}{ρ ρ':Rh}{L:Lc}{o:Option Obj}(hm:∀b o,ρ.mem b=some o->ρ'.mem b=some o)(h:(rowA A t xs).fit n ρ L o):(rowA A t xs).fit m ρ' L o:=by
 refine⟨h.1,?_⟩;rcases h.2 with h2|⟨h1,h2,c,fz,h3,h3',h4,h5,h6,h7⟩
 .exact .inl h2
 .refine .inr ⟨h1,h2,c,fz,h3,h3',h4,h5,h6,λe he=>?_⟩;obtain⟨l,q1,q2,q3⟩:=h7 e he;exact⟨l,q1,A.cl _ _ _ _ _ _ hm q2,q3⟩
end
section
variable{P:Program}{Γ:Gam}{Λ:Lam}{f t:Nat}{α γ δ:Type}{A:El α}{D:DA γ}{R:RM δ}{fn:List α->γ->List α×δ}{pre:List α->γ->List Prop}
end
end Go.Sx
namespace Go.Sx
variable[Env]
structure MTab(P:Program)where
 p:PTab P
 m:{ l:List (Nat×BCon)//∀x∈l,FnOk P x.1 x.2.g}
section
variable{P:Program}
def MTab.of(t:PTab P):MTab P:=⟨t,⟨[],λx h=>by simp at h⟩⟩
def MTab.cons(t:MTab P)(f:Nat)(c:PCon)(h:FnOk P f c.g):MTab P:=⟨t.p.cons f c h,t.m⟩
def MTab.consM(t:MTab P)(f:Nat)(c:BCon)(h:FnOk P f c.g):MTab P:=⟨t.p,⟨(f,c)::t.m.1,λx hx=>by
 rcases List.mem_cons.1 hx with rfl|hx
 .exact h
 .exact t.m.2 x hx⟩⟩
def MTab.gamz(t:MTab P)(zs:List (Nat×Nat))(us:List (Nat×Nat×Nat)):Gam:=Go.Sx.gam t.p.1 t.m.1 zs us
theorem MTab.okz(t:MTab P)(zs:List (Nat×Nat))(us:List (Nat×Nat×Nat)):∀f g,(t.gamz zs us).g f=some g->FnOk P f g:=gam_ok t.p.2 t.m.2
end
end Go.Sx
namespace Go.Sx
variable[Env]
abbrev RM.T{δ:Type}(_:RM δ):Type:=δ
end Go.Sx

namespace Go.Sx
open Go.RowKit
variable[Env]
section
variable{P:Program}{Γ:Gam}{Λ:Lam}{f t:Nat}{γ γ' κ δ:Type}{C:El κ}{D:DA γ}{D':DA γ'}{R:Dv δ}{fn:γ->κ->γ'->κ×δ}{pre:γ->κ->γ'->List Prop}
end
end Go.Sx

namespace Go.Sx
open Go.RowKit
variable[Env]
theorem cl_pr{xs:List SV}(h:Cls xs):Cl (.pr xs):=by
 intro n m ρ ρ' x hm hf;obtain⟨b,o,cs,t,fz,k1,k2,vs,k3,k4⟩:=hf;exact⟨b,o,cs,t,fz,k1,hm _ _ k2,vs,h n m ρ ρ' vs hm k3,k4⟩
theorem cl_fn{f:Nat}{xs:List SV}(h:Cls xs):Cl (.fn f xs):=by
 intro n m ρ ρ' x hm hf;obtain⟨l,rfl,hl⟩:=hf;exact⟨l,rfl,h n m ρ ρ' l hm hl⟩
end Go.Sx
