/- The symbolic executor: operations, regions, code, calls; ranges over functions whose text is known. -/
import Derived.Test.YtapdglacmebbaaaDoorZG027722e0
set_option linter.unusedVariables false
set_option linter.unusedSimpArgs false
set_option linter.constructorNameAsVariable false
set_option linter.all false

namespace Go.Sx
open Go.RowKit
variable[Env]
abbrev Con:=List SV->SH->Tr (SV×SH)
def q6j(P:Program)(h:SH)(t:TypeId)(len:Nat)(parts:List (Nat×SV)):Tr (SV×SH):=
 match P.underlying t with
 |some (.slice e)=>
  match P.info? e with
  |some i=>
   match i.zero with
   |some z=>
    match len,parts with
    |0,[]=>.ret (.ow h.nx 0,h.push (.row e i.size (.fn λ_=>[]) 0))
    |len,parts=>
    bif Nat.blt 0 (len*i.size)&&Nat.ble (len*i.size) 16777216 then
     match fillS (λj=>some (j*i.size,i.size)) ((List.range (len*i.size)).map λj=>.k (z.cells[j%z.cells.size]!)) parts with
     |some cs=>.ret (.sl h.nx 0 len len,h.push (.cells cs e))
     |none=>.bad 400
    else .bad 401
   |none=>.bad 402
  |none=>.bad 403
 |_=>.bad 404
def nilCmp(P:Program)(t:TypeId)(a b:SV):Option Bool:=
 match P.underlying t with
 |some (.func _ _ _)=>match a,b with
  | .fn _ _,.k .nilFunc=>some false
  | .k .nilFunc,.k .nilFunc=>some true
  |_,_=>none
 |some (.slice _)=>match a,b with
  | .sl ..,.k (.slice none 0 0)=>some false
  | .k (.slice none 0 0),.k (.slice none 0 0)=>some true
  |_,_=>none
 |some (.map _ _)=>match a,b with
  | .mp _,.k (.map none)=>some false
  | .k (.map none),.k (.map none)=>some true
  |_,_=>none
 |some (.pointer _)=>match a,b with
  | .p ..,.k (.pointer none)=>some false
  | .pe ..,.k (.pointer none)=>some false
  | .v (.pointer (some _)),.k (.pointer none)=>some false
  | .k (.pointer none),.k (.pointer none)=>some true
  |_,_=>none
 |_=>none
def callable(P:Program)(g:Nat):Bool:=
 match P.funcs[g]? with
 |some fn=>fn.body.isSome&&!(fn.name== "runtime.NumGoroutine")
 |none=>false
def q84(P:Program)(h:SH)(b:Builtin)(ts:List TypeId)(as:List SV):Tr (SV×SH):=
 match b with
 | .len=>match ts,as with
  |t::_,[a]=>(lenH P h t a).bind λs=>.ret (s,h)
  |_,_=>.bad 410
 | .min=>(minS false as).bind λs=>.ret (s,h)
 | .max=>(minS true as).bind λs=>.ret (s,h)
 | .copy=>match ts,as with
  |t::_,[d,s]=>copyS P h t d s
  |_,_=>.bad 411
 | .append=>match ts,as with
  | [t,t'],[d,s]=>appendY P h t t' d s
  |_,_=>.bad 412
 | .cap=>match ts,as with
  |t::_,[a]=>(capS P t a).bind λs=>.ret (s,h)
  |_,_=>.bad 416
 | .clear=>match ts,as with
  | [t],[a]=>clearS P h t a
  |_,_=>.bad 414
 | .delete=>match ts,as with
  | [t,_],[a,k]=>deleteS P h t a k
  |_,_=>.bad 415
 |_=>.bad 413
def opS(P:Program)(run:Nat->Con)(yld:Nat->Con)(ev:Operand->SV)(h:SH)(o:Op):Tr (SV×SH):=
 match o with
 | .move x| .assign x=>.ret (ev x,h)
 | .pick c a b=>
  match(ev c).bool? with
  |some (true,z)=>.ret (bif z then ev a else ev b,h)
  |some (false,z)=>match(ev a).bool?,(ev b).bool? with
   |some (_,x),some (_,y)=>.ret (.v (.bool (bif z then x else y)),h)
   |_,_=>.br z (.ret (ev a,h)) (.ret (ev b,h))
  |none=>.bad 420
 | .alloc t=>allocS P h t
 | .box t x=>boxS h t (ev x)
 | .build t ps=>buildS P h t (ps.toList.map λx=>(x.1,ev x.2))
 | .buildSlice t len ps=>q6j P h t len (ps.toList.map λx=>(x.1,ev x.2))
 | .load t a=>loadS P h t (ev a)
 | .store t a x=>storeS P h t (ev a) (ev x)
 | .binOp op t x y _=>
  match nilCmp P t (ev x) (ev y),op with
  |some b,.eql=>.ret (.k (.bool b),h)
  |some b,.neq=>.ret (.k (.bool (!b)),h)
  |some _,_=>.bad 421
  |none,_=>(binS P op t (ev x) (ev y)).bind λs=>.ret (s,h)
 | .unOp op _ x=>(unS op (ev x)).bind λs=>.ret (s,h)
 | .convert src dst x=>convH P h src dst (ev x)
 | .makeFunc (.func f) first cap=>bif Nat.beq first.size 0 then .ret (.fn f (cap.toList.map ev),h)else .bad 422
 | .slice t x lo hi none=>sliceS P h t (ev x) (lo.map ev) (hi.map ev)
 | .slice t x lo (some hi) (some mx)=>slice3S P h t (ev x) (lo.map ev) (ev hi) (ev mx)
 | .nilCheck x=>bif ptrS (ev x)then .ret (ev x,h)else .bad 428
 | .makeSlice t l c=>q7u P h t (ev l) (ev c)
 | .range t x=>rangeM P h t (ev x)
 | .next it str=>nextM h (ev it) str
 | .entry it=>entryM h (ev it)
 | .makeMap t r=>q9i P h t (r.map ev)
 | .lookup t x i ok=>lookS P h t (ev x) (ev i) ok
 | .mapUpdate t m k x=>qa5 P h t (ev m) (ev k) (ev x)
 | .insert t m k x=>qa5 P h t (ev m) (ev k) (ev x)
 | .mapEntry t m k=>entryS P h t (ev m) (ev k)
 | .entryStore t m st x=>storeS' P h t (ev m) (ev st) (ev x)
 | .fieldAddr t x f=>q4s P h t (ev x) f
 | .field t x f=>fieldS P h t (ev x) f
 | .indexAddr t x i=>q3y P h t (ev x) (ev i)
 | .index t x i=>indexS P h t (ev x) (ev i)
 | .extract x i=>q81 h (ev x) i
 | .call c=>
  match c.callee with
  | .builtin b=>q84 P h b c.argTypes.toList (c.args.toList.map ev)
  | .value f=>
   match ev f with
   | .fn g cs=>bif callable P g then run g (c.args.toList.map ev++cs) h else .bad 423
   | .yl l=>yld l (c.args.toList.map ev) h
   |_=>.bad 424
  | .invoke _ _=>.bad 425
 |_=>.bad 426
section
variable{P:Program}{M:Nat->Prop}{w0 w:World}{ρ:Rh}{h:SH}
def FnGood(M:Nat->Prop)(w0:World)(ρ:Rh)(h:SH)(K:SV×SH->Prop):Ending->World->Prop:=λe w'=>
 ∃s h' ρ' x,K (s,h')/\h.nx<=h'.nx/\Agree h.nx ρ ρ'/\HM M w0 ρ' h' w'/\s.fit h'.nx ρ' x/\e=.returned x
def FnOk(P:Program)(f:Nat)(g:Con):Prop:=
 ∀(M:Nat->Prop)(w0 w:World)(ρ:Rh)(h:SH)(args:List SV)(vs:List Value)(K:SV×SH->Prop),(g args h).Holds K->HM M w0 ρ h w->SV.fits h.nx ρ args vs->
  Calls P f vs.toArray w (FnGood M w0 ρ h K)
def Fw(r:Option Nat):Fence:={ Fence.wide with round:=r}
def YldOk(P:Program)(g:Nat->Con):Prop:=
 ∀(M:Nat->Prop)(w0 w:World)(ρ:Rh)(h:SH)(l:Nat)(args:List SV)(vs:List Value)(K:SV×SH->Prop)(r:Option Nat),(g l args h).Holds K->HM M w0 ρ h w->SV.fits h.nx ρ args vs->l<h.nx->
  ∃f tmps assign body,(Instr.yield (ρ l).blk vs.toArray).run P w=.ok (.round (ρ l).blk f tmps assign body) w/\RoundIn (Fw r) 0 P (ρ l).blk f tmps assign body w (FnGood M w0 ρ h K)
def OpGood(P:Program)(M:Nat->Prop)(w0:World)(ρ:Rh)(h:SH)(K:SV×SH->Prop)(o:Oper)(a:Act)(w:World):Prop:=
 ∀(r:Option Nat)(next:Act->World->Prop)(Q:Exit->Act->World->Prop),
  (∀s h' ρ' x w',K (s,h')->h.nx<=h'.nx->Agree h.nx ρ ρ'->HM M w0 ρ' h' w'->s.fit h'.nx ρ' x->next (a.put o.dst x) w')->o.wpIn (Fw r) 0 P a w next Q
theorem callsIn_fw{r:Option Nat}{n:Nat}{f:Nat}{args:Array Value}{R:Ending->World->Prop}(h:Calls P f args w R):CallsIn (Fw r) n P f args w R:=callsIn_wide.2 h
theorem q0p{o:Oper}{a:Act}{K:SV×SH->Prop}{s:Sem Value}(hnd:∀c,o.op≠.defer c)(hx:∀w,(execOp a.eval o).run P w=(s.run P w).andThen λx w'=>.ok (.value x) w')(hg:GoodV P M w0 ρ h K s w):OpGood P M w0 ρ h K o a w:=by
 intro r next Q hn
 obtain⟨sv,h',ρ',x,w',h1,h2,h3,h4,h5,h6⟩:=hg;refine⟨λ_ _=>trivial,?_⟩;rw[Oper.semAt_eq _ _ _ hnd,hx,h6];exact hn _ _ _ _ _ h1 h2 h3 h4 h5
theorem og_unit{o:Oper}{a:Act}{K:SV×SH->Prop}{s:Sem Unit}(hnd:∀c,o.op≠.defer c)(hx:∀w,(execOp a.eval o).run P w=(s.run P w).andThen λ_ w'=>.ok .skip w')(hg:GoodU P M w0 ρ h K s w):OpGood P M w0 ρ h K o a w:=by
 intro r next Q hn
 obtain⟨h',ρ',w',h1,h2,h3,h4,h6⟩:=hg;refine⟨λ_ _=>trivial,?_⟩;rw[Oper.semAt_eq _ _ _ hnd,hx,h6];exact hn _ _ _ _ _ h1 h2 h3 h4 trivial
theorem run_v(s:Sem Value)(w:World):((do pure (Next.value (<-s))):Sem Next).run P w=(s.run P w).andThen λx w'=>.ok (.value x) w':=by simp
theorem run_u(s:Sem Unit)(w:World):((do s;pure Next.skip):Sem Next).run P w=(s.run P w).andThen λ_ w'=>.ok .skip w':=by simp
theorem goodP_V{K:SV×SH->Prop}{t:Tr SV}{s:Sem Value}(hm:HM M w0 ρ h w)(hK:(t.bind λs=>(.ret (s,h):Tr (SV×SH))).Holds K)(hp:∀K',t.Holds K'->GoodP P ρ h.nx K' s):GoodV P M w0 ρ h K s w:=by
 obtain⟨sv,x,h1,h2,h3⟩:=hp _ (Tr.holds_bind hK);exact GoodV.same hm h1 h2 (h3 w)
theorem q6g{n:Nat}{ev:Operand->SV}{ρe:Operand->Value}(he:∀x,(ev x).fit n ρ (ρe x)):∀(l:List Operand),SV.fits n ρ (l.map ev) (l.map ρe)
 | []=>by simp[SV.fits]
 |x::l=>by simp only[List.map_cons,SV.fits];exact⟨he x,q6g he l⟩
theorem buildSlice_ok{t:TypeId}{len:Nat}{parts:List (Nat×SV)}{vparts:List (Nat×Value)}(hm:HM M w0 ρ h w)(h1:parts.map (·.1)=vparts.map (·.1))(h2:SV.fits h.nx ρ (parts.map (·.2)) (vparts.map (·.2))){K:SV×SH->Prop}
  (hK:(q6j P h t len parts).Holds K):GoodV P M w0 ρ h K (Instr.buildSlice t len vparts.toArray) w:=by
 unfold q6j at hK;split at hK
 .rename_i e hu;split at hK
  .rename_i i hi;split at hK
   .rename_i z hz;split at hK
    .have hv:vparts=[]:=by simpa using h1.symm
     subst hv
     have hr:(Instr.buildSlice t 0 #[]).run P w=.ok (.slice (some ⟨w.heap.size,0,none⟩) 0 0) (w.alloc (.cells #[] e)):=by
      simp[Instr.buildSlice,run_underlying hu,sizeOf,typeInfo,hi,Instr.fill,newRow];congr 2;apply Array.ext'<;>simp
     refine⟨_,_,upd ρ h.nx ⟨w.heap.size,0,0,false⟩,_,_,hK,Nat.le_succ _,q0r _ _ _,hm.push ⟨Nat.zero_le _,.inr ⟨rfl,rfl,#[],(0,0),rfl,okFz0 _,by simp,Nat.zero_le _,Nat.zero_le _,λi hi=>by omega⟩⟩,?_,hr⟩;exact⟨Nat.lt_succ_self _,.inr ⟨by simp[upd],Nat.zero_le _,by simp[upd]⟩⟩
    rename_i len' parts' _;obtain⟨hc,hK1⟩:=q08 hK;simp only[Bool.and_eq_true]at hc;have c1:0<len*i.size:=by simpa [Nat.blt_eq]using hc.1
    have c2:=Nat.le_of_ble_eq_true hc.2;split at hK1
    .rename_i cs hfl
     have hz0:SV.fits h.nx ρ ((List.range (len*i.size)).map λj=>SV.k (z.cells[j%z.cells.size]!)) ((List.range (len*i.size)).map λj=>z.cells[j%z.cells.size]!):=by
      have:=q6v (n:=h.nx) (ρ:=ρ) ((List.range (len*i.size)).map λj=>z.cells[j%z.cells.size]!)
      rwa [List.map_map]at this
     obtain⟨l',hl',hf'⟩:=fill_ok hfl hz0 h1 h2
     have hr:=run_buildSlice (P:=P) w t e len vparts.toArray l'.toArray i z hu hi hz (by omega) (by omega) (by
      have e1:(Array.range (len*i.size)).map (z.cells[· %z.cells.size]!)=((List.range (len*i.size)).map λj=>z.cells[j%z.cells.size]!).toArray:=by
       apply Array.ext';simp
      rw[e1];exact hl')
     refine⟨_,_,upd ρ h.nx ⟨w.heap.size,0,0,false⟩,_,_,hK1,Nat.le_succ _,q0r _ _ _,hm.push ⟨rfl,rfl,l',rfl,hf'⟩,?_,hr⟩;simp[SV.fit,SH.push,upd]
    .exact hK1.elim
   .exact hK.elim
  .exact hK.elim
 .exact hK.elim
theorem q1e(op:BinOp)(t:TypeId)(xo yo:Operand){x y:Value}(h1:∀c,x≠.agg c)(h2:x≠.nilIface)(w:World):(eqGuard op t xo yo x y).run P w=.ok () w:=by
 unfold eqGuard;cases op<;>simp<;>(split<;>simp_all)
theorem nilCmp_ok{t:TypeId}{a b:SV}{x y:Value}{r:Bool}{n:Nat}(ha:a.fit n ρ x)(hb:b.fit n ρ y)(hc:nilCmp P t a b=some r)(w:World)(op:BinOp)(xo yo:Operand)(d:Nat):
  (eqGuard op t xo yo x y).run P w=.ok () w/\(Op.equalIn (d+1) t x y).run P w=.ok r w/\binOp .eql t x y=(do pure (.bool (<-Op.equal t x y)))/\binOp .neq t x y=(do pure (.bool (!(<-Op.equal t x y)))):=by
 unfold nilCmp at hc;split at hc
 .rename_i hu;split at hc
  .obtain⟨l,rfl,_⟩:=ha;simp only[SV.fit]at hb;subst hb;simp only[Option.some.injEq]at hc;subst hc;exact⟨q1e _ _ _ _ (by simp) (by simp) w,by simp[Op.equalIn,run_underlying hu],rfl,rfl⟩
  .simp only[SV.fit]at ha hb;subst ha;subst hb;simp only[Option.some.injEq]at hc;subst hc;exact⟨q1e _ _ _ _ (by simp) (by simp) w,by simp[Op.equalIn,run_underlying hu],rfl,rfl⟩
  .cases hc
 .rename_i hu;split at hc
  .simp only[SV.fit]at ha hb;obtain⟨_,rfl⟩:=ha;subst hb;simp only[Option.some.injEq]at hc;subst hc;exact⟨q1e _ _ _ _ (by simp) (by simp) w,by simp[Op.equalIn,run_underlying hu],rfl,rfl⟩
  .simp only[SV.fit]at ha hb;subst ha;subst hb;simp only[Option.some.injEq]at hc;subst hc;exact⟨q1e _ _ _ _ (by simp) (by simp) w,by simp[Op.equalIn,run_underlying hu],rfl,rfl⟩
  .cases hc
 .rename_i hu;split at hc
  .simp only[SV.fit]at ha hb;obtain⟨_,rfl⟩:=ha;subst hb;simp only[Option.some.injEq]at hc;subst hc;exact⟨q1e _ _ _ _ (by simp) (by simp) w,by simp[Op.equalIn,run_underlying hu],rfl,rfl⟩
  .simp only[SV.fit]at ha hb;subst ha;subst hb;simp only[Option.some.injEq]at hc;subst hc;exact⟨q1e _ _ _ _ (by simp) (by simp) w,by simp[Op.equalIn,run_underlying hu],rfl,rfl⟩
  .cases hc
 .rename_i hu;split at hc
  .simp only[SV.fit]at ha hb;obtain⟨_,rfl⟩:=ha;subst hb;simp only[Option.some.injEq]at hc;subst hc;exact⟨q1e _ _ _ _ (by simp) (by simp) w,by simp[Op.equalIn,run_underlying hu],rfl,rfl⟩
  .simp only[SV.fit]at ha hb;obtain⟨_,rfl⟩:=ha;subst hb;simp only[Option.some.injEq]at hc;subst hc;exact⟨q1e _ _ _ _ (by simp) (by simp) w,by simp[Op.equalIn,run_underlying hu],rfl,rfl⟩
  .simp only[SV.fit]at ha hb;subst ha;subst hb;simp only[Option.some.injEq]at hc;subst hc;exact⟨q1e _ _ _ _ (by simp) (by simp) w,by simp[Op.equalIn,run_underlying hu],rfl,rfl⟩
  .simp only[SV.fit]at ha hb;subst ha;subst hb;simp only[Option.some.injEq]at hc;subst hc;exact⟨q1e _ _ _ _ (by simp) (by simp) w,by simp[Op.equalIn,run_underlying hu],rfl,rfl⟩
  .cases hc
 .cases hc
theorem q7s{n:Nat}{ev:Operand->SV}{ρe:Operand->Value}(he:∀x,(ev x).fit n ρ (ρe x))(o:Option Operand):optFit n ρ (o.map ev) (o.map ρe):=by
 cases o with
 |none=>trivial
 |some x=>exact he x
theorem callFunc_ok{g:Nat}(hc:callable P g=true)(args:Array Value)(w:World):(callFunc g args).run P w=.ok (.enter g args) w:=by
 unfold callable at hc;unfold callFunc;simp only[Sem.run_bind,run_program,Result.andThen_ok];cases hf:P.funcs[g]? with
 |none=>simp[hf]at hc
 |some fn=>
  simp only[hf,Bool.and_eq_true,Bool.not_eq_true']at hc;have hn:¬fn.body.isNone=true:=by rw[Option.isNone_iff_eq_none];intro e;rw[e]at hc;simp at hc
  have hnum:¬(fn.name== "runtime.NumGoroutine")=true:=by rw[hc.2];simp
  simp only[if_neg hnum,if_neg hn,Sem.run_pure]
end
end Go.Sx

namespace Go.Sx
open Go.RowKit
variable[Env]
section
variable{P:Program}{M:Nat->Prop}{w0 w:World}{ρ:Rh}{h:SH}
theorem map_fst{α:Type}(f:Operand->α)(l:List (Nat×Operand)):(l.map λx=>(x.1,f x.2)).map (·.1)=l.map (·.1):=by
 induction l with
 |nil=>rfl
 |cons x l ih=>simp[ih]
theorem map_snd{α:Type}(f:Operand->α)(l:List (Nat×Operand)):(l.map λx=>(x.1,f x.2)).map (·.2)=(l.map (·.2)).map f:=by
 induction l with
 |nil=>rfl
 |cons x l ih=>simp[ih]
theorem builtin_ok{b:Builtin}{ts:List TypeId}{as:List SV}{vs:List Value}{ty:TypeId}(hm:HM M w0 ρ h w)(ha:SV.fits h.nx ρ as vs){K:SV×SH->Prop}(hK:(q84 P h b ts as).Holds K):
  ∃s:Sem Value,(∀cs,builtin b ts.toArray ty cs vs.toArray=(do pure (.value (<-s))))/\GoodV P M w0 ρ h K s w:=by
 unfold q84 at hK;split at hK
 .split at hK
  .obtain⟨x,r,rfl,hx,hr⟩:=q03 ha;have:=q0b hr;subst this;exact⟨_,λ_=>rfl,lenH_ok hm hx hK⟩
  .exact hK.elim
 .exact⟨_,λ_=>rfl,goodP_V hm hK λK' h'=>by simpa using min_ok (mx:=false) ha h' ts.toArray ty⟩
 .exact⟨_,λ_=>rfl,goodP_V hm hK λK' h'=>by simpa using min_ok (mx:=true) ha h' ts.toArray ty⟩
 .split at hK
  .obtain⟨x,r,rfl,hx,hr⟩:=q03 ha;obtain⟨y,r',rfl,hy,hr'⟩:=q03 hr;have:=q0b hr';subst this;exact⟨_,λ_=>rfl,copy_ok hm hx hy hK⟩
  .exact hK.elim
 .split at hK
  .obtain⟨x,r,rfl,hx,hr⟩:=q03 ha;obtain⟨y,r',rfl,hy,hr'⟩:=q03 hr;have:=q0b hr';subst this;exact⟨_,λ_=>rfl,appendY_ok hm hx hy hK⟩
  .exact hK.elim
 .split at hK
  .obtain⟨x,r,rfl,hx,hr⟩:=q03 ha;have:=q0b hr;subst this;exact⟨_,λ_=>rfl,cap_ok hm hx hK⟩
  .exact hK.elim
 .split at hK
  .obtain⟨x,r,rfl,hx,hr⟩:=q03 ha;have:=q0b hr;subst this;exact⟨_,λ_=>rfl,clear_ok hm hx hK⟩
  .exact hK.elim
 .split at hK
  .obtain⟨x,r,rfl,hx,hr⟩:=q03 ha;obtain⟨y,r',rfl,hy,hr'⟩:=q03 hr;have:=q0b hr';subst this;exact⟨_,λ_=>rfl,delete_ok hm hx hy hK⟩
  .exact hK.elim
 .exact hK.elim
theorem nil_good{t:TypeId}{x y:Operand}{ρe:Operand->Value}{b:Bool}{op:BinOp}{r:Bool}{K:SV×SH->Prop}(hm:HM M w0 ρ h w)(hK:K (.k (.bool r),h))(n1:(eqGuard op t x y (ρe x) (ρe y)).run P w=.ok () w)
  (n2:(Op.equalIn (9999+1) t (ρe x) (ρe y)).run P w=.ok b w) (n3:(op=.eql/\r=b/\binOp .eql t (ρe x) (ρe y)=(do pure (.bool (<-Op.equal t (ρe x) (ρe y)))))\/(op=.neq/\r=(!b)/\binOp .neq t (ρe x) (ρe y)=(do pure (.bool (!(<-Op.equal t (ρe x) (ρe y))))))) :
  GoodV P M w0 ρ h K (do eqGuard op t x y (ρe x) (ρe y);binOp op t (ρe x) (ρe y)) w:=by
 have h2:(Op.equal t (ρe x) (ρe y)).run P w=.ok b w:=by rw[Op.equal,Op.maxDepth];exact n2
 generalize ρe x=vx at *;generalize ρe y=vy at *;generalize Op.equal t vx vy=q at *;rcases n3 with ⟨rfl,rfl,n3⟩|⟨rfl,rfl,n3⟩
 .refine GoodV.same hm hK (x:=.bool r) (by simp[SV.fit]) ?_;rw[n3];simp[n1,h2]
 .refine GoodV.same hm hK (x:=.bool (!b)) (by simp[SV.fit]) ?_;rw[n3];simp[n1,h2]
set_option maxHeartbeats 1000000 in
theorem op_ok{run yld:Nat->Con}(hrun:∀f,FnOk P f (run f))(hyld:YldOk P yld){o:Oper}{a:Act}{ev:Operand->SV}(hm:HM M w0 ρ h w)(he:∀x,(ev x).fit h.nx ρ (a.eval x)){K:SV×SH->Prop}
  (hK:(opS P run yld ev h o.op).Holds K):OpGood P M w0 ρ h K o a w:=by
 obtain⟨dst,op,ty,pos,after,guard⟩:=o;simp only at hK;unfold opS at hK;split at hK
 .rename_i x;exact q0p (s:=pure (a.eval x)) (by intro c;simp) (by intro w;simp[execOp]) (GoodV.same hm hK (he _) (by simp))
 .rename_i x;exact q0p (s:=pure (a.eval x)) (by intro c;simp) (by intro w;simp[execOp]) (GoodV.same hm hK (he _) (by simp))
 .rename_i c x y;split at hK
  .rename_i z hz;have hc:=SV.bool_fit hz (he c);refine q0p (s:=pure (bif z then a.eval x else a.eval y)) (by intro c;simp) (by intro w;cases z<;>simp[execOp,hc,asBool]) (GoodV.same hm hK ?_ (by simp;rfl));cases z
   .exact he y
   .exact he x
  .rename_i z hz;have hc:=SV.bool_fit hz (he c);split at hK
   .rename_i _ u1 _ u2 h1 h2;have e1:=SV.bool_fit h1 (he x);have e2:=SV.bool_fit h2 (he y);exact q0p (s:=pure (.bool (bif z then u1 else u2))) (by intro c;simp) (by intro w;cases z<;>simp[execOp,hc,asBool,e1,e2]) (GoodV.same hm hK (by simp[SV.fit];rfl) (by simp))
   .cases z with
    |true=>exact q0p (s:=pure (a.eval x)) (by intro c;simp) (by intro w;simp[execOp,hc,asBool]) (GoodV.same hm (hK.1 rfl) (he x) (by simp))
    |false=>exact q0p (s:=pure (a.eval y)) (by intro c;simp) (by intro w;simp[execOp,hc,asBool]) (GoodV.same hm (hK.2 rfl) (he y) (by simp))
  .exact hK.elim
 .exact q0p (by intro c;simp) (λw=>run_v _ w) (alloc_ok hm hK)
 .exact q0p (by intro c;simp) (λw=>run_v _ w) (box_ok hm (he _) hK)
 .rename_i t ps;have hb:=build_ok (P:=P) (vparts:=ps.toList.map λx=>(x.1,a.eval x.2)) hm (by rw[map_fst,map_fst]) (by rw[map_snd,map_snd];exact q6g he _) hK;refine q0p (s:=Instr.build t (ps.toList.map λx=>(x.1,a.eval x.2)).toArray) (by intro c;simp) (by intro w;simp only[execOp];rw[run_v];congr 2;apply congrArg;apply Array.ext';simp) hb
 .rename_i t len ps;have hb:=buildSlice_ok (P:=P) (vparts:=ps.toList.map λx=>(x.1,a.eval x.2)) hm (by rw[map_fst,map_fst]) (by rw[map_snd,map_snd];exact q6g he _) hK;refine q0p (s:=Instr.buildSlice t len (ps.toList.map λx=>(x.1,a.eval x.2)).toArray) (by intro c;simp) (by intro w;simp only[execOp];rw[run_v];congr 2;apply congrArg;apply Array.ext';simp) hb
 .exact q0p (by intro c;simp) (λw=>run_v _ w) (load_ok hm (he _) hK)
 .exact og_unit (by intro c;simp) (λw=>run_u _ w) (store_ok hm (he _) (he _) hK)
 .rename_i op t x y ty';split at hK
  .rename_i b hb;obtain⟨n1,n2,n3,_⟩:=nilCmp_ok (P:=P) (he x) (he y) hb w .eql x y 9999;exact q0p (s:=do eqGuard .eql t x y (a.eval x) (a.eval y);binOp .eql t (a.eval x) (a.eval y)) (by intro c;simp) (λw=>by simp only[execOp];rw[run_v]) (nil_good hm hK n1 n2 (.inl ⟨rfl,rfl,n3⟩))
  .rename_i b hb;obtain⟨n1,n2,_,n3⟩:=nilCmp_ok (P:=P) (he x) (he y) hb w .neq x y 9999;exact q0p (s:=do eqGuard .neq t x y (a.eval x) (a.eval y);binOp .neq t (a.eval x) (a.eval y)) (by intro c;simp) (λw=>by simp only[execOp];rw[run_v]) (nil_good hm hK n1 n2 (.inr ⟨rfl,rfl,n3⟩))
  .exact hK.elim
  .exact q0p (by intro c;simp) (λw=>by simp only[execOp];rw[run_v]) (goodP_V hm hK λK' h'=>bin_ok (he x) (he y) h' x y)
 .exact q0p (by intro c;simp) (λw=>run_v _ w) (goodP_V hm hK λK' h'=>un_ok (he _) h')
 .exact q0p (by intro c;simp) (λw=>run_v _ w) (convH_ok hm (he _) hK)
 .rename_i f first cap
  obtain⟨hc,hK1⟩:=q08 hK
  have hf0:first=#[]:=by
   have:=q02 hc;exact Array.eq_empty_of_size_eq_zero this
  subst hf0;exact q0p (s:=pure (.func (.func f) #[] (cap.map a.eval))) (by intro c;simp) (by intro w;simp[execOp,Instr.makeFunc]) (GoodV.same hm hK1 (x:=.func (.func f) #[] (cap.map a.eval)) ⟨cap.toList.map a.eval,congrArg _ (by apply Array.ext';simp),q6g he _⟩ (by simp))
 .exact q0p (by intro c;simp) (λw=>run_v _ w) (slice_ok hm (he _) (q7s he _) (q7s he _) hK)
 .exact q0p (by intro c;simp) (λw=>run_v _ w) (slice3_ok hm (he _) (q7s he _) (he _) (he _) hK)
 .rename_i x;obtain⟨hc,hK⟩:=q08 hK;obtain⟨b,hb⟩:=ptrS_fit hc (he x);exact q0p (s:=pure (a.eval x)) (by intro c;simp) (by intro w;simp[execOp,hb]) (GoodV.same hm hK (he x) (by simp))
 .exact q0p (by intro c;simp) (λw=>run_v _ w) (makeSlice_ok hm (he _) (he _) hK)
 .exact q0p (by intro c;simp) (λw=>run_v _ w) (rangeM_ok hm (he _) hK)
 .exact q0p (by intro c;simp) (λw=>run_v _ w) (nextM_ok hm (he _) hK)
 .exact q0p (by intro c;simp) (λw=>run_v _ w) (entryM_ok hm (he _) hK)
 .exact q0p (by intro c;simp) (λw=>run_v _ w) (makeMap_ok hm (q7s he _) hK)
 .exact q0p (by intro c;simp) (λw=>run_v _ w) (look_ok hm (he _) (he _) hK)
 .exact og_unit (by intro c;simp) (λw=>run_u _ w) (update_ok hm (he _) (he _) (he _) hK)
 .exact og_unit (by intro c;simp) (λw=>run_u _ w) (update_ok hm (he _) (he _) (he _) hK)
 .exact q0p (by intro c;simp) (λw=>run_v _ w) (entry_ok hm (he _) (he _) hK)
 .exact og_unit (by intro c;simp) (λw=>run_u _ w) (estore_ok hm (he _) (he _) (he _) hK)
 .exact q0p (by intro c;simp) (λw=>run_v _ w) (fieldAddr_ok hm (he _) hK)
 .exact q0p (by intro c;simp) (λw=>run_v _ w) (field_ok hm (he _) hK)
 .exact q0p (by intro c;simp) (λw=>run_v _ w) (indexAddr_ok hm (he _) (he _) hK)
 .exact q0p (by intro c;simp) (λw=>run_v _ w) (index_ok hm (he _) (he _) hK)
 .exact q0p (by intro c;simp) (λw=>run_v _ w) (extract_ok hm (he _) hK)
 .rename_i c;obtain⟨callee,args,ats⟩:=c;simp only at hK;split at hK
  .rename_i b;obtain⟨s,hs,hg⟩:=builtin_ok (P:=P) (ty:=ty) hm (q6g he args.toList) hK;refine q0p (s:=s) (by intro c;simp) (λw=>?_) hg;have e1:(ats.toList).toArray=ats:=by simp
   have e2:(args.toList.map a.eval).toArray=args.map a.eval:=by apply Array.ext';simp
   rw[e1,e2]at hs;simp only[execOp,resolve,pure_bind,invoke];rw[hs];simp
  .rename_i f;split at hK
   .rename_i g cs hev;obtain⟨hc,hK1⟩:=q08 hK;have hf:=he f;rw[hev]at hf;obtain⟨l,hfe,hl⟩:=hf;have hcall:=hrun g M w0 w ρ h _ (args.toList.map a.eval++l) K hK1 hm (q0j (q6g he args.toList) hl);intro r next Q hn
    refine⟨λ_ _=>trivial,?_⟩;rw[Oper.semAt_eq _ _ _ (by intro c;simp)]
    have hx:(execOp a.eval ⟨dst,.call ⟨.value f,args,ats⟩,ty,pos,after,guard⟩).run P w=.ok (.enter g (args.toList.map a.eval++l).toArray) w:=by
     simp only[execOp,resolve,hfe,Deferred.ofValue,pure_bind,invoke];rw[callFunc_ok hc];simp
    rw[hx,Oper.uponIn_enter];refine⟨λh=>(by cases h),callsIn_fw (hcall.mono ?_)⟩;rintro e w' ⟨s,h',ρ',x,h1,h2,h3,h4,h5,rfl⟩;exact hn _ _ _ _ _ h1 h2 h3 h4 h5
   .rename_i l hev;have hf:=he f;rw[hev]at hf;obtain⟨hlt,hfe⟩:=hf;intro r next Q hn
    obtain⟨f',tmps,assign,body,hy,hround⟩:=hyld M w0 w ρ h l _ (args.toList.map a.eval) K r hK hm (q6g he args.toList) hlt;refine⟨λ_ _=>trivial,?_⟩;rw[Oper.semAt_eq _ _ _ (by intro c;simp)]
    have hx:(execOp a.eval ⟨dst,.call ⟨.value f,args,ats⟩,ty,pos,after,guard⟩).run P w=.ok (.round (ρ l).blk f' tmps assign body) w:=by
     simp only[execOp,resolve,hfe,Deferred.ofValue,pure_bind,invoke];rw[<-hy,show(args.toList.map a.eval).toArray=args.map a.eval by apply Array.ext';simp];simp
    rw[hx,Oper.uponIn_round];refine⟨λh=>(by cases h),hround.mono ?_⟩;rintro e w' ⟨s,h',ρ',x,h1,h2,h3,h4,h5,rfl⟩;exact hn _ _ _ _ _ h1 h2 h3 h4 h5
   .exact hK.elim
  .exact hK.elim
 .exact hK.elim
end
end Go.Sx

namespace Go.Sx
open Go.RowKit
variable[Env]
def Tr.Each{α:Type}(p:α->Prop):Tr α->Prop
 | .ret x=>p x
 | .br _ a b=>a.Each p/\b.Each p
 | .ask _ a=>a.Each p
 | .giv _ a=>a.Each p
 | .all k=>∀n,(k n).Each p
 | .bad _=>True
theorem Tr.each_holds{α:Type}{p K:α->Prop}:∀{t:Tr α},t.Each p->t.Holds K->t.Holds λx=>K x/\p x
 | .ret _,he,h=>⟨h,he⟩
 | .br _ _ _,he,h=>⟨λc=>each_holds he.1 (h.1 c),λc=>each_holds he.2 (h.2 c)⟩
 | .ask _ _,he,h=>⟨h.1,each_holds he h.2⟩
 | .giv _ _,he,h=>λq=>each_holds he (h q)
 | .all _,he,h=>λn=>each_holds (he n) (h n)
 | .bad _,_,h=>h
theorem Tr.each_bind{α β:Type}{p:β->Prop}{f:α->Tr β}(hf:∀x,(f x).Each p)(t:Tr α):(t.bind f).Each p:=by
 induction t with
 |ret x=>exact hf x
 |br c a b iha ihb=>exact⟨iha,ihb⟩
 |ask q a ih=>exact ih
 |giv q a ih=>exact ih
 |all k ih=>exactλn=>ih n
 |bad _=>trivial
theorem Tr.each_bind'{α β:Type}{p:α->Prop}{q:β->Prop}{f:α->Tr β}(hf:∀x,p x->(f x).Each q){t:Tr α}(h:t.Each p):(t.bind f).Each q:=by
 induction t with
 |ret x=>exact hf x h
 |br c a b iha ihb=>exact⟨iha h.1,ihb h.2⟩
 |ask q a ih=>exact ih h
 |giv q a ih=>exact ih h
 |all k ih=>exactλn=>ih n (h n)
 |bad _=>trivial
def Tr.map{α β:Type}(f:α->β):Tr α->Tr β
 | .ret x=>.ret (f x)
 | .br c a b=>.br c (a.map f) (b.map f)
 | .ask p a=>.ask p (a.map f)
 | .giv p a=>.giv p (a.map f)
 | .all k=>.all λn=>(k n).map f
 | .bad w=>.bad w
theorem Tr.holds_map{α β:Type}{f:α->β}{K:β->Prop}:∀{t:Tr α},(t.map f).Holds K->t.Holds λx=>K (f x)
 | .ret _,h=>h
 | .br _ _ _,h=>⟨λc=>holds_map (h.1 c),λc=>holds_map (h.2 c)⟩
 | .ask _ _,h=>⟨h.1,holds_map h.2⟩
 | .giv _ _,h=>λq=>holds_map (h q)
 | .all _,h=>λn=>holds_map (h n)
 | .bad _,h=>h
theorem Tr.each_map{α β:Type}{f:α->β}{p:β->Prop}{q:α->Prop}(hf:∀x,q x->p (f x)){t:Tr α}(h:t.Each q):(t.map f).Each p:=by
 induction t with
 |ret x=>exact hf x h
 |br c a b iha ihb=>exact⟨iha h.1,ihb h.2⟩
 |ask q a ih=>exact ih h
 |giv q a ih=>exact ih h
 |all k ih=>exactλn=>ih n (h n)
 |bad _=>trivial
inductive It(α:Type)where
 |out (c:Bool) (a:Tr α)
 |ask (p:Prop)
section
variable{α:Type}
def Tr.hasN(isN:α->Bool):Tr α->Bool
 | .ret x=>isN x
 | .br _ a b=>a.hasN isN||b.hasN isN
 | .ask _ a=>a.hasN isN
 | .giv _ a=>a.hasN isN
 | .all _=>true
 | .bad _=>false
def wrapG(z:Bool):List (It α)->Tr α->Tr α
 | [],t=>t
 | .out c a::r,t=>.br (z&&c) a (wrapG z r t)
 | .ask p::r,t=>.ask (z=true->p) (wrapG z r t)
def pull(isN:α->Bool):Tr α->Option (List (It α)×α)
 | .ret x=>some ([],x)
 | .br c a b=>
  match a.hasN isN with
  |true=>match b.hasN isN with
   |true=>none
   |false=>match pull isN a with
    |some (l,x)=>some (.out (!c) b::l,x)
    |none=>none
  |false=>match pull isN b with
   |some (l,x)=>some (.out c a::l,x)
   |none=>none
 | .ask p a=>match pull isN a with
  |some (l,x)=>some (.ask p::l,x)
  |none=>none
 |_=>none
def mergeX(isN:α->Bool)(join:Bool->α->α->Option α)(z:Bool)(t u:Tr α):Tr α:=
 match t.hasN isN&&u.hasN isN with
 |true=>
  match pull isN t,pull isN u with
  |some (l,x),some (m,y)=>match join z x y with
   |some j=>wrapG z l (wrapG (!z) m (.ret j))
   |none=>.br z t u
  |_,_=>.br z t u
 |false=>.br z t u
def compress(isN:α->Bool)(join:Bool->α->α->Option α):Tr α->Tr α
 | .br c a b=>mergeX isN join c (compress isN join a) (compress isN join b)
 | .ask p a=>.ask p (compress isN join a)
 |t=>t
theorem q64{K:α->Prop}:∀{l:List (It α)}{t:Tr α},(wrapG false l t).Holds K->t.Holds K
 | [],_,h=>h
 | .out c a::l,t,h=>q64 (l:=l) (h.2 rfl)
 | .ask p::l,t,h=>q64 (l:=l) h.2
theorem q5l{isN:α->Bool}{K:α->Prop}:∀{t:Tr α}{l:List (It α)}{x:α},pull isN t=some (l,x)->∀{u:Tr α},(wrapG true l u).Holds K->(u.Holds K->K x)->t.Holds K
 | .ret x,l,y,h,u,hw,hx=>by
  simp only[pull,Option.some.injEq,Prod.mk.injEq]at h;obtain⟨rfl,rfl⟩:=h;exact hx hw
 | .br c a b,l,y,h,u,hw,hx=>by
  simp only[pull]at h;split at h
  .split at h
   .cases h
   .split at h
    .rename_i l' x' hp;simp only[Option.some.injEq,Prod.mk.injEq]at h;obtain⟨rfl,rfl⟩:=h;simp only[wrapG,Tr.Holds,Bool.true_and]at hw;exact⟨λhc=>q5l hp (hw.2 (by rw[hc];rfl)) hx,λhc=>hw.1 (by rw[hc];rfl)⟩
    .cases h
  .split at h
   .rename_i l' x' hp;simp only[Option.some.injEq,Prod.mk.injEq]at h;obtain⟨rfl,rfl⟩:=h;simp only[wrapG,Tr.Holds,Bool.true_and]at hw;exact⟨λhc=>hw.1 hc,λhc=>q5l hp (hw.2 hc) hx⟩
   .cases h
 | .ask p a,l,y,h,u,hw,hx=>by
  simp only[pull]at h;split at h
  .rename_i l' x' hp;simp only[Option.some.injEq,Prod.mk.injEq]at h;obtain⟨rfl,rfl⟩:=h;simp only[wrapG,Tr.Holds]at hw;exact⟨hw.1 trivial,q5l hp hw.2 hx⟩
  .cases h
 | .giv _ _,l,y,h,u,_,_=>by simp[pull]at h
 | .all _,l,y,h,u,_,_=>by simp[pull]at h
 | .bad _,l,y,h,u,_,_=>by simp[pull]at h
theorem q4x{isN:α->Bool}{P:α->Prop}:∀{t:Tr α}{l:List (It α)}{x:α},pull isN t=some (l,x)->t.Each P->P x/\∀c a,It.out c a∈l->a.Each P
 | .ret x,l,y,h,he=>by
  simp only[pull,Option.some.injEq,Prod.mk.injEq]at h;obtain⟨rfl,rfl⟩:=h;exact⟨he,λc a hm=>by simp at hm⟩
 | .br c a b,l,y,h,he=>by
  simp only[pull]at h;split at h
  .split at h
   .cases h
   .split at h
    .rename_i l' x' hp;simp only[Option.some.injEq,Prod.mk.injEq]at h;obtain⟨rfl,rfl⟩:=h;obtain⟨h1,h2⟩:=q4x hp he.1;refine⟨h1,λc' a' hm=>?_⟩;rcases List.mem_cons.1 hm with hm|hm
     .cases hm;exact he.2
     .exact h2 c' a' hm
    .cases h
  .split at h
   .rename_i l' x' hp;simp only[Option.some.injEq,Prod.mk.injEq]at h;obtain⟨rfl,rfl⟩:=h;obtain⟨h1,h2⟩:=q4x hp he.2;refine⟨h1,λc' a' hm=>?_⟩;rcases List.mem_cons.1 hm with hm|hm
    .cases hm;exact he.1
    .exact h2 c' a' hm
   .cases h
 | .ask p a,l,y,h,he=>by
  simp only[pull]at h;split at h
  .rename_i l' x' hp;simp only[Option.some.injEq,Prod.mk.injEq]at h;obtain⟨rfl,rfl⟩:=h;obtain⟨h1,h2⟩:=q4x hp he;refine⟨h1,λc' a' hm=>?_⟩;rcases List.mem_cons.1 hm with hm|hm
   .cases hm
   .exact h2 c' a' hm
  .cases h
 | .giv _ _,l,y,h,_=>by simp[pull]at h
 | .all _,l,y,h,_=>by simp[pull]at h
 | .bad _,l,y,h,_=>by simp[pull]at h
theorem q7p{P:α->Prop}{z:Bool}:∀{l:List (It α)}{t:Tr α},(∀c a,It.out c a∈l->a.Each P)->t.Each P->(wrapG z l t).Each P
 | [],_,_,h=>h
 | .out c a::l,t,hl,h=>⟨hl c a (List.mem_cons_self ..),q7p (λc' a' hm=>hl c' a' (List.mem_cons_of_mem _ hm)) h⟩
 | .ask p::l,t,hl,h=>q7p (l:=l) (λc' a' hm=>hl c' a' (List.mem_cons_of_mem _ hm)) h
structure Joins(P:α->Prop)(W:α->α->Prop)(join:Bool->α->α->Option α):Prop where
 refl:∀x,W x x
 trans:∀x y z,W x y->W y z->W x z
 join:∀z x y j,join z x y=some j->P x->P y->P j/\(z=true->W x j)/\(z=false->W y j)
theorem mergeX_each{P:α->Prop}{W:α->α->Prop}{isN:α->Bool}{join:Bool->α->α->Option α}(hj:Joins P W join){z:Bool}{t u:Tr α}(ht:t.Each P)(hu:u.Each P):(mergeX isN join z t u).Each P:=by
 unfold mergeX;split
 .split
  .rename_i l x m y h1 h2;split
   .rename_i j hjn;obtain⟨p1,p2⟩:=q4x h1 ht;obtain⟨q1,q2⟩:=q4x h2 hu;exact q7p p2 (q7p q2 (hj.join _ _ _ _ hjn p1 q1).1)
   .exact⟨ht,hu⟩
  .exact⟨ht,hu⟩
 .exact⟨ht,hu⟩
theorem q7b{P:α->Prop}{W:α->α->Prop}{isN:α->Bool}{join:Bool->α->α->Option α}(hj:Joins P W join){z:Bool}{t u:Tr α}(ht:t.Each P)(hu:u.Each P){K:α->Prop}(h:(mergeX isN join z t u).Holds K):
  (z=true->t.Holds λx=>∃j,W x j/\K j)/\(z=false->u.Holds λx=>∃j,W x j/\K j):=by
 have triv:(Tr.br z t u).Holds K->(z=true->t.Holds λx=>∃j,W x j/\K j)/\(z=false->u.Holds λx=>∃j,W x j/\K j):=λh=>
  ⟨λhz=>Tr.mono (λx hk=>⟨x,hj.refl x,hk⟩) (h.1 hz),λhz=>Tr.mono (λx hk=>⟨x,hj.refl x,hk⟩) (h.2 hz)⟩
 unfold mergeX at h;split at h
 .split at h
  .rename_i l x m y h1 h2;split at h
   .rename_i j hjn;obtain⟨p1,_⟩:=q4x h1 ht;obtain⟨q1,_⟩:=q4x h2 hu;obtain⟨_,w1,w2⟩:=hj.join _ _ _ _ hjn p1 q1;have h':=Tr.mono (K':=λx=>∃j,W x j/\K j) (λx hk=>⟨x,hj.refl x,hk⟩) h;constructor
    .rintro rfl;refine q5l h1 h' λhh=>?_;obtain⟨j',hw,hk⟩:=q64 (l:=m) hh;exact⟨j',hj.trans _ _ _ (w1 rfl) hw,hk⟩
    .rintro rfl;have h'':=q64 (l:=l) h';refine q5l h2 h'' λhh=>?_;obtain⟨j',hw,hk⟩:=hh;exact⟨j',hj.trans _ _ _ (w2 rfl) hw,hk⟩
   .exact triv h
  .exact triv h
 .exact triv h
theorem qa1{P:α->Prop}{W:α->α->Prop}{isN:α->Bool}{join:Bool->α->α->Option α}(hj:Joins P W join){t:Tr α}(h:t.Each P):(compress isN join t).Each P:=by
 induction t with
 |ret x=>exact h
 |br c a b iha ihb=>exact mergeX_each hj (iha h.1) (ihb h.2)
 |ask q a ih=>exact ih h
 |giv q a ih=>exact h
 |all k ih=>exact h
 |bad _=>exact h
theorem q46{P:α->Prop}{W:α->α->Prop}{isN:α->Bool}{join:Bool->α->α->Option α}(hj:Joins P W join):∀{t:Tr α}{K:α->Prop},t.Each P->(compress isN join t).Holds K->t.Holds λx=>∃j,W x j/\K j
 | .ret x,K,_,h=>⟨x,hj.refl x,h⟩
 | .br c a b,K,he,h=>by
  obtain⟨h1,h2⟩:=q7b hj (qa1 hj he.1) (qa1 hj he.2) h;refine⟨λhc=>Tr.mono (λx hk=>?_) (q46 hj he.1 (h1 hc)),λhc=>Tr.mono (λx hk=>?_) (q46 hj he.2 (h2 hc))⟩
  .obtain⟨j,w,j',w',k⟩:=hk;exact⟨j',hj.trans _ _ _ w w',k⟩
  .obtain⟨j,w,j',w',k⟩:=hk;exact⟨j',hj.trans _ _ _ w w',k⟩
 | .ask p a,K,he,h=>⟨h.1,q46 hj (t:=a) he h.2⟩
 | .giv p a,K,_,h=>λhp=>Tr.mono (λx hk=>⟨x,hj.refl x,hk⟩) (h hp)
 | .all k,K,_,h=>λn=>Tr.mono (λx hk=>⟨x,hj.refl x,hk⟩) (h n)
 | .bad _,K,_,h=>h
def mergeY(nj:Bool)(isN:α->Bool)(join:Bool->α->α->Option α)(z:Bool)(t u:Tr α):Tr α:=bif nj then .br z t u else mergeX isN join z t u
def q7l(nj:Bool)(isN:α->Bool)(join:Bool->α->α->Option α)(t:Tr α):Tr α:=bif nj then t else compress isN join t
theorem mergeY_holds{nj:Bool}{P:α->Prop}{W:α->α->Prop}{isN:α->Bool}{join:Bool->α->α->Option α}(hj:Joins P W join){z:Bool}{t u:Tr α}(ht:t.Each P)(hu:u.Each P){K:α->Prop}(h:(mergeY nj isN join z t u).Holds K):
  (z=true->t.Holds λx=>∃j,W x j/\K j)/\(z=false->u.Holds λx=>∃j,W x j/\K j):=by
 cases nj with
 |false=>exact q7b hj ht hu h
 |true=>exact⟨λhz=>Tr.mono (λx hk=>⟨x,hj.refl x,hk⟩) (h.1 hz),λhz=>Tr.mono (λx hk=>⟨x,hj.refl x,hk⟩) (h.2 hz)⟩
theorem q3k{nj:Bool}{P:α->Prop}{W:α->α->Prop}{isN:α->Bool}{join:Bool->α->α->Option α}(hj:Joins P W join){t:Tr α}{K:α->Prop}(he:t.Each P)(h:(q7l nj isN join t).Holds K):t.Holds λx=>∃j,W x j/\K j:=by
 cases nj with
 |false=>exact q46 hj he h
 |true=>exact Tr.mono (λx hk=>⟨x,hj.refl x,hk⟩) h
end
end Go.Sx

namespace Go.Sx
open Go.RowKit
variable[Env]
def St.base(σ:St):St:=⟨σ.n,[],⟨σ.h.nx,[],σ.h.l++σ.h.b⟩,σ.d,σ.t++σ.b⟩
def St.pop(σ y:St):St:=⟨y.n,y.t++σ.t,⟨y.h.nx,y.h.l++σ.h.l,σ.h.b⟩,y.d,σ.b⟩
def St.On(B:List (Nat×SV))(HB:List (Nat×SE))(y:St):Prop:=y.b=B/\y.h.b=HB
def jkeys{α:Type}:List (Nat×α)->List Nat->List Nat
 | [],acc=>acc
 |(i,_)::r,acc=>bif acc.any (Nat.beq i)then jkeys r acc else jkeys r (i::acc)
def clash(a b:SV):Bool:=
 match a,b with
 | .ow i _,.ow j _=>!Nat.beq i j
 | .ow _ _,.k y=>nilK y
 | .k y,.ow _ _=>nilK y
 | .ow _ _,.rs _ _ _=>true
 | .rs _ _ _,.ow _ _=>true
 |_,_=>false
def q7g(fo z:Bool)(x y:St):List Nat->Option (List (Nat×SV))
 | []=>some []
 |i::r=>bif !fo&&clash (x.slot i) (y.slot i)then none else match q7g fo z x y r with
  |some t=>some ((i,joinV 9 z (x.slot i) (y.slot i))::t)
  |none=>none
def joinO(new z:Bool)(a b:SO):Option SO:=
 match a,b with
 | .dead,_=>some .dead
 |_,.dead=>some .dead
 | .cells xs t,.cells ys t'=>match Nat.beq t t',q7f (joinV 9 z) xs ys with
  |true,some l=>some (.cells l t)
  |_,_=>bif new then some .dead else none
 | .obj (.deferred (some [])),.obj (.deferred (some []))=>some (.obj (.deferred (some [])))
 | .row t s el m,.row t' s' el' m'=>bif Nat.beq t t'&&Nat.beq s s' then some (.row t s (.cond z el el') (bif z then m else m'))else(bif new then some .dead else none)
 |_,_=>bif new then some .dead else none
def posE(i:Nat):List (Nat×SE)->Option (List Nat)
 | []=>some []
 |(j,x)::r=>bif Nat.beq i j then(match x with
  | .o _=>none
  | .lp _ _=>posE i r
  | .c p _=>match posE i r with
   |some l=>some (p::l)
   |none=>none)else posE i r
def dedup:List Nat->List Nat->List Nat
 | [],acc=>acc
 |i::r,acc=>bif acc.any (Nat.beq i)then dedup r acc else dedup r (i::acc)
def joinOne(nx0:Nat)(z:Bool)(x y:SH)(i:Nat):Option (List (Nat×SE)):=
 match posE i x.l,posE i y.l with
 |some ps,some qs=>match x.get i,y.get i with
  | .cells xs _,.cells ys _=>some ((dedup ps (dedup qs [])).map λp=>(i,.c p (joinV 9 z (xs.getD p .u) (ys.getD p .u))))
  | .loop .ready none _ _ _ _ _ _,.loop .ready none _ _ _ _ _ _=>some [(i,.lp .ready none)]
  |_,_=>none
 |_,_=>match joinO (Nat.ble nx0 i) z (x.get i) (y.get i)with
  |some o=>some [(i,.o o)]
  |none=>none
def q7y(nx0:Nat)(z:Bool)(x y:SH):List Nat->Option (List (Nat×SE))
 | []=>some []
 |i::r=>match joinOne nx0 z x y i,q7y nx0 z x y r with
  |some a,some l=>some (a++l)
  |_,_=>none
def qb6:List Nat->List Nat->Bool
 | [],[]=>true
 |a::l,b::m=>Nat.beq a b&&qb6 l m
 |_,_=>false
def clashCs:List SV->List SV->Bool
 |a::l,b::m=>clash a b||clashCs l m
 |_,_=>false
def clashH(nx0:Nat)(x y:SH):List Nat->Bool
 | []=>false
 |i::r=>(Nat.blt i nx0&&(match x.get i,y.get i with
  | .cells xs _,.cells ys _=>clashCs xs ys
  |_,_=>false))||clashH nx0 x y r
def joinSt(fo:Bool)(nx0:Nat)(z:Bool)(x y:St):Option St:=
 bif Nat.beq x.n y.n&&(qb6 x.d y.d&&(fo||!clashH nx0 x.h y.h (jkeys y.h.l (jkeys x.h.l []))))then
  match q7g fo z x y (jkeys y.t (jkeys x.t [])),q7y nx0 z x.h y.h (jkeys y.h.l (jkeys x.h.l []))with
  |some t,some l=>some ⟨x.n,t,⟨bif Nat.ble x.h.nx y.h.nx then y.h.nx else x.h.nx,l,x.h.b⟩,x.d,x.b⟩
  |_,_=>none
 else none
structure Wk(x j:St):Prop where
 on:j.On x.b x.h.b
 nx:x.h.nx<=j.h.nx
 mod:∀(M:Nat->Prop)(w0 w:World)(ρ:Rh)(a:Act),Mod M w0 ρ x a w->Mod M w0 ρ j a w
theorem Wk.refl(x:St):Wk x x:=⟨⟨rfl,rfl⟩,Nat.le_refl _,λ_ _ _ _ _ h=>h⟩
theorem Wk.trans{x y z:St}(h:Wk x y)(h':Wk y z):Wk x z:=⟨⟨h'.on.1.trans h.on.1,h'.on.2.trans h.on.2⟩,Nat.le_trans h.nx h'.nx,λM w0 w ρ a hm=>h'.mod M w0 w ρ a (h.mod M w0 w ρ a hm)⟩
theorem q31{α:Type}:∀(l:List (Nat×α))(acc:List Nat)(i:Nat),i∈jkeys l acc↔i∈acc\/i∈l.map (·.1)
 | [],acc,i=>by simp[jkeys]
 |(j,a)::r,acc,i=>by
  simp only[jkeys];cases hb:acc.any (Nat.beq j)with
  |true=>
   simp only[cond_true];rw[q31 r acc i]
   have hj:j∈acc:=by
    obtain⟨k,hk,hjk⟩:=List.any_eq_true.1 hb;rw[q02 hjk];exact hk
   simp only[List.map_cons,List.mem_cons];constructor
   .rintro(h|h)
    .exact .inl h
    .exact .inr (.inr h)
   .rintro(h|h|h)
    .exact .inl h
    .exact .inl (h▸hj)
    .exact .inr h
  |false=>
   simp only[cond_false];rw[q31 r (j::acc) i];simp only[List.map_cons,List.mem_cons];constructor
   .rintro((h|h)|h)
    .exact .inr (.inl h)
    .exact .inl h
    .exact .inr (.inr h)
   .rintro(h|h|h)
    .exact .inl (.inr h)
    .exact .inl (.inl h)
    .exact .inr h
theorem q2a{α:Type}(d:α)(i:Nat):∀{l:List (Nat×α)},i∉l.map (·.1)->look d i l=d
 | [],_=>rfl
 |(j,x)::r,h=>by
  simp only[List.map_cons,List.mem_cons,not_or]at h;rw[q1i,if_neg h.1,q2a d i h.2]
theorem q8c{fo z:Bool}{x y:St}(d:SV)(i:Nat):∀{ks:List Nat}{t:List (Nat×SV)},q7g fo z x y ks=some t->(i∈ks->look d i t=joinV 9 z (x.slot i) (y.slot i))/\(i∉ks->look d i t=d)
 | [],t,h=>by
  simp only[q7g,Option.some.injEq]at h;subst h;exact⟨λh=>by simp at h,λ_=>rfl⟩
 |k::r,t,h=>by
  simp only[q7g]at h;cases hc:!fo&&clash (x.slot k) (y.slot k)with
  |true=>rw[hc]at h;cases h
  |false=>
   rw[hc]at h;simp only[cond_false]at h;split at h
   .rename_i t' ht';simp only[Option.some.injEq]at h;subst h;obtain⟨h1,h2⟩:=q8c d i ht';rw[q1i];by_cases hik:i=k
    .subst hik;rw[if_pos rfl];exact⟨λ_=>rfl,λh=>absurd (List.mem_cons_self ..) h⟩
    .rw[if_neg hik];refine⟨λhm=>?_,λhm=>h2 λh=>hm (List.mem_cons_of_mem _ h)⟩;rcases List.mem_cons.1 hm with hm|hm
     .exact absurd hm hik
     .exact h1 hm
   .cases h
theorem q9g:∀{l m:List Nat},qb6 l m=true->l=m
 | [],[],_=>rfl
 |a::l,b::m,h=>by
  simp only[qb6,Bool.and_eq_true]at h;rw[q02 h.1,q9g h.2]
 | [],_::_,h=>by cases h
 |_::_,[],h=>by cases h
section
variable{M:Nat->Prop}{w0 w:World}{ρ:Rh}{h h':SH}
theorem joinO_ok{new z:Bool}{a b o:SO}(h:joinO new z a b=some o):o=.dead\/
  ((z=true->a.live=true/\(∀L,o.own L->a.own L)/\(∀c,o=.abs c->a=.abs c)/\∀n ρ L x,a.fit n ρ L x->o.fit n ρ L x)/\(z=false->b.live=true/\(∀L,o.own L->b.own L)/\(∀c,o=.abs c->b=.abs c)/\∀n ρ L x,b.fit n ρ L x->o.fit n ρ L x)):=by
 have nw:∀{o:SO},(bif new then some SO.dead else none)=some o->o=.dead:=by
  intro o h;cases new<;>simp at h;exact h.symm
 unfold joinO at h;split at h
 .simp only[Option.some.injEq]at h;exact .inl h.symm
 .simp only[Option.some.injEq]at h;exact .inl h.symm
 .rename_i xs t ys t' _ _;split at h
  .rename_i l ht hl;simp only[Option.some.injEq]at h;subst h;have:=q02 ht;subst this;refine .inr ⟨λhz=>⟨rfl,λ_ h=>h,λ_ h=>(by cases h),λn ρ L x hf=>?_⟩,λhz=>⟨rfl,λ_ h=>h,λ_ h=>(by cases h),λn ρ L x hf=>?_⟩⟩
   .obtain⟨h1,h2,l',h3,h4⟩:=hf;exact⟨h1,h2,l',h3,(q52 (q36 9) hl).1 hz _ h4⟩
   .obtain⟨h1,h2,l',h3,h4⟩:=hf;exact⟨h1,h2,l',h3,(q52 (q36 9) hl).2 hz _ h4⟩
  .exact .inl (nw h)
 .simp only[Option.some.injEq]at h;subst h;exact .inr ⟨λ_=>⟨rfl,λ_ h=>h,λ_ h=>h,λ_ _ _ _ h=>h⟩,λ_=>⟨rfl,λ_ h=>h,λ_ h=>h,λ_ _ _ _ h=>h⟩⟩
 .rename_i t s el m t' s' el' m';cases hc:Nat.beq t t'&&Nat.beq s s' with
  |true=>
   rw[hc]at h;simp only[cond_true,Option.some.injEq]at h;subst h;simp only[Bool.and_eq_true]at hc;rw[<-q02 hc.1,<-q02 hc.2];refine .inr ⟨λhz=>⟨rfl,λ_ h=>h,λ_ h=>(by cases h),λn ρ L x hf=>?_⟩,λhz=>⟨rfl,λ_ h=>h,λ_ h=>(by cases h),λn ρ L x hf=>?_⟩⟩
   .rw[hz];exact hf
   .rw[hz];exact hf
  |false=>
   rw[hc]at h;exact .inl (nw h)
 .exact .inl (nw h)
theorem q6d{α:Type}:∀(l:List (Nat×α))(acc:List Nat),acc.Nodup->(jkeys l acc).Nodup
 | [],acc,h=>h
 |(i,_)::r,acc,h=>by
  simp only[jkeys];cases hb:acc.any (Nat.beq i)with
  |true=>exact q6d r acc h
  |false=>
   refine q6d r _ (List.nodup_cons.2 ⟨λhm=>?_,h⟩);rw[List.any_eq_false]at hb;exact hb i hm (Nat.beq_refl i)
def Wo(a o:SO):Prop:=a.live=true/\(∀L,o.own L->a.own L)/\(∀b,o=.abs b->a=.abs b)/\∀n ρ L x,a.fit n ρ L x->o.fit n ρ L x
theorem wo_refl{a:SO}:a=.dead\/Wo a a:=by
 by_cases h:a=.dead
 .exact .inl h
 .exact .inr ⟨by cases a<;>simp_all[SO.live],λ_ h=>h,λ_ h=>h,λ_ _ _ _ h=>h⟩
theorem q9z:∀(l acc:List Nat)(i:Nat),i∈dedup l acc↔i∈acc\/i∈l
 | [],acc,i=>by simp[dedup]
 |j::r,acc,i=>by
  simp only[dedup];cases hb:acc.any (Nat.beq j)with
  |true=>
   simp only[cond_true];rw[q9z r acc i]
   have hj:j∈acc:=by
    obtain⟨k,hk,hjk⟩:=List.any_eq_true.1 hb;rw[q02 hjk];exact hk
   simp only[List.mem_cons];constructor
   .rintro(h|h)
    .exact .inl h
    .exact .inr (.inr h)
   .rintro(h|h|h)
    .exact .inl h
    .exact .inl (h▸hj)
    .exact .inr h
  |false=>
   simp only[cond_false];rw[q9z r (j::acc) i];simp only[List.mem_cons];constructor
   .rintro((h|h)|h)
    .exact .inr (.inl h)
    .exact .inl h
    .exact .inr (.inr h)
   .rintro(h|h|h)
    .exact .inl (.inr h)
    .exact .inl (.inl h)
    .exact .inr h
def SameL(a b:SO):Prop:=∃st pd st' pd' n t ps asg body df,a=.loop st pd n t ps asg body df/\b=.loop st' pd' n t ps asg body df
theorem q6b{i:Nat}:∀{l:List (Nat×SE)}{ps:List Nat}{d:SO},posE i l=some ps->((∀xs t,d≠.cells xs t)->SameL d (lookE d i l)\/lookE d i l=d)/\∀bs t,d=.cells bs t->∃cs,lookE d i l=.cells cs t/\cs.length=bs.length/\∀p,p∉ps->cs[p]?=bs[p]?
 | [],ps,d,h=>⟨λ_=>.inr rfl,λbs t hd=>⟨bs,hd,rfl,λ_ _=>rfl⟩⟩
 |(j,x)::r,ps,d,h=>by
  simp only[posE]at h;rw[q1o];by_cases hij:i=j
  .subst hij;rw[if_pos rfl];rw[Nat.beq_refl]at h;simp only[cond_true]at h;cases x with
   |o s=>cases h
   |lp st pd=>
    simp only at h;obtain⟨h1,h2⟩:=q6b (d:=d) h;refine⟨λhd=>?_,λbs t hd=>?_⟩
    .rcases h1 hd with ⟨st1,pd1,st2,pd2,n,t,ps,asg,body,df,e1,e2⟩|e
     .rw[e2];exact .inl ⟨st1,pd1,st,pd,n,t,ps,asg,body,df,e1,rfl⟩
     .rw[e];cases d with
      |cells xs t=>exact absurd rfl (hd xs t)
      |loop st1 pd1 n t ps asg body df=>exact .inl ⟨st1,pd1,st,pd,n,t,ps,asg,body,df,rfl,rfl⟩
      |_=>exact .inr rfl
    .obtain⟨cs,e1,e2,e3⟩:=h2 bs t hd;exact⟨cs,by rw[e1];rfl,e2,e3⟩
   |c p s=>
    simp only at h;split at h
    .rename_i l' hl';simp only[Option.some.injEq]at h;subst h;obtain⟨h1,h2⟩:=q6b (d:=d) hl';refine⟨λhd=>?_,λbs t hd=>?_⟩
     .rcases h1 hd with ⟨st1,pd1,st2,pd2,n,t,ps,asg,body,df,e1,e2⟩|e
      .rw[e2];exact .inl ⟨st1,pd1,st2,pd2,n,t,ps,asg,body,df,e1,rfl⟩
      .rw[e];cases d with
       |cells xs t=>exact absurd rfl (hd xs t)
       |_=>exact .inr rfl
     .obtain⟨cs,e1,e2,e3⟩:=h2 bs t hd;refine⟨cs.set p s,by rw[e1];rfl,by simpa using e2,λq hq=>?_⟩;simp only[List.mem_cons,not_or]at hq;rw[List.getElem?_set_ne (λe=>hq.1 e.symm)];exact e3 q hq.2
    .cases h
  .rw[if_neg hij];have:Nat.beq i j=false:=by rw[beq_nat];simp[hij]
   rw[this]at h;exact q6b h
theorem lookE_cells{i:Nat}{V:Nat->SV}:∀(ps:List Nat)(bs:List SV)(t:TypeId),∃cs,lookE (.cells bs t) i (ps.map λp=>(i,SE.c p (V p)))=.cells cs t/\cs.length=bs.length/\(∀p,p∉ps->cs[p]?=bs[p]?)/\∀p,p∈ps->p<bs.length->cs[p]?=some (V p)
 | [],bs,t=>⟨bs,rfl,rfl,λ_ _=>rfl,λp h=>by simp at h⟩
 |q::r,bs,t=>by
  obtain⟨cs,e1,e2,e3,e4⟩:=lookE_cells (i:=i) (V:=V) r bs t;refine⟨cs.set q (V q),?_,by simpa using e2,λp hp=>?_,λp hp hlt=>?_⟩
  .rw[List.map_cons,q1o,if_pos rfl,e1];rfl
  .simp only[List.mem_cons,not_or]at hp;rw[List.getElem?_set_ne (λe=>hp.1 e.symm)];exact e3 p hp.2
  .by_cases hpq:p=q
   .subst hpq;rw[List.getElem?_set_self (by omega)]
   .rw[List.getElem?_set_ne (λe=>hpq e.symm)];rcases List.mem_cons.1 hp with h|h
    .exact absurd h hpq
    .exact e4 p h hlt
def Jn(nx0:Nat)(z:Bool)(x y:SH)(i:Nat)(d o:SO):Prop:=
 (joinO (Nat.ble nx0 i) z (x.get i) (y.get i)=some o)\/(o=x.get i/\o=y.get i)\/
 ∃ps qs xs t ys t' bs tb cs,posE i x.l=some ps/\posE i y.l=some qs/\x.get i=.cells xs t/\y.get i=.cells ys t'/\d=.cells bs tb/\o=.cells cs tb/\cs.length=bs.length/\
  (∀p,p∉ps->p∉qs->cs[p]?=bs[p]?)/\∀p,(p∈ps\/p∈qs)->p<bs.length->cs[p]?=some (joinV 9 z (xs.getD p .u) (ys.getD p .u))
theorem q9q{nx0:Nat}{z:Bool}{x y:SH}(d:SO)(i:Nat)(hx:x.get i=lookE d i x.l)(hy:y.get i=lookE d i y.l):∀{ks:List Nat}{l:List (Nat×SE)},ks.Nodup->q7y nx0 z x y ks=some l->(i∉ks->lookE d i l=d)/\(i∈ks->Jn nx0 z x y i d (lookE d i l))
 | [],l,_,h=>by
  simp only[q7y,Option.some.injEq]at h;subst h;exact⟨λ_=>rfl,λh=>by simp at h⟩
 |k::r,l,hnd,h=>by
  simp only[q7y]at h;split at h
  .rename_i a l' ha hl';simp only[Option.some.injEq]at h;subst h;obtain⟨h1,h2⟩:=q9q d i hx hy (List.nodup_cons.1 hnd).2 hl';rw[q2n]
   have hkeys:∀q∈a.map (·.1),q=k:=λq hq=>by
    unfold joinOne at ha;split at ha
    .split at ha
     .simp only[Option.some.injEq]at ha;subst ha;simp only[List.map_map,List.mem_map]at hq;obtain⟨_,_,e⟩:=hq;exact e.symm
     .simp only[Option.some.injEq]at ha;subst ha;simpa using hq
     .cases ha
    .split at ha
     .simp only[Option.some.injEq]at ha;subst ha;simpa using hq
     .cases ha
   by_cases hik:i=k
   .subst hik;refine⟨λh=>absurd (List.mem_cons_self ..) h,λ_=>?_⟩;unfold joinOne at ha;split at ha
    .rename_i ps qs hps hqs;split at ha
     .rename_i xs t ys t' hxg hyg;simp only[Option.some.injEq]at ha;subst ha
      have hd:∃bs tb,d=.cells bs tb:=by
       by_cases hd:∀xs t,d≠.cells xs t
       .have:=(q6b (d:=d) hps).1 hd;rw[<-hx,hxg]at this;rcases this with ⟨_,_,_,_,_,_,_,_,_,_,_,e⟩|e
        .cases e
        .exact⟨_,_,e.symm⟩
       .rw[Classical.not_forall]at hd;obtain⟨bs,hd⟩:=hd;rw[Classical.not_forall]at hd;obtain⟨tb,hd⟩:=hd;exact⟨bs,tb,Classical.not_not.1 hd⟩
      obtain⟨bs,tb,rfl⟩:=hd;rw[h1 (List.nodup_cons.1 hnd).1];obtain⟨cs,g1,g2,g3,g4⟩:=lookE_cells (i:=i) (V:=λp=>joinV 9 z (xs.getD p .u) (ys.getD p .u)) (dedup ps (dedup qs [])) bs tb;have hmem:∀p,p∈dedup ps (dedup qs [])↔p∈qs\/p∈ps:=λp=>by rw[q9z,q9z];simp
      refine .inr (.inr ⟨ps,qs,xs,t,ys,t',bs,tb,cs,hps,hqs,hxg,hyg,rfl,g1,g2,λp h1 h2=>?_,λp hp hlt=>?_⟩)
      .rw[g3 p (λh=>((hmem p).1 h).elim h2 h1)]
      .exact g4 p ((hmem p).2 hp.symm) hlt
     .rename_i n1 t1 ps1 asg1 body1 df1 n2 t2 ps2 asg2 body2 df2 hxg hyg;simp only[Option.some.injEq]at ha;subst ha
      have hdc:∀xs t,d≠.cells xs t:=λxs t e=>by
       obtain⟨cs,e1,_⟩:=(q6b (d:=d) hps).2 xs t e;rw[<-hx,hxg]at e1;cases e1
      rw[q1o,if_pos rfl,lookE,h1 (List.nodup_cons.1 hnd).1];have e1:=(q6b (d:=d) hps).1 hdc;have e2:=(q6b (d:=d) hqs).1 hdc;rw[<-hx,hxg]at e1;rw[<-hy,hyg]at e2;refine .inr (.inl ?_);rw[hxg,hyg];rcases e1 with ⟨_,_,_,_,_,_,_,_,_,_,rfl,e1⟩|e1
      .cases e1;rcases e2 with ⟨_,_,_,_,_,_,_,_,_,_,e3,e2⟩|e2
       .cases e3;cases e2;exact⟨rfl,rfl⟩
       .cases e2;exact⟨rfl,rfl⟩
      .subst e1;rcases e2 with ⟨_,_,_,_,_,_,_,_,_,_,e3,e2⟩|e2
       .cases e3;cases e2;exact⟨rfl,rfl⟩
       .cases e2;exact⟨rfl,rfl⟩
     .cases ha
    .split at ha
     .rename_i o ho;simp only[Option.some.injEq]at ha;subst ha;rw[q1o,if_pos rfl];exact .inl ho
     .cases ha
   .rw[q7d _ _ (λh=>hik (hkeys i h))];refine⟨λhm=>h1 λh=>hm (List.mem_cons_of_mem _ h),λhm=>?_⟩;rcases List.mem_cons.1 hm with hm|hm
    .exact absurd hm hik
    .exact h2 hm
  .cases h
theorem q5y{x:SH}{HB:List (Nat×SE)}(hb:x.b=HB)(i:Nat):x.get i=lookE (lookE .dead i HB) i x.l:=by unfold SH.get;rw[hb]
theorem fits_pt{n:Nat}{ρ:Rh}{ss ts:List SV}{xs:List Value}(hl:ts.length=ss.length)(hf:SV.fits n ρ ss xs)(h:∀(p:Nat)(s t:SV)(x:Value),ss[p]?=some s->ts[p]?=some t->s.fit n ρ x->t.fit n ρ x):SV.fits n ρ ts xs:=by
 have hll:=q0a hf;refine q6f (by omega) λj t x h1 h2=>?_
 have hj:j<ss.length:=by
  have:=(List.getElem?_eq_some_iff.1 h1).1;omega
 have hs:ss[j]?=some ss[j]:=List.getElem?_eq_getElem hj;obtain⟨y,hy,hfy⟩:=q44 hf hs;rw[hy]at h2;cases h2;exact h j _ t _ hs h1 hfy
theorem objs_ok{nx0:Nat}{z:Bool}{x y:SH}{HB l:List (Nat×SE)}(hx:x.b=HB)(hy:y.b=HB)(hl:q7y nx0 z x y (jkeys y.l (jkeys x.l []))=some l)(i:Nat):
  lookE (lookE .dead i HB) i l=.dead\/((z=true->Wo (x.get i) (lookE (lookE .dead i HB) i l))/\(z=false->Wo (y.get i) (lookE (lookE .dead i HB) i l))):=by
 have hmem:∀i,i∈jkeys y.l (jkeys x.l [])↔i∈x.l.map (·.1)\/i∈y.l.map (·.1):=λi=>by
  rw[q31,q31];simp
 obtain⟨h1,h2⟩:=q9q (lookE .dead i HB) i (q5y hx i) (q5y hy i) (q6d _ _ (q6d _ _ List.nodup_nil)) hl;by_cases hi:i∈jkeys y.l (jkeys x.l [])
 .rcases h2 hi with h3|⟨h3,h4⟩|⟨ps,qs,xs,t,ys,t',bs,tb,cs,e1,e2,e3,e4,e5,e6,e7,e8,e9⟩
  .generalize lookE (lookE .dead i HB) i l=o at h3 ⊢;rcases joinO_ok h3 with h4|⟨h4,h5⟩
   .exact .inl h4
   .exact .inr ⟨λhz=>h4 hz,λhz=>h5 hz⟩
  .rw[<-h3,<-h4];generalize lookE (lookE .dead i HB) i l=o;rcases wo_refl (a:=o)with h|h
   .exact .inl h
   .exact .inr ⟨λ_=>h,λ_=>h⟩
  .rw[e6,e3,e4];obtain⟨cx,a1,a2,a3⟩:=(q6b (d:=lookE .dead i HB) e1).2 bs tb e5;obtain⟨cy,b1,b2,b3⟩:=(q6b (d:=lookE .dead i HB) e2).2 bs tb e5;rw[<-q5y hx i,e3]at a1;rw[<-q5y hy i,e4]at b1;cases a1;cases b1;refine .inr ⟨λhz=>⟨rfl,λ_ h=>h,λ_ h=>(by cases h),λn ρ L v hf=>?_⟩,λhz=>⟨rfl,λ_ h=>h,λ_ h=>(by cases h),λn ρ L v hf=>?_⟩⟩
   .obtain⟨k1,k2,v',k3,k4⟩:=hf;refine⟨k1,k2,v',k3,fits_pt (by omega) k4 λp s q val hs hq hfit=>?_⟩;by_cases hp:p∈ps\/p∈qs
    .have hlt:p<bs.length:=by have:=(List.getElem?_eq_some_iff.1 hs).1;omega
     rw[e9 p hp hlt]at hq;cases hq;refine(q36 9 _ _).1 hz _ ?_;rw[List.getD_eq_getElem?_getD,hs];exact hfit
    .rw[not_or]at hp;rw[e8 p hp.1 hp.2,<-a3 p hp.1,hs]at hq;cases hq;exact hfit
   .obtain⟨k1,k2,v',k3,k4⟩:=hf;refine⟨k1,k2,v',k3,fits_pt (by omega) k4 λp s q val hs hq hfit=>?_⟩;by_cases hp:p∈ps\/p∈qs
    .have hlt:p<bs.length:=by have:=(List.getElem?_eq_some_iff.1 hs).1;omega
     rw[e9 p hp hlt]at hq;cases hq;refine(q36 9 _ _).2 hz _ ?_;rw[List.getD_eq_getElem?_getD,hs];exact hfit
    .rw[not_or]at hp;rw[e8 p hp.1 hp.2,<-b3 p hp.2,hs]at hq;cases hq;exact hfit
 .rw[h1 hi];have hi':=λh=>hi ((hmem i).2 h);have ex:x.get i=lookE .dead i HB:=by rw[q5y hx i,q7d _ _ λh=>hi' (.inl h)]
  have ey:y.get i=lookE .dead i HB:=by rw[q5y hy i,q7d _ _ λh=>hi' (.inr h)]
  rw[ex,ey];rcases wo_refl (a:=lookE .dead i HB)with h|h
  .exact .inl h
  .exact .inr ⟨λ_=>h,λ_=>h⟩
theorem q5v(fo:Bool)(B:List (Nat×SV))(HB:List (Nat×SE))(nx0:Nat):Joins (St.On B HB) Wk (joinSt fo nx0) where
 refl:=Wk.refl
 trans _ _ _:=Wk.trans
 join z x y j hj hx hy:=by
  obtain⟨hxb,hxh⟩:=hx;obtain⟨hyb,hyh⟩:=hy;unfold joinSt at hj;cases hc:Nat.beq x.n y.n&&(qb6 x.d y.d&&(fo||!clashH nx0 x.h y.h (jkeys y.h.l (jkeys x.h.l []))))with
  |false=>rw[hc]at hj;cases hj
  |true=>
   rw[hc]at hj;simp only[cond_true]at hj;simp only[Bool.and_eq_true]at hc;have hn:=q02 hc.1;have hd:=q9g hc.2.1;split at hj
   .rename_i t l ht hl;simp only[Option.some.injEq]at hj;subst hj
    have hnx:x.h.nx<=(bif Nat.ble x.h.nx y.h.nx then y.h.nx else x.h.nx)/\y.h.nx<=(bif Nat.ble x.h.nx y.h.nx then y.h.nx else x.h.nx):=by
     cases hb:Nat.ble x.h.nx y.h.nx with
     |true=>exact⟨Nat.le_of_ble_eq_true hb,Nat.le_refl _⟩
     |false=>
      refine⟨Nat.le_refl _,?_⟩;have:¬x.h.nx<=y.h.nx:=λh=>by rw[Nat.ble_eq_true_of_le h]at hb;cases hb
      show y.h.nx<=x.h.nx;omega
    generalize (bif Nat.ble x.h.nx y.h.nx then y.h.nx else x.h.nx)=N at hnx ⊢
    have hslot:∀i,i∈jkeys y.t (jkeys x.t [])↔i∈x.t.map (·.1)\/i∈y.t.map (·.1):=λi=>by
     rw[q31,q31];simp
    have hobj:∀i,i∈jkeys y.h.l (jkeys x.h.l [])↔i∈x.h.l.map (·.1)\/i∈y.h.l.map (·.1):=λi=>by
     rw[q31,q31];simp
    have hs:∀i,(i∈jkeys y.t (jkeys x.t [])/\look (.k undef) i (t++B)=joinV 9 z (x.slot i) (y.slot i))\/(look (.k undef) i (t++B)=x.slot i/\look (.k undef) i (t++B)=y.slot i):=λi=>by
     obtain⟨h1,h2⟩:=q8c (look (.k undef) i B) i ht;rw[q39];by_cases hi:i∈jkeys y.t (jkeys x.t [])
     .exact .inl ⟨hi,h1 hi⟩
     .rw[h2 hi];have hi':=λh=>hi ((hslot i).2 h);refine .inr ⟨?_,?_⟩
      .unfold St.slot;rw[hxb,q2a _ _ λh=>hi' (.inl h)]
      .unfold St.slot;rw[hyb,q2a _ _ λh=>hi' (.inr h)]
    have ho:=objs_ok hxh hyh hl
    refine⟨⟨hxb,hxh⟩,λhz=>⟨⟨rfl,rfl⟩,hnx.1,λM w0 w ρ a hm=>⟨⟨hm.tm.1,λi hi=>?_⟩,hm.df,λi hi=>Nat.lt_of_lt_of_le (hm.dl i hi) hnx.1,hm.hp.weaken hnx.1 λi=>?_⟩⟩,
     λhz=>⟨⟨hxb.trans hyb.symm,hxh.trans hyh.symm⟩,hnx.2,λM w0 w ρ a hm=>⟨⟨hm.tm.1.trans hn.symm,λi hi=>?_⟩,by rw[hd];exact hm.df,λi hi=>Nat.lt_of_lt_of_le (hm.dl i (by rw[<-hd];exact hi)) hnx.2,hm.hp.weaken hnx.2 λi=>?_⟩⟩⟩
    .have h0:=hm.tm.2 i hi;rw[St.look_lg]at h0;have h1:=SV.fit_mono hnx.1 (Agree.refl _ _) _ _ h0;show(look (.k undef) i (t++x.b)).fit N ρ _;rw[hxb];rcases hs i with ⟨_,e⟩|⟨e,_⟩
     .rw[e];exact(q36 9 _ _).1 hz _ h1
     .rw[e];exact h1
    .show lookE (lookE .dead i x.h.b) i l=.dead\/(_/\(SO.own _ (lookE (lookE .dead i x.h.b) i l)->_)/\(∀_,_->_)/\∀o,_->SO.fit N ρ (ρ i) (lookE (lookE .dead i x.h.b) i l) o);rw[hxh];rcases ho i with e|⟨e,_⟩
     .exact .inl e
     .obtain⟨k1,k2,k4,k3⟩:=e hz;exact .inr ⟨k1,k2 _,k4,λq hq=>SO.fit_mono hnx.1 (Agree.refl _ _) (k3 _ _ _ _ hq)⟩
    .have h0:=hm.tm.2 i (by rw[<-hn];exact hi);rw[St.look_lg]at h0;have h1:=SV.fit_mono hnx.2 (Agree.refl _ _) _ _ h0;show(look (.k undef) i (t++x.b)).fit N ρ _;rw[hxb];rcases hs i with ⟨_,e⟩|⟨_,e⟩
     .rw[e];exact(q36 9 _ _).2 hz _ h1
     .rw[e];exact h1
    .show lookE (lookE .dead i x.h.b) i l=.dead\/(_/\(SO.own _ (lookE (lookE .dead i x.h.b) i l)->_)/\(∀_,_->_)/\∀o,_->SO.fit N ρ (ρ i) (lookE (lookE .dead i x.h.b) i l) o);rw[hxh];rcases ho i with e|⟨_,e⟩
     .exact .inl e
     .obtain⟨k1,k2,k4,k3⟩:=e hz;exact .inr ⟨k1,k2 _,k4,λq hq=>SO.fit_mono hnx.2 (Agree.refl _ _) (k3 _ _ _ _ hq)⟩
   .cases hj
end
theorem base_get(h:SH)(i:Nat):(⟨h.nx,[],h.l++h.b⟩:SH).get i=h.get i:=q2n _ _ _ _
theorem Mod.base{M:Nat->Prop}{w0 w:World}{ρ:Rh}{σ:St}{a:Act}(hm:Mod M w0 ρ σ a w):Mod M w0 ρ σ.base a w:=
 ⟨by simpa [St.base,St.lg]using hm.tm,hm.df,hm.dl,hm.hp.same rfl (base_get _)⟩
theorem Mod.pop{M:Nat->Prop}{w0 w:World}{ρ:Rh}{σ y:St}{a:Act}(hm:Mod M w0 ρ y a w)(ho:y.On (σ.t++σ.b) (σ.h.l++σ.h.b)):Mod M w0 ρ (σ.pop y) a w:=by
 obtain⟨h1,h2⟩:=ho;refine⟨?_,hm.df,hm.dl,hm.hp.same rfl λi=>?_⟩
 .have:=hm.tm;simp only[St.lg,h1]at this;simpa [St.pop,St.lg]using this
 .simp only[St.pop,SH.get,h2,q2n]
theorem pop_on(σ y:St):(σ.pop y).On σ.b σ.h.b:=⟨rfl,rfl⟩
inductive Ex where
 |normal
 |exit (id:Nat)
 |goto (l:Nat)
 |ret
def Ex.ex:Ex->Exit
 | .normal=>.normal
 | .exit id=>.exit id
 | .goto l=>.goto l
 | .ret=>.ret
def isNx(y:Ex×St):Bool:=
 match y.1 with
 | .normal=>true
 |_=>false
def joinX(nx0:Nat)(z:Bool)(x y:Ex×St):Option (Ex×St):=
 match x.1,y.1 with
 | .normal,.normal=>match joinSt false nx0 z x.2 y.2 with
  |some j=>some (.normal,j)
  |none=>none
 |_,_=>none
def WkX(x y:Ex×St):Prop:=x.1=y.1/\Wk x.2 y.2
theorem joinX_ok(B:List (Nat×SV))(HB:List (Nat×SE))(nx0:Nat):Joins (λy:Ex×St=>y.2.On B HB) WkX (joinX nx0) where
 refl x:=⟨rfl,Wk.refl _⟩
 trans _ _ _ h h':=⟨h.1.trans h'.1,h.2.trans h'.2⟩
 join z x y j hj hx hy:=by
  obtain⟨e,x⟩:=x;obtain⟨e',y⟩:=y;unfold joinX at hj;split at hj
  .rename_i h1 h2;simp only at h1 h2;subst h1;subst h2;split at hj
   .rename_i j' hj';simp only[Option.some.injEq]at hj;subst hj;obtain⟨k1,k2,k3⟩:=(q5v false B HB nx0).join _ _ _ _ hj' hx hy;exact⟨k1,λhz=>⟨rfl,k2 hz⟩,λhz=>⟨rfl,k3 hz⟩⟩
   .cases hj
  .cases hj
end Go.Sx

namespace Go.Sx
open Go.RowKit
variable[Env]
def St.know(σ:St)(d:Nat)(b:Bool):St:=⟨σ.n,(d,.k (.bool b))::σ.t,σ.h,σ.d,σ.b⟩
def guardS(ops:Array Oper)(σ:St)(o:Oper)(go:Bool->St->Tr St):Tr St:=
 match o.guard with
 |none=>go true σ
 |some (j,want)=>
  match(ops[j]?).bind (·.dst)with
  |some d=>bif Nat.blt d σ.n then
   match σ.slot d with
   | .k (.bool b)=>go (b==want) σ
   | .v (.bool b)=>.br b (go (true==want) (σ.know d true)) (go (false==want) (σ.know d false))
   | .k (.tuple _)=>go false σ
   |_=>.bad 500
   else .bad 501
  |none=>go false σ
def guardM(ops:Array Oper)(σ:St)(o:Oper)(go:Bool->St->Tr St):Tr St:=
 match o.guard with
 |none=>go true σ
 |some (j,want)=>
  match(ops[j]?).bind (·.dst)with
  |some d=>bif Nat.blt d σ.n then
   match σ.slot d with
   | .k (.bool b)=>go (b==want) σ
   | .v (.bool b)=>(mergeX (λ_=>true) (joinSt false σ.h.nx) b (go (true==want) (σ.base.know d true)) (go (false==want) (σ.base.know d false))).map σ.pop
   | .k (.tuple _)=>go false σ
   |_=>.bad 500
   else .bad 501
  |none=>go false σ
def q9f(P:Program)(run yld:Nat->Con)(ops:Array Oper):List Oper->St->Tr St
 | [],σ=>.ret σ
 |o::r,σ=>guardM ops σ o λg σ=>
  match g with
  |true=>(opS P run yld σ.ev σ.h o.op).bind λx=>q9f P run yld ops r (σ.put o.dst x.1 x.2)
  |false=>q9f P run yld ops r (σ.put o.dst (.k undef) σ.h)
end Go.Sx

namespace Go.Sx
open Go.RowKit
variable[Env]
def q2c(o:Oper):List Nat:=(o.after.toList.filter λe=>Region.binds .any e).map (·.on)
def maskOf(es:List Nat)(acc:List Nat):Nat:=es.foldl (λs e=>s|||2^e|||acc.getD e 0) 0
def befs:List Oper->List Nat->List Nat
 | [],acc=>acc
 |o::r,acc=>befs r (acc++[maskOf (q2c o) acc])
def EClosed(ops:List Oper)(E:Nat->Prop):Prop:=∀j o,E j->ops[j]?=some o->∀e∈q2c o,E e
theorem mask_bits{E:Nat->Prop}{acc:List Nat}(hacc:∀i,E i->∀m,(acc.getD i 0).testBit m=true->E m):∀(es:List Nat)(s:Nat),(∀m,s.testBit m=true->E m)->(∀e∈es,E e)->∀m,(es.foldl (λs e=>s|||2^e|||acc.getD e 0) s).testBit m=true->E m
 | [],s,hs,_,m,hm=>hs m hm
 |e::es,s,hs,he,m,hm=>by
  refine mask_bits hacc es _ (λm hm=>?_) (λe' h'=>he e' (List.mem_cons_of_mem _ h')) m hm;rw[Nat.testBit_or,Nat.testBit_or,Bool.or_eq_true,Bool.or_eq_true]at hm;have hee:=he e (List.mem_cons_self ..);rcases hm with (hm|hm)|hm
  .exact hs m hm
  .rw[Nat.testBit_two_pow]at hm;have:e=m:=by simpa using hm
   exact this▸hee
  .exact hacc e hee m hm
theorem befs_ok{ops:List Oper}{E:Nat->Prop}(hE:EClosed ops E):∀(l:List Oper)(pre:List Oper)(acc:List Nat),ops=pre++l->acc.length=pre.length->
  (∀i o,i<acc.length->ops[i]?=some o->(∀e∈q2c o,E e)->∀m,(acc.getD i 0).testBit m=true->E m)->
  ∀i o,ops[i]?=some o->(∀e∈q2c o,E e)->∀m,((befs l acc).getD i 0).testBit m=true->E m
 | [],pre,acc,hops,hlen,hacc,i,o,ho,he,m,hm=>by
  have hi:i<acc.length:=by
   have:=(List.getElem?_eq_some_iff.1 ho).1;rw[hops]at this;simp at this;omega
  exact hacc i o hi ho he m hm
 |o'::l,pre,acc,hops,hlen,hacc,i,o,ho,he,m,hm=>by
  refine befs_ok hE l (pre++[o']) (acc++[maskOf (q2c o') acc]) (by rw[hops];simp) (by simp[hlen]) (λi2 o2 hi2 ho2 he2 m2 hm2=>?_) i o ho he m hm;by_cases hlt:i2<acc.length
  .rw[List.getD_eq_getElem?_getD,List.getElem?_append_left hlt,<-List.getD_eq_getElem?_getD]at hm2;exact hacc i2 o2 hlt ho2 he2 m2 hm2
  .have e2:i2=acc.length:=by simp at hi2;omega
   subst e2
   have ho':o2=o':=by
    rw[hops,hlen]at ho2;simpa using ho2.symm
   subst ho';rw[List.getD_eq_getElem?_getD,List.getElem?_append_right (Nat.le_refl _)]at hm2;simp only[Nat.sub_self,List.getElem?_cons_zero,Option.getD_some]at hm2;refine mask_bits (λj hj m3 hm3=>?_) _ 0 (by simp) he2 m2 hm2;by_cases hjl:j<acc.length
   .obtain⟨oj,hoj⟩:∃oj,ops[j]?=some oj:=by
     have:j<ops.length:=by rw[hops];simp;omega
     exact⟨_,List.getElem?_eq_getElem this⟩
    exact hacc j oj hjl hoj (hE j oj hj hoj) m3 hm3
   .rw[List.getD_eq_getElem?_getD,List.getElem?_eq_none (by omega)]at hm3;simp at hm3
inductive Lin(ops:List Oper):(Nat->Prop)->List Nat->Prop
 |nil {E:Nat->Prop} (h:∀i,i<ops.length->E i):Lin ops E []
 |cons {E:Nat->Prop} {i:Nat} {o:Oper} {L:List Nat} (ho:ops[i]?=some o) (hn:¬E i) (he:∀e∈q2c o,E e) (h:Lin ops (λj=>E j\/j=i) L):Lin ops E (i::L)
theorem Lin.congr{ops:List Oper}{E E':Nat->Prop}(h:∀i,E i↔E' i){L:List Nat}(hl:Lin ops E L):Lin ops E' L:=by
 have:E=E':=funext λi=>propext (h i);exact this▸hl
theorem count_set{l:List Bool}{i:Nat}(h:l[i]?=some false):(l.set i true).count false+1=l.count false:=by
 induction l generalizing i with
 |nil=>simp at h
 |cons a l ih=>
  cases i with
  |zero=>
   simp at h;subst h;simp
  |succ i=>
   have:=ih (i:=i) (by simpa using h);cases a<;>simp[List.set_cons_succ]<;>omega
theorem lin_go{ops:Array Oper}(hback:∀i o,ops[i]?=some o->∀e∈q2c o,e<i):∀(fuel t:Nat)(listed:Array Bool)(acc:List Nat),listed.size=ops.size->listed.toList.count false<=fuel->
  ∃L,Region.linearise.go .any ops fuel t listed acc=acc.reverse++L/\Lin ops.toList (λi=>listed.getD i false=true) L
 |0,t,listed,acc,hsz,hcnt=>by
  refine⟨[],by simp[Region.linearise.go],.nil λi hi=>?_⟩;have hc:listed.toList.count false=0:=by omega
  have hi':i<listed.size:=by rw[hsz];simpa using hi
  rw[Array.getD_eq_getD_getElem?,getElem?_pos listed i hi'];have:=List.count_eq_zero.1 hc;cases hb:listed[i]with
  |true=>rfl
  |false=>exact absurd (by rw[<-hb];simp) this
 |fuel+1,t,listed,acc,hsz,hcnt=>by
  simp only[Region.linearise.go];generalize hrs:((List.range ops.size).filter λi=>!listed.getD i true&&((ops[i]?).map (·.after.all λe=>!Region.binds .any e||listed.getD e.on false)).getD false)=rs;cases hp:rs[t%rs.length]? with
  |some i=>
   have hi:i∈rs:=List.mem_of_getElem? hp;rw[<-hrs,List.mem_filter]at hi;obtain⟨hin,hcond⟩:=hi;rw[List.mem_range]at hin;simp only[Bool.and_eq_true,Bool.not_eq_true']at hcond;obtain⟨hnl,hed⟩:=hcond;have hil:i<listed.size:=by omega
   have hli:listed[i]?=some false:=by
    rw[getElem?_pos listed i hil];rw[Array.getD_eq_getD_getElem?,getElem?_pos listed i hil]at hnl;simpa using hnl
   have ho:ops[i]?=some ops[i]:=getElem?_pos ops i hin;rw[ho]at hed;simp only[Option.map_some,Option.getD_some]at hed
   obtain⟨L,h1,h2⟩:=lin_go hback fuel (t/rs.length) (listed.setIfInBounds i true) (i::acc) (by simpa using hsz) (by
    have:=count_set (l:=listed.toList) (i:=i) (by simpa using hli);rw[Array.toList_setIfInBounds];omega)
   refine⟨i::L,by simpa using h1,.cons (o:=ops[i]) (by simp[hin]) (by rw[Array.getD_eq_getD_getElem?,hli];simp) (λe he=>?_) (h2.congr λj=>?_)⟩
   .simp only[q2c,List.mem_map,List.mem_filter]at he;obtain⟨ed,⟨hm,hb⟩,rfl⟩:=he;have:=(Array.all_eq_true_iff_forall_mem.1 hed) ed (by simpa using hm);simpa [hb]using this
   .simp only[Array.getD_eq_getD_getElem?,Array.getElem?_setIfInBounds];by_cases hij:i=j
    .subst hij;simp[hil]
    .simp[hij];intro e;exact absurd e.symm hij
  |none=>
   refine⟨[],by simp,.nil λi hi=>?_⟩
   have hrs0:rs=[]:=by
    cases rs with
    |nil=>rfl
    |cons a r=>
     exfalso;rw[List.getElem?_eq_none_iff]at hp;have:=Nat.mod_lt t (show 0<(a::r).length by simp);omega
   have key:∀i,i<ops.size->listed.getD i false=true:=by
    intro i
    induction i using Nat.strongRecOn with
    |_ i ih=>
     intro hi;cases hb:listed.getD i false with
     |true=>rfl
     |false=>
      exfalso;have hil:i<listed.size:=by omega
      have hb':listed.getD i true=false:=by
       rw[Array.getD_eq_getD_getElem?,getElem?_pos listed i hil]at hb ⊢;simpa using hb
      have:i∈rs:=by
       rw[<-hrs,List.mem_filter];refine⟨List.mem_range.2 hi,?_⟩;rw[hb',getElem?_pos ops i hi];simp only[Bool.not_false,Bool.true_and,Option.map_some,Option.getD_some];rw[Array.all_eq_true_iff_forall_mem];intro ed hed;cases hbind:Region.binds .any ed with
       |false=>simp
       |true=>
        simp only[Bool.not_true,Bool.false_or]
        have hlt:=hback i ops[i] (getElem?_pos ops i hi) ed.on (by
         simp only[q2c,List.mem_map,List.mem_filter];exact⟨ed,⟨by simpa using hed,hbind⟩,rfl⟩)
        exact ih ed.on hlt (by omega)
      rw[hrs0]at this;cases this
   exact key i (by simpa using hi)
theorem lin_all{ops:Array Oper}(hback:∀i o,ops[i]?=some o->∀e∈q2c o,e<i){mixed:Bool}(hmix:mixed=true)(t:Nat):Lin ops.toList (λ_=>False) (Region.schedule mixed ops t):=by
 subst hmix;simp only[Region.schedule,Bool.true_or,if_true,Region.linearise];obtain⟨L,h1,h2⟩:=lin_go hback ops.size t (Array.replicate ops.size false) [] (by simp) (by simp);rw[h1];simp only[List.reverse_nil,List.nil_append];refine h2.congr λi=>?_;simp only[Array.getD_eq_getD_getElem?,Array.getElem?_replicate];by_cases h:i<ops.size<;>simp[h]
end Go.Sx

namespace Go.Sx
open Go.RowKit
variable[Env]
def Tr.strip{α:Type}:Tr α->Tr α
 | .ret x=>.ret x
 | .br c a b=>.br c a.strip b.strip
 | .ask p a=>.ask p a.strip
 | .giv _ _=>.bad 700
 | .all _=>.bad 701
 | .bad w=>.bad w
theorem Tr.strip_out{α:Type}{K:α->Prop}:∀{t:Tr α},t.strip.Holds K->∃x,K x/\t.Holds (·=x)/\∀p:α->Prop,t.Each p->p x
 | .ret x,h=>⟨x,h,rfl,λ_ hp=>hp⟩
 | .br true a b,h=>by
  obtain⟨x,h1,h2,h3⟩:=strip_out (h.1 rfl);exact⟨x,h1,⟨λ_=>h2,λh=>(by cases h)⟩,λp hp=>h3 p hp.1⟩
 | .br false a b,h=>by
  obtain⟨x,h1,h2,h3⟩:=strip_out (h.2 rfl);exact⟨x,h1,⟨λh=>(by cases h),λ_=>h2⟩,λp hp=>h3 p hp.2⟩
 | .ask p a,h=>by
  obtain⟨x,h1,h2,h3⟩:=strip_out h.2;exact⟨x,h1,⟨h.1,h2⟩,λp hp=>h3 p hp⟩
 | .giv _ _,h=>h.elim
 | .all _,h=>h.elim
 | .bad _,h=>h.elim
theorem each_sw{α:Type}{p:α->Prop}{k:Nat->Tr α}(hk:∀j,(k j).Each p)(i:Int):∀n,(sw n i k).Each p
 |0=>trivial
 |n+1=>⟨hk n,each_sw hk i n⟩
theorem q82{α:Type}{p:α->Prop}{k:Nat->Tr α}(hk:∀j,(k j).Each p)(c:Bool)(n:Nat)(i:Int):(idx c n i k).Each p:=by
 unfold idx;cases c
 .exact each_sw hk i n
 .simp only[cond_true];cases(decide (0<=i)&&decide (i<(n:Int)))
  .trivial
  .exact hk _
theorem q8u{a:SV}{k:Nat}{f:Nat->Bool}{x:SV×SH}{K:SV×SH->Prop}(h:K x):(askAll a k f (.ret x)).Each K:=by
 unfold askAll;cases litK a&&(List.range k).all f<;>exact h
theorem q0x{α:Type}{p:α->Prop}{c:Bool}{a b:Tr α}(ha:a.Each p)(hb:b.Each p):(bif c then a else b).Each p:=by cases c<;>assumption
def q7j(P:Program)(s d:TypeId):Bool:=
 match P.underlying s,P.underlying d with
 |some .string,some (.slice _)=>true
 |_,_=>false
def convReads(P:Program)(s d:TypeId):Bool:=
 match P.underlying s,P.underlying d with
 |some (.slice _),some .string=>true
 |_,_=>false
def callOk(Q:Nat->Bool)(ev:Operand->SV):Op->Bool
 | .call ⟨.value (.tmp t),_,_⟩=>match ev (.tmp t)with
  | .fn g _=>Q g
  |_=>false
 |_=>true
def noId0:SV->Bool
 | .k _| .v _| .rs .. | .pr _| .rm ..=>true
 |_=>false
def noId:SV->Bool
 | .agg xs=>xs.all noId0
 |s=>noId0 s
def rdO(Q:Nat->Bool):Op->Bool
 | .load .. | .indexAddr ..=>true
 | .call ⟨.value (.func f),_,_⟩=>Q f
 |_=>false
def rdOk(ev:Operand->SV):Op->Bool
 | .load _ x=>noId (ev x)
 | .indexAddr _ x _=>noId (ev x)
 | .call ⟨.value (.func _),args,_⟩=>args.toList.all λx=>noId (ev x)
 |_=>true
def Indep{α:Type}(c:SH->Tr (α×SH)):Prop:=∃t:Tr α,∀h:SH,c h=t.bind λs=>.ret (s,h)
def q2m(P:Program)(Q:Nat->Bool)(tq:Bool):Op->Bool
 | .move _| .assign _| .pick .. | .load .. | .binOp .. | .unOp .. | .fieldAddr .. | .field .. | .indexAddr .. | .index .. | .slice _ _ _ _ none| .extract .. | .makeFunc .. | .nilCheck _| .lookup .. | .build ..=>true
 | .convert s d _=>!q7j P s d
 | .call ⟨.builtin .len,_,_⟩| .call ⟨.builtin .min,_,_⟩| .call ⟨.builtin .max,_,_⟩=>true
 | .call ⟨.value (.func f),_,_⟩=>Q f
 | .call ⟨.value (.tmp _),_,_⟩=>tq
 |_=>false
section
variable{P:Program}{h:SH}
theorem q5x{α:Type}{c:Bool}{a b:SH->Tr (α×SH)}(ha:Indep a)(hb:Indep b):Indep λh=>bif c then a h else b h:=by cases c<;>assumption
theorem load_indep{t:TypeId}{a:SV}(ha:noId a=true):Indep λh=>loadS P h t a:=by
 unfold loadS;cases a<;>simp[noId,noId0]at ha
 all_goals
  simp only
  repeat' split
  all_goals first|exact⟨.bad _,λ_=>rfl⟩|exact⟨.ret _,λ_=>rfl⟩|skip
 all_goals exact q5x ⟨.ret _,λ_=>rfl⟩ ⟨.bad _,λ_=>rfl⟩
theorem sw_indep{f:Nat->SV}{h:SH}{i:Int}:∀n:Nat,sw n i (λj=>(.ret (f j,h):Tr (SV×SH)))=(sw n i λj=>.ret (f j)).bind λs=>.ret (s,h)
 |0=>rfl
 |n+1=>by
  simp only[sw];rw[sw_indep n];rfl
theorem indep_idx{c:Bool}{len:Nat}{n:Int}{f:Nat->SV}:Indep λh=>idx c len n λj=>(.ret (f j,h):Tr (SV×SH)):=by
 cases c with
 |false=>exact⟨sw len n λj=>.ret (f j),λh=>sw_indep len⟩
 |true=>
  refine q5x (c:=decide (0<=n)&&decide (n<(len:Int))) ⟨.ret _,λ_=>rfl⟩ ⟨.bad _,λ_=>rfl⟩
theorem indexAddr_indep{t:TypeId}{a ix:SV}(ha:noId a=true):Indep λh=>q3y P h t a ix:=by
 unfold q3y;cases a<;>simp[noId,noId0]at ha
 all_goals
  simp only
  repeat' split
 all_goals first
  |exact⟨.bad _,λ_=>rfl⟩
  |exact q5x indep_idx (q5x ⟨.ask _ (.ret _),λ_=>rfl⟩ ⟨.bad _,λ_=>rfl⟩)
  |exact q5x ⟨.ask _ (.ret _),λ_=>rfl⟩ ⟨.bad _,λ_=>rfl⟩
theorem each_part{t:TypeId}{xs:List SV}{o:Nat}:(partS P h t xs o).Each λy=>y.2=h:=by
 unfold partS;split
 .rfl
 .split<;>trivial
 .trivial
theorem q9x{g:Bool}{n o e1 e2:Nat}{xs:List SV}:Tr.Each (λy:SV×SH=>y.2=h) (match g with
    |true=>let ys:=(xs.drop o).take n;bif Nat.beq ys.length n then .ret (.agg ys,h)else .bad e1
    |false=>match xs[o]? with
     |some s=>.ret (s,h)
     |none=>.bad e2):=by
 cases g with
 |true=>exact q0x rfl trivial
 |false=>cases xs[o]? <;>trivial
theorem each_load{t:TypeId}{a:SV}:(loadS P h t a).Each λy=>y.2=h:=by
 unfold loadS;split
 .split
  .split
   .exact q9x
   .trivial
  .split
   .refine q0x ?_ trivial;show Tr.Each _ (match _ with|true=>_|false=>_);split
    .rfl
    .split<;>first|rfl|trivial
   .refine q0x ?_ (q0x ?_ trivial)
    .exact q9x
    .exact q9x
   .trivial
  .exact q9x
  .trivial
 .trivial
theorem each_lo{lo:Option SV}{n:Nat}{k:Nat->Tr (SV×SH)}{p:SV×SH->Prop}(hk:∀j,(k j).Each p):(loS lo n k).Each p:=by
 unfold loS
 repeat' split
 all_goals first|exact hk _|exact q82 hk _ _ _|trivial
theorem each_hi{hi:Option SV}{l n:Nat}{k:Nat->Tr (SV×SH)}{p:SV×SH->Prop}(hk:∀j,(k j).Each p):(hiS hi l n k).Each p:=by
 unfold hiS
 repeat' split
 all_goals first|exact q0x (hk _) trivial|exact q82 hk _ _ _|trivial
theorem each_loQ{lo:Option SV}{n:Nat}{k:Nat->Tr (SV×SH)}{p:SV×SH->Prop}(hk:∀j,(k j).Each p):(loQ lo n k).Each p:=by
 unfold loQ
 repeat' split
 all_goals first|exact hk _|trivial
theorem each_hiQ{hi:Option SV}{l n:Nat}{k:Nat->Tr (SV×SH)}{p:SV×SH->Prop}(hk:∀j,(k j).Each p):(hiQ hi l n k).Each p:=by
 unfold hiQ
 repeat' split
 all_goals first|exact hk _|trivial
theorem each_slice{t:TypeId}{a:SV}{lo hi:Option SV}:(sliceS P h t a lo hi).Each λy=>y.2=h:=by
 unfold sliceS
 repeat' split
 all_goals first
  |trivial
  |(refine each_hi λ_=>each_lo λ_=>?_;exact rfl)
  |(refine each_hiQ λ_=>each_loQ λ_=>?_;exact rfl)
  |(refine q0x (each_hiQ λ_=>each_loQ λ_=>?_) trivial;exact rfl)
  |(refine q0x (each_hiQ λ_=>?_) trivial;first|exact rfl|exact each_loQ λ_=>rfl)
theorem q8f{t:TypeId}{a:SV}{f:Nat}:(q4s P h t a f).Each λy=>y.2=h:=by
 unfold q4s
 repeat' split
 all_goals trivial
theorem each_field{t:TypeId}{a:SV}{f:Nat}:(fieldS P h t a f).Each λy=>y.2=h:=by
 unfold fieldS
 repeat' split
 all_goals first|trivial|exact each_part
theorem q8e{t:TypeId}{a i:SV}:(q3y P h t a i).Each λy=>y.2=h:=by
 unfold q3y
 repeat' split
 all_goals first
  |trivial
  |(refine q0x (q82 (λ_=>?_) _ _ _) ?_<;>first|exact rfl|(refine q0x ?_ trivial;exact rfl))
  |(refine q82 (λ_=>?_) _ _ _;exact rfl)
  |(refine q0x ?_ trivial;exact rfl)
theorem each_index{t:TypeId}{a i:SV}:(indexS P h t a i).Each λy=>y.2=h:=by
 unfold indexS
 repeat' split
 all_goals first|trivial|exact q82 (λ_=>each_part) _ _ _|(refine q0x (q82 (λ_=>each_part) _ _ _) ?_;first|trivial|(refine q0x ?_ trivial;exact rfl))
theorem qbe{a:SV}{i:Nat}:(q81 h a i).Each λy=>y.2=h:=by
 unfold q81
 repeat' split
 all_goals trivial
theorem each_convH{s d:TypeId}{a:SV}(hq:q7j P s d=false):(convH P h s d a).Each λy=>y.2=h:=by
 unfold convH;unfold q7j at hq;split
 .rename_i e hs hd;rw[hs,hd]at hq;cases hq
 .split
  .exact q0x (q8u rfl) trivial
  .exact q0x (q8u rfl) trivial
  .trivial
 .split<;>trivial
 ·(refine Tr.each_bind (λ_=>?_) _;exact rfl)
theorem qak{T:MapT}{k:SV}{ok:Bool}{m:Nat}{c:Nat->List SV}:(lookG P T h k ok m c).Each λy=>y.2=h:=by
 unfold lookG;split
 .trivial
 .exact q0x rfl trivial
theorem each_brAt{α:Type}{p:α->Prop}{f:List SV->Tr α}(h:∀ys,(f ys).Each p):∀(E:ElE)(k:Nat),(brAt E k f).Each p
 | .set _ ys r,k=>⟨h ys,each_brAt h r k⟩
 | .fn _,_=>h _
 | .put ..,_=>h _
 | .app ..,_=>h _
 | .sh ..,_=>h _
 | .cond ..,_=>h _
theorem each_lookB{T:MapT}{k:SV}{ok:Bool}{m:Nat}{el:ElE}:(lookB P T h k ok m el).Each λy=>y.2=h:=by
 unfold lookB;split
 .trivial
 .refine⟨?_,rfl⟩;apply each_brAt;intro ys;exact(rfl:h=h)
theorem each_lookS{t:TypeId}{a k:SV}{ok:Bool}:(lookS P h t a k ok).Each λy=>y.2=h:=by
 unfold lookS;split
 .trivial
 .split
  .split
   .exact q0x (q0x each_lookB qak) trivial
   .trivial
  .exact q0x qak trivial
  .exact q0x qak trivial
  .trivial
theorem each_op{Q:Nat->Bool}{run yld:Nat->Con}(hQ:∀f,Q f=true->∀args h,(run f args h).Each λy=>y.2=h){ev:Operand->SV}(hev:∀f,ev (.func f)=.fn f []){o:Op}{tq:Bool}(hc:tq=true->callOk Q ev o=true)(hq:q2m P Q tq o=true):(opS P run yld ev h o).Each λy=>y.2=h:=by
 unfold opS;split<;>try (simp[q2m]at hq;done)
 .rfl
 .rfl
 .repeat' split
  all_goals first|trivial|exact⟨rfl,rfl⟩
 .unfold buildS
  repeat' split
  all_goals first|trivial|exact rfl
 .exact each_load
 .repeat' split
  all_goals first|trivial|(refine Tr.each_bind (λ_=>?_) _;exact rfl)
 ·(refine Tr.each_bind (λ_=>?_) _;exact rfl)
 .simp only[q2m,Bool.not_eq_true']at hq;exact each_convH hq
 ·(refine q0x ?_ trivial;exact rfl)
 .exact each_slice
 ·(refine q0x ?_ trivial;exact rfl)
 .exact each_lookS
 .exact q8f
 .exact each_field
 .exact q8e
 .exact each_index
 .exact qbe
 .rename_i c;obtain⟨cal,args,ats⟩:=c;cases cal with
  |builtin b=>
   cases b<;>try (simp[q2m]at hq;done)
   all_goals
    simp only[q84]
    repeat' split
    all_goals first|trivial|(refine Tr.each_bind (λ_=>?_) _;exact rfl)
  |value f=>
   cases f with
   |func f=>
    simp only[q2m]at hq;simp only[hev];exact q0x (hQ f hq _ _) trivial
   |tmp t=>
    simp only[q2m]at hq;have hc:=hc hq;simp only[callOk]at hc;simp only;split at hc
    .rename_i g cs he;simp only[he];exact q0x (hQ g hc _ _) trivial
    .cases hc
   |const _=>simp[q2m]at hq
   |global _=>simp[q2m]at hq
  |invoke _ _=>simp[q2m]at hq
 .trivial
end
end Go.Sx

namespace Go.Sx
open Go.RowKit
variable[Env]
def tmpsOf(ops:List Oper)(o:Oper):List Nat:=
 (o.op.operands.toList.filterMap λ| .tmp t=>some t|_=>none)++(match o.guard with
  |some (j,_)=>match ops[j]? with
   |some g=>match g.dst with
    |some d=>[d]
    |none=>[]
   |none=>[]
  |none=>[])
def freeO(P:Program):Op->Bool
 | .move _| .assign _| .pick .. | .binOp .. | .unOp .. | .field .. | .fieldAddr .. | .extract .. | .nilCheck _| .build ..=>true
 | .convert s d _=>!q7j P s d&&!convReads P s d
 |_=>false
theorem free_quiet{P:Program}{Q:Nat->Bool}{tq:Bool}{o:Op}(h:freeO P o=true):q2m P Q tq o=true:=by
 cases o<;>simp_all[freeO,q2m]
theorem free_indep{P:Program}{run yld:Nat->Con}{ev:Operand->SV}{o:Op}(hf:freeO P o=true):∃t:Tr SV,∀h:SH,opS P run yld ev h o=t.bind λs=>.ret (s,h):=by
 cases o<;>try (simp[freeO]at hf;done)
 case move x=>exact⟨.ret (ev x),λ_=>rfl⟩
 case assign x=>exact⟨.ret (ev x),λ_=>rfl⟩
 case pick c a b=>
  simp only[opS]
  repeat' split
  all_goals first|exact⟨.ret _,λ_=>rfl⟩|exact⟨.br _ (.ret _) (.ret _),λ_=>rfl⟩|exact⟨.bad _,λ_=>rfl⟩
 case binOp op t x y t'=>
  simp only[opS]
  repeat' split
  all_goals first|exact⟨.ret _,λ_=>rfl⟩|exact⟨.bad _,λ_=>rfl⟩|exact⟨binS P _ t (ev x) (ev y),λ_=>rfl⟩
 case unOp op t x=>exact⟨unS op (ev x),λ_=>rfl⟩
 case convert s d x=>
  simp only[freeO,Bool.and_eq_true,Bool.not_eq_true']at hf;simp only[opS];unfold convH;unfold q7j convReads at hf;split
  .rename_i hs hd;rw[hs,hd]at hf;cases hf.1
  .rename_i hs hd;rw[hs,hd]at hf;cases hf.2
  .split
   .exact⟨.ret _,λ_=>rfl⟩
   .exact⟨.bad _,λ_=>rfl⟩
  .exact⟨convS P s d (ev x),λ_=>rfl⟩
 case fieldAddr t x f=>
  simp only[opS];unfold q4s
  repeat' split
  all_goals first|exact⟨.ret _,λ_=>rfl⟩|exact⟨.bad _,λ_=>rfl⟩
 case build t ps=>
  simp only[opS];unfold buildS
  repeat' split
  all_goals first|exact⟨.ret _,λ_=>rfl⟩|exact⟨.bad _,λ_=>rfl⟩
 case nilCheck x=>
  simp only[opS];cases ptrS (ev x)
  .exact⟨.bad _,λ_=>rfl⟩
  .exact⟨.ret _,λ_=>rfl⟩
 case field t x f=>
  simp only[opS];unfold fieldS;split
  .split
   .unfold partS;split
    .exact⟨.ret _,λ_=>rfl⟩
    .split
     .exact⟨.ret _,λ_=>rfl⟩
     .exact⟨.bad _,λ_=>rfl⟩
    .exact⟨.bad _,λ_=>rfl⟩
   .exact⟨.bad _,λ_=>rfl⟩
  .exact⟨.bad _,λ_=>rfl⟩
 case extract x i=>
  simp only[opS];unfold q81
  repeat' split
  all_goals first|exact⟨.ret _,λ_=>rfl⟩|exact⟨.bad _,λ_=>rfl⟩
theorem free_holds{P:Program}{run yld:Nat->Con}{ev:Operand->SV}{o:Op}(hf:freeO P o=true){h h1 h':SH}{x:SV}(hh:(opS P run yld ev h o).Holds (·=(x,h1))):(opS P run yld ev h' o).Holds (·=(x,h')):=by
 obtain⟨t,ht⟩:=free_indep (P:=P) (run:=run) (yld:=yld) (ev:=ev) hf;rw[ht]at hh ⊢;refine Tr.bind_holds (Tr.mono (λs hs=>?_) (Tr.holds_bind hh));have hs:(s,h)=(x,h1):=hs;simp only[Prod.mk.injEq]at hs;show(s,h')=(x,h');rw[hs.1]
def freeF(P:Program)(Q:Nat->Bool)(fr:Op->Bool)(o:Op):Bool:=freeO P o||(fr o&&rdO Q o)
theorem freeF_quiet{P:Program}{Q:Nat->Bool}{tq:Bool}{fr:Op->Bool}{o:Op}(h:freeF P Q fr o=true):q2m P Q tq o=true:=by
 unfold freeF at h;rw[Bool.or_eq_true,Bool.and_eq_true]at h;rcases h with h|⟨_,h⟩
 .exact free_quiet h
 .unfold rdO at h;split at h
  .rfl
  .rfl
  .exact h
  .cases h
theorem rd_indep{P:Program}{Q:Nat->Bool}{run yld:Nat->Con}{ev:Operand->SV}{o:Op}(hI:∀f,Q f=true->∀args,args.all noId=true->Indep λh=>run f args h)(hev:∀f,ev (.func f)=.fn f [])(hr:rdO Q o=true)(hk:rdOk ev o=true):Indep λh=>opS P run yld ev h o:=by
 unfold rdO at hr;split at hr
 .exact load_indep hk
 .exact indexAddr_indep hk
 .rename_i f args ats;simp only[opS,hev];refine q5x ?_ ⟨.bad _,λ_=>rfl⟩;refine hI f hr _ ?_;simp only[rdOk]at hk;simp only[List.append_nil,List.all_map];exact hk
 .cases hr
theorem freeF_holds{P:Program}{Q:Nat->Bool}{fr:Op->Bool}{run yld:Nat->Con}{ev:Operand->SV}{o:Op}(hI:∀f,Q f=true->∀args,args.all noId=true->Indep λh=>run f args h)(hev:∀f,ev (.func f)=.fn f [])(hf:freeF P Q fr o=true)(hk:fr o=true->rdO Q o=true->rdOk ev o=true){h h1 h':SH}{x:SV}(hh:(opS P run yld ev h o).Holds (·=(x,h1))):(opS P run yld ev h' o).Holds (·=(x,h')):=by
 unfold freeF at hf;rw[Bool.or_eq_true,Bool.and_eq_true]at hf;rcases hf with hf|⟨hf,hr⟩
 .exact free_holds hf hh
 .obtain⟨t,ht⟩:=rd_indep (P:=P) (yld:=yld) hI hev hr (hk hf hr);have ht:∀h,opS P run yld ev h o=t.bind λs=>.ret (s,h):=ht;rw[ht h]at hh;rw[ht h'];refine Tr.bind_holds (Tr.mono (λs hs=>?_) (Tr.holds_bind hh));have hs:(s,h)=(x,h1):=hs;simp only[Prod.mk.injEq]at hs;show(s,h')=(x,h');rw[hs.1]
theorem rdOk_congr{ev ev':Operand->SV}{o:Op}(he:∀x∈o.operands,ev x=ev' x):rdOk ev o=rdOk ev' o:=by
 unfold rdOk;split
 .rw[he _ (by simp[Op.operands])]
 .rw[he _ (by simp[Op.operands])]
 .rename_i f args ats;rw[Bool.eq_iff_iff,List.all_eq_true,List.all_eq_true];have h1:∀x∈args.toList,ev x=ev' x:=λx hx=>he x (by simp[Op.operands,Call.operands];right;simpa using hx);exact⟨λh x hx=>by rw[<-h1 x hx];exact h x hx,λh x hx=>by rw[h1 x hx];exact h x hx⟩
 .rfl
def needs(P:Program)(Q:Nat->Bool)(tq:Bool)(fr:Op->Bool)(ops:List Oper)(oi oj:Oper):Bool:=
 (!q2m P Q tq oi.op&&!freeF P Q fr oj.op)||(!q2m P Q tq oj.op&&!freeF P Q fr oi.op)||
 (match oi.dst with
  |some t=>(match oj.dst with|some t'=>Nat.beq t t'|none=>false)||(tmpsOf ops oj).any (Nat.beq t)
  |none=>false)||
 (match oj.dst with
  |some t=>(tmpsOf ops oi).any (Nat.beq t)
  |none=>false)
def backOk(ops:List Oper):Bool:=ops.zipIdx.all λx=>(q2c x.1).all λe=>Nat.blt e x.2
def pairsOk(P:Program)(Q:Nat->Bool)(tq:Bool)(fr:Op->Bool)(ops:List Oper)(ms:List Nat):Bool:=
 ops.zipIdx.all λy=>(ops.zipIdx.take y.2).all λx=>!needs P Q tq fr ops x.1 y.1||(ms.getD y.2 0).testBit x.2
def q9y(P:Program)(Q:Nat->Bool)(tq:Bool)(fr:Op->Bool)(ops:Array Oper):Bool:=
 P.follows .mixedOrders&&backOk ops.toList&&pairsOk P Q tq fr ops.toList (befs ops.toList [])
def tqOf(P:Program)(Q:Nat->Bool)(ops:Array Oper):Bool:=!q9y P Q false (λ_=>false) ops&&!q9y P Q false (λ_=>true) ops
def wrSlot(t:Nat)(o:Oper):Bool:=match o.op with
 | .store _ (.tmp s) _=>Nat.beq s t
 |_=>false
def isDst(t:Nat)(o:Oper):Bool:=match o.dst with
 |some d=>Nat.beq d t
 |none=>false
def fieldOf(ops:List Oper):Nat->Nat->Bool
 |0,_=>false
 |n+1,t=>ops.any λo=>isDst t o&&(match o.op with
  | .fieldAddr _ (.tmp s) _=>!ops.any (isDst s)||fieldOf ops n s
  |_=>false)
def rootT(ops:List Oper):Nat->Nat->Nat×Bool
 |0,t=>(t,false)
 |n+1,t=>match ops.find? (isDst t)with
  |some o=>match o.op with
   | .move (.tmp s)=>rootT ops n s
   | .fieldAddr _ (.tmp s) _=>rootT ops n s
   | .indexAddr _ (.tmp s) _=>((rootT ops n s).1,true)
   |_=>(t,false)
  |none=>(t,false)
def rwSelf(ops:List Oper):Bool:=ops.any λo=>match o.op with
 | .load _ (.tmp t)=>ops.any (wrSlot t)||((rootT ops 6 t).2&&ops.any λo'=>match o'.op with
  | .store _ (.tmp s) _=>(rootT ops 6 s).2&&Nat.beq (rootT ops 6 s).1 (rootT ops 6 t).1
  |_=>false)
 | .store _ (.tmp t) _=>fieldOf ops 3 t
 |_=>false
def outer(ops:List Oper)(o:Op):Bool:=o.operands.all λx=>match x with
 | .tmp t=>ops.all λy=>match y.dst with|some t'=>!Nat.beq t t'|none=>true
 |_=>true
def noNil(ops:List Oper):Bool:=ops.all λo=>match o.op with| .nilCheck _=>false|_=>true
def frB(P:Program)(Q:Nat->Bool)(ops:Array Oper):Bool:=!q9y P Q (tqOf P Q ops) (λ_=>false) ops&&(!rwSelf ops.toList&&(noNil ops.toList||q9y P Q (tqOf P Q ops) (outer ops.toList) ops))
def frOf(P:Program)(Q:Nat->Bool)(ops:Array Oper):Op->Bool:=bif frB P Q ops then(bif q9y P Q (tqOf P Q ops) (outer ops.toList) ops then outer ops.toList elseλ_=>true)elseλ_=>false
def q56(P:Program)(Q:Nat->Bool)(tq:Bool)(fr:Op->Bool)(run yld:Nat->Con)(ops:Array Oper):List Oper->St->Tr St
 | [],σ=>.ret σ
 |o::r,σ=>guardS ops σ o λg σ=>
  match g with
  |true=>bif (!tq||callOk Q σ.ev o.op)&&(!(fr o.op&&rdO Q o.op)||rdOk σ.ev o.op)then(opS P run yld σ.ev σ.h o.op).strip.bind λx=>q56 P Q tq fr run yld ops r (σ.put o.dst x.1 x.2)else .bad 549
  |false=>q56 P Q tq fr run yld ops r (σ.put o.dst (.k undef) σ.h)
theorem opS_congr{P:Program}{run yld:Nat->Con}{ev ev':Operand->SV}{h:SH}{o:Op}(he:∀x∈o.operands,ev x=ev' x):opS P run yld ev h o=opS P run yld ev' h o:=by
 unfold opS;cases o with
 |call c=>
  obtain⟨cal,args,ats⟩:=c;have hargs:args.toList.map ev=args.toList.map ev':=List.map_congr_left λx hx=>he x (by simp[Op.operands,Call.operands];right;simpa using hx);cases cal with
  |builtin b=>simp only[hargs]
  |value f=>simp only[hargs,he f (by simp[Op.operands,Call.operands])]
  |invoke _ _=>rfl
 |build t ps=>
  have:(ps.toList.map λx=>(x.1,ev x.2))=ps.toList.map λx=>(x.1,ev' x.2):=List.map_congr_left λx hx=>by
   rw[he x.2 (by simp[Op.operands];exact⟨x.1,by simpa using hx⟩)]
  simp only[this]
 |buildSlice t l ps=>
  have:(ps.toList.map λx=>(x.1,ev x.2))=ps.toList.map λx=>(x.1,ev' x.2):=List.map_congr_left λx hx=>by
   rw[he x.2 (by simp[Op.operands];exact⟨x.1,by simpa using hx⟩)]
  simp only[this]
 |makeFunc fn first cap=>
  have:cap.toList.map ev=cap.toList.map ev':=List.map_congr_left λx hx=>he x (by simp[Op.operands];right;simpa using hx);cases fn<;>simp only[this]
 |slice t x lo hi mx=>
  cases mx with
  |some mx=>
   have hx:=he x (by simp[Op.operands])
   have h1:lo.map ev=lo.map ev':=by
    cases lo with
    |none=>rfl
    |some a=>simp[he a (by simp[Op.operands])]
   cases hi with
   |none=>rfl
   |some hi=>
    have h2:=he hi (by simp[Op.operands]);have h3:=he mx (by simp[Op.operands]);simp only[hx,h1,h2,h3]
  |none=>
   have hx:=he x (by simp[Op.operands])
   have h1:lo.map ev=lo.map ev':=by
    cases lo with
    |none=>rfl
    |some y=>simp only[Option.map_some];rw[he y (by simp[Op.operands])]
   have h2:hi.map ev=hi.map ev':=by
    cases hi with
    |none=>rfl
    |some y=>simp only[Option.map_some];rw[he y (by simp[Op.operands])]
   simp only[hx,h1,h2]
 |pick c a b=>simp only[he c (by simp[Op.operands]),he a (by simp[Op.operands]),he b (by simp[Op.operands])]
 |move x=>simp only[he x (by simp[Op.operands])]
 |assign x=>simp only[he x (by simp[Op.operands])]
 |box t x=>simp only[he x (by simp[Op.operands])]
 |load t x=>simp only[he x (by simp[Op.operands])]
 |store t a x=>simp only[he x (by simp[Op.operands]),he a (by simp[Op.operands])]
 |binOp op t x y t'=>simp only[he x (by simp[Op.operands]),he y (by simp[Op.operands])]
 |unOp op t x=>simp only[he x (by simp[Op.operands])]
 |convert s d x=>simp only[he x (by simp[Op.operands])]
 |nilCheck x=>simp only[he x (by simp[Op.operands])]
 |makeSlice t x y=>simp only[he x (by simp[Op.operands]),he y (by simp[Op.operands])]
 |range t x=>simp only[he x (by simp[Op.operands])]
 |next x s=>simp only[he x (by simp[Op.operands])]
 |entry x=>simp only[he x (by simp[Op.operands])]
 |fieldAddr t x f=>simp only[he x (by simp[Op.operands])]
 |field t x f=>simp only[he x (by simp[Op.operands])]
 |indexAddr t x i=>simp only[he x (by simp[Op.operands]),he i (by simp[Op.operands])]
 |index t x i=>simp only[he x (by simp[Op.operands]),he i (by simp[Op.operands])]
 |extract x i=>simp only[he x (by simp[Op.operands])]
 |makeMap t r=>
  cases r with
  |none=>rfl
  |some x=>simp only[Option.map_some,he x (by simp[Op.operands])]
 |lookup t x i ok=>simp only[he x (by simp[Op.operands]),he i (by simp[Op.operands])]
 |mapUpdate t m k v=>simp only[he m (by simp[Op.operands]),he k (by simp[Op.operands]),he v (by simp[Op.operands])]
 |insert t m k v=>simp only[he m (by simp[Op.operands]),he k (by simp[Op.operands]),he v (by simp[Op.operands])]
 |mapEntry t m k=>simp only[he m (by simp[Op.operands]),he k (by simp[Op.operands])]
 |entryStore t m k v=>simp only[he m (by simp[Op.operands]),he k (by simp[Op.operands]),he v (by simp[Op.operands])]
 |_=>rfl
section
variable{P:Program}{M:Nat->Prop}{w0:World}
def Imp(T:Nat->SV)(σ:St):Prop:=∀t n ρ x,(T t).fit n ρ x->(σ.slot t).fit n ρ x
structure Trace(P:Program)(Q:Nat->Bool)(tq:Bool)(fr:Op->Bool)(run yld:Nat->Con)(ops:Array Oper)(k m:Nat)(σ σn:St)(T0:Nat->SV)(st:Nat->St)(g:Nat->Bool)(s:Nat->SV)(H:Nat->SH)(T:Nat->Nat->SV):Prop where
 h0:H k=σ.h
 t0:T k=T0
 imp:∀i,k<=i->i<m->Imp (T i) (st i)/\(st i).n=σ.n
 guard:∀i o,k<=i->i<m->ops[i]?=some o->∀(tm:Array Value)n ρ,tm.size=σ.n->
  (∀j w d,o.guard=some (j,w)->(ops[j]?).bind (·.dst)=some d->(T i d).fit n ρ (tm.getD d undef))->Region.wanted o (yielded ops tm)=g i
 yes:∀i o,k<=i->i<m->ops[i]?=some o->g i=true->(opS P run yld (st i).ev (H i) o.op).Holds (·=(s i,H (i+1)))
 each:∀i o,k<=i->i<m->ops[i]?=some o->g i=true->∀p:SV×SH->Prop,(opS P run yld (st i).ev (H i) o.op).Each p->p (s i,H (i+1))
 callq:∀i o,k<=i->i<m->ops[i]?=some o->g i=true->tq=true->callOk Q (st i).ev o.op=true
 freq:∀i o,k<=i->i<m->ops[i]?=some o->g i=true->fr o.op=true->rdO Q o.op=true->rdOk (st i).ev o.op=true
 glt:∀i o j w d,k<=i->i<m->ops[i]?=some o->o.guard=some (j,w)->(ops[j]?).bind (·.dst)=some d->d<σ.n
 no:∀i,k<=i->i<m->g i=false->H (i+1)=H i/\s i=.k undef
 next:∀i o t,k<=i->i<m->ops[i]?=some o->T (i+1) t=if o.dst=some t then s i else T i t
 hn:H m=σn.h
 tn:Imp (T m) σn
 nn:σn.n=σ.n
 dn:σn.d=σ.d
theorem imp_know{T:Nat->SV}{σ:St}{d:Nat}{b:Bool}(hi:Imp T σ)(hs:σ.slot d=.v (.bool b)):Imp T (σ.know d b):=by
 intro t n ρ x hf;have h:=hi t n ρ x hf;show(look (look (.k undef) t σ.b) t ((d,.k (.bool b))::σ.t)).fit n ρ x;rw[q1i];by_cases htd:t=d
 .subst htd;rw[if_pos rfl];rw[hs]at h;exact h
 .rw[if_neg htd];exact h
theorem imp_put{T T':Nat->SV}{σ:St}{dst:Option Nat}{s:SV}{h:SH}(hi:Imp T σ)(hT:∀t,T' t=if dst=some t then s else T t):Imp T' (σ.put dst s h):=by
 intro t n ρ x hf;rw[hT]at hf;cases dst with
 |none=>simp at hf;exact hi t n ρ x hf
 |some d=>
  show(look (look (.k undef) t σ.b) t ((d,s)::σ.t)).fit n ρ x;rw[q1i];by_cases htd:t=d
  .subst htd;simpa using hf
  .rw[if_neg htd];have:¬(some d=some t):=by simp;exactλe=>htd e.symm
   rw[if_neg this]at hf;exact hi t n ρ x hf
theorem guard_trace{ops:Array Oper}{σ:St}{o:Oper}{go:Bool->St->Tr St}{K:St->Prop}{T:Nat->SV}(hi:Imp T σ)(hK:(guardS ops σ o go).Holds K):
  ∃g σ',(go g σ').Holds K/\Imp T σ'/\σ'.h=σ.h/\σ'.n=σ.n/\σ'.d=σ.d/\(∀(tm:Array Value)n ρ,tm.size=σ.n->
   (∀j w d,o.guard=some (j,w)->(ops[j]?).bind (·.dst)=some d->(T d).fit n ρ (tm.getD d undef))->Region.wanted o (yielded ops tm)=g)/\∀j w d,o.guard=some (j,w)->(ops[j]?).bind (·.dst)=some d->d<σ.n:=by
 unfold guardS at hK;cases hg:o.guard with
 |none=>rw[hg]at hK;exact⟨true,σ,hK,hi,rfl,rfl,rfl,λtm n ρ _ _=>(by simp[Region.wanted,hg]),λj w d h=>(by cases h)⟩
 |some jw=>
  obtain⟨j,want⟩:=jw;rw[hg]at hK;simp only at hK;cases hd:(ops[j]?).bind (·.dst)with
  |none=>rw[hd]at hK;exact⟨false,σ,hK,hi,rfl,rfl,rfl,λtm n ρ _ _=>(by simp[Region.wanted,hg,yielded,hd]),λj' w' d' h h'=>(by injection h with h;injection h with e1 e2;subst e1;rw[hd]at h';cases h')⟩
  |some d=>
   rw[hd]at hK;simp only at hK
   have hlt:d<σ.n/\(match σ.slot d with
     | .k (.bool b)=>go (b==want) σ
     | .v (.bool b)=>.br b (go (true==want) (σ.know d true)) (go (false==want) (σ.know d false))
     | .k (.tuple _)=>go false σ
     |_=>.bad 500).Holds K:=by
    cases hb:Nat.blt d σ.n with
    |true=>rw[hb]at hK;exact⟨by simpa [Nat.blt_eq]using hb,hK⟩
    |false=>rw[hb]at hK;exact hK.elim
   obtain⟨hlt,hK1⟩:=hlt
   have wit:∀(g:Bool)(y:Value),(∀n ρ x,(σ.slot d).fit n ρ x->x=y)->((match y with| .bool b=>some b|_=>none)==some want)=g->∀(tm:Array Value)n ρ,tm.size=σ.n->
     (∀j' w d',some (j,want)=some (j',w)->(ops[j']?).bind (·.dst)=some d'->(T d').fit n ρ (tm.getD d' undef))->Region.wanted o (yielded ops tm)=g:=by
    intro g y hy hgy tm n ρ hsz hfit;have hx:=hy n ρ _ (hi d n ρ _ (hfit j want d rfl hd))
    have hget:tm[d]?=some (tm.getD d undef):=by
     rw[Array.getD_eq_getD_getElem?,getElem?_pos tm d (hsz▸hlt)];rfl
    simp only[Region.wanted,hg,yielded,hd,Option.bind_some,hget,hx];cases y<;>exact hgy
   have gl:∀j' w' d',some (j,want)=some (j',w')->(ops[j']?).bind (·.dst)=some d'->d'<σ.n:=λj' w' d' h h'=>by
    injection h with h;injection h with e1 e2;subst e1;rw[hd]at h';injection h' with h';exact h'▸hlt
   cases hs:σ.slot d with
   |k x=>
    rw[hs]at hK1;cases x with
    |bool b=>exact⟨_,σ,hK1,hi,rfl,rfl,rfl,wit _ (.bool b) (λn ρ x h=>by rw[hs]at h;exact h) (by simp),gl⟩
    |tuple l=>exact⟨_,σ,hK1,hi,rfl,rfl,rfl,wit _ (.tuple l) (λn ρ x h=>by rw[hs]at h;exact h) (by simp),gl⟩
    |_=>exact hK1.elim
   |v x=>
    rw[hs]at hK1;cases x with
    |bool b=>
     cases b with
     |true=>exact⟨_,σ.know d true,hK1.1 rfl,imp_know hi hs,rfl,rfl,rfl,wit _ (.bool true) (λn ρ x h=>by rw[hs]at h;exact h) (by simp),gl⟩
     |false=>exact⟨_,σ.know d false,hK1.2 rfl,imp_know hi hs,rfl,rfl,rfl,wit _ (.bool false) (λn ρ x h=>by rw[hs]at h;exact h) (by simp),gl⟩
    |_=>exact hK1.elim
   |_=>rw[hs]at hK1;exact hK1.elim
theorem trace_ok{Q:Nat->Bool}{tq:Bool}{fr:Op->Bool}{run yld:Nat->Con}{ops:Array Oper}{K:St->Prop}:∀(l:List Oper)(k:Nat)(σ:St)(T0:Nat->SV),(∀j,l[j]?=ops[k+j]?)->Imp T0 σ->(q56 P Q tq fr run yld ops l σ).Holds K->
  ∃σn st g s H T,K σn/\Trace P Q tq fr run yld ops k (k+l.length) σ σn T0 st g s H T
 | [],k,σ,T0,_,hi,hK=>by
  refine⟨σ,λ_=>σ,λ_=>true,λ_=>.u,λ_=>σ.h,λ_=>T0,hK,rfl,rfl,?_,?_,?_,?_,?_,?_,?_,?_,?_,rfl,hi,rfl,rfl⟩
  .intro i h1 h2;exact absurd h2 (by simp;omega)
  .intro i o h1 h2;exact absurd h2 (by simp;omega)
  .intro i o h1 h2;exact absurd h2 (by simp;omega)
  .intro i o h1 h2;exact absurd h2 (by simp;omega)
  .intro i o h1 h2;exact absurd h2 (by simp;omega)
  .intro i o h1 h2;exact absurd h2 (by simp;omega)
  .intro i o j w d h1 h2;exact absurd h2 (by simp;omega)
  .intro i h1 h2;exact absurd h2 (by simp;omega)
  .intro i o t h1 h2;exact absurd h2 (by simp;omega)
 |o::l,k,σ,T0,hl,hi,hK=>by
  have ho:ops[k]?=some o:=by simpa using(hl 0).symm
  have hl':∀j,l[j]?=ops[k+1+j]?:=λj=>by have:=hl (j+1);simpa [Nat.add_assoc,Nat.add_comm 1 j]using this
  obtain⟨g0,σ1,hK1,hi1,hh1,hn1,hd1,hguard,hglt⟩:=guard_trace hi hK
  have mk:∀(s0:SV)(h':SH),(q56 P Q tq fr run yld ops l (σ1.put o.dst s0 h')).Holds K->(g0=true->(opS P run yld σ1.ev σ.h o.op).Holds (·=(s0,h'))/\∀p:SV×SH->Prop,(opS P run yld σ1.ev σ.h o.op).Each p->p (s0,h'))->(g0=true->(tq=true->callOk Q σ1.ev o.op=true)/\(fr o.op=true->rdO Q o.op=true->rdOk σ1.ev o.op=true))->(g0=false->h'=σ.h/\s0=.k undef)->
    ∃σn st g s H T,K σn/\Trace P Q tq fr run yld ops k (k+(o::l).length) σ σn T0 st g s H T:=by
   intro s0 h' hK2 hyes hcq hno;have hT1:∀t,(λt=>if o.dst=some t then s0 else T0 t) t=if o.dst=some t then s0 else T0 t:=λ_=>rfl
   obtain⟨σn,st,g,s,H,T,hKn,tr⟩:=trace_ok l (k+1) (σ1.put o.dst s0 h') (λt=>if o.dst=some t then s0 else T0 t) hl' (imp_put hi1 hT1) hK2
   have hput:(σ1.put o.dst s0 h').h=h'/\(σ1.put o.dst s0 h').n=σ.n/\(σ1.put o.dst s0 h').d=σ.d:=by
    cases o.dst<;>exact⟨rfl,hn1,hd1⟩
   refine⟨σn,λi=>if i=k then σ1 else st i,λi=>if i=k then g0 else g i,λi=>if i=k then s0 else s i,λi=>if i=k then σ.h else H i,λi=>if i=k then T0 else T i,hKn,?_⟩;have hlen:k+(o::l).length=k+1+l.length:=by simp;omega
   rw[hlen];constructor
   .simp
   .simp
   .intro i h1 h2;by_cases hik:i=k
    .subst hik;simp;exact⟨hi1,hn1⟩
    .simp only[if_neg hik];have:=tr.imp i (by omega) h2;rw[hput.2.1]at this;exact this
   .intro i o' h1 h2 ho';by_cases hik:i=k
    .subst hik;rw[ho]at ho';injection ho' with ho';subst ho'
     simpa using hguard
    .simp only[if_neg hik];have:=tr.guard i o' (by omega) h2 ho';rw[hput.2.1]at this;exact this
   .intro i o' h1 h2 ho' hg;by_cases hik:i=k
    .subst hik;rw[ho]at ho';injection ho' with ho';subst ho'
     simp at hg ⊢;have:=(hyes hg).1
     rwa [tr.h0,hput.1]
    .simp only[if_neg hik]at hg ⊢;rw[if_neg (by omega)];exact tr.yes i o' (by omega) h2 ho' hg
   .intro i o' h1 h2 ho' hg p hp;by_cases hik:i=k
    .subst hik;rw[ho]at ho';injection ho' with ho';subst ho'
     simp only[if_pos]at hg hp ⊢;have:=(hyes hg).2 p hp;rw[if_neg (by omega),tr.h0,hput.1];exact this
    .simp only[if_neg hik]at hg hp ⊢;rw[if_neg (by omega)];exact tr.each i o' (by omega) h2 ho' hg p hp
   .intro i o' h1 h2 ho' hg ht;by_cases hik:i=k
    .subst hik;rw[ho]at ho';injection ho' with ho';subst ho'
     simp only[if_pos]at hg ⊢;exact(hcq hg).1 ht
    .simp only[if_neg hik]at hg ⊢;exact tr.callq i o' (by omega) h2 ho' hg ht
   .intro i o' h1 h2 ho' hg ht hr;by_cases hik:i=k
    .subst hik;rw[ho]at ho';injection ho' with ho';subst ho'
     simp only[if_pos]at hg ⊢;exact(hcq hg).2 ht hr
    .simp only[if_neg hik]at hg ⊢;exact tr.freq i o' (by omega) h2 ho' hg ht hr
   .intro i o' j w d h1 h2 ho' hg hdd;by_cases hik:i=k
    .subst hik;rw[ho]at ho';injection ho' with ho';subst ho'
     exact hglt j w d hg hdd
    .have:=tr.glt i o' j w d (by omega) h2 ho' hg hdd;rw[hput.2.1]at this;exact this
   .intro i h1 h2 hg;by_cases hik:i=k
    .subst hik;simp at hg ⊢;have:=hno hg;rw[tr.h0,hput.1];exact this
    .simp only[if_neg hik]at hg ⊢;rw[if_neg (by omega)];exact tr.no i (by omega) h2 hg
   .intro i o' t h1 h2 ho';by_cases hik:i=k
    .subst hik;rw[ho]at ho';injection ho' with ho';subst ho'
     simp only[if_pos,if_neg (show¬i+1=i by omega)];rw[tr.t0]
    .simp only[if_neg hik,if_neg (show¬i+1=k by omega)];exact tr.next i o' t (by omega) h2 ho'
   .rw[if_neg (by omega)];exact tr.hn
   .rw[if_neg (by omega)];exact tr.tn
   .rw[tr.nn,hput.2.1]
   .rw[tr.dn,hput.2.2]
  cases g0 with
  |true=>
   simp only at hK1;obtain⟨hcq,hK1⟩:=q08 hK1;obtain⟨⟨s0,h'⟩,h1,h2,h3⟩:=Tr.strip_out (Tr.holds_bind hK1);rw[hh1]at h2 h3
   exact mk s0 h' h1 (λ_=>⟨h2,h3⟩) (λ_=>by
    rw[Bool.and_eq_true]at hcq;exact⟨λht=>by have:=hcq.1;rw[ht]at this;simpa using this,λht hr=>by have:=hcq.2;rw[ht,hr]at this;simpa using this⟩) (λh=>(by cases h))
  |false=>
   simp only at hK1;exact mk (.k undef) σ1.h hK1 (λh=>(by cases h)) (λh=>(by cases h)) (λ_=>⟨hh1,rfl⟩)
end
end Go.Sx
