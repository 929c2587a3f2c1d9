/- A symbolic state of one activation (slots, and the blocks of memory that it knows), what it says of a machine's state, and trees of outcomes: the ground of a symbolic executor. -/
import Derived.WalkKit
import Derived.RangeFuncLeaves
import Derived.Laws.CopyRow
import Derived.Laws.Rows
import Derived.DeepKeys
import Derived.KernelRfl
set_option linter.unusedVariables false
set_option linter.unusedSimpArgs false
set_option linter.constructorNameAsVariable false
set_option linter.all false

namespace Go.Sx
open Go.RowKit
structure Lc where
 blk:Nat
 off:Nat
 cap:Nat
 nl:Bool
def dataO:Obj->Prop
 | .cells ..=>True
 | .map ..=>True
 |_=>False
class Env where
 E:(Nat->Option Obj)->Prop
 mono:∀F G:Nat->Option Obj,(∀b o,F b=some o->dataO o->G b=some o)->E F->E G
 Ab:Type
 rep:Ab->Lc->(Nat->Prop)->(Nat->Option Obj)->(Nat->Option Obj)->Prop
 rep_cl:∀(a:Ab)(L:Lc)(S:Nat->Prop)(H H' F F':Nat->Option Obj),(∀b,b=L.blk\/S b->H' b=H b)->(∀b o,F b=some o->dataO o->F' b=some o)->rep a L S H F->rep a L S H' F'
structure Rl where
 old:Nat->Option Obj
 m0:Nat->Option Obj
structure Rh where
 lc:Nat->Lc
 mem:Nat->Option Obj
 lo:Rl
instance:CoeFun Rh (λ_=>Nat->Lc):=⟨Rh.lc⟩
inductive SV where
 |k (x:Value)
 |v (x:Value)
 |p (i o:Nat)
 |pe (i sz e o:Nat)
 |sl (i o l c:Nat)
 |se (i sz o l:Nat)
 |rs (sz l:Nat) (el:Nat->List SV)
 |pr (xs:List SV)
 |ow (i l:Nat)
 |fn (f:Nat) (cs:List SV)
 |yl (i:Nat)
 |mp (i:Nat)
 |agg (xs:List SV)
 |tup (xs:List SV)
 |opt (b:Bool) (s:SV)
 |rm (ks vs m:Nat) (ka va:Bool) (el:Nat->List SV)
 |u
def unval:Bool->List Value->Value
 |true,cs=>.agg (List.toArray cs)
 |false,[x]=>x
 |false,_=>undef
def Stp(es:Array MapEntry)(clk:Nat):Prop:=(∀(e:Nat)(x:MapEntry),es[e]?=some x->x.born<clk)/\∀(i j:Nat)(x y:MapEntry),i<j->es[i]?=some x->es[j]?=some y->x.born<y.born
mutual
def SV.fit(n:Nat)(ρ:Rh):SV->Value->Prop
 | .k y,x=>x=y
 | .v y,x=>x=y
 | .p i o,x=>i<n/\x=.pointer (some ⟨(ρ i).blk,(ρ i).off+o,none⟩)
 | .pe i sz e o,x=>i<n/\x=.pointer (some ⟨(ρ i).blk,(ρ i).off+e*sz+o,none⟩)
 | .sl i o l c,x=>i<n/\x=.slice (some ⟨(ρ i).blk,(ρ i).off+o,none⟩) l c
 | .se i sz o l,x=>i<n/\∃a c,x=.slice a l c/\l<=c/\c<=maxLen/\(0<l->a=some ⟨(ρ i).blk,(ρ i).off+o*sz,none⟩)
 | .rs sz l el,x=>∃a c,x=.slice a l c/\l<=c/\c<=maxLen/\(0<l->∃b o cs t fz,a=some ⟨b,o,none⟩/\ρ.mem b=some (.cells cs t fz)/\∀e,e<l->∃vs,vs.length=sz/\SV.fits n ρ (el e) vs/\∀j v,vs[j]?=some v->cs[o+e*sz+j]?=some v)
 | .pr xs,x=>∃b o cs t fz,x=.pointer (some ⟨b,o,none⟩)/\ρ.mem b=some (.cells cs t fz)/\∃vs,SV.fits n ρ xs vs/\∀j v,vs[j]?=some v->cs[o+j]?=some v
 | .ow i l,x=>i<n/\(((ρ i).nl=true/\l=0/\∃a,x=.slice a 0 0)\/((ρ i).nl=false/\l<=(ρ i).cap/\x=.slice (some ⟨(ρ i).blk,0,none⟩) l (ρ i).cap))
 | .fn f cs,x=>∃l,x=.func (.func f) #[] (List.toArray l)/\SV.fits n ρ cs l
 | .yl i,x=>i<n/\x=.func (.yield (ρ i).blk) #[] #[]
 | .mp i,x=>i<n/\x=.map (some (ρ i).blk)
 | .agg xs,x=>∃l,x=.agg (List.toArray l)/\SV.fits n ρ xs l
 | .tup xs,x=>∃l,x=.tuple (List.toArray l)/\SV.fits n ρ xs l
 | .opt b s,x=>b=true->SV.fit n ρ s x
 | .rm ks vs m ka va el,x=>(x=.map none/\m=0)\/∃b es clk,x=.map (some b)/\ρ.mem b=some (.map es clk)/\es.size=m/\Stp es clk/\∀e,e<m->∃y kc vc,es[e]?=some y/\SV.fits n ρ (el e) (kc++vc)/\kc.length=ks/\vc.length=vs/\y.key=unval ka kc/\y.val=unval va vc
 | .u,_=>True
def SV.fits(n:Nat)(ρ:Rh):List SV->List Value->Prop
 | [],[]=>True
 |s::ss,x::xs=>SV.fit n ρ s x/\SV.fits n ρ ss xs
 |_,_=>False
end
def Agree(n:Nat)(ρ ρ':Rh):Prop:=(∀i,i<n->ρ' i=ρ i)/\(∀b o,ρ.mem b=some o->ρ'.mem b=some o)/\ρ'.lo=ρ.lo
theorem Agree.refl(n:Nat)(ρ:Rh):Agree n ρ ρ:=⟨λ_ _=>rfl,λ_ _ h=>h,rfl⟩
theorem Agree.trans{n m:Nat}{a b c:Rh}(h:Agree n a b)(hnm:n<=m)(h':Agree m b c):Agree n a c:=
 ⟨λi hi=>(h'.1 i (Nat.lt_of_lt_of_le hi hnm)).trans (h.1 i hi),λb o hb=>h'.2.1 b o (h.2.1 b o hb),h'.2.2.trans h.2.2⟩
def Agr(n:Nat)(ρ ρ':Rh):Prop:=(∀i,i<n->ρ' i=ρ i)/\(∀b o,ρ.mem b=some o->dataO o->ρ'.mem b=some o)
theorem Agree.agr{n:Nat}{ρ ρ':Rh}(h:Agree n ρ ρ'):Agr n ρ ρ':=⟨h.1,λb o hb _=>h.2.1 b o hb⟩
mutual
theorem SV.fit_mono0{n m:Nat}{ρ ρ':Rh}(hnm:n<=m)(ha:Agr n ρ ρ'):∀(s:SV)(x:Value),SV.fit n ρ s x->SV.fit m ρ' s x
 | .k _,_,h=>h
 | .v _,_,h=>h
 | .p i o,x,h=>by simp only[SV.fit]at h ⊢;exact⟨by omega,by rw[ha.1 i h.1];exact h.2⟩
 | .pe i sz e o,x,h=>by simp only[SV.fit]at h ⊢;exact⟨by omega,by rw[ha.1 i h.1];exact h.2⟩
 | .sl i o l c,x,h=>by simp only[SV.fit]at h ⊢;exact⟨by omega,by rw[ha.1 i h.1];exact h.2⟩
 | .se i sz o l,x,h=>by simp only[SV.fit]at h ⊢;exact⟨by omega,by rw[ha.1 i h.1];exact h.2⟩
 | .rs sz l el,x,h=>by
  simp only[SV.fit]at h ⊢;obtain⟨a,c,h1,h2,h3,h4⟩:=h;refine⟨a,c,h1,h2,h3,λhl=>?_⟩;obtain⟨b,o,cs,t,fz,k1,k2,k3⟩:=h4 hl;refine⟨b,o,cs,t,fz,k1,ha.2 _ _ k2 trivial,λe he=>?_⟩;obtain⟨vs,q1,q2,q3⟩:=k3 e he;exact⟨vs,q1,SV.fits_mono0 hnm ha (el e) vs q2,q3⟩
 | .pr xs,x,h=>by
  simp only[SV.fit]at h ⊢;obtain⟨b,o,cs,t,fz,k1,k2,vs,k3,k4⟩:=h;exact⟨b,o,cs,t,fz,k1,ha.2 _ _ k2 trivial,vs,SV.fits_mono0 hnm ha xs vs k3,k4⟩
 | .ow i l,x,h=>by simp only[SV.fit]at h ⊢;exact⟨by omega,by rw[ha.1 i h.1];exact h.2⟩
 | .fn f cs,x,h=>by
  simp only[SV.fit]at h ⊢;obtain⟨l,hx,hl⟩:=h;exact⟨l,hx,SV.fits_mono0 hnm ha cs l hl⟩
 | .yl i,x,h=>by simp only[SV.fit]at h ⊢;exact⟨by omega,by rw[ha.1 i h.1];exact h.2⟩
 | .mp i,x,h=>by simp only[SV.fit]at h ⊢;exact⟨by omega,by rw[ha.1 i h.1];exact h.2⟩
 | .agg cs,x,h=>by
  simp only[SV.fit]at h ⊢;obtain⟨l,hx,hl⟩:=h;exact⟨l,hx,SV.fits_mono0 hnm ha cs l hl⟩
 | .tup cs,x,h=>by
  simp only[SV.fit]at h ⊢;obtain⟨l,hx,hl⟩:=h;exact⟨l,hx,SV.fits_mono0 hnm ha cs l hl⟩
 | .opt b s,x,h=>by
  simp only[SV.fit]at h ⊢;exactλhb=>SV.fit_mono0 hnm ha s x (h hb)
 | .rm ks vs m ka va el,x,h=>by
  simp only[SV.fit]at h ⊢;rcases h with h|⟨b,es,clk,k1,k2,k3,k4,k5⟩
  .exact .inl h
  .refine .inr ⟨b,es,clk,k1,ha.2 _ _ k2 trivial,k3,k4,λe he=>?_⟩;obtain⟨y,kc,vc,q1,q2,q3⟩:=k5 e he;exact⟨y,kc,vc,q1,SV.fits_mono0 hnm ha (el e) _ q2,q3⟩
 | .u,_,_=>by simp only[SV.fit]
theorem SV.fits_mono0{n m:Nat}{ρ ρ':Rh}(hnm:n<=m)(ha:Agr n ρ ρ'):∀(ss:List SV)(xs:List Value),SV.fits n ρ ss xs->SV.fits m ρ' ss xs
 | [],[],h=>h
 |s::ss,x::xs,h=>by
  simp only[SV.fits]at h ⊢;exact⟨SV.fit_mono0 hnm ha s x h.1,SV.fits_mono0 hnm ha ss xs h.2⟩
 | [],_::_,h=>by simp only[SV.fits]at h
 |_::_,[],h=>by simp only[SV.fits]at h
end
theorem SV.fit_mono{n m:Nat}{ρ ρ':Rh}(hnm:n<=m)(ha:Agree n ρ ρ')(s:SV)(x:Value)(h:SV.fit n ρ s x):SV.fit m ρ' s x:=SV.fit_mono0 hnm ha.agr s x h
theorem SV.fits_mono{n m:Nat}{ρ ρ':Rh}(hnm:n<=m)(ha:Agree n ρ ρ')(ss:List SV)(xs:List Value)(h:SV.fits n ρ ss xs):SV.fits m ρ' ss xs:=SV.fits_mono0 hnm ha.agr ss xs h
theorem q0b{n:Nat}{ρ:Rh}{xs:List Value}(h:SV.fits n ρ [] xs):xs=[]:=by
 cases xs with
 |nil=>rfl
 |cons=>simp only[SV.fits]at h
theorem q03{n:Nat}{ρ:Rh}{s:SV}{ss:List SV}{xs:List Value}(h:SV.fits n ρ (s::ss) xs):
  ∃x r,xs=x::r/\s.fit n ρ x/\SV.fits n ρ ss r:=by
 cases xs with
 |nil=>simp only[SV.fits]at h
 |cons x r=>simp only[SV.fits]at h;exact⟨x,r,rfl,h⟩
theorem q0a{n:Nat}{ρ:Rh}:∀{ss:List SV}{xs:List Value},SV.fits n ρ ss xs->ss.length=xs.length
 | [],[],_=>rfl
 |_::_,_::_,h=>by simp only[SV.fits]at h;simp[q0a h.2]
 | [],_::_,h=>by simp only[SV.fits]at h
 |_::_,[],h=>by simp only[SV.fits]at h
theorem q44{n:Nat}{ρ:Rh}:∀{ss:List SV}{xs:List Value}{j:Nat}{s:SV},SV.fits n ρ ss xs->ss[j]?=some s->∃x,xs[j]?=some x/\s.fit n ρ x
 |s0::_,x::_,0,s,h,hs=>by
  simp only[SV.fits]at h;simp at hs;exact⟨x,rfl,hs▸h.1⟩
 |_::ss,_::xs,j+1,s,h,hs=>by
  simp only[SV.fits]at h;simpa using q44 (j:=j) h.2 (by simpa using hs)
 | [],[],_,_,_,hs=>by simp at hs
 | [],_::_,_,_,h,_=>by simp only[SV.fits]at h
 |_::_,[],_,_,h,_=>by simp only[SV.fits]at h
theorem q0j{n:Nat}{ρ:Rh}:∀{ss ts:List SV}{xs ys:List Value},SV.fits n ρ ss xs->SV.fits n ρ ts ys->SV.fits n ρ (ss++ts) (xs++ys)
 | [],_,[],_,_,h=>h
 |_::_,_,_::_,_,h,h'=>by
  simp only[SV.fits,List.cons_append]at h ⊢;exact⟨h.1,q0j h.2 h'⟩
 | [],_,_::_,_,h,_=>by simp only[SV.fits]at h
 |_::_,_,[],_,h,_=>by simp only[SV.fits]at h
theorem q0g{n:Nat}{ρ:Rh}:∀{ss:List SV}{xs:List Value}(j:Nat),SV.fits n ρ ss xs->SV.fits n ρ (ss.take j) (xs.take j)
 |_,_,0,_=>by simp[SV.fits]
 | [],[],_+1,_=>by simp[SV.fits]
 |_::_,_::_,j+1,h=>by
  simp only[SV.fits,List.take_succ_cons]at h ⊢;exact⟨h.1,q0g j h.2⟩
 | [],_::_,_+1,h=>by simp only[SV.fits]at h
 |_::_,[],_+1,h=>by simp only[SV.fits]at h
theorem q0f{n:Nat}{ρ:Rh}:∀{ss:List SV}{xs:List Value}(j:Nat),SV.fits n ρ ss xs->SV.fits n ρ (ss.drop j) (xs.drop j)
 |_,_,0,h=>by simpa using h
 | [],[],_+1,_=>by simp[SV.fits]
 |_::_,_::_,j+1,h=>by
  simp only[SV.fits,List.drop_succ_cons]at h ⊢;exact q0f j h.2
 | [],_::_,_+1,h=>by simp only[SV.fits]at h
 |_::_,[],_+1,h=>by simp only[SV.fits]at h
theorem q6v{n:Nat}{ρ:Rh}:∀(xs:List Value),SV.fits n ρ (xs.map .k) xs
 | []=>by simp[SV.fits]
 |x::xs=>by simp only[List.map_cons,SV.fits,SV.fit];exact⟨trivial,q6v xs⟩
theorem fits_v{n:Nat}{ρ:Rh}:∀(xs:List Value),SV.fits n ρ (xs.map .v) xs
 | []=>by simp[SV.fits]
 |x::xs=>by simp only[List.map_cons,SV.fits,SV.fit];exact⟨trivial,fits_v xs⟩
def SV.cells:SV->List SV
 | .agg xs=>xs
 | .k (.agg cs)=>cs.toList.map .k
 | .v (.agg cs)=>cs.toList.map .v
 |s=>[s]
def SV.one:SV->Bool
 | .agg _| .tup _| .u| .opt _ _=>false
 | .k x| .v x=>x.oneCell'
 |_=>true
def SV.aggy:SV->Bool
 | .agg _=>true
 | .k (.agg _)| .v (.agg _)=>true
 |_=>false
theorem SV.one_fit{n:Nat}{ρ:Rh}{s:SV}{x:Value}(h1:s.one=true)(h:s.fit n ρ x):x.oneCell'=true:=by
 cases s<;>simp_all[SV.one,SV.fit,Value.oneCell']
 case fn=>obtain⟨l,rfl,_⟩:=h;rfl
 case se=>obtain⟨_,a,c,rfl,_⟩:=h;rfl
 case rs=>obtain⟨a,c,rfl,_⟩:=h;rfl
 case pr=>obtain⟨b,o,rfl,_⟩:=h;rfl
 case ow i l=>rcases h.2 with ⟨_,_,_,rfl⟩|⟨_,_,rfl⟩<;>rfl
 case rm=>rcases h with ⟨rfl,_⟩|⟨b,rfl,_⟩<;>rfl
theorem q40{n:Nat}{ρ:Rh}{s:SV}{x:Value}(h1:s.one=true\/s.aggy=true)(h:s.fit n ρ x):SV.fits n ρ s.cells x.cells.toList:=by
 rcases h1 with h1|h1
 .have ho:=SV.one_fit h1 h;have hx:x.cells=#[x]:=by cases x<;>simp_all[Value.cells,Value.oneCell']
  have hs:s.cells=[s]:=by
   cases s<;>simp_all[SV.cells,SV.one]
   all_goals (rename_i y;cases y<;>simp_all[Value.oneCell'])
  rw[hx,hs];simp[SV.fits,h]
 .cases s with
  |agg xs=>
   simp only[SV.fit]at h;obtain⟨l,rfl,hl⟩:=h;simpa [SV.cells,Value.cells]using hl
  |k y=>
   cases y<;>simp_all[SV.aggy];simp only[SV.fit]at h;subst h;simp only[SV.cells,Value.cells];exact q6v _
  |v y=>
   cases y<;>simp_all[SV.aggy];simp only[SV.fit]at h;subst h;simp only[SV.cells,Value.cells];exact fits_v _
  |_=>simp_all[SV.aggy]
inductive ElE where
 |fn (f:Nat->List SV)
 |set (e:Nat) (ys:List SV) (r:ElE)
 |put (e o:Nat) (ys:List SV) (r:ElE)
 |app (l:Nat) (a b:ElE)
 |sh (k:Nat) (r:ElE)
 |cond (z:Bool) (a b:ElE)
def ElE.at:ElE->Nat->List SV
 | .fn f,k=>f k
 | .set e ys r,k=>if k=e then ys else r.at k
 | .put e o ys r,k=>if k=e then(r.at k).take o++ys++(r.at k).drop (o+ys.length)else r.at k
 | .app l a b,k=>if k<l then a.at k else b.at (k-l)
 | .sh n r,k=>r.at (n+k)
 | .cond z a b,k=>bif z then a.at k else b.at k
instance:CoeFun ElE (λ_=>Nat->List SV):=⟨ElE.at⟩
instance:Coe ElE (Nat->List SV):=⟨ElE.at⟩
variable[Env]
inductive SO where
 |cells (xs:List SV) (t:TypeId)
 |row (t:TypeId) (sz:Nat) (el:ElE) (m:Nat)
 |obj (o:Obj)
 |loop (st:LoopState) (pd:Option Code) (n:Nat) (t:List (Nat×SV)) (ps:Array Tmp) (asg body:Code) (df:Nat)
 |map (ks vs:Nat) (ka va:Bool) (el:ElE) (m clk:Nat) (pend:Bool)
 |mif (ks vs:Nat) (ka va:Bool) (rem:ElE) (cnt:Nat) (cur:Option (List SV))
 |mit (i since:Nat) (sel:ElE) (sn last:Nat) (cur:Option SV)
 |abs (a:Env.Ab)
 |dead
def look{α:Type}(d:α)(i:Nat):List (Nat×α)->α
 | []=>d
 |(j,x)::r=>bif Nat.beq i j then x else look d i r
theorem q1i{α:Type}(d:α)(i j:Nat)(x:α)(r:List (Nat×α)):look d i ((j,x)::r)=if i=j then x else look d i r:=by
 simp only[look];by_cases h:i=j
 .simp[h]
 .have:Nat.beq i j=false:=by
   cases hb:Nat.beq i j
   .rfl
   .exact absurd (Nat.eq_of_beq_eq_true hb) h
  simp[this,h]
theorem q39{α:Type}(d:α)(i:Nat):∀(a b:List (Nat×α)),look d i (a++b)=look (look d i b) i a
 | [],b=>rfl
 |(j,x)::a,b=>by
  rw[List.cons_append,q1i,q1i,q39 d i a b]
def Slots(n:Nat)(ρ:Rh)(k:Nat)(t:List (Nat×SV))(tm:Array Value):Prop:=
 tm.size=k/\∀i,i<k->(look (.k undef) i t).fit n ρ (tm.getD i undef)
theorem Slots.mono0{n m:Nat}{ρ ρ':Rh}(hnm:n<=m)(ha:Agr n ρ ρ'){k:Nat}{t:List (Nat×SV)}{tm:Array Value}(h:Slots n ρ k t tm):Slots m ρ' k t tm:=
 ⟨h.1,λi hi=>SV.fit_mono0 hnm ha _ _ (h.2 i hi)⟩
theorem Slots.mono{n m:Nat}{ρ ρ':Rh}(hnm:n<=m)(ha:Agree n ρ ρ'){k:Nat}{t:List (Nat×SV)}{tm:Array Value}(h:Slots n ρ k t tm):Slots m ρ' k t tm:=h.mono0 hnm ha.agr
def Els(n:Nat)(ρ:Rh)(b sz:Nat)(el:Nat->List SV)(m:Nat)(c:Array Value):Prop:=
 ∀i,i<m->∃l,l.length=sz/\SV.fits n ρ (el i) l/\∀j x,l[j]?=some x->c[b+i*sz+j]?=some x
omit [Env] in
theorem Els.mono0{n m:Nat}{ρ ρ':Rh}(hnm:n<=m)(ha:Agr n ρ ρ'){b sz k:Nat}{el:Nat->List SV}{c:Array Value}(h:Els n ρ b sz el k c):Els m ρ' b sz el k c:=
 λi hi=>let ⟨l,h1,h2,h3⟩:=h i hi;⟨l,h1,SV.fits_mono0 hnm ha _ _ h2,h3⟩
theorem Els.mono{n m:Nat}{ρ ρ':Rh}(hnm:n<=m)(ha:Agree n ρ ρ'){b sz k:Nat}{el:Nat->List SV}{c:Array Value}(h:Els n ρ b sz el k c):Els m ρ' b sz el k c:=h.mono0 hnm ha.agr
def OkFz(fz:Nat×Nat)(n:Nat):Prop:=∀i,i<n->¬(fz.1<=i/\i<fz.2)
theorem okFz0(n:Nat):OkFz (0,0) n:=λi _ h=>by simp at h
def SO.fit(n:Nat)(ρ:Rh)(L:Lc):SO->Option Obj->Prop
 | .cells xs t,o=>L.nl=false/\L.off=0/\∃l,o=some (.cells (List.toArray l) t (0,0))/\SV.fits n ρ xs l
 | .row t sz el m,o=>m<=maxLen/\((L.nl=true/\m=0)\/(L.nl=false/\L.off=0/\∃c fz,o=some (.cells c t fz)/\OkFz fz c.size/\c.size=L.cap*sz/\m<=L.cap/\L.cap<=maxLen/\Els n ρ 0 sz el m c))
 | .obj o',o=>L.nl=false/\L.off=0/\o=some o'
 | .loop st pd k t ps asg body df,o=>L.nl=false/\df<n/\∃f tm,o=some (.loop ⟨st,pd,f,tm,ps,asg,body,(ρ df).blk⟩)/\Slots n ρ k t tm
 | .map ks vs ka va el m clk pend,o=>L.nl=false/\L.off=0/\(∃es,o=some (.map es clk)/\es.size=m/\Stp es clk/\∀e,e<m->∃y kc vc,es[e]?=some y/\SV.fits n ρ (el e) (kc++(vc++[.int .i64 (y.born:Int)]))/\kc.length=ks/\vc.length=vs/\y.key=unval ka kc/\y.val=unval va vc)/\(pend=true->∃j ys r,el=.set j ys r/\j<m)
 | .mif ks vs ka va rem cnt cur,o=>L.nl=false/\L.off=0/\((o=some (.mapIter none 0 #[] 0)/\cnt=0/\cur=none)\/∃b es clk seen,o=some (.mapIter (some b) clk seen clk)/\ρ.mem b=some (.map es clk)/\Stp es clk/\(es.toList.filter λe=>!seen.contains e.born).length=cnt/\(∀e,e<cnt->∃y kc vc,(es.toList.filter λe=>!seen.contains e.born)[e]?=some y/\SV.fits n ρ (rem e) (kc++vc)/\kc.length=ks/\vc.length=vs/\y.key=unval ka kc/\y.val=unval va vc)/\
   ∀c,cur=some c->∃y kc vc,seen.back?=some y.born/\y∈es.toList/\SV.fits n ρ c (kc++vc)/\kc.length=ks/\vc.length=vs/\y.key=unval ka kc/\y.val=unval va vc)
 | .mit i since sel sn last cur,o=>L.nl=false/\L.off=0/\i<n/\∃seen,o=some (.mapIter (some (ρ i).blk) since seen last)/\seen.size=sn/\(∀(e x:Nat),seen[e]?=some x->SV.fits n ρ (sel e) [.int .i64 (x:Int)])/\∀s,cur=some s->∃x:Nat,seen.back?=some x/\SV.fit n ρ s (.int .i64 (x:Int))
 | .abs _,o=>L.nl=false/\L.off=0/\∃x,o=some x
 | .dead,_=>True
def SO.live:SO->Bool
 | .dead=>false
 |_=>true
def SO.own(L:Lc):SO->Prop
 | .cells .. | .obj _| .loop .. | .map .. | .mif .. | .mit .. | .abs _=>True
 | .row ..=>L.nl=false
 |_=>False
theorem SO.fit_mono0{n m:Nat}{ρ ρ':Rh}(hnm:n<=m)(ha:Agr n ρ ρ'){s:SO}{o:Option Obj}{L:Lc}(h:s.fit n ρ L o):s.fit m ρ' L o:=by
 cases s with
 |cells xs t=>obtain⟨hz,hb,l,hl,hf⟩:=h;exact⟨hz,hb,l,hl,SV.fits_mono0 hnm ha _ _ hf⟩
 |row t sz el k=>
  refine⟨h.1,?_⟩;rcases h.2 with h|⟨h1,h2,c,fz,hc,h6,h3,h4,h5,hall⟩
  .exact .inl h
  .exact .inr ⟨h1,h2,c,fz,hc,h6,h3,h4,h5,hall.mono0 hnm ha⟩
 |obj o'=>exact h
 |loop st pd k t ps asg body df=>
  obtain⟨h1,h2,f,tm,h3,h4⟩:=h;exact⟨h1,by omega,f,tm,by rw[ha.1 df h2];exact h3,h4.mono0 hnm ha⟩
 |map ks vs ka va el m clk pend=>
  obtain⟨h1,h2,⟨es,h3,h4,h5,h6⟩,h7⟩:=h;refine⟨h1,h2,⟨es,h3,h4,h5,λe he=>?_⟩,h7⟩;obtain⟨y,kc,vc,q1,q2,q3⟩:=h6 e he;exact⟨y,kc,vc,q1,SV.fits_mono0 hnm ha _ _ q2,q3⟩
 |mif ks vs ka va rem cnt cur=>
  obtain⟨h1,h2,h3⟩:=h;refine⟨h1,h2,?_⟩;rcases h3 with h3|⟨b,es,clk,seen,k1,k2,k3,k4,k5,k6⟩
  .exact .inl h3
  .refine .inr ⟨b,es,clk,seen,k1,ha.2 _ _ k2 trivial,k3,k4,λe he=>?_,λc hc=>?_⟩
   .obtain⟨y,kc,vc,q1,q2,q3⟩:=k5 e he;exact⟨y,kc,vc,q1,SV.fits_mono0 hnm ha _ _ q2,q3⟩
   .obtain⟨y,kc,vc,q1,q2,q3,q4⟩:=k6 c hc;exact⟨y,kc,vc,q1,q2,SV.fits_mono0 hnm ha _ _ q3,q4⟩
 |mit i since sel sn last cur=>
  obtain⟨h1,h2,h3,seen,k1,k2,k3,k4⟩:=h;exact⟨h1,h2,by omega,seen,by rw[ha.1 i h3];exact k1,k2,λe x hx=>SV.fits_mono0 hnm ha _ _ (k3 e x hx),λs hs=>let ⟨x,q1,q2⟩:=k4 s hs;⟨x,q1,SV.fit_mono0 hnm ha _ _ q2⟩⟩
 |abs=>exact h
 |dead=>exact h
theorem SO.fit_mono{n m:Nat}{ρ ρ':Rh}(hnm:n<=m)(ha:Agree n ρ ρ'){s:SO}{o:Option Obj}{L:Lc}(h:s.fit n ρ L o):s.fit m ρ' L o:=SO.fit_mono0 hnm ha.agr h
theorem SO.fit_none{n:Nat}{ρ:Rh}{L:Lc}{s:SO}{o o':Option Obj}(h:s.fit n ρ L o)(h1:¬s.own L):s.fit n ρ L o':=by
 cases s with
 |cells xs t=>exact absurd trivial h1
 |row t sz el k=>
  refine⟨h.1,?_⟩;rcases h.2 with h|⟨h3,_⟩
  .exact .inl h
  .exact absurd h3 h1
 |obj o'=>exact absurd trivial h1
 |loop=>exact absurd trivial h1
 |map=>exact absurd trivial h1
 |mif=>exact absurd trivial h1
 |mit=>exact absurd trivial h1
 |abs=>exact absurd trivial h1
 |dead=>trivial
theorem SO.fit_some{n:Nat}{ρ:Rh}{L:Lc}{s:SO}{o:Option Obj}(h:s.fit n ρ L o)(h1:s.own L):∃x,o=some x:=by
 cases s with
 |cells xs t=>obtain⟨_,_,l,hl,_⟩:=h;exact⟨_,hl⟩
 |row t sz el k=>
  rcases h.2 with ⟨h,_⟩|⟨_,_,c,_,hc,_⟩
  .simp[SO.own,h]at h1
  .exact⟨_,hc⟩
 |obj o'=>exact⟨_,h.2.2⟩
 |loop=>obtain⟨_,_,f,tm,h3,_⟩:=h;exact⟨_,h3⟩
 |map=>obtain⟨_,_,⟨es,h3,_⟩,_⟩:=h;exact⟨_,h3⟩
 |mif=>rcases h.2.2 with ⟨h3,_⟩|⟨b,es,clk,seen,k1,_⟩
       .exact⟨_,h3⟩
       .exact⟨_,k1⟩
 |mit=>obtain⟨_,_,_,seen,k1,_⟩:=h;exact⟨_,k1⟩
 |abs=>exact h.2.2
 |dead=>simp[SO.own]at h1
inductive SE where
 |o (s:SO)
 |c (p:Nat) (s:SV)
 |lp (st:LoopState) (pd:Option Code)
def SE.act(x:SE)(d:SO):SO:=
 match x with
 | .o s=>s
 | .c p s=>match d with
  | .cells xs t=>.cells (xs.set p s) t
  |d=>d
 | .lp st pd=>match d with
  | .loop _ _ n t ps asg body df=>.loop st pd n t ps asg body df
  |d=>d
def lookE(d:SO)(i:Nat):List (Nat×SE)->SO
 | []=>d
 |(j,x)::r=>bif Nat.beq i j then x.act (lookE d i r)else lookE d i r
theorem beq_nat(i j:Nat):Nat.beq i j=decide (i=j):=by
 by_cases h:i=j
 .subst h;simp
 .simp only[h,decide_false];cases hb:Nat.beq i j
  .rfl
  .exact absurd (Nat.eq_of_beq_eq_true hb) h
theorem q1o(d:SO)(i j:Nat)(x:SE)(r:List (Nat×SE)):lookE d i ((j,x)::r)=if i=j then x.act (lookE d i r)else lookE d i r:=by
 simp only[lookE,beq_nat];by_cases h:i=j<;>simp[h]
theorem q2n(d:SO)(i:Nat):∀(a b:List (Nat×SE)),lookE d i (a++b)=lookE (lookE d i b) i a
 | [],b=>rfl
 |(j,x)::a,b=>by rw[List.cons_append,q1o,q1o,q2n d i a b]
theorem q7d(d:SO)(i:Nat):∀{l:List (Nat×SE)},i∉l.map (·.1)->lookE d i l=d
 | [],_=>rfl
 |(j,x)::r,h=>by
  simp only[List.map_cons,List.mem_cons,not_or]at h;rw[q1o,if_neg h.1,q7d d i h.2]
def whole(l:List (Nat×SO)):List (Nat×SE):=l.map λx=>(x.1,.o x.2)
theorem q51(d:SO)(i:Nat):∀(l:List (Nat×SO)),lookE d i (whole l)=look d i l
 | []=>rfl
 |(j,x)::r=>by
  show lookE d i ((j,.o x)::whole r)=_;rw[q1o,q1i,q51 d i r];rfl
structure SH where
 nx:Nat
 l:List (Nat×SE)
 b:List (Nat×SE)
def SH.get(h:SH)(i:Nat):SO:=lookE (lookE .dead i h.b) i h.l
def SH.set(h:SH)(i:Nat)(o:SO):SH:=⟨h.nx,(i,.o o)::h.l,h.b⟩
def SH.push(h:SH)(o:SO):SH:=⟨h.nx+1,(h.nx,.o o)::h.l,h.b⟩
theorem SH.get_set(h:SH)(i j:Nat)(o:SO):(h.set i o).get j=if j=i then o else h.get j:=q1o _ _ _ _ _
theorem SH.get_push(h:SH)(j:Nat)(o:SO):(h.push o).get j=if j=h.nx then o else h.get j:=q1o _ _ _ _ _
def SH.setLp(h:SH)(i:Nat)(st:LoopState)(pd:Option Code):SH:=⟨h.nx,(i,.lp st pd)::h.l,h.b⟩
def SH.setCs(h:SH)(i:Nat):Nat->List SV->SH
 |_,[]=>h
 |p,s::r=>SH.setCs ⟨h.nx,(i,.c p s)::h.l,h.b⟩ i (p+1) r
theorem SH.setCs_nx(i:Nat):∀(ys:List SV)(h:SH)(p:Nat),(h.setCs i p ys).nx=h.nx
 | [],_,_=>rfl
 |_::r,h,p=>SH.setCs_nx i r _ (p+1)
theorem SH.setCs_b(i:Nat):∀(ys:List SV)(h:SH)(p:Nat),(h.setCs i p ys).b=h.b
 | [],_,_=>rfl
 |_::r,h,p=>SH.setCs_b i r _ (p+1)
theorem SH.setCs_other{i j:Nat}(hne:j≠i):∀(ys:List SV)(h:SH)(p:Nat),(h.setCs i p ys).get j=h.get j
 | [],_,_=>rfl
 |s::r,h,p=>by
  simp only[SH.setCs];rw[SH.setCs_other hne r];show lookE (lookE .dead j h.b) j ((i,.c p s)::h.l)=_;rw[q1o,if_neg hne];rfl
theorem SH.setCs_get{i:Nat}{t:TypeId}:∀(ys:List SV)(h:SH)(p:Nat)(xs:List SV),h.get i=.cells xs t->p+ys.length<=xs.length->(h.setCs i p ys).get i=.cells (xs.take p++ys++xs.drop (p+ys.length)) t
 | [],h,p,xs,hg,_=>by simp[SH.setCs,hg]
 |s::r,h,p,xs,hg,hle=>by
  simp only[SH.setCs];simp only[List.length_cons]at hle
  have hg':(⟨h.nx,(i,.c p s)::h.l,h.b⟩:SH).get i=.cells (xs.set p s) t:=by
   show lookE (lookE .dead i h.b) i ((i,.c p s)::h.l)=_;rw[q1o,if_pos rfl];have:lookE (lookE .dead i h.b) i h.l=.cells xs t:=hg;rw[this];rfl
  rw[SH.setCs_get r _ (p+1) (xs.set p s) hg' (by simp;omega)];congr 1
  have h1:(xs.set p s).take (p+1)=xs.take p++[s]:=by
   rw[List.take_add_one]
   have h2:(xs.set p s).take p=xs.take p:=by
    rw[List.take_set_of_le (Nat.le_refl _)]
   rw[h2];congr 1;rw[List.getElem?_set_self (by omega)];rfl
  have h3:(xs.set p s).drop (p+1+r.length)=xs.drop (p+1+r.length):=by
   rw[List.drop_set_of_lt (by omega)]
  rw[h1,h3];simp[Nat.add_assoc,Nat.add_comm 1]
def AbsS(S:Nat->Nat->Prop)(M:Nat->Prop)(n0:Nat)(ρ:Rh)(h:SH)(w:World):Prop:=∀i a,h.get i=.abs a->Env.rep a (ρ i) (S i) (λb=>w.heap[b]?) ρ.mem/\∀b,S i b->(n0<=b\/M b)/\ρ.mem b=none/\b<w.heap.size/\(∀j,(h.get j).own (ρ j)->(ρ j).blk≠b)/\∀j a',h.get j=.abs a'->S j b->i=j
def Abs(M:Nat->Prop)(n0:Nat)(ρ:Rh)(h:SH)(w:World):Prop:=∃S,AbsS S M n0 ρ h w
def AbsB(b:Nat)(M:Nat->Prop)(n0:Nat)(ρ:Rh)(h:SH)(w:World):Prop:=∃S,AbsS S M n0 ρ h w/\∀j a,h.get j=.abs a->¬S j b
structure HM(M:Nat->Prop)(w0:World)(ρ:Rh)(h:SH)(w:World):Prop where
 os:w.os=w0.os
 tape:w.tape=w0.tape
 output:w.output=w0.output
 size:w0.heap.size<=w.heap.size
 block:∀i,i<w0.heap.size->¬M i->w.heap[i]?=w0.heap[i]?
 lt:∀i,(h.get i).live=true->i<h.nx
 ob:∀i,(h.get i).fit h.nx ρ (ρ i) w.heap[(ρ i).blk]?
 ow:∀i,(h.get i).own (ρ i)->w0.heap.size<=(ρ i).blk\/M (ρ i).blk
 fz:∀b o,ρ.mem b=some o->w.heap[b]?=some o
 sep:∀i,(h.get i).own (ρ i)->ρ.mem (ρ i).blk=none
 old:∀b o,ρ.mem b=some o->b<w0.heap.size->¬M b->ρ.lo.old b=some o
 inj:∀i j,(h.get i).own (ρ i)->(h.get j).own (ρ j)->(ρ i).blk=(ρ j).blk->i=j
 env:Env.E ρ.mem
 ab:Abs M w0.heap.size ρ h w
theorem SO.live_of{s:SO}{L:Lc}(h:s.own L):s.live=true:=by cases s<;>simp_all[SO.own,SO.live]
section
variable{M:Nat->Prop}{w0 w w':World}{ρ:Rh}{h:SH}
theorem HM.lt_heap(hm:HM M w0 ρ h w){i:Nat}(hl:(h.get i).own (ρ i)):(ρ i).blk<w.heap.size:=by
 obtain⟨o,ho⟩:=SO.fit_some (hm.ob i) hl;exact(Array.getElem?_eq_some_iff.1 ho).1
theorem HM.lt_mem(hm:HM M w0 ρ h w){b:Nat}{o:Obj}(hl:ρ.mem b=some o):b<w.heap.size:=
 (Array.getElem?_eq_some_iff.1 (hm.fz b o hl)).1
theorem HM.ne_own(hm:HM M w0 ρ h w){i j:Nat}(hi:(h.get i).own (ρ i))(hj:(h.get j).own (ρ j))(hne:j≠i):(ρ j).blk≠(ρ i).blk:=
 λhe=>hne (hm.inj j i hj hi he)
theorem HM.ne_mem(hm:HM M w0 ρ h w){i b:Nat}{o:Obj}(hi:(h.get i).own (ρ i))(hb:ρ.mem b=some o):b≠(ρ i).blk:=by
 rintro rfl;rw[hm.sep i hi]at hb;cases hb
section
variable{S:Nat->Nat->Prop}{n0:Nat}
theorem AbsS.ne(hS:AbsS S M n0 ρ h w){i j:Nat}{a:Env.Ab}(hg:h.get i=.abs a)(hj:(h.get j).own (ρ j)):¬S i (ρ j).blk:=λhb=>((hS i a hg).2 _ hb).2.2.2.1 j hj rfl
theorem AbsS.mem(hS:AbsS S M n0 ρ h w){i b:Nat}{a:Env.Ab}(hg:h.get i=.abs a)(hb:S i b):ρ.mem b=none:=((hS i a hg).2 _ hb).2.1
theorem AbsS.lt(hS:AbsS S M n0 ρ h w){i b:Nat}{a:Env.Ab}(hg:h.get i=.abs a)(hb:S i b):b<w.heap.size:=((hS i a hg).2 _ hb).2.2.1
theorem q6c{so:SO}{a:Env.Ab}{L:Lc}(h:so=.abs a):so.own L:=by rw[h];trivial
theorem AbsS.step{ρ':Rh}{h':SH}(hS:AbsS S M n0 ρ h w)(h1:∀i a,h'.get i=.abs a->h.get i=.abs a/\ρ' i=ρ i)(h2:w.heap.size<=w'.heap.size)
  (h3:∀i a b,h'.get i=.abs a->(b=(ρ i).blk\/S i b)->w'.heap[b]?=w.heap[b]?) (h4:∀b o,ρ.mem b=some o->dataO o->ρ'.mem b=some o)
  (h5:∀i a b,h'.get i=.abs a->S i b->ρ'.mem b=none) (h6:∀j i a,(h'.get j).own (ρ' j)->h'.get i=.abs a->¬S i (ρ' j).blk):AbsS S M n0 ρ' h' w':=λi a hg=>by
 obtain⟨hg0,hr⟩:=h1 i a hg;obtain⟨q1,q2⟩:=hS i a hg0;rw[hr];refine⟨Env.rep_cl _ _ _ _ _ _ _ (λb hb=>h3 i a b hg hb) h4 q1,λb hb=>?_⟩;obtain⟨k1,k2,k3,k4,k5⟩:=q2 b hb;exact⟨k1,h5 i a b hg hb,by omega,λj hj he=>h6 j i a hj hg (he▸hb),λj a' hj hb'=>k5 j a' (h1 j a' hj).1 hb'⟩
end
section
variable{S:Nat->Nat->Prop}
theorem HM.abS_set(hm:HM M w0 ρ h w)(hS:AbsS S M w0.heap.size ρ h w){i:Nat}{so:SO}(hown:(h.get i).own (ρ i))(hna:∀a,so≠.abs a)(hsz:w.heap.size<=w'.heap.size)(hsame:∀j,j≠(ρ i).blk->j<w.heap.size->w'.heap[j]?=w.heap[j]?):AbsS S M w0.heap.size ρ (h.set i so) w':=by
 have h1:∀j a,(h.set i so).get j=.abs a->j≠i/\h.get j=.abs a:=λj a hg=>by
  rw[SH.get_set]at hg;by_cases hji:j=i
  .rw[if_pos hji]at hg;exact absurd hg (hna a)
  .rw[if_neg hji]at hg;exact⟨hji,hg⟩
 refine hS.step (λj a hg=>⟨(h1 j a hg).2,rfl⟩) hsz (λj a b hg hb=>?_) (λ_ _ h _=>h) (λj a b hg hb=>hS.mem (h1 j a hg).2 hb) λk j a hk hg=>?_
 .obtain⟨q1,q2⟩:=h1 j a hg;rcases hb with rfl|hb
  .exact hsame _ (hm.ne_own hown (q6c q2) q1) (hm.lt_heap (q6c q2))
  .exact hsame _ (λe=>hS.ne q2 hown (e▸hb)) (hS.lt q2 hb)
 .obtain⟨q1,q2⟩:=h1 j a hg;rw[SH.get_set]at hk;by_cases hki:k=i
  .subst hki;exact hS.ne q2 hown
  .rw[if_neg hki]at hk;exact hS.ne q2 hk
theorem HM.ab_set(hm:HM M w0 ρ h w){i:Nat}{so:SO}(hown:(h.get i).own (ρ i))(hna:∀a,so≠.abs a)(hsz:w.heap.size<=w'.heap.size)(hsame:∀j,j≠(ρ i).blk->j<w.heap.size->w'.heap[j]?=w.heap[j]?):Abs M w0.heap.size ρ (h.set i so) w':=
 hm.ab.imp λ_ hS=>hm.abS_set hS hown hna hsz hsame
theorem AbsS.dead{n0:Nat}(hS:AbsS S M n0 ρ h w)(i:Nat):AbsS S M n0 ρ (h.set i .dead) w:=by
 have h1:∀j a,(h.set i .dead).get j=.abs a->h.get j=.abs a:=λj a hg=>by
  rw[SH.get_set]at hg;by_cases hji:j=i
  .rw[if_pos hji]at hg;cases hg
  .rw[if_neg hji]at hg;exact hg
 refine hS.step (λj a hg=>⟨h1 j a hg,rfl⟩) (Nat.le_refl _) (λ_ _ _ _ _=>rfl) (λ_ _ h _=>h) (λj a b hg hb=>hS.mem (h1 j a hg) hb) λk j a hk hg=>?_;rw[SH.get_set]at hk;by_cases hki:k=i
 .rw[if_pos hki]at hk;exact hk.elim
 .rw[if_neg hki]at hk;exact hS.ne (h1 j a hg) hk
theorem HM.ab_dead(hm:HM M w0 ρ h w)(i:Nat):Abs M w0.heap.size ρ (h.set i .dead) w:=hm.ab.imp λ_ hS=>hS.dead i
end
open Classical in
theorem HM.ob_other(hm:HM M w0 ρ h w){j:Nat}(hs:(h.get j).own (ρ j)->w'.heap[(ρ j).blk]?=w.heap[(ρ j).blk]?):(h.get j).fit h.nx ρ (ρ j) w'.heap[(ρ j).blk]?:=by
 by_cases hc:(h.get j).own (ρ j)
 .rw[hs hc];exact hm.ob j
 .exact SO.fit_none (hm.ob j) hc
theorem HM.setOwn(hm:HM M w0 ρ h w){i:Nat}{so:SO}{o:Obj}(hown:(h.get i).own (ρ i))(hso:so.own (ρ i))
  (hos:w'.os=w.os) (htape:w'.tape=w.tape) (hout:w'.output=w.output) (hsz:w'.heap.size=w.heap.size)
  (hsame:∀j,j≠(ρ i).blk->w'.heap[j]?=w.heap[j]?) (hnew:w'.heap[(ρ i).blk]?=some o) (hfit:so.fit h.nx ρ (ρ i) (some o)) (hna:∀a,so≠.abs a:=by intro _ h;cases h):HM M w0 ρ (h.set i so) w' where
 ab:=hm.ab_set hown hna (by omega) λj hj _=>hsame j hj
 os:=hos.trans hm.os
 tape:=htape.trans hm.tape
 output:=hout.trans hm.output
 size:=by rw[hsz];exact hm.size
 block j hj hM:=by
  have hne:j≠(ρ i).blk:=by
   rintro rfl;rcases hm.ow i hown with h1|h1
   .omega
   .exact hM h1
  rw[hsame j hne];exact hm.block j hj hM
 lt j hl:=by
  rw[SH.get_set]at hl;by_cases hji:j=i
  .subst hji;exact hm.lt j (SO.live_of hown)
  .rw[if_neg hji]at hl;exact hm.lt j hl
 ob j:=by
  rw[SH.get_set];by_cases hji:j=i
  .subst hji;rw[if_pos rfl,hnew];exact hfit
  .rw[if_neg hji];exact hm.ob_other λhj=>hsame _ (hm.ne_own hown hj hji)
 ow j hj:=by
  rw[SH.get_set]at hj;by_cases hji:j=i
  .subst hji;exact hm.ow j hown
  .rw[if_neg hji]at hj;exact hm.ow j hj
 fz b o hb:=by rw[hsame b (hm.ne_mem hown hb)];exact hm.fz b o hb
 sep j hj:=by
  rw[SH.get_set]at hj;by_cases hji:j=i
  .subst hji;exact hm.sep j hown
  .rw[if_neg hji]at hj;exact hm.sep j hj
 old:=hm.old
 env:=hm.env
 inj j k hj hk he:=by
  rw[SH.get_set]at hj hk;by_cases hji:j=i<;>by_cases hki:k=i
  .rw[hji,hki]
  .subst hji;rw[if_neg hki]at hk;exact hm.inj j k hown hk he
  .subst hki;rw[if_neg hji]at hj;exact hm.inj j k hj hown he
  .rw[if_neg hji]at hj;rw[if_neg hki]at hk;exact hm.inj j k hj hk he
theorem HM.forget(hm:HM M w0 ρ h w)(i:Nat):HM M w0 ρ (h.set i .dead) w where
 ab:=hm.ab_dead i
 os:=hm.os
 tape:=hm.tape
 output:=hm.output
 size:=hm.size
 block:=hm.block
 lt j hl:=by
  rw[SH.get_set]at hl;by_cases hji:j=i
  .rw[if_pos hji]at hl;cases hl
  .rw[if_neg hji]at hl;exact hm.lt j hl
 ob j:=by
  rw[SH.get_set];by_cases hji:j=i
  .rw[if_pos hji];trivial
  .rw[if_neg hji];exact hm.ob j
 ow j hj:=by
  rw[SH.get_set]at hj;by_cases hji:j=i
  .rw[if_pos hji]at hj;exact hj.elim
  .rw[if_neg hji]at hj;exact hm.ow j hj
 fz:=hm.fz
 sep j hj:=by
  rw[SH.get_set]at hj;by_cases hji:j=i
  .rw[if_pos hji]at hj;exact hj.elim
  .rw[if_neg hji]at hj;exact hm.sep j hj
 old:=hm.old
 env:=hm.env
 inj j k hj hk he:=by
  rw[SH.get_set]at hj hk;by_cases hji:j=i
  .rw[if_pos hji]at hj;exact hj.elim
  .by_cases hki:k=i
   .rw[if_pos hki]at hk;exact hk.elim
   .rw[if_neg hji]at hj;rw[if_neg hki]at hk;exact hm.inj j k hj hk he
def upd(ρ:Rh)(i:Nat)(L:Lc):Rh:=⟨λj=>if j=i then L else ρ j,ρ.mem,ρ.lo⟩
theorem q0r(ρ:Rh)(n:Nat)(L:Lc):Agree n ρ (upd ρ n L):=⟨λi hi=>by simp[upd];omega,λ_ _ h=>h,rfl⟩
theorem HM.learn(hm:HM M w0 ρ h w){so:SO}{L:Lc}(hfit:so.fit h.nx ρ L w.heap[L.blk]?)(hown:so.own L->(w0.heap.size<=L.blk\/M L.blk)/\ρ.mem L.blk=none/\(∀j,(h.get j).own (ρ j)->(ρ j).blk≠L.blk)/\AbsB L.blk M w0.heap.size ρ h w)(hna:∀a,so≠.abs a:=by intro _ h;cases h):HM M w0 (upd ρ h.nx L) (h.push so) w where
 ab:=by
  have h1:∀j a,(h.push so).get j=.abs a->h.get j=.abs a/\upd ρ h.nx L j=ρ j:=λj a hg=>by
   rw[SH.get_push]at hg;by_cases hj:j=h.nx
   .rw[if_pos hj]at hg;exact absurd hg (hna a)
   .rw[if_neg hj]at hg;exact⟨hg,by simp only[upd,if_neg hj]⟩
  have hx:∃S,AbsS S M w0.heap.size ρ h w/\(so.own L->∀j a,h.get j=.abs a->¬S j L.blk):=by
   rcases Classical.em (so.own L)with ho|ho
   .obtain⟨S,hS,hb⟩:=(hown ho).2.2.2;exact⟨S,hS,λ_=>hb⟩
   .obtain⟨S,hS⟩:=hm.ab;exact⟨S,hS,λh=>absurd h ho⟩
  obtain⟨S,hS,hbn⟩:=hx;refine⟨S,hS.step h1 (Nat.le_refl _) (λ_ _ _ _ _=>rfl) (λ_ _ h _=>h) (λj a b hg hb=>hS.mem (h1 j a hg).1 hb) λk j a hk hg=>?_⟩;rw[SH.get_push]at hk;by_cases hkn:k=h.nx
  .subst hkn;simp only[if_pos,upd]at hk ⊢;exact hbn hk j a (h1 j a hg).1
  .have hu:upd ρ h.nx L k=ρ k:=by simp only[upd,if_neg hkn]
   rw[if_neg hkn,hu]at hk;rw[hu];exact hS.ne (h1 j a hg).1 hk
 os:=hm.os
 tape:=hm.tape
 output:=hm.output
 size:=hm.size
 block:=hm.block
 lt j hl:=by
  rw[SH.get_push]at hl;by_cases hj:j=h.nx
  .simp[SH.push,hj]
  .rw[if_neg hj]at hl;have:=hm.lt j hl;simp[SH.push];omega
 ob j:=by
  rw[SH.get_push];by_cases hj:j=h.nx
  .subst hj;simp only[if_pos,upd];exact SO.fit_mono (Nat.le_succ _) (q0r _ _ _) hfit
  .have hu:upd ρ h.nx L j=ρ j:=by simp only[upd,if_neg hj]
   rw[if_neg hj,hu];exact SO.fit_mono (Nat.le_succ _) (q0r _ _ _) (hm.ob j)
 ow j hj:=by
  rw[SH.get_push]at hj;by_cases hjn:j=h.nx
  .subst hjn;simp only[if_pos,upd]at hj ⊢;exact(hown hj).1
  .have hu:upd ρ h.nx L j=ρ j:=by simp only[upd,if_neg hjn]
   rw[if_neg hjn,hu]at hj;rw[hu];exact hm.ow j hj
 fz:=hm.fz
 sep j hj:=by
  rw[SH.get_push]at hj;by_cases hjn:j=h.nx
  .subst hjn;simp only[if_pos,upd]at hj ⊢;exact(hown hj).2.1
  .have hu:upd ρ h.nx L j=ρ j:=by simp only[upd,if_neg hjn]
   rw[if_neg hjn,hu]at hj;rw[hu];exact hm.sep j hj
 old:=hm.old
 env:=hm.env
 inj j k hj hk he:=by
  rw[SH.get_push]at hj hk;by_cases hjn:j=h.nx<;>by_cases hkn:k=h.nx
  .rw[hjn,hkn]
  .subst hjn;have hu:upd ρ h.nx L k=ρ k:=by simp only[upd,if_neg hkn]
   rw[if_neg hkn,hu]at hk;simp only[if_pos,upd]at hj;rw[hu]at he;simp only[upd,if_pos]at he;exact absurd he.symm ((hown hj).2.2.1 k hk)
  .subst hkn;have hu:upd ρ h.nx L j=ρ j:=by simp only[upd,if_neg hjn]
   rw[if_neg hjn,hu]at hj;simp only[if_pos,upd]at hk;rw[hu]at he;simp only[upd,if_pos]at he;exact absurd he ((hown hk).2.2.1 j hj)
  .have hu:upd ρ h.nx L j=ρ j:=by simp only[upd,if_neg hjn]
   have hv:upd ρ h.nx L k=ρ k:=by simp only[upd,if_neg hkn]
   rw[if_neg hjn,hu]at hj;rw[if_neg hkn,hv]at hk;rw[hu,hv]at he;exact hm.inj j k hj hk he
theorem HM.abS_at(hm:HM M w0 ρ h w){S:Nat->Nat->Prop}(hS:AbsS S M w0.heap.size ρ h w)(hb:Below w.heap.size w w'){m:Nat->Option Obj}(h4:∀b o,ρ.mem b=some o->m b=some o)(h5:∀b,b<w.heap.size->ρ.mem b=none->m b=none):AbsS S M w0.heap.size ⟨ρ.lc,m,ρ.lo⟩ h w':=
 hS.step (λ_ _ h=>⟨h,rfl⟩) hb.size (λi a b hg hc=>hb.block _ (by
  rcases hc with rfl|hc
  .exact hm.lt_heap (q6c hg)
  .exact hS.lt hg hc)) (λb o h _=>h4 b o h) (λi a b hg hc=>h5 b (hS.lt hg hc) (hS.mem hg hc)) λj i a hj hg=>hS.ne hg hj
theorem HM.ab_at(hm:HM M w0 ρ h w)(hb:Below w.heap.size w w'){m:Nat->Option Obj}(h4:∀b o,ρ.mem b=some o->m b=some o)(h5:∀b,b<w.heap.size->ρ.mem b=none->m b=none):Abs M w0.heap.size ⟨ρ.lc,m,ρ.lo⟩ h w':=
 hm.ab.imp λ_ hS=>hm.abS_at hS hb h4 h5
theorem HM.ab_atB(hm:HM M w0 ρ h w)(hb:Below w.heap.size w w'){m:Nat->Option Obj}(h4:∀b o,ρ.mem b=some o->m b=some o)(h5:∀b,b<w.heap.size->ρ.mem b=none->m b=none){c:Nat}(hc:w.heap.size<=c):AbsB c M w0.heap.size ⟨ρ.lc,m,ρ.lo⟩ h w':=by
 obtain⟨S,hS⟩:=hm.ab;exact⟨S,hm.abS_at hS hb h4 h5,λj a hg hh=>by have:=hS.lt hg hh;omega⟩
theorem HM.below(hm:HM M w0 ρ h w)(hb:Below w.heap.size w w'):HM M w0 ρ h w' where
 ab:=hm.ab.imp λ_ hS=>hm.abS_at hS hb (λ_ _ h=>h) λ_ _ h=>h
 os:=hb.os.trans hm.os
 tape:=hb.tape.trans hm.tape
 output:=hb.output.trans hm.output
 size:=Nat.le_trans hm.size hb.size
 block i hi hM:=by rw[hb.block i (by have:=hm.size;omega)];exact hm.block i hi hM
 lt:=hm.lt
 ob i:=hm.ob_other λhj=>hb.block _ (hm.lt_heap hj)
 ow:=hm.ow
 fz b o ho:=by rw[hb.block b (hm.lt_mem ho)];exact hm.fz b o ho
 sep:=hm.sep
 old:=hm.old
 env:=hm.env
 inj:=hm.inj
theorem HM.fresh(hm:HM M w0 ρ h w){b:Nat}(hb:w.heap.size<=b):ρ.mem b=none:=by
 cases hc:ρ.mem b with
 |none=>rfl
 |some o=>have:=hm.lt_mem hc;omega
theorem HM.push(hm:HM M w0 ρ h w){so:SO}{o:Obj}{c:Nat}(hfit:so.fit h.nx ρ ⟨w.heap.size,0,c,false⟩ (some o))(hna:∀a,so≠.abs a:=by intro _ h;cases h):
  HM M w0 (upd ρ h.nx ⟨w.heap.size,0,c,false⟩) (h.push so) (w.alloc o):=by
 have h1:=hm.below ((Below.refl _ w).alloc (Nat.le_refl _) o);refine h1.learn (by rw[show(w.alloc o).heap[w.heap.size]?=some o from heap_alloc_new w o];exact hfit) (λ_=>⟨.inl hm.size,hm.fresh (Nat.le_refl _),λj hj=>?_,hm.ab_atB ((Below.refl _ w).alloc (Nat.le_refl _) o) (λ_ _ h=>h) (λ_ _ h=>h) (Nat.le_refl _)⟩) hna;have:=hm.lt_heap hj;simp only;omega
theorem HM.move(hm:HM M w0 ρ h w){i:Nat}{row:Option Nat}(hg:w.grownBy w' row)(hrow:∀b,row=some b->(h.get i).own (ρ i)/\b=(ρ i).blk){so:SO}{L:Lc}
  (hfit:so.fit h.nx ρ L w'.heap[L.blk]?) (hown:so.own L->w.heap.size<=L.blk\/((h.get i).own (ρ i)/\L.blk=(ρ i).blk)) (hna:∀a,so≠.abs a:=by intro _ h;cases h) :
  HM M w0 (upd ρ h.nx L) ((h.set i .dead).push so) w':=by
 have h0:=hm.forget i
 have h1:∀j a,(h.set i .dead).get j=.abs a->j≠i/\h.get j=.abs a:=λj a hg=>by
  rw[SH.get_set]at hg;by_cases hji:j=i
  .rw[if_pos hji]at hg;cases hg
  .rw[if_neg hji]at hg;exact⟨hji,hg⟩
 have habS:∀{S:Nat->Nat->Prop},AbsS S M w0.heap.size ρ h w->AbsS S M w0.heap.size ρ (h.set i .dead) w':=λ{S}hS=>by
  have hD:=hS.dead i;refine hD.step (λ_ _ h=>⟨h,rfl⟩) hg.size (λj a b hj hb=>hg.block _ ?_ λe=>?_) (λ_ _ h _=>h) (λj a b hj hb=>hD.mem hj hb) λk j a hk hj=>hD.ne hj hk
  .rcases hb with rfl|hb
   .exact h0.lt_heap (q6c hj)
   .exact hD.lt hj hb
  .obtain⟨ho,hb2⟩:=hrow _ e.symm;obtain⟨q1,q2⟩:=h1 j a hj;rcases hb with rfl|hb
   .exact hm.ne_own ho (q6c q2) q1 hb2
   .exact hS.ne q2 ho (hb2▸hb)
 have h1':=h1
 have h1:HM M w0 ρ (h.set i .dead) w':={
  os:=hg.os.trans hm.os
  tape:=hg.tape.trans hm.tape
  output:=hg.output.trans hm.output
  size:=Nat.le_trans hm.size hg.size
  block:=λk hk hM=>by
   rw[hg.block k (by have:=hm.size;omega) (λe=>by
    obtain⟨ho,hb⟩:=hrow k e.symm;rcases hm.ow i ho with h3|h3
    .omega
    .exact hM (hb▸h3))]
   exact hm.block k hk hM
  lt:=h0.lt
  ob:=λj=>h0.ob_other λhj=>hg.block _ (h0.lt_heap hj) (λe=>by
   obtain⟨ho,hb⟩:=hrow _ e.symm;rw[SH.get_set]at hj;by_cases hji:j=i
   .rw[if_pos hji]at hj;exact hj
   .rw[if_neg hji]at hj;exact hm.ne_own ho hj hji hb)
  ow:=h0.ow
  fz:=λb o hb=>by
   rw[hg.block b (hm.lt_mem hb) (λe=>?_)]
   .exact hm.fz b o hb
   .obtain⟨ho,hb2⟩:=hrow _ e.symm;exact hm.ne_mem ho hb hb2
  sep:=h0.sep
  old:=hm.old
  env:=hm.env
  ab:=hm.ab.imp λ_ hS=>habS hS
  inj:=h0.inj}
 refine h1.learn hfit (λho=>?_) hna;rcases hown ho with h2|⟨h2,h3⟩
 .obtain⟨S,hS⟩:=hm.ab;refine⟨.inl (by have:=hm.size;omega),hm.fresh h2,λj hj=>?_,S,habS hS,λj a hj hh=>?_⟩
  .have:=h0.lt_heap hj;omega
  .have:=hS.lt (h1' j a hj).2 hh;omega
 .obtain⟨S,hS⟩:=hm.ab;refine⟨by rw[h3];exact hm.ow i h2,by rw[h3];exact hm.sep i h2,λj hj=>?_,S,habS hS,λj a hj=>?_⟩
  rotate_left
  .rw[h3];exact hS.ne (h1' j a hj).2 h2
  rw[h3];rw[SH.get_set]at hj;by_cases hji:j=i
  .rw[if_pos hji]at hj;exact hj.elim
  .rw[if_neg hji]at hj;exact hm.ne_own h2 hj hji
def Rh.frz(ρ:Rh)(b:Nat)(o:Obj):Rh:=⟨ρ.lc,λc=>if c=b then some o else ρ.mem c,ρ.lo⟩
theorem q61{n:Nat}(ρ:Rh){b:Nat}{o:Obj}(hb:ρ.mem b=none):Agree n ρ (ρ.frz b o):=⟨λ_ _=>rfl,λc o' hc=>by
 simp only[Rh.frz];rw[if_neg (by rintro rfl;rw[hb]at hc;cases hc)];exact hc,rfl⟩
theorem HM.freeze(hm:HM M w0 ρ h w){i:Nat}(hown:(h.get i).own (ρ i)){o:Obj}(ho:w.heap[(ρ i).blk]?=some o):HM M w0 (ρ.frz (ρ i).blk o) (h.set i .dead) w:=by
 have h0:=hm.forget i;have hag:Agree h.nx ρ (ρ.frz (ρ i).blk o):=q61 ρ (hm.sep i hown);exact {
  os:=hm.os
  tape:=hm.tape
  output:=hm.output
  size:=hm.size
  block:=hm.block
  lt:=h0.lt
  ob:=λj=>SO.fit_mono (Nat.le_refl _) hag (h0.ob j)
  ow:=h0.ow
  fz:=λb o' hb=>by
   simp only[Rh.frz]at hb;by_cases hbi:b=(ρ i).blk
   .rw[if_pos hbi]at hb;cases hb;rw[hbi];exact ho
   .rw[if_neg hbi]at hb;exact hm.fz b o' hb
  sep:=λj hj=>by
   have hj':((h.set i .dead).get j).own (ρ j):=hj;show(if(ρ j).blk=(ρ i).blk then some o else ρ.mem (ρ j).blk)=none;have h1:=h0.sep j hj';rw[SH.get_set]at hj';by_cases hji:j=i
   .rw[if_pos hji]at hj';exact hj'.elim
   .rw[if_neg hji]at hj';rw[if_neg (hm.ne_own hown hj' hji)];exact h1
  old:=λb o' hb hlt hM=>by
   simp only[Rh.frz]at hb;by_cases hbi:b=(ρ i).blk
   .rcases hm.ow i hown with h1|h1
    .omega
    .exact absurd (hbi▸h1) hM
   .rw[if_neg hbi]at hb;exact hm.old b o' hb hlt hM
  env:=Env.mono _ _ (λb o' hb _=>hag.2.1 b o' hb) hm.env
  ab:=by
   obtain⟨S,hS⟩:=hm.ab;have hD:=hS.dead i;refine⟨S,hD.step (λ_ _ h=>⟨h,rfl⟩) (Nat.le_refl _) (λ_ _ _ _ _=>rfl) (λb o' hb _=>hag.2.1 b o' hb) (λj a b hj hb=>?_) λk j a hk hj=>hD.ne hj hk⟩;have h2:=hD.mem hj hb;simp only[Rh.frz];rw[SH.get_set]at hj;by_cases hji:j=i
   .rw[if_pos hji]at hj;cases hj
   .rw[if_neg hji]at hj;rw[if_neg (λe=>hS.ne hj hown (by rw[<-show _=_ from e];exact hb))];exact h2
  inj:=h0.inj}
theorem HM.relo(hm:HM M w0 ρ h w){L:Rl}(hL:L.old=ρ.lo.old):HM M w0 ⟨ρ.lc,ρ.mem,L⟩ h w where
 os:=hm.os
 tape:=hm.tape
 output:=hm.output
 size:=hm.size
 block:=hm.block
 lt:=hm.lt
 ob i:=SO.fit_mono0 (ρ:=ρ) (ρ':=⟨ρ.lc,ρ.mem,L⟩) (Nat.le_refl _) ⟨λ_ _=>rfl,λ_ _ hb _=>hb⟩ (hm.ob i)
 ow:=hm.ow
 fz:=hm.fz
 sep:=hm.sep
 old b o h1 h2 h3:=by rw[hL];exact hm.old b o h1 h2 h3
 env:=hm.env
 ab:=hm.ab
 inj:=hm.inj
def q5b(F:Nat->Option Obj)(b:Nat):Nat->Option Obj:=λc=>if c=b then none else F c
theorem HM.unfrz(hm:HM M w0 ρ h w){b:Nat}{o:Obj}(hb:ρ.mem b=some o)(ho:¬dataO o)(hM:w0.heap.size<=b\/M b)
  (hos:w'.os=w.os) (htape:w'.tape=w.tape) (hout:w'.output=w.output) (hsz:w'.heap.size=w.heap.size) (hsame:∀j,j≠b->w'.heap[j]?=w.heap[j]?):HM M w0 ⟨ρ.lc,q5b ρ.mem b,ρ.lo⟩ h w':=by
 have hlt:=hm.lt_mem hb
 have hag:Agr h.nx ρ ⟨ρ.lc,q5b ρ.mem b,ρ.lo⟩:=⟨λ_ _=>rfl,λc oc hc hd=>by
  simp only[q5b];by_cases hcb:c=b
  .subst hcb;rw[hb]at hc;cases hc;exact absurd hd ho
  .rw[if_neg hcb];exact hc⟩
 exact {
  os:=hos.trans hm.os
  tape:=htape.trans hm.tape
  output:=hout.trans hm.output
  size:=by rw[hsz];exact hm.size
  block:=λi hi hMi=>by
   rw[hsame i (by rintro rfl;rcases hM with h1|h1;omega;exact hMi h1)];exact hm.block i hi hMi
  lt:=hm.lt
  ob:=λi=>SO.fit_mono0 (ρ':=⟨ρ.lc,q5b ρ.mem b,ρ.lo⟩) (Nat.le_refl _) hag (hm.ob_other λhj=>hsame _ λe=>by
   have:=hm.sep i hj;rw[e,hb]at this;cases this)
  ow:=hm.ow
  fz:=λc oc hc=>by
   simp only[q5b]at hc;by_cases hcb:c=b
   .rw[if_pos hcb]at hc;cases hc
   .rw[if_neg hcb]at hc;rw[hsame c hcb];exact hm.fz c oc hc
  sep:=λi hi=>by
   have:=hm.sep i hi;show q5b ρ.mem b (ρ i).blk=none;simp only[q5b];split
   .rfl
   .exact this
  old:=λc oc hc h1 h2=>by
   simp only[q5b]at hc;by_cases hcb:c=b
   .rw[if_pos hcb]at hc;cases hc
   .rw[if_neg hcb]at hc;exact hm.old c oc hc h1 h2
  env:=Env.mono _ _ hag.2 hm.env
  ab:=by
   obtain⟨S,hS⟩:=hm.ab;refine⟨S,hS.step (λ_ _ h=>⟨h,rfl⟩) (by omega) (λj a c hj hc=>hsame c λe=>?_) hag.2 (λj a c hj hc=>?_) λk j a hk hj=>hS.ne hj hk⟩
   .rcases hc with rfl|hc
    .have:=hm.sep j (q6c hj);rw[e,hb]at this;cases this
    .have:=hS.mem hj hc;rw[e,hb]at this;cases this
   .simp only[q5b];split
    .rfl
    .exact hS.mem hj hc
  inj:=hm.inj}
theorem HM.weaken{h':SH}(hm:HM M w0 ρ h w)(hn:h.nx<=h'.nx)(hg:∀i,h'.get i=.dead\/((h.get i).live=true/\((h'.get i).own (ρ i)->(h.get i).own (ρ i))/\(∀a,h'.get i=.abs a->h.get i=.abs a)/\∀o,(h.get i).fit h.nx ρ (ρ i) o->(h'.get i).fit h'.nx ρ (ρ i) o)):HM M w0 ρ h' w where
 ab:=by
  have h1:∀i a,h'.get i=.abs a->h.get i=.abs a:=λi a hi=>by
   rcases hg i with h1|⟨_,_,h3,_⟩
   .rw[h1]at hi;cases hi
   .exact h3 a hi
  obtain⟨S,hS⟩:=hm.ab;refine⟨S,hS.step (λi a hi=>⟨h1 i a hi,rfl⟩) (Nat.le_refl _) (λ_ _ _ _ _=>rfl) (λ_ _ h _=>h) (λi a b hi hb=>hS.mem (h1 i a hi) hb) λj i a hj hi=>?_⟩;rcases hg j with k1|⟨_,k2,_⟩
  .rw[k1]at hj;exact hj.elim
  .exact hS.ne (h1 i a hi) (k2 hj)
 os:=hm.os
 tape:=hm.tape
 output:=hm.output
 size:=hm.size
 block:=hm.block
 lt i hl:=by
  rcases hg i with h1|⟨h1,_,_⟩
  .rw[h1]at hl;cases hl
  .exact Nat.lt_of_lt_of_le (hm.lt i h1) hn
 ob i:=by
  rcases hg i with h1|⟨_,_,_,h3⟩
  .rw[h1];trivial
  .exact h3 _ (hm.ob i)
 ow i ho:=by
  rcases hg i with h1|⟨_,h2,_⟩
  .rw[h1]at ho;exact ho.elim
  .exact hm.ow i (h2 ho)
 fz:=hm.fz
 sep i ho:=by
  rcases hg i with h1|⟨_,h2,_⟩
  .rw[h1]at ho;exact ho.elim
  .exact hm.sep i (h2 ho)
 old:=hm.old
 env:=hm.env
 inj i j hi hj he:=by
  rcases hg i with h1|⟨_,h2,_⟩
  .rw[h1]at hi;exact hi.elim
  .rcases hg j with k1|⟨_,k2,_⟩
   .rw[k1]at hj;exact hj.elim
   .exact hm.inj i j (h2 hi) (k2 hj) he
theorem HM.same{h':SH}(hm:HM M w0 ρ h w)(hn:h'.nx=h.nx)(hg:∀i,h'.get i=h.get i):HM M w0 ρ h' w:=
 hm.weaken (by omega) λi=>by
  rw[hg i,hn];by_cases hd:h.get i=.dead
  .exact .inl hd
  .exact .inr ⟨by cases hh:h.get i<;>simp_all[SO.live],λh=>h,λ_ h=>h,λ_ h=>h⟩
theorem HM.setCs(hm:HM M w0 ρ h w){i p:Nat}{xs ys:List SV}{t:TypeId}(hg:h.get i=.cells xs t)(hle:p+ys.length<=xs.length){w':World}
  (h':HM M w0 ρ (h.set i (.cells (xs.take p++ys++xs.drop (p+ys.length)) t)) w'):HM M w0 ρ (h.setCs i p ys) w':=
 h'.same (SH.setCs_nx _ _ _ _) λj=>by
  rw[SH.get_set];by_cases hji:j=i
  .subst hji;rw[if_pos rfl,SH.setCs_get _ _ _ _ hg hle]
  .rw[if_neg hji,SH.setCs_other hji]
theorem HM.start(w:World)(ρ:Rh)(hmem:∀b o,ρ.mem b=some o->w.heap[b]?=some o)(hlo:∀b o,ρ.mem b=some o->ρ.lo.old b=some o)(henv:Env.E ρ.mem):HM (λ_=>False) w ρ ⟨0,[],[]⟩ w where
 env:=henv
 ab:=⟨λ_ _=>False,λi a h=>by simp[SH.get,lookE]at h⟩
 os:=rfl
 tape:=rfl
 output:=rfl
 size:=Nat.le_refl _
 block _ _ _:=rfl
 lt i h:=by simp[SH.get,lookE,SO.live]at h
 ob i:=by simp[SH.get,lookE,SO.fit]
 ow i h:=by simp[SH.get,lookE,SO.own]at h
 fz:=hmem
 sep i h:=by simp[SH.get,lookE,SO.own]at h
 old b o hb _ _:=hlo b o hb
 inj i j h:=by simp[SH.get,lookE,SO.own]at h
theorem HM.toBelow(hm:HM (λ_=>False) w0 ρ h w):Below w0.heap.size w0 w:=
 ⟨hm.os,hm.tape,hm.output,hm.size,λi hi=>hm.block i hi (λh=>h)⟩
end
structure St where
 n:Nat
 t:List (Nat×SV)
 h:SH
 d:List Nat
 b:List (Nat×SV)
def St.slot(σ:St)(i:Nat):SV:=look (look (.k undef) i σ.b) i σ.t
def St.lg(σ:St):List (Nat×SV):=σ.t++σ.b
theorem St.look_lg(σ:St)(i:Nat):look (.k undef) i σ.lg=σ.slot i:=q39 _ _ _ _
def St.put(σ:St)(d:Option Nat)(s:SV)(h:SH):St:=
 match d with
 |some d=>⟨σ.n,(d,s)::σ.t,h,σ.d,σ.b⟩
 |none=>⟨σ.n,σ.t,h,σ.d,σ.b⟩
def St.ev(σ:St):Operand->SV
 | .tmp t=>bif Nat.blt t σ.n then σ.slot t else .k undef
 | .const v=>.k v
 | .global g=>.v (.pointer (some ⟨g,0,none⟩))
 | .func f=>.fn f []
def markOf(ρ:Rh)(i:Nat):Deferred:={ target:=.collected (ρ i).blk,args:=#[]}
inductive Mix(ρ:Rh):List Nat->List Nat->List Deferred->Prop
 |nil:Mix ρ [] [] []
 |id {d s:List Nat} {ds:List Deferred} (i:Nat) (h:Mix ρ d s ds):Mix ρ (i::d) s (markOf ρ i::ds)
 |sf {d s:List Nat} {ds:List Deferred} (b:Nat) (h:Mix ρ d s ds):Mix ρ d (b::s) ({ target:=.collected b,args:=#[]}::ds)
def Sf1(M:Nat->Prop)(w0:World)(ρ:Rh)(b:Nat):Prop:=
 ρ.mem b=some (.deferred (some []))/\(w0.heap.size<=b\/M b)/\ρ.lo.m0 b=none
structure Dfs(M:Nat->Prop)(w0:World)(ρ:Rh)(d:List Nat)(ds:List Deferred):Prop where
 mix:∃s,Mix ρ d s ds/\s.Nodup/\∀b∈s,Sf1 M w0 ρ b
 m0:∀b o,ρ.lo.m0 b=some o->ρ.mem b=some o
structure Mod(M:Nat->Prop)(w0:World)(ρ:Rh)(σ:St)(a:Act)(w:World):Prop where
 tm:Slots σ.h.nx ρ σ.n σ.lg a.tmps
 df:Dfs M w0 ρ σ.d a.defers
 dl:∀i∈σ.d,i<σ.h.nx
 hp:HM M w0 ρ σ.h w
theorem slots_ev{n k:Nat}{ρ:Rh}{t:List (Nat×SV)}{tm:Array Value}(h:Slots n ρ k t tm)(i:Nat):SV.fit n ρ (bif Nat.blt i k then look (.k undef) i t else .k undef) (tm.getD i undef):=by
 cases hb:Nat.blt i k with
 |true=>
  have:i<k:=by simpa [Nat.blt_eq]using hb
  simpa using h.2 i this
 |false=>
  have:¬i<k:=by
   intro h;have:Nat.blt i k=true:=by simpa [Nat.blt_eq]using h
   rw[this]at hb;cases hb
  have hsz:=h.1;simp only[cond_false,SV.fit,Array.getD];rw[dif_neg (λhlt=>this (hsz▸hlt))]
theorem Mod.ev{M:Nat->Prop}{w0 w:World}{ρ:Rh}{σ:St}{a:Act}(hm:Mod M w0 ρ σ a w)(o:Operand):(σ.ev o).fit σ.h.nx ρ (a.eval o):=by
 cases o with
 |tmp t=>
  have:=slots_ev hm.tm t;rw[St.look_lg]at this;exact this
 |const v=>simp[St.ev,Act.eval,SV.fit]
 |global g=>simp[St.ev,Act.eval,SV.fit]
 |func f=>simp[St.ev,Act.eval,SV.fit,SV.fits]
theorem put_size(a:Act)(d:Option Nat)(x:Value):(a.put d x).tmps.size=a.tmps.size:=by cases d<;>simp[Act.put]
theorem put_defers(a:Act)(d:Option Nat)(x:Value):(a.put d x).defers=a.defers:=by cases d<;>simp[Act.put]
theorem slots_put{n k:Nat}{ρ:Rh}{t:List (Nat×SV)}{tm:Array Value}(h:Slots n ρ k t tm){s:SV}{x:Value}(hs:s.fit n ρ x)(d:Nat):Slots n ρ k ((d,s)::t) (tm.setIfInBounds d x):=by
 refine⟨by simpa using h.1,λi hi=>?_⟩;rw[q1i];by_cases hid:i=d
 .subst hid;have:i<tm.size:=by rw[h.1];exact hi
  rw[if_pos rfl];simp only[Array.getD_eq_getD_getElem?,Array.getElem?_setIfInBounds,this,if_true,Option.getD_some];exact hs
 .rw[if_neg hid]
  have:(tm.setIfInBounds d x).getD i undef=tm.getD i undef:=by
   simp only[Array.getD_eq_getD_getElem?,Array.getElem?_setIfInBounds];rw[if_neg (λe=>hid e.symm)]
  rw[this];exact h.2 i hi
theorem Mix.lc{ρ ρ':Rh}{d s:List Nat}{ds:List Deferred}(h:Mix ρ d s ds)(ha:∀i∈d,ρ' i=ρ i):Mix ρ' d s ds:=by
 induction h with
 |nil=>exact .nil
 |@id d s ds i h ih=>
  have e:markOf ρ i=markOf ρ' i:=by simp only[markOf];rw[ha i (List.mem_cons_self ..)]
  rw[e];exact .id i (ih λj hj=>ha j (List.mem_cons_of_mem _ hj))
 |sf b h ih=>exact .sf b (ih ha)
theorem Mix.drop{ρ:Rh}{d s:List Nat}{ds:List Deferred}{i:Nat}(h:Mix ρ (i::d) s ds):∃s',Mix ρ d s' ds/\s'.Perm ((ρ i).blk::s):=by
 generalize hd:i::d=d0 at h
 induction h with
 |nil=>cases hd
 |@id d1 s ds j h ih=>cases hd;exact⟨_,.sf _ h,List.Perm.refl _⟩
 |@sf d1 s ds b h ih=>
  obtain⟨s',h1,h2⟩:=ih hd;exact⟨_,.sf b h1,(h2.cons b).trans (List.Perm.swap ..)⟩
theorem Dfs.nil{M:Nat->Prop}{w0:World}{ρ:Rh}(h:∀b o,ρ.lo.m0 b=some o->ρ.mem b=some o):Dfs M w0 ρ [] []:=⟨⟨[],.nil,List.nodup_nil,λb hb=>by simp at hb⟩,h⟩
theorem Dfs.cons{M:Nat->Prop}{w0:World}{ρ:Rh}{d:List Nat}{ds:List Deferred}(h:Dfs M w0 ρ d ds)(i:Nat):Dfs M w0 ρ (i::d) (markOf ρ i::ds):=
 let ⟨s,h1,h2⟩:=h.mix
 ⟨⟨s,.id i h1,h2⟩,h.m0⟩
theorem Dfs.mono{M:Nat->Prop}{w0:World}{n:Nat}{ρ ρ':Rh}{d:List Nat}{ds:List Deferred}(h:Dfs M w0 ρ d ds)(ha:Agree n ρ ρ')(hd:∀i∈d,i<n):Dfs M w0 ρ' d ds:=by
 obtain⟨s,h1,h2,h3⟩:=h.mix;refine⟨⟨s,h1.lc λi hi=>ha.1 i (hd i hi),h2,λb hb=>?_⟩,λb o hb=>?_⟩
 .obtain⟨k1,k2,k3⟩:=h3 b hb;exact⟨ha.2.1 _ _ k1,k2,by rw[ha.2.2];exact k3⟩
 .rw[ha.2.2]at hb;exact ha.2.1 _ _ (h.m0 b o hb)
theorem Mod.put{M:Nat->Prop}{w0 w w':World}{ρ ρ':Rh}{σ:St}{h':SH}{a:Act}(hm:Mod M w0 ρ σ a w)(hn:σ.h.nx<=h'.nx)(ha:Agree σ.h.nx ρ ρ')(hh:HM M w0 ρ' h' w'){s:SV}{x:Value}
  (hs:s.fit h'.nx ρ' x) (d:Option Nat):Mod M w0 ρ' (σ.put d s h') (a.put d x) w':=by
 have hdf:Dfs M w0 ρ' σ.d a.defers:=hm.df.mono ha hm.dl;cases d with
 |none=>exact⟨hm.tm.mono hn ha,hdf,λi hi=>Nat.lt_of_lt_of_le (hm.dl i hi) hn,hh⟩
 |some d=>exact⟨slots_put (hm.tm.mono hn ha) hs d,by rw[put_defers];exact hdf,λi hi=>Nat.lt_of_lt_of_le (hm.dl i hi) hn,hh⟩
inductive Tr(α:Type)where
 |ret (x:α)
 |br (c:Bool) (a b:Tr α)
 |ask (p:Prop) (a:Tr α)
 |giv (p:Prop) (a:Tr α)
 |all (k:List Nat->Tr α)
 |bad (why:Nat)
def Tr.Holds{α:Type}(K:α->Prop):Tr α->Prop
 | .ret x=>K x
 | .br c a b=>(c=true->a.Holds K)/\(c=false->b.Holds K)
 | .ask p a=>p/\a.Holds K
 | .giv p a=>p->a.Holds K
 | .all k=>∀n,(k n).Holds K
 | .bad _=>False
def Tr.bind{α β:Type}(t:Tr α)(f:α->Tr β):Tr β:=
 match t with
 | .ret x=>f x
 | .br c a b=>.br c (a.bind f) (b.bind f)
 | .ask p a=>.ask p (a.bind f)
 | .giv p a=>.giv p (a.bind f)
 | .all k=>.all λn=>(k n).bind f
 | .bad w=>.bad w
theorem Tr.holds_bind{α β:Type}{K:β->Prop}{f:α->Tr β}:∀{t:Tr α},(t.bind f).Holds K->t.Holds λx=>(f x).Holds K
 | .ret _,h=>h
 | .br _ _ _,h=>⟨λhc=>holds_bind (h.1 hc),λhc=>holds_bind (h.2 hc)⟩
 | .ask _ _,h=>⟨h.1,holds_bind h.2⟩
 | .giv _ _,h=>λhp=>holds_bind (h hp)
 | .all _,h=>λn=>holds_bind (h n)
 | .bad _,h=>h
theorem Tr.bind_holds{α β:Type}{K:β->Prop}{f:α->Tr β}:∀{t:Tr α},(t.Holds λx=>(f x).Holds K)->(t.bind f).Holds K
 | .ret _,h=>h
 | .br _ _ _,h=>⟨λhc=>bind_holds (h.1 hc),λhc=>bind_holds (h.2 hc)⟩
 | .ask _ _,h=>⟨h.1,bind_holds h.2⟩
 | .giv _ _,h=>λhp=>bind_holds (h hp)
 | .all _,h=>λn=>bind_holds (h n)
 | .bad _,h=>h
theorem Tr.mono{α:Type}{K K':α->Prop}(hk:∀x,K x->K' x):∀{t:Tr α},t.Holds K->t.Holds K'
 | .ret _,h=>hk _ h
 | .br _ _ _,h=>⟨λhc=>mono hk (h.1 hc),λhc=>mono hk (h.2 hc)⟩
 | .ask _ _,h=>⟨h.1,mono hk h.2⟩
 | .giv _ _,h=>λhp=>mono hk (h hp)
 | .all _,h=>λn=>mono hk (h n)
 | .bad _,h=>h
end Go.Sx

namespace Go.Sx
open Go.RowKit
theorem q02{a b:Nat}(h:Nat.beq a b=true):a=b:=Nat.eq_of_beq_eq_true h
section
variable{ρ:Rh}
def SV.int?:SV->Option (Bool×IntKind×Int)
 | .k (.int q n)=>some (true,q,n)
 | .v (.int q n)=>some (false,q,n)
 |_=>none
theorem SV.int_fit{s:SV}{c:Bool}{q:IntKind}{i:Int}(hs:s.int?=some (c,q,i)){n:Nat}{x:Value}(hf:s.fit n ρ x):x=.int q i:=by
 cases s<;>simp[SV.int?]at hs
 all_goals
  rename_i y;cases y<;>simp at hs;simp only[SV.fit]at hf;rw[hf,hs.2.1,hs.2.2]
def SV.bool?:SV->Option (Bool×Bool)
 | .k (.bool b)=>some (true,b)
 | .v (.bool b)=>some (false,b)
 |_=>none
theorem SV.bool_fit{s:SV}{c b:Bool}(hs:s.bool?=some (c,b)){n:Nat}{x:Value}(hf:s.fit n ρ x):x=.bool b:=by
 cases s<;>simp[SV.bool?]at hs
 all_goals
  rename_i y;cases y<;>simp at hs;simp only[SV.fit]at hf;rw[hf,hs.2]
def SV.str?:SV->Option (Bool×ByteArray)
 | .k (.string b)=>some (true,b)
 | .v (.string b)=>some (false,b)
 |_=>none
theorem SV.str_fit{s:SV}{c:Bool}{b:ByteArray}(hs:s.str?=some (c,b)){n:Nat}{x:Value}(hf:s.fit n ρ x):x=.string b:=by
 cases s<;>simp[SV.str?]at hs
 all_goals
  rename_i y;cases y<;>simp at hs;simp only[SV.fit]at hf;rw[hf,hs.2]
def kv(c:Bool)(x:Value):SV:=bif c then .k x else .v x
theorem q3j(c:Bool)(x:Value)(n:Nat):(kv c x).fit n ρ x:=by cases c<;>simp[kv,SV.fit]
def SV.agg?:SV->Option (List SV)
 | .agg xs=>some xs
 | .k (.agg cs)=>some (cs.toList.map .k)
 | .v (.agg cs)=>some (cs.toList.map .v)
 |_=>none
theorem SV.agg_fit{s:SV}{xs:List SV}(hs:s.agg?=some xs){n:Nat}{x:Value}(hf:s.fit n ρ x):∃l,x=.agg (List.toArray l)/\SV.fits n ρ xs l:=by
 cases s with
 |agg ys=>
  simp[SV.agg?]at hs;subst hs;simpa [SV.fit]using hf
 |k y=>
  cases y<;>simp[SV.agg?]at hs;subst hs;simp only[SV.fit]at hf;subst hf;rename_i cs;exact⟨cs.toList,by simp,q6v _⟩
 |v y=>
  cases y<;>simp[SV.agg?]at hs;subst hs;simp only[SV.fit]at hf;subst hf;rename_i cs;exact⟨cs.toList,by simp,fits_v _⟩
 |_=>simp[SV.agg?]at hs
end
def joinB(z ca x cb y:Bool):SV:=
 match ca,cb with
 |true,true=>match x,y with
  |true,true=>.k (.bool true)
  |false,false=>.k (.bool false)
  |true,false=>.v (.bool z)
  |false,true=>.v (.bool (!z))
 |true,false=>match x with
  |true=>.v (.bool (z||y))
  |false=>.v (.bool (!z&&y))
 |false,true=>match y with
  |true=>.v (.bool (!z||x))
  |false=>.v (.bool (z&&x))
 |false,false=>.v (.bool (bif z then x else y))
theorem joinB_fit(z ca x cb y:Bool){n:Nat}{ρ:Rh}:(joinB z ca x cb y).fit n ρ (.bool (bif z then x else y)):=by
 unfold joinB;cases ca<;>cases cb<;>cases x<;>cases y<;>cases z<;>simp[SV.fit]
def nilK:Value->Bool
 | .slice none 0 0=>true
 |_=>false
def q7f(j:SV->SV->SV):List SV->List SV->Option (List SV)
 | [],[]=>some []
 |a::l,b::m=>match q7f j l m with
  |some r=>some (j a b::r)
  |none=>none
 |_,_=>none
def joinR(j:SV->SV->SV)(z:Bool)(a b:SV):SV:=
 match a,b with
 | .tup xs,.tup ys=>match q7f j xs ys with
  |some l=>.tup l
  |none=>.u
 | .p i o,.p i' o'=>bif Nat.beq i i'&&Nat.beq o o' then .p i o else .u
 | .sl i o l c,.sl i' o' l' c'=>bif Nat.beq i i'&&Nat.beq o o'&&Nat.beq l l'&&Nat.beq c c' then .sl i o l c else .u
 | .ow i l,.ow i' l'=>bif Nat.beq i i' then .ow i (bif z then l else l')else .u
 | .rs sz l el,.rs sz' l' el'=>bif Nat.beq sz sz' then .rs sz (bif z then l else l') (bif z then el else el')else .u
 | .rs sz l el,.k y=>bif nilK y then .rs sz (bif z then l else 0) el else .u
 | .k y,.rs sz l el=>bif nilK y then .rs sz (bif z then 0 else l) el else .u
 | .k x,.k y=>bif nilK x&&nilK y then .k x else .u
 | .pr xs,.pr ys=>match q7f j xs ys with
  |some l=>.pr l
  |none=>.u
 | .fn f cs,.fn g ds=>bif Nat.beq f g then match q7f j cs ds with
  |some l=>.fn f l
  |none=>.u else .u
 |_,_=>.u
def joinV:Nat->Bool->SV->SV->SV
 |0,_,_,_=>.u
 |d+1,z,a,b=>
  match a.bool?,b.bool? with
  |some (ca,x),some (cb,y)=>joinB z ca x cb y
  |_,_=>
  match a.int?,b.int? with
  |some (ca,q,i),some (cb,q',j)=>bif decide (q=q')then(bif ca&&(cb&&decide (i=j))then .k (.int q i)else .v (.int q (bif z then i else j)))else .u
  |_,_=>
  match a.str?,b.str? with
  |some (_,s),some (_,t)=>.v (.string (bif z then s else t))
  |_,_=>
  match a.agg?,b.agg? with
  |some xs,some ys=>match q7f (joinV d z) xs ys with
   |some l=>.agg l
   |none=>.u
  |_,_=>joinR (joinV d z) z a b
section
variable{n:Nat}{ρ:Rh}{z:Bool}
def JV(n:Nat)(ρ:Rh)(z:Bool)(a b j:SV):Prop:=(z=true->∀x,a.fit n ρ x->j.fit n ρ x)/\(z=false->∀x,b.fit n ρ x->j.fit n ρ x)
theorem JV.u(a b:SV):JV n ρ z a b .u:=⟨λ_ _ _=>by simp[SV.fit],λ_ _ _=>by simp[SV.fit]⟩
theorem q52{j:SV->SV->SV}(hj:∀a b,JV n ρ z a b (j a b)):∀{xs ys l:List SV},q7f j xs ys=some l->(z=true->∀v,SV.fits n ρ xs v->SV.fits n ρ l v)/\(z=false->∀v,SV.fits n ρ ys v->SV.fits n ρ l v)
 | [],[],l,h=>by
  simp only[q7f,Option.some.injEq]at h;subst h;exact⟨λ_ _ h=>h,λ_ _ h=>h⟩
 |a::xs,b::ys,l,h=>by
  simp only[q7f]at h;split at h
  .rename_i r hr;simp only[Option.some.injEq]at h;subst h;obtain⟨h1,h2⟩:=q52 hj hr;refine⟨λhz v hv=>?_,λhz v hv=>?_⟩
   .obtain⟨x,r',rfl,hx,hr'⟩:=q03 hv;exact⟨(hj a b).1 hz x hx,h1 hz _ hr'⟩
   .obtain⟨x,r',rfl,hx,hr'⟩:=q03 hv;exact⟨(hj a b).2 hz x hx,h2 hz _ hr'⟩
  .cases h
 | [],_::_,l,h=>by simp[q7f]at h
 |_::_,[],l,h=>by simp[q7f]at h
theorem q8n{y:Value}(h:nilK y=true):y=.slice none 0 0:=by
 unfold nilK at h;split at h
 .rfl
 .cases h
theorem rs_nil0(sz:Nat)(el:Nat->List SV)(a:Option Addr):(SV.rs sz 0 el).fit n ρ (.slice a 0 0):=by
 simp only[SV.fit];exact⟨_,_,rfl,Nat.le_refl _,Nat.zero_le _,λh=>by omega⟩
theorem rs_nil(sz:Nat)(el:Nat->List SV):(SV.rs sz 0 el).fit n ρ (.slice none 0 0):=by
 simp only[SV.fit];exact⟨_,_,rfl,Nat.le_refl _,Nat.zero_le _,λh=>absurd h (Nat.lt_irrefl 0)⟩
theorem bifu{c:Bool}{a b j:SV}(h:c=true->JV n ρ z a b j):JV n ρ z a b (bif c then j else .u):=by
 cases c with
 |true=>exact h rfl
 |false=>exact JV.u _ _
theorem joinR_ok{j:SV->SV->SV}(hj:∀a b,JV n ρ z a b (j a b))(a b:SV):JV n ρ z a b (joinR j z a b):=by
 unfold joinR;split
 .split
  .rename_i l hl;obtain⟨h1,h2⟩:=q52 hj hl;exact⟨λhz x⟨v,e,hv⟩=>⟨v,e,h1 hz v hv⟩,λhz x⟨v,e,hv⟩=>⟨v,e,h2 hz v hv⟩⟩
  .exact JV.u _ _
 .refine bifu λh=>?_;simp only[Bool.and_eq_true]at h;rw[q02 h.1,q02 h.2];exact⟨λ_ _ h=>h,λ_ _ h=>h⟩
 .refine bifu λh=>?_;simp only[Bool.and_eq_true]at h;rw[q02 h.1.1.1,q02 h.1.1.2,q02 h.1.2,q02 h.2];exact⟨λ_ _ h=>h,λ_ _ h=>h⟩
 .refine bifu λh=>?_;rw[q02 h];exact⟨λhz x h=>by rw[hz];exact h,λhz x h=>by rw[hz];exact h⟩
 .refine bifu λh=>?_;rw[q02 h];exact⟨λhz x h=>by rw[hz];exact h,λhz x h=>by rw[hz];exact h⟩
 .refine bifu λh=>?_;have:=q8n h;subst this;exact⟨λhz x h=>by rw[hz];exact h,λhz x h=>by rw[hz];simp only[SV.fit]at h;subst h;exact rs_nil _ _⟩
 .refine bifu λh=>?_;have:=q8n h;subst this;exact⟨λhz x h=>by rw[hz];simp only[SV.fit]at h;subst h;exact rs_nil _ _,λhz x h=>by rw[hz];exact h⟩
 .refine bifu λh=>?_;simp only[Bool.and_eq_true]at h;rw[q8n h.1,q8n h.2];exact⟨λ_ _ h=>h,λ_ _ h=>h⟩
 .split
  .rename_i l hl;obtain⟨h1,h2⟩:=q52 hj hl;refine⟨λhz x hx=>?_,λhz x hx=>?_⟩
   .simp only[SV.fit]at hx ⊢;obtain⟨b,o,cs,t,fz,e,hm,vs,hv,hc⟩:=hx;exact⟨b,o,cs,t,fz,e,hm,vs,h1 hz vs hv,hc⟩
   .simp only[SV.fit]at hx ⊢;obtain⟨b,o,cs,t,fz,e,hm,vs,hv,hc⟩:=hx;exact⟨b,o,cs,t,fz,e,hm,vs,h2 hz vs hv,hc⟩
  .exact JV.u _ _
 .refine bifu λh=>?_;rw[q02 h];split
  .rename_i l hl;obtain⟨h1,h2⟩:=q52 hj hl;exact⟨λhz x⟨v,e,hv⟩=>⟨v,e,h1 hz v hv⟩,λhz x⟨v,e,hv⟩=>⟨v,e,h2 hz v hv⟩⟩
  .exact JV.u _ _
 .exact JV.u _ _
theorem q36:∀(d:Nat)(a b:SV),JV n ρ z a b (joinV d z a b)
 |0,_,_=>JV.u _ _
 |d+1,a,b=>by
  unfold joinV;split
  .rename_i ca x cb y h1 h2;refine⟨λhz v hv=>?_,λhz v hv=>?_⟩
   .rw[SV.bool_fit h1 hv];have:=joinB_fit z ca x cb y (n:=n) (ρ:=ρ);rw[hz]at this ⊢;exact this
   .rw[SV.bool_fit h2 hv];have:=joinB_fit z ca x cb y (n:=n) (ρ:=ρ);rw[hz]at this ⊢;exact this
  .split
   .rename_i ca q i cb q' j h1 h2;refine bifu λhq=>?_;have hq:=of_decide_eq_true hq;subst hq;cases hc:ca&&(cb&&decide (i=j))with
    |true=>
     simp only[cond_true];simp only[Bool.and_eq_true,decide_eq_true_eq]at hc;obtain⟨_,_,rfl⟩:=hc;exact⟨λ_ v hv=>by rw[SV.int_fit h1 hv];simp[SV.fit],λ_ v hv=>by rw[SV.int_fit h2 hv];simp[SV.fit]⟩
    |false=>
     simp only[cond_false];exact⟨λhz v hv=>by rw[SV.int_fit h1 hv,hz];simp[SV.fit],λhz v hv=>by rw[SV.int_fit h2 hv,hz];simp[SV.fit]⟩
   .split
    .rename_i ca s cb t h1 h2;exact⟨λhz v hv=>by rw[SV.str_fit h1 hv,hz];simp[SV.fit],λhz v hv=>by rw[SV.str_fit h2 hv,hz];simp[SV.fit]⟩
    .split
     .rename_i xs ys h1 h2;split
      .rename_i l hl;obtain⟨k1,k2⟩:=q52 (q36 d) hl;refine⟨λhz v hv=>?_,λhz v hv=>?_⟩
       .obtain⟨l',rfl,hl'⟩:=SV.agg_fit h1 hv;exact⟨l',rfl,k1 hz _ hl'⟩
       .obtain⟨l',rfl,hl'⟩:=SV.agg_fit h2 hv;exact⟨l',rfl,k2 hz _ hl'⟩
      .exact JV.u _ _
     .exact joinR_ok (q36 d) a b
end
def selL(e:Nat):Nat->List SV->SV
 |_,[]=>.u
 |j,s::r=>match r with
  | []=>s
  |_::_=>joinV 9 (decide (e=j)) s (selL e (j+1) r)
theorem selL_ok{n:Nat}{ρ:Rh}{e:Nat}:∀{l:List SV}{j k:Nat}{s:SV}{x:Value},l[k]?=some s->e=j+k->s.fit n ρ x->(selL e j l).fit n ρ x
 | [],_,_,_,_,h,_,_=>by simp at h
 |a::r,j,k,s,x,h,he,hf=>by
  cases r with
  |nil=>
   cases k with
   |zero=>simp at h;subst h;exact hf
   |succ k=>simp at h
  |cons b r=>
   simp only[selL];obtain⟨h1,h2⟩:=q36 (n:=n) (ρ:=ρ) (z:=decide (e=j)) 9 a (selL e (j+1) (b::r));cases k with
   |zero=>
    simp at h;subst h;exact h1 (by simp[he]) x hf
   |succ k=>exact h2 (by simp;omega) x (selL_ok (k:=k) (by simpa using h) (by omega) hf)
def candL(o sz cnt:Nat)(xs:List SV):List SV:=(List.range cnt).map λj=>xs.getD (o+j*sz) .u
def colsL(e o sz cnt n:Nat)(xs:List SV):List SV:=(List.range n).map λq=>selL e 0 (candL (o+q) sz cnt xs)
theorem q6f{n:Nat}{ρ:Rh}:∀{ss:List SV}{xs:List Value},ss.length=xs.length->(∀(j:Nat)(s:SV)(x:Value),ss[j]?=some s->xs[j]?=some x->s.fit n ρ x)->SV.fits n ρ ss xs
 | [],[],_,_=>trivial
 |s::ss,x::xs,hl,h=>⟨h 0 s x rfl rfl,q6f (by simpa using hl) λj s' x' h1 h2=>h (j+1) s' x' (by simpa using h1) (by simpa using h2)⟩
 | [],_::_,hl,_=>by simp at hl
 |_::_,[],hl,_=>by simp at hl
theorem colsL_ok{n:Nat}{ρ:Rh}{e o sz cnt k:Nat}{xs:List SV}{l:List Value}(hf:SV.fits n ρ xs l)(he:e<cnt)(hle:o+e*sz+k<=xs.length):SV.fits n ρ (colsL e o sz cnt k xs) ((l.drop (o+e*sz)).take k):=by
 have hll:=q0a hf;refine q6f (by simp[colsL];omega) λq s x h1 h2=>?_
 have hq:q<k:=by
  have:=(List.getElem?_eq_some_iff.1 h1).1;simpa [colsL]using this
 have hs:s=selL e 0 (candL (o+q) sz cnt xs):=by
  simp only[colsL,List.getElem?_map,List.getElem?_range hq,Option.map_some,Option.some.injEq]at h1;exact h1.symm
 subst hs;rw[List.getElem?_take,if_pos hq,List.getElem?_drop]at h2;have hlt:o+e*sz+q<xs.length:=by omega
 have hx:xs[o+e*sz+q]?=some (xs.getD (o+e*sz+q) .u):=by
  rw[List.getElem?_eq_getElem hlt,List.getD_eq_getElem?_getD,List.getElem?_eq_getElem hlt];rfl
 obtain⟨y,hy,hfy⟩:=q44 hf hx;rw[hy]at h2;cases h2;refine selL_ok (k:=e) (s:=xs.getD (o+e*sz+q) .u) ?_ (by omega) hfy;simp only[candL,List.getElem?_map,List.getElem?_range he,Option.map_some];congr 2;omega
def qa7(z:Bool)(xs:List SV)(o:Nat)(ys:List SV):List SV:=xs.take o++(List.zipWith (joinV 9 z) ys ((xs.drop o).take ys.length)++xs.drop (o+ys.length))
theorem zipJ_ok{n:Nat}{ρ:Rh}{z:Bool}:∀{ys xs:List SV}{v v':List Value},ys.length=xs.length->SV.fits n ρ ys v->SV.fits n ρ xs v'->SV.fits n ρ (List.zipWith (joinV 9 z) ys xs) (bif z then v else v')
 | [],[],v,v',_,h,h'=>by
  have:=q0b h;have:=q0b h';subst v;subst v';cases z<;>trivial
 |y::ys,x::xs,v,v',hl,h,h'=>by
  obtain⟨a,r,rfl,ha,hr⟩:=q03 h;obtain⟨b,r',rfl,hb,hr'⟩:=q03 h';have ih:=zipJ_ok (z:=z) (by simpa using hl) hr hr';obtain⟨h1,h2⟩:=q36 (n:=n) (ρ:=ρ) (z:=z) 9 y x;cases z with
  |true=>exact⟨h1 rfl _ ha,ih⟩
  |false=>exact⟨h2 rfl _ hb,ih⟩
 | [],_::_,_,_,hl,_,_=>by simp at hl
 |_::_,[],_,_,hl,_,_=>by simp at hl
theorem spliceJ_ok{n:Nat}{ρ:Rh}{z:Bool}{xs ys:List SV}{o:Nat}{l cs:List Value}(hle:o+ys.length<=xs.length)(hf:SV.fits n ρ xs l)(hy:SV.fits n ρ ys cs):
  SV.fits n ρ (qa7 z xs o ys) (bif z then l.take o++cs++l.drop (o+cs.length)else l):=by
 have hyl:=q0a hy;have h1:=q0g o hf;have h2:=q0g ys.length (q0f o hf);have h3:=q0f (o+ys.length) hf;have h4:=zipJ_ok (z:=z) (by simp;omega) hy h2;have h5:=q0j h1 (q0j h4 h3);unfold qa7;cases z with
 |true=>rw[hyl]at h5;simpa [hyl]using h5
 |false=>
  have e:l.take o++((l.drop o).take ys.length++l.drop (o+ys.length))=l:=by
   have:l.drop (o+ys.length)=(l.drop o).drop ys.length:=by rw[List.drop_drop]
   rw[this,List.take_append_drop,List.take_append_drop]
  simp only[cond_false]at h5 ⊢;rw[e]at h5;exact h5
theorem spliceJ_length{z:Bool}{xs ys:List SV}{o:Nat}(hle:o+ys.length<=xs.length):(qa7 z xs o ys).length=xs.length:=by simp[qa7];omega
def putAt(e o sz:Nat)(ys:List SV):Nat->Nat->List SV->List SV
 |0,_,xs=>xs
 |cnt+1,j,xs=>putAt e o sz ys cnt (j+1) (qa7 (decide (e=j)) xs (o+j*sz) ys)
theorem putAt_ok{n:Nat}{ρ:Rh}{e o sz:Nat}{ys:List SV}{l cs:List Value}(hy:SV.fits n ρ ys cs):∀{cnt j:Nat}{xs:List SV},(∀i,i<j+cnt->o+i*sz+ys.length<=xs.length)->
  SV.fits n ρ xs (bif decide (e<j)then l.take (o+e*sz)++cs++l.drop (o+e*sz+cs.length)else l)->l.length=xs.length->SV.fits n ρ (putAt e o sz ys cnt j xs) (bif decide (e<j+cnt)then l.take (o+e*sz)++cs++l.drop (o+e*sz+cs.length)else l)
 |0,j,xs,_,hf,_=>hf
 |cnt+1,j,xs,hb,hf,hll=>by
  simp only[putAt];have hbj:=hb j (by omega);have hlen:=spliceJ_length (z:=decide (e=j)) (ys:=ys) (o:=o+j*sz) hbj;have:=putAt_ok (n:=n) (ρ:=ρ) (e:=e) (o:=o) (sz:=sz) (l:=l) hy (cnt:=cnt) (j:=j+1) (xs:=qa7 (decide (e=j)) xs (o+j*sz) ys) (λi hi=>by rw[hlen];exact hb i (by omega)) ?_ (by rw[hlen];exact hll)
  .rw[show j+1+cnt=j+(cnt+1) by omega]at this;exact this
  .have hs:=spliceJ_ok (z:=decide (e=j)) (ys:=ys) (o:=o+j*sz) hbj hf hy;by_cases hej:e=j
   .subst hej;have e1:decide (e<e+1)=true:=by simp
    have e2:decide (e<e)=false:=by simp
    rw[e1];rw[e2]at hs;simpa using hs
   .have e1:decide (e<j+1)=decide (e<j):=by simp only[decide_eq_decide];omega
    have e2:decide (e=j)=false:=by simp[hej]
    rw[e1];rw[e2]at hs ⊢;exact hs
end Go.Sx

namespace Go.Sx
open Go.RowKit
variable[Env]
section
variable{P:Program}{M:Nat->Prop}{w0 w:World}{ρ:Rh}{h:SH}
def GoodV(P:Program)(M:Nat->Prop)(w0:World)(ρ:Rh)(h:SH)(K:SV×SH->Prop)(s:Sem Value)(w:World):Prop:=
 ∃sv h' ρ' x w',K (sv,h')/\h.nx<=h'.nx/\Agree h.nx ρ ρ'/\HM M w0 ρ' h' w'/\sv.fit h'.nx ρ' x/\s.run P w=.ok x w'
theorem GoodV.same{K:SV×SH->Prop}{s:Sem Value}{sv:SV}{x:Value}(hm:HM M w0 ρ h w)(hK:K (sv,h))(hf:sv.fit h.nx ρ x)(hr:s.run P w=.ok x w):GoodV P M w0 ρ h K s w:=
 ⟨sv,h,ρ,x,w,hK,Nat.le_refl _,Agree.refl _ _,hm,hf,hr⟩
def szOf(P:Program)(t:TypeId):Option Nat:=(P.info? t).map (·.size)
def aggT(P:Program)(t:TypeId):Option Bool:=
 match P.underlying t with
 |some (.struct _)|some (.array _ _)=>some true
 |some _=>some false
 |none=>none
def zeroT(P:Program)(t:TypeId):Option Value:=(P.info? t).bind (·.zero)
theorem q0k{t:TypeId}{n:Nat}(hs:szOf P t=some n)(w:World):(sizeOf t).run P w=.ok n w:=by
 unfold szOf at hs;cases hi:P.info? t with
 |none=>simp[hi]at hs
 |some i=>simp[hi]at hs;simp[sizeOf,typeInfo,hi,hs]
theorem q4m{t:TypeId}{b:Bool}(hs:aggT P t=some b)(w:World):(isAgg t).run P w=.ok b w:=by
 unfold aggT at hs;unfold isAgg;cases hu:P.underlying t with
 |none=>simp[hu]at hs
 |some d=>rw[Sem.run_bind,run_underlying hu w];cases d<;>simp_all
theorem q71{t:TypeId}{z:Value}(hs:zeroT P t=some z)(w:World):(zeroValue t).run P w=.ok z w:=by
 unfold zeroT at hs;cases hi:P.info? t with
 |none=>simp[hi]at hs
 |some i=>simp[hi]at hs;simp[zeroValue,typeInfo,hi,hs]
def sw{α:Type}:Nat->Int->(Nat->Tr α)->Tr α
 |0,_,_=>.bad 1
 |n+1,i,k=>.br (decide (i=(n:Int))) (k n) (sw n i k)
def idx{α:Type}(closed:Bool)(n:Nat)(i:Int)(k:Nat->Tr α):Tr α:=
 bif closed then(bif decide (0<=i)&&decide (i<(n:Int))then k i.toNat else .bad 2)else sw n i k
theorem sw_ok{α:Type}{K:α->Prop}{i:Int}{k:Nat->Tr α}:∀{n:Nat},(sw n i k).Holds K->∃j,j<n/\i=(j:Int)/\(k j).Holds K
 |0,h=>h.elim
 |n+1,h=>by
  simp only[sw,Tr.Holds]at h;by_cases hi:i=(n:Int)
  .exact⟨n,Nat.lt_succ_self _,hi,h.1 (decide_eq_true hi)⟩
  .obtain⟨j,hj,e,hk⟩:=sw_ok (h.2 (decide_eq_false hi));exact⟨j,by omega,e,hk⟩
theorem idx_ok{α:Type}{K:α->Prop}{c:Bool}{n:Nat}{i:Int}{k:Nat->Tr α}(h:(idx c n i k).Holds K):∃j,j<n/\i=(j:Int)/\(k j).Holds K:=by
 unfold idx at h;cases c with
 |false=>exact sw_ok h
 |true=>
  simp only[cond_true]at h;by_cases hb:0<=i/\i<(n:Int)
  .rw[decide_eq_true hb.1,decide_eq_true hb.2]at h;exact⟨i.toNat,by omega,by omega,h⟩
  .have:(decide (0<=i)&&decide (i<(n:Int)))=false:=by
    rw[Bool.and_eq_false_iff,decide_eq_false_iff_not,decide_eq_false_iff_not];omega
   rw[this]at h;exact h.elim
theorem add_zero'(b o j:Nat):(⟨b,o,none⟩:Addr).add j=⟨b,o+j,none⟩:=by unfold Addr.add;split<;>simp_all
theorem q86{t:TypeId}{b o:Nat}{cs:List Value}(hc:∀j v,cs[j]?=some v->w.cell? ⟨b,o+j,none⟩=some v)(hsz:szOf P t=some cs.length)(ha:aggT P t=some true):
  (loadVar t ⟨b,o,none⟩).run P w=.ok (.agg cs.toArray) w:=by
 have hl:=run_loadCells_list (P:=P) w ⟨b,o,none⟩ cs (λj v hv=>by rw[add_zero'];exact hc j v hv);simp[loadVar,q4m ha,q0k hsz,hl]
theorem q72{t:TypeId}{b o:Nat}{v:Value}(hc:w.cell? ⟨b,o,none⟩=some v)(ha:aggT P t=some false):
  (loadVar t ⟨b,o,none⟩).run P w=.ok v w:=by
 simp[loadVar,q4m ha,hc]
def selC(z:Bool):List SV->List SV->List SV
 |a::r,b::r'=>joinV 9 z a b::selC z r r'
 |_,_=>[]
theorem q38(z:Bool):∀(a b:List SV),(selC z a b).length=min a.length b.length
 | [],[]=>rfl
 | [],_::_=>by simp[selC]
 |_::_,[]=>by simp[selC]
 |_::r,_::r'=>by simp only[selC,List.length_cons,q38 z r r'];omega
theorem qas{n:Nat}:∀{a b:List SV}{v:List Value},a.length<=b.length->SV.fits n ρ a v->SV.fits n ρ (selC true a b) v
 | [],b,v,_,h=>by have:=q0b h;subst this;cases b<;>trivial
 |s::r,[],v,hl,_=>by simp at hl
 |s::r,t::r',v,hl,h=>by
  obtain⟨x,v',rfl,hx,hr⟩:=q03 h;exact⟨(q36 9 s t).1 rfl x hx,qas (by simpa using hl) hr⟩
theorem qar{n:Nat}:∀{a b:List SV}{v:List Value},b.length<=a.length->SV.fits n ρ b v->SV.fits n ρ (selC false a b) v
 |a,[],v,_,h=>by have:=q0b h;subst this;cases a<;>trivial
 | [],s::r,v,hl,_=>by simp at hl
 |t::r',s::r,v,hl,h=>by
  obtain⟨x,v',rfl,hx,hr⟩:=q03 h;exact⟨(q36 9 t s).2 rfl x hx,qar (by simpa using hl) hr⟩
def _root_.Go.Sx.ElE.view:ElE->Nat->List SV
 | .fn f,k=>f k
 | .set e ys r,k=>selC (decide (k=e)) ys (r.view k)
 | .put e o ys r,k=>(ElE.put e o ys r).at k
 | .app l a b,k=>selC (decide (k<l)) (a.view k) (b.view (k-l))
 | .sh n r,k=>r.view (n+k)
 | .cond z a b,k=>selC z (a.view k) (b.view k)
theorem q4u:∀(E:ElE)(k:Nat),(E.view k).length<=(E.at k).length
 | .fn f,k=>Nat.le_refl _
 | .set e ys r,k=>by
  have:=q4u r k;simp only[ElE.view,ElE.at,q38];split<;>omega
 | .put e o ys r,k=>Nat.le_refl _
 | .app l a b,k=>by
  have:=q4u a k;have:=q4u b (k-l);simp only[ElE.view,ElE.at,q38];split<;>omega
 | .sh m r,k=>q4u r (m+k)
 | .cond z a b,k=>by
  have:=q4u a k;have:=q4u b k;simp only[ElE.view,ElE.at,q38];cases z<;>simp only[cond_true,cond_false]<;>omega
theorem q3s{n:Nat}{v:List Value}:∀(E:ElE)(k:Nat),SV.fits n ρ (E.at k) v->(E.view k).length=v.length->SV.fits n ρ (E.view k) v
 | .fn f,k,h,_=>h
 | .set e ys r,k,h,hl=>by
  have hle:=q4u r k;simp only[ElE.view,ElE.at,q38]at h hl ⊢;have hv:=q0a h;by_cases hk:k=e
  .rw[if_pos hk]at h hv;rw[decide_eq_true hk];exact qas (by omega) h
  .rw[if_neg hk]at h hv;rw[decide_eq_false hk];exact qar (by omega) (q3s r k h (by omega))
 | .put e o ys r,k,h,_=>h
 | .app l a b,k,h,hl=>by
  have hla:=q4u a k;have hlb:=q4u b (k-l);simp only[ElE.view,ElE.at,q38]at h hl ⊢;have hv:=q0a h;by_cases hk:k<l
  .rw[if_pos hk]at h hv;rw[decide_eq_true hk];exact qas (by omega) (q3s a k h (by omega))
  .rw[if_neg hk]at h hv;rw[decide_eq_false hk];exact qar (by omega) (q3s b (k-l) h (by omega))
 | .sh m r,k,h,hl=>q3s r (m+k) h hl
 | .cond z a b,k,h,hl=>by
  have hla:=q4u a k;have hlb:=q4u b k;simp only[ElE.view,ElE.at,q38]at h hl ⊢;have hv:=q0a h;cases z with
  |true=>exact qas (by simp only[cond_true]at h hv;omega) (q3s a k h (by simp only[cond_true]at h hv;omega))
  |false=>exact qar (by simp only[cond_false]at h hv;omega) (q3s b k h (by simp only[cond_false]at h hv;omega))
def loadS(P:Program)(h:SH)(t:TypeId)(a:SV):Tr (SV×SH):=
 match aggT P t,szOf P t with
 |some g,some n=>
  match a with
  | .p i o=>
   match h.get i with
   | .cells xs _=>
    match g with
    |true=>let ys:=(xs.drop o).take n;bif Nat.beq ys.length n then .ret (.agg ys,h)else .bad 10
    |false=>match xs[o]? with
     |some s=>.ret (s,h)
     |none=>.bad 11
   |_=>.bad 12
  | .pe i sz e o=>
   match h.get i with
   | .cells xs _=>
    bif Nat.blt 0 sz&&Nat.ble (o+n) xs.length then
     let cnt:=(xs.length-(o+n))/sz+1
     .ask (e<cnt) (match g with
      |true=>.ret (.agg (colsL e o sz cnt n xs),h)
      |false=>match colsL e o sz cnt n xs with
       | [s]=>.ret (s,h)
       |_=>.bad 19)
    else .bad 9
   | .row _ sz' el m=>
    bif Nat.beq sz sz'&&Nat.beq (el.view e).length sz then
    .ask (e<m) (match g with
    |true=>let ys:=((el.view e).drop o).take n;bif Nat.beq ys.length n then .ret (.agg ys,h)else .bad 13
    |false=>match(el.view e)[o]? with
     |some s=>.ret (s,h)
     |none=>.bad 14)
    else bif Nat.beq sz sz'&&Nat.beq (el.at e).length sz then
    .ask (e<m) (match g with
    |true=>let ys:=((el.at e).drop o).take n;bif Nat.beq ys.length n then .ret (.agg ys,h)else .bad 13
    |false=>match(el.at e)[o]? with
     |some s=>.ret (s,h)
     |none=>.bad 14)
    else .bad 15
   |_=>.bad 16
  | .pr xs=>
   match g with
   |true=>let ys:=(xs.drop 0).take n;bif Nat.beq ys.length n then .ret (.agg ys,h)else .bad 13
   |false=>match xs[0]? with
    |some s=>.ret (s,h)
    |none=>.bad 14
  |_=>.bad 17
 |_,_=>.bad 18
theorem q08{α:Type}{K:α->Prop}{c:Bool}{a:Tr α}{n:Nat}(h:(bif c then a else .bad n).Holds K):c=true/\a.Holds K:=by
 cases c with
 |true=>exact⟨rfl,h⟩
 |false=>exact h.elim
theorem cells_at{t:TypeId}{l:List Value}{b:Nat}(hb:w.heap[b]?=some (.cells l.toArray t (0,0)))(o:Nat):w.cell? ⟨b,o,none⟩=l[o]?:=by
 simp[World.cell?,hb]
def GoodR(P:Program)(ρ:Rh)(h:SH)(K:SV×SH->Prop)(s:Sem Value)(w:World):Prop:=∃sv x,K (sv,h)/\sv.fit h.nx ρ x/\s.run P w=.ok x w
theorem q9m{t:TypeId}{n:Nat}{g:Bool}(hag:aggT P t=some g)(hsz:szOf P t=some n){xs:List SV}{l:List Value}(hf:SV.fits h.nx ρ xs l){b base o:Nat}
  (hc:∀j v,l[j]?=some v->w.cell? ⟨b,base+j,none⟩=some v) {K:SV×SH->Prop} {e1 e2:Nat}
  (hK:Tr.Holds K (match g with
    |true=>let ys:=(xs.drop o).take n;bif Nat.beq ys.length n then .ret (.agg ys,h)else .bad e1
    |false=>match xs[o]? with
     |some s=>.ret (s,h)
     |none=>.bad e2:Tr (SV×SH))):GoodR P ρ h K (loadVar t ⟨b,base+o,none⟩) w:=by
 cases g with
 |true=>
  obtain⟨hlen,hK⟩:=q08 hK;have hlen':=q02 hlen;have hys:=q0g n (q0f o hf);have hl2:=q0a hys;refine⟨_,.agg ((l.drop o).take n).toArray,hK,⟨(l.drop o).take n,rfl,hys⟩,q86 (λj v hv=>?_) (by rw[hsz,<-hl2,hlen']) hag⟩
  have hj:j<n:=by
   have:=(List.getElem?_eq_some_iff.1 hv).1;simp at this;omega
  rw[List.getElem?_take,if_pos hj,List.getElem?_drop]at hv;have:=hc (o+j) v hv
  rwa [<-Nat.add_assoc]at this
 |false=>
  cases hx:xs[o]? with
  |none=>rw[hx]at hK;exact hK.elim
  |some s=>
   rw[hx]at hK;obtain⟨x,hx',hfx⟩:=q44 hf hx;exact⟨_,_,hK,hfx,q72 (hc o x hx') hag⟩
theorem read_ok{t:TypeId}{a:SV}{x:Value}(hm:HM M w0 ρ h w)(ha:a.fit h.nx ρ x){K:SV×SH->Prop}(hK:(loadS P h t a).Holds K):GoodR P ρ h K (Instr.loadAt t x) w:=by
 unfold loadS at hK;split at hK
 .rename_i g n hag hsz;split at hK
  .rename_i i o;split at hK
   .rename_i xs t' hg;simp only[SV.fit]at ha;obtain⟨hi,rfl⟩:=ha;have hfit:=hm.ob i;rw[hg]at hfit;obtain⟨_,hz,l,hob,hf⟩:=hfit;simp only[Instr.loadAt,Instr.sureAddr,pure_bind];refine q9m hag hsz hf (λj v hv=>?_) hK;rw[hz,Nat.zero_add,cells_at hob];exact hv
   .exact hK.elim
  .rename_i i sz e o;simp only[SV.fit]at ha;obtain⟨hi,rfl⟩:=ha;have hfit:=hm.ob i;split at hK
   .rename_i xs t' hg;obtain⟨hc,hK1⟩:=q08 hK;simp only[Bool.and_eq_true]at hc;have hsz0:0<sz:=Nat.le_of_ble_eq_true hc.1;have hon:=Nat.le_of_ble_eq_true hc.2;obtain⟨he,hK2⟩:=hK1;rw[hg]at hfit;obtain⟨_,hz,l,hob,hf⟩:=hfit
    have hmul:e*sz<=xs.length-(o+n):=by
     have h1:e<=(xs.length-(o+n))/sz:=by omega
     exact Nat.le_trans (Nat.mul_le_mul_right sz h1) (Nat.div_mul_le_self _ _)
    have hcols:=colsL_ok (o:=o) (sz:=sz) (k:=n) hf he (by omega)
    have hcells:∀j v,((l.drop (o+e*sz)).take n)[j]?=some v->w.cell? ⟨(ρ i).blk,(ρ i).off+e*sz+o+j,none⟩=some v:=λj v hv=>by
     rw[List.getElem?_take]at hv;split at hv
     .rw[List.getElem?_drop]at hv;rw[hz,cells_at hob];rw[<-hv];congr 1;omega
     .cases hv
    have hlen:((l.drop (o+e*sz)).take n).length=n:=by
     have:=q0a hcols;rw[<-this];simp[colsL]
    simp only[Instr.loadAt,Instr.sureAddr,pure_bind];cases g with
    |true=>
     exact⟨_,.agg ((l.drop (o+e*sz)).take n).toArray,hK2,⟨_,rfl,hcols⟩,q86 hcells (by rw[hlen];exact hsz) hag⟩
    |false=>
     simp only at hK2;split at hK2
     .rename_i s hs;rw[hs]at hcols;obtain⟨y,r,hyr,hy,hr⟩:=q03 hcols;refine⟨s,y,hK2,hy,q72 ?_ hag⟩;have:=hcells 0 y (by rw[hyr];rfl);simpa using this
     .exact hK2.elim
   .rename_i t' sz' el m hg;cases hc0:(Nat.beq sz sz'&&Nat.beq (el.view e).length sz)with
    |true=>
     rw[hc0]at hK;obtain⟨he,hK2⟩:=hK;simp only[Bool.and_eq_true]at hc0;have hsz':=q02 hc0.1;have hvl:=q02 hc0.2;subst hsz';rw[hg]at hfit;rcases hfit.2 with ⟨_,hfit⟩|⟨_,hoff,c,fz,hob,_,_,_,_,hall⟩
     .omega
     obtain⟨l,hl1,hl2,hl3⟩:=hall e he;simp only[Instr.loadAt,Instr.sureAddr,pure_bind];have hl2:=q3s el e hl2 (by omega);refine q9m hag hsz hl2 (λj v hv=>?_) hK2;simp only[World.cell?,hob,hoff];exact hl3 j v hv
    |false=>
     rw[hc0]at hK;obtain⟨hszz,hK1⟩:=q08 (show Tr.Holds K (bif _ then _ else .bad 15)from hK);obtain⟨he,hK2⟩:=hK1;simp only[Bool.and_eq_true]at hszz;have hsz':=q02 hszz.1;subst hsz';rw[hg]at hfit;rcases hfit.2 with ⟨_,hfit⟩|⟨_,hoff,c,fz,hob,_,_,_,_,hall⟩
     .omega
     obtain⟨l,hl1,hl2,hl3⟩:=hall e he;simp only[Instr.loadAt,Instr.sureAddr,pure_bind];refine q9m hag hsz hl2 (λj v hv=>?_) hK2;simp only[World.cell?,hob,hoff];exact hl3 j v hv
   .exact hK.elim
  .rename_i xs;simp only[SV.fit]at ha;obtain⟨b,o,cs,t',fz,rfl,hmem,vs,hvs,hc⟩:=ha;simp only[Instr.loadAt,Instr.sureAddr,pure_bind];have hob:=hm.fz _ _ hmem;refine q9m (o:=0) (base:=o) hag hsz hvs (λj v hv=>?_) hK;simp only[World.cell?,hob];exact hc j v hv
  .exact hK.elim
 .exact hK.elim
theorem load_ok{t:TypeId}{a:SV}{x:Value}(hm:HM M w0 ρ h w)(ha:a.fit h.nx ρ x){K:SV×SH->Prop}(hK:(loadS P h t a).Holds K):GoodV P M w0 ρ h K (Instr.loadAt t x) w:=by
 obtain⟨sv,y,h1,h2,h3⟩:=read_ok hm ha hK;exact GoodV.same hm h1 h2 h3
def splice(xs:List SV)(o:Nat)(ys:List SV):List SV:=xs.take o++ys++xs.drop (o+ys.length)
def storeS(P:Program)(h:SH)(t:TypeId)(a s:SV):Tr (SV×SH):=
 match szOf P t,a with
 |some n,.p i o=>
  match h.get i with
  | .cells xs t'=>
   let ys:=s.cells
   bif (s.one||s.aggy)&&Nat.beq ys.length n&&Nat.ble (o+n) xs.length&&ys.all SV.one then
    .ret (.u,h.setCs i o ys)
   else .bad 20
  |_=>.bad 21
 |some n,.pe i sz e o=>
  match h.get i with
  | .cells xs t'=>
   let ys:=s.cells
   bif (s.one||s.aggy)&&(Nat.beq ys.length n&&(Nat.blt 0 sz&&(Nat.ble (o+n) xs.length&&ys.all SV.one)))then
    let cnt:=(xs.length-(o+n))/sz+1
    .ask (e<cnt) (.ret (.u,h.set i (.cells (putAt e o sz ys cnt 0 xs) t')))
   else .bad 23
  | .row t' sz' el m=>
   let ys:=s.cells
   bif (s.one||s.aggy)&&(Nat.beq ys.length n&&(Nat.beq sz sz'&&(Nat.ble (o+n) sz&&ys.all SV.one)))then
    .ask (e<m) (.ret (.u,h.set i (.row t' sz' (bif Nat.beq o 0&&Nat.beq n sz then .set e ys el else .put e o ys el) m)))
   else .bad 25
  |_=>.bad 24
 |_,_=>.bad 22
def GoodU(P:Program)(M:Nat->Prop)(w0:World)(ρ:Rh)(h:SH)(K:SV×SH->Prop)(s:Sem Unit)(w:World):Prop:=
 ∃h' ρ' w',K (.u,h')/\h.nx<=h'.nx/\Agree h.nx ρ ρ'/\HM M w0 ρ' h' w'/\s.run P w=.ok () w'
theorem setRow_other(w:World)(g:Nat)(cs:Array Value)(j:Nat)(h:j≠g):(w.setRow g cs).heap[j]?=w.heap[j]?:=by
 simp only[World.setRow,Array.getElem?_modify];rw[if_neg (λe=>h e.symm)]
theorem q2r(P:Program)(g o:Nat)(t:TypeId)(fz:Nat×Nat):∀(vs:List Value)(i:Nat)(cur:Array Value)(w:World),w.heap[g]?=some (.cells cur t fz)->OkFz fz cur.size->o+i+vs.length<=cur.size->(∀v∈vs,v.oneCell'=true)->
  (storeCells ⟨g,o,none⟩ vs i).run P w=.ok () (w.setRow g (cur.toList.take (o+i)++vs++cur.toList.drop (o+i+vs.length)).toArray)
 | [],i,cur,w,hg,_,_,_=>by
  simp only[storeCells,List.append_nil,List.length_nil,Nat.add_zero,List.take_append_drop,Array.toArray_toList];rw[setRow_self w g cur t fz hg];rfl
 |v::rest,i,cur,w,hg,hfz,hl,h1=>by
  have hi:o+i<cur.size:=by simp at hl;omega
  have hadd:(⟨g,o,none⟩:Addr).add i=⟨g,o+i,none⟩:=by unfold Addr.add;split<;>simp_all
  have hcell:w.cell? ⟨g,o+i,none⟩=some cur[o+i]:=by simp[World.cell?,hg,hi]
  have hfro:w.frozen? ⟨g,o+i,none⟩=false:=by
   obtain⟨lo,hi'⟩:=fz;have:=hfz (o+i) hi;simp only[World.frozen?,hg];simp at this ⊢;exact this
  have hst:(store ((⟨g,o,none⟩:Addr).add i) v).run P w=.ok () (w.setRow g (cur.setIfInBounds (o+i) v)):=by
   rw[hadd,run_store P w _ v _ (h1 v (by simp)),hcell];simp[hfro,setCell_eq_setRow w g (o+i) cur t fz v hg]
  have ih:=q2r P g o t fz rest (i+1) (cur.setIfInBounds (o+i) v) (w.setRow g (cur.setIfInBounds (o+i) v)) (setRow_heap w g cur _ t _ hg) (by simpa using hfz) (by simp at hl ⊢;omega) (λx hx=>h1 x (by simp[hx]));simp only[storeCells,Sem.run_bind,hst,Result.andThen_ok,ih,setRow_setRow];congr 3;have e:=list_seg_step cur.toList (o+i) v rest (by simp at hl ⊢;omega);simpa [Array.toList_setIfInBounds,Nat.add_assoc]using e
theorem q4g{n:Nat}:∀{ss:List SV}{xs:List Value},SV.fits n ρ ss xs->ss.all SV.one=true->∀v∈xs,v.oneCell'=true
 | [],[],_,_,v,hv=>by simp at hv
 |s::ss,x::xs,hf,ha,v,hv=>by
  simp only[SV.fits]at hf;simp only[List.all_cons,Bool.and_eq_true]at ha;rcases List.mem_cons.1 hv with rfl|hv
  .exact SV.one_fit ha.1 hf.1
  .exact q4g hf.2 ha.2 v hv
 | [],_::_,hf,_,_,_=>by simp only[SV.fits]at hf
 |_::_,[],hf,_,_,_=>by simp only[SV.fits]at hf
theorem q92{n i o:Nat}{xs ys:List SV}{t':TypeId}(hg:h.get i=.cells xs t')(hm:HM M w0 ρ h w){cs:List Value}(hf:SV.fits h.nx ρ ys cs)(hlen:ys.length=n)
  (hle:o+n<=xs.length) (h1:ys.all SV.one=true) :
  ∃w',HM M w0 ρ (h.set i (.cells (splice xs o ys) t')) w'/\(storeCells ⟨(ρ i).blk,(ρ i).off+o,none⟩ cs).run P w=.ok () w':=by
 have hown:(h.get i).own (ρ i):=by rw[hg];trivial
 have hfit:=hm.ob i;rw[hg]at hfit;obtain⟨hnl,hz,l,hob,hfl⟩:=hfit;have hll:=q0a hfl;have hcl:=q0a hf;have hst:=run_storeCells_at P (ρ i).blk o t' cs 0 l.toArray w hob (by simp;omega) (q4g hf h1);rw[hz,Nat.zero_add];refine⟨_,?_,hst⟩;refine hm.setOwn hown trivial rfl rfl rfl (by simp[World.setRow]) (λj hj=>setRow_other _ _ _ _ hj) (setRow_heap w _ _ _ _ _ hob) ⟨hnl,hz,_,rfl,?_⟩;simp only[Nat.add_zero];have e1:=q0g o hfl;have e2:=q0f (o+ys.length) hfl;rw[hcl]at e2;unfold splice;rw[hcl];exact q0j (q0j e1 hf) e2
theorem storeVar_pe{n i o e sz:Nat}{xs ys xs':List SV}{t':TypeId}(hg:h.get i=.cells xs t')(hm:HM M w0 ρ h w){cs:List Value}(hf:SV.fits h.nx ρ ys cs)(hlen:ys.length=n)
  (hle:o+e*sz+n<=xs.length) (h1:ys.all SV.one=true) (hx:∀l,SV.fits h.nx ρ xs l->SV.fits h.nx ρ xs' (l.take (o+e*sz)++(cs++l.drop (o+e*sz+cs.length)))) :
  ∃w',HM M w0 ρ (h.set i (.cells xs' t')) w'/\(storeCells ⟨(ρ i).blk,(ρ i).off+e*sz+o,none⟩ cs).run P w=.ok () w':=by
 have hown:(h.get i).own (ρ i):=by rw[hg];trivial
 have hfit:=hm.ob i;rw[hg]at hfit;obtain⟨hnl,hz,l,hob,hfl⟩:=hfit;have hll:=q0a hfl;have hcl:=q0a hf;have hst:=run_storeCells_at P (ρ i).blk (o+e*sz) t' cs 0 l.toArray w hob (by simp;omega) (q4g hf h1);rw[hz,Nat.zero_add,Nat.add_comm (e*sz) o];refine⟨_,?_,hst⟩;refine hm.setOwn hown trivial rfl rfl rfl (by simp[World.setRow]) (λj hj=>setRow_other _ _ _ _ hj) (setRow_heap w _ _ _ _ _ hob) ⟨hnl,hz,_,rfl,?_⟩;simp only[Nat.add_zero];have:=hx l hfl;simpa using this
theorem storeVar_row{n i o e sz m:Nat}{ys:List SV}{el:ElE}{t':TypeId}(hg:h.get i=.row t' sz el m)(hm:HM M w0 ρ h w){cs:List Value}(hf:SV.fits h.nx ρ ys cs)(hlen:ys.length=n)
  (he:e<m) (hle:o+n<=sz) (h1:ys.all SV.one=true) :
  ∃w',HM M w0 ρ (h.set i (.row t' sz (.put e o ys el) m)) w'/\(storeCells ⟨(ρ i).blk,(ρ i).off+e*sz+o,none⟩ cs).run P w=.ok () w':=by
 have hfit:=hm.ob i;rw[hg]at hfit;obtain⟨hmx,⟨_,h0⟩|⟨hnl,hz,c,fz,hob,hfz,hcs,hmc,hcm,hall⟩⟩:=hfit
 .omega
 have hown:(h.get i).own (ρ i):=by rw[hg];exact hnl
 have hcl:=q0a hf
 have hb:e*sz+sz<=c.size:=by
  have:=Nat.mul_le_mul_right sz (show e+1<=(ρ i).cap by omega);rw[Nat.add_mul,Nat.one_mul]at this;omega
 have hst:=q2r P (ρ i).blk (e*sz+o) t' fz cs 0 c w hob hfz (by omega) (q4g hf h1);rw[hz,Nat.zero_add];refine⟨_,?_,hst⟩
 have hcc:∀q:Nat,(c.toList.take (e*sz+o+0)++cs++c.toList.drop (e*sz+o+0+cs.length))[q]?=if e*sz+o<=q/\q<e*sz+o+n then cs[q-(e*sz+o)]? else c[q]?:=λq=>by
  have l1:(c.toList.take (e*sz+o+0)).length=e*sz+o:=by rw[List.length_take,Array.length_toList];omega
  by_cases h2:q<e*sz+o
  .rw[if_neg (by omega),List.append_assoc,List.getElem?_append_left (by omega),List.getElem?_take,if_pos (by omega)];simp
  .by_cases h3:q<e*sz+o+n
   .rw[if_pos (by omega),List.append_assoc,List.getElem?_append_right (by omega),l1,List.getElem?_append_left (by omega)]
   .rw[if_neg (by omega),List.getElem?_append_right (by rw[List.length_append];omega),List.length_append,l1,List.getElem?_drop];rw[show e*sz+o+0+cs.length+(q-(e*sz+o+cs.length))=q by omega];simp
 refine hm.setOwn hown hnl rfl rfl rfl (by simp[World.setRow]) (λj hj=>setRow_other _ _ _ _ hj) (setRow_heap w _ _ _ _ _ hob) ⟨hmx,.inr ⟨hnl,hz,_,_,rfl,?_,?_,hmc,hcm,λk hk=>?_⟩⟩
 .intro q hq;refine hfz q ?_;simp only[List.size_toArray,List.length_append,List.length_take,List.length_drop,Array.length_toList]at hq;omega
 .rw[<-hcs];simp only[List.size_toArray,List.length_append,List.length_take,List.length_drop,Array.length_toList];omega
 .obtain⟨l,q1,q2,q3⟩:=hall k hk;have hat:(ElE.put e o ys el).at k=if k=e then(el k).take o++ys++(el k).drop (o+ys.length)else el k:=rfl
  rw[hat];by_cases hke:k=e
  .subst hke;rw[if_pos rfl];have hl2:=q0a q2;refine⟨l.take o++cs++l.drop (o+cs.length),by simp only[List.length_append,List.length_take,List.length_drop];omega,?_,λj x hx=>?_⟩
   .have e1:=q0g o q2;have e2:=q0f (o+ys.length) q2;rw[hcl]at e2;rw[hcl];exact q0j (q0j e1 hf) e2
   .rw[List.getElem?_toArray,Nat.zero_add,hcc];have hlo:(l.take o).length=o:=by rw[List.length_take];omega
    by_cases h2:j<o
    .rw[if_neg (by omega)];rw[List.append_assoc,List.getElem?_append_left (by omega),List.getElem?_take,if_pos h2]at hx;simpa using q3 j x hx
    .by_cases h3:j<o+n
     .rw[if_pos (by omega)];rw[List.append_assoc,List.getElem?_append_right (by omega),hlo,List.getElem?_append_left (by omega)]at hx;rw[show k*sz+j-(k*sz+o)=j-o by omega];exact hx
     .rw[if_neg (by omega)];rw[List.getElem?_append_right (by rw[List.length_append];omega),List.length_append,hlo,List.getElem?_drop,show o+cs.length+(j-(o+cs.length))=j by omega]at hx;simpa using q3 j x hx
  .rw[if_neg hke];refine⟨l,q1,q2,λj x hx=>?_⟩
   have hj:j<sz:=by
    have:=(List.getElem?_eq_some_iff.1 hx).1;omega
   rw[List.getElem?_toArray,Nat.zero_add,hcc,if_neg]
   .simpa using q3 j x hx
   .rintro⟨h2,h3⟩;rcases Nat.lt_or_gt_of_ne hke with h|h
    .have:=Nat.mul_le_mul_right sz (show k+1<=e by omega);rw[Nat.add_mul,Nat.one_mul]at this;omega
    .have:=Nat.mul_le_mul_right sz (show e+1<=k by omega);rw[Nat.add_mul,Nat.one_mul]at this;omega
theorem store_ok{t:TypeId}{a s:SV}{x y:Value}(hm:HM M w0 ρ h w)(ha:a.fit h.nx ρ x)(hs:s.fit h.nx ρ y){K:SV×SH->Prop}(hK:(storeS P h t a s).Holds K):GoodU P M w0 ρ h K (Instr.storeAt t x y) w:=by
 unfold storeS at hK;split at hK
 .rename_i n i o hsz;split at hK
  .rename_i xs t' hg;obtain⟨hc,hK⟩:=q08 hK;simp only[Bool.and_eq_true,Bool.or_eq_true]at hc;obtain⟨⟨⟨h1,h2⟩,h3⟩,h4⟩:=hc;have hlen:=q02 h2;have hle:=Nat.le_of_ble_eq_true h3;have hf:=q40 h1 hs;simp only[SV.fit]at ha;obtain⟨hi,rfl⟩:=ha;obtain⟨w',hm',hr⟩:=q92 (P:=P) hg hm hf hlen hle h4;refine⟨_,ρ,w',hK,Nat.le_of_eq (SH.setCs_nx _ _ _ _).symm,Agree.refl _ _,hm.setCs hg (by rw[hlen];exact hle) hm',?_⟩;have hcs:y.cells.size=n:=by rw[<-Array.length_toList,<-q0a hf,hlen]
   simp[Instr.storeAt,Instr.sureAddr,storeVar,q0k hsz,hcs,hr]
  .exact hK.elim
 .rename_i n i sz e o hsz;split at hK
  .rename_i xs t' hg;obtain⟨hc,hK⟩:=q08 hK;obtain⟨he,hK⟩:=hK;simp only[Bool.and_eq_true,Bool.or_eq_true]at hc;obtain⟨h1,h2,h3,h4,h5⟩:=hc;have hlen:=q02 h2;have hsz0:0<sz:=Nat.le_of_ble_eq_true h3;have hle:=Nat.le_of_ble_eq_true h4;have hf:=q40 h1 hs;simp only[SV.fit]at ha;obtain⟨hi,rfl⟩:=ha
   have hbound:∀q,q<(xs.length-(o+n))/sz+1->o+q*sz+n<=xs.length:=λq hq=>by
    have h1:q<=(xs.length-(o+n))/sz:=by omega
    have:=Nat.le_trans (Nat.mul_le_mul_right sz h1) (Nat.div_mul_le_self (xs.length-(o+n)) sz);omega
   obtain⟨w',hm',hr⟩:=storeVar_pe (P:=P) (sz:=sz) (e:=e) (o:=o) hg hm hf hlen (hbound e he) h5 λl hl=>by
    have:=putAt_ok (n:=h.nx) (ρ:=ρ) (e:=e) (o:=o) (sz:=sz) (l:=l) hf (cnt:=(xs.length-(o+n))/sz+1) (j:=0) (xs:=xs) (λq hq=>by rw[hlen];exact hbound q (by omega)) (by simpa using hl) (q0a hl).symm;rw[decide_eq_true (show e<0+((xs.length-(o+n))/sz+1) by omega)]at this;simpa using this
   refine⟨_,ρ,w',hK,Nat.le_refl _,Agree.refl _ _,hm',?_⟩;have hcs:y.cells.size=n:=by rw[<-Array.length_toList,<-q0a hf,hlen]
   simp[Instr.storeAt,Instr.sureAddr,storeVar,q0k hsz,hcs,hr]
  .rename_i t' sz' el m hg;obtain⟨hc,hK⟩:=q08 hK;obtain⟨he,hK⟩:=hK;simp only[Bool.and_eq_true,Bool.or_eq_true]at hc;obtain⟨h1,h2,h3,h4,h5⟩:=hc;have hlen:=q02 h2;have hsz0:=q02 h3;subst hsz0;have hle:=Nat.le_of_ble_eq_true h4;have hf:=q40 h1 hs;simp only[SV.fit]at ha;obtain⟨hi,rfl⟩:=ha;obtain⟨w',hm',hr⟩:=storeVar_row (P:=P) hg hm hf hlen he hle h5
   have hm'':HM M w0 ρ (h.set i (.row t' sz (bif Nat.beq o 0&&Nat.beq n sz then .set e s.cells el else .put e o s.cells el) m)) w':=by
    cases hb:Nat.beq o 0&&Nat.beq n sz with
    |false=>exact hm'
    |true=>
     simp only[Bool.and_eq_true]at hb;have ho:=q02 hb.1;have hn:=q02 hb.2;subst ho;refine hm'.weaken (Nat.le_refl _) λj=>?_;rw[SH.get_set,SH.get_set];by_cases hji:j=i
     .subst hji;rw[if_pos rfl,if_pos rfl];refine .inr ⟨rfl,λh=>h,λ_ h=>(by cases h),λo' hf'=>⟨hf'.1,?_⟩⟩;rcases hf'.2 with h2|⟨q1,q2,c,fz,q3,q3',q4,q5,q6,q7⟩
      .exact .inl h2
      .refine .inr ⟨q1,q2,c,fz,q3,q3',q4,q5,q6,λk hk=>?_⟩;obtain⟨l,r1,r2,r3⟩:=q7 k hk;refine⟨l,r1,?_,r3⟩;simp only[cond_true,ElE.at]at r2 ⊢;by_cases hke:k=e
       .rw[if_pos hke]at r2 ⊢;have hl:=q0a r2;simp only[List.take_zero,List.nil_append,List.length_append,List.length_drop,Nat.zero_add]at hl r2;have:(el.at k).drop s.cells.length=[]:=List.eq_nil_of_length_eq_zero (by rw[List.length_drop];omega);rw[this,List.append_nil]at r2;exact r2
       .rw[if_neg hke]at r2 ⊢;exact r2
     .rw[if_neg hji,if_neg hji];cases hg:h.get j with
      |dead=>exact .inl rfl
      |_=>exact .inr ⟨rfl,λh=>h,λ_ h=>h,λ_ h=>h⟩
   refine⟨_,ρ,w',hK,Nat.le_refl _,Agree.refl _ _,hm'',?_⟩;have hcs:y.cells.size=n:=by rw[<-Array.length_toList,<-q0a hf,hlen]
   simp[Instr.storeAt,Instr.sureAddr,storeVar,q0k hsz,hcs,hr]
  .exact hK.elim
 .exact hK.elim
def boxS(h:SH)(t:TypeId)(s:SV):Tr (SV×SH):=
 bif s.one||s.aggy then .ret (.p h.nx 0,h.push (.cells s.cells t))else .bad 30
theorem newCells_ok{t:TypeId}{xs:List SV}{cs:List Value}(hm:HM M w0 ρ h w)(hf:SV.fits h.nx ρ xs cs){K:SV×SH->Prop}(hK:K (.p h.nx 0,h.push (.cells xs t))):
  GoodV P M w0 ρ h K (do pure (.pointer (some (<-newRow t cs.toArray)))) w:=by
 refine⟨_,_,upd ρ h.nx ⟨w.heap.size,0,0,false⟩,.pointer (some ⟨w.heap.size,0,none⟩),w.alloc (.cells cs.toArray t),hK,Nat.le_succ _,q0r _ _ _,hm.push ⟨rfl,rfl,cs,rfl,hf⟩,?_,?_⟩
 .simp[SV.fit,SH.push,upd]
 .simp[newRow]
theorem box_ok{t:TypeId}{s:SV}{y:Value}(hm:HM M w0 ρ h w)(hs:s.fit h.nx ρ y){K:SV×SH->Prop}(hK:(boxS h t s).Holds K):GoodV P M w0 ρ h K (Instr.box t y) w:=by
 obtain⟨hc,hK⟩:=q08 hK;have hf:=q40 (by simpa [Bool.or_eq_true]using hc) hs;have:=newCells_ok (P:=P) (t:=t) hm hf hK;simpa [Instr.box,newVar]using this
def allocS(P:Program)(h:SH)(t:TypeId):Tr (SV×SH):=
 match zeroT P t with
 |some z=>.ret (.p h.nx 0,h.push (.cells (z.cells.toList.map .k) t))
 |none=>.bad 31
theorem alloc_ok{t:TypeId}(hm:HM M w0 ρ h w){K:SV×SH->Prop}(hK:(allocS P h t).Holds K):GoodV P M w0 ρ h K (Instr.alloc t true (.tuple #[])) w:=by
 unfold allocS at hK;split at hK
 .rename_i z hz;obtain⟨sv,h',ρ',x,w',h1,h2,h3,h4,h5,h6⟩:=newCells_ok (P:=P) (t:=t) hm (q6v z.cells.toList) hK;refine⟨sv,h',ρ',x,w',h1,h2,h3,h4,h5,?_⟩;rw[<-h6];simp[Instr.alloc,q71 hz,newVar]
 .exact hK.elim
end
end Go.Sx
