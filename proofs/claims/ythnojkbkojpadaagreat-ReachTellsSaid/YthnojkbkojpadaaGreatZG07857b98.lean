/- The least of a list, in order: plain laws. -/
import Derived.Test.YthnojkbkojpadaaGreatZG0687ac95
import Derived.Test.YthnojkbkojpadaaGreatZG05ed7749
set_option linter.unusedVariables false
set_option linter.unusedSimpArgs false
set_option linter.constructorNameAsVariable false
set_option linter.all false

namespace Go.Lp
open Go.Sx Go.Sort
variable [Env]
theorem filter_lt' {α:Type} {p q:α→Bool} (hpq:∀ x,p x=true→q x=true):∀ {l:List α} {z:α},z∈l→q z=true→p z=false→(l.filter p).length<(l.filter q).length
 | x :: l,z,hz,h1,h2=>by
  have hle:∀ l:List α,(l.filter p).length≤(l.filter q).length:=fun l=>by
   induction l with
   | nil=>simp
   | cons y l ih=>
    rw[List.filter_cons,List.filter_cons]
    cases hp:p y with
    | true=>rw[hpq y hp];simp;exact ih
    | false=>cases q y <;> simp <;> omega
  rw[List.filter_cons,List.filter_cons]
  rcases List.mem_cons.1 hz with rfl | hz
  ·rw[h1,h2]
   have:=hle l
   simp;omega
  ·have ih:=filter_lt' hpq hz h1 h2
   cases hp:p x with
   | true=>rw[hpq x hp];simp;exact ih
   | false=>cases q x <;> simp <;> omega
theorem least_below' {α:Type} (R:α→α→Bool) (hi:∀ x,R x x=false) (ht:∀ x y z,R x y=true→R y z=true→R x z=true) (l:List α):∀ (n:Nat) (y:α),y∈l→(l.filter (R · y)).length≤n→∃ m,m∈l∧(∀ z∈l,R z m=false)∧(m=y∨R m y=true):=by
 intro n
 induction n with
 | zero=>
  intro y hy hn
  refine ⟨y,hy,fun z hz=>?_,.inl rfl⟩
  cases h:R z y with
  | false=>rfl
  | true=>
   have:z∈l.filter (R · y):=List.mem_filter.2 ⟨hz,h⟩
   rw[List.length_eq_zero_iff.1 (Nat.le_zero.1 hn)] at this
   cases this
 | succ n ih=>
  intro y hy hn
  by_cases h:∃ z∈l,R z y=true
  ·obtain ⟨z,hz,hzy⟩:=h
   have:=filter_lt' (p:=(R · z)) (q:=(R · y)) (fun x hx=>ht x z y hx hzy) hz hzy (hi z)
   obtain ⟨m,h1,h2,h3⟩:=ih z hz (by omega)
   refine ⟨m,h1,h2,.inr ?_⟩
   rcases h3 with rfl | h3
   ·exact hzy
   ·exact ht _ _ _ h3 hzy
  ·refine ⟨y,hy,fun z hz=>?_,.inl rfl⟩
   cases h5:R z y with
   | false=>rfl
   | true=>exact absurd ⟨z,hz,h5⟩ h
section
variable {α:Type} [DecidableEq α] {cf:α→α→Int} {le:α→α→Bool}
structure PO (cf:α→α→Int) (le:α→α→Bool):Prop where
 trans:∀ x y z,le x y=true→le y z=true→le x z=true
 anti:∀ x y,le x y=true→le y x=true→x=y
 ext:∀ x y,le x y=true→x≠y→cf x y<0
def isMin (le:α→α→Bool) (l:List α) (t:α):Bool:=!(l.any fun u=>decide (u≠t)&&le u t)
theorem q4h {l:List α} {t:α}:isMin le l t=true↔∀ u∈l,le u t=true→u=t:=by
 unfold isMin
 rw[Bool.not_eq_true',List.any_eq_false]
 constructor
 ·intro h u hu hle
  have:=h u hu
  rw[hle] at this
  simpa using this
 ·intro h u hu hc
  simp only[Bool.and_eq_true,decide_eq_true_eq] at hc
  exact hc.1 (h u hu hc.2)
def mins (cf:α→α→Int) (le:α→α→Bool) (l:List α):List α:=(q8q cf l).filter (isMin le l)
theorem q5e (h:TO cf) (l:List α):(q8q cf l).Pairwise (fun x y=>cf x y<0):=(q7g h (xs:=l) (l:=[]) List.Pairwise.nil).1
theorem q9k (h:TO cf) {l:List α} {x:α}:x∈q8q cf l↔x∈l:=by
 have:=(q7g h (xs:=l) (l:=[]) List.Pairwise.nil).2 x
 unfold q8q
 rw[this];simp
theorem qhr (h:TO cf) {l:List α} {x:α}:x∈mins cf le l↔x∈l∧∀ u∈l,le u x=true→u=x:=by
 unfold mins
 rw[List.mem_filter,q9k h,q4h]
theorem qm3 (h:TO cf) (l:List α):(mins cf le l).Pairwise (fun x y=>cf x y<0):=(q5e h l).filter _
theorem qld (p:PO cf le) {l:List α} {y:α} (hy:y∈l):∃ m∈l,(∀ u∈l,le u m=true→u=m)∧(m=y∨le m y=true):=by
 obtain ⟨m,h1,h2,h3⟩:=least_below' (fun x y=>decide (x≠y)&&le x y) (fun x=>by simp) (fun x y z h1 h2=>by
  simp only[Bool.and_eq_true,decide_eq_true_eq] at *
  refine ⟨fun e=>?_,p.trans _ _ _ h1.2 h2.2⟩
  subst e
  exact h1.1 (p.anti _ _ h1.2 h2.2)) l _ y hy (Nat.le_refl _)
 refine ⟨m,h1,fun u hu hle=>?_,?_⟩
 ·have:=h2 u hu
  simp only[hle,Bool.and_true,decide_eq_false_iff_not,Classical.not_not] at this
  exact this
 ·rcases h3 with h3 | h3
  ·exact .inl h3
  ·simp only[Bool.and_eq_true] at h3
   exact .inr h3.2
theorem mins_cover (h:TO cf) (p:PO cf le) {l:List α} {t:α}:(mins cf le l).any (le · t)=l.any (le · t):=by
 rw[Bool.eq_iff_iff,List.any_eq_true,List.any_eq_true]
 constructor
 ·rintro ⟨u,hu,hle⟩
  exact ⟨u,((qhr h).1 hu).1,hle⟩
 ·rintro ⟨u,hu,hle⟩
  obtain ⟨m,h1,h2,h3⟩:=qld p hu
  refine ⟨m,(qhr h).2 ⟨h1,h2⟩,?_⟩
  rcases h3 with rfl | h3
  ·exact hle
  ·exact p.trans _ _ _ h3 hle
def qd7 (le:α→α→Bool):List α→List α→List α
 | out,[]=>out
 | out,t :: r=>qd7 le (bif out.any (le · t) then out else out++[t]) r
theorem qkm (p:PO cf le) (h:TO cf) {L:List α} (hs:L.Pairwise (fun x y=>cf x y<0)):∀ (r P:List α),L=P++r→qd7 le (P.filter (isMin le L)) r=L.filter (isMin le L)
 | [],P,e=>by
  rw[List.append_nil] at e
  subst e;rfl
 | t :: r,P,e=>by
  have ht:t∈L:=by rw[e];simp
  have hP:∀ u∈P,cf u t<0:=fun u hu=>by
   rw[e,List.pairwise_append] at hs
   exact hs.2.2 u hu t (List.mem_cons_self ..)
  have hr:∀ u∈r,cf t u<0:=fun u hu=>by
   rw[e,List.pairwise_append,List.pairwise_cons] at hs
   exact hs.2.1.1 u hu
  have hany:(P.filter (isMin le L)).any (le · t)=!isMin le L t:=by
   cases hm:isMin le L t with
   | true=>
    rw[Bool.not_true,List.any_eq_false]
    intro u hu hle
    have huP:=(List.mem_filter.1 hu).1
    have:=q4h.1 hm u (by rw[e];exact List.mem_append_left _ huP) hle
    subst this
    exact h.irrefl _ (hP _ huP)
   | false=>
    rw[Bool.not_false,List.any_eq_true]
    obtain ⟨m,h1,h2,h3⟩:=qld p ht
    have hne:m≠t:=fun e'=>by
     subst e'
     have:=q4h.2 h2
     rw[hm] at this;cases this
    have hle:le m t=true:=h3.resolve_left hne
    have hlt:=p.ext m t hle hne
    refine ⟨m,List.mem_filter.2 ⟨?_,q4h.2 h2⟩,hle⟩
    rw[e] at h1
    rcases List.mem_append.1 h1 with h1 | h1
    ·exact h1
    ·rcases List.mem_cons.1 h1 with h1 | h1
     ·exact absurd h1 hne
     ·exact absurd hlt (h.asymm (hr m h1))
  have e2:L=(P++[t])++r:=by rw[e];simp
  have ih:=qkm p h hs r (P++[t]) e2
  simp only[qd7]
  rw[hany]
  rw[List.filter_append] at ih
  cases hm:isMin le L t with
  | true=>
   rw[show List.filter (isMin le L) [t]=[t] by simp[List.filter_cons,hm]] at ih
   simpa using ih
  | false=>
   rw[show List.filter (isMin le L) [t]=[] by simp[List.filter_cons,hm]] at ih
   simpa using ih
theorem qmb {l l':List α} (he:∀ x,x∈l↔x∈l') (t:α):isMin le l t=isMin le l' t:=by
 rw[Bool.eq_iff_iff,q4h,q4h]
 exact ⟨fun h u hu=>h u ((he u).2 hu),fun h u hu=>h u ((he u).1 hu)⟩
theorem qmi (p:PO cf le) (h:TO cf) (l:List α):qd7 le [] (compL (srtBy cf l))=mins cf le l:=by
 rw[sorted_put h]
 have:=qkm p h (q5e h l) (q8q cf l) [] rfl
 simp only[List.filter_nil] at this
 rw[this]
 unfold mins
 congr 1
 funext t
 exact qmb (fun x=>q9k h) t
theorem mins_put (h:TO cf) (l:List α):mins cf le l=q8q cf (l.filter (isMin le l)):=by
 refine q5c h (qm3 h l) (q5e h _) fun x=>?_
 rw[q9k h,qhr h,List.mem_filter,q4h]
end
end Go.Lp

namespace Go.Lp
open Go.Sx
variable [Env]
section
variable {α β:Type}
theorem drop_at (d:α) {xs:List α} {i:Nat} (h:i<xs.length):xs.drop i=xs.getD i d :: xs.drop (i+1):=by
 rw[List.drop_eq_getElem_cons h]
 simp[List.getD_eq_getElem?_getD,h]
abbrev ErG (α:Type):=List α×Int×Int×Unit×Int
def erF (x:Nat) (d:α) (p:α→Bool) (c:Int) (g:ErG α):Ex×ErG α:=
 bif decide (g.2.2.1<g.2.1) then
  bif p (g.1.getD g.2.2.1.toNat d) then (.ret,g.1,g.2.1,g.2.2.1,(),c) else (.normal,g.1,g.2.1,w64 (g.2.2.1+1),(),g.2.2.2.2)
 else (.exit x,g)
def erI (g:ErG α):List Prop:=[g.2.1=(g.1.length:Int)∧g.1.length≤maxLen∧0≤g.2.2.1∧g.2.2.1≤(g.1.length:Int)]
def erM (g:ErG α):Nat:=(g.2.1 - g.2.2.1).toNat
theorem er_goes (x:Nat) (d:α) (p:α→Bool) (c:Int):Goes (erF x d p c) erM fun g=>allP (erI g):=by
 rintro ⟨xs,n,i,⟨⟩,e⟩ hi hn
 obtain ⟨h1,h2,h3,h4⟩:=hi _ (List.mem_cons_self ..)
 simp only at h1 h2 h3 h4
 unfold maxLen at h2
 unfold erF at hn ⊢
 simp only at hn ⊢
 by_cases hlt:i<n
 ·simp only[hlt,decide_true,cond_true] at hn ⊢
  cases hp:p (xs.getD i.toNat d) with
  | true=>rw[hp] at hn;cases hn
  | false=>
   simp only[cond_false]
   rw[wr (by omega)]
   refine ⟨fun q hq=>?_,?_⟩
   ·simp only[erI,List.mem_singleton] at hq
    subst hq
    exact ⟨h1,by unfold maxLen;omega,by show (0:Int)≤i+1;omega,by show i+1≤(xs.length:Int);omega⟩
   ·simp only[erM];omega
 ·simp only[hlt,decide_false,cond_false] at hn
  cases hn
theorem er_run (x:Nat) (d:α) (p:α→Bool) (c:Int):∀ g:ErG α,allP (erI g) →
  (((loopF (erF x d p c) erM g).1=.ret∧(loopF (erF x d p c) erM g).2.2.2.2.2=c∧(loopF (erF x d p c) erM g).2.1=g.1∧(g.1.drop g.2.2.1.toNat).any p=true) ∨
   ((loopF (erF x d p c) erM g).1=.exit x∧(loopF (erF x d p c) erM g).2.2.2.2.2=g.2.2.2.2∧(loopF (erF x d p c) erM g).2.1=g.1∧(g.1.drop g.2.2.1.toNat).any p=false)):=by
 refine q17 (er_goes x d p c) (Q:=fun g r=>((r.1=.ret∧r.2.2.2.2.2=c∧r.2.1=g.1∧(g.1.drop g.2.2.1.toNat).any p=true)∨(r.1=.exit x∧r.2.2.2.2.2=g.2.2.2.2∧r.2.1=g.1∧(g.1.drop g.2.2.1.toNat).any p=false))) ?_ ?_
 ·rintro ⟨xs,n,i,⟨⟩,e⟩ hi hn
  obtain ⟨h1,h2,h3,h4⟩:=hi _ (List.mem_cons_self ..)
  simp only at h1 h2 h3 h4
  unfold erF at hn ⊢
  simp only at hn ⊢
  by_cases hlt:i<n
  ·simp only[hlt,decide_true,cond_true] at hn ⊢
   have hlt':i.toNat<xs.length:=by omega
   cases hp:p (xs.getD i.toNat d) with
   | true=>
    left
    simp only[cond_true]
    refine ⟨trivial,trivial,trivial,?_⟩
    rw[drop_at d hlt',List.any_cons,hp];rfl
   | false=>rw[hp] at hn;exact absurd rfl hn
  ·right
   simp only[hlt,decide_false,cond_false]
   refine ⟨trivial,trivial,trivial,?_⟩
   rw[List.drop_eq_nil_of_le (by omega)];rfl
 ·rintro ⟨xs,n,i,⟨⟩,e⟩ g' r hi he hi' _ hq
  obtain ⟨h1,h2,h3,h4⟩:=hi _ (List.mem_cons_self ..)
  simp only at h1 h2 h3 h4
  unfold maxLen at h2
  unfold erF at he
  simp only at he
  by_cases hlt:i<n
  ·simp only[hlt,decide_true,cond_true] at he
   have hlt':i.toNat<xs.length:=by omega
   cases hp:p (xs.getD i.toNat d) with
   | true=>rw[hp] at he;cases he
   | false=>
    rw[hp] at he
    simp only[cond_false,Prod.mk.injEq,true_and] at he
    subst he
    simp only at hq ⊢
    rw[wr (by omega)] at hq
    rw[drop_at d hlt',List.any_cons,hp,Bool.false_or]
    have:(i+1).toNat=i.toNat+1:=by omega
    rw[this] at hq
    exact hq
  ·simp only[hlt,decide_false,cond_false] at he
   cases he
theorem er_any (x:Nat) (d:α) (p:α→Bool) (c:Int) (xs:List α) (e:Int) (h:xs.length≤maxLen) :
  exB .ret (loopF (erF x d p c) erM (xs,(xs.length:Int),0,(),e)).1=xs.any p∧(loopF (erF x d p c) erM (xs,(xs.length:Int),0,(),e)).2.2.2.2.2=(bif xs.any p then c else e):=by
 have h0:allP (erI ((xs,(xs.length:Int),(0:Int),(),e):ErG α)):=fun q hq=>by
  simp only[erI,List.mem_singleton] at hq
  subst hq
  exact ⟨trivial,h,Int.le_refl _,by show (0:Int)≤(xs.length:Int);omega⟩
 rcases er_run x d p c _ h0 with ⟨h1,h2,_,h3⟩ | ⟨h1,h2,_,h3⟩
 ·have h4:(xs.drop 0).any p=true:=h3
  rw[List.drop_zero] at h4
  rw[h1,h2,h4];exact ⟨rfl,rfl⟩
 ·have h4:(xs.drop 0).any p=false:=h3
  rw[List.drop_zero] at h4
  rw[h1,h2,h4];exact ⟨rfl,rfl⟩
abbrev FlG (α β:Type):=List α×β×List α×Int×Int×Unit×Int
def flF (x:Nat) (d:α) (bad:List α→α→Bool) (step:List α→β→α→β) (c:Int) (g:FlG α β):Ex×FlG α β:=
 bif decide (g.2.2.2.2.1<g.2.2.2.1) then
  bif bad g.1 (g.2.2.1.getD g.2.2.2.2.1.toNat d) then (.ret,g.1,g.2.1,g.2.2.1,g.2.2.2.1,g.2.2.2.2.1,(),c)
  else (.normal,g.1,step g.1 g.2.1 (g.2.2.1.getD g.2.2.2.2.1.toNat d),g.2.2.1,g.2.2.2.1,w64 (g.2.2.2.2.1+1),(),g.2.2.2.2.2.2)
 else (.exit x,g)
def flI (ok:List α→β→Nat→Prop) (g:FlG α β):List Prop:=[g.2.2.2.1=(g.1.length:Int)∧g.2.2.1=g.1∧g.1.length≤maxLen∧0≤g.2.2.2.2.1∧g.2.2.2.2.1≤(g.1.length:Int)∧ok g.1 g.2.1 g.2.2.2.2.1.toNat]
def flM (g:FlG α β):Nat:=(g.2.2.2.1 - g.2.2.2.2.1).toNat
section
variable (x:Nat) (d:α) (bad:List α→α→Bool) (step:List α→β→α→β) (c:Int) (ok:List α→β→Nat→Prop)
variable (hok:∀ xs b i,i<xs.length→ok xs b i→ok xs (step xs b (xs.getD i d)) (i+1))
include hok
theorem fl_goes:Goes (flF x d bad step c) flM fun g=>allP (flI ok g):=by
 rintro ⟨xs,b,ys,n,i,⟨⟩,e⟩ hi hn
 obtain ⟨h1,h0,h2,h3,h4,h5⟩:=hi _ (List.mem_cons_self ..)
 simp only at h1 h0 h2 h3 h4 h5
 subst h0
 have h2':=h2
 unfold maxLen at h2
 unfold flF at hn ⊢
 simp only at hn ⊢
 by_cases hlt:i<n
 ·simp only[hlt,decide_true,cond_true] at hn ⊢
  cases hp:bad ys (ys.getD i.toNat d) with
  | true=>rw[hp] at hn;cases hn
  | false=>
   simp only[cond_false]
   rw[wr (by omega)]
   refine ⟨fun q hq=>?_,?_⟩
   ·simp only[flI,List.mem_singleton] at hq
    subst hq
    refine ⟨h1,trivial,h2',by show (0:Int)≤i+1;omega,by show i+1≤(ys.length:Int);omega,?_⟩
    have:=hok ys b i.toNat (by omega) h5
    have e1:(i+1).toNat=i.toNat+1:=by omega
    rw[e1];exact this
   ·simp only[flM];omega
 ·simp only[hlt,decide_false,cond_false] at hn
  cases hn
theorem fl_run:∀ g:FlG α β,allP (flI ok g) →
  (((loopF (flF x d bad step c) flM g).1=.ret∧(loopF (flF x d bad step c) flM g).2.2.2.2.2.2.2=c∧(g.1.drop g.2.2.2.2.1.toNat).any (bad g.1)=true) ∨
   ((loopF (flF x d bad step c) flM g).1=.exit x∧(loopF (flF x d bad step c) flM g).2.2.2.2.2.2.2=g.2.2.2.2.2.2∧(loopF (flF x d bad step c) flM g).2.1=g.1∧(loopF (flF x d bad step c) flM g).2.2.1=(g.1.drop g.2.2.2.2.1.toNat).foldl (step g.1) g.2.1∧ok g.1 (loopF (flF x d bad step c) flM g).2.2.1 g.1.length∧(g.1.drop g.2.2.2.2.1.toNat).any (bad g.1)=false)):=by
 refine q17 (fl_goes x d bad step c ok hok) (Q:=fun g r=>((r.1=.ret∧r.2.2.2.2.2.2.2=c∧(g.1.drop g.2.2.2.2.1.toNat).any (bad g.1)=true) ∨
   (r.1=.exit x∧r.2.2.2.2.2.2.2=g.2.2.2.2.2.2∧r.2.1=g.1∧r.2.2.1=(g.1.drop g.2.2.2.2.1.toNat).foldl (step g.1) g.2.1∧ok g.1 r.2.2.1 g.1.length∧(g.1.drop g.2.2.2.2.1.toNat).any (bad g.1)=false))) ?_ ?_
 ·rintro ⟨xs,b,ys,n,i,⟨⟩,e⟩ hi hn
  obtain ⟨h1,h0,h2,h3,h4,h5⟩:=hi _ (List.mem_cons_self ..)
  simp only at h1 h0 h2 h3 h4 h5
  subst h0
  unfold flF at hn ⊢
  simp only at hn ⊢
  by_cases hlt:i<n
  ·simp only[hlt,decide_true,cond_true] at hn ⊢
   have hlt':i.toNat<ys.length:=by omega
   cases hp:bad ys (ys.getD i.toNat d) with
   | true=>
    left
    simp only[cond_true]
    refine ⟨trivial,trivial,?_⟩
    rw[drop_at d hlt',List.any_cons,hp];rfl
   | false=>rw[hp] at hn;exact absurd rfl hn
  ·right
   simp only[hlt,decide_false,cond_false]
   have e1:i.toNat=ys.length:=by omega
   refine ⟨trivial,trivial,trivial,?_,?_,?_⟩
   ·rw[List.drop_eq_nil_of_le (by omega)];rfl
   ·rw[← e1];exact h5
   ·rw[List.drop_eq_nil_of_le (by omega)];rfl
 ·rintro ⟨xs,b,ys,n,i,⟨⟩,e⟩ g' r hi he hi' _ hq
  obtain ⟨h1,h0,h2,h3,h4,h5⟩:=hi _ (List.mem_cons_self ..)
  simp only at h1 h0 h2 h3 h4 h5
  subst h0
  unfold maxLen at h2
  unfold flF at he
  simp only at he
  by_cases hlt:i<n
  ·simp only[hlt,decide_true,cond_true] at he
   have hlt':i.toNat<ys.length:=by omega
   cases hp:bad ys (ys.getD i.toNat d) with
   | true=>rw[hp] at he;cases he
   | false=>
    rw[hp] at he
    simp only[cond_false,Prod.mk.injEq,true_and] at he
    subst he
    simp only at hq ⊢
    rw[wr (by omega)] at hq
    rw[drop_at d hlt',List.any_cons,hp,Bool.false_or,List.foldl_cons]
    have:(i+1).toNat=i.toNat+1:=by omega
    rw[this] at hq
    exact hq
  ·simp only[hlt,decide_false,cond_false] at he
   cases he
end
abbrev Er2G (α:Type):=List α×Int×Unit×Int
def er2F (x:Nat) (d:α) (p:α→Bool) (c:Int) (g:Er2G α):Ex×Er2G α:=
 bif decide (g.2.1<(g.1.length:Int)) then
  bif p (g.1.getD g.2.1.toNat d) then (.ret,g.1,g.2.1,(),c) else (.normal,g.1,w64 (g.2.1+1),(),g.2.2.2)
 else (.exit x,g)
def er2I (g:Er2G α):List Prop:=[g.1.length≤maxLen∧0≤g.2.1∧g.2.1≤(g.1.length:Int)]
def er2M (g:Er2G α):Nat:=((g.1.length:Int) - g.2.1).toNat
theorem qov (x:Nat) (d:α) (p:α→Bool) (c:Int):Goes (er2F x d p c) er2M fun g=>allP (er2I g):=by
 rintro ⟨xs,i,⟨⟩,e⟩ hi hn
 obtain ⟨h2,h3,h4⟩:=hi _ (List.mem_cons_self ..)
 simp only at h2 h3 h4
 unfold maxLen at h2
 unfold er2F at hn ⊢
 simp only at hn ⊢
 by_cases hlt:i<(xs.length:Int)
 ·simp only[hlt,decide_true,cond_true] at hn ⊢
  cases hp:p (xs.getD i.toNat d) with
  | true=>rw[hp] at hn;cases hn
  | false=>
   simp only[cond_false]
   rw[wr (by omega)]
   refine ⟨fun q hq=>?_,?_⟩
   ·simp only[er2I,List.mem_singleton] at hq
    subst hq
    exact ⟨by unfold maxLen;omega,by show (0:Int)≤i+1;omega,by show i+1≤(xs.length:Int);omega⟩
   ·simp only[er2M];omega
 ·simp only[hlt,decide_false,cond_false] at hn
  cases hn
theorem er2_run (x:Nat) (d:α) (p:α→Bool) (c:Int):∀ g:Er2G α,allP (er2I g) →
  (((loopF (er2F x d p c) er2M g).1=.ret∧(loopF (er2F x d p c) er2M g).2.2.2.2=c∧(loopF (er2F x d p c) er2M g).2.1=g.1∧(g.1.drop g.2.1.toNat).any p=true) ∨
   ((loopF (er2F x d p c) er2M g).1=.exit x∧(loopF (er2F x d p c) er2M g).2.2.2.2=g.2.2.2∧(loopF (er2F x d p c) er2M g).2.1=g.1∧(g.1.drop g.2.1.toNat).any p=false)):=by
 refine q17 (qov x d p c) (Q:=fun g r=>((r.1=.ret∧r.2.2.2.2=c∧r.2.1=g.1∧(g.1.drop g.2.1.toNat).any p=true)∨(r.1=.exit x∧r.2.2.2.2=g.2.2.2∧r.2.1=g.1∧(g.1.drop g.2.1.toNat).any p=false))) ?_ ?_
 ·rintro ⟨xs,i,⟨⟩,e⟩ hi hn
  obtain ⟨h2,h3,h4⟩:=hi _ (List.mem_cons_self ..)
  simp only at h2 h3 h4
  unfold er2F at hn ⊢
  simp only at hn ⊢
  by_cases hlt:i<(xs.length:Int)
  ·simp only[hlt,decide_true,cond_true] at hn ⊢
   have hlt':i.toNat<xs.length:=by omega
   cases hp:p (xs.getD i.toNat d) with
   | true=>
    left
    simp only[cond_true]
    refine ⟨trivial,trivial,trivial,?_⟩
    rw[drop_at d hlt',List.any_cons,hp];rfl
   | false=>rw[hp] at hn;exact absurd rfl hn
  ·right
   simp only[hlt,decide_false,cond_false]
   refine ⟨trivial,trivial,trivial,?_⟩
   rw[List.drop_eq_nil_of_le (by omega)];rfl
 ·rintro ⟨xs,i,⟨⟩,e⟩ g' r hi he hi' _ hq
  obtain ⟨h2,h3,h4⟩:=hi _ (List.mem_cons_self ..)
  simp only at h2 h3 h4
  unfold maxLen at h2
  unfold er2F at he
  simp only at he
  by_cases hlt:i<(xs.length:Int)
  ·simp only[hlt,decide_true,cond_true] at he
   have hlt':i.toNat<xs.length:=by omega
   cases hp:p (xs.getD i.toNat d) with
   | true=>rw[hp] at he;cases he
   | false=>
    rw[hp] at he
    simp only[cond_false,Prod.mk.injEq,true_and] at he
    subst he
    simp only at hq ⊢
    rw[wr (by omega)] at hq
    rw[drop_at d hlt',List.any_cons,hp,Bool.false_or]
    have:(i+1).toNat=i.toNat+1:=by omega
    rw[this] at hq
    exact hq
  ·simp only[hlt,decide_false,cond_false] at he
   cases he
theorem er2_any (x:Nat) (d:α) (p:α→Bool) (c:Int) (xs:List α) (e:Int) (h:xs.length≤maxLen) :
  exB .ret (loopF (er2F x d p c) er2M (xs,0,(),e)).1=xs.any p∧(loopF (er2F x d p c) er2M (xs,0,(),e)).2.2.2.2=(bif xs.any p then c else e):=by
 have h0:allP (er2I ((xs,(0:Int),(),e):Er2G α)):=fun q hq=>by
  simp only[er2I,List.mem_singleton] at hq
  subst hq
  exact ⟨h,Int.le_refl _,by show (0:Int)≤(xs.length:Int);omega⟩
 rcases er2_run x d p c _ h0 with ⟨h1,h2,_,h3⟩ | ⟨h1,h2,_,h3⟩
 ·have h4:(xs.drop 0).any p=true:=h3
  rw[List.drop_zero] at h4
  rw[h1,h2,h4];exact ⟨rfl,rfl⟩
 ·have h4:(xs.drop 0).any p=false:=h3
  rw[List.drop_zero] at h4
  rw[h1,h2,h4];exact ⟨rfl,rfl⟩
abbrev Fl2G (α β:Type):=List α×β×Int×Unit×Int
def fl2F (x:Nat) (d:α) (bad:List α→α→Bool) (step:List α→β→α→β) (c:Int) (g:Fl2G α β):Ex×Fl2G α β:=
 bif decide (g.2.2.1<(g.1.length:Int)) then
  bif bad g.1 (g.1.getD g.2.2.1.toNat d) then (.ret,g.1,g.2.1,g.2.2.1,(),c)
  else (.normal,g.1,step g.1 g.2.1 (g.1.getD g.2.2.1.toNat d),w64 (g.2.2.1+1),(),g.2.2.2.2)
 else (.exit x,g)
def fl2I (ok:List α→β→Nat→Prop) (g:Fl2G α β):List Prop:=[g.1.length≤maxLen∧0≤g.2.2.1∧g.2.2.1≤(g.1.length:Int)∧ok g.1 g.2.1 g.2.2.1.toNat]
def fl2M (g:Fl2G α β):Nat:=((g.1.length:Int) - g.2.2.1).toNat
section
variable (x:Nat) (d:α) (bad:List α→α→Bool) (step:List α→β→α→β) (c:Int) (ok:List α→β→Nat→Prop)
variable (hok:∀ xs b i,i<xs.length→ok xs b i→ok xs (step xs b (xs.getD i d)) (i+1))
include hok
theorem qig:Goes (fl2F x d bad step c) fl2M fun g=>allP (fl2I ok g):=by
 rintro ⟨ys,b,i,⟨⟩,e⟩ hi hn
 obtain ⟨h2,h3,h4,h5⟩:=hi _ (List.mem_cons_self ..)
 simp only at h2 h3 h4 h5
 have h2':=h2
 unfold maxLen at h2
 unfold fl2F at hn ⊢
 simp only at hn ⊢
 by_cases hlt:i<(ys.length:Int)
 ·simp only[hlt,decide_true,cond_true] at hn ⊢
  cases hp:bad ys (ys.getD i.toNat d) with
  | true=>rw[hp] at hn;cases hn
  | false=>
   simp only[cond_false]
   rw[wr (by omega)]
   refine ⟨fun q hq=>?_,?_⟩
   ·simp only[fl2I,List.mem_singleton] at hq
    subst hq
    refine ⟨h2',by show (0:Int)≤i+1;omega,by show i+1≤(ys.length:Int);omega,?_⟩
    have:=hok ys b i.toNat (by omega) h5
    have e1:(i+1).toNat=i.toNat+1:=by omega
    rw[e1];exact this
   ·simp only[fl2M];omega
 ·simp only[hlt,decide_false,cond_false] at hn
  cases hn
theorem fl2_run:∀ g:Fl2G α β,allP (fl2I ok g) →
  (((loopF (fl2F x d bad step c) fl2M g).1=.ret∧(loopF (fl2F x d bad step c) fl2M g).2.2.2.2.2=c∧(g.1.drop g.2.2.1.toNat).any (bad g.1)=true) ∨
   ((loopF (fl2F x d bad step c) fl2M g).1=.exit x∧(loopF (fl2F x d bad step c) fl2M g).2.2.2.2.2=g.2.2.2.2∧(loopF (fl2F x d bad step c) fl2M g).2.1=g.1∧(loopF (fl2F x d bad step c) fl2M g).2.2.1=(g.1.drop g.2.2.1.toNat).foldl (step g.1) g.2.1∧ok g.1 (loopF (fl2F x d bad step c) fl2M g).2.2.1 g.1.length∧(g.1.drop g.2.2.1.toNat).any (bad g.1)=false)):=by
 refine q17 (qig x d bad step c ok hok) (Q:=fun g r=>((r.1=.ret∧r.2.2.2.2.2=c∧(g.1.drop g.2.2.1.toNat).any (bad g.1)=true) ∨
   (r.1=.exit x∧r.2.2.2.2.2=g.2.2.2.2∧r.2.1=g.1∧r.2.2.1=(g.1.drop g.2.2.1.toNat).foldl (step g.1) g.2.1∧ok g.1 r.2.2.1 g.1.length∧(g.1.drop g.2.2.1.toNat).any (bad g.1)=false))) ?_ ?_
 ·rintro ⟨ys,b,i,⟨⟩,e⟩ hi hn
  obtain ⟨h2,h3,h4,h5⟩:=hi _ (List.mem_cons_self ..)
  simp only at h2 h3 h4 h5
  unfold fl2F at hn ⊢
  simp only at hn ⊢
  by_cases hlt:i<(ys.length:Int)
  ·simp only[hlt,decide_true,cond_true] at hn ⊢
   have hlt':i.toNat<ys.length:=by omega
   cases hp:bad ys (ys.getD i.toNat d) with
   | true=>
    left
    simp only[cond_true]
    refine ⟨trivial,trivial,?_⟩
    rw[drop_at d hlt',List.any_cons,hp];rfl
   | false=>rw[hp] at hn;exact absurd rfl hn
  ·right
   simp only[hlt,decide_false,cond_false]
   have e1:i.toNat=ys.length:=by omega
   refine ⟨trivial,trivial,trivial,?_,?_,?_⟩
   ·rw[List.drop_eq_nil_of_le (by omega)];rfl
   ·rw[← e1];exact h5
   ·rw[List.drop_eq_nil_of_le (by omega)];rfl
 ·rintro ⟨ys,b,i,⟨⟩,e⟩ g' r hi he hi' _ hq
  obtain ⟨h2,h3,h4,h5⟩:=hi _ (List.mem_cons_self ..)
  simp only at h2 h3 h4 h5
  unfold maxLen at h2
  unfold fl2F at he
  simp only at he
  by_cases hlt:i<(ys.length:Int)
  ·simp only[hlt,decide_true,cond_true] at he
   have hlt':i.toNat<ys.length:=by omega
   cases hp:bad ys (ys.getD i.toNat d) with
   | true=>rw[hp] at he;cases he
   | false=>
    rw[hp] at he
    simp only[cond_false,Prod.mk.injEq,true_and] at he
    subst he
    simp only at hq ⊢
    rw[wr (by omega)] at hq
    rw[drop_at d hlt',List.any_cons,hp,Bool.false_or,List.foldl_cons]
    have:(i+1).toNat=i.toNat+1:=by omega
    rw[this] at hq
    exact hq
  ·simp only[hlt,decide_false,cond_false] at he
   cases he
end
theorem qfn (p:α→Bool):∀ (xs out:List α),xs.foldl (fun o x=>bif p x then o++[x] else o) out=out++xs.filter p
 | [],out=>by simp
 | x :: xs,out=>by
  rw[List.foldl_cons,qfn p xs,List.filter_cons]
  cases p x <;> simp
abbrev AnG (α σ:Type):=List α×σ×Int×Bool
variable {σ:Type}
def anF (x:Nat) (d:α) (p:List α→σ→α→Bool) (g:AnG α σ):Ex×AnG α σ:=
 bif decide (g.2.2.1<(g.1.length:Int)) then (.normal,g.1,g.2.1,w64 (g.2.2.1+1),bif p g.1 g.2.1 (g.1.getD g.2.2.1.toNat d) then false else g.2.2.2)
 else (.exit x,g)
def anI (ok:List α→σ→Prop) (g:AnG α σ):List Prop:=[g.1.length≤maxLen∧0≤g.2.2.1∧g.2.2.1≤(g.1.length:Int)∧ok g.1 g.2.1]
def anM (g:AnG α σ):Nat:=((g.1.length:Int) - g.2.2.1).toNat
theorem an_goes (x:Nat) (d:α) (p:List α→σ→α→Bool) (ok:List α→σ→Prop):Goes (anF x d p) anM fun g=>allP (anI ok g):=by
 rintro ⟨xs,s,i,b⟩ hi hn
 obtain ⟨h2,h3,h4,h5⟩:=hi _ (List.mem_cons_self ..)
 simp only at h2 h3 h4 h5
 have h2':=h2
 unfold maxLen at h2
 unfold anF at hn ⊢
 simp only at hn ⊢
 by_cases hlt:i<(xs.length:Int)
 ·simp only[hlt,decide_true,cond_true]
  rw[wr (by omega)]
  refine ⟨fun q hq=>?_,?_⟩
  ·simp only[anI,List.mem_singleton] at hq
   subst hq
   exact ⟨h2',by show (0:Int)≤i+1;omega,by show i+1≤(xs.length:Int);omega,h5⟩
  ·simp only[anM];omega
 ·simp only[hlt,decide_false,cond_false] at hn
  cases hn
theorem an_run (x:Nat) (d:α) (p:List α→σ→α→Bool) (ok:List α→σ→Prop):∀ g:AnG α σ,allP (anI ok g) →
  (loopF (anF x d p) anM g).1=.exit x∧(loopF (anF x d p) anM g).2.1=g.1∧(loopF (anF x d p) anM g).2.2.1=g.2.1∧(loopF (anF x d p) anM g).2.2.2.2=(g.2.2.2&&!(g.1.drop g.2.2.1.toNat).any (p g.1 g.2.1)):=by
 refine q17 (an_goes x d p ok) (Q:=fun g r=>r.1=.exit x∧r.2.1=g.1∧r.2.2.1=g.2.1∧r.2.2.2.2=(g.2.2.2&&!(g.1.drop g.2.2.1.toNat).any (p g.1 g.2.1))) ?_ ?_
 ·rintro ⟨xs,s,i,b⟩ hi hn
  obtain ⟨h2,h3,h4,h5⟩:=hi _ (List.mem_cons_self ..)
  simp only at h2 h3 h4 h5
  unfold anF at hn ⊢
  simp only at hn ⊢
  by_cases hlt:i<(xs.length:Int)
  ·simp only[hlt,decide_true,cond_true] at hn
   exact absurd rfl hn
  ·simp only[hlt,decide_false,cond_false]
   refine ⟨trivial,trivial,trivial,?_⟩
   rw[List.drop_eq_nil_of_le (by omega)];simp
 ·rintro ⟨xs,s,i,b⟩ g' r hi he hi' _ hq
  obtain ⟨h2,h3,h4,h5⟩:=hi _ (List.mem_cons_self ..)
  simp only at h2 h3 h4 h5
  unfold maxLen at h2
  unfold anF at he
  simp only at he
  by_cases hlt:i<(xs.length:Int)
  ·simp only[hlt,decide_true,cond_true,Prod.mk.injEq,true_and] at he
   subst he
   have hlt':i.toNat<xs.length:=by omega
   simp only at hq ⊢
   rw[wr (by omega)] at hq
   have:(i+1).toNat=i.toNat+1:=by omega
   rw[this] at hq
   rw[drop_at d hlt',List.any_cons]
   refine ⟨hq.1,hq.2.1,hq.2.2.1,?_⟩
   rw[hq.2.2.2]
   cases p xs s (xs.getD i.toNat d) <;> simp
  ·simp only[hlt,decide_false,cond_false] at he
   cases he
end
end Go.Lp

namespace Go.Lp
open Go.Sx
variable [Env]
theorem qjn {γ δ:Type} {F:γ→Ex×γ} {F':δ→Ex×δ} {m':δ→Nat} {I':δ→Prop} (φ:γ→δ) (ψ:δ→γ) (h2:∀ d,φ (ψ d)=d) (hF:∀ d,I' d→F (ψ d)=((F' d).1,ψ (F' d).2)) (hg:Goes F' m' I'):∀ (n:Nat) (d:δ),I' d→runL F n (ψ d)=((runL F' n d).1,ψ (runL F' n d).2)
 | 0,d,_=>by simp[runL]
 | n+1,d,hi=>by
  simp only[runL]
  have h:=hF d hi
  have hk:=hg d hi
  rw[h]
  generalize F' d=x at hk
  obtain ⟨e,d'⟩:=x
  cases e with
  | normal=>
   simp only
   rw[qjn φ ψ h2 hF hg n d' (hk rfl).1]
  | _=>rfl
theorem qpw {γ δ:Type} {F:γ→Ex×γ} {F':δ→Ex×δ} {m:γ→Nat} {m':δ→Nat} {I':δ→Prop} (φ:γ→δ) (ψ:δ→γ) (h1:∀ g,ψ (φ g)=g) (h2:∀ d,φ (ψ d)=d) (hm:∀ d,m (ψ d)=m' d) (hF:∀ d,I' d→F (ψ d)=((F' d).1,ψ (F' d).2)) (hg:Goes F' m' I') (g:γ) (hi:I' (φ g)) :
  loopF F m g=((loopF F' m' (φ g)).1,ψ (loopF F' m' (φ g)).2):=by
 have e:=hm (φ g)
 have r:=qjn φ ψ h2 hF hg (m' (φ g)+1) (φ g) hi
 rw[h1] at e r
 rw[q6k,q6k,e]
 exact r
theorem goes_conj {γ δ:Type} {F:γ→Ex×γ} {F':δ→Ex×δ} {m:γ→Nat} {m':δ→Nat} {I:γ→Prop} {I':δ→Prop} (φ:γ→δ) (ψ:δ→γ) (h1:∀ g,ψ (φ g)=g) (hm:∀ d,m (ψ d)=m' d) (hI:∀ d,I (ψ d)↔I' d) (hF:∀ d,I' d→F (ψ d)=((F' d).1,ψ (F' d).2)) (h:Goes F' m' I'):Goes F m I:=by
 intro g hi hn
 rw[← h1 g] at hi hn ⊢
 have hi':=(hI _).1 hi
 rw[hF _ hi'] at hn ⊢
 rw[hI]
 rw[hm,hm]
 exact h _ hi' hn
section
variable {α β C:Type}
def ixF (x:Nat) (lim:C→Int) (xs:C→List α) (d:α) (step:C→β→Int→α→Ex×β) (g:Int×C×β):Ex×(Int×C×β):=
 bif decide (g.1<lim g.2.1) then
  match step g.2.1 g.2.2 g.1 ((xs g.2.1).getD g.1.toNat d) with
  | (.normal,b)=>(.normal,w64 (g.1+1),g.2.1,b)
  | (e,b)=>(e,g.1,g.2.1,b)
 else (.exit x,g)
def ixJ (lim:C→Int) (xs:C→List α) (P:C→β→Int→Prop) (g:Int×C×β):Prop:=lim g.2.1=((xs g.2.1).length:Int)∧(xs g.2.1).length≤maxLen∧0≤g.1∧g.1≤((xs g.2.1).length:Int)∧P g.2.1 g.2.2 g.1
def ixI (lim:C→Int) (xs:C→List α) (P:C→β→Int→Prop) (g:Int×C×β):List Prop:=[ixJ lim xs P g]
def ixM (lim:C→Int) (g:Int×C×β):Nat:=(lim g.2.1 - g.1).toNat
def scan (x:Nat) (step:β→Int→α→Ex×β):Int→List α→β→Ex×Int×β
 | i,[],b=>(.exit x,i,b)
 | i,a :: l,b=>match step b i a with
  | (.normal,b')=>scan x step (i+1) l b'
  | (e,b')=>(e,i,b')
def ixP (step:C→β→Int→α→Ex×β) (xs:C→List α) (P:C→β→Int→Prop):Prop:=∀ c b (i:Nat) a,P c b i→(xs c)[i]?=some a→(step c b i a).1=.normal→P c (step c b i a).2 (i+1)
variable {x:Nat} {lim:C→Int} {xs:C→List α} {d:α} {step:C→β→Int→α→Ex×β} {P:C→β→Int→Prop}
theorem qma (hP:ixP step xs P):Goes (ixF x lim xs d step) (ixM lim) fun g=>allP (ixI lim xs P g):=by
 rintro ⟨i,c,b⟩ hi hn
 obtain ⟨h1,h2,h3,h4,h5⟩:=hi _ (List.mem_cons_self ..)
 simp only at h1 h2 h3 h4 h5
 unfold ixF at hn ⊢
 simp only at hn ⊢
 unfold maxLen at h2
 by_cases hlt:i<lim c
 ·simp only[hlt,decide_true,cond_true] at hn ⊢
  have hlt':i.toNat<(xs c).length:=by omega
  have hp:=hP c b i.toNat ((xs c).getD i.toNat d) (by rw[show (i.toNat:Int)=i by omega];exact h5) (by rw[List.getD_eq_getElem?_getD,List.getElem?_eq_getElem hlt'];rfl)
  rw[show (i.toNat:Int)=i by omega] at hp
  generalize step c b i ((xs c).getD i.toNat d)=s at hn hp ⊢
  obtain ⟨e,b'⟩:=s
  cases e with
  | normal=>
   rw[wr (n:=i+1) (by omega)]
   refine ⟨fun q hq=>?_,?_⟩
   ·simp only[ixI,List.mem_singleton] at hq
    subst hq
    exact ⟨h1,by unfold maxLen;exact h2,by show (0:Int)≤i+1;omega,by show i+1≤((xs c).length:Int);omega,hp rfl⟩
   ·simp only[ixM];omega
  | _=>cases hn
 ·simp only[hlt,decide_false,cond_false] at hn
  cases hn
theorem ix_run (hP:ixP step xs P):∀ g:Int×C×β,allP (ixI lim xs P g) →
  loopF (ixF x lim xs d step) (ixM lim) g=((scan x (step g.2.1) g.1 ((xs g.2.1).drop g.1.toNat) g.2.2).1,(scan x (step g.2.1) g.1 ((xs g.2.1).drop g.1.toNat) g.2.2).2.1,g.2.1,(scan x (step g.2.1) g.1 ((xs g.2.1).drop g.1.toNat) g.2.2).2.2):=by
 refine q17 (qma (x:=x) (d:=d) hP) (Q:=fun g r=>r=((scan x (step g.2.1) g.1 ((xs g.2.1).drop g.1.toNat) g.2.2).1,(scan x (step g.2.1) g.1 ((xs g.2.1).drop g.1.toNat) g.2.2).2.1,g.2.1,(scan x (step g.2.1) g.1 ((xs g.2.1).drop g.1.toNat) g.2.2).2.2)) ?_ ?_
 ·rintro ⟨i,c,b⟩ hi hn
  obtain ⟨h1,h2,h3,h4,h5⟩:=hi _ (List.mem_cons_self ..)
  simp only at h1 h2 h3 h4 h5
  unfold ixF at hn ⊢
  simp only at hn ⊢
  by_cases hlt:i<lim c
  ·simp only[hlt,decide_true,cond_true] at hn ⊢
   have hlt':i.toNat<(xs c).length:=by omega
   rw[drop_at d hlt']
   simp only[scan]
   generalize step c b i ((xs c).getD i.toNat d)=s at hn ⊢
   obtain ⟨e,b'⟩:=s
   cases e with
   | normal=>exact absurd rfl hn
   | _=>rfl
  ·simp only[hlt,decide_false,cond_false]
   rw[List.drop_eq_nil_of_le (by omega)]
   rfl
 ·rintro ⟨i,c,b⟩ g' r hi he hi' _ hq
  obtain ⟨h1,h2,h3,h4,h5⟩:=hi _ (List.mem_cons_self ..)
  simp only at h1 h2 h3 h4 h5
  unfold maxLen at h2
  unfold ixF at he
  simp only at he
  by_cases hlt:i<lim c
  ·simp only[hlt,decide_true,cond_true] at he
   have hlt':i.toNat<(xs c).length:=by omega
   rw[hq]
   simp only
   rw[drop_at d hlt']
   simp only[scan]
   generalize step c b i ((xs c).getD i.toNat d)=s at he ⊢
   obtain ⟨e,b'⟩:=s
   cases e with
   | normal=>
    rw[wr (n:=i+1) (by omega)] at he
    simp only[Prod.mk.injEq,true_and] at he
    subst he
    simp only
    rw[show (i+1).toNat=i.toNat+1 by omega]
   | _=>simp at he
  ·simp only[hlt,decide_false,cond_false] at he
   cases he
theorem ix_run0 (hP:ixP step xs P) (c:C) (b:β) (h1:lim c=((xs c).length:Int)) (h2:(xs c).length≤maxLen) (h3:P c b 0) :
  loopF (ixF x lim xs d step) (ixM lim) (0,c,b)=((scan x (step c) 0 (xs c) b).1,(scan x (step c) 0 (xs c) b).2.1,c,(scan x (step c) 0 (xs c) b).2.2):=by
 have:=ix_run (x:=x) (lim:=lim) (d:=d) hP (0,c,b) (fun q hq=>by
  simp only[ixI,List.mem_singleton] at hq
  subst hq
  exact ⟨h1,h2,Int.le_refl _,by show (0:Int)≤((xs c).length:Int);omega,h3⟩)
 simpa using this
theorem ixJ0 {c:C} {b:β} (h1:lim c=((xs c).length:Int)) (h2:(xs c).length≤maxLen) (h3:P c b 0):ixJ lim xs P (0,c,b):=⟨h1,h2,Int.le_refl _,by show (0:Int)≤((xs c).length:Int);omega,h3⟩
theorem ix_inv0 {c:C} {b:β} (h1:lim c=((xs c).length:Int)) (h2:(xs c).length≤maxLen) (h3:P c b 0):allP (ixI lim xs P (0,c,b)):=fun q hq=>by
 simp only[ixI,List.mem_singleton] at hq
 subst hq
 exact ⟨h1,h2,Int.le_refl _,by show (0:Int)≤((xs c).length:Int);omega,h3⟩
section
variable {γ:Type} {F:γ→Ex×γ} {φ:γ→Int×C×β} {ψ:Int×C×β→γ}
theorem q06 (h1:∀ g,ψ (φ g)=g) (h2:∀ d,φ (ψ d)=d) {d0:α} (hF:∀ d,allP (ixI lim xs P d)→F (ψ d)=((ixF x lim xs d0 step d).1,ψ (ixF x lim xs d0 step d).2)) (hP:ixP step xs P):Goes F (fun g=>ixM lim (φ g)) fun g=>allP (ixI lim xs P (φ g)):=
 goes_conj (m':=ixM lim) (I':=fun d=>allP (ixI lim xs P d)) φ ψ h1 (fun d=>by rw[h2]) (fun d=>by rw[h2]) hF (qma hP)
theorem q0a (h1:∀ g,ψ (φ g)=g) (h2:∀ d,φ (ψ d)=d) {d0:α} (hF:∀ d,allP (ixI lim xs P d)→F (ψ d)=((ixF x lim xs d0 step d).1,ψ (ixF x lim xs d0 step d).2)) (hP:ixP step xs P) (c:C) (b:β) (k1:lim c=((xs c).length:Int)) (k2:(xs c).length≤maxLen) (k3:P c b 0) :
  loopF F (fun g=>ixM lim (φ g)) (ψ (0,c,b))=((scan x (step c) 0 (xs c) b).1,ψ ((scan x (step c) 0 (xs c) b).2.1,c,(scan x (step c) 0 (xs c) b).2.2)):=by
 have h:=qpw (F:=F) (F':=ixF x lim xs d0 step) (m:=fun g=>ixM lim (φ g)) (m':=ixM lim) (I':=fun d=>allP (ixI lim xs P d)) φ ψ h1 h2 (fun d=>by rw[h2]) hF (qma hP) (ψ (0,c,b)) (by rw[h2];exact ix_inv0 k1 k2 k3)
 rw[h,h2,ix_run0 hP c b k1 k2 k3]
end
section
variable {st:β→Int→α→Ex×β}
theorem scan_fold {f:β→α→β} (h:∀ b i a,st b i a=(.normal,f b a)):∀ (l:List α) (i:Int) (b:β),scan x st i l b=(.exit x,i+l.length,l.foldl f b)
 | [],i,b=>by simp[scan]
 | a :: l,i,b=>by
  simp only[scan,h,List.foldl_cons,List.length_cons]
  rw[scan_fold h l]
  simp;omega
theorem scan_bad {p:α→Bool} {r:α→β→β} {f:β→α→β} {e:Ex} (he:e≠.normal) (h:∀ b i a,st b i a=bif p a then (e,r a b) else (.normal,f b a)):∀ (l:List α) (i:Int) (b:β),
  (l.any p=true∧(scan x st i l b).1=e∧∃ a b',a∈l∧p a=true∧(scan x st i l b).2.2=r a b')∨(l.any p=false∧scan x st i l b=(.exit x,i+l.length,l.foldl f b))
 | [],i,b=>.inr ⟨rfl,by simp[scan]⟩
 | a :: l,i,b=>by
  simp only[scan,h]
  cases hp:p a with
  | true=>
   left
   refine ⟨by simp[hp],?_⟩
   cases e <;> first | exact absurd rfl he | exact ⟨rfl,a,b,List.mem_cons_self ..,hp,rfl⟩
  | false=>
   simp only[cond_false]
   rcases scan_bad he h l (i+1) (f b a) with ⟨h1,h2,a',b',h3,h4,h5⟩ | ⟨h1,h2⟩
   ·exact .inl ⟨by simp[h1],h2,a',b',List.mem_cons_of_mem _ h3,h4,h5⟩
   ·refine .inr ⟨by simp[hp,h1],?_⟩
    rw[h2]
    simp;omega
end
end
theorem q64 {α:Type} [DecidableEq α] {x:Nat} (b:List α) (d:α) {st:Bool→Int→α→Ex×Bool} (h:∀ r (i:Int) a,st r i a=bif !decide (a=b.getD i.toNat d) then (.ret,false) else (.normal,r)):∀ (l:List α) (i:Nat) (r:Bool),l.length+i=b.length →
  (l=b.drop i∧scan x st (i:Int) l r=(.exit x,(i:Int)+l.length,r))∨(l≠b.drop i∧(scan x st (i:Int) l r).1=.ret∧(scan x st (i:Int) l r).2.2=false)
 | [],i,r,hl=>.inl ⟨by rw[List.drop_eq_nil_of_le (by simp at hl;omega)],by simp[scan]⟩
 | a :: l,i,r,hl=>by
  simp only[List.length_cons] at hl
  have hlt:i<b.length:=by omega
  rw[drop_at d hlt]
  simp only[scan,h,Int.toNat_natCast]
  by_cases hab:a=b.getD i d
  ·simp only[hab,decide_true,Bool.not_true,cond_false]
   have ih:=q64 (x:=x) b d h l (i+1) r (by omega)
   rw[show ((i+1:Nat):Int)=(i:Int)+1 by omega] at ih
   rcases ih with ⟨h1,h2⟩ | ⟨h1,h2⟩
   ·refine .inl ⟨by rw[h1],?_⟩
    rw[h2]
    simp;omega
   ·refine .inr ⟨fun e=>h1 (by injection e),h2⟩
  ·right
   refine ⟨fun e=>hab (by injection e),?_⟩
   simp only[hab,decide_false,Bool.not_false,cond_true]
   exact ⟨trivial,trivial⟩
theorem q3e {α:Type} (A:El α) (out:List α) (y:α):A.lst (min (out.length+1) out.length) (A.els out)++List.map (fun _=>y) (List.range (out.length+1 - out.length))=out++[y]:=by
 rw[Nat.min_eq_right (Nat.le_succ _),A.lst_els,Nat.add_sub_cancel_left];rfl
end Go.Lp

namespace Go.Lp
open Go.Sx
variable [Env]
section
variable {α β:Type}
theorem search' {x:Nat} {st:β→Int→α→Ex×β} {p:α→Bool} {r:Int→α→β→β} (h:∀ b i a,st b i a=bif p a then (.ret,r i a b) else (.normal,b)):∀ (l:List α) (i:Int) (b:β),
  (l.any p=true∧∃ j,i≤j∧∃ a,a∈l∧p a=true∧scan x st i l b=(.ret,j,r j a b))∨(l.any p=false∧scan x st i l b=(.exit x,i+(l.length:Int),b))
 | [],i,b=>.inr ⟨rfl,by simp[scan]⟩
 | a :: l,i,b=>by
  simp only[scan,h]
  cases hp:p a with
  | true=>exact .inl ⟨by simp[hp],i,Int.le_refl _,a,List.mem_cons_self ..,hp,rfl⟩
  | false=>
   simp only[cond_false]
   rcases search' h l (i+1) b with ⟨h1,j,hj,a',h2,h3,h4⟩ | ⟨h1,h2⟩
   ·exact .inl ⟨by simp[h1],j,by omega,a',List.mem_cons_of_mem _ h2,h3,h4⟩
   ·refine .inr ⟨by simp[hp,h1],?_⟩
    rw[h2]
    simp;omega
theorem search {x:Nat} {st:β→Int→α→Ex×β} {p:α→Bool} {r:Int→α→β→β} (h:∀ b i a,st b i a=bif p a then (.ret,r i a b) else (.normal,b)) (l:List α) (b:β) :
  (l.any p=true∧∃ j,0≤j∧∃ a,a∈l∧p a=true∧scan x st 0 l b=(.ret,j,r j a b))∨(l.any p=false∧scan x st 0 l b=(.exit x,(l.length:Int),b)):=by
 have:=search' (x:=x) h l 0 b
 rwa [Int.zero_add] at this
theorem any_eq_mem {α:Type} [DecidableEq α] (l:List α) (t:α):l.any (fun v=>decide (v=t))=decide (t∈l):=by
 rw[Bool.eq_iff_iff,List.any_eq_true]
 simp
theorem ne_len {α β:Type} {a:List α} {b:List β} (h:((a.length:Int) != (b.length:Int))=false):a.length=b.length:=by
 have:(a.length:Int)=(b.length:Int):=by simpa using h
 omega
end
end Go.Lp

namespace Go.Lp
open Go.Sx
variable {α β:Type}
theorem q8h {x:Nat} {st:β→Int→α→Ex×β} {p:α→Bool} {r:α→β→β} (h:∀ b i a,st b i a=bif p a then (.ret,r a b) else (.normal,b)):∀ (l:List α) (i:Int) (b:β),
  (∃ a j,l.find? p=some a∧scan x st i l b=(.ret,j,r a b))∨(l.find? p=none∧scan x st i l b=(.exit x,i+(l.length:Int),b))
 | [],i,b=>.inr ⟨rfl,by simp[scan]⟩
 | a :: l,i,b=>by
  simp only[scan,h]
  cases hp:p a with
  | true=>exact .inl ⟨a,i,by simp[hp],rfl⟩
  | false=>
   simp only[cond_false]
   rcases q8h h l (i+1) b with ⟨a',j,h1,h2⟩ | ⟨h1,h2⟩
   ·exact .inl ⟨a',j,by simp[hp,h1],h2⟩
   ·refine .inr ⟨by simp[hp,h1],?_⟩
    rw[h2,List.length_cons]
    simp only[Prod.mk.injEq,true_and,and_true]
    omega
end Go.Lp

namespace Go.Sx
open Go.RowKit
variable [Env]
section
variable {γ:Type} {F:List Nat→γ→Ex×γ} {m:γ→Nat} {Inv:γ→Prop}
end
section
variable {P:Program} {Γ:Gam} {Λ:Lam} {N:Nat} {γ:Type}
end
end Go.Sx

namespace Go.Sx
open Go.RowKit
variable [Env]
section
variable {N:Nat} {α β:Type}
def El.ent (K:El α) (V:El β):El (α×β×Int):=El.pair K (El.pair V (eInt .i64))
def LP.mapO (N id:Nat) (ka va:Bool) (K:El α) (V:El β):LP N (List (α×β×Int)×Nat) where
 R:=0
 read σ:=match σ.h.get id with
  | .map ks vs ka' va' el m clk _=>bif Nat.beq ks K.sz&&(Nat.beq vs V.sz&&(ka==ka'&&va==va')) then some (((El.ent K V).lstE m el,clk),(El.ent K V).okE m el,[]) else none
  | _=>none
 ents _ _:=[]
 blks _ _:=[]
 objs _ g:=[(id,.map K.sz V.sz ka va (.fn ((El.ent K V).els g.1)) g.1.length g.2 false)]
 es:=[]
 os:=[id]
 eseq _ _:=rfl
 oseq _ _:=rfl
 blen _ _:=rfl
 ilen σ g ps ids h:=by
  split at h
  ·rename_i ks vs ka' va' el m clk pd _
   cases hb:Nat.beq ks K.sz&&(Nat.beq vs V.sz&&(ka==ka'&&va==va')) with
   | false=>rw[hb] at h;cases h
   | true=>
    rw[hb] at h
    simp only[cond_true,Option.some.injEq,Prod.mk.injEq] at h
    rw[← h.2.2];rfl
  ·cases h
 ok k0 σ g ps ids h hp:=by
  split at h
  ·rename_i ks vs ka' va' el m clk pd hg
   cases hb:Nat.beq ks K.sz&&(Nat.beq vs V.sz&&(ka==ka'&&va==va')) with
   | false=>rw[hb] at h;cases h
   | true=>
    rw[hb] at h
    simp only[Bool.and_eq_true,beq_iff_eq] at hb
    obtain ⟨b1,b2,b3,b4⟩:=hb
    have e1:=q03 b1
    have e2:=q03 b2
    subst e1;subst e2;subst b3;subst b4
    simp only[cond_true,Option.some.injEq,Prod.mk.injEq] at h
    obtain ⟨rfl,rfl,rfl⟩:=h
    have hk:∀ e,e<m→(El.ent K V).Ok (el e):=El.okE_ok _ m el hp
    rw[El.lstE_eq]
    refine ⟨fun k so h=>by simp at h,fun id' so h=>?_,fun j s h=>by simp at h⟩
    simp only[List.mem_singleton,Prod.mk.injEq] at h
    obtain ⟨rfl,rfl⟩:=h
    rw[hg]
    refine ⟨fun _ h=>h,fun n m' ρ ρ' L o hr hf=>?_⟩
    obtain ⟨f1,f2,⟨es,f3,f4,f5,f6⟩,_⟩:=hf
    rw[El.lst_length]
    refine ⟨f1,f2,⟨es,f3,f4,f5,fun e he=>?_⟩,fun h=>by cases h⟩
    obtain ⟨y,kc,vc,q1,q2,q3⟩:=f6 e he
    obtain ⟨a,ps,d1,d2⟩:=hk e he
    refine ⟨y,kc,vc,q1,?_,q3⟩
    have:=(El.ent K V).cl a n m' ρ ρ' _ hr.ag.2.1 ((El.ent K V).ok _ _ _ _ _ _ d1 d2 q2)
    show SV.fits m' ρ' ((El.ent K V).cells (((El.ent K V).lst m el).getD e (El.ent K V).dflt)) _
    rw[El.lst_getD _ _ _ _ he]
    simpa only [El.get,d1] using this
  ·cases h
def LP.mit (N id i:Nat):LP N (List Int×Nat) where
 R:=0
 read σ:=match σ.h.get id with
  | .mit j since sel sn last _=>bif Nat.beq j i&&Nat.blt i N then some (((eInt .i64).lstE sn sel,since),(last=since) :: (eInt .i64).okE sn sel,[]) else none
  | _=>none
 ents _ _:=[]
 blks _ _:=[]
 objs _ g:=[(id,.mit i g.2 (.fn ((eInt .i64).els g.1)) g.1.length g.2 none)]
 es:=[]
 os:=[id]
 eseq _ _:=rfl
 oseq _ _:=rfl
 blen _ _:=rfl
 ilen σ g ps ids h:=by
  split at h
  ·rename_i j since sel sn last _ _
   cases hb:Nat.beq j i&&Nat.blt i N with
   | false=>rw[hb] at h;cases h
   | true=>
    rw[hb] at h
    simp only[cond_true,Option.some.injEq,Prod.mk.injEq] at h
    rw[← h.2.2];rfl
  ·cases h
 ok k0 σ g ps ids h hp:=by
  split at h
  ·rename_i j since sel sn last cu hg
   cases hb:Nat.beq j i&&Nat.blt i N with
   | false=>rw[hb] at h;cases h
   | true=>
    rw[hb] at h
    simp only[Bool.and_eq_true] at hb
    have e1:=q03 hb.1
    have hlt:i<N:=Nat.le_of_ble_eq_true hb.2
    subst e1
    simp only[cond_true,Option.some.injEq,Prod.mk.injEq] at h
    obtain ⟨rfl,rfl,rfl⟩:=h
    have hls:last=since:=hp _ (List.mem_cons_self ..)
    subst hls
    have hk:∀ e,e<sn→(eInt .i64).Ok (sel e):=El.okE_ok _ sn sel fun p h=>hp p (List.mem_cons_of_mem _ h)
    rw[El.lstE_eq]
    refine ⟨fun k so h=>by simp at h,fun id' so h=>?_,fun j s h=>by simp at h⟩
    simp only[List.mem_singleton,Prod.mk.injEq] at h
    obtain ⟨rfl,rfl⟩:=h
    rw[hg]
    refine ⟨fun _ h=>h,fun n m' ρ ρ' L o hr hf=>?_⟩
    obtain ⟨f1,f2,f3,seen,f4,f5,f6,_⟩:=hf
    rw[El.lst_length]
    refine ⟨f1,f2,by have:=hr.le;omega,seen,by rw[hr.ag.1 j hlt];exact f4,f5,fun e x hx=>?_,fun s hs=>(by cases hs)⟩
    have he:e<sn:=by rw[← f5];exact (Array.getElem?_eq_some_iff.1 hx).1
    obtain ⟨a,ps,d1,d2⟩:=hk e he
    have:=(eInt .i64).cl a n m' ρ ρ' _ hr.ag.2.1 ((eInt .i64).ok _ _ _ _ _ _ d1 d2 (f6 e x hx))
    show SV.fits m' ρ' ((eInt .i64).cells (((eInt .i64).lst sn sel).getD e (eInt .i64).dflt)) _
    rw[El.lst_getD _ _ _ _ he]
    simpa only [El.get,d1] using this
  ·cases h
def LP.mif (N id:Nat) (ka va:Bool) (K:El α) (V:El β):LP N (List (α×β)) where
 R:=0
 read σ:=match σ.h.get id with
  | .mif ks vs ka' va' rem cnt _=>bif Nat.beq ks K.sz&&(Nat.beq vs V.sz&&(ka==ka'&&va==va')) then some ((El.pair K V).lstE cnt rem,(El.pair K V).okE cnt rem,[]) else none
  | _=>none
 ents _ _:=[]
 blks _ _:=[]
 objs _ g:=[(id,.mif K.sz V.sz ka va (.fn ((El.pair K V).els g)) g.length none)]
 es:=[]
 os:=[id]
 eseq _ _:=rfl
 oseq _ _:=rfl
 blen _ _:=rfl
 ilen σ g ps ids h:=by
  split at h
  ·rename_i ks vs ka' va' rem cnt _ _
   cases hb:Nat.beq ks K.sz&&(Nat.beq vs V.sz&&(ka==ka'&&va==va')) with
   | false=>rw[hb] at h;cases h
   | true=>
    rw[hb] at h
    simp only[cond_true,Option.some.injEq,Prod.mk.injEq] at h
    rw[← h.2.2];rfl
  ·cases h
 ok k0 σ g ps ids h hp:=by
  split at h
  ·rename_i ks vs ka' va' rem cnt cu hg
   cases hb:Nat.beq ks K.sz&&(Nat.beq vs V.sz&&(ka==ka'&&va==va')) with
   | false=>rw[hb] at h;cases h
   | true=>
    rw[hb] at h
    simp only[Bool.and_eq_true,beq_iff_eq] at hb
    obtain ⟨b1,b2,b3,b4⟩:=hb
    have e1:=q03 b1
    have e2:=q03 b2
    subst e1;subst e2;subst b3;subst b4
    simp only[cond_true,Option.some.injEq,Prod.mk.injEq] at h
    obtain ⟨rfl,rfl,rfl⟩:=h
    have hk:∀ e,e<cnt→(El.pair K V).Ok (rem e):=El.okE_ok _ cnt rem hp
    rw[El.lstE_eq]
    refine ⟨fun k so h=>by simp at h,fun id' so h=>?_,fun j s h=>by simp at h⟩
    simp only[List.mem_singleton,Prod.mk.injEq] at h
    obtain ⟨rfl,rfl⟩:=h
    rw[hg]
    refine ⟨fun _ h=>h,fun n m' ρ ρ' L o hr hf=>?_⟩
    obtain ⟨f1,f2,f3⟩:=hf
    rw[El.lst_length]
    refine ⟨f1,f2,?_⟩
    rcases f3 with f3 | ⟨b,es,clk,seen,k1,k2,k3,k4,k5,_⟩
    ·exact .inl ⟨f3.1,f3.2.1,rfl⟩
    ·refine .inr ⟨b,es,clk,seen,k1,hr.ag.2.1 _ _ k2,k3,k4,fun e he=>?_,fun c hc=>(by cases hc)⟩
     obtain ⟨y,kc,vc,q1,q2,q3⟩:=k5 e he
     obtain ⟨a,ps,d1,d2⟩:=hk e he
     refine ⟨y,kc,vc,q1,?_,q3⟩
     have:=(El.pair K V).cl a n m' ρ ρ' _ hr.ag.2.1 ((El.pair K V).ok _ _ _ _ _ _ d1 d2 q2)
     show SV.fits m' ρ' ((El.pair K V).cells (((El.pair K V).lst cnt rem).getD e (El.pair K V).dflt)) _
     rw[El.lst_getD _ _ _ _ he]
     simpa only [El.get,d1] using this
  ·cases h
end
end Go.Sx

namespace Go.Sx
open Go.RowKit
variable [Env]
def FzR (n:Nat) (h:SH) (fzs:List Nat) (ρ ρ':Rh):Prop:=∀ j∈fzs,∃ o,(h.get j).fit n ρ (ρ j) o∧((h.get j).own (ρ j)→ρ'.mem (ρ j).blk=o)
theorem FzR.left {n:Nat} {h:SH} {a b:List Nat} {ρ ρ':Rh} (hz:FzR n h (a++b) ρ ρ'):FzR n h a ρ ρ':=fun j hj=>hz j (List.mem_append_left _ hj)
theorem FzR.right {n:Nat} {h:SH} {a b:List Nat} {ρ ρ':Rh} (hz:FzR n h (a++b) ρ ρ'):FzR n h b ρ ρ':=fun j hj=>hz j (List.mem_append_right _ hj)
structure CRel (N k0:Nat) (h:SH) (ids:List (Option Nat)) (fzs:List Nat) (l cs:List SV) (blks:List SO):Prop where
 blk:∀ (k:Nat) (so:SO),blks[k]?=some so→(ids[k]?=some none∧NilSO so)∨∃ j:Nat,ids[k]?=some (some j)∧(∀ L,so.own L→(h.get j).own L)∧∀ (n m:Nat) (ρ ρ':Rh) (L:Lc) (o:Option Obj),Rn N k0 ids m ρ ρ'→FzR n h fzs ρ ρ'→(h.get j).fit n ρ L o→so.fit m ρ' L o
 fit:∀ (n m:Nat) (ρ ρ':Rh) (x:List Value),Rn N k0 ids m ρ ρ'→FzR n h fzs ρ ρ'→SV.fits n ρ l x→SV.fits m ρ' cs x
def ShfB (n m:Nat) (ρ ρ':Rh) (bs bs':List SO):Prop:=∀ (k:Nat) (so:SO),bs[k]?=some so→∃ so',bs'[k]?=some so'∧(∀ L,so'.own L↔so.own L)∧∀ L o,so.fit n ρ L o→so'.fit m ρ' L o
structure CT (κ:Type) where
 R:Nat
 sz:Nat
 cells:Nat→κ→List SV
 blks:Nat→κ→List SO
 read:SH→List SV→Option (κ×List Prop×List (Option Nat)×List Nat)
 put:Nat→κ→Tr (List SV×List SO)
 blen:∀ b g,(blks b g).length=R
 clen:∀ b g,(cells b g).length=sz
 ilen:∀ h l g ps ids fzs,read h l=some (g,ps,ids,fzs)→ids.length=R
 ok:∀ N k0 h l g ps ids fzs,read h l=some (g,ps,ids,fzs)→(∀ p∈ps,p)→CRel N k0 h ids fzs l (cells (N+k0) g) (blks (N+k0) g)
 shf:∀ (b b':Nat) (g:κ) (n m:Nat) (ρ ρ':Rh),(∀ c o,ρ.mem c=some o→ρ'.mem c=some o)→(∀ k,k<R→ρ' (b'+k)=ρ (b+k))→b'+R≤m→(∀ x,SV.fits n ρ (cells b g) x→SV.fits m ρ' (cells b' g) x)∧ShfB n m ρ ρ' (blks b g) (blks b' g)
 putOk:∀ b g (K:List SV×List SO→Prop),(put b g).Holds K→K (cells b g,blks b g)
theorem q4n {n m:Nat} {ρ ρ':Rh}:ShfB n m ρ ρ' [] []:=fun k so h=>by simp at h
theorem qnp {n m:Nat} {ρ ρ':Rh} {a a' b b':List SO} (hl:a.length=a'.length) (h1:ShfB n m ρ ρ' a a') (h2:ShfB n m ρ ρ' b b'):ShfB n m ρ ρ' (a++b) (a'++b'):=fun k so h=>by
 by_cases hk:k<a.length
 ·rw[List.getElem?_append_left hk] at h
  rw[List.getElem?_append_left (by omega)]
  exact h1 k so h
 ·rw[List.getElem?_append_right (by omega)] at h
  rw[List.getElem?_append_right (by omega),← hl]
  exact h2 _ so h
theorem q8f {n m:Nat} {ρ ρ':Rh} {a a':SO} {b b':List SO} (h0:∀ L,a'.own L↔a.own L) (h1:∀ L o,a.fit n ρ L o→a'.fit m ρ' L o) (h2:ShfB n m ρ ρ' b b'):ShfB n m ρ ρ' (a :: b) (a' :: b'):=fun k so h=>by
 cases k with
 | zero=>
  simp only[List.getElem?_cons_zero,Option.some.injEq] at h
  subst h
  exact ⟨a',rfl,h0,h1⟩
 | succ k=>exact h2 k so (by simpa using h)
section
variable {κ α β:Type}
def CT.pl (A:El α):CT α where
 R:=0
 sz:=A.sz
 cells _ a:=A.cells a
 blks _ _:=[]
 read _ l:=match A.decs l with
  | some (a,ps)=>some (a,ps,[],[])
  | none=>none
 put _ a:=.ret (A.cells a,[])
 blen _ _:=rfl
 clen _ a:=A.len a
 ilen h l g ps ids fzs hr:=by
  split at hr
  ·simp only[Option.some.injEq,Prod.mk.injEq] at hr;rw[← hr.2.2.1];rfl
  ·cases hr
 ok N k0 h l g ps ids fzs hr hp:=by
  split at hr
  ·rename_i a ps' hd
   simp only[Option.some.injEq,Prod.mk.injEq] at hr
   obtain ⟨rfl,rfl,rfl,rfl⟩:=hr
   exact ⟨fun k so h=>by simp at h,fun n m ρ ρ' x hn _ hf=>A.cl a n m ρ ρ' x hn.ag.2.1 (A.ok _ _ _ _ _ _ hd hp hf)⟩
  ·cases hr
 shf b b' g n m ρ ρ' hm _ _:=⟨fun x hf=>A.cl g n m ρ ρ' x hm hf,q4n⟩
 putOk _ _ _ h:=h
theorem ow_rn {N k0 n m j l l':Nat} {ids:List (Option Nat)} {ρ ρ':Rh} {x:Value} (hr:Rn N k0 ids m ρ ρ') (hi:ids[0]?=some (some j)) (hl:l'=l) (hf:(SV.ow j l).fit n ρ x):(SV.ow (N+k0) l').fit m ρ' x:=by
 obtain ⟨_,hor⟩:=hf
 have hk:0<ids.length:=by
  cases ids with
  | nil=>simp at hi
  | cons=>simp
 refine ⟨by have:=hr.le;omega,?_⟩
 have:=hr.yes 0 j hi
 rw[show N+k0+0=N+k0 from rfl] at this
 rw[this,hl]
 exact hor
def CT.row (t:TypeId) (A:El α):CT (List α) where
 R:=1
 sz:=1
 cells b xs:=[.ow b xs.length]
 blks _ xs:=[.row t A.sz (.fn (A.els xs)) xs.length]
 read h l:=match l with
  | [.ow j n]=>match h.get j with
   | .row t' sz el m=>bif Nat.beq t' t&&Nat.beq sz A.sz then some (A.lstE n el,(n≤m) :: A.okE n el,[some j],[]) else none
   | _=>none
  | [.k y]=>bif nilK y then some ([],[],[none],[]) else none
  | _=>none
 put b xs:=.ret ([.ow b xs.length],[.row t A.sz (.fn (A.els xs)) xs.length])
 blen _ _:=rfl
 clen _ _:=rfl
 ilen h l g ps ids fzs hr:=by
  split at hr
  ·split at hr
   ·rename_i j n t' sz el m hg
    cases hb:Nat.beq t' t&&Nat.beq sz A.sz with
    | false=>rw[hb] at hr;cases hr
    | true=>
     rw[hb] at hr
     simp only[cond_true,Option.some.injEq,Prod.mk.injEq] at hr
     rw[← hr.2.2.1];rfl
   ·cases hr
  ·rename_i y
   cases hb:nilK y with
   | false=>rw[hb] at hr;cases hr
   | true=>
    rw[hb] at hr
    simp only[cond_true,Option.some.injEq,Prod.mk.injEq] at hr
    rw[← hr.2.2.1];rfl
  ·cases hr
 ok N k0 h l g ps ids fzs hr hp:=by
  split at hr
  ·rename_i j n
   split at hr
   ·rename_i t' sz el m hg
    cases hb:Nat.beq t' t&&Nat.beq sz A.sz with
    | false=>rw[hb] at hr;cases hr
    | true=>
     rw[hb] at hr
     simp only[Bool.and_eq_true] at hb
     have e1:=q03 hb.1
     have e2:=q03 hb.2
     subst e1;subst e2
     simp only[cond_true,Option.some.injEq,Prod.mk.injEq] at hr
     obtain ⟨rfl,rfl,rfl,rfl⟩:=hr
     have hl:n≤m:=hp _ (List.mem_cons_self ..)
     have hk:∀ e,e<n→A.Ok (el e):=A.okE_ok n el fun p h'=>hp p (List.mem_cons_of_mem _ h')
     rw[A.lstE_eq]
     refine ⟨fun k so hso=>?_,fun n' m' ρ ρ' x hn hz hf=>?_⟩
     ·cases k with
      | succ k=>simp at hso
      | zero=>
       simp only[List.getElem?_cons_zero,Option.some.injEq] at hso
       subst hso
       rw[A.lst_length]
       refine .inr ⟨j,rfl,by rw[hg];exact fun _ h=>h,fun n' m' ρ ρ' L o hn hz hf=>?_⟩
       rw[hg] at hf
       refine row_so hl (fun e=>A.cl _) (fun e he n ρ v hv=>?_) hn.ag.2.1 hf
       show SV.fits n ρ (A.cells ((A.lst _ el).getD e A.dflt)) v
       rw[A.lst_getD _ _ _ he]
       obtain ⟨a,ps,d1,d2⟩:=hk e he
       have:=A.ok _ _ _ _ _ _ d1 d2 hv
       simpa only [El.get,d1] using this
     ·obtain ⟨y,r,rfl,hy,hr'⟩:=q05 hf
      exact ⟨ow_rn hn rfl (by rw[A.lst_length]) hy,by have:=q0i hr';subst this;trivial⟩
   ·cases hr
  ·rename_i y
   cases hb:nilK y with
   | false=>rw[hb] at hr;cases hr
   | true=>
    rw[hb] at hr
    simp only[cond_true,Option.some.injEq,Prod.mk.injEq] at hr
    obtain ⟨rfl,rfl,rfl,rfl⟩:=hr
    have:=q6i hb
    subst this
    refine ⟨fun k so hso=>?_,fun n' m' ρ ρ' x hn hz hf=>?_⟩
    ·cases k with
     | succ k=>simp at hso
     | zero=>
      simp only[List.getElem?_cons_zero,Option.some.injEq] at hso
      subst hso
      exact .inl ⟨rfl,.inr ⟨_,_,_,rfl⟩⟩
    ·obtain ⟨y',r,rfl,hy,hr'⟩:=q05 hf
     refine ⟨⟨by have:=hn.le;simp only[List.length_cons,List.length_nil] at this;omega,.inl ?_⟩,by have:=q0i hr';subst this;trivial⟩
     have:=hn.no 0 rfl
     rw[show N+k0+0=N+k0 from rfl] at this
     rw[this]
     exact ⟨rfl,rfl,_,hy⟩
  ·cases hr
 shf b b' g n m ρ ρ' hm hk hb:=by
  have h0:=hk 0 (by omega)
  simp only[Nat.add_zero] at h0
  refine ⟨fun x hf=>?_,q8f (fun _=>Iff.rfl) (fun L o hf=>qhc A hm hf) q4n⟩
  obtain ⟨y,r,rfl,hy,hr'⟩:=q05 hf
  refine ⟨⟨by omega,?_⟩,by have:=q0i hr';subst this;trivial⟩
  rw[h0]
  exact hy.2
 putOk _ _ _ h:=h
def CT.fz (t:TypeId) (A:El α):CT (List α) where
 R:=0
 sz:=1
 cells _ xs:=[(Dv.list A).enc xs]
 blks _ _:=[]
 read h l:=match l with
  | [.ow j n]=>match h.get j with
   | .row t' sz el m=>bif Nat.beq t' t&&Nat.beq sz A.sz then some (A.lstE n el,(n≤m) :: A.okE n el,[],[j]) else none
   | _=>none
  | [s]=>match (Dv.list A).dec s with
   | some (a,ps)=>some (a,ps,[],[])
   | none=>none
  | _=>none
 put b xs:=.ret ([(Dv.list A).enc xs],[])
 blen _ _:=rfl
 clen _ _:=rfl
 ilen h l g ps ids fzs hr:=by
  split at hr
  ·split at hr
   ·rename_i j n t' sz el m hg
    cases hb:Nat.beq t' t&&Nat.beq sz A.sz with
    | false=>rw[hb] at hr;cases hr
    | true=>
     rw[hb] at hr
     simp only[cond_true,Option.some.injEq,Prod.mk.injEq] at hr
     rw[← hr.2.2.1];rfl
   ·cases hr
  ·split at hr
   ·simp only[Option.some.injEq,Prod.mk.injEq] at hr;rw[← hr.2.2.1];rfl
   ·cases hr
  ·cases hr
 ok N k0 h l g ps ids fzs hr hp:=by
  split at hr
  ·rename_i j n
   split at hr
   ·rename_i t' sz el m hg
    cases hb:Nat.beq t' t&&Nat.beq sz A.sz with
    | false=>rw[hb] at hr;cases hr
    | true=>
     rw[hb] at hr
     simp only[Bool.and_eq_true] at hb
     have e2:=q03 hb.2
     subst e2
     simp only[cond_true,Option.some.injEq,Prod.mk.injEq] at hr
     obtain ⟨rfl,rfl,rfl,rfl⟩:=hr
     have hl:n≤m:=hp _ (List.mem_cons_self ..)
     have hk:∀ e,e<n→A.Ok (el e):=A.okE_ok n el fun p h'=>hp p (List.mem_cons_of_mem _ h')
     refine ⟨fun k so hso=>by simp at hso,fun n' m' ρ ρ' x hn hz hf=>?_⟩
     obtain ⟨y,r,rfl,hy,hr'⟩:=q05 hf
     refine ⟨?_,by have:=q0i hr';subst this;trivial⟩
     obtain ⟨o,ho,hmem⟩:=hz j (List.mem_cons_self ..)
     rw[hg] at ho hmem
     rw[A.lstE_eq]
     have hlen:(A.lst n el).length=n:=A.lst_length _ _
     show (SV.rs A.sz (A.lst n el).length (A.els (A.lst n el))).fit m' ρ' y
     rw[hlen]
     obtain ⟨_,hor⟩:=hy
     rcases hor with ⟨h1,rfl,a,rfl⟩ | ⟨h1,h2,rfl⟩
     ·exact qlo _ _ _
     ·rcases ho.2 with ⟨k1,_⟩ | ⟨_,k2,c,fz,k3,_,k4,k5,k6,k7⟩
      ·rw[k1] at h1;cases h1
      ·refine ⟨_,_,rfl,h2,k6,fun _=>⟨(ρ j).blk,0,c,t',fz,rfl,by rw[hmem h1,k3],fun e he=>?_⟩⟩
       obtain ⟨v,q1,q2,q3⟩:=k7 e (by omega)
       obtain ⟨a,ps,d1,d2⟩:=hk e he
       refine ⟨v,q1,?_,q3⟩
       have q4:=A.cl a n' m' ρ ρ' _ hn.ag.2.1 (A.ok _ _ _ _ _ _ d1 d2 q2)
       show SV.fits m' ρ' (A.cells ((A.lst n el).getD e A.dflt)) v
       rw[A.lst_getD _ _ _ he]
       simpa only [El.get,d1] using q4
   ·cases hr
  ·rename_i s _
   split at hr
   ·rename_i a ps' hd
    simp only[Option.some.injEq,Prod.mk.injEq] at hr
    obtain ⟨rfl,rfl,rfl,rfl⟩:=hr
    refine ⟨fun k so h=>by simp at h,fun n m ρ ρ' x hn _ hf=>?_⟩
    obtain ⟨y,r,rfl,hy,hr'⟩:=q05 hf
    exact ⟨(Dv.list A).cl a n m ρ ρ' y hn.ag.2.1 ((Dv.list A).ok _ _ _ _ _ _ hd hp hy),by have:=q0i hr';subst this;trivial⟩
   ·cases hr
  ·cases hr
 shf b b' g n m ρ ρ' hm _ _:=⟨fun x hf=>by
  obtain ⟨y,r,rfl,hy,hr'⟩:=q05 hf
  exact ⟨(Dv.list A).cl g n m ρ ρ' y hm hy,by have:=q0i hr';subst this;trivial⟩,q4n⟩
 putOk _ _ _ h:=h
def CT.map (ka va:Bool) (K:El α) (V:El β):CT (List (α×β×Int)×Nat) where
 R:=1
 sz:=1
 cells b _:=[.mp b]
 blks _ g:=[.map K.sz V.sz ka va (.fn ((El.ent K V).els g.1)) g.1.length g.2 false]
 read h l:=match l with
  | [.mp j]=>match h.get j with
   | .map ks vs ka' va' el m clk _=>bif Nat.beq ks K.sz&&(Nat.beq vs V.sz&&(ka==ka'&&va==va')) then some (((El.ent K V).lstE m el,clk),(El.ent K V).okE m el,[some j],[]) else none
   | _=>none
  | _=>none
 put b g:=.ret ([.mp b],[.map K.sz V.sz ka va (.fn ((El.ent K V).els g.1)) g.1.length g.2 false])
 blen _ _:=rfl
 clen _ _:=rfl
 ilen h l g ps ids fzs hr:=by
  split at hr
  ·split at hr
   ·rename_i j ks vs ka' va' el m clk pd hg
    cases hb:Nat.beq ks K.sz&&(Nat.beq vs V.sz&&(ka==ka'&&va==va')) with
    | false=>rw[hb] at hr;cases hr
    | true=>
     rw[hb] at hr
     simp only[cond_true,Option.some.injEq,Prod.mk.injEq] at hr
     rw[← hr.2.2.1];rfl
   ·cases hr
  ·cases hr
 ok N k0 h l g ps ids fzs hr hp:=by
  split at hr
  ·rename_i j
   split at hr
   ·rename_i ks vs ka' va' el m clk pd hg
    cases hb:Nat.beq ks K.sz&&(Nat.beq vs V.sz&&(ka==ka'&&va==va')) with
    | false=>rw[hb] at hr;cases hr
    | true=>
     rw[hb] at hr
     simp only[Bool.and_eq_true,beq_iff_eq] at hb
     obtain ⟨b1,b2,b3,b4⟩:=hb
     have e1:=q03 b1
     have e2:=q03 b2
     subst e1;subst e2;subst b3;subst b4
     simp only[cond_true,Option.some.injEq,Prod.mk.injEq] at hr
     obtain ⟨rfl,rfl,rfl,rfl⟩:=hr
     have hk:∀ e,e<m→(El.ent K V).Ok (el e):=El.okE_ok _ m el hp
     rw[El.lstE_eq]
     refine ⟨fun k so hso=>?_,fun n' m' ρ ρ' x hn hz hf=>?_⟩
     ·cases k with
      | succ k=>simp at hso
      | zero=>
       simp only[List.getElem?_cons_zero,Option.some.injEq] at hso
       subst hso
       refine .inr ⟨j,rfl,by rw[hg];exact fun _ h=>h,fun n' m' ρ ρ' L o hn hz hf=>?_⟩
       rw[hg] at hf
       obtain ⟨f1,f2,⟨es,f3,f4,f5,f6⟩,_⟩:=hf
       rw[El.lst_length]
       refine ⟨f1,f2,⟨es,f3,f4,f5,fun e he=>?_⟩,fun h=>by cases h⟩
       obtain ⟨y,kc,vc,q1,q2,q3⟩:=f6 e he
       obtain ⟨a,ps,d1,d2⟩:=hk e he
       refine ⟨y,kc,vc,q1,?_,q3⟩
       have:=(El.ent K V).cl a n' m' ρ ρ' _ hn.ag.2.1 ((El.ent K V).ok _ _ _ _ _ _ d1 d2 q2)
       show SV.fits m' ρ' ((El.ent K V).cells (((El.ent K V).lst m el).getD e (El.ent K V).dflt)) _
       rw[El.lst_getD _ _ _ _ he]
       simpa only [El.get,d1] using this
     ·obtain ⟨y,r,rfl,hy,hr'⟩:=q05 hf
      refine ⟨⟨by have:=hn.le;simp only[List.length_cons,List.length_nil] at this;omega,?_⟩,by have:=q0i hr';subst this;trivial⟩
      have:=hn.yes 0 j rfl
      rw[show N+k0+0=N+k0 from rfl] at this
      rw[this]
      exact hy.2
   ·cases hr
  ·cases hr
 shf b b' g n m ρ ρ' hm hk hb:=by
  have h0:=hk 0 (by omega)
  simp only[Nat.add_zero] at h0
  refine ⟨fun x hf=>?_,q8f (fun _=>Iff.rfl) (fun L o hf=>?_) q4n⟩
  ·obtain ⟨y,r,rfl,hy,hr'⟩:=q05 hf
   refine ⟨⟨by omega,?_⟩,by have:=q0i hr';subst this;trivial⟩
   rw[h0]
   exact hy.2
  ·obtain ⟨f1,f2,⟨es,f3,f4,f5,f6⟩,f7⟩:=hf
   refine ⟨f1,f2,⟨es,f3,f4,f5,fun e he=>?_⟩,f7⟩
   obtain ⟨y,kc,vc,q1,q2,q3⟩:=f6 e he
   exact ⟨y,kc,vc,q1,(El.ent K V).cl _ _ _ _ _ _ hm q2,q3⟩
 putOk _ _ _ h:=h
theorem Rn.tail {N k0 m j:Nat} {ids:List (Option Nat)} {ρ ρ':Rh} (h:Rn N k0 (some j :: ids) m ρ ρ'):Rn N (k0+1) ids m ρ ρ':=Rn.right (is:=[some j]) h
def CT.ptr (t:TypeId) (C:CT κ):CT κ where
 R:=C.R+1
 sz:=1
 cells b _:=[.p b 0]
 blks b g:=.cells (C.cells (b+1) g) t :: C.blks (b+1) g
 read h l:=match l with
  | [.p j 0]=>match h.get j with
   | .cells xs t'=>bif Nat.beq t' t then match C.read h xs with
    | some (g,ps,ids,fzs)=>some (g,ps,some j :: ids,fzs)
    | none=>none else none
   | _=>none
  | _=>none
 put b g:=(C.put (b+1) g).bind fun y=>.ret ([.p b 0],.cells y.1 t :: y.2)
 blen b g:=by simp[C.blen]
 clen _ _:=rfl
 ilen h l g ps ids fzs hr:=by
  split at hr
  ·split at hr
   ·rename_i j xs t' hg
    cases hb:Nat.beq t' t with
    | false=>rw[hb] at hr;cases hr
    | true=>
     rw[hb] at hr
     simp only[cond_true] at hr
     split at hr
     ·rename_i g' ps' ids' fz' hc
      simp only[Option.some.injEq,Prod.mk.injEq] at hr
      rw[← hr.2.2.1,List.length_cons,C.ilen _ _ _ _ _ _ hc]
     ·cases hr
   ·cases hr
  ·cases hr
 ok N k0 h l g ps ids fzs hr hp:=by
  split at hr
  ·rename_i j
   split at hr
   ·rename_i xs t' hg
    cases hb:Nat.beq t' t with
    | false=>rw[hb] at hr;cases hr
    | true=>
     have:=q03 hb
     subst this
     rw[hb] at hr
     simp only[cond_true] at hr
     split at hr
     ·rename_i g' ps' ids' fz' hc
      simp only[Option.some.injEq,Prod.mk.injEq] at hr
      obtain ⟨rfl,rfl,rfl,rfl⟩:=hr
      have hC:=C.ok N (k0+1) h xs g' ps' ids' fz' hc hp
      rw[show N+(k0+1)=N+k0+1 by omega] at hC
      refine ⟨fun k so hso=>?_,fun n' m' ρ ρ' x hn hz hf=>?_⟩
      ·cases k with
       | succ k=>
        rcases hC.blk k so (by simpa using hso) with ⟨h1,h2⟩ | ⟨i,h1,h2,h3⟩
        ·exact .inl ⟨by simpa using h1,h2⟩
        ·exact .inr ⟨i,by simpa using h1,h2,fun n m ρ ρ' L o hn hz=>h3 n m ρ ρ' L o hn.tail hz⟩
       | zero=>
        simp only[List.getElem?_cons_zero,Option.some.injEq] at hso
        subst hso
        refine .inr ⟨j,rfl,by rw[hg];exact fun _ _=>trivial,fun n' m' ρ ρ' L o hn hz hf=>?_⟩
        rw[hg] at hf
        obtain ⟨f1,f2,l,f3,f4⟩:=hf
        exact ⟨f1,f2,l,f3,hC.fit n' m' ρ ρ' l hn.tail hz f4⟩
      ·obtain ⟨y,r,rfl,hy,hr'⟩:=q05 hf
       refine ⟨⟨by have:=hn.le;simp only[List.length_cons,List.length_nil] at this;omega,?_⟩,by have:=q0i hr';subst this;trivial⟩
       have:=hn.yes 0 j rfl
       rw[show N+k0+0=N+k0 from rfl] at this
       rw[this]
       exact hy.2
     ·cases hr
   ·cases hr
  ·cases hr
 shf b b' g n m ρ ρ' hm hk hb:=by
  have h0:=hk 0 (by omega)
  simp only[Nat.add_zero] at h0
  obtain ⟨s1,s2⟩:=C.shf (b+1) (b'+1) g n m ρ ρ' hm (fun k hk'=>by
   have:=hk (k+1) (by omega)
   rw[show b'+1+k=b'+(k+1) by omega,show b+1+k=b+(k+1) by omega]
   exact this) (by omega)
  refine ⟨fun x hf=>?_,q8f (fun _=>Iff.rfl) (fun L o hf=>?_) s2⟩
  ·obtain ⟨y,r,rfl,hy,hr'⟩:=q05 hf
   refine ⟨⟨by omega,?_⟩,by have:=q0i hr';subst this;trivial⟩
   rw[h0]
   exact hy.2
  ·obtain ⟨f1,f2,l,f3,f4⟩:=hf
   exact ⟨f1,f2,l,f3,s1 l f4⟩
 putOk b g K h:=C.putOk (b+1) g _ (Tr.holds_bind h)
def CT.pair (A:CT α) (B:CT β):CT (α×β) where
 R:=A.R+B.R
 sz:=A.sz+B.sz
 cells b g:=A.cells b g.1++B.cells (b+A.R) g.2
 blks b g:=A.blks b g.1++B.blks (b+A.R) g.2
 read h l:=match A.read h (l.take A.sz) with
  | some (a,ps,is,fs)=>match B.read h (l.drop A.sz) with
   | some (b,qs,js,gs)=>some ((a,b),ps++qs,is++js,fs++gs)
   | none=>none
  | none=>none
 put b g:=(A.put b g.1).bind fun x=>(B.put (b+A.R) g.2).bind fun y=>.ret (x.1++y.1,x.2++y.2)
 blen b g:=by simp[A.blen,B.blen]
 clen b g:=by simp[A.clen,B.clen]
 ilen h l g ps ids fzs hr:=by
  split at hr
  ·rename_i a ps0 is fs ha
   split at hr
   ·rename_i b qs js gs hb
    simp only[Option.some.injEq,Prod.mk.injEq] at hr
    obtain ⟨rfl,rfl,rfl,rfl⟩:=hr
    simp[A.ilen _ _ _ _ _ _ ha,B.ilen _ _ _ _ _ _ hb]
   ·cases hr
  ·cases hr
 ok N k0 h l g ps ids fzs hr hp:=by
  split at hr
  ·rename_i a ps0 is fs ha
   split at hr
   ·rename_i b qs js gs hb
    simp only[Option.some.injEq,Prod.mk.injEq] at hr
    obtain ⟨rfl,rfl,rfl,rfl⟩:=hr
    have ra:=A.ok N k0 _ _ _ _ _ _ ha fun p h=>hp p (List.mem_append_left _ h)
    have rb:=B.ok N (k0+A.R) _ _ _ _ _ _ hb fun p h=>hp p (List.mem_append_right _ h)
    have la:=A.ilen _ _ _ _ _ _ ha
    have lr:=A.blen (N+k0) a
    have e:N+k0+A.R=N+(k0+A.R):=by omega
    simp only[e]
    refine ⟨fun k so h=>?_,fun n m ρ ρ' x hn hz hf=>?_⟩
    ·by_cases hk:k<A.R
     ·rw[List.getElem?_append_left (by omega)] at h
      rw[List.getElem?_append_left (by omega)]
      rcases ra.blk k so h with h1 | ⟨j,h1,h2,h3⟩
      ·exact .inl h1
      ·exact .inr ⟨j,h1,h2,fun n m ρ ρ' L o hr hz=>h3 n m ρ ρ' L o hr.left hz.left⟩
     ·rw[List.getElem?_append_right (by omega)] at h
      rw[List.getElem?_append_right (by omega),la]
      rw[lr] at h
      rcases rb.blk (k - A.R) so h with h1 | ⟨j,h1,h2,h3⟩
      ·exact .inl h1
      ·exact .inr ⟨j,h1,h2,fun n m ρ ρ' L o hr hz=>h3 n m ρ ρ' L o (la▸hr.right) hz.right⟩
    ·have f1:=ra.fit n m ρ ρ' _ hn.left hz.left (q0p A.sz hf)
     have f2:=rb.fit n m ρ ρ' _ (la▸hn.right) hz.right (q0m A.sz hf)
     have:=q0s f1 f2
     rwa [List.take_append_drop] at this
   ·cases hr
  ·cases hr
 shf b b' g n m ρ ρ' hm hk hb:=by
  obtain ⟨s1,s2⟩:=A.shf b b' g.1 n m ρ ρ' hm (fun k hk'=>hk k (by omega)) (by omega)
  obtain ⟨t1,t2⟩:=B.shf (b+A.R) (b'+A.R) g.2 n m ρ ρ' hm (fun k hk'=>by
   have:=hk (A.R+k) (by omega)
   rw[show b'+A.R+k=b'+(A.R+k) by omega,show b+A.R+k=b+(A.R+k) by omega]
   exact this) (by omega)
  refine ⟨fun x hf=>?_,qnp (by rw[A.blen,A.blen]) s2 t2⟩
  have h1:=q0p A.sz hf
  have h2:=q0m A.sz hf
  rw[List.take_left' (A.clen _ _)] at h1
  rw[List.drop_left' (A.clen _ _)] at h2
  have:=q0s (s1 _ h1) (t1 _ h2)
  rwa [List.take_append_drop] at this
 putOk b g K h:=B.putOk _ _ _ (Tr.holds_bind (A.putOk _ _ _ (Tr.holds_bind h)))
def CT.iso (A:CT α) (f:α→β) (g:β→α) (hgf:∀ a,g (f a)=a):CT β where
 R:=A.R
 sz:=A.sz
 cells b d:=A.cells b (g d)
 blks b d:=A.blks b (g d)
 read h l:=match A.read h l with
  | some (a,ps,is,fs)=>some (f a,ps,is,fs)
  | none=>none
 put b d:=A.put b (g d)
 blen b d:=A.blen _ _
 clen b d:=A.clen _ _
 ilen h l d ps ids fzs hr:=by
  split at hr
  ·rename_i a ps0 is fs ha
   simp only[Option.some.injEq,Prod.mk.injEq] at hr
   obtain ⟨rfl,rfl,rfl,rfl⟩:=hr
   exact A.ilen _ _ _ _ _ _ ha
  ·cases hr
 ok N k0 h l d ps ids fzs hr hp:=by
  split at hr
  ·rename_i a ps0 is fs ha
   simp only[Option.some.injEq,Prod.mk.injEq] at hr
   obtain ⟨rfl,rfl,rfl,rfl⟩:=hr
   rw[hgf]
   exact A.ok N k0 _ _ _ _ _ _ ha hp
  ·cases hr
 shf b b' d n m ρ ρ':=A.shf b b' (g d) n m ρ ρ'
 putOk b d K h:=A.putOk b (g d) K h
def CT.opt (A:CT α) (d:α) (h1:A.sz=1):CT (Option α) where
 R:=A.R
 sz:=1
 cells b g:=match g with
  | some a=>A.cells b a
  | none=>[.k (.pointer none)]
 blks b g:=match g with
  | some a=>A.blks b a
  | none=>List.replicate A.R .dead
 read h l:=match l with
  | [.k (.pointer none)]=>some (none,[],List.replicate A.R none,[])
  | l=>match A.read h l with
   | some (a,ps,is,fs)=>some (some a,ps,is,fs)
   | none=>none
 put b g:=.br g.isSome (A.put b (g.getD d)) (.ret ([.k (.pointer none)],List.replicate A.R .dead))
 blen b g:=by cases g <;> simp[A.blen]
 clen b g:=by cases g <;> simp[A.clen,h1]
 ilen h l g ps ids fzs hr:=by
  split at hr
  ·simp only[Option.some.injEq,Prod.mk.injEq] at hr
   rw[← hr.2.2.1];simp
  ·split at hr
   ·rename_i a ps0 is fs ha
    simp only[Option.some.injEq,Prod.mk.injEq] at hr
    obtain ⟨rfl,rfl,rfl,rfl⟩:=hr
    exact A.ilen _ _ _ _ _ _ ha
   ·cases hr
 ok N k0 h l g ps ids fzs hr hp:=by
  split at hr
  ·simp only[Option.some.injEq,Prod.mk.injEq] at hr
   obtain ⟨rfl,rfl,rfl,rfl⟩:=hr
   refine ⟨fun k so hso=>?_,fun n m ρ ρ' x _ _ hf=>?_⟩
   ·have hk:k<A.R:=by
     have:=(List.getElem?_eq_some_iff.1 hso).1
     simpa using this
    rw[List.getElem?_replicate,if_pos hk] at hso
    simp only[Option.some.injEq] at hso
    exact .inl ⟨by rw[List.getElem?_replicate,if_pos hk],.inl hso.symm⟩
   ·obtain ⟨y,r,rfl,hy,hr'⟩:=q05 hf
    have:=q0i hr'
    subst this
    exact ⟨hy,trivial⟩
  ·split at hr
   ·rename_i a ps0 is fs ha
    simp only[Option.some.injEq,Prod.mk.injEq] at hr
    obtain ⟨rfl,rfl,rfl,rfl⟩:=hr
    exact A.ok N k0 _ _ _ _ _ _ ha hp
   ·cases hr
 shf b b' g n m ρ ρ' hm hk hb:=by
  cases g with
  | some a=>exact A.shf b b' a n m ρ ρ' hm hk hb
  | none=>
   refine ⟨fun x hf=>?_,fun k so hso=>⟨so,hso,fun _=>Iff.rfl,fun L o _=>?_⟩⟩
   ·obtain ⟨y,r,rfl,hy,hr'⟩:=q05 hf
    have:=q0i hr'
    subst this
    exact ⟨hy,trivial⟩
   ·have hk:k<A.R:=by
     have:=(List.getElem?_eq_some_iff.1 hso).1
     simpa using this
    rw[List.getElem?_replicate,if_pos hk] at hso
    simp only[Option.some.injEq] at hso
    rw[← hso];trivial
 putOk b g K h:=by
  cases g with
  | some a=>exact A.putOk b a K (h.1 rfl)
  | none=>exact h.2 rfl
end
section
variable {N:Nat} {κ:Type}
def noFz:Option (κ×List Prop×List (Option Nat)×List Nat)→Option (κ×List Prop×List (Option Nat))
 | some (g,ps,ids,[])=>some (g,ps,ids)
 | _=>none
theorem qhp {r:Option (κ×List Prop×List (Option Nat)×List Nat)} {g:κ} {ps:List Prop} {ids:List (Option Nat)} (h:noFz r=some (g,ps,ids)):r=some (g,ps,ids,[]):=by
 unfold noFz at h
 split at h
 ·simp only[Option.some.injEq,Prod.mk.injEq] at h
  obtain ⟨rfl,rfl,rfl⟩:=h
  rfl
 ·cases h
theorem qmk {n:Nat} {h:SH} {ρ ρ':Rh}:FzR n h [] ρ ρ':=fun j hj=>by cases hj
theorem qo1 {k0:Nat} {h:SH} {ids:List (Option Nat)} {l cs:List SV} {blks:List SO} (hC:CRel N k0 h ids [] l cs blks):∀ (k:Nat) (so:SO),blks[k]?=some so→(ids[k]?=some none∧NilSO so)∨∃ j:Nat,ids[k]?=some (some j)∧(∀ L,so.own L→(h.get j).own L)∧∀ (n m:Nat) (ρ ρ':Rh) (L:Lc) (o:Option Obj),Rn N k0 ids m ρ ρ'→(h.get j).fit n ρ L o→so.fit m ρ' L o:=fun k so h=>by
 rcases hC.blk k so h with h1 | ⟨j,h1,h2,h3⟩
 ·exact .inl h1
 ·exact .inr ⟨j,h1,h2,fun n m ρ ρ' L o hn hf=>h3 n m ρ ρ' L o hn qmk hf⟩
def LP.ct (N i:Nat) (C:CT κ) (h1:C.sz=1):LP N κ where
 R:=C.R
 read σ:=noFz (C.read σ.h [σ.slot i])
 ents k0 g:=[(i,(C.cells (N+k0) g).headD .u)]
 blks k0 g:=C.blks (N+k0) g
 objs _ _:=[]
 es:=[i]
 os:=[]
 eseq _ _:=rfl
 oseq _ _:=rfl
 blen k g:=C.blen _ _
 ilen σ g ps ids h:=C.ilen _ _ _ _ _ _ (qhp h)
 ok k0 σ g ps ids h hp:=by
  have hC:=C.ok N k0 _ _ _ _ _ _ (qhp h) hp
  refine ⟨qo1 hC,fun id so h=>by simp at h,fun j s hs n m ρ ρ' x hn hf=>?_⟩
  simp only[List.mem_singleton,Prod.mk.injEq] at hs
  obtain ⟨rfl,rfl⟩:=hs
  have:=hC.fit n m ρ ρ' [x] hn qmk ⟨hf,trivial⟩
  have hl:=C.clen (N+k0) g
  generalize C.cells (N+k0) g=cs at this hl
  obtain ⟨c,rfl⟩:=List.length_eq_one_iff.1 (hl.trans h1)
  exact this.1
def LP.ctO (N id t:Nat) (C:CT κ):LP N κ where
 R:=C.R
 read σ:=match σ.h.get id with
  | .cells xs t'=>bif Nat.beq t' t then noFz (C.read σ.h xs) else none
  | _=>none
 ents _ _:=[]
 blks k0 g:=C.blks (N+k0) g
 objs k0 g:=[(id,.cells (C.cells (N+k0) g) t)]
 es:=[]
 os:=[id]
 eseq _ _:=rfl
 oseq _ _:=rfl
 blen k g:=C.blen _ _
 ilen σ g ps ids h:=by
  split at h
  ·rename_i xs t' _
   cases hb:Nat.beq t' t with
   | false=>rw[hb] at h;cases h
   | true=>rw[hb] at h;exact C.ilen _ _ _ _ _ _ (qhp h)
  ·cases h
 ok k0 σ g ps ids h hp:=by
  split at h
  ·rename_i xs t' hg
   cases hb:Nat.beq t' t with
   | false=>rw[hb] at h;cases h
   | true=>
    rw[hb] at h
    have:=q03 hb
    subst this
    have hC:=C.ok N k0 _ _ _ _ _ _ (qhp h) hp
    refine ⟨qo1 hC,fun id' so h=>?_,fun j s h=>by simp at h⟩
    simp only[List.mem_singleton,Prod.mk.injEq] at h
    obtain ⟨rfl,rfl⟩:=h
    rw[hg]
    refine ⟨fun _ h=>h,fun n m ρ ρ' L o hn hf=>?_⟩
    obtain ⟨f1,f2,l,f3,f4⟩:=hf
    exact ⟨f1,f2,l,f3,hC.fit n m ρ ρ' l hn qmk f4⟩
  ·cases h
end
end Go.Sx

namespace Go.Sx
open Go.RowKit
variable [Env]
def frzC (c:Con):Con:=fun args h=>asks (frzA h args).2.2 (c (frzA h args).1 (frzA h args).2.1)
section
variable {P:Program} {M:Nat→Prop} {w0 w:World}
theorem qmm {f:Nat} {c:Con} (hc:FnOk P f c):FnOk P f (frzC c):=by
 intro M w0 w ρ h args vs K hK hm hf
 obtain ⟨hq,hK⟩:=q1d hK
 obtain ⟨ρ1,a1,m1,f1⟩:=qmn hm hf hq
 have hnx:=(qfi args h).2
 refine (hc M w0 w ρ1 _ _ vs K hK m1 (by rw[hnx];exact f1)).mono ?_
 rintro e w' ⟨s,h',ρ',x,k1,k2,k3,k4,k5,k6⟩
 rw[hnx] at k2 k3
 exact ⟨s,h',ρ',x,k1,k2,a1.trans (Nat.le_refl _) k3,k4,k5,k6⟩
theorem frzC_b {c:Con} (hc:∀ args h,(c args h).Each fun y=>y.2=h):ConB (frzC c):=fun args h=>by
 have hb:=(qfi args h).1
 refine q2l ?_
 have:=eq_b (hc (frzA h args).1 (frzA h args).2.1)
 rw[hb] at this
 exact this
def fconR {γ δ:Type} (D:DA γ) (R:Dv δ) (fn:γ→δ) (pre:γ→List Prop):BCon:=⟨frzC (conR D R fn pre),frzC_b (pconR D R fn pre).e⟩
theorem fconR_ok {f:Nat} {γ δ:Type} {D:DA γ} {R:Dv δ} {fn:γ→δ} {pre:γ→List Prop} (h:q04 P f D R fn pre):FnOk P f (fconR D R fn pre).g:=qmm (q1v h)
theorem qgt {α:Type} {K:α→Prop}:∀ {l:List Prop} {t:Tr α},(∀ p∈l,p)→t.Holds K→(asks l t).Holds K
 | [],_,_,h=>h
 | p :: r,t,hl,h=>⟨hl p (List.mem_cons_self ..),qgt (l:=r) (fun q hq=>hl q (List.mem_cons_of_mem _ hq)) h⟩
def conL {α γ δ:Type} (A:El α) (D:DA γ) (R:Dv δ) (fn:List α×γ→δ) (pre:List α×γ→List Prop):Con:=fun args h=>
 match args with
 | .ow i l :: rest=>match h.get i with
  | .row _ sz el m=>match Nat.beq sz A.sz with
   | true=>match D.dec rest with
    | some (g,ps)=>asks ((l≤m) :: (A.okE l el++(ps++pre (A.lstE l el,g)))) (.ret (R.enc (fn (A.lstE l el,g)),h.set i .dead))
    | none=>.bad 658
   | false=>.bad 659
  | _=>.bad 660
 | args=>frzC (conR (.cons (.list A) D) R fn pre) args h
theorem qn7 {f:Nat} {α γ δ:Type} {A:El α} {D:DA γ} {R:Dv δ} {fn:List α×γ→δ} {pre:List α×γ→List Prop} (hp:q04 P f (.cons (.list A) D) R fn pre):FnOk P f (conL A D R fn pre):=by
 intro M w0 w ρ h args vs K hK hm hf
 unfold conL at hK
 split at hK
 ·rename_i i l rest
  split at hK
  ·rename_i t sz el m hg
   split at hK
   ·rename_i hb
    split at hK
    ·rename_i g ps hd
     obtain ⟨hq,hK⟩:=q1d hK
     have hlm:l≤m:=hq _ (List.mem_cons_self ..)
     have hok:∀ e,e<l→A.Ok (el.at e):=A.okE_ok l el fun p h'=>hq p (List.mem_cons_of_mem _ (List.mem_append_left _ h'))
     have hps:∀ p∈ps,p:=fun p h'=>hq p (List.mem_cons_of_mem _ (List.mem_append_right _ (List.mem_append_left _ h')))
     have hpre:∀ p∈pre (A.lstE l el,g),p:=fun p h'=>hq p (List.mem_cons_of_mem _ (List.mem_append_right _ (List.mem_append_right _ h')))
     rw[A.lstE_eq] at hpre hK
     obtain ⟨y,ys,rfl,hy,hr⟩:=q05 hf
     have e1:frz1 h (.ow i l)=(.rs sz l el.at,h.set i .dead,[l≤m]):=by simp[frz1,hg]
     obtain ⟨ρ1,a1,m1,f1⟩:=frz1_ok (s:=.ow i l) hm hy (by rw[e1];intro p hp';simp only[List.mem_singleton] at hp';rw[hp'];exact hlm)
     rw[e1] at m1 f1
     have hdec:(DA.cons (.list A) D).dec (.rs sz l el.at :: rest)=some ((A.lst l el.at,g),[∀ e,e<l→A.Ok (el.at e)]++ps):=by
      simp only[DA.cons,Dv.list,hb,hd,cond_true]
     have hK1:(conR (.cons (.list A) D) R fn pre (.rs sz l el.at :: rest) (h.set i .dead)).Holds K:=by
      unfold conR
      rw[hdec]
      refine qgt (fun p h'=>?_) hK
      rcases List.mem_append.1 h' with h' | h'
      ·rcases List.mem_append.1 h' with h' | h'
       ·simp only[List.mem_singleton] at h'
        rw[h'];exact hok
       ·exact hps p h'
      ·exact hpre p h'
     refine (q1v hp M w0 w ρ1 (h.set i .dead) (.rs sz l el.at :: rest) (y :: ys) K hK1 m1 ⟨f1,SV.fits_mono (Nat.le_refl _) a1 _ _ hr⟩).mono ?_
     rintro e w' ⟨s,h',ρ',x,k1,k2,k3,k4,k5,k6⟩
     exact ⟨s,h',ρ',x,k1,k2,a1.trans (Nat.le_refl _) k3,k4,k5,k6⟩
    ·exact hK.elim
   ·exact hK.elim
  ·exact hK.elim
 ·exact qmm (q1v hp) M w0 w ρ h _ vs K hK hm hf
theorem conL_b {α γ δ:Type} {A:El α} {D:DA γ} {R:Dv δ} {fn:List α×γ→δ} {pre:List α×γ→List Prop}:ConB (conL A D R fn pre):=fun args h=>by
 unfold conL
 split
 ·split
  ·split
   ·split
    ·exact q2l rfl
    ·trivial
   ·trivial
  ·trivial
 ·exact frzC_b (pconR (.cons (.list A) D) R fn pre).e _ h
def lconR {α γ δ:Type} (A:El α) (D:DA γ) (R:Dv δ) (fn:List α×γ→δ) (pre:List α×γ→List Prop):BCon:=⟨conL A D R fn pre,conL_b⟩
theorem qce {f:Nat} {α δ:Type} {A:Dv α} {R:Dv δ} {fn:α→δ} {pre:α→List Prop} (h:q04 P f (.one A) R fn pre):q04 P f (.cons A .none) R (fun g=>fn g.1) (fun g=>pre g.1):=fun w F g vs h1 hE h2 h3=>h w F g.1 vs h1 hE h2 h3
def okAll {α:Type} (A:El α) (n:Nat) (el:Nat→List SV):Bool:=(List.range n).all fun e=>match A.decs (el e) with
 | some (_,[])=>true
 | _=>false
theorem okAll_ok {α:Type} {A:El α} {n:Nat} {el:Nat→List SV} (h:okAll A n el=true):∀ e,e<n→A.Ok (el e):=fun e he=>by
 have:=List.all_eq_true.1 h e (by simpa using he)
 split at this
 ·rename_i a hd
  exact ⟨a,[],hd,by simp⟩
 ·cases this
def Dv.listB {α:Type} (A:El α):Dv (List α) where
 dec s:=match s with
  | .rs sz n el=>bif Nat.beq sz A.sz&&okAll A n el then some (A.lst n el,[]) else none
  | _=>none
 enc:=(Dv.list A).enc
 bd:=(Dv.list A).bd
 cl:=(Dv.list A).cl
 ok s a ps n ρ x hd hp hf:=by
  split at hd
  ·rename_i sz m el
   cases hb:(Nat.beq sz A.sz&&okAll A m el) with
   | false=>rw[hb] at hd;cases hd
   | true=>
    rw[hb] at hd
    simp only[cond_true,Option.some.injEq,Prod.mk.injEq] at hd
    obtain ⟨rfl,rfl⟩:=hd
    simp only[Bool.and_eq_true] at hb
    exact (Dv.list A).ok (.rs sz m el) _ [∀ e,e<m→A.Ok (el e)] n ρ x (by simp[Dv.list,hb.1]) (by
     intro p hp
     simp only[List.mem_singleton] at hp
     subst hp
     exact okAll_ok hb.2) hf
  ·cases hd
 fb:=(Dv.list A).fb
end
end Go.Sx

namespace Go.Sx
open Go.RowKit
variable [Env]
structure TA (κ:Type) where
 q:Nat
 R:Nat
 objs:Nat→κ→List SO
 blks:Nat→κ→List SO
 read:SH→List Nat→Option (κ×List Prop×List (Option Nat)×List Nat)
 olen:∀ b g,(objs b g).length=q
 blen:∀ b g,(blks b g).length=R
 ilen:∀ h rs g ps ids fzs,read h rs=some (g,ps,ids,fzs)→ids.length=R∧rs.length=q
 ok:∀ N k0 h rs g ps ids fzs,read h rs=some (g,ps,ids,fzs)→(∀ p∈ps,p)→CRel N k0 h ids fzs [] [] (blks (N+k0) g)∧∀ (j r:Nat) (so:SO),rs[j]?=some r→(objs (N+k0) g)[j]?=some so→(∀ L,(h.get r).own L)∧(∀ L,so.own L)∧∀ (n m:Nat) (ρ ρ':Rh) (L:Lc) (o:Option Obj),Rn N k0 ids m ρ ρ'→FzR n h fzs ρ ρ'→(h.get r).fit n ρ L o→so.fit m ρ' L o
 shf:∀ (b b':Nat) (g:κ) (n m:Nat) (ρ ρ':Rh),(∀ c o,ρ.mem c=some o→ρ'.mem c=some o)→(∀ k,k<R→ρ' (b'+k)=ρ (b+k))→b'+R≤m→ShfB n m ρ ρ' (objs b g) (objs b' g)∧ShfB n m ρ ρ' (blks b g) (blks b' g)
abbrev TA.T {κ:Type} (_:TA κ):Type:=κ
def TA.nil:TA Unit where
 q:=0
 R:=0
 objs _ _:=[]
 blks _ _:=[]
 read _ rs:=match rs with
  | []=>some ((),[],[],[])
  | _=>none
 olen _ _:=rfl
 blen _ _:=rfl
 ilen h rs g ps ids fzs hr:=by
  split at hr
  ·simp only[Option.some.injEq,Prod.mk.injEq] at hr
   rw[← hr.2.2.1];exact ⟨rfl,rfl⟩
  ·cases hr
 ok N k0 h rs g ps ids fzs hr _:=⟨⟨fun k so h=>by simp at h,fun _ _ _ _ _ _ _ h=>by cases q0i h;trivial⟩,fun j r so _ h=>by simp at h⟩
 shf _ _ _ _ _ _ _ _ _ _:=⟨q4n,q4n⟩
def TA.one {κ:Type} (t:TypeId) (C:CT κ):TA κ where
 q:=1
 R:=C.R
 objs b g:=[.cells (C.cells b g) t]
 blks b g:=C.blks b g
 read h rs:=match rs with
  | [r]=>match h.get r with
   | .cells xs t'=>bif Nat.beq t' t then C.read h xs else none
   | _=>none
  | _=>none
 olen _ _:=rfl
 blen b g:=C.blen b g
 ilen h rs g ps ids fzs hr:=by
  split at hr
  ·split at hr
   ·rename_i xs t' hg
    cases hb:Nat.beq t' t with
    | false=>rw[hb] at hr;cases hr
    | true=>rw[hb] at hr;exact ⟨C.ilen _ _ _ _ _ _ hr,rfl⟩
   ·cases hr
  ·cases hr
 ok N k0 h rs g ps ids fzs hr hp:=by
  split at hr
  ·rename_i r
   split at hr
   ·rename_i xs t' hg
    cases hb:Nat.beq t' t with
    | false=>rw[hb] at hr;cases hr
    | true=>
     have:=q03 hb
     subst this
     rw[hb] at hr
     have hC:=C.ok N k0 h xs g ps ids fzs hr hp
     refine ⟨⟨hC.blk,fun _ _ _ _ _ _ _ h=>by cases q0i h;trivial⟩,fun j r' so h1 h2=>?_⟩
     cases j with
     | succ j=>simp at h2
     | zero=>
      simp only[List.getElem?_cons_zero,Option.some.injEq] at h1 h2
      subst h1;subst h2
      rw[hg]
      refine ⟨fun _=>trivial,fun _=>trivial,fun n m ρ ρ' L o hn hz hf=>?_⟩
      obtain ⟨f1,f2,l,f3,f4⟩:=hf
      exact ⟨f1,f2,l,f3,hC.fit n m ρ ρ' l hn hz f4⟩
   ·cases hr
  ·cases hr
 shf b b' g n m ρ ρ' hm hk hb:=by
  obtain ⟨s1,s2⟩:=C.shf b b' g n m ρ ρ' hm hk hb
  exact ⟨q8f (fun _=>Iff.rfl) (fun L o hf=>by
   obtain ⟨f1,f2,l,f3,f4⟩:=hf
   exact ⟨f1,f2,l,f3,s1 l f4⟩) q4n,s2⟩
structure TR (δ:Type) where
 R:Nat
 val:Nat→δ→SV
 blks:Nat→δ→List SO
 read:SH→SV→Option (δ×List Prop×List (Option Nat)×List Nat)
 put:Nat→δ→Tr (SV×List SO)
 blen:∀ b g,(blks b g).length=R
 ilen:∀ h s g ps ids fzs,read h s=some (g,ps,ids,fzs)→ids.length=R
 ok:∀ N k0 h s g ps ids fzs,read h s=some (g,ps,ids,fzs)→(∀ p∈ps,p)→CRel N k0 h ids fzs [s] [val (N+k0) g] (blks (N+k0) g)
 shf:∀ (b b':Nat) (g:δ) (n m:Nat) (ρ ρ':Rh),(∀ c o,ρ.mem c=some o→ρ'.mem c=some o)→(∀ k,k<R→ρ' (b'+k)=ρ (b+k))→b'+R≤m→(∀ x,(val b g).fit n ρ x→(val b' g).fit m ρ' x)∧ShfB n m ρ ρ' (blks b g) (blks b' g)
 putOk:∀ b g (K:SV×List SO→Prop),(put b g).Holds K→K (val b g,blks b g)
abbrev TR.T {δ:Type} (_:TR δ):Type:=δ
section
variable {δ κ:Type}
def TR.pure (D:Dv δ):TR δ where
 R:=0
 val _ r:=D.enc r
 blks _ _:=[]
 read _ s:=match D.dec s with
  | some (r,ps)=>some (r,ps,[],[])
  | none=>none
 put _ r:=.ret (D.enc r,[])
 blen _ _:=rfl
 ilen h s g ps ids fzs hr:=by
  split at hr
  ·simp only[Option.some.injEq,Prod.mk.injEq] at hr;rw[← hr.2.2.1];rfl
  ·cases hr
 ok N k0 h s g ps ids fzs hr hp:=by
  split at hr
  ·rename_i a ps' hd
   simp only[Option.some.injEq,Prod.mk.injEq] at hr
   obtain ⟨rfl,rfl,rfl,rfl⟩:=hr
   refine ⟨fun k so h=>by simp at h,fun n m ρ ρ' x hn _ hf=>?_⟩
   obtain ⟨y,r,rfl,hy,hr'⟩:=q05 hf
   exact ⟨D.cl a n m ρ ρ' y hn.ag.2.1 (D.ok _ _ _ _ _ _ hd hp hy),by cases q0i hr';trivial⟩
  ·cases hr
 shf b b' g n m ρ ρ' hm _ _:=⟨fun x hf=>D.cl g n m ρ ρ' x hm hf,q4n⟩
 putOk _ _ _ h:=h
def TR.ct (C:CT κ) (h1:C.sz=1):TR κ where
 R:=C.R
 val b g:=(C.cells b g).headD .u
 blks b g:=C.blks b g
 read h s:=C.read h [s]
 put b g:=(C.put b g).bind fun y=>.ret (y.1.headD .u,y.2)
 blen b g:=C.blen b g
 ilen h s g ps ids fzs hr:=C.ilen _ _ _ _ _ _ hr
 ok N k0 h s g ps ids fzs hr hp:=by
  have hC:=C.ok N k0 h [s] g ps ids fzs hr hp
  have hl:=C.clen (N+k0) g
  refine ⟨hC.blk,fun n m ρ ρ' x hn hz hf=>?_⟩
  have:=hC.fit n m ρ ρ' x hn hz hf
  generalize C.cells (N+k0) g=cs at this hl
  obtain ⟨c,rfl⟩:=List.length_eq_one_iff.1 (hl.trans h1)
  exact this
 shf b b' g n m ρ ρ' hm hk hb:=by
  obtain ⟨s1,s2⟩:=C.shf b b' g n m ρ ρ' hm hk hb
  refine ⟨fun x hf=>?_,s2⟩
  have l1:=C.clen b g
  have l2:=C.clen b' g
  generalize C.cells b g=c1 at *
  generalize C.cells b' g=c2 at *
  obtain ⟨a1,rfl⟩:=List.length_eq_one_iff.1 (l1.trans h1)
  obtain ⟨a2,rfl⟩:=List.length_eq_one_iff.1 (l2.trans h1)
  exact (s1 [x] ⟨hf,trivial⟩).1
 putOk b g K h:=C.putOk b g _ (Tr.holds_bind h)
def TR.tup (C:CT κ):TR κ where
 R:=C.R
 val b g:=.tup (C.cells b g)
 blks b g:=C.blks b g
 read h s:=match s with
  | .tup xs=>C.read h xs
  | _=>none
 put b g:=(C.put b g).bind fun y=>.ret (.tup y.1,y.2)
 blen b g:=C.blen b g
 ilen h s g ps ids fzs hr:=by
  split at hr
  ·exact C.ilen _ _ _ _ _ _ hr
  ·cases hr
 ok N k0 h s g ps ids fzs hr hp:=by
  split at hr
  ·rename_i xs
   have hC:=C.ok N k0 h xs g ps ids fzs hr hp
   refine ⟨hC.blk,fun n m ρ ρ' x hn hz hf=>?_⟩
   obtain ⟨y,r,rfl,hy,hr'⟩:=q05 hf
   obtain ⟨l,rfl,hl⟩:=hy
   exact ⟨⟨l,rfl,hC.fit n m ρ ρ' l hn hz hl⟩,by cases q0i hr';trivial⟩
  ·cases hr
 shf b b' g n m ρ ρ' hm hk hb:=by
  obtain ⟨s1,s2⟩:=C.shf b b' g n m ρ ρ' hm hk hb
  exact ⟨fun x hf=>by
   obtain ⟨l,rfl,hl⟩:=hf
   exact ⟨l,rfl,s1 l hl⟩,s2⟩
 putOk b g K h:=C.putOk b g _ (Tr.holds_bind h)
end
def q2h (sos:List SO):SH:=⟨sos.length,whole (rowsL 0 sos),[]⟩
theorem q2t (sos:List SO) (k:Nat):(q2h sos).get k=(sos[k]?).getD .dead:=by
 have e:(q2h sos).get k=look .dead k (rowsL 0 sos):=by
  simp only[q2h,SH.get,lookE,q4f]
 obtain ⟨r1,r2⟩:=q6a (i:=k) (r:=sos) (k:=0) .dead
 rw[e]
 by_cases hk:k<sos.length
 ·obtain ⟨so,h1,h2⟩:=r1 k (by omega) hk
  rw[h2,h1];rfl
 ·rw[r2 (by omega),List.getElem?_eq_none (by omega)];rfl
def kill:List Nat→SH→SH
 | [],h=>h
 | j :: r,h=>kill r (h.set j .dead)
theorem kill_nx:∀ (l:List Nat) (h:SH),(kill l h).nx=h.nx
 | [],_=>rfl
 | _ :: r,h=>kill_nx r _
theorem qog:∀ (l:List Nat) (h:SH) (i:Nat),i∉l→(kill l h).get i=h.get i
 | [],_,_,_=>rfl
 | j :: r,h,i,hi=>by
  simp only[List.mem_cons,not_or] at hi
  show (kill r (h.set j .dead)).get i=_
  rw[qog r _ i hi.2,SH.get_set,if_neg hi.1]
section
variable {M:Nat→Prop} {w0 w w':World} {ρ:Rh} {h:SH}
open Classical in
theorem HM.freezeAll:∀ (l:List Nat) {h:SH} {ρ:Rh},HM M w0 ρ h w→∃ ρ':Rh,ρ'.lc=ρ.lc∧(∀ b o,ρ.mem b=some o→ρ'.mem b=some o)∧ρ'.lo=ρ.lo∧HM M w0 ρ' (kill l h) w∧∀ j∈l,(h.get j).own (ρ j)→ρ'.mem (ρ j).blk=w.heap[(ρ j).blk]?
 | [],h,ρ,hm=>⟨ρ,rfl,fun _ _ h=>h,rfl,hm,fun j hj=>by cases hj⟩
 | j :: r,h,ρ,hm=>by
  by_cases hown:(h.get j).own (ρ j)
  ·obtain ⟨o,ho⟩:=SO.fit_some (hm.ob j) hown
   have hfz:=hm.freeze hown ho
   obtain ⟨ρ',e1,e2,e3,e4,e5⟩:=HM.freezeAll r hfz
   have hag:=q58 (n:=h.nx) (o:=o) ρ (hm.sep j hown)
   refine ⟨ρ',e1,fun b o' hb=>e2 b o' (hag.2.1 b o' hb),e3,e4,fun i hi hio=>?_⟩
   by_cases hij:i=j
   ·subst hij
    rw[ho]
    exact e2 _ _ (by simp[Rh.frz])
   ·rcases List.mem_cons.1 hi with hi | hi
    ·exact absurd hi hij
    ·exact e5 i hi (by rw[SH.get_set,if_neg hij];exact hio)
  ·obtain ⟨ρ',e1,e2,e3,e4,e5⟩:=HM.freezeAll r (hm.forget j)
   refine ⟨ρ',e1,e2,e3,e4,fun i hi hio=>?_⟩
   by_cases hij:i=j
   ·subst hij;exact absurd hio hown
   ·rcases List.mem_cons.1 hi with hi | hi
    ·exact absurd hi hij
    ·exact e5 i hi (by rw[SH.get_set,if_neg hij];exact hio)
theorem HM.relay (hm:HM M w0 ρ h w) {sos:List SO} {src:List (Option Nat)} (ρ':Rh) (hinj:∀ k k' j:Nat,src[k]?=some (some j)→src[k']?=some (some j)→k=k') (hmem:ρ'.mem=ρ.mem) (hlo:ρ'.lo=ρ.lo)
  (hyes:∀ k j:Nat,src[k]?=some (some j)→ρ' k=ρ j) (hno:∀ k:Nat,k<sos.length→src[k]?=some none→ρ' k=⟨0,0,0,true⟩)
  (hso:∀ (k:Nat) (so:SO),sos[k]?=some so→(src[k]?=some none∧NilSO so)∨∃ j:Nat,src[k]?=some (some j)∧(∀ L,so.own L→(h.get j).own L)∧((h.get j).fit h.nx ρ (ρ j) w.heap[(ρ j).blk]?→so.fit sos.length ρ' (ρ j) w.heap[(ρ j).blk]?)):HM M w0 ρ' (q2h sos) w:=by
 have hsrc:∀ k,((q2h sos).get k).own (ρ' k)→∃ j:Nat,src[k]?=some (some j)∧(h.get j).own (ρ j)∧ρ' k=ρ j:=fun k hk=>by
  rw[q2t] at hk
  cases hs:sos[k]? with
  | none=>rw[hs] at hk;exact hk.elim
  | some so=>
   rw[hs] at hk
   have hlt:=(List.getElem?_eq_some_iff.1 hs).1
   rcases hso k so hs with ⟨h1,rfl | ⟨t,sz,el,rfl⟩⟩ | ⟨j,h1,h2,_⟩
   ·exact hk.elim
   ·have hk:(ρ' k).nl=false:=hk
    rw[hno k hlt h1] at hk;cases hk
   ·rw[hyes k j h1] at hk
    exact ⟨j,h1,h2 _ hk,hyes k j h1⟩
 exact {
  os:=hm.os
  tape:=hm.tape
  output:=hm.output
  size:=hm.size
  block:=hm.block
  lt:=fun k hk=>by
   rw[q2t] at hk
   show k<sos.length
   by_cases hlt:k<sos.length
   ·exact hlt
   ·rw[List.getElem?_eq_none (by omega)] at hk;cases hk
  ob:=fun k=>by
   show ((q2h sos).get k).fit sos.length ρ' (ρ' k) _
   rw[q2t]
   cases hs:sos[k]? with
   | none=>trivial
   | some so=>
    have hlt:=(List.getElem?_eq_some_iff.1 hs).1
    rcases hso k so hs with ⟨h1,rfl | ⟨t,sz,el,rfl⟩⟩ | ⟨j,h1,_,h3⟩
    ·trivial
    ·rw[hno k hlt h1]
     exact ⟨Nat.zero_le _,.inl ⟨rfl,rfl⟩⟩
    ·rw[hyes k j h1]
     exact h3 (hm.ob j)
  ow:=fun k hk=>by
   obtain ⟨j,_,h2,h3⟩:=hsrc k hk
   rw[h3];exact hm.ow j h2
  fz:=by rw[hmem];exact hm.fz
  sep:=fun k hk=>by
   obtain ⟨j,_,h2,h3⟩:=hsrc k hk
   rw[h3,hmem];exact hm.sep j h2
  old:=by rw[hmem,hlo];exact hm.old
  env:=by rw[hmem];exact hm.env
  inj:=fun k k' hk hk' he=>by
   obtain ⟨j,h1,h2,h3⟩:=hsrc k hk
   obtain ⟨j',h1',h2',h3'⟩:=hsrc k' hk'
   rw[h3,h3'] at he
   have:=hm.inj j j' h2 h2' he
   subst this
   exact hinj k k' j h1 h1' }
end
end Go.Sx

namespace Go.Sx
open Go.RowKit
variable [Env]
def qel (q:Nat):List SV:=(List.range q).map fun k=>.p k 0
def qca (q:Nat) (ρ:Rh):List Value:=(List.range q).map fun k=>.pointer (some ⟨(ρ k).blk,(ρ k).off+0,none⟩)
section
variable {κ γ δ:Type}
def q26 (A:TA κ) (g:κ):List SO:=A.objs A.q g++A.blks A.q g
def q3n (A:TA κ) (R:TR δ) (x:κ×δ):List SO:=A.objs A.q x.1++(A.blks A.q x.1++R.blks (A.q+A.R) x.2)
theorem qgq (A:TA κ) (g:κ):(q26 A g).length=A.q+A.R:=by simp[q26,A.olen,A.blen]
theorem qgp (A:TA κ) (R:TR δ) (x:κ×δ):(q3n A R x).length=A.q+(A.R+R.R):=by simp[q3n,A.olen,A.blen,R.blen]
def Foot (sos:List SO) (ρ:Rh):Nat→Prop:=fun b=>∃ k,((q2h sos).get k).own (ρ k)∧b=(ρ k).blk
def FnT (P:Program) (f:Nat) (A:TA κ) (D:DA γ) (R:TR δ) (fn:κ→γ→κ×δ) (pre:κ→γ→List Prop):Prop:=
 ∀ (w:World) (ρ:Rh) (g:κ) (d:γ) (vs:List Value),HM (Foot (q26 A g) ρ) w ρ (q2h (q26 A g)) w→(∀ p∈pre g d,p)→SV.fits 0 (emp ρ.mem) (D.enc d) vs →
  Calls P f (qca A.q ρ++vs).toArray w fun e w'=>∃ x ρ',e=.returned x∧(∀ k,k<A.q→ρ' k=ρ k)∧(∀ b o,ρ.mem b=some o→ρ'.mem b=some o)∧ρ'.lo=ρ.lo ∧
   HM (Foot (q26 A g) ρ) w ρ' (q2h (q3n A R (fn g d))) w'∧(R.val (A.q+A.R) (fn g d).2).fit (A.q+(A.R+R.R)) ρ' x
def tTree (P:Program) (Γ:Gam) (Λ:Lam) (n f:Nat) (A:TA κ) (R:TR δ) (g:κ) (args:List SV):Tr (κ×δ):=
 (qkn P Γ Λ n f (qel A.q++args) (q2h (q26 A g))).bind fun y=>
  match A.read y.2 (List.range A.q) with
  | some (g',ps,ids,fs)=>match R.read y.2 y.1 with
   | some (r,qs,js,gs)=>match idsOk A.q (ids++js)&&(fs++gs).all fun j=>Nat.ble A.q j&&!isIn j (fdist (ids++js)) with
    | true=>asks (ps++qs) (.ret (g',r))
    | false=>.bad 710
   | none=>.bad 711
  | none=>.bad 712
end
section
variable {P:Program} {Γ:Gam} {Λ:Lam} {f:Nat} {κ γ δ:Type} {A:TA κ} {D:DA γ} {R:TR δ} {fn:κ→γ→κ×δ} {pre:κ→γ→List Prop}
theorem qpm {q n:Nat} {ρ:Rh} (h:q≤n):SV.fits n ρ (qel q) (qca q ρ):=by
 refine q5i (by simp[qel,qca]) fun j s x h1 h2=>?_
 have hj:j<q:=by
  have:=(List.getElem?_eq_some_iff.1 h1).1
  simpa [qel] using this
 simp only[qel,qca,List.getElem?_map,List.getElem?_range hj,Option.map_some,Option.some.injEq] at h1 h2
 subst h1;subst h2
 exact ⟨by omega,rfl⟩
theorem range_get {q j:Nat} (h:j<q):(List.range q)[j]?=some j:=List.getElem?_range h
theorem T_of_tree (hΓ:∀ f g,Γ.g f=some g→FnOk P f g) (hΛ:∀ f k L,Λ f k=some L→∀ b∈q00 P f,lkey b=k→q02 P b L.g) (n:Nat)
  (hT:∀ g d,D.bd d→(∀ p∈pre g d,p)→(tTree P Γ Λ n f A R g (D.enc d)).Holds (·=fn g d)):FnT P f A D R fn pre:=by
 intro w ρ g d vs hm hpre hfit
 have hT:=hT g d (D.fb _ _ _ _ hfit) hpre
 have hnx:(q2h (q26 A g)).nx=A.q+A.R:=qgq A g
 have hargs:SV.fits (q2h (q26 A g)).nx ρ (qel A.q++D.enc d) (qca A.q ρ++vs):=
  q0s (qpm (by omega)) (D.cl d 0 _ (emp ρ.mem) ρ vs (fun _ _ h=>h) hfit)
 have h0:=q94 hΓ hΛ n (Foot (q26 A g) ρ) w w ρ _ _ _ _ (Tr.holds_bind hT) hm hargs
 refine h0.mono ?_
 rintro e w' ⟨s,h',ρ1,x,h1,h2,h3,h4,h5,rfl⟩
 simp only at h1
 split at h1
 ·rename_i g' ps ids fs hA
  split at h1
  ·rename_i r qs js gs hR
   split at h1
   ·rename_i hchk
    obtain ⟨hq,h1⟩:=q1d h1
    have h1:(g',r)=fn g d:=h1
    rw[← h1]
    simp only[Bool.and_eq_true,List.all_eq_true,Bool.not_eq_true'] at hchk
    obtain ⟨c1,c2⟩:=hchk
    obtain ⟨i1,i2⟩:=q7f c1
    obtain ⟨la,lq⟩:=A.ilen _ _ _ _ _ _ hA
    have lj:=R.ilen _ _ _ _ _ _ hR
    obtain ⟨ρ2,e1,e2,e3,hm2,hfz⟩:=HM.freezeAll (fs++gs) h4
    let ρ3:Rh:=⟨fun k=>if k<A.q then ρ1 k else match (ids++js)[k - A.q]? with | some (some j)=>ρ1 j | _=>⟨0,0,0,true⟩,ρ2.mem,ρ2.lo⟩
    have r3l:∀ k,k<A.q→ρ3 k=ρ1 k:=fun k hk=>by show (if _ then _ else _)=_;rw[if_pos hk]
    have r3y:∀ k j:Nat,(ids++js)[k]?=some (some j)→ρ3 (A.q+k)=ρ1 j:=fun k j hk=>by
     show (if _ then _ else _)=_
     rw[if_neg (by omega),show A.q+k - A.q=k by omega,hk]
    have r3n:∀ k:Nat,(ids++js)[k]?=some none→ρ3 (A.q+k)=⟨0,0,0,true⟩:=fun k hk=>by
     show (if _ then _ else _)=_
     rw[if_neg (by omega),show A.q+k - A.q=k by omega,hk]
    have hmm:∀ b o,ρ1.mem b=some o→ρ3.mem b=some o:=e2
    have hrn:Rn A.q 0 (ids++js) (A.q+(A.R+R.R)) ρ1 ρ3:=⟨by rw[List.length_append];omega,⟨r3l,hmm,e3⟩,fun k j hk=>by simpa using r3y k j hk,fun k hk=>by simpa using r3n k hk⟩
    have hz:FzR h'.nx h' (fs++gs) ρ1 ρ3:=fun j hj=>⟨_,h4.ob j,fun ho=>hfz j hj ho⟩
    obtain ⟨a1,a2⟩:=A.ok A.q 0 _ _ _ _ _ _ hA fun p h=>hq p (List.mem_append_left _ h)
    have r1:=R.ok A.q (0+ids.length) _ _ _ _ _ _ hR fun p h=>hq p (List.mem_append_right _ h)
    rw[show A.q+(0+ids.length)=A.q+A.R by omega] at r1
    have hkeep:∀ j,j<A.q∨j∈fdist (ids++js)→(kill (fs++gs) h').get j=h'.get j:=fun j hj=>by
     refine qog _ _ _ fun hc=>?_
     obtain ⟨d1,d2⟩:=c2 j hc
     have:=Nat.le_of_ble_eq_true d1
     rcases hj with hj | hj
     ·omega
     ·exact qi4 d2 hj
    have hin:∀ k j:Nat,(ids++js)[k]?=some (some j)→j∈fdist (ids++js):=fun k j h=>List.mem_filterMap.2 ⟨some j,List.mem_of_getElem? h,rfl⟩
    have lsrc:((List.range A.q).map some).length=A.q:=by simp
    have hsl:∀ k,k<A.q→((List.range A.q).map some++(ids++js))[k]?=some (some k):=fun k hk=>by
     rw[List.getElem?_append_left (by omega),List.getElem?_map,List.getElem?_range hk];rfl
    have hsr:∀ k,((List.range A.q).map some++(ids++js))[A.q+k]?=(ids++js)[k]?:=fun k=>by
     rw[List.getElem?_append_right (by omega),lsrc,show A.q+k - A.q=k by omega]
    have hge:∀ k,A.q≤k→∃ k',k=A.q+k':=fun k hk=>⟨k - A.q,by omega⟩
    have hlen:(q3n A R (g',r)).length=A.q+(A.R+R.R):=qgp A R (g',r)
    have hrel:=hm2.relay (sos:=q3n A R (g',r)) (src:=(List.range A.q).map some++(ids++js)) ρ3 (fun k k' j hk hk'=>by
      rcases Nat.lt_or_ge k A.q with h1 | h1 <;> rcases Nat.lt_or_ge k' A.q with h2 | h2
      ·rw[hsl k h1] at hk
       rw[hsl k' h2] at hk'
       simp only[Option.some.injEq] at hk hk'
       omega
      ·obtain ⟨k',rfl⟩:=hge k' h2
       rw[hsl k h1] at hk
       rw[hsr] at hk'
       simp only[Option.some.injEq] at hk
       have:=i2 _ _ hk'
       omega
      ·obtain ⟨k,rfl⟩:=hge k h1
       rw[hsl k' h2] at hk'
       rw[hsr] at hk
       simp only[Option.some.injEq] at hk'
       have:=i2 _ _ hk
       omega
      ·obtain ⟨k,rfl⟩:=hge k h1
       obtain ⟨k',rfl⟩:=hge k' h2
       rw[hsr] at hk hk'
       rw[i1 _ _ _ hk hk']) rfl rfl (fun k j hk=>by
      rw[show ρ2 j=ρ1 j from congrFun e1 j]
      rcases Nat.lt_or_ge k A.q with h1 | h1
      ·rw[hsl k h1] at hk
       simp only[Option.some.injEq] at hk
       subst hk
       exact r3l k h1
      ·obtain ⟨k,rfl⟩:=hge k h1
       rw[hsr] at hk
       exact r3y k j hk) (fun k _ hk=>by
      rcases Nat.lt_or_ge k A.q with h1 | h1
      ·rw[hsl k h1] at hk;cases hk
      ·obtain ⟨k,rfl⟩:=hge k h1
       rw[hsr] at hk
       exact r3n k hk) (fun k so hso=>by
      rw[hlen]
      have e1':∀ j,ρ2 j=ρ1 j:=fun j=>congrFun e1 j
      rcases Nat.lt_or_ge k A.q with hk | hk
      ·right
       unfold q3n at hso
       rw[List.getElem?_append_left (by rw[A.olen];exact hk)] at hso
       obtain ⟨o1,o2,o3⟩:=a2 k k so (range_get hk) (by simpa using hso)
       refine ⟨k,hsl k hk,fun L _=>?_,fun hf=>?_⟩
       ·rw[hkeep k (.inl hk)];exact o1 L
       ·rw[hkeep k (.inl hk),e1'] at hf
        rw[e1']
        rw[kill_nx] at hf
        have hf1:(h'.get k).fit h'.nx ρ1 (ρ1 k) w'.heap[(ρ1 k).blk]?:=h4.ob k
        exact o3 _ _ _ _ _ _ hrn.left hz.left hf1
      ·obtain ⟨k,rfl⟩:=hge k hk
       unfold q3n at hso
       rw[List.getElem?_append_right (by rw[A.olen];omega),A.olen,show A.q+k - A.q=k by omega] at hso
       rw[hsr]
       by_cases hkA:k<A.R
       ·rw[List.getElem?_append_left (by rw[A.blen];exact hkA)] at hso
        rw[List.getElem?_append_left (by omega)]
        rcases a1.blk k so (by simpa using hso) with ⟨b1,b2⟩ | ⟨j,b1,b2,b3⟩
        ·exact .inl ⟨b1,b2⟩
        ·have hjm:=hin k j (by rw[List.getElem?_append_left (by omega)];exact b1)
         refine .inr ⟨j,b1,fun L h=>?_,fun _=>?_⟩
         ·rw[hkeep j (.inr hjm)];exact b2 L h
         ·rw[e1']
          exact b3 _ _ _ _ _ _ hrn.left hz.left (h4.ob j)
       ·rw[List.getElem?_append_right (by rw[A.blen];omega),A.blen] at hso
        rw[List.getElem?_append_right (by omega),la]
        rcases r1.blk (k - A.R) so hso with ⟨b1,b2⟩ | ⟨j,b1,b2,b3⟩
        ·exact .inl ⟨b1,b2⟩
        ·have hjm:=hin k j (by rw[List.getElem?_append_right (by omega),la];exact b1)
         refine .inr ⟨j,b1,fun L h=>?_,fun _=>?_⟩
         ·rw[hkeep j (.inr hjm)];exact b2 L h
         ·rw[e1']
          exact b3 _ _ _ _ _ _ hrn.right hz.right (h4.ob j))
    refine ⟨x,ρ3,rfl,fun k hk=>?_,fun b o hb=>hmm _ _ (h3.2.1 b o hb),?_,hrel,?_⟩
    ·rw[r3l k hk];exact h3.1 k (by rw[hnx];omega)
    ·show ρ2.lo=_
     rw[e3];exact h3.2.2
    ·have:=r1.fit _ _ _ _ [x] hrn.right hz.right ⟨h5,trivial⟩
     exact this.1
   ·exact h1.elim
  ·exact h1.elim
 ·exact h1.elim
theorem T_of_side (hΓ:∀ f g,Γ.g f=some g→FnOk P f g) (hΛ:∀ f k L,Λ f k=some L→∀ b∈q00 P f,lkey b=k→q02 P b L.g) (n:Nat) (z:κ×δ) (S:κ→γ→Prop)
  (hS:∀ g d,(tTree P Γ Λ n f A R g (D.enc d)).side=S g d) (he:∀ g d,(tTree P Γ Λ n f A R g (D.enc d)).ev z=fn g d) (hs:∀ g d,D.bd d→(∀ p∈pre g d,p)→S g d):FnT P f A D R fn pre:=
 T_of_tree hΓ hΛ n fun g d h1 h2=>by
  have:=Tr.side_holds z (by rw[hS];exact hs g d h1 h2:(tTree P Γ Λ n f A R g (D.enc d)).side)
  rw[he g d] at this
  exact this
theorem T_congr {fn':κ→γ→κ×δ} {pre':κ→γ→List Prop} (h:FnT P f A D R fn pre) (hp:∀ g d,(∀ p∈pre' g d,p)→∀ p∈pre g d,p) (he:∀ g d,D.bd d→(∀ p∈pre' g d,p)→fn g d=fn' g d):FnT P f A D R fn' pre':=fun w ρ g d vs hm hq hf=>by
 have:=h w ρ g d vs hm (hp g d hq) hf
 rw[he g d (D.fb _ _ _ _ hf) hq] at this
 exact this
def qc9:Nat→List SV→Option (List Nat×List SV)
 | 0,l=>some ([],l)
 | q+1,.p r 0 :: l=>match qc9 q l with
  | some (rs,rest)=>some (r :: rs,rest)
  | none=>none
 | _+1,_=>none
def conT (A:TA κ) (D:DA γ) (R:TR δ) (fn:κ→γ→κ×δ) (pre:κ→γ→List Prop):Con:=fun args h=>
 match qc9 A.q args with
 | some (rs,rest)=>match A.read h rs with
  | some (g,ps,ids,fs)=>match D.dec rest with
   | some (d,qs)=>match idsOk 0 (rs.map some++ids)&&fs.isEmpty with
    | true=>asks (ps++(qs++pre g d)) ((R.put (h.nx+A.R) (fn g d).2).bind fun y=>.ret (y.1,
      ⟨h.nx+(A.R+R.R),whole (rowsL h.nx (A.blks h.nx (fn g d).1++y.2))++(whole (rs.zip (A.objs h.nx (fn g d).1))++(whole ((fdist ids).map fun i=>(i,SO.dead))++h.l)),h.b⟩))
    | false=>.bad 713
   | none=>.bad 714
  | none=>.bad 715
 | none=>.bad 716
theorem qem:∀ {q:Nat} {args:List SV} {rs:List Nat} {rest:List SV} {n:Nat} {ρ:Rh} {vs:List Value},qc9 q args=some (rs,rest)→SV.fits n ρ args vs →
  ∃ vs',vs=(rs.map fun r=>Value.pointer (some ⟨(ρ r).blk,(ρ r).off+0,none⟩))++vs'∧SV.fits n ρ rest vs'∧rs.length=q∧∀ r∈rs,r<n
 | 0,args,rs,rest,n,ρ,vs,h,hf=>by
  simp only[qc9,Option.some.injEq,Prod.mk.injEq] at h
  obtain ⟨rfl,rfl⟩:=h
  exact ⟨vs,rfl,hf,rfl,fun r hr=>by cases hr⟩
 | q+1,args,rs,rest,n,ρ,vs,h,hf=>by
  unfold qc9 at h
  split at h
  ·rename_i h0;omega
  ·rename_i q' r l h0
   split at h
   ·rename_i rs' rest' hr
    simp only[Option.some.injEq,Prod.mk.injEq] at h
    obtain ⟨rfl,rfl⟩:=h
    obtain ⟨x,vs1,rfl,hx,hl⟩:=q05 hf
    have h0:q'=q:=by omega
    subst h0
    obtain ⟨vs',rfl,k1,k2,k3⟩:=qem hr hl
    obtain ⟨hx1,rfl⟩:=hx
    exact ⟨vs',rfl,k1,by simp[k2],fun i hi=>by
     rcases List.mem_cons.1 hi with rfl | hi
     ·exact hx1
     ·exact k3 i hi⟩
   ·cases h
  ·cases h
theorem qo8 {i j:Nat} {so:SO}:∀ {rs:List Nat} {os:List SO} (d:SO),rs.Nodup→rs[j]?=some i→os[j]?=some so→look d i (rs.zip os)=so
 | [],_,_,_,h,_=>by simp at h
 | _ :: _,[],_,_,_,h=>by simp at h
 | r :: rs,o :: os,d,hnd,h1,h2=>by
  rw[List.zip_cons_cons,q1p]
  cases j with
  | zero=>
   simp only[List.getElem?_cons_zero,Option.some.injEq] at h1 h2
   rw[if_pos h1.symm,h2]
  | succ j=>
   simp only[List.getElem?_cons_succ] at h1 h2
   obtain ⟨n1,n2⟩:=List.nodup_cons.1 hnd
   have hne:¬ i=r:=fun h=>n1 (by rw[← h];exact List.mem_of_getElem? h1)
   rw[if_neg hne]
   exact qo8 d n2 h1 h2
theorem qk5 {i:Nat} {rs:List Nat} {os:List SO} (d:SO) (h:i∉rs):look d i (rs.zip os)=d:=by
 refine q1y _ _ fun hm=>h ?_
 obtain ⟨x,hx,rfl⟩:=List.mem_map.1 hm
 exact (List.of_mem_zip hx).1
end
end Go.Sx
