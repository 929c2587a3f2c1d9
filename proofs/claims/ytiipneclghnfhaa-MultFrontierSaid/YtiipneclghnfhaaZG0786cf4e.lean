/- Loops over lists by their places: what they come to, for all chapters. -/
import Derived.Test.YtiipneclghnfhaaZG06e05322
import Derived.Test.YtiipneclghnfhaaZG0590d6ef
import Derived.ProofKit
import Derived.OpenShut
import Derived.ShutString
import Derived.ChangeOld
import Derived.Below
import Derived.Deep.Slices
set_option linter.unusedVariables false
set_option linter.unusedSimpArgs false
set_option linter.constructorNameAsVariable false
set_option linter.all false

namespace Go.Lp
open Go.Sx
theorem runL_conj {γ δ:Type} {F:γ→Ex×γ} {F':δ→Ex×δ} {m':δ→Nat} {I':δ→Prop} (φ:γ→δ) (ψ:δ→γ) (h2:∀ d,φ (ψ d)=d) (hF:∀ d,I' d→F (ψ d)=((F' d).1,ψ (F' d).2)) (hg:Goes F' m' I'):∀ (n:Nat) (d:δ),I' d→runL F n (ψ d)=((runL F' n d).1,ψ (runL F' n d).2)
 | 0,d,_=>by simp[runL]
 | n+1,d,hi=>by
  simp only[runL]
  have h:=hF d hi
  have hk:=hg d hi
  rw[h]
  generalize F' d=x at hk
  obtain ⟨e,d'⟩:=x
  cases e with
  | normal=>
   simp only
   rw[runL_conj φ ψ h2 hF hg n d' (hk rfl).1]
  | _=>rfl
theorem loopF_conj {γ δ:Type} {F:γ→Ex×γ} {F':δ→Ex×δ} {m:γ→Nat} {m':δ→Nat} {I':δ→Prop} (φ:γ→δ) (ψ:δ→γ) (h1:∀ g,ψ (φ g)=g) (h2:∀ d,φ (ψ d)=d) (hm:∀ d,m (ψ d)=m' d) (hF:∀ d,I' d→F (ψ d)=((F' d).1,ψ (F' d).2)) (hg:Goes F' m' I') (g:γ) (hi:I' (φ g)) :
  loopF F m g=((loopF F' m' (φ g)).1,ψ (loopF F' m' (φ g)).2):=by
 have e:=hm (φ g)
 have r:=runL_conj φ ψ h2 hF hg (m' (φ g)+1) (φ g) hi
 rw[h1] at e r
 rw[loopF_def,loopF_def,e]
 exact r
theorem goes_conj {γ δ:Type} {F:γ→Ex×γ} {F':δ→Ex×δ} {m:γ→Nat} {m':δ→Nat} {I:γ→Prop} {I':δ→Prop} (φ:γ→δ) (ψ:δ→γ) (h1:∀ g,ψ (φ g)=g) (hm:∀ d,m (ψ d)=m' d) (hI:∀ d,I (ψ d)↔I' d) (hF:∀ d,I' d→F (ψ d)=((F' d).1,ψ (F' d).2)) (h:Goes F' m' I'):Goes F m I:=by
 intro g hi hn
 rw[← h1 g] at hi hn ⊢
 have hi':=(hI _).1 hi
 rw[hF _ hi'] at hn ⊢
 rw[hI]
 rw[hm,hm]
 exact h _ hi' hn
section
variable {α β C:Type}
def ixF (x:Nat) (lim:C→Int) (xs:C→List α) (d:α) (step:C→β→Int→α→Ex×β) (g:Int×C×β):Ex×(Int×C×β):=
 bif decide (g.1<lim g.2.1) then
  match step g.2.1 g.2.2 g.1 ((xs g.2.1).getD g.1.toNat d) with
  | (.normal,b)=>(.normal,w64 (g.1+1),g.2.1,b)
  | (e,b)=>(e,g.1,g.2.1,b)
 else (.exit x,g)
def ixJ (lim:C→Int) (xs:C→List α) (P:C→β→Int→Prop) (g:Int×C×β):Prop:=lim g.2.1=((xs g.2.1).length:Int)∧(xs g.2.1).length≤maxLen∧0≤g.1∧g.1≤((xs g.2.1).length:Int)∧P g.2.1 g.2.2 g.1
def ixI (lim:C→Int) (xs:C→List α) (P:C→β→Int→Prop) (g:Int×C×β):List Prop:=[ixJ lim xs P g]
def ixM (lim:C→Int) (g:Int×C×β):Nat:=(lim g.2.1 - g.1).toNat
def scan (x:Nat) (step:β→Int→α→Ex×β):Int→List α→β→Ex×Int×β
 | i,[],b=>(.exit x,i,b)
 | i,a :: l,b=>match step b i a with
  | (.normal,b')=>scan x step (i+1) l b'
  | (e,b')=>(e,i,b')
def ixP (step:C→β→Int→α→Ex×β) (xs:C→List α) (P:C→β→Int→Prop):Prop:=∀ c b (i:Nat) a,P c b i→(xs c)[i]?=some a→(step c b i a).1=.normal→P c (step c b i a).2 (i+1)
variable {x:Nat} {lim:C→Int} {xs:C→List α} {d:α} {step:C→β→Int→α→Ex×β} {P:C→β→Int→Prop}
theorem ix_goes (hP:ixP step xs P):Goes (ixF x lim xs d step) (ixM lim) fun g=>allP (ixI lim xs P g):=by
 rintro ⟨i,c,b⟩ hi hn
 obtain ⟨h1,h2,h3,h4,h5⟩:=hi _ (List.mem_cons_self ..)
 simp only at h1 h2 h3 h4 h5
 unfold ixF at hn ⊢
 simp only at hn ⊢
 unfold maxLen at h2
 by_cases hlt:i<lim c
 ·simp only[hlt,decide_true,cond_true] at hn ⊢
  have hlt':i.toNat<(xs c).length:=by omega
  have hp:=hP c b i.toNat ((xs c).getD i.toNat d) (by rw[show (i.toNat:Int)=i by omega];exact h5) (by rw[List.getD_eq_getElem?_getD,List.getElem?_eq_getElem hlt'];rfl)
  rw[show (i.toNat:Int)=i by omega] at hp
  generalize step c b i ((xs c).getD i.toNat d)=s at hn hp ⊢
  obtain ⟨e,b'⟩:=s
  cases e with
  | normal=>
   rw[wr (n:=i+1) (by omega)]
   refine ⟨fun q hq=>?_,?_⟩
   ·simp only[ixI,List.mem_singleton] at hq
    subst hq
    exact ⟨h1,by unfold maxLen;exact h2,by show (0:Int)≤i+1;omega,by show i+1≤((xs c).length:Int);omega,hp rfl⟩
   ·simp only[ixM];omega
  | _=>cases hn
 ·simp only[hlt,decide_false,cond_false] at hn
  cases hn
theorem ix_run (hP:ixP step xs P):∀ g:Int×C×β,allP (ixI lim xs P g) →
  loopF (ixF x lim xs d step) (ixM lim) g=((scan x (step g.2.1) g.1 ((xs g.2.1).drop g.1.toNat) g.2.2).1,(scan x (step g.2.1) g.1 ((xs g.2.1).drop g.1.toNat) g.2.2).2.1,g.2.1,(scan x (step g.2.1) g.1 ((xs g.2.1).drop g.1.toNat) g.2.2).2.2):=by
 refine loopF_induct (ix_goes (x:=x) (d:=d) hP) (Q:=fun g r=>r=((scan x (step g.2.1) g.1 ((xs g.2.1).drop g.1.toNat) g.2.2).1,(scan x (step g.2.1) g.1 ((xs g.2.1).drop g.1.toNat) g.2.2).2.1,g.2.1,(scan x (step g.2.1) g.1 ((xs g.2.1).drop g.1.toNat) g.2.2).2.2)) ?_ ?_
 ·rintro ⟨i,c,b⟩ hi hn
  obtain ⟨h1,h2,h3,h4,h5⟩:=hi _ (List.mem_cons_self ..)
  simp only at h1 h2 h3 h4 h5
  unfold ixF at hn ⊢
  simp only at hn ⊢
  by_cases hlt:i<lim c
  ·simp only[hlt,decide_true,cond_true] at hn ⊢
   have hlt':i.toNat<(xs c).length:=by omega
   rw[drop_at d hlt']
   simp only[scan]
   generalize step c b i ((xs c).getD i.toNat d)=s at hn ⊢
   obtain ⟨e,b'⟩:=s
   cases e with
   | normal=>exact absurd rfl hn
   | _=>rfl
  ·simp only[hlt,decide_false,cond_false]
   rw[List.drop_eq_nil_of_le (by omega)]
   rfl
 ·rintro ⟨i,c,b⟩ g' r hi he hi' _ hq
  obtain ⟨h1,h2,h3,h4,h5⟩:=hi _ (List.mem_cons_self ..)
  simp only at h1 h2 h3 h4 h5
  unfold maxLen at h2
  unfold ixF at he
  simp only at he
  by_cases hlt:i<lim c
  ·simp only[hlt,decide_true,cond_true] at he
   have hlt':i.toNat<(xs c).length:=by omega
   rw[hq]
   simp only
   rw[drop_at d hlt']
   simp only[scan]
   generalize step c b i ((xs c).getD i.toNat d)=s at he ⊢
   obtain ⟨e,b'⟩:=s
   cases e with
   | normal=>
    rw[wr (n:=i+1) (by omega)] at he
    simp only[Prod.mk.injEq,true_and] at he
    subst he
    simp only
    rw[show (i+1).toNat=i.toNat+1 by omega]
   | _=>simp at he
  ·simp only[hlt,decide_false,cond_false] at he
   cases he
theorem ix_run0 (hP:ixP step xs P) (c:C) (b:β) (h1:lim c=((xs c).length:Int)) (h2:(xs c).length≤maxLen) (h3:P c b 0) :
  loopF (ixF x lim xs d step) (ixM lim) (0,c,b)=((scan x (step c) 0 (xs c) b).1,(scan x (step c) 0 (xs c) b).2.1,c,(scan x (step c) 0 (xs c) b).2.2):=by
 have:=ix_run (x:=x) (lim:=lim) (d:=d) hP (0,c,b) (fun q hq=>by
  simp only[ixI,List.mem_singleton] at hq
  subst hq
  exact ⟨h1,h2,Int.le_refl _,by show (0:Int)≤((xs c).length:Int);omega,h3⟩)
 simpa using this
theorem ixJ0 {c:C} {b:β} (h1:lim c=((xs c).length:Int)) (h2:(xs c).length≤maxLen) (h3:P c b 0):ixJ lim xs P (0,c,b):=⟨h1,h2,Int.le_refl _,by show (0:Int)≤((xs c).length:Int);omega,h3⟩
theorem ix_inv0 {c:C} {b:β} (h1:lim c=((xs c).length:Int)) (h2:(xs c).length≤maxLen) (h3:P c b 0):allP (ixI lim xs P (0,c,b)):=fun q hq=>by
 simp only[ixI,List.mem_singleton] at hq
 subst hq
 exact ⟨h1,h2,Int.le_refl _,by show (0:Int)≤((xs c).length:Int);omega,h3⟩
section
variable {γ:Type} {F:γ→Ex×γ} {φ:γ→Int×C×β} {ψ:Int×C×β→γ}
theorem ix_conj_goes (h1:∀ g,ψ (φ g)=g) (h2:∀ d,φ (ψ d)=d) {d0:α} (hF:∀ d,allP (ixI lim xs P d)→F (ψ d)=((ixF x lim xs d0 step d).1,ψ (ixF x lim xs d0 step d).2)) (hP:ixP step xs P):Goes F (fun g=>ixM lim (φ g)) fun g=>allP (ixI lim xs P (φ g)):=
 goes_conj (m':=ixM lim) (I':=fun d=>allP (ixI lim xs P d)) φ ψ h1 (fun d=>by rw[h2]) (fun d=>by rw[h2]) hF (ix_goes hP)
theorem ix_conj_run (h1:∀ g,ψ (φ g)=g) (h2:∀ d,φ (ψ d)=d) {d0:α} (hF:∀ d,allP (ixI lim xs P d)→F (ψ d)=((ixF x lim xs d0 step d).1,ψ (ixF x lim xs d0 step d).2)) (hP:ixP step xs P) (c:C) (b:β) (k1:lim c=((xs c).length:Int)) (k2:(xs c).length≤maxLen) (k3:P c b 0) :
  loopF F (fun g=>ixM lim (φ g)) (ψ (0,c,b))=((scan x (step c) 0 (xs c) b).1,ψ ((scan x (step c) 0 (xs c) b).2.1,c,(scan x (step c) 0 (xs c) b).2.2)):=by
 have h:=loopF_conj (F:=F) (F':=ixF x lim xs d0 step) (m:=fun g=>ixM lim (φ g)) (m':=ixM lim) (I':=fun d=>allP (ixI lim xs P d)) φ ψ h1 h2 (fun d=>by rw[h2]) hF (ix_goes hP) (ψ (0,c,b)) (by rw[h2];exact ix_inv0 k1 k2 k3)
 rw[h,h2,ix_run0 hP c b k1 k2 k3]
end
section
variable {st:β→Int→α→Ex×β}
theorem scan_fold {f:β→α→β} (h:∀ b i a,st b i a=(.normal,f b a)):∀ (l:List α) (i:Int) (b:β),scan x st i l b=(.exit x,i+l.length,l.foldl f b)
 | [],i,b=>by simp[scan]
 | a :: l,i,b=>by
  simp only[scan,h,List.foldl_cons,List.length_cons]
  rw[scan_fold h l]
  simp;omega
theorem scan_bad {p:α→Bool} {r:α→β→β} {f:β→α→β} {e:Ex} (he:e≠.normal) (h:∀ b i a,st b i a=bif p a then (e,r a b) else (.normal,f b a)):∀ (l:List α) (i:Int) (b:β),
  (l.any p=true∧(scan x st i l b).1=e∧∃ a b',a∈l∧p a=true∧(scan x st i l b).2.2=r a b')∨(l.any p=false∧scan x st i l b=(.exit x,i+l.length,l.foldl f b))
 | [],i,b=>.inr ⟨rfl,by simp[scan]⟩
 | a :: l,i,b=>by
  simp only[scan,h]
  cases hp:p a with
  | true=>
   left
   refine ⟨by simp[hp],?_⟩
   cases e <;> first | exact absurd rfl he | exact ⟨rfl,a,b,List.mem_cons_self ..,hp,rfl⟩
  | false=>
   simp only[cond_false]
   rcases scan_bad he h l (i+1) (f b a) with ⟨h1,h2,a',b',h3,h4,h5⟩ | ⟨h1,h2⟩
   ·exact .inl ⟨by simp[h1],h2,a',b',List.mem_cons_of_mem _ h3,h4,h5⟩
   ·refine .inr ⟨by simp[hp,h1],?_⟩
    rw[h2]
    simp;omega
end
end
theorem scan_same {α:Type} [DecidableEq α] {x:Nat} (b:List α) (d:α) {st:Bool→Int→α→Ex×Bool} (h:∀ r (i:Int) a,st r i a=bif !decide (a=b.getD i.toNat d) then (.ret,false) else (.normal,r)):∀ (l:List α) (i:Nat) (r:Bool),l.length+i=b.length →
  (l=b.drop i∧scan x st (i:Int) l r=(.exit x,(i:Int)+l.length,r))∨(l≠b.drop i∧(scan x st (i:Int) l r).1=.ret∧(scan x st (i:Int) l r).2.2=false)
 | [],i,r,hl=>.inl ⟨by rw[List.drop_eq_nil_of_le (by simp at hl;omega)],by simp[scan]⟩
 | a :: l,i,r,hl=>by
  simp only[List.length_cons] at hl
  have hlt:i<b.length:=by omega
  rw[drop_at d hlt]
  simp only[scan,h,Int.toNat_natCast]
  by_cases hab:a=b.getD i d
  ·simp only[hab,decide_true,Bool.not_true,cond_false]
   have ih:=scan_same (x:=x) b d h l (i+1) r (by omega)
   rw[show ((i+1:Nat):Int)=(i:Int)+1 by omega] at ih
   rcases ih with ⟨h1,h2⟩ | ⟨h1,h2⟩
   ·refine .inl ⟨by rw[h1],?_⟩
    rw[h2]
    simp;omega
   ·refine .inr ⟨fun e=>h1 (by injection e),h2⟩
  ·right
   refine ⟨fun e=>hab (by injection e),?_⟩
   simp only[hab,decide_false,Bool.not_false,cond_true]
   exact ⟨trivial,trivial⟩
theorem lst_app1 {α:Type} (A:El α) (out:List α) (y:α):A.lst (min (out.length+1) out.length) (A.els out)++List.map (fun _=>y) (List.range (out.length+1 - out.length))=out++[y]:=by
 rw[Nat.min_eq_right (Nat.le_succ _),A.lst_els,Nat.add_sub_cancel_left];rfl
end Go.Lp

namespace Go.Lp
open Go.Sx
section
variable {α β:Type}
theorem search' {x:Nat} {st:β→Int→α→Ex×β} {p:α→Bool} {r:Int→α→β→β} (h:∀ b i a,st b i a=bif p a then (.ret,r i a b) else (.normal,b)):∀ (l:List α) (i:Int) (b:β),
  (l.any p=true∧∃ j,i≤j∧∃ a,a∈l∧p a=true∧scan x st i l b=(.ret,j,r j a b))∨(l.any p=false∧scan x st i l b=(.exit x,i+(l.length:Int),b))
 | [],i,b=>.inr ⟨rfl,by simp[scan]⟩
 | a :: l,i,b=>by
  simp only[scan,h]
  cases hp:p a with
  | true=>exact .inl ⟨by simp[hp],i,Int.le_refl _,a,List.mem_cons_self ..,hp,rfl⟩
  | false=>
   simp only[cond_false]
   rcases search' h l (i+1) b with ⟨h1,j,hj,a',h2,h3,h4⟩ | ⟨h1,h2⟩
   ·exact .inl ⟨by simp[h1],j,by omega,a',List.mem_cons_of_mem _ h2,h3,h4⟩
   ·refine .inr ⟨by simp[hp,h1],?_⟩
    rw[h2]
    simp;omega
theorem search {x:Nat} {st:β→Int→α→Ex×β} {p:α→Bool} {r:Int→α→β→β} (h:∀ b i a,st b i a=bif p a then (.ret,r i a b) else (.normal,b)) (l:List α) (b:β) :
  (l.any p=true∧∃ j,0≤j∧∃ a,a∈l∧p a=true∧scan x st 0 l b=(.ret,j,r j a b))∨(l.any p=false∧scan x st 0 l b=(.exit x,(l.length:Int),b)):=by
 have:=search' (x:=x) h l 0 b
 rwa [Int.zero_add] at this
theorem searchI' {x:Nat} {st:β→Int→α→Ex×β} {p:Int→α→Bool} {r:Int→α→β→β} (h:∀ b i a,st b i a=bif p i a then (.ret,r i a b) else (.normal,b)):∀ (l:List α) (i:Int) (b:β),
  (∃ (n:Nat) (a:α),l[n]?=some a∧p (i+n) a=true∧scan x st i l b=(.ret,i+n,r (i+n) a b))∨((∀ (n:Nat) (a:α),l[n]?=some a→p (i+n) a=false)∧scan x st i l b=(.exit x,i+(l.length:Int),b))
 | [],i,b=>.inr ⟨fun n a h=>by simp at h,by simp[scan]⟩
 | a :: l,i,b=>by
  simp only[scan,h]
  cases hp:p i a with
  | true=>exact .inl ⟨0,a,rfl,by simpa using hp,by simp⟩
  | false=>
   simp only[cond_false]
   rcases searchI' h l (i+1) b with ⟨n,a',h2,h3,h4⟩ | ⟨h1,h2⟩
   ·exact .inl ⟨n+1,a',h2,by rw[show i+((n+1:Nat):Int)=i+1+n by omega];exact h3,by rw[show i+((n+1:Nat):Int)=i+1+n by omega];exact h4⟩
   ·refine .inr ⟨fun n a' hn=>?_,?_⟩
    ·cases n with
     | zero=>injection hn with hn;subst hn;simpa using hp
     | succ n=>rw[show i+((n+1:Nat):Int)=i+1+n by omega];exact h1 n a' hn
    ·rw[h2]
     simp;omega
theorem searchI {x:Nat} {st:β→Int→α→Ex×β} {p:Int→α→Bool} {r:Int→α→β→β} (h:∀ b i a,st b i a=bif p i a then (.ret,r i a b) else (.normal,b)) (l:List α) (b:β) :
  (∃ (n:Nat) (a:α),l[n]?=some a∧p n a=true∧scan x st 0 l b=(.ret,(n:Int),r n a b))∨((∀ (n:Nat) (a:α),l[n]?=some a→p n a=false)∧scan x st 0 l b=(.exit x,(l.length:Int),b)):=by
 have:=searchI' (x:=x) h l 0 b
 simpa only [Int.zero_add] using this
theorem any_congr' {l:List α} {p q:α→Bool} (h:∀ x∈l,p x=q x):l.any p=l.any q:=by
 rw[Bool.eq_iff_iff,List.any_eq_true,List.any_eq_true]
 constructor
 ·rintro ⟨x,h1,h2⟩;exact ⟨x,h1,(h x h1)▸h2⟩
 ·rintro ⟨x,h1,h2⟩;exact ⟨x,h1,(h x h1).symm▸h2⟩
theorem any_eq_mem {α:Type} [DecidableEq α] (l:List α) (t:α):l.any (fun v=>decide (v=t))=decide (t∈l):=by
 rw[Bool.eq_iff_iff,List.any_eq_true]
 simp
theorem ne_len {α β:Type} {a:List α} {b:List β} (h:((a.length:Int) != (b.length:Int))=false):a.length=b.length:=by
 have:(a.length:Int)=(b.length:Int):=by simpa using h
 omega
theorem guard_len (z:Bool) (l:List α):(bif z then l else []).length≤l.length:=by cases z <;> simp
end
end Go.Lp

namespace Go.Sx
open Go.RowKit
def isFn (k:Nat):List SV→Bool
 | [_,.fn f _]=>Nat.beq f k
 | _=>false
def pconAlt (k:Nat) (c1 c2:PCon):PCon:=⟨fun args h=>bif isFn k args then c1.g args h else c2.g args h,fun args h=>by
 cases isFn k args with
 | true=>exact c1.e args h
 | false=>exact c2.e args h,fun args ha=>indep_bif (c1.i args ha) (c2.i args ha)⟩
theorem alt_ok {P:Program} {f k:Nat} {c1 c2:PCon} (h1:FnOk P f c1.g) (h2:FnOk P f c2.g):FnOk P f (pconAlt k c1 c2).g:=by
 intro M w0 w ρ h args vs K hK hm hf
 have hK:(bif isFn k args then c1.g args h else c2.g args h).Holds K:=hK
 cases hc:isFn k args with
 | true=>rw[hc] at hK;exact h1 M w0 w ρ h args vs K hK hm hf
 | false=>rw[hc] at hK;exact h2 M w0 w ρ h args vs K hK hm hf
end Go.Sx

namespace Go.Sx
open Go.RowKit
def lconAlt (N:Nat) (c1 c2:LCon):LCon:=⟨fun σ=>bif Nat.beq σ.h.nx N then c1.g σ else c2.g σ,fun σ=>by
 cases Nat.beq σ.h.nx N with
 | true=>exact c1.on σ
 | false=>exact c2.on σ⟩
theorem altL_ok {P:Program} {b:Code} {N:Nat} {c1 c2:LCon} (h1:LoopOk P b c1.g) (h2:LoopOk P b c2.g):LoopOk P b (lconAlt N c1 c2).g:=by
 intro M w0 w ρ σ a K hK hm
 have hK:(bif Nat.beq σ.h.nx N then c1.g σ else c2.g σ).Holds K:=hK
 cases hc:Nat.beq σ.h.nx N with
 | true=>rw[hc] at hK;exact h1 M w0 w ρ σ a K hK hm
 | false=>rw[hc] at hK;exact h2 M w0 w ρ σ a K hK hm
end Go.Sx

namespace Go.Sx
open Go.RowKit
def frz1 (h:SH):SV→SV×SH×List Prop
 | .ow i l=>match h.get i with
  | .row _ sz el m=>(.rs sz l el,h.set i .dead,[l≤m])
  | _=>(.ow i l,h,[])
 | .sl i o l c=>match h.get i with
  | .cells xs _=>bif Nat.ble l c&&(Nat.ble c 16777216&&Nat.ble (o+l * ((xs.length - o) / c)) xs.length) then (.rs ((xs.length - o) / c) l (fun e=>(xs.drop (o+e * ((xs.length - o) / c))).take ((xs.length - o) / c)),h.set i .dead,[]) else (.u,h,[])
  | _=>(.sl i o l c,h,[])
 | s=>(s,h,[])
def frzA:SH→List SV→List SV×SH×List Prop
 | h,[]=>([],h,[])
 | h,s :: r=>((frz1 h s).1 :: (frzA (frz1 h s).2.1 r).1,(frzA (frz1 h s).2.1 r).2.1,(frz1 h s).2.2++(frzA (frz1 h s).2.1 r).2.2)
def frzC (c:Con):Con:=fun args h=>asks (frzA h args).2.2 (c (frzA h args).1 (frzA h args).2.1)
theorem frz1_b (h:SH) (s:SV):(frz1 h s).2.1.b=h.b∧(frz1 h s).2.1.nx=h.nx:=by
 unfold frz1
 split
 ·split <;> exact ⟨rfl,rfl⟩
 ·split
  ·rw[Bool.cond_eq_ite];split <;> exact ⟨rfl,rfl⟩
  ·exact ⟨rfl,rfl⟩
 ·exact ⟨rfl,rfl⟩
theorem frzA_b:∀ (args:List SV) (h:SH),(frzA h args).2.1.b=h.b∧(frzA h args).2.1.nx=h.nx
 | [],h=>⟨rfl,rfl⟩
 | s :: r,h=>by
  obtain ⟨h1,h2⟩:=frz1_b h s
  obtain ⟨h3,h4⟩:=frzA_b r (frz1 h s).2.1
  exact ⟨h3.trans h1,h4.trans h2⟩
section
variable {P:Program} {M:Nat→Prop} {w0 w:World}
theorem frz1_ok {ρ:Rh} {h:SH} {s:SV} {x:Value} (hm:HM M w0 ρ h w) (hf:s.fit h.nx ρ x) (hp:∀ p∈(frz1 h s).2.2,p):∃ ρ',Agree h.nx ρ ρ'∧HM M w0 ρ' (frz1 h s).2.1 w∧(frz1 h s).1.fit h.nx ρ' x:=by
 generalize hr:frz1 h s=r at hp ⊢
 unfold frz1 at hr
 split at hr
 ·rename_i i l
  split at hr
  ·rename_i t sz el m hg
   subst hr
   have hl:l≤m:=hp _ (List.mem_cons_self ..)
   have hob:=hm.ob i
   rw[hg] at hob
   obtain ⟨hil,⟨hnl,rfl,ad,rfl⟩ | ⟨hnl,hlc,rfl⟩⟩:=hf
   ·exact ⟨ρ,Agree.refl _ _,hm.forget i,rs_nil0 _ _ _⟩
   ·rcases hob.2 with ⟨hnl',_⟩ | ⟨_,hoff,c,fz,hob',_,hcs,hmc,hcm,hall⟩
    ·rw[hnl] at hnl';cases hnl'
    ·have hown:(h.get i).own (ρ i):=by rw[hg];exact hnl
     have hag:Agree h.nx ρ (ρ.frz (ρ i).blk _):=agree_frz (n:=h.nx) ρ (o:=.cells c t fz) (hm.sep i hown)
     refine ⟨_,hag,HM.freeze hm hown hob',?_⟩
     refine ⟨_,_,rfl,hlc,by omega,fun _=>⟨_,0,c,t,fz,rfl,?_,fun e he=>?_⟩⟩
     ·simp[Rh.frz]
     ·obtain ⟨vs,q1,q2,q3⟩:=hall e (by omega)
      exact ⟨vs,q1,SV.fits_mono (Nat.le_refl _) hag _ _ q2,q3⟩
  ·subst hr;exact ⟨ρ,Agree.refl _ _,hm,hf⟩
 ·rename_i i o l c
  split at hr
  ·rename_i xs t hg
   cases hb:Nat.ble l c&&(Nat.ble c 16777216&&Nat.ble (o+l * ((xs.length - o) / c)) xs.length) with
   | false=>rw[hb] at hr;subst hr;exact ⟨ρ,Agree.refl _ _,hm,trivial⟩
   | true=>
    rw[hb] at hr
    subst hr
    simp only[Bool.and_eq_true] at hb
    have b1:=Nat.le_of_ble_eq_true hb.1
    have b2:=Nat.le_of_ble_eq_true hb.2.1
    have b3:=Nat.le_of_ble_eq_true hb.2.2
    have hob:=hm.ob i
    rw[hg] at hob
    obtain ⟨hil,rfl⟩:=hf
    obtain ⟨_,hoff,v,hob',hfl⟩:=hob
    have hll:=fits_length hfl
    have hown:(h.get i).own (ρ i):=by rw[hg];trivial
    have hag:Agree h.nx ρ (ρ.frz (ρ i).blk _):=agree_frz (n:=h.nx) ρ (o:=.cells v.toArray t (0,0)) (hm.sep i hown)
    refine ⟨_,hag,HM.freeze hm hown hob',?_⟩
    show (SV.rs ((xs.length - o) / c) l (fun e=>(xs.drop (o+e * ((xs.length - o) / c))).take ((xs.length - o) / c))).fit h.nx _ _
    generalize (xs.length - o) / c=sz at b3 ⊢
    refine ⟨_,_,rfl,b1,by unfold maxLen;omega,fun _=>⟨_,_,v.toArray,t,(0,0),rfl,by simp[Rh.frz],fun e he=>?_⟩⟩
    have hle:o+e * sz+sz≤xs.length:=by
     have:=Nat.mul_le_mul_right sz (show e+1≤l by omega)
     rw[Nat.add_mul,Nat.one_mul] at this
     omega
    refine ⟨(v.drop (o+e * sz)).take sz,by simp;omega,SV.fits_mono (Nat.le_refl _) hag _ _ (fits_take _ (fits_drop _ hfl)),fun j y hy=>?_⟩
    rw[List.getElem?_take] at hy
    split at hy
    ·rw[List.getElem?_drop] at hy
     rw[hoff]
     simpa [Nat.add_assoc] using hy
    ·cases hy
  ·subst hr;exact ⟨ρ,Agree.refl _ _,hm,hf⟩
 ·subst hr;exact ⟨ρ,Agree.refl _ _,hm,hf⟩
theorem frzA_ok:∀ {args:List SV} {ρ:Rh} {h:SH} {vs:List Value},HM M w0 ρ h w→SV.fits h.nx ρ args vs→(∀ p∈(frzA h args).2.2,p)→∃ ρ',Agree h.nx ρ ρ'∧HM M w0 ρ' (frzA h args).2.1 w∧SV.fits h.nx ρ' (frzA h args).1 vs
 | [],ρ,h,vs,hm,hf,_=>⟨ρ,Agree.refl _ _,hm,hf⟩
 | s :: r,ρ,h,vs,hm,hf,hp=>by
  obtain ⟨y,ys,rfl,hy,hr⟩:=fits_cons hf
  simp only[frzA] at hp ⊢
  obtain ⟨ρ1,a1,m1,f1⟩:=frz1_ok hm hy fun p hq=>hp p (List.mem_append_left _ hq)
  have hnx:=(frz1_b h s).2
  have hr1:SV.fits (frz1 h s).2.1.nx ρ1 r ys:=by rw[hnx];exact SV.fits_mono (Nat.le_refl _) a1 _ _ hr
  obtain ⟨ρ2,a2,m2,f2⟩:=frzA_ok (args:=r) m1 hr1 fun p hq=>hp p (List.mem_append_right _ hq)
  rw[hnx] at a2 f2
  exact ⟨ρ2,a1.trans (Nat.le_refl _) a2,m2,SV.fit_mono (Nat.le_refl _) a2 _ _ f1,f2⟩
theorem frzC_ok {f:Nat} {c:Con} (hc:FnOk P f c):FnOk P f (frzC c):=by
 intro M w0 w ρ h args vs K hK hm hf
 obtain ⟨hq,hK⟩:=asks_holds hK
 obtain ⟨ρ1,a1,m1,f1⟩:=frzA_ok hm hf hq
 have hnx:=(frzA_b args h).2
 refine (hc M w0 w ρ1 _ _ vs K hK m1 (by rw[hnx];exact f1)).mono ?_
 rintro e w' ⟨s,h',ρ',x,k1,k2,k3,k4,k5,k6⟩
 rw[hnx] at k2 k3
 exact ⟨s,h',ρ',x,k1,k2,a1.trans (Nat.le_refl _) k3,k4,k5,k6⟩
theorem frzC_b {c:Con} (hc:∀ args h,(c args h).Each fun y=>y.2=h):ConB (frzC c):=fun args h=>by
 have hb:=(frzA_b args h).1
 refine asks_each ?_
 have:=eq_b (hc (frzA h args).1 (frzA h args).2.1)
 rw[hb] at this
 exact this
def fconR {γ δ:Type} (D:DA γ) (R:Dv δ) (fn:γ→δ) (pre:γ→List Prop):BCon:=⟨frzC (conR D R fn pre),frzC_b (pconR D R fn pre).e⟩
theorem fconR_ok {f:Nat} {γ δ:Type} {D:DA γ} {R:Dv δ} {fn:γ→δ} {pre:γ→List Prop} (h:FnPure P f D R fn pre):FnOk P f (fconR D R fn pre).g:=frzC_ok (conR_ok h)
theorem asks_intro {α:Type} {K:α→Prop}:∀ {l:List Prop} {t:Tr α},(∀ p∈l,p)→t.Holds K→(asks l t).Holds K
 | [],_,_,h=>h
 | p :: r,t,hl,h=>⟨hl p (List.mem_cons_self ..),asks_intro (l:=r) (fun q hq=>hl q (List.mem_cons_of_mem _ hq)) h⟩
def conL {α γ δ:Type} (A:El α) (D:DA γ) (R:Dv δ) (fn:List α×γ→δ) (pre:List α×γ→List Prop):Con:=fun args h=>
 match args with
 | .ow i l :: rest=>match h.get i with
  | .row _ sz el m=>match Nat.beq sz A.sz with
   | true=>match D.dec rest with
    | some (g,ps)=>asks ((l≤m) :: (A.okE l el++(ps++pre (A.lstE l el,g)))) (.ret (R.enc (fn (A.lstE l el,g)),h.set i .dead))
    | none=>.bad 658
   | false=>.bad 659
  | _=>.bad 660
 | args=>frzC (conR (.cons (.list A) D) R fn pre) args h
theorem conL_ok {f:Nat} {α γ δ:Type} {A:El α} {D:DA γ} {R:Dv δ} {fn:List α×γ→δ} {pre:List α×γ→List Prop} (hp:FnPure P f (.cons (.list A) D) R fn pre):FnOk P f (conL A D R fn pre):=by
 intro M w0 w ρ h args vs K hK hm hf
 unfold conL at hK
 split at hK
 ·rename_i i l rest
  split at hK
  ·rename_i t sz el m hg
   split at hK
   ·rename_i hb
    split at hK
    ·rename_i g ps hd
     obtain ⟨hq,hK⟩:=asks_holds hK
     have hlm:l≤m:=hq _ (List.mem_cons_self ..)
     have hok:∀ e,e<l→A.Ok (el.at e):=A.okE_ok l el fun p h'=>hq p (List.mem_cons_of_mem _ (List.mem_append_left _ h'))
     have hps:∀ p∈ps,p:=fun p h'=>hq p (List.mem_cons_of_mem _ (List.mem_append_right _ (List.mem_append_left _ h')))
     have hpre:∀ p∈pre (A.lstE l el,g),p:=fun p h'=>hq p (List.mem_cons_of_mem _ (List.mem_append_right _ (List.mem_append_right _ h')))
     rw[A.lstE_eq] at hpre hK
     obtain ⟨y,ys,rfl,hy,hr⟩:=fits_cons hf
     have e1:frz1 h (.ow i l)=(.rs sz l el.at,h.set i .dead,[l≤m]):=by simp[frz1,hg]
     obtain ⟨ρ1,a1,m1,f1⟩:=frz1_ok (s:=.ow i l) hm hy (by rw[e1];intro p hp';simp only[List.mem_singleton] at hp';rw[hp'];exact hlm)
     rw[e1] at m1 f1
     have hdec:(DA.cons (.list A) D).dec (.rs sz l el.at :: rest)=some ((A.lst l el.at,g),[∀ e,e<l→A.Ok (el.at e)]++ps):=by
      simp only[DA.cons,Dv.list,hb,hd,cond_true]
     have hK1:(conR (.cons (.list A) D) R fn pre (.rs sz l el.at :: rest) (h.set i .dead)).Holds K:=by
      unfold conR
      rw[hdec]
      refine asks_intro (fun p h'=>?_) hK
      rcases List.mem_append.1 h' with h' | h'
      ·rcases List.mem_append.1 h' with h' | h'
       ·simp only[List.mem_singleton] at h'
        rw[h'];exact hok
       ·exact hps p h'
      ·exact hpre p h'
     refine (conR_ok hp M w0 w ρ1 (h.set i .dead) (.rs sz l el.at :: rest) (y :: ys) K hK1 m1 ⟨f1,SV.fits_mono (Nat.le_refl _) a1 _ _ hr⟩).mono ?_
     rintro e w' ⟨s,h',ρ',x,k1,k2,k3,k4,k5,k6⟩
     exact ⟨s,h',ρ',x,k1,k2,a1.trans (Nat.le_refl _) k3,k4,k5,k6⟩
    ·exact hK.elim
   ·exact hK.elim
  ·exact hK.elim
 ·exact frzC_ok (conR_ok hp) M w0 w ρ h _ vs K hK hm hf
theorem conL_b {α γ δ:Type} {A:El α} {D:DA γ} {R:Dv δ} {fn:List α×γ→δ} {pre:List α×γ→List Prop}:ConB (conL A D R fn pre):=fun args h=>by
 unfold conL
 split
 ·split
  ·split
   ·split
    ·exact asks_each rfl
    ·trivial
   ·trivial
  ·trivial
 ·exact frzC_b (pconR (.cons (.list A) D) R fn pre).e _ h
def lconR {α γ δ:Type} (A:El α) (D:DA γ) (R:Dv δ) (fn:List α×γ→δ) (pre:List α×γ→List Prop):BCon:=⟨conL A D R fn pre,conL_b⟩
theorem pure_none {f:Nat} {α δ:Type} {A:Dv α} {R:Dv δ} {fn:α→δ} {pre:α→List Prop} (h:FnPure P f (.one A) R fn pre):FnPure P f (.cons A .none) R (fun g=>fn g.1) (fun g=>pre g.1):=fun w F g vs h1 h2 h3=>h w F g.1 vs h1 h2 h3
def okAll {α:Type} (A:El α) (n:Nat) (el:Nat→List SV):Bool:=(List.range n).all fun e=>match A.decs (el e) with
 | some (_,[])=>true
 | _=>false
theorem okAll_ok {α:Type} {A:El α} {n:Nat} {el:Nat→List SV} (h:okAll A n el=true):∀ e,e<n→A.Ok (el e):=fun e he=>by
 have:=List.all_eq_true.1 h e (by simpa using he)
 split at this
 ·rename_i a hd
  exact ⟨a,[],hd,by simp⟩
 ·cases this
def Dv.listB {α:Type} (A:El α):Dv (List α) where
 dec s:=match s with
  | .rs sz n el=>bif Nat.beq sz A.sz&&okAll A n el then some (A.lst n el,[]) else none
  | _=>none
 enc:=(Dv.list A).enc
 bd:=(Dv.list A).bd
 cl:=(Dv.list A).cl
 ok s a ps n ρ x hd hp hf:=by
  split at hd
  ·rename_i sz m el
   cases hb:(Nat.beq sz A.sz&&okAll A m el) with
   | false=>rw[hb] at hd;cases hd
   | true=>
    rw[hb] at hd
    simp only[cond_true,Option.some.injEq,Prod.mk.injEq] at hd
    obtain ⟨rfl,rfl⟩:=hd
    simp only[Bool.and_eq_true] at hb
    exact (Dv.list A).ok (.rs sz m el) _ [∀ e,e<m→A.Ok (el e)] n ρ x (by simp[Dv.list,hb.1]) (by
     intro p hp
     simp only[List.mem_singleton] at hp
     subst hp
     exact okAll_ok hb.2) hf
  ·cases hd
 fb:=(Dv.list A).fb
end
end Go.Sx

namespace Go.Sx
open Go.RowKit
def hdC:List Nat→List Nat
 | []=>[]
 | n :: r=>r.take n
def tlC:List Nat→List Nat
 | []=>[]
 | n :: r=>r.drop n
def joC (a b:List Nat):List Nat:=a.length :: (a++b)
theorem hd_jo (a b:List Nat):hdC (joC a b)=a:=by simp[hdC,joC]
theorem tl_jo (a b:List Nat):tlC (joC a b)=b:=by simp[tlC,joC]
def Tr.evA {α:Type} (d:α):Tr α→List Nat→α
 | .ret x,_=>x
 | .br c a b,cs=>bif c then a.evA d cs else b.evA d cs
 | .ask _ a,cs=>a.evA d cs
 | .giv _ a,cs=>a.evA d cs
 | .all k,cs=>(k (hdC cs)).evA d (tlC cs)
 | .bad _,_=>d
def Tr.sideA {α:Type}:Tr α→List Nat→Prop
 | .ret _,_=>True
 | .br c a b,cs=>match a.plain,b.plain with
  | true,true=>True
  | true,false=>c=false→b.sideA cs
  | false,true=>c=true→a.sideA cs
  | false,false=>(c=true→a.sideA cs)∧(c=false→b.sideA cs)
 | .ask p a,cs=>match a.plain with
  | true=>p
  | false=>p∧a.sideA cs
 | .giv p a,cs=>match a.plain with
  | true=>True
  | false=>p→a.sideA cs
 | .all k,cs=>(k (hdC cs)).sideA (tlC cs)
 | .bad _,_=>False
theorem Tr.plain_sideA {α:Type}:∀ {t:Tr α} {cs:List Nat},t.plain=true→t.sideA cs
 | .ret _,_,_=>trivial
 | .br c a b,_,h=>by
  simp only[Tr.plain,Bool.and_eq_true] at h
  simp only[Tr.sideA,h.1,h.2]
 | .ask _ _,_,h=>by cases h
 | .giv _ _,_,h=>by cases h
 | .all _,_,h=>by cases h
 | .bad _,_,h=>by cases h
theorem Tr.sideA_holds {α:Type} (d:α) {K:α→Prop}:∀ {t:Tr α},(∀ cs,t.sideA cs)→(∀ cs,K (t.evA d cs))→t.Holds K
 | .ret _,_,hk=>hk []
 | .br c a b,h,hk=>by
  have h2:(c=true→∀ cs,a.sideA cs)∧(c=false→∀ cs,b.sideA cs):=by
   simp only[Tr.sideA] at h
   split at h
   ·rename_i h1 h2;exact ⟨fun _ _=>Tr.plain_sideA h1,fun _ _=>Tr.plain_sideA h2⟩
   ·rename_i h1 h2;exact ⟨fun _ _=>Tr.plain_sideA h1,fun hc cs=>h cs hc⟩
   ·rename_i h1 h2;exact ⟨fun hc cs=>h cs hc,fun _ _=>Tr.plain_sideA h2⟩
   ·exact ⟨fun hc cs=>(h cs).1 hc,fun hc cs=>(h cs).2 hc⟩
  refine ⟨fun hc=>sideA_holds d (h2.1 hc) fun cs=>?_,fun hc=>sideA_holds d (h2.2 hc) fun cs=>?_⟩
  ·have:=hk cs;subst hc;exact this
  ·have:=hk cs;subst hc;exact this
 | .ask p a,h,hk=>by
  have h2:p∧∀ cs,a.sideA cs:=by
   simp only[Tr.sideA] at h
   split at h
   ·rename_i h1;exact ⟨h [],fun _=>Tr.plain_sideA h1⟩
   ·exact ⟨(h []).1,fun cs=>(h cs).2⟩
  exact ⟨h2.1,sideA_holds d h2.2 hk⟩
 | .giv p a,h,hk=>fun hp=>by
  have h2:∀ cs,a.sideA cs:=by
   simp only[Tr.sideA] at h
   split at h
   ·rename_i h1;exact fun _=>Tr.plain_sideA h1
   ·exact fun cs=>h cs hp
  exact sideA_holds d h2 hk
 | .all k,h,hk=>fun n=>sideA_holds d (fun cs=>by
   have:=h (joC n cs)
   simp only[Tr.sideA,hd_jo,tl_jo] at this
   exact this) fun cs=>by
  have:=hk (joC n cs)
  simp only[Tr.evA,hd_jo,tl_jo] at this
  exact this
 | .bad _,h,_=>(h []).elim
theorem holds_asks {α:Type} {K:α→Prop}:∀ {l:List Prop} {t:Tr α},(∀ p∈l,p)→t.Holds K→(asks l t).Holds K
 | [],_,_,ht=>ht
 | p :: _,_,h,ht=>⟨h p (List.mem_cons_self ..),holds_asks (fun q hq=>h q (List.mem_cons_of_mem _ hq)) ht⟩
theorem map_holds {α β:Type} {f:α→β} {K:β→Prop}:∀ {t:Tr α},(t.Holds fun x=>K (f x))→(t.map f).Holds K
 | .ret _,h=>h
 | .br _ _ _,h=>⟨fun c=>map_holds (h.1 c),fun c=>map_holds (h.2 c)⟩
 | .ask _ _,h=>⟨h.1,map_holds h.2⟩
 | .giv _ _,h=>fun q=>map_holds (h q)
 | .all _,h=>fun n=>map_holds (h n)
 | .bad _,h=>h
def runLA {γ:Type} (F:List Nat→γ→Ex×γ):Nat→List Nat→γ→Ex×γ
 | 0,_,g=>(.ret,g)
 | n+1,cs,g=>match F (hdC cs) g with
  | (.normal,g')=>runLA F n (tlC cs) g'
  | x=>x
noncomputable def loopFA {γ:Type} (F:List Nat→γ→Ex×γ) (m:γ→Nat) (cs:List Nat) (g:γ):Ex×γ:=runLA F (hush (m g+1)) cs g
theorem loopFA_def {γ:Type} (F:List Nat→γ→Ex×γ) (m:γ→Nat) (cs:List Nat) (g:γ):loopFA F m cs g=runLA F (m g+1) cs g:=by unfold loopFA;rw[hush_eq]
def GoesA {γ:Type} (F:List Nat→γ→Ex×γ) (m:γ→Nat) (Inv:γ→Prop):Prop:=∀ g cs,Inv g→(F cs g).1=.normal→Inv (F cs g).2∧m (F cs g).2<m g
section
variable {γ:Type} {F:List Nat→γ→Ex×γ} {m:γ→Nat} {Inv:γ→Prop}
theorem runLA_fuel (h:GoesA F m Inv):∀ (n k:Nat) (cs:List Nat) (g:γ),Inv g→m g<n→m g<k→runLA F n cs g=runLA F k cs g
 | 0,_,_,_,_,h1,_=>by omega
 | _,0,_,_,_,_,h1=>by omega
 | n+1,k+1,cs,g,hi,hn,hk=>by
  simp only[runLA]
  have hg:=h g (hdC cs) hi
  generalize F (hdC cs) g=x at hg ⊢
  obtain ⟨e,g'⟩:=x
  cases e with
  | normal=>
   obtain ⟨h1,h2⟩:=hg rfl
   exact runLA_fuel h n k (tlC cs) g' h1 (by simp only at h2;omega) (by simp only at h2;omega)
  | _=>rfl
theorem loopFA_next (h:GoesA F m Inv) {g g':γ} {cs:List Nat} (hi:Inv g) (he:F (hdC cs) g=(.normal,g')):loopFA F m cs g=loopFA F m (tlC cs) g':=by
 have h2:=h g (hdC cs) hi (by rw[he])
 rw[he] at h2
 rw[loopFA_def,loopFA_def]
 show (match F (hdC cs) g with
  | (.normal,g')=>runLA F (m g) (tlC cs) g'
  | x=>x)=_
 rw[he]
 exact runLA_fuel h _ _ _ g' h2.1 h2.2 (Nat.lt_succ_self _)
theorem loopFA_end {g:γ} {cs:List Nat} (he:(F (hdC cs) g).1≠.normal):loopFA F m cs g=F (hdC cs) g:=by
 rw[loopFA_def]
 show (match F (hdC cs) g with
  | (.normal,g')=>runLA F (m g) (tlC cs) g'
  | x=>x)=_
 generalize F (hdC cs) g=x at he
 obtain ⟨e,g'⟩:=x
 cases e with
 | normal=>exact absurd rfl he
 | _=>rfl
theorem loopFA_induct (h:GoesA F m Inv) {Q:List Nat→γ→Ex×γ→Prop} (h1:∀ g cs,Inv g→(F (hdC cs) g).1≠.normal→Q cs g (F (hdC cs) g)) (h2:∀ g g' cs r,Inv g→F (hdC cs) g=(.normal,g')→Inv g'→m g'<m g→Q (tlC cs) g' r→Q cs g r):∀ (cs:List Nat) (g:γ),Inv g→Q cs g (loopFA F m cs g):=by
 intro cs g
 induction hn:m g using Nat.strongRecOn generalizing g cs with
 | _ n ih=>
  intro hi
  by_cases he:(F (hdC cs) g).1=.normal
  ·obtain ⟨k1,k2⟩:=h g (hdC cs) hi he
   have hF:F (hdC cs) g=(.normal,(F (hdC cs) g).2):=by rw[← he]
   rw[loopFA_next h hi hF]
   exact h2 g _ _ _ hi hF k1 k2 (ih _ (by omega) _ _ rfl k1)
  ·rw[loopFA_end he]
   exact h1 g cs hi he
theorem loopFA_exit {es:List Ex} (h:GoesA F m Inv) (he:∀ cs g,(F cs g).1=.normal∨(F cs g).1∈es) {g:γ} {cs:List Nat} (hi:Inv g):(loopFA F m cs g).1∈es:=
 loopFA_induct h (Q:=fun _ _ r=>r.1∈es) (fun g _ _ hn=>(he _ g).resolve_left hn) (fun _ _ _ _ _ _ _ _ ih=>ih) cs g hi
end
theorem exitsT_in {γ:Type} {x:Ex×γ} {K:Ex×γ→Prop}:∀ {l:List Ex},x.1∈l→K x→(exitsT x l).Holds K
 | [],h,_=>by simp at h
 | [e],h,hk=>by
  have:x.1=e:=by simpa using h
  show K (e,x.2)
  rw[← this];exact hk
 | e :: e' :: r,h,hk=>by
  refine ⟨fun hb=>?_,fun hb=>exitsT_in (l:=e' :: r) ?_ hk⟩
  ·show K (e,x.2)
   rw[exB_eq hb];exact hk
  ·rcases List.mem_cons.1 h with h | h
   ·rw[h,exB_refl] at hb;cases hb
   ·exact h
section
variable {P:Program} {Γ:Gam} {Λ:Lam} {N:Nat} {γ:Type}
noncomputable def loopRA (es:List Ex) (body:Code) (A:LP N γ) (DL:List Nat) (n0:Nat) (Inv:γ→List Prop) (F:List Nat→γ→Ex×γ) (m:γ→Nat):LCon:=loopC body A DL n0 Inv fun g=>.all fun cs=>exitsT (loopFA F m cs g) es
theorem loop_runA (hΓ:∀ f g,Γ.g f=some g→FnOk P f g) (hΛ:∀ f k L,Λ f k=some L→∀ b∈loopsOf P f,lkey b=k→LoopOk P b L.g) (n f key n0:Nat) (A:LP N γ) (DL:List Nat) (Inv:γ→List Prop) (F:List Nat→γ→Ex×γ) (S:List Nat→γ→Prop) (m:γ→Nat) (d:Ex×γ) (es:List Ex)
  (hu:((loopsOf P f).filter fun c=>Nat.beq (lkey c) key).length=1)
  (hS:∀ (rd:Option Nat) (T B:List (Nat×SV)) (HL HB:List (Nat×SE)) (ds:List Nat) (cs:List Nat) (g:γ),(bT P Γ Λ n f none (loopBody P f key) A DL n0 ⟨n0,T,⟨N,HL,HB⟩,DL,B⟩ ds g).sideA cs=S cs g)
  (hF:∀ (rd:Option Nat) (T B:List (Nat×SV)) (HL HB:List (Nat×SE)) (ds:List Nat) (cs:List Nat) (g:γ),(bT P Γ Λ n f none (loopBody P f key) A DL n0 ⟨n0,T,⟨N,HL,HB⟩,DL,B⟩ ds g).evA d cs=F cs g)
  (hs:∀ cs g,allP (Inv g)→S cs g) (hg:GoesA F m fun g=>allP (Inv g)) (hes:∀ cs g,(F cs g).1=.normal∨(F cs g).1∈es):∀ b∈loopsOf P f,lkey b=key→LoopOk P b (loopRA es (loopBody P f key) A DL n0 Inv F m).g:=by
 refine loop_ok hΓ hΛ n f key n0 A DL Inv _ m hu ?_
 intro rd T B HL HB ds g hi K hK
 have h1:∀ cs,(bT P Γ Λ n f none (loopBody P f key) A DL n0 ⟨n0,T,⟨N,HL,HB⟩,DL,B⟩ ds g).sideA cs:=fun cs=>by rw[hS none];exact hs cs g hi
 refine Tr.sideA_holds d h1 fun c0=>?_
 rw[hF none]
 have hK:∀ cs,K (loopFA F m cs g):=fun cs=>exitsT_holds (loopFA_exit hg hes hi) (hK cs)
 unfold StepP
 split
 ·rename_i he
  obtain ⟨k1,k2⟩:=hg g c0 hi he
  refine ⟨k1,k2,fun cs=>?_⟩
  have h3:=hK (joC c0 cs)
  rw[loopFA_next hg hi (g':=(F c0 g).2) (by rw[hd_jo,← he]),tl_jo] at h3
  have h4:(loopFA F m cs (F c0 g).2).1∈es:=loopFA_exit hg hes k1
  exact exitsT_in h4 h3
 ·rename_i he
  have h3:=hK (joC c0 [])
  rw[loopFA_end (by rw[hd_jo];intro h;exact he h),hd_jo] at h3
  exact h3
theorem loop_say {body:Code} {A:LP N γ} {DL:List Nat} {n0:Nat} {Inv Inv':γ→List Prop} {G G':γ→Tr (Ex×γ)} {b:Code} (hi:∀ g,allP (Inv' g)→allP (Inv g)) (hG:∀ g,allP (Inv' g)→∀ K:Ex×γ→Prop,(G' g).Holds K→(G g).Holds K) (h:LoopOk P b (loopC body A DL n0 Inv G).g):LoopOk P b (loopC body A DL n0 Inv' G').g:=by
 intro M w0 w ρ σ a K hK hm
 refine h M w0 w ρ σ a K ?_ hm
 have hK:(loopG body A DL n0 Inv' G' σ).Holds K:=hK
 show (loopG body A DL n0 Inv G σ).Holds K
 unfold loopG at hK ⊢
 split at hK
 ·rename_i g ps ids hread
  split at hK
  ·rename_i hc
   obtain ⟨hps,hK⟩:=asks_holds hK
   have hI:allP (Inv' g):=fun p hp=>hps p (List.mem_append_right _ hp)
   refine holds_asks (fun p hp=>?_) (map_holds (hG g hI _ (Tr.holds_map hK)))
   rcases List.mem_append.1 hp with hp | hp
   ·exact hps p (List.mem_append_left _ hp)
   ·exact hi g hI p hp
  ·exact hK.elim
 ·exact hK.elim
noncomputable def loopRC (es:List Ex) (body:Code) (A:LP N γ) (DL:List Nat) (n0:Nat) (Inv:γ→List Prop) (f:List Nat→γ→Ex×γ):LCon:=loopC body A DL n0 Inv fun g=>.all fun cs=>exitsT (f cs g) es
theorem loop_quotC {es:List Ex} {body:Code} {A:LP N γ} {DL:List Nat} {n0:Nat} {Inv Inv':γ→List Prop} {F:List Nat→γ→Ex×γ} {m:γ→Nat} {b:Code} {f:List Nat→γ→Ex×γ} (hi:∀ g,allP (Inv' g)→allP (Inv g)) (hf:∀ g,allP (Inv' g)→∀ cs,∃ cs',loopFA F m cs g=f cs' g) (h:LoopOk P b (loopRA es body A DL n0 Inv F m).g):LoopOk P b (loopRC es body A DL n0 Inv' f).g:=
 loop_say (G:=fun g=>.all fun cs=>exitsT (loopFA F m cs g) es) hi (fun g hI K hK cs=>by
  obtain ⟨cs',e⟩:=hf g hI cs
  show (exitsT (loopFA F m cs g) es).Holds K
  rw[e];exact hK cs') h
theorem pure_of_sideA {f:Nat} {δ:Type} {D:DA γ} {R:Dv δ} {fn:γ→δ} {pre:γ→List Prop} (hΓ:∀ f g,Γ.g f=some g→FnOk P f g) (hΛ:∀ f k L,Λ f k=some L→∀ b∈loopsOf P f,lkey b=k→LoopOk P b L.g) (n:Nat) (d:δ) (S:List Nat→γ→Prop) (F:List Nat→γ→δ)
  (hS:∀ cs g,(dTree P Γ Λ n f (D.enc g) R).sideA cs=S cs g) (hF:∀ cs g,(dTree P Γ Λ n f (D.enc g) R).evA d cs=F cs g) (h:∀ cs g,D.bd g→(∀ p∈pre g,p)→S cs g∧F cs g=fn g):FnPure P f D R fn pre:=
 pure_of_tree hΓ hΛ n fun g h1 h2=>Tr.sideA_holds d (fun cs=>by rw[hS];exact (h cs g h1 h2).1) fun cs=>by rw[hF];exact (h cs g h1 h2).2
end
end Go.Sx

namespace Go.Sx
open Go.RowKit
section
variable {N:Nat} {α β:Type}
def El.ent (K:El α) (V:El β):El (α×β×Int):=El.pair K (El.pair V (eInt .i64))
def LP.mapO (N id:Nat) (ka va:Bool) (K:El α) (V:El β):LP N (List (α×β×Int)×Nat) where
 R:=0
 read σ:=match σ.h.get id with
  | .map ks vs ka' va' el m clk _=>bif Nat.beq ks K.sz&&(Nat.beq vs V.sz&&(ka==ka'&&va==va')) then some (((El.ent K V).lstE m el,clk),(El.ent K V).okE m el,[]) else none
  | _=>none
 ents _ _:=[]
 rows _:=[]
 objs _ g:=[(id,.map K.sz V.sz ka va (.fn ((El.ent K V).els g.1)) g.1.length g.2 false)]
 es:=[]
 os:=[id]
 eseq _ _:=rfl
 oseq _ _:=rfl
 rlen _:=rfl
 ilen σ g ps ids h:=by
  split at h
  ·rename_i ks vs ka' va' el m clk pd _
   cases hb:Nat.beq ks K.sz&&(Nat.beq vs V.sz&&(ka==ka'&&va==va')) with
   | false=>rw[hb] at h;cases h
   | true=>
    rw[hb] at h
    simp only[cond_true,Option.some.injEq,Prod.mk.injEq] at h
    rw[← h.2.2];rfl
  ·cases h
 ok k0 σ g ps ids h hp:=by
  split at h
  ·rename_i ks vs ka' va' el m clk pd hg
   cases hb:Nat.beq ks K.sz&&(Nat.beq vs V.sz&&(ka==ka'&&va==va')) with
   | false=>rw[hb] at h;cases h
   | true=>
    rw[hb] at h
    simp only[Bool.and_eq_true,beq_iff_eq] at hb
    obtain ⟨b1,b2,b3,b4⟩:=hb
    have e1:=beq_of b1
    have e2:=beq_of b2
    subst e1;subst e2;subst b3;subst b4
    simp only[cond_true,Option.some.injEq,Prod.mk.injEq] at h
    obtain ⟨rfl,rfl,rfl⟩:=h
    have hk:∀ e,e<m→(El.ent K V).Ok (el e):=El.okE_ok _ m el hp
    rw[El.lstE_eq]
    refine ⟨fun k t sz el l h=>by simp at h,fun id' so h=>?_,fun j s h=>by simp at h⟩
    simp only[List.mem_singleton,Prod.mk.injEq] at h
    obtain ⟨rfl,rfl⟩:=h
    rw[hg]
    refine ⟨fun _ h=>h,fun n m' ρ ρ' L o hr hf=>?_⟩
    obtain ⟨f1,f2,⟨es,f3,f4,f5,f6⟩,_⟩:=hf
    rw[El.lst_length]
    refine ⟨f1,f2,⟨es,f3,f4,f5,fun e he=>?_⟩,fun h=>by cases h⟩
    obtain ⟨y,kc,vc,q1,q2,q3⟩:=f6 e he
    obtain ⟨a,ps,d1,d2⟩:=hk e he
    refine ⟨y,kc,vc,q1,?_,q3⟩
    have:=(El.ent K V).cl a n m' ρ ρ' _ hr.ag.2.1 ((El.ent K V).ok _ _ _ _ _ _ d1 d2 q2)
    show SV.fits m' ρ' ((El.ent K V).cells (((El.ent K V).lst m el).getD e (El.ent K V).dflt)) _
    rw[El.lst_getD _ _ _ _ he]
    simpa only [El.get,d1] using this
  ·cases h
def LP.mit (N id i:Nat):LP N (List Int×Nat) where
 R:=0
 read σ:=match σ.h.get id with
  | .mit j since sel sn last _=>bif Nat.beq j i&&Nat.blt i N then some (((eInt .i64).lstE sn sel,since),(last=since) :: (eInt .i64).okE sn sel,[]) else none
  | _=>none
 ents _ _:=[]
 rows _:=[]
 objs _ g:=[(id,.mit i g.2 (.fn ((eInt .i64).els g.1)) g.1.length g.2 none)]
 es:=[]
 os:=[id]
 eseq _ _:=rfl
 oseq _ _:=rfl
 rlen _:=rfl
 ilen σ g ps ids h:=by
  split at h
  ·rename_i j since sel sn last _ _
   cases hb:Nat.beq j i&&Nat.blt i N with
   | false=>rw[hb] at h;cases h
   | true=>
    rw[hb] at h
    simp only[cond_true,Option.some.injEq,Prod.mk.injEq] at h
    rw[← h.2.2];rfl
  ·cases h
 ok k0 σ g ps ids h hp:=by
  split at h
  ·rename_i j since sel sn last cu hg
   cases hb:Nat.beq j i&&Nat.blt i N with
   | false=>rw[hb] at h;cases h
   | true=>
    rw[hb] at h
    simp only[Bool.and_eq_true] at hb
    have e1:=beq_of hb.1
    have hlt:i<N:=Nat.le_of_ble_eq_true hb.2
    subst e1
    simp only[cond_true,Option.some.injEq,Prod.mk.injEq] at h
    obtain ⟨rfl,rfl,rfl⟩:=h
    have hls:last=since:=hp _ (List.mem_cons_self ..)
    subst hls
    have hk:∀ e,e<sn→(eInt .i64).Ok (sel e):=El.okE_ok _ sn sel fun p h=>hp p (List.mem_cons_of_mem _ h)
    rw[El.lstE_eq]
    refine ⟨fun k t sz el l h=>by simp at h,fun id' so h=>?_,fun j s h=>by simp at h⟩
    simp only[List.mem_singleton,Prod.mk.injEq] at h
    obtain ⟨rfl,rfl⟩:=h
    rw[hg]
    refine ⟨fun _ h=>h,fun n m' ρ ρ' L o hr hf=>?_⟩
    obtain ⟨f1,f2,f3,seen,f4,f5,f6,_⟩:=hf
    rw[El.lst_length]
    refine ⟨f1,f2,by have:=hr.le;omega,seen,by rw[hr.ag.1 j hlt];exact f4,f5,fun e x hx=>?_,fun s hs=>(by cases hs)⟩
    have he:e<sn:=by rw[← f5];exact (Array.getElem?_eq_some_iff.1 hx).1
    obtain ⟨a,ps,d1,d2⟩:=hk e he
    have:=(eInt .i64).cl a n m' ρ ρ' _ hr.ag.2.1 ((eInt .i64).ok _ _ _ _ _ _ d1 d2 (f6 e x hx))
    show SV.fits m' ρ' ((eInt .i64).cells (((eInt .i64).lst sn sel).getD e (eInt .i64).dflt)) _
    rw[El.lst_getD _ _ _ _ he]
    simpa only [El.get,d1] using this
  ·cases h
def LP.mif (N id:Nat) (ka va:Bool) (K:El α) (V:El β):LP N (List (α×β)) where
 R:=0
 read σ:=match σ.h.get id with
  | .mif ks vs ka' va' rem cnt _=>bif Nat.beq ks K.sz&&(Nat.beq vs V.sz&&(ka==ka'&&va==va')) then some ((El.pair K V).lstE cnt rem,(El.pair K V).okE cnt rem,[]) else none
  | _=>none
 ents _ _:=[]
 rows _:=[]
 objs _ g:=[(id,.mif K.sz V.sz ka va (.fn ((El.pair K V).els g)) g.length none)]
 es:=[]
 os:=[id]
 eseq _ _:=rfl
 oseq _ _:=rfl
 rlen _:=rfl
 ilen σ g ps ids h:=by
  split at h
  ·rename_i ks vs ka' va' rem cnt _ _
   cases hb:Nat.beq ks K.sz&&(Nat.beq vs V.sz&&(ka==ka'&&va==va')) with
   | false=>rw[hb] at h;cases h
   | true=>
    rw[hb] at h
    simp only[cond_true,Option.some.injEq,Prod.mk.injEq] at h
    rw[← h.2.2];rfl
  ·cases h
 ok k0 σ g ps ids h hp:=by
  split at h
  ·rename_i ks vs ka' va' rem cnt cu hg
   cases hb:Nat.beq ks K.sz&&(Nat.beq vs V.sz&&(ka==ka'&&va==va')) with
   | false=>rw[hb] at h;cases h
   | true=>
    rw[hb] at h
    simp only[Bool.and_eq_true,beq_iff_eq] at hb
    obtain ⟨b1,b2,b3,b4⟩:=hb
    have e1:=beq_of b1
    have e2:=beq_of b2
    subst e1;subst e2;subst b3;subst b4
    simp only[cond_true,Option.some.injEq,Prod.mk.injEq] at h
    obtain ⟨rfl,rfl,rfl⟩:=h
    have hk:∀ e,e<cnt→(El.pair K V).Ok (rem e):=El.okE_ok _ cnt rem hp
    rw[El.lstE_eq]
    refine ⟨fun k t sz el l h=>by simp at h,fun id' so h=>?_,fun j s h=>by simp at h⟩
    simp only[List.mem_singleton,Prod.mk.injEq] at h
    obtain ⟨rfl,rfl⟩:=h
    rw[hg]
    refine ⟨fun _ h=>h,fun n m' ρ ρ' L o hr hf=>?_⟩
    obtain ⟨f1,f2,f3⟩:=hf
    rw[El.lst_length]
    refine ⟨f1,f2,?_⟩
    rcases f3 with f3 | ⟨b,es,clk,seen,k1,k2,k3,k4,k5,_⟩
    ·exact .inl ⟨f3.1,f3.2.1,rfl⟩
    ·refine .inr ⟨b,es,clk,seen,k1,hr.ag.2.1 _ _ k2,k3,k4,fun e he=>?_,fun c hc=>(by cases hc)⟩
     obtain ⟨y,kc,vc,q1,q2,q3⟩:=k5 e he
     obtain ⟨a,ps,d1,d2⟩:=hk e he
     refine ⟨y,kc,vc,q1,?_,q3⟩
     have:=(El.pair K V).cl a n m' ρ ρ' _ hr.ag.2.1 ((El.pair K V).ok _ _ _ _ _ _ d1 d2 q2)
     show SV.fits m' ρ' ((El.pair K V).cells (((El.pair K V).lst cnt rem).getD e (El.pair K V).dflt)) _
     rw[El.lst_getD _ _ _ _ he]
     simpa only [El.get,d1] using this
  ·cases h
end
end Go.Sx

namespace Go.Lp
open Go.Sx
section
variable {α:Type} (A:El α)
theorem lst_snoc (xs:List α) (x:α):A.lst (min (xs.length+1) xs.length) (A.els xs)++List.map (fun _=>x) (List.range (xs.length+1 - xs.length))=xs++[x]:=by
 rw[Nat.min_eq_right (Nat.le_succ _),A.lst_els,show xs.length+1 - xs.length=1 by omega]
 rfl
theorem lst_up (xs:List α):A.lst (xs.length+1) (A.els xs)=xs++[A.dflt]:=by
 apply List.ext_getElem
 ·simp[El.lst]
 ·intro i h1 h2
  simp only[El.lst,List.getElem_map,List.getElem_range,El.els,El.get_cells]
  by_cases h:i<xs.length
  ·simp[List.getElem_append_left h,List.getD_eq_getElem?_getD,h]
  ·have h3:i=xs.length:=by simp[El.lst] at h1;omega
   subst h3
   simp[List.getD_eq_getElem?_getD]
theorem lst_le (xs:List α) (k:Nat) (h:k≤xs.length):A.lst k (A.els xs)=xs.take k:=by
 apply List.ext_getElem
 ·simp[El.lst];omega
 ·intro i h1 h2
  have:i<xs.length:=by simp[El.lst] at h1;omega
  simp[El.lst,El.els,El.get_cells,List.getD_eq_getElem?_getD,this]
theorem lst_put (xs:List α) (i:Nat) (h:i≤xs.length) (x:α):(A.lst (bif decide (i<xs.length) then xs.length else xs.length+1) (A.els xs)).set i x=if i<xs.length then xs.set i x else xs++[x]:=by
 by_cases hi:i<xs.length
 ·rw[decide_eq_true hi,cond_true,A.lst_els,if_pos hi]
 ·have:i=xs.length:=by omega
  subst this
  rw[decide_eq_false hi,cond_false,lst_up,if_neg hi]
  simp
theorem lst_del (xs:List α) (i:Nat) (h:i<xs.length):A.lst (min (bif decide (i<xs.length) then xs.length - 1 else xs.length) i) (A.els xs)++List.drop (i+1) (A.lst (i+1+((bif decide (i<xs.length) then xs.length - 1 else xs.length) - i)) (A.els xs))=xs.eraseIdx i:=by
 rw[decide_eq_true h,cond_true,Nat.min_eq_right (by omega),show i+1+(xs.length - 1 - i)=xs.length by omega,A.lst_els,lst_le A xs i (by omega),List.eraseIdx_eq_take_drop_succ]
end
section
variable {α:Type}
theorem kfind_list (p:α→Bool) (d:α):∀ (xs:List α) (e:Nat) (f:Nat→Bool),(∀ i,i<xs.length→f (e+i)=p (xs.getD i d))→kfind f xs.length e=e+xs.findIdx p
 | [],e,f,_=>rfl
 | x :: xs,e,f,h=>by
  simp only[List.length_cons,kfind]
  have h0:f e=p x:=h 0 (by simp)
  rw[List.findIdx_cons,h0]
  cases hp:p x with
  | true=>simp
  | false=>
   simp only[cond_false]
   rw[kfind_list p d xs (e+1) f fun i hi=>by
    have:=h (i+1) (by simp;omega)
    rw[show e+1+i=e+(i+1) by omega]
    simpa using this]
   omega
theorem kfind_idx (p:α→Bool) (d:α) (xs:List α) {f:Nat→Bool} (h:∀ i,i<xs.length→f i=p (xs.getD i d)):kfind f xs.length 0=xs.findIdx p:=by
 have:=kfind_list p d xs 0 f fun i hi=>by rw[Nat.zero_add];exact h i hi
 rwa [Nat.zero_add] at this
theorem findIdx_one {β:Type} [DecidableEq β] (f:α→β) {d:α} {xs:List α} (hd:xs.Pairwise fun a b=>f a≠f b) {i:Nat} (hi:i<xs.length):xs.findIdx (fun x=>decide (f (xs.getD i d)=f x))=i:=by
 have hg:xs.getD i d=xs[i]:=by simp[List.getD_eq_getElem?_getD,hi]
 rw[hg,List.findIdx_eq hi]
 refine ⟨by simp,fun j hj=>?_⟩
 have:=(List.pairwise_iff_getElem.1 hd) j i (by omega) hi hj
 simp only[decide_eq_false_iff_not]
 exact fun h=>this h.symm
end
section
variable {α β:Type}
abbrev MpE (α β:Type):=α×β×Int
def Bn (mp:List (MpE α β)) (clk:Nat):Prop:=mp.Pairwise (fun a b=>a.2.2<b.2.2)∧∀ x∈mp,x.2.2<(clk:Int)
def Kd (mp:List (MpE α β)):Prop:=mp.Pairwise fun a b=>a.1≠b.1
def left (mp:List (MpE α β)) (seen:List Int):List (MpE α β):=mp.filter fun x=>!seen.contains x.2.2
theorem left_map (mp:List (MpE α β)) (seen:List Int) (d:MpE α β) (d':Int):left mp seen=(leftI (fun e=>(mp.getD e d).2.2) mp.length (fun k=>seen.getD k d') seen.length).map fun i=>mp.getD i d:=by
 have h1:mp=(List.range mp.length).map fun i=>mp.getD i d:=by
  apply List.ext_getElem
  ·simp
  ·intro i h1 h2
   simp[List.getD_eq_getElem?_getD,h1]
 have h2:leftI (fun e=>(mp.getD e d).2.2) mp.length (fun k=>seen.getD k d') seen.length=(List.range mp.length).filter ((fun x:MpE α β=>!seen.contains x.2.2) ∘ fun i=>mp.getD i d):=by
  unfold leftI
  apply List.filter_congr
  intro i _
  simp only[Function.comp]
  congr 1
  rw[Bool.eq_iff_iff,List.any_eq_true]
  constructor
  ·rintro ⟨k,hk,hk'⟩
   have hk:=List.mem_range.1 hk
   have hk':=eq_of_beq hk'
   rw[hk']
   simp[List.getD_eq_getElem?_getD,hk]
  ·intro h
   have h:(mp.getD i d).2.2∈seen:=by simpa using h
   obtain ⟨k,hk,hk'⟩:=List.getElem_of_mem h
   refine ⟨k,List.mem_range.2 hk,?_⟩
   simp[List.getD_eq_getElem?_getD,hk,hk']
 rw[h2,← List.filter_map,← h1]
 rfl
theorem left_pick {mp:List (MpE α β)} {seen:List Int} {d:MpE α β} {d':Int} {q:List Nat} (hq:q=leftI (fun e=>(mp.getD e d).2.2) mp.length (fun k=>seen.getD k d') seen.length) (h0:q.length≠0) (cs:List Nat) :
  ∃ j,pickI q cs=j∧j<mp.length∧(left mp seen)[cs.headD 0 % (left mp seen).length]?=some (mp.getD j d)∧seen.contains (mp.getD j d).2.2=false:=by
 have hl:=left_map mp seen d d'
 rw[← hq] at hl
 have hlt:cs.headD 0 % q.length<q.length:=Nat.mod_lt _ (by omega)
 have hp:pickI q cs=q[cs.headD 0 % q.length]:=by
  unfold pickI
  rw[List.getD_eq_getElem?_getD,List.getElem?_eq_getElem hlt];rfl
 refine ⟨_,rfl,?_,?_,?_⟩
 ·rw[hp]
  have:=List.getElem_mem hlt
  generalize q[cs.headD 0 % q.length]=j at this
  rw[hq] at this
  exact List.mem_range.1 (List.mem_filter.1 this).1
 ·rw[hl,List.length_map,List.getElem?_map,List.getElem?_eq_getElem hlt,hp];rfl
 ·have:mp.getD (pickI q cs) d∈left mp seen:=by
   rw[hl,hp]
   exact List.mem_map.2 ⟨_,List.getElem_mem hlt,rfl⟩
  have:=(List.mem_filter.1 this).2
  simpa using this
theorem left_len {mp:List (MpE α β)} {seen:List Int} {d:MpE α β} {d':Int} {q:List Nat} (hq:q=leftI (fun e=>(mp.getD e d).2.2) mp.length (fun k=>seen.getD k d') seen.length):q.length=(left mp seen).length:=by
 rw[left_map mp seen d d',hq,List.length_map]
theorem bn_ne {mp:List (MpE α β)} {clk:Nat} (h:Bn mp clk):mp.Pairwise fun a b=>a.2.2≠b.2.2:=h.1.imp fun h=>by omega
theorem stamp_at {mp:List (MpE α β)} {clk:Nat} (h:Bn mp clk) {d:MpE α β} {i:Nat} (hi:i<mp.length) {q:Nat} (hq:q=kfind (fun e=>(mp.getD e d).2.2==(mp.getD i d).2.2) mp.length 0):q=i:=by
 have e:kfind (fun e=>(mp.getD e d).2.2==(mp.getD i d).2.2) mp.length 0=mp.findIdx fun x=>decide ((mp.getD i d).2.2=x.2.2):=
  kfind_idx _ d mp fun j _=>by rw[Bool.eq_iff_iff,beq_iff_eq,decide_eq_true_eq];exact eq_comm
 rw[hq,e]
 exact findIdx_one (fun x:MpE α β=>x.2.2) (bn_ne h) hi
theorem bn_erase {mp:List (MpE α β)} {clk:Nat} (h:Bn mp clk) (i:Nat):Bn (mp.eraseIdx i) clk:=⟨h.1.sublist (List.eraseIdx_sublist ..),fun x hx=>h.2 x ((List.eraseIdx_sublist ..).subset hx)⟩
theorem kd_erase {mp:List (MpE α β)} (h:Kd mp) (i:Nat):Kd (mp.eraseIdx i):=h.sublist (List.eraseIdx_sublist ..)
theorem bn_filter {mp:List (MpE α β)} {clk:Nat} (h:Bn mp clk) (p:MpE α β→Bool):Bn (mp.filter p) clk:=⟨h.1.sublist List.filter_sublist,fun x hx=>h.2 x (List.mem_filter.1 hx).1⟩
theorem kd_filter {mp:List (MpE α β)} (h:Kd mp) (p:MpE α β→Bool):Kd (mp.filter p):=h.sublist List.filter_sublist
theorem erase_filter {mp:List (MpE α β)} {clk:Nat} (h:Bn mp clk) {i:Nat} (hi:i<mp.length) (p q:MpE α β→Bool) (hq:q mp[i]=false) (hpq:∀ x∈mp,x.2.2≠mp[i].2.2→p x=q x):(mp.eraseIdx i).filter p=mp.filter q:=by
 have hsp:mp=mp.take i++mp[i] :: mp.drop (i+1):=by
  rw[List.getElem_cons_drop,List.take_append_drop]
 have hne:∀ x∈mp.take i++mp.drop (i+1),x.2.2≠mp[i].2.2:=fun x hx=>by
  have hp:=bn_ne h
  rw[hsp,List.pairwise_append] at hp
  obtain ⟨_,h2,h3⟩:=hp
  rcases List.mem_append.1 hx with hx | hx
  ·exact h3 x hx _ (List.mem_cons_self ..)
  ·exact fun e=>(List.pairwise_cons.1 h2).1 x hx e.symm
 rw[List.eraseIdx_eq_take_drop_succ]
 have h1:mp.filter q=(mp.take i++mp.drop (i+1)).filter q:=by
  conv=>lhs;rw[hsp]
  rw[List.filter_append,List.filter_append,List.filter_cons,hq]
  rfl
 rw[h1]
 apply List.filter_congr
 intro x hx
 refine hpq x ?_ (hne x hx)
 rw[hsp]
 rcases List.mem_append.1 hx with hx | hx
 ·exact List.mem_append_left _ hx
 ·exact List.mem_append_right _ (List.mem_cons_of_mem _ hx)
def Nxt (mp:List (MpE α β)) (seen:List Int) (i:Nat):Prop:=∃ h:i<mp.length,seen.contains mp[i].2.2=false
theorem left_seen {mp:List (MpE α β)} {clk:Nat} (h:Bn mp clk) {seen:List Int} {i:Nat} (hn:Nxt mp seen i):(left mp (seen++[mp[i]'hn.1 |>.2.2])).length<(left mp seen).length:=by
 obtain ⟨hi,hs⟩:=hn
 have h1:left mp (seen++[mp[i].2.2])=(left mp seen).filter fun x=>!decide (x.2.2=mp[i].2.2):=by
  unfold left
  rw[List.filter_filter]
  apply List.filter_congr
  intro x _
  rw[Bool.eq_iff_iff]
  simp
  exact ⟨fun h=>⟨h.2,h.1⟩,fun h=>⟨h.2,h.1⟩⟩
 rw[h1]
 have hm:mp[i]∈left mp seen:=List.mem_filter.2 ⟨List.getElem_mem hi,by rw[hs];rfl⟩
 refine Nat.lt_of_le_of_ne (List.length_filter_le _ _) fun he=>?_
 rw[List.length_filter_eq_length_iff] at he
 have:=he _ hm
 simp at this
theorem left_erase {mp:List (MpE α β)} {clk:Nat} (h:Bn mp clk) {seen:List Int} {i:Nat} (hn:Nxt mp seen i):(left (mp.eraseIdx i) (seen++[mp[i]'hn.1 |>.2.2])).length<(left mp seen).length:=by
 refine Nat.lt_of_le_of_lt ?_ (left_seen h hn)
 exact ((List.eraseIdx_sublist mp i).filter _).length_le
def dfin (p:MpE α β→Bool) (mp:List (MpE α β)) (seen:List Int):List (MpE α β):=mp.filter fun x=>seen.contains x.2.2||!p x
theorem dfin_end {p:MpE α β→Bool} {mp:List (MpE α β)} {seen:List Int} (h:(left mp seen).length=0):dfin p mp seen=mp:=by
 unfold dfin
 rw[List.filter_eq_self]
 intro x hx
 have hl:left mp seen=[]:=List.length_eq_zero_iff.1 h
 unfold left at hl
 rw[List.filter_eq_nil_iff] at hl
 have:=hl x hx
 simp only[Bool.not_eq_true',Bool.not_eq_false] at this
 rw[this];rfl
theorem dfin_del {p:MpE α β→Bool} {mp:List (MpE α β)} {clk:Nat} (h:Bn mp clk) {seen:List Int} {i:Nat} (hn:Nxt mp seen i) (hp:p (mp[i]'hn.1)=true):dfin p (mp.eraseIdx i) (seen++[mp[i]'hn.1 |>.2.2])=dfin p mp seen:=by
 obtain ⟨hi,hs⟩:=hn
 refine erase_filter h hi _ _ (by rw[hs,hp];rfl) fun x _ hx=>?_
 have:(seen++[mp[i].2.2]).contains x.2.2=seen.contains x.2.2:=by
  rw[Bool.eq_iff_iff];simp;exact fun h=>absurd h hx
 rw[this]
theorem dfin_keep {p:MpE α β→Bool} {mp:List (MpE α β)} {clk:Nat} (h:Bn mp clk) {seen:List Int} {i:Nat} (hn:Nxt mp seen i) (hp:p (mp[i]'hn.1)=false):dfin p mp (seen++[mp[i]'hn.1 |>.2.2])=dfin p mp seen:=by
 obtain ⟨hi,hs⟩:=hn
 unfold dfin
 apply List.filter_congr
 intro x hx
 by_cases hxe:x.2.2=mp[i].2.2
 ·have:x=mp[i]:=by
   obtain ⟨j,hj,rfl⟩:=List.getElem_of_mem hx
   have hp2:=List.pairwise_iff_getElem.1 (bn_ne h)
   rcases Nat.lt_trichotomy j i with h1 | h1 | h1
   ·exact absurd hxe (hp2 j i hj hi h1)
   ·subst h1;rfl
   ·exact absurd hxe.symm (hp2 i j hi hj h1)
  subst this
  rw[hp];simp
 ·have:(seen++[mp[i].2.2]).contains x.2.2=seen.contains x.2.2:=by
   rw[Bool.eq_iff_iff];simp;exact fun h=>absurd h hxe
  rw[this]
theorem dfin_nil (p:MpE α β→Bool) (mp:List (MpE α β)):dfin p mp []=mp.filter fun x=>!p x:=by
 unfold dfin
 apply List.filter_congr
 intro x _
 simp
def permC:Nat→List Nat→List (MpE α β)→List (MpE α β)
 | 0,_,_=>[]
 | n+1,cs,l=>match l[(hdC (hdC cs)).headD 0 % l.length]? with
  | some e=>e :: permC n (tlC cs) (l.eraseIdx ((hdC (hdC cs)).headD 0 % l.length))
  | none=>[]
theorem permC_perm:∀ (n:Nat) (cs:List Nat) (l:List (MpE α β)),l.length=n→(permC n cs l).Perm l
 | 0,cs,l,h=>by rw[List.length_eq_zero_iff.1 h];exact List.Perm.refl _
 | n+1,cs,l,h=>by
  have hlt:(hdC (hdC cs)).headD 0 % l.length<l.length:=Nat.mod_lt _ (by omega)
  simp only[permC,List.getElem?_eq_getElem hlt]
  refine ((permC_perm n (tlC cs) _ ?_).cons _).trans ?_
  ·rw[List.length_eraseIdx_of_lt hlt];omega
  ·rw[List.eraseIdx_eq_take_drop_succ]
   refine List.perm_middle.symm.trans (List.Perm.of_eq ?_)
   rw[List.getElem_cons_drop,List.take_append_drop]
theorem permC_next {l:List (MpE α β)} {n:Nat} {cs:List Nat} {e:MpE α β} (hn:l.length=n+1) (hk:l[(hdC (hdC cs)).headD 0 % l.length]?=some e):permC l.length cs l=e :: permC n (tlC cs) (l.eraseIdx ((hdC (hdC cs)).headD 0 % l.length)):=by
 have:permC (n+1) cs l=e :: permC n (tlC cs) (l.eraseIdx ((hdC (hdC cs)).headD 0 % l.length)):=by
  simp only[permC,hk]
 rw[← this,hn]
theorem left_next {mp:List (MpE α β)} {clk:Nat} (h:Bn mp clk) {seen:List Int} {k:Nat} {e:MpE α β} (hk:(left mp seen)[k]?=some e):left mp (seen++[e.2.2])=(left mp seen).eraseIdx k:=by
 obtain ⟨hlt,rfl⟩:=List.getElem?_eq_some_iff.1 hk
 have hb:Bn (left mp seen) clk:=bn_filter h _
 have h1:left mp (seen++[(left mp seen)[k].2.2])=(left mp seen).filter fun x=>!decide (x.2.2=(left mp seen)[k].2.2):=by
  generalize (left mp seen)[k].2.2=s
  unfold left
  rw[List.filter_filter]
  apply List.filter_congr
  intro x _
  rw[Bool.eq_iff_iff]
  simp
  exact ⟨fun h=>⟨h.2,h.1⟩,fun h=>⟨h.2,h.1⟩⟩
 rw[h1]
 have:=erase_filter hb hlt (fun _=>true) (fun x=>!decide (x.2.2=(left mp seen)[k].2.2)) (by simp) fun x _ hx=>by simp[hx]
 rw[← this,List.filter_eq_self.2 fun _ _=>rfl]
section
variable {γ δ:Type} {F:List Nat→γ→Ex×γ} {m:γ→Nat} {Inv:γ→Prop}
theorem del_loop {x:Nat} {p:MpE α β→Bool} (mp:γ→List (MpE α β)) (sn:γ→List Int) (clk:γ→Nat) (up:γ→List (MpE α β)→List Int→γ) (h1:∀ g a b,mp (up g a b)=a) (h2:∀ g a b,sn (up g a b)=b) (h3:∀ g a b c d,up (up g a b) c d=up g c d) (h4:∀ g,up g (mp g) (sn g)=g)
  (hb:∀ g,Inv g→Bn (mp g) (clk g)) (hm:∀ g,m g=(left (mp g) (sn g)).length)
  (hI:∀ g (i:Nat) s,Inv g→Inv (up g (mp g) s)∧Inv (up g ((mp g).eraseIdx i) s))
  (hF:∀ cs g,Inv g→((left (mp g) (sn g)).length=0∧F cs g=(.exit x,g))∨∃ i,∃ hn:Nxt (mp g) (sn g) i,F cs g=(.normal,up g (bif p ((mp g)[i]'hn.1) then (mp g).eraseIdx i else mp g) (sn g++[((mp g)[i]'hn.1).2.2]))) :
  GoesA F m Inv∧∀ cs g,Inv g→∃ s,loopFA F m cs g=(.exit x,up g (dfin p (mp g) (sn g)) s):=by
 have step:∀ cs g,Inv g→(F cs g).1=.normal→Inv (F cs g).2∧m (F cs g).2<m g∧dfin p (mp (F cs g).2) (sn (F cs g).2)=dfin p (mp g) (sn g)∧∀ a b,up (F cs g).2 a b=up g a b:=fun cs g hi hn=>by
  rcases hF cs g hi with ⟨_,e⟩ | ⟨i,hx,e⟩
  ·rw[e] at hn;cases hn
  ·rw[e]
   simp only
   rw[hm,hm,h1,h2]
   cases hp:p ((mp g)[i]'hx.1) with
   | true=>
    simp only[cond_true]
    exact ⟨(hI g i _ hi).2,left_erase (hb g hi) hx,dfin_del (hb g hi) hx hp,fun a b=>h3 ..⟩
   | false=>
    simp only[cond_false]
    exact ⟨(hI g i _ hi).1,left_seen (hb g hi) hx,dfin_keep (hb g hi) hx hp,fun a b=>h3 ..⟩
 have hg:GoesA F m Inv:=fun g cs hi hn=>⟨(step cs g hi hn).1,(step cs g hi hn).2.1⟩
 refine ⟨hg,loopFA_induct hg (Q:=fun _ g r=>∃ s,r=(.exit x,up g (dfin p (mp g) (sn g)) s)) (fun g cs hi hn=>?_) fun g g' cs r hi he hi' _ hq=>?_⟩
 ·rcases hF (hdC cs) g hi with ⟨h0,e⟩ | ⟨i,hx,e⟩
  ·exact ⟨sn g,by rw[e,dfin_end h0,h4]⟩
  ·rw[e] at hn;exact absurd rfl hn
 ·obtain ⟨s,hs⟩:=hq
  have:=step (hdC cs) g hi (by rw[he])
  rw[he] at this
  exact ⟨s,by rw[hs,this.2.2.1,this.2.2.2]⟩
def scanM (x:Nat) (st:MpE α β→δ→Ex×δ):List (MpE α β)→δ→Ex×δ
 | [],b=>(.exit x,b)
 | e :: l,b=>match st e b with
  | (.normal,b')=>scanM x st l b'
  | r=>r
theorem fold_loop {x:Nat} {st:MpE α β→δ→Ex×δ} (mp:γ→List (MpE α β)) (sn:γ→List Int) (clk:γ→Nat) (bo:γ→δ) (up:γ→List Int→δ→γ) (h1:∀ g a b,mp (up g a b)=mp g) (h2:∀ g a b,sn (up g a b)=a) (h2':∀ g a b,bo (up g a b)=b) (h3:∀ g a b c d,up (up g a b) c d=up g c d) (h4:∀ g,up g (sn g) (bo g)=g)
  (hb:∀ g,Inv g→Bn (mp g) (clk g)) (hm:∀ g,m g=(left (mp g) (sn g)).length)
  (hI:∀ g e,Inv g→e∈left (mp g) (sn g)→(left (mp g) (sn g++[e.2.2])).length<(left (mp g) (sn g)).length→(st e (bo g)).1=.normal→Inv (up g (sn g++[e.2.2]) (st e (bo g)).2))
  (hF:∀ cs g,Inv g→((left (mp g) (sn g)).length=0∧F cs g=(.exit x,g))∨∃ e,(left (mp g) (sn g))[(hdC cs).headD 0 % (left (mp g) (sn g)).length]?=some e∧F cs g=((st e (bo g)).1,up g (sn g++[e.2.2]) (st e (bo g)).2)) :
  GoesA F m Inv∧∀ cs g,Inv g→∃ s,loopFA F m cs g=((scanM x st (permC (left (mp g) (sn g)).length cs (left (mp g) (sn g))) (bo g)).1,up g s (scanM x st (permC (left (mp g) (sn g)).length cs (left (mp g) (sn g))) (bo g)).2):=by
 have hg:GoesA F m Inv:=fun g cs hi hn=>by
  rcases hF cs g hi with ⟨_,e⟩ | ⟨e,hk,he⟩
  ·rw[e] at hn;cases hn
  ·rw[he] at hn ⊢
   have hlt:(left (mp g) (sn g++[e.2.2])).length<(left (mp g) (sn g)).length:=by
    rw[left_next (hb g hi) hk]
    have:=(List.getElem?_eq_some_iff.1 hk).1
    rw[List.length_eraseIdx_of_lt this]
    omega
   refine ⟨hI g e hi (List.mem_of_getElem? hk) hlt hn,?_⟩
   simp only
   rw[hm,hm,h1,h2]
   exact hlt
 refine ⟨hg,loopFA_induct hg (Q:=fun cs g r=>∃ s,r=((scanM x st (permC (left (mp g) (sn g)).length cs (left (mp g) (sn g))) (bo g)).1,up g s (scanM x st (permC (left (mp g) (sn g)).length cs (left (mp g) (sn g))) (bo g)).2)) (fun g cs hi hn=>?_) fun g g' cs r hi he hi' _ hq=>?_⟩
 ·rcases hF (hdC cs) g hi with ⟨h0,e⟩ | ⟨e,hk,he⟩
  ·refine ⟨sn g,?_⟩
   rw[h0]
   simp only[permC,scanM]
   rw[h4,e]
  ·rw[he] at hn ⊢
   refine ⟨sn g++[e.2.2],?_⟩
   have hlt:=(List.getElem?_eq_some_iff.1 hk).1
   obtain ⟨n,hn'⟩:∃ n,(left (mp g) (sn g)).length=n+1:=⟨(left (mp g) (sn g)).length - 1,by omega⟩
   have e1:permC (left (mp g) (sn g)).length cs (left (mp g) (sn g))=e :: permC n (tlC cs) ((left (mp g) (sn g)).eraseIdx ((hdC (hdC cs)).headD 0 % (left (mp g) (sn g)).length)):=permC_next hn' hk
   rw[e1]
   simp only[scanM]
   generalize st e (bo g)=r at hn
   obtain ⟨ex,b'⟩:=r
   cases ex with
   | normal=>exact absurd rfl hn
   | _=>rfl
 ·obtain ⟨s,hs⟩:=hq
  rcases hF (hdC cs) g hi with ⟨h0,e⟩ | ⟨e,hk,he2⟩
  ·rw[he] at e;cases e
  ·have hlt:=(List.getElem?_eq_some_iff.1 hk).1
   obtain ⟨n,hn'⟩:∃ n,(left (mp g) (sn g)).length=n+1:=⟨(left (mp g) (sn g)).length - 1,by omega⟩
   have e1:permC (left (mp g) (sn g)).length cs (left (mp g) (sn g))=e :: permC n (tlC cs) ((left (mp g) (sn g)).eraseIdx ((hdC (hdC cs)).headD 0 % (left (mp g) (sn g)).length)):=permC_next hn' hk
   rw[he] at he2
   simp only[Prod.mk.injEq] at he2
   obtain ⟨k1,k2⟩:=he2
   have hst:st e (bo g)=(.normal,(st e (bo g)).2):=by rw[k1]
   have hl:left (mp g') (sn g')=(left (mp g) (sn g)).eraseIdx ((hdC (hdC cs)).headD 0 % (left (mp g) (sn g)).length):=by
    rw[k2,h1,h2];exact left_next (hb g hi) hk
   have hln:(left (mp g') (sn g')).length=n:=by rw[hl,List.length_eraseIdx_of_lt hlt];omega
   refine ⟨s,?_⟩
   rw[hs,e1,hln,hl]
   have hbo:bo g'=(st e (bo g)).2:=by rw[k2,h2']
   have hup:∀ c d,up g' c d=up g c d:=fun c d=>by rw[k2,h3]
   simp only[scanM]
   rw[hst,hbo,hup]
end
theorem scanM_bad {δ:Type} {x:Nat} {st:MpE α β→δ→Ex×δ} {p:MpE α β→Bool} {r:MpE α β→δ→δ} {f:δ→MpE α β→δ} {ex:Ex} (he:ex≠.normal) (h:∀ e b,st e b=bif p e then (ex,r e b) else (.normal,f b e)):∀ (l:List (MpE α β)) (b:δ),
  (l.any p=true∧∃ a b',a∈l∧p a=true∧scanM x st l b=(ex,r a b'))∨(l.any p=false∧scanM x st l b=(.exit x,l.foldl f b))
 | [],b=>.inr ⟨rfl,rfl⟩
 | a :: l,b=>by
  simp only[scanM,h]
  cases hp:p a with
  | true=>
   left
   refine ⟨by simp[hp],a,b,List.mem_cons_self ..,hp,?_⟩
   cases ex <;> first | exact absurd rfl he | rfl
  | false=>
   simp only[cond_false]
   rcases scanM_bad (x:=x) (st:=st) he h l (f b a) with ⟨h1,a',b',h3,h4,h5⟩ | ⟨h1,h2⟩
   ·exact .inl ⟨by simp[h1],a',b',List.mem_cons_of_mem _ h3,h4,h5⟩
   ·exact .inr ⟨by simp[hp,h1],by rw[h2];rfl⟩
end
end Go.Lp

namespace Go.Lp
open Go.Sx
section
variable {α κ β:Type} [DecidableEq κ] (key:α→κ) (num:α→Int) (add:β→Int→β) (z:β) (d:MpE κ β)
def mputG (m:List (MpE κ β)×Nat) (x:α):List (MpE κ β)×Nat:=
 if m.1.findIdx (fun e=>decide (key x=e.1))<m.1.length then (m.1.set (m.1.findIdx fun e=>decide (key x=e.1)) (key x,add (m.1.getD (m.1.findIdx fun e=>decide (key x=e.1)) d).2.1 (num x),(m.1.getD (m.1.findIdx fun e=>decide (key x=e.1)) d).2.2),m.2)
 else (m.1++[(key x,add z (num x),(m.2:Int))],m.2+1)
def accK (xs:List α) (k:κ):β:=(xs.filter fun x=>decide (key x=k)).foldl (fun b x=>add b (num x)) z
def MapOf (xs:List α) (m:List (MpE κ β)×Nat):Prop:=Bn m.1 m.2∧Kd m.1∧(∀ k,(∃ e∈m.1,e.1=k)↔∃ x∈xs,key x=k)∧∀ e∈m.1,e.2.1=accK key num add z xs e.1
theorem accK_snoc (xs:List α) (x:α) (k:κ):accK key num add z (xs++[x]) k=if key x=k then add (accK key num add z xs k) (num x) else accK key num add z xs k:=by
 unfold accK
 rw[List.filter_append]
 by_cases h:key x=k
 ·rw[if_pos h];simp[h]
 ·rw[if_neg h];simp[h]
theorem accK_none {xs:List α} {k:κ} (h:¬ ∃ x∈xs,key x=k):accK key num add z xs k=z:=by
 unfold accK
 rw[List.filter_eq_nil_iff.2 fun x hx=>by simpa using fun e=>h ⟨x,hx,e⟩]
 rfl
theorem mput_of {xs:List α} {m:List (MpE κ β)×Nat} (h:MapOf key num add z xs m) (x:α):MapOf key num add z (xs++[x]) (mputG key num add z d m x):=by
 obtain ⟨hb,hk,h1,h2⟩:=h
 unfold mputG
 by_cases hi:m.1.findIdx (fun e=>decide (key x=e.1))<m.1.length
 ·rw[if_pos hi]
  have hx:=List.findIdx_getElem (w:=hi)
  generalize m.1.findIdx (fun e=>decide (key x=e.1))=i at hi hx
  have hx:key x=m.1[i].1:=by simpa using hx
  have hg:m.1.getD i d=m.1[i]:=by simp[List.getD_eq_getElem?_getD,hi]
  rw[hg]
  have hm:(m.1.set i (key x,add m.1[i].2.1 (num x),m.1[i].2.2)).map (fun e=>(e.1,e.2.2))=m.1.map fun e=>(e.1,e.2.2):=by
   rw[List.map_set,hx]
   apply List.ext_getElem
   ·simp
   ·intro j a b
    by_cases hj:i=j
    ·subst hj;simp
    ·simp[List.getElem_set,hj]
  have hmem:∀ e,e∈m.1.set i (key x,add m.1[i].2.1 (num x),m.1[i].2.2)→∃ e'∈m.1,e'.1=e.1∧e'.2.2=e.2.2:=fun e he=>by
   have:(e.1,e.2.2)∈(m.1.set i (key x,add m.1[i].2.1 (num x),m.1[i].2.2)).map fun e=>(e.1,e.2.2):=List.mem_map.2 ⟨e,he,rfl⟩
   rw[hm] at this
   obtain ⟨e',h3,h4⟩:=List.mem_map.1 this
   simp only[Prod.mk.injEq] at h4
   exact ⟨e',h3,h4.1,h4.2⟩
  refine ⟨⟨?_,fun e he=>?_⟩,?_,fun k=>?_,fun e he=>?_⟩
  ·have:=hb.1
   have h3:=(List.pairwise_map (f:=fun e:MpE κ β=>(e.1,e.2.2)) (R:=fun a b=>a.2<b.2)).2 this
   rw[← hm] at h3
   exact (List.pairwise_map (f:=fun e:MpE κ β=>(e.1,e.2.2)) (R:=fun a b=>a.2<b.2)).1 h3
  ·obtain ⟨e',h3,_,h4⟩:=hmem e he
   rw[← h4];exact hb.2 e' h3
  ·have h3:=(List.pairwise_map (f:=fun e:MpE κ β=>(e.1,e.2.2)) (R:=fun a b=>a.1≠b.1)).2 hk
   rw[← hm] at h3
   exact (List.pairwise_map (f:=fun e:MpE κ β=>(e.1,e.2.2)) (R:=fun a b=>a.1≠b.1)).1 h3
  ·constructor
   ·rintro ⟨e,he,rfl⟩
    obtain ⟨e',h3,h4,_⟩:=hmem e he
    obtain ⟨y,hy,hy'⟩:=(h1 e.1).1 ⟨e',h3,h4⟩
    exact ⟨y,List.mem_append_left _ hy,hy'⟩
   ·rintro ⟨y,hy,rfl⟩
    have:∃ e∈m.1,e.1=key y:=by
     rcases List.mem_append.1 hy with hy | hy
     ·exact (h1 _).2 ⟨y,hy,rfl⟩
     ·rw[List.mem_singleton.1 hy,hx]
      exact ⟨m.1[i],List.getElem_mem hi,rfl⟩
    obtain ⟨e,he,he'⟩:=this
    have h3:(e.1,e.2.2)∈m.1.map fun e=>(e.1,e.2.2):=List.mem_map.2 ⟨e,he,rfl⟩
    rw[← hm] at h3
    obtain ⟨e2,h4,h5⟩:=List.mem_map.1 h3
    simp only[Prod.mk.injEq] at h5
    exact ⟨e2,h4,by rw[h5.1];exact he'⟩
  ·obtain ⟨j,hj,rfl⟩:=List.getElem_of_mem he
   rw[List.length_set] at hj
   rw[List.getElem_set]
   by_cases hij:i=j
   ·rw[if_pos hij]
    subst hij
    simp only
    rw[accK_snoc,if_pos rfl,hx,h2 _ (List.getElem_mem hi)]
   ·rw[if_neg hij,accK_snoc,h2 _ (List.getElem_mem hj)]
    rw[if_neg]
    intro h3
    have hp:=List.pairwise_iff_getElem.1 hk
    have h3:=hx.symm.trans h3
    rcases Nat.lt_or_gt_of_ne hij with h4 | h4
    ·exact hp i j hi hj h4 h3
    ·exact hp j i hj hi h4 h3.symm
 ·rw[if_neg hi]
  have hno:∀ e∈m.1,key x≠e.1:=fun e he h3=>by
   apply hi
   have:=List.findIdx_lt_length_of_exists (p:=fun e:MpE κ β=>decide (key x=e.1)) ⟨e,he,by simpa using h3⟩
   exact this
  have hxs:¬ ∃ y∈xs,key y=key x:=fun h3=>by
   obtain ⟨e,he,h4⟩:=(h1 _).2 h3
   exact hno e he h4.symm
  refine ⟨⟨?_,fun e he=>?_⟩,?_,fun k=>?_,fun e he=>?_⟩
  ·rw[List.pairwise_append]
   refine ⟨hb.1,List.pairwise_singleton ..,fun a ha b hb'=>?_⟩
   rw[List.mem_singleton.1 hb']
   exact hb.2 a ha
  ·rcases List.mem_append.1 he with he | he
   ·have:=hb.2 e he
    show e.2.2<((m.2+1:Nat):Int)
    omega
   ·rw[List.mem_singleton.1 he]
    show (m.2:Int)<((m.2+1:Nat):Int)
    omega
  ·show (m.1++_).Pairwise _
   rw[List.pairwise_append]
   refine ⟨hk,List.pairwise_singleton ..,fun a ha b hb'=>?_⟩
   rw[List.mem_singleton.1 hb']
   exact fun h3=>hno a ha h3.symm
  ·constructor
   ·rintro ⟨e,he,rfl⟩
    rcases List.mem_append.1 he with he | he
    ·obtain ⟨y,hy,hy'⟩:=(h1 _).1 ⟨e,he,rfl⟩
     exact ⟨y,List.mem_append_left _ hy,hy'⟩
    ·rw[List.mem_singleton.1 he]
     exact ⟨x,List.mem_append_right _ (List.mem_singleton.2 rfl),rfl⟩
   ·rintro ⟨y,hy,rfl⟩
    rcases List.mem_append.1 hy with hy | hy
    ·obtain ⟨e,he,he'⟩:=(h1 _).2 ⟨y,hy,rfl⟩
     exact ⟨e,List.mem_append_left _ he,he'⟩
    ·rw[List.mem_singleton.1 hy]
     exact ⟨_,List.mem_append_right _ (List.mem_singleton.2 rfl),rfl⟩
  ·rcases List.mem_append.1 he with he | he
   ·rw[accK_snoc,if_neg (hno e he),h2 e he]
   ·rw[List.mem_singleton.1 he]
    simp only
    rw[accK_snoc,if_pos rfl,accK_none key num add z hxs]
theorem mapOf_nil:MapOf key num add z ([]:List α) (([],0):List (MpE κ β)×Nat):=⟨⟨List.Pairwise.nil,fun x hx=>by cases hx⟩,List.Pairwise.nil,fun k=>by simp,fun e he=>by cases he⟩
theorem mapOf_foldl:∀ (ys xs:List α) (m:List (MpE κ β)×Nat),MapOf key num add z xs m→MapOf key num add z (xs++ys) (ys.foldl (mputG key num add z d) m)
 | [],xs,m,h=>by simpa using h
 | y :: ys,xs,m,h=>by
  have:=mapOf_foldl ys (xs++[y]) _ (mput_of key num add z d h y)
  simpa using this
theorem mapOf_all (xs:List α):MapOf key num add z xs (xs.foldl (mputG key num add z d) ([],0)):=by
 have:=mapOf_foldl key num add z d xs [] _ (mapOf_nil key num add z)
 simpa using this
theorem mput_len (m:List (MpE κ β)×Nat) (x:α):(mputG key num add z d m x).1.length≤m.1.length+1:=by
 unfold mputG
 split <;> simp
theorem map_len:∀ (xs:List α) (m:List (MpE κ β)×Nat),(xs.foldl (mputG key num add z d) m).1.length≤m.1.length+xs.length
 | [],m=>Nat.le_refl _
 | x :: xs,m=>by
  have h1:=map_len xs (mputG key num add z d m x)
  have h2:=mput_len key num add z d m x
  rw[List.foldl_cons,List.length_cons]
  omega
end
section
variable {α κ:Type} [DecidableEq κ] (key:α→κ) (num:α→Int)
def sumK:List α→κ→Int
 | [],_=>0
 | x :: l,k=>(if key x=k then num x else 0)+sumK l k
theorem sumK_append:∀ (a b:List α) (k:κ),sumK key num (a++b) k=sumK key num a k+sumK key num b k
 | [],b,k=>by simp[sumK]
 | x :: a,b,k=>by
  simp only[List.cons_append,sumK]
  rw[sumK_append a b k]
  omega
theorem sumK_none {xs:List α} {k:κ} (h:∀ x∈xs,key x≠k):sumK key num xs k=0:=by
 induction xs with
 | nil=>rfl
 | cons x xs ih=>
  simp only[sumK]
  rw[if_neg (h x (List.mem_cons_self ..)),ih fun y hy=>h y (List.mem_cons_of_mem _ hy)]
  rfl
theorem sumK_bound {c:Int} (hc:0≤c):∀ {xs:List α} {k:κ},(∀ x∈xs,-c≤num x∧num x≤c)→-(c * xs.length)≤sumK key num xs k∧sumK key num xs k≤c * xs.length
 | [],_,_=>by simp[sumK]
 | x :: xs,k,h=>by
  have ih:=sumK_bound hc (xs:=xs) (k:=k) fun y hy=>h y (List.mem_cons_of_mem _ hy)
  have hx:=h x (List.mem_cons_self ..)
  simp only[sumK,List.length_cons]
  have e:c * ((xs.length+1:Nat):Int)=c * (xs.length:Int)+c:=by
   rw[Int.natCast_add,Int.mul_add];simp
  rw[e]
  split <;> omega
theorem sumK_one {xs:List α} (hd:xs.Pairwise fun a b=>key a≠key b) {x:α} (hx:x∈xs):sumK key num xs (key x)=num x:=by
 induction xs with
 | nil=>cases hx
 | cons y xs ih=>
  rw[List.pairwise_cons] at hd
  simp only[sumK]
  rcases List.mem_cons.1 hx with rfl | hx
  ·rw[if_pos rfl,sumK_none key num fun z hz=>(hd.1 z hz).symm]
   simp
  ·rw[if_neg (hd.1 x hx),ih hd.2 hx]
   simp
variable (mk:κ→Int→α) (cf:κ→κ→Int)
def putK (x:α):List α→List α
 | []=>[x]
 | y :: r=>if cf (key x) (key y)<0 then x :: y :: r else if key x=key y then mk (key x) (num y+num x) :: r else y :: putK x r
def totK (xs:List α):List α:=xs.foldl (fun a x=>putK key num mk cf x a) []
def Srt (l:List α):Prop:=l.Pairwise fun a b=>cf (key a) (key b)<0
theorem srt_unique (h:TO cf) (he:∀ a b:α,key a=key b→num a=num b→a=b):∀ {l m:List α},Srt key cf l→Srt key cf m→(∀ x,x∈l↔x∈m)→l=m
 | [],[],_,_,_=>rfl
 | [],y :: m,_,_,he=>by have:=(he y).2 (List.mem_cons_self ..);cases this
 | x :: l,[],_,_,he=>by have:=(he x).1 (List.mem_cons_self ..);cases this
 | x :: l,y :: m,h1,h2,hm=>by
  unfold Srt at h1 h2
  rw[List.pairwise_cons] at h1 h2
  have hxy:x=y:=by
   have a:=(hm x).1 (List.mem_cons_self ..)
   have b:=(hm y).2 (List.mem_cons_self ..)
   rcases List.mem_cons.1 a with e | a
   ·exact e
   ·rcases List.mem_cons.1 b with e | b
    ·exact e.symm
    ·exact absurd (h1.1 y b) (h.asymm (h2.1 x a))
  subst hxy
  congr 1
  refine srt_unique h he h1.2 h2.2 fun z=>?_
  have:=hm z
  simp only[List.mem_cons] at this
  constructor
  ·intro hz
   rcases this.1 (.inr hz) with e | h3
   ·subst e;exact absurd (h1.1 z hz) (h.irrefl _)
   ·exact h3
  ·intro hz
   rcases this.2 (.inr hz) with e | h3
   ·subst e;exact absurd (h2.1 z hz) (h.irrefl _)
   ·exact h3
variable {mk} {cf}
theorem putK_key (h:TO cf) (hk:∀ k n,key (mk k n)=k) (x:α):∀ {l:List α} {k:κ},(∃ y∈putK key num mk cf x l,key y=k)↔key x=k∨∃ y∈l,key y=k
 | [],k=>by simp[putK]
 | y :: r,k=>by
  simp only[putK]
  split
  ·simp
  ·split
   ·rename_i he
    simp only[List.mem_cons,exists_eq_or_imp,hk]
    rw[he]
    constructor
    ·rintro (h | h)
     ·exact .inl h
     ·exact .inr (.inr h)
    ·rintro (h | h | h)
     ·exact .inl h
     ·exact .inl h
     ·exact .inr h
   ·have:=putK_key h hk x (l:=r) (k:=k)
    simp only[List.mem_cons,exists_eq_or_imp]
    rw[this]
    constructor
    ·rintro (h | h | h)
     ·exact .inr (.inl h)
     ·exact .inl h
     ·exact .inr (.inr h)
    ·rintro (h | h | h)
     ·exact .inr (.inl h)
     ·exact .inl h
     ·exact .inr (.inr h)
theorem putK_srt (h:TO cf) (hk:∀ k n,key (mk k n)=k) (x:α):∀ {l:List α},Srt key cf l→Srt key cf (putK key num mk cf x l)
 | [],_=>by simp[putK,Srt]
 | y :: r,hs=>by
  have hs':=hs
  unfold Srt at hs'
  rw[List.pairwise_cons] at hs'
  simp only[putK]
  split
  ·rename_i hl
   refine List.pairwise_cons.2 ⟨fun z hz=>?_,hs⟩
   rcases List.mem_cons.1 hz with rfl | hz
   ·exact hl
   ·exact h.trans hl (hs'.1 z hz)
  ·split
   ·rename_i he
    refine List.pairwise_cons.2 ⟨fun z hz=>?_,hs'.2⟩
    rw[hk,he]
    exact hs'.1 z hz
   ·rename_i hl he
    refine List.pairwise_cons.2 ⟨fun z hz=>?_,putK_srt h hk x hs'.2⟩
    rcases (putK_key key num h hk x (k:=key z)).1 ⟨z,hz,rfl⟩ with e | ⟨z',hz',e⟩
    ·rw[← e];exact h.lt_or he hl
    ·rw[← e];exact hs'.1 z' hz'
theorem putK_sum (h:TO cf) (hk:∀ k n,key (mk k n)=k) (hn:∀ k n,num (mk k n)=n) (x:α) (k:κ):∀ {l:List α},sumK key num (putK key num mk cf x l) k=sumK key num l k+if key x=k then num x else 0
 | []=>by simp[putK,sumK]
 | y :: r=>by
  simp only[putK]
  split
  ·simp only[sumK];omega
  ·split
   ·rename_i he
    simp only[sumK,hk,hn,he]
    split <;> omega
   ·simp only[sumK]
    rw[putK_sum h hk hn x k (l:=r)]
    omega
theorem totK_all (h:TO cf) (hk:∀ k n,key (mk k n)=k) (hn:∀ k n,num (mk k n)=n):∀ (xs a:List α),Srt key cf a→Srt key cf (xs.foldl (fun a x=>putK key num mk cf x a) a)∧(∀ k,(∃ y∈xs.foldl (fun a x=>putK key num mk cf x a) a,key y=k)↔(∃ y∈a,key y=k)∨∃ x∈xs,key x=k)∧∀ k,sumK key num (xs.foldl (fun a x=>putK key num mk cf x a) a) k=sumK key num a k+sumK key num xs k
 | [],a,ha=>⟨ha,fun k=>by simp,fun k=>by simp[sumK]⟩
 | x :: xs,a,ha=>by
  obtain ⟨h1,h2,h3⟩:=totK_all h hk hn xs (putK key num mk cf x a) (putK_srt key num h hk x ha)
  refine ⟨h1,fun k=>?_,fun k=>?_⟩
  ·rw[List.foldl_cons,h2 k,putK_key key num h hk x]
   simp only[List.mem_cons,exists_eq_or_imp]
   constructor
   ·rintro ((h | h) | h)
    ·exact .inr (.inl h)
    ·exact .inl h
    ·exact .inr (.inr h)
   ·rintro (h | h | h)
    ·exact .inl (.inr h)
    ·exact .inl (.inl h)
    ·exact .inr h
  ·rw[List.foldl_cons,h3 k,putK_sum key num h hk hn]
   simp only[sumK]
   omega
theorem srt_ne (h:TO cf) {l:List α} (hs:Srt key cf l):l.Pairwise fun a b=>key a≠key b:=hs.imp fun {a b} hl he=>by rw[he] at hl;exact h.irrefl _ hl
theorem totK_srt (h:TO cf) (hk:∀ k n,key (mk k n)=k) (hn:∀ k n,num (mk k n)=n) (xs:List α):Srt key cf (totK key num mk cf xs):=(totK_all key num h hk hn xs [] List.Pairwise.nil).1
theorem totK_mem (h:TO cf) (hk:∀ k n,key (mk k n)=k) (hn:∀ k n,num (mk k n)=n) (he:∀ a b:α,key a=key b→num a=num b→a=b) (xs:List α) (y:α):y∈totK key num mk cf xs↔(∃ x∈xs,key x=key y)∧num y=sumK key num xs (key y):=by
 obtain ⟨h1,h2,h3⟩:=totK_all key num h hk hn xs [] List.Pairwise.nil
 have h3':∀ k,sumK key num (totK key num mk cf xs) k=sumK key num xs k:=fun k=>by
  have:=h3 k
  simpa [sumK,totK] using this
 have h2':∀ k,(∃ y∈totK key num mk cf xs,key y=k)↔∃ x∈xs,key x=k:=fun k=>by
  have:=h2 k
  simpa [totK] using this
 have hd:=srt_ne key h h1
 constructor
 ·intro hy
  refine ⟨(h2' _).1 ⟨y,hy,rfl⟩,?_⟩
  rw[← h3']
  exact (sumK_one key num hd hy).symm
 ·rintro ⟨h4,h5⟩
  obtain ⟨y',hy',e⟩:=(h2' _).2 h4
  have h6:=sumK_one key num hd hy'
  rw[e] at h6
  have h7:y'=y:=he _ _ e (by rw[h5,← h3',← h6];rfl)
  rw[← h7];exact hy'
end
end Go.Lp

namespace Go.Sx
open Go.RowKit
section
variable {α γ:Type}
def memR (F:Nat→Option Obj) (w w':World) (L:Lc):Nat→Option Obj:=fun b=>if L.nl=false∧b=L.blk then none else memAt F w w' b
def FnRow (P:Program) (f:Nat) (t:TypeId) (A:El α) (D:DA γ) (fn:γ→List α) (pre:γ→List Prop):Prop:=
 ∀ (w:World) (F:Nat→Option Obj) (g:γ) (vs:List Value),(∀ b o,F b=some o→w.heap[b]?=some o)→(∀ p∈pre g,p)→SV.fits 0 (emp F) (D.enc g) vs →
  Calls P f vs.toArray w fun e w'=>∃ x L,e=.returned x∧Below w.heap.size w w'∧OwV L (fn g).length x∧(L.nl=false→w.heap.size≤L.blk)∧(rowA A t (fn g)).fit 0 (emp (memR F w w' L)) L w'.heap[L.blk]?
def wTree (P:Program) (Γ:Gam) (Λ:Lam) (n f:Nat) (t:TypeId) (A:El α) (args:List SV):Tr (List α):=
 (fnTree P Γ Λ n f args ⟨0,[],[]⟩).bind fun y=>match y.1 with
  | .ow i l=>match y.2.get i with
   | .row t' sz el m=>match Nat.beq t' t&&Nat.beq sz A.sz with
    | true=>asks ((l=m) :: A.okE m el) (.ret (A.lstE m el))
    | false=>.bad 690
   | _=>.bad 691
  | .k x=>match nilK x with
   | true=>.ret []
   | false=>.bad 692
  | _=>.bad 693
variable {P:Program} {Γ:Gam} {Λ:Lam} {f t:Nat} {A:El α} {D:DA γ} {fn:γ→List α} {pre:γ→List Prop}
theorem row_of_tree (hΓ:∀ f g,Γ.g f=some g→FnOk P f g) (hΛ:∀ f k L,Λ f k=some L→∀ b∈loopsOf P f,lkey b=k→LoopOk P b L.g) (n:Nat)
  (hT:∀ g,D.bd g→(∀ p∈pre g,p)→(wTree P Γ Λ n f t A (D.enc g)).Holds (·=fn g)):FnRow P f t A D fn pre:=by
 intro w F g vs hF hpre hfit
 have hbd:=D.fb _ _ _ _ hfit
 have hT:=hT g hbd hpre
 have h0:=fnTree_ok hΓ hΛ n (fun _=>False) w w (emp F) ⟨0,[],[]⟩ _ vs _ (Tr.holds_bind hT) (HM.start w (emp F) hF fun _ _ h=>h) hfit
 refine h0.mono ?_
 rintro e w' ⟨s,h',ρ',x,h1,h2,h3,h4,h5,rfl⟩
 simp only at h1
 split at h1
 ·rename_i i l
  split at h1
  ·rename_i t' sz el m hg
   split at h1
   ·rename_i hb
    simp only[Bool.and_eq_true] at hb
    have e1:=beq_of hb.1
    have e2:=beq_of hb.2
    subst e1;subst e2
    obtain ⟨hq,h1⟩:=asks_holds h1
    have hl:l=m:=hq _ (List.mem_cons_self ..)
    have hok:∀ e,e<m→A.Ok (el e):=A.okE_ok m el fun p h'=>hq p (List.mem_cons_of_mem _ h')
    subst hl
    have h1:A.lstE l el=fn g:=h1
    have hob:=h4.ob i
    rw[hg] at hob
    have hlen:(fn g).length=l:=by rw[← h1,A.lstE_eq,A.lst_length]
    have hmem:∀ b o,ρ'.mem b=some o→memR F w w' (ρ' i) b=some o:=fun b o hb'=>by
     unfold memR
     rw[if_neg]
     ·unfold memAt
      split
      ·rename_i hlt
       have:=h4.old b o hb' hlt (fun h=>h)
       rw[h3.2.2] at this
       exact this
      ·exact h4.fz b o hb'
     ·rintro ⟨hn,rfl⟩
      have:=h4.sep i (by rw[hg];exact hn)
      rw[this] at hb'
      cases hb'
    refine ⟨x,ρ' i,rfl,h4.toBelow,?_,fun hn=>?_,?_⟩
    ·rw[hlen]
     rcases h5.2 with ⟨k1,k2,a,k3⟩ | ⟨k1,_,k3⟩
     ·exact .inl ⟨k1,k2,a,k3⟩
     ·exact .inr ⟨k1,k3⟩
    ·rcases h4.ow i (by rw[hg];exact hn) with h | h
     ·exact h
     ·exact h.elim
    ·rw[← h1]
     exact rowA_of A hmem hok hob
   ·exact h1.elim
  ·exact h1.elim
 ·rename_i y
  split at h1
  ·rename_i hy
   have hy:=nilK_eq hy
   subst hy
   have h1:[]=fn g:=h1
   simp only[SV.fit] at h5
   subst h5
   refine ⟨_,⟨0,0,0,true⟩,rfl,h4.toBelow,?_,fun h=>(by cases h),?_⟩
   ·rw[← h1];exact .inl ⟨rfl,rfl,_,rfl⟩
   ·rw[← h1];exact ⟨Nat.zero_le _,.inl ⟨rfl,rfl⟩⟩
  ·exact h1.elim
 ·exact h1.elim
def conRow (t:TypeId) (A:El α) (D:DA γ) (fn:γ→List α) (pre:γ→List Prop):Con:=fun args h=>
 match D.dec args with
 | some (g,ps)=>asks (ps++pre g) (.ret (.ow h.nx (fn g).length,h.push (rowA A t (fn g))))
 | none=>.bad 694
theorem conRow_ok (hp:FnRow P f t A D fn pre):FnOk P f (conRow t A D fn pre):=by
 intro M w0 w ρ h args vs K hK hm hfits
 unfold conRow at hK
 split at hK
 ·rename_i g ps hd
  obtain ⟨hq,hK⟩:=asks_holds hK
  have hv2:=D.ok _ _ _ _ _ _ hd (fun p h'=>hq p (List.mem_append_left _ h')) hfits
  have hv3:=D.cl _ _ 0 ρ (emp ρ.mem) vs (fun _ _ h=>h) hv2
  refine (hp w ρ.mem g vs hm.fz (fun p h'=>hq p (List.mem_append_right _ h')) hv3).mono ?_
  rintro e w' ⟨x,L,rfl,hb,hx,hfresh,hrow⟩
  have hm1:=hm.below hb
  have hmem:∀ b o,ρ.mem b=some o→memR ρ.mem w w' L b=some o:=fun b o ho=>by
   have hlt:=hm.lt_mem ho
   unfold memR memAt
   rw[if_neg (fun hc=>by have:=hfresh hc.1;omega),if_pos hlt]
   exact ho
  have hag:Agree h.nx ρ ⟨ρ.lc,memR ρ.mem w w' L,ρ.lo⟩:=⟨fun _ _=>rfl,hmem,rfl⟩
  have hm2:HM M w0 ⟨ρ.lc,memR ρ.mem w w' L,ρ.lo⟩ h w':={
   os:=hm1.os
   tape:=hm1.tape
   output:=hm1.output
   size:=hm1.size
   block:=hm1.block
   lt:=hm1.lt
   ob:=fun i=>SO.fit_mono (Nat.le_refl _) hag (hm1.ob i)
   ow:=hm1.ow
   fz:=fun b o hb'=>by
    simp only[memR,memAt] at hb'
    split at hb'
    ·cases hb'
    ·split at hb'
     ·exact hm1.fz b o hb'
     ·exact hb'
   sep:=fun i hi=>by
    have h1:=hm.sep i hi
    have h2:=hm.lt_heap hi
    simp only[memR,memAt]
    split
    ·rfl
    ·first | exact h1 | (rw[if_pos h2];exact h1)
   old:=fun b o hb' hlt hM=>by
    simp only[memR,memAt] at hb'
    have hs:=hm.size
    split at hb'
    ·cases hb'
    ·rw[if_pos (by omega)] at hb'
     exact hm.old b o hb' hlt hM
   inj:=hm1.inj }
  have hm3:HM M w0 (upd ⟨ρ.lc,memR ρ.mem w w' L,ρ.lo⟩ h.nx L) (h.push (rowA A t (fn g))) w':=by
   refine hm2.learn (rowA_cl A (ρ:=emp (memR ρ.mem w w' L)) (fun _ _ h=>h) hrow) fun ho=>?_
   have hn:L.nl=false:=ho
   have hf:=hfresh hn
   refine ⟨.inl (Nat.le_trans hm.size hf),?_,fun j hj=>?_⟩
   ·simp only[memR,hn,true_and,if_pos]
   ·have:=hm.lt_heap hj
    show (ρ j).blk≠L.blk
    omega
  refine ⟨_,_,upd ⟨ρ.lc,memR ρ.mem w w' L,ρ.lo⟩ h.nx L,x,hK,Nat.le_succ _,hag.trans (Nat.le_refl _) (agree_upd _ _ _),hm3,⟨Nat.lt_succ_self _,?_⟩,rfl⟩
  have hu:(upd ⟨ρ.lc,memR ρ.mem w w' L,ρ.lo⟩ h.nx L) h.nx=L:=by simp[upd]
  rw[hu]
  rcases hx with ⟨h1,h2,a,h3⟩ | ⟨h1,h3⟩
  ·exact .inl ⟨h1,h2,a,h3⟩
  ·refine .inr ⟨h1,?_,h3⟩
   rcases hrow.2 with ⟨h4,_⟩ | ⟨_,_,c,fz,_,_,_,h8,_⟩
   ·rw[h1] at h4;cases h4
   ·exact h8
 ·exact hK.elim
def bconRow (t:TypeId) (A:El α) (D:DA γ) (fn:γ→List α) (pre:γ→List Prop):BCon:=⟨conRow t A D fn pre,fun args h=>by
 unfold conRow
 split
 ·exact asks_each rfl
 ·trivial⟩
end
end Go.Sx

namespace Go.Sx
section
variable {α:Type} (A:El α)
def El.ag (l:List α):List α:=A.lst l.length (A.els l)
def El.okL (l:List α):Prop:=∀ e,e<l.length→A.Ok (A.els l e)
@[simp] theorem El.ag_eq (l:List α):A.ag l=l:=A.lst_els l
@[simp] theorem El.okL_eq (l:List α):A.okL l=True:=eq_true fun e _=>A.ok_els l e
end
end Go.Sx

namespace Go.Sx
open Go.RowKit Go.ChangeShapes Go.WideShapes Go.ChangeAt Go.Deep
theorem add_none (b o n:Nat):(⟨b,o,none⟩:Addr).add n=⟨b,o+n,none⟩:=by
 by_cases h:n=0
 ·subst h;simp[Addr.add]
 ·simp[Addr.add,h]
abbrev wh (w:World):Rh:=emp fun b=>w.heap[b]?
def Rd {α:Type} (P:Program) (t:TypeId) (A:El α) (Q:α→Prop):Prop:=
 ∀ (H:Type) (enc:TypeId×Value→H) (w:World) (base:Nat) (spare:Nat→Bool) (held:Bool) (fuel:Nat) (cs:List Value) (x:DataW H×List MemPlace),
  DataW.trod enc P w base spare held fuel t cs=some x→∃ a,Q a∧SV.fits 0 (wh w) (A.cells a) cs
section
variable {H:Type} (enc:TypeId×Value→H) (P:Program) (w:World) (base:Nat) (spare:Nat→Bool) (held:Bool) (fuel:Nat)
def Cut:List TypeId→List Value→Prop
 | [],cs=>cs=[]
 | t :: ts,cs=>(∃ x,DataW.trod enc P w base spare held fuel t (cs.take (P.cellsOf t))=some x)∧Cut ts (cs.drop (P.cellsOf t))
def consec:Nat→List (Nat×TypeId)→Nat→Bool
 | o,[],n=>Nat.beq o n
 | o,p :: r,n=>Nat.beq p.1 o&&consec (o+P.cellsOf p.2) r n
theorem cut_of (cs:List Value):∀ (fs:List (Nat×TypeId)) (o:Nat),consec P o fs cs.length=true→(∀ p∈fs,∃ x,DataW.trod enc P w base spare held fuel p.2 ((cs.drop p.1).take (P.cellsOf p.2))=some x)→Cut enc P w base spare held fuel (fs.map (·.2)) (cs.drop o)
 | [],o,hc,_=>by
  have:=beq_of hc
  show cs.drop o=[]
  exact List.drop_eq_nil_of_le (by omega)
 | p :: r,o,hc,h=>by
  simp only[consec,Bool.and_eq_true] at hc
  have h0:=beq_of hc.1
  refine ⟨?_,?_⟩
  ·have:=h p (List.mem_cons_self ..)
   rwa [h0] at this
  ·have:=cut_of cs r (o+P.cellsOf p.2) hc.2 fun q hq=>h q (List.mem_cons_of_mem _ hq)
   rwa [List.drop_drop]
end
def Rds {α:Type} (P:Program) (ts:List TypeId) (A:El α) (Q:α→Prop):Prop:=
 ∀ (H:Type) (enc:TypeId×Value→H) (w:World) (base:Nat) (spare:Nat→Bool) (held:Bool) (fuel:Nat) (cs:List Value),
  Cut enc P w base spare held fuel ts cs→∃ a,Q a∧SV.fits 0 (wh w) (A.cells a) cs
section
variable {P:Program} {t e:TypeId} {α β:Type} {A:El α} {B:El β} {Q:α→Prop} {Q':β→Prop}
theorem rds_one (h:Rd P t A Q):Rds P [t] A Q:=fun H enc w base spare held fuel cs hc=>by
 obtain ⟨⟨x,hx⟩,hd⟩:=hc
 have hd:cs.drop (P.cellsOf t)=[]:=hd
 have h2:=List.take_append_drop (P.cellsOf t) cs
 rw[hd,List.append_nil] at h2
 rw[h2] at hx
 exact h H enc w base spare held fuel cs x hx
theorem rds_cons {ts:List TypeId} (h:Rd P t A Q) (h':Rds P ts B Q'):Rds P (t :: ts) (.pair A B) (fun a=>Q a.1∧Q' a.2):=fun H enc w base spare held fuel cs hc=>by
 obtain ⟨⟨x,hx⟩,hd⟩:=hc
 obtain ⟨a,qa,fa⟩:=h H enc w base spare held fuel _ x hx
 obtain ⟨b,qb,fb⟩:=h' H enc w base spare held fuel _ hd
 refine ⟨(a,b),⟨qa,qb⟩,?_⟩
 have:=fits_append fa fb
 rwa [List.take_append_drop] at this
theorem rd_iso (h:Rd P t A Q) (f:α→β) (g:β→α) (hfg:∀ b,f (g b)=b) (hgf:∀ a,g (f a)=a):Rd P t (A.iso f g hfg hgf) (fun b=>Q (g b)):=fun H enc w base spare held fuel cs x hx=>by
 obtain ⟨a,qa,fa⟩:=h H enc w base spare held fuel cs x hx
 refine ⟨f a,(show Q (g (f a)) by rwa [hgf]),?_⟩
 show SV.fits 0 _ (A.cells (g (f a))) cs
 rwa [hgf]
theorem rd_int {k:IntKind} (ht:P.underlying t=some (.int k)):Rd P t (eInt k) (fun n=>(Lit.int k n).wf=true):=fun H enc w base spare held fuel cs x hx=>by
 obtain ⟨n,rfl,_,hw⟩:=DataW.trod_int ht hx
 exact ⟨n,hw,by simp[eInt,El.one',dInt,SV.fits,SV.fit]⟩
theorem rd_struct {fs:Array Field} {ts:List TypeId} (ht:P.underlying t=some (.struct fs)) (hts:fs.toList.map (·.type)=ts) (hc:consec P 0 (fs.toList.map fun f=>(f.offset,f.type)) (P.cellsOf t)=true) (h:Rds P ts A Q):Rd P t A Q:=fun H enc w base spare held fuel cs x hx=>by
 obtain ⟨xs,n,rfl,_,hl,hxl,hf⟩:=DataW.trod_struct ht hx
 rw[← hl] at hc
 have:=cut_of enc P w base spare held n cs _ 0 hc fun p hp=>by
  obtain ⟨f,hfm,rfl⟩:=List.mem_map.1 hp
  obtain ⟨i,hi,rfl⟩:=List.getElem_of_mem hfm
  have hi':i<fs.size:=by simpa using hi
  have:=hf i fs[i] (by simp[hi'])
  exact ⟨xs[i]'(by omega),by simpa [hxl,hi'] using this⟩
 rw[List.map_map,List.drop_zero] at this
 refine h H enc w base spare held n cs ?_
 rw[← hts]
 exact this
theorem rd_array {n:Nat} {ts:List TypeId} (ht:P.underlying t=some (.array n e)) (hts:((List.range n).map fun _=>e)=ts) (hc:consec P 0 ((List.range n).map fun i=>(i * P.cellsOf e,e)) (P.cellsOf t)=true) (h:Rds P ts A Q):Rd P t A Q:=fun H enc w base spare held fuel cs x hx=>by
 obtain ⟨xs,m,rfl,_,hl,hxl,hf⟩:=DataW.trod_array ht hx
 rw[← hl] at hc
 have:=cut_of enc P w base spare held m cs _ 0 hc fun p hp=>by
  obtain ⟨i,hi,rfl⟩:=List.mem_map.1 hp
  have hi':i<n:=by simpa using hi
  have:=hf i hi'
  exact ⟨xs[i]'(by omega),by rw[this];simp[hxl,hi']⟩
 rw[List.map_map,List.drop_zero] at this
 refine h H enc w base spare held m cs ?_
 rw[← hts]
 exact this
end
def RdV {α:Type} (P:Program) (t:TypeId) (D:Dv α) (Q:α→Prop):Prop:=
 ∀ (H:Type) (enc:TypeId×Value→H) (w:World) (base:Nat) (spare:Nat→Bool) (held:Bool) (r:Reach) (b0:Nat) (v:Value) (d:DataW H) (ps:List MemPlace),
  Value.okWide P w r b0 t v→DataW.Trod enc P w base spare held t v d ps→∃ a,Q a∧(D.enc a).fit 0 (wh w) v
section
variable {P:Program} {t e:TypeId} {α β:Type} {A:El α} {Q:α→Prop}
theorem rdv_int {k:IntKind} (ht:P.underlying t=some (.int k)):RdV P t (dInt k) (fun n=>(Lit.int k n).wf=true):=fun H enc w base spare held r b0 v d ps hv hx=>by
 obtain ⟨n,rfl,_,_,hw⟩:=open_int ht hv hx
 exact ⟨n,hw,by simp[dInt,SV.fit]⟩
theorem rdv_struct {fs:Array Field} (ht:P.underlying t=some (.struct fs)) (h:Rd P t A Q):RdV P t (.agg A) Q:=fun H enc w base spare held r b0 v d ps hv hx=>by
 obtain ⟨cs,rfl,_⟩:=okWide_struct ht hv
 obtain ⟨fuel,hf⟩:=hx
 obtain ⟨a,qa,fa⟩:=h H enc w base spare held fuel _ _ hf
 exact ⟨a,qa,cs.toList,by simp,by simpa [Value.cells] using fa⟩
theorem rdv_slice (ht:P.underlying t=some (.slice e)) (hs:P.cellsOf e=A.sz) (hz:0<A.sz) (h:Rd P e A Q):RdV P t (.list A) (fun xs=>∀ a∈xs,Q a):=fun H enc w base spare held r b0 v d ps hv hx=>by
 obtain ⟨a0,len0,cap0,rfl⟩:=okWide_slice ht hv
 obtain ⟨fuel,hf⟩:=hx
 rcases open_slice ht hf with ⟨hcs,_⟩ | ⟨a,len,cap,m,n,D,Pl,hcs,hb,hl,hm,hmm,_,hel⟩
 ·simp[Value.cells] at hcs
  obtain ⟨rfl,rfl,rfl⟩:=hcs
  exact ⟨[],by simp,rs_nil _ _⟩
 ·simp[Value.cells] at hcs
  obtain ⟨rfl,rfl,rfl⟩:=hcs
  have hle:len0≤m:=by subst hmm;split <;> omega
  have key:∀ i,i<len0→∃ x:α,Q x∧∃ cs',cs'.length=A.sz∧SV.fits 0 (wh w) (A.cells x) cs'∧∀ j,j<A.sz→w.cell? ((a.add (i * A.sz)).add j)=cs'[j]?:=fun i hi=>by
   obtain ⟨cs',h1,h2⟩:=hel i (by omega)
   obtain ⟨x,qx,fx⟩:=h H enc w base spare held n cs' _ h2
   rw[hs] at h1
   obtain ⟨_,h3,h4⟩:=World.cells?_some h1
   exact ⟨x,qx,cs',h3,fx,h4⟩
  haveI:Inhabited α:=⟨A.dflt⟩
  obtain ⟨f,hf⟩:=choose_lt (α:=α) (fun i hi=>key i hi)
  refine ⟨(List.range len0).map f,?_,?_⟩
  ·intro x hx
   obtain ⟨i,hi,rfl⟩:=List.mem_map.1 hx
   exact (hf i (by simpa using hi)).1
  ·simp only[Dv.list,SV.fit]
   refine ⟨some a,cap0,by simp,by simpa using hl,hm,fun hpos=>?_⟩
   have hpos:0<len0:=by simpa using hpos
   obtain ⟨_,cs0,q1,q2,q3⟩:=hf 0 hpos
   have q4:=q3 0 hz
   obtain ⟨b,o,spot⟩:=a
   have hsome:∃ v0,cs0[0]?=some v0:=⟨cs0[0]'(by omega),by simp⟩
   obtain ⟨v0,hv0⟩:=hsome
   rw[hv0] at q4
   have hspot:spot=none:=by simpa [Addr.add] using World.cell?_spot q4
   subst hspot
   have hblk:∃ cs t fz,w.heap[b]?=some (.cells cs t fz):=by
    simp only[add_none,World.cell?] at q4
    split at q4
    ·rename_i c _ _ hh
     exact ⟨_,_,_,hh⟩
    ·cases q4
   obtain ⟨cs,t',fz,hh⟩:=hblk
   refine ⟨b,o,cs,t',fz,rfl,hh,fun i hi=>?_⟩
   have hi:i<len0:=by simpa using hi
   obtain ⟨_,cs',k1,k2,k3⟩:=hf i hi
   refine ⟨cs',k1,?_,fun j v hjv=>?_⟩
   ·simpa [El.els,List.getD_eq_getElem?_getD,hi] using k2
   ·have hj:j<A.sz:=by
     have:=(List.getElem?_eq_some_iff.1 hjv).1
     omega
    have:=k3 j hj
    rw[hjv] at this
    simp only[add_none,World.cell?,hh] at this
    simpa using this
end
end Go.Sx

namespace Go.Sx
open Go.RowKit
section
variable {α γ δ:Type}
def FnRowE (P:Program) (f:Nat) (t:TypeId) (A:El α) (D:DA γ) (R:Dv δ) (fn:γ→List α×δ) (pre:γ→List Prop):Prop:=
 ∀ (w:World) (F:Nat→Option Obj) (g:γ) (vs:List Value),(∀ b o,F b=some o→w.heap[b]?=some o)→(∀ p∈pre g,p)→SV.fits 0 (emp F) (D.enc g) vs →
  Calls P f vs.toArray w fun e w'=>∃ x y L,e=.returned (.tuple #[x,y])∧Below w.heap.size w w'∧OwV L (fn g).1.length x∧(L.nl=false→w.heap.size≤L.blk∧(fn g).1.length≤L.cap)∧(rowA A t (fn g).1).fit 0 (emp (memR F w w' L)) L w'.heap[L.blk]?∧(R.enc (fn g).2).fit 0 (emp F) y
def ownRE (h:SH) (t sz:Nat):SV→Bool
 | .tup (.ow i _ :: _ :: [])=>match h.get i with
  | .row t' s _ _=>Nat.beq t' t&&Nat.beq s sz
  | _=>false
 | .tup (.k x :: _ :: [])=>nilK x
 | _=>false
def eTree (P:Program) (Γ:Gam) (Λ:Lam) (n f:Nat) (t:TypeId) (A:El α) (R:Dv δ) (args:List SV):Tr (List α×δ):=
 (fnTree P Γ Λ n f args ⟨0,[],[]⟩).bind fun y=>bif ownRE y.2 t A.sz y.1 then asks (vw y.2 y.1).2 (match (Dv.tup (.cons (.list A) (.one R))).dec (vw y.2 y.1).1 with
  | some (r,ps)=>asks ps (.ret r)
  | none=>.bad 620) else .bad 696
variable {P:Program} {Γ:Gam} {Λ:Lam} {f t:Nat} {A:El α} {D:DA γ} {R:Dv δ} {fn:γ→List α×δ} {pre:γ→List Prop}
theorem rowE_of_tree (hP:∀ r,Pu (R.enc r)) (hΓ:∀ f g,Γ.g f=some g→FnOk P f g) (hΛ:∀ f k L,Λ f k=some L→∀ b∈loopsOf P f,lkey b=k→LoopOk P b L.g) (n:Nat)
  (hT:∀ g,D.bd g→(∀ p∈pre g,p)→(eTree P Γ Λ n f t A R (D.enc g)).Holds (·=fn g)):FnRowE P f t A D R fn pre:=by
 intro w F g vs hF hpre hfit
 have hbd:=D.fb _ _ _ _ hfit
 have hT:=hT g hbd hpre
 have h0:=fnTree_ok hΓ hΛ n (fun _=>False) w w (emp F) ⟨0,[],[]⟩ _ vs _ (Tr.holds_bind hT) (HM.start w (emp F) hF fun _ _ h=>h) hfit
 refine h0.mono ?_
 rintro e w' ⟨s,h',ρ',x,h1,h2,h3,h4,h5,rfl⟩
 simp only at h1
 cases hb:ownRE h' t A.sz s with
 | false=>rw[hb] at h1;exact h1.elim
 | true=>
  rw[hb,cond_true] at h1
  obtain ⟨hq0,h1⟩:=asks_holds h1
  have hmem:∀ i,(h'.get i).own (ρ' i)→∀ b o,ρ'.mem b=some o→memR F w w' (ρ' i) b=some o:=fun i hi b o hb'=>by
   unfold memR
   rw[if_neg]
   ·unfold memAt
    split
    ·rename_i hlt
     have:=h4.old b o hb' hlt (fun h=>h)
     rw[h3.2.2] at this
     exact this
    ·exact h4.fz b o hb'
   ·rintro ⟨hn,rfl⟩
    have:=h4.sep i hi
    rw[this] at hb'
    cases hb'
  unfold ownRE at hb
  split at hb
  ·rename_i i l b _
   obtain ⟨v,rfl,hv⟩:=h5
   obtain ⟨x1,r1,rfl,f1,hv⟩:=fits_cons hv
   obtain ⟨x2,r2,rfl,f2,hv⟩:=fits_cons hv
   have:=fits_nil hv
   subst this
   cases hg:h'.get i with
   | row t' sz el m=>
    rw[hg] at hb
    simp only[Bool.and_eq_true] at hb
    have e1:=beq_of hb.1
    have e2:=beq_of hb.2
    subst e1;subst e2
    have ev:vw h' (.tup [.ow i l,b])=(.tup [.rs A.sz l el,(vw2 h' b).1],[l≤m]++((vw2 h' b).2++[])):=by
     simp only[vw,vws,mapV,vw2,vw1,vw0,hg]
    rw[ev] at h1 hq0
    have hlm:l≤m:=hq0 _ (List.mem_append_left _ (List.mem_cons_self ..))
    have hq2:∀ p∈(vw2 h' b).2,p:=fun p hp=>hq0 p (List.mem_append_right _ (List.mem_append_left _ hp))
    have k2:=vw2_ok (G:=fun b=>w'.heap[b]?) h4 h4.fz (fun _ _ _ h=>h) f2 hq2
    cases hd:R.dec (vw2 h' b).1 with
    | none=>
     simp only[Dv.tup,DA.cons,DA.one,Dv.list,Nat.beq_refl,cond_true,hd] at h1
     exact h1.elim
    | some y=>
     obtain ⟨r,ps⟩:=y
     simp only[Dv.tup,DA.cons,DA.one,Dv.list,Nat.beq_refl,cond_true,hd] at h1
     obtain ⟨hq,h1⟩:=asks_holds h1
     have h1:(A.lst l el,r)=fn g:=h1
     have hok:∀ e,e<l→A.Ok (el e):=hq _ (List.mem_append_left _ (List.mem_cons_self ..))
     have hr:=R.ok _ _ _ _ _ _ hd (fun p hp=>hq p (List.mem_append_right _ hp)) k2
     have hob:=h4.ob i
     rw[hg] at hob
     have hrow:(SO.row t' A.sz el l).fit h'.nx ρ' (ρ' i) w'.heap[(ρ' i).blk]?:=by
      refine ⟨Nat.le_trans hlm hob.1,?_⟩
      rcases hob.2 with ⟨g1,g2⟩ | ⟨g1,g2,c,fz,g3,g4,g5,g6,g7,g8⟩
      ·exact .inl ⟨g1,by omega⟩
      ·exact .inr ⟨g1,g2,c,fz,g3,g4,g5,Nat.le_trans hlm g6,g7,fun e he=>g8 e (Nat.lt_of_lt_of_le he hlm)⟩
     have hlen:(fn g).1.length=l:=by rw[← h1];exact A.lst_length _ _
     have hlst:A.lstE l el=(fn g).1:=by rw[← h1,A.lstE_eq]
     have hown:(ρ' i).nl=false→(h'.get i).own (ρ' i):=fun hn=>by rw[hg];exact hn
     refine ⟨x1,x2,ρ' i,rfl,h4.toBelow,?_,fun hn=>?_,?_,?_⟩
     ·rw[hlen]
      rcases f1.2 with ⟨k1,k2,a,k3⟩ | ⟨k1,_,k3⟩
      ·exact .inl ⟨k1,k2,a,k3⟩
      ·exact .inr ⟨k1,k3⟩
     ·refine ⟨?_,?_⟩
      ·rcases h4.ow i (hown hn) with h | h
       ·exact h
       ·exact h.elim
      ·rw[hlen]
       rcases f1.2 with ⟨k1,_⟩ | ⟨_,k1,_⟩
       ·rw[hn] at k1;cases k1
       ·exact k1
     ·rw[← hlst]
      cases hn:(ρ' i).nl with
      | false=>exact rowA_of A (hmem i (hown hn)) hok hrow
      | true=>
       have hl0:l=0:=by
        rcases f1.2 with ⟨_,k1,_⟩ | ⟨k1,_⟩
        ·exact k1
        ·rw[hn] at k1;cases k1
       subst hl0
       refine ⟨?_,.inl ⟨hn,?_⟩⟩ <;> rw[A.lstE_eq,A.lst_length]
       exact Nat.zero_le _
     ·rw[← h1]
      exact hP _ _ _ _ _ _ hr
   | _=>rw[hg] at hb;cases hb
  ·rename_i y b _
   obtain ⟨v,rfl,hv⟩:=h5
   obtain ⟨x1,r1,rfl,f1,hv⟩:=fits_cons hv
   obtain ⟨x2,r2,rfl,f2,hv⟩:=fits_cons hv
   have:=fits_nil hv
   subst this
   have hy:=nilK_eq hb
   subst hy
   have ev:vw h' (.tup [.k (.slice none 0 0),b])=(.tup [.k (.slice none 0 0),(vw2 h' b).1],[]++((vw2 h' b).2++[])):=by
    simp only[vw,vws,mapV,vw2,vw1,vw0]
   rw[ev] at h1 hq0
   have hq2:∀ p∈(vw2 h' b).2,p:=fun p hp=>hq0 p (List.mem_append_right _ (List.mem_append_left _ hp))
   have k2:=vw2_ok (G:=fun b=>w'.heap[b]?) h4 h4.fz (fun _ _ _ h=>h) f2 hq2
   cases hd:R.dec (vw2 h' b).1 with
   | none=>
    simp only[Dv.tup,DA.cons,DA.one,Dv.list,hd] at h1
    first | exact h1.elim | (split at h1 <;> exact h1.elim) | (cases h1)
   | some y=>
    obtain ⟨r,ps⟩:=y
    simp only[Dv.tup,DA.cons,DA.one,Dv.list,hd] at h1
    obtain ⟨hq,h1⟩:=asks_holds h1
    have h1:([],r)=fn g:=h1
    have hr:=R.ok _ _ _ _ _ _ hd (fun p hp=>hq p (by first | exact hp | exact List.mem_append_right _ hp)) k2
    simp only[SV.fit] at f1
    subst f1
    refine ⟨_,x2,⟨0,0,0,true⟩,rfl,h4.toBelow,?_,fun h=>(by cases h),?_,?_⟩
    ·rw[← h1];exact .inl ⟨rfl,rfl,_,rfl⟩
    ·rw[← h1];exact ⟨Nat.zero_le _,.inl ⟨rfl,rfl⟩⟩
    ·rw[← h1];exact hP _ _ _ _ _ _ hr
  ·cases hb
theorem rowE_of_sideA (hP:∀ r,Pu (R.enc r)) (hΓ:∀ f g,Γ.g f=some g→FnOk P f g) (hΛ:∀ f k L,Λ f k=some L→∀ b∈loopsOf P f,lkey b=k→LoopOk P b L.g) (n:Nat) (d:List α×δ) (S:List Nat→γ→Prop) (F:List Nat→γ→List α×δ)
  (hS:∀ cs g,(eTree P Γ Λ n f t A R (D.enc g)).sideA cs=S cs g) (hF:∀ cs g,(eTree P Γ Λ n f t A R (D.enc g)).evA d cs=F cs g) (h:∀ cs g,D.bd g→(∀ p∈pre g,p)→S cs g∧F cs g=fn g):FnRowE P f t A D R fn pre:=
 rowE_of_tree hP hΓ hΛ n fun g h1 h2=>Tr.sideA_holds d (fun cs=>by rw[hS];exact (h cs g h1 h2).1) fun cs=>by rw[hF];exact (h cs g h1 h2).2
def conRowE (t:TypeId) (A:El α) (D:DA γ) (R:Dv δ) (fn:γ→List α×δ) (pre:γ→List Prop):Con:=fun args h=>
 match D.dec args with
 | some (g,ps)=>asks (ps++pre g) (.ret (.tup [.ow h.nx (fn g).1.length,R.enc (fn g).2],h.push (rowA A t (fn g).1)))
 | none=>.bad 694
theorem conRowE_ok (hP:∀ r,Pu (R.enc r)) (hp:FnRowE P f t A D R fn pre):FnOk P f (conRowE t A D R fn pre):=by
 intro M w0 w ρ h args vs K hK hm hfits
 unfold conRowE at hK
 split at hK
 ·rename_i g ps hd
  obtain ⟨hq,hK⟩:=asks_holds hK
  have hv2:=D.ok _ _ _ _ _ _ hd (fun p h'=>hq p (List.mem_append_left _ h')) hfits
  have hv3:=D.cl _ _ 0 ρ (emp ρ.mem) vs (fun _ _ h=>h) hv2
  refine (hp w ρ.mem g vs hm.fz (fun p h'=>hq p (List.mem_append_right _ h')) hv3).mono ?_
  rintro e w' ⟨x,y,L,rfl,hb,hx,hfresh,hrow,hy⟩
  have hm1:=hm.below hb
  have hmem:∀ b o,ρ.mem b=some o→memR ρ.mem w w' L b=some o:=fun b o ho=>by
   have hlt:=hm.lt_mem ho
   unfold memR memAt
   rw[if_neg (fun hc=>by have:=(hfresh hc.1).1;omega),if_pos hlt]
   exact ho
  have hag:Agree h.nx ρ ⟨ρ.lc,memR ρ.mem w w' L,ρ.lo⟩:=⟨fun _ _=>rfl,hmem,rfl⟩
  have hm2:HM M w0 ⟨ρ.lc,memR ρ.mem w w' L,ρ.lo⟩ h w':={
   os:=hm1.os
   tape:=hm1.tape
   output:=hm1.output
   size:=hm1.size
   block:=hm1.block
   lt:=hm1.lt
   ob:=fun i=>SO.fit_mono (Nat.le_refl _) hag (hm1.ob i)
   ow:=hm1.ow
   fz:=fun b o hb'=>by
    simp only[memR,memAt] at hb'
    split at hb'
    ·cases hb'
    ·split at hb'
     ·exact hm1.fz b o hb'
     ·exact hb'
   sep:=fun i hi=>by
    have h1:=hm.sep i hi
    have h2:=hm.lt_heap hi
    simp only[memR,memAt]
    split
    ·rfl
    ·first | exact h1 | (rw[if_pos h2];exact h1)
   old:=fun b o hb' hlt hM=>by
    simp only[memR,memAt] at hb'
    have hs:=hm.size
    split at hb'
    ·cases hb'
    ·rw[if_pos (by omega)] at hb'
     exact hm.old b o hb' hlt hM
   inj:=hm1.inj }
  have hm3:HM M w0 (upd ⟨ρ.lc,memR ρ.mem w w' L,ρ.lo⟩ h.nx L) (h.push (rowA A t (fn g).1)) w':=by
   refine hm2.learn (rowA_cl A (ρ:=emp (memR ρ.mem w w' L)) (fun _ _ h=>h) hrow) fun ho=>?_
   have hn:L.nl=false:=ho
   have hf:=(hfresh hn).1
   refine ⟨.inl (Nat.le_trans hm.size hf),?_,fun j hj=>?_⟩
   ·simp only[memR,hn,true_and,if_pos]
   ·have:=hm.lt_heap hj
    show (ρ j).blk≠L.blk
    omega
  refine ⟨_,_,upd ⟨ρ.lc,memR ρ.mem w w' L,ρ.lo⟩ h.nx L,.tuple #[x,y],hK,Nat.le_succ _,hag.trans (Nat.le_refl _) (agree_upd _ _ _),hm3,⟨[x,y],rfl,⟨Nat.lt_succ_self _,?_⟩,hP _ _ _ _ _ _ hy,trivial⟩,rfl⟩
  have hu:(upd ⟨ρ.lc,memR ρ.mem w w' L,ρ.lo⟩ h.nx L) h.nx=L:=by simp[upd]
  rw[hu]
  rcases hx with ⟨h1,h2,a,h3⟩ | ⟨h1,h3⟩
  ·exact .inl ⟨h1,h2,a,h3⟩
  ·exact .inr ⟨h1,(hfresh h1).2,h3⟩
 ·exact hK.elim
def bconRowE (t:TypeId) (A:El α) (D:DA γ) (R:Dv δ) (fn:γ→List α×δ) (pre:γ→List Prop):BCon:=⟨conRowE t A D R fn pre,fun args h=>by
 unfold conRowE
 split
 ·exact asks_each rfl
 ·trivial⟩
def conLE (t:TypeId) (A:El α) (D:DA γ) (R:Dv δ) (fn:List α×γ→List α×δ) (pre:List α×γ→List Prop):Con:=fun args h=>
 match args with
 | .ow i l :: rest=>match h.get i with
  | .row _ sz el m=>match Nat.beq sz A.sz with
   | true=>match D.dec rest with
    | some (g,ps)=>asks ((l≤m) :: (A.okE l el++(ps++pre (A.lstE l el,g)))) (.ret (.tup [.ow h.nx (fn (A.lstE l el,g)).1.length,R.enc (fn (A.lstE l el,g)).2],(h.set i .dead).push (rowA A t (fn (A.lstE l el,g)).1)))
    | none=>.bad 658
   | false=>.bad 659
  | _=>.bad 660
 | args=>conRowE t A (.cons (.list A) D) R fn pre args h
theorem conLE_ok {D:DA γ} {fn:List α×γ→List α×δ} {pre:List α×γ→List Prop} (hP:∀ r,Pu (R.enc r)) (hp:FnRowE P f t A (.cons (.list A) D) R fn pre):FnOk P f (conLE t A D R fn pre):=by
 intro M w0 w ρ h args vs K hK hm hf
 unfold conLE at hK
 split at hK
 ·rename_i i l rest
  split at hK
  ·rename_i t1 sz el m hg
   split at hK
   ·rename_i hb
    split at hK
    ·rename_i g ps hd
     obtain ⟨hq,hK⟩:=asks_holds hK
     have hlm:l≤m:=hq _ (List.mem_cons_self ..)
     have hok:∀ e,e<l→A.Ok (el.at e):=A.okE_ok l el fun p h'=>hq p (List.mem_cons_of_mem _ (List.mem_append_left _ h'))
     have hps:∀ p∈ps,p:=fun p h'=>hq p (List.mem_cons_of_mem _ (List.mem_append_right _ (List.mem_append_left _ h')))
     have hpre:∀ p∈pre (A.lstE l el,g),p:=fun p h'=>hq p (List.mem_cons_of_mem _ (List.mem_append_right _ (List.mem_append_right _ h')))
     rw[A.lstE_eq] at hpre hK
     obtain ⟨y,ys,rfl,hy,hr⟩:=fits_cons hf
     have e1:frz1 h (.ow i l)=(.rs sz l el.at,h.set i .dead,[l≤m]):=by simp[frz1,hg]
     obtain ⟨ρ1,a1,m1,f1⟩:=frz1_ok (s:=.ow i l) hm hy (by rw[e1];intro p hp';simp only[List.mem_singleton] at hp';rw[hp'];exact hlm)
     rw[e1] at m1 f1
     have hdec:(DA.cons (.list A) D).dec (.rs sz l el.at :: rest)=some ((A.lst l el.at,g),[∀ e,e<l→A.Ok (el.at e)]++ps):=by
      simp only[DA.cons,Dv.list,hb,hd,cond_true]
     have hK1:(conRowE t A (.cons (.list A) D) R fn pre (.rs sz l el.at :: rest) (h.set i .dead)).Holds K:=by
      unfold conRowE
      rw[hdec]
      refine asks_intro (fun p h'=>?_) hK
      rcases List.mem_append.1 h' with h' | h'
      ·rcases List.mem_append.1 h' with h' | h'
       ·simp only[List.mem_singleton] at h'
        rw[h'];exact hok
       ·exact hps p h'
      ·exact hpre p h'
     refine (conRowE_ok hP hp M w0 w ρ1 (h.set i .dead) (.rs sz l el.at :: rest) (y :: ys) K hK1 m1 ⟨f1,SV.fits_mono (Nat.le_refl _) a1 _ _ hr⟩).mono ?_
     rintro e w' ⟨s,h',ρ',x,k1,k2,k3,k4,k5,k6⟩
     exact ⟨s,h',ρ',x,k1,k2,a1.trans (Nat.le_refl _) k3,k4,k5,k6⟩
    ·exact hK.elim
   ·exact hK.elim
  ·exact hK.elim
 ·exact conRowE_ok hP hp M w0 w ρ h _ vs K hK hm hf
def lconE (t:TypeId) (A:El α) (D:DA γ) (R:Dv δ) (fn:List α×γ→List α×δ) (pre:List α×γ→List Prop):BCon:=⟨conLE t A D R fn pre,fun args h=>by
 unfold conLE
 split
 ·split
  ·split
   ·split
    ·exact asks_each rfl
    ·trivial
   ·trivial
  ·trivial
 ·exact (bconRowE t A (.cons (.list A) D) R fn pre).b args h⟩
theorem rowE_none {A':Dv γ} {fn:γ→List α×δ} {pre:γ→List Prop} (h:FnRowE P f t A (.one A') R fn pre):FnRowE P f t A (.cons A' .none) R (fun g=>fn g.1) (fun g=>pre g.1):=fun w F g vs h1 h2 h3=>h w F g.1 vs h1 h2 h3
end
end Go.Sx

namespace Go.Lp
section
variable {α:Type} [DecidableEq α] {cf:α→α→Int} {le:α→α→Bool}
def Rfl (le:α→α→Bool) (l:List α):Prop:=∀ x∈l,le x x=true
theorem mins_sub (h:TO cf) {l:List α} {x:α} (hx:x∈mins cf le l):x∈l:=((mins_mem h).1 hx).1
def lq (le:α→α→Bool) (a b:List α):Bool:=b.all fun v=>a.any (le · v)
end
end Go.Lp
