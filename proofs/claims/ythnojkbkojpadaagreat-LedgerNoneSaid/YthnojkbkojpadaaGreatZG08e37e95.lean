/- Counts are added up, key by key: in a map, or in a sorted list: plain laws for all chapters. -/
import Derived.Test.YthnojkbkojpadaaGreatZG06943424
import Derived.Test.YthnojkbkojpadaaGreatZG07de90b3
import Derived.Test.YthnojkbkojpadaaGreatZG0561ca9d
set_option linter.unusedVariables false
set_option linter.unusedSimpArgs false
set_option linter.constructorNameAsVariable false
set_option linter.all false

namespace Go.Lp
open Go.Sx
variable [Env]
section
variable {α κ β:Type} [DecidableEq κ] (key:α→κ) (num:α→Int) (add:β→Int→β) (z:β) (d:MpE κ β)
def mputG (m:List (MpE κ β)×Nat) (x:α):List (MpE κ β)×Nat:=
 if m.1.findIdx (fun e=>decide (key x=e.1))<m.1.length then (m.1.set (m.1.findIdx fun e=>decide (key x=e.1)) (key x,add (m.1.getD (m.1.findIdx fun e=>decide (key x=e.1)) d).2.1 (num x),(m.1.getD (m.1.findIdx fun e=>decide (key x=e.1)) d).2.2),m.2)
 else (m.1++[(key x,add z (num x),(m.2:Int))],m.2+1)
def accK (xs:List α) (k:κ):β:=(xs.filter fun x=>decide (key x=k)).foldl (fun b x=>add b (num x)) z
def MapOf (xs:List α) (m:List (MpE κ β)×Nat):Prop:=Bn m.1 m.2∧Kd m.1∧(∀ k,(∃ e∈m.1,e.1=k)↔∃ x∈xs,key x=k)∧∀ e∈m.1,e.2.1=accK key num add z xs e.1
theorem accK_snoc (xs:List α) (x:α) (k:κ):accK key num add z (xs++[x]) k=if key x=k then add (accK key num add z xs k) (num x) else accK key num add z xs k:=by
 unfold accK
 rw[List.filter_append]
 by_cases h:key x=k
 ·rw[if_pos h];simp[h]
 ·rw[if_neg h];simp[h]
theorem accK_none {xs:List α} {k:κ} (h:¬ ∃ x∈xs,key x=k):accK key num add z xs k=z:=by
 unfold accK
 rw[List.filter_eq_nil_iff.2 fun x hx=>by simpa using fun e=>h ⟨x,hx,e⟩]
 rfl
theorem mput_of {xs:List α} {m:List (MpE κ β)×Nat} (h:MapOf key num add z xs m) (x:α):MapOf key num add z (xs++[x]) (mputG key num add z d m x):=by
 obtain ⟨hb,hk,h1,h2⟩:=h
 unfold mputG
 by_cases hi:m.1.findIdx (fun e=>decide (key x=e.1))<m.1.length
 ·rw[if_pos hi]
  have hx:=List.findIdx_getElem (w:=hi)
  generalize m.1.findIdx (fun e=>decide (key x=e.1))=i at hi hx
  have hx:key x=m.1[i].1:=by simpa using hx
  have hg:m.1.getD i d=m.1[i]:=by simp[List.getD_eq_getElem?_getD,hi]
  rw[hg]
  have hm:(m.1.set i (key x,add m.1[i].2.1 (num x),m.1[i].2.2)).map (fun e=>(e.1,e.2.2))=m.1.map fun e=>(e.1,e.2.2):=by
   rw[List.map_set,hx]
   apply List.ext_getElem
   ·simp
   ·intro j a b
    by_cases hj:i=j
    ·subst hj;simp
    ·simp[List.getElem_set,hj]
  have hmem:∀ e,e∈m.1.set i (key x,add m.1[i].2.1 (num x),m.1[i].2.2)→∃ e'∈m.1,e'.1=e.1∧e'.2.2=e.2.2:=fun e he=>by
   have:(e.1,e.2.2)∈(m.1.set i (key x,add m.1[i].2.1 (num x),m.1[i].2.2)).map fun e=>(e.1,e.2.2):=List.mem_map.2 ⟨e,he,rfl⟩
   rw[hm] at this
   obtain ⟨e',h3,h4⟩:=List.mem_map.1 this
   simp only[Prod.mk.injEq] at h4
   exact ⟨e',h3,h4.1,h4.2⟩
  refine ⟨⟨?_,fun e he=>?_⟩,?_,fun k=>?_,fun e he=>?_⟩
  ·have:=hb.1
   have h3:=(List.pairwise_map (f:=fun e:MpE κ β=>(e.1,e.2.2)) (R:=fun a b=>a.2<b.2)).2 this
   rw[← hm] at h3
   exact (List.pairwise_map (f:=fun e:MpE κ β=>(e.1,e.2.2)) (R:=fun a b=>a.2<b.2)).1 h3
  ·obtain ⟨e',h3,_,h4⟩:=hmem e he
   rw[← h4];exact hb.2 e' h3
  ·have h3:=(List.pairwise_map (f:=fun e:MpE κ β=>(e.1,e.2.2)) (R:=fun a b=>a.1≠b.1)).2 hk
   rw[← hm] at h3
   exact (List.pairwise_map (f:=fun e:MpE κ β=>(e.1,e.2.2)) (R:=fun a b=>a.1≠b.1)).1 h3
  ·constructor
   ·rintro ⟨e,he,rfl⟩
    obtain ⟨e',h3,h4,_⟩:=hmem e he
    obtain ⟨y,hy,hy'⟩:=(h1 e.1).1 ⟨e',h3,h4⟩
    exact ⟨y,List.mem_append_left _ hy,hy'⟩
   ·rintro ⟨y,hy,rfl⟩
    have:∃ e∈m.1,e.1=key y:=by
     rcases List.mem_append.1 hy with hy | hy
     ·exact (h1 _).2 ⟨y,hy,rfl⟩
     ·rw[List.mem_singleton.1 hy,hx]
      exact ⟨m.1[i],List.getElem_mem hi,rfl⟩
    obtain ⟨e,he,he'⟩:=this
    have h3:(e.1,e.2.2)∈m.1.map fun e=>(e.1,e.2.2):=List.mem_map.2 ⟨e,he,rfl⟩
    rw[← hm] at h3
    obtain ⟨e2,h4,h5⟩:=List.mem_map.1 h3
    simp only[Prod.mk.injEq] at h5
    exact ⟨e2,h4,by rw[h5.1];exact he'⟩
  ·obtain ⟨j,hj,rfl⟩:=List.getElem_of_mem he
   rw[List.length_set] at hj
   rw[List.getElem_set]
   by_cases hij:i=j
   ·rw[if_pos hij]
    subst hij
    simp only
    rw[accK_snoc,if_pos rfl,hx,h2 _ (List.getElem_mem hi)]
   ·rw[if_neg hij,accK_snoc,h2 _ (List.getElem_mem hj)]
    rw[if_neg]
    intro h3
    have hp:=List.pairwise_iff_getElem.1 hk
    have h3:=hx.symm.trans h3
    rcases Nat.lt_or_gt_of_ne hij with h4 | h4
    ·exact hp i j hi hj h4 h3
    ·exact hp j i hj hi h4 h3.symm
 ·rw[if_neg hi]
  have hno:∀ e∈m.1,key x≠e.1:=fun e he h3=>by
   apply hi
   have:=List.findIdx_lt_length_of_exists (p:=fun e:MpE κ β=>decide (key x=e.1)) ⟨e,he,by simpa using h3⟩
   exact this
  have hxs:¬ ∃ y∈xs,key y=key x:=fun h3=>by
   obtain ⟨e,he,h4⟩:=(h1 _).2 h3
   exact hno e he h4.symm
  refine ⟨⟨?_,fun e he=>?_⟩,?_,fun k=>?_,fun e he=>?_⟩
  ·rw[List.pairwise_append]
   refine ⟨hb.1,List.pairwise_singleton ..,fun a ha b hb'=>?_⟩
   rw[List.mem_singleton.1 hb']
   exact hb.2 a ha
  ·rcases List.mem_append.1 he with he | he
   ·have:=hb.2 e he
    show e.2.2<((m.2+1:Nat):Int)
    omega
   ·rw[List.mem_singleton.1 he]
    show (m.2:Int)<((m.2+1:Nat):Int)
    omega
  ·show (m.1++_).Pairwise _
   rw[List.pairwise_append]
   refine ⟨hk,List.pairwise_singleton ..,fun a ha b hb'=>?_⟩
   rw[List.mem_singleton.1 hb']
   exact fun h3=>hno a ha h3.symm
  ·constructor
   ·rintro ⟨e,he,rfl⟩
    rcases List.mem_append.1 he with he | he
    ·obtain ⟨y,hy,hy'⟩:=(h1 _).1 ⟨e,he,rfl⟩
     exact ⟨y,List.mem_append_left _ hy,hy'⟩
    ·rw[List.mem_singleton.1 he]
     exact ⟨x,List.mem_append_right _ (List.mem_singleton.2 rfl),rfl⟩
   ·rintro ⟨y,hy,rfl⟩
    rcases List.mem_append.1 hy with hy | hy
    ·obtain ⟨e,he,he'⟩:=(h1 _).2 ⟨y,hy,rfl⟩
     exact ⟨e,List.mem_append_left _ he,he'⟩
    ·rw[List.mem_singleton.1 hy]
     exact ⟨_,List.mem_append_right _ (List.mem_singleton.2 rfl),rfl⟩
  ·rcases List.mem_append.1 he with he | he
   ·rw[accK_snoc,if_neg (hno e he),h2 e he]
   ·rw[List.mem_singleton.1 he]
    simp only
    rw[accK_snoc,if_pos rfl,accK_none key num add z hxs]
theorem mapOf_nil:MapOf key num add z ([]:List α) (([],0):List (MpE κ β)×Nat):=⟨⟨List.Pairwise.nil,fun x hx=>by cases hx⟩,List.Pairwise.nil,fun k=>by simp,fun e he=>by cases he⟩
theorem mapOf_foldl:∀ (ys xs:List α) (m:List (MpE κ β)×Nat),MapOf key num add z xs m→MapOf key num add z (xs++ys) (ys.foldl (mputG key num add z d) m)
 | [],xs,m,h=>by simpa using h
 | y :: ys,xs,m,h=>by
  have:=mapOf_foldl ys (xs++[y]) _ (mput_of key num add z d h y)
  simpa using this
theorem mapOf_all (xs:List α):MapOf key num add z xs (xs.foldl (mputG key num add z d) ([],0)):=by
 have:=mapOf_foldl key num add z d xs [] _ (mapOf_nil key num add z)
 simpa using this
theorem mput_len (m:List (MpE κ β)×Nat) (x:α):(mputG key num add z d m x).1.length≤m.1.length+1:=by
 unfold mputG
 split <;> simp
theorem map_len:∀ (xs:List α) (m:List (MpE κ β)×Nat),(xs.foldl (mputG key num add z d) m).1.length≤m.1.length+xs.length
 | [],m=>Nat.le_refl _
 | x :: xs,m=>by
  have h1:=map_len xs (mputG key num add z d m x)
  have h2:=mput_len key num add z d m x
  rw[List.foldl_cons,List.length_cons]
  omega
end
section
variable {α κ:Type} [DecidableEq κ] (key:α→κ) (num:α→Int)
def sumK:List α→κ→Int
 | [],_=>0
 | x :: l,k=>(if key x=k then num x else 0)+sumK l k
theorem sumK_none {xs:List α} {k:κ} (h:∀ x∈xs,key x≠k):sumK key num xs k=0:=by
 induction xs with
 | nil=>rfl
 | cons x xs ih=>
  simp only[sumK]
  rw[if_neg (h x (List.mem_cons_self ..)),ih fun y hy=>h y (List.mem_cons_of_mem _ hy)]
  rfl
theorem sumK_one {xs:List α} (hd:xs.Pairwise fun a b=>key a≠key b) {x:α} (hx:x∈xs):sumK key num xs (key x)=num x:=by
 induction xs with
 | nil=>cases hx
 | cons y xs ih=>
  rw[List.pairwise_cons] at hd
  simp only[sumK]
  rcases List.mem_cons.1 hx with rfl | hx
  ·rw[if_pos rfl,sumK_none key num fun z hz=>(hd.1 z hz).symm]
   simp
  ·rw[if_neg (hd.1 x hx),ih hd.2 hx]
   simp
variable (mk:κ→Int→α) (cf:κ→κ→Int)
def putK (x:α):List α→List α
 | []=>[x]
 | y :: r=>if cf (key x) (key y)<0 then x :: y :: r else if key x=key y then mk (key x) (num y+num x) :: r else y :: putK x r
def totK (xs:List α):List α:=xs.foldl (fun a x=>putK key num mk cf x a) []
def Srt (l:List α):Prop:=l.Pairwise fun a b=>cf (key a) (key b)<0
theorem srt_unique (h:TO cf) (he:∀ a b:α,key a=key b→num a=num b→a=b):∀ {l m:List α},Srt key cf l→Srt key cf m→(∀ x,x∈l↔x∈m)→l=m
 | [],[],_,_,_=>rfl
 | [],y :: m,_,_,he=>by have:=(he y).2 (List.mem_cons_self ..);cases this
 | x :: l,[],_,_,he=>by have:=(he x).1 (List.mem_cons_self ..);cases this
 | x :: l,y :: m,h1,h2,hm=>by
  unfold Srt at h1 h2
  rw[List.pairwise_cons] at h1 h2
  have hxy:x=y:=by
   have a:=(hm x).1 (List.mem_cons_self ..)
   have b:=(hm y).2 (List.mem_cons_self ..)
   rcases List.mem_cons.1 a with e | a
   ·exact e
   ·rcases List.mem_cons.1 b with e | b
    ·exact e.symm
    ·exact absurd (h1.1 y b) (h.asymm (h2.1 x a))
  subst hxy
  congr 1
  refine srt_unique h he h1.2 h2.2 fun z=>?_
  have:=hm z
  simp only[List.mem_cons] at this
  constructor
  ·intro hz
   rcases this.1 (.inr hz) with e | h3
   ·subst e;exact absurd (h1.1 z hz) (h.irrefl _)
   ·exact h3
  ·intro hz
   rcases this.2 (.inr hz) with e | h3
   ·subst e;exact absurd (h2.1 z hz) (h.irrefl _)
   ·exact h3
variable {mk} {cf}
theorem putK_key (h:TO cf) (hk:∀ k n,key (mk k n)=k) (x:α):∀ {l:List α} {k:κ},(∃ y∈putK key num mk cf x l,key y=k)↔key x=k∨∃ y∈l,key y=k
 | [],k=>by simp[putK]
 | y :: r,k=>by
  simp only[putK]
  split
  ·simp
  ·split
   ·rename_i he
    simp only[List.mem_cons,exists_eq_or_imp,hk]
    rw[he]
    constructor
    ·rintro (h | h)
     ·exact .inl h
     ·exact .inr (.inr h)
    ·rintro (h | h | h)
     ·exact .inl h
     ·exact .inl h
     ·exact .inr h
   ·have:=putK_key h hk x (l:=r) (k:=k)
    simp only[List.mem_cons,exists_eq_or_imp]
    rw[this]
    constructor
    ·rintro (h | h | h)
     ·exact .inr (.inl h)
     ·exact .inl h
     ·exact .inr (.inr h)
    ·rintro (h | h | h)
     ·exact .inr (.inl h)
     ·exact .inl h
     ·exact .inr (.inr h)
theorem putK_srt (h:TO cf) (hk:∀ k n,key (mk k n)=k) (x:α):∀ {l:List α},Srt key cf l→Srt key cf (putK key num mk cf x l)
 | [],_=>by simp[putK,Srt]
 | y :: r,hs=>by
  have hs':=hs
  unfold Srt at hs'
  rw[List.pairwise_cons] at hs'
  simp only[putK]
  split
  ·rename_i hl
   refine List.pairwise_cons.2 ⟨fun z hz=>?_,hs⟩
   rcases List.mem_cons.1 hz with rfl | hz
   ·exact hl
   ·exact h.trans hl (hs'.1 z hz)
  ·split
   ·rename_i he
    refine List.pairwise_cons.2 ⟨fun z hz=>?_,hs'.2⟩
    rw[hk,he]
    exact hs'.1 z hz
   ·rename_i hl he
    refine List.pairwise_cons.2 ⟨fun z hz=>?_,putK_srt h hk x hs'.2⟩
    rcases (putK_key key num h hk x (k:=key z)).1 ⟨z,hz,rfl⟩ with e | ⟨z',hz',e⟩
    ·rw[← e];exact h.lt_or he hl
    ·rw[← e];exact hs'.1 z' hz'
theorem putK_sum (h:TO cf) (hk:∀ k n,key (mk k n)=k) (hn:∀ k n,num (mk k n)=n) (x:α) (k:κ):∀ {l:List α},sumK key num (putK key num mk cf x l) k=sumK key num l k+if key x=k then num x else 0
 | []=>by simp[putK,sumK]
 | y :: r=>by
  simp only[putK]
  split
  ·simp only[sumK];omega
  ·split
   ·rename_i he
    simp only[sumK,hk,hn,he]
    split <;> omega
   ·simp only[sumK]
    rw[putK_sum h hk hn x k (l:=r)]
    omega
theorem totK_all (h:TO cf) (hk:∀ k n,key (mk k n)=k) (hn:∀ k n,num (mk k n)=n):∀ (xs a:List α),Srt key cf a→Srt key cf (xs.foldl (fun a x=>putK key num mk cf x a) a)∧(∀ k,(∃ y∈xs.foldl (fun a x=>putK key num mk cf x a) a,key y=k)↔(∃ y∈a,key y=k)∨∃ x∈xs,key x=k)∧∀ k,sumK key num (xs.foldl (fun a x=>putK key num mk cf x a) a) k=sumK key num a k+sumK key num xs k
 | [],a,ha=>⟨ha,fun k=>by simp,fun k=>by simp[sumK]⟩
 | x :: xs,a,ha=>by
  obtain ⟨h1,h2,h3⟩:=totK_all h hk hn xs (putK key num mk cf x a) (putK_srt key num h hk x ha)
  refine ⟨h1,fun k=>?_,fun k=>?_⟩
  ·rw[List.foldl_cons,h2 k,putK_key key num h hk x]
   simp only[List.mem_cons,exists_eq_or_imp]
   constructor
   ·rintro ((h | h) | h)
    ·exact .inr (.inl h)
    ·exact .inl h
    ·exact .inr (.inr h)
   ·rintro (h | h | h)
    ·exact .inl (.inr h)
    ·exact .inl (.inl h)
    ·exact .inr h
  ·rw[List.foldl_cons,h3 k,putK_sum key num h hk hn]
   simp only[sumK]
   omega
theorem srt_ne (h:TO cf) {l:List α} (hs:Srt key cf l):l.Pairwise fun a b=>key a≠key b:=hs.imp fun {a b} hl he=>by rw[he] at hl;exact h.irrefl _ hl
theorem totK_srt (h:TO cf) (hk:∀ k n,key (mk k n)=k) (hn:∀ k n,num (mk k n)=n) (xs:List α):Srt key cf (totK key num mk cf xs):=(totK_all key num h hk hn xs [] List.Pairwise.nil).1
theorem totK_mem (h:TO cf) (hk:∀ k n,key (mk k n)=k) (hn:∀ k n,num (mk k n)=n) (he:∀ a b:α,key a=key b→num a=num b→a=b) (xs:List α) (y:α):y∈totK key num mk cf xs↔(∃ x∈xs,key x=key y)∧num y=sumK key num xs (key y):=by
 obtain ⟨h1,h2,h3⟩:=totK_all key num h hk hn xs [] List.Pairwise.nil
 have h3':∀ k,sumK key num (totK key num mk cf xs) k=sumK key num xs k:=fun k=>by
  have:=h3 k
  simpa [sumK,totK] using this
 have h2':∀ k,(∃ y∈totK key num mk cf xs,key y=k)↔∃ x∈xs,key x=k:=fun k=>by
  have:=h2 k
  simpa [totK] using this
 have hd:=srt_ne key h h1
 constructor
 ·intro hy
  refine ⟨(h2' _).1 ⟨y,hy,rfl⟩,?_⟩
  rw[← h3']
  exact (sumK_one key num hd hy).symm
 ·rintro ⟨h4,h5⟩
  obtain ⟨y',hy',e⟩:=(h2' _).2 h4
  have h6:=sumK_one key num hd hy'
  rw[e] at h6
  have h7:y'=y:=he _ _ e (by rw[h5,← h3',← h6];rfl)
  rw[← h7];exact hy'
end
end Go.Lp

namespace Go.Sx
open Go.RowKit
variable [Env]
def isFn (k:Nat):List SV→Bool
 | [_,.fn f _]=>Nat.beq f k
 | _=>false
def pconAlt (k:Nat) (c1 c2:PCon):PCon:=⟨fun args h=>bif isFn k args then c1.g args h else c2.g args h,fun args h=>by
 cases isFn k args with
 | true=>exact c1.e args h
 | false=>exact c2.e args h,fun args ha=>indep_bif (c1.i args ha) (c2.i args ha)⟩
theorem alt_ok {P:Program} {f k:Nat} {c1 c2:PCon} (h1:FnOk P f c1.g) (h2:FnOk P f c2.g):FnOk P f (pconAlt k c1 c2).g:=by
 intro M w0 w ρ h args vs K hK hm hf
 have hK:(bif isFn k args then c1.g args h else c2.g args h).Holds K:=hK
 cases hc:isFn k args with
 | true=>rw[hc] at hK;exact h1 M w0 w ρ h args vs K hK hm hf
 | false=>rw[hc] at hK;exact h2 M w0 w ρ h args vs K hK hm hf
end Go.Sx

namespace Go.Lp
open Go.Sx
variable [Env]
section
variable {α γ δ:Type} {F:List Nat→γ→Ex×γ} {m:γ→Nat} {Inv:γ→Prop}
def permL:Nat→List Nat→List α→List α
 | 0,_,_=>[]
 | n+1,cs,l=>match l[(hdC (hdC cs)).headD 0 % l.length]? with
  | some e=>e :: permL n (tlC cs) (l.eraseIdx ((hdC (hdC cs)).headD 0 % l.length))
  | none=>[]
theorem permL_perm:∀ (n:Nat) (cs:List Nat) (l:List α),l.length=n→(permL n cs l).Perm l
 | 0,cs,l,h=>by rw[List.length_eq_zero_iff.1 h];exact List.Perm.refl _
 | n+1,cs,l,h=>by
  have hlt:(hdC (hdC cs)).headD 0 % l.length<l.length:=Nat.mod_lt _ (by omega)
  simp only[permL,List.getElem?_eq_getElem hlt]
  refine ((permL_perm n (tlC cs) _ ?_).cons _).trans ?_
  ·rw[List.length_eraseIdx_of_lt hlt];omega
  ·rw[List.eraseIdx_eq_take_drop_succ]
   refine List.perm_middle.symm.trans (List.Perm.of_eq ?_)
   rw[List.getElem_cons_drop,List.take_append_drop]
theorem permL_next {l:List α} {n:Nat} {cs:List Nat} {e:α} (hn:l.length=n+1) (hk:l[(hdC (hdC cs)).headD 0 % l.length]?=some e):permL l.length cs l=e :: permL n (tlC cs) (l.eraseIdx ((hdC (hdC cs)).headD 0 % l.length)):=by
 have:permL (n+1) cs l=e :: permL n (tlC cs) (l.eraseIdx ((hdC (hdC cs)).headD 0 % l.length)):=by
  simp only[permL,hk]
 rw[← this,hn]
def scanL (x:Nat) (st:α→δ→Ex×δ):List α→δ→Ex×δ
 | [],b=>(.exit x,b)
 | e :: l,b=>match st e b with
  | (.normal,b')=>scanL x st l b'
  | r=>r
theorem mif_loop {x:Nat} {st:α→δ→Ex×δ} (rem:γ→List α) (bo:γ→δ) (up:γ→List α→δ→γ) (h1:∀ g a b,rem (up g a b)=a) (h2:∀ g a b,bo (up g a b)=b) (h3:∀ g a b c d,up (up g a b) c d=up g c d) (h4:∀ g,up g (rem g) (bo g)=g) (hm:∀ g,m g=(rem g).length)
  (hI:∀ g (i:Nat) e,Inv g→(rem g)[i]?=some e→(st e (bo g)).1=.normal→Inv (up g ((rem g).eraseIdx i) (st e (bo g)).2))
  (hF:∀ cs g,Inv g→((rem g).length=0∧F cs g=(.exit x,g))∨∃ e,(rem g)[(hdC cs).headD 0 % (rem g).length]?=some e∧F cs g=((st e (bo g)).1,up g ((rem g).eraseIdx ((hdC cs).headD 0 % (rem g).length)) (st e (bo g)).2)) :
  GoesA F m Inv∧∀ cs g,Inv g→∃ s,loopFA F m cs g=((scanL x st (permL (rem g).length cs (rem g)) (bo g)).1,up g s (scanL x st (permL (rem g).length cs (rem g)) (bo g)).2):=by
 have hg:GoesA F m Inv:=fun g cs hi hn=>by
  rcases hF cs g hi with ⟨_,e⟩ | ⟨e,hk,he⟩
  ·rw[e] at hn;cases hn
  ·rw[he] at hn ⊢
   refine ⟨hI g _ e hi hk hn,?_⟩
   simp only
   have:=(List.getElem?_eq_some_iff.1 hk).1
   rw[hm,hm,h1,List.length_eraseIdx_of_lt this]
   omega
 refine ⟨hg,loopFA_induct hg (Q:=fun cs g r=>∃ s,r=((scanL x st (permL (rem g).length cs (rem g)) (bo g)).1,up g s (scanL x st (permL (rem g).length cs (rem g)) (bo g)).2)) (fun g cs hi hn=>?_) fun g g' cs r hi he hi' _ hq=>?_⟩
 ·rcases hF (hdC cs) g hi with ⟨h0,e⟩ | ⟨e,hk,he⟩
  ·refine ⟨rem g,?_⟩
   rw[h0]
   simp only[permL,scanL]
   rw[h4,e]
  ·rw[he] at hn ⊢
   refine ⟨(rem g).eraseIdx ((hdC (hdC cs)).headD 0 % (rem g).length),?_⟩
   have hlt:=(List.getElem?_eq_some_iff.1 hk).1
   obtain ⟨n,hn'⟩:∃ n,(rem g).length=n+1:=⟨(rem g).length - 1,by omega⟩
   rw[permL_next hn' hk]
   simp only[scanL]
   generalize st e (bo g)=r at hn
   obtain ⟨ex,b'⟩:=r
   cases ex with
   | normal=>exact absurd rfl hn
   | _=>rfl
 ·obtain ⟨s,hs⟩:=hq
  rcases hF (hdC cs) g hi with ⟨h0,e⟩ | ⟨e,hk,he2⟩
  ·rw[he] at e;cases e
  ·have hlt:=(List.getElem?_eq_some_iff.1 hk).1
   obtain ⟨n,hn'⟩:∃ n,(rem g).length=n+1:=⟨(rem g).length - 1,by omega⟩
   rw[he] at he2
   simp only[Prod.mk.injEq] at he2
   obtain ⟨k1,k2⟩:=he2
   have hst:st e (bo g)=(.normal,(st e (bo g)).2):=by rw[k1]
   have hl:rem g'=(rem g).eraseIdx ((hdC (hdC cs)).headD 0 % (rem g).length):=by rw[k2,h1]
   have hln:(rem g').length=n:=by rw[hl,List.length_eraseIdx_of_lt hlt];omega
   refine ⟨s,?_⟩
   rw[hs,permL_next hn' hk,hln,hl]
   have hbo:bo g'=(st e (bo g)).2:=by rw[k2,h2]
   have hup:∀ c d,up g' c d=up g c d:=fun c d=>by rw[k2,h3]
   simp only[scanL]
   rw[hst,hbo,hup]
end
theorem kfind_at {f:Nat→Bool}:∀ (k e q:Nat),e≤q→q<e+k→(∀ i,e≤i→i<q→f i=false)→f q=true→kfind f k e=q
 | 0,e,q,h1,h2,_,_=>by omega
 | k+1,e,q,h1,h2,h3,h4=>by
  unfold kfind
  by_cases he:e=q
  ·subst he;rw[h4];rfl
  ·rw[h3 e (Nat.le_refl _) (by omega)]
   exact kfind_at k (e+1) q (by omega) (by omega) (fun i hi hq=>h3 i (by omega) hq) h4
end Go.Lp

namespace Go.Sx
open Go.RowKit
variable [Env]
def PO.so:PO→SO
 | .cells xs t=>.cells xs t
 | .row t sz el m=>.row t sz el m
 | .map ks vs ka va el m clk=>.map ks vs ka va el m clk false
 | .dead=>.dead
theorem PO.so_fit {n:Nat} {ρ:Rh} {L:Lc} {o:Option Obj} (p:PO):p.so.fit n ρ L o↔p.fit n ρ L o:=by cases p <;> exact Iff.rfl
theorem PO.so_own {L:Lc} (p:PO):p.so.own L↔p.own L:=by cases p <;> exact Iff.rfl
theorem PO.so_abs (p:PO) (a:Env.Ab):p.so≠.abs a:=by intro h;cases p <;> cases h
section
variable {M:Nat→Prop} {w0 w:World} {ρ:Rh} {h:SH}
theorem HM.unfold (hm:HM M w0 ρ h w) {S:Nat→Nat→Prop} (hS:AbsS S M w0.heap.size ρ h w) {sos:List SO} {ρ':Rh} (hmem:ρ'.mem=ρ.mem) (hlo:ρ'.lo=ρ.lo) (hna:∀ (k:Nat) so a,sos[k]?=some so→so≠.abs a)
  (hfit:∀ (k:Nat) so,sos[k]?=some so→so.fit sos.length ρ' (ρ' k) w.heap[(ρ' k).blk]?)
  (hown:∀ (k:Nat) so,sos[k]?=some so→so.own (ρ' k)→∃ i a,h.get i=.abs a∧((ρ' k).blk=(ρ i).blk∨S i (ρ' k).blk))
  (hinj:∀ (k k':Nat) so so',sos[k]?=some so→sos[k']?=some so'→so.own (ρ' k)→so'.own (ρ' k')→(ρ' k).blk=(ρ' k').blk→k=k'):HM M w0 ρ' (canonH sos) w:=by
 have hg:∀ k,((canonH sos).get k).own (ρ' k)→∃ so,sos[k]?=some so∧so.own (ρ' k):=fun k hk=>by
  rw[canonH_get] at hk
  cases hs:sos[k]? with
  | none=>rw[hs] at hk;exact hk.elim
  | some so=>rw[hs] at hk;exact ⟨so,rfl,hk⟩
 exact {
  os:=hm.os
  tape:=hm.tape
  output:=hm.output
  size:=hm.size
  block:=hm.block
  lt:=fun k hk=>by
   rw[canonH_get] at hk
   show k<sos.length
   by_cases hlt:k<sos.length
   ·exact hlt
   ·rw[List.getElem?_eq_none (by omega)] at hk;cases hk
  ob:=fun k=>by
   show ((canonH sos).get k).fit sos.length ρ' (ρ' k) _
   rw[canonH_get]
   cases hs:sos[k]? with
   | none=>trivial
   | some so=>exact hfit k so hs
  ow:=fun k hk=>by
   obtain ⟨so,h1,h2⟩:=hg k hk
   obtain ⟨i,a,h3,h4 | h4⟩:=hown k so h1 h2
   ·rw[h4];exact hm.ow i (own_abs h3)
   ·exact ((hS i a h3).2 _ h4).1
  fz:=by rw[hmem];exact hm.fz
  sep:=fun k hk=>by
   obtain ⟨so,h1,h2⟩:=hg k hk
   obtain ⟨i,a,h3,h4 | h4⟩:=hown k so h1 h2
   ·rw[h4,hmem];exact hm.sep i (own_abs h3)
   ·rw[hmem];exact hS.mem h3 h4
  old:=by rw[hmem,hlo];exact hm.old
  env:=by rw[hmem];exact hm.env
  ab:=⟨fun _ _=>False,fun k a hk=>by
   rw[canonH_get] at hk
   cases hs:sos[k]? with
   | none=>rw[hs] at hk;cases hk
   | some so=>rw[hs] at hk;exact absurd hk (hna k so a hs)⟩
  inj:=fun k k' hk hk' he=>by
   obtain ⟨so,h1,h2⟩:=hg k hk
   obtain ⟨so',h1',h2'⟩:=hg k' hk'
   exact hinj k k' so so' h1 h1' h2 h2' he }
end
end Go.Sx

namespace Go.Sx
open Go.RowKit
variable [Env]
structure Wr (α:Type) where
 wrap:α→Env.Ab
 un:Env.Ab→Option α
 ok:∀ x a,un x=some a→wrap a=x
section
variable {α κ:Type}
def TA.abs (W:Wr α):TA α where
 q:=1
 R:=0
 objs _ g:=[.abs (W.wrap g)]
 blks _ _:=[]
 read h rs:=match rs with
  | [r]=>match h.get r with
   | .abs x=>match W.un x with
    | some g=>some (g,[],[],[])
    | none=>none
   | _=>none
  | _=>none
 olen _ _:=rfl
 blen _ _:=rfl
 ilen h rs g ps ids fzs hr:=by
  split at hr
  ·split at hr
   ·split at hr
    ·simp only[Option.some.injEq,Prod.mk.injEq] at hr
     rw[← hr.2.2.1];exact ⟨rfl,rfl⟩
    ·cases hr
   ·cases hr
  ·cases hr
 ok N k0 h rs g ps ids fzs hr hp:=by
  split at hr
  ·rename_i r
   split at hr
   ·rename_i x hg
    split at hr
    ·rename_i a hu
     simp only[Option.some.injEq,Prod.mk.injEq] at hr
     obtain ⟨rfl,rfl,rfl,rfl⟩:=hr
     refine ⟨⟨fun k so h=>by simp at h,fun _ _ _ _ _ _ _ h=>by cases fits_nil h;trivial⟩,fun j r' so h1 h2=>?_⟩
     cases j with
     | succ j=>simp at h2
     | zero=>
      simp only[List.getElem?_cons_zero,Option.some.injEq] at h1 h2
      subst h1;subst h2
      rw[hg,W.ok _ _ hu]
      exact ⟨fun _=>trivial,fun _=>trivial,fun _=>Iff.rfl,fun n m ρ ρ' L o hn hz hf=>hf⟩
    ·cases hr
   ·cases hr
  ·cases hr
 shf b b' g n m ρ ρ' hm hk hb:=⟨shfB_cons owE_rfl (fun L o hf=>hf) shfB_nil,shfB_nil⟩
def CT.abs (W:Wr α):CT α where
 R:=1
 sz:=1
 cells b _:=[.p b 0]
 blks _ g:=[.abs (W.wrap g)]
 read h l:=match l with
  | [.p j 0]=>match h.get j with
   | .abs x=>match W.un x with
    | some g=>some (g,[],[some j],[])
    | none=>none
   | _=>none
  | _=>none
 put b g:=.ret ([.p b 0],[.abs (W.wrap g)])
 blen _ _:=rfl
 clen _ _:=rfl
 ilen h l g ps ids fzs hr:=by
  split at hr
  ·split at hr
   ·split at hr
    ·simp only[Option.some.injEq,Prod.mk.injEq] at hr
     rw[← hr.2.2.1];rfl
    ·cases hr
   ·cases hr
  ·cases hr
 ok N k0 h l g ps ids fzs hr hp:=by
  split at hr
  ·rename_i j
   split at hr
   ·rename_i x hg
    split at hr
    ·rename_i a hu
     simp only[Option.some.injEq,Prod.mk.injEq] at hr
     obtain ⟨rfl,rfl,rfl,rfl⟩:=hr
     refine ⟨fun k so hso=>?_,fun n' m' ρ ρ' x hn hz hf=>?_⟩
     ·cases k with
      | succ k=>simp at hso
      | zero=>
       simp only[List.getElem?_cons_zero,Option.some.injEq] at hso
       subst hso
       refine .inr ⟨j,rfl,by rw[hg,W.ok _ _ hu];exact ow_rfl,fun n' m' ρ ρ' L o hn hz hf=>?_⟩
       rw[hg] at hf
       exact hf
     ·obtain ⟨y,r,rfl,hy,hr'⟩:=fits_cons hf
      refine ⟨⟨by have:=hn.le;simp only[List.length_cons,List.length_nil] at this;omega,?_⟩,by have:=fits_nil hr';subst this;trivial⟩
      have:=hn.yes 0 j rfl
      rw[show N+k0+0=N+k0 from rfl] at this
      rw[this]
      exact hy.2
    ·cases hr
   ·cases hr
  ·cases hr
 shf b b' g n m ρ ρ' hm hk hb:=by
  have h0:=hk 0 (by omega)
  simp only[Nat.add_zero] at h0
  refine ⟨fun x hf=>?_,shfB_cons owE_rfl (fun L o hf=>hf) shfB_nil⟩
  obtain ⟨y,r,rfl,hy,hr'⟩:=fits_cons hf
  refine ⟨⟨by omega,?_⟩,by have:=fits_nil hr';subst this;trivial⟩
  rw[h0]
  exact hy.2
 putOk _ _ _ h:=h
def LP.abs (N id:Nat) (W:Wr α):LP N α where
 R:=0
 read σ:=match σ.h.get id with
  | .abs x=>match W.un x with
   | some g=>some (g,[],[])
   | none=>none
  | _=>none
 ents _ _:=[]
 blks _ _:=[]
 objs _ g:=[(id,.abs (W.wrap g))]
 es:=[]
 os:=[id]
 eseq _ _:=rfl
 oseq _ _:=rfl
 blen _ _:=rfl
 ilen σ g ps ids h:=by
  split at h
  ·split at h
   ·simp only[Option.some.injEq,Prod.mk.injEq] at h
    rw[← h.2.2];rfl
   ·cases h
  ·cases h
 ok k0 σ g ps ids h hp:=by
  split at h
  ·rename_i x hg
   split at h
   ·rename_i a hu
    simp only[Option.some.injEq,Prod.mk.injEq] at h
    obtain ⟨rfl,rfl,rfl⟩:=h
    refine ⟨fun k so h=>by simp at h,fun id' so h=>?_,fun j s h=>by simp at h⟩
    simp only[List.mem_singleton,Prod.mk.injEq] at h
    obtain ⟨rfl,rfl⟩:=h
    rw[hg,W.ok _ _ hu]
    exact ⟨ow_rfl,fun n m ρ ρ' L o hn hf=>hf⟩
   ·cases h
  ·cases h
end
section
variable {M:Nat→Prop} {w0 w:World} {ρ:Rh} {h:SH} {κ α:Type} {W:Wr α} {lay:κ→List PO} {Rel:κ→α→Prop}
theorem lay_get {pos:List PO} {k:Nat} {so:SO} (h:(pos.map PO.so)[k]?=some so):∃ p,pos[k]?=some p∧so=p.so:=by
 rw[List.getElem?_map] at h
 cases hp:pos[k]? with
 | none=>rw[hp] at h;cases h
 | some p=>rw[hp] at h;exact ⟨p,rfl,(Option.some.inj h).symm⟩
theorem HM.enter (hm:HM M w0 ρ h w) {i:Nat} {a:α} (hg:h.get i=.abs (W.wrap a)) (hrep:∀ L S H F,Env.rep (W.wrap a) L S H F→layRep lay Rel a L S H F) :
  ∃ k ρ1,Rel k a∧ρ1.mem=ρ.mem∧ρ1.lo=ρ.lo∧ρ1 0=ρ i∧HM M w0 ρ1 (canonH ((lay k).map PO.so)) w:=by
 obtain ⟨S,hS⟩:=hm.ab
 obtain ⟨k,ρL,h1,h2,h3⟩:=hrep _ _ _ _ (hS i _ hg).1
 refine ⟨k,⟨ρL.lc,ρ.mem,ρ.lo⟩,h1,rfl,rfl,h3.r0,?_⟩
 have hag:Agr (lay k).length ρL ⟨ρL.lc,ρ.mem,ρ.lo⟩:=⟨fun _ _=>rfl,fun b o hb _=>by rw[h2] at hb;exact hb⟩
 refine hm.unfold hS (ρ':=⟨ρL.lc,ρ.mem,ρ.lo⟩) rfl rfl (fun k' so a' hk=>?_) (fun k' so hk=>?_) (fun k' so hk ho=>?_) fun k1 k2 so so' hk hk' ho ho' he=>?_
 ·obtain ⟨p,_,rfl⟩:=lay_get hk
  exact p.so_abs a'
 ·obtain ⟨p,hp,rfl⟩:=lay_get hk
  rw[List.length_map]
  exact (p.so_fit).2 (PO.fit_mono (Nat.le_refl _) hag (h3.fit k' p hp))
 ·obtain ⟨p,hp,rfl⟩:=lay_get hk
  have ho:=(p.so_own).1 ho
  refine ⟨i,_,hg,?_⟩
  by_cases hk0:k'=0
  ·subst hk0;exact .inl (by rw[← h3.r0])
  ·exact .inr ((h3.has _).2 ⟨k',p,by omega,hp,ho,rfl⟩)
 ·obtain ⟨p,hp,rfl⟩:=lay_get hk
  obtain ⟨p',hp',rfl⟩:=lay_get hk'
  exact h3.inj k1 k2 p p' hp hp' ((p.so_own).1 ho) ((p'.so_own).1 ho') he
end
section
variable {P:Program} {f:Nat} {κ α γ δ:Type} {W:Wr α} {lay:κ→List PO} {Rel:κ→α→Prop} {C:CT κ} {t:TypeId} {D:DA γ} {E:Dv δ}
end
end Go.Sx

namespace Go.Sx
open Go.RowKit
variable [Env]
section
variable {M:Nat→Prop} {w0 w:World} {ρ:Rh} {h:SH} {κ α:Type} {W:Wr α} {lay:κ→List PO} {Rel:κ→α→Prop} {C:CT κ} {t:TypeId}
end
section
variable {P:Program} {f:Nat} {κ α γ δ:Type} {W:Wr α} {lay:κ→List PO} {Rel:κ→α→Prop} {C:CT κ} {t:TypeId} {D:DA γ}
end
end Go.Sx
