/- Chapter 5: a number's digits: the loops' contracts. -/
import Derived.Test.YtmegbepjdololaaDoorZG123df239
import Derived.Test.YtmegbepjdololaaDoorZG076c3315
import Derived.Test.YtmegbepjdololaaDoorZG064a11a0
import Derived.Test.YtmegbepjdololaaDoorZG0959b71c
set_option linter.unusedVariables false
set_option linter.unusedSimpArgs false
set_option linter.constructorNameAsVariable false
set_option linter.all false

namespace Go.Proofs.YtmegbepjdololaaDoor
open Go.RowKit Go.Sx Go.Lp
theorem wrU {x:Int} (h:0≤x∧x<18446744073709551616):IntKind.u64.wrap x=x:=by
 simp[IntKind.wrap,IntKind.signed,IntKind.bits]
 omega
theorem wrB {x:Int} (h:0≤x∧x<256):IntKind.u8.wrap x=x:=by
 simp[IntKind.wrap,IntKind.signed,IntKind.bits]
 omega
def put21 (b:A21) (k:Nat) (x:Int):A21:=
 (bif decide (k=0) then x else b.1,bif decide (k=1) then x else b.2.1,bif decide (k=2) then x else b.2.2.1,bif decide (k=3) then x else b.2.2.2.1,bif decide (k=4) then x else b.2.2.2.2.1,bif decide (k=5) then x else b.2.2.2.2.2.1,bif decide (k=6) then x else b.2.2.2.2.2.2.1,bif decide (k=7) then x else b.2.2.2.2.2.2.2.1,bif decide (k=8) then x else b.2.2.2.2.2.2.2.2.1,bif decide (k=9) then x else b.2.2.2.2.2.2.2.2.2.1,bif decide (k=10) then x else b.2.2.2.2.2.2.2.2.2.2.1,bif decide (k=11) then x else b.2.2.2.2.2.2.2.2.2.2.2.1,bif decide (k=12) then x else b.2.2.2.2.2.2.2.2.2.2.2.2.1,bif decide (k=13) then x else b.2.2.2.2.2.2.2.2.2.2.2.2.2.1,bif decide (k=14) then x else b.2.2.2.2.2.2.2.2.2.2.2.2.2.2.1,bif decide (k=15) then x else b.2.2.2.2.2.2.2.2.2.2.2.2.2.2.2.1,bif decide (k=16) then x else b.2.2.2.2.2.2.2.2.2.2.2.2.2.2.2.2.1,bif decide (k=17) then x else b.2.2.2.2.2.2.2.2.2.2.2.2.2.2.2.2.2.1,bif decide (k=18) then x else b.2.2.2.2.2.2.2.2.2.2.2.2.2.2.2.2.2.2.1,bif decide (k=19) then x else b.2.2.2.2.2.2.2.2.2.2.2.2.2.2.2.2.2.2.2.1,bif decide (k=20) then x else b.2.2.2.2.2.2.2.2.2.2.2.2.2.2.2.2.2.2.2.2)
def t21 (b:A21):List Int:=[b.1,b.2.1,b.2.2.1,b.2.2.2.1,b.2.2.2.2.1,b.2.2.2.2.2.1,b.2.2.2.2.2.2.1,b.2.2.2.2.2.2.2.1,b.2.2.2.2.2.2.2.2.1,b.2.2.2.2.2.2.2.2.2.1,b.2.2.2.2.2.2.2.2.2.2.1,b.2.2.2.2.2.2.2.2.2.2.2.1,b.2.2.2.2.2.2.2.2.2.2.2.2.1,b.2.2.2.2.2.2.2.2.2.2.2.2.2.1,b.2.2.2.2.2.2.2.2.2.2.2.2.2.2.1,b.2.2.2.2.2.2.2.2.2.2.2.2.2.2.2.1,b.2.2.2.2.2.2.2.2.2.2.2.2.2.2.2.2.1,b.2.2.2.2.2.2.2.2.2.2.2.2.2.2.2.2.2.1,b.2.2.2.2.2.2.2.2.2.2.2.2.2.2.2.2.2.2.1,b.2.2.2.2.2.2.2.2.2.2.2.2.2.2.2.2.2.2.2.1,b.2.2.2.2.2.2.2.2.2.2.2.2.2.2.2.2.2.2.2.2]
theorem t21_put (b:A21) (k:Nat) (x:Int) (h:k<21):t21 (put21 b k x)=(t21 b).set k x:=by
 match k with
 | 0=>rfl | 1=>rfl | 2=>rfl | 3=>rfl | 4=>rfl | 5=>rfl | 6=>rfl | 7=>rfl | 8=>rfl | 9=>rfl | 10=>rfl | 11=>rfl | 12=>rfl | 13=>rfl | 14=>rfl | 15=>rfl | 16=>rfl | 17=>rfl | 18=>rfl | 19=>rfl | 20=>rfl
 | k+21=>omega
theorem t21_drop (b:A21) (k:Nat) (x:Int) (h:k<21):(t21 (put21 b k x)).drop k=x :: (t21 b).drop (k+1):=by
 rw[t21_put b k x h]
 have hl:k<((t21 b).set k x).length:=by rw[List.length_set];exact h
 rw[List.drop_eq_getElem_cons hl,List.getElem_set_self,List.drop_set_of_lt (by omega)]
def nm_P (u i:Int):Prop:=(0≤u∧u<18446744073709551616)∧(1≤i∧i≤21)∧u<10 ^ i.toNat
abbrev nm_I (g:nm_G):List Prop:=[nm_P g.2.2.2 g.2.2.1]
abbrev nm_M (g:nm_G):Nat:=g.2.2.1.toNat
noncomputable abbrev nm_RR (g:nm_G):Ex×nm_G:=nm_R g.1 g.2.1 g.2.2.1 g.2.2.2
theorem nm_RF (b:A21) (i u:Int) (h:nm_P u i):nm_R () b i u=(if u / 10=0 then .exit 0 else .normal,(),put21 b (i - 1).toNat (48+u % 10),i - 1,u / 10):=by
 obtain ⟨⟨h1,h2⟩,⟨h3,h4⟩,_⟩:=h
 unfold nm_R
 rw[Int.tdiv_eq_ediv_of_nonneg h1,Int.tmod_eq_emod_of_nonneg h1,wrU (x:=u / 10) (by omega),wrU (x:=48+u % 10) (by omega),wrB (by omega),wr64 (by omega)]
 by_cases hz:u / 10=0
 ·rw[if_pos hz,hz];rfl
 ·rw[if_neg hz,beq_eq_false_iff_ne.2 hz];rfl
theorem pow_pred {u:Int} {i:Nat} (h:u<(10:Int) ^ (i+1)):u / 10<10 ^ i:=by
 have hp:(10:Int) ^ (i+1)=10 ^ i * 10:=Int.pow_succ ..
 omega
theorem nm_step {u i:Int} (h:nm_P u i) (hz:u / 10≠0):nm_P (u / 10) (i - 1):=by
 obtain ⟨⟨h1,h2⟩,⟨h3,h4⟩,h5⟩:=h
 obtain ⟨k,hk⟩:∃ k:Nat,i=k+1:=⟨(i - 1).toNat,by omega⟩
 subst hk
 have e1:((k:Int)+1).toNat=k+1:=by omega
 have e2:((k:Int)+1 - 1).toNat=k:=by omega
 rw[e1] at h5
 have h6:=pow_pred h5
 refine ⟨⟨by omega,by omega⟩,⟨?_,by omega⟩,by rw[e2];exact h6⟩
 rcases Nat.eq_zero_or_pos k with rfl | hk
 ·have:(10:Int) ^ 0=1:=rfl
  omega
 ·omega
theorem nm_goes:Goes nm_RR nm_M fun g=>allP (nm_I g):=by
 rintro ⟨⟨⟩,b,i,u⟩ hi hn
 have h:nm_P u i:=hi _ (List.mem_cons_self ..)
 have e:nm_RR ((),b,i,u)=_:=nm_RF b i u h
 rw[e] at hn ⊢
 have hz:u / 10≠0:=fun hz=>by
  simp only[hz,if_true] at hn;cases hn
 have h':=nm_step h hz
 refine ⟨fun p hp=>?_,?_⟩
 ·rw[List.mem_singleton.1 hp];exact h'
 ·show (i - 1).toNat<i.toNat
  have:=h.2.1
  omega
theorem nm_ok:∀ b∈loopsOf Tryd.prog 86,lkey b=6→LoopOk Tryd.prog b (nm_C nm_I nm_M).g:=by
 refine nm_loop nm_I nm_M (fun g hi=>?_) nm_goes
 obtain ⟨⟨⟩,b,i,u⟩:=g
 have h:nm_P u i:=hi _ (List.mem_cons_self ..)
 obtain ⟨⟨h1,h2⟩,⟨h3,h4⟩,_⟩:=h
 show nm_side () b i u
 unfold nm_side
 rw[wr64 (by omega)]
 exact ⟨by decide,⟨by omega,by omega⟩,by omega,by decide⟩
theorem nm_run (b:A21) (i u:Int) (h:nm_P u i):(loopF nm_RR nm_M ((),b,i,u)).1=.exit 0∧∃ i':Nat,(loopF nm_RR nm_M ((),b,i,u)).2.2.2.1=(i':Int)∧i'+(dgt i.toNat u).length=i.toNat∧(t21 (loopF nm_RR nm_M ((),b,i,u)).2.2.1).drop i'=dgt i.toNat u++(t21 b).drop i.toNat:=by
 have key:=loopF_induct nm_goes (Q:=fun g r=>r.1=.exit 0∧∃ i':Nat,r.2.2.2.1=(i':Int)∧i'+(dgt g.2.2.1.toNat g.2.2.2).length=g.2.2.1.toNat∧(t21 r.2.2.1).drop i'=dgt g.2.2.1.toNat g.2.2.2++(t21 g.2.1).drop g.2.2.1.toNat) ?_ ?_ ((),b,i,u) (fun p hp=>by rw[List.mem_singleton.1 hp];exact h)
 ·exact key
 ·rintro ⟨⟨⟩,b,i,u⟩ hi hn
  have h:nm_P u i:=hi _ (List.mem_cons_self ..)
  have e:nm_RR ((),b,i,u)=_:=nm_RF b i u h
  rw[e] at hn ⊢
  obtain ⟨k,hk⟩:∃ k:Nat,i=k+1:=⟨(i - 1).toNat,by have:=h.2.1;omega⟩
  subst hk
  have e1:((k:Int)+1).toNat=k+1:=by omega
  have e2:((k:Int)+1 - 1).toNat=k:=by omega
  by_cases hz:u / 10=0
  ·simp only[hz,if_true,e1,e2]
   refine ⟨trivial,k,by omega,?_,?_⟩
   ·unfold dgt;rw[if_pos hz];rfl
   ·rw[t21_drop _ _ _ (by have:=h.2.1;omega)]
    unfold dgt;rw[if_pos hz];rfl
  ·simp only[hz,if_false] at hn
   exact absurd rfl hn
 ·rintro ⟨⟨⟩,b,i,u⟩ g' r hi he _ _ hq
  have h:nm_P u i:=hi _ (List.mem_cons_self ..)
  have e:nm_RR ((),b,i,u)=_:=nm_RF b i u h
  rw[e] at he
  obtain ⟨k,hk⟩:∃ k:Nat,i=k+1:=⟨(i - 1).toNat,by have:=h.2.1;omega⟩
  subst hk
  have e1:((k:Int)+1).toNat=k+1:=by omega
  have e2:((k:Int)+1 - 1).toNat=k:=by omega
  by_cases hz:u / 10=0
  ·simp only[hz,if_true,Prod.mk.injEq] at he
   cases he.1
  ·simp only[hz,if_false,Prod.mk.injEq,true_and] at he
   subst he
   simp only[e1,e2] at hq ⊢
   obtain ⟨q1,i',q2,q3,q4⟩:=hq
   refine ⟨q1,i',q2,?_,?_⟩
   ·conv=>lhs;unfold dgt
    rw[if_neg hz,List.length_append]
    simp only[List.length_cons,List.length_nil]
    omega
   ·rw[q4,t21_drop _ _ _ (by have:=h.2.1;omega)]
    conv=>rhs;unfold dgt
    rw[if_neg hz,List.append_assoc]
    rfl
def nd_P (u:Int) (s:BA):Prop:=(0≤u∧u<18446744073709551616)∧∃ j:Nat,1≤j∧u<10 ^ j∧s.size+j≤20
abbrev nd_I (g:nd_G):List Prop:=[nd_P g.1 g.2]
abbrev nd_M (g:nd_G):Nat:=g.1.toNat
noncomputable abbrev nd_RR (g:nd_G):Ex×nd_G:=nd_R g.1 g.2
theorem dgi {u:Int} (h1:0≤u) (h2:u<18446744073709551616):(ByteArray.mk #[(48:UInt8),(49:UInt8),(50:UInt8),(51:UInt8),(52:UInt8),(53:UInt8),(54:UInt8),(55:UInt8),(56:UInt8),(57:UInt8),(97:UInt8),(98:UInt8),(99:UInt8),(100:UInt8),(101:UInt8),(102:UInt8)]).extract (u.tmod (10:Int)).toNat (IntKind.u64.wrap (u.tmod (10:Int)+(1:Int))).toNat=strOf [48+u % 10]:=by
 rw[Int.tmod_eq_emod_of_nonneg h1,wrU (by omega)]
 obtain ⟨k,hk⟩:∃ k:Nat,u % 10=k:=⟨(u % 10).toNat,by omega⟩
 rw[hk]
 have:=dg16 k (by omega)
 rw[show ((k:Int)).toNat=k from rfl,show ((k:Int)+1).toNat=k+1 by omega,this]
 unfold hexD
 rw[if_pos (by omega)]
theorem nd_RF (u:Int) (s:BA) (h:nd_P u s):nd_R u s=(if u / 10=0 then .exit 0 else .normal,u / 10,strOf [48+u % 10]++s):=by
 obtain ⟨⟨h1,h2⟩,_⟩:=h
 unfold nd_R
 rw[dgi h1 h2,Int.tdiv_eq_ediv_of_nonneg h1,wrU (x:=u / 10) (by omega)]
 by_cases hz:u / 10=0
 ·rw[if_pos hz,hz];rfl
 ·rw[if_neg hz,beq_eq_false_iff_ne.2 hz];rfl
theorem nd_goes:Goes nd_RR nd_M fun g=>allP (nd_I g):=by
 rintro ⟨u,s⟩ hi hn
 have h:nd_P u s:=hi _ (List.mem_cons_self ..)
 have e:nd_RR (u,s)=_:=nd_RF u s h
 rw[e] at hn ⊢
 have hz:u / 10≠0:=fun hz=>by
  simp only[hz,if_true] at hn;cases hn
 obtain ⟨⟨h1,h2⟩,j,h3,h4,h5⟩:=h
 refine ⟨fun p hp=>?_,?_⟩
 ·rw[List.mem_singleton.1 hp]
  obtain ⟨i,rfl⟩:∃ i,j=i+1:=⟨j - 1,by omega⟩
  have h6:=pow_pred h4
  refine ⟨⟨by show 0≤u / 10;omega,by show u / 10<_;omega⟩,i,?_,h6,?_⟩
  ·rcases Nat.eq_zero_or_pos i with rfl | hk
   ·have:(10:Int) ^ 0=1:=rfl
    omega
   ·omega
  ·show (strOf [48+u % 10]++s).size+i≤20
   rw[ByteArray.size_append,strOf_size]
   simp only[List.length_cons,List.length_nil]
   omega
 ·show (u / 10).toNat<u.toNat
  omega
theorem nd_ok:∀ b∈loopsOf Tryd.prog 87,lkey b=5→LoopOk Tryd.prog b (nd_C nd_I nd_M).g:=by
 refine nd_loop nd_I nd_M (fun g hi=>?_) nd_goes
 obtain ⟨u,s⟩:=g
 have h:nd_P u s:=hi _ (List.mem_cons_self ..)
 obtain ⟨⟨h1,h2⟩,j,h3,h4,h5⟩:=h
 show nd_side u s
 unfold nd_side
 rw[dgi h1 h2,Int.tmod_eq_emod_of_nonneg h1,wrU (by omega),strOf_size]
 simp only[List.length_cons,List.length_nil]
 refine ⟨by decide,⟨by omega,by omega⟩,⟨by omega,by omega⟩,by omega,by decide⟩
theorem nd_run (u:Int) (h1:0≤u) (h2:u<10000000000000000000) (l:List Int) (h3:l.length=0):(loopF nd_RR nd_M (u,strOf l)).1=.exit 0∧(loopF nd_RR nd_M (u,strOf l)).2.2=strOf (dgt 20 u++l):=by
 have hP:nd_P u (strOf l):=⟨⟨h1,by omega⟩,20,by decide,by
  have:(10:Int) ^ 20=100000000000000000000:=by decide
  omega,by
  rw[strOf_size];omega⟩
 have key:=loopF_induct nd_goes (Q:=fun g r=>r.1=.exit 0∧∀ k,g.1<10 ^ k→r.2.2=strOf (dgt (k+1) g.1)++g.2) ?_ ?_ (u,strOf l) (fun p hp=>by rw[List.mem_singleton.1 hp];exact hP)
 ·refine ⟨key.1,?_⟩
  have h19:(10:Int) ^ 19=10000000000000000000:=by decide
  rw[key.2 19 (by rw[h19];exact h2)]
  exact strOf_app _ _
 ·rintro ⟨u,s⟩ hi hn
  have h:nd_P u s:=hi _ (List.mem_cons_self ..)
  have e:nd_RR (u,s)=_:=nd_RF u s h
  rw[e] at hn ⊢
  by_cases hz:u / 10=0
  ·simp only[hz,if_true]
   refine ⟨trivial,fun k _=>?_⟩
   unfold dgt;rw[if_pos hz];rfl
  ·simp only[hz,if_false] at hn
   exact absurd rfl hn
 ·rintro ⟨u,s⟩ g' r hi he _ _ hq
  have h:nd_P u s:=hi _ (List.mem_cons_self ..)
  have e:nd_RR (u,s)=_:=nd_RF u s h
  rw[e] at he
  by_cases hz:u / 10=0
  ·simp only[hz,if_true,Prod.mk.injEq] at he
   cases he.1
  ·simp only[hz,if_false,Prod.mk.injEq,true_and] at he
   subst he
   refine ⟨hq.1,fun k hk=>?_⟩
   have hk':u<(10:Int) ^ k:=hk
   obtain ⟨j,rfl⟩:∃ j,k=j+1:=⟨k - 1,by
    rcases Nat.eq_zero_or_pos k with rfl | h0
    ·have:(10:Int) ^ 0=1:=rfl
     have:=h.1.1
     omega
    ·omega⟩
   have hq2:=hq.2 j (pow_pred hk')
   rw[hq2]
   show strOf (dgt (j+1) (u / 10))++(strOf [48+u % 10]++s)=strOf (dgt (j+1+1) u)++s
   conv=>rhs;unfold dgt
   rw[if_neg hz,← strOf_app,ByteArray.append_assoc]
noncomputable def ltN4:LTab Tryd.prog:=(LTab.nil.cons 86 6 (nm_C nm_I nm_M) nm_ok).cons 87 5 (nd_C nd_I nd_M) nd_ok
noncomputable abbrev lamN4:Lam:=ltN4.lam
theorem lamN4_ok:∀ f k L,lamN4 f k=some L→∀ b∈loopsOf Tryd.prog f,lkey b=k→LoopOk Tryd.prog b L.g:=ltN4.ok
end Go.Proofs.YtmegbepjdololaaDoor

namespace Go.Proofs.YtmegbepjdololaaDoor
open Go.RowKit Go.Sx
set_option maxRecDepth 100000
set_option linter.unusedVariables false
noncomputable def nuB_q1 (n:Int):Ex ×
 nd_G:=
 loopF (fun g=>nd_R g.fst g.snd) nd_M (bif decide (n<(0:Int)) then IntKind.u64.wrap ((0:Int) - IntKind.u64.wrap n) else IntKind.u64.wrap n,ByteArray.mk #[])
noncomputable def nuB_F (n:Int):Dv.T dStr:=
 bif decide (n<(0:Int)) then ByteArray.mk #[(45:UInt8)]++(nuB_q1 n).snd.snd else (nuB_q1 n).snd.snd
def nuB_side (n:Int):Prop:=
 nd_P (bif decide (n<(0:Int)) then IntKind.u64.wrap ((0:Int) - IntKind.u64.wrap n) else IntKind.u64.wrap n) (ByteArray.mk #[])∧(decide (n<(0:Int))=true→(1:Nat)+ByteArray.size (nuB_q1 n).snd.snd≤(9223372036854775807:Nat))
theorem nuB_okS (pre:DA.T aI→List Prop) (h:∀ g,DA.bd aI g→(∀ p∈pre g,p)→nuB_side g):FnPure Tryd.prog 87 aI dStr (fun g=>nuB_F g) pre:=pure_of_sideS (Γ:=(PTab.gamz tabA3 [] [])) (Λ:=lamN4) (PTab.okz tabA3 [] []) lamN4_ok 100 default (fun g=>nuB_side g) (fun g=>by kernel_rfl) (fun g=>by kernel_rfl) h
end Go.Proofs.YtmegbepjdololaaDoor

namespace Go.Proofs.YtmegbepjdololaaDoor
open Go.RowKit Go.Sx Go.Lp
set_option maxRecDepth 100000
abbrev z21:A21:=((0:Int),(0:Int),(0:Int),(0:Int),(0:Int),(0:Int),(0:Int),(0:Int),(0:Int),(0:Int),(0:Int),(0:Int),(0:Int),(0:Int),(0:Int),(0:Int),(0:Int),(0:Int),(0:Int),(0:Int),(0:Int))
noncomputable def nuA_q1 (n:Int):Ex×nm_G:=
 loopF (fun g=>nm_R g.fst g.snd.fst g.snd.snd.fst g.snd.snd.snd) nm_M
  ((),z21,
    (21:Int),bif decide (n<(0:Int)) then IntKind.u64.wrap ((0:Int) - IntKind.u64.wrap n) else IntKind.u64.wrap n)
def zipC (z:Bool):List Int→List Int→List Int
 | x :: xs,y :: ys=>(bif z then x else y) :: zipC z xs ys
 | _,_=>[]
theorem zipC_eq (z:Bool):∀ {a b:List Int},a.length=b.length→zipC z a b=bif z then a else b
 | [],[],_=>by cases z <;> rfl
 | x :: a,y :: b,h=>by
  unfold zipC
  rw[zipC_eq z (by simpa using h)]
  cases z <;> rfl
 | [],_ :: _,h=>by simp at h
 | _ :: _,[],h=>by simp at h
def pickF (i:Int) (cs:List Int):Nat→BA
 | 0=>default
 | k+1=>bif decide (i=(k:Int)) then strOf (cs.drop k) else pickF i cs k
def pickS (i:Int):Nat→Prop
 | 0=>False
 | k+1=>(decide (i=(k:Int))=true→True)∧(decide (i=(k:Int))=false→pickS i k)
theorem pick_at (i:Nat) (cs:List Int):∀ k,i<k→pickF (i:Int) cs k=strOf (cs.drop i)∧pickS (i:Int) k
 | 0,h=>by omega
 | k+1,h=>by
  unfold pickF pickS
  by_cases he:i=k
  ·subst he
   rw[decide_eq_true rfl]
   exact ⟨rfl,⟨fun _=>trivial,fun h=>(by cases h)⟩⟩
  ·rw[decide_eq_false (by omega)]
   obtain ⟨h1,h2⟩:=pick_at i cs k (by omega)
   exact ⟨h1,⟨fun _=>trivial,fun _=>h2⟩⟩
noncomputable def nuA_F (n:Int):Dv.T dStr:=
 pickF (bif decide (n<(0:Int)) then IntKind.i64.wrap ((nuA_q1 n).snd.snd.snd.fst - (1:Int)) else (nuA_q1 n).snd.snd.snd.fst)
  (zipC (decide (n<(0:Int))) (t21 (put21 (nuA_q1 n).snd.snd.fst (IntKind.i64.wrap ((nuA_q1 n).snd.snd.snd.fst - (1:Int))).toNat (45:Int))) (t21 (nuA_q1 n).snd.snd.fst)) 22
def nuA_side (n:Int):Prop:=
 nm_P (bif decide (n<(0:Int)) then IntKind.u64.wrap ((0:Int) - IntKind.u64.wrap n) else IntKind.u64.wrap n) (21:Int) ∧
  (decide (n<(0:Int))=true→(0:Int)≤IntKind.i64.wrap ((nuA_q1 n).snd.snd.snd.fst - (1:Int))∧IntKind.i64.wrap ((nuA_q1 n).snd.snd.snd.fst - (1:Int))<(21:Int)) ∧
   (decide (n<(0:Int))=true→(IntKind.i64.wrap ((nuA_q1 n).snd.snd.snd.fst - (1:Int))).toNat<(21:Nat)) ∧
    pickS (bif decide (n<(0:Int)) then IntKind.i64.wrap ((nuA_q1 n).snd.snd.snd.fst - (1:Int)) else (nuA_q1 n).snd.snd.snd.fst) 22
theorem nuA_okS (pre:DA.T aI→List Prop) (h:∀ g,DA.bd aI g→(∀ p∈pre g,p)→nuA_side g):FnPure Tryd.prog 86 aI dStr (fun g=>nuA_F g) pre:=pure_of_sideS (Γ:=(PTab.gamz tabA3 [] [])) (Λ:=lamN4) (PTab.okz tabA3 [] []) lamN4_ok 100 default (fun g=>nuA_side g) (fun g=>by kernel_rfl) (fun g=>by kernel_rfl) h
def i64 (n:Int):Prop:=-9223372036854775808≤n∧n≤9223372036854775807
def numS (n:Int):BA:=strOf (numL n)
def absI (n:Int):Int:=if n<0 then -n else n
theorem abs_u {n:Int} (h:i64 n):(bif decide (n<(0:Int)) then IntKind.u64.wrap ((0:Int) - IntKind.u64.wrap n) else IntKind.u64.wrap n)=absI n:=by
 obtain ⟨h1,h2⟩:=h
 unfold absI
 by_cases hn:n<0
 ·rw[decide_eq_true hn,if_pos hn,cond_true]
  simp[IntKind.wrap,IntKind.signed,IntKind.bits]
  omega
 ·rw[decide_eq_false hn,if_neg hn,cond_false]
  exact wrU (by omega)
theorem p10_19:(10:Int) ^ 19=10000000000000000000:=by decide
theorem p10_21:(10:Int) ^ 21=1000000000000000000000:=by decide
theorem abs_b {n:Int} (h:i64 n):0≤absI n∧absI n≤9223372036854775808:=by
 obtain ⟨h1,h2⟩:=h
 unfold absI
 split <;> omega
theorem nuA_eq {n:Int} (h:i64 n):nuA_side n∧nuA_F n=numS n:=by
 have hu:=abs_u h
 obtain ⟨hb1,hb2⟩:=abs_b h
 have hP:nm_P (absI n) 21:=⟨⟨hb1,by omega⟩,⟨by decide,by decide⟩,by show absI n<10 ^ 21;rw[p10_21];omega⟩
 have hq:nuA_q1 n=loopF nm_RR nm_M ((),z21,21,absI n):=by
  unfold nuA_q1
  rw[hu]
 obtain ⟨_,i',h2,h3,h4⟩:=nm_run z21 _ _ hP
 rw[← hq] at h2 h4
 have e21:(21:Int).toNat=21:=rfl
 rw[e21] at h3 h4
 have hd:dgt 21 (absI n)=dgt 20 (absI n):=dgt_more 19 1 (absI n) hb1 (by rw[p10_19];omega)
 have hl1:=dgt_len 20 19 (absI n) hb1 (by rw[p10_19];omega) (by decide)
 have hl2:=dgt_pos 19 (absI n)
 rw[hd] at h3 h4
 have h4:(t21 (nuA_q1 n).2.2.1).drop i'=dgt 20 (absI n):=by
  rw[h4]
  show _++[]=_
  rw[List.append_nil]
 have hlen:(t21 (put21 (nuA_q1 n).2.2.1 (IntKind.i64.wrap ((nuA_q1 n).2.2.2.1 - 1)).toNat 45)).length=(t21 (nuA_q1 n).2.2.1).length:=rfl
 unfold nuA_side nuA_F numS numL
 rw[hu,zipC_eq _ hlen,h2]
 have hw:IntKind.i64.wrap ((i':Int) - 1)=(i':Int) - 1:=wr64 (by omega)
 rw[hw]
 by_cases hn:n<0
 ·rw[decide_eq_true hn,if_pos hn]
  simp only[cond_true,forall_const]
  obtain ⟨k,rfl⟩:∃ k,i'=k+1:=⟨i' - 1,by omega⟩
  have e1:((k+1:Nat):Int) - 1=(k:Int):=by omega
  rw[e1]
  have e2:(k:Int).toNat=k:=rfl
  rw[e2]
  obtain ⟨p1,p2⟩:=pick_at k (t21 (put21 (nuA_q1 n).2.2.1 k 45)) 22 (by omega)
  refine ⟨⟨hP,⟨by omega,by omega⟩,by omega,p2⟩,?_⟩
  rw[p1,t21_drop _ _ _ (by omega),h4]
  have ea:absI n=-n:=by unfold absI;rw[if_pos hn]
  rw[ea,if_pos hn];rfl
 ·rw[decide_eq_false hn,if_neg hn]
  simp only[cond_false]
  obtain ⟨p1,p2⟩:=pick_at i' (t21 (nuA_q1 n).2.2.1) 22 (by omega)
  refine ⟨⟨hP,fun h=>(by cases h),fun h=>(by cases h),p2⟩,?_⟩
  rw[p1,h4]
  have ea:absI n=n:=by unfold absI;rw[if_neg hn]
  rw[ea,if_neg hn];rfl
theorem nuA_ok:FnPure Tryd.prog 86 aI dStr numS (fun n=>[i64 n]):=
 pure_congr (nuA_okS _ fun n _ hp=>(nuA_eq (hp _ (List.mem_cons_self ..))).1) fun n _ hp=>(nuA_eq (hp _ (List.mem_cons_self ..))).2
theorem nuB_eq {n:Int} (h:i64 n):nuB_side n∧nuB_F n=numS n:=by
 have hu:=abs_u h
 obtain ⟨hb1,hb2⟩:=abs_b h
 obtain ⟨h1,h2⟩:=nd_run (absI n) hb1 (by omega) [] rfl
 have h0:strOf []=ByteArray.mk #[]:=rfl
 have hq:nuB_q1 n=loopF nd_RR nd_M (absI n,strOf []):=by
  unfold nuB_q1
  rw[hu];rfl
 rw[← hq,List.append_nil] at h2
 have hl1:=dgt_len 20 19 (absI n) hb1 (by rw[p10_19];omega) (by decide)
 unfold nuB_side nuB_F numS numL
 rw[hu,h2,strOf_size]
 refine ⟨⟨⟨⟨hb1,by omega⟩,20,by decide,by have:(10:Int) ^ 20=100000000000000000000:=(by decide);omega,by decide⟩,fun _=>by omega⟩,?_⟩
 by_cases hn:n<0
 ·rw[decide_eq_true hn,if_pos hn,if_pos hn]
  have ea:absI n=-n:=by unfold absI;rw[if_pos hn]
  rw[ea,cond_true]
  exact strOf_cons 45 _
 ·rw[decide_eq_false hn,if_neg hn,if_neg hn]
  have ea:absI n=n:=by unfold absI;rw[if_neg hn]
  rw[ea];rfl
theorem nuB_ok:FnPure Tryd.prog 87 aI dStr numS (fun n=>[i64 n]):=
 pure_congr (nuB_okS _ fun n _ hp=>(nuB_eq (hp _ (List.mem_cons_self ..))).1) fun n _ hp=>(nuB_eq (hp _ (List.mem_cons_self ..))).2
end Go.Proofs.YtmegbepjdololaaDoor

namespace Go.Proofs.YtmegbepjdololaaDoor
open Go.RowKit Go.Sx Go.Lp
set_option maxRecDepth 100000
theorem escQ (v:Int):(decide (v > 32)&&(decide (v<127)&&v != 37))=escP v:=by
 unfold escP
 rw[Bool.eq_iff_iff]
 simp only[Bool.and_eq_true,decide_eq_true_eq,bne_iff_ne,ne_eq,Bool.not_eq_true',decide_eq_false_iff_not]
 omega
theorem escR (v:Int):(decide (v≥33)&&(decide (v≤126)&&v != 37))=escP v:=by
 unfold escP
 rw[Bool.eq_iff_iff]
 simp only[Bool.and_eq_true,decide_eq_true_eq,bne_iff_ne,ne_eq,Bool.not_eq_true',decide_eq_false_iff_not]
theorem hxS {v:Int} (h0:0≤v) (h1:v≤255):(bts HEX).getD (iShr .u8 v 4).toNat 0=hexD (v / 16)∧0≤iShr .u8 v 4∧iShr .u8 v 4<16:=by
 obtain ⟨k,rfl⟩:∃ k:Nat,v=k:=⟨v.toNat,by omega⟩
 exact ⟨by rw[← bts_get];exact hx_shr k (by omega),hx_shrR k (by omega)⟩
theorem hxA {v:Int} (h0:0≤v) (h1:v≤255):(bts HEX).getD (iAnd .u8 v 15).toNat 0=hexD (v % 16)∧0≤iAnd .u8 v 15∧iAnd .u8 v 15<16:=by
 obtain ⟨k,rfl⟩:∃ k:Nat,v=k:=⟨v.toNat,by omega⟩
 exact ⟨by rw[← bts_get];exact hx_and k (by omega),hx_andR k (by omega)⟩
abbrev tx_xs (c:tx_GC):List Int:=bts c.1.text
abbrev tx_lim (c:tx_GC):Int:=c.2
def tx_S (_:tx_GC) (b:tx_GB) (_:Int) (v:Int):Ex×tx_GB:=(.normal,((),b.2++esc1 v))
def tx_K (c:tx_GC) (b:tx_GB) (i:Int):Prop:=c.1.text.size≤64∧(b.2.length:Int)≤64+3 * i
abbrev tx_I (g:tx_G):List Prop:=ixI tx_lim tx_xs tx_K (tx_f g)
abbrev tx_M (g:tx_G):Nat:=ixM tx_lim (tx_f g)
theorem tx_P:ixP tx_S tx_xs tx_K:=fun c b i a h _ _=>⟨h.1,by
 have:=h.2
 have hl:=(esc1_len a).2
 show ((b.2++esc1 a).length:Int)≤_
 rw[List.length_append]
 omega⟩
noncomputable abbrev tx_RR (g:tx_G):Ex×tx_G:=tx_R g.1 g.2.1 g.2.2.1 g.2.2.2.1 g.2.2.2.2
theorem tx_app1 (b:List Int) (v:Int):e8u.lst (min (b.length+1) b.length) (e8u.els b)++List.map (fun _=>v) (List.range (b.length+1 - b.length))=b++[v]:=by
 rw[Nat.min_eq_right (Nat.le_add_right _ _),Nat.add_sub_cancel_left,e8u.lst_els];rfl
theorem tx_RF (d:Int×tx_GC×tx_GB) (hi:allP (ixI tx_lim tx_xs tx_K d)):tx_RR (tx_g d)=((ixF 0 tx_lim tx_xs 0 tx_S d).1,tx_g (ixF 0 tx_lim tx_xs 0 tx_S d).2):=by
 obtain ⟨i,⟨r,n⟩,⟨⟨⟩,b⟩⟩:=d
 show tx_R () r n i b=_
 unfold tx_R ixF tx_S
 simp only[bts_get,tx_lim,tx_xs,El.ag_eq]
 have hv:=bts_getD r.text i.toNat
 generalize (bts r.text).getD i.toNat 0=v at hv
 cases decide (i<n) with
 | false=>rfl
 | true=>
  simp only[cond_true,escQ,esc1]
  cases escP v with
  | true=>
   simp only[cond_true,if_true]
   rw[tx_app1];rfl
  | false=>
   simp only[cond_false]
   have h1:=(hxS hv.1 hv.2).1
   have h2:=(hxA hv.1 hv.2).1
   rw[h1,h2,Nat.min_eq_right (Nat.le_add_right _ _),Nat.add_sub_cancel_left,e8u.lst_els]
   rfl
theorem tx_ok:∀ b∈loopsOf Tryd.prog 43,lkey b=5→LoopOk Tryd.prog b (tx_C tx_I tx_M).g:=by
 refine tx_loop tx_I tx_M (fun g hi=>?_) (ix_conj_goes (fun _=>rfl) (fun _=>rfl) tx_RF tx_P)
 obtain ⟨⟨⟩,r,n,i,b⟩:=g
 obtain ⟨h1,h2,h3,h4,h5,h6⟩:=hi _ (List.mem_cons_self ..)
 have h1:n=((bts r.text).length:Int):=h1
 have h3:0≤i:=h3
 have h5:r.text.size≤64:=h5
 have h6:(b.length:Int)≤64+3 * i:=h6
 rw[bts_len] at h1
 have hb:Tryd.prog.types[(5:Nat)].bytes=1:=by kernel_rfl
 show tx_side () r n i b
 unfold tx_side
 simp only[bts_get,El.okL_eq,El.ag_eq,decide_eq_true_eq,hb]
 have hv:=bts_getD r.text i.toNat
 generalize (bts r.text).getD i.toNat 0=v at hv
 have h7:=(hxS hv.1 hv.2).2
 have h8:=(hxA hv.1 hv.2).2
 unfold maxLen
 repeat' (first | apply And.intro | intro _)
 all_goals first | trivial | omega
abbrev rt_xs (c:rt_GC):List Int:=bts c.text
abbrev rt_lim (c:rt_GC):Int:=(c.text.size:Int)
def rt_S (_:rt_GC) (b:rt_GB) (_:Int) (v:Int):Ex×rt_GB:=(.normal,((),b.2++strOf (esc1 v)))
def rt_K (c:rt_GC) (b:rt_GB) (i:Int):Prop:=c.text.size≤64∧(b.2.size:Int)≤64+3 * i
abbrev rt_I (g:rt_G):List Prop:=ixI rt_lim rt_xs rt_K (rt_f g)
abbrev rt_M (g:rt_G):Nat:=ixM rt_lim (rt_f g)
theorem rt_P:ixP rt_S rt_xs rt_K:=fun c b i a h _ _=>⟨h.1,by
 have:=h.2
 have hl:=(esc1_len a).2
 show ((b.2++strOf (esc1 a)).size:Int)≤_
 rw[ByteArray.size_append,strOf_size]
 omega⟩
noncomputable abbrev rt_RR (g:rt_G):Ex×rt_G:=rt_R g.1 g.2.1 g.2.2.1 g.2.2.2
theorem s37:ByteArray.mk #[(37:UInt8)]=strOf [37]:=rfl
theorem dgD {v:Int} (h0:0≤v) (h1:v≤255):HEX.extract (IntKind.u8.wrap (v.tdiv 16)).toNat (IntKind.u8.wrap (IntKind.u8.wrap (v.tdiv 16)+1)).toNat=strOf [hexD (v / 16)]:=by
 rw[Int.tdiv_eq_ediv_of_nonneg h0,wrB (x:=v / 16) (by omega),wrB (by omega),dgx (by omega) (by omega)]
theorem dgM {v:Int} (h0:0≤v) (h1:v≤255):HEX.extract (v.tmod 16).toNat (IntKind.u8.wrap (v.tmod 16+1)).toNat=strOf [hexD (v % 16)]:=by
 rw[Int.tmod_eq_emod_of_nonneg h0,wrB (by omega),dgx (by omega) (by omega)]
theorem rt_RF (d:Int×rt_GC×rt_GB) (hi:allP (ixI rt_lim rt_xs rt_K d)):rt_RR (rt_g d)=((ixF 0 rt_lim rt_xs 0 rt_S d).1,rt_g (ixF 0 rt_lim rt_xs 0 rt_S d).2):=by
 obtain ⟨i,r,⟨⟨⟩,b⟩⟩:=d
 obtain ⟨_,_,h3,_,h5,_⟩:=hi _ (List.mem_cons_self ..)
 have h3:0≤i:=h3
 have h5:r.text.size≤64:=h5
 show rt_R () r i b=_
 unfold rt_R ixF rt_S
 simp only[bts_get,rt_lim,rt_xs]
 have hx:i<(r.text.size:Int)→r.text.extract i.toNat (IntKind.i64.wrap (i+1)).toNat=strOf [(bts r.text).getD i.toNat 0]:=fun hlt=>by
  rw[wr64 (by omega),show (i+1).toNat=i.toNat+1 by omega]
  exact ext_one _ _ (by omega)
 have hv:=bts_getD r.text i.toNat
 generalize (bts r.text).getD i.toNat 0=v at hv hx
 by_cases hlt:i<(r.text.size:Int)
 ·rw[decide_eq_true hlt,hx hlt]
  simp only[cond_true,escR,esc1]
  rw[dgD hv.1 hv.2,dgM hv.1 hv.2,s37,strOf_app,strOf_app]
  cases escP v <;> rfl
 ·rw[decide_eq_false hlt];rfl
theorem rt_ok:∀ b∈loopsOf Tryd.prog 44,lkey b=5→LoopOk Tryd.prog b (rt_C rt_I rt_M).g:=by
 refine rt_loop rt_I rt_M (fun g hi=>?_) (ix_conj_goes (fun _=>rfl) (fun _=>rfl) rt_RF rt_P)
 obtain ⟨⟨⟩,r,i,b⟩:=g
 obtain ⟨h1,h2,h3,h4,h5,h6⟩:=hi _ (List.mem_cons_self ..)
 have h3:0≤i:=h3
 have h5:r.text.size≤64:=h5
 have h6:(b.size:Int)≤64+3 * i:=h6
 show rt_side () r i b
 unfold rt_side
 intro hlt
 have hlt:=of_decide_eq_true hlt
 have hx:r.text.extract i.toNat (IntKind.i64.wrap (i+1)).toNat=strOf [(bts r.text).getD i.toNat 0]:=by
  rw[wr64 (by omega),show (i+1).toNat=i.toNat+1 by omega]
  exact ext_one _ _ (by omega)
 rw[hx]
 simp only[bts_get]
 have hv:=bts_getD r.text i.toNat
 generalize (bts r.text).getD i.toNat 0=v at hv
 have e1:=dgD hv.1 hv.2
 have e2:=dgM hv.1 hv.2
 rw[e1,e2,s37,strOf_app,strOf_app,Int.tdiv_eq_ediv_of_nonneg hv.1,Int.tmod_eq_emod_of_nonneg hv.1,wrB (x:=v / 16) (by omega),wrB (x:=v / 16+1) (by omega),wrB (x:=v % 16+1) (by omega),wr64 (by omega)]
 simp only[strOf_size,List.length_cons,List.length_nil,List.length_append]
 repeat' (first | apply And.intro | intro _)
 all_goals first | trivial | omega
abbrev pa_xs (c:pa_GC):List Int:=bts c.1
abbrev pa_lim (c:pa_GC):Int:=c.2
def dstep (u v:Int):Int:=IntKind.u64.wrap (IntKind.u64.wrap (10 * u)+IntKind.u64.wrap (IntKind.u8.wrap (v - 48)))
def pa_S (_:pa_GC) (b:pa_GB) (i:Int) (v:Int):Ex×pa_GB:=bif decide (v<48)||(decide (v > 57)||decide (i > 18)) then (.ret,(b.1,0,false)) else (.normal,(dstep b.1 v,b.2))
def pa_K (_:pa_GC) (_:pa_GB) (_:Int):Prop:=True
abbrev pa_I (g:pa_G):List Prop:=ixI pa_lim pa_xs pa_K (pa_f g)
abbrev pa_M (g:pa_G):Nat:=ixM pa_lim (pa_f g)
theorem pa_P:ixP pa_S pa_xs pa_K:=fun _ _ _ _ _ _ _=>trivial
noncomputable abbrev pa_RR (g:pa_G):Ex×pa_G:=pa_R g.1 g.2.1 g.2.2.1 g.2.2.2.1 g.2.2.2.2.1 g.2.2.2.2.2
theorem pa_RF (d:Int×pa_GC×pa_GB) (_:allP (ixI pa_lim pa_xs pa_K d)):pa_RR (pa_g d)=((ixF 0 pa_lim pa_xs 0 pa_S d).1,pa_g (ixF 0 pa_lim pa_xs 0 pa_S d).2):=by
 obtain ⟨i,⟨s,n⟩,⟨u,r,o⟩⟩:=d
 show pa_R s n i u r o=_
 unfold pa_R ixF pa_S
 simp only[bts_get,pa_lim,pa_xs]
 generalize (bts s).getD i.toNat 0=v
 cases decide (i<n) with
 | false=>rfl
 | true=>
  simp only[cond_true]
  cases decide (v<48)||(decide (v > 57)||decide (i > 18)) <;> rfl
theorem pa_ok:∀ b∈loopsOf Tryd.prog 82,lkey b=4→LoopOk Tryd.prog b (pa_C pa_I pa_M).g:=by
 refine pa_loop pa_I pa_M (fun g hi=>?_) (ix_conj_goes (fun _=>rfl) (fun _=>rfl) pa_RF pa_P)
 obtain ⟨s,n,i,u,r,o⟩:=g
 obtain ⟨h1,h2,h3,h4,h5⟩:=hi _ (List.mem_cons_self ..)
 have h1:n=((bts s).length:Int):=h1
 have h3:0≤i:=h3
 rw[bts_len] at h1
 show pa_side s n i u r o
 unfold pa_side
 intro hlt
 have hlt:=of_decide_eq_true hlt
 exact ⟨⟨h3,by omega⟩,fun _=>⟨h3,by omega⟩,fun _=>⟨h3,by omega⟩⟩
abbrev pn_xs (c:pn_GC):List Int:=bts c
abbrev pn_lim (c:pn_GC):Int:=(c.size:Int)
def pn_S (_:pn_GC) (b:pn_GB) (_:Int) (v:Int):Ex×pn_GB:=bif decide (v<48)||decide (v > 57) then (.ret,(b.1,0,false)) else (.normal,(dstep b.1 v,b.2))
def pn_K (_:pn_GC) (_:pn_GB) (_:Int):Prop:=True
abbrev pn_I (g:pn_G):List Prop:=ixI pn_lim pn_xs pn_K (pn_f g)
abbrev pn_M (g:pn_G):Nat:=ixM pn_lim (pn_f g)
theorem pn_P:ixP pn_S pn_xs pn_K:=fun _ _ _ _ _ _ _=>trivial
noncomputable abbrev pn_RR (g:pn_G):Ex×pn_G:=pn_R g.1 g.2.1 g.2.2.1 g.2.2.2.1 g.2.2.2.2
theorem pn_RF (d:Int×pn_GC×pn_GB) (_:allP (ixI pn_lim pn_xs pn_K d)):pn_RR (pn_g d)=((ixF 0 pn_lim pn_xs 0 pn_S d).1,pn_g (ixF 0 pn_lim pn_xs 0 pn_S d).2):=by
 obtain ⟨i,s,⟨u,r,o⟩⟩:=d
 show pn_R s i u r o=_
 unfold pn_R ixF pn_S
 simp only[bts_get,pn_lim,pn_xs]
 generalize (bts s).getD i.toNat 0=v
 cases decide (i<(s.size:Int)) with
 | false=>rfl
 | true=>
  simp only[cond_true]
  cases decide (v<48)||decide (v > 57) <;> rfl
theorem pn_ok:∀ b∈loopsOf Tryd.prog 84,lkey b=8→LoopOk Tryd.prog b (pn_C pn_I pn_M).g:=by
 refine pn_loop pn_I pn_M (fun g hi=>?_) (ix_conj_goes (fun _=>rfl) (fun _=>rfl) pn_RF pn_P)
 obtain ⟨s,i,u,r,o⟩:=g
 obtain ⟨h1,h2,h3,h4,h5⟩:=hi _ (List.mem_cons_self ..)
 have h3:0≤i:=h3
 show pn_side s i u r o
 unfold pn_side
 intro hlt
 have hlt:=of_decide_eq_true hlt
 refine ⟨⟨h3,by omega⟩,?_⟩
 repeat' (first | apply And.intro | intro _)
 all_goals first | trivial | omega
noncomputable def ltN7:LTab Tryd.prog:=(((LTab.nil.cons 43 5 (tx_C tx_I tx_M) tx_ok).cons 44 5 (rt_C rt_I rt_M) rt_ok).cons 82 4 (pa_C pa_I pa_M) pa_ok).cons 84 8 (pn_C pn_I pn_M) pn_ok
noncomputable abbrev lamN7:Lam:=ltN7.lam
theorem lamN7_ok:∀ f k L,lamN7 f k=some L→∀ b∈loopsOf Tryd.prog f,lkey b=k→LoopOk Tryd.prog b L.g:=ltN7.ok
noncomputable def tabN7:PTab Tryd.prog:=(tabB12.cons 86 (pconP aI dStr numS (fun n=>[i64 n])) (conP_ok nuA_ok puS)).cons 87 (pconP aI dStr numS (fun n=>[i64 n])) (conP_ok nuB_ok puS)
end Go.Proofs.YtmegbepjdololaaDoor

namespace Go.Proofs.YtmegbepjdololaaDoor
open Go.RowKit Go.Sx
set_option maxRecDepth 100000
set_option linter.unusedVariables false
noncomputable def teA_q1 (r:Rec):Ex ×
 tx_G:=
 loopF (fun g=>tx_R g.fst g.snd.fst g.snd.snd.fst g.snd.snd.snd.fst g.snd.snd.snd.snd) tx_M ((),r,(↑(ByteArray.size r.text):Int),(0:Int),e8u.lst (numS r.key++ByteArray.mk #[(58:UInt8)]).size (byteEl (numS r.key++ByteArray.mk #[(58:UInt8)])))
noncomputable def teA_F (r:Rec):Dv.T dStr:=
 bif chkR r != (0:Int) then ByteArray.mk #[]
 else strOf (intsOf IntKind.u8 (teA_q1 r).snd.snd.snd.snd.snd.length (e8u.els (teA_q1 r).snd.snd.snd.snd.snd))
def teA_side (r:Rec):Prop:=
 (chkR r != (0:Int))=false→i64 r.key∧ByteArray.size (numS r.key)+(1:Nat)≤(9223372036854775807:Nat)∧(numS r.key++ByteArray.mk #[(58:UInt8)]).size≤maxLen∧(numS r.key++ByteArray.mk #[(58:UInt8)]).size≤(numS r.key++ByteArray.mk #[(58:UInt8)]).size∧(∀ (e:Nat),e<(numS r.key++ByteArray.mk #[(58:UInt8)]).size→True)∧Lp.ixJ tx_lim tx_xs tx_K (tx_f ((),r,(↑(ByteArray.size r.text):Int),(0:Int),e8u.lst (numS r.key++ByteArray.mk #[(58:UInt8)]).size (byteEl (numS r.key++ByteArray.mk #[(58:UInt8)]))))∧((teA_q1 r).snd.snd.snd.snd.snd.length≤(teA_q1 r).snd.snd.snd.snd.snd.length∧∀ (e:Nat),e<(teA_q1 r).snd.snd.snd.snd.snd.length→((ElE.fn (e8u.els (teA_q1 r).snd.snd.snd.snd.snd)).at e).all SV.one=true)∧∀ (e:Nat),e<(teA_q1 r).snd.snd.snd.snd.snd.length→(Sx.intOf IntKind.u8 ((ElE.fn (e8u.els (teA_q1 r).snd.snd.snd.snd.snd)).at e)).isSome=true
theorem teA_okS (pre:DA.T aR→List Prop) (h:∀ g,DA.bd aR g→(∀ p∈pre g,p)→teA_side g):FnPure Tryd.prog 43 aR dStr (fun g=>teA_F g) pre:=pure_of_sideS (Γ:=(PTab.gamz tabN7 [] [])) (Λ:=lamN7) (PTab.okz tabN7 [] []) lamN7_ok 100 default (fun g=>teA_side g) (fun g=>by kernel_rfl) (fun g=>by kernel_rfl) h
end Go.Proofs.YtmegbepjdololaaDoor

namespace Go.Proofs.YtmegbepjdololaaDoor
open Go.RowKit Go.Sx Go.Lp
def textS (r:Rec):BA:=bif chkR r != (0:Int) then ByteArray.mk #[] else strOf (numL r.key++58 :: escL (bts r.text))
theorem chkR_le {r:Rec} (h:(chkR r != (0:Int))=false):r.text.size≤64:=by
 have h:chkR r=0:=by simpa using h
 unfold chkR at h
 by_cases hc:(r.text.size:Int) > 64
 ·rw[decide_eq_true hc] at h;cases h
 ·omega
theorem numL_len {n:Int} (h:i64 n):1≤(numL n).length∧(numL n).length≤20:=by
 obtain ⟨hb1,hb2⟩:=abs_b h
 have e:numL n=(if n<0 then [45] else [])++dgt 20 (absI n):=rfl
 have hl1:=dgt_len 20 19 (absI n) hb1 (by rw[p10_19];omega) (by decide)
 have hl2:1≤(dgt 20 (absI n)).length:=dgt_pos 19 _
 rw[e,List.length_append]
 split <;> simp only[List.length_cons,List.length_nil] <;> omega
theorem numL_range {n:Int} (h:i64 n):∀ c∈numL n,0≤c∧c≤255:=by
 obtain ⟨hb1,hb2⟩:=abs_b h
 have e:numL n=(if n<0 then [45] else [])++dgt 20 (absI n):=rfl
 rw[e]
 intro c hc
 rcases List.mem_append.1 hc with hc | hc
 ·split at hc
  ·rw[List.mem_singleton.1 hc];decide
  ·cases hc
 ·have:=dgt_digit 20 _ hb1 c hc
  omega
theorem head_lst (n:Int) (h:i64 n):e8u.lst (numS n++ByteArray.mk #[(58:UInt8)]).size (byteEl (numS n++ByteArray.mk #[(58:UInt8)]))=numL n++[58]:=by
 have e:e8u.lst (numS n++ByteArray.mk #[(58:UInt8)]).size (byteEl (numS n++ByteArray.mk #[(58:UInt8)]))=bts (numS n++ByteArray.mk #[(58:UInt8)]):=byte_lst _
 rw[e,bts_app]
 unfold numS
 rw[bts_strOf (numL_range h)]
 rfl
theorem tx_scan (c:tx_GC) (l:List Int) (b:List Int):scan 0 (tx_S c) 0 l ((),b)=(.exit 0,(l.length:Int),(),b++escL l):=by
 rw[scan_fold (st:=tx_S c) (f:=fun (b:tx_GB) v=>((),b.2++esc1 v)) (fun _ _ _=>rfl),Int.zero_add]
 have:∀ (l:List Int) (b:List Int),l.foldl (fun (b:tx_GB) v=>((),b.2++esc1 v)) ((),b)=((),b++escL l):=by
  intro l
  induction l with
  | nil=>intro b;simp[escL]
  | cons a l ih=>intro b;rw[List.foldl_cons,ih,List.append_assoc];rfl
 rw[this]
theorem ints_lst (l:List Int):intsOf .u8 l.length (e8u.els l)=l:=by
 refine List.ext_getElem (by simp[intsOf]) fun i h1 h2=>?_
 simp only[intsOf,List.getElem_map,List.getElem_range,El.els,List.getD_eq_getElem?_getD,List.getElem?_eq_getElem h2,Option.getD_some]
 simp[intAt,Go.Sx.intOf,El.one',eInt,dInt,SV.int?]
theorem teA_eq (r:Rec) (hk:i64 r.key):teA_side r∧teA_F r=textS r:=by
 unfold teA_side teA_F textS
 cases hc:(chkR r != (0:Int)) with
 | true=>exact ⟨fun h=>(by cases h),rfl⟩
 | false=>
  have h64:=chkR_le hc
  have hn:=numL_len hk
  have hsz:(numS r.key).size=(numL r.key).length:=strOf_size _
  have hq:teA_q1 r=loopF tx_RR tx_M (tx_g (0,(r,(r.text.size:Int)),((),numL r.key++[58]))):=by
   unfold teA_q1
   rw[head_lst _ hk]
   rfl
  have hK:tx_K (r,(r.text.size:Int)) ((),numL r.key++[58]) 0:=⟨h64,by
   show ((numL r.key++[58]).length:Int)≤_
   rw[List.length_append]
   simp only[List.length_cons,List.length_nil]
   omega⟩
  have hl:(r.text.size:Int)=((bts r.text).length:Int):=by rw[bts_len]
  have hm:(bts r.text).length≤maxLen:=by rw[bts_len];unfold maxLen;omega
  have hr:loopF tx_RR tx_M (tx_g (0,(r,(r.text.size:Int)),((),numL r.key++[58])))=_:=ix_conj_run (φ:=tx_f) (ψ:=tx_g) (fun _=>rfl) (fun _=>rfl) tx_RF tx_P (r,(r.text.size:Int)) ((),numL r.key++[58]) hl hm hK
  have hs:scan 0 (tx_S (r,(r.text.size:Int))) 0 (bts r.text) ((),numL r.key++[58])=_:=tx_scan _ _ _
  have hb:(teA_q1 r).2.2.2.2.2=numL r.key++[58]++escL (bts r.text):=by
   rw[hq,hr]
   show (scan 0 (tx_S (r,(r.text.size:Int))) 0 (bts r.text) ((),numL r.key++[58])).2.2.2=_
   rw[hs]
  rw[hb,head_lst _ hk]
  refine ⟨fun _=>⟨hk,by omega,?_,Nat.le_refl _,fun _ _=>trivial,?_,⟨Nat.le_refl _,fun e _=>e8u.one_els _ e⟩,fun e _=>rfl⟩,?_⟩
  ·rw[ByteArray.size_append,hsz]
   unfold maxLen
   show (numL r.key).length+1≤_
   omega
  ·exact ⟨hl,hm,Int.le_refl _,by show (0:Int)≤_;omega,hK⟩
  ·rw[cond_false,cond_false,ints_lst,List.append_assoc]
   rfl
theorem teA_ok:FnPure Tryd.prog 43 aR dStr textS (fun r=>[i64 r.key]):=
 pure_congr (teA_okS _ fun r _ hp=>(teA_eq r (hp _ (List.mem_cons_self ..))).1) fun r _ hp=>(teA_eq r (hp _ (List.mem_cons_self ..))).2
end Go.Proofs.YtmegbepjdololaaDoor

namespace Go.Proofs.YtmegbepjdololaaDoor
open Go.RowKit Go.Sx
set_option maxRecDepth 100000
set_option linter.unusedVariables false
end Go.Proofs.YtmegbepjdololaaDoor

namespace Go.Proofs.YtmegbepjdololaaDoor
open Go.RowKit Go.Sx Go.Lp
set_option maxRecDepth 100000
end Go.Proofs.YtmegbepjdololaaDoor

namespace Go.Proofs.YtmegbepjdololaaDoor
open Go.RowKit Go.Sx
set_option maxRecDepth 100000
set_option linter.unusedVariables false
end Go.Proofs.YtmegbepjdololaaDoor

namespace Go.Proofs.YtmegbepjdololaaDoor
open Go.RowKit Go.Sx Go.Lp
set_option maxRecDepth 100000
end Go.Proofs.YtmegbepjdololaaDoor

namespace Go.Proofs.YtmegbepjdololaaDoor
open Go.RowKit Go.Sx
set_option maxRecDepth 100000
set_option linter.unusedVariables false
end Go.Proofs.YtmegbepjdololaaDoor

namespace Go.Proofs.YtmegbepjdololaaDoor
open Go.RowKit Go.Sx Go.Lp
set_option maxRecDepth 100000
end Go.Proofs.YtmegbepjdololaaDoor

namespace Go.Proofs.YtmegbepjdololaaDoor
open Go.RowKit Go.Sx Go.Lp
abbrev lvA:Rec:=Rec.mk (1:Int) (ByteArray.mk #[97])
abbrev lvB:Rec:=Rec.mk (2:Int) (ByteArray.mk #[98])
abbrev lvL:List Rec:=[lvB,lvA,lvB]
abbrev lvM:List Many:=[Many.mk lvA (1:Int),Many.mk lvB (2:Int)]
abbrev lvR:Rec:=Rec.mk (-1:Int) (ByteArray.mk #[195,169,32,37])
abbrev lvS:BA:=ByteArray.mk #[45,49,58,37,99,51,37,97,57,37,50,48,37,50,53]
abbrev aLRB:DA (List Rec):=.one (.listB eR)
abbrev aLMMB:DA (List Many×List Many):=.cons (.listB eM) (.one (.listB eM))
set_option maxRecDepth 100000
theorem lv_bag:FnPure Tryd.prog 24 aLRB dLME (fun _=>(lvM,(0:Int))) (fun g=>[g=lvL]):=
 pure_lit (D:=aLRB) bgA_ok lvL (lvM,0) (by kernel_rfl) (fun p hp=>by rw[List.mem_singleton.1 hp];decide)
theorem lv_eq:FnPure Tryd.prog 71 aLMMB dBool (fun _=>true) (fun g=>[g=(lvM,lvM)]):=
 pure_lit (D:=aLMMB) elM_ok (lvM,lvM) true (by kernel_rfl) (fun p hp=>by rw[List.mem_singleton.1 hp];decide)
theorem lv_txt:FnPure Tryd.prog 43 aR dStr (fun _=>lvS) (fun g=>[g=lvR]):=
 pure_lit teA_ok lvR lvS (by kernel_rfl) (fun p hp=>by rw[List.mem_singleton.1 hp];exact ⟨by decide,by decide⟩)
noncomputable def tabQ1:MTab Tryd.prog:=(((MTab.of PTab.nil).consM 24 (fconR aLRB dLME (fun _=>(lvM,(0:Int))) (fun g=>[g=lvL])) (fconR_ok lv_bag)).cons 71 (pconP aLMMB dBool (fun _=>true) (fun g=>[g=(lvM,lvM)])) (conP_ok lv_eq puB)).cons 43 (pconP aR dStr (fun _=>lvS) (fun g=>[g=lvR])) (conP_ok lv_txt puS)
noncomputable abbrev lvT:Tr Bool:=dTree Tryd.prog (MTab.gamz tabQ1 [] []) noΛ 100 16 (DA.enc .none ()) dBool
theorem lv_ev:lvT.evC false=true:=by kernel_rfl
theorem lv_asks:lvT.asksC=[lvL=lvL,((0:Int)==(0:Int))=true→(lvM,lvM)=(lvM,lvM),((0:Int)==(0:Int))=true→true=true→lvR=lvR]:=by kernel_rfl
theorem lv_ok:FnPure Tryd.prog 16 .none dBool (fun _=>true) (fun _=>[]):=pure_of_tree (MTab.okz tabQ1 [] []) noΛ_ok 100 fun g _ _=>by
 have h:=Tr.asksC_holds (t:=lvT) false (by
  rw[lv_asks]
  intro p hp
  rcases List.mem_cons.1 hp with e | hp
  ·exact e▸rfl
  rcases List.mem_cons.1 hp with e | hp
  ·exact e▸fun _=>rfl
  rcases List.mem_cons.1 hp with e | hp
  ·exact e▸fun _ _=>rfl
  cases hp)
 rw[lv_ev] at h
 exact h
end Go.Proofs.YtmegbepjdololaaDoor

namespace Go.Proofs.YtmegbepjdololaaDoor
open Go.RowKit Go.Sx
set_option maxRecDepth 100000
set_option linter.unusedVariables false
end Go.Proofs.YtmegbepjdololaaDoor

namespace Go.Proofs.YtmegbepjdololaaDoor
open Go.RowKit Go.Sx
set_option maxRecDepth 100000
set_option linter.unusedVariables false
abbrev fw_G:Type:=List Rec×Int×Int×Int
noncomputable def fw_LP:LP 0 fw_G:=.pair (.slot 0 10 dLR) (.pair (.slot 0 11 dI) (.pair (.slot 0 12 dI) (.slot 0 3 dI)))
noncomputable def fw_R (xs:List Rec) (n:Int) (i:Int) (k:Int):Ex×fw_G:=
 bif decide (i<n) then (Ex.normal,eR.ag xs,n,IntKind.i64.wrap (i+(1:Int)),IntKind.i64.wrap (k+List.foldl (fun a x=>bif false then if x.snd.snd > a then x.snd.snd else a else if x.snd.snd<a then x.snd.snd else a) (↑(ByteArray.size (xs.getD i.toNat eR.dflt).text):Int) [(true,IntKind.i64,(2000:Int))]))
 else (Ex.exit (0:Nat),eR.ag xs,n,i,k)
def fw_side (xs:List Rec) (n:Int) (i:Int) (k:Int):Prop:=
 (decide (i<n)=true→((0:Int)≤i∧i<(↑xs.length:Int))∧eR.okL xs)∧(decide (i<n)=false→eR.okL xs)
theorem fw_one:((loopsOf Tryd.prog 23).filter fun c=>Nat.beq (lkey c) 3).length=1:=by kernel_rfl
abbrev fw_GC:Type:=List Rec×Int
abbrev fw_GB:Type:=Int
def fw_f (g:fw_G):Int×fw_GC×fw_GB:=(g.2.2.1,(g.1,g.2.1),g.2.2.2)
def fw_g (d:Int×fw_GC×fw_GB):fw_G:=(d.2.1.1,d.2.1.2,d.1,d.2.2)
theorem fw_es (g:fw_G):(fw_R g.1 g.2.1 g.2.2.1 g.2.2.2).1=.normal∨(fw_R g.1 g.2.1 g.2.2.1 g.2.2.2).1∈([.exit 0]:List Ex):=by
 unfold fw_R
 repeat' (first | (left;rfl) | (right;simp only[cond_true,cond_false];simp;done) | (rw[Bool.cond_eq_ite];split))
noncomputable abbrev fw_C (Inv:fw_G→List Prop) (m:fw_G→Nat):LCon:=loopR [.exit 0] (loopBody Tryd.prog 23 3) fw_LP [] 30 Inv (fun g=>fw_R g.1 g.2.1 g.2.2.1 g.2.2.2) m
theorem fw_loop (Inv:fw_G→List Prop) (m:fw_G→Nat) (hs:∀ g,allP (Inv g)→fw_side g.1 g.2.1 g.2.2.1 g.2.2.2) (hg:Goes (fun g:fw_G=>fw_R g.1 g.2.1 g.2.2.1 g.2.2.2) m fun g=>allP (Inv g)):∀ b∈loopsOf Tryd.prog 23,lkey b=3→LoopOk Tryd.prog b (fw_C Inv m).g:=loop_run (Γ:=(PTab.gamz tabG6 [] [])) (Λ:=noΛ) (PTab.okz tabG6 [] []) noΛ_ok 100 23 3 30 fw_LP [] Inv (fun g=>fw_R g.1 g.2.1 g.2.2.1 g.2.2.2) (fun g=>fw_side g.1 g.2.1 g.2.2.1 g.2.2.2) m default [.exit 0] fw_one (fun rd T B HL HB ds g=>by kernel_rfl) (fun rd T B HL HB ds g=>by kernel_rfl) hs hg fw_es
abbrev ra_G:Type:=List Many×Int×Int×Int×Int
noncomputable def ra_LP:LP 0 ra_G:=.pair (.slot 0 11 dLM) (.pair (.slot 0 12 dI) (.pair (.slot 0 13 dI) (.pair (.slot 0 3 dI) (.slot 0 4 dI))))
noncomputable def ra_R (xs:List Many) (n:Int) (i:Int) (p:Int) (m:Int):Ex×ra_G:=
 bif decide (i<n) then (Ex.normal,eM.ag xs,n,IntKind.i64.wrap (i+(1:Int)),IntKind.i64.wrap (p+List.foldl (fun a x=>bif true then if x.snd.snd > a then x.snd.snd else a else if x.snd.snd<a then x.snd.snd else a) (0:Int) [(false,IntKind.i64,List.foldl (fun a x=>bif false then if x.snd.snd > a then x.snd.snd else a else if x.snd.snd<a then x.snd.snd else a) (xs.getD i.toNat eM.dflt).n [(true,IntKind.i64,(1000:Int))])]),IntKind.i64.wrap (m+List.foldl (fun a x=>bif false then if x.snd.snd > a then x.snd.snd else a else if x.snd.snd<a then x.snd.snd else a) (↑(ByteArray.size (xs.getD i.toNat eM.dflt).r.text):Int) [(true,IntKind.i64,(2000:Int))]))
 else (Ex.exit (0:Nat),eM.ag xs,n,i,p,m)
def ra_side (xs:List Many) (n:Int) (i:Int) (p:Int) (m:Int):Prop:=
 (decide (i<n)=true→((0:Int)≤i∧i<(↑xs.length:Int))∧eM.okL xs)∧(decide (i<n)=false→eM.okL xs)
theorem ra_one:((loopsOf Tryd.prog 37).filter fun c=>Nat.beq (lkey c) 4).length=1:=by kernel_rfl
abbrev ra_GC:Type:=List Many×Int
abbrev ra_GB:Type:=Int×Int
def ra_f (g:ra_G):Int×ra_GC×ra_GB:=(g.2.2.1,(g.1,g.2.1),(g.2.2.2.1,g.2.2.2.2))
def ra_g (d:Int×ra_GC×ra_GB):ra_G:=(d.2.1.1,d.2.1.2,d.1,d.2.2.1,d.2.2.2)
theorem ra_es (g:ra_G):(ra_R g.1 g.2.1 g.2.2.1 g.2.2.2.1 g.2.2.2.2).1=.normal∨(ra_R g.1 g.2.1 g.2.2.1 g.2.2.2.1 g.2.2.2.2).1∈([.exit 0]:List Ex):=by
 unfold ra_R
 repeat' (first | (left;rfl) | (right;simp only[cond_true,cond_false];simp;done) | (rw[Bool.cond_eq_ite];split))
noncomputable abbrev ra_C (Inv:ra_G→List Prop) (m:ra_G→Nat):LCon:=loopR [.exit 0] (loopBody Tryd.prog 37 4) ra_LP [] 42 Inv (fun g=>ra_R g.1 g.2.1 g.2.2.1 g.2.2.2.1 g.2.2.2.2) m
theorem ra_loop (Inv:ra_G→List Prop) (m:ra_G→Nat) (hs:∀ g,allP (Inv g)→ra_side g.1 g.2.1 g.2.2.1 g.2.2.2.1 g.2.2.2.2) (hg:Goes (fun g:ra_G=>ra_R g.1 g.2.1 g.2.2.1 g.2.2.2.1 g.2.2.2.2) m fun g=>allP (Inv g)):∀ b∈loopsOf Tryd.prog 37,lkey b=4→LoopOk Tryd.prog b (ra_C Inv m).g:=loop_run (Γ:=(PTab.gamz tabG6 [] [])) (Λ:=noΛ) (PTab.okz tabG6 [] []) noΛ_ok 100 37 4 42 ra_LP [] Inv (fun g=>ra_R g.1 g.2.1 g.2.2.1 g.2.2.2.1 g.2.2.2.2) (fun g=>ra_side g.1 g.2.1 g.2.2.1 g.2.2.2.1 g.2.2.2.2) m default [.exit 0] ra_one (fun rd T B HL HB ds g=>by kernel_rfl) (fun rd T B HL HB ds g=>by kernel_rfl) hs hg ra_es
abbrev ks5_G:Type:=List Many×Int×Int×List Rec
noncomputable def ks5_LP:LP 0 ks5_G:=.pair (.slot 0 6 dLM) (.pair (.slot 0 7 dI) (.pair (.slot 0 8 dI) (.row 0 3 46 eR)))
noncomputable def ks5_R (xs:List Many) (n:Int) (i:Int) (o:List Rec):Ex×ks5_G:=
 bif decide (i<n) then (Ex.normal,eM.ag xs,n,IntKind.i64.wrap (i+(1:Int)),eR.lst (min (o.length+(1:Nat)) o.length) (eR.els o)++List.map (fun x=>(xs.getD i.toNat eM.dflt).r) (List.range (o.length+(1:Nat) - o.length)))
 else (Ex.exit (0:Nat),eM.ag xs,n,i,eR.ag o)
def ks5_side (xs:List Many) (n:Int) (i:Int) (o:List Rec):Prop:=
 (decide (i<n)=true→((0:Int)≤i∧i<(↑xs.length:Int))∧(o.length≤o.length∧True∧o.length+(1:Nat)≤maxLen∧(o.length+(1:Nat)) * Tryd.prog.types[(46:Nat)].bytes≤(140737488355328:Nat))∧eM.okL xs∧o.length+(1:Nat)≤o.length+(1:Nat)∧(∀ (e:Nat),e<min (o.length+(1:Nat)) o.length→True)∧∀ (e:Nat),e<o.length+(1:Nat) - o.length→True)∧(decide (i<n)=false→eM.okL xs∧o.length≤o.length∧∀ (e:Nat),e<o.length→True)
theorem ks5_one:((loopsOf Tryd.prog 33).filter fun c=>Nat.beq (lkey c) 3).length=1:=by kernel_rfl
abbrev ks5_GC:Type:=List Many×Int
abbrev ks5_GB:Type:=List Rec
def ks5_f (g:ks5_G):Int×ks5_GC×ks5_GB:=(g.2.2.1,(g.1,g.2.1),g.2.2.2)
def ks5_g (d:Int×ks5_GC×ks5_GB):ks5_G:=(d.2.1.1,d.2.1.2,d.1,d.2.2)
theorem ks5_es (g:ks5_G):(ks5_R g.1 g.2.1 g.2.2.1 g.2.2.2).1=.normal∨(ks5_R g.1 g.2.1 g.2.2.1 g.2.2.2).1∈([.exit 0]:List Ex):=by
 unfold ks5_R
 repeat' (first | (left;rfl) | (right;simp only[cond_true,cond_false];simp;done) | (rw[Bool.cond_eq_ite];split))
noncomputable abbrev ks5_C (Inv:ks5_G→List Prop) (m:ks5_G→Nat):LCon:=loopR [.exit 0] (loopBody Tryd.prog 33 3) ks5_LP [] 19 Inv (fun g=>ks5_R g.1 g.2.1 g.2.2.1 g.2.2.2) m
theorem ks5_loop (Inv:ks5_G→List Prop) (m:ks5_G→Nat) (hs:∀ g,allP (Inv g)→ks5_side g.1 g.2.1 g.2.2.1 g.2.2.2) (hg:Goes (fun g:ks5_G=>ks5_R g.1 g.2.1 g.2.2.1 g.2.2.2) m fun g=>allP (Inv g)):∀ b∈loopsOf Tryd.prog 33,lkey b=3→LoopOk Tryd.prog b (ks5_C Inv m).g:=loop_run (Γ:=(PTab.gamz tabG6 [] [])) (Λ:=noΛ) (PTab.okz tabG6 [] []) noΛ_ok 100 33 3 19 ks5_LP [] Inv (fun g=>ks5_R g.1 g.2.1 g.2.2.1 g.2.2.2) (fun g=>ks5_side g.1 g.2.1 g.2.2.1 g.2.2.2) m default [.exit 0] ks5_one (fun rd T B HL HB ds g=>by kernel_rfl) (fun rd T B HL HB ds g=>by kernel_rfl) hs hg ks5_es
abbrev sb5_G:Type:=List Many×List Many×Int×Bool
noncomputable def sb5_LP:LP 0 sb5_G:=.pair (.slot 0 0 dLM) (.pair (.slot 0 1 dLM) (.pair (.slot 0 5 dI) (.slot 0 4 dBool)))
noncomputable def sb5_R (xs:List Many) (ys:List Many) (i:Int) (r:Bool):Ex×sb5_G:=
 bif decide (i<(↑xs.length:Int)) then bif !conj ([(xs.getD i.toNat eM.dflt).r.key==(ys.getD i.toNat eM.dflt).r.key]++([decide ((xs.getD i.toNat eM.dflt).r.text=(ys.getD i.toNat eM.dflt).r.text)]++[])++([(xs.getD i.toNat eM.dflt).n==(ys.getD i.toNat eM.dflt).n]++[])) then (Ex.ret,eM.ag xs,eM.ag ys,i,false) else (Ex.normal,eM.ag xs,eM.ag ys,IntKind.i64.wrap (i+(1:Int)),r)
 else (Ex.exit (0:Nat),eM.ag xs,eM.ag ys,i,r)
def sb5_side (xs:List Many) (ys:List Many) (i:Int) (r:Bool):Prop:=
 (decide (i<(↑xs.length:Int))=true→((0:Int)≤i∧i<(↑xs.length:Int))∧((0:Int)≤i∧i<(↑ys.length:Int))∧((!conj ([(xs.getD i.toNat eM.dflt).r.key==(ys.getD i.toNat eM.dflt).r.key]++([decide ((xs.getD i.toNat eM.dflt).r.text=(ys.getD i.toNat eM.dflt).r.text)]++[])++([(xs.getD i.toNat eM.dflt).n==(ys.getD i.toNat eM.dflt).n]++[])))=true→eM.okL xs∧eM.okL ys)∧((!conj ([(xs.getD i.toNat eM.dflt).r.key==(ys.getD i.toNat eM.dflt).r.key]++([decide ((xs.getD i.toNat eM.dflt).r.text=(ys.getD i.toNat eM.dflt).r.text)]++[])++([(xs.getD i.toNat eM.dflt).n==(ys.getD i.toNat eM.dflt).n]++[])))=false→eM.okL xs∧eM.okL ys))∧(decide (i<(↑xs.length:Int))=false→eM.okL xs∧eM.okL ys)
theorem sb5_one:((loopsOf Tryd.prog 26).filter fun c=>Nat.beq (lkey c) 4).length=1:=by kernel_rfl
abbrev sb5_GC:Type:=List Many×List Many
abbrev sb5_GB:Type:=Bool
def sb5_f (g:sb5_G):Int×sb5_GC×sb5_GB:=(g.2.2.1,(g.1,g.2.1),g.2.2.2)
def sb5_g (d:Int×sb5_GC×sb5_GB):sb5_G:=(d.2.1.1,d.2.1.2,d.1,d.2.2)
theorem sb5_es (g:sb5_G):(sb5_R g.1 g.2.1 g.2.2.1 g.2.2.2).1=.normal∨(sb5_R g.1 g.2.1 g.2.2.1 g.2.2.2).1∈([.ret,.exit 0]:List Ex):=by
 unfold sb5_R
 repeat' (first | (left;rfl) | (right;simp only[cond_true,cond_false];simp;done) | (rw[Bool.cond_eq_ite];split))
noncomputable abbrev sb5_C (Inv:sb5_G→List Prop) (m:sb5_G→Nat):LCon:=loopR [.ret,.exit 0] (loopBody Tryd.prog 26 4) sb5_LP [] 26 Inv (fun g=>sb5_R g.1 g.2.1 g.2.2.1 g.2.2.2) m
theorem sb5_loop (Inv:sb5_G→List Prop) (m:sb5_G→Nat) (hs:∀ g,allP (Inv g)→sb5_side g.1 g.2.1 g.2.2.1 g.2.2.2) (hg:Goes (fun g:sb5_G=>sb5_R g.1 g.2.1 g.2.2.1 g.2.2.2) m fun g=>allP (Inv g)):∀ b∈loopsOf Tryd.prog 26,lkey b=4→LoopOk Tryd.prog b (sb5_C Inv m).g:=loop_run (Γ:=(PTab.gamz tabG6 [] [])) (Λ:=noΛ) (PTab.okz tabG6 [] []) noΛ_ok 100 26 4 26 sb5_LP [] Inv (fun g=>sb5_R g.1 g.2.1 g.2.2.1 g.2.2.2) (fun g=>sb5_side g.1 g.2.1 g.2.2.1 g.2.2.2) m default [.ret,.exit 0] sb5_one (fun rd T B HL HB ds g=>by kernel_rfl) (fun rd T B HL HB ds g=>by kernel_rfl) hs hg sb5_es
end Go.Proofs.YtmegbepjdololaaDoor

namespace Go.Proofs.YtmegbepjdololaaDoor
open Go.RowKit Go.Sx Go.Lp
set_option maxRecDepth 100000
def minI (a b:Int):Int:=List.foldl (fun a (x:Bool×IntKind×Int)=>bif false then if x.snd.snd > a then x.snd.snd else a else if x.snd.snd<a then x.snd.snd else a) a [(true,IntKind.i64,b)]
def maxI (a b:Int):Int:=List.foldl (fun a (x:Bool×IntKind×Int)=>bif true then if x.snd.snd > a then x.snd.snd else a else if x.snd.snd<a then x.snd.snd else a) a [(false,IntKind.i64,b)]
noncomputable def fw_S (c:fw_GC) (b:fw_GB) (i:Int) (v:Rec):Ex×fw_GB:=(.normal,IntKind.i64.wrap (b+minI (v.text.size:Int) 2000))
def fw_K (c:fw_GC) (b:fw_GB) (i:Int):Prop:=True
abbrev fw_I (g:fw_G):List Prop:=ixI (fun c:fw_GC=>c.2) (fun c:fw_GC=>c.1) fw_K (fw_f g)
abbrev fw_M (g:fw_G):Nat:=ixM (fun c:fw_GC=>c.2) (fw_f g)
theorem fw_P:ixP fw_S (fun c:fw_GC=>c.1) fw_K:=fun _ _ _ _ h _ _=>h
noncomputable abbrev fw_RR (g:fw_G):Ex×fw_G:=fw_R g.1 g.2.1 g.2.2.1 g.2.2.2
theorem fw_RF (d:Int×fw_GC×fw_GB) (hi:allP (ixI (fun c:fw_GC=>c.2) (fun c:fw_GC=>c.1) fw_K d)):fw_RR (fw_g d)=((ixF 0 (fun c:fw_GC=>c.2) (fun c:fw_GC=>c.1) eR.dflt fw_S d).1,fw_g (ixF 0 (fun c:fw_GC=>c.2) (fun c:fw_GC=>c.1) eR.dflt fw_S d).2):=by
 obtain ⟨i,⟨xs,n⟩,k⟩:=d
 show fw_R xs n i k=_
 unfold fw_R ixF fw_S
 simp only[El.ag_eq]
 cases decide (i<n) with
 | false=>rfl
 | true=>rfl
theorem fw_ok:∀ b∈loopsOf Tryd.prog 23,lkey b=3→LoopOk Tryd.prog b (fw_C fw_I fw_M).g:=by
 refine fw_loop fw_I fw_M (fun g hi=>?_) (ix_conj_goes (fun _=>rfl) (fun _=>rfl) fw_RF fw_P)
 obtain ⟨xs,n,i,k⟩:=g
 obtain ⟨h1,h2,h3,h4,h5⟩:=hi _ (List.mem_cons_self ..)
 have h1:n=(xs.length:Int):=h1
 have h3:0≤i:=h3
 have h5:True:=h5
 show fw_side xs n i k
 unfold fw_side
 simp only[decide_eq_true_eq,decide_eq_false_iff_not]
 have k0:∀ e:Nat,e<xs.length→eR.Ok (eR.els xs e):=fun e _=>eR.ok_els xs e
 clear hi
 repeat' (first | exact k0 | apply And.intro | intro _)
 all_goals omega
noncomputable def ra_S (c:ra_GC) (b:ra_GB) (i:Int) (v:Many):Ex×ra_GB:=(.normal,IntKind.i64.wrap (b.1+maxI 0 (minI v.n 1000)),IntKind.i64.wrap (b.2+minI (v.r.text.size:Int) 2000))
def ra_K (c:ra_GC) (b:ra_GB) (i:Int):Prop:=True
abbrev ra_I (g:ra_G):List Prop:=ixI (fun c:ra_GC=>c.2) (fun c:ra_GC=>c.1) ra_K (ra_f g)
abbrev ra_M (g:ra_G):Nat:=ixM (fun c:ra_GC=>c.2) (ra_f g)
theorem ra_P:ixP ra_S (fun c:ra_GC=>c.1) ra_K:=fun _ _ _ _ h _ _=>h
noncomputable abbrev ra_RR (g:ra_G):Ex×ra_G:=ra_R g.1 g.2.1 g.2.2.1 g.2.2.2.1 g.2.2.2.2
theorem ra_RF (d:Int×ra_GC×ra_GB) (hi:allP (ixI (fun c:ra_GC=>c.2) (fun c:ra_GC=>c.1) ra_K d)):ra_RR (ra_g d)=((ixF 0 (fun c:ra_GC=>c.2) (fun c:ra_GC=>c.1) eM.dflt ra_S d).1,ra_g (ixF 0 (fun c:ra_GC=>c.2) (fun c:ra_GC=>c.1) eM.dflt ra_S d).2):=by
 obtain ⟨i,⟨xs,n⟩,⟨p,m⟩⟩:=d
 show ra_R xs n i p m=_
 unfold ra_R ixF ra_S
 simp only[El.ag_eq]
 cases decide (i<n) with
 | false=>rfl
 | true=>rfl
theorem ra_ok:∀ b∈loopsOf Tryd.prog 37,lkey b=4→LoopOk Tryd.prog b (ra_C ra_I ra_M).g:=by
 refine ra_loop ra_I ra_M (fun g hi=>?_) (ix_conj_goes (fun _=>rfl) (fun _=>rfl) ra_RF ra_P)
 obtain ⟨xs,n,i,p,m⟩:=g
 obtain ⟨h1,h2,h3,h4,h5⟩:=hi _ (List.mem_cons_self ..)
 have h1:n=(xs.length:Int):=h1
 have h3:0≤i:=h3
 have h5:True:=h5
 show ra_side xs n i p m
 unfold ra_side
 simp only[decide_eq_true_eq,decide_eq_false_iff_not]
 have k0:∀ e:Nat,e<xs.length→eM.Ok (eM.els xs e):=fun e _=>eM.ok_els xs e
 clear hi
 repeat' (first | exact k0 | apply And.intro | intro _)
 all_goals omega
noncomputable def sb5_S (c:sb5_GC) (b:sb5_GB) (i:Int) (v:Many):Ex×sb5_GB:=bif !decide (v=c.2.getD i.toNat eM.dflt) then (.ret,false) else (.normal,b)
def sb5_K (c:sb5_GC) (b:sb5_GB) (i:Int):Prop:=c.1.length=c.2.length
abbrev sb5_I (g:sb5_G):List Prop:=ixI (fun c:sb5_GC=>(c.1.length:Int)) (fun c:sb5_GC=>c.1) sb5_K (sb5_f g)
abbrev sb5_M (g:sb5_G):Nat:=ixM (fun c:sb5_GC=>(c.1.length:Int)) (sb5_f g)
theorem sb5_P:ixP sb5_S (fun c:sb5_GC=>c.1) sb5_K:=fun _ _ _ _ h _ _=>h
noncomputable abbrev sb5_RR (g:sb5_G):Ex×sb5_G:=sb5_R g.1 g.2.1 g.2.2.1 g.2.2.2
theorem sb5_RF (d:Int×sb5_GC×sb5_GB) (hi:allP (ixI (fun c:sb5_GC=>(c.1.length:Int)) (fun c:sb5_GC=>c.1) sb5_K d)):sb5_RR (sb5_g d)=((ixF 0 (fun c:sb5_GC=>(c.1.length:Int)) (fun c:sb5_GC=>c.1) eM.dflt sb5_S d).1,sb5_g (ixF 0 (fun c:sb5_GC=>(c.1.length:Int)) (fun c:sb5_GC=>c.1) eM.dflt sb5_S d).2):=by
 obtain ⟨i,⟨xs,ys⟩,r⟩:=d
 show sb5_R xs ys i r=_
 unfold sb5_R ixF sb5_S
 simp only[El.ag_eq,conj_eM]
 cases decide (i<(xs.length:Int)) with
 | false=>rfl
 | true=>
  simp only[cond_true]
  generalize (!decide ((xs.getD i.toNat eM.dflt)=ys.getD i.toNat eM.dflt))=z
  cases z <;> rfl
theorem sb5_ok:∀ b∈loopsOf Tryd.prog 26,lkey b=4→LoopOk Tryd.prog b (sb5_C sb5_I sb5_M).g:=by
 refine sb5_loop sb5_I sb5_M (fun g hi=>?_) (ix_conj_goes (fun _=>rfl) (fun _=>rfl) sb5_RF sb5_P)
 obtain ⟨xs,ys,i,r⟩:=g
 obtain ⟨h1,h2,h3,h4,h5⟩:=hi _ (List.mem_cons_self ..)
 have h1:(xs.length:Int)=(xs.length:Int):=h1
 have h3:0≤i:=h3
 have h5:xs.length=ys.length:=h5
 show sb5_side xs ys i r
 unfold sb5_side
 simp only[decide_eq_true_eq,decide_eq_false_iff_not]
 have k0:∀ e:Nat,e<xs.length→eM.Ok (eM.els xs e):=fun e _=>eM.ok_els xs e
 have k1:∀ e:Nat,e<ys.length→eM.Ok (eM.els ys e):=fun e _=>eM.ok_els ys e
 clear hi
 repeat' (first | exact k0 | exact k1 | apply And.intro | intro _)
 all_goals omega
theorem sb5_run (c:sb5_GC) (b:sb5_GB) (k1:(c.1.length:Int)=((c.1).length:Int)) (k2:(c.1).length≤maxLen) (k3:sb5_K c b 0):loopF sb5_RR sb5_M (sb5_g (0,c,b))=((scan 0 (sb5_S c) 0 (c.1) b).1,sb5_g ((scan 0 (sb5_S c) 0 (c.1) b).2.1,c,(scan 0 (sb5_S c) 0 (c.1) b).2.2)):=ix_conj_run (φ:=sb5_f) (ψ:=sb5_g) (fun _=>rfl) (fun _=>rfl) sb5_RF sb5_P c b k1 k2 k3
noncomputable def ltV2:LTab Tryd.prog:=(((LTab.nil.cons 23 3 (fw_C fw_I fw_M) fw_ok).cons 37 4 (ra_C ra_I ra_M) ra_ok).cons 26 4 (sb5_C sb5_I sb5_M) sb5_ok)
end Go.Proofs.YtmegbepjdololaaDoor

namespace Go.Proofs.YtmegbepjdololaaDoor
open Go.RowKit Go.Sx Go.Lp
set_option maxRecDepth 100000
def ks5_S (_:ks5_GC) (b:ks5_GB) (_:Int) (v:Many):Ex×ks5_GB:=(.normal,b++[v.r])
def ks5_K (c:ks5_GC) (b:ks5_GB) (i:Int):Prop:=c.1.length≤1000000∧(List.length b:Int)≤i
abbrev ks5_I (g:ks5_G):List Prop:=ixI (fun c:ks5_GC=>c.2) (fun c=>c.1) ks5_K (ks5_f g)
abbrev ks5_M (g:ks5_G):Nat:=ixM (fun c:ks5_GC=>c.2) (ks5_f g)
theorem ks5_P:ixP ks5_S (fun c:ks5_GC=>c.1) ks5_K:=fun c b i a h _ _=>⟨h.1,by
 have:=h.2
 show ((b++[a.r]).length:Int)≤_
 rw[List.length_append]
 simp only[List.length_cons,List.length_nil]
 omega⟩
noncomputable abbrev ks5_RR (g:ks5_G):Ex×ks5_G:=ks5_R g.1 g.2.1 g.2.2.1 g.2.2.2
theorem ap1R (o:List Rec) (v:Rec):eR.lst (min (o.length+1) o.length) (eR.els o)++List.map (fun _=>v) (List.range (o.length+1 - o.length))=o++[v]:=by
 rw[Nat.min_eq_right (Nat.le_add_right _ _),Nat.add_sub_cancel_left,eR.lst_els];rfl
theorem ks5_RF (d:Int×ks5_GC×ks5_GB) (_:allP (ixI (fun c:ks5_GC=>c.2) (fun c=>c.1) ks5_K d)):ks5_RR (ks5_g d)=((ixF 0 (fun c:ks5_GC=>c.2) (fun c=>c.1) eM.dflt ks5_S d).1,ks5_g (ixF 0 (fun c:ks5_GC=>c.2) (fun c=>c.1) eM.dflt ks5_S d).2):=by
 obtain ⟨i,⟨xs,n⟩,o⟩:=d
 show ks5_R xs n i o=_
 unfold ks5_R ixF ks5_S
 simp only[El.ag_eq,ap1R]
 cases decide (i<n) <;> rfl
theorem bytR (h:46<Tryd.prog.types.size):(Tryd.prog.types[(46:Nat)]'h).bytes=24:=by kernel_rfl
theorem ks5_ok:∀ b∈loopsOf Tryd.prog 33,lkey b=3→LoopOk Tryd.prog b (ks5_C ks5_I ks5_M).g:=by
 refine ks5_loop ks5_I ks5_M (fun g hi=>?_) (ix_conj_goes (fun _=>rfl) (fun _=>rfl) ks5_RF ks5_P)
 obtain ⟨xs,n,i,o⟩:=g
 obtain ⟨h1,h2,h3,h4,h5,h6⟩:=hi _ (List.mem_cons_self ..)
 have h1:n=(xs.length:Int):=h1
 have h3:0≤i:=h3
 have h4:i≤(xs.length:Int):=h4
 have h5:xs.length≤1000000:=h5
 have h6:(o.length:Int)≤i:=h6
 show ks5_side xs n i o
 unfold ks5_side
 simp only[El.okL_eq,El.ag_eq,bytR,decide_eq_true_eq,decide_eq_false_iff_not]
 unfold maxLen
 repeat' (first | apply And.intro | intro _)
 all_goals first | trivial | omega
theorem ks5_run (xs:List Many) (k:xs.length≤1000000):loopF ks5_RR ks5_M (ks5_g (0,(xs,(xs.length:Int)),[]))=(.exit 0,ks5_g ((xs.length:Int),(xs,(xs.length:Int)),xs.map (·.r))):=by
 have hr:loopF ks5_RR ks5_M (ks5_g (0,(xs,(xs.length:Int)),[]))=_:=ix_conj_run (φ:=ks5_f) (ψ:=ks5_g) (fun _=>rfl) (fun _=>rfl) ks5_RF ks5_P (xs,(xs.length:Int)) [] rfl (Nat.le_trans k (by decide)) ⟨k,by show (0:Int)≤0;decide⟩
 rw[hr]
 have hs:scan 0 (ks5_S (xs,(xs.length:Int))) 0 xs []=_:=scan_fold (st:=ks5_S (xs,(xs.length:Int))) (f:=fun b v=>b++[v.r]) (fun _ _ _=>rfl) xs 0 []
 have hf:∀ (l:List Many) (b:List Rec),l.foldl (fun b v=>b++[v.r]) b=b++l.map (·.r):=by
  intro l
  induction l with
  | nil=>intro b;simp
  | cons a l ih=>intro b;rw[List.foldl_cons,ih];simp
 rw[hf,List.nil_append] at hs
 show ((scan 0 (ks5_S (xs,(xs.length:Int))) 0 xs []).1,ks5_g ((scan 0 (ks5_S (xs,(xs.length:Int))) 0 xs []).2.1,_,(scan 0 (ks5_S (xs,(xs.length:Int))) 0 xs []).2.2))=_
 rw[hs,Int.zero_add]
noncomputable def ltV3:LTab Tryd.prog:=ltV2.cons 33 3 (ks5_C ks5_I ks5_M) ks5_ok
noncomputable abbrev lamV3:Lam:=ltV3.lam
theorem lamV3_ok:∀ f k L,lamV3 f k=some L→∀ b∈loopsOf Tryd.prog f,lkey b=k→LoopOk Tryd.prog b L.g:=ltV3.ok
end Go.Proofs.YtmegbepjdololaaDoor

namespace Go.Proofs.YtmegbepjdololaaDoor
open Go.RowKit Go.Sx
set_option maxRecDepth 100000
set_option linter.unusedVariables false
abbrev rLR5:Rv (List Rec):=.list eR
noncomputable def few5_q1 (l:List Rec):Ex ×
 fw_G:=
 loopF (fun g=>fw_R g.fst g.snd.fst g.snd.snd.fst g.snd.snd.snd) fw_M (eR.lst (List.foldl (fun a x=>bif false then if x.snd.snd > a then x.snd.snd else a else if x.snd.snd<a then x.snd.snd else a) (↑l.length:Int) [(true,IntKind.i64,(200:Int))]).toNat (eR.els l),(↑(List.foldl (fun a x=>bif false then if x.snd.snd > a then x.snd.snd else a else if x.snd.snd<a then x.snd.snd else a) (↑l.length:Int) [(true,IntKind.i64,(200:Int))]).toNat:Int),(0:Int),(0:Int))
noncomputable def few5_F (l:List Rec):Dv.T dBool:=
 decide ((↑l.length:Int)≤(200:Int))&&decide ((few5_q1 l).snd.snd.snd.snd≤(3000:Int))
def few5_side (l:List Rec):Prop:=
 ((0:Int)≤List.foldl (fun a x=>bif false then if x.snd.snd > a then x.snd.snd else a else if x.snd.snd<a then x.snd.snd else a) (↑l.length:Int) [(true,IntKind.i64,(200:Int))]∧List.foldl (fun a x=>bif false then if x.snd.snd > a then x.snd.snd else a else if x.snd.snd<a then x.snd.snd else a) (↑l.length:Int) [(true,IntKind.i64,(200:Int))]≤(↑l.length:Int))∧(∀ (e:Nat),e<(List.foldl (fun a x=>bif false then if x.snd.snd > a then x.snd.snd else a else if x.snd.snd<a then x.snd.snd else a) (↑l.length:Int) [(true,IntKind.i64,(200:Int))]).toNat→eR.Ok (eR.els l e))∧Lp.ixJ (fun c=>c.snd) (fun c=>c.fst) fw_K (fw_f (eR.lst (List.foldl (fun a x=>bif false then if x.snd.snd > a then x.snd.snd else a else if x.snd.snd<a then x.snd.snd else a) (↑l.length:Int) [(true,IntKind.i64,(200:Int))]).toNat (eR.els l),(↑(List.foldl (fun a x=>bif false then if x.snd.snd > a then x.snd.snd else a else if x.snd.snd<a then x.snd.snd else a) (↑l.length:Int) [(true,IntKind.i64,(200:Int))]).toNat:Int),(0:Int),(0:Int)))
theorem few5_okS (pre:DA.T aLR1→List Prop) (h:∀ g,DA.bd aLR1 g→(∀ p∈pre g,p)→few5_side g):FnPure Tryd.prog 23 aLR1 dBool (fun g=>few5_F g) pre:=pure_of_sideS (Γ:=(PTab.gamz tabG6 [] [])) (Λ:=lamV3) (PTab.okz tabG6 [] []) lamV3_ok 100 default (fun g=>few5_side g) (fun g=>by kernel_rfl) (fun g=>by kernel_rfl) h
noncomputable def rare5_q1 (l:List Many):Ex ×
 ra_G:=
 loopF (fun g=>ra_R g.fst g.snd.fst g.snd.snd.fst g.snd.snd.snd.fst g.snd.snd.snd.snd) ra_M (eM.lst (List.foldl (fun a x=>bif false then if x.snd.snd > a then x.snd.snd else a else if x.snd.snd<a then x.snd.snd else a) (↑l.length:Int) [(true,IntKind.i64,(100:Int))]).toNat (eM.els l),(↑(List.foldl (fun a x=>bif false then if x.snd.snd > a then x.snd.snd else a else if x.snd.snd<a then x.snd.snd else a) (↑l.length:Int) [(true,IntKind.i64,(100:Int))]).toNat:Int),(0:Int),(0:Int),(0:Int))
noncomputable def rare5_F (l:List Many):Dv.T dBool:=
 decide ((↑l.length:Int)≤(100:Int))&&(decide ((rare5_q1 l).snd.snd.snd.snd.fst≤(1000:Int))&&decide ((rare5_q1 l).snd.snd.snd.snd.snd≤(3000:Int)))
def rare5_side (l:List Many):Prop:=
 ((0:Int)≤List.foldl (fun a x=>bif false then if x.snd.snd > a then x.snd.snd else a else if x.snd.snd<a then x.snd.snd else a) (↑l.length:Int) [(true,IntKind.i64,(100:Int))]∧List.foldl (fun a x=>bif false then if x.snd.snd > a then x.snd.snd else a else if x.snd.snd<a then x.snd.snd else a) (↑l.length:Int) [(true,IntKind.i64,(100:Int))]≤(↑l.length:Int))∧(∀ (e:Nat),e<(List.foldl (fun a x=>bif false then if x.snd.snd > a then x.snd.snd else a else if x.snd.snd<a then x.snd.snd else a) (↑l.length:Int) [(true,IntKind.i64,(100:Int))]).toNat→eM.Ok (eM.els l e))∧Lp.ixJ (fun c=>c.snd) (fun c=>c.fst) ra_K (ra_f (eM.lst (List.foldl (fun a x=>bif false then if x.snd.snd > a then x.snd.snd else a else if x.snd.snd<a then x.snd.snd else a) (↑l.length:Int) [(true,IntKind.i64,(100:Int))]).toNat (eM.els l),(↑(List.foldl (fun a x=>bif false then if x.snd.snd > a then x.snd.snd else a else if x.snd.snd<a then x.snd.snd else a) (↑l.length:Int) [(true,IntKind.i64,(100:Int))]).toNat:Int),(0:Int),(0:Int),(0:Int)))
theorem rare5_okS (pre:DA.T aLM5→List Prop) (h:∀ g,DA.bd aLM5 g→(∀ p∈pre g,p)→rare5_side g):FnPure Tryd.prog 37 aLM5 dBool (fun g=>rare5_F g) pre:=pure_of_sideS (Γ:=(PTab.gamz tabG6 [] [])) (Λ:=lamV3) (PTab.okz tabG6 [] []) lamV3_ok 100 default (fun g=>rare5_side g) (fun g=>by kernel_rfl) (fun g=>by kernel_rfl) h
noncomputable def same5_q1 (a:List Many) (b:List Many):Ex ×
 sb5_G:=
 loopF (fun g=>sb5_R g.fst g.snd.fst g.snd.snd.fst g.snd.snd.snd) sb5_M (eM.ag a,eM.ag b,(0:Int),false)
noncomputable def same5_F (a:List Many) (b:List Many):Dv.T dBool:=
 bif (↑a.length:Int) != (↑b.length:Int) then false
 else bif exB Ex.ret (same5_q1 a b).fst then (same5_q1 a b).snd.snd.snd.snd else true
def same5_side (a:List Many) (b:List Many):Prop:=
 ((↑a.length:Int) != (↑b.length:Int))=false→eM.okL a∧eM.okL b∧Lp.ixJ (fun c=>(↑c.fst.length:Int)) (fun c=>c.fst) sb5_K (sb5_f (eM.ag a,eM.ag b,(0:Int),false))
theorem same5_okS (pre:DA.T aLMM2→List Prop) (h:∀ g,DA.bd aLMM2 g→(∀ p∈pre g,p)→same5_side g.1 g.2):FnPure Tryd.prog 26 aLMM2 dBool (fun g=>same5_F g.1 g.2) pre:=pure_of_sideS (Γ:=(PTab.gamz tabG6 [] [])) (Λ:=lamV3) (PTab.okz tabG6 [] []) lamV3_ok 100 default (fun g=>same5_side g.1 g.2) (fun g=>by kernel_rfl) (fun g=>by kernel_rfl) h
noncomputable def keys5_q1 (l:List Many):Ex ×
 ks5_G:=
 loopF (fun g=>ks5_R g.fst g.snd.fst g.snd.snd.fst g.snd.snd.snd) ks5_M (eM.ag l,(↑l.length:Int),(0:Int),[])
noncomputable def keys5_F (l:List Many):Rv.T rLR5:=
 eR.ag (keys5_q1 l).snd.snd.snd.snd
def keys5_side (l:List Many):Prop:=
 eM.okL l∧Lp.ixJ (fun c=>c.snd) (fun c=>c.fst) ks5_K (ks5_f (eM.ag l,(↑l.length:Int),(0:Int),[]))∧(keys5_q1 l).snd.snd.snd.snd.length≤(keys5_q1 l).snd.snd.snd.snd.length∧∀ (e:Nat),e<(keys5_q1 l).snd.snd.snd.snd.length→True
theorem keys5_okS (pre:DA.T aLM5→List Prop) (h:∀ g,DA.bd aLM5 g→(∀ p∈pre g,p)→keys5_side g):FnPure Tryd.prog 33 aLM5 (Rv.D rLR5) (fun g=>keys5_F g) pre:=res_of_side (R:=rLR5) (Γ:=(PTab.gamz tabG6 [] [])) (Λ:=lamV3) (PTab.okz tabG6 [] []) lamV3_ok 100 default (fun g=>keys5_side g) (fun g=>by kernel_rfl) (fun g=>by kernel_rfl) h
end Go.Proofs.YtmegbepjdololaaDoor

namespace Go.Proofs.YtmegbepjdololaaDoor
open Go.RowKit Go.Sx Go.Lp
set_option maxRecDepth 100000
theorem minI_eq (a b:Int):minI a b=min a b:=by
 show (if b<a then b else a)=min a b
 split <;> omega
theorem few5_ok:FnPure Tryd.prog 23 aLR1 dBool few5_F (fun _=>[]):=few5_okS _ fun l hb _=>by
 have hm:l.length≤maxLen:=hb.1
 have e:=minI_eq (l.length:Int) 200
 show few5_side l
 unfold few5_side
 show (0≤minI (l.length:Int) 200∧minI (l.length:Int) 200≤(l.length:Int))∧(∀ e:Nat,e<(minI (l.length:Int) 200).toNat→eR.Ok (eR.els l e))∧Lp.ixJ (fun c=>c.snd) (fun c=>c.fst) fw_K (fw_f (eR.lst (minI (l.length:Int) 200).toNat (eR.els l),((minI (l.length:Int) 200).toNat:Int),(0:Int),(0:Int)))
 rw[e]
 refine ⟨⟨by omega,by omega⟩,fun e _=>eR.ok_els l e,?_⟩
 exact ixJ0 (by rw[El.lst_length]) (by rw[El.lst_length];omega) trivial
theorem rare5_ok:FnPure Tryd.prog 37 aLM5 dBool rare5_F (fun _=>[]):=rare5_okS _ fun l hb _=>by
 have hm:l.length≤maxLen:=hb.1
 have e:=minI_eq (l.length:Int) 100
 show rare5_side l
 unfold rare5_side
 show (0≤minI (l.length:Int) 100∧minI (l.length:Int) 100≤(l.length:Int))∧(∀ e:Nat,e<(minI (l.length:Int) 100).toNat→eM.Ok (eM.els l e))∧Lp.ixJ (fun c=>c.snd) (fun c=>c.fst) ra_K (ra_f (eM.lst (minI (l.length:Int) 100).toNat (eM.els l),((minI (l.length:Int) 100).toNat:Int),(0:Int),(0:Int),(0:Int)))
 rw[e]
 refine ⟨⟨by omega,by omega⟩,fun e _=>eM.ok_els l e,?_⟩
 exact ixJ0 (by rw[El.lst_length]) (by rw[El.lst_length];omega) trivial
theorem same5_ok:FnPure Tryd.prog 26 aLMM2 dBool (fun g=>decide (g.1=g.2)) (fun _=>[]):=by
 have h:=same5_okS (fun _=>[]) fun g hb _=>by
  obtain ⟨a,b⟩:=g
  have ha:a.length≤maxLen:=hb.1.1
  show same5_side a b
  unfold same5_side
  simp only[El.okL_eq,El.ag_eq]
  exact fun hc=>⟨trivial,trivial,ixJ0 rfl ha (ne_len hc)⟩
 refine pure_congr h fun g hb _=>?_
 obtain ⟨a,b⟩:=g
 have ha:a.length≤maxLen:=hb.1.1
 show same5_F a b=decide (a=b)
 unfold same5_F same5_q1
 simp only[El.ag_eq]
 cases hc:((a.length:Int) != (b.length:Int)) with
 | true=>
  have:a≠b:=fun e=>by subst e;simp at hc
  simp[this]
 | false=>
  have hl:=ne_len hc
  have h1:loopF (fun g:sb5_G=>sb5_R g.1 g.2.1 g.2.2.1 g.2.2.2) sb5_M (a,b,0,false)=_:=sb5_run (a,b) false rfl ha hl
  rw[h1]
  rcases scan_same (x:=0) b eM.dflt (st:=sb5_S (a,b)) (fun _ _ _=>rfl) a 0 false (by omega) with ⟨h2,h3⟩ | ⟨h2,h3,h4⟩
  ·have h3:scan 0 (sb5_S (a,b)) 0 a false=_:=h3
   rw[h3]
   rw[List.drop_zero] at h2
   simp[h2,exB]
  ·have h3:(scan 0 (sb5_S (a,b)) 0 a false).1=_:=h3
   have h4:(scan 0 (sb5_S (a,b)) 0 a false).2.2=_:=h4
   rw[List.drop_zero] at h2
   show (bif exB .ret (scan 0 (sb5_S (a,b)) 0 a false).1 then (scan 0 (sb5_S (a,b)) 0 a false).2.2 else true)=_
   rw[h3,h4]
   simp[h2,exB]
theorem keys5_ok:FnPure Tryd.prog 33 aLM5 (Rv.D rLR5) (fun l=>l.map (·.r)) (fun l=>[l.length≤1000000]):=by
 have key:∀ l:List Many,l.length≤1000000→keys5_side l∧keys5_F l=l.map (·.r):=fun l h=>by
  have hm:l.length≤maxLen:=Nat.le_trans h (by decide)
  have hq:keys5_q1 l=loopF ks5_RR ks5_M (ks5_g (0,(l,(l.length:Int)),[])):=by
   unfold keys5_q1
   rw[El.ag_eq]
   rfl
  rw[ks5_run l h] at hq
  unfold keys5_side keys5_F
  rw[hq]
  simp only[El.okL_eq,El.ag_eq]
  refine ⟨?_,rfl⟩
  have hJ:Lp.ixJ (fun c=>c.snd) (fun c=>c.fst) ks5_K (ks5_f (l,(l.length:Int),(0:Int),[])):=ixJ0 rfl hm ⟨h,by show (0:Int)≤0;decide⟩
  repeat' (first | exact hJ | apply And.intro | intro _)
  all_goals first | trivial | exact Nat.le_refl _
 exact pure_congr (keys5_okS _ fun l _ hp=>(key l (hp _ (List.mem_cons_self ..))).1) fun l _ hp=>(key l (hp _ (List.mem_cons_self ..))).2
end Go.Proofs.YtmegbepjdololaaDoor

namespace Go.Proofs.YtmegbepjdololaaDoor
open Go.RowKit Go.Sx
set_option maxRecDepth 100000
set_option linter.unusedVariables false
theorem mcl5 (xs:List Many):wTree Tryd.prog (PTab.gamz (PTab.nil:PTab Tryd.prog) [] []) noΛ 100 62 84 eM (aLM.enc xs) =
 Tr.all fun cs=>Tr.giv (cs.isEmpty=false→xs.length=(0:Nat)) (Tr.br (false != !cs.isEmpty) (Tr.ret []) (Tr.ask ((0:Nat)≤(0:Nat)∧(∀ (e:Nat),e<xs.length→(eM.els xs e).all SV.one=true)∧(0:Nat)+xs.length≤maxLen∧((0:Nat)+xs.length) * Tryd.prog.types[(84:Nat)].bytes≤(140737488355328:Nat)) (Tr.ask ((0:Nat)+xs.length=(0:Nat)+xs.length) (Tr.ask (∀ (e:Nat),e<min ((0:Nat)+xs.length) (0:Nat)→eM.OkP []) (Tr.ask (∀ (e:Nat),e<(0:Nat)+xs.length - (0:Nat)→True) (Tr.ret (List.map (fun x=>eM.get []) (List.range (min ((0:Nat)+xs.length) (0:Nat)))++eM.lst ((0:Nat)+xs.length - (0:Nat)) (eM.els xs)))))))):=by kernel_rfl
abbrev rl2_G:Type:=List Many×Int×Int×List Rec
noncomputable def rl2_LP:LP 1 rl2_G:=.pair (.slot 1 0 dLM) (.pair (.slot 1 4 dI) (.pair (.slot 1 5 dI) (.row 1 3 46 eR)))
noncomputable def rl2_R (xs:List Many) (i:Int) (n:Int) (o:List Rec):Ex×rl2_G:=
 bif decide (n<(xs.getD i.toNat eM.dflt).n) then (Ex.normal,eM.ag xs,i,IntKind.i64.wrap (n+(1:Int)),eR.lst (min (o.length+(1:Nat)) o.length) (eR.els o)++List.map (fun x=>(xs.getD i.toNat eM.dflt).r) (List.range (o.length+(1:Nat) - o.length)))
 else (Ex.exit (2:Nat),eM.ag xs,i,n,eR.ag o)
def rl2_side (xs:List Many) (i:Int) (n:Int) (o:List Rec):Prop:=
 ((0:Int)≤i∧i<(↑xs.length:Int))∧(decide (n<(xs.getD i.toNat eM.dflt).n)=true→((0:Int)≤i∧i<(↑xs.length:Int))∧(o.length≤o.length∧True∧o.length+(1:Nat)≤maxLen∧(o.length+(1:Nat)) * Tryd.prog.types[(46:Nat)].bytes≤(140737488355328:Nat))∧eM.okL xs∧o.length+(1:Nat)≤o.length+(1:Nat)∧(∀ (e:Nat),e<min (o.length+(1:Nat)) o.length→True)∧∀ (e:Nat),e<o.length+(1:Nat) - o.length→True)∧(decide (n<(xs.getD i.toNat eM.dflt).n)=false→eM.okL xs∧o.length≤o.length∧∀ (e:Nat),e<o.length→True)
theorem rl2_one:((loopsOf Tryd.prog 40).filter fun c=>Nat.beq (lkey c) 8).length=1:=by kernel_rfl
theorem rl2_es (g:rl2_G):(rl2_R g.1 g.2.1 g.2.2.1 g.2.2.2).1=.normal∨(rl2_R g.1 g.2.1 g.2.2.1 g.2.2.2).1∈([.exit 2]:List Ex):=by
 unfold rl2_R
 repeat' (first | (left;rfl) | (right;simp only[cond_true,cond_false];simp;done) | (rw[Bool.cond_eq_ite];split))
noncomputable abbrev rl2_C (Inv:rl2_G→List Prop) (m:rl2_G→Nat):LCon:=loopR [.exit 2] (loopBody Tryd.prog 40 8) rl2_LP [] 33 Inv (fun g=>rl2_R g.1 g.2.1 g.2.2.1 g.2.2.2) m
theorem rl2_loop (Inv:rl2_G→List Prop) (m:rl2_G→Nat) (hs:∀ g,allP (Inv g)→rl2_side g.1 g.2.1 g.2.2.1 g.2.2.2) (hg:Goes (fun g:rl2_G=>rl2_R g.1 g.2.1 g.2.2.1 g.2.2.2) m fun g=>allP (Inv g)):∀ b∈loopsOf Tryd.prog 40,lkey b=8→LoopOk Tryd.prog b (rl2_C Inv m).g:=loop_run (Γ:=(PTab.gamz tabG6 [] [])) (Λ:=noΛ) (PTab.okz tabG6 [] []) noΛ_ok 100 40 8 33 rl2_LP [] Inv (fun g=>rl2_R g.1 g.2.1 g.2.2.1 g.2.2.2) (fun g=>rl2_side g.1 g.2.1 g.2.2.1 g.2.2.2) m default [.exit 2] rl2_one (fun rd T B HL HB ds g=>by kernel_rfl) (fun rd T B HL HB ds g=>by kernel_rfl) hs hg rl2_es
end Go.Proofs.YtmegbepjdololaaDoor

namespace Go.Proofs.YtmegbepjdololaaDoor
open Go.RowKit Go.Sx Go.Lp
set_option maxRecDepth 100000
theorem clM5 (xs:List Many):List.map (fun _=>eM.get []) (List.range (min (0+xs.length) 0))++eM.lst (0+xs.length - 0) (eM.els xs)=xs:=by
 have h2:min (0+xs.length) 0=0:=by omega
 rw[h2,show 0+xs.length - 0=xs.length by omega,eM.lst_els]
 rfl
theorem bytM5 (h:84<Tryd.prog.types.size):(Tryd.prog.types[84]'h).bytes=32:=by kernel_rfl
theorem cloneM5_row:FnRow Tryd.prog 62 84 eM aLM (fun xs=>xs) (fun xs=>[xs.length≤KS]):=
 row_of_tree (PTab.okz (PTab.nil:PTab Tryd.prog) [] []) noΛ_ok 100 fun xs _ hp=>by
  have h:xs.length≤KS:=hp _ (List.mem_cons_self ..)
  unfold KS at h
  rw[mcl5]
  intro cs hcs
  refine ⟨fun hc=>?_,fun _=>⟨⟨Nat.le_refl _,fun e _=>eM.one_els xs e,by unfold maxLen;omega,by rw[bytM5];omega⟩,rfl,fun e he=>by omega,fun _ _=>trivial,?_⟩⟩
  ·have hx:xs=[]:=List.length_eq_zero_iff.1 (hcs (by cases hh:cs.isEmpty with
    | true=>rw[hh] at hc;cases hc
    | false=>rfl))
   exact hx.symm
  ·exact clM5 xs
end Go.Proofs.YtmegbepjdololaaDoor

namespace Go.Proofs.YtmegbepjdololaaDoor
open Go.RowKit Go.Sx
set_option maxRecDepth 100000
set_option linter.unusedVariables false
noncomputable def tabY2:MTab Tryd.prog:=((((((((((MTab.of tabG6).cons 16 (pconP .none dBool (fun _=>true) (fun _=>[])) (conP_ok lv_ok puB)).cons 23 (pconP aLR1 dBool few5_F (fun _=>[])) (conP_ok few5_ok puB)).cons 26 (pconP aLMM2 dBool (fun g=>decide (g.1=g.2)) (fun _=>[])) (conP_ok same5_ok puB)).cons 33 (pconR aLM5 (Rv.D rLR5) (fun l=>l.map (·.r)) (fun l=>[l.length≤1000000])) (conR_ok keys5_ok)).cons 32 (pconR aLMM2 dLME (fun g=>sumC g.1 g.2) (fun g=>[g.1.length≤200000,g.2.length≤200000])) (conR_ok smA_ok)).cons 34 (pconR aLMM2 dLME (fun g=>sumC g.1 g.2) (fun g=>[g.1.length≤200000,g.2.length≤200000])) (conR_ok smB_ok)).cons 35 (pconP aLM dI bagF (fun g=>[g.length≤KB])) (conP_ok cbb_ok puI)).cons 36 (pconP aLM dI bagF (fun g=>[g.length≤KB])) (conP_ok rcb_ok puI)).cons 37 (pconP aLM5 dBool rare5_F (fun _=>[])) (conP_ok rare5_ok puB)).cons 30 (pconP aLRR5 dBool (fun g=>decide (g.1=g.2)) (fun g=>[g.1.length≤KB])) (conP_ok elR_ok puB)
noncomputable def tabY2b:MTab Tryd.prog:=tabY2.consM 62 (bconRow 84 eM aLM (fun xs=>xs) (fun xs=>[xs.length≤KS])) (conRow_ok cloneM5_row)
end Go.Proofs.YtmegbepjdololaaDoor

namespace Go.Proofs.YtmegbepjdololaaDoor
open Go.RowKit Go.Sx
set_option maxRecDepth 100000
set_option linter.unusedVariables false
abbrev li_G:Type:=Int×Int×Unit×Unit×Many×List Rec×LoopState×Option Code
noncomputable def li_LP:LP 7 li_G:=.pair (.slot 7 12 dI) (.pair (.slot 7 13 dI) (.pair (.fix 7 0 (.yl 4)) (.pair (.fix 7 4 (.p 6 0)) (.pair (.obj 7 6 84 eM) (.pair (.objRow 7 2 32 46 eR) (.rf 7 4 Tryd.prog 80 0 13 [(2,.p 2 0)] 3))))))
noncomputable def li_R (k:Int) (n:Int) (_u:Unit) (_u2:Unit) (m:Many) (out:List Rec):Ex×li_G:=
 bif decide (n<k) then (Ex.normal,k,IntKind.i64.wrap (n+(1:Int)),(),(),m,eR.lst (min (out.length+(1:Nat)) out.length) (eR.els out)++List.map (fun x=>m.r) (List.range (out.length+(1:Nat) - out.length)),LoopState.ready,none)
 else (Ex.exit (2:Nat),k,n,(),(),m,eR.ag out,LoopState.ready,none)
def li_side (k:Int) (n:Int) (_u:Unit) (_u2:Unit) (m:Many) (out:List Rec):Prop:=
 (decide (n<k)=true→(out.length≤out.length∧True∧out.length+(1:Nat)≤maxLen∧(out.length+(1:Nat)) * Tryd.prog.types[(46:Nat)].bytes≤(140737488355328:Nat))∧out.length+(1:Nat)≤out.length+(1:Nat)∧(∀ (e:Nat),e<min (out.length+(1:Nat)) out.length→True)∧(∀ (e:Nat),e<out.length+(1:Nat) - out.length→True)∧CodeIs (rangeOf Tryd.prog (80:Nat) (0:Nat)).snd.fst (rangeOf Tryd.prog (80:Nat) (0:Nat)).snd.fst∧CodeIs (rangeOf Tryd.prog (80:Nat) (0:Nat)).snd.snd (rangeOf Tryd.prog (80:Nat) (0:Nat)).snd.snd)∧(decide (n<k)=false→out.length≤out.length∧(∀ (e:Nat),e<out.length→True)∧CodeIs (rangeOf Tryd.prog (80:Nat) (0:Nat)).snd.fst (rangeOf Tryd.prog (80:Nat) (0:Nat)).snd.fst∧CodeIs (rangeOf Tryd.prog (80:Nat) (0:Nat)).snd.snd (rangeOf Tryd.prog (80:Nat) (0:Nat)).snd.snd)
theorem li_one:((loopsOf Tryd.prog 79).filter fun c=>Nat.beq (lkey c) 4).length=1:=by kernel_rfl
def li_E:List ((Ex×li_G→Bool)×Ex×(li_G→li_G)):=[(fun x=>exB (.exit 2) x.1,.exit 2,fun g=>(g.1,g.2.1,g.2.2.1,g.2.2.2.1,g.2.2.2.2.1,g.2.2.2.2.2.1,(.ready,none)))]
theorem li_es (g:li_G):(li_R g.1 g.2.1 g.2.2.1 g.2.2.2.1 g.2.2.2.2.1 g.2.2.2.2.2.1).1=.normal∨exitsOk (li_R g.1 g.2.1 g.2.2.1 g.2.2.2.1 g.2.2.2.2.1 g.2.2.2.2.2.1) li_E:=by
 unfold li_R
 repeat' (first | (left;rfl) | (right;exact ⟨rfl,rfl⟩) | (rw[Bool.cond_eq_ite];split))
noncomputable abbrev li_C (Inv:li_G→List Prop) (m:li_G→Nat):LCon:=loopRS li_E (loopBody Tryd.prog 79 4) li_LP [] 22 Inv (fun g=>li_R g.1 g.2.1 g.2.2.1 g.2.2.2.1 g.2.2.2.2.1 g.2.2.2.2.2.1) m
noncomputable def li_i (g:li_G):li_G:=(g.1,g.2.1,g.2.2.1,g.2.2.2.1,g.2.2.2.2.1,g.2.2.2.2.2.1,(LoopState.ready,none))
theorem li_loop (Inv:li_G→List Prop) (m:li_G→Nat) (hs:∀ g,allP (Inv g)→li_side g.1 g.2.1 g.2.2.1 g.2.2.2.1 g.2.2.2.2.1 g.2.2.2.2.2.1) (hι:∀ g,allP (Inv g)→li_i g=g) (hg:Goes (fun g:li_G=>li_R g.1 g.2.1 g.2.2.1 g.2.2.2.1 g.2.2.2.2.1 g.2.2.2.2.2.1) m fun g=>allP (Inv g)):∀ b∈loopsOf Tryd.prog 79,lkey b=4→LoopOk Tryd.prog b (li_C Inv m).g:=loop_runS li_i (Γ:=(MTab.gamz tabY2b [] [])) (Λ:=noΛ) (MTab.okz tabY2b [] []) noΛ_ok 100 79 4 22 li_LP [] Inv (fun g=>li_R g.1 g.2.1 g.2.2.1 g.2.2.2.1 g.2.2.2.2.1 g.2.2.2.2.2.1) (fun g=>li_side g.1 g.2.1 g.2.2.1 g.2.2.2.1 g.2.2.2.2.1 g.2.2.2.2.2.1) m default li_E li_one (fun rd T B HL HB ds g=>by kernel_rfl) (fun rd T B HL HB ds g=>by kernel_rfl) hι hs hg li_es
end Go.Proofs.YtmegbepjdololaaDoor

namespace Go.Proofs.YtmegbepjdololaaDoor
open Go.RowKit Go.Sx Go.Lp
set_option maxRecDepth 100000
theorem byt46c (h:46<Tryd.prog.types.size):(Tryd.prog.types[(46:Nat)]'h).bytes=24:=by kernel_rfl
def repR (k:Int) (r:Rec):List Rec:=List.replicate k.toNat r
theorem repR_step {k n:Int} (h:n<k) (r:Rec) (o:List Rec):(o++[r])++repR (k - (n+1)) r=o++repR (k - n) r:=by
 unfold repR
 rw[show (k - n).toNat=(k - (n+1)).toNat+1 by omega,List.replicate_succ,List.append_assoc]
 rfl
theorem repR_zero {k n:Int} (h:¬ n<k) (r:Rec) (o:List Rec):o++repR (k - n) r=o:=by
 unfold repR
 rw[show (k - n).toNat=0 by omega]
 exact List.append_nil _
def li_P (k n:Int) (out:List Rec) (f:LoopState×Option Code):Prop:=f=(.ready,none)∧0≤n∧k≤1048576∧(n≤k→(out.length:Int)+(k - n)≤2000000000)∧(k<n→(out.length:Int)≤2000000000)
abbrev li_I (g:li_G):List Prop:=[li_P g.1 g.2.1 g.2.2.2.2.2.1 g.2.2.2.2.2.2]
abbrev li_M (g:li_G):Nat:=(g.1 - g.2.1).toNat
noncomputable abbrev li_RR (g:li_G):Ex×li_G:=li_R g.1 g.2.1 g.2.2.1 g.2.2.2.1 g.2.2.2.2.1 g.2.2.2.2.2.1
theorem li_RF (k n:Int) (m:Many) (out:List Rec) (h0:0≤n) (hk:k≤1048576):li_R k n () () m out=if n<k then (.normal,k,n+1,(),(),m,out++[m.r],.ready,none) else (.exit 2,k,n,(),(),m,out,.ready,none):=by
 unfold li_R
 simp only[El.ag_eq,lst_app1]
 by_cases h:n<k
 ·rw[if_pos h,decide_eq_true h,cond_true,wr64 (x:=n+1) (by omega)]
 ·rw[if_neg h,decide_eq_false h]
  rfl
theorem li_step {k n:Int} {out:List Rec} {f:LoopState×Option Code} (r:Rec) (h:li_P k n out f) (hlt:n<k):li_P k (n+1) (out++[r]) f:=by
 obtain ⟨h1,h2,h3,h4,h5⟩:=h
 have h4:=h4 (by omega)
 refine ⟨h1,by omega,h3,fun _=>?_,fun _=>by omega⟩
 rw[List.length_append]
 simp only[List.length_cons,List.length_nil]
 omega
theorem li_goes:Goes li_RR li_M fun g=>allP (li_I g):=by
 rintro ⟨k,n,⟨⟩,⟨⟩,m,out,f⟩ hi hn
 have h:li_P k n out f:=hi _ (List.mem_cons_self ..)
 have eq:li_RR (k,n,(),(),m,out,f)=_:=li_RF k n m out h.2.1 h.2.2.1
 rw[eq] at hn ⊢
 by_cases h0:n<k
 ·rw[if_pos h0]
  refine ⟨fun p hp=>?_,?_⟩
  ·rw[List.mem_singleton.1 hp]
   have hf:f=(.ready,none):=h.1
   have:=li_step m.r h h0
   rw[hf] at this
   exact this
  ·show (k - (n+1)).toNat<(k - n).toNat
   omega
 ·rw[if_neg h0] at hn;cases hn
theorem li_ok:∀ b∈loopsOf Tryd.prog 79,lkey b=4→LoopOk Tryd.prog b (li_C li_I li_M).g:=by
 refine li_loop li_I li_M (fun g hi=>?_) (fun g hi=>?_) li_goes
 ·obtain ⟨k,n,⟨⟩,⟨⟩,m,out,f⟩:=g
  obtain ⟨h1,h2,h3,h4,h5⟩:li_P k n out f:=hi _ (List.mem_cons_self ..)
  show li_side k n () () m out
  unfold li_side
  simp only[byt46c]
  unfold maxLen
  refine ⟨fun hc=>?_,fun _=>?_⟩
  ·have:=h4 (by have:=of_decide_eq_true hc;omega)
   have:=of_decide_eq_true hc
   repeat' (first | exact rfl | apply And.intro | intro _)
   all_goals (first | trivial | omega)
  ·repeat' (first | exact rfl | apply And.intro | intro _)
   all_goals (first | trivial | omega)
 ·obtain ⟨k,n,⟨⟩,⟨⟩,m,out,⟨st,pd⟩⟩:=g
  have h5:=(hi _ (List.mem_cons_self ..)).1
  have h5:(st,pd)=(LoopState.ready,(none:Option Code)):=h5
  cases h5
  rfl
theorem li_run (k n:Int) (m:Many) (out:List Rec) (h:li_P k n out (.ready,none)):∃ n',loopF li_RR li_M (k,n,(),(),m,out,(.ready,none))=(.exit 2,k,n',(),(),m,out++repR (k - n) m.r,(.ready,none)):=by
 refine loopF_induct li_goes (Q:=fun g r=>∃ n',r=(.exit 2,g.1,n',(),(),g.2.2.2.2.1,g.2.2.2.2.2.1++repR (g.1 - g.2.1) g.2.2.2.2.1.r,(.ready,none))) ?_ ?_ (k,n,(),(),m,out,(.ready,none)) (fun p hp=>by rw[List.mem_singleton.1 hp];exact h)
 ·rintro ⟨k,n,⟨⟩,⟨⟩,m,out,f⟩ hi hn
  have h:li_P k n out f:=hi _ (List.mem_cons_self ..)
  have eq:li_RR (k,n,(),(),m,out,f)=_:=li_RF k n m out h.2.1 h.2.2.1
  rw[eq] at hn ⊢
  by_cases h0:n<k
  ·rw[if_pos h0] at hn;exact absurd rfl hn
  ·rw[if_neg h0]
   refine ⟨n,?_⟩
   show _=(Ex.exit 2,k,n,(),(),m,out++repR (k - n) m.r,(LoopState.ready,(none:Option Code)))
   rw[repR_zero h0]
 ·rintro ⟨k,n,⟨⟩,⟨⟩,m,out,f⟩ g' r hi he _ _ hq
  have h:li_P k n out f:=hi _ (List.mem_cons_self ..)
  have eq:li_RR (k,n,(),(),m,out,f)=_:=li_RF k n m out h.2.1 h.2.2.1
  rw[eq] at he
  by_cases h0:n<k
  ·rw[if_pos h0] at he
   simp only[Prod.mk.injEq,true_and] at he
   subst he
   obtain ⟨n',hq⟩:=hq
   refine ⟨n',?_⟩
   rw[hq]
   show (Ex.exit 2,k,n',(),(),m,(out++[m.r])++repR (k - (n+1)) m.r,(LoopState.ready,(none:Option Code)))=(Ex.exit 2,k,n',(),(),m,out++repR (k - n) m.r,(LoopState.ready,(none:Option Code)))
   rw[repR_step h0]
  ·rw[if_neg h0] at he;cases he
def rl2_P (xs:List Many) (i n:Int) (o:List Rec):Prop:=0≤i∧i<(xs.length:Int)∧li_P (xs.getD i.toNat eM.dflt).n n o (.ready,none)
abbrev rl2_I (g:rl2_G):List Prop:=[rl2_P g.1 g.2.1 g.2.2.1 g.2.2.2]
abbrev rl2_M (g:rl2_G):Nat:=((g.1.getD g.2.1.toNat eM.dflt).n - g.2.2.1).toNat
noncomputable abbrev rl2_RR (g:rl2_G):Ex×rl2_G:=rl2_R g.1 g.2.1 g.2.2.1 g.2.2.2
theorem rl2_RF (xs:List Many) (i n:Int) (o:List Rec) (h:rl2_P xs i n o):rl2_R xs i n o=if n<(xs.getD i.toNat eM.dflt).n then (.normal,xs,i,n+1,o++[(xs.getD i.toNat eM.dflt).r]) else (.exit 2,xs,i,n,o):=by
 have h0:=h.2.2.2.1
 have hk:=h.2.2.2.2.1
 unfold rl2_R
 simp only[El.ag_eq,lst_app1]
 by_cases h:n<(xs.getD i.toNat eM.dflt).n
 ·rw[if_pos h,decide_eq_true h,cond_true,wr64 (x:=n+1) (by omega)]
 ·rw[if_neg h,decide_eq_false h]
  rfl
theorem rl2_goes:Goes rl2_RR rl2_M fun g=>allP (rl2_I g):=by
 rintro ⟨xs,i,n,o⟩ hi hn
 have h:rl2_P xs i n o:=hi _ (List.mem_cons_self ..)
 have eq:rl2_RR (xs,i,n,o)=_:=rl2_RF xs i n o h
 rw[eq] at hn ⊢
 by_cases h0:n<(xs.getD i.toNat eM.dflt).n
 ·rw[if_pos h0]
  refine ⟨fun p hp=>?_,?_⟩
  ·rw[List.mem_singleton.1 hp]
   exact ⟨h.1,h.2.1,li_step _ h.2.2 h0⟩
  ·show ((xs.getD i.toNat eM.dflt).n - (n+1)).toNat<((xs.getD i.toNat eM.dflt).n - n).toNat
   omega
 ·rw[if_neg h0] at hn;cases hn
theorem rl2_ok:∀ b∈loopsOf Tryd.prog 40,lkey b=8→LoopOk Tryd.prog b (rl2_C rl2_I rl2_M).g:=by
 refine rl2_loop rl2_I rl2_M (fun g hi=>?_) rl2_goes
 obtain ⟨xs,i,n,o⟩:=g
 obtain ⟨a1,a2,h1,h2,h3,h4,h5⟩:rl2_P xs i n o:=hi _ (List.mem_cons_self ..)
 show rl2_side xs i n o
 unfold rl2_side
 simp only[El.okL_eq,byt46c]
 unfold maxLen
 refine ⟨⟨a1,a2⟩,fun hc=>?_,fun _=>?_⟩
 ·have:=h4 (by have:=of_decide_eq_true hc;omega)
  have:=of_decide_eq_true hc
  repeat' (first | exact rfl | apply And.intro | intro _)
  all_goals (first | trivial | omega)
 ·repeat' (first | exact rfl | apply And.intro | intro _)
  all_goals (first | trivial | omega)
theorem rl2_run (xs:List Many) (i n:Int) (o:List Rec) (h:rl2_P xs i n o):∃ n',loopF rl2_RR rl2_M (xs,i,n,o)=(.exit 2,xs,i,n',o++repR ((xs.getD i.toNat eM.dflt).n - n) (xs.getD i.toNat eM.dflt).r):=by
 refine loopF_induct rl2_goes (Q:=fun g r=>∃ n',r=(.exit 2,g.1,g.2.1,n',g.2.2.2++repR ((g.1.getD g.2.1.toNat eM.dflt).n - g.2.2.1) (g.1.getD g.2.1.toNat eM.dflt).r)) ?_ ?_ (xs,i,n,o) (fun p hp=>by rw[List.mem_singleton.1 hp];exact h)
 ·rintro ⟨xs,i,n,o⟩ hi hn
  have h:rl2_P xs i n o:=hi _ (List.mem_cons_self ..)
  have eq:rl2_RR (xs,i,n,o)=_:=rl2_RF xs i n o h
  rw[eq] at hn ⊢
  by_cases h0:n<(xs.getD i.toNat eM.dflt).n
  ·rw[if_pos h0] at hn;exact absurd rfl hn
  ·rw[if_neg h0]
   refine ⟨n,?_⟩
   show _=(Ex.exit 2,xs,i,n,o++repR ((xs.getD i.toNat eM.dflt).n - n) (xs.getD i.toNat eM.dflt).r)
   rw[repR_zero h0]
 ·rintro ⟨xs,i,n,o⟩ g' r hi he _ _ hq
  have h:rl2_P xs i n o:=hi _ (List.mem_cons_self ..)
  have eq:rl2_RR (xs,i,n,o)=_:=rl2_RF xs i n o h
  rw[eq] at he
  by_cases h0:n<(xs.getD i.toNat eM.dflt).n
  ·rw[if_pos h0] at he
   simp only[Prod.mk.injEq,true_and] at he
   subst he
   obtain ⟨n',hq⟩:=hq
   refine ⟨n',?_⟩
   rw[hq]
   show (Ex.exit 2,xs,i,n',(o++[(xs.getD i.toNat eM.dflt).r])++repR ((xs.getD i.toNat eM.dflt).n - (n+1)) (xs.getD i.toNat eM.dflt).r)=(Ex.exit 2,xs,i,n',o++repR ((xs.getD i.toNat eM.dflt).n - n) (xs.getD i.toNat eM.dflt).r)
   rw[repR_step h0]
  ·rw[if_neg h0] at he;cases he
noncomputable def ltY4:LTab Tryd.prog:=(LTab.nil.cons 79 4 (li_C li_I li_M) li_ok).cons 40 8 (rl2_C rl2_I rl2_M) rl2_ok
noncomputable abbrev lamY4:Lam:=ltY4.lam
theorem lamY4_ok:∀ f k L,lamY4 f k=some L→∀ b∈loopsOf Tryd.prog f,lkey b=k→LoopOk Tryd.prog b L.g:=ltY4.ok
end Go.Proofs.YtmegbepjdololaaDoor

namespace Go.Proofs.YtmegbepjdololaaDoor
open Go.RowKit Go.Sx
set_option maxRecDepth 100000
set_option linter.unusedVariables false
noncomputable def lo_q1 (n:Int) (i:Int) (_u:Unit) (out:List Rec) (l:Nat) (xs:List Many):Ex ×
 li_G:=
 loopF (fun g=>li_R g.fst g.snd.fst g.snd.snd.fst g.snd.snd.snd.fst g.snd.snd.snd.snd.fst g.snd.snd.snd.snd.snd.fst) li_M ((xs.getD i.toNat eM.dflt).n,(0:Int),(),(),xs.getD i.toNat eM.dflt,eR.ag out,LoopState.ready,none)
abbrev lo_G:Type:=Int×Int×Unit×List Rec×Nat×List Many×LoopState×Option Code
noncomputable def lo_LP:LP 5 lo_G:=.pair (.slot 5 6 dI) (.pair (.slot 5 7 dI) (.pair (.fix 5 0 (.yl 4)) (.pair (.objRow 5 2 32 46 eR) (.pair (.owl 5 5 1) (.pair (.rowO 5 1 84 eM) (.rf 5 4 Tryd.prog 80 0 13 [(2,.p 2 0)] 3))))))
noncomputable def lo_R (n:Int) (i:Int) (_u:Unit) (out:List Rec) (l:Nat) (xs:List Many):Ex×lo_G:=
 bif decide (i<n) then (Ex.normal,n,IntKind.i64.wrap (i+(1:Int)),(),eR.ag (lo_q1 n i _u out l xs).snd.snd.snd.snd.snd.snd.fst,l,eM.ag xs,LoopState.ready,none)
 else (Ex.exit (0:Nat),n,i,(),eR.ag out,l,eM.ag xs,LoopState.ready,none)
def lo_side (n:Int) (i:Int) (_u:Unit) (out:List Rec) (l:Nat) (xs:List Many):Prop:=
 (decide (i<n)=true→((0:Int)≤i∧i<(↑l:Int))∧i.toNat<xs.length∧out.length≤out.length∧(∀ (e:Nat),e<out.length→True)∧CodeIs (rangeOf Tryd.prog (80:Nat) (0:Nat)).snd.fst (rangeOf Tryd.prog (80:Nat) (0:Nat)).snd.fst∧CodeIs (rangeOf Tryd.prog (80:Nat) (0:Nat)).snd.snd (rangeOf Tryd.prog (80:Nat) (0:Nat)).snd.snd∧li_P (xs.getD i.toNat eM.dflt).n (0:Int) (eR.ag out) (LoopState.ready,none)∧(lo_q1 n i _u out l xs).snd.snd.snd.snd.snd.snd.fst.length≤(lo_q1 n i _u out l xs).snd.snd.snd.snd.snd.snd.fst.length∧(∀ (e:Nat),e<(lo_q1 n i _u out l xs).snd.snd.snd.snd.snd.snd.fst.length→True)∧(∀ (e:Nat),e<xs.length→True)∧CodeIs (rangeOf Tryd.prog (80:Nat) (0:Nat)).snd.fst (rangeOf Tryd.prog (80:Nat) (0:Nat)).snd.fst∧CodeIs (rangeOf Tryd.prog (80:Nat) (0:Nat)).snd.snd (rangeOf Tryd.prog (80:Nat) (0:Nat)).snd.snd)∧(decide (i<n)=false→out.length≤out.length∧(∀ (e:Nat),e<out.length→True)∧(∀ (e:Nat),e<xs.length→True)∧CodeIs (rangeOf Tryd.prog (80:Nat) (0:Nat)).snd.fst (rangeOf Tryd.prog (80:Nat) (0:Nat)).snd.fst∧CodeIs (rangeOf Tryd.prog (80:Nat) (0:Nat)).snd.snd (rangeOf Tryd.prog (80:Nat) (0:Nat)).snd.snd)
theorem lo_one:((loopsOf Tryd.prog 79).filter fun c=>Nat.beq (lkey c) 1).length=1:=by kernel_rfl
abbrev lo_GC:Type:=Int×Nat×List Many
abbrev lo_GB:Type:=Unit×List Rec×LoopState×Option Code
def lo_f (g:lo_G):Int×lo_GC×lo_GB:=(g.2.1,(g.1,g.2.2.2.2.1,g.2.2.2.2.2.1),(g.2.2.1,g.2.2.2.1,g.2.2.2.2.2.2))
def lo_g (d:Int×lo_GC×lo_GB):lo_G:=(d.2.1.1,d.1,d.2.2.1,d.2.2.2.1,d.2.1.2.1,d.2.1.2.2,d.2.2.2.2)
def lo_E:List ((Ex×lo_G→Bool)×Ex×(lo_G→lo_G)):=[(fun x=>exB (.exit 0) x.1,.exit 0,fun g=>(g.1,g.2.1,g.2.2.1,g.2.2.2.1,g.2.2.2.2.1,g.2.2.2.2.2.1,(.ready,none)))]
theorem lo_es (g:lo_G):(lo_R g.1 g.2.1 g.2.2.1 g.2.2.2.1 g.2.2.2.2.1 g.2.2.2.2.2.1).1=.normal∨exitsOk (lo_R g.1 g.2.1 g.2.2.1 g.2.2.2.1 g.2.2.2.2.1 g.2.2.2.2.2.1) lo_E:=by
 unfold lo_R
 repeat' (first | (left;rfl) | (right;exact ⟨rfl,rfl⟩) | (rw[Bool.cond_eq_ite];split))
noncomputable abbrev lo_C (Inv:lo_G→List Prop) (m:lo_G→Nat):LCon:=loopRS lo_E (loopBody Tryd.prog 79 1) lo_LP [] 22 Inv (fun g=>lo_R g.1 g.2.1 g.2.2.1 g.2.2.2.1 g.2.2.2.2.1 g.2.2.2.2.2.1) m
noncomputable def lo_i (g:lo_G):lo_G:=(g.1,g.2.1,g.2.2.1,g.2.2.2.1,g.2.2.2.2.1,g.2.2.2.2.2.1,(LoopState.ready,none))
theorem lo_loop (Inv:lo_G→List Prop) (m:lo_G→Nat) (hs:∀ g,allP (Inv g)→lo_side g.1 g.2.1 g.2.2.1 g.2.2.2.1 g.2.2.2.2.1 g.2.2.2.2.2.1) (hι:∀ g,allP (Inv g)→lo_i g=g) (hg:Goes (fun g:lo_G=>lo_R g.1 g.2.1 g.2.2.1 g.2.2.2.1 g.2.2.2.2.1 g.2.2.2.2.2.1) m fun g=>allP (Inv g)):∀ b∈loopsOf Tryd.prog 79,lkey b=1→LoopOk Tryd.prog b (lo_C Inv m).g:=loop_runS lo_i (Γ:=(MTab.gamz tabY2b [] [])) (Λ:=lamY4) (MTab.okz tabY2b [] []) lamY4_ok 100 79 1 22 lo_LP [] Inv (fun g=>lo_R g.1 g.2.1 g.2.2.1 g.2.2.2.1 g.2.2.2.2.1 g.2.2.2.2.2.1) (fun g=>lo_side g.1 g.2.1 g.2.2.1 g.2.2.2.1 g.2.2.2.2.1 g.2.2.2.2.2.1) m default lo_E lo_one (fun rd T B HL HB ds g=>by kernel_rfl) (fun rd T B HL HB ds g=>by kernel_rfl) hι hs hg lo_es
noncomputable def rl1_q1 (xs:List Many) (i:Int) (o:List Rec):Ex ×
 rl2_G:=
 loopF (fun g=>rl2_R g.fst g.snd.fst g.snd.snd.fst g.snd.snd.snd) rl2_M (eM.ag xs,i,(0:Int),eR.ag o)
abbrev rl1_G:Type:=List Many×Int×List Rec
noncomputable def rl1_LP:LP 0 rl1_G:=.pair (.slot 0 0 dLM) (.pair (.slot 0 4 dI) (.row 0 3 46 eR))
noncomputable def rl1_R (xs:List Many) (i:Int) (o:List Rec):Ex×rl1_G:=
 bif decide (i<(↑xs.length:Int)) then (Ex.normal,eM.ag (rl1_q1 xs i o).snd.fst,IntKind.i64.wrap ((rl1_q1 xs i o).snd.snd.fst+(1:Int)),eR.ag (rl1_q1 xs i o).snd.snd.snd.snd)
 else (Ex.exit (0:Nat),eM.ag xs,i,eR.ag o)
def rl1_side (xs:List Many) (i:Int) (o:List Rec):Prop:=
 (decide (i<(↑xs.length:Int))=true→eM.okL xs∧o.length≤o.length∧(∀ (e:Nat),e<o.length→True)∧rl2_P (eM.ag xs) i (0:Int) (eR.ag o)∧eM.okL (rl1_q1 xs i o).snd.fst∧(rl1_q1 xs i o).snd.snd.snd.snd.length≤(rl1_q1 xs i o).snd.snd.snd.snd.length∧∀ (e:Nat),e<(rl1_q1 xs i o).snd.snd.snd.snd.length→True)∧(decide (i<(↑xs.length:Int))=false→eM.okL xs∧o.length≤o.length∧∀ (e:Nat),e<o.length→True)
theorem rl1_one:((loopsOf Tryd.prog 40).filter fun c=>Nat.beq (lkey c) 5).length=1:=by kernel_rfl
abbrev rl1_GC:Type:=List Many
abbrev rl1_GB:Type:=List Rec
def rl1_f (g:rl1_G):Int×rl1_GC×rl1_GB:=(g.2.1,g.1,g.2.2)
def rl1_g (d:Int×rl1_GC×rl1_GB):rl1_G:=(d.2.1,d.1,d.2.2)
theorem rl1_es (g:rl1_G):(rl1_R g.1 g.2.1 g.2.2).1=.normal∨(rl1_R g.1 g.2.1 g.2.2).1∈([.exit 0]:List Ex):=by
 unfold rl1_R
 repeat' (first | (left;rfl) | (right;simp only[cond_true,cond_false];simp;done) | (rw[Bool.cond_eq_ite];split))
noncomputable abbrev rl1_C (Inv:rl1_G→List Prop) (m:rl1_G→Nat):LCon:=loopR [.exit 0] (loopBody Tryd.prog 40 5) rl1_LP [] 33 Inv (fun g=>rl1_R g.1 g.2.1 g.2.2) m
theorem rl1_loop (Inv:rl1_G→List Prop) (m:rl1_G→Nat) (hs:∀ g,allP (Inv g)→rl1_side g.1 g.2.1 g.2.2) (hg:Goes (fun g:rl1_G=>rl1_R g.1 g.2.1 g.2.2) m fun g=>allP (Inv g)):∀ b∈loopsOf Tryd.prog 40,lkey b=5→LoopOk Tryd.prog b (rl1_C Inv m).g:=loop_run (Γ:=(MTab.gamz tabY2b [] [])) (Λ:=lamY4) (MTab.okz tabY2b [] []) lamY4_ok 100 40 5 33 rl1_LP [] Inv (fun g=>rl1_R g.1 g.2.1 g.2.2) (fun g=>rl1_side g.1 g.2.1 g.2.2) m default [.exit 0] rl1_one (fun rd T B HL HB ds g=>by kernel_rfl) (fun rd T B HL HB ds g=>by kernel_rfl) hs hg rl1_es
end Go.Proofs.YtmegbepjdololaaDoor

namespace Go.Proofs.YtmegbepjdololaaDoor
open Go.RowKit Go.Sx Go.Lp
set_option maxRecDepth 100000
def listM (l:List Many):List Rec:=l.flatMap fun v=>repR v.n v.r
theorem repR_len (k:Int) (r:Rec):(repR k r).length=k.toNat:=List.length_replicate
def Bnd (xs:List Many) (out:List Rec) (i:Int):Prop:=xs.length≤1000∧(∀ e:Nat,(xs.getD e eM.dflt).n≤1048576)∧(out.length:Int)≤1048576 * i
theorem bnd_in {xs:List Many} {out:List Rec} {i:Int} (h:Bnd xs out i) (h0:0≤i) (h1:i<(xs.length:Int)):li_P (xs.getD i.toNat eM.dflt).n 0 out (.ready,none):=by
 obtain ⟨a1,a2,a3⟩:=h
 have:=a2 i.toNat
 exact ⟨rfl,Int.le_refl _,this,fun _=>by omega,fun _=>by omega⟩
theorem bnd_step {xs:List Many} {out:List Rec} {i:Int} (h:Bnd xs out i) (k:Int) (hk:k≤1048576) (r:Rec):Bnd xs (out++repR k r) (i+1):=by
 obtain ⟨a1,a2,a3⟩:=h
 refine ⟨a1,a2,?_⟩
 rw[List.length_append,repR_len]
 omega
theorem getD_at {xs:List Many} {i:Nat} {a:Many} (h:xs[i]?=some a):xs.getD i eM.dflt=a:=by rw[List.getD_eq_getElem?_getD,h];rfl
noncomputable def lo_S (_:lo_GC) (b:lo_GB) (_:Int) (v:Many):Ex×lo_GB:=(.normal,(),b.2.1++repR v.n v.r,.ready,none)
def lo_K (c:lo_GC) (b:lo_GB) (i:Int):Prop:=b.2.2=(LoopState.ready,(none:Option Code))∧c.2.1=c.2.2.length∧Bnd c.2.2 b.2.1 i
abbrev lo_I (g:lo_G):List Prop:=ixI (fun c:lo_GC=>c.1) (fun c=>c.2.2) lo_K (lo_f g)
abbrev lo_M (g:lo_G):Nat:=ixM (fun c:lo_GC=>c.1) (lo_f g)
theorem lo_P:ixP lo_S (fun c:lo_GC=>c.2.2) lo_K:=by
 rintro ⟨n,l,xs⟩ ⟨⟨⟩,out,f⟩ i a ⟨h1,h2,h3⟩ ha _
 have ha:xs[i]?=some a:=ha
 have h3:Bnd xs out i:=h3
 refine ⟨rfl,h2,?_⟩
 have:=h3.2.1 i
 rw[getD_at ha] at this
 exact bnd_step h3 _ this _
noncomputable abbrev lo_RR (g:lo_G):Ex×lo_G:=lo_R g.1 g.2.1 g.2.2.1 g.2.2.2.1 g.2.2.2.2.1 g.2.2.2.2.2.1
theorem lo_RF (d:Int×lo_GC×lo_GB) (hi:allP (ixI (fun c:lo_GC=>c.1) (fun c=>c.2.2) lo_K d)):lo_RR (lo_g d)=((ixF 0 (fun c:lo_GC=>c.1) (fun c=>c.2.2) eM.dflt lo_S d).1,lo_g (ixF 0 (fun c:lo_GC=>c.1) (fun c=>c.2.2) eM.dflt lo_S d).2):=by
 obtain ⟨h1,h2,h3,h4,hb,h6,h7⟩:=hi _ (List.mem_cons_self ..)
 obtain ⟨i,⟨n,l,xs⟩,⟨⟨⟩,out,f⟩⟩:=d
 have hb:f=(LoopState.ready,(none:Option Code)):=hb
 have h1:n=(xs.length:Int):=h1
 have h3:0≤i:=h3
 have h7:Bnd xs out i:=h7
 subst hb
 show lo_R n i () out l xs=_
 unfold lo_R ixF lo_S
 simp only[El.ag_eq]
 by_cases hlt:i<n
 ·obtain ⟨n',hr⟩:=li_run (xs.getD i.toNat eM.dflt).n 0 (xs.getD i.toNat eM.dflt) out (bnd_in h7 h3 (by omega))
  have hq:lo_q1 n i () out l xs=(.exit 2,(xs.getD i.toNat eM.dflt).n,n',(),(),xs.getD i.toNat eM.dflt,out++repR (xs.getD i.toNat eM.dflt).n (xs.getD i.toNat eM.dflt).r,(.ready,none)):=by
   have:lo_q1 n i () out l xs=loopF li_RR li_M ((xs.getD i.toNat eM.dflt).n,0,(),(),xs.getD i.toNat eM.dflt,out,(.ready,none)):=by
    unfold lo_q1
    rw[El.ag_eq]
   rw[this,hr,Int.sub_zero]
  rw[hq,decide_eq_true hlt]
  rfl
 ·rw[decide_eq_false hlt]
  rfl
theorem lo_ok:∀ b∈loopsOf Tryd.prog 79,lkey b=1→LoopOk Tryd.prog b (lo_C lo_I lo_M).g:=by
 refine lo_loop lo_I lo_M (fun g hi=>?_) (fun g hi=>?_) (ix_conj_goes (fun _=>rfl) (fun _=>rfl) lo_RF lo_P)
 ·obtain ⟨n,i,⟨⟩,out,l,xs,⟨st,pd⟩⟩:=g
  obtain ⟨h1,h2,h3,h4,h5,h6,h7⟩:=hi _ (List.mem_cons_self ..)
  have h1:n=(xs.length:Int):=h1
  have h3:0≤i:=h3
  have h6:l=xs.length:=h6
  have h7:Bnd xs out i:=h7
  have h4:i≤(xs.length:Int):=h4
  show lo_side n i () out l xs
  unfold lo_side
  simp only[El.ag_eq]
  subst h6
  clear hi
  refine ⟨fun hc=>?_,fun _=>?_⟩
  ·have hlt:=of_decide_eq_true hc
   have hlt':i<(xs.length:Int):=h1▸hlt
   have hP:=bnd_in h7 h3 hlt'
   repeat' (first | exact rfl | exact hP | apply And.intro | intro _)
   all_goals (first | trivial | omega)
  ·repeat' (first | exact rfl | apply And.intro | intro _)
   all_goals (first | trivial | omega)
 ·obtain ⟨n,i,⟨⟩,out,l,xs,⟨st,pd⟩⟩:=g
  have h5:=(hi _ (List.mem_cons_self ..)).2.2.2.2.1
  have h5:(st,pd)=(LoopState.ready,(none:Option Code)):=h5
  cases h5
  rfl
theorem lo_run (xs:List Many) (h:Bnd xs [] 0):loopF lo_RR lo_M ((xs.length:Int),0,(),[],xs.length,xs,(.ready,none))=(.exit 0,(xs.length:Int),(xs.length:Int),(),listM xs,xs.length,xs,(.ready,none)):=by
 have hm:xs.length≤maxLen:=by have:=h.1;unfold maxLen;omega
 have hr:loopF lo_RR lo_M ((xs.length:Int),0,(),[],xs.length,xs,(.ready,none))=_:=ix_conj_run (φ:=lo_f) (ψ:=lo_g) (fun _=>rfl) (fun _=>rfl) lo_RF lo_P ((xs.length:Int),xs.length,xs) ((),[],.ready,none) rfl hm ⟨rfl,rfl,h⟩
 have hf:∀ (l:List Many) (b:List Rec),l.foldl (fun (b:lo_GB) (v:Many)=>((),b.2.1++repR v.n v.r,LoopState.ready,(none:Option Code))) ((),b,LoopState.ready,(none:Option Code))=((),b++listM l,LoopState.ready,none):=by
  intro l
  induction l with
  | nil=>intro b;show _=((),b++[],_);rw[List.append_nil];rfl
  | cons a l ih=>
   intro b
   rw[List.foldl_cons,ih]
   show ((),(b++repR a.n a.r)++listM l,_)=((),b++listM (a :: l),_)
   unfold listM
   rw[List.flatMap_cons,List.append_assoc]
 have hs:=scan_fold (x:=0) (st:=lo_S ((xs.length:Int),xs.length,xs)) (f:=fun (b:lo_GB) (v:Many)=>((),b.2.1++repR v.n v.r,LoopState.ready,(none:Option Code))) (fun _ _ _=>rfl) xs 0 ((),[],LoopState.ready,none)
 rw[hf] at hs
 rw[hr]
 show ((scan 0 (lo_S ((xs.length:Int),xs.length,xs)) 0 xs ((),[],.ready,none)).1,lo_g ((scan 0 (lo_S ((xs.length:Int),xs.length,xs)) 0 xs ((),[],.ready,none)).2.1,((xs.length:Int),xs.length,xs),(scan 0 (lo_S ((xs.length:Int),xs.length,xs)) 0 xs ((),[],.ready,none)).2.2))=_
 rw[hs,Int.zero_add]
 rfl
noncomputable def rl1_S (_:rl1_GC) (b:rl1_GB) (_:Int) (v:Many):Ex×rl1_GB:=(.normal,b++repR v.n v.r)
def rl1_K (c:rl1_GC) (b:rl1_GB) (i:Int):Prop:=Bnd c b i
abbrev rl1_I (g:rl1_G):List Prop:=ixI (fun c:rl1_GC=>(List.length c:Int)) (fun c=>c) rl1_K (rl1_f g)
abbrev rl1_M (g:rl1_G):Nat:=ixM (fun c:rl1_GC=>(List.length c:Int)) (rl1_f g)
theorem rl1_P:ixP rl1_S (fun c:rl1_GC=>c) rl1_K:=by
 intro xs out i a h ha _
 have h3:Bnd xs out i:=h
 have ha:xs[i]?=some a:=ha
 have:=h3.2.1 i
 rw[getD_at ha] at this
 exact bnd_step h3 _ this _
noncomputable abbrev rl1_RR (g:rl1_G):Ex×rl1_G:=rl1_R g.1 g.2.1 g.2.2
theorem rl1_RF (d:Int×rl1_GC×rl1_GB) (hi:allP (ixI (fun c:rl1_GC=>(List.length c:Int)) (fun c=>c) rl1_K d)):rl1_RR (rl1_g d)=((ixF 0 (fun c:rl1_GC=>(List.length c:Int)) (fun c=>c) eM.dflt rl1_S d).1,rl1_g (ixF 0 (fun c:rl1_GC=>(List.length c:Int)) (fun c=>c) eM.dflt rl1_S d).2):=by
 obtain ⟨h1,h2,h3,h4,h7⟩:=hi _ (List.mem_cons_self ..)
 obtain ⟨i,xs,out⟩:=d
 have h3:0≤i:=h3
 have h7:Bnd xs out i:=h7
 have h2:xs.length≤maxLen:=h2
 show rl1_R xs i out=_
 unfold rl1_R ixF rl1_S
 simp only[El.ag_eq]
 by_cases hlt:i<(xs.length:Int)
 ·obtain ⟨n',hr⟩:=rl2_run xs i 0 out ⟨h3,hlt,bnd_in h7 h3 hlt⟩
  have hq:rl1_q1 xs i out=(.exit 2,xs,i,n',out++repR (xs.getD i.toNat eM.dflt).n (xs.getD i.toNat eM.dflt).r):=by
   have:rl1_q1 xs i out=loopF rl2_RR rl2_M (xs,i,0,out):=by
    unfold rl1_q1
    simp only[El.ag_eq]
   rw[this,hr,Int.sub_zero]
  rw[hq,decide_eq_true hlt]
  rfl
 ·rw[decide_eq_false hlt]
  rfl
theorem rl1_ok:∀ b∈loopsOf Tryd.prog 40,lkey b=5→LoopOk Tryd.prog b (rl1_C rl1_I rl1_M).g:=by
 refine rl1_loop rl1_I rl1_M (fun g hi=>?_) (ix_conj_goes (fun _=>rfl) (fun _=>rfl) rl1_RF rl1_P)
 obtain ⟨xs,i,out⟩:=g
 obtain ⟨h1,h2,h3,h4,h7⟩:=hi _ (List.mem_cons_self ..)
 have h3:0≤i:=h3
 have h7:Bnd xs out i:=h7
 show rl1_side xs i out
 unfold rl1_side
 simp only[El.okL_eq,El.ag_eq]
 refine ⟨fun hc=>?_,fun _=>?_⟩
 ·have hlt:=of_decide_eq_true hc
  have hP:rl2_P xs i 0 out:=⟨h3,hlt,bnd_in h7 h3 hlt⟩
  repeat' (first | exact rfl | exact hP | apply And.intro | intro _)
  all_goals (first | trivial | omega)
 ·repeat' (first | exact rfl | apply And.intro | intro _)
  all_goals (first | trivial | omega)
theorem rl1_run (xs:List Many) (h:Bnd xs [] 0):loopF rl1_RR rl1_M (xs,0,[])=(.exit 0,xs,(xs.length:Int),listM xs):=by
 have hm:xs.length≤maxLen:=by have:=h.1;unfold maxLen;omega
 have hr:loopF rl1_RR rl1_M (xs,0,[])=_:=ix_conj_run (φ:=rl1_f) (ψ:=rl1_g) (fun _=>rfl) (fun _=>rfl) rl1_RF rl1_P xs [] rfl hm h
 have hf:∀ (l:List Many) (b:List Rec),l.foldl (fun (b:List Rec) (v:Many)=>b++repR v.n v.r) b=b++listM l:=by
  intro l
  induction l with
  | nil=>intro b;show b=b++[];rw[List.append_nil]
  | cons a l ih=>
   intro b
   rw[List.foldl_cons,ih]
   unfold listM
   rw[List.flatMap_cons,List.append_assoc]
 have hs:scan 0 (rl1_S xs) 0 xs []=_:=scan_fold (x:=0) (st:=rl1_S xs) (f:=fun (b:List Rec) (v:Many)=>b++repR v.n v.r) (fun _ _ _=>rfl) xs 0 []
 rw[hf,List.nil_append,Int.zero_add] at hs
 rw[hr]
 show ((scan 0 (rl1_S xs) 0 xs []).1,rl1_g ((scan 0 (rl1_S xs) 0 xs []).2.1,xs,(scan 0 (rl1_S xs) 0 xs []).2.2))=_
 rw[hs]
 rfl
noncomputable def ltY6:LTab Tryd.prog:=(ltY4.cons 79 1 (lo_C lo_I lo_M) lo_ok).cons 40 5 (rl1_C rl1_I rl1_M) rl1_ok
noncomputable abbrev lamY6:Lam:=ltY6.lam
theorem lamY6_ok:∀ f k L,lamY6 f k=some L→∀ b∈loopsOf Tryd.prog f,lkey b=k→LoopOk Tryd.prog b L.g:=ltY6.ok
end Go.Proofs.YtmegbepjdololaaDoor

namespace Go.Proofs.YtmegbepjdololaaDoor
open Go.RowKit Go.Sx
set_option maxRecDepth 100000
set_option linter.unusedVariables false
noncomputable def rlst_q1 (l:List Many):Ex×rl1_G:=
 loopF (fun g=>rl1_R g.fst g.snd.fst g.snd.snd) rl1_M (eM.ag l,(0:Int),[])
noncomputable def rlst_F (l:List Many):Rv.T rLR5:=
 bif bagF (eM.ag l) != (0:Int) then [] else eR.ag (rlst_q1 l).snd.snd.snd
def rlst_side (l:List Many):Prop:=
 eM.okL l∧(eM.ag l).length≤KB∧((bagF (eM.ag l) != (0:Int))=false→eM.okL l∧Lp.ixJ (fun c=>(↑(List.length c):Int)) (fun c=>c) rl1_K (rl1_f (eM.ag l,(0:Int),[]))∧(rlst_q1 l).snd.snd.snd.length≤(rlst_q1 l).snd.snd.snd.length∧∀ (e:Nat),e<(rlst_q1 l).snd.snd.snd.length→True)
theorem rlst_okS (pre:DA.T aLM5→List Prop) (h:∀ g,DA.bd aLM5 g→(∀ p∈pre g,p)→rlst_side g):FnPure Tryd.prog 40 aLM5 (Rv.D rLR5) (fun g=>rlst_F g) pre:=res_of_side (R:=rLR5) (Γ:=(MTab.gamz tabY2b [] [])) (Λ:=lamY6) (MTab.okz tabY2b [] []) lamY6_ok 100 default (fun g=>rlst_side g) (fun g=>by kernel_rfl) (fun g=>by kernel_rfl) h
end Go.Proofs.YtmegbepjdololaaDoor

namespace Go.Proofs.YtmegbepjdololaaDoor
open Go.RowKit Go.Sx Go.Lp
set_option maxRecDepth 100000
noncomputable def listC (l:List Many):List Rec:=bif bagF l != (0:Int) then [] else listM l
theorem bnd_bag {l:List Many} (hl:l.length≤1000) (h:bagF l=0):Bnd l [] 0:=⟨hl,fun e=>by
 rw[List.getD_eq_getElem?_getD]
 cases he:l[e]? with
 | none=>show (eM.dflt).n≤1048576;exact (by decide:(0:Int)≤1048576)
 | some v=>
  have:=bag_pos h v (List.mem_of_getElem? he)
  show v.n≤_
  omega,by rw[List.length_nil];exact Int.le_refl _⟩
theorem rlst_ok:FnPure Tryd.prog 40 aLM5 (Rv.D rLR5) listC (fun l=>[l.length≤1000]):=by
 have key:∀ l:List Many,l.length≤1000→rlst_side l∧rlst_F l=listC l:=fun l hl=>by
  have hq:bagF l=0→rlst_q1 l=(.exit 0,l,(l.length:Int),listM l):=fun h=>by
   rw[← rl1_run l (bnd_bag hl h)]
   unfold rlst_q1
   rw[El.ag_eq]
  unfold rlst_side rlst_F listC
  simp only[El.okL_eq,El.ag_eq]
  refine ⟨⟨trivial,by unfold KB;omega,fun hz=>?_⟩,?_⟩
  ·have hb:bagF l=0:=by simpa using hz
   rw[hq hb]
   exact ⟨trivial,ixJ0 rfl (by show l.length≤maxLen;unfold maxLen;omega) (bnd_bag hl hb),Nat.le_refl _,fun _ _=>trivial⟩
  ·cases hz:bagF l != (0:Int) with
   | true=>rfl
   | false=>
    have hb:bagF l=0:=by simpa using hz
    rw[hq hb]
 exact pure_congr (rlst_okS _ fun l _ hp=>(key l (hp _ (List.mem_cons_self ..))).1) fun l _ hp=>(key l (hp _ (List.mem_cons_self ..))).2
end Go.Proofs.YtmegbepjdololaaDoor
