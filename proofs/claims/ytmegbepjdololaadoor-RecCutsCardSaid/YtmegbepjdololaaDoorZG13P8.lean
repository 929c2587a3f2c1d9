/- Chapter 5: a number's digits: the loops' contracts. -/
import Derived.Test.YtmegbepjdololaaDoorZG12e0d7dc
import Derived.Test.YtmegbepjdololaaDoorZG076951d8
import Derived.Test.YtmegbepjdololaaDoorZG06cc4b13
import Derived.Test.YtmegbepjdololaaDoorZG09b96abd
import Derived.Test.YtmegbepjdololaaDoorZG105170da
import Derived.Test.YtmegbepjdololaaDoorZG0804be18
import Derived.Test.YtmegbepjdololaaDoorCards
set_option linter.unusedVariables false
set_option linter.unusedSimpArgs false
set_option linter.constructorNameAsVariable false
set_option linter.all false

namespace Go.Proofs.YtmegbepjdololaaDoor
open Go.RowKit Go.Sx Go.Lp
theorem wrU {x:Int} (h:0≤x∧x<18446744073709551616):IntKind.u64.wrap x=x:=by
 simp[IntKind.wrap,IntKind.signed,IntKind.bits]
 omega
theorem wrB {x:Int} (h:0≤x∧x<256):IntKind.u8.wrap x=x:=by
 simp[IntKind.wrap,IntKind.signed,IntKind.bits]
 omega
def put21 (b:A21) (k:Nat) (x:Int):A21:=
 (bif decide (k=0) then x else b.1,bif decide (k=1) then x else b.2.1,bif decide (k=2) then x else b.2.2.1,bif decide (k=3) then x else b.2.2.2.1,bif decide (k=4) then x else b.2.2.2.2.1,bif decide (k=5) then x else b.2.2.2.2.2.1,bif decide (k=6) then x else b.2.2.2.2.2.2.1,bif decide (k=7) then x else b.2.2.2.2.2.2.2.1,bif decide (k=8) then x else b.2.2.2.2.2.2.2.2.1,bif decide (k=9) then x else b.2.2.2.2.2.2.2.2.2.1,bif decide (k=10) then x else b.2.2.2.2.2.2.2.2.2.2.1,bif decide (k=11) then x else b.2.2.2.2.2.2.2.2.2.2.2.1,bif decide (k=12) then x else b.2.2.2.2.2.2.2.2.2.2.2.2.1,bif decide (k=13) then x else b.2.2.2.2.2.2.2.2.2.2.2.2.2.1,bif decide (k=14) then x else b.2.2.2.2.2.2.2.2.2.2.2.2.2.2.1,bif decide (k=15) then x else b.2.2.2.2.2.2.2.2.2.2.2.2.2.2.2.1,bif decide (k=16) then x else b.2.2.2.2.2.2.2.2.2.2.2.2.2.2.2.2.1,bif decide (k=17) then x else b.2.2.2.2.2.2.2.2.2.2.2.2.2.2.2.2.2.1,bif decide (k=18) then x else b.2.2.2.2.2.2.2.2.2.2.2.2.2.2.2.2.2.2.1,bif decide (k=19) then x else b.2.2.2.2.2.2.2.2.2.2.2.2.2.2.2.2.2.2.2.1,bif decide (k=20) then x else b.2.2.2.2.2.2.2.2.2.2.2.2.2.2.2.2.2.2.2.2)
def t21 (b:A21):List Int:=[b.1,b.2.1,b.2.2.1,b.2.2.2.1,b.2.2.2.2.1,b.2.2.2.2.2.1,b.2.2.2.2.2.2.1,b.2.2.2.2.2.2.2.1,b.2.2.2.2.2.2.2.2.1,b.2.2.2.2.2.2.2.2.2.1,b.2.2.2.2.2.2.2.2.2.2.1,b.2.2.2.2.2.2.2.2.2.2.2.1,b.2.2.2.2.2.2.2.2.2.2.2.2.1,b.2.2.2.2.2.2.2.2.2.2.2.2.2.1,b.2.2.2.2.2.2.2.2.2.2.2.2.2.2.1,b.2.2.2.2.2.2.2.2.2.2.2.2.2.2.2.1,b.2.2.2.2.2.2.2.2.2.2.2.2.2.2.2.2.1,b.2.2.2.2.2.2.2.2.2.2.2.2.2.2.2.2.2.1,b.2.2.2.2.2.2.2.2.2.2.2.2.2.2.2.2.2.2.1,b.2.2.2.2.2.2.2.2.2.2.2.2.2.2.2.2.2.2.2.1,b.2.2.2.2.2.2.2.2.2.2.2.2.2.2.2.2.2.2.2.2]
theorem t21_put (b:A21) (k:Nat) (x:Int) (h:k<21):t21 (put21 b k x)=(t21 b).set k x:=by
 match k with
 | 0=>rfl | 1=>rfl | 2=>rfl | 3=>rfl | 4=>rfl | 5=>rfl | 6=>rfl | 7=>rfl | 8=>rfl | 9=>rfl | 10=>rfl | 11=>rfl | 12=>rfl | 13=>rfl | 14=>rfl | 15=>rfl | 16=>rfl | 17=>rfl | 18=>rfl | 19=>rfl | 20=>rfl
 | k+21=>omega
theorem t21_drop (b:A21) (k:Nat) (x:Int) (h:k<21):(t21 (put21 b k x)).drop k=x :: (t21 b).drop (k+1):=by
 rw[t21_put b k x h]
 have hl:k<((t21 b).set k x).length:=by rw[List.length_set];exact h
 rw[List.drop_eq_getElem_cons hl,List.getElem_set_self,List.drop_set_of_lt (by omega)]
def nm_P (u i:Int):Prop:=(0≤u∧u<18446744073709551616)∧(1≤i∧i≤21)∧u<10 ^ i.toNat
abbrev nm_I (g:nm_G):List Prop:=[nm_P g.2.2.2 g.2.2.1]
abbrev nm_M (g:nm_G):Nat:=g.2.2.1.toNat
noncomputable abbrev nm_RR (g:nm_G):Ex×nm_G:=nm_R g.1 g.2.1 g.2.2.1 g.2.2.2
theorem nm_RF (b:A21) (i u:Int) (h:nm_P u i):nm_R () b i u=(if u / 10=0 then .exit 0 else .normal,(),put21 b (i - 1).toNat (48+u % 10),i - 1,u / 10):=by
 obtain ⟨⟨h1,h2⟩,⟨h3,h4⟩,_⟩:=h
 unfold nm_R
 rw[Int.tdiv_eq_ediv_of_nonneg h1,Int.tmod_eq_emod_of_nonneg h1,wrU (x:=u / 10) (by omega),wrU (x:=48+u % 10) (by omega),wrB (by omega),wr64 (by omega)]
 by_cases hz:u / 10=0
 ·rw[if_pos hz,hz];rfl
 ·rw[if_neg hz,beq_eq_false_iff_ne.2 hz];rfl
theorem pow_pred {u:Int} {i:Nat} (h:u<(10:Int) ^ (i+1)):u / 10<10 ^ i:=by
 have hp:(10:Int) ^ (i+1)=10 ^ i * 10:=Int.pow_succ ..
 omega
theorem nm_step {u i:Int} (h:nm_P u i) (hz:u / 10≠0):nm_P (u / 10) (i - 1):=by
 obtain ⟨⟨h1,h2⟩,⟨h3,h4⟩,h5⟩:=h
 obtain ⟨k,hk⟩:∃ k:Nat,i=k+1:=⟨(i - 1).toNat,by omega⟩
 subst hk
 have e1:((k:Int)+1).toNat=k+1:=by omega
 have e2:((k:Int)+1 - 1).toNat=k:=by omega
 rw[e1] at h5
 have h6:=pow_pred h5
 refine ⟨⟨by omega,by omega⟩,⟨?_,by omega⟩,by rw[e2];exact h6⟩
 rcases Nat.eq_zero_or_pos k with rfl | hk
 ·have:(10:Int) ^ 0=1:=rfl
  omega
 ·omega
theorem nm_goes:Goes nm_RR nm_M fun g=>allP (nm_I g):=by
 rintro ⟨⟨⟩,b,i,u⟩ hi hn
 have h:nm_P u i:=hi _ (List.mem_cons_self ..)
 have e:nm_RR ((),b,i,u)=_:=nm_RF b i u h
 rw[e] at hn ⊢
 have hz:u / 10≠0:=fun hz=>by
  simp only[hz,if_true] at hn;cases hn
 have h':=nm_step h hz
 refine ⟨fun p hp=>?_,?_⟩
 ·rw[List.mem_singleton.1 hp];exact h'
 ·show (i - 1).toNat<i.toNat
  have:=h.2.1
  omega
theorem nm_ok:∀ b∈loopsOf Tryd.prog 86,lkey b=6→LoopOk Tryd.prog b (nm_C nm_I nm_M).g:=by
 refine nm_loop nm_I nm_M (fun g hi=>?_) nm_goes
 obtain ⟨⟨⟩,b,i,u⟩:=g
 have h:nm_P u i:=hi _ (List.mem_cons_self ..)
 obtain ⟨⟨h1,h2⟩,⟨h3,h4⟩,_⟩:=h
 show nm_side () b i u
 unfold nm_side
 rw[wr64 (by omega)]
 exact ⟨by decide,⟨by omega,by omega⟩,by omega,by decide⟩
theorem nm_run (b:A21) (i u:Int) (h:nm_P u i):(loopF nm_RR nm_M ((),b,i,u)).1=.exit 0∧∃ i':Nat,(loopF nm_RR nm_M ((),b,i,u)).2.2.2.1=(i':Int)∧i'+(dgt i.toNat u).length=i.toNat∧(t21 (loopF nm_RR nm_M ((),b,i,u)).2.2.1).drop i'=dgt i.toNat u++(t21 b).drop i.toNat:=by
 have key:=loopF_induct nm_goes (Q:=fun g r=>r.1=.exit 0∧∃ i':Nat,r.2.2.2.1=(i':Int)∧i'+(dgt g.2.2.1.toNat g.2.2.2).length=g.2.2.1.toNat∧(t21 r.2.2.1).drop i'=dgt g.2.2.1.toNat g.2.2.2++(t21 g.2.1).drop g.2.2.1.toNat) ?_ ?_ ((),b,i,u) (fun p hp=>by rw[List.mem_singleton.1 hp];exact h)
 ·exact key
 ·rintro ⟨⟨⟩,b,i,u⟩ hi hn
  have h:nm_P u i:=hi _ (List.mem_cons_self ..)
  have e:nm_RR ((),b,i,u)=_:=nm_RF b i u h
  rw[e] at hn ⊢
  obtain ⟨k,hk⟩:∃ k:Nat,i=k+1:=⟨(i - 1).toNat,by have:=h.2.1;omega⟩
  subst hk
  have e1:((k:Int)+1).toNat=k+1:=by omega
  have e2:((k:Int)+1 - 1).toNat=k:=by omega
  by_cases hz:u / 10=0
  ·simp only[hz,if_true,e1,e2]
   refine ⟨trivial,k,by omega,?_,?_⟩
   ·unfold dgt;rw[if_pos hz];rfl
   ·rw[t21_drop _ _ _ (by have:=h.2.1;omega)]
    unfold dgt;rw[if_pos hz];rfl
  ·simp only[hz,if_false] at hn
   exact absurd rfl hn
 ·rintro ⟨⟨⟩,b,i,u⟩ g' r hi he _ _ hq
  have h:nm_P u i:=hi _ (List.mem_cons_self ..)
  have e:nm_RR ((),b,i,u)=_:=nm_RF b i u h
  rw[e] at he
  obtain ⟨k,hk⟩:∃ k:Nat,i=k+1:=⟨(i - 1).toNat,by have:=h.2.1;omega⟩
  subst hk
  have e1:((k:Int)+1).toNat=k+1:=by omega
  have e2:((k:Int)+1 - 1).toNat=k:=by omega
  by_cases hz:u / 10=0
  ·simp only[hz,if_true,Prod.mk.injEq] at he
   cases he.1
  ·simp only[hz,if_false,Prod.mk.injEq,true_and] at he
   subst he
   simp only[e1,e2] at hq ⊢
   obtain ⟨q1,i',q2,q3,q4⟩:=hq
   refine ⟨q1,i',q2,?_,?_⟩
   ·conv=>lhs;unfold dgt
    rw[if_neg hz,List.length_append]
    simp only[List.length_cons,List.length_nil]
    omega
   ·rw[q4,t21_drop _ _ _ (by have:=h.2.1;omega)]
    conv=>rhs;unfold dgt
    rw[if_neg hz,List.append_assoc]
    rfl
def nd_P (u:Int) (s:BA):Prop:=(0≤u∧u<18446744073709551616)∧∃ j:Nat,1≤j∧u<10 ^ j∧s.size+j≤20
abbrev nd_I (g:nd_G):List Prop:=[nd_P g.1 g.2]
abbrev nd_M (g:nd_G):Nat:=g.1.toNat
noncomputable abbrev nd_RR (g:nd_G):Ex×nd_G:=nd_R g.1 g.2
theorem dgi {u:Int} (h1:0≤u) (h2:u<18446744073709551616):(ByteArray.mk #[(48:UInt8),(49:UInt8),(50:UInt8),(51:UInt8),(52:UInt8),(53:UInt8),(54:UInt8),(55:UInt8),(56:UInt8),(57:UInt8),(97:UInt8),(98:UInt8),(99:UInt8),(100:UInt8),(101:UInt8),(102:UInt8)]).extract (u.tmod (10:Int)).toNat (IntKind.u64.wrap (u.tmod (10:Int)+(1:Int))).toNat=strOf [48+u % 10]:=by
 rw[Int.tmod_eq_emod_of_nonneg h1,wrU (by omega)]
 obtain ⟨k,hk⟩:∃ k:Nat,u % 10=k:=⟨(u % 10).toNat,by omega⟩
 rw[hk]
 have:=dg16 k (by omega)
 rw[show ((k:Int)).toNat=k from rfl,show ((k:Int)+1).toNat=k+1 by omega,this]
 unfold hexD
 rw[if_pos (by omega)]
theorem nd_RF (u:Int) (s:BA) (h:nd_P u s):nd_R u s=(if u / 10=0 then .exit 0 else .normal,u / 10,strOf [48+u % 10]++s):=by
 obtain ⟨⟨h1,h2⟩,_⟩:=h
 unfold nd_R
 rw[dgi h1 h2,Int.tdiv_eq_ediv_of_nonneg h1,wrU (x:=u / 10) (by omega)]
 by_cases hz:u / 10=0
 ·rw[if_pos hz,hz];rfl
 ·rw[if_neg hz,beq_eq_false_iff_ne.2 hz];rfl
theorem nd_goes:Goes nd_RR nd_M fun g=>allP (nd_I g):=by
 rintro ⟨u,s⟩ hi hn
 have h:nd_P u s:=hi _ (List.mem_cons_self ..)
 have e:nd_RR (u,s)=_:=nd_RF u s h
 rw[e] at hn ⊢
 have hz:u / 10≠0:=fun hz=>by
  simp only[hz,if_true] at hn;cases hn
 obtain ⟨⟨h1,h2⟩,j,h3,h4,h5⟩:=h
 refine ⟨fun p hp=>?_,?_⟩
 ·rw[List.mem_singleton.1 hp]
  obtain ⟨i,rfl⟩:∃ i,j=i+1:=⟨j - 1,by omega⟩
  have h6:=pow_pred h4
  refine ⟨⟨by show 0≤u / 10;omega,by show u / 10<_;omega⟩,i,?_,h6,?_⟩
  ·rcases Nat.eq_zero_or_pos i with rfl | hk
   ·have:(10:Int) ^ 0=1:=rfl
    omega
   ·omega
  ·show (strOf [48+u % 10]++s).size+i≤20
   rw[ByteArray.size_append,strOf_size]
   simp only[List.length_cons,List.length_nil]
   omega
 ·show (u / 10).toNat<u.toNat
  omega
theorem nd_ok:∀ b∈loopsOf Tryd.prog 87,lkey b=5→LoopOk Tryd.prog b (nd_C nd_I nd_M).g:=by
 refine nd_loop nd_I nd_M (fun g hi=>?_) nd_goes
 obtain ⟨u,s⟩:=g
 have h:nd_P u s:=hi _ (List.mem_cons_self ..)
 obtain ⟨⟨h1,h2⟩,j,h3,h4,h5⟩:=h
 show nd_side u s
 unfold nd_side
 rw[dgi h1 h2,Int.tmod_eq_emod_of_nonneg h1,wrU (by omega),strOf_size]
 simp only[List.length_cons,List.length_nil]
 refine ⟨by decide,⟨by omega,by omega⟩,⟨by omega,by omega⟩,by omega,by decide⟩
theorem nd_run (u:Int) (h1:0≤u) (h2:u<10000000000000000000) (l:List Int) (h3:l.length=0):(loopF nd_RR nd_M (u,strOf l)).1=.exit 0∧(loopF nd_RR nd_M (u,strOf l)).2.2=strOf (dgt 20 u++l):=by
 have hP:nd_P u (strOf l):=⟨⟨h1,by omega⟩,20,by decide,by
  have:(10:Int) ^ 20=100000000000000000000:=by decide
  omega,by
  rw[strOf_size];omega⟩
 have key:=loopF_induct nd_goes (Q:=fun g r=>r.1=.exit 0∧∀ k,g.1<10 ^ k→r.2.2=strOf (dgt (k+1) g.1)++g.2) ?_ ?_ (u,strOf l) (fun p hp=>by rw[List.mem_singleton.1 hp];exact hP)
 ·refine ⟨key.1,?_⟩
  have h19:(10:Int) ^ 19=10000000000000000000:=by decide
  rw[key.2 19 (by rw[h19];exact h2)]
  exact strOf_app _ _
 ·rintro ⟨u,s⟩ hi hn
  have h:nd_P u s:=hi _ (List.mem_cons_self ..)
  have e:nd_RR (u,s)=_:=nd_RF u s h
  rw[e] at hn ⊢
  by_cases hz:u / 10=0
  ·simp only[hz,if_true]
   refine ⟨trivial,fun k _=>?_⟩
   unfold dgt;rw[if_pos hz];rfl
  ·simp only[hz,if_false] at hn
   exact absurd rfl hn
 ·rintro ⟨u,s⟩ g' r hi he _ _ hq
  have h:nd_P u s:=hi _ (List.mem_cons_self ..)
  have e:nd_RR (u,s)=_:=nd_RF u s h
  rw[e] at he
  by_cases hz:u / 10=0
  ·simp only[hz,if_true,Prod.mk.injEq] at he
   cases he.1
  ·simp only[hz,if_false,Prod.mk.injEq,true_and] at he
   subst he
   refine ⟨hq.1,fun k hk=>?_⟩
   have hk':u<(10:Int) ^ k:=hk
   obtain ⟨j,rfl⟩:∃ j,k=j+1:=⟨k - 1,by
    rcases Nat.eq_zero_or_pos k with rfl | h0
    ·have:(10:Int) ^ 0=1:=rfl
     have:=h.1.1
     omega
    ·omega⟩
   have hq2:=hq.2 j (pow_pred hk')
   rw[hq2]
   show strOf (dgt (j+1) (u / 10))++(strOf [48+u % 10]++s)=strOf (dgt (j+1+1) u)++s
   conv=>rhs;unfold dgt
   rw[if_neg hz,← strOf_app,ByteArray.append_assoc]
noncomputable def ltN4:LTab Tryd.prog:=(LTab.nil.cons 86 6 (nm_C nm_I nm_M) nm_ok).cons 87 5 (nd_C nd_I nd_M) nd_ok
noncomputable abbrev lamN4:Lam:=ltN4.lam
theorem lamN4_ok:∀ f k L,lamN4 f k=some L→∀ b∈loopsOf Tryd.prog f,lkey b=k→LoopOk Tryd.prog b L.g:=ltN4.ok
end Go.Proofs.YtmegbepjdololaaDoor

namespace Go.Proofs.YtmegbepjdololaaDoor
open Go.RowKit Go.Sx
set_option maxRecDepth 100000
set_option linter.unusedVariables false
noncomputable def nuB_q1 (n:Int):Ex ×
 nd_G:=
 loopF (fun g=>nd_R g.fst g.snd) nd_M (bif decide (n<(0:Int)) then IntKind.u64.wrap ((0:Int) - IntKind.u64.wrap n) else IntKind.u64.wrap n,ByteArray.mk #[])
noncomputable def nuB_F (n:Int):Dv.T dStr:=
 bif decide (n<(0:Int)) then ByteArray.mk #[(45:UInt8)]++(nuB_q1 n).snd.snd else (nuB_q1 n).snd.snd
def nuB_side (n:Int):Prop:=
 nd_P (bif decide (n<(0:Int)) then IntKind.u64.wrap ((0:Int) - IntKind.u64.wrap n) else IntKind.u64.wrap n) (ByteArray.mk #[])∧(decide (n<(0:Int))=true→(1:Nat)+ByteArray.size (nuB_q1 n).snd.snd≤(9223372036854775807:Nat))
theorem nuB_okS (pre:DA.T aI→List Prop) (h:∀ g,DA.bd aI g→(∀ p∈pre g,p)→nuB_side g):FnPure Tryd.prog 87 aI dStr (fun g=>nuB_F g) pre:=pure_of_sideS (Γ:=(PTab.gamz tabA3 [] [])) (Λ:=lamN4) (PTab.okz tabA3 [] []) lamN4_ok 100 default (fun g=>nuB_side g) (fun g=>by kernel_rfl) (fun g=>by kernel_rfl) h
end Go.Proofs.YtmegbepjdololaaDoor

namespace Go.Proofs.YtmegbepjdololaaDoor
open Go.RowKit Go.Sx Go.Lp
set_option maxRecDepth 100000
abbrev z21:A21:=((0:Int),(0:Int),(0:Int),(0:Int),(0:Int),(0:Int),(0:Int),(0:Int),(0:Int),(0:Int),(0:Int),(0:Int),(0:Int),(0:Int),(0:Int),(0:Int),(0:Int),(0:Int),(0:Int),(0:Int),(0:Int))
noncomputable def nuA_q1 (n:Int):Ex×nm_G:=
 loopF (fun g=>nm_R g.fst g.snd.fst g.snd.snd.fst g.snd.snd.snd) nm_M
  ((),z21,
    (21:Int),bif decide (n<(0:Int)) then IntKind.u64.wrap ((0:Int) - IntKind.u64.wrap n) else IntKind.u64.wrap n)
def zipC (z:Bool):List Int→List Int→List Int
 | x :: xs,y :: ys=>(bif z then x else y) :: zipC z xs ys
 | _,_=>[]
theorem zipC_eq (z:Bool):∀ {a b:List Int},a.length=b.length→zipC z a b=bif z then a else b
 | [],[],_=>by cases z <;> rfl
 | x :: a,y :: b,h=>by
  unfold zipC
  rw[zipC_eq z (by simpa using h)]
  cases z <;> rfl
 | [],_ :: _,h=>by simp at h
 | _ :: _,[],h=>by simp at h
def pickF (i:Int) (cs:List Int):Nat→BA
 | 0=>default
 | k+1=>bif decide (i=(k:Int)) then strOf (cs.drop k) else pickF i cs k
def pickS (i:Int):Nat→Prop
 | 0=>False
 | k+1=>(decide (i=(k:Int))=true→True)∧(decide (i=(k:Int))=false→pickS i k)
theorem pick_at (i:Nat) (cs:List Int):∀ k,i<k→pickF (i:Int) cs k=strOf (cs.drop i)∧pickS (i:Int) k
 | 0,h=>by omega
 | k+1,h=>by
  unfold pickF pickS
  by_cases he:i=k
  ·subst he
   rw[decide_eq_true rfl]
   exact ⟨rfl,⟨fun _=>trivial,fun h=>(by cases h)⟩⟩
  ·rw[decide_eq_false (by omega)]
   obtain ⟨h1,h2⟩:=pick_at i cs k (by omega)
   exact ⟨h1,⟨fun _=>trivial,fun _=>h2⟩⟩
noncomputable def nuA_F (n:Int):Dv.T dStr:=
 pickF (bif decide (n<(0:Int)) then IntKind.i64.wrap ((nuA_q1 n).snd.snd.snd.fst - (1:Int)) else (nuA_q1 n).snd.snd.snd.fst)
  (zipC (decide (n<(0:Int))) (t21 (put21 (nuA_q1 n).snd.snd.fst (IntKind.i64.wrap ((nuA_q1 n).snd.snd.snd.fst - (1:Int))).toNat (45:Int))) (t21 (nuA_q1 n).snd.snd.fst)) 22
def nuA_side (n:Int):Prop:=
 nm_P (bif decide (n<(0:Int)) then IntKind.u64.wrap ((0:Int) - IntKind.u64.wrap n) else IntKind.u64.wrap n) (21:Int) ∧
  (decide (n<(0:Int))=true→(0:Int)≤IntKind.i64.wrap ((nuA_q1 n).snd.snd.snd.fst - (1:Int))∧IntKind.i64.wrap ((nuA_q1 n).snd.snd.snd.fst - (1:Int))<(21:Int)) ∧
   (decide (n<(0:Int))=true→(IntKind.i64.wrap ((nuA_q1 n).snd.snd.snd.fst - (1:Int))).toNat<(21:Nat)) ∧
    pickS (bif decide (n<(0:Int)) then IntKind.i64.wrap ((nuA_q1 n).snd.snd.snd.fst - (1:Int)) else (nuA_q1 n).snd.snd.snd.fst) 22
theorem nuA_okS (pre:DA.T aI→List Prop) (h:∀ g,DA.bd aI g→(∀ p∈pre g,p)→nuA_side g):FnPure Tryd.prog 86 aI dStr (fun g=>nuA_F g) pre:=pure_of_sideS (Γ:=(PTab.gamz tabA3 [] [])) (Λ:=lamN4) (PTab.okz tabA3 [] []) lamN4_ok 100 default (fun g=>nuA_side g) (fun g=>by kernel_rfl) (fun g=>by kernel_rfl) h
def i64 (n:Int):Prop:=-9223372036854775808≤n∧n≤9223372036854775807
def numS (n:Int):BA:=strOf (numL n)
def absI (n:Int):Int:=if n<0 then -n else n
theorem abs_u {n:Int} (h:i64 n):(bif decide (n<(0:Int)) then IntKind.u64.wrap ((0:Int) - IntKind.u64.wrap n) else IntKind.u64.wrap n)=absI n:=by
 obtain ⟨h1,h2⟩:=h
 unfold absI
 by_cases hn:n<0
 ·rw[decide_eq_true hn,if_pos hn,cond_true]
  simp[IntKind.wrap,IntKind.signed,IntKind.bits]
  omega
 ·rw[decide_eq_false hn,if_neg hn,cond_false]
  exact wrU (by omega)
theorem p10_19:(10:Int) ^ 19=10000000000000000000:=by decide
theorem p10_21:(10:Int) ^ 21=1000000000000000000000:=by decide
theorem abs_b {n:Int} (h:i64 n):0≤absI n∧absI n≤9223372036854775808:=by
 obtain ⟨h1,h2⟩:=h
 unfold absI
 split <;> omega
theorem nuA_eq {n:Int} (h:i64 n):nuA_side n∧nuA_F n=numS n:=by
 have hu:=abs_u h
 obtain ⟨hb1,hb2⟩:=abs_b h
 have hP:nm_P (absI n) 21:=⟨⟨hb1,by omega⟩,⟨by decide,by decide⟩,by show absI n<10 ^ 21;rw[p10_21];omega⟩
 have hq:nuA_q1 n=loopF nm_RR nm_M ((),z21,21,absI n):=by
  unfold nuA_q1
  rw[hu]
 obtain ⟨_,i',h2,h3,h4⟩:=nm_run z21 _ _ hP
 rw[← hq] at h2 h4
 have e21:(21:Int).toNat=21:=rfl
 rw[e21] at h3 h4
 have hd:dgt 21 (absI n)=dgt 20 (absI n):=dgt_more 19 1 (absI n) hb1 (by rw[p10_19];omega)
 have hl1:=dgt_len 20 19 (absI n) hb1 (by rw[p10_19];omega) (by decide)
 have hl2:=dgt_pos 19 (absI n)
 rw[hd] at h3 h4
 have h4:(t21 (nuA_q1 n).2.2.1).drop i'=dgt 20 (absI n):=by
  rw[h4]
  show _++[]=_
  rw[List.append_nil]
 have hlen:(t21 (put21 (nuA_q1 n).2.2.1 (IntKind.i64.wrap ((nuA_q1 n).2.2.2.1 - 1)).toNat 45)).length=(t21 (nuA_q1 n).2.2.1).length:=rfl
 unfold nuA_side nuA_F numS numL
 rw[hu,zipC_eq _ hlen,h2]
 have hw:IntKind.i64.wrap ((i':Int) - 1)=(i':Int) - 1:=wr64 (by omega)
 rw[hw]
 by_cases hn:n<0
 ·rw[decide_eq_true hn,if_pos hn]
  simp only[cond_true,forall_const]
  obtain ⟨k,rfl⟩:∃ k,i'=k+1:=⟨i' - 1,by omega⟩
  have e1:((k+1:Nat):Int) - 1=(k:Int):=by omega
  rw[e1]
  have e2:(k:Int).toNat=k:=rfl
  rw[e2]
  obtain ⟨p1,p2⟩:=pick_at k (t21 (put21 (nuA_q1 n).2.2.1 k 45)) 22 (by omega)
  refine ⟨⟨hP,⟨by omega,by omega⟩,by omega,p2⟩,?_⟩
  rw[p1,t21_drop _ _ _ (by omega),h4]
  have ea:absI n=-n:=by unfold absI;rw[if_pos hn]
  rw[ea,if_pos hn];rfl
 ·rw[decide_eq_false hn,if_neg hn]
  simp only[cond_false]
  obtain ⟨p1,p2⟩:=pick_at i' (t21 (nuA_q1 n).2.2.1) 22 (by omega)
  refine ⟨⟨hP,fun h=>(by cases h),fun h=>(by cases h),p2⟩,?_⟩
  rw[p1,h4]
  have ea:absI n=n:=by unfold absI;rw[if_neg hn]
  rw[ea,if_neg hn];rfl
theorem nuA_ok:FnPure Tryd.prog 86 aI dStr numS (fun n=>[i64 n]):=
 pure_congr (nuA_okS _ fun n _ hp=>(nuA_eq (hp _ (List.mem_cons_self ..))).1) fun n _ hp=>(nuA_eq (hp _ (List.mem_cons_self ..))).2
theorem nuB_eq {n:Int} (h:i64 n):nuB_side n∧nuB_F n=numS n:=by
 have hu:=abs_u h
 obtain ⟨hb1,hb2⟩:=abs_b h
 obtain ⟨h1,h2⟩:=nd_run (absI n) hb1 (by omega) [] rfl
 have h0:strOf []=ByteArray.mk #[]:=rfl
 have hq:nuB_q1 n=loopF nd_RR nd_M (absI n,strOf []):=by
  unfold nuB_q1
  rw[hu];rfl
 rw[← hq,List.append_nil] at h2
 have hl1:=dgt_len 20 19 (absI n) hb1 (by rw[p10_19];omega) (by decide)
 unfold nuB_side nuB_F numS numL
 rw[hu,h2,strOf_size]
 refine ⟨⟨⟨⟨hb1,by omega⟩,20,by decide,by have:(10:Int) ^ 20=100000000000000000000:=(by decide);omega,by decide⟩,fun _=>by omega⟩,?_⟩
 by_cases hn:n<0
 ·rw[decide_eq_true hn,if_pos hn,if_pos hn]
  have ea:absI n=-n:=by unfold absI;rw[if_pos hn]
  rw[ea,cond_true]
  exact strOf_cons 45 _
 ·rw[decide_eq_false hn,if_neg hn,if_neg hn]
  have ea:absI n=n:=by unfold absI;rw[if_neg hn]
  rw[ea];rfl
theorem nuB_ok:FnPure Tryd.prog 87 aI dStr numS (fun n=>[i64 n]):=
 pure_congr (nuB_okS _ fun n _ hp=>(nuB_eq (hp _ (List.mem_cons_self ..))).1) fun n _ hp=>(nuB_eq (hp _ (List.mem_cons_self ..))).2
end Go.Proofs.YtmegbepjdololaaDoor

namespace Go.Proofs.YtmegbepjdololaaDoor
open Go.RowKit Go.Sx Go.Lp
set_option maxRecDepth 100000
theorem escQ (v:Int):(decide (v > 32)&&(decide (v<127)&&v != 37))=escP v:=by
 unfold escP
 rw[Bool.eq_iff_iff]
 simp only[Bool.and_eq_true,decide_eq_true_eq,bne_iff_ne,ne_eq,Bool.not_eq_true',decide_eq_false_iff_not]
 omega
theorem escR (v:Int):(decide (v≥33)&&(decide (v≤126)&&v != 37))=escP v:=by
 unfold escP
 rw[Bool.eq_iff_iff]
 simp only[Bool.and_eq_true,decide_eq_true_eq,bne_iff_ne,ne_eq,Bool.not_eq_true',decide_eq_false_iff_not]
theorem hxS {v:Int} (h0:0≤v) (h1:v≤255):(bts HEX).getD (iShr .u8 v 4).toNat 0=hexD (v / 16)∧0≤iShr .u8 v 4∧iShr .u8 v 4<16:=by
 obtain ⟨k,rfl⟩:∃ k:Nat,v=k:=⟨v.toNat,by omega⟩
 exact ⟨by rw[← bts_get];exact hx_shr k (by omega),hx_shrR k (by omega)⟩
theorem hxA {v:Int} (h0:0≤v) (h1:v≤255):(bts HEX).getD (iAnd .u8 v 15).toNat 0=hexD (v % 16)∧0≤iAnd .u8 v 15∧iAnd .u8 v 15<16:=by
 obtain ⟨k,rfl⟩:∃ k:Nat,v=k:=⟨v.toNat,by omega⟩
 exact ⟨by rw[← bts_get];exact hx_and k (by omega),hx_andR k (by omega)⟩
abbrev tx_xs (c:tx_GC):List Int:=bts c.1.text
abbrev tx_lim (c:tx_GC):Int:=c.2
def tx_S (_:tx_GC) (b:tx_GB) (_:Int) (v:Int):Ex×tx_GB:=(.normal,((),b.2++esc1 v))
def tx_K (c:tx_GC) (b:tx_GB) (i:Int):Prop:=c.1.text.size≤64∧(b.2.length:Int)≤64+3 * i
abbrev tx_I (g:tx_G):List Prop:=ixI tx_lim tx_xs tx_K (tx_f g)
abbrev tx_M (g:tx_G):Nat:=ixM tx_lim (tx_f g)
theorem tx_P:ixP tx_S tx_xs tx_K:=fun c b i a h _ _=>⟨h.1,by
 have:=h.2
 have hl:=(esc1_len a).2
 show ((b.2++esc1 a).length:Int)≤_
 rw[List.length_append]
 omega⟩
noncomputable abbrev tx_RR (g:tx_G):Ex×tx_G:=tx_R g.1 g.2.1 g.2.2.1 g.2.2.2.1 g.2.2.2.2
theorem tx_app1 (b:List Int) (v:Int):e8u.lst (min (b.length+1) b.length) (e8u.els b)++List.map (fun _=>v) (List.range (b.length+1 - b.length))=b++[v]:=by
 rw[Nat.min_eq_right (Nat.le_add_right _ _),Nat.add_sub_cancel_left,e8u.lst_els];rfl
theorem tx_RF (d:Int×tx_GC×tx_GB) (hi:allP (ixI tx_lim tx_xs tx_K d)):tx_RR (tx_g d)=((ixF 0 tx_lim tx_xs 0 tx_S d).1,tx_g (ixF 0 tx_lim tx_xs 0 tx_S d).2):=by
 obtain ⟨i,⟨r,n⟩,⟨⟨⟩,b⟩⟩:=d
 show tx_R () r n i b=_
 unfold tx_R ixF tx_S
 simp only[bts_get,tx_lim,tx_xs,El.ag_eq]
 have hv:=bts_getD r.text i.toNat
 generalize (bts r.text).getD i.toNat 0=v at hv
 cases decide (i<n) with
 | false=>rfl
 | true=>
  simp only[cond_true,escQ,esc1]
  cases escP v with
  | true=>
   simp only[cond_true,if_true]
   rw[tx_app1];rfl
  | false=>
   simp only[cond_false]
   have h1:=(hxS hv.1 hv.2).1
   have h2:=(hxA hv.1 hv.2).1
   rw[h1,h2,Nat.min_eq_right (Nat.le_add_right _ _),Nat.add_sub_cancel_left,e8u.lst_els]
   rfl
theorem tx_ok:∀ b∈loopsOf Tryd.prog 43,lkey b=5→LoopOk Tryd.prog b (tx_C tx_I tx_M).g:=by
 refine tx_loop tx_I tx_M (fun g hi=>?_) (ix_conj_goes (fun _=>rfl) (fun _=>rfl) tx_RF tx_P)
 obtain ⟨⟨⟩,r,n,i,b⟩:=g
 obtain ⟨h1,h2,h3,h4,h5,h6⟩:=hi _ (List.mem_cons_self ..)
 have h1:n=((bts r.text).length:Int):=h1
 have h3:0≤i:=h3
 have h5:r.text.size≤64:=h5
 have h6:(b.length:Int)≤64+3 * i:=h6
 rw[bts_len] at h1
 have hb:Tryd.prog.types[(5:Nat)].bytes=1:=by kernel_rfl
 show tx_side () r n i b
 unfold tx_side
 simp only[bts_get,El.okL_eq,El.ag_eq,decide_eq_true_eq,hb]
 have hv:=bts_getD r.text i.toNat
 generalize (bts r.text).getD i.toNat 0=v at hv
 have h7:=(hxS hv.1 hv.2).2
 have h8:=(hxA hv.1 hv.2).2
 unfold maxLen
 repeat' (first | apply And.intro | intro _)
 all_goals first | trivial | omega
abbrev rt_xs (c:rt_GC):List Int:=bts c.text
abbrev rt_lim (c:rt_GC):Int:=(c.text.size:Int)
def rt_S (_:rt_GC) (b:rt_GB) (_:Int) (v:Int):Ex×rt_GB:=(.normal,((),b.2++strOf (esc1 v)))
def rt_K (c:rt_GC) (b:rt_GB) (i:Int):Prop:=c.text.size≤64∧(b.2.size:Int)≤64+3 * i
abbrev rt_I (g:rt_G):List Prop:=ixI rt_lim rt_xs rt_K (rt_f g)
abbrev rt_M (g:rt_G):Nat:=ixM rt_lim (rt_f g)
theorem rt_P:ixP rt_S rt_xs rt_K:=fun c b i a h _ _=>⟨h.1,by
 have:=h.2
 have hl:=(esc1_len a).2
 show ((b.2++strOf (esc1 a)).size:Int)≤_
 rw[ByteArray.size_append,strOf_size]
 omega⟩
noncomputable abbrev rt_RR (g:rt_G):Ex×rt_G:=rt_R g.1 g.2.1 g.2.2.1 g.2.2.2
theorem s37:ByteArray.mk #[(37:UInt8)]=strOf [37]:=rfl
theorem dgD {v:Int} (h0:0≤v) (h1:v≤255):HEX.extract (IntKind.u8.wrap (v.tdiv 16)).toNat (IntKind.u8.wrap (IntKind.u8.wrap (v.tdiv 16)+1)).toNat=strOf [hexD (v / 16)]:=by
 rw[Int.tdiv_eq_ediv_of_nonneg h0,wrB (x:=v / 16) (by omega),wrB (by omega),dgx (by omega) (by omega)]
theorem dgM {v:Int} (h0:0≤v) (h1:v≤255):HEX.extract (v.tmod 16).toNat (IntKind.u8.wrap (v.tmod 16+1)).toNat=strOf [hexD (v % 16)]:=by
 rw[Int.tmod_eq_emod_of_nonneg h0,wrB (by omega),dgx (by omega) (by omega)]
theorem rt_RF (d:Int×rt_GC×rt_GB) (hi:allP (ixI rt_lim rt_xs rt_K d)):rt_RR (rt_g d)=((ixF 0 rt_lim rt_xs 0 rt_S d).1,rt_g (ixF 0 rt_lim rt_xs 0 rt_S d).2):=by
 obtain ⟨i,r,⟨⟨⟩,b⟩⟩:=d
 obtain ⟨_,_,h3,_,h5,_⟩:=hi _ (List.mem_cons_self ..)
 have h3:0≤i:=h3
 have h5:r.text.size≤64:=h5
 show rt_R () r i b=_
 unfold rt_R ixF rt_S
 simp only[bts_get,rt_lim,rt_xs]
 have hx:i<(r.text.size:Int)→r.text.extract i.toNat (IntKind.i64.wrap (i+1)).toNat=strOf [(bts r.text).getD i.toNat 0]:=fun hlt=>by
  rw[wr64 (by omega),show (i+1).toNat=i.toNat+1 by omega]
  exact ext_one _ _ (by omega)
 have hv:=bts_getD r.text i.toNat
 generalize (bts r.text).getD i.toNat 0=v at hv hx
 by_cases hlt:i<(r.text.size:Int)
 ·rw[decide_eq_true hlt,hx hlt]
  simp only[cond_true,escR,esc1]
  rw[dgD hv.1 hv.2,dgM hv.1 hv.2,s37,strOf_app,strOf_app]
  cases escP v <;> rfl
 ·rw[decide_eq_false hlt];rfl
theorem rt_ok:∀ b∈loopsOf Tryd.prog 44,lkey b=5→LoopOk Tryd.prog b (rt_C rt_I rt_M).g:=by
 refine rt_loop rt_I rt_M (fun g hi=>?_) (ix_conj_goes (fun _=>rfl) (fun _=>rfl) rt_RF rt_P)
 obtain ⟨⟨⟩,r,i,b⟩:=g
 obtain ⟨h1,h2,h3,h4,h5,h6⟩:=hi _ (List.mem_cons_self ..)
 have h3:0≤i:=h3
 have h5:r.text.size≤64:=h5
 have h6:(b.size:Int)≤64+3 * i:=h6
 show rt_side () r i b
 unfold rt_side
 intro hlt
 have hlt:=of_decide_eq_true hlt
 have hx:r.text.extract i.toNat (IntKind.i64.wrap (i+1)).toNat=strOf [(bts r.text).getD i.toNat 0]:=by
  rw[wr64 (by omega),show (i+1).toNat=i.toNat+1 by omega]
  exact ext_one _ _ (by omega)
 rw[hx]
 simp only[bts_get]
 have hv:=bts_getD r.text i.toNat
 generalize (bts r.text).getD i.toNat 0=v at hv
 have e1:=dgD hv.1 hv.2
 have e2:=dgM hv.1 hv.2
 rw[e1,e2,s37,strOf_app,strOf_app,Int.tdiv_eq_ediv_of_nonneg hv.1,Int.tmod_eq_emod_of_nonneg hv.1,wrB (x:=v / 16) (by omega),wrB (x:=v / 16+1) (by omega),wrB (x:=v % 16+1) (by omega),wr64 (by omega)]
 simp only[strOf_size,List.length_cons,List.length_nil,List.length_append]
 repeat' (first | apply And.intro | intro _)
 all_goals first | trivial | omega
abbrev pa_xs (c:pa_GC):List Int:=bts c.1
abbrev pa_lim (c:pa_GC):Int:=c.2
def dstep (u v:Int):Int:=IntKind.u64.wrap (IntKind.u64.wrap (10 * u)+IntKind.u64.wrap (IntKind.u8.wrap (v - 48)))
def pa_S (_:pa_GC) (b:pa_GB) (i:Int) (v:Int):Ex×pa_GB:=bif decide (v<48)||(decide (v > 57)||decide (i > 18)) then (.ret,(b.1,0,false)) else (.normal,(dstep b.1 v,b.2))
def pa_K (_:pa_GC) (_:pa_GB) (_:Int):Prop:=True
abbrev pa_I (g:pa_G):List Prop:=ixI pa_lim pa_xs pa_K (pa_f g)
abbrev pa_M (g:pa_G):Nat:=ixM pa_lim (pa_f g)
theorem pa_P:ixP pa_S pa_xs pa_K:=fun _ _ _ _ _ _ _=>trivial
noncomputable abbrev pa_RR (g:pa_G):Ex×pa_G:=pa_R g.1 g.2.1 g.2.2.1 g.2.2.2.1 g.2.2.2.2.1 g.2.2.2.2.2
theorem pa_RF (d:Int×pa_GC×pa_GB) (_:allP (ixI pa_lim pa_xs pa_K d)):pa_RR (pa_g d)=((ixF 0 pa_lim pa_xs 0 pa_S d).1,pa_g (ixF 0 pa_lim pa_xs 0 pa_S d).2):=by
 obtain ⟨i,⟨s,n⟩,⟨u,r,o⟩⟩:=d
 show pa_R s n i u r o=_
 unfold pa_R ixF pa_S
 simp only[bts_get,pa_lim,pa_xs]
 generalize (bts s).getD i.toNat 0=v
 cases decide (i<n) with
 | false=>rfl
 | true=>
  simp only[cond_true]
  cases decide (v<48)||(decide (v > 57)||decide (i > 18)) <;> rfl
theorem pa_ok:∀ b∈loopsOf Tryd.prog 82,lkey b=4→LoopOk Tryd.prog b (pa_C pa_I pa_M).g:=by
 refine pa_loop pa_I pa_M (fun g hi=>?_) (ix_conj_goes (fun _=>rfl) (fun _=>rfl) pa_RF pa_P)
 obtain ⟨s,n,i,u,r,o⟩:=g
 obtain ⟨h1,h2,h3,h4,h5⟩:=hi _ (List.mem_cons_self ..)
 have h1:n=((bts s).length:Int):=h1
 have h3:0≤i:=h3
 rw[bts_len] at h1
 show pa_side s n i u r o
 unfold pa_side
 intro hlt
 have hlt:=of_decide_eq_true hlt
 exact ⟨⟨h3,by omega⟩,fun _=>⟨h3,by omega⟩,fun _=>⟨h3,by omega⟩⟩
abbrev pn_xs (c:pn_GC):List Int:=bts c
abbrev pn_lim (c:pn_GC):Int:=(c.size:Int)
def pn_S (_:pn_GC) (b:pn_GB) (_:Int) (v:Int):Ex×pn_GB:=bif decide (v<48)||decide (v > 57) then (.ret,(b.1,0,false)) else (.normal,(dstep b.1 v,b.2))
def pn_K (_:pn_GC) (_:pn_GB) (_:Int):Prop:=True
abbrev pn_I (g:pn_G):List Prop:=ixI pn_lim pn_xs pn_K (pn_f g)
abbrev pn_M (g:pn_G):Nat:=ixM pn_lim (pn_f g)
theorem pn_P:ixP pn_S pn_xs pn_K:=fun _ _ _ _ _ _ _=>trivial
noncomputable abbrev pn_RR (g:pn_G):Ex×pn_G:=pn_R g.1 g.2.1 g.2.2.1 g.2.2.2.1 g.2.2.2.2
theorem pn_RF (d:Int×pn_GC×pn_GB) (_:allP (ixI pn_lim pn_xs pn_K d)):pn_RR (pn_g d)=((ixF 0 pn_lim pn_xs 0 pn_S d).1,pn_g (ixF 0 pn_lim pn_xs 0 pn_S d).2):=by
 obtain ⟨i,s,⟨u,r,o⟩⟩:=d
 show pn_R s i u r o=_
 unfold pn_R ixF pn_S
 simp only[bts_get,pn_lim,pn_xs]
 generalize (bts s).getD i.toNat 0=v
 cases decide (i<(s.size:Int)) with
 | false=>rfl
 | true=>
  simp only[cond_true]
  cases decide (v<48)||decide (v > 57) <;> rfl
theorem pn_ok:∀ b∈loopsOf Tryd.prog 84,lkey b=8→LoopOk Tryd.prog b (pn_C pn_I pn_M).g:=by
 refine pn_loop pn_I pn_M (fun g hi=>?_) (ix_conj_goes (fun _=>rfl) (fun _=>rfl) pn_RF pn_P)
 obtain ⟨s,i,u,r,o⟩:=g
 obtain ⟨h1,h2,h3,h4,h5⟩:=hi _ (List.mem_cons_self ..)
 have h3:0≤i:=h3
 show pn_side s i u r o
 unfold pn_side
 intro hlt
 have hlt:=of_decide_eq_true hlt
 refine ⟨⟨h3,by omega⟩,?_⟩
 repeat' (first | apply And.intro | intro _)
 all_goals first | trivial | omega
noncomputable def ltN7:LTab Tryd.prog:=(((LTab.nil.cons 43 5 (tx_C tx_I tx_M) tx_ok).cons 44 5 (rt_C rt_I rt_M) rt_ok).cons 82 4 (pa_C pa_I pa_M) pa_ok).cons 84 8 (pn_C pn_I pn_M) pn_ok
noncomputable abbrev lamN7:Lam:=ltN7.lam
theorem lamN7_ok:∀ f k L,lamN7 f k=some L→∀ b∈loopsOf Tryd.prog f,lkey b=k→LoopOk Tryd.prog b L.g:=ltN7.ok
noncomputable def tabN7:PTab Tryd.prog:=(tabB12.cons 86 (pconP aI dStr numS (fun n=>[i64 n])) (conP_ok nuA_ok puS)).cons 87 (pconP aI dStr numS (fun n=>[i64 n])) (conP_ok nuB_ok puS)
end Go.Proofs.YtmegbepjdololaaDoor

namespace Go.Proofs.YtmegbepjdololaaDoor
open Go.RowKit Go.Sx
set_option maxRecDepth 100000
set_option linter.unusedVariables false
noncomputable def teA_q1 (r:Rec):Ex ×
 tx_G:=
 loopF (fun g=>tx_R g.fst g.snd.fst g.snd.snd.fst g.snd.snd.snd.fst g.snd.snd.snd.snd) tx_M ((),r,(↑(ByteArray.size r.text):Int),(0:Int),e8u.lst (numS r.key++ByteArray.mk #[(58:UInt8)]).size (byteEl (numS r.key++ByteArray.mk #[(58:UInt8)])))
noncomputable def teA_F (r:Rec):Dv.T dStr:=
 bif chkR r != (0:Int) then ByteArray.mk #[]
 else strOf (intsOf IntKind.u8 (teA_q1 r).snd.snd.snd.snd.snd.length (e8u.els (teA_q1 r).snd.snd.snd.snd.snd))
def teA_side (r:Rec):Prop:=
 (chkR r != (0:Int))=false→i64 r.key∧ByteArray.size (numS r.key)+(1:Nat)≤(9223372036854775807:Nat)∧(numS r.key++ByteArray.mk #[(58:UInt8)]).size≤maxLen∧(numS r.key++ByteArray.mk #[(58:UInt8)]).size≤(numS r.key++ByteArray.mk #[(58:UInt8)]).size∧(∀ (e:Nat),e<(numS r.key++ByteArray.mk #[(58:UInt8)]).size→True)∧Lp.ixJ tx_lim tx_xs tx_K (tx_f ((),r,(↑(ByteArray.size r.text):Int),(0:Int),e8u.lst (numS r.key++ByteArray.mk #[(58:UInt8)]).size (byteEl (numS r.key++ByteArray.mk #[(58:UInt8)]))))∧((teA_q1 r).snd.snd.snd.snd.snd.length≤(teA_q1 r).snd.snd.snd.snd.snd.length∧∀ (e:Nat),e<(teA_q1 r).snd.snd.snd.snd.snd.length→((ElE.fn (e8u.els (teA_q1 r).snd.snd.snd.snd.snd)).at e).all SV.one=true)∧∀ (e:Nat),e<(teA_q1 r).snd.snd.snd.snd.snd.length→(Sx.intOf IntKind.u8 ((ElE.fn (e8u.els (teA_q1 r).snd.snd.snd.snd.snd)).at e)).isSome=true
theorem teA_okS (pre:DA.T aR→List Prop) (h:∀ g,DA.bd aR g→(∀ p∈pre g,p)→teA_side g):FnPure Tryd.prog 43 aR dStr (fun g=>teA_F g) pre:=pure_of_sideS (Γ:=(PTab.gamz tabN7 [] [])) (Λ:=lamN7) (PTab.okz tabN7 [] []) lamN7_ok 100 default (fun g=>teA_side g) (fun g=>by kernel_rfl) (fun g=>by kernel_rfl) h
end Go.Proofs.YtmegbepjdololaaDoor

namespace Go.Proofs.YtmegbepjdololaaDoor
open Go.RowKit Go.Sx Go.Lp
def textS (r:Rec):BA:=bif chkR r != (0:Int) then ByteArray.mk #[] else strOf (numL r.key++58 :: escL (bts r.text))
theorem chkR_le {r:Rec} (h:(chkR r != (0:Int))=false):r.text.size≤64:=by
 have h:chkR r=0:=by simpa using h
 unfold chkR at h
 by_cases hc:(r.text.size:Int) > 64
 ·rw[decide_eq_true hc] at h;cases h
 ·omega
theorem numL_len {n:Int} (h:i64 n):1≤(numL n).length∧(numL n).length≤20:=by
 obtain ⟨hb1,hb2⟩:=abs_b h
 have e:numL n=(if n<0 then [45] else [])++dgt 20 (absI n):=rfl
 have hl1:=dgt_len 20 19 (absI n) hb1 (by rw[p10_19];omega) (by decide)
 have hl2:1≤(dgt 20 (absI n)).length:=dgt_pos 19 _
 rw[e,List.length_append]
 split <;> simp only[List.length_cons,List.length_nil] <;> omega
theorem numL_range {n:Int} (h:i64 n):∀ c∈numL n,0≤c∧c≤255:=by
 obtain ⟨hb1,hb2⟩:=abs_b h
 have e:numL n=(if n<0 then [45] else [])++dgt 20 (absI n):=rfl
 rw[e]
 intro c hc
 rcases List.mem_append.1 hc with hc | hc
 ·split at hc
  ·rw[List.mem_singleton.1 hc];decide
  ·cases hc
 ·have:=dgt_digit 20 _ hb1 c hc
  omega
theorem head_lst (n:Int) (h:i64 n):e8u.lst (numS n++ByteArray.mk #[(58:UInt8)]).size (byteEl (numS n++ByteArray.mk #[(58:UInt8)]))=numL n++[58]:=by
 have e:e8u.lst (numS n++ByteArray.mk #[(58:UInt8)]).size (byteEl (numS n++ByteArray.mk #[(58:UInt8)]))=bts (numS n++ByteArray.mk #[(58:UInt8)]):=byte_lst _
 rw[e,bts_app]
 unfold numS
 rw[bts_strOf (numL_range h)]
 rfl
theorem tx_scan (c:tx_GC) (l:List Int) (b:List Int):scan 0 (tx_S c) 0 l ((),b)=(.exit 0,(l.length:Int),(),b++escL l):=by
 rw[scan_fold (st:=tx_S c) (f:=fun (b:tx_GB) v=>((),b.2++esc1 v)) (fun _ _ _=>rfl),Int.zero_add]
 have:∀ (l:List Int) (b:List Int),l.foldl (fun (b:tx_GB) v=>((),b.2++esc1 v)) ((),b)=((),b++escL l):=by
  intro l
  induction l with
  | nil=>intro b;simp[escL]
  | cons a l ih=>intro b;rw[List.foldl_cons,ih,List.append_assoc];rfl
 rw[this]
theorem ints_lst (l:List Int):intsOf .u8 l.length (e8u.els l)=l:=by
 refine List.ext_getElem (by simp[intsOf]) fun i h1 h2=>?_
 simp only[intsOf,List.getElem_map,List.getElem_range,El.els,List.getD_eq_getElem?_getD,List.getElem?_eq_getElem h2,Option.getD_some]
 simp[intAt,Go.Sx.intOf,El.one',eInt,dInt,SV.int?]
theorem teA_eq (r:Rec) (hk:i64 r.key):teA_side r∧teA_F r=textS r:=by
 unfold teA_side teA_F textS
 cases hc:(chkR r != (0:Int)) with
 | true=>exact ⟨fun h=>(by cases h),rfl⟩
 | false=>
  have h64:=chkR_le hc
  have hn:=numL_len hk
  have hsz:(numS r.key).size=(numL r.key).length:=strOf_size _
  have hq:teA_q1 r=loopF tx_RR tx_M (tx_g (0,(r,(r.text.size:Int)),((),numL r.key++[58]))):=by
   unfold teA_q1
   rw[head_lst _ hk]
   rfl
  have hK:tx_K (r,(r.text.size:Int)) ((),numL r.key++[58]) 0:=⟨h64,by
   show ((numL r.key++[58]).length:Int)≤_
   rw[List.length_append]
   simp only[List.length_cons,List.length_nil]
   omega⟩
  have hl:(r.text.size:Int)=((bts r.text).length:Int):=by rw[bts_len]
  have hm:(bts r.text).length≤maxLen:=by rw[bts_len];unfold maxLen;omega
  have hr:loopF tx_RR tx_M (tx_g (0,(r,(r.text.size:Int)),((),numL r.key++[58])))=_:=ix_conj_run (φ:=tx_f) (ψ:=tx_g) (fun _=>rfl) (fun _=>rfl) tx_RF tx_P (r,(r.text.size:Int)) ((),numL r.key++[58]) hl hm hK
  have hs:scan 0 (tx_S (r,(r.text.size:Int))) 0 (bts r.text) ((),numL r.key++[58])=_:=tx_scan _ _ _
  have hb:(teA_q1 r).2.2.2.2.2=numL r.key++[58]++escL (bts r.text):=by
   rw[hq,hr]
   show (scan 0 (tx_S (r,(r.text.size:Int))) 0 (bts r.text) ((),numL r.key++[58])).2.2.2=_
   rw[hs]
  rw[hb,head_lst _ hk]
  refine ⟨fun _=>⟨hk,by omega,?_,Nat.le_refl _,fun _ _=>trivial,?_,⟨Nat.le_refl _,fun e _=>e8u.one_els _ e⟩,fun e _=>rfl⟩,?_⟩
  ·rw[ByteArray.size_append,hsz]
   unfold maxLen
   show (numL r.key).length+1≤_
   omega
  ·exact ⟨hl,hm,Int.le_refl _,by show (0:Int)≤_;omega,hK⟩
  ·rw[cond_false,cond_false,ints_lst,List.append_assoc]
   rfl
theorem teA_ok:FnPure Tryd.prog 43 aR dStr textS (fun r=>[i64 r.key]):=
 pure_congr (teA_okS _ fun r _ hp=>(teA_eq r (hp _ (List.mem_cons_self ..))).1) fun r _ hp=>(teA_eq r (hp _ (List.mem_cons_self ..))).2
end Go.Proofs.YtmegbepjdololaaDoor

namespace Go.Proofs.YtmegbepjdololaaDoor
open Go.RowKit Go.Sx
set_option maxRecDepth 100000
set_option linter.unusedVariables false
end Go.Proofs.YtmegbepjdololaaDoor

namespace Go.Proofs.YtmegbepjdololaaDoor
open Go.RowKit Go.Sx Go.Lp
set_option maxRecDepth 100000
end Go.Proofs.YtmegbepjdololaaDoor

namespace Go.Proofs.YtmegbepjdololaaDoor
open Go.RowKit Go.Sx
set_option maxRecDepth 100000
set_option linter.unusedVariables false
end Go.Proofs.YtmegbepjdololaaDoor

namespace Go.Proofs.YtmegbepjdololaaDoor
open Go.RowKit Go.Sx Go.Lp
set_option maxRecDepth 100000
end Go.Proofs.YtmegbepjdololaaDoor

namespace Go.Proofs.YtmegbepjdololaaDoor
open Go.RowKit Go.Sx
set_option maxRecDepth 100000
set_option linter.unusedVariables false
end Go.Proofs.YtmegbepjdololaaDoor

namespace Go.Proofs.YtmegbepjdololaaDoor
open Go.RowKit Go.Sx Go.Lp
set_option maxRecDepth 100000
end Go.Proofs.YtmegbepjdololaaDoor

namespace Go.Proofs.YtmegbepjdololaaDoor
open Go.RowKit Go.Sx Go.Lp
abbrev lvA:Rec:=Rec.mk (1:Int) (ByteArray.mk #[97])
abbrev lvB:Rec:=Rec.mk (2:Int) (ByteArray.mk #[98])
abbrev lvL:List Rec:=[lvB,lvA,lvB]
abbrev lvM:List Many:=[Many.mk lvA (1:Int),Many.mk lvB (2:Int)]
abbrev lvR:Rec:=Rec.mk (-1:Int) (ByteArray.mk #[195,169,32,37])
abbrev lvS:BA:=ByteArray.mk #[45,49,58,37,99,51,37,97,57,37,50,48,37,50,53]
abbrev aLRB:DA (List Rec):=.one (.listB eR)
abbrev aLMMB:DA (List Many×List Many):=.cons (.listB eM) (.one (.listB eM))
set_option maxRecDepth 100000
theorem lv_bag:FnPure Tryd.prog 24 aLRB dLME (fun _=>(lvM,(0:Int))) (fun g=>[g=lvL]):=
 pure_lit (D:=aLRB) bgA_ok lvL (lvM,0) (by kernel_rfl) (fun p hp=>by rw[List.mem_singleton.1 hp];decide)
theorem lv_eq:FnPure Tryd.prog 71 aLMMB dBool (fun _=>true) (fun g=>[g=(lvM,lvM)]):=
 pure_lit (D:=aLMMB) elM_ok (lvM,lvM) true (by kernel_rfl) (fun p hp=>by rw[List.mem_singleton.1 hp];decide)
theorem lv_txt:FnPure Tryd.prog 43 aR dStr (fun _=>lvS) (fun g=>[g=lvR]):=
 pure_lit teA_ok lvR lvS (by kernel_rfl) (fun p hp=>by rw[List.mem_singleton.1 hp];exact ⟨by decide,by decide⟩)
noncomputable def tabQ1:MTab Tryd.prog:=(((MTab.of PTab.nil).consM 24 (fconR aLRB dLME (fun _=>(lvM,(0:Int))) (fun g=>[g=lvL])) (fconR_ok lv_bag)).cons 71 (pconP aLMMB dBool (fun _=>true) (fun g=>[g=(lvM,lvM)])) (conP_ok lv_eq puB)).cons 43 (pconP aR dStr (fun _=>lvS) (fun g=>[g=lvR])) (conP_ok lv_txt puS)
noncomputable abbrev lvT:Tr Bool:=dTree Tryd.prog (MTab.gamz tabQ1 [] []) noΛ 100 16 (DA.enc .none ()) dBool
theorem lv_ev:lvT.evC false=true:=by kernel_rfl
theorem lv_asks:lvT.asksC=[lvL=lvL,((0:Int)==(0:Int))=true→(lvM,lvM)=(lvM,lvM),((0:Int)==(0:Int))=true→true=true→lvR=lvR]:=by kernel_rfl
theorem lv_ok:FnPure Tryd.prog 16 .none dBool (fun _=>true) (fun _=>[]):=pure_of_tree (MTab.okz tabQ1 [] []) noΛ_ok 100 fun g _ _=>by
 have h:=Tr.asksC_holds (t:=lvT) false (by
  rw[lv_asks]
  intro p hp
  rcases List.mem_cons.1 hp with e | hp
  ·exact e▸rfl
  rcases List.mem_cons.1 hp with e | hp
  ·exact e▸fun _=>rfl
  rcases List.mem_cons.1 hp with e | hp
  ·exact e▸fun _ _=>rfl
  cases hp)
 rw[lv_ev] at h
 exact h
end Go.Proofs.YtmegbepjdololaaDoor

namespace Go.Proofs.YtmegbepjdololaaDoor
open Go.RowKit Go.Sx
set_option maxRecDepth 100000
set_option linter.unusedVariables false
noncomputable def tabQ2:PTab Tryd.prog:=(tabB12.cons 16 (pconP .none dBool (fun _=>true) (fun _=>[])) (conP_ok lv_ok puB)).cons 17 (pconP aLUU dBool (fun g=>decide (g.1=g.2)) (fun g=>[g.1.length≤KB])) (conP_ok elU_ok puB)
end Go.Proofs.YtmegbepjdololaaDoor

namespace Go.Proofs.YtmegbepjdololaaDoor
open Go.RowKit Go.Sx
set_option maxRecDepth 100000
set_option linter.unusedVariables false
abbrev rcl_G:Type:=List Rune×Int×Int×BA×Bool
noncomputable def rcl_LP:LP 0 rcl_G:=.pair (.slot 0 22 dLU) (.pair (.slot 0 23 dI) (.pair (.slot 0 24 dI) (.pair (.slot 0 7 dStr) (.slot 0 6 dBool))))
noncomputable def rcl_R (xs:List Rune) (n:Int) (i:Int) (a:BA) (r:Bool):Ex×rcl_G:=
 bif decide (i<n) then bif (xs.getD i.toNat eU.dflt).at' != (↑(ByteArray.size a):Int) then (Ex.ret,eU.ag xs,n,i,a,false) else (Ex.normal,eU.ag xs,n,IntKind.i64.wrap (i+(1:Int)),a++Utf8.encode (xs.getD i.toNat eU.dflt).r,r)
 else (Ex.exit (0:Nat),eU.ag xs,n,i,a,r)
def rcl_side (xs:List Rune) (n:Int) (i:Int) (a:BA) (r:Bool):Prop:=
 (decide (i<n)=true→((0:Int)≤i∧i<(↑xs.length:Int))∧(((xs.getD i.toNat eU.dflt).at' != (↑(ByteArray.size a):Int))=true→eU.okL xs)∧(((xs.getD i.toNat eU.dflt).at' != (↑(ByteArray.size a):Int))=false→ByteArray.size a+(Utf8.encode (xs.getD i.toNat eU.dflt).r).size≤(9223372036854775807:Nat)∧eU.okL xs))∧(decide (i<n)=false→eU.okL xs)
theorem rcl_one:((loopsOf Tryd.prog 4).filter fun c=>Nat.beq (lkey c) 7).length=1:=by kernel_rfl
abbrev rcl_GC:Type:=List Rune×Int
abbrev rcl_GB:Type:=BA×Bool
def rcl_f (g:rcl_G):Int×rcl_GC×rcl_GB:=(g.2.2.1,(g.1,g.2.1),(g.2.2.2.1,g.2.2.2.2))
def rcl_g (d:Int×rcl_GC×rcl_GB):rcl_G:=(d.2.1.1,d.2.1.2,d.1,d.2.2.1,d.2.2.2)
theorem rcl_es (g:rcl_G):(rcl_R g.1 g.2.1 g.2.2.1 g.2.2.2.1 g.2.2.2.2).1=.normal∨(rcl_R g.1 g.2.1 g.2.2.1 g.2.2.2.1 g.2.2.2.2).1∈([.ret,.exit 0]:List Ex):=by
 unfold rcl_R
 repeat' (first | (left;rfl) | (right;simp only[cond_true,cond_false];simp;done) | (rw[Bool.cond_eq_ite];split))
noncomputable abbrev rcl_C (Inv:rcl_G→List Prop) (m:rcl_G→Nat):LCon:=loopR [.ret,.exit 0] (loopBody Tryd.prog 4 7) rcl_LP [] 71 Inv (fun g=>rcl_R g.1 g.2.1 g.2.2.1 g.2.2.2.1 g.2.2.2.2) m
theorem rcl_loop (Inv:rcl_G→List Prop) (m:rcl_G→Nat) (hs:∀ g,allP (Inv g)→rcl_side g.1 g.2.1 g.2.2.1 g.2.2.2.1 g.2.2.2.2) (hg:Goes (fun g:rcl_G=>rcl_R g.1 g.2.1 g.2.2.1 g.2.2.2.1 g.2.2.2.2) m fun g=>allP (Inv g)):∀ b∈loopsOf Tryd.prog 4,lkey b=7→LoopOk Tryd.prog b (rcl_C Inv m).g:=loop_run (Γ:=(PTab.gamz tabQ2 [] [])) (Λ:=noΛ) (PTab.okz tabQ2 [] []) noΛ_ok 100 4 7 71 rcl_LP [] Inv (fun g=>rcl_R g.1 g.2.1 g.2.2.1 g.2.2.2.1 g.2.2.2.2) (fun g=>rcl_side g.1 g.2.1 g.2.2.1 g.2.2.2.1 g.2.2.2.2) m default [.ret,.exit 0] rcl_one (fun rd T B HL HB ds g=>by kernel_rfl) (fun rd T B HL HB ds g=>by kernel_rfl) hs hg rcl_es
end Go.Proofs.YtmegbepjdololaaDoor

namespace Go.Proofs.YtmegbepjdololaaDoor
open Go.RowKit Go.Sx Go.Lp
end Go.Proofs.YtmegbepjdololaaDoor

namespace Go.Proofs.YtmegbepjdololaaDoor
open Go.RowKit Go.Sx Go.Lp
set_option maxRecDepth 100000
noncomputable def rcl_S (_:rcl_GC) (b:rcl_GB) (_:Int) (v:Rune):Ex×rcl_GB:=bif v.at' != (b.1.size:Int) then (.ret,(b.1,false)) else (.normal,(b.1++Utf8.encode v.r,b.2))
def rcl_K (c:rcl_GC) (b:rcl_GB) (i:Int):Prop:=c.1.length≤4000∧(b.1.size:Int)≤4 * i
abbrev rcl_I (g:rcl_G):List Prop:=ixI (fun c:rcl_GC=>c.2) (fun c=>c.1) rcl_K (rcl_f g)
abbrev rcl_M (g:rcl_G):Nat:=ixM (fun c:rcl_GC=>c.2) (rcl_f g)
theorem enc_size (n:Int):(Utf8.encode n).size≤4:=by
 unfold Utf8.encode
 generalize (if Utf8.valid n=true then n.toNat else Utf8.runeError)=c
 show (if c<0x80 then _ else _:ByteArray).size≤4
 split
 ·exact (by decide:1≤4)
 ·split
  ·exact (by decide:2≤4)
  ·split
   ·exact (by decide:3≤4)
   ·exact (by decide:4≤4)
theorem rcl_P:ixP rcl_S (fun c:rcl_GC=>c.1) rcl_K:=fun c b i a h _ hn=>⟨h.1,by
 have:=h.2
 unfold rcl_S at hn ⊢
 cases hb:a.at' != (b.1.size:Int) with
 | true=>rw[hb] at hn;cases hn
 | false=>
  show ((b.1++Utf8.encode a.r).size:Int)≤_
  have:=enc_size a.r
  rw[ByteArray.size_append]
  omega⟩
noncomputable abbrev rcl_RR (g:rcl_G):Ex×rcl_G:=rcl_R g.1 g.2.1 g.2.2.1 g.2.2.2.1 g.2.2.2.2
theorem rcl_RF (d:Int×rcl_GC×rcl_GB) (_:allP (ixI (fun c:rcl_GC=>c.2) (fun c=>c.1) rcl_K d)):rcl_RR (rcl_g d)=((ixF 0 (fun c:rcl_GC=>c.2) (fun c=>c.1) eU.dflt rcl_S d).1,rcl_g (ixF 0 (fun c:rcl_GC=>c.2) (fun c=>c.1) eU.dflt rcl_S d).2):=by
 obtain ⟨i,⟨xs,n⟩,⟨a,r⟩⟩:=d
 show rcl_R xs n i a r=_
 unfold rcl_R ixF rcl_S
 simp only[El.ag_eq]
 cases decide (i<n) with
 | false=>rfl
 | true=>
  simp only[cond_true]
  generalize (xs.getD i.toNat eU.dflt)=v
  cases v.at' != (a.size:Int) <;> rfl
theorem rcl_ok:∀ b∈loopsOf Tryd.prog 4,lkey b=7→LoopOk Tryd.prog b (rcl_C rcl_I rcl_M).g:=by
 refine rcl_loop rcl_I rcl_M (fun g hi=>?_) (ix_conj_goes (fun _=>rfl) (fun _=>rfl) rcl_RF rcl_P)
 obtain ⟨xs,n,i,a,r⟩:=g
 obtain ⟨h1,h2,h3,h4,h5,h6⟩:=hi _ (List.mem_cons_self ..)
 have h1:n=(xs.length:Int):=h1
 have h3:0≤i:=h3
 have h4:i≤(xs.length:Int):=h4
 have h5:xs.length≤4000:=h5
 have h6:(a.size:Int)≤4 * i:=h6
 show rcl_side xs n i a r
 unfold rcl_side
 simp only[El.okL_eq]
 have:=enc_size (xs.getD i.toNat eU.dflt).r
 refine ⟨fun hlt=>?_,fun _=>trivial⟩
 have hlt:=of_decide_eq_true hlt
 exact ⟨⟨h3,by omega⟩,fun _=>trivial,fun _=>⟨by omega,trivial⟩⟩
theorem rcl_one1 (c:rcl_GC) (x p:Nat) (i:Int) (a:BA) (r:Bool) (h:a.size=p):rcl_S c (a,r) i (⟨(p:Int),(x:Int)⟩:Rune)=(.normal,(a++Utf8.encode (x:Int),r)):=by
 unfold rcl_S
 simp only[h,bne_self_eq_false,cond_false]
theorem enc_toL (a:BA) (x:Nat):toL (a++Utf8.encode (x:Int))=toL a++encL x:=by rw[toL_app,encL_eq]
theorem enc_app (a:BA) (x p:Nat) (h:a.size=p):(a++Utf8.encode (x:Int)).size=p+(encL x).length:=by
 have e:=congrArg List.length (enc_toL a x)
 rw[List.length_append] at e
 have t1:(toL (a++Utf8.encode (x:Int))).length=_:=toL_len _
 have t2:(toL a).length=_:=toL_len a
 rw[t1,t2,h] at e
 exact e
theorem rcl_scan (c:rcl_GC) (r:Bool) (cs:List Nat):∀ (p:Nat) (i:Int) (a:BA),a.size=p→∃ j b,scan 0 (rcl_S c) i ((rpF p (cs.map rwd)).map fun d=>(⟨(d.1:Int),(d.2:Int)⟩:Rune)) (a,r)=(.exit 0,j,(b,r))∧toL b=toL a++encs cs:=by
 induction cs with
 | nil=>intro p i a _;exact ⟨i,a,rfl,by simp[encs]⟩
 | cons x cs ih=>
  intro p i a h
  obtain ⟨j,b,h1,h2⟩:=ih (p+(encL x).length) (i+1) (a++Utf8.encode (x:Int)) (enc_app a x p h)
  refine ⟨j,b,?_,?_⟩
  ·rw[List.map_cons,rwd,rpF,List.map_cons]
   simp only[scan,rcl_one1 c x p i a r h]
   exact h1
  ·rw[h2,enc_toL,encs_cons,List.append_assoc]
theorem rcl_run (s:BA) (hs:s.size≤3000) {cs:List Nat} (hcs:∀ c∈cs,sc c) (he:toL s=encs cs):(loopF rcl_RR rcl_M (rcl_g (0,(runes05 s,((runes05 s).length:Int)),(ByteArray.mk #[],false)))).1=.exit 0∧(loopF rcl_RR rcl_M (rcl_g (0,(runes05 s,((runes05 s).length:Int)),(ByteArray.mk #[],false)))).2.2.2.2.1=s:=by
 have hl:=runes05_len s
 have hK:rcl_K (runes05 s,((runes05 s).length:Int)) (ByteArray.mk #[],false) 0:=⟨by show (runes05 s).length≤4000;omega,by show (0:Int)≤4 * 0;decide⟩
 have hr:loopF rcl_RR rcl_M (rcl_g (0,(runes05 s,((runes05 s).length:Int)),(ByteArray.mk #[],false)))=_:=ix_conj_run (φ:=rcl_f) (ψ:=rcl_g) (fun _=>rfl) (fun _=>rfl) rcl_RF rcl_P (runes05 s,((runes05 s).length:Int)) (ByteArray.mk #[],false) rfl (by show (runes05 s).length≤maxLen;unfold maxLen;omega) hK
 rw[hr]
 have hru:runes05 s=(rpF 0 (cs.map rwd)).map fun d=>(⟨(d.1:Int),(d.2:Int)⟩:Rune):=by
  unfold runes05 rpL
  rw[he,rsL_encs0 hcs]
 obtain ⟨j,b,h1,h2⟩:=rcl_scan (runes05 s,((runes05 s).length:Int)) false cs 0 0 (ByteArray.mk #[]) rfl
 rw[← hru] at h1
 show (scan 0 (rcl_S (runes05 s,((runes05 s).length:Int))) 0 (runes05 s) (ByteArray.mk #[],false)).1=_∧(scan 0 (rcl_S (runes05 s,((runes05 s).length:Int))) 0 (runes05 s) (ByteArray.mk #[],false)).2.2.1=_
 rw[h1]
 refine ⟨rfl,toL_inj ?_⟩
 show toL b=toL s
 rw[h2,he]
 rfl
def cutL:List (Nat×Nat)→Int→List (Nat×Nat)
 | [],_=>[]
 | (c,w) :: r,n=>if (w:Int)≤n then (c,w) :: cutL r (n - w) else []
theorem cutW_L:∀ (r:List (Nat×Nat)) (n:Int),cutW r n=wsum (cutL r n)
 | [],_=>rfl
 | (c,w) :: r,n=>by
  unfold cutW cutL
  split
  ·rw[cutW_L r];simp[wsum]
  ·rfl
theorem cutL_min:∀ (r:List (Nat×Nat)) (n m:Int),cutL (cutL r n) m=cutL r (min n m)
 | [],_,_=>rfl
 | (c,w) :: r,n,m=>by
  conv=>lhs;rw[cutL]
  conv=>rhs;rw[cutL]
  by_cases h:(w:Int)≤n
  ·rw[if_pos h]
   conv=>lhs;rw[cutL]
   by_cases h2:(w:Int)≤m
   ·rw[if_pos h2,if_pos (by omega),cutL_min r,show min (n - (w:Int)) (m - w)=min n m - w by omega]
   ·rw[if_neg h2,if_neg (by omega)]
  ·rw[if_neg h,if_neg (by omega)]
   rfl
theorem cutL_pre:∀ (cs:List Nat) (n:Int),∃ ds es,cs=ds++es∧cutL (cs.map rwd) n=ds.map rwd
 | [],_=>⟨[],[],rfl,rfl⟩
 | x :: cs,n=>by
  show ∃ ds es,_∧cutL ((x,(encL x).length) :: cs.map rwd) n=_
  rw[cutL]
  by_cases h:(((encL x).length:Nat):Int)≤n
  ·rw[if_pos h]
   obtain ⟨ds,es,h1,h2⟩:=cutL_pre cs (n - ((encL x).length:Nat))
   refine ⟨x :: ds,es,by rw[h1];rfl,?_⟩
   rw[h2];rfl
  ·rw[if_neg h]
   exact ⟨[],x :: cs,rfl,rfl⟩
theorem wsum_encs (ds:List Nat):wsum (ds.map rwd)=(encs ds).length:=by
 induction ds with
 | nil=>rfl
 | cons c ds ih=>
  rw[encs_cons,List.length_append,← ih,List.map_cons]
  unfold wsum
  rw[List.map_cons,List.sum_cons,rwd]
theorem cut_encs {s:BA} {cs:List Nat} (hcs:∀ c∈cs,sc c) (he:toL s=encs cs) (n:Int):∃ ds es,cs=ds++es∧cutL (cs.map rwd) n=ds.map rwd∧toL (cutS s n)=encs ds:=by
 obtain ⟨ds,es,h1,h2⟩:=cutL_pre cs n
 refine ⟨ds,es,h1,h2,?_⟩
 unfold cutS
 rw[toL_ext,he,rsL_encs0 hcs,cutW_L,h2,wsum_encs,h1,encs_append,List.drop_zero,List.take_left' rfl]
theorem cut_laws {s:BA} (hv:validS s=true) (n m:Int) (hn:0≤n):((cutS s n).size:Int)≤n∧validS (cutS s n)=true∧cutS (cutS s n) m=cutS s (min n m):=by
 obtain ⟨cs,hcs,he⟩:=valid_split hv
 obtain ⟨ds,es,h1,h2,h3⟩:=cut_encs hcs he n
 have hds:∀ c∈ds,sc c:=fun c hc=>hcs c (by rw[h1];exact List.mem_append_left _ hc)
 refine ⟨?_,?_,?_⟩
 ·have hz:(cutS s n).size=cutW (cs.map rwd) n:=by
   have t:(toL (cutS s n)).length=_:=toL_len _
   rw[← t,h3,cutW_L,h2,wsum_encs]
  rw[hz]
  rcases cutW_le' (cs.map rwd) n with h | h
  ·omega
  ·exact h
 ·unfold validS
  rw[h3]
  exact valid_encs0 hds
 ·obtain ⟨ds2,es2,k1,k2,k3⟩:=cut_encs hds h3 m
  obtain ⟨ds3,es3,l1,l2,l3⟩:=cut_encs hcs he (min n m)
  apply toL_inj
  rw[k3,l3]
  rw[← h2,cutL_min,l2] at k2
  have hmap:∀ l:List Nat,(l.map rwd).map (·.1)=l:=fun l=>by
   rw[List.map_map]
   exact List.map_id l
  have:=congrArg (List.map (·.1)) k2
  rw[hmap,hmap] at this
  rw[this]
noncomputable def ltQ5:LTab Tryd.prog:=LTab.nil.cons 4 7 (rcl_C rcl_I rcl_M) rcl_ok
noncomputable abbrev lamQ5:Lam:=ltQ5.lam
theorem lamQ5_ok:∀ f k L,lamQ5 f k=some L→∀ b∈loopsOf Tryd.prog f,lkey b=k→LoopOk Tryd.prog b L.g:=ltQ5.ok
end Go.Proofs.YtmegbepjdololaaDoor

namespace Go.Proofs.YtmegbepjdololaaDoor
open Go.RowKit Go.Sx
set_option maxRecDepth 100000
set_option linter.unusedVariables false
abbrev aB88:DA (BA×Int×Int):=.cons dStr (.cons d8 (.one d8))
noncomputable def lrc5_q1 (s:BA) (n:Int) (m:Int):Ex ×
 rcl_G:=
 loopF (fun g=>rcl_R g.fst g.snd.fst g.snd.snd.fst g.snd.snd.snd.fst g.snd.snd.snd.snd) rcl_M (eU.ag (runes05 s),(↑(runes05 s).length:Int),(0:Int),ByteArray.mk #[],false)
noncomputable def lrc5_F (s:BA) (n:Int) (m:Int):Dv.T dBool:=
 bif decide ((↑(ByteArray.size s):Int) > (3000:Int))||!validS s then true
 else bif exB Ex.ret (lrc5_q1 s n m).fst then (lrc5_q1 s n m).snd.snd.snd.snd.snd else decide ((lrc5_q1 s n m).snd.snd.snd.snd.fst=s)&&(decide ((↑(ByteArray.size (cutS s (IntKind.i64.wrap n))):Int)≤IntKind.i64.wrap n)&&(validS (cutS s (IntKind.i64.wrap n))&&decide (cutS (cutS s (IntKind.i64.wrap n)) (IntKind.i64.wrap m)=cutS s (List.foldl (fun a x=>bif false then if x.snd.snd > a then x.snd.snd else a else if x.snd.snd<a then x.snd.snd else a) (IntKind.i64.wrap n) [(false,IntKind.i64,IntKind.i64.wrap m)]))))
def lrc5_side (s:BA) (n:Int) (m:Int):Prop:=
 (!true)=false→((!decide ((↑(ByteArray.size s):Int) > (3000:Int)))=true→ByteArray.size s≤KB)∧((decide ((↑(ByteArray.size s):Int) > (3000:Int))||!validS s)=false→ByteArray.size s≤KB∧eU.okL (runes05 s)∧Lp.ixJ (fun c=>c.snd) (fun c=>c.fst) rcl_K (rcl_f (eU.ag (runes05 s),(↑(runes05 s).length:Int),(0:Int),ByteArray.mk #[],false))∧(exB Ex.ret (lrc5_q1 s n m).fst=false→decide ((lrc5_q1 s n m).snd.snd.snd.snd.fst=s)=true→decide ((↑(ByteArray.size (cutS s (IntKind.i64.wrap n))):Int)≤IntKind.i64.wrap n)=true→ByteArray.size (cutS s (IntKind.i64.wrap n))≤KB))
theorem lrc5_okS (pre:DA.T aB88→List Prop) (h:∀ g,DA.bd aB88 g→(∀ p∈pre g,p)→lrc5_side g.1 g.2.1 g.2.2):FnPure Tryd.prog 4 aB88 dBool (fun g=>lrc5_F g.1 g.2.1 g.2.2) pre:=pure_of_sideS (Γ:=(PTab.gamz tabQ2 [] [])) (Λ:=lamQ5) (PTab.okz tabQ2 [] []) lamQ5_ok 100 default (fun g=>lrc5_side g.1 g.2.1 g.2.2) (fun g=>by kernel_rfl) (fun g=>by kernel_rfl) h
end Go.Proofs.YtmegbepjdololaaDoor

namespace Go.Proofs.YtmegbepjdololaaDoor
open Go.RowKit Go.Sx Go.Lp
set_option maxRecDepth 100000
theorem min_foldI (a b:Int):List.foldl (fun a (x:Bool×IntKind×Int)=>bif false then if x.snd.snd > a then x.snd.snd else a else if x.snd.snd<a then x.snd.snd else a) a [(false,IntKind.i64,b)]=min a b:=by
 show (if b<a then b else a)=min a b
 split <;> omega
theorem lrc5_eq (s:BA) (n m:Int) (hn:0≤n∧n≤255) (hm:0≤m∧m≤255):lrc5_side s n m∧lrc5_F s n m=true:=by
 unfold lrc5_side lrc5_F
 rw[wr64 (x:=n) (by omega),wr64 (x:=m) (by omega),min_foldI]
 simp only[El.okL_eq,El.ag_eq]
 by_cases h3:(s.size:Int) > 3000
 ·rw[decide_eq_true h3]
  exact ⟨fun _=>⟨fun h=>(by cases h),fun h=>(by cases h)⟩,rfl⟩
 ·have hk:s.size≤KB:=by unfold KB;omega
  rw[decide_eq_false h3]
  cases hv:validS s with
  | false=>exact ⟨fun _=>⟨fun _=>hk,fun h=>(by cases h)⟩,rfl⟩
  | true=>
   obtain ⟨cs,hcs,he⟩:=valid_split hv
   have hl:=runes05_len s
   have hr:=rcl_run s (by omega) hcs he
   have hq:lrc5_q1 s n m=loopF rcl_RR rcl_M (rcl_g (0,(runes05 s,((runes05 s).length:Int)),(ByteArray.mk #[],false))):=by
    unfold lrc5_q1
    rw[El.ag_eq]
    rfl
   rw[← hq] at hr
   obtain ⟨c1,c2,c3⟩:=cut_laws hv n m hn.1
   have hK:rcl_K (runes05 s,((runes05 s).length:Int)) (ByteArray.mk #[],false) 0:=⟨by show (runes05 s).length≤4000;omega,by show (0:Int)≤4 * 0;decide⟩
   refine ⟨fun _=>⟨fun _=>hk,fun _=>⟨hk,trivial,ixJ0 rfl (by show (runes05 s).length≤maxLen;unfold maxLen;omega) hK,fun _ _ _=>by unfold KB;omega⟩⟩,?_⟩
   rw[hr.1,hr.2,c2,c3,decide_eq_true c1]
   simp[exB]
theorem lrc5_ok:FnPure Tryd.prog 4 aB88 dBool (fun _=>true) (fun g=>[0≤g.2.1∧g.2.1≤255,0≤g.2.2∧g.2.2≤255]):=
 pure_congr (lrc5_okS _ fun g _ hp=>(lrc5_eq g.1 g.2.1 g.2.2 (hp _ (List.mem_cons_self ..)) (hp _ (List.mem_cons_of_mem _ (List.mem_cons_self ..)))).1) fun g _ hp=>(lrc5_eq g.1 g.2.1 g.2.2 (hp _ (List.mem_cons_self ..)) (hp _ (List.mem_cons_of_mem _ (List.mem_cons_self ..)))).2
end Go.Proofs.YtmegbepjdololaaDoor

namespace Go.Proofs.YtmegbepjdololaaDoor
open Go.ChangeShapes Go.WideShapes Go.ChangeAt Go.RowKit Go.Sx
set_option maxRecDepth 100000 in
theorem recCuts_lifted (law:FnPure Tryd.prog 4 aB88 dBool (fun _=>true) (fun g=>[0≤g.2.1∧g.2.1≤255,0≤g.2.2∧g.2.2≤255])) (os:Os) (started:os.Started) (H:Type) (enc:TypeId×Value→H) :
  ReturnsInHanded {} Tryd.checked os 4 .any (fun w args=>(Rows.recCutsSpec.pre enc Tryd.prog Tryd.f4 Rows.recCutsRow.domain false w args∧laidMetH Tryd.prog Rows.recCutsRow.laid w)∧sizedMet enc Tryd.prog Tryd.f4 (OpenSpec.ofChange Rows.recCutsSpec) false w args) (Rows.recCutsSpec.post enc Tryd.prog Tryd.f4 false true false false):=by
 refine rowLaid (C:=Tryd.checked) (laid:=Rows.recCutsRow.laid) Tryd.own started (by kernel_rfl) Tryd.func4
  (ChangeSpec.witness_shaped (enc:=enc) (C:=Tryd.checked) (os:=os) (X:=fun w _=>laidMetH Tryd.prog Rows.recCutsRow.laid w) false (World.laidAll Tryd.prog os Rows.recCutsRow.laid) #[.string ByteArray.empty,.int .u8 0,.int .u8 0] 8 (World.laidAll_os _ _ _)
   (World.shaped_of_ZipB (by kernel_rfl) (by kernel_rfl)) (by kernel_rfl) (by kernel_rfl) (by kernel_rfl)
   (by rw[MakeChecks.laidMetH_plain _ _ _ (by kernel_rfl)];exact laidMet_laidAll _ (by kernel_rfl) (by kernel_rfl))) ?_
 intro W base args ds gs before hval0 hW hcnd hL hsh
 have hval:∀ (j:Nat) t v,Tryd.f4.params[j]?=some t→args[j]?=some v→Value.okWide Tryd.prog W .any base t v:=hval0
 have hW':=hW
 obtain ⟨p,q,hA0,hV,rfl,hfz,hnd⟩:=hW
 have hA:DataW.TrodAll enc Tryd.prog W 0 (fun _=>true) true Tryd.f4.params.toList args.toList ds p:=hA0
 rw[Tryd.params4] at hA hval
 obtain ⟨v0,vs0,d0,ds0,p0,qq0,hargs,rfl,rfl,h0,r0⟩:=trodAll_cons hA
 obtain ⟨v1,vs1,d1,ds1,p1,qq1,rfl,rfl,rfl,h1,r1⟩:=trodAll_cons r0
 obtain ⟨v2,vs2,d2,ds2,p2,qq2,rfl,rfl,rfl,h2,r2⟩:=trodAll_cons r1
 obtain ⟨rfl,rfl,rfl⟩:=trodAll_nil r2
 obtain rfl:args=#[v0,v1,v2]:=by cases args;simp_all
 obtain ⟨rfl,rfl⟩:=trodVars_none hV
 obtain ⟨a0,q0,f0⟩:=rdvS _ _ _ _ _ _ _ _ _ _ _ (hval 0 9 v0 rfl rfl) h0
 obtain ⟨a1,q1,f1⟩:=rdv8 _ _ _ _ _ _ _ _ _ _ _ (hval 1 5 v1 rfl rfl) h1
 obtain ⟨a2,q2,f2⟩:=rdv8 _ _ _ _ _ _ _ _ _ _ _ (hval 2 5 v2 rfl rfl) h2
 have lt:∀ {t:TypeId} {v:Value} {d:DataW H} {ps:List MemPlace},DataW.Trod enc Tryd.prog W 0 (fun _=>true) true t v d ps→∀ x∈ps,x.block<W.heap.size:=by
  rintro t v d ps ⟨m,hm⟩
  exact DataW.trod_lt m _ _ _ hm
 clear hA0 hval0
 refine (law W (fun b=>W.heap[b]?) (a0,a1,a2) [v0,v1,v2] (fun _ _ h=>h) (rowEnv hL hsh) (by intro p hp;simp only[List.mem_cons,List.not_mem_nil,or_false] at hp;rcases hp with rfl | rfl;exact wf8 q1;exact wf8 q2) ⟨f0,f1,f2,trivial⟩).mono fun e W' ⟨x,he,bel,hx⟩=>?_
 obtain rfl:x=.bool true:=by simpa [dBool,SV.fit] using hx
 subst he
 exact ⟨_,rfl,_,_,_,[],_,[],hW',trodAll_mk1 (shut_bool Tryd.underlying4 _),
  (trodAll_cons_mk (Below.trod Tryd.laidOut (by kernel_rfl) (of_decide_eq_true (by kernel_rfl)) h0 bel (lt h0))
  (trodAll_cons_mk (Below.trod Tryd.laidOut (by kernel_rfl) (of_decide_eq_true (by kernel_rfl)) h1 bel (lt h1))
  (trodAll_cons_mk (Below.trod Tryd.laidOut (by kernel_rfl) (of_decide_eq_true (by kernel_rfl)) h2 bel (lt h2)) trodAll_mk0))),rfl,bel.frame _,fun h=>by cases h⟩
theorem recCuts_row:Rows.RecCutsSaid:=
 OpenClaim.holds_of_wide 4 Tryd.f4 rfl rfl rfl rfl rfl rfl rfl ⟨rfl,rfl,rfl,rfl,rfl⟩ rfl rfl rfl rfl rfl (by kernel_rfl) Tryd.func4 (by kernel_rfl)
  (of_decide_eq_true (by kernel_rfl)) (by unfold Func.isWrapper;first | (rw[if_pos (by decide +kernel)];kernel_rfl) | (rw[if_neg (by decide +kernel)];exact ⟨rfl,rfl⟩))
  (fun os started H enc _=>recCuts_lifted lrc5_ok os started H enc)
theorem recCuts_holds:Rows.RecCutsCardSaid:=
 Claim7.holds_tied_plain_at .later [] [.data,.pinned] true (true, "32193793d8c897b5bc8816bf3022b22418d0ad242f639242150ef454e65964bb") false recCuts_row (fun _ h=>by cases h) (by kernel_rfl) (fun _ h=>by cases h) recCuts_row_tie rfl ⟨rfl,rfl⟩ (by kernel_rfl) rfl
  (fun f fn hf hfn=>by
   obtain rfl:f=4:=Option.some.inj ((show Tryd.prog.funcNamed "rivulet/rivuletlaw05.RecCuts" = some 4 by kernel_rfl).symm.trans hf) |>.symm
   obtain rfl:fn=Tryd.f4:=(Option.some.inj (Tryd.func4.symm.trans hfn)).symm
   exact ⟨by kernel_rfl,fun j t ht=>by
    rw[Tryd.params4] at ht
    have hm:t∈[9,5,5]:=by simpa using Array.mem_of_getElem? ht
    have hall:([9,5,5].all fun u=>!Tryd.prog.wantsStandIn u)=true:=by kernel_rfl
    exact (show Tryd.prog.wantsStandIn t=false by simpa using List.all_eq_true.1 hall t hm)⟩)
  (by kernel_rfl)
end Go.Proofs.YtmegbepjdololaaDoor
