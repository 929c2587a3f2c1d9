/- Chapter 5: texts as records: the loops' contracts. -/
import Derived.Test.YtmegbepjdololaaDoorZG1346ef63
import Derived.Test.YtmegbepjdololaaDoorZG06804c20
import Derived.Test.YtmegbepjdololaaDoorZG08a99bab
import Derived.Test.YtmegbepjdololaaDoorCards
set_option linter.unusedVariables false
set_option linter.unusedSimpArgs false
set_option linter.constructorNameAsVariable false
set_option linter.all false

namespace Go.Proofs.YtmegbepjdololaaDoor
open Go.RowKit Go.Sx Go.Lp
set_option maxRecDepth 100000
def uStep (l:List Int) (p:Nat):Option (Nat×Int):=
 if l.getD p 0=37 then if p+2≥l.length∨hexV (l.getD (p+1) 0)<0∨hexV (l.getD (p+2) 0)<0 then none else some (3,16 * hexV (l.getD (p+1) 0)+hexV (l.getD (p+2) 0)) else some (1,l.getD p 0)
theorem uStep_le {l:List Int} {p k:Nat} {v:Int} (hp:p<l.length) (h:uStep l p=some (k,v)):1≤k∧p+k≤l.length:=by
 unfold uStep at h
 split at h
 ·split at h
  ·cases h
  ·cases h;omega
 ·cases h;omega
theorem unesc_step (l:List Int) (p:Nat) (hp:p<l.length) (b:List Int):unescF (l.length - p) (l.drop p) b=match uStep l p with
  | none=>none
  | some (k,v)=>unescF (l.length - (p+k)) (l.drop (p+k)) (b++[v]):=by
 obtain ⟨n,hn⟩:∃ n,l.length - p=n+1:=⟨l.length - p - 1,by omega⟩
 rw[hn,List.drop_eq_getElem_cons hp]
 have e0:l.getD p 0=l[p]:=by rw[List.getD_eq_getElem?_getD,List.getElem?_eq_getElem hp];rfl
 conv=>lhs;unfold unescF
 unfold uStep
 rw[e0]
 by_cases h37:l[p]=37
 ·rw[if_pos h37,if_pos h37]
  by_cases h2:p+2<l.length
  ·have h1:p+1<l.length:=by omega
   have e1:l.getD (p+1) 0=l[p+1]:=by rw[List.getD_eq_getElem?_getD,List.getElem?_eq_getElem h1];rfl
   have e2:l.getD (p+2) 0=l[p+2]:=by rw[List.getD_eq_getElem?_getD,List.getElem?_eq_getElem h2];rfl
   rw[List.drop_eq_getElem_cons h1,List.drop_eq_getElem_cons h2,e1,e2]
   simp only
   by_cases hh:hexV l[p+1]<0∨hexV l[p+2]<0
   ·rw[if_pos hh,if_pos (.inr hh)]
   ·rw[if_neg hh,if_neg (by rintro (h | h);omega;exact hh h)]
    simp only
    refine unescF_more _ _ _ _ ?_ ?_ <;> rw[List.length_drop] <;> omega
  ·rw[if_pos (.inl (by omega))]
   simp only
   have hl:(l.drop (p+1)).length≤1:=by rw[List.length_drop];omega
   match hd:l.drop (p+1) with
   | []=>rfl
   | [_]=>rfl
   | _ :: _ :: _=>rw[hd] at hl;simp at hl
 ·rw[if_neg h37,if_neg h37]
  simp only
  refine unescF_more _ _ _ _ ?_ ?_ <;> rw[List.length_drop] <;> omega
theorem unesc_end (l:List Int) (p:Nat) (hp:l.length≤p) (b:List Int):unescF (l.length - p) (l.drop p) b=some b:=by
 rw[show l.length - p=0 by omega];rfl
theorem or16:∀ h<16,∀ l<16,IntKind.u8.wrap (iOr .i64 (iShl .i64 ((h:Nat):Int) 4) ((l:Nat):Int))=16 * ((h:Nat):Int)+((l:Nat):Int):=by decide +kernel
theorem orH {h l:Int} (h1:¬ h<0) (h2:h<16) (h3:¬ l<0) (h4:l<16):IntKind.u8.wrap (iOr .i64 (iShl .i64 h 4) l)=16 * h+l:=by
 obtain ⟨a,rfl⟩:∃ a:Nat,h=a:=⟨h.toNat,by omega⟩
 obtain ⟨c,rfl⟩:∃ c:Nat,l=c:=⟨l.toNat,by omega⟩
 exact or16 a (by omega) c (by omega)
theorem hexV_lt (c:Int):hexV c<16:=by rcases hexV_range c with h | h <;> omega
theorem ap1 (b:List Int) (v:Int):e8u.lst (min (b.length+1) b.length) (e8u.els b)++List.map (fun _=>v) (List.range (b.length+1 - b.length))=b++[v]:=tx_app1 b v
def ps_P (s:BA) (b:List Int):Prop:=b.length+s.size≤KB
abbrev ps_I (g:ps_G):List Prop:=[ps_P g.2.2.1 g.2.2.2.1]
abbrev ps_M (g:ps_G):Nat:=g.2.2.1.size
noncomputable abbrev ps_RR (g:ps_G):Ex×ps_G:=ps_R g.1 g.2.1 g.2.2.1 g.2.2.2.1 g.2.2.2.2
theorem emp_iff (s:BA):s=ByteArray.mk #[]↔s.size=0:=by
 constructor
 ·rintro rfl;rfl
 ·intro h
  have e:bts s=[]:=List.eq_nil_of_length_eq_zero (by rw[bts_len];exact h)
  exact bts_inj e
theorem ixb (k:Nat) (s:BA):Lib.indexByte [(48:UInt8),(49:UInt8),(50:UInt8),(51:UInt8),(52:UInt8),(53:UInt8),(54:UInt8),(55:UInt8),(56:UInt8),(57:UInt8),(97:UInt8),(98:UInt8),(99:UInt8),(100:UInt8),(101:UInt8),(102:UInt8)] (((bts s).getD k 0).toNat.toUInt8)=hexV ((bts s).getD k 0):=
 (hexOk (bts_getD s k)).2
theorem ps_RF (w:Rec) (s:BA) (b:List Int) (e:Int):ps_R () w s b e=if s.size=0 then (.exit 0,(),w,s,b,e) else match uStep (bts s) 0 with
  | none=>(.ret,(),Rec.mk 0 (ByteArray.mk #[]),s,b,50)
  | some (k,v)=>(.normal,(),w,s.extract k s.size,b++[v],e):=by
 unfold ps_R uStep
 simp only[bts_get,El.ag_eq,ixb]
 by_cases h0:s.size=0
 ·rw[if_pos h0,decide_eq_true ((emp_iff s).2 h0)];rfl
 ·rw[if_neg h0,decide_eq_false (fun h=>h0 ((emp_iff s).1 h))]
  have hl:=bts_len s
  simp only[Bool.not_false,cond_true,Nat.zero_add,hl]
  by_cases h37:(bts s).getD 0 0=37
  ·rw[h37]
   simp only[bne_self_eq_false,Bool.not_false,Bool.true_and,cond_false,if_true]
   by_cases h3:(s.size:Int)<3
   ·rw[decide_eq_true h3,if_pos (.inl (by omega))];rfl
   ·rw[decide_eq_false h3]
    simp only[cond_false]
    have r1:=hexV_lt ((bts s).getD 1 0)
    have r2:=hexV_lt ((bts s).getD 2 0)
    generalize hexV ((bts s).getD 1 0)=x at r1 ⊢
    generalize hexV ((bts s).getD 2 0)=y at r2 ⊢
    by_cases hx:x<0
    ·rw[decide_eq_true hx,if_pos (.inr (.inl hx))];rfl
    ·by_cases hy:y<0
     ·rw[decide_eq_true hy,if_pos (.inr (.inr hy)),Bool.or_true];rfl
     ·rw[decide_eq_false hx,decide_eq_false hy,if_neg (by rintro (h | h | h);omega;exact hx h;exact hy h),orH hx r1 hy r2,ap1]
      rfl
  ·rw[if_neg h37,bne_iff_ne.2 h37]
   simp only[Bool.not_true,Bool.false_and,cond_false,cond_true]
   rw[ap1]
theorem ps_step {s:BA} {b:List Int} (h:ps_P s b) {k:Nat} {v:Int} (h0:s.size≠0) (hs:uStep (bts s) 0=some (k,v)):ps_P (s.extract k s.size) (b++[v])∧(s.extract k s.size).size<s.size∧bts (s.extract k s.size)=(bts s).drop k:=by
 have:=uStep_le (by rw[bts_len];omega) hs
 rw[bts_len] at this
 have hsz:(s.extract k s.size).size=s.size - k:=by rw[ByteArray.size_extract];omega
 refine ⟨?_,by omega,?_⟩
 ·unfold ps_P at h ⊢
  rw[hsz,List.length_append]
  simp only[List.length_cons,List.length_nil]
  omega
 ·rw[bts_ext,List.take_of_length_le (by rw[bts_len];exact Nat.le_refl _)]
theorem ps_goes:Goes ps_RR ps_M fun g=>allP (ps_I g):=by
 rintro ⟨⟨⟩,w,s,b,e⟩ hi hn
 have h:ps_P s b:=hi _ (List.mem_cons_self ..)
 have eq:ps_RR ((),w,s,b,e)=_:=ps_RF w s b e
 rw[eq] at hn ⊢
 by_cases h0:s.size=0
 ·rw[if_pos h0] at hn;cases hn
 ·rw[if_neg h0] at hn ⊢
  cases hu:uStep (bts s) 0 with
  | none=>rw[hu] at hn;cases hn
  | some x=>
   obtain ⟨k,v⟩:=x
   obtain ⟨h1,h2,_⟩:=ps_step h h0 hu
   refine ⟨fun p hp=>?_,h2⟩
   rw[List.mem_singleton.1 hp];exact h1
theorem byt5 (h:5<Tryd.prog.types.size):(Tryd.prog.types[(5:Nat)]'h).bytes=1:=by kernel_rfl
theorem ps_ok:∀ b∈loopsOf Tryd.prog 41,lkey b=6→LoopOk Tryd.prog b (ps_C ps_I ps_M).g:=by
 refine ps_loop ps_I ps_M (fun g hi=>?_) ps_goes
 obtain ⟨⟨⟩,w,s,b,e⟩:=g
 have h:ps_P s b:=hi _ (List.mem_cons_self ..)
 unfold ps_P KB at h
 show ps_side () w s b e
 unfold ps_side
 simp only[El.okL_eq,El.ag_eq,byt5]
 by_cases h0:s.size=0
 ·rw[decide_eq_true ((emp_iff s).2 h0)]
  refine ⟨fun h=>(by cases h),fun _=>?_⟩
  repeat' (first | apply And.intro | intro _)
  all_goals first | trivial | omega
 ·rw[decide_eq_false (fun h=>h0 ((emp_iff s).1 h))]
  generalize ((↑(ByteArray.get! s (0:Nat)).toNat:Int) != (37:Int))=z
  by_cases h3:(s.size:Int)<3
  ·rw[decide_eq_true h3]
   unfold maxLen
   cases z
   ·refine ⟨fun _=>⟨⟨by omega,by omega⟩,fun h=>(by cases h),fun h=>(by cases h),fun h=>(by cases h),fun h=>(by cases h),?_⟩,fun h=>(by cases h)⟩
    refine ⟨fun _=>⟨by omega,fun _ _=>trivial⟩,fun h=>(by cases h)⟩
   ·refine ⟨fun _=>?_,fun h=>(by cases h)⟩
    simp only[Bool.not_true,Bool.false_and,Bool.false_eq_true,false_implies,true_and,forall_const]
    repeat' (first | apply And.intro | intro _)
    all_goals first | trivial | omega
  ·rw[decide_eq_false h3]
   unfold maxLen
   refine ⟨fun _=>?_,fun h=>(by cases h)⟩
   repeat' (first | apply And.intro | intro _)
   all_goals first | trivial | omega
theorem ps_run (w:Rec) (s:BA) (b:List Int) (e:Int) (h:ps_P s b):(∃ b',unescF s.size (bts s) b=some b'∧(loopF ps_RR ps_M ((),w,s,b,e)).1=.exit 0∧(loopF ps_RR ps_M ((),w,s,b,e)).2.2.1=w∧(loopF ps_RR ps_M ((),w,s,b,e)).2.2.2.2.1=b'∧(loopF ps_RR ps_M ((),w,s,b,e)).2.2.2.2.2=e)∨(unescF s.size (bts s) b=none∧(loopF ps_RR ps_M ((),w,s,b,e)).1=.ret∧(loopF ps_RR ps_M ((),w,s,b,e)).2.2.1=Rec.mk 0 (ByteArray.mk #[])∧(loopF ps_RR ps_M ((),w,s,b,e)).2.2.2.2.2=50):=by
 refine loopF_induct ps_goes (Q:=fun g r=>(∃ b',unescF g.2.2.1.size (bts g.2.2.1) g.2.2.2.1=some b'∧r.1=.exit 0∧r.2.2.1=g.2.1∧r.2.2.2.2.1=b'∧r.2.2.2.2.2=g.2.2.2.2)∨(unescF g.2.2.1.size (bts g.2.2.1) g.2.2.2.1=none∧r.1=.ret∧r.2.2.1=Rec.mk 0 (ByteArray.mk #[])∧r.2.2.2.2.2=50)) ?_ ?_ ((),w,s,b,e) (fun p hp=>by rw[List.mem_singleton.1 hp];exact h)
 ·rintro ⟨⟨⟩,w,s,b,e⟩ hi hn
  have eq:ps_RR ((),w,s,b,e)=_:=ps_RF w s b e
  rw[eq] at hn ⊢
  by_cases h0:s.size=0
  ·rw[if_pos h0]
   refine Or.inl ⟨b,?_,rfl,rfl,rfl,rfl⟩
   show unescF s.size (bts s) b=some b
   rw[h0];rfl
  ·rw[if_neg h0] at hn ⊢
   have hst:=unesc_step (bts s) 0 (by rw[bts_len];omega) b
   rw[Nat.sub_zero,List.drop_zero,bts_len] at hst
   cases hu:uStep (bts s) 0 with
   | none=>
    rw[hu] at hst
    exact .inr ⟨hst,rfl,rfl,rfl⟩
   | some x=>rw[hu] at hn;exact absurd rfl hn
 ·rintro ⟨⟨⟩,w,s,b,e⟩ g' r hi he _ _ hq
  have h:ps_P s b:=hi _ (List.mem_cons_self ..)
  have eq:ps_RR ((),w,s,b,e)=_:=ps_RF w s b e
  rw[eq] at he
  by_cases h0:s.size=0
  ·rw[if_pos h0] at he;cases he
  ·rw[if_neg h0] at he
   have hst:=unesc_step (bts s) 0 (by rw[bts_len];omega) b
   rw[Nat.sub_zero,List.drop_zero,bts_len] at hst
   cases hu:uStep (bts s) 0 with
   | none=>rw[hu] at he;cases he
   | some x=>
    obtain ⟨k,v⟩:=x
    rw[hu] at he hst
    simp only[Prod.mk.injEq,true_and] at he
    subst he
    obtain ⟨_,_,h3⟩:=ps_step h h0 hu
    simp only[Nat.zero_add] at hst
    have hk:=uStep_le (by rw[bts_len];omega) hu
    rw[bts_len] at hk
    have hsz:(s.extract k s.size).size=s.size - k:=by rw[ByteArray.size_extract];omega
    simp only[h3,hsz] at hq
    rw[← hst] at hq
    exact hq
def rp_P (s:BA) (i:Int) (b:List Int):Prop:=s.size≤KB∧0≤i∧i≤(s.size:Int)∧(b.length:Int)≤i
abbrev rp_I (g:rp_G):List Prop:=[rp_P g.2.2.1 g.2.2.2.1 g.2.2.2.2.1]
abbrev rp_M (g:rp_G):Nat:=g.2.2.1.size - g.2.2.2.1.toNat
noncomputable abbrev rp_RR (g:rp_G):Ex×rp_G:=rp_R g.1 g.2.1 g.2.2.1 g.2.2.2.1 g.2.2.2.2.1 g.2.2.2.2.2
theorem mulH {h l:Int} (h1:¬ h<0) (h2:h<16) (h3:¬ l<0) (h4:l<16):IntKind.u8.wrap (IntKind.i64.wrap (IntKind.i64.wrap (16 * h)+l))=16 * h+l:=by
 rw[wr64 (x:=16 * h) (by omega),wr64 (by omega),wrB (by omega)]
theorem rp_RF (w:Rec) (s:BA) (i:Int) (b:List Int) (e:Int) (h:rp_P s i b):rp_R () w s i b e=if i<(s.size:Int) then match uStep (bts s) i.toNat with
  | none=>(.ret,(),Rec.mk 0 (ByteArray.mk #[]),s,i,b,50)
  | some (k,v)=>(.normal,(),w,s,i+k,b++[v],e)
  else (.exit 2,(),w,s,i,b,e):=by
 obtain ⟨h1,h2,h3,h4⟩:=h
 unfold KB at h1
 unfold rp_R uStep
 rw[wr64 (x:=i+1) (by omega),wr64 (x:=i+2) (by omega)]
 simp only[bts_get,El.ag_eq]
 rw[show (i+1).toNat=i.toNat+1 by omega,show (i+2).toNat=i.toNat+2 by omega,bts_len]
 by_cases hlt:i<(s.size:Int)
 ·rw[if_pos hlt,decide_eq_true hlt]
  simp only[cond_true]
  by_cases h37:(bts s).getD i.toNat 0=37
  ·rw[h37]
   simp only[bne_self_eq_false,Bool.not_false,Bool.true_and,cond_false,if_true]
   by_cases h5:i+2≥(s.size:Int)
   ·rw[decide_eq_true h5,if_pos (.inl (by omega))];rfl
   ·rw[decide_eq_false h5]
    have r1:=hexV_lt ((bts s).getD (i.toNat+1) 0)
    have r2:=hexV_lt ((bts s).getD (i.toNat+2) 0)
    generalize hexV ((bts s).getD (i.toNat+1) 0)=x at r1 ⊢
    generalize hexV ((bts s).getD (i.toNat+2) 0)=y at r2 ⊢
    by_cases hx:x<0
    ·rw[decide_eq_true hx,if_pos (.inr (.inl hx))];rfl
    ·by_cases hy:y<0
     ·rw[decide_eq_true hy,if_pos (.inr (.inr hy)),Bool.or_true];rfl
     ·rw[decide_eq_false hx,decide_eq_false hy,if_neg (by rintro (h | h | h);omega;exact hx h;exact hy h),mulH hx r1 hy r2,ap1,wr64 (by omega),Int.add_assoc]
      rfl
  ·rw[if_neg h37,bne_iff_ne.2 h37]
   simp only[Bool.not_true,Bool.false_and,cond_false,cond_true]
   rw[ap1,wr64 (by omega)]
   rfl
 ·rw[if_neg hlt,decide_eq_false hlt];rfl
theorem rp_step {s:BA} {i:Int} {b:List Int} (h:rp_P s i b) {k:Nat} {v:Int} (hlt:i<(s.size:Int)) (hs:uStep (bts s) i.toNat=some (k,v)):rp_P s (i+k) (b++[v])∧1≤k:=by
 obtain ⟨h1,h2,h3,h4⟩:=h
 have:=uStep_le (by rw[bts_len];omega) hs
 rw[bts_len] at this
 refine ⟨⟨h1,by omega,by omega,?_⟩,this.1⟩
 rw[List.length_append]
 simp only[List.length_cons,List.length_nil]
 omega
theorem rp_goes:Goes rp_RR rp_M fun g=>allP (rp_I g):=by
 rintro ⟨⟨⟩,w,s,i,b,e⟩ hi hn
 have h:rp_P s i b:=hi _ (List.mem_cons_self ..)
 have eq:rp_RR ((),w,s,i,b,e)=_:=rp_RF w s i b e h
 rw[eq] at hn ⊢
 by_cases hlt:i<(s.size:Int)
 ·rw[if_pos hlt] at hn ⊢
  cases hu:uStep (bts s) i.toNat with
  | none=>rw[hu] at hn;cases hn
  | some x=>
   obtain ⟨k,v⟩:=x
   obtain ⟨h1,h2⟩:=rp_step h hlt hu
   refine ⟨fun p hp=>?_,?_⟩
   ·rw[List.mem_singleton.1 hp];exact h1
   ·show s.size - (i+k).toNat<s.size - i.toNat
    have:=h.2.1
    omega
 ·rw[if_neg hlt] at hn;cases hn
theorem rp_ok:∀ b∈loopsOf Tryd.prog 42,lkey b=9→LoopOk Tryd.prog b (rp_C rp_I rp_M).g:=by
 refine rp_loop rp_I rp_M (fun g hi=>?_) rp_goes
 obtain ⟨⟨⟩,w,s,i,b,e⟩:=g
 have h:rp_P s i b:=hi _ (List.mem_cons_self ..)
 obtain ⟨h1,h2,h3,h4⟩:=h
 unfold KB at h1
 show rp_side () w s i b e
 unfold rp_side
 rw[wr64 (x:=i+1) (by omega),wr64 (x:=i+2) (by omega)]
 simp only[El.okL_eq,El.ag_eq,byt5,bts_get]
 have r1:=bts_getD s (i+1).toNat
 have r2:=bts_getD s (i+2).toNat
 generalize (bts s).getD (i+1).toNat 0=x at r1 ⊢
 generalize (bts s).getD (i+2).toNat 0=y at r2 ⊢
 generalize ((bts s).getD i.toNat 0 != (37:Int))=z
 unfold maxLen
 by_cases hlt:i<(s.size:Int)
 ·rw[decide_eq_true hlt]
  refine ⟨fun _=>?_,fun h=>(by cases h)⟩
  by_cases h5:i+2≥(s.size:Int)
  ·rw[decide_eq_true h5]
   cases z
   ·simp only[Bool.not_true,Bool.not_false,Bool.true_or,Bool.true_and,Bool.false_eq_true,false_implies,true_implies,true_and,forall_const,and_true,Bool.true_eq_false]
    repeat' (first | apply And.intro | intro _)
    all_goals first | trivial | omega
   ·simp only[Bool.not_true,Bool.not_false,Bool.false_and,Bool.false_eq_true,false_implies,true_implies,true_and,forall_const,and_true,Bool.true_eq_false]
    repeat' (first | apply And.intro | intro _)
    all_goals first | trivial | omega
  ·rw[decide_eq_false h5]
   repeat' (first | apply And.intro | intro _)
   all_goals first | trivial | omega
 ·rw[decide_eq_false hlt]
  refine ⟨fun h=>(by cases h),fun _=>?_⟩
  repeat' (first | apply And.intro | intro _)
  all_goals first | trivial | omega
theorem rp_run (w:Rec) (s:BA) (i:Int) (b:List Int) (e:Int) (h:rp_P s i b):(∃ b',unescF (s.size - i.toNat) ((bts s).drop i.toNat) b=some b'∧(loopF rp_RR rp_M ((),w,s,i,b,e)).1=.exit 2∧(loopF rp_RR rp_M ((),w,s,i,b,e)).2.2.1=w∧(loopF rp_RR rp_M ((),w,s,i,b,e)).2.2.2.1=s∧(loopF rp_RR rp_M ((),w,s,i,b,e)).2.2.2.2.2.1=b'∧(loopF rp_RR rp_M ((),w,s,i,b,e)).2.2.2.2.2.2=e)∨(unescF (s.size - i.toNat) ((bts s).drop i.toNat) b=none∧(loopF rp_RR rp_M ((),w,s,i,b,e)).1=.ret∧(loopF rp_RR rp_M ((),w,s,i,b,e)).2.2.1=Rec.mk 0 (ByteArray.mk #[])∧(loopF rp_RR rp_M ((),w,s,i,b,e)).2.2.2.2.2.2=50):=by
 refine loopF_induct rp_goes (Q:=fun g r=>(∃ b',unescF (g.2.2.1.size - g.2.2.2.1.toNat) ((bts g.2.2.1).drop g.2.2.2.1.toNat) g.2.2.2.2.1=some b'∧r.1=.exit 2∧r.2.2.1=g.2.1∧r.2.2.2.1=g.2.2.1∧r.2.2.2.2.2.1=b'∧r.2.2.2.2.2.2=g.2.2.2.2.2)∨(unescF (g.2.2.1.size - g.2.2.2.1.toNat) ((bts g.2.2.1).drop g.2.2.2.1.toNat) g.2.2.2.2.1=none∧r.1=.ret∧r.2.2.1=Rec.mk 0 (ByteArray.mk #[])∧r.2.2.2.2.2.2=50)) ?_ ?_ ((),w,s,i,b,e) (fun p hp=>by rw[List.mem_singleton.1 hp];exact h)
 ·rintro ⟨⟨⟩,w,s,i,b,e⟩ hi hn
  have h:rp_P s i b:=hi _ (List.mem_cons_self ..)
  have eq:rp_RR ((),w,s,i,b,e)=_:=rp_RF w s i b e h
  rw[eq] at hn ⊢
  by_cases hlt:i<(s.size:Int)
  ·rw[if_pos hlt] at hn ⊢
   have h0i:=h.2.1
   have hst:=unesc_step (bts s) i.toNat (by rw[bts_len];omega) b
   rw[bts_len] at hst
   cases hu:uStep (bts s) i.toNat with
   | none=>
    rw[hu] at hst
    exact .inr ⟨hst,rfl,rfl,rfl⟩
   | some x=>rw[hu] at hn;exact absurd rfl hn
  ·rw[if_neg hlt]
   have h0i:=h.2.1
   have hst:=unesc_end (bts s) i.toNat (by rw[bts_len];omega) b
   rw[bts_len] at hst
   exact .inl ⟨b,hst,rfl,rfl,rfl,rfl,rfl⟩
 ·rintro ⟨⟨⟩,w,s,i,b,e⟩ g' r hi he _ _ hq
  have h:rp_P s i b:=hi _ (List.mem_cons_self ..)
  have eq:rp_RR ((),w,s,i,b,e)=_:=rp_RF w s i b e h
  rw[eq] at he
  by_cases hlt:i<(s.size:Int)
  ·rw[if_pos hlt] at he
   have h0i:=h.2.1
   have hst:=unesc_step (bts s) i.toNat (by rw[bts_len];omega) b
   rw[bts_len] at hst
   cases hu:uStep (bts s) i.toNat with
   | none=>rw[hu] at he;cases he
   | some x=>
    obtain ⟨k,v⟩:=x
    rw[hu] at he hst
    simp only[Prod.mk.injEq,true_and] at he
    subst he
    simp only at hst
    have e1:(i+(k:Int)).toNat=i.toNat+k:=by have:=h.2.1;omega
    simp only[e1] at hq
    rw[← hst] at hq
    exact hq
  ·rw[if_neg hlt] at he;cases he
noncomputable def ltN12:LTab Tryd.prog:=((LTab.nil.cons 41 6 (ps_C ps_I ps_M) ps_ok).cons 42 2 (rc_C rc_I rc_M) rc_ok).cons 42 9 (rp_C rp_I rp_M) rp_ok
noncomputable abbrev lamN12:Lam:=ltN12.lam
theorem lamN12_ok:∀ f k L,lamN12 f k=some L→∀ b∈loopsOf Tryd.prog f,lkey b=k→LoopOk Tryd.prog b L.g:=ltN12.ok
end Go.Proofs.YtmegbepjdololaaDoor

namespace Go.Proofs.YtmegbepjdololaaDoor
open Go.RowKit Go.Sx
set_option maxRecDepth 100000
set_option linter.unusedVariables false
noncomputable def prA_q1 (s:BA):Ex ×
 ps_G:=
 loopF (fun g=>ps_R g.fst g.snd.fst g.snd.snd.fst g.snd.snd.snd.fst g.snd.snd.snd.snd) ps_M ((),Rec.mk (0:Int) (ByteArray.mk #[]),ByteArray.mk (Lib.cut s.data.toList #[(58:UInt8)].toList).snd.fst.toArray,[],(0:Int))
noncomputable def prA_F (s:BA):Dv.T dRE:=
 bif !(Lib.cut s.data.toList #[(58:UInt8)].toList).snd.snd||!(parseN (ByteArray.mk (Lib.cut s.data.toList #[(58:UInt8)].toList).fst.toArray)).snd then (Rec.mk (0:Int) (ByteArray.mk #[]),(50:Int))
 else bif exB Ex.ret (prA_q1 s).fst then ((prA_q1 s).snd.snd.fst,(prA_q1 s).snd.snd.snd.snd.snd) else bif chkR (Rec.mk (parseN (ByteArray.mk (Lib.cut s.data.toList #[(58:UInt8)].toList).fst.toArray)).fst (strOf (intsOf IntKind.u8 (prA_q1 s).snd.snd.snd.snd.fst.length (e8u.els (prA_q1 s).snd.snd.snd.snd.fst)))) != (0:Int)||!decide (textS (Rec.mk (parseN (ByteArray.mk (Lib.cut s.data.toList #[(58:UInt8)].toList).fst.toArray)).fst (strOf (intsOf IntKind.u8 (prA_q1 s).snd.snd.snd.snd.fst.length (e8u.els (prA_q1 s).snd.snd.snd.snd.fst))))=s) then (Rec.mk (0:Int) (ByteArray.mk #[]),(50:Int)) else (Rec.mk (parseN (ByteArray.mk (Lib.cut s.data.toList #[(58:UInt8)].toList).fst.toArray)).fst (strOf (intsOf IntKind.u8 (prA_q1 s).snd.snd.snd.snd.fst.length (e8u.els (prA_q1 s).snd.snd.snd.snd.fst))),(0:Int))
def prA_side (s:BA):Prop:=
 ByteArray.size s≤KS∧(ByteArray.mk (Lib.cut s.data.toList #[(58:UInt8)].toList).fst.toArray).size≤KB∧((!(Lib.cut s.data.toList #[(58:UInt8)].toList).snd.snd||!(parseN (ByteArray.mk (Lib.cut s.data.toList #[(58:UInt8)].toList).fst.toArray)).snd)=false→ps_P (ByteArray.mk (Lib.cut s.data.toList #[(58:UInt8)].toList).snd.fst.toArray) []∧(exB Ex.ret (prA_q1 s).fst=false→((prA_q1 s).snd.snd.snd.snd.fst.length≤(prA_q1 s).snd.snd.snd.snd.fst.length∧∀ (e:Nat),e<(prA_q1 s).snd.snd.snd.snd.fst.length→((ElE.fn (e8u.els (prA_q1 s).snd.snd.snd.snd.fst)).at e).all SV.one=true)∧(∀ (e:Nat),e<(prA_q1 s).snd.snd.snd.snd.fst.length→(Sx.intOf IntKind.u8 ((ElE.fn (e8u.els (prA_q1 s).snd.snd.snd.snd.fst)).at e)).isSome=true)∧((!chkR (Rec.mk (parseN (ByteArray.mk (Lib.cut s.data.toList #[(58:UInt8)].toList).fst.toArray)).fst (strOf (intsOf IntKind.u8 (prA_q1 s).snd.snd.snd.snd.fst.length (e8u.els (prA_q1 s).snd.snd.snd.snd.fst)))) != (0:Int))=true→i64 (parseN (ByteArray.mk (Lib.cut s.data.toList #[(58:UInt8)].toList).fst.toArray)).fst)))
theorem prA_okS (pre:DA.T aB→List Prop) (h:∀ g,DA.bd aB g→(∀ p∈pre g,p)→prA_side g):FnPure Tryd.prog 41 aB dRE (fun g=>prA_F g) pre:=pure_of_sideS (Γ:=(PTab.gamz tabN10 [] [])) (Λ:=lamN12) (PTab.okz tabN10 [] []) lamN12_ok 100 default (fun g=>prA_side g) (fun g=>by kernel_rfl) (fun g=>by kernel_rfl) h
noncomputable def prB_q1 (s:BA):Ex×rc_G:=
 loopF (fun g=>rc_R g.fst g.snd) rc_M (s,(0:Int))
noncomputable def prB_q2 (s:BA):Ex ×
 rp_G:=
 loopF (fun g=>rp_R g.fst g.snd.fst g.snd.snd.fst g.snd.snd.snd.fst g.snd.snd.snd.snd.fst g.snd.snd.snd.snd.snd) rp_M ((),Rec.mk (0:Int) (ByteArray.mk #[]),(prB_q1 s).snd.fst,IntKind.i64.wrap ((prB_q1 s).snd.snd+(1:Int)),[],(0:Int))
noncomputable def prB_F (s:BA):Dv.T dRE:=
 bif (prB_q1 s).snd.snd==(↑(ByteArray.size (prB_q1 s).snd.fst):Int)||decide ((↑(ByteArray.size (prB_q1 s).snd.fst):Int) > (300:Int)) then (Rec.mk (0:Int) (ByteArray.mk #[]),(50:Int))
 else bif exB Ex.ret (prB_q2 s).fst then ((prB_q2 s).snd.snd.fst,(prB_q2 s).snd.snd.snd.snd.snd.snd) else bif !(parseN (ByteArray.extract (prB_q1 s).snd.fst (0:Nat) (prB_q1 s).snd.snd.toNat)).snd||(chkR (Rec.mk (parseN (ByteArray.extract (prB_q1 s).snd.fst (0:Nat) (prB_q1 s).snd.snd.toNat)).fst (strOf (intsOf IntKind.u8 (prB_q2 s).snd.snd.snd.snd.snd.fst.length (e8u.els (prB_q2 s).snd.snd.snd.snd.snd.fst)))) != (0:Int)||!decide (textS (Rec.mk (parseN (ByteArray.extract (prB_q1 s).snd.fst (0:Nat) (prB_q1 s).snd.snd.toNat)).fst (strOf (intsOf IntKind.u8 (prB_q2 s).snd.snd.snd.snd.snd.fst.length (e8u.els (prB_q2 s).snd.snd.snd.snd.snd.fst))))=(prB_q2 s).snd.snd.snd.fst)) then (Rec.mk (0:Int) (ByteArray.mk #[]),(50:Int)) else (Rec.mk (parseN (ByteArray.extract (prB_q1 s).snd.fst (0:Nat) (prB_q1 s).snd.snd.toNat)).fst (strOf (intsOf IntKind.u8 (prB_q2 s).snd.snd.snd.snd.snd.fst.length (e8u.els (prB_q2 s).snd.snd.snd.snd.snd.fst))),(0:Int))
def prB_side (s:BA):Prop:=
 rc_P s (0:Int)∧(((prB_q1 s).snd.snd==(↑(ByteArray.size (prB_q1 s).snd.fst):Int)||decide ((↑(ByteArray.size (prB_q1 s).snd.fst):Int) > (300:Int)))=false→((0:Int)≤(prB_q1 s).snd.snd∧(prB_q1 s).snd.snd≤(↑(ByteArray.size (prB_q1 s).snd.fst):Int))∧(ByteArray.extract (prB_q1 s).snd.fst (0:Nat) (prB_q1 s).snd.snd.toNat).size≤KB∧rp_P (prB_q1 s).snd.fst (IntKind.i64.wrap ((prB_q1 s).snd.snd+(1:Int))) []∧(exB Ex.ret (prB_q2 s).fst=false→((prB_q2 s).snd.snd.snd.snd.snd.fst.length≤(prB_q2 s).snd.snd.snd.snd.snd.fst.length∧∀ (e:Nat),e<(prB_q2 s).snd.snd.snd.snd.snd.fst.length→((ElE.fn (e8u.els (prB_q2 s).snd.snd.snd.snd.snd.fst)).at e).all SV.one=true)∧(∀ (e:Nat),e<(prB_q2 s).snd.snd.snd.snd.snd.fst.length→(Sx.intOf IntKind.u8 ((ElE.fn (e8u.els (prB_q2 s).snd.snd.snd.snd.snd.fst)).at e)).isSome=true)∧((!!(parseN (ByteArray.extract (prB_q1 s).snd.fst (0:Nat) (prB_q1 s).snd.snd.toNat)).snd)=true→(!chkR (Rec.mk (parseN (ByteArray.extract (prB_q1 s).snd.fst (0:Nat) (prB_q1 s).snd.snd.toNat)).fst (strOf (intsOf IntKind.u8 (prB_q2 s).snd.snd.snd.snd.snd.fst.length (e8u.els (prB_q2 s).snd.snd.snd.snd.snd.fst)))) != (0:Int))=true→i64 (parseN (ByteArray.extract (prB_q1 s).snd.fst (0:Nat) (prB_q1 s).snd.snd.toNat)).fst)))
theorem prB_okS (pre:DA.T aB→List Prop) (h:∀ g,DA.bd aB g→(∀ p∈pre g,p)→prB_side g):FnPure Tryd.prog 42 aB dRE (fun g=>prB_F g) pre:=pure_of_sideS (Γ:=(PTab.gamz tabN10 [] [])) (Λ:=lamN12) (PTab.okz tabN10 [] []) lamN12_ok 100 default (fun g=>prB_side g) (fun g=>by kernel_rfl) (fun g=>by kernel_rfl) h
end Go.Proofs.YtmegbepjdololaaDoor

namespace Go.Proofs.YtmegbepjdololaaDoor
open Go.RowKit Go.Sx Go.Lp
set_option maxRecDepth 100000
def colon (l:List Int):Nat:=l.findIdx fun c=>decide (c=58)
theorem colon_le (l:List Int):colon l≤l.length:=List.findIdx_le_length
def errR:Rec×Int:=(Rec.mk 0 (ByteArray.mk #[]),50)
def makeR (s:BA) (n:Int) (b:List Int):Rec×Int:=bif chkR (Rec.mk n (strOf b)) != 0||!decide (textS (Rec.mk n (strOf b))=s) then errR else (Rec.mk n (strOf b),0)
def parseR (s:BA):Rec×Int:=
 bif decide (s.size≤colon (bts s))||!(parseN (s.extract 0 (colon (bts s)))).2 then errR else
 match unescF (s.size - (colon (bts s)+1)) ((bts s).drop (colon (bts s)+1)) [] with
 | none=>errR
 | some b=>makeR s (parseN (s.extract 0 (colon (bts s)))).1 b
theorem parseN_i64 (s:BA):i64 (parseN s).1:=by
 unfold parseN
 cases numOk (bts s) with
 | false=>
  show i64 0
  exact ⟨by decide,by decide⟩
 | true=>
  show i64 (numV (bts s))
  rw[numV_eq]
  cases decide ((bts s).head?=some 45) <;> exact wrap_i64 _
theorem colon_some {s:BA} {o:Nat} (h:Lib.indexByte s.data.toList 58=o):colon (bts s)=o∧o<s.size:=by
 obtain ⟨h1,h2⟩:=Lib.indexByte_some h
 have hlt:o<s.data.toList.length:=(List.getElem?_eq_some_iff.1 h1).1
 have hl:s.data.toList.length=s.size:=by rw[← bts_len];unfold bts;rw[List.length_map]
 refine ⟨?_,by omega⟩
 unfold colon
 have hb:∀ k,k<(bts s).length→(bts s)[k]?=(s.data.toList[k]?).map fun x=>(x.toNat:Int):=fun k _=>by unfold bts;rw[List.getElem?_map]
 have hlt':o<(bts s).length:=by rw[bts_len];omega
 rw[List.findIdx_eq hlt']
 refine ⟨?_,fun j hj=>?_⟩
 ·have:=hb o hlt'
  rw[h1,List.getElem?_eq_getElem hlt'] at this
  simp only[Option.map_some,Option.some.injEq] at this
  rw[this];decide
 ·have hj':j<(bts s).length:=by omega
  have:=hb j hj'
  have hj2:j<s.data.toList.length:=by omega
  rw[List.getElem?_eq_getElem hj',List.getElem?_eq_getElem hj2] at this
  simp only[Option.map_some,Option.some.injEq] at this
  rw[this]
  have h3:=h2 j hj
  rw[List.getElem?_eq_getElem hj2] at h3
  rw[decide_eq_false_iff_not]
  intro h4
  apply h3
  congr 1
  apply UInt8.toNat_inj.1
  show _=58
  omega
theorem colon_none {s:BA} (h:Lib.indexByte s.data.toList 58=-1):colon (bts s)=s.size:=by
 have h1:=Lib.indexByte_none h
 unfold colon
 rw[← bts_len,List.findIdx_eq_length]
 intro x hx
 obtain ⟨y,hy,rfl⟩:=List.mem_map.1 hx
 rw[decide_eq_false_iff_not]
 intro h4
 obtain ⟨k,hk⟩:=List.getElem?_of_mem hy
 apply h1 k
 rw[hk]
 congr 1
 apply UInt8.toNat_inj.1
 show _=58
 omega
theorem cut58 (s:BA):(Lib.cut s.data.toList #[(58:UInt8)].toList).2.2=!decide (s.size≤colon (bts s))∧(ByteArray.mk (Lib.cut s.data.toList #[(58:UInt8)].toList).1.toArray)=s.extract 0 (colon (bts s)) ∧
  (colon (bts s)<s.size→bts (ByteArray.mk (Lib.cut s.data.toList #[(58:UInt8)].toList).2.1.toArray)=(bts s).drop (colon (bts s)+1)):=by
 have hio:Lib.index s.data.toList #[(58:UInt8)].toList=Lib.indexByte s.data.toList 58:=Lib.index_one _ _
 have hge:=Lib.indexByte_ge s.data.toList 58
 have hl:s.data.toList.length=s.size:=by rw[← bts_len];unfold bts;rw[List.length_map]
 have hx:∀ l:List UInt8,(ByteArray.mk l.toArray).data.toList=l:=fun l=>by simp
 unfold Lib.cut
 rw[hio]
 by_cases h:0≤Lib.indexByte s.data.toList 58
 ·obtain ⟨o,ho⟩:∃ o:Nat,Lib.indexByte s.data.toList 58=o:=⟨(Lib.indexByte s.data.toList 58).toNat,by omega⟩
  obtain ⟨h1,h2⟩:=colon_some ho
  rw[if_pos h,ho,h1]
  refine ⟨?_,?_,fun _=>?_⟩
  ·show true=_
   rw[decide_eq_false (by omega)];rfl
  ·apply ba_inj
   rw[hx,ba_ext]
   rfl
  ·show ((s.data.toList.drop (o+1)).map _)=_
   unfold bts
   rw[List.map_drop]
 ·have h1:=colon_none (s:=s) (by omega)
  rw[if_neg h,h1]
  refine ⟨?_,?_,fun h=>by omega⟩
  ·show false=_
   rw[decide_eq_true (Nat.le_refl _)];rfl
  ·apply ba_inj
   rw[hx,ba_ext,List.take_of_length_le (by omega)]
   rfl
theorem prA_eq (s:BA) (hs:s.size≤KS):prA_side s∧prA_F s=parseR s:=by
 obtain ⟨c1,c2,c3⟩:=cut58 s
 have hKB:s.size≤KB:=Nat.le_trans hs (by decide)
 unfold prA_side prA_F parseR
 rw[c1,c2,Bool.not_not]
 have hex:(s.extract 0 (colon (bts s))).size≤KB:=by rw[ByteArray.size_extract];omega
 cases hc:decide (s.size≤colon (bts s))||!(parseN (s.extract 0 (colon (bts s)))).2 with
 | true=>exact ⟨⟨hs,hex,fun h=>(by cases h)⟩,rfl⟩
 | false=>
  have hlt:colon (bts s)<s.size:=by
   rw[Bool.or_eq_false_iff] at hc
   have:=of_decide_eq_false hc.1
   omega
  have h3:=c3 hlt
  have hsz:(ByteArray.mk (Lib.cut s.data.toList #[(58:UInt8)].toList).2.1.toArray).size=s.size - (colon (bts s)+1):=by
   rw[← bts_len,h3,List.length_drop,bts_len]
  have hP:ps_P (ByteArray.mk (Lib.cut s.data.toList #[(58:UInt8)].toList).2.1.toArray) []:=by
   show 0+(ByteArray.mk (Lib.cut s.data.toList #[(58:UInt8)].toList).2.1.toArray).size≤KB
   omega
  have hr:=ps_run (Rec.mk 0 (ByteArray.mk #[])) _ [] 0 hP
  have hq:prA_q1 s=loopF ps_RR ps_M ((),Rec.mk 0 (ByteArray.mk #[]),ByteArray.mk (Lib.cut s.data.toList #[(58:UInt8)].toList).2.1.toArray,[],0):=rfl
  rw[← hq,h3,hsz] at hr
  rcases hr with ⟨b,e1,e2,e3,e4,e5⟩ | ⟨e1,e2,e3,e4⟩
  ·rw[e1,e2,e4,ints_lst]
   refine ⟨⟨hs,hex,fun _=>⟨hP,fun _=>⟨⟨Nat.le_refl _,fun e _=>e8u.one_els _ e⟩,fun e _=>rfl,fun _=>parseN_i64 _⟩⟩⟩,?_⟩
   rfl
  ·rw[e1,e2,e3,e4]
   exact ⟨⟨hs,hex,fun _=>⟨hP,fun h=>(by cases h)⟩⟩,rfl⟩
theorem prA_ok:FnPure Tryd.prog 41 aB dRE parseR (fun s=>[s.size≤KS]):=
 pure_congr (prA_okS _ fun r _ hp=>(prA_eq r (hp _ (List.mem_cons_self ..))).1) fun r _ hp=>(prA_eq r (hp _ (List.mem_cons_self ..))).2
theorem rc_run (s:BA) (h:s.size≤KB):(loopF rc_RR rc_M (s,0)).2.1=s∧(loopF rc_RR rc_M (s,0)).2.2=(colon (bts s):Int):=by
 have key:=loopF_induct rc_goes (Q:=fun g r=>r.2.1=g.1∧(g.2.toNat≤colon (bts g.1)→r.2.2=(colon (bts g.1):Int))) ?_ ?_ (s,0) (fun p hp=>by rw[List.mem_singleton.1 hp];exact ⟨h,Int.le_refl _,by show (0:Int)≤(s.size:Int);omega⟩)
 ·exact ⟨key.1,key.2 (Nat.zero_le _)⟩
 ·rintro ⟨s,i⟩ hi hn
  have h:rc_P s i:=hi _ (List.mem_cons_self ..)
  have e:rc_RR (s,i)=_:=rc_RF s i h
  rw[e] at hn ⊢
  split at hn
  ·exact absurd rfl hn
  ·rename_i hc
   rw[if_neg hc]
   refine ⟨rfl,fun hle=>?_⟩
   have hcl:=colon_le (bts s)
   rw[bts_len] at hcl
   have h2:=h.2.1
   have h3:=h.2.2
   have hle:i.toNat≤colon (bts s):=hle
   show i=(colon (bts s):Int)
   by_cases hlt:i<(s.size:Int)
   ·have hv:(bts s).getD i.toNat 0=58:=by
     rcases Classical.em ((bts s).getD i.toNat 0=58) with h | h
     ·exact h
     ·exact absurd ⟨hlt,h⟩ hc
    have hl:i.toNat<(bts s).length:=by rw[bts_len];omega
    rw[List.getD_eq_getElem?_getD,List.getElem?_eq_getElem hl] at hv
    have:colon (bts s)≤i.toNat:=Nat.not_lt.1 fun hlt'=>by
     have:=List.not_of_lt_findIdx hlt'
     exact absurd hv (of_decide_eq_false this)
    omega
   ·omega
 ·rintro ⟨s,i⟩ g' r hi he _ _ hq
  have h:rc_P s i:=hi _ (List.mem_cons_self ..)
  have e:rc_RR (s,i)=_:=rc_RF s i h
  rw[e] at he
  split at he
  ·rename_i hc
   simp only[Prod.mk.injEq,true_and] at he
   subst he
   refine ⟨hq.1,fun hle=>hq.2 ?_⟩
   have h2:=h.2.1
   have hle:i.toNat≤colon (bts s):=hle
   show (i+1).toNat≤colon (bts s)
   have hne:i.toNat≠colon (bts s):=fun heq=>by
    have hl:colon (bts s)<(bts s).length:=by rw[bts_len];omega
    have hg:decide ((bts s)[colon (bts s)]=58)=true:=List.findIdx_getElem (w:=hl)
    apply hc.2
    rw[List.getD_eq_getElem?_getD,heq,List.getElem?_eq_getElem hl]
    exact of_decide_eq_true hg
   omega
  ·cases he
theorem textS_size (r:Rec) (h:i64 r.key):(textS r).size≤213:=by
 unfold textS
 cases hc:(chkR r != (0:Int)) with
 | true=>
  show 0≤213
  omega
 | false=>
  have h64:=chkR_le hc
  have hn:=(numL_len h).2
  have he:=escL_len (bts r.text)
  rw[bts_len] at he
  rw[cond_false,strOf_size,List.length_append,List.length_cons]
  omega
theorem makeR_long (s:BA) (h:s.size > 300) (n:Int) (hn:i64 n) (b:List Int):makeR s n b=errR:=by
 unfold makeR
 rw[decide_eq_false (fun he=>by have:=textS_size (Rec.mk n (strOf b)) hn;rw[he] at this;omega),Bool.not_false,Bool.or_true]
 rfl
theorem parseR_long (s:BA) (h:s.size > 300):parseR s=errR:=by
 unfold parseR
 cases decide (s.size≤colon (bts s))||!(parseN (s.extract 0 (colon (bts s)))).2 with
 | true=>rfl
 | false=>
  rw[cond_false]
  split
  ·rfl
  ·exact makeR_long s h _ (parseN_i64 _) _
theorem prB_eq (s:BA) (hs:s.size≤KS):prB_side s∧prB_F s=parseR s:=by
 have hKB:s.size≤KB:=Nat.le_trans hs (by decide)
 have hKB':=hKB
 unfold KB at hKB'
 obtain ⟨r1,r2⟩:=rc_run s hKB
 have hq:prB_q1 s=loopF rc_RR rc_M (s,0):=rfl
 rw[← hq] at r1 r2
 have hcl:=colon_le (bts s)
 rw[bts_len] at hcl
 have hex:(s.extract 0 (colon (bts s))).size≤KB:=by rw[ByteArray.size_extract];omega
 have hc0:rc_P s 0:=⟨hKB,Int.le_refl _,by omega⟩
 unfold prB_side prB_F
 rw[r1,r2]
 have e0:((colon (bts s):Int)).toNat=colon (bts s):=rfl
 rw[e0]
 cases hc:((colon (bts s):Int)==(s.size:Int)||decide ((s.size:Int) > 300)) with
 | true=>
  refine ⟨⟨hc0,fun h=>(by cases h)⟩,?_⟩
  rw[cond_true]
  rcases Bool.or_eq_true_iff.1 hc with hc | hc
  ·have:(colon (bts s):Int)=(s.size:Int):=by simpa using hc
   unfold parseR
   rw[decide_eq_true (by omega:s.size≤colon (bts s)),Bool.true_or];rfl
  ·have:=of_decide_eq_true hc
   rw[parseR_long s (by omega)];rfl
 | false=>
  rw[Bool.or_eq_false_iff] at hc
  have h1:¬ (colon (bts s):Int)=(s.size:Int):=by simpa using hc.1
  have h2:=of_decide_eq_false hc.2
  have hlt:colon (bts s)<s.size:=by omega
  have hw:IntKind.i64.wrap ((colon (bts s):Int)+1)=((colon (bts s)+1:Nat):Int):=by rw[wr64 (by omega)];omega
  have hP:rp_P s ((colon (bts s)+1:Nat):Int) []:=⟨hKB,by omega,by omega,by show (0:Int)≤_;omega⟩
  have hr:=rp_run (Rec.mk 0 (ByteArray.mk #[])) s ((colon (bts s)+1:Nat):Int) [] 0 hP
  have hq2:prB_q2 s=loopF rp_RR rp_M ((),Rec.mk 0 (ByteArray.mk #[]),s,((colon (bts s)+1:Nat):Int),[],0):=by
   unfold prB_q2
   rw[r1,r2,hw]
  rw[← hq2,show (((colon (bts s)+1:Nat):Int)).toNat=colon (bts s)+1 from rfl] at hr
  unfold parseR
  rw[hw,cond_false,decide_eq_false (by omega:¬ s.size≤colon (bts s)),Bool.false_or]
  rcases hr with ⟨b,e1,e2,e3,e4,e5,e6⟩ | ⟨e1,e2,e3,e4⟩
  ·rw[e1,e2,e4,e5,ints_lst]
   refine ⟨⟨hc0,fun _=>⟨⟨by omega,by omega⟩,hex,hP,fun _=>⟨⟨Nat.le_refl _,fun e _=>e8u.one_els _ e⟩,fun e _=>rfl,fun _ _=>parseN_i64 _⟩⟩⟩,?_⟩
   unfold makeR
   cases (parseN (s.extract 0 (colon (bts s)))).2 <;> rfl
  ·rw[e1,e2,e3,e4]
   refine ⟨⟨hc0,fun _=>⟨⟨by omega,by omega⟩,hex,hP,fun h=>(by cases h)⟩⟩,?_⟩
   cases (parseN (s.extract 0 (colon (bts s)))).2 <;> rfl
theorem prB_ok:FnPure Tryd.prog 42 aB dRE parseR (fun s=>[s.size≤KS]):=
 pure_congr (prB_okS _ fun r _ hp=>(prB_eq r (hp _ (List.mem_cons_self ..))).1) fun r _ hp=>(prB_eq r (hp _ (List.mem_cons_self ..))).2
noncomputable def tabN14:PTab Tryd.prog:=(tabN10.cons 41 (pconP aB dRE parseR (fun s=>[s.size≤KS])) (conP_ok prA_ok puRE)).cons 42 (pconP aB dRE parseR (fun s=>[s.size≤KS])) (conP_ok prB_ok puRE)
end Go.Proofs.YtmegbepjdololaaDoor

namespace Go.Proofs.YtmegbepjdololaaDoor
open Go.RowKit Go.Sx Go.Lp
abbrev lvA:Rec:=Rec.mk (1:Int) (ByteArray.mk #[97])
abbrev lvB:Rec:=Rec.mk (2:Int) (ByteArray.mk #[98])
abbrev lvL:List Rec:=[lvB,lvA,lvB]
abbrev lvM:List Many:=[Many.mk lvA (1:Int),Many.mk lvB (2:Int)]
abbrev lvR:Rec:=Rec.mk (-1:Int) (ByteArray.mk #[195,169,32,37])
abbrev lvS:BA:=ByteArray.mk #[45,49,58,37,99,51,37,97,57,37,50,48,37,50,53]
abbrev aLRB:DA (List Rec):=.one (.listB eR)
abbrev aLMMB:DA (List Many×List Many):=.cons (.listB eM) (.one (.listB eM))
set_option maxRecDepth 100000
theorem lv_bag:FnPure Tryd.prog 24 aLRB dLME (fun _=>(lvM,(0:Int))) (fun g=>[g=lvL]):=
 pure_lit (D:=aLRB) bgA_ok lvL (lvM,0) (by kernel_rfl) (fun p hp=>by rw[List.mem_singleton.1 hp];decide)
theorem lv_eq:FnPure Tryd.prog 71 aLMMB dBool (fun _=>true) (fun g=>[g=(lvM,lvM)]):=
 pure_lit (D:=aLMMB) elM_ok (lvM,lvM) true (by kernel_rfl) (fun p hp=>by rw[List.mem_singleton.1 hp];decide)
theorem lv_txt:FnPure Tryd.prog 43 aR dStr (fun _=>lvS) (fun g=>[g=lvR]):=
 pure_lit teA_ok lvR lvS (by kernel_rfl) (fun p hp=>by rw[List.mem_singleton.1 hp];exact ⟨by decide,by decide⟩)
noncomputable def tabQ1:MTab Tryd.prog:=(((MTab.of PTab.nil).consM 24 (fconR aLRB dLME (fun _=>(lvM,(0:Int))) (fun g=>[g=lvL])) (fconR_ok lv_bag)).cons 71 (pconP aLMMB dBool (fun _=>true) (fun g=>[g=(lvM,lvM)])) (conP_ok lv_eq puB)).cons 43 (pconP aR dStr (fun _=>lvS) (fun g=>[g=lvR])) (conP_ok lv_txt puS)
noncomputable abbrev lvT:Tr Bool:=dTree Tryd.prog (MTab.gamz tabQ1 [] []) noΛ 100 16 (DA.enc .none ()) dBool
theorem lv_ev:lvT.evC false=true:=by kernel_rfl
theorem lv_asks:lvT.asksC=[lvL=lvL,((0:Int)==(0:Int))=true→(lvM,lvM)=(lvM,lvM),((0:Int)==(0:Int))=true→true=true→lvR=lvR]:=by kernel_rfl
theorem lv_ok:FnPure Tryd.prog 16 .none dBool (fun _=>true) (fun _=>[]):=pure_of_tree (MTab.okz tabQ1 [] []) noΛ_ok 100 fun g _ _=>by
 have h:=Tr.asksC_holds (t:=lvT) false (by
  rw[lv_asks]
  intro p hp
  rcases List.mem_cons.1 hp with e | hp
  ·exact e▸rfl
  rcases List.mem_cons.1 hp with e | hp
  ·exact e▸fun _=>rfl
  rcases List.mem_cons.1 hp with e | hp
  ·exact e▸fun _ _=>rfl
  cases hp)
 rw[lv_ev] at h
 exact h
end Go.Proofs.YtmegbepjdololaaDoor

namespace Go.Proofs.YtmegbepjdololaaDoor
open Go.RowKit Go.Sx
set_option maxRecDepth 100000
set_option linter.unusedVariables false
end Go.Proofs.YtmegbepjdololaaDoor

namespace Go.Proofs.YtmegbepjdololaaDoor
open Go.RowKit Go.Sx
set_option maxRecDepth 100000
set_option linter.unusedVariables false
noncomputable def tabQ8:PTab Tryd.prog:=((tabN14.cons 16 (pconP .none dBool (fun _=>true) (fun _=>[])) (conP_ok lv_ok puB)).cons 47 (pconP aRR dI (fun g=>cmpR g.1 g.2) (fun _=>[])) (conP_ok cmr_ok puI)).cons 48 (pconP aRR dI (fun g=>cmpR g.1 g.2) (fun _=>[])) (conP_ok rcm_ok' puI)
abbrev aRRS:DA (Rec×Rec×BA):=.cons dR (.cons dR (.one dStr))
noncomputable def lrt5_F (a:Rec) (b:Rec) (s:BA):Dv.T dBool:=
 bif decide ((↑(ByteArray.size a.text):Int) > (2000:Int))||(decide ((↑(ByteArray.size b.text):Int) > (2000:Int))||decide ((↑(ByteArray.size s):Int) > (2000:Int))) then true
 else conj ([(parseR s).fst.key==(parseR s).fst.key]++([decide ((parseR s).fst.text=(parseR s).fst.text)]++[]))&&((parseR s).snd==(parseR s).snd&&(decide (textS a=textS a)&&(chkR a==chkR a&&cmpR a b==cmpR a b)))
def lrt5_side (a:Rec) (b:Rec) (s:BA):Prop:=
 (!true)=false→(decide ((↑(ByteArray.size a.text):Int) > (2000:Int))||(decide ((↑(ByteArray.size b.text):Int) > (2000:Int))||decide ((↑(ByteArray.size s):Int) > (2000:Int))))=false→ByteArray.size s≤KS∧ByteArray.size s≤KS∧(conj ([(parseR s).fst.key==(parseR s).fst.key]++([decide ((parseR s).fst.text=(parseR s).fst.text)]++[]))=true→((parseR s).snd==(parseR s).snd)=true→i64 a.key)∧(conj ([(parseR s).fst.key==(parseR s).fst.key]++([decide ((parseR s).fst.text=(parseR s).fst.text)]++[]))=true→((parseR s).snd==(parseR s).snd)=true→i64 a.key)
theorem lrt5_okS (pre:DA.T aRRS→List Prop) (h:∀ g,DA.bd aRRS g→(∀ p∈pre g,p)→lrt5_side g.1 g.2.1 g.2.2):FnPure Tryd.prog 8 aRRS dBool (fun g=>lrt5_F g.1 g.2.1 g.2.2) pre:=pure_of_sideS (Γ:=(PTab.gamz tabQ8 [] [])) (Λ:=noΛ) (PTab.okz tabQ8 [] []) noΛ_ok 100 default (fun g=>lrt5_side g.1 g.2.1 g.2.2) (fun g=>by kernel_rfl) (fun g=>by kernel_rfl) h
end Go.Proofs.YtmegbepjdololaaDoor

namespace Go.Proofs.YtmegbepjdololaaDoor
open Go.RowKit Go.Sx Go.Lp
theorem lrt5_ok:FnPure Tryd.prog 8 aRRS dBool (fun _=>true) (fun g=>[i64 g.1.key]):=
 pure_congr (lrt5_okS _ fun g _ hp=>by
  obtain ⟨a,b,s⟩:=g
  have hk:i64 a.key:=hp _ (List.mem_cons_self ..)
  show lrt5_side a b s
  unfold lrt5_side
  intro _ hs
  simp only[Bool.or_eq_false_iff,decide_eq_false_iff_not] at hs
  have h:s.size≤KS:=by unfold KS;omega
  exact ⟨h,h,fun _ _=>hk,fun _ _=>hk⟩) fun g _ _=>by
  obtain ⟨a,b,s⟩:=g
  show lrt5_F a b s=true
  unfold lrt5_F
  simp[conj]
end Go.Proofs.YtmegbepjdololaaDoor

namespace Go.Proofs.YtmegbepjdololaaDoor
open Go.ChangeShapes Go.WideShapes Go.ChangeAt Go.RowKit Go.Sx
set_option maxRecDepth 100000 in
theorem recTexts_lifted (law:FnPure Tryd.prog 8 aRRS dBool (fun _=>true) (fun g=>[i64 g.1.key])) (os:Os) (started:os.Started) (H:Type) (enc:TypeId×Value→H) :
  ReturnsInHanded {} Tryd.checked os 8 .any (fun w args=>(Rows.recTextsSpec.pre enc Tryd.prog Tryd.f8 Rows.recTextsRow.domain false w args∧laidMetH Tryd.prog Rows.recTextsRow.laid w)∧sizedMet enc Tryd.prog Tryd.f8 (OpenSpec.ofChange Rows.recTextsSpec) false w args) (Rows.recTextsSpec.post enc Tryd.prog Tryd.f8 false true false false):=by
 refine rowLaid (C:=Tryd.checked) (laid:=Rows.recTextsRow.laid) Tryd.own started (by kernel_rfl) Tryd.func8
  (ChangeSpec.witness_shaped (enc:=enc) (C:=Tryd.checked) (os:=os) (X:=fun w _=>laidMetH Tryd.prog Rows.recTextsRow.laid w) false (World.laidAll Tryd.prog os Rows.recTextsRow.laid) #[.agg #[.int .i64 0,.string ByteArray.empty],.agg #[.int .i64 0,.string ByteArray.empty],.string ByteArray.empty] 8 (World.laidAll_os _ _ _)
   (World.shaped_of_ZipB (by kernel_rfl) (by kernel_rfl)) (by kernel_rfl) (by kernel_rfl) (by kernel_rfl)
   (by rw[MakeChecks.laidMetH_plain _ _ _ (by kernel_rfl)];exact laidMet_laidAll _ (by kernel_rfl) (by kernel_rfl))) ?_
 intro W base args ds gs before hval0 hW hcnd hL hsh
 have hval:∀ (j:Nat) t v,Tryd.f8.params[j]?=some t→args[j]?=some v→Value.okWide Tryd.prog W .any base t v:=hval0
 have hW':=hW
 obtain ⟨p,q,hA0,hV,rfl,hfz,hnd⟩:=hW
 have hA:DataW.TrodAll enc Tryd.prog W 0 (fun _=>true) true Tryd.f8.params.toList args.toList ds p:=hA0
 rw[Tryd.params8] at hA hval
 obtain ⟨v0,vs0,d0,ds0,p0,qq0,hargs,rfl,rfl,h0,r0⟩:=trodAll_cons hA
 obtain ⟨v1,vs1,d1,ds1,p1,qq1,rfl,rfl,rfl,h1,r1⟩:=trodAll_cons r0
 obtain ⟨v2,vs2,d2,ds2,p2,qq2,rfl,rfl,rfl,h2,r2⟩:=trodAll_cons r1
 obtain ⟨rfl,rfl,rfl⟩:=trodAll_nil r2
 obtain rfl:args=#[v0,v1,v2]:=by cases args;simp_all
 obtain ⟨rfl,rfl⟩:=trodVars_none hV
 obtain ⟨a0,q0,f0⟩:=rdvR _ _ _ _ _ _ _ _ _ _ _ (hval 0 46 v0 rfl rfl) h0
 obtain ⟨a1,q1,f1⟩:=rdvR _ _ _ _ _ _ _ _ _ _ _ (hval 1 46 v1 rfl rfl) h1
 obtain ⟨a2,q2,f2⟩:=rdvS _ _ _ _ _ _ _ _ _ _ _ (hval 2 9 v2 rfl rfl) h2
 have lt:∀ {t:TypeId} {v:Value} {d:DataW H} {ps:List MemPlace},DataW.Trod enc Tryd.prog W 0 (fun _=>true) true t v d ps→∀ x∈ps,x.block<W.heap.size:=by
  rintro t v d ps ⟨m,hm⟩
  exact DataW.trod_lt m _ _ _ hm
 clear hA0 hval0
 refine (law W (fun b=>W.heap[b]?) (a0,a1,a2) [v0,v1,v2] (fun _ _ h=>h) (rowEnv hL hsh) (by intro p hp;rw[List.mem_singleton.1 hp];exact wf64 q0.1) ⟨f0,f1,f2,trivial⟩).mono fun e W' ⟨x,he,bel,hx⟩=>?_
 obtain rfl:x=.bool true:=by simpa [dBool,SV.fit] using hx
 subst he
 exact ⟨_,rfl,_,_,_,[],_,[],hW',trodAll_mk1 (shut_bool Tryd.underlying4 _),
  (trodAll_cons_mk (Below.trod Tryd.laidOut (by kernel_rfl) (of_decide_eq_true (by kernel_rfl)) h0 bel (lt h0))
  (trodAll_cons_mk (Below.trod Tryd.laidOut (by kernel_rfl) (of_decide_eq_true (by kernel_rfl)) h1 bel (lt h1))
  (trodAll_cons_mk (Below.trod Tryd.laidOut (by kernel_rfl) (of_decide_eq_true (by kernel_rfl)) h2 bel (lt h2)) trodAll_mk0))),rfl,bel.frame _,fun h=>by cases h⟩
theorem recTexts_row:Rows.RecTextsSaid:=
 OpenClaim.holds_of_wide 8 Tryd.f8 rfl rfl rfl rfl rfl rfl rfl ⟨rfl,rfl,rfl,rfl,rfl⟩ rfl rfl rfl rfl rfl (by kernel_rfl) Tryd.func8 (by kernel_rfl)
  (of_decide_eq_true (by kernel_rfl)) (by unfold Func.isWrapper;first | (rw[if_pos (by decide +kernel)];kernel_rfl) | (rw[if_neg (by decide +kernel)];exact ⟨rfl,rfl⟩))
  (fun os started H enc _=>recTexts_lifted lrt5_ok os started H enc)
theorem recTexts_holds:Rows.RecTextsCardSaid:=
 Claim7.holds_tied_plain_at .later [] [.data,.pinned] true (true, "32193793d8c897b5bc8816bf3022b22418d0ad242f639242150ef454e65964bb") false recTexts_row (fun _ h=>by cases h) (by kernel_rfl) (fun _ h=>by cases h) recTexts_row_tie rfl ⟨rfl,rfl⟩ (by kernel_rfl) rfl
  (fun f fn hf hfn=>by
   obtain rfl:f=8:=Option.some.inj ((show Tryd.prog.funcNamed "rivulet/rivuletlaw05.RecTexts" = some 8 by kernel_rfl).symm.trans hf) |>.symm
   obtain rfl:fn=Tryd.f8:=(Option.some.inj (Tryd.func8.symm.trans hfn)).symm
   exact ⟨by kernel_rfl,fun j t ht=>by
    rw[Tryd.params8] at ht
    have hm:t∈[46,46,9]:=by simpa using Array.mem_of_getElem? ht
    have hall:([46,46,9].all fun u=>!Tryd.prog.wantsStandIn u)=true:=by kernel_rfl
    exact (show Tryd.prog.wantsStandIn t=false by simpa using List.all_eq_true.1 hall t hm)⟩)
  (by kernel_rfl)
end Go.Proofs.YtmegbepjdololaaDoor
