/- Chapter 6: the document's Split: contracts of its loops. -/
import Derived.Test.YtmegbepjdololaaDoorZG10f99ad7
import Derived.Test.YtmegbepjdololaaDoorZG06804c20
set_option linter.unusedVariables false
set_option linter.unusedSimpArgs false
set_option linter.constructorNameAsVariable false
set_option linter.all false

namespace Go.Proofs.YtmegbepjdololaaDoor
open Go.RowKit Go.Sx Go.Lp
def rs1O (r:Rec) (i:Nat):List Rec:=(List.range i).map fun j=>⟨r.key,partS r.text j (j+1)⟩
def rs1_mk (r:Rec) (i:Nat):rs1_G:=(runes05 r.text,(i:Int),rs1O r i,(),r)
noncomputable abbrev rs1_I (g:rs1_G):List Prop:=[∃ r i,g=rs1_mk r i∧i≤(runes05 r.text).length∧i≤4∧r.text.size≤KB]
noncomputable abbrev rs1_M (g:rs1_G):Nat:=g.1.length - g.2.1.toNat
theorem rs1O_len (r:Rec) (i:Nat):(rs1O r i).length=i:=by simp[rs1O]
theorem rs1O_succ (r:Rec) (i:Nat):rs1O r (i+1)=rs1O r i++[⟨r.key,partS r.text i (i+1)⟩]:=by
 unfold rs1O
 rw[List.range_succ,List.map_append]
 rfl
theorem rs1_F (r:Rec) (i:Nat) (h1:i≤(runes05 r.text).length) (h2:i≤4):rs1_R (runes05 r.text) (i:Int) (rs1O r i) () r=if i<min (runes05 r.text).length 4 then (.normal,rs1_mk r (i+1)) else (.exit 0,rs1_mk r i):=by
 unfold rs1_R rs1_mk
 by_cases h:i<min (runes05 r.text).length 4
 ·rw[decide_eq_true (by omega),decide_eq_true (by omega),if_pos h]
  simp only[Bool.and_self,cond_true]
  rw[Int.toNat_natCast,wrS (x:=(i:Int)+1) (by omega),show ((i:Int)+1).toNat=i+1 by omega,eU.ag_eq,lst_snoc,rs1O_succ]
  rfl
 ·have e:(decide ((i:Int)<((runes05 r.text).length:Int))&&decide ((i:Int)<(4:Int)))=false:=by
   rw[Bool.and_eq_false_iff]
   simp only[decide_eq_false_iff_not]
   omega
  rw[e,if_neg h,cond_false,eU.ag_eq,eR.ag_eq]
theorem rs1_goes:Goes (fun g:rs1_G=>rs1_R g.1 g.2.1 g.2.2.1 g.2.2.2.1 g.2.2.2.2) rs1_M fun g=>allP (rs1_I g):=by
 intro g hi hn
 obtain ⟨r,i,rfl,h1,h2,h3⟩:=hi _ (List.mem_cons_self ..)
 have e:=rs1_F r i h1 h2
 change (rs1_R (runes05 r.text) (i:Int) (rs1O r i) () r).1=.normal at hn
 change allP (rs1_I (rs1_R (runes05 r.text) (i:Int) (rs1O r i) () r).2)∧rs1_M (rs1_R (runes05 r.text) (i:Int) (rs1O r i) () r).2<_
 rw[e] at hn ⊢
 by_cases h:i<min (runes05 r.text).length 4
 ·rw[if_pos h] at hn ⊢
  refine ⟨fun q hq=>?_,?_⟩
  ·simp only[List.mem_singleton] at hq
   subst hq
   exact ⟨r,i+1,rfl,by omega,by omega,h3⟩
  ·simp only[rs1_M,rs1_mk];omega
 ·rw[if_neg h] at hn;cases hn
theorem rs1_ok:∀ b∈loopsOf Tryd.prog 67,lkey b=8→LoopOk Tryd.prog b (rs1_C rs1_I rs1_M).g:=
 rs1_loop rs1_I rs1_M (fun g hi=>by
  obtain ⟨r,i,rfl,h1,h2,h3⟩:=hi _ (List.mem_cons_self ..)
  have hl:=rs1O_len r i
  show rs1_side (runes05 r.text) (i:Int) (rs1O r i) () r
  unfold rs1_side
  rw[bytesR]
  simp only[El.okL_eq,El.ag_eq,true_and,implies_true,and_true,Nat.le_refl]
  intro _
  rw[wrS (x:=(i:Int)+1) (by omega),hl]
  unfold maxLen
  omega) rs1_goes
theorem rs1_run (r:Rec) (hr:r.text.size≤KB):∀ (n i:Nat),i≤min (runes05 r.text).length 4→min (runes05 r.text).length 4 - i≤n→loopF (fun g:rs1_G=>rs1_R g.1 g.2.1 g.2.2.1 g.2.2.2.1 g.2.2.2.2) rs1_M (rs1_mk r i)=(.exit 0,rs1_mk r (min (runes05 r.text).length 4)):=by
 have hI:∀ i,i≤min (runes05 r.text).length 4→allP (rs1_I (rs1_mk r i)):=fun i h2 q hq=>by
  simp only[List.mem_singleton] at hq
  subst hq
  exact ⟨r,i,rfl,by omega,by omega,hr⟩
 intro n
 induction n with
 | zero=>
  intro i h2 h3
  have e:=rs1_F r i (by omega) (by omega)
  rw[if_neg (by omega)] at e
  have hi:i=min (runes05 r.text).length 4:=by omega
  rw[loopF_end (by show (rs1_R (runes05 r.text) (i:Int) (rs1O r i) () r).1≠_;rw[e];simp)]
  show rs1_R (runes05 r.text) (i:Int) (rs1O r i) () r=_
  rw[e,← hi]
 | succ n ih=>
  intro i h2 h3
  have e:=rs1_F r i (by omega) (by omega)
  by_cases h:i<min (runes05 r.text).length 4
  ·rw[if_pos h] at e
   rw[loopF_next rs1_goes (hI i h2) (show rs1_R (runes05 r.text) (i:Int) (rs1O r i) () r=_ from e)]
   exact ih (i+1) h (by omega)
  ·rw[if_neg h] at e
   have hi:i=min (runes05 r.text).length 4:=by omega
   rw[loopF_end (by show (rs1_R (runes05 r.text) (i:Int) (rs1O r i) () r).1≠_;rw[e];simp)]
   show rs1_R (runes05 r.text) (i:Int) (rs1O r i) () r=_
   rw[e,← hi]
def rs2_mk (r:Rec) (c:Int) (m i:Nat) (o:List Rec):rs2_G:=(runes05 r.text,c,(m:Int),(i:Int),o,(),r)
def rs2O (r:Rec) (m i:Nat) (o:List Rec):List Rec:=if m<i∧o.length<4 then o++[⟨r.key,partS r.text m i⟩] else o
def rs2Q (r:Rec) (c:Int) (i:Nat):Bool:=decide (i<(runes05 r.text).length)&&((runes05 r.text).getD i eU.dflt).r != c
noncomputable abbrev rs2_I (g:rs2_G):List Prop:=[∃ r c m i o,g=rs2_mk r c m i o∧m≤i∧i≤(runes05 r.text).length+1∧o.length≤4∧r.text.size≤KB]
noncomputable abbrev rs2_M (g:rs2_G):Nat:=g.1.length+1 - g.2.2.2.1.toNat
theorem rs2_F (r:Rec) (c:Int) (m i:Nat) (o:List Rec) (h1:i≤(runes05 r.text).length+1) (h2:r.text.size≤KB):rs2_R (runes05 r.text) c (m:Int) (i:Int) o () r =
  if i≤(runes05 r.text).length then (if rs2Q r c i=true then (.normal,rs2_mk r c m (i+1) o) else (.normal,rs2_mk r c (i+1) (i+1) (rs2O r m i o))) else (.exit 2,rs2_mk r c m i o):=by
 have hl:=runes05_len r.text
 unfold KB at h2
 unfold rs2_R rs2_mk
 by_cases h:i≤(runes05 r.text).length
 ·rw[decide_eq_true (show (i:Int)≤((runes05 r.text).length:Int) by omega),cond_true,if_pos h,wrS (x:=(i:Int)+1) (by omega),eU.ag_eq]
  have e:(decide ((i:Int)<((runes05 r.text).length:Int))&&((runes05 r.text).getD ((i:Int)).toNat eU.dflt).r != c)=rs2Q r c i:=by
   unfold rs2Q
   rw[Int.toNat_natCast]
   congr 1
   rw[Bool.eq_iff_iff]
   simp only[decide_eq_true_eq]
   omega
  rw[e]
  cases rs2Q r c i with
  | true=>rw[cond_true,if_pos rfl,eR.ag_eq];rfl
  | false=>
   rw[cond_false,if_neg (by simp)]
   unfold rs2O
   by_cases hc:m<i∧o.length<4
   ·rw[decide_eq_true (show (m:Int)<(i:Int) by omega),decide_eq_true (show (o.length:Int)<4 by omega),if_pos hc,lst_snoc]
    rfl
   ·have e2:(decide ((m:Int)<(i:Int))&&decide ((o.length:Int)<(4:Int)))=false:=by
     rw[Bool.and_eq_false_iff]
     simp only[decide_eq_false_iff_not]
     omega
    rw[e2,if_neg hc,cond_false,eR.ag_eq]
    rfl
 ·rw[decide_eq_false (show ¬ ((i:Int)≤((runes05 r.text).length:Int)) by omega),if_neg h,cond_false,eU.ag_eq,eR.ag_eq]
theorem rs2O_len (r:Rec) (m i:Nat) (o:List Rec) (h:o.length≤4):(rs2O r m i o).length≤4:=by
 unfold rs2O
 split
 ·rw[List.length_append,List.length_singleton];omega
 ·exact h
theorem rs2_goes:Goes (fun g:rs2_G=>rs2_R g.1 g.2.1 g.2.2.1 g.2.2.2.1 g.2.2.2.2.1 g.2.2.2.2.2.1 g.2.2.2.2.2.2) rs2_M fun g=>allP (rs2_I g):=by
 intro g hi hn
 obtain ⟨r,c,m,i,o,rfl,h0,h1,h2,h3⟩:=hi _ (List.mem_cons_self ..)
 have e:=rs2_F r c m i o h1 h3
 change (rs2_R (runes05 r.text) c (m:Int) (i:Int) o () r).1=.normal at hn
 change allP (rs2_I (rs2_R (runes05 r.text) c (m:Int) (i:Int) o () r).2)∧rs2_M (rs2_R (runes05 r.text) c (m:Int) (i:Int) o () r).2<_
 rw[e] at hn ⊢
 by_cases h:i≤(runes05 r.text).length
 ·rw[if_pos h] at hn ⊢
  cases hq:rs2Q r c i with
  | true=>
   rw[if_pos rfl]
   refine ⟨fun q hq=>?_,?_⟩
   ·simp only[List.mem_singleton] at hq
    subst hq
    exact ⟨r,c,m,i+1,o,rfl,by omega,by omega,h2,h3⟩
   ·simp only[rs2_M,rs2_mk];omega
  | false=>
   rw[if_neg (by simp)]
   refine ⟨fun q hq=>?_,?_⟩
   ·simp only[List.mem_singleton] at hq
    subst hq
    exact ⟨r,c,i+1,i+1,_,rfl,by omega,by omega,rs2O_len r m i o h2,h3⟩
   ·simp only[rs2_M,rs2_mk];omega
 ·rw[if_neg h] at hn;cases hn
theorem rs2_ok:∀ b∈loopsOf Tryd.prog 67,lkey b=15→LoopOk Tryd.prog b (rs2_C rs2_I rs2_M).g:=
 rs2_loop rs2_I rs2_M (fun g hi=>by
  obtain ⟨r,c,m,i,o,rfl,h0,h1,h2,h3⟩:=hi _ (List.mem_cons_self ..)
  show rs2_side (runes05 r.text) c (m:Int) (i:Int) o () r
  unfold rs2_side
  rw[bytesR]
  simp only[El.okL_eq,El.ag_eq,true_and,implies_true,and_true,Nat.le_refl]
  unfold maxLen
  exact fun _=>⟨fun h=>⟨by omega,of_decide_eq_true h⟩,fun _ _=>by omega⟩) rs2_goes
def rs2N (r:Rec) (c:Int):Nat→Nat→Nat→List Rec→List Rec
 | 0,_,_,o=>o
 | k+1,m,i,o=>if rs2Q r c i=true then rs2N r c k m (i+1) o else rs2N r c k (i+1) (i+1) (rs2O r m i o)
theorem rs2_run (r:Rec) (c:Int) (hr:r.text.size≤KB):∀ (n m i:Nat) (o:List Rec),m≤i→i+n=(runes05 r.text).length+1→o.length≤4→∃ m' i',loopF (fun g:rs2_G=>rs2_R g.1 g.2.1 g.2.2.1 g.2.2.2.1 g.2.2.2.2.1 g.2.2.2.2.2.1 g.2.2.2.2.2.2) rs2_M (rs2_mk r c m i o)=(.exit 2,rs2_mk r c m' i' (rs2N r c n m i o)):=by
 have hI:∀ m i o,m≤i→i≤(runes05 r.text).length+1→o.length≤4→allP (rs2_I (rs2_mk r c m i o)):=fun m i o h1 h2 h3 q hq=>by
  simp only[List.mem_singleton] at hq
  subst hq
  exact ⟨r,c,m,i,o,rfl,h1,h2,h3,hr⟩
 intro n
 induction n with
 | zero=>
  intro m i o h1 h2 h3
  have e:=rs2_F r c m i o (by omega) hr
  rw[if_neg (by omega)] at e
  refine ⟨m,i,?_⟩
  rw[loopF_end (by show (rs2_R (runes05 r.text) c (m:Int) (i:Int) o () r).1≠_;rw[e];simp)]
  exact e
 | succ n ih=>
  intro m i o h1 h2 h3
  have e:=rs2_F r c m i o (by omega) hr
  rw[if_pos (by omega)] at e
  simp only[rs2N]
  cases hq:rs2Q r c i with
  | true=>
   rw[hq,if_pos rfl] at e
   rw[if_pos rfl,loopF_next rs2_goes (hI m i o h1 (by omega) h3) (show rs2_R (runes05 r.text) c (m:Int) (i:Int) o () r=_ from e)]
   exact ih m (i+1) o (by omega) (by omega) h3
  | false=>
   rw[hq,if_neg (by simp)] at e
   rw[if_neg (by simp),loopF_next rs2_goes (hI m i o h1 (by omega) h3) (show rs2_R (runes05 r.text) c (m:Int) (i:Int) o () r=_ from e)]
   exact ih (i+1) (i+1) _ (Nat.le_refl _) (by omega) (rs2O_len r m i o h3)
def pk (key:Int) (l:List BA):List Rec:=((l.filter fun s=>!decide (s=ByteArray.mk #[])).take 4).map fun s=>⟨key,s⟩
theorem pk_snoc (key:Int) (l:List BA) (s:BA):pk key (l++[s])=if s≠ByteArray.mk #[]∧(pk key l).length<4 then pk key l++[⟨key,s⟩] else pk key l:=by
 unfold pk
 rw[List.filter_append,List.length_map,List.length_take]
 generalize hf:l.filter (fun s=>!decide (s=ByteArray.mk #[]))=f
 by_cases hs:s=ByteArray.mk #[]
 ·have:[s].filter (fun s=>!decide (s=ByteArray.mk #[]))=[]:=by simp[hs]
  rw[this,List.append_nil,if_neg (fun h=>h.1 hs)]
 ·have:[s].filter (fun s=>!decide (s=ByteArray.mk #[]))=[s]:=by simp[hs]
  rw[this]
  by_cases hl:f.length<4
  ·rw[if_pos ⟨hs,by omega⟩,List.take_of_length_le (by rw[List.length_append,List.length_singleton];omega),List.take_of_length_le (by omega),List.map_append]
   rfl
  ·rw[if_neg (by omega),List.take_append_of_le_length (by omega)]
theorem pk_fold (key:Int):∀ (l o:List BA),l.foldl (fun (b:List Rec) v=>bif !decide (v=ByteArray.mk #[])&&decide ((b.length:Int)<(4:Int)) then b++[Rec.mk key v] else b) (pk key o)=pk key (o++l)
 | [],o=>by simp
 | s :: l,o=>by
  have e:(bif !decide (s=ByteArray.mk #[])&&decide (((pk key o).length:Int)<(4:Int)) then pk key o++[Rec.mk key s] else pk key o)=pk key (o++[s]):=by
   rw[pk_snoc]
   by_cases hs:s=ByteArray.mk #[]
   ·rw[if_neg (fun h=>h.1 hs),hs];rfl
   ·by_cases hl:(pk key o).length<4
    ·rw[if_pos ⟨hs,hl⟩,decide_eq_false hs,decide_eq_true (by omega)];rfl
    ·rw[if_neg (fun h=>hl h.2),decide_eq_false (show ¬ (((pk key o).length:Int)<4) by omega),Bool.and_false];rfl
  rw[List.foldl_cons,e,pk_fold key l (o++[s]),List.append_assoc]
  rfl
theorem rs2_words (r:Rec) (c:Int) (hv:validS r.text=true):∀ (n m i:Nat) (o:List BA) (w:List Int),m≤i→i+n=(runes06 r.text).length+1→w=((runes06 r.text).take i).drop m→i≤(runes06 r.text).length+1→(0<n→rs2N r c n m i (pk r.key o)=pk r.key (wordsF c ((runes06 r.text).drop i) o w))
 | 0,m,i,o,w,_,_,_,_=>fun h=>by omega
 | n+1,m,i,o,w,h1,h2,h3,_=>fun _=>by
  have hcs:=runes06_cs r.text
  have hlen:(runes05 r.text).length=(runes06 r.text).length:=runes_len r.text
  have hpart:runesBytes w=partS r.text m i:=toL_inj (by
   rw[part_v hv m i h1,h3,hcs,← List.map_take,← List.map_drop,rb_toL])
  have hemp:runesBytes w≠ByteArray.mk #[]↔m<i:=by
   have hwl:w.length=i - m:=by rw[h3,List.length_drop,List.length_take];omega
   constructor
   ·intro hne
    refine Classical.byContradiction fun hc=>hne ?_
    have:w=[]:=List.length_eq_zero_iff.1 (by omega)
    rw[this];rfl
   ·intro hlt he
    have hz:=congrArg toL he
    rw[hpart,part_v hv m i h1] at hz
    have hw2:((rns (toL r.text)).take i).drop m≠[]:=by
     intro hn
     have:=congrArg List.length hn
     rw[List.length_drop,List.length_take,← r06_len] at this
     simp only[List.length_nil] at this
     omega
    obtain ⟨x,xs,hx⟩:=List.exists_cons_of_ne_nil hw2
    rw[hx,encs_cons] at hz
    have hsc:sc x:=rns_sc (toL r.text) x (List.mem_of_mem_take (List.mem_of_mem_drop (show x∈((rns (toL r.text)).take i).drop m by rw[hx];exact List.mem_cons_self ..)))
    exact encL_ne hsc (List.append_eq_nil_iff.1 hz).1
  have hO:rs2O r m i (pk r.key o)=pk r.key (o++[runesBytes w]):=by
   unfold rs2O
   rw[pk_snoc,hpart]
   by_cases hlt:m<i
   ·by_cases hl:(pk r.key o).length<4
    ·rw[if_pos ⟨hlt,hl⟩,if_pos ⟨by rw[← hpart];exact hemp.2 hlt,hl⟩]
    ·rw[if_neg (fun h=>hl h.2),if_neg (fun h=>hl h.2)]
   ·rw[if_neg (fun h=>hlt h.1),if_neg (fun h=>hlt (hemp.1 (by rw[hpart];exact h.1)))]
  simp only[rs2N]
  by_cases hi:i<(runes06 r.text).length
  ·have hq:rs2Q r c i=((runes06 r.text)[i] != c):=by
    unfold rs2Q
    rw[decide_eq_true (by omega),Bool.true_and,r05_at r.text i (by omega)]
    congr 1
    have:(runes06 r.text)[i]=(((rsL (toL r.text))[i]'(by rw[← r05_len,hlen];exact hi)).1:Int):=by
     simp[runes06]
    rw[this]
   rw[hq,List.drop_eq_getElem_cons hi]
   simp only[wordsF]
   cases hc:(runes06 r.text)[i] != c with
   | true=>
    rw[if_pos rfl,cond_true]
    refine rs2_words r c hv n m (i+1) o _ (by omega) (by omega) ?_ (by omega) (by omega)
    rw[h3,List.take_succ_eq_append_getElem hi,List.drop_append_of_le_length (by rw[List.length_take];omega)]
   | false=>
    rw[if_neg (by simp),cond_false,hO]
    refine rs2_words r c hv n (i+1) (i+1) _ _ (Nat.le_refl _) (by omega) ?_ (by omega) (by omega)
    rw[List.drop_eq_nil_of_le (by rw[List.length_take];omega)]
  ·have hq:rs2Q r c i=false:=by
    unfold rs2Q
    rw[decide_eq_false (by omega)];rfl
   have hn:n=0:=by omega
   subst hn
   rw[hq,if_neg (by simp),List.drop_eq_nil_of_le (by omega),hO]
   rfl
theorem one_part {t:BA} (hv:validS t=true) (i:Nat) (h:i<(runes06 t).length):runesBytes [(runes06 t)[i]]=partS t i (i+1):=by
 have hcs:=runes06_cs t
 have h':i<(rns (toL t)).length:=by rw[← r06_len];exact h
 refine toL_inj ?_
 rw[part_v hv i (i+1) (Nat.le_succ i),List.take_succ_eq_append_getElem h',List.drop_left' (by rw[List.length_take];omega)]
 have:[(runes06 t)[i]]=[(rns (toL t))[i]].map fun (c:Nat)=>(c:Int):=by simp[hcs]
 rw[this,rb_toL]
theorem one_ne (c:Nat) (h:sc c):runesBytes [(c:Int)]≠ByteArray.mk #[]:=by
 intro he
 have hz:=congrArg toL he
 have:=rb_toL [c]
 rw[List.map_cons,List.map_nil] at this
 rw[this,encs_cons] at hz
 exact encL_ne h (List.append_eq_nil_iff.1 hz).1
theorem each_pk (r:Rec) (hv:validS r.text=true):rs1O r (min (runes05 r.text).length 4)=pk r.key (eachL r.text):=by
 have hne:(eachL r.text).filter (fun s=>!decide (s=ByteArray.mk #[]))=eachL r.text:=by
  rw[List.filter_eq_self]
  intro s hs
  unfold eachL at hs
  rw[runes06_cs,List.map_map] at hs
  obtain ⟨c,hc,rfl⟩:=List.mem_map.1 hs
  have:=one_ne c (rns_sc _ c hc)
  simpa using this
 unfold pk
 rw[hne,runes_len]
 have hl:(eachL r.text).length=(runes06 r.text).length:=by unfold eachL;rw[List.length_map]
 refine List.ext_getElem (by rw[rs1O_len,List.length_map,List.length_take,hl];omega) fun i h1 h2=>?_
 rw[rs1O_len] at h1
 have e1:∀ (n:Nat) (h:i<(rs1O r n).length),(rs1O r n)[i]=⟨r.key,partS r.text i (i+1)⟩:=fun n h=>by simp[rs1O]
 rw[e1]
 simp only[List.getElem_map,List.getElem_take]
 have hi:i<(runes06 r.text).length:=by omega
 have:(eachL r.text)[i]'(by rw[hl];exact hi)=partS r.text i (i+1):=by
  rw[← one_part hv i hi]
  simp[eachL]
 rw[this]
end Go.Proofs.YtmegbepjdololaaDoor

namespace Go.Proofs.YtmegbepjdololaaDoor
open Go.RowKit Go.Sx Go.Lp
noncomputable def ltC25:LTab Tryd.prog:=((ltC21.cons 59 13 (lconAlt 2 (spa_C spa_I spa_M) (spb_C spb_I spb_M)) (fun b hb hk=>altL_ok (spa_ok b hb hk) (spb_ok b hb hk))).cons 67 8 (rs1_C rs1_I rs1_M) rs1_ok).cons 67 15 (rs2_C rs2_I rs2_M) rs2_ok
noncomputable abbrev lamC25:Lam:=ltC25.lam
theorem lamC25_ok:∀ f k L,lamC25 f k=some L→∀ b∈loopsOf Tryd.prog f,lkey b=k→LoopOk Tryd.prog b L.g:=ltC25.ok
end Go.Proofs.YtmegbepjdololaaDoor

namespace Go.Proofs.YtmegbepjdololaaDoor
open Go.RowKit Go.Sx
set_option maxRecDepth 100000
set_option linter.unusedVariables false
noncomputable def spl_q1 (f:Fn) (r:Rec):Ex ×
 spa_G:=
 loopF (fun g=>spa_R g.fst g.snd.fst g.snd.snd.fst g.snd.snd.snd.fst g.snd.snd.snd.snd.fst g.snd.snd.snd.snd.snd) spa_M (eStr.ag (wordsF ((runes06 f.s).getD (0:Nat) e3.dflt) (runes06 r.text) [] []),(↑(wordsF ((runes06 f.s).getD (0:Nat) e3.dflt) (runes06 r.text) [] []).length:Int),(0:Int),[],(),r)
noncomputable def spl_q2 (f:Fn) (r:Rec):Ex×sp1_G:=
 loopF (fun g=>sp1_R g.fst g.snd.fst g.snd.snd) sp1_M ((),(r.text,(0:Nat)),[])
noncomputable def spl_q3 (f:Fn) (r:Rec):Ex ×
 spb_G:=
 loopF (fun g=>spb_R g.fst g.snd.fst g.snd.snd.fst g.snd.snd.snd.fst g.snd.snd.snd.snd.fst g.snd.snd.snd.snd.snd.fst g.snd.snd.snd.snd.snd.snd) spb_M ((spl_q2 f r).snd.snd.snd.length,eStr.ag (spl_q2 f r).snd.snd.snd,(↑(spl_q2 f r).snd.snd.snd.length:Int),(0:Int),[],(),r)
noncomputable def spl_F (f:Fn) (r:Rec):Rv.T (.tup (.cons (.list eR) (.one (.of dI)))):=
 bif bothF (4:Int) f r != (0:Int) then ([],bothF (4:Int) f r)
 else bif f.kind==(22:Int) then (eR.ag (spl_q1 f r).snd.snd.snd.snd.fst,(0:Int)) else (eR.ag (spl_q3 f r).snd.snd.snd.snd.snd.fst,(0:Int))
def spl_side (f:Fn) (r:Rec):Prop:=
 ByteArray.size f.s≤KB∧((bothF (4:Int) f r != (0:Int))=false→((f.kind==(22:Int))=true→ByteArray.size f.s≤KB∧((0:Int)≤(0:Int)∧(0:Int)<(↑(runes06 f.s).length:Int))∧ByteArray.size r.text≤KB∧eStr.okL (wordsF ((runes06 f.s).getD (0:Nat) e3.dflt) (runes06 r.text) [] [])∧Lp.ixJ (fun c=>c.snd.fst) (fun c=>c.fst) spa_K (spa_f (eStr.ag (wordsF ((runes06 f.s).getD (0:Nat) e3.dflt) (runes06 r.text) [] []),(↑(wordsF ((runes06 f.s).getD (0:Nat) e3.dflt) (runes06 r.text) [] []).length:Int),(0:Int),[],(),r))∧(spl_q1 f r).snd.snd.snd.snd.fst.length≤(spl_q1 f r).snd.snd.snd.snd.fst.length∧∀ (e:Nat),e<(spl_q1 f r).snd.snd.snd.snd.fst.length→True)∧((f.kind==(22:Int))=false→(∃ p c b,((),(r.text,(0:Nat)),[])=sp1_mk p c b∧p≤ByteArray.size c∧sp1_P c b p)∧(∀ (e:Nat),e<(spl_q2 f r).snd.snd.snd.length→True)∧Lp.ixJ (fun c=>c.snd.snd.fst) (fun c=>c.snd.fst) spb_K (spb_f ((spl_q2 f r).snd.snd.snd.length,eStr.ag (spl_q2 f r).snd.snd.snd,(↑(spl_q2 f r).snd.snd.snd.length:Int),(0:Int),[],(),r))∧(spl_q3 f r).snd.snd.snd.snd.snd.fst.length≤(spl_q3 f r).snd.snd.snd.snd.snd.fst.length∧∀ (e:Nat),e<(spl_q3 f r).snd.snd.snd.snd.snd.fst.length→True))
theorem spl_okS (pre:DA.T aFR→List Prop) (h:∀ g,DA.bd aFR g→(∀ p∈pre g,p)→spl_side g.1 g.2):FnPure Tryd.prog 59 aFR (Rv.D (.tup (.cons (.list eR) (.one (.of dI))))) (fun g=>spl_F g.1 g.2) pre:=res_of_side (R:=(.tup (.cons (.list eR) (.one (.of dI))))) (Γ:=(PTab.gamz tabC19 [] [])) (Λ:=lamC25) (PTab.okz tabC19 [] []) lamC25_ok 100 default (fun g=>spl_side g.1 g.2) (fun g=>by kernel_rfl) (fun g=>by kernel_rfl) h
noncomputable def rsp_q1 (f:Fn) (r:Rec):Ex ×
 rs1_G:=
 loopF (fun g=>rs1_R g.fst g.snd.fst g.snd.snd.fst g.snd.snd.snd.fst g.snd.snd.snd.snd) rs1_M (eU.ag (runes05 r.text),(0:Int),[],(),r)
noncomputable def rsp_q2 (f:Fn) (r:Rec):Ex ×
 rs2_G:=
 loopF (fun g=>rs2_R g.fst g.snd.fst g.snd.snd.fst g.snd.snd.snd.fst g.snd.snd.snd.snd.fst g.snd.snd.snd.snd.snd.fst g.snd.snd.snd.snd.snd.snd) rs2_M (eU.ag (runes05 r.text),((runes05 f.s).getD (0:Nat) eU.dflt).r,(0:Int),(0:Int),[],(),r)
noncomputable def rsp_F (f:Fn) (r:Rec):Rv.T (.tup (.cons (.list eR) (.one (.of dI)))):=
 bif bothF (4:Int) f r != (0:Int) then ([],bothF (4:Int) f r)
 else bif f.kind==(21:Int) then (eR.ag (rsp_q1 f r).snd.snd.snd.fst,(0:Int)) else (eR.ag (rsp_q2 f r).snd.snd.snd.snd.snd.fst,(0:Int))
def rsp_side (f:Fn) (r:Rec):Prop:=
 ByteArray.size f.s≤KB∧((bothF (4:Int) f r != (0:Int))=false→ByteArray.size r.text≤KB∧((f.kind==(21:Int))=true→eU.okL (runes05 r.text)∧(∃ r_1 i,(eU.ag (runes05 r.text),(0:Int),[],(),r)=rs1_mk r_1 i∧i≤(runes05 r_1.text).length∧i≤(4:Nat)∧ByteArray.size r_1.text≤KB)∧(rsp_q1 f r).snd.snd.snd.fst.length≤(rsp_q1 f r).snd.snd.snd.fst.length∧∀ (e:Nat),e<(rsp_q1 f r).snd.snd.snd.fst.length→True)∧((f.kind==(21:Int))=false→ByteArray.size f.s≤KB∧((0:Int)≤(0:Int)∧(0:Int)<(↑(runes05 f.s).length:Int))∧eU.okL (runes05 r.text)∧(∃ r_1 c m i o,(eU.ag (runes05 r.text),((runes05 f.s).getD (0:Nat) eU.dflt).r,(0:Int),(0:Int),[],(),r)=rs2_mk r_1 c m i o∧m≤i∧i≤(runes05 r_1.text).length+(1:Nat)∧o.length≤(4:Nat)∧ByteArray.size r_1.text≤KB)∧(rsp_q2 f r).snd.snd.snd.snd.snd.fst.length≤(rsp_q2 f r).snd.snd.snd.snd.snd.fst.length∧∀ (e:Nat),e<(rsp_q2 f r).snd.snd.snd.snd.snd.fst.length→True))
theorem rsp_okS (pre:DA.T aFR→List Prop) (h:∀ g,DA.bd aFR g→(∀ p∈pre g,p)→rsp_side g.1 g.2):FnPure Tryd.prog 67 aFR (Rv.D (.tup (.cons (.list eR) (.one (.of dI))))) (fun g=>rsp_F g.1 g.2) pre:=res_of_side (R:=(.tup (.cons (.list eR) (.one (.of dI))))) (Γ:=(PTab.gamz tabC19 [] [])) (Λ:=lamC25) (PTab.okz tabC19 [] []) lamC25_ok 100 default (fun g=>rsp_side g.1 g.2) (fun g=>by kernel_rfl) (fun g=>by kernel_rfl) h
end Go.Proofs.YtmegbepjdololaaDoor

namespace Go.Proofs.YtmegbepjdololaaDoor
open Go.RowKit Go.Sx Go.Lp
def rune0 (s:BA):Int:=(runes06 s).getD 0 e3.dflt
def splitL (f:Fn) (r:Rec):List Rec:=pk r.key (bif f.kind==(22:Int) then wordsF (rune0 f.s) (runes06 r.text) [] [] else eachL r.text)
noncomputable def splF (f:Fn) (r:Rec):List Rec×Int:=bif bothF 4 f r != (0:Int) then ([],bothF 4 f r) else (splitL f r,0)
theorem chk4 {f:Fn} (h:chkF 4 f=0):(f.kind=21∨f.kind=22)∧num_F f=true∧textF f=true:=by
 rcases chkF_zero h with ⟨h1,_⟩ | ⟨_,h2,h3,h4,h5⟩
 ·exact absurd h1 (by decide)
 ·have h2:(21:Int)≤f.kind:=h2
  have h3:f.kind≤22:=h3
  exact ⟨by omega,h4,h5⟩
theorem text_single {f:Fn} (h:textF f=true) (hk:f.kind=12∨f.kind=22):singleS f.s=true:=by
 unfold textF at h
 rcases hk with hk | hk <;> (rw[hk] at h;simpa using h)
theorem single_len {s:BA} (h:singleS s=true):(runes06 s).length=1:=by
 unfold singleS at h
 simp only[Bool.and_eq_true,beq_iff_eq] at h
 exact h.1
theorem words_len (c:Int):∀ (l:List Int) (o:List BA) (w:List Int),(wordsF c l o w).length≤o.length+l.length+1
 | [],o,w=>by simp only[wordsF,List.length_append,List.length_singleton,List.length_nil];omega
 | d :: l,o,w=>by
  simp only[wordsF]
  cases d != c with
  | true=>
   have:=words_len c l o (w++[d])
   simp only[cond_true,List.length_cons]
   omega
  | false=>
   have:=words_len c l (o++[runesBytes w]) []
   simp only[cond_false,List.length_append,List.length_cons,List.length_nil] at this ⊢
   omega
theorem text_small {k:Int} {f:Fn} {r:Rec} (hb:(bothF k f r != (0:Int))=false):r.text.size≤64:=((chkR_iff r).1 (both_zero hb).2).1
theorem words_KL {r:Rec} (h:r.text.size≤64) (c:Int):(wordsF c (runes06 r.text) [] []).length≤KL:=by
 have:=words_len c (runes06 r.text) [] []
 have:=rns_len r.text
 simp only[List.length_nil] at *
 unfold KL;omega
theorem each_KL {r:Rec} (h:r.text.size≤64):(eachL r.text).length≤KL:=by
 have:=rns_len r.text
 unfold eachL KL
 rw[List.length_map];omega
theorem spl_q1_eq (f:Fn) (r:Rec) (h:r.text.size≤64):(spl_q1 f r).2.2.2.2.1=pk r.key (wordsF (rune0 f.s) (runes06 r.text) [] []):=by
 have hr:=spa_run (wordsF (rune0 f.s) (runes06 r.text) [] [],((wordsF (rune0 f.s) (runes06 r.text) [] []).length:Int),r) ([],()) rfl (words_KL h _) rfl
 have hq:spl_q1 f r=loopF spa_RR spa_M (spa_g (0,(wordsF (rune0 f.s) (runes06 r.text) [] [],((wordsF (rune0 f.s) (runes06 r.text) [] []).length:Int),r),([],()))):=by
  unfold spl_q1
  rw[eStr.ag_eq]
  rfl
 rw[hq,hr]
 have hf:=scan_fold (x:=2) (st:=spa_S (wordsF (rune0 f.s) (runes06 r.text) [] [],((wordsF (rune0 f.s) (runes06 r.text) [] []).length:Int),r)) (f:=fun (b:spa_GB) v=>((bif !decide (v=ByteArray.mk #[])&&decide ((b.1.length:Int)<(4:Int)) then b.1++[Rec.mk r.key v] else b.1),b.2)) (fun b i a=>rfl) (wordsF (rune0 f.s) (runes06 r.text) [] []) 0 ([],())
 refine Eq.trans (congrArg (fun x:Ex×Int×spa_GB=>x.2.2.1) hf) ?_
 have hsplit:∀ (l:List BA) (o:List Rec),(l.foldl (fun (b:spa_GB) v=>((bif !decide (v=ByteArray.mk #[])&&decide ((b.1.length:Int)<(4:Int)) then b.1++[Rec.mk r.key v] else b.1),b.2)) (o,())).1=l.foldl (fun (b:List Rec) v=>bif !decide (v=ByteArray.mk #[])&&decide ((b.length:Int)<(4:Int)) then b++[Rec.mk r.key v] else b) o:=by
  intro l
  induction l with
  | nil=>intro o;rfl
  | cons v l ih=>intro o;rw[List.foldl_cons,List.foldl_cons,ih]
 refine Eq.trans (hsplit _ _) ?_
 exact pk_fold r.key _ []
theorem spl_q2_eq (f:Fn) (r:Rec) (h:r.text.size≤64):(spl_q2 f r).2.2.2=eachL r.text:=(sp1_run r.text (by unfold KB;omega)).2
theorem spl_q3_eq (f:Fn) (r:Rec) (h:r.text.size≤64):(spl_q3 f r).2.2.2.2.2.1=pk r.key (eachL r.text):=by
 have hr:=spb_run ((eachL r.text).length,eachL r.text,((eachL r.text).length:Int),r) ([],()) rfl (each_KL h) rfl rfl
 have hq:spl_q3 f r=loopF spb_RR spb_M (spb_g (0,((eachL r.text).length,eachL r.text,((eachL r.text).length:Int),r),([],()))):=by
  unfold spl_q3
  rw[spl_q2_eq f r h,eStr.ag_eq]
  rfl
 rw[hq,hr]
 have hf:=scan_fold (x:=2) (st:=spb_S ((eachL r.text).length,eachL r.text,((eachL r.text).length:Int),r)) (f:=fun (b:spb_GB) v=>((bif !decide (v=ByteArray.mk #[])&&decide ((b.1.length:Int)<(4:Int)) then b.1++[Rec.mk r.key v] else b.1),b.2)) (fun b i a=>rfl) (eachL r.text) 0 ([],())
 refine Eq.trans (congrArg (fun x:Ex×Int×spb_GB=>x.2.2.1) hf) ?_
 have hsplit:∀ (l:List BA) (o:List Rec),(l.foldl (fun (b:spb_GB) v=>((bif !decide (v=ByteArray.mk #[])&&decide ((b.1.length:Int)<(4:Int)) then b.1++[Rec.mk r.key v] else b.1),b.2)) (o,())).1=l.foldl (fun (b:List Rec) v=>bif !decide (v=ByteArray.mk #[])&&decide ((b.length:Int)<(4:Int)) then b++[Rec.mk r.key v] else b) o:=by
  intro l
  induction l with
  | nil=>intro o;rfl
  | cons v l ih=>intro o;rw[List.foldl_cons,List.foldl_cons,ih]
 refine Eq.trans (hsplit _ _) ?_
 exact pk_fold r.key _ []
theorem spl_ok:FnPure Tryd.prog 59 aFR dLRE (fun g=>splF g.1 g.2) (fun g=>[g.1.s.size≤KB]):=
 pure_congr (spl_okS _ fun g _ hp=>by
  obtain ⟨f,r⟩:=g
  have h:f.s.size≤KB:=hp _ (List.mem_cons_self ..)
  show spl_side f r
  refine ⟨h,fun hb=>?_⟩
  obtain ⟨h1,h2⟩:=both_zero hb
  obtain ⟨k1,k3,k4⟩:=chk4 h1
  have ht:=text_small hb
  have ht':=rec_KB hb
  refine ⟨fun hk=>?_,fun hk=>?_⟩
  ·have hk:f.kind=22:=by simpa using hk
   have hl:=single_len (text_single k4 (.inr hk))
   refine ⟨h,⟨Int.le_refl _,by omega⟩,ht',?_,?_,Nat.le_refl _,fun _ _=>trivial⟩
   ·rw[eStr.okL_eq];trivial
   ·rw[eStr.ag_eq]
    exact spa_ix (wordsF (rune0 f.s) (runes06 r.text) [] [],((wordsF (rune0 f.s) (runes06 r.text) [] []).length:Int),r) ([],()) rfl (words_KL ht _) rfl
  ·refine ⟨⟨0,r.text,[],rfl,Nat.zero_le _,ht',Nat.le_refl _⟩,fun _ _=>trivial,?_,Nat.le_refl _,fun _ _=>trivial⟩
   rw[spl_q2_eq f r ht,eStr.ag_eq]
   exact spb_ix ((eachL r.text).length,eachL r.text,((eachL r.text).length:Int),r) ([],()) rfl (each_KL ht) rfl rfl) fun g _ _=>by
  obtain ⟨f,r⟩:=g
  show spl_F f r=splF f r
  unfold spl_F splF splitL
  cases hb:bothF 4 f r != (0:Int) with
  | true=>rfl
  | false=>
   have ht:=text_small hb
   rw[cond_false,cond_false,spl_q1_eq f r ht,spl_q3_eq f r ht,eR.ag_eq,eR.ag_eq]
   cases f.kind==(22:Int) <;> rfl
theorem rsp_q1_eq (f:Fn) (r:Rec) (h:r.text.size≤64) (hv:validS r.text=true):(rsp_q1 f r).2.2.2.1=pk r.key (eachL r.text):=by
 have hr:=rs1_run r (by unfold KB;omega) _ 0 (Nat.zero_le _) (Nat.sub_le _ _)
 have hq:rsp_q1 f r=loopF (fun g:rs1_G=>rs1_R g.1 g.2.1 g.2.2.1 g.2.2.2.1 g.2.2.2.2) rs1_M (rs1_mk r 0):=by
  unfold rsp_q1
  rw[eU.ag_eq]
  rfl
 rw[hq,hr]
 exact each_pk r hv
theorem rsp_q2_eq (f:Fn) (r:Rec) (h:r.text.size≤64) (hv:validS r.text=true) (hs:(runes06 f.s).length=1):(rsp_q2 f r).2.2.2.2.2.1=pk r.key (wordsF (rune0 f.s) (runes06 r.text) [] []):=by
 obtain ⟨m',i',hr⟩:=rs2_run r (rune0 f.s) (by unfold KB;omega) ((runes05 r.text).length+1) 0 0 [] (Nat.le_refl _) (by omega) (Nat.zero_le _)
 have hq:rsp_q2 f r=loopF (fun g:rs2_G=>rs2_R g.1 g.2.1 g.2.2.1 g.2.2.2.1 g.2.2.2.2.1 g.2.2.2.2.2.1 g.2.2.2.2.2.2) rs2_M (rs2_mk r (rune0 f.s) 0 0 []):=by
  unfold rsp_q2
  rw[eU.ag_eq,r05_r0 f.s (by omega)]
  rfl
 rw[hq,hr]
 show rs2N r (rune0 f.s) _ 0 0 []=_
 have hw:=rs2_words r (rune0 f.s) hv ((runes05 r.text).length+1) 0 0 [] [] (Nat.le_refl _) (by rw[runes_len];omega) (by simp) (by omega) (by omega)
 rw[List.drop_zero] at hw
 exact hw
theorem rsp_ok:FnPure Tryd.prog 67 aFR dLRE (fun g=>splF g.1 g.2) (fun g=>[g.1.s.size≤KB]):=
 pure_congr (rsp_okS _ fun g _ hp=>by
  obtain ⟨f,r⟩:=g
  have h:f.s.size≤KB:=hp _ (List.mem_cons_self ..)
  show rsp_side f r
  refine ⟨h,fun hb=>?_⟩
  obtain ⟨h1,h2⟩:=both_zero hb
  obtain ⟨k1,k3,k4⟩:=chk4 h1
  have ht':=rec_KB hb
  refine ⟨ht',fun hk=>?_,fun hk=>?_⟩
  ·rw[eU.okL_eq,eU.ag_eq]
   exact ⟨trivial,⟨r,0,rfl,Nat.zero_le _,Nat.zero_le _,ht'⟩,Nat.le_refl _,fun _ _=>trivial⟩
  ·have hk:f.kind=22:=by
    have:¬ f.kind=21:=by simpa using hk
    omega
   have hl:=single_len (text_single k4 (.inr hk))
   rw[eU.okL_eq,eU.ag_eq]
   exact ⟨h,⟨Int.le_refl _,by rw[runes_len];omega⟩,trivial,⟨r,_,0,0,[],rfl,Nat.le_refl _,by omega,Nat.zero_le _,ht'⟩,Nat.le_refl _,fun _ _=>trivial⟩) fun g _ _=>by
  obtain ⟨f,r⟩:=g
  show rsp_F f r=splF f r
  unfold rsp_F splF splitL
  cases hb:bothF 4 f r != (0:Int) with
  | true=>rfl
  | false=>
   have ht:=text_small hb
   obtain ⟨h1,h2⟩:=both_zero hb
   have hv:=((chkR_iff r).1 h2).2
   obtain ⟨k1,k3,k4⟩:=chk4 h1
   rw[cond_false,cond_false,rsp_q1_eq f r ht hv,eR.ag_eq,eR.ag_eq]
   rcases k1 with hk | hk
   ·rw[hk];rfl
   ·rw[rsp_q2_eq f r ht hv (single_len (text_single k4 (.inr hk))),hk];rfl
noncomputable def tabC27:PTab Tryd.prog:=(tabC19.cons 59 (pconR aFR dLRE (fun g=>splF g.1 g.2) (fun g=>[g.1.s.size≤KB])) (conR_ok spl_ok)).cons 67 (pconR aFR dLRE (fun g=>splF g.1 g.2) (fun g=>[g.1.s.size≤KB])) (conR_ok rsp_ok)
end Go.Proofs.YtmegbepjdololaaDoor

namespace Go.Proofs.YtmegbepjdololaaDoor
open Go.RowKit Go.Sx Go.Lp
abbrev bgF1:Fn:=⟨4,0,ByteArray.mk #[]⟩
abbrev bgR1:Rec:=⟨1,ByteArray.mk #[97,195,169]⟩
abbrev bgA1:Rec:=⟨1,ByteArray.mk #[195,169,97]⟩
abbrev bgF2:Fn:=⟨22,0,ByteArray.mk #[32]⟩
abbrev bgR2:Rec:=⟨2,ByteArray.mk #[97,32,98,32,32,99]⟩
abbrev bgL2:List Rec:=[⟨2,ByteArray.mk #[97]⟩,⟨2,ByteArray.mk #[98]⟩,⟨2,ByteArray.mk #[99]⟩]
theorem bg_map:FnPure Tryd.prog 51 aFR dRE (fun _=>(bgA1,(0:Int))) (fun g=>[g=(bgF1,bgR1)]):=
 pure_lit map_ok (bgF1,bgR1) (bgA1,0) (by kernel_rfl) (fun p hp=>by rw[List.mem_singleton.1 hp];decide)
theorem bg_spl:FnPure Tryd.prog 59 aFR dLRE (fun _=>(bgL2,(0:Int))) (fun g=>[g=(bgF2,bgR2)]):=
 pure_lit spl_ok (bgF2,bgR2) (bgL2,0) (by kernel_rfl) (fun p hp=>by rw[List.mem_singleton.1 hp];decide)
noncomputable def tabD1:PTab Tryd.prog:=(PTab.nil.cons 51 (pconP aFR dRE (fun _=>(bgA1,(0:Int))) (fun g=>[g=(bgF1,bgR1)])) (conP_ok bg_map puRE)).cons 59 (pconR aFR dLRE (fun _=>(bgL2,(0:Int))) (fun g=>[g=(bgF2,bgR2)])) (conR_ok bg_spl)
set_option maxRecDepth 100000
noncomputable abbrev bgT:Tr Bool:=dTree Tryd.prog (PTab.gamz tabD1 [] []) noΛ 100 49 (DA.enc .none ()) dBool
theorem bg_ev:bgT.evC false=true:=by kernel_rfl
end Go.Proofs.YtmegbepjdololaaDoor

namespace Go.Proofs.YtmegbepjdololaaDoor
open Go.RowKit Go.Sx Go.Lp
set_option maxRecDepth 100000
theorem bg_asks:bgT.asksC=[(bgF1,bgR1)=(bgF1,bgR1),(bgF2,bgR2)=(bgF2,bgR2),((0:Int)==(0:Int))=true→conj ([bgA1.key==(1:Int)]++([decide (bgA1.text=ByteArray.mk #[195,169,97])]++[]))=true→((0:Int)==(0:Int))=true→((3:Int)==(3:Int))=true→(0:Int)≤(2:Int)∧(2:Int)<(3:Int)]:=by kernel_rfl
theorem bg_ok:FnPure Tryd.prog 49 .none dBool (fun _=>true) (fun _=>[]):=pure_of_tree (PTab.okz tabD1 [] []) noΛ_ok 100 fun g _ _=>by
 have h:=Tr.asksC_holds (t:=bgT) false (by
  rw[bg_asks]
  intro p hp
  rcases List.mem_cons.1 hp with e | hp
  ·exact e▸rfl
  rcases List.mem_cons.1 hp with e | hp
  ·exact e▸rfl
  rcases List.mem_cons.1 hp with e | hp
  ·exact e▸fun _ _ _ _=>⟨by decide,by decide⟩
  cases hp)
 rw[bg_ev] at h
 exact h
noncomputable def tabD2:PTab Tryd.prog:=tabC27.cons 49 (pconP .none dBool (fun _=>true) (fun _=>[])) (conP_ok bg_ok puB)
end Go.Proofs.YtmegbepjdololaaDoor

namespace Go.Proofs.YtmegbepjdololaaDoor
open Go.RowKit Go.Sx
set_option maxRecDepth 100000
set_option linter.unusedVariables false
end Go.Proofs.YtmegbepjdololaaDoor

namespace Go.Proofs.YtmegbepjdololaaDoor
open Go.RowKit Go.Sx Go.Lp
set_option maxRecDepth 100000
end Go.Proofs.YtmegbepjdololaaDoor

namespace Go.Proofs.YtmegbepjdololaaDoor
open Go.RowKit Go.Sx
set_option maxRecDepth 100000
set_option linter.unusedVariables false
end Go.Proofs.YtmegbepjdololaaDoor

namespace Go.Proofs.YtmegbepjdololaaDoor
open Go.RowKit Go.Sx Go.Lp
end Go.Proofs.YtmegbepjdololaaDoor

namespace Go.Proofs.YtmegbepjdololaaDoor
open Go.RowKit Go.Sx
set_option maxRecDepth 100000
set_option linter.unusedVariables false
end Go.Proofs.YtmegbepjdololaaDoor

namespace Go.Proofs.YtmegbepjdololaaDoor
open Go.RowKit Go.Sx
set_option maxRecDepth 100000
set_option linter.unusedVariables false
end Go.Proofs.YtmegbepjdololaaDoor

namespace Go.Proofs.YtmegbepjdololaaDoor
open Go.RowKit Go.Sx Go.Lp
end Go.Proofs.YtmegbepjdololaaDoor

namespace Go.Proofs.YtmegbepjdololaaDoor
open Go.RowKit Go.Sx Go.Lp
theorem conj_R (a b:Rec):conj ([a.key==b.key]++([decide (a.text=b.text)]++[]))=decide (a=b):=by
 obtain ⟨k,s⟩:=a
 obtain ⟨k',s'⟩:=b
 rw[Bool.eq_iff_iff]
 simp[conj]
end Go.Proofs.YtmegbepjdololaaDoor

namespace Go.Proofs.YtmegbepjdololaaDoor
open Go.RowKit Go.Sx Go.Lp
end Go.Proofs.YtmegbepjdololaaDoor

namespace Go.Proofs.YtmegbepjdololaaDoor
open Go.RowKit Go.Sx Go.Lp
theorem contains_iff (s t:List UInt8):Lib.contains s t=true↔∃ j,j≤s.length∧t <+: s.drop j:=by
 unfold Lib.contains
 rw[decide_eq_true_iff]
 rcases Lib.index_spec s t with ⟨h1,h2⟩ | ⟨i,h1,h2,h3,_⟩
 ·rw[h1]
  constructor
  ·intro h;omega
  ·rintro ⟨j,hj,hp⟩
   have:=h2 j hj
   unfold Lib.occAt at this
   rw[← List.isPrefixOf_iff_prefix] at hp
   rw[hp] at this
   cases this
 ·rw[h1]
  refine ⟨fun _=>⟨i,h2,?_⟩,fun _=>by omega⟩
  rw[← List.isPrefixOf_iff_prefix]
  exact h3
theorem enc_head {c:Nat} (h:sc c):∃ b t,encL c=b :: t∧(b.toNat<128∨192≤b.toNat):=by
 rcases encL_cases h with ⟨h1,e⟩ | ⟨h1,h2,e⟩ | ⟨h1,h2,e⟩ | ⟨h1,h2,e⟩
 ·exact ⟨_,_,e,.inl (by rw[ofNat_toNat (by omega)];exact h1)⟩
 ·exact ⟨_,_,e,.inr (by rw[ofNat_toNat (by omega)];omega)⟩
 ·exact ⟨_,_,e,.inr (by rw[ofNat_toNat (by omega)];omega)⟩
 ·exact ⟨_,_,e,.inr (by rw[ofNat_toNat (by omega)];omega)⟩
theorem enc_tail {c:Nat} (h:sc c) (j:Nat) (h0:0<j) (hj:j<(encL c).length):∃ b,(encL c)[j]?=some b∧128≤b.toNat∧b.toNat<192:=by
 have cont:∀ n:Nat,128≤(UInt8.ofNat (128+n % 64)).toNat∧(UInt8.ofNat (128+n % 64)).toNat<192:=fun n=>by
  rw[ofNat_toNat (by omega)];omega
 rcases encL_cases h with ⟨h1,e⟩ | ⟨h1,h2,e⟩ | ⟨h1,h2,e⟩ | ⟨h1,h2,e⟩ <;> rw[e] at hj ⊢ <;> simp only[List.length_cons,List.length_nil] at hj
 ·omega
 ·obtain rfl:j=1:=by omega
  exact ⟨_,rfl,cont _⟩
 ·obtain rfl | rfl:j=1∨j=2:=by omega
  ·exact ⟨_,rfl,cont _⟩
  ·exact ⟨_,rfl,cont _⟩
 ·obtain rfl | rfl | rfl:j=1∨j=2∨j=3:=by omega
  ·exact ⟨_,rfl,cont _⟩
  ·exact ⟨_,rfl,cont _⟩
  ·exact ⟨_,rfl,cont _⟩
theorem enc_at {c:Nat} (hc:sc c):∀ {cs:List Nat},(∀ x∈cs,sc x)→∀ j,encL c <+: (encs cs).drop j→c∈cs
 | [],_,j,hp=>by
  have:encL c=[]:=by simpa [encs] using hp
  exact absurd this (encL_ne hc)
 | x :: xs,hs,j,hp=>by
  have hx:=hs x (List.mem_cons_self ..)
  rw[encs_cons] at hp
  by_cases h0:j=0
  ·subst h0
   obtain ⟨t,ht⟩:=hp
   rw[List.drop_zero] at ht
   have e1:=decode_enc hc t
   have e2:=decode_enc hx (encs xs)
   rw[ht,e2] at e1
   have:x=c:=congrArg Prod.fst e1
   rw[this];exact List.mem_cons_self ..
  by_cases hj:j<(encL x).length
  ·exfalso
   obtain ⟨b,hb,h1,h2⟩:=enc_tail hx j (by omega) hj
   obtain ⟨b',t',e,h3⟩:=enc_head hc
   obtain ⟨t,ht⟩:=hp
   have e1:(List.drop j (encL x++encs xs))[0]?=some b:=by
    rw[List.getElem?_drop,Nat.add_zero,List.getElem?_append_left hj,hb]
   rw[← ht,e] at e1
   have:b'=b:=by simpa using e1
   subst this
   omega
  ·have e:List.drop j (encL x++encs xs)=List.drop (j - (encL x).length) (encs xs):=by
    rw[List.drop_append,List.drop_eq_nil_of_le (by omega),List.nil_append]
   rw[e] at hp
   exact List.mem_cons_of_mem _ (enc_at hc (fun y hy=>hs y (List.mem_cons_of_mem _ hy)) _ hp)
theorem has_enc {c:Nat} (hc:sc c) {cs:List Nat} (hs:∀ x∈cs,sc x):Lib.contains (encs cs) (encL c)=decide (c∈cs):=by
 rw[Bool.eq_iff_iff,contains_iff,decide_eq_true_iff]
 constructor
 ·rintro ⟨j,_,hp⟩
  exact enc_at hc hs j hp
 ·intro hm
  obtain ⟨a,b,rfl⟩:=List.append_of_mem hm
  refine ⟨(encs a).length,?_,?_⟩
  ·rw[encs_append,List.length_append];omega
  ·rw[encs_append,encs_cons,List.drop_left]
   exact ⟨encs b,rfl⟩
theorem rp_snd:∀ (l:List (Nat×Nat)) (p:Nat),(rpF p l).map (·.2)=l.map (·.1)
 | [],_=>rfl
 | (c,w) :: l,p=>by
  show _ :: (rpF (p+w) l).map (·.2)=_
  rw[rp_snd l]
  rfl
theorem r05_rs (s:BA):(runes05 s).map (·.r)=runes06 s:=by
 rw[runes06_cs]
 unfold runes05 rpL rns
 have:=rp_snd (rsL (toL s)) 0
 rw[← this,List.map_map,List.map_map]
 rfl
theorem hasR_eq (s:BA) (c:Nat):hasR (runes05 s) (c:Int)=decide (c∈rns (toL s)):=by
 have e:hasR (runes05 s) (c:Int)=((runes05 s).map (·.r)).any (·==(c:Int)):=by
  unfold hasR
  rw[List.any_map]
  rfl
 rw[e,r05_rs,runes06_cs,Bool.eq_iff_iff,List.any_eq_true,decide_eq_true_iff]
 constructor
 ·rintro ⟨x,hx,hc⟩
  obtain ⟨y,hy,rfl⟩:=List.mem_map.1 hx
  have:(y:Int)=(c:Int):=by simpa using hc
  have:y=c:=by omega
  exact this▸hy
 ·intro h
  exact ⟨(c:Int),List.mem_map.2 ⟨c,h,rfl⟩,by simp⟩
end Go.Proofs.YtmegbepjdololaaDoor

namespace Go.Proofs.YtmegbepjdololaaDoor
open Go.RowKit Go.Sx
set_option maxRecDepth 100000
set_option linter.unusedVariables false
abbrev eqU_G:Type:=List Rune×List Rune×Int×Int×Bool
noncomputable def eqU_LP:LP 0 eqU_G:=.pair (.slot 0 0 dLU) (.pair (.slot 0 1 dLU) (.pair (.slot 0 12 dI) (.pair (.slot 0 13 dI) (.slot 0 4 dBool))))
noncomputable def eqU_R (xs:List Rune) (ys:List Rune) (n:Int) (i:Int) (r:Bool):Ex×eqU_G:=
 bif decide (i<n) then bif !conj ([(xs.getD i.toNat eU.dflt).at'==(ys.getD i.toNat eU.dflt).at']++([(xs.getD i.toNat eU.dflt).r==(ys.getD i.toNat eU.dflt).r]++[])) then (Ex.ret,eU.ag xs,eU.ag ys,n,i,false) else (Ex.normal,eU.ag xs,eU.ag ys,n,IntKind.i64.wrap (i+(1:Int)),r)
 else (Ex.exit (0:Nat),eU.ag xs,eU.ag ys,n,i,r)
def eqU_side (xs:List Rune) (ys:List Rune) (n:Int) (i:Int) (r:Bool):Prop:=
 (decide (i<n)=true→((0:Int)≤i∧i<(↑xs.length:Int))∧((0:Int)≤i∧i<(↑ys.length:Int))∧((!conj ([(xs.getD i.toNat eU.dflt).at'==(ys.getD i.toNat eU.dflt).at']++([(xs.getD i.toNat eU.dflt).r==(ys.getD i.toNat eU.dflt).r]++[])))=true→eU.okL xs∧eU.okL ys)∧((!conj ([(xs.getD i.toNat eU.dflt).at'==(ys.getD i.toNat eU.dflt).at']++([(xs.getD i.toNat eU.dflt).r==(ys.getD i.toNat eU.dflt).r]++[])))=false→eU.okL xs∧eU.okL ys))∧(decide (i<n)=false→eU.okL xs∧eU.okL ys)
theorem eqU_one:((loopsOf Tryd.prog 17).filter fun c=>Nat.beq (lkey c) 4).length=1:=by kernel_rfl
abbrev eqU_GC:Type:=List Rune×List Rune×Int
abbrev eqU_GB:Type:=Bool
def eqU_f (g:eqU_G):Int×eqU_GC×eqU_GB:=(g.2.2.2.1,(g.1,g.2.1,g.2.2.1),g.2.2.2.2)
def eqU_g (d:Int×eqU_GC×eqU_GB):eqU_G:=(d.2.1.1,d.2.1.2.1,d.2.1.2.2,d.1,d.2.2)
theorem eqU_es (g:eqU_G):(eqU_R g.1 g.2.1 g.2.2.1 g.2.2.2.1 g.2.2.2.2).1=.normal∨(eqU_R g.1 g.2.1 g.2.2.1 g.2.2.2.1 g.2.2.2.2).1∈([.ret,.exit 0]:List Ex):=by
 unfold eqU_R
 repeat' (first | (left;rfl) | (right;simp only[cond_true,cond_false];simp;done) | (rw[Bool.cond_eq_ite];split))
noncomputable abbrev eqU_C (Inv:eqU_G→List Prop) (m:eqU_G→Nat):LCon:=loopR [.ret,.exit 0] (loopBody Tryd.prog 17 4) eqU_LP [] 26 Inv (fun g=>eqU_R g.1 g.2.1 g.2.2.1 g.2.2.2.1 g.2.2.2.2) m
theorem eqU_loop (Inv:eqU_G→List Prop) (m:eqU_G→Nat) (hs:∀ g,allP (Inv g)→eqU_side g.1 g.2.1 g.2.2.1 g.2.2.2.1 g.2.2.2.2) (hg:Goes (fun g:eqU_G=>eqU_R g.1 g.2.1 g.2.2.1 g.2.2.2.1 g.2.2.2.2) m fun g=>allP (Inv g)):∀ b∈loopsOf Tryd.prog 17,lkey b=4→LoopOk Tryd.prog b (eqU_C Inv m).g:=loop_run (Γ:=(PTab.gamz tabD2 [] [])) (Λ:=noΛ) (PTab.okz tabD2 [] []) noΛ_ok 100 17 4 26 eqU_LP [] Inv (fun g=>eqU_R g.1 g.2.1 g.2.2.1 g.2.2.2.1 g.2.2.2.2) (fun g=>eqU_side g.1 g.2.1 g.2.2.1 g.2.2.2.1 g.2.2.2.2) m default [.ret,.exit 0] eqU_one (fun rd T B HL HB ds g=>by kernel_rfl) (fun rd T B HL HB ds g=>by kernel_rfl) hs hg eqU_es
abbrev eqM_G:Type:=List Many×List Many×Int×Int×Bool
noncomputable def eqM_LP:LP 0 eqM_G:=.pair (.slot 0 0 dLM) (.pair (.slot 0 1 dLM) (.pair (.slot 0 12 dI) (.pair (.slot 0 13 dI) (.slot 0 4 dBool))))
noncomputable def eqM_R (xs:List Many) (ys:List Many) (n:Int) (i:Int) (r:Bool):Ex×eqM_G:=
 bif decide (i<n) then bif !conj ([(xs.getD i.toNat eM.dflt).r.key==(ys.getD i.toNat eM.dflt).r.key]++([decide ((xs.getD i.toNat eM.dflt).r.text=(ys.getD i.toNat eM.dflt).r.text)]++[])++([(xs.getD i.toNat eM.dflt).n==(ys.getD i.toNat eM.dflt).n]++[])) then (Ex.ret,eM.ag xs,eM.ag ys,n,i,false) else (Ex.normal,eM.ag xs,eM.ag ys,n,IntKind.i64.wrap (i+(1:Int)),r)
 else (Ex.exit (0:Nat),eM.ag xs,eM.ag ys,n,i,r)
def eqM_side (xs:List Many) (ys:List Many) (n:Int) (i:Int) (r:Bool):Prop:=
 (decide (i<n)=true→((0:Int)≤i∧i<(↑xs.length:Int))∧((0:Int)≤i∧i<(↑ys.length:Int))∧((!conj ([(xs.getD i.toNat eM.dflt).r.key==(ys.getD i.toNat eM.dflt).r.key]++([decide ((xs.getD i.toNat eM.dflt).r.text=(ys.getD i.toNat eM.dflt).r.text)]++[])++([(xs.getD i.toNat eM.dflt).n==(ys.getD i.toNat eM.dflt).n]++[])))=true→eM.okL xs∧eM.okL ys)∧((!conj ([(xs.getD i.toNat eM.dflt).r.key==(ys.getD i.toNat eM.dflt).r.key]++([decide ((xs.getD i.toNat eM.dflt).r.text=(ys.getD i.toNat eM.dflt).r.text)]++[])++([(xs.getD i.toNat eM.dflt).n==(ys.getD i.toNat eM.dflt).n]++[])))=false→eM.okL xs∧eM.okL ys))∧(decide (i<n)=false→eM.okL xs∧eM.okL ys)
theorem eqM_one:((loopsOf Tryd.prog 71).filter fun c=>Nat.beq (lkey c) 4).length=1:=by kernel_rfl
abbrev eqM_GC:Type:=List Many×List Many×Int
abbrev eqM_GB:Type:=Bool
def eqM_f (g:eqM_G):Int×eqM_GC×eqM_GB:=(g.2.2.2.1,(g.1,g.2.1,g.2.2.1),g.2.2.2.2)
def eqM_g (d:Int×eqM_GC×eqM_GB):eqM_G:=(d.2.1.1,d.2.1.2.1,d.2.1.2.2,d.1,d.2.2)
theorem eqM_es (g:eqM_G):(eqM_R g.1 g.2.1 g.2.2.1 g.2.2.2.1 g.2.2.2.2).1=.normal∨(eqM_R g.1 g.2.1 g.2.2.1 g.2.2.2.1 g.2.2.2.2).1∈([.ret,.exit 0]:List Ex):=by
 unfold eqM_R
 repeat' (first | (left;rfl) | (right;simp only[cond_true,cond_false];simp;done) | (rw[Bool.cond_eq_ite];split))
noncomputable abbrev eqM_C (Inv:eqM_G→List Prop) (m:eqM_G→Nat):LCon:=loopR [.ret,.exit 0] (loopBody Tryd.prog 71 4) eqM_LP [] 26 Inv (fun g=>eqM_R g.1 g.2.1 g.2.2.1 g.2.2.2.1 g.2.2.2.2) m
theorem eqM_loop (Inv:eqM_G→List Prop) (m:eqM_G→Nat) (hs:∀ g,allP (Inv g)→eqM_side g.1 g.2.1 g.2.2.1 g.2.2.2.1 g.2.2.2.2) (hg:Goes (fun g:eqM_G=>eqM_R g.1 g.2.1 g.2.2.1 g.2.2.2.1 g.2.2.2.2) m fun g=>allP (Inv g)):∀ b∈loopsOf Tryd.prog 71,lkey b=4→LoopOk Tryd.prog b (eqM_C Inv m).g:=loop_run (Γ:=(PTab.gamz tabD2 [] [])) (Λ:=noΛ) (PTab.okz tabD2 [] []) noΛ_ok 100 71 4 26 eqM_LP [] Inv (fun g=>eqM_R g.1 g.2.1 g.2.2.1 g.2.2.2.1 g.2.2.2.2) (fun g=>eqM_side g.1 g.2.1 g.2.2.1 g.2.2.2.1 g.2.2.2.2) m default [.ret,.exit 0] eqM_one (fun rd T B HL HB ds g=>by kernel_rfl) (fun rd T B HL HB ds g=>by kernel_rfl) hs hg eqM_es
abbrev eqR_G:Type:=List Rec×List Rec×Int×Int×Bool
noncomputable def eqR_LP:LP 0 eqR_G:=.pair (.slot 0 0 dLR) (.pair (.slot 0 1 dLR) (.pair (.slot 0 12 dI) (.pair (.slot 0 13 dI) (.slot 0 4 dBool))))
noncomputable def eqR_R (xs:List Rec) (ys:List Rec) (n:Int) (i:Int) (r:Bool):Ex×eqR_G:=
 bif decide (i<n) then bif !conj ([(xs.getD i.toNat eR.dflt).key==(ys.getD i.toNat eR.dflt).key]++([decide ((xs.getD i.toNat eR.dflt).text=(ys.getD i.toNat eR.dflt).text)]++[])) then (Ex.ret,eR.ag xs,eR.ag ys,n,i,false) else (Ex.normal,eR.ag xs,eR.ag ys,n,IntKind.i64.wrap (i+(1:Int)),r)
 else (Ex.exit (0:Nat),eR.ag xs,eR.ag ys,n,i,r)
def eqR_side (xs:List Rec) (ys:List Rec) (n:Int) (i:Int) (r:Bool):Prop:=
 (decide (i<n)=true→((0:Int)≤i∧i<(↑xs.length:Int))∧((0:Int)≤i∧i<(↑ys.length:Int))∧((!conj ([(xs.getD i.toNat eR.dflt).key==(ys.getD i.toNat eR.dflt).key]++([decide ((xs.getD i.toNat eR.dflt).text=(ys.getD i.toNat eR.dflt).text)]++[])))=true→eR.okL xs∧eR.okL ys)∧((!conj ([(xs.getD i.toNat eR.dflt).key==(ys.getD i.toNat eR.dflt).key]++([decide ((xs.getD i.toNat eR.dflt).text=(ys.getD i.toNat eR.dflt).text)]++[])))=false→eR.okL xs∧eR.okL ys))∧(decide (i<n)=false→eR.okL xs∧eR.okL ys)
theorem eqR_one:((loopsOf Tryd.prog 30).filter fun c=>Nat.beq (lkey c) 4).length=1:=by kernel_rfl
abbrev eqR_GC:Type:=List Rec×List Rec×Int
abbrev eqR_GB:Type:=Bool
def eqR_f (g:eqR_G):Int×eqR_GC×eqR_GB:=(g.2.2.2.1,(g.1,g.2.1,g.2.2.1),g.2.2.2.2)
def eqR_g (d:Int×eqR_GC×eqR_GB):eqR_G:=(d.2.1.1,d.2.1.2.1,d.2.1.2.2,d.1,d.2.2)
theorem eqR_es (g:eqR_G):(eqR_R g.1 g.2.1 g.2.2.1 g.2.2.2.1 g.2.2.2.2).1=.normal∨(eqR_R g.1 g.2.1 g.2.2.1 g.2.2.2.1 g.2.2.2.2).1∈([.ret,.exit 0]:List Ex):=by
 unfold eqR_R
 repeat' (first | (left;rfl) | (right;simp only[cond_true,cond_false];simp;done) | (rw[Bool.cond_eq_ite];split))
noncomputable abbrev eqR_C (Inv:eqR_G→List Prop) (m:eqR_G→Nat):LCon:=loopR [.ret,.exit 0] (loopBody Tryd.prog 30 4) eqR_LP [] 26 Inv (fun g=>eqR_R g.1 g.2.1 g.2.2.1 g.2.2.2.1 g.2.2.2.2) m
theorem eqR_loop (Inv:eqR_G→List Prop) (m:eqR_G→Nat) (hs:∀ g,allP (Inv g)→eqR_side g.1 g.2.1 g.2.2.1 g.2.2.2.1 g.2.2.2.2) (hg:Goes (fun g:eqR_G=>eqR_R g.1 g.2.1 g.2.2.1 g.2.2.2.1 g.2.2.2.2) m fun g=>allP (Inv g)):∀ b∈loopsOf Tryd.prog 30,lkey b=4→LoopOk Tryd.prog b (eqR_C Inv m).g:=loop_run (Γ:=(PTab.gamz tabD2 [] [])) (Λ:=noΛ) (PTab.okz tabD2 [] []) noΛ_ok 100 30 4 26 eqR_LP [] Inv (fun g=>eqR_R g.1 g.2.1 g.2.2.1 g.2.2.2.1 g.2.2.2.2) (fun g=>eqR_side g.1 g.2.1 g.2.2.1 g.2.2.2.1 g.2.2.2.2) m default [.ret,.exit 0] eqR_one (fun rd T B HL HB ds g=>by kernel_rfl) (fun rd T B HL HB ds g=>by kernel_rfl) hs hg eqR_es
end Go.Proofs.YtmegbepjdololaaDoor

namespace Go.Proofs.YtmegbepjdololaaDoor
open Go.RowKit Go.Sx Go.Lp
set_option maxRecDepth 100000
theorem conj_eR (a b:Rec):conj ([a.key==b.key]++([decide (a.text=b.text)]++[]))=decide (a=b):=by
 obtain ⟨k,s⟩:=a
 obtain ⟨k',s'⟩:=b
 rw[Bool.eq_iff_iff]
 simp[conj]
theorem conj_eU (a b:Rune):conj ([a.at'==b.at']++([a.r==b.r]++[]))=decide (a=b):=by
 obtain ⟨k,s⟩:=a
 obtain ⟨k',s'⟩:=b
 rw[Bool.eq_iff_iff]
 simp[conj]
theorem conj_eM (a b:Many):conj ([a.r.key==b.r.key]++([decide (a.r.text=b.r.text)]++[])++([a.n==b.n]++[]))=decide (a=b):=by
 obtain ⟨⟨k,s⟩,n⟩:=a
 obtain ⟨⟨k',s'⟩,n'⟩:=b
 rw[Bool.eq_iff_iff]
 simp[conj]
 exact ⟨fun ⟨h1,h2,h3⟩=>⟨⟨h1,h2⟩,h3⟩,fun ⟨⟨h1,h2⟩,h3⟩=>⟨h1,h2,h3⟩⟩
noncomputable def eqU_S (c:eqU_GC) (b:eqU_GB) (i:Int) (v:Rune):Ex×eqU_GB:=bif !decide (v=c.2.1.getD i.toNat eU.dflt) then (.ret,false) else (.normal,b)
def eqU_K (c:eqU_GC) (b:eqU_GB) (i:Int):Prop:=c.1.length=c.2.1.length
abbrev eqU_I (g:eqU_G):List Prop:=ixI (fun c:eqU_GC=>c.2.2) (fun c:eqU_GC=>c.1) eqU_K (eqU_f g)
abbrev eqU_M (g:eqU_G):Nat:=ixM (fun c:eqU_GC=>c.2.2) (eqU_f g)
theorem eqU_P:ixP eqU_S (fun c:eqU_GC=>c.1) eqU_K:=fun _ _ _ _ h _ _=>h
noncomputable abbrev eqU_RR (g:eqU_G):Ex×eqU_G:=eqU_R g.1 g.2.1 g.2.2.1 g.2.2.2.1 g.2.2.2.2
theorem eqU_RF (d:Int×eqU_GC×eqU_GB) (hi:allP (ixI (fun c:eqU_GC=>c.2.2) (fun c:eqU_GC=>c.1) eqU_K d)):eqU_RR (eqU_g d)=((ixF 0 (fun c:eqU_GC=>c.2.2) (fun c:eqU_GC=>c.1) eU.dflt eqU_S d).1,eqU_g (ixF 0 (fun c:eqU_GC=>c.2.2) (fun c:eqU_GC=>c.1) eU.dflt eqU_S d).2):=by
 obtain ⟨i,⟨xs,ys,n⟩,r⟩:=d
 show eqU_R xs ys n i r=_
 unfold eqU_R ixF eqU_S
 simp only[El.ag_eq,conj_eU]
 cases decide (i<n) with
 | false=>rfl
 | true=>
  simp only[cond_true]
  generalize (!decide ((xs.getD i.toNat eU.dflt)=ys.getD i.toNat eU.dflt))=z
  cases z <;> rfl
theorem eqU_ok:∀ b∈loopsOf Tryd.prog 17,lkey b=4→LoopOk Tryd.prog b (eqU_C eqU_I eqU_M).g:=by
 refine eqU_loop eqU_I eqU_M (fun g hi=>?_) (ix_conj_goes (fun _=>rfl) (fun _=>rfl) eqU_RF eqU_P)
 obtain ⟨xs,ys,n,i,r⟩:=g
 obtain ⟨h1,h2,h3,h4,h5⟩:=hi _ (List.mem_cons_self ..)
 have h1:n=(xs.length:Int):=h1
 have h3:0≤i:=h3
 have h5:xs.length=ys.length:=h5
 show eqU_side xs ys n i r
 unfold eqU_side
 simp only[decide_eq_true_eq,decide_eq_false_iff_not]
 have k0:∀ e:Nat,e<xs.length→eU.Ok (eU.els xs e):=fun e _=>eU.ok_els xs e
 have k1:∀ e:Nat,e<ys.length→eU.Ok (eU.els ys e):=fun e _=>eU.ok_els ys e
 clear hi
 repeat' (first | exact k0 | exact k1 | apply And.intro | intro _)
 all_goals omega
noncomputable def eqM_S (c:eqM_GC) (b:eqM_GB) (i:Int) (v:Many):Ex×eqM_GB:=bif !decide (v=c.2.1.getD i.toNat eM.dflt) then (.ret,false) else (.normal,b)
def eqM_K (c:eqM_GC) (b:eqM_GB) (i:Int):Prop:=c.1.length=c.2.1.length
abbrev eqM_I (g:eqM_G):List Prop:=ixI (fun c:eqM_GC=>c.2.2) (fun c:eqM_GC=>c.1) eqM_K (eqM_f g)
abbrev eqM_M (g:eqM_G):Nat:=ixM (fun c:eqM_GC=>c.2.2) (eqM_f g)
theorem eqM_P:ixP eqM_S (fun c:eqM_GC=>c.1) eqM_K:=fun _ _ _ _ h _ _=>h
noncomputable abbrev eqM_RR (g:eqM_G):Ex×eqM_G:=eqM_R g.1 g.2.1 g.2.2.1 g.2.2.2.1 g.2.2.2.2
theorem eqM_RF (d:Int×eqM_GC×eqM_GB) (hi:allP (ixI (fun c:eqM_GC=>c.2.2) (fun c:eqM_GC=>c.1) eqM_K d)):eqM_RR (eqM_g d)=((ixF 0 (fun c:eqM_GC=>c.2.2) (fun c:eqM_GC=>c.1) eM.dflt eqM_S d).1,eqM_g (ixF 0 (fun c:eqM_GC=>c.2.2) (fun c:eqM_GC=>c.1) eM.dflt eqM_S d).2):=by
 obtain ⟨i,⟨xs,ys,n⟩,r⟩:=d
 show eqM_R xs ys n i r=_
 unfold eqM_R ixF eqM_S
 simp only[El.ag_eq,conj_eM]
 cases decide (i<n) with
 | false=>rfl
 | true=>
  simp only[cond_true]
  generalize (!decide ((xs.getD i.toNat eM.dflt)=ys.getD i.toNat eM.dflt))=z
  cases z <;> rfl
theorem eqM_ok:∀ b∈loopsOf Tryd.prog 71,lkey b=4→LoopOk Tryd.prog b (eqM_C eqM_I eqM_M).g:=by
 refine eqM_loop eqM_I eqM_M (fun g hi=>?_) (ix_conj_goes (fun _=>rfl) (fun _=>rfl) eqM_RF eqM_P)
 obtain ⟨xs,ys,n,i,r⟩:=g
 obtain ⟨h1,h2,h3,h4,h5⟩:=hi _ (List.mem_cons_self ..)
 have h1:n=(xs.length:Int):=h1
 have h3:0≤i:=h3
 have h5:xs.length=ys.length:=h5
 show eqM_side xs ys n i r
 unfold eqM_side
 simp only[decide_eq_true_eq,decide_eq_false_iff_not]
 have k0:∀ e:Nat,e<xs.length→eM.Ok (eM.els xs e):=fun e _=>eM.ok_els xs e
 have k1:∀ e:Nat,e<ys.length→eM.Ok (eM.els ys e):=fun e _=>eM.ok_els ys e
 clear hi
 repeat' (first | exact k0 | exact k1 | apply And.intro | intro _)
 all_goals omega
theorem eqM_run (c:eqM_GC) (b:eqM_GB) (k1:c.2.2=((c.1).length:Int)) (k2:(c.1).length≤maxLen) (k3:eqM_K c b 0):loopF eqM_RR eqM_M (eqM_g (0,c,b))=((scan 0 (eqM_S c) 0 (c.1) b).1,eqM_g ((scan 0 (eqM_S c) 0 (c.1) b).2.1,c,(scan 0 (eqM_S c) 0 (c.1) b).2.2)):=ix_conj_run (φ:=eqM_f) (ψ:=eqM_g) (fun _=>rfl) (fun _=>rfl) eqM_RF eqM_P c b k1 k2 k3
noncomputable def eqR_S (c:eqR_GC) (b:eqR_GB) (i:Int) (v:Rec):Ex×eqR_GB:=bif !decide (v=c.2.1.getD i.toNat eR.dflt) then (.ret,false) else (.normal,b)
def eqR_K (c:eqR_GC) (b:eqR_GB) (i:Int):Prop:=c.1.length=c.2.1.length
abbrev eqR_I (g:eqR_G):List Prop:=ixI (fun c:eqR_GC=>c.2.2) (fun c:eqR_GC=>c.1) eqR_K (eqR_f g)
abbrev eqR_M (g:eqR_G):Nat:=ixM (fun c:eqR_GC=>c.2.2) (eqR_f g)
theorem eqR_P:ixP eqR_S (fun c:eqR_GC=>c.1) eqR_K:=fun _ _ _ _ h _ _=>h
noncomputable abbrev eqR_RR (g:eqR_G):Ex×eqR_G:=eqR_R g.1 g.2.1 g.2.2.1 g.2.2.2.1 g.2.2.2.2
theorem eqR_RF (d:Int×eqR_GC×eqR_GB) (hi:allP (ixI (fun c:eqR_GC=>c.2.2) (fun c:eqR_GC=>c.1) eqR_K d)):eqR_RR (eqR_g d)=((ixF 0 (fun c:eqR_GC=>c.2.2) (fun c:eqR_GC=>c.1) eR.dflt eqR_S d).1,eqR_g (ixF 0 (fun c:eqR_GC=>c.2.2) (fun c:eqR_GC=>c.1) eR.dflt eqR_S d).2):=by
 obtain ⟨i,⟨xs,ys,n⟩,r⟩:=d
 show eqR_R xs ys n i r=_
 unfold eqR_R ixF eqR_S
 simp only[El.ag_eq,conj_eR]
 cases decide (i<n) with
 | false=>rfl
 | true=>
  simp only[cond_true]
  generalize (!decide ((xs.getD i.toNat eR.dflt)=ys.getD i.toNat eR.dflt))=z
  cases z <;> rfl
theorem eqR_ok:∀ b∈loopsOf Tryd.prog 30,lkey b=4→LoopOk Tryd.prog b (eqR_C eqR_I eqR_M).g:=by
 refine eqR_loop eqR_I eqR_M (fun g hi=>?_) (ix_conj_goes (fun _=>rfl) (fun _=>rfl) eqR_RF eqR_P)
 obtain ⟨xs,ys,n,i,r⟩:=g
 obtain ⟨h1,h2,h3,h4,h5⟩:=hi _ (List.mem_cons_self ..)
 have h1:n=(xs.length:Int):=h1
 have h3:0≤i:=h3
 have h5:xs.length=ys.length:=h5
 show eqR_side xs ys n i r
 unfold eqR_side
 simp only[decide_eq_true_eq,decide_eq_false_iff_not]
 have k0:∀ e:Nat,e<xs.length→eR.Ok (eR.els xs e):=fun e _=>eR.ok_els xs e
 have k1:∀ e:Nat,e<ys.length→eR.Ok (eR.els ys e):=fun e _=>eR.ok_els ys e
 clear hi
 repeat' (first | exact k0 | exact k1 | apply And.intro | intro _)
 all_goals omega
noncomputable def ltM2:LTab Tryd.prog:=(((LTab.nil.cons 17 4 (eqU_C eqU_I eqU_M) eqU_ok).cons 71 4 (eqM_C eqM_I eqM_M) eqM_ok).cons 30 4 (eqR_C eqR_I eqR_M) eqR_ok)
noncomputable abbrev lamM2:Lam:=ltM2.lam
theorem lamM2_ok:∀ f k L,lamM2 f k=some L→∀ b∈loopsOf Tryd.prog f,lkey b=k→LoopOk Tryd.prog b L.g:=ltM2.ok
end Go.Proofs.YtmegbepjdololaaDoor

namespace Go.Proofs.YtmegbepjdololaaDoor
open Go.RowKit Go.Sx
set_option maxRecDepth 100000
set_option linter.unusedVariables false
abbrev aLMM:DA (List Many×List Many):=.cons dLM (.one dLM)
noncomputable def elM_q1 (a:List Many) (b:List Many):Ex ×
 eqM_G:=
 loopF (fun g=>eqM_R g.fst g.snd.fst g.snd.snd.fst g.snd.snd.snd.fst g.snd.snd.snd.snd) eqM_M (eM.ag a,eM.ag b,(↑a.length:Int),(0:Int),false)
noncomputable def elM_F (a:List Many) (b:List Many):Dv.T dBool:=
 bif (↑a.length:Int) != (↑b.length:Int) then false
 else bif exB Ex.ret (elM_q1 a b).fst then (elM_q1 a b).snd.snd.snd.snd.snd else true
def elM_side (a:List Many) (b:List Many):Prop:=
 ((↑a.length:Int) != (↑b.length:Int))=false→eM.okL a∧eM.okL b∧Lp.ixJ (fun c=>c.snd.snd) (fun c=>c.fst) eqM_K (eqM_f (eM.ag a,eM.ag b,(↑a.length:Int),(0:Int),false))
theorem elM_okS (pre:DA.T aLMM→List Prop) (h:∀ g,DA.bd aLMM g→(∀ p∈pre g,p)→elM_side g.1 g.2):FnPure Tryd.prog 71 aLMM dBool (fun g=>elM_F g.1 g.2) pre:=pure_of_sideS (Γ:=(PTab.gamz tabD2 [] [])) (Λ:=lamM2) (PTab.okz tabD2 [] []) lamM2_ok 100 default (fun g=>elM_side g.1 g.2) (fun g=>by kernel_rfl) (fun g=>by kernel_rfl) h
end Go.Proofs.YtmegbepjdololaaDoor

namespace Go.Proofs.YtmegbepjdololaaDoor
open Go.RowKit Go.Sx Go.Lp
theorem elM_ok:FnPure Tryd.prog 71 aLMM dBool (fun g=>decide (g.1=g.2)) (fun g=>[g.1.length≤KB]):=
 pure_congr (elM_okS _ fun g _ hp=>by
  obtain ⟨a,b⟩:=g
  have h:a.length≤KB:=hp _ (List.mem_cons_self ..)
  unfold KB at h
  show elM_side a b
  intro hl
  have hl:a.length=b.length:=by
   have:=bne_eq_false_iff_eq.1 hl
   omega
  rw[eM.okL_eq,eM.okL_eq,eM.ag_eq,eM.ag_eq]
  exact ⟨trivial,trivial,rfl,by show a.length≤maxLen;unfold maxLen;omega,Int.le_refl _,by show (0:Int)≤(a.length:Int);omega,hl⟩) fun g _ hp=>by
  obtain ⟨a,b⟩:=g
  have h:a.length≤KB:=hp _ (List.mem_cons_self ..)
  unfold KB at h
  show elM_F a b=decide (a=b)
  unfold elM_F
  by_cases hl:a.length=b.length
  ·have e0:((a.length:Int) != (b.length:Int))=false:=by rw[bne_eq_false_iff_eq];omega
   rw[e0,cond_false]
   have hrun:=eqM_run (a,b,(a.length:Int)) false rfl (by show a.length≤maxLen;unfold maxLen;omega) hl
   have hq:elM_q1 a b=loopF eqM_RR eqM_M (eqM_g (0,(a,b,(a.length:Int)),false)):=by
    unfold elM_q1
    rw[eM.ag_eq,eM.ag_eq]
    rfl
   rw[hq,hrun]
   rcases searchI (x:=0) (st:=eqM_S (a,b,(a.length:Int))) (p:=fun i v=>!decide (v=b.getD i.toNat eM.dflt)) (r:=fun _ _ _=>false) (fun b i a=>rfl) a false with ⟨n,v,h1,h2,hs⟩ | ⟨h1,hs⟩
   ·rw[hs]
    have hne:a≠b:=by
     rintro rfl
     simp[List.getD_eq_getElem?_getD,h1] at h2
    rw[decide_eq_false hne];rfl
   ·rw[hs]
    have he:a=b:=by
     refine List.ext_getElem? fun n=>?_
     by_cases hn:n<a.length
     ·have:=h1 n a[n] (by simp[hn])
      have hn':n<b.length:=by omega
      simp only[List.getD_eq_getElem?_getD,Int.toNat_natCast,List.getElem?_eq_getElem hn',Option.getD_some,Bool.not_eq_false',decide_eq_true_eq] at this
      rw[List.getElem?_eq_getElem hn,List.getElem?_eq_getElem hn',this]
     ·rw[List.getElem?_eq_none (by omega),List.getElem?_eq_none (by omega)]
    rw[decide_eq_true he];rfl
  ·have e0:((a.length:Int) != (b.length:Int))=true:=by rw[bne_iff_ne];omega
   have hne:a≠b:=fun h=>hl (by rw[h])
   rw[e0,cond_true,decide_eq_false hne]
end Go.Proofs.YtmegbepjdololaaDoor

namespace Go.Proofs.YtmegbepjdololaaDoor
open Go.RowKit Go.Sx
set_option maxRecDepth 100000
set_option linter.unusedVariables false
abbrev aLRR:DA (List Rec×List Rec):=.cons dLR (.one dLR)
abbrev sam_G:Type:=List Rec×List Rec×Int×Bool
noncomputable def sam_LP:LP 0 sam_G:=.pair (.slot 0 0 dLR) (.pair (.slot 0 1 dLR) (.pair (.slot 0 5 dI) (.slot 0 4 dBool)))
noncomputable def sam_R (xs:List Rec) (ys:List Rec) (i:Int) (r:Bool):Ex×sam_G:=
 bif decide (i<(↑xs.length:Int)) then bif !conj ([(xs.getD i.toNat eR.dflt).key==(ys.getD i.toNat eR.dflt).key]++([decide ((xs.getD i.toNat eR.dflt).text=(ys.getD i.toNat eR.dflt).text)]++[])) then (Ex.ret,eR.ag xs,eR.ag ys,i,false) else (Ex.normal,eR.ag xs,eR.ag ys,IntKind.i64.wrap (i+(1:Int)),r)
 else (Ex.exit (0:Nat),eR.ag xs,eR.ag ys,i,r)
def sam_side (xs:List Rec) (ys:List Rec) (i:Int) (r:Bool):Prop:=
 (decide (i<(↑xs.length:Int))=true→((0:Int)≤i∧i<(↑xs.length:Int))∧((0:Int)≤i∧i<(↑ys.length:Int))∧((!conj ([(xs.getD i.toNat eR.dflt).key==(ys.getD i.toNat eR.dflt).key]++([decide ((xs.getD i.toNat eR.dflt).text=(ys.getD i.toNat eR.dflt).text)]++[])))=true→eR.okL xs∧eR.okL ys)∧((!conj ([(xs.getD i.toNat eR.dflt).key==(ys.getD i.toNat eR.dflt).key]++([decide ((xs.getD i.toNat eR.dflt).text=(ys.getD i.toNat eR.dflt).text)]++[])))=false→eR.okL xs∧eR.okL ys))∧(decide (i<(↑xs.length:Int))=false→eR.okL xs∧eR.okL ys)
theorem sam_one:((loopsOf Tryd.prog 70).filter fun c=>Nat.beq (lkey c) 4).length=1:=by kernel_rfl
abbrev sam_GC:Type:=List Rec×List Rec
abbrev sam_GB:Type:=Bool
def sam_f (g:sam_G):Int×sam_GC×sam_GB:=(g.2.2.1,(g.1,g.2.1),g.2.2.2)
def sam_g (d:Int×sam_GC×sam_GB):sam_G:=(d.2.1.1,d.2.1.2,d.1,d.2.2)
theorem sam_es (g:sam_G):(sam_R g.1 g.2.1 g.2.2.1 g.2.2.2).1=.normal∨(sam_R g.1 g.2.1 g.2.2.1 g.2.2.2).1∈([.ret,.exit 0]:List Ex):=by
 unfold sam_R
 repeat' (first | (left;rfl) | (right;simp only[cond_true,cond_false];simp;done) | (rw[Bool.cond_eq_ite];split))
noncomputable abbrev sam_C (Inv:sam_G→List Prop) (m:sam_G→Nat):LCon:=loopR [.ret,.exit 0] (loopBody Tryd.prog 70 4) sam_LP [] 26 Inv (fun g=>sam_R g.1 g.2.1 g.2.2.1 g.2.2.2) m
theorem sam_loop (Inv:sam_G→List Prop) (m:sam_G→Nat) (hs:∀ g,allP (Inv g)→sam_side g.1 g.2.1 g.2.2.1 g.2.2.2) (hg:Goes (fun g:sam_G=>sam_R g.1 g.2.1 g.2.2.1 g.2.2.2) m fun g=>allP (Inv g)):∀ b∈loopsOf Tryd.prog 70,lkey b=4→LoopOk Tryd.prog b (sam_C Inv m).g:=loop_run (Γ:=(PTab.gamz tabD2 [] [])) (Λ:=noΛ) (PTab.okz tabD2 [] []) noΛ_ok 100 70 4 26 sam_LP [] Inv (fun g=>sam_R g.1 g.2.1 g.2.2.1 g.2.2.2) (fun g=>sam_side g.1 g.2.1 g.2.2.1 g.2.2.2) m default [.ret,.exit 0] sam_one (fun rd T B HL HB ds g=>by kernel_rfl) (fun rd T B HL HB ds g=>by kernel_rfl) hs hg sam_es
end Go.Proofs.YtmegbepjdololaaDoor

namespace Go.Proofs.YtmegbepjdololaaDoor
open Go.RowKit Go.Sx Go.Lp
set_option maxRecDepth 100000
theorem conj_R' (a b:Rec):conj ([a.key==b.key]++([decide (a.text=b.text)]++[]))=decide (a=b):=conj_R a b
noncomputable def sam_S (c:sam_GC) (b:sam_GB) (i:Int) (v:Rec):Ex×sam_GB:=bif !decide (v=c.2.getD i.toNat eR.dflt) then (.ret,false) else (.normal,b)
def sam_K (c:sam_GC) (b:sam_GB) (i:Int):Prop:=c.1.length=c.2.length
abbrev sam_I (g:sam_G):List Prop:=ixI (fun c:sam_GC=>(c.1.length:Int)) (fun c:sam_GC=>c.1) sam_K (sam_f g)
abbrev sam_M (g:sam_G):Nat:=ixM (fun c:sam_GC=>(c.1.length:Int)) (sam_f g)
theorem sam_P:ixP sam_S (fun c:sam_GC=>c.1) sam_K:=fun _ _ _ _ h _ _=>h
noncomputable abbrev sam_RR (g:sam_G):Ex×sam_G:=sam_R g.1 g.2.1 g.2.2.1 g.2.2.2
theorem sam_RF (d:Int×sam_GC×sam_GB) (hi:allP (ixI (fun c:sam_GC=>(c.1.length:Int)) (fun c:sam_GC=>c.1) sam_K d)):sam_RR (sam_g d)=((ixF 0 (fun c:sam_GC=>(c.1.length:Int)) (fun c:sam_GC=>c.1) eR.dflt sam_S d).1,sam_g (ixF 0 (fun c:sam_GC=>(c.1.length:Int)) (fun c:sam_GC=>c.1) eR.dflt sam_S d).2):=by
 obtain ⟨i,⟨xs,ys⟩,r⟩:=d
 show sam_R xs ys i r=_
 unfold sam_R ixF sam_S
 simp only[El.ag_eq,conj_R']
 cases decide (i<(xs.length:Int)) with
 | false=>rfl
 | true=>
  simp only[cond_true]
  generalize (!decide ((xs.getD i.toNat eR.dflt)=ys.getD i.toNat eR.dflt))=z
  cases z <;> rfl
theorem sam_ok:∀ b∈loopsOf Tryd.prog 70,lkey b=4→LoopOk Tryd.prog b (sam_C sam_I sam_M).g:=by
 refine sam_loop sam_I sam_M (fun g hi=>?_) (ix_conj_goes (fun _=>rfl) (fun _=>rfl) sam_RF sam_P)
 obtain ⟨xs,ys,i,r⟩:=g
 obtain ⟨h1,h2,h3,h4,h5⟩:=hi _ (List.mem_cons_self ..)
 have h1:(xs.length:Int)=(xs.length:Int):=h1
 have h3:0≤i:=h3
 have h5:xs.length=ys.length:=h5
 show sam_side xs ys i r
 unfold sam_side
 simp only[decide_eq_true_eq,decide_eq_false_iff_not]
 have k0:∀ e:Nat,e<xs.length→eR.Ok (eR.els xs e):=fun e _=>eR.ok_els xs e
 have k1:∀ e:Nat,e<ys.length→eR.Ok (eR.els ys e):=fun e _=>eR.ok_els ys e
 clear hi
 repeat' (first | exact k0 | exact k1 | apply And.intro | intro _)
 all_goals omega
theorem sam_run (c:sam_GC) (b:sam_GB) (k1:(c.1.length:Int)=((c.1).length:Int)) (k2:(c.1).length≤maxLen) (k3:sam_K c b 0):loopF sam_RR sam_M (sam_g (0,c,b))=((scan 0 (sam_S c) 0 (c.1) b).1,sam_g ((scan 0 (sam_S c) 0 (c.1) b).2.1,c,(scan 0 (sam_S c) 0 (c.1) b).2.2)):=ix_conj_run (φ:=sam_f) (ψ:=sam_g) (fun _=>rfl) (fun _=>rfl) sam_RF sam_P c b k1 k2 k3
noncomputable def ltE9:LTab Tryd.prog:=(LTab.nil.cons 70 4 (sam_C sam_I sam_M) sam_ok)
noncomputable abbrev lamE9:Lam:=ltE9.lam
theorem lamE9_ok:∀ f k L,lamE9 f k=some L→∀ b∈loopsOf Tryd.prog f,lkey b=k→LoopOk Tryd.prog b L.g:=ltE9.ok
end Go.Proofs.YtmegbepjdololaaDoor

namespace Go.Proofs.YtmegbepjdololaaDoor
open Go.RowKit Go.Sx
set_option maxRecDepth 100000
set_option linter.unusedVariables false
noncomputable def sme_q1 (a:List Rec) (b:List Rec):Ex ×
 sam_G:=
 loopF (fun g=>sam_R g.fst g.snd.fst g.snd.snd.fst g.snd.snd.snd) sam_M (eR.ag a,eR.ag b,(0:Int),false)
noncomputable def sme_F (a:List Rec) (b:List Rec):Dv.T dBool:=
 bif (↑a.length:Int) != (↑b.length:Int) then false
 else bif exB Ex.ret (sme_q1 a b).fst then (sme_q1 a b).snd.snd.snd.snd else true
def sme_side (a:List Rec) (b:List Rec):Prop:=
 ((↑a.length:Int) != (↑b.length:Int))=false→eR.okL a∧eR.okL b∧Lp.ixJ (fun c=>(↑c.fst.length:Int)) (fun c=>c.fst) sam_K (sam_f (eR.ag a,eR.ag b,(0:Int),false))
theorem sme_okS (pre:DA.T aLRR→List Prop) (h:∀ g,DA.bd aLRR g→(∀ p∈pre g,p)→sme_side g.1 g.2):FnPure Tryd.prog 70 aLRR dBool (fun g=>sme_F g.1 g.2) pre:=pure_of_sideS (Γ:=(PTab.gamz tabD2 [] [])) (Λ:=lamE9) (PTab.okz tabD2 [] []) lamE9_ok 100 default (fun g=>sme_side g.1 g.2) (fun g=>by kernel_rfl) (fun g=>by kernel_rfl) h
end Go.Proofs.YtmegbepjdololaaDoor

namespace Go.Proofs.YtmegbepjdololaaDoor
open Go.RowKit Go.Sx Go.Lp
theorem sme_ok:FnPure Tryd.prog 70 aLRR dBool (fun g=>decide (g.1=g.2)) (fun g=>[g.1.length≤KB]):=
 pure_congr (sme_okS _ fun g _ hp=>by
  obtain ⟨a,b⟩:=g
  have h:a.length≤KB:=hp _ (List.mem_cons_self ..)
  unfold KB at h
  show sme_side a b
  intro hl
  have hl:a.length=b.length:=by
   have:=bne_eq_false_iff_eq.1 hl
   omega
  rw[eR.okL_eq,eR.okL_eq,eR.ag_eq,eR.ag_eq]
  exact ⟨trivial,trivial,rfl,by show a.length≤maxLen;unfold maxLen;omega,Int.le_refl _,by show (0:Int)≤(a.length:Int);omega,hl⟩) fun g _ hp=>by
  obtain ⟨a,b⟩:=g
  have h:a.length≤KB:=hp _ (List.mem_cons_self ..)
  unfold KB at h
  show sme_F a b=decide (a=b)
  unfold sme_F
  by_cases hl:a.length=b.length
  ·have e0:((a.length:Int) != (b.length:Int))=false:=by rw[bne_eq_false_iff_eq];omega
   rw[e0,cond_false]
   have hrun:=sam_run (a,b) false rfl (by show a.length≤maxLen;unfold maxLen;omega) hl
   have hq:sme_q1 a b=loopF sam_RR sam_M (sam_g (0,(a,b),false)):=by
    unfold sme_q1
    rw[eR.ag_eq,eR.ag_eq]
    rfl
   rw[hq,hrun]
   rcases searchI (x:=0) (st:=sam_S (a,b)) (p:=fun i v=>!decide (v=b.getD i.toNat eR.dflt)) (r:=fun _ _ _=>false) (fun b i a=>rfl) a false with ⟨n,v,h1,h2,hs⟩ | ⟨h1,hs⟩
   ·rw[hs]
    have hne:a≠b:=by
     rintro rfl
     simp[List.getD_eq_getElem?_getD,h1] at h2
    rw[decide_eq_false hne];rfl
   ·rw[hs]
    have he:a=b:=by
     refine List.ext_getElem? fun n=>?_
     by_cases hn:n<a.length
     ·have:=h1 n a[n] (by simp[hn])
      have hn':n<b.length:=by omega
      simp only[List.getD_eq_getElem?_getD,Int.toNat_natCast,List.getElem?_eq_getElem hn',Option.getD_some,Bool.not_eq_false',decide_eq_true_eq] at this
      rw[List.getElem?_eq_getElem hn,List.getElem?_eq_getElem hn',this]
     ·rw[List.getElem?_eq_none (by omega),List.getElem?_eq_none (by omega)]
    rw[decide_eq_true he];rfl
  ·have e0:((a.length:Int) != (b.length:Int))=true:=by rw[bne_iff_ne];omega
   have hne:a≠b:=fun h=>hl (by rw[h])
   rw[e0,cond_true,decide_eq_false hne]
theorem single_cs {s:BA} (h:singleS s=true):∃ c,sc c∧toL s=encL c∧runes06 s=[(c:Int)]:=by
 have h1:=single_len h
 have hv:validS s=true:=by
  unfold singleS at h
  exact (Bool.and_eq_true_iff.1 h).2
 rw[r06_len] at h1
 obtain ⟨c,hc⟩:=List.length_eq_one_iff.1 h1
 refine ⟨c,rns_sc (toL s) c (by rw[hc];exact List.mem_cons_self ..),?_,?_⟩
 ·have:=valid_cs hv
  rw[hc] at this
  rw[this,encs_cons]
  show _++[]=_
  rw[List.append_nil]
 ·rw[runes06_cs,hc];rfl
theorem chk3 {f:Fn} (h:chkF 3 f=0):(11≤f.kind∧f.kind≤13)∧num_F f=true∧textF f=true:=by
 rcases chkF_zero h with ⟨h1,_⟩ | ⟨_,h2,h3,h4,h5⟩
 ·exact absurd h1 (by decide)
 ·exact ⟨⟨h2,h3⟩,h4,h5⟩
theorem flt_si (f:Fn) (r:Rec) (h:f.s.size≤KB):flt_side f r:=⟨h,fun hb=>by
 have hz:=both_zero hb
 have h64:=text_small hb
 exact ⟨fun hk=>by
  have:=num_mod (chk3 hz.1).2.1 (.inr (by simpa using hk))
  omega,fun _=>⟨fun _=>by unfold KS;omega,fun _=>by unfold KB;omega⟩⟩⟩
theorem flt_ok:FnPure Tryd.prog 65 aFR dBE (fun g=>flt_F g.1 g.2) (fun g=>[g.1.s.size≤KB]):=flt_okS _ fun g _ hp=>flt_si g.1 g.2 (hp _ (List.mem_cons_self ..))
theorem r05_pos {f:Fn} (h:singleS f.s=true):(0:Int)<((runes05 f.s).length:Int):=by
 have:=single_len h
 rw[runes_len];omega
theorem rfl_eq (f:Fn) (r:Rec):rfl_F f r=flt_F f r:=by
 unfold rfl_F flt_F
 cases hb:bothF (3:Int) f r != (0:Int) with
 | true=>rfl
 | false=>
  simp only[cond_false]
  cases h11:f.kind==(11:Int) with
  | true=>rfl
  | false=>
   simp only[cond_false]
   cases h12:f.kind==(12:Int) with
   | true=>
    simp only[cond_true]
    have hz:=both_zero hb
    have hk:f.kind=12:=by simpa using h12
    obtain ⟨c,hc,e1,e2⟩:=single_cs (text_single (chk3 hz.1).2.2 (.inl hk))
    have hv:=((chkR_iff r).1 hz.2).2
    have e3:((runes05 f.s).getD (0:Nat) eU.dflt).r=(c:Int):=by
     rw[r05_r0 f.s (by rw[e2];exact Nat.zero_lt_one),e2];rfl
    have e4:=valid_cs hv
    have e5:Lib.contains r.text.data.toList f.s.data.toList=decide (c∈rns (toL r.text)):=by
     show Lib.contains (toL r.text) (toL f.s)=_
     rw[e1,← has_enc hc (rns_sc (toL r.text)),← e4]
    rw[e3,eU.ag_eq,hasR_eq,e5]
   | false=>
    simp only[cond_false]
    rw[runes_len]
theorem rfl_si (f:Fn) (r:Rec) (h:f.s.size≤KB):rfl_side f r:=⟨h,fun hb=>by
 have hz:=both_zero hb
 have h64:=text_small hb
 exact ⟨by unfold KB;omega,fun hk=>by
  have:=num_mod (chk3 hz.1).2.1 (.inr (by simpa using hk))
  omega,fun _ hk=>⟨h,⟨Int.le_refl _,r05_pos (text_single (chk3 hz.1).2.2 (.inl (by simpa using hk)))⟩,by rw[eU.okL_eq];trivial,by
   rw[eU.ag_eq,runes_len,r06_len]
   have:=rns_len r.text
   rw[← r06_len]
   unfold KB;omega⟩⟩⟩
theorem rfl_ok:FnPure Tryd.prog 66 aFR dBE (fun g=>flt_F g.1 g.2) (fun g=>[g.1.s.size≤KB]):=pure_congr (rfl_okS _ fun g _ hp=>rfl_si g.1 g.2 (hp _ (List.mem_cons_self ..))) fun g _ _=>rfl_eq g.1 g.2
theorem puBE (r:Bool×Int):Pu (dBE.enc r):=pu_tup (pus_cons (pu_v _) (pus_cons (pu_v _) pus_nil))
noncomputable def tabE11:PTab Tryd.prog:=((tabD2.cons 65 (pconP aFR dBE (fun g=>flt_F g.1 g.2) (fun g=>[g.1.s.size≤KB])) (conP_ok flt_ok puBE)).cons 66 (pconP aFR dBE (fun g=>flt_F g.1 g.2) (fun g=>[g.1.s.size≤KB])) (conP_ok rfl_ok puBE)).cons 70 (pconP aLRR dBool (fun g=>decide (g.1=g.2)) (fun g=>[g.1.length≤KB])) (conP_ok sme_ok puB)
end Go.Proofs.YtmegbepjdololaaDoor

namespace Go.Proofs.YtmegbepjdololaaDoor
open Go.RowKit Go.Sx
set_option maxRecDepth 100000
set_option linter.unusedVariables false
end Go.Proofs.YtmegbepjdololaaDoor

namespace Go.Proofs.YtmegbepjdololaaDoor
open Go.RowKit Go.Sx Go.Lp
end Go.Proofs.YtmegbepjdololaaDoor

namespace Go.Proofs.YtmegbepjdololaaDoor
open Go.RowKit Go.Sx Go.Lp
structure Piece (f:Fn) (r p:Rec):Prop where
 key:p.key=r.key
 ne:p.text≠ByteArray.mk #[]
 part:∃ a u b:List Nat,rns (toL r.text)=a++u++b∧toL p.text=encs u∧(f.kind=22→∀ c:Nat,rune0 f.s=(c:Int)→c∉u)
end Go.Proofs.YtmegbepjdololaaDoor

namespace Go.Proofs.YtmegbepjdololaaDoor
open Go.RowKit Go.Sx
set_option maxRecDepth 100000
set_option linter.unusedVariables false
abbrev cor_G:Type:=List Int×Int×Int×Int×Int
noncomputable def cor_LP:LP 0 cor_G:=.pair (.slot 0 6 dLI) (.pair (.slot 0 7 dI) (.pair (.slot 0 3 dI) (.pair (.slot 0 8 dI) (.slot 0 2 dI))))
noncomputable def cor_R (xs:List Int) (n:Int) (z:Int) (i:Int) (r:Int):Ex×cor_G:=
 bif decide (i<n) then bif xs.getD i.toNat eI.dflt != z then (Ex.ret,eI.ag xs,n,z,i,xs.getD i.toNat eI.dflt) else (Ex.normal,eI.ag xs,n,z,IntKind.i64.wrap (i+(1:Int)),r)
 else (Ex.exit (0:Nat),eI.ag xs,n,z,i,r)
def cor_side (xs:List Int) (n:Int) (z:Int) (i:Int) (r:Int):Prop:=
 (decide (i<n)=true→((0:Int)≤i∧i<(↑xs.length:Int))∧((xs.getD i.toNat eI.dflt != z)=true→eI.okL xs)∧((xs.getD i.toNat eI.dflt != z)=false→eI.okL xs))∧(decide (i<n)=false→eI.okL xs)
theorem cor_one:((loopsOf Tryd.prog 89).filter fun c=>Nat.beq (lkey c) 3).length=1:=by kernel_rfl
abbrev cor_GC:Type:=List Int×Int×Int
abbrev cor_GB:Type:=Int
def cor_f (g:cor_G):Int×cor_GC×cor_GB:=(g.2.2.2.1,(g.1,g.2.1,g.2.2.1),g.2.2.2.2)
def cor_g (d:Int×cor_GC×cor_GB):cor_G:=(d.2.1.1,d.2.1.2.1,d.2.1.2.2,d.1,d.2.2)
theorem cor_es (g:cor_G):(cor_R g.1 g.2.1 g.2.2.1 g.2.2.2.1 g.2.2.2.2).1=.normal∨(cor_R g.1 g.2.1 g.2.2.1 g.2.2.2.1 g.2.2.2.2).1∈([.ret,.exit 0]:List Ex):=by
 unfold cor_R
 repeat' (first | (left;rfl) | (right;simp only[cond_true,cond_false];simp;done) | (rw[Bool.cond_eq_ite];split))
noncomputable abbrev cor_C (Inv:cor_G→List Prop) (m:cor_G→Nat):LCon:=loopR [.ret,.exit 0] (loopBody Tryd.prog 89 3) cor_LP [] 18 Inv (fun g=>cor_R g.1 g.2.1 g.2.2.1 g.2.2.2.1 g.2.2.2.2) m
theorem cor_loop (Inv:cor_G→List Prop) (m:cor_G→Nat) (hs:∀ g,allP (Inv g)→cor_side g.1 g.2.1 g.2.2.1 g.2.2.2.1 g.2.2.2.2) (hg:Goes (fun g:cor_G=>cor_R g.1 g.2.1 g.2.2.1 g.2.2.2.1 g.2.2.2.2) m fun g=>allP (Inv g)):∀ b∈loopsOf Tryd.prog 89,lkey b=3→LoopOk Tryd.prog b (cor_C Inv m).g:=loop_run (Γ:=(PTab.gamz tabE11 [] [])) (Λ:=noΛ) (PTab.okz tabE11 [] []) noΛ_ok 100 89 3 18 cor_LP [] Inv (fun g=>cor_R g.1 g.2.1 g.2.2.1 g.2.2.2.1 g.2.2.2.2) (fun g=>cor_side g.1 g.2.1 g.2.2.1 g.2.2.2.1 g.2.2.2.2) m default [.ret,.exit 0] cor_one (fun rd T B HL HB ds g=>by kernel_rfl) (fun rd T B HL HB ds g=>by kernel_rfl) hs hg cor_es
abbrev ixf_G:Type:=List Many×Unit×Int×Int×Int
noncomputable def ixf_LP:LP 0 ixf_G:=.pair (.slot 0 0 dLM) (.pair (.fix 0 1 (.fn 78 [])) (.pair (.slot 0 7 dI) (.pair (.slot 0 8 dI) (.slot 0 4 dI))))
noncomputable def ixf_R (xs:List Many) (_u:Unit) (n:Int) (i:Int) (r:Int):Ex×ixf_G:=
 bif decide (i<n) then bif chkR (xs.getD i.toNat eM.dflt).r != (0:Int) then (Ex.ret,eM.ag xs,(),n,i,i) else (Ex.normal,eM.ag xs,(),n,IntKind.i64.wrap (i+(1:Int)),r)
 else (Ex.exit (0:Nat),eM.ag xs,(),n,i,r)
def ixf_side (xs:List Many) (_u:Unit) (n:Int) (i:Int) (r:Int):Prop:=
 (decide (i<n)=true→((0:Int)≤i∧i<(↑xs.length:Int))∧((chkR (xs.getD i.toNat eM.dflt).r != (0:Int))=true→eM.okL xs)∧((chkR (xs.getD i.toNat eM.dflt).r != (0:Int))=false→eM.okL xs))∧(decide (i<n)=false→eM.okL xs)
theorem ixf_one:((loopsOf Tryd.prog 117).filter fun c=>Nat.beq (lkey c) 2).length=1:=by kernel_rfl
abbrev ixf_GC:Type:=List Many×Int
abbrev ixf_GB:Type:=Unit×Int
def ixf_f (g:ixf_G):Int×ixf_GC×ixf_GB:=(g.2.2.2.1,(g.1,g.2.2.1),(g.2.1,g.2.2.2.2))
def ixf_g (d:Int×ixf_GC×ixf_GB):ixf_G:=(d.2.1.1,d.2.2.1,d.2.1.2,d.1,d.2.2.2)
theorem ixf_es (g:ixf_G):(ixf_R g.1 g.2.1 g.2.2.1 g.2.2.2.1 g.2.2.2.2).1=.normal∨(ixf_R g.1 g.2.1 g.2.2.1 g.2.2.2.1 g.2.2.2.2).1∈([.ret,.exit 0]:List Ex):=by
 unfold ixf_R
 repeat' (first | (left;rfl) | (right;simp only[cond_true,cond_false];simp;done) | (rw[Bool.cond_eq_ite];split))
noncomputable abbrev ixf_C (Inv:ixf_G→List Prop) (m:ixf_G→Nat):LCon:=loopR [.ret,.exit 0] (loopBody Tryd.prog 117 2) ixf_LP [] 19 Inv (fun g=>ixf_R g.1 g.2.1 g.2.2.1 g.2.2.2.1 g.2.2.2.2) m
theorem ixf_loop (Inv:ixf_G→List Prop) (m:ixf_G→Nat) (hs:∀ g,allP (Inv g)→ixf_side g.1 g.2.1 g.2.2.1 g.2.2.2.1 g.2.2.2.2) (hg:Goes (fun g:ixf_G=>ixf_R g.1 g.2.1 g.2.2.1 g.2.2.2.1 g.2.2.2.2) m fun g=>allP (Inv g)):∀ b∈loopsOf Tryd.prog 117,lkey b=2→LoopOk Tryd.prog b (ixf_C Inv m).g:=loop_run (Γ:=(PTab.gamz tabE11 [] [])) (Λ:=noΛ) (PTab.okz tabE11 [] []) noΛ_ok 100 117 2 19 ixf_LP [] Inv (fun g=>ixf_R g.1 g.2.1 g.2.2.1 g.2.2.2.1 g.2.2.2.2) (fun g=>ixf_side g.1 g.2.1 g.2.2.1 g.2.2.2.1 g.2.2.2.2) m default [.ret,.exit 0] ixf_one (fun rd T B HL HB ds g=>by kernel_rfl) (fun rd T B HL HB ds g=>by kernel_rfl) hs hg ixf_es
noncomputable def rcm_F (a:Rec) (b:Rec):Dv.T dI:=
 bif decide (a.key<b.key) then (-1:Int)
 else bif decide (a.key > b.key) then (1:Int) else bif Op.bytesLess (ByteArray.toList a.text) (ByteArray.toList b.text) then (-1:Int) else bif !(Op.bytesLess (ByteArray.toList a.text) (ByteArray.toList b.text)||decide (a.text=b.text)) then (1:Int) else (0:Int)
theorem rcm_ok:FnPure Tryd.prog 48 aRR dI (fun g=>rcm_F g.1 g.2) (fun _=>[]):=pure_of_safe (Γ:=(PTab.gamz tabE11 [] [])) (Λ:=noΛ) (PTab.okz tabE11 [] []) noΛ_ok 100 default (fun g=>by kernel_rfl) (fun g=>by kernel_rfl)
noncomputable def tabG1:PTab Tryd.prog:=(tabE11).cons 48 (pconP aRR dI (fun g=>rcm_F g.1 g.2) (fun _=>[])) (conP_ok rcm_ok puI)
end Go.Proofs.YtmegbepjdololaaDoor

namespace Go.Proofs.YtmegbepjdololaaDoor
open Go.RowKit Go.Sx Go.Lp
set_option maxRecDepth 100000
noncomputable def cor_S (c:cor_GC) (b:cor_GB) (i:Int) (v:Int):Ex×cor_GB:=bif v != c.2.2 then (.ret,v) else (.normal,b)
def cor_K (c:cor_GC) (b:cor_GB) (i:Int):Prop:=True
abbrev cor_I (g:cor_G):List Prop:=ixI (fun c:cor_GC=>c.2.1) (fun c:cor_GC=>c.1) cor_K (cor_f g)
abbrev cor_M (g:cor_G):Nat:=ixM (fun c:cor_GC=>c.2.1) (cor_f g)
theorem cor_P:ixP cor_S (fun c:cor_GC=>c.1) cor_K:=fun _ _ _ _ h _ _=>h
noncomputable abbrev cor_RR (g:cor_G):Ex×cor_G:=cor_R g.1 g.2.1 g.2.2.1 g.2.2.2.1 g.2.2.2.2
theorem cor_RF (d:Int×cor_GC×cor_GB) (hi:allP (ixI (fun c:cor_GC=>c.2.1) (fun c:cor_GC=>c.1) cor_K d)):cor_RR (cor_g d)=((ixF 0 (fun c:cor_GC=>c.2.1) (fun c:cor_GC=>c.1) eI.dflt cor_S d).1,cor_g (ixF 0 (fun c:cor_GC=>c.2.1) (fun c:cor_GC=>c.1) eI.dflt cor_S d).2):=by
 obtain ⟨i,⟨xs,n,z⟩,r⟩:=d
 show cor_R xs n z i r=_
 unfold cor_R ixF cor_S
 simp only[El.ag_eq]
 cases decide (i<n) with
 | false=>rfl
 | true=>
  simp only[cond_true]
  generalize ((xs.getD i.toNat eI.dflt) != z)=z
  cases z <;> rfl
theorem cor_ok:∀ b∈loopsOf Tryd.prog 89,lkey b=3→LoopOk Tryd.prog b (cor_C cor_I cor_M).g:=by
 refine cor_loop cor_I cor_M (fun g hi=>?_) (ix_conj_goes (fun _=>rfl) (fun _=>rfl) cor_RF cor_P)
 obtain ⟨xs,n,z,i,r⟩:=g
 obtain ⟨h1,h2,h3,h4,h5⟩:=hi _ (List.mem_cons_self ..)
 have h1:n=(xs.length:Int):=h1
 have h3:0≤i:=h3
 have h5:True:=h5
 show cor_side xs n z i r
 unfold cor_side
 simp only[decide_eq_true_eq,decide_eq_false_iff_not]
 have k0:∀ e:Nat,e<xs.length→eI.Ok (eI.els xs e):=fun e _=>eI.ok_els xs e
 clear hi
 repeat' (first | exact k0 | apply And.intro | intro _)
 all_goals omega
theorem cor_run (c:cor_GC) (b:cor_GB) (k1:c.2.1=((c.1).length:Int)) (k2:(c.1).length≤maxLen) (k3:cor_K c b 0):loopF cor_RR cor_M (cor_g (0,c,b))=((scan 0 (cor_S c) 0 (c.1) b).1,cor_g ((scan 0 (cor_S c) 0 (c.1) b).2.1,c,(scan 0 (cor_S c) 0 (c.1) b).2.2)):=ix_conj_run (φ:=cor_f) (ψ:=cor_g) (fun _=>rfl) (fun _=>rfl) cor_RF cor_P c b k1 k2 k3
noncomputable def ixf_S (c:ixf_GC) (b:ixf_GB) (i:Int) (v:Many):Ex×ixf_GB:=bif chkR v.r != (0:Int) then (.ret,(),i) else (.normal,b.1,b.2)
def ixf_K (c:ixf_GC) (b:ixf_GB) (i:Int):Prop:=True
abbrev ixf_I (g:ixf_G):List Prop:=ixI (fun c:ixf_GC=>c.2) (fun c:ixf_GC=>c.1) ixf_K (ixf_f g)
abbrev ixf_M (g:ixf_G):Nat:=ixM (fun c:ixf_GC=>c.2) (ixf_f g)
theorem ixf_P:ixP ixf_S (fun c:ixf_GC=>c.1) ixf_K:=fun _ _ _ _ h _ _=>h
noncomputable abbrev ixf_RR (g:ixf_G):Ex×ixf_G:=ixf_R g.1 g.2.1 g.2.2.1 g.2.2.2.1 g.2.2.2.2
theorem ixf_RF (d:Int×ixf_GC×ixf_GB) (hi:allP (ixI (fun c:ixf_GC=>c.2) (fun c:ixf_GC=>c.1) ixf_K d)):ixf_RR (ixf_g d)=((ixF 0 (fun c:ixf_GC=>c.2) (fun c:ixf_GC=>c.1) eM.dflt ixf_S d).1,ixf_g (ixF 0 (fun c:ixf_GC=>c.2) (fun c:ixf_GC=>c.1) eM.dflt ixf_S d).2):=by
 obtain ⟨i,⟨xs,n⟩,⟨⟨⟩,r⟩⟩:=d
 show ixf_R xs () n i r=_
 unfold ixf_R ixF ixf_S
 simp only[El.ag_eq]
 cases decide (i<n) with
 | false=>rfl
 | true=>
  simp only[cond_true]
  generalize (chkR (xs.getD i.toNat eM.dflt).r != (0:Int))=z
  cases z <;> rfl
theorem ixf_ok:∀ b∈loopsOf Tryd.prog 117,lkey b=2→LoopOk Tryd.prog b (ixf_C ixf_I ixf_M).g:=by
 refine ixf_loop ixf_I ixf_M (fun g hi=>?_) (ix_conj_goes (fun _=>rfl) (fun _=>rfl) ixf_RF ixf_P)
 obtain ⟨xs,⟨⟩,n,i,r⟩:=g
 obtain ⟨h1,h2,h3,h4,h5⟩:=hi _ (List.mem_cons_self ..)
 have h1:n=(xs.length:Int):=h1
 have h3:0≤i:=h3
 have h5:True:=h5
 show ixf_side xs () n i r
 unfold ixf_side
 simp only[decide_eq_true_eq,decide_eq_false_iff_not]
 have k0:∀ e:Nat,e<xs.length→eM.Ok (eM.els xs e):=fun e _=>eM.ok_els xs e
 clear hi
 repeat' (first | exact k0 | apply And.intro | intro _)
 all_goals omega
theorem ixf_run (c:ixf_GC) (b:ixf_GB) (k1:c.2=((c.1).length:Int)) (k2:(c.1).length≤maxLen) (k3:ixf_K c b 0):loopF ixf_RR ixf_M (ixf_g (0,c,b))=((scan 0 (ixf_S c) 0 (c.1) b).1,ixf_g ((scan 0 (ixf_S c) 0 (c.1) b).2.1,c,(scan 0 (ixf_S c) 0 (c.1) b).2.2)):=ix_conj_run (φ:=ixf_f) (ψ:=ixf_g) (fun _=>rfl) (fun _=>rfl) ixf_RF ixf_P c b k1 k2 k3
noncomputable def ltG2:LTab Tryd.prog:=((LTab.nil.cons 89 3 (cor_C cor_I cor_M) cor_ok).cons 117 2 (ixf_C ixf_I ixf_M) ixf_ok)
noncomputable abbrev lamG2:Lam:=ltG2.lam
theorem lamG2_ok:∀ f k L,lamG2 f k=some L→∀ b∈loopsOf Tryd.prog f,lkey b=k→LoopOk Tryd.prog b L.g:=ltG2.ok
end Go.Proofs.YtmegbepjdololaaDoor

namespace Go.Proofs.YtmegbepjdololaaDoor
open Go.RowKit Go.Sx
set_option maxRecDepth 100000
set_option linter.unusedVariables false
abbrev aLI:DA (List Int):=.one dLI
noncomputable def coo_q1 (xs:List Int):Ex ×
 cor_G:=
 loopF (fun g=>cor_R g.fst g.snd.fst g.snd.snd.fst g.snd.snd.snd.fst g.snd.snd.snd.snd) cor_M (eI.ag xs,(↑xs.length:Int),(0:Int),(0:Int),(0:Int))
noncomputable def coo_F (xs:List Int):Dv.T dI:=
 bif exB Ex.ret (coo_q1 xs).fst then (coo_q1 xs).snd.snd.snd.snd.snd else (coo_q1 xs).snd.snd.snd.fst
def coo_side (xs:List Int):Prop:=
 eI.okL xs∧Lp.ixJ (fun c=>c.snd.fst) (fun c=>c.fst) cor_K (cor_f (eI.ag xs,(↑xs.length:Int),(0:Int),(0:Int),(0:Int)))
theorem coo_okS (pre:DA.T aLI→List Prop) (h:∀ g,DA.bd aLI g→(∀ p∈pre g,p)→coo_side g):FnPure Tryd.prog 89 aLI dI (fun g=>coo_F g) pre:=pure_of_sideS (Γ:=(PTab.gamz tabG1 [] [])) (Λ:=lamG2) (PTab.okz tabG1 [] []) lamG2_ok 100 default (fun g=>coo_side g) (fun g=>by kernel_rfl) (fun g=>by kernel_rfl) h
end Go.Proofs.YtmegbepjdololaaDoor

namespace Go.Proofs.YtmegbepjdololaaDoor
open Go.RowKit Go.Sx Go.Lp
@[irreducible] def orF (xs:List Int):Int:=(xs.find? (· != (0:Int))).getD 0
theorem coo_ok:FnPure Tryd.prog 89 aLI dI orF (fun g=>[g.length≤KB]):=
 pure_congr (coo_okS _ fun a _ hp=>by
  have h:a.length≤KB:=hp _ (List.mem_cons_self ..)
  unfold KB at h
  show coo_side a
  unfold coo_side
  rw[eI.okL_eq,eI.ag_eq]
  exact ⟨trivial,rfl,by show a.length≤maxLen;unfold maxLen;omega,Int.le_refl _,by show (0:Int)≤(a.length:Int);omega,trivial⟩) fun a _ hp=>by
  have h:a.length≤KB:=hp _ (List.mem_cons_self ..)
  unfold KB at h
  have hrun:=cor_run (a,(a.length:Int),0) 0 rfl (by show a.length≤maxLen;unfold maxLen;omega) trivial
  have hq:coo_q1 a=loopF cor_RR cor_M (cor_g (0,(a,(a.length:Int),0),0)):=by
   unfold coo_q1
   rw[eI.ag_eq]
   rfl
  show coo_F a=orF a
  unfold coo_F orF
  rw[hq,hrun]
  rcases scan_any (x:=0) (st:=cor_S (a,(a.length:Int),0)) (p:=fun v=>v != (0:Int)) (r:=fun v _=>v) (e:=.ret) (by intro h;cases h) (fun b i a=>rfl) a 0 0 with ⟨_,v,_,_,h3,h4,h5⟩ | ⟨h1,hs⟩
  ·rw[h3]
   show (bif exB Ex.ret (scan 0 (cor_S (a,(a.length:Int),0)) 0 a 0).1 then (scan 0 (cor_S (a,(a.length:Int),0)) 0 a 0).2.2 else _)=_
   rw[h4,h5]
   rfl
  ·rw[hs]
   have:a.find? (· != (0:Int))=none:=by
    rw[List.find?_eq_none]
    intro x hx hb
    have:a.any (fun v=>v != (0:Int))=true:=List.any_eq_true.2 ⟨x,hx,hb⟩
    rw[h1] at this
    cases this
   rw[this]
   rfl
abbrev aLIB:DA (List Int):=.one (.listB eI)
theorem coo_okB:FnPure Tryd.prog 89 aLIB dI orF (fun g=>[g.length≤KB]):=coo_ok
noncomputable def tabG4:PTab Tryd.prog:=(tabG1.cons 89 (pconP aLIB dI orF (fun g=>[g.length≤KB])) (conP_ok coo_okB puI))
end Go.Proofs.YtmegbepjdololaaDoor

namespace Go.Proofs.YtmegbepjdololaaDoor
open Go.RowKit Go.Sx
set_option maxRecDepth 100000
set_option linter.unusedVariables false
noncomputable def cmr_F (a:Rec) (b:Rec):Dv.T dI:=
 orF [cmp64_F a.key b.key,Lib.compareBytes a.text.data.toList b.text.data.toList]
def cmr_side (a:Rec) (b:Rec):Prop:=
 (2:Nat)≤KB
theorem cmr_okS (pre:DA.T aRR→List Prop) (h:∀ g,DA.bd aRR g→(∀ p∈pre g,p)→cmr_side g.1 g.2):FnPure Tryd.prog 47 aRR dI (fun g=>cmr_F g.1 g.2) pre:=pure_of_sideS (Γ:=(PTab.gamz tabG4 [] [])) (Λ:=noΛ) (PTab.okz tabG4 [] []) noΛ_ok 100 default (fun g=>cmr_side g.1 g.2) (fun g=>by kernel_rfl) (fun g=>by kernel_rfl) h
end Go.Proofs.YtmegbepjdololaaDoor

namespace Go.Proofs.YtmegbepjdololaaDoor
open Go.RowKit Go.Sx Go.Lp
theorem bl_eq:∀ (x y:List UInt8),Op.bytesLess x y=decide (x<y)
 | [],[]=>by simp[Op.bytesLess]
 | _ :: _,[]=>by simp[Op.bytesLess]
 | [],_ :: _=>by simp[Op.bytesLess]
 | a :: x,b :: y=>by
  rw[Op.bytesLess,bl_eq x y]
  simp only[List.cons_lt_cons_iff]
  by_cases h1:a<b <;> by_cases h2:a=b <;> by_cases h3:x<y <;> simp[h1,h2,h3]
theorem cb_eq:∀ (x y:List UInt8),Lib.compareBytes x y=if x<y then -1 else if x=y then 0 else 1
 | [],[]=>by simp[Lib.compareBytes]
 | _ :: _,[]=>by simp[Lib.compareBytes]
 | [],_ :: _=>by simp[Lib.compareBytes]
 | a :: x,b :: y=>by
  rw[Lib.compareBytes,cb_eq x y]
  simp only[List.cons_lt_cons_iff,List.cons.injEq]
  by_cases h1:a<b
  ·simp[h1]
  ·by_cases h2:b<a
   ·have h3:a≠b:=fun h=>by subst h;exact h1 h2
    simp[h1,h2,h3]
   ·have h3:a=b:=UInt8.le_antisymm (UInt8.not_lt.1 h2) (UInt8.not_lt.1 h1)
    subst h3
    simp[h1]
def tlt (a b:BA):Prop:=toL a<toL b
instance (a b:BA):Decidable (tlt a b):=inferInstanceAs (Decidable (toL a<toL b))
theorem tlt_irrefl (a:BA):¬ tlt a a:=List.lt_irrefl _
theorem tlt_trans {a b c:BA} (h:tlt a b) (h':tlt b c):tlt a c:=List.lt_trans h h'
theorem bl_tlt (a b:BA):Op.bytesLess (ByteArray.toList a) (ByteArray.toList b)=decide (tlt a b):=by
 rw[bl_eq,Lib.toList_data,Lib.toList_data]
 rfl
def rlt (a b:Rec):Prop:=a.key<b.key∨(a.key=b.key∧tlt a.text b.text)
instance (a b:Rec):Decidable (rlt a b):=inferInstanceAs (Decidable (_∨_))
def cmpR (a b:Rec):Int:=if rlt a b then -1 else if a=b then 0 else 1
theorem rec_ext' {a b:Rec} (h1:a.key=b.key) (h2:a.text=b.text):a=b:=by
 obtain ⟨k,t⟩:=a
 obtain ⟨k',t'⟩:=b
 simp only at h1 h2
 rw[h1,h2]
theorem cmpR_lt {a b:Rec} (h:rlt a b):cmpR a b=-1:=by unfold cmpR;rw[if_pos h]
theorem cmpR_same {a b:Rec} (h:¬ rlt a b) (h':a=b):cmpR a b=0:=by unfold cmpR;rw[if_neg h,if_pos h']
theorem cmpR_gt {a b:Rec} (h:¬ rlt a b) (h':a≠b):cmpR a b=1:=by unfold cmpR;rw[if_neg h,if_neg h']
theorem rlt_no {a b:Rec} (h:¬ a.key<b.key) (h':a.key=b.key→¬ tlt a.text b.text):¬ rlt a b:=by
 rintro (h1 | ⟨h1,h2⟩)
 ·exact h h1
 ·exact h' h1 h2
theorem rcm_eq (a b:Rec):rcm_F a b=cmpR a b:=by
 unfold rcm_F
 rw[bl_tlt]
 by_cases h1:a.key<b.key
 ·rw[decide_eq_true h1,cond_true,cmpR_lt (.inl h1)]
 rw[decide_eq_false h1,cond_false]
 by_cases h2:a.key > b.key
 ·have h3:a≠b:=fun h=>by subst h;omega
  rw[decide_eq_true h2,cond_true,cmpR_gt (rlt_no h1 fun h=>by omega) h3]
 have hk:a.key=b.key:=by omega
 rw[decide_eq_false h2,cond_false]
 by_cases h3:tlt a.text b.text
 ·rw[decide_eq_true h3,cond_true,cmpR_lt (.inr ⟨hk,h3⟩)]
 rw[decide_eq_false h3,cond_false,Bool.false_or]
 by_cases h4:a.text=b.text
 ·rw[decide_eq_true h4,cmpR_same (rlt_no h1 fun _=>h3) (rec_ext' hk h4)];rfl
 ·rw[decide_eq_false h4,cmpR_gt (rlt_no h1 fun _=>h3) (fun h=>h4 (by rw[h]))];rfl
theorem toL_iff (a b:BA):toL a=toL b↔a=b:=⟨toL_inj,fun h=>by rw[h]⟩
theorem orF_two (a b:Int):orF [a,b]=if a≠0 then a else b:=by
 unfold orF
 by_cases h:a=0
 ·subst h
  by_cases h':b=0
  ·subst h';rfl
  ·have e:(b != (0:Int))=true:=bne_iff_ne.2 h'
   simp[List.find?,e]
 ·have e:(a != (0:Int))=true:=bne_iff_ne.2 h
  simp[List.find?,e,h]
theorem cmr_eq (a b:Rec):cmr_F a b=cmpR a b:=by
 unfold cmr_F
 have e:Lib.compareBytes a.text.data.toList b.text.data.toList=if tlt a.text b.text then -1 else if a.text=b.text then 0 else 1:=by
  rw[cb_eq]
  show (if toL a.text<toL b.text then (-1:Int) else if toL a.text=toL b.text then 0 else 1)=_
  simp only[toL_iff]
  rfl
 have e2:cmp64_F a.key b.key=if a.key<b.key then -1 else if a.key > b.key then 1 else 0:=by
  unfold cmp64_F
  simp only[bne_self_eq_false,cond_false,Bool.cond_eq_ite,decide_eq_true_eq,Bool.false_eq_true,if_false]
 rw[e,e2,orF_two]
 by_cases h1:a.key<b.key
 ·rw[if_pos h1,if_pos (by decide),cmpR_lt (.inl h1)]
 by_cases h2:a.key > b.key
 ·have h3:a≠b:=fun h=>by subst h;omega
  rw[if_neg h1,if_pos h2,if_pos (by decide),cmpR_gt (rlt_no h1 fun h=>by omega) h3]
 have hk:a.key=b.key:=by omega
 rw[if_neg h1,if_neg h2,if_neg (by decide)]
 by_cases h3:tlt a.text b.text
 ·rw[if_pos h3,cmpR_lt (.inr ⟨hk,h3⟩)]
 rw[if_neg h3]
 by_cases h4:a.text=b.text
 ·rw[if_pos h4,cmpR_same (rlt_no h1 fun _=>h3) (rec_ext' hk h4)]
 ·rw[if_neg h4,cmpR_gt (rlt_no h1 fun _=>h3) (fun h=>h4 (by rw[h]))]
theorem cmr_ok:FnPure Tryd.prog 47 aRR dI (fun g=>cmpR g.1 g.2) (fun _=>[]):=
 pure_congr (cmr_okS _ fun _ _ _=>by show 2≤KB;unfold KB;omega) fun g _ _=>cmr_eq g.1 g.2
theorem rcm_ok':FnPure Tryd.prog 48 aRR dI (fun g=>cmpR g.1 g.2) (fun _=>[]):=
 pure_congr rcm_ok fun g _ _=>rcm_eq g.1 g.2
noncomputable def tabG6:PTab Tryd.prog:=(tabE11.cons 47 (pconP aRR dI (fun g=>cmpR g.1 g.2) (fun _=>[])) (conP_ok cmr_ok puI)).cons 48 (pconP aRR dI (fun g=>cmpR g.1 g.2) (fun _=>[])) (conP_ok rcm_ok' puI)
end Go.Proofs.YtmegbepjdololaaDoor
