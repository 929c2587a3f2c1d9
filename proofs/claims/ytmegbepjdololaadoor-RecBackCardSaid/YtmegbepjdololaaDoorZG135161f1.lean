/- Chapter 5: texts as records: contracts. -/
import Derived.Test.YtmegbepjdololaaDoorZG123efcc7
import Derived.Test.YtmegbepjdololaaDoorZG111e46bb
import Derived.Test.YtmegbepjdololaaDoorZG0678006a
import Derived.Test.YtmegbepjdololaaDoorZG0703b2f7
set_option linter.unusedVariables false
set_option linter.unusedSimpArgs false
set_option linter.constructorNameAsVariable false
set_option linter.all false

namespace Go.Proofs.YtmegbepjdololaaDoor
open Go.RowKit Go.Sx Go.Lp
set_option maxRecDepth 100000
def colon (l:List Int):Nat:=l.findIdx fun c=>decide (c=58)
theorem colon_le (l:List Int):colon l≤l.length:=List.findIdx_le_length
def errR:Rec×Int:=(Rec.mk 0 (ByteArray.mk #[]),50)
def makeR (s:BA) (n:Int) (b:List Int):Rec×Int:=bif chkR (Rec.mk n (strOf b)) != 0||!decide (textS (Rec.mk n (strOf b))=s) then errR else (Rec.mk n (strOf b),0)
def parseR (s:BA):Rec×Int:=
 bif decide (s.size≤colon (bts s))||!(parseN (s.extract 0 (colon (bts s)))).2 then errR else
 match unescF (s.size - (colon (bts s)+1)) ((bts s).drop (colon (bts s)+1)) [] with
 | none=>errR
 | some b=>makeR s (parseN (s.extract 0 (colon (bts s)))).1 b
theorem parseN_i64 (s:BA):i64 (parseN s).1:=by
 unfold parseN
 cases numOk (bts s) with
 | false=>
  show i64 0
  exact ⟨by decide,by decide⟩
 | true=>
  show i64 (numV (bts s))
  rw[numV_eq]
  cases decide ((bts s).head?=some 45) <;> exact wrap_i64 _
theorem colon_some {s:BA} {o:Nat} (h:Lib.indexByte s.data.toList 58=o):colon (bts s)=o∧o<s.size:=by
 obtain ⟨h1,h2⟩:=Lib.indexByte_some h
 have hlt:o<s.data.toList.length:=(List.getElem?_eq_some_iff.1 h1).1
 have hl:s.data.toList.length=s.size:=by rw[← bts_len];unfold bts;rw[List.length_map]
 refine ⟨?_,by omega⟩
 unfold colon
 have hb:∀ k,k<(bts s).length→(bts s)[k]?=(s.data.toList[k]?).map fun x=>(x.toNat:Int):=fun k _=>by unfold bts;rw[List.getElem?_map]
 have hlt':o<(bts s).length:=by rw[bts_len];omega
 rw[List.findIdx_eq hlt']
 refine ⟨?_,fun j hj=>?_⟩
 ·have:=hb o hlt'
  rw[h1,List.getElem?_eq_getElem hlt'] at this
  simp only[Option.map_some,Option.some.injEq] at this
  rw[this];decide
 ·have hj':j<(bts s).length:=by omega
  have:=hb j hj'
  have hj2:j<s.data.toList.length:=by omega
  rw[List.getElem?_eq_getElem hj',List.getElem?_eq_getElem hj2] at this
  simp only[Option.map_some,Option.some.injEq] at this
  rw[this]
  have h3:=h2 j hj
  rw[List.getElem?_eq_getElem hj2] at h3
  rw[decide_eq_false_iff_not]
  intro h4
  apply h3
  congr 1
  apply UInt8.toNat_inj.1
  show _=58
  omega
theorem colon_none {s:BA} (h:Lib.indexByte s.data.toList 58=-1):colon (bts s)=s.size:=by
 have h1:=Lib.indexByte_none h
 unfold colon
 rw[← bts_len,List.findIdx_eq_length]
 intro x hx
 obtain ⟨y,hy,rfl⟩:=List.mem_map.1 hx
 rw[decide_eq_false_iff_not]
 intro h4
 obtain ⟨k,hk⟩:=List.getElem?_of_mem hy
 apply h1 k
 rw[hk]
 congr 1
 apply UInt8.toNat_inj.1
 show _=58
 omega
theorem cut58 (s:BA):(Lib.cut s.data.toList #[(58:UInt8)].toList).2.2=!decide (s.size≤colon (bts s))∧(ByteArray.mk (Lib.cut s.data.toList #[(58:UInt8)].toList).1.toArray)=s.extract 0 (colon (bts s)) ∧
  (colon (bts s)<s.size→bts (ByteArray.mk (Lib.cut s.data.toList #[(58:UInt8)].toList).2.1.toArray)=(bts s).drop (colon (bts s)+1)):=by
 have hio:Lib.index s.data.toList #[(58:UInt8)].toList=Lib.indexByte s.data.toList 58:=Lib.index_one _ _
 have hge:=Lib.indexByte_ge s.data.toList 58
 have hl:s.data.toList.length=s.size:=by rw[← bts_len];unfold bts;rw[List.length_map]
 have hx:∀ l:List UInt8,(ByteArray.mk l.toArray).data.toList=l:=fun l=>by simp
 unfold Lib.cut
 rw[hio]
 by_cases h:0≤Lib.indexByte s.data.toList 58
 ·obtain ⟨o,ho⟩:∃ o:Nat,Lib.indexByte s.data.toList 58=o:=⟨(Lib.indexByte s.data.toList 58).toNat,by omega⟩
  obtain ⟨h1,h2⟩:=colon_some ho
  rw[if_pos h,ho,h1]
  refine ⟨?_,?_,fun _=>?_⟩
  ·show true=_
   rw[decide_eq_false (by omega)];rfl
  ·apply ba_inj
   rw[hx,ba_ext]
   rfl
  ·show ((s.data.toList.drop (o+1)).map _)=_
   unfold bts
   rw[List.map_drop]
 ·have h1:=colon_none (s:=s) (by omega)
  rw[if_neg h,h1]
  refine ⟨?_,?_,fun h=>by omega⟩
  ·show false=_
   rw[decide_eq_true (Nat.le_refl _)];rfl
  ·apply ba_inj
   rw[hx,ba_ext,List.take_of_length_le (by omega)]
   rfl
theorem prA_eq (s:BA) (hs:s.size≤KS):prA_side s∧prA_F s=parseR s:=by
 obtain ⟨c1,c2,c3⟩:=cut58 s
 have hKB:s.size≤KB:=Nat.le_trans hs (by decide)
 unfold prA_side prA_F parseR
 rw[c1,c2,Bool.not_not]
 have hex:(s.extract 0 (colon (bts s))).size≤KB:=by rw[ByteArray.size_extract];omega
 cases hc:decide (s.size≤colon (bts s))||!(parseN (s.extract 0 (colon (bts s)))).2 with
 | true=>exact ⟨⟨hs,hex,fun h=>(by cases h)⟩,rfl⟩
 | false=>
  have hlt:colon (bts s)<s.size:=by
   rw[Bool.or_eq_false_iff] at hc
   have:=of_decide_eq_false hc.1
   omega
  have h3:=c3 hlt
  have hsz:(ByteArray.mk (Lib.cut s.data.toList #[(58:UInt8)].toList).2.1.toArray).size=s.size - (colon (bts s)+1):=by
   rw[← bts_len,h3,List.length_drop,bts_len]
  have hP:ps_P (ByteArray.mk (Lib.cut s.data.toList #[(58:UInt8)].toList).2.1.toArray) []:=by
   show 0+(ByteArray.mk (Lib.cut s.data.toList #[(58:UInt8)].toList).2.1.toArray).size≤KB
   omega
  have hr:=ps_run (Rec.mk 0 (ByteArray.mk #[])) _ [] 0 hP
  have hq:prA_q1 s=loopF ps_RR ps_M ((),Rec.mk 0 (ByteArray.mk #[]),ByteArray.mk (Lib.cut s.data.toList #[(58:UInt8)].toList).2.1.toArray,[],0):=rfl
  rw[← hq,h3,hsz] at hr
  rcases hr with ⟨b,e1,e2,e3,e4,e5⟩ | ⟨e1,e2,e3,e4⟩
  ·rw[e1,e2,e4,ints_lst]
   refine ⟨⟨hs,hex,fun _=>⟨hP,fun _=>⟨⟨Nat.le_refl _,fun e _=>e8u.one_els _ e⟩,fun e _=>rfl,fun _=>parseN_i64 _⟩⟩⟩,?_⟩
   rfl
  ·rw[e1,e2,e3,e4]
   exact ⟨⟨hs,hex,fun _=>⟨hP,fun h=>(by cases h)⟩⟩,rfl⟩
theorem prA_ok:FnPure Tryd.prog 41 aB dRE parseR (fun s=>[s.size≤KS]):=
 pure_congr (prA_okS _ fun r _ hp=>(prA_eq r (hp _ (List.mem_cons_self ..))).1) fun r _ hp=>(prA_eq r (hp _ (List.mem_cons_self ..))).2
theorem rc_run (s:BA) (h:s.size≤KB):(loopF rc_RR rc_M (s,0)).2.1=s∧(loopF rc_RR rc_M (s,0)).2.2=(colon (bts s):Int):=by
 have key:=loopF_induct rc_goes (Q:=fun g r=>r.2.1=g.1∧(g.2.toNat≤colon (bts g.1)→r.2.2=(colon (bts g.1):Int))) ?_ ?_ (s,0) (fun p hp=>by rw[List.mem_singleton.1 hp];exact ⟨h,Int.le_refl _,by show (0:Int)≤(s.size:Int);omega⟩)
 ·exact ⟨key.1,key.2 (Nat.zero_le _)⟩
 ·rintro ⟨s,i⟩ hi hn
  have h:rc_P s i:=hi _ (List.mem_cons_self ..)
  have e:rc_RR (s,i)=_:=rc_RF s i h
  rw[e] at hn ⊢
  split at hn
  ·exact absurd rfl hn
  ·rename_i hc
   rw[if_neg hc]
   refine ⟨rfl,fun hle=>?_⟩
   have hcl:=colon_le (bts s)
   rw[bts_len] at hcl
   have h2:=h.2.1
   have h3:=h.2.2
   have hle:i.toNat≤colon (bts s):=hle
   show i=(colon (bts s):Int)
   by_cases hlt:i<(s.size:Int)
   ·have hv:(bts s).getD i.toNat 0=58:=by
     rcases Classical.em ((bts s).getD i.toNat 0=58) with h | h
     ·exact h
     ·exact absurd ⟨hlt,h⟩ hc
    have hl:i.toNat<(bts s).length:=by rw[bts_len];omega
    rw[List.getD_eq_getElem?_getD,List.getElem?_eq_getElem hl] at hv
    have:colon (bts s)≤i.toNat:=Nat.not_lt.1 fun hlt'=>by
     have:=List.not_of_lt_findIdx hlt'
     exact absurd hv (of_decide_eq_false this)
    omega
   ·omega
 ·rintro ⟨s,i⟩ g' r hi he _ _ hq
  have h:rc_P s i:=hi _ (List.mem_cons_self ..)
  have e:rc_RR (s,i)=_:=rc_RF s i h
  rw[e] at he
  split at he
  ·rename_i hc
   simp only[Prod.mk.injEq,true_and] at he
   subst he
   refine ⟨hq.1,fun hle=>hq.2 ?_⟩
   have h2:=h.2.1
   have hle:i.toNat≤colon (bts s):=hle
   show (i+1).toNat≤colon (bts s)
   have hne:i.toNat≠colon (bts s):=fun heq=>by
    have hl:colon (bts s)<(bts s).length:=by rw[bts_len];omega
    have hg:decide ((bts s)[colon (bts s)]=58)=true:=List.findIdx_getElem (w:=hl)
    apply hc.2
    rw[List.getD_eq_getElem?_getD,heq,List.getElem?_eq_getElem hl]
    exact of_decide_eq_true hg
   omega
  ·cases he
theorem textS_size (r:Rec) (h:i64 r.key):(textS r).size≤213:=by
 unfold textS
 cases hc:(chkR r != (0:Int)) with
 | true=>
  show 0≤213
  omega
 | false=>
  have h64:=chkR_le hc
  have hn:=(numL_len h).2
  have he:=escL_len (bts r.text)
  rw[bts_len] at he
  rw[cond_false,strOf_size,List.length_append,List.length_cons]
  omega
theorem makeR_long (s:BA) (h:s.size > 300) (n:Int) (hn:i64 n) (b:List Int):makeR s n b=errR:=by
 unfold makeR
 rw[decide_eq_false (fun he=>by have:=textS_size (Rec.mk n (strOf b)) hn;rw[he] at this;omega),Bool.not_false,Bool.or_true]
 rfl
theorem parseR_long (s:BA) (h:s.size > 300):parseR s=errR:=by
 unfold parseR
 cases decide (s.size≤colon (bts s))||!(parseN (s.extract 0 (colon (bts s)))).2 with
 | true=>rfl
 | false=>
  rw[cond_false]
  split
  ·rfl
  ·exact makeR_long s h _ (parseN_i64 _) _
theorem prB_eq (s:BA) (hs:s.size≤KS):prB_side s∧prB_F s=parseR s:=by
 have hKB:s.size≤KB:=Nat.le_trans hs (by decide)
 have hKB':=hKB
 unfold KB at hKB'
 obtain ⟨r1,r2⟩:=rc_run s hKB
 have hq:prB_q1 s=loopF rc_RR rc_M (s,0):=rfl
 rw[← hq] at r1 r2
 have hcl:=colon_le (bts s)
 rw[bts_len] at hcl
 have hex:(s.extract 0 (colon (bts s))).size≤KB:=by rw[ByteArray.size_extract];omega
 have hc0:rc_P s 0:=⟨hKB,Int.le_refl _,by omega⟩
 unfold prB_side prB_F
 rw[r1,r2]
 have e0:((colon (bts s):Int)).toNat=colon (bts s):=rfl
 rw[e0]
 cases hc:((colon (bts s):Int)==(s.size:Int)||decide ((s.size:Int) > 300)) with
 | true=>
  refine ⟨⟨hc0,fun h=>(by cases h)⟩,?_⟩
  rw[cond_true]
  rcases Bool.or_eq_true_iff.1 hc with hc | hc
  ·have:(colon (bts s):Int)=(s.size:Int):=by simpa using hc
   unfold parseR
   rw[decide_eq_true (by omega:s.size≤colon (bts s)),Bool.true_or];rfl
  ·have:=of_decide_eq_true hc
   rw[parseR_long s (by omega)];rfl
 | false=>
  rw[Bool.or_eq_false_iff] at hc
  have h1:¬ (colon (bts s):Int)=(s.size:Int):=by simpa using hc.1
  have h2:=of_decide_eq_false hc.2
  have hlt:colon (bts s)<s.size:=by omega
  have hw:IntKind.i64.wrap ((colon (bts s):Int)+1)=((colon (bts s)+1:Nat):Int):=by rw[wr64 (by omega)];omega
  have hP:rp_P s ((colon (bts s)+1:Nat):Int) []:=⟨hKB,by omega,by omega,by show (0:Int)≤_;omega⟩
  have hr:=rp_run (Rec.mk 0 (ByteArray.mk #[])) s ((colon (bts s)+1:Nat):Int) [] 0 hP
  have hq2:prB_q2 s=loopF rp_RR rp_M ((),Rec.mk 0 (ByteArray.mk #[]),s,((colon (bts s)+1:Nat):Int),[],0):=by
   unfold prB_q2
   rw[r1,r2,hw]
  rw[← hq2,show (((colon (bts s)+1:Nat):Int)).toNat=colon (bts s)+1 from rfl] at hr
  unfold parseR
  rw[hw,cond_false,decide_eq_false (by omega:¬ s.size≤colon (bts s)),Bool.false_or]
  rcases hr with ⟨b,e1,e2,e3,e4,e5,e6⟩ | ⟨e1,e2,e3,e4⟩
  ·rw[e1,e2,e4,e5,ints_lst]
   refine ⟨⟨hc0,fun _=>⟨⟨by omega,by omega⟩,hex,hP,fun _=>⟨⟨Nat.le_refl _,fun e _=>e8u.one_els _ e⟩,fun e _=>rfl,fun _ _=>parseN_i64 _⟩⟩⟩,?_⟩
   unfold makeR
   cases (parseN (s.extract 0 (colon (bts s)))).2 <;> rfl
  ·rw[e1,e2,e3,e4]
   refine ⟨⟨hc0,fun _=>⟨⟨by omega,by omega⟩,hex,hP,fun h=>(by cases h)⟩⟩,?_⟩
   cases (parseN (s.extract 0 (colon (bts s)))).2 <;> rfl
theorem prB_ok:FnPure Tryd.prog 42 aB dRE parseR (fun s=>[s.size≤KS]):=
 pure_congr (prB_okS _ fun r _ hp=>(prB_eq r (hp _ (List.mem_cons_self ..))).1) fun r _ hp=>(prB_eq r (hp _ (List.mem_cons_self ..))).2
noncomputable def tabN14:PTab Tryd.prog:=(tabN10.cons 41 (pconP aB dRE parseR (fun s=>[s.size≤KS])) (conP_ok prA_ok puRE)).cons 42 (pconP aB dRE parseR (fun s=>[s.size≤KS])) (conP_ok prB_ok puRE)
end Go.Proofs.YtmegbepjdololaaDoor

namespace Go.Proofs.YtmegbepjdololaaDoor
open Go.RowKit Go.Sx Go.Lp
abbrev lvA:Rec:=Rec.mk (1:Int) (ByteArray.mk #[97])
abbrev lvB:Rec:=Rec.mk (2:Int) (ByteArray.mk #[98])
abbrev lvL:List Rec:=[lvB,lvA,lvB]
abbrev lvM:List Many:=[Many.mk lvA (1:Int),Many.mk lvB (2:Int)]
abbrev lvR:Rec:=Rec.mk (-1:Int) (ByteArray.mk #[195,169,32,37])
abbrev lvS:BA:=ByteArray.mk #[45,49,58,37,99,51,37,97,57,37,50,48,37,50,53]
abbrev aLRB:DA (List Rec):=.one (.listB eR)
abbrev aLMMB:DA (List Many×List Many):=.cons (.listB eM) (.one (.listB eM))
set_option maxRecDepth 100000
theorem lv_bag:FnPure Tryd.prog 24 aLRB dLME (fun _=>(lvM,(0:Int))) (fun g=>[g=lvL]):=
 pure_lit (D:=aLRB) bgA_ok lvL (lvM,0) (by kernel_rfl) (fun p hp=>by rw[List.mem_singleton.1 hp];decide)
theorem lv_eq:FnPure Tryd.prog 71 aLMMB dBool (fun _=>true) (fun g=>[g=(lvM,lvM)]):=
 pure_lit (D:=aLMMB) elM_ok (lvM,lvM) true (by kernel_rfl) (fun p hp=>by rw[List.mem_singleton.1 hp];decide)
theorem lv_txt:FnPure Tryd.prog 43 aR dStr (fun _=>lvS) (fun g=>[g=lvR]):=
 pure_lit teA_ok lvR lvS (by kernel_rfl) (fun p hp=>by rw[List.mem_singleton.1 hp];exact ⟨by decide,by decide⟩)
noncomputable def tabQ1:MTab Tryd.prog:=(((MTab.of PTab.nil).consM 24 (fconR aLRB dLME (fun _=>(lvM,(0:Int))) (fun g=>[g=lvL])) (fconR_ok lv_bag)).cons 71 (pconP aLMMB dBool (fun _=>true) (fun g=>[g=(lvM,lvM)])) (conP_ok lv_eq puB)).cons 43 (pconP aR dStr (fun _=>lvS) (fun g=>[g=lvR])) (conP_ok lv_txt puS)
noncomputable abbrev lvT:Tr Bool:=dTree Tryd.prog (MTab.gamz tabQ1 [] []) noΛ 100 16 (DA.enc .none ()) dBool
theorem lv_ev:lvT.evC false=true:=by kernel_rfl
theorem lv_asks:lvT.asksC=[lvL=lvL,((0:Int)==(0:Int))=true→(lvM,lvM)=(lvM,lvM),((0:Int)==(0:Int))=true→true=true→lvR=lvR]:=by kernel_rfl
theorem lv_ok:FnPure Tryd.prog 16 .none dBool (fun _=>true) (fun _=>[]):=pure_of_tree (MTab.okz tabQ1 [] []) noΛ_ok 100 fun g _ _=>by
 have h:=Tr.asksC_holds (t:=lvT) false (by
  rw[lv_asks]
  intro p hp
  rcases List.mem_cons.1 hp with e | hp
  ·exact e▸rfl
  rcases List.mem_cons.1 hp with e | hp
  ·exact e▸fun _=>rfl
  rcases List.mem_cons.1 hp with e | hp
  ·exact e▸fun _ _=>rfl
  cases hp)
 rw[lv_ev] at h
 exact h
end Go.Proofs.YtmegbepjdololaaDoor

namespace Go.Proofs.YtmegbepjdololaaDoor
open Go.RowKit Go.Sx
set_option maxRecDepth 100000
set_option linter.unusedVariables false
end Go.Proofs.YtmegbepjdololaaDoor

namespace Go.Proofs.YtmegbepjdololaaDoor
open Go.RowKit Go.Sx
set_option maxRecDepth 100000
set_option linter.unusedVariables false
abbrev fw_G:Type:=List Rec×Int×Int×Int
noncomputable def fw_LP:LP 0 fw_G:=.pair (.slot 0 10 dLR) (.pair (.slot 0 11 dI) (.pair (.slot 0 12 dI) (.slot 0 3 dI)))
noncomputable def fw_R (xs:List Rec) (n:Int) (i:Int) (k:Int):Ex×fw_G:=
 bif decide (i<n) then (Ex.normal,eR.ag xs,n,IntKind.i64.wrap (i+(1:Int)),IntKind.i64.wrap (k+List.foldl (fun a x=>bif false then if x.snd.snd > a then x.snd.snd else a else if x.snd.snd<a then x.snd.snd else a) (↑(ByteArray.size (xs.getD i.toNat eR.dflt).text):Int) [(true,IntKind.i64,(2000:Int))]))
 else (Ex.exit (0:Nat),eR.ag xs,n,i,k)
def fw_side (xs:List Rec) (n:Int) (i:Int) (k:Int):Prop:=
 (decide (i<n)=true→((0:Int)≤i∧i<(↑xs.length:Int))∧eR.okL xs)∧(decide (i<n)=false→eR.okL xs)
theorem fw_one:((loopsOf Tryd.prog 23).filter fun c=>Nat.beq (lkey c) 3).length=1:=by kernel_rfl
abbrev fw_GC:Type:=List Rec×Int
abbrev fw_GB:Type:=Int
def fw_f (g:fw_G):Int×fw_GC×fw_GB:=(g.2.2.1,(g.1,g.2.1),g.2.2.2)
def fw_g (d:Int×fw_GC×fw_GB):fw_G:=(d.2.1.1,d.2.1.2,d.1,d.2.2)
theorem fw_es (g:fw_G):(fw_R g.1 g.2.1 g.2.2.1 g.2.2.2).1=.normal∨(fw_R g.1 g.2.1 g.2.2.1 g.2.2.2).1∈([.exit 0]:List Ex):=by
 unfold fw_R
 repeat' (first | (left;rfl) | (right;simp only[cond_true,cond_false];simp;done) | (rw[Bool.cond_eq_ite];split))
noncomputable abbrev fw_C (Inv:fw_G→List Prop) (m:fw_G→Nat):LCon:=loopR [.exit 0] (loopBody Tryd.prog 23 3) fw_LP [] 30 Inv (fun g=>fw_R g.1 g.2.1 g.2.2.1 g.2.2.2) m
theorem fw_loop (Inv:fw_G→List Prop) (m:fw_G→Nat) (hs:∀ g,allP (Inv g)→fw_side g.1 g.2.1 g.2.2.1 g.2.2.2) (hg:Goes (fun g:fw_G=>fw_R g.1 g.2.1 g.2.2.1 g.2.2.2) m fun g=>allP (Inv g)):∀ b∈loopsOf Tryd.prog 23,lkey b=3→LoopOk Tryd.prog b (fw_C Inv m).g:=loop_run (Γ:=(PTab.gamz tabG6 [] [])) (Λ:=noΛ) (PTab.okz tabG6 [] []) noΛ_ok 100 23 3 30 fw_LP [] Inv (fun g=>fw_R g.1 g.2.1 g.2.2.1 g.2.2.2) (fun g=>fw_side g.1 g.2.1 g.2.2.1 g.2.2.2) m default [.exit 0] fw_one (fun rd T B HL HB ds g=>by kernel_rfl) (fun rd T B HL HB ds g=>by kernel_rfl) hs hg fw_es
abbrev ra_G:Type:=List Many×Int×Int×Int×Int
noncomputable def ra_LP:LP 0 ra_G:=.pair (.slot 0 11 dLM) (.pair (.slot 0 12 dI) (.pair (.slot 0 13 dI) (.pair (.slot 0 3 dI) (.slot 0 4 dI))))
noncomputable def ra_R (xs:List Many) (n:Int) (i:Int) (p:Int) (m:Int):Ex×ra_G:=
 bif decide (i<n) then (Ex.normal,eM.ag xs,n,IntKind.i64.wrap (i+(1:Int)),IntKind.i64.wrap (p+List.foldl (fun a x=>bif true then if x.snd.snd > a then x.snd.snd else a else if x.snd.snd<a then x.snd.snd else a) (0:Int) [(false,IntKind.i64,List.foldl (fun a x=>bif false then if x.snd.snd > a then x.snd.snd else a else if x.snd.snd<a then x.snd.snd else a) (xs.getD i.toNat eM.dflt).n [(true,IntKind.i64,(1000:Int))])]),IntKind.i64.wrap (m+List.foldl (fun a x=>bif false then if x.snd.snd > a then x.snd.snd else a else if x.snd.snd<a then x.snd.snd else a) (↑(ByteArray.size (xs.getD i.toNat eM.dflt).r.text):Int) [(true,IntKind.i64,(2000:Int))]))
 else (Ex.exit (0:Nat),eM.ag xs,n,i,p,m)
def ra_side (xs:List Many) (n:Int) (i:Int) (p:Int) (m:Int):Prop:=
 (decide (i<n)=true→((0:Int)≤i∧i<(↑xs.length:Int))∧eM.okL xs)∧(decide (i<n)=false→eM.okL xs)
theorem ra_one:((loopsOf Tryd.prog 37).filter fun c=>Nat.beq (lkey c) 4).length=1:=by kernel_rfl
abbrev ra_GC:Type:=List Many×Int
abbrev ra_GB:Type:=Int×Int
def ra_f (g:ra_G):Int×ra_GC×ra_GB:=(g.2.2.1,(g.1,g.2.1),(g.2.2.2.1,g.2.2.2.2))
def ra_g (d:Int×ra_GC×ra_GB):ra_G:=(d.2.1.1,d.2.1.2,d.1,d.2.2.1,d.2.2.2)
theorem ra_es (g:ra_G):(ra_R g.1 g.2.1 g.2.2.1 g.2.2.2.1 g.2.2.2.2).1=.normal∨(ra_R g.1 g.2.1 g.2.2.1 g.2.2.2.1 g.2.2.2.2).1∈([.exit 0]:List Ex):=by
 unfold ra_R
 repeat' (first | (left;rfl) | (right;simp only[cond_true,cond_false];simp;done) | (rw[Bool.cond_eq_ite];split))
noncomputable abbrev ra_C (Inv:ra_G→List Prop) (m:ra_G→Nat):LCon:=loopR [.exit 0] (loopBody Tryd.prog 37 4) ra_LP [] 42 Inv (fun g=>ra_R g.1 g.2.1 g.2.2.1 g.2.2.2.1 g.2.2.2.2) m
theorem ra_loop (Inv:ra_G→List Prop) (m:ra_G→Nat) (hs:∀ g,allP (Inv g)→ra_side g.1 g.2.1 g.2.2.1 g.2.2.2.1 g.2.2.2.2) (hg:Goes (fun g:ra_G=>ra_R g.1 g.2.1 g.2.2.1 g.2.2.2.1 g.2.2.2.2) m fun g=>allP (Inv g)):∀ b∈loopsOf Tryd.prog 37,lkey b=4→LoopOk Tryd.prog b (ra_C Inv m).g:=loop_run (Γ:=(PTab.gamz tabG6 [] [])) (Λ:=noΛ) (PTab.okz tabG6 [] []) noΛ_ok 100 37 4 42 ra_LP [] Inv (fun g=>ra_R g.1 g.2.1 g.2.2.1 g.2.2.2.1 g.2.2.2.2) (fun g=>ra_side g.1 g.2.1 g.2.2.1 g.2.2.2.1 g.2.2.2.2) m default [.exit 0] ra_one (fun rd T B HL HB ds g=>by kernel_rfl) (fun rd T B HL HB ds g=>by kernel_rfl) hs hg ra_es
abbrev ks5_G:Type:=List Many×Int×Int×List Rec
noncomputable def ks5_LP:LP 0 ks5_G:=.pair (.slot 0 6 dLM) (.pair (.slot 0 7 dI) (.pair (.slot 0 8 dI) (.row 0 3 46 eR)))
noncomputable def ks5_R (xs:List Many) (n:Int) (i:Int) (o:List Rec):Ex×ks5_G:=
 bif decide (i<n) then (Ex.normal,eM.ag xs,n,IntKind.i64.wrap (i+(1:Int)),eR.lst (min (o.length+(1:Nat)) o.length) (eR.els o)++List.map (fun x=>(xs.getD i.toNat eM.dflt).r) (List.range (o.length+(1:Nat) - o.length)))
 else (Ex.exit (0:Nat),eM.ag xs,n,i,eR.ag o)
def ks5_side (xs:List Many) (n:Int) (i:Int) (o:List Rec):Prop:=
 (decide (i<n)=true→((0:Int)≤i∧i<(↑xs.length:Int))∧(o.length≤o.length∧True∧o.length+(1:Nat)≤maxLen∧(o.length+(1:Nat)) * Tryd.prog.types[(46:Nat)].bytes≤(140737488355328:Nat))∧eM.okL xs∧o.length+(1:Nat)≤o.length+(1:Nat)∧(∀ (e:Nat),e<min (o.length+(1:Nat)) o.length→True)∧∀ (e:Nat),e<o.length+(1:Nat) - o.length→True)∧(decide (i<n)=false→eM.okL xs∧o.length≤o.length∧∀ (e:Nat),e<o.length→True)
theorem ks5_one:((loopsOf Tryd.prog 33).filter fun c=>Nat.beq (lkey c) 3).length=1:=by kernel_rfl
abbrev ks5_GC:Type:=List Many×Int
abbrev ks5_GB:Type:=List Rec
def ks5_f (g:ks5_G):Int×ks5_GC×ks5_GB:=(g.2.2.1,(g.1,g.2.1),g.2.2.2)
def ks5_g (d:Int×ks5_GC×ks5_GB):ks5_G:=(d.2.1.1,d.2.1.2,d.1,d.2.2)
theorem ks5_es (g:ks5_G):(ks5_R g.1 g.2.1 g.2.2.1 g.2.2.2).1=.normal∨(ks5_R g.1 g.2.1 g.2.2.1 g.2.2.2).1∈([.exit 0]:List Ex):=by
 unfold ks5_R
 repeat' (first | (left;rfl) | (right;simp only[cond_true,cond_false];simp;done) | (rw[Bool.cond_eq_ite];split))
noncomputable abbrev ks5_C (Inv:ks5_G→List Prop) (m:ks5_G→Nat):LCon:=loopR [.exit 0] (loopBody Tryd.prog 33 3) ks5_LP [] 19 Inv (fun g=>ks5_R g.1 g.2.1 g.2.2.1 g.2.2.2) m
theorem ks5_loop (Inv:ks5_G→List Prop) (m:ks5_G→Nat) (hs:∀ g,allP (Inv g)→ks5_side g.1 g.2.1 g.2.2.1 g.2.2.2) (hg:Goes (fun g:ks5_G=>ks5_R g.1 g.2.1 g.2.2.1 g.2.2.2) m fun g=>allP (Inv g)):∀ b∈loopsOf Tryd.prog 33,lkey b=3→LoopOk Tryd.prog b (ks5_C Inv m).g:=loop_run (Γ:=(PTab.gamz tabG6 [] [])) (Λ:=noΛ) (PTab.okz tabG6 [] []) noΛ_ok 100 33 3 19 ks5_LP [] Inv (fun g=>ks5_R g.1 g.2.1 g.2.2.1 g.2.2.2) (fun g=>ks5_side g.1 g.2.1 g.2.2.1 g.2.2.2) m default [.exit 0] ks5_one (fun rd T B HL HB ds g=>by kernel_rfl) (fun rd T B HL HB ds g=>by kernel_rfl) hs hg ks5_es
abbrev sb5_G:Type:=List Many×List Many×Int×Bool
noncomputable def sb5_LP:LP 0 sb5_G:=.pair (.slot 0 0 dLM) (.pair (.slot 0 1 dLM) (.pair (.slot 0 5 dI) (.slot 0 4 dBool)))
noncomputable def sb5_R (xs:List Many) (ys:List Many) (i:Int) (r:Bool):Ex×sb5_G:=
 bif decide (i<(↑xs.length:Int)) then bif !conj ([(xs.getD i.toNat eM.dflt).r.key==(ys.getD i.toNat eM.dflt).r.key]++([decide ((xs.getD i.toNat eM.dflt).r.text=(ys.getD i.toNat eM.dflt).r.text)]++[])++([(xs.getD i.toNat eM.dflt).n==(ys.getD i.toNat eM.dflt).n]++[])) then (Ex.ret,eM.ag xs,eM.ag ys,i,false) else (Ex.normal,eM.ag xs,eM.ag ys,IntKind.i64.wrap (i+(1:Int)),r)
 else (Ex.exit (0:Nat),eM.ag xs,eM.ag ys,i,r)
def sb5_side (xs:List Many) (ys:List Many) (i:Int) (r:Bool):Prop:=
 (decide (i<(↑xs.length:Int))=true→((0:Int)≤i∧i<(↑xs.length:Int))∧((0:Int)≤i∧i<(↑ys.length:Int))∧((!conj ([(xs.getD i.toNat eM.dflt).r.key==(ys.getD i.toNat eM.dflt).r.key]++([decide ((xs.getD i.toNat eM.dflt).r.text=(ys.getD i.toNat eM.dflt).r.text)]++[])++([(xs.getD i.toNat eM.dflt).n==(ys.getD i.toNat eM.dflt).n]++[])))=true→eM.okL xs∧eM.okL ys)∧((!conj ([(xs.getD i.toNat eM.dflt).r.key==(ys.getD i.toNat eM.dflt).r.key]++([decide ((xs.getD i.toNat eM.dflt).r.text=(ys.getD i.toNat eM.dflt).r.text)]++[])++([(xs.getD i.toNat eM.dflt).n==(ys.getD i.toNat eM.dflt).n]++[])))=false→eM.okL xs∧eM.okL ys))∧(decide (i<(↑xs.length:Int))=false→eM.okL xs∧eM.okL ys)
theorem sb5_one:((loopsOf Tryd.prog 26).filter fun c=>Nat.beq (lkey c) 4).length=1:=by kernel_rfl
abbrev sb5_GC:Type:=List Many×List Many
abbrev sb5_GB:Type:=Bool
def sb5_f (g:sb5_G):Int×sb5_GC×sb5_GB:=(g.2.2.1,(g.1,g.2.1),g.2.2.2)
def sb5_g (d:Int×sb5_GC×sb5_GB):sb5_G:=(d.2.1.1,d.2.1.2,d.1,d.2.2)
theorem sb5_es (g:sb5_G):(sb5_R g.1 g.2.1 g.2.2.1 g.2.2.2).1=.normal∨(sb5_R g.1 g.2.1 g.2.2.1 g.2.2.2).1∈([.ret,.exit 0]:List Ex):=by
 unfold sb5_R
 repeat' (first | (left;rfl) | (right;simp only[cond_true,cond_false];simp;done) | (rw[Bool.cond_eq_ite];split))
noncomputable abbrev sb5_C (Inv:sb5_G→List Prop) (m:sb5_G→Nat):LCon:=loopR [.ret,.exit 0] (loopBody Tryd.prog 26 4) sb5_LP [] 26 Inv (fun g=>sb5_R g.1 g.2.1 g.2.2.1 g.2.2.2) m
theorem sb5_loop (Inv:sb5_G→List Prop) (m:sb5_G→Nat) (hs:∀ g,allP (Inv g)→sb5_side g.1 g.2.1 g.2.2.1 g.2.2.2) (hg:Goes (fun g:sb5_G=>sb5_R g.1 g.2.1 g.2.2.1 g.2.2.2) m fun g=>allP (Inv g)):∀ b∈loopsOf Tryd.prog 26,lkey b=4→LoopOk Tryd.prog b (sb5_C Inv m).g:=loop_run (Γ:=(PTab.gamz tabG6 [] [])) (Λ:=noΛ) (PTab.okz tabG6 [] []) noΛ_ok 100 26 4 26 sb5_LP [] Inv (fun g=>sb5_R g.1 g.2.1 g.2.2.1 g.2.2.2) (fun g=>sb5_side g.1 g.2.1 g.2.2.1 g.2.2.2) m default [.ret,.exit 0] sb5_one (fun rd T B HL HB ds g=>by kernel_rfl) (fun rd T B HL HB ds g=>by kernel_rfl) hs hg sb5_es
end Go.Proofs.YtmegbepjdololaaDoor

namespace Go.Proofs.YtmegbepjdololaaDoor
open Go.RowKit Go.Sx Go.Lp
set_option maxRecDepth 100000
def minI (a b:Int):Int:=List.foldl (fun a (x:Bool×IntKind×Int)=>bif false then if x.snd.snd > a then x.snd.snd else a else if x.snd.snd<a then x.snd.snd else a) a [(true,IntKind.i64,b)]
def maxI (a b:Int):Int:=List.foldl (fun a (x:Bool×IntKind×Int)=>bif true then if x.snd.snd > a then x.snd.snd else a else if x.snd.snd<a then x.snd.snd else a) a [(false,IntKind.i64,b)]
noncomputable def fw_S (c:fw_GC) (b:fw_GB) (i:Int) (v:Rec):Ex×fw_GB:=(.normal,IntKind.i64.wrap (b+minI (v.text.size:Int) 2000))
def fw_K (c:fw_GC) (b:fw_GB) (i:Int):Prop:=True
abbrev fw_I (g:fw_G):List Prop:=ixI (fun c:fw_GC=>c.2) (fun c:fw_GC=>c.1) fw_K (fw_f g)
abbrev fw_M (g:fw_G):Nat:=ixM (fun c:fw_GC=>c.2) (fw_f g)
theorem fw_P:ixP fw_S (fun c:fw_GC=>c.1) fw_K:=fun _ _ _ _ h _ _=>h
noncomputable abbrev fw_RR (g:fw_G):Ex×fw_G:=fw_R g.1 g.2.1 g.2.2.1 g.2.2.2
theorem fw_RF (d:Int×fw_GC×fw_GB) (hi:allP (ixI (fun c:fw_GC=>c.2) (fun c:fw_GC=>c.1) fw_K d)):fw_RR (fw_g d)=((ixF 0 (fun c:fw_GC=>c.2) (fun c:fw_GC=>c.1) eR.dflt fw_S d).1,fw_g (ixF 0 (fun c:fw_GC=>c.2) (fun c:fw_GC=>c.1) eR.dflt fw_S d).2):=by
 obtain ⟨i,⟨xs,n⟩,k⟩:=d
 show fw_R xs n i k=_
 unfold fw_R ixF fw_S
 simp only[El.ag_eq]
 cases decide (i<n) with
 | false=>rfl
 | true=>rfl
theorem fw_ok:∀ b∈loopsOf Tryd.prog 23,lkey b=3→LoopOk Tryd.prog b (fw_C fw_I fw_M).g:=by
 refine fw_loop fw_I fw_M (fun g hi=>?_) (ix_conj_goes (fun _=>rfl) (fun _=>rfl) fw_RF fw_P)
 obtain ⟨xs,n,i,k⟩:=g
 obtain ⟨h1,h2,h3,h4,h5⟩:=hi _ (List.mem_cons_self ..)
 have h1:n=(xs.length:Int):=h1
 have h3:0≤i:=h3
 have h5:True:=h5
 show fw_side xs n i k
 unfold fw_side
 simp only[decide_eq_true_eq,decide_eq_false_iff_not]
 have k0:∀ e:Nat,e<xs.length→eR.Ok (eR.els xs e):=fun e _=>eR.ok_els xs e
 clear hi
 repeat' (first | exact k0 | apply And.intro | intro _)
 all_goals omega
noncomputable def ra_S (c:ra_GC) (b:ra_GB) (i:Int) (v:Many):Ex×ra_GB:=(.normal,IntKind.i64.wrap (b.1+maxI 0 (minI v.n 1000)),IntKind.i64.wrap (b.2+minI (v.r.text.size:Int) 2000))
def ra_K (c:ra_GC) (b:ra_GB) (i:Int):Prop:=True
abbrev ra_I (g:ra_G):List Prop:=ixI (fun c:ra_GC=>c.2) (fun c:ra_GC=>c.1) ra_K (ra_f g)
abbrev ra_M (g:ra_G):Nat:=ixM (fun c:ra_GC=>c.2) (ra_f g)
theorem ra_P:ixP ra_S (fun c:ra_GC=>c.1) ra_K:=fun _ _ _ _ h _ _=>h
noncomputable abbrev ra_RR (g:ra_G):Ex×ra_G:=ra_R g.1 g.2.1 g.2.2.1 g.2.2.2.1 g.2.2.2.2
theorem ra_RF (d:Int×ra_GC×ra_GB) (hi:allP (ixI (fun c:ra_GC=>c.2) (fun c:ra_GC=>c.1) ra_K d)):ra_RR (ra_g d)=((ixF 0 (fun c:ra_GC=>c.2) (fun c:ra_GC=>c.1) eM.dflt ra_S d).1,ra_g (ixF 0 (fun c:ra_GC=>c.2) (fun c:ra_GC=>c.1) eM.dflt ra_S d).2):=by
 obtain ⟨i,⟨xs,n⟩,⟨p,m⟩⟩:=d
 show ra_R xs n i p m=_
 unfold ra_R ixF ra_S
 simp only[El.ag_eq]
 cases decide (i<n) with
 | false=>rfl
 | true=>rfl
theorem ra_ok:∀ b∈loopsOf Tryd.prog 37,lkey b=4→LoopOk Tryd.prog b (ra_C ra_I ra_M).g:=by
 refine ra_loop ra_I ra_M (fun g hi=>?_) (ix_conj_goes (fun _=>rfl) (fun _=>rfl) ra_RF ra_P)
 obtain ⟨xs,n,i,p,m⟩:=g
 obtain ⟨h1,h2,h3,h4,h5⟩:=hi _ (List.mem_cons_self ..)
 have h1:n=(xs.length:Int):=h1
 have h3:0≤i:=h3
 have h5:True:=h5
 show ra_side xs n i p m
 unfold ra_side
 simp only[decide_eq_true_eq,decide_eq_false_iff_not]
 have k0:∀ e:Nat,e<xs.length→eM.Ok (eM.els xs e):=fun e _=>eM.ok_els xs e
 clear hi
 repeat' (first | exact k0 | apply And.intro | intro _)
 all_goals omega
theorem ra_run (c:ra_GC) (b:ra_GB) (k1:c.2=((c.1).length:Int)) (k2:(c.1).length≤maxLen) (k3:ra_K c b 0):loopF ra_RR ra_M (ra_g (0,c,b))=((scan 0 (ra_S c) 0 (c.1) b).1,ra_g ((scan 0 (ra_S c) 0 (c.1) b).2.1,c,(scan 0 (ra_S c) 0 (c.1) b).2.2)):=ix_conj_run (φ:=ra_f) (ψ:=ra_g) (fun _=>rfl) (fun _=>rfl) ra_RF ra_P c b k1 k2 k3
noncomputable def sb5_S (c:sb5_GC) (b:sb5_GB) (i:Int) (v:Many):Ex×sb5_GB:=bif !decide (v=c.2.getD i.toNat eM.dflt) then (.ret,false) else (.normal,b)
def sb5_K (c:sb5_GC) (b:sb5_GB) (i:Int):Prop:=c.1.length=c.2.length
abbrev sb5_I (g:sb5_G):List Prop:=ixI (fun c:sb5_GC=>(c.1.length:Int)) (fun c:sb5_GC=>c.1) sb5_K (sb5_f g)
abbrev sb5_M (g:sb5_G):Nat:=ixM (fun c:sb5_GC=>(c.1.length:Int)) (sb5_f g)
theorem sb5_P:ixP sb5_S (fun c:sb5_GC=>c.1) sb5_K:=fun _ _ _ _ h _ _=>h
noncomputable abbrev sb5_RR (g:sb5_G):Ex×sb5_G:=sb5_R g.1 g.2.1 g.2.2.1 g.2.2.2
theorem sb5_RF (d:Int×sb5_GC×sb5_GB) (hi:allP (ixI (fun c:sb5_GC=>(c.1.length:Int)) (fun c:sb5_GC=>c.1) sb5_K d)):sb5_RR (sb5_g d)=((ixF 0 (fun c:sb5_GC=>(c.1.length:Int)) (fun c:sb5_GC=>c.1) eM.dflt sb5_S d).1,sb5_g (ixF 0 (fun c:sb5_GC=>(c.1.length:Int)) (fun c:sb5_GC=>c.1) eM.dflt sb5_S d).2):=by
 obtain ⟨i,⟨xs,ys⟩,r⟩:=d
 show sb5_R xs ys i r=_
 unfold sb5_R ixF sb5_S
 simp only[El.ag_eq,conj_eM]
 cases decide (i<(xs.length:Int)) with
 | false=>rfl
 | true=>
  simp only[cond_true]
  generalize (!decide ((xs.getD i.toNat eM.dflt)=ys.getD i.toNat eM.dflt))=z
  cases z <;> rfl
theorem sb5_ok:∀ b∈loopsOf Tryd.prog 26,lkey b=4→LoopOk Tryd.prog b (sb5_C sb5_I sb5_M).g:=by
 refine sb5_loop sb5_I sb5_M (fun g hi=>?_) (ix_conj_goes (fun _=>rfl) (fun _=>rfl) sb5_RF sb5_P)
 obtain ⟨xs,ys,i,r⟩:=g
 obtain ⟨h1,h2,h3,h4,h5⟩:=hi _ (List.mem_cons_self ..)
 have h1:(xs.length:Int)=(xs.length:Int):=h1
 have h3:0≤i:=h3
 have h5:xs.length=ys.length:=h5
 show sb5_side xs ys i r
 unfold sb5_side
 simp only[decide_eq_true_eq,decide_eq_false_iff_not]
 have k0:∀ e:Nat,e<xs.length→eM.Ok (eM.els xs e):=fun e _=>eM.ok_els xs e
 have k1:∀ e:Nat,e<ys.length→eM.Ok (eM.els ys e):=fun e _=>eM.ok_els ys e
 clear hi
 repeat' (first | exact k0 | exact k1 | apply And.intro | intro _)
 all_goals omega
theorem sb5_run (c:sb5_GC) (b:sb5_GB) (k1:(c.1.length:Int)=((c.1).length:Int)) (k2:(c.1).length≤maxLen) (k3:sb5_K c b 0):loopF sb5_RR sb5_M (sb5_g (0,c,b))=((scan 0 (sb5_S c) 0 (c.1) b).1,sb5_g ((scan 0 (sb5_S c) 0 (c.1) b).2.1,c,(scan 0 (sb5_S c) 0 (c.1) b).2.2)):=ix_conj_run (φ:=sb5_f) (ψ:=sb5_g) (fun _=>rfl) (fun _=>rfl) sb5_RF sb5_P c b k1 k2 k3
noncomputable def ltV2:LTab Tryd.prog:=(((LTab.nil.cons 23 3 (fw_C fw_I fw_M) fw_ok).cons 37 4 (ra_C ra_I ra_M) ra_ok).cons 26 4 (sb5_C sb5_I sb5_M) sb5_ok)
end Go.Proofs.YtmegbepjdololaaDoor

namespace Go.Proofs.YtmegbepjdololaaDoor
open Go.RowKit Go.Sx Go.Lp
set_option maxRecDepth 100000
def ks5_S (_:ks5_GC) (b:ks5_GB) (_:Int) (v:Many):Ex×ks5_GB:=(.normal,b++[v.r])
def ks5_K (c:ks5_GC) (b:ks5_GB) (i:Int):Prop:=c.1.length≤1000000∧(List.length b:Int)≤i
abbrev ks5_I (g:ks5_G):List Prop:=ixI (fun c:ks5_GC=>c.2) (fun c=>c.1) ks5_K (ks5_f g)
abbrev ks5_M (g:ks5_G):Nat:=ixM (fun c:ks5_GC=>c.2) (ks5_f g)
theorem ks5_P:ixP ks5_S (fun c:ks5_GC=>c.1) ks5_K:=fun c b i a h _ _=>⟨h.1,by
 have:=h.2
 show ((b++[a.r]).length:Int)≤_
 rw[List.length_append]
 simp only[List.length_cons,List.length_nil]
 omega⟩
noncomputable abbrev ks5_RR (g:ks5_G):Ex×ks5_G:=ks5_R g.1 g.2.1 g.2.2.1 g.2.2.2
theorem ap1R (o:List Rec) (v:Rec):eR.lst (min (o.length+1) o.length) (eR.els o)++List.map (fun _=>v) (List.range (o.length+1 - o.length))=o++[v]:=by
 rw[Nat.min_eq_right (Nat.le_add_right _ _),Nat.add_sub_cancel_left,eR.lst_els];rfl
theorem ks5_RF (d:Int×ks5_GC×ks5_GB) (_:allP (ixI (fun c:ks5_GC=>c.2) (fun c=>c.1) ks5_K d)):ks5_RR (ks5_g d)=((ixF 0 (fun c:ks5_GC=>c.2) (fun c=>c.1) eM.dflt ks5_S d).1,ks5_g (ixF 0 (fun c:ks5_GC=>c.2) (fun c=>c.1) eM.dflt ks5_S d).2):=by
 obtain ⟨i,⟨xs,n⟩,o⟩:=d
 show ks5_R xs n i o=_
 unfold ks5_R ixF ks5_S
 simp only[El.ag_eq,ap1R]
 cases decide (i<n) <;> rfl
theorem bytR (h:46<Tryd.prog.types.size):(Tryd.prog.types[(46:Nat)]'h).bytes=24:=by kernel_rfl
theorem ks5_ok:∀ b∈loopsOf Tryd.prog 33,lkey b=3→LoopOk Tryd.prog b (ks5_C ks5_I ks5_M).g:=by
 refine ks5_loop ks5_I ks5_M (fun g hi=>?_) (ix_conj_goes (fun _=>rfl) (fun _=>rfl) ks5_RF ks5_P)
 obtain ⟨xs,n,i,o⟩:=g
 obtain ⟨h1,h2,h3,h4,h5,h6⟩:=hi _ (List.mem_cons_self ..)
 have h1:n=(xs.length:Int):=h1
 have h3:0≤i:=h3
 have h4:i≤(xs.length:Int):=h4
 have h5:xs.length≤1000000:=h5
 have h6:(o.length:Int)≤i:=h6
 show ks5_side xs n i o
 unfold ks5_side
 simp only[El.okL_eq,El.ag_eq,bytR,decide_eq_true_eq,decide_eq_false_iff_not]
 unfold maxLen
 repeat' (first | apply And.intro | intro _)
 all_goals first | trivial | omega
noncomputable def ltV3:LTab Tryd.prog:=ltV2.cons 33 3 (ks5_C ks5_I ks5_M) ks5_ok
noncomputable abbrev lamV3:Lam:=ltV3.lam
theorem lamV3_ok:∀ f k L,lamV3 f k=some L→∀ b∈loopsOf Tryd.prog f,lkey b=k→LoopOk Tryd.prog b L.g:=ltV3.ok
theorem onesR (xs:List Rec) (e:Nat):(eR.els xs e).all SV.one=true:=eR.one_els xs e
theorem clR (xs:List Rec):List.map (fun _=>eR.get []) (List.range (min (0+xs.length) 0))++eR.lst (0+xs.length - 0) (eR.els xs)=xs:=by
 have h2:min (0+xs.length) 0=0:=by omega
 rw[h2,show 0+xs.length - 0=xs.length by omega,eR.lst_els]
 rfl
end Go.Proofs.YtmegbepjdololaaDoor

namespace Go.Proofs.YtmegbepjdololaaDoor
open Go.RowKit Go.Sx
set_option maxRecDepth 100000
set_option linter.unusedVariables false
abbrev rLR5:Rv (List Rec):=.list eR
noncomputable def few5_q1 (l:List Rec):Ex ×
 fw_G:=
 loopF (fun g=>fw_R g.fst g.snd.fst g.snd.snd.fst g.snd.snd.snd) fw_M (eR.lst (List.foldl (fun a x=>bif false then if x.snd.snd > a then x.snd.snd else a else if x.snd.snd<a then x.snd.snd else a) (↑l.length:Int) [(true,IntKind.i64,(200:Int))]).toNat (eR.els l),(↑(List.foldl (fun a x=>bif false then if x.snd.snd > a then x.snd.snd else a else if x.snd.snd<a then x.snd.snd else a) (↑l.length:Int) [(true,IntKind.i64,(200:Int))]).toNat:Int),(0:Int),(0:Int))
noncomputable def few5_F (l:List Rec):Dv.T dBool:=
 decide ((↑l.length:Int)≤(200:Int))&&decide ((few5_q1 l).snd.snd.snd.snd≤(3000:Int))
def few5_side (l:List Rec):Prop:=
 ((0:Int)≤List.foldl (fun a x=>bif false then if x.snd.snd > a then x.snd.snd else a else if x.snd.snd<a then x.snd.snd else a) (↑l.length:Int) [(true,IntKind.i64,(200:Int))]∧List.foldl (fun a x=>bif false then if x.snd.snd > a then x.snd.snd else a else if x.snd.snd<a then x.snd.snd else a) (↑l.length:Int) [(true,IntKind.i64,(200:Int))]≤(↑l.length:Int))∧(∀ (e:Nat),e<(List.foldl (fun a x=>bif false then if x.snd.snd > a then x.snd.snd else a else if x.snd.snd<a then x.snd.snd else a) (↑l.length:Int) [(true,IntKind.i64,(200:Int))]).toNat→eR.Ok (eR.els l e))∧Lp.ixJ (fun c=>c.snd) (fun c=>c.fst) fw_K (fw_f (eR.lst (List.foldl (fun a x=>bif false then if x.snd.snd > a then x.snd.snd else a else if x.snd.snd<a then x.snd.snd else a) (↑l.length:Int) [(true,IntKind.i64,(200:Int))]).toNat (eR.els l),(↑(List.foldl (fun a x=>bif false then if x.snd.snd > a then x.snd.snd else a else if x.snd.snd<a then x.snd.snd else a) (↑l.length:Int) [(true,IntKind.i64,(200:Int))]).toNat:Int),(0:Int),(0:Int)))
theorem few5_okS (pre:DA.T aLR1→List Prop) (h:∀ g,DA.bd aLR1 g→(∀ p∈pre g,p)→few5_side g):FnPure Tryd.prog 23 aLR1 dBool (fun g=>few5_F g) pre:=pure_of_sideS (Γ:=(PTab.gamz tabG6 [] [])) (Λ:=lamV3) (PTab.okz tabG6 [] []) lamV3_ok 100 default (fun g=>few5_side g) (fun g=>by kernel_rfl) (fun g=>by kernel_rfl) h
noncomputable def rare5_q1 (l:List Many):Ex ×
 ra_G:=
 loopF (fun g=>ra_R g.fst g.snd.fst g.snd.snd.fst g.snd.snd.snd.fst g.snd.snd.snd.snd) ra_M (eM.lst (List.foldl (fun a x=>bif false then if x.snd.snd > a then x.snd.snd else a else if x.snd.snd<a then x.snd.snd else a) (↑l.length:Int) [(true,IntKind.i64,(100:Int))]).toNat (eM.els l),(↑(List.foldl (fun a x=>bif false then if x.snd.snd > a then x.snd.snd else a else if x.snd.snd<a then x.snd.snd else a) (↑l.length:Int) [(true,IntKind.i64,(100:Int))]).toNat:Int),(0:Int),(0:Int),(0:Int))
noncomputable def rare5_F (l:List Many):Dv.T dBool:=
 decide ((↑l.length:Int)≤(100:Int))&&(decide ((rare5_q1 l).snd.snd.snd.snd.fst≤(1000:Int))&&decide ((rare5_q1 l).snd.snd.snd.snd.snd≤(3000:Int)))
def rare5_side (l:List Many):Prop:=
 ((0:Int)≤List.foldl (fun a x=>bif false then if x.snd.snd > a then x.snd.snd else a else if x.snd.snd<a then x.snd.snd else a) (↑l.length:Int) [(true,IntKind.i64,(100:Int))]∧List.foldl (fun a x=>bif false then if x.snd.snd > a then x.snd.snd else a else if x.snd.snd<a then x.snd.snd else a) (↑l.length:Int) [(true,IntKind.i64,(100:Int))]≤(↑l.length:Int))∧(∀ (e:Nat),e<(List.foldl (fun a x=>bif false then if x.snd.snd > a then x.snd.snd else a else if x.snd.snd<a then x.snd.snd else a) (↑l.length:Int) [(true,IntKind.i64,(100:Int))]).toNat→eM.Ok (eM.els l e))∧Lp.ixJ (fun c=>c.snd) (fun c=>c.fst) ra_K (ra_f (eM.lst (List.foldl (fun a x=>bif false then if x.snd.snd > a then x.snd.snd else a else if x.snd.snd<a then x.snd.snd else a) (↑l.length:Int) [(true,IntKind.i64,(100:Int))]).toNat (eM.els l),(↑(List.foldl (fun a x=>bif false then if x.snd.snd > a then x.snd.snd else a else if x.snd.snd<a then x.snd.snd else a) (↑l.length:Int) [(true,IntKind.i64,(100:Int))]).toNat:Int),(0:Int),(0:Int),(0:Int)))
theorem rare5_okS (pre:DA.T aLM5→List Prop) (h:∀ g,DA.bd aLM5 g→(∀ p∈pre g,p)→rare5_side g):FnPure Tryd.prog 37 aLM5 dBool (fun g=>rare5_F g) pre:=pure_of_sideS (Γ:=(PTab.gamz tabG6 [] [])) (Λ:=lamV3) (PTab.okz tabG6 [] []) lamV3_ok 100 default (fun g=>rare5_side g) (fun g=>by kernel_rfl) (fun g=>by kernel_rfl) h
noncomputable def same5_q1 (a:List Many) (b:List Many):Ex ×
 sb5_G:=
 loopF (fun g=>sb5_R g.fst g.snd.fst g.snd.snd.fst g.snd.snd.snd) sb5_M (eM.ag a,eM.ag b,(0:Int),false)
noncomputable def same5_F (a:List Many) (b:List Many):Dv.T dBool:=
 bif (↑a.length:Int) != (↑b.length:Int) then false
 else bif exB Ex.ret (same5_q1 a b).fst then (same5_q1 a b).snd.snd.snd.snd else true
def same5_side (a:List Many) (b:List Many):Prop:=
 ((↑a.length:Int) != (↑b.length:Int))=false→eM.okL a∧eM.okL b∧Lp.ixJ (fun c=>(↑c.fst.length:Int)) (fun c=>c.fst) sb5_K (sb5_f (eM.ag a,eM.ag b,(0:Int),false))
theorem same5_okS (pre:DA.T aLMM2→List Prop) (h:∀ g,DA.bd aLMM2 g→(∀ p∈pre g,p)→same5_side g.1 g.2):FnPure Tryd.prog 26 aLMM2 dBool (fun g=>same5_F g.1 g.2) pre:=pure_of_sideS (Γ:=(PTab.gamz tabG6 [] [])) (Λ:=lamV3) (PTab.okz tabG6 [] []) lamV3_ok 100 default (fun g=>same5_side g.1 g.2) (fun g=>by kernel_rfl) (fun g=>by kernel_rfl) h
end Go.Proofs.YtmegbepjdololaaDoor

namespace Go.Proofs.YtmegbepjdololaaDoor
open Go.RowKit Go.Sx Go.Lp
set_option maxRecDepth 100000
theorem minI_eq (a b:Int):minI a b=min a b:=by
 show (if b<a then b else a)=min a b
 split <;> omega
theorem maxI_eq (a b:Int):maxI a b=max a b:=by
 show (if b > a then b else a)=max a b
 split <;> omega
theorem few5_ok:FnPure Tryd.prog 23 aLR1 dBool few5_F (fun _=>[]):=few5_okS _ fun l hb _=>by
 have hm:l.length≤maxLen:=hb.1
 have e:=minI_eq (l.length:Int) 200
 show few5_side l
 unfold few5_side
 show (0≤minI (l.length:Int) 200∧minI (l.length:Int) 200≤(l.length:Int))∧(∀ e:Nat,e<(minI (l.length:Int) 200).toNat→eR.Ok (eR.els l e))∧Lp.ixJ (fun c=>c.snd) (fun c=>c.fst) fw_K (fw_f (eR.lst (minI (l.length:Int) 200).toNat (eR.els l),((minI (l.length:Int) 200).toNat:Int),(0:Int),(0:Int)))
 rw[e]
 refine ⟨⟨by omega,by omega⟩,fun e _=>eR.ok_els l e,?_⟩
 exact ixJ0 (by rw[El.lst_length]) (by rw[El.lst_length];omega) trivial
theorem few5_len {l:List Rec} (h:few5_F l=true):l.length≤200:=by
 unfold few5_F at h
 rw[Bool.and_eq_true] at h
 have:=of_decide_eq_true h.1
 omega
theorem rare5_ok:FnPure Tryd.prog 37 aLM5 dBool rare5_F (fun _=>[]):=rare5_okS _ fun l hb _=>by
 have hm:l.length≤maxLen:=hb.1
 have e:=minI_eq (l.length:Int) 100
 show rare5_side l
 unfold rare5_side
 show (0≤minI (l.length:Int) 100∧minI (l.length:Int) 100≤(l.length:Int))∧(∀ e:Nat,e<(minI (l.length:Int) 100).toNat→eM.Ok (eM.els l e))∧Lp.ixJ (fun c=>c.snd) (fun c=>c.fst) ra_K (ra_f (eM.lst (minI (l.length:Int) 100).toNat (eM.els l),((minI (l.length:Int) 100).toNat:Int),(0:Int),(0:Int),(0:Int)))
 rw[e]
 refine ⟨⟨by omega,by omega⟩,fun e _=>eM.ok_els l e,?_⟩
 exact ixJ0 (by rw[El.lst_length]) (by rw[El.lst_length];omega) trivial
theorem rare5_len {l:List Many} (h:rare5_F l=true):l.length≤100∧((∀ v∈l,1≤v.n∧v.n≤1048576)→(l.map (·.n)).sum≤1048576):=by
 unfold rare5_F at h
 rw[Bool.and_eq_true,Bool.and_eq_true] at h
 have h1:=of_decide_eq_true h.1
 have h2:=of_decide_eq_true h.2.1
 have hl:l.length≤100:=by omega
 refine ⟨hl,fun hp'=>?_⟩
 have hp:∀ v∈l,1≤v.n:=fun v hv=>(hp' v hv).1
 have e:(minI (l.length:Int) 100).toNat=l.length:=by rw[minI_eq];omega
 have hq:rare5_q1 l=loopF ra_RR ra_M (ra_g (0,(l,(l.length:Int)),(0,0))):=by
  unfold rare5_q1
  show loopF _ ra_M (eM.lst (minI (l.length:Int) 100).toNat (eM.els l),((minI (l.length:Int) 100).toNat:Int),(0:Int),(0:Int),(0:Int))=_
  rw[e,eM.lst_els]
  rfl
 have hr:=ra_run (l,(l.length:Int)) ((0:Int),(0:Int)) rfl (Nat.le_trans hl (by decide)) trivial
 have hs:scan 0 (ra_S (l,(l.length:Int))) 0 l ((0:Int),(0:Int))=_:=scan_fold (st:=ra_S (l,(l.length:Int))) (f:=fun b v=>(IntKind.i64.wrap (b.1+maxI 0 (minI v.n 1000)),IntKind.i64.wrap (b.2+minI (v.r.text.size:Int) 2000))) (fun _ _ _=>rfl) l 0 ((0:Int),(0:Int))
 rw[hq,hr] at h2
 have h2:(scan 0 (ra_S (l,(l.length:Int))) 0 l ((0:Int),(0:Int))).2.2.1≤1000:=h2
 rw[hs] at h2
 have key:∀ (l:List Many) (b:Int×Int),(∀ v∈l,1≤v.n)→0≤b.1→b.1+1000 * (l.length:Int)≤9223372036854775807→(l.foldl (fun (b:Int×Int) v=>(IntKind.i64.wrap (b.1+maxI 0 (minI v.n 1000)),IntKind.i64.wrap (b.2+minI (v.r.text.size:Int) 2000))) b).1=b.1+(l.map fun v=>min v.n 1000).sum:=by
  intro l
  induction l with
  | nil=>intro b _ _ _;simp
  | cons a l ih=>
   intro b hp h0 hs
   have ha:=hp a (List.mem_cons_self ..)
   rw[List.length_cons] at hs
   rw[List.foldl_cons,ih _ (fun v hv=>hp v (List.mem_cons_of_mem _ hv)) (by rw[maxI_eq,minI_eq,wr64 (by omega)];omega) (by rw[maxI_eq,minI_eq,wr64 (by omega)];omega)]
   rw[maxI_eq,minI_eq,wr64 (by omega),List.map_cons,List.sum_cons]
   omega
 have h3:=key l (0,0) hp (Int.le_refl _) (by show (0:Int)+_≤_;omega)
 have h2':(l.map fun v=>min v.n 1000).sum≤1000:=by
  have:(0:Int)+(l.map fun v=>min v.n 1000).sum≤1000:=by rw[← h3];exact h2
  omega
 have key2:∀ l:List Many,(∀ v∈l,1≤v.n)→0≤(l.map fun v=>min v.n 1000).sum∧((l.map fun v=>min v.n 1000).sum≤0→l=[])∧((l.map fun v=>min v.n 1000).sum≤1000→(l.map (·.n)).sum=(l.map fun v=>min v.n 1000).sum∨∃ v,l=[v]):=by
  intro l
  induction l with
  | nil=>intro _;simp
  | cons a l ih=>
   intro hp
   have ha:=hp a (List.mem_cons_self ..)
   obtain ⟨i1,i2,i3⟩:=ih (fun v hv=>hp v (List.mem_cons_of_mem _ hv))
   simp only[List.map_cons,List.sum_cons]
   refine ⟨by omega,fun hs=>by omega,fun hs=>?_⟩
   by_cases h1000:a.n≤1000
   ·rcases i3 (by omega) with h | ⟨v,rfl⟩
    ·left;omega
    ·left
     simp only[List.map_cons,List.map_nil,List.sum_cons,List.sum_nil] at hs ⊢
     omega
   ·right
    exact ⟨a,by rw[i2 (by omega)]⟩
 rcases (key2 l hp).2.2 h2' with h | ⟨v,rfl⟩
 ·omega
 ·have:=hp' v (List.mem_cons_self ..)
  simp only[List.map_cons,List.map_nil,List.sum_cons,List.sum_nil]
  omega
theorem same5_ok:FnPure Tryd.prog 26 aLMM2 dBool (fun g=>decide (g.1=g.2)) (fun _=>[]):=by
 have h:=same5_okS (fun _=>[]) fun g hb _=>by
  obtain ⟨a,b⟩:=g
  have ha:a.length≤maxLen:=hb.1.1
  show same5_side a b
  unfold same5_side
  simp only[El.okL_eq,El.ag_eq]
  exact fun hc=>⟨trivial,trivial,ixJ0 rfl ha (ne_len hc)⟩
 refine pure_congr h fun g hb _=>?_
 obtain ⟨a,b⟩:=g
 have ha:a.length≤maxLen:=hb.1.1
 show same5_F a b=decide (a=b)
 unfold same5_F same5_q1
 simp only[El.ag_eq]
 cases hc:((a.length:Int) != (b.length:Int)) with
 | true=>
  have:a≠b:=fun e=>by subst e;simp at hc
  simp[this]
 | false=>
  have hl:=ne_len hc
  have h1:loopF (fun g:sb5_G=>sb5_R g.1 g.2.1 g.2.2.1 g.2.2.2) sb5_M (a,b,0,false)=_:=sb5_run (a,b) false rfl ha hl
  rw[h1]
  rcases scan_same (x:=0) b eM.dflt (st:=sb5_S (a,b)) (fun _ _ _=>rfl) a 0 false (by omega) with ⟨h2,h3⟩ | ⟨h2,h3,h4⟩
  ·have h3:scan 0 (sb5_S (a,b)) 0 a false=_:=h3
   rw[h3]
   rw[List.drop_zero] at h2
   simp[h2,exB]
  ·have h3:(scan 0 (sb5_S (a,b)) 0 a false).1=_:=h3
   have h4:(scan 0 (sb5_S (a,b)) 0 a false).2.2=_:=h4
   rw[List.drop_zero] at h2
   show (bif exB .ret (scan 0 (sb5_S (a,b)) 0 a false).1 then (scan 0 (sb5_S (a,b)) 0 a false).2.2 else true)=_
   rw[h3,h4]
   simp[h2,exB]
end Go.Proofs.YtmegbepjdololaaDoor

namespace Go.Proofs.YtmegbepjdololaaDoor
open Go.RowKit Go.Sx
set_option maxRecDepth 100000
set_option linter.unusedVariables false
theorem mcl5 (xs:List Many):wTree Tryd.prog (PTab.gamz (PTab.nil:PTab Tryd.prog) [] []) noΛ 100 62 84 eM (aLM.enc xs) =
 Tr.all fun cs=>Tr.giv (cs.isEmpty=false→xs.length=(0:Nat)) (Tr.br (false != !cs.isEmpty) (Tr.ret []) (Tr.ask ((0:Nat)≤(0:Nat)∧(∀ (e:Nat),e<xs.length→(eM.els xs e).all SV.one=true)∧(0:Nat)+xs.length≤maxLen∧((0:Nat)+xs.length) * Tryd.prog.types[(84:Nat)].bytes≤(140737488355328:Nat)) (Tr.ask ((0:Nat)+xs.length=(0:Nat)+xs.length) (Tr.ask (∀ (e:Nat),e<min ((0:Nat)+xs.length) (0:Nat)→eM.OkP []) (Tr.ask (∀ (e:Nat),e<(0:Nat)+xs.length - (0:Nat)→True) (Tr.ret (List.map (fun x=>eM.get []) (List.range (min ((0:Nat)+xs.length) (0:Nat)))++eM.lst ((0:Nat)+xs.length - (0:Nat)) (eM.els xs)))))))):=by kernel_rfl
end Go.Proofs.YtmegbepjdololaaDoor

namespace Go.Proofs.YtmegbepjdololaaDoor
open Go.RowKit Go.Sx Go.Lp
set_option maxRecDepth 100000
theorem clM5 (xs:List Many):List.map (fun _=>eM.get []) (List.range (min (0+xs.length) 0))++eM.lst (0+xs.length - 0) (eM.els xs)=xs:=by
 have h2:min (0+xs.length) 0=0:=by omega
 rw[h2,show 0+xs.length - 0=xs.length by omega,eM.lst_els]
 rfl
theorem bytM5 (h:84<Tryd.prog.types.size):(Tryd.prog.types[84]'h).bytes=32:=by kernel_rfl
theorem cloneM5_row:FnRow Tryd.prog 62 84 eM aLM (fun xs=>xs) (fun xs=>[xs.length≤KS]):=
 row_of_tree (PTab.okz (PTab.nil:PTab Tryd.prog) [] []) noΛ_ok 100 fun xs _ hp=>by
  have h:xs.length≤KS:=hp _ (List.mem_cons_self ..)
  unfold KS at h
  rw[mcl5]
  intro cs hcs
  refine ⟨fun hc=>?_,fun _=>⟨⟨Nat.le_refl _,fun e _=>eM.one_els xs e,by unfold maxLen;omega,by rw[bytM5];omega⟩,rfl,fun e he=>by omega,fun _ _=>trivial,?_⟩⟩
  ·have hx:xs=[]:=List.length_eq_zero_iff.1 (hcs (by cases hh:cs.isEmpty with
    | true=>rw[hh] at hc;cases hc
    | false=>rfl))
   exact hx.symm
  ·exact clM5 xs
end Go.Proofs.YtmegbepjdololaaDoor

namespace Go.Proofs.YtmegbepjdololaaDoor
open Go.RowKit Go.Sx
set_option maxRecDepth 100000
set_option linter.unusedVariables false
end Go.Proofs.YtmegbepjdololaaDoor

namespace Go.Proofs.YtmegbepjdololaaDoor
open Go.RowKit Go.Sx
set_option maxRecDepth 100000
set_option linter.unusedVariables false
end Go.Proofs.YtmegbepjdololaaDoor

namespace Go.Proofs.YtmegbepjdololaaDoor
open Go.RowKit Go.Sx Go.Lp
set_option maxRecDepth 100000
theorem byt46c (h:46<Tryd.prog.types.size):(Tryd.prog.types[(46:Nat)]'h).bytes=24:=by kernel_rfl
def repR (k:Int) (r:Rec):List Rec:=List.replicate k.toNat r
theorem repR_step {k n:Int} (h:n<k) (r:Rec) (o:List Rec):(o++[r])++repR (k - (n+1)) r=o++repR (k - n) r:=by
 unfold repR
 rw[show (k - n).toNat=(k - (n+1)).toNat+1 by omega,List.replicate_succ,List.append_assoc]
 rfl
theorem repR_zero {k n:Int} (h:¬ n<k) (r:Rec) (o:List Rec):o++repR (k - n) r=o:=by
 unfold repR
 rw[show (k - n).toNat=0 by omega]
 exact List.append_nil _
def li_P (k n:Int) (out:List Rec) (f:LoopState×Option Code):Prop:=f=(.ready,none)∧0≤n∧k≤1048576∧(n≤k→(out.length:Int)+(k - n)≤2000000000)∧(k<n→(out.length:Int)≤2000000000)
theorem li_step {k n:Int} {out:List Rec} {f:LoopState×Option Code} (r:Rec) (h:li_P k n out f) (hlt:n<k):li_P k (n+1) (out++[r]) f:=by
 obtain ⟨h1,h2,h3,h4,h5⟩:=h
 have h4:=h4 (by omega)
 refine ⟨h1,by omega,h3,fun _=>?_,fun _=>by omega⟩
 rw[List.length_append]
 simp only[List.length_cons,List.length_nil]
 omega
end Go.Proofs.YtmegbepjdololaaDoor

namespace Go.Proofs.YtmegbepjdololaaDoor
open Go.RowKit Go.Sx
set_option maxRecDepth 100000
set_option linter.unusedVariables false
end Go.Proofs.YtmegbepjdololaaDoor

namespace Go.Proofs.YtmegbepjdololaaDoor
open Go.RowKit Go.Sx Go.Lp
set_option maxRecDepth 100000
def listM (l:List Many):List Rec:=l.flatMap fun v=>repR v.n v.r
theorem repR_len (k:Int) (r:Rec):(repR k r).length=k.toNat:=List.length_replicate
def Bnd (xs:List Many) (out:List Rec) (i:Int):Prop:=xs.length≤1000∧(∀ e:Nat,(xs.getD e eM.dflt).n≤1048576)∧(out.length:Int)≤1048576 * i
theorem bnd_in {xs:List Many} {out:List Rec} {i:Int} (h:Bnd xs out i) (h0:0≤i) (h1:i<(xs.length:Int)):li_P (xs.getD i.toNat eM.dflt).n 0 out (.ready,none):=by
 obtain ⟨a1,a2,a3⟩:=h
 have:=a2 i.toNat
 exact ⟨rfl,Int.le_refl _,this,fun _=>by omega,fun _=>by omega⟩
theorem bnd_step {xs:List Many} {out:List Rec} {i:Int} (h:Bnd xs out i) (k:Int) (hk:k≤1048576) (r:Rec):Bnd xs (out++repR k r) (i+1):=by
 obtain ⟨a1,a2,a3⟩:=h
 refine ⟨a1,a2,?_⟩
 rw[List.length_append,repR_len]
 omega
theorem getD_at {xs:List Many} {i:Nat} {a:Many} (h:xs[i]?=some a):xs.getD i eM.dflt=a:=by rw[List.getD_eq_getElem?_getD,h];rfl
end Go.Proofs.YtmegbepjdololaaDoor

namespace Go.Proofs.YtmegbepjdololaaDoor
open Go.RowKit Go.Sx
set_option maxRecDepth 100000
set_option linter.unusedVariables false
end Go.Proofs.YtmegbepjdololaaDoor

namespace Go.Proofs.YtmegbepjdololaaDoor
open Go.RowKit Go.Sx Go.Lp
set_option maxRecDepth 100000
noncomputable def listC (l:List Many):List Rec:=bif bagF l != (0:Int) then [] else listM l
theorem bnd_bag {l:List Many} (hl:l.length≤1000) (h:bagF l=0):Bnd l [] 0:=⟨hl,fun e=>by
 rw[List.getD_eq_getElem?_getD]
 cases he:l[e]? with
 | none=>show (eM.dflt).n≤1048576;exact (by decide:(0:Int)≤1048576)
 | some v=>
  have:=bag_pos h v (List.mem_of_getElem? he)
  show v.n≤_
  omega,by rw[List.length_nil];exact Int.le_refl _⟩
end Go.Proofs.YtmegbepjdololaaDoor

namespace Go.Proofs.YtmegbepjdololaaDoor
open Go.RowKit Go.Sx
set_option maxRecDepth 100000
set_option linter.unusedVariables false
noncomputable def cln5_F (xs:List Rec):Rv.T rLR5:=
 List.map (fun x=>eR.get []) (List.range (min ((0:Nat)+xs.length) (0:Nat)))++eR.lst ((0:Nat)+xs.length - (0:Nat)) (eR.els xs)
def cln5_side (xs:List Rec):Prop:=
 ∀ (cs:List Nat),(cs.isEmpty=false→xs.length=(0:Nat))→((false != !cs.isEmpty)=true→∀ (d:List Rec),[]=List.map (fun x=>eR.get []) (List.range (min ((0:Nat)+xs.length) (0:Nat)))++eR.lst ((0:Nat)+xs.length - (0:Nat)) (eR.els xs))∧((false != !cs.isEmpty)=false→((0:Nat)≤(0:Nat)∧(∀ (e:Nat),e<xs.length→(eR.els xs e).all SV.one=true)∧(0:Nat)+xs.length≤maxLen∧((0:Nat)+xs.length) * Tryd.prog.types[(46:Nat)].bytes≤(140737488355328:Nat))∧(0:Nat)+xs.length≤(0:Nat)+xs.length∧(∀ (e:Nat),e<min ((0:Nat)+xs.length) (0:Nat)→eR.OkP [])∧(∀ (e:Nat),e<(0:Nat)+xs.length - (0:Nat)→True)∧∀ (d:List Rec),List.map (fun x=>eR.get []) (List.range (min ((0:Nat)+xs.length) (0:Nat)))++eR.lst ((0:Nat)+xs.length - (0:Nat)) (eR.els xs)=List.map (fun x=>eR.get []) (List.range (min ((0:Nat)+xs.length) (0:Nat)))++eR.lst ((0:Nat)+xs.length - (0:Nat)) (eR.els xs))
theorem cln5_okS (pre:DA.T aLR1→List Prop) (h:∀ g,DA.bd aLR1 g→(∀ p∈pre g,p)→cln5_side g):FnPure Tryd.prog 31 aLR1 (Rv.D rLR5) (fun g=>cln5_F g) pre:=res_of_side (R:=rLR5) (Γ:=(PTab.gamz tabG6 [] [])) (Λ:=noΛ) (PTab.okz tabG6 [] []) noΛ_ok 100 default (fun g=>cln5_side g) (fun g=>by kernel_rfl) (fun g=>by kernel_rfl) h
end Go.Proofs.YtmegbepjdololaaDoor

namespace Go.Proofs.YtmegbepjdololaaDoor
open Go.RowKit Go.Sx Go.Lp
set_option maxRecDepth 100000
theorem cln5_ok:FnPure Tryd.prog 31 aLR1 (Rv.D rLR5) (fun xs=>xs) (fun xs=>[xs.length≤KS]):=by
 refine pure_congr (cln5_okS _ fun xs _ hp=>?_) fun xs _ _=>clR xs
 have h:xs.length≤KS:=hp _ (List.mem_cons_self ..)
 unfold KS at h
 unfold cln5_side
 intro cs hcs
 refine ⟨fun hc d=>?_,fun _=>⟨⟨Nat.le_refl _,fun e _=>onesR xs e,by unfold maxLen;omega,by rw[bytR];omega⟩,Nat.le_refl _,fun e he=>by omega,fun _ _=>trivial,fun _=>rfl⟩⟩
 have hx:xs=[]:=List.length_eq_zero_iff.1 (hcs (by cases hh:cs.isEmpty with
  | true=>rw[hh] at hc;cases hc
  | false=>rfl))
 subst hx
 rfl
end Go.Proofs.YtmegbepjdololaaDoor

namespace Go.Proofs.YtmegbepjdololaaDoor
open Go.RowKit Go.Sx
set_option maxRecDepth 100000
set_option linter.unusedVariables false
abbrev Pcs:=List (List Rec)
abbrev dLLR:Dv Pcs:=.list (eList eR)
noncomputable def tabX3:PTab Tryd.prog:=(tabG6.cons 31 (pconR aLR1 (Rv.D rLR5) (fun xs=>xs) (fun xs=>[xs.length≤KS])) (conR_ok cln5_ok)).cons 30 (pconP aLRR5 dBool (fun g=>decide (g.1=g.2)) (fun g=>[g.1.length≤KB])) (conP_ok elR_ok puB)
abbrev bta_G:Type:=List Rec×Pcs
noncomputable def bta_LP:LP 0 bta_G:=.pair (.slot 0 0 dLR) (.row 0 3 32 (eList eR))
noncomputable def bta_R (l:List Rec) (o:Pcs):Ex×bta_G:=
 bif decide ((↑l.length:Int) > (0:Int)) then (Ex.normal,eR.lst (l.length - (List.foldl (fun a x=>bif false then if x.snd.snd > a then x.snd.snd else a else if x.snd.snd<a then x.snd.snd else a) (↑l.length:Int) [(true,IntKind.i64,(64:Int))]).toNat) (shEl (List.foldl (fun a x=>bif false then if x.snd.snd > a then x.snd.snd else a else if x.snd.snd<a then x.snd.snd else a) (↑l.length:Int) [(true,IntKind.i64,(64:Int))]).toNat (eR.els l)),(eList eR).lst (min (List.length o+(1:Nat)) (List.length o)) ((eList eR).els o)++List.map (fun x=>eR.ag (eR.lst (List.foldl (fun a x=>bif false then if x.snd.snd > a then x.snd.snd else a else if x.snd.snd<a then x.snd.snd else a) (↑l.length:Int) [(true,IntKind.i64,(64:Int))]).toNat (eR.els l))) (List.range (List.length o+(1:Nat) - List.length o)))
 else (Ex.exit (0:Nat),eR.ag l,(eList eR).ag o)
def bta_side (l:List Rec) (o:Pcs):Prop:=
 (decide ((↑l.length:Int) > (0:Int))=true→((0:Int)≤List.foldl (fun a x=>bif false then if x.snd.snd > a then x.snd.snd else a else if x.snd.snd<a then x.snd.snd else a) (↑l.length:Int) [(true,IntKind.i64,(64:Int))]∧List.foldl (fun a x=>bif false then if x.snd.snd > a then x.snd.snd else a else if x.snd.snd<a then x.snd.snd else a) (↑l.length:Int) [(true,IntKind.i64,(64:Int))]≤(↑l.length:Int))∧(∀ (e:Nat),e<(List.foldl (fun a x=>bif false then if x.snd.snd > a then x.snd.snd else a else if x.snd.snd<a then x.snd.snd else a) (↑l.length:Int) [(true,IntKind.i64,(64:Int))]).toNat→eR.Ok (eR.els l e))∧(eR.lst (List.foldl (fun a x=>bif false then if x.snd.snd > a then x.snd.snd else a else if x.snd.snd<a then x.snd.snd else a) (↑l.length:Int) [(true,IntKind.i64,(64:Int))]).toNat (eR.els l)).length≤KS∧(List.length o≤List.length o∧True∧List.length o+(1:Nat)≤maxLen∧(List.length o+(1:Nat)) * Tryd.prog.types[(32:Nat)].bytes≤(140737488355328:Nat))∧l.length≤l.length∧((0:Int)≤List.foldl (fun a x=>bif false then if x.snd.snd > a then x.snd.snd else a else if x.snd.snd<a then x.snd.snd else a) (↑l.length:Int) [(true,IntKind.i64,(64:Int))]∧List.foldl (fun a x=>bif false then if x.snd.snd > a then x.snd.snd else a else if x.snd.snd<a then x.snd.snd else a) (↑l.length:Int) [(true,IntKind.i64,(64:Int))]≤(↑l.length:Int))∧(∀ (e:Nat),e<l.length - (List.foldl (fun a x=>bif false then if x.snd.snd > a then x.snd.snd else a else if x.snd.snd<a then x.snd.snd else a) (↑l.length:Int) [(true,IntKind.i64,(64:Int))]).toNat→eR.Ok (shEl (List.foldl (fun a x=>bif false then if x.snd.snd > a then x.snd.snd else a else if x.snd.snd<a then x.snd.snd else a) (↑l.length:Int) [(true,IntKind.i64,(64:Int))]).toNat (eR.els l) e))∧List.length o+(1:Nat)≤List.length o+(1:Nat)∧(∀ (e:Nat),e<min (List.length o+(1:Nat)) (List.length o)→∀ (p:Prop),p∈[eR.okL (List.getD o e (eList eR).dflt)]→p)∧∀ (e:Nat),e<List.length o+(1:Nat) - List.length o→∀ (p:Prop),p∈[eR.okL (eR.lst (List.foldl (fun a x=>bif false then if x.snd.snd > a then x.snd.snd else a else if x.snd.snd<a then x.snd.snd else a) (↑l.length:Int) [(true,IntKind.i64,(64:Int))]).toNat (eR.els l))]→p)∧(decide ((↑l.length:Int) > (0:Int))=false→eR.okL l∧List.length o≤List.length o∧∀ (e:Nat),e<List.length o→∀ (p:Prop),p∈[eR.okL (List.getD o e (eList eR).dflt)]→p)
theorem bta_one:((loopsOf Tryd.prog 28).filter fun c=>Nat.beq (lkey c) 2).length=1:=by kernel_rfl
theorem bta_es (g:bta_G):(bta_R g.1 g.2).1=.normal∨(bta_R g.1 g.2).1∈([.exit 0]:List Ex):=by
 unfold bta_R
 repeat' (first | (left;rfl) | (right;simp only[cond_true,cond_false];simp;done) | (rw[Bool.cond_eq_ite];split))
noncomputable abbrev bta_C (Inv:bta_G→List Prop) (m:bta_G→Nat):LCon:=loopR [.exit 0] (loopBody Tryd.prog 28 2) bta_LP [] 22 Inv (fun g=>bta_R g.1 g.2) m
theorem bta_loop (Inv:bta_G→List Prop) (m:bta_G→Nat) (hs:∀ g,allP (Inv g)→bta_side g.1 g.2) (hg:Goes (fun g:bta_G=>bta_R g.1 g.2) m fun g=>allP (Inv g)):∀ b∈loopsOf Tryd.prog 28,lkey b=2→LoopOk Tryd.prog b (bta_C Inv m).g:=loop_run (Γ:=(PTab.gamz tabX3 [] [])) (Λ:=noΛ) (PTab.okz tabX3 [] []) noΛ_ok 100 28 2 22 bta_LP [] Inv (fun g=>bta_R g.1 g.2) (fun g=>bta_side g.1 g.2) m default [.exit 0] bta_one (fun rd T B HL HB ds g=>by kernel_rfl) (fun rd T B HL HB ds g=>by kernel_rfl) hs hg bta_es
abbrev btb_G:Type:=List Rec×Pcs×Int
noncomputable def btb_LP:LP 0 btb_G:=.pair (.slot 0 0 dLR) (.pair (.row 0 3 32 (eList eR)) (.slot 0 4 dI))
noncomputable def btb_R (l:List Rec) (o:Pcs) (i:Int):Ex×btb_G:=
 bif decide (i<(↑l.length:Int)) then (Ex.normal,eR.ag l,(eList eR).lst (min (List.length o+(1:Nat)) (List.length o)) ((eList eR).els o)++List.map (fun x=>eR.lst ((0:Nat)+((List.foldl (fun a x=>bif false then if x.snd.snd > a then x.snd.snd else a else if x.snd.snd<a then x.snd.snd else a) (IntKind.i64.wrap (i+(64:Int))) [(false,IntKind.i64,(↑l.length:Int))]).toNat - i.toNat)) (ElE.app (0:Nat) (ElE.fn fun x=>[]) (ElE.fn (shEl i.toNat (eR.els l)))).at) (List.range (List.length o+(1:Nat) - List.length o)),IntKind.i64.wrap (i+(64:Int)))
 else (Ex.exit (0:Nat),eR.ag l,(eList eR).ag o,i)
def btb_side (l:List Rec) (o:Pcs) (i:Int):Prop:=
 (decide (i<(↑l.length:Int))=true→((0:Int)≤List.foldl (fun a x=>bif false then if x.snd.snd > a then x.snd.snd else a else if x.snd.snd<a then x.snd.snd else a) (IntKind.i64.wrap (i+(64:Int))) [(false,IntKind.i64,(↑l.length:Int))]∧List.foldl (fun a x=>bif false then if x.snd.snd > a then x.snd.snd else a else if x.snd.snd<a then x.snd.snd else a) (IntKind.i64.wrap (i+(64:Int))) [(false,IntKind.i64,(↑l.length:Int))]≤(↑l.length:Int))∧((0:Int)≤i∧i≤(↑(List.foldl (fun a x=>bif false then if x.snd.snd > a then x.snd.snd else a else if x.snd.snd<a then x.snd.snd else a) (IntKind.i64.wrap (i+(64:Int))) [(false,IntKind.i64,(↑l.length:Int))]).toNat:Int))∧(True∧(∀ (e:Nat),e<(List.foldl (fun a x=>bif false then if x.snd.snd > a then x.snd.snd else a else if x.snd.snd<a then x.snd.snd else a) (IntKind.i64.wrap (i+(64:Int))) [(false,IntKind.i64,(↑l.length:Int))]).toNat - i.toNat→(shEl i.toNat (eR.els l) e).all SV.one=true)∧(0:Nat)+((List.foldl (fun a x=>bif false then if x.snd.snd > a then x.snd.snd else a else if x.snd.snd<a then x.snd.snd else a) (IntKind.i64.wrap (i+(64:Int))) [(false,IntKind.i64,(↑l.length:Int))]).toNat - i.toNat)≤maxLen∧((0:Nat)+((List.foldl (fun a x=>bif false then if x.snd.snd > a then x.snd.snd else a else if x.snd.snd<a then x.snd.snd else a) (IntKind.i64.wrap (i+(64:Int))) [(false,IntKind.i64,(↑l.length:Int))]).toNat - i.toNat)) * Tryd.prog.types[(46:Nat)].bytes≤(140737488355328:Nat))∧(0:Nat)+((List.foldl (fun a x=>bif false then if x.snd.snd > a then x.snd.snd else a else if x.snd.snd<a then x.snd.snd else a) (IntKind.i64.wrap (i+(64:Int))) [(false,IntKind.i64,(↑l.length:Int))]).toNat - i.toNat)≤(0:Nat)+((List.foldl (fun a x=>bif false then if x.snd.snd > a then x.snd.snd else a else if x.snd.snd<a then x.snd.snd else a) (IntKind.i64.wrap (i+(64:Int))) [(false,IntKind.i64,(↑l.length:Int))]).toNat - i.toNat)∧(List.length o≤List.length o∧True∧List.length o+(1:Nat)≤maxLen∧(List.length o+(1:Nat)) * Tryd.prog.types[(32:Nat)].bytes≤(140737488355328:Nat))∧eR.okL l∧List.length o+(1:Nat)≤List.length o+(1:Nat)∧(∀ (e:Nat),e<min (List.length o+(1:Nat)) (List.length o)→∀ (p:Prop),p∈[eR.okL (List.getD o e (eList eR).dflt)]→p)∧∀ (e:Nat),e<List.length o+(1:Nat) - List.length o→∀ (p:Prop),p∈[∀ (e:Nat),e<(0:Nat)+((List.foldl (fun a x=>bif false then if x.snd.snd > a then x.snd.snd else a else if x.snd.snd<a then x.snd.snd else a) (IntKind.i64.wrap (i+(64:Int))) [(false,IntKind.i64,(↑l.length:Int))]).toNat - i.toNat)→eR.Ok ((ElE.app (0:Nat) (ElE.fn fun x=>[]) (ElE.fn (shEl i.toNat (eR.els l)))).at e)]→p)∧(decide (i<(↑l.length:Int))=false→eR.okL l∧List.length o≤List.length o∧∀ (e:Nat),e<List.length o→∀ (p:Prop),p∈[eR.okL (List.getD o e (eList eR).dflt)]→p)
theorem btb_one:((loopsOf Tryd.prog 29).filter fun c=>Nat.beq (lkey c) 3).length=1:=by kernel_rfl
theorem btb_es (g:btb_G):(btb_R g.1 g.2.1 g.2.2).1=.normal∨(btb_R g.1 g.2.1 g.2.2).1∈([.exit 0]:List Ex):=by
 unfold btb_R
 repeat' (first | (left;rfl) | (right;simp only[cond_true,cond_false];simp;done) | (rw[Bool.cond_eq_ite];split))
noncomputable abbrev btb_C (Inv:btb_G→List Prop) (m:btb_G→Nat):LCon:=loopR [.exit 0] (loopBody Tryd.prog 29 3) btb_LP [] 26 Inv (fun g=>btb_R g.1 g.2.1 g.2.2) m
theorem btb_loop (Inv:btb_G→List Prop) (m:btb_G→Nat) (hs:∀ g,allP (Inv g)→btb_side g.1 g.2.1 g.2.2) (hg:Goes (fun g:btb_G=>btb_R g.1 g.2.1 g.2.2) m fun g=>allP (Inv g)):∀ b∈loopsOf Tryd.prog 29,lkey b=3→LoopOk Tryd.prog b (btb_C Inv m).g:=loop_run (Γ:=(PTab.gamz tabX3 [] [])) (Λ:=noΛ) (PTab.okz tabX3 [] []) noΛ_ok 100 29 3 26 btb_LP [] Inv (fun g=>btb_R g.1 g.2.1 g.2.2) (fun g=>btb_side g.1 g.2.1 g.2.2) m default [.exit 0] btb_one (fun rd T B HL HB ds g=>by kernel_rfl) (fun rd T B HL HB ds g=>by kernel_rfl) hs hg btb_es
abbrev eqf_G:Type:=Pcs×Unit×Pcs×Int×Int×Bool
noncomputable def eqf_LP:LP 0 eqf_G:=.pair (.slot 0 1 dLLR) (.pair (.fix 0 2 (.fn 30 [])) (.pair (.slot 0 15 dLLR) (.pair (.slot 0 16 dI) (.pair (.slot 0 17 dI) (.slot 0 6 dBool)))))
noncomputable def eqf_R (ys:Pcs) (_u:Unit) (xs:Pcs) (n:Int) (i:Int) (r:Bool):Ex×eqf_G:=
 bif decide (i<n) then bif !decide (eR.ag (List.getD xs i.toNat (eList eR).dflt)=eR.ag (List.getD ys i.toNat (eList eR).dflt)) then (Ex.ret,(eList eR).ag ys,(),(eList eR).ag xs,n,i,false) else (Ex.normal,(eList eR).ag ys,(),(eList eR).ag xs,n,IntKind.i64.wrap (i+(1:Int)),r)
 else (Ex.exit (0:Nat),(eList eR).ag ys,(),(eList eR).ag xs,n,i,r)
def eqf_side (ys:Pcs) (_u:Unit) (xs:Pcs) (n:Int) (i:Int) (r:Bool):Prop:=
 (decide (i<n)=true→((0:Int)≤i∧i<(↑(List.length xs):Int))∧((0:Int)≤i∧i<(↑(List.length ys):Int))∧eR.okL (List.getD xs i.toNat (eList eR).dflt)∧eR.okL (List.getD ys i.toNat (eList eR).dflt)∧(eR.ag (List.getD xs i.toNat (eList eR).dflt)).length≤KB∧((!decide (eR.ag (List.getD xs i.toNat (eList eR).dflt)=eR.ag (List.getD ys i.toNat (eList eR).dflt)))=true→(eList eR).okL ys∧(eList eR).okL xs)∧((!decide (eR.ag (List.getD xs i.toNat (eList eR).dflt)=eR.ag (List.getD ys i.toNat (eList eR).dflt)))=false→(eList eR).okL ys∧(eList eR).okL xs))∧(decide (i<n)=false→(eList eR).okL ys∧(eList eR).okL xs)
theorem eqf_one:((loopsOf Tryd.prog 27).filter fun c=>Nat.beq (lkey c) 4).length=1:=by kernel_rfl
abbrev eqf_GC:Type:=Pcs×Pcs×Int
abbrev eqf_GB:Type:=Unit×Bool
def eqf_f (g:eqf_G):Int×eqf_GC×eqf_GB:=(g.2.2.2.2.1,(g.1,g.2.2.1,g.2.2.2.1),(g.2.1,g.2.2.2.2.2))
def eqf_g (d:Int×eqf_GC×eqf_GB):eqf_G:=(d.2.1.1,d.2.2.1,d.2.1.2.1,d.2.1.2.2,d.1,d.2.2.2)
theorem eqf_es (g:eqf_G):(eqf_R g.1 g.2.1 g.2.2.1 g.2.2.2.1 g.2.2.2.2.1 g.2.2.2.2.2).1=.normal∨(eqf_R g.1 g.2.1 g.2.2.1 g.2.2.2.1 g.2.2.2.2.1 g.2.2.2.2.2).1∈([.ret,.exit 0]:List Ex):=by
 unfold eqf_R
 repeat' (first | (left;rfl) | (right;simp only[cond_true,cond_false];simp;done) | (rw[Bool.cond_eq_ite];split))
noncomputable abbrev eqf_C (Inv:eqf_G→List Prop) (m:eqf_G→Nat):LCon:=loopR [.ret,.exit 0] (loopBody Tryd.prog 27 4) eqf_LP [] 32 Inv (fun g=>eqf_R g.1 g.2.1 g.2.2.1 g.2.2.2.1 g.2.2.2.2.1 g.2.2.2.2.2) m
theorem eqf_loop (Inv:eqf_G→List Prop) (m:eqf_G→Nat) (hs:∀ g,allP (Inv g)→eqf_side g.1 g.2.1 g.2.2.1 g.2.2.2.1 g.2.2.2.2.1 g.2.2.2.2.2) (hg:Goes (fun g:eqf_G=>eqf_R g.1 g.2.1 g.2.2.1 g.2.2.2.1 g.2.2.2.2.1 g.2.2.2.2.2) m fun g=>allP (Inv g)):∀ b∈loopsOf Tryd.prog 27,lkey b=4→LoopOk Tryd.prog b (eqf_C Inv m).g:=loop_run (Γ:=(PTab.gamz tabX3 [] [])) (Λ:=noΛ) (PTab.okz tabX3 [] []) noΛ_ok 100 27 4 32 eqf_LP [] Inv (fun g=>eqf_R g.1 g.2.1 g.2.2.1 g.2.2.2.1 g.2.2.2.2.1 g.2.2.2.2.2) (fun g=>eqf_side g.1 g.2.1 g.2.2.1 g.2.2.2.1 g.2.2.2.2.1 g.2.2.2.2.2) m default [.ret,.exit 0] eqf_one (fun rd T B HL HB ds g=>by kernel_rfl) (fun rd T B HL HB ds g=>by kernel_rfl) hs hg eqf_es
end Go.Proofs.YtmegbepjdololaaDoor

namespace Go.Proofs.YtmegbepjdololaaDoor
open Go.RowKit Go.Sx Go.Lp
set_option maxRecDepth 100000
theorem mnF (z:Bool) (a b:Int):List.foldl (fun a (x:Bool×IntKind×Int)=>bif false then if x.snd.snd > a then x.snd.snd else a else if x.snd.snd<a then x.snd.snd else a) a [(z,IntKind.i64,b)]=min a b:=minI_eq a b
theorem byt32 (h:32<Tryd.prog.types.size):(Tryd.prog.types[(32:Nat)]'h).bytes=24:=by kernel_rfl
theorem byt46b (h:46<Tryd.prog.types.size):(Tryd.prog.types[(46:Nat)]'h).bytes=24:=by kernel_rfl
theorem lst_ap (o:Pcs) (y:List Rec):(eList eR).lst (min (List.length o+1) (List.length o)) ((eList eR).els o)++List.map (fun _=>y) (List.range (List.length o+1 - List.length o))=o++[y]:=lst_app1 (eList eR) o y
def bta_P (l:List Rec) (o:Pcs):Prop:=List.length o+l.length≤1000000
abbrev bta_I (g:bta_G):List Prop:=[bta_P g.1 g.2]
abbrev bta_M (g:bta_G):Nat:=g.1.length
noncomputable abbrev bta_RR (g:bta_G):Ex×bta_G:=bta_R g.1 g.2
theorem bta_RF (l:List Rec) (o:Pcs):bta_R l o=if l.length=0 then (.exit 0,l,o) else (.normal,l.drop 64,o++[l.take 64]):=by
 unfold bta_R
 simp only[mnF,El.ag_eq,lst_ap]
 by_cases h:l.length=0
 ·rw[if_pos h,decide_eq_false (by omega)]
  rfl
 ·rw[if_neg h,decide_eq_true (by omega),cond_true]
  have e1:eR.lst (min (l.length:Int) 64).toNat (eR.els l)=l.take 64:=by
   rw[El.lst_take _ _ _ (by omega)]
   by_cases h2:l.length≤64
   ·rw[List.take_of_length_le (by omega),List.take_of_length_le h2]
   ·congr 1;omega
  have e2:eR.lst (l.length - (min (l.length:Int) 64).toNat) (shEl (min (l.length:Int) 64).toNat (eR.els l))=l.drop 64:=by
   rw[El.lst_sh _ _ _ _ (by omega),List.take_of_length_le (by rw[List.length_drop];omega)]
   by_cases h2:l.length≤64
   ·rw[List.drop_of_length_le (by omega),List.drop_of_length_le h2]
   ·congr 1;omega
  rw[e1,e2]
theorem bta_goes:Goes bta_RR bta_M fun g=>allP (bta_I g):=by
 rintro ⟨l,o⟩ hi hn
 have h:bta_P l o:=hi _ (List.mem_cons_self ..)
 have eq:bta_RR (l,o)=_:=bta_RF l o
 rw[eq] at hn ⊢
 by_cases h0:l.length=0
 ·rw[if_pos h0] at hn;cases hn
 ·rw[if_neg h0]
  refine ⟨fun p hp=>?_,?_⟩
  ·rw[List.mem_singleton.1 hp]
   unfold bta_P at h
   show bta_P (l.drop 64) (o++[l.take 64])
   unfold bta_P
   rw[List.length_append,List.length_drop]
   simp only[List.length_cons,List.length_nil]
   omega
  ·show (l.drop 64).length<l.length
   rw[List.length_drop]
   omega
theorem bta_ok:∀ b∈loopsOf Tryd.prog 28,lkey b=2→LoopOk Tryd.prog b (bta_C bta_I bta_M).g:=by
 refine bta_loop bta_I bta_M (fun g hi=>?_) bta_goes
 obtain ⟨l,o⟩:=g
 have h:bta_P l o:=hi _ (List.mem_cons_self ..)
 unfold bta_P at h
 show bta_side l o
 unfold bta_side
 simp only[mnF,El.okL_eq,El.ag_eq,byt32,El.lst_length]
 unfold maxLen KS
 refine ⟨fun hc=>?_,fun _=>⟨trivial,Nat.le_refl _,fun _ _ p hp=>by rw[List.mem_singleton.1 hp];trivial⟩⟩
 have hc:=of_decide_eq_true hc
 refine ⟨by omega,fun e _=>eR.ok_els l e,by omega,⟨Nat.le_refl _,trivial,by omega,by omega⟩,Nat.le_refl _,by omega,fun e _=>eR.ok_els l _,Nat.le_refl _,fun _ _ p hp=>by rw[List.mem_singleton.1 hp];trivial,fun _ _ p hp=>by rw[List.mem_singleton.1 hp];trivial⟩
theorem bta_run (l:List Rec) (o:Pcs) (h:bta_P l o):loopF bta_RR bta_M (l,o)=(.exit 0,[],o++pieces 64 l):=by
 refine loopF_induct bta_goes (Q:=fun g r=>r=(.exit 0,[],g.2++pieces 64 g.1)) ?_ ?_ (l,o) (fun p hp=>by rw[List.mem_singleton.1 hp];exact h)
 ·rintro ⟨l,o⟩ hi hn
  have eq:bta_RR (l,o)=_:=bta_RF l o
  rw[eq] at hn ⊢
  by_cases h0:l.length=0
  ·rw[if_pos h0]
   show _=(Ex.exit 0,[],o++pieces 64 l)
   rw[pieces_nil h0,List.append_nil,List.length_eq_zero_iff.1 h0]
  ·rw[if_neg h0] at hn;exact absurd rfl hn
 ·rintro ⟨l,o⟩ g' r hi he _ _ hq
  have eq:bta_RR (l,o)=_:=bta_RF l o
  rw[eq] at he
  by_cases h0:l.length=0
  ·rw[if_pos h0] at he;cases he
  ·rw[if_neg h0] at he
   simp only[Prod.mk.injEq,true_and] at he
   subst he
   rw[hq]
   show (Ex.exit 0,([]:List Rec),(o++[l.take 64])++pieces 64 (l.drop 64))=(Ex.exit 0,[],o++pieces 64 l)
   rw[pieces_step (by decide) h0,List.append_assoc]
   rfl
def btb_P (l:List Rec) (o:Pcs) (i:Int):Prop:=l.length≤1000000∧0≤i∧i≤l.length+64∧(List.length o:Int)≤i
abbrev btb_I (g:btb_G):List Prop:=[btb_P g.1 g.2.1 g.2.2]
abbrev btb_M (g:btb_G):Nat:=((g.1.length:Int) - g.2.2).toNat
noncomputable abbrev btb_RR (g:btb_G):Ex×btb_G:=btb_R g.1 g.2.1 g.2.2
theorem btb_RF (l:List Rec) (o:Pcs) (i:Int) (h:btb_P l o i):btb_R l o i=if i<(l.length:Int) then (.normal,l,o++[(l.drop i.toNat).take 64],i+64) else (.exit 0,l,o,i):=by
 obtain ⟨h1,h2,h3,h4⟩:=h
 unfold btb_R
 rw[wr64 (x:=i+64) (by omega)]
 simp only[mnF,El.ag_eq,lst_ap]
 by_cases h:i<(l.length:Int)
 ·rw[if_pos h,decide_eq_true h,cond_true]
  have e1:eR.lst (0+((min (i+64) (l.length:Int)).toNat - i.toNat)) (ElE.app 0 (ElE.fn fun _=>[]) (ElE.fn (shEl i.toNat (eR.els l)))).at=(l.drop i.toNat).take 64:=by
   have e0:(ElE.app 0 (ElE.fn fun _=>[]) (ElE.fn (shEl i.toNat (eR.els l)))).at=shEl i.toNat (eR.els l):=by
    funext e
    simp[ElE.at]
   rw[e0,Nat.zero_add,El.lst_sh _ _ _ _ (by omega)]
   by_cases h2:(l.drop i.toNat).length≤64
   ·rw[List.take_of_length_le (by rw[List.length_drop] at h2 ⊢;omega),List.take_of_length_le h2]
   ·rw[List.length_drop] at h2
    congr 1;omega
  rw[e1]
 ·rw[if_neg h,decide_eq_false h]
  rfl
theorem btb_step {l:List Rec} {o:Pcs} {i:Int} (h:btb_P l o i) (hlt:i<(l.length:Int)):btb_P l (o++[(l.drop i.toNat).take 64]) (i+64):=by
 obtain ⟨h1,h2,h3,h4⟩:=h
 refine ⟨h1,by omega,by omega,?_⟩
 rw[List.length_append]
 simp only[List.length_cons,List.length_nil]
 omega
theorem btb_goes:Goes btb_RR btb_M fun g=>allP (btb_I g):=by
 rintro ⟨l,o,i⟩ hi hn
 have h:btb_P l o i:=hi _ (List.mem_cons_self ..)
 have eq:btb_RR (l,o,i)=_:=btb_RF l o i h
 rw[eq] at hn ⊢
 by_cases h0:i<(l.length:Int)
 ·rw[if_pos h0]
  refine ⟨fun p hp=>by rw[List.mem_singleton.1 hp];exact btb_step h h0,?_⟩
  show ((l.length:Int) - (i+64)).toNat<((l.length:Int) - i).toNat
  omega
 ·rw[if_neg h0] at hn;cases hn
theorem btb_ok:∀ b∈loopsOf Tryd.prog 29,lkey b=3→LoopOk Tryd.prog b (btb_C btb_I btb_M).g:=by
 refine btb_loop btb_I btb_M (fun g hi=>?_) btb_goes
 obtain ⟨l,o,i⟩:=g
 have h:btb_P l o i:=hi _ (List.mem_cons_self ..)
 obtain ⟨h1,h2,h3,h4⟩:=h
 have h4:(List.length o:Int)≤i:=h4
 show btb_side l o i
 unfold btb_side
 rw[wr64 (x:=i+64) (by omega)]
 simp only[mnF,El.okL_eq,El.ag_eq,byt32,byt46b]
 unfold maxLen
 refine ⟨fun hc=>?_,fun _=>⟨trivial,Nat.le_refl _,fun _ _ p hp=>by rw[List.mem_singleton.1 hp];trivial⟩⟩
 have hc:=of_decide_eq_true hc
 refine ⟨by omega,by omega,⟨trivial,fun e _=>eR.one_els l _,by omega,by omega⟩,Nat.le_refl _,⟨Nat.le_refl _,trivial,by omega,by omega⟩,trivial,Nat.le_refl _,fun _ _ p hp=>by rw[List.mem_singleton.1 hp];trivial,fun _ _ p hp=>?_⟩
 rw[List.mem_singleton.1 hp]
 intro e _
 simp only[ElE.at]
 exact eR.ok_els l _
noncomputable def eqf_S (c:eqf_GC) (b:eqf_GB) (i:Int) (v:List Rec):Ex×eqf_GB:=bif !decide (v=List.getD c.1 i.toNat (eList eR).dflt) then (.ret,((),false)) else (.normal,b)
def eqf_K (c:eqf_GC) (_:eqf_GB) (_:Int):Prop:=List.length c.2.1=List.length c.1∧∀ e:Nat,(List.getD c.2.1 e (eList eR).dflt).length≤KB
abbrev eqf_I (g:eqf_G):List Prop:=ixI (fun c:eqf_GC=>c.2.2) (fun c=>c.2.1) eqf_K (eqf_f g)
abbrev eqf_M (g:eqf_G):Nat:=ixM (fun c:eqf_GC=>c.2.2) (eqf_f g)
theorem eqf_P:ixP eqf_S (fun c:eqf_GC=>c.2.1) eqf_K:=fun _ _ _ _ h _ _=>h
noncomputable abbrev eqf_RR (g:eqf_G):Ex×eqf_G:=eqf_R g.1 g.2.1 g.2.2.1 g.2.2.2.1 g.2.2.2.2.1 g.2.2.2.2.2
theorem eqf_RF (d:Int×eqf_GC×eqf_GB) (_:allP (ixI (fun c:eqf_GC=>c.2.2) (fun c=>c.2.1) eqf_K d)):eqf_RR (eqf_g d)=((ixF 0 (fun c:eqf_GC=>c.2.2) (fun c=>c.2.1) (eList eR).dflt eqf_S d).1,eqf_g (ixF 0 (fun c:eqf_GC=>c.2.2) (fun c=>c.2.1) (eList eR).dflt eqf_S d).2):=by
 obtain ⟨i,⟨ys,xs,n⟩,⟨⟨⟩,r⟩⟩:=d
 show eqf_R ys () xs n i r=_
 unfold eqf_R ixF eqf_S
 simp only[El.ag_eq]
 cases decide (i<n) with
 | false=>rfl
 | true=>
  simp only[cond_true]
  cases !decide (List.getD xs i.toNat (eList eR).dflt=List.getD ys i.toNat (eList eR).dflt) <;> rfl
theorem eqf_ok:∀ b∈loopsOf Tryd.prog 27,lkey b=4→LoopOk Tryd.prog b (eqf_C eqf_I eqf_M).g:=by
 refine eqf_loop eqf_I eqf_M (fun g hi=>?_) (ix_conj_goes (fun _=>rfl) (fun _=>rfl) eqf_RF eqf_P)
 obtain ⟨ys,⟨⟩,xs,n,i,r⟩:=g
 obtain ⟨h1,h2,h3,h4,h5,h6⟩:=hi _ (List.mem_cons_self ..)
 have h1:n=(List.length xs:Int):=h1
 have h3:0≤i:=h3
 have h4:i≤(List.length xs:Int):=h4
 have h5:List.length xs=List.length ys:=h5
 have h6:∀ e:Nat,(List.getD xs e (eList eR).dflt).length≤KB:=h6
 show eqf_side ys () xs n i r
 unfold eqf_side
 simp only[El.okL_eq,El.ag_eq]
 refine ⟨fun hlt=>?_,fun _=>⟨trivial,trivial⟩⟩
 have hlt:=of_decide_eq_true hlt
 exact ⟨⟨h3,by omega⟩,⟨h3,by omega⟩,trivial,trivial,h6 _,fun _=>⟨trivial,trivial⟩,fun _=>⟨trivial,trivial⟩⟩
noncomputable def ltX4:LTab Tryd.prog:=((LTab.nil.cons 28 2 (bta_C bta_I bta_M) bta_ok).cons 29 3 (btb_C btb_I btb_M) btb_ok).cons 27 4 (eqf_C eqf_I eqf_M) eqf_ok
noncomputable abbrev lamX4:Lam:=ltX4.lam
theorem lamX4_ok:∀ f k L,lamX4 f k=some L→∀ b∈loopsOf Tryd.prog f,lkey b=k→LoopOk Tryd.prog b L.g:=ltX4.ok
end Go.Proofs.YtmegbepjdololaaDoor

namespace Go.Proofs.YtmegbepjdololaaDoor
open Go.RowKit Go.Sx
set_option maxRecDepth 100000
set_option linter.unusedVariables false
abbrev rLL5:Rv Pcs:=.list (eList eR)
noncomputable def bat5_q1 (l:List Rec):Ex×bta_G:=
 loopF (fun g=>bta_R g.fst g.snd) bta_M (eR.ag l,[])
noncomputable def bat5_F (l:List Rec):Rv.T rLL5:=
 (eList eR).ag (bat5_q1 l).snd.snd
def bat5_side (l:List Rec):Prop:=
 eR.okL l∧bta_P (eR.ag l) []∧List.length (bat5_q1 l).snd.snd≤List.length (bat5_q1 l).snd.snd∧∀ (e:Nat),e<List.length (bat5_q1 l).snd.snd→∀ (p:Prop),p∈[eR.okL (List.getD (bat5_q1 l).snd.snd e (eList eR).dflt)]→p
theorem bat5_okS (pre:DA.T aLR1→List Prop) (h:∀ g,DA.bd aLR1 g→(∀ p∈pre g,p)→bat5_side g):FnPure Tryd.prog 28 aLR1 (Rv.D rLL5) (fun g=>bat5_F g) pre:=res_of_side (R:=rLL5) (Γ:=(PTab.gamz tabX3 [] [])) (Λ:=lamX4) (PTab.okz tabX3 [] []) lamX4_ok 100 default (fun g=>bat5_side g) (fun g=>by kernel_rfl) (fun g=>by kernel_rfl) h
end Go.Proofs.YtmegbepjdololaaDoor

namespace Go.Proofs.YtmegbepjdololaaDoor
open Go.RowKit Go.Sx Go.Lp
theorem bat5_ok:FnPure Tryd.prog 28 aLR1 (Rv.D rLL5) (fun l=>pieces 64 l) (fun l=>[l.length≤1000000]):=by
 have key:∀ l:List Rec,l.length≤1000000→bat5_side l∧bat5_F l=pieces 64 l:=fun l h=>by
  have hP:bta_P l []:=by unfold bta_P;rw[List.length_nil];omega
  have hq:bat5_q1 l=(.exit 0,[],[]++pieces 64 l):=by
   rw[← bta_run l [] hP]
   unfold bat5_q1
   rw[El.ag_eq]
  unfold bat5_side bat5_F
  rw[hq]
  simp only[El.okL_eq,El.ag_eq,List.nil_append]
  exact ⟨⟨trivial,hP,Nat.le_refl _,fun _ _ p hp=>by rw[List.mem_singleton.1 hp];trivial⟩,trivial⟩
 exact pure_congr (bat5_okS _ fun l _ hp=>(key l (hp _ (List.mem_cons_self ..))).1) fun l _ hp=>(key l (hp _ (List.mem_cons_self ..))).2
end Go.Proofs.YtmegbepjdololaaDoor

namespace Go.Proofs.YtmegbepjdololaaDoor
open Go.RowKit Go.Sx
set_option maxRecDepth 100000
set_option linter.unusedVariables false
end Go.Proofs.YtmegbepjdololaaDoor

namespace Go.Proofs.YtmegbepjdololaaDoor
open Go.RowKit Go.Sx Go.Lp
set_option maxRecDepth 100000
noncomputable def curM (l:List Many):List Many:=bif bagF l != (0:Int) then [] else l
theorem curM_lst (a:List Many):eM.lst (bif bagF a != (0:Int) then 0 else a.length) (eM.els a)=curM a:=by
 unfold curM
 cases bagF a != (0:Int)
 ·exact El.lst_els _ a
 ·rfl
theorem curM_list (a:List Many):listM (curM a)=listC a:=by
 unfold curM listC
 cases bagF a != (0:Int) <;> rfl
theorem curM_bnd {a:List Many} (h:a.length≤1000):Bnd (curM a) [] 0:=by
 unfold curM
 cases hz:bagF a != (0:Int) with
 | true=>exact ⟨Nat.zero_le _,fun e=>(by decide:(0:Int)≤1048576),by rw[List.length_nil];exact Int.le_refl _⟩
 | false=>
  have hb:bagF a=0:=by simpa using hz
  exact bnd_bag h hb
theorem curM_len (a:List Many):(curM a).length≤a.length:=by
 unfold curM
 cases bagF a != (0:Int)
 ·exact Nat.le_refl _
 ·exact Nat.zero_le _
end Go.Proofs.YtmegbepjdololaaDoor

namespace Go.Proofs.YtmegbepjdololaaDoor
open Go.RowKit Go.Sx
set_option maxRecDepth 100000
set_option linter.unusedVariables false
noncomputable def tabZ2:MTab Tryd.prog:=(((((((((MTab.of tabN14).cons 16 (pconP .none dBool (fun _=>true) (fun _=>[])) (conP_ok lv_ok puB)).cons 23 (pconP aLR1 dBool few5_F (fun _=>[])) (conP_ok few5_ok puB)).cons 37 (pconP aLM5 dBool rare5_F (fun _=>[])) (conP_ok rare5_ok puB)).cons 26 (pconP aLMM2 dBool (fun g=>decide (g.1=g.2)) (fun _=>[])) (conP_ok same5_ok puB)).cons 35 (pconP aLM dI bagF (fun g=>[g.length≤KB])) (conP_ok cbb_ok puI)).cons 30 (pconP aLRR5 dBool (fun g=>decide (g.1=g.2)) (fun g=>[g.1.length≤KB])) (conP_ok elR_ok puB)).cons 28 (pconR aLR1 (Rv.D rLL5) (fun l=>Go.Lp.pieces 64 l) (fun l=>[l.length≤1000000])) (conR_ok bat5_ok)).consM 62 (bconRow 84 eM aLM (fun xs=>xs) (fun xs=>[xs.length≤KS])) (conRow_ok cloneM5_row)).consM 24 (lconR eR DA.none dLME (fun g=>bagC g.1) (fun g=>[g.1.length≤1500000])) (conL_ok (pure_none bgA_ok))
abbrev aRLL9:DA (Rec×List Many×List Rec):=.cons dR (.cons dLM (.one dLR))
end Go.Proofs.YtmegbepjdololaaDoor

namespace Go.Proofs.YtmegbepjdololaaDoor
open Go.RowKit Go.Sx
set_option maxRecDepth 100000
set_option linter.unusedVariables false
abbrev lj_G:Type:=Int×Int×Unit×Unit×Many×List Rec×LoopState×Option Code
noncomputable def lj_LP:LP 9 lj_G:=.pair (.slot 9 12 dI) (.pair (.slot 9 13 dI) (.pair (.fix 9 0 (.yl 6)) (.pair (.fix 9 4 (.p 8 0)) (.pair (.obj 9 8 84 eM) (.pair (.objRow 9 4 32 46 eR) (.rf 9 6 Tryd.prog 80 0 13 [(2,.p 4 0)] 5))))))
noncomputable def lj_R (k:Int) (n:Int) (_u:Unit) (_u2:Unit) (m:Many) (out:List Rec):Ex×lj_G:=
 bif decide (n<k) then (Ex.normal,k,IntKind.i64.wrap (n+(1:Int)),(),(),m,eR.lst (min (out.length+(1:Nat)) out.length) (eR.els out)++List.map (fun x=>m.r) (List.range (out.length+(1:Nat) - out.length)),LoopState.ready,none)
 else (Ex.exit (2:Nat),k,n,(),(),m,eR.ag out,LoopState.ready,none)
def lj_side (k:Int) (n:Int) (_u:Unit) (_u2:Unit) (m:Many) (out:List Rec):Prop:=
 (decide (n<k)=true→(out.length≤out.length∧True∧out.length+(1:Nat)≤maxLen∧(out.length+(1:Nat)) * Tryd.prog.types[(46:Nat)].bytes≤(140737488355328:Nat))∧out.length+(1:Nat)≤out.length+(1:Nat)∧(∀ (e:Nat),e<min (out.length+(1:Nat)) out.length→True)∧(∀ (e:Nat),e<out.length+(1:Nat) - out.length→True)∧CodeIs (rangeOf Tryd.prog (80:Nat) (0:Nat)).snd.fst (rangeOf Tryd.prog (80:Nat) (0:Nat)).snd.fst∧CodeIs (rangeOf Tryd.prog (80:Nat) (0:Nat)).snd.snd (rangeOf Tryd.prog (80:Nat) (0:Nat)).snd.snd)∧(decide (n<k)=false→out.length≤out.length∧(∀ (e:Nat),e<out.length→True)∧CodeIs (rangeOf Tryd.prog (80:Nat) (0:Nat)).snd.fst (rangeOf Tryd.prog (80:Nat) (0:Nat)).snd.fst∧CodeIs (rangeOf Tryd.prog (80:Nat) (0:Nat)).snd.snd (rangeOf Tryd.prog (80:Nat) (0:Nat)).snd.snd)
theorem lj_one:((loopsOf Tryd.prog 79).filter fun c=>Nat.beq (lkey c) 4).length=1:=by kernel_rfl
def lj_E:List ((Ex×lj_G→Bool)×Ex×(lj_G→lj_G)):=[(fun x=>exB (.exit 2) x.1,.exit 2,fun g=>(g.1,g.2.1,g.2.2.1,g.2.2.2.1,g.2.2.2.2.1,g.2.2.2.2.2.1,(.ready,none)))]
theorem lj_es (g:lj_G):(lj_R g.1 g.2.1 g.2.2.1 g.2.2.2.1 g.2.2.2.2.1 g.2.2.2.2.2.1).1=.normal∨exitsOk (lj_R g.1 g.2.1 g.2.2.1 g.2.2.2.1 g.2.2.2.2.1 g.2.2.2.2.2.1) lj_E:=by
 unfold lj_R
 repeat' (first | (left;rfl) | (right;exact ⟨rfl,rfl⟩) | (rw[Bool.cond_eq_ite];split))
noncomputable abbrev lj_C (Inv:lj_G→List Prop) (m:lj_G→Nat):LCon:=loopRS lj_E (loopBody Tryd.prog 79 4) lj_LP [] 22 Inv (fun g=>lj_R g.1 g.2.1 g.2.2.1 g.2.2.2.1 g.2.2.2.2.1 g.2.2.2.2.2.1) m
noncomputable def lj_i (g:lj_G):lj_G:=(g.1,g.2.1,g.2.2.1,g.2.2.2.1,g.2.2.2.2.1,g.2.2.2.2.2.1,(LoopState.ready,none))
theorem lj_loop (Inv:lj_G→List Prop) (m:lj_G→Nat) (hs:∀ g,allP (Inv g)→lj_side g.1 g.2.1 g.2.2.1 g.2.2.2.1 g.2.2.2.2.1 g.2.2.2.2.2.1) (hι:∀ g,allP (Inv g)→lj_i g=g) (hg:Goes (fun g:lj_G=>lj_R g.1 g.2.1 g.2.2.1 g.2.2.2.1 g.2.2.2.2.1 g.2.2.2.2.2.1) m fun g=>allP (Inv g)):∀ b∈loopsOf Tryd.prog 79,lkey b=4→LoopOk Tryd.prog b (lj_C Inv m).g:=loop_runS lj_i (Γ:=(MTab.gamz tabZ2 [] [])) (Λ:=noΛ) (MTab.okz tabZ2 [] []) noΛ_ok 100 79 4 22 lj_LP [] Inv (fun g=>lj_R g.1 g.2.1 g.2.2.1 g.2.2.2.1 g.2.2.2.2.1 g.2.2.2.2.2.1) (fun g=>lj_side g.1 g.2.1 g.2.2.1 g.2.2.2.1 g.2.2.2.2.1 g.2.2.2.2.2.1) m default lj_E lj_one (fun rd T B HL HB ds g=>by kernel_rfl) (fun rd T B HL HB ds g=>by kernel_rfl) hι hs hg lj_es
end Go.Proofs.YtmegbepjdololaaDoor

namespace Go.Proofs.YtmegbepjdololaaDoor
open Go.RowKit Go.Sx Go.Lp
set_option maxRecDepth 100000
abbrev lj_I (g:lj_G):List Prop:=[li_P g.1 g.2.1 g.2.2.2.2.2.1 g.2.2.2.2.2.2]
abbrev lj_M (g:lj_G):Nat:=(g.1 - g.2.1).toNat
noncomputable abbrev lj_RR (g:lj_G):Ex×lj_G:=lj_R g.1 g.2.1 g.2.2.1 g.2.2.2.1 g.2.2.2.2.1 g.2.2.2.2.2.1
theorem lj_RF (k n:Int) (m:Many) (out:List Rec) (h0:0≤n) (hk:k≤1048576):lj_R k n () () m out=if n<k then (.normal,k,n+1,(),(),m,out++[m.r],.ready,none) else (.exit 2,k,n,(),(),m,out,.ready,none):=by
 unfold lj_R
 simp only[El.ag_eq,lst_app1]
 by_cases h:n<k
 ·rw[if_pos h,decide_eq_true h,cond_true,wr64 (x:=n+1) (by omega)]
 ·rw[if_neg h,decide_eq_false h]
  rfl
theorem lj_goes:Goes lj_RR lj_M fun g=>allP (lj_I g):=by
 rintro ⟨k,n,⟨⟩,⟨⟩,m,out,f⟩ hi hn
 have h:li_P k n out f:=hi _ (List.mem_cons_self ..)
 have eq:lj_RR (k,n,(),(),m,out,f)=_:=lj_RF k n m out h.2.1 h.2.2.1
 rw[eq] at hn ⊢
 by_cases h0:n<k
 ·rw[if_pos h0]
  refine ⟨fun p hp=>?_,?_⟩
  ·rw[List.mem_singleton.1 hp]
   have hf:f=(.ready,none):=h.1
   have:=li_step m.r h h0
   rw[hf] at this
   exact this
  ·show (k - (n+1)).toNat<(k - n).toNat
   omega
 ·rw[if_neg h0] at hn;cases hn
theorem lj_ok:∀ b∈loopsOf Tryd.prog 79,lkey b=4→LoopOk Tryd.prog b (lj_C lj_I lj_M).g:=by
 refine lj_loop lj_I lj_M (fun g hi=>?_) (fun g hi=>?_) lj_goes
 ·obtain ⟨k,n,⟨⟩,⟨⟩,m,out,f⟩:=g
  obtain ⟨h1,h2,h3,h4,h5⟩:li_P k n out f:=hi _ (List.mem_cons_self ..)
  show lj_side k n () () m out
  unfold lj_side
  simp only[byt46c]
  unfold maxLen
  refine ⟨fun hc=>?_,fun _=>?_⟩
  ·have:=h4 (by have:=of_decide_eq_true hc;omega)
   have:=of_decide_eq_true hc
   repeat' (first | exact rfl | apply And.intro | intro _)
   all_goals (first | trivial | omega)
  ·repeat' (first | exact rfl | apply And.intro | intro _)
   all_goals (first | trivial | omega)
 ·obtain ⟨k,n,⟨⟩,⟨⟩,m,out,⟨st,pd⟩⟩:=g
  have h5:=(hi _ (List.mem_cons_self ..)).1
  have h5:(st,pd)=(LoopState.ready,(none:Option Code)):=h5
  cases h5
  rfl
theorem lj_run (k n:Int) (m:Many) (out:List Rec) (h:li_P k n out (.ready,none)):∃ n',loopF lj_RR lj_M (k,n,(),(),m,out,(.ready,none))=(.exit 2,k,n',(),(),m,out++repR (k - n) m.r,(.ready,none)):=by
 refine loopF_induct lj_goes (Q:=fun g r=>∃ n',r=(.exit 2,g.1,n',(),(),g.2.2.2.2.1,g.2.2.2.2.2.1++repR (g.1 - g.2.1) g.2.2.2.2.1.r,(.ready,none))) ?_ ?_ (k,n,(),(),m,out,(.ready,none)) (fun p hp=>by rw[List.mem_singleton.1 hp];exact h)
 ·rintro ⟨k,n,⟨⟩,⟨⟩,m,out,f⟩ hi hn
  have h:li_P k n out f:=hi _ (List.mem_cons_self ..)
  have eq:lj_RR (k,n,(),(),m,out,f)=_:=lj_RF k n m out h.2.1 h.2.2.1
  rw[eq] at hn ⊢
  by_cases h0:n<k
  ·rw[if_pos h0] at hn;exact absurd rfl hn
  ·rw[if_neg h0]
   refine ⟨n,?_⟩
   show _=(Ex.exit 2,k,n,(),(),m,out++repR (k - n) m.r,(LoopState.ready,(none:Option Code)))
   rw[repR_zero h0]
 ·rintro ⟨k,n,⟨⟩,⟨⟩,m,out,f⟩ g' r hi he _ _ hq
  have h:li_P k n out f:=hi _ (List.mem_cons_self ..)
  have eq:lj_RR (k,n,(),(),m,out,f)=_:=lj_RF k n m out h.2.1 h.2.2.1
  rw[eq] at he
  by_cases h0:n<k
  ·rw[if_pos h0] at he
   simp only[Prod.mk.injEq,true_and] at he
   subst he
   obtain ⟨n',hq⟩:=hq
   refine ⟨n',?_⟩
   rw[hq]
   show (Ex.exit 2,k,n',(),(),m,(out++[m.r])++repR (k - (n+1)) m.r,(LoopState.ready,(none:Option Code)))=(Ex.exit 2,k,n',(),(),m,out++repR (k - n) m.r,(LoopState.ready,(none:Option Code)))
   rw[repR_step h0]
  ·rw[if_neg h0] at he;cases he
noncomputable def ltZ4:LTab Tryd.prog:=LTab.nil.cons 79 4 (lj_C lj_I lj_M) lj_ok
noncomputable abbrev lamZ4:Lam:=ltZ4.lam
theorem lamZ4_ok:∀ f k L,lamZ4 f k=some L→∀ b∈loopsOf Tryd.prog f,lkey b=k→LoopOk Tryd.prog b L.g:=ltZ4.ok
end Go.Proofs.YtmegbepjdololaaDoor

namespace Go.Proofs.YtmegbepjdololaaDoor
open Go.RowKit Go.Sx
set_option maxRecDepth 100000
set_option linter.unusedVariables false
noncomputable def lp_q1 (n:Int) (i:Int) (_u:Unit) (out:List Rec) (l:Nat) (xs:List Many):Ex ×
 lj_G:=
 loopF (fun g=>lj_R g.fst g.snd.fst g.snd.snd.fst g.snd.snd.snd.fst g.snd.snd.snd.snd.fst g.snd.snd.snd.snd.snd.fst) lj_M ((xs.getD i.toNat eM.dflt).n,(0:Int),(),(),xs.getD i.toNat eM.dflt,eR.ag out,LoopState.ready,none)
abbrev lp_G:Type:=Int×Int×Unit×List Rec×Nat×List Many×LoopState×Option Code
noncomputable def lp_LP:LP 7 lp_G:=.pair (.slot 7 6 dI) (.pair (.slot 7 7 dI) (.pair (.fix 7 0 (.yl 6)) (.pair (.objRow 7 4 32 46 eR) (.pair (.owl 7 5 3) (.pair (.rowO 7 3 84 eM) (.rf 7 6 Tryd.prog 80 0 13 [(2,.p 4 0)] 5))))))
noncomputable def lp_R (n:Int) (i:Int) (_u:Unit) (out:List Rec) (l:Nat) (xs:List Many):Ex×lp_G:=
 bif decide (i<n) then (Ex.normal,n,IntKind.i64.wrap (i+(1:Int)),(),eR.ag (lp_q1 n i _u out l xs).snd.snd.snd.snd.snd.snd.fst,l,eM.ag xs,LoopState.ready,none)
 else (Ex.exit (0:Nat),n,i,(),eR.ag out,l,eM.ag xs,LoopState.ready,none)
def lp_side (n:Int) (i:Int) (_u:Unit) (out:List Rec) (l:Nat) (xs:List Many):Prop:=
 (decide (i<n)=true→((0:Int)≤i∧i<(↑l:Int))∧i.toNat<xs.length∧out.length≤out.length∧(∀ (e:Nat),e<out.length→True)∧CodeIs (rangeOf Tryd.prog (80:Nat) (0:Nat)).snd.fst (rangeOf Tryd.prog (80:Nat) (0:Nat)).snd.fst∧CodeIs (rangeOf Tryd.prog (80:Nat) (0:Nat)).snd.snd (rangeOf Tryd.prog (80:Nat) (0:Nat)).snd.snd∧li_P (xs.getD i.toNat eM.dflt).n (0:Int) (eR.ag out) (LoopState.ready,none)∧(lp_q1 n i _u out l xs).snd.snd.snd.snd.snd.snd.fst.length≤(lp_q1 n i _u out l xs).snd.snd.snd.snd.snd.snd.fst.length∧(∀ (e:Nat),e<(lp_q1 n i _u out l xs).snd.snd.snd.snd.snd.snd.fst.length→True)∧(∀ (e:Nat),e<xs.length→True)∧CodeIs (rangeOf Tryd.prog (80:Nat) (0:Nat)).snd.fst (rangeOf Tryd.prog (80:Nat) (0:Nat)).snd.fst∧CodeIs (rangeOf Tryd.prog (80:Nat) (0:Nat)).snd.snd (rangeOf Tryd.prog (80:Nat) (0:Nat)).snd.snd)∧(decide (i<n)=false→out.length≤out.length∧(∀ (e:Nat),e<out.length→True)∧(∀ (e:Nat),e<xs.length→True)∧CodeIs (rangeOf Tryd.prog (80:Nat) (0:Nat)).snd.fst (rangeOf Tryd.prog (80:Nat) (0:Nat)).snd.fst∧CodeIs (rangeOf Tryd.prog (80:Nat) (0:Nat)).snd.snd (rangeOf Tryd.prog (80:Nat) (0:Nat)).snd.snd)
theorem lp_one:((loopsOf Tryd.prog 79).filter fun c=>Nat.beq (lkey c) 1).length=1:=by kernel_rfl
abbrev lp_GC:Type:=Int×Nat×List Many
abbrev lp_GB:Type:=Unit×List Rec×LoopState×Option Code
def lp_f (g:lp_G):Int×lp_GC×lp_GB:=(g.2.1,(g.1,g.2.2.2.2.1,g.2.2.2.2.2.1),(g.2.2.1,g.2.2.2.1,g.2.2.2.2.2.2))
def lp_g (d:Int×lp_GC×lp_GB):lp_G:=(d.2.1.1,d.1,d.2.2.1,d.2.2.2.1,d.2.1.2.1,d.2.1.2.2,d.2.2.2.2)
def lp_E:List ((Ex×lp_G→Bool)×Ex×(lp_G→lp_G)):=[(fun x=>exB (.exit 0) x.1,.exit 0,fun g=>(g.1,g.2.1,g.2.2.1,g.2.2.2.1,g.2.2.2.2.1,g.2.2.2.2.2.1,(.ready,none)))]
theorem lp_es (g:lp_G):(lp_R g.1 g.2.1 g.2.2.1 g.2.2.2.1 g.2.2.2.2.1 g.2.2.2.2.2.1).1=.normal∨exitsOk (lp_R g.1 g.2.1 g.2.2.1 g.2.2.2.1 g.2.2.2.2.1 g.2.2.2.2.2.1) lp_E:=by
 unfold lp_R
 repeat' (first | (left;rfl) | (right;exact ⟨rfl,rfl⟩) | (rw[Bool.cond_eq_ite];split))
noncomputable abbrev lp_C (Inv:lp_G→List Prop) (m:lp_G→Nat):LCon:=loopRS lp_E (loopBody Tryd.prog 79 1) lp_LP [] 22 Inv (fun g=>lp_R g.1 g.2.1 g.2.2.1 g.2.2.2.1 g.2.2.2.2.1 g.2.2.2.2.2.1) m
noncomputable def lp_i (g:lp_G):lp_G:=(g.1,g.2.1,g.2.2.1,g.2.2.2.1,g.2.2.2.2.1,g.2.2.2.2.2.1,(LoopState.ready,none))
theorem lp_loop (Inv:lp_G→List Prop) (m:lp_G→Nat) (hs:∀ g,allP (Inv g)→lp_side g.1 g.2.1 g.2.2.1 g.2.2.2.1 g.2.2.2.2.1 g.2.2.2.2.2.1) (hι:∀ g,allP (Inv g)→lp_i g=g) (hg:Goes (fun g:lp_G=>lp_R g.1 g.2.1 g.2.2.1 g.2.2.2.1 g.2.2.2.2.1 g.2.2.2.2.2.1) m fun g=>allP (Inv g)):∀ b∈loopsOf Tryd.prog 79,lkey b=1→LoopOk Tryd.prog b (lp_C Inv m).g:=loop_runS lp_i (Γ:=(MTab.gamz tabZ2 [] [])) (Λ:=lamZ4) (MTab.okz tabZ2 [] []) lamZ4_ok 100 79 1 22 lp_LP [] Inv (fun g=>lp_R g.1 g.2.1 g.2.2.1 g.2.2.2.1 g.2.2.2.2.1 g.2.2.2.2.2.1) (fun g=>lp_side g.1 g.2.1 g.2.2.1 g.2.2.2.1 g.2.2.2.2.1 g.2.2.2.2.2.1) m default lp_E lp_one (fun rd T B HL HB ds g=>by kernel_rfl) (fun rd T B HL HB ds g=>by kernel_rfl) hι hs hg lp_es
end Go.Proofs.YtmegbepjdololaaDoor

namespace Go.Proofs.YtmegbepjdololaaDoor
open Go.RowKit Go.Sx Go.Lp
set_option maxRecDepth 100000
noncomputable def lp_S (_:lp_GC) (b:lp_GB) (_:Int) (v:Many):Ex×lp_GB:=(.normal,(),b.2.1++repR v.n v.r,.ready,none)
def lp_K (c:lp_GC) (b:lp_GB) (i:Int):Prop:=b.2.2=(LoopState.ready,(none:Option Code))∧c.2.1=c.2.2.length∧Bnd c.2.2 b.2.1 i
abbrev lp_I (g:lp_G):List Prop:=ixI (fun c:lp_GC=>c.1) (fun c=>c.2.2) lp_K (lp_f g)
abbrev lp_M (g:lp_G):Nat:=ixM (fun c:lp_GC=>c.1) (lp_f g)
theorem lp_P:ixP lp_S (fun c:lp_GC=>c.2.2) lp_K:=by
 rintro ⟨n,l,xs⟩ ⟨⟨⟩,out,f⟩ i a ⟨h1,h2,h3⟩ ha _
 have ha:xs[i]?=some a:=ha
 have h3:Bnd xs out i:=h3
 refine ⟨rfl,h2,?_⟩
 have:=h3.2.1 i
 rw[getD_at ha] at this
 exact bnd_step h3 _ this _
noncomputable abbrev lp_RR (g:lp_G):Ex×lp_G:=lp_R g.1 g.2.1 g.2.2.1 g.2.2.2.1 g.2.2.2.2.1 g.2.2.2.2.2.1
theorem lp_RF (d:Int×lp_GC×lp_GB) (hi:allP (ixI (fun c:lp_GC=>c.1) (fun c=>c.2.2) lp_K d)):lp_RR (lp_g d)=((ixF 0 (fun c:lp_GC=>c.1) (fun c=>c.2.2) eM.dflt lp_S d).1,lp_g (ixF 0 (fun c:lp_GC=>c.1) (fun c=>c.2.2) eM.dflt lp_S d).2):=by
 obtain ⟨h1,h2,h3,h4,hb,h6,h7⟩:=hi _ (List.mem_cons_self ..)
 obtain ⟨i,⟨n,l,xs⟩,⟨⟨⟩,out,f⟩⟩:=d
 have hb:f=(LoopState.ready,(none:Option Code)):=hb
 have h1:n=(xs.length:Int):=h1
 have h3:0≤i:=h3
 have h7:Bnd xs out i:=h7
 subst hb
 show lp_R n i () out l xs=_
 unfold lp_R ixF lp_S
 simp only[El.ag_eq]
 by_cases hlt:i<n
 ·obtain ⟨n',hr⟩:=lj_run (xs.getD i.toNat eM.dflt).n 0 (xs.getD i.toNat eM.dflt) out (bnd_in h7 h3 (by omega))
  have hq:lp_q1 n i () out l xs=(.exit 2,(xs.getD i.toNat eM.dflt).n,n',(),(),xs.getD i.toNat eM.dflt,out++repR (xs.getD i.toNat eM.dflt).n (xs.getD i.toNat eM.dflt).r,(.ready,none)):=by
   have:lp_q1 n i () out l xs=loopF lj_RR lj_M ((xs.getD i.toNat eM.dflt).n,0,(),(),xs.getD i.toNat eM.dflt,out,(.ready,none)):=by
    unfold lp_q1
    rw[El.ag_eq]
   rw[this,hr,Int.sub_zero]
  rw[hq,decide_eq_true hlt]
  rfl
 ·rw[decide_eq_false hlt]
  rfl
theorem lp_ok:∀ b∈loopsOf Tryd.prog 79,lkey b=1→LoopOk Tryd.prog b (lp_C lp_I lp_M).g:=by
 refine lp_loop lp_I lp_M (fun g hi=>?_) (fun g hi=>?_) (ix_conj_goes (fun _=>rfl) (fun _=>rfl) lp_RF lp_P)
 ·obtain ⟨n,i,⟨⟩,out,l,xs,⟨st,pd⟩⟩:=g
  obtain ⟨h1,h2,h3,h4,h5,h6,h7⟩:=hi _ (List.mem_cons_self ..)
  have h1:n=(xs.length:Int):=h1
  have h3:0≤i:=h3
  have h6:l=xs.length:=h6
  have h7:Bnd xs out i:=h7
  have h4:i≤(xs.length:Int):=h4
  show lp_side n i () out l xs
  unfold lp_side
  simp only[El.ag_eq]
  subst h6
  clear hi
  refine ⟨fun hc=>?_,fun _=>?_⟩
  ·have hlt:=of_decide_eq_true hc
   have hlt':i<(xs.length:Int):=h1▸hlt
   have hP:=bnd_in h7 h3 hlt'
   repeat' (first | exact rfl | exact hP | apply And.intro | intro _)
   all_goals (first | trivial | omega)
  ·repeat' (first | exact rfl | apply And.intro | intro _)
   all_goals (first | trivial | omega)
 ·obtain ⟨n,i,⟨⟩,out,l,xs,⟨st,pd⟩⟩:=g
  have h5:=(hi _ (List.mem_cons_self ..)).2.2.2.2.1
  have h5:(st,pd)=(LoopState.ready,(none:Option Code)):=h5
  cases h5
  rfl
theorem lp_run (xs:List Many) (h:Bnd xs [] 0):loopF lp_RR lp_M ((xs.length:Int),0,(),[],xs.length,xs,(.ready,none))=(.exit 0,(xs.length:Int),(xs.length:Int),(),listM xs,xs.length,xs,(.ready,none)):=by
 have hm:xs.length≤maxLen:=by have:=h.1;unfold maxLen;omega
 have hr:loopF lp_RR lp_M ((xs.length:Int),0,(),[],xs.length,xs,(.ready,none))=_:=ix_conj_run (φ:=lp_f) (ψ:=lp_g) (fun _=>rfl) (fun _=>rfl) lp_RF lp_P ((xs.length:Int),xs.length,xs) ((),[],.ready,none) rfl hm ⟨rfl,rfl,h⟩
 have hf:∀ (l:List Many) (b:List Rec),l.foldl (fun (b:lp_GB) (v:Many)=>((),b.2.1++repR v.n v.r,LoopState.ready,(none:Option Code))) ((),b,LoopState.ready,(none:Option Code))=((),b++listM l,LoopState.ready,none):=by
  intro l
  induction l with
  | nil=>intro b;show _=((),b++[],_);rw[List.append_nil];rfl
  | cons a l ih=>
   intro b
   rw[List.foldl_cons,ih]
   show ((),(b++repR a.n a.r)++listM l,_)=((),b++listM (a :: l),_)
   unfold listM
   rw[List.flatMap_cons,List.append_assoc]
 have hs:=scan_fold (x:=0) (st:=lp_S ((xs.length:Int),xs.length,xs)) (f:=fun (b:lp_GB) (v:Many)=>((),b.2.1++repR v.n v.r,LoopState.ready,(none:Option Code))) (fun _ _ _=>rfl) xs 0 ((),[],LoopState.ready,none)
 rw[hf] at hs
 rw[hr]
 show ((scan 0 (lp_S ((xs.length:Int),xs.length,xs)) 0 xs ((),[],.ready,none)).1,lp_g ((scan 0 (lp_S ((xs.length:Int),xs.length,xs)) 0 xs ((),[],.ready,none)).2.1,((xs.length:Int),xs.length,xs),(scan 0 (lp_S ((xs.length:Int),xs.length,xs)) 0 xs ((),[],.ready,none)).2.2))=_
 rw[hs,Int.zero_add]
 rfl
noncomputable def ltZ6:LTab Tryd.prog:=ltZ4.cons 79 1 (lp_C lp_I lp_M) lp_ok
end Go.Proofs.YtmegbepjdololaaDoor

namespace Go.Proofs.YtmegbepjdololaaDoor
open Go.RowKit Go.Sx
set_option maxRecDepth 100000
set_option linter.unusedVariables false
abbrev lbk_G:Type:=Pcs×Int×Int×List Rec×Bool
noncomputable def lbk_LP:LP 8 lbk_G:=.pair (.slot 8 69 dLLR) (.pair (.slot 8 70 dI) (.pair (.slot 8 71 dI) (.pair (.row 8 12 46 eR) (.slot 8 6 dBool))))
noncomputable def lbk_R (xs:Pcs) (n:Int) (i:Int) (o:List Rec) (b:Bool):Ex×lbk_G:=
 bif decide (i<n) then bif (↑(List.getD xs i.toNat (eList eR).dflt).length:Int)==(0:Int)||decide ((↑(List.getD xs i.toNat (eList eR).dflt).length:Int) > (64:Int)) then (Ex.ret,(eList eR).ag xs,n,i,eR.ag o,false) else (Ex.normal,(eList eR).ag xs,n,IntKind.i64.wrap (i+(1:Int)),eR.lst (min (o.length+(List.getD xs i.toNat (eList eR).dflt).length) o.length) (eR.els o)++eR.lst (o.length+(List.getD xs i.toNat (eList eR).dflt).length - o.length) (eR.els (List.getD xs i.toNat (eList eR).dflt)),b)
 else (Ex.exit (0:Nat),(eList eR).ag xs,n,i,eR.ag o,b)
def lbk_side (xs:Pcs) (n:Int) (i:Int) (o:List Rec) (b:Bool):Prop:=
 (decide (i<n)=true→((0:Int)≤i∧i<(↑(List.length xs):Int))∧(((↑(List.getD xs i.toNat (eList eR).dflt).length:Int)==(0:Int)||decide ((↑(List.getD xs i.toNat (eList eR).dflt).length:Int) > (64:Int)))=true→(eList eR).okL xs∧o.length≤o.length∧∀ (e:Nat),e<o.length→True)∧(((↑(List.getD xs i.toNat (eList eR).dflt).length:Int)==(0:Int)||decide ((↑(List.getD xs i.toNat (eList eR).dflt).length:Int) > (64:Int)))=false→(o.length≤o.length∧(∀ (e:Nat),e<(List.getD xs i.toNat (eList eR).dflt).length→(eR.els (List.getD xs i.toNat (eList eR).dflt) e).all SV.one=true)∧o.length+(List.getD xs i.toNat (eList eR).dflt).length≤maxLen∧(o.length+(List.getD xs i.toNat (eList eR).dflt).length) * Tryd.prog.types[(46:Nat)].bytes≤(140737488355328:Nat))∧(eList eR).okL xs∧o.length+(List.getD xs i.toNat (eList eR).dflt).length≤o.length+(List.getD xs i.toNat (eList eR).dflt).length∧(∀ (e:Nat),e<min (o.length+(List.getD xs i.toNat (eList eR).dflt).length) o.length→True)∧∀ (e:Nat),e<o.length+(List.getD xs i.toNat (eList eR).dflt).length - o.length→True))∧(decide (i<n)=false→(eList eR).okL xs∧o.length≤o.length∧∀ (e:Nat),e<o.length→True)
theorem lbk_one:((loopsOf Tryd.prog 9).filter fun c=>Nat.beq (lkey c) 18).length=1:=by kernel_rfl
abbrev lbk_GC:Type:=Pcs×Int
abbrev lbk_GB:Type:=List Rec×Bool
def lbk_f (g:lbk_G):Int×lbk_GC×lbk_GB:=(g.2.2.1,(g.1,g.2.1),(g.2.2.2.1,g.2.2.2.2))
def lbk_g (d:Int×lbk_GC×lbk_GB):lbk_G:=(d.2.1.1,d.2.1.2,d.1,d.2.2.1,d.2.2.2)
theorem lbk_es (g:lbk_G):(lbk_R g.1 g.2.1 g.2.2.1 g.2.2.2.1 g.2.2.2.2).1=.normal∨(lbk_R g.1 g.2.1 g.2.2.1 g.2.2.2.1 g.2.2.2.2).1∈([.ret,.exit 0]:List Ex):=by
 unfold lbk_R
 repeat' (first | (left;rfl) | (right;simp only[cond_true,cond_false];simp;done) | (rw[Bool.cond_eq_ite];split))
noncomputable abbrev lbk_C (Inv:lbk_G→List Prop) (m:lbk_G→Nat):LCon:=loopR [.ret,.exit 0] (loopBody Tryd.prog 9 18) lbk_LP [] 90 Inv (fun g=>lbk_R g.1 g.2.1 g.2.2.1 g.2.2.2.1 g.2.2.2.2) m
theorem lbk_loop (Inv:lbk_G→List Prop) (m:lbk_G→Nat) (hs:∀ g,allP (Inv g)→lbk_side g.1 g.2.1 g.2.2.1 g.2.2.2.1 g.2.2.2.2) (hg:Goes (fun g:lbk_G=>lbk_R g.1 g.2.1 g.2.2.1 g.2.2.2.1 g.2.2.2.2) m fun g=>allP (Inv g)):∀ b∈loopsOf Tryd.prog 9,lkey b=18→LoopOk Tryd.prog b (lbk_C Inv m).g:=loop_run (Γ:=(MTab.gamz tabZ2 [] [])) (Λ:=noΛ) (MTab.okz tabZ2 [] []) noΛ_ok 100 9 18 90 lbk_LP [] Inv (fun g=>lbk_R g.1 g.2.1 g.2.2.1 g.2.2.2.1 g.2.2.2.2) (fun g=>lbk_side g.1 g.2.1 g.2.2.1 g.2.2.2.1 g.2.2.2.2) m default [.ret,.exit 0] lbk_one (fun rd T B HL HB ds g=>by kernel_rfl) (fun rd T B HL HB ds g=>by kernel_rfl) hs hg lbk_es
end Go.Proofs.YtmegbepjdololaaDoor

namespace Go.Proofs.YtmegbepjdololaaDoor
open Go.RowKit Go.Sx Go.Lp
set_option maxRecDepth 100000
theorem lst_two (o b:List Rec):eR.lst (min (o.length+b.length) o.length) (eR.els o)++eR.lst (o.length+b.length - o.length) (eR.els b)=o++b:=by
 rw[Nat.min_eq_right (by omega),El.lst_els,Nat.add_sub_cancel_left,El.lst_els]
noncomputable def lbk_S (_:lbk_GC) (c:lbk_GB) (_:Int) (v:List Rec):Ex×lbk_GB:=bif (v.length:Int)==0||decide ((v.length:Int) > 64) then (.ret,(c.1,false)) else (.normal,(c.1++v,c.2))
def lbk_K (c:lbk_GC) (b:lbk_GB) (i:Int):Prop:=List.length c.1≤1000000∧(b.1.length:Int)≤64 * i
abbrev lbk_I (g:lbk_G):List Prop:=ixI (fun c:lbk_GC=>c.2) (fun c=>c.1) lbk_K (lbk_f g)
abbrev lbk_M (g:lbk_G):Nat:=ixM (fun c:lbk_GC=>c.2) (lbk_f g)
theorem lbk_P:ixP lbk_S (fun c:lbk_GC=>c.1) lbk_K:=fun c b i a h _ hn=>⟨h.1,by
 have:=h.2
 unfold lbk_S at hn ⊢
 cases hb:(a.length:Int)==0||decide ((a.length:Int) > 64) with
 | true=>rw[hb] at hn;cases hn
 | false=>
  simp only[Bool.or_eq_false_iff,decide_eq_false_iff_not] at hb
  show ((b.1++a).length:Int)≤_
  rw[List.length_append]
  omega⟩
noncomputable abbrev lbk_RR (g:lbk_G):Ex×lbk_G:=lbk_R g.1 g.2.1 g.2.2.1 g.2.2.2.1 g.2.2.2.2
theorem lbk_RF (d:Int×lbk_GC×lbk_GB) (_:allP (ixI (fun c:lbk_GC=>c.2) (fun c=>c.1) lbk_K d)):lbk_RR (lbk_g d)=((ixF 0 (fun c:lbk_GC=>c.2) (fun c=>c.1) (eList eR).dflt lbk_S d).1,lbk_g (ixF 0 (fun c:lbk_GC=>c.2) (fun c=>c.1) (eList eR).dflt lbk_S d).2):=by
 obtain ⟨i,⟨xs,n⟩,⟨o,b⟩⟩:=d
 show lbk_R xs n i o b=_
 unfold lbk_R ixF lbk_S
 simp only[El.ag_eq,lst_two]
 cases decide (i<n) with
 | false=>rfl
 | true=>
  simp only[cond_true]
  generalize (List.getD xs i.toNat (eList eR).dflt)=v
  cases ((v.length:Int)==0||decide ((v.length:Int) > 64)) <;> rfl
theorem byt46d (h:46<Tryd.prog.types.size):(Tryd.prog.types[(46:Nat)]'h).bytes=24:=by kernel_rfl
theorem lbk_ok:∀ b∈loopsOf Tryd.prog 9,lkey b=18→LoopOk Tryd.prog b (lbk_C lbk_I lbk_M).g:=by
 refine lbk_loop lbk_I lbk_M (fun g hi=>?_) (ix_conj_goes (fun _=>rfl) (fun _=>rfl) lbk_RF lbk_P)
 obtain ⟨xs,n,i,o,b⟩:=g
 obtain ⟨h1,h2,h3,h4,h5,h6⟩:=hi _ (List.mem_cons_self ..)
 have h1:n=(List.length xs:Int):=h1
 have h3:0≤i:=h3
 have h4:i≤(List.length xs:Int):=h4
 have h5:List.length xs≤1000000:=h5
 have h6:(o.length:Int)≤64 * i:=h6
 show lbk_side xs n i o b
 unfold lbk_side
 simp only[El.okL_eq,byt46d]
 unfold maxLen
 refine ⟨fun hlt=>?_,fun _=>⟨trivial,Nat.le_refl _,fun _ _=>trivial⟩⟩
 have hlt:=of_decide_eq_true hlt
 refine ⟨⟨h3,by omega⟩,fun _=>⟨trivial,Nat.le_refl _,fun _ _=>trivial⟩,fun hb=>?_⟩
 simp only[Bool.or_eq_false_iff,decide_eq_false_iff_not] at hb
 exact ⟨⟨Nat.le_refl _,fun e _=>eR.one_els _ e,by omega,by omega⟩,trivial,Nat.le_refl _,fun _ _=>trivial,fun _ _=>trivial⟩
noncomputable def ltZ8:LTab Tryd.prog:=ltZ6.cons 9 18 (lbk_C lbk_I lbk_M) lbk_ok
noncomputable abbrev lamZ8:Lam:=ltZ8.lam
theorem lamZ8_ok:∀ f k L,lamZ8 f k=some L→∀ b∈loopsOf Tryd.prog f,lkey b=k→LoopOk Tryd.prog b L.g:=ltZ8.ok
end Go.Proofs.YtmegbepjdololaaDoor

namespace Go.Proofs.YtmegbepjdololaaDoor
open Go.RowKit Go.Sx
set_option maxRecDepth 100000
set_option linter.unusedVariables false
noncomputable def lrb5_q1 (r:Rec) (l:List Many) (m:List Rec):dBool.T:=
 rare5_F (eM.ag l)
noncomputable def lrb5_q2 (r:Rec) (l:List Many) (m:List Rec):dBool.T:=
 few5_F (eR.ag m)
noncomputable def lrb5_q3 (r:Rec) (l:List Many) (m:List Rec):Int:=
 chkR r
noncomputable def lrb5_q4 (r:Rec) (l:List Many) (m:List Rec):BA:=
 textS r
noncomputable def lrb5_q5 (r:Rec) (l:List Many) (m:List Rec):Rec×Int:=
 parseR (lrb5_q4 r l m)
noncomputable def lrb5_q6 (r:Rec) (l:List Many) (m:List Rec):Int:=
 bagF (eM.ag l)
noncomputable def lrb5_q7 (r:Rec) (l:List Many) (m:List Rec):Ex ×
 lp_G:=
 loopF (fun g=>lp_R g.fst g.snd.fst g.snd.snd.fst g.snd.snd.snd.fst g.snd.snd.snd.snd.fst g.snd.snd.snd.snd.snd.fst) lp_M ((↑(eM.lst (bif (lrb5_q6 r l m) != (0:Int) then (0:Nat) else l.length) (eM.els l)).length:Int),(0:Int),(),[],(eM.lst (bif (lrb5_q6 r l m) != (0:Int) then (0:Nat) else l.length) (eM.els l)).length,eM.ag (eM.lst (bif (lrb5_q6 r l m) != (0:Int) then (0:Nat) else l.length) (eM.els l)),LoopState.ready,none)
noncomputable def lrb5_q8 (r:Rec) (l:List Many) (m:List Rec):List Many×Int:=
 bagC (eR.ag (lrb5_q7 r l m).snd.snd.snd.snd.fst)
noncomputable def lrb5_q9 (r:Rec) (l:List Many) (m:List Rec):Ex ×
 lbk_G:=
 loopF (fun g=>lbk_R g.fst g.snd.fst g.snd.snd.fst g.snd.snd.snd.fst g.snd.snd.snd.snd) lbk_M ((eList eR).ag (Lp.pieces (64:Nat) (eR.ag m)),(↑(Lp.pieces (64:Nat) (eR.ag m)).length:Int),(0:Int),[],false)
noncomputable def lrb5_F (r:Rec) (l:List Many) (m:List Rec):Dv.T dBool:=
 bif decide ((↑(ByteArray.size r.text):Int) > (2000:Int))||(!(lrb5_q1 r l m)||!(lrb5_q2 r l m)) then true
 else bif (lrb5_q3 r l m)==(0:Int)&&((lrb5_q5 r l m).snd != (0:Int)||!conj ([(lrb5_q5 r l m).fst.key==r.key]++([decide ((lrb5_q5 r l m).fst.text=r.text)]++[]))) then false else bif (lrb5_q6 r l m)==(0:Int)&&((lrb5_q8 r l m).snd != (0:Int)||!decide (eM.ag (lrb5_q8 r l m).fst=eM.ag l)) then false else bif exB Ex.ret (lrb5_q9 r l m).fst then (lrb5_q9 r l m).snd.snd.snd.snd.snd else decide (eR.ag (lrb5_q9 r l m).snd.snd.snd.snd.fst=eR.ag m)
def lrb5_side (r:Rec) (l:List Many) (m:List Rec):Prop:=
 (!true)=false→((!decide ((↑(ByteArray.size r.text):Int) > (2000:Int)))=true→eM.okL l)∧((!decide ((↑(ByteArray.size r.text):Int) > (2000:Int)))=true→(!!(lrb5_q1 r l m))=true→eR.okL m)∧((decide ((↑(ByteArray.size r.text):Int) > (2000:Int))||(!(lrb5_q1 r l m)||!(lrb5_q2 r l m)))=false→(((lrb5_q3 r l m)==(0:Int))=true→i64 r.key)∧(((lrb5_q3 r l m)==(0:Int))=true→ByteArray.size (lrb5_q4 r l m)≤KS)∧(((lrb5_q3 r l m)==(0:Int)&&((lrb5_q5 r l m).snd != (0:Int)||!conj ([(lrb5_q5 r l m).fst.key==r.key]++([decide ((lrb5_q5 r l m).fst.text=r.text)]++[]))))=false→eM.okL l∧(eM.ag l).length≤KB∧(((lrb5_q6 r l m)==(0:Int))=true→eM.okL l)∧(((lrb5_q6 r l m)==(0:Int))=true→(eM.ag l).length≤KB)∧(((lrb5_q6 r l m)==(0:Int))=true→∀ (e:Nat),(e<bif (lrb5_q6 r l m) != (0:Int) then (0:Nat) else l.length)→eM.Ok (eM.els l e))∧(((lrb5_q6 r l m)==(0:Int))=true→(eM.lst (bif (lrb5_q6 r l m) != (0:Int) then (0:Nat) else l.length) (eM.els l)).length≤KS)∧(((lrb5_q6 r l m)==(0:Int))=true→∀ (e:Nat),e<(eM.lst (bif (lrb5_q6 r l m) != (0:Int) then (0:Nat) else l.length) (eM.els l)).length→True)∧(((lrb5_q6 r l m)==(0:Int))=true→CodeIs (rangeOf Tryd.prog (80:Nat) (0:Nat)).snd.fst (rangeOf Tryd.prog (80:Nat) (0:Nat)).snd.fst)∧(((lrb5_q6 r l m)==(0:Int))=true→CodeIs (rangeOf Tryd.prog (80:Nat) (0:Nat)).snd.snd (rangeOf Tryd.prog (80:Nat) (0:Nat)).snd.snd)∧(((lrb5_q6 r l m)==(0:Int))=true→Lp.ixJ (fun c=>c.fst) (fun c=>c.snd.snd) lp_K (lp_f ((↑(eM.lst (bif (lrb5_q6 r l m) != (0:Int) then (0:Nat) else l.length) (eM.els l)).length:Int),(0:Int),(),[],(eM.lst (bif (lrb5_q6 r l m) != (0:Int) then (0:Nat) else l.length) (eM.els l)).length,eM.ag (eM.lst (bif (lrb5_q6 r l m) != (0:Int) then (0:Nat) else l.length) (eM.els l)),LoopState.ready,none)))∧(((lrb5_q6 r l m)==(0:Int))=true→(lrb5_q7 r l m).snd.snd.snd.snd.fst.length≤(lrb5_q7 r l m).snd.snd.snd.snd.fst.length)∧(((lrb5_q6 r l m)==(0:Int))=true→∀ (e:Nat),e<(lrb5_q7 r l m).snd.snd.snd.snd.fst.length→True)∧(((lrb5_q6 r l m)==(0:Int))=true→(eR.ag (lrb5_q7 r l m).snd.snd.snd.snd.fst).length≤(1500000:Nat))∧(((lrb5_q6 r l m)==(0:Int))=true→(!(lrb5_q8 r l m).snd != (0:Int))=true→eM.okL (lrb5_q8 r l m).fst)∧(((lrb5_q6 r l m)==(0:Int))=true→(!(lrb5_q8 r l m).snd != (0:Int))=true→eM.okL l)∧(((lrb5_q6 r l m)==(0:Int)&&((lrb5_q8 r l m).snd != (0:Int)||!decide (eM.ag (lrb5_q8 r l m).fst=eM.ag l)))=false→eR.okL m∧(eR.ag m).length≤(1000000:Nat)∧(eList eR).okL (Lp.pieces (64:Nat) (eR.ag m))∧Lp.ixJ (fun c=>c.snd) (fun c=>c.fst) lbk_K (lbk_f ((eList eR).ag (Lp.pieces (64:Nat) (eR.ag m)),(↑(Lp.pieces (64:Nat) (eR.ag m)).length:Int),(0:Int),[],false))∧(exB Ex.ret (lrb5_q9 r l m).fst=false→(lrb5_q9 r l m).snd.snd.snd.snd.fst.length≤(lrb5_q9 r l m).snd.snd.snd.snd.fst.length∧(∀ (e:Nat),e<(lrb5_q9 r l m).snd.snd.snd.snd.fst.length→eR.Ok ((ElE.fn (eR.els (lrb5_q9 r l m).snd.snd.snd.snd.fst)).at e))∧eR.okL m∧(eR.ag (lrb5_q9 r l m).snd.snd.snd.snd.fst).length≤KB))))
theorem lrb5_okS (pre:DA.T aRLL9→List Prop) (h:∀ g,DA.bd aRLL9 g→(∀ p∈pre g,p)→lrb5_side g.1 g.2.1 g.2.2):FnPure Tryd.prog 9 aRLL9 dBool (fun g=>lrb5_F g.1 g.2.1 g.2.2) pre:=pure_of_sideS (Γ:=(MTab.gamz tabZ2 [] [])) (Λ:=lamZ8) (MTab.okz tabZ2 [] []) lamZ8_ok 100 default (fun g=>lrb5_side g.1 g.2.1 g.2.2) (fun g=>by kernel_rfl) (fun g=>by kernel_rfl) h
end Go.Proofs.YtmegbepjdololaaDoor
