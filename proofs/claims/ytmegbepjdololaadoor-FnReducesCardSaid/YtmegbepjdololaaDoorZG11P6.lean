/- Chapter 6: Reduce: the document's answers the same. -/
import Derived.Test.YtmegbepjdololaaDoorZG10f14fae
import Derived.Test.YtmegbepjdololaaDoorZG06993bef
import Derived.Test.YtmegbepjdololaaDoorZG07fee4ff
import Derived.Test.YtmegbepjdololaaDoorCards
set_option linter.unusedVariables false
set_option linter.unusedSimpArgs false
set_option linter.constructorNameAsVariable false
set_option linter.all false

namespace Go.Proofs.YtmegbepjdololaaDoor
open Go.RowKit Go.Sx Go.Lp
set_option maxRecDepth 100000
theorem cut_small (s:BA) (h:s.size≤64):cutS s 64=s:=by
 unfold cutS
 rw[cutW_all _ _ (by rw[wsum_rsL,toL_len];omega),wsum_rsL,toL_len]
 exact ByteArray.extract_zero_size
theorem strOf_ints (s:BA):strOf (intsL s)=s:=by
 refine toL_inj ?_
 unfold strOf intsL
 show ((List.map _ _).toArray).toList=_
 rw[List.map_map]
 show List.map _ (toL s)=toL s
 conv=>rhs;rw[← List.map_id (toL s)]
 refine List.map_congr_left fun b _=>?_
 simp only[Function.comp,Int.toNat_natCast,id]
 exact UInt8.ofNat_toNat
theorem ints_app (a b:BA):intsL (a++b)=intsL a++intsL b:=by unfold intsL;rw[toL_app,List.map_append]
theorem ints_fold:∀ (l:List Many) (o:BA),intsL o++l.flatMap (fun v=>intsL v.r.text)=intsL ((l.map (·.r.text)).foldl (·++·) o)
 | [],o=>by simp
 | v :: l,o=>by
  rw[List.flatMap_cons,← List.append_assoc,← ints_app,ints_fold l,List.map_cons,List.foldl_cons]
theorem longS_eq (a b:BA):longS a b=decide (((runes06 a).length:Int) > ((runes06 b).length:Int)):=by
 unfold longS
 rw[runes_len,runes_len]
 rw[Bool.eq_iff_iff,decide_eq_true_iff,decide_eq_true_iff]
 omega
theorem rdT_rrT {f:Fn} {o v:BA} (h:tlt o v) (hk:f.kind=31∨f.kind=32∨f.kind=33):rdT f o v=rrT f o v:=by
 have h1:Op.bytesLess (ByteArray.toList v) (ByteArray.toList o)=false:=by
  rw[bl_tlt];exact decide_eq_false (tlt_asymm h)
 have h2:decide (v=o)=false:=decide_eq_false (fun e=>tlt_irrefl o (by rw[e] at h;exact h))
 unfold rdT rrT ahd_F
 rw[h1,h2,longS_eq]
 rcases hk with hk | hk | hk
 ·rw[hk];rfl
 ·rw[hk];rfl
 ·rw[hk]
  show (bif decide (((runes06 v).length:Int) > ((runes06 o).length:Int))||((((runes06 v).length:Int)==((runes06 o).length:Int))&&false) then v else o)=bif decide (((runes06 v).length:Int) > ((runes06 o).length:Int)) then v else o
  rw[Bool.and_false,Bool.or_false]
theorem fold_same {f:Fn} (hk:f.kind=31∨f.kind=32∨f.kind=33):∀ (l:List BA) (o:BA),(∀ v∈l,tlt o v)→l.Pairwise tlt→l.foldl (rdT f) o=l.foldl (rrT f) o
 | [],_,_,_=>rfl
 | v :: l,o,h,hp=>by
  rw[List.foldl_cons,List.foldl_cons,rdT_rrT (h v (List.mem_cons_self ..)) hk]
  obtain ⟨h1,h2⟩:=List.pairwise_cons.1 hp
  refine fold_same hk l _ (fun x hx=>?_) h2
  unfold rrT
  cases f.kind==(32:Int)||f.kind==(33:Int)&&longS v o with
  | true=>exact h1 x hx
  | false=>exact h x (List.mem_cons_of_mem _ hx)
theorem fold_join {f:Fn} (hk:f.kind=34):∀ (l:List BA) (o:BA),l.foldl (rdT f) o=l.foldl (·++·) o
 | [],_=>rfl
 | v :: l,o=>by
  have e:rdT f o v=o++v:=by unfold rdT;rw[hk];rfl
  rw[List.foldl_cons,List.foldl_cons,e,fold_join hk l]
theorem rrT_fold_size {f:Fn}:∀ (l:List BA) (o:BA),o.size≤64→(∀ v∈l,v.size≤64)→(l.foldl (rrT f) o).size≤64
 | [],_,h,_=>h
 | v :: l,o,h,hl=>by
  rw[List.foldl_cons]
  exact rrT_fold_size l _ (rrT_size f o v h (hl v (List.mem_cons_self ..))) fun x hx=>hl x (List.mem_cons_of_mem _ hx)
theorem bag_asc {m:Many} {t:List Many} (hl:(m :: t).length≤1000) (hb:bagF (m :: t)=0) (hk:t.any (fun v=>v.r.key != m.r.key)=false):(∀ v∈t.map (·.r.text),tlt m.r.text v)∧(t.map (·.r.text)).Pairwise tlt:=by
 have hz:=(bag_zero (by unfold KB;omega) hb).2
 have key:∀ v∈m :: t,v.r.key=m.r.key:=fun v hv=>by
  rcases List.mem_cons.1 hv with rfl | hv
  ·rfl
  ·by_cases h:v.r.key=m.r.key
   ·exact h
   ·have:t.any (fun v=>v.r.key != m.r.key)=true:=List.any_eq_true.2 ⟨v,hv,bne_iff_ne.2 h⟩
    rw[hk] at this;cases this
 have adj:∀ (l:List Many) (a:Many),(∀ v∈a :: l,v.r.key=m.r.key)→(∀ (n:Nat) (x y:Many),(a :: l)[n]?=some x→(a :: l)[n+1]?=some y→rlt x.r y.r)→(∀ v∈l.map (·.r.text),tlt a.r.text v)∧(l.map (·.r.text)).Pairwise tlt:=by
  intro l
  induction l with
  | nil=>intro a _ _;exact ⟨fun v hv=>absurd hv (List.not_mem_nil),List.Pairwise.nil⟩
  | cons b l ih=>
   intro a hk ha
   obtain ⟨i1,i2⟩:=ih b (fun v hv=>hk v (List.mem_cons_of_mem _ hv)) fun n x y h1 h2=>ha (n+1) x y h1 h2
   have hab:tlt a.r.text b.r.text:=by
    rcases ha 0 a b rfl rfl with h | ⟨_,h⟩
    ·have e1:=hk a (List.mem_cons_self ..)
     have e2:=hk b (List.mem_cons_of_mem _ (List.mem_cons_self ..))
     omega
    ·exact h
   refine ⟨fun v hv=>?_,?_⟩
   ·rw[List.map_cons] at hv
    rcases List.mem_cons.1 hv with rfl | hv
    ·exact hab
    ·exact tlt_trans hab (i1 v hv)
   ·rw[List.map_cons]
    exact List.pairwise_cons.2 ⟨i1,i2⟩
 exact adj t m key hz
theorem chk8 {f:Fn} (h:chkF 8 f=0):(f.kind=31∨f.kind=32∨f.kind=33)∨f.kind=34:=by
 rcases chkF_zero h with ⟨h1,_⟩ | ⟨_,h2,h3,_,_⟩
 ·exact absurd h1 (by decide)
 ·have h2:(31:Int)≤f.kind:=h2
  have h3:f.kind≤34:=h3
  omega
theorem rrd_K0 {f:Fn} {m:Many} {t:List Many} (hl:(m :: t).length≤1000) (hb:bagF (m :: t)=0):rrl_K (f,m :: t) ((),(),(),noRec,m.r,intsL m.r.text,0) 1:=by
 have hz:=(bag_zero (by unfold KB;omega) hb).1
 have hm:=((chkR_iff m.r).1 (hz m (List.mem_cons_self ..))).1
 refine ⟨hl,fun x hx=>((chkR_iff x.r).1 (hz x hx)).1,hm,?_⟩
 show ((intsL m.r.text).length:Int)≤64 * 1
 rw[intsL_len]
 omega
theorem rrd_q1_eq (f:Fn) (m:Many) (t:List Many) (hl:(m :: t).length≤1000) (hb:bagF (m :: t)=0) :
  rrd_q1 f (m :: t)=((scan 0 (rrl_S (f,m :: t)) 1 t ((),(),(),noRec,m.r,intsL m.r.text,0)).1,rrl_g ((scan 0 (rrl_S (f,m :: t)) 1 t ((),(),(),noRec,m.r,intsL m.r.text,0)).2.1,(f,m :: t),(scan 0 (rrl_S (f,m :: t)) 1 t ((),(),(),noRec,m.r,intsL m.r.text,0)).2.2)):=by
 have hrun:=rrl_run1 f (m :: t) ((),(),(),noRec,m.r,intsL m.r.text,0) (by rw[List.length_cons];omega) (by unfold maxLen;omega) (rrd_K0 hl hb)
 have hq:rrd_q1 f (m :: t)=loopF rrl_RR rrl_M (rrl_g (1,(f,m :: t),((),(),(),noRec,m.r,intsL m.r.text,0))):=by
  unfold rrd_q1
  rw[eM.ag_eq]
  show loopF _ _ ((),(),(),f,Rec.mk (0:Int) (ByteArray.mk #[]),m.r,m :: t,e8.lst m.r.text.size (byteEl m.r.text),(1:Int),(0:Int))=_
  rw[byte_lst]
  rfl
 rw[hq,hrun]
 rfl
theorem rrd_out (f:Fn) (m:Many) (t:List Many) (hl:(m :: t).length≤1000) (hb:bagF (m :: t)=0) :
  (t.any (fun v=>v.r.key != m.r.key)=true∧(rrd_q1 f (m :: t)).1=.ret∧(rrd_q1 f (m :: t)).2.2.2.2.2.1=noRec∧(rrd_q1 f (m :: t)).2.2.2.2.2.2.2.2.2.2=1) ∨
  (t.any (fun v=>v.r.key != m.r.key)=false∧∃ j,rrd_q1 f (m :: t)=(.exit 0,(),(),(),f,noRec,Rec.mk m.r.key ((t.map (·.r.text)).foldl (rrT f) m.r.text),m :: t,intsL ((t.map (·.r.text)).foldl (·++·) m.r.text),j,0)):=by
 rw[rrd_q1_eq f m t hl hb]
 rcases rrl_scan (f,m :: t) t 1 noRec m.r (intsL m.r.text) 0 with ⟨k1,j,o',al',k2⟩ | ⟨k1,j,k2⟩
 ·left
  rw[k2]
  exact ⟨k1,rfl,rfl,rfl⟩
 ·right
  rw[k2]
  refine ⟨k1,j,?_⟩
  rw[← ints_fold]
  rfl
theorem str_al (s:BA):strOf (intsOf IntKind.u8 (intsL s).length (e8b.els (intsL s)))=s:=by
 have:=ints_take IntKind.u8 (intsL s) (intsL s).length (Nat.le_refl _)
 rw[List.take_length] at this
 have e:intsOf IntKind.u8 (intsL s).length (e8b.els (intsL s))=intsL s:=this
 rw[e,strOf_ints]
theorem join_size:∀ (l:List BA) (o:BA),(∀ v∈l,v.size≤64)→(l.foldl (·++·) o).size≤o.size+64 * l.length
 | [],o,_=>by simp
 | v :: l,o,h=>by
  rw[List.foldl_cons]
  have:=join_size l (o++v) fun x hx=>h x (List.mem_cons_of_mem _ hx)
  have hv:=h v (List.mem_cons_self ..)
  rw[ByteArray.size_append] at this
  rw[List.length_cons]
  omega
theorem rrd_ok:FnPure Tryd.prog 61 aFLM dRE (fun g=>redF g.1 g.2) (fun g=>[g.2.length≤1000]):=
 pure_congr (rrd_okS _ fun g _ hp=>by
  obtain ⟨f,l⟩:=g
  have h2:l.length≤1000:=hp _ (List.mem_cons_self ..)
  show rrd_side f l
  refine ⟨rfl,fun _=>⟨by rw[eM.okL_eq];trivial,by rw[eM.ag_eq];unfold KB;omega,fun hb hn=>?_⟩⟩
  rw[eM.ag_eq] at hb
  have hb:bagF l=0:=by simpa using hb
  cases l with
  | nil=>cases hn
  | cons m t=>
   have hz:=(bag_zero (by unfold KB;omega) hb).1
   have hm:m.r.text.size≤64:=((chkR_iff m.r).1 (hz m (List.mem_cons_self ..))).1
   refine ⟨⟨Int.le_refl _,by simp only[List.length_cons];omega⟩,by show m.r.text.size≤maxLen;unfold maxLen;omega,by rw[eM.okL_eq];trivial,Nat.le_refl _,fun _ _=>trivial,?_,fun hx=>⟨fun _=>⟨Nat.le_refl _,fun _ _=>rfl⟩,fun _ _ _=>rfl,fun _=>?_⟩⟩
   ·rw[eM.ag_eq]
    show ixJ _ _ rrl_K (1,(f,m :: t),((),(),(),noRec,m.r,e8.lst m.r.text.size (byteEl m.r.text),0))
    rw[byte_lst]
    exact ⟨rfl,by show (m :: t).length≤maxLen;unfold maxLen;omega,by show (0:Int)≤1;decide,by show (1:Int)≤((m :: t).length:Int);rw[List.length_cons];omega,rrd_K0 h2 hb⟩
   ·rcases rrd_out f m t h2 hb with ⟨_,k2,_⟩ | ⟨_,j,k2⟩
    ·rw[k2] at hx;cases hx
    ·rw[k2]
     show (strOf (intsOf IntKind.u8 (intsL _).length (e8b.els (intsL _)))).size≤KB
     rw[str_al]
     have:=join_size (t.map (·.r.text)) m.r.text fun v hv=>by
      obtain ⟨x,hx,rfl⟩:=List.mem_map.1 hv
      exact ((chkR_iff x.r).1 (hz x (List.mem_cons_of_mem _ hx))).1
     rw[List.length_map] at this
     rw[List.length_cons] at h2
     unfold KB
     omega) fun g _ hp=>by
  obtain ⟨f,l⟩:=g
  have h2:l.length≤1000:=hp _ (List.mem_cons_self ..)
  show rrd_F f l=redF f l
  unfold rrd_F
  rw[eM.ag_eq]
  cases l with
  | nil=>rw[redF_nil];rfl
  | cons m t=>
   rw[redF_cons]
   cases hf:chkF 8 f != (0:Int) with
   | true=>rfl
   | false=>
    rw[cond_false,cond_false]
    cases hb:bagF (m :: t) != (0:Int) with
    | true=>rfl
    | false=>
     have hf0:chkF 8 f=0:=by simpa using hf
     have hb0:bagF (m :: t)=0:=by simpa using hb
     have hz:=(bag_zero (by unfold KB;omega) hb0).1
     have e0:(((m :: t).length:Int)==(0:Int))=false:=by
      rw[beq_eq_false_iff_ne]
      simp only[List.length_cons]
      omega
     rw[cond_false,cond_false,e0,cond_false]
     rcases rrd_out f m t h2 hb0 with ⟨k1,k2,k3,k4⟩ | ⟨k1,j,k2⟩
     ·rw[k1,k2,k3,k4];rfl
     ·rw[k1,k2,cond_false]
      show (Rec.mk m.r.key (bif f.kind==(34:Int) then cutS (strOf (intsOf IntKind.u8 (intsL _).length (e8b.els (intsL _)))) 64 else _),(0:Int))=_
      rw[str_al]
      have hw:(bif f.kind==(34:Int) then cutS ((t.map (·.r.text)).foldl (·++·) m.r.text) 64 else (t.map (·.r.text)).foldl (rrT f) m.r.text)=cutS (redT f m t) 64:=by
       unfold redT
       rcases chk8 hf0 with hk | hk
       ·have e4:(f.kind==(34:Int))=false:=by rcases hk with hk | hk | hk <;> (rw[hk];rfl)
        obtain ⟨a1,a2⟩:=bag_asc h2 hb0 k1
        have hs:=rrT_fold_size (f:=f) (t.map (·.r.text)) m.r.text ((chkR_iff m.r).1 (hz m (List.mem_cons_self ..))).1 fun v hv=>by
         obtain ⟨x,hx,rfl⟩:=List.mem_map.1 hv
         exact ((chkR_iff x.r).1 (hz x (List.mem_cons_of_mem _ hx))).1
        rw[e4,cond_false,fold_same hk _ _ a1 a2,cut_small _ hs]
       ·have e4:(f.kind==(34:Int))=true:=by rw[hk];rfl
        rw[e4,cond_true,fold_join hk]
      exact congrArg (fun z=>(Rec.mk m.r.key z,(0:Int))) hw
noncomputable def tabK4:PTab Tryd.prog:=tabH5.cons 61 (pconP aFLM dRE (fun g=>redF g.1 g.2) (fun g=>[g.2.length≤1000])) (conP_ok rrd_ok puRE)
end Go.Proofs.YtmegbepjdololaaDoor

namespace Go.Proofs.YtmegbepjdololaaDoor
open Go.RowKit Go.Sx
set_option maxRecDepth 100000
set_option linter.unusedVariables false
abbrev lsm_G:Type:=Unit×Fn×List Many×Int×Int×Bool
noncomputable def lsm_LP:LP 1 lsm_G:=.pair (.fix 1 3 (.p 0 0)) (.pair (.obj 1 0 66 eF) (.pair (.slot 1 21 dLM) (.pair (.slot 1 22 dI) (.pair (.slot 1 23 dI) (.slot 1 6 dBool)))))
noncomputable def lsm_R (_u:Unit) (f:Fn) (xs:List Many) (n:Int) (i:Int) (b:Bool):Ex×lsm_G:=
 bif decide (i<n) then bif !decide (IntKind.i64.wrap (List.foldl (fun a x=>bif false then if x.snd.snd > a then x.snd.snd else a else if x.snd.snd<a then x.snd.snd else a) (↑(ByteArray.size f.s):Int) [(true,IntKind.i64,(1048576:Int))]+List.foldl (fun a x=>bif false then if x.snd.snd > a then x.snd.snd else a else if x.snd.snd<a then x.snd.snd else a) (↑(ByteArray.size (xs.getD i.toNat eM.dflt).r.text):Int) [(true,IntKind.i64,(1048576:Int))])≤(3000:Int)) then (Ex.ret,(),f,eM.ag xs,n,i,true) else (Ex.normal,(),f,eM.ag xs,n,IntKind.i64.wrap (i+(1:Int)),b)
 else (Ex.exit (0:Nat),(),f,eM.ag xs,n,i,b)
def lsm_side (_u:Unit) (f:Fn) (xs:List Many) (n:Int) (i:Int) (b:Bool):Prop:=
 (decide (i<n)=true→((0:Int)≤i∧i<(↑xs.length:Int))∧((!decide (IntKind.i64.wrap (List.foldl (fun a x=>bif false then if x.snd.snd > a then x.snd.snd else a else if x.snd.snd<a then x.snd.snd else a) (↑(ByteArray.size f.s):Int) [(true,IntKind.i64,(1048576:Int))]+List.foldl (fun a x=>bif false then if x.snd.snd > a then x.snd.snd else a else if x.snd.snd<a then x.snd.snd else a) (↑(ByteArray.size (xs.getD i.toNat eM.dflt).r.text):Int) [(true,IntKind.i64,(1048576:Int))])≤(3000:Int)))=true→eM.okL xs)∧((!decide (IntKind.i64.wrap (List.foldl (fun a x=>bif false then if x.snd.snd > a then x.snd.snd else a else if x.snd.snd<a then x.snd.snd else a) (↑(ByteArray.size f.s):Int) [(true,IntKind.i64,(1048576:Int))]+List.foldl (fun a x=>bif false then if x.snd.snd > a then x.snd.snd else a else if x.snd.snd<a then x.snd.snd else a) (↑(ByteArray.size (xs.getD i.toNat eM.dflt).r.text):Int) [(true,IntKind.i64,(1048576:Int))])≤(3000:Int)))=false→eM.okL xs))∧(decide (i<n)=false→eM.okL xs)
theorem lsm_one:((loopsOf Tryd.prog 13).filter fun c=>Nat.beq (lkey c) 3).length=1:=by kernel_rfl
abbrev lsm_GC:Type:=Fn×List Many×Int
abbrev lsm_GB:Type:=Unit×Bool
def lsm_f (g:lsm_G):Int×lsm_GC×lsm_GB:=(g.2.2.2.2.1,(g.2.1,g.2.2.1,g.2.2.2.1),(g.1,g.2.2.2.2.2))
def lsm_g (d:Int×lsm_GC×lsm_GB):lsm_G:=(d.2.2.1,d.2.1.1,d.2.1.2.1,d.2.1.2.2,d.1,d.2.2.2)
theorem lsm_es (g:lsm_G):(lsm_R g.1 g.2.1 g.2.2.1 g.2.2.2.1 g.2.2.2.2.1 g.2.2.2.2.2).1=.normal∨(lsm_R g.1 g.2.1 g.2.2.1 g.2.2.2.1 g.2.2.2.2.1 g.2.2.2.2.2).1∈([.ret,.exit 0]:List Ex):=by
 unfold lsm_R
 repeat' (first | (left;rfl) | (right;simp only[cond_true,cond_false];simp;done) | (rw[Bool.cond_eq_ite];split))
noncomputable abbrev lsm_C (Inv:lsm_G→List Prop) (m:lsm_G→Nat):LCon:=loopR [.ret,.exit 0] (loopBody Tryd.prog 13 3) lsm_LP [] 96 Inv (fun g=>lsm_R g.1 g.2.1 g.2.2.1 g.2.2.2.1 g.2.2.2.2.1 g.2.2.2.2.2) m
theorem lsm_loop (Inv:lsm_G→List Prop) (m:lsm_G→Nat) (hs:∀ g,allP (Inv g)→lsm_side g.1 g.2.1 g.2.2.1 g.2.2.2.1 g.2.2.2.2.1 g.2.2.2.2.2) (hg:Goes (fun g:lsm_G=>lsm_R g.1 g.2.1 g.2.2.1 g.2.2.2.1 g.2.2.2.2.1 g.2.2.2.2.2) m fun g=>allP (Inv g)):∀ b∈loopsOf Tryd.prog 13,lkey b=3→LoopOk Tryd.prog b (lsm_C Inv m).g:=loop_run (Γ:=(PTab.gamz tabK4 [] [])) (Λ:=noΛ) (PTab.okz tabK4 [] []) noΛ_ok 100 13 3 96 lsm_LP [] Inv (fun g=>lsm_R g.1 g.2.1 g.2.2.1 g.2.2.2.1 g.2.2.2.2.1 g.2.2.2.2.2) (fun g=>lsm_side g.1 g.2.1 g.2.2.1 g.2.2.2.1 g.2.2.2.2.1 g.2.2.2.2.2) m default [.ret,.exit 0] lsm_one (fun rd T B HL HB ds g=>by kernel_rfl) (fun rd T B HL HB ds g=>by kernel_rfl) hs hg lsm_es
abbrev lst_G:Type:=Nat×List Many×Int×Int×Int
noncomputable def lst_LP:LP 4 lst_G:=.pair (.owl 4 13 3) (.pair (.rowO 4 3 84 eM) (.pair (.slot 4 2 d8) (.pair (.slot 4 64 dI) (.slot 4 65 dI))))
noncomputable def lst_R (k:Nat) (xs:List Many) (q:Int) (n:Int) (i:Int):Ex×lst_G:=
 bif decide (i<n) then (Ex.normal,k,(eM.ag xs).set i.toNat (Many.mk (xs.getD i.toNat eM.dflt).r (IntKind.i64.wrap ((1:Int)+(IntKind.i64.wrap ((xs.getD i.toNat eM.dflt).n+IntKind.i64.wrap q)).tmod (1048576:Int)))),q,n,IntKind.i64.wrap (i+(1:Int)))
 else (Ex.exit (2:Nat),k,eM.ag xs,q,n,i)
def lst_side (k:Nat) (xs:List Many) (q:Int) (n:Int) (i:Int):Prop:=
 (decide (i<n)=true→((0:Int)≤i∧i<(↑k:Int))∧i.toNat<xs.length∧(1048576:Int)≠(0:Int)∧((0:Int)≤i∧i<(↑k:Int))∧i.toNat<xs.length∧True∧∀ (e:Nat),e<xs.length→True)∧(decide (i<n)=false→∀ (e:Nat),e<xs.length→True)
theorem lst_one:((loopsOf Tryd.prog 13).filter fun c=>Nat.beq (lkey c) 16).length=1:=by kernel_rfl
theorem lst_es (g:lst_G):(lst_R g.1 g.2.1 g.2.2.1 g.2.2.2.1 g.2.2.2.2).1=.normal∨(lst_R g.1 g.2.1 g.2.2.1 g.2.2.2.1 g.2.2.2.2).1∈([.exit 2]:List Ex):=by
 unfold lst_R
 repeat' (first | (left;rfl) | (right;simp only[cond_true,cond_false];simp;done) | (rw[Bool.cond_eq_ite];split))
noncomputable abbrev lst_C (Inv:lst_G→List Prop) (m:lst_G→Nat):LCon:=loopR [.exit 2] (loopBody Tryd.prog 13 16) lst_LP [] 96 Inv (fun g=>lst_R g.1 g.2.1 g.2.2.1 g.2.2.2.1 g.2.2.2.2) m
theorem lst_loop (Inv:lst_G→List Prop) (m:lst_G→Nat) (hs:∀ g,allP (Inv g)→lst_side g.1 g.2.1 g.2.2.1 g.2.2.2.1 g.2.2.2.2) (hg:Goes (fun g:lst_G=>lst_R g.1 g.2.1 g.2.2.1 g.2.2.2.1 g.2.2.2.2) m fun g=>allP (Inv g)):∀ b∈loopsOf Tryd.prog 13,lkey b=16→LoopOk Tryd.prog b (lst_C Inv m).g:=loop_run (Γ:=(PTab.gamz tabK4 [] [])) (Λ:=noΛ) (PTab.okz tabK4 [] []) noΛ_ok 100 13 16 96 lst_LP [] Inv (fun g=>lst_R g.1 g.2.1 g.2.2.1 g.2.2.2.1 g.2.2.2.2) (fun g=>lst_side g.1 g.2.1 g.2.2.1 g.2.2.2.1 g.2.2.2.2) m default [.exit 2] lst_one (fun rd T B HL HB ds g=>by kernel_rfl) (fun rd T B HL HB ds g=>by kernel_rfl) hs hg lst_es
end Go.Proofs.YtmegbepjdololaaDoor

namespace Go.Proofs.YtmegbepjdololaaDoor
open Go.RowKit Go.Sx Go.Lp
set_option maxRecDepth 100000
noncomputable def lsm_S (c:lsm_GC) (b:lsm_GB) (i:Int) (v:Many):Ex×lsm_GB:=bif !decide (IntKind.i64.wrap (List.foldl (fun a x=>bif false then if x.snd.snd > a then x.snd.snd else a else if x.snd.snd<a then x.snd.snd else a) (↑(ByteArray.size c.1.s):Int) [(true,IntKind.i64,(1048576:Int))]+List.foldl (fun a x=>bif false then if x.snd.snd > a then x.snd.snd else a else if x.snd.snd<a then x.snd.snd else a) (↑(ByteArray.size v.r.text):Int) [(true,IntKind.i64,(1048576:Int))])≤(3000:Int)) then (.ret,(),true) else (.normal,b.1,b.2)
def lsm_K (c:lsm_GC) (b:lsm_GB) (i:Int):Prop:=True
abbrev lsm_I (g:lsm_G):List Prop:=ixI (fun c:lsm_GC=>c.2.2) (fun c:lsm_GC=>c.2.1) lsm_K (lsm_f g)
abbrev lsm_M (g:lsm_G):Nat:=ixM (fun c:lsm_GC=>c.2.2) (lsm_f g)
theorem lsm_P:ixP lsm_S (fun c:lsm_GC=>c.2.1) lsm_K:=fun _ _ _ _ h _ _=>h
noncomputable abbrev lsm_RR (g:lsm_G):Ex×lsm_G:=lsm_R g.1 g.2.1 g.2.2.1 g.2.2.2.1 g.2.2.2.2.1 g.2.2.2.2.2
theorem lsm_RF (d:Int×lsm_GC×lsm_GB) (hi:allP (ixI (fun c:lsm_GC=>c.2.2) (fun c:lsm_GC=>c.2.1) lsm_K d)):lsm_RR (lsm_g d)=((ixF 0 (fun c:lsm_GC=>c.2.2) (fun c:lsm_GC=>c.2.1) eM.dflt lsm_S d).1,lsm_g (ixF 0 (fun c:lsm_GC=>c.2.2) (fun c:lsm_GC=>c.2.1) eM.dflt lsm_S d).2):=by
 obtain ⟨i,⟨f,xs,n⟩,⟨⟨⟩,b⟩⟩:=d
 show lsm_R () f xs n i b=_
 unfold lsm_R ixF lsm_S
 simp only[El.ag_eq]
 cases decide (i<n) with
 | false=>rfl
 | true=>
  simp only[cond_true]
  generalize (!decide (IntKind.i64.wrap (List.foldl (fun a x=>bif false then if x.snd.snd > a then x.snd.snd else a else if x.snd.snd<a then x.snd.snd else a) (↑(ByteArray.size f.s):Int) [(true,IntKind.i64,(1048576:Int))]+List.foldl (fun a x=>bif false then if x.snd.snd > a then x.snd.snd else a else if x.snd.snd<a then x.snd.snd else a) (↑(ByteArray.size (xs.getD i.toNat eM.dflt).r.text):Int) [(true,IntKind.i64,(1048576:Int))])≤(3000:Int)))=z
  cases z <;> rfl
theorem lsm_ok:∀ b∈loopsOf Tryd.prog 13,lkey b=3→LoopOk Tryd.prog b (lsm_C lsm_I lsm_M).g:=by
 refine lsm_loop lsm_I lsm_M (fun g hi=>?_) (ix_conj_goes (fun _=>rfl) (fun _=>rfl) lsm_RF lsm_P)
 obtain ⟨⟨⟩,f,xs,n,i,b⟩:=g
 obtain ⟨h1,h2,h3,h4,h5⟩:=hi _ (List.mem_cons_self ..)
 have h1:n=(xs.length:Int):=h1
 have h3:0≤i:=h3
 have h5:True:=h5
 show lsm_side () f xs n i b
 unfold lsm_side
 simp only[decide_eq_true_eq,decide_eq_false_iff_not]
 have k0:∀ e:Nat,e<xs.length→eM.Ok (eM.els xs e):=fun e _=>eM.ok_els xs e
 clear hi
 repeat' (first | exact k0 | apply And.intro | intro _)
 all_goals omega
theorem lsm_run (c:lsm_GC) (b:lsm_GB) (k1:c.2.2=((c.2.1).length:Int)) (k2:(c.2.1).length≤maxLen) (k3:lsm_K c b 0):loopF lsm_RR lsm_M (lsm_g (0,c,b))=((scan 0 (lsm_S c) 0 (c.2.1) b).1,lsm_g ((scan 0 (lsm_S c) 0 (c.2.1) b).2.1,c,(scan 0 (lsm_S c) 0 (c.2.1) b).2.2)):=ix_conj_run (φ:=lsm_f) (ψ:=lsm_g) (fun _=>rfl) (fun _=>rfl) lsm_RF lsm_P c b k1 k2 k3
noncomputable def ltK6:LTab Tryd.prog:=(LTab.nil.cons 13 3 (lsm_C lsm_I lsm_M) lsm_ok)
end Go.Proofs.YtmegbepjdololaaDoor

namespace Go.Proofs.YtmegbepjdololaaDoor
open Go.RowKit Go.Sx Go.Lp
set_option maxRecDepth 100000
def stN (q:Int) (m:Many):Many:=Many.mk m.r (IntKind.i64.wrap ((1:Int)+(IntKind.i64.wrap (m.n+IntKind.i64.wrap q)).tmod (1048576:Int)))
def stL (q:Int) (xs:List Many) (i:Nat):List Many:=(xs.take i).map (stN q)++xs.drop i
def lst_mk (xs:List Many) (q:Int) (i:Nat):lst_G:=(xs.length,stL q xs i,q,(xs.length:Int),(i:Int))
abbrev lst_I (g:lst_G):List Prop:=[∃ xs q i,g=lst_mk xs q i∧i≤xs.length∧xs.length≤1000]
abbrev lst_M (g:lst_G):Nat:=(g.2.2.2.1 - g.2.2.2.2).toNat
theorem stL_len (q:Int) (xs:List Many) (i:Nat) (h:i≤xs.length):(stL q xs i).length=xs.length:=by
 unfold stL
 rw[List.length_append,List.length_map,List.length_take,List.length_drop]
 omega
theorem stL_step (q:Int) (xs:List Many) (i:Nat) (h:i<xs.length):(stL q xs i).set i (stN q ((stL q xs i).getD i eM.dflt))=stL q xs (i+1):=by
 have e1:((xs.take i).map (stN q)).length=i:=by rw[List.length_map,List.length_take];omega
 have e2:xs.drop i=xs[i] :: xs.drop (i+1):=List.drop_eq_getElem_cons h
 have e3:xs.take (i+1)=xs.take i++[xs[i]]:=List.take_succ_eq_append_getElem h
 have e4:(stL q xs i).getD i eM.dflt=xs[i]:=by
  unfold stL
  rw[List.getD_eq_getElem?_getD,List.getElem?_append_right (by omega),e1,Nat.sub_self,e2]
  rfl
 rw[e4]
 unfold stL
 rw[List.set_append_right _ _ (by omega),e1,Nat.sub_self,e3,List.map_append]
 simp
 rw[e2,List.set_cons_zero]
theorem lst_F (xs:List Many) (q:Int) (i:Nat) (h1:i≤xs.length) (h2:xs.length≤1000):lst_R xs.length (stL q xs i) q (xs.length:Int) (i:Int)=if i<xs.length then (.normal,lst_mk xs q (i+1)) else (.exit 2,lst_mk xs q i):=by
 unfold lst_R lst_mk
 by_cases h:i<xs.length
 ·rw[decide_eq_true (by omega),if_pos h,cond_true,eM.ag_eq,Int.toNat_natCast,wrS (x:=(i:Int)+1) (by omega),← stL_step q xs i h]
  rfl
 ·rw[decide_eq_false (by omega),if_neg h,cond_false,eM.ag_eq]
theorem lst_goes:Goes (fun g:lst_G=>lst_R g.1 g.2.1 g.2.2.1 g.2.2.2.1 g.2.2.2.2) lst_M fun g=>allP (lst_I g):=by
 intro g hi hn
 obtain ⟨xs,q,i,rfl,h1,h2⟩:=hi _ (List.mem_cons_self ..)
 have e:=lst_F xs q i h1 h2
 change (lst_R xs.length (stL q xs i) q (xs.length:Int) (i:Int)).1=.normal at hn
 change allP (lst_I (lst_R xs.length (stL q xs i) q (xs.length:Int) (i:Int)).2)∧lst_M (lst_R xs.length (stL q xs i) q (xs.length:Int) (i:Int)).2<_
 rw[e] at hn ⊢
 by_cases h:i<xs.length
 ·rw[if_pos h] at hn ⊢
  refine ⟨fun p hp=>?_,?_⟩
  ·simp only[List.mem_singleton] at hp
   subst hp
   exact ⟨xs,q,i+1,rfl,by omega,h2⟩
  ·simp only[lst_M,lst_mk];omega
 ·rw[if_neg h] at hn;cases hn
theorem lst_ok:∀ b∈loopsOf Tryd.prog 13,lkey b=16→LoopOk Tryd.prog b (lst_C lst_I lst_M).g:=
 lst_loop lst_I lst_M (fun g hi=>by
  obtain ⟨xs,q,i,rfl,h1,h2⟩:=hi _ (List.mem_cons_self ..)
  have hl:=stL_len q xs i h1
  show lst_side xs.length (stL q xs i) q (xs.length:Int) (i:Int)
  unfold lst_side
  simp only[hl,Int.toNat_natCast,decide_eq_true_eq]
  refine ⟨fun h=>?_,fun _=>?_⟩
  ·have h:i<xs.length:=by omega
   refine ⟨⟨by omega,by omega⟩,h,by decide,⟨by omega,by omega⟩,h,trivial,fun _ _=>trivial⟩
  ·exact fun _ _=>trivial) lst_goes
theorem lst_run (xs:List Many) (q:Int) (h2:xs.length≤1000):∀ (n i:Nat),i≤xs.length→xs.length - i≤n→loopF (fun g:lst_G=>lst_R g.1 g.2.1 g.2.2.1 g.2.2.2.1 g.2.2.2.2) lst_M (lst_mk xs q i)=(.exit 2,lst_mk xs q xs.length):=by
 have hI:∀ i,i≤xs.length→allP (lst_I (lst_mk xs q i)):=fun i h1 p hp=>by
  simp only[List.mem_singleton] at hp
  subst hp
  exact ⟨xs,q,i,rfl,h1,h2⟩
 intro n
 induction n with
 | zero=>
  intro i h1 h3
  have e:=lst_F xs q i h1 h2
  rw[if_neg (by omega)] at e
  have hi:i=xs.length:=by omega
  rw[loopF_end (by show (lst_R xs.length (stL q xs i) q (xs.length:Int) (i:Int)).1≠_;rw[e];simp)]
  show lst_R xs.length (stL q xs i) q (xs.length:Int) (i:Int)=_
  rw[e,← hi]
 | succ n ih=>
  intro i h1 h3
  have e:=lst_F xs q i h1 h2
  by_cases h:i<xs.length
  ·rw[if_pos h] at e
   rw[loopF_next lst_goes (hI i h1) (g':=lst_mk xs q (i+1)) e]
   exact ih (i+1) (by omega) (by omega)
  ·rw[if_neg h] at e
   have hi:i=xs.length:=by omega
   rw[loopF_end (by show (lst_R xs.length (stL q xs i) q (xs.length:Int) (i:Int)).1≠_;rw[e];simp)]
   show lst_R xs.length (stL q xs i) q (xs.length:Int) (i:Int)=_
   rw[e,← hi]
theorem stL_all (q:Int) (xs:List Many):stL q xs xs.length=xs.map (stN q):=by
 unfold stL
 rw[List.take_length,List.drop_length,List.append_nil]
noncomputable def ltK7:LTab Tryd.prog:=ltK6.cons 13 16 (lst_C lst_I lst_M) lst_ok
noncomputable abbrev lamK7:Lam:=ltK7.lam
theorem lamK7_ok:∀ f k L,lamK7 f k=some L→∀ b∈loopsOf Tryd.prog f,lkey b=k→LoopOk Tryd.prog b L.g:=ltK7.ok
end Go.Proofs.YtmegbepjdololaaDoor

namespace Go.Proofs.YtmegbepjdololaaDoor
open Go.RowKit Go.Sx
set_option maxRecDepth 100000
set_option linter.unusedVariables false
theorem mcl (xs:List Many):wTree Tryd.prog (PTab.gamz (PTab.nil:PTab Tryd.prog) [] []) noΛ 100 62 84 eM (aLM.enc xs) =
 Tr.all fun cs=>Tr.giv (cs.isEmpty=false→xs.length=(0:Nat)) (Tr.br (false != !cs.isEmpty) (Tr.ret []) (Tr.ask ((0:Nat)≤(0:Nat)∧(∀ (e:Nat),e<xs.length→(eM.els xs e).all SV.one=true)∧(0:Nat)+xs.length≤maxLen∧((0:Nat)+xs.length) * Tryd.prog.types[(84:Nat)].bytes≤(140737488355328:Nat)) (Tr.ask ((0:Nat)+xs.length=(0:Nat)+xs.length) (Tr.ask (∀ (e:Nat),e<min ((0:Nat)+xs.length) (0:Nat)→eM.OkP []) (Tr.ask (∀ (e:Nat),e<(0:Nat)+xs.length - (0:Nat)→True) (Tr.ret (List.map (fun x=>eM.get []) (List.range (min ((0:Nat)+xs.length) (0:Nat)))++eM.lst ((0:Nat)+xs.length - (0:Nat)) (eM.els xs)))))))):=by kernel_rfl
end Go.Proofs.YtmegbepjdololaaDoor

namespace Go.Proofs.YtmegbepjdololaaDoor
open Go.RowKit Go.Sx Go.Lp
theorem bytesM (h:84<Tryd.prog.types.size):(Tryd.prog.types[84]'h).bytes=32:=by kernel_rfl
theorem onesM (xs:List Many) (e:Nat):(eM.els xs e).all SV.one=true:=by
 unfold El.els
 generalize xs.getD e eM.dflt=t
 rfl
theorem clM (xs:List Many):List.map (fun _=>eM.get []) (List.range (min (0+xs.length) 0))++eM.lst (0+xs.length - 0) (eM.els xs)=xs:=by
 have h2:min (0+xs.length) 0=0:=by omega
 rw[h2,show 0+xs.length - 0=xs.length by omega,eM.lst_els]
 rfl
theorem cloneM_row:FnRow Tryd.prog 62 84 eM aLM (fun xs=>xs) (fun xs=>[xs.length≤KS]):=
 row_of_tree (PTab.okz (PTab.nil:PTab Tryd.prog) [] []) noΛ_ok 100 fun xs _ hp=>by
  have h:xs.length≤KS:=hp _ (List.mem_cons_self ..)
  unfold KS at h
  rw[mcl]
  intro cs hcs
  refine ⟨fun hc=>?_,fun _=>⟨⟨Nat.le_refl _,fun e _=>onesM xs e,by unfold maxLen;omega,by rw[bytesM];omega⟩,rfl,fun e he=>by omega,fun _ _=>trivial,?_⟩⟩
  ·have hx:xs=[]:=List.length_eq_zero_iff.1 (hcs (by cases hh:cs.isEmpty with
    | true=>rw[hh] at hc;cases hc
    | false=>rfl))
   exact hx.symm
  ·exact clM xs
noncomputable def tabK9:MTab Tryd.prog:=(MTab.of tabK4).consM 62 (bconRow 84 eM aLM (fun xs=>xs) (fun xs=>[xs.length≤KS])) (conRow_ok cloneM_row)
end Go.Proofs.YtmegbepjdololaaDoor

namespace Go.Proofs.YtmegbepjdololaaDoor
open Go.RowKit Go.Sx
set_option maxRecDepth 100000
set_option linter.unusedVariables false
abbrev aFLq:DA (Fn×List Many×Int):=.cons dF (.cons dLM (.one d8))
noncomputable def lrd_q1 (f:Fn) (l:List Many) (q:Int):Ex ×
 lsm_G:=
 loopF (fun g=>lsm_R g.fst g.snd.fst g.snd.snd.fst g.snd.snd.snd.fst g.snd.snd.snd.snd.fst g.snd.snd.snd.snd.snd) lsm_M ((),f,eM.lst (List.foldl (fun a x=>bif false then if x.snd.snd > a then x.snd.snd else a else if x.snd.snd<a then x.snd.snd else a) (↑l.length:Int) [(true,IntKind.i64,(100:Int))]).toNat (eM.els l),(↑(List.foldl (fun a x=>bif false then if x.snd.snd > a then x.snd.snd else a else if x.snd.snd<a then x.snd.snd else a) (↑l.length:Int) [(true,IntKind.i64,(100:Int))]).toNat:Int),(0:Int),false)
noncomputable def lrd_q2 (f:Fn) (l:List Many) (q:Int):Rec ×
 Int:=
 redF (lrd_q1 f l q).snd.snd.fst (eM.lst (List.foldl (fun a x=>bif false then if x.snd.snd > a then x.snd.snd else a else if x.snd.snd<a then x.snd.snd else a) (↑l.length:Int) [(true,IntKind.i64,(100:Int))]).toNat (eM.els l))
noncomputable def lrd_q3 (f:Fn) (l:List Many) (q:Int):Ex ×
 lst_G:=
 loopF (fun g=>lst_R g.fst g.snd.fst g.snd.snd.fst g.snd.snd.snd.fst g.snd.snd.snd.snd) lst_M ((eM.lst (List.foldl (fun a x=>bif false then if x.snd.snd > a then x.snd.snd else a else if x.snd.snd<a then x.snd.snd else a) (↑l.length:Int) [(true,IntKind.i64,(100:Int))]).toNat (eM.els l)).length,eM.ag (eM.lst (List.foldl (fun a x=>bif false then if x.snd.snd > a then x.snd.snd else a else if x.snd.snd<a then x.snd.snd else a) (↑l.length:Int) [(true,IntKind.i64,(100:Int))]).toNat (eM.els l)),q,(↑(eM.lst (List.foldl (fun a x=>bif false then if x.snd.snd > a then x.snd.snd else a else if x.snd.snd<a then x.snd.snd else a) (↑l.length:Int) [(true,IntKind.i64,(100:Int))]).toNat (eM.els l)).length:Int),(0:Int))
noncomputable def lrd_q4 (f:Fn) (l:List Many) (q:Int):Rec×Int:=
 redF (lrd_q1 f l q).snd.snd.fst (eM.lst (lrd_q3 f l q).snd.fst (eM.els (lrd_q3 f l q).snd.snd.fst))
noncomputable def lrd_F (f:Fn) (l:List Many) (q:Int):Dv.T dBool:=
 bif exB Ex.ret (lrd_q1 f l q).fst then (lrd_q1 f l q).snd.snd.snd.snd.snd.snd
 else bif !true||(!conj ([(lrd_q2 f l q).fst.key==(lrd_q2 f l q).fst.key]++([decide ((lrd_q2 f l q).fst.text=(lrd_q2 f l q).fst.text)]++[]))||(lrd_q2 f l q).snd != (lrd_q2 f l q).snd) then false else bif (lrd_q2 f l q).snd != (0:Int) then true else (lrd_q4 f l q).snd==(0:Int)&&conj ([(lrd_q4 f l q).fst.key==(lrd_q2 f l q).fst.key]++([decide ((lrd_q4 f l q).fst.text=(lrd_q2 f l q).fst.text)]++[]))
def lrd_side (f:Fn) (l:List Many) (q:Int):Prop:=
 ((0:Int)≤List.foldl (fun a x=>bif false then if x.snd.snd > a then x.snd.snd else a else if x.snd.snd<a then x.snd.snd else a) (↑l.length:Int) [(true,IntKind.i64,(100:Int))]∧List.foldl (fun a x=>bif false then if x.snd.snd > a then x.snd.snd else a else if x.snd.snd<a then x.snd.snd else a) (↑l.length:Int) [(true,IntKind.i64,(100:Int))]≤(↑l.length:Int))∧(∀ (e:Nat),e<(List.foldl (fun a x=>bif false then if x.snd.snd > a then x.snd.snd else a else if x.snd.snd<a then x.snd.snd else a) (↑l.length:Int) [(true,IntKind.i64,(100:Int))]).toNat→eM.Ok (eM.els l e))∧Lp.ixJ (fun c=>c.snd.snd) (fun c=>c.snd.fst) lsm_K (lsm_f ((),f,eM.lst (List.foldl (fun a x=>bif false then if x.snd.snd > a then x.snd.snd else a else if x.snd.snd<a then x.snd.snd else a) (↑l.length:Int) [(true,IntKind.i64,(100:Int))]).toNat (eM.els l),(↑(List.foldl (fun a x=>bif false then if x.snd.snd > a then x.snd.snd else a else if x.snd.snd<a then x.snd.snd else a) (↑l.length:Int) [(true,IntKind.i64,(100:Int))]).toNat:Int),(0:Int),false))∧(exB Ex.ret (lrd_q1 f l q).fst=false→(∀ (e:Nat),e<(List.foldl (fun a x=>bif false then if x.snd.snd > a then x.snd.snd else a else if x.snd.snd<a then x.snd.snd else a) (↑l.length:Int) [(true,IntKind.i64,(100:Int))]).toNat→eM.Ok (eM.els l e))∧(eM.lst (List.foldl (fun a x=>bif false then if x.snd.snd > a then x.snd.snd else a else if x.snd.snd<a then x.snd.snd else a) (↑l.length:Int) [(true,IntKind.i64,(100:Int))]).toNat (eM.els l)).length≤(1000:Nat)∧(∀ (e:Nat),e<(List.foldl (fun a x=>bif false then if x.snd.snd > a then x.snd.snd else a else if x.snd.snd<a then x.snd.snd else a) (↑l.length:Int) [(true,IntKind.i64,(100:Int))]).toNat→eM.Ok (eM.els l e))∧(eM.lst (List.foldl (fun a x=>bif false then if x.snd.snd > a then x.snd.snd else a else if x.snd.snd<a then x.snd.snd else a) (↑l.length:Int) [(true,IntKind.i64,(100:Int))]).toNat (eM.els l)).length≤(1000:Nat)∧((!true||(!conj ([(lrd_q2 f l q).fst.key==(lrd_q2 f l q).fst.key]++([decide ((lrd_q2 f l q).fst.text=(lrd_q2 f l q).fst.text)]++[]))||(lrd_q2 f l q).snd != (lrd_q2 f l q).snd))=false→((lrd_q2 f l q).snd != (0:Int))=false→(∀ (e:Nat),e<(List.foldl (fun a x=>bif false then if x.snd.snd > a then x.snd.snd else a else if x.snd.snd<a then x.snd.snd else a) (↑l.length:Int) [(true,IntKind.i64,(100:Int))]).toNat→eM.Ok (eM.els l e))∧(eM.lst (List.foldl (fun a x=>bif false then if x.snd.snd > a then x.snd.snd else a else if x.snd.snd<a then x.snd.snd else a) (↑l.length:Int) [(true,IntKind.i64,(100:Int))]).toNat (eM.els l)).length≤KS∧(∀ (e:Nat),e<(eM.lst (List.foldl (fun a x=>bif false then if x.snd.snd > a then x.snd.snd else a else if x.snd.snd<a then x.snd.snd else a) (↑l.length:Int) [(true,IntKind.i64,(100:Int))]).toNat (eM.els l)).length→True)∧(∃ xs q_1 i,((eM.lst (List.foldl (fun a x=>bif false then if x.snd.snd > a then x.snd.snd else a else if x.snd.snd<a then x.snd.snd else a) (↑l.length:Int) [(true,IntKind.i64,(100:Int))]).toNat (eM.els l)).length,eM.ag (eM.lst (List.foldl (fun a x=>bif false then if x.snd.snd > a then x.snd.snd else a else if x.snd.snd<a then x.snd.snd else a) (↑l.length:Int) [(true,IntKind.i64,(100:Int))]).toNat (eM.els l)),q,(↑(eM.lst (List.foldl (fun a x=>bif false then if x.snd.snd > a then x.snd.snd else a else if x.snd.snd<a then x.snd.snd else a) (↑l.length:Int) [(true,IntKind.i64,(100:Int))]).toNat (eM.els l)).length:Int),(0:Int))=lst_mk xs q_1 i∧i≤xs.length∧xs.length≤(1000:Nat))∧(lrd_q3 f l q).snd.fst≤(lrd_q3 f l q).snd.snd.fst.length∧(∀ (e:Nat),e<(lrd_q3 f l q).snd.fst→eM.Ok ((ElE.fn (eM.els (lrd_q3 f l q).snd.snd.fst)).at e))∧(eM.lst (lrd_q3 f l q).snd.fst (eM.els (lrd_q3 f l q).snd.snd.fst)).length≤(1000:Nat)))
theorem lrd_okS (pre:DA.T aFLq→List Prop) (h:∀ g,DA.bd aFLq g→(∀ p∈pre g,p)→lrd_side g.1 g.2.1 g.2.2):FnPure Tryd.prog 13 aFLq dBool (fun g=>lrd_F g.1 g.2.1 g.2.2) pre:=pure_of_sideS (Γ:=(MTab.gamz tabK9 [] [])) (Λ:=lamK7) (MTab.okz tabK9 [] []) lamK7_ok 100 default (fun g=>lrd_side g.1 g.2.1 g.2.2) (fun g=>by kernel_rfl) (fun g=>by kernel_rfl) h
end Go.Proofs.YtmegbepjdololaaDoor

namespace Go.Proofs.YtmegbepjdololaaDoor
open Go.RowKit Go.Sx
set_option maxRecDepth 100000
set_option linter.unusedVariables false
end Go.Proofs.YtmegbepjdololaaDoor

namespace Go.Proofs.YtmegbepjdololaaDoor
open Go.RowKit Go.Sx Go.Lp
set_option maxRecDepth 100000
end Go.Proofs.YtmegbepjdololaaDoor

namespace Go.Proofs.YtmegbepjdololaaDoor
open Go.RowKit Go.Sx
set_option maxRecDepth 100000
set_option linter.unusedVariables false
end Go.Proofs.YtmegbepjdololaaDoor

namespace Go.Proofs.YtmegbepjdololaaDoor
open Go.RowKit Go.Sx
set_option maxRecDepth 100000
set_option linter.unusedVariables false
end Go.Proofs.YtmegbepjdololaaDoor

namespace Go.Proofs.YtmegbepjdololaaDoor
open Go.RowKit Go.Sx Go.Lp
set_option maxRecDepth 100000
end Go.Proofs.YtmegbepjdololaaDoor

namespace Go.Proofs.YtmegbepjdololaaDoor
open Go.RowKit Go.Sx
set_option maxRecDepth 100000
set_option linter.unusedVariables false
end Go.Proofs.YtmegbepjdololaaDoor

namespace Go.Proofs.YtmegbepjdololaaDoor
open Go.RowKit Go.Sx Go.Lp
set_option maxRecDepth 100000
end Go.Proofs.YtmegbepjdololaaDoor

namespace Go.Proofs.YtmegbepjdololaaDoor
open Go.RowKit Go.Sx Go.Lp
set_option maxRecDepth 100000
def cutN (n:Nat):Int:=List.foldl (fun a (x:Bool×IntKind×Int)=>bif false then if x.2.2 > a then x.2.2 else a else if x.2.2<a then x.2.2 else a) (n:Int) [(true,IntKind.i64,(100:Int))]
theorem cutN_eq (n:Nat):cutN n=if (100:Int)<(n:Int) then 100 else (n:Int):=rfl
theorem cutN_nat (l:List Many):(cutN l.length).toNat=(l.take 100).length:=by
 rw[cutN_eq,List.length_take]
 split <;> omega
theorem cutN_le (n:Nat):0≤cutN n∧cutN n≤(n:Int):=by
 rw[cutN_eq]
 split <;> omega
theorem cut_lst (l:List Many):eM.lst (cutN l.length).toNat (eM.els l)=l.take 100:=by
 rw[eM.lst_take _ l (by have:=cutN_le l.length;omega),cutN_nat]
 simp only[List.length_take]
 rw[← List.take_eq_take_min]
theorem take_100 (l:List Many):(l.take 100).length≤100:=by rw[List.length_take];omega
end Go.Proofs.YtmegbepjdololaaDoor

namespace Go.Proofs.YtmegbepjdololaaDoor
open Go.RowKit Go.Sx Go.Lp
set_option maxRecDepth 100000
theorem st_getD (q:Int) (xs:List Many) (k:Nat):((xs.map (stN q)).getD k eM.dflt).r=(xs.getD k eM.dflt).r:=by
 rw[List.getD_eq_getElem?_getD,List.getD_eq_getElem?_getD,List.getElem?_map]
 cases xs[k]? with
 | none=>rfl
 | some v=>rfl
theorem st_n {q:Int} (hq:0≤q∧q≤255) {n:Int} (h:1≤n∧n≤1048576) (r:Rec):1≤(stN q ⟨r,n⟩).n∧(stN q ⟨r,n⟩).n≤1048576:=by
 show 1≤IntKind.i64.wrap ((1:Int)+(IntKind.i64.wrap (n+IntKind.i64.wrap q)).tmod (1048576:Int))∧IntKind.i64.wrap ((1:Int)+(IntKind.i64.wrap (n+IntKind.i64.wrap q)).tmod (1048576:Int))≤1048576
 rw[wrS (x:=q) (by omega),wrS (x:=n+q) (by omega),Int.tmod_eq_emod_of_nonneg (by omega)]
 have h1:=Int.emod_nonneg (n+q) (b:=1048576) (by decide)
 have h2:=Int.emod_lt_of_pos (n+q) (b:=1048576) (by decide)
 rw[wrS (by omega)]
 omega
theorem st_bag {q:Int} (hq:0≤q∧q≤255) {xs:List Many} (h:bagF xs=0):bagF (xs.map (stN q))=0:=by
 unfold bagF at h ⊢
 have e1:(xs.map (stN q)).any (fun v=>chkR v.r != (0:Int))=xs.any (fun v=>chkR v.r != (0:Int)):=by
  rw[List.any_map];rfl
 rw[e1]
 cases h1:xs.any (fun v=>chkR v.r != (0:Int)) with
 | true=>rw[h1] at h;cases h
 | false=>
  rw[h1,cond_false] at h
  rw[cond_false]
  cases h2:(List.range xs.length).any (fun j=>bagBad xs (j:Int) (xs.getD j eM.dflt)) with
  | true=>rw[h2] at h;cases h
  | false=>
   have e2:(List.range (xs.map (stN q)).length).any (fun j=>bagBad (xs.map (stN q)) (j:Int) ((xs.map (stN q)).getD j eM.dflt))=false:=by
    rw[Bool.eq_false_iff]
    intro ha
    obtain ⟨j,hj,hb⟩:=List.any_eq_true.1 ha
    rw[List.length_map] at hj
    have hn:bagBad xs (j:Int) (xs.getD j eM.dflt)=false:=by
     rw[Bool.eq_false_iff]
     intro hc
     have:(List.range xs.length).any (fun j=>bagBad xs (j:Int) (xs.getD j eM.dflt))=true:=List.any_eq_true.2 ⟨j,hj,hc⟩
     rw[h2] at this
     cases this
    have hj:=List.mem_range.1 hj
    have e3:(xs.map (stN q)).getD j eM.dflt=stN q (xs.getD j eM.dflt):=by
     rw[List.getD_eq_getElem?_getD,List.getD_eq_getElem?_getD,List.getElem?_map,List.getElem?_eq_getElem hj]
     rfl
    rw[e3] at hb
    unfold bagBad at hn hb
    simp only[Bool.or_eq_false_iff,Bool.and_eq_false_iff,decide_eq_false_iff_not] at hn
    obtain ⟨n1,n2,n3⟩:=hn
    have hs:=st_n hq (n:=(xs.getD j eM.dflt).n) ⟨by omega,by omega⟩ (xs.getD j eM.dflt).r
    have hs:1≤(stN q (xs.getD j eM.dflt)).n∧(stN q (xs.getD j eM.dflt)).n≤1048576:=hs
    rw[decide_eq_false (by omega),decide_eq_false (by omega),Bool.false_or,Bool.false_or,st_getD] at hb
    have hb:(decide ((j:Int) > 0)&&decide (cmpR (xs.getD (IntKind.i64.wrap ((j:Int) - 1)).toNat eM.dflt).r (xs.getD j eM.dflt).r≥0))=true:=hb
    simp only[Bool.and_eq_true,decide_eq_true_eq] at hb
    rcases n3 with n3 | n3
    ·exact n3 hb.1
    ·exact n3 hb.2
   rw[e2];rfl
theorem st_red {f:Fn} {q:Int} (hq:0≤q∧q≤255) {xs:List Many} (h:(redF f xs).2=0):redF f (xs.map (stN q))=redF f xs:=by
 cases xs with
 | nil=>rfl
 | cons m t=>
  rw[List.map_cons,redF_cons,redF_cons]
  rw[redF_cons] at h
  cases hf:chkF 8 f != (0:Int) with
  | true=>rfl
  | false=>
   rw[hf,cond_false] at h
   rw[cond_false,cond_false]
   cases hb:bagF (m :: t) != (0:Int) with
   | true=>rw[hb,cond_true] at h;simp only at h;rw[h] at hb;cases hb
   | false=>
    have hb0:bagF (m :: t)=0:=by simpa using hb
    have hb1:=st_bag hq hb0
    rw[List.map_cons] at hb1
    rw[hb1]
    have e1:(t.map (stN q)).any (fun v=>v.r.key != (stN q m).r.key)=t.any (fun v=>v.r.key != m.r.key):=by
     rw[List.any_map];rfl
    have e2:redT f (stN q m) (t.map (stN q))=redT f m t:=by
     unfold redT
     rw[List.map_map];rfl
    rw[e1,e2]
    rfl
theorem lrd_q1_eq (f:Fn) (l:List Many) (q:Int):((lrd_q1 f l q).1=.ret∧(lrd_q1 f l q).2.2.2.2.2.2=true)∨((lrd_q1 f l q).1=.exit 0∧(lrd_q1 f l q).2.2.1=f∧f.s.size≤KB)∨((lrd_q1 f l q).1=.exit 0∧(lrd_q1 f l q).2.2.1=f∧l.take 100=[]):=by
 have hl:=take_100 l
 have hrun:=lsm_run (f,l.take 100,((l.take 100).length:Int)) ((),false) rfl (by show (l.take 100).length≤maxLen;unfold maxLen;omega) trivial
 have hq:lrd_q1 f l q=loopF lsm_RR lsm_M (lsm_g (0,(f,l.take 100,((l.take 100).length:Int)),((),false))):=by
  unfold lrd_q1
  show loopF _ _ ((),f,eM.lst (cutN l.length).toNat (eM.els l),((cutN l.length).toNat:Int),(0:Int),false)=_
  rw[cut_lst,cutN_nat]
  rfl
 rcases search (x:=0) (st:=lsm_S (f,l.take 100,((l.take 100).length:Int))) (p:=fun v=>!decide (smallN f.s.size v.r.text.size≤3000)) (r:=fun _ _ _=>((),true)) (fun b i a=>rfl) (l.take 100) ((),false) with ⟨_,j,_,a,_,_,hs⟩ | ⟨h1,hs⟩
 ·left
  rw[hq,hrun,hs]
  exact ⟨rfl,rfl⟩
 ·right
  cases hc:l.take 100 with
  | nil=>
   right
   rw[hc] at hq hrun hs
   rw[hq,hrun,hs]
   exact ⟨rfl,rfl,rfl⟩
  | cons m t=>
   left
   have hm:(!decide (smallN f.s.size m.r.text.size≤3000))=false:=by
    rw[Bool.eq_false_iff]
    intro hb
    have:(l.take 100).any (fun v=>!decide (smallN f.s.size v.r.text.size≤3000))=true:=List.any_eq_true.2 ⟨m,(by rw[hc];exact List.mem_cons_self ..:m∈l.take 100),hb⟩
    rw[h1] at this
    cases this
   simp only[Bool.not_eq_false',decide_eq_true_eq] at hm
   have:=(small_le hm).1
   rw[hc] at hq hrun hs
   rw[hq,hrun,hs]
   exact ⟨rfl,rfl,by unfold KB;omega⟩
theorem lrd_q2_eq (f:Fn) (l:List Many) (q:Int) (h:(lrd_q1 f l q).2.2.1=f):lrd_q2 f l q=redF f (l.take 100):=by
 unfold lrd_q2
 rw[h]
 show redF f (eM.lst (cutN l.length).toNat (eM.els l))=_
 rw[cut_lst]
theorem stL_zero (q:Int) (xs:List Many):stL q xs 0=xs:=by unfold stL;simp
theorem lrd_q3_eq (f:Fn) (l:List Many) (q:Int):lrd_q3 f l q=(.exit 2,(l.take 100).length,(l.take 100).map (stN q),q,((l.take 100).length:Int),((l.take 100).length:Int)):=by
 have hl:=take_100 l
 have hrun:=lst_run (l.take 100) q (by omega) (l.take 100).length 0 (Nat.zero_le _) (Nat.sub_le _ _)
 have hq:lrd_q3 f l q=loopF (fun g:lst_G=>lst_R g.1 g.2.1 g.2.2.1 g.2.2.2.1 g.2.2.2.2) lst_M (lst_mk (l.take 100) q 0):=by
  unfold lrd_q3 lst_mk
  show loopF _ _ ((eM.lst (cutN l.length).toNat (eM.els l)).length,eM.ag (eM.lst (cutN l.length).toNat (eM.els l)),q,((eM.lst (cutN l.length).toNat (eM.els l)).length:Int),(0:Int))=_
  rw[cut_lst,eM.ag_eq,stL_zero]
  rfl
 rw[hq,hrun]
 unfold lst_mk
 rw[stL_all]
theorem lrd_lst (f:Fn) (l:List Many) (q:Int):eM.lst (lrd_q3 f l q).2.1 (eM.els (lrd_q3 f l q).2.2.1)=(l.take 100).map (stN q):=by
 rw[lrd_q3_eq]
 show eM.lst (l.take 100).length (eM.els ((l.take 100).map (stN q)))=_
 have:(l.take 100).length=((l.take 100).map (stN q)).length:=by rw[List.length_map]
 rw[this,eM.lst_els]
theorem lrd_eq (f:Fn) (l:List Many) (q:Int) (hq:0≤q∧q≤255):lrd_F f l q=true:=by
 unfold lrd_F
 have key:(lrd_q1 f l q).1=.exit 0→(lrd_q1 f l q).2.2.1=f→(bif exB Ex.ret (lrd_q1 f l q).fst then (lrd_q1 f l q).snd.snd.snd.snd.snd.snd else bif !true||(!conj ([(lrd_q2 f l q).fst.key==(lrd_q2 f l q).fst.key]++([decide ((lrd_q2 f l q).fst.text=(lrd_q2 f l q).fst.text)]++[]))||(lrd_q2 f l q).snd != (lrd_q2 f l q).snd) then false else bif (lrd_q2 f l q).snd != (0:Int) then true else (lrd_q4 f l q).snd==(0:Int)&&conj ([(lrd_q4 f l q).fst.key==(lrd_q2 f l q).fst.key]++([decide ((lrd_q4 f l q).fst.text=(lrd_q2 f l q).fst.text)]++[])))=true:=by
  intro k1 k2
  have e4:lrd_q4 f l q=redF f ((l.take 100).map (stN q)):=by
   unfold lrd_q4
   rw[k2,lrd_lst]
  rw[k1,show exB Ex.ret (Ex.exit 0)=false from rfl,cond_false,conj_R,conj_R,e4,lrd_q2_eq f l q k2,decide_eq_true rfl,bne_self_eq_false]
  show (bif (redF f (l.take 100)).2 != (0:Int) then true else _)=true
  cases he:(redF f (l.take 100)).2 != (0:Int) with
  | true=>rfl
  | false=>
   have he0:(redF f (l.take 100)).2=0:=by simpa using he
   rw[cond_false,st_red hq he0,he0]
   simp
 rcases lrd_q1_eq f l q with ⟨k1,k2⟩ | ⟨k1,k2,_⟩ | ⟨k1,k2,_⟩
 ·rw[k1,k2];rfl
 ·exact key k1 k2
 ·exact key k1 k2
theorem lrd_si (f:Fn) (l:List Many) (q:Int):lrd_side f l q:=by
 have hl:=take_100 l
 have ok:∀ n,∀ e,e<n→eM.Ok (eM.els l e):=fun n e _=>eM.ok_els l e
 have h1:(eM.lst (cutN l.length).toNat (eM.els l)).length≤1000:=by rw[cut_lst];omega
 refine ⟨cutN_le l.length,ok _,?_,fun hx=>?_⟩
 ·show ixJ _ _ lsm_K (lsm_f ((),f,eM.lst (cutN l.length).toNat (eM.els l),((cutN l.length).toNat:Int),(0:Int),false))
  rw[cut_lst,cutN_nat]
  exact ixJ0 (by rfl) (by show (l.take 100).length≤maxLen;unfold maxLen;omega) trivial
 ·refine ⟨ok _,h1,ok _,h1,fun _ _=>⟨ok _,?_,fun _ _=>trivial,?_,?_,fun e _=>eM.ok_els _ e,?_⟩⟩
  ·show (eM.lst (cutN l.length).toNat (eM.els l)).length≤KS
   unfold KS;omega
  ·refine ⟨l.take 100,q,0,?_,Nat.zero_le _,by omega⟩
   show ((eM.lst (cutN l.length).toNat (eM.els l)).length,eM.ag (eM.lst (cutN l.length).toNat (eM.els l)),q,((eM.lst (cutN l.length).toNat (eM.els l)).length:Int),(0:Int))=_
   unfold lst_mk
   rw[cut_lst,eM.ag_eq,stL_zero]
   rfl
  ·rw[lrd_q3_eq]
   show (l.take 100).length≤((l.take 100).map (stN q)).length
   rw[List.length_map]
   exact Nat.le_refl _
  ·rw[lrd_lst,List.length_map];omega
theorem lrd_ok:FnPure Tryd.prog 13 aFLq dBool (fun _=>true) (fun g=>[0≤g.2.2∧g.2.2≤255]):=
 pure_congr (lrd_okS _ fun g _ _=>lrd_si g.1 g.2.1 g.2.2) fun g _ hp=>lrd_eq g.1 g.2.1 g.2.2 (hp _ (List.mem_cons_self ..))
end Go.Proofs.YtmegbepjdololaaDoor

namespace Go.Proofs.YtmegbepjdololaaDoor
open Go.ChangeShapes Go.WideShapes Go.ChangeAt Go.RowKit Go.Sx
set_option maxRecDepth 100000 in
theorem fnReduces_lifted (law:FnPure Tryd.prog 13 aFLq dBool (fun _=>true) (fun g=>[0≤g.2.2∧g.2.2≤255])) (os:Os) (started:os.Started) (H:Type) (enc:TypeId×Value→H) :
  ReturnsInHanded {} Tryd.checked os 13 .any (fun w args=>(Rows.fnReducesSpec.pre enc Tryd.prog Tryd.f13 Rows.fnReducesRow.domain false w args∧laidMetH Tryd.prog Rows.fnReducesRow.laid w)∧sizedMet enc Tryd.prog Tryd.f13 (OpenSpec.ofChange Rows.fnReducesSpec) false w args) (Rows.fnReducesSpec.post enc Tryd.prog Tryd.f13 false true false false):=by
 refine rowLaid (C:=Tryd.checked) (laid:=Rows.fnReducesRow.laid) Tryd.own started (by kernel_rfl) Tryd.func13
  (ChangeSpec.witness_shaped (enc:=enc) (C:=Tryd.checked) (os:=os) (X:=fun w _=>laidMetH Tryd.prog Rows.fnReducesRow.laid w) false (World.laidAll Tryd.prog os Rows.fnReducesRow.laid) #[.agg #[.int .i64 0,.int .i64 0,.string ByteArray.empty],.slice none 0 0,.int .u8 0] 8 (World.laidAll_os _ _ _)
   (World.shaped_of_ZipB (by kernel_rfl) (by kernel_rfl)) (by kernel_rfl) (by kernel_rfl) (by kernel_rfl)
   (by rw[MakeChecks.laidMetH_plain _ _ _ (by kernel_rfl)];exact laidMet_laidAll _ (by kernel_rfl) (by kernel_rfl))) ?_
 intro W base args ds gs before hval0 hW hcnd hL hsh
 have hval:∀ (j:Nat) t v,Tryd.f13.params[j]?=some t→args[j]?=some v→Value.okWide Tryd.prog W .any base t v:=hval0
 have hW':=hW
 obtain ⟨p,q,hA0,hV,rfl,hfz,hnd⟩:=hW
 have hA:DataW.TrodAll enc Tryd.prog W 0 (fun _=>true) true Tryd.f13.params.toList args.toList ds p:=hA0
 rw[Tryd.params13] at hA hval
 obtain ⟨v0,vs0,d0,ds0,p0,qq0,hargs,rfl,rfl,h0,r0⟩:=trodAll_cons hA
 obtain ⟨v1,vs1,d1,ds1,p1,qq1,rfl,rfl,rfl,h1,r1⟩:=trodAll_cons r0
 obtain ⟨v2,vs2,d2,ds2,p2,qq2,rfl,rfl,rfl,h2,r2⟩:=trodAll_cons r1
 obtain ⟨rfl,rfl,rfl⟩:=trodAll_nil r2
 obtain rfl:args=#[v0,v1,v2]:=by cases args;simp_all
 obtain ⟨rfl,rfl⟩:=trodVars_none hV
 obtain ⟨a0,q0,f0⟩:=rdvF _ _ _ _ _ _ _ _ _ _ _ (hval 0 66 v0 rfl rfl) h0
 obtain ⟨a1,q1,f1⟩:=rdvLM _ _ _ _ _ _ _ _ _ _ _ (hval 1 34 v1 rfl rfl) h1
 obtain ⟨a2,q2,f2⟩:=rdv8 _ _ _ _ _ _ _ _ _ _ _ (hval 2 5 v2 rfl rfl) h2
 have lt:∀ {t:TypeId} {v:Value} {d:DataW H} {ps:List MemPlace},DataW.Trod enc Tryd.prog W 0 (fun _=>true) true t v d ps→∀ x∈ps,x.block<W.heap.size:=by
  rintro t v d ps ⟨m,hm⟩
  exact DataW.trod_lt m _ _ _ hm
 clear hA0 hval0
 refine (law W (fun b=>W.heap[b]?) (a0,a1,a2) [v0,v1,v2] (fun _ _ h=>h) (rowEnv hL hsh) (by intro p hp;rw[List.mem_singleton.1 hp];exact wf8 q2) ⟨f0,f1,f2,trivial⟩).mono fun e W' ⟨x,he,bel,hx⟩=>?_
 obtain rfl:x=.bool true:=by simpa [dBool,SV.fit] using hx
 subst he
 exact ⟨_,rfl,_,_,_,[],_,[],hW',trodAll_mk1 (shut_bool Tryd.underlying4 _),
  (trodAll_cons_mk (Below.trod Tryd.laidOut (by kernel_rfl) (of_decide_eq_true (by kernel_rfl)) h0 bel (lt h0))
  (trodAll_cons_mk (Below.trod Tryd.laidOut (by kernel_rfl) (of_decide_eq_true (by kernel_rfl)) h1 bel (lt h1))
  (trodAll_cons_mk (Below.trod Tryd.laidOut (by kernel_rfl) (of_decide_eq_true (by kernel_rfl)) h2 bel (lt h2)) trodAll_mk0))),rfl,bel.frame _,fun h=>by cases h⟩
theorem fnReduces_row:Rows.FnReducesSaid:=
 OpenClaim.holds_of_wide 13 Tryd.f13 rfl rfl rfl rfl rfl rfl rfl ⟨rfl,rfl,rfl,rfl,rfl⟩ rfl rfl rfl rfl rfl (by kernel_rfl) Tryd.func13 (by kernel_rfl)
  (of_decide_eq_true (by kernel_rfl)) (by unfold Func.isWrapper;first | (rw[if_pos (by decide +kernel)];kernel_rfl) | (rw[if_neg (by decide +kernel)];exact ⟨rfl,rfl⟩))
  (fun os started H enc _=>fnReduces_lifted lrd_ok os started H enc)
theorem fnReduces_holds:Rows.FnReducesCardSaid:=
 Claim7.holds_tied_plain_at .later [] [.data,.pinned] true (true, "32193793d8c897b5bc8816bf3022b22418d0ad242f639242150ef454e65964bb") false fnReduces_row (fun _ h=>by cases h) (by kernel_rfl) (fun _ h=>by cases h) fnReduces_row_tie rfl ⟨rfl,rfl⟩ (by kernel_rfl) rfl
  (fun f fn hf hfn=>by
   obtain rfl:f=13:=Option.some.inj ((show Tryd.prog.funcNamed "rivulet/rivuletlaw06.FnReduces" = some 13 by kernel_rfl).symm.trans hf) |>.symm
   obtain rfl:fn=Tryd.f13:=(Option.some.inj (Tryd.func13.symm.trans hfn)).symm
   exact ⟨by kernel_rfl,fun j t ht=>by
    rw[Tryd.params13] at ht
    have hm:t∈[66,34,5]:=by simpa using Array.mem_of_getElem? ht
    have hall:([66,34,5].all fun u=>!Tryd.prog.wantsStandIn u)=true:=by kernel_rfl
    exact (show Tryd.prog.wantsStandIn t=false by simpa using List.all_eq_true.1 hall t hm)⟩)
  (by kernel_rfl)
end Go.Proofs.YtmegbepjdololaaDoor
