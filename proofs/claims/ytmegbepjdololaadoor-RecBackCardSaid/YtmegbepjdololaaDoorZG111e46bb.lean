/- Chapter 5: bags: the loops' contracts. -/
import Derived.Test.YtmegbepjdololaaDoorZG10aeda29
import Derived.Test.YtmegbepjdololaaDoorZG0703b2f7
import Derived.Test.YtmegbepjdololaaDoorZG0678006a
set_option linter.unusedVariables false
set_option linter.unusedSimpArgs false
set_option linter.constructorNameAsVariable false
set_option linter.all false

namespace Go.Proofs.YtmegbepjdololaaDoor
open Go.RowKit Go.Sx Go.Lp
set_option maxRecDepth 100000
abbrev MEr:=MpE Rec Int
noncomputable abbrev dEr:MEr:=(eR.ent eI).dflt
def addW (b n:Int):Int:=IntKind.i64.wrap (b+n)
theorem eqKR (a b:Rec):(a.key==b.key&&decide (a.text=b.text))=decide (a=b):=by
 obtain ⟨k,s⟩:=a
 obtain ⟨k',s'⟩:=b
 rw[Bool.eq_iff_iff]
 simp
noncomputable abbrev mputR (m:List MEr×Nat) (v:Rec):List MEr×Nat:=mputG (fun x:Rec=>x) (fun _=>1) addW 0 dEr m v
noncomputable abbrev mputM (m:List MEr×Nat) (v:Many):List MEr×Nat:=mputG Many.r Many.n addW 0 dEr m v
theorem q2_eq (m:List MEr) (v:Rec) (q1:Nat) (h1:q1=kfind (fun e=>v.key==(m.getD e dEr).1.key&&decide (v.text=(m.getD e dEr).1.text)) m.length 0) :
  kfind (fun e=>(v.key==bif decide (e=q1) then v.key else (m.getD e dEr).1.key)&&decide (v.text=bif decide (e=q1) then v.text else (m.getD e dEr).1.text)) (bif decide (q1<m.length) then m.length else m.length+1) 0=q1:=by
 have hle:=(kfind_le (fun e=>v.key==(m.getD e dEr).1.key&&decide (v.text=(m.getD e dEr).1.text)) m.length 0).2
 rw[← h1] at hle
 refine kfind_at _ 0 q1 (Nat.zero_le _) ?_ (fun i _ hi=>?_) ?_
 ·by_cases h:q1<m.length
  ·rw[decide_eq_true h,cond_true];omega
  ·rw[decide_eq_false h,cond_false];omega
 ·have:=Go.Sx.kfind_lt (fun e=>v.key==(m.getD e dEr).1.key&&decide (v.text=(m.getD e dEr).1.text)) m.length 0 i (Nat.zero_le _) (by rw[← h1];exact hi)
  rw[decide_eq_false (by omega:¬ i=q1)]
  exact this
 ·rw[decide_eq_true rfl]
  simp
theorem q1_eq (m:List MEr) (v:Rec):kfind (fun e=>v.key==(m.getD e dEr).1.key&&decide (v.text=(m.getD e dEr).1.text)) m.length 0=m.findIdx fun e=>decide (v=e.1):=kfind_idx _ dEr m fun j _=>eqKR _ _
theorem rngR (i n:Int) (l:Nat) (h1:n=(l:Int)) (h3:0≤i):decide (i<n)=true→(0:Int)≤i∧i<(l:Int):=fun h=>by
 have:=of_decide_eq_true h
 exact ⟨h3,by omega⟩
noncomputable def ba_S (_:ba_GC) (b:ba_GB) (_:Int) (v:Rec):Ex×ba_GB:=bif chkR v != 0 then (.ret,(b.1,chkR v)) else (.normal,(mputR b.1 v,b.2))
def ba_K (_:ba_GC) (_:ba_GB) (_:Int):Prop:=True
abbrev ba_I (g:ba_G):List Prop:=ixI (fun c:ba_GC=>c.2) (fun c=>c.1) ba_K (ba_f g)
abbrev ba_M (g:ba_G):Nat:=ixM (fun c:ba_GC=>c.2) (ba_f g)
theorem ba_P:ixP ba_S (fun c:ba_GC=>c.1) ba_K:=fun _ _ _ _ h _ _=>h
noncomputable abbrev ba_RR (g:ba_G):Ex×ba_G:=ba_R g.1 g.2.1 g.2.2.1 g.2.2.2.1 g.2.2.2.2.1 g.2.2.2.2.2.1 g.2.2.2.2.2.2
theorem ba_RF (d:Int×ba_GC×ba_GB) (_:allP (ixI (fun c:ba_GC=>c.2) (fun c=>c.1) ba_K d)):ba_RR (ba_g d)=((ixF 0 (fun c:ba_GC=>c.2) (fun c=>c.1) eR.dflt ba_S d).1,ba_g (ixF 0 (fun c:ba_GC=>c.2) (fun c=>c.1) eR.dflt ba_S d).2):=by
 obtain ⟨i,⟨xs,n⟩,⟨⟨m,clk⟩,r⟩⟩:=d
 show ba_R xs n i () (m,clk) () r=_
 have hq:ba_q1 xs n i () (m,clk) () r=m.findIdx fun e=>decide (xs.getD i.toNat eR.dflt=e.1):=q1_eq _ _
 unfold ba_R ixF ba_S
 rw[hq]
 simp only[El.ag_eq]
 generalize (xs.getD i.toNat eR.dflt)=v
 cases decide (i<n) with
 | false=>rfl
 | true=>
  simp only[cond_true]
  cases chkR v != 0 with
  | true=>rfl
  | false=>
   simp only[cond_false]
   have hle:(m.findIdx fun e=>decide (v=e.1))≤m.length:=List.findIdx_le_length
   rw[lst_put _ _ _ hle]
   unfold mputR mputG
   by_cases hj:(m.findIdx fun e=>decide (v=e.1))<m.length
   ·simp only[hj,decide_true,cond_true,if_true];rfl
   ·simp only[hj,decide_false,cond_false,if_false];rfl
theorem ba_ok:∀ b∈loopsOf Tryd.prog 24,lkey b=3→LoopOk Tryd.prog b (ba_C ba_I ba_M).g:=by
 refine ba_loop ba_I ba_M (fun g hi=>?_) (ix_conj_goes (fun _=>rfl) (fun _=>rfl) ba_RF ba_P)
 obtain ⟨xs,n,i,⟨⟩,⟨m,clk⟩,⟨⟩,r⟩:=g
 obtain ⟨h1,h2,h3,h4,h5⟩:=hi _ (List.mem_cons_self ..)
 have h1:n=(xs.length:Int):=h1
 have h3:0≤i:=h3
 have hq:ba_q2 xs n i () (m,clk) () r=ba_q1 xs n i () (m,clk) () r:=q2_eq m (xs.getD i.toNat eR.dflt) _ rfl
 have hle:ba_q1 xs n i () (m,clk) () r≤m.length:=by
  have:=(kfind_le (fun e=>(xs.getD i.toNat eR.dflt).key==(m.getD e dEr).1.key&&decide ((xs.getD i.toNat eR.dflt).text=(m.getD e dEr).1.text)) m.length 0).2
  rw[Nat.zero_add] at this
  exact this
 show ba_side xs n i () (m,clk) () r
 unfold ba_side
 rw[hq]
 generalize ba_q1 xs n i () (m,clk) () r=q at hle
 have e2:(bif decide (q<bif decide (q<m.length) then m.length else m.length+1) then bif decide (q=q) then bif decide (q<m.length) then (m.getD q dEr).2.1 else (0:Int) else (m.getD q dEr).2.1 else (0:Int))=bif decide (q<m.length) then (m.getD q dEr).2.1 else (0:Int):=by
  rw[decide_eq_true (rfl:q=q)]
  by_cases h:q<m.length
  ·rw[decide_eq_true h];simp only[cond_true];rw[decide_eq_true h];rfl
  ·rw[decide_eq_false h];simp only[cond_false,cond_true];rw[decide_eq_true (by omega:q<m.length+1)];rfl
 dsimp only
 rw[e2]
 simp only[El.okL_eq,El.ag_eq]
 refine ⟨fun hlt=>?_,fun _=>?_⟩
 ·have:=rngR i n _ h1 h3 hlt
  repeat' (first | apply And.intro | intro _)
  all_goals first | trivial | rfl | omega
 ·repeat' (first | apply And.intro | intro _)
  all_goals first | trivial | rfl
theorem ba_run (xs:List Rec) (r:Int) (k2:xs.length≤maxLen):loopF ba_RR ba_M (ba_g (0,(xs,(xs.length:Int)),(([],0),r)))=((scan 0 (ba_S (xs,(xs.length:Int))) 0 xs (([],0),r)).1,ba_g ((scan 0 (ba_S (xs,(xs.length:Int))) 0 xs (([],0),r)).2.1,(xs,(xs.length:Int)),(scan 0 (ba_S (xs,(xs.length:Int))) 0 xs (([],0),r)).2.2)):=ix_conj_run (φ:=ba_f) (ψ:=ba_g) (fun _=>rfl) (fun _=>rfl) ba_RF ba_P (xs,(xs.length:Int)) (([],0),r) rfl k2 trivial
noncomputable def su_S (_:su_GC) (b:su_GB) (_:Int) (v:Many):Ex×su_GB:=(.normal,mputM b v)
def su_K (_:su_GC) (_:su_GB) (_:Int):Prop:=True
abbrev su_I (g:su_G):List Prop:=ixI (fun c:su_GC=>c.2) (fun c=>c.1) su_K (su_f g)
abbrev su_M (g:su_G):Nat:=ixM (fun c:su_GC=>c.2) (su_f g)
theorem su_P:ixP su_S (fun c:su_GC=>c.1) su_K:=fun _ _ _ _ h _ _=>h
noncomputable abbrev su_RR (g:su_G):Ex×su_G:=su_R g.1 g.2.1 g.2.2.1 g.2.2.2.1 g.2.2.2.2
theorem su_RF (d:Int×su_GC×su_GB) (_:allP (ixI (fun c:su_GC=>c.2) (fun c=>c.1) su_K d)):su_RR (su_g d)=((ixF 2 (fun c:su_GC=>c.2) (fun c=>c.1) eM.dflt su_S d).1,su_g (ixF 2 (fun c:su_GC=>c.2) (fun c=>c.1) eM.dflt su_S d).2):=by
 obtain ⟨i,⟨xs,n⟩,⟨m,clk⟩⟩:=d
 show su_R xs n i () (m,clk)=_
 have hq:su_q1 xs n i () (m,clk)=m.findIdx fun e=>decide ((xs.getD i.toNat eM.dflt).r=e.1):=q1_eq _ _
 unfold su_R ixF su_S
 rw[hq]
 simp only[El.ag_eq]
 generalize (xs.getD i.toNat eM.dflt)=v
 cases decide (i<n) with
 | false=>rfl
 | true=>
  simp only[cond_true]
  have hle:(m.findIdx fun e=>decide (v.r=e.1))≤m.length:=List.findIdx_le_length
  rw[lst_put _ _ _ hle]
  unfold mputM mputG
  by_cases hj:(m.findIdx fun e=>decide (v.r=e.1))<m.length
  ·simp only[hj,decide_true,cond_true,if_true];rfl
  ·simp only[hj,decide_false,cond_false,if_false];rfl
theorem su_ok:∀ b∈loopsOf Tryd.prog 32,lkey b=9→LoopOk Tryd.prog b (su_C su_I su_M).g:=by
 refine su_loop su_I su_M (fun g hi=>?_) (ix_conj_goes (fun _=>rfl) (fun _=>rfl) su_RF su_P)
 obtain ⟨xs,n,i,⟨⟩,⟨m,clk⟩⟩:=g
 obtain ⟨h1,h2,h3,h4,h5⟩:=hi _ (List.mem_cons_self ..)
 have h1:n=(xs.length:Int):=h1
 have h3:0≤i:=h3
 have hq:su_q2 xs n i () (m,clk)=su_q1 xs n i () (m,clk):=q2_eq m (xs.getD i.toNat eM.dflt).r _ rfl
 have hle:su_q1 xs n i () (m,clk)≤m.length:=by
  have:=(kfind_le (fun e=>(xs.getD i.toNat eM.dflt).r.key==(m.getD e dEr).1.key&&decide ((xs.getD i.toNat eM.dflt).r.text=(m.getD e dEr).1.text)) m.length 0).2
  rw[Nat.zero_add] at this
  exact this
 show su_side xs n i () (m,clk)
 unfold su_side
 rw[hq]
 generalize su_q1 xs n i () (m,clk)=q at hle
 have e2:(bif decide (q<bif decide (q<m.length) then m.length else m.length+1) then bif decide (q=q) then bif decide (q<m.length) then (m.getD q dEr).2.1 else (0:Int) else (m.getD q dEr).2.1 else (0:Int))=bif decide (q<m.length) then (m.getD q dEr).2.1 else (0:Int):=by
  rw[decide_eq_true (rfl:q=q)]
  by_cases h:q<m.length
  ·rw[decide_eq_true h];simp only[cond_true];rw[decide_eq_true h];rfl
  ·rw[decide_eq_false h];simp only[cond_false,cond_true];rw[decide_eq_true (by omega:q<m.length+1)];rfl
 dsimp only
 rw[e2]
 simp only[El.okL_eq,El.ag_eq]
 refine ⟨fun hlt=>?_,fun _=>?_⟩
 ·have:=rngR i n _ h1 h3 hlt
  repeat' (first | apply And.intro | intro _)
  all_goals first | trivial | rfl | omega
 ·repeat' (first | apply And.intro | intro _)
  all_goals first | trivial | rfl
def puStep (r:Rec) (n:Int) (b:Bool×List Many) (v:Many):Bool×List Many:=
 ((!b.1&&decide (cmpR r v.r<0))||(cmpR r v.r==0||b.1),(bif !b.1&&decide (cmpR r v.r<0) then b.2++[⟨r,n⟩] else b.2)++[bif cmpR r v.r==0 then ⟨r,IntKind.i64.wrap (v.n+n)⟩ else v])
def pu_S (c:pu_GC) (b:pu_GB) (_:Int) (v:Many):Ex×pu_GB:=(.normal,((),puStep c.1 c.2.2 b.2 v))
def pu_K (c:pu_GC) (b:pu_GB) (i:Int):Prop:=c.2.1.length≤4000000∧(b.2.2.length:Int)≤2 * i
abbrev pu_I (g:pu_G):List Prop:=ixI (fun c:pu_GC=>(c.2.1.length:Int)) (fun c=>c.2.1) pu_K (pu_f g)
abbrev pu_M (g:pu_G):Nat:=ixM (fun c:pu_GC=>(c.2.1.length:Int)) (pu_f g)
theorem puStep_len (r:Rec) (n:Int) (b:Bool×List Many) (v:Many):(puStep r n b v).2.length≤b.2.length+2:=by
 unfold puStep
 cases (!b.1&&decide (cmpR r v.r<0)) <;> simp
theorem pu_P:ixP pu_S (fun c:pu_GC=>c.2.1) pu_K:=fun c b i a h _ _=>⟨h.1,by
 have:=h.2
 have hl:=puStep_len c.1 c.2.2 b.2 a
 show ((puStep c.1 c.2.2 b.2 a).2.length:Int)≤_
 omega⟩
noncomputable abbrev pu_RR (g:pu_G):Ex×pu_G:=pu_R g.1 g.2.1 g.2.2.1 g.2.2.2.1 g.2.2.2.2.1 g.2.2.2.2.2.1 g.2.2.2.2.2.2
theorem bif_same {α:Type} (z:Bool) (a:α):(bif z then a else a)=a:=by cases z <;> rfl
theorem ap1M (o:List Many) (v:Many):eM.lst (min (o.length+1) o.length) (eM.els o)++List.map (fun _=>v) (List.range (o.length+1 - o.length))=o++[v]:=by
 rw[Nat.min_eq_right (Nat.le_add_right _ _),Nat.add_sub_cancel_left,eM.lst_els];rfl
theorem ap2M (o:List Many) (u v:Many):eM.lst (min (min (o.length+1+1) (o.length+1)) o.length) (eM.els o)++List.map (fun _=>u) (List.range (min (o.length+1+1) (o.length+1) - o.length))++List.map (fun _=>v) (List.range (o.length+1+1 - (o.length+1)))=o++[u]++[v]:=by
 rw[Nat.min_eq_right (Nat.le_add_right (o.length+1) 1),Nat.min_eq_right (Nat.le_add_right _ _),Nat.add_sub_cancel_left,Nat.add_sub_cancel_left,eM.lst_els];rfl
theorem pu_RF (d:Int×pu_GC×pu_GB) (_:allP (ixI (fun c:pu_GC=>(c.2.1.length:Int)) (fun c=>c.2.1) pu_K d)):pu_RR (pu_g d)=((ixF 0 (fun c:pu_GC=>(c.2.1.length:Int)) (fun c=>c.2.1) eM.dflt pu_S d).1,pu_g (ixF 0 (fun c:pu_GC=>(c.2.1.length:Int)) (fun c=>c.2.1) eM.dflt pu_S d).2):=by
 obtain ⟨i,⟨r,xs,n⟩,⟨⟨⟩,d,o⟩⟩:=d
 show pu_R () r xs n i d o=_
 unfold pu_R ixF pu_S puStep
 simp only[El.ag_eq,bif_same]
 generalize (xs.getD i.toNat eM.dflt)=v
 cases decide (i<(xs.length:Int)) with
 | false=>rfl
 | true=>
  simp only[cond_true]
  cases hz:(!d&&decide (cmpR r v.r<0)) with
  | true=>
   simp only[cond_true]
   cases cmpR r v.r==0 with
   | true=>simp only[cond_true,ap2M];rfl
   | false=>simp only[cond_false,ap2M];rfl
  | false=>
   simp only[cond_false]
   cases cmpR r v.r==0 with
   | true=>simp only[cond_true,ap1M];rfl
   | false=>simp only[cond_false,ap1M];rfl
theorem bytM (h:84<Tryd.prog.types.size):(Tryd.prog.types[(84:Nat)]'h).bytes=32:=by kernel_rfl
theorem pu_ok:∀ b∈loopsOf Tryd.prog 75,lkey b=4→LoopOk Tryd.prog b (pu_C pu_I pu_M).g:=by
 refine pu_loop pu_I pu_M (fun g hi=>?_) (ix_conj_goes (fun _=>rfl) (fun _=>rfl) pu_RF pu_P)
 obtain ⟨⟨⟩,r,xs,n,i,d,o⟩:=g
 obtain ⟨h1,h2,h3,h4,h5,h6⟩:=hi _ (List.mem_cons_self ..)
 have h3:0≤i:=h3
 have h4:i≤(xs.length:Int):=h4
 have h5:xs.length≤4000000:=h5
 have h6:(o.length:Int)≤2 * i:=h6
 show pu_side () r xs n i d o
 unfold pu_side
 simp only[El.okL_eq,El.ag_eq,bytM,bif_same]
 unfold maxLen
 generalize (cmpR r (xs.getD i.toNat eM.dflt).r==(0:Int))=y
 generalize (!d&&decide (cmpR r (xs.getD i.toNat eM.dflt).r<(0:Int)))=z
 by_cases hlt:i<(xs.length:Int)
 ·rw[decide_eq_true hlt]
  repeat' (first | apply And.intro | intro _)
  all_goals first | trivial | omega
 ·rw[decide_eq_false hlt]
  repeat' (first | apply And.intro | intro _)
  all_goals first | trivial | omega | (rename_i h;cases h)
theorem pu_run (r:Rec) (xs:List Many) (n:Int) (k:xs.length≤4000000):loopF pu_RR pu_M (pu_g (0,(r,xs,n),((),false,[])))=(.exit 0,pu_g ((xs.length:Int),(r,xs,n),((),xs.foldl (puStep r n) (false,[])))):=by
 have hr:loopF pu_RR pu_M (pu_g (0,(r,xs,n),((),false,[])))=_:=ix_conj_run (φ:=pu_f) (ψ:=pu_g) (fun _=>rfl) (fun _=>rfl) pu_RF pu_P (r,xs,n) ((),false,[]) rfl (Nat.le_trans k (by decide)) ⟨k,by decide⟩
 rw[hr]
 have hs:scan 0 (pu_S (r,xs,n)) 0 xs ((),false,[])=_:=scan_fold (st:=pu_S (r,xs,n)) (f:=fun (b:pu_GB) v=>((),puStep r n b.2 v)) (fun _ _ _=>rfl) xs 0 ((),false,[])
 have hf:∀ (l:List Many) (b:Bool×List Many),l.foldl (fun (b:pu_GB) v=>((),puStep r n b.2 v)) ((),b)=((),l.foldl (puStep r n) b):=by
  intro l
  induction l with
  | nil=>intro b;rfl
  | cons a l ih=>intro b;rw[List.foldl_cons,List.foldl_cons,ih]
 rw[hf] at hs
 show ((scan 0 (pu_S (r,xs,n)) 0 xs ((),false,[])).1,pu_g ((scan 0 (pu_S (r,xs,n)) 0 xs ((),false,[])).2.1,_,(scan 0 (pu_S (r,xs,n)) 0 xs ((),false,[])).2.2))=_
 rw[hs,Int.zero_add]
def bgP (e:Rec×Int):Bool:=decide (e.2 > 1048576)
def bg_S (e:Rec×Int) (b:List Many×Int):Ex×(List Many×Int):=bif bgP e then (.ret,(b.1,51)) else (.normal,(b.1++[⟨e.1,e.2⟩],b.2))
abbrev bg_I (g:bg_G):List Prop:=[g.2.1.length+g.2.2.1.length≤4000000]
abbrev bg_M (g:bg_G):Nat:=g.2.1.length
def bg_up (g:bg_G) (l:List (Rec×Int)) (b:List Many×Int):bg_G:=((),l,b.1,(),b.2)
theorem erase_lst (it:List (Rec×Int)) (k:Nat) (h:k<it.length):(eR.pair eI).lst (min (it.length - 1) k) ((eR.pair eI).els it)++List.drop (k+1) ((eR.pair eI).lst (k+1+(it.length - 1 - k)) ((eR.pair eI).els it))=it.eraseIdx k:=by
 rw[Nat.min_eq_right (by omega),El.lst_take _ _ _ (by omega),show k+1+(it.length - 1 - k)=it.length by omega,El.lst_els,List.eraseIdx_eq_take_drop_succ]
theorem bg_form (cs:List Nat) (g:bg_G) (hi:allP (bg_I g)):((g.2.1.length=0∧bg_F cs g=(.exit 0,g))∨∃ e,g.2.1[(hdC cs).headD 0 % g.2.1.length]?=some e∧bg_F cs g=((bg_S e (g.2.2.1,g.2.2.2.2)).1,bg_up g (g.2.1.eraseIdx ((hdC cs).headD 0 % g.2.1.length)) (bg_S e (g.2.2.1,g.2.2.2.2)).2))∧bg_side cs g.1 g.2.1 g.2.2.1 g.2.2.2.1 g.2.2.2.2:=by
 obtain ⟨⟨⟩,it,o,⟨⟩,r⟩:=g
 have h:it.length+o.length≤4000000:=hi _ (List.mem_cons_self ..)
 refine ⟨?_,?_⟩
 ·show (it.length=0∧bg_R cs () it o () r=_)∨_
  unfold bg_R
  by_cases h0:it.length=0
  ·rw[decide_eq_true h0]
   simp only[cond_true,El.lst_els]
   exact .inl ⟨h0,trivial⟩
  ·have hk:(hdC cs).headD 0 % it.length<it.length:=Nat.mod_lt _ (by omega)
   refine .inr ⟨it[(hdC cs).headD 0 % it.length],by rw[List.getElem?_eq_getElem hk],?_⟩
   show bg_R cs () it o () r=_
   unfold bg_R bg_S bgP
   rw[decide_eq_false h0]
   have hg:it.getD ((hdC cs).headD 0 % it.length) (eR.pair eI).dflt=it[(hdC cs).headD 0 % it.length]:=by rw[List.getD_eq_getElem?_getD,List.getElem?_eq_getElem hk];rfl
   rw[hg]
   simp only[cond_false,El.lst_els]
   rw[erase_lst it _ hk,ap1M]
   show (bif decide (it[(hdC cs).headD 0 % it.length].2 > 1048576) then _ else _)=((bif decide (it[(hdC cs).headD 0 % it.length].2 > 1048576) then _ else _:Ex×(List Many×Int)).1,_)
   cases decide (it[(hdC cs).headD 0 % it.length].2 > 1048576) <;> rfl
 ·show bg_side cs () it o () r
  unfold bg_side
  simp only[bytM]
  unfold maxLen
  repeat' (first | apply And.intro | intro _)
  all_goals first | trivial | omega
theorem bg_all:GoesA bg_F bg_M (fun g=>allP (bg_I g))∧∀ cs g,allP (bg_I g)→∃ s,loopFA bg_F bg_M cs g=((scanL 0 bg_S (permL g.2.1.length cs g.2.1) (g.2.2.1,g.2.2.2.2)).1,bg_up g s (scanL 0 bg_S (permL g.2.1.length cs g.2.1) (g.2.2.1,g.2.2.2.2)).2):=
 mif_loop (st:=bg_S) (rem:=fun g:bg_G=>g.2.1) (bo:=fun g=>(g.2.2.1,g.2.2.2.2)) (up:=bg_up) (fun _ _ _=>rfl) (fun _ _ _=>rfl) (fun _ _ _ _ _=>rfl) (fun _=>rfl) (fun _=>rfl)
  (fun g i e h he hn=>by
   have h:=h _ (List.mem_cons_self ..)
   intro p hp
   rw[List.mem_singleton.1 hp]
   have hlt:=(List.getElem?_eq_some_iff.1 he).1
   unfold bg_S at hn ⊢
   cases hb:bgP e with
   | true=>rw[hb] at hn;cases hn
   | false=>
    show (g.2.1.eraseIdx i).length+(g.2.2.1++[(⟨e.1,e.2⟩:Many)]).length≤4000000
    rw[List.length_eraseIdx_of_lt hlt,List.length_append]
    simp only[List.length_cons,List.length_nil]
    omega)
  fun cs g h=>(bg_form cs g h).1
theorem bg_lok:∀ b∈loopsOf Tryd.prog 74,lkey b=3→LoopOk Tryd.prog b (bg_C bg_I bg_M).g:=
 bg_loop bg_I bg_M (fun cs g hi=>(bg_form cs g hi).2) bg_all.1
noncomputable def bg_f (cs:List Nat) (g:bg_G):Ex×bg_G:=((scanL 0 bg_S (permL g.2.1.length cs g.2.1) (g.2.2.1,g.2.2.2.2)).1,bg_up g (loopFA bg_F bg_M cs g).2.2.1 (scanL 0 bg_S (permL g.2.1.length cs g.2.1) (g.2.2.1,g.2.2.2.2)).2)
noncomputable abbrev bg_C2:LCon:=loopRC bg_E (loopBody Tryd.prog 74 3) bg_LP [] 25 bg_I bg_f
theorem bg_ok2:∀ b∈loopsOf Tryd.prog 74,lkey b=3→LoopOk Tryd.prog b bg_C2.g:=fun b hb hk=>
 loop_quotC (fun _ h=>h) (fun g hi cs=>⟨cs,by
  obtain ⟨s,hs⟩:=bg_all.2 cs g hi
  unfold bg_f
  rw[hs];rfl⟩) (bg_lok b hb hk)
noncomputable def ltO3:LTab Tryd.prog:=(((ltO2.cons 24 3 (ba_C ba_I ba_M) ba_ok).cons 32 9 (su_C su_I su_M) su_ok).cons 75 4 (pu_C pu_I pu_M) pu_ok).cons 74 3 bg_C2 bg_ok2
noncomputable abbrev lamO3:Lam:=ltO3.lam
theorem lamO3_ok:∀ f k L,lamO3 f k=some L→∀ b∈loopsOf Tryd.prog f,lkey b=k→LoopOk Tryd.prog b L.g:=ltO3.ok
end Go.Proofs.YtmegbepjdololaaDoor

namespace Go.Proofs.YtmegbepjdololaaDoor
open Go.RowKit Go.Sx
set_option maxRecDepth 100000
set_option linter.unusedVariables false
noncomputable def mcf_F (a:Many) (b:Many):Dv.T dI:=
 cmpR a.r b.r
theorem mcf_ok:FnPure Tryd.prog 116 aMM dI (fun g=>mcf_F g.1 g.2) (fun _=>[]):=pure_of_safe (Γ:=(PTab.gamz tabG6 [] [])) (Λ:=noΛ) (PTab.okz tabG6 [] []) noΛ_ok 100 default (fun g=>by kernel_rfl) (fun g=>by kernel_rfl)
end Go.Proofs.YtmegbepjdololaaDoor

namespace Go.Proofs.YtmegbepjdololaaDoor
open Go.RowKit Go.Sx Go.Lp Go.Shelf Go.Sort
def sortM_ren:Go.Shelf.Ren:=⟨fun | 6=>115 | 15=>127 | 14=>126 | 28=>142 | 29=>143 | 20=>134 | 21=>135 | 22=>136 | 23=>137 | 24=>138 | 25=>139 | 26=>140 | 27=>141 | 46=>145 | 47=>146 | 48=>147 | 49=>148 | 50=>149 | 57=>150 | n=>n,fun | 22=>34 | 24=>84 | 25=>135 | 3=>3 | 39=>112 | 0=>0 | 53=>159 | 55=>139 | 4=>4 | 46=>152 | 45=>151 | 50=>156 | 5=>5 | 9=>9 | 66=>163 | 70=>167 | 76=>169 | 77=>123 | n=>n,fun | n=>n⟩
theorem sortM:SlLaysF0.n6 Tryd.prog sortM_ren:={
 mixed:=by kernel_rfl,
 f6:=⟨Tryd.f115.name,by decide,Tryd.func115.trans (congrArg some (by kernel_rfl))⟩,
 f14:=⟨Tryd.f126.name,by decide,Tryd.func126.trans (congrArg some (by kernel_rfl))⟩,
 f15:=Tryd.func127.trans (congrArg some (by kernel_rfl)),
 f20:=⟨Tryd.f134.name,by decide,Tryd.func134.trans (congrArg some (by kernel_rfl))⟩,
 f21:=⟨Tryd.f135.name,by decide,Tryd.func135.trans (congrArg some (by kernel_rfl))⟩,
 f22:=⟨Tryd.f136.name,by decide,Tryd.func136.trans (congrArg some (by kernel_rfl))⟩,
 f23:=⟨Tryd.f137.name,by decide,Tryd.func137.trans (congrArg some (by kernel_rfl))⟩,
 f24:=⟨Tryd.f138.name,by decide,Tryd.func138.trans (congrArg some (by kernel_rfl))⟩,
 f25:=⟨Tryd.f139.name,by decide,Tryd.func139.trans (congrArg some (by kernel_rfl))⟩,
 f26:=⟨Tryd.f140.name,by decide,Tryd.func140.trans (congrArg some (by kernel_rfl))⟩,
 f27:=⟨Tryd.f141.name,by decide,Tryd.func141.trans (congrArg some (by kernel_rfl))⟩,
 f28:=Tryd.func142.trans (congrArg some (by kernel_rfl)),
 f29:=Tryd.func143.trans (congrArg some (by kernel_rfl)),
 f46:=⟨Tryd.f145.name,by decide,Tryd.func145.trans (congrArg some (by kernel_rfl))⟩,
 f47:=Tryd.func146.trans (congrArg some (by kernel_rfl)),
 f48:=Tryd.func147.trans (congrArg some (by kernel_rfl)),
 f49:=⟨Tryd.f148.name,by decide,Tryd.func148.trans (congrArg some (by kernel_rfl))⟩,
 f50:=⟨Tryd.f149.name,by decide,Tryd.func149.trans (congrArg some (by kernel_rfl))⟩,
 f57:=⟨Tryd.f150.name,by decide,Tryd.func150.trans (congrArg some (by kernel_rfl))⟩,
 t0:=Tryd.underlying0,
 a0:=Tryd.isAgg0,
 z0:=Tryd.sizeOf0,
 v0:=Tryd.zeroValue0,
 t3:=Tryd.underlying3,
 a3:=Tryd.isAgg3,
 z3:=Tryd.sizeOf3,
 v3:=Tryd.zeroValue3,
 t4:=Tryd.underlying4,
 a4:=Tryd.isAgg4,
 z4:=Tryd.sizeOf4,
 v4:=Tryd.zeroValue4,
 t5:=Tryd.underlying5,
 a5:=Tryd.isAgg5,
 z5:=Tryd.sizeOf5,
 v5:=Tryd.zeroValue5,
 t9:=Tryd.underlying9,
 a9:=Tryd.isAgg9,
 z9:=Tryd.sizeOf9,
 v9:=Tryd.zeroValue9,
 t22:=Tryd.underlying34,
 a22:=Tryd.isAgg34,
 z22:=Tryd.sizeOf34,
 v22:=Tryd.zeroValue34,
 t25:=Tryd.underlying135,
 a25:=Tryd.isAgg135,
 z25:=Tryd.sizeOf135,
 v25:=Tryd.zeroValue135,
 t39:=Tryd.underlying112,
 a39:=Tryd.isAgg112,
 z39:=Tryd.sizeOf112,
 v39:=Tryd.zeroValue112,
 t45:=Tryd.underlying151,
 a45:=Tryd.isAgg151,
 z45:=Tryd.sizeOf151,
 v45:=Tryd.zeroValue151,
 t46:=Tryd.underlying152,
 a46:=Tryd.isAgg152,
 z46:=Tryd.sizeOf152,
 v46:=Tryd.zeroValue152,
 t50:=Tryd.underlying156,
 a50:=Tryd.isAgg156,
 z50:=Tryd.sizeOf156,
 v50:=Tryd.zeroValue156,
 t53:=Tryd.underlying159,
 a53:=Tryd.isAgg159,
 z53:=Tryd.sizeOf159,
 v53:=Tryd.zeroValue159,
 t55:=Tryd.underlying139,
 a55:=Tryd.isAgg139,
 z55:=Tryd.sizeOf139,
 v55:=Tryd.zeroValue139,
 t66:=Tryd.underlying163,
 a66:=Tryd.isAgg163,
 z66:=Tryd.sizeOf163,
 v66:=Tryd.zeroValue163,
 t70:=Tryd.underlying167,
 a70:=Tryd.isAgg167,
 z70:=Tryd.sizeOf167,
 v70:=Tryd.zeroValue167,
 t76:=Tryd.underlying169,
 a76:=Tryd.isAgg169,
 z76:=Tryd.sizeOf169,
 v76:=Tryd.zeroValue169,
 t77:=Tryd.underlying123,
 a77:=Tryd.isAgg123,
 z77:=Tryd.sizeOf123,
 v77:=Tryd.zeroValue123 }
theorem cmpR_neg (a b:Rec):cmpR a b<0↔rlt a b:=by
 unfold cmpR
 by_cases h:rlt a b
 ·simp[h]
 ·rw[if_neg h]
  refine ⟨fun h2=>?_,fun h2=>absurd h2 h⟩
  split at h2 <;> omega
theorem rlt_irrefl (a:Rec):¬ rlt a a:=by
 rintro (h | ⟨_,h⟩)
 ·omega
 ·exact tlt_irrefl _ h
theorem rlt_trans {a b c:Rec} (h:rlt a b) (h':rlt b c):rlt a c:=by
 rcases h with h | ⟨h1,h2⟩
 ·rcases h' with h' | ⟨h1',_⟩
  ·exact .inl (by omega)
  ·exact .inl (by omega)
 ·rcases h' with h' | ⟨h1',h2'⟩
  ·exact .inl (by omega)
  ·exact .inr ⟨by omega,tlt_trans h2 h2'⟩
theorem tlt_total {a b:BA} (h:¬ tlt a b) (h':¬ tlt b a):a=b:=by
 rw[← toL_iff]
 exact List.le_antisymm (List.not_lt.1 h') (List.not_lt.1 h)
theorem rlt_total {a b:Rec} (h:¬ rlt a b) (h':¬ rlt b a):a=b:=by
 have hk:a.key=b.key:=by
  have h1:¬ a.key<b.key:=fun x=>h (.inl x)
  have h2:¬ b.key<a.key:=fun x=>h' (.inl x)
  omega
 exact rec_ext' hk (tlt_total (fun x=>h (.inr ⟨hk,x⟩)) (fun x=>h' (.inr ⟨hk.symm,x⟩)))
theorem toR:TO cmpR where
 swo:={
  irrefl:=fun x=>decide_eq_false (by rw[cmpR_neg];exact rlt_irrefl x)
  trans:=fun x y z h1 h2=>by
   simp only[decide_eq_true_eq,cmpR_neg] at h1 h2 ⊢
   exact rlt_trans h1 h2
  ntrans:=fun x y z h1 h2=>by
   simp only[decide_eq_false_iff_not,cmpR_neg] at h1 h2 ⊢
   intro h3
   by_cases h4:rlt y x
   ·exact h2 (rlt_trans h4 h3)
   ·have:=rlt_total h1 h4
    subst this
    exact h2 h3 }
 anti:=fun x y h1 h2=>by
  rw[cmpR_neg] at h1 h2
  exact rlt_total h1 h2
def cmpM (a b:Many):Int:=cmpR a.r b.r
theorem swoM:SWO fun x y:Many=>decide (cmpM x y<0) where
 irrefl:=fun x=>toR.swo.irrefl x.r
 trans:=fun x y z h1 h2=>toR.swo.trans x.r y.r z.r h1 h2
 ntrans:=fun x y z h1 h2=>toR.swo.ntrans x.r y.r z.r h1 h2
abbrev dUn0:Dv Unit:=.tup .none
abbrev aFn116:DA Unit:=.one (dFn 116)
def preSort (xs:List Many) (_:Unit):List Prop:=[xs.length<4611686018427387904,Anti cmpM xs]
theorem sortF_ok:FnMut Tryd.prog 115 84 eM aFn116 (.pure dUn0) (fun xs _=>(srtBy cmpM xs,())) preSort:=by
 have h:=sort_mut (P:=Tryd.prog) (A:=eM) (t:=84) (g:=116) (cf:=cmpM) (pre:=fun _=>[]) sortM Tryd.isAgg84 Tryd.sizeOf84 (by decide) (Go.Proofs.enters_of Tryd.func116 (by kernel_rfl) rfl) swoM mcf_ok
 intro w F L xs g v0 vs h1 h2 hE h3 h4 h5 h6
 refine h w F L xs g v0 vs h1 h2 hE h3 (fun p hp=>?_) h5 h6
 simp only[List.mem_cons,List.not_mem_nil,or_false] at hp
 rcases hp with rfl | rfl | rfl
 ·exact h4 _ (List.mem_cons_self ..)
 ·exact h4 _ (List.mem_cons_of_mem _ (List.mem_cons_self ..))
 ·exact fun x _ y _ p hp=>by cases hp
noncomputable def tabO5:MTab Tryd.prog:=(MTab.of tabG6).consM 115 (bconM 84 eM aFn116 (.pure dUn0) (fun xs _=>(srtBy cmpM xs,())) preSort) (conM_ok sortF_ok)
end Go.Proofs.YtmegbepjdololaaDoor

namespace Go.Proofs.YtmegbepjdololaaDoor
open Go.RowKit Go.Sx
set_option maxRecDepth 100000
set_option linter.unusedVariables false
abbrev dLME:Dv (List Many×Int):=.tup (.cons dLM (.one dI))
abbrev aPut:DA (List Many×Rec×Int):=.cons dLM (.cons dR (.one dI))
abbrev aLM5:DA (List Many):=.one dLM
abbrev rLM5:Rv (List Many):=.list eM
noncomputable def put5_q1 (l:List Many) (r:Rec) (n:Int):Ex ×
 pu_G:=
 loopF (fun g=>pu_R g.fst g.snd.fst g.snd.snd.fst g.snd.snd.snd.fst g.snd.snd.snd.snd.fst g.snd.snd.snd.snd.snd.fst g.snd.snd.snd.snd.snd.snd) pu_M ((),r,eM.ag l,n,(0:Int),false,[])
noncomputable def put5_F (l:List Many) (r:Rec) (n:Int):Rv.T rLM5:=
 bif !(put5_q1 l r n).snd.snd.snd.snd.snd.snd.fst then eM.lst (min ((put5_q1 l r n).snd.snd.snd.snd.snd.snd.snd.length+(1:Nat)) (put5_q1 l r n).snd.snd.snd.snd.snd.snd.snd.length) (eM.els (put5_q1 l r n).snd.snd.snd.snd.snd.snd.snd)++List.map (fun x=>Many.mk (put5_q1 l r n).snd.snd.fst (put5_q1 l r n).snd.snd.snd.snd.fst) (List.range ((put5_q1 l r n).snd.snd.snd.snd.snd.snd.snd.length+(1:Nat) - (put5_q1 l r n).snd.snd.snd.snd.snd.snd.snd.length))
 else eM.ag (put5_q1 l r n).snd.snd.snd.snd.snd.snd.snd
def put5_side (l:List Many) (r:Rec) (n:Int):Prop:=
 eM.okL l∧Lp.ixJ (fun c=>(↑c.snd.fst.length:Int)) (fun c=>c.snd.fst) pu_K (pu_f ((),r,eM.ag l,n,(0:Int),false,[]))∧((!(put5_q1 l r n).snd.snd.snd.snd.snd.snd.fst)=true→((put5_q1 l r n).snd.snd.snd.snd.snd.snd.snd.length≤(put5_q1 l r n).snd.snd.snd.snd.snd.snd.snd.length∧True∧(put5_q1 l r n).snd.snd.snd.snd.snd.snd.snd.length+(1:Nat)≤maxLen∧((put5_q1 l r n).snd.snd.snd.snd.snd.snd.snd.length+(1:Nat)) * Tryd.prog.types[(84:Nat)].bytes≤(140737488355328:Nat))∧(put5_q1 l r n).snd.snd.snd.snd.snd.snd.snd.length+(1:Nat)≤(put5_q1 l r n).snd.snd.snd.snd.snd.snd.snd.length+(1:Nat)∧(∀ (e:Nat),e<min ((put5_q1 l r n).snd.snd.snd.snd.snd.snd.snd.length+(1:Nat)) (put5_q1 l r n).snd.snd.snd.snd.snd.snd.snd.length→True)∧∀ (e:Nat),e<(put5_q1 l r n).snd.snd.snd.snd.snd.snd.snd.length+(1:Nat) - (put5_q1 l r n).snd.snd.snd.snd.snd.snd.snd.length→True)∧((!(put5_q1 l r n).snd.snd.snd.snd.snd.snd.fst)=false→(put5_q1 l r n).snd.snd.snd.snd.snd.snd.snd.length≤(put5_q1 l r n).snd.snd.snd.snd.snd.snd.snd.length∧∀ (e:Nat),e<(put5_q1 l r n).snd.snd.snd.snd.snd.snd.snd.length→True)
theorem put5_okS (pre:DA.T aPut→List Prop) (h:∀ g,DA.bd aPut g→(∀ p∈pre g,p)→put5_side g.1 g.2.1 g.2.2):FnPure Tryd.prog 75 aPut (Rv.D rLM5) (fun g=>put5_F g.1 g.2.1 g.2.2) pre:=res_of_side (R:=rLM5) (Γ:=(MTab.gamz tabO5 [] [])) (Λ:=lamO3) (MTab.okz tabO5 [] []) lamO3_ok 100 default (fun g=>put5_side g.1 g.2.1 g.2.2) (fun g=>by kernel_rfl) (fun g=>by kernel_rfl) h
noncomputable def ovr_q1 (l:List Many):Ex×ov_G:=
 loopF (fun g=>ov_R g.fst g.snd.fst g.snd.snd) ov_M (eM.ag l,(0:Int),(0:Int))
noncomputable def ovr_F (l:List Many):Dv.T dI:=
 bif exB Ex.ret (ovr_q1 l).fst then (ovr_q1 l).snd.snd.snd else (0:Int)
def ovr_side (l:List Many):Prop:=
 eM.okL l∧Lp.ixJ (fun c=>(↑(List.length c):Int)) (fun c=>c) ov_K (ov_f (eM.ag l,(0:Int),(0:Int)))
theorem ovr_okS (pre:DA.T aLM5→List Prop) (h:∀ g,DA.bd aLM5 g→(∀ p∈pre g,p)→ovr_side g):FnPure Tryd.prog 76 aLM5 dI (fun g=>ovr_F g) pre:=pure_of_sideS (Γ:=(MTab.gamz tabO5 [] [])) (Λ:=lamO3) (MTab.okz tabO5 [] []) lamO3_ok 100 default (fun g=>ovr_side g) (fun g=>by kernel_rfl) (fun g=>by kernel_rfl) h
end Go.Proofs.YtmegbepjdololaaDoor

namespace Go.Proofs.YtmegbepjdololaaDoor
open Go.RowKit Go.Sx
set_option maxRecDepth 100000
set_option linter.unusedVariables false
noncomputable def bagf_q1 (cs:List Nat) (m:List (Rec×Int)):Ex×bg_G:=
 bg_f (hdC cs) ((),(eR.pair eI).lst m.length ((eR.pair eI).els m),[],(),(0:Int))
noncomputable def bagf_F (cs:List Nat) (m:List (Rec×Int)):Dv.T dLME:=
 bif exB (Ex.exit (0:Nat)) (bagf_q1 cs m).fst then (eM.lst (bagf_q1 cs m).snd.snd.snd.fst.length (ElE.fn (eM.els (srtBy cmpM (eM.lst (bagf_q1 cs m).snd.snd.snd.fst.length (eM.els (bagf_q1 cs m).snd.snd.snd.fst))))).at,(0:Int))
 else ([],(bagf_q1 cs m).snd.snd.snd.snd.snd)
def bagf_side (cs:List Nat) (m:List (Rec×Int)):Prop:=
 (∀ (e:Nat),e<m.length→True)∧((eR.pair eI).lst m.length ((eR.pair eI).els m)).length+(0:Nat)≤(4000000:Nat)∧(exB (Ex.exit (0:Nat)) (bagf_q1 cs m).fst=true→(bagf_q1 cs m).snd.snd.snd.fst.length=(bagf_q1 cs m).snd.snd.snd.fst.length∧(∀ (e:Nat),e<(bagf_q1 cs m).snd.snd.snd.fst.length→True)∧(eM.lst (bagf_q1 cs m).snd.snd.snd.fst.length (eM.els (bagf_q1 cs m).snd.snd.snd.fst)).length<(4611686018427387904:Nat)∧Anti cmpM (eM.lst (bagf_q1 cs m).snd.snd.snd.fst.length (eM.els (bagf_q1 cs m).snd.snd.snd.fst))∧(bagf_q1 cs m).snd.snd.snd.fst.length≤(srtBy cmpM (eM.lst (bagf_q1 cs m).snd.snd.snd.fst.length (eM.els (bagf_q1 cs m).snd.snd.snd.fst))).length∧∀ (e:Nat),e<(bagf_q1 cs m).snd.snd.snd.fst.length→eM.Ok ((ElE.fn (eM.els (srtBy cmpM (eM.lst (bagf_q1 cs m).snd.snd.snd.fst.length (eM.els (bagf_q1 cs m).snd.snd.snd.fst))))).at e))
theorem bagf_okA (fn:DA.T aMap→Dv.T dLME) (pre:DA.T aMap→List Prop) (h:∀ cs g,DA.bd aMap g→(∀ p∈pre g,p)→bagf_side cs g∧bagf_F cs g=fn g):FnPure Tryd.prog 74 aMap dLME fn pre:=pure_of_sideA (Γ:=(MTab.gamz tabO5 [] [])) (Λ:=lamO3) (MTab.okz tabO5 [] []) lamO3_ok 100 default (fun cs g=>bagf_side cs g) (fun cs g=>bagf_F cs g) (fun cs g=>by kernel_rfl) (fun cs g=>by kernel_rfl) h
end Go.Proofs.YtmegbepjdololaaDoor

namespace Go.Proofs.YtmegbepjdololaaDoor
open Go.RowKit Go.Sx Go.Lp
set_option maxRecDepth 100000
def putL (r:Rec) (n:Int) (xs:List Many):List Many:=bif !(xs.foldl (puStep r n) (false,[])).1 then (xs.foldl (puStep r n) (false,[])).2++[⟨r,n⟩] else (xs.foldl (puStep r n) (false,[])).2
theorem put5_eq (l:List Many) (r:Rec) (n:Int) (h:l.length≤4000000):put5_side l r n∧put5_F l r n=putL r n l:=by
 have hr:=pu_run r l n h
 have hq:put5_q1 l r n=loopF pu_RR pu_M (pu_g (0,(r,l,n),((),false,[]))):=by
  unfold put5_q1
  rw[El.ag_eq]
  rfl
 rw[hr] at hq
 have hlen:∀ (l:List Many) (b:Bool×List Many),(l.foldl (puStep r n) b).2.length≤b.2.length+2 * l.length:=by
  intro l
  induction l with
  | nil=>intro b;exact Nat.le_refl _
  | cons a l ih=>
   intro b
   have h1:=ih (puStep r n b a)
   have h2:=puStep_len r n b a
   rw[List.foldl_cons,List.length_cons]
   omega
 have hl:=hlen l (false,[])
 have e0:(([]:List Many)).length=0:=rfl
 unfold put5_side put5_F putL
 rw[hq]
 simp only[pu_g,El.okL_eq,El.ag_eq,bytM]
 generalize l.foldl (puStep r n) (false,[])=b at hl ⊢
 have hl:b.2.length≤8000000:=by
  simp only at hl
  omega
 refine ⟨⟨trivial,?_,?_⟩,?_⟩
 ·exact ⟨rfl,Nat.le_trans h (by decide),Int.le_refl _,by show (0:Int)≤_;omega,h,by show (0:Int)≤0;decide⟩
 ·unfold maxLen
  repeat' (first | apply And.intro | intro _)
  all_goals first | trivial | omega
 ·cases b.1 with
  | true=>rfl
  | false=>exact ap1M _ _
theorem put5_ok:FnPure Tryd.prog 75 aPut (Rv.D rLM5) (fun g=>putL g.2.1 g.2.2 g.1) (fun g=>[g.1.length≤4000000]):=
 pure_congr (put5_okS _ fun g _ hp=>(put5_eq g.1 g.2.1 g.2.2 (hp _ (List.mem_cons_self ..))).1) fun g _ hp=>(put5_eq g.1 g.2.1 g.2.2 (hp _ (List.mem_cons_self ..))).2
def overC (l:List Many):Int:=bif l.any (fun v=>decide (v.n > 1048576)) then 51 else 0
theorem ovr_eq (l:List Many) (h:l.length≤KB):ovr_side l∧ovr_F l=overC l:=by
 have hm:l.length≤maxLen:=by unfold KB at h;unfold maxLen;omega
 have h1:=ov_run l (0:Int) rfl hm trivial
 have hq:ovr_q1 l=loopF ov_RR ov_M (ov_g (0,l,0)):=by
  unfold ovr_q1
  rw[El.ag_eq]
  rfl
 rw[h1] at hq
 unfold ovr_side ovr_F overC
 rw[hq,El.okL_eq,El.ag_eq]
 refine ⟨⟨trivial,rfl,hm,Int.le_refl _,by show (0:Int)≤_;omega,trivial⟩,?_⟩
 rcases search (x:=0) (st:=ov_S l) (p:=fun v=>decide (v.n > (1048576:Int))) (r:=fun _ _ _=>(51:Int)) (fun _ _ _=>rfl) l (0:Int) with ⟨ha,j,hj,a,haa,hp,h3⟩ | ⟨ha,h3⟩
 ·have h3:scan 0 (ov_S l) 0 l (0:Int)=_:=h3
  rw[h3,ha];rfl
 ·have h3:scan 0 (ov_S l) 0 l (0:Int)=_:=h3
  rw[h3,ha];rfl
theorem ovr_ok:FnPure Tryd.prog 76 aLM5 dI overC (fun g=>[g.length≤KB]):=
 pure_congr (ovr_okS _ fun g _ hp=>(ovr_eq g (hp _ (List.mem_cons_self ..))).1) fun g _ hp=>(ovr_eq g (hp _ (List.mem_cons_self ..))).2
def mkM (e:Rec×Int):Many:=⟨e.1,e.2⟩
noncomputable def bagE (m:List (Rec×Int)):List Many×Int:=bif m.any bgP then ([],51) else (srtBy cmpM (m.map mkM),0)
theorem inj_pw:∀ {l:List Many},l.Pairwise (fun a b=>a.r≠b.r)→∀ {x y:Many},x∈l→y∈l→x.r=y.r→x=y
 | [],_,_,_,hx,_,_=>by cases hx
 | a :: l,h,x,y,hx,hy,e=>by
  rw[List.pairwise_cons] at h
  rcases List.mem_cons.1 hx with h1 | h1
  ·rcases List.mem_cons.1 hy with h2 | h2
   ·rw[h1,h2]
   ·exact absurd (h1▸e) (h.1 _ h2)
  ·rcases List.mem_cons.1 hy with h2 | h2
   ·exact absurd (h2▸e).symm (h.1 _ h1)
   ·exact inj_pw h.2 h1 h2 e
theorem anti_pw {l:List Many} (h:l.Pairwise fun a b=>a.r≠b.r):Anti cmpM l:=fun x hx y hy h1 h2=>inj_pw h hx hy (toR.anti _ _ h1 h2)
def KdE (m:List (Rec×Int)):Prop:=m.Pairwise fun a b=>a.1≠b.1
theorem kd_mk {m:List (Rec×Int)} (h:KdE m):(m.map mkM).Pairwise fun a b=>a.r≠b.r:=by
 rw[List.pairwise_map]
 exact h
theorem bagf_eq (cs:List Nat) (m:List (Rec×Int)) (h1:m.length≤4000000) (h2:KdE m):bagf_side cs m∧bagf_F cs m=bagE m:=by
 have hP:(permL m.length (hdC cs) m).Perm m:=permL_perm _ _ _ rfl
 have hq:bagf_q1 cs m=bg_f (hdC cs) ((),m,[],(),0):=by
  unfold bagf_q1
  rw[El.lst_els]
 have hb:∀ (l:List (Rec×Int)) (b:List Many×Int),l.foldl (fun (b:List Many×Int) e=>(b.1++[(⟨e.1,e.2⟩:Many)],b.2)) b=(b.1++l.map mkM,b.2):=by
  intro l
  induction l with
  | nil=>intro b;simp
  | cons a l ih=>intro b;rw[List.foldl_cons,ih];simp[mkM]
 have hany:(permL m.length (hdC cs) m).any bgP=m.any bgP:=by
  rw[Bool.eq_iff_iff,List.any_eq_true,List.any_eq_true]
  constructor
  ·rintro ⟨x,hx,hp⟩;exact ⟨x,hP.mem_iff.1 hx,hp⟩
  ·rintro ⟨x,hx,hp⟩;exact ⟨x,hP.mem_iff.2 hx,hp⟩
 unfold bagf_side bagf_F bagE
 rw[hq]
 unfold bg_f bg_up
 simp only[El.lst_els]
 rcases scanL_bad (x:=0) (st:=bg_S) (ex:=.ret) (p:=bgP) (r:=fun _ b=>(b.1,(51:Int))) (f:=fun b e=>(b.1++[(⟨e.1,e.2⟩:Many)],b.2)) (by simp) (fun _ _=>rfl) (permL m.length (hdC cs) m) ([],0) with ⟨ha,a,b',_,_,h3⟩ | ⟨ha,h3⟩
 ·rw[h3,← hany,ha]
  exact ⟨⟨fun _ _=>trivial,h1,fun h=>(by cases h)⟩,rfl⟩
 ·rw[h3,← hany,ha,hb]
  have hp2:((permL m.length (hdC cs) m).map mkM).Perm (m.map mkM):=hP.map _
  have hkd:=kd_mk h2
  have hkd2:((permL m.length (hdC cs) m).map mkM).Pairwise fun a b=>a.r≠b.r:=(List.Perm.pairwise_iff (fun h=>Ne.symm h) hp2).2 hkd
  have hs:srtBy cmpM ((permL m.length (hdC cs) m).map mkM)=srtBy cmpM (m.map mkM):=srtBy_unique swoM (anti_pw hkd) ((srtBy_perm _ _).trans hp2) (srtBy_sorted _ swoM _)
  have hl:((permL m.length (hdC cs) m).map mkM).length=m.length:=by rw[hp2.length_eq,List.length_map]
  have hls:(srtBy cmpM ((permL m.length (hdC cs) m).map mkM)).length=m.length:=by rw[(srtBy_perm _ _).length_eq,hl]
  simp only[List.nil_append]
  refine ⟨⟨fun _ _=>trivial,h1,fun _=>⟨trivial,fun _ _=>trivial,by omega,anti_pw hkd2,by rw[hls];omega,fun e _=>eM.ok_els _ e⟩⟩,?_⟩
  show (eM.lst _ (eM.els (srtBy cmpM ((permL m.length (hdC cs) m).map mkM))),(0:Int))=_
  have h5:=eM.lst_els (srtBy cmpM (m.map mkM))
  rw[← hs,hls] at h5
  rw[hl,h5,hs]
  rfl
theorem bagf_ok:FnPure Tryd.prog 74 aMap dLME bagE (fun m=>[m.length≤4000000,KdE m]):=
 bagf_okA bagE _ fun cs m _ hp=>bagf_eq cs m (hp _ (List.mem_cons_self ..)) (hp _ (List.mem_cons_of_mem _ (List.mem_cons_self ..)))
noncomputable def tabO8:MTab Tryd.prog:=((tabO5.cons 75 (pconR aPut (Rv.D rLM5) (fun g=>putL g.2.1 g.2.2 g.1) (fun g=>[g.1.length≤4000000])) (conR_ok put5_ok)).cons 76 (pconP aLM5 dI overC (fun g=>[g.length≤KB])) (conP_ok ovr_ok puI)).consM 74 (mconR true false eR eI DA.none dLME (fun g=>bagE g.1) (fun g=>[g.1.length≤4000000,KdE g.1])) (conMp_ok (pure_none bagf_ok))
end Go.Proofs.YtmegbepjdololaaDoor

namespace Go.Proofs.YtmegbepjdololaaDoor
open Go.RowKit Go.Sx
set_option maxRecDepth 100000
set_option linter.unusedVariables false
abbrev cbg_G:Type:=List Many×List Many×Int×Int×Int
noncomputable def cbg_LP:LP 0 cbg_G:=.pair (.slot 0 0 dLM) (.pair (.slot 0 7 dLM) (.pair (.slot 0 8 dI) (.pair (.slot 0 9 dI) (.slot 0 2 dI))))
noncomputable def cbg_R (xs:List Many) (ys:List Many) (n:Int) (i:Int) (r:Int):Ex×cbg_G:=
 bif decide (i<n) then bif decide ((ys.getD i.toNat eM.dflt).n<(1:Int))||(decide ((ys.getD i.toNat eM.dflt).n > (1048576:Int))||decide (i > (0:Int))&&decide (cmpR (xs.getD (IntKind.i64.wrap (i - (1:Int))).toNat eM.dflt).r (ys.getD i.toNat eM.dflt).r≥(0:Int))) then (Ex.ret,eM.ag xs,eM.ag ys,n,i,(51:Int)) else (Ex.normal,eM.ag xs,eM.ag ys,n,IntKind.i64.wrap (i+(1:Int)),r)
 else (Ex.exit (0:Nat),eM.ag xs,eM.ag ys,n,i,r)
def cbg_side (xs:List Many) (ys:List Many) (n:Int) (i:Int) (r:Int):Prop:=
 (decide (i<n)=true→((0:Int)≤i∧i<(↑ys.length:Int))∧((!decide ((ys.getD i.toNat eM.dflt).n<(1:Int)))=true→(!decide ((ys.getD i.toNat eM.dflt).n > (1048576:Int)))=true→decide (i > (0:Int))=true→(0:Int)≤IntKind.i64.wrap (i - (1:Int))∧IntKind.i64.wrap (i - (1:Int))<(↑xs.length:Int))∧((decide ((ys.getD i.toNat eM.dflt).n<(1:Int))||(decide ((ys.getD i.toNat eM.dflt).n > (1048576:Int))||decide (i > (0:Int))&&decide (cmpR (xs.getD (IntKind.i64.wrap (i - (1:Int))).toNat eM.dflt).r (ys.getD i.toNat eM.dflt).r≥(0:Int))))=true→eM.okL xs∧eM.okL ys)∧((decide ((ys.getD i.toNat eM.dflt).n<(1:Int))||(decide ((ys.getD i.toNat eM.dflt).n > (1048576:Int))||decide (i > (0:Int))&&decide (cmpR (xs.getD (IntKind.i64.wrap (i - (1:Int))).toNat eM.dflt).r (ys.getD i.toNat eM.dflt).r≥(0:Int))))=false→eM.okL xs∧eM.okL ys))∧(decide (i<n)=false→eM.okL xs∧eM.okL ys)
theorem cbg_one:((loopsOf Tryd.prog 35).filter fun c=>Nat.beq (lkey c) 4).length=1:=by kernel_rfl
abbrev cbg_GC:Type:=List Many×List Many×Int
abbrev cbg_GB:Type:=Int
def cbg_f (g:cbg_G):Int×cbg_GC×cbg_GB:=(g.2.2.2.1,(g.1,g.2.1,g.2.2.1),g.2.2.2.2)
def cbg_g (d:Int×cbg_GC×cbg_GB):cbg_G:=(d.2.1.1,d.2.1.2.1,d.2.1.2.2,d.1,d.2.2)
theorem cbg_es (g:cbg_G):(cbg_R g.1 g.2.1 g.2.2.1 g.2.2.2.1 g.2.2.2.2).1=.normal∨(cbg_R g.1 g.2.1 g.2.2.1 g.2.2.2.1 g.2.2.2.2).1∈([.ret,.exit 0]:List Ex):=by
 unfold cbg_R
 repeat' (first | (left;rfl) | (right;simp only[cond_true,cond_false];simp;done) | (rw[Bool.cond_eq_ite];split))
noncomputable abbrev cbg_C (Inv:cbg_G→List Prop) (m:cbg_G→Nat):LCon:=loopR [.ret,.exit 0] (loopBody Tryd.prog 35 4) cbg_LP [] 39 Inv (fun g=>cbg_R g.1 g.2.1 g.2.2.1 g.2.2.2.1 g.2.2.2.2) m
theorem cbg_loop (Inv:cbg_G→List Prop) (m:cbg_G→Nat) (hs:∀ g,allP (Inv g)→cbg_side g.1 g.2.1 g.2.2.1 g.2.2.2.1 g.2.2.2.2) (hg:Goes (fun g:cbg_G=>cbg_R g.1 g.2.1 g.2.2.1 g.2.2.2.1 g.2.2.2.2) m fun g=>allP (Inv g)):∀ b∈loopsOf Tryd.prog 35,lkey b=4→LoopOk Tryd.prog b (cbg_C Inv m).g:=loop_run (Γ:=(PTab.gamz tabG6 [] [])) (Λ:=lamG2) (PTab.okz tabG6 [] []) lamG2_ok 100 35 4 39 cbg_LP [] Inv (fun g=>cbg_R g.1 g.2.1 g.2.2.1 g.2.2.2.1 g.2.2.2.2) (fun g=>cbg_side g.1 g.2.1 g.2.2.1 g.2.2.2.1 g.2.2.2.2) m default [.ret,.exit 0] cbg_one (fun rd T B HL HB ds g=>by kernel_rfl) (fun rd T B HL HB ds g=>by kernel_rfl) hs hg cbg_es
abbrev bga_G:Type:=List Many×Int×Int
noncomputable def bga_LP:LP 0 bga_G:=.pair (.slot 0 0 dLM) (.pair (.slot 0 3 dI) (.slot 0 2 dI))
noncomputable def bga_R (xs:List Many) (i:Int) (r:Int):Ex×bga_G:=
 bif decide (i<(↑xs.length:Int)) then bif chkR (xs.getD i.toNat eM.dflt).r != (0:Int) then (Ex.ret,eM.ag xs,i,chkR (xs.getD i.toNat eM.dflt).r) else (Ex.normal,eM.ag xs,IntKind.i64.wrap (i+(1:Int)),r)
 else (Ex.exit (0:Nat),eM.ag xs,i,r)
def bga_side (xs:List Many) (i:Int) (r:Int):Prop:=
 (decide (i<(↑xs.length:Int))=true→((0:Int)≤i∧i<(↑xs.length:Int))∧((chkR (xs.getD i.toNat eM.dflt).r != (0:Int))=true→eM.okL xs)∧((chkR (xs.getD i.toNat eM.dflt).r != (0:Int))=false→eM.okL xs))∧(decide (i<(↑xs.length:Int))=false→eM.okL xs)
theorem bga_one:((loopsOf Tryd.prog 36).filter fun c=>Nat.beq (lkey c) 2).length=1:=by kernel_rfl
abbrev bga_GC:Type:=List Many
abbrev bga_GB:Type:=Int
def bga_f (g:bga_G):Int×bga_GC×bga_GB:=(g.2.1,g.1,g.2.2)
def bga_g (d:Int×bga_GC×bga_GB):bga_G:=(d.2.1,d.1,d.2.2)
theorem bga_es (g:bga_G):(bga_R g.1 g.2.1 g.2.2).1=.normal∨(bga_R g.1 g.2.1 g.2.2).1∈([.ret,.exit 0]:List Ex):=by
 unfold bga_R
 repeat' (first | (left;rfl) | (right;simp only[cond_true,cond_false];simp;done) | (rw[Bool.cond_eq_ite];split))
noncomputable abbrev bga_C (Inv:bga_G→List Prop) (m:bga_G→Nat):LCon:=loopR [.ret,.exit 0] (loopBody Tryd.prog 36 2) bga_LP [] 60 Inv (fun g=>bga_R g.1 g.2.1 g.2.2) m
theorem bga_loop (Inv:bga_G→List Prop) (m:bga_G→Nat) (hs:∀ g,allP (Inv g)→bga_side g.1 g.2.1 g.2.2) (hg:Goes (fun g:bga_G=>bga_R g.1 g.2.1 g.2.2) m fun g=>allP (Inv g)):∀ b∈loopsOf Tryd.prog 36,lkey b=2→LoopOk Tryd.prog b (bga_C Inv m).g:=loop_run (Γ:=(PTab.gamz tabG6 [] [])) (Λ:=lamG2) (PTab.okz tabG6 [] []) lamG2_ok 100 36 2 60 bga_LP [] Inv (fun g=>bga_R g.1 g.2.1 g.2.2) (fun g=>bga_side g.1 g.2.1 g.2.2) m default [.ret,.exit 0] bga_one (fun rd T B HL HB ds g=>by kernel_rfl) (fun rd T B HL HB ds g=>by kernel_rfl) hs hg bga_es
abbrev bgb_G:Type:=List Many×Int×Int
noncomputable def bgb_LP:LP 0 bgb_G:=.pair (.slot 0 0 dLM) (.pair (.slot 0 5 dI) (.slot 0 2 dI))
noncomputable def bgb_R (xs:List Many) (i:Int) (r:Int):Ex×bgb_G:=
 bif decide (i<(↑xs.length:Int)) then bif decide ((xs.getD i.toNat eM.dflt).n<(1:Int))||(decide ((xs.getD i.toNat eM.dflt).n > (1048576:Int))||decide (i > (0:Int))&&decide (cmpR (xs.getD (IntKind.i64.wrap (i - (1:Int))).toNat eM.dflt).r (xs.getD i.toNat eM.dflt).r≥(0:Int))) then (Ex.ret,eM.ag xs,i,(51:Int)) else (Ex.normal,eM.ag xs,IntKind.i64.wrap (i+(1:Int)),r)
 else (Ex.exit (2:Nat),eM.ag xs,i,r)
def bgb_side (xs:List Many) (i:Int) (r:Int):Prop:=
 (decide (i<(↑xs.length:Int))=true→((0:Int)≤i∧i<(↑xs.length:Int))∧((!decide ((xs.getD i.toNat eM.dflt).n<(1:Int)))=true→(0:Int)≤i∧i<(↑xs.length:Int))∧((!decide ((xs.getD i.toNat eM.dflt).n<(1:Int)))=true→(!decide ((xs.getD i.toNat eM.dflt).n > (1048576:Int)))=true→decide (i > (0:Int))=true→(0:Int)≤IntKind.i64.wrap (i - (1:Int))∧IntKind.i64.wrap (i - (1:Int))<(↑xs.length:Int))∧((!decide ((xs.getD i.toNat eM.dflt).n<(1:Int)))=true→(!decide ((xs.getD i.toNat eM.dflt).n > (1048576:Int)))=true→decide (i > (0:Int))=true→(0:Int)≤i∧i<(↑xs.length:Int))∧((decide ((xs.getD i.toNat eM.dflt).n<(1:Int))||(decide ((xs.getD i.toNat eM.dflt).n > (1048576:Int))||decide (i > (0:Int))&&decide (cmpR (xs.getD (IntKind.i64.wrap (i - (1:Int))).toNat eM.dflt).r (xs.getD i.toNat eM.dflt).r≥(0:Int))))=true→eM.okL xs)∧((decide ((xs.getD i.toNat eM.dflt).n<(1:Int))||(decide ((xs.getD i.toNat eM.dflt).n > (1048576:Int))||decide (i > (0:Int))&&decide (cmpR (xs.getD (IntKind.i64.wrap (i - (1:Int))).toNat eM.dflt).r (xs.getD i.toNat eM.dflt).r≥(0:Int))))=false→eM.okL xs))∧(decide (i<(↑xs.length:Int))=false→eM.okL xs)
theorem bgb_one:((loopsOf Tryd.prog 36).filter fun c=>Nat.beq (lkey c) 8).length=1:=by kernel_rfl
abbrev bgb_GC:Type:=List Many
abbrev bgb_GB:Type:=Int
def bgb_f (g:bgb_G):Int×bgb_GC×bgb_GB:=(g.2.1,g.1,g.2.2)
def bgb_g (d:Int×bgb_GC×bgb_GB):bgb_G:=(d.2.1,d.1,d.2.2)
theorem bgb_es (g:bgb_G):(bgb_R g.1 g.2.1 g.2.2).1=.normal∨(bgb_R g.1 g.2.1 g.2.2).1∈([.ret,.exit 2]:List Ex):=by
 unfold bgb_R
 repeat' (first | (left;rfl) | (right;simp only[cond_true,cond_false];simp;done) | (rw[Bool.cond_eq_ite];split))
noncomputable abbrev bgb_C (Inv:bgb_G→List Prop) (m:bgb_G→Nat):LCon:=loopR [.ret,.exit 2] (loopBody Tryd.prog 36 8) bgb_LP [] 60 Inv (fun g=>bgb_R g.1 g.2.1 g.2.2) m
theorem bgb_loop (Inv:bgb_G→List Prop) (m:bgb_G→Nat) (hs:∀ g,allP (Inv g)→bgb_side g.1 g.2.1 g.2.2) (hg:Goes (fun g:bgb_G=>bgb_R g.1 g.2.1 g.2.2) m fun g=>allP (Inv g)):∀ b∈loopsOf Tryd.prog 36,lkey b=8→LoopOk Tryd.prog b (bgb_C Inv m).g:=loop_run (Γ:=(PTab.gamz tabG6 [] [])) (Λ:=lamG2) (PTab.okz tabG6 [] []) lamG2_ok 100 36 8 60 bgb_LP [] Inv (fun g=>bgb_R g.1 g.2.1 g.2.2) (fun g=>bgb_side g.1 g.2.1 g.2.2) m default [.ret,.exit 2] bgb_one (fun rd T B HL HB ds g=>by kernel_rfl) (fun rd T B HL HB ds g=>by kernel_rfl) hs hg bgb_es
end Go.Proofs.YtmegbepjdololaaDoor

namespace Go.Proofs.YtmegbepjdololaaDoor
open Go.RowKit Go.Sx Go.Lp
set_option maxRecDepth 100000
noncomputable def cbg_S (c:cbg_GC) (b:cbg_GB) (i:Int) (v:Many):Ex×cbg_GB:=bif decide (v.n<(1:Int))||(decide (v.n > (1048576:Int))||decide (i > (0:Int))&&decide (cmpR (c.1.getD (IntKind.i64.wrap (i - (1:Int))).toNat eM.dflt).r v.r≥(0:Int))) then (.ret,(51:Int)) else (.normal,b)
def cbg_K (c:cbg_GC) (b:cbg_GB) (i:Int):Prop:=c.1.length=c.2.1.length
abbrev cbg_I (g:cbg_G):List Prop:=ixI (fun c:cbg_GC=>c.2.2) (fun c:cbg_GC=>c.2.1) cbg_K (cbg_f g)
abbrev cbg_M (g:cbg_G):Nat:=ixM (fun c:cbg_GC=>c.2.2) (cbg_f g)
theorem cbg_P:ixP cbg_S (fun c:cbg_GC=>c.2.1) cbg_K:=fun _ _ _ _ h _ _=>h
noncomputable abbrev cbg_RR (g:cbg_G):Ex×cbg_G:=cbg_R g.1 g.2.1 g.2.2.1 g.2.2.2.1 g.2.2.2.2
theorem cbg_RF (d:Int×cbg_GC×cbg_GB) (hi:allP (ixI (fun c:cbg_GC=>c.2.2) (fun c:cbg_GC=>c.2.1) cbg_K d)):cbg_RR (cbg_g d)=((ixF 0 (fun c:cbg_GC=>c.2.2) (fun c:cbg_GC=>c.2.1) eM.dflt cbg_S d).1,cbg_g (ixF 0 (fun c:cbg_GC=>c.2.2) (fun c:cbg_GC=>c.2.1) eM.dflt cbg_S d).2):=by
 obtain ⟨i,⟨xs,ys,n⟩,r⟩:=d
 show cbg_R xs ys n i r=_
 unfold cbg_R ixF cbg_S
 simp only[El.ag_eq]
 cases decide (i<n) with
 | false=>rfl
 | true=>
  simp only[cond_true]
  generalize (decide ((ys.getD i.toNat eM.dflt).n<(1:Int))||(decide ((ys.getD i.toNat eM.dflt).n > (1048576:Int))||decide (i > (0:Int))&&decide (cmpR (xs.getD (IntKind.i64.wrap (i - (1:Int))).toNat eM.dflt).r (ys.getD i.toNat eM.dflt).r≥(0:Int))))=z
  cases z <;> rfl
theorem cbg_ok:∀ b∈loopsOf Tryd.prog 35,lkey b=4→LoopOk Tryd.prog b (cbg_C cbg_I cbg_M).g:=by
 refine cbg_loop cbg_I cbg_M (fun g hi=>?_) (ix_conj_goes (fun _=>rfl) (fun _=>rfl) cbg_RF cbg_P)
 obtain ⟨xs,ys,n,i,r⟩:=g
 obtain ⟨h1,h2,h3,h4,h5⟩:=hi _ (List.mem_cons_self ..)
 have h1:n=(ys.length:Int):=h1
 have h3:0≤i:=h3
 have h5:xs.length=ys.length:=h5
 have h2':ys.length≤maxLen:=h2
 have h2:ys.length≤9223372036854775807:=by unfold maxLen at h2';omega
 have h4:i≤(ys.length:Int):=h4
 have w1:0<i→IntKind.i64.wrap (i - (1:Int))=i - 1:=fun h=>Lp.wr (by omega)
 show cbg_side xs ys n i r
 unfold cbg_side
 simp only[decide_eq_true_eq,decide_eq_false_iff_not]
 have k0:∀ e:Nat,e<xs.length→eM.Ok (eM.els xs e):=fun e _=>eM.ok_els xs e
 have k1:∀ e:Nat,e<ys.length→eM.Ok (eM.els ys e):=fun e _=>eM.ok_els ys e
 clear hi
 repeat' (first | exact k0 | exact k1 | apply And.intro | intro _)
 all_goals (first | omega | (rw[w1 (by omega)];omega))
theorem cbg_run (c:cbg_GC) (b:cbg_GB) (k1:c.2.2=((c.2.1).length:Int)) (k2:(c.2.1).length≤maxLen) (k3:cbg_K c b 0):loopF cbg_RR cbg_M (cbg_g (0,c,b))=((scan 0 (cbg_S c) 0 (c.2.1) b).1,cbg_g ((scan 0 (cbg_S c) 0 (c.2.1) b).2.1,c,(scan 0 (cbg_S c) 0 (c.2.1) b).2.2)):=ix_conj_run (φ:=cbg_f) (ψ:=cbg_g) (fun _=>rfl) (fun _=>rfl) cbg_RF cbg_P c b k1 k2 k3
noncomputable def bga_S (c:bga_GC) (b:bga_GB) (i:Int) (v:Many):Ex×bga_GB:=bif chkR v.r != (0:Int) then (.ret,chkR v.r) else (.normal,b)
def bga_K (c:bga_GC) (b:bga_GB) (i:Int):Prop:=True
abbrev bga_I (g:bga_G):List Prop:=ixI (fun c:bga_GC=>(c.length:Int)) (fun c:bga_GC=>c) bga_K (bga_f g)
abbrev bga_M (g:bga_G):Nat:=ixM (fun c:bga_GC=>(c.length:Int)) (bga_f g)
theorem bga_P:ixP bga_S (fun c:bga_GC=>c) bga_K:=fun _ _ _ _ h _ _=>h
noncomputable abbrev bga_RR (g:bga_G):Ex×bga_G:=bga_R g.1 g.2.1 g.2.2
theorem bga_RF (d:Int×bga_GC×bga_GB) (hi:allP (ixI (fun c:bga_GC=>(c.length:Int)) (fun c:bga_GC=>c) bga_K d)):bga_RR (bga_g d)=((ixF 0 (fun c:bga_GC=>(c.length:Int)) (fun c:bga_GC=>c) eM.dflt bga_S d).1,bga_g (ixF 0 (fun c:bga_GC=>(c.length:Int)) (fun c:bga_GC=>c) eM.dflt bga_S d).2):=by
 obtain ⟨i,xs,r⟩:=d
 show bga_R xs i r=_
 unfold bga_R ixF bga_S
 simp only[El.ag_eq]
 cases decide (i<(xs.length:Int)) with
 | false=>rfl
 | true=>
  simp only[cond_true]
  generalize (chkR (xs.getD i.toNat eM.dflt).r != (0:Int))=z
  cases z <;> rfl
theorem bga_ok:∀ b∈loopsOf Tryd.prog 36,lkey b=2→LoopOk Tryd.prog b (bga_C bga_I bga_M).g:=by
 refine bga_loop bga_I bga_M (fun g hi=>?_) (ix_conj_goes (fun _=>rfl) (fun _=>rfl) bga_RF bga_P)
 obtain ⟨xs,i,r⟩:=g
 obtain ⟨h1,h2,h3,h4,h5⟩:=hi _ (List.mem_cons_self ..)
 have h1:(xs.length:Int)=(xs.length:Int):=h1
 have h3:0≤i:=h3
 have h5:True:=h5
 show bga_side xs i r
 unfold bga_side
 simp only[decide_eq_true_eq,decide_eq_false_iff_not]
 have k0:∀ e:Nat,e<xs.length→eM.Ok (eM.els xs e):=fun e _=>eM.ok_els xs e
 clear hi
 repeat' (first | exact k0 | apply And.intro | intro _)
 all_goals omega
theorem bga_run (c:bga_GC) (b:bga_GB) (k1:(c.length:Int)=((c).length:Int)) (k2:(c).length≤maxLen) (k3:bga_K c b 0):loopF bga_RR bga_M (bga_g (0,c,b))=((scan 0 (bga_S c) 0 (c) b).1,bga_g ((scan 0 (bga_S c) 0 (c) b).2.1,c,(scan 0 (bga_S c) 0 (c) b).2.2)):=ix_conj_run (φ:=bga_f) (ψ:=bga_g) (fun _=>rfl) (fun _=>rfl) bga_RF bga_P c b k1 k2 k3
noncomputable def bgb_S (c:bgb_GC) (b:bgb_GB) (i:Int) (v:Many):Ex×bgb_GB:=bif decide (v.n<(1:Int))||(decide (v.n > (1048576:Int))||decide (i > (0:Int))&&decide (cmpR (c.getD (IntKind.i64.wrap (i - (1:Int))).toNat eM.dflt).r v.r≥(0:Int))) then (.ret,(51:Int)) else (.normal,b)
def bgb_K (c:bgb_GC) (b:bgb_GB) (i:Int):Prop:=True
abbrev bgb_I (g:bgb_G):List Prop:=ixI (fun c:bgb_GC=>(c.length:Int)) (fun c:bgb_GC=>c) bgb_K (bgb_f g)
abbrev bgb_M (g:bgb_G):Nat:=ixM (fun c:bgb_GC=>(c.length:Int)) (bgb_f g)
theorem bgb_P:ixP bgb_S (fun c:bgb_GC=>c) bgb_K:=fun _ _ _ _ h _ _=>h
noncomputable abbrev bgb_RR (g:bgb_G):Ex×bgb_G:=bgb_R g.1 g.2.1 g.2.2
theorem bgb_RF (d:Int×bgb_GC×bgb_GB) (hi:allP (ixI (fun c:bgb_GC=>(c.length:Int)) (fun c:bgb_GC=>c) bgb_K d)):bgb_RR (bgb_g d)=((ixF 2 (fun c:bgb_GC=>(c.length:Int)) (fun c:bgb_GC=>c) eM.dflt bgb_S d).1,bgb_g (ixF 2 (fun c:bgb_GC=>(c.length:Int)) (fun c:bgb_GC=>c) eM.dflt bgb_S d).2):=by
 obtain ⟨i,xs,r⟩:=d
 show bgb_R xs i r=_
 unfold bgb_R ixF bgb_S
 simp only[El.ag_eq]
 cases decide (i<(xs.length:Int)) with
 | false=>rfl
 | true=>
  simp only[cond_true]
  generalize (decide ((xs.getD i.toNat eM.dflt).n<(1:Int))||(decide ((xs.getD i.toNat eM.dflt).n > (1048576:Int))||decide (i > (0:Int))&&decide (cmpR (xs.getD (IntKind.i64.wrap (i - (1:Int))).toNat eM.dflt).r (xs.getD i.toNat eM.dflt).r≥(0:Int))))=z
  cases z <;> rfl
theorem bgb_ok:∀ b∈loopsOf Tryd.prog 36,lkey b=8→LoopOk Tryd.prog b (bgb_C bgb_I bgb_M).g:=by
 refine bgb_loop bgb_I bgb_M (fun g hi=>?_) (ix_conj_goes (fun _=>rfl) (fun _=>rfl) bgb_RF bgb_P)
 obtain ⟨xs,i,r⟩:=g
 obtain ⟨h1,h2,h3,h4,h5⟩:=hi _ (List.mem_cons_self ..)
 have h1:(xs.length:Int)=(xs.length:Int):=h1
 have h3:0≤i:=h3
 have h5:True:=h5
 have h2':xs.length≤maxLen:=h2
 have h2:xs.length≤9223372036854775807:=by unfold maxLen at h2';omega
 have h4:i≤(xs.length:Int):=h4
 have w1:0<i→IntKind.i64.wrap (i - (1:Int))=i - 1:=fun h=>Lp.wr (by omega)
 show bgb_side xs i r
 unfold bgb_side
 simp only[decide_eq_true_eq,decide_eq_false_iff_not]
 have k0:∀ e:Nat,e<xs.length→eM.Ok (eM.els xs e):=fun e _=>eM.ok_els xs e
 clear hi
 repeat' (first | exact k0 | apply And.intro | intro _)
 all_goals (first | omega | (rw[w1 (by omega)];omega))
theorem bgb_run (c:bgb_GC) (b:bgb_GB) (k1:(c.length:Int)=((c).length:Int)) (k2:(c).length≤maxLen) (k3:bgb_K c b 0):loopF bgb_RR bgb_M (bgb_g (0,c,b))=((scan 2 (bgb_S c) 0 (c) b).1,bgb_g ((scan 2 (bgb_S c) 0 (c) b).2.1,c,(scan 2 (bgb_S c) 0 (c) b).2.2)):=ix_conj_run (φ:=bgb_f) (ψ:=bgb_g) (fun _=>rfl) (fun _=>rfl) bgb_RF bgb_P c b k1 k2 k3
noncomputable def ltG8:LTab Tryd.prog:=(((ltG2.cons 35 4 (cbg_C cbg_I cbg_M) cbg_ok).cons 36 2 (bga_C bga_I bga_M) bga_ok).cons 36 8 (bgb_C bgb_I bgb_M) bgb_ok)
noncomputable abbrev lamG8:Lam:=ltG8.lam
theorem lamG8_ok:∀ f k L,lamG8 f k=some L→∀ b∈loopsOf Tryd.prog f,lkey b=k→LoopOk Tryd.prog b L.g:=ltG8.ok
end Go.Proofs.YtmegbepjdololaaDoor

namespace Go.Proofs.YtmegbepjdololaaDoor
open Go.RowKit Go.Sx
set_option maxRecDepth 100000
set_option linter.unusedVariables false
abbrev aLM:DA (List Many):=.one dLM
noncomputable def cbb_q1 (xs:List Many):Ex ×
 ixf_G:=
 loopF (fun g=>ixf_R g.fst g.snd.fst g.snd.snd.fst g.snd.snd.snd.fst g.snd.snd.snd.snd) ixf_M (eM.ag xs,(),(↑xs.length:Int),(0:Int),(0:Int))
noncomputable def cbb_q2 (xs:List Many):Ex ×
 cbg_G:=
 loopF (fun g=>cbg_R g.fst g.snd.fst g.snd.snd.fst g.snd.snd.snd.fst g.snd.snd.snd.snd) cbg_M (eM.ag xs,eM.ag xs,(↑xs.length:Int),(0:Int),(0:Int))
noncomputable def cbb_F (xs:List Many):Dv.T dI:=
 bif exB Ex.ret (cbb_q1 xs).fst then bif decide ((cbb_q1 xs).snd.snd.snd.snd.snd≥(0:Int)) then (50:Int) else bif exB Ex.ret (cbb_q2 xs).fst then (cbb_q2 xs).snd.snd.snd.snd.snd else (0:Int)
 else bif exB Ex.ret (cbb_q2 xs).fst then (cbb_q2 xs).snd.snd.snd.snd.snd else (0:Int)
def cbb_side (xs:List Many):Prop:=
 eM.okL xs∧Lp.ixJ (fun c=>c.snd) (fun c=>c.fst) ixf_K (ixf_f (eM.ag xs,(),(↑xs.length:Int),(0:Int),(0:Int)))∧(exB Ex.ret (cbb_q1 xs).fst=true→decide ((cbb_q1 xs).snd.snd.snd.snd.snd≥(0:Int))=false→eM.okL xs∧eM.okL xs∧Lp.ixJ (fun c=>c.snd.snd) (fun c=>c.snd.fst) cbg_K (cbg_f (eM.ag xs,eM.ag xs,(↑xs.length:Int),(0:Int),(0:Int))))∧(exB Ex.ret (cbb_q1 xs).fst=false→eM.okL xs∧eM.okL xs∧Lp.ixJ (fun c=>c.snd.snd) (fun c=>c.snd.fst) cbg_K (cbg_f (eM.ag xs,eM.ag xs,(↑xs.length:Int),(0:Int),(0:Int))))
theorem cbb_okS (pre:DA.T aLM→List Prop) (h:∀ g,DA.bd aLM g→(∀ p∈pre g,p)→cbb_side g):FnPure Tryd.prog 35 aLM dI (fun g=>cbb_F g) pre:=pure_of_sideS (Γ:=(PTab.gamz tabG6 [] [])) (Λ:=lamG8) (PTab.okz tabG6 [] []) lamG8_ok 100 default (fun g=>cbb_side g) (fun g=>by kernel_rfl) (fun g=>by kernel_rfl) h
noncomputable def rcb_q1 (xs:List Many):Ex×bga_G:=
 loopF (fun g=>bga_R g.fst g.snd.fst g.snd.snd) bga_M (eM.ag xs,(0:Int),(0:Int))
noncomputable def rcb_q2 (xs:List Many):Ex ×
 bgb_G:=
 loopF (fun g=>bgb_R g.fst g.snd.fst g.snd.snd) bgb_M (eM.ag (rcb_q1 xs).snd.fst,(0:Int),(rcb_q1 xs).snd.snd.snd)
noncomputable def rcb_F (xs:List Many):Dv.T dI:=
 bif exB Ex.ret (rcb_q1 xs).fst then (rcb_q1 xs).snd.snd.snd else bif exB Ex.ret (rcb_q2 xs).fst then (rcb_q2 xs).snd.snd.snd else (0:Int)
def rcb_side (xs:List Many):Prop:=
 eM.okL xs∧Lp.ixJ (fun c=>(↑(List.length c):Int)) (fun c=>c) bga_K (bga_f (eM.ag xs,(0:Int),(0:Int)))∧(exB Ex.ret (rcb_q1 xs).fst=false→eM.okL (rcb_q1 xs).snd.fst∧Lp.ixJ (fun c=>(↑(List.length c):Int)) (fun c=>c) bgb_K (bgb_f (eM.ag (rcb_q1 xs).snd.fst,(0:Int),(rcb_q1 xs).snd.snd.snd)))
theorem rcb_okS (pre:DA.T aLM→List Prop) (h:∀ g,DA.bd aLM g→(∀ p∈pre g,p)→rcb_side g):FnPure Tryd.prog 36 aLM dI (fun g=>rcb_F g) pre:=pure_of_sideS (Γ:=(PTab.gamz tabG6 [] [])) (Λ:=lamG8) (PTab.okz tabG6 [] []) lamG8_ok 100 default (fun g=>rcb_side g) (fun g=>by kernel_rfl) (fun g=>by kernel_rfl) h
end Go.Proofs.YtmegbepjdololaaDoor

namespace Go.Proofs.YtmegbepjdololaaDoor
open Go.RowKit Go.Sx Go.Lp
noncomputable def bagBad (xs:List Many) (i:Int) (v:Many):Bool:=decide (v.n<(1:Int))||(decide (v.n > (1048576:Int))||decide (i > (0:Int))&&decide (cmpR (xs.getD (IntKind.i64.wrap (i - (1:Int))).toNat eM.dflt).r v.r≥(0:Int)))
noncomputable def bagF (xs:List Many):Int:=bif xs.any (fun v=>chkR v.r != (0:Int)) then 50 else bif (List.range xs.length).any (fun j=>bagBad xs (j:Int) (xs.getD j eM.dflt)) then 51 else 0
theorem chkR_two (r:Rec):chkR r=0∨chkR r=50:=by
 unfold chkR
 cases decide ((r.text.size:Int) > 64)||!validS r.text with
 | true=>exact .inr rfl
 | false=>exact .inl rfl
theorem bag_hit {xs:List Many} {n:Nat} {v:Many} (h:xs[n]?=some v) (hb:bagBad xs (n:Int) v=true):(List.range xs.length).any (fun j=>bagBad xs (j:Int) (xs.getD j eM.dflt))=true:=by
 obtain ⟨hn,hv⟩:=List.getElem?_eq_some_iff.1 h
 refine List.any_eq_true.2 ⟨n,List.mem_range.2 hn,?_⟩
 rw[List.getD_eq_getElem?_getD,h]
 exact hb
theorem bag_miss {xs:List Many} (h:∀ (n:Nat) (v:Many),xs[n]?=some v→bagBad xs (n:Int) v=false):(List.range xs.length).any (fun j=>bagBad xs (j:Int) (xs.getD j eM.dflt))=false:=by
 rw[Bool.eq_false_iff]
 intro ha
 obtain ⟨n,hn,hb⟩:=List.any_eq_true.1 ha
 have hn:=List.mem_range.1 hn
 rw[List.getD_eq_getElem?_getD,List.getElem?_eq_getElem hn,Option.getD_some,h n _ (List.getElem?_eq_getElem hn)] at hb
 cases hb
theorem cbb_q1_eq (xs:List Many) (h:xs.length≤KB):(xs.any (fun v=>chkR v.r != (0:Int))=true∧∃ n:Nat,cbb_q1 xs=(.ret,xs,(),(xs.length:Int),(n:Int),(n:Int)))∨(xs.any (fun v=>chkR v.r != (0:Int))=false∧(cbb_q1 xs).1=.exit 0):=by
 unfold KB at h
 have hrun:=ixf_run (xs,(xs.length:Int)) ((),0) rfl (by show xs.length≤maxLen;unfold maxLen;omega) trivial
 have hq:cbb_q1 xs=loopF ixf_RR ixf_M (ixf_g (0,(xs,(xs.length:Int)),((),0))):=by
  unfold cbb_q1
  rw[eM.ag_eq]
  rfl
 rcases searchI (x:=0) (st:=ixf_S (xs,(xs.length:Int))) (p:=fun _ v=>chkR v.r != (0:Int)) (r:=fun i _ _=>((),i)) (fun b i a=>rfl) xs ((),0) with ⟨n,v,h1,h2,hs⟩ | ⟨h1,hs⟩
 ·left
  refine ⟨List.any_eq_true.2 ⟨v,List.mem_of_getElem? h1,h2⟩,n,?_⟩
  rw[hq,hrun,hs]
  rfl
 ·right
  refine ⟨?_,by rw[hq,hrun,hs]⟩
  rw[Bool.eq_false_iff]
  intro ha
  obtain ⟨v,hv,hb⟩:=List.any_eq_true.1 ha
  obtain ⟨n,hn⟩:=List.getElem?_of_mem hv
  have:(chkR v.r != (0:Int))=false:=h1 n v hn
  rw[this] at hb
  cases hb
theorem cbb_q2_eq (xs:List Many) (h:xs.length≤KB):((List.range xs.length).any (fun j=>bagBad xs (j:Int) (xs.getD j eM.dflt))=true∧(cbb_q2 xs).1=.ret∧(cbb_q2 xs).2.2.2.2.2=51)∨((List.range xs.length).any (fun j=>bagBad xs (j:Int) (xs.getD j eM.dflt))=false∧(cbb_q2 xs).1=.exit 0):=by
 unfold KB at h
 have hrun:=cbg_run (xs,xs,(xs.length:Int)) 0 rfl (by show xs.length≤maxLen;unfold maxLen;omega) rfl
 have hq:cbb_q2 xs=loopF cbg_RR cbg_M (cbg_g (0,(xs,xs,(xs.length:Int)),0)):=by
  unfold cbb_q2
  rw[eM.ag_eq]
  rfl
 rcases searchI (x:=0) (st:=cbg_S (xs,xs,(xs.length:Int))) (p:=bagBad xs) (r:=fun _ _ _=>(51:Int)) (fun b i a=>rfl) xs 0 with ⟨n,v,h1,h2,hs⟩ | ⟨h1,hs⟩
 ·left
  refine ⟨bag_hit h1 h2,?_⟩
  rw[hq,hrun,hs]
  exact ⟨rfl,rfl⟩
 ·right
  exact ⟨bag_miss h1,by rw[hq,hrun,hs]⟩
theorem cbb_ok:FnPure Tryd.prog 35 aLM dI bagF (fun g=>[g.length≤KB]):=
 pure_congr (cbb_okS _ fun xs _ hp=>by
  have h:xs.length≤KB:=hp _ (List.mem_cons_self ..)
  have h':=h
  unfold KB at h'
  have hm:xs.length≤maxLen:=by unfold maxLen;omega
  show cbb_side xs
  unfold cbb_side
  rw[eM.okL_eq,eM.ag_eq]
  exact ⟨trivial,ixJ0 rfl hm trivial,fun _ _=>⟨trivial,trivial,ixJ0 rfl hm rfl⟩,fun _=>⟨trivial,trivial,ixJ0 rfl hm rfl⟩⟩) fun xs _ hp=>by
  have h:xs.length≤KB:=hp _ (List.mem_cons_self ..)
  show cbb_F xs=bagF xs
  unfold cbb_F bagF
  rcases cbb_q1_eq xs h with ⟨h1,n,h2⟩ | ⟨h1,h2⟩
  ·rw[h1,h2]
   have e:decide ((n:Int)≥(0:Int))=true:=decide_eq_true (by omega)
   show (bif true then bif decide ((n:Int)≥(0:Int)) then (50:Int) else _ else _)=_
   rw[e];rfl
  ·rw[h1,h2]
   show (bif false then _ else _)=_
   rw[cond_false,cond_false]
   rcases cbb_q2_eq xs h with ⟨k1,k2,k3⟩ | ⟨k1,k2⟩
   ·rw[k1,k2,k3];rfl
   ·rw[k1,k2];rfl
theorem rcb_q1_eq (xs:List Many) (h:xs.length≤KB):(xs.any (fun v=>chkR v.r != (0:Int))=true∧(rcb_q1 xs).1=.ret∧(rcb_q1 xs).2.2.2=50)∨(xs.any (fun v=>chkR v.r != (0:Int))=false∧rcb_q1 xs=(.exit 0,xs,(xs.length:Int),0)):=by
 unfold KB at h
 have hrun:=bga_run xs 0 rfl (by show xs.length≤maxLen;unfold maxLen;omega) trivial
 have hq:rcb_q1 xs=loopF bga_RR bga_M (bga_g (0,xs,0)):=by
  unfold rcb_q1
  rw[eM.ag_eq]
  rfl
 rcases search (x:=0) (st:=bga_S xs) (p:=fun v=>chkR v.r != (0:Int)) (r:=fun _ v _=>chkR v.r) (fun b i a=>rfl) xs 0 with ⟨h1,j,_,a,_,h3,hs⟩ | ⟨h1,hs⟩
 ·left
  refine ⟨h1,?_⟩
  rw[hq,hrun,hs]
  refine ⟨rfl,?_⟩
  show chkR a.r=50
  rcases chkR_two a.r with e | e
  ·rw[e] at h3;cases h3
  ·exact e
 ·right
  refine ⟨h1,?_⟩
  rw[hq,hrun,hs]
  rfl
theorem rcb_q2_eq (xs:List Many) (h:xs.length≤KB) (h1:rcb_q1 xs=(.exit 0,xs,(xs.length:Int),0)):((List.range xs.length).any (fun j=>bagBad xs (j:Int) (xs.getD j eM.dflt))=true∧(rcb_q2 xs).1=.ret∧(rcb_q2 xs).2.2.2=51)∨((List.range xs.length).any (fun j=>bagBad xs (j:Int) (xs.getD j eM.dflt))=false∧(rcb_q2 xs).1=.exit 2):=by
 unfold KB at h
 have hrun:=bgb_run xs 0 rfl (by show xs.length≤maxLen;unfold maxLen;omega) trivial
 have hq:rcb_q2 xs=loopF bgb_RR bgb_M (bgb_g (0,xs,0)):=by
  unfold rcb_q2
  rw[eM.ag_eq,h1]
  rfl
 rcases searchI (x:=2) (st:=bgb_S xs) (p:=bagBad xs) (r:=fun _ _ _=>(51:Int)) (fun b i a=>rfl) xs 0 with ⟨n,v,h1,h2,hs⟩ | ⟨h1,hs⟩
 ·left
  refine ⟨bag_hit h1 h2,?_⟩
  rw[hq,hrun,hs]
  exact ⟨rfl,rfl⟩
 ·right
  exact ⟨bag_miss h1,by rw[hq,hrun,hs]⟩
theorem rcb_ok:FnPure Tryd.prog 36 aLM dI bagF (fun g=>[g.length≤KB]):=
 pure_congr (rcb_okS _ fun xs _ hp=>by
  have h:xs.length≤KB:=hp _ (List.mem_cons_self ..)
  have h':=h
  unfold KB at h'
  have hm:xs.length≤maxLen:=by unfold maxLen;omega
  show rcb_side xs
  unfold rcb_side
  rw[eM.okL_eq,eM.okL_eq,eM.ag_eq]
  refine ⟨trivial,ixJ0 rfl hm trivial,fun hx=>⟨trivial,?_⟩⟩
  rcases rcb_q1_eq xs h with ⟨_,k2,_⟩ | ⟨_,k2⟩
  ·rw[k2] at hx;cases hx
  ·rw[eM.ag_eq,k2]
   exact ixJ0 rfl hm trivial) fun xs _ hp=>by
  have h:xs.length≤KB:=hp _ (List.mem_cons_self ..)
  show rcb_F xs=bagF xs
  unfold rcb_F bagF
  rcases rcb_q1_eq xs h with ⟨h1,h2,h3⟩ | ⟨h1,h2⟩
  ·rw[h1,h2,h3];rfl
  ·rw[h1]
   have e:(rcb_q1 xs).1=.exit 0:=by rw[h2]
   rw[e]
   show (bif false then _ else _)=_
   rw[cond_false,cond_false]
   rcases rcb_q2_eq xs h h2 with ⟨k1,k2,k3⟩ | ⟨k1,k2⟩
   ·rw[k1,k2,k3];rfl
   ·rw[k1,k2];rfl
theorem bag_zero {xs:List Many} (hl:xs.length≤KB) (h:bagF xs=0):(∀ v∈xs,chkR v.r=0)∧∀ (n:Nat) (a b:Many),xs[n]?=some a→xs[n+1]?=some b→rlt a.r b.r:=by
 unfold bagF at h
 cases h1:xs.any (fun v=>chkR v.r != (0:Int)) with
 | true=>rw[h1] at h;cases h
 | false=>
  rw[h1,cond_false] at h
  cases h2:(List.range xs.length).any (fun j=>bagBad xs (j:Int) (xs.getD j eM.dflt)) with
  | true=>rw[h2] at h;cases h
  | false=>
   refine ⟨fun v hv=>?_,fun n a b ha hb=>?_⟩
   ·rcases chkR_two v.r with e | e
    ·exact e
    ·have:xs.any (fun v=>chkR v.r != (0:Int))=true:=List.any_eq_true.2 ⟨v,hv,by rw[e];rfl⟩
     rw[h1] at this;cases this
   ·obtain ⟨hn,hb'⟩:=List.getElem?_eq_some_iff.1 hb
    by_cases hr:rlt a.r b.r
    ·exact hr
    exfalso
    have hk:bagBad xs ((n+1:Nat):Int) b=true:=by
     unfold bagBad
     have e1:decide (((n+1:Nat):Int) > 0)=true:=decide_eq_true (by omega)
     have e2:(IntKind.i64.wrap (((n+1:Nat):Int) - 1)).toNat=n:=by
      unfold KB at hl
      rw[wrS (by omega)]
      omega
     have e3:decide (cmpR (xs.getD (IntKind.i64.wrap (((n+1:Nat):Int) - 1)).toNat eM.dflt).r b.r≥0)=true:=by
      rw[e2,List.getD_eq_getElem?_getD,ha,Option.getD_some]
      refine decide_eq_true ?_
      unfold cmpR
      rw[if_neg hr]
      split <;> decide
     rw[e1,e3]
     simp
    have:=bag_hit hb hk
    rw[h2] at this
    cases this
end Go.Proofs.YtmegbepjdololaaDoor

namespace Go.Proofs.YtmegbepjdololaaDoor
open Go.RowKit Go.Sx
set_option maxRecDepth 100000
set_option linter.unusedVariables false
noncomputable def tabO9:MTab Tryd.prog:=(tabO8.cons 35 (pconP aLM dI bagF (fun g=>[g.length≤KB])) (conP_ok cbb_ok puI)).cons 36 (pconP aLM dI bagF (fun g=>[g.length≤KB])) (conP_ok rcb_ok puI)
abbrev rbb_G:Type:=List Rec×Int×List Many
noncomputable def rbb_LP:LP 0 rbb_G:=.pair (.slot 0 0 dLR) (.pair (.slot 0 7 dI) (.slot 0 6 dLM))
noncomputable def rbb_R (xs:List Rec) (i:Int) (o:List Many):Ex×rbb_G:=
 bif decide (i<(↑xs.length:Int)) then (Ex.normal,eR.ag xs,IntKind.i64.wrap (i+(1:Int)),eM.ag (putL (xs.getD i.toNat eR.dflt) (1:Int) (eM.ag o)))
 else (Ex.exit (2:Nat),eR.ag xs,i,eM.ag o)
def rbb_side (xs:List Rec) (i:Int) (o:List Many):Prop:=
 (decide (i<(↑xs.length:Int))=true→((0:Int)≤i∧i<(↑xs.length:Int))∧eM.okL o∧(eM.ag o).length≤(4000000:Nat)∧eR.okL xs∧eM.okL (putL (xs.getD i.toNat eR.dflt) (1:Int) (eM.ag o)))∧(decide (i<(↑xs.length:Int))=false→eR.okL xs∧eM.okL o)
theorem rbb_one:((loopsOf Tryd.prog 25).filter fun c=>Nat.beq (lkey c) 9).length=1:=by kernel_rfl
abbrev rbb_GC:Type:=List Rec
abbrev rbb_GB:Type:=List Many
def rbb_f (g:rbb_G):Int×rbb_GC×rbb_GB:=(g.2.1,g.1,g.2.2)
def rbb_g (d:Int×rbb_GC×rbb_GB):rbb_G:=(d.2.1,d.1,d.2.2)
theorem rbb_es (g:rbb_G):(rbb_R g.1 g.2.1 g.2.2).1=.normal∨(rbb_R g.1 g.2.1 g.2.2).1∈([.exit 2]:List Ex):=by
 unfold rbb_R
 repeat' (first | (left;rfl) | (right;simp only[cond_true,cond_false];simp;done) | (rw[Bool.cond_eq_ite];split))
noncomputable abbrev rbb_C (Inv:rbb_G→List Prop) (m:rbb_G→Nat):LCon:=loopR [.exit 2] (loopBody Tryd.prog 25 9) rbb_LP [] 41 Inv (fun g=>rbb_R g.1 g.2.1 g.2.2) m
theorem rbb_loop (Inv:rbb_G→List Prop) (m:rbb_G→Nat) (hs:∀ g,allP (Inv g)→rbb_side g.1 g.2.1 g.2.2) (hg:Goes (fun g:rbb_G=>rbb_R g.1 g.2.1 g.2.2) m fun g=>allP (Inv g)):∀ b∈loopsOf Tryd.prog 25,lkey b=9→LoopOk Tryd.prog b (rbb_C Inv m).g:=loop_run (Γ:=(MTab.gamz tabO9 [] [])) (Λ:=noΛ) (MTab.okz tabO9 [] []) noΛ_ok 100 25 9 41 rbb_LP [] Inv (fun g=>rbb_R g.1 g.2.1 g.2.2) (fun g=>rbb_side g.1 g.2.1 g.2.2) m default [.exit 2] rbb_one (fun rd T B HL HB ds g=>by kernel_rfl) (fun rd T B HL HB ds g=>by kernel_rfl) hs hg rbb_es
abbrev rsa_G:Type:=List Many×Int×List Many
noncomputable def rsa_LP:LP 0 rsa_G:=.pair (.slot 0 0 dLM) (.pair (.slot 0 9 dI) (.slot 0 8 dLM))
noncomputable def rsa_R (xs:List Many) (i:Int) (o:List Many):Ex×rsa_G:=
 bif decide (i<(↑xs.length:Int)) then (Ex.normal,eM.ag xs,IntKind.i64.wrap (i+(1:Int)),eM.ag (putL (xs.getD i.toNat eM.dflt).r (xs.getD i.toNat eM.dflt).n (eM.ag o)))
 else (Ex.exit (0:Nat),eM.ag xs,i,eM.ag o)
def rsa_side (xs:List Many) (i:Int) (o:List Many):Prop:=
 (decide (i<(↑xs.length:Int))=true→((0:Int)≤i∧i<(↑xs.length:Int))∧((0:Int)≤i∧i<(↑xs.length:Int))∧eM.okL o∧(eM.ag o).length≤(4000000:Nat)∧eM.okL xs∧eM.okL (putL (xs.getD i.toNat eM.dflt).r (xs.getD i.toNat eM.dflt).n (eM.ag o)))∧(decide (i<(↑xs.length:Int))=false→eM.okL xs∧eM.okL o)
theorem rsa_one:((loopsOf Tryd.prog 34).filter fun c=>Nat.beq (lkey c) 9).length=1:=by kernel_rfl
abbrev rsa_GC:Type:=List Many
abbrev rsa_GB:Type:=List Many
def rsa_f (g:rsa_G):Int×rsa_GC×rsa_GB:=(g.2.1,g.1,g.2.2)
def rsa_g (d:Int×rsa_GC×rsa_GB):rsa_G:=(d.2.1,d.1,d.2.2)
theorem rsa_es (g:rsa_G):(rsa_R g.1 g.2.1 g.2.2).1=.normal∨(rsa_R g.1 g.2.1 g.2.2).1∈([.exit 0]:List Ex):=by
 unfold rsa_R
 repeat' (first | (left;rfl) | (right;simp only[cond_true,cond_false];simp;done) | (rw[Bool.cond_eq_ite];split))
noncomputable abbrev rsa_C (Inv:rsa_G→List Prop) (m:rsa_G→Nat):LCon:=loopR [.exit 0] (loopBody Tryd.prog 34 9) rsa_LP [] 64 Inv (fun g=>rsa_R g.1 g.2.1 g.2.2) m
theorem rsa_loop (Inv:rsa_G→List Prop) (m:rsa_G→Nat) (hs:∀ g,allP (Inv g)→rsa_side g.1 g.2.1 g.2.2) (hg:Goes (fun g:rsa_G=>rsa_R g.1 g.2.1 g.2.2) m fun g=>allP (Inv g)):∀ b∈loopsOf Tryd.prog 34,lkey b=9→LoopOk Tryd.prog b (rsa_C Inv m).g:=loop_run (Γ:=(MTab.gamz tabO9 [] [])) (Λ:=noΛ) (MTab.okz tabO9 [] []) noΛ_ok 100 34 9 64 rsa_LP [] Inv (fun g=>rsa_R g.1 g.2.1 g.2.2) (fun g=>rsa_side g.1 g.2.1 g.2.2) m default [.exit 0] rsa_one (fun rd T B HL HB ds g=>by kernel_rfl) (fun rd T B HL HB ds g=>by kernel_rfl) hs hg rsa_es
abbrev rsb_G:Type:=List Many×Int×List Many
noncomputable def rsb_LP:LP 0 rsb_G:=.pair (.slot 0 1 dLM) (.pair (.slot 0 10 dI) (.slot 0 8 dLM))
noncomputable def rsb_R (xs:List Many) (i:Int) (o:List Many):Ex×rsb_G:=
 bif decide (i<(↑xs.length:Int)) then (Ex.normal,eM.ag xs,IntKind.i64.wrap (i+(1:Int)),eM.ag (putL (xs.getD i.toNat eM.dflt).r (xs.getD i.toNat eM.dflt).n (eM.ag o)))
 else (Ex.exit (2:Nat),eM.ag xs,i,eM.ag o)
def rsb_side (xs:List Many) (i:Int) (o:List Many):Prop:=
 (decide (i<(↑xs.length:Int))=true→((0:Int)≤i∧i<(↑xs.length:Int))∧((0:Int)≤i∧i<(↑xs.length:Int))∧eM.okL o∧(eM.ag o).length≤(4000000:Nat)∧eM.okL xs∧eM.okL (putL (xs.getD i.toNat eM.dflt).r (xs.getD i.toNat eM.dflt).n (eM.ag o)))∧(decide (i<(↑xs.length:Int))=false→eM.okL xs∧eM.okL o)
theorem rsb_one:((loopsOf Tryd.prog 34).filter fun c=>Nat.beq (lkey c) 13).length=1:=by kernel_rfl
abbrev rsb_GC:Type:=List Many
abbrev rsb_GB:Type:=List Many
def rsb_f (g:rsb_G):Int×rsb_GC×rsb_GB:=(g.2.1,g.1,g.2.2)
def rsb_g (d:Int×rsb_GC×rsb_GB):rsb_G:=(d.2.1,d.1,d.2.2)
theorem rsb_es (g:rsb_G):(rsb_R g.1 g.2.1 g.2.2).1=.normal∨(rsb_R g.1 g.2.1 g.2.2).1∈([.exit 2]:List Ex):=by
 unfold rsb_R
 repeat' (first | (left;rfl) | (right;simp only[cond_true,cond_false];simp;done) | (rw[Bool.cond_eq_ite];split))
noncomputable abbrev rsb_C (Inv:rsb_G→List Prop) (m:rsb_G→Nat):LCon:=loopR [.exit 2] (loopBody Tryd.prog 34 13) rsb_LP [] 64 Inv (fun g=>rsb_R g.1 g.2.1 g.2.2) m
theorem rsb_loop (Inv:rsb_G→List Prop) (m:rsb_G→Nat) (hs:∀ g,allP (Inv g)→rsb_side g.1 g.2.1 g.2.2) (hg:Goes (fun g:rsb_G=>rsb_R g.1 g.2.1 g.2.2) m fun g=>allP (Inv g)):∀ b∈loopsOf Tryd.prog 34,lkey b=13→LoopOk Tryd.prog b (rsb_C Inv m).g:=loop_run (Γ:=(MTab.gamz tabO9 [] [])) (Λ:=noΛ) (MTab.okz tabO9 [] []) noΛ_ok 100 34 13 64 rsb_LP [] Inv (fun g=>rsb_R g.1 g.2.1 g.2.2) (fun g=>rsb_side g.1 g.2.1 g.2.2) m default [.exit 2] rsb_one (fun rd T B HL HB ds g=>by kernel_rfl) (fun rd T B HL HB ds g=>by kernel_rfl) hs hg rsb_es
end Go.Proofs.YtmegbepjdololaaDoor

namespace Go.Proofs.YtmegbepjdololaaDoor
open Go.RowKit Go.Sx Go.Lp
set_option maxRecDepth 100000
def puf (b:Bool×List Many):Nat:=b.2.length+(bif b.1 then 0 else 1)
theorem puf_step (r:Rec) (n:Int) (b:Bool×List Many) (v:Many):puf (puStep r n b v)≤puf b+1:=by
 unfold puf puStep
 obtain ⟨d,o⟩:=b
 cases d <;> cases decide (cmpR r v.r<0) <;> cases cmpR r v.r==0 <;> simp
theorem putL_len (r:Rec) (n:Int) (l:List Many):(putL r n l).length≤l.length+1:=by
 have key:∀ (l:List Many) (b:Bool×List Many),puf (l.foldl (puStep r n) b)≤puf b+l.length:=by
  intro l
  induction l with
  | nil=>intro b;exact Nat.le_refl _
  | cons a l ih=>
   intro b
   have h1:=ih (puStep r n b a)
   have h2:=puf_step r n b a
   rw[List.foldl_cons,List.length_cons]
   omega
 have h:=key l (false,[])
 have h0:puf (false,[])=1:=rfl
 rw[h0] at h
 unfold putL
 unfold puf at h
 generalize l.foldl (puStep r n) (false,[])=b at h ⊢
 obtain ⟨d,o⟩:=b
 cases d with
 | true=>simp only[cond_true,Bool.not_true,cond_false] at h ⊢;omega
 | false=>simp only[cond_false,Bool.not_false,cond_true,List.length_append,List.length_cons,List.length_nil] at h ⊢;omega
def putM (o:List Many) (v:Many):List Many:=putL v.r v.n o
noncomputable def rbb_S (_:rbb_GC) (b:rbb_GB) (_:Int) (v:Rec):Ex×rbb_GB:=(.normal,putL v 1 b)
def rbb_K (c:rbb_GC) (b:rbb_GB) (i:Int):Prop:=c.length≤2000000∧(List.length b:Int)≤i
abbrev rbb_I (g:rbb_G):List Prop:=ixI (fun c:rbb_GC=>(List.length c:Int)) (fun c=>c) rbb_K (rbb_f g)
abbrev rbb_M (g:rbb_G):Nat:=ixM (fun c:rbb_GC=>(List.length c:Int)) (rbb_f g)
theorem rbb_P:ixP rbb_S (fun c:rbb_GC=>c) rbb_K:=fun c b i a h _ _=>⟨h.1,by
 have:=h.2
 have hl:=putL_len a 1 b
 show ((putL a 1 b).length:Int)≤_
 omega⟩
noncomputable abbrev rbb_RR (g:rbb_G):Ex×rbb_G:=rbb_R g.1 g.2.1 g.2.2
theorem rbb_RF (d:Int×rbb_GC×rbb_GB) (_:allP (ixI (fun c:rbb_GC=>(List.length c:Int)) (fun c=>c) rbb_K d)):rbb_RR (rbb_g d)=((ixF 2 (fun c:rbb_GC=>(List.length c:Int)) (fun c=>c) eR.dflt rbb_S d).1,rbb_g (ixF 2 (fun c:rbb_GC=>(List.length c:Int)) (fun c=>c) eR.dflt rbb_S d).2):=by
 obtain ⟨i,xs,o⟩:=d
 show rbb_R xs i o=_
 unfold rbb_R ixF rbb_S
 simp only[El.ag_eq]
 cases decide (i<(List.length xs:Int)) <;> rfl
theorem rbb_ok:∀ b∈loopsOf Tryd.prog 25,lkey b=9→LoopOk Tryd.prog b (rbb_C rbb_I rbb_M).g:=by
 refine rbb_loop rbb_I rbb_M (fun g hi=>?_) (ix_conj_goes (fun _=>rfl) (fun _=>rfl) rbb_RF rbb_P)
 obtain ⟨xs,i,o⟩:=g
 obtain ⟨h1,h2,h3,h4,h5,h6⟩:=hi _ (List.mem_cons_self ..)
 have h3:0≤i:=h3
 have h4:i≤(xs.length:Int):=h4
 have h5:xs.length≤2000000:=h5
 have h6:(o.length:Int)≤i:=h6
 show rbb_side xs i o
 unfold rbb_side
 simp only[El.okL_eq,El.ag_eq,decide_eq_true_eq,decide_eq_false_iff_not]
 refine ⟨fun hlt=>⟨⟨h3,hlt⟩,trivial,by omega,trivial,trivial⟩,fun _=>⟨trivial,trivial⟩⟩
noncomputable def rsa_S (_:rsa_GC) (b:rsa_GB) (_:Int) (v:Many):Ex×rsa_GB:=(.normal,putM b v)
def rsa_K (c:rsa_GC) (b:rsa_GB) (i:Int):Prop:=c.length≤1500000∧(List.length b:Int)≤1500000+i
abbrev rsa_I (g:rsa_G):List Prop:=ixI (fun c:rsa_GC=>(List.length c:Int)) (fun c=>c) rsa_K (rsa_f g)
abbrev rsa_M (g:rsa_G):Nat:=ixM (fun c:rsa_GC=>(List.length c:Int)) (rsa_f g)
theorem rsa_P:ixP rsa_S (fun c:rsa_GC=>c) rsa_K:=fun c b i a h _ _=>⟨h.1,by
 have:=h.2
 have hl:=putL_len a.r a.n b
 show ((putL a.r a.n b).length:Int)≤_
 omega⟩
noncomputable abbrev rsa_RR (g:rsa_G):Ex×rsa_G:=rsa_R g.1 g.2.1 g.2.2
theorem rsa_RF (d:Int×rsa_GC×rsa_GB) (_:allP (ixI (fun c:rsa_GC=>(List.length c:Int)) (fun c=>c) rsa_K d)):rsa_RR (rsa_g d)=((ixF 0 (fun c:rsa_GC=>(List.length c:Int)) (fun c=>c) eM.dflt rsa_S d).1,rsa_g (ixF 0 (fun c:rsa_GC=>(List.length c:Int)) (fun c=>c) eM.dflt rsa_S d).2):=by
 obtain ⟨i,xs,o⟩:=d
 show rsa_R xs i o=_
 unfold rsa_R ixF rsa_S putM
 simp only[El.ag_eq]
 cases decide (i<(List.length xs:Int)) <;> rfl
theorem rsa_ok:∀ b∈loopsOf Tryd.prog 34,lkey b=9→LoopOk Tryd.prog b (rsa_C rsa_I rsa_M).g:=by
 refine rsa_loop rsa_I rsa_M (fun g hi=>?_) (ix_conj_goes (fun _=>rfl) (fun _=>rfl) rsa_RF rsa_P)
 obtain ⟨xs,i,o⟩:=g
 obtain ⟨h1,h2,h3,h4,h5,h6⟩:=hi _ (List.mem_cons_self ..)
 have h3:0≤i:=h3
 have h4:i≤(xs.length:Int):=h4
 have h5:xs.length≤1500000:=h5
 have h6:(o.length:Int)≤1500000+i:=h6
 show rsa_side xs i o
 unfold rsa_side
 simp only[El.okL_eq,El.ag_eq,decide_eq_true_eq,decide_eq_false_iff_not]
 refine ⟨fun hlt=>⟨⟨h3,hlt⟩,⟨h3,hlt⟩,trivial,by omega,trivial,trivial⟩,fun _=>⟨trivial,trivial⟩⟩
noncomputable def rsb_S (_:rsb_GC) (b:rsb_GB) (_:Int) (v:Many):Ex×rsb_GB:=(.normal,putM b v)
def rsb_K (c:rsb_GC) (b:rsb_GB) (i:Int):Prop:=c.length≤1500000∧(List.length b:Int)≤1500000+i
abbrev rsb_I (g:rsb_G):List Prop:=ixI (fun c:rsb_GC=>(List.length c:Int)) (fun c=>c) rsb_K (rsb_f g)
abbrev rsb_M (g:rsb_G):Nat:=ixM (fun c:rsb_GC=>(List.length c:Int)) (rsb_f g)
theorem rsb_P:ixP rsb_S (fun c:rsb_GC=>c) rsb_K:=fun c b i a h _ _=>⟨h.1,by
 have:=h.2
 have hl:=putL_len a.r a.n b
 show ((putL a.r a.n b).length:Int)≤_
 omega⟩
noncomputable abbrev rsb_RR (g:rsb_G):Ex×rsb_G:=rsb_R g.1 g.2.1 g.2.2
theorem rsb_RF (d:Int×rsb_GC×rsb_GB) (_:allP (ixI (fun c:rsb_GC=>(List.length c:Int)) (fun c=>c) rsb_K d)):rsb_RR (rsb_g d)=((ixF 2 (fun c:rsb_GC=>(List.length c:Int)) (fun c=>c) eM.dflt rsb_S d).1,rsb_g (ixF 2 (fun c:rsb_GC=>(List.length c:Int)) (fun c=>c) eM.dflt rsb_S d).2):=by
 obtain ⟨i,xs,o⟩:=d
 show rsb_R xs i o=_
 unfold rsb_R ixF rsb_S putM
 simp only[El.ag_eq]
 cases decide (i<(List.length xs:Int)) <;> rfl
theorem rsb_ok:∀ b∈loopsOf Tryd.prog 34,lkey b=13→LoopOk Tryd.prog b (rsb_C rsb_I rsb_M).g:=by
 refine rsb_loop rsb_I rsb_M (fun g hi=>?_) (ix_conj_goes (fun _=>rfl) (fun _=>rfl) rsb_RF rsb_P)
 obtain ⟨xs,i,o⟩:=g
 obtain ⟨h1,h2,h3,h4,h5,h6⟩:=hi _ (List.mem_cons_self ..)
 have h3:0≤i:=h3
 have h4:i≤(xs.length:Int):=h4
 have h5:xs.length≤1500000:=h5
 have h6:(o.length:Int)≤1500000+i:=h6
 show rsb_side xs i o
 unfold rsb_side
 simp only[El.okL_eq,El.ag_eq,decide_eq_true_eq,decide_eq_false_iff_not]
 refine ⟨fun hlt=>⟨⟨h3,hlt⟩,⟨h3,hlt⟩,trivial,by omega,trivial,trivial⟩,fun _=>⟨trivial,trivial⟩⟩
noncomputable def ltO10:LTab Tryd.prog:=((ltO3.cons 25 9 (rbb_C rbb_I rbb_M) rbb_ok).cons 34 9 (rsa_C rsa_I rsa_M) rsa_ok).cons 34 13 (rsb_C rsb_I rsb_M) rsb_ok
noncomputable abbrev lamO10:Lam:=ltO10.lam
theorem lamO10_ok:∀ f k L,lamO10 f k=some L→∀ b∈loopsOf Tryd.prog f,lkey b=k→LoopOk Tryd.prog b L.g:=ltO10.ok
end Go.Proofs.YtmegbepjdololaaDoor

namespace Go.Proofs.YtmegbepjdololaaDoor
open Go.RowKit Go.Sx
set_option maxRecDepth 100000
set_option linter.unusedVariables false
abbrev aLR1:DA (List Rec):=.one dLR
abbrev aLMM2:DA (List Many×List Many):=.cons dLM (.one dLM)
noncomputable def bgA_q1 (l:List Rec):Ex ×
 ba_G:=
 loopF (fun g=>ba_R g.fst g.snd.fst g.snd.snd.fst g.snd.snd.snd.fst g.snd.snd.snd.snd.fst g.snd.snd.snd.snd.snd.fst g.snd.snd.snd.snd.snd.snd) ba_M (eR.ag l,(↑l.length:Int),(0:Int),(),(List.map (fun x=>(Rec.mk (0:Int) (ByteArray.mk #[]),(0:Int),(0:Int))) (List.range (0:Nat)),(0:Nat)),(),(0:Int))
noncomputable def bgA_F (l:List Rec):Dv.T dLME:=
 bif exB Ex.ret (bgA_q1 l).fst then ([],(bgA_q1 l).snd.snd.snd.snd.snd.snd.snd)
 else (eM.ag (bagE (List.map d3e ((eR.ent eI).ag (bgA_q1 l).snd.snd.snd.snd.snd.fst.fst))).fst,(bagE (List.map d3e ((eR.ent eI).ag (bgA_q1 l).snd.snd.snd.snd.snd.fst.fst))).snd)
def bgA_side (l:List Rec):Prop:=
 eR.okL l∧(∀ (e:Nat),e<(0:Nat)→True)∧Lp.ixJ (fun c=>c.snd) (fun c=>c.fst) ba_K (ba_f (eR.ag l,(↑l.length:Int),(0:Int),(),(List.map (fun x=>(Rec.mk (0:Int) (ByteArray.mk #[]),(0:Int),(0:Int))) (List.range (0:Nat)),(0:Nat)),(),(0:Int)))∧(exB Ex.ret (bgA_q1 l).fst=false→(∀ (e:Nat),e<(bgA_q1 l).snd.snd.snd.snd.snd.fst.fst.length→True)∧(List.map d3e ((eR.ent eI).ag (bgA_q1 l).snd.snd.snd.snd.snd.fst.fst)).length≤(4000000:Nat)∧KdE (List.map d3e ((eR.ent eI).ag (bgA_q1 l).snd.snd.snd.snd.snd.fst.fst))∧eM.okL (bagE (List.map d3e ((eR.ent eI).ag (bgA_q1 l).snd.snd.snd.snd.snd.fst.fst))).fst)
theorem bgA_okS (pre:DA.T aLR1→List Prop) (h:∀ g,DA.bd aLR1 g→(∀ p∈pre g,p)→bgA_side g):FnPure Tryd.prog 24 aLR1 dLME (fun g=>bgA_F g) pre:=pure_of_sideS (Γ:=(MTab.gamz tabO9 [] [(32,3,3)])) (Λ:=lamO10) (MTab.okz tabO9 [] [(32,3,3)]) lamO10_ok 100 default (fun g=>bgA_side g) (fun g=>by kernel_rfl) (fun g=>by kernel_rfl) h
end Go.Proofs.YtmegbepjdololaaDoor

namespace Go.Proofs.YtmegbepjdololaaDoor
open Go.RowKit Go.Sx Go.Lp
noncomputable abbrev sumM (l:List Many) (k:Rec):Int:=sumK Many.r Many.n l k
noncomputable def totM (l:List Many):List Many:=totK Many.r Many.n Many.mk cmpR l
theorem many_ext (a b:Many) (h1:a.r=b.r) (h2:a.n=b.n):a=b:=by cases a;cases b;simp_all
theorem totM_mem (l:List Many) (y:Many):y∈totM l↔(∃ x∈l,x.r=y.r)∧y.n=sumM l y.r:=totK_mem Many.r Many.n toR (fun _ _=>rfl) (fun _ _=>rfl) many_ext l y
theorem totM_srt (l:List Many):Srt Many.r cmpR (totM l):=totK_srt Many.r Many.n toR (fun _ _=>rfl) (fun _ _=>rfl) l
def Few (l:List Many):Prop:=l.length≤1500000∧∀ x∈l,0≤x.n∧x.n≤1048576
noncomputable def mapM (l:List Many):List MEr×Nat:=l.foldl mputM ([],0)
theorem mapM_of (l:List Many):MapOf Many.r Many.n addW 0 l (mapM l):=mapOf_all Many.r Many.n addW 0 dEr l
theorem mapM_len (l:List Many):(mapM l).1.length≤l.length:=by
 have:=map_len Many.r Many.n addW 0 dEr l ([],0)
 have h0:(([],0):List MEr×Nat).1.length=0:=rfl
 rw[h0,Nat.zero_add] at this
 exact this
noncomputable def entM (l:List Many):List (Rec×Int):=(mapM l).1.map d3e
theorem entM_len (l:List Many):(entM l).length≤l.length:=by
 unfold entM
 rw[List.length_map]
 exact mapM_len l
theorem entM_kd (l:List Many):KdE (entM l):=by
 unfold entM KdE
 rw[List.pairwise_map]
 exact (mapM_of l).2.1
theorem acc_sum:∀ (l:List Many) (s:Int) (k:Rec),(∀ x∈l,0≤x.n∧x.n≤1048576)→0≤s→s+1048576 * (l.length:Int)≤9223372036854775807→(l.filter fun x=>decide (x.r=k)).foldl (fun b x=>addW b x.n) s=s+sumM l k
 | [],s,k,_,_,_=>by simp[sumM,sumK]
 | x :: l,s,k,h,h0,hs=>by
  have hx:=h x (List.mem_cons_self ..)
  rw[List.length_cons] at hs
  have hl:=fun s h0 hs=>acc_sum l s k (fun y hy=>h y (List.mem_cons_of_mem _ hy)) h0 hs
  have e:sumM (x :: l) k=(if x.r=k then x.n else 0)+sumM l k:=rfl
  rw[e]
  by_cases hk:x.r=k
  ·rw[List.filter_cons,if_pos (by simpa using hk),List.foldl_cons,if_pos hk]
   have:addW s x.n=s+x.n:=wr64 (by omega)
   rw[this,hl _ (by omega) (by omega)]
   omega
  ·rw[List.filter_cons,if_neg (by simpa using hk),if_neg hk,hl s h0 (by omega)]
   omega
theorem entM_mem {l:List Many} (h:Few l) (e:Rec×Int):e∈entM l↔(∃ x∈l,x.r=e.1)∧e.2=sumM l e.1:=by
 obtain ⟨_,hk,h1,h2⟩:=mapM_of l
 have hacc:∀ k,accK Many.r Many.n addW 0 l k=sumM l k:=fun k=>by
  unfold accK
  rw[acc_sum l 0 k h.2 (Int.le_refl _) (by have:=h.1;omega)]
  omega
 unfold entM
 rw[List.mem_map]
 constructor
 ·rintro ⟨x,hx,rfl⟩
  refine ⟨(h1 _).1 ⟨x,hx,rfl⟩,?_⟩
  show x.2.1=_
  rw[h2 x hx,hacc]
  rfl
 ·rintro ⟨hx,he⟩
  obtain ⟨x,hxm,hxk⟩:=(h1 _).2 hx
  refine ⟨x,hxm,?_⟩
  show (x.1,x.2.1)=e
  rw[h2 x hxm,hacc,hxk,← he]
noncomputable def bagT (l:List Many):List Many×Int:=bif (totM l).any (fun v=>decide (v.n > 1048576)) then ([],51) else (totM l,0)
theorem bagE_eq {l:List Many} (h:Few l):bagE (entM l)=bagT l:=by
 have hm:∀ y:Many,y∈(entM l).map mkM↔y∈totM l:=fun y=>by
  rw[List.mem_map,totM_mem]
  constructor
  ·rintro ⟨e,he,rfl⟩
   exact (entM_mem h e).1 he
  ·rintro h2
   exact ⟨(y.r,y.n),(entM_mem h (y.r,y.n)).2 h2,rfl⟩
 have hany:(entM l).any bgP=(totM l).any (fun v=>decide (v.n > 1048576)):=by
  rw[Bool.eq_iff_iff,List.any_eq_true,List.any_eq_true]
  constructor
  ·rintro ⟨e,he,hp⟩
   exact ⟨mkM e,(hm _).1 (List.mem_map.2 ⟨e,he,rfl⟩),hp⟩
  ·rintro ⟨y,hy,hp⟩
   obtain ⟨e,he,rfl⟩:=List.mem_map.1 ((hm y).2 hy)
   exact ⟨e,he,hp⟩
 have hkd:=kd_mk (entM_kd l)
 have hs:srtBy cmpM ((entM l).map mkM)=totM l:=by
  have h1:=srtBy_sorted cmpM swoM ((entM l).map mkM)
  have h2:(srtBy cmpM ((entM l).map mkM)).Pairwise fun a b=>a.r≠b.r:=(List.Perm.pairwise_iff (fun h=>Ne.symm h) (srtBy_perm cmpM _)).2 hkd
  refine srt_unique Many.r Many.n cmpR toR many_ext ?_ (totM_srt l) fun x=>?_
  ·exact (h1.and h2).imp fun {a b} h=>toR.lt_or (Ne.symm h.2) h.1
  ·rw[(srtBy_perm cmpM _).mem_iff,hm]
 unfold bagE bagT
 rw[hany,hs]
def oneM (r:Rec):Many:=⟨r,1⟩
theorem few_one {l:List Rec} (h:l.length≤1500000):Few (l.map oneM):=⟨by rw[List.length_map];exact h,fun x hx=>by
 obtain ⟨r,_,rfl⟩:=List.mem_map.1 hx
 exact ⟨by show (0:Int)≤1;decide,by show (1:Int)≤1048576;decide⟩⟩
theorem fold_oneR (l:List Rec) (m:List MEr×Nat):l.foldl mputR m=(l.map oneM).foldl mputM m:=by
 rw[List.foldl_map]
 rfl
noncomputable def bagC (l:List Rec):List Many×Int:=bif l.any (fun v=>chkR v != 0) then ([],50) else bagT (l.map oneM)
theorem bag_pos {xs:List Many} (h:bagF xs=0):∀ v∈xs,1≤v.n∧v.n≤1048576:=by
 intro v hv
 obtain ⟨n,hn⟩:=List.getElem?_of_mem hv
 unfold bagF at h
 cases h1:xs.any (fun v=>chkR v.r != (0:Int)) with
 | true=>rw[h1] at h;cases h
 | false=>
  rw[h1] at h
  cases h2:(List.range xs.length).any (fun j=>bagBad xs (j:Int) (xs.getD j eM.dflt)) with
  | true=>rw[h2] at h;cases h
  | false=>
   have hb:bagBad xs (n:Int) v=false:=by
    cases hb:bagBad xs (n:Int) v with
    | false=>rfl
    | true=>rw[bag_hit hn hb] at h2;cases h2
   unfold bagBad at hb
   simp only[Bool.or_eq_false_iff,decide_eq_false_iff_not] at hb
   omega
end Go.Proofs.YtmegbepjdololaaDoor

namespace Go.Proofs.YtmegbepjdololaaDoor
open Go.RowKit Go.Sx Go.Lp
set_option maxRecDepth 100000
theorem chk50 {r:Rec} (h:(chkR r != (0:Int))=true):chkR r=50:=by
 rcases chkR_two r with h1 | h1
 ·rw[h1] at h;cases h
 ·exact h1
theorem bgA_eq (l:List Rec) (h:l.length≤1500000):bgA_side l∧bgA_F l=bagC l:=by
 have hm:l.length≤maxLen:=Nat.le_trans h (by decide)
 have hr:=ba_run l 0 hm
 have hq:bgA_q1 l=loopF ba_RR ba_M (ba_g (0,(l,(l.length:Int)),(([],0),0))):=by
  unfold bgA_q1
  rw[El.ag_eq]
  rfl
 rw[hr] at hq
 have hJ:Lp.ixJ (fun c=>c.snd) (fun c=>c.fst) ba_K (ba_f (l,(↑l.length:Int),(0:Int),(),(List.map (fun x=>(Rec.mk (0:Int) (ByteArray.mk #[]),(0:Int),(0:Int))) (List.range (0:Nat)),(0:Nat)),(),(0:Int))):=ixJ0 rfl hm trivial
 unfold bgA_side bgA_F bagC
 simp only[El.okL_eq,El.ag_eq]
 rw[hq]
 rcases scan_bad (x:=0) (st:=ba_S (l,(l.length:Int))) (e:=.ret) (p:=fun v:Rec=>chkR v != 0) (r:=fun v b=>(b.1,chkR v)) (f:=fun b v=>(mputR b.1 v,b.2)) (by simp) (fun _ _ _=>rfl) l 0 (([],0),(0:Int)) with ⟨ha,h2,a,b',_,hp,h3⟩ | ⟨ha,h2⟩
 ·rw[ha,h2]
  have h3:(scan 0 (ba_S (l,(l.length:Int))) 0 l (([],0),0)).2.2=(b'.1,chkR a):=h3
  refine ⟨⟨trivial,fun _ _=>trivial,hJ,fun h=>(by cases h)⟩,?_⟩
  show ([],(scan 0 (ba_S (l,(l.length:Int))) 0 l (([],0),0)).2.2.2)=_
  rw[h3,chk50 hp];rfl
 ·have hf:∀ (l:List Rec) (b:ba_GB),l.foldl (fun b v=>(mputR b.1 v,b.2)) b=(l.foldl mputR b.1,b.2):=by
   intro l
   induction l with
   | nil=>intro b;rfl
   | cons a l ih=>intro b;rw[List.foldl_cons,List.foldl_cons,ih]
  rw[hf] at h2
  have h2:scan 0 (ba_S (l,(l.length:Int))) 0 l (([],0),0)=(.exit 0,0+(l.length:Int),(l.foldl mputR ([],0),0)):=h2
  rw[ha,h2,fold_oneR]
  have hl:=entM_len (l.map oneM)
  rw[List.length_map] at hl
  refine ⟨⟨trivial,fun _ _=>trivial,hJ,fun _=>⟨fun _ _=>trivial,?_,entM_kd (l.map oneM),trivial⟩⟩,?_⟩
  ·show (entM (l.map oneM)).length≤4000000
   omega
  ·show ((bagE (entM (l.map oneM))).1,(bagE (entM (l.map oneM))).2)=_
   rw[bagE_eq (few_one h)]
   rfl
theorem bgA_ok:FnPure Tryd.prog 24 aLR1 dLME bagC (fun l=>[l.length≤1500000]):=
 pure_congr (bgA_okS _ fun g _ hp=>(bgA_eq g (hp _ (List.mem_cons_self ..))).1) fun g _ hp=>(bgA_eq g (hp _ (List.mem_cons_self ..))).2
end Go.Proofs.YtmegbepjdololaaDoor
