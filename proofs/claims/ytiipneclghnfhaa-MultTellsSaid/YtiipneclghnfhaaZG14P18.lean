/- Chapter 4: told: the contract of the loop within. -/
import Derived.Test.YtiipneclghnfhaaZG13293e72
import Derived.Test.YtiipneclghnfhaaZG07f48261
import Derived.Test.YtiipneclghnfhaaZG08070cfe
import Derived.Test.YtiipneclghnfhaaZG118dcac6
set_option linter.unusedVariables false
set_option linter.unusedSimpArgs false
set_option linter.constructorNameAsVariable false
set_option linter.all false

namespace Go.Proofs.Ytiipneclghnfhaa
open Go.RowKit Go.Sx Go.Lp
noncomputable def tl_S (c:tl_GC) (b:tl_GB) (_:Int) (a:Y):Ex×tl_GB:=bif decide ((List.length b.2.1:Int)≥c.2.2) then (.ret,(),b.2.1,.done,some (.exit 0)) else (.normal,(),b.2.1++[a],.ready,none)
def tl_K (c:tl_GC) (b:tl_GB) (i:Int):Prop:=b.2.2=(LoopState.ready,(none:Option Code))∧(List.length b.2.1:Int)≤i∧List.length c.1≤1000000
abbrev tl_I (g:tl_G):List Prop:=ixI (fun c:tl_GC=>c.2.1) (fun c=>c.1) tl_K (tl_f g)
abbrev tl_M (g:tl_G):Nat:=ixM (fun c:tl_GC=>c.2.1) (tl_f g)
theorem tl_P:ixP tl_S (fun c:tl_GC=>c.1) tl_K:=by
 rintro ⟨xs,n,m⟩ ⟨⟨⟩,out,st,pd⟩ i a ⟨h1,h2,h3⟩ _ hn
 unfold tl_S at hn ⊢
 simp only at hn h2 ⊢
 cases hc:decide ((out.length:Int)≥m) with
 | true=>rw[hc] at hn;cases hn
 | false=>
  refine ⟨rfl,?_,h3⟩
  simp only[cond_false,List.length_append,List.length_cons,List.length_nil]
  omega
noncomputable abbrev tl_RR (g:tl_G):Ex×tl_G:=tl_R g.1 g.2.1 g.2.2.1 g.2.2.2.1 g.2.2.2.2.1 g.2.2.2.2.2.1
theorem tl_RF (d:Int×tl_GC×tl_GB) (hi:allP (ixI (fun c:tl_GC=>c.2.1) (fun c=>c.1) tl_K d)):tl_RR (tl_g d)=((ixF 0 (fun c:tl_GC=>c.2.1) (fun c=>c.1) eY.dflt tl_S d).1,tl_g (ixF 0 (fun c:tl_GC=>c.2.1) (fun c=>c.1) eY.dflt tl_S d).2):=by
 have hb:=(hi _ (List.mem_cons_self ..)).2.2.2.2.1
 obtain ⟨i,⟨xs,n,m⟩,⟨⟨⟩,out,f⟩⟩:=d
 have hb:f=(LoopState.ready,(none:Option Code)):=hb
 subst hb
 show tl_R xs n i () m out=_
 unfold tl_R ixF tl_S
 simp only[El.ag_eq,eY.lst_els,lst_snoc]
 cases decide (i<n) with
 | false=>rfl
 | true=>cases decide ((out.length:Int)≥m) <;> rfl
theorem tl_ok:∀ b∈loopsOf Try.prog 98,lkey b=1→LoopOk Try.prog b (tl_C tl_I tl_M).g:=by
 refine tl_loop tl_I tl_M (fun g hi=>?_) (fun g hi=>?_) (ix_conj_goes (fun _=>rfl) (fun _=>rfl) tl_RF tl_P)
 ·obtain ⟨xs,n,i,⟨⟩,m,out,st,pd⟩:=g
  obtain ⟨h1,h2,h3,h4,h5,h6,h7⟩:=hi _ (List.mem_cons_self ..)
  have h7:xs.length≤1000000:=h7
  have h1:n=(xs.length:Int):=h1
  have h3:0≤i:=h3
  have h4:i≤(xs.length:Int):=h4
  have h6:(out.length:Int)≤i:=h6
  show tl_side xs n i () m out
  unfold tl_side
  simp only[bytesY,decide_eq_true_eq,decide_eq_false_iff_not,El.okL_eq]
  have ha:=okY xs
  clear hi h2
  have ml:2000000≤maxLen:=by unfold maxLen;decide
  repeat' (first | with_reducible exact ha | exact rfl | apply And.intro | intro _)
  all_goals (first | trivial | omega)
 ·obtain ⟨xs,n,i,⟨⟩,m,out,st,pd⟩:=g
  have h5:=(hi _ (List.mem_cons_self ..)).2.2.2.2.1
  have h5:(st,pd)=(LoopState.ready,(none:Option Code)):=h5
  cases h5
  rfl
theorem tl_scan (c:tl_GC):∀ (l:List Y) (i:Int) (out:List Y),(scan 0 (tl_S c) i l (((),out,.ready,none):tl_GB)).2.2.2.1=bif decide (c.2.2≤(out.length:Int)) then out else (out++l).take c.2.2.toNat
 | [],i,out=>by
  simp only[scan,List.append_nil]
  cases hc:decide (c.2.2≤(out.length:Int)) with
  | true=>rfl
  | false=>
   have:=of_decide_eq_false hc
   rw[List.take_of_length_le (by omega)];rfl
 | a :: l,i,out=>by
  simp only[scan,tl_S,ge_iff_le]
  cases hc:decide (c.2.2≤(out.length:Int)) with
  | true=>rfl
  | false=>
   have hc:=of_decide_eq_false hc
   simp only[cond_false]
   rw[tl_scan c l (i+1) (out++[a])]
   cases hd:decide (c.2.2≤((out++[a]).length:Int)) with
   | true=>
    have hd:=of_decide_eq_true hd
    simp only[List.length_append,List.length_cons,List.length_nil] at hd
    have e:c.2.2.toNat=out.length+1:=by omega
    simp only[cond_true]
    rw[e,show out++a :: l=(out++[a])++l by simp,List.take_append_of_le_length (by simp),List.take_of_length_le (by simp)]
   | false=>simp
theorem tl_run (xs:List Y) (m:Int) (h':xs.length≤1000000):loopF tl_RR tl_M (xs,(xs.length:Int),0,(),m,[],.ready,none) =
  ((scan 0 (tl_S (xs,(xs.length:Int),m)) 0 xs ((),[],.ready,none)).1,tl_g ((scan 0 (tl_S (xs,(xs.length:Int),m)) 0 xs ((),[],.ready,none)).2.1,(xs,(xs.length:Int),m),(scan 0 (tl_S (xs,(xs.length:Int),m)) 0 xs ((),[],.ready,none)).2.2)):=
 ix_conj_run (φ:=tl_f) (ψ:=tl_g) (fun _=>rfl) (fun _=>rfl) tl_RF tl_P (xs,(xs.length:Int),m) ((),[],.ready,none) rfl (Nat.le_trans h' (by unfold maxLen;decide)) ⟨rfl,Int.le_refl _,h'⟩
theorem tl_ix (xs:List Y) (m:Int) (h:xs.length≤1000000):ixJ (fun c:tl_GC=>c.2.1) (fun c=>c.1) tl_K (0,(xs,(xs.length:Int),m),((),[],.ready,none)):=ixJ0 rfl (Nat.le_trans h (by unfold maxLen;decide)) ⟨rfl,Int.le_refl _,h⟩
noncomputable def ltU46:LTab Try.prog:=ltU18.cons 98 1 (tl_C tl_I tl_M) tl_ok
noncomputable abbrev lamU46:Lam:=ltU46.lam
theorem lamU46_ok:∀ f k L,lamU46 f k=some L→∀ b∈loopsOf Try.prog f,lkey b=k→LoopOk Try.prog b L.g:=ltU46.ok
end Go.Proofs.Ytiipneclghnfhaa

namespace Go.Proofs.Ytiipneclghnfhaa
open Go.RowKit Go.Sx
set_option maxRecDepth 100000
set_option linter.unusedVariables false
abbrev dFtY:Dv (List Y):=dFn1 98 dLY
abbrev aToY:DA (List Y×Int):=.cons dFtY (.one dI)
abbrev rLYt:Rv (List Y):=.list eY
noncomputable def told_q1 (xs:List Y) (m:Int):Ex ×
 tl_G:=
 loopF (fun g=>tl_R g.fst g.snd.fst g.snd.snd.fst g.snd.snd.snd.fst g.snd.snd.snd.snd.fst g.snd.snd.snd.snd.snd.fst) tl_M (eY.ag xs,(↑xs.length:Int),(0:Int),(),m,[],LoopState.ready,none)
noncomputable def told_F (xs:List Y) (m:Int):Rv.T rLYt:=
 bif exB Ex.ret (told_q1 xs m).fst then eY.lst (bif exB Ex.ret (told_q1 xs m).fst then (told_q1 xs m).snd.snd.snd.snd.snd.snd.fst.length else (told_q1 xs m).snd.snd.snd.snd.snd.snd.fst.length) (eY.els (told_q1 xs m).snd.snd.snd.snd.snd.snd.fst)
 else eY.lst (bif exB Ex.ret (told_q1 xs m).fst then (told_q1 xs m).snd.snd.snd.snd.snd.snd.fst.length else (told_q1 xs m).snd.snd.snd.snd.snd.snd.fst.length) (eY.els (told_q1 xs m).snd.snd.snd.snd.snd.snd.fst)
def told_side (xs:List Y) (m:Int):Prop:=
 eY.okL xs∧CodeIs (rangeOf Try.prog (48:Nat) (0:Nat)).snd.fst (rangeOf Try.prog (48:Nat) (0:Nat)).snd.fst∧CodeIs (rangeOf Try.prog (48:Nat) (0:Nat)).snd.snd (rangeOf Try.prog (48:Nat) (0:Nat)).snd.snd∧Lp.ixJ (fun c=>c.snd.fst) (fun c=>c.fst) tl_K (tl_f (eY.ag xs,(↑xs.length:Int),(0:Int),(),m,[],LoopState.ready,none))∧((bif exB Ex.ret (told_q1 xs m).fst then (told_q1 xs m).snd.snd.snd.snd.snd.snd.fst.length else (told_q1 xs m).snd.snd.snd.snd.snd.snd.fst.length)≤bif exB Ex.ret (told_q1 xs m).fst then (told_q1 xs m).snd.snd.snd.snd.snd.snd.fst.length else (told_q1 xs m).snd.snd.snd.snd.snd.snd.fst.length)∧(∀ (e:Nat),(e<bif exB Ex.ret (told_q1 xs m).fst then (told_q1 xs m).snd.snd.snd.snd.snd.snd.fst.length else (told_q1 xs m).snd.snd.snd.snd.snd.snd.fst.length)→True)∧∀ (e:Nat),(e<bif exB Ex.ret (told_q1 xs m).fst then (told_q1 xs m).snd.snd.snd.snd.snd.snd.fst.length else (told_q1 xs m).snd.snd.snd.snd.snd.snd.fst.length)→True
theorem told_okS (pre:DA.T aToY→List Prop) (h:∀ g,DA.bd aToY g→(∀ p∈pre g,p)→told_side g.1 g.2):FnPure Try.prog 48 aToY (Rv.D rLYt) (fun g=>told_F g.1 g.2) pre:=res_of_side (R:=rLYt) (Γ:=(MTab.gamz tabU31 [] [])) (Λ:=lamU46) (MTab.okz tabU31 [] []) lamU46_ok 100 default (fun g=>told_side g.1 g.2) (fun g=>by kernel_rfl) (fun g=>by kernel_rfl) h
end Go.Proofs.Ytiipneclghnfhaa

namespace Go.Proofs.Ytiipneclghnfhaa
open Go.RowKit Go.Sx Go.Lp
theorem told_q (l:List Y) (m:Int) (h:l.length≤1000000):(told_q1 l m).2.2.2.2.2.2.1=l.take m.toNat:=by
 unfold told_q1
 simp only[El.ag_eq]
 have h1:=tl_run l m h
 have h2:loopF (fun g:tl_G=>tl_R g.1 g.2.1 g.2.2.1 g.2.2.2.1 g.2.2.2.2.1 g.2.2.2.2.2.1) tl_M (l,(l.length:Int),0,(),m,[],.ready,none)=_:=h1
 rw[h2]
 have h3:=tl_scan (l,(l.length:Int),m) l 0 []
 show (scan 0 (tl_S (l,(l.length:Int),m)) 0 l ((),[],.ready,none)).2.2.2.1=_
 rw[h3]
 cases hc:decide (m≤(([]:List Y).length:Int)) with
 | true=>
  have:=of_decide_eq_true hc
  simp only[List.length_nil] at this
  rw[show m.toNat=0 by omega];rfl
 | false=>rfl
theorem told_ok:FnPure Try.prog 48 aToY dLY (fun g=>g.1.take g.2.toNat) (fun g=>[g.1.length≤KS]):=by
 have h:=told_okS (fun g=>[g.1.length≤KS]) fun g hb hp=>by
  obtain ⟨l,m⟩:=g
  have hl:l.length≤KS:=hp _ (List.mem_cons_self ..)
  show told_side l m
  unfold told_side
  simp only[El.ag_eq,El.okL_eq,true_and]
  refine ⟨rfl,rfl,tl_ix l m hl,Nat.le_refl _,fun _ _=>trivial,fun _ _=>trivial⟩
 refine pure_congr h fun g _ hp=>?_
 obtain ⟨l,m⟩:=g
 have hl:l.length≤KS:=hp _ (List.mem_cons_self ..)
 show told_F l m=l.take m.toNat
 unfold told_F
 rw[told_q l m hl]
 cases exB Ex.ret (told_q1 l m).1 <;> simp only[cond_true,cond_false,eY.lst_els]
noncomputable def tabU48:MTab Try.prog:=tabU31.cons 48 (pconR aToY dLY (fun g=>g.1.take g.2.toNat) (fun g=>[g.1.length≤KS])) (conR_ok told_ok)
end Go.Proofs.Ytiipneclghnfhaa

namespace Go.Proofs.Ytiipneclghnfhaa
open Go.RowKit Go.Sx
set_option maxRecDepth 100000
set_option linter.unusedVariables false
abbrev aLYTI:DA (List Y×T×Int):=.cons dLY (.cons dT (.one (dInt .u8)))
noncomputable def lts_q1 (xs:List Y) (t:T) (m:Int):List Y:=
 List.take (60:Nat) (eY.ag xs)
noncomputable def lts_q2 (xs:List Y) (t:T) (m:Int):List T×Int:=
 frontY (eY.ag (lts_q1 xs t m))
noncomputable def lts_q3 (xs:List Y) (t:T) (m:Int):Bool:=
 decide (eT.ag (lts_q2 xs t m).fst=eT.ag (lts_q2 xs t m).fst)
noncomputable def lts_q4 (xs:List Y) (t:T) (m:Int):List Y:=
 timesY (eY.ag (lts_q1 xs t m))
noncomputable def lts_q5 (xs:List Y) (t:T) (m:Int):List Y:=
 List.take (99:Nat) (eY.ag (lts_q4 xs t m))
noncomputable def lts_q6 (xs:List Y) (t:T) (m:Int):Bool:=
 decide (eY.ag (lts_q5 xs t m)=eY.ag (lts_q4 xs t m))
noncomputable def lts_q7 (xs:List Y) (t:T) (m:Int):List Y:=
 List.take (IntKind.i64.wrap m).toNat (eY.ag (lts_q4 xs t m))
noncomputable def lts_q8 (xs:List Y) (t:T) (m:Int):Bool:=
 decide (eY.ag (lts_q7 xs t m)=eY.lst (List.foldl (fun a x=>bif false then if x.snd.snd > a then x.snd.snd else a else if x.snd.snd<a then x.snd.snd else a) (↑(lts_q4 xs t m).length:Int) [(false,IntKind.i64,IntKind.i64.wrap m)]).toNat (eY.els (lts_q4 xs t m)))
noncomputable def lts_F (xs:List Y) (t:T) (m:Int):Dv.T dBool:=
 true&&((lts_q3 xs t m)&&((lts_q2 xs t m).snd==(lts_q2 xs t m).snd&&(getY (eY.ag (lts_q1 xs t m)) t==getY (eY.ag (lts_q1 xs t m)) t&&(belY (eY.ag (lts_q1 xs t m)) t==belY (eY.ag (lts_q1 xs t m)) t&&(totalY (eY.ag (lts_q1 xs t m))==totalY (eY.ag (lts_q1 xs t m))&&(plainY (eY.ag (lts_q1 xs t m))==plainY (eY.ag (lts_q1 xs t m))&&((lts_q6 xs t m)&&(lts_q8 xs t m))))))))
def lts_side (xs:List Y) (t:T) (m:Int):Prop:=
 eY.okL xs∧eY.okL (lts_q1 xs t m)∧(eY.ag (lts_q1 xs t m)).length≤KS∧eY.okL (lts_q1 xs t m)∧(eY.ag (lts_q1 xs t m)).length≤KS∧eY.okL (lts_q1 xs t m)∧(eY.ag (lts_q1 xs t m)).length≤KS∧(true=true→eT.okL (lts_q2 xs t m).fst)∧(true=true→eT.okL (lts_q2 xs t m).fst)∧(true=true→(lts_q3 xs t m)=true→((lts_q2 xs t m).snd==(lts_q2 xs t m).snd)=true→eY.okL (lts_q1 xs t m))∧(true=true→(lts_q3 xs t m)=true→((lts_q2 xs t m).snd==(lts_q2 xs t m).snd)=true→(eY.ag (lts_q1 xs t m)).length≤KS)∧(true=true→(lts_q3 xs t m)=true→((lts_q2 xs t m).snd==(lts_q2 xs t m).snd)=true→eY.okL (lts_q1 xs t m))∧(true=true→(lts_q3 xs t m)=true→((lts_q2 xs t m).snd==(lts_q2 xs t m).snd)=true→(eY.ag (lts_q1 xs t m)).length≤KS)∧(true=true→(lts_q3 xs t m)=true→((lts_q2 xs t m).snd==(lts_q2 xs t m).snd)=true→(getY (eY.ag (lts_q1 xs t m)) t==getY (eY.ag (lts_q1 xs t m)) t)=true→eY.okL (lts_q1 xs t m))∧(true=true→(lts_q3 xs t m)=true→((lts_q2 xs t m).snd==(lts_q2 xs t m).snd)=true→(getY (eY.ag (lts_q1 xs t m)) t==getY (eY.ag (lts_q1 xs t m)) t)=true→(eY.ag (lts_q1 xs t m)).length≤KS)∧(true=true→(lts_q3 xs t m)=true→((lts_q2 xs t m).snd==(lts_q2 xs t m).snd)=true→(getY (eY.ag (lts_q1 xs t m)) t==getY (eY.ag (lts_q1 xs t m)) t)=true→eY.okL (lts_q1 xs t m))∧(true=true→(lts_q3 xs t m)=true→((lts_q2 xs t m).snd==(lts_q2 xs t m).snd)=true→(getY (eY.ag (lts_q1 xs t m)) t==getY (eY.ag (lts_q1 xs t m)) t)=true→(eY.ag (lts_q1 xs t m)).length≤KS)∧(true=true→(lts_q3 xs t m)=true→((lts_q2 xs t m).snd==(lts_q2 xs t m).snd)=true→(getY (eY.ag (lts_q1 xs t m)) t==getY (eY.ag (lts_q1 xs t m)) t)=true→(belY (eY.ag (lts_q1 xs t m)) t==belY (eY.ag (lts_q1 xs t m)) t)=true→eY.okL (lts_q1 xs t m))∧(true=true→(lts_q3 xs t m)=true→((lts_q2 xs t m).snd==(lts_q2 xs t m).snd)=true→(getY (eY.ag (lts_q1 xs t m)) t==getY (eY.ag (lts_q1 xs t m)) t)=true→(belY (eY.ag (lts_q1 xs t m)) t==belY (eY.ag (lts_q1 xs t m)) t)=true→(eY.ag (lts_q1 xs t m)).length≤KS)∧(true=true→(lts_q3 xs t m)=true→((lts_q2 xs t m).snd==(lts_q2 xs t m).snd)=true→(getY (eY.ag (lts_q1 xs t m)) t==getY (eY.ag (lts_q1 xs t m)) t)=true→(belY (eY.ag (lts_q1 xs t m)) t==belY (eY.ag (lts_q1 xs t m)) t)=true→eY.okL (lts_q1 xs t m))∧(true=true→(lts_q3 xs t m)=true→((lts_q2 xs t m).snd==(lts_q2 xs t m).snd)=true→(getY (eY.ag (lts_q1 xs t m)) t==getY (eY.ag (lts_q1 xs t m)) t)=true→(belY (eY.ag (lts_q1 xs t m)) t==belY (eY.ag (lts_q1 xs t m)) t)=true→(eY.ag (lts_q1 xs t m)).length≤KS)∧(true=true→(lts_q3 xs t m)=true→((lts_q2 xs t m).snd==(lts_q2 xs t m).snd)=true→(getY (eY.ag (lts_q1 xs t m)) t==getY (eY.ag (lts_q1 xs t m)) t)=true→(belY (eY.ag (lts_q1 xs t m)) t==belY (eY.ag (lts_q1 xs t m)) t)=true→(totalY (eY.ag (lts_q1 xs t m))==totalY (eY.ag (lts_q1 xs t m)))=true→eY.okL (lts_q1 xs t m))∧(true=true→(lts_q3 xs t m)=true→((lts_q2 xs t m).snd==(lts_q2 xs t m).snd)=true→(getY (eY.ag (lts_q1 xs t m)) t==getY (eY.ag (lts_q1 xs t m)) t)=true→(belY (eY.ag (lts_q1 xs t m)) t==belY (eY.ag (lts_q1 xs t m)) t)=true→(totalY (eY.ag (lts_q1 xs t m))==totalY (eY.ag (lts_q1 xs t m)))=true→eY.okL (lts_q1 xs t m))∧(true=true→(lts_q3 xs t m)=true→((lts_q2 xs t m).snd==(lts_q2 xs t m).snd)=true→(getY (eY.ag (lts_q1 xs t m)) t==getY (eY.ag (lts_q1 xs t m)) t)=true→(belY (eY.ag (lts_q1 xs t m)) t==belY (eY.ag (lts_q1 xs t m)) t)=true→(totalY (eY.ag (lts_q1 xs t m))==totalY (eY.ag (lts_q1 xs t m)))=true→(plainY (eY.ag (lts_q1 xs t m))==plainY (eY.ag (lts_q1 xs t m)))=true→eY.okL (lts_q1 xs t m))∧(true=true→(lts_q3 xs t m)=true→((lts_q2 xs t m).snd==(lts_q2 xs t m).snd)=true→(getY (eY.ag (lts_q1 xs t m)) t==getY (eY.ag (lts_q1 xs t m)) t)=true→(belY (eY.ag (lts_q1 xs t m)) t==belY (eY.ag (lts_q1 xs t m)) t)=true→(totalY (eY.ag (lts_q1 xs t m))==totalY (eY.ag (lts_q1 xs t m)))=true→(plainY (eY.ag (lts_q1 xs t m))==plainY (eY.ag (lts_q1 xs t m)))=true→(eY.ag (lts_q1 xs t m)).length≤KS)∧(true=true→(lts_q3 xs t m)=true→((lts_q2 xs t m).snd==(lts_q2 xs t m).snd)=true→(getY (eY.ag (lts_q1 xs t m)) t==getY (eY.ag (lts_q1 xs t m)) t)=true→(belY (eY.ag (lts_q1 xs t m)) t==belY (eY.ag (lts_q1 xs t m)) t)=true→(totalY (eY.ag (lts_q1 xs t m))==totalY (eY.ag (lts_q1 xs t m)))=true→(plainY (eY.ag (lts_q1 xs t m))==plainY (eY.ag (lts_q1 xs t m)))=true→eY.okL (lts_q4 xs t m))∧(true=true→(lts_q3 xs t m)=true→((lts_q2 xs t m).snd==(lts_q2 xs t m).snd)=true→(getY (eY.ag (lts_q1 xs t m)) t==getY (eY.ag (lts_q1 xs t m)) t)=true→(belY (eY.ag (lts_q1 xs t m)) t==belY (eY.ag (lts_q1 xs t m)) t)=true→(totalY (eY.ag (lts_q1 xs t m))==totalY (eY.ag (lts_q1 xs t m)))=true→(plainY (eY.ag (lts_q1 xs t m))==plainY (eY.ag (lts_q1 xs t m)))=true→(eY.ag (lts_q4 xs t m)).length≤KS)∧(true=true→(lts_q3 xs t m)=true→((lts_q2 xs t m).snd==(lts_q2 xs t m).snd)=true→(getY (eY.ag (lts_q1 xs t m)) t==getY (eY.ag (lts_q1 xs t m)) t)=true→(belY (eY.ag (lts_q1 xs t m)) t==belY (eY.ag (lts_q1 xs t m)) t)=true→(totalY (eY.ag (lts_q1 xs t m))==totalY (eY.ag (lts_q1 xs t m)))=true→(plainY (eY.ag (lts_q1 xs t m))==plainY (eY.ag (lts_q1 xs t m)))=true→eY.okL (lts_q5 xs t m))∧(true=true→(lts_q3 xs t m)=true→((lts_q2 xs t m).snd==(lts_q2 xs t m).snd)=true→(getY (eY.ag (lts_q1 xs t m)) t==getY (eY.ag (lts_q1 xs t m)) t)=true→(belY (eY.ag (lts_q1 xs t m)) t==belY (eY.ag (lts_q1 xs t m)) t)=true→(totalY (eY.ag (lts_q1 xs t m))==totalY (eY.ag (lts_q1 xs t m)))=true→(plainY (eY.ag (lts_q1 xs t m))==plainY (eY.ag (lts_q1 xs t m)))=true→eY.okL (lts_q4 xs t m))∧(true=true→(lts_q3 xs t m)=true→((lts_q2 xs t m).snd==(lts_q2 xs t m).snd)=true→(getY (eY.ag (lts_q1 xs t m)) t==getY (eY.ag (lts_q1 xs t m)) t)=true→(belY (eY.ag (lts_q1 xs t m)) t==belY (eY.ag (lts_q1 xs t m)) t)=true→(totalY (eY.ag (lts_q1 xs t m))==totalY (eY.ag (lts_q1 xs t m)))=true→(plainY (eY.ag (lts_q1 xs t m))==plainY (eY.ag (lts_q1 xs t m)))=true→(lts_q6 xs t m)=true→eY.okL (lts_q1 xs t m))∧(true=true→(lts_q3 xs t m)=true→((lts_q2 xs t m).snd==(lts_q2 xs t m).snd)=true→(getY (eY.ag (lts_q1 xs t m)) t==getY (eY.ag (lts_q1 xs t m)) t)=true→(belY (eY.ag (lts_q1 xs t m)) t==belY (eY.ag (lts_q1 xs t m)) t)=true→(totalY (eY.ag (lts_q1 xs t m))==totalY (eY.ag (lts_q1 xs t m)))=true→(plainY (eY.ag (lts_q1 xs t m))==plainY (eY.ag (lts_q1 xs t m)))=true→(lts_q6 xs t m)=true→(eY.ag (lts_q1 xs t m)).length≤KS)∧(true=true→(lts_q3 xs t m)=true→((lts_q2 xs t m).snd==(lts_q2 xs t m).snd)=true→(getY (eY.ag (lts_q1 xs t m)) t==getY (eY.ag (lts_q1 xs t m)) t)=true→(belY (eY.ag (lts_q1 xs t m)) t==belY (eY.ag (lts_q1 xs t m)) t)=true→(totalY (eY.ag (lts_q1 xs t m))==totalY (eY.ag (lts_q1 xs t m)))=true→(plainY (eY.ag (lts_q1 xs t m))==plainY (eY.ag (lts_q1 xs t m)))=true→(lts_q6 xs t m)=true→eY.okL (lts_q4 xs t m))∧(true=true→(lts_q3 xs t m)=true→((lts_q2 xs t m).snd==(lts_q2 xs t m).snd)=true→(getY (eY.ag (lts_q1 xs t m)) t==getY (eY.ag (lts_q1 xs t m)) t)=true→(belY (eY.ag (lts_q1 xs t m)) t==belY (eY.ag (lts_q1 xs t m)) t)=true→(totalY (eY.ag (lts_q1 xs t m))==totalY (eY.ag (lts_q1 xs t m)))=true→(plainY (eY.ag (lts_q1 xs t m))==plainY (eY.ag (lts_q1 xs t m)))=true→(lts_q6 xs t m)=true→(eY.ag (lts_q4 xs t m)).length≤KS)∧(true=true→(lts_q3 xs t m)=true→((lts_q2 xs t m).snd==(lts_q2 xs t m).snd)=true→(getY (eY.ag (lts_q1 xs t m)) t==getY (eY.ag (lts_q1 xs t m)) t)=true→(belY (eY.ag (lts_q1 xs t m)) t==belY (eY.ag (lts_q1 xs t m)) t)=true→(totalY (eY.ag (lts_q1 xs t m))==totalY (eY.ag (lts_q1 xs t m)))=true→(plainY (eY.ag (lts_q1 xs t m))==plainY (eY.ag (lts_q1 xs t m)))=true→(lts_q6 xs t m)=true→(0:Int)≤List.foldl (fun a x=>bif false then if x.snd.snd > a then x.snd.snd else a else if x.snd.snd<a then x.snd.snd else a) (↑(lts_q4 xs t m).length:Int) [(false,IntKind.i64,IntKind.i64.wrap m)]∧List.foldl (fun a x=>bif false then if x.snd.snd > a then x.snd.snd else a else if x.snd.snd<a then x.snd.snd else a) (↑(lts_q4 xs t m).length:Int) [(false,IntKind.i64,IntKind.i64.wrap m)]≤(↑(lts_q4 xs t m).length:Int))∧(true=true→(lts_q3 xs t m)=true→((lts_q2 xs t m).snd==(lts_q2 xs t m).snd)=true→(getY (eY.ag (lts_q1 xs t m)) t==getY (eY.ag (lts_q1 xs t m)) t)=true→(belY (eY.ag (lts_q1 xs t m)) t==belY (eY.ag (lts_q1 xs t m)) t)=true→(totalY (eY.ag (lts_q1 xs t m))==totalY (eY.ag (lts_q1 xs t m)))=true→(plainY (eY.ag (lts_q1 xs t m))==plainY (eY.ag (lts_q1 xs t m)))=true→(lts_q6 xs t m)=true→eY.okL (lts_q7 xs t m))∧(true=true→(lts_q3 xs t m)=true→((lts_q2 xs t m).snd==(lts_q2 xs t m).snd)=true→(getY (eY.ag (lts_q1 xs t m)) t==getY (eY.ag (lts_q1 xs t m)) t)=true→(belY (eY.ag (lts_q1 xs t m)) t==belY (eY.ag (lts_q1 xs t m)) t)=true→(totalY (eY.ag (lts_q1 xs t m))==totalY (eY.ag (lts_q1 xs t m)))=true→(plainY (eY.ag (lts_q1 xs t m))==plainY (eY.ag (lts_q1 xs t m)))=true→(lts_q6 xs t m)=true→∀ (e:Nat),e<(List.foldl (fun a x=>bif false then if x.snd.snd > a then x.snd.snd else a else if x.snd.snd<a then x.snd.snd else a) (↑(lts_q4 xs t m).length:Int) [(false,IntKind.i64,IntKind.i64.wrap m)]).toNat→eY.Ok (eY.els (lts_q4 xs t m) e))
theorem lts_okS (pre:DA.T aLYTI→List Prop) (h:∀ g,DA.bd aLYTI g→(∀ p∈pre g,p)→lts_side g.1 g.2.1 g.2.2):FnPure Try.prog 8 aLYTI dBool (fun g=>lts_F g.1 g.2.1 g.2.2) pre:=pure_of_sideS (Γ:=(MTab.gamz tabU48 [] [])) (Λ:=noΛ) (MTab.okz tabU48 [] []) noΛ_ok 100 default (fun g=>lts_side g.1 g.2.1 g.2.2) (fun g=>by kernel_rfl) (fun g=>by kernel_rfl) h
end Go.Proofs.Ytiipneclghnfhaa

namespace Go.Proofs.Ytiipneclghnfhaa
open Go.RowKit Go.Sx Go.Lp
theorem times_len (xs:List Y):(timesY xs).length≤xs.length:=by
 unfold timesY
 cases chkY xs==(0:Int) with
 | true=>exact there_len xs
 | false=>exact Nat.zero_le _
theorem min_m (n:Nat) (m:Int) (h:0≤m∧m<256):(List.foldl (fun a (x:Bool×IntKind×Int)=>bif false then if x.2.2 > a then x.2.2 else a else if x.2.2<a then x.2.2 else a) (n:Int) [(false,IntKind.i64,IntKind.i64.wrap m)]).toNat=min n m.toNat:=by
 rw[wrS (by omega)]
 show (if m<(n:Int) then m else (n:Int)).toNat=_
 split <;> omega
theorem lts_eq (xs:List Y) (t:T) (m:Int) (h:0≤m∧m<256):lts_F xs t m=true:=by
 have l1:=s60 xs
 have l2:=times_len (xs.take 60)
 have e1:lts_q1 xs t m=xs.take 60:=by simp only[lts_q1,El.ag_eq]
 have e4:lts_q4 xs t m=timesY (xs.take 60):=by simp only[lts_q4,El.ag_eq,e1]
 have e3:lts_q3 xs t m=true:=by unfold lts_q3;exact decide_eq_true rfl
 have e6:lts_q6 xs t m=true:=by
  unfold lts_q6 lts_q5
  simp only[El.ag_eq,e4]
  exact decide_eq_true (List.take_of_length_le (by omega))
 have e8:lts_q8 xs t m=true:=by
  unfold lts_q8 lts_q7
  simp only[El.ag_eq,e4]
  refine decide_eq_true ?_
  rw[min_m _ m h,wrS (by omega),eY.lst_take _ _ (Nat.min_le_left _ _)]
  by_cases hm:m.toNat≤(timesY (xs.take 60)).length
  ·rw[Nat.min_eq_right hm]
  ·rw[Nat.min_eq_left (by omega),List.take_of_length_le (by omega),List.take_of_length_le (Nat.le_refl _)]
 unfold lts_F
 simp only[e3,e6,e8,beq_self_eq_true,Bool.and_true]
theorem lts_si (xs:List Y) (t:T) (m:Int) (h:0≤m∧m<256):lts_side xs t m:=by
 have l1:=s60 xs
 have l2:=times_len (xs.take 60)
 have e1:lts_q1 xs t m=xs.take 60:=by simp only[lts_q1,El.ag_eq]
 have e4:lts_q4 xs t m=timesY (xs.take 60):=by simp only[lts_q4,El.ag_eq,e1]
 have k1:(xs.take 60).length≤KS:=k60 l1
 have k2:(timesY (xs.take 60)).length≤KS:=Nat.le_trans l2 k1
 have k3:=min_m (timesY (xs.take 60)).length m h
 have k4:(timesY (xs.take 60)).length≤maxLen:=Nat.le_trans k2 (by unfold KS maxLen;decide)
 simp only[lts_side,El.okL_eq,El.ag_eq,e1,e4,k1,k2,implies_true,true_and,and_true]
 refine ⟨fun _ _ _ _ _ _ _ _=>?_,fun _ _ _ _ _ _ _ _ e _=>eY.ok_els _ e⟩
 have k5:List.foldl (fun a (x:Bool×IntKind×Int)=>bif false then if x.2.2 > a then x.2.2 else a else if x.2.2<a then x.2.2 else a) (((timesY (xs.take 60)).length:Nat):Int) [(false,IntKind.i64,IntKind.i64.wrap m)]=if m<((timesY (xs.take 60)).length:Int) then m else ((timesY (xs.take 60)).length:Int):=by
  rw[wrS (by omega)];rfl
 rw[k5]
 split <;> omega
theorem lts_ok:FnPure Try.prog 8 aLYTI dBool (fun _=>true) (fun g=>[0≤g.2.2∧g.2.2<256]):=
 pure_congr (lts_okS _ fun g _ hp=>lts_si _ _ _ (hp _ (List.mem_cons_self ..))) fun g _ hp=>lts_eq _ _ _ (hp _ (List.mem_cons_self ..))
end Go.Proofs.Ytiipneclghnfhaa

namespace Go.Proofs.Ytiipneclghnfhaa
open Go.RowKit Go.Sx
def W1 (n:Int):Prop:=(Lit.int .i64 n).wf=true
def W4 (a:I4):Prop:=W1 a.1∧W1 a.2.1∧W1 a.2.2.1∧W1 a.2.2.2
def W6 (a:I6):Prop:=W1 a.1∧W1 a.2.1∧W4 a.2.2
def W8 (a:I8):Prop:=W1 a.1∧W1 a.2.1∧W1 a.2.2.1∧W1 a.2.2.2.1∧W4 a.2.2.2.2
def S.W (s:S):Prop:=W8 s.toP
def T.W (t:T):Prop:=W6 t.toP
theorem rd2:Rd Try.prog 2 eI W1:=rd_int Try.underlying2
theorem rd3:Rd Try.prog 3 eI W1:=rd_int Try.underlying3
theorem rd28:Rd Try.prog 28 e4 W4:=rd_array (ts:=[2,2,2,2]) Try.underlying28 rfl (by kernel_rfl) (rds_cons rd2 (rds_cons rd2 (rds_cons rd2 (rds_one rd2))))
theorem rd30:Rd Try.prog 30 eT T.W:=rd_iso (Q:=W6) (rd_struct (ts:=[2,3,28]) Try.underlying30 rfl (by kernel_rfl) (rds_cons rd2 (rds_cons rd3 (rds_one rd28)))) _ _ _ _
theorem rdvT:RdV Try.prog 30 dT T.W:=rdv_struct Try.underlying30 rd30
end Go.Proofs.Ytiipneclghnfhaa

namespace Go.Proofs.Ytiipneclghnfhaa
open Go.RowKit Go.Sx
abbrev W7 (a:T×Int):Prop:=T.W a.1∧W1 a.2
def Y.W (y:Y):Prop:=W7 y.toP
theorem rd45:Rd Try.prog 45 eY Y.W:=rd_iso (Q:=W7) (rd_struct (ts:=[30,2]) Try.underlying45 rfl (by kernel_rfl) (rds_cons rd30 (rds_one rd2))) _ _ _ _
theorem rdvLY:RdV Try.prog 40 dLY (fun l=>∀ s∈l,Y.W s):=rdv_slice Try.underlying40 (by kernel_rfl) (by decide) rd45
end Go.Proofs.Ytiipneclghnfhaa

namespace Go.Proofs.Ytiipneclghnfhaa
open Go.RowKit Go.Sx
theorem rdvU:RdV Try.prog 5 (dInt .u8) (fun n=>(Lit.int .u8 n).wf=true):=rdv_int Try.underlying5
end Go.Proofs.Ytiipneclghnfhaa

namespace Go.Proofs.Ytiipneclghnfhaa
open Go.ChangeShapes Go.WideShapes Go.ChangeAt Go.RowKit Go.Sx
theorem Try.own:ownKnob Try.prog.godebug=none:=by kernel_rfl
theorem Try.laidOut:laidOutB Try.prog=true:=by kernel_rfl
set_option maxRecDepth 100000 in
theorem multTells_lifted (law:FnPure Try.prog 8 aLYTI dBool (fun _=>true) (fun g=>[0≤g.2.2∧g.2.2<256])) (os:Os) (started:os.Started) (H:Type) (enc:TypeId×Value→H) :
  ReturnsInHanded {} Try.checked os 8 .any (Rows.multTellsSpec.pre6 enc Try.prog Try.f8 Rows.multTellsRow.domain false) (Rows.multTellsSpec.post enc Try.prog Try.f8 false true false false):=by
 refine returnsInHanded_of_change (C:=Try.checked) Try.own started (by kernel_rfl) Try.func8
  (ChangeSpec.witness6 (enc:=enc) (C:=Try.checked) false ⟨#[],#[.slice none 0 0,.agg #[.int .i64 0,.int .i64 0,.int .i64 0,.int .i64 0,.int .i64 0,.int .i64 0],.int .u8 0],[]⟩ 8 (by kernel_rfl) (by kernel_rfl) (by kernel_rfl) (by kernel_rfl)) ?_
 intro W base args ds gs before hval0 hW hcnd _
 have hval:∀ (j:Nat) t v,Try.f8.params[j]?=some t→args[j]?=some v→Value.okWide Try.prog W .any base t v:=hval0
 have hW':=hW
 obtain ⟨p,q,hA0,hV,rfl,hfz,hnd⟩:=hW
 have hA:DataW.TrodAll enc Try.prog W 0 (fun _=>true) true Try.f8.params.toList args.toList ds p:=hA0
 rw[Try.params8] at hA hval
 obtain ⟨v0,vs0,d0,ds0,p0,qq0,hargs,rfl,rfl,h0,r0⟩:=trodAll_cons hA
 obtain ⟨v1,vs1,d1,ds1,p1,qq1,rfl,rfl,rfl,h1,r1⟩:=trodAll_cons r0
 obtain ⟨v2,vs2,d2,ds2,p2,qq2,rfl,rfl,rfl,h2,r2⟩:=trodAll_cons r1
 obtain ⟨rfl,rfl,rfl⟩:=trodAll_nil r2
 obtain rfl:args=#[v0,v1,v2]:=by cases args;simp_all
 obtain ⟨rfl,rfl⟩:=trodVars_none hV
 obtain ⟨a0,q0,f0⟩:=rdvLY _ _ _ _ _ _ _ _ _ _ _ (hval 0 40 v0 rfl rfl) h0
 obtain ⟨a1,q1,f1⟩:=rdvT _ _ _ _ _ _ _ _ _ _ _ (hval 1 30 v1 rfl rfl) h1
 obtain ⟨a2,q2,f2⟩:=rdvU _ _ _ _ _ _ _ _ _ _ _ (hval 2 5 v2 rfl rfl) h2
 have lt:∀ {t:TypeId} {v:Value} {d:DataW H} {ps:List MemPlace},DataW.Trod enc Try.prog W 0 (fun _=>true) true t v d ps→∀ x∈ps,x.block<W.heap.size:=by
  rintro t v d ps ⟨m,hm⟩
  exact DataW.trod_lt m _ _ _ hm
 clear hA0 hval0
 refine (law W (fun b=>W.heap[b]?) (a0,a1,a2) [v0,v1,v2] (fun _ _ h=>h) (by intro p hp;rcases List.mem_cons.1 hp with e | hp;exact e▸u8_of q2;cases hp) ⟨f0,f1,f2,trivial⟩).mono fun e W' ⟨x,he,bel,hx⟩=>?_
 obtain rfl:x=.bool true:=by simpa [dBool,SV.fit] using hx
 subst he
 exact ⟨_,rfl,_,_,_,[],_,[],hW',trodAll_mk1 (shut_bool Try.underlying4 _),
  (trodAll_cons_mk (Below.trod Try.laidOut (by kernel_rfl) (of_decide_eq_true (by kernel_rfl)) h0 bel (lt h0))
  (trodAll_cons_mk (Below.trod Try.laidOut (by kernel_rfl) (of_decide_eq_true (by kernel_rfl)) h1 bel (lt h1))
  (trodAll_cons_mk (Below.trod Try.laidOut (by kernel_rfl) (of_decide_eq_true (by kernel_rfl)) h2 bel (lt h2)) trodAll_mk0))),rfl,bel.frame _,fun h=>by cases h⟩
theorem multTells_over (law:FnPure Try.prog 8 aLYTI dBool (fun _=>true) (fun g=>[0≤g.2.2∧g.2.2<256])):Rows.MultTellsSaid:=
 OpenClaim.holds_of_wide 8 Try.f8 rfl rfl rfl rfl rfl rfl rfl ⟨rfl,rfl,rfl,rfl,rfl⟩ rfl rfl rfl rfl rfl (by kernel_rfl) Try.func8 (by kernel_rfl)
  (of_decide_eq_true (by kernel_rfl)) (by unfold Func.isWrapper;first | (rw[if_pos (by decide +kernel)];kernel_rfl) | (rw[if_neg (by decide +kernel)];exact ⟨rfl,rfl⟩))
  (fun os started H enc _=>multTells_lifted law os started H enc)
end Go.Proofs.Ytiipneclghnfhaa

namespace Go.Proofs.Ytiipneclghnfhaa
open Go.RowKit Go.Sx
theorem multTells_holds:Rows.MultTellsSaid:=multTells_over lts_ok
end Go.Proofs.Ytiipneclghnfhaa
