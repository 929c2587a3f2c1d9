/- Chapter 4: MultFrontier: the contract of the loop within. -/
import Derived.Test.YtiipneclghnfhaaZG13d18560
import Derived.Test.YtiipneclghnfhaaZG0786cf4e
import Derived.Test.YtiipneclghnfhaaZG080162cc
import Derived.Test.YtiipneclghnfhaaZG1111ff65
set_option linter.unusedVariables false
set_option linter.unusedSimpArgs false
set_option linter.constructorNameAsVariable false
set_option linter.all false

namespace Go.Proofs.Ytiipneclghnfhaa
open Go.RowKit Go.Sx Go.Lp
noncomputable def lf_S (c:lf_GC) (b:lf_GB) (_:Int) (a:Y):Ex×lf_GB:=bif !(c.2.2.any fun x=>tleq_F x a.t) then (.ret,(),false,.done,some .ret) else (.normal,(),b.2.1,.ready,none)
def lf_K (c:lf_GC) (b:lf_GB) (_:Int):Prop:=b.2.2=(LoopState.ready,(none:Option Code))∧List.length c.1≤1000000
abbrev lf_I (g:lf_G):List Prop:=ixI (fun c:lf_GC=>c.2.1) (fun c=>c.1) lf_K (lf_f g)
abbrev lf_M (g:lf_G):Nat:=ixM (fun c:lf_GC=>c.2.1) (lf_f g)
theorem lf_P:ixP lf_S (fun c:lf_GC=>c.1) lf_K:=by
 rintro ⟨xs,n,fs⟩ ⟨⟨⟩,z,st,pd⟩ i a ⟨h1,h3⟩ _ hn
 unfold lf_S at hn ⊢
 simp only at hn ⊢
 cases hc:!(fs.any fun x=>tleq_F x a.t) with
 | true=>rw[hc] at hn;cases hn
 | false=>exact ⟨rfl,h3⟩
noncomputable abbrev lf_RR (g:lf_G):Ex×lf_G:=lf_R g.1 g.2.1 g.2.2.1 g.2.2.2.1 g.2.2.2.2.1 g.2.2.2.2.2.1
theorem lf_RF (d:Int×lf_GC×lf_GB) (hi:allP (ixI (fun c:lf_GC=>c.2.1) (fun c=>c.1) lf_K d)):lf_RR (lf_g d)=((ixF 0 (fun c:lf_GC=>c.2.1) (fun c=>c.1) eY.dflt lf_S d).1,lf_g (ixF 0 (fun c:lf_GC=>c.2.1) (fun c=>c.1) eY.dflt lf_S d).2):=by
 have hb:=(hi _ (List.mem_cons_self ..)).2.2.2.2.1
 obtain ⟨i,⟨xs,n,fs⟩,⟨⟨⟩,z,f⟩⟩:=d
 have hb:f=(LoopState.ready,(none:Option Code)):=hb
 subst hb
 show lf_R xs n i () z fs=_
 unfold lf_R ixF lf_S
 simp only[El.ag_eq]
 cases decide (i<n) with
 | false=>rfl
 | true=>
  simp only[cond_true]
  cases !(fs.any fun x=>tleq_F x (xs.getD i.toNat eY.dflt).t) <;> rfl
theorem lf_ok:∀ b∈loopsOf Try.prog 98,lkey b=1→LoopOk Try.prog b (lf_C lf_I lf_M).g:=by
 refine lf_loop lf_I lf_M (fun g hi=>?_) (fun g hi=>?_) (ix_conj_goes (fun _=>rfl) (fun _=>rfl) lf_RF lf_P)
 ·obtain ⟨xs,n,i,⟨⟩,z,fs,st,pd⟩:=g
  obtain ⟨h1,h2,h3,h4,h5,h7⟩:=hi _ (List.mem_cons_self ..)
  have h7:xs.length≤1000000:=h7
  have h1:n=(xs.length:Int):=h1
  have h3:0≤i:=h3
  have h4:i≤(xs.length:Int):=h4
  show lf_side xs n i () z fs
  unfold lf_side
  simp only[decide_eq_true_eq,decide_eq_false_iff_not,El.okL_eq,true_and,and_true]
  clear hi h2
  exact ⟨fun hl=>⟨⟨h3,by omega⟩,fun _=>⟨rfl,rfl⟩,fun _=>⟨rfl,rfl⟩⟩,fun _=>⟨rfl,rfl⟩⟩
 ·obtain ⟨xs,n,i,⟨⟩,z,fs,st,pd⟩:=g
  have h5:=(hi _ (List.mem_cons_self ..)).2.2.2.2.1
  have h5:(st,pd)=(LoopState.ready,(none:Option Code)):=h5
  cases h5
  rfl
theorem lf_scan (c:lf_GC) (z:Bool):∀ (l:List Y) (i:Int),(∀ a∈l,(c.2.2.any fun x=>tleq_F x a.t)=true)→scan 0 (lf_S c) i l (((),z,.ready,none):lf_GB)=(.exit 0,i+l.length,(),z,.ready,none)
 | [],i,_=>by simp[scan]
 | a :: l,i,h=>by
  have h1:lf_S c ((),z,.ready,none) i a=(.normal,(),z,.ready,none):=by
   unfold lf_S
   rw[h a (List.mem_cons_self ..)]
   rfl
  simp only[scan,h1]
  rw[lf_scan c z l (i+1) fun b hb=>h b (List.mem_cons_of_mem _ hb)]
  simp only[List.length_cons]
  rw[show i+1+(l.length:Int)=i+((l.length+1:Nat):Int) by omega]
theorem lf_run (xs:List Y) (z:Bool) (fs:List T) (h':xs.length≤1000000) (h:∀ a∈xs,(fs.any fun x=>tleq_F x a.t)=true):loopF lf_RR lf_M (xs,(xs.length:Int),0,(),z,fs,.ready,none)=(.exit 0,xs,(xs.length:Int),(xs.length:Int),(),z,fs,.ready,none):=by
 have e:loopF lf_RR lf_M (xs,(xs.length:Int),0,(),z,fs,.ready,none)=((scan 0 (lf_S (xs,(xs.length:Int),fs)) 0 xs ((),z,.ready,none)).1,lf_g ((scan 0 (lf_S (xs,(xs.length:Int),fs)) 0 xs ((),z,.ready,none)).2.1,(xs,(xs.length:Int),fs),(scan 0 (lf_S (xs,(xs.length:Int),fs)) 0 xs ((),z,.ready,none)).2.2)):=
  ix_conj_run (φ:=lf_f) (ψ:=lf_g) (fun _=>rfl) (fun _=>rfl) lf_RF lf_P (xs,(xs.length:Int),fs) ((),z,.ready,none) rfl (Nat.le_trans h' (by unfold maxLen;decide)) ⟨rfl,h'⟩
 rw[e,lf_scan (xs,(xs.length:Int),fs) z xs 0 h,Int.zero_add]
 rfl
theorem lf_ix (xs:List Y) (z:Bool) (fs:List T) (h:xs.length≤1000000):ixJ (fun c:lf_GC=>c.2.1) (fun c=>c.1) lf_K (0,(xs,(xs.length:Int),fs),((),z,.ready,none)):=ixJ0 rfl (Nat.le_trans h (by unfold maxLen;decide)) ⟨rfl,h⟩
noncomputable def ltU52:LTab Try.prog:=ltU18.cons 98 1 (lf_C lf_I lf_M) lf_ok
end Go.Proofs.Ytiipneclghnfhaa

namespace Go.Proofs.Ytiipneclghnfhaa
open Go.RowKit Go.Sx
set_option maxRecDepth 100000
set_option linter.unusedVariables false
abbrev fl_G:Type:=List T×Int×Int×Unit×Bool×List Y
noncomputable def fl_LP:LP 4 fl_G:=.pair (.slot 4 36 dLT) (.pair (.slot 4 37 dI) (.pair (.slot 4 38 dI) (.pair (.fix 4 4 (.p 0 0)) (.pair (.obj 4 0 4 eBool) (.slot 4 0 dLY)))))
noncomputable def fl_R (fs:List T) (n:Int) (i:Int) (_u:Unit) (z:Bool) (xs:List Y):Ex×fl_G:=
 bif decide (i<n) then bif decide (getY (eY.ag xs) (fs.getD i.toNat eT.dflt)≤(0:Int)) then (Ex.ret,eT.ag fs,n,i,(),false,eY.ag xs) else (Ex.normal,eT.ag fs,n,IntKind.i64.wrap (i+(1:Int)),(),z,eY.ag xs)
 else (Ex.exit (2:Nat),eT.ag fs,n,i,(),z,eY.ag xs)
def fl_side (fs:List T) (n:Int) (i:Int) (_u:Unit) (z:Bool) (xs:List Y):Prop:=
 (decide (i<n)=true→((0:Int)≤i∧i<(↑fs.length:Int))∧eY.okL xs∧(eY.ag xs).length≤KS∧(decide (getY (eY.ag xs) (fs.getD i.toNat eT.dflt)≤(0:Int))=true→eT.okL fs∧eY.okL xs)∧(decide (getY (eY.ag xs) (fs.getD i.toNat eT.dflt)≤(0:Int))=false→eT.okL fs∧eY.okL xs))∧(decide (i<n)=false→eT.okL fs∧eY.okL xs)
theorem fl_one:((loopsOf Try.prog 12).filter fun c=>Nat.beq (lkey c) 10).length=1:=by kernel_rfl
abbrev fl_GC:Type:=List T×Int×List Y
abbrev fl_GB:Type:=Unit×Bool
def fl_f (g:fl_G):Int×fl_GC×fl_GB:=(g.2.2.1,(g.1,g.2.1,g.2.2.2.2.2),(g.2.2.2.1,g.2.2.2.2.1))
def fl_g (d:Int×fl_GC×fl_GB):fl_G:=(d.2.1.1,d.2.1.2.1,d.1,d.2.2.1,d.2.2.2,d.2.1.2.2)
theorem fl_es (g:fl_G):(fl_R g.1 g.2.1 g.2.2.1 g.2.2.2.1 g.2.2.2.2.1 g.2.2.2.2.2).1=.normal∨(fl_R g.1 g.2.1 g.2.2.1 g.2.2.2.1 g.2.2.2.2.1 g.2.2.2.2.2).1∈([.ret,.exit 2]:List Ex):=by
 unfold fl_R
 repeat' (first | (left;rfl) | (right;simp only[cond_true,cond_false];simp;done) | (rw[Bool.cond_eq_ite];split))
noncomputable abbrev fl_C (Inv:fl_G→List Prop) (m:fl_G→Nat):LCon:=loopR [.ret,.exit 2] (loopBody Try.prog 12 10) fl_LP [2] 72 Inv (fun g=>fl_R g.1 g.2.1 g.2.2.1 g.2.2.2.1 g.2.2.2.2.1 g.2.2.2.2.2) m
theorem fl_loop (Inv:fl_G→List Prop) (m:fl_G→Nat) (hs:∀ g,allP (Inv g)→fl_side g.1 g.2.1 g.2.2.1 g.2.2.2.1 g.2.2.2.2.1 g.2.2.2.2.2) (hg:Goes (fun g:fl_G=>fl_R g.1 g.2.1 g.2.2.1 g.2.2.2.1 g.2.2.2.2.1 g.2.2.2.2.2) m fun g=>allP (Inv g)):∀ b∈loopsOf Try.prog 12,lkey b=10→LoopOk Try.prog b (fl_C Inv m).g:=loop_run (Γ:=(MTab.gamz tabU31 [] [])) (Λ:=noΛ) (MTab.okz tabU31 [] []) noΛ_ok 100 12 10 72 fl_LP [2] Inv (fun g=>fl_R g.1 g.2.1 g.2.2.1 g.2.2.2.1 g.2.2.2.2.1 g.2.2.2.2.2) (fun g=>fl_side g.1 g.2.1 g.2.2.1 g.2.2.2.1 g.2.2.2.2.1 g.2.2.2.2.2) m default [.ret,.exit 2] fl_one (fun rd T B HL HB ds g=>by kernel_rfl) (fun rd T B HL HB ds g=>by kernel_rfl) hs hg fl_es
end Go.Proofs.Ytiipneclghnfhaa

namespace Go.Proofs.Ytiipneclghnfhaa
open Go.RowKit Go.Sx Go.Lp
noncomputable def fl_S (c:fl_GC) (b:fl_GB) (_:Int) (a:T):Ex×fl_GB:=bif decide (getY c.2.2 a≤(0:Int)) then (.ret,(),false) else (.normal,(),b.2)
def fl_K (c:fl_GC) (_:fl_GB) (_:Int):Prop:=List.length c.2.2≤KS
abbrev fl_I (g:fl_G):List Prop:=ixI (fun c:fl_GC=>c.2.1) (fun c=>c.1) fl_K (fl_f g)
abbrev fl_M (g:fl_G):Nat:=ixM (fun c:fl_GC=>c.2.1) (fl_f g)
theorem fl_P:ixP fl_S (fun c:fl_GC=>c.1) fl_K:=fun _ _ _ _ h _ _=>h
noncomputable abbrev fl_RR (g:fl_G):Ex×fl_G:=fl_R g.1 g.2.1 g.2.2.1 g.2.2.2.1 g.2.2.2.2.1 g.2.2.2.2.2
theorem fl_RF (d:Int×fl_GC×fl_GB) (_:allP (ixI (fun c:fl_GC=>c.2.1) (fun c=>c.1) fl_K d)):fl_RR (fl_g d)=((ixF 2 (fun c:fl_GC=>c.2.1) (fun c=>c.1) eT.dflt fl_S d).1,fl_g (ixF 2 (fun c:fl_GC=>c.2.1) (fun c=>c.1) eT.dflt fl_S d).2):=by
 obtain ⟨i,⟨fs,n,xs⟩,⟨⟨⟩,z⟩⟩:=d
 show fl_R fs n i () z xs=_
 unfold fl_R ixF fl_S
 simp only[El.ag_eq]
 cases decide (i<n) with
 | false=>rfl
 | true=>
  simp only[cond_true]
  cases decide (getY xs (fs.getD i.toNat eT.dflt)≤(0:Int)) <;> rfl
theorem fl_ok:∀ b∈loopsOf Try.prog 12,lkey b=10→LoopOk Try.prog b (fl_C fl_I fl_M).g:=by
 refine fl_loop fl_I fl_M (fun g hi=>?_) (ix_conj_goes (fun _=>rfl) (fun _=>rfl) fl_RF fl_P)
 obtain ⟨fs,n,i,⟨⟩,z,xs⟩:=g
 obtain ⟨h1,h2,h3,h4,h5⟩:=hi _ (List.mem_cons_self ..)
 have h5:xs.length≤KS:=h5
 have h1:n=(fs.length:Int):=h1
 have h3:0≤i:=h3
 have h4:i≤(fs.length:Int):=h4
 show fl_side fs n i () z xs
 unfold fl_side
 simp only[decide_eq_true_eq,decide_eq_false_iff_not,El.okL_eq,El.ag_eq,true_and,and_true,implies_true]
 exact fun hl=>⟨⟨h3,by omega⟩,h5⟩
theorem fl_scan (c:fl_GC) (z:Bool):∀ (l:List T) (i:Int),(∀ a∈l,0<getY c.2.2 a)→scan 2 (fl_S c) i l (((),z):fl_GB)=(.exit 2,i+l.length,(),z)
 | [],i,_=>by simp[scan]
 | a :: l,i,h=>by
  have h1:fl_S c ((),z) i a=(.normal,(),z):=by
   unfold fl_S
   have:=h a (List.mem_cons_self ..)
   rw[show decide (getY c.2.2 a≤(0:Int))=false from decide_eq_false (by omega)]
   rfl
  simp only[scan,h1]
  rw[fl_scan c z l (i+1) fun b hb=>h b (List.mem_cons_of_mem _ hb)]
  simp only[List.length_cons]
  rw[show i+1+(l.length:Int)=i+((l.length+1:Nat):Int) by omega]
theorem fl_run (fs:List T) (z:Bool) (xs:List Y) (hl:fs.length≤maxLen) (h':xs.length≤KS) (h:∀ a∈fs,0<getY xs a):loopF fl_RR fl_M (fs,(fs.length:Int),0,(),z,xs)=(.exit 2,fs,(fs.length:Int),(fs.length:Int),(),z,xs):=by
 have e:loopF fl_RR fl_M (fs,(fs.length:Int),0,(),z,xs)=((scan 2 (fl_S (fs,(fs.length:Int),xs)) 0 fs ((),z)).1,fl_g ((scan 2 (fl_S (fs,(fs.length:Int),xs)) 0 fs ((),z)).2.1,(fs,(fs.length:Int),xs),(scan 2 (fl_S (fs,(fs.length:Int),xs)) 0 fs ((),z)).2.2)):=
  ix_conj_run (φ:=fl_f) (ψ:=fl_g) (fun _=>rfl) (fun _=>rfl) fl_RF fl_P (fs,(fs.length:Int),xs) ((),z) rfl hl h'
 rw[e,fl_scan (fs,(fs.length:Int),xs) z fs 0 h,Int.zero_add]
 rfl
theorem fl_ix (fs:List T) (z:Bool) (xs:List Y) (hl:fs.length≤maxLen) (h:xs.length≤KS):ixJ (fun c:fl_GC=>c.2.1) (fun c=>c.1) fl_K (0,(fs,(fs.length:Int),xs),((),z)):=ixJ0 rfl hl h
noncomputable def ltU54:LTab Try.prog:=ltU52.cons 12 10 (fl_C fl_I fl_M) fl_ok
noncomputable abbrev lamU54:Lam:=ltU54.lam
theorem lamU54_ok:∀ f k L,lamU54 f k=some L→∀ b∈loopsOf Try.prog f,lkey b=k→LoopOk Try.prog b L.g:=ltU54.ok
end Go.Proofs.Ytiipneclghnfhaa

namespace Go.Proofs.Ytiipneclghnfhaa
open Go.RowKit Go.Sx
set_option maxRecDepth 100000
set_option linter.unusedVariables false
noncomputable def lfr_q1 (xs:List Y) (ys:List Y):List Y:=
 List.take (60:Nat) (eY.ag xs)
noncomputable def lfr_q2 (xs:List Y) (ys:List Y):List T×Int:=
 frontY (eY.ag (lfr_q1 xs ys))
noncomputable def lfr_q3 (xs:List Y) (ys:List Y):List Y:=
 timesY (eY.ag (lfr_q1 xs ys))
noncomputable def lfr_q4 (xs:List Y) (ys:List Y):Ex ×
 lf_G:=
 loopF (fun g=>lf_R g.fst g.snd.fst g.snd.snd.fst g.snd.snd.snd.fst g.snd.snd.snd.snd.fst g.snd.snd.snd.snd.snd.fst) lf_M (eY.ag (lfr_q3 xs ys),(↑(lfr_q3 xs ys).length:Int),(0:Int),(),false,eT.ag (lfr_q2 xs ys).fst,LoopState.ready,none)
noncomputable def lfr_q5 (xs:List Y) (ys:List Y):Ex ×
 fl_G:=
 loopF (fun g=>fl_R g.fst g.snd.fst g.snd.snd.fst g.snd.snd.snd.fst g.snd.snd.snd.snd.fst g.snd.snd.snd.snd.snd) fl_M (eT.ag (lfr_q4 xs ys).snd.snd.snd.snd.snd.snd.fst,(↑(lfr_q4 xs ys).snd.snd.snd.snd.snd.snd.fst.length:Int),(0:Int),(),(lfr_q4 xs ys).snd.snd.snd.snd.snd.fst,eY.ag (lfr_q1 xs ys))
noncomputable def lfr_q6 (xs:List Y) (ys:List Y):List Y:=
 List.take (60:Nat) (eY.ag ys)
noncomputable def lfr_q7 (xs:List Y) (ys:List Y):List Y×Int:=
 sumF (eY.ag (lfr_q5 xs ys).snd.snd.snd.snd.snd.snd,eY.ag (lfr_q6 xs ys))
noncomputable def lfr_q8 (xs:List Y) (ys:List Y):List T×Int:=
 frontY (eY.ag (lfr_q7 xs ys).fst)
noncomputable def lfr_F (xs:List Y) (ys:List Y):Dv.T dBool:=
 bif !true||(lfr_q2 xs ys).snd != (0:Int) then true
 else bif exB Ex.ret (lfr_q4 xs ys).fst then (lfr_q4 xs ys).snd.snd.snd.snd.snd.fst else bif exB Ex.ret (lfr_q5 xs ys).fst then (lfr_q5 xs ys).snd.snd.snd.snd.snd.fst else bif (lfr_q7 xs ys).snd != (0:Int)||!plainY (eY.ag (lfr_q6 xs ys)) then true else (lfr_q8 xs ys).snd != (0:Int)||leqC (eT.ag (lfr_q8 xs ys).fst) (eT.ag (lfr_q4 xs ys).snd.snd.snd.snd.snd.snd.fst)
def lfr_side (xs:List Y) (ys:List Y):Prop:=
 eY.okL xs∧eY.okL ys∧eY.okL (lfr_q1 xs ys)∧(eY.ag (lfr_q1 xs ys)).length≤KS∧((!true||(lfr_q2 xs ys).snd != (0:Int))=false→eY.okL (lfr_q1 xs ys)∧(eY.ag (lfr_q1 xs ys)).length≤KS∧eY.okL (lfr_q3 xs ys)∧eT.okL (lfr_q2 xs ys).fst∧CodeIs (rangeOf Try.prog (12:Nat) (0:Nat)).snd.fst (rangeOf Try.prog (12:Nat) (0:Nat)).snd.fst∧CodeIs (rangeOf Try.prog (12:Nat) (0:Nat)).snd.snd (rangeOf Try.prog (12:Nat) (0:Nat)).snd.snd∧Lp.ixJ (fun c=>c.snd.fst) (fun c=>c.fst) lf_K (lf_f (eY.ag (lfr_q3 xs ys),(↑(lfr_q3 xs ys).length:Int),(0:Int),(),false,eT.ag (lfr_q2 xs ys).fst,LoopState.ready,none))∧(exB Ex.ret (lfr_q4 xs ys).fst=false→eT.okL (lfr_q4 xs ys).snd.snd.snd.snd.snd.snd.fst∧eY.okL (lfr_q1 xs ys)∧Lp.ixJ (fun c=>c.snd.fst) (fun c=>c.fst) fl_K (fl_f (eT.ag (lfr_q4 xs ys).snd.snd.snd.snd.snd.snd.fst,(↑(lfr_q4 xs ys).snd.snd.snd.snd.snd.snd.fst.length:Int),(0:Int),(),(lfr_q4 xs ys).snd.snd.snd.snd.snd.fst,eY.ag (lfr_q1 xs ys)))∧(exB Ex.ret (lfr_q5 xs ys).fst=false→eY.okL (lfr_q5 xs ys).snd.snd.snd.snd.snd.snd∧eY.okL (lfr_q6 xs ys)∧(eY.ag (lfr_q5 xs ys).snd.snd.snd.snd.snd.snd).length+(eY.ag (lfr_q6 xs ys)).length≤KS∧((!(lfr_q7 xs ys).snd != (0:Int))=true→eY.okL (lfr_q6 xs ys))∧(((lfr_q7 xs ys).snd != (0:Int)||!plainY (eY.ag (lfr_q6 xs ys)))=false→eY.okL (lfr_q7 xs ys).fst∧(eY.ag (lfr_q7 xs ys).fst).length≤KS∧((!(lfr_q8 xs ys).snd != (0:Int))=true→eT.okL (lfr_q8 xs ys).fst)∧((!(lfr_q8 xs ys).snd != (0:Int))=true→eT.okL (lfr_q4 xs ys).snd.snd.snd.snd.snd.snd.fst)))))
theorem lfr_okS (pre:DA.T aLLY→List Prop) (h:∀ g,DA.bd aLLY g→(∀ p∈pre g,p)→lfr_side g.1 g.2):FnPure Try.prog 12 aLLY dBool (fun g=>lfr_F g.1 g.2) pre:=pure_of_sideS (Γ:=(MTab.gamz tabU31 [] [])) (Λ:=lamU54) (MTab.okz tabU31 [] []) lamU54_ok 100 default (fun g=>lfr_side g.1 g.2) (fun g=>by kernel_rfl) (fun g=>by kernel_rfl) h
end Go.Proofs.Ytiipneclghnfhaa

namespace Go.Proofs.Ytiipneclghnfhaa
open Go.RowKit Go.Sx Go.Lp
abbrev tsY (a:List Y):List T:=(there a).map (·.t)
theorem front_is {a:List Y} (h:(frontY a).2=0):chkY a=0∧badC (tsY a)=0∧(frontY a).1=minsT (tsY a)∧(minsT (tsY a)).length≤1024:=by
 unfold frontY at h ⊢
 cases h1:(chkY a != (0:Int)) with
 | true=>
  rw[h1] at h
  have h:chkY a=0:=h
  rw[h] at h1;cases h1
 | false=>
  rw[h1] at h
  have h:(ofC (tsY a)).2=0:=h
  obtain ⟨h2,h3⟩:=(of_iff _).1 h
  exact ⟨bne0 h1,h2,of_eq h,h3⟩
theorem front_cov {a:List Y} (h:badC (tsY a)=0) {v:Y} (hv:v∈there a):((minsT (tsY a)).any fun x=>tleq_F x v.t)=true:=by
 have hm:v.t∈tsY a:=List.mem_map.2 ⟨v,hv,rfl⟩
 rw[cov_minsT,List.any_eq_true]
 exact ⟨v.t,hm,bad_rfl h v.t hm⟩
theorem times_is {a:List Y} (h:chkY a=0):timesY a=there a:=by
 unfold timesY;rw[h];rfl
theorem front_get {a:List Y} (hm:a.length≤KS) (h:chkY a=0) {t:T} (ht:t∈minsT (tsY a)):0<sumY a t∧getY a t=sumY a t:=by
 obtain ⟨v,hv,rfl⟩:=List.mem_map.1 (minsT_sub ht)
 obtain ⟨hva,hn⟩:=List.mem_filter.1 hv
 have hn:=of_decide_eq_true hn
 obtain ⟨_,_,hs,_,_⟩:=chk_all hm h
 refine ⟨?_,?_⟩
 ·rw[sum_srt hs hva];exact hn
 ·unfold getY;rw[h];rfl
theorem plain_ge (t:T):∀ {b:List Y},(∀ x∈b,0≤x.n)→0≤sumK Y.t Y.n b t
 | [],_=>Int.le_refl _
 | x :: b,h=>by
  have ih:=plain_ge t (b:=b) fun y hy=>h y (List.mem_cons_of_mem _ hy)
  have hx:=h x (List.mem_cons_self ..)
  simp only[sumK]
  split <;> omega
theorem plain_is {b:List Y} (h:plainY b=true) (t:T):0≤sumY b t:=by
 unfold plainY at h
 cases h1:(chkY b != (0:Int)) with
 | true=>rw[h1] at h;cases h
 | false=>
  rw[h1] at h
  have h:(!b.any fun v=>decide (v.n<(0:Int)))=true:=h
  rw[Bool.not_eq_true',List.any_eq_false] at h
  refine plain_ge t fun x hx=>?_
  have hx:¬ x.n<0:=by simpa using h x hx
  omega
theorem more_any {a b:List Y} {t:T} (p1:0<sumY a t) (p2:0≤sumY b t):∃ v∈there (nzY (a++b)),v.t=t:=by
 have hpos:0<sumY (a++b) t:=by rw[sum_app];omega
 generalize hs:sumY (a++b) t=s at hpos
 refine ⟨⟨t,s⟩,List.mem_filter.2 ⟨(nz_mem _ _).2 ⟨hs.symm,?_⟩,?_⟩,rfl⟩
 ·show s≠0
  omega
 ·show decide (s > 0)=true
  exact decide_eq_true hpos
theorem front_more' {a:List Y} {s:List Y} (hm:a.length≤KS) (ha:chkY a=0) (hs:∀ t,0<sumY a t→∃ v∈there s,v.t=t) (hg:(frontY s).2=0):leqC (frontY s).1 (minsT (tsY a))=true:=by
 obtain ⟨_,g2,g3,_⟩:=front_is hg
 rw[g3]
 unfold leqC
 rw[List.all_eq_true]
 intro t ht
 obtain ⟨p1,_⟩:=front_get hm ha ht
 obtain ⟨v,hv,rfl⟩:=hs t p1
 exact front_cov g2 hv
theorem front_more {a b:List Y} (hm:a.length+b.length≤KS) (ha:chkY a=0) (hs:(sumF (a,b)).2=0) (hp:plainY b=true) (hg:(frontY (sumF (a,b)).1).2=0):leqC (frontY (sumF (a,b)).1).1 (minsT (tsY a))=true:=by
 obtain ⟨_,he⟩:=sum_is hs
 rw[he] at hs
 obtain ⟨_,_,_,h4⟩:=of_inv hs
 have e:(sumF (a,b)).1=nzY (a++b):=by rw[he,h4]
 generalize (sumF (a,b)).1=s at *
 subst e
 exact front_more' (Nat.le_trans (Nat.le_add_right _ _) hm) ha (fun t p1=>more_any p1 (plain_is hp t)) hg
structure LfrQ (xs ys:List Y) (a b:List Y):Prop where
 q1:lfr_q1 xs ys=a
 q2:lfr_q2 xs ys=frontY a
 q3:lfr_q3 xs ys=there a
 q4:lfr_q4 xs ys=(.exit 0,there a,((there a).length:Int),((there a).length:Int),(),false,minsT (tsY a),.ready,none)
 q5:lfr_q5 xs ys=(.exit 2,minsT (tsY a),((minsT (tsY a)).length:Int),((minsT (tsY a)).length:Int),(),false,a)
 q6:lfr_q6 xs ys=b
 q7:lfr_q7 xs ys=sumF (a,b)
 q8:lfr_q8 xs ys=frontY (sumF (a,b)).1
theorem lfr_pre (xs ys:List Y):lfr_q1 xs ys=xs.take 60∧lfr_q2 xs ys=frontY (xs.take 60):=by
 have e1:lfr_q1 xs ys=xs.take 60:=by simp only[lfr_q1,El.ag_eq]
 exact ⟨e1,by simp only[lfr_q2,El.ag_eq,e1]⟩
theorem lfr_qs (xs ys:List Y) (h:(frontY (xs.take 60)).2=0):LfrQ xs ys (xs.take 60) (ys.take 60):=by
 have l1:=s60 xs
 obtain ⟨e1,e2⟩:=lfr_pre xs ys
 obtain ⟨h1,h2,h3,h4⟩:=front_is h
 have hk:=k60 l1
 have e3:lfr_q3 xs ys=there (xs.take 60):=by simp only[lfr_q3,El.ag_eq,e1,times_is h1]
 have hl:(there (xs.take 60)).length≤1000000:=Nat.le_trans (there_len _) hk
 have e4:lfr_q4 xs ys=(.exit 0,there (xs.take 60),((there (xs.take 60)).length:Int),((there (xs.take 60)).length:Int),(),false,minsT (tsY (xs.take 60)),.ready,none):=by
  unfold lfr_q4
  simp only[El.ag_eq,e3,e2,h3]
  exact lf_run _ false _ hl fun v hv=>front_cov h2 hv
 have e5:lfr_q5 xs ys=(.exit 2,minsT (tsY (xs.take 60)),((minsT (tsY (xs.take 60))).length:Int),((minsT (tsY (xs.take 60))).length:Int),(),false,xs.take 60):=by
  unfold lfr_q5
  simp only[El.ag_eq,e4,e1]
  exact fl_run _ false _ (Nat.le_trans h4 (by unfold maxLen;decide)) hk fun t ht=>by
   obtain ⟨p1,p2⟩:=front_get hk h1 ht
   rw[p2];exact p1
 have e6:lfr_q6 xs ys=ys.take 60:=by simp only[lfr_q6,El.ag_eq]
 have e7:lfr_q7 xs ys=sumF (xs.take 60,ys.take 60):=by simp only[lfr_q7,El.ag_eq,e5,e6]
 exact ⟨e1,e2,e3,e4,e5,e6,e7,by simp only[lfr_q8,El.ag_eq,e7]⟩
theorem lfr_eq (xs ys:List Y):lfr_F xs ys=true:=by
 obtain ⟨e1,e2⟩:=lfr_pre xs ys
 unfold lfr_F
 rw[e2]
 simp only[Bool.not_true,Bool.false_or]
 cases h0:((frontY (xs.take 60)).2 != (0:Int)) with
 | true=>rfl
 | false=>
  have h:=bne0 h0
  have q:=lfr_qs xs ys h
  have x1:exB Ex.ret (lfr_q4 xs ys).1=false:=by rw[q.q4];rfl
  have x2:exB Ex.ret (lfr_q5 xs ys).1=false:=by rw[q.q5];rfl
  rw[x1,x2,q.q4,q.q7,q.q6,q.q8]
  simp only[cond_false,El.ag_eq]
  cases h1:((sumF (xs.take 60,ys.take 60)).2 != (0:Int)) with
  | true=>rfl
  | false=>
   cases h2:plainY (ys.take 60) with
   | false=>rfl
   | true=>
    cases h3:((frontY (sumF (xs.take 60,ys.take 60)).1).2 != (0:Int)) with
    | true=>rfl
    | false=>
     have:=front_more (Nat.le_trans (Nat.add_le_add (s60 xs) (s60 ys)) (by unfold KS;decide)) (front_is h).1 (bne0 h1) h2 (bne0 h3)
     simp only[Bool.not_true,Bool.false_or,cond_false]
     exact this
theorem lfr_si (xs ys:List Y):lfr_side xs ys:=by
 obtain ⟨e1,e2⟩:=lfr_pre xs ys
 have l1:=s60 xs
 have l2:=s60 ys
 have hk:=k60 l1
 simp only[lfr_side,El.okL_eq,El.ag_eq,e1,e2,hk,true_and,Bool.not_true,Bool.false_or]
 intro h0
 have h:=bne0 h0
 have q:=lfr_qs xs ys h
 obtain ⟨h1,h2,h3,h4⟩:=front_is h
 have hl:(there (xs.take 60)).length≤1000000:=Nat.le_trans (there_len _) hk
 have h4':(minsT (tsY (xs.take 60))).length≤maxLen:=Nat.le_trans h4 (by unfold maxLen;decide)
 have hs:=sum_len (xs.take 60) (ys.take 60)
 have k:KS=1000000:=rfl
 rw[q.q3]
 refine ⟨rfl,rfl,lf_ix _ _ _ hl,fun _=>?_⟩
 rw[q.q4]
 refine ⟨fl_ix _ _ _ h4' hk,fun _=>?_⟩
 rw[q.q5,q.q6,q.q7]
 simp only[implies_true,true_and,and_true]
 exact ⟨by omega,fun _=>by omega⟩
theorem lfr_ok:FnPure Try.prog 12 aLLY dBool (fun _=>true) (fun _=>[]):=
 pure_congr (lfr_okS _ fun g _ _=>lfr_si _ _) fun g _ _=>lfr_eq _ _
end Go.Proofs.Ytiipneclghnfhaa

namespace Go.Proofs.Ytiipneclghnfhaa
open Go.RowKit Go.Sx
def W1 (n:Int):Prop:=(Lit.int .i64 n).wf=true
def W4 (a:I4):Prop:=W1 a.1∧W1 a.2.1∧W1 a.2.2.1∧W1 a.2.2.2
def W6 (a:I6):Prop:=W1 a.1∧W1 a.2.1∧W4 a.2.2
def W8 (a:I8):Prop:=W1 a.1∧W1 a.2.1∧W1 a.2.2.1∧W1 a.2.2.2.1∧W4 a.2.2.2.2
def S.W (s:S):Prop:=W8 s.toP
def T.W (t:T):Prop:=W6 t.toP
theorem rd2:Rd Try.prog 2 eI W1:=rd_int Try.underlying2
theorem rd3:Rd Try.prog 3 eI W1:=rd_int Try.underlying3
theorem rd28:Rd Try.prog 28 e4 W4:=rd_array (ts:=[2,2,2,2]) Try.underlying28 rfl (by kernel_rfl) (rds_cons rd2 (rds_cons rd2 (rds_cons rd2 (rds_one rd2))))
theorem rd30:Rd Try.prog 30 eT T.W:=rd_iso (Q:=W6) (rd_struct (ts:=[2,3,28]) Try.underlying30 rfl (by kernel_rfl) (rds_cons rd2 (rds_cons rd3 (rds_one rd28)))) _ _ _ _
end Go.Proofs.Ytiipneclghnfhaa

namespace Go.Proofs.Ytiipneclghnfhaa
open Go.RowKit Go.Sx
abbrev W7 (a:T×Int):Prop:=T.W a.1∧W1 a.2
def Y.W (y:Y):Prop:=W7 y.toP
theorem rd45:Rd Try.prog 45 eY Y.W:=rd_iso (Q:=W7) (rd_struct (ts:=[30,2]) Try.underlying45 rfl (by kernel_rfl) (rds_cons rd30 (rds_one rd2))) _ _ _ _
theorem rdvLY:RdV Try.prog 40 dLY (fun l=>∀ s∈l,Y.W s):=rdv_slice Try.underlying40 (by kernel_rfl) (by decide) rd45
end Go.Proofs.Ytiipneclghnfhaa

namespace Go.Proofs.Ytiipneclghnfhaa
open Go.ChangeShapes Go.WideShapes Go.ChangeAt Go.RowKit Go.Sx
theorem Try.own:ownKnob Try.prog.godebug=none:=by kernel_rfl
theorem Try.laidOut:laidOutB Try.prog=true:=by kernel_rfl
set_option maxRecDepth 100000 in
theorem multFrontier_lifted (law:FnPure Try.prog 12 aLLY dBool (fun _=>true) (fun _=>[])) (os:Os) (started:os.Started) (H:Type) (enc:TypeId×Value→H) :
  ReturnsInHanded {} Try.checked os 12 .any (Rows.multFrontierSpec.pre6 enc Try.prog Try.f12 Rows.multFrontierRow.domain false) (Rows.multFrontierSpec.post enc Try.prog Try.f12 false true false false):=by
 refine returnsInHanded_of_change (C:=Try.checked) Try.own started (by kernel_rfl) Try.func12
  (ChangeSpec.witness6 (enc:=enc) (C:=Try.checked) false ⟨#[],#[.slice none 0 0,.slice none 0 0],[]⟩ 8 (by kernel_rfl) (by kernel_rfl) (by kernel_rfl) (by kernel_rfl)) ?_
 intro W base args ds gs before hval0 hW hcnd _
 have hval:∀ (j:Nat) t v,Try.f12.params[j]?=some t→args[j]?=some v→Value.okWide Try.prog W .any base t v:=hval0
 have hW':=hW
 obtain ⟨p,q,hA0,hV,rfl,hfz,hnd⟩:=hW
 have hA:DataW.TrodAll enc Try.prog W 0 (fun _=>true) true Try.f12.params.toList args.toList ds p:=hA0
 rw[Try.params12] at hA hval
 obtain ⟨v0,vs0,d0,ds0,p0,qq0,hargs,rfl,rfl,h0,r0⟩:=trodAll_cons hA
 obtain ⟨v1,vs1,d1,ds1,p1,qq1,rfl,rfl,rfl,h1,r1⟩:=trodAll_cons r0
 obtain ⟨rfl,rfl,rfl⟩:=trodAll_nil r1
 obtain rfl:args=#[v0,v1]:=by cases args;simp_all
 obtain ⟨rfl,rfl⟩:=trodVars_none hV
 obtain ⟨a0,q0,f0⟩:=rdvLY _ _ _ _ _ _ _ _ _ _ _ (hval 0 40 v0 rfl rfl) h0
 obtain ⟨a1,q1,f1⟩:=rdvLY _ _ _ _ _ _ _ _ _ _ _ (hval 1 40 v1 rfl rfl) h1
 have lt:∀ {t:TypeId} {v:Value} {d:DataW H} {ps:List MemPlace},DataW.Trod enc Try.prog W 0 (fun _=>true) true t v d ps→∀ x∈ps,x.block<W.heap.size:=by
  rintro t v d ps ⟨m,hm⟩
  exact DataW.trod_lt m _ _ _ hm
 clear hA0 hval0
 refine (law W (fun b=>W.heap[b]?) (a0,a1) [v0,v1] (fun _ _ h=>h) (by simp) ⟨f0,f1,trivial⟩).mono fun e W' ⟨x,he,bel,hx⟩=>?_
 obtain rfl:x=.bool true:=by simpa [dBool,SV.fit] using hx
 subst he
 exact ⟨_,rfl,_,_,_,[],_,[],hW',trodAll_mk1 (shut_bool Try.underlying4 _),
  (trodAll_cons_mk (Below.trod Try.laidOut (by kernel_rfl) (of_decide_eq_true (by kernel_rfl)) h0 bel (lt h0))
  (trodAll_cons_mk (Below.trod Try.laidOut (by kernel_rfl) (of_decide_eq_true (by kernel_rfl)) h1 bel (lt h1)) trodAll_mk0)),rfl,bel.frame _,fun h=>by cases h⟩
theorem multFrontier_over (law:FnPure Try.prog 12 aLLY dBool (fun _=>true) (fun _=>[])):Rows.MultFrontierSaid:=
 OpenClaim.holds_of_wide 12 Try.f12 rfl rfl rfl rfl rfl rfl rfl ⟨rfl,rfl,rfl,rfl,rfl⟩ rfl rfl rfl rfl rfl (by kernel_rfl) Try.func12 (by kernel_rfl)
  (of_decide_eq_true (by kernel_rfl)) (by unfold Func.isWrapper;first | (rw[if_pos (by decide +kernel)];kernel_rfl) | (rw[if_neg (by decide +kernel)];exact ⟨rfl,rfl⟩))
  (fun os started H enc _=>multFrontier_lifted law os started H enc)
end Go.Proofs.Ytiipneclghnfhaa

namespace Go.Proofs.Ytiipneclghnfhaa
open Go.RowKit Go.Sx
theorem multFrontier_holds:Rows.MultFrontierSaid:=multFrontier_over lfr_ok
end Go.Proofs.Ytiipneclghnfhaa
