/- Chapter 5: pieces: contracts of loops. -/
import Derived.Test.YtmegbepjdololaaDoorZG138af5f0
import Derived.Test.YtmegbepjdololaaDoorZG060d0332
import Derived.Test.YtmegbepjdololaaDoorZG073d212a
import Derived.Test.YtmegbepjdololaaDoorZG08081c29
import Derived.Test.YtmegbepjdololaaDoorCards
set_option linter.unusedVariables false
set_option linter.unusedSimpArgs false
set_option linter.constructorNameAsVariable false
set_option linter.all false

namespace Go.Proofs.YtmegbepjdololaaDoor
open Go.RowKit Go.Sx Go.Lp
set_option maxRecDepth 100000
theorem mnF (z:Bool) (a b:Int):List.foldl (fun a (x:Bool×IntKind×Int)=>bif false then if x.snd.snd > a then x.snd.snd else a else if x.snd.snd<a then x.snd.snd else a) a [(z,IntKind.i64,b)]=min a b:=minI_eq a b
theorem byt32 (h:32<Tryd.prog.types.size):(Tryd.prog.types[(32:Nat)]'h).bytes=24:=by kernel_rfl
theorem byt46b (h:46<Tryd.prog.types.size):(Tryd.prog.types[(46:Nat)]'h).bytes=24:=by kernel_rfl
theorem lst_ap (o:Pcs) (y:List Rec):(eList eR).lst (min (List.length o+1) (List.length o)) ((eList eR).els o)++List.map (fun _=>y) (List.range (List.length o+1 - List.length o))=o++[y]:=lst_app1 (eList eR) o y
def bta_P (l:List Rec) (o:Pcs):Prop:=List.length o+l.length≤1000000
abbrev bta_I (g:bta_G):List Prop:=[bta_P g.1 g.2]
abbrev bta_M (g:bta_G):Nat:=g.1.length
noncomputable abbrev bta_RR (g:bta_G):Ex×bta_G:=bta_R g.1 g.2
theorem bta_RF (l:List Rec) (o:Pcs):bta_R l o=if l.length=0 then (.exit 0,l,o) else (.normal,l.drop 64,o++[l.take 64]):=by
 unfold bta_R
 simp only[mnF,El.ag_eq,lst_ap]
 by_cases h:l.length=0
 ·rw[if_pos h,decide_eq_false (by omega)]
  rfl
 ·rw[if_neg h,decide_eq_true (by omega),cond_true]
  have e1:eR.lst (min (l.length:Int) 64).toNat (eR.els l)=l.take 64:=by
   rw[El.lst_take _ _ _ (by omega)]
   by_cases h2:l.length≤64
   ·rw[List.take_of_length_le (by omega),List.take_of_length_le h2]
   ·congr 1;omega
  have e2:eR.lst (l.length - (min (l.length:Int) 64).toNat) (shEl (min (l.length:Int) 64).toNat (eR.els l))=l.drop 64:=by
   rw[El.lst_sh _ _ _ _ (by omega),List.take_of_length_le (by rw[List.length_drop];omega)]
   by_cases h2:l.length≤64
   ·rw[List.drop_of_length_le (by omega),List.drop_of_length_le h2]
   ·congr 1;omega
  rw[e1,e2]
theorem bta_goes:Goes bta_RR bta_M fun g=>allP (bta_I g):=by
 rintro ⟨l,o⟩ hi hn
 have h:bta_P l o:=hi _ (List.mem_cons_self ..)
 have eq:bta_RR (l,o)=_:=bta_RF l o
 rw[eq] at hn ⊢
 by_cases h0:l.length=0
 ·rw[if_pos h0] at hn;cases hn
 ·rw[if_neg h0]
  refine ⟨fun p hp=>?_,?_⟩
  ·rw[List.mem_singleton.1 hp]
   unfold bta_P at h
   show bta_P (l.drop 64) (o++[l.take 64])
   unfold bta_P
   rw[List.length_append,List.length_drop]
   simp only[List.length_cons,List.length_nil]
   omega
  ·show (l.drop 64).length<l.length
   rw[List.length_drop]
   omega
theorem bta_ok:∀ b∈loopsOf Tryd.prog 28,lkey b=2→LoopOk Tryd.prog b (bta_C bta_I bta_M).g:=by
 refine bta_loop bta_I bta_M (fun g hi=>?_) bta_goes
 obtain ⟨l,o⟩:=g
 have h:bta_P l o:=hi _ (List.mem_cons_self ..)
 unfold bta_P at h
 show bta_side l o
 unfold bta_side
 simp only[mnF,El.okL_eq,El.ag_eq,byt32,El.lst_length]
 unfold maxLen KS
 refine ⟨fun hc=>?_,fun _=>⟨trivial,Nat.le_refl _,fun _ _ p hp=>by rw[List.mem_singleton.1 hp];trivial⟩⟩
 have hc:=of_decide_eq_true hc
 refine ⟨by omega,fun e _=>eR.ok_els l e,by omega,⟨Nat.le_refl _,trivial,by omega,by omega⟩,Nat.le_refl _,by omega,fun e _=>eR.ok_els l _,Nat.le_refl _,fun _ _ p hp=>by rw[List.mem_singleton.1 hp];trivial,fun _ _ p hp=>by rw[List.mem_singleton.1 hp];trivial⟩
theorem bta_run (l:List Rec) (o:Pcs) (h:bta_P l o):loopF bta_RR bta_M (l,o)=(.exit 0,[],o++pieces 64 l):=by
 refine loopF_induct bta_goes (Q:=fun g r=>r=(.exit 0,[],g.2++pieces 64 g.1)) ?_ ?_ (l,o) (fun p hp=>by rw[List.mem_singleton.1 hp];exact h)
 ·rintro ⟨l,o⟩ hi hn
  have eq:bta_RR (l,o)=_:=bta_RF l o
  rw[eq] at hn ⊢
  by_cases h0:l.length=0
  ·rw[if_pos h0]
   show _=(Ex.exit 0,[],o++pieces 64 l)
   rw[pieces_nil h0,List.append_nil,List.length_eq_zero_iff.1 h0]
  ·rw[if_neg h0] at hn;exact absurd rfl hn
 ·rintro ⟨l,o⟩ g' r hi he _ _ hq
  have eq:bta_RR (l,o)=_:=bta_RF l o
  rw[eq] at he
  by_cases h0:l.length=0
  ·rw[if_pos h0] at he;cases he
  ·rw[if_neg h0] at he
   simp only[Prod.mk.injEq,true_and] at he
   subst he
   rw[hq]
   show (Ex.exit 0,([]:List Rec),(o++[l.take 64])++pieces 64 (l.drop 64))=(Ex.exit 0,[],o++pieces 64 l)
   rw[pieces_step (by decide) h0,List.append_assoc]
   rfl
def btb_P (l:List Rec) (o:Pcs) (i:Int):Prop:=l.length≤1000000∧0≤i∧i≤l.length+64∧(List.length o:Int)≤i
abbrev btb_I (g:btb_G):List Prop:=[btb_P g.1 g.2.1 g.2.2]
abbrev btb_M (g:btb_G):Nat:=((g.1.length:Int) - g.2.2).toNat
noncomputable abbrev btb_RR (g:btb_G):Ex×btb_G:=btb_R g.1 g.2.1 g.2.2
theorem btb_RF (l:List Rec) (o:Pcs) (i:Int) (h:btb_P l o i):btb_R l o i=if i<(l.length:Int) then (.normal,l,o++[(l.drop i.toNat).take 64],i+64) else (.exit 0,l,o,i):=by
 obtain ⟨h1,h2,h3,h4⟩:=h
 unfold btb_R
 rw[wr64 (x:=i+64) (by omega)]
 simp only[mnF,El.ag_eq,lst_ap]
 by_cases h:i<(l.length:Int)
 ·rw[if_pos h,decide_eq_true h,cond_true]
  have e1:eR.lst (0+((min (i+64) (l.length:Int)).toNat - i.toNat)) (ElE.app 0 (ElE.fn fun _=>[]) (ElE.fn (shEl i.toNat (eR.els l)))).at=(l.drop i.toNat).take 64:=by
   have e0:(ElE.app 0 (ElE.fn fun _=>[]) (ElE.fn (shEl i.toNat (eR.els l)))).at=shEl i.toNat (eR.els l):=by
    funext e
    simp[ElE.at]
   rw[e0,Nat.zero_add,El.lst_sh _ _ _ _ (by omega)]
   by_cases h2:(l.drop i.toNat).length≤64
   ·rw[List.take_of_length_le (by rw[List.length_drop] at h2 ⊢;omega),List.take_of_length_le h2]
   ·rw[List.length_drop] at h2
    congr 1;omega
  rw[e1]
 ·rw[if_neg h,decide_eq_false h]
  rfl
theorem btb_step {l:List Rec} {o:Pcs} {i:Int} (h:btb_P l o i) (hlt:i<(l.length:Int)):btb_P l (o++[(l.drop i.toNat).take 64]) (i+64):=by
 obtain ⟨h1,h2,h3,h4⟩:=h
 refine ⟨h1,by omega,by omega,?_⟩
 rw[List.length_append]
 simp only[List.length_cons,List.length_nil]
 omega
theorem btb_goes:Goes btb_RR btb_M fun g=>allP (btb_I g):=by
 rintro ⟨l,o,i⟩ hi hn
 have h:btb_P l o i:=hi _ (List.mem_cons_self ..)
 have eq:btb_RR (l,o,i)=_:=btb_RF l o i h
 rw[eq] at hn ⊢
 by_cases h0:i<(l.length:Int)
 ·rw[if_pos h0]
  refine ⟨fun p hp=>by rw[List.mem_singleton.1 hp];exact btb_step h h0,?_⟩
  show ((l.length:Int) - (i+64)).toNat<((l.length:Int) - i).toNat
  omega
 ·rw[if_neg h0] at hn;cases hn
theorem btb_ok:∀ b∈loopsOf Tryd.prog 29,lkey b=3→LoopOk Tryd.prog b (btb_C btb_I btb_M).g:=by
 refine btb_loop btb_I btb_M (fun g hi=>?_) btb_goes
 obtain ⟨l,o,i⟩:=g
 have h:btb_P l o i:=hi _ (List.mem_cons_self ..)
 obtain ⟨h1,h2,h3,h4⟩:=h
 have h4:(List.length o:Int)≤i:=h4
 show btb_side l o i
 unfold btb_side
 rw[wr64 (x:=i+64) (by omega)]
 simp only[mnF,El.okL_eq,El.ag_eq,byt32,byt46b]
 unfold maxLen
 refine ⟨fun hc=>?_,fun _=>⟨trivial,Nat.le_refl _,fun _ _ p hp=>by rw[List.mem_singleton.1 hp];trivial⟩⟩
 have hc:=of_decide_eq_true hc
 refine ⟨by omega,by omega,⟨trivial,fun e _=>eR.one_els l _,by omega,by omega⟩,Nat.le_refl _,⟨Nat.le_refl _,trivial,by omega,by omega⟩,trivial,Nat.le_refl _,fun _ _ p hp=>by rw[List.mem_singleton.1 hp];trivial,fun _ _ p hp=>?_⟩
 rw[List.mem_singleton.1 hp]
 intro e _
 simp only[ElE.at]
 exact eR.ok_els l _
theorem btb_run (l:List Rec) (o:Pcs) (i:Int) (h:btb_P l o i):(loopF btb_RR btb_M (l,o,i)).1=.exit 0∧(loopF btb_RR btb_M (l,o,i)).2.2.1=o++pieces 64 (l.drop i.toNat):=by
 refine loopF_induct btb_goes (Q:=fun g r=>r.1=.exit 0∧r.2.2.1=g.2.1++pieces 64 (g.1.drop g.2.2.toNat)) ?_ ?_ (l,o,i) (fun p hp=>by rw[List.mem_singleton.1 hp];exact h)
 ·rintro ⟨l,o,i⟩ hi hn
  have h:btb_P l o i:=hi _ (List.mem_cons_self ..)
  have eq:btb_RR (l,o,i)=_:=btb_RF l o i h
  rw[eq] at hn ⊢
  by_cases h0:i<(l.length:Int)
  ·rw[if_pos h0] at hn;exact absurd rfl hn
  ·rw[if_neg h0]
   refine ⟨rfl,?_⟩
   show o=o++pieces 64 (l.drop i.toNat)
   rw[pieces_nil (by rw[List.length_drop];omega),List.append_nil]
 ·rintro ⟨l,o,i⟩ g' r hi he _ _ hq
  have h:btb_P l o i:=hi _ (List.mem_cons_self ..)
  have eq:btb_RR (l,o,i)=_:=btb_RF l o i h
  rw[eq] at he
  by_cases h0:i<(l.length:Int)
  ·rw[if_pos h0] at he
   simp only[Prod.mk.injEq,true_and] at he
   subst he
   refine ⟨hq.1,?_⟩
   rw[hq.2]
   have h2:=h.2.1
   show (o++[(l.drop i.toNat).take 64])++pieces 64 (l.drop (i+64).toNat)=o++pieces 64 (l.drop i.toNat)
   rw[pieces_step (l:=l.drop i.toNat) (by decide) (by rw[List.length_drop];omega),List.drop_drop,show (i+64).toNat=i.toNat+64 by omega,List.append_assoc]
   rfl
  ·rw[if_neg h0] at he;cases he
noncomputable def eqf_S (c:eqf_GC) (b:eqf_GB) (i:Int) (v:List Rec):Ex×eqf_GB:=bif !decide (v=List.getD c.1 i.toNat (eList eR).dflt) then (.ret,((),false)) else (.normal,b)
def eqf_K (c:eqf_GC) (_:eqf_GB) (_:Int):Prop:=List.length c.2.1=List.length c.1∧∀ e:Nat,(List.getD c.2.1 e (eList eR).dflt).length≤KB
abbrev eqf_I (g:eqf_G):List Prop:=ixI (fun c:eqf_GC=>c.2.2) (fun c=>c.2.1) eqf_K (eqf_f g)
abbrev eqf_M (g:eqf_G):Nat:=ixM (fun c:eqf_GC=>c.2.2) (eqf_f g)
theorem eqf_P:ixP eqf_S (fun c:eqf_GC=>c.2.1) eqf_K:=fun _ _ _ _ h _ _=>h
noncomputable abbrev eqf_RR (g:eqf_G):Ex×eqf_G:=eqf_R g.1 g.2.1 g.2.2.1 g.2.2.2.1 g.2.2.2.2.1 g.2.2.2.2.2
theorem eqf_RF (d:Int×eqf_GC×eqf_GB) (_:allP (ixI (fun c:eqf_GC=>c.2.2) (fun c=>c.2.1) eqf_K d)):eqf_RR (eqf_g d)=((ixF 0 (fun c:eqf_GC=>c.2.2) (fun c=>c.2.1) (eList eR).dflt eqf_S d).1,eqf_g (ixF 0 (fun c:eqf_GC=>c.2.2) (fun c=>c.2.1) (eList eR).dflt eqf_S d).2):=by
 obtain ⟨i,⟨ys,xs,n⟩,⟨⟨⟩,r⟩⟩:=d
 show eqf_R ys () xs n i r=_
 unfold eqf_R ixF eqf_S
 simp only[El.ag_eq]
 cases decide (i<n) with
 | false=>rfl
 | true=>
  simp only[cond_true]
  cases !decide (List.getD xs i.toNat (eList eR).dflt=List.getD ys i.toNat (eList eR).dflt) <;> rfl
theorem eqf_ok:∀ b∈loopsOf Tryd.prog 27,lkey b=4→LoopOk Tryd.prog b (eqf_C eqf_I eqf_M).g:=by
 refine eqf_loop eqf_I eqf_M (fun g hi=>?_) (ix_conj_goes (fun _=>rfl) (fun _=>rfl) eqf_RF eqf_P)
 obtain ⟨ys,⟨⟩,xs,n,i,r⟩:=g
 obtain ⟨h1,h2,h3,h4,h5,h6⟩:=hi _ (List.mem_cons_self ..)
 have h1:n=(List.length xs:Int):=h1
 have h3:0≤i:=h3
 have h4:i≤(List.length xs:Int):=h4
 have h5:List.length xs=List.length ys:=h5
 have h6:∀ e:Nat,(List.getD xs e (eList eR).dflt).length≤KB:=h6
 show eqf_side ys () xs n i r
 unfold eqf_side
 simp only[El.okL_eq,El.ag_eq]
 refine ⟨fun hlt=>?_,fun _=>⟨trivial,trivial⟩⟩
 have hlt:=of_decide_eq_true hlt
 exact ⟨⟨h3,by omega⟩,⟨h3,by omega⟩,trivial,trivial,h6 _,fun _=>⟨trivial,trivial⟩,fun _=>⟨trivial,trivial⟩⟩
theorem eqf_run (ys xs:Pcs) (r:Bool) (hl:List.length xs≤maxLen) (hK:eqf_K (ys,xs,(List.length xs:Int)) ((),r) 0):loopF eqf_RR eqf_M (eqf_g (0,(ys,xs,(List.length xs:Int)),((),r)))=((scan 0 (eqf_S (ys,xs,(List.length xs:Int))) 0 xs ((),r)).1,eqf_g ((scan 0 (eqf_S (ys,xs,(List.length xs:Int))) 0 xs ((),r)).2.1,(ys,xs,(List.length xs:Int)),(scan 0 (eqf_S (ys,xs,(List.length xs:Int))) 0 xs ((),r)).2.2)):=
 ix_conj_run (φ:=eqf_f) (ψ:=eqf_g) (fun _=>rfl) (fun _=>rfl) eqf_RF eqf_P (ys,xs,(List.length xs:Int)) ((),r) rfl hl hK
noncomputable def ltX4:LTab Tryd.prog:=((LTab.nil.cons 28 2 (bta_C bta_I bta_M) bta_ok).cons 29 3 (btb_C btb_I btb_M) btb_ok).cons 27 4 (eqf_C eqf_I eqf_M) eqf_ok
noncomputable abbrev lamX4:Lam:=ltX4.lam
theorem lamX4_ok:∀ f k L,lamX4 f k=some L→∀ b∈loopsOf Tryd.prog f,lkey b=k→LoopOk Tryd.prog b L.g:=ltX4.ok
end Go.Proofs.YtmegbepjdololaaDoor

namespace Go.Proofs.YtmegbepjdololaaDoor
open Go.RowKit Go.Sx
set_option maxRecDepth 100000
set_option linter.unusedVariables false
abbrev rLL5:Rv Pcs:=.list (eList eR)
noncomputable def bat5_q1 (l:List Rec):Ex×bta_G:=
 loopF (fun g=>bta_R g.fst g.snd) bta_M (eR.ag l,[])
noncomputable def bat5_F (l:List Rec):Rv.T rLL5:=
 (eList eR).ag (bat5_q1 l).snd.snd
def bat5_side (l:List Rec):Prop:=
 eR.okL l∧bta_P (eR.ag l) []∧List.length (bat5_q1 l).snd.snd≤List.length (bat5_q1 l).snd.snd∧∀ (e:Nat),e<List.length (bat5_q1 l).snd.snd→∀ (p:Prop),p∈[eR.okL (List.getD (bat5_q1 l).snd.snd e (eList eR).dflt)]→p
theorem bat5_okS (pre:DA.T aLR1→List Prop) (h:∀ g,DA.bd aLR1 g→(∀ p∈pre g,p)→bat5_side g):FnPure Tryd.prog 28 aLR1 (Rv.D rLL5) (fun g=>bat5_F g) pre:=res_of_side (R:=rLL5) (Γ:=(PTab.gamz tabX3 [] [])) (Λ:=lamX4) (PTab.okz tabX3 [] []) lamX4_ok 100 default (fun g=>bat5_side g) (fun g=>by kernel_rfl) (fun g=>by kernel_rfl) h
noncomputable def btr5_q1 (l:List Rec):Ex×btb_G:=
 loopF (fun g=>btb_R g.fst g.snd.fst g.snd.snd) btb_M (eR.ag l,[],(0:Int))
noncomputable def btr5_F (l:List Rec):Rv.T rLL5:=
 (eList eR).ag (btr5_q1 l).snd.snd.fst
def btr5_side (l:List Rec):Prop:=
 eR.okL l∧btb_P (eR.ag l) [] (0:Int)∧List.length (btr5_q1 l).snd.snd.fst≤List.length (btr5_q1 l).snd.snd.fst∧∀ (e:Nat),e<List.length (btr5_q1 l).snd.snd.fst→∀ (p:Prop),p∈[eR.okL (List.getD (btr5_q1 l).snd.snd.fst e (eList eR).dflt)]→p
theorem btr5_okS (pre:DA.T aLR1→List Prop) (h:∀ g,DA.bd aLR1 g→(∀ p∈pre g,p)→btr5_side g):FnPure Tryd.prog 29 aLR1 (Rv.D rLL5) (fun g=>btr5_F g) pre:=res_of_side (R:=rLL5) (Γ:=(PTab.gamz tabX3 [] [])) (Λ:=lamX4) (PTab.okz tabX3 [] []) lamX4_ok 100 default (fun g=>btr5_side g) (fun g=>by kernel_rfl) (fun g=>by kernel_rfl) h
end Go.Proofs.YtmegbepjdololaaDoor

namespace Go.Proofs.YtmegbepjdololaaDoor
open Go.RowKit Go.Sx Go.Lp
theorem bat5_ok:FnPure Tryd.prog 28 aLR1 (Rv.D rLL5) (fun l=>pieces 64 l) (fun l=>[l.length≤1000000]):=by
 have key:∀ l:List Rec,l.length≤1000000→bat5_side l∧bat5_F l=pieces 64 l:=fun l h=>by
  have hP:bta_P l []:=by unfold bta_P;rw[List.length_nil];omega
  have hq:bat5_q1 l=(.exit 0,[],[]++pieces 64 l):=by
   rw[← bta_run l [] hP]
   unfold bat5_q1
   rw[El.ag_eq]
  unfold bat5_side bat5_F
  rw[hq]
  simp only[El.okL_eq,El.ag_eq,List.nil_append]
  exact ⟨⟨trivial,hP,Nat.le_refl _,fun _ _ p hp=>by rw[List.mem_singleton.1 hp];trivial⟩,trivial⟩
 exact pure_congr (bat5_okS _ fun l _ hp=>(key l (hp _ (List.mem_cons_self ..))).1) fun l _ hp=>(key l (hp _ (List.mem_cons_self ..))).2
theorem btr5_ok:FnPure Tryd.prog 29 aLR1 (Rv.D rLL5) (fun l=>pieces 64 l) (fun l=>[l.length≤1000000]):=by
 have key:∀ l:List Rec,l.length≤1000000→btr5_side l∧btr5_F l=pieces 64 l:=fun l h=>by
  have hP:btb_P l [] 0:=⟨h,Int.le_refl _,by omega,by rw[List.length_nil];exact Int.le_refl _⟩
  have hr:=btb_run l [] 0 hP
  have hq:(btr5_q1 l).2.2.1=pieces 64 l:=by
   have:btr5_q1 l=loopF btb_RR btb_M (l,[],0):=by
    unfold btr5_q1
    rw[El.ag_eq]
   rw[this,hr.2,List.nil_append]
   rfl
  unfold btr5_side btr5_F
  rw[hq]
  simp only[El.okL_eq,El.ag_eq]
  exact ⟨⟨trivial,hP,Nat.le_refl _,fun _ _ p hp=>by rw[List.mem_singleton.1 hp];trivial⟩,trivial⟩
 exact pure_congr (btr5_okS _ fun l _ hp=>(key l (hp _ (List.mem_cons_self ..))).1) fun l _ hp=>(key l (hp _ (List.mem_cons_self ..))).2
end Go.Proofs.YtmegbepjdololaaDoor

namespace Go.Proofs.YtmegbepjdololaaDoor
open Go.RowKit Go.Sx
set_option maxRecDepth 100000
set_option linter.unusedVariables false
end Go.Proofs.YtmegbepjdololaaDoor

namespace Go.Proofs.YtmegbepjdololaaDoor
open Go.RowKit Go.Sx
set_option maxRecDepth 100000
set_option linter.unusedVariables false
noncomputable def tabX7:PTab Tryd.prog:=(((((((tabX3.cons 28 (pconR aLR1 (Rv.D rLL5) (fun l=>Go.Lp.pieces 64 l) (fun l=>[l.length≤1000000])) (conR_ok bat5_ok)).cons 29 (pconR aLR1 (Rv.D rLL5) (fun l=>Go.Lp.pieces 64 l) (fun l=>[l.length≤1000000])) (conR_ok btr5_ok)).cons 16 (pconP .none dBool (fun _=>true) (fun _=>[])) (conP_ok lv_ok puB)).cons 23 (pconP aLR1 dBool few5_F (fun _=>[])) (conP_ok few5_ok puB)).cons 26 (pconP aLMM2 dBool (fun g=>decide (g.1=g.2)) (fun _=>[])) (conP_ok same5_ok puB)).cons 24 (pconR aLR1 dLME (fun g=>bagC g) (fun g=>[g.length≤400000])) (conR_ok bgA_ok)).cons 25 (pconR aLR1 dLME (fun g=>bagC g) (fun g=>[g.length≤400000])) (conR_ok bgB_ok))
noncomputable def lbs5_q1 (l:List Rec):dBool.T:=
 few5_F (eR.ag l)
noncomputable def lbs5_q2 (l:List Rec):List Many×Int:=
 bagC (eR.ag l)
noncomputable def lbs5_q3 (l:List Rec):Ex ×
 eqf_G:=
 loopF (fun g=>eqf_R g.fst g.snd.fst g.snd.snd.fst g.snd.snd.snd.fst g.snd.snd.snd.snd.fst g.snd.snd.snd.snd.snd) eqf_M ((eList eR).ag (Lp.pieces (64:Nat) (eR.ag l)),(),(eList eR).ag (Lp.pieces (64:Nat) (eR.ag l)),(↑(Lp.pieces (64:Nat) (eR.ag l)).length:Int),(0:Int),false)
noncomputable def lbs5_F (l:List Rec):Dv.T dBool:=
 bif !(lbs5_q1 l) then true
 else bif decide (eM.ag (lbs5_q2 l).fst=eM.ag (lbs5_q2 l).fst) then bif (lbs5_q2 l).snd==(lbs5_q2 l).snd then bif (↑(Lp.pieces (64:Nat) (eR.ag l)).length:Int) != (↑(Lp.pieces (64:Nat) (eR.ag l)).length:Int) then false else bif exB Ex.ret (lbs5_q3 l).fst then (lbs5_q3 l).snd.snd.snd.snd.snd.snd else true else false else false
def lbs5_side (l:List Rec):Prop:=
 (!true)=false→eR.okL l∧((!(lbs5_q1 l))=false→eR.okL l∧(eR.ag l).length≤(400000:Nat)∧eR.okL l∧(eR.ag l).length≤(400000:Nat)∧eM.okL (lbs5_q2 l).fst∧eM.okL (lbs5_q2 l).fst∧(decide (eM.ag (lbs5_q2 l).fst=eM.ag (lbs5_q2 l).fst)=true→((lbs5_q2 l).snd==(lbs5_q2 l).snd)=true→eR.okL l∧(eR.ag l).length≤(1000000:Nat)∧eR.okL l∧(eR.ag l).length≤(1000000:Nat)∧(((↑(Lp.pieces (64:Nat) (eR.ag l)).length:Int) != (↑(Lp.pieces (64:Nat) (eR.ag l)).length:Int))=false→(eList eR).okL (Lp.pieces (64:Nat) (eR.ag l))∧(eList eR).okL (Lp.pieces (64:Nat) (eR.ag l))∧Lp.ixJ (fun c=>c.snd.snd) (fun c=>c.snd.fst) eqf_K (eqf_f ((eList eR).ag (Lp.pieces (64:Nat) (eR.ag l)),(),(eList eR).ag (Lp.pieces (64:Nat) (eR.ag l)),(↑(Lp.pieces (64:Nat) (eR.ag l)).length:Int),(0:Int),false)))))
theorem lbs5_okS (pre:DA.T aLR1→List Prop) (h:∀ g,DA.bd aLR1 g→(∀ p∈pre g,p)→lbs5_side g):FnPure Tryd.prog 5 aLR1 dBool (fun g=>lbs5_F g) pre:=pure_of_sideS (Γ:=(PTab.gamz tabX7 [] [])) (Λ:=lamX4) (PTab.okz tabX7 [] []) lamX4_ok 100 default (fun g=>lbs5_side g) (fun g=>by kernel_rfl) (fun g=>by kernel_rfl) h
end Go.Proofs.YtmegbepjdololaaDoor

namespace Go.Proofs.YtmegbepjdololaaDoor
open Go.RowKit Go.Sx Go.Lp
set_option maxRecDepth 100000
theorem pc_K (l:List Rec) (h:l.length≤1000000) (r:Bool) (n:Int):eqf_K (pieces 64 l,pieces 64 l,n) ((),r) 0:=⟨rfl,fun e=>by
 show (List.getD (pieces 64 l) e (eList eR).dflt).length≤KB
 unfold KB
 rw[List.getD_eq_getElem?_getD]
 cases he:(pieces 64 l)[e]? with
 | none=>exact Nat.zero_le _
 | some b=>
  have:=pieces_size (by decide) l b (List.mem_of_getElem? he)
  show b.length≤_
  omega⟩
theorem eqf_same (a:Pcs) (r:Bool) (n:Int):(scan 0 (eqf_S (a,a,n)) 0 a ((),r)).1=.exit 0:=by
 have key:∀ (m:Nat) (i:Nat),a.length - i≤m→(scan 0 (eqf_S (a,a,n)) (i:Int) (a.drop i) ((),r)).1=.exit 0:=by
  intro m
  induction m with
  | zero=>
   intro i h
   rw[List.drop_of_length_le (by omega)]
   rfl
  | succ m ih=>
   intro i h
   by_cases hi:i<a.length
   ·rw[List.drop_eq_getElem_cons hi]
    have e:eqf_S (a,a,n) ((),r) (i:Int) a[i]=(.normal,((),r)):=by
     unfold eqf_S
     have:List.getD (a,a,n).1 (i:Int).toNat (eList eR).dflt=a[i]:=by
      show List.getD a (i:Int).toNat (eList eR).dflt=a[i]
      rw[Int.toNat_natCast,List.getD_eq_getElem?_getD,List.getElem?_eq_getElem hi]
      rfl
     rw[this]
     simp
    unfold scan
    rw[e]
    have:=ih (i+1) (by omega)
    exact this
   ·rw[List.drop_of_length_le (by omega)]
    rfl
 have:=key a.length 0 (by omega)
 exact this
theorem lbs5_ok:FnPure Tryd.prog 5 aLR1 dBool (fun _=>true) (fun _=>[]):=by
 have hq:∀ l:List Rec,l.length≤200→(lbs5_q3 l).1=.exit 0:=fun l h=>by
  have hr:=eqf_run (pieces 64 l) (pieces 64 l) false (by have:=pieces_len (k:=64) (by decide) l;unfold maxLen;omega) (pc_K l (by omega) false _)
  have:lbs5_q3 l=loopF eqf_RR eqf_M (eqf_g (0,(pieces 64 l,pieces 64 l,(List.length (pieces 64 l):Int)),((),false))):=by
   unfold lbs5_q3
   simp only[El.ag_eq]
   rfl
  rw[this,hr]
  exact eqf_same _ _ _
 refine pure_congr (lbs5_okS _ fun l _ _=>?_) fun l _ _=>?_
 ·show lbs5_side l
  unfold lbs5_side
  simp only[El.okL_eq,El.ag_eq]
  refine fun _=>⟨trivial,fun h=>?_⟩
  have hl:=few5_len (l:=l) (by have:=h;unfold lbs5_q1 at this;rw[El.ag_eq] at this;simpa using this)
  refine ⟨trivial,by omega,trivial,by omega,trivial,trivial,fun _ _=>⟨trivial,by omega,trivial,by omega,fun _=>⟨trivial,trivial,?_⟩⟩⟩
  exact ixJ0 rfl (by have:=pieces_len (k:=64) (by decide) l;show (pieces 64 l).length≤maxLen;unfold maxLen;omega) (pc_K l (by omega) false _)
 ·show lbs5_F l=true
  unfold lbs5_F
  cases h:lbs5_q1 l with
  | false=>rfl
  | true=>
   have hl:=few5_len (l:=l) (by have:=h;unfold lbs5_q1 at this;rwa [El.ag_eq] at this)
   rw[hq l hl]
   simp[exB]
end Go.Proofs.YtmegbepjdololaaDoor

namespace Go.Proofs.YtmegbepjdololaaDoor
open Go.ChangeShapes Go.WideShapes Go.ChangeAt Go.RowKit Go.Sx
set_option maxRecDepth 100000 in
theorem recBags_lifted (law:FnPure Tryd.prog 5 aLR1 dBool (fun _=>true) (fun _=>[])) (os:Os) (started:os.Started) (H:Type) (enc:TypeId×Value→H) :
  ReturnsInHanded {} Tryd.checked os 5 .any (fun w args=>(Rows.recBagsSpec.pre enc Tryd.prog Tryd.f5 Rows.recBagsRow.domain false w args∧laidMetH Tryd.prog Rows.recBagsRow.laid w)∧sizedMet enc Tryd.prog Tryd.f5 (OpenSpec.ofChange Rows.recBagsSpec) false w args) (Rows.recBagsSpec.post enc Tryd.prog Tryd.f5 false true false false):=by
 refine rowLaid (C:=Tryd.checked) (laid:=Rows.recBagsRow.laid) Tryd.own started (by kernel_rfl) Tryd.func5
  (ChangeSpec.witness_shaped (enc:=enc) (C:=Tryd.checked) (os:=os) (X:=fun w _=>laidMetH Tryd.prog Rows.recBagsRow.laid w) false (World.laidAll Tryd.prog os Rows.recBagsRow.laid) #[.slice none 0 0] 8 (World.laidAll_os _ _ _)
   (World.shaped_of_ZipB (by kernel_rfl) (by kernel_rfl)) (by kernel_rfl) (by kernel_rfl) (by kernel_rfl)
   (by rw[MakeChecks.laidMetH_plain _ _ _ (by kernel_rfl)];exact laidMet_laidAll _ (by kernel_rfl) (by kernel_rfl))) ?_
 intro W base args ds gs before hval0 hW hcnd hL hsh
 have hval:∀ (j:Nat) t v,Tryd.f5.params[j]?=some t→args[j]?=some v→Value.okWide Tryd.prog W .any base t v:=hval0
 have hW':=hW
 obtain ⟨p,q,hA0,hV,rfl,hfz,hnd⟩:=hW
 have hA:DataW.TrodAll enc Tryd.prog W 0 (fun _=>true) true Tryd.f5.params.toList args.toList ds p:=hA0
 rw[Tryd.params5] at hA hval
 obtain ⟨v0,vs0,d0,ds0,p0,qq0,hargs,rfl,rfl,h0,r0⟩:=trodAll_cons hA
 obtain ⟨rfl,rfl,rfl⟩:=trodAll_nil r0
 obtain rfl:args=#[v0]:=by cases args;simp_all
 obtain ⟨rfl,rfl⟩:=trodVars_none hV
 obtain ⟨a0,q0,f0⟩:=rdvLR _ _ _ _ _ _ _ _ _ _ _ (hval 0 32 v0 rfl rfl) h0
 have lt:∀ {t:TypeId} {v:Value} {d:DataW H} {ps:List MemPlace},DataW.Trod enc Tryd.prog W 0 (fun _=>true) true t v d ps→∀ x∈ps,x.block<W.heap.size:=by
  rintro t v d ps ⟨m,hm⟩
  exact DataW.trod_lt m _ _ _ hm
 clear hA0 hval0
 refine (law W (fun b=>W.heap[b]?) (a0) [v0] (fun _ _ h=>h) (rowEnv hL hsh) (by simp) ⟨f0,trivial⟩).mono fun e W' ⟨x,he,bel,hx⟩=>?_
 obtain rfl:x=.bool true:=by simpa [dBool,SV.fit] using hx
 subst he
 exact ⟨_,rfl,_,_,_,[],_,[],hW',trodAll_mk1 (shut_bool Tryd.underlying4 _),
  (trodAll_cons_mk (Below.trod Tryd.laidOut (by kernel_rfl) (of_decide_eq_true (by kernel_rfl)) h0 bel (lt h0)) trodAll_mk0),rfl,bel.frame _,fun h=>by cases h⟩
theorem recBags_row:Rows.RecBagsSaid:=
 OpenClaim.holds_of_wide 5 Tryd.f5 rfl rfl rfl rfl rfl rfl rfl ⟨rfl,rfl,rfl,rfl,rfl⟩ rfl rfl rfl rfl rfl (by kernel_rfl) Tryd.func5 (by kernel_rfl)
  (of_decide_eq_true (by kernel_rfl)) (by unfold Func.isWrapper;first | (rw[if_pos (by decide +kernel)];kernel_rfl) | (rw[if_neg (by decide +kernel)];exact ⟨rfl,rfl⟩))
  (fun os started H enc _=>recBags_lifted lbs5_ok os started H enc)
theorem recBags_holds:Rows.RecBagsCardSaid:=
 Claim7.holds_tied_plain_at .later [] [.data,.pinned] true (true, "32193793d8c897b5bc8816bf3022b22418d0ad242f639242150ef454e65964bb") false recBags_row (fun _ h=>by cases h) (by kernel_rfl) (fun _ h=>by cases h) recBags_row_tie rfl ⟨rfl,rfl⟩ (by kernel_rfl) rfl
  (fun f fn hf hfn=>by
   obtain rfl:f=5:=Option.some.inj ((show Tryd.prog.funcNamed "rivulet/rivuletlaw05.RecBags" = some 5 by kernel_rfl).symm.trans hf) |>.symm
   obtain rfl:fn=Tryd.f5:=(Option.some.inj (Tryd.func5.symm.trans hfn)).symm
   exact ⟨by kernel_rfl,fun j t ht=>by
    rw[Tryd.params5] at ht
    have hm:t∈[32]:=by simpa using Array.mem_of_getElem? ht
    have hall:([32].all fun u=>!Tryd.prog.wantsStandIn u)=true:=by kernel_rfl
    exact (show Tryd.prog.wantsStandIn t=false by simpa using List.all_eq_true.1 hall t hm)⟩)
  (by kernel_rfl)
end Go.Proofs.YtmegbepjdololaaDoor
