/- Chapter 6: Reverse, the document's turn: contracts. -/
import Derived.Test.YtmegbepjdololaaDoorZG0959b71c
import Derived.Test.YtmegbepjdololaaDoorZG064a11a0
set_option linter.unusedVariables false
set_option linter.unusedSimpArgs false
set_option linter.constructorNameAsVariable false
set_option linter.all false

namespace Go.Proofs.YtmegbepjdololaaDoor
open Go.RowKit Go.Sx Go.Lp
theorem mut_congr {α γ δ:Type} {P:Program} {f t:Nat} {A:El α} {D:DA γ} {R:RM δ} {fn fn':List α→γ→List α×δ} {pre:List α→γ→List Prop} (h:FnMut P f t A D R fn pre) (e:∀ xs g,D.bd g→xs.length≤maxLen→(∀ p∈pre xs g,p)→fn xs g=fn' xs g):FnMut P f t A D R fn' pre:=by
 intro w F L xs g v0 vs h1 hE h2 h3 h4 h5 h6
 refine (h w F L xs g v0 vs h1 hE h2 h3 h4 h5 h6).mono ?_
 rintro e' w' ⟨x,k1,k2,k3,k4⟩
 rw[e xs g (D.fb _ _ _ _ h6) h5.1 h4] at k3 k4
 exact ⟨x,k1,k2,k3,k4⟩
theorem rev_ok:FnMut Tryd.prog 95 21 e3 DA.none rUn (fun xs _=>(xs.reverse,())) (fun xs _=>[xs.length≤KB]):=
 mut_congr (rev_okS _ fun xs g _ _ hp=>by
  have h:xs.length≤KB:=hp _ (List.mem_cons_self ..)
  have h':=h
  unfold KB at h'
  show rev_side xs ()
  refine ⟨fun _ _=>trivial,⟨xs.length,xs,0,?_,rfl,Nat.zero_le _,h⟩,fun _ _=>trivial⟩
  rw[e3.ag_eq,wrS (by omega)]
  simp[rv_mk]) fun xs g _ _ hp=>by
  have h:xs.length≤KB:=hp _ (List.mem_cons_self ..)
  have h':=h
  unfold KB at h'
  obtain ⟨i',hr⟩:=rv_run0 xs h
  have hq:rev_q1 xs ()=(.exit 0,rv_mk xs.length xs.reverse i'):=by
   unfold rev_q1
   rw[e3.ag_eq,wrS (by omega)]
   exact hr
  show (e3.ag (rev_q1 xs ()).2.2.1,())=_
  rw[hq,e3.ag_eq]
  rfl
def turnN (s:BA):Nat→BA
 | 0=>ByteArray.mk #[]
 | n+1=>partS s n (n+1)++turnN s n
theorem size_ext (s:BA) (a b:Nat) (h:b≤s.size):(s.extract a b).size=b - a:=by
 rw[ByteArray.size_extract];omega
theorem turn_size (s:BA):∀ n,(turnN s n).size=posN s n
 | 0=>by simp only[posN,List.take_zero];rfl
 | n+1=>by
  show (partS s n (n+1)++turnN s n).size=_
  rw[ByteArray.size_append,turn_size s n]
  unfold partS
  rw[size_ext s _ _ (posN_le s _)]
  have:=posN_mono s (Nat.le_succ n)
  simp only[Nat.succ_eq_add_one] at this
  omega
def tn_mk (s:BA) (i:Nat):tn_G:=(s,runes05 s,turnN s i,(i:Int))
noncomputable abbrev tn_I (g:tn_G):List Prop:=[∃ s i,g=tn_mk s i∧i≤(runes05 s).length∧s.size≤KB]
noncomputable abbrev tn_M (g:tn_G):Nat:=g.2.1.length - g.2.2.2.toNat
theorem tn_F (s:BA) (i:Nat) (hi:i≤(runes05 s).length) (hN:s.size≤KB):tn_R s (runes05 s) (turnN s i) (i:Int)=if i<(runes05 s).length then (.normal,tn_mk s (i+1)) else (.exit 0,tn_mk s i):=by
 have hl:=runes05_len s
 unfold KB at hN
 unfold tn_R tn_mk
 by_cases h:i<(runes05 s).length
 ·rw[decide_eq_true (by omega),if_pos h,cond_true,Int.toNat_natCast,wrS (x:=(i:Int)+1) (by omega),show ((i:Int)+1).toNat=i+1 by omega,eU.ag_eq]
  rfl
 ·rw[decide_eq_false (by omega),if_neg h,cond_false,eU.ag_eq]
theorem tn_goes:Goes (fun g:tn_G=>tn_R g.1 g.2.1 g.2.2.1 g.2.2.2) tn_M fun g=>allP (tn_I g):=by
 intro g hi hn
 obtain ⟨s,i,rfl,h2,h3⟩:=hi _ (List.mem_cons_self ..)
 have e:=tn_F s i h2 h3
 change (tn_R s (runes05 s) (turnN s i) (i:Int)).1=.normal at hn
 change allP (tn_I (tn_R s (runes05 s) (turnN s i) (i:Int)).2)∧tn_M (tn_R s (runes05 s) (turnN s i) (i:Int)).2<_
 rw[e] at hn ⊢
 by_cases h:i<(runes05 s).length
 ·rw[if_pos h] at hn ⊢
  refine ⟨fun q hq=>?_,?_⟩
  ·simp only[List.mem_singleton] at hq
   subst hq
   exact ⟨s,i+1,rfl,h,h3⟩
  ·simp only[tn_M,tn_mk];omega
 ·rw[if_neg h] at hn;cases hn
theorem tn_ok:∀ b∈loopsOf Tryd.prog 111,lkey b=4→LoopOk Tryd.prog b (tn_C tn_I tn_M).g:=
 tn_loop tn_I tn_M (fun g hi=>by
  obtain ⟨s,i,rfl,h2,h3⟩:=hi _ (List.mem_cons_self ..)
  have hl:=runes05_len s
  have h3':=h3
  unfold KB at h3'
  show tn_side s (runes05 s) (turnN s i) (i:Int)
  unfold tn_side
  simp only[El.okL_eq,El.ag_eq,true_and,and_true,implies_true]
  intro h
  rw[wrS (x:=(i:Int)+1) (by omega),show ((i:Int)+1).toNat=i+1 by omega,Int.toNat_natCast]
  refine ⟨⟨by omega,by omega⟩,?_⟩
  have h1:=turn_size s (i+1)
  have h2:=posN_le s (i+1)
  unfold turnN at h1
  rw[ByteArray.size_append] at h1
  omega) tn_goes
theorem tn_run (s:BA) (hN:s.size≤KB):∀ (n i:Nat),i≤(runes05 s).length→(runes05 s).length - i≤n→loopF (fun g:tn_G=>tn_R g.1 g.2.1 g.2.2.1 g.2.2.2) tn_M (tn_mk s i)=(.exit 0,tn_mk s (runes05 s).length):=by
 have hI:∀ i,i≤(runes05 s).length→allP (tn_I (tn_mk s i)):=fun i h2 q hq=>by
  simp only[List.mem_singleton] at hq
  subst hq
  exact ⟨s,i,rfl,h2,hN⟩
 intro n
 induction n with
 | zero=>
  intro i h2 h3
  have e:=tn_F s i h2 hN
  rw[if_neg (by omega)] at e
  have hi:i=(runes05 s).length:=by omega
  rw[loopF_end (by show (tn_R s (runes05 s) (turnN s i) (i:Int)).1≠_;rw[e];simp)]
  show tn_R s (runes05 s) (turnN s i) (i:Int)=_
  rw[e,hi]
 | succ n ih=>
  intro i h2 h3
  have e:=tn_F s i h2 hN
  by_cases h:i<(runes05 s).length
  ·rw[if_pos h] at e
   rw[loopF_next tn_goes (hI i h2) (show tn_R s (runes05 s) (turnN s i) (i:Int)=_ from e)]
   exact ih (i+1) h (by omega)
  ·rw[if_neg h] at e
   have hi:i=(runes05 s).length:=by omega
   rw[loopF_end (by show (tn_R s (runes05 s) (turnN s i) (i:Int)).1≠_;rw[e];simp)]
   show tn_R s (runes05 s) (turnN s i) (i:Int)=_
   rw[e,hi]
def turnS (s:BA):BA:=turnN s (runes05 s).length
noncomputable def ltC13:LTab Tryd.prog:=LTab.cons ltC11 111 4 (tn_C tn_I tn_M) tn_ok
end Go.Proofs.YtmegbepjdololaaDoor

namespace Go.Proofs.YtmegbepjdololaaDoor
open Go.RowKit Go.Sx Go.Lp
set_option maxRecDepth 100000
noncomputable def hs_S (c:hs_GC) (b:hs_GB) (i:Int) (v:Rune):Ex×hs_GB:=bif v.r==c.2 then (.ret,true) else (.normal,b)
def hs_K (c:hs_GC) (b:hs_GB) (i:Int):Prop:=True
abbrev hs_I (g:hs_G):List Prop:=ixI (fun c:hs_GC=>(c.1.length:Int)) (fun c:hs_GC=>c.1) hs_K (hs_f g)
abbrev hs_M (g:hs_G):Nat:=ixM (fun c:hs_GC=>(c.1.length:Int)) (hs_f g)
theorem hs_P:ixP hs_S (fun c:hs_GC=>c.1) hs_K:=fun _ _ _ _ h _ _=>h
noncomputable abbrev hs_RR (g:hs_G):Ex×hs_G:=hs_R g.1 g.2.1 g.2.2.1 g.2.2.2
theorem hs_RF (d:Int×hs_GC×hs_GB) (hi:allP (ixI (fun c:hs_GC=>(c.1.length:Int)) (fun c:hs_GC=>c.1) hs_K d)):hs_RR (hs_g d)=((ixF 0 (fun c:hs_GC=>(c.1.length:Int)) (fun c:hs_GC=>c.1) eU.dflt hs_S d).1,hs_g (ixF 0 (fun c:hs_GC=>(c.1.length:Int)) (fun c:hs_GC=>c.1) eU.dflt hs_S d).2):=by
 obtain ⟨i,⟨xs,c⟩,r⟩:=d
 show hs_R xs c i r=_
 unfold hs_R ixF hs_S
 simp only[El.ag_eq]
 cases decide (i<(xs.length:Int)) with
 | false=>rfl
 | true=>
  simp only[cond_true]
  generalize ((xs.getD i.toNat eU.dflt).r==c)=z
  cases z <;> rfl
theorem hs_ok:∀ b∈loopsOf Tryd.prog 112,lkey b=2→LoopOk Tryd.prog b (hs_C hs_I hs_M).g:=by
 refine hs_loop hs_I hs_M (fun g hi=>?_) (ix_conj_goes (fun _=>rfl) (fun _=>rfl) hs_RF hs_P)
 obtain ⟨xs,c,i,r⟩:=g
 obtain ⟨h1,h2,h3,h4,h5⟩:=hi _ (List.mem_cons_self ..)
 have h1:(xs.length:Int)=(xs.length:Int):=h1
 have h3:0≤i:=h3
 have h5:True:=h5
 show hs_side xs c i r
 unfold hs_side
 simp only[decide_eq_true_eq,decide_eq_false_iff_not]
 have k0:∀ e:Nat,e<xs.length→eU.Ok (eU.els xs e):=fun e _=>eU.ok_els xs e
 clear hi
 repeat' (first | exact k0 | apply And.intro | intro _)
 all_goals omega
theorem hs_run (c:hs_GC) (b:hs_GB) (k1:(c.1.length:Int)=((c.1).length:Int)) (k2:(c.1).length≤maxLen) (k3:hs_K c b 0):loopF hs_RR hs_M (hs_g (0,c,b))=((scan 0 (hs_S c) 0 (c.1) b).1,hs_g ((scan 0 (hs_S c) 0 (c.1) b).2.1,c,(scan 0 (hs_S c) 0 (c.1) b).2.2)):=ix_conj_run (φ:=hs_f) (ψ:=hs_g) (fun _=>rfl) (fun _=>rfl) hs_RF hs_P c b k1 k2 k3
noncomputable def ltC14:LTab Tryd.prog:=(ltC13.cons 112 2 (hs_C hs_I hs_M) hs_ok)
noncomputable abbrev lamC14:Lam:=ltC14.lam
theorem lamC14_ok:∀ f k L,lamC14 f k=some L→∀ b∈loopsOf Tryd.prog f,lkey b=k→LoopOk Tryd.prog b L.g:=ltC14.ok
end Go.Proofs.YtmegbepjdololaaDoor

namespace Go.Proofs.YtmegbepjdololaaDoor
open Go.RowKit Go.Sx
set_option maxRecDepth 100000
set_option linter.unusedVariables false
noncomputable def trn_q1 (s:BA):Ex ×
 tn_G:=
 loopF (fun g=>tn_R g.fst g.snd.fst g.snd.snd.fst g.snd.snd.snd) tn_M (s,eU.ag (runes05 s),ByteArray.mk #[],(0:Int))
noncomputable def trn_F (s:BA):Dv.T dStr:=
 (trn_q1 s).snd.snd.snd.fst
def trn_side (s:BA):Prop:=
 ByteArray.size s≤KB∧eU.okL (runes05 s)∧∃ s_1 i,(s,eU.ag (runes05 s),ByteArray.mk #[],(0:Int))=tn_mk s_1 i∧i≤(runes05 s_1).length∧ByteArray.size s_1≤KB
theorem trn_okS (pre:DA.T aB→List Prop) (h:∀ g,DA.bd aB g→(∀ p∈pre g,p)→trn_side g):FnPure Tryd.prog 111 aB dStr (fun g=>trn_F g) pre:=pure_of_sideS (Γ:=(PTab.gamz tabC11 [] [])) (Λ:=lamC14) (PTab.okz tabC11 [] []) lamC14_ok 100 default (fun g=>trn_side g) (fun g=>by kernel_rfl) (fun g=>by kernel_rfl) h
noncomputable def has_q1 (l:List Rune) (c:Int):Ex ×
 hs_G:=
 loopF (fun g=>hs_R g.fst g.snd.fst g.snd.snd.fst g.snd.snd.snd) hs_M (eU.ag l,c,(0:Int),false)
noncomputable def has_F (l:List Rune) (c:Int):Dv.T dBool:=
 bif exB Ex.ret (has_q1 l c).fst then (has_q1 l c).snd.snd.snd.snd else false
def has_side (l:List Rune) (c:Int):Prop:=
 eU.okL l∧Lp.ixJ (fun c=>(↑c.fst.length:Int)) (fun c=>c.fst) hs_K (hs_f (eU.ag l,c,(0:Int),false))
theorem has_okS (pre:DA.T aL3c→List Prop) (h:∀ g,DA.bd aL3c g→(∀ p∈pre g,p)→has_side g.1 g.2):FnPure Tryd.prog 112 aL3c dBool (fun g=>has_F g.1 g.2) pre:=pure_of_sideS (Γ:=(PTab.gamz tabC11 [] [])) (Λ:=lamC14) (PTab.okz tabC11 [] []) lamC14_ok 100 default (fun g=>has_side g.1 g.2) (fun g=>by kernel_rfl) (fun g=>by kernel_rfl) h
noncomputable def lgr_F (a:BA) (b:BA):Dv.T dBool:=
 decide ((↑(runes05 a).length:Int) > (↑(runes05 b).length:Int))
def lgr_side (a:BA) (b:BA):Prop:=
 ByteArray.size a≤KB∧ByteArray.size b≤KB
theorem lgr_okS (pre:DA.T aBB→List Prop) (h:∀ g,DA.bd aBB g→(∀ p∈pre g,p)→lgr_side g.1 g.2):FnPure Tryd.prog 106 aBB dBool (fun g=>lgr_F g.1 g.2) pre:=pure_of_sideS (Γ:=(PTab.gamz tabC11 [] [])) (Λ:=lamC14) (PTab.okz tabC11 [] []) lamC14_ok 100 default (fun g=>lgr_side g.1 g.2) (fun g=>by kernel_rfl) (fun g=>by kernel_rfl) h
end Go.Proofs.YtmegbepjdololaaDoor

namespace Go.Sx
def PTab.del [Env] {P:Program} (t:PTab P) (f:Nat):PTab P:=⟨t.1.filter fun x=>!Nat.beq x.1 f,fun x hx=>t.2 x ((List.mem_filter.1 hx).1)⟩
end Go.Sx
namespace Go.Proofs.YtmegbepjdololaaDoor
open Go.RowKit Go.Sx Go.Lp
theorem trn_ok:FnPure Tryd.prog 111 aB dStr turnS (fun s=>[s.size≤KB]):=
 pure_congr (trn_okS _ fun s _ hp=>by
  have h:s.size≤KB:=hp _ (List.mem_cons_self ..)
  refine ⟨h,?_,s,0,?_,Nat.zero_le _,h⟩
  ·rw[eU.okL_eq];trivial
  ·rw[eU.ag_eq];rfl) fun s _ hp=>by
  have h:s.size≤KB:=hp _ (List.mem_cons_self ..)
  have hq:trn_q1 s=(.exit 0,tn_mk s (runes05 s).length):=by
   unfold trn_q1
   rw[eU.ag_eq]
   exact tn_run s h _ 0 (Nat.zero_le _) (Nat.sub_le _ _)
  show (trn_q1 s).2.2.2.1=_
  rw[hq];rfl
def hasR (l:List Rune) (c:Int):Bool:=l.any fun v=>v.r==c
theorem has_ok:FnPure Tryd.prog 112 aL3c dBool (fun g=>hasR g.1 g.2) (fun g=>[g.1.length≤KB]):=
 pure_congr (has_okS _ fun g _ hp=>by
  obtain ⟨l,c⟩:=g
  have h:l.length≤KB:=hp _ (List.mem_cons_self ..)
  unfold KB at h
  show has_side l c
  unfold has_side
  rw[eU.okL_eq,eU.ag_eq]
  exact ⟨trivial,rfl,by show l.length≤maxLen;unfold maxLen;omega,Int.le_refl _,by show (0:Int)≤(l.length:Int);omega,trivial⟩) fun g _ hp=>by
  obtain ⟨l,c⟩:=g
  have h:l.length≤KB:=hp _ (List.mem_cons_self ..)
  unfold KB at h
  have hrun:=hs_run (l,c) false rfl (by show l.length≤maxLen;unfold maxLen;omega) trivial
  have hq:has_q1 l c=loopF hs_RR hs_M (hs_g (0,(l,c),false)):=by
   unfold has_q1
   rw[eU.ag_eq]
   rfl
  show has_F l c=hasR l c
  unfold has_F hasR
  rw[hq,hrun]
  rcases search (x:=0) (st:=hs_S (l,c)) (p:=fun v=>v.r==c) (r:=fun _ _ _=>true) (fun b i a=>rfl) l false with ⟨h1,j,_,a,_,_,hs⟩ | ⟨h1,hs⟩
  ·rw[h1,hs];rfl
  ·rw[h1,hs];rfl
def longS (a b:BA):Bool:=decide ((runes05 a).length > (runes05 b).length)
theorem lgr_ok:FnPure Tryd.prog 106 aBB dBool (fun g=>longS g.1 g.2) (fun g=>[g.1.size≤KB,g.2.size≤KB]):=
 pure_congr (lgr_okS _ fun g _ hp=>⟨hp _ (List.mem_cons_self ..),hp _ (List.mem_cons_of_mem _ (List.mem_cons_self ..))⟩) fun g _ _=>by
  obtain ⟨a,b⟩:=g
  show decide (((runes05 a).length:Int) > ((runes05 b).length:Int))=decide ((runes05 a).length > (runes05 b).length)
  rw[Bool.eq_iff_iff]
  simp only[decide_eq_true_eq]
  omega
noncomputable def tabC16:PTab Tryd.prog:=((tabC11.cons 111 (pconP aB dStr turnS (fun s=>[s.size≤KB])) (conP_ok trn_ok puS)).cons 112 (pconP aL3c dBool (fun g=>hasR g.1 g.2) (fun g=>[g.1.length≤KB])) (conP_ok has_ok puB)).cons 106 (pconP aBB dBool (fun g=>longS g.1 g.2) (fun g=>[g.1.size≤KB,g.2.size≤KB])) (conP_ok lgr_ok puB)
noncomputable def tabC16m:MTab Tryd.prog:=((MTab.of (tabC16.del 93)).consM 93 (bconRow 21 e3 aB runes06 (fun s=>[s.size≤KB])) (conRow_ok frw_ok)).consM 95 (bconM 21 e3 DA.none rUn (fun xs _=>(xs.reverse,())) (fun xs _=>[xs.length≤KB])) (conM_ok rev_ok)
end Go.Proofs.YtmegbepjdololaaDoor

namespace Go.Proofs.YtmegbepjdololaaDoor
open Go.RowKit Go.Sx
set_option maxRecDepth 100000
set_option linter.unusedVariables false
noncomputable def map_F (f:Fn) (r:Rec):Dv.T dRE:=
 bif bothF (2:Int) f r != (0:Int) then (Rec.mk (0:Int) (ByteArray.mk #[]),bothF (2:Int) f r)
 else (Rec.mk (bif f.kind==(2:Int) then r.key else bif f.kind==(3:Int) then r.key else bif f.kind==(4:Int) then r.key else bif f.kind==(5:Int) then r.key else bif f.kind==(6:Int) then restF r.key f.a else bif f.kind==(7:Int) then (↑(runes06 r.text).length:Int) else bif f.kind==(8:Int) then bif decide ((↑(runes06 r.text).length:Int) > (0:Int)) then IntKind.i64.wrap ((runes06 r.text).getD (0:Nat) e3.dflt) else (0:Int) else r.key) (bif f.kind==(2:Int) then upS r.text else bif f.kind==(3:Int) then runesBytes (intsOf IntKind.i32 (List.foldl (fun a x=>bif false then if x.snd.snd > a then x.snd.snd else a else if x.snd.snd<a then x.snd.snd else a) (↑(runes06 r.text).length:Int) [(false,IntKind.i64,f.a)]).toNat (e3.els (runes06 r.text))) else bif f.kind==(4:Int) then runesBytes (intsOf IntKind.i32 (runes06 r.text).length (e3.els (e3.ag (runes06 r.text)).reverse)) else bif f.kind==(5:Int) then cutS (r.text++f.s) (64:Int) else r.text),(0:Int))
def map_side (f:Fn) (r:Rec):Prop:=
 ByteArray.size f.s≤KB∧((bothF (2:Int) f r != (0:Int))=false→ByteArray.size r.text≤KB∧((f.kind==(2:Int))=true→ByteArray.size r.text≤KB)∧((!f.kind==(2:Int))=true→(f.kind==(3:Int))=true→(0:Int)≤List.foldl (fun a x=>bif false then if x.snd.snd > a then x.snd.snd else a else if x.snd.snd<a then x.snd.snd else a) (↑(runes06 r.text).length:Int) [(false,IntKind.i64,f.a)]∧List.foldl (fun a x=>bif false then if x.snd.snd > a then x.snd.snd else a else if x.snd.snd<a then x.snd.snd else a) (↑(runes06 r.text).length:Int) [(false,IntKind.i64,f.a)]≤(↑(runes06 r.text).length:Int))∧((!f.kind==(2:Int))=true→(f.kind==(3:Int))=true→(List.foldl (fun a x=>bif false then if x.snd.snd > a then x.snd.snd else a else if x.snd.snd<a then x.snd.snd else a) (↑(runes06 r.text).length:Int) [(false,IntKind.i64,f.a)]).toNat≤(runes06 r.text).length∧∀ (e:Nat),e<(List.foldl (fun a x=>bif false then if x.snd.snd > a then x.snd.snd else a else if x.snd.snd<a then x.snd.snd else a) (↑(runes06 r.text).length:Int) [(false,IntKind.i64,f.a)]).toNat→((ElE.fn (e3.els (runes06 r.text))).at e).all SV.one=true)∧((!f.kind==(2:Int))=true→(f.kind==(3:Int))=true→∀ (e:Nat),e<(List.foldl (fun a x=>bif false then if x.snd.snd > a then x.snd.snd else a else if x.snd.snd<a then x.snd.snd else a) (↑(runes06 r.text).length:Int) [(false,IntKind.i64,f.a)]).toNat→(Sx.intOf IntKind.i32 ((ElE.fn (e3.els (runes06 r.text))).at e)).isSome=true)∧((!f.kind==(2:Int))=true→(!f.kind==(3:Int))=true→(f.kind==(4:Int))=true→(runes06 r.text).length=(runes06 r.text).length)∧((!f.kind==(2:Int))=true→(!f.kind==(3:Int))=true→(f.kind==(4:Int))=true→∀ (e:Nat),e<(runes06 r.text).length→True)∧((!f.kind==(2:Int))=true→(!f.kind==(3:Int))=true→(f.kind==(4:Int))=true→(e3.ag (runes06 r.text)).length≤KB)∧((!f.kind==(2:Int))=true→(!f.kind==(3:Int))=true→(f.kind==(4:Int))=true→(runes06 r.text).length≤(e3.ag (runes06 r.text)).reverse.length∧∀ (e:Nat),e<(runes06 r.text).length→((ElE.fn (e3.els (e3.ag (runes06 r.text)).reverse)).at e).all SV.one=true)∧((!f.kind==(2:Int))=true→(!f.kind==(3:Int))=true→(f.kind==(4:Int))=true→∀ (e:Nat),e<(runes06 r.text).length→(Sx.intOf IntKind.i32 ((ElE.fn (e3.els (e3.ag (runes06 r.text)).reverse)).at e)).isSome=true)∧((!f.kind==(2:Int))=true→(!f.kind==(3:Int))=true→(!f.kind==(4:Int))=true→(f.kind==(5:Int))=true→ByteArray.size r.text+ByteArray.size f.s≤(9223372036854775807:Nat))∧((!f.kind==(2:Int))=true→(!f.kind==(3:Int))=true→(!f.kind==(4:Int))=true→(!f.kind==(5:Int))=true→(f.kind==(6:Int))=true→(0:Int)<f.a∧f.a<(1000000000:Int))∧((!f.kind==(2:Int))=true→(!f.kind==(3:Int))=true→(!f.kind==(4:Int))=true→(!f.kind==(5:Int))=true→(!f.kind==(6:Int))=true→(!f.kind==(7:Int))=true→(f.kind==(8:Int))=true→decide ((↑(runes06 r.text).length:Int) > (0:Int))=true→(0:Int)≤(0:Int)∧(0:Int)<(↑(runes06 r.text).length:Int))∧((!f.kind==(2:Int))=true→(!f.kind==(3:Int))=true→(!f.kind==(4:Int))=true→(!f.kind==(5:Int))=true→(!f.kind==(6:Int))=true→(!f.kind==(7:Int))=true→(f.kind==(8:Int))=true→decide ((↑(runes06 r.text).length:Int) > (0:Int))=true→(0:Nat)<(runes06 r.text).length))
theorem map_okS (pre:DA.T aFR→List Prop) (h:∀ g,DA.bd aFR g→(∀ p∈pre g,p)→map_side g.1 g.2):FnPure Tryd.prog 51 aFR dRE (fun g=>map_F g.1 g.2) pre:=pure_of_sideS (Γ:=(MTab.gamz tabC16m [] [])) (Λ:=noΛ) (MTab.okz tabC16m [] []) noΛ_ok 100 default (fun g=>map_side g.1 g.2) (fun g=>by kernel_rfl) (fun g=>by kernel_rfl) h
noncomputable def rmp_F (f:Fn) (r:Rec):Dv.T dRE:=
 bif bothF (2:Int) f r != (0:Int) then (Rec.mk (0:Int) (ByteArray.mk #[]),bothF (2:Int) f r)
 else (Rec.mk (bif f.kind==(2:Int) then r.key else bif f.kind==(3:Int) then r.key else bif f.kind==(4:Int) then r.key else bif f.kind==(5:Int) then r.key else bif f.kind==(6:Int) then (IntKind.i64.wrap (r.key.tmod f.a+f.a)).tmod f.a else bif f.kind==(7:Int) then (↑(runes05 r.text).length:Int) else bif f.kind==(8:Int) then bif decide ((↑(runes05 r.text).length:Int) > (0:Int)) then IntKind.i64.wrap ((runes05 r.text).getD (0:Nat) eU.dflt).r else (0:Int) else r.key) (bif f.kind==(2:Int) then upS r.text else bif f.kind==(3:Int) then partS r.text (0:Nat) f.a.toNat else bif f.kind==(4:Int) then turnS r.text else bif f.kind==(5:Int) then cutS (r.text++f.s) (64:Int) else r.text),(0:Int))
def rmp_side (f:Fn) (r:Rec):Prop:=
 ByteArray.size f.s≤KB∧((bothF (2:Int) f r != (0:Int))=false→ByteArray.size r.text≤KB∧((f.kind==(2:Int))=true→ByteArray.size r.text≤KB)∧((!f.kind==(2:Int))=true→(f.kind==(3:Int))=true→eU.okL (runes05 r.text))∧((!f.kind==(2:Int))=true→(f.kind==(3:Int))=true→eU.ag (runes05 r.text)=runes05 r.text)∧((!f.kind==(2:Int))=true→(f.kind==(3:Int))=true→(0:Int)≤(0:Int)∧(0:Int)≤f.a)∧((!f.kind==(2:Int))=true→(!f.kind==(3:Int))=true→(f.kind==(4:Int))=true→ByteArray.size r.text≤KB)∧((!f.kind==(2:Int))=true→(!f.kind==(3:Int))=true→(!f.kind==(4:Int))=true→(f.kind==(5:Int))=true→ByteArray.size r.text+ByteArray.size f.s≤(9223372036854775807:Nat))∧((!f.kind==(2:Int))=true→(!f.kind==(3:Int))=true→(!f.kind==(4:Int))=true→(f.kind==(5:Int))=true→(r.text++f.s).size≤KB)∧((!f.kind==(2:Int))=true→(!f.kind==(3:Int))=true→(!f.kind==(4:Int))=true→(!f.kind==(5:Int))=true→(f.kind==(6:Int))=true→f.a≠(0:Int))∧((!f.kind==(2:Int))=true→(!f.kind==(3:Int))=true→(!f.kind==(4:Int))=true→(!f.kind==(5:Int))=true→(f.kind==(6:Int))=true→f.a≠(0:Int))∧((!f.kind==(2:Int))=true→(!f.kind==(3:Int))=true→(!f.kind==(4:Int))=true→(!f.kind==(5:Int))=true→(!f.kind==(6:Int))=true→(!f.kind==(7:Int))=true→(f.kind==(8:Int))=true→decide ((↑(runes05 r.text).length:Int) > (0:Int))=true→(0:Int)≤(0:Int)∧(0:Int)<(↑(runes05 r.text).length:Int)))
theorem rmp_okS (pre:DA.T aFR→List Prop) (h:∀ g,DA.bd aFR g→(∀ p∈pre g,p)→rmp_side g.1 g.2):FnPure Tryd.prog 64 aFR dRE (fun g=>rmp_F g.1 g.2) pre:=pure_of_sideS (Γ:=(MTab.gamz tabC16m [] [])) (Λ:=noΛ) (MTab.okz tabC16m [] []) noΛ_ok 100 default (fun g=>rmp_side g.1 g.2) (fun g=>by kernel_rfl) (fun g=>by kernel_rfl) h
end Go.Proofs.YtmegbepjdololaaDoor

namespace Go.Proofs.YtmegbepjdololaaDoor
open Go.RowKit Go.Sx
set_option maxRecDepth 100000
set_option linter.unusedVariables false
noncomputable def mea_F (f:Fn) (r:Rec):Dv.T dII:=
 bif bothF (11:Int) f r != (0:Int) then ((0:Int),bothF (11:Int) f r)
 else bif f.kind==(41:Int) then ((1:Int),(0:Int)) else ((↑(runes06 r.text).length:Int),(0:Int))
def mea_side (f:Fn) (r:Rec):Prop:=
 ByteArray.size f.s≤KB∧((bothF (11:Int) f r != (0:Int))=false→(f.kind==(41:Int))=false→ByteArray.size r.text≤KB)
theorem mea_okS (pre:DA.T aFR→List Prop) (h:∀ g,DA.bd aFR g→(∀ p∈pre g,p)→mea_side g.1 g.2):FnPure Tryd.prog 68 aFR dII (fun g=>mea_F g.1 g.2) pre:=pure_of_sideS (Γ:=(PTab.gamz tabC16 [] [])) (Λ:=noΛ) (PTab.okz tabC16 [] []) noΛ_ok 100 default (fun g=>mea_side g.1 g.2) (fun g=>by kernel_rfl) (fun g=>by kernel_rfl) h
noncomputable def rme_F (f:Fn) (r:Rec):Dv.T dII:=
 bif bothF (11:Int) f r != (0:Int) then ((0:Int),bothF (11:Int) f r)
 else bif f.kind==(41:Int) then ((1:Int),(0:Int)) else ((↑(runes05 r.text).length:Int),(0:Int))
def rme_side (f:Fn) (r:Rec):Prop:=
 ByteArray.size f.s≤KB∧((bothF (11:Int) f r != (0:Int))=false→(f.kind==(41:Int))=false→ByteArray.size r.text≤KB)
theorem rme_okS (pre:DA.T aFR→List Prop) (h:∀ g,DA.bd aFR g→(∀ p∈pre g,p)→rme_side g.1 g.2):FnPure Tryd.prog 69 aFR dII (fun g=>rme_F g.1 g.2) pre:=pure_of_sideS (Γ:=(PTab.gamz tabC16 [] [])) (Λ:=noΛ) (PTab.okz tabC16 [] []) noΛ_ok 100 default (fun g=>rme_side g.1 g.2) (fun g=>by kernel_rfl) (fun g=>by kernel_rfl) h
end Go.Proofs.YtmegbepjdololaaDoor

namespace Go.Proofs.YtmegbepjdololaaDoor
open Go.RowKit Go.Sx Go.Lp
theorem toL_inj {a b:BA} (h:toL a=toL b):a=b:=by
 rw[← ofToL a,← ofToL b]
 show (⟨(toL a).toArray⟩:ByteArray)=⟨(toL b).toArray⟩
 rw[h]
theorem toL_app (a b:BA):toL (a++b)=toL a++toL b:=by
 show (a++b).data.toList=_
 rw[ByteArray.data_append,Array.toList_append]
theorem toL_ext (s:BA) (a b:Nat):toL (s.extract a b)=((toL s).take b).drop a:=by
 show (s.extract a b).data.toList=_
 rw[ByteArray.data_extract,Array.toList_extract,List.extract_eq_drop_take]
 rw[List.drop_take]
theorem rb_fold (E:Int→BA) (cs:List Nat):∀ a:BA,toL ((cs.map fun (c:Nat)=>(c:Int)).foldl (fun r n=>r++E n) a)=toL a++cs.flatMap fun (c:Nat)=>toL (E (c:Int)):=by
 induction cs with
 | nil=>intro a;simp
 | cons c cs ih=>
  intro a
  rw[List.map_cons,List.foldl_cons,ih,toL_app,List.flatMap_cons,List.append_assoc]
theorem encL_eq (c:Nat):encL c=(Utf8.encode (c:Int)).data.toList:=by rw[encL]
theorem rb_key (E:Int→BA) (L:Nat→List UInt8) (h:∀ c:Nat,L c=(E (c:Int)).data.toList) (cs:List Nat):toL ((cs.map fun (c:Nat)=>(c:Int)).foldl (fun r n=>r++E n) ByteArray.empty)=cs.flatMap L:=by
 rw[rb_fold]
 show []++_=_
 rw[List.nil_append]
 have e:(fun (c:Nat)=>toL (E (c:Int)))=L:=by
  funext c
  exact (h c).symm
 rw[e]
theorem rb_toL (cs:List Nat):toL (runesBytes (cs.map fun (c:Nat)=>(c:Int)))=encs cs:=by
 rw[runesBytes,encs]
 exact rb_key Utf8.encode encL encL_eq cs
theorem runes06_cs (s:BA):runes06 s=(rns (toL s)).map fun (c:Nat)=>(c:Int):=by
 unfold runes06 rns
 rw[List.map_map]
 rfl
theorem r06_len (s:BA):(runes06 s).length=(rns (toL s)).length:=by rw[runes06_cs,List.length_map]
theorem valid_cs {s:BA} (h:validS s=true):toL s=encs (rns (toL s)):=(valid_rns _ h).symm
theorem encs_len (cs:List Nat) (h:∀ c∈cs,sc c):(encs cs).length=wsum (cs.map rwd):=by
 rw[← rsL_encs0 h,wsum_rsL]
theorem posN_v {s:BA} (h:validS s=true) (i:Nat):posN s i=(encs ((rns (toL s)).take i)).length:=by
 have hs:=rns_sc (toL s)
 unfold posN
 have e:rsL (toL s)=(rns (toL s)).map rwd:=by
  have:=rsL_encs0 hs
  rw[← valid_cs h] at this
  exact this
 rw[e,← List.map_take,encs_len _ fun c hc=>hs c (List.mem_of_mem_take hc)]
theorem encs_take_len (cs:List Nat) (i:Nat):(encs cs).take (encs (cs.take i)).length=encs (cs.take i):=by
 have h:encs cs=encs (cs.take i)++encs (cs.drop i):=by rw[← encs_append,List.take_append_drop]
 rw[h,List.take_left]
theorem part_v {s:BA} (h:validS s=true) (a b:Nat) (hab:a≤b):toL (partS s a b)=encs (((rns (toL s)).take b).drop a):=by
 unfold partS
 rw[toL_ext,posN_v h,posN_v h]
 generalize hcs:rns (toL s)=cs
 have e:toL s=encs cs:=by rw[← hcs];exact valid_cs h
 rw[e,encs_take_len]
 have e2:encs (cs.take b)=encs (cs.take a)++encs ((cs.take b).drop a):=by
  rw[← encs_append]
  congr 1
  have:=List.take_append_drop a (cs.take b)
  rw[List.take_take,Nat.min_eq_left hab] at this
  exact this.symm
 rw[e2,List.drop_left]
theorem turn_v {s:BA} (h:validS s=true):∀ n,toL (turnN s n)=encs ((rns (toL s)).take n).reverse
 | 0=>rfl
 | n+1=>by
  show toL (partS s n (n+1)++turnN s n)=_
  rw[toL_app,turn_v h n,part_v h n (n+1) (Nat.le_succ n),← encs_append]
  congr 1
  generalize rns (toL s)=cs
  by_cases hn:n<cs.length
  ·rw[List.take_succ_eq_append_getElem hn,List.reverse_append,List.drop_left' (by rw[List.length_take];omega)]
   rfl
  ·rw[List.take_of_length_le (by omega),List.drop_eq_nil_of_le (by omega),List.take_of_length_le (by omega),List.nil_append]
theorem turnS_v {s:BA} (h:validS s=true):toL (turnS s)=encs (rns (toL s)).reverse:=by
 unfold turnS
 rw[turn_v h,runes_len,r06_len,List.take_of_length_le (Nat.le_refl _)]
theorem ints_take (q:IntKind) (xs:List Int) (n:Nat) (hn:n≤xs.length):intsOf q n ((eInt q).els xs)=xs.take n:=by
 unfold intsOf
 refine List.ext_getElem (by simp;omega) fun i h1 h2=>?_
 simp only[List.getElem_map,List.getElem_range,List.getElem_take]
 have hi:i<xs.length:=by rw[List.length_take] at h2;omega
 have:(eInt q).els xs i=[.v (.int q xs[i])]:=by
  simp[El.els,eInt,El.one',dInt,List.getD_eq_getElem?_getD,hi]
 rw[this]
 simp[intAt,Sx.intOf,SV.int?]
theorem min_fold (n a:Int):List.foldl (fun a (x:Bool×IntKind×Int)=>bif false then if x.2.2 > a then x.2.2 else a else if x.2.2<a then x.2.2 else a) n [(false,IntKind.i64,a)]=if a<n then a else n:=rfl
theorem rest_eq (n a:Int) (h:0<a∧a<1000000000):(IntKind.i64.wrap (n.tmod a+a)).tmod a=restF n a:=by
 have h1:n.tmod a<a:=Int.tmod_lt_of_pos n h.1
 have h2:-a<n.tmod a:=by
  have:=Int.lt_tmod_of_pos n h.1
  omega
 unfold restF
 rw[wrS (by omega)]
 by_cases hn:n.tmod a<0
 ·rw[decide_eq_true hn,cond_true,Int.tmod_eq_of_lt (by omega) (by omega)]
 ·rw[decide_eq_false hn,cond_false,Int.tmod_eq_emod_of_nonneg (by omega),Int.add_emod_right,Int.emod_eq_of_lt (by omega) (by omega)]
theorem r05_r0 (s:BA) (h:0<(runes06 s).length):((runes05 s).getD 0 eU.dflt).r=(runes06 s).getD 0 e3.dflt:=by
 have h5:0<(runes05 s).length:=by rw[runes_len];exact h
 rw[r05_at s 0 h5]
 unfold runes06
 rw[List.getD_eq_getElem?_getD,List.getElem?_map,List.getElem?_eq_getElem (by rw[← r05_len];exact h5)]
 rfl
def mapK (f:Fn) (r:Rec):Int:=bif f.kind==(6:Int) then restF r.key f.a else bif f.kind==(7:Int) then ((runes06 r.text).length:Int) else bif f.kind==(8:Int) then (bif decide (0<(runes06 r.text).length) then IntKind.i64.wrap ((runes06 r.text).getD 0 e3.dflt) else 0) else r.key
def mapT (f:Fn) (t:BA):BA:=bif f.kind==(2:Int) then upS t else bif f.kind==(3:Int) then partS t 0 f.a.toNat else bif f.kind==(4:Int) then turnS t else bif f.kind==(5:Int) then cutS (t++f.s) 64 else t
def noRec:Rec:=⟨0,ByteArray.mk #[]⟩
noncomputable def mapF (f:Fn) (r:Rec):Rec×Int:=bif bothF 2 f r != (0:Int) then (noRec,bothF 2 f r) else (⟨mapK f r,mapT f r.text⟩,0)
theorem both_zero {k:Int} {f:Fn} {r:Rec} (h:(bothF k f r != (0:Int))=false):chkF k f=0∧chkR r=0:=by
 have h:bothF k f r=0:=by simpa using h
 unfold bothF at h
 cases hc:chkF k f != (0:Int) with
 | true=>rw[hc,cond_true] at h;rw[h] at hc;cases hc
 | false=>
  rw[hc,cond_false] at h
  exact ⟨by simpa using hc,h⟩
theorem chkF_zero {k:Int} {f:Fn} (h:chkF k f=0):((uses_F k).2<0∧f=noFn)∨(0≤(uses_F k).2∧(uses_F k).1≤f.kind∧f.kind≤(uses_F k).2∧num_F f=true∧textF f=true):=by
 unfold chkF at h
 by_cases hn:(uses_F k).2<0
 ·rw[decide_eq_true hn,cond_true] at h
  by_cases hf:f=noFn
  ·exact .inl ⟨hn,hf⟩
  ·rw[decide_eq_false hf] at h;cases h
 ·rw[decide_eq_false hn,cond_false] at h
  cases hb:(decide ((uses_F k).1≤f.kind)&&decide (f.kind≤(uses_F k).2))&&(num_F f&&textF f) with
  | true=>
   simp only[Bool.and_eq_true,decide_eq_true_eq] at hb
   exact .inr ⟨by omega,hb.1.1,hb.1.2,hb.2.1,hb.2.2⟩
  | false=>rw[hb] at h;cases h
theorem num_cut {f:Fn} (h:num_F f=true) (hk:f.kind=3∨f.kind=13):0≤f.a∧f.a≤64:=by
 unfold num_F at h
 rcases hk with hk | hk <;> (rw[hk] at h;simpa using h)
theorem num_mod {f:Fn} (h:num_F f=true) (hk:f.kind=6∨f.kind=11):1≤f.a∧f.a≤1048576:=by
 unfold num_F at h
 rcases hk with hk | hk <;> (rw[hk] at h;simpa using h)
theorem chk2 {f:Fn} (h:chkF 2 f=0):1≤f.kind∧f.kind≤8∧num_F f=true∧textF f=true:=by
 rcases chkF_zero h with ⟨h1,_⟩ | ⟨_,h2,h3,h4,h5⟩
 ·exact absurd h1 (by decide)
 ·exact ⟨h2,h3,h4,h5⟩
theorem cut_text {f:Fn} {t:BA} (ht:validS t=true) (ha:0≤f.a):runesBytes (intsOf IntKind.i32 (List.foldl (fun a (x:Bool×IntKind×Int)=>bif false then if x.2.2 > a then x.2.2 else a else if x.2.2<a then x.2.2 else a) ((runes06 t).length:Int) [(false,IntKind.i64,f.a)]).toNat (e3.els (runes06 t)))=partS t 0 f.a.toNat:=by
 rw[min_fold]
 refine toL_inj ?_
 rw[part_v ht 0 _ (Nat.zero_le _),List.drop_zero]
 have hm:(if f.a<((runes06 t).length:Int) then f.a else ((runes06 t).length:Int)).toNat=min f.a.toNat (runes06 t).length:=by
  split <;> omega
 rw[hm,ints_take _ _ _ (Nat.min_le_right _ _),runes06_cs,← List.map_take,rb_toL,List.length_map]
 congr 1
 exact (List.take_eq_take_min).symm
theorem turn_text {t:BA} (ht:validS t=true):runesBytes (intsOf IntKind.i32 (runes06 t).length (e3.els (runes06 t).reverse))=turnS t:=by
 refine toL_inj ?_
 have:=ints_els .i32 (runes06 t).reverse
 rw[List.length_reverse] at this
 show toL (runesBytes (intsOf IntKind.i32 (runes06 t).length ((eInt .i32).els (runes06 t).reverse)))=_
 rw[this,turnS_v ht,runes06_cs,← List.map_reverse,rb_toL]
theorem map_eq (f:Fn) (r:Rec):map_F f r=mapF f r:=by
 unfold map_F mapF
 cases hb:bothF 2 f r != (0:Int) with
 | true=>rfl
 | false=>
  obtain ⟨h1,h2⟩:=both_zero hb
  obtain ⟨k1,k2,k3,k4⟩:=chk2 h1
  have hv:=((chkR_iff r).1 h2).2
  rw[cond_false,cond_false,e3.ag_eq]
  unfold mapK mapT
  have hc:f.kind=1∨f.kind=2∨f.kind=3∨f.kind=4∨f.kind=5∨f.kind=6∨f.kind=7∨f.kind=8:=by omega
  rcases hc with hc | hc | hc | hc | hc | hc | hc | hc
  ·rw[hc];rfl
  ·rw[hc];rfl
  ·have ha:=num_cut k3 (.inl hc)
   rw[cut_text hv ha.1,hc];rfl
  ·rw[turn_text hv,hc];rfl
  ·rw[hc];rfl
  ·rw[hc];rfl
  ·rw[hc];rfl
  ·have e:decide (((runes06 r.text).length:Int) > 0)=decide (0<(runes06 r.text).length):=by
    rw[Bool.eq_iff_iff];simp only[decide_eq_true_eq];omega
   rw[e,hc];rfl
theorem map_ok:FnPure Tryd.prog 51 aFR dRE (fun g=>mapF g.1 g.2) (fun g=>[g.1.s.size≤KB]):=
 pure_congr (map_okS _ fun g _ hp=>by
  obtain ⟨f,r⟩:=g
  have h:f.s.size≤KB:=hp _ (List.mem_cons_self ..)
  show map_side f r
  refine ⟨h,fun hb=>?_⟩
  obtain ⟨h1,h2⟩:=both_zero hb
  obtain ⟨k1,k2,k3,k4⟩:=chk2 h1
  have ht:=((chkR_iff r).1 h2).1
  have ht':r.text.size≤KB:=by unfold KB;omega
  have hl:=rns_len r.text
  have hcast:∀ k:Int,(f.kind==k)=true→f.kind=k:=fun k hk=>by simpa using hk
  refine ⟨ht',fun _=>ht',fun _ hk=>?_,fun _ hk=>?_,fun _ _ _ _=>rfl,fun _ _ _=>rfl,fun _ _ _ _ _=>trivial,fun _ _ _=>?_,fun _ _ _=>⟨?_,fun _ _=>rfl⟩,fun _ _ _ _ _=>rfl,fun _ _ _ hk=>?_,fun _ _ _ _ hk=>?_,fun _ _ _ _ _ _ _ hd=>?_,fun _ _ _ _ _ _ _ hd=>?_⟩
  ·have ha:=num_cut k3 (.inl (hcast 3 hk))
   rw[min_fold]
   split <;> omega
  ·have ha:=num_cut k3 (.inl (hcast 3 hk))
   rw[min_fold]
   exact ⟨by split <;> omega,fun _ _=>rfl⟩
  ·rw[e3.ag_eq];unfold KB at ht' ⊢;omega
  ·rw[e3.ag_eq,List.length_reverse];exact Nat.le_refl _
  ·have:f.s.size≤16:=by
    unfold textF at k4
    rw[hk] at k4
    simp only[cond_true,Bool.and_eq_true,decide_eq_true_eq] at k4
    omega
   omega
  ·have ha:=num_mod k3 (.inl (hcast 6 hk))
   omega
  ·have:=of_decide_eq_true hd
   exact ⟨Int.le_refl _,by omega⟩
  ·have:=of_decide_eq_true hd
   omega) fun g _ _=>map_eq g.1 g.2
theorem rmp_eq (f:Fn) (r:Rec):rmp_F f r=mapF f r:=by
 unfold rmp_F mapF
 cases hb:bothF 2 f r != (0:Int) with
 | true=>rfl
 | false=>
  obtain ⟨h1,h2⟩:=both_zero hb
  obtain ⟨k1,k2,k3,k4⟩:=chk2 h1
  simp only[cond_false]
  unfold mapK mapT
  have hc:f.kind=1∨f.kind=2∨f.kind=3∨f.kind=4∨f.kind=5∨f.kind=6∨f.kind=7∨f.kind=8:=by omega
  rcases hc with hc | hc | hc | hc | hc | hc | hc | hc
  ·rw[hc];rfl
  ·rw[hc];rfl
  ·rw[hc];rfl
  ·rw[hc];rfl
  ·rw[hc];rfl
  ·have ha:=num_mod k3 (.inl hc)
   rw[rest_eq _ _ ⟨by omega,by omega⟩,hc];rfl
  ·rw[runes_len,hc];rfl
  ·have e:decide (((runes05 r.text).length:Int) > 0)=decide (0<(runes06 r.text).length):=by
    rw[runes_len,Bool.eq_iff_iff];simp only[decide_eq_true_eq];omega
   rw[e]
   by_cases h0:0<(runes06 r.text).length
   ·rw[r05_r0 _ h0,hc];rfl
   ·rw[decide_eq_false h0,hc];rfl
theorem rmp_ok:FnPure Tryd.prog 64 aFR dRE (fun g=>mapF g.1 g.2) (fun g=>[g.1.s.size≤KB]):=
 pure_congr (rmp_okS _ fun g _ hp=>by
  obtain ⟨f,r⟩:=g
  have h:f.s.size≤KB:=hp _ (List.mem_cons_self ..)
  show rmp_side f r
  refine ⟨h,fun hb=>?_⟩
  obtain ⟨h1,h2⟩:=both_zero hb
  obtain ⟨k1,k2,k3,k4⟩:=chk2 h1
  have ht:=((chkR_iff r).1 h2).1
  have ht':r.text.size≤KB:=by unfold KB;omega
  have hcast:∀ k:Int,(f.kind==k)=true→f.kind=k:=fun k hk=>by simpa using hk
  have hs:(f.kind==(5:Int))=true→f.s.size≤16:=fun hk=>by
   unfold textF at k4
   rw[hk] at k4
   simp only[cond_true,Bool.and_eq_true,decide_eq_true_eq] at k4
   omega
  have hm:(f.kind==(6:Int))=true→f.a≠0:=fun hk=>by
   have ha:=num_mod k3 (.inl (hcast 6 hk))
   omega
  refine ⟨ht',fun _=>ht',fun _ _=>by rw[eU.okL_eq];trivial,fun _ _=>eU.ag_eq _,fun _ hk=>⟨Int.le_refl _,(num_cut k3 (.inl (hcast 3 hk))).1⟩,fun _ _ _=>ht',fun _ _ _ hk=>by have:=hs hk;omega,fun _ _ _ hk=>by have:=hs hk;rw[ByteArray.size_append];unfold KB;omega,fun _ _ _ _ hk=>hm hk,fun _ _ _ _ hk=>hm hk,fun _ _ _ _ _ _ _ hd=>⟨Int.le_refl _,of_decide_eq_true hd⟩⟩) fun g _ _=>rmp_eq g.1 g.2
noncomputable def meaF (f:Fn) (r:Rec):Int×Int:=bif bothF 11 f r != (0:Int) then (0,bothF 11 f r) else bif f.kind==(41:Int) then (1,0) else (((runes06 r.text).length:Int),0)
theorem rec_KB {k:Int} {f:Fn} {r:Rec} (hb:(bothF k f r != (0:Int))=false):r.text.size≤KB:=by
 have:=((chkR_iff r).1 (both_zero hb).2).1
 unfold KB;omega
theorem mea_ok:FnPure Tryd.prog 68 aFR dII (fun g=>meaF g.1 g.2) (fun g=>[g.1.s.size≤KB]):=
 pure_congr (mea_okS _ fun g _ hp=>⟨hp _ (List.mem_cons_self ..),fun hb _=>rec_KB hb⟩) fun g _ _=>rfl
theorem rme_ok:FnPure Tryd.prog 69 aFR dII (fun g=>meaF g.1 g.2) (fun g=>[g.1.s.size≤KB]):=
 pure_congr (rme_okS _ fun g _ hp=>⟨hp _ (List.mem_cons_self ..),fun hb _=>rec_KB hb⟩) fun g _ _=>by
  obtain ⟨f,r⟩:=g
  show rme_F f r=meaF f r
  unfold rme_F meaF
  rw[runes_len]
noncomputable def tabC19:PTab Tryd.prog:=(((tabC16.cons 51 (pconP aFR dRE (fun g=>mapF g.1 g.2) (fun g=>[g.1.s.size≤KB])) (conP_ok map_ok puRE)).cons 64 (pconP aFR dRE (fun g=>mapF g.1 g.2) (fun g=>[g.1.s.size≤KB])) (conP_ok rmp_ok puRE)).cons 68 (pconP aFR dII (fun g=>meaF g.1 g.2) (fun g=>[g.1.s.size≤KB])) (conP_ok mea_ok puII)).cons 69 (pconP aFR dII (fun g=>meaF g.1 g.2) (fun g=>[g.1.s.size≤KB])) (conP_ok rme_ok puII)
end Go.Proofs.YtmegbepjdololaaDoor

namespace Go.Proofs.YtmegbepjdololaaDoor
open Go.RowKit Go.Sx
set_option maxRecDepth 100000
set_option linter.unusedVariables false
abbrev dLRE:Dv (List Rec×Int):=.tup (.cons dLR (.one dI))
abbrev sp1_G:Type:=Unit×(BA×Nat)×List BA
noncomputable def sp1_LP:LP 3 sp1_G:=.pair (.fix 3 32 (.p 2 0)) (.pair (.iter 3 2) (.row 3 7 9 eStr))
noncomputable def sp1_R (_u:Unit) (q:BA×Nat) (o:List BA):Ex×sp1_G:=
 bif decide (q.snd<q.fst.size) then (Ex.normal,(),(q.fst,q.snd+(Utf8.decode q.fst q.snd).snd),eStr.lst (min (o.length+(1:Nat)) o.length) (eStr.els o)++List.map (fun x=>runesBytes [(↑(Utf8.decode q.fst q.snd).fst:Int)]) (List.range (o.length+(1:Nat) - o.length)))
 else (Ex.exit (0:Nat),(),q,eStr.ag o)
def sp1_side (_u:Unit) (q:BA×Nat) (o:List BA):Prop:=
 (decide (q.snd<q.fst.size)=true→True∧(o.length≤o.length∧True∧o.length+(1:Nat)≤maxLen∧(o.length+(1:Nat)) * Tryd.prog.types[(9:Nat)].bytes≤(140737488355328:Nat))∧o.length+(1:Nat)≤o.length+(1:Nat)∧(∀ (e:Nat),e<min (o.length+(1:Nat)) o.length→True)∧∀ (e:Nat),e<o.length+(1:Nat) - o.length→True)∧(decide (q.snd<q.fst.size)=false→o.length≤o.length∧∀ (e:Nat),e<o.length→True)
theorem sp1_one:((loopsOf Tryd.prog 59).filter fun c=>Nat.beq (lkey c) 8).length=1:=by kernel_rfl
theorem sp1_es (g:sp1_G):(sp1_R g.1 g.2.1 g.2.2).1=.normal∨(sp1_R g.1 g.2.1 g.2.2).1∈([.exit 0]:List Ex):=by
 unfold sp1_R
 repeat' (first | (left;rfl) | (right;simp only[cond_true,cond_false];simp;done) | (rw[Bool.cond_eq_ite];split))
noncomputable abbrev sp1_C (Inv:sp1_G→List Prop) (m:sp1_G→Nat):LCon:=loopR [.exit 0] (loopBody Tryd.prog 59 8) sp1_LP [] 64 Inv (fun g=>sp1_R g.1 g.2.1 g.2.2) m
theorem sp1_loop (Inv:sp1_G→List Prop) (m:sp1_G→Nat) (hs:∀ g,allP (Inv g)→sp1_side g.1 g.2.1 g.2.2) (hg:Goes (fun g:sp1_G=>sp1_R g.1 g.2.1 g.2.2) m fun g=>allP (Inv g)):∀ b∈loopsOf Tryd.prog 59,lkey b=8→LoopOk Tryd.prog b (sp1_C Inv m).g:=loop_run (Γ:=(PTab.gamz tabC19 [] [])) (Λ:=noΛ) (PTab.okz tabC19 [] []) noΛ_ok 100 59 8 64 sp1_LP [] Inv (fun g=>sp1_R g.1 g.2.1 g.2.2) (fun g=>sp1_side g.1 g.2.1 g.2.2) m default [.exit 0] sp1_one (fun rd T B HL HB ds g=>by kernel_rfl) (fun rd T B HL HB ds g=>by kernel_rfl) hs hg sp1_es
end Go.Proofs.YtmegbepjdololaaDoor

namespace Go.Proofs.YtmegbepjdololaaDoor
open Go.RowKit Go.Sx Go.Lp
def sp1_mk (p:Nat) (s:BA) (o:List BA):sp1_G:=((),(s,p),o)
def sp1_st (_:BA) (o:List BA) (_:Nat) (d:Nat×Nat):Ex×List BA:=(.normal,o++[runesBytes [(d.1:Int)]])
def sp1_P (s:BA) (o:List BA) (p:Nat):Prop:=s.size≤KB∧o.length≤p
noncomputable abbrev sp1_I (g:sp1_G):List Prop:=txI (fun s:BA=>s) sp1_P sp1_mk g
noncomputable abbrev sp1_M (g:sp1_G):Nat:=g.2.1.1.size - g.2.1.2
theorem sp1_K:txK (fun s:BA=>s) sp1_st sp1_P:=fun s o p h _ _=>⟨h.1,by
 have:=Lib.width_pos s p
 simp only[sp1_st,List.length_append,List.length_cons,List.length_nil]
 have:=h.2
 omega⟩
theorem sp1_F (p:Nat) (s:BA) (o:List BA):sp1_R () (s,p) o=txR 0 (fun s:BA=>s) sp1_st true sp1_mk p s o:=by
 unfold sp1_R txR sp1_st sp1_mk
 by_cases h:p<s.size
 ·rw[decide_eq_true h,if_pos h,cond_true,app1]
 ·rw[decide_eq_false h,if_neg h,cond_false,eStr.ag_eq]
theorem sp1_ok:∀ b∈loopsOf Tryd.prog 59,lkey b=8→LoopOk Tryd.prog b (sp1_C sp1_I sp1_M).g:=
 sp1_loop sp1_I sp1_M (fun g hi=>by
  obtain ⟨p,s,o,rfl,h1,h2⟩:=hi _ (List.mem_cons_self ..)
  have h3:=h2.1
  have h4:=h2.2
  unfold KB at h3
  show sp1_side () (s,p) o
  unfold sp1_side
  rw[bytesS]
  refine ⟨fun h=>?_,fun _=>⟨Nat.le_refl _,fun _ _=>trivial⟩⟩
  have hp:p<s.size:=of_decide_eq_true h
  unfold maxLen
  repeat' (first | apply And.intro | intro _)
  all_goals first | trivial | omega) (tx_goes (fun p s r=>by simp[sp1_M,sp1_mk]) (fun p s r h1 h2=>sp1_F p s r) sp1_K)
def eachL (s:BA):List BA:=(runes06 s).map fun c=>runesBytes [c]
theorem sp1_scan (s:BA):∀ (l:List (Nat×Nat)) (p:Nat) (o:List BA),((scanT 0 true (sp1_st s) p l o).1,(scanT 0 true (sp1_st s) p l o).2.2)=(.exit 0,o++(l.map fun x=>(x.1:Int)).map fun c=>runesBytes [c])
 | [],p,o=>by simp[scanT]
 | d :: l,p,o=>by
  simp only[scanT,sp1_st]
  have:=sp1_scan s l (p+d.2) (o++[runesBytes [(d.1:Int)]])
  rw[this,List.append_assoc]
  rfl
theorem sp1_run (s:BA) (hs:s.size≤KB):(loopF (fun g:sp1_G=>sp1_R g.1 g.2.1 g.2.2) sp1_M ((),(s,0),[])).1=.exit 0∧(loopF (fun g:sp1_G=>sp1_R g.1 g.2.1 g.2.2) sp1_M ((),(s,0),[])).2.2.2=eachL s:=by
 have h:=tx_run (F:=fun g:sp1_G=>sp1_R g.1 g.2.1 g.2.2) (m:=sp1_M) (mk:=sp1_mk) (x:=0) (adv:=true) (step:=sp1_st) (P:=sp1_P) (tx:=fun s:BA=>s) (fun p s r=>by simp[sp1_M,sp1_mk]) (fun p s r h1 h2=>sp1_F p s r) sp1_K s.size 0 s [] (Nat.zero_le _) ⟨hs,Nat.le_refl _⟩ (Nat.sub_le _ _)
 have e:sp1_mk 0 s []=((),(s,0),[]):=rfl
 rw[e] at h
 rw[h,List.drop_zero]
 have h2:=sp1_scan s (rsL (toL s)) 0 []
 simp only[Prod.mk.injEq] at h2
 exact ⟨h2.1,h2.2⟩
noncomputable def ltC21:LTab Tryd.prog:=LTab.cons LTab.nil 59 8 (sp1_C sp1_I sp1_M) sp1_ok
noncomputable abbrev lamC21:Lam:=ltC21.lam
theorem lamC21_ok:∀ f k L,lamC21 f k=some L→∀ b∈loopsOf Tryd.prog f,lkey b=k→LoopOk Tryd.prog b L.g:=ltC21.ok
end Go.Proofs.YtmegbepjdololaaDoor

namespace Go.Proofs.YtmegbepjdololaaDoor
open Go.RowKit Go.Sx
set_option maxRecDepth 100000
set_option linter.unusedVariables false
abbrev spa_G:Type:=List BA×Int×Int×List Rec×Unit×Rec
noncomputable def spa_LP:LP 2 spa_G:=.pair (.slot 2 42 dLB) (.pair (.slot 2 43 dI) (.pair (.slot 2 44 dI) (.pair (.row 2 10 46 eR) (.pair (.fix 2 3 (.p 1 0)) (.obj 2 1 46 eR)))))
noncomputable def spa_R (xs:List BA) (n:Int) (i:Int) (o:List Rec) (_u:Unit) (r:Rec):Ex×spa_G:=
 bif decide (i<n) then bif !decide (xs.getD i.toNat eStr.dflt=ByteArray.mk #[])&&decide ((↑o.length:Int)<(4:Int)) then (Ex.normal,eStr.ag xs,n,IntKind.i64.wrap (i+(1:Int)),eR.lst (min (o.length+(1:Nat)) o.length) (eR.els o)++List.map (fun x=>Rec.mk r.key (xs.getD i.toNat eStr.dflt)) (List.range (o.length+(1:Nat) - o.length)),(),r) else (Ex.normal,eStr.ag xs,n,IntKind.i64.wrap (i+(1:Int)),eR.ag o,(),r)
 else (Ex.exit (2:Nat),eStr.ag xs,n,i,eR.ag o,(),r)
def spa_side (xs:List BA) (n:Int) (i:Int) (o:List Rec) (_u:Unit) (r:Rec):Prop:=
 (decide (i<n)=true→((0:Int)≤i∧i<(↑xs.length:Int))∧((!decide (xs.getD i.toNat eStr.dflt=ByteArray.mk #[])&&decide ((↑o.length:Int)<(4:Int)))=true→(o.length≤o.length∧True∧o.length+(1:Nat)≤maxLen∧(o.length+(1:Nat)) * Tryd.prog.types[(46:Nat)].bytes≤(140737488355328:Nat))∧eStr.okL xs∧o.length+(1:Nat)≤o.length+(1:Nat)∧(∀ (e:Nat),e<min (o.length+(1:Nat)) o.length→True)∧∀ (e:Nat),e<o.length+(1:Nat) - o.length→True)∧((!decide (xs.getD i.toNat eStr.dflt=ByteArray.mk #[])&&decide ((↑o.length:Int)<(4:Int)))=false→eStr.okL xs∧o.length≤o.length∧∀ (e:Nat),e<o.length→True))∧(decide (i<n)=false→eStr.okL xs∧o.length≤o.length∧∀ (e:Nat),e<o.length→True)
theorem spa_one:((loopsOf Tryd.prog 59).filter fun c=>Nat.beq (lkey c) 13).length=1:=by kernel_rfl
abbrev spa_GC:Type:=List BA×Int×Rec
abbrev spa_GB:Type:=List Rec×Unit
def spa_f (g:spa_G):Int×spa_GC×spa_GB:=(g.2.2.1,(g.1,g.2.1,g.2.2.2.2.2),(g.2.2.2.1,g.2.2.2.2.1))
def spa_g (d:Int×spa_GC×spa_GB):spa_G:=(d.2.1.1,d.2.1.2.1,d.1,d.2.2.1,d.2.2.2,d.2.1.2.2)
theorem spa_es (g:spa_G):(spa_R g.1 g.2.1 g.2.2.1 g.2.2.2.1 g.2.2.2.2.1 g.2.2.2.2.2).1=.normal∨(spa_R g.1 g.2.1 g.2.2.1 g.2.2.2.1 g.2.2.2.2.1 g.2.2.2.2.2).1∈([.exit 2]:List Ex):=by
 unfold spa_R
 repeat' (first | (left;rfl) | (right;simp only[cond_true,cond_false];simp;done) | (rw[Bool.cond_eq_ite];split))
noncomputable abbrev spa_C (Inv:spa_G→List Prop) (m:spa_G→Nat):LCon:=loopR [.exit 2] (loopBody Tryd.prog 59 13) spa_LP [] 64 Inv (fun g=>spa_R g.1 g.2.1 g.2.2.1 g.2.2.2.1 g.2.2.2.2.1 g.2.2.2.2.2) m
theorem spa_loop (Inv:spa_G→List Prop) (m:spa_G→Nat) (hs:∀ g,allP (Inv g)→spa_side g.1 g.2.1 g.2.2.1 g.2.2.2.1 g.2.2.2.2.1 g.2.2.2.2.2) (hg:Goes (fun g:spa_G=>spa_R g.1 g.2.1 g.2.2.1 g.2.2.2.1 g.2.2.2.2.1 g.2.2.2.2.2) m fun g=>allP (Inv g)):∀ b∈loopsOf Tryd.prog 59,lkey b=13→LoopOk Tryd.prog b (spa_C Inv m).g:=loop_run (Γ:=(PTab.gamz tabC19 [] [])) (Λ:=lamC21) (PTab.okz tabC19 [] []) lamC21_ok 100 59 13 64 spa_LP [] Inv (fun g=>spa_R g.1 g.2.1 g.2.2.1 g.2.2.2.1 g.2.2.2.2.1 g.2.2.2.2.2) (fun g=>spa_side g.1 g.2.1 g.2.2.1 g.2.2.2.1 g.2.2.2.2.1 g.2.2.2.2.2) m default [.exit 2] spa_one (fun rd T B HL HB ds g=>by kernel_rfl) (fun rd T B HL HB ds g=>by kernel_rfl) hs hg spa_es
abbrev spb_G:Type:=Nat×List BA×Int×Int×List Rec×Unit×Rec
noncomputable def spb_LP:LP 4 spb_G:=.pair (.owl 4 42 3) (.pair (.rowO 4 3 9 eStr) (.pair (.slot 4 43 dI) (.pair (.slot 4 44 dI) (.pair (.row 4 10 46 eR) (.pair (.fix 4 3 (.p 1 0)) (.obj 4 1 46 eR))))))
noncomputable def spb_R (l:Nat) (xs:List BA) (n:Int) (i:Int) (o:List Rec) (_u:Unit) (r:Rec):Ex×spb_G:=
 bif decide (i<n) then bif !decide (xs.getD i.toNat eStr.dflt=ByteArray.mk #[])&&decide ((↑o.length:Int)<(4:Int)) then (Ex.normal,l,eStr.ag xs,n,IntKind.i64.wrap (i+(1:Int)),eR.lst (min (o.length+(1:Nat)) o.length) (eR.els o)++List.map (fun x=>Rec.mk r.key (xs.getD i.toNat eStr.dflt)) (List.range (o.length+(1:Nat) - o.length)),(),r) else (Ex.normal,l,eStr.ag xs,n,IntKind.i64.wrap (i+(1:Int)),eR.ag o,(),r)
 else (Ex.exit (2:Nat),l,eStr.ag xs,n,i,eR.ag o,(),r)
def spb_side (l:Nat) (xs:List BA) (n:Int) (i:Int) (o:List Rec) (_u:Unit) (r:Rec):Prop:=
 (decide (i<n)=true→((0:Int)≤i∧i<(↑l:Int))∧i.toNat<xs.length∧((!decide (xs.getD i.toNat eStr.dflt=ByteArray.mk #[])&&decide ((↑o.length:Int)<(4:Int)))=true→(o.length≤o.length∧True∧o.length+(1:Nat)≤maxLen∧(o.length+(1:Nat)) * Tryd.prog.types[(46:Nat)].bytes≤(140737488355328:Nat))∧(∀ (e:Nat),e<xs.length→True)∧o.length+(1:Nat)≤o.length+(1:Nat)∧(∀ (e:Nat),e<min (o.length+(1:Nat)) o.length→True)∧∀ (e:Nat),e<o.length+(1:Nat) - o.length→True)∧((!decide (xs.getD i.toNat eStr.dflt=ByteArray.mk #[])&&decide ((↑o.length:Int)<(4:Int)))=false→(∀ (e:Nat),e<xs.length→True)∧o.length≤o.length∧∀ (e:Nat),e<o.length→True))∧(decide (i<n)=false→(∀ (e:Nat),e<xs.length→True)∧o.length≤o.length∧∀ (e:Nat),e<o.length→True)
theorem spb_one:((loopsOf Tryd.prog 59).filter fun c=>Nat.beq (lkey c) 13).length=1:=by kernel_rfl
abbrev spb_GC:Type:=Nat×List BA×Int×Rec
abbrev spb_GB:Type:=List Rec×Unit
def spb_f (g:spb_G):Int×spb_GC×spb_GB:=(g.2.2.2.1,(g.1,g.2.1,g.2.2.1,g.2.2.2.2.2.2),(g.2.2.2.2.1,g.2.2.2.2.2.1))
def spb_g (d:Int×spb_GC×spb_GB):spb_G:=(d.2.1.1,d.2.1.2.1,d.2.1.2.2.1,d.1,d.2.2.1,d.2.2.2,d.2.1.2.2.2)
theorem spb_es (g:spb_G):(spb_R g.1 g.2.1 g.2.2.1 g.2.2.2.1 g.2.2.2.2.1 g.2.2.2.2.2.1 g.2.2.2.2.2.2).1=.normal∨(spb_R g.1 g.2.1 g.2.2.1 g.2.2.2.1 g.2.2.2.2.1 g.2.2.2.2.2.1 g.2.2.2.2.2.2).1∈([.exit 2]:List Ex):=by
 unfold spb_R
 repeat' (first | (left;rfl) | (right;simp only[cond_true,cond_false];simp;done) | (rw[Bool.cond_eq_ite];split))
noncomputable abbrev spb_C (Inv:spb_G→List Prop) (m:spb_G→Nat):LCon:=loopR [.exit 2] (loopBody Tryd.prog 59 13) spb_LP [] 64 Inv (fun g=>spb_R g.1 g.2.1 g.2.2.1 g.2.2.2.1 g.2.2.2.2.1 g.2.2.2.2.2.1 g.2.2.2.2.2.2) m
theorem spb_loop (Inv:spb_G→List Prop) (m:spb_G→Nat) (hs:∀ g,allP (Inv g)→spb_side g.1 g.2.1 g.2.2.1 g.2.2.2.1 g.2.2.2.2.1 g.2.2.2.2.2.1 g.2.2.2.2.2.2) (hg:Goes (fun g:spb_G=>spb_R g.1 g.2.1 g.2.2.1 g.2.2.2.1 g.2.2.2.2.1 g.2.2.2.2.2.1 g.2.2.2.2.2.2) m fun g=>allP (Inv g)):∀ b∈loopsOf Tryd.prog 59,lkey b=13→LoopOk Tryd.prog b (spb_C Inv m).g:=loop_run (Γ:=(PTab.gamz tabC19 [] [])) (Λ:=lamC21) (PTab.okz tabC19 [] []) lamC21_ok 100 59 13 64 spb_LP [] Inv (fun g=>spb_R g.1 g.2.1 g.2.2.1 g.2.2.2.1 g.2.2.2.2.1 g.2.2.2.2.2.1 g.2.2.2.2.2.2) (fun g=>spb_side g.1 g.2.1 g.2.2.1 g.2.2.2.1 g.2.2.2.2.1 g.2.2.2.2.2.1 g.2.2.2.2.2.2) m default [.exit 2] spb_one (fun rd T B HL HB ds g=>by kernel_rfl) (fun rd T B HL HB ds g=>by kernel_rfl) hs hg spb_es
abbrev rs1_G:Type:=List Rune×Int×List Rec×Unit×Rec
noncomputable def rs1_LP:LP 2 rs1_G:=.pair (.slot 2 7 dLU) (.pair (.slot 2 9 dI) (.pair (.row 2 8 46 eR) (.pair (.fix 2 3 (.p 1 0)) (.obj 2 1 46 eR))))
noncomputable def rs1_R (xs:List Rune) (i:Int) (o:List Rec) (_u:Unit) (r:Rec):Ex×rs1_G:=
 bif decide (i<(↑xs.length:Int))&&decide (i<(4:Int)) then (Ex.normal,eU.ag xs,IntKind.i64.wrap (i+(1:Int)),eR.lst (min (o.length+(1:Nat)) o.length) (eR.els o)++List.map (fun x=>Rec.mk r.key (partS r.text i.toNat (IntKind.i64.wrap (i+(1:Int))).toNat)) (List.range (o.length+(1:Nat) - o.length)),(),r)
 else (Ex.exit (0:Nat),eU.ag xs,i,eR.ag o,(),r)
def rs1_side (xs:List Rune) (i:Int) (o:List Rec) (_u:Unit) (r:Rec):Prop:=
 ((decide (i<(↑xs.length:Int))&&decide (i<(4:Int)))=true→eU.okL xs∧eU.ag xs=runes05 r.text∧((0:Int)≤i∧i≤IntKind.i64.wrap (i+(1:Int)))∧(o.length≤o.length∧True∧o.length+(1:Nat)≤maxLen∧(o.length+(1:Nat)) * Tryd.prog.types[(46:Nat)].bytes≤(140737488355328:Nat))∧eU.okL xs∧o.length+(1:Nat)≤o.length+(1:Nat)∧(∀ (e:Nat),e<min (o.length+(1:Nat)) o.length→True)∧∀ (e:Nat),e<o.length+(1:Nat) - o.length→True)∧((decide (i<(↑xs.length:Int))&&decide (i<(4:Int)))=false→eU.okL xs∧o.length≤o.length∧∀ (e:Nat),e<o.length→True)
theorem rs1_one:((loopsOf Tryd.prog 67).filter fun c=>Nat.beq (lkey c) 8).length=1:=by kernel_rfl
theorem rs1_es (g:rs1_G):(rs1_R g.1 g.2.1 g.2.2.1 g.2.2.2.1 g.2.2.2.2).1=.normal∨(rs1_R g.1 g.2.1 g.2.2.1 g.2.2.2.1 g.2.2.2.2).1∈([.exit 0]:List Ex):=by
 unfold rs1_R
 repeat' (first | (left;rfl) | (right;simp only[cond_true,cond_false];simp;done) | (rw[Bool.cond_eq_ite];split))
noncomputable abbrev rs1_C (Inv:rs1_G→List Prop) (m:rs1_G→Nat):LCon:=loopR [.exit 0] (loopBody Tryd.prog 67 8) rs1_LP [] 97 Inv (fun g=>rs1_R g.1 g.2.1 g.2.2.1 g.2.2.2.1 g.2.2.2.2) m
theorem rs1_loop (Inv:rs1_G→List Prop) (m:rs1_G→Nat) (hs:∀ g,allP (Inv g)→rs1_side g.1 g.2.1 g.2.2.1 g.2.2.2.1 g.2.2.2.2) (hg:Goes (fun g:rs1_G=>rs1_R g.1 g.2.1 g.2.2.1 g.2.2.2.1 g.2.2.2.2) m fun g=>allP (Inv g)):∀ b∈loopsOf Tryd.prog 67,lkey b=8→LoopOk Tryd.prog b (rs1_C Inv m).g:=loop_run (Γ:=(PTab.gamz tabC19 [] [])) (Λ:=lamC21) (PTab.okz tabC19 [] []) lamC21_ok 100 67 8 97 rs1_LP [] Inv (fun g=>rs1_R g.1 g.2.1 g.2.2.1 g.2.2.2.1 g.2.2.2.2) (fun g=>rs1_side g.1 g.2.1 g.2.2.1 g.2.2.2.1 g.2.2.2.2) m default [.exit 0] rs1_one (fun rd T B HL HB ds g=>by kernel_rfl) (fun rd T B HL HB ds g=>by kernel_rfl) hs hg rs1_es
abbrev rs2_G:Type:=List Rune×Int×Int×Int×List Rec×Unit×Rec
noncomputable def rs2_LP:LP 2 rs2_G:=.pair (.slot 2 7 dLU) (.pair (.slot 2 10 d3) (.pair (.slot 2 11 dI) (.pair (.slot 2 12 dI) (.pair (.row 2 8 46 eR) (.pair (.fix 2 3 (.p 1 0)) (.obj 2 1 46 eR))))))
noncomputable def rs2_R (xs:List Rune) (c:Int) (m:Int) (i:Int) (o:List Rec) (_u:Unit) (r:Rec):Ex×rs2_G:=
 bif decide (i≤(↑xs.length:Int)) then bif decide (i<(↑xs.length:Int))&&(xs.getD i.toNat eU.dflt).r != c then (Ex.normal,eU.ag xs,c,m,IntKind.i64.wrap (i+(1:Int)),eR.ag o,(),r) else bif decide (m<i)&&decide ((↑o.length:Int)<(4:Int)) then (Ex.normal,eU.ag xs,c,IntKind.i64.wrap (i+(1:Int)),IntKind.i64.wrap (i+(1:Int)),eR.lst (min (o.length+(1:Nat)) o.length) (eR.els o)++List.map (fun x=>Rec.mk r.key (partS r.text m.toNat i.toNat)) (List.range (o.length+(1:Nat) - o.length)),(),r) else (Ex.normal,eU.ag xs,c,IntKind.i64.wrap (i+(1:Int)),IntKind.i64.wrap (i+(1:Int)),eR.ag o,(),r)
 else (Ex.exit (2:Nat),eU.ag xs,c,m,i,eR.ag o,(),r)
def rs2_side (xs:List Rune) (c:Int) (m:Int) (i:Int) (o:List Rec) (_u:Unit) (r:Rec):Prop:=
 (decide (i≤(↑xs.length:Int))=true→(decide (i<(↑xs.length:Int))=true→(0:Int)≤i∧i<(↑xs.length:Int))∧((decide (i<(↑xs.length:Int))&&(xs.getD i.toNat eU.dflt).r != c)=true→eU.okL xs∧o.length≤o.length∧∀ (e:Nat),e<o.length→True)∧((decide (i<(↑xs.length:Int))&&(xs.getD i.toNat eU.dflt).r != c)=false→((decide (m<i)&&decide ((↑o.length:Int)<(4:Int)))=true→eU.okL xs∧eU.ag xs=runes05 r.text∧((0:Int)≤m∧m≤i)∧(o.length≤o.length∧True∧o.length+(1:Nat)≤maxLen∧(o.length+(1:Nat)) * Tryd.prog.types[(46:Nat)].bytes≤(140737488355328:Nat))∧eU.okL xs∧o.length+(1:Nat)≤o.length+(1:Nat)∧(∀ (e:Nat),e<min (o.length+(1:Nat)) o.length→True)∧∀ (e:Nat),e<o.length+(1:Nat) - o.length→True)∧((decide (m<i)&&decide ((↑o.length:Int)<(4:Int)))=false→eU.okL xs∧o.length≤o.length∧∀ (e:Nat),e<o.length→True)))∧(decide (i≤(↑xs.length:Int))=false→eU.okL xs∧o.length≤o.length∧∀ (e:Nat),e<o.length→True)
theorem rs2_one:((loopsOf Tryd.prog 67).filter fun c=>Nat.beq (lkey c) 15).length=1:=by kernel_rfl
theorem rs2_es (g:rs2_G):(rs2_R g.1 g.2.1 g.2.2.1 g.2.2.2.1 g.2.2.2.2.1 g.2.2.2.2.2.1 g.2.2.2.2.2.2).1=.normal∨(rs2_R g.1 g.2.1 g.2.2.1 g.2.2.2.1 g.2.2.2.2.1 g.2.2.2.2.2.1 g.2.2.2.2.2.2).1∈([.exit 2]:List Ex):=by
 unfold rs2_R
 repeat' (first | (left;rfl) | (right;simp only[cond_true,cond_false];simp;done) | (rw[Bool.cond_eq_ite];split))
noncomputable abbrev rs2_C (Inv:rs2_G→List Prop) (m:rs2_G→Nat):LCon:=loopR [.exit 2] (loopBody Tryd.prog 67 15) rs2_LP [] 97 Inv (fun g=>rs2_R g.1 g.2.1 g.2.2.1 g.2.2.2.1 g.2.2.2.2.1 g.2.2.2.2.2.1 g.2.2.2.2.2.2) m
theorem rs2_loop (Inv:rs2_G→List Prop) (m:rs2_G→Nat) (hs:∀ g,allP (Inv g)→rs2_side g.1 g.2.1 g.2.2.1 g.2.2.2.1 g.2.2.2.2.1 g.2.2.2.2.2.1 g.2.2.2.2.2.2) (hg:Goes (fun g:rs2_G=>rs2_R g.1 g.2.1 g.2.2.1 g.2.2.2.1 g.2.2.2.2.1 g.2.2.2.2.2.1 g.2.2.2.2.2.2) m fun g=>allP (Inv g)):∀ b∈loopsOf Tryd.prog 67,lkey b=15→LoopOk Tryd.prog b (rs2_C Inv m).g:=loop_run (Γ:=(PTab.gamz tabC19 [] [])) (Λ:=lamC21) (PTab.okz tabC19 [] []) lamC21_ok 100 67 15 97 rs2_LP [] Inv (fun g=>rs2_R g.1 g.2.1 g.2.2.1 g.2.2.2.1 g.2.2.2.2.1 g.2.2.2.2.2.1 g.2.2.2.2.2.2) (fun g=>rs2_side g.1 g.2.1 g.2.2.1 g.2.2.2.1 g.2.2.2.2.1 g.2.2.2.2.2.1 g.2.2.2.2.2.2) m default [.exit 2] rs2_one (fun rd T B HL HB ds g=>by kernel_rfl) (fun rd T B HL HB ds g=>by kernel_rfl) hs hg rs2_es
end Go.Proofs.YtmegbepjdololaaDoor

namespace Go.Proofs.YtmegbepjdololaaDoor
open Go.RowKit Go.Sx Go.Lp
set_option maxRecDepth 100000
def KL:Nat:=1000000
theorem bytesR (h:46<Tryd.prog.types.size):(Tryd.prog.types[46]'h).bytes=24:=by kernel_rfl
theorem lst_snoc {α:Type} (A:El α) (o:List α) (v:α):A.lst (min (o.length+1) o.length) (A.els o)++List.map (fun _=>v) (List.range (o.length+1 - o.length))=o++[v]:=app1 A o v
noncomputable def spa_S (c:spa_GC) (b:spa_GB) (i:Int) (v:BA):Ex×spa_GB:=(.normal,bif !decide (v=ByteArray.mk #[])&&decide ((b.1.length:Int)<(4:Int)) then b.1++[Rec.mk c.2.2.key v] else b.1,b.2)
def spa_K (c:spa_GC) (b:spa_GB) (i:Int):Prop:=(c.1).length≤KL∧(List.length b.1:Int)≤i
abbrev spa_I (g:spa_G):List Prop:=ixI (fun c:spa_GC=>c.2.1) (fun c:spa_GC=>c.1) spa_K (spa_f g)
abbrev spa_M (g:spa_G):Nat:=ixM (fun c:spa_GC=>c.2.1) (spa_f g)
theorem spa_P:ixP spa_S (fun c:spa_GC=>c.1) spa_K:=by
 intro c b i a h _ _
 obtain ⟨h1,h2⟩:=h
 refine ⟨h1,?_⟩
 have h2:(List.length b.1:Int)≤(i:Int):=h2
 show (List.length (spa_S c b i a).2.1:Int)≤(i:Int)+1
 unfold spa_S
 generalize (!decide (a=ByteArray.mk #[])&&decide ((b.1.length:Int)<(4:Int)))=z0
 cases z0 <;> simp only[cond_true,cond_false,List.length_append,List.length_cons,List.length_nil] <;> omega
noncomputable abbrev spa_RR (g:spa_G):Ex×spa_G:=spa_R g.1 g.2.1 g.2.2.1 g.2.2.2.1 g.2.2.2.2.1 g.2.2.2.2.2
theorem spa_RF (d:Int×spa_GC×spa_GB) (hi:allP (ixI (fun c:spa_GC=>c.2.1) (fun c:spa_GC=>c.1) spa_K d)):spa_RR (spa_g d)=((ixF 2 (fun c:spa_GC=>c.2.1) (fun c:spa_GC=>c.1) eStr.dflt spa_S d).1,spa_g (ixF 2 (fun c:spa_GC=>c.2.1) (fun c:spa_GC=>c.1) eStr.dflt spa_S d).2):=by
 obtain ⟨i,⟨xs,n,r⟩,⟨o,⟨⟩⟩⟩:=d
 show spa_R xs n i o () r=_
 unfold spa_R ixF spa_S
 simp only[El.ag_eq,El.okL_eq,lst_snoc]
 cases decide (i<n) with
 | false=>rfl
 | true=>
  simp only[cond_true]
  generalize (!decide ((xs.getD i.toNat eStr.dflt)=ByteArray.mk #[])&&decide ((o.length:Int)<(4:Int)))=z0
  cases z0 <;> rfl
theorem spa_ok:∀ b∈loopsOf Tryd.prog 59,lkey b=13→LoopOk Tryd.prog b (spa_C spa_I spa_M).g:=by
 refine spa_loop spa_I spa_M (fun g hi=>?_) (ix_conj_goes (fun _=>rfl) (fun _=>rfl) spa_RF spa_P)
 obtain ⟨xs,n,i,o,⟨⟩,r⟩:=g
 obtain ⟨h1,h2,h3,h4,h5,h6⟩:=hi _ (List.mem_cons_self ..)
 have h1:n=(xs.length:Int):=h1
 have h3:0≤i:=h3
 have h5:xs.length≤1000000:=h5
 have h6:(o.length:Int)≤i:=h6
 show spa_side xs n i o () r
 unfold spa_side
 simp only[bytesR,decide_eq_true_eq,decide_eq_false_iff_not]
 have k0:∀ e:Nat,e<xs.length→eStr.Ok (eStr.els xs e):=fun e _=>eStr.ok_els xs e
 clear hi
 repeat' (first | exact k0 | apply And.intro | intro _)
 all_goals (first | trivial | omega | (unfold maxLen;omega))
theorem spa_run (c:spa_GC) (b:spa_GB) (k1:c.2.1=((c.1).length:Int)) (k2:(c.1).length≤KL) (k3:List.length b.1=0):loopF spa_RR spa_M (spa_g (0,c,b))=((scan 2 (spa_S c) 0 (c.1) b).1,spa_g ((scan 2 (spa_S c) 0 (c.1) b).2.1,c,(scan 2 (spa_S c) 0 (c.1) b).2.2)):=ix_conj_run (φ:=spa_f) (ψ:=spa_g) (fun _=>rfl) (fun _=>rfl) spa_RF spa_P c b k1 (Nat.le_trans k2 (by decide)) ⟨k2,by rw[k3];decide⟩
theorem spa_ix (c:spa_GC) (b:spa_GB) (k1:c.2.1=((c.1).length:Int)) (k2:(c.1).length≤KL) (k3:List.length b.1=0):ixJ (fun c:spa_GC=>c.2.1) (fun c:spa_GC=>c.1) spa_K (0,c,b):=ixJ0 k1 (Nat.le_trans k2 (by decide)) ⟨k2,by rw[k3];decide⟩
noncomputable def spb_S (c:spb_GC) (b:spb_GB) (i:Int) (v:BA):Ex×spb_GB:=(.normal,bif !decide (v=ByteArray.mk #[])&&decide ((b.1.length:Int)<(4:Int)) then b.1++[Rec.mk c.2.2.2.key v] else b.1,b.2)
def spb_K (c:spb_GC) (b:spb_GB) (i:Int):Prop:=(c.2.1).length≤KL∧(List.length b.1:Int)≤i∧c.1=c.2.1.length
abbrev spb_I (g:spb_G):List Prop:=ixI (fun c:spb_GC=>c.2.2.1) (fun c:spb_GC=>c.2.1) spb_K (spb_f g)
abbrev spb_M (g:spb_G):Nat:=ixM (fun c:spb_GC=>c.2.2.1) (spb_f g)
theorem spb_P:ixP spb_S (fun c:spb_GC=>c.2.1) spb_K:=by
 intro c b i a h _ _
 obtain ⟨h1,h2,h3⟩:=h
 refine ⟨h1,?_,h3⟩
 have h2:(List.length b.1:Int)≤(i:Int):=h2
 show (List.length (spb_S c b i a).2.1:Int)≤(i:Int)+1
 unfold spb_S
 generalize (!decide (a=ByteArray.mk #[])&&decide ((b.1.length:Int)<(4:Int)))=z0
 cases z0 <;> simp only[cond_true,cond_false,List.length_append,List.length_cons,List.length_nil] <;> omega
noncomputable abbrev spb_RR (g:spb_G):Ex×spb_G:=spb_R g.1 g.2.1 g.2.2.1 g.2.2.2.1 g.2.2.2.2.1 g.2.2.2.2.2.1 g.2.2.2.2.2.2
theorem spb_RF (d:Int×spb_GC×spb_GB) (hi:allP (ixI (fun c:spb_GC=>c.2.2.1) (fun c:spb_GC=>c.2.1) spb_K d)):spb_RR (spb_g d)=((ixF 2 (fun c:spb_GC=>c.2.2.1) (fun c:spb_GC=>c.2.1) eStr.dflt spb_S d).1,spb_g (ixF 2 (fun c:spb_GC=>c.2.2.1) (fun c:spb_GC=>c.2.1) eStr.dflt spb_S d).2):=by
 obtain ⟨i,⟨l,xs,n,r⟩,⟨o,⟨⟩⟩⟩:=d
 show spb_R l xs n i o () r=_
 unfold spb_R ixF spb_S
 simp only[El.ag_eq,El.okL_eq,lst_snoc]
 cases decide (i<n) with
 | false=>rfl
 | true=>
  simp only[cond_true]
  generalize (!decide ((xs.getD i.toNat eStr.dflt)=ByteArray.mk #[])&&decide ((o.length:Int)<(4:Int)))=z0
  cases z0 <;> rfl
theorem spb_ok:∀ b∈loopsOf Tryd.prog 59,lkey b=13→LoopOk Tryd.prog b (spb_C spb_I spb_M).g:=by
 refine spb_loop spb_I spb_M (fun g hi=>?_) (ix_conj_goes (fun _=>rfl) (fun _=>rfl) spb_RF spb_P)
 obtain ⟨l,xs,n,i,o,⟨⟩,r⟩:=g
 obtain ⟨h1,h2,h3,h4,h5,h6,h7⟩:=hi _ (List.mem_cons_self ..)
 have h7:l=xs.length:=h7
 have h1:n=(xs.length:Int):=h1
 have h3:0≤i:=h3
 have h5:xs.length≤1000000:=h5
 have h6:(o.length:Int)≤i:=h6
 show spb_side l xs n i o () r
 unfold spb_side
 simp only[bytesR,decide_eq_true_eq,decide_eq_false_iff_not]
 have k0:∀ e:Nat,e<xs.length→eStr.Ok (eStr.els xs e):=fun e _=>eStr.ok_els xs e
 clear hi
 repeat' (first | exact k0 | apply And.intro | intro _)
 all_goals (first | trivial | omega | (unfold maxLen;omega))
theorem spb_run (c:spb_GC) (b:spb_GB) (k1:c.2.2.1=((c.2.1).length:Int)) (k2:(c.2.1).length≤KL) (k3:List.length b.1=0) (k4:c.1=c.2.1.length):loopF spb_RR spb_M (spb_g (0,c,b))=((scan 2 (spb_S c) 0 (c.2.1) b).1,spb_g ((scan 2 (spb_S c) 0 (c.2.1) b).2.1,c,(scan 2 (spb_S c) 0 (c.2.1) b).2.2)):=ix_conj_run (φ:=spb_f) (ψ:=spb_g) (fun _=>rfl) (fun _=>rfl) spb_RF spb_P c b k1 (Nat.le_trans k2 (by decide)) ⟨k2,by rw[k3];decide,k4⟩
theorem spb_ix (c:spb_GC) (b:spb_GB) (k1:c.2.2.1=((c.2.1).length:Int)) (k2:(c.2.1).length≤KL) (k3:List.length b.1=0) (k4:c.1=c.2.1.length):ixJ (fun c:spb_GC=>c.2.2.1) (fun c:spb_GC=>c.2.1) spb_K (0,c,b):=ixJ0 k1 (Nat.le_trans k2 (by decide)) ⟨k2,by rw[k3];decide,k4⟩
end Go.Proofs.YtmegbepjdololaaDoor

namespace Go.Proofs.YtmegbepjdololaaDoor
open Go.RowKit Go.Sx Go.Lp
def rs1O (r:Rec) (i:Nat):List Rec:=(List.range i).map fun j=>⟨r.key,partS r.text j (j+1)⟩
def rs1_mk (r:Rec) (i:Nat):rs1_G:=(runes05 r.text,(i:Int),rs1O r i,(),r)
noncomputable abbrev rs1_I (g:rs1_G):List Prop:=[∃ r i,g=rs1_mk r i∧i≤(runes05 r.text).length∧i≤4∧r.text.size≤KB]
noncomputable abbrev rs1_M (g:rs1_G):Nat:=g.1.length - g.2.1.toNat
theorem rs1O_len (r:Rec) (i:Nat):(rs1O r i).length=i:=by simp[rs1O]
theorem rs1O_succ (r:Rec) (i:Nat):rs1O r (i+1)=rs1O r i++[⟨r.key,partS r.text i (i+1)⟩]:=by
 unfold rs1O
 rw[List.range_succ,List.map_append]
 rfl
theorem rs1_F (r:Rec) (i:Nat) (h1:i≤(runes05 r.text).length) (h2:i≤4):rs1_R (runes05 r.text) (i:Int) (rs1O r i) () r=if i<min (runes05 r.text).length 4 then (.normal,rs1_mk r (i+1)) else (.exit 0,rs1_mk r i):=by
 unfold rs1_R rs1_mk
 by_cases h:i<min (runes05 r.text).length 4
 ·rw[decide_eq_true (by omega),decide_eq_true (by omega),if_pos h]
  simp only[Bool.and_self,cond_true]
  rw[Int.toNat_natCast,wrS (x:=(i:Int)+1) (by omega),show ((i:Int)+1).toNat=i+1 by omega,eU.ag_eq,lst_snoc,rs1O_succ]
  rfl
 ·have e:(decide ((i:Int)<((runes05 r.text).length:Int))&&decide ((i:Int)<(4:Int)))=false:=by
   rw[Bool.and_eq_false_iff]
   simp only[decide_eq_false_iff_not]
   omega
  rw[e,if_neg h,cond_false,eU.ag_eq,eR.ag_eq]
theorem rs1_goes:Goes (fun g:rs1_G=>rs1_R g.1 g.2.1 g.2.2.1 g.2.2.2.1 g.2.2.2.2) rs1_M fun g=>allP (rs1_I g):=by
 intro g hi hn
 obtain ⟨r,i,rfl,h1,h2,h3⟩:=hi _ (List.mem_cons_self ..)
 have e:=rs1_F r i h1 h2
 change (rs1_R (runes05 r.text) (i:Int) (rs1O r i) () r).1=.normal at hn
 change allP (rs1_I (rs1_R (runes05 r.text) (i:Int) (rs1O r i) () r).2)∧rs1_M (rs1_R (runes05 r.text) (i:Int) (rs1O r i) () r).2<_
 rw[e] at hn ⊢
 by_cases h:i<min (runes05 r.text).length 4
 ·rw[if_pos h] at hn ⊢
  refine ⟨fun q hq=>?_,?_⟩
  ·simp only[List.mem_singleton] at hq
   subst hq
   exact ⟨r,i+1,rfl,by omega,by omega,h3⟩
  ·simp only[rs1_M,rs1_mk];omega
 ·rw[if_neg h] at hn;cases hn
theorem rs1_ok:∀ b∈loopsOf Tryd.prog 67,lkey b=8→LoopOk Tryd.prog b (rs1_C rs1_I rs1_M).g:=
 rs1_loop rs1_I rs1_M (fun g hi=>by
  obtain ⟨r,i,rfl,h1,h2,h3⟩:=hi _ (List.mem_cons_self ..)
  have hl:=rs1O_len r i
  show rs1_side (runes05 r.text) (i:Int) (rs1O r i) () r
  unfold rs1_side
  rw[bytesR]
  simp only[El.okL_eq,El.ag_eq,true_and,implies_true,and_true,Nat.le_refl]
  intro _
  rw[wrS (x:=(i:Int)+1) (by omega),hl]
  unfold maxLen
  omega) rs1_goes
theorem rs1_run (r:Rec) (hr:r.text.size≤KB):∀ (n i:Nat),i≤min (runes05 r.text).length 4→min (runes05 r.text).length 4 - i≤n→loopF (fun g:rs1_G=>rs1_R g.1 g.2.1 g.2.2.1 g.2.2.2.1 g.2.2.2.2) rs1_M (rs1_mk r i)=(.exit 0,rs1_mk r (min (runes05 r.text).length 4)):=by
 have hI:∀ i,i≤min (runes05 r.text).length 4→allP (rs1_I (rs1_mk r i)):=fun i h2 q hq=>by
  simp only[List.mem_singleton] at hq
  subst hq
  exact ⟨r,i,rfl,by omega,by omega,hr⟩
 intro n
 induction n with
 | zero=>
  intro i h2 h3
  have e:=rs1_F r i (by omega) (by omega)
  rw[if_neg (by omega)] at e
  have hi:i=min (runes05 r.text).length 4:=by omega
  rw[loopF_end (by show (rs1_R (runes05 r.text) (i:Int) (rs1O r i) () r).1≠_;rw[e];simp)]
  show rs1_R (runes05 r.text) (i:Int) (rs1O r i) () r=_
  rw[e,← hi]
 | succ n ih=>
  intro i h2 h3
  have e:=rs1_F r i (by omega) (by omega)
  by_cases h:i<min (runes05 r.text).length 4
  ·rw[if_pos h] at e
   rw[loopF_next rs1_goes (hI i h2) (show rs1_R (runes05 r.text) (i:Int) (rs1O r i) () r=_ from e)]
   exact ih (i+1) h (by omega)
  ·rw[if_neg h] at e
   have hi:i=min (runes05 r.text).length 4:=by omega
   rw[loopF_end (by show (rs1_R (runes05 r.text) (i:Int) (rs1O r i) () r).1≠_;rw[e];simp)]
   show rs1_R (runes05 r.text) (i:Int) (rs1O r i) () r=_
   rw[e,← hi]
def rs2_mk (r:Rec) (c:Int) (m i:Nat) (o:List Rec):rs2_G:=(runes05 r.text,c,(m:Int),(i:Int),o,(),r)
def rs2O (r:Rec) (m i:Nat) (o:List Rec):List Rec:=if m<i∧o.length<4 then o++[⟨r.key,partS r.text m i⟩] else o
def rs2Q (r:Rec) (c:Int) (i:Nat):Bool:=decide (i<(runes05 r.text).length)&&((runes05 r.text).getD i eU.dflt).r != c
noncomputable abbrev rs2_I (g:rs2_G):List Prop:=[∃ r c m i o,g=rs2_mk r c m i o∧m≤i∧i≤(runes05 r.text).length+1∧o.length≤4∧r.text.size≤KB]
noncomputable abbrev rs2_M (g:rs2_G):Nat:=g.1.length+1 - g.2.2.2.1.toNat
theorem rs2_F (r:Rec) (c:Int) (m i:Nat) (o:List Rec) (h1:i≤(runes05 r.text).length+1) (h2:r.text.size≤KB):rs2_R (runes05 r.text) c (m:Int) (i:Int) o () r =
  if i≤(runes05 r.text).length then (if rs2Q r c i=true then (.normal,rs2_mk r c m (i+1) o) else (.normal,rs2_mk r c (i+1) (i+1) (rs2O r m i o))) else (.exit 2,rs2_mk r c m i o):=by
 have hl:=runes05_len r.text
 unfold KB at h2
 unfold rs2_R rs2_mk
 by_cases h:i≤(runes05 r.text).length
 ·rw[decide_eq_true (show (i:Int)≤((runes05 r.text).length:Int) by omega),cond_true,if_pos h,wrS (x:=(i:Int)+1) (by omega),eU.ag_eq]
  have e:(decide ((i:Int)<((runes05 r.text).length:Int))&&((runes05 r.text).getD ((i:Int)).toNat eU.dflt).r != c)=rs2Q r c i:=by
   unfold rs2Q
   rw[Int.toNat_natCast]
   congr 1
   rw[Bool.eq_iff_iff]
   simp only[decide_eq_true_eq]
   omega
  rw[e]
  cases rs2Q r c i with
  | true=>rw[cond_true,if_pos rfl,eR.ag_eq];rfl
  | false=>
   rw[cond_false,if_neg (by simp)]
   unfold rs2O
   by_cases hc:m<i∧o.length<4
   ·rw[decide_eq_true (show (m:Int)<(i:Int) by omega),decide_eq_true (show (o.length:Int)<4 by omega),if_pos hc,lst_snoc]
    rfl
   ·have e2:(decide ((m:Int)<(i:Int))&&decide ((o.length:Int)<(4:Int)))=false:=by
     rw[Bool.and_eq_false_iff]
     simp only[decide_eq_false_iff_not]
     omega
    rw[e2,if_neg hc,cond_false,eR.ag_eq]
    rfl
 ·rw[decide_eq_false (show ¬ ((i:Int)≤((runes05 r.text).length:Int)) by omega),if_neg h,cond_false,eU.ag_eq,eR.ag_eq]
theorem rs2O_len (r:Rec) (m i:Nat) (o:List Rec) (h:o.length≤4):(rs2O r m i o).length≤4:=by
 unfold rs2O
 split
 ·rw[List.length_append,List.length_singleton];omega
 ·exact h
theorem rs2_goes:Goes (fun g:rs2_G=>rs2_R g.1 g.2.1 g.2.2.1 g.2.2.2.1 g.2.2.2.2.1 g.2.2.2.2.2.1 g.2.2.2.2.2.2) rs2_M fun g=>allP (rs2_I g):=by
 intro g hi hn
 obtain ⟨r,c,m,i,o,rfl,h0,h1,h2,h3⟩:=hi _ (List.mem_cons_self ..)
 have e:=rs2_F r c m i o h1 h3
 change (rs2_R (runes05 r.text) c (m:Int) (i:Int) o () r).1=.normal at hn
 change allP (rs2_I (rs2_R (runes05 r.text) c (m:Int) (i:Int) o () r).2)∧rs2_M (rs2_R (runes05 r.text) c (m:Int) (i:Int) o () r).2<_
 rw[e] at hn ⊢
 by_cases h:i≤(runes05 r.text).length
 ·rw[if_pos h] at hn ⊢
  cases hq:rs2Q r c i with
  | true=>
   rw[if_pos rfl]
   refine ⟨fun q hq=>?_,?_⟩
   ·simp only[List.mem_singleton] at hq
    subst hq
    exact ⟨r,c,m,i+1,o,rfl,by omega,by omega,h2,h3⟩
   ·simp only[rs2_M,rs2_mk];omega
  | false=>
   rw[if_neg (by simp)]
   refine ⟨fun q hq=>?_,?_⟩
   ·simp only[List.mem_singleton] at hq
    subst hq
    exact ⟨r,c,i+1,i+1,_,rfl,by omega,by omega,rs2O_len r m i o h2,h3⟩
   ·simp only[rs2_M,rs2_mk];omega
 ·rw[if_neg h] at hn;cases hn
theorem rs2_ok:∀ b∈loopsOf Tryd.prog 67,lkey b=15→LoopOk Tryd.prog b (rs2_C rs2_I rs2_M).g:=
 rs2_loop rs2_I rs2_M (fun g hi=>by
  obtain ⟨r,c,m,i,o,rfl,h0,h1,h2,h3⟩:=hi _ (List.mem_cons_self ..)
  show rs2_side (runes05 r.text) c (m:Int) (i:Int) o () r
  unfold rs2_side
  rw[bytesR]
  simp only[El.okL_eq,El.ag_eq,true_and,implies_true,and_true,Nat.le_refl]
  unfold maxLen
  exact fun _=>⟨fun h=>⟨by omega,of_decide_eq_true h⟩,fun _ _=>by omega⟩) rs2_goes
def rs2N (r:Rec) (c:Int):Nat→Nat→Nat→List Rec→List Rec
 | 0,_,_,o=>o
 | k+1,m,i,o=>if rs2Q r c i=true then rs2N r c k m (i+1) o else rs2N r c k (i+1) (i+1) (rs2O r m i o)
theorem rs2_run (r:Rec) (c:Int) (hr:r.text.size≤KB):∀ (n m i:Nat) (o:List Rec),m≤i→i+n=(runes05 r.text).length+1→o.length≤4→∃ m' i',loopF (fun g:rs2_G=>rs2_R g.1 g.2.1 g.2.2.1 g.2.2.2.1 g.2.2.2.2.1 g.2.2.2.2.2.1 g.2.2.2.2.2.2) rs2_M (rs2_mk r c m i o)=(.exit 2,rs2_mk r c m' i' (rs2N r c n m i o)):=by
 have hI:∀ m i o,m≤i→i≤(runes05 r.text).length+1→o.length≤4→allP (rs2_I (rs2_mk r c m i o)):=fun m i o h1 h2 h3 q hq=>by
  simp only[List.mem_singleton] at hq
  subst hq
  exact ⟨r,c,m,i,o,rfl,h1,h2,h3,hr⟩
 intro n
 induction n with
 | zero=>
  intro m i o h1 h2 h3
  have e:=rs2_F r c m i o (by omega) hr
  rw[if_neg (by omega)] at e
  refine ⟨m,i,?_⟩
  rw[loopF_end (by show (rs2_R (runes05 r.text) c (m:Int) (i:Int) o () r).1≠_;rw[e];simp)]
  exact e
 | succ n ih=>
  intro m i o h1 h2 h3
  have e:=rs2_F r c m i o (by omega) hr
  rw[if_pos (by omega)] at e
  simp only[rs2N]
  cases hq:rs2Q r c i with
  | true=>
   rw[hq,if_pos rfl] at e
   rw[if_pos rfl,loopF_next rs2_goes (hI m i o h1 (by omega) h3) (show rs2_R (runes05 r.text) c (m:Int) (i:Int) o () r=_ from e)]
   exact ih m (i+1) o (by omega) (by omega) h3
  | false=>
   rw[hq,if_neg (by simp)] at e
   rw[if_neg (by simp),loopF_next rs2_goes (hI m i o h1 (by omega) h3) (show rs2_R (runes05 r.text) c (m:Int) (i:Int) o () r=_ from e)]
   exact ih (i+1) (i+1) _ (Nat.le_refl _) (by omega) (rs2O_len r m i o h3)
def pk (key:Int) (l:List BA):List Rec:=((l.filter fun s=>!decide (s=ByteArray.mk #[])).take 4).map fun s=>⟨key,s⟩
theorem pk_snoc (key:Int) (l:List BA) (s:BA):pk key (l++[s])=if s≠ByteArray.mk #[]∧(pk key l).length<4 then pk key l++[⟨key,s⟩] else pk key l:=by
 unfold pk
 rw[List.filter_append,List.length_map,List.length_take]
 generalize hf:l.filter (fun s=>!decide (s=ByteArray.mk #[]))=f
 by_cases hs:s=ByteArray.mk #[]
 ·have:[s].filter (fun s=>!decide (s=ByteArray.mk #[]))=[]:=by simp[hs]
  rw[this,List.append_nil,if_neg (fun h=>h.1 hs)]
 ·have:[s].filter (fun s=>!decide (s=ByteArray.mk #[]))=[s]:=by simp[hs]
  rw[this]
  by_cases hl:f.length<4
  ·rw[if_pos ⟨hs,by omega⟩,List.take_of_length_le (by rw[List.length_append,List.length_singleton];omega),List.take_of_length_le (by omega),List.map_append]
   rfl
  ·rw[if_neg (by omega),List.take_append_of_le_length (by omega)]
theorem pk_fold (key:Int):∀ (l o:List BA),l.foldl (fun (b:List Rec) v=>bif !decide (v=ByteArray.mk #[])&&decide ((b.length:Int)<(4:Int)) then b++[Rec.mk key v] else b) (pk key o)=pk key (o++l)
 | [],o=>by simp
 | s :: l,o=>by
  have e:(bif !decide (s=ByteArray.mk #[])&&decide (((pk key o).length:Int)<(4:Int)) then pk key o++[Rec.mk key s] else pk key o)=pk key (o++[s]):=by
   rw[pk_snoc]
   by_cases hs:s=ByteArray.mk #[]
   ·rw[if_neg (fun h=>h.1 hs),hs];rfl
   ·by_cases hl:(pk key o).length<4
    ·rw[if_pos ⟨hs,hl⟩,decide_eq_false hs,decide_eq_true (by omega)];rfl
    ·rw[if_neg (fun h=>hl h.2),decide_eq_false (show ¬ (((pk key o).length:Int)<4) by omega),Bool.and_false];rfl
  rw[List.foldl_cons,e,pk_fold key l (o++[s]),List.append_assoc]
  rfl
theorem rs2_words (r:Rec) (c:Int) (hv:validS r.text=true):∀ (n m i:Nat) (o:List BA) (w:List Int),m≤i→i+n=(runes06 r.text).length+1→w=((runes06 r.text).take i).drop m→i≤(runes06 r.text).length+1→(0<n→rs2N r c n m i (pk r.key o)=pk r.key (wordsF c ((runes06 r.text).drop i) o w))
 | 0,m,i,o,w,_,_,_,_=>fun h=>by omega
 | n+1,m,i,o,w,h1,h2,h3,_=>fun _=>by
  have hcs:=runes06_cs r.text
  have hlen:(runes05 r.text).length=(runes06 r.text).length:=runes_len r.text
  have hpart:runesBytes w=partS r.text m i:=toL_inj (by
   rw[part_v hv m i h1,h3,hcs,← List.map_take,← List.map_drop,rb_toL])
  have hemp:runesBytes w≠ByteArray.mk #[]↔m<i:=by
   have hwl:w.length=i - m:=by rw[h3,List.length_drop,List.length_take];omega
   constructor
   ·intro hne
    refine Classical.byContradiction fun hc=>hne ?_
    have:w=[]:=List.length_eq_zero_iff.1 (by omega)
    rw[this];rfl
   ·intro hlt he
    have hz:=congrArg toL he
    rw[hpart,part_v hv m i h1] at hz
    have hw2:((rns (toL r.text)).take i).drop m≠[]:=by
     intro hn
     have:=congrArg List.length hn
     rw[List.length_drop,List.length_take,← r06_len] at this
     simp only[List.length_nil] at this
     omega
    obtain ⟨x,xs,hx⟩:=List.exists_cons_of_ne_nil hw2
    rw[hx,encs_cons] at hz
    have hsc:sc x:=rns_sc (toL r.text) x (List.mem_of_mem_take (List.mem_of_mem_drop (show x∈((rns (toL r.text)).take i).drop m by rw[hx];exact List.mem_cons_self ..)))
    exact encL_ne hsc (List.append_eq_nil_iff.1 hz).1
  have hO:rs2O r m i (pk r.key o)=pk r.key (o++[runesBytes w]):=by
   unfold rs2O
   rw[pk_snoc,hpart]
   by_cases hlt:m<i
   ·by_cases hl:(pk r.key o).length<4
    ·rw[if_pos ⟨hlt,hl⟩,if_pos ⟨by rw[← hpart];exact hemp.2 hlt,hl⟩]
    ·rw[if_neg (fun h=>hl h.2),if_neg (fun h=>hl h.2)]
   ·rw[if_neg (fun h=>hlt h.1),if_neg (fun h=>hlt (hemp.1 (by rw[hpart];exact h.1)))]
  simp only[rs2N]
  by_cases hi:i<(runes06 r.text).length
  ·have hq:rs2Q r c i=((runes06 r.text)[i] != c):=by
    unfold rs2Q
    rw[decide_eq_true (by omega),Bool.true_and,r05_at r.text i (by omega)]
    congr 1
    have:(runes06 r.text)[i]=(((rsL (toL r.text))[i]'(by rw[← r05_len,hlen];exact hi)).1:Int):=by
     simp[runes06]
    rw[this]
   rw[hq,List.drop_eq_getElem_cons hi]
   simp only[wordsF]
   cases hc:(runes06 r.text)[i] != c with
   | true=>
    rw[if_pos rfl,cond_true]
    refine rs2_words r c hv n m (i+1) o _ (by omega) (by omega) ?_ (by omega) (by omega)
    rw[h3,List.take_succ_eq_append_getElem hi,List.drop_append_of_le_length (by rw[List.length_take];omega)]
   | false=>
    rw[if_neg (by simp),cond_false,hO]
    refine rs2_words r c hv n (i+1) (i+1) _ _ (Nat.le_refl _) (by omega) ?_ (by omega) (by omega)
    rw[List.drop_eq_nil_of_le (by rw[List.length_take];omega)]
  ·have hq:rs2Q r c i=false:=by
    unfold rs2Q
    rw[decide_eq_false (by omega)];rfl
   have hn:n=0:=by omega
   subst hn
   rw[hq,if_neg (by simp),List.drop_eq_nil_of_le (by omega),hO]
   rfl
theorem one_part {t:BA} (hv:validS t=true) (i:Nat) (h:i<(runes06 t).length):runesBytes [(runes06 t)[i]]=partS t i (i+1):=by
 have hcs:=runes06_cs t
 have h':i<(rns (toL t)).length:=by rw[← r06_len];exact h
 refine toL_inj ?_
 rw[part_v hv i (i+1) (Nat.le_succ i),List.take_succ_eq_append_getElem h',List.drop_left' (by rw[List.length_take];omega)]
 have:[(runes06 t)[i]]=[(rns (toL t))[i]].map fun (c:Nat)=>(c:Int):=by simp[hcs]
 rw[this,rb_toL]
theorem one_ne (c:Nat) (h:sc c):runesBytes [(c:Int)]≠ByteArray.mk #[]:=by
 intro he
 have hz:=congrArg toL he
 have:=rb_toL [c]
 rw[List.map_cons,List.map_nil] at this
 rw[this,encs_cons] at hz
 exact encL_ne h (List.append_eq_nil_iff.1 hz).1
theorem each_pk (r:Rec) (hv:validS r.text=true):rs1O r (min (runes05 r.text).length 4)=pk r.key (eachL r.text):=by
 have hne:(eachL r.text).filter (fun s=>!decide (s=ByteArray.mk #[]))=eachL r.text:=by
  rw[List.filter_eq_self]
  intro s hs
  unfold eachL at hs
  rw[runes06_cs,List.map_map] at hs
  obtain ⟨c,hc,rfl⟩:=List.mem_map.1 hs
  have:=one_ne c (rns_sc _ c hc)
  simpa using this
 unfold pk
 rw[hne,runes_len]
 have hl:(eachL r.text).length=(runes06 r.text).length:=by unfold eachL;rw[List.length_map]
 refine List.ext_getElem (by rw[rs1O_len,List.length_map,List.length_take,hl];omega) fun i h1 h2=>?_
 rw[rs1O_len] at h1
 have e1:∀ (n:Nat) (h:i<(rs1O r n).length),(rs1O r n)[i]=⟨r.key,partS r.text i (i+1)⟩:=fun n h=>by simp[rs1O]
 rw[e1]
 simp only[List.getElem_map,List.getElem_take]
 have hi:i<(runes06 r.text).length:=by omega
 have:(eachL r.text)[i]'(by rw[hl];exact hi)=partS r.text i (i+1):=by
  rw[← one_part hv i hi]
  simp[eachL]
 rw[this]
end Go.Proofs.YtmegbepjdololaaDoor

namespace Go.Proofs.YtmegbepjdololaaDoor
open Go.RowKit Go.Sx Go.Lp
noncomputable def ltC25:LTab Tryd.prog:=((ltC21.cons 59 13 (lconAlt 2 (spa_C spa_I spa_M) (spb_C spb_I spb_M)) (fun b hb hk=>altL_ok (spa_ok b hb hk) (spb_ok b hb hk))).cons 67 8 (rs1_C rs1_I rs1_M) rs1_ok).cons 67 15 (rs2_C rs2_I rs2_M) rs2_ok
noncomputable abbrev lamC25:Lam:=ltC25.lam
theorem lamC25_ok:∀ f k L,lamC25 f k=some L→∀ b∈loopsOf Tryd.prog f,lkey b=k→LoopOk Tryd.prog b L.g:=ltC25.ok
end Go.Proofs.YtmegbepjdololaaDoor

namespace Go.Proofs.YtmegbepjdololaaDoor
open Go.RowKit Go.Sx
set_option maxRecDepth 100000
set_option linter.unusedVariables false
noncomputable def spl_q1 (f:Fn) (r:Rec):Ex ×
 spa_G:=
 loopF (fun g=>spa_R g.fst g.snd.fst g.snd.snd.fst g.snd.snd.snd.fst g.snd.snd.snd.snd.fst g.snd.snd.snd.snd.snd) spa_M (eStr.ag (wordsF ((runes06 f.s).getD (0:Nat) e3.dflt) (runes06 r.text) [] []),(↑(wordsF ((runes06 f.s).getD (0:Nat) e3.dflt) (runes06 r.text) [] []).length:Int),(0:Int),[],(),r)
noncomputable def spl_q2 (f:Fn) (r:Rec):Ex×sp1_G:=
 loopF (fun g=>sp1_R g.fst g.snd.fst g.snd.snd) sp1_M ((),(r.text,(0:Nat)),[])
noncomputable def spl_q3 (f:Fn) (r:Rec):Ex ×
 spb_G:=
 loopF (fun g=>spb_R g.fst g.snd.fst g.snd.snd.fst g.snd.snd.snd.fst g.snd.snd.snd.snd.fst g.snd.snd.snd.snd.snd.fst g.snd.snd.snd.snd.snd.snd) spb_M ((spl_q2 f r).snd.snd.snd.length,eStr.ag (spl_q2 f r).snd.snd.snd,(↑(spl_q2 f r).snd.snd.snd.length:Int),(0:Int),[],(),r)
noncomputable def spl_F (f:Fn) (r:Rec):Rv.T (.tup (.cons (.list eR) (.one (.of dI)))):=
 bif bothF (4:Int) f r != (0:Int) then ([],bothF (4:Int) f r)
 else bif f.kind==(22:Int) then (eR.ag (spl_q1 f r).snd.snd.snd.snd.fst,(0:Int)) else (eR.ag (spl_q3 f r).snd.snd.snd.snd.snd.fst,(0:Int))
def spl_side (f:Fn) (r:Rec):Prop:=
 ByteArray.size f.s≤KB∧((bothF (4:Int) f r != (0:Int))=false→((f.kind==(22:Int))=true→ByteArray.size f.s≤KB∧((0:Int)≤(0:Int)∧(0:Int)<(↑(runes06 f.s).length:Int))∧ByteArray.size r.text≤KB∧eStr.okL (wordsF ((runes06 f.s).getD (0:Nat) e3.dflt) (runes06 r.text) [] [])∧Lp.ixJ (fun c=>c.snd.fst) (fun c=>c.fst) spa_K (spa_f (eStr.ag (wordsF ((runes06 f.s).getD (0:Nat) e3.dflt) (runes06 r.text) [] []),(↑(wordsF ((runes06 f.s).getD (0:Nat) e3.dflt) (runes06 r.text) [] []).length:Int),(0:Int),[],(),r))∧(spl_q1 f r).snd.snd.snd.snd.fst.length≤(spl_q1 f r).snd.snd.snd.snd.fst.length∧∀ (e:Nat),e<(spl_q1 f r).snd.snd.snd.snd.fst.length→True)∧((f.kind==(22:Int))=false→(∃ p c b,((),(r.text,(0:Nat)),[])=sp1_mk p c b∧p≤ByteArray.size c∧sp1_P c b p)∧(∀ (e:Nat),e<(spl_q2 f r).snd.snd.snd.length→True)∧Lp.ixJ (fun c=>c.snd.snd.fst) (fun c=>c.snd.fst) spb_K (spb_f ((spl_q2 f r).snd.snd.snd.length,eStr.ag (spl_q2 f r).snd.snd.snd,(↑(spl_q2 f r).snd.snd.snd.length:Int),(0:Int),[],(),r))∧(spl_q3 f r).snd.snd.snd.snd.snd.fst.length≤(spl_q3 f r).snd.snd.snd.snd.snd.fst.length∧∀ (e:Nat),e<(spl_q3 f r).snd.snd.snd.snd.snd.fst.length→True))
theorem spl_okS (pre:DA.T aFR→List Prop) (h:∀ g,DA.bd aFR g→(∀ p∈pre g,p)→spl_side g.1 g.2):FnPure Tryd.prog 59 aFR (Rv.D (.tup (.cons (.list eR) (.one (.of dI))))) (fun g=>spl_F g.1 g.2) pre:=res_of_side (R:=(.tup (.cons (.list eR) (.one (.of dI))))) (Γ:=(PTab.gamz tabC19 [] [])) (Λ:=lamC25) (PTab.okz tabC19 [] []) lamC25_ok 100 default (fun g=>spl_side g.1 g.2) (fun g=>by kernel_rfl) (fun g=>by kernel_rfl) h
noncomputable def rsp_q1 (f:Fn) (r:Rec):Ex ×
 rs1_G:=
 loopF (fun g=>rs1_R g.fst g.snd.fst g.snd.snd.fst g.snd.snd.snd.fst g.snd.snd.snd.snd) rs1_M (eU.ag (runes05 r.text),(0:Int),[],(),r)
noncomputable def rsp_q2 (f:Fn) (r:Rec):Ex ×
 rs2_G:=
 loopF (fun g=>rs2_R g.fst g.snd.fst g.snd.snd.fst g.snd.snd.snd.fst g.snd.snd.snd.snd.fst g.snd.snd.snd.snd.snd.fst g.snd.snd.snd.snd.snd.snd) rs2_M (eU.ag (runes05 r.text),((runes05 f.s).getD (0:Nat) eU.dflt).r,(0:Int),(0:Int),[],(),r)
noncomputable def rsp_F (f:Fn) (r:Rec):Rv.T (.tup (.cons (.list eR) (.one (.of dI)))):=
 bif bothF (4:Int) f r != (0:Int) then ([],bothF (4:Int) f r)
 else bif f.kind==(21:Int) then (eR.ag (rsp_q1 f r).snd.snd.snd.fst,(0:Int)) else (eR.ag (rsp_q2 f r).snd.snd.snd.snd.snd.fst,(0:Int))
def rsp_side (f:Fn) (r:Rec):Prop:=
 ByteArray.size f.s≤KB∧((bothF (4:Int) f r != (0:Int))=false→ByteArray.size r.text≤KB∧((f.kind==(21:Int))=true→eU.okL (runes05 r.text)∧(∃ r_1 i,(eU.ag (runes05 r.text),(0:Int),[],(),r)=rs1_mk r_1 i∧i≤(runes05 r_1.text).length∧i≤(4:Nat)∧ByteArray.size r_1.text≤KB)∧(rsp_q1 f r).snd.snd.snd.fst.length≤(rsp_q1 f r).snd.snd.snd.fst.length∧∀ (e:Nat),e<(rsp_q1 f r).snd.snd.snd.fst.length→True)∧((f.kind==(21:Int))=false→ByteArray.size f.s≤KB∧((0:Int)≤(0:Int)∧(0:Int)<(↑(runes05 f.s).length:Int))∧eU.okL (runes05 r.text)∧(∃ r_1 c m i o,(eU.ag (runes05 r.text),((runes05 f.s).getD (0:Nat) eU.dflt).r,(0:Int),(0:Int),[],(),r)=rs2_mk r_1 c m i o∧m≤i∧i≤(runes05 r_1.text).length+(1:Nat)∧o.length≤(4:Nat)∧ByteArray.size r_1.text≤KB)∧(rsp_q2 f r).snd.snd.snd.snd.snd.fst.length≤(rsp_q2 f r).snd.snd.snd.snd.snd.fst.length∧∀ (e:Nat),e<(rsp_q2 f r).snd.snd.snd.snd.snd.fst.length→True))
theorem rsp_okS (pre:DA.T aFR→List Prop) (h:∀ g,DA.bd aFR g→(∀ p∈pre g,p)→rsp_side g.1 g.2):FnPure Tryd.prog 67 aFR (Rv.D (.tup (.cons (.list eR) (.one (.of dI))))) (fun g=>rsp_F g.1 g.2) pre:=res_of_side (R:=(.tup (.cons (.list eR) (.one (.of dI))))) (Γ:=(PTab.gamz tabC19 [] [])) (Λ:=lamC25) (PTab.okz tabC19 [] []) lamC25_ok 100 default (fun g=>rsp_side g.1 g.2) (fun g=>by kernel_rfl) (fun g=>by kernel_rfl) h
end Go.Proofs.YtmegbepjdololaaDoor

namespace Go.Proofs.YtmegbepjdololaaDoor
open Go.RowKit Go.Sx Go.Lp
def rune0 (s:BA):Int:=(runes06 s).getD 0 e3.dflt
def splitL (f:Fn) (r:Rec):List Rec:=pk r.key (bif f.kind==(22:Int) then wordsF (rune0 f.s) (runes06 r.text) [] [] else eachL r.text)
noncomputable def splF (f:Fn) (r:Rec):List Rec×Int:=bif bothF 4 f r != (0:Int) then ([],bothF 4 f r) else (splitL f r,0)
theorem chk4 {f:Fn} (h:chkF 4 f=0):(f.kind=21∨f.kind=22)∧num_F f=true∧textF f=true:=by
 rcases chkF_zero h with ⟨h1,_⟩ | ⟨_,h2,h3,h4,h5⟩
 ·exact absurd h1 (by decide)
 ·have h2:(21:Int)≤f.kind:=h2
  have h3:f.kind≤22:=h3
  exact ⟨by omega,h4,h5⟩
theorem text_single {f:Fn} (h:textF f=true) (hk:f.kind=12∨f.kind=22):singleS f.s=true:=by
 unfold textF at h
 rcases hk with hk | hk <;> (rw[hk] at h;simpa using h)
theorem single_len {s:BA} (h:singleS s=true):(runes06 s).length=1:=by
 unfold singleS at h
 simp only[Bool.and_eq_true,beq_iff_eq] at h
 exact h.1
theorem words_len (c:Int):∀ (l:List Int) (o:List BA) (w:List Int),(wordsF c l o w).length≤o.length+l.length+1
 | [],o,w=>by simp only[wordsF,List.length_append,List.length_singleton,List.length_nil];omega
 | d :: l,o,w=>by
  simp only[wordsF]
  cases d != c with
  | true=>
   have:=words_len c l o (w++[d])
   simp only[cond_true,List.length_cons]
   omega
  | false=>
   have:=words_len c l (o++[runesBytes w]) []
   simp only[cond_false,List.length_append,List.length_cons,List.length_nil] at this ⊢
   omega
theorem text_small {k:Int} {f:Fn} {r:Rec} (hb:(bothF k f r != (0:Int))=false):r.text.size≤64:=((chkR_iff r).1 (both_zero hb).2).1
theorem words_KL {r:Rec} (h:r.text.size≤64) (c:Int):(wordsF c (runes06 r.text) [] []).length≤KL:=by
 have:=words_len c (runes06 r.text) [] []
 have:=rns_len r.text
 simp only[List.length_nil] at *
 unfold KL;omega
theorem each_KL {r:Rec} (h:r.text.size≤64):(eachL r.text).length≤KL:=by
 have:=rns_len r.text
 unfold eachL KL
 rw[List.length_map];omega
theorem spl_q1_eq (f:Fn) (r:Rec) (h:r.text.size≤64):(spl_q1 f r).2.2.2.2.1=pk r.key (wordsF (rune0 f.s) (runes06 r.text) [] []):=by
 have hr:=spa_run (wordsF (rune0 f.s) (runes06 r.text) [] [],((wordsF (rune0 f.s) (runes06 r.text) [] []).length:Int),r) ([],()) rfl (words_KL h _) rfl
 have hq:spl_q1 f r=loopF spa_RR spa_M (spa_g (0,(wordsF (rune0 f.s) (runes06 r.text) [] [],((wordsF (rune0 f.s) (runes06 r.text) [] []).length:Int),r),([],()))):=by
  unfold spl_q1
  rw[eStr.ag_eq]
  rfl
 rw[hq,hr]
 have hf:=scan_fold (x:=2) (st:=spa_S (wordsF (rune0 f.s) (runes06 r.text) [] [],((wordsF (rune0 f.s) (runes06 r.text) [] []).length:Int),r)) (f:=fun (b:spa_GB) v=>((bif !decide (v=ByteArray.mk #[])&&decide ((b.1.length:Int)<(4:Int)) then b.1++[Rec.mk r.key v] else b.1),b.2)) (fun b i a=>rfl) (wordsF (rune0 f.s) (runes06 r.text) [] []) 0 ([],())
 refine Eq.trans (congrArg (fun x:Ex×Int×spa_GB=>x.2.2.1) hf) ?_
 have hsplit:∀ (l:List BA) (o:List Rec),(l.foldl (fun (b:spa_GB) v=>((bif !decide (v=ByteArray.mk #[])&&decide ((b.1.length:Int)<(4:Int)) then b.1++[Rec.mk r.key v] else b.1),b.2)) (o,())).1=l.foldl (fun (b:List Rec) v=>bif !decide (v=ByteArray.mk #[])&&decide ((b.length:Int)<(4:Int)) then b++[Rec.mk r.key v] else b) o:=by
  intro l
  induction l with
  | nil=>intro o;rfl
  | cons v l ih=>intro o;rw[List.foldl_cons,List.foldl_cons,ih]
 refine Eq.trans (hsplit _ _) ?_
 exact pk_fold r.key _ []
theorem spl_q2_eq (f:Fn) (r:Rec) (h:r.text.size≤64):(spl_q2 f r).2.2.2=eachL r.text:=(sp1_run r.text (by unfold KB;omega)).2
theorem spl_q3_eq (f:Fn) (r:Rec) (h:r.text.size≤64):(spl_q3 f r).2.2.2.2.2.1=pk r.key (eachL r.text):=by
 have hr:=spb_run ((eachL r.text).length,eachL r.text,((eachL r.text).length:Int),r) ([],()) rfl (each_KL h) rfl rfl
 have hq:spl_q3 f r=loopF spb_RR spb_M (spb_g (0,((eachL r.text).length,eachL r.text,((eachL r.text).length:Int),r),([],()))):=by
  unfold spl_q3
  rw[spl_q2_eq f r h,eStr.ag_eq]
  rfl
 rw[hq,hr]
 have hf:=scan_fold (x:=2) (st:=spb_S ((eachL r.text).length,eachL r.text,((eachL r.text).length:Int),r)) (f:=fun (b:spb_GB) v=>((bif !decide (v=ByteArray.mk #[])&&decide ((b.1.length:Int)<(4:Int)) then b.1++[Rec.mk r.key v] else b.1),b.2)) (fun b i a=>rfl) (eachL r.text) 0 ([],())
 refine Eq.trans (congrArg (fun x:Ex×Int×spb_GB=>x.2.2.1) hf) ?_
 have hsplit:∀ (l:List BA) (o:List Rec),(l.foldl (fun (b:spb_GB) v=>((bif !decide (v=ByteArray.mk #[])&&decide ((b.1.length:Int)<(4:Int)) then b.1++[Rec.mk r.key v] else b.1),b.2)) (o,())).1=l.foldl (fun (b:List Rec) v=>bif !decide (v=ByteArray.mk #[])&&decide ((b.length:Int)<(4:Int)) then b++[Rec.mk r.key v] else b) o:=by
  intro l
  induction l with
  | nil=>intro o;rfl
  | cons v l ih=>intro o;rw[List.foldl_cons,List.foldl_cons,ih]
 refine Eq.trans (hsplit _ _) ?_
 exact pk_fold r.key _ []
theorem spl_ok:FnPure Tryd.prog 59 aFR dLRE (fun g=>splF g.1 g.2) (fun g=>[g.1.s.size≤KB]):=
 pure_congr (spl_okS _ fun g _ hp=>by
  obtain ⟨f,r⟩:=g
  have h:f.s.size≤KB:=hp _ (List.mem_cons_self ..)
  show spl_side f r
  refine ⟨h,fun hb=>?_⟩
  obtain ⟨h1,h2⟩:=both_zero hb
  obtain ⟨k1,k3,k4⟩:=chk4 h1
  have ht:=text_small hb
  have ht':=rec_KB hb
  refine ⟨fun hk=>?_,fun hk=>?_⟩
  ·have hk:f.kind=22:=by simpa using hk
   have hl:=single_len (text_single k4 (.inr hk))
   refine ⟨h,⟨Int.le_refl _,by omega⟩,ht',?_,?_,Nat.le_refl _,fun _ _=>trivial⟩
   ·rw[eStr.okL_eq];trivial
   ·rw[eStr.ag_eq]
    exact spa_ix (wordsF (rune0 f.s) (runes06 r.text) [] [],((wordsF (rune0 f.s) (runes06 r.text) [] []).length:Int),r) ([],()) rfl (words_KL ht _) rfl
  ·refine ⟨⟨0,r.text,[],rfl,Nat.zero_le _,ht',Nat.le_refl _⟩,fun _ _=>trivial,?_,Nat.le_refl _,fun _ _=>trivial⟩
   rw[spl_q2_eq f r ht,eStr.ag_eq]
   exact spb_ix ((eachL r.text).length,eachL r.text,((eachL r.text).length:Int),r) ([],()) rfl (each_KL ht) rfl rfl) fun g _ _=>by
  obtain ⟨f,r⟩:=g
  show spl_F f r=splF f r
  unfold spl_F splF splitL
  cases hb:bothF 4 f r != (0:Int) with
  | true=>rfl
  | false=>
   have ht:=text_small hb
   rw[cond_false,cond_false,spl_q1_eq f r ht,spl_q3_eq f r ht,eR.ag_eq,eR.ag_eq]
   cases f.kind==(22:Int) <;> rfl
theorem rsp_q1_eq (f:Fn) (r:Rec) (h:r.text.size≤64) (hv:validS r.text=true):(rsp_q1 f r).2.2.2.1=pk r.key (eachL r.text):=by
 have hr:=rs1_run r (by unfold KB;omega) _ 0 (Nat.zero_le _) (Nat.sub_le _ _)
 have hq:rsp_q1 f r=loopF (fun g:rs1_G=>rs1_R g.1 g.2.1 g.2.2.1 g.2.2.2.1 g.2.2.2.2) rs1_M (rs1_mk r 0):=by
  unfold rsp_q1
  rw[eU.ag_eq]
  rfl
 rw[hq,hr]
 exact each_pk r hv
theorem rsp_q2_eq (f:Fn) (r:Rec) (h:r.text.size≤64) (hv:validS r.text=true) (hs:(runes06 f.s).length=1):(rsp_q2 f r).2.2.2.2.2.1=pk r.key (wordsF (rune0 f.s) (runes06 r.text) [] []):=by
 obtain ⟨m',i',hr⟩:=rs2_run r (rune0 f.s) (by unfold KB;omega) ((runes05 r.text).length+1) 0 0 [] (Nat.le_refl _) (by omega) (Nat.zero_le _)
 have hq:rsp_q2 f r=loopF (fun g:rs2_G=>rs2_R g.1 g.2.1 g.2.2.1 g.2.2.2.1 g.2.2.2.2.1 g.2.2.2.2.2.1 g.2.2.2.2.2.2) rs2_M (rs2_mk r (rune0 f.s) 0 0 []):=by
  unfold rsp_q2
  rw[eU.ag_eq,r05_r0 f.s (by omega)]
  rfl
 rw[hq,hr]
 show rs2N r (rune0 f.s) _ 0 0 []=_
 have hw:=rs2_words r (rune0 f.s) hv ((runes05 r.text).length+1) 0 0 [] [] (Nat.le_refl _) (by rw[runes_len];omega) (by simp) (by omega) (by omega)
 rw[List.drop_zero] at hw
 exact hw
theorem rsp_ok:FnPure Tryd.prog 67 aFR dLRE (fun g=>splF g.1 g.2) (fun g=>[g.1.s.size≤KB]):=
 pure_congr (rsp_okS _ fun g _ hp=>by
  obtain ⟨f,r⟩:=g
  have h:f.s.size≤KB:=hp _ (List.mem_cons_self ..)
  show rsp_side f r
  refine ⟨h,fun hb=>?_⟩
  obtain ⟨h1,h2⟩:=both_zero hb
  obtain ⟨k1,k3,k4⟩:=chk4 h1
  have ht':=rec_KB hb
  refine ⟨ht',fun hk=>?_,fun hk=>?_⟩
  ·rw[eU.okL_eq,eU.ag_eq]
   exact ⟨trivial,⟨r,0,rfl,Nat.zero_le _,Nat.zero_le _,ht'⟩,Nat.le_refl _,fun _ _=>trivial⟩
  ·have hk:f.kind=22:=by
    have:¬ f.kind=21:=by simpa using hk
    omega
   have hl:=single_len (text_single k4 (.inr hk))
   rw[eU.okL_eq,eU.ag_eq]
   exact ⟨h,⟨Int.le_refl _,by rw[runes_len];omega⟩,trivial,⟨r,_,0,0,[],rfl,Nat.le_refl _,by omega,Nat.zero_le _,ht'⟩,Nat.le_refl _,fun _ _=>trivial⟩) fun g _ _=>by
  obtain ⟨f,r⟩:=g
  show rsp_F f r=splF f r
  unfold rsp_F splF splitL
  cases hb:bothF 4 f r != (0:Int) with
  | true=>rfl
  | false=>
   have ht:=text_small hb
   obtain ⟨h1,h2⟩:=both_zero hb
   have hv:=((chkR_iff r).1 h2).2
   obtain ⟨k1,k3,k4⟩:=chk4 h1
   rw[cond_false,cond_false,rsp_q1_eq f r ht hv,eR.ag_eq,eR.ag_eq]
   rcases k1 with hk | hk
   ·rw[hk];rfl
   ·rw[rsp_q2_eq f r ht hv (single_len (text_single k4 (.inr hk))),hk];rfl
noncomputable def tabC27:PTab Tryd.prog:=(tabC19.cons 59 (pconR aFR dLRE (fun g=>splF g.1 g.2) (fun g=>[g.1.s.size≤KB])) (conR_ok spl_ok)).cons 67 (pconR aFR dLRE (fun g=>splF g.1 g.2) (fun g=>[g.1.s.size≤KB])) (conR_ok rsp_ok)
end Go.Proofs.YtmegbepjdololaaDoor

namespace Go.Proofs.YtmegbepjdololaaDoor
open Go.RowKit Go.Sx Go.Lp
abbrev bgF1:Fn:=⟨4,0,ByteArray.mk #[]⟩
abbrev bgR1:Rec:=⟨1,ByteArray.mk #[97,195,169]⟩
abbrev bgA1:Rec:=⟨1,ByteArray.mk #[195,169,97]⟩
abbrev bgF2:Fn:=⟨22,0,ByteArray.mk #[32]⟩
abbrev bgR2:Rec:=⟨2,ByteArray.mk #[97,32,98,32,32,99]⟩
abbrev bgL2:List Rec:=[⟨2,ByteArray.mk #[97]⟩,⟨2,ByteArray.mk #[98]⟩,⟨2,ByteArray.mk #[99]⟩]
theorem bg_map:FnPure Tryd.prog 51 aFR dRE (fun _=>(bgA1,(0:Int))) (fun g=>[g=(bgF1,bgR1)]):=
 pure_lit map_ok (bgF1,bgR1) (bgA1,0) (by kernel_rfl) (fun p hp=>by rw[List.mem_singleton.1 hp];decide)
theorem bg_spl:FnPure Tryd.prog 59 aFR dLRE (fun _=>(bgL2,(0:Int))) (fun g=>[g=(bgF2,bgR2)]):=
 pure_lit spl_ok (bgF2,bgR2) (bgL2,0) (by kernel_rfl) (fun p hp=>by rw[List.mem_singleton.1 hp];decide)
noncomputable def tabD1:PTab Tryd.prog:=(PTab.nil.cons 51 (pconP aFR dRE (fun _=>(bgA1,(0:Int))) (fun g=>[g=(bgF1,bgR1)])) (conP_ok bg_map puRE)).cons 59 (pconR aFR dLRE (fun _=>(bgL2,(0:Int))) (fun g=>[g=(bgF2,bgR2)])) (conR_ok bg_spl)
set_option maxRecDepth 100000
noncomputable abbrev bgT:Tr Bool:=dTree Tryd.prog (PTab.gamz tabD1 [] []) noΛ 100 49 (DA.enc .none ()) dBool
theorem bg_ev:bgT.evC false=true:=by kernel_rfl
end Go.Proofs.YtmegbepjdololaaDoor

namespace Go.Proofs.YtmegbepjdololaaDoor
open Go.RowKit Go.Sx Go.Lp
set_option maxRecDepth 100000
theorem bg_asks:bgT.asksC=[(bgF1,bgR1)=(bgF1,bgR1),(bgF2,bgR2)=(bgF2,bgR2),((0:Int)==(0:Int))=true→conj ([bgA1.key==(1:Int)]++([decide (bgA1.text=ByteArray.mk #[195,169,97])]++[]))=true→((0:Int)==(0:Int))=true→((3:Int)==(3:Int))=true→(0:Int)≤(2:Int)∧(2:Int)<(3:Int)]:=by kernel_rfl
theorem bg_ok:FnPure Tryd.prog 49 .none dBool (fun _=>true) (fun _=>[]):=pure_of_tree (PTab.okz tabD1 [] []) noΛ_ok 100 fun g _ _=>by
 have h:=Tr.asksC_holds (t:=bgT) false (by
  rw[bg_asks]
  intro p hp
  rcases List.mem_cons.1 hp with e | hp
  ·exact e▸rfl
  rcases List.mem_cons.1 hp with e | hp
  ·exact e▸rfl
  rcases List.mem_cons.1 hp with e | hp
  ·exact e▸fun _ _ _ _=>⟨by decide,by decide⟩
  cases hp)
 rw[bg_ev] at h
 exact h
noncomputable def tabD2:PTab Tryd.prog:=tabC27.cons 49 (pconP .none dBool (fun _=>true) (fun _=>[])) (conP_ok bg_ok puB)
end Go.Proofs.YtmegbepjdololaaDoor

namespace Go.Proofs.YtmegbepjdololaaDoor
open Go.RowKit Go.Sx
set_option maxRecDepth 100000
set_option linter.unusedVariables false
end Go.Proofs.YtmegbepjdololaaDoor

namespace Go.Proofs.YtmegbepjdololaaDoor
open Go.RowKit Go.Sx Go.Lp
set_option maxRecDepth 100000
end Go.Proofs.YtmegbepjdololaaDoor

namespace Go.Proofs.YtmegbepjdololaaDoor
open Go.RowKit Go.Sx
set_option maxRecDepth 100000
set_option linter.unusedVariables false
end Go.Proofs.YtmegbepjdololaaDoor

namespace Go.Proofs.YtmegbepjdololaaDoor
open Go.RowKit Go.Sx Go.Lp
end Go.Proofs.YtmegbepjdololaaDoor

namespace Go.Proofs.YtmegbepjdololaaDoor
open Go.RowKit Go.Sx
set_option maxRecDepth 100000
set_option linter.unusedVariables false
end Go.Proofs.YtmegbepjdololaaDoor

namespace Go.Proofs.YtmegbepjdololaaDoor
open Go.RowKit Go.Sx
set_option maxRecDepth 100000
set_option linter.unusedVariables false
end Go.Proofs.YtmegbepjdololaaDoor

namespace Go.Proofs.YtmegbepjdololaaDoor
open Go.RowKit Go.Sx Go.Lp
end Go.Proofs.YtmegbepjdololaaDoor

namespace Go.Proofs.YtmegbepjdololaaDoor
open Go.RowKit Go.Sx Go.Lp
end Go.Proofs.YtmegbepjdololaaDoor

namespace Go.Proofs.YtmegbepjdololaaDoor
open Go.RowKit Go.Sx Go.Lp
end Go.Proofs.YtmegbepjdololaaDoor

namespace Go.Proofs.YtmegbepjdololaaDoor
open Go.RowKit Go.Sx Go.Lp
end Go.Proofs.YtmegbepjdololaaDoor

namespace Go.Proofs.YtmegbepjdololaaDoor
open Go.RowKit Go.Sx
set_option maxRecDepth 100000
set_option linter.unusedVariables false
abbrev eqU_G:Type:=List Rune×List Rune×Int×Int×Bool
noncomputable def eqU_LP:LP 0 eqU_G:=.pair (.slot 0 0 dLU) (.pair (.slot 0 1 dLU) (.pair (.slot 0 12 dI) (.pair (.slot 0 13 dI) (.slot 0 4 dBool))))
noncomputable def eqU_R (xs:List Rune) (ys:List Rune) (n:Int) (i:Int) (r:Bool):Ex×eqU_G:=
 bif decide (i<n) then bif !conj ([(xs.getD i.toNat eU.dflt).at'==(ys.getD i.toNat eU.dflt).at']++([(xs.getD i.toNat eU.dflt).r==(ys.getD i.toNat eU.dflt).r]++[])) then (Ex.ret,eU.ag xs,eU.ag ys,n,i,false) else (Ex.normal,eU.ag xs,eU.ag ys,n,IntKind.i64.wrap (i+(1:Int)),r)
 else (Ex.exit (0:Nat),eU.ag xs,eU.ag ys,n,i,r)
def eqU_side (xs:List Rune) (ys:List Rune) (n:Int) (i:Int) (r:Bool):Prop:=
 (decide (i<n)=true→((0:Int)≤i∧i<(↑xs.length:Int))∧((0:Int)≤i∧i<(↑ys.length:Int))∧((!conj ([(xs.getD i.toNat eU.dflt).at'==(ys.getD i.toNat eU.dflt).at']++([(xs.getD i.toNat eU.dflt).r==(ys.getD i.toNat eU.dflt).r]++[])))=true→eU.okL xs∧eU.okL ys)∧((!conj ([(xs.getD i.toNat eU.dflt).at'==(ys.getD i.toNat eU.dflt).at']++([(xs.getD i.toNat eU.dflt).r==(ys.getD i.toNat eU.dflt).r]++[])))=false→eU.okL xs∧eU.okL ys))∧(decide (i<n)=false→eU.okL xs∧eU.okL ys)
theorem eqU_one:((loopsOf Tryd.prog 17).filter fun c=>Nat.beq (lkey c) 4).length=1:=by kernel_rfl
abbrev eqU_GC:Type:=List Rune×List Rune×Int
abbrev eqU_GB:Type:=Bool
def eqU_f (g:eqU_G):Int×eqU_GC×eqU_GB:=(g.2.2.2.1,(g.1,g.2.1,g.2.2.1),g.2.2.2.2)
def eqU_g (d:Int×eqU_GC×eqU_GB):eqU_G:=(d.2.1.1,d.2.1.2.1,d.2.1.2.2,d.1,d.2.2)
theorem eqU_es (g:eqU_G):(eqU_R g.1 g.2.1 g.2.2.1 g.2.2.2.1 g.2.2.2.2).1=.normal∨(eqU_R g.1 g.2.1 g.2.2.1 g.2.2.2.1 g.2.2.2.2).1∈([.ret,.exit 0]:List Ex):=by
 unfold eqU_R
 repeat' (first | (left;rfl) | (right;simp only[cond_true,cond_false];simp;done) | (rw[Bool.cond_eq_ite];split))
noncomputable abbrev eqU_C (Inv:eqU_G→List Prop) (m:eqU_G→Nat):LCon:=loopR [.ret,.exit 0] (loopBody Tryd.prog 17 4) eqU_LP [] 26 Inv (fun g=>eqU_R g.1 g.2.1 g.2.2.1 g.2.2.2.1 g.2.2.2.2) m
theorem eqU_loop (Inv:eqU_G→List Prop) (m:eqU_G→Nat) (hs:∀ g,allP (Inv g)→eqU_side g.1 g.2.1 g.2.2.1 g.2.2.2.1 g.2.2.2.2) (hg:Goes (fun g:eqU_G=>eqU_R g.1 g.2.1 g.2.2.1 g.2.2.2.1 g.2.2.2.2) m fun g=>allP (Inv g)):∀ b∈loopsOf Tryd.prog 17,lkey b=4→LoopOk Tryd.prog b (eqU_C Inv m).g:=loop_run (Γ:=(PTab.gamz tabD2 [] [])) (Λ:=noΛ) (PTab.okz tabD2 [] []) noΛ_ok 100 17 4 26 eqU_LP [] Inv (fun g=>eqU_R g.1 g.2.1 g.2.2.1 g.2.2.2.1 g.2.2.2.2) (fun g=>eqU_side g.1 g.2.1 g.2.2.1 g.2.2.2.1 g.2.2.2.2) m default [.ret,.exit 0] eqU_one (fun rd T B HL HB ds g=>by kernel_rfl) (fun rd T B HL HB ds g=>by kernel_rfl) hs hg eqU_es
abbrev eqM_G:Type:=List Many×List Many×Int×Int×Bool
noncomputable def eqM_LP:LP 0 eqM_G:=.pair (.slot 0 0 dLM) (.pair (.slot 0 1 dLM) (.pair (.slot 0 12 dI) (.pair (.slot 0 13 dI) (.slot 0 4 dBool))))
noncomputable def eqM_R (xs:List Many) (ys:List Many) (n:Int) (i:Int) (r:Bool):Ex×eqM_G:=
 bif decide (i<n) then bif !conj ([(xs.getD i.toNat eM.dflt).r.key==(ys.getD i.toNat eM.dflt).r.key]++([decide ((xs.getD i.toNat eM.dflt).r.text=(ys.getD i.toNat eM.dflt).r.text)]++[])++([(xs.getD i.toNat eM.dflt).n==(ys.getD i.toNat eM.dflt).n]++[])) then (Ex.ret,eM.ag xs,eM.ag ys,n,i,false) else (Ex.normal,eM.ag xs,eM.ag ys,n,IntKind.i64.wrap (i+(1:Int)),r)
 else (Ex.exit (0:Nat),eM.ag xs,eM.ag ys,n,i,r)
def eqM_side (xs:List Many) (ys:List Many) (n:Int) (i:Int) (r:Bool):Prop:=
 (decide (i<n)=true→((0:Int)≤i∧i<(↑xs.length:Int))∧((0:Int)≤i∧i<(↑ys.length:Int))∧((!conj ([(xs.getD i.toNat eM.dflt).r.key==(ys.getD i.toNat eM.dflt).r.key]++([decide ((xs.getD i.toNat eM.dflt).r.text=(ys.getD i.toNat eM.dflt).r.text)]++[])++([(xs.getD i.toNat eM.dflt).n==(ys.getD i.toNat eM.dflt).n]++[])))=true→eM.okL xs∧eM.okL ys)∧((!conj ([(xs.getD i.toNat eM.dflt).r.key==(ys.getD i.toNat eM.dflt).r.key]++([decide ((xs.getD i.toNat eM.dflt).r.text=(ys.getD i.toNat eM.dflt).r.text)]++[])++([(xs.getD i.toNat eM.dflt).n==(ys.getD i.toNat eM.dflt).n]++[])))=false→eM.okL xs∧eM.okL ys))∧(decide (i<n)=false→eM.okL xs∧eM.okL ys)
theorem eqM_one:((loopsOf Tryd.prog 71).filter fun c=>Nat.beq (lkey c) 4).length=1:=by kernel_rfl
abbrev eqM_GC:Type:=List Many×List Many×Int
abbrev eqM_GB:Type:=Bool
def eqM_f (g:eqM_G):Int×eqM_GC×eqM_GB:=(g.2.2.2.1,(g.1,g.2.1,g.2.2.1),g.2.2.2.2)
def eqM_g (d:Int×eqM_GC×eqM_GB):eqM_G:=(d.2.1.1,d.2.1.2.1,d.2.1.2.2,d.1,d.2.2)
theorem eqM_es (g:eqM_G):(eqM_R g.1 g.2.1 g.2.2.1 g.2.2.2.1 g.2.2.2.2).1=.normal∨(eqM_R g.1 g.2.1 g.2.2.1 g.2.2.2.1 g.2.2.2.2).1∈([.ret,.exit 0]:List Ex):=by
 unfold eqM_R
 repeat' (first | (left;rfl) | (right;simp only[cond_true,cond_false];simp;done) | (rw[Bool.cond_eq_ite];split))
noncomputable abbrev eqM_C (Inv:eqM_G→List Prop) (m:eqM_G→Nat):LCon:=loopR [.ret,.exit 0] (loopBody Tryd.prog 71 4) eqM_LP [] 26 Inv (fun g=>eqM_R g.1 g.2.1 g.2.2.1 g.2.2.2.1 g.2.2.2.2) m
theorem eqM_loop (Inv:eqM_G→List Prop) (m:eqM_G→Nat) (hs:∀ g,allP (Inv g)→eqM_side g.1 g.2.1 g.2.2.1 g.2.2.2.1 g.2.2.2.2) (hg:Goes (fun g:eqM_G=>eqM_R g.1 g.2.1 g.2.2.1 g.2.2.2.1 g.2.2.2.2) m fun g=>allP (Inv g)):∀ b∈loopsOf Tryd.prog 71,lkey b=4→LoopOk Tryd.prog b (eqM_C Inv m).g:=loop_run (Γ:=(PTab.gamz tabD2 [] [])) (Λ:=noΛ) (PTab.okz tabD2 [] []) noΛ_ok 100 71 4 26 eqM_LP [] Inv (fun g=>eqM_R g.1 g.2.1 g.2.2.1 g.2.2.2.1 g.2.2.2.2) (fun g=>eqM_side g.1 g.2.1 g.2.2.1 g.2.2.2.1 g.2.2.2.2) m default [.ret,.exit 0] eqM_one (fun rd T B HL HB ds g=>by kernel_rfl) (fun rd T B HL HB ds g=>by kernel_rfl) hs hg eqM_es
abbrev eqR_G:Type:=List Rec×List Rec×Int×Int×Bool
noncomputable def eqR_LP:LP 0 eqR_G:=.pair (.slot 0 0 dLR) (.pair (.slot 0 1 dLR) (.pair (.slot 0 12 dI) (.pair (.slot 0 13 dI) (.slot 0 4 dBool))))
noncomputable def eqR_R (xs:List Rec) (ys:List Rec) (n:Int) (i:Int) (r:Bool):Ex×eqR_G:=
 bif decide (i<n) then bif !conj ([(xs.getD i.toNat eR.dflt).key==(ys.getD i.toNat eR.dflt).key]++([decide ((xs.getD i.toNat eR.dflt).text=(ys.getD i.toNat eR.dflt).text)]++[])) then (Ex.ret,eR.ag xs,eR.ag ys,n,i,false) else (Ex.normal,eR.ag xs,eR.ag ys,n,IntKind.i64.wrap (i+(1:Int)),r)
 else (Ex.exit (0:Nat),eR.ag xs,eR.ag ys,n,i,r)
def eqR_side (xs:List Rec) (ys:List Rec) (n:Int) (i:Int) (r:Bool):Prop:=
 (decide (i<n)=true→((0:Int)≤i∧i<(↑xs.length:Int))∧((0:Int)≤i∧i<(↑ys.length:Int))∧((!conj ([(xs.getD i.toNat eR.dflt).key==(ys.getD i.toNat eR.dflt).key]++([decide ((xs.getD i.toNat eR.dflt).text=(ys.getD i.toNat eR.dflt).text)]++[])))=true→eR.okL xs∧eR.okL ys)∧((!conj ([(xs.getD i.toNat eR.dflt).key==(ys.getD i.toNat eR.dflt).key]++([decide ((xs.getD i.toNat eR.dflt).text=(ys.getD i.toNat eR.dflt).text)]++[])))=false→eR.okL xs∧eR.okL ys))∧(decide (i<n)=false→eR.okL xs∧eR.okL ys)
theorem eqR_one:((loopsOf Tryd.prog 30).filter fun c=>Nat.beq (lkey c) 4).length=1:=by kernel_rfl
abbrev eqR_GC:Type:=List Rec×List Rec×Int
abbrev eqR_GB:Type:=Bool
def eqR_f (g:eqR_G):Int×eqR_GC×eqR_GB:=(g.2.2.2.1,(g.1,g.2.1,g.2.2.1),g.2.2.2.2)
def eqR_g (d:Int×eqR_GC×eqR_GB):eqR_G:=(d.2.1.1,d.2.1.2.1,d.2.1.2.2,d.1,d.2.2)
theorem eqR_es (g:eqR_G):(eqR_R g.1 g.2.1 g.2.2.1 g.2.2.2.1 g.2.2.2.2).1=.normal∨(eqR_R g.1 g.2.1 g.2.2.1 g.2.2.2.1 g.2.2.2.2).1∈([.ret,.exit 0]:List Ex):=by
 unfold eqR_R
 repeat' (first | (left;rfl) | (right;simp only[cond_true,cond_false];simp;done) | (rw[Bool.cond_eq_ite];split))
noncomputable abbrev eqR_C (Inv:eqR_G→List Prop) (m:eqR_G→Nat):LCon:=loopR [.ret,.exit 0] (loopBody Tryd.prog 30 4) eqR_LP [] 26 Inv (fun g=>eqR_R g.1 g.2.1 g.2.2.1 g.2.2.2.1 g.2.2.2.2) m
theorem eqR_loop (Inv:eqR_G→List Prop) (m:eqR_G→Nat) (hs:∀ g,allP (Inv g)→eqR_side g.1 g.2.1 g.2.2.1 g.2.2.2.1 g.2.2.2.2) (hg:Goes (fun g:eqR_G=>eqR_R g.1 g.2.1 g.2.2.1 g.2.2.2.1 g.2.2.2.2) m fun g=>allP (Inv g)):∀ b∈loopsOf Tryd.prog 30,lkey b=4→LoopOk Tryd.prog b (eqR_C Inv m).g:=loop_run (Γ:=(PTab.gamz tabD2 [] [])) (Λ:=noΛ) (PTab.okz tabD2 [] []) noΛ_ok 100 30 4 26 eqR_LP [] Inv (fun g=>eqR_R g.1 g.2.1 g.2.2.1 g.2.2.2.1 g.2.2.2.2) (fun g=>eqR_side g.1 g.2.1 g.2.2.1 g.2.2.2.1 g.2.2.2.2) m default [.ret,.exit 0] eqR_one (fun rd T B HL HB ds g=>by kernel_rfl) (fun rd T B HL HB ds g=>by kernel_rfl) hs hg eqR_es
end Go.Proofs.YtmegbepjdololaaDoor
