/- Reach: the document's Spots: its loop's contract. -/
import Derived.Test.YthnojkbkojpadaaGreatZG11c88abd
import Derived.Test.YthnojkbkojpadaaGreatZG09307a07
import Derived.Test.YthnojkbkojpadaaGreatZG07857b98
import Derived.Test.YthnojkbkojpadaaGreatZG0800afda
import Derived.Test.YthnojkbkojpadaaGreatZG0687ac95
set_option maxRecDepth 100000
set_option linter.unusedVariables false
set_option linter.unusedSimpArgs false
set_option linter.constructorNameAsVariable false
set_option linter.all false

namespace Go.Proofs.YthnojkbkojpadaaGreat
noncomputable section
open Go.RowKit Go.Sx Go.Lp
def spt_S (_:q62) (b:qed) (_:Int) (v:Path):Ex×qed:=(.normal,bif decide (v.fr=v.to) then b++[Spot.mk v.fr (hdS v)] else b)
def spt_K (c:q62) (b:qed) (i:Int):Prop:=Hd c∧c.length≤K30∧(List.length b:Int)≤i
abbrev spt_I (g:spt_G):List Prop:=ixI (fun c:q62=>(c.length:Int)) (fun c=>c) spt_K (spt_f g)
abbrev spt_M (g:spt_G):Nat:=ixM (fun c:q62=>(c.length:Int)) (spt_f g)
theorem spt_P:ixP spt_S (fun c:q62=>c) spt_K:=fun c b i v h _ _=>by
 refine ⟨h.1,h.2.1,?_⟩
 have:(List.length b:Int)≤i:=h.2.2
 show (List.length (bif decide (v.fr=v.to) then b++[Spot.mk v.fr (hdS v)] else b):Int)≤i+1
 cases decide (v.fr=v.to)
 ·show (List.length b:Int)≤i+1;omega
 ·show (List.length (b++[_]):Int)≤i+1;rw[List.length_append];simp only[List.length_cons,List.length_nil];omega
abbrev qvm (g:spt_G):Ex×spt_G:=spt_R g.1 g.2.1 g.2.2
theorem qvn (d:Int×q62×qed) (_:allP (ixI (fun c:q62=>(c.length:Int)) (fun c=>c) spt_K d)):qvm (spt_g d)=((ixF 0 (fun c:q62=>(c.length:Int)) (fun c=>c) ePa.dflt spt_S d).1,spt_g (ixF 0 (fun c:q62=>(c.length:Int)) (fun c=>c) ePa.dflt spt_S d).2):=by
 obtain ⟨i,xs,o⟩:=d
 show spt_R xs o i=_
 unfold spt_R ixF spt_S
 simp only[El.ag_eq,conjP,q3e]
 generalize (xs.getD i.toNat ePa.dflt)=v
 cases decide (i<(xs.length:Int)) with
 | false=>rfl
 | true=>
  cases decide (v.fr=v.to) <;> rfl
theorem spt_ok:∀ b∈q00 Tryz.prog 17,lkey b=3→q02 Tryz.prog b (spt_C spt_I spt_M).g:=by
 refine qt0 spt_I spt_M (fun g hi=>?_) (q06 (fun _=>rfl) (fun _=>rfl) qvn spt_P)
 obtain ⟨xs,o,i⟩:=g
 obtain ⟨h1,h2,h3,h4,h5,h6,h7⟩:=hi _ (List.mem_cons_self ..)
 have h3:0≤i:=h3
 have h4:i≤(xs.length:Int):=h4
 have h5:Hd xs:=h5
 have h6:xs.length≤1000000:=h6
 have h7:(o.length:Int)≤i:=h7
 have hm:o.length+1≤maxLen:=by unfold maxLen;omega
 show qh5 xs o i
 unfold qh5
 simp only[El.okL_eq,El.ag_eq,conjP,byt34]
 refine ⟨fun hlt=>?_,fun _=>?_⟩
 ·have hr:=rngP i _ _ rfl h3 hlt
  have h5:=h5 i.toNat (by omega)
  generalize (xs.getD i.toNat ePa.dflt)=v at h5
  refine ⟨hr,hr,fun hq=>?_,fun _=>⟨trivial,Nat.le_refl _,fun _ _=>trivial⟩⟩
  have h5:=h5 (of_decide_eq_true hq)
  refine ⟨hr,hr,⟨by omega,by omega⟩,⟨Nat.le_refl _,trivial,hm,by omega⟩,trivial,Nat.le_refl _,fun _ _=>trivial,fun _ _=>trivial⟩
 ·exact ⟨trivial,Nat.le_refl _,fun _ _=>trivial⟩
theorem qzh (xs:List Path) (k2:xs.length≤K30) (hd:Hd xs):loopF qvm spt_M (xs,[],0)=(.exit 0,xs,q4c xs,(xs.length:Int)):=by
 have h:=q0a (φ:=spt_f) (ψ:=spt_g) (fun _=>rfl) (fun _=>rfl) qvn spt_P xs [] rfl (by show xs.length≤maxLen;unfold maxLen;unfold K30 at k2;omega) ⟨hd,k2,Int.le_refl _⟩
 have hs:∀ (l:List Path) (i:Int) (o:List Spot),scan 0 (spt_S xs) i l o=(.exit 0,i+l.length,o++q4c l):=by
  intro l
  induction l with
  | nil=>intro i o;show (Ex.exit 0,i,o)=_;simp[selfs,q4c]
  | cons v l ih=>
   intro i o
   simp only[scan,spt_S,selfs,q4c,List.filter_cons]
   have ih:=ih (i+1)
   unfold q4c selfs at ih
   cases h:decide (v.fr=v.to) with
   | false=>
    rw[cond_false]
    rw[ih o]
    simp only[List.length_cons,Bool.false_eq_true,if_false]
    rw[show i+1+(l.length:Int)=i+((l.length+1:Nat):Int) by omega]
   | true=>
    rw[cond_true]
    rw[ih (o++[_])]
    simp only[List.length_cons,if_true,List.map_cons,List.append_assoc,List.singleton_append]
    rw[show i+1+(l.length:Int)=i+((l.length+1:Nat):Int) by omega]
 have h:=h.trans (by
  show _=_
  rw[hs xs 0 []])
 rw[Int.zero_add] at h
 exact h
def ltM35:LTab Tryz.prog:=ltM33.cons 17 3 (spt_C spt_I spt_M) spt_ok
abbrev qoc:Lam:=ltM35.lam
theorem qcw:∀ f k L,qoc f k=some L→∀ b∈q00 Tryz.prog f,lkey b=k→q02 Tryz.prog b L.g:=ltM35.ok
end
end Go.Proofs.YthnojkbkojpadaaGreat

namespace Go.Proofs.YthnojkbkojpadaaGreat
open Go.RowKit Go.Sx Go.Lp
theorem qky (p:Place):∀ l:List Path,l.any noD=false→depS (q4c l) p=depO l p
 | [],_=>rfl
 | v :: l,h=>by
  rw[List.any_cons,Bool.or_eq_false_iff] at h
  have ih:=qky p l h.2
  have h1:=h.1
  unfold noD at h1
  unfold depS q4c selfs depO depL at ih ⊢
  rw[List.filter_cons,List.find?_cons]
  by_cases he:v.fr=v.to
  ·have h0:¬ (v.ss.length:Int)=0:=by
    simp only[he,decide_true,Bool.true_and] at h1
    exact beq_eq_false_iff_ne.1 h1
   have h2:depP p v=decide (v.fr=p):=by
    unfold depP
    have:decide ((v.ss.length:Int) > 0)=true:=decide_eq_true (by omega)
    rw[this,← he]
    cases decide (v.fr=p) <;> rfl
   rw[h2]
   simp only[he,decide_true,if_true,List.map_cons,List.find?_cons]
   cases hp:decide (v.to=p) with
   | true=>
    rfl
   | false=>exact ih
  ·have h2:depP p v=false:=by
    unfold depP
    cases hp:decide (v.fr=p) with
    | false=>rfl
    | true=>
     have hp:=of_decide_eq_true hp
     have:decide (v.to=p)=false:=decide_eq_false fun h=>he (by rw[hp,h])
     rw[this];rfl
   rw[h2]
   simp only[he,decide_false,Bool.false_eq_true,if_false]
   exact ih
theorem qqf:∀ (l:List Path) (t:TBt),(l.foldl addT t).1=l.foldl msetT t.1
 | [],_=>rfl
 | v :: l,t=>by
  rw[List.foldl_cons,List.foldl_cons,qqf l]
  rfl
theorem qic {l:List Path} (h:Str l) (p q:Place):(mget (tblC l).1.1 (p,q)).getD []=getL l p q:=by
 unfold tblC
 rw[qqf]
 show (mget (l.foldl (msetG keyPT Path.ss dEt) ([],0)).1 (p,q)).getD []=_
 rw[qcn]
 unfold getL
 have hk:∀ v:Path,decide (keyPT v=(p,q))=getP p q v:=fun v=>by
  unfold getP keyPT
  rw[Bool.eq_iff_iff]
  simp
 simp only[hk]
 cases h1:l.reverse.find? (getP p q) with
 | none=>
  have h1:=List.find?_eq_none.1 h1
  have h2:l.find? (getP p q)=none:=List.find?_eq_none.2 fun v hv hd=>h1 v (List.mem_reverse.2 hv) hd
  rw[h2]
  rfl
 | some x=>
  have m1:=List.mem_reverse.1 (List.mem_of_find?_eq_some h1)
  have e1:getP p q x=true:=List.find?_some h1
  cases h2:l.find? (getP p q) with
  | none=>exact absurd e1 (List.find?_eq_none.1 h2 x m1)
  | some y=>
   have m2:=List.mem_of_find?_eq_some h2
   have e2:getP p q y=true:=List.find?_some h2
   rw[← hk] at e1 e2
   have:x=y:=qqm h m1 m2 ((of_decide_eq_true e1).trans (of_decide_eq_true e2).symm)
   subst this
   rfl
end Go.Proofs.YthnojkbkojpadaaGreat

namespace Go.Proofs.YthnojkbkojpadaaGreat
noncomputable section
open Go.RowKit Go.Sx
set_option linter.unusedVariables false
abbrev few_G:Type:=List Path×Int×Int×Int
def qxr:LP 0 few_G:=.pair (.slot 0 9 dLP) (.pair (.slot 0 10 dI) (.pair (.slot 0 11 dI) (.slot 0 3 dI)))
def few_R (xs:List Path) (n:Int) (i:Int) (k:Int):Ex×few_G:=
 bif decide (i<n) then (Ex.normal,ePa.ag xs,n,IntKind.i64.wrap (i+(1:Int)),IntKind.i64.wrap (k+List.foldl (fun a x=>bif false then if x.snd.snd > a then x.snd.snd else a else if x.snd.snd<a then x.snd.snd else a) (↑(xs.getD i.toNat ePa.dflt).ss.length:Int) [(true,IntKind.i64,(1000:Int))]))
 else (Ex.exit (0:Nat),ePa.ag xs,n,i,k)
def qii (xs:List Path) (n:Int) (i:Int) (k:Int):Prop:=
 (decide (i<n)=true→((0:Int)≤i∧i<(↑xs.length:Int))∧ePa.okL xs)∧(decide (i<n)=false→ePa.okL xs)
theorem few_one:((q00 Tryz.prog 12).filter fun c=>Nat.beq (lkey c) 5).length=1:=by kernel_rfl
abbrev q6u:Type:=List Path×Int
abbrev qfs:Type:=Int
def few_f (g:few_G):Int×q6u×qfs:=(g.2.2.1,(g.1,g.2.1),g.2.2.2)
def few_g (d:Int×q6u×qfs):few_G:=(d.2.1.1,d.2.1.2,d.1,d.2.2)
abbrev qfr (g:few_G):Ex×few_G:=few_R g.1 g.2.1 g.2.2.1 g.2.2.2
abbrev qxq (g:few_G):Prop:=qii g.1 g.2.1 g.2.2.1 g.2.2.2
theorem few_es (g:few_G):(qfr g).1=.normal∨(qfr g).1∈([.exit 0]:List Ex):=by
 unfold qfr few_R
 repeat' (first | (left;rfl) | (right;simp only[cond_true,cond_false];simp;done) | (rw[Bool.cond_eq_ite];split))
abbrev few_C (Inv:few_G→List Prop) (m:few_G→Nat):LCon:=loopR [.exit 0] (loopBody Tryz.prog 12 5) qxr [] 24 Inv qfr m
theorem qui (Inv:few_G→List Prop) (m:few_G→Nat) (hs:∀ g,allP (Inv g)→qxq g) (hg:Goes qfr m fun g=>allP (Inv g)):∀ b∈q00 Tryz.prog 12,lkey b=5→q02 Tryz.prog b (few_C Inv m).g:=q0g (Γ:=(MTab.gamz q3i [] [])) (Λ:=qoc) (MTab.okz q3i [] []) qcw 100 12 5 24 qxr [] Inv qfr qxq m default [.exit 0] few_one (fun rd T B HL HB ds g=>by kernel_rfl) (fun rd T B HL HB ds g=>by kernel_rfl) hs hg few_es
abbrev tel_G:Type:=List Spot×Int×Int×Unit×Place×Place×List Spot×LoopState×Option Code
def qvb:LP 5 tel_G:=.pair (.slot 5 5 dLSp) (.pair (.slot 5 6 dI) (.pair (.slot 5 7 dI) (.pair (.fix 5 0 (.yl 4)) (.pair (.obj 5 0 24 eP) (.pair (.obj 5 1 24 eP) (.pair (.objRow 5 2 32 34 eSp) (.rf 5 4 Tryz.prog 3 0 75 [(4,.p 0 0),(5,.p 1 0),(12,.p 2 0)] 3)))))))
def tel_R (xs:List Spot) (n:Int) (i:Int) (_u:Unit) (p:Place) (q:Place) (out:List Spot):Ex×tel_G:=
 bif decide (i<n) then (Ex.normal,eSp.ag xs,n,IntKind.i64.wrap (i+(1:Int)),(),p,q,eSp.lst (min (out.length+(1:Nat)) out.length) (eSp.els out)++List.map (fun x=>xs.getD i.toNat eSp.dflt) (List.range (out.length+(1:Nat) - out.length)),LoopState.ready,none)
 else (Ex.exit (0:Nat),eSp.ag xs,n,i,(),p,q,eSp.ag out,LoopState.ready,none)
def qh1 (xs:List Spot) (n:Int) (i:Int) (_u:Unit) (p:Place) (q:Place) (out:List Spot):Prop:=
 (decide (i<n)=true→((0:Int)≤i∧i<(↑xs.length:Int))∧(out.length≤out.length∧True∧out.length+(1:Nat)≤maxLen∧(out.length+(1:Nat)) * Tryz.prog.types[(34:Nat)].bytes≤(140737488355328:Nat))∧eSp.okL xs∧out.length+(1:Nat)≤out.length+(1:Nat)∧(∀ (e:Nat),e<min (out.length+(1:Nat)) out.length→True)∧(∀ (e:Nat),e<out.length+(1:Nat) - out.length→True)∧q1r (q0f Tryz.prog (3:Nat) (0:Nat)).snd.fst (q0f Tryz.prog (3:Nat) (0:Nat)).snd.fst∧q1r (q0f Tryz.prog (3:Nat) (0:Nat)).snd.snd (q0f Tryz.prog (3:Nat) (0:Nat)).snd.snd)∧(decide (i<n)=false→eSp.okL xs∧out.length≤out.length∧(∀ (e:Nat),e<out.length→True)∧q1r (q0f Tryz.prog (3:Nat) (0:Nat)).snd.fst (q0f Tryz.prog (3:Nat) (0:Nat)).snd.fst∧q1r (q0f Tryz.prog (3:Nat) (0:Nat)).snd.snd (q0f Tryz.prog (3:Nat) (0:Nat)).snd.snd)
theorem qzc:((q00 Tryz.prog 53).filter fun c=>Nat.beq (lkey c) 1).length=1:=by kernel_rfl
abbrev q5y:Type:=List Spot×Int×Place×Place
abbrev qe9:Type:=Unit×List Spot×LoopState×Option Code
def tel_f (g:tel_G):Int×q5y×qe9:=(g.2.2.1,(g.1,g.2.1,g.2.2.2.2.1,g.2.2.2.2.2.1),(g.2.2.2.1,g.2.2.2.2.2.2.1,g.2.2.2.2.2.2.2))
def tel_g (d:Int×q5y×qe9):tel_G:=(d.2.1.1,d.2.1.2.1,d.1,d.2.2.1,d.2.1.2.2.1,d.2.1.2.2.2,d.2.2.2.1,d.2.2.2.2)
def tel_E:List ((Ex×tel_G→Bool)×Ex×(tel_G→tel_G)):=[(fun x=>exB (.exit 0) x.1,.exit 0,fun g=>(g.1,g.2.1,g.2.2.1,g.2.2.2.1,g.2.2.2.2.1,g.2.2.2.2.2.1,g.2.2.2.2.2.2.1,(.ready,none)))]
abbrev qe8 (g:tel_G):Ex×tel_G:=tel_R g.1 g.2.1 g.2.2.1 g.2.2.2.1 g.2.2.2.2.1 g.2.2.2.2.2.1 g.2.2.2.2.2.2.1
abbrev qva (g:tel_G):Prop:=qh1 g.1 g.2.1 g.2.2.1 g.2.2.2.1 g.2.2.2.2.1 g.2.2.2.2.2.1 g.2.2.2.2.2.2.1
theorem tel_es (g:tel_G):(qe8 g).1=.normal∨q5k (qe8 g) tel_E:=by
 unfold qe8 tel_R
 repeat' (first | (left;rfl) | (right;exact ⟨rfl,rfl⟩) | (rw[Bool.cond_eq_ite];split))
abbrev tel_C (Inv:tel_G→List Prop) (m:tel_G→Nat):LCon:=qk4 tel_E (loopBody Tryz.prog 53 1) qvb [] 19 Inv qe8 m
def tel_i (g:tel_G):tel_G:=(g.1,g.2.1,g.2.2.1,g.2.2.2.1,g.2.2.2.2.1,g.2.2.2.2.2.1,g.2.2.2.2.2.2.1,(LoopState.ready,none))
theorem qsy (Inv:tel_G→List Prop) (m:tel_G→Nat) (hs:∀ g,allP (Inv g)→qva g) (hι:∀ g,allP (Inv g)→tel_i g=g) (hg:Goes qe8 m fun g=>allP (Inv g)):∀ b∈q00 Tryz.prog 53,lkey b=1→q02 Tryz.prog b (tel_C Inv m).g:=q8v tel_i (Γ:=(MTab.gamz q3i [] [])) (Λ:=qoc) (MTab.okz q3i [] []) qcw 100 53 1 19 qvb [] Inv qe8 qva m default tel_E qzc (fun rd T B HL HB ds g=>by kernel_rfl) (fun rd T B HL HB ds g=>by kernel_rfl) hι hs hg tel_es
def qee (l:List Path):Ex×spt_G:=
 loopF (fun g=>spt_R g.fst g.snd.fst g.snd.snd) spt_M (ePa.ag l,[],(0:Int))
def spf_F (l:List Path):Rv.T (.list eSp):=
 eSp.ag (qee l).snd.snd.fst
def qai (l:List Path):Prop:=
 ePa.okL l∧Lp.ixJ (fun c=>(↑(List.length c):Int)) (fun c=>c) spt_K (spt_f (ePa.ag l,[],(0:Int)))∧(qee l).snd.snd.fst.length≤(qee l).snd.snd.fst.length∧∀ (e:Nat),e<(qee l).snd.snd.fst.length→True
theorem qzj (pre:DA.T aLPo→List Prop) (h:∀ g,DA.bd aLPo g→(∀ p∈pre g,p)→qai g):q04 Tryz.prog 17 aLPo (Rv.D (.list eSp)) (fun g=>spf_F g) pre:=q1a (R:=(.list eSp)) (Γ:=(MTab.gamz q3i [] [])) (Λ:=qoc) (MTab.okz q3i [] []) qcw 100 default (fun g=>qai g) (fun g=>by kernel_rfl) (fun g=>by kernel_rfl) h
end
end Go.Proofs.YthnojkbkojpadaaGreat

namespace Go.Proofs.YthnojkbkojpadaaGreat
noncomputable section
open Go.RowKit Go.Sx Go.Lp
theorem k30 {n:Nat} (h:n≤K30):n≤maxLen:=by unfold maxLen;unfold K30 at h;omega
def depR (l:List Path) (p:Place):Int×Bool:=bif chkP l != (0:Int) then (0,false) else depL l p
def sumsR (l:List Path) (p q:Place):List S:=bif chkP l != (0:Int) then [] else getL l p q
theorem depL_O (l:List Path) (p:Place):depL l p=match depO l p with
  | some d=>(d,true)
  | none=>(0,false):=by
 unfold depO depL
 cases l.find? (depP p) <;> rfl
theorem depS_R (l:List Path) (p:Place) (hl:l.length≤maxLen):(match depS (plcC l) p with
  | some d=>(d,true)
  | none=>((0:Int),false))=depR l p:=by
 unfold plcC depR
 cases h:chkP l==(0:Int) with
 | true=>
  have h':chkP l=0:=by simpa using h
  have h2:(chkP l != (0:Int))=false:=by rw[h'];rfl
  rw[h2,cond_true,cond_false,qky p l (qna hl h'),depL_O]
 | false=>
  have h2:(chkP l != (0:Int))=true:=by unfold bne;rw[h];rfl
  rw[h2]
  rfl
theorem dpf_q (l:List Path) (p:Place) (hl:l.length≤maxLen):∃ j,qkx l p=match depS (plcC l) p with
  | some d=>(.ret,plcC l,((plcC l).length:Int),j,(),p,d,true,.done,some .ret)
  | none=>(.exit 0,plcC l,((plcC l).length:Int),j,(),p,0,false,.ready,none):=by
 have hm:(plcC l).length≤maxLen:=by
  refine Nat.le_trans ?_ hl
  unfold plcC q4c selfs
  cases chkP l==(0:Int)
  ·exact Nat.zero_le _
  ·show (List.map _ _).length≤_
   rw[List.length_map]
   exact List.length_filter_le _ _
 obtain ⟨j,hj⟩:=dpl_run (plcC l) p hm
 refine ⟨j,?_⟩
 unfold qkx
 rw[El.ag_eq,El.ag_eq]
 exact hj
theorem qz6 (l:List Path):(plcC l).length≤l.length:=by
 unfold plcC q4c selfs
 cases chkP l==(0:Int)
 ·exact Nat.zero_le _
 ·show (List.map _ _).length≤_
  rw[List.length_map]
  exact List.length_filter_le _ _
theorem dpf_c:q04 Tryz.prog 13 aLPp (Rv.D (.of dIBo)) (fun g=>depR g.1 g.2) (fun g=>[g.1.length≤K30]):=by
 refine q0b (dpf_okS (fun g=>[g.1.length≤K30]) fun g hb hp=>?_) fun g hb hp=>?_
 ·obtain ⟨l,p⟩:=g
  have hl:l.length≤K30:=hp _ (List.mem_cons_self ..)
  show qbi l p
  unfold qbi
  simp only[El.okL_eq,El.ag_eq]
  exact ⟨trivial,hl,trivial,rfl,rfl,ixJ0 rfl (Nat.le_trans (qz6 l) (k30 hl)) rfl⟩
 ·obtain ⟨l,p⟩:=g
  have hl:l.length≤K30:=hp _ (List.mem_cons_self ..)
  show dpf_F l p=depR l p
  rw[← depS_R l p (k30 hl)]
  unfold dpf_F
  obtain ⟨j,hj⟩:=dpf_q l p (k30 hl)
  rw[hj]
  cases depS (plcC l) p <;> rfl
theorem rdf_c:q04 Tryz.prog 14 aLPp (Rv.D (.of dIBo)) (fun g=>depR g.1 g.2) (fun _=>[]):=by
 refine q0b (z04 (fun _=>[]) fun g hb hp=>?_) fun g hb hp=>?_
 ·obtain ⟨l,p⟩:=g
  show qar l p
  unfold qar
  simp only[El.okL_eq]
  exact ⟨trivial,fun _=>trivial⟩
 ·obtain ⟨l,p⟩:=g
  show rdf_F l p=depR l p
  have hl:l.length≤maxLen:=hb.1.1
  unfold rdf_F depR
  rw[El.ag_eq,q5o l hl]
theorem qmj {l:List Path} (hl:l.length≤maxLen) (h:chkP l=0) (p q:Place):(getL l p q).length≤64:=by
 unfold getL
 cases h1:l.find? (getP p q) with
 | none=>exact Nat.zero_le _
 | some v=>exact (qaz (q9c hl h v (List.mem_of_find?_eq_some h1))).2
theorem qso {l:List Path} (hl:l.length≤maxLen) (h:chkP l=0):Sm l:=fun e=>by
 by_cases he:e<l.length
 ·have hm:l.getD e ePa.dflt∈l:=by
   rw[List.getD_eq_getElem?_getD,List.getElem?_eq_getElem he]
   exact List.getElem_mem he
  exact Nat.le_trans (qaz (q9c hl h _ hm)).2 (by omega)
 ·rw[List.getD_eq_getElem?_getD,List.getElem?_eq_none (by omega)]
  exact Nat.zero_le _
theorem sms_q (l:List Path) (p q:Place):q3j l p q=kAt (tblC l).1.1 (p,q):=by
 unfold q3j
 rw[El.ag_eq]
 exact q3l _ dEt (tblC l).1.1 fun j _=>eqKT _ _ _ _
theorem qqs (l:List Path) (p q:Place):eS.lst (bif decide ((q3j l p q)<(tblC l).1.1.length) then ((tblC l).1.1.getD (q3j l p q) (eEn.ent eLS).dflt).2.1.length else (0:Nat)) (eS.els ((tblC l).1.1.getD (q3j l p q) (eEn.ent eLS).dflt).2.1)=(mget (tblC l).1.1 (p,q)).getD []:=by
 rw[sms_q,qhs dEt]
 by_cases h:kAt (tblC l).1.1 (p,q)<(tblC l).1.1.length
 ·rw[if_pos h,decide_eq_true h,cond_true,El.lst_els];rfl
 ·rw[if_neg h,decide_eq_false h,cond_false];rfl
theorem sms_c:q04 Tryz.prog 19 aLPpp (Rv.D rLS) (fun g=>sumsR g.1 g.2.1 g.2.2) (fun g=>[g.1.length≤K30]):=by
 refine q0b (qzk (fun g=>[g.1.length≤K30]) fun g hb hp=>?_) fun g hb hp=>?_
 ·obtain ⟨l,p,q⟩:=g
  have hl:l.length≤K30:=hp _ (List.mem_cons_self ..)
  show qaj l p q
  unfold qaj
  simp only[El.okL_eq,El.ag_eq,qqs]
  refine ⟨trivial,fun h=>?_⟩
  have h:chkP l=0:=by simpa using h
  refine ⟨trivial,hl,fun _ _=>trivial,fun _ _=>trivial,fun _ _=>El.ok_els _ _ _,?_,trivial⟩
  rw[qic (qbn (k30 hl) h)]
  exact Nat.le_trans (qmj (k30 hl) h p q) (by unfold K30;omega)
 ·obtain ⟨l,p,q⟩:=g
  have hl:l.length≤K30:=hp _ (List.mem_cons_self ..)
  show sms_F l p q=sumsR l p q
  unfold sms_F sumsR
  simp only[El.ag_eq,qqs]
  cases h:chkP l != (0:Int) with
  | true=>rfl
  | false=>
   have h:chkP l=0:=by simpa using h
   rw[cond_false,cond_false,qic (qbn (k30 hl) h)]
theorem rsf_c:q04 Tryz.prog 20 aLPpp (Rv.D rLS) (fun g=>sumsR g.1 g.2.1 g.2.2) (fun _=>[]):=by
 refine q0b (qzp (fun _=>[]) fun g hb hp=>?_) fun g hb hp=>?_
 ·obtain ⟨l,p,q⟩:=g
  have hl:l.length≤maxLen:=hb.1.1
  show qam l p q
  unfold qam
  simp only[El.okL_eq,El.ag_eq,← q5o l hl]
  refine ⟨trivial,fun h=>⟨trivial,qso hl (by simpa using h),trivial⟩⟩
 ·obtain ⟨l,p,q⟩:=g
  have hl:l.length≤maxLen:=hb.1.1
  show rsf_F l p q=sumsR l p q
  unfold rsf_F sumsR
  simp only[El.ag_eq]
  rw[q5o l hl]
theorem spf_c:q04 Tryz.prog 17 aLPo (Rv.D (.list eSp)) q4c (fun l=>[l.length≤K30,Hd l]):=by
 have hq:∀ l:List Path,l.length≤K30→Hd l→qee l=(.exit 0,l,q4c l,(l.length:Int)):=fun l hl h=>by
  unfold qee
  rw[El.ag_eq]
  exact qzh l hl h
 refine q0b (qzj (fun l=>[l.length≤K30,Hd l]) fun l hb hp=>?_) fun l hb hp=>?_
 ·have hl:l.length≤K30:=hp _ (List.mem_cons_self ..)
  have hd:Hd l:=hp _ (List.mem_cons_of_mem _ (List.mem_cons_self ..))
  show qai l
  unfold qai
  simp only[El.okL_eq,El.ag_eq]
  exact ⟨trivial,ixJ0 rfl (k30 hl) ⟨hd,hl,Int.le_refl _⟩,Nat.le_refl _,fun _ _=>trivial⟩
 ·have hl:l.length≤K30:=hp _ (List.mem_cons_self ..)
  have hd:Hd l:=hp _ (List.mem_cons_of_mem _ (List.mem_cons_self ..))
  show spf_F l=q4c l
  unfold spf_F
  rw[hq l hl hd,El.ag_eq]
end
end Go.Proofs.YthnojkbkojpadaaGreat

namespace Go.Proofs.YthnojkbkojpadaaGreat
noncomputable section
open Go.RowKit Go.Sx Go.Lp
def fewK (k:Int) (v:Path):Int:=IntKind.i64.wrap (k+List.foldl (fun a (x:Bool×IntKind×Int)=>bif false then if x.2.2 > a then x.2.2 else a else if x.2.2<a then x.2.2 else a) (v.ss.length:Int) [(true,IntKind.i64,(1000:Int))])
def few_S (_:q6u) (b:qfs) (_:Int) (v:Path):Ex×qfs:=(.normal,fewK b v)
def few_K (_:q6u) (_:qfs) (_:Int):Prop:=True
abbrev few_I (g:few_G):List Prop:=ixI (fun c:q6u=>c.2) (fun c=>c.1) few_K (few_f g)
abbrev few_M (g:few_G):Nat:=ixM (fun c:q6u=>c.2) (few_f g)
theorem few_P:ixP few_S (fun c:q6u=>c.1) few_K:=fun _ _ _ _ h _ _=>h
abbrev few_RR (g:few_G):Ex×few_G:=few_R g.1 g.2.1 g.2.2.1 g.2.2.2
theorem few_RF (d:Int×q6u×qfs) (_:allP (ixI (fun c:q6u=>c.2) (fun c=>c.1) few_K d)):few_RR (few_g d)=((ixF 0 (fun c:q6u=>c.2) (fun c=>c.1) ePa.dflt few_S d).1,few_g (ixF 0 (fun c:q6u=>c.2) (fun c=>c.1) ePa.dflt few_S d).2):=by
 obtain ⟨i,⟨xs,n⟩,k⟩:=d
 show few_R xs n i k=_
 unfold few_R ixF few_S fewK
 simp only[El.ag_eq]
 cases decide (i<n) <;> rfl
theorem few_ok:∀ b∈q00 Tryz.prog 12,lkey b=5→q02 Tryz.prog b (few_C few_I few_M).g:=by
 refine qui few_I few_M (fun g hi=>?_) (q06 (fun _=>rfl) (fun _=>rfl) few_RF few_P)
 obtain ⟨xs,n,i,k⟩:=g
 obtain ⟨h1,h2,h3,h4,h5⟩:=hi _ (List.mem_cons_self ..)
 have h1:n=(xs.length:Int):=h1
 have h3:0≤i:=h3
 show qii xs n i k
 unfold qii
 simp only[El.okL_eq]
 exact ⟨fun hlt=>⟨rngP i n _ h1 h3 hlt,trivial⟩,fun _=>trivial⟩
def tel_S (_:q5y) (b:qe9) (_:Int) (v:Spot):Ex×qe9:=(.normal,(),b.2.1++[v],.ready,none)
def tel_K (c:q5y) (b:qe9) (i:Int):Prop:=b.2.2=(LoopState.ready,(none:Option Code))∧c.1.length≤K30∧(List.length b.2.1:Int)≤i
abbrev tel_I (g:tel_G):List Prop:=ixI (fun c:q5y=>c.2.1) (fun c=>c.1) tel_K (tel_f g)
abbrev tel_M (g:tel_G):Nat:=ixM (fun c:q5y=>c.2.1) (tel_f g)
theorem tel_P:ixP tel_S (fun c:q5y=>c.1) tel_K:=by
 rintro ⟨xs,n⟩ ⟨⟨⟩,out,f⟩ i a ⟨h1,h3,h4⟩ _ _
 refine ⟨rfl,h3,?_⟩
 have h4:(List.length out:Int)≤(i:Int):=h4
 show ((out++[a]).length:Int)≤(i:Int)+1
 rw[List.length_append]
 simp only[List.length_cons,List.length_nil]
 omega
abbrev qz7 (g:tel_G):Ex×tel_G:=tel_R g.1 g.2.1 g.2.2.1 g.2.2.2.1 g.2.2.2.2.1 g.2.2.2.2.2.1 g.2.2.2.2.2.2.1
theorem qz9 (d:Int×q5y×qe9) (hi:allP (ixI (fun c:q5y=>c.2.1) (fun c=>c.1) tel_K d)):qz7 (tel_g d)=((ixF 0 (fun c:q5y=>c.2.1) (fun c=>c.1) eSp.dflt tel_S d).1,tel_g (ixF 0 (fun c:q5y=>c.2.1) (fun c=>c.1) eSp.dflt tel_S d).2):=by
 obtain ⟨hb,_⟩:=(hi _ (List.mem_cons_self ..)).2.2.2.2
 obtain ⟨i,⟨xs,n,p,q⟩,⟨⟨⟩,out,f⟩⟩:=d
 have hb:f=(LoopState.ready,(none:Option Code)):=hb
 subst hb
 show tel_R xs n i () p q out=_
 unfold tel_R ixF tel_S
 simp only[El.ag_eq,q3e]
 cases decide (i<n) <;> rfl
theorem tel_ok:∀ b∈q00 Tryz.prog 53,lkey b=1→q02 Tryz.prog b (tel_C tel_I tel_M).g:=by
 refine qsy tel_I tel_M (fun g hi=>?_) (fun g hi=>?_) (q06 (fun _=>rfl) (fun _=>rfl) qz9 tel_P)
 ·obtain ⟨xs,n,i,⟨⟩,p,q,out,⟨st,pd⟩⟩:=g
  obtain ⟨h1,h2,h3,h4,h5,h7,h8⟩:=hi _ (List.mem_cons_self ..)
  have h1:n=(xs.length:Int):=h1
  have h3:0≤i:=h3
  have h7:xs.length≤1000000:=h7
  have h8:(List.length out:Int)≤i:=h8
  have h4:i≤(xs.length:Int):=h4
  have hm:out.length+1≤maxLen:=by unfold maxLen;omega
  show qh1 xs n i () p q out
  unfold qh1
  simp only[El.okL_eq,byt34]
  refine ⟨fun hlt=>?_,fun _=>?_⟩
  ·have hr:=rngP i n _ h1 h3 hlt
   repeat' (first | exact hr | exact rfl | apply And.intro | intro _)
   all_goals (first | trivial | omega)
  ·repeat' (first | exact rfl | apply And.intro | intro _)
   all_goals (first | trivial | omega)
 ·obtain ⟨xs,n,i,⟨⟩,p,q,out,⟨st,pd⟩⟩:=g
  have h5:=(hi _ (List.mem_cons_self ..)).2.2.2.2.1
  have h5:(st,pd)=(LoopState.ready,(none:Option Code)):=h5
  cases h5
  rfl
theorem qzb (xs:List Spot) (p q:Place) (h:xs.length≤K30):loopF qz7 tel_M (xs,(xs.length:Int),0,(),p,q,[],(.ready,none))=(.exit 0,xs,(xs.length:Int),(xs.length:Int),(),p,q,xs,(.ready,none)):=by
 have hr:loopF qz7 tel_M (xs,(xs.length:Int),0,(),p,q,[],(.ready,none))=_:=q0a (φ:=tel_f) (ψ:=tel_g) (fun _=>rfl) (fun _=>rfl) qz9 tel_P (xs,(xs.length:Int),p,q) ((),[],.ready,none) rfl (k30 h) ⟨rfl,h,by show (0:Int)≤0;omega⟩
 have hf:∀ (l b:List Spot),l.foldl (fun (b:qe9) (v:Spot)=>((),b.2.1++[v],LoopState.ready,(none:Option Code))) ((),b,LoopState.ready,(none:Option Code))=((),b++l,LoopState.ready,none):=by
  intro l
  induction l with
  | nil=>intro b;simp
  | cons a l ih=>intro b;rw[List.foldl_cons,ih];simp
 have hs:=scan_fold (x:=0) (st:=tel_S (xs,(xs.length:Int),p,q)) (f:=fun (b:qe9) (v:Spot)=>((),b.2.1++[v],LoopState.ready,(none:Option Code))) (fun _ _ _=>rfl) xs 0 ((),[],LoopState.ready,none)
 rw[hf] at hs
 have hr:=hr.trans (by
  show _=_
  rw[hs])
 rw[Int.zero_add] at hr
 exact hr
def qqh:MTab Tryz.prog:=((((q3i.cons 13 (pconR aLPp (Rv.D (.of dIBo)) (fun g=>depR g.1 g.2) (fun g=>[g.1.length≤K30])) (q1v dpf_c)).cons 14 (pconR aLPp (Rv.D (.of dIBo)) (fun g=>depR g.1 g.2) (fun _=>[])) (q1v rdf_c)).cons 19 (pconR aLPpp (Rv.D rLS) (fun g=>sumsR g.1 g.2.1 g.2.2) (fun g=>[g.1.length≤K30])) (q1v sms_c)).cons 20 (pconR aLPpp (Rv.D rLS) (fun g=>sumsR g.1 g.2.1 g.2.2) (fun _=>[])) (q1v rsf_c)).cons 17 (pconR aLPo (Rv.D (.list eSp)) q4c (fun l=>[l.length≤K30,Hd l])) (q1v spf_c)
def ltM39:LTab Tryz.prog:=ltM26.cons 12 5 (few_C few_I few_M) few_ok
abbrev qob:Lam:=ltM39.lam
theorem qcv:∀ f k L,qob f k=some L→∀ b∈q00 Tryz.prog f,lkey b=k→q02 Tryz.prog b L.g:=ltM39.ok
end
end Go.Proofs.YthnojkbkojpadaaGreat

namespace Go.Proofs.YthnojkbkojpadaaGreat
noncomputable section
open Go.RowKit Go.Sx
set_option linter.unusedVariables false
def fwf_q1 (l:List Path):Ex ×
 few_G:=
 loopF (fun g=>few_R g.fst g.snd.fst g.snd.snd.fst g.snd.snd.snd) few_M (ePa.ag l,(↑l.length:Int),(0:Int),(0:Int))
def fwf_F (l:List Path):Dv.T dBool:=
 bif decide ((↑l.length:Int) > (64:Int)) then false else decide ((fwf_q1 l).snd.snd.snd.snd≤(300:Int))
def qbc (l:List Path):Prop:=
 decide ((↑l.length:Int) > (64:Int))=false→ePa.okL l∧Lp.ixJ (fun c=>c.snd) (fun c=>c.fst) few_K (few_f (ePa.ag l,(↑l.length:Int),(0:Int),(0:Int)))
theorem fwf_okS (pre:DA.T aLPo→List Prop) (h:∀ g,DA.bd aLPo g→(∀ p∈pre g,p)→qbc g):q04 Tryz.prog 12 aLPo dBool (fun g=>fwf_F g) pre:=q08 (Γ:=(MTab.gamz qqh [] [])) (Λ:=qob) (MTab.okz qqh [] []) qcv 100 default (fun g=>qbc g) (fun g=>by kernel_rfl) (fun g=>by kernel_rfl) h
end
end Go.Proofs.YthnojkbkojpadaaGreat

namespace Go.Proofs.YthnojkbkojpadaaGreat
noncomputable section
open Go.RowKit Go.Sx
set_option linter.unusedVariables false
abbrev dLT:Dv (List T):=.list eT
abbrev tLT:Nat:=51
abbrev dFt:Dv (List T):=dFn1 136 dLT
abbrev dFc:Dv T:=dFnE 128 eT
abbrev ia_G:Type:=List T×List T×Int×Int×Int
def ia_LP:LP 0 ia_G:=.pair (.slot 0 0 dLT) (.pair (.slot 0 1 dFt) (.pair (.slot 0 7 dI) (.pair (.slot 0 8 dI) (.slot 0 4 dI))))
def ia_R (xs:List T) (l:List T) (n:Int) (i:Int) (r:Int):Ex×ia_G:=
 bif decide (i<n) then bif (xs.getD i.toNat eT.dflt).d != (l.getD (0:Nat) eT.dflt).d then (Ex.ret,eT.lst xs.length (eT.els xs),eT.lst l.length (eT.els l),n,i,i) else (Ex.normal,eT.lst xs.length (eT.els xs),eT.lst l.length (eT.els l),n,IntKind.i64.wrap (i+(1:Int)),r)
 else (Ex.exit (0:Nat),eT.lst xs.length (eT.els xs),eT.lst l.length (eT.els l),n,i,r)
def qmd (xs:List T) (l:List T) (n:Int) (i:Int) (r:Int):Prop:=
 (decide (i<n)=true→((0:Int)≤i∧i<(↑xs.length:Int))∧((0:Int)≤(0:Int)∧(0:Int)<(↑l.length:Int))∧(((xs.getD i.toNat eT.dflt).d != (l.getD (0:Nat) eT.dflt).d)=true→(∀ (e:Nat),e<xs.length→eT.Ok (eT.els xs e))∧∀ (e:Nat),e<l.length→eT.Ok (eT.els l e))∧(((xs.getD i.toNat eT.dflt).d != (l.getD (0:Nat) eT.dflt).d)=false→(∀ (e:Nat),e<xs.length→eT.Ok (eT.els xs e))∧∀ (e:Nat),e<l.length→eT.Ok (eT.els l e)))∧(decide (i<n)=false→(∀ (e:Nat),e<xs.length→eT.Ok (eT.els xs e))∧∀ (e:Nat),e<l.length→eT.Ok (eT.els l e))
theorem ia_one:((q00 Tryz.prog 156).filter fun c=>Nat.beq (lkey c) 2).length=1:=by kernel_rfl
abbrev ia_GC:Type:=List T×List T×Int
abbrev ia_GB:Type:=Int
def ia_f (g:ia_G):Int×ia_GC×ia_GB:=(g.2.2.2.1,(g.1,g.2.1,g.2.2.1),g.2.2.2.2)
def ia_g (d:Int×ia_GC×ia_GB):ia_G:=(d.2.1.1,d.2.1.2.1,d.2.1.2.2,d.1,d.2.2)
abbrev ia_rr (g:ia_G):Ex×ia_G:=ia_R g.1 g.2.1 g.2.2.1 g.2.2.2.1 g.2.2.2.2
abbrev ia_ss (g:ia_G):Prop:=qmd g.1 g.2.1 g.2.2.1 g.2.2.2.1 g.2.2.2.2
theorem ia_es (g:ia_G):(ia_rr g).1=.normal∨(ia_rr g).1∈([.ret,.exit 0]:List Ex):=by
 unfold ia_rr ia_R
 repeat' (first | (left;rfl) | (right;simp only[cond_true,cond_false];simp;done) | (rw[Bool.cond_eq_ite];split))
abbrev ia_C (Inv:ia_G→List Prop) (m:ia_G→Nat):LCon:=loopR [.ret,.exit 0] (loopBody Tryz.prog 156 2) ia_LP [] 19 Inv ia_rr m
theorem z1p (Inv:ia_G→List Prop) (m:ia_G→Nat) (hs:∀ g,allP (Inv g)→ia_ss g) (hg:Goes ia_rr m fun g=>allP (Inv g)):∀ b∈q00 Tryz.prog 156,lkey b=2→q02 Tryz.prog b (ia_C Inv m).g:=q0g (Γ:=(PTab.gamz tabL [] [])) (Λ:=noΛ) (PTab.okz tabL [] []) q0o 100 156 2 19 ia_LP [] Inv ia_rr ia_ss m default [.ret,.exit 0] ia_one (fun rd T B HL HB ds g=>by kernel_rfl) (fun rd T B HL HB ds g=>by kernel_rfl) hs hg ia_es
abbrev ib_G:Type:=List T×T×Int×Int×Int
def ib_LP:LP 0 ib_G:=.pair (.slot 0 0 dLT) (.pair (.slot 0 1 dFc) (.pair (.slot 0 7 dI) (.pair (.slot 0 8 dI) (.slot 0 4 dI))))
def ib_R (xs:List T) (t:T) (n:Int) (i:Int) (r:Int):Ex×ib_G:=
 bif decide (i<n) then bif q0k (xs.getD i.toNat eT.dflt) t then (Ex.ret,eT.lst xs.length (eT.els xs),t,n,i,i) else (Ex.normal,eT.lst xs.length (eT.els xs),t,n,IntKind.i64.wrap (i+(1:Int)),r)
 else (Ex.exit (0:Nat),eT.lst xs.length (eT.els xs),t,n,i,r)
def qmc (xs:List T) (t:T) (n:Int) (i:Int) (r:Int):Prop:=
 (decide (i<n)=true→((0:Int)≤i∧i<(↑xs.length:Int))∧(q0k (xs.getD i.toNat eT.dflt) t=true→∀ (e:Nat),e<xs.length→eT.Ok (eT.els xs e))∧(q0k (xs.getD i.toNat eT.dflt) t=false→∀ (e:Nat),e<xs.length→eT.Ok (eT.els xs e)))∧(decide (i<n)=false→∀ (e:Nat),e<xs.length→eT.Ok (eT.els xs e))
theorem ib_one:((q00 Tryz.prog 156).filter fun c=>Nat.beq (lkey c) 2).length=1:=by kernel_rfl
abbrev ib_GC:Type:=List T×T×Int
abbrev ib_GB:Type:=Int
def ib_f (g:ib_G):Int×ib_GC×ib_GB:=(g.2.2.2.1,(g.1,g.2.1,g.2.2.1),g.2.2.2.2)
def ib_g (d:Int×ib_GC×ib_GB):ib_G:=(d.2.1.1,d.2.1.2.1,d.2.1.2.2,d.1,d.2.2)
abbrev ib_rr (g:ib_G):Ex×ib_G:=ib_R g.1 g.2.1 g.2.2.1 g.2.2.2.1 g.2.2.2.2
abbrev ib_ss (g:ib_G):Prop:=qmc g.1 g.2.1 g.2.2.1 g.2.2.2.1 g.2.2.2.2
theorem ib_es (g:ib_G):(ib_rr g).1=.normal∨(ib_rr g).1∈([.ret,.exit 0]:List Ex):=by
 unfold ib_rr ib_R
 repeat' (first | (left;rfl) | (right;simp only[cond_true,cond_false];simp;done) | (rw[Bool.cond_eq_ite];split))
abbrev ib_C (Inv:ib_G→List Prop) (m:ib_G→Nat):LCon:=loopR [.ret,.exit 0] (loopBody Tryz.prog 156 2) ib_LP [] 19 Inv ib_rr m
theorem z1o (Inv:ib_G→List Prop) (m:ib_G→Nat) (hs:∀ g,allP (Inv g)→ib_ss g) (hg:Goes ib_rr m fun g=>allP (Inv g)):∀ b∈q00 Tryz.prog 156,lkey b=2→q02 Tryz.prog b (ib_C Inv m).g:=q0g (Γ:=(PTab.gamz tabL [] [])) (Λ:=noΛ) (PTab.okz tabL [] []) q0o 100 156 2 19 ib_LP [] Inv ib_rr ib_ss m default [.ret,.exit 0] ib_one (fun rd T B HL HB ds g=>by kernel_rfl) (fun rd T B HL HB ds g=>by kernel_rfl) hs hg ib_es
abbrev tms_G:Type:=List T×Int×Int×Int×Unit×List T
def qv7:LP 1 tms_G:=.pair (.slot 1 6 dLT) (.pair (.slot 1 7 dI) (.pair (.slot 1 8 dI) (.pair (.slot 1 2 dI) (.pair (.fix 1 1 (.p 0 0)) (.obj 1 0 tLT (eList eT))))))
def tms_R (xs:List T) (n:Int) (i:Int) (r:Int) (_u:Unit) (l:List T):Ex×tms_G:=
 bif decide (i<n) then bif q0e (xs.getD i.toNat eT.dflt) != (0:Int) then (Ex.ret,eT.lst xs.length (eT.els xs),n,i,q0e (xs.getD i.toNat eT.dflt),(),eT.lst l.length (eT.els l)) else (Ex.normal,eT.lst xs.length (eT.els xs),n,IntKind.i64.wrap (i+(1:Int)),r,(),eT.lst l.length (eT.els l))
 else (Ex.exit (0:Nat),eT.lst xs.length (eT.els xs),n,i,r,(),eT.lst l.length (eT.els l))
def qgz (xs:List T) (n:Int) (i:Int) (r:Int) (_u:Unit) (l:List T):Prop:=
 (decide (i<n)=true→((0:Int)≤i∧i<(↑xs.length:Int))∧((q0e (xs.getD i.toNat eT.dflt) != (0:Int))=true→(∀ (e:Nat),e<xs.length→eT.Ok (eT.els xs e))∧∀ (e:Nat),e<l.length→eT.Ok (eT.els l e))∧((q0e (xs.getD i.toNat eT.dflt) != (0:Int))=false→(∀ (e:Nat),e<xs.length→eT.Ok (eT.els xs e))∧∀ (e:Nat),e<l.length→eT.Ok (eT.els l e)))∧(decide (i<n)=false→(∀ (e:Nat),e<xs.length→eT.Ok (eT.els xs e))∧∀ (e:Nat),e<l.length→eT.Ok (eT.els l e))
theorem qyz:((q00 Tryz.prog 102).filter fun c=>Nat.beq (lkey c) 2).length=1:=by kernel_rfl
abbrev q3q:Type:=List T×Int×List T
abbrev qbw:Type:=Int×Unit
def tms_f (g:tms_G):Int×q3q×qbw:=(g.2.2.1,(g.1,g.2.1,g.2.2.2.2.2),(g.2.2.2.1,g.2.2.2.2.1))
def tms_g (d:Int×q3q×qbw):tms_G:=(d.2.1.1,d.2.1.2.1,d.1,d.2.2.1,d.2.2.2,d.2.1.2.2)
abbrev qe7 (g:tms_G):Ex×tms_G:=tms_R g.1 g.2.1 g.2.2.1 g.2.2.2.1 g.2.2.2.2.1 g.2.2.2.2.2
abbrev qv4 (g:tms_G):Prop:=qgz g.1 g.2.1 g.2.2.1 g.2.2.2.1 g.2.2.2.2.1 g.2.2.2.2.2
theorem tms_es (g:tms_G):(qe7 g).1=.normal∨(qe7 g).1∈([.ret,.exit 0]:List Ex):=by
 unfold qe7 tms_R
 repeat' (first | (left;rfl) | (right;simp only[cond_true,cond_false];simp;done) | (rw[Bool.cond_eq_ite];split))
abbrev tms_C (Inv:tms_G→List Prop) (m:tms_G→Nat):LCon:=loopR [.ret,.exit 0] (loopBody Tryz.prog 102 2) qv7 [] 21 Inv qe7 m
theorem qsw (Inv:tms_G→List Prop) (m:tms_G→Nat) (hs:∀ g,allP (Inv g)→qv4 g) (hg:Goes qe7 m fun g=>allP (Inv g)):∀ b∈q00 Tryz.prog 102,lkey b=2→q02 Tryz.prog b (tms_C Inv m).g:=q0g (Γ:=(PTab.gamz tabL [] [])) (Λ:=noΛ) (PTab.okz tabL [] []) q0o 100 102 2 21 qv7 [] Inv qe7 qv4 m default [.ret,.exit 0] qyz (fun rd T B HL HB ds g=>by kernel_rfl) (fun rd T B HL HB ds g=>by kernel_rfl) hs hg tms_es
abbrev ra_G:Type:=List T×Int×Int
def ra_LP:LP 0 ra_G:=.pair (.slot 0 0 dLT) (.pair (.slot 0 3 dI) (.slot 0 2 dI))
def ra_R (xs:List T) (i:Int) (r:Int):Ex×ra_G:=
 bif decide (i<(↑xs.length:Int)) then bif q0y (xs.getD i.toNat eT.dflt) != (0:Int) then (Ex.ret,eT.lst xs.length (eT.els xs),i,(10:Int)) else (Ex.normal,eT.lst xs.length (eT.els xs),IntKind.i64.wrap (i+(1:Int)),r)
 else (Ex.exit (0:Nat),eT.lst xs.length (eT.els xs),i,r)
def qlv (xs:List T) (i:Int) (r:Int):Prop:=
 (decide (i<(↑xs.length:Int))=true→((0:Int)≤i∧i<(↑xs.length:Int))∧((q0y (xs.getD i.toNat eT.dflt) != (0:Int))=true→∀ (e:Nat),e<xs.length→eT.Ok (eT.els xs e))∧((q0y (xs.getD i.toNat eT.dflt) != (0:Int))=false→∀ (e:Nat),e<xs.length→eT.Ok (eT.els xs e)))∧(decide (i<(↑xs.length:Int))=false→∀ (e:Nat),e<xs.length→eT.Ok (eT.els xs e))
theorem ra_one:((q00 Tryz.prog 142).filter fun c=>Nat.beq (lkey c) 2).length=1:=by kernel_rfl
abbrev ra_GC:Type:=List T
abbrev ra_GB:Type:=Int
def ra_f (g:ra_G):Int×ra_GC×ra_GB:=(g.2.1,g.1,g.2.2)
def ra_g (d:Int×ra_GC×ra_GB):ra_G:=(d.2.1,d.1,d.2.2)
abbrev ra_rr (g:ra_G):Ex×ra_G:=ra_R g.1 g.2.1 g.2.2
abbrev ra_ss (g:ra_G):Prop:=qlv g.1 g.2.1 g.2.2
theorem ra_es (g:ra_G):(ra_rr g).1=.normal∨(ra_rr g).1∈([.ret,.exit 0]:List Ex):=by
 unfold ra_rr ra_R
 repeat' (first | (left;rfl) | (right;simp only[cond_true,cond_false];simp;done) | (rw[Bool.cond_eq_ite];split))
abbrev ra_C (Inv:ra_G→List Prop) (m:ra_G→Nat):LCon:=loopR [.ret,.exit 0] (loopBody Tryz.prog 142 2) ra_LP [] 33 Inv ra_rr m
theorem z0b (Inv:ra_G→List Prop) (m:ra_G→Nat) (hs:∀ g,allP (Inv g)→ra_ss g) (hg:Goes ra_rr m fun g=>allP (Inv g)):∀ b∈q00 Tryz.prog 142,lkey b=2→q02 Tryz.prog b (ra_C Inv m).g:=q0g (Γ:=(PTab.gamz tabL [] [])) (Λ:=noΛ) (PTab.okz tabL [] []) q0o 100 142 2 33 ra_LP [] Inv ra_rr ra_ss m default [.ret,.exit 0] ra_one (fun rd T B HL HB ds g=>by kernel_rfl) (fun rd T B HL HB ds g=>by kernel_rfl) hs hg ra_es
abbrev rb_G:Type:=List T×Int×Int
def rb_LP:LP 0 rb_G:=.pair (.slot 0 0 dLT) (.pair (.slot 0 4 dI) (.slot 0 2 dI))
def rb_R (xs:List T) (i:Int) (r:Int):Ex×rb_G:=
 bif decide (i<(↑xs.length:Int)) then bif (xs.getD i.toNat eT.dflt).d != (xs.getD (0:Nat) eT.dflt).d then (Ex.ret,eT.lst xs.length (eT.els xs),i,(11:Int)) else (Ex.normal,eT.lst xs.length (eT.els xs),IntKind.i64.wrap (i+(1:Int)),r)
 else (Ex.exit (2:Nat),eT.lst xs.length (eT.els xs),i,r)
def qlt (xs:List T) (i:Int) (r:Int):Prop:=
 (decide (i<(↑xs.length:Int))=true→((0:Int)≤i∧i<(↑xs.length:Int))∧((0:Int)≤(0:Int)∧(0:Int)<(↑xs.length:Int))∧(((xs.getD i.toNat eT.dflt).d != (xs.getD (0:Nat) eT.dflt).d)=true→∀ (e:Nat),e<xs.length→eT.Ok (eT.els xs e))∧(((xs.getD i.toNat eT.dflt).d != (xs.getD (0:Nat) eT.dflt).d)=false→∀ (e:Nat),e<xs.length→eT.Ok (eT.els xs e)))∧(decide (i<(↑xs.length:Int))=false→∀ (e:Nat),e<xs.length→eT.Ok (eT.els xs e))
theorem rb_one:((q00 Tryz.prog 142).filter fun c=>Nat.beq (lkey c) 7).length=1:=by kernel_rfl
abbrev rb_GC:Type:=List T
abbrev rb_GB:Type:=Int
def rb_f (g:rb_G):Int×rb_GC×rb_GB:=(g.2.1,g.1,g.2.2)
def rb_g (d:Int×rb_GC×rb_GB):rb_G:=(d.2.1,d.1,d.2.2)
abbrev rb_rr (g:rb_G):Ex×rb_G:=rb_R g.1 g.2.1 g.2.2
abbrev rb_ss (g:rb_G):Prop:=qlt g.1 g.2.1 g.2.2
theorem rb_es (g:rb_G):(rb_rr g).1=.normal∨(rb_rr g).1∈([.ret,.exit 2]:List Ex):=by
 unfold rb_rr rb_R
 repeat' (first | (left;rfl) | (right;simp only[cond_true,cond_false];simp;done) | (rw[Bool.cond_eq_ite];split))
abbrev rb_C (Inv:rb_G→List Prop) (m:rb_G→Nat):LCon:=loopR [.ret,.exit 2] (loopBody Tryz.prog 142 7) rb_LP [] 33 Inv rb_rr m
theorem z09 (Inv:rb_G→List Prop) (m:rb_G→Nat) (hs:∀ g,allP (Inv g)→rb_ss g) (hg:Goes rb_rr m fun g=>allP (Inv g)):∀ b∈q00 Tryz.prog 142,lkey b=7→q02 Tryz.prog b (rb_C Inv m).g:=q0g (Γ:=(PTab.gamz tabL [] [])) (Λ:=noΛ) (PTab.okz tabL [] []) q0o 100 142 7 33 rb_LP [] Inv rb_rr rb_ss m default [.ret,.exit 2] rb_one (fun rd T B HL HB ds g=>by kernel_rfl) (fun rd T B HL HB ds g=>by kernel_rfl) hs hg rb_es
abbrev hs_G:Type:=List T×Unit×T×Int×Bool
def hs_LP:LP 1 hs_G:=.pair (.slot 1 0 dLT) (.pair (.fix 1 3 (.p 0 0)) (.pair (.obj 1 0 47 eT) (.pair (.slot 1 5 dI) (.slot 1 4 dBool))))
def hs_R (xs:List T) (_u:Unit) (t:T) (i:Int) (r:Bool):Ex×hs_G:=
 bif decide (i<(↑xs.length:Int)) then bif conj ([(xs.getD i.toNat eT.dflt).e==t.e]++([(xs.getD i.toNat eT.dflt).d==t.d]++([(xs.getD i.toNat eT.dflt).l0==t.l0]++([(xs.getD i.toNat eT.dflt).l1==t.l1]++([(xs.getD i.toNat eT.dflt).l2==t.l2]++([(xs.getD i.toNat eT.dflt).l3==t.l3]++[])))++[]))) then (Ex.ret,eT.lst xs.length (eT.els xs),(),t,i,true) else (Ex.normal,eT.lst xs.length (eT.els xs),(),t,IntKind.i64.wrap (i+(1:Int)),r)
 else (Ex.exit (0:Nat),eT.lst xs.length (eT.els xs),(),t,i,r)
def qmf (xs:List T) (_u:Unit) (t:T) (i:Int) (r:Bool):Prop:=
 (decide (i<(↑xs.length:Int))=true→((0:Int)≤i∧i<(↑xs.length:Int))∧(conj ([(xs.getD i.toNat eT.dflt).e==t.e]++([(xs.getD i.toNat eT.dflt).d==t.d]++([(xs.getD i.toNat eT.dflt).l0==t.l0]++([(xs.getD i.toNat eT.dflt).l1==t.l1]++([(xs.getD i.toNat eT.dflt).l2==t.l2]++([(xs.getD i.toNat eT.dflt).l3==t.l3]++[])))++[])))=true→∀ (e:Nat),e<xs.length→eT.Ok (eT.els xs e))∧(conj ([(xs.getD i.toNat eT.dflt).e==t.e]++([(xs.getD i.toNat eT.dflt).d==t.d]++([(xs.getD i.toNat eT.dflt).l0==t.l0]++([(xs.getD i.toNat eT.dflt).l1==t.l1]++([(xs.getD i.toNat eT.dflt).l2==t.l2]++([(xs.getD i.toNat eT.dflt).l3==t.l3]++[])))++[])))=false→∀ (e:Nat),e<xs.length→eT.Ok (eT.els xs e)))∧(decide (i<(↑xs.length:Int))=false→∀ (e:Nat),e<xs.length→eT.Ok (eT.els xs e))
theorem hs_one:((q00 Tryz.prog 143).filter fun c=>Nat.beq (lkey c) 2).length=1:=by kernel_rfl
abbrev hs_GC:Type:=List T×T
abbrev hs_GB:Type:=Unit×Bool
def hs_f (g:hs_G):Int×hs_GC×hs_GB:=(g.2.2.2.1,(g.1,g.2.2.1),(g.2.1,g.2.2.2.2))
def hs_g (d:Int×hs_GC×hs_GB):hs_G:=(d.2.1.1,d.2.2.1,d.2.1.2,d.1,d.2.2.2)
abbrev hs_rr (g:hs_G):Ex×hs_G:=hs_R g.1 g.2.1 g.2.2.1 g.2.2.2.1 g.2.2.2.2
abbrev hs_ss (g:hs_G):Prop:=qmf g.1 g.2.1 g.2.2.1 g.2.2.2.1 g.2.2.2.2
theorem hs_es (g:hs_G):(hs_rr g).1=.normal∨(hs_rr g).1∈([.ret,.exit 0]:List Ex):=by
 unfold hs_rr hs_R
 repeat' (first | (left;rfl) | (right;simp only[cond_true,cond_false];simp;done) | (rw[Bool.cond_eq_ite];split))
abbrev hs_C (Inv:hs_G→List Prop) (m:hs_G→Nat):LCon:=loopR [.ret,.exit 0] (loopBody Tryz.prog 143 2) hs_LP [] 18 Inv hs_rr m
theorem z1t (Inv:hs_G→List Prop) (m:hs_G→Nat) (hs:∀ g,allP (Inv g)→hs_ss g) (hg:Goes hs_rr m fun g=>allP (Inv g)):∀ b∈q00 Tryz.prog 143,lkey b=2→q02 Tryz.prog b (hs_C Inv m).g:=q0g (Γ:=(PTab.gamz tabL [] [])) (Λ:=noΛ) (PTab.okz tabL [] []) q0o 100 143 2 18 hs_LP [] Inv hs_rr hs_ss m default [.ret,.exit 0] hs_one (fun rd T B HL HB ds g=>by kernel_rfl) (fun rd T B HL HB ds g=>by kernel_rfl) hs hg hs_es
abbrev eq_G:Type:=List T×List T×Int×Int×Bool
def eq_LP:LP 0 eq_G:=.pair (.slot 0 0 dLT) (.pair (.slot 0 1 dLT) (.pair (.slot 0 12 dI) (.pair (.slot 0 13 dI) (.slot 0 4 dBool))))
def eq_R (xs:List T) (ys:List T) (n:Int) (i:Int) (r:Bool):Ex×eq_G:=
 bif decide (i<n) then bif !conj ([(xs.getD i.toNat eT.dflt).e==(ys.getD i.toNat eT.dflt).e]++([(xs.getD i.toNat eT.dflt).d==(ys.getD i.toNat eT.dflt).d]++([(xs.getD i.toNat eT.dflt).l0==(ys.getD i.toNat eT.dflt).l0]++([(xs.getD i.toNat eT.dflt).l1==(ys.getD i.toNat eT.dflt).l1]++([(xs.getD i.toNat eT.dflt).l2==(ys.getD i.toNat eT.dflt).l2]++([(xs.getD i.toNat eT.dflt).l3==(ys.getD i.toNat eT.dflt).l3]++[])))++[]))) then (Ex.ret,eT.lst xs.length (eT.els xs),eT.lst ys.length (eT.els ys),n,i,false) else (Ex.normal,eT.lst xs.length (eT.els xs),eT.lst ys.length (eT.els ys),n,IntKind.i64.wrap (i+(1:Int)),r)
 else (Ex.exit (0:Nat),eT.lst xs.length (eT.els xs),eT.lst ys.length (eT.els ys),n,i,r)
def qmq (xs:List T) (ys:List T) (n:Int) (i:Int) (r:Bool):Prop:=
 (decide (i<n)=true→((0:Int)≤i∧i<(↑xs.length:Int))∧((0:Int)≤i∧i<(↑ys.length:Int))∧((!conj ([(xs.getD i.toNat eT.dflt).e==(ys.getD i.toNat eT.dflt).e]++([(xs.getD i.toNat eT.dflt).d==(ys.getD i.toNat eT.dflt).d]++([(xs.getD i.toNat eT.dflt).l0==(ys.getD i.toNat eT.dflt).l0]++([(xs.getD i.toNat eT.dflt).l1==(ys.getD i.toNat eT.dflt).l1]++([(xs.getD i.toNat eT.dflt).l2==(ys.getD i.toNat eT.dflt).l2]++([(xs.getD i.toNat eT.dflt).l3==(ys.getD i.toNat eT.dflt).l3]++[])))++[]))))=true→(∀ (e:Nat),e<xs.length→eT.Ok (eT.els xs e))∧∀ (e:Nat),e<ys.length→eT.Ok (eT.els ys e))∧((!conj ([(xs.getD i.toNat eT.dflt).e==(ys.getD i.toNat eT.dflt).e]++([(xs.getD i.toNat eT.dflt).d==(ys.getD i.toNat eT.dflt).d]++([(xs.getD i.toNat eT.dflt).l0==(ys.getD i.toNat eT.dflt).l0]++([(xs.getD i.toNat eT.dflt).l1==(ys.getD i.toNat eT.dflt).l1]++([(xs.getD i.toNat eT.dflt).l2==(ys.getD i.toNat eT.dflt).l2]++([(xs.getD i.toNat eT.dflt).l3==(ys.getD i.toNat eT.dflt).l3]++[])))++[]))))=false→(∀ (e:Nat),e<xs.length→eT.Ok (eT.els xs e))∧∀ (e:Nat),e<ys.length→eT.Ok (eT.els ys e)))∧(decide (i<n)=false→(∀ (e:Nat),e<xs.length→eT.Ok (eT.els xs e))∧∀ (e:Nat),e<ys.length→eT.Ok (eT.els ys e))
theorem eq_one:((q00 Tryz.prog 24).filter fun c=>Nat.beq (lkey c) 4).length=1:=by kernel_rfl
abbrev eq_GC:Type:=List T×List T×Int
abbrev eq_GB:Type:=Bool
def eq_f (g:eq_G):Int×eq_GC×eq_GB:=(g.2.2.2.1,(g.1,g.2.1,g.2.2.1),g.2.2.2.2)
def eq_g (d:Int×eq_GC×eq_GB):eq_G:=(d.2.1.1,d.2.1.2.1,d.2.1.2.2,d.1,d.2.2)
abbrev eq_rr (g:eq_G):Ex×eq_G:=eq_R g.1 g.2.1 g.2.2.1 g.2.2.2.1 g.2.2.2.2
abbrev eq_ss (g:eq_G):Prop:=qmq g.1 g.2.1 g.2.2.1 g.2.2.2.1 g.2.2.2.2
theorem eq_es (g:eq_G):(eq_rr g).1=.normal∨(eq_rr g).1∈([.ret,.exit 0]:List Ex):=by
 unfold eq_rr eq_R
 repeat' (first | (left;rfl) | (right;simp only[cond_true,cond_false];simp;done) | (rw[Bool.cond_eq_ite];split))
abbrev eq_C (Inv:eq_G→List Prop) (m:eq_G→Nat):LCon:=loopR [.ret,.exit 0] (loopBody Tryz.prog 24 4) eq_LP [] 26 Inv eq_rr m
theorem eq_loop (Inv:eq_G→List Prop) (m:eq_G→Nat) (hs:∀ g,allP (Inv g)→eq_ss g) (hg:Goes eq_rr m fun g=>allP (Inv g)):∀ b∈q00 Tryz.prog 24,lkey b=4→q02 Tryz.prog b (eq_C Inv m).g:=q0g (Γ:=(PTab.gamz tabL [] [])) (Λ:=noΛ) (PTab.okz tabL [] []) q0o 100 24 4 26 eq_LP [] Inv eq_rr eq_ss m default [.ret,.exit 0] eq_one (fun rd T B HL HB ds g=>by kernel_rfl) (fun rd T B HL HB ds g=>by kernel_rfl) hs hg eq_es
abbrev rc_G:Type:=List T×Unit×T×Int×Bool
def rc_LP:LP 1 rc_G:=.pair (.slot 1 0 dLT) (.pair (.fix 1 3 (.p 0 0)) (.pair (.obj 1 0 47 eT) (.pair (.slot 1 5 dI) (.slot 1 4 dBool))))
def rc_R (xs:List T) (_u:Unit) (t:T) (i:Int) (r:Bool):Ex×rc_G:=
 bif decide (i<(↑xs.length:Int)) then bif q2a (xs.getD i.toNat eT.dflt) t then (Ex.ret,eT.lst xs.length (eT.els xs),(),t,i,true) else (Ex.normal,eT.lst xs.length (eT.els xs),(),t,IntKind.i64.wrap (i+(1:Int)),r)
 else (Ex.exit (0:Nat),eT.lst xs.length (eT.els xs),(),t,i,r)
def qls (xs:List T) (_u:Unit) (t:T) (i:Int) (r:Bool):Prop:=
 (decide (i<(↑xs.length:Int))=true→((0:Int)≤i∧i<(↑xs.length:Int))∧(q2a (xs.getD i.toNat eT.dflt) t=true→∀ (e:Nat),e<xs.length→eT.Ok (eT.els xs e))∧(q2a (xs.getD i.toNat eT.dflt) t=false→∀ (e:Nat),e<xs.length→eT.Ok (eT.els xs e)))∧(decide (i<(↑xs.length:Int))=false→∀ (e:Nat),e<xs.length→eT.Ok (eT.els xs e))
theorem rc_one:((q00 Tryz.prog 27).filter fun c=>Nat.beq (lkey c) 2).length=1:=by kernel_rfl
abbrev rc_GC:Type:=List T×T
abbrev rc_GB:Type:=Unit×Bool
def rc_f (g:rc_G):Int×rc_GC×rc_GB:=(g.2.2.2.1,(g.1,g.2.2.1),(g.2.1,g.2.2.2.2))
def rc_g (d:Int×rc_GC×rc_GB):rc_G:=(d.2.1.1,d.2.2.1,d.2.1.2,d.1,d.2.2.2)
abbrev rc_rr (g:rc_G):Ex×rc_G:=rc_R g.1 g.2.1 g.2.2.1 g.2.2.2.1 g.2.2.2.2
abbrev rc_ss (g:rc_G):Prop:=qls g.1 g.2.1 g.2.2.1 g.2.2.2.1 g.2.2.2.2
theorem rc_es (g:rc_G):(rc_rr g).1=.normal∨(rc_rr g).1∈([.ret,.exit 0]:List Ex):=by
 unfold rc_rr rc_R
 repeat' (first | (left;rfl) | (right;simp only[cond_true,cond_false];simp;done) | (rw[Bool.cond_eq_ite];split))
abbrev rc_C (Inv:rc_G→List Prop) (m:rc_G→Nat):LCon:=loopR [.ret,.exit 0] (loopBody Tryz.prog 27 2) rc_LP [] 18 Inv rc_rr m
theorem z08 (Inv:rc_G→List Prop) (m:rc_G→Nat) (hs:∀ g,allP (Inv g)→rc_ss g) (hg:Goes rc_rr m fun g=>allP (Inv g)):∀ b∈q00 Tryz.prog 27,lkey b=2→q02 Tryz.prog b (rc_C Inv m).g:=q0g (Γ:=(PTab.gamz tabL [] [])) (Λ:=noΛ) (PTab.okz tabL [] []) q0o 100 27 2 18 rc_LP [] Inv rc_rr rc_ss m default [.ret,.exit 0] rc_one (fun rd T B HL HB ds g=>by kernel_rfl) (fun rd T B HL HB ds g=>by kernel_rfl) hs hg rc_es
end
end Go.Proofs.YthnojkbkojpadaaGreat

namespace Go.Proofs.YthnojkbkojpadaaGreat
noncomputable section
open Go.RowKit Go.Sx Go.Lp
def eqT (a b:T):Bool:=decide (a=b)
theorem qdp (a b:T):conj ([a.e==b.e]++([a.d==b.d]++([a.l0==b.l0]++([a.l1==b.l1]++([a.l2==b.l2]++([a.l3==b.l3]++[])))++[])))=eqT a b:=by
 obtain ⟨e,d,p0,p1,p2,p3⟩:=a
 obtain ⟨e',d',p0',p1',p2',p3'⟩:=b
 unfold eqT
 simp[conj]
 rw[Bool.eq_iff_iff]
 simp
def ia_S (c:ia_GC) (b:ia_GB) (i:Int) (v:T):Ex×ia_GB:=bif v.d != (c.2.1.getD (0:Nat) eT.dflt).d then (.ret,i) else (.normal,b)
def ia_K (c:ia_GC) (b:ia_GB) (i:Int):Prop:=0<c.1.length→0<c.2.1.length
abbrev ia_I (g:ia_G):List Prop:=ixI (fun c:ia_GC=>c.2.2) (fun c:ia_GC=>c.1) ia_K (ia_f g)
abbrev ia_M (g:ia_G):Nat:=ixM (fun c:ia_GC=>c.2.2) (ia_f g)
theorem ia_P:ixP ia_S (fun c:ia_GC=>c.1) ia_K:=fun _ _ _ _ h _ _=>h
abbrev ia_RR (g:ia_G):Ex×ia_G:=ia_R g.1 g.2.1 g.2.2.1 g.2.2.2.1 g.2.2.2.2
theorem ia_RF (d:Int×ia_GC×ia_GB) (hi:allP (ixI (fun c:ia_GC=>c.2.2) (fun c:ia_GC=>c.1) ia_K d)):ia_RR (ia_g d)=((ixF 0 (fun c:ia_GC=>c.2.2) (fun c:ia_GC=>c.1) eT.dflt ia_S d).1,ia_g (ixF 0 (fun c:ia_GC=>c.2.2) (fun c:ia_GC=>c.1) eT.dflt ia_S d).2):=by
 obtain ⟨i,⟨xs,l,n⟩,r⟩:=d
 show ia_R xs l n i r=_
 unfold ia_R ixF ia_S
 simp only[eT.lst_els]
 cases decide (i<n) with
 | false=>rfl
 | true=>
  simp only[cond_true]
  generalize ((xs.getD i.toNat eT.dflt).d != (l.getD (0:Nat) eT.dflt).d)=z
  cases z <;> rfl
theorem ia_ok:∀ b∈q00 Tryz.prog 156,lkey b=2→q02 Tryz.prog b (ia_C ia_I ia_M).g:=by
 refine z1p ia_I ia_M (fun g hi=>?_) (q06 (fun _=>rfl) (fun _=>rfl) ia_RF ia_P)
 obtain ⟨xs,l,n,i,r⟩:=g
 obtain ⟨h1,h2,h3,h4,h5⟩:=hi _ (List.mem_cons_self ..)
 have h1:n=(xs.length:Int):=h1
 have h3:0≤i:=h3
 have h5:0<xs.length→0<l.length:=h5
 show qmd xs l n i r
 unfold qmd
 simp only[decide_eq_true_eq,decide_eq_false_iff_not]
 have k0:∀ e:Nat,e<xs.length→eT.Ok (eT.els xs e):=fun e _=>eT.ok_els xs e
 have k1:∀ e:Nat,e<l.length→eT.Ok (eT.els l e):=fun e _=>eT.ok_els l e
 clear hi
 repeat' (first | exact k0 | exact k1 | apply And.intro | intro _)
 all_goals omega
theorem ia_run (c:ia_GC) (b:ia_GB) (k1:c.2.2=((c.1).length:Int)) (k2:(c.1).length≤maxLen) (k3:ia_K c b 0):loopF ia_RR ia_M (ia_g (0,c,b))=((scan 0 (ia_S c) 0 (c.1) b).1,ia_g ((scan 0 (ia_S c) 0 (c.1) b).2.1,c,(scan 0 (ia_S c) 0 (c.1) b).2.2)):=q0a (φ:=ia_f) (ψ:=ia_g) (fun _=>rfl) (fun _=>rfl) ia_RF ia_P c b k1 k2 k3
def ib_S (c:ib_GC) (b:ib_GB) (i:Int) (v:T):Ex×ib_GB:=bif q0k v c.2.1 then (.ret,i) else (.normal,b)
def ib_K (c:ib_GC) (b:ib_GB) (i:Int):Prop:=True
abbrev ib_I (g:ib_G):List Prop:=ixI (fun c:ib_GC=>c.2.2) (fun c:ib_GC=>c.1) ib_K (ib_f g)
abbrev ib_M (g:ib_G):Nat:=ixM (fun c:ib_GC=>c.2.2) (ib_f g)
theorem ib_P:ixP ib_S (fun c:ib_GC=>c.1) ib_K:=fun _ _ _ _ h _ _=>h
abbrev ib_RR (g:ib_G):Ex×ib_G:=ib_R g.1 g.2.1 g.2.2.1 g.2.2.2.1 g.2.2.2.2
theorem ib_RF (d:Int×ib_GC×ib_GB) (hi:allP (ixI (fun c:ib_GC=>c.2.2) (fun c:ib_GC=>c.1) ib_K d)):ib_RR (ib_g d)=((ixF 0 (fun c:ib_GC=>c.2.2) (fun c:ib_GC=>c.1) eT.dflt ib_S d).1,ib_g (ixF 0 (fun c:ib_GC=>c.2.2) (fun c:ib_GC=>c.1) eT.dflt ib_S d).2):=by
 obtain ⟨i,⟨xs,t,n⟩,r⟩:=d
 show ib_R xs t n i r=_
 unfold ib_R ixF ib_S
 simp only[eT.lst_els]
 cases decide (i<n) with
 | false=>rfl
 | true=>
  simp only[cond_true]
  generalize (q0k (xs.getD i.toNat eT.dflt) t)=z
  cases z <;> rfl
theorem ib_ok:∀ b∈q00 Tryz.prog 156,lkey b=2→q02 Tryz.prog b (ib_C ib_I ib_M).g:=by
 refine z1o ib_I ib_M (fun g hi=>?_) (q06 (fun _=>rfl) (fun _=>rfl) ib_RF ib_P)
 obtain ⟨xs,t,n,i,r⟩:=g
 obtain ⟨h1,h2,h3,h4,h5⟩:=hi _ (List.mem_cons_self ..)
 have h1:n=(xs.length:Int):=h1
 have h3:0≤i:=h3
 have h5:True:=h5
 show qmc xs t n i r
 unfold qmc
 simp only[decide_eq_true_eq,decide_eq_false_iff_not]
 have k0:∀ e:Nat,e<xs.length→eT.Ok (eT.els xs e):=fun e _=>eT.ok_els xs e
 clear hi
 repeat' (first | exact k0 | apply And.intro | intro _)
 all_goals omega
theorem ib_run (c:ib_GC) (b:ib_GB) (k1:c.2.2=((c.1).length:Int)) (k2:(c.1).length≤maxLen) (k3:ib_K c b 0):loopF ib_RR ib_M (ib_g (0,c,b))=((scan 0 (ib_S c) 0 (c.1) b).1,ib_g ((scan 0 (ib_S c) 0 (c.1) b).2.1,c,(scan 0 (ib_S c) 0 (c.1) b).2.2)):=q0a (φ:=ib_f) (ψ:=ib_g) (fun _=>rfl) (fun _=>rfl) ib_RF ib_P c b k1 k2 k3
def tms_S (c:q3q) (b:qbw) (i:Int) (v:T):Ex×qbw:=bif q0e v != (0:Int) then (.ret,q0e v,()) else (.normal,b.1,b.2)
def tms_K (c:q3q) (b:qbw) (i:Int):Prop:=True
abbrev tms_I (g:tms_G):List Prop:=ixI (fun c:q3q=>c.2.1) (fun c:q3q=>c.1) tms_K (tms_f g)
abbrev tms_M (g:tms_G):Nat:=ixM (fun c:q3q=>c.2.1) (tms_f g)
theorem tms_P:ixP tms_S (fun c:q3q=>c.1) tms_K:=fun _ _ _ _ h _ _=>h
abbrev qv5 (g:tms_G):Ex×tms_G:=tms_R g.1 g.2.1 g.2.2.1 g.2.2.2.1 g.2.2.2.2.1 g.2.2.2.2.2
theorem qv6 (d:Int×q3q×qbw) (hi:allP (ixI (fun c:q3q=>c.2.1) (fun c:q3q=>c.1) tms_K d)):qv5 (tms_g d)=((ixF 0 (fun c:q3q=>c.2.1) (fun c:q3q=>c.1) eT.dflt tms_S d).1,tms_g (ixF 0 (fun c:q3q=>c.2.1) (fun c:q3q=>c.1) eT.dflt tms_S d).2):=by
 obtain ⟨i,⟨xs,n,l⟩,⟨r,⟨⟩⟩⟩:=d
 show tms_R xs n i r () l=_
 unfold tms_R ixF tms_S
 simp only[eT.lst_els]
 cases decide (i<n) with
 | false=>rfl
 | true=>
  simp only[cond_true]
  generalize (q0e (xs.getD i.toNat eT.dflt) != (0:Int))=z
  cases z <;> rfl
theorem tms_ok:∀ b∈q00 Tryz.prog 102,lkey b=2→q02 Tryz.prog b (tms_C tms_I tms_M).g:=by
 refine qsw tms_I tms_M (fun g hi=>?_) (q06 (fun _=>rfl) (fun _=>rfl) qv6 tms_P)
 obtain ⟨xs,n,i,r,⟨⟩,l⟩:=g
 obtain ⟨h1,h2,h3,h4,h5⟩:=hi _ (List.mem_cons_self ..)
 have h1:n=(xs.length:Int):=h1
 have h3:0≤i:=h3
 have h5:True:=h5
 show qgz xs n i r () l
 unfold qgz
 simp only[decide_eq_true_eq,decide_eq_false_iff_not]
 have k0:∀ e:Nat,e<xs.length→eT.Ok (eT.els xs e):=fun e _=>eT.ok_els xs e
 have k1:∀ e:Nat,e<l.length→eT.Ok (eT.els l e):=fun e _=>eT.ok_els l e
 clear hi
 repeat' (first | exact k0 | exact k1 | apply And.intro | intro _)
 all_goals omega
theorem qyy (c:q3q) (b:qbw) (k1:c.2.1=((c.1).length:Int)) (k2:(c.1).length≤maxLen) (k3:tms_K c b 0):loopF qv5 tms_M (tms_g (0,c,b))=((scan 0 (tms_S c) 0 (c.1) b).1,tms_g ((scan 0 (tms_S c) 0 (c.1) b).2.1,c,(scan 0 (tms_S c) 0 (c.1) b).2.2)):=q0a (φ:=tms_f) (ψ:=tms_g) (fun _=>rfl) (fun _=>rfl) qv6 tms_P c b k1 k2 k3
def ra_S (c:ra_GC) (b:ra_GB) (i:Int) (v:T):Ex×ra_GB:=bif q0y v != (0:Int) then (.ret,(10:Int)) else (.normal,b)
def ra_K (c:ra_GC) (b:ra_GB) (i:Int):Prop:=True
abbrev ra_I (g:ra_G):List Prop:=ixI (fun c:ra_GC=>(c.length:Int)) (fun c:ra_GC=>c) ra_K (ra_f g)
abbrev ra_M (g:ra_G):Nat:=ixM (fun c:ra_GC=>(c.length:Int)) (ra_f g)
theorem ra_P:ixP ra_S (fun c:ra_GC=>c) ra_K:=fun _ _ _ _ h _ _=>h
abbrev ra_RR (g:ra_G):Ex×ra_G:=ra_R g.1 g.2.1 g.2.2
theorem ra_RF (d:Int×ra_GC×ra_GB) (hi:allP (ixI (fun c:ra_GC=>(c.length:Int)) (fun c:ra_GC=>c) ra_K d)):ra_RR (ra_g d)=((ixF 0 (fun c:ra_GC=>(c.length:Int)) (fun c:ra_GC=>c) eT.dflt ra_S d).1,ra_g (ixF 0 (fun c:ra_GC=>(c.length:Int)) (fun c:ra_GC=>c) eT.dflt ra_S d).2):=by
 obtain ⟨i,xs,r⟩:=d
 show ra_R xs i r=_
 unfold ra_R ixF ra_S
 simp only[eT.lst_els]
 cases decide (i<(xs.length:Int)) with
 | false=>rfl
 | true=>
  simp only[cond_true]
  generalize (q0y (xs.getD i.toNat eT.dflt) != (0:Int))=z
  cases z <;> rfl
theorem ra_ok:∀ b∈q00 Tryz.prog 142,lkey b=2→q02 Tryz.prog b (ra_C ra_I ra_M).g:=by
 refine z0b ra_I ra_M (fun g hi=>?_) (q06 (fun _=>rfl) (fun _=>rfl) ra_RF ra_P)
 obtain ⟨xs,i,r⟩:=g
 obtain ⟨h1,h2,h3,h4,h5⟩:=hi _ (List.mem_cons_self ..)
 have h1:(xs.length:Int)=(xs.length:Int):=h1
 have h3:0≤i:=h3
 have h5:True:=h5
 show qlv xs i r
 unfold qlv
 simp only[decide_eq_true_eq,decide_eq_false_iff_not]
 have k0:∀ e:Nat,e<xs.length→eT.Ok (eT.els xs e):=fun e _=>eT.ok_els xs e
 clear hi
 repeat' (first | exact k0 | apply And.intro | intro _)
 all_goals omega
theorem ra_run (c:ra_GC) (b:ra_GB) (k1:(c.length:Int)=((c).length:Int)) (k2:(c).length≤maxLen) (k3:ra_K c b 0):loopF ra_RR ra_M (ra_g (0,c,b))=((scan 0 (ra_S c) 0 (c) b).1,ra_g ((scan 0 (ra_S c) 0 (c) b).2.1,c,(scan 0 (ra_S c) 0 (c) b).2.2)):=q0a (φ:=ra_f) (ψ:=ra_g) (fun _=>rfl) (fun _=>rfl) ra_RF ra_P c b k1 k2 k3
def rb_S (c:rb_GC) (b:rb_GB) (i:Int) (v:T):Ex×rb_GB:=bif v.d != (c.getD (0:Nat) eT.dflt).d then (.ret,(11:Int)) else (.normal,b)
def rb_K (c:rb_GC) (b:rb_GB) (i:Int):Prop:=True
abbrev rb_I (g:rb_G):List Prop:=ixI (fun c:rb_GC=>(c.length:Int)) (fun c:rb_GC=>c) rb_K (rb_f g)
abbrev rb_M (g:rb_G):Nat:=ixM (fun c:rb_GC=>(c.length:Int)) (rb_f g)
theorem rb_P:ixP rb_S (fun c:rb_GC=>c) rb_K:=fun _ _ _ _ h _ _=>h
abbrev rb_RR (g:rb_G):Ex×rb_G:=rb_R g.1 g.2.1 g.2.2
theorem rb_RF (d:Int×rb_GC×rb_GB) (hi:allP (ixI (fun c:rb_GC=>(c.length:Int)) (fun c:rb_GC=>c) rb_K d)):rb_RR (rb_g d)=((ixF 2 (fun c:rb_GC=>(c.length:Int)) (fun c:rb_GC=>c) eT.dflt rb_S d).1,rb_g (ixF 2 (fun c:rb_GC=>(c.length:Int)) (fun c:rb_GC=>c) eT.dflt rb_S d).2):=by
 obtain ⟨i,xs,r⟩:=d
 show rb_R xs i r=_
 unfold rb_R ixF rb_S
 simp only[eT.lst_els]
 cases decide (i<(xs.length:Int)) with
 | false=>rfl
 | true=>
  simp only[cond_true]
  generalize ((xs.getD i.toNat eT.dflt).d != (xs.getD (0:Nat) eT.dflt).d)=z
  cases z <;> rfl
theorem rb_ok:∀ b∈q00 Tryz.prog 142,lkey b=7→q02 Tryz.prog b (rb_C rb_I rb_M).g:=by
 refine z09 rb_I rb_M (fun g hi=>?_) (q06 (fun _=>rfl) (fun _=>rfl) rb_RF rb_P)
 obtain ⟨xs,i,r⟩:=g
 obtain ⟨h1,h2,h3,h4,h5⟩:=hi _ (List.mem_cons_self ..)
 have h1:(xs.length:Int)=(xs.length:Int):=h1
 have h3:0≤i:=h3
 have h5:True:=h5
 show qlt xs i r
 unfold qlt
 simp only[decide_eq_true_eq,decide_eq_false_iff_not]
 have k0:∀ e:Nat,e<xs.length→eT.Ok (eT.els xs e):=fun e _=>eT.ok_els xs e
 clear hi
 repeat' (first | exact k0 | apply And.intro | intro _)
 all_goals omega
theorem rb_run (c:rb_GC) (b:rb_GB) (k1:(c.length:Int)=((c).length:Int)) (k2:(c).length≤maxLen) (k3:rb_K c b 0):loopF rb_RR rb_M (rb_g (0,c,b))=((scan 2 (rb_S c) 0 (c) b).1,rb_g ((scan 2 (rb_S c) 0 (c) b).2.1,c,(scan 2 (rb_S c) 0 (c) b).2.2)):=q0a (φ:=rb_f) (ψ:=rb_g) (fun _=>rfl) (fun _=>rfl) rb_RF rb_P c b k1 k2 k3
def hs_S (c:hs_GC) (b:hs_GB) (i:Int) (v:T):Ex×hs_GB:=bif eqT v c.2 then (.ret,(),true) else (.normal,b.1,b.2)
def hs_K (c:hs_GC) (b:hs_GB) (i:Int):Prop:=True
abbrev hs_I (g:hs_G):List Prop:=ixI (fun c:hs_GC=>(c.1.length:Int)) (fun c:hs_GC=>c.1) hs_K (hs_f g)
abbrev hs_M (g:hs_G):Nat:=ixM (fun c:hs_GC=>(c.1.length:Int)) (hs_f g)
theorem hs_P:ixP hs_S (fun c:hs_GC=>c.1) hs_K:=fun _ _ _ _ h _ _=>h
abbrev hs_RR (g:hs_G):Ex×hs_G:=hs_R g.1 g.2.1 g.2.2.1 g.2.2.2.1 g.2.2.2.2
theorem hs_RF (d:Int×hs_GC×hs_GB) (hi:allP (ixI (fun c:hs_GC=>(c.1.length:Int)) (fun c:hs_GC=>c.1) hs_K d)):hs_RR (hs_g d)=((ixF 0 (fun c:hs_GC=>(c.1.length:Int)) (fun c:hs_GC=>c.1) eT.dflt hs_S d).1,hs_g (ixF 0 (fun c:hs_GC=>(c.1.length:Int)) (fun c:hs_GC=>c.1) eT.dflt hs_S d).2):=by
 obtain ⟨i,⟨xs,t⟩,⟨⟨⟩,r⟩⟩:=d
 show hs_R xs () t i r=_
 unfold hs_R ixF hs_S
 simp only[eT.lst_els,qdp]
 cases decide (i<(xs.length:Int)) with
 | false=>rfl
 | true=>
  simp only[cond_true]
  generalize (eqT (xs.getD i.toNat eT.dflt) t)=z
  cases z <;> rfl
theorem hs_ok:∀ b∈q00 Tryz.prog 143,lkey b=2→q02 Tryz.prog b (hs_C hs_I hs_M).g:=by
 refine z1t hs_I hs_M (fun g hi=>?_) (q06 (fun _=>rfl) (fun _=>rfl) hs_RF hs_P)
 obtain ⟨xs,⟨⟩,t,i,r⟩:=g
 obtain ⟨h1,h2,h3,h4,h5⟩:=hi _ (List.mem_cons_self ..)
 have h1:(xs.length:Int)=(xs.length:Int):=h1
 have h3:0≤i:=h3
 have h5:True:=h5
 show qmf xs () t i r
 unfold qmf
 simp only[decide_eq_true_eq,decide_eq_false_iff_not]
 have k0:∀ e:Nat,e<xs.length→eT.Ok (eT.els xs e):=fun e _=>eT.ok_els xs e
 clear hi
 repeat' (first | exact k0 | apply And.intro | intro _)
 all_goals omega
theorem hs_run (c:hs_GC) (b:hs_GB) (k1:(c.1.length:Int)=((c.1).length:Int)) (k2:(c.1).length≤maxLen) (k3:hs_K c b 0):loopF hs_RR hs_M (hs_g (0,c,b))=((scan 0 (hs_S c) 0 (c.1) b).1,hs_g ((scan 0 (hs_S c) 0 (c.1) b).2.1,c,(scan 0 (hs_S c) 0 (c.1) b).2.2)):=q0a (φ:=hs_f) (ψ:=hs_g) (fun _=>rfl) (fun _=>rfl) hs_RF hs_P c b k1 k2 k3
def eq_S (c:eq_GC) (b:eq_GB) (i:Int) (v:T):Ex×eq_GB:=bif !eqT v (c.2.1.getD i.toNat eT.dflt) then (.ret,false) else (.normal,b)
def eq_K (c:eq_GC) (b:eq_GB) (i:Int):Prop:=c.1.length=c.2.1.length
abbrev eq_I (g:eq_G):List Prop:=ixI (fun c:eq_GC=>c.2.2) (fun c:eq_GC=>c.1) eq_K (eq_f g)
abbrev eq_M (g:eq_G):Nat:=ixM (fun c:eq_GC=>c.2.2) (eq_f g)
theorem eq_P:ixP eq_S (fun c:eq_GC=>c.1) eq_K:=fun _ _ _ _ h _ _=>h
abbrev eq_RR (g:eq_G):Ex×eq_G:=eq_R g.1 g.2.1 g.2.2.1 g.2.2.2.1 g.2.2.2.2
theorem eq_RF (d:Int×eq_GC×eq_GB) (hi:allP (ixI (fun c:eq_GC=>c.2.2) (fun c:eq_GC=>c.1) eq_K d)):eq_RR (eq_g d)=((ixF 0 (fun c:eq_GC=>c.2.2) (fun c:eq_GC=>c.1) eT.dflt eq_S d).1,eq_g (ixF 0 (fun c:eq_GC=>c.2.2) (fun c:eq_GC=>c.1) eT.dflt eq_S d).2):=by
 obtain ⟨i,⟨xs,ys,n⟩,r⟩:=d
 show eq_R xs ys n i r=_
 unfold eq_R ixF eq_S
 simp only[eT.lst_els,qdp]
 cases decide (i<n) with
 | false=>rfl
 | true=>
  simp only[cond_true]
  generalize (!eqT (xs.getD i.toNat eT.dflt) (ys.getD i.toNat eT.dflt))=z
  cases z <;> rfl
theorem eq_ok:∀ b∈q00 Tryz.prog 24,lkey b=4→q02 Tryz.prog b (eq_C eq_I eq_M).g:=by
 refine eq_loop eq_I eq_M (fun g hi=>?_) (q06 (fun _=>rfl) (fun _=>rfl) eq_RF eq_P)
 obtain ⟨xs,ys,n,i,r⟩:=g
 obtain ⟨h1,h2,h3,h4,h5⟩:=hi _ (List.mem_cons_self ..)
 have h1:n=(xs.length:Int):=h1
 have h3:0≤i:=h3
 have h5:xs.length=ys.length:=h5
 show qmq xs ys n i r
 unfold qmq
 simp only[decide_eq_true_eq,decide_eq_false_iff_not]
 have k0:∀ e:Nat,e<xs.length→eT.Ok (eT.els xs e):=fun e _=>eT.ok_els xs e
 have k1:∀ e:Nat,e<ys.length→eT.Ok (eT.els ys e):=fun e _=>eT.ok_els ys e
 clear hi
 repeat' (first | exact k0 | exact k1 | apply And.intro | intro _)
 all_goals omega
theorem eq_run (c:eq_GC) (b:eq_GB) (k1:c.2.2=((c.1).length:Int)) (k2:(c.1).length≤maxLen) (k3:eq_K c b 0):loopF eq_RR eq_M (eq_g (0,c,b))=((scan 0 (eq_S c) 0 (c.1) b).1,eq_g ((scan 0 (eq_S c) 0 (c.1) b).2.1,c,(scan 0 (eq_S c) 0 (c.1) b).2.2)):=q0a (φ:=eq_f) (ψ:=eq_g) (fun _=>rfl) (fun _=>rfl) eq_RF eq_P c b k1 k2 k3
def rc_S (c:rc_GC) (b:rc_GB) (i:Int) (v:T):Ex×rc_GB:=bif q2a v c.2 then (.ret,(),true) else (.normal,b.1,b.2)
def rc_K (c:rc_GC) (b:rc_GB) (i:Int):Prop:=True
abbrev rc_I (g:rc_G):List Prop:=ixI (fun c:rc_GC=>(c.1.length:Int)) (fun c:rc_GC=>c.1) rc_K (rc_f g)
abbrev rc_M (g:rc_G):Nat:=ixM (fun c:rc_GC=>(c.1.length:Int)) (rc_f g)
theorem rc_P:ixP rc_S (fun c:rc_GC=>c.1) rc_K:=fun _ _ _ _ h _ _=>h
abbrev rc_RR (g:rc_G):Ex×rc_G:=rc_R g.1 g.2.1 g.2.2.1 g.2.2.2.1 g.2.2.2.2
theorem rc_RF (d:Int×rc_GC×rc_GB) (hi:allP (ixI (fun c:rc_GC=>(c.1.length:Int)) (fun c:rc_GC=>c.1) rc_K d)):rc_RR (rc_g d)=((ixF 0 (fun c:rc_GC=>(c.1.length:Int)) (fun c:rc_GC=>c.1) eT.dflt rc_S d).1,rc_g (ixF 0 (fun c:rc_GC=>(c.1.length:Int)) (fun c:rc_GC=>c.1) eT.dflt rc_S d).2):=by
 obtain ⟨i,⟨xs,t⟩,⟨⟨⟩,r⟩⟩:=d
 show rc_R xs () t i r=_
 unfold rc_R ixF rc_S
 simp only[eT.lst_els]
 cases decide (i<(xs.length:Int)) with
 | false=>rfl
 | true=>
  simp only[cond_true]
  generalize (q2a (xs.getD i.toNat eT.dflt) t)=z
  cases z <;> rfl
theorem rc_ok:∀ b∈q00 Tryz.prog 27,lkey b=2→q02 Tryz.prog b (rc_C rc_I rc_M).g:=by
 refine z08 rc_I rc_M (fun g hi=>?_) (q06 (fun _=>rfl) (fun _=>rfl) rc_RF rc_P)
 obtain ⟨xs,⟨⟩,t,i,r⟩:=g
 obtain ⟨h1,h2,h3,h4,h5⟩:=hi _ (List.mem_cons_self ..)
 have h1:(xs.length:Int)=(xs.length:Int):=h1
 have h3:0≤i:=h3
 have h5:True:=h5
 show qls xs () t i r
 unfold qls
 simp only[decide_eq_true_eq,decide_eq_false_iff_not]
 have k0:∀ e:Nat,e<xs.length→eT.Ok (eT.els xs e):=fun e _=>eT.ok_els xs e
 clear hi
 repeat' (first | exact k0 | apply And.intro | intro _)
 all_goals omega
theorem rc_run (c:rc_GC) (b:rc_GB) (k1:(c.1.length:Int)=((c.1).length:Int)) (k2:(c.1).length≤maxLen) (k3:rc_K c b 0):loopF rc_RR rc_M (rc_g (0,c,b))=((scan 0 (rc_S c) 0 (c.1) b).1,rc_g ((scan 0 (rc_S c) 0 (c.1) b).2.1,c,(scan 0 (rc_S c) 0 (c.1) b).2.2)):=q0a (φ:=rc_f) (ψ:=rc_g) (fun _=>rfl) (fun _=>rfl) rc_RF rc_P c b k1 k2 k3
def ltA:LTab Tryz.prog:=(((((((LTab.nil.cons 156 2 (ia_C ia_I ia_M) ia_ok).cons 102 2 (tms_C tms_I tms_M) tms_ok).cons 142 2 (ra_C ra_I ra_M) ra_ok).cons 142 7 (rb_C rb_I rb_M) rb_ok).cons 143 2 (hs_C hs_I hs_M) hs_ok).cons 24 4 (eq_C eq_I eq_M) eq_ok).cons 27 2 (rc_C rc_I rc_M) rc_ok)
abbrev lamA:Lam:=ltA.lam
theorem q86:∀ f k L,lamA f k=some L→∀ b∈q00 Tryz.prog f,lkey b=k→q02 Tryz.prog b L.g:=ltA.ok
def ltB:LTab Tryz.prog:=(LTab.nil.cons 156 2 (ib_C ib_I ib_M) ib_ok)
abbrev lamB:Lam:=ltB.lam
theorem z15:∀ f k L,lamB f k=some L→∀ b∈q00 Tryz.prog f,lkey b=k→q02 Tryz.prog b L.g:=ltB.ok
end
end Go.Proofs.YthnojkbkojpadaaGreat

namespace Go.Proofs.YthnojkbkojpadaaGreat
noncomputable section
open Go.RowKit Go.Sx
set_option linter.unusedVariables false
abbrev aFt:DA (List T×List T):=.cons dLT (.one dFt)
abbrev aFc:DA (List T×T):=.cons dLT (.one dFc)
abbrev aLT:DA (List T×T):=.cons dLT (.one dT)
abbrev aLL:DA (List T×List T):=.cons dLT (.one dLT)
abbrev aL:DA (List T):=.one dLT
def qrt (xs:List T) (l:List T):Ex ×
 ia_G:=
 loopF (fun g=>ia_R g.fst g.snd.fst g.snd.snd.fst g.snd.snd.snd.fst g.snd.snd.snd.snd) ia_M (eT.lst xs.length (eT.els xs),eT.lst l.length (eT.els l),(↑xs.length:Int),(0:Int),(0:Int))
def ixa_F (xs:List T) (l:List T):Dv.T dI:=
 bif exB Ex.ret (qrt xs l).fst then (qrt xs l).snd.snd.snd.snd.snd else (-1:Int)
def qb8 (xs:List T) (l:List T):Prop:=
 (∀ (e:Nat),e<xs.length→eT.Ok (eT.els xs e))∧(∀ (e:Nat),e<l.length→eT.Ok (eT.els l e))∧Lp.ixJ (fun c=>c.snd.snd) (fun c=>c.fst) ia_K (ia_f (eT.lst xs.length (eT.els xs),eT.lst l.length (eT.els l),(↑xs.length:Int),(0:Int),(0:Int)))
theorem z1g (pre:DA.T aFt→List Prop) (h:∀ g,DA.bd aFt g→(∀ p∈pre g,p)→qb8 g.1 g.2):q04 Tryz.prog 156 aFt dI (fun g=>ixa_F g.1 g.2) pre:=q08 (Γ:=(PTab.gamz tabL [] [])) (Λ:=lamA) (PTab.okz tabL [] []) q86 100 default (fun g=>qb8 g.1 g.2) (fun g=>by kernel_rfl) (fun g=>by kernel_rfl) h
def qrw (xs:List T) (t:T):Ex ×
 hs_G:=
 loopF (fun g=>hs_R g.fst g.snd.fst g.snd.snd.fst g.snd.snd.snd.fst g.snd.snd.snd.snd) hs_M (eT.lst xs.length (eT.els xs),(),t,(0:Int),false)
def hsf_F (xs:List T) (t:T):Dv.T dBool:=
 bif exB Ex.ret (qrw xs t).fst then (qrw xs t).snd.snd.snd.snd.snd else false
def qbb (xs:List T) (t:T):Prop:=
 (∀ (e:Nat),e<xs.length→eT.Ok (eT.els xs e))∧Lp.ixJ (fun c=>(↑c.fst.length:Int)) (fun c=>c.fst) hs_K (hs_f (eT.lst xs.length (eT.els xs),(),t,(0:Int),false))
theorem z1s (pre:DA.T aLT→List Prop) (h:∀ g,DA.bd aLT g→(∀ p∈pre g,p)→qbb g.1 g.2):q04 Tryz.prog 143 aLT dBool (fun g=>hsf_F g.1 g.2) pre:=q08 (Γ:=(PTab.gamz tabL [] [])) (Λ:=lamA) (PTab.okz tabL [] []) q86 100 default (fun g=>qbb g.1 g.2) (fun g=>by kernel_rfl) (fun g=>by kernel_rfl) h
def qs6 (xs:List T) (ys:List T):Ex ×
 eq_G:=
 loopF (fun g=>eq_R g.fst g.snd.fst g.snd.snd.fst g.snd.snd.snd.fst g.snd.snd.snd.snd) eq_M (eT.lst xs.length (eT.els xs),eT.lst ys.length (eT.els ys),(↑xs.length:Int),(0:Int),false)
def eqf_F (xs:List T) (ys:List T):Dv.T dBool:=
 bif (↑xs.length:Int) != (↑ys.length:Int) then false
 else bif exB Ex.ret (qs6 xs ys).fst then (qs6 xs ys).snd.snd.snd.snd.snd else true
def qbg (xs:List T) (ys:List T):Prop:=
 ((↑xs.length:Int) != (↑ys.length:Int))=false→(∀ (e:Nat),e<xs.length→eT.Ok (eT.els xs e))∧(∀ (e:Nat),e<ys.length→eT.Ok (eT.els ys e))∧Lp.ixJ (fun c=>c.snd.snd) (fun c=>c.fst) eq_K (eq_f (eT.lst xs.length (eT.els xs),eT.lst ys.length (eT.els ys),(↑xs.length:Int),(0:Int),false))
theorem eqf_okS (pre:DA.T aLL→List Prop) (h:∀ g,DA.bd aLL g→(∀ p∈pre g,p)→qbg g.1 g.2):q04 Tryz.prog 24 aLL dBool (fun g=>eqf_F g.1 g.2) pre:=q08 (Γ:=(PTab.gamz tabL [] [])) (Λ:=lamA) (PTab.okz tabL [] []) q86 100 default (fun g=>qbg g.1 g.2) (fun g=>by kernel_rfl) (fun g=>by kernel_rfl) h
def qrc (xs:List T) (t:T):Ex ×
 rc_G:=
 loopF (fun g=>rc_R g.fst g.snd.fst g.snd.snd.fst g.snd.snd.snd.fst g.snd.snd.snd.snd) rc_M (eT.lst xs.length (eT.els xs),(),t,(0:Int),false)
def rcf_F (xs:List T) (t:T):Dv.T dBool:=
 bif exB Ex.ret (qrc xs t).fst then (qrc xs t).snd.snd.snd.snd.snd else false
def qat (xs:List T) (t:T):Prop:=
 (∀ (e:Nat),e<xs.length→eT.Ok (eT.els xs e))∧Lp.ixJ (fun c=>(↑c.fst.length:Int)) (fun c=>c.fst) rc_K (rc_f (eT.lst xs.length (eT.els xs),(),t,(0:Int),false))
theorem z06 (pre:DA.T aLT→List Prop) (h:∀ g,DA.bd aLT g→(∀ p∈pre g,p)→qat g.1 g.2):q04 Tryz.prog 27 aLT dBool (fun g=>rcf_F g.1 g.2) pre:=q08 (Γ:=(PTab.gamz tabL [] [])) (Λ:=lamA) (PTab.okz tabL [] []) q86 100 default (fun g=>qat g.1 g.2) (fun g=>by kernel_rfl) (fun g=>by kernel_rfl) h
def q5u (xs:List T):Ex ×
 ra_G:=
 loopF (fun g=>ra_R g.fst g.snd.fst g.snd.snd) ra_M (eT.lst xs.length (eT.els xs),(0:Int),(0:Int))
def qqu (xs:List T):Ex ×
 rb_G:=
 loopF (fun g=>rb_R g.fst g.snd.fst g.snd.snd) rb_M (eT.lst (q5u xs).snd.fst.length (eT.els (q5u xs).snd.fst),(0:Int),(q5u xs).snd.snd.snd)
def rtm_F (xs:List T):Dv.T dI:=
 bif exB Ex.ret (q5u xs).fst then (q5u xs).snd.snd.snd else bif exB Ex.ret (qqu xs).fst then (qqu xs).snd.snd.snd else (0:Int)
def qak (xs:List T):Prop:=
 (∀ (e:Nat),e<xs.length→eT.Ok (eT.els xs e))∧Lp.ixJ (fun c=>(↑(List.length c):Int)) (fun c=>c) ra_K (ra_f (eT.lst xs.length (eT.els xs),(0:Int),(0:Int)))∧(exB Ex.ret (q5u xs).fst=false→(∀ (e:Nat),e<(q5u xs).snd.fst.length→eT.Ok (eT.els (q5u xs).snd.fst e))∧Lp.ixJ (fun c=>(↑(List.length c):Int)) (fun c=>c) rb_K (rb_f (eT.lst (q5u xs).snd.fst.length (eT.els (q5u xs).snd.fst),(0:Int),(q5u xs).snd.snd.snd)))
theorem qzn (pre:DA.T aL→List Prop) (h:∀ g,DA.bd aL g→(∀ p∈pre g,p)→qak g):q04 Tryz.prog 142 aL dI (fun g=>rtm_F g) pre:=q08 (Γ:=(PTab.gamz tabL [] [])) (Λ:=lamA) (PTab.okz tabL [] []) q86 100 default (fun g=>qak g) (fun g=>by kernel_rfl) (fun g=>by kernel_rfl) h
end
end Go.Proofs.YthnojkbkojpadaaGreat

namespace Go.Proofs.YthnojkbkojpadaaGreat
noncomputable section
open Go.RowKit Go.Sx
set_option linter.unusedVariables false
def qrs (xs:List T) (t:T):Ex ×
 ib_G:=
 loopF (fun g=>ib_R g.fst g.snd.fst g.snd.snd.fst g.snd.snd.snd.fst g.snd.snd.snd.snd) ib_M (eT.lst xs.length (eT.els xs),t,(↑xs.length:Int),(0:Int),(0:Int))
def ixb_F (xs:List T) (t:T):Dv.T dI:=
 bif exB Ex.ret (qrs xs t).fst then (qrs xs t).snd.snd.snd.snd.snd else (-1:Int)
def qb7 (xs:List T) (t:T):Prop:=
 (∀ (e:Nat),e<xs.length→eT.Ok (eT.els xs e))∧Lp.ixJ (fun c=>c.snd.snd) (fun c=>c.fst) ib_K (ib_f (eT.lst xs.length (eT.els xs),t,(↑xs.length:Int),(0:Int),(0:Int)))
theorem z1e (pre:DA.T aFc→List Prop) (h:∀ g,DA.bd aFc g→(∀ p∈pre g,p)→qb7 g.1 g.2):q04 Tryz.prog 156 aFc dI (fun g=>ixb_F g.1 g.2) pre:=q08 (Γ:=(PTab.gamz tabL [] [])) (Λ:=lamB) (PTab.okz tabL [] []) z15 100 default (fun g=>qb7 g.1 g.2) (fun g=>by kernel_rfl) (fun g=>by kernel_rfl) h
end
end Go.Proofs.YthnojkbkojpadaaGreat

namespace Go.Proofs.YthnojkbkojpadaaGreat
noncomputable section
open Go.RowKit Go.Sx Go.Lp
theorem okT (xs:List T):∀ e:Nat,e<xs.length→eT.Ok (eT.els xs e):=fun e _=>eT.ok_els xs e
def difD (l:List T) (v:T):Bool:=v.d != (l.getD (0:Nat) eT.dflt).d
theorem z1f (xs l:List T) (h:xs.length≤maxLen) (hk:0<xs.length→0<l.length):decide (ixa_F xs l≥0)=xs.any (difD l):=by
 unfold ixa_F qrt
 simp only[eT.lst_els]
 have h1:loopF (fun g:ia_G=>ia_R g.1 g.2.1 g.2.2.1 g.2.2.2.1 g.2.2.2.2) ia_M (xs,l,(xs.length:Int),0,0)=_:=ia_run (xs,l,(xs.length:Int)) (0:Int) rfl h hk
 rw[h1]
 rcases search (x:=0) (st:=ia_S (xs,l,(xs.length:Int))) (p:=difD l) (r:=fun i _ _=>i) (fun _ _ _=>rfl) xs 0 with ⟨ha,j,hj,a,_,_,h2⟩ | ⟨ha,h2⟩
 ·have h2:scan 0 (ia_S (xs,l,(xs.length:Int))) 0 xs 0=_:=h2
  rw[h2,ha]
  show decide (j≥0)=true
  exact decide_eq_true hj
 ·have h2:scan 0 (ia_S (xs,l,(xs.length:Int))) 0 xs 0=_:=h2
  rw[h2,ha]
  rfl
theorem ixa_ok:q04 Tryz.prog 156 aFt dI (fun g=>ixa_F g.1 g.2) (fun g=>[0<g.1.length→0<g.2.length]):=
 z1g _ fun g hb hp=>by
  obtain ⟨xs,l⟩:=g
  have hl:xs.length≤maxLen:=hb.1.1
  have hk:0<xs.length→0<l.length:=hp _ (List.mem_cons_self ..)
  show qb8 xs l
  unfold qb8
  simp only[eT.lst_els]
  exact ⟨okT xs,okT l,ixJ0 rfl hl hk⟩
theorem z1d (xs:List T) (t:T) (h:xs.length≤maxLen):decide (ixb_F xs t≥0)=xs.any (q0k · t):=by
 unfold ixb_F qrs
 simp only[eT.lst_els]
 have h1:loopF (fun g:ib_G=>ib_R g.1 g.2.1 g.2.2.1 g.2.2.2.1 g.2.2.2.2) ib_M (xs,t,(xs.length:Int),0,0)=_:=ib_run (xs,t,(xs.length:Int)) (0:Int) rfl h trivial
 rw[h1]
 rcases search (x:=0) (st:=ib_S (xs,t,(xs.length:Int))) (p:=(q0k · t)) (r:=fun i _ _=>i) (fun _ _ _=>rfl) xs 0 with ⟨ha,j,hj,a,_,_,h2⟩ | ⟨ha,h2⟩
 ·have h2:scan 0 (ib_S (xs,t,(xs.length:Int))) 0 xs 0=_:=h2
  rw[h2,ha]
  show decide (j≥0)=true
  exact decide_eq_true hj
 ·have h2:scan 0 (ib_S (xs,t,(xs.length:Int))) 0 xs 0=_:=h2
  rw[h2,ha]
  rfl
theorem ixb_ok:q04 Tryz.prog 156 aFc dI (fun g=>ixb_F g.1 g.2) (fun _=>[]):=
 z1e _ fun g hb _=>by
  obtain ⟨xs,t⟩:=g
  have hl:xs.length≤maxLen:=hb.1.1
  show qb7 xs t
  unfold qb7
  simp only[eT.lst_els]
  exact ⟨okT xs,ixJ0 rfl hl trivial⟩
theorem hsf_eq (xs:List T) (t:T) (h:xs.length≤maxLen):hsf_F xs t=decide (t∈xs):=by
 unfold hsf_F qrw
 simp only[eT.lst_els]
 have h1:loopF (fun g:hs_G=>hs_R g.1 g.2.1 g.2.2.1 g.2.2.2.1 g.2.2.2.2) hs_M (xs,(),t,0,false)=_:=hs_run (xs,t) ((),false) rfl h trivial
 rw[h1,← any_eq_mem]
 rcases search (x:=0) (st:=hs_S (xs,t)) (p:=fun v=>eqT v t) (r:=fun _ _ _=>((),true)) (fun _ _ _=>rfl) xs ((),false) with ⟨ha,j,hj,a,_,_,h2⟩ | ⟨ha,h2⟩
 ·have h2:scan 0 (hs_S (xs,t)) 0 xs ((),false)=_:=h2
  rw[h2];exact ha.symm
 ·have h2:scan 0 (hs_S (xs,t)) 0 xs ((),false)=_:=h2
  rw[h2];exact ha.symm
theorem hsf_ok:q04 Tryz.prog 143 aLT dBool (fun g=>decide (g.2∈g.1)) (fun _=>[]):=by
 refine q0b (z1s (fun _=>[]) fun g hb _=>?_) fun g hb _=>hsf_eq g.1 g.2 hb.1.1
 obtain ⟨xs,t⟩:=g
 have hl:xs.length≤maxLen:=hb.1.1
 show qbb xs t
 unfold qbb
 simp only[eT.lst_els]
 exact ⟨okT xs,ixJ0 rfl hl trivial⟩
theorem rcf_eq (xs:List T) (t:T) (h:xs.length≤maxLen):rcf_F xs t=xs.any (q0k · t):=by
 unfold rcf_F qrc
 simp only[eT.lst_els]
 have h1:loopF (fun g:rc_G=>rc_R g.1 g.2.1 g.2.2.1 g.2.2.2.1 g.2.2.2.2) rc_M (xs,(),t,0,false)=_:=rc_run (xs,t) ((),false) rfl h trivial
 rw[h1]
 rcases search (x:=0) (st:=rc_S (xs,t)) (p:=fun v=>q0k v t) (r:=fun _ _ _=>((),true)) (fun _ _ _=>rfl) xs ((),false) with ⟨ha,j,hj,a,_,_,h2⟩ | ⟨ha,h2⟩
 ·have h2:scan 0 (rc_S (xs,t)) 0 xs ((),false)=_:=h2
  rw[h2];exact ha.symm
 ·have h2:scan 0 (rc_S (xs,t)) 0 xs ((),false)=_:=h2
  rw[h2];exact ha.symm
theorem qwc:q04 Tryz.prog 27 aLT dBool (fun g=>g.1.any (q0k · g.2)) (fun _=>[]):=by
 refine q0b (z06 (fun _=>[]) fun g hb _=>?_) fun g hb _=>rcf_eq g.1 g.2 hb.1.1
 obtain ⟨xs,t⟩:=g
 have hl:xs.length≤maxLen:=hb.1.1
 show qat xs t
 unfold qat
 simp only[eT.lst_els]
 exact ⟨okT xs,ixJ0 rfl hl trivial⟩
theorem qs7:q04 Tryz.prog 24 aLL dBool (fun g=>decide (g.1=g.2)) (fun _=>[]):=by
 have h:=eqf_okS (fun _=>[]) fun g hb _=>by
  obtain ⟨a,b⟩:=g
  have ha:a.length≤maxLen:=hb.1.1
  show qbg a b
  unfold qbg
  simp only[eT.lst_els]
  exact fun hc=>⟨okT a,okT b,ixJ0 rfl ha (ne_len hc)⟩
 refine q0b h fun g hb _=>?_
 obtain ⟨a,b⟩:=g
 have ha:a.length≤maxLen:=hb.1.1
 show eqf_F a b=decide (a=b)
 unfold eqf_F qs6
 simp only[eT.lst_els]
 cases hc:((a.length:Int) != (b.length:Int)) with
 | true=>
  have:a≠b:=fun e=>by subst e;simp at hc
  simp[this]
 | false=>
  have hl:=ne_len hc
  have h1:loopF (fun g:eq_G=>eq_R g.1 g.2.1 g.2.2.1 g.2.2.2.1 g.2.2.2.2) eq_M (a,b,(a.length:Int),0,false)=_:=eq_run (a,b,(a.length:Int)) false rfl ha hl
  rw[h1]
  rcases q64 (x:=0) b eT.dflt (st:=eq_S (a,b,(a.length:Int))) (fun _ _ _=>rfl) a 0 false (by omega) with ⟨h2,h3⟩ | ⟨h2,h3,h4⟩
  ·have h3:scan 0 (eq_S (a,b,(a.length:Int))) 0 a false=_:=h3
   rw[h3]
   rw[List.drop_zero] at h2
   simp[h2,exB]
  ·have h3:(scan 0 (eq_S (a,b,(a.length:Int))) 0 a false).1=_:=h3
   have h4:(scan 0 (eq_S (a,b,(a.length:Int))) 0 a false).2.2=_:=h4
   rw[List.drop_zero] at h2
   show (bif exB .ret (scan 0 (eq_S (a,b,(a.length:Int))) 0 a false).1 then (scan 0 (eq_S (a,b,(a.length:Int))) 0 a false).2.2 else true)=_
   rw[h3,h4]
   simp[h2,exB]
def badC (xs:List T):Int:=bif xs.any (fun v=>q0e v != 0) then 10 else bif xs.any (difD xs) then 11 else 0
theorem qvs (xs:List T) (h:xs.length≤maxLen):rtm_F xs=badC xs∧qak xs:=by
 unfold rtm_F qak qqu q5u badC
 simp only[eT.lst_els]
 have h1:loopF (fun g:ra_G=>ra_R g.1 g.2.1 g.2.2) ra_M (xs,0,0)=_:=ra_run xs (0:Int) rfl h trivial
 rw[h1]
 rcases search (x:=0) (st:=ra_S xs) (p:=fun v=>q0y v != 0) (r:=fun _ _ _=>(10:Int)) (fun _ _ _=>rfl) xs 0 with ⟨ha,j,hj,a,_,_,h2⟩ | ⟨ha,h2⟩
 ·have h2:scan 0 (ra_S xs) 0 xs 0=_:=h2
  rw[h2,show (xs.any fun v=>q0e v != 0)=true from ha]
  exact ⟨rfl,okT xs,ixJ0 rfl h trivial,fun hc=>by cases hc⟩
 ·have h2:scan 0 (ra_S xs) 0 xs 0=_:=h2
  rw[h2,show (xs.any fun v=>q0e v != 0)=false from ha]
  have h3:loopF (fun g:rb_G=>rb_R g.1 g.2.1 g.2.2) rb_M (xs,0,0)=_:=rb_run xs (0:Int) rfl h trivial
  refine ⟨?_,okT xs,ixJ0 rfl h trivial,fun _=>⟨okT xs,ixJ0 rfl h trivial⟩⟩
  simp only[ra_g,exB,Bool.cond_false]
  show (bif exB .ret (loopF (fun g:rb_G=>rb_R g.1 g.2.1 g.2.2) rb_M (xs,0,0)).1 then (loopF (fun g:rb_G=>rb_R g.1 g.2.1 g.2.2) rb_M (xs,0,0)).2.2.2 else (0:Int))=_
  rw[h3]
  rcases search (x:=2) (st:=rb_S xs) (p:=difD xs) (r:=fun _ _ _=>(11:Int)) (fun _ _ _=>rfl) xs 0 with ⟨hb,j,hj,a,_,_,h4⟩ | ⟨hb,h4⟩
  ·have h4:scan 2 (rb_S xs) 0 xs 0=_:=h4
   rw[h4,hb];rfl
  ·have h4:scan 2 (rb_S xs) 0 xs 0=_:=h4
   rw[h4,hb];rfl
theorem rtm_ok:q04 Tryz.prog 142 aL dI badC (fun _=>[]):=
 q0b (qzn (fun _=>[]) fun g hb _=>(qvs g hb.1).2) fun g hb _=>(qvs g hb.1).1
def tabM:PTab Tryz.prog:=((((((tabL.cons 156 (qm0 136 (pconP aFt dI (fun g=>ixa_F g.1 g.2) (fun g=>[0<g.1.length→0<g.2.length])) (pconP aFc dI (fun g=>ixb_F g.1 g.2) (fun _=>[]))) (alt_ok (q0d ixa_ok puI) (q0d ixb_ok puI)))).cons 143 (pconP aLT dBool (fun g=>decide (g.2∈g.1)) (fun _=>[])) (q0d hsf_ok puB))).cons 24 (pconP aLL dBool (fun g=>decide (g.1=g.2)) (fun _=>[])) (q0d qs7 puB)).cons 27 (pconP aLT dBool (fun g=>g.1.any (q0k · g.2)) (fun _=>[])) (q0d qwc puB)).cons 142 (pconP aL dI badC (fun _=>[])) (q0d rtm_ok puI)
end
end Go.Proofs.YthnojkbkojpadaaGreat

namespace Go.Proofs.YthnojkbkojpadaaGreat
noncomputable section
open Go.RowKit Go.Sx
set_option linter.unusedVariables false
def cfa_F (xs:List T) (l:List T):Dv.T dBool:=
 decide (ixa_F (eT.lst xs.length (eT.els xs)) (eT.lst l.length (eT.els l))≥(0:Int))
def qbo (xs:List T) (l:List T):Prop:=
 (∀ (e:Nat),e<xs.length→eT.Ok (eT.els xs e))∧(∀ (e:Nat),e<l.length→eT.Ok (eT.els l e))∧((0:Nat)<(eT.lst xs.length (eT.els xs)).length→(0:Nat)<(eT.lst l.length (eT.els l)).length)
theorem cfa_okS (pre:DA.T aFt→List Prop) (h:∀ g,DA.bd aFt g→(∀ p∈pre g,p)→qbo g.1 g.2):q04 Tryz.prog 127 aFt dBool (fun g=>cfa_F g.1 g.2) pre:=q08 (Γ:=(PTab.gamz tabM [] [])) (Λ:=noΛ) (PTab.okz tabM [] []) q0o 100 default (fun g=>qbo g.1 g.2) (fun g=>by kernel_rfl) (fun g=>by kernel_rfl) h
def cfb_F (xs:List T) (t:T):Dv.T dBool:=
 decide (ixb_F (eT.lst xs.length (eT.els xs)) t≥(0:Int))
def qp6 (xs:List T) (t:T):Prop:=
 ∀ (e:Nat),e<xs.length→eT.Ok (eT.els xs e)
theorem cfb_okS (pre:DA.T aFc→List Prop) (h:∀ g,DA.bd aFc g→(∀ p∈pre g,p)→qp6 g.1 g.2):q04 Tryz.prog 127 aFc dBool (fun g=>cfb_F g.1 g.2) pre:=q08 (Γ:=(PTab.gamz tabM [] [])) (Λ:=noΛ) (PTab.okz tabM [] []) q0o 100 default (fun g=>qp6 g.1 g.2) (fun g=>by kernel_rfl) (fun g=>by kernel_rfl) h
end
end Go.Proofs.YthnojkbkojpadaaGreat

namespace Go.Proofs.YthnojkbkojpadaaGreat
noncomputable section
open Go.RowKit Go.Sx Go.Lp
theorem cfa_ok:q04 Tryz.prog 127 aFt dBool (fun g=>g.1.any (difD g.2)) (fun g=>[0<g.1.length→0<g.2.length]):=by
 refine q0b (cfa_okS _ fun g hb hp=>?_) fun g hb hp=>?_
 ·obtain ⟨xs,l⟩:=g
  have hk:0<xs.length→0<l.length:=hp _ (List.mem_cons_self ..)
  show qbo xs l
  unfold qbo
  simp only[eT.lst_els]
  exact ⟨okT xs,okT l,hk⟩
 ·show cfa_F g.1 g.2=_
  unfold cfa_F
  simp only[eT.lst_els]
  exact z1f g.1 g.2 hb.1.1 (hp _ (List.mem_cons_self ..))
theorem cfb_ok:q04 Tryz.prog 127 aFc dBool (fun g=>g.1.any (q0k · g.2)) (fun _=>[]):=by
 refine q0b (cfb_okS _ fun g hb hp=>okT g.1) fun g hb hp=>?_
 show cfb_F g.1 g.2=_
 unfold cfb_F
 simp only[eT.lst_els]
 exact z1d g.1 g.2 hb.1.1
def tabN:PTab Tryz.prog:=(tabM.cons 127 (qm0 136 (pconP aFt dBool (fun g=>g.1.any (difD g.2)) (fun g=>[0<g.1.length→0<g.2.length])) (pconP aFc dBool (fun g=>g.1.any (q0k · g.2)) (fun _=>[]))) (alt_ok (q0d cfa_ok puB) (q0d cfb_ok puB)))
end
end Go.Proofs.YthnojkbkojpadaaGreat

namespace Go.Proofs.YthnojkbkojpadaaGreat
noncomputable section
open Go.RowKit Go.Sx
set_option linter.unusedVariables false
def q3r (xs:List T):Ex ×
 tms_G:=
 loopF (fun g=>tms_R g.fst g.snd.fst g.snd.snd.fst g.snd.snd.snd.fst g.snd.snd.snd.snd.fst g.snd.snd.snd.snd.snd) tms_M (eT.lst xs.length (eT.els xs),(↑xs.length:Int),(0:Int),(0:Int),(),eT.lst xs.length (eT.els xs))
def tmf_F (xs:List T):Dv.T dI:=
 bif exB Ex.ret (q3r xs).fst then (q3r xs).snd.snd.snd.snd.fst
 else bif (eT.lst (q3r xs).snd.snd.snd.snd.snd.snd.length (eT.els (q3r xs).snd.snd.snd.snd.snd.snd)).any (difD (eT.lst (q3r xs).snd.snd.snd.snd.snd.snd.length (eT.els (q3r xs).snd.snd.snd.snd.snd.snd))) then (11:Int) else (0:Int)
def qaf (xs:List T):Prop:=
 (∀ (e:Nat),e<xs.length→eT.Ok (eT.els xs e))∧(∀ (e:Nat),e<xs.length→eT.Ok (eT.els xs e))∧Lp.ixJ (fun c=>c.snd.fst) (fun c=>c.fst) tms_K (tms_f (eT.lst xs.length (eT.els xs),(↑xs.length:Int),(0:Int),(0:Int),(),eT.lst xs.length (eT.els xs)))∧(exB Ex.ret (q3r xs).fst=false→(∀ (e:Nat),e<(q3r xs).snd.snd.snd.snd.snd.snd.length→eT.Ok (eT.els (q3r xs).snd.snd.snd.snd.snd.snd e))∧(∀ (e:Nat),e<(q3r xs).snd.snd.snd.snd.snd.snd.length→eT.Ok (eT.els (q3r xs).snd.snd.snd.snd.snd.snd e))∧((0:Nat)<(eT.lst (q3r xs).snd.snd.snd.snd.snd.snd.length (eT.els (q3r xs).snd.snd.snd.snd.snd.snd)).length→(0:Nat)<(eT.lst (q3r xs).snd.snd.snd.snd.snd.snd.length (eT.els (q3r xs).snd.snd.snd.snd.snd.snd)).length))
theorem qz0 (pre:DA.T aL→List Prop) (h:∀ g,DA.bd aL g→(∀ p∈pre g,p)→qaf g):q04 Tryz.prog 102 aL dI (fun g=>tmf_F g) pre:=q08 (Γ:=(PTab.gamz tabN [] [])) (Λ:=lamA) (PTab.okz tabN [] []) q86 100 default (fun g=>qaf g) (fun g=>by kernel_rfl) (fun g=>by kernel_rfl) h
def cov_F (xs:List T) (t:T):Dv.T dBool:=
 (eT.lst xs.length (eT.els xs)).any fun x=>q0k x t
def qoz (xs:List T) (t:T):Prop:=
 ∀ (e:Nat),e<xs.length→eT.Ok (eT.els xs e)
theorem cov_okS (pre:DA.T aLT→List Prop) (h:∀ g,DA.bd aLT g→(∀ p∈pre g,p)→qoz g.1 g.2):q04 Tryz.prog 83 aLT dBool (fun g=>cov_F g.1 g.2) pre:=q08 (Γ:=(PTab.gamz tabN [] [])) (Λ:=lamA) (PTab.okz tabN [] []) q86 100 default (fun g=>qoz g.1 g.2) (fun g=>by kernel_rfl) (fun g=>by kernel_rfl) h
end
end Go.Proofs.YthnojkbkojpadaaGreat

namespace Go.Proofs.YthnojkbkojpadaaGreat
noncomputable section
open Go.RowKit Go.Sx Go.Lp
theorem qv8 (xs:List T) (h:xs.length≤maxLen):tmf_F xs=badC xs∧qaf xs:=by
 unfold tmf_F qaf q3r badC
 simp only[eT.lst_els]
 have h1:loopF (fun g:tms_G=>tms_R g.1 g.2.1 g.2.2.1 g.2.2.2.1 g.2.2.2.2.1 g.2.2.2.2.2) tms_M (xs,(xs.length:Int),0,0,(),xs)=_:=qyy (xs,(xs.length:Int),xs) ((0:Int),()) rfl h trivial
 rw[h1]
 rcases search (x:=0) (st:=tms_S (xs,(xs.length:Int),xs)) (p:=fun v=>q0e v != 0) (r:=fun _ a _=>(q0e a,())) (fun _ _ _=>rfl) xs (0,()) with ⟨ha,j,hj,a,_,h3,h2⟩ | ⟨ha,h2⟩
 ·have h2:scan 0 (tms_S (xs,(xs.length:Int),xs)) 0 xs (0,())=_:=h2
  rw[h2,ha]
  refine ⟨?_,okT xs,okT xs,ixJ0 rfl h trivial,fun hc=>by cases hc⟩
  show q0e a=10
  rcases qqd a with h4 | h4
  ·rw[h4] at h3;cases h3
  ·exact h4
 ·have h2:scan 0 (tms_S (xs,(xs.length:Int),xs)) 0 xs (0,())=_:=h2
  rw[h2,ha]
  exact ⟨rfl,okT xs,okT xs,ixJ0 rfl h trivial,fun _=>⟨okT xs,okT xs,fun h=>h⟩⟩
theorem tmf_ok:q04 Tryz.prog 102 aL dI badC (fun _=>[]):=
 q0b (qz0 (fun _=>[]) fun g hb _=>(qv8 g hb.1).2) fun g hb _=>(qv8 g hb.1).1
theorem ql4:q04 Tryz.prog 83 aLT dBool (fun g=>g.1.any (q0k · g.2)) (fun _=>[]):=
 q0b (cov_okS (fun _=>[]) fun g hb _=>okT g.1) fun g hb _=>by
  show cov_F g.1 g.2=_
  unfold cov_F
  simp only[eT.lst_els]
def tabO:PTab Tryz.prog:=(tabN.cons 102 (pconP aL dI badC (fun _=>[])) (q0d tmf_ok puI)).cons 83 (pconP aLT dBool (fun g=>g.1.any (q0k · g.2)) (fun _=>[])) (q0d ql4 puB)
end
end Go.Proofs.YthnojkbkojpadaaGreat

namespace Go.Proofs.YthnojkbkojpadaaGreat
noncomputable section
open Go.RowKit Go.Sx
set_option linter.unusedVariables false
abbrev ro2_G:Type:=List T×Int×Bool×Int×List T
def qw0:LP 0 ro2_G:=.pair (.slot 0 0 dLT) (.pair (.slot 0 6 dI) (.pair (.slot 0 7 dBool) (.pair (.slot 0 8 dI) (.slot 0 5 dLT))))
def ro2_R (xs:List T) (k:Int) (z:Bool) (j:Int) (out:List T):Ex×ro2_G:=
 bif decide (j<(↑xs.length:Int)) then (Ex.normal,eT.lst xs.length (eT.els xs),k,!(!conj ([(xs.getD j.toNat eT.dflt).e==(xs.getD k.toNat eT.dflt).e]++([(xs.getD j.toNat eT.dflt).d==(xs.getD k.toNat eT.dflt).d]++([(xs.getD j.toNat eT.dflt).l0==(xs.getD k.toNat eT.dflt).l0]++([(xs.getD j.toNat eT.dflt).l1==(xs.getD k.toNat eT.dflt).l1]++([(xs.getD j.toNat eT.dflt).l2==(xs.getD k.toNat eT.dflt).l2]++([(xs.getD j.toNat eT.dflt).l3==(xs.getD k.toNat eT.dflt).l3]++[])))++[])))&&q2a (xs.getD j.toNat eT.dflt) (xs.getD k.toNat eT.dflt))&&z,IntKind.i64.wrap (j+(1:Int)),eT.lst out.length (eT.els out))
 else (Ex.exit (2:Nat),eT.lst xs.length (eT.els xs),k,z,j,eT.lst out.length (eT.els out))
def qhd (xs:List T) (k:Int) (z:Bool) (j:Int) (out:List T):Prop:=
 (decide (j<(↑xs.length:Int))=true→((0:Int)≤j∧j<(↑xs.length:Int))∧((0:Int)≤k∧k<(↑xs.length:Int))∧((!conj ([(xs.getD j.toNat eT.dflt).e==(xs.getD k.toNat eT.dflt).e]++([(xs.getD j.toNat eT.dflt).d==(xs.getD k.toNat eT.dflt).d]++([(xs.getD j.toNat eT.dflt).l0==(xs.getD k.toNat eT.dflt).l0]++([(xs.getD j.toNat eT.dflt).l1==(xs.getD k.toNat eT.dflt).l1]++([(xs.getD j.toNat eT.dflt).l2==(xs.getD k.toNat eT.dflt).l2]++([(xs.getD j.toNat eT.dflt).l3==(xs.getD k.toNat eT.dflt).l3]++[])))++[]))))=true→(0:Int)≤j∧j<(↑xs.length:Int))∧((!conj ([(xs.getD j.toNat eT.dflt).e==(xs.getD k.toNat eT.dflt).e]++([(xs.getD j.toNat eT.dflt).d==(xs.getD k.toNat eT.dflt).d]++([(xs.getD j.toNat eT.dflt).l0==(xs.getD k.toNat eT.dflt).l0]++([(xs.getD j.toNat eT.dflt).l1==(xs.getD k.toNat eT.dflt).l1]++([(xs.getD j.toNat eT.dflt).l2==(xs.getD k.toNat eT.dflt).l2]++([(xs.getD j.toNat eT.dflt).l3==(xs.getD k.toNat eT.dflt).l3]++[])))++[]))))=true→(0:Int)≤k∧k<(↑xs.length:Int))∧(∀ (e:Nat),e<xs.length→eT.Ok (eT.els xs e))∧∀ (e:Nat),e<out.length→eT.Ok (eT.els out e))∧(decide (j<(↑xs.length:Int))=false→(∀ (e:Nat),e<xs.length→eT.Ok (eT.els xs e))∧∀ (e:Nat),e<out.length→eT.Ok (eT.els out e))
theorem qzw:((q00 Tryz.prog 108).filter fun c=>Nat.beq (lkey c) 10).length=1:=by kernel_rfl
abbrev q3s:Type:=List T×Int×List T
abbrev qcc:Type:=Bool
def ro2_f (g:ro2_G):Int×q3s×qcc:=(g.2.2.2.1,(g.1,g.2.1,g.2.2.2.2),g.2.2.1)
def ro2_g (d:Int×q3s×qcc):ro2_G:=(d.2.1.1,d.2.1.2.1,d.2.2,d.1,d.2.1.2.2)
abbrev qen (g:ro2_G):Ex×ro2_G:=ro2_R g.1 g.2.1 g.2.2.1 g.2.2.2.1 g.2.2.2.2
abbrev qvx (g:ro2_G):Prop:=qhd g.1 g.2.1 g.2.2.1 g.2.2.2.1 g.2.2.2.2
theorem ro2_es (g:ro2_G):(qen g).1=.normal∨(qen g).1∈([.exit 2]:List Ex):=by
 unfold qen ro2_R
 repeat' (first | (left;rfl) | (right;simp only[cond_true,cond_false];simp;done) | (rw[Bool.cond_eq_ite];split))
abbrev ro2_C (Inv:ro2_G→List Prop) (m:ro2_G→Nat):LCon:=loopR [.exit 2] (loopBody Tryz.prog 108 10) qw0 [] 64 Inv qen m
theorem qth (Inv:ro2_G→List Prop) (m:ro2_G→Nat) (hs:∀ g,allP (Inv g)→qvx g) (hg:Goes qen m fun g=>allP (Inv g)):∀ b∈q00 Tryz.prog 108,lkey b=10→q02 Tryz.prog b (ro2_C Inv m).g:=q0g (Γ:=(PTab.gamz tabO [] [])) (Λ:=noΛ) (PTab.okz tabO [] []) q0o 100 108 10 64 qw0 [] Inv qen qvx m default [.exit 2] qzw (fun rd T B HL HB ds g=>by kernel_rfl) (fun rd T B HL HB ds g=>by kernel_rfl) hs hg ro2_es
end
end Go.Proofs.YthnojkbkojpadaaGreat

namespace Go.Proofs.YthnojkbkojpadaaGreat
noncomputable section
open Go.RowKit Go.Sx Go.Lp
def clash (u t:T):Bool:=decide (q19 u t≥(0:Int))||(q0k u t||q0k t u)
def ro2_S (c:q3s) (b:qcc) (i:Int) (v:T):Ex×qcc:=(.normal,!(!eqT v (c.1.getD c.2.1.toNat eT.dflt)&&q2a v (c.1.getD c.2.1.toNat eT.dflt))&&b)
def ro2_K (c:q3s) (b:qcc) (i:Int):Prop:=0≤c.2.1∧c.2.1<(c.1.length:Int)
abbrev ro2_I (g:ro2_G):List Prop:=ixI (fun c:q3s=>(c.1.length:Int)) (fun c:q3s=>c.1) ro2_K (ro2_f g)
abbrev ro2_M (g:ro2_G):Nat:=ixM (fun c:q3s=>(c.1.length:Int)) (ro2_f g)
theorem ro2_P:ixP ro2_S (fun c:q3s=>c.1) ro2_K:=fun _ _ _ _ h _ _=>h
abbrev qvy (g:ro2_G):Ex×ro2_G:=ro2_R g.1 g.2.1 g.2.2.1 g.2.2.2.1 g.2.2.2.2
theorem qvz (d:Int×q3s×qcc) (hi:allP (ixI (fun c:q3s=>(c.1.length:Int)) (fun c:q3s=>c.1) ro2_K d)):qvy (ro2_g d)=((ixF 2 (fun c:q3s=>(c.1.length:Int)) (fun c:q3s=>c.1) eT.dflt ro2_S d).1,ro2_g (ixF 2 (fun c:q3s=>(c.1.length:Int)) (fun c:q3s=>c.1) eT.dflt ro2_S d).2):=by
 obtain ⟨j,⟨xs,k,out⟩,z⟩:=d
 show ro2_R xs k z j out=_
 unfold ro2_R ixF ro2_S
 simp only[eT.lst_els,qdp]
 cases decide (j<(xs.length:Int)) with
 | false=>rfl
 | true=>rfl
theorem ro2_ok:∀ b∈q00 Tryz.prog 108,lkey b=10→q02 Tryz.prog b (ro2_C ro2_I ro2_M).g:=by
 refine qth ro2_I ro2_M (fun g hi=>?_) (q06 (fun _=>rfl) (fun _=>rfl) qvz ro2_P)
 obtain ⟨xs,k,z,j,out⟩:=g
 obtain ⟨h1,h2,h3,h4,h5⟩:=hi _ (List.mem_cons_self ..)
 have h1:(xs.length:Int)=(xs.length:Int):=h1
 have h3:0≤j:=h3
 have h5:0≤k∧k<(xs.length:Int):=h5
 show qhd xs k z j out
 unfold qhd
 simp only[decide_eq_true_eq,decide_eq_false_iff_not]
 have k0:∀ e:Nat,e<xs.length→eT.Ok (eT.els xs e):=fun e _=>eT.ok_els xs e
 have k1:∀ e:Nat,e<out.length→eT.Ok (eT.els out e):=fun e _=>eT.ok_els out e
 clear hi
 repeat' (first | exact k0 | exact k1 | apply And.intro | intro _)
 all_goals omega
theorem qzv (c:q3s) (b:qcc) (k1:(c.1.length:Int)=((c.1).length:Int)) (k2:(c.1).length≤maxLen) (k3:ro2_K c b 0):loopF qvy ro2_M (ro2_g (0,c,b))=((scan 2 (ro2_S c) 0 (c.1) b).1,ro2_g ((scan 2 (ro2_S c) 0 (c.1) b).2.1,c,(scan 2 (ro2_S c) 0 (c.1) b).2.2)):=q0a (φ:=ro2_f) (ψ:=ro2_g) (fun _=>rfl) (fun _=>rfl) qvz ro2_P c b k1 k2 k3
def ltD:LTab Tryz.prog:=(ltA.cons 108 10 (ro2_C ro2_I ro2_M) ro2_ok)
abbrev lamD:Lam:=ltD.lam
theorem z14:∀ f k L,lamD f k=some L→∀ b∈q00 Tryz.prog f,lkey b=k→q02 Tryz.prog b L.g:=ltD.ok
end
end Go.Proofs.YthnojkbkojpadaaGreat

namespace Go.Proofs.YthnojkbkojpadaaGreat
noncomputable section
open Go.RowKit Go.Sx
set_option linter.unusedVariables false
abbrev pt_G:Type:=List T×Unit×T×List T×Bool×Int
def pt_LP:LP 1 pt_G:=.pair (.slot 1 0 dLT) (.pair (.fix 1 3 (.p 0 0)) (.pair (.obj 1 0 47 eT) (.pair (.row 1 5 47 eT) (.pair (.slot 1 6 dBool) (.slot 1 7 dI)))))
def pt_R (xs:List T) (_u:Unit) (t:T) (out:List T) (z:Bool) (i:Int):Ex×pt_G:=
 bif decide (i<(↑xs.length:Int)) then bif !z&&decide (q68 t (xs.getD i.toNat eT.dflt)<(0:Int)) then (Ex.normal,eT.lst xs.length (eT.els xs),(),t,eT.lst (min (min (out.length+(1:Nat)+(1:Nat)) (out.length+(1:Nat))) out.length) (eT.els out)++List.map (fun x=>t) (List.range (min (out.length+(1:Nat)+(1:Nat)) (out.length+(1:Nat)) - out.length))++List.map (fun x=>xs.getD i.toNat eT.dflt) (List.range (out.length+(1:Nat)+(1:Nat) - (out.length+(1:Nat)))),true,IntKind.i64.wrap (i+(1:Int))) else (Ex.normal,eT.lst xs.length (eT.els xs),(),t,eT.lst (min (out.length+(1:Nat)) out.length) (eT.els out)++List.map (fun x=>xs.getD i.toNat eT.dflt) (List.range (out.length+(1:Nat) - out.length)),z,IntKind.i64.wrap (i+(1:Int)))
 else (Ex.exit (0:Nat),eT.lst xs.length (eT.els xs),(),t,eT.lst out.length (eT.els out),z,i)
def qlw (xs:List T) (_u:Unit) (t:T) (out:List T) (z:Bool) (i:Int):Prop:=
 (decide (i<(↑xs.length:Int))=true→((!z)=true→(0:Int)≤i∧i<(↑xs.length:Int))∧((!z&&decide (q68 t (xs.getD i.toNat eT.dflt)<(0:Int)))=true→(out.length≤out.length∧True∧out.length+(1:Nat)≤maxLen∧(out.length+(1:Nat)) * Tryz.prog.types[(47:Nat)].bytes≤(140737488355328:Nat))∧((0:Int)≤i∧i<(↑xs.length:Int))∧(out.length+(1:Nat)≤out.length+(1:Nat)∧True∧out.length+(1:Nat)+(1:Nat)≤maxLen∧(out.length+(1:Nat)+(1:Nat)) * Tryz.prog.types[(47:Nat)].bytes≤(140737488355328:Nat))∧(∀ (e:Nat),e<xs.length→eT.Ok (eT.els xs e))∧out.length+(1:Nat)+(1:Nat)≤out.length+(1:Nat)+(1:Nat)∧(∀ (e:Nat),e<min (min (out.length+(1:Nat)+(1:Nat)) (out.length+(1:Nat))) out.length→True)∧(∀ (e:Nat),e<min (out.length+(1:Nat)+(1:Nat)) (out.length+(1:Nat)) - out.length→True)∧∀ (e:Nat),e<out.length+(1:Nat)+(1:Nat) - (out.length+(1:Nat))→True)∧((!z&&decide (q68 t (xs.getD i.toNat eT.dflt)<(0:Int)))=false→((0:Int)≤i∧i<(↑xs.length:Int))∧(out.length≤out.length∧True∧out.length+(1:Nat)≤maxLen∧(out.length+(1:Nat)) * Tryz.prog.types[(47:Nat)].bytes≤(140737488355328:Nat))∧(∀ (e:Nat),e<xs.length→eT.Ok (eT.els xs e))∧out.length+(1:Nat)≤out.length+(1:Nat)∧(∀ (e:Nat),e<min (out.length+(1:Nat)) out.length→True)∧∀ (e:Nat),e<out.length+(1:Nat) - out.length→True))∧(decide (i<(↑xs.length:Int))=false→(∀ (e:Nat),e<xs.length→eT.Ok (eT.els xs e))∧out.length≤out.length∧∀ (e:Nat),e<out.length→True)
theorem pt_one:((q00 Tryz.prog 144).filter fun c=>Nat.beq (lkey c) 4).length=1:=by kernel_rfl
abbrev pt_GC:Type:=List T×T
abbrev pt_GB:Type:=Unit×List T×Bool
def pt_f (g:pt_G):Int×pt_GC×pt_GB:=(g.2.2.2.2.2,(g.1,g.2.2.1),(g.2.1,g.2.2.2.1,g.2.2.2.2.1))
def pt_g (d:Int×pt_GC×pt_GB):pt_G:=(d.2.1.1,d.2.2.1,d.2.1.2,d.2.2.2.1,d.2.2.2.2,d.1)
abbrev pt_rr (g:pt_G):Ex×pt_G:=pt_R g.1 g.2.1 g.2.2.1 g.2.2.2.1 g.2.2.2.2.1 g.2.2.2.2.2
abbrev pt_ss (g:pt_G):Prop:=qlw g.1 g.2.1 g.2.2.1 g.2.2.2.1 g.2.2.2.2.1 g.2.2.2.2.2
theorem pt_es (g:pt_G):(pt_rr g).1=.normal∨(pt_rr g).1∈([.exit 0]:List Ex):=by
 unfold pt_rr pt_R
 repeat' (first | (left;rfl) | (right;simp only[cond_true,cond_false];simp;done) | (rw[Bool.cond_eq_ite];split))
abbrev pt_C (Inv:pt_G→List Prop) (m:pt_G→Nat):LCon:=loopR [.exit 0] (loopBody Tryz.prog 144 4) pt_LP [] 43 Inv pt_rr m
theorem z0g (Inv:pt_G→List Prop) (m:pt_G→Nat) (hs:∀ g,allP (Inv g)→pt_ss g) (hg:Goes pt_rr m fun g=>allP (Inv g)):∀ b∈q00 Tryz.prog 144,lkey b=4→q02 Tryz.prog b (pt_C Inv m).g:=q0g (Γ:=(PTab.gamz tabO [] [])) (Λ:=lamD) (PTab.okz tabO [] []) z14 100 144 4 43 pt_LP [] Inv pt_rr pt_ss m default [.exit 0] pt_one (fun rd T B HL HB ds g=>by kernel_rfl) (fun rd T B HL HB ds g=>by kernel_rfl) hs hg pt_es
end
end Go.Proofs.YthnojkbkojpadaaGreat

namespace Go.Proofs.YthnojkbkojpadaaGreat
noncomputable section
open Go.RowKit Go.Sx Go.Lp
def ltE:LTab Tryz.prog:=ltD
end
end Go.Proofs.YthnojkbkojpadaaGreat

namespace Go.Proofs.YthnojkbkojpadaaGreat
noncomputable section
open Go.RowKit Go.Sx Go.Lp
def tabP:PTab Tryz.prog:=tabO
end
end Go.Proofs.YthnojkbkojpadaaGreat

namespace Go.Proofs.YthnojkbkojpadaaGreat
open Go.RowKit Go.Sx Go.Lp Go.Shelf
def qqp:Go.Shelf.Ren:=⟨fun | 6=>104 | 15=>138 | 14=>137 | 28=>172 | 29=>173 | 20=>164 | 21=>165 | 22=>166 | 23=>167 | 24=>168 | 25=>169 | 26=>170 | 27=>171 | 46=>201 | 47=>202 | 48=>203 | 49=>204 | 50=>205 | 57=>222 | n=>n,fun | 22=>51 | 24=>47 | 25=>160 | 3=>3 | 39=>188 | 0=>0 | 53=>218 | 55=>220 | 4=>4 | 46=>212 | 45=>211 | 50=>27 | 5=>5 | 9=>9 | 66=>237 | 70=>241 | 76=>259 | 77=>260 | n=>n,fun | n=>n⟩
theorem sortT:SlLaysF0.n6 Tryz.prog qqp:={
 mixed:=by kernel_rfl,
 f6:=⟨Tryz.f104.name,by decide,Tryz.func104.trans (congrArg some (by kernel_rfl))⟩,
 f14:=⟨Tryz.f137.name,by decide,Tryz.func137.trans (congrArg some (by kernel_rfl))⟩,
 f15:=Tryz.func138.trans (congrArg some (by kernel_rfl)),
 f20:=⟨Tryz.f164.name,by decide,Tryz.func164.trans (congrArg some (by kernel_rfl))⟩,
 f21:=⟨Tryz.f165.name,by decide,Tryz.func165.trans (congrArg some (by kernel_rfl))⟩,
 f22:=⟨Tryz.f166.name,by decide,Tryz.func166.trans (congrArg some (by kernel_rfl))⟩,
 f23:=⟨Tryz.f167.name,by decide,Tryz.func167.trans (congrArg some (by kernel_rfl))⟩,
 f24:=⟨Tryz.f168.name,by decide,Tryz.func168.trans (congrArg some (by kernel_rfl))⟩,
 f25:=⟨Tryz.f169.name,by decide,Tryz.func169.trans (congrArg some (by kernel_rfl))⟩,
 f26:=⟨Tryz.f170.name,by decide,Tryz.func170.trans (congrArg some (by kernel_rfl))⟩,
 f27:=⟨Tryz.f171.name,by decide,Tryz.func171.trans (congrArg some (by kernel_rfl))⟩,
 f28:=Tryz.func172.trans (congrArg some (by kernel_rfl)),
 f29:=Tryz.func173.trans (congrArg some (by kernel_rfl)),
 f46:=⟨Tryz.f201.name,by decide,Tryz.func201.trans (congrArg some (by kernel_rfl))⟩,
 f47:=Tryz.func202.trans (congrArg some (by kernel_rfl)),
 f48:=Tryz.func203.trans (congrArg some (by kernel_rfl)),
 f49:=⟨Tryz.f204.name,by decide,Tryz.func204.trans (congrArg some (by kernel_rfl))⟩,
 f50:=⟨Tryz.f205.name,by decide,Tryz.func205.trans (congrArg some (by kernel_rfl))⟩,
 f57:=⟨Tryz.f222.name,by decide,Tryz.func222.trans (congrArg some (by kernel_rfl))⟩,
 t0:=Tryz.underlying0,
 a0:=Tryz.isAgg0,
 z0:=Tryz.sizeOf0,
 v0:=Tryz.zeroValue0,
 t3:=Tryz.underlying3,
 a3:=Tryz.isAgg3,
 z3:=Tryz.sizeOf3,
 v3:=Tryz.zeroValue3,
 t4:=Tryz.underlying4,
 a4:=Tryz.isAgg4,
 z4:=Tryz.sizeOf4,
 v4:=Tryz.zeroValue4,
 t5:=Tryz.underlying5,
 a5:=Tryz.isAgg5,
 z5:=Tryz.sizeOf5,
 v5:=Tryz.zeroValue5,
 t9:=Tryz.underlying9,
 a9:=Tryz.isAgg9,
 z9:=Tryz.sizeOf9,
 v9:=Tryz.zeroValue9,
 t22:=Tryz.underlying51,
 a22:=Tryz.isAgg51,
 z22:=Tryz.sizeOf51,
 v22:=Tryz.zeroValue51,
 t25:=Tryz.underlying160,
 a25:=Tryz.isAgg160,
 z25:=Tryz.sizeOf160,
 v25:=Tryz.zeroValue160,
 t39:=Tryz.underlying188,
 a39:=Tryz.isAgg188,
 z39:=Tryz.sizeOf188,
 v39:=Tryz.zeroValue188,
 t45:=Tryz.underlying211,
 a45:=Tryz.isAgg211,
 z45:=Tryz.sizeOf211,
 v45:=Tryz.zeroValue211,
 t46:=Tryz.underlying212,
 a46:=Tryz.isAgg212,
 z46:=Tryz.sizeOf212,
 v46:=Tryz.zeroValue212,
 t50:=Tryz.underlying27,
 a50:=Tryz.isAgg27,
 z50:=Tryz.sizeOf27,
 v50:=Tryz.zeroValue27,
 t53:=Tryz.underlying218,
 a53:=Tryz.isAgg218,
 z53:=Tryz.sizeOf218,
 v53:=Tryz.zeroValue218,
 t55:=Tryz.underlying220,
 a55:=Tryz.isAgg220,
 z55:=Tryz.sizeOf220,
 v55:=Tryz.zeroValue220,
 t66:=Tryz.underlying237,
 a66:=Tryz.isAgg237,
 z66:=Tryz.sizeOf237,
 v66:=Tryz.zeroValue237,
 t70:=Tryz.underlying241,
 a70:=Tryz.isAgg241,
 z70:=Tryz.sizeOf241,
 v70:=Tryz.zeroValue241,
 t76:=Tryz.underlying259,
 a76:=Tryz.isAgg259,
 z76:=Tryz.sizeOf259,
 v76:=Tryz.zeroValue259,
 t77:=Tryz.underlying260,
 a77:=Tryz.isAgg260,
 z77:=Tryz.sizeOf260,
 v77:=Tryz.zeroValue260 }
abbrev qg9:Dv Unit:=.tup .none
abbrev qlf:DA Unit:=.one (dFn 105)
def qjw (xs:List T) (_:Unit):List Prop:=[xs.length<4611686018427387904]
theorem qt1:FnMut Tryz.prog 104 47 eT qlf (.pure qg9) (fun xs _=>(srtBy (fun a b=>q19 a b) xs,())) qjw:=by
 have h:=qh6 (P:=Tryz.prog) (A:=eT) (t:=47) (g:=105) (cf:=fun a b=>q19 a b) (pre:=fun _=>[]) sortT Tryz.isAgg47 Tryz.sizeOf47 (by decide) (Go.Proofs.enters_of Tryz.func105 (by kernel_rfl) rfl) toT.swo qqc
 intro w F L xs g v0 vs h1 h2 h3 h4 h5 h6 h7
 refine h w F L xs g v0 vs h1 h2 h3 h4 (fun p hp=>?_) h6 h7
 simp only[List.mem_cons,List.not_mem_nil,or_false] at hp
 rcases hp with rfl | rfl | rfl
 ·exact h5 _ (List.mem_cons_self ..)
 ·exact fun x _ y _ k1 k2=>toT.anti x y k1 k2
 ·exact fun x _ y _ p hp=>by cases hp
end Go.Proofs.YthnojkbkojpadaaGreat

namespace Go.Proofs.YthnojkbkojpadaaGreat
noncomputable section
open Go.RowKit Go.Sx
set_option linter.unusedVariables false
abbrev N2:Type:=Nat×Nat
abbrev cp2_G:Type:=Nat×List T×Int×N2×Int
def ql1:LP 1 cp2_G:=.pair (.owl 1 0 0) (.pair (.rowO 1 0 47 eT) (.pair (.slot 1 3 dI) (.pair (.seS 1 4 0 eT.sz) (.slot 1 5 dI))))
def cp2_R (l:Nat) (xs:List T) (k:Int) (q:N2) (j:Int):Ex×cp2_G:=
 bif decide (j<(↑q.snd:Int)) then (Ex.normal,l,bif !conj ([(xs.getD (q.fst+j.toNat) eT.dflt).e==(xs.getD (q.fst+(IntKind.i64.wrap (j - (1:Int))).toNat) eT.dflt).e]++([(xs.getD (q.fst+j.toNat) eT.dflt).d==(xs.getD (q.fst+(IntKind.i64.wrap (j - (1:Int))).toNat) eT.dflt).d]++([(xs.getD (q.fst+j.toNat) eT.dflt).l0==(xs.getD (q.fst+(IntKind.i64.wrap (j - (1:Int))).toNat) eT.dflt).l0]++([(xs.getD (q.fst+j.toNat) eT.dflt).l1==(xs.getD (q.fst+(IntKind.i64.wrap (j - (1:Int))).toNat) eT.dflt).l1]++([(xs.getD (q.fst+j.toNat) eT.dflt).l2==(xs.getD (q.fst+(IntKind.i64.wrap (j - (1:Int))).toNat) eT.dflt).l2]++([(xs.getD (q.fst+j.toNat) eT.dflt).l3==(xs.getD (q.fst+(IntKind.i64.wrap (j - (1:Int))).toNat) eT.dflt).l3]++[])))++[]))) then (eT.lst (bif !conj ([(xs.getD (q.fst+j.toNat) eT.dflt).e==(xs.getD (q.fst+(IntKind.i64.wrap (j - (1:Int))).toNat) eT.dflt).e]++([(xs.getD (q.fst+j.toNat) eT.dflt).d==(xs.getD (q.fst+(IntKind.i64.wrap (j - (1:Int))).toNat) eT.dflt).d]++([(xs.getD (q.fst+j.toNat) eT.dflt).l0==(xs.getD (q.fst+(IntKind.i64.wrap (j - (1:Int))).toNat) eT.dflt).l0]++([(xs.getD (q.fst+j.toNat) eT.dflt).l1==(xs.getD (q.fst+(IntKind.i64.wrap (j - (1:Int))).toNat) eT.dflt).l1]++([(xs.getD (q.fst+j.toNat) eT.dflt).l2==(xs.getD (q.fst+(IntKind.i64.wrap (j - (1:Int))).toNat) eT.dflt).l2]++([(xs.getD (q.fst+j.toNat) eT.dflt).l3==(xs.getD (q.fst+(IntKind.i64.wrap (j - (1:Int))).toNat) eT.dflt).l3]++[])))++[]))) then xs.length else xs.length) (eT.els xs)).set k.toNat (xs.getD (q.fst+j.toNat) eT.dflt) else eT.lst (bif !conj ([(xs.getD (q.fst+j.toNat) eT.dflt).e==(xs.getD (q.fst+(IntKind.i64.wrap (j - (1:Int))).toNat) eT.dflt).e]++([(xs.getD (q.fst+j.toNat) eT.dflt).d==(xs.getD (q.fst+(IntKind.i64.wrap (j - (1:Int))).toNat) eT.dflt).d]++([(xs.getD (q.fst+j.toNat) eT.dflt).l0==(xs.getD (q.fst+(IntKind.i64.wrap (j - (1:Int))).toNat) eT.dflt).l0]++([(xs.getD (q.fst+j.toNat) eT.dflt).l1==(xs.getD (q.fst+(IntKind.i64.wrap (j - (1:Int))).toNat) eT.dflt).l1]++([(xs.getD (q.fst+j.toNat) eT.dflt).l2==(xs.getD (q.fst+(IntKind.i64.wrap (j - (1:Int))).toNat) eT.dflt).l2]++([(xs.getD (q.fst+j.toNat) eT.dflt).l3==(xs.getD (q.fst+(IntKind.i64.wrap (j - (1:Int))).toNat) eT.dflt).l3]++[])))++[]))) then xs.length else xs.length) (eT.els xs),bif !conj ([(xs.getD (q.fst+j.toNat) eT.dflt).e==(xs.getD (q.fst+(IntKind.i64.wrap (j - (1:Int))).toNat) eT.dflt).e]++([(xs.getD (q.fst+j.toNat) eT.dflt).d==(xs.getD (q.fst+(IntKind.i64.wrap (j - (1:Int))).toNat) eT.dflt).d]++([(xs.getD (q.fst+j.toNat) eT.dflt).l0==(xs.getD (q.fst+(IntKind.i64.wrap (j - (1:Int))).toNat) eT.dflt).l0]++([(xs.getD (q.fst+j.toNat) eT.dflt).l1==(xs.getD (q.fst+(IntKind.i64.wrap (j - (1:Int))).toNat) eT.dflt).l1]++([(xs.getD (q.fst+j.toNat) eT.dflt).l2==(xs.getD (q.fst+(IntKind.i64.wrap (j - (1:Int))).toNat) eT.dflt).l2]++([(xs.getD (q.fst+j.toNat) eT.dflt).l3==(xs.getD (q.fst+(IntKind.i64.wrap (j - (1:Int))).toNat) eT.dflt).l3]++[])))++[]))) then IntKind.i64.wrap (k+(1:Int)) else k,q,IntKind.i64.wrap (j+(1:Int)))
 else (Ex.exit (2:Nat),l,eT.lst xs.length (eT.els xs),k,q,j)
def q4r (l:Nat) (xs:List T) (k:Int) (q:N2) (j:Int):Prop:=
 (decide (j<(↑q.snd:Int))=true→((0:Int)≤j∧j<(↑q.snd:Int))∧q.fst+j.toNat<xs.length∧((0:Int)≤IntKind.i64.wrap (j - (1:Int))∧IntKind.i64.wrap (j - (1:Int))<(↑q.snd:Int))∧q.fst+(IntKind.i64.wrap (j - (1:Int))).toNat<xs.length∧((!conj ([(xs.getD (q.fst+j.toNat) eT.dflt).e==(xs.getD (q.fst+(IntKind.i64.wrap (j - (1:Int))).toNat) eT.dflt).e]++([(xs.getD (q.fst+j.toNat) eT.dflt).d==(xs.getD (q.fst+(IntKind.i64.wrap (j - (1:Int))).toNat) eT.dflt).d]++([(xs.getD (q.fst+j.toNat) eT.dflt).l0==(xs.getD (q.fst+(IntKind.i64.wrap (j - (1:Int))).toNat) eT.dflt).l0]++([(xs.getD (q.fst+j.toNat) eT.dflt).l1==(xs.getD (q.fst+(IntKind.i64.wrap (j - (1:Int))).toNat) eT.dflt).l1]++([(xs.getD (q.fst+j.toNat) eT.dflt).l2==(xs.getD (q.fst+(IntKind.i64.wrap (j - (1:Int))).toNat) eT.dflt).l2]++([(xs.getD (q.fst+j.toNat) eT.dflt).l3==(xs.getD (q.fst+(IntKind.i64.wrap (j - (1:Int))).toNat) eT.dflt).l3]++[])))++[]))))=true→(0:Int)≤j∧j<(↑q.snd:Int))∧((!conj ([(xs.getD (q.fst+j.toNat) eT.dflt).e==(xs.getD (q.fst+(IntKind.i64.wrap (j - (1:Int))).toNat) eT.dflt).e]++([(xs.getD (q.fst+j.toNat) eT.dflt).d==(xs.getD (q.fst+(IntKind.i64.wrap (j - (1:Int))).toNat) eT.dflt).d]++([(xs.getD (q.fst+j.toNat) eT.dflt).l0==(xs.getD (q.fst+(IntKind.i64.wrap (j - (1:Int))).toNat) eT.dflt).l0]++([(xs.getD (q.fst+j.toNat) eT.dflt).l1==(xs.getD (q.fst+(IntKind.i64.wrap (j - (1:Int))).toNat) eT.dflt).l1]++([(xs.getD (q.fst+j.toNat) eT.dflt).l2==(xs.getD (q.fst+(IntKind.i64.wrap (j - (1:Int))).toNat) eT.dflt).l2]++([(xs.getD (q.fst+j.toNat) eT.dflt).l3==(xs.getD (q.fst+(IntKind.i64.wrap (j - (1:Int))).toNat) eT.dflt).l3]++[])))++[]))))=true→q.fst+j.toNat<xs.length)∧((!conj ([(xs.getD (q.fst+j.toNat) eT.dflt).e==(xs.getD (q.fst+(IntKind.i64.wrap (j - (1:Int))).toNat) eT.dflt).e]++([(xs.getD (q.fst+j.toNat) eT.dflt).d==(xs.getD (q.fst+(IntKind.i64.wrap (j - (1:Int))).toNat) eT.dflt).d]++([(xs.getD (q.fst+j.toNat) eT.dflt).l0==(xs.getD (q.fst+(IntKind.i64.wrap (j - (1:Int))).toNat) eT.dflt).l0]++([(xs.getD (q.fst+j.toNat) eT.dflt).l1==(xs.getD (q.fst+(IntKind.i64.wrap (j - (1:Int))).toNat) eT.dflt).l1]++([(xs.getD (q.fst+j.toNat) eT.dflt).l2==(xs.getD (q.fst+(IntKind.i64.wrap (j - (1:Int))).toNat) eT.dflt).l2]++([(xs.getD (q.fst+j.toNat) eT.dflt).l3==(xs.getD (q.fst+(IntKind.i64.wrap (j - (1:Int))).toNat) eT.dflt).l3]++[])))++[]))))=true→(0:Int)≤k∧k<(↑l:Int))∧((!conj ([(xs.getD (q.fst+j.toNat) eT.dflt).e==(xs.getD (q.fst+(IntKind.i64.wrap (j - (1:Int))).toNat) eT.dflt).e]++([(xs.getD (q.fst+j.toNat) eT.dflt).d==(xs.getD (q.fst+(IntKind.i64.wrap (j - (1:Int))).toNat) eT.dflt).d]++([(xs.getD (q.fst+j.toNat) eT.dflt).l0==(xs.getD (q.fst+(IntKind.i64.wrap (j - (1:Int))).toNat) eT.dflt).l0]++([(xs.getD (q.fst+j.toNat) eT.dflt).l1==(xs.getD (q.fst+(IntKind.i64.wrap (j - (1:Int))).toNat) eT.dflt).l1]++([(xs.getD (q.fst+j.toNat) eT.dflt).l2==(xs.getD (q.fst+(IntKind.i64.wrap (j - (1:Int))).toNat) eT.dflt).l2]++([(xs.getD (q.fst+j.toNat) eT.dflt).l3==(xs.getD (q.fst+(IntKind.i64.wrap (j - (1:Int))).toNat) eT.dflt).l3]++[])))++[]))))=true→k.toNat<xs.length)∧True∧(∀ (e:Nat),(e<bif !conj ([(xs.getD (q.fst+j.toNat) eT.dflt).e==(xs.getD (q.fst+(IntKind.i64.wrap (j - (1:Int))).toNat) eT.dflt).e]++([(xs.getD (q.fst+j.toNat) eT.dflt).d==(xs.getD (q.fst+(IntKind.i64.wrap (j - (1:Int))).toNat) eT.dflt).d]++([(xs.getD (q.fst+j.toNat) eT.dflt).l0==(xs.getD (q.fst+(IntKind.i64.wrap (j - (1:Int))).toNat) eT.dflt).l0]++([(xs.getD (q.fst+j.toNat) eT.dflt).l1==(xs.getD (q.fst+(IntKind.i64.wrap (j - (1:Int))).toNat) eT.dflt).l1]++([(xs.getD (q.fst+j.toNat) eT.dflt).l2==(xs.getD (q.fst+(IntKind.i64.wrap (j - (1:Int))).toNat) eT.dflt).l2]++([(xs.getD (q.fst+j.toNat) eT.dflt).l3==(xs.getD (q.fst+(IntKind.i64.wrap (j - (1:Int))).toNat) eT.dflt).l3]++[])))++[]))) then xs.length else xs.length)→True)∧∀ (e:Nat),(e<bif !conj ([(xs.getD (q.fst+j.toNat) eT.dflt).e==(xs.getD (q.fst+(IntKind.i64.wrap (j - (1:Int))).toNat) eT.dflt).e]++([(xs.getD (q.fst+j.toNat) eT.dflt).d==(xs.getD (q.fst+(IntKind.i64.wrap (j - (1:Int))).toNat) eT.dflt).d]++([(xs.getD (q.fst+j.toNat) eT.dflt).l0==(xs.getD (q.fst+(IntKind.i64.wrap (j - (1:Int))).toNat) eT.dflt).l0]++([(xs.getD (q.fst+j.toNat) eT.dflt).l1==(xs.getD (q.fst+(IntKind.i64.wrap (j - (1:Int))).toNat) eT.dflt).l1]++([(xs.getD (q.fst+j.toNat) eT.dflt).l2==(xs.getD (q.fst+(IntKind.i64.wrap (j - (1:Int))).toNat) eT.dflt).l2]++([(xs.getD (q.fst+j.toNat) eT.dflt).l3==(xs.getD (q.fst+(IntKind.i64.wrap (j - (1:Int))).toNat) eT.dflt).l3]++[])))++[]))) then xs.length else xs.length)→True)∧(decide (j<(↑q.snd:Int))=false→∀ (e:Nat),e<xs.length→True)
theorem qn5:((q00 Tryz.prog 106).filter fun c=>Nat.beq (lkey c) 9).length=1:=by kernel_rfl
theorem qsh (g:cp2_G):(cp2_R g.1 g.2.1 g.2.2.1 g.2.2.2.1 g.2.2.2.2).1=.normal∨(cp2_R g.1 g.2.1 g.2.2.1 g.2.2.2.1 g.2.2.2.2).1∈([.exit 2]:List Ex):=by
 unfold cp2_R
 repeat' (first | (left;rfl) | (right;simp only[cond_true,cond_false];simp;done) | (rw[Bool.cond_eq_ite];split))
abbrev cp2_C (Inv:cp2_G→List Prop) (m:cp2_G→Nat):LCon:=loopR [.exit 2] (loopBody Tryz.prog 106 9) ql1 [] 61 Inv (fun g=>cp2_R g.1 g.2.1 g.2.2.1 g.2.2.2.1 g.2.2.2.2) m
theorem qj0 (Inv:cp2_G→List Prop) (m:cp2_G→Nat) (hs:∀ g,allP (Inv g)→q4r g.1 g.2.1 g.2.2.1 g.2.2.2.1 g.2.2.2.2) (hg:Goes (fun g:cp2_G=>cp2_R g.1 g.2.1 g.2.2.1 g.2.2.2.1 g.2.2.2.2) m fun g=>allP (Inv g)):∀ b∈q00 Tryz.prog 106,lkey b=9→q02 Tryz.prog b (cp2_C Inv m).g:=q0g (Γ:=(MTab.gamz (MTab.of tabP) [] [])) (Λ:=noΛ) (MTab.okz (MTab.of tabP) [] []) q0o 100 106 9 61 ql1 [] Inv (fun g=>cp2_R g.1 g.2.1 g.2.2.1 g.2.2.2.1 g.2.2.2.2) (fun g=>q4r g.1 g.2.1 g.2.2.1 g.2.2.2.1 g.2.2.2.2) m default [.exit 2] qn5 (fun rd T B HL HB ds g=>by kernel_rfl) (fun rd T B HL HB ds g=>by kernel_rfl) hs hg qsh
end
end Go.Proofs.YthnojkbkojpadaaGreat

namespace Go.Proofs.YthnojkbkojpadaaGreat
noncomputable section
open Go.RowKit Go.Sx Go.Lp
theorem ql0 (g:cp2_G):cp2_R g.1 g.2.1 g.2.2.1 g.2.2.2.1 g.2.2.2.2=cpF eT.dflt g:=by
 obtain ⟨l,xs,k,q,j⟩:=g
 show cp2_R l xs k q j=cpF eT.dflt (l,xs,k,q,j)
 unfold cp2_R cpF
 simp only[qdp,eqT,Bool.cond_self,eT.lst_els]
theorem qkz:∀ b∈q00 Tryz.prog 106,lkey b=9→q02 Tryz.prog b (cp2_C cpI cpM).g:=by
 refine qj0 cpI cpM (fun g hi=>?_) ?_
 ·obtain ⟨l,xs,k,⟨o,n⟩,j⟩:=g
  obtain ⟨h1,h2,h3,h4,h5,h6,h7⟩:=hi _ (List.mem_cons_self ..)
  simp only at h1 h2 h3 h4 h5 h6 h7
  unfold maxLen at h2
  show q4r l xs k (o,n) j
  unfold q4r
  simp only[qdp]
  generalize (!eqT _ _)=c
  refine ⟨fun hc=>?_,fun _ _ _=>trivial⟩
  have hc:j<(n:Int):=of_decide_eq_true hc
  have w1:IntKind.i64.wrap (j - 1)=j - 1:=Lp.wr (by omega)
  rw[w1]
  refine ⟨by omega,by omega,by omega,by omega,fun _=>by omega,fun _=>by omega,fun _=>by omega,fun _=>by omega,trivial,fun _ _=>trivial,fun _ _=>trivial⟩
 ·have e:(fun g:cp2_G=>cp2_R g.1 g.2.1 g.2.2.1 g.2.2.2.1 g.2.2.2.2)=cpF eT.dflt:=funext ql0
  rw[e]
  exact qn4 _
def ltF:LTab Tryz.prog:=LTab.nil.cons 106 9 (cp2_C cpI cpM) qkz
abbrev lamF:Lam:=ltF.lam
theorem z0z:∀ f k L,lamF f k=some L→∀ b∈q00 Tryz.prog f,lkey b=k→q02 Tryz.prog b L.g:=ltF.ok
end
end Go.Proofs.YthnojkbkojpadaaGreat
