/- Summaries: Least; the document's insert. Printed by treegen.py. -/
import Derived.Test.YthnojkbkojpadaaGreatZG10fba99f
import Derived.Test.YthnojkbkojpadaaGreatZG0800afda
import Derived.Test.YthnojkbkojpadaaGreatZG0687ac95
set_option maxRecDepth 100000
set_option linter.unusedVariables false
set_option linter.unusedSimpArgs false
set_option linter.constructorNameAsVariable false
set_option linter.all false

namespace Go.Proofs.YthnojkbkojpadaaGreat.Su
noncomputable section
open Go.RowKit Go.Sx
set_option linter.unusedVariables false
abbrev aL1:DA (List S):=.one dLS
abbrev aLS1:DA (List S×S):=.cons dLS (.one dS)
abbrev rL:Rv (List S):=.list eS
abbrev rLE:Rv (List S×Int):=.tup (.cons (.list eS) (.one (.of dI)))
def q1k (xs:List S) (s:S):Ex ×
 rin_G:=
 loopF (fun g=>rin_R g.fst g.snd.fst g.snd.snd.fst g.snd.snd.snd.fst g.snd.snd.snd.snd.fst g.snd.snd.snd.snd.snd) Lp.isM (eS.ag xs,(),s,[],false,(0:Int))
def qr4 (xs:List S) (s:S):Rv.T rL:=
 bif !(q1k xs s).snd.snd.snd.snd.snd.fst then eS.lst (min ((q1k xs s).snd.snd.snd.snd.fst.length+(1:Nat)) (q1k xs s).snd.snd.snd.snd.fst.length) (eS.els (q1k xs s).snd.snd.snd.snd.fst)++List.map (fun x=>(q1k xs s).snd.snd.snd.fst) (List.range ((q1k xs s).snd.snd.snd.snd.fst.length+(1:Nat) - (q1k xs s).snd.snd.snd.snd.fst.length))
 else eS.ag (q1k xs s).snd.snd.snd.snd.fst
def q8o (xs:List S) (s:S):Prop:=
 eS.okL xs∧((eS.ag xs).length≤KS∧(0:Int)≤(0:Int)∧(0:Int)≤(↑(eS.ag xs).length:Int)∧(↑(0:Nat):Int)≤(0:Int)+bif false then (1:Int) else (0:Int))∧((!(q1k xs s).snd.snd.snd.snd.snd.fst)=true→((q1k xs s).snd.snd.snd.snd.fst.length≤(q1k xs s).snd.snd.snd.snd.fst.length∧True∧(q1k xs s).snd.snd.snd.snd.fst.length+(1:Nat)≤maxLen∧((q1k xs s).snd.snd.snd.snd.fst.length+(1:Nat)) * Tryz.prog.types[(42:Nat)].bytes≤(140737488355328:Nat))∧(q1k xs s).snd.snd.snd.snd.fst.length+(1:Nat)≤(q1k xs s).snd.snd.snd.snd.fst.length+(1:Nat)∧(∀ (e:Nat),e<min ((q1k xs s).snd.snd.snd.snd.fst.length+(1:Nat)) (q1k xs s).snd.snd.snd.snd.fst.length→True)∧∀ (e:Nat),e<(q1k xs s).snd.snd.snd.snd.fst.length+(1:Nat) - (q1k xs s).snd.snd.snd.snd.fst.length→True)∧((!(q1k xs s).snd.snd.snd.snd.snd.fst)=false→(q1k xs s).snd.snd.snd.snd.fst.length≤(q1k xs s).snd.snd.snd.snd.fst.length∧∀ (e:Nat),e<(q1k xs s).snd.snd.snd.snd.fst.length→True)
theorem qtn (pre:DA.T aLS1→List Prop) (h:∀ g,DA.bd aLS1 g→(∀ p∈pre g,p)→q8o g.1 g.2):q04 Tryz.prog 163 aLS1 (Rv.D rL) (fun g=>qr4 g.1 g.2) pre:=q1a (R:=rL) (Γ:=(MTab.gamz tab26 [] [])) (Λ:=lam27) (MTab.okz tab26 [] []) qoe 100 default (fun g=>q8o g.1 g.2) (fun g=>by kernel_rfl) (fun g=>by kernel_rfl) h
def q2m (xs:List S):Ex ×
 la_G:=
 loopF (fun g=>la_R g.fst g.snd.fst g.snd.snd.fst g.snd.snd.snd.fst g.snd.snd.snd.snd) Lp.erM (eS.ag xs,(↑xs.length:Int),(0:Int),(),(0:Int))
def q1m (xs:List S):Ex ×
 lb_G:=
 loopF (fun g=>lb_R g.fst g.snd.fst g.snd.snd.fst g.snd.snd.snd.fst g.snd.snd.snd.snd.fst g.snd.snd.snd.snd.snd.fst g.snd.snd.snd.snd.snd.snd) Lp.flM (eS.ag xs,[],eS.ag xs,(↑xs.length:Int),(0:Int),(),(q2m xs).snd.snd.snd.snd.snd)
def qm6 (xs:List S):Rv.T rLE:=
 bif exB Ex.ret (q2m xs).fst then ([],(q2m xs).snd.snd.snd.snd.snd)
 else bif exB Ex.ret (q1m xs).fst then ([],(q1m xs).snd.snd.snd.snd.snd.snd.snd) else (eS.ag (Lp.compL (eS.ag (srtBy (fun a b=>q1g a b) (eS.ag (q1m xs).snd.snd.fst)))),(0:Int))
def q7d (xs:List S):Prop:=
 eS.okL xs∧((↑xs.length:Int)=(↑(eS.ag xs).length:Int)∧(eS.ag xs).length≤maxLen∧(0:Int)≤(0:Int)∧(0:Int)≤(↑(eS.ag xs).length:Int))∧(exB Ex.ret (q2m xs).fst=false→eS.okL xs∧eS.okL xs∧((↑xs.length:Int)=(↑(eS.ag xs).length:Int)∧eS.ag xs=eS.ag xs∧(eS.ag xs).length≤maxLen∧(0:Int)≤(0:Int)∧(0:Int)≤(↑(eS.ag xs).length:Int)∧okLen KS (eS.ag xs) [] (0:Nat))∧(exB Ex.ret (q1m xs).fst=false→(q1m xs).snd.snd.fst.length=(q1m xs).snd.snd.fst.length∧(∀ (e:Nat),e<(q1m xs).snd.snd.fst.length→True)∧(eS.ag (q1m xs).snd.snd.fst).length<(4611686018427387904:Nat)∧(q1m xs).snd.snd.fst.length=(srtBy (fun a b=>q1g a b) (eS.ag (q1m xs).snd.snd.fst)).length∧(∀ (e:Nat),e<(srtBy (fun a b=>q1g a b) (eS.ag (q1m xs).snd.snd.fst)).length→True)∧(Lp.compL (eS.ag (srtBy (fun a b=>q1g a b) (eS.ag (q1m xs).snd.snd.fst)))).length≤(Lp.compL (eS.ag (srtBy (fun a b=>q1g a b) (eS.ag (q1m xs).snd.snd.fst)))).length∧∀ (e:Nat),e<(Lp.compL (eS.ag (srtBy (fun a b=>q1g a b) (eS.ag (q1m xs).snd.snd.fst)))).length→True))
theorem qrl (pre:DA.T aL1→List Prop) (h:∀ g,DA.bd aL1 g→(∀ p∈pre g,p)→q7d g):q04 Tryz.prog 124 aL1 (Rv.D rLE) (fun g=>qm6 g) pre:=q1a (R:=rLE) (Γ:=(MTab.gamz tab26 [] [])) (Λ:=lam27) (MTab.okz tab26 [] []) qoe 100 default (fun g=>q7d g) (fun g=>by kernel_rfl) (fun g=>by kernel_rfl) h
end
end Go.Proofs.YthnojkbkojpadaaGreat.Su

namespace Go.Proofs.YthnojkbkojpadaaGreat.Su
noncomputable section
open Go.RowKit Go.Sx
set_option linter.unusedVariables false
abbrev ran_G:Type:=List S×Int×Int×Bool
def qwe:LP 0 ran_G:=.pair (.slot 0 0 dLS) (.pair (.slot 0 6 dI) (.pair (.slot 0 8 dI) (.slot 0 7 dBool)))
def ran_R (xs:List S) (j:Int) (i:Int) (b:Bool):Ex×ran_G:=
 bif decide (i<(↑xs.length:Int)) then (Ex.normal,eS.ag xs,j,IntKind.i64.wrap (i+(1:Int)),!q33 (xs.getD i.toNat eS.dflt) (xs.getD j.toNat eS.dflt)&&b)
 else (Ex.exit (4:Nat),eS.ag xs,j,i,b)
def qav (xs:List S) (j:Int) (i:Int) (b:Bool):Prop:=
 (decide (i<(↑xs.length:Int))=true→((0:Int)≤i∧i<(↑xs.length:Int))∧((0:Int)≤j∧j<(↑xs.length:Int))∧eS.okL xs)∧(decide (i<(↑xs.length:Int))=false→eS.okL xs)
theorem z0a:((q00 Tryz.prog 134).filter fun c=>Nat.beq (lkey c) 14).length=1:=by kernel_rfl
theorem ran_es (g:ran_G):(ran_R g.1 g.2.1 g.2.2.1 g.2.2.2).1=.normal∨(ran_R g.1 g.2.1 g.2.2.1 g.2.2.2).1∈([.exit 4]:List Ex):=by
 unfold ran_R
 repeat' (first | (left;rfl) | (right;simp only[cond_true,cond_false];simp;done) | (rw[Bool.cond_eq_ite];split))
abbrev ran_C (Inv:ran_G→List Prop) (m:ran_G→Nat):LCon:=loopR [.exit 4] (loopBody Tryz.prog 134 14) qwe [] 83 Inv (fun g=>ran_R g.1 g.2.1 g.2.2.1 g.2.2.2) m
theorem qtq (Inv:ran_G→List Prop) (m:ran_G→Nat) (hs:∀ g,allP (Inv g)→qav g.1 g.2.1 g.2.2.1 g.2.2.2) (hg:Goes (fun g:ran_G=>ran_R g.1 g.2.1 g.2.2.1 g.2.2.2) m fun g=>allP (Inv g)):∀ b∈q00 Tryz.prog 134,lkey b=14→q02 Tryz.prog b (ran_C Inv m).g:=q0g (Γ:=(MTab.gamz tab26 [] [])) (Λ:=noΛ) (MTab.okz tab26 [] []) q0o 100 134 14 83 qwe [] Inv (fun g=>ran_R g.1 g.2.1 g.2.2.1 g.2.2.2) (fun g=>qav g.1 g.2.1 g.2.2.1 g.2.2.2) m default [.exit 4] z0a (fun rd T B HL HB ds g=>by kernel_rfl) (fun rd T B HL HB ds g=>by kernel_rfl) hs hg ran_es
end
end Go.Proofs.YthnojkbkojpadaaGreat.Su

namespace Go.Proofs.YthnojkbkojpadaaGreat.Su
noncomputable section
open Go.RowKit Go.Sx Go.Lp
abbrev cR (a b:S):Int:=q1j a b
theorem qr6:(fun g:rin_G=>rin_R g.1 g.2.1 g.2.2.1 g.2.2.2.1 g.2.2.2.2.1 g.2.2.2.2.2)=isF 0 eS.dflt cR:=funext qwa
theorem qr5 (xs:List S) (s:S) (h:xs.length≤KS):allP (isI KS ((xs,(),s,[],false,0):IsG S)):=fun q hq=>by
 simp only[isI,List.mem_singleton] at hq
 subst hq
 exact ⟨h,Int.le_refl _,by show (0:Int)≤(xs.length:Int);omega,by simp⟩
theorem qto:q04 Tryz.prog 163 aLS1 dLS (fun g=>insU cR g.2 g.1) (fun g=>[g.1.length≤KS]):=by
 have hK:KS≤9223372036854775807:=by unfold KS;omega
 have h:=qtn (fun g=>[g.1.length≤KS]) fun g _ hp=>by
  obtain ⟨xs,s⟩:=g
  have hl:xs.length≤KS:=hp _ (List.mem_cons_self ..)
  have hI:=qr5 xs s hl
  have hr:=is_run 0 eS.dflt cR hK _ hI
  show q8o xs s
  unfold q8o q1k
  simp only[El.lst_els,El.ag_eq,El.okL_eq,qr6,qsq]
  generalize loopF (isF 0 eS.dflt cR) isM (xs,(),s,[],false,0)=r at hr ⊢
  obtain ⟨_,_,_,_,h5⟩:=hr
  simp only at h5
  unfold KS at hl
  have ha:=q2r xs
  have hI:=hI _ (List.mem_cons_self ..)
  refine ⟨trivial,hI,fun _=>⟨⟨Nat.le_refl _,trivial,by unfold maxLen;omega,by omega⟩,Nat.le_refl _,fun _ _=>trivial,fun _ _=>trivial⟩,fun _=>⟨Nat.le_refl _,fun _ _=>trivial⟩⟩
 refine q0b h fun g _ hp=>?_
 obtain ⟨xs,s⟩:=g
 have hl:xs.length≤KS:=hp _ (List.mem_cons_self ..)
 have hr:=is_run 0 eS.dflt cR hK _ (qr5 xs s hl)
 show qr4 xs s=insU cR s xs
 unfold qr4 q1k
 simp only[El.lst_els,El.ag_eq,El.okL_eq,qr6]
 generalize loopF (isF 0 eS.dflt cR) isM (xs,(),s,[],false,0)=r at hr ⊢
 obtain ⟨_,_,h3,h4,_⟩:=hr
 simp only[List.nil_append,qfd] at h3 h4
 have e0:(0:Int).toNat=0:=rfl
 rw[e0,List.drop_zero] at h4
 rw[← h4,app1,h3]
 cases r.2.2.2.2.2.1 <;> simp
abbrev undS (xs:List S) (j:Int) (y:S):Bool:=q33 y (xs.getD j.toNat eS.dflt)
theorem qwd (g:ran_G):ran_R g.1 g.2.1 g.2.2.1 g.2.2.2=anF 4 eS.dflt undS g:=by
 obtain ⟨xs,j,i,b⟩:=g
 show ran_R xs j i b=anF 4 eS.dflt undS (xs,j,i,b)
 unfold ran_R anF
 simp only[El.lst_els,El.ag_eq,El.okL_eq]
 simp only[undS]
 generalize q33 (xs.getD i.toNat eS.dflt) (xs.getD j.toNat eS.dflt)=c
 cases c <;> rfl
abbrev okJ (xs:List S) (j:Int):Prop:=0≤j∧j<(xs.length:Int)
theorem ran_ok:∀ b∈q00 Tryz.prog 134,lkey b=14→q02 Tryz.prog b (ran_C (anI okJ) anM).g:=by
 refine qtq (anI okJ) anM (fun g hi=>?_) ?_
 ·obtain ⟨xs,j,i,b⟩:=g
  obtain ⟨h2,h3,h4,h5⟩:=hi _ (List.mem_cons_self ..)
  simp only at h2 h3 h4 h5
  show qav xs j i b
  unfold qav
  simp only[El.okL_eq,El.ag_eq]
  refine ⟨fun hc=>?_,fun _=>trivial⟩
  have hc:i<(xs.length:Int):=of_decide_eq_true hc
  exact ⟨⟨h3,hc⟩,h5,trivial⟩
 ·rw[show (fun g:ran_G=>ran_R g.1 g.2.1 g.2.2.1 g.2.2.2)=anF 4 eS.dflt undS from funext qwd]
  exact an_goes _ _ _ _
def lt28:LTab Tryz.prog:=((LTab.nil.cons 134 2 (rla_C er2I er2M) qw7).cons 134 14 (ran_C (anI okJ) anM) ran_ok)
abbrev lam28:Lam:=lt28.lam
theorem qtz:∀ f k L,lam28 f k=some L→∀ b∈q00 Tryz.prog f,lkey b=k→q02 Tryz.prog b L.g:=lt28.ok
def qni:PTab Tryz.prog:=qvj.cons 163 (pconR aLS1 dLS (fun g=>insU cR g.2 g.1) (fun g=>[g.1.length≤KS])) (q1v qto)
end
end Go.Proofs.YthnojkbkojpadaaGreat.Su

namespace Go.Proofs.YthnojkbkojpadaaGreat.Su
noncomputable section
open Go.RowKit Go.Sx
set_option linter.unusedVariables false
def q28 (xs:List S) (out:List S) (i:Int) (_u:Unit) (e:Int):Ex ×
 ran_G:=
 loopF (fun g=>ran_R g.fst g.snd.fst g.snd.snd.fst g.snd.snd.snd) Lp.anM (eS.ag xs,i,(0:Int),true)
abbrev rlb_G:Type:=List S×List S×Int×Unit×Int
def qw6:LP 0 rlb_G:=.pair (.slot 0 0 dLS) (.pair (.slot 0 5 dLS) (.pair (.slot 0 6 dI) (.pair (.fix 0 2 (.k (.slice none 0 0))) (.slot 0 3 dI))))
def rlb_R (xs:List S) (out:List S) (i:Int) (_u:Unit) (e:Int):Ex×rlb_G:=
 bif decide (i<(↑xs.length:Int)) then bif (xs.getD i.toNat eS.dflt).f != (xs.getD (0:Nat) eS.dflt).f||IntKind.i64.wrap ((xs.getD i.toNat eS.dflt).k+(xs.getD i.toNat eS.dflt).n) != IntKind.i64.wrap ((xs.getD (0:Nat) eS.dflt).k+(xs.getD (0:Nat) eS.dflt).n) then (Ex.ret,eS.ag xs,eS.ag out,i,(),(11:Int)) else (Ex.normal,eS.ag (q28 xs out i _u e).snd.fst,eS.lst (bif (q28 xs out i _u e).snd.snd.snd.snd then (Lp.insU cR ((q28 xs out i _u e).snd.fst.getD (q28 xs out i _u e).snd.snd.fst.toNat eS.dflt) (eS.ag out)).length else out.length) (bif (q28 xs out i _u e).snd.snd.snd.snd then eS.els (Lp.insU cR ((q28 xs out i _u e).snd.fst.getD (q28 xs out i _u e).snd.snd.fst.toNat eS.dflt) (eS.ag out)) else eS.els out),IntKind.i64.wrap ((q28 xs out i _u e).snd.snd.fst+(1:Int)),(),e)
 else (Ex.exit (2:Nat),eS.ag xs,eS.ag out,i,(),e)
def q8n (xs:List S) (out:List S) (i:Int) (_u:Unit) (e:Int):Prop:=
 (decide (i<(↑xs.length:Int))=true→((0:Int)≤i∧i<(↑xs.length:Int))∧((0:Int)≤(0:Int)∧(0:Int)<(↑xs.length:Int))∧((!(xs.getD i.toNat eS.dflt).f != (xs.getD (0:Nat) eS.dflt).f)=true→(0:Int)≤i∧i<(↑xs.length:Int))∧((!(xs.getD i.toNat eS.dflt).f != (xs.getD (0:Nat) eS.dflt).f)=true→(0:Int)≤i∧i<(↑xs.length:Int))∧((!(xs.getD i.toNat eS.dflt).f != (xs.getD (0:Nat) eS.dflt).f)=true→(0:Int)≤(0:Int)∧(0:Int)<(↑xs.length:Int))∧((!(xs.getD i.toNat eS.dflt).f != (xs.getD (0:Nat) eS.dflt).f)=true→(0:Int)≤(0:Int)∧(0:Int)<(↑xs.length:Int))∧(((xs.getD i.toNat eS.dflt).f != (xs.getD (0:Nat) eS.dflt).f||IntKind.i64.wrap ((xs.getD i.toNat eS.dflt).k+(xs.getD i.toNat eS.dflt).n) != IntKind.i64.wrap ((xs.getD (0:Nat) eS.dflt).k+(xs.getD (0:Nat) eS.dflt).n))=true→eS.okL xs∧eS.okL out)∧(((xs.getD i.toNat eS.dflt).f != (xs.getD (0:Nat) eS.dflt).f||IntKind.i64.wrap ((xs.getD i.toNat eS.dflt).k+(xs.getD i.toNat eS.dflt).n) != IntKind.i64.wrap ((xs.getD (0:Nat) eS.dflt).k+(xs.getD (0:Nat) eS.dflt).n))=false→eS.okL xs∧((eS.ag xs).length≤maxLen∧(0:Int)≤(0:Int)∧(0:Int)≤(↑(eS.ag xs).length:Int)∧okJ (eS.ag xs) i)∧((q28 xs out i _u e).snd.snd.snd.snd=true→(0:Int)≤(q28 xs out i _u e).snd.snd.fst∧(q28 xs out i _u e).snd.snd.fst<(↑(q28 xs out i _u e).snd.fst.length:Int))∧((q28 xs out i _u e).snd.snd.snd.snd=true→eS.okL out)∧((q28 xs out i _u e).snd.snd.snd.snd=true→(eS.ag out).length≤KS)∧eS.okL (q28 xs out i _u e).snd.fst∧∀ (e:Nat),(e<bif (q28 xs out i _u e).snd.snd.snd.snd then (Lp.insU cR ((q28 xs out i _u e).snd.fst.getD (q28 xs out i _u e).snd.snd.fst.toNat eS.dflt) (eS.ag out)).length else out.length)→eS.Ok ((bif (q28 xs out i _u e).snd.snd.snd.snd then eS.els (Lp.insU cR ((q28 xs out i _u e).snd.fst.getD (q28 xs out i _u e).snd.snd.fst.toNat eS.dflt) (eS.ag out)) else eS.els out) e)))∧(decide (i<(↑xs.length:Int))=false→eS.okL xs∧eS.okL out)
theorem qzz:((q00 Tryz.prog 134).filter fun c=>Nat.beq (lkey c) 8).length=1:=by kernel_rfl
theorem rlb_es (g:rlb_G):(rlb_R g.1 g.2.1 g.2.2.1 g.2.2.2.1 g.2.2.2.2).1=.normal∨(rlb_R g.1 g.2.1 g.2.2.1 g.2.2.2.1 g.2.2.2.2).1∈([.ret,.exit 2]:List Ex):=by
 unfold rlb_R
 repeat' (first | (left;rfl) | (right;simp only[cond_true,cond_false];simp;done) | (rw[Bool.cond_eq_ite];split))
abbrev rlb_C (Inv:rlb_G→List Prop) (m:rlb_G→Nat):LCon:=loopR [.ret,.exit 2] (loopBody Tryz.prog 134 8) qw6 [] 83 Inv (fun g=>rlb_R g.1 g.2.1 g.2.2.1 g.2.2.2.1 g.2.2.2.2) m
theorem qtl (Inv:rlb_G→List Prop) (m:rlb_G→Nat) (hs:∀ g,allP (Inv g)→q8n g.1 g.2.1 g.2.2.1 g.2.2.2.1 g.2.2.2.2) (hg:Goes (fun g:rlb_G=>rlb_R g.1 g.2.1 g.2.2.1 g.2.2.2.1 g.2.2.2.2) m fun g=>allP (Inv g)):∀ b∈q00 Tryz.prog 134,lkey b=8→q02 Tryz.prog b (rlb_C Inv m).g:=q0g (Γ:=(PTab.gamz qni [] [])) (Λ:=lam28) (PTab.okz qni [] []) qtz 100 134 8 83 qw6 [] Inv (fun g=>rlb_R g.1 g.2.1 g.2.2.1 g.2.2.2.1 g.2.2.2.2) (fun g=>q8n g.1 g.2.1 g.2.2.1 g.2.2.2.1 g.2.2.2.2) m default [.ret,.exit 2] qzz (fun rd T B HL HB ds g=>by kernel_rfl) (fun rd T B HL HB ds g=>by kernel_rfl) hs hg rlb_es
end
end Go.Proofs.YthnojkbkojpadaaGreat.Su

namespace Go.Sx
noncomputable section
theorem qfh {γ:Type} {F F':γ→Ex×γ} {m:γ→Nat} {Inv:γ→Prop} (h:Goes F' m Inv) (e:∀ g,Inv g→F g=F' g):Goes F m Inv:=fun g hi hn=>by
 rw[e g hi] at hn ⊢
 exact h g hi hn
theorem qm4 {γ:Type} {F F':γ→Ex×γ} {m:γ→Nat} {Inv:γ→Prop} (h:Goes F' m Inv) (e:∀ g,Inv g→F g=F' g):∀ g,Inv g→loopF F m g=loopF F' m g:=by
 have h0:=qfh h e
 refine q17 h0 (Q:=fun g r=>r=loopF F' m g) ?_ ?_
 ·intro g hi hn
  rw[e g hi] at hn ⊢
  exact (q8w hn).symm
 ·intro g g' r hi he _ _ hq
  rw[e g hi] at he
  rw[hq,q7c h hi he]
end
end Go.Sx
namespace Go.Proofs.YthnojkbkojpadaaGreat.Su
noncomputable section
open Go.RowKit Go.Sx Go.Lp
theorem qok (s:S):∀ l:List S,(insU cR s l).length≤l.length+1
 | []=>by simp[insU]
 | y :: r=>by
  have:=qok s r
  simp only[insU]
  split
  ·simp
  ·split
   ·simp
   ·simp;omega
abbrev badR (xs:List S) (y:S):Bool:=y.f != (xs.getD 0 eS.dflt).f||w64 (y.k+y.n) != w64 ((xs.getD 0 eS.dflt).k+(xs.getD 0 eS.dflt).n)
abbrev stepR (xs:List S) (out:List S) (y:S):List S:=bif !(xs.any fun x=>q33 x y) then insU cR y out else out
theorem q83 (K:Nat):∀ xs out i,i<xs.length→okLen K xs out i→okLen K xs (stepR xs out (xs.getD i eS.dflt)) (i+1):=by
 rintro xs out i _ ⟨h1,h2⟩
 refine ⟨h1,?_⟩
 unfold stepR
 generalize (!xs.any fun x=>q33 x (xs.getD i eS.dflt))=c
 have:=qok (xs.getD i eS.dflt) out
 cases c
 ·simp only[cond_false];omega
 ·simp only[cond_true];omega
theorem qrf:(fun g:ran_G=>ran_R g.1 g.2.1 g.2.2.1 g.2.2.2)=anF 4 eS.dflt undS:=funext qwd
theorem ran_q {xs:List S} {i:Int} (h:xs.length≤KS) (h0:0≤i) (h1:i<(xs.length:Int)):∃ k:Int,loopF (anF 4 eS.dflt undS) anM (xs,i,0,true)=(.exit 4,xs,i,k,!(xs.any fun x=>q33 x (xs.getD i.toNat eS.dflt))):=by
 have hI:allP (anI okJ ((xs,i,0,true):AnG S Int)):=fun q hq=>by
  simp only[anI,List.mem_singleton] at hq
  subst hq
  exact ⟨by unfold KS at h;unfold maxLen;show xs.length≤_;omega,Int.le_refl _,by show (0:Int)≤(xs.length:Int);omega,h0,h1⟩
 obtain ⟨a,b,c,d⟩:=an_run 4 eS.dflt undS okJ _ hI
 generalize loopF (anF 4 eS.dflt undS) anM (xs,i,0,true)=r at a b c d
 obtain ⟨r1,r2,r3,r4,r5⟩:=r
 simp only at a b c d
 subst a b c d
 refine ⟨r4,?_⟩
 have e0:(0:Int).toNat=0:=rfl
 simp only[Bool.true_and,e0,List.drop_zero]
theorem qw5 (g:rlb_G) (hi:allP (fl2I (okLen KS) g)):rlb_R g.1 g.2.1 g.2.2.1 g.2.2.2.1 g.2.2.2.2=fl2F 2 eS.dflt badR stepR 11 g:=by
 obtain ⟨xs,out,i,⟨⟩,e⟩:=g
 obtain ⟨h2,h3,h4,h5,h6⟩:=hi _ (List.mem_cons_self ..)
 simp only at h2 h3 h4 h5 h6
 show rlb_R xs out i () e=fl2F 2 eS.dflt badR stepR 11 (xs,out,i,(),e)
 unfold rlb_R fl2F q28
 simp only[El.lst_els,El.ag_eq,El.okL_eq,qrf]
 by_cases hlt:i<(xs.length:Int)
 ·obtain ⟨k,hk⟩:=ran_q h5 h3 hlt
  rw[hk]
  simp only[hlt,decide_true,cond_true,El.lst_els,El.ag_eq,El.okL_eq]
  unfold stepR
  generalize (!xs.any fun x=>q33 x (xs.getD i.toNat eS.dflt))=c2
  cases c2 <;> simp only[cond_false,cond_true,El.lst_els,El.ag_eq,El.okL_eq] <;> rfl
 ·simp only[hlt,decide_false,cond_false]
theorem rlb_ok:∀ b∈q00 Tryz.prog 134,lkey b=8→q02 Tryz.prog b (rlb_C (fl2I (okLen KS)) fl2M).g:=by
 refine qtl (fl2I (okLen KS)) fl2M (fun g hi=>?_) ?_
 ·obtain ⟨xs,out,i,⟨⟩,e⟩:=g
  obtain ⟨h2,h3,h4,h5,h6⟩:=hi _ (List.mem_cons_self ..)
  simp only at h2 h3 h4 h5 h6
  have h5':=h5
  unfold KS at h5
  show q8n xs out i () e
  by_cases hc:i<(xs.length:Int)
  ·obtain ⟨k,hk⟩:=ran_q h5' h3 hc
   have hq:∀ e,q28 xs out i () e=(.exit 4,xs,i,k,!(xs.any fun x=>q33 x (xs.getD i.toNat eS.dflt))):=by
    intro e
    unfold q28
    simp only[El.lst_els,El.ag_eq,El.okL_eq];rw[qrf]
    exact hk
   unfold q8n
   simp only[hq,El.lst_els,El.ag_eq,El.okL_eq]
   generalize (!xs.any fun x=>q33 x (xs.getD i.toNat eS.dflt))=c2
   refine ⟨fun _=>?_,fun _=>?_⟩
   all_goals
    repeat' (first | apply And.intro | intro _)
    all_goals first | trivial | assumption | omega | (unfold KS;omega) | (unfold maxLen;omega) | (cases c2 <;> trivial) | (cases c2 <;> exact El.ok_els _ _ _) | skip
  ·unfold q8n
   refine ⟨fun h=>absurd (of_decide_eq_true h) hc,fun _=>?_⟩
   simp only[El.lst_els,El.ag_eq,El.okL_eq]
   repeat' (first | apply And.intro | intro _)
   all_goals trivial
 ·exact qfh (qig 2 eS.dflt badR stepR 11 (okLen KS) (q83 KS)) qw5
def lt29:LTab Tryz.prog:=lt28.cons 134 8 (rlb_C (fl2I (okLen KS)) fl2M) rlb_ok
abbrev lam29:Lam:=lt29.lam
theorem qtx:∀ f k L,lam29 f k=some L→∀ b∈q00 Tryz.prog f,lkey b=k→q02 Tryz.prog b L.g:=lt29.ok
end
end Go.Proofs.YthnojkbkojpadaaGreat.Su

namespace Go.Proofs.YthnojkbkojpadaaGreat.Su
noncomputable section
open Go.RowKit Go.Sx
set_option linter.unusedVariables false
def q1s (xs:List S):Ex ×
 rla_G:=
 loopF (fun g=>rla_R g.fst g.snd.fst g.snd.snd.fst g.snd.snd.snd) Lp.er2M (eS.ag xs,(0:Int),(),(0:Int))
def q3k (xs:List S):Ex ×
 rlb_G:=
 loopF (fun g=>rlb_R g.fst g.snd.fst g.snd.snd.fst g.snd.snd.snd.fst g.snd.snd.snd.snd) Lp.fl2M (eS.ag (q1s xs).snd.fst,[],(0:Int),(),(q1s xs).snd.snd.snd.snd)
def qhf (xs:List S):Rv.T rLE:=
 bif exB Ex.ret (q1s xs).fst then ([],(q1s xs).snd.snd.snd.snd)
 else bif exB Ex.ret (q3k xs).fst then ([],(q3k xs).snd.snd.snd.snd.snd) else (eS.ag (q3k xs).snd.snd.fst,(0:Int))
def q5d (xs:List S):Prop:=
 eS.okL xs∧((eS.ag xs).length≤maxLen∧(0:Int)≤(0:Int)∧(0:Int)≤(↑(eS.ag xs).length:Int))∧(exB Ex.ret (q1s xs).fst=false→eS.okL (q1s xs).snd.fst∧((eS.ag (q1s xs).snd.fst).length≤maxLen∧(0:Int)≤(0:Int)∧(0:Int)≤(↑(eS.ag (q1s xs).snd.fst).length:Int)∧okLen KS (eS.ag (q1s xs).snd.fst) [] (0:Nat))∧(exB Ex.ret (q3k xs).fst=false→eS.okL (q3k xs).snd.snd.fst))
theorem qpn (pre:DA.T aL1→List Prop) (h:∀ g,DA.bd aL1 g→(∀ p∈pre g,p)→q5d g):q04 Tryz.prog 134 aL1 (Rv.D rLE) (fun g=>qhf g) pre:=q1a (R:=rLE) (Γ:=(PTab.gamz qni [] [])) (Λ:=lam29) (PTab.okz qni [] []) qtx 100 default (fun g=>q5d g) (fun g=>by kernel_rfl) (fun g=>by kernel_rfl) h
end
end Go.Proofs.YthnojkbkojpadaaGreat.Su

namespace Go.Proofs.YthnojkbkojpadaaGreat.Su
noncomputable section
open Go.RowKit Go.Sx Go.Lp
abbrev cS (a b:S):Int:=q1g a b
theorem cR_eq:cR=cS:=by funext a b;show q1j a b=q1g a b;rw[qdr,qjs]
theorem qum (a b:S):q2d a b=(!eqS a b&&(leqC a b&&(!leqC b a||decide (cS a b<0)))):=by
 unfold q2d
 rw[qgf]
theorem qpb (a b:S):q33 a b=q2d a b:=by
 rw[qum]
 unfold q33
 rw[show q1j a b=cS a b from congrFun (congrFun cR_eq a) b]
 by_cases h:a=b
 ·subst h
  have h0:¬ cS a a<0:=toS.irrefl a
  simp[eqS,h0]
 ·simp[eqS,h]
def keepS (xs:List S) (y:S):Bool:=!(xs.any fun x=>q2d x y)
def q14 (xs:List S):List S×Int:=bif xs.any mayN then ([],20) else bif xs.any (badS xs) then ([],11) else (q8q cS (xs.filter (keepS xs)),0)
theorem qwy:(fun g:la_G=>la_R g.1 g.2.1 g.2.2.1 g.2.2.2.1 g.2.2.2.2)=erF 0 eS.dflt mayN 20:=funext la_RF
theorem qwv:(fun g:lb_G=>lb_R g.1 g.2.1 g.2.2.1 g.2.2.2.1 g.2.2.2.2.1 g.2.2.2.2.2.1 g.2.2.2.2.2.2)=flF 2 eS.dflt badS stepS 11:=funext lb_RF
theorem z01:(fun g:rla_G=>rla_R g.1 g.2.1 g.2.2.1 g.2.2.2)=er2F 0 eS.dflt (fun a=>q0x a != 0) 20:=funext qw8
theorem qwu (xs:List S) (e:Int) (h:xs.length≤KS):allP (flI (okLen KS) ((xs,[],xs,(xs.length:Int),0,(),e):FlG S (List S))):=fun q hq=>by
 simp only[flI,List.mem_singleton] at hq
 subst hq
 exact ⟨trivial,trivial,by unfold KS at h;unfold maxLen;show xs.length≤_;omega,Int.le_refl _,by show (0:Int)≤(xs.length:Int);omega,h,Nat.le_refl _⟩
theorem qr3 (xs:List S) (e:Int) (h:xs.length≤KS):allP (fl2I (okLen KS) ((xs,[],0,(),e):Fl2G S (List S))):=fun q hq=>by
 simp only[fl2I,List.mem_singleton] at hq
 subst hq
 exact ⟨by unfold KS at h;unfold maxLen;show xs.length≤_;omega,Int.le_refl _,by show (0:Int)≤(xs.length:Int);omega,h,Nat.le_refl _⟩
theorem qq7 (xs:List S):∀ (ys out:List S),ys.foldl (stepS xs) out=out++ys.filter (keepS xs):=qfn (keepS xs)
theorem qk9:q04 Tryz.prog 124 aL1 (Rv.D rLE) q14 (fun xs=>[xs.length≤KS]):=by
 have h:=qrl (fun xs=>[xs.length≤KS]) fun xs _ hp=>by
  have hl:xs.length≤KS:=hp _ (List.mem_cons_self ..)
  have hm:xs.length≤maxLen:=by unfold KS at hl;unfold maxLen;omega
  have ha:=q2r xs
  show q7d xs
  unfold q7d
  simp only[El.lst_els,El.ag_eq,El.okL_eq]
  have e1:=(er_any 0 eS.dflt mayN 20 xs 0 hm).2
  have hq1:q2m xs=loopF (erF 0 eS.dflt mayN 20) erM (xs,(xs.length:Int),0,(),0):=by unfold q2m;simp only[El.lst_els,El.ag_eq,El.okL_eq];rw[qwy]
  have hq2:q1m xs=loopF (flF 2 eS.dflt badS stepS 11) flM (xs,[],xs,(xs.length:Int),0,(),(q2m xs).2.2.2.2.2):=by unfold q1m;simp only[El.lst_els,El.ag_eq,El.okL_eq];rw[qwv]
  have hr:=fl_run 2 eS.dflt badS stepS 11 (okLen KS) (q9m KS) _ (qwu xs (q2m xs).2.2.2.2.2 hl)
  rw[← hq2] at hr
  refine ⟨trivial,⟨trivial,hm,by omega,by omega⟩,fun _=>⟨trivial,trivial,⟨trivial,trivial,hm,by omega,by omega,hl,Nat.zero_le _⟩,fun h2=>?_⟩⟩
  rcases hr with ⟨k1,_⟩ | ⟨_,_,_,_,k5,_⟩
  ·rw[k1] at h2;cases h2
  ·have k6:=k5.2
   unfold KS at hl
   refine ⟨trivial,fun _ _=>trivial,by simp only at k6;omega,(q78 _ _).length_eq.symm,fun _ _=>trivial,Nat.le_refl _,fun _ _=>trivial⟩
 refine q0b h fun xs _ hp=>?_
 have hl:xs.length≤KS:=hp _ (List.mem_cons_self ..)
 have hm:xs.length≤maxLen:=by unfold KS at hl;unfold maxLen;omega
 show qm6 xs=q14 xs
 unfold qm6 q14
 simp only[El.lst_els,El.ag_eq,El.okL_eq]
 obtain ⟨e1,e2⟩:=er_any 0 eS.dflt mayN 20 xs 0 hm
 have hq1:q2m xs=loopF (erF 0 eS.dflt mayN 20) erM (xs,(xs.length:Int),0,(),0):=by unfold q2m;simp only[El.lst_els,El.ag_eq,El.okL_eq];rw[qwy]
 have hq2:q1m xs=loopF (flF 2 eS.dflt badS stepS 11) flM (xs,[],xs,(xs.length:Int),0,(),(q2m xs).2.2.2.2.2):=by unfold q1m;simp only[El.lst_els,El.ag_eq,El.okL_eq];rw[qwv]
 have hr:=fl_run 2 eS.dflt badS stepS 11 (okLen KS) (q9m KS) _ (qwu xs (q2m xs).2.2.2.2.2 hl)
 rw[← hq2] at hr
 rw[← hq1] at e1 e2
 rw[e1,e2]
 cases h1:xs.any mayN with
 | true=>rfl
 | false=>
  simp only[cond_false]
  rcases hr with ⟨k1,k2,k3⟩ | ⟨k1,_,_,k4,_,k6⟩
  ·have k3:(xs.drop 0).any (badS xs)=true:=k3
   rw[List.drop_zero] at k3
   rw[k1,k2,k3];rfl
  ·have k6:(xs.drop 0).any (badS xs)=false:=k6
   have k4:(q1m xs).2.2.1=(xs.drop 0).foldl (stepS xs) []:=k4
   rw[List.drop_zero] at k6 k4
   rw[k1,k6,k4,qq7,List.nil_append,sorted_put toS];rfl
theorem qfo (xs:List S):∀ (ys out:List S),ys.foldl (stepR xs) out=(ys.filter (keepS xs)).foldl (fun l s=>insU cS s l) out
 | [],out=>rfl
 | y :: ys,out=>by
  rw[List.foldl_cons,qfo xs ys,List.filter_cons]
  have e:stepR xs out y=(bif keepS xs y then insU cS y out else out):=by
   unfold stepR keepS
   simp only[qpb]
   rw[cR_eq]
  rw[e]
  cases keepS xs y <;> rfl
theorem bad_eq {xs:List S} (h:xs.any mayN=false) (hl:xs≠[]) {y:S} (hy:y∈xs):badR xs y=badS xs y:=by
 have hm:∀ z∈xs,may_F z=true:=fun z hz=>by
  have:=List.any_eq_false.1 h z hz
  simpa [mayN] using this
 have h0:xs.getD 0 eS.dflt∈xs:=by
  cases xs with
  | nil=>exact absurd rfl hl
  | cons a r=>exact List.mem_cons_self ..
 have e:∀ z∈xs,q2w z=w64 (z.k+z.n):=fun z hz=>by
  unfold q2w
  rw[hm z hz];rfl
 show (_||_)=(_||_)
 rw[e y hy,e _ h0]
theorem qpo:q04 Tryz.prog 134 aL1 (Rv.D rLE) q14 (fun xs=>[xs.length≤KS]):=by
 have hQ:∀ xs:List S,xs.length≤KS→q1s xs=loopF (er2F 0 eS.dflt (fun a=>q0x a != 0) 20) er2M (xs,0,(),0):=fun xs _=>by unfold q1s;simp only[El.lst_els,El.ag_eq,El.okL_eq];rw[z01]
 have hX:∀ xs:List S,xs.length≤KS→(q1s xs).2.1=xs:=fun xs hl=>by
  have hm:xs.length≤maxLen:=by unfold KS at hl;unfold maxLen;omega
  rw[hQ xs hl]
  have h0:allP (er2I ((xs,(0:Int),(),0):Er2G S)):=fun q hq=>by
   simp only[er2I,List.mem_singleton] at hq
   subst hq
   exact ⟨hm,Int.le_refl _,by show (0:Int)≤(xs.length:Int);omega⟩
  rcases er2_run 0 eS.dflt (fun a=>q0x a != 0) 20 _ h0 with ⟨_,_,h3,_⟩ | ⟨_,_,h3,_⟩ <;> exact h3
 have hQ2:∀ xs:List S,xs.length≤KS→q3k xs=loopF (fl2F 2 eS.dflt badR stepR 11) fl2M (xs,[],0,(),(q1s xs).2.2.2.2):=fun xs hl=>by
  unfold q3k
  simp only[El.lst_els,El.ag_eq,El.okL_eq];rw[hX xs hl]
  exact qm4 (qig 2 eS.dflt badR stepR 11 (okLen KS) (q83 KS)) qw5 _ (qr3 xs _ hl)
 have h:=qpn (fun xs=>[xs.length≤KS]) fun xs _ hp=>by
  have hl:xs.length≤KS:=hp _ (List.mem_cons_self ..)
  have hm:xs.length≤maxLen:=by unfold KS at hl;unfold maxLen;omega
  have ha:=q2r xs
  show q5d xs
  unfold q5d
  simp only[El.lst_els,El.ag_eq,El.okL_eq,hX xs hl]
  exact ⟨trivial,⟨hm,by omega,by omega⟩,fun _=>⟨trivial,⟨hm,by omega,by omega,hl,Nat.zero_le _⟩,fun _=>trivial⟩⟩
 refine q0b h fun xs _ hp=>?_
 have hl:xs.length≤KS:=hp _ (List.mem_cons_self ..)
 have hm:xs.length≤maxLen:=by unfold KS at hl;unfold maxLen;omega
 show qhf xs=q14 xs
 unfold qhf q14
 simp only[El.lst_els,El.ag_eq,El.okL_eq]
 obtain ⟨e1,e2⟩:=er2_any 0 eS.dflt (fun a=>q0x a != 0) 20 xs 0 hm
 rw[← hQ xs hl] at e1 e2
 have hr:=fl2_run 2 eS.dflt badR stepR 11 (okLen KS) (q83 KS) _ (qr3 xs (q1s xs).2.2.2.2 hl)
 rw[← hQ2 xs hl] at hr
 have e3:xs.any (fun a=>q0x a != 0)=xs.any mayN:=by
  congr 1
  funext a
  exact rc_ne a
 rw[e1,e2,e3]
 cases h1:xs.any mayN with
 | true=>rfl
 | false=>
  simp only[cond_false]
  have e4:xs.any (badR xs)=xs.any (badS xs):=by
   by_cases hx:xs=[]
   ·subst hx;rfl
   ·rw[Bool.eq_iff_iff,List.any_eq_true,List.any_eq_true]
    constructor
    ·rintro ⟨y,hy,hb⟩;exact ⟨y,hy,by rw[← bad_eq h1 hx hy];exact hb⟩
    ·rintro ⟨y,hy,hb⟩;exact ⟨y,hy,by rw[bad_eq h1 hx hy];exact hb⟩
  rcases hr with ⟨k1,k2,k3⟩ | ⟨k1,_,_,k4,_,k6⟩
  ·have k3:(xs.drop 0).any (badR xs)=true:=k3
   rw[List.drop_zero,e4] at k3
   rw[k1,k2,k3];rfl
  ·have k6:(xs.drop 0).any (badR xs)=false:=k6
   have k4:(q3k xs).2.2.1=(xs.drop 0).foldl (stepR xs) []:=k4
   rw[List.drop_zero,e4] at k6
   rw[List.drop_zero] at k4
   rw[k1,k6,k4,qfo];rfl
end
end Go.Proofs.YthnojkbkojpadaaGreat.Su

namespace Go.Proofs.YthnojkbkojpadaaGreat
noncomputable section
open Go.RowKit Go.Sx Go.Lp
def qql:PTab Tryz.prog:=(tabM10.cons 124 (pconR Su.aL1 (Rv.D Su.rLE) Su.q14 (fun xs=>[xs.length≤Su.KS])) (q1v Su.qk9)).cons 155 (pconP aLSs dI (fun g=>qfb g.1 g.2) (fun _=>[])) (q0d ixsf_c puI)
end
end Go.Proofs.YthnojkbkojpadaaGreat

namespace Go.Proofs.YthnojkbkojpadaaGreat
noncomputable section
open Go.RowKit Go.Sx
set_option linter.unusedVariables false
def cts_F (a:List S) (s:S):Dv.T dBool:=
 decide (qfb (eS.ag a) s≥(0:Int))
def qbj (a:List S) (s:S):Prop:=
 eS.okL a
theorem cts_okS (pre:DA.T aLSs→List Prop) (h:∀ g,DA.bd aLSs g→(∀ p∈pre g,p)→qbj g.1 g.2):q04 Tryz.prog 125 aLSs dBool (fun g=>cts_F g.1 g.2) pre:=q08 (Γ:=(PTab.gamz qql [] [])) (Λ:=noΛ) (PTab.okz qql [] []) q0o 100 default (fun g=>qbj g.1 g.2) (fun g=>by kernel_rfl) (fun g=>by kernel_rfl) h
end
end Go.Proofs.YthnojkbkojpadaaGreat

namespace Go.Proofs.YthnojkbkojpadaaGreat
noncomputable section
open Go.RowKit Go.Sx Go.Lp
theorem cts_c:q04 Tryz.prog 125 aLSs dBool (fun g=>decide (g.2∈g.1)) (fun _=>[]):=by
 refine q0b (cts_okS (fun _=>[]) fun g hb _=>?_) fun g hb _=>?_
 ·obtain ⟨xs,s⟩:=g
  show qbj xs s
  unfold qbj
  simp only[El.okL_eq,El.ag_eq]
 ·obtain ⟨xs,s⟩:=g
  have hl:xs.length≤maxLen:=hb.1.1
  show cts_F xs s=_
  unfold cts_F
  simp only[El.ag_eq]
  exact qu5 xs s hl
def qqk:PTab Tryz.prog:=qql.cons 125 (pconP aLSs dBool (fun g=>decide (g.2∈g.1)) (fun _=>[])) (q0d cts_c puB)
end
end Go.Proofs.YthnojkbkojpadaaGreat

namespace Go.Proofs.YthnojkbkojpadaaGreat
noncomputable section
open Go.RowKit Go.Sx
set_option linter.unusedVariables false
def q3p (v:Path) (m:List (Place×Int)):Nat:=
 kfind (fun e=>v.fr.node==(m.getD e (eP.pair eI).dflt).fst.node&&v.fr.port==(m.getD e (eP.pair eI).dflt).fst.port) m.length (0:Nat)
def q3o (v:Path) (m:List (Place×Int)):Nat:=
 kfind (fun e=>v.to.node==(m.getD e (eP.pair eI).dflt).fst.node&&v.to.port==(m.getD e (eP.pair eI).dflt).fst.port) m.length (0:Nat)
def q9j (v:Path) (m:List (Place×Int)):Ex ×
 pth_G:=
 loopF (fun g=>pth_R g.fst g.snd.fst g.snd.snd.fst g.snd.snd.snd.fst g.snd.snd.snd.snd.fst g.snd.snd.snd.snd.snd) pth_M (eS.ag v.ss,(↑v.ss.length:Int),(0:Int),bif decide ((q3p v m)<m.length) then (m.getD (q3p v m) (eP.pair eI).dflt).snd else (0:Int),bif decide ((q3o v m)<m.length) then (m.getD (q3o v m) (eP.pair eI).dflt).snd else (0:Int),false)
def qqy (v:Path) (m:List (Place×Int)):Dv.T dBool:=
 bif !decide ((q3p v m)<m.length)||(!decide ((q3o v m)<m.length)||((↑v.ss.length:Int)==(0:Int)||decide ((↑v.ss.length:Int) > (64:Int)))) then false
 else bif exB Ex.ret (q9j v m).fst then (q9j v m).snd.snd.snd.snd.snd.snd else (Su.q14 (eS.ag v.ss)).snd==(0:Int)&&(decide (eS.ag (Su.q14 (eS.ag v.ss)).fst=eS.ag v.ss)&&(!conj ([v.fr.node==v.to.node]++([v.fr.port==v.to.port]++[]))||decide (q9s (q9j v m).snd.snd.snd.snd.fst∈eS.ag v.ss)))
def q8m (v:Path) (m:List (Place×Int)):Prop:=
 (∀ (e:Nat),e<m.length→True)∧(∀ (e:Nat),e<m.length→True)∧((!decide ((q3p v m)<m.length)||(!decide ((q3o v m)<m.length)||((↑v.ss.length:Int)==(0:Int)||decide ((↑v.ss.length:Int) > (64:Int)))))=false→eS.okL v.ss∧Lp.ixJ (fun c=>c.snd.fst) (fun c=>c.fst) pth_K (pth_f (eS.ag v.ss,(↑v.ss.length:Int),(0:Int),bif decide ((q3p v m)<m.length) then (m.getD (q3p v m) (eP.pair eI).dflt).snd else (0:Int),bif decide ((q3o v m)<m.length) then (m.getD (q3o v m) (eP.pair eI).dflt).snd else (0:Int),false))∧(exB Ex.ret (q9j v m).fst=false→eS.okL v.ss∧(eS.ag v.ss).length≤Su.KS∧(((Su.q14 (eS.ag v.ss)).snd==(0:Int))=true→eS.okL (Su.q14 (eS.ag v.ss)).fst)∧(((Su.q14 (eS.ag v.ss)).snd==(0:Int))=true→eS.okL v.ss)∧(((Su.q14 (eS.ag v.ss)).snd==(0:Int))=true→decide (eS.ag (Su.q14 (eS.ag v.ss)).fst=eS.ag v.ss)=true→(!!conj ([v.fr.node==v.to.node]++([v.fr.port==v.to.port]++[])))=true→eS.okL v.ss)))
theorem qtb (pre:DA.T dPaM→List Prop) (h:∀ g,DA.bd dPaM g→(∀ p∈pre g,p)→q8m g.1 g.2):q04 Tryz.prog 80 dPaM dBool (fun g=>qqy g.1 g.2) pre:=q08 (Γ:=(PTab.gamz qqk [] [])) (Λ:=lamM9) (PTab.okz qqk [] []) qhz 100 default (fun g=>q8m g.1 g.2) (fun g=>by kernel_rfl) (fun g=>by kernel_rfl) h
end
end Go.Proofs.YthnojkbkojpadaaGreat

namespace Go.Proofs.YthnojkbkojpadaaGreat
noncomputable section
open Go.RowKit Go.Sx Go.Lp
def depsL (l:List Path):List (Place×Int):=(depM l).1.map d3e
def dpsC (l:List Path):List (Place×Int)×Bool:=bif l.any noD then ([],false) else (depsL l,decide (((depM l).1.length:Int)≤128))
theorem dps_q1e (l:List Path):q55 l=loopF qsc dph_M (l,(l.length:Int),0,(),([],0),[],false):=by
 unfold q55
 rw[El.ag_eq]
 rfl
theorem dps_c:q04 Tryz.prog 59 aLPo dMB dpsC (fun _=>[]):=by
 refine q0b (dps_okS (fun _=>[]) fun l hb _=>?_) fun l hb _=>?_
 ·have hl:l.length≤maxLen:=hb.1
  show qbh l
  unfold qbh
  simp only[El.okL_eq,El.ag_eq]
  repeat' (first | exact ixJ0 rfl hl trivial | apply And.intro | intro _)
  all_goals first | trivial | exact (ent_ok (K:=eP) (V:=eI) (El.ok_els _ _ _)).1 | omega
 ·have hl:l.length≤maxLen:=hb.1
  show dps_F l=dpsC l
  have hr:=dph_run l [] false hl
  have hr:=(dps_q1e l).trans hr
  unfold dps_F dpsC depsL depM
  rw[hr]
  rcases qiv (l,(l.length:Int)) l 0 ([],0) [] false with ⟨h1,j,m',h2⟩ | ⟨h1,j,h2⟩
  ·rw[h1,h2]
   simp only[exB,El.ag_eq]
   rfl
  ·rw[h1,h2]
   have e:=ent_lst (K:=eP) (V:=eI) (m:=((selfs l).foldl msetP ([],0)).1.length) (el:=(eP.ent eI).els ((selfs l).foldl msetP ([],0)).1) fun e _=>El.ok_els _ _ e
   rw[El.lst_els] at e
   rw[← e]
   rfl
def tblC (l:List Path):TBt:=l.foldl addT (([],0),[])
theorem tbl_c:FnT Tryz.prog 57 TA.nil aLPo (TR.ct (CT.ptr 113 cTb) rfl) (fun _ l=>((),tblC l)) (fun _ l=>[l.length≤K30]):=by
 have hq:∀ (u:Unit) (l:List Path),l.length≤K30→q7o u l=(.exit 0,l,(l.length:Int),(l.length:Int),(),tblC l):=fun u l h=>by
  have:=qzd l h
  unfold q7o
  rw[El.ag_eq]
  exact this
 refine T_congr (qzf (fun _ l=>[l.length≤K30]) fun u l hb hp=>?_) (fun _ _ h=>h) fun u l hb hp=>?_
 ·have hl:l.length≤K30:=hp _ (List.mem_cons_self ..)
  have hm:l.length≤maxLen:=hb.1
  show qah u l
  unfold qah
  simp only[El.okL_eq,hq u l hl,El.ag_eq]
  refine ⟨trivial,fun _ _=>trivial,ixJ0 rfl hm ⟨hl,Int.le_refl _⟩,fun _ _ p h=>q5s _ trivial p h,Nat.le_refl _,fun _ _=>trivial⟩
 ·have hl:l.length≤K30:=hp _ (List.mem_cons_self ..)
  show tbl_F u l=_
  unfold tbl_F
  rw[hq u l hl]
  simp only[El.ag_eq]
end
end Go.Proofs.YthnojkbkojpadaaGreat

namespace Go.Proofs.YthnojkbkojpadaaGreat
noncomputable section
open Go.RowKit Go.Sx Go.Lp
def dget (m:List (Place×Int)) (p:Place):Option Int:=(m.find? fun e=>decide (p=e.1)).map (·.2)
theorem qiw (d:Place×Int) (m:List (Place×Int)) (p:Place):dget m p=if (m.findIdx fun e=>decide (p=e.1))<m.length then some (m.getD (m.findIdx fun e=>decide (p=e.1)) d).2 else none:=by
 unfold dget
 induction m with
 | nil=>rfl
 | cons e r ih=>
  rw[List.find?_cons,List.findIdx_cons]
  cases h:decide (p=e.1) with
  | true=>simp
  | false=>
   simp only[cond_false,List.length_cons]
   rw[ih]
   by_cases hl:(r.findIdx fun e=>decide (p=e.1))<r.length
   ·rw[if_pos hl,if_pos (by omega)];simp
   ·rw[if_neg hl,if_neg (by omega)]
def qa5 (a b:Int) (v:S):Bool:=q5p v != (0:Int)||(v.f != a||q2w v != b)
def pathA (v:Path) (a b:Int):Bool:=!((v.ss.length:Int)==(0:Int)||decide ((v.ss.length:Int) > (64:Int)))&&(!(v.ss.any (qa5 a b))&&((Su.q14 v.ss).2==(0:Int)&&(decide ((Su.q14 v.ss).1=v.ss)&&(!decide (v.fr=v.to)||decide (q9s a∈v.ss)))))
def pathC (D:Place→Option Int) (v:Path):Bool:=match D v.fr,D v.to with
 | some a,some b=>pathA v a b
 | _,_=>false
theorem qta (v:Path) (m:List (Place×Int)):q3p v m=m.findIdx fun e=>decide (v.fr=e.1):=q3l _ (eP.pair eI).dflt m fun j _=>eqKP _ _
theorem qt9 (v:Path) (m:List (Place×Int)):q3o v m=m.findIdx fun e=>decide (v.to=e.1):=q3l _ (eP.pair eI).dflt m fun j _=>eqKP _ _
theorem z0f (xs:List S) (a b:Int) (hl:xs.length≤maxLen):∃ i,loopF (fun g:pth_G=>pth_R g.1 g.2.1 g.2.2.1 g.2.2.2.1 g.2.2.2.2.1 g.2.2.2.2.2) pth_M (xs,(xs.length:Int),0,a,b,false)=(bif xs.any (qa5 a b) then .ret else .exit 0,xs,(xs.length:Int),i,a,b,false):=by
 have h1:loopF (fun g:pth_G=>pth_R g.1 g.2.1 g.2.2.1 g.2.2.2.1 g.2.2.2.2.1 g.2.2.2.2.2) pth_M (xs,(xs.length:Int),0,a,b,false)=_:=z0d (xs,(xs.length:Int),a,b) false rfl hl trivial
 rcases search (x:=0) (st:=pth_S (xs,(xs.length:Int),a,b)) (p:=qa5 a b) (r:=fun _ _ _=>false) (fun _ _ _=>rfl) xs false with ⟨ha,j,hj,c,_,_,h2⟩ | ⟨ha,h2⟩
 ·have h2:scan 0 (pth_S (xs,(xs.length:Int),a,b)) 0 xs false=_:=h2
  refine ⟨j,h1.trans ?_⟩
  rw[h2,ha];rfl
 ·have h2:scan 0 (pth_S (xs,(xs.length:Int),a,b)) 0 xs false=_:=h2
  refine ⟨(xs.length:Int),h1.trans ?_⟩
  rw[h2,ha];rfl
theorem rpth_c:q04 Tryz.prog 80 dPaM dBool (fun g=>pathC (dget g.2) g.1) (fun _=>[]):=by
 refine q0b (qtb (fun _=>[]) fun g hb _=>?_) fun g hb _=>?_
 ·obtain ⟨v,m⟩:=g
  show q8m v m
  unfold q8m
  simp only[El.okL_eq,El.ag_eq,conjP]
  refine ⟨fun _ _=>trivial,fun _ _=>trivial,fun hn=>?_⟩
  simp only[Bool.or_eq_false_iff,decide_eq_false_iff_not] at hn
  have hs:¬ (v.ss.length:Int) > 64:=hn.2.2.2
  have hm:v.ss.length≤maxLen:=by unfold maxLen;omega
  refine ⟨trivial,ixJ0 rfl hm trivial,fun _=>⟨trivial,by unfold Su.KS;omega,fun _=>trivial,fun _=>trivial,fun _ _ _=>trivial⟩⟩
 ·obtain ⟨v,m⟩:=g
  show qqy v m=pathC (dget m) v
  unfold qqy pathC
  rw[qiw (eP.pair eI).dflt m v.fr,qiw (eP.pair eI).dflt m v.to,← qta,← qt9]
  simp only[El.ag_eq,conjP]
  by_cases h1:q3p v m<m.length
  ·by_cases h2:q3o v m<m.length
   ·simp only[h1,h2,decide_true,Bool.not_true,Bool.false_or,if_true]
    have hq:∃ i,(v.ss.length:Int)≤64→q9j v m=(bif v.ss.any (qa5 (m.getD (q3p v m) (eP.pair eI).dflt).2 (m.getD (q3o v m) (eP.pair eI).dflt).2) then .ret else .exit 0,v.ss,(v.ss.length:Int),i,(m.getD (q3p v m) (eP.pair eI).dflt).2,(m.getD (q3o v m) (eP.pair eI).dflt).2,false):=by
     by_cases hs:(v.ss.length:Int)≤64
     ·obtain ⟨i,hi⟩:=z0f v.ss (m.getD (q3p v m) (eP.pair eI).dflt).2 (m.getD (q3o v m) (eP.pair eI).dflt).2 (by unfold maxLen;omega)
      refine ⟨i,fun _=>?_⟩
      unfold q9j
      simp only[El.ag_eq,h1,h2,decide_true,cond_true]
      exact hi
     ·exact ⟨0,fun h=>absurd h hs⟩
    obtain ⟨i,hq⟩:=hq
    unfold pathA
    cases h3:((v.ss.length:Int)==(0:Int)||decide ((v.ss.length:Int) > (64:Int))) with
    | true=>rfl
    | false=>
     simp only[Bool.or_eq_false_iff,decide_eq_false_iff_not] at h3
     rw[hq (by omega)]
     cases v.ss.any (qa5 (m.getD (q3p v m) (eP.pair eI).dflt).2 (m.getD (q3o v m) (eP.pair eI).dflt).2) <;> rfl
   ·simp only[h1,h2,decide_true,decide_false,Bool.not_true,Bool.not_false,Bool.false_or,Bool.true_or,cond_true,if_true,if_false]
  ·simp only[h1,decide_false,Bool.not_false,Bool.true_or,cond_true,if_false]
def qby:PTab Tryz.prog:=(qqk.cons 80 (pconP dPaM dBool (fun g=>pathC (dget g.2) g.1) (fun _=>[])) (q0d rpth_c puB)).cons 59 (pconR aLPo dMB dpsC (fun _=>[])) (q1v dps_c)
end
end Go.Proofs.YthnojkbkojpadaaGreat

namespace Go.Proofs.YthnojkbkojpadaaGreat
noncomputable section
open Go.RowKit Go.Sx
set_option linter.unusedVariables false
abbrev chk_G:Type:=List Path×Int×Int×List Path×MPz×Int
def qyq:LP 0 chk_G:=.pair (.slot 0 14 dLP) (.pair (.slot 0 15 dI) (.pair (.slot 0 16 dI) (.pair (.slot 0 0 dLP) (.pair (.slot 0 3 dMP) (.slot 0 2 dI)))))
def chk_R (xs:List Path) (n:Int) (i:Int) (l:List Path) (m:MPz) (r:Int):Ex×chk_G:=
 bif decide (i<n) then bif bif decide (i > (0:Int)) then decide (q29 (Path.mk (l.getD (IntKind.i64.wrap (i - (1:Int))).toNat ePa.dflt).fr (l.getD (IntKind.i64.wrap (i - (1:Int))).toNat ePa.dflt).to (eS.ag (l.getD (IntKind.i64.wrap (i - (1:Int))).toNat ePa.dflt).ss)) (Path.mk (xs.getD i.toNat ePa.dflt).fr (xs.getD i.toNat ePa.dflt).to (eS.ag (xs.getD i.toNat ePa.dflt).ss))≥(0:Int))||!pathC (dget ((eP.pair eI).ag m)) (Path.mk (xs.getD i.toNat ePa.dflt).fr (xs.getD i.toNat ePa.dflt).to (eS.ag (xs.getD i.toNat ePa.dflt).ss)) else !pathC (dget ((eP.pair eI).ag m)) (Path.mk (xs.getD i.toNat ePa.dflt).fr (xs.getD i.toNat ePa.dflt).to (eS.ag (xs.getD i.toNat ePa.dflt).ss)) then (Ex.ret,ePa.ag xs,n,i,ePa.ag l,(eP.pair eI).ag m,(110:Int)) else (Ex.normal,ePa.ag xs,n,IntKind.i64.wrap (i+(1:Int)),ePa.ag l,(eP.pair eI).ag m,r)
 else (Ex.exit (0:Nat),ePa.ag xs,n,i,ePa.ag l,(eP.pair eI).ag m,r)
def qj5 (xs:List Path) (n:Int) (i:Int) (l:List Path) (m:MPz) (r:Int):Prop:=
 (decide (i<n)=true→((0:Int)≤i∧i<(↑xs.length:Int))∧(decide (i > (0:Int))=true→(0:Int)≤IntKind.i64.wrap (i - (1:Int))∧IntKind.i64.wrap (i - (1:Int))<(↑l.length:Int))∧(decide (i > (0:Int))=true→eS.okL (l.getD (IntKind.i64.wrap (i - (1:Int))).toNat ePa.dflt).ss)∧(decide (i > (0:Int))=true→eS.okL (xs.getD i.toNat ePa.dflt).ss)∧(decide (i > (0:Int))=true→(!decide (q29 (Path.mk (l.getD (IntKind.i64.wrap (i - (1:Int))).toNat ePa.dflt).fr (l.getD (IntKind.i64.wrap (i - (1:Int))).toNat ePa.dflt).to (eS.ag (l.getD (IntKind.i64.wrap (i - (1:Int))).toNat ePa.dflt).ss)) (Path.mk (xs.getD i.toNat ePa.dflt).fr (xs.getD i.toNat ePa.dflt).to (eS.ag (xs.getD i.toNat ePa.dflt).ss))≥(0:Int)))=true→eS.okL (xs.getD i.toNat ePa.dflt).ss)∧(decide (i > (0:Int))=true→(!decide (q29 (Path.mk (l.getD (IntKind.i64.wrap (i - (1:Int))).toNat ePa.dflt).fr (l.getD (IntKind.i64.wrap (i - (1:Int))).toNat ePa.dflt).to (eS.ag (l.getD (IntKind.i64.wrap (i - (1:Int))).toNat ePa.dflt).ss)) (Path.mk (xs.getD i.toNat ePa.dflt).fr (xs.getD i.toNat ePa.dflt).to (eS.ag (xs.getD i.toNat ePa.dflt).ss))≥(0:Int)))=true→(eP.pair eI).okL m)∧((!decide (i > (0:Int)))=true→eS.okL (xs.getD i.toNat ePa.dflt).ss)∧((!decide (i > (0:Int)))=true→(eP.pair eI).okL m)∧((bif decide (i > (0:Int)) then decide (q29 (Path.mk (l.getD (IntKind.i64.wrap (i - (1:Int))).toNat ePa.dflt).fr (l.getD (IntKind.i64.wrap (i - (1:Int))).toNat ePa.dflt).to (eS.ag (l.getD (IntKind.i64.wrap (i - (1:Int))).toNat ePa.dflt).ss)) (Path.mk (xs.getD i.toNat ePa.dflt).fr (xs.getD i.toNat ePa.dflt).to (eS.ag (xs.getD i.toNat ePa.dflt).ss))≥(0:Int))||!pathC (dget ((eP.pair eI).ag m)) (Path.mk (xs.getD i.toNat ePa.dflt).fr (xs.getD i.toNat ePa.dflt).to (eS.ag (xs.getD i.toNat ePa.dflt).ss)) else !pathC (dget ((eP.pair eI).ag m)) (Path.mk (xs.getD i.toNat ePa.dflt).fr (xs.getD i.toNat ePa.dflt).to (eS.ag (xs.getD i.toNat ePa.dflt).ss)))=true→ePa.okL xs∧ePa.okL l∧(eP.pair eI).okL m)∧((bif decide (i > (0:Int)) then decide (q29 (Path.mk (l.getD (IntKind.i64.wrap (i - (1:Int))).toNat ePa.dflt).fr (l.getD (IntKind.i64.wrap (i - (1:Int))).toNat ePa.dflt).to (eS.ag (l.getD (IntKind.i64.wrap (i - (1:Int))).toNat ePa.dflt).ss)) (Path.mk (xs.getD i.toNat ePa.dflt).fr (xs.getD i.toNat ePa.dflt).to (eS.ag (xs.getD i.toNat ePa.dflt).ss))≥(0:Int))||!pathC (dget ((eP.pair eI).ag m)) (Path.mk (xs.getD i.toNat ePa.dflt).fr (xs.getD i.toNat ePa.dflt).to (eS.ag (xs.getD i.toNat ePa.dflt).ss)) else !pathC (dget ((eP.pair eI).ag m)) (Path.mk (xs.getD i.toNat ePa.dflt).fr (xs.getD i.toNat ePa.dflt).to (eS.ag (xs.getD i.toNat ePa.dflt).ss)))=false→ePa.okL xs∧ePa.okL l∧(eP.pair eI).okL m))∧(decide (i<n)=false→ePa.okL xs∧ePa.okL l∧(eP.pair eI).okL m)
theorem chk_one:((q00 Tryz.prog 33).filter fun c=>Nat.beq (lkey c) 5).length=1:=by kernel_rfl
abbrev q73:Type:=List Path×Int×List Path×MPz
abbrev qgn:Type:=Int
def chk_f (g:chk_G):Int×q73×qgn:=(g.2.2.1,(g.1,g.2.1,g.2.2.2.1,g.2.2.2.2.1),g.2.2.2.2.2)
def chk_g (d:Int×q73×qgn):chk_G:=(d.2.1.1,d.2.1.2.1,d.1,d.2.1.2.2.1,d.2.1.2.2.2,d.2.2)
abbrev qgm (g:chk_G):Ex×chk_G:=chk_R g.1 g.2.1 g.2.2.1 g.2.2.2.1 g.2.2.2.2.1 g.2.2.2.2.2
abbrev qyo (g:chk_G):Prop:=qj5 g.1 g.2.1 g.2.2.1 g.2.2.2.1 g.2.2.2.2.1 g.2.2.2.2.2
theorem chk_es (g:chk_G):(qgm g).1=.normal∨(qgm g).1∈([.ret,.exit 0]:List Ex):=by
 unfold qgm chk_R
 repeat' (first | (left;rfl) | (right;simp only[cond_true,cond_false];simp;done) | (rw[Bool.cond_eq_ite];split))
abbrev chk_C (Inv:chk_G→List Prop) (m:chk_G→Nat):LCon:=loopR [.ret,.exit 0] (loopBody Tryz.prog 33 5) qyq [] 40 Inv qgm m
theorem qv0 (Inv:chk_G→List Prop) (m:chk_G→Nat) (hs:∀ g,allP (Inv g)→qyo g) (hg:Goes qgm m fun g=>allP (Inv g)):∀ b∈q00 Tryz.prog 33,lkey b=5→q02 Tryz.prog b (chk_C Inv m).g:=q0g (Γ:=(PTab.gamz qby [] [])) (Λ:=noΛ) (PTab.okz qby [] []) q0o 100 33 5 40 qyq [] Inv qgm qyo m default [.ret,.exit 0] chk_one (fun rd T B HL HB ds g=>by kernel_rfl) (fun rd T B HL HB ds g=>by kernel_rfl) hs hg chk_es
abbrev rpt_G:Type:=Path×Unit×Int×Int×Int×Bool
def qvv:LP 1 rpt_G:=.pair (.obj 1 0 105 ePa) (.pair (.fix 1 3 (.p 0 0)) (.pair (.slot 1 5 dI) (.pair (.slot 1 7 dI) (.pair (.slot 1 9 dI) (.slot 1 4 dBool)))))
def rpt_R (v:Path) (_u:Unit) (a:Int) (b:Int) (i:Int) (r:Bool):Ex×rpt_G:=
 bif decide (i<(↑v.ss.length:Int)) then bif (v.ss.getD i.toNat eS.dflt).f != a||q4o (v.ss.getD i.toNat eS.dflt) != b then (Ex.ret,Path.mk v.fr v.to (eS.ag v.ss),(),a,b,i,false) else (Ex.normal,Path.mk v.fr v.to (eS.ag v.ss),(),a,b,IntKind.i64.wrap (i+(1:Int)),r)
 else (Ex.exit (0:Nat),Path.mk v.fr v.to (eS.ag v.ss),(),a,b,i,r)
def qhb (v:Path) (_u:Unit) (a:Int) (b:Int) (i:Int) (r:Bool):Prop:=
 (decide (i<(↑v.ss.length:Int))=true→((0:Int)≤i∧i<(↑v.ss.length:Int))∧((!(v.ss.getD i.toNat eS.dflt).f != a)=true→(0:Int)≤i∧i<(↑v.ss.length:Int))∧(((v.ss.getD i.toNat eS.dflt).f != a||q4o (v.ss.getD i.toNat eS.dflt) != b)=true→eS.okL v.ss)∧(((v.ss.getD i.toNat eS.dflt).f != a||q4o (v.ss.getD i.toNat eS.dflt) != b)=false→eS.okL v.ss))∧(decide (i<(↑v.ss.length:Int))=false→eS.okL v.ss)
theorem qzq:((q00 Tryz.prog 55).filter fun c=>Nat.beq (lkey c) 6).length=1:=by kernel_rfl
abbrev q69:Type:=Path×Int×Int
abbrev qek:Type:=Unit×Bool
def rpt_f (g:rpt_G):Int×q69×qek:=(g.2.2.2.2.1,(g.1,g.2.2.1,g.2.2.2.1),(g.2.1,g.2.2.2.2.2))
def rpt_g (d:Int×q69×qek):rpt_G:=(d.2.1.1,d.2.2.1,d.2.1.2.1,d.2.1.2.2,d.1,d.2.2.2)
abbrev qej (g:rpt_G):Ex×rpt_G:=rpt_R g.1 g.2.1 g.2.2.1 g.2.2.2.1 g.2.2.2.2.1 g.2.2.2.2.2
abbrev qvt (g:rpt_G):Prop:=qhb g.1 g.2.1 g.2.2.1 g.2.2.2.1 g.2.2.2.2.1 g.2.2.2.2.2
theorem rpt_es (g:rpt_G):(qej g).1=.normal∨(qej g).1∈([.ret,.exit 0]:List Ex):=by
 unfold qej rpt_R
 repeat' (first | (left;rfl) | (right;simp only[cond_true,cond_false];simp;done) | (rw[Bool.cond_eq_ite];split))
abbrev rpt_C (Inv:rpt_G→List Prop) (m:rpt_G→Nat):LCon:=loopR [.ret,.exit 0] (loopBody Tryz.prog 55 6) qvv [] 76 Inv qej m
theorem qtc (Inv:rpt_G→List Prop) (m:rpt_G→Nat) (hs:∀ g,allP (Inv g)→qvt g) (hg:Goes qej m fun g=>allP (Inv g)):∀ b∈q00 Tryz.prog 55,lkey b=6→q02 Tryz.prog b (rpt_C Inv m).g:=q0g (Γ:=(PTab.gamz qby [] [])) (Λ:=noΛ) (PTab.okz qby [] []) q0o 100 55 6 76 qvv [] Inv qej qvt m default [.ret,.exit 0] qzq (fun rd T B HL HB ds g=>by kernel_rfl) (fun rd T B HL HB ds g=>by kernel_rfl) hs hg rpt_es
end
end Go.Proofs.YthnojkbkojpadaaGreat

namespace Go.Proofs.YthnojkbkojpadaaGreat
noncomputable section
open Go.RowKit Go.Sx Go.Lp
theorem etaPa (v:Path):Path.mk v.fr v.to v.ss=v:=rfl
def ordAt (l:List Path) (i:Int) (v:Path):Bool:=bif decide (i > (0:Int)) then decide (q29 (l.getD (IntKind.i64.wrap (i - (1:Int))).toNat ePa.dflt) v≥(0:Int)) else false
def chkAt (l:List Path) (q:Path→Bool) (i:Int) (v:Path):Bool:=ordAt l i v||!q v
def chk_S (c:q73) (b:qgn) (i:Int) (v:Path):Ex×qgn:=bif chkAt c.2.2.1 (pathC (dget c.2.2.2)) i v then (.ret,110) else (.normal,b)
def chk_K (c:q73) (_:qgn) (_:Int):Prop:=c.1=c.2.2.1
abbrev chk_I (g:chk_G):List Prop:=ixI (fun c:q73=>c.2.1) (fun c=>c.1) chk_K (chk_f g)
abbrev chk_M (g:chk_G):Nat:=ixM (fun c:q73=>c.2.1) (chk_f g)
theorem chk_P:ixP chk_S (fun c:q73=>c.1) chk_K:=fun _ _ _ _ h _ _=>h
abbrev qsn (g:chk_G):Ex×chk_G:=chk_R g.1 g.2.1 g.2.2.1 g.2.2.2.1 g.2.2.2.2.1 g.2.2.2.2.2
theorem qyp (d:Int×q73×qgn) (_:allP (ixI (fun c:q73=>c.2.1) (fun c=>c.1) chk_K d)):qsn (chk_g d)=((ixF 0 (fun c:q73=>c.2.1) (fun c=>c.1) ePa.dflt chk_S d).1,chk_g (ixF 0 (fun c:q73=>c.2.1) (fun c=>c.1) ePa.dflt chk_S d).2):=by
 obtain ⟨i,⟨xs,n,l,m⟩,r⟩:=d
 show chk_R xs n i l m r=_
 unfold chk_R ixF chk_S chkAt ordAt
 simp only[El.ag_eq,etaPa]
 generalize (xs.getD i.toNat ePa.dflt)=v
 cases decide (i<n) with
 | false=>rfl
 | true=>
  simp only[cond_true]
  generalize decide (q29 (l.getD (IntKind.i64.wrap (i - (1:Int))).toNat ePa.dflt) v≥(0:Int))=z
  generalize pathC (dget m) v=y
  cases decide (i > (0:Int)) <;> cases z <;> cases y <;> rfl
theorem wrP {i:Int} (h0:i > 0) (l:Nat) (hl:l≤maxLen) (h:i<(l:Int)):0≤IntKind.i64.wrap (i - 1)∧IntKind.i64.wrap (i - 1)<(l:Int):=by
 have h3:IntKind.i64.wrap (i - 1)=i - 1:=Lp.wr ⟨by omega,by unfold maxLen at hl;omega⟩
 rw[h3];omega
theorem chk_ok:∀ b∈q00 Tryz.prog 33,lkey b=5→q02 Tryz.prog b (chk_C chk_I chk_M).g:=by
 refine qv0 chk_I chk_M (fun g hi=>?_) (q06 (fun _=>rfl) (fun _=>rfl) qyp chk_P)
 obtain ⟨xs,n,i,l,m,r⟩:=g
 obtain ⟨h1,h2,h3,h4,h5⟩:=hi _ (List.mem_cons_self ..)
 have h1:n=(xs.length:Int):=h1
 have h2:xs.length≤maxLen:=h2
 have h3:0≤i:=h3
 have h5:xs=l:=h5
 subst h5
 show qj5 xs n i xs m r
 unfold qj5
 simp only[El.okL_eq,El.ag_eq]
 refine ⟨fun hlt=>?_,fun _=>?_⟩
 ·have hr:=rngP i n _ h1 h3 hlt
  have hp:decide (i > 0)=true→0≤IntKind.i64.wrap (i - 1)∧IntKind.i64.wrap (i - 1)<(xs.length:Int):=fun h=>wrP (of_decide_eq_true h) _ h2 hr.2
  refine ⟨hr,hp,?_⟩
  repeat' (first | apply And.intro | intro _)
  all_goals trivial
 ·repeat' (first | apply And.intro | intro _)
  all_goals trivial
theorem chk_run (xs:List Path) (m:MPz) (r:Int) (k2:xs.length≤maxLen):∃ j,loopF qsn chk_M (xs,(xs.length:Int),0,xs,m,r)=(bif anyAt (chkAt xs (pathC (dget m))) 0 xs then .ret else .exit 0,xs,(xs.length:Int),j,xs,m,bif anyAt (chkAt xs (pathC (dget m))) 0 xs then 110 else r):=by
 have h:=q0a (φ:=chk_f) (ψ:=chk_g) (fun _=>rfl) (fun _=>rfl) qyp chk_P (xs,(xs.length:Int),xs,m) r rfl k2 rfl
 have h:loopF qsn chk_M (xs,(xs.length:Int),0,xs,m,r)=_:=h
 have hf:∀ (l:List Path) (r:Int),l.foldl (fun (b:Int) (_:Path)=>b) r=r:=by
  intro l
  induction l with
  | nil=>intro r;rfl
  | cons v l ih=>intro r;exact ih _
 rcases qln (x:=0) (e:=.ret) (st:=chk_S (xs,(xs.length:Int),xs,m)) (p:=chkAt xs (pathC (dget m))) (h:=fun _=>110) (f:=fun b _=>b) (by intro h;cases h) (fun _ _ _=>rfl) xs 0 r with ⟨ha,j,b',h2⟩ | ⟨ha,h2⟩
 ·have h2:scan 0 (chk_S (xs,(xs.length:Int),xs,m)) 0 xs r=_:=h2
  refine ⟨j,h.trans ?_⟩
  rw[h2,ha];rfl
 ·have h2:scan 0 (chk_S (xs,(xs.length:Int),xs,m)) 0 xs r=_:=h2
  refine ⟨0+(xs.length:Int),h.trans ?_⟩
  rw[h2,ha,hf];rfl
def ltM18:LTab Tryz.prog:=ltM9.cons 33 5 (chk_C chk_I chk_M) chk_ok
abbrev qwx:Lam:=ltM18.lam
theorem qrp:∀ f k L,qwx f k=some L→∀ b∈q00 Tryz.prog f,lkey b=k→q02 Tryz.prog b L.g:=ltM18.ok
end
end Go.Proofs.YthnojkbkojpadaaGreat

namespace Go.Proofs.YthnojkbkojpadaaGreat
noncomputable section
open Go.RowKit Go.Sx
set_option linter.unusedVariables false
def qr9 (l:List Path):Ex ×
 chk_G:=
 loopF (fun g=>chk_R g.fst g.snd.fst g.snd.snd.fst g.snd.snd.snd.fst g.snd.snd.snd.snd.fst g.snd.snd.snd.snd.snd) chk_M (ePa.ag l,(↑l.length:Int),(0:Int),ePa.ag l,(eP.pair eI).ag (dpsC (ePa.ag l)).fst,(0:Int))
def rck_F (l:List Path):Dv.T dI:=
 bif !(dpsC (ePa.ag l)).snd then (110:Int)
 else bif exB Ex.ret (qr9 l).fst then (qr9 l).snd.snd.snd.snd.snd.snd else (0:Int)
def qas (l:List Path):Prop:=
 ePa.okL l∧((!(dpsC (ePa.ag l)).snd)=false→ePa.okL l∧ePa.okL l∧(eP.pair eI).okL (dpsC (ePa.ag l)).fst∧Lp.ixJ (fun c=>c.snd.fst) (fun c=>c.fst) chk_K (chk_f (ePa.ag l,(↑l.length:Int),(0:Int),ePa.ag l,(eP.pair eI).ag (dpsC (ePa.ag l)).fst,(0:Int))))
theorem z05 (pre:DA.T aLPo→List Prop) (h:∀ g,DA.bd aLPo g→(∀ p∈pre g,p)→qas g):q04 Tryz.prog 33 aLPo dI (fun g=>rck_F g) pre:=q08 (Γ:=(PTab.gamz qby [] [])) (Λ:=qwx) (PTab.okz qby [] []) qrp 100 default (fun g=>qas g) (fun g=>by kernel_rfl) (fun g=>by kernel_rfl) h
end
end Go.Proofs.YthnojkbkojpadaaGreat

namespace Go.Proofs.YthnojkbkojpadaaGreat
noncomputable section
open Go.RowKit Go.Sx Go.Lp
def chkP (l:List Path):Int:=bif !(dpsC l).2||anyAt (chkAt l (pathC (dget (dpsC l).1))) 0 l then 110 else 0
theorem rck_c:q04 Tryz.prog 33 aLPo dI chkP (fun _=>[]):=by
 refine q0b (z05 (fun _=>[]) fun l hb _=>?_) fun l hb _=>?_
 ·have hl:l.length≤maxLen:=hb.1
  show qas l
  unfold qas
  simp only[El.okL_eq,El.ag_eq]
  repeat' (first | exact ixJ0 rfl hl rfl | apply And.intro | intro _)
  all_goals trivial
 ·have hl:l.length≤maxLen:=hb.1
  show rck_F l=chkP l
  unfold rck_F qr9 chkP
  simp only[El.ag_eq]
  obtain ⟨j,hj⟩:=chk_run l (dpsC l).1 0 hl
  have hj:loopF (fun g:chk_G=>chk_R g.1 g.2.1 g.2.2.1 g.2.2.2.1 g.2.2.2.2.1 g.2.2.2.2.2) chk_M (l,(l.length:Int),0,l,(dpsC l).1,0)=_:=hj
  rw[hj]
  cases (dpsC l).2 with
  | false=>rfl
  | true=>
   cases anyAt (chkAt l (pathC (dget (dpsC l).1))) 0 l <;> rfl
def rpBad (a b:Int) (v:S):Bool:=v.f != a||q4o v != b
def rpt_S (c:q69) (b:qek) (_:Int) (v:S):Ex×qek:=bif rpBad c.2.1 c.2.2 v then (.ret,((),false)) else (.normal,b)
def rpt_K (_:q69) (_:qek) (_:Int):Prop:=True
abbrev rpt_I (g:rpt_G):List Prop:=ixI (fun c:q69=>(c.1.ss.length:Int)) (fun c=>c.1.ss) rpt_K (rpt_f g)
abbrev rpt_M (g:rpt_G):Nat:=ixM (fun c:q69=>(c.1.ss.length:Int)) (rpt_f g)
theorem rpt_P:ixP rpt_S (fun c:q69=>c.1.ss) rpt_K:=fun _ _ _ _ h _ _=>h
abbrev qqz (g:rpt_G):Ex×rpt_G:=rpt_R g.1 g.2.1 g.2.2.1 g.2.2.2.1 g.2.2.2.2.1 g.2.2.2.2.2
theorem qvu (d:Int×q69×qek) (_:allP (ixI (fun c:q69=>(c.1.ss.length:Int)) (fun c=>c.1.ss) rpt_K d)):qqz (rpt_g d)=((ixF 0 (fun c:q69=>(c.1.ss.length:Int)) (fun c=>c.1.ss) eS.dflt rpt_S d).1,rpt_g (ixF 0 (fun c:q69=>(c.1.ss.length:Int)) (fun c=>c.1.ss) eS.dflt rpt_S d).2):=by
 obtain ⟨i,⟨v,a,b⟩,⟨⟨⟩,r⟩⟩:=d
 show rpt_R v () a b i r=_
 unfold rpt_R ixF rpt_S rpBad
 simp only[El.ag_eq,etaPa]
 cases decide (i<(v.ss.length:Int)) with
 | false=>rfl
 | true=>
  simp only[cond_true]
  generalize ((v.ss.getD i.toNat eS.dflt).f != a||q4o (v.ss.getD i.toNat eS.dflt) != b)=z
  cases z <;> rfl
theorem rpt_ok:∀ b∈q00 Tryz.prog 55,lkey b=6→q02 Tryz.prog b (rpt_C rpt_I rpt_M).g:=by
 refine qtc rpt_I rpt_M (fun g hi=>?_) (q06 (fun _=>rfl) (fun _=>rfl) qvu rpt_P)
 obtain ⟨v,⟨⟩,a,b,i,r⟩:=g
 obtain ⟨h1,h2,h3,h4,h5⟩:=hi _ (List.mem_cons_self ..)
 have h3:0≤i:=h3
 show qhb v () a b i r
 unfold qhb
 simp only[El.okL_eq,El.ag_eq]
 refine ⟨fun hlt=>?_,fun _=>trivial⟩
 have hr:=rngP i _ _ rfl h3 hlt
 exact ⟨hr,fun _=>hr,fun _=>trivial,fun _=>trivial⟩
theorem qzr (v:Path) (a b:Int) (hl:v.ss.length≤maxLen):∃ j,loopF qqz rpt_M (v,(),a,b,0,false)=(bif v.ss.any (rpBad a b) then .ret else .exit 0,v,(),a,b,j,false):=by
 have h1:loopF qqz rpt_M (v,(),a,b,0,false)=_:=q0a (φ:=rpt_f) (ψ:=rpt_g) (fun _=>rfl) (fun _=>rfl) qvu rpt_P (v,a,b) ((),false) rfl hl trivial
 rcases search (x:=0) (st:=rpt_S (v,a,b)) (p:=rpBad a b) (r:=fun _ _ _=>((),false)) (fun _ _ _=>rfl) v.ss ((),false) with ⟨ha,j,hj,c,_,_,h2⟩ | ⟨ha,h2⟩
 ·have h2:scan 0 (rpt_S (v,a,b)) 0 v.ss ((),false)=_:=h2
  refine ⟨j,h1.trans ?_⟩
  rw[h2,ha];rfl
 ·have h2:scan 0 (rpt_S (v,a,b)) 0 v.ss ((),false)=_:=h2
  refine ⟨(v.ss.length:Int),h1.trans ?_⟩
  rw[h2,ha];rfl
def sml_S (c:q63) (b:qeg) (i:Int) (v:S):Ex×qeg:=bif !decide (v=c.2.getD i.toNat eS.dflt) then (.ret,false) else (.normal,b)
def sml_K (c:q63) (_:qeg) (_:Int):Prop:=c.1.length=c.2.length
abbrev sml_I (g:sml_G):List Prop:=ixI (fun c:q63=>(c.1.length:Int)) (fun c=>c.1) sml_K (sml_f g)
abbrev sml_M (g:sml_G):Nat:=ixM (fun c:q63=>(c.1.length:Int)) (sml_f g)
theorem sml_P:ixP sml_S (fun c:q63=>c.1) sml_K:=fun _ _ _ _ h _ _=>h
abbrev qqt (g:sml_G):Ex×sml_G:=sml_R g.1 g.2.1 g.2.2.1 g.2.2.2
theorem qvq (d:Int×q63×qeg) (hi:allP (ixI (fun c:q63=>(c.1.length:Int)) (fun c=>c.1) sml_K d)):qqt (sml_g d)=((ixF 0 (fun c:q63=>(c.1.length:Int)) (fun c=>c.1) eS.dflt sml_S d).1,sml_g (ixF 0 (fun c:q63=>(c.1.length:Int)) (fun c=>c.1) eS.dflt sml_S d).2):=by
 obtain ⟨i,⟨xs,ys⟩,r⟩:=d
 obtain ⟨_,_,_,_,h5⟩:=hi _ (List.mem_cons_self ..)
 have h5:xs.length=ys.length:=h5
 show sml_R xs ys i r=_
 unfold sml_R ixF sml_S
 simp only[El.ag_eq,conjS,← h5,Bool.and_self]
 cases decide (i<(xs.length:Int)) with
 | false=>rfl
 | true=>
  simp only[cond_true]
  have e:decide (ys.getD i.toNat eS.dflt=xs.getD i.toNat eS.dflt)=decide (xs.getD i.toNat eS.dflt=ys.getD i.toNat eS.dflt):=decide_eq_decide.2 eq_comm
  rw[e]
  generalize decide (xs.getD i.toNat eS.dflt=ys.getD i.toNat eS.dflt)=z
  cases z <;> rfl
theorem sml_ok:∀ b∈q00 Tryz.prog 97,lkey b=7→q02 Tryz.prog b (sml_C sml_I sml_M).g:=by
 refine qt4 sml_I sml_M (fun g hi=>?_) (q06 (fun _=>rfl) (fun _=>rfl) qvq sml_P)
 obtain ⟨xs,ys,i,r⟩:=g
 obtain ⟨h1,h2,h3,h4,h5⟩:=hi _ (List.mem_cons_self ..)
 have h3:0≤i:=h3
 have h5:xs.length=ys.length:=h5
 show qh7 xs ys i r
 unfold qh7
 simp only[El.okL_eq,El.ag_eq,conjS,← h5,Bool.and_self]
 refine ⟨fun hlt=>?_,fun _=>?_⟩
 ·have hr:=rngP i _ _ rfl h3 hlt
  repeat' (first | exact hr | apply And.intro | intro _)
  all_goals first | trivial | exact hr.1 | exact hr.2
 ·repeat' (first | apply And.intro | intro _)
  all_goals trivial
theorem qzl (xs ys:List S) (h:xs.length=ys.length) (hl:xs.length≤maxLen):∃ j,loopF qqt sml_M (xs,ys,0,false)=(bif decide (xs=ys) then .exit 0 else .ret,xs,ys,j,false):=by
 have h1:loopF qqt sml_M (xs,ys,0,false)=_:=q0a (φ:=sml_f) (ψ:=sml_g) (fun _=>rfl) (fun _=>rfl) qvq sml_P (xs,ys) false rfl hl h
 rcases q64 (x:=0) ys eS.dflt (st:=sml_S (xs,ys)) (fun _ _ _=>rfl) xs 0 false (by omega) with ⟨h2,h3⟩ | ⟨h2,h3,h4⟩
 ·have h3:scan 0 (sml_S (xs,ys)) 0 xs false=_:=h3
  rw[h3] at h1
  rw[List.drop_zero] at h2
  refine ⟨((0:Nat):Int)+(xs.length:Int),h1.trans ?_⟩
  simp only[h2,decide_true];rfl
 ·have h3:(scan 0 (sml_S (xs,ys)) 0 xs false).1=_:=h3
  have h4:(scan 0 (sml_S (xs,ys)) 0 xs false).2.2=_:=h4
  rw[List.drop_zero] at h2
  refine ⟨(scan 0 (sml_S (xs,ys)) 0 xs false).2.1,h1.trans ?_⟩
  rw[h3,h4]
  simp only[h2,decide_false];rfl
def qqj:PTab Tryz.prog:=((((qby.cons 33 (pconP aLPo dI chkP (fun _=>[])) (q0d rck_c puI)).cons 52 (pconP aLPp dIBo (fun g=>depL g.1 g.2) (fun _=>[])) (q0d dptf_c puIBo)).cons 98 (pconP aLSs dBool (fun g=>decide (g.2∈g.1)) (fun _=>[])) (q0d hsmf_c puB)).cons 58 (pconR aLPpp (Rv.D rLS) (fun g=>getL g.1 g.2.1 g.2.2) (fun g=>[Sm g.1])) (q1v gtsf_c)).cons 134 (pconR Su.aL1 (Rv.D Su.rLE) Su.q14 (fun xs=>[xs.length≤Su.KS])) (q1v Su.qpo)
def ltM20:LTab Tryz.prog:=(ltM18.cons 55 6 (rpt_C rpt_I rpt_M) rpt_ok).cons 97 7 (sml_C sml_I sml_M) sml_ok
abbrev qro:Lam:=ltM20.lam
theorem qkc:∀ f k L,qro f k=some L→∀ b∈q00 Tryz.prog f,lkey b=k→q02 Tryz.prog b L.g:=ltM20.ok
end
end Go.Proofs.YthnojkbkojpadaaGreat

namespace Go.Proofs.YthnojkbkojpadaaGreat
noncomputable section
open Go.RowKit Go.Sx
set_option linter.unusedVariables false
abbrev aLSo:DA (List S):=.one dLS
def qqw (l:List S):Ex ×
 sml_G:=
 loopF (fun g=>sml_R g.fst g.snd.fst g.snd.snd.fst g.snd.snd.snd) sml_M (eS.ag l,eS.ag (Su.q14 (eS.ag l)).fst,(0:Int),false)
def rsm_F (l:List S):Dv.T dBool:=
 bif decide ((↑l.length:Int)<(1:Int))||decide ((↑l.length:Int) > (64:Int)) then false
 else bif (Su.q14 (eS.ag l)).snd != (0:Int)||(↑(Su.q14 (eS.ag l)).fst.length:Int) != (↑l.length:Int) then false else bif exB Ex.ret (qqw l).fst then (qqw l).snd.snd.snd.snd else true
def qal (l:List S):Prop:=
 (decide ((↑l.length:Int)<(1:Int))||decide ((↑l.length:Int) > (64:Int)))=false→eS.okL l∧(eS.ag l).length≤Su.KS∧(((Su.q14 (eS.ag l)).snd != (0:Int)||(↑(Su.q14 (eS.ag l)).fst.length:Int) != (↑l.length:Int))=false→eS.okL l∧eS.okL (Su.q14 (eS.ag l)).fst∧Lp.ixJ (fun c=>(↑c.fst.length:Int)) (fun c=>c.fst) sml_K (sml_f (eS.ag l,eS.ag (Su.q14 (eS.ag l)).fst,(0:Int),false)))
theorem qzo (pre:DA.T aLSo→List Prop) (h:∀ g,DA.bd aLSo g→(∀ p∈pre g,p)→qal g):q04 Tryz.prog 97 aLSo dBool (fun g=>rsm_F g) pre:=q08 (Γ:=(PTab.gamz qqj [] [])) (Λ:=qro) (PTab.okz qqj [] []) qkc 100 default (fun g=>qal g) (fun g=>by kernel_rfl) (fun g=>by kernel_rfl) h
end
end Go.Proofs.YthnojkbkojpadaaGreat

namespace Go.Proofs.YthnojkbkojpadaaGreat
noncomputable section
open Go.RowKit Go.Sx Go.Lp
def rsmC (l:List S):Bool:=!((l.length:Int)==(0:Int)||decide ((l.length:Int) > (64:Int)))&&((Su.q14 l).2==(0:Int)&&decide ((Su.q14 l).1=l))
theorem rsm_c:q04 Tryz.prog 97 aLSo dBool rsmC (fun _=>[]):=by
 refine q0b (qzo (fun _=>[]) fun l hb _=>?_) fun l hb _=>?_
 ·show qal l
  unfold qal
  simp only[El.okL_eq,El.ag_eq]
  intro h1
  simp only[Bool.or_eq_false_iff,decide_eq_false_iff_not] at h1
  refine ⟨trivial,by unfold Su.KS;omega,fun h2=>⟨trivial,trivial,ixJ0 rfl (by show l.length≤maxLen;unfold maxLen;omega) ?_⟩⟩
  simp only[Bool.or_eq_false_iff,bne_eq_false_iff_eq] at h2
  show l.length=(Su.q14 l).1.length
  omega
 ·show rsm_F l=rsmC l
  unfold rsm_F rsmC qqw
  simp only[El.ag_eq]
  have e0:decide ((l.length:Int)<1)=((l.length:Int)==(0:Int)):=by
   rw[Bool.eq_iff_iff,decide_eq_true_eq,beq_iff_eq];omega
  rw[e0]
  cases h1:((l.length:Int)==(0:Int)||decide ((l.length:Int) > (64:Int))) with
  | true=>rfl
  | false=>
   simp only[cond_false,Bool.not_false,Bool.true_and]
   simp only[Bool.or_eq_false_iff,decide_eq_false_iff_not] at h1
   cases h2:(Su.q14 l).2==(0:Int) with
   | false=>
    have:((Su.q14 l).2 != (0:Int))=true:=by unfold bne;rw[h2];rfl
    rw[this];rfl
   | true=>
    have:((Su.q14 l).2 != (0:Int))=false:=by unfold bne;rw[h2];rfl
    rw[this]
    simp only[Bool.false_or,Bool.true_and]
    by_cases h3:(Su.q14 l).1.length=l.length
    ·have e3:(((Su.q14 l).1.length:Int) != (l.length:Int))=false:=by rw[h3];simp
     rw[e3,cond_false]
     obtain ⟨j,hj⟩:=qzl l (Su.q14 l).1 h3.symm (by unfold maxLen;omega)
     have hj:loopF (fun g:sml_G=>sml_R g.1 g.2.1 g.2.2.1 g.2.2.2) sml_M (l,(Su.q14 l).1,0,false)=_:=hj
     rw[hj]
     by_cases h4:l=(Su.q14 l).1
     ·rw[← h4];simp[exB]
     ·have h5:¬ (Su.q14 l).1=l:=fun h=>h4 h.symm
      simp[h4,h5,exB]
    ·have e3:(((Su.q14 l).1.length:Int) != (l.length:Int))=true:=by
      rw[bne_iff_ne];omega
     rw[e3,cond_true]
     have:¬ (Su.q14 l).1=l:=fun h=>h3 (by rw[h])
     simp[this]
def qqi:PTab Tryz.prog:=qqj.cons 97 (pconP aLSo dBool rsmC (fun _=>[])) (q0d rsm_c puB)
end
end Go.Proofs.YthnojkbkojpadaaGreat

namespace Go.Proofs.YthnojkbkojpadaaGreat
noncomputable section
open Go.RowKit Go.Sx
set_option linter.unusedVariables false
abbrev aLPv:DA (List Path×Path):=.cons dLP (.one dPa)
def qr0 (l:List Path) (v:Path):Ex ×
 rpt_G:=
 loopF (fun g=>rpt_R g.fst g.snd.fst g.snd.snd.fst g.snd.snd.snd.fst g.snd.snd.snd.snd.fst g.snd.snd.snd.snd.snd) rpt_M (Path.mk v.fr v.to (eS.ag v.ss),(),(depL (ePa.ag l) v.fr).fst,(depL (ePa.ag l) v.to).fst,(0:Int),false)
def rph_F (l:List Path) (v:Path):Dv.T dBool:=
 bif !(depL (ePa.ag l) v.fr).snd||(!(depL (ePa.ag l) v.to).snd||(!rsmC (eS.ag v.ss)||conj ([v.fr.node==v.to.node]++([v.fr.port==v.to.port]++[]))&&!decide (q8p (depL (ePa.ag l) v.fr).fst∈eS.ag v.ss))) then false
 else bif exB Ex.ret (qr0 l v).fst then (qr0 l v).snd.snd.snd.snd.snd.snd else true
def qan (l:List Path) (v:Path):Prop:=
 ePa.okL l∧ePa.okL l∧((!!(depL (ePa.ag l) v.fr).snd)=true→(!!(depL (ePa.ag l) v.to).snd)=true→eS.okL v.ss)∧((!!(depL (ePa.ag l) v.fr).snd)=true→(!!(depL (ePa.ag l) v.to).snd)=true→(!!rsmC (eS.ag v.ss))=true→conj ([v.fr.node==v.to.node]++([v.fr.port==v.to.port]++[]))=true→eS.okL v.ss)∧((!(depL (ePa.ag l) v.fr).snd||(!(depL (ePa.ag l) v.to).snd||(!rsmC (eS.ag v.ss)||conj ([v.fr.node==v.to.node]++([v.fr.port==v.to.port]++[]))&&!decide (q8p (depL (ePa.ag l) v.fr).fst∈eS.ag v.ss))))=false→eS.okL v.ss∧Lp.ixJ (fun c=>(↑c.fst.ss.length:Int)) (fun c=>c.fst.ss) rpt_K (rpt_f (Path.mk v.fr v.to (eS.ag v.ss),(),(depL (ePa.ag l) v.fr).fst,(depL (ePa.ag l) v.to).fst,(0:Int),false)))
theorem qzs (pre:DA.T aLPv→List Prop) (h:∀ g,DA.bd aLPv g→(∀ p∈pre g,p)→qan g.1 g.2):q04 Tryz.prog 55 aLPv dBool (fun g=>rph_F g.1 g.2) pre:=q08 (Γ:=(PTab.gamz qqi [] [])) (Λ:=qro) (PTab.okz qqi [] []) qkc 100 default (fun g=>qan g.1 g.2) (fun g=>by kernel_rfl) (fun g=>by kernel_rfl) h
end
end Go.Proofs.YthnojkbkojpadaaGreat

namespace Go.Proofs.YthnojkbkojpadaaGreat
noncomputable section
open Go.RowKit Go.Sx Go.Lp
def depO (l:List Path) (p:Place):Option Int:=if (depL l p).2=true then some (depL l p).1 else none
theorem qk1 {l:List S} (h:((Su.q14 l).2==(0:Int))=true):∀ s∈l,may_F s=true:=by
 intro s hs
 cases hm:may_F s with
 | true=>rfl
 | false=>
  have:l.any Su.mayN=true:=List.any_eq_true.2 ⟨s,hs,by show (!may_F s)=true;rw[hm];rfl⟩
  unfold Su.q14 at h
  rw[this] at h
  have h:((20:Int)==0)=true:=h
  exact absurd h (by decide)
theorem bad_eqP {l:List S} (a b:Int) (h:((Su.q14 l).2==(0:Int))=true):l.any (qa5 a b)=l.any (rpBad a b):=by
 have hm:=qk1 h
 have:∀ s∈l,qa5 a b s=rpBad a b s:=fun s hs=>by
  unfold qa5 rpBad q5p q2w q4o
  rw[hm s hs];rfl
 rw[Bool.eq_iff_iff,List.any_eq_true,List.any_eq_true]
 constructor
 ·rintro ⟨s,hs,h2⟩;exact ⟨s,hs,by rw[← this s hs];exact h2⟩
 ·rintro ⟨s,hs,h2⟩;exact ⟨s,hs,by rw[this s hs];exact h2⟩
theorem qr8 (d:Int):q8p d=q9s d:=rfl
theorem qqx {l:List S} (h:rsmC l=true):l.length≤maxLen:=by
 unfold rsmC at h
 simp only[Bool.and_eq_true,Bool.not_eq_true',Bool.or_eq_false_iff,decide_eq_false_iff_not] at h
 unfold maxLen;omega
theorem rph_c:q04 Tryz.prog 55 aLPv dBool (fun g=>pathC (depO g.1) g.2) (fun _=>[]):=by
 refine q0b (qzs (fun _=>[]) fun g hb _=>?_) fun g hb _=>?_
 ·obtain ⟨l,v⟩:=g
  show qan l v
  unfold qan
  simp only[El.okL_eq,El.ag_eq]
  refine ⟨trivial,trivial,fun _ _=>trivial,fun _ _ _ _=>trivial,fun h1=>⟨trivial,?_⟩⟩
  simp only[Bool.or_eq_false_iff,Bool.not_eq_false'] at h1
  exact ixJ0 rfl (qqx h1.2.2.1) trivial
 ·obtain ⟨l,v⟩:=g
  show rph_F l v=pathC (depO l) v
  unfold rph_F pathC depO qr0
  simp only[El.ag_eq,conjP,etaPa,qr8]
  generalize depL l v.fr=A
  generalize depL l v.to=B
  obtain ⟨a,a2⟩:=A
  obtain ⟨b,b2⟩:=B
  cases a2 with
  | false=>rfl
  | true=>
   cases b2 with
   | false=>rfl
   | true=>
    simp only[Bool.not_true,Bool.false_or,if_true]
    unfold pathA
    cases h1:rsmC v.ss with
    | false=>
     simp only[Bool.not_false,Bool.true_or,cond_true]
     unfold rsmC at h1
     generalize (!((v.ss.length:Int)==(0:Int)||decide ((v.ss.length:Int) > (64:Int))))=x at h1 ⊢
     generalize ((Su.q14 v.ss).2==(0:Int))=y at h1 ⊢
     generalize decide ((Su.q14 v.ss).1=v.ss)=z at h1 ⊢
     cases x <;> cases y <;> cases z <;> simp_all
    | true=>
     obtain ⟨j,hj⟩:=qzr v a b (qqx h1)
     have hj:loopF (fun g:rpt_G=>rpt_R g.1 g.2.1 g.2.2.1 g.2.2.2.1 g.2.2.2.2.1 g.2.2.2.2.2) rpt_M (v,(),a,b,0,false)=_:=hj
     rw[hj]
     unfold rsmC at h1
     simp only[Bool.and_eq_true] at h1
     obtain ⟨x1,x2,x3⟩:=h1
     rw[bad_eqP a b x2,x1,x2,x3]
     generalize v.ss.any (rpBad a b)=p
     generalize decide (v.fr=v.to)=q
     generalize decide (q9s a∈v.ss)=r
     cases p <;> cases q <;> cases r <;> rfl
def qje:PTab Tryz.prog:=(qqi.cons 55 (pconP aLPv dBool (fun g=>pathC (depO g.1) g.2) (fun _=>[])) (q0d rph_c puB))
end
end Go.Proofs.YthnojkbkojpadaaGreat

namespace Go.Proofs.YthnojkbkojpadaaGreat
noncomputable section
open Go.RowKit Go.Sx
set_option linter.unusedVariables false
abbrev dck_G:Type:=List Path×Int×Int×Int
def qyc:LP 0 dck_G:=.pair (.slot 0 0 dLP) (.pair (.slot 0 4 dI) (.pair (.slot 0 3 dI) (.slot 0 2 dI)))
def dck_R (xs:List Path) (i:Int) (k:Int) (r:Int):Ex×dck_G:=
 bif decide (i<(↑xs.length:Int)) then bif bif decide (i > (0:Int)) then decide (q4t (Path.mk (xs.getD (IntKind.i64.wrap (i - (1:Int))).toNat ePa.dflt).fr (xs.getD (IntKind.i64.wrap (i - (1:Int))).toNat ePa.dflt).to (eS.ag (xs.getD (IntKind.i64.wrap (i - (1:Int))).toNat ePa.dflt).ss)) (Path.mk (xs.getD i.toNat ePa.dflt).fr (xs.getD i.toNat ePa.dflt).to (eS.ag (xs.getD i.toNat ePa.dflt).ss))≥(0:Int))||!pathC (depO (ePa.ag xs)) (Path.mk (xs.getD i.toNat ePa.dflt).fr (xs.getD i.toNat ePa.dflt).to (eS.ag (xs.getD i.toNat ePa.dflt).ss)) else !pathC (depO (ePa.ag xs)) (Path.mk (xs.getD i.toNat ePa.dflt).fr (xs.getD i.toNat ePa.dflt).to (eS.ag (xs.getD i.toNat ePa.dflt).ss)) then (Ex.ret,ePa.ag xs,i,k,(110:Int)) else (Ex.normal,ePa.ag xs,IntKind.i64.wrap (i+(1:Int)),bif conj ([(xs.getD i.toNat ePa.dflt).fr.node==(xs.getD i.toNat ePa.dflt).to.node]++([(xs.getD i.toNat ePa.dflt).fr.port==(xs.getD i.toNat ePa.dflt).to.port]++[])) then IntKind.i64.wrap (k+(1:Int)) else k,r)
 else (Ex.exit (0:Nat),ePa.ag xs,i,k,r)
def qiy (xs:List Path) (i:Int) (k:Int) (r:Int):Prop:=
 (decide (i<(↑xs.length:Int))=true→(decide (i > (0:Int))=true→(0:Int)≤IntKind.i64.wrap (i - (1:Int))∧IntKind.i64.wrap (i - (1:Int))<(↑xs.length:Int))∧(decide (i > (0:Int))=true→(0:Int)≤i∧i<(↑xs.length:Int))∧(decide (i > (0:Int))=true→eS.okL (xs.getD (IntKind.i64.wrap (i - (1:Int))).toNat ePa.dflt).ss)∧(decide (i > (0:Int))=true→eS.okL (xs.getD i.toNat ePa.dflt).ss)∧(decide (i > (0:Int))=true→(!decide (q4t (Path.mk (xs.getD (IntKind.i64.wrap (i - (1:Int))).toNat ePa.dflt).fr (xs.getD (IntKind.i64.wrap (i - (1:Int))).toNat ePa.dflt).to (eS.ag (xs.getD (IntKind.i64.wrap (i - (1:Int))).toNat ePa.dflt).ss)) (Path.mk (xs.getD i.toNat ePa.dflt).fr (xs.getD i.toNat ePa.dflt).to (eS.ag (xs.getD i.toNat ePa.dflt).ss))≥(0:Int)))=true→(0:Int)≤i∧i<(↑xs.length:Int))∧(decide (i > (0:Int))=true→(!decide (q4t (Path.mk (xs.getD (IntKind.i64.wrap (i - (1:Int))).toNat ePa.dflt).fr (xs.getD (IntKind.i64.wrap (i - (1:Int))).toNat ePa.dflt).to (eS.ag (xs.getD (IntKind.i64.wrap (i - (1:Int))).toNat ePa.dflt).ss)) (Path.mk (xs.getD i.toNat ePa.dflt).fr (xs.getD i.toNat ePa.dflt).to (eS.ag (xs.getD i.toNat ePa.dflt).ss))≥(0:Int)))=true→ePa.okL xs)∧(decide (i > (0:Int))=true→(!decide (q4t (Path.mk (xs.getD (IntKind.i64.wrap (i - (1:Int))).toNat ePa.dflt).fr (xs.getD (IntKind.i64.wrap (i - (1:Int))).toNat ePa.dflt).to (eS.ag (xs.getD (IntKind.i64.wrap (i - (1:Int))).toNat ePa.dflt).ss)) (Path.mk (xs.getD i.toNat ePa.dflt).fr (xs.getD i.toNat ePa.dflt).to (eS.ag (xs.getD i.toNat ePa.dflt).ss))≥(0:Int)))=true→eS.okL (xs.getD i.toNat ePa.dflt).ss)∧((!decide (i > (0:Int)))=true→(0:Int)≤i∧i<(↑xs.length:Int))∧((!decide (i > (0:Int)))=true→ePa.okL xs)∧((!decide (i > (0:Int)))=true→eS.okL (xs.getD i.toNat ePa.dflt).ss)∧((bif decide (i > (0:Int)) then decide (q4t (Path.mk (xs.getD (IntKind.i64.wrap (i - (1:Int))).toNat ePa.dflt).fr (xs.getD (IntKind.i64.wrap (i - (1:Int))).toNat ePa.dflt).to (eS.ag (xs.getD (IntKind.i64.wrap (i - (1:Int))).toNat ePa.dflt).ss)) (Path.mk (xs.getD i.toNat ePa.dflt).fr (xs.getD i.toNat ePa.dflt).to (eS.ag (xs.getD i.toNat ePa.dflt).ss))≥(0:Int))||!pathC (depO (ePa.ag xs)) (Path.mk (xs.getD i.toNat ePa.dflt).fr (xs.getD i.toNat ePa.dflt).to (eS.ag (xs.getD i.toNat ePa.dflt).ss)) else !pathC (depO (ePa.ag xs)) (Path.mk (xs.getD i.toNat ePa.dflt).fr (xs.getD i.toNat ePa.dflt).to (eS.ag (xs.getD i.toNat ePa.dflt).ss)))=true→ePa.okL xs)∧((bif decide (i > (0:Int)) then decide (q4t (Path.mk (xs.getD (IntKind.i64.wrap (i - (1:Int))).toNat ePa.dflt).fr (xs.getD (IntKind.i64.wrap (i - (1:Int))).toNat ePa.dflt).to (eS.ag (xs.getD (IntKind.i64.wrap (i - (1:Int))).toNat ePa.dflt).ss)) (Path.mk (xs.getD i.toNat ePa.dflt).fr (xs.getD i.toNat ePa.dflt).to (eS.ag (xs.getD i.toNat ePa.dflt).ss))≥(0:Int))||!pathC (depO (ePa.ag xs)) (Path.mk (xs.getD i.toNat ePa.dflt).fr (xs.getD i.toNat ePa.dflt).to (eS.ag (xs.getD i.toNat ePa.dflt).ss)) else !pathC (depO (ePa.ag xs)) (Path.mk (xs.getD i.toNat ePa.dflt).fr (xs.getD i.toNat ePa.dflt).to (eS.ag (xs.getD i.toNat ePa.dflt).ss)))=false→((0:Int)≤i∧i<(↑xs.length:Int))∧((0:Int)≤i∧i<(↑xs.length:Int))∧ePa.okL xs))∧(decide (i<(↑xs.length:Int))=false→ePa.okL xs)
theorem dck_one:((q00 Tryz.prog 16).filter fun c=>Nat.beq (lkey c) 3).length=1:=by kernel_rfl
abbrev q6w:Type:=List Path
abbrev qg8:Type:=Int×Int
def dck_f (g:dck_G):Int×q6w×qg8:=(g.2.1,g.1,(g.2.2.1,g.2.2.2))
def dck_g (d:Int×q6w×qg8):dck_G:=(d.2.1,d.1,d.2.2.1,d.2.2.2)
abbrev qg7 (g:dck_G):Ex×dck_G:=dck_R g.1 g.2.1 g.2.2.1 g.2.2.2
abbrev qya (g:dck_G):Prop:=qiy g.1 g.2.1 g.2.2.1 g.2.2.2
theorem dck_es (g:dck_G):(qg7 g).1=.normal∨(qg7 g).1∈([.ret,.exit 0]:List Ex):=by
 unfold qg7 dck_R
 repeat' (first | (left;rfl) | (right;simp only[cond_true,cond_false];simp;done) | (rw[Bool.cond_eq_ite];split))
abbrev dck_C (Inv:dck_G→List Prop) (m:dck_G→Nat):LCon:=loopR [.ret,.exit 0] (loopBody Tryz.prog 16 3) qyc [] 50 Inv qg7 m
theorem quu (Inv:dck_G→List Prop) (m:dck_G→Nat) (hs:∀ g,allP (Inv g)→qya g) (hg:Goes qg7 m fun g=>allP (Inv g)):∀ b∈q00 Tryz.prog 16,lkey b=3→q02 Tryz.prog b (dck_C Inv m).g:=q0g (Γ:=(PTab.gamz qje [] [])) (Λ:=noΛ) (PTab.okz qje [] []) q0o 100 16 3 50 qyc [] Inv qg7 qya m default [.ret,.exit 0] dck_one (fun rd T B HL HB ds g=>by kernel_rfl) (fun rd T B HL HB ds g=>by kernel_rfl) hs hg dck_es
end
end Go.Proofs.YthnojkbkojpadaaGreat

namespace Go.Proofs.YthnojkbkojpadaaGreat
noncomputable section
open Go.RowKit Go.Sx Go.Lp
theorem qnr (a b:Place):q81 a b=q6f a b:=by
 unfold q81 q6f
 simp only[Su.qj2]
 rcases Su.cmp3 a.node b.node with ⟨h,e⟩ | ⟨h,e⟩ | ⟨h,e⟩ <;> rw[e]
 ·have h1:(a.node != b.node)=true:=by rw[bne_iff_ne];omega
  simp[h1,h]
 ·have h1:(a.node != b.node)=true:=by rw[bne_iff_ne];omega
  have h2:¬ a.node<b.node:=by omega
  simp[h1,h2]
 ·rw[h]
  rcases Su.cmp3 a.port b.port with ⟨h,e⟩ | ⟨h,e⟩ | ⟨h,e⟩ <;> rw[e]
  ·simp[h]
  ·have h2:¬ a.port<b.port:=by omega
   simp[h,h2]
  ·simp[h]
theorem qte (a b:Path):q4t a b=q29 a b:=by
 unfold q4t q29
 rw[qnr,qnr]
 cases h:q6f a.fr b.fr != (0:Int) with
 | true=>rfl
 | false=>
  simp only[cond_false]
  cases h2:q6f a.to b.to != (0:Int) with
  | true=>rfl
  | false=>simpa using h2
def keyE (e:En):List Int:=[e.1.node,e.1.port,e.2.node,e.2.port]
theorem qu4 (a b:En) (h:keyE a=keyE b):a=b:=by
 obtain ⟨⟨f,k⟩,⟨c,n⟩⟩:=a
 obtain ⟨⟨f',k'⟩,⟨c',n'⟩⟩:=b
 simp only[keyE,List.cons.injEq,and_true] at h
 obtain ⟨rfl,rfl,rfl,rfl⟩:=h
 rfl
def lexE (a b:En):Int:=lexC (keyE a) (keyE b)
theorem toE:TO lexE:=to_lex keyE qu4 fun _ _=>Iff.rfl
theorem qax (a b:Path):q29 a b=lexE (keyPT a) (keyPT b):=by
 show q29 a b=lexC [a.fr.node,a.fr.port,a.to.node,a.to.port] [b.fr.node,b.fr.port,b.to.node,b.to.port]
 unfold q29 q6f
 simp only[Su.qj2,lexC]
 rcases Su.cmp3 a.fr.node b.fr.node with ⟨h,e⟩ | ⟨h,e⟩ | ⟨h,e⟩ <;> simp only[e]
 ·simp[h]
 ·have:¬ a.fr.node<b.fr.node:=by omega
  simp[h,this]
 rw[if_neg (by omega),if_neg (by omega)]
 rcases Su.cmp3 a.fr.port b.fr.port with ⟨h,e⟩ | ⟨h,e⟩ | ⟨h,e⟩ <;> simp only[e]
 ·simp[h]
 ·have:¬ a.fr.port<b.fr.port:=by omega
  simp[h,this]
 rw[if_neg (by omega),if_neg (by omega)]
 rcases Su.cmp3 a.to.node b.to.node with ⟨h,e⟩ | ⟨h,e⟩ | ⟨h,e⟩ <;> simp only[e]
 ·simp[h]
 ·have:¬ a.to.node<b.to.node:=by omega
  simp[h,this]
 rw[if_neg (by omega),if_neg (by omega)]
 rcases Su.cmp3 a.to.port b.to.port with ⟨h,e⟩ | ⟨h,e⟩ | ⟨h,e⟩ <;> simp only[e]
 ·simp[h]
 ·have:¬ a.to.port<b.to.port:=by omega
  simp[h,this]
 rw[if_neg (by omega),if_neg (by omega)]
 simp
def dck_S (c:q6w) (b:qg8) (i:Int) (v:Path):Ex×qg8:=bif chkAt c (pathC (depO c)) i v then (.ret,(b.1,110)) else (.normal,(bif decide (v.fr=v.to) then b.1+1 else b.1,b.2))
def dck_K (_:q6w) (b:qg8) (i:Int):Prop:=0≤b.1∧b.1≤i
abbrev dck_I (g:dck_G):List Prop:=ixI (fun c:q6w=>(c.length:Int)) (fun c=>c) dck_K (dck_f g)
abbrev dck_M (g:dck_G):Nat:=ixM (fun c:q6w=>(c.length:Int)) (dck_f g)
theorem dck_P:ixP dck_S (fun c:q6w=>c) dck_K:=fun c b i v h _ hn=>by
 have h:0≤b.1∧b.1≤i:=h
 unfold dck_S at hn ⊢
 cases hc:chkAt c (pathC (depO c)) i v with
 | true=>rw[hc] at hn;cases hn
 | false=>
  show 0≤(bif decide (v.fr=v.to) then b.1+1 else b.1)∧(bif decide (v.fr=v.to) then b.1+1 else b.1)≤i+1
  cases decide (v.fr=v.to)
  ·show 0≤b.1∧b.1≤i+1;omega
  ·show 0≤b.1+1∧b.1+1≤i+1;omega
abbrev qsf (g:dck_G):Ex×dck_G:=dck_R g.1 g.2.1 g.2.2.1 g.2.2.2
theorem qyb (d:Int×q6w×qg8) (hi:allP (ixI (fun c:q6w=>(c.length:Int)) (fun c=>c) dck_K d)):qsf (dck_g d)=((ixF 0 (fun c:q6w=>(c.length:Int)) (fun c=>c) ePa.dflt dck_S d).1,dck_g (ixF 0 (fun c:q6w=>(c.length:Int)) (fun c=>c) ePa.dflt dck_S d).2):=by
 obtain ⟨i,xs,⟨k,r⟩⟩:=d
 obtain ⟨_,h2,h3,h4,h5,h6⟩:=hi _ (List.mem_cons_self ..)
 have h2:xs.length≤maxLen:=h2
 have h4:i≤(xs.length:Int):=h4
 have h5:0≤k:=h5
 have h6:k≤i:=h6
 show dck_R xs i k r=_
 unfold dck_R ixF dck_S chkAt ordAt
 simp only[El.ag_eq,etaPa,qte,conjP]
 generalize (xs.getD i.toNat ePa.dflt)=v
 cases hlt:decide (i<(xs.length:Int)) with
 | false=>rfl
 | true=>
  have hlt:=of_decide_eq_true hlt
  have hw:IntKind.i64.wrap (k+1)=k+1:=Lp.wr ⟨by omega,by unfold maxLen at h2;omega⟩
  simp only[cond_true,hw]
  generalize decide (q29 (xs.getD (IntKind.i64.wrap (i - (1:Int))).toNat ePa.dflt) v≥(0:Int))=z
  generalize pathC (depO xs) v=y
  cases decide (i > (0:Int)) <;> cases z <;> cases y <;> rfl
theorem dck_ok:∀ b∈q00 Tryz.prog 16,lkey b=3→q02 Tryz.prog b (dck_C dck_I dck_M).g:=by
 refine quu dck_I dck_M (fun g hi=>?_) (q06 (fun _=>rfl) (fun _=>rfl) qyb dck_P)
 obtain ⟨xs,i,k,r⟩:=g
 obtain ⟨h1,h2,h3,h4,h5⟩:=hi _ (List.mem_cons_self ..)
 have h2:xs.length≤maxLen:=h2
 have h3:0≤i:=h3
 show qiy xs i k r
 unfold qiy
 simp only[El.okL_eq,El.ag_eq]
 refine ⟨fun hlt=>?_,fun _=>?_⟩
 ·have hr:=rngP i _ _ rfl h3 hlt
  have hp:decide (i > 0)=true→0≤IntKind.i64.wrap (i - 1)∧IntKind.i64.wrap (i - 1)<(xs.length:Int):=fun h=>wrP (of_decide_eq_true h) _ h2 hr.2
  refine ⟨hp,?_⟩
  repeat' (first | exact hr | apply And.intro | intro _)
  all_goals first | trivial | exact hr.1 | exact hr.2
 ·repeat' (first | apply And.intro | intro _)
  all_goals trivial
theorem dck_run (xs:List Path) (k2:xs.length≤maxLen):∃ j k,loopF qsf dck_M (xs,0,0,0)=(bif anyAt (chkAt xs (pathC (depO xs))) 0 xs then .ret else .exit 0,xs,j,bif anyAt (chkAt xs (pathC (depO xs))) 0 xs then k else ((selfs xs).length:Int),bif anyAt (chkAt xs (pathC (depO xs))) 0 xs then 110 else 0):=by
 have h:=q0a (φ:=dck_f) (ψ:=dck_g) (fun _=>rfl) (fun _=>rfl) qyb dck_P xs (0,0) rfl k2 ⟨Int.le_refl _,Int.le_refl _⟩
 have h:loopF qsf dck_M (xs,0,0,0)=_:=h
 have hf:∀ (l:List Path) (b:Int×Int),l.foldl (fun (b:Int×Int) (v:Path)=>(bif decide (v.fr=v.to) then b.1+1 else b.1,b.2)) b=(b.1+((selfs l).length:Int),b.2):=by
  intro l
  induction l with
  | nil=>intro b;simp[selfs]
  | cons v l ih=>
   intro b
   rw[List.foldl_cons,ih]
   unfold selfs
   rw[List.filter_cons]
   cases decide (v.fr=v.to)
   ·rfl
   ·show (b.1+1+_,b.2)=(b.1+((_ :: _:List Path).length:Int),b.2)
    rw[List.length_cons]
    simp only[Prod.mk.injEq,and_true]
    omega
 rcases qln (x:=0) (e:=.ret) (st:=dck_S xs) (p:=chkAt xs (pathC (depO xs))) (h:=fun b=>(b.1,110)) (f:=fun b v=>(bif decide (v.fr=v.to) then b.1+1 else b.1,b.2)) (by intro h;cases h) (fun _ _ _=>rfl) xs 0 (0,0) with ⟨ha,j,b',h2⟩ | ⟨ha,h2⟩
 ·have h2:scan 0 (dck_S xs) 0 xs (0,0)=_:=h2
  refine ⟨j,b'.1,h.trans ?_⟩
  rw[h2,ha];rfl
 ·have h2:scan 0 (dck_S xs) 0 xs (0,0)=_:=h2
  refine ⟨0+(xs.length:Int),0,h.trans ?_⟩
  rw[h2,ha,hf]
  simp only[Int.zero_add]
  rfl
def ltM26:LTab Tryz.prog:=(ltM20.cons 16 3 (dck_C dck_I dck_M) dck_ok)
abbrev qf9:Lam:=ltM26.lam
theorem q6n:∀ f k L,qf9 f k=some L→∀ b∈q00 Tryz.prog f,lkey b=k→q02 Tryz.prog b L.g:=ltM26.ok
end
end Go.Proofs.YthnojkbkojpadaaGreat

namespace Go.Proofs.YthnojkbkojpadaaGreat
noncomputable section
open Go.RowKit Go.Sx
set_option linter.unusedVariables false
def qix (l:List Path):Ex ×
 dck_G:=
 loopF (fun g=>dck_R g.fst g.snd.fst g.snd.snd.fst g.snd.snd.snd) dck_M (ePa.ag l,(0:Int),(0:Int),(0:Int))
def qse (l:List Path):Dv.T dI:=
 bif exB Ex.ret (qix l).fst then (qix l).snd.snd.snd.snd
 else bif decide ((qix l).snd.snd.snd.fst > (128:Int)) then (110:Int) else (0:Int)
def q9a (l:List Path):Prop:=
 ePa.okL l∧Lp.ixJ (fun c=>(↑(List.length c):Int)) (fun c=>c) dck_K (dck_f (ePa.ag l,(0:Int),(0:Int),(0:Int)))
theorem qut (pre:DA.T aLPo→List Prop) (h:∀ g,DA.bd aLPo g→(∀ p∈pre g,p)→q9a g):q04 Tryz.prog 16 aLPo dI (fun g=>qse g) pre:=q08 (Γ:=(PTab.gamz qje [] [])) (Λ:=qf9) (PTab.okz qje [] []) q6n 100 default (fun g=>q9a g) (fun g=>by kernel_rfl) (fun g=>by kernel_rfl) h
end
end Go.Proofs.YthnojkbkojpadaaGreat

namespace Go.Proofs.YthnojkbkojpadaaGreat
noncomputable section
open Go.RowKit Go.Sx Go.Lp
def dckC (l:List Path):Int:=bif anyAt (chkAt l (pathC (depO l))) 0 l then 110 else bif decide (((selfs l).length:Int) > 128) then 110 else 0
theorem dck_c:q04 Tryz.prog 16 aLPo dI dckC (fun _=>[]):=by
 refine q0b (qut (fun _=>[]) fun l hb _=>?_) fun l hb _=>?_
 ·have hl:l.length≤maxLen:=hb.1
  show q9a l
  unfold q9a
  simp only[El.okL_eq,El.ag_eq]
  exact ⟨trivial,ixJ0 rfl hl ⟨Int.le_refl _,Int.le_refl _⟩⟩
 ·have hl:l.length≤maxLen:=hb.1
  show qse l=dckC l
  unfold qse qix dckC
  simp only[El.ag_eq]
  obtain ⟨j,k,hj⟩:=dck_run l hl
  have hj:loopF (fun g:dck_G=>dck_R g.1 g.2.1 g.2.2.1 g.2.2.2) dck_M (l,0,0,0)=_:=hj
  rw[hj]
  cases anyAt (chkAt l (pathC (depO l))) 0 l <;> rfl
def Str (l:List Path):Prop:=l.Pairwise fun a b=>lexE (keyPT a) (keyPT b)<0
theorem q9e (l0:List Path) (q:Path→Bool):∀ (l:List Path) (i:Int),anyAt (chkAt l0 q) i l=(anyAt (ordAt l0) i l||l.any fun v=>!q v)
 | [],_=>rfl
 | a :: l,i=>by
  unfold anyAt
  rw[q9e l0 q l (i+1),List.any_cons]
  unfold chkAt
  generalize ordAt l0 i a=x
  generalize q a=y
  generalize anyAt (ordAt l0) (i+1) l=z
  generalize (l.any fun v=>!q v)=w
  cases x <;> cases y <;> cases z <;> cases w <;> rfl
theorem qvk (l:List Path) (hl:l.length≤maxLen):∀ (r pre:List Path) (a:Path),l=pre++a :: r→anyAt (ordAt l) ((pre.length+1:Nat):Int) r=false→Str (a :: r)
 | [],_,a,_,_=>by
  unfold Str
  simp
 | b :: r,pre,a,he,h=>by
  unfold anyAt at h
  rw[Bool.or_eq_false_iff] at h
  obtain ⟨h1,h2⟩:=h
  have hlen:pre.length+2+r.length=l.length:=by rw[he];simp;omega
  have hw:IntKind.i64.wrap (((pre.length+1:Nat):Int) - 1)=(pre.length:Int):=by
   have h9:IntKind.i64.wrap (((pre.length+1:Nat):Int) - 1)=((pre.length+1:Nat):Int) - 1:=Lp.wr ⟨by omega,by unfold maxLen at hl;omega⟩
   rw[h9];omega
  have hab:lexE (keyPT a) (keyPT b)<0:=by
   unfold ordAt at h1
   have h0:decide (((pre.length+1:Nat):Int) > 0)=true:=decide_eq_true (by omega)
   rw[h0,hw,cond_true] at h1
   have hg:l.getD (pre.length:Int).toNat ePa.dflt=a:=by
    rw[he];simp
   rw[hg,qax] at h1
   have h1:¬ (lexE (keyPT a) (keyPT b)≥(0:Int)):=of_decide_eq_false h1
   omega
  have ih:=qvk l hl r (pre++[a]) b (by rw[he];simp) (by
   rw[List.length_append,show (([a]:List Path).length)=1 from rfl,show ((pre.length+1+1:Nat):Int)=((pre.length+1:Nat):Int)+1 by omega]
   exact h2)
  unfold Str at ih ⊢
  refine List.pairwise_cons.2 ⟨fun x hx=>?_,ih⟩
  rcases List.mem_cons.1 hx with rfl | hx
  ·exact hab
  ·exact toE.trans hab ((List.pairwise_cons.1 ih).1 x hx)
theorem qqn (l:List Path) (hl:l.length≤maxLen) (h:anyAt (ordAt l) 0 l=false):Str l:=by
 match l,h with
 | [],_=>exact List.Pairwise.nil
 | a :: r,h=>
  have h2:anyAt (ordAt (a :: r)) (0+1) r=false:=by
   have h:=h
   unfold anyAt at h
   rw[Bool.or_eq_false_iff] at h
   exact h.2
  exact qvk (a :: r) hl r [] a rfl h2
theorem qqm {l:List Path} (h:Str l) {a b:Path} (ha:a∈l) (hb:b∈l) (he:keyPT a=keyPT b):a=b:=by
 induction l with
 | nil=>cases ha
 | cons x l ih=>
  obtain ⟨h1,h2⟩:=List.pairwise_cons.1 h
  rcases List.mem_cons.1 ha with rfl | ha'
  ·rcases List.mem_cons.1 hb with rfl | hb'
   ·rfl
   ·exact absurd (h1 b hb') (by rw[he];exact toE.irrefl _)
  ·rcases List.mem_cons.1 hb with rfl | hb'
   ·exact absurd (h1 a ha') (by rw[he];exact toE.irrefl _)
   ·exact ih h2 ha' hb'
theorem q8g {l:List Path} {v:Path}:v∈selfs l↔v∈l∧v.fr=v.to:=by
 unfold selfs
 rw[List.mem_filter]
 simp
theorem qlk {l:List Path} (h:Str l):(selfs l).Pairwise fun a b=>a.fr≠b.fr:=by
 have h2:(selfs l).Pairwise fun a b=>lexE (keyPT a) (keyPT b)<0:=List.Pairwise.sublist List.filter_sublist h
 refine List.Pairwise.imp_of_mem (fun {a b} ha hb hab he=>?_) h2
 have e1:=(q8g.1 ha).2
 have e2:=(q8g.1 hb).2
 have:keyPT a=keyPT b:=by
  show (a.fr,a.to)=(b.fr,b.to)
  rw[← e1,← e2,he]
 rw[this] at hab
 exact toE.irrefl _ hab
theorem qa7:∀ (xs:List Path) (m:MPm),(∀ x∈xs,mget m.1 x.fr=none)→xs.Pairwise (fun a b=>a.fr≠b.fr)→(xs.foldl msetP m).1.length=m.1.length+xs.length
 | [],m,_,_=>rfl
 | x :: xs,m,h,hp=>by
  obtain ⟨p1,p2⟩:=List.pairwise_cons.1 hp
  rw[List.foldl_cons,qa7 xs (msetP m x) (fun y hy=>by
   rw[show mget (msetP m x).1 y.fr=_ from qo6 Path.fr hdS dEp m x y.fr,if_neg (p1 y hy)]
   exact h y (List.mem_cons_of_mem _ hy)) p2]
  have h0:=h x (List.mem_cons_self ..)
  rw[qhs dEp] at h0
  have hk:¬ kAt m.1 x.fr<m.1.length:=fun hk=>by rw[if_pos hk] at h0;cases h0
  have:(msetP m x).1.length=m.1.length+1:=by
   show (msetG Path.fr hdS dEp m x).1.length=_
   unfold msetG
   rw[if_neg hk]
   simp
  rw[this,List.length_cons]
  omega
theorem qus (m:List (MpE Place Int)) (p:Place):dget (m.map d3e) p=mget m p:=by
 unfold dget mget
 induction m with
 | nil=>rfl
 | cons e m ih=>
  rw[List.map_cons,List.find?_cons,List.find?_cons]
  show Option.map _ (match decide (p=e.1) with | true=>some (d3e e) | false=>_)=_
  cases decide (p=e.1) with
  | true=>rfl
  | false=>exact ih
theorem qoy {l:List Path} (h:Str l) (hn:l.any noD=false) (p:Place):dget (depsL l) p=depO l p:=by
 unfold depsL
 rw[qus]
 show mget ((selfs l).foldl (msetG Path.fr hdS dEp) ([],0)).1 p=_
 rw[qcn]
 have hss:∀ v∈l,v.fr=v.to→0<v.ss.length:=fun v hv he=>by
  have:=List.any_eq_false.1 hn v hv
  unfold noD at this
  simp only[he,decide_true,Bool.true_and,beq_iff_eq] at this
  omega
 unfold depO depL
 cases h1:(selfs l).reverse.find? (fun x=>decide (x.fr=p)) with
 | none=>
  have h1:=List.find?_eq_none.1 h1
  have h2:l.find? (depP p)=none:=List.find?_eq_none.2 fun v hv hd=>by
   unfold depP at hd
   simp only[Bool.and_eq_true,decide_eq_true_eq] at hd
   exact h1 v (List.mem_reverse.2 (q8g.2 ⟨hv,by rw[hd.1,hd.2.1]⟩)) (decide_eq_true hd.1)
  rw[h2]
  rfl
 | some x=>
  have m1:=q8g.1 (List.mem_reverse.1 (List.mem_of_find?_eq_some h1))
  have e1:x.fr=p:=of_decide_eq_true (List.find?_some (p:=fun x:Path=>decide (x.fr=p)) h1)
  cases h2:l.find? (depP p) with
  | none=>
   have h2:=List.find?_eq_none.1 h2 x m1.1
   refine absurd ?_ h2
   have:=hss x m1.1 m1.2
   unfold depP
   simp only[Bool.and_eq_true,decide_eq_true_eq]
   exact ⟨e1,by rw[← m1.2];exact e1,by omega⟩
  | some y=>
   have m2:=List.mem_of_find?_eq_some h2
   have h3:=List.find?_some h2
   unfold depP at h3
   simp only[Bool.and_eq_true,decide_eq_true_eq] at h3
   have:x=y:=qqm h m1.1 m2 (by show (x.fr,x.to)=(y.fr,y.to);rw[← m1.2,e1,h3.1,h3.2.1])
   subst this
   rfl
theorem qo2 {l:List Path} (D:Place→Option Int) (h:l.any noD=true):(l.any fun v=>!pathC D v)=true:=by
 obtain ⟨v,hv,hn⟩:=List.any_eq_true.1 h
 refine List.any_eq_true.2 ⟨v,hv,?_⟩
 unfold noD at hn
 rw[Bool.and_eq_true] at hn
 unfold pathC pathA
 rw[hn.2]
 cases D v.fr <;> cases D v.to <;> rfl
theorem q5o (l:List Path) (hl:l.length≤maxLen):chkP l=dckC l:=by
 unfold chkP dckC
 rw[q9e,q9e]
 cases h1:anyAt (ordAt l) 0 l with
 | true=>simp
 | false=>
  have hs:=qqn l hl h1
  simp only[Bool.false_or]
  cases hn:l.any noD with
  | true=>
   rw[qo2 _ hn,qo2 _ hn]
   simp
  | false=>
   have hd:dpsC l=(depsL l,decide (((depM l).1.length:Int)≤128)):=by unfold dpsC;rw[hn];rfl
   rw[hd]
   have hf:dget (depsL l)=depO l:=funext fun p=>qoy hs hn p
   have hlen:(depM l).1.length=(selfs l).length:=by
    have:=qa7 (selfs l) ([],0) (fun _ _=>rfl) (qlk hs)
    unfold depM
    simpa using this
   simp only[hf,hlen]
   generalize (l.any fun v=>!pathC (depO l) v)=z
   by_cases h2:((selfs l).length:Int)≤128
   ·have:¬ ((selfs l).length:Int) > 128:=by omega
    simp[h2,this]
   ·have:((selfs l).length:Int) > 128:=by omega
    cases z <;> simp[h2,this]
end
end Go.Proofs.YthnojkbkojpadaaGreat

namespace Go.Proofs.YthnojkbkojpadaaGreat
noncomputable section
open Go.RowKit Go.Sx Go.Lp
theorem qbn {l:List Path} (hl:l.length≤maxLen) (h:chkP l=0):Str l:=by
 rw[q5o l hl] at h
 unfold dckC at h
 rw[q9e] at h
 cases h1:anyAt (ordAt l) 0 l with
 | false=>exact qqn l hl h1
 | true=>rw[h1] at h;exact absurd h (by simp)
theorem q9c {l:List Path} (hl:l.length≤maxLen) (h:chkP l=0):∀ v∈l,pathC (depO l) v=true:=by
 rw[q5o l hl] at h
 unfold dckC at h
 rw[q9e] at h
 intro v hv
 cases hp:pathC (depO l) v with
 | true=>rfl
 | false=>
  have:(l.any fun v=>!pathC (depO l) v)=true:=List.any_eq_true.2 ⟨v,hv,by rw[hp];rfl⟩
  rw[this,Bool.or_true] at h
  exact absurd h (by simp)
theorem qaz {D:Place→Option Int} {v:Path} (h:pathC D v=true):0<v.ss.length∧v.ss.length≤64:=by
 unfold pathC at h
 split at h
 ·unfold pathA at h
  simp only[Bool.and_eq_true,Bool.not_eq_true',Bool.or_eq_false_iff,decide_eq_false_iff_not,beq_eq_false_iff_ne] at h
  have:=h.1
  omega
 ·cases h
theorem qsp {l:List Path} (hl:l.length≤maxLen) (h:chkP l=0):Hd l:=fun e he _=>by
 have hm:l.getD e ePa.dflt∈l:=by
  rw[List.getD_eq_getElem?_getD,List.getElem?_eq_getElem he]
  exact List.getElem_mem he
 exact (qaz (q9c hl h _ hm)).1
theorem qna {l:List Path} (hl:l.length≤maxLen) (h:chkP l=0):l.any noD=false:=by
 cases hn:l.any noD with
 | false=>rfl
 | true=>
  obtain ⟨v,hv,h2⟩:=List.any_eq_true.1 hn
  have:=(qaz (q9c hl h v hv)).1
  unfold noD at h2
  simp only[Bool.and_eq_true,beq_iff_eq] at h2
  omega
def qzg:PTab Tryz.prog:=(qje.cons 16 (pconP aLPo dI dckC (fun _=>[])) (q0d dck_c puI)).cons 21 (pconP aLSp2 dBool (fun g=>decide (g.1=g.2)) (fun _=>[])) (q0d eqSpf_c puB)
def qjd:MTab Tryz.prog:=(MTab.of qzg).consM 57 (bconT TA.nil aLPo (TR.ct (CT.ptr 113 cTb) rfl) (fun _ l=>((),tblC l)) (fun _ l=>[l.length≤K30])) (bconT_ok tbl_c)
end
end Go.Proofs.YthnojkbkojpadaaGreat

namespace Go.Proofs.YthnojkbkojpadaaGreat
noncomputable section
open Go.RowKit Go.Sx
set_option linter.unusedVariables false
abbrev rFp:Rv (List Spot):=.fn1 53 (.list eSp)
def cln_F (l:List S):Rv.T rLS:=
 List.map (fun x=>eS.get []) (List.range (min ((0:Nat)+l.length) (0:Nat)))++eS.lst ((0:Nat)+l.length - (0:Nat)) (eS.els l)
def qbm (l:List S):Prop:=
 ∀ (cs:List Nat),(cs.isEmpty=false→l.length=(0:Nat))→((false != !cs.isEmpty)=true→∀ (d:List S),[]=List.map (fun x=>eS.get []) (List.range (min ((0:Nat)+l.length) (0:Nat)))++eS.lst ((0:Nat)+l.length - (0:Nat)) (eS.els l))∧((false != !cs.isEmpty)=false→((0:Nat)≤(0:Nat)∧(∀ (e:Nat),e<l.length→(eS.els l e).all SV.one=true)∧(0:Nat)+l.length≤maxLen∧((0:Nat)+l.length) * Tryz.prog.types[(42:Nat)].bytes≤(140737488355328:Nat))∧(0:Nat)+l.length≤(0:Nat)+l.length∧(∀ (e:Nat),e<min ((0:Nat)+l.length) (0:Nat)→eS.OkP [])∧(∀ (e:Nat),e<(0:Nat)+l.length - (0:Nat)→True)∧∀ (d:List S),List.map (fun x=>eS.get []) (List.range (min ((0:Nat)+l.length) (0:Nat)))++eS.lst ((0:Nat)+l.length - (0:Nat)) (eS.els l)=List.map (fun x=>eS.get []) (List.range (min ((0:Nat)+l.length) (0:Nat)))++eS.lst ((0:Nat)+l.length - (0:Nat)) (eS.els l))
theorem cln_okS (pre:DA.T aLSo→List Prop) (h:∀ g,DA.bd aLSo g→(∀ p∈pre g,p)→qbm g):q04 Tryz.prog 56 aLSo (Rv.D rLS) (fun g=>cln_F g) pre:=q1a (R:=rLS) (Γ:=(MTab.gamz qjd [] [])) (Λ:=qf9) (MTab.okz qjd [] []) q6n 100 default (fun g=>qbm g) (fun g=>by kernel_rfl) (fun g=>by kernel_rfl) h
def qew (l:List Path):Ex ×
 plc_G:=
 loopF (fun g=>plc_R g.fst g.snd.fst g.snd.snd.fst g.snd.snd.snd.fst g.snd.snd.snd.snd) plc_M (ePa.ag l,(↑l.length:Int),(0:Int),(),[])
def plf_F (l:List Path):Rv.T rFp:=
 bif chkP (ePa.ag l)==(0:Int) then eSp.ag (qew l).snd.snd.snd.snd.snd else []
def qay (l:List Path):Prop:=
 ePa.okL l∧((chkP (ePa.ag l)==(0:Int))=true→ePa.okL l∧Lp.ixJ (fun c=>c.snd) (fun c=>c.fst) plc_K (plc_f (ePa.ag l,(↑l.length:Int),(0:Int),(),[]))∧(qew l).snd.snd.snd.snd.snd.length≤(qew l).snd.snd.snd.snd.snd.length∧∀ (e:Nat),e<(qew l).snd.snd.snd.snd.snd.length→True)
theorem z0h (pre:DA.T aLPo→List Prop) (h:∀ g,DA.bd aLPo g→(∀ p∈pre g,p)→qay g):q04 Tryz.prog 15 aLPo (Rv.D rFp) (fun g=>plf_F g) pre:=q1a (R:=rFp) (Γ:=(MTab.gamz qjd [] [])) (Λ:=qf9) (MTab.okz qjd [] []) q6n 100 default (fun g=>qay g) (fun g=>by kernel_rfl) (fun g=>by kernel_rfl) h
end
end Go.Proofs.YthnojkbkojpadaaGreat

namespace Go.Proofs.YthnojkbkojpadaaGreat
noncomputable section
open Go.RowKit Go.Sx Go.Lp
theorem byt42 (h:42<Tryz.prog.types.size):(Tryz.prog.types[(42:Nat)]'h).bytes=64:=by kernel_rfl
theorem cln_c:q04 Tryz.prog 56 aLSo (Rv.D rLS) (fun l=>l) (fun l=>[l.length≤K30]):=by
 refine q0b (cln_okS (fun l=>[l.length≤K30]) fun l hb hp=>?_) fun l hb hp=>?_
 ·have hl:l.length≤1000000:=hp _ (List.mem_cons_self ..)
  show qbm l
  unfold qbm
  simp only[ap0,byt42]
  intro cs hcs
  refine ⟨fun h=>?_,fun h=>?_⟩
  ·have:cs.isEmpty=false:=by cases hc:cs.isEmpty <;> simp_all
   have:=List.eq_nil_of_length_eq_zero (hcs this)
   subst this
   intro _;rfl
  ·repeat' (first | apply And.intro | intro _)
   all_goals first | trivial | exact eS.one_els _ _ | omega | (unfold maxLen;omega) | exact El.ok_els _ _ _
 ·show cln_F l=l
  unfold cln_F
  exact ap0 eS l
def q4c (l:List Path):List Spot:=(selfs l).map fun v=>Spot.mk v.fr (hdS v)
def plcC (l:List Path):List Spot:=bif chkP l==(0:Int) then q4c l else []
theorem plf_c:q04 Tryz.prog 15 aLPo (Rv.D rFp) plcC (fun l=>[l.length≤K30]):=by
 have hq:∀ l:List Path,l.length≤K30→chkP l=0→qew l=(.exit 0,l,(l.length:Int),(l.length:Int),(),q4c l):=fun l hl h=>by
  have hm:l.length≤maxLen:=by unfold maxLen;unfold K30 at hl;omega
  unfold qew
  rw[El.ag_eq]
  exact z0i l hl (qsp hm h)
 refine q0b (z0h (fun l=>[l.length≤K30]) fun l hb hp=>?_) fun l hb hp=>?_
 ·have hl:l.length≤K30:=hp _ (List.mem_cons_self ..)
  have hm:l.length≤maxLen:=hb.1
  show qay l
  unfold qay
  simp only[El.okL_eq,El.ag_eq]
  refine ⟨trivial,fun h=>?_⟩
  have h:chkP l=0:=by simpa using h
  exact ⟨trivial,ixJ0 rfl hm ⟨qsp hm h,hl,Int.le_refl _⟩,Nat.le_refl _,fun _ _=>trivial⟩
 ·have hl:l.length≤K30:=hp _ (List.mem_cons_self ..)
  show plf_F l=plcC l
  unfold plf_F plcC
  simp only[El.ag_eq]
  cases h:chkP l==(0:Int) with
  | true=>rw[hq l hl (by simpa using h)]
  | false=>rfl
def q3i:MTab Tryz.prog:=(qjd.cons 15 (pconR aLPo (Rv.D rFp) plcC (fun l=>[l.length≤K30])) (q1v plf_c)).cons 56 (pconR aLSo (Rv.D rLS) (fun l=>l) (fun l=>[l.length≤K30])) (q1v cln_c)
end
end Go.Proofs.YthnojkbkojpadaaGreat

namespace Go.Proofs.YthnojkbkojpadaaGreat
noncomputable section
open Go.RowKit Go.Sx
set_option linter.unusedVariables false
def q3j (l:List Path) (p:Place) (q:Place):Nat:=
 kfind (fun e=>p.node==((tblC (ePa.ag l)).fst.fst.getD e (eEn.ent eLS).dflt).fst.fst.node&&(p.port==((tblC (ePa.ag l)).fst.fst.getD e (eEn.ent eLS).dflt).fst.fst.port&&(q.node==((tblC (ePa.ag l)).fst.fst.getD e (eEn.ent eLS).dflt).fst.snd.node&&q.port==((tblC (ePa.ag l)).fst.fst.getD e (eEn.ent eLS).dflt).fst.snd.port))) (tblC (ePa.ag l)).fst.fst.length (0:Nat)
def sms_F (l:List Path) (p:Place) (q:Place):Rv.T rLS:=
 bif chkP (ePa.ag l) != (0:Int) then []
 else eS.ag (eS.lst (bif decide ((q3j l p q)<(tblC (ePa.ag l)).fst.fst.length) then ((tblC (ePa.ag l)).fst.fst.getD (q3j l p q) (eEn.ent eLS).dflt).snd.fst.length else (0:Nat)) (eS.els ((tblC (ePa.ag l)).fst.fst.getD (q3j l p q) (eEn.ent eLS).dflt).snd.fst))
def qaj (l:List Path) (p:Place) (q:Place):Prop:=
 ePa.okL l∧((chkP (ePa.ag l) != (0:Int))=false→ePa.okL l∧(ePa.ag l).length≤K30∧(∀ (e:Nat),e<(tblC (ePa.ag l)).fst.fst.length→(6:Nat)=(6:Nat))∧(∀ (e:Nat),e<(tblC (ePa.ag l)).fst.fst.length→True)∧(∀ (e:Nat),(e<bif decide ((q3j l p q)<(tblC (ePa.ag l)).fst.fst.length) then ((tblC (ePa.ag l)).fst.fst.getD (q3j l p q) (eEn.ent eLS).dflt).snd.fst.length else (0:Nat))→eS.Ok (eS.els ((tblC (ePa.ag l)).fst.fst.getD (q3j l p q) (eEn.ent eLS).dflt).snd.fst e))∧(eS.lst (bif decide ((q3j l p q)<(tblC (ePa.ag l)).fst.fst.length) then ((tblC (ePa.ag l)).fst.fst.getD (q3j l p q) (eEn.ent eLS).dflt).snd.fst.length else (0:Nat)) (eS.els ((tblC (ePa.ag l)).fst.fst.getD (q3j l p q) (eEn.ent eLS).dflt).snd.fst)).length≤K30∧eS.okL (eS.lst (bif decide ((q3j l p q)<(tblC (ePa.ag l)).fst.fst.length) then ((tblC (ePa.ag l)).fst.fst.getD (q3j l p q) (eEn.ent eLS).dflt).snd.fst.length else (0:Nat)) (eS.els ((tblC (ePa.ag l)).fst.fst.getD (q3j l p q) (eEn.ent eLS).dflt).snd.fst)))
theorem qzk (pre:DA.T aLPpp→List Prop) (h:∀ g,DA.bd aLPpp g→(∀ p∈pre g,p)→qaj g.1 g.2.1 g.2.2):q04 Tryz.prog 19 aLPpp (Rv.D rLS) (fun g=>sms_F g.1 g.2.1 g.2.2) pre:=q1a (R:=rLS) (Γ:=(MTab.gamz q3i [] [])) (Λ:=qf9) (MTab.okz q3i [] []) q6n 100 default (fun g=>qaj g.1 g.2.1 g.2.2) (fun g=>by kernel_rfl) (fun g=>by kernel_rfl) h
abbrev dpl_G:Type:=List Spot×Int×Int×Unit×Place×Int×Bool×LoopState×Option Code
def qy6:LP 5 dpl_G:=.pair (.slot 5 5 dLSp) (.pair (.slot 5 6 dI) (.pair (.slot 5 7 dI) (.pair (.fix 5 0 (.yl 4)) (.pair (.obj 5 0 24 eP) (.pair (.obj 5 1 3 eI) (.pair (.obj 5 2 4 eBool) (.rf 5 4 Tryz.prog 13 0 16 [(3,.p 0 0),(4,.p 1 0),(5,.p 2 0)] 3)))))))
def dpl_R (xs:List Spot) (n:Int) (i:Int) (_u:Unit) (p:Place) (d:Int) (o:Bool):Ex×dpl_G:=
 bif decide (i<n) then bif conj ([(xs.getD i.toNat eSp.dflt).p.node==p.node]++([(xs.getD i.toNat eSp.dflt).p.port==p.port]++[])) then (Ex.ret,eSp.ag xs,n,i,(),p,(xs.getD i.toNat eSp.dflt).d,true,LoopState.done,some Code.ret) else (Ex.normal,eSp.ag xs,n,IntKind.i64.wrap (i+(1:Int)),(),p,d,o,LoopState.ready,none)
 else (Ex.exit (0:Nat),eSp.ag xs,n,i,(),p,d,o,LoopState.ready,none)
def qit (xs:List Spot) (n:Int) (i:Int) (_u:Unit) (p:Place) (d:Int) (o:Bool):Prop:=
 (decide (i<n)=true→((0:Int)≤i∧i<(↑xs.length:Int))∧(conj ([(xs.getD i.toNat eSp.dflt).p.node==p.node]++([(xs.getD i.toNat eSp.dflt).p.port==p.port]++[]))=true→eSp.okL xs∧q1r (q0f Tryz.prog (13:Nat) (0:Nat)).snd.fst (q0f Tryz.prog (13:Nat) (0:Nat)).snd.fst∧q1r (q0f Tryz.prog (13:Nat) (0:Nat)).snd.snd (q0f Tryz.prog (13:Nat) (0:Nat)).snd.snd)∧(conj ([(xs.getD i.toNat eSp.dflt).p.node==p.node]++([(xs.getD i.toNat eSp.dflt).p.port==p.port]++[]))=false→eSp.okL xs∧q1r (q0f Tryz.prog (13:Nat) (0:Nat)).snd.fst (q0f Tryz.prog (13:Nat) (0:Nat)).snd.fst∧q1r (q0f Tryz.prog (13:Nat) (0:Nat)).snd.snd (q0f Tryz.prog (13:Nat) (0:Nat)).snd.snd))∧(decide (i<n)=false→eSp.okL xs∧q1r (q0f Tryz.prog (13:Nat) (0:Nat)).snd.fst (q0f Tryz.prog (13:Nat) (0:Nat)).snd.fst∧q1r (q0f Tryz.prog (13:Nat) (0:Nat)).snd.snd (q0f Tryz.prog (13:Nat) (0:Nat)).snd.snd)
theorem dpl_one:((q00 Tryz.prog 53).filter fun c=>Nat.beq (lkey c) 1).length=1:=by kernel_rfl
abbrev q6v:Type:=List Spot×Int×Place
abbrev qg4:Type:=Unit×Int×Bool×LoopState×Option Code
def dpl_f (g:dpl_G):Int×q6v×qg4:=(g.2.2.1,(g.1,g.2.1,g.2.2.2.2.1),(g.2.2.2.1,g.2.2.2.2.2.1,g.2.2.2.2.2.2.1,g.2.2.2.2.2.2.2))
def dpl_g (d:Int×q6v×qg4):dpl_G:=(d.2.1.1,d.2.1.2.1,d.1,d.2.2.1,d.2.1.2.2,d.2.2.2.1,d.2.2.2.2.1,d.2.2.2.2.2)
def dpl_E:List ((Ex×dpl_G→Bool)×Ex×(dpl_G→dpl_G)):=[(fun x=>exB (.ret) x.1,.ret,fun g=>(g.1,g.2.1,g.2.2.1,g.2.2.2.1,g.2.2.2.2.1,g.2.2.2.2.2.1,g.2.2.2.2.2.2.1,(.done,some .ret))),(fun x=>exB (.exit 0) x.1,.exit 0,fun g=>(g.1,g.2.1,g.2.2.1,g.2.2.2.1,g.2.2.2.2.1,g.2.2.2.2.2.1,g.2.2.2.2.2.2.1,(.ready,none)))]
abbrev qg3 (g:dpl_G):Ex×dpl_G:=dpl_R g.1 g.2.1 g.2.2.1 g.2.2.2.1 g.2.2.2.2.1 g.2.2.2.2.2.1 g.2.2.2.2.2.2.1
abbrev qy4 (g:dpl_G):Prop:=qit g.1 g.2.1 g.2.2.1 g.2.2.2.1 g.2.2.2.2.1 g.2.2.2.2.2.1 g.2.2.2.2.2.2.1
theorem dpl_es (g:dpl_G):(qg3 g).1=.normal∨q5k (qg3 g) dpl_E:=by
 unfold qg3 dpl_R
 repeat' (first | (left;rfl) | (right;exact ⟨fun _=>⟨rfl,rfl⟩,fun h=>absurd h (by simp[exB,pdB])⟩) | (right;exact ⟨fun h=>absurd h (by simp[exB,pdB]),fun _=>⟨rfl,rfl⟩⟩) | (rw[Bool.cond_eq_ite];split))
abbrev dpl_C (Inv:dpl_G→List Prop) (m:dpl_G→Nat):LCon:=qk4 dpl_E (loopBody Tryz.prog 53 1) qy6 [] 19 Inv qg3 m
def dpl_i (g:dpl_G):dpl_G:=(g.1,g.2.1,g.2.2.1,g.2.2.2.1,g.2.2.2.2.1,g.2.2.2.2.2.1,g.2.2.2.2.2.2.1,(LoopState.ready,none))
theorem quq (Inv:dpl_G→List Prop) (m:dpl_G→Nat) (hs:∀ g,allP (Inv g)→qy4 g) (hι:∀ g,allP (Inv g)→dpl_i g=g) (hg:Goes qg3 m fun g=>allP (Inv g)):∀ b∈q00 Tryz.prog 53,lkey b=1→q02 Tryz.prog b (dpl_C Inv m).g:=q8v dpl_i (Γ:=(MTab.gamz q3i [] [])) (Λ:=qf9) (MTab.okz q3i [] []) q6n 100 53 1 19 qy6 [] Inv qg3 qy4 m default dpl_E dpl_one (fun rd T B HL HB ds g=>by kernel_rfl) (fun rd T B HL HB ds g=>by kernel_rfl) hι hs hg dpl_es
end
end Go.Proofs.YthnojkbkojpadaaGreat

namespace Go.Proofs.YthnojkbkojpadaaGreat
noncomputable section
open Go.RowKit Go.Sx Go.Lp
def dpl_S (c:q6v) (b:qg4) (_:Int) (v:Spot):Ex×qg4:=bif decide (v.p=c.2.2) then (.ret,((),v.d,true,.done,some .ret)) else (.normal,b)
def dpl_K (_:q6v) (b:qg4) (_:Int):Prop:=b.2.2.2=(LoopState.ready,(none:Option Code))
abbrev dpl_I (g:dpl_G):List Prop:=ixI (fun c:q6v=>c.2.1) (fun c=>c.1) dpl_K (dpl_f g)
abbrev dpl_M (g:dpl_G):Nat:=ixM (fun c:q6v=>c.2.1) (dpl_f g)
theorem dpl_P:ixP dpl_S (fun c:q6v=>c.1) dpl_K:=by
 rintro ⟨xs,n,p⟩ b i a h _ hn
 unfold dpl_S at hn ⊢
 simp only at hn ⊢
 cases hc:decide (a.p=p) with
 | true=>rw[hc] at hn;cases hn
 | false=>exact h
abbrev qsb (g:dpl_G):Ex×dpl_G:=dpl_R g.1 g.2.1 g.2.2.1 g.2.2.2.1 g.2.2.2.2.1 g.2.2.2.2.2.1 g.2.2.2.2.2.2.1
theorem qy5 (d:Int×q6v×qg4) (hi:allP (ixI (fun c:q6v=>c.2.1) (fun c=>c.1) dpl_K d)):qsb (dpl_g d)=((ixF 0 (fun c:q6v=>c.2.1) (fun c=>c.1) eSp.dflt dpl_S d).1,dpl_g (ixF 0 (fun c:q6v=>c.2.1) (fun c=>c.1) eSp.dflt dpl_S d).2):=by
 have hb:=(hi _ (List.mem_cons_self ..)).2.2.2.2
 obtain ⟨i,⟨xs,n,p⟩,⟨⟨⟩,d,o,f⟩⟩:=d
 have hb:f=(LoopState.ready,(none:Option Code)):=hb
 subst hb
 show dpl_R xs n i () p d o=_
 unfold dpl_R ixF dpl_S
 simp only[El.ag_eq,conjP]
 cases decide (i<n) with
 | false=>rfl
 | true=>
  simp only[cond_true]
  cases decide ((xs.getD i.toNat eSp.dflt).p=p) <;> rfl
theorem dpl_ok:∀ b∈q00 Tryz.prog 53,lkey b=1→q02 Tryz.prog b (dpl_C dpl_I dpl_M).g:=by
 refine quq dpl_I dpl_M (fun g hi=>?_) (fun g hi=>?_) (q06 (fun _=>rfl) (fun _=>rfl) qy5 dpl_P)
 ·obtain ⟨xs,n,i,⟨⟩,p,d,o,st,pd⟩:=g
  obtain ⟨h1,h2,h3,h4,h5⟩:=hi _ (List.mem_cons_self ..)
  have h1:n=(xs.length:Int):=h1
  have h3:0≤i:=h3
  show qit xs n i () p d o
  unfold qit
  simp only[El.okL_eq]
  refine ⟨fun hlt=>⟨rngP i n _ h1 h3 hlt,fun _=>⟨trivial,rfl,rfl⟩,fun _=>⟨trivial,rfl,rfl⟩⟩,fun _=>⟨trivial,rfl,rfl⟩⟩
 ·obtain ⟨xs,n,i,⟨⟩,p,d,o,st,pd⟩:=g
  have h5:=(hi _ (List.mem_cons_self ..)).2.2.2.2
  have h5:(st,pd)=(LoopState.ready,(none:Option Code)):=h5
  cases h5
  rfl
def depS (xs:List Spot) (p:Place):Option Int:=(xs.find? fun v=>decide (v.p=p)).map (·.d)
theorem dpl_run (xs:List Spot) (p:Place) (h:xs.length≤maxLen):∃ j,loopF qsb dpl_M (xs,(xs.length:Int),0,(),p,0,false,.ready,none)=match depS xs p with
  | some d=>(.ret,xs,(xs.length:Int),j,(),p,d,true,.done,some .ret)
  | none=>(.exit 0,xs,(xs.length:Int),j,(),p,0,false,.ready,none):=by
 have e:loopF qsb dpl_M (xs,(xs.length:Int),0,(),p,0,false,.ready,none)=_:=
  q0a (φ:=dpl_f) (ψ:=dpl_g) (fun _=>rfl) (fun _=>rfl) qy5 dpl_P (xs,(xs.length:Int),p) ((),0,false,.ready,none) rfl h rfl
 unfold depS
 rcases q8h (x:=0) (st:=dpl_S (xs,(xs.length:Int),p)) (p:=fun v=>decide (v.p=p)) (r:=fun v _=>((),v.d,true,.done,some .ret)) (fun _ _ _=>rfl) xs 0 ((),0,false,.ready,none) with ⟨a,j,h2,h3⟩ | ⟨h2,h3⟩
 ·have h3:scan 0 (dpl_S (xs,(xs.length:Int),p)) 0 xs ((),0,false,.ready,none)=_:=h3
  refine ⟨j,e.trans ?_⟩
  rw[h3,h2];rfl
 ·have h3:scan 0 (dpl_S (xs,(xs.length:Int),p)) 0 xs ((),0,false,.ready,none)=_:=h3
  refine ⟨0+(xs.length:Int),e.trans ?_⟩
  rw[h3,h2];rfl
def ltM33:LTab Tryz.prog:=ltM26.cons 53 1 (dpl_C dpl_I dpl_M) dpl_ok
abbrev qod:Lam:=ltM33.lam
theorem qcx:∀ f k L,qod f k=some L→∀ b∈q00 Tryz.prog f,lkey b=k→q02 Tryz.prog b L.g:=ltM33.ok
end
end Go.Proofs.YthnojkbkojpadaaGreat

namespace Go.Proofs.YthnojkbkojpadaaGreat
noncomputable section
open Go.RowKit Go.Sx
set_option linter.unusedVariables false
def qkx (l:List Path) (p:Place):Ex ×
 dpl_G:=
 loopF (fun g=>dpl_R g.fst g.snd.fst g.snd.snd.fst g.snd.snd.snd.fst g.snd.snd.snd.snd.fst g.snd.snd.snd.snd.snd.fst g.snd.snd.snd.snd.snd.snd.fst) dpl_M (eSp.ag (plcC (ePa.ag l)),(↑(plcC (ePa.ag l)).length:Int),(0:Int),(),p,(0:Int),false,LoopState.ready,none)
def dpf_F (l:List Path) (p:Place):Rv.T (.of dIBo):=
 bif exB Ex.ret (qkx l p).fst then ((qkx l p).snd.snd.snd.snd.snd.snd.fst,(qkx l p).snd.snd.snd.snd.snd.snd.snd.fst)
 else ((0:Int),false)
def qbi (l:List Path) (p:Place):Prop:=
 ePa.okL l∧(ePa.ag l).length≤K30∧eSp.okL (plcC (ePa.ag l))∧q1r (q0f Tryz.prog (13:Nat) (0:Nat)).snd.fst (q0f Tryz.prog (13:Nat) (0:Nat)).snd.fst∧q1r (q0f Tryz.prog (13:Nat) (0:Nat)).snd.snd (q0f Tryz.prog (13:Nat) (0:Nat)).snd.snd∧Lp.ixJ (fun c=>c.snd.fst) (fun c=>c.fst) dpl_K (dpl_f (eSp.ag (plcC (ePa.ag l)),(↑(plcC (ePa.ag l)).length:Int),(0:Int),(),p,(0:Int),false,LoopState.ready,none))
theorem dpf_okS (pre:DA.T aLPp→List Prop) (h:∀ g,DA.bd aLPp g→(∀ p∈pre g,p)→qbi g.1 g.2):q04 Tryz.prog 13 aLPp (Rv.D (.of dIBo)) (fun g=>dpf_F g.1 g.2) pre:=q1a (R:=(.of dIBo)) (Γ:=(MTab.gamz q3i [] [])) (Λ:=qod) (MTab.okz q3i [] []) qcx 100 default (fun g=>qbi g.1 g.2) (fun g=>by kernel_rfl) (fun g=>by kernel_rfl) h
def rdf_F (l:List Path) (p:Place):Rv.T (.of dIBo):=
 bif dckC (ePa.ag l) != (0:Int) then ((0:Int),false) else depL (ePa.ag l) p
def qar (l:List Path) (p:Place):Prop:=
 ePa.okL l∧((dckC (ePa.ag l) != (0:Int))=false→ePa.okL l)
theorem z04 (pre:DA.T aLPp→List Prop) (h:∀ g,DA.bd aLPp g→(∀ p∈pre g,p)→qar g.1 g.2):q04 Tryz.prog 14 aLPp (Rv.D (.of dIBo)) (fun g=>rdf_F g.1 g.2) pre:=q1a (R:=(.of dIBo)) (Γ:=(MTab.gamz q3i [] [])) (Λ:=qod) (MTab.okz q3i [] []) qcx 100 default (fun g=>qar g.1 g.2) (fun g=>by kernel_rfl) (fun g=>by kernel_rfl) h
def rsf_F (l:List Path) (p:Place) (q:Place):Rv.T rLS:=
 bif dckC (ePa.ag l) != (0:Int) then [] else eS.ag (getL (ePa.ag l) p q)
def qam (l:List Path) (p:Place) (q:Place):Prop:=
 ePa.okL l∧((dckC (ePa.ag l) != (0:Int))=false→ePa.okL l∧Sm (ePa.ag l)∧eS.okL (getL (ePa.ag l) p q))
theorem qzp (pre:DA.T aLPpp→List Prop) (h:∀ g,DA.bd aLPpp g→(∀ p∈pre g,p)→qam g.1 g.2.1 g.2.2):q04 Tryz.prog 20 aLPpp (Rv.D rLS) (fun g=>rsf_F g.1 g.2.1 g.2.2) pre:=q1a (R:=rLS) (Γ:=(MTab.gamz q3i [] [])) (Λ:=qod) (MTab.okz q3i [] []) qcx 100 default (fun g=>qam g.1 g.2.1 g.2.2) (fun g=>by kernel_rfl) (fun g=>by kernel_rfl) h
end
end Go.Proofs.YthnojkbkojpadaaGreat
