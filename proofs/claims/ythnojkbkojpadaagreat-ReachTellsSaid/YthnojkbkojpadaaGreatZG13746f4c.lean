/- Chapter 3: Compact, the outer loop. Printed by treegen.py. -/
import Derived.Test.YthnojkbkojpadaaGreatZG1257f3fb
import Derived.Test.YthnojkbkojpadaaGreatZG0687ac95
import Derived.Test.YthnojkbkojpadaaGreatZG0800afda
import Derived.Test.YthnojkbkojpadaaGreatZG07857b98
set_option maxRecDepth 100000
set_option linter.unusedVariables false
set_option linter.unusedSimpArgs false
set_option linter.constructorNameAsVariable false
set_option linter.all false

namespace Go.Proofs.YthnojkbkojpadaaGreat
noncomputable section
open Go.RowKit Go.Sx
set_option linter.unusedVariables false
abbrev BN:Type:=Bool×Nat
def q18 (l:Nat) (xs:List T) (k:Int) (r:BN):Ex ×
 cp2_G:=
 loopF (fun g=>cp2_R g.fst g.snd.fst g.snd.snd.fst g.snd.snd.snd.fst g.snd.snd.snd.snd) Lp.cpM (l,eT.lst xs.length (eT.els xs),k,(k.toNat,l - k.toNat),(1:Int))
abbrev cp1_G:Type:=Nat×List T×Int×BN
def ql3:LP 1 cp1_G:=.pair (.owl 1 0 0) (.pair (.rowO 1 0 47 eT) (.pair (.slot 1 3 dI) (.owB 1 2 0)))
def cp1_R (l:Nat) (xs:List T) (k:Int) (r:BN):Ex×cp1_G:=
 bif decide (k<(↑l:Int)) then bif conj ([(xs.getD k.toNat eT.dflt).e==(xs.getD (IntKind.i64.wrap (k - (1:Int))).toNat eT.dflt).e]++([(xs.getD k.toNat eT.dflt).d==(xs.getD (IntKind.i64.wrap (k - (1:Int))).toNat eT.dflt).d]++([(xs.getD k.toNat eT.dflt).l0==(xs.getD (IntKind.i64.wrap (k - (1:Int))).toNat eT.dflt).l0]++([(xs.getD k.toNat eT.dflt).l1==(xs.getD (IntKind.i64.wrap (k - (1:Int))).toNat eT.dflt).l1]++([(xs.getD k.toNat eT.dflt).l2==(xs.getD (IntKind.i64.wrap (k - (1:Int))).toNat eT.dflt).l2]++([(xs.getD k.toNat eT.dflt).l3==(xs.getD (IntKind.i64.wrap (k - (1:Int))).toNat eT.dflt).l3]++[])))++[]))) then (Ex.ret,(q18 l xs k r).snd.fst,eT.lst (q18 l xs k r).snd.snd.snd.fst.toNat (eT.els (q18 l xs k r).snd.snd.fst),(q18 l xs k r).snd.snd.snd.fst,true,(q18 l xs k r).snd.snd.snd.fst.toNat) else (Ex.normal,l,eT.lst xs.length (eT.els xs),IntKind.i64.wrap (k+(1:Int)),r)
 else (Ex.exit (0:Nat),l,eT.lst xs.length (eT.els xs),k,r)
def q4s (l:Nat) (xs:List T) (k:Int) (r:BN):Prop:=
 (decide (k<(↑l:Int))=true→((0:Int)≤k∧k<(↑l:Int))∧k.toNat<xs.length∧((0:Int)≤IntKind.i64.wrap (k - (1:Int))∧IntKind.i64.wrap (k - (1:Int))<(↑l:Int))∧(IntKind.i64.wrap (k - (1:Int))).toNat<xs.length∧(conj ([(xs.getD k.toNat eT.dflt).e==(xs.getD (IntKind.i64.wrap (k - (1:Int))).toNat eT.dflt).e]++([(xs.getD k.toNat eT.dflt).d==(xs.getD (IntKind.i64.wrap (k - (1:Int))).toNat eT.dflt).d]++([(xs.getD k.toNat eT.dflt).l0==(xs.getD (IntKind.i64.wrap (k - (1:Int))).toNat eT.dflt).l0]++([(xs.getD k.toNat eT.dflt).l1==(xs.getD (IntKind.i64.wrap (k - (1:Int))).toNat eT.dflt).l1]++([(xs.getD k.toNat eT.dflt).l2==(xs.getD (IntKind.i64.wrap (k - (1:Int))).toNat eT.dflt).l2]++([(xs.getD k.toNat eT.dflt).l3==(xs.getD (IntKind.i64.wrap (k - (1:Int))).toNat eT.dflt).l3]++[])))++[])))=true→l≤l∧((0:Int)≤k∧k≤(↑l:Int))∧(∀ (e:Nat),e<xs.length→True)∧(l=(eT.lst xs.length (eT.els xs)).length∧(eT.lst xs.length (eT.els xs)).length≤maxLen∧k.toNat+(l - k.toNat)=(eT.lst xs.length (eT.els xs)).length∧(1:Int)≤(1:Int)∧(1:Int)≤(↑(l - k.toNat):Int)∧(0:Int)≤k∧k≤(↑k.toNat:Int)+(1:Int) - (1:Int))∧(q18 l xs k r).snd.fst≤(q18 l xs k r).snd.fst∧((0:Int)≤(q18 l xs k r).snd.snd.snd.fst∧(q18 l xs k r).snd.snd.snd.fst≤(↑(q18 l xs k r).snd.fst:Int))∧(q18 l xs k r).snd.snd.snd.fst.toNat+((q18 l xs k r).snd.fst - (q18 l xs k r).snd.snd.snd.fst.toNat)=(q18 l xs k r).snd.snd.fst.length∧((0:Int)≤(q18 l xs k r).snd.snd.snd.fst∧(q18 l xs k r).snd.snd.snd.fst≤(↑(q18 l xs k r).snd.fst:Int))∧∀ (e:Nat),e<(q18 l xs k r).snd.snd.snd.fst.toNat→True)∧(conj ([(xs.getD k.toNat eT.dflt).e==(xs.getD (IntKind.i64.wrap (k - (1:Int))).toNat eT.dflt).e]++([(xs.getD k.toNat eT.dflt).d==(xs.getD (IntKind.i64.wrap (k - (1:Int))).toNat eT.dflt).d]++([(xs.getD k.toNat eT.dflt).l0==(xs.getD (IntKind.i64.wrap (k - (1:Int))).toNat eT.dflt).l0]++([(xs.getD k.toNat eT.dflt).l1==(xs.getD (IntKind.i64.wrap (k - (1:Int))).toNat eT.dflt).l1]++([(xs.getD k.toNat eT.dflt).l2==(xs.getD (IntKind.i64.wrap (k - (1:Int))).toNat eT.dflt).l2]++([(xs.getD k.toNat eT.dflt).l3==(xs.getD (IntKind.i64.wrap (k - (1:Int))).toNat eT.dflt).l3]++[])))++[])))=false→∀ (e:Nat),e<xs.length→True))∧(decide (k<(↑l:Int))=false→∀ (e:Nat),e<xs.length→True)
theorem qn6:((q00 Tryz.prog 106).filter fun c=>Nat.beq (lkey c) 4).length=1:=by kernel_rfl
theorem qsj (g:cp1_G):(cp1_R g.1 g.2.1 g.2.2.1 g.2.2.2).1=.normal∨(cp1_R g.1 g.2.1 g.2.2.1 g.2.2.2).1∈([.ret,.exit 0]:List Ex):=by
 unfold cp1_R
 repeat' (first | (left;rfl) | (right;simp only[cond_true,cond_false];simp;done) | (rw[Bool.cond_eq_ite];split))
abbrev cp1_C (Inv:cp1_G→List Prop) (m:cp1_G→Nat):LCon:=loopR [.ret,.exit 0] (loopBody Tryz.prog 106 4) ql3 [] 61 Inv (fun g=>cp1_R g.1 g.2.1 g.2.2.1 g.2.2.2) m
theorem qj1 (Inv:cp1_G→List Prop) (m:cp1_G→Nat) (hs:∀ g,allP (Inv g)→q4s g.1 g.2.1 g.2.2.1 g.2.2.2) (hg:Goes (fun g:cp1_G=>cp1_R g.1 g.2.1 g.2.2.1 g.2.2.2) m fun g=>allP (Inv g)):∀ b∈q00 Tryz.prog 106,lkey b=4→q02 Tryz.prog b (cp1_C Inv m).g:=q0g (Γ:=(MTab.gamz (MTab.of tabP) [] [])) (Λ:=lamF) (MTab.okz (MTab.of tabP) [] []) z0z 100 106 4 61 ql3 [] Inv (fun g=>cp1_R g.1 g.2.1 g.2.2.1 g.2.2.2) (fun g=>q4s g.1 g.2.1 g.2.2.1 g.2.2.2) m default [.ret,.exit 0] qn6 (fun rd T B HL HB ds g=>by kernel_rfl) (fun rd T B HL HB ds g=>by kernel_rfl) hs hg qsj
end
end Go.Proofs.YthnojkbkojpadaaGreat

namespace Go.Proofs.YthnojkbkojpadaaGreat
noncomputable section
open Go.RowKit Go.Sx Go.Lp
theorem qdn:(fun g:cp2_G=>cp2_R g.1 g.2.1 g.2.2.1 g.2.2.2.1 g.2.2.2.2)=cpF eT.dflt:=funext ql0
theorem ql2 (g:cp1_G):cp1_R g.1 g.2.1 g.2.2.1 g.2.2.2=coF eT.dflt g:=by
 obtain ⟨l,xs,k,r⟩:=g
 show cp1_R l xs k r=coF eT.dflt (l,xs,k,r)
 unfold cp1_R q18 coF coQ
 simp only[qdp,eqT,eT.lst_els,qdn,lst_pfx]
theorem qsi:∀ b∈q00 Tryz.prog 106,lkey b=4→q02 Tryz.prog b (cp1_C (coI eT.dflt) coM).g:=by
 refine qj1 (coI eT.dflt) coM (fun g hi=>?_) ?_
 ·obtain ⟨l,xs,k,r⟩:=g
  obtain ⟨h1,h2,h3,h4,h5⟩:=hi _ (List.mem_cons_self ..)
  simp only at h1 h2 h3 h4 h5
  have h2':=h2
  unfold maxLen at h2
  show q4s l xs k r
  unfold q4s q18
  simp only[qdp,eT.lst_els,qdn]
  have w1:k≤(xs.length:Int)→IntKind.i64.wrap (k - 1)=k - 1:=fun h=>Lp.wr (by omega)
  rw[w1 h4]
  have hI:k<(l:Int)→allP (cpI ((l,xs,k,(k.toNat,l - k.toNat),1):CpG T)):=fun hk q hq=>by
   simp only[cpI,List.mem_singleton] at hq
   subst hq
   exact ⟨h1,h2',by show k.toNat+(l - k.toNat)=xs.length;omega,Int.le_refl _,by show (1:Int)≤((l - k.toNat:Nat):Int);omega,by show 0≤k;omega,by show k≤(k.toNat:Int)+1 - 1;omega⟩
  have hrun:=fun hk=>cp_run eT.dflt _ (hI hk)
  simp only at hrun
  generalize loopF (cpF eT.dflt) cpM (l,xs,k,(k.toNat,l - k.toNat),1)=q at hrun ⊢
  refine ⟨fun hc=>?_,?_⟩
  ·have hc:k<(l:Int):=of_decide_eq_true hc
   obtain ⟨c1,c2,c3,c4,c5,c6⟩:=hrun hc
   repeat' (first | apply And.intro | intro h)
   all_goals (first | trivial | omega | (unfold maxLen;omega) | skip)
  ·repeat' (first | apply And.intro | intro h)
   all_goals (first | trivial | omega | skip)
 ·have e:(fun g:cp1_G=>cp1_R g.1 g.2.1 g.2.2.1 g.2.2.2)=coF eT.dflt:=funext ql2
  rw[e]
  exact qn9 _
def ltG:LTab Tryz.prog:=(LTab.nil.cons 106 9 (cp2_C cpI cpM) qkz).cons 106 4 (cp1_C (coI eT.dflt) coM) qsi
abbrev lamG:Lam:=ltG.lam
theorem z0y:∀ f k L,lamG f k=some L→∀ b∈q00 Tryz.prog f,lkey b=k→q02 Tryz.prog b L.g:=ltG.ok
end
end Go.Proofs.YthnojkbkojpadaaGreat

namespace Go.Proofs.YthnojkbkojpadaaGreat
noncomputable section
open Go.RowKit Go.Sx
set_option linter.unusedVariables false
def q1u (xs:List T) (_u:Unit):Ex ×
 cp1_G:=
 loopF (fun g=>cp1_R g.fst g.snd.fst g.snd.snd.fst g.snd.snd.snd) Lp.coM (xs.length,eT.lst xs.length (eT.els xs),(1:Int),false,(0:Nat))
def cpt_F (xs:List T) (_u:Unit):List T×RM.T RM.self:=
 bif decide ((↑xs.length:Int)<(2:Int)) then (eT.lst xs.length (eT.els xs),xs.length)
 else bif exB Ex.ret (q1u xs _u).fst then (eT.lst (q1u xs _u).snd.snd.fst.length (eT.els (q1u xs _u).snd.snd.fst),(q1u xs _u).snd.snd.snd.snd.snd) else (eT.lst (q1u xs _u).snd.snd.fst.length (eT.els (q1u xs _u).snd.snd.fst),(q1u xs _u).snd.fst)
def q5n (xs:List T) (_u:Unit):Prop:=
 (decide ((↑xs.length:Int)<(2:Int))=true→∀ (e:Nat),e<xs.length→True)∧(decide ((↑xs.length:Int)<(2:Int))=false→(∀ (e:Nat),e<xs.length→True)∧(xs.length=(eT.lst xs.length (eT.els xs)).length∧(eT.lst xs.length (eT.els xs)).length≤maxLen∧(1:Int)≤(1:Int)∧(1:Int)≤(↑(eT.lst xs.length (eT.els xs)).length:Int)∧Lp.compL (eT.lst xs.length (eT.els xs))=List.take (1:Nat) (eT.lst xs.length (eT.els xs))++Lp.dd ((eT.lst xs.length (eT.els xs)).getD (0:Nat) eT.dflt) (List.drop (1:Nat) (eT.lst xs.length (eT.els xs))))∧(exB Ex.ret (q1u xs _u).fst=true→(∀ (e:Nat),e<(q1u xs _u).snd.snd.fst.length→True)∧(q1u xs _u).snd.snd.snd.snd.fst=true)∧(exB Ex.ret (q1u xs _u).fst=false→∀ (e:Nat),e<(q1u xs _u).snd.snd.fst.length→True))
theorem qn2 (pre:List T→DA.T DA.none→List Prop) (h:∀ xs g,DA.bd DA.none g→xs.length≤maxLen→(∀ p∈pre xs g,p)→q5n xs g):FnMut Tryz.prog 106 47 eT DA.none RM.self (fun xs g=>cpt_F xs g) pre:=qcl (Γ:=(MTab.gamz (MTab.of tabP) [] [])) (Λ:=lamG) (MTab.okz (MTab.of tabP) [] []) z0y 100 default (fun xs g=>q5n xs g) (fun xs g=>by kernel_rfl) (fun xs g=>by kernel_rfl) h
end
end Go.Proofs.YthnojkbkojpadaaGreat

namespace Go.Proofs.YthnojkbkojpadaaGreat
noncomputable section
open Go.RowKit Go.Sx Go.Lp
theorem qdo:(fun g:cp1_G=>cp1_R g.1 g.2.1 g.2.2.1 g.2.2.2)=coF eT.dflt:=funext ql2
theorem qdm (xs:List T) (h:xs.length≤maxLen) (h2:¬ (xs.length:Int)<2):allP (coI eT.dflt ((xs.length,xs,1,false,0):CoG T)):=fun q hq=>by
 simp only[coI,List.mem_singleton] at hq
 subst hq
 refine ⟨trivial,h,Int.le_refl _,by show (1:Int)≤(xs.length:Int);omega,?_⟩
 match xs,h2 with
 | x :: r,_=>rfl
theorem qn3:FnMut Tryz.prog 106 47 eT DA.none RM.self (fun xs _=>(compL xs,(compL xs).length)) (fun _ _=>[]):=by
 have h:=qn2 (fun _ _=>[]) fun xs g _ hl _=>by
  unfold q5n q1u
  rw[eT.lst_els,qdo]
  refine ⟨fun _ _ _=>trivial,fun hc=>?_⟩
  have hc:¬ (xs.length:Int)<2:=of_decide_eq_false hc
  have hI:=qdm xs hl hc
  refine ⟨fun _ _=>trivial,hI _ (List.mem_cons_self ..),fun he=>⟨fun _ _=>trivial,?_⟩,fun _ _ _=>trivial⟩
  rcases qp3 eT.dflt _ hI with ⟨h1,h2,h3,h4⟩ | ⟨h1,_⟩
  ·rw[h4]
  ·rw[h1] at he;cases he
 refine qcm h fun xs g _ hl _=>?_
 show cpt_F xs g=_
 unfold cpt_F q1u
 rw[eT.lst_els,eT.lst_els,qdo]
 by_cases hc:(xs.length:Int)<2
 ·simp only[hc,decide_true,cond_true]
  rw[qgh (by omega)]
 ·simp only[hc,decide_false,cond_false]
  rcases qp3 eT.dflt _ (qdm xs hl hc) with ⟨h1,h2,h3,h4⟩ | ⟨h1,h2,h3,h4⟩
  ·rw[h1,h3,h4];rfl
  ·rw[h1,h3,h2]
   simp only at h4
   rw[h4];rfl
def tabQ:MTab Tryz.prog:=((MTab.of tabP).consM 104 (bconM 47 eT qlf (.pure qg9) (fun xs _=>(srtBy (fun a b=>q19 a b) xs,())) qjw) (qdq qt1)).consM 106 (bconM 47 eT DA.none RM.self (fun xs _=>(compL xs,(compL xs).length)) (fun _ _=>[])) (qdq qn3)
end
end Go.Proofs.YthnojkbkojpadaaGreat

namespace Go.Proofs.YthnojkbkojpadaaGreat
noncomputable section
open Go.RowKit Go.Sx
set_option linter.unusedVariables false
abbrev ea_G:Type:=Int×Int×Unit×T×Nat×List T×LoopState×Option Code
def ea_LP:LP 5 ea_G:=.pair (.slot 5 6 dI) (.pair (.slot 5 7 dI) (.pair (.fix 5 0 (.yl 4)) (.pair (.obj 5 1 47 eT) (.pair (.owl 5 5 0) (.pair (.rowO 5 0 47 eT) (.rf 5 4 Tryz.prog 62 0 41 [(8,.p 1 0)] 3))))))
def ea_R (n:Int) (i:Int) (_u:Unit) (t:T) (l:Nat) (out:List T):Ex×ea_G:=
 bif decide (i<n) then bif q0k (out.getD i.toNat eT.dflt) t then (Ex.ret,n,i,(),t,l,eT.lst out.length (eT.els out),LoopState.done,some (Code.exit (1:Nat))) else (Ex.normal,n,IntKind.i64.wrap (i+(1:Int)),(),t,l,eT.lst out.length (eT.els out),LoopState.ready,none)
 else (Ex.exit (0:Nat),n,i,(),t,l,eT.lst out.length (eT.els out),LoopState.ready,none)
def qn0 (n:Int) (i:Int) (_u:Unit) (t:T) (l:Nat) (out:List T):Prop:=
 (decide (i<n)=true→((0:Int)≤i∧i<(↑l:Int))∧i.toNat<out.length∧(q0k (out.getD i.toNat eT.dflt) t=true→(∀ (e:Nat),e<out.length→True)∧q1r (q0f Tryz.prog (62:Nat) (0:Nat)).snd.fst (q0f Tryz.prog (62:Nat) (0:Nat)).snd.fst∧q1r (q0f Tryz.prog (62:Nat) (0:Nat)).snd.snd (q0f Tryz.prog (62:Nat) (0:Nat)).snd.snd)∧(q0k (out.getD i.toNat eT.dflt) t=false→(∀ (e:Nat),e<out.length→True)∧q1r (q0f Tryz.prog (62:Nat) (0:Nat)).snd.fst (q0f Tryz.prog (62:Nat) (0:Nat)).snd.fst∧q1r (q0f Tryz.prog (62:Nat) (0:Nat)).snd.snd (q0f Tryz.prog (62:Nat) (0:Nat)).snd.snd))∧(decide (i<n)=false→(∀ (e:Nat),e<out.length→True)∧q1r (q0f Tryz.prog (62:Nat) (0:Nat)).snd.fst (q0f Tryz.prog (62:Nat) (0:Nat)).snd.fst∧q1r (q0f Tryz.prog (62:Nat) (0:Nat)).snd.snd (q0f Tryz.prog (62:Nat) (0:Nat)).snd.snd)
theorem ea_one:((q00 Tryz.prog 141).filter fun c=>Nat.beq (lkey c) 1).length=1:=by kernel_rfl
abbrev ea_GC:Type:=Int×T×Nat×List T
abbrev ea_GB:Type:=Unit×LoopState×Option Code
def ea_f (g:ea_G):Int×ea_GC×ea_GB:=(g.2.1,(g.1,g.2.2.2.1,g.2.2.2.2.1,g.2.2.2.2.2.1),(g.2.2.1,g.2.2.2.2.2.2))
def ea_g (d:Int×ea_GC×ea_GB):ea_G:=(d.2.1.1,d.1,d.2.2.1,d.2.1.2.1,d.2.1.2.2.1,d.2.1.2.2.2,d.2.2.2)
def ea_E:List ((Ex×ea_G→Bool)×Ex×(ea_G→ea_G)):=[(fun x=>exB (.ret) x.1,.ret,fun g=>(g.1,g.2.1,g.2.2.1,g.2.2.2.1,g.2.2.2.2.1,g.2.2.2.2.2.1,(.done,some (.exit 1)))),(fun x=>exB (.exit 0) x.1,.exit 0,fun g=>(g.1,g.2.1,g.2.2.1,g.2.2.2.1,g.2.2.2.2.1,g.2.2.2.2.2.1,(.ready,none)))]
abbrev ea_rr (g:ea_G):Ex×ea_G:=ea_R g.1 g.2.1 g.2.2.1 g.2.2.2.1 g.2.2.2.2.1 g.2.2.2.2.2.1
abbrev ea_ss (g:ea_G):Prop:=qn0 g.1 g.2.1 g.2.2.1 g.2.2.2.1 g.2.2.2.2.1 g.2.2.2.2.2.1
theorem ea_es (g:ea_G):(ea_rr g).1=.normal∨q5k (ea_rr g) ea_E:=by
 unfold ea_rr ea_R
 repeat' (first | (left;rfl) | (right;exact ⟨fun _=>⟨rfl,rfl⟩,fun h=>absurd h (by simp[exB,pdB])⟩) | (right;exact ⟨fun h=>absurd h (by simp[exB,pdB]),fun _=>⟨rfl,rfl⟩⟩) | (rw[Bool.cond_eq_ite];split))
abbrev ea_C (Inv:ea_G→List Prop) (m:ea_G→Nat):LCon:=qk4 ea_E (loopBody Tryz.prog 141 1) ea_LP [] 16 Inv ea_rr m
def ea_i (g:ea_G):ea_G:=(g.1,g.2.1,g.2.2.1,g.2.2.2.1,g.2.2.2.2.1,g.2.2.2.2.2.1,(LoopState.ready,none))
theorem ea_loop (Inv:ea_G→List Prop) (m:ea_G→Nat) (hs:∀ g,allP (Inv g)→ea_ss g) (hι:∀ g,allP (Inv g)→ea_i g=g) (hg:Goes ea_rr m fun g=>allP (Inv g)):∀ b∈q00 Tryz.prog 141,lkey b=1→q02 Tryz.prog b (ea_C Inv m).g:=q8v ea_i (Γ:=(MTab.gamz tabQ [] [])) (Λ:=noΛ) (MTab.okz tabQ [] []) q0o 100 141 1 16 ea_LP [] Inv ea_rr ea_ss m default ea_E ea_one (fun rd T B HL HB ds g=>by kernel_rfl) (fun rd T B HL HB ds g=>by kernel_rfl) hι hs hg ea_es
end
end Go.Proofs.YthnojkbkojpadaaGreat

namespace Go.Proofs.YthnojkbkojpadaaGreat
noncomputable section
open Go.RowKit Go.Sx Go.Lp
def ea_S (c:ea_GC) (_:ea_GB) (_:Int) (v:T):Ex×ea_GB:=bif q0k v c.2.1 then (.ret,(),.done,some (.exit 1)) else (.normal,(),.ready,none)
def ea_K (c:ea_GC) (b:ea_GB) (_:Int):Prop:=b.2=(LoopState.ready,(none:Option Code))∧c.2.2.1=c.2.2.2.length
abbrev ea_I (g:ea_G):List Prop:=ixI (fun c:ea_GC=>c.1) (fun c=>c.2.2.2) ea_K (ea_f g)
abbrev ea_M (g:ea_G):Nat:=ixM (fun c:ea_GC=>c.1) (ea_f g)
theorem ea_P:ixP ea_S (fun c:ea_GC=>c.2.2.2) ea_K:=by
 rintro ⟨n,t,l,out⟩ ⟨⟨⟩,st,pd⟩ i a hk _ hn
 unfold ea_S at hn ⊢
 cases hc:q0k a t with
 | true=>simp only[hc] at hn;cases hn
 | false=>exact ⟨rfl,hk.2⟩
abbrev ea_RR (g:ea_G):Ex×ea_G:=ea_R g.1 g.2.1 g.2.2.1 g.2.2.2.1 g.2.2.2.2.1 g.2.2.2.2.2.1
theorem ea_RF (d:Int×ea_GC×ea_GB) (hi:allP (ixI (fun c:ea_GC=>c.1) (fun c=>c.2.2.2) ea_K d)):ea_RR (ea_g d)=((ixF 0 (fun c:ea_GC=>c.1) (fun c=>c.2.2.2) eT.dflt ea_S d).1,ea_g (ixF 0 (fun c:ea_GC=>c.1) (fun c=>c.2.2.2) eT.dflt ea_S d).2):=by
 obtain ⟨hb,hl⟩:=(hi _ (List.mem_cons_self ..)).2.2.2.2
 obtain ⟨i,⟨n,t,l,out⟩,⟨⟨⟩,st,pd⟩⟩:=d
 have hb:(st,pd)=(LoopState.ready,(none:Option Code)):=hb
 have hl:l=out.length:=hl
 subst hl
 cases hb
 show ea_R n i () t out.length out=_
 unfold ea_R ixF ea_S
 simp only[eT.lst_els]
 cases decide (i<n) with
 | false=>rfl
 | true=>
  simp only[cond_true]
  generalize q0k (out.getD i.toNat eT.dflt) t=z
  cases z <;> rfl
theorem ea_ok:∀ b∈q00 Tryz.prog 141,lkey b=1→q02 Tryz.prog b (ea_C ea_I ea_M).g:=by
 refine ea_loop ea_I ea_M (fun g hi=>?_) (fun g hi=>?_) (q06 (fun _=>rfl) (fun _=>rfl) ea_RF ea_P)
 ·obtain ⟨n,i,⟨⟩,t,l,out,⟨st,pd⟩⟩:=g
  obtain ⟨h1,h2,h3,h4,h5⟩:=hi _ (List.mem_cons_self ..)
  have h1:n=(out.length:Int):=h1
  have h3:0≤i:=h3
  show qn0 n i () t l out
  unfold qn0
  simp only[decide_eq_true_eq,decide_eq_false_iff_not]
  have ha:=okT out
  have h6:l=out.length:=h5.2
  subst h6
  clear hi
  repeat' (first | exact ha | exact rfl | apply And.intro | intro _)
  all_goals (first | trivial | omega)
 ·obtain ⟨n,i,⟨⟩,t,l,out,⟨st,pd⟩⟩:=g
  have h5:=(hi _ (List.mem_cons_self ..)).2.2.2.2.1
  have h5:(st,pd)=(LoopState.ready,(none:Option Code)):=h5
  cases h5
  rfl
theorem ea_run (n:Int) (t:T) (out:List T) (h1:n=(out.length:Int)) (h2:out.length≤maxLen):∃ j,loopF ea_RR ea_M (n,0,(),t,out.length,out,(.ready,none))=bif out.any (q0k · t) then (.ret,n,j,(),t,out.length,out,(.done,some (.exit 1))) else (.exit 0,n,j,(),t,out.length,out,(.ready,none)):=by
 have hr:loopF ea_RR ea_M (n,0,(),t,out.length,out,(.ready,none))=_:=q0a (φ:=ea_f) (ψ:=ea_g) (fun _=>rfl) (fun _=>rfl) ea_RF ea_P (n,t,out.length,out) ((),.ready,none) h1 h2 ⟨rfl,rfl⟩
 rcases scan_bad (x:=0) (st:=ea_S (n,t,out.length,out)) (p:=(q0k · t)) (r:=fun _ _=>((),LoopState.done,some (Code.exit 1))) (f:=fun _ _=>((),LoopState.ready,(none:Option Code))) (e:=.ret) (by intro h;cases h) (fun _ _ _=>rfl) out 0 ((),.ready,none) with ⟨ha,h3,a,b',_,_,h4⟩ | ⟨ha,h3⟩
 ·have h3:(scan 0 (ea_S (n,t,out.length,out)) 0 out ((),.ready,none)).1=_:=h3
  have h4:(scan 0 (ea_S (n,t,out.length,out)) 0 out ((),.ready,none)).2.2=_:=h4
  refine ⟨(scan 0 (ea_S (n,t,out.length,out)) 0 out ((),.ready,none)).2.1,hr.trans ?_⟩
  rw[ha]
  show ((scan 0 (ea_S (n,t,out.length,out)) 0 out ((),.ready,none)).1,ea_g ((scan 0 (ea_S (n,t,out.length,out)) 0 out ((),.ready,none)).2.1,(n,t,out.length,out),(scan 0 (ea_S (n,t,out.length,out)) 0 out ((),.ready,none)).2.2))=_
  rw[h3,h4]
  rfl
 ·have h3:scan 0 (ea_S (n,t,out.length,out)) 0 out ((),.ready,none)=_:=h3
  have hf:∀ l:List T,l.foldl (fun (_:ea_GB) (_:T)=>((),LoopState.ready,(none:Option Code))) ((),LoopState.ready,(none:Option Code))=((),LoopState.ready,none):=by
   intro l
   induction l with
   | nil=>rfl
   | cons a l ih=>exact ih
  refine ⟨(scan 0 (ea_S (n,t,out.length,out)) 0 out ((),.ready,none)).2.1,hr.trans ?_⟩
  rw[ha]
  show ((scan 0 (ea_S (n,t,out.length,out)) 0 out ((),.ready,none)).1,ea_g ((scan 0 (ea_S (n,t,out.length,out)) 0 out ((),.ready,none)).2.1,(n,t,out.length,out),(scan 0 (ea_S (n,t,out.length,out)) 0 out ((),.ready,none)).2.2))=_
  rw[h3,hf]
  rfl
def ltH:LTab Tryz.prog:=ltE.cons 141 1 (ea_C ea_I ea_M) ea_ok
abbrev lamH:Lam:=ltH.lam
theorem z0x:∀ f k L,lamH f k=some L→∀ b∈q00 Tryz.prog f,lkey b=k→q02 Tryz.prog b L.g:=ltH.ok
end
end Go.Proofs.YthnojkbkojpadaaGreat

namespace Go.Proofs.YthnojkbkojpadaaGreat
noncomputable section
open Go.RowKit Go.Sx
set_option linter.unusedVariables false
def q7s (out:List T) (ys:List T) (n:Int) (i:Int):Ex ×
 ea_G:=
 loopF (fun g=>ea_R g.fst g.snd.fst g.snd.snd.fst g.snd.snd.snd.fst g.snd.snd.snd.snd.fst g.snd.snd.snd.snd.snd.fst) ea_M ((↑out.length:Int),(0:Int),(),ys.getD i.toNat eT.dflt,out.length,eT.lst out.length (eT.els out),LoopState.ready,none)
abbrev of1_G:Type:=List T×List T×Int×Int
def qwr:LP 0 of1_G:=.pair (.row 0 6 47 eT) (.pair (.slot 0 20 dLT) (.pair (.slot 0 21 dI) (.slot 0 22 dI)))
def of1_R (out:List T) (ys:List T) (n:Int) (i:Int):Ex×of1_G:=
 bif decide (i<n) then bif exB Ex.ret (q7s out ys n i).fst then (Ex.normal,eT.lst out.length (eT.els (q7s out ys n i).snd.snd.snd.snd.snd.snd.fst),eT.lst ys.length (eT.els ys),n,IntKind.i64.wrap (i+(1:Int))) else (Ex.normal,eT.lst (min (out.length+(1:Nat)) out.length) (eT.els (q7s out ys n i).snd.snd.snd.snd.snd.snd.fst)++List.map (fun x=>(q7s out ys n i).snd.snd.snd.snd.fst) (List.range (out.length+(1:Nat) - out.length)),eT.lst ys.length (eT.els ys),n,IntKind.i64.wrap (i+(1:Int)))
 else (Ex.exit (0:Nat),eT.lst out.length (eT.els out),eT.lst ys.length (eT.els ys),n,i)
def qho (out:List T) (ys:List T) (n:Int) (i:Int):Prop:=
 (decide (i<n)=true→((0:Int)≤i∧i<(↑ys.length:Int))∧(∀ (e:Nat),e<out.length→True)∧q1r (q0f Tryz.prog (62:Nat) (0:Nat)).snd.fst (q0f Tryz.prog (62:Nat) (0:Nat)).snd.fst∧q1r (q0f Tryz.prog (62:Nat) (0:Nat)).snd.snd (q0f Tryz.prog (62:Nat) (0:Nat)).snd.snd∧Lp.ixJ (fun c=>c.fst) (fun c=>c.snd.snd.snd) ea_K (ea_f ((↑out.length:Int),(0:Int),(),ys.getD i.toNat eT.dflt,out.length,eT.lst out.length (eT.els out),LoopState.ready,none))∧(exB Ex.ret (q7s out ys n i).fst=true→out.length≤(q7s out ys n i).snd.snd.snd.snd.snd.snd.fst.length∧(∀ (e:Nat),e<out.length→True)∧∀ (e:Nat),e<ys.length→eT.Ok (eT.els ys e))∧(exB Ex.ret (q7s out ys n i).fst=false→(out.length≤(q7s out ys n i).snd.snd.snd.snd.snd.snd.fst.length∧True∧out.length+(1:Nat)≤maxLen∧(out.length+(1:Nat)) * Tryz.prog.types[(47:Nat)].bytes≤(140737488355328:Nat))∧out.length+(1:Nat)≤out.length+(1:Nat)∧(∀ (e:Nat),e<min (out.length+(1:Nat)) out.length→True)∧(∀ (e:Nat),e<out.length+(1:Nat) - out.length→True)∧∀ (e:Nat),e<ys.length→eT.Ok (eT.els ys e)))∧(decide (i<n)=false→out.length≤out.length∧(∀ (e:Nat),e<out.length→True)∧∀ (e:Nat),e<ys.length→eT.Ok (eT.els ys e))
theorem z0m:((q00 Tryz.prog 62).filter fun c=>Nat.beq (lkey c) 8).length=1:=by kernel_rfl
abbrev q6h:Type:=List T×Int
abbrev qf3:Type:=List T
def of1_f (g:of1_G):Int×q6h×qf3:=(g.2.2.2,(g.2.1,g.2.2.1),g.1)
def of1_g (d:Int×q6h×qf3):of1_G:=(d.2.2,d.2.1.1,d.2.1.2,d.1)
abbrev qf1 (g:of1_G):Ex×of1_G:=of1_R g.1 g.2.1 g.2.2.1 g.2.2.2
abbrev qwq (g:of1_G):Prop:=qho g.1 g.2.1 g.2.2.1 g.2.2.2
theorem of1_es (g:of1_G):(qf1 g).1=.normal∨(qf1 g).1∈([.ret,.exit 0]:List Ex):=by
 unfold qf1 of1_R
 repeat' (first | (left;rfl) | (right;simp only[cond_true,cond_false];simp;done) | (rw[Bool.cond_eq_ite];split))
abbrev of1_C (Inv:of1_G→List Prop) (m:of1_G→Nat):LCon:=loopR [.ret,.exit 0] (loopBody Tryz.prog 62 8) qwr [] 41 Inv qf1 m
theorem qtu (Inv:of1_G→List Prop) (m:of1_G→Nat) (hs:∀ g,allP (Inv g)→qwq g) (hg:Goes qf1 m fun g=>allP (Inv g)):∀ b∈q00 Tryz.prog 62,lkey b=8→q02 Tryz.prog b (of1_C Inv m).g:=q0g (Γ:=(MTab.gamz tabQ [] [])) (Λ:=lamH) (MTab.okz tabQ [] []) z0x 100 62 8 41 qwr [] Inv qf1 qwq m default [.ret,.exit 0] z0m (fun rd T B HL HB ds g=>by kernel_rfl) (fun rd T B HL HB ds g=>by kernel_rfl) hs hg of1_es
end
end Go.Proofs.YthnojkbkojpadaaGreat

namespace Go.Proofs.YthnojkbkojpadaaGreat
noncomputable section
open Go.RowKit Go.Sx Go.Lp
theorem qlb (h:47<Tryz.prog.types.size):(Tryz.prog.types[47]'h).bytes=48:=by kernel_rfl
theorem qtv {α:Type} (A:El α) (out:List α) (s y:α):A.lst (min (min (out.length+1+1) (out.length+1)) out.length) (A.els out)++List.map (fun _=>s) (List.range (min (out.length+1+1) (out.length+1) - out.length))++List.map (fun _=>y) (List.range (out.length+1+1 - (out.length+1)))=(out++[s])++[y]:=by
 rw[Nat.min_eq_right (Nat.le_succ (out.length+1)),Nat.min_eq_right (Nat.le_succ _),A.lst_els,Nat.add_sub_cancel_left,Nat.add_sub_cancel_left];rfl
def KS:Nat:=1000000
def pt_f1 (t:T) (b:List T×Bool) (v:T):List T×Bool:=bif !b.2&&decide (q19 t v<0) then (b.1++[t]++[v],true) else (b.1++[v],b.2)
def pt_S (c:pt_GC) (b:pt_GB) (_:Int) (v:T):Ex×pt_GB:=(.normal,(),(pt_f1 c.2 b.2 v).1,(pt_f1 c.2 b.2 v).2)
def pt_K (c:pt_GC) (b:pt_GB) (i:Int):Prop:=c.1.length≤KS∧(b.2.1.length:Int)≤i+(bif b.2.2 then 1 else 0)
abbrev pt_I (g:pt_G):List Prop:=ixI (fun c:pt_GC=>(c.1.length:Int)) (fun c=>c.1) pt_K (pt_f g)
abbrev pt_M (g:pt_G):Nat:=ixM (fun c:pt_GC=>(c.1.length:Int)) (pt_f g)
theorem pt_P:ixP pt_S (fun c:pt_GC=>c.1) pt_K:=by
 rintro ⟨xs,t⟩ ⟨⟨⟩,out,z⟩ i a ⟨h1,h2⟩ _ _
 refine ⟨h1,?_⟩
 have h2:(out.length:Int)≤(i:Int)+(bif z then 1 else 0):=h2
 show ((pt_f1 t (out,z) a).1.length:Int)≤(i:Int)+1+(bif (pt_f1 t (out,z) a).2 then 1 else 0)
 unfold pt_f1
 generalize decide (q19 t a<0)=c
 cases z <;> cases c <;> simp at h2 ⊢ <;> omega
abbrev pt_RR (g:pt_G):Ex×pt_G:=pt_R g.1 g.2.1 g.2.2.1 g.2.2.2.1 g.2.2.2.2.1 g.2.2.2.2.2
theorem pt_RF (d:Int×pt_GC×pt_GB) (_:allP (ixI (fun c:pt_GC=>(c.1.length:Int)) (fun c=>c.1) pt_K d)):pt_RR (pt_g d)=((ixF 0 (fun c:pt_GC=>(c.1.length:Int)) (fun c=>c.1) eT.dflt pt_S d).1,pt_g (ixF 0 (fun c:pt_GC=>(c.1.length:Int)) (fun c=>c.1) eT.dflt pt_S d).2):=by
 obtain ⟨i,⟨xs,t⟩,⟨⟨⟩,out,z⟩⟩:=d
 show pt_R xs () t out z i=_
 unfold pt_R ixF pt_S pt_f1
 simp only[eT.lst_els,q3e,qtv,qt8]
 cases decide (i<(xs.length:Int)) with
 | false=>rfl
 | true=>
  simp only[cond_true]
  generalize (!z&&decide (q19 t (xs.getD i.toNat eT.dflt)<0))=c
  cases c <;> rfl
theorem pt_ok:∀ b∈q00 Tryz.prog 144,lkey b=4→q02 Tryz.prog b (pt_C pt_I pt_M).g:=by
 refine z0g pt_I pt_M (fun g hi=>?_) (q06 (fun _=>rfl) (fun _=>rfl) pt_RF pt_P)
 obtain ⟨xs,⟨⟩,t,out,z,i⟩:=g
 obtain ⟨h1,h2,h3,h4,h5,h6⟩:=hi _ (List.mem_cons_self ..)
 have h3:0≤i:=h3
 have h4:i≤(xs.length:Int):=h4
 have h5:xs.length≤KS:=h5
 have h6:(out.length:Int)≤i+(bif z then 1 else 0):=h6
 unfold KS at h5
 have h7:out.length≤1000002:=by cases z <;> simp only[cond_true,cond_false] at h6 <;> omega
 show qlw xs () t out z i
 unfold qlw
 simp only[qlb,decide_eq_true_eq,decide_eq_false_iff_not]
 have ha:=okT xs
 clear hi h6
 unfold maxLen
 repeat' (first | exact ha | exact rfl | apply And.intro | intro _)
 all_goals (first | trivial | omega)
def insP (t:T):List T→List T
 | []=>[t]
 | y :: r=>if q19 t y<0 then t :: y :: r else y :: insP t r
theorem qrg (t:T):∀ (l:List T) (out:List T),l.foldl (pt_f1 t) (out,true)=(out++l,true)
 | [],out=>by simp
 | y :: r,out=>by
  rw[List.foldl_cons]
  have:pt_f1 t (out,true) y=(out++[y],true):=rfl
  rw[this,qrg t r]
  simp
theorem qlx (t:T):∀ (l:List T) (out:List T),(l.foldl (pt_f1 t) (out,false)).1++(bif (l.foldl (pt_f1 t) (out,false)).2 then [] else [t])=out++insP t l
 | [],out=>rfl
 | y :: r,out=>by
  rw[List.foldl_cons]
  unfold insP
  by_cases h:q19 t y<0
  ·have:pt_f1 t (out,false) y=(out++[t]++[y],true):=by unfold pt_f1;simp[h]
   rw[this,qrg,if_pos h]
   simp
  ·have:pt_f1 t (out,false) y=(out++[y],false):=by unfold pt_f1;simp[h]
   rw[this,if_neg h,qlx t r]
   simp
theorem qi6 (t:T):∀ l:List T,(insP t l).length=l.length+1
 | []=>rfl
 | y :: r=>by
  unfold insP
  split
  ·rfl
  ·simp[qi6 t r]
theorem qx3 (t:T):∀ {l:List T},t∉l→insP t l=insU (fun a b=>q19 a b) t l
 | [],_=>rfl
 | y :: r,h=>by
  have h1:¬ y=t:=fun e=>h (e▸List.mem_cons_self ..)
  unfold insP insU
  rw[if_neg h1,qx3 t fun hm=>h (List.mem_cons_of_mem _ hm)]
theorem pt_run (xs:List T) (t:T) (h:xs.length≤KS):∃ out z,loopF pt_RR pt_M (xs,(),t,[],false,0)=(.exit 0,xs,(),t,out,z,(xs.length:Int))∧out++(bif z then [] else [t])=insP t xs∧out.length≤xs.length+1:=by
 have hm:xs.length≤maxLen:=by unfold KS at h;unfold maxLen;omega
 have hr:loopF pt_RR pt_M (xs,(),t,[],false,0)=_:=q0a (φ:=pt_f) (ψ:=pt_g) (fun _=>rfl) (fun _=>rfl) pt_RF pt_P (xs,t) ((),[],false) rfl hm ⟨h,by show ((0:Nat):Int)≤0+0;omega⟩
 have hf:∀ (l:List T) (b:pt_GB),l.foldl (fun (b:pt_GB) v=>((),(pt_f1 t b.2 v).1,(pt_f1 t b.2 v).2)) b=((),l.foldl (pt_f1 t) b.2):=by
  intro l
  induction l with
  | nil=>intro b;rfl
  | cons a l ih=>intro b;rw[List.foldl_cons,ih];rfl
 have hs:=scan_fold (x:=0) (st:=pt_S (xs,t)) (f:=fun (b:pt_GB) v=>((),(pt_f1 t b.2 v).1,(pt_f1 t b.2 v).2)) (fun _ _ _=>rfl) xs 0 ((),[],false)
 have hs:scan 0 (pt_S (xs,t)) 0 xs ((),[],false)=_:=hs
 rw[hf] at hs
 refine ⟨(xs.foldl (pt_f1 t) ([],false)).1,(xs.foldl (pt_f1 t) ([],false)).2,?_,by rw[qlx];rfl,?_⟩
 ·rw[hr]
  show ((scan 0 (pt_S (xs,t)) 0 xs ((),[],false)).1,pt_g ((scan 0 (pt_S (xs,t)) 0 xs ((),[],false)).2.1,(xs,t),(scan 0 (pt_S (xs,t)) 0 xs ((),[],false)).2.2))=_
  rw[hs,Int.zero_add]
  rfl
 ·have:=congrArg List.length (qlx t xs [])
  rw[List.length_append,List.nil_append,qi6] at this
  omega
def ltJ:LTab Tryz.prog:=ltE.cons 144 4 (pt_C pt_I pt_M) pt_ok
abbrev lamJ:Lam:=ltJ.lam
theorem z0w:∀ f k L,lamJ f k=some L→∀ b∈q00 Tryz.prog f,lkey b=k→q02 Tryz.prog b L.g:=ltJ.ok
end
end Go.Proofs.YthnojkbkojpadaaGreat

namespace Go.Proofs.YthnojkbkojpadaaGreat
noncomputable section
open Go.RowKit Go.Sx
set_option linter.unusedVariables false
abbrev rLT:Rv (List T):=.list eT
def q25 (xs:List T) (t:T):Ex ×
 pt_G:=
 loopF (fun g=>pt_R g.fst g.snd.fst g.snd.snd.fst g.snd.snd.snd.fst g.snd.snd.snd.snd.fst g.snd.snd.snd.snd.snd) pt_M (eT.lst xs.length (eT.els xs),(),t,[],false,(0:Int))
def put_F (xs:List T) (t:T):Rv.T rLT:=
 bif !(q25 xs t).snd.snd.snd.snd.snd.fst then eT.lst (min ((q25 xs t).snd.snd.snd.snd.fst.length+(1:Nat)) (q25 xs t).snd.snd.snd.snd.fst.length) (eT.els (q25 xs t).snd.snd.snd.snd.fst)++List.map (fun x=>(q25 xs t).snd.snd.snd.fst) (List.range ((q25 xs t).snd.snd.snd.snd.fst.length+(1:Nat) - (q25 xs t).snd.snd.snd.snd.fst.length))
 else eT.lst (q25 xs t).snd.snd.snd.snd.fst.length (eT.els (q25 xs t).snd.snd.snd.snd.fst)
def qaw (xs:List T) (t:T):Prop:=
 (∀ (e:Nat),e<xs.length→eT.Ok (eT.els xs e))∧Lp.ixJ (fun c=>(↑c.fst.length:Int)) (fun c=>c.fst) pt_K (pt_f (eT.lst xs.length (eT.els xs),(),t,[],false,(0:Int)))∧((!(q25 xs t).snd.snd.snd.snd.snd.fst)=true→((q25 xs t).snd.snd.snd.snd.fst.length≤(q25 xs t).snd.snd.snd.snd.fst.length∧True∧(q25 xs t).snd.snd.snd.snd.fst.length+(1:Nat)≤maxLen∧((q25 xs t).snd.snd.snd.snd.fst.length+(1:Nat)) * Tryz.prog.types[(47:Nat)].bytes≤(140737488355328:Nat))∧(q25 xs t).snd.snd.snd.snd.fst.length+(1:Nat)≤(q25 xs t).snd.snd.snd.snd.fst.length+(1:Nat)∧(∀ (e:Nat),e<min ((q25 xs t).snd.snd.snd.snd.fst.length+(1:Nat)) (q25 xs t).snd.snd.snd.snd.fst.length→True)∧∀ (e:Nat),e<(q25 xs t).snd.snd.snd.snd.fst.length+(1:Nat) - (q25 xs t).snd.snd.snd.snd.fst.length→True)∧((!(q25 xs t).snd.snd.snd.snd.snd.fst)=false→(q25 xs t).snd.snd.snd.snd.fst.length≤(q25 xs t).snd.snd.snd.snd.fst.length∧∀ (e:Nat),e<(q25 xs t).snd.snd.snd.snd.fst.length→True)
theorem z0c (pre:DA.T aLT→List Prop) (h:∀ g,DA.bd aLT g→(∀ p∈pre g,p)→qaw g.1 g.2):q04 Tryz.prog 144 aLT (Rv.D rLT) (fun g=>put_F g.1 g.2) pre:=q1a (R:=rLT) (Γ:=(MTab.gamz (MTab.of tabP) [] [])) (Λ:=lamJ) (MTab.okz (MTab.of tabP) [] []) z0w 100 default (fun g=>qaw g.1 g.2) (fun g=>by kernel_rfl) (fun g=>by kernel_rfl) h
end
end Go.Proofs.YthnojkbkojpadaaGreat

namespace Go.Proofs.YthnojkbkojpadaaGreat
noncomputable section
open Go.RowKit Go.Sx Go.Lp
theorem put_eq (xs:List T) (t:T) (h:xs.length≤KS):put_F xs t=insP t xs∧qaw xs t:=by
 have hm:xs.length≤maxLen:=by unfold KS at h;unfold maxLen;omega
 have h':=h
 unfold KS at h'
 obtain ⟨out,z,h1,h2,h3⟩:=pt_run xs t h
 have h1:loopF (fun g:pt_G=>pt_R g.1 g.2.1 g.2.2.1 g.2.2.2.1 g.2.2.2.2.1 g.2.2.2.2.2) pt_M (xs,(),t,[],false,0)=_:=h1
 unfold put_F qaw q25
 simp only[eT.lst_els,h1,q3e,qlb]
 refine ⟨?_,okT xs,ixJ0 rfl hm ⟨h,by show ((0:Nat):Int)≤0+0;omega⟩,fun _=>⟨⟨Nat.le_refl _,trivial,by unfold maxLen;omega,by omega⟩,Nat.le_refl _,fun _ _=>trivial,fun _ _=>trivial⟩,fun _=>⟨Nat.le_refl _,fun _ _=>trivial⟩⟩
 rw[← h2]
 cases z <;> simp
theorem put_ok:q04 Tryz.prog 144 aLT (Rv.D rLT) (fun g=>insP g.2 g.1) (fun g=>[g.1.length≤KS]):=
 q0b (z0c _ fun g _ hp=>(put_eq g.1 g.2 (hp _ (List.mem_cons_self ..))).2) fun g _ hp=>(put_eq g.1 g.2 (hp _ (List.mem_cons_self ..))).1
theorem onesT (xs:List T) (e:Nat):(eT.els xs e).all SV.one=true:=by
 unfold El.els
 generalize xs.getD e eT.dflt=t
 rfl
def tabR:PTab Tryz.prog:=tabP.cons 144 (pconR aLT dLT (fun g=>insP g.2 g.1) (fun g=>[g.1.length≤KS])) (q1v put_ok)
def ltK:LTab Tryz.prog:=ltJ
abbrev lamK:Lam:=ltK.lam
theorem z0v:∀ f k L,lamK f k=some L→∀ b∈q00 Tryz.prog f,lkey b=k→q02 Tryz.prog b L.g:=ltK.ok
end
end Go.Proofs.YthnojkbkojpadaaGreat

namespace Go.Proofs.YthnojkbkojpadaaGreat
noncomputable section
open Go.RowKit Go.Sx
set_option linter.unusedVariables false
def q15 (xs:List T) (out:List T) (i:Int):Ex ×
 ro2_G:=
 loopF (fun g=>ro2_R g.fst g.snd.fst g.snd.snd.fst g.snd.snd.snd.fst g.snd.snd.snd.snd) ro2_M (eT.lst xs.length (eT.els xs),i,!decide (xs.getD i.toNat eT.dflt∈eT.lst out.length (eT.els out)),(0:Int),eT.lst out.length (eT.els out))
abbrev ro1_G:Type:=List T×List T×Int
def qw3:LP 0 ro1_G:=.pair (.slot 0 0 dLT) (.pair (.slot 0 5 dLT) (.slot 0 6 dI))
def ro1_R (xs:List T) (out:List T) (i:Int):Ex×ro1_G:=
 bif decide (i<(↑xs.length:Int)) then (Ex.normal,eT.lst (q15 xs out i).snd.fst.length (eT.els (q15 xs out i).snd.fst),eT.lst (bif (q15 xs out i).snd.snd.snd.fst then (insP ((q15 xs out i).snd.fst.getD (q15 xs out i).snd.snd.fst.toNat eT.dflt) (eT.lst (q15 xs out i).snd.snd.snd.snd.snd.length (eT.els (q15 xs out i).snd.snd.snd.snd.snd))).length else (q15 xs out i).snd.snd.snd.snd.snd.length) (bif (q15 xs out i).snd.snd.snd.fst then eT.els (insP ((q15 xs out i).snd.fst.getD (q15 xs out i).snd.snd.fst.toNat eT.dflt) (eT.lst (q15 xs out i).snd.snd.snd.snd.snd.length (eT.els (q15 xs out i).snd.snd.snd.snd.snd))) else eT.els (q15 xs out i).snd.snd.snd.snd.snd),IntKind.i64.wrap ((q15 xs out i).snd.snd.fst+(1:Int)))
 else (Ex.exit (0:Nat),eT.lst xs.length (eT.els xs),eT.lst out.length (eT.els out),i)
def qhe (xs:List T) (out:List T) (i:Int):Prop:=
 (decide (i<(↑xs.length:Int))=true→((0:Int)≤i∧i<(↑xs.length:Int))∧(∀ (e:Nat),e<out.length→eT.Ok (eT.els out e))∧(∀ (e:Nat),e<xs.length→eT.Ok (eT.els xs e))∧(∀ (e:Nat),e<out.length→eT.Ok (eT.els out e))∧Lp.ixJ (fun c=>(↑c.fst.length:Int)) (fun c=>c.fst) ro2_K (ro2_f (eT.lst xs.length (eT.els xs),i,!decide (xs.getD i.toNat eT.dflt∈eT.lst out.length (eT.els out)),(0:Int),eT.lst out.length (eT.els out)))∧((q15 xs out i).snd.snd.snd.fst=true→(0:Int)≤(q15 xs out i).snd.snd.fst∧(q15 xs out i).snd.snd.fst<(↑(q15 xs out i).snd.fst.length:Int))∧((q15 xs out i).snd.snd.snd.fst=true→∀ (e:Nat),e<(q15 xs out i).snd.snd.snd.snd.snd.length→eT.Ok (eT.els (q15 xs out i).snd.snd.snd.snd.snd e))∧((q15 xs out i).snd.snd.snd.fst=true→(eT.lst (q15 xs out i).snd.snd.snd.snd.snd.length (eT.els (q15 xs out i).snd.snd.snd.snd.snd)).length≤KS)∧(∀ (e:Nat),e<(q15 xs out i).snd.fst.length→eT.Ok (eT.els (q15 xs out i).snd.fst e))∧∀ (e:Nat),(e<bif (q15 xs out i).snd.snd.snd.fst then (insP ((q15 xs out i).snd.fst.getD (q15 xs out i).snd.snd.fst.toNat eT.dflt) (eT.lst (q15 xs out i).snd.snd.snd.snd.snd.length (eT.els (q15 xs out i).snd.snd.snd.snd.snd))).length else (q15 xs out i).snd.snd.snd.snd.snd.length)→eT.Ok ((bif (q15 xs out i).snd.snd.snd.fst then eT.els (insP ((q15 xs out i).snd.fst.getD (q15 xs out i).snd.snd.fst.toNat eT.dflt) (eT.lst (q15 xs out i).snd.snd.snd.snd.snd.length (eT.els (q15 xs out i).snd.snd.snd.snd.snd))) else eT.els (q15 xs out i).snd.snd.snd.snd.snd) e))∧(decide (i<(↑xs.length:Int))=false→(∀ (e:Nat),e<xs.length→eT.Ok (eT.els xs e))∧∀ (e:Nat),e<out.length→eT.Ok (eT.els out e))
theorem qzx:((q00 Tryz.prog 108).filter fun c=>Nat.beq (lkey c) 6).length=1:=by kernel_rfl
abbrev q6b:Type:=List T
abbrev qep:Type:=List T
def ro1_f (g:ro1_G):Int×q6b×qep:=(g.2.2,g.1,g.2.1)
def ro1_g (d:Int×q6b×qep):ro1_G:=(d.2.1,d.2.2,d.1)
abbrev qeo (g:ro1_G):Ex×ro1_G:=ro1_R g.1 g.2.1 g.2.2
abbrev qw1 (g:ro1_G):Prop:=qhe g.1 g.2.1 g.2.2
theorem ro1_es (g:ro1_G):(qeo g).1=.normal∨(qeo g).1∈([.exit 0]:List Ex):=by
 unfold qeo ro1_R
 repeat' (first | (left;rfl) | (right;simp only[cond_true,cond_false];simp;done) | (rw[Bool.cond_eq_ite];split))
abbrev ro1_C (Inv:ro1_G→List Prop) (m:ro1_G→Nat):LCon:=loopR [.exit 0] (loopBody Tryz.prog 108 6) qw3 [] 64 Inv qeo m
theorem qti (Inv:ro1_G→List Prop) (m:ro1_G→Nat) (hs:∀ g,allP (Inv g)→qw1 g) (hg:Goes qeo m fun g=>allP (Inv g)):∀ b∈q00 Tryz.prog 108,lkey b=6→q02 Tryz.prog b (ro1_C Inv m).g:=q0g (Γ:=(PTab.gamz tabR [] [])) (Λ:=lamK) (PTab.okz tabR [] []) z0v 100 108 6 64 qw3 [] Inv qeo qw1 m default [.exit 0] qzx (fun rd T B HL HB ds g=>by kernel_rfl) (fun rd T B HL HB ds g=>by kernel_rfl) hs hg ro1_es
end
end Go.Proofs.YthnojkbkojpadaaGreat

namespace Go.Proofs.YthnojkbkojpadaaGreat
noncomputable section
open Go.RowKit Go.Sx Go.Lp
def leqC (ys xs:List T):Bool:=xs.all fun v=>ys.any (q0k · v)
theorem qns (v:T):∀ (l:List T) (z:Bool),l.foldl (fun z u=>!(!eqT u v&&q2a u v)&&z) z=(z&&isMin q0k l v)
 | [],z=>by simp[isMin]
 | a :: l,z=>by
  rw[List.foldl_cons,qns v l]
  unfold isMin eqT
  simp only[List.any_cons,qt6]
  cases hc:decide (a=v) with
  | true=>
   have hc:=of_decide_eq_true hc
   simp[hc]
  | false=>
   have hc:=of_decide_eq_false hc
   simp only[ne_eq,hc,not_false_eq_true,decide_true,Bool.true_and,Bool.not_false,Bool.not_or]
   cases q0k a v <;> cases z <;> simp
theorem ro1_q (xs out:List T) (i:Int) (hi:0≤i∧i<(xs.length:Int)) (hm:xs.length≤maxLen):q15 xs out i=(.exit 2,xs,i,!decide (xs.getD i.toNat eT.dflt∈out)&&isMin q0k xs (xs.getD i.toNat eT.dflt),(xs.length:Int),out):=by
 unfold q15
 simp only[eT.lst_els]
 generalize hz:(!decide (xs.getD i.toNat eT.dflt∈out))=z0
 have h1:loopF (fun g:ro2_G=>ro2_R g.1 g.2.1 g.2.2.1 g.2.2.2.1 g.2.2.2.2) ro2_M (xs,i,z0,0,out)=_:=qzv (xs,i,out) z0 rfl hm hi
 rw[h1]
 have hs:=scan_fold (x:=2) (st:=ro2_S (xs,i,out)) (f:=fun (z:Bool) u=>!(!eqT u (xs.getD i.toNat eT.dflt)&&q2a u (xs.getD i.toNat eT.dflt))&&z) (fun _ _ _=>rfl) xs 0 z0
 have hs:scan 2 (ro2_S (xs,i,out)) 0 xs z0=_:=hs
 rw[qns] at hs
 show ((scan 2 (ro2_S (xs,i,out)) 0 xs z0).1,ro2_g ((scan 2 (ro2_S (xs,i,out)) 0 xs z0).2.1,(xs,i,out),(scan 2 (ro2_S (xs,i,out)) 0 xs z0).2.2))=_
 rw[hs,Int.zero_add]
 rfl
def ro_st (xs out:List T) (v:T):List T:=bif !decide (v∈out)&&isMin q0k xs v then insP v out else out
def ro1_S (c:q6b) (b:qep) (_:Int) (v:T):Ex×qep:=(.normal,ro_st c b v)
def ro1_K (c:q6b) (b:qep) (i:Int):Prop:=List.length c≤KS∧(List.length b:Int)≤i
abbrev ro1_I (g:ro1_G):List Prop:=ixI (fun c:q6b=>(List.length c:Int)) (fun c=>c) ro1_K (ro1_f g)
abbrev ro1_M (g:ro1_G):Nat:=ixM (fun c:q6b=>(List.length c:Int)) (ro1_f g)
theorem ro_len (xs out:List T) (v:T):(ro_st xs out v).length≤out.length+1:=by
 unfold ro_st
 generalize (!decide (v∈out)&&isMin q0k xs v)=c
 cases c with
 | true=>simp only[cond_true,qi6];omega
 | false=>simp only[cond_false];omega
theorem ro1_P:ixP ro1_S (fun c:q6b=>c) ro1_K:=by
 rintro xs out i a ⟨h1,h2⟩ _ _
 have:=ro_len xs out a
 have h2:(List.length out:Int)≤(i:Int):=h2
 exact ⟨h1,by show ((ro_st xs out a).length:Int)≤(i:Int)+1;omega⟩
abbrev ro1_RR (g:ro1_G):Ex×ro1_G:=ro1_R g.1 g.2.1 g.2.2
theorem qw2 (d:Int×q6b×qep) (hi:allP (ixI (fun c:q6b=>(List.length c:Int)) (fun c=>c) ro1_K d)):ro1_RR (ro1_g d)=((ixF 0 (fun c:q6b=>(List.length c:Int)) (fun c=>c) eT.dflt ro1_S d).1,ro1_g (ixF 0 (fun c:q6b=>(List.length c:Int)) (fun c=>c) eT.dflt ro1_S d).2):=by
 obtain ⟨h1,h2,h3,h4,h5⟩:=hi _ (List.mem_cons_self ..)
 obtain ⟨i,xs,out⟩:=d
 have h3:0≤i:=h3
 have h2:xs.length≤maxLen:=h2
 show ro1_R xs out i=_
 unfold ro1_R ixF ro1_S ro_st
 by_cases hc:i<(xs.length:Int)
 ·rw[ro1_q xs out i ⟨h3,hc⟩ h2]
  simp only[hc,decide_true,cond_true,eT.lst_els,eT.lst_bif]
  rfl
 ·simp only[hc,decide_false,cond_false,eT.lst_els]
  rfl
theorem ok_bif (z:Bool) (a b:List T):∀ e:Nat,(e<bif z then a.length else b.length)→eT.Ok ((bif z then eT.els a else eT.els b) e):=by
 cases z with
 | true=>exact okT a
 | false=>exact okT b
theorem ro1_ok:∀ b∈q00 Tryz.prog 108,lkey b=6→q02 Tryz.prog b (ro1_C ro1_I ro1_M).g:=by
 refine qti ro1_I ro1_M (fun g hi=>?_) (q06 (fun _=>rfl) (fun _=>rfl) qw2 ro1_P)
 obtain ⟨xs,out,i⟩:=g
 obtain ⟨h1,h2,h3,h4,h5,h6⟩:=hi _ (List.mem_cons_self ..)
 have h2:xs.length≤maxLen:=h2
 have h3:0≤i:=h3
 have h5:xs.length≤KS:=h5
 have h6:(out.length:Int)≤i:=h6
 have h4:i≤(xs.length:Int):=h4
 have ka:=okT xs
 have kb:=okT out
 show qhe xs out i
 unfold qhe
 refine ⟨fun hc=>?_,fun _=>⟨ka,kb⟩⟩
 have hc:i<(xs.length:Int):=of_decide_eq_true hc
 rw[ro1_q xs out i ⟨h3,hc⟩ h2]
 simp only[eT.lst_els]
 exact ⟨⟨h3,hc⟩,kb,ka,kb,ixJ0 rfl h2 ⟨h3,hc⟩,fun _=>⟨h3,hc⟩,fun _=>kb,fun _=>by omega,ka,ok_bif _ _ _⟩
def tabS:PTab Tryz.prog:=(tabR)
def ltM:LTab Tryz.prog:=ltK.cons 108 6 (ro1_C ro1_I ro1_M) ro1_ok
abbrev lamM:Lam:=ltM.lam
theorem z0u:∀ f k L,lamM f k=some L→∀ b∈q00 Tryz.prog f,lkey b=k→q02 Tryz.prog b L.g:=ltM.ok
end
end Go.Proofs.YthnojkbkojpadaaGreat

namespace Go.Proofs.YthnojkbkojpadaaGreat
noncomputable section
open Go.RowKit Go.Sx
set_option linter.unusedVariables false
abbrev dLE:Dv (List T×Int):=.tup (.cons dLT (.one dI))
def qcb (xs:List T):Ex ×
 ro1_G:=
 loopF (fun g=>ro1_R g.fst g.snd.fst g.snd.snd) ro1_M (eT.lst xs.length (eT.els xs),[],(0:Int))
def rof_F (xs:List T):Dv.T dLE:=
 bif badC (eT.lst xs.length (eT.els xs)) != (0:Int) then ([],badC (eT.lst xs.length (eT.els xs)))
 else bif decide ((↑(qcb xs).snd.snd.fst.length:Int) > (1024:Int)) then ([],(3:Int)) else (eT.lst (qcb xs).snd.snd.fst.length (eT.els (qcb xs).snd.snd.fst),(0:Int))
def qao (xs:List T):Prop:=
 (∀ (e:Nat),e<xs.length→eT.Ok (eT.els xs e))∧((badC (eT.lst xs.length (eT.els xs)) != (0:Int))=false→(∀ (e:Nat),e<xs.length→eT.Ok (eT.els xs e))∧Lp.ixJ (fun c=>(↑(List.length c):Int)) (fun c=>c) ro1_K (ro1_f (eT.lst xs.length (eT.els xs),[],(0:Int)))∧(decide ((↑(qcb xs).snd.snd.fst.length:Int) > (1024:Int))=false→∀ (e:Nat),e<(qcb xs).snd.snd.fst.length→eT.Ok (eT.els (qcb xs).snd.snd.fst e)))
theorem qzt (pre:DA.T aL→List Prop) (h:∀ g,DA.bd aL g→(∀ p∈pre g,p)→qao g):q04 Tryz.prog 108 aL dLE (fun g=>rof_F g) pre:=q08 (Γ:=(PTab.gamz tabS [] [])) (Λ:=lamM) (PTab.okz tabS [] []) z0u 100 default (fun g=>qao g) (fun g=>by kernel_rfl) (fun g=>by kernel_rfl) h
end
end Go.Proofs.YthnojkbkojpadaaGreat

namespace Go.Proofs.YthnojkbkojpadaaGreat
noncomputable section
open Go.RowKit Go.Sx Go.Lp
abbrev cfT (a b:T):Int:=q19 a b
def minsT (xs:List T):List T:=mins cfT q0k xs
theorem qkg (v:T):∀ {b:List T},b.Pairwise (fun x y=>cfT x y<0)→v∈b→insU cfT v b=b
 | y :: r,hs,hv=>by
  rw[List.pairwise_cons] at hs
  unfold insU
  by_cases h:y=v
  ·rw[if_pos h]
  ·have hr:v∈r:=by
    rcases List.mem_cons.1 hv with e | e
    ·exact absurd e.symm h
    ·exact e
   rw[if_neg h,if_neg (toT.asymm (hs.1 v hr)),qkg v hs.2 hr]
theorem qtg (xs:List T) {b:List T} (hs:b.Pairwise (fun x y=>cfT x y<0)) (v:T):ro_st xs b v=if isMin q0k xs v=true then insU cfT v b else b:=by
 unfold ro_st
 by_cases hv:v∈b
 ·rw[qkg v hs hv]
  simp[hv]
 ·rw[qx3 v hv]
  simp only[hv,decide_false,Bool.not_false,Bool.true_and]
  cases isMin q0k xs v <;> rfl
theorem qlp (xs:List T):∀ (l:List T) (b:List T),b.Pairwise (fun x y=>cfT x y<0)→l.foldl (ro_st xs) b=(l.filter (isMin q0k xs)).foldl (fun l s=>insU cfT s l) b
 | [],_,_=>rfl
 | v :: l,b,hs=>by
  rw[List.foldl_cons,qtg xs hs,List.filter_cons]
  split
  ·rw[List.foldl_cons]
   exact qlp xs l _ (q87 toT hs)
  ·exact qlp xs l _ hs
theorem qzu (xs:List T):xs.foldl (ro_st xs) []=minsT xs:=by
 unfold minsT
 rw[mins_put toT]
 exact qlp xs xs [] List.Pairwise.nil
def ofC (xs:List T):List T×Int:=bif badC xs != 0 then ([],badC xs) else bif decide (((minsT xs).length:Int) > 1024) then ([],3) else (minsT xs,0)
theorem qvw (xs:List T) (h:xs.length≤KS):rof_F xs=ofC xs∧qao xs:=by
 have hm:xs.length≤maxLen:=by unfold KS at h;unfold maxLen;omega
 unfold rof_F qao qcb ofC
 simp only[eT.lst_els]
 have h1:loopF (fun g:ro1_G=>ro1_R g.1 g.2.1 g.2.2) ro1_M (xs,[],0)=_:=q0a (φ:=ro1_f) (ψ:=ro1_g) (fun _=>rfl) (fun _=>rfl) qw2 ro1_P xs [] rfl hm ⟨h,Int.le_refl _⟩
 have hs:=scan_fold (x:=0) (st:=ro1_S xs) (f:=ro_st xs) (fun _ _ _=>rfl) xs 0 []
 rw[qzu] at hs
 have h2:(loopF (fun g:ro1_G=>ro1_R g.1 g.2.1 g.2.2) ro1_M (xs,[],0)).2.2.1=minsT xs:=by
  rw[h1]
  exact congrArg (·.2.2) hs
 rw[h2]
 exact ⟨rfl,okT xs,fun _=>⟨okT xs,ixJ0 rfl hm ⟨h,Int.le_refl _⟩,fun _=>okT _⟩⟩
theorem rof_ok:q04 Tryz.prog 108 aL dLE ofC (fun g=>[g.length≤KS]):=
 q0b (qzt _ fun g _ hp=>(qvw g (hp _ (List.mem_cons_self ..))).2) fun g _ hp=>(qvw g (hp _ (List.mem_cons_self ..))).1
end
end Go.Proofs.YthnojkbkojpadaaGreat

namespace Go.Proofs.YthnojkbkojpadaaGreat
noncomputable section
open Go.RowKit Go.Sx Go.Lp
def q6g (b:List T) (v:T):List T:=bif b.any (q0k · v) then b else b++[v]
def of1_S (_:q6h) (b:qf3) (_:Int) (v:T):Ex×qf3:=(.normal,q6g b v)
def of1_K (c:q6h) (b:qf3) (i:Int):Prop:=c.1.length≤KS∧(List.length b:Int)≤i
abbrev of1_I (g:of1_G):List Prop:=ixI (fun c:q6h=>c.2) (fun c=>c.1) of1_K (of1_f g)
abbrev of1_M (g:of1_G):Nat:=ixM (fun c:q6h=>c.2) (of1_f g)
theorem of1_P:ixP of1_S (fun c:q6h=>c.1) of1_K:=by
 rintro ⟨ys,n⟩ b i a ⟨h1,h2⟩ _ _
 refine ⟨h1,?_⟩
 have h2:(List.length b:Int)≤(i:Int):=h2
 show (List.length (q6g b a):Int)≤(i:Int)+1
 unfold q6g
 cases b.any (q0k · a) <;> simp <;> omega
theorem of1_q (out ys:List T) (n i:Int) (hm:out.length≤maxLen):∃ j,q7s out ys n i=bif out.any (q0k · (ys.getD i.toNat eT.dflt)) then (.ret,(out.length:Int),j,(),ys.getD i.toNat eT.dflt,out.length,out,(.done,some (.exit 1))) else (.exit 0,(out.length:Int),j,(),ys.getD i.toNat eT.dflt,out.length,out,(.ready,none)):=by
 unfold q7s
 rw[eT.lst_els]
 exact ea_run (out.length:Int) (ys.getD i.toNat eT.dflt) out rfl hm
abbrev of1_RR (g:of1_G):Ex×of1_G:=of1_R g.1 g.2.1 g.2.2.1 g.2.2.2
theorem of1_RF (d:Int×q6h×qf3) (hi:allP (ixI (fun c:q6h=>c.2) (fun c=>c.1) of1_K d)):of1_RR (of1_g d)=((ixF 0 (fun c:q6h=>c.2) (fun c=>c.1) eT.dflt of1_S d).1,of1_g (ixF 0 (fun c:q6h=>c.2) (fun c=>c.1) eT.dflt of1_S d).2):=by
 obtain ⟨h1,h2,h3,h4,h5,h6⟩:=hi _ (List.mem_cons_self ..)
 obtain ⟨i,⟨ys,n⟩,out⟩:=d
 have h5:ys.length≤KS:=h5
 have h4:i≤(ys.length:Int):=h4
 have h6:(List.length out:Int)≤i:=h6
 have hm:out.length≤maxLen:=by unfold KS at h5;unfold maxLen;omega
 obtain ⟨j,hj⟩:=of1_q out ys n i hm
 show of1_R out ys n i=_
 unfold of1_R ixF of1_S q6g
 rw[hj]
 simp only[eT.lst_els]
 cases decide (i<n) with
 | false=>rfl
 | true=>
  simp only[cond_true]
  generalize out.any (q0k · (ys.getD i.toNat eT.dflt))=z
  cases z
  ·simp only[cond_false]
   show (bif exB Ex.ret (.exit 0) then _ else _)=_
   simp only[eT.lst_els,q3e]
   rfl
  ·simp only[cond_true]
   show (bif exB Ex.ret .ret then _ else _)=_
   simp only[eT.lst_els]
   rfl
theorem of1_ok:∀ b∈q00 Tryz.prog 62,lkey b=8→q02 Tryz.prog b (of1_C of1_I of1_M).g:=by
 refine qtu of1_I of1_M (fun g hi=>?_) (q06 (fun _=>rfl) (fun _=>rfl) of1_RF of1_P)
 obtain ⟨out,ys,n,i⟩:=g
 obtain ⟨h1,h2,h3,h4,h5,h6⟩:=hi _ (List.mem_cons_self ..)
 have h1:n=(ys.length:Int):=h1
 have h3:0≤i:=h3
 have h4:i≤(ys.length:Int):=h4
 have h5:ys.length≤KS:=h5
 have h6:(List.length out:Int)≤i:=h6
 unfold KS at h5
 have hm:out.length≤maxLen:=by unfold maxLen;omega
 obtain ⟨j,hj⟩:=of1_q out ys n i hm
 have ha:=okT ys
 have hx:=ixJ0 (lim:=fun c:ea_GC=>c.1) (xs:=fun c:ea_GC=>c.2.2.2) (P:=ea_K) (c:=((out.length:Int),ys.getD i.toNat eT.dflt,out.length,out)) (b:=((),LoopState.ready,none)) rfl hm ⟨rfl,rfl⟩
 show qho out ys n i
 unfold qho
 rw[hj]
 simp only[qlb,decide_eq_true_eq,decide_eq_false_iff_not,eT.lst_els]
 clear hi
 refine ⟨fun hc=>⟨⟨h3,by omega⟩,fun _ _=>trivial,rfl,rfl,hx,fun _=>?_,fun _=>?_⟩,fun _=>⟨Nat.le_refl _,fun _ _=>trivial,ha⟩⟩
 ·cases out.any (q0k · (ys.getD i.toNat eT.dflt)) <;> exact ⟨Nat.le_refl _,fun _ _=>trivial,ha⟩
 ·have hl:out.length≤(bif out.any (q0k · (ys.getD i.toNat eT.dflt)) then ((Ex.ret,(out.length:Int),j,(),ys.getD i.toNat eT.dflt,out.length,out,(LoopState.done,some (Code.exit 1))):Ex×ea_G) else (.exit 0,(out.length:Int),j,(),ys.getD i.toNat eT.dflt,out.length,out,(.ready,none))).2.2.2.2.2.2.1.length:=by
   cases out.any (q0k · (ys.getD i.toNat eT.dflt)) <;> exact Nat.le_refl _
  exact ⟨⟨hl,trivial,by unfold maxLen;omega,by omega⟩,Nat.le_refl _,fun _ _=>trivial,fun _ _=>trivial,ha⟩
theorem qf2:∀ (l b:List T),l.foldl q6g b=qd7 q0k b l
 | [],_=>rfl
 | v :: l,b=>by
  rw[List.foldl_cons,qf2 l]
  unfold q6g
  rw[qd7]
end
end Go.Proofs.YthnojkbkojpadaaGreat

namespace Go.Proofs.YthnojkbkojpadaaGreat
noncomputable section
open Go.RowKit Go.Sx
set_option linter.unusedVariables false
abbrev eb_G:Type:=Int×Int×Unit×T×Nat×List T×LoopState×Option Code
def eb_LP:LP 7 eb_G:=.pair (.slot 7 6 dI) (.pair (.slot 7 7 dI) (.pair (.fix 7 0 (.yl 6)) (.pair (.obj 7 3 47 eT) (.pair (.owl 7 5 2) (.pair (.rowO 7 2 47 eT) (.rf 7 6 Tryz.prog 62 0 41 [(8,.p 3 0)] 5))))))
def eb_R (n:Int) (i:Int) (_u:Unit) (t:T) (l:Nat) (out:List T):Ex×eb_G:=
 bif decide (i<n) then bif q0k (out.getD i.toNat eT.dflt) t then (Ex.ret,n,i,(),t,l,eT.lst out.length (eT.els out),LoopState.done,some (Code.exit (1:Nat))) else (Ex.normal,n,IntKind.i64.wrap (i+(1:Int)),(),t,l,eT.lst out.length (eT.els out),LoopState.ready,none)
 else (Ex.exit (0:Nat),n,i,(),t,l,eT.lst out.length (eT.els out),LoopState.ready,none)
def qmu (n:Int) (i:Int) (_u:Unit) (t:T) (l:Nat) (out:List T):Prop:=
 (decide (i<n)=true→((0:Int)≤i∧i<(↑l:Int))∧i.toNat<out.length∧(q0k (out.getD i.toNat eT.dflt) t=true→(∀ (e:Nat),e<out.length→True)∧q1r (q0f Tryz.prog (62:Nat) (0:Nat)).snd.fst (q0f Tryz.prog (62:Nat) (0:Nat)).snd.fst∧q1r (q0f Tryz.prog (62:Nat) (0:Nat)).snd.snd (q0f Tryz.prog (62:Nat) (0:Nat)).snd.snd)∧(q0k (out.getD i.toNat eT.dflt) t=false→(∀ (e:Nat),e<out.length→True)∧q1r (q0f Tryz.prog (62:Nat) (0:Nat)).snd.fst (q0f Tryz.prog (62:Nat) (0:Nat)).snd.fst∧q1r (q0f Tryz.prog (62:Nat) (0:Nat)).snd.snd (q0f Tryz.prog (62:Nat) (0:Nat)).snd.snd))∧(decide (i<n)=false→(∀ (e:Nat),e<out.length→True)∧q1r (q0f Tryz.prog (62:Nat) (0:Nat)).snd.fst (q0f Tryz.prog (62:Nat) (0:Nat)).snd.fst∧q1r (q0f Tryz.prog (62:Nat) (0:Nat)).snd.snd (q0f Tryz.prog (62:Nat) (0:Nat)).snd.snd)
theorem eb_one:((q00 Tryz.prog 141).filter fun c=>Nat.beq (lkey c) 1).length=1:=by kernel_rfl
abbrev eb_GC:Type:=Int×T×Nat×List T
abbrev eb_GB:Type:=Unit×LoopState×Option Code
def eb_f (g:eb_G):Int×eb_GC×eb_GB:=(g.2.1,(g.1,g.2.2.2.1,g.2.2.2.2.1,g.2.2.2.2.2.1),(g.2.2.1,g.2.2.2.2.2.2))
def eb_g (d:Int×eb_GC×eb_GB):eb_G:=(d.2.1.1,d.1,d.2.2.1,d.2.1.2.1,d.2.1.2.2.1,d.2.1.2.2.2,d.2.2.2)
def eb_E:List ((Ex×eb_G→Bool)×Ex×(eb_G→eb_G)):=[(fun x=>exB (.ret) x.1,.ret,fun g=>(g.1,g.2.1,g.2.2.1,g.2.2.2.1,g.2.2.2.2.1,g.2.2.2.2.2.1,(.done,some (.exit 1)))),(fun x=>exB (.exit 0) x.1,.exit 0,fun g=>(g.1,g.2.1,g.2.2.1,g.2.2.2.1,g.2.2.2.2.1,g.2.2.2.2.2.1,(.ready,none)))]
abbrev eb_rr (g:eb_G):Ex×eb_G:=eb_R g.1 g.2.1 g.2.2.1 g.2.2.2.1 g.2.2.2.2.1 g.2.2.2.2.2.1
abbrev eb_ss (g:eb_G):Prop:=qmu g.1 g.2.1 g.2.2.1 g.2.2.2.1 g.2.2.2.2.1 g.2.2.2.2.2.1
theorem eb_es (g:eb_G):(eb_rr g).1=.normal∨q5k (eb_rr g) eb_E:=by
 unfold eb_rr eb_R
 repeat' (first | (left;rfl) | (right;exact ⟨fun _=>⟨rfl,rfl⟩,fun h=>absurd h (by simp[exB,pdB])⟩) | (right;exact ⟨fun h=>absurd h (by simp[exB,pdB]),fun _=>⟨rfl,rfl⟩⟩) | (rw[Bool.cond_eq_ite];split))
abbrev eb_C (Inv:eb_G→List Prop) (m:eb_G→Nat):LCon:=qk4 eb_E (loopBody Tryz.prog 141 1) eb_LP [] 16 Inv eb_rr m
def eb_i (g:eb_G):eb_G:=(g.1,g.2.1,g.2.2.1,g.2.2.2.1,g.2.2.2.2.1,g.2.2.2.2.2.1,(LoopState.ready,none))
theorem eb_loop (Inv:eb_G→List Prop) (m:eb_G→Nat) (hs:∀ g,allP (Inv g)→eb_ss g) (hι:∀ g,allP (Inv g)→eb_i g=g) (hg:Goes eb_rr m fun g=>allP (Inv g)):∀ b∈q00 Tryz.prog 141,lkey b=1→q02 Tryz.prog b (eb_C Inv m).g:=q8v eb_i (Γ:=(MTab.gamz tabQ [] [])) (Λ:=noΛ) (MTab.okz tabQ [] []) q0o 100 141 1 16 eb_LP [] Inv eb_rr eb_ss m default eb_E eb_one (fun rd T B HL HB ds g=>by kernel_rfl) (fun rd T B HL HB ds g=>by kernel_rfl) hι hs hg eb_es
end
end Go.Proofs.YthnojkbkojpadaaGreat

namespace Go.Proofs.YthnojkbkojpadaaGreat
noncomputable section
open Go.RowKit Go.Sx Go.Lp
def eb_S (c:eb_GC) (_:eb_GB) (_:Int) (v:T):Ex×eb_GB:=bif q0k v c.2.1 then (.ret,(),.done,some (.exit 1)) else (.normal,(),.ready,none)
def eb_K (c:eb_GC) (b:eb_GB) (_:Int):Prop:=b.2=(LoopState.ready,(none:Option Code))∧c.2.2.1=c.2.2.2.length
abbrev eb_I (g:eb_G):List Prop:=ixI (fun c:eb_GC=>c.1) (fun c=>c.2.2.2) eb_K (eb_f g)
abbrev eb_M (g:eb_G):Nat:=ixM (fun c:eb_GC=>c.1) (eb_f g)
theorem eb_P:ixP eb_S (fun c:eb_GC=>c.2.2.2) eb_K:=by
 rintro ⟨n,t,l,out⟩ ⟨⟨⟩,st,pd⟩ i a hk _ hn
 unfold eb_S at hn ⊢
 cases hc:q0k a t with
 | true=>simp only[hc] at hn;cases hn
 | false=>exact ⟨rfl,hk.2⟩
abbrev eb_RR (g:eb_G):Ex×eb_G:=eb_R g.1 g.2.1 g.2.2.1 g.2.2.2.1 g.2.2.2.2.1 g.2.2.2.2.2.1
theorem eb_RF (d:Int×eb_GC×eb_GB) (hi:allP (ixI (fun c:eb_GC=>c.1) (fun c=>c.2.2.2) eb_K d)):eb_RR (eb_g d)=((ixF 0 (fun c:eb_GC=>c.1) (fun c=>c.2.2.2) eT.dflt eb_S d).1,eb_g (ixF 0 (fun c:eb_GC=>c.1) (fun c=>c.2.2.2) eT.dflt eb_S d).2):=by
 obtain ⟨hb,hl⟩:=(hi _ (List.mem_cons_self ..)).2.2.2.2
 obtain ⟨i,⟨n,t,l,out⟩,⟨⟨⟩,st,pd⟩⟩:=d
 have hb:(st,pd)=(LoopState.ready,(none:Option Code)):=hb
 have hl:l=out.length:=hl
 subst hl
 cases hb
 show eb_R n i () t out.length out=_
 unfold eb_R ixF eb_S
 simp only[eT.lst_els]
 cases decide (i<n) with
 | false=>rfl
 | true=>
  simp only[cond_true]
  generalize q0k (out.getD i.toNat eT.dflt) t=z
  cases z <;> rfl
theorem eb_ok:∀ b∈q00 Tryz.prog 141,lkey b=1→q02 Tryz.prog b (eb_C eb_I eb_M).g:=by
 refine eb_loop eb_I eb_M (fun g hi=>?_) (fun g hi=>?_) (q06 (fun _=>rfl) (fun _=>rfl) eb_RF eb_P)
 ·obtain ⟨n,i,⟨⟩,t,l,out,⟨st,pd⟩⟩:=g
  obtain ⟨h1,h2,h3,h4,h5⟩:=hi _ (List.mem_cons_self ..)
  have h1:n=(out.length:Int):=h1
  have h3:0≤i:=h3
  show qmu n i () t l out
  unfold qmu
  simp only[decide_eq_true_eq,decide_eq_false_iff_not]
  have ha:=okT out
  have h6:l=out.length:=h5.2
  subst h6
  clear hi
  repeat' (first | exact ha | exact rfl | apply And.intro | intro _)
  all_goals (first | trivial | omega)
 ·obtain ⟨n,i,⟨⟩,t,l,out,⟨st,pd⟩⟩:=g
  have h5:=(hi _ (List.mem_cons_self ..)).2.2.2.2.1
  have h5:(st,pd)=(LoopState.ready,(none:Option Code)):=h5
  cases h5
  rfl
theorem eb_run (n:Int) (t:T) (out:List T) (h1:n=(out.length:Int)) (h2:out.length≤maxLen):∃ j,loopF eb_RR eb_M (n,0,(),t,out.length,out,(.ready,none))=bif out.any (q0k · t) then (.ret,n,j,(),t,out.length,out,(.done,some (.exit 1))) else (.exit 0,n,j,(),t,out.length,out,(.ready,none)):=by
 have hr:loopF eb_RR eb_M (n,0,(),t,out.length,out,(.ready,none))=_:=q0a (φ:=eb_f) (ψ:=eb_g) (fun _=>rfl) (fun _=>rfl) eb_RF eb_P (n,t,out.length,out) ((),.ready,none) h1 h2 ⟨rfl,rfl⟩
 rcases scan_bad (x:=0) (st:=eb_S (n,t,out.length,out)) (p:=(q0k · t)) (r:=fun _ _=>((),LoopState.done,some (Code.exit 1))) (f:=fun _ _=>((),LoopState.ready,(none:Option Code))) (e:=.ret) (by intro h;cases h) (fun _ _ _=>rfl) out 0 ((),.ready,none) with ⟨ha,h3,a,b',_,_,h4⟩ | ⟨ha,h3⟩
 ·have h3:(scan 0 (eb_S (n,t,out.length,out)) 0 out ((),.ready,none)).1=_:=h3
  have h4:(scan 0 (eb_S (n,t,out.length,out)) 0 out ((),.ready,none)).2.2=_:=h4
  refine ⟨(scan 0 (eb_S (n,t,out.length,out)) 0 out ((),.ready,none)).2.1,hr.trans ?_⟩
  rw[ha]
  show ((scan 0 (eb_S (n,t,out.length,out)) 0 out ((),.ready,none)).1,eb_g ((scan 0 (eb_S (n,t,out.length,out)) 0 out ((),.ready,none)).2.1,(n,t,out.length,out),(scan 0 (eb_S (n,t,out.length,out)) 0 out ((),.ready,none)).2.2))=_
  rw[h3,h4]
  rfl
 ·have h3:scan 0 (eb_S (n,t,out.length,out)) 0 out ((),.ready,none)=_:=h3
  have hf:∀ l:List T,l.foldl (fun (_:eb_GB) (_:T)=>((),LoopState.ready,(none:Option Code))) ((),LoopState.ready,(none:Option Code))=((),LoopState.ready,none):=by
   intro l
   induction l with
   | nil=>rfl
   | cons a l ih=>exact ih
  refine ⟨(scan 0 (eb_S (n,t,out.length,out)) 0 out ((),.ready,none)).2.1,hr.trans ?_⟩
  rw[ha]
  show ((scan 0 (eb_S (n,t,out.length,out)) 0 out ((),.ready,none)).1,eb_g ((scan 0 (eb_S (n,t,out.length,out)) 0 out ((),.ready,none)).2.1,(n,t,out.length,out),(scan 0 (eb_S (n,t,out.length,out)) 0 out ((),.ready,none)).2.2))=_
  rw[h3,hf]
  rfl
def ltO:LTab Tryz.prog:=ltE.cons 141 1 (qm7 5 (ea_C ea_I ea_M) (eb_C eb_I eb_M)) (fun b hb hk=>altL_ok (ea_ok b hb hk) (eb_ok b hb hk))
abbrev lamO:Lam:=ltO.lam
theorem z0s:∀ f k L,lamO f k=some L→∀ b∈q00 Tryz.prog f,lkey b=k→q02 Tryz.prog b L.g:=ltO.ok
end
end Go.Proofs.YthnojkbkojpadaaGreat

namespace Go.Proofs.YthnojkbkojpadaaGreat
noncomputable section
open Go.RowKit Go.Sx
set_option linter.unusedVariables false
def q7r (out:List T) (l:Nat) (ys:List T) (n:Int) (i:Int):Ex ×
 eb_G:=
 loopF (fun g=>eb_R g.fst g.snd.fst g.snd.snd.fst g.snd.snd.snd.fst g.snd.snd.snd.snd.fst g.snd.snd.snd.snd.snd.fst) eb_M ((↑out.length:Int),(0:Int),(),ys.getD i.toNat eT.dflt,out.length,eT.lst out.length (eT.els out),LoopState.ready,none)
abbrev of2_G:Type:=List T×Nat×List T×Int×Int
def qwp:LP 2 of2_G:=.pair (.row 2 6 47 eT) (.pair (.owl 2 20 1) (.pair (.rowO 2 1 47 eT) (.pair (.slot 2 21 dI) (.slot 2 22 dI))))
def of2_R (out:List T) (l:Nat) (ys:List T) (n:Int) (i:Int):Ex×of2_G:=
 bif decide (i<n) then bif exB Ex.ret (q7r out l ys n i).fst then (Ex.normal,eT.lst out.length (eT.els (q7r out l ys n i).snd.snd.snd.snd.snd.snd.fst),l,eT.lst ys.length (eT.els ys),n,IntKind.i64.wrap (i+(1:Int))) else (Ex.normal,eT.lst (min (out.length+(1:Nat)) out.length) (eT.els (q7r out l ys n i).snd.snd.snd.snd.snd.snd.fst)++List.map (fun x=>(q7r out l ys n i).snd.snd.snd.snd.fst) (List.range (out.length+(1:Nat) - out.length)),l,eT.lst ys.length (eT.els ys),n,IntKind.i64.wrap (i+(1:Int)))
 else (Ex.exit (0:Nat),eT.lst out.length (eT.els out),l,eT.lst ys.length (eT.els ys),n,i)
def qhn (out:List T) (l:Nat) (ys:List T) (n:Int) (i:Int):Prop:=
 (decide (i<n)=true→((0:Int)≤i∧i<(↑l:Int))∧i.toNat<ys.length∧(∀ (e:Nat),e<out.length→True)∧q1r (q0f Tryz.prog (62:Nat) (0:Nat)).snd.fst (q0f Tryz.prog (62:Nat) (0:Nat)).snd.fst∧q1r (q0f Tryz.prog (62:Nat) (0:Nat)).snd.snd (q0f Tryz.prog (62:Nat) (0:Nat)).snd.snd∧Lp.ixJ (fun c=>c.fst) (fun c=>c.snd.snd.snd) eb_K (eb_f ((↑out.length:Int),(0:Int),(),ys.getD i.toNat eT.dflt,out.length,eT.lst out.length (eT.els out),LoopState.ready,none))∧(exB Ex.ret (q7r out l ys n i).fst=true→out.length≤(q7r out l ys n i).snd.snd.snd.snd.snd.snd.fst.length∧(∀ (e:Nat),e<out.length→True)∧∀ (e:Nat),e<ys.length→True)∧(exB Ex.ret (q7r out l ys n i).fst=false→(out.length≤(q7r out l ys n i).snd.snd.snd.snd.snd.snd.fst.length∧True∧out.length+(1:Nat)≤maxLen∧(out.length+(1:Nat)) * Tryz.prog.types[(47:Nat)].bytes≤(140737488355328:Nat))∧out.length+(1:Nat)≤out.length+(1:Nat)∧(∀ (e:Nat),e<min (out.length+(1:Nat)) out.length→True)∧(∀ (e:Nat),e<out.length+(1:Nat) - out.length→True)∧∀ (e:Nat),e<ys.length→True))∧(decide (i<n)=false→out.length≤out.length∧(∀ (e:Nat),e<out.length→True)∧∀ (e:Nat),e<ys.length→True)
theorem z0l:((q00 Tryz.prog 62).filter fun c=>Nat.beq (lkey c) 8).length=1:=by kernel_rfl
abbrev q4e:Type:=List T×Int×Nat
abbrev qf0:Type:=List T
def of2_f (g:of2_G):Int×q4e×qf0:=(g.2.2.2.2,(g.2.2.1,g.2.2.2.1,g.2.1),g.1)
def of2_g (d:Int×q4e×qf0):of2_G:=(d.2.2,d.2.1.2.2,d.2.1.1,d.2.1.2.1,d.1)
abbrev qez (g:of2_G):Ex×of2_G:=of2_R g.1 g.2.1 g.2.2.1 g.2.2.2.1 g.2.2.2.2
abbrev qwn (g:of2_G):Prop:=qhn g.1 g.2.1 g.2.2.1 g.2.2.2.1 g.2.2.2.2
theorem of2_es (g:of2_G):(qez g).1=.normal∨(qez g).1∈([.ret,.exit 0]:List Ex):=by
 unfold qez of2_R
 repeat' (first | (left;rfl) | (right;simp only[cond_true,cond_false];simp;done) | (rw[Bool.cond_eq_ite];split))
abbrev of2_C (Inv:of2_G→List Prop) (m:of2_G→Nat):LCon:=loopR [.ret,.exit 0] (loopBody Tryz.prog 62 8) qwp [] 41 Inv qez m
theorem qtt (Inv:of2_G→List Prop) (m:of2_G→Nat) (hs:∀ g,allP (Inv g)→qwn g) (hg:Goes qez m fun g=>allP (Inv g)):∀ b∈q00 Tryz.prog 62,lkey b=8→q02 Tryz.prog b (of2_C Inv m).g:=q0g (Γ:=(MTab.gamz tabQ [] [])) (Λ:=lamO) (MTab.okz tabQ [] []) z0s 100 62 8 41 qwp [] Inv qez qwn m default [.ret,.exit 0] z0l (fun rd T B HL HB ds g=>by kernel_rfl) (fun rd T B HL HB ds g=>by kernel_rfl) hs hg of2_es
end
end Go.Proofs.YthnojkbkojpadaaGreat

namespace Go.Proofs.YthnojkbkojpadaaGreat
noncomputable section
open Go.RowKit Go.Sx Go.Lp
def of2_S (_:q4e) (b:qf0) (_:Int) (v:T):Ex×qf0:=(.normal,q6g b v)
def of2_K (c:q4e) (b:qf0) (i:Int):Prop:=c.1.length≤KS∧(List.length b:Int)≤i∧c.2.2=c.1.length
abbrev of2_I (g:of2_G):List Prop:=ixI (fun c:q4e=>c.2.1) (fun c=>c.1) of2_K (of2_f g)
abbrev of2_M (g:of2_G):Nat:=ixM (fun c:q4e=>c.2.1) (of2_f g)
theorem of2_P:ixP of2_S (fun c:q4e=>c.1) of2_K:=by
 rintro ⟨ys,n,l⟩ b i a ⟨h1,h2,h3⟩ _ _
 refine ⟨h1,?_,h3⟩
 have h2:(List.length b:Int)≤(i:Int):=h2
 show (List.length (q6g b a):Int)≤(i:Int)+1
 unfold q6g
 cases b.any (q0k · a) <;> simp <;> omega
theorem of2_q (out:List T) (l:Nat) (ys:List T) (n i:Int) (hm:out.length≤maxLen):∃ j,q7r out l ys n i=bif out.any (q0k · (ys.getD i.toNat eT.dflt)) then (.ret,(out.length:Int),j,(),ys.getD i.toNat eT.dflt,out.length,out,(.done,some (.exit 1))) else (.exit 0,(out.length:Int),j,(),ys.getD i.toNat eT.dflt,out.length,out,(.ready,none)):=by
 unfold q7r
 rw[eT.lst_els]
 exact eb_run (out.length:Int) (ys.getD i.toNat eT.dflt) out rfl hm
abbrev qrk (g:of2_G):Ex×of2_G:=of2_R g.1 g.2.1 g.2.2.1 g.2.2.2.1 g.2.2.2.2
theorem qwo (d:Int×q4e×qf0) (hi:allP (ixI (fun c:q4e=>c.2.1) (fun c=>c.1) of2_K d)):qrk (of2_g d)=((ixF 0 (fun c:q4e=>c.2.1) (fun c=>c.1) eT.dflt of2_S d).1,of2_g (ixF 0 (fun c:q4e=>c.2.1) (fun c=>c.1) eT.dflt of2_S d).2):=by
 obtain ⟨h1,h2,h3,h4,h5,h6,h7⟩:=hi _ (List.mem_cons_self ..)
 obtain ⟨i,⟨ys,n,l⟩,out⟩:=d
 have h5:ys.length≤KS:=h5
 have h4:i≤(ys.length:Int):=h4
 have h6:(List.length out:Int)≤i:=h6
 have hm:out.length≤maxLen:=by unfold KS at h5;unfold maxLen;omega
 obtain ⟨j,hj⟩:=of2_q out l ys n i hm
 show of2_R out l ys n i=_
 unfold of2_R ixF of2_S q6g
 rw[hj]
 simp only[eT.lst_els]
 cases decide (i<n) with
 | false=>rfl
 | true=>
  simp only[cond_true]
  generalize out.any (q0k · (ys.getD i.toNat eT.dflt))=z
  cases z
  ·simp only[cond_false]
   show (bif exB Ex.ret (.exit 0) then _ else _)=_
   simp only[eT.lst_els,q3e]
   rfl
  ·simp only[cond_true]
   show (bif exB Ex.ret .ret then _ else _)=_
   simp only[eT.lst_els]
   rfl
theorem of2_ok:∀ b∈q00 Tryz.prog 62,lkey b=8→q02 Tryz.prog b (of2_C of2_I of2_M).g:=by
 refine qtt of2_I of2_M (fun g hi=>?_) (q06 (fun _=>rfl) (fun _=>rfl) qwo of2_P)
 obtain ⟨out,l,ys,n,i⟩:=g
 obtain ⟨h1,h2,h3,h4,h5,h6,h7⟩:=hi _ (List.mem_cons_self ..)
 have h1:n=(ys.length:Int):=h1
 have h3:0≤i:=h3
 have h4:i≤(ys.length:Int):=h4
 have h5:ys.length≤KS:=h5
 have h6:(List.length out:Int)≤i:=h6
 unfold KS at h5
 have hm:out.length≤maxLen:=by unfold maxLen;omega
 have hs:out.length<1000000∨¬ i<(ys.length:Int):=by omega
 have h7:l=ys.length:=h7
 clear hi
 subst h7
 obtain ⟨j,hj⟩:=of2_q out ys.length ys n i hm
 have ha:∀ e,e<ys.length→True:=fun _ _=>trivial
 have hx:=ixJ0 (lim:=fun c:eb_GC=>c.1) (xs:=fun c:eb_GC=>c.2.2.2) (P:=eb_K) (c:=((out.length:Int),ys.getD i.toNat eT.dflt,out.length,out)) (b:=((),LoopState.ready,none)) rfl hm ⟨rfl,rfl⟩
 show qhn out ys.length ys n i
 unfold qhn
 rw[hj]
 simp only[qlb,decide_eq_true_eq,decide_eq_false_iff_not,eT.lst_els]
 refine ⟨fun hc=>⟨⟨h3,by omega⟩,by omega,fun _ _=>trivial,rfl,rfl,hx,fun _=>?_,fun _=>?_⟩,fun _=>⟨Nat.le_refl _,fun _ _=>trivial,ha⟩⟩
 ·cases out.any (q0k · (ys.getD i.toNat eT.dflt)) <;> exact ⟨Nat.le_refl _,fun _ _=>trivial,ha⟩
 ·have hl:out.length≤(bif out.any (q0k · (ys.getD i.toNat eT.dflt)) then ((Ex.ret,(out.length:Int),j,(),ys.getD i.toNat eT.dflt,out.length,out,(LoopState.done,some (Code.exit 1))):Ex×eb_G) else (.exit 0,(out.length:Int),j,(),ys.getD i.toNat eT.dflt,out.length,out,(.ready,none))).2.2.2.2.2.2.1.length:=by
   cases out.any (q0k · (ys.getD i.toNat eT.dflt)) <;> exact Nat.le_refl _
  have hs:out.length<1000000:=by rcases hs with h | h
                                 ·exact h
                                 ·exact absurd (by omega) h
  exact ⟨⟨hl,trivial,by unfold maxLen;omega,by omega⟩,Nat.le_refl _,fun _ _=>trivial,fun _ _=>trivial,ha⟩
theorem qrj (ys:List T) (hm:ys.length≤KS):loopF qrk of2_M ([],ys.length,ys,(ys.length:Int),0)=(.exit 0,qd7 q0k [] ys,ys.length,ys,(ys.length:Int),(ys.length:Int)):=by
 have hm2:ys.length≤maxLen:=by unfold KS at hm;unfold maxLen;omega
 have h1:loopF qrk of2_M ([],ys.length,ys,(ys.length:Int),0)=_:=q0a (φ:=of2_f) (ψ:=of2_g) (fun _=>rfl) (fun _=>rfl) qwo of2_P (ys,(ys.length:Int),ys.length) [] rfl hm2 ⟨hm,Int.le_refl _,rfl⟩
 have hs:=scan_fold (x:=0) (st:=of2_S (ys,(ys.length:Int),ys.length)) (f:=q6g) (fun _ _ _=>rfl) ys 0 []
 rw[qf2] at hs
 rw[h1]
 show ((scan 0 (of2_S (ys,(ys.length:Int),ys.length)) 0 ys []).1,of2_g ((scan 0 (of2_S (ys,(ys.length:Int),ys.length)) 0 ys []).2.1,(ys,(ys.length:Int),ys.length),(scan 0 (of2_S (ys,(ys.length:Int),ys.length)) 0 ys []).2.2))=_
 rw[hs,Int.zero_add]
 rfl
def ltN:LTab Tryz.prog:=ltO.cons 62 8 (qm7 0 (of1_C of1_I of1_M) (of2_C of2_I of2_M)) (fun b hb hk=>altL_ok (of1_ok b hb hk) (of2_ok b hb hk))
abbrev lamN:Lam:=ltN.lam
theorem z0t:∀ f k L,lamN f k=some L→∀ b∈q00 Tryz.prog f,lkey b=k→q02 Tryz.prog b L.g:=ltN.ok
end
end Go.Proofs.YthnojkbkojpadaaGreat

namespace Go.Proofs.YthnojkbkojpadaaGreat
noncomputable section
open Go.RowKit Go.Sx
set_option linter.unusedVariables false
abbrev rLE:Rv (List T×Int):=.tup (.cons (.list eT) (.one (.of dI)))
def q1c (xs:List T):Ex ×
 of2_G:=
 loopF (fun g=>of2_R g.fst g.snd.fst g.snd.snd.fst g.snd.snd.snd.fst g.snd.snd.snd.snd) of2_M ([],(Lp.compL (eT.lst (srtBy (fun a b=>q19 a b) (List.map (fun x=>eT.get []) (List.range (min ((0:Nat)+xs.length) (0:Nat)))++eT.lst ((0:Nat)+xs.length - (0:Nat)) (eT.els xs))).length (eT.els (srtBy (fun a b=>q19 a b) (List.map (fun x=>eT.get []) (List.range (min ((0:Nat)+xs.length) (0:Nat)))++eT.lst ((0:Nat)+xs.length - (0:Nat)) (eT.els xs)))))).length,eT.lst (Lp.compL (eT.lst (srtBy (fun a b=>q19 a b) (List.map (fun x=>eT.get []) (List.range (min ((0:Nat)+xs.length) (0:Nat)))++eT.lst ((0:Nat)+xs.length - (0:Nat)) (eT.els xs))).length (eT.els (srtBy (fun a b=>q19 a b) (List.map (fun x=>eT.get []) (List.range (min ((0:Nat)+xs.length) (0:Nat)))++eT.lst ((0:Nat)+xs.length - (0:Nat)) (eT.els xs)))))).length (eT.els (Lp.compL (eT.lst (srtBy (fun a b=>q19 a b) (List.map (fun x=>eT.get []) (List.range (min ((0:Nat)+xs.length) (0:Nat)))++eT.lst ((0:Nat)+xs.length - (0:Nat)) (eT.els xs))).length (eT.els (srtBy (fun a b=>q19 a b) (List.map (fun x=>eT.get []) (List.range (min ((0:Nat)+xs.length) (0:Nat)))++eT.lst ((0:Nat)+xs.length - (0:Nat)) (eT.els xs))))))),(↑(Lp.compL (eT.lst (srtBy (fun a b=>q19 a b) (List.map (fun x=>eT.get []) (List.range (min ((0:Nat)+xs.length) (0:Nat)))++eT.lst ((0:Nat)+xs.length - (0:Nat)) (eT.els xs))).length (eT.els (srtBy (fun a b=>q19 a b) (List.map (fun x=>eT.get []) (List.range (min ((0:Nat)+xs.length) (0:Nat)))++eT.lst ((0:Nat)+xs.length - (0:Nat)) (eT.els xs)))))).length:Int),(0:Int))
def q7y (xs:List T):Ex ×
 of2_G:=
 loopF (fun g=>of2_R g.fst g.snd.fst g.snd.snd.fst g.snd.snd.snd.fst g.snd.snd.snd.snd) of2_M ([],(0:Nat),[],(0:Int),(0:Int))
def cof_F (xs:List T):Rv.T rLE:=
 bif badC (eT.lst xs.length (eT.els xs)) != (0:Int) then ([],badC (eT.lst xs.length (eT.els xs)))
 else bif exB Ex.ret (q1c xs).fst then ([],(0:Int)) else bif decide ((↑(q1c xs).snd.fst.length:Int) > (1024:Int)) then ([],(3:Int)) else (eT.lst (q1c xs).snd.fst.length (eT.els (q1c xs).snd.fst),(0:Int))
def qbk (xs:List T):Prop:=
 (∀ (e:Nat),e<xs.length→eT.Ok (eT.els xs e))∧((badC (eT.lst xs.length (eT.els xs)) != (0:Int))=false→∀ (cs:List Nat),(cs.isEmpty=false→xs.length=(0:Nat))→((false != !cs.isEmpty)=true→(0:Nat)=(0:Nat)∧(∀ (e:Nat),e<(0:Nat)→eT.OkP [])∧(0:Nat)<(4611686018427387904:Nat)∧(0:Nat)=(0:Nat)∧(∀ (e:Nat),e<(0:Nat)→eT.OkP [])∧(∀ (e:Nat),e<(0:Nat)→True)∧Lp.ixJ (fun c=>c.snd.fst) (fun c=>c.fst) of2_K (of2_f ([],(0:Nat),[],(0:Int),(0:Int)))∧(exB Ex.ret (q7y xs).fst=true→∀ (d:List T×Int),([],(0:Int))=bif exB Ex.ret (q1c xs).fst then ([],(0:Int)) else bif decide ((↑(q1c xs).snd.fst.length:Int) > (1024:Int)) then ([],(3:Int)) else (eT.lst (q1c xs).snd.fst.length (eT.els (q1c xs).snd.fst),(0:Int)))∧(exB Ex.ret (q7y xs).fst=false→(decide ((↑(q7y xs).snd.fst.length:Int) > (1024:Int))=true→∀ (d:List T×Int),([],(3:Int))=bif exB Ex.ret (q1c xs).fst then ([],(0:Int)) else bif decide ((↑(q1c xs).snd.fst.length:Int) > (1024:Int)) then ([],(3:Int)) else (eT.lst (q1c xs).snd.fst.length (eT.els (q1c xs).snd.fst),(0:Int)))∧(decide ((↑(q7y xs).snd.fst.length:Int) > (1024:Int))=false→(q7y xs).snd.fst.length≤(q7y xs).snd.fst.length∧(∀ (e:Nat),e<(q7y xs).snd.fst.length→True)∧∀ (d:List T×Int),(eT.lst (q7y xs).snd.fst.length (eT.els (q7y xs).snd.fst),(0:Int))=bif exB Ex.ret (q1c xs).fst then ([],(0:Int)) else bif decide ((↑(q1c xs).snd.fst.length:Int) > (1024:Int)) then ([],(3:Int)) else (eT.lst (q1c xs).snd.fst.length (eT.els (q1c xs).snd.fst),(0:Int)))))∧((false != !cs.isEmpty)=false→((0:Nat)≤(0:Nat)∧(∀ (e:Nat),e<xs.length→(eT.els xs e).all SV.one=true)∧(0:Nat)+xs.length≤maxLen∧((0:Nat)+xs.length) * Tryz.prog.types[(47:Nat)].bytes≤(140737488355328:Nat))∧(0:Nat)+xs.length=(0:Nat)+xs.length∧(∀ (e:Nat),e<min ((0:Nat)+xs.length) (0:Nat)→eT.OkP [])∧(∀ (e:Nat),e<(0:Nat)+xs.length - (0:Nat)→True)∧(List.map (fun x=>eT.get []) (List.range (min ((0:Nat)+xs.length) (0:Nat)))++eT.lst ((0:Nat)+xs.length - (0:Nat)) (eT.els xs)).length<(4611686018427387904:Nat)∧(0:Nat)+xs.length=(srtBy (fun a b=>q19 a b) (List.map (fun x=>eT.get []) (List.range (min ((0:Nat)+xs.length) (0:Nat)))++eT.lst ((0:Nat)+xs.length - (0:Nat)) (eT.els xs))).length∧(∀ (e:Nat),e<(srtBy (fun a b=>q19 a b) (List.map (fun x=>eT.get []) (List.range (min ((0:Nat)+xs.length) (0:Nat)))++eT.lst ((0:Nat)+xs.length - (0:Nat)) (eT.els xs))).length→True)∧(∀ (e:Nat),e<(Lp.compL (eT.lst (srtBy (fun a b=>q19 a b) (List.map (fun x=>eT.get []) (List.range (min ((0:Nat)+xs.length) (0:Nat)))++eT.lst ((0:Nat)+xs.length - (0:Nat)) (eT.els xs))).length (eT.els (srtBy (fun a b=>q19 a b) (List.map (fun x=>eT.get []) (List.range (min ((0:Nat)+xs.length) (0:Nat)))++eT.lst ((0:Nat)+xs.length - (0:Nat)) (eT.els xs)))))).length→True)∧Lp.ixJ (fun c=>c.snd.fst) (fun c=>c.fst) of2_K (of2_f ([],(Lp.compL (eT.lst (srtBy (fun a b=>q19 a b) (List.map (fun x=>eT.get []) (List.range (min ((0:Nat)+xs.length) (0:Nat)))++eT.lst ((0:Nat)+xs.length - (0:Nat)) (eT.els xs))).length (eT.els (srtBy (fun a b=>q19 a b) (List.map (fun x=>eT.get []) (List.range (min ((0:Nat)+xs.length) (0:Nat)))++eT.lst ((0:Nat)+xs.length - (0:Nat)) (eT.els xs)))))).length,eT.lst (Lp.compL (eT.lst (srtBy (fun a b=>q19 a b) (List.map (fun x=>eT.get []) (List.range (min ((0:Nat)+xs.length) (0:Nat)))++eT.lst ((0:Nat)+xs.length - (0:Nat)) (eT.els xs))).length (eT.els (srtBy (fun a b=>q19 a b) (List.map (fun x=>eT.get []) (List.range (min ((0:Nat)+xs.length) (0:Nat)))++eT.lst ((0:Nat)+xs.length - (0:Nat)) (eT.els xs)))))).length (eT.els (Lp.compL (eT.lst (srtBy (fun a b=>q19 a b) (List.map (fun x=>eT.get []) (List.range (min ((0:Nat)+xs.length) (0:Nat)))++eT.lst ((0:Nat)+xs.length - (0:Nat)) (eT.els xs))).length (eT.els (srtBy (fun a b=>q19 a b) (List.map (fun x=>eT.get []) (List.range (min ((0:Nat)+xs.length) (0:Nat)))++eT.lst ((0:Nat)+xs.length - (0:Nat)) (eT.els xs))))))),(↑(Lp.compL (eT.lst (srtBy (fun a b=>q19 a b) (List.map (fun x=>eT.get []) (List.range (min ((0:Nat)+xs.length) (0:Nat)))++eT.lst ((0:Nat)+xs.length - (0:Nat)) (eT.els xs))).length (eT.els (srtBy (fun a b=>q19 a b) (List.map (fun x=>eT.get []) (List.range (min ((0:Nat)+xs.length) (0:Nat)))++eT.lst ((0:Nat)+xs.length - (0:Nat)) (eT.els xs)))))).length:Int),(0:Int)))∧(exB Ex.ret (q1c xs).fst=true→∀ (d:List T×Int),([],(0:Int))=bif exB Ex.ret (q1c xs).fst then ([],(0:Int)) else bif decide ((↑(q1c xs).snd.fst.length:Int) > (1024:Int)) then ([],(3:Int)) else (eT.lst (q1c xs).snd.fst.length (eT.els (q1c xs).snd.fst),(0:Int)))∧(exB Ex.ret (q1c xs).fst=false→(decide ((↑(q1c xs).snd.fst.length:Int) > (1024:Int))=true→∀ (d:List T×Int),([],(3:Int))=bif exB Ex.ret (q1c xs).fst then ([],(0:Int)) else bif decide ((↑(q1c xs).snd.fst.length:Int) > (1024:Int)) then ([],(3:Int)) else (eT.lst (q1c xs).snd.fst.length (eT.els (q1c xs).snd.fst),(0:Int)))∧(decide ((↑(q1c xs).snd.fst.length:Int) > (1024:Int))=false→(q1c xs).snd.fst.length≤(q1c xs).snd.fst.length∧(∀ (e:Nat),e<(q1c xs).snd.fst.length→True)∧∀ (d:List T×Int),(eT.lst (q1c xs).snd.fst.length (eT.els (q1c xs).snd.fst),(0:Int))=bif exB Ex.ret (q1c xs).fst then ([],(0:Int)) else bif decide ((↑(q1c xs).snd.fst.length:Int) > (1024:Int)) then ([],(3:Int)) else (eT.lst (q1c xs).snd.fst.length (eT.els (q1c xs).snd.fst),(0:Int))))))
theorem cof_okS (pre:DA.T aL→List Prop) (h:∀ g,DA.bd aL g→(∀ p∈pre g,p)→qbk g):q04 Tryz.prog 62 aL (Rv.D rLE) (fun g=>cof_F g) pre:=q1a (R:=rLE) (Γ:=(MTab.gamz tabQ [] [])) (Λ:=lamN) (MTab.okz tabQ [] []) z0t 100 default (fun g=>qbk g) (fun g=>by kernel_rfl) (fun g=>by kernel_rfl) h
end
end Go.Proofs.YthnojkbkojpadaaGreat

namespace Go.Proofs.YthnojkbkojpadaaGreat
open Go.RowKit Go.Sx Go.Lp
theorem cl0 (xs:List T):List.map (fun _=>eT.get []) (List.range (min (0+xs.length) 0))++eT.lst (0+xs.length - 0) (eT.els xs)=xs:=by
 have h2:min (0+xs.length) 0=0:=by omega
 rw[h2,show 0+xs.length - 0=xs.length by omega,eT.lst_els]
 rfl
theorem qlj (xs:List T):(srtBy cfT xs).length=xs.length:=(List.mergeSort_perm _ _).length_eq
theorem qsd:∀ (r:List T) (p:T),(dd p r).length≤r.length
 | [],_=>Nat.le_refl _
 | y :: r,p=>by
  unfold dd
  split
  ·exact Nat.le_succ_of_le (qsd r _)
  ·exact Nat.succ_le_succ (qsd r _)
theorem qp1 (xs:List T):(compL xs).length≤xs.length:=by
 cases xs with
 | nil=>exact Nat.le_refl _
 | cons x r=>exact Nat.succ_le_succ (qsd r x)
theorem cof_q (xs:List T) (h:xs.length≤KS):∃ a b c d,q1c xs=(.exit 0,minsT xs,a,b,c,d):=by
 unfold q1c
 simp only[cl0,eT.lst_els]
 have hl:(compL (srtBy cfT xs)).length≤KS:=Nat.le_trans (qp1 _) (by rw[qlj];exact h)
 have h1:=qrj (compL (srtBy cfT xs)) hl
 rw[qmi poT toT] at h1
 exact ⟨_,_,_,_,h1⟩
theorem cof_q0 (xs:List T):∃ a b c d,q7y xs=(.exit 0,[],a,b,c,d):=⟨_,_,_,_,qrj [] (Nat.zero_le _)⟩
theorem qyg (xs:List T) (h:xs.length≤KS):cof_F xs=ofC xs∧qbk xs:=by
 have hm:xs.length≤1000000:=h
 have hl:(compL (srtBy cfT xs)).length≤KS:=Nat.le_trans (qp1 _) (by rw[qlj];exact h)
 have hl2:(compL (srtBy cfT xs)).length≤maxLen:=Nat.le_trans hl (by unfold KS maxLen;omega)
 obtain ⟨a,b,c,d,h1⟩:=cof_q xs h
 obtain ⟨a',b',c',d',h2⟩:=cof_q0 xs
 unfold cof_F qbk
 rw[h1,h2]
 simp only[cl0,eT.lst_els,qlb]
 refine ⟨rfl,okT xs,fun _ cs hcs=>⟨fun hc=>?_,fun _=>?_⟩⟩
 ·have hx:xs=[]:=List.length_eq_zero_iff.1 (hcs (by cases hh:cs.isEmpty with
   | true=>rw[hh] at hc;cases hc
   | false=>rfl))
  subst hx
  refine ⟨trivial,fun e he=>by omega,by omega,trivial,fun e he=>by omega,fun _ _=>trivial,?_,fun hc=>(by cases hc),fun _=>⟨fun hc=>(by cases hc),fun _=>⟨Nat.le_refl _,fun _ _=>trivial,fun _=>rfl⟩⟩⟩
  exact ixJ0 (lim:=fun c:q4e=>c.2.1) (xs:=fun c:q4e=>c.1) (P:=of2_K) (c:=([],0,0)) (b:=[]) rfl (Nat.zero_le _) ⟨Nat.zero_le _,Int.le_refl _,rfl⟩
 ·refine ⟨⟨Nat.le_refl _,fun e _=>onesT xs e,by unfold maxLen;omega,by omega⟩,trivial,fun e he=>by omega,fun _ _=>trivial,by omega,by rw[show (fun a b=>q19 a b)=cfT from rfl,qlj];omega,fun _ _=>trivial,fun _ _=>trivial,?_,fun hc=>(by cases hc),fun _=>⟨fun hc d=>?_,fun hc=>⟨Nat.le_refl _,fun _ _=>trivial,fun d=>?_⟩⟩⟩
  ·exact ixJ0 (lim:=fun c:q4e=>c.2.1) (xs:=fun c:q4e=>c.1) (P:=of2_K) (c:=(compL (srtBy cfT xs),((compL (srtBy cfT xs)).length:Int),(compL (srtBy cfT xs)).length)) (b:=[]) rfl hl2 ⟨hl,Int.le_refl _,rfl⟩
  ·rw[hc];rfl
  ·rw[hc];rfl
theorem cof_ok:q04 Tryz.prog 62 aL dLE ofC (fun g=>[g.length≤KS]):=
 q0b (cof_okS _ fun g _ hp=>(qyg g (hp _ (List.mem_cons_self ..))).2) fun g _ hp=>(qyg g (hp _ (List.mem_cons_self ..))).1
end Go.Proofs.YthnojkbkojpadaaGreat

namespace Go.Proofs.YthnojkbkojpadaaGreat
noncomputable section
open Go.RowKit Go.Sx Go.Lp
theorem fwf_c:q04 Tryz.prog 12 aLPo dBool (fun l=>fwf_F l) (fun _=>[]):=fwf_okS (fun _=>[]) fun l hb _=>by
 show qbc l
 unfold qbc
 intro h
 simp only[El.okL_eq,El.ag_eq]
 exact ⟨trivial,ixJ0 rfl hb.1 trivial⟩
theorem qz8 {l:List Path} (h:fwf_F l=true):l.length≤64:=by
 unfold fwf_F at h
 by_cases h2:(l.length:Int) > 64
 ·rw[decide_eq_true h2] at h;cases h
 ·omega
def q4u:MTab Tryz.prog:=((qqh.cons 12 (pconP aLPo dBool (fun l=>fwf_F l) (fun _=>[])) (q0d fwf_c puB)).consM 108 (lconR eT DA.none dLE (fun g=>ofC g.1) (fun g=>[g.1.length≤KS])) (qn7 (qce rof_ok))).consM 62 (lconR eT DA.none dLE (fun g=>ofC g.1) (fun g=>[g.1.length≤KS])) (qn7 (qce cof_ok))
end
end Go.Proofs.YthnojkbkojpadaaGreat

namespace Go.Proofs.YthnojkbkojpadaaGreat
noncomputable section
open Go.RowKit Go.Sx
set_option linter.unusedVariables false
abbrev fri_G:Type:=List S×Int×Int×Unit×q0j×List T×Unit×Int
def qxo:LP 9 fri_G:=.pair (.slot 9 82 dLS) (.pair (.slot 9 83 dI) (.pair (.slot 9 84 dI) (.pair (.fix 9 16 (.p 8 0)) (.pair (.obj 9 8 59 eC) (.pair (.row 9 14 47 eT) (.pair (.fix 9 6 (.k (.slice none 0 0))) (.slot 9 7 dI)))))))
def fri_R (xs:List S) (n:Int) (i:Int) (_u:Unit) (c:q0j) (o:List T) (_v:Unit) (e:Int):Ex×fri_G:=
 bif decide (i<n) then bif (q0h (xs.getD i.toNat eS.dflt) c.t).snd != (0:Int) then (Ex.ret,eS.ag xs,n,i,(),c,eT.ag o,(),(q0h (xs.getD i.toNat eS.dflt) c.t).snd) else (Ex.normal,eS.ag xs,n,IntKind.i64.wrap (i+(1:Int)),(),c,eT.lst (min (o.length+(1:Nat)) o.length) (eT.els o)++List.map (fun x=>(q0h (xs.getD i.toNat eS.dflt) c.t).fst) (List.range (o.length+(1:Nat) - o.length)),(),e)
 else (Ex.exit (2:Nat),eS.ag xs,n,i,(),c,eT.ag o,(),e)
def qif (xs:List S) (n:Int) (i:Int) (_u:Unit) (c:q0j) (o:List T) (_v:Unit) (e:Int):Prop:=
 (decide (i<n)=true→((0:Int)≤i∧i<(↑xs.length:Int))∧(((q0h (xs.getD i.toNat eS.dflt) c.t).snd != (0:Int))=true→eS.okL xs∧o.length≤o.length∧∀ (e:Nat),e<o.length→True)∧(((q0h (xs.getD i.toNat eS.dflt) c.t).snd != (0:Int))=false→(o.length≤o.length∧True∧o.length+(1:Nat)≤maxLen∧(o.length+(1:Nat)) * Tryz.prog.types[(47:Nat)].bytes≤(140737488355328:Nat))∧eS.okL xs∧o.length+(1:Nat)≤o.length+(1:Nat)∧(∀ (e:Nat),e<min (o.length+(1:Nat)) o.length→True)∧∀ (e:Nat),e<o.length+(1:Nat) - o.length→True))∧(decide (i<n)=false→eS.okL xs∧o.length≤o.length∧∀ (e:Nat),e<o.length→True)
theorem fri_one:((q00 Tryz.prog 22).filter fun c=>Nat.beq (lkey c) 18).length=1:=by kernel_rfl
abbrev q5v:Type:=List S×Int×q0j
abbrev qfm:Type:=Unit×List T×Unit×Int
def fri_f (g:fri_G):Int×q5v×qfm:=(g.2.2.1,(g.1,g.2.1,g.2.2.2.2.1),(g.2.2.2.1,g.2.2.2.2.2.1,g.2.2.2.2.2.2.1,g.2.2.2.2.2.2.2))
def fri_g (d:Int×q5v×qfm):fri_G:=(d.2.1.1,d.2.1.2.1,d.1,d.2.2.1,d.2.1.2.2,d.2.2.2.1,d.2.2.2.2.1,d.2.2.2.2.2)
abbrev qfl (g:fri_G):Ex×fri_G:=fri_R g.1 g.2.1 g.2.2.1 g.2.2.2.1 g.2.2.2.2.1 g.2.2.2.2.2.1 g.2.2.2.2.2.2.1 g.2.2.2.2.2.2.2
abbrev qxm (g:fri_G):Prop:=qif g.1 g.2.1 g.2.2.1 g.2.2.2.1 g.2.2.2.2.1 g.2.2.2.2.2.1 g.2.2.2.2.2.2.1 g.2.2.2.2.2.2.2
theorem fri_es (g:fri_G):(qfl g).1=.normal∨(qfl g).1∈([.ret,.exit 2]:List Ex):=by
 unfold qfl fri_R
 repeat' (first | (left;rfl) | (right;simp only[cond_true,cond_false];simp;done) | (rw[Bool.cond_eq_ite];split))
abbrev fri_C (Inv:fri_G→List Prop) (m:fri_G→Nat):LCon:=loopR [.ret,.exit 2] (loopBody Tryz.prog 22 18) qxo [] 108 Inv qfl m
theorem quh (Inv:fri_G→List Prop) (m:fri_G→Nat) (hs:∀ g,allP (Inv g)→qxm g) (hg:Goes qfl m fun g=>allP (Inv g)):∀ b∈q00 Tryz.prog 22,lkey b=18→q02 Tryz.prog b (fri_C Inv m).g:=q0g (Γ:=(MTab.gamz q4u [] [])) (Λ:=qob) (MTab.okz q4u [] []) qcv 100 22 18 108 qxo [] Inv qfl qxm m default [.ret,.exit 2] fri_one (fun rd T B HL HB ds g=>by kernel_rfl) (fun rd T B HL HB ds g=>by kernel_rfl) hs hg fri_es
abbrev cmi_G:Type:=List S×Int×List q0j×Int×List T×Unit×Int
def qym:LP 2 cmi_G:=.pair (.slot 2 14 dLS) (.pair (.slot 2 15 dI) (.pair (.slot 2 2 dLC) (.pair (.slot 2 11 dI) (.pair (.row 2 10 47 eT) (.pair (.fix 2 6 (.k (.slice none 0 0))) (.slot 2 7 dI))))))
def cmi_R (xs:List S) (i:Int) (cs:List q0j) (j:Int) (o:List T) (_u:Unit) (e:Int):Ex×cmi_G:=
 bif decide (i<(↑xs.length:Int)) then bif (q0h (xs.getD i.toNat eS.dflt) (cs.getD j.toNat eC.dflt).t).snd != (0:Int) then (Ex.ret,eS.ag xs,i,eC.ag cs,j,eT.ag o,(),(q0h (xs.getD i.toNat eS.dflt) (cs.getD j.toNat eC.dflt).t).snd) else (Ex.normal,eS.ag xs,IntKind.i64.wrap (i+(1:Int)),eC.ag cs,j,eT.lst (min (o.length+(1:Nat)) o.length) (eT.els o)++List.map (fun x=>(q0h (xs.getD i.toNat eS.dflt) (cs.getD j.toNat eC.dflt).t).fst) (List.range (o.length+(1:Nat) - o.length)),(),e)
 else (Ex.exit (2:Nat),eS.ag xs,i,eC.ag cs,j,eT.ag o,(),e)
def qj4 (xs:List S) (i:Int) (cs:List q0j) (j:Int) (o:List T) (_u:Unit) (e:Int):Prop:=
 (decide (i<(↑xs.length:Int))=true→((0:Int)≤i∧i<(↑xs.length:Int))∧((0:Int)≤j∧j<(↑cs.length:Int))∧(((q0h (xs.getD i.toNat eS.dflt) (cs.getD j.toNat eC.dflt).t).snd != (0:Int))=true→eS.okL xs∧eC.okL cs∧o.length≤o.length∧∀ (e:Nat),e<o.length→True)∧(((q0h (xs.getD i.toNat eS.dflt) (cs.getD j.toNat eC.dflt).t).snd != (0:Int))=false→(o.length≤o.length∧True∧o.length+(1:Nat)≤maxLen∧(o.length+(1:Nat)) * Tryz.prog.types[(47:Nat)].bytes≤(140737488355328:Nat))∧eS.okL xs∧eC.okL cs∧o.length+(1:Nat)≤o.length+(1:Nat)∧(∀ (e:Nat),e<min (o.length+(1:Nat)) o.length→True)∧∀ (e:Nat),e<o.length+(1:Nat) - o.length→True))∧(decide (i<(↑xs.length:Int))=false→eS.okL xs∧eC.okL cs∧o.length≤o.length∧∀ (e:Nat),e<o.length→True)
theorem cmi_one:((q00 Tryz.prog 63).filter fun c=>Nat.beq (lkey c) 14).length=1:=by kernel_rfl
abbrev q56:Type:=List S×List q0j×Int
abbrev qgl:Type:=List T×Unit×Int
def cmi_f (g:cmi_G):Int×q56×qgl:=(g.2.1,(g.1,g.2.2.1,g.2.2.2.1),(g.2.2.2.2.1,g.2.2.2.2.2.1,g.2.2.2.2.2.2))
def cmi_g (d:Int×q56×qgl):cmi_G:=(d.2.1.1,d.1,d.2.1.2.1,d.2.1.2.2,d.2.2.1,d.2.2.2.1,d.2.2.2.2)
abbrev qgk (g:cmi_G):Ex×cmi_G:=cmi_R g.1 g.2.1 g.2.2.1 g.2.2.2.1 g.2.2.2.2.1 g.2.2.2.2.2.1 g.2.2.2.2.2.2
abbrev qyk (g:cmi_G):Prop:=qj4 g.1 g.2.1 g.2.2.1 g.2.2.2.1 g.2.2.2.2.1 g.2.2.2.2.2.1 g.2.2.2.2.2.2
theorem cmi_es (g:cmi_G):(qgk g).1=.normal∨(qgk g).1∈([.ret,.exit 2]:List Ex):=by
 unfold qgk cmi_R
 repeat' (first | (left;rfl) | (right;simp only[cond_true,cond_false];simp;done) | (rw[Bool.cond_eq_ite];split))
abbrev cmi_C (Inv:cmi_G→List Prop) (m:cmi_G→Nat):LCon:=loopR [.ret,.exit 2] (loopBody Tryz.prog 63 14) qym [] 107 Inv qgk m
theorem quz (Inv:cmi_G→List Prop) (m:cmi_G→Nat) (hs:∀ g,allP (Inv g)→qyk g) (hg:Goes qgk m fun g=>allP (Inv g)):∀ b∈q00 Tryz.prog 63,lkey b=14→q02 Tryz.prog b (cmi_C Inv m).g:=q0g (Γ:=(MTab.gamz q4u [] [])) (Λ:=qob) (MTab.okz q4u [] []) qcv 100 63 14 107 qym [] Inv qgk qyk m default [.ret,.exit 2] cmi_one (fun rd T B HL HB ds g=>by kernel_rfl) (fun rd T B HL HB ds g=>by kernel_rfl) hs hg cmi_es
end
end Go.Proofs.YthnojkbkojpadaaGreat

namespace Go.Proofs.YthnojkbkojpadaaGreat
noncomputable section
open Go.RowKit Go.Sx Go.Lp
def apL (t:T):List S→List T×Int
 | []=>([],0)
 | s :: r=>bif (q0h s t).2 != (0:Int) then ([],(q0h s t).2) else bif (apL t r).2 != (0:Int) then ([],(apL t r).2) else ((q0h s t).1 :: (apL t r).1,0)
theorem qsu (t:T):∀ l:List S,(apL t l).1.length≤l.length
 | []=>Nat.le_refl _
 | s :: r=>by
  have ih:=qsu t r
  unfold apL
  cases (q0h s t).2 != (0:Int) with
  | true=>exact Nat.zero_le _
  | false=>
   cases (apL t r).2 != (0:Int) with
   | true=>exact Nat.zero_le _
   | false=>exact Nat.succ_le_succ ih
def goC (D:Place→Option Int) (G:Place→List S):List q0j→List T×Int
 | []=>([],0)
 | c :: r=>bif decide (c.n≤0) then goC D G r else match D c.p with
  | none=>([],110)
  | some d=>bif q0e c.t != (0:Int)||c.t.d != d then ([],110) else bif (apL c.t (G c.p)).2 != (0:Int) then ([],(apL c.t (G c.p)).2) else bif (goC D G r).2 != (0:Int) then ([],(goC D G r).2) else ((apL c.t (G c.p)).1++(goC D G r).1,0)
def fri_S (c:q5v) (b:qfm) (_:Int) (v:S):Ex×qfm:=bif (q0h v c.2.2.t).2 != (0:Int) then (.ret,((),b.2.1,(),(q0h v c.2.2.t).2)) else (.normal,((),b.2.1++[(q0h v c.2.2.t).1],(),b.2.2.2))
def fri_K (c:q5v) (b:qfm) (i:Int):Prop:=c.1.length≤K30∧(List.length b.2.1:Int)≤i+1000000
abbrev fri_I (g:fri_G):List Prop:=ixI (fun c:q5v=>c.2.1) (fun c=>c.1) fri_K (fri_f g)
abbrev fri_M (g:fri_G):Nat:=ixM (fun c:q5v=>c.2.1) (fri_f g)
theorem fri_P:ixP fri_S (fun c:q5v=>c.1) fri_K:=fun c b i v h _ hn=>by
 have h2:(List.length b.2.1:Int)≤i+1000000:=h.2
 unfold fri_S at hn ⊢
 cases hc:(q0h v c.2.2.t).2 != (0:Int) with
 | true=>rw[hc] at hn;cases hn
 | false=>
  refine ⟨h.1,?_⟩
  show ((b.2.1++[_]).length:Int)≤i+1+1000000
  rw[List.length_append];simp only[List.length_cons,List.length_nil];omega
abbrev qs4 (g:fri_G):Ex×fri_G:=fri_R g.1 g.2.1 g.2.2.1 g.2.2.2.1 g.2.2.2.2.1 g.2.2.2.2.2.1 g.2.2.2.2.2.2.1 g.2.2.2.2.2.2.2
theorem qxn (d:Int×q5v×qfm) (_:allP (ixI (fun c:q5v=>c.2.1) (fun c=>c.1) fri_K d)):qs4 (fri_g d)=((ixF 2 (fun c:q5v=>c.2.1) (fun c=>c.1) eS.dflt fri_S d).1,fri_g (ixF 2 (fun c:q5v=>c.2.1) (fun c=>c.1) eS.dflt fri_S d).2):=by
 obtain ⟨i,⟨xs,n,c⟩,⟨⟨⟩,o,⟨⟩,e⟩⟩:=d
 show fri_R xs n i () c o () e=_
 unfold fri_R ixF fri_S
 simp only[El.ag_eq,q3e]
 cases decide (i<n) with
 | false=>rfl
 | true=>
  simp only[cond_true]
  cases (q0h (xs.getD i.toNat eS.dflt) c.t).2 != (0:Int) <;> rfl
theorem byt47 (h:47<Tryz.prog.types.size):(Tryz.prog.types[(47:Nat)]'h).bytes=48:=by kernel_rfl
theorem fri_ok:∀ b∈q00 Tryz.prog 22,lkey b=18→q02 Tryz.prog b (fri_C fri_I fri_M).g:=by
 refine quh fri_I fri_M (fun g hi=>?_) (q06 (fun _=>rfl) (fun _=>rfl) qxn fri_P)
 obtain ⟨xs,n,i,⟨⟩,c,o,⟨⟩,e⟩:=g
 obtain ⟨h1,h2,h3,h4,h6,h7⟩:=hi _ (List.mem_cons_self ..)
 have h1:n=(xs.length:Int):=h1
 have h3:0≤i:=h3
 have h4:i≤(xs.length:Int):=h4
 have h6:xs.length≤1000000:=h6
 have h7:(o.length:Int)≤i+1000000:=h7
 have hm:o.length+1≤maxLen:=by unfold maxLen;omega
 have hb:(o.length+1) * 48≤140737488355328:=by omega
 show qif xs n i () c o () e
 unfold qif
 simp only[El.okL_eq,El.ag_eq,byt47]
 refine ⟨fun hlt=>?_,fun _=>?_⟩
 ·have hr:=rngP i n _ h1 h3 hlt
  repeat' (first | exact hr | exact hm | exact hb | apply And.intro | intro _)
  all_goals first | trivial | rfl | omega
 ·repeat' (first | apply And.intro | intro _)
  all_goals first | trivial | rfl | omega
end
end Go.Proofs.YthnojkbkojpadaaGreat

namespace Go.Proofs.YthnojkbkojpadaaGreat
noncomputable section
open Go.RowKit Go.Sx Go.Lp
abbrev cmiT (c:q56):T:=(c.2.1.getD c.2.2.toNat eC.dflt).t
def cmi_S (c:q56) (b:qgl) (_:Int) (v:S):Ex×qgl:=bif (q0h v (cmiT c)).2 != (0:Int) then (.ret,(b.1,(),(q0h v (cmiT c)).2)) else (.normal,(b.1++[(q0h v (cmiT c)).1],(),b.2.2))
def cmi_K (c:q56) (b:qgl) (i:Int):Prop:=c.1.length≤K30∧(List.length b.1:Int)≤i+1000000∧0≤c.2.2∧c.2.2<(c.2.1.length:Int)
abbrev cmi_I (g:cmi_G):List Prop:=ixI (fun c:q56=>(c.1.length:Int)) (fun c=>c.1) cmi_K (cmi_f g)
abbrev cmi_M (g:cmi_G):Nat:=ixM (fun c:q56=>(c.1.length:Int)) (cmi_f g)
theorem cmi_P:ixP cmi_S (fun c:q56=>c.1) cmi_K:=fun c b i v h _ hn=>by
 have h2:(List.length b.1:Int)≤i+1000000:=h.2.1
 unfold cmi_S at hn ⊢
 cases hc:(q0h v (cmiT c)).2 != (0:Int) with
 | true=>rw[hc] at hn;cases hn
 | false=>
  refine ⟨h.1,?_,h.2.2⟩
  show ((b.1++[_]).length:Int)≤i+1+1000000
  rw[List.length_append];simp only[List.length_cons,List.length_nil];omega
abbrev qsm (g:cmi_G):Ex×cmi_G:=cmi_R g.1 g.2.1 g.2.2.1 g.2.2.2.1 g.2.2.2.2.1 g.2.2.2.2.2.1 g.2.2.2.2.2.2
theorem qyl (d:Int×q56×qgl) (_:allP (ixI (fun c:q56=>(c.1.length:Int)) (fun c=>c.1) cmi_K d)):qsm (cmi_g d)=((ixF 2 (fun c:q56=>(c.1.length:Int)) (fun c=>c.1) eS.dflt cmi_S d).1,cmi_g (ixF 2 (fun c:q56=>(c.1.length:Int)) (fun c=>c.1) eS.dflt cmi_S d).2):=by
 obtain ⟨i,⟨xs,cs,j⟩,⟨o,⟨⟩,e⟩⟩:=d
 show cmi_R xs i cs j o () e=_
 unfold cmi_R ixF cmi_S cmiT
 simp only[El.ag_eq,q3e]
 cases decide (i<(xs.length:Int)) with
 | false=>rfl
 | true=>
  simp only[cond_true]
  cases (q0h (xs.getD i.toNat eS.dflt) (cs.getD j.toNat eC.dflt).t).2 != (0:Int) <;> rfl
theorem cmi_ok:∀ b∈q00 Tryz.prog 63,lkey b=14→q02 Tryz.prog b (cmi_C cmi_I cmi_M).g:=by
 refine quz cmi_I cmi_M (fun g hi=>?_) (q06 (fun _=>rfl) (fun _=>rfl) qyl cmi_P)
 obtain ⟨xs,i,cs,j,o,⟨⟩,e⟩:=g
 obtain ⟨h1,h2,h3,h4,h6,h7,h8,h9⟩:=hi _ (List.mem_cons_self ..)
 have h3:0≤i:=h3
 have h4:i≤(xs.length:Int):=h4
 have h6:xs.length≤1000000:=h6
 have h7:(o.length:Int)≤i+1000000:=h7
 have h8:0≤j:=h8
 have h9:j<(cs.length:Int):=h9
 have hm:o.length+1≤maxLen:=by unfold maxLen;omega
 have hb:(o.length+1) * 48≤140737488355328:=by omega
 show qj4 xs i cs j o () e
 unfold qj4
 simp only[El.okL_eq,El.ag_eq,byt47]
 refine ⟨fun hlt=>?_,fun _=>?_⟩
 ·have hr:=rngP i _ _ rfl h3 hlt
  repeat' (first | exact hr | exact hm | exact hb | exact h8 | exact h9 | apply And.intro | intro _)
  all_goals first | trivial | rfl | omega
 ·repeat' (first | apply And.intro | intro _)
  all_goals first | trivial | rfl | omega
def ltM44:LTab Tryz.prog:=(ltM39.cons 22 18 (fri_C fri_I fri_M) fri_ok).cons 63 14 (cmi_C cmi_I cmi_M) cmi_ok
abbrev qrn:Lam:=ltM44.lam
theorem qkb:∀ f k L,qrn f k=some L→∀ b∈q00 Tryz.prog f,lkey b=k→q02 Tryz.prog b L.g:=ltM44.ok
end
end Go.Proofs.YthnojkbkojpadaaGreat

namespace Go.Proofs.YthnojkbkojpadaaGreat
noncomputable section
open Go.RowKit Go.Sx
set_option linter.unusedVariables false
def q6q (cs:List q0j) (n:Int) (i:Int) (m:MPz) (_u:Unit) (p:Place) (tb:TBt) (o:List T) (_v:Unit) (er:Int):Nat:=
 kfind (fun e=>(cs.getD i.toNat eC.dflt).p.node==(List.getD m e (eP.pair eI).dflt).fst.node&&(cs.getD i.toNat eC.dflt).p.port==(List.getD m e (eP.pair eI).dflt).fst.port) (List.length m) (0:Nat)
def q2s (cs:List q0j) (n:Int) (i:Int) (m:MPz) (_u:Unit) (p:Place) (tb:TBt) (o:List T) (_v:Unit) (er:Int):Nat:=
 kfind (fun e=>(cs.getD i.toNat eC.dflt).p.node==(tb.fst.fst.getD e (eEn.ent eLS).dflt).fst.fst.node&&((cs.getD i.toNat eC.dflt).p.port==(tb.fst.fst.getD e (eEn.ent eLS).dflt).fst.fst.port&&(p.node==(tb.fst.fst.getD e (eEn.ent eLS).dflt).fst.snd.node&&p.port==(tb.fst.fst.getD e (eEn.ent eLS).dflt).fst.snd.port))) tb.fst.fst.length (0:Nat)
def q4k (cs:List q0j) (n:Int) (i:Int) (m:MPz) (_u:Unit) (p:Place) (tb:TBt) (o:List T) (_v:Unit) (er:Int):Ex ×
 fri_G:=
 loopF (fun g=>fri_R g.fst g.snd.fst g.snd.snd.fst g.snd.snd.snd.fst g.snd.snd.snd.snd.fst g.snd.snd.snd.snd.snd.fst g.snd.snd.snd.snd.snd.snd.fst g.snd.snd.snd.snd.snd.snd.snd) fri_M (eS.lst (bif decide ((q2s cs n i m _u p tb o _v er)<tb.fst.fst.length) then (tb.fst.fst.getD (q2s cs n i m _u p tb o _v er) (eEn.ent eLS).dflt).snd.fst.length else (0:Nat)) (eS.els (tb.fst.fst.getD (q2s cs n i m _u p tb o _v er) (eEn.ent eLS).dflt).snd.fst),(↑(bif decide ((q2s cs n i m _u p tb o _v er)<tb.fst.fst.length) then (tb.fst.fst.getD (q2s cs n i m _u p tb o _v er) (eEn.ent eLS).dflt).snd.fst.length else (0:Nat)):Int),(0:Int),(),cs.getD i.toNat eC.dflt,eT.ag o,(),er)
abbrev fro_G:Type:=List q0j×Int×Int×MPz×Unit×Place×TBt×List T×Unit×Int
def qxl:LP 4 fro_G:=.pair (.slot 4 43 dLC) (.pair (.slot 4 44 dI) (.pair (.slot 4 45 dI) (.pair (.slot 4 9 dMP) (.pair (.fix 4 4 (.p 0 0)) (.pair (.obj 4 0 24 eP) (.pair (.ct 4 13 (CT.ptr 113 cTb) rfl) (.pair (.row 4 14 47 eT) (.pair (.fix 4 6 (.k (.slice none 0 0))) (.slot 4 7 dI)))))))))
def fro_R (cs:List q0j) (n:Int) (i:Int) (m:MPz) (_u:Unit) (p:Place) (tb:TBt) (o:List T) (_v:Unit) (er:Int):Ex×fro_G:=
 bif decide (i<n) then bif decide ((cs.getD i.toNat eC.dflt).n≤(0:Int)) then (Ex.normal,eC.ag cs,n,IntKind.i64.wrap (i+(1:Int)),(eP.pair eI).ag m,(),p,(((eEn.ent eLS).ag tb.fst.fst,tb.fst.snd),eP.ag tb.snd),eT.ag o,(),er) else bif !decide ((q6q cs n i m _u p tb o _v er)<List.length m)||(q0e (cs.getD i.toNat eC.dflt).t != (0:Int)||(cs.getD i.toNat eC.dflt).t.d != bif decide ((q6q cs n i m _u p tb o _v er)<List.length m) then (List.getD m (q6q cs n i m _u p tb o _v er) (eP.pair eI).dflt).snd else (0:Int)) then (Ex.ret,eC.ag cs,n,i,(eP.pair eI).ag m,(),p,(((eEn.ent eLS).ag tb.fst.fst,tb.fst.snd),eP.ag tb.snd),eT.ag o,(),(110:Int)) else bif exB Ex.ret (q4k cs n i m _u p tb o _v er).fst then (Ex.ret,eC.ag cs,n,i,(eP.pair eI).ag m,(),p,(((eEn.ent eLS).ag tb.fst.fst,tb.fst.snd),eP.ag tb.snd),eT.ag (q4k cs n i m _u p tb o _v er).snd.snd.snd.snd.snd.snd.fst,(),(q4k cs n i m _u p tb o _v er).snd.snd.snd.snd.snd.snd.snd.snd) else (Ex.normal,eC.ag cs,n,IntKind.i64.wrap (i+(1:Int)),(eP.pair eI).ag m,(),p,(((eEn.ent eLS).ag tb.fst.fst,tb.fst.snd),eP.ag tb.snd),eT.ag (q4k cs n i m _u p tb o _v er).snd.snd.snd.snd.snd.snd.fst,(),(q4k cs n i m _u p tb o _v er).snd.snd.snd.snd.snd.snd.snd.snd)
 else (Ex.exit (0:Nat),eC.ag cs,n,i,(eP.pair eI).ag m,(),p,(((eEn.ent eLS).ag tb.fst.fst,tb.fst.snd),eP.ag tb.snd),eT.ag o,(),er)
def qie (cs:List q0j) (n:Int) (i:Int) (m:MPz) (_u:Unit) (p:Place) (tb:TBt) (o:List T) (_v:Unit) (er:Int):Prop:=
 (decide (i<n)=true→((0:Int)≤i∧i<(↑cs.length:Int))∧(decide ((cs.getD i.toNat eC.dflt).n≤(0:Int))=true→eC.okL cs∧(eP.pair eI).okL m∧(∀ (e:Nat),e<tb.fst.fst.length→∀ (p:Prop),p∈[]++[]++([]++[])++([eS.okL (tb.fst.fst.getD e (eEn.ent eLS).dflt).snd.fst]++[])→p)∧tb.snd.length≤tb.snd.length∧(∀ (e:Nat),e<tb.snd.length→True)∧o.length≤o.length∧∀ (e:Nat),e<o.length→True)∧(decide ((cs.getD i.toNat eC.dflt).n≤(0:Int))=false→(∀ (e:Nat),e<List.length m→True)∧((!decide ((q6q cs n i m _u p tb o _v er)<List.length m)||(q0e (cs.getD i.toNat eC.dflt).t != (0:Int)||(cs.getD i.toNat eC.dflt).t.d != bif decide ((q6q cs n i m _u p tb o _v er)<List.length m) then (List.getD m (q6q cs n i m _u p tb o _v er) (eP.pair eI).dflt).snd else (0:Int)))=true→eC.okL cs∧(eP.pair eI).okL m∧(∀ (e:Nat),e<tb.fst.fst.length→∀ (p:Prop),p∈[]++[]++([]++[])++([eS.okL (tb.fst.fst.getD e (eEn.ent eLS).dflt).snd.fst]++[])→p)∧tb.snd.length≤tb.snd.length∧(∀ (e:Nat),e<tb.snd.length→True)∧o.length≤o.length∧∀ (e:Nat),e<o.length→True)∧((!decide ((q6q cs n i m _u p tb o _v er)<List.length m)||(q0e (cs.getD i.toNat eC.dflt).t != (0:Int)||(cs.getD i.toNat eC.dflt).t.d != bif decide ((q6q cs n i m _u p tb o _v er)<List.length m) then (List.getD m (q6q cs n i m _u p tb o _v er) (eP.pair eI).dflt).snd else (0:Int)))=false→(∀ (e:Nat),e<tb.fst.fst.length→(6:Nat)=(6:Nat))∧(∀ (e:Nat),e<tb.fst.fst.length→True)∧(∀ (e:Nat),(e<bif decide ((q2s cs n i m _u p tb o _v er)<tb.fst.fst.length) then (tb.fst.fst.getD (q2s cs n i m _u p tb o _v er) (eEn.ent eLS).dflt).snd.fst.length else (0:Nat))→eS.Ok (eS.els (tb.fst.fst.getD (q2s cs n i m _u p tb o _v er) (eEn.ent eLS).dflt).snd.fst e))∧o.length≤o.length∧(∀ (e:Nat),e<o.length→True)∧Lp.ixJ (fun c=>c.snd.fst) (fun c=>c.fst) fri_K (fri_f (eS.lst (bif decide ((q2s cs n i m _u p tb o _v er)<tb.fst.fst.length) then (tb.fst.fst.getD (q2s cs n i m _u p tb o _v er) (eEn.ent eLS).dflt).snd.fst.length else (0:Nat)) (eS.els (tb.fst.fst.getD (q2s cs n i m _u p tb o _v er) (eEn.ent eLS).dflt).snd.fst),(↑(bif decide ((q2s cs n i m _u p tb o _v er)<tb.fst.fst.length) then (tb.fst.fst.getD (q2s cs n i m _u p tb o _v er) (eEn.ent eLS).dflt).snd.fst.length else (0:Nat)):Int),(0:Int),(),cs.getD i.toNat eC.dflt,eT.ag o,(),er))∧(exB Ex.ret (q4k cs n i m _u p tb o _v er).fst=true→eC.okL cs∧(eP.pair eI).okL m∧(∀ (e:Nat),e<tb.fst.fst.length→∀ (p:Prop),p∈[]++[]++([]++[])++([eS.okL (tb.fst.fst.getD e (eEn.ent eLS).dflt).snd.fst]++[])→p)∧tb.snd.length≤tb.snd.length∧(∀ (e:Nat),e<tb.snd.length→True)∧(q4k cs n i m _u p tb o _v er).snd.snd.snd.snd.snd.snd.fst.length≤(q4k cs n i m _u p tb o _v er).snd.snd.snd.snd.snd.snd.fst.length∧∀ (e:Nat),e<(q4k cs n i m _u p tb o _v er).snd.snd.snd.snd.snd.snd.fst.length→True)∧(exB Ex.ret (q4k cs n i m _u p tb o _v er).fst=false→eC.okL cs∧(eP.pair eI).okL m∧(∀ (e:Nat),e<tb.fst.fst.length→∀ (p:Prop),p∈[]++[]++([]++[])++([eS.okL (tb.fst.fst.getD e (eEn.ent eLS).dflt).snd.fst]++[])→p)∧tb.snd.length≤tb.snd.length∧(∀ (e:Nat),e<tb.snd.length→True)∧(q4k cs n i m _u p tb o _v er).snd.snd.snd.snd.snd.snd.fst.length≤(q4k cs n i m _u p tb o _v er).snd.snd.snd.snd.snd.snd.fst.length∧∀ (e:Nat),e<(q4k cs n i m _u p tb o _v er).snd.snd.snd.snd.snd.snd.fst.length→True))))∧(decide (i<n)=false→eC.okL cs∧(eP.pair eI).okL m∧(∀ (e:Nat),e<tb.fst.fst.length→∀ (p:Prop),p∈[]++[]++([]++[])++([eS.okL (tb.fst.fst.getD e (eEn.ent eLS).dflt).snd.fst]++[])→p)∧tb.snd.length≤tb.snd.length∧(∀ (e:Nat),e<tb.snd.length→True)∧o.length≤o.length∧∀ (e:Nat),e<o.length→True)
theorem fro_one:((q00 Tryz.prog 22).filter fun c=>Nat.beq (lkey c) 11).length=1:=by kernel_rfl
abbrev q6r:Type:=List q0j×Int×MPz×Place×TBt
abbrev qfk:Type:=Unit×List T×Unit×Int
def fro_f (g:fro_G):Int×q6r×qfk:=(g.2.2.1,(g.1,g.2.1,g.2.2.2.1,g.2.2.2.2.2.1,g.2.2.2.2.2.2.1),(g.2.2.2.2.1,g.2.2.2.2.2.2.2.1,g.2.2.2.2.2.2.2.2.1,g.2.2.2.2.2.2.2.2.2))
def fro_g (d:Int×q6r×qfk):fro_G:=(d.2.1.1,d.2.1.2.1,d.1,d.2.1.2.2.1,d.2.2.1,d.2.1.2.2.2.1,d.2.1.2.2.2.2,d.2.2.2.1,d.2.2.2.2.1,d.2.2.2.2.2)
abbrev qfj (g:fro_G):Ex×fro_G:=fro_R g.1 g.2.1 g.2.2.1 g.2.2.2.1 g.2.2.2.2.1 g.2.2.2.2.2.1 g.2.2.2.2.2.2.1 g.2.2.2.2.2.2.2.1 g.2.2.2.2.2.2.2.2.1 g.2.2.2.2.2.2.2.2.2
abbrev qxj (g:fro_G):Prop:=qie g.1 g.2.1 g.2.2.1 g.2.2.2.1 g.2.2.2.2.1 g.2.2.2.2.2.1 g.2.2.2.2.2.2.1 g.2.2.2.2.2.2.2.1 g.2.2.2.2.2.2.2.2.1 g.2.2.2.2.2.2.2.2.2
theorem fro_es (g:fro_G):(qfj g).1=.normal∨(qfj g).1∈([.ret,.exit 0]:List Ex):=by
 unfold qfj fro_R
 repeat' (first | (left;rfl) | (right;simp only[cond_true,cond_false];simp;done) | (rw[Bool.cond_eq_ite];split))
abbrev fro_C (Inv:fro_G→List Prop) (m:fro_G→Nat):LCon:=loopR [.ret,.exit 0] (loopBody Tryz.prog 22 11) qxl [] 108 Inv qfj m
theorem quf (Inv:fro_G→List Prop) (m:fro_G→Nat) (hs:∀ g,allP (Inv g)→qxj g) (hg:Goes qfj m fun g=>allP (Inv g)):∀ b∈q00 Tryz.prog 22,lkey b=11→q02 Tryz.prog b (fro_C Inv m).g:=q0g (Γ:=(MTab.gamz q4u [] [])) (Λ:=qrn) (MTab.okz q4u [] []) qkb 100 22 11 108 qxl [] Inv qfj qxj m default [.ret,.exit 0] fro_one (fun rd T B HL HB ds g=>by kernel_rfl) (fun rd T B HL HB ds g=>by kernel_rfl) hs hg fro_es
def q2k (l:List Path) (cs:List q0j) (i:Int) (_u:Unit) (p:Place) (o:List T) (_v:Unit) (er:Int):Ex ×
 cmi_G:=
 loopF (fun g=>cmi_R g.fst g.snd.fst g.snd.snd.fst g.snd.snd.snd.fst g.snd.snd.snd.snd.fst g.snd.snd.snd.snd.snd.fst g.snd.snd.snd.snd.snd.snd) cmi_M (eS.ag (getL (ePa.ag l) (cs.getD i.toNat eC.dflt).p p),(0:Int),eC.ag cs,i,eT.ag o,(),er)
abbrev cmo_G:Type:=List Path×List q0j×Int×Unit×Place×List T×Unit×Int
def qyj:LP 1 cmo_G:=.pair (.slot 1 0 dLP) (.pair (.slot 1 2 dLC) (.pair (.slot 1 11 dI) (.pair (.fix 1 4 (.p 0 0)) (.pair (.obj 1 0 24 eP) (.pair (.row 1 10 47 eT) (.pair (.fix 1 6 (.k (.slice none 0 0))) (.slot 1 7 dI)))))))
def cmo_R (l:List Path) (cs:List q0j) (i:Int) (_u:Unit) (p:Place) (o:List T) (_v:Unit) (er:Int):Ex×cmo_G:=
 bif decide (i<(↑cs.length:Int)) then bif decide ((cs.getD i.toNat eC.dflt).n≤(0:Int)) then (Ex.normal,ePa.ag l,eC.ag cs,IntKind.i64.wrap (i+(1:Int)),(),p,eT.ag o,(),er) else bif !(depL (ePa.ag l) (cs.getD i.toNat eC.dflt).p).snd||(q0y (cs.getD i.toNat eC.dflt).t != (0:Int)||(cs.getD i.toNat eC.dflt).t.d != (depL (ePa.ag l) (cs.getD i.toNat eC.dflt).p).fst) then (Ex.ret,ePa.ag l,eC.ag cs,i,(),p,eT.ag o,(),(110:Int)) else bif exB Ex.ret (q2k l cs i _u p o _v er).fst then (Ex.ret,ePa.ag l,eC.ag (q2k l cs i _u p o _v er).snd.snd.snd.fst,(q2k l cs i _u p o _v er).snd.snd.snd.snd.fst,(),p,eT.ag (q2k l cs i _u p o _v er).snd.snd.snd.snd.snd.fst,(),(q2k l cs i _u p o _v er).snd.snd.snd.snd.snd.snd.snd) else (Ex.normal,ePa.ag l,eC.ag (q2k l cs i _u p o _v er).snd.snd.snd.fst,IntKind.i64.wrap ((q2k l cs i _u p o _v er).snd.snd.snd.snd.fst+(1:Int)),(),p,eT.ag (q2k l cs i _u p o _v er).snd.snd.snd.snd.snd.fst,(),(q2k l cs i _u p o _v er).snd.snd.snd.snd.snd.snd.snd)
 else (Ex.exit (0:Nat),ePa.ag l,eC.ag cs,i,(),p,eT.ag o,(),er)
def qj3 (l:List Path) (cs:List q0j) (i:Int) (_u:Unit) (p:Place) (o:List T) (_v:Unit) (er:Int):Prop:=
 (decide (i<(↑cs.length:Int))=true→((0:Int)≤i∧i<(↑cs.length:Int))∧(decide ((cs.getD i.toNat eC.dflt).n≤(0:Int))=true→ePa.okL l∧eC.okL cs∧o.length≤o.length∧∀ (e:Nat),e<o.length→True)∧(decide ((cs.getD i.toNat eC.dflt).n≤(0:Int))=false→((0:Int)≤i∧i<(↑cs.length:Int))∧ePa.okL l∧((!!(depL (ePa.ag l) (cs.getD i.toNat eC.dflt).p).snd)=true→(0:Int)≤i∧i<(↑cs.length:Int))∧((!!(depL (ePa.ag l) (cs.getD i.toNat eC.dflt).p).snd)=true→(!q0y (cs.getD i.toNat eC.dflt).t != (0:Int))=true→(0:Int)≤i∧i<(↑cs.length:Int))∧((!(depL (ePa.ag l) (cs.getD i.toNat eC.dflt).p).snd||(q0y (cs.getD i.toNat eC.dflt).t != (0:Int)||(cs.getD i.toNat eC.dflt).t.d != (depL (ePa.ag l) (cs.getD i.toNat eC.dflt).p).fst))=true→ePa.okL l∧eC.okL cs∧o.length≤o.length∧∀ (e:Nat),e<o.length→True)∧((!(depL (ePa.ag l) (cs.getD i.toNat eC.dflt).p).snd||(q0y (cs.getD i.toNat eC.dflt).t != (0:Int)||(cs.getD i.toNat eC.dflt).t.d != (depL (ePa.ag l) (cs.getD i.toNat eC.dflt).p).fst))=false→((0:Int)≤i∧i<(↑cs.length:Int))∧ePa.okL l∧Sm (ePa.ag l)∧eS.okL (getL (ePa.ag l) (cs.getD i.toNat eC.dflt).p p)∧eC.okL cs∧o.length≤o.length∧(∀ (e:Nat),e<o.length→True)∧Lp.ixJ (fun c=>(↑c.fst.length:Int)) (fun c=>c.fst) cmi_K (cmi_f (eS.ag (getL (ePa.ag l) (cs.getD i.toNat eC.dflt).p p),(0:Int),eC.ag cs,i,eT.ag o,(),er))∧(exB Ex.ret (q2k l cs i _u p o _v er).fst=true→ePa.okL l∧eC.okL (q2k l cs i _u p o _v er).snd.snd.snd.fst∧(q2k l cs i _u p o _v er).snd.snd.snd.snd.snd.fst.length≤(q2k l cs i _u p o _v er).snd.snd.snd.snd.snd.fst.length∧∀ (e:Nat),e<(q2k l cs i _u p o _v er).snd.snd.snd.snd.snd.fst.length→True)∧(exB Ex.ret (q2k l cs i _u p o _v er).fst=false→ePa.okL l∧eC.okL (q2k l cs i _u p o _v er).snd.snd.snd.fst∧(q2k l cs i _u p o _v er).snd.snd.snd.snd.snd.fst.length≤(q2k l cs i _u p o _v er).snd.snd.snd.snd.snd.fst.length∧∀ (e:Nat),e<(q2k l cs i _u p o _v er).snd.snd.snd.snd.snd.fst.length→True))))∧(decide (i<(↑cs.length:Int))=false→ePa.okL l∧eC.okL cs∧o.length≤o.length∧∀ (e:Nat),e<o.length→True)
theorem cmo_one:((q00 Tryz.prog 63).filter fun c=>Nat.beq (lkey c) 6).length=1:=by kernel_rfl
abbrev q72:Type:=List Path×List q0j×Place
abbrev qgj:Type:=Unit×List T×Unit×Int
def cmo_f (g:cmo_G):Int×q72×qgj:=(g.2.2.1,(g.1,g.2.1,g.2.2.2.2.1),(g.2.2.2.1,g.2.2.2.2.2.1,g.2.2.2.2.2.2.1,g.2.2.2.2.2.2.2))
def cmo_g (d:Int×q72×qgj):cmo_G:=(d.2.1.1,d.2.1.2.1,d.1,d.2.2.1,d.2.1.2.2,d.2.2.2.1,d.2.2.2.2.1,d.2.2.2.2.2)
abbrev qgi (g:cmo_G):Ex×cmo_G:=cmo_R g.1 g.2.1 g.2.2.1 g.2.2.2.1 g.2.2.2.2.1 g.2.2.2.2.2.1 g.2.2.2.2.2.2.1 g.2.2.2.2.2.2.2
abbrev qyh (g:cmo_G):Prop:=qj3 g.1 g.2.1 g.2.2.1 g.2.2.2.1 g.2.2.2.2.1 g.2.2.2.2.2.1 g.2.2.2.2.2.2.1 g.2.2.2.2.2.2.2
theorem cmo_es (g:cmo_G):(qgi g).1=.normal∨(qgi g).1∈([.ret,.exit 0]:List Ex):=by
 unfold qgi cmo_R
 repeat' (first | (left;rfl) | (right;simp only[cond_true,cond_false];simp;done) | (rw[Bool.cond_eq_ite];split))
abbrev cmo_C (Inv:cmo_G→List Prop) (m:cmo_G→Nat):LCon:=loopR [.ret,.exit 0] (loopBody Tryz.prog 63 6) qyj [] 107 Inv qgi m
theorem qux (Inv:cmo_G→List Prop) (m:cmo_G→Nat) (hs:∀ g,allP (Inv g)→qyh g) (hg:Goes qgi m fun g=>allP (Inv g)):∀ b∈q00 Tryz.prog 63,lkey b=6→q02 Tryz.prog b (cmo_C Inv m).g:=q0g (Γ:=(MTab.gamz q4u [] [])) (Λ:=qrn) (MTab.okz q4u [] []) qkb 100 63 6 107 qyj [] Inv qgi qyh m default [.ret,.exit 0] cmo_one (fun rd T B HL HB ds g=>by kernel_rfl) (fun rd T B HL HB ds g=>by kernel_rfl) hs hg cmo_es
end
end Go.Proofs.YthnojkbkojpadaaGreat
