/- Ledger: the counts of a map that is only read, in order. Printed by treegen.py. -/
import Derived.Test.YthnojkbkojpadaaGreatZG109b3eeb
import Derived.Test.YthnojkbkojpadaaGreatZG08de1a2f
import Derived.Test.YthnojkbkojpadaaGreatZG078ff39f
import Derived.Test.YthnojkbkojpadaaGreatZG09529b14
set_option linter.unusedVariables false
set_option linter.unusedSimpArgs false
set_option linter.constructorNameAsVariable false
set_option linter.all false

namespace Go.Proofs.YthnojkbkojpadaaGreat
open Go.RowKit Go.Sx
set_option maxRecDepth 100000
set_option linter.unusedVariables false
abbrev norf_G:Type:=Unit×(List (Ky×Int))×List Change
noncomputable def norf_LP:LP 1 norf_G:=.pair (.fix 1 7 (.p 0 0)) (.pair (.mif 1 0 true false eKy eI) (.row 1 3 59 eC))
noncomputable def norf_R (cs:List Nat) (_u:Unit) (it:List (Ky×Int)) (o:List Change):Ex×norf_G:=
 bif decide (it.length=(0:Nat)) then (Ex.exit (0:Nat),(),(eKy.pair eI).lst it.length ((eKy.pair eI).els it),eC.lst o.length (eC.els o))
 else bif (it.getD ((hdC cs).headD (0:Nat) % it.length) (eKy.pair eI).dflt).snd != (0:Int) then (Ex.normal,(),(eKy.pair eI).lst (min (it.length - (1:Nat)) ((hdC cs).headD (0:Nat) % it.length)) ((eKy.pair eI).els it)++List.drop ((hdC cs).headD (0:Nat) % it.length+(1:Nat)) ((eKy.pair eI).lst ((hdC cs).headD (0:Nat) % it.length+(1:Nat)+(it.length - (1:Nat) - (hdC cs).headD (0:Nat) % it.length)) ((eKy.pair eI).els it)),eC.lst (min (o.length+(1:Nat)) o.length) (eC.els o)++List.map (fun x=>Change.mk (it.getD ((hdC cs).headD (0:Nat) % it.length) (eKy.pair eI).dflt).fst.fst (it.getD ((hdC cs).headD (0:Nat) % it.length) (eKy.pair eI).dflt).fst.snd (it.getD ((hdC cs).headD (0:Nat) % it.length) (eKy.pair eI).dflt).snd) (List.range (o.length+(1:Nat) - o.length))) else (Ex.normal,(),(eKy.pair eI).lst (min (it.length - (1:Nat)) ((hdC cs).headD (0:Nat) % it.length)) ((eKy.pair eI).els it)++List.drop ((hdC cs).headD (0:Nat) % it.length+(1:Nat)) ((eKy.pair eI).lst ((hdC cs).headD (0:Nat) % it.length+(1:Nat)+(it.length - (1:Nat) - (hdC cs).headD (0:Nat) % it.length)) ((eKy.pair eI).els it)),eC.lst o.length (eC.els o))
def norf_side (cs:List Nat) (_u:Unit) (it:List (Ky×Int)) (o:List Change):Prop:=
 (decide (it.length=(0:Nat))=true→(∀ (e:Nat),e<it.length→True)∧o.length≤o.length∧∀ (e:Nat),e<o.length→True)∧(decide (it.length=(0:Nat))=false→(((it.getD ((hdC cs).headD (0:Nat) % it.length) (eKy.pair eI).dflt).snd != (0:Int))=true→(o.length≤o.length∧True∧o.length+(1:Nat)≤maxLen∧(o.length+(1:Nat)) * Tryz.prog.types[(59:Nat)].bytes≤(140737488355328:Nat))∧(∀ (e:Nat),e<min (it.length - (1:Nat)) ((hdC cs).headD (0:Nat) % it.length)→True)∧(∀ (e:Nat),e<(hdC cs).headD (0:Nat) % it.length+(1:Nat)+(it.length - (1:Nat) - (hdC cs).headD (0:Nat) % it.length)→True)∧o.length+(1:Nat)≤o.length+(1:Nat)∧(∀ (e:Nat),e<min (o.length+(1:Nat)) o.length→True)∧∀ (e:Nat),e<o.length+(1:Nat) - o.length→True)∧(((it.getD ((hdC cs).headD (0:Nat) % it.length) (eKy.pair eI).dflt).snd != (0:Int))=false→(∀ (e:Nat),e<min (it.length - (1:Nat)) ((hdC cs).headD (0:Nat) % it.length)→True)∧(∀ (e:Nat),e<(hdC cs).headD (0:Nat) % it.length+(1:Nat)+(it.length - (1:Nat) - (hdC cs).headD (0:Nat) % it.length)→True)∧o.length≤o.length∧∀ (e:Nat),e<o.length→True))
theorem norf_one:((loopsOf Tryz.prog 73).filter fun c=>Nat.beq (lkey c) 3).length=1:=by kernel_rfl
abbrev norf_E:List Ex:=[.exit 0]
theorem norf_es (cs:List Nat) (g:norf_G):(norf_R cs g.1 g.2.1 g.2.2).1=.normal∨(norf_R cs g.1 g.2.1 g.2.2).1∈norf_E:=by
 unfold norf_R
 repeat' (first | (left;rfl) | (right;simp only[cond_true,cond_false];simp;done) | (rw[Bool.cond_eq_ite];split))
noncomputable abbrev norf_F (cs:List Nat) (g:norf_G):Ex×norf_G:=norf_R cs g.1 g.2.1 g.2.2
noncomputable abbrev norf_C (Inv:norf_G→List Prop) (m:norf_G→Nat):LCon:=loopRA norf_E (loopBody Tryz.prog 73 3) norf_LP [] 27 Inv norf_F m
theorem norf_loop (Inv:norf_G→List Prop) (m:norf_G→Nat) (hs:∀ cs g,allP (Inv g)→norf_side cs g.1 g.2.1 g.2.2) (hg:GoesA norf_F m fun g=>allP (Inv g)):∀ b∈loopsOf Tryz.prog 73,lkey b=3→LoopOk Tryz.prog b (norf_C Inv m).g:=loop_runA (Γ:=(MTab.gamz tabN23 [] [])) (Λ:=lamN23) (MTab.okz tabN23 [] []) lamN23_ok 100 73 3 27 norf_LP [] Inv norf_F (fun cs g=>norf_side cs g.1 g.2.1 g.2.2) m default norf_E norf_one (fun rd T B HL HB ds cs g=>by kernel_rfl) (fun rd T B HL HB ds cs g=>by kernel_rfl) hs hg norf_es
end Go.Proofs.YthnojkbkojpadaaGreat

namespace Go.Proofs.YthnojkbkojpadaaGreat
open Go.RowKit Go.Sx Go.Lp
set_option maxRecDepth 100000
theorem erase_lst {α:Type} (A:El α) (it:List α) (k:Nat) (h:k<it.length):A.lst (min (it.length - 1) k) (A.els it)++List.drop (k+1) (A.lst (k+1+(it.length - 1 - k)) (A.els it))=it.eraseIdx k:=by
 rw[show k+1+(it.length - 1 - k)=it.length by omega,A.lst_els,Nat.min_eq_right (by omega),lst_le A it k (by omega),List.eraseIdx_eq_take_drop_succ]
noncomputable def norf_S (e:Ky×Int) (b:List Change):Ex×List Change:=(.normal,bif e.2 != (0:Int) then b++[mkC e.1 e.2] else b)
abbrev norf_I (g:norf_G):List Prop:=[g.2.1.length+g.2.2.length≤KS]
abbrev norf_M (g:norf_G):Nat:=g.2.1.length
def norf_up (_:norf_G) (l:List (Ky×Int)) (b:List Change):norf_G:=((),l,b)
theorem norf_form (cs:List Nat) (g:norf_G) (hi:allP (norf_I g)):((g.2.1.length=0∧norf_F cs g=(.exit 0,g))∨∃ e,g.2.1[(hdC cs).headD 0 % g.2.1.length]?=some e∧norf_F cs g=((norf_S e g.2.2).1,norf_up g (g.2.1.eraseIdx ((hdC cs).headD 0 % g.2.1.length)) (norf_S e g.2.2).2))∧norf_side cs g.1 g.2.1 g.2.2:=by
 obtain ⟨⟨⟩,it,o⟩:=g
 have h:it.length+o.length≤KS:=hi _ (List.mem_cons_self ..)
 unfold KS at h
 refine ⟨?_,?_⟩
 ·show (it.length=0∧norf_R cs () it o=_)∨_
  unfold norf_R
  by_cases h0:it.length=0
  ·rw[decide_eq_true h0]
   simp only[cond_true,El.lst_els]
   exact .inl ⟨h0,trivial⟩
  ·have hk:(hdC cs).headD 0 % it.length<it.length:=Nat.mod_lt _ (by omega)
   refine .inr ⟨it[(hdC cs).headD 0 % it.length],by rw[List.getElem?_eq_getElem hk],?_⟩
   show norf_R cs () it o=_
   unfold norf_R norf_S
   rw[decide_eq_false h0]
   have hg:it.getD ((hdC cs).headD 0 % it.length) (eKy.pair eI).dflt=it[(hdC cs).headD 0 % it.length]:=by rw[List.getD_eq_getElem?_getD,List.getElem?_eq_getElem hk];rfl
   rw[hg]
   simp only[cond_false,El.lst_els]
   rw[erase_lst _ it _ hk,lst_snoc]
   cases it[(hdC cs).headD 0 % it.length].2 != (0:Int) <;> rfl
 ·show norf_side cs () it o
  unfold norf_side
  simp only[byt59]
  unfold maxLen
  by_cases h0:it.length=0
  ·rw[decide_eq_true h0]
   exact ⟨fun _=>⟨fun _ _=>trivial,Nat.le_refl _,fun _ _=>trivial⟩,fun h=>(by cases h)⟩
  ·rw[decide_eq_false h0]
   have h1:0<it.length:=by omega
   refine ⟨fun h=>(by cases h),fun _=>?_⟩
   repeat' (first | apply And.intro | intro _)
   all_goals first | trivial | omega
theorem norf_all:GoesA norf_F norf_M (fun g=>allP (norf_I g))∧∀ cs g,allP (norf_I g)→∃ s,loopFA norf_F norf_M cs g=((scanL 0 norf_S (permL g.2.1.length cs g.2.1) g.2.2).1,norf_up g s (scanL 0 norf_S (permL g.2.1.length cs g.2.1) g.2.2).2):=
 mif_loop (st:=norf_S) (rem:=fun g:norf_G=>g.2.1) (bo:=fun g=>g.2.2) (up:=norf_up) (fun _ _ _=>rfl) (fun _ _ _=>rfl) (fun _ _ _ _ _=>rfl) (fun _=>rfl) (fun _=>rfl)
  (fun g i e h he hn=>by
   have h:=h _ (List.mem_cons_self ..)
   intro p hp
   rw[List.mem_singleton.1 hp]
   have hlt:=(List.getElem?_eq_some_iff.1 he).1
   show (g.2.1.eraseIdx i).length+(bif e.2 != (0:Int) then g.2.2++[mkC e.1 e.2] else g.2.2).length≤KS
   rw[List.length_eraseIdx_of_lt hlt]
   cases e.2 != (0:Int) <;> simp <;> omega)
  fun cs g h=>(norf_form cs g h).1
theorem norf_lok:∀ b∈loopsOf Tryz.prog 73,lkey b=3→LoopOk Tryz.prog b (norf_C norf_I norf_M).g:=
 norf_loop norf_I norf_M (fun cs g hi=>(norf_form cs g hi).2) norf_all.1
noncomputable def norf_f (cs:List Nat) (g:norf_G):Ex×norf_G:=((scanL 0 norf_S (permL g.2.1.length cs g.2.1) g.2.2).1,norf_up g (loopFA norf_F norf_M cs g).2.2.1 (scanL 0 norf_S (permL g.2.1.length cs g.2.1) g.2.2).2)
noncomputable abbrev norf_C2:LCon:=loopRC norf_E (loopBody Tryz.prog 73 3) norf_LP [] 27 norf_I norf_f
theorem norf_ok2:∀ b∈loopsOf Tryz.prog 73,lkey b=3→LoopOk Tryz.prog b norf_C2.g:=fun b hb hk=>
 loop_quotC (fun _ h=>h) (fun g hi cs=>⟨cs,by
  obtain ⟨s,hs⟩:=norf_all.2 cs g hi
  unfold norf_f
  rw[hs];rfl⟩) (norf_lok b hb hk)
noncomputable def ltO2:LTab Tryz.prog:=ltN22.cons 73 3 norf_C2 norf_ok2
noncomputable abbrev lamO2:Lam:=ltO2.lam
theorem lamO2_ok:∀ f k L,lamO2 f k=some L→∀ b∈loopsOf Tryz.prog f,lkey b=k→LoopOk Tryz.prog b L.g:=ltO2.ok
end Go.Proofs.YthnojkbkojpadaaGreat

namespace Go.Proofs.YthnojkbkojpadaaGreat
open Go.RowKit Go.Sx
set_option maxRecDepth 100000
set_option linter.unusedVariables false
abbrev dMK:Dv (List (Ky×Int)):=.map true false eKy eI
abbrev aMK:DA (List (Ky×Int)):=.one dMK
noncomputable def ord_q1 (cs:List Nat) (m:List (Ky×Int)):Ex×norf_G:=
 norf_f (hdC cs) ((),(eKy.pair eI).lst m.length ((eKy.pair eI).els m),[])
noncomputable def ord_F (cs:List Nat) (m:List (Ky×Int)):List (Change):=
 eC.lst (srtBy (fun a b=>lcm_F a b) (eC.lst (ord_q1 cs m).snd.snd.snd.length (eC.els (ord_q1 cs m).snd.snd.snd))).length (eC.els (srtBy (fun a b=>lcm_F a b) (eC.lst (ord_q1 cs m).snd.snd.snd.length (eC.els (ord_q1 cs m).snd.snd.snd))))
def ord_side (cs:List Nat) (m:List (Ky×Int)):Prop:=
 (∀ (e:Nat),e<m.length→True)∧((eKy.pair eI).lst m.length ((eKy.pair eI).els m)).length+(0:Nat)≤KS∧(ord_q1 cs m).snd.snd.snd.length=(ord_q1 cs m).snd.snd.snd.length∧(∀ (e:Nat),e<(ord_q1 cs m).snd.snd.snd.length→True)∧(eC.lst (ord_q1 cs m).snd.snd.snd.length (eC.els (ord_q1 cs m).snd.snd.snd)).length<(4611686018427387904:Nat)∧Anti (fun a b=>lcm_F a b) (eC.lst (ord_q1 cs m).snd.snd.snd.length (eC.els (ord_q1 cs m).snd.snd.snd))∧(ord_q1 cs m).snd.snd.snd.length=(srtBy (fun a b=>lcm_F a b) (eC.lst (ord_q1 cs m).snd.snd.snd.length (eC.els (ord_q1 cs m).snd.snd.snd))).length∧∀ (e:Nat),e<(srtBy (fun a b=>lcm_F a b) (eC.lst (ord_q1 cs m).snd.snd.snd.length (eC.els (ord_q1 cs m).snd.snd.snd))).length→True
theorem ord_okA (fn:DA.T aMK→List (Change)) (pre:DA.T aMK→List Prop) (h:∀ cs g,DA.bd aMK g→(∀ p∈pre g,p)→ord_side cs g∧ord_F cs g=fn g):FnRow Tryz.prog 73 59 eC aMK fn pre:=row_of_sideA (Γ:=(MTab.gamz tabN23 [] [])) (Λ:=lamO2) (MTab.okz tabN23 [] []) lamO2_ok 100 default (fun cs g=>ord_side cs g) (fun cs g=>ord_F cs g) (fun cs g=>by kernel_rfl) (fun cs g=>by kernel_rfl) h
end Go.Proofs.YthnojkbkojpadaaGreat

namespace Go.Proofs.YthnojkbkojpadaaGreat
open Go.RowKit Go.Sx Go.Lp Go.Sort
set_option maxRecDepth 100000
def mkE (e:Ky×Int):Change:=mkC e.1 e.2
def outF (m:List (Ky×Int)):List Change:=(m.filter fun e=>e.2 != (0:Int)).map mkE
noncomputable def ordC (m:List (Ky×Int)):List Change:=totC (outF m)
def KdM (m:List (Ky×Int)):Prop:=m.Pairwise fun a b=>a.1≠b.1
theorem outF_kd {m:List (Ky×Int)} (h:KdM m):(outF m).Pairwise fun a b=>keyC a≠keyC b:=List.pairwise_map.2 ((List.Pairwise.sublist List.filter_sublist h).imp fun {a b} hab=>hab)
theorem tot_kd {xs:List Change} (h:xs.Pairwise fun a b=>keyC a≠keyC b) (y:Change):y∈totC xs↔y∈xs:=by
 rw[totC_mem]
 constructor
 ·rintro ⟨⟨x,hx,hk⟩,hn⟩
  have:=sumK_one keyC Change.n h hx
  have he:x=y:=extC x y hk (by rw[hn,← hk];exact this.symm)
  rw[← he];exact hx
 ·intro hy
  exact ⟨⟨y,hy,rfl⟩,(sumK_one keyC Change.n h hy).symm⟩
theorem srt_kd {xs:List Change} (h:xs.Pairwise fun a b=>keyC a≠keyC b):SrtC (srtBy cfC xs):=by
 have hs:=srtBy_sorted cfC swoC xs
 have hd:(srtBy cfC xs).Pairwise fun a b=>keyC a≠keyC b:=(List.Perm.pairwise_iff (fun h=>Ne.symm h) (srtBy_perm cfC _)).2 h
 exact (hs.and hd).imp fun {a b} hab=>Classical.byContradiction fun hn=>by
  have h3:=hab.1
  simp only[cfC,lcm_lex] at h3
  exact h3 (toK.lt_or hab.2 hn)
theorem srt_tot {xs ys:List Change} (h:ys.Pairwise fun a b=>keyC a≠keyC b) (hp:xs.Perm ys):srtBy cfC xs=totC ys:=by
 have hx:xs.Pairwise fun a b=>keyC a≠keyC b:=(List.Perm.pairwise_iff (fun h=>Ne.symm h) hp).2 h
 refine srt_unique keyC Change.n lexK toK extC (srt_kd hx) (totC_srt ys) fun y=>?_
 rw[tot_kd h,(srtBy_perm cfC xs).mem_iff,hp.mem_iff]
theorem anti_kd {xs:List Change} (h:xs.Pairwise fun a b=>keyC a≠keyC b):Anti cfC xs:=fun x hx y hy k1 k2=>by
 simp only[cfC,lcm_lex] at k1 k2
 have hk:keyC x=keyC y:=toK.anti _ _ k1 k2
 have h1:=sumK_one keyC Change.n h hx
 have h2:=sumK_one keyC Change.n h hy
 rw[hk] at h1
 exact extC _ _ hk (h1.symm.trans h2)
theorem norf_scan:∀ (l:List (Ky×Int)) (b:List Change),scanL 0 norf_S l b=(.exit 0,b++outF l)
 | [],b=>by simp[scanL,outF]
 | e :: l,b=>by
  show scanL 0 norf_S l (bif e.2 != (0:Int) then b++[mkC e.1 e.2] else b)=_
  rw[norf_scan l]
  unfold outF
  rw[List.filter_cons]
  cases h:e.2 != (0:Int) with
  | true=>simp[mkE]
  | false=>simp
theorem outF_len (m:List (Ky×Int)):(outF m).length≤m.length:=by
 unfold outF
 rw[List.length_map]
 exact List.length_filter_le _ _
theorem ord_eq (cs:List Nat) (m:List (Ky×Int)) (h1:m.length≤KS) (h2:KdM m):ord_side cs m∧ord_F cs m=ordC m:=by
 have hP:(permL m.length (hdC cs) m).Perm m:=permL_perm _ _ _ rfl
 have hq:(ord_q1 cs m).2.2.2=outF (permL m.length (hdC cs) m):=by
  unfold ord_q1 norf_f norf_up
  simp only[El.lst_els]
  rw[norf_scan]
  rfl
 have hp2:(outF (permL m.length (hdC cs) m)).Perm (outF m):=(hP.filter _).map _
 have hkd:=outF_kd h2
 have hkd2:(outF (permL m.length (hdC cs) m)).Pairwise fun a b=>keyC a≠keyC b:=(List.Perm.pairwise_iff (fun h=>Ne.symm h) hp2).2 hkd
 have hl:=outF_len m
 have hl2:=hp2.length_eq
 unfold ord_side ord_F
 rw[hq]
 generalize outF (permL m.length (hdC cs) m)=o at hp2 hkd2 hl2
 simp only[El.lst_els]
 rw[show (fun a b=>lcm_F a b)=cfC from rfl]
 unfold KS at h1
 refine ⟨⟨fun _ _=>trivial,by unfold KS;omega,trivial,fun _ _=>trivial,by omega,anti_kd hkd2,((srtBy_perm cfC o).length_eq).symm,fun _ _=>trivial⟩,?_⟩
 exact srt_tot hkd hp2
theorem ord_c:FnRow Tryz.prog 73 59 eC aMK ordC (fun m=>[m.length≤KS,KdM m]):=
 ord_okA ordC _ fun cs m _ hp=>ord_eq cs m (hp _ (List.mem_cons_self ..)) (hp _ (List.mem_cons_of_mem _ (List.mem_cons_self ..)))
theorem pusC (r:Change):Pus (eC.cells r):=pus_cons (pu_v _) (pus_cons (pu_v _) (pus_cons (pu_v _) (pus_cons (pu_v _) (pus_append (pus4 _ _ _ _) (pus_cons (pu_v _) pus_nil)))))
end Go.Proofs.YthnojkbkojpadaaGreat

namespace Go.Proofs.YthnojkbkojpadaaGreat
open Go.RowKit Go.Sx Go.Lp
set_option maxRecDepth 100000
abbrev fr1_P (g:List Path×Place×List Change):Prop:=g=([pa0],p0,[ch0])∨g=([pa0],p0,[])
def fr1_f (g:List Path×Place×List Change):List T×Int:=(bif g.2.2.isEmpty then [] else [t3],0)
theorem fr1_c:FnPure Tryz.prog 22 aLPcD dLTE fr1_f (fun g=>[fr1_P g]):=pure_of_tree (MTab.okz tabV24 [(4000000,0)] []) noΛ_ok 100 fun g _ hp=>by
 rcases hp _ (List.mem_cons_self ..) with rfl | rfl
 ·exact fr1h
 ·exact fr0h
abbrev dp1_f (_:List Path):MPd0:=([(p0,0,0)],1)
theorem dp1_c:FnT Tryz.prog 88 TA.nil aLPoC (trM true false eP eI) (fun _ l=>((),dp1_f l)) (fun _ l=>[l=[pa0]]):=T_of_tree (MTab.okz tabV24 [(4000000,0)] []) noΛ_ok 100 fun u g _ hp=>by
 have e:g=[pa0]:=hp _ (List.mem_cons_self ..)
 subst e
 have h:tDp.Holds (·=((),dp1_f [pa0])):=dp_h
 exact h
theorem pusPe0 (a:MpE Place Int):Pus ((eP.ent eI).cells a):=pus_cons (pu_v _) (pus_cons (pu_v _) (pus_cons (pu_v _) (pus_cons (pu_v _) pus_nil)))
noncomputable def tabV27:MTab Tryz.prog:=tabV24.consM 88 (bconMapV true false eP eI aLPoC dp1_f (fun l=>[l=[pa0]])) (conMapV_ok pusPe0 dp1_c)
abbrev taL1:TA LdK:=.one 89 cLd0
abbrev lk0:LdK:=([pa0],[(p0,0)],[],0)
abbrev lk1:LdK:=([pa0],[(p0,0)],[((p0,t3),1,0)],1)
abbrev lk2:LdK:=([pa0],[(p0,0)],[],1)
abbrev aLC1:DA (List Change):=.one (.listB eC)
abbrev aP1:DA Place:=.one dP
noncomputable abbrev tNw2:Tr (Unit×(Option LdK×Int)):=tTree Tryz.prog (MTab.gamz tabV27 [(4000000,0)] []) noΛ 100 34 TA.nil trN0 () (DA.enc aLPoC [pa0])
noncomputable def tabV27n:MTab Tryz.prog:=(MTab.of PTab.nil).cons 29 (pconR aLC1 dLCE netC (fun xs=>[xs.length≤KS])) (conR_ok netf_ok)
noncomputable abbrev tTk1:Tr (LdK×Int):=tTree Tryz.prog (MTab.gamz tabV27n [(4000000,0)] []) noΛ 100 35 taL1 (TR.pure dI) lk0 (DA.enc aLC1 [ch0])
noncomputable abbrev tTk2:Tr (LdK×Int):=tTree Tryz.prog (MTab.gamz tabV27n [(4000000,0)] []) noΛ 100 35 taL1 (TR.pure dI) lk1 (DA.enc aLC1 [ch1])
noncomputable def tabV27f:MTab Tryz.prog:=((MTab.of PTab.nil).consM 73 (bconRowV 59 eC aMK ordC (fun m=>[m.length≤KS,KdM m])) (conRowV_ok pusC ord_c)).consM 22 (fconR aLPcD dLTE fr1_f (fun g=>[fr1_P g])) (fconR_ok fr1_c)
noncomputable abbrev tFm1:Tr (LdK×(List T×Int)):=tTree Tryz.prog (MTab.gamz tabV27f [(4000000,0)] []) noΛ 100 36 taL1 (TR.pure dLTE) lk1 (DA.enc aP1 p0)
noncomputable abbrev tFm2:Tr (LdK×(List T×Int)):=tTree Tryz.prog (MTab.gamz tabV27f [(4000000,0)] []) noΛ 100 36 taL1 (TR.pure dLTE) lk2 (DA.enc aP1 p0)
end Go.Proofs.YthnojkbkojpadaaGreat

namespace Go.Proofs.YthnojkbkojpadaaGreat
open Go.RowKit Go.Sx Go.Lp
set_option maxRecDepth 100000
abbrev lm0:Prop:=(0:Int)≤(0:Int)∧(0:Int)<(1:Int)
theorem lm0p:lm0:=by decide
abbrev lm1:Prop:=(0:Nat)<(1:Nat)
theorem lm1p:lm1:=by decide
abbrev lm2:Prop:=∀ (e:Nat),e<(1:Nat)→eS.Ok (eS.els [S.mk (0:Int) (0:Int) (0:Int) (0:Int) (0:Int) (0:Int) (0:Int) (0:Int)] e)
theorem lm2p:lm2:=fun _ _=>El.ok_els _ _ _
abbrev lm3:Prop:=(1:Nat)≤(1000000:Nat)
theorem lm3p:lm3:=by decide
abbrev lm4:Prop:=(1:Nat)≤(1:Nat)
theorem lm4p:lm4:=by decide
abbrev lm5:Prop:=[Path.mk (Place.mk (1:Int) (2:Int)) (Place.mk (1:Int) (2:Int)) [S.mk (0:Int) (0:Int) (0:Int) (0:Int) (0:Int) (0:Int) (0:Int) (0:Int)]]=[Path.mk (Place.mk (1:Int) (2:Int)) (Place.mk (1:Int) (2:Int)) [S.mk (0:Int) (0:Int) (0:Int) (0:Int) (0:Int) (0:Int) (0:Int) (0:Int)]]
theorem lm5p:lm5:=rfl
abbrev lm6:Prop:=∀ (p:Prop),p∈[]++[]++([]++[]++[∀ (e:Nat),e<(1:Nat)→eS.Ok (eS.els [S.mk (0:Int) (0:Int) (0:Int) (0:Int) (0:Int) (0:Int) (0:Int) (0:Int)] e)])→p
theorem lm6p:lm6:=fun p hp=>al_one (fun _ _=>El.ok_els _ _ _) hp
abbrev lm7:Prop:=∀ (e:Nat),e<(1:Nat)→∀ (p:Prop),p∈[]++[]++([]++[]++[eS.okL ([Path.mk (Place.mk (1:Int) (2:Int)) (Place.mk (1:Int) (2:Int)) [S.mk (0:Int) (0:Int) (0:Int) (0:Int) (0:Int) (0:Int) (0:Int) (0:Int)]].getD e (Path.mk (Place.mk (0:Int) (0:Int)) (Place.mk (0:Int) (0:Int)) [])).ss])→p
theorem lm7p:lm7:=fun _ _ p hp=>al_one (by rw[El.okL_eq];trivial) hp
abbrev lm8:Prop:=∀ (e:Nat),e<(1:Nat)→True
theorem lm8p:lm8:=fun _ _=>trivial
abbrev lm9:Prop:=∀ (e:Nat),e<(0:Nat)→True
theorem lm9p:lm9:=fun _ _=>trivial
abbrev lm10:Prop:=∀ (e:Nat),e<(1:Nat)→ePa.Ok (ePaC.els [Path.mk (Place.mk (1:Int) (2:Int)) (Place.mk (1:Int) (2:Int)) [S.mk (0:Int) (0:Int) (0:Int) (0:Int) (0:Int) (0:Int) (0:Int) (0:Int)]] e)
theorem lm10p:lm10:=fun e he=>by obtain rfl:e=0:=(by omega);exact El.okP (A:=ePa) fun p hp=>al_one (fun e he=>by have he:e<1:=he;obtain rfl:e=0:=(by omega);exact El.okP (A:=eS) trivial) hp
abbrev lm11:Prop:=∀ (e:Nat),e<(0:Nat)→(10:Nat)=(10:Nat)
theorem lm11p:lm11:=fun _ _=>rfl
abbrev lm12:Prop:=(0:Int)=(0:Int)
theorem lm12p:lm12:=by decide
abbrev lm13:Prop:=∀ (e:Nat),e<(1:Nat)→(10:Nat)=(10:Nat)
theorem lm13p:lm13:=fun _ _=>rfl
abbrev lm14:Prop:=∀ (e:Nat),e<(1:Nat)→ePa.Ok (ePa.els [Path.mk (Place.mk (1:Int) (2:Int)) (Place.mk (1:Int) (2:Int)) [S.mk (0:Int) (0:Int) (0:Int) (0:Int) (0:Int) (0:Int) (0:Int) (0:Int)]] e)
theorem lm14p:lm14:=fun _ _=>El.ok_els _ _ _
abbrev lm15:Prop:=∀ (e:Nat),e<(1:Nat)→(eP.pair eI).Ok ((eP.pair eI).els [(Place.mk (1:Int) (2:Int),(0:Int))] e)
theorem lm15p:lm15:=fun _ _=>El.ok_els _ _ _
abbrev lm16:Prop:=True
theorem lm16p:lm16:=trivial
abbrev lm17:Prop:=∀ (e:Nat),e<(1:Nat)→(eKy.pair eI).Ok (List.take (9:Nat) ((ElE.fn ((eKy.ent eI).els [((Place.mk (1:Int) (2:Int),T.mk (3:Int) (0:Int) (0:Int) (0:Int) (0:Int) (0:Int)),(1:Int),(0:Int))])).at e))
theorem lm17p:lm17:=fun _ _=>(ent_ok (K:=eKy) (V:=eI) (El.ok_els _ _ _)).1
abbrev lm18:Prop:=KdM [((Place.mk (1:Int) (2:Int),T.mk (3:Int) (0:Int) (0:Int) (0:Int) (0:Int) (0:Int)),(1:Int))]
theorem lm18p:lm18:=List.pairwise_singleton _ _
abbrev lm19:Prop:=True∧True∧(1:Nat)≤(9223372036854775807:Nat)∧(72:Nat)≤(140737488355328:Nat)
theorem lm19p:lm19:=⟨trivial,trivial,by decide,by decide⟩
abbrev lm20:Prop:=∀ (e:Nat),e<(1:Nat)→eC.Ok ((ElE.app (0:Nat) (ElE.fn fun x=>[]) (ElE.fn fun x=>[SV.v (Value.int IntKind.i64 (1:Int)),SV.v (Value.int IntKind.i64 (2:Int)),SV.v (Value.int IntKind.i64 (3:Int)),SV.v (Value.int IntKind.i64 (0:Int)),SV.v (Value.int IntKind.i64 (0:Int)),SV.v (Value.int IntKind.i64 (0:Int)),SV.v (Value.int IntKind.i64 (0:Int)),SV.v (Value.int IntKind.i64 (0:Int)),SV.v (Value.int IntKind.i64 (1:Int))])).at e)
theorem lm20p:lm20:=fun e he=>by obtain rfl:e=0:=(by omega);exact El.okP (A:=eC) trivial
abbrev lm21:Prop:=fr1_P ([Path.mk (Place.mk (1:Int) (2:Int)) (Place.mk (1:Int) (2:Int)) [S.mk (0:Int) (0:Int) (0:Int) (0:Int) (0:Int) (0:Int) (0:Int) (0:Int)]],Place.mk (1:Int) (2:Int),[Change.mk (Place.mk (1:Int) (2:Int)) (T.mk (3:Int) (0:Int) (0:Int) (0:Int) (0:Int) (0:Int)) (1:Int)])
theorem lm21p:lm21:=.inl rfl
abbrev lm22:Prop:=∀ (e:Nat),e<(1:Nat)→eT.Ok (eT.els [T.mk (3:Int) (0:Int) (0:Int) (0:Int) (0:Int) (0:Int)] e)
theorem lm22p:lm22:=fun _ _=>El.ok_els _ _ _
abbrev lm23:Prop:=∀ (e:Nat),e<(0:Nat)→(eKy.pair eI).Ok (List.take (9:Nat) ((ElE.fn ((eKy.ent eI).els [])).at e))
theorem lm23p:lm23:=fun _ _=>(ent_ok (K:=eKy) (V:=eI) (El.ok_els _ _ _)).1
abbrev lm24:Prop:=(0:Nat)≤(1000000:Nat)
theorem lm24p:lm24:=by decide
abbrev lm25:Prop:=KdM []
theorem lm25p:lm25:=List.Pairwise.nil
abbrev lm26:Prop:=fr1_P ([Path.mk (Place.mk (1:Int) (2:Int)) (Place.mk (1:Int) (2:Int)) [S.mk (0:Int) (0:Int) (0:Int) (0:Int) (0:Int) (0:Int) (0:Int) (0:Int)]],Place.mk (1:Int) (2:Int),[])
theorem lm26p:lm26:=.inr rfl
abbrev lm27:Prop:=∀ (e:Nat),e<(0:Nat)→eT.Ok (eT.els [] e)
theorem lm27p:lm27:=fun _ _=>El.ok_els _ _ _
theorem nw2h0:((tNw2).kOf []).Holds (·=(((),(some lk0,0)):Unit×(Option LdK×Int))):=Tr.leaf_holds default (by rw[show ((tNw2).kOf []).asksC=[lm0,lm1,lm2,lm3,lm0,lm1,lm4,lm5,lm4,lm6,lm7,lm8,lm9] by kernel_rfl];exact al_cons lm0p <| al_cons lm1p <| al_cons lm2p <| al_cons lm3p <| al_cons lm0p <| al_cons lm1p <| al_cons lm4p <| al_cons lm5p <| al_cons lm4p <| al_cons lm6p <| al_cons lm7p <| al_cons lm8p <| al_cons lm9p <| al_nil) (by kernel_rfl)
theorem nw2h1 (x0:Nat) (n0:List Nat):((tNw2).kOf (x0 :: n0)).Holds (·=(((),(some lk0,0)):Unit×(Option LdK×Int))):=Tr.leaf_holds default (by rw[show ((tNw2).kOf (x0 :: n0)).asksC=[lm0,lm1,lm2,lm3,lm0,lm1,lm4,lm5,lm4,lm6,lm7,lm8,lm9] by kernel_rfl];exact al_cons lm0p <| al_cons lm1p <| al_cons lm2p <| al_cons lm3p <| al_cons lm0p <| al_cons lm1p <| al_cons lm4p <| al_cons lm5p <| al_cons lm4p <| al_cons lm6p <| al_cons lm7p <| al_cons lm8p <| al_cons lm9p <| al_nil) (by kernel_rfl)
theorem nw2h:(tNw2).Holds (·=(((),(some lk0,0)):Unit×(Option LdK×Int))):=Tr.kOf_holds (by kernel_rfl) (by rw[show (tNw2).asks1=[lm5,lm10,lm3] by kernel_rfl];exact al_cons lm5p <| al_cons lm10p <| al_cons lm3p <| al_nil) fun n=>match n with
 | []=>nw2h0
 | x0 :: n0=>nw2h1 x0 n0
theorem tk1h0:((tTk1).kOf []).Holds (·=((lk1,0):LdK×Int)):=Tr.leaf_holds default (by rw[show ((tTk1).kOf []).asksC=[lm11,lm9,lm11,lm9,lm12,lm13,lm8,lm14,lm15,lm16,lm8] by kernel_rfl];exact al_cons lm11p <| al_cons lm9p <| al_cons lm11p <| al_cons lm9p <| al_cons lm12p <| al_cons lm13p <| al_cons lm8p <| al_cons lm14p <| al_cons lm15p <| al_cons lm16p <| al_cons lm8p <| al_nil) (by kernel_rfl)
theorem tk1h1 (x0:Nat) (n0:List Nat):((tTk1).kOf (x0 :: n0)).Holds (·=((lk1,0):LdK×Int)):=Tr.leaf_holds default (by rw[show ((tTk1).kOf (x0 :: n0)).asksC=[lm11,lm9,lm13,lm8,lm12,lm13,lm8,lm14,lm15,lm16,lm8] by kernel_rfl];exact al_cons lm11p <| al_cons lm9p <| al_cons lm13p <| al_cons lm8p <| al_cons lm12p <| al_cons lm13p <| al_cons lm8p <| al_cons lm14p <| al_cons lm15p <| al_cons lm16p <| al_cons lm8p <| al_nil) (by kernel_rfl)
theorem tk1h:(tTk1).Holds (·=((lk1,0):LdK×Int)):=Tr.kOf_holds (by kernel_rfl) (by rw[show (tTk1).asks1=[lm3,lm0,lm11,lm9,lm0] by kernel_rfl];exact al_cons lm3p <| al_cons lm0p <| al_cons lm11p <| al_cons lm9p <| al_cons lm0p <| al_nil) fun n=>match n with
 | []=>tk1h0
 | x0 :: n0=>tk1h1 x0 n0
theorem tk2h0:((tTk2).kOf []).Holds (·=((lk2,0):LdK×Int)):=Tr.leaf_holds default (by rw[show ((tTk2).kOf []).asksC=[lm13,lm8,lm13,lm8,lm12,lm13,lm8,lm13,lm8,lm14,lm15,lm16,lm9,lm16,lm8] by kernel_rfl];exact al_cons lm13p <| al_cons lm8p <| al_cons lm13p <| al_cons lm8p <| al_cons lm12p <| al_cons lm13p <| al_cons lm8p <| al_cons lm13p <| al_cons lm8p <| al_cons lm14p <| al_cons lm15p <| al_cons lm16p <| al_cons lm9p <| al_cons lm16p <| al_cons lm8p <| al_nil) (by kernel_rfl)
theorem tk2h1 (x0:Nat) (n0:List Nat):((tTk2).kOf (x0 :: n0)).Holds (·=((lk2,0):LdK×Int)):=Tr.leaf_holds default (by rw[show ((tTk2).kOf (x0 :: n0)).asksC=[lm13,lm8,lm13,lm8,lm12,lm13,lm8,lm13,lm8,lm14,lm15,lm16,lm9,lm16,lm8] by kernel_rfl];exact al_cons lm13p <| al_cons lm8p <| al_cons lm13p <| al_cons lm8p <| al_cons lm12p <| al_cons lm13p <| al_cons lm8p <| al_cons lm13p <| al_cons lm8p <| al_cons lm14p <| al_cons lm15p <| al_cons lm16p <| al_cons lm9p <| al_cons lm16p <| al_cons lm8p <| al_nil) (by kernel_rfl)
theorem tk2h:(tTk2).Holds (·=((lk2,0):LdK×Int)):=Tr.kOf_holds (by kernel_rfl) (by rw[show (tTk2).asks1=[lm3,lm0,lm13,lm8,lm0] by kernel_rfl];exact al_cons lm3p <| al_cons lm0p <| al_cons lm13p <| al_cons lm8p <| al_cons lm0p <| al_nil) fun n=>match n with
 | []=>tk2h0
 | x0 :: n0=>tk2h1 x0 n0
theorem fm1h00:(((tFm1).kOf []).kOf []).Holds (·=((lk1,([t3],0)):LdK×(List T×Int))):=Tr.leaf_holds default (by rw[show (((tFm1).kOf []).kOf []).asksC=[lm17,lm3,lm18,lm0,lm1,lm8,lm19,lm4,lm20,lm21,lm14,lm15,lm8,lm22] by kernel_rfl];exact al_cons lm17p <| al_cons lm3p <| al_cons lm18p <| al_cons lm0p <| al_cons lm1p <| al_cons lm8p <| al_cons lm19p <| al_cons lm4p <| al_cons lm20p <| al_cons lm21p <| al_cons lm14p <| al_cons lm15p <| al_cons lm8p <| al_cons lm22p <| al_nil) (by kernel_rfl)
theorem fm1h01 (x1:Nat) (n1:List Nat):(((tFm1).kOf []).kOf (x1 :: n1)).Holds (·=((lk1,([t3],0)):LdK×(List T×Int))):=Tr.leaf_holds default (by rw[show (((tFm1).kOf []).kOf (x1 :: n1)).asksC=[lm17,lm3,lm18,lm0,lm1,lm8,lm19,lm4,lm20,lm21,lm14,lm15,lm8,lm22] by kernel_rfl];exact al_cons lm17p <| al_cons lm3p <| al_cons lm18p <| al_cons lm0p <| al_cons lm1p <| al_cons lm8p <| al_cons lm19p <| al_cons lm4p <| al_cons lm20p <| al_cons lm21p <| al_cons lm14p <| al_cons lm15p <| al_cons lm8p <| al_cons lm22p <| al_nil) (by kernel_rfl)
theorem fm1h10 (x0:Nat) (n0:List Nat):(((tFm1).kOf (x0 :: n0)).kOf []).Holds (·=((lk1,([t3],0)):LdK×(List T×Int))):=Tr.leaf_holds default (by rw[show (((tFm1).kOf (x0 :: n0)).kOf []).asksC=[lm17,lm3,lm18,lm0,lm1,lm8,lm19,lm4,lm20,lm21,lm14,lm15,lm8,lm22] by kernel_rfl];exact al_cons lm17p <| al_cons lm3p <| al_cons lm18p <| al_cons lm0p <| al_cons lm1p <| al_cons lm8p <| al_cons lm19p <| al_cons lm4p <| al_cons lm20p <| al_cons lm21p <| al_cons lm14p <| al_cons lm15p <| al_cons lm8p <| al_cons lm22p <| al_nil) (by kernel_rfl)
theorem fm1h11 (x0:Nat) (n0:List Nat) (x1:Nat) (n1:List Nat):(((tFm1).kOf (x0 :: n0)).kOf (x1 :: n1)).Holds (·=((lk1,([t3],0)):LdK×(List T×Int))):=Tr.leaf_holds default (by rw[show (((tFm1).kOf (x0 :: n0)).kOf (x1 :: n1)).asksC=[lm17,lm3,lm18,lm0,lm1,lm8,lm19,lm4,lm20,lm21,lm14,lm15,lm8,lm22] by kernel_rfl];exact al_cons lm17p <| al_cons lm3p <| al_cons lm18p <| al_cons lm0p <| al_cons lm1p <| al_cons lm8p <| al_cons lm19p <| al_cons lm4p <| al_cons lm20p <| al_cons lm21p <| al_cons lm14p <| al_cons lm15p <| al_cons lm8p <| al_cons lm22p <| al_nil) (by kernel_rfl)
theorem fm1h0:((tFm1).kOf []).Holds (·=((lk1,([t3],0)):LdK×(List T×Int))):=Tr.kOf_holds (by kernel_rfl) (by rw[show ((tFm1).kOf []).asks1=[] by kernel_rfl];exact al_nil) fun n=>match n with
 | []=>fm1h00
 | x1 :: n1=>fm1h01 x1 n1
theorem fm1h1 (x0:Nat) (n0:List Nat):((tFm1).kOf (x0 :: n0)).Holds (·=((lk1,([t3],0)):LdK×(List T×Int))):=Tr.kOf_holds (by kernel_rfl) (by rw[show ((tFm1).kOf (x0 :: n0)).asks1=[] by kernel_rfl];exact al_nil) fun n=>match n with
 | []=>fm1h10 x0 n0
 | x1 :: n1=>fm1h11 x0 n0 x1 n1
theorem fm1h:(tFm1).Holds (·=((lk1,([t3],0)):LdK×(List T×Int))):=Tr.kOf_holds (by kernel_rfl) (by rw[show (tFm1).asks1=[] by kernel_rfl];exact al_nil) fun n=>match n with
 | []=>fm1h0
 | x0 :: n0=>fm1h1 x0 n0
theorem fm2h00:(((tFm2).kOf []).kOf []).Holds (·=((lk2,([],0)):LdK×(List T×Int))):=Tr.leaf_holds default (by rw[show (((tFm2).kOf []).kOf []).asksC=[lm23,lm24,lm25,lm26,lm14,lm15,lm9,lm27] by kernel_rfl];exact al_cons lm23p <| al_cons lm24p <| al_cons lm25p <| al_cons lm26p <| al_cons lm14p <| al_cons lm15p <| al_cons lm9p <| al_cons lm27p <| al_nil) (by kernel_rfl)
theorem fm2h01 (x1:Nat) (n1:List Nat):(((tFm2).kOf []).kOf (x1 :: n1)).Holds (·=((lk2,([],0)):LdK×(List T×Int))):=Tr.leaf_holds default (by rw[show (((tFm2).kOf []).kOf (x1 :: n1)).asksC=[lm23,lm24,lm25,lm26,lm14,lm15,lm9,lm27] by kernel_rfl];exact al_cons lm23p <| al_cons lm24p <| al_cons lm25p <| al_cons lm26p <| al_cons lm14p <| al_cons lm15p <| al_cons lm9p <| al_cons lm27p <| al_nil) (by kernel_rfl)
theorem fm2h10 (x0:Nat) (n0:List Nat):(((tFm2).kOf (x0 :: n0)).kOf []).Holds (·=((lk2,([],0)):LdK×(List T×Int))):=Tr.leaf_holds default (by rw[show (((tFm2).kOf (x0 :: n0)).kOf []).asksC=[lm23,lm24,lm25,lm26,lm14,lm15,lm9,lm27] by kernel_rfl];exact al_cons lm23p <| al_cons lm24p <| al_cons lm25p <| al_cons lm26p <| al_cons lm14p <| al_cons lm15p <| al_cons lm9p <| al_cons lm27p <| al_nil) (by kernel_rfl)
theorem fm2h11 (x0:Nat) (n0:List Nat) (x1:Nat) (n1:List Nat):(((tFm2).kOf (x0 :: n0)).kOf (x1 :: n1)).Holds (·=((lk2,([],0)):LdK×(List T×Int))):=Tr.leaf_holds default (by rw[show (((tFm2).kOf (x0 :: n0)).kOf (x1 :: n1)).asksC=[lm23,lm24,lm25,lm26,lm14,lm15,lm9,lm27] by kernel_rfl];exact al_cons lm23p <| al_cons lm24p <| al_cons lm25p <| al_cons lm26p <| al_cons lm14p <| al_cons lm15p <| al_cons lm9p <| al_cons lm27p <| al_nil) (by kernel_rfl)
theorem fm2h0:((tFm2).kOf []).Holds (·=((lk2,([],0)):LdK×(List T×Int))):=Tr.kOf_holds (by kernel_rfl) (by rw[show ((tFm2).kOf []).asks1=[] by kernel_rfl];exact al_nil) fun n=>match n with
 | []=>fm2h00
 | x1 :: n1=>fm2h01 x1 n1
theorem fm2h1 (x0:Nat) (n0:List Nat):((tFm2).kOf (x0 :: n0)).Holds (·=((lk2,([],0)):LdK×(List T×Int))):=Tr.kOf_holds (by kernel_rfl) (by rw[show ((tFm2).kOf (x0 :: n0)).asks1=[] by kernel_rfl];exact al_nil) fun n=>match n with
 | []=>fm2h10 x0 n0
 | x1 :: n1=>fm2h11 x0 n0 x1 n1
theorem fm2h:(tFm2).Holds (·=((lk2,([],0)):LdK×(List T×Int))):=Tr.kOf_holds (by kernel_rfl) (by rw[show (tFm2).asks1=[] by kernel_rfl];exact al_nil) fun n=>match n with
 | []=>fm2h0
 | x0 :: n0=>fm2h1 x0 n0
end Go.Proofs.YthnojkbkojpadaaGreat

namespace Go.Proofs.YthnojkbkojpadaaGreat
open Go.RowKit Go.Sx Go.Lp
set_option maxRecDepth 100000
theorem nd10000000:(((((((((tOf).kOf [0]).kOf []).kOf []).kOf []).kOf []).kOf []).kOf []).kOf []).Holds (·=([pa0],0)):=Tr.leaf_holds default (by rw[show (((((((((tOf).kOf [0]).kOf []).kOf []).kOf []).kOf []).kOf []).kOf []).kOf []).asksC=[ix0,ix0,ix0,0<1,ix0,0<1,as3,1≤1,gr0 56,ix0,0<1,1≤1,as4] by kernel_rfl];exact al_cons ix0_ok <| al_cons ix0_ok <| al_cons ix0_ok <| al_cons Nat.zero_lt_one <| al_cons ix0_ok <| al_cons Nat.zero_lt_one <| al_cons as3_ok <| al_cons (Nat.le_refl 1) <| al_cons (gr0_ok (by omega)) <| al_cons ix0_ok <| al_cons Nat.zero_lt_one <| al_cons (Nat.le_refl 1) <| al_cons as4_ok <| al_nil) (by kernel_rfl)
theorem nd11000000:(((((((((tOf).kOf [0]).kOf [0]).kOf []).kOf []).kOf []).kOf []).kOf []).kOf []).Holds (·=([pa0],0)):=Tr.leaf_holds default (by rw[show (((((((((tOf).kOf [0]).kOf [0]).kOf []).kOf []).kOf []).kOf []).kOf []).kOf []).asksC=[ix0,ix0,ix0,0<1,ix0,0<1,as3,1≤1,gr0 56,ix0,0<1,1≤1,as4] by kernel_rfl];exact al_cons ix0_ok <| al_cons ix0_ok <| al_cons ix0_ok <| al_cons Nat.zero_lt_one <| al_cons ix0_ok <| al_cons Nat.zero_lt_one <| al_cons as3_ok <| al_cons (Nat.le_refl 1) <| al_cons (gr0_ok (by omega)) <| al_cons ix0_ok <| al_cons Nat.zero_lt_one <| al_cons (Nat.le_refl 1) <| al_cons as4_ok <| al_nil) (by kernel_rfl)
theorem nd0000000:((((((((tOf).kOf []).kOf []).kOf []).kOf []).kOf []).kOf []).kOf []).Holds (·=([pa0],0)):=Tr.leaf_holds default (by rw[show ((((((((tOf).kOf []).kOf []).kOf []).kOf []).kOf []).kOf []).kOf []).asksC=[ix0,ix0,ix0,0<1,ix0,0<1,as3,1≤1,gr0 56,ix0,0<1,1≤1,as4] by kernel_rfl];exact al_cons ix0_ok <| al_cons ix0_ok <| al_cons ix0_ok <| al_cons Nat.zero_lt_one <| al_cons ix0_ok <| al_cons Nat.zero_lt_one <| al_cons as3_ok <| al_cons (Nat.le_refl 1) <| al_cons (gr0_ok (by omega)) <| al_cons ix0_ok <| al_cons Nat.zero_lt_one <| al_cons (Nat.le_refl 1) <| al_cons as4_ok <| al_nil) (by kernel_rfl)
theorem nd1001110:((((((((tOf).kOf [0]).kOf []).kOf []).kOf [0]).kOf [0]).kOf [0]).kOf []).Holds (·=([pa0],0)):=Tr.leaf_holds default (by rw[show ((((((((tOf).kOf [0]).kOf []).kOf []).kOf [0]).kOf [0]).kOf [0]).kOf []).asksC=[ix0,0<1,ix0,0<1,ix0,as3,ix0,1≤1,gr0 56,ix0,0<1,1≤1,as4] by kernel_rfl];exact al_cons ix0_ok <| al_cons Nat.zero_lt_one <| al_cons ix0_ok <| al_cons Nat.zero_lt_one <| al_cons ix0_ok <| al_cons as3_ok <| al_cons ix0_ok <| al_cons (Nat.le_refl 1) <| al_cons (gr0_ok (by omega)) <| al_cons ix0_ok <| al_cons Nat.zero_lt_one <| al_cons (Nat.le_refl 1) <| al_cons as4_ok <| al_nil) (by kernel_rfl)
theorem nd1100110:((((((((tOf).kOf [0]).kOf [0]).kOf []).kOf []).kOf [0]).kOf [0]).kOf []).Holds (·=([pa0],0)):=Tr.leaf_holds default (by rw[show ((((((((tOf).kOf [0]).kOf [0]).kOf []).kOf []).kOf [0]).kOf [0]).kOf []).asksC=[ix0,ix0,0<1,ix0,0<1,as3,ix0,1≤1,gr0 56,ix0,0<1,1≤1,as4] by kernel_rfl];exact al_cons ix0_ok <| al_cons ix0_ok <| al_cons Nat.zero_lt_one <| al_cons ix0_ok <| al_cons Nat.zero_lt_one <| al_cons as3_ok <| al_cons ix0_ok <| al_cons (Nat.le_refl 1) <| al_cons (gr0_ok (by omega)) <| al_cons ix0_ok <| al_cons Nat.zero_lt_one <| al_cons (Nat.le_refl 1) <| al_cons as4_ok <| al_nil) (by kernel_rfl)
theorem nd001110:(((((((tOf).kOf []).kOf []).kOf [0]).kOf [0]).kOf [0]).kOf []).Holds (·=([pa0],0)):=Tr.leaf_holds default (by rw[show (((((((tOf).kOf []).kOf []).kOf [0]).kOf [0]).kOf [0]).kOf []).asksC=[ix0,0<1,ix0,0<1,ix0,as3,ix0,1≤1,gr0 56,ix0,0<1,1≤1,as4] by kernel_rfl];exact al_cons ix0_ok <| al_cons Nat.zero_lt_one <| al_cons ix0_ok <| al_cons Nat.zero_lt_one <| al_cons ix0_ok <| al_cons as3_ok <| al_cons ix0_ok <| al_cons (Nat.le_refl 1) <| al_cons (gr0_ok (by omega)) <| al_cons ix0_ok <| al_cons Nat.zero_lt_one <| al_cons (Nat.le_refl 1) <| al_cons as4_ok <| al_nil) (by kernel_rfl)
theorem nd100010:(((((((tOf).kOf [0]).kOf []).kOf []).kOf []).kOf [0]).kOf []).Holds (·=([pa0],0)):=Tr.leaf_holds default (by rw[show (((((((tOf).kOf [0]).kOf []).kOf []).kOf []).kOf [0]).kOf []).asksC=[ix0,ix0,0<1,ix0,0<1,as3,ix0,1≤1,gr0 56,ix0,0<1,1≤1,as4] by kernel_rfl];exact al_cons ix0_ok <| al_cons ix0_ok <| al_cons Nat.zero_lt_one <| al_cons ix0_ok <| al_cons Nat.zero_lt_one <| al_cons as3_ok <| al_cons ix0_ok <| al_cons (Nat.le_refl 1) <| al_cons (gr0_ok (by omega)) <| al_cons ix0_ok <| al_cons Nat.zero_lt_one <| al_cons (Nat.le_refl 1) <| al_cons as4_ok <| al_nil) (by kernel_rfl)
theorem nd101110:(((((((tOf).kOf [0]).kOf []).kOf [0]).kOf [0]).kOf [0]).kOf []).Holds (·=([pa0],0)):=Tr.leaf_holds default (by rw[show (((((((tOf).kOf [0]).kOf []).kOf [0]).kOf [0]).kOf [0]).kOf []).asksC=[ix0,0<1,ix0,0<1,ix0,as3,ix0,1≤1,gr0 56,ix0,0<1,1≤1,as4] by kernel_rfl];exact al_cons ix0_ok <| al_cons Nat.zero_lt_one <| al_cons ix0_ok <| al_cons Nat.zero_lt_one <| al_cons ix0_ok <| al_cons as3_ok <| al_cons ix0_ok <| al_cons (Nat.le_refl 1) <| al_cons (gr0_ok (by omega)) <| al_cons ix0_ok <| al_cons Nat.zero_lt_one <| al_cons (Nat.le_refl 1) <| al_cons as4_ok <| al_nil) (by kernel_rfl)
theorem nd110010:(((((((tOf).kOf [0]).kOf [0]).kOf []).kOf []).kOf [0]).kOf []).Holds (·=([pa0],0)):=Tr.leaf_holds default (by rw[show (((((((tOf).kOf [0]).kOf [0]).kOf []).kOf []).kOf [0]).kOf []).asksC=[ix0,ix0,0<1,ix0,0<1,as3,ix0,1≤1,gr0 56,ix0,0<1,1≤1,as4] by kernel_rfl];exact al_cons ix0_ok <| al_cons ix0_ok <| al_cons Nat.zero_lt_one <| al_cons ix0_ok <| al_cons Nat.zero_lt_one <| al_cons as3_ok <| al_cons ix0_ok <| al_cons (Nat.le_refl 1) <| al_cons (gr0_ok (by omega)) <| al_cons ix0_ok <| al_cons Nat.zero_lt_one <| al_cons (Nat.le_refl 1) <| al_cons as4_ok <| al_nil) (by kernel_rfl)
theorem nd111110:(((((((tOf).kOf [0]).kOf [0]).kOf [0]).kOf [0]).kOf [0]).kOf []).Holds (·=([pa0],0)):=Tr.leaf_holds default (by rw[show (((((((tOf).kOf [0]).kOf [0]).kOf [0]).kOf [0]).kOf [0]).kOf []).asksC=[ix0,0<1,ix0,0<1,ix0,as3,ix0,1≤1,gr0 56,ix0,0<1,1≤1,as4] by kernel_rfl];exact al_cons ix0_ok <| al_cons Nat.zero_lt_one <| al_cons ix0_ok <| al_cons Nat.zero_lt_one <| al_cons ix0_ok <| al_cons as3_ok <| al_cons ix0_ok <| al_cons (Nat.le_refl 1) <| al_cons (gr0_ok (by omega)) <| al_cons ix0_ok <| al_cons Nat.zero_lt_one <| al_cons (Nat.le_refl 1) <| al_cons as4_ok <| al_nil) (by kernel_rfl)
theorem nd00010:((((((tOf).kOf []).kOf []).kOf []).kOf [0]).kOf []).Holds (·=([pa0],0)):=Tr.leaf_holds default (by rw[show ((((((tOf).kOf []).kOf []).kOf []).kOf [0]).kOf []).asksC=[ix0,ix0,0<1,ix0,0<1,as3,ix0,1≤1,gr0 56,ix0,0<1,1≤1,as4] by kernel_rfl];exact al_cons ix0_ok <| al_cons ix0_ok <| al_cons Nat.zero_lt_one <| al_cons ix0_ok <| al_cons Nat.zero_lt_one <| al_cons as3_ok <| al_cons ix0_ok <| al_cons (Nat.le_refl 1) <| al_cons (gr0_ok (by omega)) <| al_cons ix0_ok <| al_cons Nat.zero_lt_one <| al_cons (Nat.le_refl 1) <| al_cons as4_ok <| al_nil) (by kernel_rfl)
theorem nd01110:((((((tOf).kOf []).kOf [0]).kOf [0]).kOf [0]).kOf []).Holds (·=([pa0],0)):=Tr.leaf_holds default (by rw[show ((((((tOf).kOf []).kOf [0]).kOf [0]).kOf [0]).kOf []).asksC=[ix0,0<1,ix0,0<1,ix0,as3,ix0,1≤1,gr0 56,ix0,0<1,1≤1,as4] by kernel_rfl];exact al_cons ix0_ok <| al_cons Nat.zero_lt_one <| al_cons ix0_ok <| al_cons Nat.zero_lt_one <| al_cons ix0_ok <| al_cons as3_ok <| al_cons ix0_ok <| al_cons (Nat.le_refl 1) <| al_cons (gr0_ok (by omega)) <| al_cons ix0_ok <| al_cons Nat.zero_lt_one <| al_cons (Nat.le_refl 1) <| al_cons as4_ok <| al_nil) (by kernel_rfl)
theorem nd10010:((((((tOf).kOf [0]).kOf []).kOf []).kOf [0]).kOf []).Holds (·=([pa0],0)):=Tr.leaf_holds default (by rw[show ((((((tOf).kOf [0]).kOf []).kOf []).kOf [0]).kOf []).asksC=[ix0,0<1,ix0,0<1,as3,ix0,ix0,1≤1,gr0 56,ix0,0<1,1≤1,as4] by kernel_rfl];exact al_cons ix0_ok <| al_cons Nat.zero_lt_one <| al_cons ix0_ok <| al_cons Nat.zero_lt_one <| al_cons as3_ok <| al_cons ix0_ok <| al_cons ix0_ok <| al_cons (Nat.le_refl 1) <| al_cons (gr0_ok (by omega)) <| al_cons ix0_ok <| al_cons Nat.zero_lt_one <| al_cons (Nat.le_refl 1) <| al_cons as4_ok <| al_nil) (by kernel_rfl)
theorem nd11110:((((((tOf).kOf [0]).kOf [0]).kOf [0]).kOf [0]).kOf []).Holds (·=([pa0],0)):=Tr.leaf_holds default (by rw[show ((((((tOf).kOf [0]).kOf [0]).kOf [0]).kOf [0]).kOf []).asksC=[ix0,0<1,ix0,0<1,as3,ix0,ix0,1≤1,gr0 56,ix0,0<1,1≤1,as4] by kernel_rfl];exact al_cons ix0_ok <| al_cons Nat.zero_lt_one <| al_cons ix0_ok <| al_cons Nat.zero_lt_one <| al_cons as3_ok <| al_cons ix0_ok <| al_cons ix0_ok <| al_cons (Nat.le_refl 1) <| al_cons (gr0_ok (by omega)) <| al_cons ix0_ok <| al_cons Nat.zero_lt_one <| al_cons (Nat.le_refl 1) <| al_cons as4_ok <| al_nil) (by kernel_rfl)
theorem nd0010:(((((tOf).kOf []).kOf []).kOf [0]).kOf []).Holds (·=([pa0],0)):=Tr.leaf_holds default (by rw[show (((((tOf).kOf []).kOf []).kOf [0]).kOf []).asksC=[ix0,0<1,ix0,0<1,as3,ix0,ix0,1≤1,gr0 56,ix0,0<1,1≤1,as4] by kernel_rfl];exact al_cons ix0_ok <| al_cons Nat.zero_lt_one <| al_cons ix0_ok <| al_cons Nat.zero_lt_one <| al_cons as3_ok <| al_cons ix0_ok <| al_cons ix0_ok <| al_cons (Nat.le_refl 1) <| al_cons (gr0_ok (by omega)) <| al_cons ix0_ok <| al_cons Nat.zero_lt_one <| al_cons (Nat.le_refl 1) <| al_cons as4_ok <| al_nil) (by kernel_rfl)
end Go.Proofs.YthnojkbkojpadaaGreat

namespace Go.Proofs.YthnojkbkojpadaaGreat
open Go.RowKit Go.Sx Go.Lp
set_option maxRecDepth 100000
theorem nd10000001:(((((((((tOf).kOf [0]).kOf []).kOf []).kOf []).kOf []).kOf []).kOf []).kOf [0]).Holds (·=([pa0],0)):=Tr.leaf_holds default (by rw[show (((((((((tOf).kOf [0]).kOf []).kOf []).kOf []).kOf []).kOf []).kOf []).kOf [0]).asksC=[ix0,ix0,ix0,0<1,ix0,0<1,as3,1≤1,gr0 56,ix0,0<1,1≤1,as4] by kernel_rfl];exact al_cons ix0_ok <| al_cons ix0_ok <| al_cons ix0_ok <| al_cons Nat.zero_lt_one <| al_cons ix0_ok <| al_cons Nat.zero_lt_one <| al_cons as3_ok <| al_cons (Nat.le_refl 1) <| al_cons (gr0_ok (by omega)) <| al_cons ix0_ok <| al_cons Nat.zero_lt_one <| al_cons (Nat.le_refl 1) <| al_cons as4_ok <| al_nil) (by kernel_rfl)
theorem nd11000001:(((((((((tOf).kOf [0]).kOf [0]).kOf []).kOf []).kOf []).kOf []).kOf []).kOf [0]).Holds (·=([pa0],0)):=Tr.leaf_holds default (by rw[show (((((((((tOf).kOf [0]).kOf [0]).kOf []).kOf []).kOf []).kOf []).kOf []).kOf [0]).asksC=[ix0,ix0,ix0,0<1,ix0,0<1,as3,1≤1,gr0 56,ix0,0<1,1≤1,as4] by kernel_rfl];exact al_cons ix0_ok <| al_cons ix0_ok <| al_cons ix0_ok <| al_cons Nat.zero_lt_one <| al_cons ix0_ok <| al_cons Nat.zero_lt_one <| al_cons as3_ok <| al_cons (Nat.le_refl 1) <| al_cons (gr0_ok (by omega)) <| al_cons ix0_ok <| al_cons Nat.zero_lt_one <| al_cons (Nat.le_refl 1) <| al_cons as4_ok <| al_nil) (by kernel_rfl)
theorem nd0000001:((((((((tOf).kOf []).kOf []).kOf []).kOf []).kOf []).kOf []).kOf [0]).Holds (·=([pa0],0)):=Tr.leaf_holds default (by rw[show ((((((((tOf).kOf []).kOf []).kOf []).kOf []).kOf []).kOf []).kOf [0]).asksC=[ix0,ix0,ix0,0<1,ix0,0<1,as3,1≤1,gr0 56,ix0,0<1,1≤1,as4] by kernel_rfl];exact al_cons ix0_ok <| al_cons ix0_ok <| al_cons ix0_ok <| al_cons Nat.zero_lt_one <| al_cons ix0_ok <| al_cons Nat.zero_lt_one <| al_cons as3_ok <| al_cons (Nat.le_refl 1) <| al_cons (gr0_ok (by omega)) <| al_cons ix0_ok <| al_cons Nat.zero_lt_one <| al_cons (Nat.le_refl 1) <| al_cons as4_ok <| al_nil) (by kernel_rfl)
theorem nd1000001:((((((((tOf).kOf [0]).kOf []).kOf []).kOf []).kOf []).kOf []).kOf [0]).Holds (·=([pa0],0)):=Tr.leaf_holds default (by rw[show ((((((((tOf).kOf [0]).kOf []).kOf []).kOf []).kOf []).kOf []).kOf [0]).asksC=[ix0,ix0,0<1,ix0,0<1,as3,ix0,1≤1,gr0 56,ix0,0<1,1≤1,as4] by kernel_rfl];exact al_cons ix0_ok <| al_cons ix0_ok <| al_cons Nat.zero_lt_one <| al_cons ix0_ok <| al_cons Nat.zero_lt_one <| al_cons as3_ok <| al_cons ix0_ok <| al_cons (Nat.le_refl 1) <| al_cons (gr0_ok (by omega)) <| al_cons ix0_ok <| al_cons Nat.zero_lt_one <| al_cons (Nat.le_refl 1) <| al_cons as4_ok <| al_nil) (by kernel_rfl)
theorem nd1001111:((((((((tOf).kOf [0]).kOf []).kOf []).kOf [0]).kOf [0]).kOf [0]).kOf [0]).Holds (·=([pa0],0)):=Tr.leaf_holds default (by rw[show ((((((((tOf).kOf [0]).kOf []).kOf []).kOf [0]).kOf [0]).kOf [0]).kOf [0]).asksC=[ix0,0<1,ix0,0<1,ix0,as3,ix0,1≤1,gr0 56,ix0,0<1,1≤1,as4] by kernel_rfl];exact al_cons ix0_ok <| al_cons Nat.zero_lt_one <| al_cons ix0_ok <| al_cons Nat.zero_lt_one <| al_cons ix0_ok <| al_cons as3_ok <| al_cons ix0_ok <| al_cons (Nat.le_refl 1) <| al_cons (gr0_ok (by omega)) <| al_cons ix0_ok <| al_cons Nat.zero_lt_one <| al_cons (Nat.le_refl 1) <| al_cons as4_ok <| al_nil) (by kernel_rfl)
theorem nd000001:(((((((tOf).kOf []).kOf []).kOf []).kOf []).kOf []).kOf [0]).Holds (·=([pa0],0)):=Tr.leaf_holds default (by rw[show (((((((tOf).kOf []).kOf []).kOf []).kOf []).kOf []).kOf [0]).asksC=[ix0,ix0,0<1,ix0,0<1,as3,ix0,1≤1,gr0 56,ix0,0<1,1≤1,as4] by kernel_rfl];exact al_cons ix0_ok <| al_cons ix0_ok <| al_cons Nat.zero_lt_one <| al_cons ix0_ok <| al_cons Nat.zero_lt_one <| al_cons as3_ok <| al_cons ix0_ok <| al_cons (Nat.le_refl 1) <| al_cons (gr0_ok (by omega)) <| al_cons ix0_ok <| al_cons Nat.zero_lt_one <| al_cons (Nat.le_refl 1) <| al_cons as4_ok <| al_nil) (by kernel_rfl)
theorem nd001111:(((((((tOf).kOf []).kOf []).kOf [0]).kOf [0]).kOf [0]).kOf [0]).Holds (·=([pa0],0)):=Tr.leaf_holds default (by rw[show (((((((tOf).kOf []).kOf []).kOf [0]).kOf [0]).kOf [0]).kOf [0]).asksC=[ix0,0<1,ix0,0<1,ix0,as3,ix0,1≤1,gr0 56,ix0,0<1,1≤1,as4] by kernel_rfl];exact al_cons ix0_ok <| al_cons Nat.zero_lt_one <| al_cons ix0_ok <| al_cons Nat.zero_lt_one <| al_cons ix0_ok <| al_cons as3_ok <| al_cons ix0_ok <| al_cons (Nat.le_refl 1) <| al_cons (gr0_ok (by omega)) <| al_cons ix0_ok <| al_cons Nat.zero_lt_one <| al_cons (Nat.le_refl 1) <| al_cons as4_ok <| al_nil) (by kernel_rfl)
theorem nd101111:(((((((tOf).kOf [0]).kOf []).kOf [0]).kOf [0]).kOf [0]).kOf [0]).Holds (·=([pa0],0)):=Tr.leaf_holds default (by rw[show (((((((tOf).kOf [0]).kOf []).kOf [0]).kOf [0]).kOf [0]).kOf [0]).asksC=[ix0,0<1,ix0,0<1,ix0,as3,ix0,1≤1,gr0 56,ix0,0<1,1≤1,as4] by kernel_rfl];exact al_cons ix0_ok <| al_cons Nat.zero_lt_one <| al_cons ix0_ok <| al_cons Nat.zero_lt_one <| al_cons ix0_ok <| al_cons as3_ok <| al_cons ix0_ok <| al_cons (Nat.le_refl 1) <| al_cons (gr0_ok (by omega)) <| al_cons ix0_ok <| al_cons Nat.zero_lt_one <| al_cons (Nat.le_refl 1) <| al_cons as4_ok <| al_nil) (by kernel_rfl)
theorem nd111111:(((((((tOf).kOf [0]).kOf [0]).kOf [0]).kOf [0]).kOf [0]).kOf [0]).Holds (·=([pa0],0)):=Tr.leaf_holds default (by rw[show (((((((tOf).kOf [0]).kOf [0]).kOf [0]).kOf [0]).kOf [0]).kOf [0]).asksC=[ix0,0<1,ix0,0<1,ix0,as3,ix0,1≤1,gr0 56,ix0,0<1,1≤1,as4] by kernel_rfl];exact al_cons ix0_ok <| al_cons Nat.zero_lt_one <| al_cons ix0_ok <| al_cons Nat.zero_lt_one <| al_cons ix0_ok <| al_cons as3_ok <| al_cons ix0_ok <| al_cons (Nat.le_refl 1) <| al_cons (gr0_ok (by omega)) <| al_cons ix0_ok <| al_cons Nat.zero_lt_one <| al_cons (Nat.le_refl 1) <| al_cons as4_ok <| al_nil) (by kernel_rfl)
theorem nd01111:((((((tOf).kOf []).kOf [0]).kOf [0]).kOf [0]).kOf [0]).Holds (·=([pa0],0)):=Tr.leaf_holds default (by rw[show ((((((tOf).kOf []).kOf [0]).kOf [0]).kOf [0]).kOf [0]).asksC=[ix0,0<1,ix0,0<1,ix0,as3,ix0,1≤1,gr0 56,ix0,0<1,1≤1,as4] by kernel_rfl];exact al_cons ix0_ok <| al_cons Nat.zero_lt_one <| al_cons ix0_ok <| al_cons Nat.zero_lt_one <| al_cons ix0_ok <| al_cons as3_ok <| al_cons ix0_ok <| al_cons (Nat.le_refl 1) <| al_cons (gr0_ok (by omega)) <| al_cons ix0_ok <| al_cons Nat.zero_lt_one <| al_cons (Nat.le_refl 1) <| al_cons as4_ok <| al_nil) (by kernel_rfl)
end Go.Proofs.YthnojkbkojpadaaGreat

namespace Go.Proofs.YthnojkbkojpadaaGreat
open Go.RowKit Go.Sx Go.Lp
set_option maxRecDepth 100000
theorem nd10001110:(((((((((tOf).kOf [0]).kOf []).kOf []).kOf []).kOf [0]).kOf [0]).kOf [0]).kOf []).Holds (·=([pa0],0)):=Tr.leaf_holds default (by rw[show (((((((((tOf).kOf [0]).kOf []).kOf []).kOf []).kOf [0]).kOf [0]).kOf [0]).kOf []).asksC=[ix0,ix0,0<1,ix0,0<1,ix0,as3,1≤1,gr0 56,ix0,0<1,1≤1,as4] by kernel_rfl];exact al_cons ix0_ok <| al_cons ix0_ok <| al_cons Nat.zero_lt_one <| al_cons ix0_ok <| al_cons Nat.zero_lt_one <| al_cons ix0_ok <| al_cons as3_ok <| al_cons (Nat.le_refl 1) <| al_cons (gr0_ok (by omega)) <| al_cons ix0_ok <| al_cons Nat.zero_lt_one <| al_cons (Nat.le_refl 1) <| al_cons as4_ok <| al_nil) (by kernel_rfl)
theorem nd11001110:(((((((((tOf).kOf [0]).kOf [0]).kOf []).kOf []).kOf [0]).kOf [0]).kOf [0]).kOf []).Holds (·=([pa0],0)):=Tr.leaf_holds default (by rw[show (((((((((tOf).kOf [0]).kOf [0]).kOf []).kOf []).kOf [0]).kOf [0]).kOf [0]).kOf []).asksC=[ix0,ix0,0<1,ix0,0<1,ix0,as3,1≤1,gr0 56,ix0,0<1,1≤1,as4] by kernel_rfl];exact al_cons ix0_ok <| al_cons ix0_ok <| al_cons Nat.zero_lt_one <| al_cons ix0_ok <| al_cons Nat.zero_lt_one <| al_cons ix0_ok <| al_cons as3_ok <| al_cons (Nat.le_refl 1) <| al_cons (gr0_ok (by omega)) <| al_cons ix0_ok <| al_cons Nat.zero_lt_one <| al_cons (Nat.le_refl 1) <| al_cons as4_ok <| al_nil) (by kernel_rfl)
theorem nd0001110:((((((((tOf).kOf []).kOf []).kOf []).kOf [0]).kOf [0]).kOf [0]).kOf []).Holds (·=([pa0],0)):=Tr.leaf_holds default (by rw[show ((((((((tOf).kOf []).kOf []).kOf []).kOf [0]).kOf [0]).kOf [0]).kOf []).asksC=[ix0,ix0,0<1,ix0,0<1,ix0,as3,1≤1,gr0 56,ix0,0<1,1≤1,as4] by kernel_rfl];exact al_cons ix0_ok <| al_cons ix0_ok <| al_cons Nat.zero_lt_one <| al_cons ix0_ok <| al_cons Nat.zero_lt_one <| al_cons ix0_ok <| al_cons as3_ok <| al_cons (Nat.le_refl 1) <| al_cons (gr0_ok (by omega)) <| al_cons ix0_ok <| al_cons Nat.zero_lt_one <| al_cons (Nat.le_refl 1) <| al_cons as4_ok <| al_nil) (by kernel_rfl)
theorem nd1000110:((((((((tOf).kOf [0]).kOf []).kOf []).kOf []).kOf [0]).kOf [0]).kOf []).Holds (·=([pa0],0)):=Tr.leaf_holds default (by rw[show ((((((((tOf).kOf [0]).kOf []).kOf []).kOf []).kOf [0]).kOf [0]).kOf []).asksC=[ix0,ix0,0<1,ix0,0<1,as3,ix0,1≤1,gr0 56,ix0,0<1,1≤1,as4] by kernel_rfl];exact al_cons ix0_ok <| al_cons ix0_ok <| al_cons Nat.zero_lt_one <| al_cons ix0_ok <| al_cons Nat.zero_lt_one <| al_cons as3_ok <| al_cons ix0_ok <| al_cons (Nat.le_refl 1) <| al_cons (gr0_ok (by omega)) <| al_cons ix0_ok <| al_cons Nat.zero_lt_one <| al_cons (Nat.le_refl 1) <| al_cons as4_ok <| al_nil) (by kernel_rfl)
theorem nd1101110:((((((((tOf).kOf [0]).kOf [0]).kOf []).kOf [0]).kOf [0]).kOf [0]).kOf []).Holds (·=([pa0],0)):=Tr.leaf_holds default (by rw[show ((((((((tOf).kOf [0]).kOf [0]).kOf []).kOf [0]).kOf [0]).kOf [0]).kOf []).asksC=[ix0,0<1,ix0,0<1,ix0,as3,ix0,1≤1,gr0 56,ix0,0<1,1≤1,as4] by kernel_rfl];exact al_cons ix0_ok <| al_cons Nat.zero_lt_one <| al_cons ix0_ok <| al_cons Nat.zero_lt_one <| al_cons ix0_ok <| al_cons as3_ok <| al_cons ix0_ok <| al_cons (Nat.le_refl 1) <| al_cons (gr0_ok (by omega)) <| al_cons ix0_ok <| al_cons Nat.zero_lt_one <| al_cons (Nat.le_refl 1) <| al_cons as4_ok <| al_nil) (by kernel_rfl)
theorem nd000110:(((((((tOf).kOf []).kOf []).kOf []).kOf [0]).kOf [0]).kOf []).Holds (·=([pa0],0)):=Tr.leaf_holds default (by rw[show (((((((tOf).kOf []).kOf []).kOf []).kOf [0]).kOf [0]).kOf []).asksC=[ix0,ix0,0<1,ix0,0<1,as3,ix0,1≤1,gr0 56,ix0,0<1,1≤1,as4] by kernel_rfl];exact al_cons ix0_ok <| al_cons ix0_ok <| al_cons Nat.zero_lt_one <| al_cons ix0_ok <| al_cons Nat.zero_lt_one <| al_cons as3_ok <| al_cons ix0_ok <| al_cons (Nat.le_refl 1) <| al_cons (gr0_ok (by omega)) <| al_cons ix0_ok <| al_cons Nat.zero_lt_one <| al_cons (Nat.le_refl 1) <| al_cons as4_ok <| al_nil) (by kernel_rfl)
theorem nd100110:(((((((tOf).kOf [0]).kOf []).kOf []).kOf [0]).kOf [0]).kOf []).Holds (·=([pa0],0)):=Tr.leaf_holds default (by rw[show (((((((tOf).kOf [0]).kOf []).kOf []).kOf [0]).kOf [0]).kOf []).asksC=[ix0,0<1,ix0,0<1,as3,ix0,ix0,1≤1,gr0 56,ix0,0<1,1≤1,as4] by kernel_rfl];exact al_cons ix0_ok <| al_cons Nat.zero_lt_one <| al_cons ix0_ok <| al_cons Nat.zero_lt_one <| al_cons as3_ok <| al_cons ix0_ok <| al_cons ix0_ok <| al_cons (Nat.le_refl 1) <| al_cons (gr0_ok (by omega)) <| al_cons ix0_ok <| al_cons Nat.zero_lt_one <| al_cons (Nat.le_refl 1) <| al_cons as4_ok <| al_nil) (by kernel_rfl)
theorem nd110110:(((((((tOf).kOf [0]).kOf [0]).kOf []).kOf [0]).kOf [0]).kOf []).Holds (·=([pa0],0)):=Tr.leaf_holds default (by rw[show (((((((tOf).kOf [0]).kOf [0]).kOf []).kOf [0]).kOf [0]).kOf []).asksC=[ix0,0<1,ix0,0<1,as3,ix0,ix0,1≤1,gr0 56,ix0,0<1,1≤1,as4] by kernel_rfl];exact al_cons ix0_ok <| al_cons Nat.zero_lt_one <| al_cons ix0_ok <| al_cons Nat.zero_lt_one <| al_cons as3_ok <| al_cons ix0_ok <| al_cons ix0_ok <| al_cons (Nat.le_refl 1) <| al_cons (gr0_ok (by omega)) <| al_cons ix0_ok <| al_cons Nat.zero_lt_one <| al_cons (Nat.le_refl 1) <| al_cons as4_ok <| al_nil) (by kernel_rfl)
theorem nd00110:((((((tOf).kOf []).kOf []).kOf [0]).kOf [0]).kOf []).Holds (·=([pa0],0)):=Tr.leaf_holds default (by rw[show ((((((tOf).kOf []).kOf []).kOf [0]).kOf [0]).kOf []).asksC=[ix0,0<1,ix0,0<1,as3,ix0,ix0,1≤1,gr0 56,ix0,0<1,1≤1,as4] by kernel_rfl];exact al_cons ix0_ok <| al_cons Nat.zero_lt_one <| al_cons ix0_ok <| al_cons Nat.zero_lt_one <| al_cons as3_ok <| al_cons ix0_ok <| al_cons ix0_ok <| al_cons (Nat.le_refl 1) <| al_cons (gr0_ok (by omega)) <| al_cons ix0_ok <| al_cons Nat.zero_lt_one <| al_cons (Nat.le_refl 1) <| al_cons as4_ok <| al_nil) (by kernel_rfl)
theorem nd10110:((((((tOf).kOf [0]).kOf []).kOf [0]).kOf [0]).kOf []).Holds (·=([pa0],0)):=Tr.leaf_holds default (by rw[show ((((((tOf).kOf [0]).kOf []).kOf [0]).kOf [0]).kOf []).asksC=[ix0,0<1,ix0,0<1,as3,ix0,ix0,1≤1,gr0 56,ix0,0<1,1≤1,as4] by kernel_rfl];exact al_cons ix0_ok <| al_cons Nat.zero_lt_one <| al_cons ix0_ok <| al_cons Nat.zero_lt_one <| al_cons as3_ok <| al_cons ix0_ok <| al_cons ix0_ok <| al_cons (Nat.le_refl 1) <| al_cons (gr0_ok (by omega)) <| al_cons ix0_ok <| al_cons Nat.zero_lt_one <| al_cons (Nat.le_refl 1) <| al_cons as4_ok <| al_nil) (by kernel_rfl)
theorem nd11010:((((((tOf).kOf [0]).kOf [0]).kOf []).kOf [0]).kOf []).Holds (·=([pa0],0)):=Tr.leaf_holds default (by rw[show ((((((tOf).kOf [0]).kOf [0]).kOf []).kOf [0]).kOf []).asksC=[ix0,0<1,ix0,0<1,as3,ix0,ix0,1≤1,gr0 56,ix0,0<1,1≤1,as4] by kernel_rfl];exact al_cons ix0_ok <| al_cons Nat.zero_lt_one <| al_cons ix0_ok <| al_cons Nat.zero_lt_one <| al_cons as3_ok <| al_cons ix0_ok <| al_cons ix0_ok <| al_cons (Nat.le_refl 1) <| al_cons (gr0_ok (by omega)) <| al_cons ix0_ok <| al_cons Nat.zero_lt_one <| al_cons (Nat.le_refl 1) <| al_cons as4_ok <| al_nil) (by kernel_rfl)
theorem nd0110:(((((tOf).kOf []).kOf [0]).kOf [0]).kOf []).Holds (·=([pa0],0)):=Tr.leaf_holds default (by rw[show (((((tOf).kOf []).kOf [0]).kOf [0]).kOf []).asksC=[ix0,0<1,ix0,0<1,as3,ix0,ix0,1≤1,gr0 56,ix0,0<1,1≤1,as4] by kernel_rfl];exact al_cons ix0_ok <| al_cons Nat.zero_lt_one <| al_cons ix0_ok <| al_cons Nat.zero_lt_one <| al_cons as3_ok <| al_cons ix0_ok <| al_cons ix0_ok <| al_cons (Nat.le_refl 1) <| al_cons (gr0_ok (by omega)) <| al_cons ix0_ok <| al_cons Nat.zero_lt_one <| al_cons (Nat.le_refl 1) <| al_cons as4_ok <| al_nil) (by kernel_rfl)
theorem nd1010:(((((tOf).kOf [0]).kOf []).kOf [0]).kOf []).Holds (·=([pa0],0)):=Tr.leaf_holds default (by rw[show (((((tOf).kOf [0]).kOf []).kOf [0]).kOf []).asksC=[ix0,0<1,ix0,0<1,as3,ix0,ix0,1≤1,gr0 56,ix0,0<1,1≤1,as4] by kernel_rfl];exact al_cons ix0_ok <| al_cons Nat.zero_lt_one <| al_cons ix0_ok <| al_cons Nat.zero_lt_one <| al_cons as3_ok <| al_cons ix0_ok <| al_cons ix0_ok <| al_cons (Nat.le_refl 1) <| al_cons (gr0_ok (by omega)) <| al_cons ix0_ok <| al_cons Nat.zero_lt_one <| al_cons (Nat.le_refl 1) <| al_cons as4_ok <| al_nil) (by kernel_rfl)
theorem nd1110:(((((tOf).kOf [0]).kOf [0]).kOf [0]).kOf []).Holds (·=([pa0],0)):=Tr.leaf_holds default (by rw[show (((((tOf).kOf [0]).kOf [0]).kOf [0]).kOf []).asksC=[ix0,0<1,ix0,0<1,as3,ix0,ix0,1≤1,gr0 56,ix0,0<1,1≤1,as4] by kernel_rfl];exact al_cons ix0_ok <| al_cons Nat.zero_lt_one <| al_cons ix0_ok <| al_cons Nat.zero_lt_one <| al_cons as3_ok <| al_cons ix0_ok <| al_cons ix0_ok <| al_cons (Nat.le_refl 1) <| al_cons (gr0_ok (by omega)) <| al_cons ix0_ok <| al_cons Nat.zero_lt_one <| al_cons (Nat.le_refl 1) <| al_cons as4_ok <| al_nil) (by kernel_rfl)
theorem nd010:((((tOf).kOf []).kOf [0]).kOf []).Holds (·=([pa0],0)):=Tr.leaf_holds default (by rw[show ((((tOf).kOf []).kOf [0]).kOf []).asksC=[ix0,0<1,ix0,0<1,as3,ix0,ix0,1≤1,gr0 56,ix0,0<1,1≤1,as4] by kernel_rfl];exact al_cons ix0_ok <| al_cons Nat.zero_lt_one <| al_cons ix0_ok <| al_cons Nat.zero_lt_one <| al_cons as3_ok <| al_cons ix0_ok <| al_cons ix0_ok <| al_cons (Nat.le_refl 1) <| al_cons (gr0_ok (by omega)) <| al_cons ix0_ok <| al_cons Nat.zero_lt_one <| al_cons (Nat.le_refl 1) <| al_cons as4_ok <| al_nil) (by kernel_rfl)
end Go.Proofs.YthnojkbkojpadaaGreat

namespace Go.Proofs.YthnojkbkojpadaaGreat
open Go.RowKit Go.Sx Go.Lp
set_option maxRecDepth 100000
theorem nd10001111:(((((((((tOf).kOf [0]).kOf []).kOf []).kOf []).kOf [0]).kOf [0]).kOf [0]).kOf [0]).Holds (·=([pa0],0)):=Tr.leaf_holds default (by rw[show (((((((((tOf).kOf [0]).kOf []).kOf []).kOf []).kOf [0]).kOf [0]).kOf [0]).kOf [0]).asksC=[ix0,ix0,0<1,ix0,0<1,ix0,as3,1≤1,gr0 56,ix0,0<1,1≤1,as4] by kernel_rfl];exact al_cons ix0_ok <| al_cons ix0_ok <| al_cons Nat.zero_lt_one <| al_cons ix0_ok <| al_cons Nat.zero_lt_one <| al_cons ix0_ok <| al_cons as3_ok <| al_cons (Nat.le_refl 1) <| al_cons (gr0_ok (by omega)) <| al_cons ix0_ok <| al_cons Nat.zero_lt_one <| al_cons (Nat.le_refl 1) <| al_cons as4_ok <| al_nil) (by kernel_rfl)
theorem nd11001111:(((((((((tOf).kOf [0]).kOf [0]).kOf []).kOf []).kOf [0]).kOf [0]).kOf [0]).kOf [0]).Holds (·=([pa0],0)):=Tr.leaf_holds default (by rw[show (((((((((tOf).kOf [0]).kOf [0]).kOf []).kOf []).kOf [0]).kOf [0]).kOf [0]).kOf [0]).asksC=[ix0,ix0,0<1,ix0,0<1,ix0,as3,1≤1,gr0 56,ix0,0<1,1≤1,as4] by kernel_rfl];exact al_cons ix0_ok <| al_cons ix0_ok <| al_cons Nat.zero_lt_one <| al_cons ix0_ok <| al_cons Nat.zero_lt_one <| al_cons ix0_ok <| al_cons as3_ok <| al_cons (Nat.le_refl 1) <| al_cons (gr0_ok (by omega)) <| al_cons ix0_ok <| al_cons Nat.zero_lt_one <| al_cons (Nat.le_refl 1) <| al_cons as4_ok <| al_nil) (by kernel_rfl)
theorem nd0001111:((((((((tOf).kOf []).kOf []).kOf []).kOf [0]).kOf [0]).kOf [0]).kOf [0]).Holds (·=([pa0],0)):=Tr.leaf_holds default (by rw[show ((((((((tOf).kOf []).kOf []).kOf []).kOf [0]).kOf [0]).kOf [0]).kOf [0]).asksC=[ix0,ix0,0<1,ix0,0<1,ix0,as3,1≤1,gr0 56,ix0,0<1,1≤1,as4] by kernel_rfl];exact al_cons ix0_ok <| al_cons ix0_ok <| al_cons Nat.zero_lt_one <| al_cons ix0_ok <| al_cons Nat.zero_lt_one <| al_cons ix0_ok <| al_cons as3_ok <| al_cons (Nat.le_refl 1) <| al_cons (gr0_ok (by omega)) <| al_cons ix0_ok <| al_cons Nat.zero_lt_one <| al_cons (Nat.le_refl 1) <| al_cons as4_ok <| al_nil) (by kernel_rfl)
theorem nd1100001:((((((((tOf).kOf [0]).kOf [0]).kOf []).kOf []).kOf []).kOf []).kOf [0]).Holds (·=([pa0],0)):=Tr.leaf_holds default (by rw[show ((((((((tOf).kOf [0]).kOf [0]).kOf []).kOf []).kOf []).kOf []).kOf [0]).asksC=[ix0,ix0,0<1,ix0,0<1,as3,ix0,1≤1,gr0 56,ix0,0<1,1≤1,as4] by kernel_rfl];exact al_cons ix0_ok <| al_cons ix0_ok <| al_cons Nat.zero_lt_one <| al_cons ix0_ok <| al_cons Nat.zero_lt_one <| al_cons as3_ok <| al_cons ix0_ok <| al_cons (Nat.le_refl 1) <| al_cons (gr0_ok (by omega)) <| al_cons ix0_ok <| al_cons Nat.zero_lt_one <| al_cons (Nat.le_refl 1) <| al_cons as4_ok <| al_nil) (by kernel_rfl)
theorem nd1101111:((((((((tOf).kOf [0]).kOf [0]).kOf []).kOf [0]).kOf [0]).kOf [0]).kOf [0]).Holds (·=([pa0],0)):=Tr.leaf_holds default (by rw[show ((((((((tOf).kOf [0]).kOf [0]).kOf []).kOf [0]).kOf [0]).kOf [0]).kOf [0]).asksC=[ix0,0<1,ix0,0<1,ix0,as3,ix0,1≤1,gr0 56,ix0,0<1,1≤1,as4] by kernel_rfl];exact al_cons ix0_ok <| al_cons Nat.zero_lt_one <| al_cons ix0_ok <| al_cons Nat.zero_lt_one <| al_cons ix0_ok <| al_cons as3_ok <| al_cons ix0_ok <| al_cons (Nat.le_refl 1) <| al_cons (gr0_ok (by omega)) <| al_cons ix0_ok <| al_cons Nat.zero_lt_one <| al_cons (Nat.le_refl 1) <| al_cons as4_ok <| al_nil) (by kernel_rfl)
theorem nd100001:(((((((tOf).kOf [0]).kOf []).kOf []).kOf []).kOf []).kOf [0]).Holds (·=([pa0],0)):=Tr.leaf_holds default (by rw[show (((((((tOf).kOf [0]).kOf []).kOf []).kOf []).kOf []).kOf [0]).asksC=[ix0,ix0,0<1,ix0,0<1,as3,ix0,1≤1,gr0 56,ix0,0<1,1≤1,as4] by kernel_rfl];exact al_cons ix0_ok <| al_cons ix0_ok <| al_cons Nat.zero_lt_one <| al_cons ix0_ok <| al_cons Nat.zero_lt_one <| al_cons as3_ok <| al_cons ix0_ok <| al_cons (Nat.le_refl 1) <| al_cons (gr0_ok (by omega)) <| al_cons ix0_ok <| al_cons Nat.zero_lt_one <| al_cons (Nat.le_refl 1) <| al_cons as4_ok <| al_nil) (by kernel_rfl)
theorem nd110001:(((((((tOf).kOf [0]).kOf [0]).kOf []).kOf []).kOf []).kOf [0]).Holds (·=([pa0],0)):=Tr.leaf_holds default (by rw[show (((((((tOf).kOf [0]).kOf [0]).kOf []).kOf []).kOf []).kOf [0]).asksC=[ix0,ix0,0<1,ix0,0<1,as3,ix0,1≤1,gr0 56,ix0,0<1,1≤1,as4] by kernel_rfl];exact al_cons ix0_ok <| al_cons ix0_ok <| al_cons Nat.zero_lt_one <| al_cons ix0_ok <| al_cons Nat.zero_lt_one <| al_cons as3_ok <| al_cons ix0_ok <| al_cons (Nat.le_refl 1) <| al_cons (gr0_ok (by omega)) <| al_cons ix0_ok <| al_cons Nat.zero_lt_one <| al_cons (Nat.le_refl 1) <| al_cons as4_ok <| al_nil) (by kernel_rfl)
theorem nd00001:((((((tOf).kOf []).kOf []).kOf []).kOf []).kOf [0]).Holds (·=([pa0],0)):=Tr.leaf_holds default (by rw[show ((((((tOf).kOf []).kOf []).kOf []).kOf []).kOf [0]).asksC=[ix0,ix0,0<1,ix0,0<1,as3,ix0,1≤1,gr0 56,ix0,0<1,1≤1,as4] by kernel_rfl];exact al_cons ix0_ok <| al_cons ix0_ok <| al_cons Nat.zero_lt_one <| al_cons ix0_ok <| al_cons Nat.zero_lt_one <| al_cons as3_ok <| al_cons ix0_ok <| al_cons (Nat.le_refl 1) <| al_cons (gr0_ok (by omega)) <| al_cons ix0_ok <| al_cons Nat.zero_lt_one <| al_cons (Nat.le_refl 1) <| al_cons as4_ok <| al_nil) (by kernel_rfl)
end Go.Proofs.YthnojkbkojpadaaGreat

namespace Go.Proofs.YthnojkbkojpadaaGreat
open Go.RowKit Go.Sx Go.Lp
set_option maxRecDepth 100000
theorem nd1000000f:((((((((tOf).kOf [0]).kOf []).kOf []).kOf []).kOf []).kOf []).kOf []).isAll=true∧(∀ p∈((((((((tOf).kOf [0]).kOf []).kOf []).kOf []).kOf []).kOf []).kOf []).asks1,p)∧∀ (x:Nat) (n:List Nat),((((((((tOf).kOf [0]).kOf []).kOf []).kOf []).kOf []).kOf []).kOf []).kOf (x :: n)=((((((((tOf).kOf [0]).kOf []).kOf []).kOf []).kOf []).kOf []).kOf []).kOf [0]:=⟨by kernel_rfl,(by rw[show ((((((((tOf).kOf [0]).kOf []).kOf []).kOf []).kOf []).kOf []).kOf []).asks1=[] by kernel_rfl];exact al_nil),fun x n=>by kernel_rfl⟩
theorem nd1100000f:((((((((tOf).kOf [0]).kOf [0]).kOf []).kOf []).kOf []).kOf []).kOf []).isAll=true∧(∀ p∈((((((((tOf).kOf [0]).kOf [0]).kOf []).kOf []).kOf []).kOf []).kOf []).asks1,p)∧∀ (x:Nat) (n:List Nat),((((((((tOf).kOf [0]).kOf [0]).kOf []).kOf []).kOf []).kOf []).kOf []).kOf (x :: n)=((((((((tOf).kOf [0]).kOf [0]).kOf []).kOf []).kOf []).kOf []).kOf []).kOf [0]:=⟨by kernel_rfl,(by rw[show ((((((((tOf).kOf [0]).kOf [0]).kOf []).kOf []).kOf []).kOf []).kOf []).asks1=[] by kernel_rfl];exact al_nil),fun x n=>by kernel_rfl⟩
theorem nd000000f:(((((((tOf).kOf []).kOf []).kOf []).kOf []).kOf []).kOf []).isAll=true∧(∀ p∈(((((((tOf).kOf []).kOf []).kOf []).kOf []).kOf []).kOf []).asks1,p)∧∀ (x:Nat) (n:List Nat),(((((((tOf).kOf []).kOf []).kOf []).kOf []).kOf []).kOf []).kOf (x :: n)=(((((((tOf).kOf []).kOf []).kOf []).kOf []).kOf []).kOf []).kOf [0]:=⟨by kernel_rfl,(by rw[show (((((((tOf).kOf []).kOf []).kOf []).kOf []).kOf []).kOf []).asks1=[] by kernel_rfl];exact al_nil),fun x n=>by kernel_rfl⟩
theorem nd100000f:(((((((tOf).kOf [0]).kOf []).kOf []).kOf []).kOf []).kOf []).isAll=true∧(∀ p∈(((((((tOf).kOf [0]).kOf []).kOf []).kOf []).kOf []).kOf []).asks1,p)∧∀ (x:Nat) (n:List Nat),(((((((tOf).kOf [0]).kOf []).kOf []).kOf []).kOf []).kOf []).kOf (x :: n)=(((((((tOf).kOf [0]).kOf []).kOf []).kOf []).kOf []).kOf []).kOf [0]:=⟨by kernel_rfl,(by rw[show (((((((tOf).kOf [0]).kOf []).kOf []).kOf []).kOf []).kOf []).asks1=[] by kernel_rfl];exact al_nil),fun x n=>by kernel_rfl⟩
theorem nd10000f:((((((tOf).kOf [0]).kOf []).kOf []).kOf []).kOf []).isAll=true∧(∀ p∈((((((tOf).kOf [0]).kOf []).kOf []).kOf []).kOf []).asks1,p)∧∀ (x:Nat) (n:List Nat),((((((tOf).kOf [0]).kOf []).kOf []).kOf []).kOf []).kOf (x :: n)=((((((tOf).kOf [0]).kOf []).kOf []).kOf []).kOf []).kOf [0]:=⟨by kernel_rfl,(by rw[show ((((((tOf).kOf [0]).kOf []).kOf []).kOf []).kOf []).asks1=[] by kernel_rfl];exact al_nil),fun x n=>by kernel_rfl⟩
theorem nd11000f:((((((tOf).kOf [0]).kOf [0]).kOf []).kOf []).kOf []).isAll=true∧(∀ p∈((((((tOf).kOf [0]).kOf [0]).kOf []).kOf []).kOf []).asks1,p)∧∀ (x:Nat) (n:List Nat),((((((tOf).kOf [0]).kOf [0]).kOf []).kOf []).kOf []).kOf (x :: n)=((((((tOf).kOf [0]).kOf [0]).kOf []).kOf []).kOf []).kOf [0]:=⟨by kernel_rfl,(by rw[show ((((((tOf).kOf [0]).kOf [0]).kOf []).kOf []).kOf []).asks1=[] by kernel_rfl];exact al_nil),fun x n=>by kernel_rfl⟩
theorem nd0000f:(((((tOf).kOf []).kOf []).kOf []).kOf []).isAll=true∧(∀ p∈(((((tOf).kOf []).kOf []).kOf []).kOf []).asks1,p)∧∀ (x:Nat) (n:List Nat),(((((tOf).kOf []).kOf []).kOf []).kOf []).kOf (x :: n)=(((((tOf).kOf []).kOf []).kOf []).kOf []).kOf [0]:=⟨by kernel_rfl,(by rw[show (((((tOf).kOf []).kOf []).kOf []).kOf []).asks1=[] by kernel_rfl];exact al_nil),fun x n=>by kernel_rfl⟩
theorem nd1000f:(((((tOf).kOf [0]).kOf []).kOf []).kOf []).isAll=true∧(∀ p∈(((((tOf).kOf [0]).kOf []).kOf []).kOf []).asks1,p)∧∀ (x:Nat) (n:List Nat),(((((tOf).kOf [0]).kOf []).kOf []).kOf []).kOf (x :: n)=(((((tOf).kOf [0]).kOf []).kOf []).kOf []).kOf [0]:=⟨by kernel_rfl,(by rw[show (((((tOf).kOf [0]).kOf []).kOf []).kOf []).asks1=[] by kernel_rfl];exact al_nil),fun x n=>by kernel_rfl⟩
theorem nd100f:((((tOf).kOf [0]).kOf []).kOf []).isAll=true∧(∀ p∈((((tOf).kOf [0]).kOf []).kOf []).asks1,p)∧∀ (x:Nat) (n:List Nat),((((tOf).kOf [0]).kOf []).kOf []).kOf (x :: n)=((((tOf).kOf [0]).kOf []).kOf []).kOf [0]:=⟨by kernel_rfl,(by rw[show ((((tOf).kOf [0]).kOf []).kOf []).asks1=[] by kernel_rfl];exact al_nil),fun x n=>by kernel_rfl⟩
theorem nd10f:(((tOf).kOf [0]).kOf []).isAll=true∧(∀ p∈(((tOf).kOf [0]).kOf []).asks1,p)∧∀ (x:Nat) (n:List Nat),(((tOf).kOf [0]).kOf []).kOf (x :: n)=(((tOf).kOf [0]).kOf []).kOf [0]:=⟨by kernel_rfl,(by rw[show (((tOf).kOf [0]).kOf []).asks1=[as1,gr0 24,ix0,1≤1,as2,ix0,0<1,ix0,1≤1,as2,ix0,ix0,0<1,ix0,0<1,ix0,0<1,ix0,0<1] by kernel_rfl];exact al_cons as1_ok <| al_cons (gr0_ok (by omega)) <| al_cons ix0_ok <| al_cons (Nat.le_refl 1) <| al_cons as2_ok <| al_cons ix0_ok <| al_cons Nat.zero_lt_one <| al_cons ix0_ok <| al_cons (Nat.le_refl 1) <| al_cons as2_ok <| al_cons ix0_ok <| al_cons ix0_ok <| al_cons Nat.zero_lt_one <| al_cons ix0_ok <| al_cons Nat.zero_lt_one <| al_cons ix0_ok <| al_cons Nat.zero_lt_one <| al_cons ix0_ok <| al_cons Nat.zero_lt_one <| al_nil),fun x n=>by kernel_rfl⟩
end Go.Proofs.YthnojkbkojpadaaGreat

namespace Go.Proofs.YthnojkbkojpadaaGreat
open Go.RowKit Go.Sx Go.Lp
set_option maxRecDepth 100000
theorem nd110111f:(((((((tOf).kOf [0]).kOf [0]).kOf []).kOf [0]).kOf [0]).kOf [0]).isAll=true∧(∀ p∈(((((((tOf).kOf [0]).kOf [0]).kOf []).kOf [0]).kOf [0]).kOf [0]).asks1,p)∧∀ (x:Nat) (n:List Nat),(((((((tOf).kOf [0]).kOf [0]).kOf []).kOf [0]).kOf [0]).kOf [0]).kOf (x :: n)=(((((((tOf).kOf [0]).kOf [0]).kOf []).kOf [0]).kOf [0]).kOf [0]).kOf [0]:=⟨by kernel_rfl,(by rw[show (((((((tOf).kOf [0]).kOf [0]).kOf []).kOf [0]).kOf [0]).kOf [0]).asks1=[] by kernel_rfl];exact al_nil),fun x n=>by kernel_rfl⟩
theorem nd00011f:((((((tOf).kOf []).kOf []).kOf []).kOf [0]).kOf [0]).isAll=true∧(∀ p∈((((((tOf).kOf []).kOf []).kOf []).kOf [0]).kOf [0]).asks1,p)∧∀ (x:Nat) (n:List Nat),((((((tOf).kOf []).kOf []).kOf []).kOf [0]).kOf [0]).kOf (x :: n)=((((((tOf).kOf []).kOf []).kOf []).kOf [0]).kOf [0]).kOf [0]:=⟨by kernel_rfl,(by rw[show ((((((tOf).kOf []).kOf []).kOf []).kOf [0]).kOf [0]).asks1=[] by kernel_rfl];exact al_nil),fun x n=>by kernel_rfl⟩
theorem nd10001f:((((((tOf).kOf [0]).kOf []).kOf []).kOf []).kOf [0]).isAll=true∧(∀ p∈((((((tOf).kOf [0]).kOf []).kOf []).kOf []).kOf [0]).asks1,p)∧∀ (x:Nat) (n:List Nat),((((((tOf).kOf [0]).kOf []).kOf []).kOf []).kOf [0]).kOf (x :: n)=((((((tOf).kOf [0]).kOf []).kOf []).kOf []).kOf [0]).kOf [0]:=⟨by kernel_rfl,(by rw[show ((((((tOf).kOf [0]).kOf []).kOf []).kOf []).kOf [0]).asks1=[] by kernel_rfl];exact al_nil),fun x n=>by kernel_rfl⟩
theorem nd11001f:((((((tOf).kOf [0]).kOf [0]).kOf []).kOf []).kOf [0]).isAll=true∧(∀ p∈((((((tOf).kOf [0]).kOf [0]).kOf []).kOf []).kOf [0]).asks1,p)∧∀ (x:Nat) (n:List Nat),((((((tOf).kOf [0]).kOf [0]).kOf []).kOf []).kOf [0]).kOf (x :: n)=((((((tOf).kOf [0]).kOf [0]).kOf []).kOf []).kOf [0]).kOf [0]:=⟨by kernel_rfl,(by rw[show ((((((tOf).kOf [0]).kOf [0]).kOf []).kOf []).kOf [0]).asks1=[] by kernel_rfl];exact al_nil),fun x n=>by kernel_rfl⟩
theorem nd0001f:(((((tOf).kOf []).kOf []).kOf []).kOf [0]).isAll=true∧(∀ p∈(((((tOf).kOf []).kOf []).kOf []).kOf [0]).asks1,p)∧∀ (x:Nat) (n:List Nat),(((((tOf).kOf []).kOf []).kOf []).kOf [0]).kOf (x :: n)=(((((tOf).kOf []).kOf []).kOf []).kOf [0]).kOf [0]:=⟨by kernel_rfl,(by rw[show (((((tOf).kOf []).kOf []).kOf []).kOf [0]).asks1=[] by kernel_rfl];exact al_nil),fun x n=>by kernel_rfl⟩
theorem nd1001f:(((((tOf).kOf [0]).kOf []).kOf []).kOf [0]).isAll=true∧(∀ p∈(((((tOf).kOf [0]).kOf []).kOf []).kOf [0]).asks1,p)∧∀ (x:Nat) (n:List Nat),(((((tOf).kOf [0]).kOf []).kOf []).kOf [0]).kOf (x :: n)=(((((tOf).kOf [0]).kOf []).kOf []).kOf [0]).kOf [0]:=⟨by kernel_rfl,(by rw[show (((((tOf).kOf [0]).kOf []).kOf []).kOf [0]).asks1=[] by kernel_rfl];exact al_nil),fun x n=>by kernel_rfl⟩
theorem nd1111f:(((((tOf).kOf [0]).kOf [0]).kOf [0]).kOf [0]).isAll=true∧(∀ p∈(((((tOf).kOf [0]).kOf [0]).kOf [0]).kOf [0]).asks1,p)∧∀ (x:Nat) (n:List Nat),(((((tOf).kOf [0]).kOf [0]).kOf [0]).kOf [0]).kOf (x :: n)=(((((tOf).kOf [0]).kOf [0]).kOf [0]).kOf [0]).kOf [0]:=⟨by kernel_rfl,(by rw[show (((((tOf).kOf [0]).kOf [0]).kOf [0]).kOf [0]).asks1=[] by kernel_rfl];exact al_nil),fun x n=>by kernel_rfl⟩
theorem nd101f:((((tOf).kOf [0]).kOf []).kOf [0]).isAll=true∧(∀ p∈((((tOf).kOf [0]).kOf []).kOf [0]).asks1,p)∧∀ (x:Nat) (n:List Nat),((((tOf).kOf [0]).kOf []).kOf [0]).kOf (x :: n)=((((tOf).kOf [0]).kOf []).kOf [0]).kOf [0]:=⟨by kernel_rfl,(by rw[show ((((tOf).kOf [0]).kOf []).kOf [0]).asks1=[] by kernel_rfl];exact al_nil),fun x n=>by kernel_rfl⟩
theorem nd11f:(((tOf).kOf [0]).kOf [0]).isAll=true∧(∀ p∈(((tOf).kOf [0]).kOf [0]).asks1,p)∧∀ (x:Nat) (n:List Nat),(((tOf).kOf [0]).kOf [0]).kOf (x :: n)=(((tOf).kOf [0]).kOf [0]).kOf [0]:=⟨by kernel_rfl,(by rw[show (((tOf).kOf [0]).kOf [0]).asks1=[as1,gr0 24,ix0,1≤1,as2,ix0,0<1,ix0,1≤1,as2,ix0,ix0,0<1,ix0,0<1,ix0,0<1,ix0,0<1] by kernel_rfl];exact al_cons as1_ok <| al_cons (gr0_ok (by omega)) <| al_cons ix0_ok <| al_cons (Nat.le_refl 1) <| al_cons as2_ok <| al_cons ix0_ok <| al_cons Nat.zero_lt_one <| al_cons ix0_ok <| al_cons (Nat.le_refl 1) <| al_cons as2_ok <| al_cons ix0_ok <| al_cons ix0_ok <| al_cons Nat.zero_lt_one <| al_cons ix0_ok <| al_cons Nat.zero_lt_one <| al_cons ix0_ok <| al_cons Nat.zero_lt_one <| al_cons ix0_ok <| al_cons Nat.zero_lt_one <| al_nil),fun x n=>by kernel_rfl⟩
end Go.Proofs.YthnojkbkojpadaaGreat

namespace Go.Proofs.YthnojkbkojpadaaGreat
open Go.RowKit Go.Sx Go.Lp
set_option maxRecDepth 100000
theorem nd110000f:(((((((tOf).kOf [0]).kOf [0]).kOf []).kOf []).kOf []).kOf []).isAll=true∧(∀ p∈(((((((tOf).kOf [0]).kOf [0]).kOf []).kOf []).kOf []).kOf []).asks1,p)∧∀ (x:Nat) (n:List Nat),(((((((tOf).kOf [0]).kOf [0]).kOf []).kOf []).kOf []).kOf []).kOf (x :: n)=(((((((tOf).kOf [0]).kOf [0]).kOf []).kOf []).kOf []).kOf []).kOf [0]:=⟨by kernel_rfl,(by rw[show (((((((tOf).kOf [0]).kOf [0]).kOf []).kOf []).kOf []).kOf []).asks1=[] by kernel_rfl];exact al_nil),fun x n=>by kernel_rfl⟩
theorem nd000f:((((tOf).kOf []).kOf []).kOf []).isAll=true∧(∀ p∈((((tOf).kOf []).kOf []).kOf []).asks1,p)∧∀ (x:Nat) (n:List Nat),((((tOf).kOf []).kOf []).kOf []).kOf (x :: n)=((((tOf).kOf []).kOf []).kOf []).kOf [0]:=⟨by kernel_rfl,(by rw[show ((((tOf).kOf []).kOf []).kOf []).asks1=[] by kernel_rfl];exact al_nil),fun x n=>by kernel_rfl⟩
theorem nd110f:((((tOf).kOf [0]).kOf [0]).kOf []).isAll=true∧(∀ p∈((((tOf).kOf [0]).kOf [0]).kOf []).asks1,p)∧∀ (x:Nat) (n:List Nat),((((tOf).kOf [0]).kOf [0]).kOf []).kOf (x :: n)=((((tOf).kOf [0]).kOf [0]).kOf []).kOf [0]:=⟨by kernel_rfl,(by rw[show ((((tOf).kOf [0]).kOf [0]).kOf []).asks1=[] by kernel_rfl];exact al_nil),fun x n=>by kernel_rfl⟩
theorem nd0f:((tOf).kOf []).isAll=true∧(∀ p∈((tOf).kOf []).asks1,p)∧∀ (x:Nat) (n:List Nat),((tOf).kOf []).kOf (x :: n)=((tOf).kOf []).kOf [0]:=⟨by kernel_rfl,(by rw[show ((tOf).kOf []).asks1=[as1,gr0 24,ix0,1≤1,as2,ix0,0<1,ix0,1≤1,as2,ix0,ix0,0<1,ix0,0<1,ix0,0<1,ix0,0<1] by kernel_rfl];exact al_cons as1_ok <| al_cons (gr0_ok (by omega)) <| al_cons ix0_ok <| al_cons (Nat.le_refl 1) <| al_cons as2_ok <| al_cons ix0_ok <| al_cons Nat.zero_lt_one <| al_cons ix0_ok <| al_cons (Nat.le_refl 1) <| al_cons as2_ok <| al_cons ix0_ok <| al_cons ix0_ok <| al_cons Nat.zero_lt_one <| al_cons ix0_ok <| al_cons Nat.zero_lt_one <| al_cons ix0_ok <| al_cons Nat.zero_lt_one <| al_cons ix0_ok <| al_cons Nat.zero_lt_one <| al_nil),fun x n=>by kernel_rfl⟩
end Go.Proofs.YthnojkbkojpadaaGreat

namespace Go.Proofs.YthnojkbkojpadaaGreat
open Go.RowKit Go.Sx Go.Lp
set_option maxRecDepth 100000
theorem nd1000111f:((((((((tOf).kOf [0]).kOf []).kOf []).kOf []).kOf [0]).kOf [0]).kOf [0]).isAll=true∧(∀ p∈((((((((tOf).kOf [0]).kOf []).kOf []).kOf []).kOf [0]).kOf [0]).kOf [0]).asks1,p)∧∀ (x:Nat) (n:List Nat),((((((((tOf).kOf [0]).kOf []).kOf []).kOf []).kOf [0]).kOf [0]).kOf [0]).kOf (x :: n)=((((((((tOf).kOf [0]).kOf []).kOf []).kOf []).kOf [0]).kOf [0]).kOf [0]).kOf [0]:=⟨by kernel_rfl,(by rw[show ((((((((tOf).kOf [0]).kOf []).kOf []).kOf []).kOf [0]).kOf [0]).kOf [0]).asks1=[] by kernel_rfl];exact al_nil),fun x n=>by kernel_rfl⟩
theorem nd1100111f:((((((((tOf).kOf [0]).kOf [0]).kOf []).kOf []).kOf [0]).kOf [0]).kOf [0]).isAll=true∧(∀ p∈((((((((tOf).kOf [0]).kOf [0]).kOf []).kOf []).kOf [0]).kOf [0]).kOf [0]).asks1,p)∧∀ (x:Nat) (n:List Nat),((((((((tOf).kOf [0]).kOf [0]).kOf []).kOf []).kOf [0]).kOf [0]).kOf [0]).kOf (x :: n)=((((((((tOf).kOf [0]).kOf [0]).kOf []).kOf []).kOf [0]).kOf [0]).kOf [0]).kOf [0]:=⟨by kernel_rfl,(by rw[show ((((((((tOf).kOf [0]).kOf [0]).kOf []).kOf []).kOf [0]).kOf [0]).kOf [0]).asks1=[] by kernel_rfl];exact al_nil),fun x n=>by kernel_rfl⟩
theorem nd000111f:(((((((tOf).kOf []).kOf []).kOf []).kOf [0]).kOf [0]).kOf [0]).isAll=true∧(∀ p∈(((((((tOf).kOf []).kOf []).kOf []).kOf [0]).kOf [0]).kOf [0]).asks1,p)∧∀ (x:Nat) (n:List Nat),(((((((tOf).kOf []).kOf []).kOf []).kOf [0]).kOf [0]).kOf [0]).kOf (x :: n)=(((((((tOf).kOf []).kOf []).kOf []).kOf [0]).kOf [0]).kOf [0]).kOf [0]:=⟨by kernel_rfl,(by rw[show (((((((tOf).kOf []).kOf []).kOf []).kOf [0]).kOf [0]).kOf [0]).asks1=[] by kernel_rfl];exact al_nil),fun x n=>by kernel_rfl⟩
theorem nd100011f:(((((((tOf).kOf [0]).kOf []).kOf []).kOf []).kOf [0]).kOf [0]).isAll=true∧(∀ p∈(((((((tOf).kOf [0]).kOf []).kOf []).kOf []).kOf [0]).kOf [0]).asks1,p)∧∀ (x:Nat) (n:List Nat),(((((((tOf).kOf [0]).kOf []).kOf []).kOf []).kOf [0]).kOf [0]).kOf (x :: n)=(((((((tOf).kOf [0]).kOf []).kOf []).kOf []).kOf [0]).kOf [0]).kOf [0]:=⟨by kernel_rfl,(by rw[show (((((((tOf).kOf [0]).kOf []).kOf []).kOf []).kOf [0]).kOf [0]).asks1=[] by kernel_rfl];exact al_nil),fun x n=>by kernel_rfl⟩
theorem nd00111f:((((((tOf).kOf []).kOf []).kOf [0]).kOf [0]).kOf [0]).isAll=true∧(∀ p∈((((((tOf).kOf []).kOf []).kOf [0]).kOf [0]).kOf [0]).asks1,p)∧∀ (x:Nat) (n:List Nat),((((((tOf).kOf []).kOf []).kOf [0]).kOf [0]).kOf [0]).kOf (x :: n)=((((((tOf).kOf []).kOf []).kOf [0]).kOf [0]).kOf [0]).kOf [0]:=⟨by kernel_rfl,(by rw[show ((((((tOf).kOf []).kOf []).kOf [0]).kOf [0]).kOf [0]).asks1=[] by kernel_rfl];exact al_nil),fun x n=>by kernel_rfl⟩
theorem nd10011f:((((((tOf).kOf [0]).kOf []).kOf []).kOf [0]).kOf [0]).isAll=true∧(∀ p∈((((((tOf).kOf [0]).kOf []).kOf []).kOf [0]).kOf [0]).asks1,p)∧∀ (x:Nat) (n:List Nat),((((((tOf).kOf [0]).kOf []).kOf []).kOf [0]).kOf [0]).kOf (x :: n)=((((((tOf).kOf [0]).kOf []).kOf []).kOf [0]).kOf [0]).kOf [0]:=⟨by kernel_rfl,(by rw[show ((((((tOf).kOf [0]).kOf []).kOf []).kOf [0]).kOf [0]).asks1=[] by kernel_rfl];exact al_nil),fun x n=>by kernel_rfl⟩
theorem nd11011f:((((((tOf).kOf [0]).kOf [0]).kOf []).kOf [0]).kOf [0]).isAll=true∧(∀ p∈((((((tOf).kOf [0]).kOf [0]).kOf []).kOf [0]).kOf [0]).asks1,p)∧∀ (x:Nat) (n:List Nat),((((((tOf).kOf [0]).kOf [0]).kOf []).kOf [0]).kOf [0]).kOf (x :: n)=((((((tOf).kOf [0]).kOf [0]).kOf []).kOf [0]).kOf [0]).kOf [0]:=⟨by kernel_rfl,(by rw[show ((((((tOf).kOf [0]).kOf [0]).kOf []).kOf [0]).kOf [0]).asks1=[] by kernel_rfl];exact al_nil),fun x n=>by kernel_rfl⟩
theorem nd0011f:(((((tOf).kOf []).kOf []).kOf [0]).kOf [0]).isAll=true∧(∀ p∈(((((tOf).kOf []).kOf []).kOf [0]).kOf [0]).asks1,p)∧∀ (x:Nat) (n:List Nat),(((((tOf).kOf []).kOf []).kOf [0]).kOf [0]).kOf (x :: n)=(((((tOf).kOf []).kOf []).kOf [0]).kOf [0]).kOf [0]:=⟨by kernel_rfl,(by rw[show (((((tOf).kOf []).kOf []).kOf [0]).kOf [0]).asks1=[] by kernel_rfl];exact al_nil),fun x n=>by kernel_rfl⟩
theorem nd1011f:(((((tOf).kOf [0]).kOf []).kOf [0]).kOf [0]).isAll=true∧(∀ p∈(((((tOf).kOf [0]).kOf []).kOf [0]).kOf [0]).asks1,p)∧∀ (x:Nat) (n:List Nat),(((((tOf).kOf [0]).kOf []).kOf [0]).kOf [0]).kOf (x :: n)=(((((tOf).kOf [0]).kOf []).kOf [0]).kOf [0]).kOf [0]:=⟨by kernel_rfl,(by rw[show (((((tOf).kOf [0]).kOf []).kOf [0]).kOf [0]).asks1=[] by kernel_rfl];exact al_nil),fun x n=>by kernel_rfl⟩
theorem nd001f:((((tOf).kOf []).kOf []).kOf [0]).isAll=true∧(∀ p∈((((tOf).kOf []).kOf []).kOf [0]).asks1,p)∧∀ (x:Nat) (n:List Nat),((((tOf).kOf []).kOf []).kOf [0]).kOf (x :: n)=((((tOf).kOf []).kOf []).kOf [0]).kOf [0]:=⟨by kernel_rfl,(by rw[show ((((tOf).kOf []).kOf []).kOf [0]).asks1=[] by kernel_rfl];exact al_nil),fun x n=>by kernel_rfl⟩
theorem nd111f:((((tOf).kOf [0]).kOf [0]).kOf [0]).isAll=true∧(∀ p∈((((tOf).kOf [0]).kOf [0]).kOf [0]).asks1,p)∧∀ (x:Nat) (n:List Nat),((((tOf).kOf [0]).kOf [0]).kOf [0]).kOf (x :: n)=((((tOf).kOf [0]).kOf [0]).kOf [0]).kOf [0]:=⟨by kernel_rfl,(by rw[show ((((tOf).kOf [0]).kOf [0]).kOf [0]).asks1=[] by kernel_rfl];exact al_nil),fun x n=>by kernel_rfl⟩
theorem nd1f:((tOf).kOf [0]).isAll=true∧(∀ p∈((tOf).kOf [0]).asks1,p)∧∀ (x:Nat) (n:List Nat),((tOf).kOf [0]).kOf (x :: n)=((tOf).kOf [0]).kOf [0]:=⟨by kernel_rfl,(by rw[show ((tOf).kOf [0]).asks1=[] by kernel_rfl];exact al_nil),fun x n=>by kernel_rfl⟩
end Go.Proofs.YthnojkbkojpadaaGreat

namespace Go.Proofs.YthnojkbkojpadaaGreat
open Go.RowKit Go.Sx Go.Lp
set_option maxRecDepth 100000
theorem nd00000f:((((((tOf).kOf []).kOf []).kOf []).kOf []).kOf []).isAll=true∧(∀ p∈((((((tOf).kOf []).kOf []).kOf []).kOf []).kOf []).asks1,p)∧∀ (x:Nat) (n:List Nat),((((((tOf).kOf []).kOf []).kOf []).kOf []).kOf []).kOf (x :: n)=((((((tOf).kOf []).kOf []).kOf []).kOf []).kOf []).kOf [0]:=⟨by kernel_rfl,(by rw[show ((((((tOf).kOf []).kOf []).kOf []).kOf []).kOf []).asks1=[] by kernel_rfl];exact al_nil),fun x n=>by kernel_rfl⟩
theorem nd1100f:(((((tOf).kOf [0]).kOf [0]).kOf []).kOf []).isAll=true∧(∀ p∈(((((tOf).kOf [0]).kOf [0]).kOf []).kOf []).asks1,p)∧∀ (x:Nat) (n:List Nat),(((((tOf).kOf [0]).kOf [0]).kOf []).kOf []).kOf (x :: n)=(((((tOf).kOf [0]).kOf [0]).kOf []).kOf []).kOf [0]:=⟨by kernel_rfl,(by rw[show (((((tOf).kOf [0]).kOf [0]).kOf []).kOf []).asks1=[] by kernel_rfl];exact al_nil),fun x n=>by kernel_rfl⟩
theorem nd00f:(((tOf).kOf []).kOf []).isAll=true∧(∀ p∈(((tOf).kOf []).kOf []).asks1,p)∧∀ (x:Nat) (n:List Nat),(((tOf).kOf []).kOf []).kOf (x :: n)=(((tOf).kOf []).kOf []).kOf [0]:=⟨by kernel_rfl,(by rw[show (((tOf).kOf []).kOf []).asks1=[] by kernel_rfl];exact al_nil),fun x n=>by kernel_rfl⟩
theorem ndf:(tOf).isAll=true∧(∀ p∈(tOf).asks1,p)∧∀ (x:Nat) (n:List Nat),(tOf).kOf (x :: n)=(tOf).kOf [0]:=⟨by kernel_rfl,(by rw[show (tOf).asks1=[as6,as5] by kernel_rfl];exact al_cons as6_ok <| al_cons as5_ok <| al_nil),fun x n=>by kernel_rfl⟩
end Go.Proofs.YthnojkbkojpadaaGreat

namespace Go.Proofs.YthnojkbkojpadaaGreat
open Go.RowKit Go.Sx Go.Lp
set_option maxRecDepth 100000
theorem nd100111f:(((((((tOf).kOf [0]).kOf []).kOf []).kOf [0]).kOf [0]).kOf [0]).isAll=true∧(∀ p∈(((((((tOf).kOf [0]).kOf []).kOf []).kOf [0]).kOf [0]).kOf [0]).asks1,p)∧∀ (x:Nat) (n:List Nat),(((((((tOf).kOf [0]).kOf []).kOf []).kOf [0]).kOf [0]).kOf [0]).kOf (x :: n)=(((((((tOf).kOf [0]).kOf []).kOf []).kOf [0]).kOf [0]).kOf [0]).kOf [0]:=⟨by kernel_rfl,(by rw[show (((((((tOf).kOf [0]).kOf []).kOf []).kOf [0]).kOf [0]).kOf [0]).asks1=[] by kernel_rfl];exact al_nil),fun x n=>by kernel_rfl⟩
theorem nd110011f:(((((((tOf).kOf [0]).kOf [0]).kOf []).kOf []).kOf [0]).kOf [0]).isAll=true∧(∀ p∈(((((((tOf).kOf [0]).kOf [0]).kOf []).kOf []).kOf [0]).kOf [0]).asks1,p)∧∀ (x:Nat) (n:List Nat),(((((((tOf).kOf [0]).kOf [0]).kOf []).kOf []).kOf [0]).kOf [0]).kOf (x :: n)=(((((((tOf).kOf [0]).kOf [0]).kOf []).kOf []).kOf [0]).kOf [0]).kOf [0]:=⟨by kernel_rfl,(by rw[show (((((((tOf).kOf [0]).kOf [0]).kOf []).kOf []).kOf [0]).kOf [0]).asks1=[] by kernel_rfl];exact al_nil),fun x n=>by kernel_rfl⟩
theorem nd10111f:((((((tOf).kOf [0]).kOf []).kOf [0]).kOf [0]).kOf [0]).isAll=true∧(∀ p∈((((((tOf).kOf [0]).kOf []).kOf [0]).kOf [0]).kOf [0]).asks1,p)∧∀ (x:Nat) (n:List Nat),((((((tOf).kOf [0]).kOf []).kOf [0]).kOf [0]).kOf [0]).kOf (x :: n)=((((((tOf).kOf [0]).kOf []).kOf [0]).kOf [0]).kOf [0]).kOf [0]:=⟨by kernel_rfl,(by rw[show ((((((tOf).kOf [0]).kOf []).kOf [0]).kOf [0]).kOf [0]).asks1=[] by kernel_rfl];exact al_nil),fun x n=>by kernel_rfl⟩
theorem nd11111f:((((((tOf).kOf [0]).kOf [0]).kOf [0]).kOf [0]).kOf [0]).isAll=true∧(∀ p∈((((((tOf).kOf [0]).kOf [0]).kOf [0]).kOf [0]).kOf [0]).asks1,p)∧∀ (x:Nat) (n:List Nat),((((((tOf).kOf [0]).kOf [0]).kOf [0]).kOf [0]).kOf [0]).kOf (x :: n)=((((((tOf).kOf [0]).kOf [0]).kOf [0]).kOf [0]).kOf [0]).kOf [0]:=⟨by kernel_rfl,(by rw[show ((((((tOf).kOf [0]).kOf [0]).kOf [0]).kOf [0]).kOf [0]).asks1=[] by kernel_rfl];exact al_nil),fun x n=>by kernel_rfl⟩
theorem nd0111f:(((((tOf).kOf []).kOf [0]).kOf [0]).kOf [0]).isAll=true∧(∀ p∈(((((tOf).kOf []).kOf [0]).kOf [0]).kOf [0]).asks1,p)∧∀ (x:Nat) (n:List Nat),(((((tOf).kOf []).kOf [0]).kOf [0]).kOf [0]).kOf (x :: n)=(((((tOf).kOf []).kOf [0]).kOf [0]).kOf [0]).kOf [0]:=⟨by kernel_rfl,(by rw[show (((((tOf).kOf []).kOf [0]).kOf [0]).kOf [0]).asks1=[] by kernel_rfl];exact al_nil),fun x n=>by kernel_rfl⟩
theorem nd1101f:(((((tOf).kOf [0]).kOf [0]).kOf []).kOf [0]).isAll=true∧(∀ p∈(((((tOf).kOf [0]).kOf [0]).kOf []).kOf [0]).asks1,p)∧∀ (x:Nat) (n:List Nat),(((((tOf).kOf [0]).kOf [0]).kOf []).kOf [0]).kOf (x :: n)=(((((tOf).kOf [0]).kOf [0]).kOf []).kOf [0]).kOf [0]:=⟨by kernel_rfl,(by rw[show (((((tOf).kOf [0]).kOf [0]).kOf []).kOf [0]).asks1=[] by kernel_rfl];exact al_nil),fun x n=>by kernel_rfl⟩
theorem nd011f:((((tOf).kOf []).kOf [0]).kOf [0]).isAll=true∧(∀ p∈((((tOf).kOf []).kOf [0]).kOf [0]).asks1,p)∧∀ (x:Nat) (n:List Nat),((((tOf).kOf []).kOf [0]).kOf [0]).kOf (x :: n)=((((tOf).kOf []).kOf [0]).kOf [0]).kOf [0]:=⟨by kernel_rfl,(by rw[show ((((tOf).kOf []).kOf [0]).kOf [0]).asks1=[] by kernel_rfl];exact al_nil),fun x n=>by kernel_rfl⟩
theorem nd01f:(((tOf).kOf []).kOf [0]).isAll=true∧(∀ p∈(((tOf).kOf []).kOf [0]).asks1,p)∧∀ (x:Nat) (n:List Nat),(((tOf).kOf []).kOf [0]).kOf (x :: n)=(((tOf).kOf []).kOf [0]).kOf [0]:=⟨by kernel_rfl,(by rw[show (((tOf).kOf []).kOf [0]).asks1=[] by kernel_rfl];exact al_nil),fun x n=>by kernel_rfl⟩
end Go.Proofs.YthnojkbkojpadaaGreat

namespace Go.Proofs.YthnojkbkojpadaaGreat
open Go.RowKit Go.Sx Go.Lp
set_option maxRecDepth 100000
theorem nd1000000:((((((((tOf).kOf [0]).kOf []).kOf []).kOf []).kOf []).kOf []).kOf []).Holds (·=([pa0],0)):=Tr.fork_holds nd1000000f.1 nd1000000f.2.1 nd1000000f.2.2 nd10000000 nd10000001
theorem nd1000111:((((((((tOf).kOf [0]).kOf []).kOf []).kOf []).kOf [0]).kOf [0]).kOf [0]).Holds (·=([pa0],0)):=Tr.fork_holds nd1000111f.1 nd1000111f.2.1 nd1000111f.2.2 nd10001110 nd10001111
theorem nd1100000:((((((((tOf).kOf [0]).kOf [0]).kOf []).kOf []).kOf []).kOf []).kOf []).Holds (·=([pa0],0)):=Tr.fork_holds nd1100000f.1 nd1100000f.2.1 nd1100000f.2.2 nd11000000 nd11000001
theorem nd1100111:((((((((tOf).kOf [0]).kOf [0]).kOf []).kOf []).kOf [0]).kOf [0]).kOf [0]).Holds (·=([pa0],0)):=Tr.fork_holds nd1100111f.1 nd1100111f.2.1 nd1100111f.2.2 nd11001110 nd11001111
theorem nd000000:(((((((tOf).kOf []).kOf []).kOf []).kOf []).kOf []).kOf []).Holds (·=([pa0],0)):=Tr.fork_holds nd000000f.1 nd000000f.2.1 nd000000f.2.2 nd0000000 nd0000001
theorem nd000111:(((((((tOf).kOf []).kOf []).kOf []).kOf [0]).kOf [0]).kOf [0]).Holds (·=([pa0],0)):=Tr.fork_holds nd000111f.1 nd000111f.2.1 nd000111f.2.2 nd0001110 nd0001111
theorem nd100000:(((((((tOf).kOf [0]).kOf []).kOf []).kOf []).kOf []).kOf []).Holds (·=([pa0],0)):=Tr.fork_holds nd100000f.1 nd100000f.2.1 nd100000f.2.2 nd1000000 nd1000001
theorem nd100011:(((((((tOf).kOf [0]).kOf []).kOf []).kOf []).kOf [0]).kOf [0]).Holds (·=([pa0],0)):=Tr.fork_holds nd100011f.1 nd100011f.2.1 nd100011f.2.2 nd1000110 nd1000111
theorem nd100111:(((((((tOf).kOf [0]).kOf []).kOf []).kOf [0]).kOf [0]).kOf [0]).Holds (·=([pa0],0)):=Tr.fork_holds nd100111f.1 nd100111f.2.1 nd100111f.2.2 nd1001110 nd1001111
theorem nd110000:(((((((tOf).kOf [0]).kOf [0]).kOf []).kOf []).kOf []).kOf []).Holds (·=([pa0],0)):=Tr.fork_holds nd110000f.1 nd110000f.2.1 nd110000f.2.2 nd1100000 nd1100001
theorem nd110011:(((((((tOf).kOf [0]).kOf [0]).kOf []).kOf []).kOf [0]).kOf [0]).Holds (·=([pa0],0)):=Tr.fork_holds nd110011f.1 nd110011f.2.1 nd110011f.2.2 nd1100110 nd1100111
theorem nd110111:(((((((tOf).kOf [0]).kOf [0]).kOf []).kOf [0]).kOf [0]).kOf [0]).Holds (·=([pa0],0)):=Tr.fork_holds nd110111f.1 nd110111f.2.1 nd110111f.2.2 nd1101110 nd1101111
theorem nd00000:((((((tOf).kOf []).kOf []).kOf []).kOf []).kOf []).Holds (·=([pa0],0)):=Tr.fork_holds nd00000f.1 nd00000f.2.1 nd00000f.2.2 nd000000 nd000001
theorem nd00011:((((((tOf).kOf []).kOf []).kOf []).kOf [0]).kOf [0]).Holds (·=([pa0],0)):=Tr.fork_holds nd00011f.1 nd00011f.2.1 nd00011f.2.2 nd000110 nd000111
theorem nd00111:((((((tOf).kOf []).kOf []).kOf [0]).kOf [0]).kOf [0]).Holds (·=([pa0],0)):=Tr.fork_holds nd00111f.1 nd00111f.2.1 nd00111f.2.2 nd001110 nd001111
theorem nd10000:((((((tOf).kOf [0]).kOf []).kOf []).kOf []).kOf []).Holds (·=([pa0],0)):=Tr.fork_holds nd10000f.1 nd10000f.2.1 nd10000f.2.2 nd100000 nd100001
theorem nd10001:((((((tOf).kOf [0]).kOf []).kOf []).kOf []).kOf [0]).Holds (·=([pa0],0)):=Tr.fork_holds nd10001f.1 nd10001f.2.1 nd10001f.2.2 nd100010 nd100011
theorem nd10011:((((((tOf).kOf [0]).kOf []).kOf []).kOf [0]).kOf [0]).Holds (·=([pa0],0)):=Tr.fork_holds nd10011f.1 nd10011f.2.1 nd10011f.2.2 nd100110 nd100111
theorem nd10111:((((((tOf).kOf [0]).kOf []).kOf [0]).kOf [0]).kOf [0]).Holds (·=([pa0],0)):=Tr.fork_holds nd10111f.1 nd10111f.2.1 nd10111f.2.2 nd101110 nd101111
theorem nd11000:((((((tOf).kOf [0]).kOf [0]).kOf []).kOf []).kOf []).Holds (·=([pa0],0)):=Tr.fork_holds nd11000f.1 nd11000f.2.1 nd11000f.2.2 nd110000 nd110001
theorem nd11001:((((((tOf).kOf [0]).kOf [0]).kOf []).kOf []).kOf [0]).Holds (·=([pa0],0)):=Tr.fork_holds nd11001f.1 nd11001f.2.1 nd11001f.2.2 nd110010 nd110011
theorem nd11011:((((((tOf).kOf [0]).kOf [0]).kOf []).kOf [0]).kOf [0]).Holds (·=([pa0],0)):=Tr.fork_holds nd11011f.1 nd11011f.2.1 nd11011f.2.2 nd110110 nd110111
theorem nd11111:((((((tOf).kOf [0]).kOf [0]).kOf [0]).kOf [0]).kOf [0]).Holds (·=([pa0],0)):=Tr.fork_holds nd11111f.1 nd11111f.2.1 nd11111f.2.2 nd111110 nd111111
theorem nd0000:(((((tOf).kOf []).kOf []).kOf []).kOf []).Holds (·=([pa0],0)):=Tr.fork_holds nd0000f.1 nd0000f.2.1 nd0000f.2.2 nd00000 nd00001
theorem nd0001:(((((tOf).kOf []).kOf []).kOf []).kOf [0]).Holds (·=([pa0],0)):=Tr.fork_holds nd0001f.1 nd0001f.2.1 nd0001f.2.2 nd00010 nd00011
theorem nd0011:(((((tOf).kOf []).kOf []).kOf [0]).kOf [0]).Holds (·=([pa0],0)):=Tr.fork_holds nd0011f.1 nd0011f.2.1 nd0011f.2.2 nd00110 nd00111
theorem nd0111:(((((tOf).kOf []).kOf [0]).kOf [0]).kOf [0]).Holds (·=([pa0],0)):=Tr.fork_holds nd0111f.1 nd0111f.2.1 nd0111f.2.2 nd01110 nd01111
theorem nd1000:(((((tOf).kOf [0]).kOf []).kOf []).kOf []).Holds (·=([pa0],0)):=Tr.fork_holds nd1000f.1 nd1000f.2.1 nd1000f.2.2 nd10000 nd10001
theorem nd1001:(((((tOf).kOf [0]).kOf []).kOf []).kOf [0]).Holds (·=([pa0],0)):=Tr.fork_holds nd1001f.1 nd1001f.2.1 nd1001f.2.2 nd10010 nd10011
theorem nd1011:(((((tOf).kOf [0]).kOf []).kOf [0]).kOf [0]).Holds (·=([pa0],0)):=Tr.fork_holds nd1011f.1 nd1011f.2.1 nd1011f.2.2 nd10110 nd10111
theorem nd1100:(((((tOf).kOf [0]).kOf [0]).kOf []).kOf []).Holds (·=([pa0],0)):=Tr.fork_holds nd1100f.1 nd1100f.2.1 nd1100f.2.2 nd11000 nd11001
theorem nd1101:(((((tOf).kOf [0]).kOf [0]).kOf []).kOf [0]).Holds (·=([pa0],0)):=Tr.fork_holds nd1101f.1 nd1101f.2.1 nd1101f.2.2 nd11010 nd11011
theorem nd1111:(((((tOf).kOf [0]).kOf [0]).kOf [0]).kOf [0]).Holds (·=([pa0],0)):=Tr.fork_holds nd1111f.1 nd1111f.2.1 nd1111f.2.2 nd11110 nd11111
theorem nd000:((((tOf).kOf []).kOf []).kOf []).Holds (·=([pa0],0)):=Tr.fork_holds nd000f.1 nd000f.2.1 nd000f.2.2 nd0000 nd0001
theorem nd001:((((tOf).kOf []).kOf []).kOf [0]).Holds (·=([pa0],0)):=Tr.fork_holds nd001f.1 nd001f.2.1 nd001f.2.2 nd0010 nd0011
theorem nd011:((((tOf).kOf []).kOf [0]).kOf [0]).Holds (·=([pa0],0)):=Tr.fork_holds nd011f.1 nd011f.2.1 nd011f.2.2 nd0110 nd0111
theorem nd100:((((tOf).kOf [0]).kOf []).kOf []).Holds (·=([pa0],0)):=Tr.fork_holds nd100f.1 nd100f.2.1 nd100f.2.2 nd1000 nd1001
theorem nd101:((((tOf).kOf [0]).kOf []).kOf [0]).Holds (·=([pa0],0)):=Tr.fork_holds nd101f.1 nd101f.2.1 nd101f.2.2 nd1010 nd1011
theorem nd110:((((tOf).kOf [0]).kOf [0]).kOf []).Holds (·=([pa0],0)):=Tr.fork_holds nd110f.1 nd110f.2.1 nd110f.2.2 nd1100 nd1101
theorem nd111:((((tOf).kOf [0]).kOf [0]).kOf [0]).Holds (·=([pa0],0)):=Tr.fork_holds nd111f.1 nd111f.2.1 nd111f.2.2 nd1110 nd1111
theorem nd00:(((tOf).kOf []).kOf []).Holds (·=([pa0],0)):=Tr.fork_holds nd00f.1 nd00f.2.1 nd00f.2.2 nd000 nd001
theorem nd01:(((tOf).kOf []).kOf [0]).Holds (·=([pa0],0)):=Tr.fork_holds nd01f.1 nd01f.2.1 nd01f.2.2 nd010 nd011
theorem nd10:(((tOf).kOf [0]).kOf []).Holds (·=([pa0],0)):=Tr.fork_holds nd10f.1 nd10f.2.1 nd10f.2.2 nd100 nd101
theorem nd11:(((tOf).kOf [0]).kOf [0]).Holds (·=([pa0],0)):=Tr.fork_holds nd11f.1 nd11f.2.1 nd11f.2.2 nd110 nd111
theorem nd0:((tOf).kOf []).Holds (·=([pa0],0)):=Tr.fork_holds nd0f.1 nd0f.2.1 nd0f.2.2 nd00 nd01
theorem nd1:((tOf).kOf [0]).Holds (·=([pa0],0)):=Tr.fork_holds nd1f.1 nd1f.2.1 nd1f.2.2 nd10 nd11
theorem nd:(tOf).Holds (·=([pa0],0)):=Tr.fork_holds ndf.1 ndf.2.1 ndf.2.2 nd0 nd1
end Go.Proofs.YthnojkbkojpadaaGreat

namespace Go.Proofs.YthnojkbkojpadaaGreat
open Go.RowKit Go.Sx Go.Lp
set_option maxRecDepth 100000
abbrev aSEB:DA (List Spot×List Edge):=.cons (.listB eSp) (.one (.list eE))
theorem rof1_ok:FnPure Tryz.prog 69 aSEB dLPE (fun _=>([pa0],0)) (fun g=>[g=([⟨p0,0⟩],[])]):=pure_of_tree (MTab.okz tabV10 [(4000000,0)] usW) noΛ_ok 100 fun g _ hp=>by
 obtain rfl:g=([⟨p0,0⟩],[]):=hp _ (List.mem_cons_self ..)
 have h:tOf.Holds (·=([pa0],0)):=nd
 exact h
theorem nw1_c:FnT Tryz.prog 34 TA.nil aLPoC trN0 (fun _ _=>((),(some lk0,0))) (fun _ l=>[l=[pa0]]):=T_of_tree (MTab.okz tabV27 [(4000000,0)] []) noΛ_ok 100 fun u g _ hp=>by
 have e:g=[pa0]:=hp _ (List.mem_cons_self ..)
 subst e
 have h:tNw2.Holds (·=((),(some lk0,0))):=nw2h
 exact h
noncomputable def tk1_f (k:LdK) (_:List Change):LdK×Int:=(bif k.2.2.1.isEmpty then lk1 else lk2,0)
abbrev tk1_P (k:LdK) (c:List Change):Prop:=(k,c)=(lk0,[ch0])∨(k,c)=(lk1,[ch1])
theorem two4 (κ γ δ:Type) (X:κ→γ→Tr δ) (bd:γ→Prop) (fn:κ→γ→δ) (k0 k1:κ) (c0 c1:γ) (h1:(X k0 c0).Holds (·=fn k0 c0)) (h2:(X k1 c1).Holds (·=fn k1 c1)) :
  ∀ (k:κ) (c:γ),bd c→(∀ p∈[(k,c)=(k0,c0)∨(k,c)=(k1,c1)],p)→(X k c).Holds (·=fn k c):=by
 intro k c _ hp
 rcases hp _ (List.mem_cons_self ..) with e | e
 ·obtain ⟨e1,e2⟩:=Prod.mk.inj e
  subst e1;subst e2
  exact h1
 ·obtain ⟨e1,e2⟩:=Prod.mk.inj e
  subst e1;subst e2
  exact h2
theorem tk1_e1:((fun k c=>tTree Tryz.prog (MTab.gamz tabV27n [(4000000,0)] []) noΛ 100 35 taL1 (TR.pure dI) k (aLC1.enc c)) lk0 [ch0]).Holds (·=tk1_f lk0 [ch0]):=by
 rw[show tk1_f lk0 [ch0]=(lk1,0) from rfl]
 exact tk1h
theorem tk1_e2:((fun k c=>tTree Tryz.prog (MTab.gamz tabV27n [(4000000,0)] []) noΛ 100 35 taL1 (TR.pure dI) k (aLC1.enc c)) lk1 [ch1]).Holds (·=tk1_f lk1 [ch1]):=by
 rw[show tk1_f lk1 [ch1]=(lk2,0) from rfl]
 exact tk2h
theorem tk1_T:∀ (k:LdK) (c:List Change),aLC1.bd c→(∀ p∈[tk1_P k c],p)→((fun k c=>tTree Tryz.prog (MTab.gamz tabV27n [(4000000,0)] []) noΛ 100 35 taL1 (TR.pure dI) k (aLC1.enc c)) k c).Holds (·=tk1_f k c):=@two4 LdK (List Change) (LdK×Int) (fun k c=>tTree Tryz.prog (MTab.gamz tabV27n [(4000000,0)] []) noΛ 100 35 taL1 (TR.pure dI) k (aLC1.enc c)) aLC1.bd tk1_f lk0 lk1 [ch0] [ch1] tk1_e1 tk1_e2
theorem tk1_c:FnT Tryz.prog 35 taL1 aLC1 (TR.pure dI) tk1_f (fun k c=>[tk1_P k c]):=@T_of_tree _ _ (MTab.gamz tabV27n [(4000000,0)] []) noΛ _ _ _ _ _ _ _ _ _ (MTab.okz tabV27n [(4000000,0)] []) noΛ_ok 100 (@tk1_T)
noncomputable def fm1_f (k:LdK) (_:Place):LdK×(List T×Int):=(k,(bif k.2.2.1.isEmpty then [] else [t3],0))
abbrev fm1_P (k:LdK) (p:Place):Prop:=(k,p)=(lk1,p0)∨(k,p)=(lk2,p0)
theorem fm1_e1:((fun k c=>tTree Tryz.prog (MTab.gamz tabV27f [(4000000,0)] []) noΛ 100 36 taL1 (TR.pure dLTE) k (aP1.enc c)) lk1 p0).Holds (·=fm1_f lk1 p0):=by
 rw[show fm1_f lk1 p0=(lk1,([t3],0)) from rfl]
 exact fm1h
theorem fm1_e2:((fun k c=>tTree Tryz.prog (MTab.gamz tabV27f [(4000000,0)] []) noΛ 100 36 taL1 (TR.pure dLTE) k (aP1.enc c)) lk2 p0).Holds (·=fm1_f lk2 p0):=by
 rw[show fm1_f lk2 p0=(lk2,([],0)) from rfl]
 exact fm2h
theorem fm1_T:∀ (k:LdK) (c:Place),aP1.bd c→(∀ p∈[fm1_P k c],p)→((fun k c=>tTree Tryz.prog (MTab.gamz tabV27f [(4000000,0)] []) noΛ 100 36 taL1 (TR.pure dLTE) k (aP1.enc c)) k c).Holds (·=fm1_f k c):=@two4 LdK (Place) (LdK×(List T×Int)) (fun k c=>tTree Tryz.prog (MTab.gamz tabV27f [(4000000,0)] []) noΛ 100 36 taL1 (TR.pure dLTE) k (aP1.enc c)) aP1.bd fm1_f lk1 lk2 p0 p0 fm1_e1 fm1_e2
theorem fm1_c:FnT Tryz.prog 36 taL1 aP1 (TR.pure dLTE) fm1_f (fun k c=>[fm1_P k c]):=@T_of_tree _ _ (MTab.gamz tabV27f [(4000000,0)] []) noΛ _ _ _ _ _ _ _ _ _ (MTab.okz tabV27f [(4000000,0)] []) noΛ_ok 100 (@fm1_T)
noncomputable def tabV29:MTab Tryz.prog:=((((MTab.of PTab.nil).consM 69 (fconR aSEB dLPE (fun _=>([pa0],0)) (fun g=>[g=([⟨p0,0⟩],[])])) (fconR_ok rof1_ok)).consM 34 (fconT TA.nil aLPoC trN0 (fun _ _=>((),(some lk0,0))) (fun _ l=>[l=[pa0]])) (fconT_ok nw1_c)).consM 35 (fconT taL1 aLC1 (TR.pure dI) tk1_f (fun k c=>[tk1_P k c])) (fconT_ok tk1_c)).consM 36 (bconT taL1 aP1 (TR.pure dLTE) fm1_f (fun k p=>[fm1_P k p])) (bconT_ok fm1_c)
noncomputable abbrev lvT2:Tr Bool:=dTree Tryz.prog (MTab.gamz tabV29 [(4000000,0)] []) noΛ 100 28 (DA.enc .none ()) dBool
end Go.Proofs.YthnojkbkojpadaaGreat

namespace Go.Proofs.YthnojkbkojpadaaGreat
open Go.RowKit Go.Sx Go.Lp
set_option maxRecDepth 100000
abbrev lv0:Prop:=(([Spot.mk (Place.mk (1:Int) (2:Int)) (0:Int)],[]):List Spot×List Edge)=([Spot.mk (Place.mk (1:Int) (2:Int)) (0:Int)],[])
theorem lv0p:lv0:=rfl
abbrev lv1:Prop:=[Path.mk (Place.mk (1:Int) (2:Int)) (Place.mk (1:Int) (2:Int)) [S.mk (0:Int) (0:Int) (0:Int) (0:Int) (0:Int) (0:Int) (0:Int) (0:Int)]]=[Path.mk (Place.mk (1:Int) (2:Int)) (Place.mk (1:Int) (2:Int)) [S.mk (0:Int) (0:Int) (0:Int) (0:Int) (0:Int) (0:Int) (0:Int) (0:Int)]]
theorem lv1p:lv1:=rfl
abbrev lv2:Prop:=∀ (e:Nat),e<(1:Nat)→ePa.Ok (ePa.els [Path.mk (Place.mk (1:Int) (2:Int)) (Place.mk (1:Int) (2:Int)) [S.mk (0:Int) (0:Int) (0:Int) (0:Int) (0:Int) (0:Int) (0:Int) (0:Int)]] e)
theorem lv2p:lv2:=fun _ _=>El.ok_els _ _ _
abbrev lv3:Prop:=∀ (e:Nat),e<(1:Nat)→(eP.pair eI).Ok ((eP.pair eI).els [(Place.mk (1:Int) (2:Int),(0:Int))] e)
theorem lv3p:lv3:=fun _ _=>El.ok_els _ _ _
abbrev lv4:Prop:=∀ (e:Nat),e<(0:Nat)→True
theorem lv4p:lv4:=fun _ _=>trivial
abbrev lv5:Prop:=tk1_P ([Path.mk (Place.mk (1:Int) (2:Int)) (Place.mk (1:Int) (2:Int)) [S.mk (0:Int) (0:Int) (0:Int) (0:Int) (0:Int) (0:Int) (0:Int) (0:Int)]],[(Place.mk (1:Int) (2:Int),(0:Int))],[],(0:Nat)) [Change.mk (Place.mk (1:Int) (2:Int)) (T.mk (3:Int) (0:Int) (0:Int) (0:Int) (0:Int) (0:Int)) (1:Int)]
theorem lv5p:lv5:=by first | exact .inl rfl | exact .inr rfl
abbrev lv6:Prop:=∀ (e:Nat),e<(1:Nat)→True
theorem lv6p:lv6:=fun _ _=>trivial
abbrev lv7:Prop:=fm1_P ([Path.mk (Place.mk (1:Int) (2:Int)) (Place.mk (1:Int) (2:Int)) [S.mk (0:Int) (0:Int) (0:Int) (0:Int) (0:Int) (0:Int) (0:Int) (0:Int)]],[(Place.mk (1:Int) (2:Int),(0:Int))],[((Place.mk (1:Int) (2:Int),T.mk (3:Int) (0:Int) (0:Int) (0:Int) (0:Int) (0:Int)),(1:Int),(0:Int))],(1:Nat)) (Place.mk (1:Int) (2:Int))
theorem lv7p:lv7:=by first | exact .inl rfl | exact .inr rfl
abbrev lv8:Prop:=tk1_P ([Path.mk (Place.mk (1:Int) (2:Int)) (Place.mk (1:Int) (2:Int)) [S.mk (0:Int) (0:Int) (0:Int) (0:Int) (0:Int) (0:Int) (0:Int) (0:Int)]],[(Place.mk (1:Int) (2:Int),(0:Int))],[((Place.mk (1:Int) (2:Int),T.mk (3:Int) (0:Int) (0:Int) (0:Int) (0:Int) (0:Int)),(1:Int),(0:Int))],(1:Nat)) [Change.mk (Place.mk (1:Int) (2:Int)) (T.mk (3:Int) (0:Int) (0:Int) (0:Int) (0:Int) (0:Int)) (-1:Int)]
theorem lv8p:lv8:=by first | exact .inl rfl | exact .inr rfl
abbrev lv9:Prop:=fm1_P ([Path.mk (Place.mk (1:Int) (2:Int)) (Place.mk (1:Int) (2:Int)) [S.mk (0:Int) (0:Int) (0:Int) (0:Int) (0:Int) (0:Int) (0:Int) (0:Int)]],[(Place.mk (1:Int) (2:Int),(0:Int))],[],(1:Nat)) (Place.mk (1:Int) (2:Int))
theorem lv9p:lv9:=by first | exact .inl rfl | exact .inr rfl
abbrev lv10:Prop:=(0:Int)≤(0:Int)∧(0:Int)<(1:Int)
theorem lv10p:lv10:=by decide
theorem lvh:(lvT2).Holds (·=true):=Tr.leaf_holds default (by rw[show (lvT2).asksC=[lv0,lv1,lv2,lv3,lv4,lv5,lv2,lv3,lv6,lv7,lv2,lv3,lv6,lv8,lv2,lv3,lv4,lv9,lv10] by kernel_rfl];exact al_cons lv0p <| al_cons lv1p <| al_cons lv2p <| al_cons lv3p <| al_cons lv4p <| al_cons lv5p <| al_cons lv2p <| al_cons lv3p <| al_cons lv6p <| al_cons lv7p <| al_cons lv2p <| al_cons lv3p <| al_cons lv6p <| al_cons lv8p <| al_cons lv2p <| al_cons lv3p <| al_cons lv4p <| al_cons lv9p <| al_cons lv10p <| al_nil) (by kernel_rfl)
theorem lw2_ok:FnPure Tryz.prog 28 .none dBool (fun _=>true) (fun _=>[]):=pure_of_tree (MTab.okz tabV29 [(4000000,0)] []) noΛ_ok 100 fun g _ _=>by
 have h:lvT2.Holds (·=true):=lvh
 exact h
end Go.Proofs.YthnojkbkojpadaaGreat

namespace Go.Proofs.YthnojkbkojpadaaGreat
open Go.RowKit Go.Sx
set_option maxRecDepth 100000
set_option linter.unusedVariables false
noncomputable def tabW1a:MTab Tryz.prog:=MTab.of ((((PTab.nil.cons 28 (pconP .none dBool (fun _=>true) (fun _=>[])) (conP_ok lw2_ok puB)).cons 29 (pconR aLC dLCE netC (fun xs=>[xs.length≤KS])) (conR_ok netf_ok)).cons 30 (pconR aLC dLCE netR (fun xs=>[xs.length≤1000])) (conR_ok rnt_c)).cons 31 (pconP aLLC dBool (fun g=>decide (g.1=g.2)) (fun _=>[])) (conP_ok eqcf_c puB))
noncomputable def lnt_F (l:List Change):Dv.T dBool:=
 bif decide ((↑l.length:Int) > (100:Int)) then true
 else decide (eC.ag (netC (eC.ag l)).fst=eC.ag (netR (eC.ag l)).fst)&&(netC (eC.ag l)).snd==(netR (eC.ag l)).snd
def lnt_side (l:List Change):Prop:=
 (!true)=false→decide ((↑l.length:Int) > (100:Int))=false→eC.okL l∧(eC.ag l).length≤KS∧eC.okL l∧(eC.ag l).length≤(1000:Nat)∧eC.okL (netC (eC.ag l)).fst∧eC.okL (netR (eC.ag l)).fst
theorem lnt_okS (pre:DA.T aLC→List Prop) (h:∀ g,DA.bd aLC g→(∀ p∈pre g,p)→lnt_side g):FnPure Tryz.prog 6 aLC dBool (fun g=>lnt_F g) pre:=pure_of_sideS (Γ:=(MTab.gamz tabW1a [] [])) (Λ:=noΛ) (MTab.okz tabW1a [] []) noΛ_ok 100 default (fun g=>lnt_side g) (fun g=>by kernel_rfl) (fun g=>by kernel_rfl) h
end Go.Proofs.YthnojkbkojpadaaGreat

namespace Go.Proofs.YthnojkbkojpadaaGreat
open Go.RowKit Go.Sx Go.Lp
set_option maxRecDepth 100000
theorem lnt_ok:FnPure Tryz.prog 6 aLC dBool (fun _=>true) (fun _=>[]):=by
 have hq:∀ l:List Change,decide ((l.length:Int) > 100)=false→l.length≤100:=fun l h=>by
  have:=of_decide_eq_false h
  omega
 refine pure_congr (lnt_okS (fun _=>[]) fun l hb hp=>?_) fun l hb hp=>?_
 ·show lnt_side l
  unfold lnt_side
  simp only[El.okL_eq,El.ag_eq]
  intro _ h
  have:=hq l h
  exact ⟨trivial,by unfold KS;omega,trivial,by omega,trivial,trivial⟩
 ·show lnt_F l=true
  unfold lnt_F
  simp only[El.ag_eq]
  cases h:decide ((l.length:Int) > 100) with
  | true=>simp
  | false=>
   have:=hq l h
   rw[netR_C (by omega)]
   simp
end Go.Proofs.YthnojkbkojpadaaGreat

namespace Go.Proofs.YthnojkbkojpadaaGreat
open Go.ChangeShapes Go.WideShapes Go.ChangeAt Go.RowKit Go.Sx
set_option maxRecDepth 100000 in
theorem ledgerNets_lifted (law:FnPure Tryz.prog 6 aLC dBool (fun _=>true) (fun _=>[])) (os:Os) (started:os.Started) (H:Type) (enc:TypeId×Value→H) :
  ReturnsInHanded {} Tryz.checked os 6 .any (Rows.ledgerNetsSpec.pre6 enc Tryz.prog Tryz.f6 Rows.ledgerNetsRow.domain false) (Rows.ledgerNetsSpec.post enc Tryz.prog Tryz.f6 false true false false):=by
 refine returnsInHanded_of_change (C:=Tryz.checked) Tryz.own started (by kernel_rfl) Tryz.func6
  (ChangeSpec.witness6 (enc:=enc) (C:=Tryz.checked) false ⟨#[],#[.slice none 0 0],[]⟩ 8 (by kernel_rfl) (by kernel_rfl) (by kernel_rfl) (by kernel_rfl)) ?_
 intro W base args ds gs before hval0 hW hcnd _
 have hval:∀ (j:Nat) t v,Tryz.f6.params[j]?=some t→args[j]?=some v→Value.okWide Tryz.prog W .any base t v:=hval0
 have hW':=hW
 obtain ⟨p,q,hA0,hV,rfl,hfz,hnd⟩:=hW
 have hA:DataW.TrodAll enc Tryz.prog W 0 (fun _=>true) true Tryz.f6.params.toList args.toList ds p:=hA0
 rw[Tryz.params6] at hA hval
 obtain ⟨v0,vs0,d0,ds0,p0,qq0,hargs,rfl,rfl,h0,r0⟩:=trodAll_cons hA
 obtain ⟨rfl,rfl,rfl⟩:=trodAll_nil r0
 obtain rfl:args=#[v0]:=by cases args;simp_all
 obtain ⟨rfl,rfl⟩:=trodVars_none hV
 obtain ⟨a0,q0,f0⟩:=rdvLC _ _ _ _ _ _ _ _ _ _ _ (hval 0 48 v0 rfl rfl) h0
 have lt:∀ {t:TypeId} {v:Value} {d:DataW H} {ps:List MemPlace},DataW.Trod enc Tryz.prog W 0 (fun _=>true) true t v d ps→∀ x∈ps,x.block<W.heap.size:=by
  rintro t v d ps ⟨m,hm⟩
  exact DataW.trod_lt m _ _ _ hm
 clear hA0 hval0
 refine (law W (fun b=>W.heap[b]?) (a0) [v0] (fun _ _ h=>h) trivial (by simp) ⟨f0,trivial⟩).mono fun e W' ⟨x,he,bel,hx⟩=>?_
 obtain rfl:x=.bool true:=by simpa [dBool,SV.fit] using hx
 subst he
 exact ⟨_,rfl,_,_,_,[],_,[],hW',trodAll_mk1 (shut_bool Tryz.underlying4 _),
  (trodAll_cons_mk (Below.trod Tryz.laidOut (by kernel_rfl) (of_decide_eq_true (by kernel_rfl)) h0 bel (lt h0)) trodAll_mk0),rfl,bel.frame _,fun h=>by cases h⟩
theorem ledgerNets_over (law:FnPure Tryz.prog 6 aLC dBool (fun _=>true) (fun _=>[])):Rows.LedgerNetsSaid:=
 OpenClaim.holds_of_wide 6 Tryz.f6 rfl rfl rfl rfl rfl rfl rfl ⟨rfl,rfl,rfl,rfl,rfl⟩ rfl rfl rfl rfl rfl (by kernel_rfl) Tryz.func6 (by kernel_rfl)
  (of_decide_eq_true (by kernel_rfl)) (by unfold Func.isWrapper;first | (rw[if_pos (by decide +kernel)];kernel_rfl) | (rw[if_neg (by decide +kernel)];exact ⟨rfl,rfl⟩))
  (fun os started H enc _=>ledgerNets_lifted law os started H enc)
end Go.Proofs.YthnojkbkojpadaaGreat

namespace Go.Proofs.YthnojkbkojpadaaGreat
open Go.RowKit Go.Sx
theorem ledgerNets_holds:Rows.LedgerNetsSaid:=ledgerNets_over lnt_ok
end Go.Proofs.YthnojkbkojpadaaGreat
