/- Chapter 27: what is done of a line: contract; few: loops' contracts. -/
import Derived.Test.YtapdglacmebbaaaDoorZG12a7b1f4
import Derived.Test.YtapdglacmebbaaaDoorZG07b0bbf5
import Derived.Test.YtapdglacmebbaaaDoorCards
set_option linter.unusedVariables false
set_option linter.unusedSimpArgs false
set_option linter.constructorNameAsVariable false
set_option linter.all false

namespace Go.Proofs.YtapdglacmebbaaaDoor
open Go.RowKit Go.Sx Go.Lp
set_option maxRecDepth 100000
noncomputable def fa_st(v:Rec)(r:Int):Int:=
 IntKind.i64.wrap
    (r+
     List.foldl
      (λa x=>bif false then if x.snd.snd>a then x.snd.snd else a else if x.snd.snd<a then x.snd.snd else a)
      (↑(ByteArray.size v.text):Int) [(true,IntKind.i64,(1000:Int))])
noncomputable def fa_S(_:fa_GC)(b:fa_GB)(_:Int)(v:Rec):Ex×fa_GB:=(.normal,fa_st v b)
def fa_K(_:fa_GC)(_:fa_GB)(_:Int):Prop:=True
abbrev fa_xs(c:fa_GC):List Rec:=c.1
abbrev fa_lim(c:fa_GC):Int:=c.2
abbrev fa_I(g:fa_G):List Prop:=ixI fa_lim fa_xs fa_K (fa_f g)
abbrev fa_M(g:fa_G):Nat:=ixM fa_lim (fa_f g)
theorem fa_P:ixP fa_S fa_xs fa_K:=λ_ _ _ _ _ _ _=>trivial
noncomputable abbrev fa_RR(g:fa_G):Ex×fa_G:=fa_R g.1 g.2.1 g.2.2.1 g.2.2.2
theorem fa_RF(d:Int×fa_GC×fa_GB):fa_RR (fa_g d)=((ixF 0 fa_lim fa_xs eR.dflt fa_S d).1,fa_g (ixF 0 fa_lim fa_xs eR.dflt fa_S d).2):=by
 obtain⟨i,⟨xs,n⟩,r⟩:=d;show fa_R xs n i r=_;unfold fa_R ixF fa_S fa_st;simp only[El.ag_eq];cases decide (i<n)<;>rfl
theorem fa_ok:∀b∈loopsOf Tryd.prog 7,lkey b=3->LoopOk Tryd.prog b (fa_C fa_I fa_M).g:=by
 refine fa_loop fa_I fa_M (λg hi=>?_) (ix_conj_goes (φ:=fa_f) (ψ:=fa_g) (λ_=>rfl) (λ_=>rfl) (λd _=>fa_RF d) fa_P);obtain⟨xs,n,i,r⟩:=g;obtain⟨h1,_,h3,h4,_⟩:=hi _ (List.mem_cons_self ..);have h1:n=(xs.length:Int):=h1;have h3:0<=i:=h3;show fa_side xs n i r;unfold fa_side;simp only[El.okL_eq,implies_true,and_true];intro hlt;have hlt:=of_decide_eq_true hlt;exact⟨h3,by omega⟩
noncomputable def fb_st(v:Nd)(r:Int):Int:=
 IntKind.i64.wrap
    (r+
     IntKind.i64.wrap
      (IntKind.i64.wrap
        (List.foldl
          (λa x=>
           bif false then if x.snd.snd>a then x.snd.snd else a else if x.snd.snd<a then x.snd.snd else a)
          (↑(ByteArray.size v.name):Int) [(true,IntKind.i64,(1000:Int))]+
         List.foldl
          (λa x=>
           bif false then if x.snd.snd>a then x.snd.snd else a else if x.snd.snd<a then x.snd.snd else a)
          (↑(ByteArray.size v.fn.s):Int) [(true,IntKind.i64,(1000:Int))])+
       List.foldl
        (λa x=>
         bif false then if x.snd.snd>a then x.snd.snd else a else if x.snd.snd<a then x.snd.snd else a)
        (↑v.ins.length:Int) [(true,IntKind.i64,(1000:Int))]))
noncomputable def fb_S(_:fb_GC)(b:fb_GB)(_:Int)(v:Nd):Ex×fb_GB:=(.normal,fb_st v b)
def fb_K(_:fb_GC)(_:fb_GB)(_:Int):Prop:=True
abbrev fb_xs(c:fb_GC):List Nd:=c.1
abbrev fb_lim(c:fb_GC):Int:=c.2
abbrev fb_I(g:fb_G):List Prop:=ixI fb_lim fb_xs fb_K (fb_f g)
abbrev fb_M(g:fb_G):Nat:=ixM fb_lim (fb_f g)
theorem fb_P:ixP fb_S fb_xs fb_K:=λ_ _ _ _ _ _ _=>trivial
noncomputable abbrev fb_RR(g:fb_G):Ex×fb_G:=fb_R g.1 g.2.1 g.2.2.1 g.2.2.2
theorem fb_RF(d:Int×fb_GC×fb_GB):fb_RR (fb_g d)=((ixF 2 fb_lim fb_xs eD.dflt fb_S d).1,fb_g (ixF 2 fb_lim fb_xs eD.dflt fb_S d).2):=by
 obtain⟨i,⟨xs,n⟩,r⟩:=d;show fb_R xs n i r=_;unfold fb_R ixF fb_S fb_st;simp only[El.ag_eq];cases decide (i<n)<;>rfl
theorem fb_ok:∀b∈loopsOf Tryd.prog 7,lkey b=8->LoopOk Tryd.prog b (fb_C fb_I fb_M).g:=by
 refine fb_loop fb_I fb_M (λg hi=>?_) (ix_conj_goes (φ:=fb_f) (ψ:=fb_g) (λ_=>rfl) (λ_=>rfl) (λd _=>fb_RF d) fb_P);obtain⟨xs,n,i,r⟩:=g;obtain⟨h1,_,h3,h4,_⟩:=hi _ (List.mem_cons_self ..);have h1:n=(xs.length:Int):=h1;have h3:0<=i:=h3;show fb_side xs n i r;unfold fb_side;simp only[El.okL_eq,implies_true,and_true];intro hlt;have hlt:=of_decide_eq_true hlt;exact⟨h3,by omega⟩
noncomputable def fc_st(v:Mv)(r:Int):Int:=
 IntKind.i64.wrap
    (r+
     List.foldl
      (λa x=>bif false then if x.snd.snd>a then x.snd.snd else a else if x.snd.snd<a then x.snd.snd else a)
      (↑(ByteArray.size v.fn.s):Int) [(true,IntKind.i64,(1000:Int))])
noncomputable def fc_S(_:fc_GC)(b:fc_GB)(_:Int)(v:Mv):Ex×fc_GB:=(.normal,fc_st v b)
def fc_K(_:fc_GC)(_:fc_GB)(_:Int):Prop:=True
abbrev fc_xs(c:fc_GC):List Mv:=c.1
abbrev fc_lim(c:fc_GC):Int:=c.2
abbrev fc_I(g:fc_G):List Prop:=ixI fc_lim fc_xs fc_K (fc_f g)
abbrev fc_M(g:fc_G):Nat:=ixM fc_lim (fc_f g)
theorem fc_P:ixP fc_S fc_xs fc_K:=λ_ _ _ _ _ _ _=>trivial
noncomputable abbrev fc_RR(g:fc_G):Ex×fc_G:=fc_R g.1 g.2.1 g.2.2.1 g.2.2.2
theorem fc_RF(d:Int×fc_GC×fc_GB):fc_RR (fc_g d)=((ixF 4 fc_lim fc_xs eV.dflt fc_S d).1,fc_g (ixF 4 fc_lim fc_xs eV.dflt fc_S d).2):=by
 obtain⟨i,⟨xs,n⟩,r⟩:=d;show fc_R xs n i r=_;unfold fc_R ixF fc_S fc_st;simp only[El.ag_eq];cases decide (i<n)<;>rfl
theorem fc_ok:∀b∈loopsOf Tryd.prog 7,lkey b=13->LoopOk Tryd.prog b (fc_C fc_I fc_M).g:=by
 refine fc_loop fc_I fc_M (λg hi=>?_) (ix_conj_goes (φ:=fc_f) (ψ:=fc_g) (λ_=>rfl) (λ_=>rfl) (λd _=>fc_RF d) fc_P);obtain⟨xs,n,i,r⟩:=g;obtain⟨h1,_,h3,h4,_⟩:=hi _ (List.mem_cons_self ..);have h1:n=(xs.length:Int):=h1;have h3:0<=i:=h3;show fc_side xs n i r;unfold fc_side;simp only[El.okL_eq,implies_true,and_true];intro hlt;have hlt:=of_decide_eq_true hlt;exact⟨h3,by omega⟩
theorem i64_0:i64 0:=⟨by decide,by decide⟩
def op0:Opn:=⟨0,0,0,0,0,[],dl0⟩
theorem parseR_i64(s:BA):i64 (parseR s).1.key:=by
 have h0:i64 errR.1.key:=⟨by decide,by decide⟩;unfold parseR;cases decide (s.size<=colon (bts s))||!(parseN (s.extract 0 (colon (bts s)))).2 with
 |true=>exact h0
 |false=>
  simp only[cond_false];cases unescF (s.size-(colon (bts s)+1)) ((bts s).drop (colon (bts s)+1)) []with
  |none=>exact h0
  |some b=>
   show i64 (makeR s (parseN (s.extract 0 (colon (bts s)))).1 b).1.key;unfold makeR;cases chkR (Rec.mk (parseN (s.extract 0 (colon (bts s)))).1 (strOf b))!=0||!decide (textS (Rec.mk (parseN (s.extract 0 (colon (bts s)))).1 (strOf b))=s)with
   |true=>exact h0
   |false=>exact parseN_i64 _
theorem numR_i64(z:Bool)(w:BA):i64 (numR z w).2:=by
 rw[numR_eq];exact num0_i64 w
theorem nodeR_wf(z:Bool)(w:BA):wfD (nodeR z w).2:=by
 unfold nodeR;cases(pcsR z w 9).1 with
 |true=>exact⟨i64_0,i64_0,λx hx=>(by cases hx),i64_0,i64_0,i64_0,i64_0⟩
 |false=>exact wf_nodeRd _
theorem moveR_wf(z:Bool)(w:BA):wfV (moveR z w).2:=by
 unfold moveR;cases(pcsR z w 7).1 with
 |true=>exact⟨i64_0,i64_0,i64_0,i64_0,i64_0,i64_0⟩
 |false=>exact wf_moveRd _
theorem recsR_wf(z:Bool)(xs:List BA):∀r∈(recsR z xs).2,i64 r.key:=by
 unfold recsR;cases xs.all recOk with
 |true=>
  intro r hr;obtain⟨w,_,rfl⟩:=List.mem_map.1 hr;exact parseR_i64 w
 |false=>intro r hr;cases hr
def wfDl(d:Dl):Prop:=(∀x∈d.drop,i64 x)/\(∀n∈d.put,wfD n)/\∀m∈d.moves,wfV m
theorem mem_snoc{α:Type}{P:α->Prop}{l:List α}{a:α}(h:∀x∈l,P x)(ha:P a):∀x∈l++[a],P x:=λx hx=>by
 rcases List.mem_append.1 hx with hx|hx
 .exact h x hx
 .rw[List.mem_singleton.1 hx];exact ha
theorem dStep_wf{z:Bool}{d:Dl}(h:wfDl d)(a b:BA):wfDl (dStep z d a b).2:=by
 unfold dStep;cases decide (a=bDrop)with
 |true=>exact⟨mem_snoc h.1 (numR_i64 z b),h.2.1,h.2.2⟩
 |false=>
  cases decide (a=bNode)with
  |true=>exact⟨h.1,mem_snoc h.2.1 (nodeR_wf z b),h.2.2⟩
  |false=>
   cases decide (a=bMove)with
   |true=>exact⟨h.1,h.2.1,mem_snoc h.2.2 (moveR_wf z b)⟩
   |false=>exact h
theorem dlF_wf:∀(l:List BA)(z:Bool)(d:Dl),wfDl d->wfDl (dlF z d l).2
 | [],z,d,h=>by rw[dlF_stop z d [] (.inl (by decide))];exact h
 | [a],z,d,h=>by rw[dlF_stop z d [a] (.inl (by simp))];exact h
 |a::b::l,true,d,h=>by rw[dlF_stop true d _ (.inr rfl)];exact h
 |a::b::l,false,d,h=>dlF_wf l _ _ (dStep_wf h a b)
theorem wf_dl0:wfDl dl0:=⟨λx hx=>(by cases hx),λx hx=>(by cases hx),λx hx=>(by cases hx)⟩
theorem deltaR_wf(z:Bool)(xs:List BA):wfDl (deltaR z xs).2:=dlF_wf xs _ _ wf_dl0
theorem wf_mk{k a b c e:Int}(ha:i64 a)(hb:i64 b)(hc:i64 c)(he:i64 e){r:List Rec}(hr:∀x∈r,i64 x.key){d:Dl}(hd:wfDl d):wfO ⟨k,a,b,c,e,r,d⟩:=⟨ha,hb,hc,he,hr,hd.1,hd.2.1,hd.2.2⟩
theorem nor:∀x∈([]:List Rec),i64 x.key:=λx hx=>by cases hx
theorem opR_wf(z:Bool)(xs:List BA):wfO (opR z xs).2:=by
 unfold opR rop_F;simp only[El.ag_eq,lst_drop,Dl_eta];cases !(rop_q1 z xs).snd||decide ((↑xs.length:Int)<=(rop_q1 z xs).fst)with
 |true=>exact wf_mk i64_0 i64_0 i64_0 i64_0 nor wf_dl0
 |false=>
  simp only[cond_false]
  repeat' (rw[Bool.cond_eq_ite];split)
  .exact wf_mk (numR_i64 _ _) i64_0 (numR_i64 _ _) i64_0 (recsR_wf _ _) wf_dl0
  .exact wf_mk (numR_i64 _ _) i64_0 (numR_i64 _ _) (numR_i64 _ _) nor wf_dl0
  .exact wf_mk (numR_i64 _ _) i64_0 (numR_i64 _ _) i64_0 nor wf_dl0
  .exact wf_mk i64_0 i64_0 i64_0 (numR_i64 _ _) nor (deltaR_wf _ _)
  .exact wf_mk (numR_i64 _ _) i64_0 i64_0 i64_0 nor wf_dl0
  .exact wf_mk (numR_i64 _ _) i64_0 i64_0 i64_0 nor wf_dl0
  .exact wf_mk (numR_i64 _ _) (numR_i64 _ _) i64_0 i64_0 nor wf_dl0
  .exact wf_mk i64_0 i64_0 i64_0 i64_0 nor wf_dl0
noncomputable def parseOpZ(s:BA):Opn×Int:=
 bif (opR false (splS 32 s)).1 then(op0,271)
 else bif (opE (opR false (splS 32 s)).2).2 !=(0:Int)||!decide ((opE (opR false (splS 32 s)).2).1=s)then(op0,271)
 else((opR false (splS 32 s)).2,0)
theorem pso_eq(s:BA)(hs:s.size<=KP):pso_side s/\pso_F s=parseOpZ s:=by
 have hl:=splS_len 32 s;have kp:KP=5000000:=rfl;have ks:KS=4294967280:=rfl
 have hq1:pso_q1 s=(.exit 0,splS 32 s,((splS 32 s).length:Int),((splS 32 s).length:Int),(),splS 32 s,.ready,none):=by
  unfold pso_q1;rw[El.ag_eq,splitC_one];exact po_run (splS 32 s) (by omega)
 have hq2:pso_q2 s=opR false (splS 32 s):=by
  unfold pso_q2;rw[hq1,El.ag_eq]
 have hq3:pso_q3 s=opE (opR false (splS 32 s)).2:=by
  unfold pso_q3;rw[hq2];simp only[El.ag_eq,Dl_eta,Opn_eta]
 have hJ:Lp.ixJ po_lim po_xs po_K (0,(splS 32 s,((splS 32 s).length:Int)),((),[],LoopState.ready,none)):=ixJ0 (lim:=po_lim) (xs:=po_xs) (P:=po_K) (c:=(splS 32 s,((splS 32 s).length:Int))) (b:=((),[],LoopState.ready,none)) rfl (by show(splS 32 s).length<=maxLen;unfold maxLen;omega) ⟨Int.le_refl _,by show(splS 32 s).length<=KS+1;omega,rfl⟩;unfold pso_side pso_F parseOpZ;rw[hq1,hq2,hq3,splitC_one];simp only[El.ag_eq,El.okL_eq,Dl_eta,Opn_eta];refine⟨⟨by omega,Nat.le_refl _,trivial,rfl,rfl,hJ,Nat.le_refl _,λe _=>eStr.ok_els _ e,splS_ne 32 s,by omega,λx hx=>Nat.le_trans (splS_mem hx) hs,λ_=>⟨trivial,trivial,trivial,trivial,opR_wf _ _,λ_=>⟨trivial,trivial,trivial,trivial⟩⟩⟩,rfl⟩
theorem pso_ok:FnPure Tryd.prog 9 aB dOE parseOpZ (λs=>[s.size<=KP]):=
 pure_congr (pso_okS _ λr _ hp=>(pso_eq r (hp _ (List.mem_cons_self ..))).1) λr _ hp=>(pso_eq r (hp _ (List.mem_cons_self ..))).2
noncomputable def ltQ15:LTab Tryd.prog:=(((ltQ14a.cons 7 3 (fa_C fa_I fa_M) fa_ok).cons 7 8 (fb_C fb_I fb_M) fb_ok).cons 7 13 (fc_C fc_I fc_M) fc_ok)
noncomputable abbrev lamQ15:Lam:=ltQ15.lam
theorem lamQ15_ok:∀f k L,lamQ15 f k=some L->∀b∈loopsOf Tryd.prog f,lkey b=k->LoopOk Tryd.prog b L.g:=ltQ15.ok
noncomputable def tabQ15:MTab Tryd.prog:=tabQ12.cons 9 (pconR aB dOE parseOpZ (λs=>[s.size<=KP])) (conR_ok pso_ok)
end Go.Proofs.YtapdglacmebbaaaDoor

namespace Go.Proofs.YtapdglacmebbaaaDoor
open Go.RowKit Go.Sx
set_option maxRecDepth 100000
noncomputable def few_q1(o:Opn):Ex×
 fa_G:=
 loopF (λg=>fa_R g.fst g.snd.fst g.snd.snd.fst g.snd.snd.snd) fa_M (eR.lst (List.foldl (λa x=>bif false then if x.snd.snd>a then x.snd.snd else a else if x.snd.snd<a then x.snd.snd else a) (↑o.recs.length:Int) [(true,IntKind.i64,(200:Int))]).toNat (eR.els o.recs),(↑(List.foldl (λa x=>bif false then if x.snd.snd>a then x.snd.snd else a else if x.snd.snd<a then x.snd.snd else a) (↑o.recs.length:Int) [(true,IntKind.i64,(200:Int))]).toNat:Int),(0:Int),(0:Int))
noncomputable def few_q2(o:Opn):Ex×
 fb_G:=
 loopF (λg=>fb_R g.fst g.snd.fst g.snd.snd.fst g.snd.snd.snd) fb_M (eD.lst (List.foldl (λa x=>bif false then if x.snd.snd>a then x.snd.snd else a else if x.snd.snd<a then x.snd.snd else a) (↑o.dl.put.length:Int) [(true,IntKind.i64,(100:Int))]).toNat (eD.els o.dl.put),(↑(List.foldl (λa x=>bif false then if x.snd.snd>a then x.snd.snd else a else if x.snd.snd<a then x.snd.snd else a) (↑o.dl.put.length:Int) [(true,IntKind.i64,(100:Int))]).toNat:Int),(0:Int),(few_q1 o).snd.snd.snd.snd)
noncomputable def few_q3(o:Opn):Ex×
 fc_G:=
 loopF (λg=>fc_R g.fst g.snd.fst g.snd.snd.fst g.snd.snd.snd) fc_M (eV.lst (List.foldl (λa x=>bif false then if x.snd.snd>a then x.snd.snd else a else if x.snd.snd<a then x.snd.snd else a) (↑o.dl.moves.length:Int) [(true,IntKind.i64,(100:Int))]).toNat (eV.els o.dl.moves),(↑(List.foldl (λa x=>bif false then if x.snd.snd>a then x.snd.snd else a else if x.snd.snd<a then x.snd.snd else a) (↑o.dl.moves.length:Int) [(true,IntKind.i64,(100:Int))]).toNat:Int),(0:Int),(few_q2 o).snd.snd.snd.snd)
noncomputable def few_F(o:Opn):Dv.T dBool:=
 decide ((↑o.recs.length:Int)<=(200:Int))&&(decide ((↑o.dl.put.length:Int)<=(100:Int))&&(decide ((↑o.dl.moves.length:Int)<=(100:Int))&&(decide ((↑o.dl.drop.length:Int)<=(100:Int))&&decide ((few_q3 o).snd.snd.snd.snd<=(4000:Int)))))
def few_side(o:Opn):Prop:=
 ((0:Int)<=List.foldl (λa x=>bif false then if x.snd.snd>a then x.snd.snd else a else if x.snd.snd<a then x.snd.snd else a) (↑o.recs.length:Int) [(true,IntKind.i64,(200:Int))]/\List.foldl (λa x=>bif false then if x.snd.snd>a then x.snd.snd else a else if x.snd.snd<a then x.snd.snd else a) (↑o.recs.length:Int) [(true,IntKind.i64,(200:Int))]<=(↑o.recs.length:Int))/\(∀(e:Nat),e<(List.foldl (λa x=>bif false then if x.snd.snd>a then x.snd.snd else a else if x.snd.snd<a then x.snd.snd else a) (↑o.recs.length:Int) [(true,IntKind.i64,(200:Int))]).toNat->eR.Ok (eR.els o.recs e))/\Lp.ixJ fa_lim fa_xs fa_K (fa_f (eR.lst (List.foldl (λa x=>bif false then if x.snd.snd>a then x.snd.snd else a else if x.snd.snd<a then x.snd.snd else a) (↑o.recs.length:Int) [(true,IntKind.i64,(200:Int))]).toNat (eR.els o.recs),(↑(List.foldl (λa x=>bif false then if x.snd.snd>a then x.snd.snd else a else if x.snd.snd<a then x.snd.snd else a) (↑o.recs.length:Int) [(true,IntKind.i64,(200:Int))]).toNat:Int),(0:Int),(0:Int)))/\((0:Int)<=List.foldl (λa x=>bif false then if x.snd.snd>a then x.snd.snd else a else if x.snd.snd<a then x.snd.snd else a) (↑o.dl.put.length:Int) [(true,IntKind.i64,(100:Int))]/\List.foldl (λa x=>bif false then if x.snd.snd>a then x.snd.snd else a else if x.snd.snd<a then x.snd.snd else a) (↑o.dl.put.length:Int) [(true,IntKind.i64,(100:Int))]<=(↑o.dl.put.length:Int))/\(∀(e:Nat),e<(List.foldl (λa x=>bif false then if x.snd.snd>a then x.snd.snd else a else if x.snd.snd<a then x.snd.snd else a) (↑o.dl.put.length:Int) [(true,IntKind.i64,(100:Int))]).toNat->eD.Ok (eD.els o.dl.put e))/\Lp.ixJ fb_lim fb_xs fb_K (fb_f (eD.lst (List.foldl (λa x=>bif false then if x.snd.snd>a then x.snd.snd else a else if x.snd.snd<a then x.snd.snd else a) (↑o.dl.put.length:Int) [(true,IntKind.i64,(100:Int))]).toNat (eD.els o.dl.put),(↑(List.foldl (λa x=>bif false then if x.snd.snd>a then x.snd.snd else a else if x.snd.snd<a then x.snd.snd else a) (↑o.dl.put.length:Int) [(true,IntKind.i64,(100:Int))]).toNat:Int),(0:Int),(few_q1 o).snd.snd.snd.snd))/\((0:Int)<=List.foldl (λa x=>bif false then if x.snd.snd>a then x.snd.snd else a else if x.snd.snd<a then x.snd.snd else a) (↑o.dl.moves.length:Int) [(true,IntKind.i64,(100:Int))]/\List.foldl (λa x=>bif false then if x.snd.snd>a then x.snd.snd else a else if x.snd.snd<a then x.snd.snd else a) (↑o.dl.moves.length:Int) [(true,IntKind.i64,(100:Int))]<=(↑o.dl.moves.length:Int))/\(∀(e:Nat),e<(List.foldl (λa x=>bif false then if x.snd.snd>a then x.snd.snd else a else if x.snd.snd<a then x.snd.snd else a) (↑o.dl.moves.length:Int) [(true,IntKind.i64,(100:Int))]).toNat->eV.Ok (eV.els o.dl.moves e))/\Lp.ixJ fc_lim fc_xs fc_K (fc_f (eV.lst (List.foldl (λa x=>bif false then if x.snd.snd>a then x.snd.snd else a else if x.snd.snd<a then x.snd.snd else a) (↑o.dl.moves.length:Int) [(true,IntKind.i64,(100:Int))]).toNat (eV.els o.dl.moves),(↑(List.foldl (λa x=>bif false then if x.snd.snd>a then x.snd.snd else a else if x.snd.snd<a then x.snd.snd else a) (↑o.dl.moves.length:Int) [(true,IntKind.i64,(100:Int))]).toNat:Int),(0:Int),(few_q2 o).snd.snd.snd.snd))
theorem few_okS(pre:DA.T aO->List Prop)(h:∀g,DA.bd aO g->(∀p∈pre g,p)->few_side g):FnPure Tryd.prog 7 aO dBool (λg=>few_F g) pre:=pure_of_sideS (Γ:=(MTab.gamz tabQ15 [] [])) (Λ:=lamQ15) (MTab.okz tabQ15 [] []) lamQ15_ok 100 default (λg=>few_side g) (λg=>by kernel_rfl) (λg=>by kernel_rfl) h
noncomputable def sop_q1(x:Opn)(y:Opn):Ex×
 so_G:=
 loopF (λg=>so_R g.fst g.snd.fst g.snd.snd.fst g.snd.snd.snd.fst g.snd.snd.snd.snd.fst g.snd.snd.snd.snd.snd) so_M ((),Opn.mk x.kind x.wk x.dst x.nd x.ep (eR.ag x.recs) (Dl.mk (eI.ag x.dl.drop) (eD.ag x.dl.put) (eV.ag x.dl.moves)),(),Opn.mk y.kind y.wk y.dst y.nd y.ep (eR.ag y.recs) (Dl.mk (eI.ag y.dl.drop) (eD.ag y.dl.put) (eV.ag y.dl.moves)),(0:Int),false)
noncomputable def sop_F(x:Opn)(y:Opn):Dv.T dBool:=
 bif x.kind !=y.kind||(x.wk !=y.wk||(x.dst !=y.dst||(x.nd !=y.nd||(x.ep !=y.ep||((↑x.recs.length:Int)!=(↑y.recs.length:Int)||!decide (Dl.mk (eI.ag x.dl.drop) (eD.ag x.dl.put) (eV.ag x.dl.moves)=Dl.mk (eI.ag y.dl.drop) (eD.ag y.dl.put) (eV.ag y.dl.moves)))))))then false
 else bif exB Ex.ret (sop_q1 x y).fst then(sop_q1 x y).snd.snd.snd.snd.snd.snd else true
def sop_side(x:Opn)(y:Opn):Prop:=
 ((!x.kind !=y.kind)=true->(!x.wk !=y.wk)=true->(!x.dst !=y.dst)=true->(!x.nd !=y.nd)=true->(!x.ep !=y.ep)=true->(!(↑x.recs.length:Int)!=(↑y.recs.length:Int))=true->eI.okL x.dl.drop)/\((!x.kind !=y.kind)=true->(!x.wk !=y.wk)=true->(!x.dst !=y.dst)=true->(!x.nd !=y.nd)=true->(!x.ep !=y.ep)=true->(!(↑x.recs.length:Int)!=(↑y.recs.length:Int))=true->eD.okL x.dl.put)/\((!x.kind !=y.kind)=true->(!x.wk !=y.wk)=true->(!x.dst !=y.dst)=true->(!x.nd !=y.nd)=true->(!x.ep !=y.ep)=true->(!(↑x.recs.length:Int)!=(↑y.recs.length:Int))=true->eV.okL x.dl.moves)/\((!x.kind !=y.kind)=true->(!x.wk !=y.wk)=true->(!x.dst !=y.dst)=true->(!x.nd !=y.nd)=true->(!x.ep !=y.ep)=true->(!(↑x.recs.length:Int)!=(↑y.recs.length:Int))=true->eI.okL y.dl.drop)/\((!x.kind !=y.kind)=true->(!x.wk !=y.wk)=true->(!x.dst !=y.dst)=true->(!x.nd !=y.nd)=true->(!x.ep !=y.ep)=true->(!(↑x.recs.length:Int)!=(↑y.recs.length:Int))=true->eD.okL y.dl.put)/\((!x.kind !=y.kind)=true->(!x.wk !=y.wk)=true->(!x.dst !=y.dst)=true->(!x.nd !=y.nd)=true->(!x.ep !=y.ep)=true->(!(↑x.recs.length:Int)!=(↑y.recs.length:Int))=true->eV.okL y.dl.moves)/\((x.kind !=y.kind||(x.wk !=y.wk||(x.dst !=y.dst||(x.nd !=y.nd||(x.ep !=y.ep||((↑x.recs.length:Int)!=(↑y.recs.length:Int)||!decide (Dl.mk (eI.ag x.dl.drop) (eD.ag x.dl.put) (eV.ag x.dl.moves)=Dl.mk (eI.ag y.dl.drop) (eD.ag y.dl.put) (eV.ag y.dl.moves))))))))=false->eR.okL x.recs/\eI.okL x.dl.drop/\eD.okL x.dl.put/\eV.okL x.dl.moves/\eR.okL y.recs/\eI.okL y.dl.drop/\eD.okL y.dl.put/\eV.okL y.dl.moves/\Lp.ixJ (λc=>(↑c.fst.recs.length:Int)) (λc=>c.fst.recs) so_K (so_f ((),Opn.mk x.kind x.wk x.dst x.nd x.ep (eR.ag x.recs) (Dl.mk (eI.ag x.dl.drop) (eD.ag x.dl.put) (eV.ag x.dl.moves)),(),Opn.mk y.kind y.wk y.dst y.nd y.ep (eR.ag y.recs) (Dl.mk (eI.ag y.dl.drop) (eD.ag y.dl.put) (eV.ag y.dl.moves)),(0:Int),false)))
theorem sop_okS(pre:DA.T aOO->List Prop)(h:∀g,DA.bd aOO g->(∀p∈pre g,p)->sop_side g.1 g.2):FnPure Tryd.prog 10 aOO dBool (λg=>sop_F g.1 g.2) pre:=pure_of_sideS (Γ:=(MTab.gamz tabQ15 [] [])) (Λ:=lamQ15) (MTab.okz tabQ15 [] []) lamQ15_ok 100 default (λg=>sop_side g.1 g.2) (λg=>by kernel_rfl) (λg=>by kernel_rfl) h
end Go.Proofs.YtapdglacmebbaaaDoor

namespace Go.Proofs.YtapdglacmebbaaaDoor
open Go.RowKit Go.Sx Go.Lp
set_option maxRecDepth 100000
def minF(x k:Int):Int:=List.foldl (λa(x:Bool×IntKind×Int)=>bif false then if x.snd.snd>a then x.snd.snd else a else if x.snd.snd<a then x.snd.snd else a) x [(true,IntKind.i64,k)]
theorem minF_eq(x k:Int):minF x k=if k<x then k else x:=rfl
theorem minF_b(n:Nat)(k:Int)(hk:0<=k):(0:Int)<=minF (n:Int) k/\minF (n:Int) k<=(n:Int):=by
 rw[minF_eq];split<;>omega
theorem few_J{α:Type}(A:El α)(l:List α)(k:Int)(hk:0<=k)(h:l.length<=maxLen):((minF (l.length:Int) k).toNat:Int)=((A.lst (minF (l.length:Int) k).toNat (A.els l)).length:Int)/\(A.lst (minF (l.length:Int) k).toNat (A.els l)).length<=maxLen:=by
 have:=minF_b l.length k hk;rw[A.lst_length];exact⟨rfl,by omega⟩
theorem few_side_ok(o:Opn)(h1:o.recs.length<=maxLen)(h2:o.dl.put.length<=maxLen)(h3:o.dl.moves.length<=maxLen):few_side o:=by
 have b1:=minF_b o.recs.length 200 (by decide);have b2:=minF_b o.dl.put.length 100 (by decide);have b3:=minF_b o.dl.moves.length 100 (by decide);have j1:=few_J eR o.recs 200 (by decide) h1;have j2:=few_J eD o.dl.put 100 (by decide) h2;have j3:=few_J eV o.dl.moves 100 (by decide) h3;have J1:Lp.ixJ fa_lim fa_xs fa_K (0,(eR.lst (minF (o.recs.length:Int) 200).toNat (eR.els o.recs),((minF (o.recs.length:Int) 200).toNat:Int)),0):=ixJ0 (lim:=fa_lim) (xs:=fa_xs) (P:=fa_K) (c:=(eR.lst (minF (o.recs.length:Int) 200).toNat (eR.els o.recs),((minF (o.recs.length:Int) 200).toNat:Int))) (b:=0) j1.1 j1.2 trivial;have J2:∀r:Int,Lp.ixJ fb_lim fb_xs fb_K (0,(eD.lst (minF (o.dl.put.length:Int) 100).toNat (eD.els o.dl.put),((minF (o.dl.put.length:Int) 100).toNat:Int)),r):=λr=>ixJ0 (lim:=fb_lim) (xs:=fb_xs) (P:=fb_K) (c:=(eD.lst (minF (o.dl.put.length:Int) 100).toNat (eD.els o.dl.put),((minF (o.dl.put.length:Int) 100).toNat:Int))) (b:=r) j2.1 j2.2 trivial;have J3:∀r:Int,Lp.ixJ fc_lim fc_xs fc_K (0,(eV.lst (minF (o.dl.moves.length:Int) 100).toNat (eV.els o.dl.moves),((minF (o.dl.moves.length:Int) 100).toNat:Int)),r):=λr=>ixJ0 (lim:=fc_lim) (xs:=fc_xs) (P:=fc_K) (c:=(eV.lst (minF (o.dl.moves.length:Int) 100).toNat (eV.els o.dl.moves),((minF (o.dl.moves.length:Int) 100).toNat:Int))) (b:=r) j3.1 j3.2 trivial;unfold few_side;exact⟨b1,λe _=>eR.ok_els _ e,J1,b2,λe _=>eD.ok_els _ e,J2 _,b3,λe _=>eV.ok_els _ e,J3 _⟩
theorem few_ok:FnPure Tryd.prog 7 aO dBool few_F (λ_=>[]):=
 few_okS _ λo hb _=>few_side_ok o hb.2.2.2.2.2.1.1 hb.2.2.2.2.2.2.2.1.1 hb.2.2.2.2.2.2.2.2.1
theorem sop_ok:FnPure Tryd.prog 10 aOO dBool (λg=>decide (g.1=g.2)) (λ_=>[]):=by
 refine pure_congr (sop_okS (λ_=>[]) λg hb _=>?_) λg hb _=>?_
 all_goals (obtain⟨x,y⟩:=g;have ha:x.recs.length<=maxLen:=hb.1.2.2.2.2.2.1.1)
 .show sop_side x y;unfold sop_side;simp only[El.okL_eq,El.ag_eq,Dl_eta,Opn_eta,implies_true,true_and,and_true];intro h;simp only[Bool.or_eq_false_iff]at h;have hl:=ne_len h.2.2.2.2.2.1;exact ixJ0 (c:=(x,y)) (b:=(false,(),())) rfl ha hl
 show sop_F x y=decide (x=y)
 have hq:sop_q1 x y=loopF so_RR so_M (so_g (0,(x,y),(false,(),()))):=by
  unfold sop_q1;simp only[El.ag_eq,Dl_eta,Opn_eta];rfl
 unfold sop_F;simp only[El.ag_eq,Dl_eta];cases hc:(x.kind !=y.kind||(x.wk !=y.wk||(x.dst !=y.dst||(x.nd !=y.nd||(x.ep !=y.ep||((x.recs.length:Int)!=(y.recs.length:Int)||!decide (x.dl=y.dl)))))))with
 |true=>
  have:x≠y:=λe=>by subst e;simp at hc
  simp[this]
 |false=>
  simp only[Bool.or_eq_false_iff,Bool.not_eq_false',decide_eq_true_eq,bne_eq_false_iff_eq]at hc;obtain⟨h1,h2,h3,h4,h5,h6,h7⟩:=hc;have hl:x.recs.length=y.recs.length:=by omega
  obtain⟨k3,k4⟩:=scanEq (x:=0) eR.dflt x.recs y.recs hl (st:=so_S (x,y)) (r:=λ_=>(false,(),())) (λ_ _ _=>rfl) (false,(),());rw[hq,so_run (x,y) (false,(),()) rfl ha hl];show(bif exB .ret (scan 0 (so_S (x,y)) 0 x.recs (false,(),())).1 then(scan 0 (so_S (x,y)) 0 x.recs (false,(),())).2.2.1 else true)=_;rw[k3,k4]
  have:decide (x=y)=decide (x.recs=y.recs):=by
   obtain⟨a1,a2,a3,a4,a5,a6,a7⟩:=x;obtain⟨b1,b2,b3,b4,b5,b6,b7⟩:=y;simp only at h1 h2 h3 h4 h5 h7;subst h1 h2 h3 h4 h5 h7;rw[Bool.eq_iff_iff];simp
  rw[this];cases decide (x.recs=y.recs)<;>rfl
noncomputable def tabQ17:MTab Tryd.prog:=tabQ15.cons 10 (pconP aOO dBool (λg=>decide (g.1=g.2)) (λ_=>[])) (conP_ok sop_ok puB)
end Go.Proofs.YtapdglacmebbaaaDoor

namespace Go.Proofs.YtapdglacmebbaaaDoor
open Go.RowKit Go.Sx
set_option maxRecDepth 100000
noncomputable def liv_q1(_u:Unit):Opn×
 Int:=
 parseOpZ (ByteArray.mk #[(115:UInt8),(117:UInt8),(98:UInt8),(109:UInt8),(105:UInt8),(116:UInt8),(32:UInt8),(52:UInt8),(32:UInt8),(100:UInt8),(114:UInt8),(111:UInt8),(112:UInt8),(32:UInt8),(51:UInt8),(32:UInt8),(110:UInt8),(111:UInt8),(100:UInt8),(101:UInt8),(32:UInt8),(50:UInt8),(59:UInt8),(50:UInt8),(59:UInt8),(49:UInt8),(59:UInt8),(52:UInt8),(59:UInt8),(48:UInt8),(59:UInt8),(45:UInt8),(59:UInt8),(45:UInt8),(59:UInt8),(48:UInt8),(59:UInt8),(48:UInt8)])
noncomputable def liv_q2(_u:Unit):BA×
 Int:=
 opE (Opn.mk (liv_q1 _u).fst.kind (liv_q1 _u).fst.wk (liv_q1 _u).fst.dst (liv_q1 _u).fst.nd (liv_q1 _u).fst.ep (eR.ag (liv_q1 _u).fst.recs) (Dl.mk (eI.ag (liv_q1 _u).fst.dl.drop) (eD.ag (liv_q1 _u).fst.dl.put) (eV.ag (liv_q1 _u).fst.dl.moves)))
noncomputable def liv_F(_u:Unit):Dv.T dBool:=
 (liv_q1 _u).snd==(0:Int)&&((liv_q2 _u).snd==(0:Int)&&((liv_q1 _u).fst.ep==(4:Int)&&((↑(liv_q1 _u).fst.dl.drop.length:Int)==(1:Int)&&((↑(liv_q1 _u).fst.dl.put.length:Int)==(1:Int)&&(((liv_q1 _u).fst.dl.put.getD (0:Nat) eD.dflt).kind==(2:Int)&&decide ((liv_q2 _u).fst=ByteArray.mk #[(115:UInt8),(117:UInt8),(98:UInt8),(109:UInt8),(105:UInt8),(116:UInt8),(32:UInt8),(52:UInt8),(32:UInt8),(100:UInt8),(114:UInt8),(111:UInt8),(112:UInt8),(32:UInt8),(51:UInt8),(32:UInt8),(110:UInt8),(111:UInt8),(100:UInt8),(101:UInt8),(32:UInt8),(50:UInt8),(59:UInt8),(50:UInt8),(59:UInt8),(49:UInt8),(59:UInt8),(52:UInt8),(59:UInt8),(48:UInt8),(59:UInt8),(45:UInt8),(59:UInt8),(45:UInt8),(59:UInt8),(48:UInt8),(59:UInt8),(48:UInt8)]))))))
def liv_side(_u:Unit):Prop:=
 (38:Nat)<=KP/\eR.okL (liv_q1 _u).fst.recs/\eI.okL (liv_q1 _u).fst.dl.drop/\eD.okL (liv_q1 _u).fst.dl.put/\eV.okL (liv_q1 _u).fst.dl.moves/\wfO (Opn.mk (liv_q1 _u).fst.kind (liv_q1 _u).fst.wk (liv_q1 _u).fst.dst (liv_q1 _u).fst.nd (liv_q1 _u).fst.ep (eR.ag (liv_q1 _u).fst.recs) (Dl.mk (eI.ag (liv_q1 _u).fst.dl.drop) (eD.ag (liv_q1 _u).fst.dl.put) (eV.ag (liv_q1 _u).fst.dl.moves)))/\(((liv_q1 _u).snd==(0:Int))=true->((liv_q2 _u).snd==(0:Int))=true->((liv_q1 _u).fst.ep==(4:Int))=true->((↑(liv_q1 _u).fst.dl.drop.length:Int)==(1:Int))=true->((↑(liv_q1 _u).fst.dl.put.length:Int)==(1:Int))=true->(0:Int)<=(0:Int)/\(0:Int)<(↑(liv_q1 _u).fst.dl.put.length:Int))
theorem liv_okS(pre:DA.T DA.none->List Prop)(h:∀g,DA.bd DA.none g->(∀p∈pre g,p)->liv_side g):FnPure Tryd.prog 6 DA.none dBool (λg=>liv_F g) pre:=pure_of_sideS (Γ:=(MTab.gamz tabQ17 [] [])) (Λ:=lamQ15) (MTab.okz tabQ17 [] []) lamQ15_ok 100 default (λg=>liv_side g) (λg=>by kernel_rfl) (λg=>by kernel_rfl) h
end Go.Proofs.YtapdglacmebbaaaDoor

namespace Go.Proofs.YtapdglacmebbaaaDoor
open Go.RowKit Go.Sx Go.Lp
set_option maxRecDepth 100000
def litL:BA:=ByteArray.mk #[(115:UInt8),(117:UInt8),(98:UInt8),(109:UInt8),(105:UInt8),(116:UInt8),(32:UInt8),(52:UInt8),(32:UInt8),(100:UInt8),(114:UInt8),(111:UInt8),(112:UInt8),(32:UInt8),(51:UInt8),(32:UInt8),(110:UInt8),(111:UInt8),(100:UInt8),(101:UInt8),(32:UInt8),(50:UInt8),(59:UInt8),(50:UInt8),(59:UInt8),(49:UInt8),(59:UInt8),(52:UInt8),(59:UInt8),(48:UInt8),(59:UInt8),(45:UInt8),(59:UInt8),(45:UInt8),(59:UInt8),(48:UInt8),(59:UInt8),(48:UInt8)]
def oL:Opn:=⟨4,0,0,0,4,[],⟨[3],[⟨2,2,[1],⟨4,0,bE⟩,bE,0,0⟩],[]⟩⟩
theorem anyF{α:Type}{l:List α}{p:α->Bool}(h:∀x∈l,p x=false):l.any p=false:=by
 rw[List.any_eq_false];exactλx hx=>by rw[h x hx];simp
theorem chkO_back{o:Opn}(h:OkO o):chkO o=0:=by
 have hz:=OkO_sz h;obtain⟨z1,z2,z3,z4,_,_⟩:=hz;have kl:KL=10000000:=rfl;obtain⟨kind,wk,dst,nd,ep,recs,⟨drop,put,moves⟩⟩:=o;have hr:recs.length<=maxLen:=by have:recs.length<=KL:=z1;unfold maxLen;omega
 have hp:put.length<=maxLen:=by have:put.length<=KL:=z3;unfold maxLen;omega
 have hm:moves.length<=maxLen:=by have:moves.length<=KL:=z4;unfold maxLen;omega
 unfold chkO cho_F;simp only[El.ag_eq];rw[ifr_any recs hr,ifd_any put hp,ifv_any moves hm,bif270];unfold OkO OkDl dl0 at h;simp only[Dl.mk.injEq]at h;rcases h with h|h|h|h|h|h|h
 .obtain⟨rfl,rfl,rfl,⟨rfl,rfl,rfl⟩,r1,r2,r3⟩:=h;have ha:(recs.any λv=>chkR v !=(0:Int))=false:=anyF λv hv=>by rw[r3 v hv];rfl
  rw[ha,decide_eq_true (by omega:(recs.length:Int)>=1),decide_eq_true (by omega:(recs.length:Int)<=64)];rfl
 .obtain⟨rfl,rfl,rfl,⟨rfl,rfl,rfl⟩⟩:=h;rfl
 .obtain⟨rfl,rfl,rfl,rfl,⟨rfl,rfl,rfl⟩⟩:=h;rfl
 .obtain⟨rfl,rfl,rfl,rfl,rfl,d1,d2,d3,d4,d5⟩:=h;have ha:(put.any λv=>chkD v !=(0:Int))=false:=anyF λv hv=>by rw[d4 v hv];rfl
  have hb:(moves.any λv=>decide ((ByteArray.size v.fn.s:Int)>(64:Int)))=false:=anyF λv hv=>decide_eq_false (by have:=d5 v hv;omega);rw[ha,hb,decide_eq_false (by omega:¬(drop.length:Int)>32),decide_eq_false (by omega:¬(put.length:Int)>32),decide_eq_false (by omega:¬(moves.length:Int)>16)];rfl
 .obtain⟨rfl,rfl,rfl,rfl,rfl,rfl,⟨rfl,rfl,rfl⟩⟩:=h;rfl
 .obtain⟨h0,rfl,rfl,rfl,rfl,⟨rfl,rfl,rfl⟩⟩:=h;rcases h0 with rfl|rfl<;>rfl
 .obtain⟨rfl,rfl,rfl,rfl,⟨rfl,rfl,rfl⟩⟩:=h;rfl
theorem ok_oL:OkO oL:=.inr (.inr (.inr (.inl ⟨rfl,rfl,rfl,rfl,rfl,by decide,by decide,by decide,λn hn=>by
 have hn:n∈[(⟨2,2,[1],⟨4,0,bE⟩,bE,0,0⟩:Nd)]:=hn;rw[List.mem_singleton.1 hn];rfl,λm hm=>(by cases hm)⟩)))
theorem live_op:opE oL=(litL,0):=by
 unfold opE;rw[chkO_back ok_oL];kernel_rfl
theorem live_sp:opR false (splS 32 litL)=(false,oL):=by kernel_rfl
theorem live_parse:parseOpZ litL=(oL,0):=by
 unfold parseOpZ;rw[live_sp,live_op];kernel_rfl
theorem wf_oL:wfO oL:=by
 have h:∀k:Int,0<=k->k<=10->i64 k:=λk h0 h1=>⟨by omega,by omega⟩;refine⟨i64_0,i64_0,i64_0,h 4 (by decide) (by decide),nor,λx hx=>?_,λn hn=>?_,λm hm=>(by cases hm)⟩
 .have hx:x∈[(3:Int)]:=hx;rw[List.mem_singleton.1 hx];exact h 3 (by decide) (by decide)
 .have hn:n∈[(⟨2,2,[1],⟨4,0,bE⟩,bE,0,0⟩:Nd)]:=hn;rw[List.mem_singleton.1 hn];refine⟨h 2 (by decide) (by decide),h 2 (by decide) (by decide),λx hx=>?_,h 4 (by decide) (by decide),i64_0,i64_0,i64_0⟩;have hx:x∈[(1:Int)]:=hx;rw[List.mem_singleton.1 hx];exact h 1 (by decide) (by decide)
theorem liv_ok:FnPure Tryd.prog 6 DA.none dBool (λ_=>true) (λ_=>[]):=by
 have q1:liv_q1 ()=(oL,0):=live_parse
 have q2:liv_q2 ()=(litL,0):=by
  unfold liv_q2;rw[q1];simp only[El.ag_eq,Dl_eta,Opn_eta];exact live_op
 refine pure_congr (liv_okS (λ_=>[]) λg hb _=>?_) λg hb _=>?_
 .show liv_side ();unfold liv_side;rw[q1];simp only[El.okL_eq,El.ag_eq,Dl_eta,Opn_eta];exact⟨by decide,trivial,trivial,trivial,trivial,wf_oL,λ_ _ _ _ _=>by decide⟩
 .show liv_F ()=true;unfold liv_F;rw[q1,q2];decide
noncomputable def tabQ19:MTab Tryd.prog:=tabQ17.cons 6 (pconP DA.none dBool (λ_=>true) (λ_=>[])) (conP_ok liv_ok puB)
end Go.Proofs.YtapdglacmebbaaaDoor

namespace Go.Proofs.YtapdglacmebbaaaDoor
open Go.RowKit Go.Sx Go.Lp
set_option maxRecDepth 100000
def eDlC:El Dl:=.iso (.pair eLI (.pair (eListC eD) eLV)) Dl.ofP Dl.toP (λ_=>rfl) (λ_=>rfl)
def eOC:El Opn:=.iso (.pair eI (.pair eI (.pair eI (.pair eI (.pair eI (.pair eLR eDlC)))))) Opn.ofP Opn.toP (λ_=>rfl) (λ_=>rfl)
abbrev aOC:DA Opn:=.one (.agg eOC)
abbrev dGC:Dv (List Nd):=.agg (eListC eD)
abbrev aGGC:DA (List Nd×List Nd):=.cons dGC (.one dGC)
theorem few_okC:FnPure Tryd.prog 7 aOC dBool few_F (λ_=>[]):=few_ok
theorem gsm_okC:FnPure Tryd.prog 15 aGGC dBool (λg=>decide (g.1=g.2)) (λ_=>[]):=gsm_ok
noncomputable def tabQ20:MTab Tryd.prog:=(tabQ19.consM 7 (fconG aOC dBool few_F (λ_=>[])) (fconG_ok few_okC)).consM 15 (fconG aGGC dBool (λg=>decide (g.1=g.2)) (λ_=>[])) (fconG_ok gsm_okC)
abbrev aDB:DA (Nd×ByteArray):=.cons dD (.one dStr)
end Go.Proofs.YtapdglacmebbaaaDoor

namespace Go.Proofs.YtapdglacmebbaaaDoor
open Go.RowKit Go.Sx
set_option maxRecDepth 100000
noncomputable def lsn_q1(n:Nd)(s:BA):dBool.T:=
 few_F (Opn.mk (0:Int) (0:Int) (0:Int) (0:Int) (0:Int) [] (Dl.mk [] ([]++[Nd.mk n.id n.kind (eI.ag n.ins) n.fn n.name n.cap n.d]) []))
noncomputable def lsn_q2(n:Nd)(s:BA):BA×Int:=
 nodeE (Nd.mk n.id n.kind (eI.ag n.ins) n.fn n.name n.cap n.d)
noncomputable def lsn_q3(n:Nd)(s:BA):Nd×Int:=
 parseZ s
noncomputable def lsn_F(n:Nd)(s:BA):Dv.T dBool:=
 bif !(lsn_q1 n s)||decide ((↑(ByteArray.size s):Int)>(2000:Int))then true
 else decide ((lsn_q2 n s).fst=(lsn_q2 n s).fst)&&((lsn_q2 n s).snd==(lsn_q2 n s).snd&&((lsn_q3 n s).snd==(lsn_q3 n s).snd&&(decide ([]++[Nd.mk (lsn_q3 n s).fst.id (lsn_q3 n s).fst.kind (eI.ag (lsn_q3 n s).fst.ins) (lsn_q3 n s).fst.fn (lsn_q3 n s).fst.name (lsn_q3 n s).fst.cap (lsn_q3 n s).fst.d]=[]++[Nd.mk (lsn_q3 n s).fst.id (lsn_q3 n s).fst.kind (eI.ag (lsn_q3 n s).fst.ins) (lsn_q3 n s).fst.fn (lsn_q3 n s).fst.name (lsn_q3 n s).fst.cap (lsn_q3 n s).fst.d])&&chkD (Nd.mk n.id n.kind (eI.ag n.ins) n.fn n.name n.cap n.d)==chkD (Nd.mk n.id n.kind (eI.ag n.ins) n.fn n.name n.cap n.d))))
def lsn_side(n:Nd)(s:BA):Prop:=
 (!true)=false->eI.okL n.ins/\((!(lsn_q1 n s)||decide ((↑(ByteArray.size s):Int)>(2000:Int)))=false->eI.okL n.ins/\wfD (Nd.mk n.id n.kind (eI.ag n.ins) n.fn n.name n.cap n.d)/\eI.okL n.ins/\wfD (Nd.mk n.id n.kind (eI.ag n.ins) n.fn n.name n.cap n.d)/\ByteArray.size s<=KP/\ByteArray.size s<=KP/\∀(cs:List Nat),(cs.isEmpty=true->(decide ((lsn_q2 n s).fst=(lsn_q2 n s).fst)=true->((lsn_q2 n s).snd==(lsn_q2 n s).snd)=true->((lsn_q3 n s).snd==(lsn_q3 n s).snd)=true->eI.okL (lsn_q3 n s).fst.ins)/\(decide ((lsn_q2 n s).fst=(lsn_q2 n s).fst)=true->((lsn_q2 n s).snd==(lsn_q2 n s).snd)=true->((lsn_q3 n s).snd==(lsn_q3 n s).snd)=true->eI.okL (lsn_q3 n s).fst.ins)/\(decide ((lsn_q2 n s).fst=(lsn_q2 n s).fst)=true->((lsn_q2 n s).snd==(lsn_q2 n s).snd)=true->((lsn_q3 n s).snd==(lsn_q3 n s).snd)=true->decide ([]++[Nd.mk (lsn_q3 n s).fst.id (lsn_q3 n s).fst.kind (eI.ag (lsn_q3 n s).fst.ins) (lsn_q3 n s).fst.fn (lsn_q3 n s).fst.name (lsn_q3 n s).fst.cap (lsn_q3 n s).fst.d]=[]++[Nd.mk (lsn_q3 n s).fst.id (lsn_q3 n s).fst.kind (eI.ag (lsn_q3 n s).fst.ins) (lsn_q3 n s).fst.fn (lsn_q3 n s).fst.name (lsn_q3 n s).fst.cap (lsn_q3 n s).fst.d])=true->eI.okL n.ins)/\(decide ((lsn_q2 n s).fst=(lsn_q2 n s).fst)=true->((lsn_q2 n s).snd==(lsn_q2 n s).snd)=true->((lsn_q3 n s).snd==(lsn_q3 n s).snd)=true->decide ([]++[Nd.mk (lsn_q3 n s).fst.id (lsn_q3 n s).fst.kind (eI.ag (lsn_q3 n s).fst.ins) (lsn_q3 n s).fst.fn (lsn_q3 n s).fst.name (lsn_q3 n s).fst.cap (lsn_q3 n s).fst.d]=[]++[Nd.mk (lsn_q3 n s).fst.id (lsn_q3 n s).fst.kind (eI.ag (lsn_q3 n s).fst.ins) (lsn_q3 n s).fst.fn (lsn_q3 n s).fst.name (lsn_q3 n s).fst.cap (lsn_q3 n s).fst.d])=true->eI.okL n.ins)/\∀(d:Bool),(decide ((lsn_q2 n s).fst=(lsn_q2 n s).fst)&&((lsn_q2 n s).snd==(lsn_q2 n s).snd&&((lsn_q3 n s).snd==(lsn_q3 n s).snd&&(decide ([]++[Nd.mk (lsn_q3 n s).fst.id (lsn_q3 n s).fst.kind (eI.ag (lsn_q3 n s).fst.ins) (lsn_q3 n s).fst.fn (lsn_q3 n s).fst.name (lsn_q3 n s).fst.cap (lsn_q3 n s).fst.d]=[]++[Nd.mk (lsn_q3 n s).fst.id (lsn_q3 n s).fst.kind (eI.ag (lsn_q3 n s).fst.ins) (lsn_q3 n s).fst.fn (lsn_q3 n s).fst.name (lsn_q3 n s).fst.cap (lsn_q3 n s).fst.d])&&chkD (Nd.mk n.id n.kind (eI.ag n.ins) n.fn n.name n.cap n.d)==chkD (Nd.mk n.id n.kind (eI.ag n.ins) n.fn n.name n.cap n.d)))))=(decide ((lsn_q2 n s).fst=(lsn_q2 n s).fst)&&((lsn_q2 n s).snd==(lsn_q2 n s).snd&&((lsn_q3 n s).snd==(lsn_q3 n s).snd&&(decide ([]++[Nd.mk (lsn_q3 n s).fst.id (lsn_q3 n s).fst.kind (eI.ag (lsn_q3 n s).fst.ins) (lsn_q3 n s).fst.fn (lsn_q3 n s).fst.name (lsn_q3 n s).fst.cap (lsn_q3 n s).fst.d]=[]++[Nd.mk (lsn_q3 n s).fst.id (lsn_q3 n s).fst.kind (eI.ag (lsn_q3 n s).fst.ins) (lsn_q3 n s).fst.fn (lsn_q3 n s).fst.name (lsn_q3 n s).fst.cap (lsn_q3 n s).fst.d])&&chkD (Nd.mk n.id n.kind (eI.ag n.ins) n.fn n.name n.cap n.d)==chkD (Nd.mk n.id n.kind (eI.ag n.ins) n.fn n.name n.cap n.d))))))/\(cs.isEmpty=false->∀(cs:List Nat),(cs.isEmpty=true->∀(cs:List Nat),(cs.isEmpty=true->(decide ((lsn_q2 n s).fst=(lsn_q2 n s).fst)=true->((lsn_q2 n s).snd==(lsn_q2 n s).snd)=true->((lsn_q3 n s).snd==(lsn_q3 n s).snd)=true->eI.okL (lsn_q3 n s).fst.ins)/\(decide ((lsn_q2 n s).fst=(lsn_q2 n s).fst)=true->((lsn_q2 n s).snd==(lsn_q2 n s).snd)=true->((lsn_q3 n s).snd==(lsn_q3 n s).snd)=true->eI.okL (lsn_q3 n s).fst.ins)/\(decide ((lsn_q2 n s).fst=(lsn_q2 n s).fst)=true->((lsn_q2 n s).snd==(lsn_q2 n s).snd)=true->((lsn_q3 n s).snd==(lsn_q3 n s).snd)=true->decide ([]++[Nd.mk (lsn_q3 n s).fst.id (lsn_q3 n s).fst.kind (eI.ag (lsn_q3 n s).fst.ins) (lsn_q3 n s).fst.fn (lsn_q3 n s).fst.name (lsn_q3 n s).fst.cap (lsn_q3 n s).fst.d]=[]++[Nd.mk (lsn_q3 n s).fst.id (lsn_q3 n s).fst.kind (eI.ag (lsn_q3 n s).fst.ins) (lsn_q3 n s).fst.fn (lsn_q3 n s).fst.name (lsn_q3 n s).fst.cap (lsn_q3 n s).fst.d])=true->eI.okL n.ins)/\(decide ((lsn_q2 n s).fst=(lsn_q2 n s).fst)=true->((lsn_q2 n s).snd==(lsn_q2 n s).snd)=true->((lsn_q3 n s).snd==(lsn_q3 n s).snd)=true->decide ([]++[Nd.mk (lsn_q3 n s).fst.id (lsn_q3 n s).fst.kind (eI.ag (lsn_q3 n s).fst.ins) (lsn_q3 n s).fst.fn (lsn_q3 n s).fst.name (lsn_q3 n s).fst.cap (lsn_q3 n s).fst.d]=[]++[Nd.mk (lsn_q3 n s).fst.id (lsn_q3 n s).fst.kind (eI.ag (lsn_q3 n s).fst.ins) (lsn_q3 n s).fst.fn (lsn_q3 n s).fst.name (lsn_q3 n s).fst.cap (lsn_q3 n s).fst.d])=true->eI.okL n.ins)/\∀(d:Bool),(decide ((lsn_q2 n s).fst=(lsn_q2 n s).fst)&&((lsn_q2 n s).snd==(lsn_q2 n s).snd&&((lsn_q3 n s).snd==(lsn_q3 n s).snd&&(decide ([]++[Nd.mk (lsn_q3 n s).fst.id (lsn_q3 n s).fst.kind (eI.ag (lsn_q3 n s).fst.ins) (lsn_q3 n s).fst.fn (lsn_q3 n s).fst.name (lsn_q3 n s).fst.cap (lsn_q3 n s).fst.d]=[]++[Nd.mk (lsn_q3 n s).fst.id (lsn_q3 n s).fst.kind (eI.ag (lsn_q3 n s).fst.ins) (lsn_q3 n s).fst.fn (lsn_q3 n s).fst.name (lsn_q3 n s).fst.cap (lsn_q3 n s).fst.d])&&chkD (Nd.mk n.id n.kind (eI.ag n.ins) n.fn n.name n.cap n.d)==chkD (Nd.mk n.id n.kind (eI.ag n.ins) n.fn n.name n.cap n.d)))))=(decide ((lsn_q2 n s).fst=(lsn_q2 n s).fst)&&((lsn_q2 n s).snd==(lsn_q2 n s).snd&&((lsn_q3 n s).snd==(lsn_q3 n s).snd&&(decide ([]++[Nd.mk (lsn_q3 n s).fst.id (lsn_q3 n s).fst.kind (eI.ag (lsn_q3 n s).fst.ins) (lsn_q3 n s).fst.fn (lsn_q3 n s).fst.name (lsn_q3 n s).fst.cap (lsn_q3 n s).fst.d]=[]++[Nd.mk (lsn_q3 n s).fst.id (lsn_q3 n s).fst.kind (eI.ag (lsn_q3 n s).fst.ins) (lsn_q3 n s).fst.fn (lsn_q3 n s).fst.name (lsn_q3 n s).fst.cap (lsn_q3 n s).fst.d])&&chkD (Nd.mk n.id n.kind (eI.ag n.ins) n.fn n.name n.cap n.d)==chkD (Nd.mk n.id n.kind (eI.ag n.ins) n.fn n.name n.cap n.d))))))/\(cs.isEmpty=false->(decide ((lsn_q2 n s).fst=(lsn_q2 n s).fst)=true->((lsn_q2 n s).snd==(lsn_q2 n s).snd)=true->((lsn_q3 n s).snd==(lsn_q3 n s).snd)=true->eI.okL (lsn_q3 n s).fst.ins)/\(decide ((lsn_q2 n s).fst=(lsn_q2 n s).fst)=true->((lsn_q2 n s).snd==(lsn_q2 n s).snd)=true->((lsn_q3 n s).snd==(lsn_q3 n s).snd)=true->eI.okL (lsn_q3 n s).fst.ins)/\(decide ((lsn_q2 n s).fst=(lsn_q2 n s).fst)=true->((lsn_q2 n s).snd==(lsn_q2 n s).snd)=true->((lsn_q3 n s).snd==(lsn_q3 n s).snd)=true->decide ([]++[Nd.mk (lsn_q3 n s).fst.id (lsn_q3 n s).fst.kind (eI.ag (lsn_q3 n s).fst.ins) (lsn_q3 n s).fst.fn (lsn_q3 n s).fst.name (lsn_q3 n s).fst.cap (lsn_q3 n s).fst.d]=[]++[Nd.mk (lsn_q3 n s).fst.id (lsn_q3 n s).fst.kind (eI.ag (lsn_q3 n s).fst.ins) (lsn_q3 n s).fst.fn (lsn_q3 n s).fst.name (lsn_q3 n s).fst.cap (lsn_q3 n s).fst.d])=true->eI.okL n.ins)/\(decide ((lsn_q2 n s).fst=(lsn_q2 n s).fst)=true->((lsn_q2 n s).snd==(lsn_q2 n s).snd)=true->((lsn_q3 n s).snd==(lsn_q3 n s).snd)=true->decide ([]++[Nd.mk (lsn_q3 n s).fst.id (lsn_q3 n s).fst.kind (eI.ag (lsn_q3 n s).fst.ins) (lsn_q3 n s).fst.fn (lsn_q3 n s).fst.name (lsn_q3 n s).fst.cap (lsn_q3 n s).fst.d]=[]++[Nd.mk (lsn_q3 n s).fst.id (lsn_q3 n s).fst.kind (eI.ag (lsn_q3 n s).fst.ins) (lsn_q3 n s).fst.fn (lsn_q3 n s).fst.name (lsn_q3 n s).fst.cap (lsn_q3 n s).fst.d])=true->eI.okL n.ins)/\∀(d:Bool),(decide ((lsn_q2 n s).fst=(lsn_q2 n s).fst)&&((lsn_q2 n s).snd==(lsn_q2 n s).snd&&((lsn_q3 n s).snd==(lsn_q3 n s).snd&&(decide ([]++[Nd.mk (lsn_q3 n s).fst.id (lsn_q3 n s).fst.kind (eI.ag (lsn_q3 n s).fst.ins) (lsn_q3 n s).fst.fn (lsn_q3 n s).fst.name (lsn_q3 n s).fst.cap (lsn_q3 n s).fst.d]=[]++[Nd.mk (lsn_q3 n s).fst.id (lsn_q3 n s).fst.kind (eI.ag (lsn_q3 n s).fst.ins) (lsn_q3 n s).fst.fn (lsn_q3 n s).fst.name (lsn_q3 n s).fst.cap (lsn_q3 n s).fst.d])&&chkD (Nd.mk n.id n.kind (eI.ag n.ins) n.fn n.name n.cap n.d)==chkD (Nd.mk n.id n.kind (eI.ag n.ins) n.fn n.name n.cap n.d)))))=(decide ((lsn_q2 n s).fst=(lsn_q2 n s).fst)&&((lsn_q2 n s).snd==(lsn_q2 n s).snd&&((lsn_q3 n s).snd==(lsn_q3 n s).snd&&(decide ([]++[Nd.mk (lsn_q3 n s).fst.id (lsn_q3 n s).fst.kind (eI.ag (lsn_q3 n s).fst.ins) (lsn_q3 n s).fst.fn (lsn_q3 n s).fst.name (lsn_q3 n s).fst.cap (lsn_q3 n s).fst.d]=[]++[Nd.mk (lsn_q3 n s).fst.id (lsn_q3 n s).fst.kind (eI.ag (lsn_q3 n s).fst.ins) (lsn_q3 n s).fst.fn (lsn_q3 n s).fst.name (lsn_q3 n s).fst.cap (lsn_q3 n s).fst.d])&&chkD (Nd.mk n.id n.kind (eI.ag n.ins) n.fn n.name n.cap n.d)==chkD (Nd.mk n.id n.kind (eI.ag n.ins) n.fn n.name n.cap n.d)))))))/\(cs.isEmpty=false->(decide ((lsn_q2 n s).fst=(lsn_q2 n s).fst)=true->((lsn_q2 n s).snd==(lsn_q2 n s).snd)=true->((lsn_q3 n s).snd==(lsn_q3 n s).snd)=true->eI.okL (lsn_q3 n s).fst.ins)/\(decide ((lsn_q2 n s).fst=(lsn_q2 n s).fst)=true->((lsn_q2 n s).snd==(lsn_q2 n s).snd)=true->((lsn_q3 n s).snd==(lsn_q3 n s).snd)=true->eI.okL (lsn_q3 n s).fst.ins)/\(decide ((lsn_q2 n s).fst=(lsn_q2 n s).fst)=true->((lsn_q2 n s).snd==(lsn_q2 n s).snd)=true->((lsn_q3 n s).snd==(lsn_q3 n s).snd)=true->decide ([]++[Nd.mk (lsn_q3 n s).fst.id (lsn_q3 n s).fst.kind (eI.ag (lsn_q3 n s).fst.ins) (lsn_q3 n s).fst.fn (lsn_q3 n s).fst.name (lsn_q3 n s).fst.cap (lsn_q3 n s).fst.d]=[]++[Nd.mk (lsn_q3 n s).fst.id (lsn_q3 n s).fst.kind (eI.ag (lsn_q3 n s).fst.ins) (lsn_q3 n s).fst.fn (lsn_q3 n s).fst.name (lsn_q3 n s).fst.cap (lsn_q3 n s).fst.d])=true->eI.okL n.ins)/\(decide ((lsn_q2 n s).fst=(lsn_q2 n s).fst)=true->((lsn_q2 n s).snd==(lsn_q2 n s).snd)=true->((lsn_q3 n s).snd==(lsn_q3 n s).snd)=true->decide ([]++[Nd.mk (lsn_q3 n s).fst.id (lsn_q3 n s).fst.kind (eI.ag (lsn_q3 n s).fst.ins) (lsn_q3 n s).fst.fn (lsn_q3 n s).fst.name (lsn_q3 n s).fst.cap (lsn_q3 n s).fst.d]=[]++[Nd.mk (lsn_q3 n s).fst.id (lsn_q3 n s).fst.kind (eI.ag (lsn_q3 n s).fst.ins) (lsn_q3 n s).fst.fn (lsn_q3 n s).fst.name (lsn_q3 n s).fst.cap (lsn_q3 n s).fst.d])=true->eI.okL n.ins)/\∀(d:Bool),(decide ((lsn_q2 n s).fst=(lsn_q2 n s).fst)&&((lsn_q2 n s).snd==(lsn_q2 n s).snd&&((lsn_q3 n s).snd==(lsn_q3 n s).snd&&(decide ([]++[Nd.mk (lsn_q3 n s).fst.id (lsn_q3 n s).fst.kind (eI.ag (lsn_q3 n s).fst.ins) (lsn_q3 n s).fst.fn (lsn_q3 n s).fst.name (lsn_q3 n s).fst.cap (lsn_q3 n s).fst.d]=[]++[Nd.mk (lsn_q3 n s).fst.id (lsn_q3 n s).fst.kind (eI.ag (lsn_q3 n s).fst.ins) (lsn_q3 n s).fst.fn (lsn_q3 n s).fst.name (lsn_q3 n s).fst.cap (lsn_q3 n s).fst.d])&&chkD (Nd.mk n.id n.kind (eI.ag n.ins) n.fn n.name n.cap n.d)==chkD (Nd.mk n.id n.kind (eI.ag n.ins) n.fn n.name n.cap n.d)))))=(decide ((lsn_q2 n s).fst=(lsn_q2 n s).fst)&&((lsn_q2 n s).snd==(lsn_q2 n s).snd&&((lsn_q3 n s).snd==(lsn_q3 n s).snd&&(decide ([]++[Nd.mk (lsn_q3 n s).fst.id (lsn_q3 n s).fst.kind (eI.ag (lsn_q3 n s).fst.ins) (lsn_q3 n s).fst.fn (lsn_q3 n s).fst.name (lsn_q3 n s).fst.cap (lsn_q3 n s).fst.d]=[]++[Nd.mk (lsn_q3 n s).fst.id (lsn_q3 n s).fst.kind (eI.ag (lsn_q3 n s).fst.ins) (lsn_q3 n s).fst.fn (lsn_q3 n s).fst.name (lsn_q3 n s).fst.cap (lsn_q3 n s).fst.d])&&chkD (Nd.mk n.id n.kind (eI.ag n.ins) n.fn n.name n.cap n.d)==chkD (Nd.mk n.id n.kind (eI.ag n.ins) n.fn n.name n.cap n.d))))))))
theorem lsn_okS(pre:DA.T aDB->List Prop)(h:∀g,DA.bd aDB g->(∀p∈pre g,p)->lsn_side g.1 g.2):FnPure Tryd.prog 4 aDB dBool (λg=>lsn_F g.1 g.2) pre:=pure_of_sideS (Γ:=(MTab.gamz tabQ20 [] [])) (Λ:=lamQ15) (MTab.okz tabQ20 [] []) lamQ15_ok 100 default (λg=>lsn_side g.1 g.2) (λg=>by kernel_rfl) (λg=>by kernel_rfl) h
end Go.Proofs.YtapdglacmebbaaaDoor

namespace Go.Proofs.YtapdglacmebbaaaDoor
open Go.RowKit Go.Sx Go.Lp
set_option maxRecDepth 100000
theorem lsn_ok:FnPure Tryd.prog 4 aDB dBool (λ_=>true) (λg=>[wfD g.1]):=by
 refine pure_congr (lsn_okS (λg=>[wfD g.1]) λg hb hp=>?_) λg hb hp=>?_
 .obtain⟨n,s⟩:=g;have hw:wfD n:=hp _ (List.mem_cons_self ..);show lsn_side n s;unfold lsn_side;simp only[El.okL_eq,El.ag_eq,Nd_eta];intro _;refine⟨trivial,λhc=>?_⟩;rw[Bool.or_eq_false_iff]at hc;have hs:=of_decide_eq_false hc.2;have kp:KP=5000000:=rfl;have hk:s.size<=KP:=by omega
  refine⟨trivial,hw,trivial,hw,hk,hk,?_⟩;clear hc hb hp hs
  repeat' (first|exact True.intro|apply And.intro|intro _)
  all_goals rfl
 .obtain⟨n,s⟩:=g;show lsn_F n s=true;unfold lsn_F;simp only[decide_true,beq_self_eq_true,Bool.and_self];cases !(lsn_q1 n s)||decide ((↑(ByteArray.size s):Int)>(2000:Int))<;>rfl
end Go.Proofs.YtapdglacmebbaaaDoor

namespace Go.Proofs.YtapdglacmebbaaaDoor
open Go.ChangeShapes Go.WideShapes Go.ChangeAt Go.RowKit Go.Sx
set_option maxRecDepth 100000 in
theorem scriptNodes_lifted(law:FnPure Tryd.prog 4 aDB dBool (λ_=>true) (λg=>[wfD g.1]))(os:Os)(started:os.Started)(H:Type)(enc:TypeId×Value->H):
  ReturnsInHanded {} Tryd.checked os 4 .any (λw args=>(Rows.scriptNodesSpec.pre enc Tryd.prog Tryd.f4 Rows.scriptNodesRow.domain false w args/\laidMetH Tryd.prog Rows.scriptNodesRow.laid w)/\sizedMet enc Tryd.prog Tryd.f4 (OpenSpec.ofChange Rows.scriptNodesSpec) false w args) (Rows.scriptNodesSpec.post enc Tryd.prog Tryd.f4 false true false false):=by
 refine rowLaid (C:=Tryd.checked) (laid:=Rows.scriptNodesRow.laid) Tryd.own started (by kernel_rfl) Tryd.func4
  (ChangeSpec.witness_shaped (enc:=enc) (C:=Tryd.checked) (os:=os) (X:=λw _=>laidMetH Tryd.prog Rows.scriptNodesRow.laid w) false (World.laidAll Tryd.prog os Rows.scriptNodesRow.laid) #[.agg #[.int .i64 0,.int .i64 0,.slice none 0 0,.int .i64 0,.int .i64 0,.string ByteArray.empty,.string ByteArray.empty,.int .i64 0,.int .i64 0],.string ByteArray.empty] 8 (World.laidAll_os _ _ _)
   (World.shaped_of_ZipB (by kernel_rfl) (by kernel_rfl)) (by kernel_rfl) (by kernel_rfl) (by kernel_rfl)
   (by rw[MakeChecks.laidMetH_plain _ _ _ (by kernel_rfl)];exact laidMet_laidAll _ (by kernel_rfl) (by kernel_rfl))) ?_
 intro W base args ds gs before hval0 hW hcnd hL hsh;have hval:∀(j:Nat)t v,Tryd.f4.params[j]?=some t->args[j]?=some v->Value.okWide Tryd.prog W .any base t v:=hval0;have hW':=hW;obtain⟨p,q,hA0,hV,rfl,hfz,hnd⟩:=hW;have hA:DataW.TrodAll enc Tryd.prog W 0 (λ_=>true) true Tryd.f4.params.toList args.toList ds p:=hA0;rw[Tryd.params4]at hA hval;obtain⟨v0,vs0,d0,ds0,p0,qq0,hargs,rfl,rfl,h0,r0⟩:=trodAll_cons hA;obtain⟨v1,vs1,d1,ds1,p1,qq1,rfl,rfl,rfl,h1,r1⟩:=trodAll_cons r0;obtain⟨rfl,rfl,rfl⟩:=trodAll_nil r1;obtain rfl:args=#[v0,v1]:=by cases args;simp_all
 obtain⟨rfl,rfl⟩:=trodVars_none hV;obtain⟨a0,q0,f0⟩:=rdvD _ _ _ _ _ _ _ _ _ _ _ (hval 0 44 v0 rfl rfl) h0;obtain⟨a1,q1,f1⟩:=rdvS _ _ _ _ _ _ _ _ _ _ _ (hval 1 9 v1 rfl rfl) h1
 have lt:∀{t:TypeId}{v:Value}{d:DataW H}{ps:List MemPlace},DataW.Trod enc Tryd.prog W 0 (λ_=>true) true t v d ps->∀x∈ps,x.block<W.heap.size:=by
  rintro t v d ps ⟨m,hm⟩;exact DataW.trod_lt m _ _ _ hm
 clear hA0 hval0;refine(law W (λb=>W.heap[b]?) (a0,a1) [v0,v1] (λ_ _ h=>h) (rowEnv hL hsh) (by intro p hp;rw[List.mem_singleton.1 hp];exact wfD_W q0) ⟨f0,f1,trivial⟩).mono λe W'⟨x,he,bel,hx⟩=>?_;obtain rfl:x=.bool true:=by simpa [dBool,SV.fit]using hx
 subst he
 exact⟨_,rfl,_,_,_,[],_,[],hW',trodAll_mk1 (shut_bool Tryd.underlying4 _),
  (trodAll_cons_mk (Below.trod Tryd.laidOut (by kernel_rfl) (of_decide_eq_true (by kernel_rfl)) h0 bel (lt h0))
  (trodAll_cons_mk (Below.trod Tryd.laidOut (by kernel_rfl) (of_decide_eq_true (by kernel_rfl)) h1 bel (lt h1)) trodAll_mk0)),rfl,bel.frame _,λh=>by cases h⟩
theorem scriptNodes_row:Rows.ScriptNodesSaid:=
 OpenClaim.holds_of_wide 4 Tryd.f4 rfl rfl rfl rfl rfl rfl rfl ⟨rfl,rfl,rfl,rfl,rfl⟩ rfl rfl rfl rfl rfl (by kernel_rfl) Tryd.func4 (by kernel_rfl)
  (of_decide_eq_true (by kernel_rfl)) (by unfold Func.isWrapper;first|(rw[if_pos (by decide+kernel)];kernel_rfl)|(rw[if_neg (by decide+kernel)];exact⟨rfl,rfl⟩))
  (λos started H enc _=>scriptNodes_lifted lsn_ok os started H enc)
theorem scriptNodes_holds:Rows.ScriptNodesCardSaid:=
 Claim7.holds_tied_plain_at .later [] [.data,.pinned] true (true, "1fa8a138a45b84df1300b1ffcb2fc2d8977eac32ce63debdf0ebdf7f8e425af6") false scriptNodes_row (λ_ h=>by cases h) (by kernel_rfl) (λ_ h=>by cases h) scriptNodes_row_tie rfl ⟨rfl,rfl⟩ (by kernel_rfl) rfl
  (λf fn hf hfn=>by
   obtain rfl:f=4:=Option.some.inj ((show Tryd.prog.funcNamed "rivulet/rivuletlaw27.ScriptNodes" =some 4 by kernel_rfl).symm.trans hf) |>.symm;obtain rfl:fn=Tryd.f4:=(Option.some.inj (Tryd.func4.symm.trans hfn)).symm
   exact⟨by kernel_rfl,λj t ht=>by
    rw[Tryd.params4]at ht;have hm:t∈[44,9]:=by simpa using Array.mem_of_getElem? ht
    have hall:([44,9].all λu=>!Tryd.prog.wantsStandIn u)=true:=by kernel_rfl
    exact(show Tryd.prog.wantsStandIn t=false by simpa using List.all_eq_true.1 hall t hm)⟩)
  (by kernel_rfl)
end Go.Proofs.YtapdglacmebbaaaDoor
