/- What the rows read of what is done to a coordinator. -/
import Derived.Test.YtfkdbifgppfegaaDoorZG11eef6cd
import Derived.Test.YtfkdbifgppfegaaDoorZG102d8233
import Derived.Test.YtfkdbifgppfegaaDoorZG06f19b95
import Derived.Test.YtfkdbifgppfegaaDoorZG053af284
import Derived.Test.YtfkdbifgppfegaaDoorZG07c57bd8
import Derived.Test.YtfkdbifgppfegaaDoorZG09a42b49
import Derived.Test.YtfkdbifgppfegaaDoorZG0888f6ba
set_option linter.unusedVariables false
set_option linter.unusedSimpArgs false
set_option linter.constructorNameAsVariable false
set_option linter.all false

namespace Go.Proofs.YtfkdbifgppfegaaDoor
open Go.RowKit Go.Sx Go.ChangeShapes
def W2(a:I2):Prop:=W1 a.1/\W1 a.2
def W4(a:I4):Prop:=W1 a.1/\W1 a.2.1/\W1 a.2.2.1/\W1 a.2.2.2
def W6(a:I6):Prop:=W1 a.1/\W1 a.2.1/\W4 a.2.2
def Place.W(s:Place):Prop:=W2 s.toP
def T.W(t:T):Prop:=W6 t.toP
def WPTI(a:PTI):Prop:=Place.W a.1/\T.W a.2.1/\W1 a.2.2
def Change.W(s:Change):Prop:=WPTI s.toP
def WIB(a:IB):Prop:=W1 a.1/\WS a.2
def Rec.W(s:Rec):Prop:=WIB s.toP
def WLR(l:List Rec):Prop:=∀n∈l,Rec.W n
def WLC(l:List Change):Prop:=∀n∈l,Change.W n
def WMs(a:MsP):Prop:=W1 a.1/\W1 a.2.1/\Place.W a.2.2.1/\T.W a.2.2.2.1/\WLR a.2.2.2.2.1/\WLC a.2.2.2.2.2.1/\Dl.W a.2.2.2.2.2.2.1/\W1 a.2.2.2.2.2.2.2.1/\WLN a.2.2.2.2.2.2.2.2.1/\WB a.2.2.2.2.2.2.2.2.2.1/\W1 a.2.2.2.2.2.2.2.2.2.2
def Ms.W(s:Ms):Prop:=WMs s.toP
def WDo(a:DoP):Prop:=W1 a.1/\W1 a.2.1/\W1 a.2.2.1/\W1 a.2.2.2.1/\Dl.W a.2.2.2.2.1/\Ms.W a.2.2.2.2.2
def Do.W(s:Do):Prop:=WDo s.toP
end Go.Proofs.YtfkdbifgppfegaaDoor

namespace Go.Proofs.YtfkdbifgppfegaaDoor
open Go.RowKit Go.Sx Go.ChangeShapes
theorem rdv8:RdV Tryd.prog 5 d8 (λn=>(Lit.int .u8 n).wf=true):=rdv_int Tryd.underlying5
theorem wf8{n:Int}(h:(Lit.int .u8 n).wf=true):0<=n/\n<=255:=by
 simp[Lit.wf]at h;exact h
end Go.Proofs.YtfkdbifgppfegaaDoor

namespace Go.Proofs.YtfkdbifgppfegaaDoor
open Go.RowKit Go.Sx
set_option maxRecDepth 100000
noncomputable def nw1_F(n:Int):Rv.T rLE:=
 bif decide (n<(1:Int))||decide (n>(16:Int))then(Ld.mk (0:Int) (0:Int) (0:Int) (0:Int) (Dl.mk [] [] []) [] false (0:Int) [],(1:Int))
 else(Ld.mk n (0:Int) (0:Int) (0:Int) (Dl.mk [] [] []) [] false (0:Int) [],(0:Int))
def nw1_side(n:Int):Prop:=
 True
theorem nw1_okS(pre:DA.T aI->List Prop)(h:∀g,DA.bd aI g->(∀p∈pre g,p)->nw1_side g):FnPure Tryd.prog 12 aI (Rv.D rLE) (λg=>nw1_F g) pre:=res_of_side (R:=rLE) (Γ:=(MTab.gamz tabJ0 [] [])) (Λ:=noΛ) (MTab.okz tabJ0 [] []) noΛ_ok 100 default (λg=>nw1_side g) (λg=>by kernel_rfl) (λg=>by kernel_rfl) h
end Go.Proofs.YtfkdbifgppfegaaDoor

namespace Go.Proofs.YtfkdbifgppfegaaDoor
open Go.RowKit Go.Sx Go.Lp
set_option maxRecDepth 100000
theorem chk_13(l:Ld)(hst:l.stage=1\/l.stage=3):chkL l=bif rgB l&&(ccB l&&(decide ((l.ents.length:Int)<=(1024:Int))&&(((l.ents.length:Int)==(0:Int)||(l.yes&&l.stage==(3:Int)))&&((l.voted.length:Int)==l.workers&&hasB l.voted false))))then(0:Int)else(213:Int):=by
 unfold chkL chkB;rcases hst with h|h<;>rw[h]<;>rfl
theorem bif213{b:Bool}(h:(bif b then(0:Int)else 213)=0):b=true:=by
 cases b
 .cases h
 .rfl
theorem st_13{l:Ld}(hs:(!l.stage==1&&!l.stage==3)=false):l.stage=1\/l.stage=3:=by
 simp only[Bool.and_eq_false_iff,Bool.not_eq_false',beq_iff_eq]at hs;exact hs
theorem chk_ask{l:Ld}(h:(chkL l !=0)=false)(hs:(!l.stage==1&&!l.stage==3)=false):rgB l=true/\ccB l=true/\(l.ents.length:Int)<=1024/\((l.ents.length:Int)==0||(l.yes&&l.stage==3))=true/\(l.voted.length:Int)=l.workers/\hasB l.voted false=true:=by
 have h:chkL l=0:=by simpa using h
 rw[chk_13 l (st_13 hs)]at h;have h:=bif213 h;simp only[Bool.and_eq_true,decide_eq_true_eq,beq_iff_eq]at h;obtain⟨h1,h2,h3,h4,h5,h6⟩:=h;exact⟨h1,h2,h3,h4,h5,h6⟩
theorem chk_x{l:Ld}(h:(chkL l !=0)=false)(hs:(!l.stage==1&&!l.stage==3)=false){v:List Bool}{y:Bool}{why:Int}{es:List Ent}(hv:v.length=l.voted.length)(hcc:((why==0)==y)=true)(h1:(es.length:Int)<=1024)(h0:((es.length:Int)==0||(y&&l.stage==3))=true):chkL ⟨l.workers,l.stage,l.ver,l.cut,l.dl,v,y,why,es⟩=bif hasB v false then(0:Int)else 213:=by
 obtain⟨k1,k2,_,_,k5,_⟩:=chk_ask h hs;rw[chk_13 ⟨l.workers,l.stage,l.ver,l.cut,l.dl,v,y,why,es⟩ (st_13 hs)];have e1:rgB ⟨l.workers,l.stage,l.ver,l.cut,l.dl,v,y,why,es⟩=true:=k1
 have e2:ccB ⟨l.workers,l.stage,l.ver,l.cut,l.dl,v,y,why,es⟩=true:=by
  unfold ccB at k2 ⊢;simp only[Bool.and_eq_true]at k2 ⊢;exact⟨k2.1,hcc⟩
 rw[e1,e2,h0,decide_eq_true h1,hv,k5];simp
theorem hasB_cons(a:Bool)(v:List Bool):hasB (a::v) false=(!a||hasB v false):=by
 cases a<;>rfl
end Go.Proofs.YtfkdbifgppfegaaDoor

namespace Go.Proofs.YtfkdbifgppfegaaDoor
open Go.RowKit Go.Sx
set_option maxRecDepth 100000
end Go.Proofs.YtfkdbifgppfegaaDoor

namespace Go.Proofs.YtfkdbifgppfegaaDoor
open Go.RowKit Go.Sx Go.Lp
noncomputable def tabJ11:MTab Tryd.prog:=(tabJ0.cons 80 (pconP aM dI mck_F (λ_=>[])) (conP_ok mck_ok puI)).cons 68 (pconP aM dI mck_F (λ_=>[])) (conP_ok rmck_ok puI)
end Go.Proofs.YtfkdbifgppfegaaDoor

namespace Go.Proofs.YtfkdbifgppfegaaDoor
open Go.RowKit Go.Sx
set_option maxRecDepth 100000
noncomputable def hea_F(l:Ld)(w:Int)(m:Ms):Rv.T (.of dI):=
 bif chkL (Ld.mk l.workers l.stage l.ver l.cut (Dl.mk (eI.ag l.dl.drop) (eD.ag l.dl.put) (eV.ag l.dl.moves)) (eBool.ag l.voted) l.yes l.why (eN.ag l.ents))!=(0:Int)then chkL (Ld.mk l.workers l.stage l.ver l.cut (Dl.mk (eI.ag l.dl.drop) (eD.ag l.dl.put) (eV.ag l.dl.moves)) (eBool.ag l.voted) l.yes l.why (eN.ag l.ents))
 else bif decide (w<(0:Int))||decide (w>=l.workers)then(1:Int)else bif !l.stage==(1:Int)&&!l.stage==(3:Int)then(212:Int)else bif mck_F (Ms.mk m.kind m.ver m.p m.t (eR.ag m.recs) (eC.ag m.changes) (Dl.mk (eI.ag m.dl.drop) (eD.ag m.dl.put) (eV.ag m.dl.moves)) m.cut (eN.ag m.ents) m.yes m.why)!=(0:Int)then mck_F (Ms.mk m.kind m.ver m.p m.t (eR.ag m.recs) (eC.ag m.changes) (Dl.mk (eI.ag m.dl.drop) (eD.ag m.dl.put) (eV.ag m.dl.moves)) m.cut (eN.ag m.ents) m.yes m.why)else bif m.kind !=(6:Int)||(m.ver !=l.ver||decide ((↑m.ents.length:Int)>(0:Int))&&l.stage==(1:Int))then(130:Int)else bif l.voted.getD w.toNat eBool.dflt then(5:Int)else(0:Int)
def hea_side(l:Ld)(w:Int)(m:Ms):Prop:=
 eI.okL l.dl.drop/\eD.okL l.dl.put/\eV.okL l.dl.moves/\eBool.okL l.voted/\eN.okL l.ents/\((chkL (Ld.mk l.workers l.stage l.ver l.cut (Dl.mk (eI.ag l.dl.drop) (eD.ag l.dl.put) (eV.ag l.dl.moves)) (eBool.ag l.voted) l.yes l.why (eN.ag l.ents))!=(0:Int))=false->(decide (w<(0:Int))||decide (w>=l.workers))=false->(!l.stage==(1:Int)&&!l.stage==(3:Int))=false->eR.okL m.recs/\eC.okL m.changes/\eI.okL m.dl.drop/\eD.okL m.dl.put/\eV.okL m.dl.moves/\eN.okL m.ents/\((mck_F (Ms.mk m.kind m.ver m.p m.t (eR.ag m.recs) (eC.ag m.changes) (Dl.mk (eI.ag m.dl.drop) (eD.ag m.dl.put) (eV.ag m.dl.moves)) m.cut (eN.ag m.ents) m.yes m.why)!=(0:Int))=false->(m.kind !=(6:Int)||(m.ver !=l.ver||decide ((↑m.ents.length:Int)>(0:Int))&&l.stage==(1:Int)))=false->(0:Int)<=w/\w<(↑l.voted.length:Int)))
theorem hea_okS(pre:DA.T aLIM->List Prop)(h:∀g,DA.bd aLIM g->(∀p∈pre g,p)->hea_side g.1 g.2.1 g.2.2):FnPure Tryd.prog 56 aLIM (Rv.D (.of dI)) (λg=>hea_F g.1 g.2.1 g.2.2) pre:=res_of_side (R:=(.of dI)) (Γ:=(MTab.gamz tabJ11 [] [])) (Λ:=noΛ) (MTab.okz tabJ11 [] []) noΛ_ok 100 default (λg=>hea_side g.1 g.2.1 g.2.2) (λg=>by kernel_rfl) (λg=>by kernel_rfl) h
end Go.Proofs.YtfkdbifgppfegaaDoor

namespace Go.Proofs.YtfkdbifgppfegaaDoor
open Go.RowKit Go.Sx
set_option maxRecDepth 100000
noncomputable abbrev cLd:CT Ld:=.iso (.pair (.pl (.pair eI (.pair eI (.pair eI (.pair eI eDl))))) (.pair (.row 4 eBool) (.pair (.pl (.pair eBool eI)) (.row 73 eN)))) (λp=>⟨p.1.1,p.1.2.1,p.1.2.2.1,p.1.2.2.2.1,p.1.2.2.2.2,p.2.1,p.2.2.1.1,p.2.2.1.2,p.2.2.2⟩) (λl=>((l.workers,l.stage,l.ver,l.cut,l.dl),l.voted,(l.yes,l.why),l.ents)) (λ_=>rfl)
noncomputable def lct_F(_k:Unit)(l:Ld):TA.T TA.nil×TR.T (TR.agg cLd):=
 ((),Ld.mk l.workers l.stage l.ver l.cut (Dl.mk (eI.ag (eI.ag l.dl.drop)) (eD.ag (eD.ag l.dl.put)) (eV.ag (eV.ag l.dl.moves))) (eBool.ag (eBool.ag l.voted)) l.yes l.why (eN.ag (eN.ag l.ents)))
def lct_side(_k:Unit)(l:Ld):Prop:=
 eI.okL l.dl.drop/\eD.okL l.dl.put/\eV.okL l.dl.moves/\fewM (Ms.mk (0:Int) (0:Int) (Place.mk (0:Int) (0:Int)) (T.mk (0:Int) (0:Int) (0:Int) (0:Int) (0:Int) (0:Int)) [] [] (Dl.mk (eI.ag l.dl.drop) (eD.ag l.dl.put) (eV.ag l.dl.moves)) (0:Int) [] false (0:Int))/\∀(cs:List Nat),(cs.isEmpty=true->eBool.okL l.voted/\(eBool.ag l.voted).length<=KS/\eN.okL l.ents/\(eN.ag l.ents).length<=KS/\eI.okL (eI.ag l.dl.drop)/\eD.okL (eD.ag l.dl.put)/\eV.okL (eV.ag l.dl.moves)/\(eBool.ag l.voted).length<=(eBool.ag l.voted).length/\(∀(e:Nat),e<(eBool.ag l.voted).length->True)/\(eN.ag l.ents).length<=(eN.ag l.ents).length/\(∀(e:Nat),e<(eN.ag l.ents).length->True)/\∀(d:Unit×Ld),((),Ld.mk l.workers l.stage l.ver l.cut (Dl.mk (eI.ag (eI.ag l.dl.drop)) (eD.ag (eD.ag l.dl.put)) (eV.ag (eV.ag l.dl.moves))) (eBool.ag (eBool.ag l.voted)) l.yes l.why (eN.ag (eN.ag l.ents)))=((),Ld.mk l.workers l.stage l.ver l.cut (Dl.mk (eI.ag (eI.ag l.dl.drop)) (eD.ag (eD.ag l.dl.put)) (eV.ag (eV.ag l.dl.moves))) (eBool.ag (eBool.ag l.voted)) l.yes l.why (eN.ag (eN.ag l.ents))))/\(cs.isEmpty=false->eBool.okL l.voted/\(eBool.ag l.voted).length<=KS/\eN.okL l.ents/\(eN.ag l.ents).length<=KS/\eI.okL (eI.ag l.dl.drop)/\eD.okL (eD.ag l.dl.put)/\eV.okL (eV.ag l.dl.moves)/\(eBool.ag l.voted).length<=(eBool.ag l.voted).length/\(∀(e:Nat),e<(eBool.ag l.voted).length->True)/\(eN.ag l.ents).length<=(eN.ag l.ents).length/\(∀(e:Nat),e<(eN.ag l.ents).length->True)/\∀(d:Unit×Ld),((),Ld.mk l.workers l.stage l.ver l.cut (Dl.mk (eI.ag (eI.ag l.dl.drop)) (eD.ag (eD.ag l.dl.put)) (eV.ag (eV.ag l.dl.moves))) (eBool.ag (eBool.ag l.voted)) l.yes l.why (eN.ag (eN.ag l.ents)))=((),Ld.mk l.workers l.stage l.ver l.cut (Dl.mk (eI.ag (eI.ag l.dl.drop)) (eD.ag (eD.ag l.dl.put)) (eV.ag (eV.ag l.dl.moves))) (eBool.ag (eBool.ag l.voted)) l.yes l.why (eN.ag (eN.ag l.ents))))
theorem lct_okS(pre:TA.T TA.nil->DA.T aL->List Prop)(h:∀k g,DA.bd aL g->(∀p∈pre k g,p)->lct_side k g):FnT Tryd.prog 54 TA.nil aL (TR.agg cLd) (λk g=>lct_F k g) pre:=T_of_side (Γ:=(MTab.gamz tabJ0 [] [])) (Λ:=noΛ) (MTab.okz tabJ0 [] []) noΛ_ok 100 default (λk g=>lct_side k g) (λk g=>by kernel_rfl) (λk g=>by kernel_rfl) h
end Go.Proofs.YtfkdbifgppfegaaDoor

namespace Go.Proofs.YtfkdbifgppfegaaDoor
open Go.RowKit Go.Sx Go.Lp
theorem lct_ok:FnT Tryd.prog 54 TA.nil aL (TR.agg cLd) (λ_ l=>((),l)) (λ_ l=>[fewL l]):=by
 refine T_congr (lct_okS (λ_ l=>[fewL l]) λk l _ hp=>?_) (λ_ _ h=>h) λk l _ _=>?_
 .obtain⟨h1,h2,h3⟩:fewL l:=hp _ (List.mem_cons_self ..);unfold lct_side;simp only[El.okL_eq,El.ag_eq,ld_eta,implies_true,true_and,and_true,h2,h3,Nat.le_refl];exact few_dl h1 ..
 .unfold lct_F;simp only[El.ag_eq]
end Go.Proofs.YtfkdbifgppfegaaDoor

namespace Go.Proofs.YtfkdbifgppfegaaDoor
open Go.RowKit Go.Sx Go.Lp
set_option maxRecDepth 100000
noncomputable def heaE(l:Ld)(w:Int)(m:Ms):Int:=bif chkL l !=0 then chkL l else bif decide (w<0)||decide (w>=l.workers)then 1 else bif !l.stage==1&&!l.stage==3 then 212 else bif mck_F m !=0 then mck_F m else bif m.kind !=6||(m.ver !=l.ver||decide ((m.ents.length:Int)>0)&&l.stage==1)then 130 else bif l.voted.getD w.toNat false then 5 else 0
theorem hea_ok':FnPure Tryd.prog 56 aLIM dI (λg=>heaE g.1 g.2.1 g.2.2) (λ_=>[]):=by
 refine pure_congr (hea_okS (λ_=>[]) λg _ _=>?_) λg _ _=>?_
 .obtain⟨l,w,m⟩:=g;show hea_side l w m;unfold hea_side;simp only[El.okL_eq,El.ag_eq,ld_eta,true_and,and_true];intro hc h1 h2 _ _;have h3:=(chk_ask hc h2).2.2.2.2.1;simp only[Bool.or_eq_false_iff,decide_eq_false_iff_not]at h1;omega
 .obtain⟨l,w,m⟩:=g;show hea_F l w m=_;unfold hea_F heaE;simp only[El.ag_eq,ld_eta,ms_eta];rfl
noncomputable def tabQ5p:PTab Tryd.prog:=(((PTab.nil.cons 56 (pconP aLIM dI (λg=>heaE g.1 g.2.1 g.2.2) (λ_=>[])) (conP_ok hea_ok' puI)).cons 17 (pconP aL dI chkL (λ_=>[])) (conP_ok rck_ok puI)).cons 68 (pconP aM dI mck_F (λ_=>[])) (conP_ok rmck_ok puI)).cons 67 (pconR aM dMs (λm=>m) (λm=>[fewM m])) (conR_ok rmc_ok)
noncomputable def tabQ5:MTab Tryd.prog:=(((MTab.of tabQ5p).consM 54 (bconT TA.nil aL (TR.agg cLd) (λ_ l=>((),l)) (λ_ l=>[fewL l])) (bconT_ok lct_ok)).consM 20 (bconV rL dI chkL (λ_=>[])) (conV_ok ck_ok puI)).consM 46 (bconV (.list eBool) dBool (λxs=>!hasB xs false) (λ_=>[])) (conV_ok rall_ok puB)
end Go.Proofs.YtfkdbifgppfegaaDoor

namespace Go.Proofs.YtfkdbifgppfegaaDoor
open Go.RowKit Go.Sx
set_option maxRecDepth 100000
abbrev wta_G:Type:=Nat×List Bool×Unit×List Int×Int×Int
noncomputable def wta_LP:LP 10 wta_G:=.pair (.owl 10 14 4) (.pair (.rowO 10 4 4 eBool) (.pair (.fix 10 3 (.p 8 0)) (.pair (.ctO 10 8 22 (CT.row 3 eI)) (.pair (.slot 10 15 dI) (.slot 10 16 dI)))))
noncomputable def wta_R(k:Nat)(v:List Bool)(_u:Unit)(ws:List Int)(n:Int)(i:Int):Ex×wta_G:=
 bif decide (i<n)then bif !v.getD i.toNat eBool.dflt then(Ex.normal,k,eBool.ag v,(),eI.lst (min (ws.length+(1:Nat)) ws.length) (eI.els ws)++List.map (λx=>i) (List.range (ws.length+(1:Nat)-ws.length)),n,IntKind.i64.wrap (i+(1:Int)))else(Ex.normal,k,eBool.ag v,(),eI.ag ws,n,IntKind.i64.wrap (i+(1:Int)))
 else(Ex.exit (0:Nat),k,eBool.ag v,(),eI.ag ws,n,i)
def wta_side(k:Nat)(v:List Bool)(_u:Unit)(ws:List Int)(n:Int)(i:Int):Prop:=
 (decide (i<n)=true->((0:Int)<=i/\i<(↑k:Int))/\i.toNat<v.length/\((!v.getD i.toNat eBool.dflt)=true->(ws.length<=ws.length/\True/\ws.length+(1:Nat)<=maxLen/\(ws.length+(1:Nat))*Tryd.prog.types[(3:Nat)].bytes<=(140737488355328:Nat))/\(∀(e:Nat),e<v.length->True)/\ws.length+(1:Nat)<=ws.length+(1:Nat)/\(∀(e:Nat),e<min (ws.length+(1:Nat)) ws.length->True)/\∀(e:Nat),e<ws.length+(1:Nat)-ws.length->True)/\((!v.getD i.toNat eBool.dflt)=false->(∀(e:Nat),e<v.length->True)/\ws.length<=ws.length/\∀(e:Nat),e<ws.length->True))/\(decide (i<n)=false->(∀(e:Nat),e<v.length->True)/\ws.length<=ws.length/\∀(e:Nat),e<ws.length->True)
theorem wta_one:((loopsOf Tryd.prog 18).filter λc=>Nat.beq (lkey c) 4).length=1:=by kernel_rfl
theorem wta_es(g:wta_G):(wta_R g.1 g.2.1 g.2.2.1 g.2.2.2.1 g.2.2.2.2.1 g.2.2.2.2.2).1=.normal\/(wta_R g.1 g.2.1 g.2.2.1 g.2.2.2.1 g.2.2.2.2.1 g.2.2.2.2.2).1∈([.exit 0]:List Ex):=by
 unfold wta_R
 repeat' (first|(left;rfl)|(right;simp only[cond_true,cond_false];simp;done)|(rw[Bool.cond_eq_ite];split))
noncomputable abbrev wta_C(Inv:wta_G->List Prop)(m:wta_G->Nat):LCon:=loopR [.exit 0] (loopBody Tryd.prog 18 4) wta_LP [] 29 Inv (λg=>wta_R g.1 g.2.1 g.2.2.1 g.2.2.2.1 g.2.2.2.2.1 g.2.2.2.2.2) m
theorem wta_loop(Inv:wta_G->List Prop)(m:wta_G->Nat)(hs:∀g,allP (Inv g)->wta_side g.1 g.2.1 g.2.2.1 g.2.2.2.1 g.2.2.2.2.1 g.2.2.2.2.2)(hg:Goes (λg:wta_G=>wta_R g.1 g.2.1 g.2.2.1 g.2.2.2.1 g.2.2.2.2.1 g.2.2.2.2.2) m λg=>allP (Inv g)):∀b∈loopsOf Tryd.prog 18,lkey b=4->LoopOk Tryd.prog b (wta_C Inv m).g:=loop_run (Γ:=(MTab.gamz tabQ5 [] [])) (Λ:=noΛ) (MTab.okz tabQ5 [] []) noΛ_ok 100 18 4 29 wta_LP [] Inv (λg=>wta_R g.1 g.2.1 g.2.2.1 g.2.2.2.1 g.2.2.2.2.1 g.2.2.2.2.2) (λg=>wta_side g.1 g.2.1 g.2.2.1 g.2.2.2.1 g.2.2.2.2.1 g.2.2.2.2.2) m default [.exit 0] wta_one (λrd T B HL HB ds g=>by kernel_rfl) (λrd T B HL HB ds g=>by kernel_rfl) hs hg wta_es
abbrev wtb_G:Type:=Nat×List Bool×Unit×List Int×Int×Int
noncomputable def wtb_LP:LP 11 wtb_G:=.pair (.owl 11 14 4) (.pair (.rowO 11 4 4 eBool) (.pair (.fix 11 3 (.p 9 0)) (.pair (.ctO 11 9 22 (CT.row 3 eI)) (.pair (.slot 11 15 dI) (.slot 11 16 dI)))))
noncomputable def wtb_R(k:Nat)(v:List Bool)(_u:Unit)(ws:List Int)(n:Int)(i:Int):Ex×wtb_G:=
 bif decide (i<n)then bif !v.getD i.toNat eBool.dflt then(Ex.normal,k,eBool.ag v,(),eI.lst (min (ws.length+(1:Nat)) ws.length) (eI.els ws)++List.map (λx=>i) (List.range (ws.length+(1:Nat)-ws.length)),n,IntKind.i64.wrap (i+(1:Int)))else(Ex.normal,k,eBool.ag v,(),eI.ag ws,n,IntKind.i64.wrap (i+(1:Int)))
 else(Ex.exit (0:Nat),k,eBool.ag v,(),eI.ag ws,n,i)
def wtb_side(k:Nat)(v:List Bool)(_u:Unit)(ws:List Int)(n:Int)(i:Int):Prop:=
 (decide (i<n)=true->((0:Int)<=i/\i<(↑k:Int))/\i.toNat<v.length/\((!v.getD i.toNat eBool.dflt)=true->(ws.length<=ws.length/\True/\ws.length+(1:Nat)<=maxLen/\(ws.length+(1:Nat))*Tryd.prog.types[(3:Nat)].bytes<=(140737488355328:Nat))/\(∀(e:Nat),e<v.length->True)/\ws.length+(1:Nat)<=ws.length+(1:Nat)/\(∀(e:Nat),e<min (ws.length+(1:Nat)) ws.length->True)/\∀(e:Nat),e<ws.length+(1:Nat)-ws.length->True)/\((!v.getD i.toNat eBool.dflt)=false->(∀(e:Nat),e<v.length->True)/\ws.length<=ws.length/\∀(e:Nat),e<ws.length->True))/\(decide (i<n)=false->(∀(e:Nat),e<v.length->True)/\ws.length<=ws.length/\∀(e:Nat),e<ws.length->True)
theorem wtb_one:((loopsOf Tryd.prog 18).filter λc=>Nat.beq (lkey c) 4).length=1:=by kernel_rfl
theorem wtb_es(g:wtb_G):(wtb_R g.1 g.2.1 g.2.2.1 g.2.2.2.1 g.2.2.2.2.1 g.2.2.2.2.2).1=.normal\/(wtb_R g.1 g.2.1 g.2.2.1 g.2.2.2.1 g.2.2.2.2.1 g.2.2.2.2.2).1∈([.exit 0]:List Ex):=by
 unfold wtb_R
 repeat' (first|(left;rfl)|(right;simp only[cond_true,cond_false];simp;done)|(rw[Bool.cond_eq_ite];split))
noncomputable abbrev wtb_C(Inv:wtb_G->List Prop)(m:wtb_G->Nat):LCon:=loopR [.exit 0] (loopBody Tryd.prog 18 4) wtb_LP [] 29 Inv (λg=>wtb_R g.1 g.2.1 g.2.2.1 g.2.2.2.1 g.2.2.2.2.1 g.2.2.2.2.2) m
theorem wtb_loop(Inv:wtb_G->List Prop)(m:wtb_G->Nat)(hs:∀g,allP (Inv g)->wtb_side g.1 g.2.1 g.2.2.1 g.2.2.2.1 g.2.2.2.2.1 g.2.2.2.2.2)(hg:Goes (λg:wtb_G=>wtb_R g.1 g.2.1 g.2.2.1 g.2.2.2.1 g.2.2.2.2.1 g.2.2.2.2.2) m λg=>allP (Inv g)):∀b∈loopsOf Tryd.prog 18,lkey b=4->LoopOk Tryd.prog b (wtb_C Inv m).g:=loop_run (Γ:=(MTab.gamz tabQ5 [] [])) (Λ:=noΛ) (MTab.okz tabQ5 [] []) noΛ_ok 100 18 4 29 wtb_LP [] Inv (λg=>wtb_R g.1 g.2.1 g.2.2.1 g.2.2.2.1 g.2.2.2.2.1 g.2.2.2.2.2) (λg=>wtb_side g.1 g.2.1 g.2.2.1 g.2.2.2.1 g.2.2.2.2.1 g.2.2.2.2.2) m default [.exit 0] wtb_one (λrd T B HL HB ds g=>by kernel_rfl) (λrd T B HL HB ds g=>by kernel_rfl) hs hg wtb_es
abbrev wtc_G:Type:=Nat×List Bool×Unit×List Int×Int×Int
noncomputable def wtc_LP:LP 12 wtc_G:=.pair (.owl 12 14 4) (.pair (.rowO 12 4 4 eBool) (.pair (.fix 12 3 (.p 10 0)) (.pair (.ctO 12 10 22 (CT.row 3 eI)) (.pair (.slot 12 15 dI) (.slot 12 16 dI)))))
noncomputable def wtc_R(k:Nat)(v:List Bool)(_u:Unit)(ws:List Int)(n:Int)(i:Int):Ex×wtc_G:=
 bif decide (i<n)then bif !v.getD i.toNat eBool.dflt then(Ex.normal,k,eBool.ag v,(),eI.lst (min (ws.length+(1:Nat)) ws.length) (eI.els ws)++List.map (λx=>i) (List.range (ws.length+(1:Nat)-ws.length)),n,IntKind.i64.wrap (i+(1:Int)))else(Ex.normal,k,eBool.ag v,(),eI.ag ws,n,IntKind.i64.wrap (i+(1:Int)))
 else(Ex.exit (0:Nat),k,eBool.ag v,(),eI.ag ws,n,i)
def wtc_side(k:Nat)(v:List Bool)(_u:Unit)(ws:List Int)(n:Int)(i:Int):Prop:=
 (decide (i<n)=true->((0:Int)<=i/\i<(↑k:Int))/\i.toNat<v.length/\((!v.getD i.toNat eBool.dflt)=true->(ws.length<=ws.length/\True/\ws.length+(1:Nat)<=maxLen/\(ws.length+(1:Nat))*Tryd.prog.types[(3:Nat)].bytes<=(140737488355328:Nat))/\(∀(e:Nat),e<v.length->True)/\ws.length+(1:Nat)<=ws.length+(1:Nat)/\(∀(e:Nat),e<min (ws.length+(1:Nat)) ws.length->True)/\∀(e:Nat),e<ws.length+(1:Nat)-ws.length->True)/\((!v.getD i.toNat eBool.dflt)=false->(∀(e:Nat),e<v.length->True)/\ws.length<=ws.length/\∀(e:Nat),e<ws.length->True))/\(decide (i<n)=false->(∀(e:Nat),e<v.length->True)/\ws.length<=ws.length/\∀(e:Nat),e<ws.length->True)
theorem wtc_one:((loopsOf Tryd.prog 18).filter λc=>Nat.beq (lkey c) 4).length=1:=by kernel_rfl
theorem wtc_es(g:wtc_G):(wtc_R g.1 g.2.1 g.2.2.1 g.2.2.2.1 g.2.2.2.2.1 g.2.2.2.2.2).1=.normal\/(wtc_R g.1 g.2.1 g.2.2.1 g.2.2.2.1 g.2.2.2.2.1 g.2.2.2.2.2).1∈([.exit 0]:List Ex):=by
 unfold wtc_R
 repeat' (first|(left;rfl)|(right;simp only[cond_true,cond_false];simp;done)|(rw[Bool.cond_eq_ite];split))
noncomputable abbrev wtc_C(Inv:wtc_G->List Prop)(m:wtc_G->Nat):LCon:=loopR [.exit 0] (loopBody Tryd.prog 18 4) wtc_LP [] 29 Inv (λg=>wtc_R g.1 g.2.1 g.2.2.1 g.2.2.2.1 g.2.2.2.2.1 g.2.2.2.2.2) m
theorem wtc_loop(Inv:wtc_G->List Prop)(m:wtc_G->Nat)(hs:∀g,allP (Inv g)->wtc_side g.1 g.2.1 g.2.2.1 g.2.2.2.1 g.2.2.2.2.1 g.2.2.2.2.2)(hg:Goes (λg:wtc_G=>wtc_R g.1 g.2.1 g.2.2.1 g.2.2.2.1 g.2.2.2.2.1 g.2.2.2.2.2) m λg=>allP (Inv g)):∀b∈loopsOf Tryd.prog 18,lkey b=4->LoopOk Tryd.prog b (wtc_C Inv m).g:=loop_run (Γ:=(MTab.gamz tabQ5 [] [])) (Λ:=noΛ) (MTab.okz tabQ5 [] []) noΛ_ok 100 18 4 29 wtc_LP [] Inv (λg=>wtc_R g.1 g.2.1 g.2.2.1 g.2.2.2.1 g.2.2.2.2.1 g.2.2.2.2.2) (λg=>wtc_side g.1 g.2.1 g.2.2.1 g.2.2.2.1 g.2.2.2.2.1 g.2.2.2.2.2) m default [.exit 0] wtc_one (λrd T B HL HB ds g=>by kernel_rfl) (λrd T B HL HB ds g=>by kernel_rfl) hs hg wtc_es
end Go.Proofs.YtfkdbifgppfegaaDoor

namespace Go.Proofs.YtfkdbifgppfegaaDoor
open Go.RowKit Go.Sx Go.Lp
set_option maxRecDepth 100000
theorem byI3(h:3<Tryd.prog.types.size):(Tryd.prog.types[(3:Nat)]'h).bytes=8:=by kernel_rfl
def idxF:Int->List Bool->List Int
 |_,[]=>[]
 |k,a::l=>bif !a then k::idxF (k+1) l else idxF (k+1) l
abbrev wtC:=List Bool×Int×Nat
abbrev wtB:=List Int×Unit
def wt_S(_:wtC)(b:wtB)(i:Int)(a:Bool):Ex×wtB:=(.normal,bif !a then(b.1++[i],b.2)else b)
def wt_K(c:wtC)(b:wtB)(i:Int):Prop:=(b.1.length:Int)<=i/\c.1.length<=KS/\c.2.2=c.1.length
abbrev wt_xs(c:wtC):List Bool:=c.1
abbrev wt_lim(c:wtC):Int:=c.2.1
theorem wt_P:ixP wt_S wt_xs wt_K:=λc b i a h _ _=>⟨by
 have:=h.1;show(((bif !a then(b.1++[(i:Int)],b.2)else b).1.length:Nat):Int)<=_;cases a
 .simp only[Bool.not_false,cond_true,List.length_append,List.length_cons,List.length_nil];omega
 .simp only[Bool.not_true,cond_false];omega,h.2⟩
theorem wt_scan(c:wtC):∀(l:List Bool)(i:Int)(o:List Int),scan 0 (wt_S c) i l (o,())=(.exit 0,i+l.length,(o++idxF i l,()))
 | [],i,o=>by simp[scan,idxF]
 |a::l,i,o=>by
  cases a with
  |true=>
   show scan 0 (wt_S c) (i+1) l (o,())=_;rw[wt_scan c l];simp only[idxF,Bool.not_true,cond_false,List.length_cons];rw[show i+1+(l.length:Int)=i+((l.length+1:Nat):Int) by omega]
  |false=>
   show scan 0 (wt_S c) (i+1) l (o++[i],())=_;rw[wt_scan c l];simp only[idxF,Bool.not_false,cond_true,List.length_cons,List.append_assoc,List.singleton_append];rw[show i+1+(l.length:Int)=i+((l.length+1:Nat):Int) by omega]
def wta_f(g:wta_G):Int×wtC×wtB:=(g.2.2.2.2.2,(g.2.1,g.2.2.2.2.1,g.1),(g.2.2.2.1,g.2.2.1))
def wta_g(d:Int×wtC×wtB):wta_G:=(d.2.1.2.2,d.2.1.1,d.2.2.2,d.2.2.1,d.2.1.2.1,d.1)
abbrev wta_I(g:wta_G):List Prop:=ixI wt_lim wt_xs wt_K (wta_f g)
abbrev wta_M(g:wta_G):Nat:=ixM wt_lim (wta_f g)
noncomputable abbrev wta_RR(g:wta_G):Ex×wta_G:=wta_R g.1 g.2.1 g.2.2.1 g.2.2.2.1 g.2.2.2.2.1 g.2.2.2.2.2
theorem wta_RF(d:Int×wtC×wtB):wta_RR (wta_g d)=((ixF 0 wt_lim wt_xs eBool.dflt wt_S d).1,wta_g (ixF 0 wt_lim wt_xs eBool.dflt wt_S d).2):=by
 obtain⟨i,⟨v,n,k⟩,⟨o,⟨⟩⟩⟩:=d;show wta_R k v () o n i=_;unfold wta_R ixF wt_S;simp only[El.ag_eq,lst_app1];cases decide (i<n)
 .rfl
 .simp only[cond_true];cases v.getD i.toNat eBool.dflt<;>rfl
theorem wta_ok:∀b∈loopsOf Tryd.prog 18,lkey b=4->LoopOk Tryd.prog b (wta_C wta_I wta_M).g:=by
 refine wta_loop wta_I wta_M (λg hi=>?_) (ix_conj_goes (φ:=wta_f) (ψ:=wta_g) (λ_=>rfl) (λ_=>rfl) (λd _=>wta_RF d) wt_P);obtain⟨k,v,⟨⟩,o,n,i⟩:=g;obtain⟨h1,h2,h3,h4,h5,h6,h7⟩:=hi _ (List.mem_cons_self ..);have h1:n=(v.length:Int):=h1;have h3:0<=i:=h3;have h5:(o.length:Int)<=i:=h5;have h6:v.length<=KS:=h6;have h7:k=v.length:=h7;unfold KS at h6;show wta_side k v () o n i;unfold wta_side;simp only[byI3,Nat.le_refl,implies_true,true_and,and_true];intro hlt;have hlt:=of_decide_eq_true hlt;exact⟨⟨h3,by omega⟩,by omega,λ_=>⟨by unfold maxLen;omega,by omega⟩⟩
theorem wta_run(v:List Bool)(hx:v.length<=KS):loopF wta_RR wta_M (v.length,v,(),[],(v.length:Int),0)=(.exit 0,v.length,v,(),idxF 0 v,(v.length:Int),(v.length:Int)):=by
 have h:=ix_conj_run (φ:=wta_f) (ψ:=wta_g) (λ_=>rfl) (λ_=>rfl) (λd _=>wta_RF d) wt_P (v,(v.length:Int),v.length) ([],()) rfl (Nat.le_trans hx (by decide)) ⟨Int.le_refl _,hx,rfl⟩;rw[wt_scan]at h;simp only[Int.zero_add,List.nil_append]at h;exact h
def wtb_f(g:wtb_G):Int×wtC×wtB:=(g.2.2.2.2.2,(g.2.1,g.2.2.2.2.1,g.1),(g.2.2.2.1,g.2.2.1))
def wtb_g(d:Int×wtC×wtB):wtb_G:=(d.2.1.2.2,d.2.1.1,d.2.2.2,d.2.2.1,d.2.1.2.1,d.1)
abbrev wtb_I(g:wtb_G):List Prop:=ixI wt_lim wt_xs wt_K (wtb_f g)
abbrev wtb_M(g:wtb_G):Nat:=ixM wt_lim (wtb_f g)
noncomputable abbrev wtb_RR(g:wtb_G):Ex×wtb_G:=wtb_R g.1 g.2.1 g.2.2.1 g.2.2.2.1 g.2.2.2.2.1 g.2.2.2.2.2
theorem wtb_RF(d:Int×wtC×wtB):wtb_RR (wtb_g d)=((ixF 0 wt_lim wt_xs eBool.dflt wt_S d).1,wtb_g (ixF 0 wt_lim wt_xs eBool.dflt wt_S d).2):=by
 obtain⟨i,⟨v,n,k⟩,⟨o,⟨⟩⟩⟩:=d;show wtb_R k v () o n i=_;unfold wtb_R ixF wt_S;simp only[El.ag_eq,lst_app1];cases decide (i<n)
 .rfl
 .simp only[cond_true];cases v.getD i.toNat eBool.dflt<;>rfl
theorem wtb_ok:∀b∈loopsOf Tryd.prog 18,lkey b=4->LoopOk Tryd.prog b (wtb_C wtb_I wtb_M).g:=by
 refine wtb_loop wtb_I wtb_M (λg hi=>?_) (ix_conj_goes (φ:=wtb_f) (ψ:=wtb_g) (λ_=>rfl) (λ_=>rfl) (λd _=>wtb_RF d) wt_P);obtain⟨k,v,⟨⟩,o,n,i⟩:=g;obtain⟨h1,h2,h3,h4,h5,h6,h7⟩:=hi _ (List.mem_cons_self ..);have h1:n=(v.length:Int):=h1;have h3:0<=i:=h3;have h5:(o.length:Int)<=i:=h5;have h6:v.length<=KS:=h6;have h7:k=v.length:=h7;unfold KS at h6;show wtb_side k v () o n i;unfold wtb_side;simp only[byI3,Nat.le_refl,implies_true,true_and,and_true];intro hlt;have hlt:=of_decide_eq_true hlt;exact⟨⟨h3,by omega⟩,by omega,λ_=>⟨by unfold maxLen;omega,by omega⟩⟩
theorem wtb_run(v:List Bool)(hx:v.length<=KS):loopF wtb_RR wtb_M (v.length,v,(),[],(v.length:Int),0)=(.exit 0,v.length,v,(),idxF 0 v,(v.length:Int),(v.length:Int)):=by
 have h:=ix_conj_run (φ:=wtb_f) (ψ:=wtb_g) (λ_=>rfl) (λ_=>rfl) (λd _=>wtb_RF d) wt_P (v,(v.length:Int),v.length) ([],()) rfl (Nat.le_trans hx (by decide)) ⟨Int.le_refl _,hx,rfl⟩;rw[wt_scan]at h;simp only[Int.zero_add,List.nil_append]at h;exact h
def wtc_f(g:wtc_G):Int×wtC×wtB:=(g.2.2.2.2.2,(g.2.1,g.2.2.2.2.1,g.1),(g.2.2.2.1,g.2.2.1))
def wtc_g(d:Int×wtC×wtB):wtc_G:=(d.2.1.2.2,d.2.1.1,d.2.2.2,d.2.2.1,d.2.1.2.1,d.1)
abbrev wtc_I(g:wtc_G):List Prop:=ixI wt_lim wt_xs wt_K (wtc_f g)
abbrev wtc_M(g:wtc_G):Nat:=ixM wt_lim (wtc_f g)
noncomputable abbrev wtc_RR(g:wtc_G):Ex×wtc_G:=wtc_R g.1 g.2.1 g.2.2.1 g.2.2.2.1 g.2.2.2.2.1 g.2.2.2.2.2
theorem wtc_RF(d:Int×wtC×wtB):wtc_RR (wtc_g d)=((ixF 0 wt_lim wt_xs eBool.dflt wt_S d).1,wtc_g (ixF 0 wt_lim wt_xs eBool.dflt wt_S d).2):=by
 obtain⟨i,⟨v,n,k⟩,⟨o,⟨⟩⟩⟩:=d;show wtc_R k v () o n i=_;unfold wtc_R ixF wt_S;simp only[El.ag_eq,lst_app1];cases decide (i<n)
 .rfl
 .simp only[cond_true];cases v.getD i.toNat eBool.dflt<;>rfl
theorem wtc_ok:∀b∈loopsOf Tryd.prog 18,lkey b=4->LoopOk Tryd.prog b (wtc_C wtc_I wtc_M).g:=by
 refine wtc_loop wtc_I wtc_M (λg hi=>?_) (ix_conj_goes (φ:=wtc_f) (ψ:=wtc_g) (λ_=>rfl) (λ_=>rfl) (λd _=>wtc_RF d) wt_P);obtain⟨k,v,⟨⟩,o,n,i⟩:=g;obtain⟨h1,h2,h3,h4,h5,h6,h7⟩:=hi _ (List.mem_cons_self ..);have h1:n=(v.length:Int):=h1;have h3:0<=i:=h3;have h5:(o.length:Int)<=i:=h5;have h6:v.length<=KS:=h6;have h7:k=v.length:=h7;unfold KS at h6;show wtc_side k v () o n i;unfold wtc_side;simp only[byI3,Nat.le_refl,implies_true,true_and,and_true];intro hlt;have hlt:=of_decide_eq_true hlt;exact⟨⟨h3,by omega⟩,by omega,λ_=>⟨by unfold maxLen;omega,by omega⟩⟩
theorem wtc_run(v:List Bool)(hx:v.length<=KS):loopF wtc_RR wtc_M (v.length,v,(),[],(v.length:Int),0)=(.exit 0,v.length,v,(),idxF 0 v,(v.length:Int),(v.length:Int)):=by
 have h:=ix_conj_run (φ:=wtc_f) (ψ:=wtc_g) (λ_=>rfl) (λ_=>rfl) (λd _=>wtc_RF d) wt_P (v,(v.length:Int),v.length) ([],()) rfl (Nat.le_trans hx (by decide)) ⟨Int.le_refl _,hx,rfl⟩;rw[wt_scan]at h;simp only[Int.zero_add,List.nil_append]at h;exact h
noncomputable def ltQ9:LTab Tryd.prog:=LTab.nil.cons 18 4 (lconAlt 10 (wta_C wta_I wta_M) (lconAlt 11 (wtb_C wtb_I wtb_M) (wtc_C wtc_I wtc_M))) (λb hb hk=>altL_ok (wta_ok b hb hk) (altL_ok (wtb_ok b hb hk) (wtc_ok b hb hk)))
noncomputable abbrev lamQ9:Lam:=ltQ9.lam
theorem lamQ9_ok:∀f k L,lamQ9 f k=some L->∀b∈loopsOf Tryd.prog f,lkey b=k->LoopOk Tryd.prog b L.g:=ltQ9.ok
end Go.Proofs.YtfkdbifgppfegaaDoor

namespace Go.Proofs.YtfkdbifgppfegaaDoor
open Go.RowKit Go.Sx Go.Lp
set_option maxRecDepth 100000
end Go.Proofs.YtfkdbifgppfegaaDoor

namespace Go.Proofs.YtfkdbifgppfegaaDoor
open Go.RowKit Go.Sx
set_option maxRecDepth 100000
end Go.Proofs.YtfkdbifgppfegaaDoor

namespace Go.Proofs.YtfkdbifgppfegaaDoor
open Go.RowKit Go.Sx Go.Lp
set_option maxRecDepth 100000
end Go.Proofs.YtfkdbifgppfegaaDoor

namespace Go.Proofs.YtfkdbifgppfegaaDoor
open Go.RowKit Go.Sx
set_option maxRecDepth 100000
end Go.Proofs.YtfkdbifgppfegaaDoor

namespace Go.Proofs.YtfkdbifgppfegaaDoor
open Go.RowKit Go.Sx
set_option maxRecDepth 100000
noncomputable def hrd_q1(l:Ld)(w:Int)(m:Ms):Ex×
 wtc_G:=
 loopF (λg=>wtc_R g.fst g.snd.fst g.snd.snd.fst g.snd.snd.snd.fst g.snd.snd.snd.snd.fst g.snd.snd.snd.snd.snd) wtc_M ((eBool.ag l.voted).length,(eBool.ag (eBool.ag l.voted)).set w.toNat true,(),[],(↑(eBool.ag l.voted).length:Int),(0:Int))
noncomputable def hrd_q2(l:Ld)(w:Int)(m:Ms):Ex×
 wtb_G:=
 loopF (λg=>wtb_R g.fst g.snd.fst g.snd.snd.fst g.snd.snd.snd.fst g.snd.snd.snd.snd.fst g.snd.snd.snd.snd.snd) wtb_M ((eBool.ag l.voted).length,(eBool.ag (eBool.ag l.voted)).set w.toNat true,(),[],(↑(eBool.ag l.voted).length:Int),(0:Int))
noncomputable def hrd_q3(l:Ld)(w:Int)(m:Ms):Ex×
 wta_G:=
 loopF (λg=>wta_R g.fst g.snd.fst g.snd.snd.fst g.snd.snd.snd.fst g.snd.snd.snd.snd.fst g.snd.snd.snd.snd.snd) wta_M ((eBool.ag l.voted).length,(eBool.ag (eBool.ag l.voted)).set w.toNat true,(),[],(↑(eBool.ag l.voted).length:Int),(0:Int))
noncomputable def hrd_F(l:Ld)(w:Int)(m:Ms):Rv.T rLE:=
 bif heaE (Ld.mk l.workers l.stage l.ver l.cut (Dl.mk (eI.ag l.dl.drop) (eD.ag l.dl.put) (eV.ag l.dl.moves)) (eBool.ag l.voted) l.yes l.why (eN.ag l.ents)) w (Ms.mk m.kind m.ver m.p m.t (eR.ag m.recs) (eC.ag m.changes) (Dl.mk (eI.ag m.dl.drop) (eD.ag m.dl.put) (eV.ag m.dl.moves)) m.cut (eN.ag m.ents) m.yes m.why)!=(0:Int)then(Ld.mk l.workers l.stage l.ver l.cut (Dl.mk (eI.ag l.dl.drop) (eD.ag l.dl.put) (eV.ag l.dl.moves)) (eBool.ag l.voted) l.yes l.why (eN.ag l.ents),heaE (Ld.mk l.workers l.stage l.ver l.cut (Dl.mk (eI.ag l.dl.drop) (eD.ag l.dl.put) (eV.ag l.dl.moves)) (eBool.ag l.voted) l.yes l.why (eN.ag l.ents)) w (Ms.mk m.kind m.ver m.p m.t (eR.ag m.recs) (eC.ag m.changes) (Dl.mk (eI.ag m.dl.drop) (eD.ag m.dl.put) (eV.ag m.dl.moves)) m.cut (eN.ag m.ents) m.yes m.why))
 else bif !m.yes then bif chkL (Ld.mk l.workers l.stage l.ver l.cut (Dl.mk (eI.ag (eI.ag l.dl.drop)) (eD.ag (eD.ag l.dl.put)) (eV.ag (eV.ag l.dl.moves))) ((eBool.ag (eBool.ag l.voted)).set w.toNat true) (!l.yes&&l.yes) (bif l.yes then m.why else l.why) [])==(0:Int)then bif !l.stage==(1:Int)&&!l.stage==(3:Int)then(Ld.mk l.workers (bif l.stage==(1:Int)&&(!l.yes&&l.yes)then(2:Int)else(4:Int)) l.ver l.cut (Dl.mk (eI.ag (eI.ag l.dl.drop)) (eD.ag (eD.ag l.dl.put)) (eV.ag (eV.ag l.dl.moves))) [] (!l.yes&&l.yes) (bif l.yes then m.why else l.why) [],(0:Int))else bif decide ((0:Int)<(↑(hrd_q1 l w m).snd.snd.snd.snd.fst.length:Int))then(Ld.mk l.workers l.stage l.ver l.cut (Dl.mk (eI.ag (eI.ag l.dl.drop)) (eD.ag (eD.ag l.dl.put)) (eV.ag (eV.ag l.dl.moves))) (eBool.lst (eBool.ag l.voted).length (eBool.els (hrd_q1 l w m).snd.snd.fst)) (!l.yes&&l.yes) (bif l.yes then m.why else l.why) [],(0:Int))else(Ld.mk l.workers (bif l.stage==(1:Int)&&(!l.yes&&l.yes)then(2:Int)else(4:Int)) l.ver l.cut (Dl.mk (eI.ag (eI.ag l.dl.drop)) (eD.ag (eD.ag l.dl.put)) (eV.ag (eV.ag l.dl.moves))) [] (!l.yes&&l.yes) (bif l.yes then m.why else l.why) [],(0:Int))else(Ld.mk l.workers (bif l.stage==(1:Int)&&(!l.yes&&l.yes)then(2:Int)else(4:Int)) l.ver l.cut (Dl.mk (eI.ag (eI.ag l.dl.drop)) (eD.ag (eD.ag l.dl.put)) (eV.ag (eV.ag l.dl.moves))) [] (!l.yes&&l.yes) (bif l.yes then m.why else l.why) [],(0:Int))else bif l.yes&&decide (IntKind.i64.wrap ((↑(eN.ag l.ents).length:Int)+(↑m.ents.length:Int))>(1024:Int))then bif chkL (Ld.mk l.workers l.stage l.ver l.cut (Dl.mk (eI.ag (eI.ag l.dl.drop)) (eD.ag (eD.ag l.dl.put)) (eV.ag (eV.ag l.dl.moves))) ((eBool.ag (eBool.ag l.voted)).set w.toNat true) (!l.yes&&l.yes) (bif l.yes then(7:Int)else l.why) [])==(0:Int)then bif !l.stage==(1:Int)&&!l.stage==(3:Int)then(Ld.mk l.workers (bif l.stage==(1:Int)&&(!l.yes&&l.yes)then(2:Int)else(4:Int)) l.ver l.cut (Dl.mk (eI.ag (eI.ag l.dl.drop)) (eD.ag (eD.ag l.dl.put)) (eV.ag (eV.ag l.dl.moves))) [] (!l.yes&&l.yes) (bif l.yes then(7:Int)else l.why) [],(0:Int))else bif decide ((0:Int)<(↑(hrd_q1 l w m).snd.snd.snd.snd.fst.length:Int))then(Ld.mk l.workers l.stage l.ver l.cut (Dl.mk (eI.ag (eI.ag l.dl.drop)) (eD.ag (eD.ag l.dl.put)) (eV.ag (eV.ag l.dl.moves))) (eBool.lst (eBool.ag l.voted).length (eBool.els (hrd_q1 l w m).snd.snd.fst)) (!l.yes&&l.yes) (bif l.yes then(7:Int)else l.why) [],(0:Int))else(Ld.mk l.workers (bif l.stage==(1:Int)&&(!l.yes&&l.yes)then(2:Int)else(4:Int)) l.ver l.cut (Dl.mk (eI.ag (eI.ag l.dl.drop)) (eD.ag (eD.ag l.dl.put)) (eV.ag (eV.ag l.dl.moves))) [] (!l.yes&&l.yes) (bif l.yes then(7:Int)else l.why) [],(0:Int))else(Ld.mk l.workers (bif l.stage==(1:Int)&&(!l.yes&&l.yes)then(2:Int)else(4:Int)) l.ver l.cut (Dl.mk (eI.ag (eI.ag l.dl.drop)) (eD.ag (eD.ag l.dl.put)) (eV.ag (eV.ag l.dl.moves))) [] (!l.yes&&l.yes) (bif l.yes then(7:Int)else l.why) [],(0:Int))else bif l.yes then bif chkL (Ld.mk l.workers l.stage l.ver l.cut (Dl.mk (eI.ag (eI.ag l.dl.drop)) (eD.ag (eD.ag l.dl.put)) (eV.ag (eV.ag l.dl.moves))) ((eBool.ag (eBool.ag l.voted)).set w.toNat true) l.yes l.why (eN.lst (min ((eN.ag l.ents).length+m.ents.length) (eN.ag l.ents).length) (eN.els (eN.ag l.ents))++eN.lst ((eN.ag l.ents).length+m.ents.length-(eN.ag l.ents).length) (eN.els m.ents)))==(0:Int)then bif !l.stage==(1:Int)&&!l.stage==(3:Int)then(Ld.mk l.workers (bif l.stage==(1:Int)&&l.yes then(2:Int)else(4:Int)) l.ver l.cut (Dl.mk (eI.ag (eI.ag l.dl.drop)) (eD.ag (eD.ag l.dl.put)) (eV.ag (eV.ag l.dl.moves))) [] l.yes l.why (eN.lst (min ((eN.ag l.ents).length+m.ents.length) (eN.ag l.ents).length) (eN.els (eN.ag l.ents))++eN.lst ((eN.ag l.ents).length+m.ents.length-(eN.ag l.ents).length) (eN.els m.ents)),(0:Int))else bif decide ((0:Int)<(↑(hrd_q2 l w m).snd.snd.snd.snd.fst.length:Int))then(Ld.mk l.workers l.stage l.ver l.cut (Dl.mk (eI.ag (eI.ag l.dl.drop)) (eD.ag (eD.ag l.dl.put)) (eV.ag (eV.ag l.dl.moves))) (eBool.lst (eBool.ag l.voted).length (eBool.els (hrd_q2 l w m).snd.snd.fst)) l.yes l.why (eN.lst (min ((eN.ag l.ents).length+m.ents.length) (eN.ag l.ents).length) (eN.els (eN.ag l.ents))++eN.lst ((eN.ag l.ents).length+m.ents.length-(eN.ag l.ents).length) (eN.els m.ents)),(0:Int))else(Ld.mk l.workers (bif l.stage==(1:Int)&&l.yes then(2:Int)else(4:Int)) l.ver l.cut (Dl.mk (eI.ag (eI.ag l.dl.drop)) (eD.ag (eD.ag l.dl.put)) (eV.ag (eV.ag l.dl.moves))) [] l.yes l.why (eN.lst (min ((eN.ag l.ents).length+m.ents.length) (eN.ag l.ents).length) (eN.els (eN.ag l.ents))++eN.lst ((eN.ag l.ents).length+m.ents.length-(eN.ag l.ents).length) (eN.els m.ents)),(0:Int))else(Ld.mk l.workers (bif l.stage==(1:Int)&&l.yes then(2:Int)else(4:Int)) l.ver l.cut (Dl.mk (eI.ag (eI.ag l.dl.drop)) (eD.ag (eD.ag l.dl.put)) (eV.ag (eV.ag l.dl.moves))) [] l.yes l.why (eN.lst (min ((eN.ag l.ents).length+m.ents.length) (eN.ag l.ents).length) (eN.els (eN.ag l.ents))++eN.lst ((eN.ag l.ents).length+m.ents.length-(eN.ag l.ents).length) (eN.els m.ents)),(0:Int))else bif chkL (Ld.mk l.workers l.stage l.ver l.cut (Dl.mk (eI.ag (eI.ag l.dl.drop)) (eD.ag (eD.ag l.dl.put)) (eV.ag (eV.ag l.dl.moves))) ((eBool.ag (eBool.ag l.voted)).set w.toNat true) l.yes l.why (eN.ag (eN.ag l.ents)))==(0:Int)then bif !l.stage==(1:Int)&&!l.stage==(3:Int)then(Ld.mk l.workers (bif l.stage==(1:Int)&&l.yes then(2:Int)else(4:Int)) l.ver l.cut (Dl.mk (eI.ag (eI.ag l.dl.drop)) (eD.ag (eD.ag l.dl.put)) (eV.ag (eV.ag l.dl.moves))) [] l.yes l.why (eN.ag (eN.ag l.ents)),(0:Int))else bif decide ((0:Int)<(↑(hrd_q3 l w m).snd.snd.snd.snd.fst.length:Int))then(Ld.mk l.workers l.stage l.ver l.cut (Dl.mk (eI.ag (eI.ag l.dl.drop)) (eD.ag (eD.ag l.dl.put)) (eV.ag (eV.ag l.dl.moves))) (eBool.lst (eBool.ag l.voted).length (eBool.els (hrd_q3 l w m).snd.snd.fst)) l.yes l.why (eN.ag (eN.ag l.ents)),(0:Int))else(Ld.mk l.workers (bif l.stage==(1:Int)&&l.yes then(2:Int)else(4:Int)) l.ver l.cut (Dl.mk (eI.ag (eI.ag l.dl.drop)) (eD.ag (eD.ag l.dl.put)) (eV.ag (eV.ag l.dl.moves))) [] l.yes l.why (eN.ag (eN.ag l.ents)),(0:Int))else(Ld.mk l.workers (bif l.stage==(1:Int)&&l.yes then(2:Int)else(4:Int)) l.ver l.cut (Dl.mk (eI.ag (eI.ag l.dl.drop)) (eD.ag (eD.ag l.dl.put)) (eV.ag (eV.ag l.dl.moves))) [] l.yes l.why (eN.ag (eN.ag l.ents)),(0:Int))
def hrd_side(l:Ld)(w:Int)(m:Ms):Prop:=
 eI.okL l.dl.drop/\eD.okL l.dl.put/\eV.okL l.dl.moves/\eBool.okL l.voted/\eN.okL l.ents/\eR.okL m.recs/\eC.okL m.changes/\eI.okL m.dl.drop/\eD.okL m.dl.put/\eV.okL m.dl.moves/\eN.okL m.ents/\((heaE (Ld.mk l.workers l.stage l.ver l.cut (Dl.mk (eI.ag l.dl.drop) (eD.ag l.dl.put) (eV.ag l.dl.moves)) (eBool.ag l.voted) l.yes l.why (eN.ag l.ents)) w (Ms.mk m.kind m.ver m.p m.t (eR.ag m.recs) (eC.ag m.changes) (Dl.mk (eI.ag m.dl.drop) (eD.ag m.dl.put) (eV.ag m.dl.moves)) m.cut (eN.ag m.ents) m.yes m.why)!=(0:Int))=true->eI.okL l.dl.drop/\eD.okL l.dl.put/\eV.okL l.dl.moves/\eBool.okL l.voted/\eN.okL l.ents)/\((heaE (Ld.mk l.workers l.stage l.ver l.cut (Dl.mk (eI.ag l.dl.drop) (eD.ag l.dl.put) (eV.ag l.dl.moves)) (eBool.ag l.voted) l.yes l.why (eN.ag l.ents)) w (Ms.mk m.kind m.ver m.p m.t (eR.ag m.recs) (eC.ag m.changes) (Dl.mk (eI.ag m.dl.drop) (eD.ag m.dl.put) (eV.ag m.dl.moves)) m.cut (eN.ag m.ents) m.yes m.why)!=(0:Int))=false->eI.okL l.dl.drop/\eD.okL l.dl.put/\eV.okL l.dl.moves/\eBool.okL l.voted/\eN.okL l.ents/\fewL (Ld.mk l.workers l.stage l.ver l.cut (Dl.mk (eI.ag l.dl.drop) (eD.ag l.dl.put) (eV.ag l.dl.moves)) (eBool.ag l.voted) l.yes l.why (eN.ag l.ents))/\((0:Int)<=w/\w<(↑(eBool.ag l.voted).length:Int))/\w.toNat<(eBool.ag l.voted).length/\((!m.yes)=true->eI.okL (eI.ag l.dl.drop)/\eD.okL (eD.ag l.dl.put)/\eV.okL (eV.ag l.dl.moves)/\(eBool.ag l.voted).length<=(eBool.ag l.voted).length/\True/\(∀(e:Nat),e<(eBool.ag l.voted).length->True)/\((chkL (Ld.mk l.workers l.stage l.ver l.cut (Dl.mk (eI.ag (eI.ag l.dl.drop)) (eD.ag (eD.ag l.dl.put)) (eV.ag (eV.ag l.dl.moves))) ((eBool.ag (eBool.ag l.voted)).set w.toNat true) (!l.yes&&l.yes) (bif l.yes then m.why else l.why) [])==(0:Int))=true->((!l.stage==(1:Int)&&!l.stage==(3:Int))=true->eI.okL (eI.ag l.dl.drop)/\eD.okL (eD.ag l.dl.put)/\eV.okL (eV.ag l.dl.moves))/\((!l.stage==(1:Int)&&!l.stage==(3:Int))=false->True/\(∀(e:Nat),e<(eBool.ag l.voted).length->True)/\Lp.ixJ wt_lim wt_xs wt_K (wtc_f ((eBool.ag l.voted).length,(eBool.ag (eBool.ag l.voted)).set w.toNat true,(),[],(↑(eBool.ag l.voted).length:Int),(0:Int)))/\(decide ((0:Int)<(↑(hrd_q1 l w m).snd.snd.snd.snd.fst.length:Int))=true->((0:Int)<=(0:Int)/\(0:Int)<(↑(hrd_q1 l w m).snd.snd.snd.snd.fst.length:Int))/\(0:Nat)<(hrd_q1 l w m).snd.snd.snd.snd.fst.length/\eI.okL (eI.ag l.dl.drop)/\eD.okL (eD.ag l.dl.put)/\eV.okL (eV.ag l.dl.moves)/\(eBool.ag l.voted).length<=(hrd_q1 l w m).snd.snd.fst.length/\∀(e:Nat),e<(eBool.ag l.voted).length->True)/\(decide ((0:Int)<(↑(hrd_q1 l w m).snd.snd.snd.snd.fst.length:Int))=false->eI.okL (eI.ag l.dl.drop)/\eD.okL (eD.ag l.dl.put)/\eV.okL (eV.ag l.dl.moves))))/\((chkL (Ld.mk l.workers l.stage l.ver l.cut (Dl.mk (eI.ag (eI.ag l.dl.drop)) (eD.ag (eD.ag l.dl.put)) (eV.ag (eV.ag l.dl.moves))) ((eBool.ag (eBool.ag l.voted)).set w.toNat true) (!l.yes&&l.yes) (bif l.yes then m.why else l.why) [])==(0:Int))=false->eI.okL (eI.ag l.dl.drop)/\eD.okL (eD.ag l.dl.put)/\eV.okL (eV.ag l.dl.moves)))/\((!m.yes)=false->((l.yes&&decide (IntKind.i64.wrap ((↑(eN.ag l.ents).length:Int)+(↑m.ents.length:Int))>(1024:Int)))=true->eI.okL (eI.ag l.dl.drop)/\eD.okL (eD.ag l.dl.put)/\eV.okL (eV.ag l.dl.moves)/\(eBool.ag l.voted).length<=(eBool.ag l.voted).length/\True/\(∀(e:Nat),e<(eBool.ag l.voted).length->True)/\((chkL (Ld.mk l.workers l.stage l.ver l.cut (Dl.mk (eI.ag (eI.ag l.dl.drop)) (eD.ag (eD.ag l.dl.put)) (eV.ag (eV.ag l.dl.moves))) ((eBool.ag (eBool.ag l.voted)).set w.toNat true) (!l.yes&&l.yes) (bif l.yes then(7:Int)else l.why) [])==(0:Int))=true->((!l.stage==(1:Int)&&!l.stage==(3:Int))=true->eI.okL (eI.ag l.dl.drop)/\eD.okL (eD.ag l.dl.put)/\eV.okL (eV.ag l.dl.moves))/\((!l.stage==(1:Int)&&!l.stage==(3:Int))=false->True/\(∀(e:Nat),e<(eBool.ag l.voted).length->True)/\Lp.ixJ wt_lim wt_xs wt_K (wtc_f ((eBool.ag l.voted).length,(eBool.ag (eBool.ag l.voted)).set w.toNat true,(),[],(↑(eBool.ag l.voted).length:Int),(0:Int)))/\(decide ((0:Int)<(↑(hrd_q1 l w m).snd.snd.snd.snd.fst.length:Int))=true->((0:Int)<=(0:Int)/\(0:Int)<(↑(hrd_q1 l w m).snd.snd.snd.snd.fst.length:Int))/\(0:Nat)<(hrd_q1 l w m).snd.snd.snd.snd.fst.length/\eI.okL (eI.ag l.dl.drop)/\eD.okL (eD.ag l.dl.put)/\eV.okL (eV.ag l.dl.moves)/\(eBool.ag l.voted).length<=(hrd_q1 l w m).snd.snd.fst.length/\∀(e:Nat),e<(eBool.ag l.voted).length->True)/\(decide ((0:Int)<(↑(hrd_q1 l w m).snd.snd.snd.snd.fst.length:Int))=false->eI.okL (eI.ag l.dl.drop)/\eD.okL (eD.ag l.dl.put)/\eV.okL (eV.ag l.dl.moves))))/\((chkL (Ld.mk l.workers l.stage l.ver l.cut (Dl.mk (eI.ag (eI.ag l.dl.drop)) (eD.ag (eD.ag l.dl.put)) (eV.ag (eV.ag l.dl.moves))) ((eBool.ag (eBool.ag l.voted)).set w.toNat true) (!l.yes&&l.yes) (bif l.yes then(7:Int)else l.why) [])==(0:Int))=false->eI.okL (eI.ag l.dl.drop)/\eD.okL (eD.ag l.dl.put)/\eV.okL (eV.ag l.dl.moves)))/\((l.yes&&decide (IntKind.i64.wrap ((↑(eN.ag l.ents).length:Int)+(↑m.ents.length:Int))>(1024:Int)))=false->(l.yes=true->((eN.ag l.ents).length<=(eN.ag l.ents).length/\(∀(e:Nat),e<m.ents.length->(eN.els m.ents e).all SV.one=true)/\(eN.ag l.ents).length+m.ents.length<=maxLen/\((eN.ag l.ents).length+m.ents.length)*Tryd.prog.types[(73:Nat)].bytes<=(140737488355328:Nat))/\eI.okL (eI.ag l.dl.drop)/\eD.okL (eD.ag l.dl.put)/\eV.okL (eV.ag l.dl.moves)/\(eBool.ag l.voted).length<=(eBool.ag l.voted).length/\True/\(∀(e:Nat),e<(eBool.ag l.voted).length->True)/\(eN.ag l.ents).length+m.ents.length<=(eN.ag l.ents).length+m.ents.length/\(∀(e:Nat),e<min ((eN.ag l.ents).length+m.ents.length) (eN.ag l.ents).length->True)/\(∀(e:Nat),e<(eN.ag l.ents).length+m.ents.length-(eN.ag l.ents).length->True)/\((chkL (Ld.mk l.workers l.stage l.ver l.cut (Dl.mk (eI.ag (eI.ag l.dl.drop)) (eD.ag (eD.ag l.dl.put)) (eV.ag (eV.ag l.dl.moves))) ((eBool.ag (eBool.ag l.voted)).set w.toNat true) l.yes l.why (eN.lst (min ((eN.ag l.ents).length+m.ents.length) (eN.ag l.ents).length) (eN.els (eN.ag l.ents))++eN.lst ((eN.ag l.ents).length+m.ents.length-(eN.ag l.ents).length) (eN.els m.ents)))==(0:Int))=true->((!l.stage==(1:Int)&&!l.stage==(3:Int))=true->eI.okL (eI.ag l.dl.drop)/\eD.okL (eD.ag l.dl.put)/\eV.okL (eV.ag l.dl.moves)/\(eN.ag l.ents).length+m.ents.length<=(eN.ag l.ents).length+m.ents.length/\(∀(e:Nat),e<min ((eN.ag l.ents).length+m.ents.length) (eN.ag l.ents).length->True)/\∀(e:Nat),e<(eN.ag l.ents).length+m.ents.length-(eN.ag l.ents).length->True)/\((!l.stage==(1:Int)&&!l.stage==(3:Int))=false->True/\(∀(e:Nat),e<(eBool.ag l.voted).length->True)/\Lp.ixJ wt_lim wt_xs wt_K (wtb_f ((eBool.ag l.voted).length,(eBool.ag (eBool.ag l.voted)).set w.toNat true,(),[],(↑(eBool.ag l.voted).length:Int),(0:Int)))/\(decide ((0:Int)<(↑(hrd_q2 l w m).snd.snd.snd.snd.fst.length:Int))=true->((0:Int)<=(0:Int)/\(0:Int)<(↑(hrd_q2 l w m).snd.snd.snd.snd.fst.length:Int))/\(0:Nat)<(hrd_q2 l w m).snd.snd.snd.snd.fst.length/\eI.okL (eI.ag l.dl.drop)/\eD.okL (eD.ag l.dl.put)/\eV.okL (eV.ag l.dl.moves)/\(eBool.ag l.voted).length<=(hrd_q2 l w m).snd.snd.fst.length/\(∀(e:Nat),e<(eBool.ag l.voted).length->True)/\(eN.ag l.ents).length+m.ents.length<=(eN.ag l.ents).length+m.ents.length/\(∀(e:Nat),e<min ((eN.ag l.ents).length+m.ents.length) (eN.ag l.ents).length->True)/\∀(e:Nat),e<(eN.ag l.ents).length+m.ents.length-(eN.ag l.ents).length->True)/\(decide ((0:Int)<(↑(hrd_q2 l w m).snd.snd.snd.snd.fst.length:Int))=false->eI.okL (eI.ag l.dl.drop)/\eD.okL (eD.ag l.dl.put)/\eV.okL (eV.ag l.dl.moves)/\(eN.ag l.ents).length+m.ents.length<=(eN.ag l.ents).length+m.ents.length/\(∀(e:Nat),e<min ((eN.ag l.ents).length+m.ents.length) (eN.ag l.ents).length->True)/\∀(e:Nat),e<(eN.ag l.ents).length+m.ents.length-(eN.ag l.ents).length->True)))/\((chkL (Ld.mk l.workers l.stage l.ver l.cut (Dl.mk (eI.ag (eI.ag l.dl.drop)) (eD.ag (eD.ag l.dl.put)) (eV.ag (eV.ag l.dl.moves))) ((eBool.ag (eBool.ag l.voted)).set w.toNat true) l.yes l.why (eN.lst (min ((eN.ag l.ents).length+m.ents.length) (eN.ag l.ents).length) (eN.els (eN.ag l.ents))++eN.lst ((eN.ag l.ents).length+m.ents.length-(eN.ag l.ents).length) (eN.els m.ents)))==(0:Int))=false->eI.okL (eI.ag l.dl.drop)/\eD.okL (eD.ag l.dl.put)/\eV.okL (eV.ag l.dl.moves)/\(eN.ag l.ents).length+m.ents.length<=(eN.ag l.ents).length+m.ents.length/\(∀(e:Nat),e<min ((eN.ag l.ents).length+m.ents.length) (eN.ag l.ents).length->True)/\∀(e:Nat),e<(eN.ag l.ents).length+m.ents.length-(eN.ag l.ents).length->True))/\(l.yes=false->eI.okL (eI.ag l.dl.drop)/\eD.okL (eD.ag l.dl.put)/\eV.okL (eV.ag l.dl.moves)/\(eBool.ag l.voted).length<=(eBool.ag l.voted).length/\True/\(∀(e:Nat),e<(eBool.ag l.voted).length->True)/\(eN.ag l.ents).length<=(eN.ag l.ents).length/\(∀(e:Nat),e<(eN.ag l.ents).length->True)/\((chkL (Ld.mk l.workers l.stage l.ver l.cut (Dl.mk (eI.ag (eI.ag l.dl.drop)) (eD.ag (eD.ag l.dl.put)) (eV.ag (eV.ag l.dl.moves))) ((eBool.ag (eBool.ag l.voted)).set w.toNat true) l.yes l.why (eN.ag (eN.ag l.ents)))==(0:Int))=true->((!l.stage==(1:Int)&&!l.stage==(3:Int))=true->eI.okL (eI.ag l.dl.drop)/\eD.okL (eD.ag l.dl.put)/\eV.okL (eV.ag l.dl.moves)/\(eN.ag l.ents).length<=(eN.ag l.ents).length/\∀(e:Nat),e<(eN.ag l.ents).length->True)/\((!l.stage==(1:Int)&&!l.stage==(3:Int))=false->True/\(∀(e:Nat),e<(eBool.ag l.voted).length->True)/\Lp.ixJ wt_lim wt_xs wt_K (wta_f ((eBool.ag l.voted).length,(eBool.ag (eBool.ag l.voted)).set w.toNat true,(),[],(↑(eBool.ag l.voted).length:Int),(0:Int)))/\(decide ((0:Int)<(↑(hrd_q3 l w m).snd.snd.snd.snd.fst.length:Int))=true->((0:Int)<=(0:Int)/\(0:Int)<(↑(hrd_q3 l w m).snd.snd.snd.snd.fst.length:Int))/\(0:Nat)<(hrd_q3 l w m).snd.snd.snd.snd.fst.length/\eI.okL (eI.ag l.dl.drop)/\eD.okL (eD.ag l.dl.put)/\eV.okL (eV.ag l.dl.moves)/\(eBool.ag l.voted).length<=(hrd_q3 l w m).snd.snd.fst.length/\(∀(e:Nat),e<(eBool.ag l.voted).length->True)/\(eN.ag l.ents).length<=(eN.ag l.ents).length/\∀(e:Nat),e<(eN.ag l.ents).length->True)/\(decide ((0:Int)<(↑(hrd_q3 l w m).snd.snd.snd.snd.fst.length:Int))=false->eI.okL (eI.ag l.dl.drop)/\eD.okL (eD.ag l.dl.put)/\eV.okL (eV.ag l.dl.moves)/\(eN.ag l.ents).length<=(eN.ag l.ents).length/\∀(e:Nat),e<(eN.ag l.ents).length->True)))/\((chkL (Ld.mk l.workers l.stage l.ver l.cut (Dl.mk (eI.ag (eI.ag l.dl.drop)) (eD.ag (eD.ag l.dl.put)) (eV.ag (eV.ag l.dl.moves))) ((eBool.ag (eBool.ag l.voted)).set w.toNat true) l.yes l.why (eN.ag (eN.ag l.ents)))==(0:Int))=false->eI.okL (eI.ag l.dl.drop)/\eD.okL (eD.ag l.dl.put)/\eV.okL (eV.ag l.dl.moves)/\(eN.ag l.ents).length<=(eN.ag l.ents).length/\∀(e:Nat),e<(eN.ag l.ents).length->True)))))
theorem hrd_okS(pre:DA.T aLIM->List Prop)(h:∀g,DA.bd aLIM g->(∀p∈pre g,p)->hrd_side g.1 g.2.1 g.2.2):FnPure Tryd.prog 26 aLIM (Rv.D rLE) (λg=>hrd_F g.1 g.2.1 g.2.2) pre:=res_of_side (R:=rLE) (Γ:=(MTab.gamz tabQ5 [] [(48,1,2)])) (Λ:=lamQ9) (MTab.okz tabQ5 [] [(48,1,2)]) lamQ9_ok 100 default (λg=>hrd_side g.1 g.2.1 g.2.2) (λg=>by kernel_rfl) (λg=>by kernel_rfl) h
end Go.Proofs.YtfkdbifgppfegaaDoor

namespace Go.Proofs.YtfkdbifgppfegaaDoor
open Go.RowKit Go.Sx
set_option maxRecDepth 100000
end Go.Proofs.YtfkdbifgppfegaaDoor

namespace Go.Proofs.YtfkdbifgppfegaaDoor
open Go.RowKit Go.Sx Go.Lp
set_option maxRecDepth 100000
def finS(l:Ld)(v:List Bool)(y:Bool)(why:Int)(es:List Ent):Ld×Int:=bif hasB v false then(⟨l.workers,l.stage,l.ver,l.cut,l.dl,v,y,why,es⟩,0)else(⟨l.workers,bif l.stage==1&&y then 2 else 4,l.ver,l.cut,l.dl,[],y,why,es⟩,0)
noncomputable def heaS(l:Ld)(w:Int)(m:Ms):Ld×Int:=bif heaE l w m !=0 then(l,heaE l w m)else bif !m.yes then finS l (l.voted.set w.toNat true) false (bif l.yes then m.why else l.why) []else bif l.yes then(bif decide (((l.ents.length+m.ents.length:Nat):Int)>1024)then finS l (l.voted.set w.toNat true) false 7 []else finS l (l.voted.set w.toNat true) l.yes l.why (l.ents++m.ents))else finS l (l.voted.set w.toNat true) l.yes l.why l.ents
theorem idx_pos:∀(v:List Bool)(k:Int),decide ((0:Int)<((idxF k v).length:Int))=hasB v false
 | [],_=>rfl
 |a::v,k=>by
  rw[hasB_cons];cases a with
  |true=>
   show decide ((0:Int)<((idxF (k+1) v).length:Int))=_;rw[idx_pos v];rfl
  |false=>
   show decide ((0:Int)<((k::idxF (k+1) v).length:Int))=_;rw[decide_eq_true (by simp only[List.length_cons];omega)];rfl
structure HeaK(l:Ld)(w:Int)(m:Ms):Prop where
 c:(chkL l !=0)=false
 w0:0<=w
 w1:w<l.workers
 s:(!l.stage==1&&!l.stage==3)=false
 mm:mck_F m=0
 k:m.kind=6
 v:m.ver=l.ver
 e:(decide ((m.ents.length:Int)>0)&&l.stage==1)=false
 n:l.voted.getD w.toNat false=false
theorem heaK{l:Ld}{w:Int}{m:Ms}(h:(heaE l w m !=0)=false):HeaK l w m:=by
 have h:heaE l w m=0:=by simpa using h
 unfold heaE at h;cases h1:(chkL l !=0)with
 |true=>rw[h1,cond_true]at h;rw[h]at h1;simp at h1
 |false=>
  rw[h1,cond_false]at h;cases h2:(decide (w<0)||decide (w>=l.workers))with
  |true=>rw[h2]at h;cases h
  |false=>
   rw[h2,cond_false]at h;cases h3:(!l.stage==1&&!l.stage==3)with
   |true=>rw[h3]at h;cases h
   |false=>
    rw[h3,cond_false]at h;cases h4:(mck_F m !=0)with
    |true=>rw[h4,cond_true]at h;rw[h]at h4;simp at h4
    |false=>
     rw[h4,cond_false]at h;cases h5:(m.kind !=6||(m.ver !=l.ver||decide ((m.ents.length:Int)>0)&&l.stage==1))with
     |true=>rw[h5]at h;cases h
     |false=>
      rw[h5,cond_false]at h;cases h6:l.voted.getD w.toNat false with
      |true=>rw[h6]at h;cases h
      |false=>
       simp only[Bool.or_eq_false_iff,decide_eq_false_iff_not]at h2;simp only[Bool.or_eq_false_iff,bne_eq_false_iff_eq]at h5;exact⟨h1,by omega,by omega,h3,by simpa using h4,h5.1,h5.2.1,h5.2.2,h6⟩
theorem hea_at{l:Ld}{w:Int}{m:Ms}(h:HeaK l w m):w.toNat<l.voted.length:=by
 have h5:=(chk_ask h.c h.s).2.2.2.2.1;have:=h.w0;have:=h.w1;omega
theorem mck_why{m:Ms}(h:mck_F m=0)(hk:m.kind=6):((m.why==0)==m.yes)=true:=by
 unfold mck_F at h;rw[hk]at h;simp only[show((6:Int)==1)=false from rfl,show((6:Int)==2)=false from rfl,show((6:Int)==3)=false from rfl,show((6:Int)==4)=false from rfl,show((6:Int)==5)=false from rfl,show((6:Int)==6)=true from rfl,cond_false,Bool.true_and]at h;cases hz:((m.why==0)==m.yes)with
 |true=>rfl
 |false=>rw[hz]at h;cases h
theorem way_F{l:Ld}{w:Int}{m:Ms}(h:HeaK l w m){y:Bool}{why:Int}{es:List Ent}(hcc:((why==0)==y)=true)(h1:(es.length:Int)<=1024)(h0:((es.length:Int)==0||(y&&l.stage==3))=true)(A B:Ld×Int):(bif chkL ⟨l.workers,l.stage,l.ver,l.cut,l.dl,l.voted.set w.toNat true,y,why,es⟩==0 then(bif !l.stage==1&&!l.stage==3 then A else bif decide ((0:Int)<((idxF 0 (l.voted.set w.toNat true)).length:Int))then B else A)else A)=bif hasB (l.voted.set w.toNat true) false then B else A:=by
 rw[chk_x h.c h.s (by rw[List.length_set]) hcc h1 h0,h.s,cond_false,idx_pos];cases hasB (l.voted.set w.toNat true) false<;>rfl
theorem hq_(l:Ld)(w:Int)(m:Ms)(hx:l.voted.length<=KS):hrd_q1 l w m=(.exit 0,(l.voted.set w.toNat true).length,l.voted.set w.toNat true,(),idxF 0 (l.voted.set w.toNat true),((l.voted.set w.toNat true).length:Int),((l.voted.set w.toNat true).length:Int))/\hrd_q2 l w m=(.exit 0,(l.voted.set w.toNat true).length,l.voted.set w.toNat true,(),idxF 0 (l.voted.set w.toNat true),((l.voted.set w.toNat true).length:Int),((l.voted.set w.toNat true).length:Int))/\hrd_q3 l w m=(.exit 0,(l.voted.set w.toNat true).length,l.voted.set w.toNat true,(),idxF 0 (l.voted.set w.toNat true),((l.voted.set w.toNat true).length:Int),((l.voted.set w.toNat true).length:Int)):=by
 have hl:(l.voted.set w.toNat true).length=l.voted.length:=List.length_set;have hx':(l.voted.set w.toNat true).length<=KS:=by rw[hl];exact hx
 have a:=wta_run _ hx';have b:=wtb_run _ hx';have c:=wtc_run _ hx';refine⟨?_,?_,?_⟩
 .unfold hrd_q1;simp only[El.ag_eq,<-hl];exact c
 .unfold hrd_q2;simp only[El.ag_eq,<-hl];exact b
 .unfold hrd_q3;simp only[El.ag_eq,<-hl];exact a
theorem sums{a b:Nat}(ha:(a:Int)<=1024)(hb:b<=KS):IntKind.i64.wrap ((a:Int)+(b:Int))=((a+b:Nat):Int):=by
 unfold KS at hb;have e:IntKind.i64.wrap ((a:Int)+(b:Int))=(a:Int)+(b:Int):=Lp.wr (n:=(a:Int)+b) (by omega);rw[e];omega
theorem ents_app(xs ys:List Ent):eN.lst (min (xs.length+ys.length) xs.length) (eN.els xs)++eN.lst (xs.length+ys.length-xs.length) (eN.els ys)=xs++ys:=by
 rw[Nat.min_eq_right (Nat.le_add_right _ _),Nat.add_sub_cancel_left,eN.lst_els,eN.lst_els]
theorem vset(xs:List Bool)(k:Nat):eBool.lst xs.length (eBool.els (xs.set k true))=xs.set k true:=by
 have h:=eBool.lst_els (xs.set k true)
 rwa [List.length_set]at h
theorem app_len(xs ys:List Ent):eN.lst (xs.length+ys.length) (eN.els (xs++ys))=xs++ys:=by
 have h:=eN.lst_els (xs++ys)
 rwa [List.length_append]at h
theorem why_no{l:Ld}{w:Int}{m:Ms}(k:HeaK l w m)(h:m.yes=false):(((bif l.yes then m.why else l.why)==0)==false)=true:=by
 cases hy:l.yes with
 |true=>have:=mck_why k.mm k.k;rw[h]at this;exact this
 |false=>
  have:=(chk_ask k.c k.s).2.1;unfold ccB at this;rw[hy]at this;simp only[Bool.and_eq_true]at this;exact this.2
theorem hrd_eq(l:Ld)(w:Int)(m:Ms)(hx:l.voted.length<=KS)(hm:m.ents.length<=KS):hrd_F l w m=heaS l w m:=by
 obtain⟨q1,q2,q3⟩:=hq_ l w m hx;unfold hrd_F heaS;simp only[El.ag_eq,ld_eta,ms_eta,q1,q2,q3,ents_app,vset,app_len,Bool.not_and_self];cases h:(heaE l w m !=0)with
 |true=>rfl
 |false=>
  have k:=heaK h;obtain⟨k1,k2,k3,k4,k5,k6⟩:=chk_ask k.c k.s;simp only[cond_false];cases hy:m.yes with
  |false=>
   simp only[Bool.not_false,cond_true];rw[way_F k (why_no k hy) (by simp) rfl];rfl
  |true=>
   simp only[Bool.not_true,cond_false];rw[sums k3 hm];unfold ccB at k2;simp only[Bool.and_eq_true]at k2;cases hl:l.yes with
   |false=>
    rw[hl]at k2 k4;simp only[Bool.false_and,cond_false];rw[way_F k k2.2 k3 k4];rfl
   |true=>
    rw[hl]at k2 k4;simp only[Bool.true_and,cond_true];cases hg:decide (((l.ents.length+m.ents.length:Nat):Int)>1024)with
    |true=>
     simp only[cond_true];rw[way_F k (y:=false) (why:=7) (es:=[]) rfl (by simp) rfl];rfl
    |false=>
     simp only[cond_false];have hg:¬((l.ents.length+m.ents.length:Nat):Int)>1024:=of_decide_eq_false hg
     rw[way_F k (y:=true) (why:=l.why) (es:=l.ents++m.ents) k2.2 (by rw[List.length_append];omega) (by
      rcases st_13 k.s with e|e
      .rw[e]at k4;have he:=k.e;rw[e]at he;have h1:l.ents.length=0:=by simpa using k4
       have h2:m.ents.length=0:=by simpa using he
       rw[List.length_append,h1,h2];rfl
      .rw[e];simp)]
     rfl
end Go.Proofs.YtfkdbifgppfegaaDoor

namespace Go.Proofs.YtfkdbifgppfegaaDoor
open Go.RowKit Go.Sx Go.Lp
set_option maxRecDepth 100000
theorem wt0(v:List Bool)(n:Nat)(hx:v.length<=KS)(h:n=v.length)(f:Int×wtC×wtB)(hf:f=(0,(v,(n:Int),n),([],()))):ixJ wt_lim wt_xs wt_K f:=by
 rw[hf,h];exact ixJ0 rfl (Nat.le_trans hx (by decide)) ⟨Int.le_refl _,hx,rfl⟩
theorem hrd_si(l:Ld)(w:Int)(m:Ms)(hL:fewL l)(hm:m.ents.length<=KS):hrd_side l w m:=by
 obtain⟨hd,hx,he⟩:=hL;obtain⟨q1,q2,q3⟩:=hq_ l w m hx;unfold hrd_side;simp only[El.okL_eq,El.ag_eq,ld_eta,ms_eta,q1,q2,q3,ents_app,vset,app_len,implies_true,true_and,and_true,Nat.le_refl,List.length_set,byN,El.one_els];intro h;have k:=heaK h;obtain⟨k1,k2,k3,k4,k5,k6⟩:=chk_ask k.c k.s;have ha:=hea_at k;have hw:=k.w0;have hj:∀f:Int×wtC×wtB,f=(0,(l.voted.set w.toNat true,(l.voted.length:Int),l.voted.length),([],()))->ixJ wt_lim wt_xs wt_K f:=wt0 _ _ (by rw[List.length_set];exact hx) (by rw[List.length_set])
 have hp:∀n:Nat,decide ((0:Int)<(n:Int))=true->((0:Int)<=0/\(0:Int)<(n:Int))/\0<n:=λn h=>by
  have:=of_decide_eq_true h;omega
 have hk:l.ents.length+m.ents.length<=maxLen/\(l.ents.length+m.ents.length)*40<=140737488355328:=by
  unfold KS at hm;unfold maxLen;omega
 exact⟨⟨hd,hx,he⟩,⟨hw,by have:=k.w1;omega⟩,ha,λ_ _ _=>⟨hj _ rfl,hp _⟩,λ_=>⟨λ_ _ _=>⟨hj _ rfl,hp _⟩,λ_=>⟨λ_=>⟨hk,λ_ _=>⟨hj _ rfl,hp _⟩⟩,λ_ _ _=>⟨hj _ rfl,hp _⟩⟩⟩⟩
abbrev fewI(g:Ld×Int×Ms):Prop:=fewL g.1/\g.2.2.ents.length<=KS
theorem hrd_ok:FnPure Tryd.prog 26 aLIM dLE (λg=>heaS g.1 g.2.1 g.2.2) (λg=>[fewI g]):=
 pure_congr (hrd_okS (λg=>[fewI g]) λg _ hp=>hrd_si g.1 g.2.1 g.2.2 (hp _ (List.mem_cons_self ..)).1 (hp _ (List.mem_cons_self ..)).2) λg _ hp=>hrd_eq g.1 g.2.1 g.2.2 (hp _ (List.mem_cons_self ..)).1.2.1 (hp _ (List.mem_cons_self ..)).2
end Go.Proofs.YtfkdbifgppfegaaDoor

namespace Go.Proofs.YtfkdbifgppfegaaDoor
open Go.RowKit Go.Sx Go.Lp
set_option maxRecDepth 100000
end Go.Proofs.YtfkdbifgppfegaaDoor

namespace Go.Proofs.YtfkdbifgppfegaaDoor
open Go.RowKit Go.Sx
set_option maxRecDepth 100000
end Go.Proofs.YtfkdbifgppfegaaDoor

namespace Go.Proofs.YtfkdbifgppfegaaDoor
open Go.RowKit Go.Sx Go.Lp
set_option maxRecDepth 100000
end Go.Proofs.YtfkdbifgppfegaaDoor

namespace Go.Proofs.YtfkdbifgppfegaaDoor
open Go.RowKit Go.Sx
set_option maxRecDepth 100000
end Go.Proofs.YtfkdbifgppfegaaDoor

namespace Go.Proofs.YtfkdbifgppfegaaDoor
open Go.RowKit Go.Sx Go.Lp
set_option maxRecDepth 100000
end Go.Proofs.YtfkdbifgppfegaaDoor

namespace Go.Proofs.YtfkdbifgppfegaaDoor
open Go.RowKit Go.Sx
set_option maxRecDepth 100000
end Go.Proofs.YtfkdbifgppfegaaDoor

namespace Go.Proofs.YtfkdbifgppfegaaDoor
open Go.RowKit Go.Sx Go.Lp
set_option maxRecDepth 100000
end Go.Proofs.YtfkdbifgppfegaaDoor

namespace Go.Proofs.YtfkdbifgppfegaaDoor
open Go.RowKit Go.Sx Go.Lp
noncomputable def tabT6:PTab Tryd.prog:=((((PTab.nil.cons 25 (pconR aLDI dLME (λg=>subS g.1 g.2.1 g.2.2) (λg=>[fewD g.2.1])) (conR_ok sub_ok)).cons 26 (pconR aLIM dLE (λg=>heaS g.1 g.2.1 g.2.2) (λg=>[fewI g])) (conR_ok hrd_ok)).cons 27 (pconR aL dLME drnS (λg=>[fewL g])) (conR_ok drn_ok)).cons 37 (pconR aLI dLE (λg=>abtS g.1 g.2) (λg=>[fewL g.1])) (conR_ok abt_ok)).cons 10 (pconR aL dLsE endM (λl=>[l.ents.length<=KS])) (conR_ok edg_ok)
end Go.Proofs.YtfkdbifgppfegaaDoor

namespace Go.Proofs.YtfkdbifgppfegaaDoor
open Go.RowKit Go.Sx
set_option maxRecDepth 100000
end Go.Proofs.YtfkdbifgppfegaaDoor

namespace Go.Proofs.YtfkdbifgppfegaaDoor
open Go.RowKit Go.Sx
set_option maxRecDepth 100000
end Go.Proofs.YtfkdbifgppfegaaDoor

namespace Go.Proofs.YtfkdbifgppfegaaDoor
open Go.RowKit Go.Sx Go.Lp
set_option maxRecDepth 100000
end Go.Proofs.YtfkdbifgppfegaaDoor

namespace Go.Proofs.YtfkdbifgppfegaaDoor
open Go.RowKit Go.Sx Go.Lp
set_option maxRecDepth 100000
def newS(n:Int):Ld×Int:=bif decide (n<1)||decide (n>16)then(idleL 0 0,1)else(idleL n 0,0)
theorem nw1_ok:FnPure Tryd.prog 12 aI dLE newS (λ_=>[]):=
 pure_congr (nw1_okS (λ_=>[]) λn _ _=>by
  show nw1_side n;unfold nw1_side;simp only[El.okL_eq,and_true,implies_true]) λn _ _=>by
  show nw1_F n=newS n;unfold nw1_F newS;rfl
end Go.Proofs.YtfkdbifgppfegaaDoor

namespace Go.Proofs.YtfkdbifgppfegaaDoor
open Go.RowKit Go.Sx
set_option maxRecDepth 100000
end Go.Proofs.YtfkdbifgppfegaaDoor

namespace Go.Proofs.YtfkdbifgppfegaaDoor
open Go.RowKit Go.Sx Go.Lp
set_option maxRecDepth 100000
end Go.Proofs.YtfkdbifgppfegaaDoor

namespace Go.Proofs.YtfkdbifgppfegaaDoor
open Go.RowKit Go.Sx
set_option maxRecDepth 100000
noncomputable def tabL3p:PTab Tryd.prog:=(tabT6.cons 12 (pconR aI dLE newS (λ_=>[])) (conR_ok nw1_ok)).cons 8 (pconP .none dBool (λ_=>true) (λ_=>[])) (conP_ok lv_ok puB)
abbrev LLN:Type:=List (List Ent)
abbrev eLLN:El (List Ent):=eList eN
abbrev dLLN:Dv (List (List Ent)):=.list eLLN
noncomputable def vea_q1(n:Int)(i:Int)(r:Bool)(_u:Unit)(l:Ld):Ld×
 Int:=
 heaS (Ld.mk l.workers l.stage l.ver l.cut (Dl.mk (eI.ag l.dl.drop) (eD.ag l.dl.put) (eV.ag l.dl.moves)) (eBool.ag l.voted) l.yes l.why (eN.ag l.ents)) i (Ms.mk (6:Int) (0:Int) (Place.mk (0:Int) (0:Int)) (T.mk (0:Int) (0:Int) (0:Int) (0:Int) (0:Int) (0:Int)) [] [] (Dl.mk [] [] []) (0:Int) [] true (0:Int))
abbrev vea_G:Type:=Int×Int×Bool×Unit×Ld
noncomputable def vea_LP:LP 2 vea_G:=.pair (.slot 2 42 dI) (.pair (.slot 2 43 dI) (.pair (.slot 2 4 dBool) (.pair (.fix 2 6 (.p 0 0)) (.obj 2 0 31 eL))))
noncomputable def vea_R(n:Int)(i:Int)(r:Bool)(_u:Unit)(l:Ld):Ex×vea_G:=
 bif decide (i<n)then bif (vea_q1 n i r _u l).snd !=(0:Int)then(Ex.ret,n,i,false,(),Ld.mk (vea_q1 n i r _u l).fst.workers (vea_q1 n i r _u l).fst.stage (vea_q1 n i r _u l).fst.ver (vea_q1 n i r _u l).fst.cut (Dl.mk (eI.ag (vea_q1 n i r _u l).fst.dl.drop) (eD.ag (vea_q1 n i r _u l).fst.dl.put) (eV.ag (vea_q1 n i r _u l).fst.dl.moves)) (eBool.ag (vea_q1 n i r _u l).fst.voted) (vea_q1 n i r _u l).fst.yes (vea_q1 n i r _u l).fst.why (eN.ag (vea_q1 n i r _u l).fst.ents))else(Ex.normal,n,IntKind.i64.wrap (i+(1:Int)),r,(),Ld.mk (vea_q1 n i r _u l).fst.workers (vea_q1 n i r _u l).fst.stage (vea_q1 n i r _u l).fst.ver (vea_q1 n i r _u l).fst.cut (Dl.mk (eI.ag (vea_q1 n i r _u l).fst.dl.drop) (eD.ag (vea_q1 n i r _u l).fst.dl.put) (eV.ag (vea_q1 n i r _u l).fst.dl.moves)) (eBool.ag (vea_q1 n i r _u l).fst.voted) (vea_q1 n i r _u l).fst.yes (vea_q1 n i r _u l).fst.why (eN.ag (vea_q1 n i r _u l).fst.ents))
 else(Ex.exit (0:Nat),n,i,r,(),Ld.mk l.workers l.stage l.ver l.cut (Dl.mk (eI.ag l.dl.drop) (eD.ag l.dl.put) (eV.ag l.dl.moves)) (eBool.ag l.voted) l.yes l.why (eN.ag l.ents))
def vea_side(n:Int)(i:Int)(r:Bool)(_u:Unit)(l:Ld):Prop:=
 (decide (i<n)=true->eI.okL l.dl.drop/\eD.okL l.dl.put/\eV.okL l.dl.moves/\eBool.okL l.voted/\eN.okL l.ents/\fewI (Ld.mk l.workers l.stage l.ver l.cut (Dl.mk (eI.ag l.dl.drop) (eD.ag l.dl.put) (eV.ag l.dl.moves)) (eBool.ag l.voted) l.yes l.why (eN.ag l.ents),i,Ms.mk (6:Int) (0:Int) (Place.mk (0:Int) (0:Int)) (T.mk (0:Int) (0:Int) (0:Int) (0:Int) (0:Int) (0:Int)) [] [] (Dl.mk [] [] []) (0:Int) [] true (0:Int))/\(((vea_q1 n i r _u l).snd !=(0:Int))=true->eI.okL (vea_q1 n i r _u l).fst.dl.drop/\eD.okL (vea_q1 n i r _u l).fst.dl.put/\eV.okL (vea_q1 n i r _u l).fst.dl.moves/\eBool.okL (vea_q1 n i r _u l).fst.voted/\eN.okL (vea_q1 n i r _u l).fst.ents)/\(((vea_q1 n i r _u l).snd !=(0:Int))=false->eI.okL (vea_q1 n i r _u l).fst.dl.drop/\eD.okL (vea_q1 n i r _u l).fst.dl.put/\eV.okL (vea_q1 n i r _u l).fst.dl.moves/\eBool.okL (vea_q1 n i r _u l).fst.voted/\eN.okL (vea_q1 n i r _u l).fst.ents))/\(decide (i<n)=false->eI.okL l.dl.drop/\eD.okL l.dl.put/\eV.okL l.dl.moves/\eBool.okL l.voted/\eN.okL l.ents)
theorem vea_one:((loopsOf Tryd.prog 7).filter λc=>Nat.beq (lkey c) 9).length=1:=by kernel_rfl
theorem vea_es(g:vea_G):(vea_R g.1 g.2.1 g.2.2.1 g.2.2.2.1 g.2.2.2.2).1=.normal\/(vea_R g.1 g.2.1 g.2.2.1 g.2.2.2.1 g.2.2.2.2).1∈([.ret,.exit 0]:List Ex):=by
 unfold vea_R
 repeat' (first|(left;rfl)|(right;simp only[cond_true,cond_false];simp;done)|(rw[Bool.cond_eq_ite];split))
noncomputable abbrev vea_C(Inv:vea_G->List Prop)(m:vea_G->Nat):LCon:=loopR [.ret,.exit 0] (loopBody Tryd.prog 7 9) vea_LP [] 139 Inv (λg=>vea_R g.1 g.2.1 g.2.2.1 g.2.2.2.1 g.2.2.2.2) m
theorem vea_loop(Inv:vea_G->List Prop)(m:vea_G->Nat)(hs:∀g,allP (Inv g)->vea_side g.1 g.2.1 g.2.2.1 g.2.2.2.1 g.2.2.2.2)(hg:Goes (λg:vea_G=>vea_R g.1 g.2.1 g.2.2.1 g.2.2.2.1 g.2.2.2.2) m λg=>allP (Inv g)):∀b∈loopsOf Tryd.prog 7,lkey b=9->LoopOk Tryd.prog b (vea_C Inv m).g:=loop_run (Γ:=(PTab.gamz tabL3p [(4000000,0)] [])) (Λ:=noΛ) (PTab.okz tabL3p [(4000000,0)] []) noΛ_ok 100 7 9 139 vea_LP [] Inv (λg=>vea_R g.1 g.2.1 g.2.2.1 g.2.2.2.1 g.2.2.2.2) (λg=>vea_side g.1 g.2.1 g.2.2.1 g.2.2.2.1 g.2.2.2.2) m default [.ret,.exit 0] vea_one (λrd T B HL HB ds g=>by kernel_rfl) (λrd T B HL HB ds g=>by kernel_rfl) hs hg vea_es
noncomputable def veb_q1(xs:LLN)(n:Int)(i:Int)(r:Bool)(_u:Unit)(l:Ld)(o:List Ent):Ld×
 Int:=
 heaS (Ld.mk l.workers l.stage l.ver l.cut (Dl.mk (eI.ag l.dl.drop) (eD.ag l.dl.put) (eV.ag l.dl.moves)) (eBool.ag l.voted) l.yes l.why (eN.ag l.ents)) i (Ms.mk (6:Int) (0:Int) (Place.mk (0:Int) (0:Int)) (T.mk (0:Int) (0:Int) (0:Int) (0:Int) (0:Int) (0:Int)) [] [] (Dl.mk [] [] []) (0:Int) (eN.ag (List.getD xs i.toNat eLLN.dflt)) true (0:Int))
noncomputable def veb_q2(xs:LLN)(n:Int)(i:Int)(r:Bool)(_u:Unit)(l:Ld)(o:List Ent):Ld×
 Int:=
 heaS (Ld.mk l.workers l.stage l.ver l.cut (Dl.mk (eI.ag l.dl.drop) (eD.ag l.dl.put) (eV.ag l.dl.moves)) (eBool.ag l.voted) l.yes l.why (eN.ag l.ents)) i (Ms.mk (6:Int) (0:Int) (Place.mk (0:Int) (0:Int)) (T.mk (0:Int) (0:Int) (0:Int) (0:Int) (0:Int) (0:Int)) [] [] (Dl.mk [] [] []) (0:Int) [] true (0:Int))
abbrev veb_G:Type:=LLN×Int×Int×Bool×Unit×Ld×List Ent
noncomputable def veb_LP:LP 2 veb_G:=.pair (.slot 2 1 dLLN) (.pair (.slot 2 64 dI) (.pair (.slot 2 65 dI) (.pair (.slot 2 4 dBool) (.pair (.fix 2 6 (.p 0 0)) (.pair (.obj 2 0 31 eL) (.row 2 11 73 eN))))))
noncomputable def veb_R(xs:LLN)(n:Int)(i:Int)(r:Bool)(_u:Unit)(l:Ld)(o:List Ent):Ex×veb_G:=
 bif decide (i<n)then bif decide (i<(↑(List.length xs):Int))&&decide ((↑(List.getD xs i.toNat eLLN.dflt).length:Int)<=(200:Int))then bif (veb_q1 xs n i r _u l o).snd !=(0:Int)then(Ex.ret,eLLN.ag xs,n,i,false,(),Ld.mk (veb_q1 xs n i r _u l o).fst.workers (veb_q1 xs n i r _u l o).fst.stage (veb_q1 xs n i r _u l o).fst.ver (veb_q1 xs n i r _u l o).fst.cut (Dl.mk (eI.ag (veb_q1 xs n i r _u l o).fst.dl.drop) (eD.ag (veb_q1 xs n i r _u l o).fst.dl.put) (eV.ag (veb_q1 xs n i r _u l o).fst.dl.moves)) (eBool.ag (veb_q1 xs n i r _u l o).fst.voted) (veb_q1 xs n i r _u l o).fst.yes (veb_q1 xs n i r _u l o).fst.why (eN.ag (veb_q1 xs n i r _u l o).fst.ents),eN.lst (min (o.length+(List.getD xs i.toNat eLLN.dflt).length) o.length) (eN.els o)++eN.lst (o.length+(List.getD xs i.toNat eLLN.dflt).length-o.length) (eN.els (List.getD xs i.toNat eLLN.dflt)))else(Ex.normal,eLLN.ag xs,n,IntKind.i64.wrap (i+(1:Int)),r,(),Ld.mk (veb_q1 xs n i r _u l o).fst.workers (veb_q1 xs n i r _u l o).fst.stage (veb_q1 xs n i r _u l o).fst.ver (veb_q1 xs n i r _u l o).fst.cut (Dl.mk (eI.ag (veb_q1 xs n i r _u l o).fst.dl.drop) (eD.ag (veb_q1 xs n i r _u l o).fst.dl.put) (eV.ag (veb_q1 xs n i r _u l o).fst.dl.moves)) (eBool.ag (veb_q1 xs n i r _u l o).fst.voted) (veb_q1 xs n i r _u l o).fst.yes (veb_q1 xs n i r _u l o).fst.why (eN.ag (veb_q1 xs n i r _u l o).fst.ents),eN.lst (min (o.length+(List.getD xs i.toNat eLLN.dflt).length) o.length) (eN.els o)++eN.lst (o.length+(List.getD xs i.toNat eLLN.dflt).length-o.length) (eN.els (List.getD xs i.toNat eLLN.dflt)))else bif (veb_q2 xs n i r _u l o).snd !=(0:Int)then(Ex.ret,eLLN.ag xs,n,i,false,(),Ld.mk (veb_q2 xs n i r _u l o).fst.workers (veb_q2 xs n i r _u l o).fst.stage (veb_q2 xs n i r _u l o).fst.ver (veb_q2 xs n i r _u l o).fst.cut (Dl.mk (eI.ag (veb_q2 xs n i r _u l o).fst.dl.drop) (eD.ag (veb_q2 xs n i r _u l o).fst.dl.put) (eV.ag (veb_q2 xs n i r _u l o).fst.dl.moves)) (eBool.ag (veb_q2 xs n i r _u l o).fst.voted) (veb_q2 xs n i r _u l o).fst.yes (veb_q2 xs n i r _u l o).fst.why (eN.ag (veb_q2 xs n i r _u l o).fst.ents),eN.ag o)else(Ex.normal,eLLN.ag xs,n,IntKind.i64.wrap (i+(1:Int)),r,(),Ld.mk (veb_q2 xs n i r _u l o).fst.workers (veb_q2 xs n i r _u l o).fst.stage (veb_q2 xs n i r _u l o).fst.ver (veb_q2 xs n i r _u l o).fst.cut (Dl.mk (eI.ag (veb_q2 xs n i r _u l o).fst.dl.drop) (eD.ag (veb_q2 xs n i r _u l o).fst.dl.put) (eV.ag (veb_q2 xs n i r _u l o).fst.dl.moves)) (eBool.ag (veb_q2 xs n i r _u l o).fst.voted) (veb_q2 xs n i r _u l o).fst.yes (veb_q2 xs n i r _u l o).fst.why (eN.ag (veb_q2 xs n i r _u l o).fst.ents),eN.ag o)
 else(Ex.exit (2:Nat),eLLN.ag xs,n,i,r,(),Ld.mk l.workers l.stage l.ver l.cut (Dl.mk (eI.ag l.dl.drop) (eD.ag l.dl.put) (eV.ag l.dl.moves)) (eBool.ag l.voted) l.yes l.why (eN.ag l.ents),eN.ag o)
def veb_side(xs:LLN)(n:Int)(i:Int)(r:Bool)(_u:Unit)(l:Ld)(o:List Ent):Prop:=
 (decide (i<n)=true->(decide (i<(↑(List.length xs):Int))=true->(0:Int)<=i/\i<(↑(List.length xs):Int))/\((decide (i<(↑(List.length xs):Int))&&decide ((↑(List.getD xs i.toNat eLLN.dflt).length:Int)<=(200:Int)))=true->((0:Int)<=i/\i<(↑(List.length xs):Int))/\((0:Int)<=i/\i<(↑(List.length xs):Int))/\(o.length<=o.length/\(∀(e:Nat),e<(List.getD xs i.toNat eLLN.dflt).length->(eN.els (List.getD xs i.toNat eLLN.dflt) e).all SV.one=true)/\o.length+(List.getD xs i.toNat eLLN.dflt).length<=maxLen/\(o.length+(List.getD xs i.toNat eLLN.dflt).length)*Tryd.prog.types[(73:Nat)].bytes<=(140737488355328:Nat))/\eI.okL l.dl.drop/\eD.okL l.dl.put/\eV.okL l.dl.moves/\eBool.okL l.voted/\eN.okL l.ents/\eN.okL (List.getD xs i.toNat eLLN.dflt)/\fewI (Ld.mk l.workers l.stage l.ver l.cut (Dl.mk (eI.ag l.dl.drop) (eD.ag l.dl.put) (eV.ag l.dl.moves)) (eBool.ag l.voted) l.yes l.why (eN.ag l.ents),i,Ms.mk (6:Int) (0:Int) (Place.mk (0:Int) (0:Int)) (T.mk (0:Int) (0:Int) (0:Int) (0:Int) (0:Int) (0:Int)) [] [] (Dl.mk [] [] []) (0:Int) (eN.ag (List.getD xs i.toNat eLLN.dflt)) true (0:Int))/\(((veb_q1 xs n i r _u l o).snd !=(0:Int))=true->eLLN.okL xs/\eI.okL (veb_q1 xs n i r _u l o).fst.dl.drop/\eD.okL (veb_q1 xs n i r _u l o).fst.dl.put/\eV.okL (veb_q1 xs n i r _u l o).fst.dl.moves/\eBool.okL (veb_q1 xs n i r _u l o).fst.voted/\eN.okL (veb_q1 xs n i r _u l o).fst.ents/\o.length+(List.getD xs i.toNat eLLN.dflt).length<=o.length+(List.getD xs i.toNat eLLN.dflt).length/\(∀(e:Nat),e<min (o.length+(List.getD xs i.toNat eLLN.dflt).length) o.length->True)/\∀(e:Nat),e<o.length+(List.getD xs i.toNat eLLN.dflt).length-o.length->True)/\(((veb_q1 xs n i r _u l o).snd !=(0:Int))=false->eLLN.okL xs/\eI.okL (veb_q1 xs n i r _u l o).fst.dl.drop/\eD.okL (veb_q1 xs n i r _u l o).fst.dl.put/\eV.okL (veb_q1 xs n i r _u l o).fst.dl.moves/\eBool.okL (veb_q1 xs n i r _u l o).fst.voted/\eN.okL (veb_q1 xs n i r _u l o).fst.ents/\o.length+(List.getD xs i.toNat eLLN.dflt).length<=o.length+(List.getD xs i.toNat eLLN.dflt).length/\(∀(e:Nat),e<min (o.length+(List.getD xs i.toNat eLLN.dflt).length) o.length->True)/\∀(e:Nat),e<o.length+(List.getD xs i.toNat eLLN.dflt).length-o.length->True))/\((decide (i<(↑(List.length xs):Int))&&decide ((↑(List.getD xs i.toNat eLLN.dflt).length:Int)<=(200:Int)))=false->eI.okL l.dl.drop/\eD.okL l.dl.put/\eV.okL l.dl.moves/\eBool.okL l.voted/\eN.okL l.ents/\fewI (Ld.mk l.workers l.stage l.ver l.cut (Dl.mk (eI.ag l.dl.drop) (eD.ag l.dl.put) (eV.ag l.dl.moves)) (eBool.ag l.voted) l.yes l.why (eN.ag l.ents),i,Ms.mk (6:Int) (0:Int) (Place.mk (0:Int) (0:Int)) (T.mk (0:Int) (0:Int) (0:Int) (0:Int) (0:Int) (0:Int)) [] [] (Dl.mk [] [] []) (0:Int) [] true (0:Int))/\(((veb_q2 xs n i r _u l o).snd !=(0:Int))=true->eLLN.okL xs/\eI.okL (veb_q2 xs n i r _u l o).fst.dl.drop/\eD.okL (veb_q2 xs n i r _u l o).fst.dl.put/\eV.okL (veb_q2 xs n i r _u l o).fst.dl.moves/\eBool.okL (veb_q2 xs n i r _u l o).fst.voted/\eN.okL (veb_q2 xs n i r _u l o).fst.ents/\o.length<=o.length/\∀(e:Nat),e<o.length->True)/\(((veb_q2 xs n i r _u l o).snd !=(0:Int))=false->eLLN.okL xs/\eI.okL (veb_q2 xs n i r _u l o).fst.dl.drop/\eD.okL (veb_q2 xs n i r _u l o).fst.dl.put/\eV.okL (veb_q2 xs n i r _u l o).fst.dl.moves/\eBool.okL (veb_q2 xs n i r _u l o).fst.voted/\eN.okL (veb_q2 xs n i r _u l o).fst.ents/\o.length<=o.length/\∀(e:Nat),e<o.length->True)))/\(decide (i<n)=false->eLLN.okL xs/\eI.okL l.dl.drop/\eD.okL l.dl.put/\eV.okL l.dl.moves/\eBool.okL l.voted/\eN.okL l.ents/\o.length<=o.length/\∀(e:Nat),e<o.length->True)
theorem veb_one:((loopsOf Tryd.prog 7).filter λc=>Nat.beq (lkey c) 20).length=1:=by kernel_rfl
theorem veb_es(g:veb_G):(veb_R g.1 g.2.1 g.2.2.1 g.2.2.2.1 g.2.2.2.2.1 g.2.2.2.2.2.1 g.2.2.2.2.2.2).1=.normal\/(veb_R g.1 g.2.1 g.2.2.1 g.2.2.2.1 g.2.2.2.2.1 g.2.2.2.2.2.1 g.2.2.2.2.2.2).1∈([.ret,.exit 2]:List Ex):=by
 unfold veb_R
 repeat' (first|(left;rfl)|(right;simp only[cond_true,cond_false];simp;done)|(rw[Bool.cond_eq_ite];split))
noncomputable abbrev veb_C(Inv:veb_G->List Prop)(m:veb_G->Nat):LCon:=loopR [.ret,.exit 2] (loopBody Tryd.prog 7 20) veb_LP [] 139 Inv (λg=>veb_R g.1 g.2.1 g.2.2.1 g.2.2.2.1 g.2.2.2.2.1 g.2.2.2.2.2.1 g.2.2.2.2.2.2) m
theorem veb_loop(Inv:veb_G->List Prop)(m:veb_G->Nat)(hs:∀g,allP (Inv g)->veb_side g.1 g.2.1 g.2.2.1 g.2.2.2.1 g.2.2.2.2.1 g.2.2.2.2.2.1 g.2.2.2.2.2.2)(hg:Goes (λg:veb_G=>veb_R g.1 g.2.1 g.2.2.1 g.2.2.2.1 g.2.2.2.2.1 g.2.2.2.2.2.1 g.2.2.2.2.2.2) m λg=>allP (Inv g)):∀b∈loopsOf Tryd.prog 7,lkey b=20->LoopOk Tryd.prog b (veb_C Inv m).g:=loop_run (Γ:=(PTab.gamz tabL3p [(4000000,0)] [])) (Λ:=noΛ) (PTab.okz tabL3p [(4000000,0)] []) noΛ_ok 100 7 20 139 veb_LP [] Inv (λg=>veb_R g.1 g.2.1 g.2.2.1 g.2.2.2.1 g.2.2.2.2.1 g.2.2.2.2.2.1 g.2.2.2.2.2.2) (λg=>veb_side g.1 g.2.1 g.2.2.1 g.2.2.2.1 g.2.2.2.2.1 g.2.2.2.2.2.1 g.2.2.2.2.2.2) m default [.ret,.exit 2] veb_one (λrd T B HL HB ds g=>by kernel_rfl) (λrd T B HL HB ds g=>by kernel_rfl) hs hg veb_es
abbrev vec_G:Type:=List Ms×Int×Int×List Ent
noncomputable def vec_LP:LP 3 vec_G:=.pair (.slot 3 121 dLMs) (.pair (.slot 3 122 dI) (.pair (.slot 3 123 dI) (.row 3 12 73 eN)))
noncomputable def vec_R(xs:List Ms)(n:Int)(i:Int)(o:List Ent):Ex×vec_G:=
 bif decide (i<n)then(Ex.normal,eMs.ag xs,n,IntKind.i64.wrap (i+(1:Int)),eN.lst (min (o.length+(xs.getD i.toNat eMs.dflt).ents.length) o.length) (eN.els o)++eN.lst (o.length+(xs.getD i.toNat eMs.dflt).ents.length-o.length) (eN.els (xs.getD i.toNat eMs.dflt).ents))
 else(Ex.exit (4:Nat),eMs.ag xs,n,i,eN.ag o)
def vec_side(xs:List Ms)(n:Int)(i:Int)(o:List Ent):Prop:=
 (decide (i<n)=true->((0:Int)<=i/\i<(↑xs.length:Int))/\(o.length<=o.length/\(∀(e:Nat),e<(xs.getD i.toNat eMs.dflt).ents.length->(eN.els (xs.getD i.toNat eMs.dflt).ents e).all SV.one=true)/\o.length+(xs.getD i.toNat eMs.dflt).ents.length<=maxLen/\(o.length+(xs.getD i.toNat eMs.dflt).ents.length)*Tryd.prog.types[(73:Nat)].bytes<=(140737488355328:Nat))/\eMs.okL xs/\o.length+(xs.getD i.toNat eMs.dflt).ents.length<=o.length+(xs.getD i.toNat eMs.dflt).ents.length/\(∀(e:Nat),e<min (o.length+(xs.getD i.toNat eMs.dflt).ents.length) o.length->True)/\∀(e:Nat),e<o.length+(xs.getD i.toNat eMs.dflt).ents.length-o.length->True)/\(decide (i<n)=false->eMs.okL xs/\o.length<=o.length/\∀(e:Nat),e<o.length->True)
theorem vec_one:((loopsOf Tryd.prog 7).filter λc=>Nat.beq (lkey c) 34).length=1:=by kernel_rfl
theorem vec_es(g:vec_G):(vec_R g.1 g.2.1 g.2.2.1 g.2.2.2).1=.normal\/(vec_R g.1 g.2.1 g.2.2.1 g.2.2.2).1∈([.exit 4]:List Ex):=by
 unfold vec_R
 repeat' (first|(left;rfl)|(right;simp only[cond_true,cond_false];simp;done)|(rw[Bool.cond_eq_ite];split))
noncomputable abbrev vec_C(Inv:vec_G->List Prop)(m:vec_G->Nat):LCon:=loopR [.exit 4] (loopBody Tryd.prog 7 34) vec_LP [] 139 Inv (λg=>vec_R g.1 g.2.1 g.2.2.1 g.2.2.2) m
theorem vec_loop(Inv:vec_G->List Prop)(m:vec_G->Nat)(hs:∀g,allP (Inv g)->vec_side g.1 g.2.1 g.2.2.1 g.2.2.2)(hg:Goes (λg:vec_G=>vec_R g.1 g.2.1 g.2.2.1 g.2.2.2) m λg=>allP (Inv g)):∀b∈loopsOf Tryd.prog 7,lkey b=34->LoopOk Tryd.prog b (vec_C Inv m).g:=loop_run (Γ:=(PTab.gamz tabL3p [(4000000,0)] [])) (Λ:=noΛ) (PTab.okz tabL3p [(4000000,0)] []) noΛ_ok 100 7 34 139 vec_LP [] Inv (λg=>vec_R g.1 g.2.1 g.2.2.1 g.2.2.2) (λg=>vec_side g.1 g.2.1 g.2.2.1 g.2.2.2) m default [.exit 4] vec_one (λrd T B HL HB ds g=>by kernel_rfl) (λrd T B HL HB ds g=>by kernel_rfl) hs hg vec_es
end Go.Proofs.YtfkdbifgppfegaaDoor

namespace Go.Proofs.YtfkdbifgppfegaaDoor
open Go.RowKit Go.Sx Go.ChangeShapes
theorem rdvLLN:RdV Tryd.prog 66 dLLN (λl=>∀s∈l,WLN s):=rdv_slice Tryd.underlying66 (by kernel_rfl) (by decide) rdLN
end Go.Proofs.YtfkdbifgppfegaaDoor

namespace Go.Proofs.YtfkdbifgppfegaaDoor
open Go.RowKit Go.Sx Go.Lp
set_option maxRecDepth 100000
theorem chk_st0(l:Ld)(h:l.stage=0):chkL l=bif rgB l&&decide (l=idleL l.workers l.ver)then(0:Int)else(213:Int):=by
 unfold chkL chkB;rw[h];rfl
theorem chk_st2(l:Ld)(h:l.stage=2):chkL l=bif rgB l&&(ccB l&&(decide ((l.ents.length:Int)<=(1024:Int))&&(((l.ents.length:Int)==(0:Int)||(l.yes&&false))&&(l.yes&&(l.voted.length:Int)==(0:Int)))))then(0:Int)else(213:Int):=by
 unfold chkL chkB;rw[h];rfl
theorem chk_st4(l:Ld)(h:l.stage=4):chkL l=bif rgB l&&(ccB l&&(decide ((l.ents.length:Int)<=(1024:Int))&&(((l.ents.length:Int)==(0:Int)||(l.yes&&true))&&(l.voted.length:Int)==(0:Int))))then(0:Int)else(213:Int):=by
 unfold chkL chkB;rw[h];rfl
theorem chk_rg0{l:Ld}(h:chkL l=0):rgB l=true:=chk_rg (by rw[h];rfl)
structure Inv(l:Ld):Prop where
 c:chkL l=0
 d:fewD l.dl
 v:l.stage=0\/l.ver<1099511627776
theorem Inv.st{l:Ld}(h:Inv l):l.stage=0\/l.stage=2\/l.stage=4\/(!l.stage==1&&!l.stage==3)=false:=by
 have:=of_decide_eq_true (chk_rg0 h.c);have e:l.stage=0\/l.stage=1\/l.stage=2\/l.stage=3\/l.stage=4:=by omega
 rcases e with e|e|e|e|e<;>rw[e]<;>decide
theorem len0{α:Type}{l:List α}(h:((l.length:Int)==(0:Int))=true):l=[]:=by
 have:(l.length:Int)=0:=by simpa using h
 exact List.length_eq_zero_iff.1 (by omega)
theorem few0:fewD ⟨[],[],[]⟩:=⟨Nat.zero_le _,⟨Nat.zero_le _,λx hx=>by cases hx⟩,Nat.zero_le _⟩
theorem inv_idle{w v:Int}(hw:1<=w/\w<=16)(hv:0<=v/\v<=1099511627776):Inv (idleL w v):=⟨by
 rw[chk_st0 _ rfl];have e1:rgB (idleL w v)=true:=decide_eq_true ⟨hw.1,hw.2,Int.le_refl _,by show(0:Int)<=4;decide,hv.1,hv.2⟩;rw[e1,decide_eq_true (show idleL w v=idleL (idleL w v).workers (idleL w v).ver from rfl)];rfl,few0,.inl rfl⟩
theorem chk_mk{w s v c:Int}{dl:Dl}{vs:List Bool}{y:Bool}{why:Int}{es:List Ent}(hr:rgB ⟨w,s,v,c,dl,vs,y,why,es⟩=true)(hs:s=1\/s=3)(hc:ccB ⟨w,s,v,c,dl,vs,y,why,es⟩=true)(h1:(es.length:Int)<=1024)(h0:((es.length:Int)==0||(y&&s==3))=true)(hv:(vs.length:Int)=w)(hb:hasB vs false=true):chkL ⟨w,s,v,c,dl,vs,y,why,es⟩=0:=by
 rw[chk_13 _ hs];show(bif rgB ⟨w,s,v,c,dl,vs,y,why,es⟩&&(ccB ⟨w,s,v,c,dl,vs,y,why,es⟩&&(decide ((es.length:Int)<=(1024:Int))&&(((es.length:Int)==(0:Int)||(y&&s==(3:Int)))&&((vs.length:Int)==w&&hasB vs false))))then(0:Int)else(213:Int))=0;rw[hr,hc,decide_eq_true h1,h0,hb,hv];simp
theorem chk_mk4{w v c:Int}{dl:Dl}{y:Bool}{why:Int}{es:List Ent}(hr:rgB ⟨w,4,v,c,dl,[],y,why,es⟩=true)(hc:ccB ⟨w,4,v,c,dl,[],y,why,es⟩=true)(h1:(es.length:Int)<=1024)(h0:((es.length:Int)==0||y)=true):chkL ⟨w,4,v,c,dl,[],y,why,es⟩=0:=by
 rw[chk_st4 _ rfl];show(bif rgB ⟨w,4,v,c,dl,[],y,why,es⟩&&(ccB ⟨w,4,v,c,dl,[],y,why,es⟩&&(decide ((es.length:Int)<=(1024:Int))&&(((es.length:Int)==(0:Int)||(y&&true))&&true)))then(0:Int)else(213:Int))=0;rw[hr,hc,decide_eq_true h1,Bool.and_true y,h0];rfl
theorem chk_mk2{w v c:Int}{dl:Dl}{why:Int}(hr:rgB ⟨w,2,v,c,dl,[],true,why,[]⟩=true)(hc:ccB ⟨w,2,v,c,dl,[],true,why,[]⟩=true):chkL ⟨w,2,v,c,dl,[],true,why,[]⟩=0:=by
 rw[chk_st2 _ rfl];show(bif rgB ⟨w,2,v,c,dl,[],true,why,[]⟩&&(ccB ⟨w,2,v,c,dl,[],true,why,[]⟩&&true)then(0:Int)else(213:Int))=0;rw[hr,hc];rfl
theorem rg_mk{w s v c:Int}{dl:Dl}{vs:List Bool}{y:Bool}{why:Int}{es:List Ent}(hw:1<=w/\w<=16)(hs:0<=s/\s<=4)(hv:0<=v/\v<=1099511627776):rgB ⟨w,s,v,c,dl,vs,y,why,es⟩=true:=decide_eq_true ⟨hw.1,hw.2,hs.1,hs.2,hv.1,hv.2⟩
theorem cc_mk{w s v c:Int}{dl:Dl}{vs:List Bool}{y:Bool}{why:Int}{es:List Ent}(hc:1<=c/\c<=1073741824)(hy:((why==0)==y)=true):ccB ⟨w,s,v,c,dl,vs,y,why,es⟩=true:=by
 unfold ccB;rw[hy,decide_eq_true hc];rfl
end Go.Proofs.YtfkdbifgppfegaaDoor

namespace Go.Proofs.YtfkdbifgppfegaaDoor
open Go.RowKit Go.Sx Go.Lp
set_option maxRecDepth 100000
end Go.Proofs.YtfkdbifgppfegaaDoor

namespace Go.Proofs.YtfkdbifgppfegaaDoor
open Go.RowKit Go.Sx Go.Lp
set_option maxRecDepth 100000
def d0:Dl:=⟨[],[],[]⟩
def mv(es:List Ent):Ms:=⟨6,0,⟨0,0⟩,⟨0,0,0,0,0,0⟩,[],[],⟨[],[],[]⟩,0,es,true,0⟩
def vt(n i:Nat):List Bool:=List.replicate i true++List.replicate (n-i) false
def stg(s:Int)(n i:Nat)(es:List Ent):Ld:=bif decide (i<n)then⟨n,s,0,1,d0,vt n i,true,0,es⟩else⟨n,s+1,0,1,d0,[],true,0,es⟩
theorem vt_len{n i:Nat}(h:i<=n):(vt n i).length=n:=by
 unfold vt;rw[List.length_append,List.length_replicate,List.length_replicate];omega
theorem vt_set{n i:Nat}(h:i<n):(vt n i).set i true=vt n (i+1):=by
 unfold vt;obtain⟨m,hm⟩:∃m,n-i=m+1:=⟨n-i-1,by omega⟩;rw[hm,show n-(i+1)=m by omega,List.replicate_succ,List.set_append_right i true (by rw[List.length_replicate];exact Nat.le_refl _),List.length_replicate,Nat.sub_self,List.replicate_succ'];simp
theorem vt_get{n i:Nat}(h:i<n):(vt n i).getD i false=false:=by
 unfold vt;rw[List.getD_eq_getElem?_getD,List.getElem?_append_right (by rw[List.length_replicate];exact Nat.le_refl _),List.length_replicate,Nat.sub_self];obtain⟨m,hm⟩:∃m,n-i=m+1:=⟨n-i-1,by omega⟩;rw[hm];rfl
theorem vt_has(n i:Nat):hasB (vt n i) false=decide (i<n):=by
 unfold hasB vt;rw[Bool.eq_iff_iff];simp only[List.any_append,Bool.or_eq_true,List.any_eq_true,List.mem_replicate,decide_eq_true_eq];constructor
 .rintro(⟨x,⟨_,hx⟩,h⟩|⟨x,⟨hn,_⟩,_⟩)
  .rw[hx]at h;cases h
  .omega
 .intro h;exact .inr ⟨false,⟨by omega,rfl⟩,rfl⟩
theorem mck_mv{es:List Ent}(h:(es.length:Int)<=1024):mck_F (mv es)=0:=by
 unfold mck_F mv;simp only[El.ag_eq,show((6:Int)==1)=false from rfl,show((6:Int)==2)=false from rfl,show((6:Int)==3)=false from rfl,show((6:Int)==4)=false from rfl,show((6:Int)==5)=false from rfl,show((6:Int)==6)=true from rfl,cond_true,cond_false];rw[decide_eq_true h];rfl
theorem chk_stg{s:Int}{n i:Nat}{es:List Ent}(hn:n<=16)(hi:i<n)(hs:s=1/\es=[]\/s=3)(he:(es.length:Int)<=1024):chkL ⟨n,s,0,1,d0,vt n i,true,0,es⟩=0:=by
 have h0:((es.length:Int)==0||(true&&s==3))=true:=by
  rcases hs with ⟨_,h⟩|h
  .rw[h];rfl
  .rw[h];simp
 exact chk_mk (rg_mk ⟨by omega,by omega⟩ ⟨by omega,by omega⟩ ⟨by omega,by omega⟩) (by omega) (cc_mk ⟨by omega,by omega⟩ rfl) he h0 (by rw[vt_len (by omega)]) (by rw[vt_has,decide_eq_true hi])
theorem hea_stg{s:Int}{n i:Nat}{es ms:List Ent}(hn:n<=16)(hi:i<n)(hs:s=1/\es=[]/\ms=[]\/s=3)(he:es.length+ms.length<=1024):heaS (stg s n i es) i (mv ms)=(stg s n (i+1) (es++ms),0):=by
 have hl:stg s n i es=⟨n,s,0,1,d0,vt n i,true,0,es⟩:=by unfold stg;rw[decide_eq_true hi];rfl
 rw[hl];have hc:=chk_stg (s:=s) (es:=es) hn hi (hs.imp (λh=>⟨h.1,h.2.1⟩) id) (by omega)
 have hst:(!s==1&&!s==3)=false:=by
  rcases hs with ⟨h,_⟩|h<;>rw[h]<;>rfl
 have hee:(decide (((mv ms).ents.length:Int)>0)&&s==1)=false:=by
  rcases hs with ⟨_,_,h⟩|h
  .rw[h];rfl
  .rw[h];simp
 have hE:heaE ⟨n,s,0,1,d0,vt n i,true,0,es⟩ i (mv ms)=0:=by
  unfold heaE;rw[hc,mck_mv (es:=ms) (by omega)];show(bif decide ((i:Int)<0)||decide ((i:Int)>=(n:Int))then(1:Int)else bif !s==1&&!s==3 then 212 else bif false||(false||(decide (((mv ms).ents.length:Int)>0)&&s==1))then 130 else bif (vt n i).getD (i:Int).toNat false then 5 else 0)=0;rw[decide_eq_false (by omega),decide_eq_false (by omega),hst,hee,Int.toNat_natCast,vt_get hi];rfl
 unfold heaS;rw[hE];show(bif decide (((es.length+ms.length:Nat):Int)>1024)then _ else finS ⟨n,s,0,1,d0,vt n i,true,0,es⟩ ((vt n i).set (i:Int).toNat true) true 0 (es++ms))=_;rw[decide_eq_false (by omega),cond_false,Int.toNat_natCast,vt_set hi];unfold finS stg;rw[vt_has];cases decide (i+1<n)
 .rcases hs with ⟨h,_⟩|h<;>rw[h]<;>rfl
 .rfl
end Go.Proofs.YtfkdbifgppfegaaDoor

namespace Go.Proofs.YtfkdbifgppfegaaDoor
open Go.RowKit Go.Sx Go.Lp
set_option maxRecDepth 100000
theorem fewI_mv{l:Ld}{i:Int}{es:List Ent}(h:fewL l)(he:es.length<=1024):fewI (l,i,mv es):=⟨h,by show es.length<=KS;unfold KS;omega⟩
theorem few_stg{s:Int}{n i:Nat}{es:List Ent}(hn:n<=16)(hi:i<=n)(he:es.length<=1024):fewL (stg s n i es):=by
 have h0:fewD d0:=few0;unfold stg;cases decide (i<n)
 .exact⟨h0,Nat.zero_le _,by show es.length<=KS;unfold KS;omega⟩
 .refine⟨h0,?_,by show es.length<=KS;unfold KS;omega⟩;show(vt n i).length<=KS;rw[vt_len hi];unfold KS;omega
abbrev veB:=Bool×Unit×Ld
noncomputable def ve_S(_:Int)(b:veB)(i:Int)(_:Nat):Ex×veB:=(.normal,b.1,b.2.1,(heaS b.2.2 i (mv [])).1)
abbrev ve_xs(c:Int):List Nat:=List.range c.toNat
abbrev ve_lim(c:Int):Int:=c
def ve_K(c:Int)(b:veB)(i:Int):Prop:=(1<=c/\c<=16)/\b.2.2=stg 1 c.toNat i.toNat []
theorem ve_step{c i:Int}{l:Ld}(h:1<=c/\c<=16)(hl:l=stg 1 c.toNat i.toNat [])(h0:0<=i)(h1:i<c):heaS l i (mv [])=(stg 1 c.toNat (i.toNat+1) [],0):=by
 rw[hl];have e:i=(i.toNat:Int):=(Int.toNat_of_nonneg h0).symm;have:=hea_stg (s:=1) (n:=c.toNat) (i:=i.toNat) (es:=[]) (ms:=[]) (by omega) (by omega) (.inl ⟨rfl,rfl,rfl⟩) (by simp);rw[<-e]at this;exact this
theorem ve_P:ixP ve_S ve_xs ve_K:=λc b i a h ha _=>⟨h.1,by
 have hlt:i<c.toNat:=by
  have:=(List.getElem?_eq_some_iff.1 ha).1
  rwa [List.length_range]at this
 show(heaS b.2.2 i (mv [])).1=_;rw[ve_step h.1 h.2 (by omega) (by omega),Int.toNat_natCast];rfl⟩
def vea_f(g:vea_G):Int×Int×veB:=(g.2.1,g.1,(g.2.2.1,g.2.2.2.1,g.2.2.2.2))
def vea_g(d:Int×Int×veB):vea_G:=(d.2.1,d.1,d.2.2.1,d.2.2.2.1,d.2.2.2.2)
abbrev vea_I(g:vea_G):List Prop:=ixI ve_lim ve_xs ve_K (vea_f g)
abbrev vea_M(g:vea_G):Nat:=ixM ve_lim (vea_f g)
noncomputable abbrev vea_RR(g:vea_G):Ex×vea_G:=vea_R g.1 g.2.1 g.2.2.1 g.2.2.2.1 g.2.2.2.2
theorem vea_q(n i:Int)(r:Bool)(l:Ld):vea_q1 n i r () l=heaS l i (mv []):=by
 unfold vea_q1 mv;simp only[El.ag_eq,ld_eta]
theorem vea_RF(d:Int×Int×veB)(hi:allP (ixI ve_lim ve_xs ve_K d)):vea_RR (vea_g d)=((ixF 0 ve_lim ve_xs 0 ve_S d).1,vea_g (ixF 0 ve_lim ve_xs 0 ve_S d).2):=by
 obtain⟨i,n,⟨r,⟨⟩,l⟩⟩:=d;obtain⟨_,_,h3,_,h5,h6⟩:=hi _ (List.mem_cons_self ..);have h3:0<=i:=h3;have h5:1<=n/\n<=16:=h5;have h6:l=stg 1 n.toNat i.toNat []:=h6;show vea_R n i r () l=_;unfold vea_R ixF ve_S;simp only[El.ag_eq,ld_eta,vea_q];cases hc:decide (i<n)
 .rfl
 .simp only[cond_true];rw[ve_step h5 h6 h3 (of_decide_eq_true hc)];rfl
theorem vea_ok:∀b∈loopsOf Tryd.prog 7,lkey b=9->LoopOk Tryd.prog b (vea_C vea_I vea_M).g:=by
 refine vea_loop vea_I vea_M (λg hi=>?_) (ix_conj_goes (φ:=vea_f) (ψ:=vea_g) (λ_=>rfl) (λ_=>rfl) vea_RF ve_P);obtain⟨n,i,r,⟨⟩,l⟩:=g;obtain⟨_,_,h3,h4,h5,h6⟩:=hi _ (List.mem_cons_self ..);have h3:0<=i:=h3;have h4:i<=((List.range n.toNat).length:Int):=h4;have h5:1<=n/\n<=16:=h5;have h6:l=stg 1 n.toNat i.toNat []:=h6;rw[List.length_range]at h4;show vea_side n i r () l;unfold vea_side;simp only[El.okL_eq,El.ag_eq,ld_eta,implies_true,true_and,and_true];exactλ_=>fewI_mv (es:=[]) (by rw[h6];exact few_stg (by omega) (by omega) (by simp)) (by simp)
theorem ve_scan(c:Int)(h:1<=c/\c<=16):∀(m k:Nat)(r:Bool),k+m=c.toNat->scan 0 (ve_S c) (k:Int) (List.range' k m) (r,(),stg 1 c.toNat k [])=(.exit 0,((k+m:Nat):Int),(r,(),stg 1 c.toNat (k+m) []))
 |0,k,r,_=>by simp[scan]
 |m+1,k,r,hk=>by
  rw[List.range'_succ];show scan 0 (ve_S c) ((k:Int)+1) (List.range' (k+1) m) (r,(),(heaS (stg 1 c.toNat k []) (k:Int) (mv [])).1)=_;rw[ve_step h (by rw[Int.toNat_natCast]) (by omega) (by omega),Int.toNat_natCast,show((k:Int)+1)=((k+1:Nat):Int) by omega,ve_scan c h m (k+1) r (by omega),show k+1+m=k+(m+1) by omega]
theorem vea_run(n:Int)(h:1<=n/\n<=16)(r:Bool):loopF vea_RR vea_M (n,0,r,(),stg 1 n.toNat 0 [])=(.exit 0,n,n,r,(),stg 1 n.toNat n.toNat []):=by
 have hn:((n.toNat:Nat):Int)=n:=Int.toNat_of_nonneg (by omega);have h:=ix_conj_run (φ:=vea_f) (ψ:=vea_g) (λ_=>rfl) (λ_=>rfl) vea_RF ve_P n (r,(),stg 1 n.toNat 0 []) (by rw[List.length_range,hn]) (by rw[List.length_range];unfold maxLen;omega) ⟨h,rfl⟩;have e:=ve_scan n (by assumption) n.toNat 0 r (by omega);rw[<-List.range_eq_range',Nat.zero_add,hn]at e;rw[show((0:Nat):Int)=(0:Int)from rfl]at e;rw[e]at h;exact h
noncomputable def vi(vs:LLN)(i:Int):List Ent:=bif decide (i<(vs.length:Int))&&decide (((vs.getD i.toNat eLLN.dflt).length:Int)<=200)then vs.getD i.toNat eLLN.dflt else []
theorem vi_len(vs:LLN)(i:Int):(vi vs i).length<=200:=by
 unfold vi;cases h:decide (i<(vs.length:Int))&&decide (((vs.getD i.toNat eLLN.dflt).length:Int)<=200)with
 |false=>exact Nat.zero_le _
 |true=>
  simp only[Bool.and_eq_true,decide_eq_true_eq]at h;rw[cond_true];omega
noncomputable def acc(vs:LLN):Nat->List Ent
 |0=>[]
 |k+1=>acc vs k++vi vs k
theorem acc_len(vs:LLN):∀k,(acc vs k).length<=200*k
 |0=>Nat.le_refl _
 |k+1=>by
  have h1:=acc_len vs k;have h2:=vi_len vs k;show(acc vs k++vi vs k).length<=_;rw[List.length_append];omega
abbrev vfC:=LLN×Int
abbrev vfB:=Bool×Unit×Ld×List Ent
noncomputable def vf_S(c:vfC)(b:vfB)(i:Int)(_:Nat):Ex×vfB:=(.normal,b.1,b.2.1,(heaS b.2.2.1 i (mv (vi c.1 i))).1,b.2.2.2++vi c.1 i)
abbrev vf_xs(c:vfC):List Nat:=List.range c.2.toNat
abbrev vf_lim(c:vfC):Int:=c.2
def vf_K(c:vfC)(b:vfB)(i:Int):Prop:=(1<=c.2/\c.2<=4)/\b.2.2.2=acc c.1 i.toNat/\b.2.2.1=stg 3 c.2.toNat i.toNat (acc c.1 i.toNat)
theorem vf_step{vs:LLN}{c i:Int}{l:Ld}(h:1<=c/\c<=4)(hl:l=stg 3 c.toNat i.toNat (acc vs i.toNat))(h0:0<=i)(h1:i<c):heaS l i (mv (vi vs i))=(stg 3 c.toNat (i.toNat+1) (acc vs (i.toNat+1)),0):=by
 rw[hl];have e:i=(i.toNat:Int):=(Int.toNat_of_nonneg h0).symm;have a1:=acc_len vs i.toNat;have a2:=vi_len vs (i.toNat:Int);have:=hea_stg (s:=3) (n:=c.toNat) (i:=i.toNat) (es:=acc vs i.toNat) (ms:=vi vs (i.toNat:Int)) (by omega) (by omega) (.inr rfl) (by omega);rw[<-e]at this;rw[this,e,Int.toNat_natCast];rfl
theorem vf_P:ixP vf_S vf_xs vf_K:=λc b i a h ha _=>by
 obtain⟨h1,h2,h3⟩:=h
 have hlt:i<c.2.toNat:=by
  have:=(List.getElem?_eq_some_iff.1 ha).1
  rwa [List.length_range]at this
 refine⟨h1,?_,?_⟩
 .show b.2.2.2++vi c.1 i=acc c.1 ((i:Int)+1).toNat;rw[h2,Int.toNat_natCast,show((i:Int)+1).toNat=i+1 by omega];rfl
 .show(heaS b.2.2.1 i (mv (vi c.1 i))).1=_;rw[vf_step h1 h3 (by omega) (by omega),Int.toNat_natCast,show((i:Int)+1).toNat=i+1 by omega]
def veb_f(g:veb_G):Int×vfC×vfB:=(g.2.2.1,(g.1,g.2.1),(g.2.2.2.1,g.2.2.2.2.1,g.2.2.2.2.2.1,g.2.2.2.2.2.2))
def veb_g(d:Int×vfC×vfB):veb_G:=(d.2.1.1,d.2.1.2,d.1,d.2.2.1,d.2.2.2.1,d.2.2.2.2.1,d.2.2.2.2.2)
abbrev veb_I(g:veb_G):List Prop:=ixI vf_lim vf_xs vf_K (veb_f g)
abbrev veb_M(g:veb_G):Nat:=ixM vf_lim (veb_f g)
noncomputable abbrev veb_RR(g:veb_G):Ex×veb_G:=veb_R g.1 g.2.1 g.2.2.1 g.2.2.2.1 g.2.2.2.2.1 g.2.2.2.2.2.1 g.2.2.2.2.2.2
theorem veb_q(vs:LLN)(n i:Int)(r:Bool)(l:Ld)(o:List Ent):veb_q1 vs n i r () l o=heaS l i (mv (vs.getD i.toNat eLLN.dflt))/\veb_q2 vs n i r () l o=heaS l i (mv []):=by
 constructor
 .unfold veb_q1 mv;simp only[El.ag_eq,ld_eta]
 .unfold veb_q2 mv;simp only[El.ag_eq,ld_eta]
theorem veb_RF(d:Int×vfC×vfB)(hi:allP (ixI vf_lim vf_xs vf_K d)):veb_RR (veb_g d)=((ixF 2 vf_lim vf_xs 0 vf_S d).1,veb_g (ixF 2 vf_lim vf_xs 0 vf_S d).2):=by
 obtain⟨i,⟨vs,n⟩,⟨r,⟨⟩,l,o⟩⟩:=d;obtain⟨_,_,h3,_,h5,h6,h7⟩:=hi _ (List.mem_cons_self ..);have h3:0<=i:=h3;have h5:1<=n/\n<=4:=h5;have h7:l=stg 3 n.toNat i.toNat (acc vs i.toNat):=h7;obtain⟨q1,q2⟩:=veb_q vs n i r l o;show veb_R vs n i r () l o=_;unfold veb_R ixF vf_S;simp only[El.ag_eq,ld_eta,q1,q2,ents_app];cases hc:decide (i<n)
 .rfl
 .simp only[cond_true];have hst:=vf_step (vs:=vs) h5 h7 h3 (of_decide_eq_true hc);have hv:vi vs i=bif decide (i<(vs.length:Int))&&decide (((vs.getD i.toNat eLLN.dflt).length:Int)<=200)then vs.getD i.toNat eLLN.dflt else []:=rfl;rw[hst];cases hz:(decide (i<(vs.length:Int))&&decide (((vs.getD i.toNat eLLN.dflt).length:Int)<=200))with
  |true=>
   rw[hz,cond_true]at hv;rw[<-hv,hst];rfl
  |false=>
   rw[hz,cond_false]at hv;rw[hv]at hst;rw[hv,hst,List.append_nil];rfl
theorem veb_ok:∀b∈loopsOf Tryd.prog 7,lkey b=20->LoopOk Tryd.prog b (veb_C veb_I veb_M).g:=by
 refine veb_loop veb_I veb_M (λg hi=>?_) (ix_conj_goes (φ:=veb_f) (ψ:=veb_g) (λ_=>rfl) (λ_=>rfl) veb_RF vf_P);obtain⟨vs,n,i,r,⟨⟩,l,o⟩:=g;obtain⟨_,_,h3,h4,h5,h6,h7⟩:=hi _ (List.mem_cons_self ..);have h3:0<=i:=h3;have h4:i<=((List.range n.toNat).length:Int):=h4;have h5:1<=n/\n<=4:=h5;have h6:o=acc vs i.toNat:=h6;have h7:l=stg 3 n.toNat i.toNat (acc vs i.toNat):=h7;rw[List.length_range]at h4;have ha:=acc_len vs i.toNat;have hl:fewL l:=by rw[h7];exact few_stg (by omega) (by omega) (by omega)
 have ho:o.length<=800:=by rw[h6];omega
 show veb_side vs n i r () l o;unfold veb_side;simp only[El.okL_eq,El.ag_eq,ld_eta,El.one_els,byN,Nat.le_refl,implies_true,true_and,and_true];intro hlt;refine⟨λh=>⟨h3,of_decide_eq_true h⟩,λh=>?_,λ_=>fewI_mv (es:=[]) hl (by simp)⟩;simp only[Bool.and_eq_true,decide_eq_true_eq]at h;obtain⟨g1,g2⟩:=h;exact⟨⟨h3,g1⟩,⟨h3,g1⟩,⟨by unfold maxLen;omega,by omega⟩,fewI_mv hl (by omega)⟩
theorem vf_scan(vs:LLN)(c:Int)(h:1<=c/\c<=4):∀(m k:Nat)(r:Bool),k+m=c.toNat->scan 2 (vf_S (vs,c)) (k:Int) (List.range' k m) (r,(),stg 3 c.toNat k (acc vs k),acc vs k)=(.exit 2,((k+m:Nat):Int),(r,(),stg 3 c.toNat (k+m) (acc vs (k+m)),acc vs (k+m)))
 |0,k,r,_=>by simp[scan]
 |m+1,k,r,hk=>by
  rw[List.range'_succ];show scan 2 (vf_S (vs,c)) ((k:Int)+1) (List.range' (k+1) m) (r,(),(heaS (stg 3 c.toNat k (acc vs k)) (k:Int) (mv (vi vs (k:Int)))).1,acc vs k++vi vs (k:Int))=_;rw[vf_step (vs:=vs) (i:=(k:Int)) h (by rw[Int.toNat_natCast]) (by omega) (by omega),Int.toNat_natCast,show((k:Int)+1)=((k+1:Nat):Int) by omega];have:=vf_scan vs c h m (k+1) r (by omega);rw[show k+1+m=k+(m+1) by omega]at this;exact this
theorem veb_run(vs:LLN)(n:Int)(h:1<=n/\n<=4)(r:Bool):loopF veb_RR veb_M (vs,n,0,r,(),stg 3 n.toNat 0 [],[])=(.exit 2,vs,n,n,r,(),stg 3 n.toNat n.toNat (acc vs n.toNat),acc vs n.toNat):=by
 have hn:((n.toNat:Nat):Int)=n:=Int.toNat_of_nonneg (by omega);have h':=ix_conj_run (φ:=veb_f) (ψ:=veb_g) (λ_=>rfl) (λ_=>rfl) veb_RF vf_P (vs,n) (r,(),stg 3 n.toNat 0 [],[]) (by show n=((List.range n.toNat).length:Int);rw[List.length_range,hn]) (by show(List.range n.toNat).length<=maxLen;rw[List.length_range];unfold maxLen;omega) ⟨h,rfl,rfl⟩;have e:=vf_scan vs n h n.toNat 0 r (by omega);rw[<-List.range_eq_range',Nat.zero_add,hn]at e;rw[show((0:Nat):Int)=(0:Int)from rfl]at e;have e:scan 2 (vf_S (vs,n)) 0 (List.range n.toNat) (r,(),stg 3 n.toNat 0 [],[])=_:=e;show loopF veb_RR veb_M (veb_g (0,(vs,n),(r,(),stg 3 n.toNat 0 [],[])))=_;rw[h'];show((scan 2 (vf_S (vs,n)) 0 (List.range n.toNat) (r,(),stg 3 n.toNat 0 [],[])).1,veb_g ((scan 2 (vf_S (vs,n)) 0 (List.range n.toNat) (r,(),stg 3 n.toNat 0 [],[])).2.1,_,(scan 2 (vf_S (vs,n)) 0 (List.range n.toNat) (r,(),stg 3 n.toNat 0 [],[])).2.2))=_;rw[e];rfl
abbrev vgC:=List Ms×Int
def vg_S(_:vgC)(b:List Ent)(_:Int)(a:Ms):Ex×List Ent:=(.normal,b++a.ents)
abbrev vg_xs(c:vgC):List Ms:=c.1
abbrev vg_lim(c:vgC):Int:=c.2
def vg_K(c:vgC)(b:List Ent)(i:Int):Prop:=c.1.length<=16/\(∀m∈c.1,m.ents.length<=1000)/\(b.length:Int)<=1000*i
theorem vg_P:ixP vg_S vg_xs vg_K:=λc b i a h ha _=>⟨h.1,h.2.1,by
 have hm:a∈c.1:=List.mem_of_getElem? ha;have h1:=h.2.1 a hm;have h2:=h.2.2;show(((b++a.ents).length:Nat):Int)<=_;rw[List.length_append];omega⟩
def vec_f(g:vec_G):Int×vgC×List Ent:=(g.2.2.1,(g.1,g.2.1),g.2.2.2)
def vec_g(d:Int×vgC×List Ent):vec_G:=(d.2.1.1,d.2.1.2,d.1,d.2.2)
abbrev vec_I(g:vec_G):List Prop:=ixI vg_lim vg_xs vg_K (vec_f g)
abbrev vec_M(g:vec_G):Nat:=ixM vg_lim (vec_f g)
noncomputable abbrev vec_RR(g:vec_G):Ex×vec_G:=vec_R g.1 g.2.1 g.2.2.1 g.2.2.2
theorem vec_RF(d:Int×vgC×List Ent):vec_RR (vec_g d)=((ixF 4 vg_lim vg_xs eMs.dflt vg_S d).1,vec_g (ixF 4 vg_lim vg_xs eMs.dflt vg_S d).2):=by
 obtain⟨i,⟨xs,n⟩,o⟩:=d;show vec_R xs n i o=_;unfold vec_R ixF vg_S;simp only[El.ag_eq,ents_app];cases decide (i<n)<;>rfl
theorem vec_ok:∀b∈loopsOf Tryd.prog 7,lkey b=34->LoopOk Tryd.prog b (vec_C vec_I vec_M).g:=by
 refine vec_loop vec_I vec_M (λg hi=>?_) (ix_conj_goes (φ:=vec_f) (ψ:=vec_g) (λ_=>rfl) (λ_=>rfl) (λd _=>vec_RF d) vg_P);obtain⟨xs,n,i,o⟩:=g;obtain⟨h1,_,h3,h4,h5,h6,h7⟩:=hi _ (List.mem_cons_self ..);have h1:n=(xs.length:Int):=h1;have h3:0<=i:=h3;have h4:i<=(xs.length:Int):=h4;have h5:xs.length<=16:=h5;have h6:∀m∈xs,m.ents.length<=1000:=h6;have h7:(o.length:Int)<=1000*i:=h7;show vec_side xs n i o;unfold vec_side;simp only[El.okL_eq,El.one_els,byN,Nat.le_refl,implies_true,true_and,and_true];intro hlt;have hlt:=of_decide_eq_true hlt;have hi:i.toNat<xs.length:=by omega
 have hm:(xs.getD i.toNat eMs.dflt).ents.length<=1000:=by
  rw[List.getD_eq_getElem?_getD,List.getElem?_eq_getElem hi];exact h6 _ (List.getElem_mem hi)
 exact⟨⟨h3,by omega⟩,by unfold maxLen;omega,by omega⟩
theorem vec_run(xs:List Ms)(hx:xs.length<=16)(h:∀m∈xs,m.ents.length<=1000):loopF vec_RR vec_M (xs,(xs.length:Int),0,[])=(.exit 4,xs,(xs.length:Int),(xs.length:Int),xs.flatMap λm=>m.ents):=by
 have h':=ix_conj_run (φ:=vec_f) (ψ:=vec_g) (λ_=>rfl) (λ_=>rfl) (λd _=>vec_RF d) vg_P (xs,(xs.length:Int)) [] rfl (by show xs.length<=maxLen;unfold maxLen;omega) ⟨hx,h,Int.le_refl _⟩;have hs:=scan_fold (x:=4) (st:=vg_S (xs,(xs.length:Int))) (f:=λ(b:List Ent)(a:Ms)=>b++a.ents) (λ_ _ _=>rfl) xs 0 []
 have hf:∀(ys:List Ms)(b:List Ent),ys.foldl (λ(b:List Ent)(a:Ms)=>b++a.ents) b=b++ys.flatMap λm=>m.ents:=by
  intro ys
  induction ys with
  |nil=>intro b;simp
  |cons a ys ih=>intro b;rw[List.foldl_cons,ih,List.flatMap_cons,List.append_assoc]
 rw[hf,Int.zero_add,List.nil_append]at hs;show loopF vec_RR vec_M (vec_g (0,(xs,(xs.length:Int)),[]))=_;rw[h'];show((scan 4 (vg_S (xs,(xs.length:Int))) 0 xs []).1,vec_g ((scan 4 (vg_S (xs,(xs.length:Int))) 0 xs []).2.1,_,(scan 4 (vg_S (xs,(xs.length:Int))) 0 xs []).2.2))=_;rw[hs];rfl
noncomputable def ltL5:LTab Tryd.prog:=((LTab.nil.cons 7 9 (vea_C vea_I vea_M) vea_ok).cons 7 20 (veb_C veb_I veb_M) veb_ok).cons 7 34 (vec_C vec_I vec_M) vec_ok
noncomputable abbrev lamL5:Lam:=ltL5.lam
theorem lamL5_ok:∀f k L,lamL5 f k=some L->∀b∈loopsOf Tryd.prog f,lkey b=k->LoopOk Tryd.prog b L.g:=ltL5.ok
end Go.Proofs.YtfkdbifgppfegaaDoor

namespace Go.Proofs.YtfkdbifgppfegaaDoor
open Go.RowKit Go.Sx
set_option maxRecDepth 100000
abbrev aNN:DA (Ent×Ent):=.cons dN (.one dN)
noncomputable def ord_F(a:Ent)(b:Ent):Dv.T dI:=
 bif a.node !=b.node then bif decide (a.node<b.node)then(-1:Int)else bif decide (a.node>b.node)then(1:Int)else(0:Int)
 else bif a.key !=b.key then bif decide (a.key<b.key)then(-1:Int)else bif decide (a.key>b.key)then(1:Int)else(0:Int)else bif Op.bytesLess (ByteArray.toList a.text) (ByteArray.toList b.text)then(-1:Int)else bif !(Op.bytesLess (ByteArray.toList a.text) (ByteArray.toList b.text)||decide (a.text=b.text))then(1:Int)else bif decide (a.n<b.n)then(-1:Int)else bif decide (a.n>b.n)then(1:Int)else(0:Int)
theorem ord_ok:FnPure Tryd.prog 29 aNN dI (λg=>ord_F g.1 g.2) (λ_=>[]):=pure_of_safe (Γ:=(PTab.gamz tab0 [] [])) (Λ:=noΛ) (PTab.okz tab0 [] []) noΛ_ok 100 default (λg=>by kernel_rfl) (λg=>by kernel_rfl)
end Go.Proofs.YtfkdbifgppfegaaDoor

namespace Go.Proofs.YtfkdbifgppfegaaDoor
open Go.RowKit Go.Sx Go.Lp Go.Sort
theorem bl_eq:∀(x y:List UInt8),Op.bytesLess x y=decide (x<y)
 | [],[]=>by simp[Op.bytesLess]
 |_::_,[]=>by simp[Op.bytesLess]
 | [],_::_=>by simp[Op.bytesLess]
 |a::x,b::y=>by
  rw[Op.bytesLess,bl_eq x y];simp only[List.cons_lt_cons_iff];by_cases h1:a<b<;>by_cases h2:a=b<;>by_cases h3:x<y<;>simp[h1,h2,h3]
def tlt(a b:BA):Prop:=a.data.toList<b.data.toList
instance (a b:BA):Decidable (tlt a b):=inferInstanceAs (Decidable (a.data.toList<b.data.toList))
theorem tlt_irrefl(a:BA):¬tlt a a:=List.lt_irrefl _
theorem tlt_trans{a b c:BA}(h:tlt a b)(h':tlt b c):tlt a c:=List.lt_trans h h'
theorem bl_tlt(a b:BA):Op.bytesLess (ByteArray.toList a) (ByteArray.toList b)=decide (tlt a b):=by
 rw[bl_eq,Lib.toList_data,Lib.toList_data];rfl
theorem tlt_total{a b:BA}(h:¬tlt a b)(h':¬tlt b a):a=b:=by
 have e:a.data.toList=b.data.toList:=List.le_antisymm (List.not_lt.1 h') (List.not_lt.1 h);obtain⟨⟨a⟩⟩:=a;obtain⟨⟨b⟩⟩:=b;simp only at e;rw[e]
def elt(a b:Ent):Prop:=a.node<b.node\/(a.node=b.node/\(a.key<b.key\/(a.key=b.key/\(tlt a.text b.text\/(a.text=b.text/\a.n<b.n)))))
theorem ord_neg(a b:Ent):ord_F a b<0↔elt a b:=by
 unfold ord_F elt;rw[bl_tlt];by_cases h1:a.node=b.node
 .have e1:(a.node !=b.node)=false:=by rw[bne_eq_false_iff_eq];exact h1
  rw[e1,cond_false];by_cases h2:a.key=b.key
  .have e2:(a.key !=b.key)=false:=by rw[bne_eq_false_iff_eq];exact h2
   rw[e2,cond_false];by_cases h3:tlt a.text b.text
   .rw[decide_eq_true h3];simp[h1,h2,h3]
   .rw[decide_eq_false h3];by_cases h4:a.text=b.text
    .rw[decide_eq_true h4];simp only[Bool.false_or,Bool.not_true,cond_false,h1,h2,h3,h4,true_and,false_or];by_cases h5:a.n<b.n
     .simp[h5]
     .rw[decide_eq_false h5,cond_false];by_cases h6:a.n>b.n
      .simp[h5,h6,tlt_irrefl]
      .simp[h5,h6,tlt_irrefl]
    .rw[decide_eq_false h4];simp[h1,h2,h3,h4]
  .have e2:(a.key !=b.key)=true:=by rw[bne_iff_ne];exact h2
   rw[e2,cond_true];by_cases h5:a.key<b.key
   .simp[h1,h5]
   .rw[decide_eq_false h5,cond_false];by_cases h6:a.key>b.key
    .simp[h1,h2,h5,h6]
    .simp[h1,h2,h5,h6]
 .have e1:(a.node !=b.node)=true:=by rw[bne_iff_ne];exact h1
  rw[e1,cond_true];by_cases h5:a.node<b.node
  .simp[h5]
  .rw[decide_eq_false h5,cond_false];by_cases h6:a.node>b.node
   .simp[h1,h5,h6]
   .simp[h1,h5,h6]
theorem elt_irrefl(a:Ent):¬elt a a:=by
 rintro(h|⟨_,h|⟨_,h|⟨_,h⟩⟩⟩)
 .omega
 .omega
 .exact tlt_irrefl _ h
 .omega
theorem elt_trans{a b c:Ent}(h:elt a b)(h':elt b c):elt a c:=by
 rcases h with h|⟨e1,h|⟨e2,h|⟨e3,h⟩⟩⟩
 .rcases h' with h'|⟨f1,_⟩
  .exact .inl (by omega)
  .exact .inl (by omega)
 .rcases h' with h'|⟨f1,h'|⟨f2,_⟩⟩
  .exact .inl (by omega)
  .exact .inr ⟨by omega,.inl (by omega)⟩
  .exact .inr ⟨by omega,.inl (by omega)⟩
 .rcases h' with h'|⟨f1,h'|⟨f2,h'|⟨f3,_⟩⟩⟩
  .exact .inl (by omega)
  .exact .inr ⟨by omega,.inl (by omega)⟩
  .exact .inr ⟨by omega,.inr ⟨by omega,.inl (tlt_trans h h')⟩⟩
  .exact .inr ⟨by omega,.inr ⟨by omega,.inl (f3▸h)⟩⟩
 .rcases h' with h'|⟨f1,h'|⟨f2,h'|⟨f3,h'⟩⟩⟩
  .exact .inl (by omega)
  .exact .inr ⟨by omega,.inl (by omega)⟩
  .exact .inr ⟨by omega,.inr ⟨by omega,.inl (e3▸h')⟩⟩
  .exact .inr ⟨by omega,.inr ⟨by omega,.inr ⟨e3.trans f3,by omega⟩⟩⟩
theorem elt_total{a b:Ent}(h:¬elt a b)(h':¬elt b a):a=b:=by
 have h1:a.node=b.node:=by
  have x:¬a.node<b.node:=λx=>h (.inl x);have y:¬b.node<a.node:=λx=>h' (.inl x);omega
 have h2:a.key=b.key:=by
  have x:¬a.key<b.key:=λx=>h (.inr ⟨h1,.inl x⟩);have y:¬b.key<a.key:=λx=>h' (.inr ⟨h1.symm,.inl x⟩);omega
 have h3:a.text=b.text:=tlt_total (λx=>h (.inr ⟨h1,.inr ⟨h2,.inl x⟩⟩)) (λx=>h' (.inr ⟨h1.symm,.inr ⟨h2.symm,.inl x⟩⟩))
 have h4:a.n=b.n:=by
  have x:¬a.n<b.n:=λx=>h (.inr ⟨h1,.inr ⟨h2,.inr ⟨h3,x⟩⟩⟩);have y:¬b.n<a.n:=λx=>h' (.inr ⟨h1.symm,.inr ⟨h2.symm,.inr ⟨h3.symm,x⟩⟩⟩);omega
 obtain⟨a1,a2,a3,a4⟩:=a;obtain⟨b1,b2,b3,b4⟩:=b;simp only at h1 h2 h3 h4;rw[h1,h2,h3,h4]
theorem swoE:SWO λx y:Ent=>decide (ord_F x y<0) where
 irrefl:=λx=>decide_eq_false (by rw[ord_neg];exact elt_irrefl x)
 trans:=λx y z h1 h2=>by
  simp only[decide_eq_true_eq,ord_neg]at h1 h2 ⊢;exact elt_trans h1 h2
 ntrans:=λx y z h1 h2=>by
  simp only[decide_eq_false_iff_not,ord_neg]at h1 h2 ⊢;intro h3;by_cases h4:elt y x
  .exact h2 (elt_trans h4 h3)
  .have:=elt_total h1 h4;subst this;exact h2 h3
theorem antiE(xs:List Ent):Anti (λa b=>ord_F a b) xs:=λx _ y _ h1 h2=>by
 rw[ord_neg]at h1 h2;exact elt_total h1 h2
end Go.Proofs.YtfkdbifgppfegaaDoor
