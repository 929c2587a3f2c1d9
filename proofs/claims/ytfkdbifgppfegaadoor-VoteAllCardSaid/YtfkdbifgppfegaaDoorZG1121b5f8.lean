/- Chapter 21: the document's Clone of a message: its loop's contract. -/
import Derived.Test.YtfkdbifgppfegaaDoorZG1031ef6d
import Derived.Test.YtfkdbifgppfegaaDoorZG065e5f9a
import Derived.Test.YtfkdbifgppfegaaDoorZG0555ce6c
import Derived.Test.YtfkdbifgppfegaaDoorZG087ac275
set_option linter.unusedVariables false
set_option linter.unusedSimpArgs false
set_option linter.constructorNameAsVariable false
set_option linter.all false

namespace Go.Proofs.YtfkdbifgppfegaaDoor
open Go.RowKit Go.Sx Go.Lp
set_option maxRecDepth 100000
theorem app0(a b:ElE):(ElE.app (0:Nat) a b).at=b.at:=by
 funext k;show(if k<0 then a.at k else b.at (k-0))=_;rw[if_neg (by omega),Nat.sub_zero]
theorem byD(h:109<Tryd.prog.types.size):(Tryd.prog.types[(109:Nat)]'h).bytes=104:=by kernel_rfl
theorem byI(h:3<Tryd.prog.types.size):(Tryd.prog.types[(3:Nat)]'h).bytes=8:=by kernel_rfl
def rcl_f(g:rcl_G):Int×Mk1×(List Nd×Unit):=(g.2.2.2,g.2.1,(g.2.2.1,g.1))
def rcl_g(d:Int×Mk1×(List Nd×Unit)):rcl_G:=(d.2.2.2,d.2.1,d.2.2.1,d.1)
def rcl_S(_:Mk1)(b:List Nd×Unit)(_:Int)(v:Nd):Ex×(List Nd×Unit):=(.normal,(b.1++[v],b.2))
def rcl_K(c:Mk1)(b:List Nd×Unit)(i:Int):Prop:=(b.1.length:Int)<=i/\c.2.2.2.2.1.length<=KS/\∀e:Nat,(c.2.2.2.2.1.getD e eD.dflt).ins.length<=KS
abbrev rcl_xs(c:Mk1):List Nd:=c.2.2.2.2.1
abbrev rcl_lim(c:Mk1):Int:=(c.2.2.2.2.1.length:Int)
abbrev rcl_I(g:rcl_G):List Prop:=ixI rcl_lim rcl_xs rcl_K (rcl_f g)
abbrev rcl_M(g:rcl_G):Nat:=ixM rcl_lim (rcl_f g)
theorem rcl_P:ixP rcl_S rcl_xs rcl_K:=λc b i a h _ _=>⟨by
 have:=h.1;show((b.1++[a]).length:Int)<=_;simp only[List.length_append,List.length_cons,List.length_nil];omega,h.2⟩
noncomputable abbrev rcl_RR(g:rcl_G):Ex×rcl_G:=rcl_R g.1 g.2.1 g.2.2.1 g.2.2.2
theorem cl0(l:List Int):eI.lst ((0:Nat)+l.length) (ElE.app (0:Nat) (ElE.fn λ_=>[]) (ElE.fn (eI.els l))).at=l:=by
 rw[app0,Nat.zero_add];exact eI.lst_els l
theorem rcl_RF(d:Int×Mk1×(List Nd×Unit))(hi:allP (ixI rcl_lim rcl_xs rcl_K d)):rcl_RR (rcl_g d)=((ixF 0 rcl_lim rcl_xs eD.dflt rcl_S d).1,rcl_g (ixF 0 rcl_lim rcl_xs eD.dflt rcl_S d).2):=by
 obtain⟨i,k,⟨o,⟨⟩⟩⟩:=d;show rcl_R () k o i=_;unfold rcl_R ixF rcl_S;simp only[El.ag_eq,cl0,lst_app1];cases hc:decide (i<(k.2.2.2.2.1.length:Int))<;>rfl
theorem rcl_ok:∀b∈loopsOf Tryd.prog 67,lkey b=8->LoopOk Tryd.prog b (rcl_C rcl_I rcl_M).g:=by
 refine rcl_loop rcl_I rcl_M (λg hi=>?_) (ix_conj_goes (φ:=rcl_f) (ψ:=rcl_g) (λ_=>rfl) (λ_=>rfl) rcl_RF rcl_P);obtain⟨⟨⟩,k,o,i⟩:=g;obtain⟨h1,h2,h3,h4,h5,h6,h7⟩:=hi _ (List.mem_cons_self ..);have h3:0<=i:=h3;have h4:i<=(k.2.2.2.2.1.length:Int):=h4;have h5:(o.length:Int)<=i:=h5;have h6:k.2.2.2.2.1.length<=KS:=h6;have h7:(k.2.2.2.2.1.getD i.toNat eD.dflt).ins.length<=KS:=h7 _;show rcl_side () k o i;unfold rcl_side;unfold KS at h6 h7
 have hO:(∀e,e<o.length->∀p,p∈[]++([]++([True]++([]++([]++[])++([]++([]++[])))))->p):=λe _ p hp=>by
  simp only[List.nil_append,List.append_nil,List.mem_singleton]at hp;rw[hp];trivial
 simp only[byD,byI]
 have hN:∀p,p∈[]++([]++([∀(e:Nat),e<(0:Nat)+(k.2.2.2.2.1.getD i.toNat eD.dflt).ins.length->eI.Ok ((ElE.app (0:Nat) (ElE.fn λ_=>[]) (ElE.fn (eI.els (k.2.2.2.2.1.getD i.toNat eD.dflt).ins))).at e)]++([]++([]++[])++([]++([]++[])))))->p:=λp hp=>by
  simp only[List.nil_append,List.append_nil,List.mem_singleton]at hp;rw[hp];intro e _;rw[app0];exact El.ok_els _ _ _
 simp only[El.okL_eq,Nat.le_refl,implies_true,true_and];refine⟨λhlt=>?_,λ_=>?_⟩
 .have hlt:=of_decide_eq_true hlt;refine⟨⟨h3,hlt⟩,⟨λe _=>eI.one_els _ e,by unfold maxLen;omega,by omega⟩,⟨by unfold maxLen;omega,by omega⟩,?_⟩;refine⟨λe he=>hO e (by omega),λe _ p hp=>?_⟩;exact hN p hp
 .exact hO
theorem rcl_run(k:Mk1)(hl:k.2.2.2.2.1.length<=KS)(hK:∀e:Nat,(k.2.2.2.2.1.getD e eD.dflt).ins.length<=KS):loopF rcl_RR rcl_M ((),k,[],0)=(.exit 0,(),k,k.2.2.2.2.1,(k.2.2.2.2.1.length:Int)):=by
 have h:=ix_conj_run (φ:=rcl_f) (ψ:=rcl_g) (λ_=>rfl) (λ_=>rfl) rcl_RF rcl_P k ([],()) rfl (Nat.le_trans hl (by decide)) ⟨Int.le_refl _,hl,hK⟩;rw[scan_fold (st:=rcl_S k) (f:=λb a=>(b.1++[a],b.2)) (λ_ _ _=>rfl)]at h
 have key:∀(l:List Nd)(o:List Nd),List.foldl (λ(b:List Nd×Unit)a=>(b.1++[a],b.2)) (o,()) l=(o++l,()):=by
  intro l
  induction l with
  |nil=>intro o;simp
  |cons a l ih=>intro o;rw[List.foldl_cons,ih];simp
 rw[key]at h;simp only[Int.zero_add,List.nil_append]at h;exact h
noncomputable def ltH9:LTab Tryd.prog:=LTab.nil.cons 67 8 (rcl_C rcl_I rcl_M) rcl_ok
noncomputable abbrev lamH9:Lam:=ltH9.lam
theorem lamH9_ok:∀f k L,lamH9 f k=some L->∀b∈loopsOf Tryd.prog f,lkey b=k->LoopOk Tryd.prog b L.g:=ltH9.ok
end Go.Proofs.YtfkdbifgppfegaaDoor

namespace Go.Proofs.YtfkdbifgppfegaaDoor
open Go.RowKit Go.Sx
set_option maxRecDepth 100000
noncomputable abbrev rvDl:RvE Dl:=.iso (.pair (.list eI) (.pair (.list eD) (.list eV))) Dl.ofP Dl.toP (λ_=>rfl) (λ_=>rfl)
noncomputable abbrev rvMs:RvE Ms:=.iso (.pair (.pl eI) (.pair (.pl eI) (.pair (.pl eP) (.pair (.pl eT) (.pair (.list eR) (.pair (.list eC) (.pair rvDl (.pair (.pl eI) (.pair (.list eN) (.pair (.pl eBool) (.pl eI))))))))))) Ms.ofP Ms.toP (λ_=>rfl) (λ_=>rfl)
noncomputable abbrev rMs:Rv Ms:=.agg rvMs
noncomputable def rmc_q1(m:Ms):Ex×
 rcl_G:=
 loopF (λg=>rcl_R g.fst g.snd.fst g.snd.snd.fst g.snd.snd.snd) rcl_M ((),((m.kind,m.ver,m.p,m.t),List.map (λx=>eR.get []) (List.range (min ((0:Nat)+m.recs.length) (0:Nat)))++eR.lst ((0:Nat)+m.recs.length-(0:Nat)) (eR.els m.recs),List.map (λx=>eC.get []) (List.range (min ((0:Nat)+m.changes.length) (0:Nat)))++eC.lst ((0:Nat)+m.changes.length-(0:Nat)) (eC.els m.changes),List.map (λx=>eI.get []) (List.range (min ((0:Nat)+m.dl.drop.length) (0:Nat)))++eI.lst ((0:Nat)+m.dl.drop.length-(0:Nat)) (eI.els m.dl.drop),eD.ag m.dl.put,List.map (λx=>eV.get []) (List.range (min ((0:Nat)+m.dl.moves.length) (0:Nat)))++eV.lst ((0:Nat)+m.dl.moves.length-(0:Nat)) (eV.els m.dl.moves),m.cut,List.map (λx=>eN.get []) (List.range (min ((0:Nat)+m.ents.length) (0:Nat)))++eN.lst ((0:Nat)+m.ents.length-(0:Nat)) (eN.els m.ents),m.yes,m.why),[],(0:Int))
noncomputable def rmc_F(m:Ms):Rv.T rMs:=
 Ms.mk (rmc_q1 m).snd.snd.fst.fst.fst (rmc_q1 m).snd.snd.fst.fst.snd.fst (rmc_q1 m).snd.snd.fst.fst.snd.snd.fst (rmc_q1 m).snd.snd.fst.fst.snd.snd.snd (eR.ag (rmc_q1 m).snd.snd.fst.snd.fst) (eC.ag (rmc_q1 m).snd.snd.fst.snd.snd.fst) (Dl.mk (eI.ag (rmc_q1 m).snd.snd.fst.snd.snd.snd.fst) (eD.ag (rmc_q1 m).snd.snd.snd.fst) (eV.ag (rmc_q1 m).snd.snd.fst.snd.snd.snd.snd.snd.fst)) (rmc_q1 m).snd.snd.fst.snd.snd.snd.snd.snd.snd.fst (eN.ag (rmc_q1 m).snd.snd.fst.snd.snd.snd.snd.snd.snd.snd.fst) (rmc_q1 m).snd.snd.fst.snd.snd.snd.snd.snd.snd.snd.snd.fst (rmc_q1 m).snd.snd.fst.snd.snd.snd.snd.snd.snd.snd.snd.snd
def rmc_side(m:Ms):Prop:=
 (True/\(∀(e:Nat),e<m.recs.length->(eR.els m.recs e).all SV.one=true)/\(0:Nat)+m.recs.length<=maxLen/\((0:Nat)+m.recs.length)*Tryd.prog.types[(118:Nat)].bytes<=(140737488355328:Nat))/\(True/\(∀(e:Nat),e<m.changes.length->(eC.els m.changes e).all SV.one=true)/\(0:Nat)+m.changes.length<=maxLen/\((0:Nat)+m.changes.length)*Tryd.prog.types[(121:Nat)].bytes<=(140737488355328:Nat))/\(True/\(∀(e:Nat),e<m.ents.length->(eN.els m.ents e).all SV.one=true)/\(0:Nat)+m.ents.length<=maxLen/\((0:Nat)+m.ents.length)*Tryd.prog.types[(73:Nat)].bytes<=(140737488355328:Nat))/\(True/\(∀(e:Nat),e<m.dl.drop.length->(eI.els m.dl.drop e).all SV.one=true)/\(0:Nat)+m.dl.drop.length<=maxLen/\((0:Nat)+m.dl.drop.length)*Tryd.prog.types[(3:Nat)].bytes<=(140737488355328:Nat))/\(True/\(∀(e:Nat),e<m.dl.moves.length->(eV.els m.dl.moves e).all SV.one=true)/\(0:Nat)+m.dl.moves.length<=maxLen/\((0:Nat)+m.dl.moves.length)*Tryd.prog.types[(107:Nat)].bytes<=(140737488355328:Nat))/\(0:Nat)+m.recs.length<=(0:Nat)+m.recs.length/\(∀(e:Nat),e<min ((0:Nat)+m.recs.length) (0:Nat)->eR.OkP [])/\(∀(e:Nat),e<(0:Nat)+m.recs.length-(0:Nat)->True)/\(0:Nat)+m.changes.length<=(0:Nat)+m.changes.length/\(∀(e:Nat),e<min ((0:Nat)+m.changes.length) (0:Nat)->eC.OkP [])/\(∀(e:Nat),e<(0:Nat)+m.changes.length-(0:Nat)->True)/\(0:Nat)+m.dl.drop.length<=(0:Nat)+m.dl.drop.length/\(∀(e:Nat),e<min ((0:Nat)+m.dl.drop.length) (0:Nat)->eI.OkP [])/\(∀(e:Nat),e<(0:Nat)+m.dl.drop.length-(0:Nat)->True)/\eD.okL m.dl.put/\(0:Nat)+m.dl.moves.length<=(0:Nat)+m.dl.moves.length/\(∀(e:Nat),e<min ((0:Nat)+m.dl.moves.length) (0:Nat)->eV.OkP [])/\(∀(e:Nat),e<(0:Nat)+m.dl.moves.length-(0:Nat)->True)/\(0:Nat)+m.ents.length<=(0:Nat)+m.ents.length/\(∀(e:Nat),e<min ((0:Nat)+m.ents.length) (0:Nat)->eN.OkP [])/\(∀(e:Nat),e<(0:Nat)+m.ents.length-(0:Nat)->True)/\Lp.ixJ rcl_lim rcl_xs rcl_K (rcl_f ((),((m.kind,m.ver,m.p,m.t),List.map (λx=>eR.get []) (List.range (min ((0:Nat)+m.recs.length) (0:Nat)))++eR.lst ((0:Nat)+m.recs.length-(0:Nat)) (eR.els m.recs),List.map (λx=>eC.get []) (List.range (min ((0:Nat)+m.changes.length) (0:Nat)))++eC.lst ((0:Nat)+m.changes.length-(0:Nat)) (eC.els m.changes),List.map (λx=>eI.get []) (List.range (min ((0:Nat)+m.dl.drop.length) (0:Nat)))++eI.lst ((0:Nat)+m.dl.drop.length-(0:Nat)) (eI.els m.dl.drop),eD.ag m.dl.put,List.map (λx=>eV.get []) (List.range (min ((0:Nat)+m.dl.moves.length) (0:Nat)))++eV.lst ((0:Nat)+m.dl.moves.length-(0:Nat)) (eV.els m.dl.moves),m.cut,List.map (λx=>eN.get []) (List.range (min ((0:Nat)+m.ents.length) (0:Nat)))++eN.lst ((0:Nat)+m.ents.length-(0:Nat)) (eN.els m.ents),m.yes,m.why),[],(0:Int)))/\(rmc_q1 m).snd.snd.fst.snd.fst.length<=(rmc_q1 m).snd.snd.fst.snd.fst.length/\(∀(e:Nat),e<(rmc_q1 m).snd.snd.fst.snd.fst.length->True)/\(rmc_q1 m).snd.snd.fst.snd.snd.fst.length<=(rmc_q1 m).snd.snd.fst.snd.snd.fst.length/\(∀(e:Nat),e<(rmc_q1 m).snd.snd.fst.snd.snd.fst.length->True)/\(rmc_q1 m).snd.snd.fst.snd.snd.snd.fst.length<=(rmc_q1 m).snd.snd.fst.snd.snd.snd.fst.length/\(∀(e:Nat),e<(rmc_q1 m).snd.snd.fst.snd.snd.snd.fst.length->True)/\(rmc_q1 m).snd.snd.snd.fst.length<=(rmc_q1 m).snd.snd.snd.fst.length/\(∀(e:Nat),e<(rmc_q1 m).snd.snd.snd.fst.length->∀(p:Prop),p∈[]++([]++([eI.okL ((rmc_q1 m).snd.snd.snd.fst.getD e eD.dflt).ins]++([]++([]++[])++([]++([]++[])))))->p)/\(rmc_q1 m).snd.snd.fst.snd.snd.snd.snd.snd.fst.length<=(rmc_q1 m).snd.snd.fst.snd.snd.snd.snd.snd.fst.length/\(∀(e:Nat),e<(rmc_q1 m).snd.snd.fst.snd.snd.snd.snd.snd.fst.length->True)/\(rmc_q1 m).snd.snd.fst.snd.snd.snd.snd.snd.snd.snd.fst.length<=(rmc_q1 m).snd.snd.fst.snd.snd.snd.snd.snd.snd.snd.fst.length/\∀(e:Nat),e<(rmc_q1 m).snd.snd.fst.snd.snd.snd.snd.snd.snd.snd.fst.length->True
theorem rmc_okS(pre:DA.T aM->List Prop)(h:∀g,DA.bd aM g->(∀p∈pre g,p)->rmc_side g):FnPure Tryd.prog 67 aM (Rv.D rMs) (λg=>rmc_F g) pre:=res_of_side (R:=rMs) (Γ:=(PTab.gamz tab0 [] [])) (Λ:=lamH9) (PTab.okz tab0 [] []) lamH9_ok 100 default (λg=>rmc_side g) (λg=>by kernel_rfl) (λg=>by kernel_rfl) h
end Go.Proofs.YtfkdbifgppfegaaDoor

namespace Go.Proofs.YtfkdbifgppfegaaDoor
open Go.RowKit Go.Sx
set_option maxRecDepth 100000
noncomputable def lcl_F(m:Ms):Dv.T dMs:=
 Ms.mk m.kind m.ver m.p m.t (eR.ag (eR.ag m.recs)) (eC.ag (eC.ag m.changes)) (Dl.mk (eI.ag (eI.ag m.dl.drop)) (eD.ag (eD.ag m.dl.put)) (eV.ag (eV.ag m.dl.moves))) m.cut (eN.ag (eN.ag m.ents)) m.yes m.why
def lcl_side(m:Ms):Prop:=
 eR.okL m.recs/\(eR.ag m.recs).length<=KS/\eC.okL m.changes/\(eC.ag m.changes).length<=KS/\eN.okL m.ents/\(eN.ag m.ents).length<=KS/\eI.okL m.dl.drop/\(eI.ag m.dl.drop).length<=KS/\eD.okL m.dl.put/\fewN (eD.ag m.dl.put)/\eV.okL m.dl.moves/\(eV.ag m.dl.moves).length<=KS/\eR.okL (eR.ag m.recs)/\eC.okL (eC.ag m.changes)/\eI.okL (eI.ag m.dl.drop)/\eD.okL (eD.ag m.dl.put)/\eV.okL (eV.ag m.dl.moves)/\eN.okL (eN.ag m.ents)
theorem lcl_okS(pre:DA.T aM->List Prop)(h:∀g,DA.bd aM g->(∀p∈pre g,p)->lcl_side g):FnPure Tryd.prog 55 aM dMs (λg=>lcl_F g) pre:=pure_of_sideS (Γ:=(PTab.gamz tabH6 [] [])) (Λ:=noΛ) (PTab.okz tabH6 [] []) noΛ_ok 100 default (λg=>lcl_side g) (λg=>by kernel_rfl) (λg=>by kernel_rfl) h
end Go.Proofs.YtfkdbifgppfegaaDoor

namespace Go.Proofs.YtfkdbifgppfegaaDoor
open Go.RowKit Go.Sx Go.Lp
set_option maxRecDepth 100000
theorem lcl_ok:FnPure Tryd.prog 55 aM dMs (λm=>m) (λm=>[fewM m]):=by
 refine pure_congr (lcl_okS _ λm _ hp=>?_) λm _ hp=>?_
 .have h:fewM m:=hp _ (List.mem_cons_self ..);obtain⟨h1,h2,h3,h4,h5,h6⟩:=h;unfold lcl_side;simp only[El.okL_eq,El.ag_eq,true_and,and_true,h1,h2,h3,h4,h5,h6]
 .show lcl_F m=m;unfold lcl_F;simp only[El.ag_eq]
theorem byR(h:118<Tryd.prog.types.size):(Tryd.prog.types[(118:Nat)]'h).bytes=24:=by kernel_rfl
theorem byC(h:121<Tryd.prog.types.size):(Tryd.prog.types[(121:Nat)]'h).bytes=72:=by kernel_rfl
theorem byN(h:73<Tryd.prog.types.size):(Tryd.prog.types[(73:Nat)]'h).bytes=40:=by kernel_rfl
theorem byV(h:107<Tryd.prog.types.size):(Tryd.prog.types[(107:Nat)]'h).bytes=64:=by kernel_rfl
def mkOf(m:Ms):Mk1:=((m.kind,m.ver,m.p,m.t),m.recs,m.changes,m.dl.drop,m.dl.put,m.dl.moves,m.cut,m.ents,(m.yes,m.why))
theorem rmc_ok:FnPure Tryd.prog 67 aM dMs (λm=>m) (λm=>[fewM m]):=by
 have hq:∀m,fewM m->rmc_q1 m=(.exit 0,(),mkOf m,m.dl.put,(m.dl.put.length:Int)):=λm h=>by
  obtain⟨h1,h2,h3,h4,h5,h6⟩:=h;unfold rmc_q1;simp only[clE,El.ag_eq];exact rcl_run (mkOf m) h5.1 (fewN_at h5)
 refine pure_congr (rmc_okS (λm=>[fewM m]) λm _ hp=>?_) λm _ hp=>?_
 all_goals (have h:fewM m:=hp _ (List.mem_cons_self ..);have hq:=hq m h)
 .obtain⟨h1,h2,h3,h4,h5,h6⟩:=h;have hJ:ixJ rcl_lim rcl_xs rcl_K (rcl_f ((),mkOf m,[],0)):=ixJ0 rfl (le_max h5.1) ⟨Int.le_refl _,h5.1,fewN_at h5⟩;unfold KS at h1 h2 h3 h4 h6;unfold rmc_side;simp only[hq,clE,byR,byC,byN,byV,byI,El.okL_eq,El.ag_eq,true_and,and_true,implies_true,Nat.le_refl,El.one_els]
  have k:∀n k:Nat,n<=1000000->k<=72->0+n<=maxLen/\(0+n)*k<=140737488355328:=λn k h hk=>by
   have h1:(0+n)*k<=1000000*72:=Nat.mul_le_mul (by omega) hk;unfold maxLen;omega
  refine⟨k _ _ h1 (by decide),k _ _ h2 (by decide),k _ _ h3 (by decide),k _ _ h4 (by decide),k _ _ h6 (by decide),λe he=>absurd he (by omega),λe he=>absurd he (by omega),λe he=>absurd he (by omega),λe he=>absurd he (by omega),λe he=>absurd he (by omega),hJ,λe _ p hp=>?_⟩;simp only[List.nil_append,List.append_nil,List.mem_singleton]at hp;rw[hp];trivial
 .show rmc_F m=m;unfold rmc_F;simp only[hq,El.ag_eq];rfl
end Go.Proofs.YtfkdbifgppfegaaDoor

namespace Go.Proofs.YtfkdbifgppfegaaDoor
open Go.RowKit Go.Sx Go.Lp
noncomputable def tabJ0p:PTab Tryd.prog:=(tabG8.cons 55 (pconR aM dMs (λm=>m) (λm=>[fewM m])) (conR_ok lcl_ok)).cons 67 (pconR aM dMs (λm=>m) (λm=>[fewM m])) (conR_ok rmc_ok)
noncomputable def tabJ0:MTab Tryd.prog:=((MTab.of tabJ0p).consM 73 (bconRow 4 eBool (.one dLB) (λl=>l) (λl=>[l.length<=KS])) (conRow_ok cB_row)).consM 74 (bconRow 73 eN (.one dLN) (λl=>l) (λl=>[l.length<=KS])) (conRow_ok cN_row)
noncomputable abbrev rvL:RvE Ld:=.iso (.pair (.pl eI) (.pair (.pl eI) (.pair (.pl eI) (.pair (.pl eI) (.pair (.pl eDl) (.pair (.list eBool) (.pair (.pl eBool) (.pair (.pl eI) (.list eN))))))))) Ld.ofP Ld.toP (λ_=>rfl) (λ_=>rfl)
noncomputable abbrev rL:Rv Ld:=.agg rvL
noncomputable abbrev rLE:Rv (Ld×Int):=.tup (.cons rL (.one (.of dI)))
noncomputable abbrev rLME:Rv (Ld×Ms×Int):=.tup (.cons rL (.cons (.of dMs) (.one (.of dI))))
abbrev dLE:Dv (Ld×Int):=.tup (.cons dL (.one dI))
abbrev dLME:Dv (Ld×Ms×Int):=.tup (.cons dL (.cons dMs (.one dI)))
abbrev aLI:DA (Ld×Int):=.cons dL (.one dI)
abbrev aLDI:DA (Ld×Dl×Int):=.cons dL (.cons dDl (.one dI))
abbrev aLIM:DA (Ld×Int×Ms):=.cons dL (.cons dI (.one dMs))
end Go.Proofs.YtfkdbifgppfegaaDoor

namespace Go.Proofs.YtfkdbifgppfegaaDoor
open Go.RowKit Go.Sx
set_option maxRecDepth 100000
noncomputable def lcn_F(l:Ld):Rv.T rL:=
 Ld.mk l.workers l.stage l.ver l.cut (Dl.mk (eI.ag (eI.ag l.dl.drop)) (eD.ag (eD.ag l.dl.put)) (eV.ag (eV.ag l.dl.moves))) (eBool.ag (eBool.ag l.voted)) l.yes l.why (eN.ag (eN.ag l.ents))
def lcn_side(l:Ld):Prop:=
 eI.okL l.dl.drop/\eD.okL l.dl.put/\eV.okL l.dl.moves/\fewM (Ms.mk (0:Int) (0:Int) (Place.mk (0:Int) (0:Int)) (T.mk (0:Int) (0:Int) (0:Int) (0:Int) (0:Int) (0:Int)) [] [] (Dl.mk (eI.ag l.dl.drop) (eD.ag l.dl.put) (eV.ag l.dl.moves)) (0:Int) [] false (0:Int))/\∀(cs:List Nat),(cs.isEmpty=true->eBool.okL l.voted/\(eBool.ag l.voted).length<=KS/\eN.okL l.ents/\(eN.ag l.ents).length<=KS/\eI.okL (eI.ag l.dl.drop)/\eD.okL (eD.ag l.dl.put)/\eV.okL (eV.ag l.dl.moves)/\(eBool.ag l.voted).length<=(eBool.ag l.voted).length/\(∀(e:Nat),e<(eBool.ag l.voted).length->True)/\(eN.ag l.ents).length<=(eN.ag l.ents).length/\(∀(e:Nat),e<(eN.ag l.ents).length->True)/\∀(d:Ld),Ld.mk l.workers l.stage l.ver l.cut (Dl.mk (eI.ag (eI.ag l.dl.drop)) (eD.ag (eD.ag l.dl.put)) (eV.ag (eV.ag l.dl.moves))) (eBool.ag (eBool.ag l.voted)) l.yes l.why (eN.ag (eN.ag l.ents))=Ld.mk l.workers l.stage l.ver l.cut (Dl.mk (eI.ag (eI.ag l.dl.drop)) (eD.ag (eD.ag l.dl.put)) (eV.ag (eV.ag l.dl.moves))) (eBool.ag (eBool.ag l.voted)) l.yes l.why (eN.ag (eN.ag l.ents)))/\(cs.isEmpty=false->eBool.okL l.voted/\(eBool.ag l.voted).length<=KS/\eN.okL l.ents/\(eN.ag l.ents).length<=KS/\eI.okL (eI.ag l.dl.drop)/\eD.okL (eD.ag l.dl.put)/\eV.okL (eV.ag l.dl.moves)/\(eBool.ag l.voted).length<=(eBool.ag l.voted).length/\(∀(e:Nat),e<(eBool.ag l.voted).length->True)/\(eN.ag l.ents).length<=(eN.ag l.ents).length/\(∀(e:Nat),e<(eN.ag l.ents).length->True)/\∀(d:Ld),Ld.mk l.workers l.stage l.ver l.cut (Dl.mk (eI.ag (eI.ag l.dl.drop)) (eD.ag (eD.ag l.dl.put)) (eV.ag (eV.ag l.dl.moves))) (eBool.ag (eBool.ag l.voted)) l.yes l.why (eN.ag (eN.ag l.ents))=Ld.mk l.workers l.stage l.ver l.cut (Dl.mk (eI.ag (eI.ag l.dl.drop)) (eD.ag (eD.ag l.dl.put)) (eV.ag (eV.ag l.dl.moves))) (eBool.ag (eBool.ag l.voted)) l.yes l.why (eN.ag (eN.ag l.ents)))
theorem lcn_okS(pre:DA.T aL->List Prop)(h:∀g,DA.bd aL g->(∀p∈pre g,p)->lcn_side g):FnPure Tryd.prog 54 aL (Rv.D rL) (λg=>lcn_F g) pre:=res_of_side (R:=rL) (Γ:=(MTab.gamz tabJ0 [] [])) (Λ:=noΛ) (MTab.okz tabJ0 [] []) noΛ_ok 100 default (λg=>lcn_side g) (λg=>by kernel_rfl) (λg=>by kernel_rfl) h
end Go.Proofs.YtfkdbifgppfegaaDoor

namespace Go.Proofs.YtfkdbifgppfegaaDoor
open Go.RowKit Go.Sx
set_option maxRecDepth 100000
noncomputable def abt_F(l:Ld)(w:Int):Rv.T rLE:=
 bif chkL (Ld.mk l.workers l.stage l.ver l.cut (Dl.mk (eI.ag l.dl.drop) (eD.ag l.dl.put) (eV.ag l.dl.moves)) (eBool.ag l.voted) l.yes l.why (eN.ag l.ents))!=(0:Int)then(Ld.mk l.workers l.stage l.ver l.cut (Dl.mk (eI.ag l.dl.drop) (eD.ag l.dl.put) (eV.ag l.dl.moves)) (eBool.ag l.voted) l.yes l.why (eN.ag l.ents),chkL (Ld.mk l.workers l.stage l.ver l.cut (Dl.mk (eI.ag l.dl.drop) (eD.ag l.dl.put) (eV.ag l.dl.moves)) (eBool.ag l.voted) l.yes l.why (eN.ag l.ents)))
 else bif l.stage==(0:Int)||l.stage==(4:Int)then(Ld.mk l.workers l.stage l.ver l.cut (Dl.mk (eI.ag l.dl.drop) (eD.ag l.dl.put) (eV.ag l.dl.moves)) (eBool.ag l.voted) l.yes l.why (eN.ag l.ents),(212:Int))else bif w==(0:Int)then(Ld.mk l.workers l.stage l.ver l.cut (Dl.mk (eI.ag l.dl.drop) (eD.ag l.dl.put) (eV.ag l.dl.moves)) (eBool.ag l.voted) l.yes l.why (eN.ag l.ents),(1:Int))else(Ld.mk l.workers (bif l.stage==(2:Int)then(4:Int)else l.stage) l.ver l.cut (Dl.mk (eI.ag (eI.ag l.dl.drop)) (eD.ag (eD.ag l.dl.put)) (eV.ag (eV.ag l.dl.moves))) (eBool.ag (eBool.ag l.voted)) (!l.yes&&l.yes) (bif l.yes then w else l.why) [],(0:Int))
def abt_side(l:Ld)(w:Int):Prop:=
 eI.okL l.dl.drop/\eD.okL l.dl.put/\eV.okL l.dl.moves/\eBool.okL l.voted/\eN.okL l.ents/\((chkL (Ld.mk l.workers l.stage l.ver l.cut (Dl.mk (eI.ag l.dl.drop) (eD.ag l.dl.put) (eV.ag l.dl.moves)) (eBool.ag l.voted) l.yes l.why (eN.ag l.ents))!=(0:Int))=true->eI.okL l.dl.drop/\eD.okL l.dl.put/\eV.okL l.dl.moves/\eBool.okL l.voted/\eN.okL l.ents)/\((chkL (Ld.mk l.workers l.stage l.ver l.cut (Dl.mk (eI.ag l.dl.drop) (eD.ag l.dl.put) (eV.ag l.dl.moves)) (eBool.ag l.voted) l.yes l.why (eN.ag l.ents))!=(0:Int))=false->((l.stage==(0:Int)||l.stage==(4:Int))=true->eI.okL l.dl.drop/\eD.okL l.dl.put/\eV.okL l.dl.moves/\eBool.okL l.voted/\eN.okL l.ents)/\((l.stage==(0:Int)||l.stage==(4:Int))=false->((w==(0:Int))=true->eI.okL l.dl.drop/\eD.okL l.dl.put/\eV.okL l.dl.moves/\eBool.okL l.voted/\eN.okL l.ents)/\((w==(0:Int))=false->eI.okL l.dl.drop/\eD.okL l.dl.put/\eV.okL l.dl.moves/\fewM (Ms.mk (0:Int) (0:Int) (Place.mk (0:Int) (0:Int)) (T.mk (0:Int) (0:Int) (0:Int) (0:Int) (0:Int) (0:Int)) [] [] (Dl.mk (eI.ag l.dl.drop) (eD.ag l.dl.put) (eV.ag l.dl.moves)) (0:Int) [] false (0:Int))/\∀(cs:List Nat),(cs.isEmpty=true->eBool.okL l.voted/\(eBool.ag l.voted).length<=KS/\eN.okL l.ents/\(eN.ag l.ents).length<=KS/\eI.okL (eI.ag l.dl.drop)/\eD.okL (eD.ag l.dl.put)/\eV.okL (eV.ag l.dl.moves)/\(eBool.ag l.voted).length<=(eBool.ag l.voted).length/\(∀(e:Nat),e<(eBool.ag l.voted).length->True)/\∀(d:Ld×Int),(Ld.mk l.workers (bif l.stage==(2:Int)then(4:Int)else l.stage) l.ver l.cut (Dl.mk (eI.ag (eI.ag l.dl.drop)) (eD.ag (eD.ag l.dl.put)) (eV.ag (eV.ag l.dl.moves))) (eBool.ag (eBool.ag l.voted)) (!l.yes&&l.yes) (bif l.yes then w else l.why) [],(0:Int))=(Ld.mk l.workers (bif l.stage==(2:Int)then(4:Int)else l.stage) l.ver l.cut (Dl.mk (eI.ag (eI.ag l.dl.drop)) (eD.ag (eD.ag l.dl.put)) (eV.ag (eV.ag l.dl.moves))) (eBool.ag (eBool.ag l.voted)) (!l.yes&&l.yes) (bif l.yes then w else l.why) [],(0:Int)))/\(cs.isEmpty=false->eBool.okL l.voted/\(eBool.ag l.voted).length<=KS/\eN.okL l.ents/\(eN.ag l.ents).length<=KS/\eI.okL (eI.ag l.dl.drop)/\eD.okL (eD.ag l.dl.put)/\eV.okL (eV.ag l.dl.moves)/\(eBool.ag l.voted).length<=(eBool.ag l.voted).length/\(∀(e:Nat),e<(eBool.ag l.voted).length->True)/\∀(d:Ld×Int),(Ld.mk l.workers (bif l.stage==(2:Int)then(4:Int)else l.stage) l.ver l.cut (Dl.mk (eI.ag (eI.ag l.dl.drop)) (eD.ag (eD.ag l.dl.put)) (eV.ag (eV.ag l.dl.moves))) (eBool.ag (eBool.ag l.voted)) (!l.yes&&l.yes) (bif l.yes then w else l.why) [],(0:Int))=(Ld.mk l.workers (bif l.stage==(2:Int)then(4:Int)else l.stage) l.ver l.cut (Dl.mk (eI.ag (eI.ag l.dl.drop)) (eD.ag (eD.ag l.dl.put)) (eV.ag (eV.ag l.dl.moves))) (eBool.ag (eBool.ag l.voted)) (!l.yes&&l.yes) (bif l.yes then w else l.why) [],(0:Int))))))
theorem abt_okS(pre:DA.T aLI->List Prop)(h:∀g,DA.bd aLI g->(∀p∈pre g,p)->abt_side g.1 g.2):FnPure Tryd.prog 37 aLI (Rv.D rLE) (λg=>abt_F g.1 g.2) pre:=res_of_side (R:=rLE) (Γ:=(MTab.gamz tabJ0 [] [])) (Λ:=noΛ) (MTab.okz tabJ0 [] []) noΛ_ok 100 default (λg=>abt_side g.1 g.2) (λg=>by kernel_rfl) (λg=>by kernel_rfl) h
end Go.Proofs.YtfkdbifgppfegaaDoor

namespace Go.Proofs.YtfkdbifgppfegaaDoor
open Go.RowKit Go.Sx
set_option maxRecDepth 100000
noncomputable def drn_F(l:Ld):Rv.T rLME:=
 bif chkL (Ld.mk l.workers l.stage l.ver l.cut (Dl.mk (eI.ag l.dl.drop) (eD.ag l.dl.put) (eV.ag l.dl.moves)) (eBool.ag l.voted) l.yes l.why (eN.ag l.ents))!=(0:Int)then(Ld.mk l.workers l.stage l.ver l.cut (Dl.mk (eI.ag l.dl.drop) (eD.ag l.dl.put) (eV.ag l.dl.moves)) (eBool.ag l.voted) l.yes l.why (eN.ag l.ents),Ms.mk (0:Int) (0:Int) (Place.mk (0:Int) (0:Int)) (T.mk (0:Int) (0:Int) (0:Int) (0:Int) (0:Int) (0:Int)) [] [] (Dl.mk [] [] []) (0:Int) [] false (0:Int),chkL (Ld.mk l.workers l.stage l.ver l.cut (Dl.mk (eI.ag l.dl.drop) (eD.ag l.dl.put) (eV.ag l.dl.moves)) (eBool.ag l.voted) l.yes l.why (eN.ag l.ents)))
 else bif l.stage !=(2:Int)then(Ld.mk l.workers l.stage l.ver l.cut (Dl.mk (eI.ag l.dl.drop) (eD.ag l.dl.put) (eV.ag l.dl.moves)) (eBool.ag l.voted) l.yes l.why (eN.ag l.ents),Ms.mk (0:Int) (0:Int) (Place.mk (0:Int) (0:Int)) (T.mk (0:Int) (0:Int) (0:Int) (0:Int) (0:Int) (0:Int)) [] [] (Dl.mk [] [] []) (0:Int) [] false (0:Int),(212:Int))else(Ld.mk l.workers (3:Int) l.ver l.cut (Dl.mk (eI.ag (eI.ag l.dl.drop)) (eD.ag (eD.ag l.dl.put)) (eV.ag (eV.ag l.dl.moves))) (eBool.lst l.workers.toNat (zeroEl (Value.bool false))) l.yes l.why (eN.ag (eN.ag l.ents)),Ms.mk (4:Int) l.ver (Place.mk (0:Int) (0:Int)) (T.mk (0:Int) (0:Int) (0:Int) (0:Int) (0:Int) (0:Int)) [] [] (Dl.mk [] [] []) (0:Int) [] false (0:Int),(0:Int))
def drn_side(l:Ld):Prop:=
 eI.okL l.dl.drop/\eD.okL l.dl.put/\eV.okL l.dl.moves/\eBool.okL l.voted/\eN.okL l.ents/\((chkL (Ld.mk l.workers l.stage l.ver l.cut (Dl.mk (eI.ag l.dl.drop) (eD.ag l.dl.put) (eV.ag l.dl.moves)) (eBool.ag l.voted) l.yes l.why (eN.ag l.ents))!=(0:Int))=true->eI.okL l.dl.drop/\eD.okL l.dl.put/\eV.okL l.dl.moves/\eBool.okL l.voted/\eN.okL l.ents)/\((chkL (Ld.mk l.workers l.stage l.ver l.cut (Dl.mk (eI.ag l.dl.drop) (eD.ag l.dl.put) (eV.ag l.dl.moves)) (eBool.ag l.voted) l.yes l.why (eN.ag l.ents))!=(0:Int))=false->((l.stage !=(2:Int))=true->eI.okL l.dl.drop/\eD.okL l.dl.put/\eV.okL l.dl.moves/\eBool.okL l.voted/\eN.okL l.ents)/\((l.stage !=(2:Int))=false->eI.okL l.dl.drop/\eD.okL l.dl.put/\eV.okL l.dl.moves/\fewM (Ms.mk (0:Int) (0:Int) (Place.mk (0:Int) (0:Int)) (T.mk (0:Int) (0:Int) (0:Int) (0:Int) (0:Int) (0:Int)) [] [] (Dl.mk (eI.ag l.dl.drop) (eD.ag l.dl.put) (eV.ag l.dl.moves)) (0:Int) [] false (0:Int))/\∀(cs:List Nat),(cs.isEmpty=true->eBool.okL l.voted/\(eBool.ag l.voted).length<=KS/\eN.okL l.ents/\(eN.ag l.ents).length<=KS/\∀(cs:List Nat),(cs.isEmpty=true->∀(cs:List Nat),(cs.isEmpty=true->((0:Int)<=l.workers/\l.workers<=l.workers/\l.workers<=(9223372036854775807:Int)/\(1:Int)*l.workers<=(140737488355328:Int))/\eI.okL (eI.ag l.dl.drop)/\eD.okL (eD.ag l.dl.put)/\eV.okL (eV.ag l.dl.moves)/\l.workers.toNat<=l.workers.toNat/\(∀(e:Nat),e<l.workers.toNat->True)/\(eN.ag l.ents).length<=(eN.ag l.ents).length/\(∀(e:Nat),e<(eN.ag l.ents).length->True)/\∀(d:Ld×Ms×Int),(Ld.mk l.workers (3:Int) l.ver l.cut (Dl.mk (eI.ag (eI.ag l.dl.drop)) (eD.ag (eD.ag l.dl.put)) (eV.ag (eV.ag l.dl.moves))) (eBool.lst l.workers.toNat (zeroEl (Value.bool false))) l.yes l.why (eN.ag (eN.ag l.ents)),Ms.mk (4:Int) l.ver (Place.mk (0:Int) (0:Int)) (T.mk (0:Int) (0:Int) (0:Int) (0:Int) (0:Int) (0:Int)) [] [] (Dl.mk [] [] []) (0:Int) [] false (0:Int),(0:Int))=(Ld.mk l.workers (3:Int) l.ver l.cut (Dl.mk (eI.ag (eI.ag l.dl.drop)) (eD.ag (eD.ag l.dl.put)) (eV.ag (eV.ag l.dl.moves))) (eBool.lst l.workers.toNat (zeroEl (Value.bool false))) l.yes l.why (eN.ag (eN.ag l.ents)),Ms.mk (4:Int) l.ver (Place.mk (0:Int) (0:Int)) (T.mk (0:Int) (0:Int) (0:Int) (0:Int) (0:Int) (0:Int)) [] [] (Dl.mk [] [] []) (0:Int) [] false (0:Int),(0:Int)))/\(cs.isEmpty=false->((0:Int)<=l.workers/\l.workers<=l.workers/\l.workers<=(9223372036854775807:Int)/\(1:Int)*l.workers<=(140737488355328:Int))/\eI.okL (eI.ag l.dl.drop)/\eD.okL (eD.ag l.dl.put)/\eV.okL (eV.ag l.dl.moves)/\l.workers.toNat<=l.workers.toNat/\(∀(e:Nat),e<l.workers.toNat->True)/\(eN.ag l.ents).length<=(eN.ag l.ents).length/\(∀(e:Nat),e<(eN.ag l.ents).length->True)/\∀(d:Ld×Ms×Int),(Ld.mk l.workers (3:Int) l.ver l.cut (Dl.mk (eI.ag (eI.ag l.dl.drop)) (eD.ag (eD.ag l.dl.put)) (eV.ag (eV.ag l.dl.moves))) (eBool.lst l.workers.toNat (zeroEl (Value.bool false))) l.yes l.why (eN.ag (eN.ag l.ents)),Ms.mk (4:Int) l.ver (Place.mk (0:Int) (0:Int)) (T.mk (0:Int) (0:Int) (0:Int) (0:Int) (0:Int) (0:Int)) [] [] (Dl.mk [] [] []) (0:Int) [] false (0:Int),(0:Int))=(Ld.mk l.workers (3:Int) l.ver l.cut (Dl.mk (eI.ag (eI.ag l.dl.drop)) (eD.ag (eD.ag l.dl.put)) (eV.ag (eV.ag l.dl.moves))) (eBool.lst l.workers.toNat (zeroEl (Value.bool false))) l.yes l.why (eN.ag (eN.ag l.ents)),Ms.mk (4:Int) l.ver (Place.mk (0:Int) (0:Int)) (T.mk (0:Int) (0:Int) (0:Int) (0:Int) (0:Int) (0:Int)) [] [] (Dl.mk [] [] []) (0:Int) [] false (0:Int),(0:Int))))/\(cs.isEmpty=false->((0:Int)<=l.workers/\l.workers<=l.workers/\l.workers<=(9223372036854775807:Int)/\(1:Int)*l.workers<=(140737488355328:Int))/\eI.okL (eI.ag l.dl.drop)/\eD.okL (eD.ag l.dl.put)/\eV.okL (eV.ag l.dl.moves)/\l.workers.toNat<=l.workers.toNat/\(∀(e:Nat),e<l.workers.toNat->True)/\(eN.ag l.ents).length<=(eN.ag l.ents).length/\(∀(e:Nat),e<(eN.ag l.ents).length->True)/\∀(d:Ld×Ms×Int),(Ld.mk l.workers (3:Int) l.ver l.cut (Dl.mk (eI.ag (eI.ag l.dl.drop)) (eD.ag (eD.ag l.dl.put)) (eV.ag (eV.ag l.dl.moves))) (eBool.lst l.workers.toNat (zeroEl (Value.bool false))) l.yes l.why (eN.ag (eN.ag l.ents)),Ms.mk (4:Int) l.ver (Place.mk (0:Int) (0:Int)) (T.mk (0:Int) (0:Int) (0:Int) (0:Int) (0:Int) (0:Int)) [] [] (Dl.mk [] [] []) (0:Int) [] false (0:Int),(0:Int))=(Ld.mk l.workers (3:Int) l.ver l.cut (Dl.mk (eI.ag (eI.ag l.dl.drop)) (eD.ag (eD.ag l.dl.put)) (eV.ag (eV.ag l.dl.moves))) (eBool.lst l.workers.toNat (zeroEl (Value.bool false))) l.yes l.why (eN.ag (eN.ag l.ents)),Ms.mk (4:Int) l.ver (Place.mk (0:Int) (0:Int)) (T.mk (0:Int) (0:Int) (0:Int) (0:Int) (0:Int) (0:Int)) [] [] (Dl.mk [] [] []) (0:Int) [] false (0:Int),(0:Int))))/\(cs.isEmpty=false->eBool.okL l.voted/\(eBool.ag l.voted).length<=KS/\eN.okL l.ents/\(eN.ag l.ents).length<=KS/\∀(cs:List Nat),(cs.isEmpty=true->∀(cs:List Nat),(cs.isEmpty=true->((0:Int)<=l.workers/\l.workers<=l.workers/\l.workers<=(9223372036854775807:Int)/\(1:Int)*l.workers<=(140737488355328:Int))/\eI.okL (eI.ag l.dl.drop)/\eD.okL (eD.ag l.dl.put)/\eV.okL (eV.ag l.dl.moves)/\l.workers.toNat<=l.workers.toNat/\(∀(e:Nat),e<l.workers.toNat->True)/\(eN.ag l.ents).length<=(eN.ag l.ents).length/\(∀(e:Nat),e<(eN.ag l.ents).length->True)/\∀(d:Ld×Ms×Int),(Ld.mk l.workers (3:Int) l.ver l.cut (Dl.mk (eI.ag (eI.ag l.dl.drop)) (eD.ag (eD.ag l.dl.put)) (eV.ag (eV.ag l.dl.moves))) (eBool.lst l.workers.toNat (zeroEl (Value.bool false))) l.yes l.why (eN.ag (eN.ag l.ents)),Ms.mk (4:Int) l.ver (Place.mk (0:Int) (0:Int)) (T.mk (0:Int) (0:Int) (0:Int) (0:Int) (0:Int) (0:Int)) [] [] (Dl.mk [] [] []) (0:Int) [] false (0:Int),(0:Int))=(Ld.mk l.workers (3:Int) l.ver l.cut (Dl.mk (eI.ag (eI.ag l.dl.drop)) (eD.ag (eD.ag l.dl.put)) (eV.ag (eV.ag l.dl.moves))) (eBool.lst l.workers.toNat (zeroEl (Value.bool false))) l.yes l.why (eN.ag (eN.ag l.ents)),Ms.mk (4:Int) l.ver (Place.mk (0:Int) (0:Int)) (T.mk (0:Int) (0:Int) (0:Int) (0:Int) (0:Int) (0:Int)) [] [] (Dl.mk [] [] []) (0:Int) [] false (0:Int),(0:Int)))/\(cs.isEmpty=false->((0:Int)<=l.workers/\l.workers<=l.workers/\l.workers<=(9223372036854775807:Int)/\(1:Int)*l.workers<=(140737488355328:Int))/\eI.okL (eI.ag l.dl.drop)/\eD.okL (eD.ag l.dl.put)/\eV.okL (eV.ag l.dl.moves)/\l.workers.toNat<=l.workers.toNat/\(∀(e:Nat),e<l.workers.toNat->True)/\(eN.ag l.ents).length<=(eN.ag l.ents).length/\(∀(e:Nat),e<(eN.ag l.ents).length->True)/\∀(d:Ld×Ms×Int),(Ld.mk l.workers (3:Int) l.ver l.cut (Dl.mk (eI.ag (eI.ag l.dl.drop)) (eD.ag (eD.ag l.dl.put)) (eV.ag (eV.ag l.dl.moves))) (eBool.lst l.workers.toNat (zeroEl (Value.bool false))) l.yes l.why (eN.ag (eN.ag l.ents)),Ms.mk (4:Int) l.ver (Place.mk (0:Int) (0:Int)) (T.mk (0:Int) (0:Int) (0:Int) (0:Int) (0:Int) (0:Int)) [] [] (Dl.mk [] [] []) (0:Int) [] false (0:Int),(0:Int))=(Ld.mk l.workers (3:Int) l.ver l.cut (Dl.mk (eI.ag (eI.ag l.dl.drop)) (eD.ag (eD.ag l.dl.put)) (eV.ag (eV.ag l.dl.moves))) (eBool.lst l.workers.toNat (zeroEl (Value.bool false))) l.yes l.why (eN.ag (eN.ag l.ents)),Ms.mk (4:Int) l.ver (Place.mk (0:Int) (0:Int)) (T.mk (0:Int) (0:Int) (0:Int) (0:Int) (0:Int) (0:Int)) [] [] (Dl.mk [] [] []) (0:Int) [] false (0:Int),(0:Int))))/\(cs.isEmpty=false->((0:Int)<=l.workers/\l.workers<=l.workers/\l.workers<=(9223372036854775807:Int)/\(1:Int)*l.workers<=(140737488355328:Int))/\eI.okL (eI.ag l.dl.drop)/\eD.okL (eD.ag l.dl.put)/\eV.okL (eV.ag l.dl.moves)/\l.workers.toNat<=l.workers.toNat/\(∀(e:Nat),e<l.workers.toNat->True)/\(eN.ag l.ents).length<=(eN.ag l.ents).length/\(∀(e:Nat),e<(eN.ag l.ents).length->True)/\∀(d:Ld×Ms×Int),(Ld.mk l.workers (3:Int) l.ver l.cut (Dl.mk (eI.ag (eI.ag l.dl.drop)) (eD.ag (eD.ag l.dl.put)) (eV.ag (eV.ag l.dl.moves))) (eBool.lst l.workers.toNat (zeroEl (Value.bool false))) l.yes l.why (eN.ag (eN.ag l.ents)),Ms.mk (4:Int) l.ver (Place.mk (0:Int) (0:Int)) (T.mk (0:Int) (0:Int) (0:Int) (0:Int) (0:Int) (0:Int)) [] [] (Dl.mk [] [] []) (0:Int) [] false (0:Int),(0:Int))=(Ld.mk l.workers (3:Int) l.ver l.cut (Dl.mk (eI.ag (eI.ag l.dl.drop)) (eD.ag (eD.ag l.dl.put)) (eV.ag (eV.ag l.dl.moves))) (eBool.lst l.workers.toNat (zeroEl (Value.bool false))) l.yes l.why (eN.ag (eN.ag l.ents)),Ms.mk (4:Int) l.ver (Place.mk (0:Int) (0:Int)) (T.mk (0:Int) (0:Int) (0:Int) (0:Int) (0:Int) (0:Int)) [] [] (Dl.mk [] [] []) (0:Int) [] false (0:Int),(0:Int))))))
theorem drn_okS(pre:DA.T aL->List Prop)(h:∀g,DA.bd aL g->(∀p∈pre g,p)->drn_side g):FnPure Tryd.prog 27 aL (Rv.D rLME) (λg=>drn_F g) pre:=res_of_side (R:=rLME) (Γ:=(MTab.gamz tabJ0 [] [])) (Λ:=noΛ) (MTab.okz tabJ0 [] []) noΛ_ok 100 default (λg=>drn_side g) (λg=>by kernel_rfl) (λg=>by kernel_rfl) h
end Go.Proofs.YtfkdbifgppfegaaDoor

namespace Go.Proofs.YtfkdbifgppfegaaDoor
open Go.RowKit Go.Sx
set_option maxRecDepth 100000
noncomputable def rabt_F(l:Ld)(w:Int):Rv.T rLE:=
 bif chkL (Ld.mk l.workers l.stage l.ver l.cut (Dl.mk (eI.ag l.dl.drop) (eD.ag l.dl.put) (eV.ag l.dl.moves)) (eBool.ag l.voted) l.yes l.why (eN.ag l.ents))!=(0:Int)then(Ld.mk l.workers l.stage l.ver l.cut (Dl.mk (eI.ag l.dl.drop) (eD.ag l.dl.put) (eV.ag l.dl.moves)) (eBool.ag l.voted) l.yes l.why (eN.ag l.ents),chkL (Ld.mk l.workers l.stage l.ver l.cut (Dl.mk (eI.ag l.dl.drop) (eD.ag l.dl.put) (eV.ag l.dl.moves)) (eBool.ag l.voted) l.yes l.why (eN.ag l.ents)))
 else bif l.stage==(0:Int)||l.stage==(4:Int)then(Ld.mk l.workers l.stage l.ver l.cut (Dl.mk (eI.ag l.dl.drop) (eD.ag l.dl.put) (eV.ag l.dl.moves)) (eBool.ag l.voted) l.yes l.why (eN.ag l.ents),(212:Int))else bif w==(0:Int)then(Ld.mk l.workers l.stage l.ver l.cut (Dl.mk (eI.ag l.dl.drop) (eD.ag l.dl.put) (eV.ag l.dl.moves)) (eBool.ag l.voted) l.yes l.why (eN.ag l.ents),(1:Int))else(Ld.mk l.workers (bif l.stage==(2:Int)then(4:Int)else l.stage) l.ver l.cut (Dl.mk (eI.ag (eI.ag l.dl.drop)) (eD.ag (eD.ag l.dl.put)) (eV.ag (eV.ag l.dl.moves))) (List.map (λx=>eBool.get []) (List.range (min ((0:Nat)+l.voted.length) (0:Nat)))++eBool.lst ((0:Nat)+l.voted.length-(0:Nat)) (eBool.els l.voted)) false (bif l.yes then w else l.why) [],(0:Int))
def rabt_side(l:Ld)(w:Int):Prop:=
 eI.okL l.dl.drop/\eD.okL l.dl.put/\eV.okL l.dl.moves/\eBool.okL l.voted/\eN.okL l.ents/\((chkL (Ld.mk l.workers l.stage l.ver l.cut (Dl.mk (eI.ag l.dl.drop) (eD.ag l.dl.put) (eV.ag l.dl.moves)) (eBool.ag l.voted) l.yes l.why (eN.ag l.ents))!=(0:Int))=true->eI.okL l.dl.drop/\eD.okL l.dl.put/\eV.okL l.dl.moves/\eBool.okL l.voted/\eN.okL l.ents)/\((chkL (Ld.mk l.workers l.stage l.ver l.cut (Dl.mk (eI.ag l.dl.drop) (eD.ag l.dl.put) (eV.ag l.dl.moves)) (eBool.ag l.voted) l.yes l.why (eN.ag l.ents))!=(0:Int))=false->((l.stage==(0:Int)||l.stage==(4:Int))=true->eI.okL l.dl.drop/\eD.okL l.dl.put/\eV.okL l.dl.moves/\eBool.okL l.voted/\eN.okL l.ents)/\((l.stage==(0:Int)||l.stage==(4:Int))=false->((w==(0:Int))=true->eI.okL l.dl.drop/\eD.okL l.dl.put/\eV.okL l.dl.moves/\eBool.okL l.voted/\eN.okL l.ents)/\((w==(0:Int))=false->(True/\(∀(e:Nat),e<l.voted.length->(eBool.els l.voted e).all SV.one=true)/\(0:Nat)+l.voted.length<=maxLen/\((0:Nat)+l.voted.length)*Tryd.prog.types[(4:Nat)].bytes<=(140737488355328:Nat))/\(True/\(∀(e:Nat),e<l.ents.length->(eN.els l.ents e).all SV.one=true)/\(0:Nat)+l.ents.length<=maxLen/\((0:Nat)+l.ents.length)*Tryd.prog.types[(73:Nat)].bytes<=(140737488355328:Nat))/\eI.okL l.dl.drop/\eD.okL l.dl.put/\eV.okL l.dl.moves/\fewM (Ms.mk (0:Int) (0:Int) (Place.mk (0:Int) (0:Int)) (T.mk (0:Int) (0:Int) (0:Int) (0:Int) (0:Int) (0:Int)) [] [] (Dl.mk (eI.ag l.dl.drop) (eD.ag l.dl.put) (eV.ag l.dl.moves)) (0:Int) [] false (0:Int))/\eI.okL (eI.ag l.dl.drop)/\eD.okL (eD.ag l.dl.put)/\eV.okL (eV.ag l.dl.moves)/\(0:Nat)+l.voted.length<=(0:Nat)+l.voted.length/\(∀(e:Nat),e<min ((0:Nat)+l.voted.length) (0:Nat)->eBool.OkP [])/\∀(e:Nat),e<(0:Nat)+l.voted.length-(0:Nat)->True)))
theorem rabt_okS(pre:DA.T aLI->List Prop)(h:∀g,DA.bd aLI g->(∀p∈pre g,p)->rabt_side g.1 g.2):FnPure Tryd.prog 43 aLI (Rv.D rLE) (λg=>rabt_F g.1 g.2) pre:=res_of_side (R:=rLE) (Γ:=(MTab.gamz tabJ0 [] [])) (Λ:=noΛ) (MTab.okz tabJ0 [] []) noΛ_ok 100 default (λg=>rabt_side g.1 g.2) (λg=>by kernel_rfl) (λg=>by kernel_rfl) h
end Go.Proofs.YtfkdbifgppfegaaDoor

namespace Go.Proofs.YtfkdbifgppfegaaDoor
open Go.RowKit Go.Sx
set_option maxRecDepth 100000
noncomputable def rdrn_F(l:Ld):Rv.T rLME:=
 bif chkL (Ld.mk l.workers l.stage l.ver l.cut (Dl.mk (eI.ag l.dl.drop) (eD.ag l.dl.put) (eV.ag l.dl.moves)) (eBool.ag l.voted) l.yes l.why (eN.ag l.ents))!=(0:Int)then(Ld.mk l.workers l.stage l.ver l.cut (Dl.mk (eI.ag l.dl.drop) (eD.ag l.dl.put) (eV.ag l.dl.moves)) (eBool.ag l.voted) l.yes l.why (eN.ag l.ents),Ms.mk (0:Int) (0:Int) (Place.mk (0:Int) (0:Int)) (T.mk (0:Int) (0:Int) (0:Int) (0:Int) (0:Int) (0:Int)) [] [] (Dl.mk [] [] []) (0:Int) [] false (0:Int),chkL (Ld.mk l.workers l.stage l.ver l.cut (Dl.mk (eI.ag l.dl.drop) (eD.ag l.dl.put) (eV.ag l.dl.moves)) (eBool.ag l.voted) l.yes l.why (eN.ag l.ents)))
 else bif l.stage !=(2:Int)then(Ld.mk l.workers l.stage l.ver l.cut (Dl.mk (eI.ag l.dl.drop) (eD.ag l.dl.put) (eV.ag l.dl.moves)) (eBool.ag l.voted) l.yes l.why (eN.ag l.ents),Ms.mk (0:Int) (0:Int) (Place.mk (0:Int) (0:Int)) (T.mk (0:Int) (0:Int) (0:Int) (0:Int) (0:Int) (0:Int)) [] [] (Dl.mk [] [] []) (0:Int) [] false (0:Int),(212:Int))else(Ld.mk l.workers (3:Int) l.ver l.cut (Dl.mk (eI.ag (eI.ag l.dl.drop)) (eD.ag (eD.ag l.dl.put)) (eV.ag (eV.ag l.dl.moves))) (eBool.lst l.workers.toNat (zeroEl (Value.bool false))) l.yes l.why (List.map (λx=>eN.get []) (List.range (min ((0:Nat)+l.ents.length) (0:Nat)))++eN.lst ((0:Nat)+l.ents.length-(0:Nat)) (eN.els l.ents)),Ms.mk (4:Int) l.ver (Place.mk (0:Int) (0:Int)) (T.mk (0:Int) (0:Int) (0:Int) (0:Int) (0:Int) (0:Int)) [] [] (Dl.mk [] [] []) (0:Int) [] false (0:Int),(0:Int))
def rdrn_side(l:Ld):Prop:=
 eI.okL l.dl.drop/\eD.okL l.dl.put/\eV.okL l.dl.moves/\eBool.okL l.voted/\eN.okL l.ents/\((chkL (Ld.mk l.workers l.stage l.ver l.cut (Dl.mk (eI.ag l.dl.drop) (eD.ag l.dl.put) (eV.ag l.dl.moves)) (eBool.ag l.voted) l.yes l.why (eN.ag l.ents))!=(0:Int))=true->eI.okL l.dl.drop/\eD.okL l.dl.put/\eV.okL l.dl.moves/\eBool.okL l.voted/\eN.okL l.ents)/\((chkL (Ld.mk l.workers l.stage l.ver l.cut (Dl.mk (eI.ag l.dl.drop) (eD.ag l.dl.put) (eV.ag l.dl.moves)) (eBool.ag l.voted) l.yes l.why (eN.ag l.ents))!=(0:Int))=false->((l.stage !=(2:Int))=true->eI.okL l.dl.drop/\eD.okL l.dl.put/\eV.okL l.dl.moves/\eBool.okL l.voted/\eN.okL l.ents)/\((l.stage !=(2:Int))=false->(True/\(∀(e:Nat),e<l.voted.length->(eBool.els l.voted e).all SV.one=true)/\(0:Nat)+l.voted.length<=maxLen/\((0:Nat)+l.voted.length)*Tryd.prog.types[(4:Nat)].bytes<=(140737488355328:Nat))/\(True/\(∀(e:Nat),e<l.ents.length->(eN.els l.ents e).all SV.one=true)/\(0:Nat)+l.ents.length<=maxLen/\((0:Nat)+l.ents.length)*Tryd.prog.types[(73:Nat)].bytes<=(140737488355328:Nat))/\eI.okL l.dl.drop/\eD.okL l.dl.put/\eV.okL l.dl.moves/\fewM (Ms.mk (0:Int) (0:Int) (Place.mk (0:Int) (0:Int)) (T.mk (0:Int) (0:Int) (0:Int) (0:Int) (0:Int) (0:Int)) [] [] (Dl.mk (eI.ag l.dl.drop) (eD.ag l.dl.put) (eV.ag l.dl.moves)) (0:Int) [] false (0:Int))/\((0:Int)<=l.workers/\l.workers<=l.workers/\l.workers<=(9223372036854775807:Int)/\(1:Int)*l.workers<=(140737488355328:Int))/\eI.okL (eI.ag l.dl.drop)/\eD.okL (eD.ag l.dl.put)/\eV.okL (eV.ag l.dl.moves)/\l.workers.toNat<=l.workers.toNat/\(∀(e:Nat),e<l.workers.toNat->True)/\(0:Nat)+l.ents.length<=(0:Nat)+l.ents.length/\(∀(e:Nat),e<min ((0:Nat)+l.ents.length) (0:Nat)->eN.OkP [])/\∀(e:Nat),e<(0:Nat)+l.ents.length-(0:Nat)->True))
theorem rdrn_okS(pre:DA.T aL->List Prop)(h:∀g,DA.bd aL g->(∀p∈pre g,p)->rdrn_side g):FnPure Tryd.prog 42 aL (Rv.D rLME) (λg=>rdrn_F g) pre:=res_of_side (R:=rLME) (Γ:=(MTab.gamz tabJ0 [] [])) (Λ:=noΛ) (MTab.okz tabJ0 [] []) noΛ_ok 100 default (λg=>rdrn_side g) (λg=>by kernel_rfl) (λg=>by kernel_rfl) h
end Go.Proofs.YtfkdbifgppfegaaDoor

namespace Go.Proofs.YtfkdbifgppfegaaDoor
open Go.RowKit Go.Sx
set_option maxRecDepth 100000
noncomputable def rsub_F(l:Ld)(d:Dl)(c:Int):Rv.T rLME:=
 bif chkL (Ld.mk l.workers l.stage l.ver l.cut (Dl.mk (eI.ag l.dl.drop) (eD.ag l.dl.put) (eV.ag l.dl.moves)) (eBool.ag l.voted) l.yes l.why (eN.ag l.ents))!=(0:Int)then(Ld.mk l.workers l.stage l.ver l.cut (Dl.mk (eI.ag l.dl.drop) (eD.ag l.dl.put) (eV.ag l.dl.moves)) (eBool.ag l.voted) l.yes l.why (eN.ag l.ents),Ms.mk (0:Int) (0:Int) (Place.mk (0:Int) (0:Int)) (T.mk (0:Int) (0:Int) (0:Int) (0:Int) (0:Int) (0:Int)) [] [] (Dl.mk [] [] []) (0:Int) [] false (0:Int),(213:Int))
 else bif l.stage !=(0:Int)then(Ld.mk l.workers l.stage l.ver l.cut (Dl.mk (eI.ag l.dl.drop) (eD.ag l.dl.put) (eV.ag l.dl.moves)) (eBool.ag l.voted) l.yes l.why (eN.ag l.ents),Ms.mk (0:Int) (0:Int) (Place.mk (0:Int) (0:Int)) (T.mk (0:Int) (0:Int) (0:Int) (0:Int) (0:Int) (0:Int)) [] [] (Dl.mk [] [] []) (0:Int) [] false (0:Int),(9:Int))else bif decide (c<(1:Int))||decide (c>(1073741824:Int))then(Ld.mk l.workers l.stage l.ver l.cut (Dl.mk (eI.ag l.dl.drop) (eD.ag l.dl.put) (eV.ag l.dl.moves)) (eBool.ag l.voted) l.yes l.why (eN.ag l.ents),Ms.mk (0:Int) (0:Int) (Place.mk (0:Int) (0:Int)) (T.mk (0:Int) (0:Int) (0:Int) (0:Int) (0:Int) (0:Int)) [] [] (Dl.mk [] [] []) (0:Int) [] false (0:Int),(1:Int))else bif l.ver==(1099511627776:Int)then(Ld.mk l.workers l.stage l.ver l.cut (Dl.mk (eI.ag l.dl.drop) (eD.ag l.dl.put) (eV.ag l.dl.moves)) (eBool.ag l.voted) l.yes l.why (eN.ag l.ents),Ms.mk (0:Int) (0:Int) (Place.mk (0:Int) (0:Int)) (T.mk (0:Int) (0:Int) (0:Int) (0:Int) (0:Int) (0:Int)) [] [] (Dl.mk [] [] []) (0:Int) [] false (0:Int),(8:Int))else(Ld.mk l.workers (1:Int) l.ver c (Dl.mk (eI.ag (eI.ag d.drop)) (eD.ag (eD.ag d.put)) (eV.ag (eV.ag d.moves))) (eBool.lst l.workers.toNat (zeroEl (Value.bool false))) true (0:Int) (List.map (λx=>eN.get []) (List.range (min (0:Nat) (0:Nat)))++List.map (λx=>eN.get []) (List.range (0:Nat))),Ms.mk (3:Int) l.ver (Place.mk (0:Int) (0:Int)) (T.mk (0:Int) (0:Int) (0:Int) (0:Int) (0:Int) (0:Int)) [] [] (Dl.mk (eI.ag (eI.ag d.drop)) (eD.ag (eD.ag d.put)) (eV.ag (eV.ag d.moves))) c [] false (0:Int),(0:Int))
def rsub_side(l:Ld)(d:Dl)(c:Int):Prop:=
 eI.okL l.dl.drop/\eD.okL l.dl.put/\eV.okL l.dl.moves/\eBool.okL l.voted/\eN.okL l.ents/\((chkL (Ld.mk l.workers l.stage l.ver l.cut (Dl.mk (eI.ag l.dl.drop) (eD.ag l.dl.put) (eV.ag l.dl.moves)) (eBool.ag l.voted) l.yes l.why (eN.ag l.ents))!=(0:Int))=true->eI.okL l.dl.drop/\eD.okL l.dl.put/\eV.okL l.dl.moves/\eBool.okL l.voted/\eN.okL l.ents)/\((chkL (Ld.mk l.workers l.stage l.ver l.cut (Dl.mk (eI.ag l.dl.drop) (eD.ag l.dl.put) (eV.ag l.dl.moves)) (eBool.ag l.voted) l.yes l.why (eN.ag l.ents))!=(0:Int))=false->((l.stage !=(0:Int))=true->eI.okL l.dl.drop/\eD.okL l.dl.put/\eV.okL l.dl.moves/\eBool.okL l.voted/\eN.okL l.ents)/\((l.stage !=(0:Int))=false->((decide (c<(1:Int))||decide (c>(1073741824:Int)))=true->eI.okL l.dl.drop/\eD.okL l.dl.put/\eV.okL l.dl.moves/\eBool.okL l.voted/\eN.okL l.ents)/\((decide (c<(1:Int))||decide (c>(1073741824:Int)))=false->((l.ver==(1099511627776:Int))=true->eI.okL l.dl.drop/\eD.okL l.dl.put/\eV.okL l.dl.moves/\eBool.okL l.voted/\eN.okL l.ents)/\((l.ver==(1099511627776:Int))=false->(True/\True/\(0:Nat)<=maxLen/\(0:Nat)<=(140737488355328:Nat))/\(True/\True/\(0:Nat)<=maxLen/\(0:Nat)<=(140737488355328:Nat))/\eI.okL d.drop/\eD.okL d.put/\eV.okL d.moves/\fewM (Ms.mk (0:Int) (0:Int) (Place.mk (0:Int) (0:Int)) (T.mk (0:Int) (0:Int) (0:Int) (0:Int) (0:Int) (0:Int)) [] [] (Dl.mk (eI.ag d.drop) (eD.ag d.put) (eV.ag d.moves)) (0:Int) [] false (0:Int))/\((0:Int)<=l.workers/\l.workers<=l.workers/\l.workers<=(9223372036854775807:Int)/\(1:Int)*l.workers<=(140737488355328:Int))/\eI.okL d.drop/\eD.okL d.put/\eV.okL d.moves/\fewM (Ms.mk (3:Int) l.ver (Place.mk (0:Int) (0:Int)) (T.mk (0:Int) (0:Int) (0:Int) (0:Int) (0:Int) (0:Int)) [] [] (Dl.mk (eI.ag d.drop) (eD.ag d.put) (eV.ag d.moves)) c [] false (0:Int))/\eI.okL (eI.ag d.drop)/\eD.okL (eD.ag d.put)/\eV.okL (eV.ag d.moves)/\l.workers.toNat<=l.workers.toNat/\(∀(e:Nat),e<l.workers.toNat->True)/\(0:Nat)<=(0:Nat)/\(∀(e:Nat),e<min (0:Nat) (0:Nat)->eN.OkP [])/\(∀(e:Nat),e<(0:Nat)->eN.OkP [])/\(∀(e:Nat),e<(0:Nat)->eR.Ok (eR.els [] e))/\(∀(e:Nat),e<(0:Nat)->eC.Ok (eC.els [] e))/\eI.okL (eI.ag d.drop)/\eD.okL (eD.ag d.put)/\eV.okL (eV.ag d.moves)/\∀(e:Nat),e<(0:Nat)->eN.Ok (eN.els [] e)))))
theorem rsub_okS(pre:DA.T aLDI->List Prop)(h:∀g,DA.bd aLDI g->(∀p∈pre g,p)->rsub_side g.1 g.2.1 g.2.2):FnPure Tryd.prog 40 aLDI (Rv.D rLME) (λg=>rsub_F g.1 g.2.1 g.2.2) pre:=res_of_side (R:=rLME) (Γ:=(MTab.gamz tabJ0 [] [])) (Λ:=noΛ) (MTab.okz tabJ0 [] []) noΛ_ok 100 default (λg=>rsub_side g.1 g.2.1 g.2.2) (λg=>by kernel_rfl) (λg=>by kernel_rfl) h
end Go.Proofs.YtfkdbifgppfegaaDoor

namespace Go.Proofs.YtfkdbifgppfegaaDoor
open Go.RowKit Go.Sx Go.Lp
set_option maxRecDepth 100000
def ms0:Ms:=⟨0,0,⟨0,0⟩,⟨0,0,0,0,0,0⟩,[],[],⟨[],[],[]⟩,0,[],false,0⟩
def fewL(l:Ld):Prop:=fewD l.dl/\l.voted.length<=KS/\l.ents.length<=KS
theorem zB(n:Nat):eBool.lst n (zeroEl (Value.bool false))=List.replicate n false:=by
 unfold El.lst;rw[List.eq_replicate_iff];refine⟨by simp,λb hb=>?_⟩;obtain⟨e,_,rfl⟩:=List.mem_map.1 hb;rfl
theorem ld_eta(l:Ld):Ld.mk l.workers l.stage l.ver l.cut (Dl.mk l.dl.drop l.dl.put l.dl.moves) l.voted l.yes l.why l.ents=l:=rfl
def abtS(l:Ld)(w:Int):Ld×Int:=bif chkL l !=0 then(l,chkL l)else bif l.stage==0||l.stage==4 then(l,212)else bif w==0 then(l,1)else(⟨l.workers,bif l.stage==2 then 4 else l.stage,l.ver,l.cut,l.dl,l.voted,false,bif l.yes then w else l.why,[]⟩,0)
def drnS(l:Ld):Ld×Ms×Int:=bif chkL l !=0 then(l,ms0,chkL l)else bif l.stage !=2 then(l,ms0,212)else(⟨l.workers,3,l.ver,l.cut,l.dl,List.replicate l.workers.toNat false,l.yes,l.why,l.ents⟩,⟨4,l.ver,⟨0,0⟩,⟨0,0,0,0,0,0⟩,[],[],⟨[],[],[]⟩,0,[],false,0⟩,0)
def subS(l:Ld)(d:Dl)(c:Int):Ld×Ms×Int:=bif chkL l !=0 then(l,ms0,213)else bif l.stage !=0 then(l,ms0,9)else bif decide (c<1)||decide (c>1073741824)then(l,ms0,1)else bif l.ver==1099511627776 then(l,ms0,8)else(⟨l.workers,1,l.ver,c,d,List.replicate l.workers.toNat false,true,0,[]⟩,⟨3,l.ver,⟨0,0⟩,⟨0,0,0,0,0,0⟩,[],[],d,c,[],false,0⟩,0)
theorem abt_eq(l:Ld)(w:Int):abt_F l w=abtS l w:=by
 unfold abt_F abtS;simp only[El.ag_eq,Bool.not_and_self]
theorem rabt_eq(l:Ld)(w:Int):rabt_F l w=abtS l w:=by
 unfold rabt_F abtS;simp only[El.ag_eq,clE]
theorem drn_eq(l:Ld):drn_F l=drnS l:=by
 unfold drn_F drnS;simp only[El.ag_eq,zB];rfl
theorem rdrn_eq(l:Ld):rdrn_F l=drnS l:=by
 unfold rdrn_F drnS;simp only[El.ag_eq,clE,zB];rfl
theorem rsub_eq(l:Ld)(d:Dl)(c:Int):rsub_F l d c=subS l d c:=by
 unfold rsub_F subS;simp only[El.ag_eq,clE,zB];rfl
theorem byB(h:4<Tryd.prog.types.size):(Tryd.prog.types[(4:Nat)]'h).bytes=1:=by kernel_rfl
theorem chk_work{l:Ld}(h:(chkL l !=0)=false):1<=l.workers/\l.workers<=16:=by
 have h:chkL l=0:=by simpa using h
 unfold chkL chkB at h;cases hr:rgB l with
 |true=>have:=of_decide_eq_true hr;exact⟨this.1,this.2.1⟩
 |false=>rw[hr]at h;cases h
theorem few_dl{d:Dl}(h:fewD d)(a b:Int)(p:Place)(t:T)(c:Int)(y:Bool)(w:Int):fewM ⟨a,b,p,t,[],[],⟨d.drop,d.put,d.moves⟩,c,[],y,w⟩:=⟨Nat.zero_le _,Nat.zero_le _,Nat.zero_le _,h⟩
theorem few_by{n:Nat}(h:n<=KS)(k:Nat)(hk:k<=100):0+n<=maxLen/\(0+n)*k<=140737488355328:=by
 unfold KS at h;have h1:(0+n)*k<=1000000*100:=Nat.mul_le_mul (by omega) hk;unfold maxLen;omega
theorem few_wk{l:Ld}(h:(chkL l !=0)=false):0<=l.workers/\l.workers<=l.workers/\l.workers<=9223372036854775807/\1*l.workers<=140737488355328:=by
 have:=chk_work h;omega
theorem abt_si(l:Ld)(w:Int)(h:fewL l):abt_side l w:=by
 obtain⟨h1,h2,h3⟩:=h;unfold abt_side;simp only[El.okL_eq,El.ag_eq,ld_eta,implies_true,true_and,and_true,h2,h3,Nat.le_refl];exactλ_ _ _=>few_dl h1 ..
theorem drn_si(l:Ld)(h:fewL l):drn_side l:=by
 obtain⟨h1,h2,h3⟩:=h;unfold drn_side;simp only[El.okL_eq,El.ag_eq,ld_eta,implies_true,true_and,and_true,h2,h3,Nat.le_refl];intro hc _;simp only[few_wk hc,and_self,implies_true,and_true];exact few_dl h1 ..
theorem rabt_si(l:Ld)(w:Int)(h:fewL l):rabt_side l w:=by
 obtain⟨h1,h2,h3⟩:=h;unfold rabt_side;simp only[El.okL_eq,El.ag_eq,ld_eta,implies_true,true_and,and_true,El.one_els,byB,byN,Nat.le_refl];exactλ_ _ _=>⟨few_by h2 _ (by decide),few_by h3 _ (by decide),few_dl h1 ..,λe he=>absurd he (by omega)⟩
theorem rdrn_si(l:Ld)(h:fewL l):rdrn_side l:=by
 obtain⟨h1,h2,h3⟩:=h;unfold rdrn_side;simp only[El.okL_eq,El.ag_eq,ld_eta,implies_true,true_and,and_true,El.one_els,byB,byN,Nat.le_refl];exactλhc _=>⟨few_by h2 _ (by decide),few_by h3 _ (by decide),few_dl h1 ..,few_wk hc,λe he=>absurd he (by omega)⟩
theorem rsub_si(l:Ld)(d:Dl)(c:Int)(hd:fewD d):rsub_side l d c:=by
 unfold rsub_side;simp only[El.okL_eq,El.ag_eq,ld_eta,implies_true,true_and,and_true,Nat.le_refl];exactλhc _ _ _=>⟨⟨by decide,by decide⟩,⟨by decide,by decide⟩,few_dl hd ..,few_wk hc,few_dl hd ..,λe he=>absurd he (by omega),λe he=>absurd he (by omega),λe he=>absurd he (by omega),λe he=>absurd he (by omega),λe he=>absurd he (by omega)⟩
theorem abt_ok:FnPure Tryd.prog 37 aLI dLE (λg=>abtS g.1 g.2) (λg=>[fewL g.1]):=
 pure_congr (abt_okS _ λg _ hp=>abt_si g.1 g.2 (hp _ (List.mem_cons_self ..))) λg _ _=>abt_eq g.1 g.2
theorem rabt_ok:FnPure Tryd.prog 43 aLI dLE (λg=>abtS g.1 g.2) (λg=>[fewL g.1]):=
 pure_congr (rabt_okS _ λg _ hp=>rabt_si g.1 g.2 (hp _ (List.mem_cons_self ..))) λg _ _=>rabt_eq g.1 g.2
theorem drn_ok:FnPure Tryd.prog 27 aL dLME drnS (λg=>[fewL g]):=
 pure_congr (drn_okS _ λg _ hp=>drn_si g (hp _ (List.mem_cons_self ..))) λg _ _=>drn_eq g
theorem rdrn_ok:FnPure Tryd.prog 42 aL dLME drnS (λg=>[fewL g]):=
 pure_congr (rdrn_okS _ λg _ hp=>rdrn_si g (hp _ (List.mem_cons_self ..))) λg _ _=>rdrn_eq g
theorem rsub_ok:FnPure Tryd.prog 40 aLDI dLME (λg=>subS g.1 g.2.1 g.2.2) (λg=>[fewD g.2.1]):=
 pure_congr (rsub_okS _ λg _ hp=>rsub_si g.1 g.2.1 g.2.2 (hp _ (List.mem_cons_self ..))) λg _ _=>rsub_eq g.1 g.2.1 g.2.2
end Go.Proofs.YtfkdbifgppfegaaDoor

namespace Go.Proofs.YtfkdbifgppfegaaDoor
open Go.RowKit Go.Sx Go.Lp
theorem lcn_ok:FnPure Tryd.prog 54 aL dL (λl=>l) (λl=>[fewL l]):=by
 refine pure_congr (lcn_okS (λl=>[fewL l]) λl _ hp=>?_) λl _ _=>?_
 .obtain⟨h1,h2,h3⟩:fewL l:=hp _ (List.mem_cons_self ..);unfold lcn_side;simp only[El.okL_eq,El.ag_eq,ld_eta,implies_true,true_and,and_true,h2,h3,Nat.le_refl];exact few_dl h1 ..
 .show lcn_F l=l;unfold lcn_F;simp only[El.ag_eq]
noncomputable def tabJ9:MTab Tryd.prog:=(MTab.of tabJ0p).consM 54 (fconG aL dL (λl=>l) (λl=>[fewL l])) (fconG_ok lcn_ok)
end Go.Proofs.YtfkdbifgppfegaaDoor

namespace Go.Proofs.YtfkdbifgppfegaaDoor
open Go.RowKit Go.Sx
set_option maxRecDepth 100000
noncomputable def sub_F(l:Ld)(d:Dl)(c:Int):Rv.T rLME:=
 bif chkL (Ld.mk l.workers l.stage l.ver l.cut (Dl.mk (eI.ag l.dl.drop) (eD.ag l.dl.put) (eV.ag l.dl.moves)) (eBool.ag l.voted) l.yes l.why (eN.ag l.ents))!=(0:Int)then(Ld.mk l.workers l.stage l.ver l.cut (Dl.mk (eI.ag l.dl.drop) (eD.ag l.dl.put) (eV.ag l.dl.moves)) (eBool.ag l.voted) l.yes l.why (eN.ag l.ents),Ms.mk (0:Int) (0:Int) (Place.mk (0:Int) (0:Int)) (T.mk (0:Int) (0:Int) (0:Int) (0:Int) (0:Int) (0:Int)) [] [] (Dl.mk [] [] []) (0:Int) [] false (0:Int),chkL (Ld.mk l.workers l.stage l.ver l.cut (Dl.mk (eI.ag l.dl.drop) (eD.ag l.dl.put) (eV.ag l.dl.moves)) (eBool.ag l.voted) l.yes l.why (eN.ag l.ents)))
 else bif l.stage !=(0:Int)then(Ld.mk l.workers l.stage l.ver l.cut (Dl.mk (eI.ag l.dl.drop) (eD.ag l.dl.put) (eV.ag l.dl.moves)) (eBool.ag l.voted) l.yes l.why (eN.ag l.ents),Ms.mk (0:Int) (0:Int) (Place.mk (0:Int) (0:Int)) (T.mk (0:Int) (0:Int) (0:Int) (0:Int) (0:Int) (0:Int)) [] [] (Dl.mk [] [] []) (0:Int) [] false (0:Int),(9:Int))else bif decide (c<(1:Int))||decide (c>(1073741824:Int))then(Ld.mk l.workers l.stage l.ver l.cut (Dl.mk (eI.ag l.dl.drop) (eD.ag l.dl.put) (eV.ag l.dl.moves)) (eBool.ag l.voted) l.yes l.why (eN.ag l.ents),Ms.mk (0:Int) (0:Int) (Place.mk (0:Int) (0:Int)) (T.mk (0:Int) (0:Int) (0:Int) (0:Int) (0:Int) (0:Int)) [] [] (Dl.mk [] [] []) (0:Int) [] false (0:Int),(1:Int))else bif l.ver==(1099511627776:Int)then(Ld.mk l.workers l.stage l.ver l.cut (Dl.mk (eI.ag l.dl.drop) (eD.ag l.dl.put) (eV.ag l.dl.moves)) (eBool.ag l.voted) l.yes l.why (eN.ag l.ents),Ms.mk (0:Int) (0:Int) (Place.mk (0:Int) (0:Int)) (T.mk (0:Int) (0:Int) (0:Int) (0:Int) (0:Int) (0:Int)) [] [] (Dl.mk [] [] []) (0:Int) [] false (0:Int),(8:Int))else(Ld.mk l.workers (1:Int) l.ver c (Dl.mk (eI.ag (eI.ag d.drop)) (eD.ag (eD.ag d.put)) (eV.ag (eV.ag d.moves))) (eBool.ag (eBool.lst l.workers.toNat (zeroEl (Value.bool false)))) true (0:Int) [],Ms.mk (3:Int) l.ver (Place.mk (0:Int) (0:Int)) (T.mk (0:Int) (0:Int) (0:Int) (0:Int) (0:Int) (0:Int)) [] [] (Dl.mk (eI.ag (eI.ag d.drop)) (eD.ag (eD.ag d.put)) (eV.ag (eV.ag d.moves))) c [] false (0:Int),(0:Int))
def sub_side(l:Ld)(d:Dl)(c:Int):Prop:=
 eI.okL l.dl.drop/\eD.okL l.dl.put/\eV.okL l.dl.moves/\eBool.okL l.voted/\eN.okL l.ents/\((chkL (Ld.mk l.workers l.stage l.ver l.cut (Dl.mk (eI.ag l.dl.drop) (eD.ag l.dl.put) (eV.ag l.dl.moves)) (eBool.ag l.voted) l.yes l.why (eN.ag l.ents))!=(0:Int))=true->eI.okL l.dl.drop/\eD.okL l.dl.put/\eV.okL l.dl.moves/\eBool.okL l.voted/\eN.okL l.ents)/\((chkL (Ld.mk l.workers l.stage l.ver l.cut (Dl.mk (eI.ag l.dl.drop) (eD.ag l.dl.put) (eV.ag l.dl.moves)) (eBool.ag l.voted) l.yes l.why (eN.ag l.ents))!=(0:Int))=false->((l.stage !=(0:Int))=true->eI.okL l.dl.drop/\eD.okL l.dl.put/\eV.okL l.dl.moves/\eBool.okL l.voted/\eN.okL l.ents)/\((l.stage !=(0:Int))=false->((decide (c<(1:Int))||decide (c>(1073741824:Int)))=true->eI.okL l.dl.drop/\eD.okL l.dl.put/\eV.okL l.dl.moves/\eBool.okL l.voted/\eN.okL l.ents)/\((decide (c<(1:Int))||decide (c>(1073741824:Int)))=false->((l.ver==(1099511627776:Int))=true->eI.okL l.dl.drop/\eD.okL l.dl.put/\eV.okL l.dl.moves/\eBool.okL l.voted/\eN.okL l.ents)/\((l.ver==(1099511627776:Int))=false->∀(cs:List Nat),(cs.isEmpty=true->∀(cs:List Nat),(cs.isEmpty=true->((0:Int)<=l.workers/\l.workers<=l.workers/\l.workers<=(9223372036854775807:Int)/\(1:Int)*l.workers<=(140737488355328:Int))/\l.workers.toNat<=l.workers.toNat/\eI.okL d.drop/\eD.okL d.put/\eV.okL d.moves/\(∀(e:Nat),e<l.workers.toNat->eBool.Ok ((ElE.fn (zeroEl (Value.bool false))).at e))/\fewL (Ld.mk l.workers (1:Int) l.ver c (Dl.mk (eI.ag d.drop) (eD.ag d.put) (eV.ag d.moves)) (eBool.lst l.workers.toNat (zeroEl (Value.bool false))) true (0:Int) [])/\eI.okL d.drop/\eD.okL d.put/\eV.okL d.moves/\fewM (Ms.mk (3:Int) l.ver (Place.mk (0:Int) (0:Int)) (T.mk (0:Int) (0:Int) (0:Int) (0:Int) (0:Int) (0:Int)) [] [] (Dl.mk (eI.ag d.drop) (eD.ag d.put) (eV.ag d.moves)) c [] false (0:Int))/\eI.okL (eI.ag d.drop)/\eD.okL (eD.ag d.put)/\eV.okL (eV.ag d.moves)/\eBool.okL (eBool.lst l.workers.toNat (zeroEl (Value.bool false)))/\(∀(e:Nat),e<(0:Nat)->eN.Ok (eN.els [] e))/\(∀(e:Nat),e<(0:Nat)->eR.Ok (eR.els [] e))/\(∀(e:Nat),e<(0:Nat)->eC.Ok (eC.els [] e))/\eI.okL (eI.ag d.drop)/\eD.okL (eD.ag d.put)/\eV.okL (eV.ag d.moves)/\(∀(e:Nat),e<(0:Nat)->eN.Ok (eN.els [] e))/\∀(d_1:Ld×Ms×Int),(Ld.mk l.workers (1:Int) l.ver c (Dl.mk (eI.ag (eI.ag d.drop)) (eD.ag (eD.ag d.put)) (eV.ag (eV.ag d.moves))) (eBool.ag (eBool.lst l.workers.toNat (zeroEl (Value.bool false)))) true (0:Int) [],Ms.mk (3:Int) l.ver (Place.mk (0:Int) (0:Int)) (T.mk (0:Int) (0:Int) (0:Int) (0:Int) (0:Int) (0:Int)) [] [] (Dl.mk (eI.ag (eI.ag d.drop)) (eD.ag (eD.ag d.put)) (eV.ag (eV.ag d.moves))) c [] false (0:Int),(0:Int))=(Ld.mk l.workers (1:Int) l.ver c (Dl.mk (eI.ag (eI.ag d.drop)) (eD.ag (eD.ag d.put)) (eV.ag (eV.ag d.moves))) (eBool.ag (eBool.lst l.workers.toNat (zeroEl (Value.bool false)))) true (0:Int) [],Ms.mk (3:Int) l.ver (Place.mk (0:Int) (0:Int)) (T.mk (0:Int) (0:Int) (0:Int) (0:Int) (0:Int) (0:Int)) [] [] (Dl.mk (eI.ag (eI.ag d.drop)) (eD.ag (eD.ag d.put)) (eV.ag (eV.ag d.moves))) c [] false (0:Int),(0:Int)))/\(cs.isEmpty=false->((0:Int)<=l.workers/\l.workers<=l.workers/\l.workers<=(9223372036854775807:Int)/\(1:Int)*l.workers<=(140737488355328:Int))/\l.workers.toNat<=l.workers.toNat/\eI.okL d.drop/\eD.okL d.put/\eV.okL d.moves/\(∀(e:Nat),e<l.workers.toNat->eBool.Ok ((ElE.fn (zeroEl (Value.bool false))).at e))/\fewL (Ld.mk l.workers (1:Int) l.ver c (Dl.mk (eI.ag d.drop) (eD.ag d.put) (eV.ag d.moves)) (eBool.lst l.workers.toNat (zeroEl (Value.bool false))) true (0:Int) [])/\eI.okL d.drop/\eD.okL d.put/\eV.okL d.moves/\fewM (Ms.mk (3:Int) l.ver (Place.mk (0:Int) (0:Int)) (T.mk (0:Int) (0:Int) (0:Int) (0:Int) (0:Int) (0:Int)) [] [] (Dl.mk (eI.ag d.drop) (eD.ag d.put) (eV.ag d.moves)) c [] false (0:Int))/\eI.okL (eI.ag d.drop)/\eD.okL (eD.ag d.put)/\eV.okL (eV.ag d.moves)/\eBool.okL (eBool.lst l.workers.toNat (zeroEl (Value.bool false)))/\(∀(e:Nat),e<(0:Nat)->eN.Ok (eN.els [] e))/\(∀(e:Nat),e<(0:Nat)->eR.Ok (eR.els [] e))/\(∀(e:Nat),e<(0:Nat)->eC.Ok (eC.els [] e))/\eI.okL (eI.ag d.drop)/\eD.okL (eD.ag d.put)/\eV.okL (eV.ag d.moves)/\(∀(e:Nat),e<(0:Nat)->eN.Ok (eN.els [] e))/\∀(d_1:Ld×Ms×Int),(Ld.mk l.workers (1:Int) l.ver c (Dl.mk (eI.ag (eI.ag d.drop)) (eD.ag (eD.ag d.put)) (eV.ag (eV.ag d.moves))) (eBool.ag (eBool.lst l.workers.toNat (zeroEl (Value.bool false)))) true (0:Int) [],Ms.mk (3:Int) l.ver (Place.mk (0:Int) (0:Int)) (T.mk (0:Int) (0:Int) (0:Int) (0:Int) (0:Int) (0:Int)) [] [] (Dl.mk (eI.ag (eI.ag d.drop)) (eD.ag (eD.ag d.put)) (eV.ag (eV.ag d.moves))) c [] false (0:Int),(0:Int))=(Ld.mk l.workers (1:Int) l.ver c (Dl.mk (eI.ag (eI.ag d.drop)) (eD.ag (eD.ag d.put)) (eV.ag (eV.ag d.moves))) (eBool.ag (eBool.lst l.workers.toNat (zeroEl (Value.bool false)))) true (0:Int) [],Ms.mk (3:Int) l.ver (Place.mk (0:Int) (0:Int)) (T.mk (0:Int) (0:Int) (0:Int) (0:Int) (0:Int) (0:Int)) [] [] (Dl.mk (eI.ag (eI.ag d.drop)) (eD.ag (eD.ag d.put)) (eV.ag (eV.ag d.moves))) c [] false (0:Int),(0:Int))))/\(cs.isEmpty=false->((0:Int)<=l.workers/\l.workers<=l.workers/\l.workers<=(9223372036854775807:Int)/\(1:Int)*l.workers<=(140737488355328:Int))/\l.workers.toNat<=l.workers.toNat/\eI.okL d.drop/\eD.okL d.put/\eV.okL d.moves/\(∀(e:Nat),e<l.workers.toNat->eBool.Ok ((ElE.fn (zeroEl (Value.bool false))).at e))/\fewL (Ld.mk l.workers (1:Int) l.ver c (Dl.mk (eI.ag d.drop) (eD.ag d.put) (eV.ag d.moves)) (eBool.lst l.workers.toNat (zeroEl (Value.bool false))) true (0:Int) [])/\eI.okL d.drop/\eD.okL d.put/\eV.okL d.moves/\fewM (Ms.mk (3:Int) l.ver (Place.mk (0:Int) (0:Int)) (T.mk (0:Int) (0:Int) (0:Int) (0:Int) (0:Int) (0:Int)) [] [] (Dl.mk (eI.ag d.drop) (eD.ag d.put) (eV.ag d.moves)) c [] false (0:Int))/\eI.okL (eI.ag d.drop)/\eD.okL (eD.ag d.put)/\eV.okL (eV.ag d.moves)/\eBool.okL (eBool.lst l.workers.toNat (zeroEl (Value.bool false)))/\(∀(e:Nat),e<(0:Nat)->eN.Ok (eN.els [] e))/\(∀(e:Nat),e<(0:Nat)->eR.Ok (eR.els [] e))/\(∀(e:Nat),e<(0:Nat)->eC.Ok (eC.els [] e))/\eI.okL (eI.ag d.drop)/\eD.okL (eD.ag d.put)/\eV.okL (eV.ag d.moves)/\(∀(e:Nat),e<(0:Nat)->eN.Ok (eN.els [] e))/\∀(d_1:Ld×Ms×Int),(Ld.mk l.workers (1:Int) l.ver c (Dl.mk (eI.ag (eI.ag d.drop)) (eD.ag (eD.ag d.put)) (eV.ag (eV.ag d.moves))) (eBool.ag (eBool.lst l.workers.toNat (zeroEl (Value.bool false)))) true (0:Int) [],Ms.mk (3:Int) l.ver (Place.mk (0:Int) (0:Int)) (T.mk (0:Int) (0:Int) (0:Int) (0:Int) (0:Int) (0:Int)) [] [] (Dl.mk (eI.ag (eI.ag d.drop)) (eD.ag (eD.ag d.put)) (eV.ag (eV.ag d.moves))) c [] false (0:Int),(0:Int))=(Ld.mk l.workers (1:Int) l.ver c (Dl.mk (eI.ag (eI.ag d.drop)) (eD.ag (eD.ag d.put)) (eV.ag (eV.ag d.moves))) (eBool.ag (eBool.lst l.workers.toNat (zeroEl (Value.bool false)))) true (0:Int) [],Ms.mk (3:Int) l.ver (Place.mk (0:Int) (0:Int)) (T.mk (0:Int) (0:Int) (0:Int) (0:Int) (0:Int) (0:Int)) [] [] (Dl.mk (eI.ag (eI.ag d.drop)) (eD.ag (eD.ag d.put)) (eV.ag (eV.ag d.moves))) c [] false (0:Int),(0:Int)))))))
theorem sub_okS(pre:DA.T aLDI->List Prop)(h:∀g,DA.bd aLDI g->(∀p∈pre g,p)->sub_side g.1 g.2.1 g.2.2):FnPure Tryd.prog 25 aLDI (Rv.D rLME) (λg=>sub_F g.1 g.2.1 g.2.2) pre:=res_of_side (R:=rLME) (Γ:=(MTab.gamz tabJ9 [(5000000,0)] [])) (Λ:=noΛ) (MTab.okz tabJ9 [(5000000,0)] []) noΛ_ok 100 default (λg=>sub_side g.1 g.2.1 g.2.2) (λg=>by kernel_rfl) (λg=>by kernel_rfl) h
end Go.Proofs.YtfkdbifgppfegaaDoor

namespace Go.Proofs.YtfkdbifgppfegaaDoor
open Go.RowKit Go.Sx Go.Lp
set_option maxRecDepth 100000
theorem cond_213(z:Bool)(h:(bif z then(0:Int)else 213)≠0):(bif z then(0:Int)else 213)=213:=by
 cases z
 .rfl
 .exact absurd rfl h
theorem chk_213{l:Ld}(h:(chkL l !=0)=true):chkL l=213:=by
 have h:chkL l≠0:=by simpa using h
 exact cond_213 _ h
theorem sub_eq(l:Ld)(d:Dl)(c:Int):sub_F l d c=subS l d c:=by
 unfold sub_F subS;simp only[El.ag_eq,zB,ld_eta];cases h:(chkL l !=0)with
 |true=>rw[cond_true,cond_true,chk_213 h];rfl
 |false=>rfl
theorem sub_si(l:Ld)(d:Dl)(c:Int)(hd:fewD d):sub_side l d c:=by
 unfold sub_side;simp only[El.okL_eq,El.ag_eq,zB,ld_eta,implies_true,true_and,and_true,Nat.le_refl];intro hc _ _ _;have hw:=chk_work hc
 have hl:∀(A B C D:Int),fewL ⟨l.workers,A,B,C,⟨d.drop,d.put,d.moves⟩,List.replicate l.workers.toNat false,true,D,[]⟩:=λ_ _ _ _=>⟨hd,by
  show(List.replicate l.workers.toNat false).length<=KS;unfold KS;rw[List.length_replicate];omega,Nat.zero_le _⟩
 have hz:∀e:Nat,e<l.workers.toNat->eBool.Ok ((ElE.fn (zeroEl (Value.bool false))).at e):=λe _=>⟨false,[],rfl,by simp⟩;have L:=And.intro (few_wk hc) (And.intro hz (And.intro (hl 1 l.ver c 0) (And.intro (few_dl hd 3 l.ver ⟨0,0⟩ ⟨0,0,0,0,0,0⟩ c false 0) (And.intro (λe(he:e<0)=>absurd he (Nat.not_lt_zero e):∀e:Nat,e<0->eN.Ok (eN.els [] e)) (And.intro (λe(he:e<0)=>absurd he (Nat.not_lt_zero e):∀e:Nat,e<0->eR.Ok (eR.els [] e)) (And.intro (λe(he:e<0)=>absurd he (Nat.not_lt_zero e):∀e:Nat,e<0->eC.Ok (eC.els [] e)) (λe(he:e<0)=>absurd he (Nat.not_lt_zero e):∀e:Nat,e<0->eN.Ok (eN.els [] e))))))));exactλcs=>⟨λ_ cs=>⟨λ_=>L,λ_=>L⟩,λ_=>L⟩
theorem sub_ok:FnPure Tryd.prog 25 aLDI dLME (λg=>subS g.1 g.2.1 g.2.2) (λg=>[fewD g.2.1]):=
 pure_congr (sub_okS _ λg _ hp=>sub_si g.1 g.2.1 g.2.2 (hp _ (List.mem_cons_self ..))) λg _ _=>sub_eq g.1 g.2.1 g.2.2
end Go.Proofs.YtfkdbifgppfegaaDoor

namespace Go.Proofs.YtfkdbifgppfegaaDoor
open Go.RowKit Go.Sx
set_option maxRecDepth 100000
abbrev vl_G:Type:=BA×Int×Bool
noncomputable def vl_LP:LP 0 vl_G:=.pair (.slot 0 0 dStr) (.pair (.slot 0 3 dI) (.slot 0 2 dBool))
noncomputable def vl_R(s:BA)(i:Int)(r:Bool):Ex×vl_G:=
 bif decide (i<(↑(ByteArray.size s):Int))then bif widZ s i.toNat==(0:Int)then(Ex.ret,s,i,false)else(Ex.normal,s,IntKind.i64.wrap (i+widZ s i.toNat),r)
 else(Ex.exit (0:Nat),s,i,r)
def vl_side(s:BA)(i:Int)(r:Bool):Prop:=
 decide (i<(↑(ByteArray.size s):Int))=true->((0:Int)<=i/\i<(↑(ByteArray.size s):Int))/\ByteArray.size s<=KB
theorem vl_one:((loopsOf Tryd.prog 116).filter λc=>Nat.beq (lkey c) 2).length=1:=by kernel_rfl
theorem vl_es(g:vl_G):(vl_R g.1 g.2.1 g.2.2).1=.normal\/(vl_R g.1 g.2.1 g.2.2).1∈([.ret,.exit 0]:List Ex):=by
 unfold vl_R
 repeat' (first|(left;rfl)|(right;simp only[cond_true,cond_false];simp;done)|(rw[Bool.cond_eq_ite];split))
noncomputable abbrev vl_C(Inv:vl_G->List Prop)(m:vl_G->Nat):LCon:=loopR [.ret,.exit 0] (loopBody Tryd.prog 116 2) vl_LP [] 17 Inv (λg=>vl_R g.1 g.2.1 g.2.2) m
theorem vl_loop(Inv:vl_G->List Prop)(m:vl_G->Nat)(hs:∀g,allP (Inv g)->vl_side g.1 g.2.1 g.2.2)(hg:Goes (λg:vl_G=>vl_R g.1 g.2.1 g.2.2) m λg=>allP (Inv g)):∀b∈loopsOf Tryd.prog 116,lkey b=2->LoopOk Tryd.prog b (vl_C Inv m).g:=loop_run (Γ:=(PTab.gamz tabB1 [] [])) (Λ:=noΛ) (PTab.okz tabB1 [] []) noΛ_ok 100 116 2 17 vl_LP [] Inv (λg=>vl_R g.1 g.2.1 g.2.2) (λg=>vl_side g.1 g.2.1 g.2.2) m default [.ret,.exit 0] vl_one (λrd T B HL HB ds g=>by kernel_rfl) (λrd T B HL HB ds g=>by kernel_rfl) hs hg vl_es
end Go.Proofs.YtfkdbifgppfegaaDoor

namespace Go.Proofs.YtfkdbifgppfegaaDoor
open Go.RowKit Go.Sx Go.Lp
abbrev toL(s:BA):List UInt8:=s.data.toList
def badD(d:Nat×Nat):Bool:=d.1==65533&&d.2==1
theorem badD_iff(d:Nat×Nat):badD d=true↔d.1=65533/\d.2=1:=by unfold badD;simp
def validS(s:BA):Bool:=Lib.validD (toL s)
theorem validL_step(l:List UInt8)(hne:l≠[]):Lib.validD l=bif badD (Lib.decodeL l)then false else Lib.validD (l.drop (Lib.decodeL l).2):=by
 rw[Lib.validD_step l hne];cases h:badD (Lib.decodeL l)with
 |true=>rw[if_pos ((badD_iff _).1 h)];rfl
 |false=>rw[if_neg λhc=>by rw[(badD_iff _).2 hc]at h;cases h];rfl
theorem widZ_bad(s:BA)(p:Nat):widZ s p=bif badD (Utf8.decode s p)then 0 else((Utf8.decode s p).2:Int):=by
 unfold widZ;cases h:badD (Utf8.decode s p)with
 |true=>rw[if_pos ((badD_iff _).1 h)];rfl
 |false=>rw[if_neg λhc=>by rw[(badD_iff _).2 hc]at h;cases h];rfl
theorem widZ_zero(s:BA)(p:Nat):(widZ s p==(0:Int))=badD (Utf8.decode s p):=by
 rw[widZ_bad];have:=Lib.width_pos s p;cases badD (Utf8.decode s p)with
 |true=>rfl
 |false=>
  simp only[cond_false];rw[beq_eq_false_iff_ne];omega
def vl_mk(p:Nat)(s:BA)(r:Bool):vl_G:=(s,(p:Int),r)
def vl_st(s:BA)(r:Bool)(p:Nat)(d:Nat×Nat):Ex×Bool:=bif badD d then(.ret,false)else(.normal,r)
noncomputable abbrev vl_I(g:vl_G):List Prop:=txI (λs:BA=>s) (λs _ _=>s.size<=KB) vl_mk g
noncomputable abbrev vl_M(g:vl_G):Nat:=g.1.size-g.2.1.toNat
theorem vl_F(p:Nat)(s:BA)(r:Bool)(hp:p<=s.size)(hs:s.size<=KB):vl_R s (p:Int) r=txR 0 (λs:BA=>s) vl_st false vl_mk p s r:=by
 unfold KB at hs;unfold vl_R txR vl_st vl_mk;by_cases h:p<s.size
 .have he:=dec_end s p h;rw[decide_eq_true (by omega),if_pos h,Int.toNat_natCast,widZ_zero,cond_true,widZ_bad];cases badD (Utf8.decode s p)with
  |true=>rfl
  |false=>
   simp only[cond_false];rw[wrS (by omega)];rfl
 .rw[decide_eq_false (by omega),if_neg h];rfl
theorem vl_ok:∀b∈loopsOf Tryd.prog 116,lkey b=2->LoopOk Tryd.prog b (vl_C vl_I vl_M).g:=
 vl_loop vl_I vl_M (λg hi=>by
  obtain⟨p,s,r,rfl,h1,h2⟩:=hi _ (List.mem_cons_self ..);intro h;have h':=of_decide_eq_true h;simp only[vl_mk]at h' ⊢;exact⟨by omega,h2⟩) (tx_goes (λp s r=>by simp[vl_M,vl_mk]) (λp s r h1 h2=>vl_F p s r h1 h2) (λs r p h1 _ _=>h1))
theorem vl_scan:∀(l:List UInt8)(s:BA)(p:Nat)(r:Bool),((scanT 0 false (vl_st s) p (rsL l) r).1,(scanT 0 false (vl_st s) p (rsL l) r).2.2)=if Lib.validD l=true then(.exit 0,r)else(.ret,false):=by
 refine rsL_ind (λs p r=>rfl) λl hne ih s p r=>?_;rw[rsL_step l hne,validL_step l hne];simp only[scanT,vl_st];cases badD (Lib.decodeL l)with
 |true=>rfl
 |false=>exact ih s _ r
theorem vl_run(s:BA)(r:Bool)(hs:s.size<=KB):(loopF (λg:vl_G=>vl_R g.1 g.2.1 g.2.2) vl_M (s,(0:Int),r)).1=(if validS s=true then .exit 0 else .ret)/\(loopF (λg:vl_G=>vl_R g.1 g.2.1 g.2.2) vl_M (s,(0:Int),r)).2.2.2=(if validS s=true then r else false):=by
 have h:=tx_run (F:=λg:vl_G=>vl_R g.1 g.2.1 g.2.2) (m:=vl_M) (mk:=vl_mk) (x:=0) (adv:=false) (step:=vl_st) (P:=λs _ _=>s.size<=KB) (tx:=λs:BA=>s) (λp s r=>by simp[vl_M,vl_mk]) (λp s r h1 h2=>vl_F p s r h1 h2) (λs r p h1 _ _=>h1) s.size 0 s r (Nat.zero_le _) hs (Nat.sub_le _ _);have e:vl_mk 0 s r=(s,(0:Int),r):=rfl;rw[e]at h;rw[h,List.drop_zero];have h2:=vl_scan (toL s) s 0 r;unfold validS;simp only[vl_mk];by_cases hv:Lib.validD (toL s)=true
 .rw[if_pos hv]at h2 ⊢;simp only[Prod.mk.injEq]at h2;rw[if_pos hv];exact h2
 .rw[if_neg hv]at h2 ⊢;simp only[Prod.mk.injEq]at h2;rw[if_neg hv];exact h2
noncomputable def ltB3:LTab Tryd.prog:=(LTab.nil.cons 116 2 (vl_C vl_I vl_M) vl_ok)
noncomputable abbrev lamB3:Lam:=ltB3.lam
theorem lamB3_ok:∀f k L,lamB3 f k=some L->∀b∈loopsOf Tryd.prog f,lkey b=k->LoopOk Tryd.prog b L.g:=ltB3.ok
end Go.Proofs.YtfkdbifgppfegaaDoor

namespace Go.Proofs.YtfkdbifgppfegaaDoor
open Go.RowKit Go.Sx
set_option maxRecDepth 100000
noncomputable def vld_q1(s:BA):Ex×vl_G:=
 loopF (λg=>vl_R g.fst g.snd.fst g.snd.snd) vl_M (s,(0:Int),false)
noncomputable def vld_F(s:BA):Dv.T dBool:=
 bif exB Ex.ret (vld_q1 s).fst then(vld_q1 s).snd.snd.snd else true
def vld_side(s:BA):Prop:=
 ∃p c b,(s,(0:Int),false)=vl_mk p c b/\p<=ByteArray.size c/\ByteArray.size c<=KB
theorem vld_okS(pre:DA.T aB->List Prop)(h:∀g,DA.bd aB g->(∀p∈pre g,p)->vld_side g):FnPure Tryd.prog 116 aB dBool (λg=>vld_F g) pre:=pure_of_sideS (Γ:=(PTab.gamz tabB1 [] [])) (Λ:=lamB3) (PTab.okz tabB1 [] []) lamB3_ok 100 default (λg=>vld_side g) (λg=>by kernel_rfl) (λg=>by kernel_rfl) h
noncomputable def tabB4:PTab Tryd.prog:=tabB1
end Go.Proofs.YtfkdbifgppfegaaDoor

namespace Go.Proofs.YtfkdbifgppfegaaDoor
open Go.RowKit Go.Sx Go.Lp
theorem vld_ok:FnPure Tryd.prog 116 aB dBool validS (λs=>[s.size<=KB]):=
 pure_congr (vld_okS _ λs _ hp=>⟨0,s,false,rfl,Nat.zero_le _,hp _ (List.mem_cons_self ..)⟩) λs _ hp=>by
  obtain⟨h1,h2⟩:=vl_run s false (hp _ (List.mem_cons_self ..));show(bif exB Ex.ret (vld_q1 s).1 then(vld_q1 s).2.2.2 else true)=_;have e1:(vld_q1 s).1=(if validS s=true then .exit 0 else .ret):=h1;have e2:(vld_q1 s).2.2.2=(if validS s=true then false else false):=h2;rw[e1,e2];cases validS s<;>rfl
noncomputable def tabB5:PTab Tryd.prog:=tabB4.cons 116 (pconP aB dBool validS (λs=>[s.size<=KB])) (conP_ok vld_ok puB)
end Go.Proofs.YtfkdbifgppfegaaDoor

namespace Go.Proofs.YtfkdbifgppfegaaDoor
open Go.RowKit Go.Sx
set_option maxRecDepth 100000
noncomputable def chk_F(r:Rec):Dv.T dI:=
 bif decide ((↑(ByteArray.size r.text):Int)>(64:Int))||!Lib.validD r.text.data.toList then(50:Int)
 else(0:Int)
def chk_side(r:Rec):Prop:=
 (!decide ((↑(ByteArray.size r.text):Int)>(64:Int)))=true->ByteArray.size r.text<=KB
theorem chk_okS(pre:DA.T aR->List Prop)(h:∀g,DA.bd aR g->(∀p∈pre g,p)->chk_side g):FnPure Tryd.prog 119 aR dI (λg=>chk_F g) pre:=pure_of_sideS (Γ:=(PTab.gamz tabB5 [] [])) (Λ:=noΛ) (PTab.okz tabB5 [] []) noΛ_ok 100 default (λg=>chk_side g) (λg=>by kernel_rfl) (λg=>by kernel_rfl) h
noncomputable def rchk_F(r:Rec):Dv.T dI:=
 bif decide ((↑(ByteArray.size r.text):Int)>(64:Int))||!validS r.text then(50:Int)else(0:Int)
def rchk_side(r:Rec):Prop:=
 (!decide ((↑(ByteArray.size r.text):Int)>(64:Int)))=true->ByteArray.size r.text<=KB
theorem rchk_okS(pre:DA.T aR->List Prop)(h:∀g,DA.bd aR g->(∀p∈pre g,p)->rchk_side g):FnPure Tryd.prog 108 aR dI (λg=>rchk_F g) pre:=pure_of_sideS (Γ:=(PTab.gamz tabB5 [] [])) (Λ:=noΛ) (PTab.okz tabB5 [] []) noΛ_ok 100 default (λg=>rchk_side g) (λg=>by kernel_rfl) (λg=>by kernel_rfl) h
noncomputable def tck_F(t:T):Dv.T dI:=
 bif decide (t.e<(0:Int))||(decide (t.e>(1073741824:Int))||(decide (t.d<(0:Int))||decide (t.d>(4:Int))))then(10:Int)
 else bif decide (t.l0<(0:Int))||(decide (t.l0>(1048576:Int))||decide ((0:Int)>=t.d)&&t.l0 !=(0:Int))then(10:Int)else bif decide (t.l1<(0:Int))||(decide (t.l1>(1048576:Int))||decide ((1:Int)>=t.d)&&t.l1 !=(0:Int))then(10:Int)else bif decide (t.l2<(0:Int))||(decide (t.l2>(1048576:Int))||decide ((2:Int)>=t.d)&&t.l2 !=(0:Int))then(10:Int)else bif decide (t.l3<(0:Int))||(decide (t.l3>(1048576:Int))||decide ((3:Int)>=t.d)&&t.l3 !=(0:Int))then(10:Int)else(0:Int)
theorem tck_ok:FnPure Tryd.prog 112 aT dI (λg=>tck_F g) (λ_=>[]):=pure_of_safe (Γ:=(PTab.gamz tabB5 [] [])) (Λ:=noΛ) (PTab.okz tabB5 [] []) noΛ_ok 100 default (λg=>by kernel_rfl) (λg=>by kernel_rfl)
noncomputable def rtck_F(t:T):Dv.T dI:=
 bif decide (t.e<(0:Int))||(decide (t.e>(1073741824:Int))||(decide (t.d<(0:Int))||decide (t.d>(4:Int))))then(10:Int)
 else bif decide (t.l0<(0:Int))||(decide (t.l0>(1048576:Int))||decide ((0:Int)>=t.d)&&t.l0 !=(0:Int))then(10:Int)else bif decide (t.l1<(0:Int))||(decide (t.l1>(1048576:Int))||decide ((1:Int)>=t.d)&&t.l1 !=(0:Int))then(10:Int)else bif decide (t.l2<(0:Int))||(decide (t.l2>(1048576:Int))||decide ((2:Int)>=t.d)&&t.l2 !=(0:Int))then(10:Int)else bif decide (t.l3<(0:Int))||(decide (t.l3>(1048576:Int))||decide ((3:Int)>=t.d)&&t.l3 !=(0:Int))then(10:Int)else(0:Int)
theorem rtck_ok:FnPure Tryd.prog 92 aT dI (λg=>rtck_F g) (λ_=>[]):=pure_of_safe (Γ:=(PTab.gamz tabB5 [] [])) (Λ:=noΛ) (PTab.okz tabB5 [] []) noΛ_ok 100 default (λg=>by kernel_rfl) (λg=>by kernel_rfl)
end Go.Proofs.YtfkdbifgppfegaaDoor

namespace Go.Proofs.YtfkdbifgppfegaaDoor
open Go.RowKit Go.Sx Go.Lp
def chkR(r:Rec):Int:=bif decide ((r.text.size:Int)>64)||!validS r.text then 50 else 0
theorem chk_ok:FnPure Tryd.prog 119 aR dI chkR (λ_=>[]):=
 pure_congr (chk_okS _ λr _ _ h=>by
  have h:=of_decide_eq_false (by simpa using h:decide ((r.text.size:Int)>64)=false);unfold KB;omega) λr _ _=>rfl
theorem rchk_ok:FnPure Tryd.prog 108 aR dI chkR (λ_=>[]):=
 pure_congr (rchk_okS _ λr _ _ h=>by
  have h:=of_decide_eq_false (by simpa using h:decide ((r.text.size:Int)>64)=false);unfold KB;omega) λr _ _=>rfl
end Go.Proofs.YtfkdbifgppfegaaDoor

namespace Go.Proofs.YtfkdbifgppfegaaDoor
open Go.RowKit Go.Sx
noncomputable def tabF0:PTab Tryd.prog:=(((tabE10.cons 119 (pconP aR dI chkR (λ_=>[])) (conP_ok chk_ok puI)).cons 108 (pconP aR dI chkR (λ_=>[])) (conP_ok rchk_ok puI)).cons 112 (pconP aT dI (λt=>tck_F t) (λ_=>[])) (conP_ok tck_ok puI)).cons 92 (pconP aT dI (λt=>rtck_F t) (λ_=>[])) (conP_ok rtck_ok puI)
end Go.Proofs.YtfkdbifgppfegaaDoor

namespace Go.Proofs.YtfkdbifgppfegaaDoor
open Go.RowKit Go.Sx
set_option maxRecDepth 100000
abbrev ixr_G:Type:=List Rec×Unit×Int×Int×Int
noncomputable def ixr_LP:LP 0 ixr_G:=.pair (.slot 0 0 dLR) (.pair (.fix 0 1 (.fn 118 [])) (.pair (.slot 0 7 dI) (.pair (.slot 0 8 dI) (.slot 0 4 dI))))
noncomputable def ixr_R(xs:List Rec)(_u:Unit)(n:Int)(i:Int)(r:Int):Ex×ixr_G:=
 bif decide (i<n)then bif chkR (xs.getD i.toNat eR.dflt)!=(0:Int)then(Ex.ret,eR.ag xs,(),n,i,i)else(Ex.normal,eR.ag xs,(),n,IntKind.i64.wrap (i+(1:Int)),r)
 else(Ex.exit (0:Nat),eR.ag xs,(),n,i,r)
def ixr_side(xs:List Rec)(_u:Unit)(n:Int)(i:Int)(r:Int):Prop:=
 (decide (i<n)=true->((0:Int)<=i/\i<(↑xs.length:Int))/\((chkR (xs.getD i.toNat eR.dflt)!=(0:Int))=true->eR.okL xs)/\((chkR (xs.getD i.toNat eR.dflt)!=(0:Int))=false->eR.okL xs))/\(decide (i<n)=false->eR.okL xs)
theorem ixr_one:((loopsOf Tryd.prog 123).filter λc=>Nat.beq (lkey c) 2).length=1:=by kernel_rfl
abbrev ixr_GC:Type:=List Rec×Int
abbrev ixr_GB:Type:=Int×Unit
def ixr_f(g:ixr_G):Int×ixr_GC×ixr_GB:=(g.2.2.2.1,(g.1,g.2.2.1),(g.2.2.2.2,g.2.1))
def ixr_g(d:Int×ixr_GC×ixr_GB):ixr_G:=(d.2.1.1,d.2.2.2,d.2.1.2,d.1,d.2.2.1)
theorem ixr_es(g:ixr_G):(ixr_R g.1 g.2.1 g.2.2.1 g.2.2.2.1 g.2.2.2.2).1=.normal\/(ixr_R g.1 g.2.1 g.2.2.1 g.2.2.2.1 g.2.2.2.2).1∈([.ret,.exit 0]:List Ex):=by
 unfold ixr_R
 repeat' (first|(left;rfl)|(right;simp only[cond_true,cond_false];simp;done)|(rw[Bool.cond_eq_ite];split))
noncomputable abbrev ixr_C(Inv:ixr_G->List Prop)(m:ixr_G->Nat):LCon:=loopR [.ret,.exit 0] (loopBody Tryd.prog 123 2) ixr_LP [] 19 Inv (λg=>ixr_R g.1 g.2.1 g.2.2.1 g.2.2.2.1 g.2.2.2.2) m
theorem ixr_loop(Inv:ixr_G->List Prop)(m:ixr_G->Nat)(hs:∀g,allP (Inv g)->ixr_side g.1 g.2.1 g.2.2.1 g.2.2.2.1 g.2.2.2.2)(hg:Goes (λg:ixr_G=>ixr_R g.1 g.2.1 g.2.2.1 g.2.2.2.1 g.2.2.2.2) m λg=>allP (Inv g)):∀b∈loopsOf Tryd.prog 123,lkey b=2->LoopOk Tryd.prog b (ixr_C Inv m).g:=loop_run (Γ:=(PTab.gamz tabF0 [] [])) (Λ:=noΛ) (PTab.okz tabF0 [] []) noΛ_ok 100 123 2 19 ixr_LP [] Inv (λg=>ixr_R g.1 g.2.1 g.2.2.1 g.2.2.2.1 g.2.2.2.2) (λg=>ixr_side g.1 g.2.1 g.2.2.1 g.2.2.2.1 g.2.2.2.2) m default [.ret,.exit 0] ixr_one (λrd T B HL HB ds g=>by kernel_rfl) (λrd T B HL HB ds g=>by kernel_rfl) hs hg ixr_es
abbrev ixc_G:Type:=List Change×Unit×Int×Int×Int
noncomputable def ixc_LP:LP 0 ixc_G:=.pair (.slot 0 0 dLC) (.pair (.fix 0 1 (.fn 121 [])) (.pair (.slot 0 7 dI) (.pair (.slot 0 8 dI) (.slot 0 4 dI))))
noncomputable def ixc_R(xs:List Change)(_u:Unit)(n:Int)(i:Int)(r:Int):Ex×ixc_G:=
 bif decide (i<n)then bif (xs.getD i.toNat eC.dflt).n==(0:Int)||tck_F (xs.getD i.toNat eC.dflt).t !=(0:Int)then(Ex.ret,eC.ag xs,(),n,i,i)else(Ex.normal,eC.ag xs,(),n,IntKind.i64.wrap (i+(1:Int)),r)
 else(Ex.exit (0:Nat),eC.ag xs,(),n,i,r)
def ixc_side(xs:List Change)(_u:Unit)(n:Int)(i:Int)(r:Int):Prop:=
 (decide (i<n)=true->((0:Int)<=i/\i<(↑xs.length:Int))/\(((xs.getD i.toNat eC.dflt).n==(0:Int)||tck_F (xs.getD i.toNat eC.dflt).t !=(0:Int))=true->eC.okL xs)/\(((xs.getD i.toNat eC.dflt).n==(0:Int)||tck_F (xs.getD i.toNat eC.dflt).t !=(0:Int))=false->eC.okL xs))/\(decide (i<n)=false->eC.okL xs)
theorem ixc_one:((loopsOf Tryd.prog 125).filter λc=>Nat.beq (lkey c) 2).length=1:=by kernel_rfl
abbrev ixc_GC:Type:=List Change×Int
abbrev ixc_GB:Type:=Int×Unit
def ixc_f(g:ixc_G):Int×ixc_GC×ixc_GB:=(g.2.2.2.1,(g.1,g.2.2.1),(g.2.2.2.2,g.2.1))
def ixc_g(d:Int×ixc_GC×ixc_GB):ixc_G:=(d.2.1.1,d.2.2.2,d.2.1.2,d.1,d.2.2.1)
theorem ixc_es(g:ixc_G):(ixc_R g.1 g.2.1 g.2.2.1 g.2.2.2.1 g.2.2.2.2).1=.normal\/(ixc_R g.1 g.2.1 g.2.2.1 g.2.2.2.1 g.2.2.2.2).1∈([.ret,.exit 0]:List Ex):=by
 unfold ixc_R
 repeat' (first|(left;rfl)|(right;simp only[cond_true,cond_false];simp;done)|(rw[Bool.cond_eq_ite];split))
noncomputable abbrev ixc_C(Inv:ixc_G->List Prop)(m:ixc_G->Nat):LCon:=loopR [.ret,.exit 0] (loopBody Tryd.prog 125 2) ixc_LP [] 19 Inv (λg=>ixc_R g.1 g.2.1 g.2.2.1 g.2.2.2.1 g.2.2.2.2) m
theorem ixc_loop(Inv:ixc_G->List Prop)(m:ixc_G->Nat)(hs:∀g,allP (Inv g)->ixc_side g.1 g.2.1 g.2.2.1 g.2.2.2.1 g.2.2.2.2)(hg:Goes (λg:ixc_G=>ixc_R g.1 g.2.1 g.2.2.1 g.2.2.2.1 g.2.2.2.2) m λg=>allP (Inv g)):∀b∈loopsOf Tryd.prog 125,lkey b=2->LoopOk Tryd.prog b (ixc_C Inv m).g:=loop_run (Γ:=(PTab.gamz tabF0 [] [])) (Λ:=noΛ) (PTab.okz tabF0 [] []) noΛ_ok 100 125 2 19 ixc_LP [] Inv (λg=>ixc_R g.1 g.2.1 g.2.2.1 g.2.2.2.1 g.2.2.2.2) (λg=>ixc_side g.1 g.2.1 g.2.2.1 g.2.2.2.1 g.2.2.2.2) m default [.ret,.exit 0] ixc_one (λrd T B HL HB ds g=>by kernel_rfl) (λrd T B HL HB ds g=>by kernel_rfl) hs hg ixc_es
abbrev rrl_G:Type:=List Rec×Int×Bool
noncomputable def rrl_LP:LP 0 rrl_G:=.pair (.slot 0 0 dLR) (.pair (.slot 0 3 dI) (.slot 0 2 dBool))
noncomputable def rrl_R(xs:List Rec)(i:Int)(r:Bool):Ex×rrl_G:=
 bif decide (i<(↑xs.length:Int))then bif chkR (xs.getD i.toNat eR.dflt)!=(0:Int)then(Ex.ret,eR.ag xs,i,false)else(Ex.normal,eR.ag xs,IntKind.i64.wrap (i+(1:Int)),r)
 else(Ex.exit (0:Nat),eR.ag xs,i,r)
def rrl_side(xs:List Rec)(i:Int)(r:Bool):Prop:=
 (decide (i<(↑xs.length:Int))=true->((0:Int)<=i/\i<(↑xs.length:Int))/\((chkR (xs.getD i.toNat eR.dflt)!=(0:Int))=true->eR.okL xs)/\((chkR (xs.getD i.toNat eR.dflt)!=(0:Int))=false->eR.okL xs))/\(decide (i<(↑xs.length:Int))=false->eR.okL xs)
theorem rrl_one:((loopsOf Tryd.prog 93).filter λc=>Nat.beq (lkey c) 2).length=1:=by kernel_rfl
abbrev rrl_GC:Type:=List Rec
abbrev rrl_GB:Type:=Bool
def rrl_f(g:rrl_G):Int×rrl_GC×rrl_GB:=(g.2.1,g.1,g.2.2)
def rrl_g(d:Int×rrl_GC×rrl_GB):rrl_G:=(d.2.1,d.1,d.2.2)
theorem rrl_es(g:rrl_G):(rrl_R g.1 g.2.1 g.2.2).1=.normal\/(rrl_R g.1 g.2.1 g.2.2).1∈([.ret,.exit 0]:List Ex):=by
 unfold rrl_R
 repeat' (first|(left;rfl)|(right;simp only[cond_true,cond_false];simp;done)|(rw[Bool.cond_eq_ite];split))
noncomputable abbrev rrl_C(Inv:rrl_G->List Prop)(m:rrl_G->Nat):LCon:=loopR [.ret,.exit 0] (loopBody Tryd.prog 93 2) rrl_LP [] 24 Inv (λg=>rrl_R g.1 g.2.1 g.2.2) m
theorem rrl_loop(Inv:rrl_G->List Prop)(m:rrl_G->Nat)(hs:∀g,allP (Inv g)->rrl_side g.1 g.2.1 g.2.2)(hg:Goes (λg:rrl_G=>rrl_R g.1 g.2.1 g.2.2) m λg=>allP (Inv g)):∀b∈loopsOf Tryd.prog 93,lkey b=2->LoopOk Tryd.prog b (rrl_C Inv m).g:=loop_run (Γ:=(PTab.gamz tabF0 [] [])) (Λ:=noΛ) (PTab.okz tabF0 [] []) noΛ_ok 100 93 2 24 rrl_LP [] Inv (λg=>rrl_R g.1 g.2.1 g.2.2) (λg=>rrl_side g.1 g.2.1 g.2.2) m default [.ret,.exit 0] rrl_one (λrd T B HL HB ds g=>by kernel_rfl) (λrd T B HL HB ds g=>by kernel_rfl) hs hg rrl_es
abbrev rcg_G:Type:=List Change×Int×Bool
noncomputable def rcg_LP:LP 0 rcg_G:=.pair (.slot 0 0 dLC) (.pair (.slot 0 3 dI) (.slot 0 2 dBool))
noncomputable def rcg_R(xs:List Change)(i:Int)(r:Bool):Ex×rcg_G:=
 bif decide (i<(↑xs.length:Int))then bif rtck_F (xs.getD i.toNat eC.dflt).t !=(0:Int)||(xs.getD i.toNat eC.dflt).n==(0:Int)then(Ex.ret,eC.ag xs,i,false)else(Ex.normal,eC.ag xs,IntKind.i64.wrap (i+(1:Int)),r)
 else(Ex.exit (0:Nat),eC.ag xs,i,r)
def rcg_side(xs:List Change)(i:Int)(r:Bool):Prop:=
 (decide (i<(↑xs.length:Int))=true->((0:Int)<=i/\i<(↑xs.length:Int))/\((!rtck_F (xs.getD i.toNat eC.dflt).t !=(0:Int))=true->(0:Int)<=i/\i<(↑xs.length:Int))/\((rtck_F (xs.getD i.toNat eC.dflt).t !=(0:Int)||(xs.getD i.toNat eC.dflt).n==(0:Int))=true->eC.okL xs)/\((rtck_F (xs.getD i.toNat eC.dflt).t !=(0:Int)||(xs.getD i.toNat eC.dflt).n==(0:Int))=false->eC.okL xs))/\(decide (i<(↑xs.length:Int))=false->eC.okL xs)
theorem rcg_one:((loopsOf Tryd.prog 94).filter λc=>Nat.beq (lkey c) 2).length=1:=by kernel_rfl
abbrev rcg_GC:Type:=List Change
abbrev rcg_GB:Type:=Bool
def rcg_f(g:rcg_G):Int×rcg_GC×rcg_GB:=(g.2.1,g.1,g.2.2)
def rcg_g(d:Int×rcg_GC×rcg_GB):rcg_G:=(d.2.1,d.1,d.2.2)
theorem rcg_es(g:rcg_G):(rcg_R g.1 g.2.1 g.2.2).1=.normal\/(rcg_R g.1 g.2.1 g.2.2).1∈([.ret,.exit 0]:List Ex):=by
 unfold rcg_R
 repeat' (first|(left;rfl)|(right;simp only[cond_true,cond_false];simp;done)|(rw[Bool.cond_eq_ite];split))
noncomputable abbrev rcg_C(Inv:rcg_G->List Prop)(m:rcg_G->Nat):LCon:=loopR [.ret,.exit 0] (loopBody Tryd.prog 94 2) rcg_LP [] 33 Inv (λg=>rcg_R g.1 g.2.1 g.2.2) m
theorem rcg_loop(Inv:rcg_G->List Prop)(m:rcg_G->Nat)(hs:∀g,allP (Inv g)->rcg_side g.1 g.2.1 g.2.2)(hg:Goes (λg:rcg_G=>rcg_R g.1 g.2.1 g.2.2) m λg=>allP (Inv g)):∀b∈loopsOf Tryd.prog 94,lkey b=2->LoopOk Tryd.prog b (rcg_C Inv m).g:=loop_run (Γ:=(PTab.gamz tabF0 [] [])) (Λ:=noΛ) (PTab.okz tabF0 [] []) noΛ_ok 100 94 2 33 rcg_LP [] Inv (λg=>rcg_R g.1 g.2.1 g.2.2) (λg=>rcg_side g.1 g.2.1 g.2.2) m default [.ret,.exit 0] rcg_one (λrd T B HL HB ds g=>by kernel_rfl) (λrd T B HL HB ds g=>by kernel_rfl) hs hg rcg_es
end Go.Proofs.YtfkdbifgppfegaaDoor

namespace Go.Proofs.YtfkdbifgppfegaaDoor
open Go.RowKit Go.Sx Go.Lp
set_option maxRecDepth 100000
noncomputable def ixr_S(c:ixr_GC)(b:ixr_GB)(i:Int)(v:Rec):Ex×ixr_GB:=bif chkR v !=(0:Int)then(.ret,i,())else(.normal,b.1,b.2)
def ixr_K(c:ixr_GC)(b:ixr_GB)(i:Int):Prop:=True
abbrev ixr_I(g:ixr_G):List Prop:=ixI (λc:ixr_GC=>c.2) (λc:ixr_GC=>c.1) ixr_K (ixr_f g)
abbrev ixr_M(g:ixr_G):Nat:=ixM (λc:ixr_GC=>c.2) (ixr_f g)
theorem ixr_P:ixP ixr_S (λc:ixr_GC=>c.1) ixr_K:=λ_ _ _ _ h _ _=>h
noncomputable abbrev ixr_RR(g:ixr_G):Ex×ixr_G:=ixr_R g.1 g.2.1 g.2.2.1 g.2.2.2.1 g.2.2.2.2
theorem ixr_RF(d:Int×ixr_GC×ixr_GB)(hi:allP (ixI (λc:ixr_GC=>c.2) (λc:ixr_GC=>c.1) ixr_K d)):ixr_RR (ixr_g d)=((ixF 0 (λc:ixr_GC=>c.2) (λc:ixr_GC=>c.1) eR.dflt ixr_S d).1,ixr_g (ixF 0 (λc:ixr_GC=>c.2) (λc:ixr_GC=>c.1) eR.dflt ixr_S d).2):=by
 obtain⟨i,⟨xs,n⟩,⟨r,⟨⟩⟩⟩:=d;show ixr_R xs () n i r=_;unfold ixr_R ixF ixr_S;simp only[El.ag_eq];cases decide (i<n)with
 |false=>rfl
 |true=>
  simp only[cond_true];generalize (chkR (xs.getD i.toNat eR.dflt)!=(0:Int))=z;cases z<;>rfl
theorem ixr_ok:∀b∈loopsOf Tryd.prog 123,lkey b=2->LoopOk Tryd.prog b (ixr_C ixr_I ixr_M).g:=by
 refine ixr_loop ixr_I ixr_M (λg hi=>?_) (ix_conj_goes (λ_=>rfl) (λ_=>rfl) ixr_RF ixr_P);obtain⟨xs,⟨⟩,n,i,r⟩:=g;obtain⟨h1,h2,h3,h4,h5⟩:=hi _ (List.mem_cons_self ..);have h1:n=(xs.length:Int):=h1;have h3:0<=i:=h3;have h5:True:=h5;show ixr_side xs () n i r;unfold ixr_side;simp only[decide_eq_true_eq,decide_eq_false_iff_not];have k0:∀e:Nat,e<xs.length->eR.Ok (eR.els xs e):=λe _=>eR.ok_els xs e;clear hi
 repeat' (first|exact k0|apply And.intro|intro _)
 all_goals omega
theorem ixr_run(c:ixr_GC)(b:ixr_GB)(k1:c.2=((c.1).length:Int))(k2:(c.1).length<=maxLen)(k3:ixr_K c b 0):loopF ixr_RR ixr_M (ixr_g (0,c,b))=((scan 0 (ixr_S c) 0 (c.1) b).1,ixr_g ((scan 0 (ixr_S c) 0 (c.1) b).2.1,c,(scan 0 (ixr_S c) 0 (c.1) b).2.2)):=ix_conj_run (φ:=ixr_f) (ψ:=ixr_g) (λ_=>rfl) (λ_=>rfl) ixr_RF ixr_P c b k1 k2 k3
noncomputable def ixc_S(c:ixc_GC)(b:ixc_GB)(i:Int)(v:Change):Ex×ixc_GB:=bif v.n==(0:Int)||tck_F v.t !=(0:Int)then(.ret,i,())else(.normal,b.1,b.2)
def ixc_K(c:ixc_GC)(b:ixc_GB)(i:Int):Prop:=True
abbrev ixc_I(g:ixc_G):List Prop:=ixI (λc:ixc_GC=>c.2) (λc:ixc_GC=>c.1) ixc_K (ixc_f g)
abbrev ixc_M(g:ixc_G):Nat:=ixM (λc:ixc_GC=>c.2) (ixc_f g)
theorem ixc_P:ixP ixc_S (λc:ixc_GC=>c.1) ixc_K:=λ_ _ _ _ h _ _=>h
noncomputable abbrev ixc_RR(g:ixc_G):Ex×ixc_G:=ixc_R g.1 g.2.1 g.2.2.1 g.2.2.2.1 g.2.2.2.2
theorem ixc_RF(d:Int×ixc_GC×ixc_GB)(hi:allP (ixI (λc:ixc_GC=>c.2) (λc:ixc_GC=>c.1) ixc_K d)):ixc_RR (ixc_g d)=((ixF 0 (λc:ixc_GC=>c.2) (λc:ixc_GC=>c.1) eC.dflt ixc_S d).1,ixc_g (ixF 0 (λc:ixc_GC=>c.2) (λc:ixc_GC=>c.1) eC.dflt ixc_S d).2):=by
 obtain⟨i,⟨xs,n⟩,⟨r,⟨⟩⟩⟩:=d;show ixc_R xs () n i r=_;unfold ixc_R ixF ixc_S;simp only[El.ag_eq];cases decide (i<n)with
 |false=>rfl
 |true=>
  simp only[cond_true];generalize ((xs.getD i.toNat eC.dflt).n==(0:Int)||tck_F (xs.getD i.toNat eC.dflt).t !=(0:Int))=z;cases z<;>rfl
theorem ixc_ok:∀b∈loopsOf Tryd.prog 125,lkey b=2->LoopOk Tryd.prog b (ixc_C ixc_I ixc_M).g:=by
 refine ixc_loop ixc_I ixc_M (λg hi=>?_) (ix_conj_goes (λ_=>rfl) (λ_=>rfl) ixc_RF ixc_P);obtain⟨xs,⟨⟩,n,i,r⟩:=g;obtain⟨h1,h2,h3,h4,h5⟩:=hi _ (List.mem_cons_self ..);have h1:n=(xs.length:Int):=h1;have h3:0<=i:=h3;have h5:True:=h5;show ixc_side xs () n i r;unfold ixc_side;simp only[decide_eq_true_eq,decide_eq_false_iff_not];have k0:∀e:Nat,e<xs.length->eC.Ok (eC.els xs e):=λe _=>eC.ok_els xs e;clear hi
 repeat' (first|exact k0|apply And.intro|intro _)
 all_goals omega
theorem ixc_run(c:ixc_GC)(b:ixc_GB)(k1:c.2=((c.1).length:Int))(k2:(c.1).length<=maxLen)(k3:ixc_K c b 0):loopF ixc_RR ixc_M (ixc_g (0,c,b))=((scan 0 (ixc_S c) 0 (c.1) b).1,ixc_g ((scan 0 (ixc_S c) 0 (c.1) b).2.1,c,(scan 0 (ixc_S c) 0 (c.1) b).2.2)):=ix_conj_run (φ:=ixc_f) (ψ:=ixc_g) (λ_=>rfl) (λ_=>rfl) ixc_RF ixc_P c b k1 k2 k3
noncomputable def rrl_S(c:rrl_GC)(b:rrl_GB)(i:Int)(v:Rec):Ex×rrl_GB:=bif chkR v !=(0:Int)then(.ret,false)else(.normal,b)
def rrl_K(c:rrl_GC)(b:rrl_GB)(i:Int):Prop:=True
abbrev rrl_I(g:rrl_G):List Prop:=ixI (λc:rrl_GC=>(c.length:Int)) (λc:rrl_GC=>c) rrl_K (rrl_f g)
abbrev rrl_M(g:rrl_G):Nat:=ixM (λc:rrl_GC=>(c.length:Int)) (rrl_f g)
theorem rrl_P:ixP rrl_S (λc:rrl_GC=>c) rrl_K:=λ_ _ _ _ h _ _=>h
noncomputable abbrev rrl_RR(g:rrl_G):Ex×rrl_G:=rrl_R g.1 g.2.1 g.2.2
theorem rrl_RF(d:Int×rrl_GC×rrl_GB)(hi:allP (ixI (λc:rrl_GC=>(c.length:Int)) (λc:rrl_GC=>c) rrl_K d)):rrl_RR (rrl_g d)=((ixF 0 (λc:rrl_GC=>(c.length:Int)) (λc:rrl_GC=>c) eR.dflt rrl_S d).1,rrl_g (ixF 0 (λc:rrl_GC=>(c.length:Int)) (λc:rrl_GC=>c) eR.dflt rrl_S d).2):=by
 obtain⟨i,xs,r⟩:=d;show rrl_R xs i r=_;unfold rrl_R ixF rrl_S;simp only[El.ag_eq];cases decide (i<(xs.length:Int))with
 |false=>rfl
 |true=>
  simp only[cond_true];generalize (chkR (xs.getD i.toNat eR.dflt)!=(0:Int))=z;cases z<;>rfl
theorem rrl_ok:∀b∈loopsOf Tryd.prog 93,lkey b=2->LoopOk Tryd.prog b (rrl_C rrl_I rrl_M).g:=by
 refine rrl_loop rrl_I rrl_M (λg hi=>?_) (ix_conj_goes (λ_=>rfl) (λ_=>rfl) rrl_RF rrl_P);obtain⟨xs,i,r⟩:=g;obtain⟨h1,h2,h3,h4,h5⟩:=hi _ (List.mem_cons_self ..);have h1:(xs.length:Int)=(xs.length:Int):=h1;have h3:0<=i:=h3;have h5:True:=h5;show rrl_side xs i r;unfold rrl_side;simp only[decide_eq_true_eq,decide_eq_false_iff_not];have k0:∀e:Nat,e<xs.length->eR.Ok (eR.els xs e):=λe _=>eR.ok_els xs e;clear hi
 repeat' (first|exact k0|apply And.intro|intro _)
 all_goals omega
theorem rrl_run(c:rrl_GC)(b:rrl_GB)(k1:(c.length:Int)=((c).length:Int))(k2:(c).length<=maxLen)(k3:rrl_K c b 0):loopF rrl_RR rrl_M (rrl_g (0,c,b))=((scan 0 (rrl_S c) 0 (c) b).1,rrl_g ((scan 0 (rrl_S c) 0 (c) b).2.1,c,(scan 0 (rrl_S c) 0 (c) b).2.2)):=ix_conj_run (φ:=rrl_f) (ψ:=rrl_g) (λ_=>rfl) (λ_=>rfl) rrl_RF rrl_P c b k1 k2 k3
noncomputable def rcg_S(c:rcg_GC)(b:rcg_GB)(i:Int)(v:Change):Ex×rcg_GB:=bif rtck_F v.t !=(0:Int)||v.n==(0:Int)then(.ret,false)else(.normal,b)
def rcg_K(c:rcg_GC)(b:rcg_GB)(i:Int):Prop:=True
abbrev rcg_I(g:rcg_G):List Prop:=ixI (λc:rcg_GC=>(c.length:Int)) (λc:rcg_GC=>c) rcg_K (rcg_f g)
abbrev rcg_M(g:rcg_G):Nat:=ixM (λc:rcg_GC=>(c.length:Int)) (rcg_f g)
theorem rcg_P:ixP rcg_S (λc:rcg_GC=>c) rcg_K:=λ_ _ _ _ h _ _=>h
noncomputable abbrev rcg_RR(g:rcg_G):Ex×rcg_G:=rcg_R g.1 g.2.1 g.2.2
theorem rcg_RF(d:Int×rcg_GC×rcg_GB)(hi:allP (ixI (λc:rcg_GC=>(c.length:Int)) (λc:rcg_GC=>c) rcg_K d)):rcg_RR (rcg_g d)=((ixF 0 (λc:rcg_GC=>(c.length:Int)) (λc:rcg_GC=>c) eC.dflt rcg_S d).1,rcg_g (ixF 0 (λc:rcg_GC=>(c.length:Int)) (λc:rcg_GC=>c) eC.dflt rcg_S d).2):=by
 obtain⟨i,xs,r⟩:=d;show rcg_R xs i r=_;unfold rcg_R ixF rcg_S;simp only[El.ag_eq];cases decide (i<(xs.length:Int))with
 |false=>rfl
 |true=>
  simp only[cond_true];generalize (rtck_F (xs.getD i.toNat eC.dflt).t !=(0:Int)||(xs.getD i.toNat eC.dflt).n==(0:Int))=z;cases z<;>rfl
theorem rcg_ok:∀b∈loopsOf Tryd.prog 94,lkey b=2->LoopOk Tryd.prog b (rcg_C rcg_I rcg_M).g:=by
 refine rcg_loop rcg_I rcg_M (λg hi=>?_) (ix_conj_goes (λ_=>rfl) (λ_=>rfl) rcg_RF rcg_P);obtain⟨xs,i,r⟩:=g;obtain⟨h1,h2,h3,h4,h5⟩:=hi _ (List.mem_cons_self ..);have h1:(xs.length:Int)=(xs.length:Int):=h1;have h3:0<=i:=h3;have h5:True:=h5;show rcg_side xs i r;unfold rcg_side;simp only[decide_eq_true_eq,decide_eq_false_iff_not];have k0:∀e:Nat,e<xs.length->eC.Ok (eC.els xs e):=λe _=>eC.ok_els xs e;clear hi
 repeat' (first|exact k0|apply And.intro|intro _)
 all_goals omega
theorem rcg_run(c:rcg_GC)(b:rcg_GB)(k1:(c.length:Int)=((c).length:Int))(k2:(c).length<=maxLen)(k3:rcg_K c b 0):loopF rcg_RR rcg_M (rcg_g (0,c,b))=((scan 0 (rcg_S c) 0 (c) b).1,rcg_g ((scan 0 (rcg_S c) 0 (c) b).2.1,c,(scan 0 (rcg_S c) 0 (c) b).2.2)):=ix_conj_run (φ:=rcg_f) (ψ:=rcg_g) (λ_=>rfl) (λ_=>rfl) rcg_RF rcg_P c b k1 k2 k3
noncomputable def ltF2:LTab Tryd.prog:=((((LTab.nil.cons 123 2 (ixr_C ixr_I ixr_M) ixr_ok).cons 125 2 (ixc_C ixc_I ixc_M) ixc_ok).cons 93 2 (rrl_C rrl_I rrl_M) rrl_ok).cons 94 2 (rcg_C rcg_I rcg_M) rcg_ok)
noncomputable abbrev lamF2:Lam:=ltF2.lam
theorem lamF2_ok:∀f k L,lamF2 f k=some L->∀b∈loopsOf Tryd.prog f,lkey b=k->LoopOk Tryd.prog b L.g:=ltF2.ok
end Go.Proofs.YtfkdbifgppfegaaDoor

namespace Go.Proofs.YtfkdbifgppfegaaDoor
open Go.RowKit Go.Sx
set_option maxRecDepth 100000
abbrev aRF:DA (List Rec×Unit):=.cons dLR (.one (dFnA 118 .none))
abbrev aCF:DA (List Change×Unit):=.cons dLC (.one (dFnA 121 .none))
noncomputable def cnr_q1(xs:List Rec)(_u:Unit):Ex×
 ixr_G:=
 loopF (λg=>ixr_R g.fst g.snd.fst g.snd.snd.fst g.snd.snd.snd.fst g.snd.snd.snd.snd) ixr_M (eR.ag xs,(),(↑xs.length:Int),(0:Int),(0:Int))
noncomputable def cnr_F(xs:List Rec)(_u:Unit):Dv.T dBool:=
 bif exB Ex.ret (cnr_q1 xs _u).fst then decide ((cnr_q1 xs _u).snd.snd.snd.snd.snd>=(0:Int))else decide ((-1:Int)>=(0:Int))
def cnr_side(xs:List Rec)(_u:Unit):Prop:=
 eR.okL xs/\Lp.ixJ (λc=>c.snd) (λc=>c.fst) ixr_K (ixr_f (eR.ag xs,(),(↑xs.length:Int),(0:Int),(0:Int)))
theorem cnr_okS(pre:DA.T aRF->List Prop)(h:∀g,DA.bd aRF g->(∀p∈pre g,p)->cnr_side g.1 g.2):FnPure Tryd.prog 117 aRF dBool (λg=>cnr_F g.1 g.2) pre:=pure_of_sideS (Γ:=(PTab.gamz tabF0 [] [])) (Λ:=lamF2) (PTab.okz tabF0 [] []) lamF2_ok 100 default (λg=>cnr_side g.1 g.2) (λg=>by kernel_rfl) (λg=>by kernel_rfl) h
noncomputable def cnc_q1(xs:List Change)(_u:Unit):Ex×
 ixc_G:=
 loopF (λg=>ixc_R g.fst g.snd.fst g.snd.snd.fst g.snd.snd.snd.fst g.snd.snd.snd.snd) ixc_M (eC.ag xs,(),(↑xs.length:Int),(0:Int),(0:Int))
noncomputable def cnc_F(xs:List Change)(_u:Unit):Dv.T dBool:=
 bif exB Ex.ret (cnc_q1 xs _u).fst then decide ((cnc_q1 xs _u).snd.snd.snd.snd.snd>=(0:Int))else decide ((-1:Int)>=(0:Int))
def cnc_side(xs:List Change)(_u:Unit):Prop:=
 eC.okL xs/\Lp.ixJ (λc=>c.snd) (λc=>c.fst) ixc_K (ixc_f (eC.ag xs,(),(↑xs.length:Int),(0:Int),(0:Int)))
theorem cnc_okS(pre:DA.T aCF->List Prop)(h:∀g,DA.bd aCF g->(∀p∈pre g,p)->cnc_side g.1 g.2):FnPure Tryd.prog 120 aCF dBool (λg=>cnc_F g.1 g.2) pre:=pure_of_sideS (Γ:=(PTab.gamz tabF0 [] [])) (Λ:=lamF2) (PTab.okz tabF0 [] []) lamF2_ok 100 default (λg=>cnc_side g.1 g.2) (λg=>by kernel_rfl) (λg=>by kernel_rfl) h
noncomputable def rrs_q1(xs:List Rec):Ex×rrl_G:=
 loopF (λg=>rrl_R g.fst g.snd.fst g.snd.snd) rrl_M (eR.ag xs,(0:Int),false)
noncomputable def rrs_F(xs:List Rec):Dv.T dBool:=
 bif exB Ex.ret (rrs_q1 xs).fst then(rrs_q1 xs).snd.snd.snd
 else decide ((↑(rrs_q1 xs).snd.fst.length:Int)>=(1:Int))&&decide ((↑(rrs_q1 xs).snd.fst.length:Int)<=(64:Int))
def rrs_side(xs:List Rec):Prop:=
 eR.okL xs/\Lp.ixJ (λc=>(↑(List.length c):Int)) (λc=>c) rrl_K (rrl_f (eR.ag xs,(0:Int),false))
theorem rrs_okS(pre:DA.T (.one dLR)->List Prop)(h:∀g,DA.bd (.one dLR) g->(∀p∈pre g,p)->rrs_side g):FnPure Tryd.prog 93 (.one dLR) dBool (λg=>rrs_F g) pre:=pure_of_sideS (Γ:=(PTab.gamz tabF0 [] [])) (Λ:=lamF2) (PTab.okz tabF0 [] []) lamF2_ok 100 default (λg=>rrs_side g) (λg=>by kernel_rfl) (λg=>by kernel_rfl) h
noncomputable def rch_q1(xs:List Change):Ex×rcg_G:=
 loopF (λg=>rcg_R g.fst g.snd.fst g.snd.snd) rcg_M (eC.ag xs,(0:Int),false)
noncomputable def rch_F(xs:List Change):Dv.T dBool:=
 bif exB Ex.ret (rch_q1 xs).fst then(rch_q1 xs).snd.snd.snd
 else decide ((↑(rch_q1 xs).snd.fst.length:Int)>=(1:Int))&&decide ((↑(rch_q1 xs).snd.fst.length:Int)<=(512:Int))
def rch_side(xs:List Change):Prop:=
 eC.okL xs/\Lp.ixJ (λc=>(↑(List.length c):Int)) (λc=>c) rcg_K (rcg_f (eC.ag xs,(0:Int),false))
theorem rch_okS(pre:DA.T (.one dLC)->List Prop)(h:∀g,DA.bd (.one dLC) g->(∀p∈pre g,p)->rch_side g):FnPure Tryd.prog 94 (.one dLC) dBool (λg=>rch_F g) pre:=pure_of_sideS (Γ:=(PTab.gamz tabF0 [] [])) (Λ:=lamF2) (PTab.okz tabF0 [] []) lamF2_ok 100 default (λg=>rch_side g) (λg=>by kernel_rfl) (λg=>by kernel_rfl) h
end Go.Proofs.YtfkdbifgppfegaaDoor

namespace Go.Proofs.YtfkdbifgppfegaaDoor
open Go.RowKit Go.Sx Go.Lp
def badR(xs:List Rec):Bool:=xs.any λv=>chkR v !=(0:Int)
noncomputable def badC(xs:List Change):Bool:=xs.any λv=>v.n==(0:Int)||tck_F v.t !=(0:Int)
theorem cnr_ok:FnPure Tryd.prog 117 aRF dBool (λg=>badR g.1) (λ_=>[]):=by
 refine pure_congr (cnr_okS (λ_=>[]) λg hb _=>?_) λg hb _=>?_
 all_goals (obtain⟨xs,⟨⟩⟩:=g;have ha:xs.length<=maxLen:=hb.1.1)
 .show cnr_side xs ();unfold cnr_side;simp only[El.okL_eq,El.ag_eq];exact⟨trivial,ixJ0 rfl ha trivial⟩
 show cnr_F xs ()=badR xs
 have hq:cnr_q1 xs ()=loopF ixr_RR ixr_M (ixr_g (0,(xs,(xs.length:Int)),(0,()))):=by
  unfold cnr_q1;rw[El.ag_eq];rfl
 unfold cnr_F badR;rw[hq,ixr_run (xs,(xs.length:Int)) (0,()) rfl ha trivial];show(bif exB .ret (scan 0 (ixr_S (xs,(xs.length:Int))) 0 xs (0,())).1 then decide ((scan 0 (ixr_S (xs,(xs.length:Int))) 0 xs (0,())).2.2.1>=(0:Int))else _)=_;rcases search (x:=0) (st:=ixr_S (xs,(xs.length:Int))) (p:=λv=>chkR v !=(0:Int)) (r:=λi _ _=>(i,())) (λ_ _ _=>rfl) xs (0,())with ⟨h1,j,hj,a,_,_,h2⟩|⟨h1,h2⟩
 .rw[h1,h2];exact decide_eq_true hj
 .rw[h1,h2];rfl
theorem cnc_ok:FnPure Tryd.prog 120 aCF dBool (λg=>badC g.1) (λ_=>[]):=by
 refine pure_congr (cnc_okS (λ_=>[]) λg hb _=>?_) λg hb _=>?_
 all_goals (obtain⟨xs,⟨⟩⟩:=g;have ha:xs.length<=maxLen:=hb.1.1)
 .show cnc_side xs ();unfold cnc_side;simp only[El.okL_eq,El.ag_eq];exact⟨trivial,ixJ0 rfl ha trivial⟩
 show cnc_F xs ()=badC xs
 have hq:cnc_q1 xs ()=loopF ixc_RR ixc_M (ixc_g (0,(xs,(xs.length:Int)),(0,()))):=by
  unfold cnc_q1;rw[El.ag_eq];rfl
 unfold cnc_F badC;rw[hq,ixc_run (xs,(xs.length:Int)) (0,()) rfl ha trivial];show(bif exB .ret (scan 0 (ixc_S (xs,(xs.length:Int))) 0 xs (0,())).1 then decide ((scan 0 (ixc_S (xs,(xs.length:Int))) 0 xs (0,())).2.2.1>=(0:Int))else _)=_;rcases search (x:=0) (st:=ixc_S (xs,(xs.length:Int))) (p:=λv=>v.n==(0:Int)||tck_F v.t !=(0:Int)) (r:=λi _ _=>(i,())) (λ_ _ _=>rfl) xs (0,())with ⟨h1,j,hj,a,_,_,h2⟩|⟨h1,h2⟩
 .rw[h1,h2];exact decide_eq_true hj
 .rw[h1,h2];rfl
def recsS(xs:List Rec):Bool:=bif badR xs then false else decide ((xs.length:Int)>=1)&&decide ((xs.length:Int)<=64)
noncomputable def chgS(xs:List Change):Bool:=bif badC xs then false else decide ((xs.length:Int)>=1)&&decide ((xs.length:Int)<=512)
theorem rrs_ok:FnPure Tryd.prog 93 (.one dLR) dBool recsS (λ_=>[]):=by
 refine pure_congr (rrs_okS (λ_=>[]) λxs hb _=>?_) λxs hb _=>?_
 all_goals have ha:xs.length<=maxLen:=hb.1
 .show rrs_side xs;unfold rrs_side;simp only[El.okL_eq,El.ag_eq];exact⟨trivial,ixJ0 rfl ha trivial⟩
 show rrs_F xs=recsS xs
 have hq:rrs_q1 xs=loopF rrl_RR rrl_M (rrl_g (0,xs,false)):=by
  unfold rrs_q1;rw[El.ag_eq];rfl
 unfold rrs_F recsS badR;rw[hq,rrl_run xs false rfl ha trivial];show(bif exB .ret (scan 0 (rrl_S xs) 0 xs false).1 then(scan 0 (rrl_S xs) 0 xs false).2.2 else decide ((xs.length:Int)>=1)&&decide ((xs.length:Int)<=64))=_;rcases search (x:=0) (st:=rrl_S xs) (p:=λv=>chkR v !=(0:Int)) (r:=λ_ _ _=>false) (λ_ _ _=>rfl) xs false with ⟨h1,j,hj,a,_,_,h2⟩|⟨h1,h2⟩
 .rw[h1,h2];rfl
 .rw[h1,h2];rfl
theorem rch_ok:FnPure Tryd.prog 94 (.one dLC) dBool chgS (λ_=>[]):=by
 refine pure_congr (rch_okS (λ_=>[]) λxs hb _=>?_) λxs hb _=>?_
 all_goals have ha:xs.length<=maxLen:=hb.1
 .show rch_side xs;unfold rch_side;simp only[El.okL_eq,El.ag_eq];exact⟨trivial,ixJ0 rfl ha trivial⟩
 show rch_F xs=chgS xs
 have hq:rch_q1 xs=loopF rcg_RR rcg_M (rcg_g (0,xs,false)):=by
  unfold rch_q1;rw[El.ag_eq];rfl
 have e:badC xs=xs.any λv=>rtck_F v.t !=(0:Int)||v.n==(0:Int):=by
  unfold badC;congr 1;funext v;rw[Bool.or_comm];rfl
 unfold rch_F chgS;rw[hq,rcg_run xs false rfl ha trivial,e];show(bif exB .ret (scan 0 (rcg_S xs) 0 xs false).1 then(scan 0 (rcg_S xs) 0 xs false).2.2 else decide ((xs.length:Int)>=1)&&decide ((xs.length:Int)<=512))=_;rcases search (x:=0) (st:=rcg_S xs) (p:=λv=>rtck_F v.t !=(0:Int)||v.n==(0:Int)) (r:=λ_ _ _=>false) (λ_ _ _=>rfl) xs false with ⟨h1,j,hj,a,_,_,h2⟩|⟨h1,h2⟩
 .rw[h1,h2];rfl
 .rw[h1,h2];rfl
noncomputable def tabF4:PTab Tryd.prog:=(((tabF0.cons 117 (pconP aRF dBool (λg=>badR g.1) (λ_=>[])) (conP_ok cnr_ok puB)).cons 120 (pconP aCF dBool (λg=>badC g.1) (λ_=>[])) (conP_ok cnc_ok puB)).cons 93 (pconP (.one dLR) dBool recsS (λ_=>[])) (conP_ok rrs_ok puB)).cons 94 (pconP (.one dLC) dBool chgS (λ_=>[])) (conP_ok rch_ok puB)
end Go.Proofs.YtfkdbifgppfegaaDoor

namespace Go.Proofs.YtfkdbifgppfegaaDoor
open Go.RowKit Go.Sx
set_option maxRecDepth 100000
noncomputable def mck_F(m:Ms):Dv.T dI:=
 bif m.kind==(1:Int)then bif !(tck_F m.t==(0:Int)&&(decide ((↑m.recs.length:Int)>=(1:Int))&&(decide ((↑m.recs.length:Int)<=(64:Int))&&!badR (eR.ag m.recs))))||(decide (m.ver<(0:Int))||!decide (Ms.mk m.kind m.ver (Place.mk (0:Int) (0:Int)) (T.mk (0:Int) (0:Int) (0:Int) (0:Int) (0:Int) (0:Int)) [] (eC.ag m.changes) (Dl.mk (eI.ag m.dl.drop) (eD.ag m.dl.put) (eV.ag m.dl.moves)) m.cut (eN.ag m.ents) m.yes m.why=Ms.mk m.kind m.ver (Place.mk (0:Int) (0:Int)) (T.mk (0:Int) (0:Int) (0:Int) (0:Int) (0:Int) (0:Int)) [] [] (Dl.mk [] [] []) (0:Int) [] false (0:Int)))then(130:Int)else(0:Int)
 else bif m.kind==(2:Int)then bif !(decide ((↑m.changes.length:Int)>=(1:Int))&&(decide ((↑m.changes.length:Int)<=(512:Int))&&!badC (eC.ag m.changes)))||(decide (m.ver<(0:Int))||!decide (Ms.mk m.kind m.ver m.p m.t (eR.ag m.recs) [] (Dl.mk (eI.ag m.dl.drop) (eD.ag m.dl.put) (eV.ag m.dl.moves)) m.cut (eN.ag m.ents) m.yes m.why=Ms.mk m.kind m.ver (Place.mk (0:Int) (0:Int)) (T.mk (0:Int) (0:Int) (0:Int) (0:Int) (0:Int) (0:Int)) [] [] (Dl.mk [] [] []) (0:Int) [] false (0:Int)))then(130:Int)else(0:Int)else bif m.kind==(3:Int)then bif !(decide (m.cut>=(0:Int))&&decide (m.cut<=(1073741824:Int)))||(decide (m.ver<(0:Int))||!decide (Ms.mk m.kind m.ver m.p m.t (eR.ag m.recs) (eC.ag m.changes) (Dl.mk [] [] []) (0:Int) (eN.ag m.ents) m.yes m.why=Ms.mk m.kind m.ver (Place.mk (0:Int) (0:Int)) (T.mk (0:Int) (0:Int) (0:Int) (0:Int) (0:Int) (0:Int)) [] [] (Dl.mk [] [] []) (0:Int) [] false (0:Int)))then(130:Int)else(0:Int)else bif m.kind==(4:Int)then bif decide (m.ver<(0:Int))||!decide (Ms.mk m.kind m.ver m.p m.t (eR.ag m.recs) (eC.ag m.changes) (Dl.mk (eI.ag m.dl.drop) (eD.ag m.dl.put) (eV.ag m.dl.moves)) m.cut (eN.ag m.ents) m.yes m.why=Ms.mk m.kind m.ver (Place.mk (0:Int) (0:Int)) (T.mk (0:Int) (0:Int) (0:Int) (0:Int) (0:Int) (0:Int)) [] [] (Dl.mk [] [] []) (0:Int) [] false (0:Int))then(130:Int)else(0:Int)else bif m.kind==(6:Int)&&!(m.why==(0:Int))==m.yes then(130:Int)else bif !m.kind==(6:Int)&&!m.kind==(5:Int)then(130:Int)else bif !(decide ((↑m.ents.length:Int)<=(1024:Int))&&(m.yes||(↑m.ents.length:Int)==(0:Int)))||(decide (m.ver<(0:Int))||!decide (Ms.mk m.kind m.ver m.p m.t (eR.ag m.recs) (eC.ag m.changes) (Dl.mk (eI.ag m.dl.drop) (eD.ag m.dl.put) (eV.ag m.dl.moves)) m.cut [] false (bif m.kind==(6:Int)then(0:Int)else m.why)=Ms.mk m.kind m.ver (Place.mk (0:Int) (0:Int)) (T.mk (0:Int) (0:Int) (0:Int) (0:Int) (0:Int) (0:Int)) [] [] (Dl.mk [] [] []) (0:Int) [] false (0:Int)))then(130:Int)else(0:Int)
def mck_side(m:Ms):Prop:=
 ((m.kind==(1:Int))=true->((tck_F m.t==(0:Int))=true->decide ((↑m.recs.length:Int)>=(1:Int))=true->decide ((↑m.recs.length:Int)<=(64:Int))=true->eR.okL m.recs)/\((!!(tck_F m.t==(0:Int)&&(decide ((↑m.recs.length:Int)>=(1:Int))&&(decide ((↑m.recs.length:Int)<=(64:Int))&&!badR (eR.ag m.recs)))))=true->(!decide (m.ver<(0:Int)))=true->eC.okL m.changes)/\((!!(tck_F m.t==(0:Int)&&(decide ((↑m.recs.length:Int)>=(1:Int))&&(decide ((↑m.recs.length:Int)<=(64:Int))&&!badR (eR.ag m.recs)))))=true->(!decide (m.ver<(0:Int)))=true->eI.okL m.dl.drop)/\((!!(tck_F m.t==(0:Int)&&(decide ((↑m.recs.length:Int)>=(1:Int))&&(decide ((↑m.recs.length:Int)<=(64:Int))&&!badR (eR.ag m.recs)))))=true->(!decide (m.ver<(0:Int)))=true->eD.okL m.dl.put)/\((!!(tck_F m.t==(0:Int)&&(decide ((↑m.recs.length:Int)>=(1:Int))&&(decide ((↑m.recs.length:Int)<=(64:Int))&&!badR (eR.ag m.recs)))))=true->(!decide (m.ver<(0:Int)))=true->eV.okL m.dl.moves)/\((!!(tck_F m.t==(0:Int)&&(decide ((↑m.recs.length:Int)>=(1:Int))&&(decide ((↑m.recs.length:Int)<=(64:Int))&&!badR (eR.ag m.recs)))))=true->(!decide (m.ver<(0:Int)))=true->eN.okL m.ents))/\((m.kind==(1:Int))=false->((m.kind==(2:Int))=true->(decide ((↑m.changes.length:Int)>=(1:Int))=true->decide ((↑m.changes.length:Int)<=(512:Int))=true->eC.okL m.changes)/\((!!(decide ((↑m.changes.length:Int)>=(1:Int))&&(decide ((↑m.changes.length:Int)<=(512:Int))&&!badC (eC.ag m.changes))))=true->(!decide (m.ver<(0:Int)))=true->eR.okL m.recs)/\((!!(decide ((↑m.changes.length:Int)>=(1:Int))&&(decide ((↑m.changes.length:Int)<=(512:Int))&&!badC (eC.ag m.changes))))=true->(!decide (m.ver<(0:Int)))=true->eI.okL m.dl.drop)/\((!!(decide ((↑m.changes.length:Int)>=(1:Int))&&(decide ((↑m.changes.length:Int)<=(512:Int))&&!badC (eC.ag m.changes))))=true->(!decide (m.ver<(0:Int)))=true->eD.okL m.dl.put)/\((!!(decide ((↑m.changes.length:Int)>=(1:Int))&&(decide ((↑m.changes.length:Int)<=(512:Int))&&!badC (eC.ag m.changes))))=true->(!decide (m.ver<(0:Int)))=true->eV.okL m.dl.moves)/\((!!(decide ((↑m.changes.length:Int)>=(1:Int))&&(decide ((↑m.changes.length:Int)<=(512:Int))&&!badC (eC.ag m.changes))))=true->(!decide (m.ver<(0:Int)))=true->eN.okL m.ents))/\((m.kind==(2:Int))=false->((m.kind==(3:Int))=true->((!!(decide (m.cut>=(0:Int))&&decide (m.cut<=(1073741824:Int))))=true->(!decide (m.ver<(0:Int)))=true->eR.okL m.recs)/\((!!(decide (m.cut>=(0:Int))&&decide (m.cut<=(1073741824:Int))))=true->(!decide (m.ver<(0:Int)))=true->eC.okL m.changes)/\((!!(decide (m.cut>=(0:Int))&&decide (m.cut<=(1073741824:Int))))=true->(!decide (m.ver<(0:Int)))=true->eN.okL m.ents))/\((m.kind==(3:Int))=false->((m.kind==(4:Int))=true->((!decide (m.ver<(0:Int)))=true->eR.okL m.recs)/\((!decide (m.ver<(0:Int)))=true->eC.okL m.changes)/\((!decide (m.ver<(0:Int)))=true->eI.okL m.dl.drop)/\((!decide (m.ver<(0:Int)))=true->eD.okL m.dl.put)/\((!decide (m.ver<(0:Int)))=true->eV.okL m.dl.moves)/\((!decide (m.ver<(0:Int)))=true->eN.okL m.ents))/\((m.kind==(4:Int))=false->(m.kind==(6:Int)&&!(m.why==(0:Int))==m.yes)=false->(!m.kind==(6:Int)&&!m.kind==(5:Int))=false->((!!(decide ((↑m.ents.length:Int)<=(1024:Int))&&(m.yes||(↑m.ents.length:Int)==(0:Int))))=true->(!decide (m.ver<(0:Int)))=true->eR.okL m.recs)/\((!!(decide ((↑m.ents.length:Int)<=(1024:Int))&&(m.yes||(↑m.ents.length:Int)==(0:Int))))=true->(!decide (m.ver<(0:Int)))=true->eC.okL m.changes)/\((!!(decide ((↑m.ents.length:Int)<=(1024:Int))&&(m.yes||(↑m.ents.length:Int)==(0:Int))))=true->(!decide (m.ver<(0:Int)))=true->eI.okL m.dl.drop)/\((!!(decide ((↑m.ents.length:Int)<=(1024:Int))&&(m.yes||(↑m.ents.length:Int)==(0:Int))))=true->(!decide (m.ver<(0:Int)))=true->eD.okL m.dl.put)/\((!!(decide ((↑m.ents.length:Int)<=(1024:Int))&&(m.yes||(↑m.ents.length:Int)==(0:Int))))=true->(!decide (m.ver<(0:Int)))=true->eV.okL m.dl.moves)))))
theorem mck_okS(pre:DA.T aM->List Prop)(h:∀g,DA.bd aM g->(∀p∈pre g,p)->mck_side g):FnPure Tryd.prog 80 aM dI (λg=>mck_F g) pre:=pure_of_sideS (Γ:=(PTab.gamz tabF4 [] [])) (Λ:=noΛ) (PTab.okz tabF4 [] []) noΛ_ok 100 default (λg=>mck_side g) (λg=>by kernel_rfl) (λg=>by kernel_rfl) h
end Go.Proofs.YtfkdbifgppfegaaDoor

namespace Go.Proofs.YtfkdbifgppfegaaDoor
open Go.RowKit Go.Sx
set_option maxRecDepth 100000
noncomputable def rbr_F(m:Ms):Dv.T dMs:=
 bif m.kind==(1:Int)then Ms.mk m.kind m.ver m.p m.t (eR.ag m.recs) [] (Dl.mk [] [] []) (0:Int) [] false (0:Int)
 else bif m.kind==(2:Int)then Ms.mk m.kind m.ver (Place.mk (0:Int) (0:Int)) (T.mk (0:Int) (0:Int) (0:Int) (0:Int) (0:Int) (0:Int)) [] (eC.ag m.changes) (Dl.mk [] [] []) (0:Int) [] false (0:Int)else bif m.kind==(3:Int)then Ms.mk m.kind m.ver (Place.mk (0:Int) (0:Int)) (T.mk (0:Int) (0:Int) (0:Int) (0:Int) (0:Int) (0:Int)) [] [] (Dl.mk (eI.ag m.dl.drop) (eD.ag m.dl.put) (eV.ag m.dl.moves)) m.cut [] false (0:Int)else bif m.kind==(5:Int)then Ms.mk m.kind m.ver (Place.mk (0:Int) (0:Int)) (T.mk (0:Int) (0:Int) (0:Int) (0:Int) (0:Int) (0:Int)) [] [] (Dl.mk [] [] []) (0:Int) (eN.ag m.ents) m.yes (0:Int)else bif m.kind==(6:Int)then Ms.mk m.kind m.ver (Place.mk (0:Int) (0:Int)) (T.mk (0:Int) (0:Int) (0:Int) (0:Int) (0:Int) (0:Int)) [] [] (Dl.mk [] [] []) (0:Int) (eN.ag m.ents) m.yes m.why else Ms.mk m.kind m.ver (Place.mk (0:Int) (0:Int)) (T.mk (0:Int) (0:Int) (0:Int) (0:Int) (0:Int) (0:Int)) [] [] (Dl.mk [] [] []) (0:Int) [] false (0:Int)
def rbr_side(m:Ms):Prop:=
 ((m.kind==(1:Int))=true->eR.okL m.recs)/\((m.kind==(1:Int))=false->((m.kind==(2:Int))=true->eC.okL m.changes)/\((m.kind==(2:Int))=false->((m.kind==(3:Int))=true->eI.okL m.dl.drop/\eD.okL m.dl.put/\eV.okL m.dl.moves)/\((m.kind==(3:Int))=false->((m.kind==(5:Int))=true->eN.okL m.ents)/\((m.kind==(5:Int))=false->(m.kind==(6:Int))=true->eN.okL m.ents))))
theorem rbr_okS(pre:DA.T aM->List Prop)(h:∀g,DA.bd aM g->(∀p∈pre g,p)->rbr_side g):FnPure Tryd.prog 91 aM dMs (λg=>rbr_F g) pre:=pure_of_sideS (Γ:=(PTab.gamz tabF4 [(4000000,0)] [])) (Λ:=noΛ) (PTab.okz tabF4 [(4000000,0)] []) noΛ_ok 100 default (λg=>rbr_side g) (λg=>by kernel_rfl) (λg=>by kernel_rfl) h
end Go.Proofs.YtfkdbifgppfegaaDoor

namespace Go.Proofs.YtfkdbifgppfegaaDoor
open Go.RowKit Go.Sx Go.Lp
theorem rbr_ok:FnPure Tryd.prog 91 aM dMs (λm=>rbr_F m) (λ_=>[]):=rbr_okS (λ_=>[]) λm _ _=>by
 show rbr_side m;unfold rbr_side;simp only[El.okL_eq,implies_true,and_self,true_and]
 try (repeat' (first|trivial|apply And.intro|intro _))
 try (all_goals (exact absurd ‹_› (Nat.not_lt_zero _)))
noncomputable def tabF8:PTab Tryd.prog:=tabF4.cons 91 (pconR aM dMs (λm=>rbr_F m) (λ_=>[])) (conR_ok rbr_ok)
end Go.Proofs.YtfkdbifgppfegaaDoor
