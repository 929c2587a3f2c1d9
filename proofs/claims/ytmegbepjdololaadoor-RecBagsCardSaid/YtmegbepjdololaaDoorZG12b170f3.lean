/- Chapter 5: the kit's SortFunc at bags. Laid by lay.py, with a tail. -/
import Derived.Test.YtmegbepjdololaaDoorZG1196e600
import Derived.Test.YtmegbepjdololaaDoorZG073d212a
import Derived.Test.YtmegbepjdololaaDoorZG060d0332
import Derived.Test.YtmegbepjdololaaDoorZG08081c29
set_option linter.unusedVariables false
set_option linter.unusedSimpArgs false
set_option linter.constructorNameAsVariable false
set_option linter.all false

namespace Go.Proofs.YtmegbepjdololaaDoor
open Go.RowKit Go.Sx Go.Lp Go.Shelf Go.Sort
def sortM_ren:Go.Shelf.Ren:=⟨fun | 6=>115 | 15=>127 | 14=>126 | 28=>142 | 29=>143 | 20=>134 | 21=>135 | 22=>136 | 23=>137 | 24=>138 | 25=>139 | 26=>140 | 27=>141 | 46=>145 | 47=>146 | 48=>147 | 49=>148 | 50=>149 | 57=>150 | n=>n,fun | 22=>34 | 24=>84 | 25=>135 | 3=>3 | 39=>112 | 0=>0 | 53=>159 | 55=>139 | 4=>4 | 46=>152 | 45=>151 | 50=>156 | 5=>5 | 9=>9 | 66=>163 | 70=>167 | 76=>169 | 77=>123 | n=>n,fun | n=>n⟩
theorem sortM:SlLaysF0.n6 Tryd.prog sortM_ren:={
 mixed:=by kernel_rfl,
 f6:=⟨Tryd.f115.name,by decide,Tryd.func115.trans (congrArg some (by kernel_rfl))⟩,
 f14:=⟨Tryd.f126.name,by decide,Tryd.func126.trans (congrArg some (by kernel_rfl))⟩,
 f15:=Tryd.func127.trans (congrArg some (by kernel_rfl)),
 f20:=⟨Tryd.f134.name,by decide,Tryd.func134.trans (congrArg some (by kernel_rfl))⟩,
 f21:=⟨Tryd.f135.name,by decide,Tryd.func135.trans (congrArg some (by kernel_rfl))⟩,
 f22:=⟨Tryd.f136.name,by decide,Tryd.func136.trans (congrArg some (by kernel_rfl))⟩,
 f23:=⟨Tryd.f137.name,by decide,Tryd.func137.trans (congrArg some (by kernel_rfl))⟩,
 f24:=⟨Tryd.f138.name,by decide,Tryd.func138.trans (congrArg some (by kernel_rfl))⟩,
 f25:=⟨Tryd.f139.name,by decide,Tryd.func139.trans (congrArg some (by kernel_rfl))⟩,
 f26:=⟨Tryd.f140.name,by decide,Tryd.func140.trans (congrArg some (by kernel_rfl))⟩,
 f27:=⟨Tryd.f141.name,by decide,Tryd.func141.trans (congrArg some (by kernel_rfl))⟩,
 f28:=Tryd.func142.trans (congrArg some (by kernel_rfl)),
 f29:=Tryd.func143.trans (congrArg some (by kernel_rfl)),
 f46:=⟨Tryd.f145.name,by decide,Tryd.func145.trans (congrArg some (by kernel_rfl))⟩,
 f47:=Tryd.func146.trans (congrArg some (by kernel_rfl)),
 f48:=Tryd.func147.trans (congrArg some (by kernel_rfl)),
 f49:=⟨Tryd.f148.name,by decide,Tryd.func148.trans (congrArg some (by kernel_rfl))⟩,
 f50:=⟨Tryd.f149.name,by decide,Tryd.func149.trans (congrArg some (by kernel_rfl))⟩,
 f57:=⟨Tryd.f150.name,by decide,Tryd.func150.trans (congrArg some (by kernel_rfl))⟩,
 t0:=Tryd.underlying0,
 a0:=Tryd.isAgg0,
 z0:=Tryd.sizeOf0,
 v0:=Tryd.zeroValue0,
 t3:=Tryd.underlying3,
 a3:=Tryd.isAgg3,
 z3:=Tryd.sizeOf3,
 v3:=Tryd.zeroValue3,
 t4:=Tryd.underlying4,
 a4:=Tryd.isAgg4,
 z4:=Tryd.sizeOf4,
 v4:=Tryd.zeroValue4,
 t5:=Tryd.underlying5,
 a5:=Tryd.isAgg5,
 z5:=Tryd.sizeOf5,
 v5:=Tryd.zeroValue5,
 t9:=Tryd.underlying9,
 a9:=Tryd.isAgg9,
 z9:=Tryd.sizeOf9,
 v9:=Tryd.zeroValue9,
 t22:=Tryd.underlying34,
 a22:=Tryd.isAgg34,
 z22:=Tryd.sizeOf34,
 v22:=Tryd.zeroValue34,
 t25:=Tryd.underlying135,
 a25:=Tryd.isAgg135,
 z25:=Tryd.sizeOf135,
 v25:=Tryd.zeroValue135,
 t39:=Tryd.underlying112,
 a39:=Tryd.isAgg112,
 z39:=Tryd.sizeOf112,
 v39:=Tryd.zeroValue112,
 t45:=Tryd.underlying151,
 a45:=Tryd.isAgg151,
 z45:=Tryd.sizeOf151,
 v45:=Tryd.zeroValue151,
 t46:=Tryd.underlying152,
 a46:=Tryd.isAgg152,
 z46:=Tryd.sizeOf152,
 v46:=Tryd.zeroValue152,
 t50:=Tryd.underlying156,
 a50:=Tryd.isAgg156,
 z50:=Tryd.sizeOf156,
 v50:=Tryd.zeroValue156,
 t53:=Tryd.underlying159,
 a53:=Tryd.isAgg159,
 z53:=Tryd.sizeOf159,
 v53:=Tryd.zeroValue159,
 t55:=Tryd.underlying139,
 a55:=Tryd.isAgg139,
 z55:=Tryd.sizeOf139,
 v55:=Tryd.zeroValue139,
 t66:=Tryd.underlying163,
 a66:=Tryd.isAgg163,
 z66:=Tryd.sizeOf163,
 v66:=Tryd.zeroValue163,
 t70:=Tryd.underlying167,
 a70:=Tryd.isAgg167,
 z70:=Tryd.sizeOf167,
 v70:=Tryd.zeroValue167,
 t76:=Tryd.underlying169,
 a76:=Tryd.isAgg169,
 z76:=Tryd.sizeOf169,
 v76:=Tryd.zeroValue169,
 t77:=Tryd.underlying123,
 a77:=Tryd.isAgg123,
 z77:=Tryd.sizeOf123,
 v77:=Tryd.zeroValue123 }
theorem cmpR_neg (a b:Rec):cmpR a b<0↔rlt a b:=by
 unfold cmpR
 by_cases h:rlt a b
 ·simp[h]
 ·rw[if_neg h]
  refine ⟨fun h2=>?_,fun h2=>absurd h2 h⟩
  split at h2 <;> omega
theorem rlt_irrefl (a:Rec):¬ rlt a a:=by
 rintro (h | ⟨_,h⟩)
 ·omega
 ·exact tlt_irrefl _ h
theorem rlt_trans {a b c:Rec} (h:rlt a b) (h':rlt b c):rlt a c:=by
 rcases h with h | ⟨h1,h2⟩
 ·rcases h' with h' | ⟨h1',_⟩
  ·exact .inl (by omega)
  ·exact .inl (by omega)
 ·rcases h' with h' | ⟨h1',h2'⟩
  ·exact .inl (by omega)
  ·exact .inr ⟨by omega,tlt_trans h2 h2'⟩
theorem tlt_total {a b:BA} (h:¬ tlt a b) (h':¬ tlt b a):a=b:=by
 rw[← toL_iff]
 exact List.le_antisymm (List.not_lt.1 h') (List.not_lt.1 h)
theorem rlt_total {a b:Rec} (h:¬ rlt a b) (h':¬ rlt b a):a=b:=by
 have hk:a.key=b.key:=by
  have h1:¬ a.key<b.key:=fun x=>h (.inl x)
  have h2:¬ b.key<a.key:=fun x=>h' (.inl x)
  omega
 exact rec_ext' hk (tlt_total (fun x=>h (.inr ⟨hk,x⟩)) (fun x=>h' (.inr ⟨hk.symm,x⟩)))
theorem toR:TO cmpR where
 swo:={
  irrefl:=fun x=>decide_eq_false (by rw[cmpR_neg];exact rlt_irrefl x)
  trans:=fun x y z h1 h2=>by
   simp only[decide_eq_true_eq,cmpR_neg] at h1 h2 ⊢
   exact rlt_trans h1 h2
  ntrans:=fun x y z h1 h2=>by
   simp only[decide_eq_false_iff_not,cmpR_neg] at h1 h2 ⊢
   intro h3
   by_cases h4:rlt y x
   ·exact h2 (rlt_trans h4 h3)
   ·have:=rlt_total h1 h4
    subst this
    exact h2 h3 }
 anti:=fun x y h1 h2=>by
  rw[cmpR_neg] at h1 h2
  exact rlt_total h1 h2
def cmpM (a b:Many):Int:=cmpR a.r b.r
theorem swoM:SWO fun x y:Many=>decide (cmpM x y<0) where
 irrefl:=fun x=>toR.swo.irrefl x.r
 trans:=fun x y z h1 h2=>toR.swo.trans x.r y.r z.r h1 h2
 ntrans:=fun x y z h1 h2=>toR.swo.ntrans x.r y.r z.r h1 h2
abbrev dUn0:Dv Unit:=.tup .none
abbrev aFn116:DA Unit:=.one (dFn 116)
def preSort (xs:List Many) (_:Unit):List Prop:=[xs.length<4611686018427387904,Anti cmpM xs]
theorem sortF_ok:FnMut Tryd.prog 115 84 eM aFn116 (.pure dUn0) (fun xs _=>(srtBy cmpM xs,())) preSort:=by
 have h:=sort_mut (P:=Tryd.prog) (A:=eM) (t:=84) (g:=116) (cf:=cmpM) (pre:=fun _=>[]) sortM Tryd.isAgg84 Tryd.sizeOf84 (by decide) (Go.Proofs.enters_of Tryd.func116 (by kernel_rfl) rfl) swoM mcf_ok
 intro w F L xs g v0 vs h1 h2 hE h3 h4 h5 h6
 refine h w F L xs g v0 vs h1 h2 hE h3 (fun p hp=>?_) h5 h6
 simp only[List.mem_cons,List.not_mem_nil,or_false] at hp
 rcases hp with rfl | rfl | rfl
 ·exact h4 _ (List.mem_cons_self ..)
 ·exact h4 _ (List.mem_cons_of_mem _ (List.mem_cons_self ..))
 ·exact fun x _ y _ p hp=>by cases hp
noncomputable def tabO5:MTab Tryd.prog:=(MTab.of tabG6).consM 115 (bconM 84 eM aFn116 (.pure dUn0) (fun xs _=>(srtBy cmpM xs,())) preSort) (conM_ok sortF_ok)
end Go.Proofs.YtmegbepjdololaaDoor

namespace Go.Proofs.YtmegbepjdololaaDoor
open Go.RowKit Go.Sx
set_option maxRecDepth 100000
set_option linter.unusedVariables false
abbrev dLME:Dv (List Many×Int):=.tup (.cons dLM (.one dI))
abbrev aPut:DA (List Many×Rec×Int):=.cons dLM (.cons dR (.one dI))
abbrev aLM5:DA (List Many):=.one dLM
abbrev rLM5:Rv (List Many):=.list eM
noncomputable def put5_q1 (l:List Many) (r:Rec) (n:Int):Ex ×
 pu_G:=
 loopF (fun g=>pu_R g.fst g.snd.fst g.snd.snd.fst g.snd.snd.snd.fst g.snd.snd.snd.snd.fst g.snd.snd.snd.snd.snd.fst g.snd.snd.snd.snd.snd.snd) pu_M ((),r,eM.ag l,n,(0:Int),false,[])
noncomputable def put5_F (l:List Many) (r:Rec) (n:Int):Rv.T rLM5:=
 bif !(put5_q1 l r n).snd.snd.snd.snd.snd.snd.fst then eM.lst (min ((put5_q1 l r n).snd.snd.snd.snd.snd.snd.snd.length+(1:Nat)) (put5_q1 l r n).snd.snd.snd.snd.snd.snd.snd.length) (eM.els (put5_q1 l r n).snd.snd.snd.snd.snd.snd.snd)++List.map (fun x=>Many.mk (put5_q1 l r n).snd.snd.fst (put5_q1 l r n).snd.snd.snd.snd.fst) (List.range ((put5_q1 l r n).snd.snd.snd.snd.snd.snd.snd.length+(1:Nat) - (put5_q1 l r n).snd.snd.snd.snd.snd.snd.snd.length))
 else eM.ag (put5_q1 l r n).snd.snd.snd.snd.snd.snd.snd
def put5_side (l:List Many) (r:Rec) (n:Int):Prop:=
 eM.okL l∧Lp.ixJ (fun c=>(↑c.snd.fst.length:Int)) (fun c=>c.snd.fst) pu_K (pu_f ((),r,eM.ag l,n,(0:Int),false,[]))∧((!(put5_q1 l r n).snd.snd.snd.snd.snd.snd.fst)=true→((put5_q1 l r n).snd.snd.snd.snd.snd.snd.snd.length≤(put5_q1 l r n).snd.snd.snd.snd.snd.snd.snd.length∧True∧(put5_q1 l r n).snd.snd.snd.snd.snd.snd.snd.length+(1:Nat)≤maxLen∧((put5_q1 l r n).snd.snd.snd.snd.snd.snd.snd.length+(1:Nat)) * Tryd.prog.types[(84:Nat)].bytes≤(140737488355328:Nat))∧(put5_q1 l r n).snd.snd.snd.snd.snd.snd.snd.length+(1:Nat)≤(put5_q1 l r n).snd.snd.snd.snd.snd.snd.snd.length+(1:Nat)∧(∀ (e:Nat),e<min ((put5_q1 l r n).snd.snd.snd.snd.snd.snd.snd.length+(1:Nat)) (put5_q1 l r n).snd.snd.snd.snd.snd.snd.snd.length→True)∧∀ (e:Nat),e<(put5_q1 l r n).snd.snd.snd.snd.snd.snd.snd.length+(1:Nat) - (put5_q1 l r n).snd.snd.snd.snd.snd.snd.snd.length→True)∧((!(put5_q1 l r n).snd.snd.snd.snd.snd.snd.fst)=false→(put5_q1 l r n).snd.snd.snd.snd.snd.snd.snd.length≤(put5_q1 l r n).snd.snd.snd.snd.snd.snd.snd.length∧∀ (e:Nat),e<(put5_q1 l r n).snd.snd.snd.snd.snd.snd.snd.length→True)
theorem put5_okS (pre:DA.T aPut→List Prop) (h:∀ g,DA.bd aPut g→(∀ p∈pre g,p)→put5_side g.1 g.2.1 g.2.2):FnPure Tryd.prog 75 aPut (Rv.D rLM5) (fun g=>put5_F g.1 g.2.1 g.2.2) pre:=res_of_side (R:=rLM5) (Γ:=(MTab.gamz tabO5 [] [])) (Λ:=lamO3) (MTab.okz tabO5 [] []) lamO3_ok 100 default (fun g=>put5_side g.1 g.2.1 g.2.2) (fun g=>by kernel_rfl) (fun g=>by kernel_rfl) h
noncomputable def ovr_q1 (l:List Many):Ex×ov_G:=
 loopF (fun g=>ov_R g.fst g.snd.fst g.snd.snd) ov_M (eM.ag l,(0:Int),(0:Int))
noncomputable def ovr_F (l:List Many):Dv.T dI:=
 bif exB Ex.ret (ovr_q1 l).fst then (ovr_q1 l).snd.snd.snd else (0:Int)
def ovr_side (l:List Many):Prop:=
 eM.okL l∧Lp.ixJ (fun c=>(↑(List.length c):Int)) (fun c=>c) ov_K (ov_f (eM.ag l,(0:Int),(0:Int)))
theorem ovr_okS (pre:DA.T aLM5→List Prop) (h:∀ g,DA.bd aLM5 g→(∀ p∈pre g,p)→ovr_side g):FnPure Tryd.prog 76 aLM5 dI (fun g=>ovr_F g) pre:=pure_of_sideS (Γ:=(MTab.gamz tabO5 [] [])) (Λ:=lamO3) (MTab.okz tabO5 [] []) lamO3_ok 100 default (fun g=>ovr_side g) (fun g=>by kernel_rfl) (fun g=>by kernel_rfl) h
end Go.Proofs.YtmegbepjdololaaDoor

namespace Go.Proofs.YtmegbepjdololaaDoor
open Go.RowKit Go.Sx
set_option maxRecDepth 100000
set_option linter.unusedVariables false
noncomputable def bagf_q1 (cs:List Nat) (m:List (Rec×Int)):Ex×bg_G:=
 bg_f (hdC cs) ((),(eR.pair eI).lst m.length ((eR.pair eI).els m),[],(),(0:Int))
noncomputable def bagf_F (cs:List Nat) (m:List (Rec×Int)):Dv.T dLME:=
 bif exB (Ex.exit (0:Nat)) (bagf_q1 cs m).fst then (eM.lst (bagf_q1 cs m).snd.snd.snd.fst.length (ElE.fn (eM.els (srtBy cmpM (eM.lst (bagf_q1 cs m).snd.snd.snd.fst.length (eM.els (bagf_q1 cs m).snd.snd.snd.fst))))).at,(0:Int))
 else ([],(bagf_q1 cs m).snd.snd.snd.snd.snd)
def bagf_side (cs:List Nat) (m:List (Rec×Int)):Prop:=
 (∀ (e:Nat),e<m.length→True)∧((eR.pair eI).lst m.length ((eR.pair eI).els m)).length+(0:Nat)≤(1000000:Nat)∧(exB (Ex.exit (0:Nat)) (bagf_q1 cs m).fst=true→(bagf_q1 cs m).snd.snd.snd.fst.length=(bagf_q1 cs m).snd.snd.snd.fst.length∧(∀ (e:Nat),e<(bagf_q1 cs m).snd.snd.snd.fst.length→True)∧(eM.lst (bagf_q1 cs m).snd.snd.snd.fst.length (eM.els (bagf_q1 cs m).snd.snd.snd.fst)).length<(4611686018427387904:Nat)∧Anti cmpM (eM.lst (bagf_q1 cs m).snd.snd.snd.fst.length (eM.els (bagf_q1 cs m).snd.snd.snd.fst))∧(bagf_q1 cs m).snd.snd.snd.fst.length≤(srtBy cmpM (eM.lst (bagf_q1 cs m).snd.snd.snd.fst.length (eM.els (bagf_q1 cs m).snd.snd.snd.fst))).length∧∀ (e:Nat),e<(bagf_q1 cs m).snd.snd.snd.fst.length→eM.Ok ((ElE.fn (eM.els (srtBy cmpM (eM.lst (bagf_q1 cs m).snd.snd.snd.fst.length (eM.els (bagf_q1 cs m).snd.snd.snd.fst))))).at e))
theorem bagf_okA (fn:DA.T aMap→Dv.T dLME) (pre:DA.T aMap→List Prop) (h:∀ cs g,DA.bd aMap g→(∀ p∈pre g,p)→bagf_side cs g∧bagf_F cs g=fn g):FnPure Tryd.prog 74 aMap dLME fn pre:=pure_of_sideA (Γ:=(MTab.gamz tabO5 [] [])) (Λ:=lamO3) (MTab.okz tabO5 [] []) lamO3_ok 100 default (fun cs g=>bagf_side cs g) (fun cs g=>bagf_F cs g) (fun cs g=>by kernel_rfl) (fun cs g=>by kernel_rfl) h
end Go.Proofs.YtmegbepjdololaaDoor

namespace Go.Proofs.YtmegbepjdololaaDoor
open Go.RowKit Go.Sx Go.Lp
set_option maxRecDepth 100000
def putL (r:Rec) (n:Int) (xs:List Many):List Many:=bif !(xs.foldl (puStep r n) (false,[])).1 then (xs.foldl (puStep r n) (false,[])).2++[⟨r,n⟩] else (xs.foldl (puStep r n) (false,[])).2
theorem put5_eq (l:List Many) (r:Rec) (n:Int) (h:l.length≤1000000):put5_side l r n∧put5_F l r n=putL r n l:=by
 have hr:=pu_run r l n h
 have hq:put5_q1 l r n=loopF pu_RR pu_M (pu_g (0,(r,l,n),((),false,[]))):=by
  unfold put5_q1
  rw[El.ag_eq]
  rfl
 rw[hr] at hq
 have hlen:∀ (l:List Many) (b:Bool×List Many),(l.foldl (puStep r n) b).2.length≤b.2.length+2 * l.length:=by
  intro l
  induction l with
  | nil=>intro b;exact Nat.le_refl _
  | cons a l ih=>
   intro b
   have h1:=ih (puStep r n b a)
   have h2:=puStep_len r n b a
   rw[List.foldl_cons,List.length_cons]
   omega
 have hl:=hlen l (false,[])
 have e0:(([]:List Many)).length=0:=rfl
 unfold put5_side put5_F putL
 rw[hq]
 simp only[pu_g,El.okL_eq,El.ag_eq,bytM]
 generalize l.foldl (puStep r n) (false,[])=b at hl ⊢
 have hl:b.2.length≤2000000:=by
  simp only at hl
  omega
 refine ⟨⟨trivial,?_,?_⟩,?_⟩
 ·exact ⟨rfl,Nat.le_trans h (by decide),Int.le_refl _,by show (0:Int)≤_;omega,h,by show (0:Int)≤0;decide⟩
 ·unfold maxLen
  repeat' (first | apply And.intro | intro _)
  all_goals first | trivial | omega
 ·cases b.1 with
  | true=>rfl
  | false=>exact ap1M _ _
theorem put5_ok:FnPure Tryd.prog 75 aPut (Rv.D rLM5) (fun g=>putL g.2.1 g.2.2 g.1) (fun g=>[g.1.length≤1000000]):=
 pure_congr (put5_okS _ fun g _ hp=>(put5_eq g.1 g.2.1 g.2.2 (hp _ (List.mem_cons_self ..))).1) fun g _ hp=>(put5_eq g.1 g.2.1 g.2.2 (hp _ (List.mem_cons_self ..))).2
def overC (l:List Many):Int:=bif l.any (fun v=>decide (v.n > 1048576)) then 51 else 0
theorem ovr_eq (l:List Many) (h:l.length≤KB):ovr_side l∧ovr_F l=overC l:=by
 have hm:l.length≤maxLen:=by unfold KB at h;unfold maxLen;omega
 have h1:=ov_run l (0:Int) rfl hm trivial
 have hq:ovr_q1 l=loopF ov_RR ov_M (ov_g (0,l,0)):=by
  unfold ovr_q1
  rw[El.ag_eq]
  rfl
 rw[h1] at hq
 unfold ovr_side ovr_F overC
 rw[hq,El.okL_eq,El.ag_eq]
 refine ⟨⟨trivial,rfl,hm,Int.le_refl _,by show (0:Int)≤_;omega,trivial⟩,?_⟩
 rcases search (x:=0) (st:=ov_S l) (p:=fun v=>decide (v.n > (1048576:Int))) (r:=fun _ _ _=>(51:Int)) (fun _ _ _=>rfl) l (0:Int) with ⟨ha,j,hj,a,haa,hp,h3⟩ | ⟨ha,h3⟩
 ·have h3:scan 0 (ov_S l) 0 l (0:Int)=_:=h3
  rw[h3,ha];rfl
 ·have h3:scan 0 (ov_S l) 0 l (0:Int)=_:=h3
  rw[h3,ha];rfl
theorem ovr_ok:FnPure Tryd.prog 76 aLM5 dI overC (fun g=>[g.length≤KB]):=
 pure_congr (ovr_okS _ fun g _ hp=>(ovr_eq g (hp _ (List.mem_cons_self ..))).1) fun g _ hp=>(ovr_eq g (hp _ (List.mem_cons_self ..))).2
def mkM (e:Rec×Int):Many:=⟨e.1,e.2⟩
noncomputable def bagE (m:List (Rec×Int)):List Many×Int:=bif m.any bgP then ([],51) else (srtBy cmpM (m.map mkM),0)
theorem inj_pw:∀ {l:List Many},l.Pairwise (fun a b=>a.r≠b.r)→∀ {x y:Many},x∈l→y∈l→x.r=y.r→x=y
 | [],_,_,_,hx,_,_=>by cases hx
 | a :: l,h,x,y,hx,hy,e=>by
  rw[List.pairwise_cons] at h
  rcases List.mem_cons.1 hx with h1 | h1
  ·rcases List.mem_cons.1 hy with h2 | h2
   ·rw[h1,h2]
   ·exact absurd (h1▸e) (h.1 _ h2)
  ·rcases List.mem_cons.1 hy with h2 | h2
   ·exact absurd (h2▸e).symm (h.1 _ h1)
   ·exact inj_pw h.2 h1 h2 e
theorem anti_pw {l:List Many} (h:l.Pairwise fun a b=>a.r≠b.r):Anti cmpM l:=fun x hx y hy h1 h2=>inj_pw h hx hy (toR.anti _ _ h1 h2)
def KdE (m:List (Rec×Int)):Prop:=m.Pairwise fun a b=>a.1≠b.1
theorem kd_mk {m:List (Rec×Int)} (h:KdE m):(m.map mkM).Pairwise fun a b=>a.r≠b.r:=by
 rw[List.pairwise_map]
 exact h
theorem bagf_eq (cs:List Nat) (m:List (Rec×Int)) (h1:m.length≤1000000) (h2:KdE m):bagf_side cs m∧bagf_F cs m=bagE m:=by
 have hP:(permL m.length (hdC cs) m).Perm m:=permL_perm _ _ _ rfl
 have hq:bagf_q1 cs m=bg_f (hdC cs) ((),m,[],(),0):=by
  unfold bagf_q1
  rw[El.lst_els]
 have hb:∀ (l:List (Rec×Int)) (b:List Many×Int),l.foldl (fun (b:List Many×Int) e=>(b.1++[(⟨e.1,e.2⟩:Many)],b.2)) b=(b.1++l.map mkM,b.2):=by
  intro l
  induction l with
  | nil=>intro b;simp
  | cons a l ih=>intro b;rw[List.foldl_cons,ih];simp[mkM]
 have hany:(permL m.length (hdC cs) m).any bgP=m.any bgP:=by
  rw[Bool.eq_iff_iff,List.any_eq_true,List.any_eq_true]
  constructor
  ·rintro ⟨x,hx,hp⟩;exact ⟨x,hP.mem_iff.1 hx,hp⟩
  ·rintro ⟨x,hx,hp⟩;exact ⟨x,hP.mem_iff.2 hx,hp⟩
 unfold bagf_side bagf_F bagE
 rw[hq]
 unfold bg_f bg_up
 simp only[El.lst_els]
 rcases scanL_bad (x:=0) (st:=bg_S) (ex:=.ret) (p:=bgP) (r:=fun _ b=>(b.1,(51:Int))) (f:=fun b e=>(b.1++[(⟨e.1,e.2⟩:Many)],b.2)) (by simp) (fun _ _=>rfl) (permL m.length (hdC cs) m) ([],0) with ⟨ha,a,b',_,_,h3⟩ | ⟨ha,h3⟩
 ·rw[h3,← hany,ha]
  exact ⟨⟨fun _ _=>trivial,h1,fun h=>(by cases h)⟩,rfl⟩
 ·rw[h3,← hany,ha,hb]
  have hp2:((permL m.length (hdC cs) m).map mkM).Perm (m.map mkM):=hP.map _
  have hkd:=kd_mk h2
  have hkd2:((permL m.length (hdC cs) m).map mkM).Pairwise fun a b=>a.r≠b.r:=(List.Perm.pairwise_iff (fun h=>Ne.symm h) hp2).2 hkd
  have hs:srtBy cmpM ((permL m.length (hdC cs) m).map mkM)=srtBy cmpM (m.map mkM):=srtBy_unique swoM (anti_pw hkd) ((srtBy_perm _ _).trans hp2) (srtBy_sorted _ swoM _)
  have hl:((permL m.length (hdC cs) m).map mkM).length=m.length:=by rw[hp2.length_eq,List.length_map]
  have hls:(srtBy cmpM ((permL m.length (hdC cs) m).map mkM)).length=m.length:=by rw[(srtBy_perm _ _).length_eq,hl]
  simp only[List.nil_append]
  refine ⟨⟨fun _ _=>trivial,h1,fun _=>⟨trivial,fun _ _=>trivial,by omega,anti_pw hkd2,by rw[hls];omega,fun e _=>eM.ok_els _ e⟩⟩,?_⟩
  show (eM.lst _ (eM.els (srtBy cmpM ((permL m.length (hdC cs) m).map mkM))),(0:Int))=_
  have h5:=eM.lst_els (srtBy cmpM (m.map mkM))
  rw[← hs,hls] at h5
  rw[hl,h5,hs]
  rfl
theorem bagf_ok:FnPure Tryd.prog 74 aMap dLME bagE (fun m=>[m.length≤1000000,KdE m]):=
 bagf_okA bagE _ fun cs m _ hp=>bagf_eq cs m (hp _ (List.mem_cons_self ..)) (hp _ (List.mem_cons_of_mem _ (List.mem_cons_self ..)))
noncomputable def tabO8:MTab Tryd.prog:=((tabO5.cons 75 (pconR aPut (Rv.D rLM5) (fun g=>putL g.2.1 g.2.2 g.1) (fun g=>[g.1.length≤1000000])) (conR_ok put5_ok)).cons 76 (pconP aLM5 dI overC (fun g=>[g.length≤KB])) (conP_ok ovr_ok puI)).consM 74 (mconR true false eR eI DA.none dLME (fun g=>bagE g.1) (fun g=>[g.1.length≤1000000,KdE g.1])) (conMp_ok (pure_none bagf_ok))
end Go.Proofs.YtmegbepjdololaaDoor

namespace Go.Proofs.YtmegbepjdololaaDoor
open Go.RowKit Go.Sx
set_option maxRecDepth 100000
set_option linter.unusedVariables false
abbrev cbg_G:Type:=List Many×List Many×Int×Int×Int
noncomputable def cbg_LP:LP 0 cbg_G:=.pair (.slot 0 0 dLM) (.pair (.slot 0 7 dLM) (.pair (.slot 0 8 dI) (.pair (.slot 0 9 dI) (.slot 0 2 dI))))
noncomputable def cbg_R (xs:List Many) (ys:List Many) (n:Int) (i:Int) (r:Int):Ex×cbg_G:=
 bif decide (i<n) then bif decide ((ys.getD i.toNat eM.dflt).n<(1:Int))||(decide ((ys.getD i.toNat eM.dflt).n > (1048576:Int))||decide (i > (0:Int))&&decide (cmpR (xs.getD (IntKind.i64.wrap (i - (1:Int))).toNat eM.dflt).r (ys.getD i.toNat eM.dflt).r≥(0:Int))) then (Ex.ret,eM.ag xs,eM.ag ys,n,i,(51:Int)) else (Ex.normal,eM.ag xs,eM.ag ys,n,IntKind.i64.wrap (i+(1:Int)),r)
 else (Ex.exit (0:Nat),eM.ag xs,eM.ag ys,n,i,r)
def cbg_side (xs:List Many) (ys:List Many) (n:Int) (i:Int) (r:Int):Prop:=
 (decide (i<n)=true→((0:Int)≤i∧i<(↑ys.length:Int))∧((!decide ((ys.getD i.toNat eM.dflt).n<(1:Int)))=true→(!decide ((ys.getD i.toNat eM.dflt).n > (1048576:Int)))=true→decide (i > (0:Int))=true→(0:Int)≤IntKind.i64.wrap (i - (1:Int))∧IntKind.i64.wrap (i - (1:Int))<(↑xs.length:Int))∧((decide ((ys.getD i.toNat eM.dflt).n<(1:Int))||(decide ((ys.getD i.toNat eM.dflt).n > (1048576:Int))||decide (i > (0:Int))&&decide (cmpR (xs.getD (IntKind.i64.wrap (i - (1:Int))).toNat eM.dflt).r (ys.getD i.toNat eM.dflt).r≥(0:Int))))=true→eM.okL xs∧eM.okL ys)∧((decide ((ys.getD i.toNat eM.dflt).n<(1:Int))||(decide ((ys.getD i.toNat eM.dflt).n > (1048576:Int))||decide (i > (0:Int))&&decide (cmpR (xs.getD (IntKind.i64.wrap (i - (1:Int))).toNat eM.dflt).r (ys.getD i.toNat eM.dflt).r≥(0:Int))))=false→eM.okL xs∧eM.okL ys))∧(decide (i<n)=false→eM.okL xs∧eM.okL ys)
theorem cbg_one:((loopsOf Tryd.prog 35).filter fun c=>Nat.beq (lkey c) 4).length=1:=by kernel_rfl
abbrev cbg_GC:Type:=List Many×List Many×Int
abbrev cbg_GB:Type:=Int
def cbg_f (g:cbg_G):Int×cbg_GC×cbg_GB:=(g.2.2.2.1,(g.1,g.2.1,g.2.2.1),g.2.2.2.2)
def cbg_g (d:Int×cbg_GC×cbg_GB):cbg_G:=(d.2.1.1,d.2.1.2.1,d.2.1.2.2,d.1,d.2.2)
theorem cbg_es (g:cbg_G):(cbg_R g.1 g.2.1 g.2.2.1 g.2.2.2.1 g.2.2.2.2).1=.normal∨(cbg_R g.1 g.2.1 g.2.2.1 g.2.2.2.1 g.2.2.2.2).1∈([.ret,.exit 0]:List Ex):=by
 unfold cbg_R
 repeat' (first | (left;rfl) | (right;simp only[cond_true,cond_false];simp;done) | (rw[Bool.cond_eq_ite];split))
noncomputable abbrev cbg_C (Inv:cbg_G→List Prop) (m:cbg_G→Nat):LCon:=loopR [.ret,.exit 0] (loopBody Tryd.prog 35 4) cbg_LP [] 39 Inv (fun g=>cbg_R g.1 g.2.1 g.2.2.1 g.2.2.2.1 g.2.2.2.2) m
theorem cbg_loop (Inv:cbg_G→List Prop) (m:cbg_G→Nat) (hs:∀ g,allP (Inv g)→cbg_side g.1 g.2.1 g.2.2.1 g.2.2.2.1 g.2.2.2.2) (hg:Goes (fun g:cbg_G=>cbg_R g.1 g.2.1 g.2.2.1 g.2.2.2.1 g.2.2.2.2) m fun g=>allP (Inv g)):∀ b∈loopsOf Tryd.prog 35,lkey b=4→LoopOk Tryd.prog b (cbg_C Inv m).g:=loop_run (Γ:=(PTab.gamz tabG6 [] [])) (Λ:=lamG2) (PTab.okz tabG6 [] []) lamG2_ok 100 35 4 39 cbg_LP [] Inv (fun g=>cbg_R g.1 g.2.1 g.2.2.1 g.2.2.2.1 g.2.2.2.2) (fun g=>cbg_side g.1 g.2.1 g.2.2.1 g.2.2.2.1 g.2.2.2.2) m default [.ret,.exit 0] cbg_one (fun rd T B HL HB ds g=>by kernel_rfl) (fun rd T B HL HB ds g=>by kernel_rfl) hs hg cbg_es
abbrev bga_G:Type:=List Many×Int×Int
noncomputable def bga_LP:LP 0 bga_G:=.pair (.slot 0 0 dLM) (.pair (.slot 0 3 dI) (.slot 0 2 dI))
noncomputable def bga_R (xs:List Many) (i:Int) (r:Int):Ex×bga_G:=
 bif decide (i<(↑xs.length:Int)) then bif chkR (xs.getD i.toNat eM.dflt).r != (0:Int) then (Ex.ret,eM.ag xs,i,chkR (xs.getD i.toNat eM.dflt).r) else (Ex.normal,eM.ag xs,IntKind.i64.wrap (i+(1:Int)),r)
 else (Ex.exit (0:Nat),eM.ag xs,i,r)
def bga_side (xs:List Many) (i:Int) (r:Int):Prop:=
 (decide (i<(↑xs.length:Int))=true→((0:Int)≤i∧i<(↑xs.length:Int))∧((chkR (xs.getD i.toNat eM.dflt).r != (0:Int))=true→eM.okL xs)∧((chkR (xs.getD i.toNat eM.dflt).r != (0:Int))=false→eM.okL xs))∧(decide (i<(↑xs.length:Int))=false→eM.okL xs)
theorem bga_one:((loopsOf Tryd.prog 36).filter fun c=>Nat.beq (lkey c) 2).length=1:=by kernel_rfl
abbrev bga_GC:Type:=List Many
abbrev bga_GB:Type:=Int
def bga_f (g:bga_G):Int×bga_GC×bga_GB:=(g.2.1,g.1,g.2.2)
def bga_g (d:Int×bga_GC×bga_GB):bga_G:=(d.2.1,d.1,d.2.2)
theorem bga_es (g:bga_G):(bga_R g.1 g.2.1 g.2.2).1=.normal∨(bga_R g.1 g.2.1 g.2.2).1∈([.ret,.exit 0]:List Ex):=by
 unfold bga_R
 repeat' (first | (left;rfl) | (right;simp only[cond_true,cond_false];simp;done) | (rw[Bool.cond_eq_ite];split))
noncomputable abbrev bga_C (Inv:bga_G→List Prop) (m:bga_G→Nat):LCon:=loopR [.ret,.exit 0] (loopBody Tryd.prog 36 2) bga_LP [] 60 Inv (fun g=>bga_R g.1 g.2.1 g.2.2) m
theorem bga_loop (Inv:bga_G→List Prop) (m:bga_G→Nat) (hs:∀ g,allP (Inv g)→bga_side g.1 g.2.1 g.2.2) (hg:Goes (fun g:bga_G=>bga_R g.1 g.2.1 g.2.2) m fun g=>allP (Inv g)):∀ b∈loopsOf Tryd.prog 36,lkey b=2→LoopOk Tryd.prog b (bga_C Inv m).g:=loop_run (Γ:=(PTab.gamz tabG6 [] [])) (Λ:=lamG2) (PTab.okz tabG6 [] []) lamG2_ok 100 36 2 60 bga_LP [] Inv (fun g=>bga_R g.1 g.2.1 g.2.2) (fun g=>bga_side g.1 g.2.1 g.2.2) m default [.ret,.exit 0] bga_one (fun rd T B HL HB ds g=>by kernel_rfl) (fun rd T B HL HB ds g=>by kernel_rfl) hs hg bga_es
abbrev bgb_G:Type:=List Many×Int×Int
noncomputable def bgb_LP:LP 0 bgb_G:=.pair (.slot 0 0 dLM) (.pair (.slot 0 5 dI) (.slot 0 2 dI))
noncomputable def bgb_R (xs:List Many) (i:Int) (r:Int):Ex×bgb_G:=
 bif decide (i<(↑xs.length:Int)) then bif decide ((xs.getD i.toNat eM.dflt).n<(1:Int))||(decide ((xs.getD i.toNat eM.dflt).n > (1048576:Int))||decide (i > (0:Int))&&decide (cmpR (xs.getD (IntKind.i64.wrap (i - (1:Int))).toNat eM.dflt).r (xs.getD i.toNat eM.dflt).r≥(0:Int))) then (Ex.ret,eM.ag xs,i,(51:Int)) else (Ex.normal,eM.ag xs,IntKind.i64.wrap (i+(1:Int)),r)
 else (Ex.exit (2:Nat),eM.ag xs,i,r)
def bgb_side (xs:List Many) (i:Int) (r:Int):Prop:=
 (decide (i<(↑xs.length:Int))=true→((0:Int)≤i∧i<(↑xs.length:Int))∧((!decide ((xs.getD i.toNat eM.dflt).n<(1:Int)))=true→(0:Int)≤i∧i<(↑xs.length:Int))∧((!decide ((xs.getD i.toNat eM.dflt).n<(1:Int)))=true→(!decide ((xs.getD i.toNat eM.dflt).n > (1048576:Int)))=true→decide (i > (0:Int))=true→(0:Int)≤IntKind.i64.wrap (i - (1:Int))∧IntKind.i64.wrap (i - (1:Int))<(↑xs.length:Int))∧((!decide ((xs.getD i.toNat eM.dflt).n<(1:Int)))=true→(!decide ((xs.getD i.toNat eM.dflt).n > (1048576:Int)))=true→decide (i > (0:Int))=true→(0:Int)≤i∧i<(↑xs.length:Int))∧((decide ((xs.getD i.toNat eM.dflt).n<(1:Int))||(decide ((xs.getD i.toNat eM.dflt).n > (1048576:Int))||decide (i > (0:Int))&&decide (cmpR (xs.getD (IntKind.i64.wrap (i - (1:Int))).toNat eM.dflt).r (xs.getD i.toNat eM.dflt).r≥(0:Int))))=true→eM.okL xs)∧((decide ((xs.getD i.toNat eM.dflt).n<(1:Int))||(decide ((xs.getD i.toNat eM.dflt).n > (1048576:Int))||decide (i > (0:Int))&&decide (cmpR (xs.getD (IntKind.i64.wrap (i - (1:Int))).toNat eM.dflt).r (xs.getD i.toNat eM.dflt).r≥(0:Int))))=false→eM.okL xs))∧(decide (i<(↑xs.length:Int))=false→eM.okL xs)
theorem bgb_one:((loopsOf Tryd.prog 36).filter fun c=>Nat.beq (lkey c) 8).length=1:=by kernel_rfl
abbrev bgb_GC:Type:=List Many
abbrev bgb_GB:Type:=Int
def bgb_f (g:bgb_G):Int×bgb_GC×bgb_GB:=(g.2.1,g.1,g.2.2)
def bgb_g (d:Int×bgb_GC×bgb_GB):bgb_G:=(d.2.1,d.1,d.2.2)
theorem bgb_es (g:bgb_G):(bgb_R g.1 g.2.1 g.2.2).1=.normal∨(bgb_R g.1 g.2.1 g.2.2).1∈([.ret,.exit 2]:List Ex):=by
 unfold bgb_R
 repeat' (first | (left;rfl) | (right;simp only[cond_true,cond_false];simp;done) | (rw[Bool.cond_eq_ite];split))
noncomputable abbrev bgb_C (Inv:bgb_G→List Prop) (m:bgb_G→Nat):LCon:=loopR [.ret,.exit 2] (loopBody Tryd.prog 36 8) bgb_LP [] 60 Inv (fun g=>bgb_R g.1 g.2.1 g.2.2) m
theorem bgb_loop (Inv:bgb_G→List Prop) (m:bgb_G→Nat) (hs:∀ g,allP (Inv g)→bgb_side g.1 g.2.1 g.2.2) (hg:Goes (fun g:bgb_G=>bgb_R g.1 g.2.1 g.2.2) m fun g=>allP (Inv g)):∀ b∈loopsOf Tryd.prog 36,lkey b=8→LoopOk Tryd.prog b (bgb_C Inv m).g:=loop_run (Γ:=(PTab.gamz tabG6 [] [])) (Λ:=lamG2) (PTab.okz tabG6 [] []) lamG2_ok 100 36 8 60 bgb_LP [] Inv (fun g=>bgb_R g.1 g.2.1 g.2.2) (fun g=>bgb_side g.1 g.2.1 g.2.2) m default [.ret,.exit 2] bgb_one (fun rd T B HL HB ds g=>by kernel_rfl) (fun rd T B HL HB ds g=>by kernel_rfl) hs hg bgb_es
end Go.Proofs.YtmegbepjdololaaDoor

namespace Go.Proofs.YtmegbepjdololaaDoor
open Go.RowKit Go.Sx Go.Lp
set_option maxRecDepth 100000
noncomputable def cbg_S (c:cbg_GC) (b:cbg_GB) (i:Int) (v:Many):Ex×cbg_GB:=bif decide (v.n<(1:Int))||(decide (v.n > (1048576:Int))||decide (i > (0:Int))&&decide (cmpR (c.1.getD (IntKind.i64.wrap (i - (1:Int))).toNat eM.dflt).r v.r≥(0:Int))) then (.ret,(51:Int)) else (.normal,b)
def cbg_K (c:cbg_GC) (b:cbg_GB) (i:Int):Prop:=c.1.length=c.2.1.length
abbrev cbg_I (g:cbg_G):List Prop:=ixI (fun c:cbg_GC=>c.2.2) (fun c:cbg_GC=>c.2.1) cbg_K (cbg_f g)
abbrev cbg_M (g:cbg_G):Nat:=ixM (fun c:cbg_GC=>c.2.2) (cbg_f g)
theorem cbg_P:ixP cbg_S (fun c:cbg_GC=>c.2.1) cbg_K:=fun _ _ _ _ h _ _=>h
noncomputable abbrev cbg_RR (g:cbg_G):Ex×cbg_G:=cbg_R g.1 g.2.1 g.2.2.1 g.2.2.2.1 g.2.2.2.2
theorem cbg_RF (d:Int×cbg_GC×cbg_GB) (hi:allP (ixI (fun c:cbg_GC=>c.2.2) (fun c:cbg_GC=>c.2.1) cbg_K d)):cbg_RR (cbg_g d)=((ixF 0 (fun c:cbg_GC=>c.2.2) (fun c:cbg_GC=>c.2.1) eM.dflt cbg_S d).1,cbg_g (ixF 0 (fun c:cbg_GC=>c.2.2) (fun c:cbg_GC=>c.2.1) eM.dflt cbg_S d).2):=by
 obtain ⟨i,⟨xs,ys,n⟩,r⟩:=d
 show cbg_R xs ys n i r=_
 unfold cbg_R ixF cbg_S
 simp only[El.ag_eq]
 cases decide (i<n) with
 | false=>rfl
 | true=>
  simp only[cond_true]
  generalize (decide ((ys.getD i.toNat eM.dflt).n<(1:Int))||(decide ((ys.getD i.toNat eM.dflt).n > (1048576:Int))||decide (i > (0:Int))&&decide (cmpR (xs.getD (IntKind.i64.wrap (i - (1:Int))).toNat eM.dflt).r (ys.getD i.toNat eM.dflt).r≥(0:Int))))=z
  cases z <;> rfl
theorem cbg_ok:∀ b∈loopsOf Tryd.prog 35,lkey b=4→LoopOk Tryd.prog b (cbg_C cbg_I cbg_M).g:=by
 refine cbg_loop cbg_I cbg_M (fun g hi=>?_) (ix_conj_goes (fun _=>rfl) (fun _=>rfl) cbg_RF cbg_P)
 obtain ⟨xs,ys,n,i,r⟩:=g
 obtain ⟨h1,h2,h3,h4,h5⟩:=hi _ (List.mem_cons_self ..)
 have h1:n=(ys.length:Int):=h1
 have h3:0≤i:=h3
 have h5:xs.length=ys.length:=h5
 have h2':ys.length≤maxLen:=h2
 have h2:ys.length≤9223372036854775807:=by unfold maxLen at h2';omega
 have h4:i≤(ys.length:Int):=h4
 have w1:0<i→IntKind.i64.wrap (i - (1:Int))=i - 1:=fun h=>Lp.wr (by omega)
 show cbg_side xs ys n i r
 unfold cbg_side
 simp only[decide_eq_true_eq,decide_eq_false_iff_not]
 have k0:∀ e:Nat,e<xs.length→eM.Ok (eM.els xs e):=fun e _=>eM.ok_els xs e
 have k1:∀ e:Nat,e<ys.length→eM.Ok (eM.els ys e):=fun e _=>eM.ok_els ys e
 clear hi
 repeat' (first | exact k0 | exact k1 | apply And.intro | intro _)
 all_goals (first | omega | (rw[w1 (by omega)];omega))
theorem cbg_run (c:cbg_GC) (b:cbg_GB) (k1:c.2.2=((c.2.1).length:Int)) (k2:(c.2.1).length≤maxLen) (k3:cbg_K c b 0):loopF cbg_RR cbg_M (cbg_g (0,c,b))=((scan 0 (cbg_S c) 0 (c.2.1) b).1,cbg_g ((scan 0 (cbg_S c) 0 (c.2.1) b).2.1,c,(scan 0 (cbg_S c) 0 (c.2.1) b).2.2)):=ix_conj_run (φ:=cbg_f) (ψ:=cbg_g) (fun _=>rfl) (fun _=>rfl) cbg_RF cbg_P c b k1 k2 k3
noncomputable def bga_S (c:bga_GC) (b:bga_GB) (i:Int) (v:Many):Ex×bga_GB:=bif chkR v.r != (0:Int) then (.ret,chkR v.r) else (.normal,b)
def bga_K (c:bga_GC) (b:bga_GB) (i:Int):Prop:=True
abbrev bga_I (g:bga_G):List Prop:=ixI (fun c:bga_GC=>(c.length:Int)) (fun c:bga_GC=>c) bga_K (bga_f g)
abbrev bga_M (g:bga_G):Nat:=ixM (fun c:bga_GC=>(c.length:Int)) (bga_f g)
theorem bga_P:ixP bga_S (fun c:bga_GC=>c) bga_K:=fun _ _ _ _ h _ _=>h
noncomputable abbrev bga_RR (g:bga_G):Ex×bga_G:=bga_R g.1 g.2.1 g.2.2
theorem bga_RF (d:Int×bga_GC×bga_GB) (hi:allP (ixI (fun c:bga_GC=>(c.length:Int)) (fun c:bga_GC=>c) bga_K d)):bga_RR (bga_g d)=((ixF 0 (fun c:bga_GC=>(c.length:Int)) (fun c:bga_GC=>c) eM.dflt bga_S d).1,bga_g (ixF 0 (fun c:bga_GC=>(c.length:Int)) (fun c:bga_GC=>c) eM.dflt bga_S d).2):=by
 obtain ⟨i,xs,r⟩:=d
 show bga_R xs i r=_
 unfold bga_R ixF bga_S
 simp only[El.ag_eq]
 cases decide (i<(xs.length:Int)) with
 | false=>rfl
 | true=>
  simp only[cond_true]
  generalize (chkR (xs.getD i.toNat eM.dflt).r != (0:Int))=z
  cases z <;> rfl
theorem bga_ok:∀ b∈loopsOf Tryd.prog 36,lkey b=2→LoopOk Tryd.prog b (bga_C bga_I bga_M).g:=by
 refine bga_loop bga_I bga_M (fun g hi=>?_) (ix_conj_goes (fun _=>rfl) (fun _=>rfl) bga_RF bga_P)
 obtain ⟨xs,i,r⟩:=g
 obtain ⟨h1,h2,h3,h4,h5⟩:=hi _ (List.mem_cons_self ..)
 have h1:(xs.length:Int)=(xs.length:Int):=h1
 have h3:0≤i:=h3
 have h5:True:=h5
 show bga_side xs i r
 unfold bga_side
 simp only[decide_eq_true_eq,decide_eq_false_iff_not]
 have k0:∀ e:Nat,e<xs.length→eM.Ok (eM.els xs e):=fun e _=>eM.ok_els xs e
 clear hi
 repeat' (first | exact k0 | apply And.intro | intro _)
 all_goals omega
theorem bga_run (c:bga_GC) (b:bga_GB) (k1:(c.length:Int)=((c).length:Int)) (k2:(c).length≤maxLen) (k3:bga_K c b 0):loopF bga_RR bga_M (bga_g (0,c,b))=((scan 0 (bga_S c) 0 (c) b).1,bga_g ((scan 0 (bga_S c) 0 (c) b).2.1,c,(scan 0 (bga_S c) 0 (c) b).2.2)):=ix_conj_run (φ:=bga_f) (ψ:=bga_g) (fun _=>rfl) (fun _=>rfl) bga_RF bga_P c b k1 k2 k3
noncomputable def bgb_S (c:bgb_GC) (b:bgb_GB) (i:Int) (v:Many):Ex×bgb_GB:=bif decide (v.n<(1:Int))||(decide (v.n > (1048576:Int))||decide (i > (0:Int))&&decide (cmpR (c.getD (IntKind.i64.wrap (i - (1:Int))).toNat eM.dflt).r v.r≥(0:Int))) then (.ret,(51:Int)) else (.normal,b)
def bgb_K (c:bgb_GC) (b:bgb_GB) (i:Int):Prop:=True
abbrev bgb_I (g:bgb_G):List Prop:=ixI (fun c:bgb_GC=>(c.length:Int)) (fun c:bgb_GC=>c) bgb_K (bgb_f g)
abbrev bgb_M (g:bgb_G):Nat:=ixM (fun c:bgb_GC=>(c.length:Int)) (bgb_f g)
theorem bgb_P:ixP bgb_S (fun c:bgb_GC=>c) bgb_K:=fun _ _ _ _ h _ _=>h
noncomputable abbrev bgb_RR (g:bgb_G):Ex×bgb_G:=bgb_R g.1 g.2.1 g.2.2
theorem bgb_RF (d:Int×bgb_GC×bgb_GB) (hi:allP (ixI (fun c:bgb_GC=>(c.length:Int)) (fun c:bgb_GC=>c) bgb_K d)):bgb_RR (bgb_g d)=((ixF 2 (fun c:bgb_GC=>(c.length:Int)) (fun c:bgb_GC=>c) eM.dflt bgb_S d).1,bgb_g (ixF 2 (fun c:bgb_GC=>(c.length:Int)) (fun c:bgb_GC=>c) eM.dflt bgb_S d).2):=by
 obtain ⟨i,xs,r⟩:=d
 show bgb_R xs i r=_
 unfold bgb_R ixF bgb_S
 simp only[El.ag_eq]
 cases decide (i<(xs.length:Int)) with
 | false=>rfl
 | true=>
  simp only[cond_true]
  generalize (decide ((xs.getD i.toNat eM.dflt).n<(1:Int))||(decide ((xs.getD i.toNat eM.dflt).n > (1048576:Int))||decide (i > (0:Int))&&decide (cmpR (xs.getD (IntKind.i64.wrap (i - (1:Int))).toNat eM.dflt).r (xs.getD i.toNat eM.dflt).r≥(0:Int))))=z
  cases z <;> rfl
theorem bgb_ok:∀ b∈loopsOf Tryd.prog 36,lkey b=8→LoopOk Tryd.prog b (bgb_C bgb_I bgb_M).g:=by
 refine bgb_loop bgb_I bgb_M (fun g hi=>?_) (ix_conj_goes (fun _=>rfl) (fun _=>rfl) bgb_RF bgb_P)
 obtain ⟨xs,i,r⟩:=g
 obtain ⟨h1,h2,h3,h4,h5⟩:=hi _ (List.mem_cons_self ..)
 have h1:(xs.length:Int)=(xs.length:Int):=h1
 have h3:0≤i:=h3
 have h5:True:=h5
 have h2':xs.length≤maxLen:=h2
 have h2:xs.length≤9223372036854775807:=by unfold maxLen at h2';omega
 have h4:i≤(xs.length:Int):=h4
 have w1:0<i→IntKind.i64.wrap (i - (1:Int))=i - 1:=fun h=>Lp.wr (by omega)
 show bgb_side xs i r
 unfold bgb_side
 simp only[decide_eq_true_eq,decide_eq_false_iff_not]
 have k0:∀ e:Nat,e<xs.length→eM.Ok (eM.els xs e):=fun e _=>eM.ok_els xs e
 clear hi
 repeat' (first | exact k0 | apply And.intro | intro _)
 all_goals (first | omega | (rw[w1 (by omega)];omega))
theorem bgb_run (c:bgb_GC) (b:bgb_GB) (k1:(c.length:Int)=((c).length:Int)) (k2:(c).length≤maxLen) (k3:bgb_K c b 0):loopF bgb_RR bgb_M (bgb_g (0,c,b))=((scan 2 (bgb_S c) 0 (c) b).1,bgb_g ((scan 2 (bgb_S c) 0 (c) b).2.1,c,(scan 2 (bgb_S c) 0 (c) b).2.2)):=ix_conj_run (φ:=bgb_f) (ψ:=bgb_g) (fun _=>rfl) (fun _=>rfl) bgb_RF bgb_P c b k1 k2 k3
noncomputable def ltG8:LTab Tryd.prog:=(((ltG2.cons 35 4 (cbg_C cbg_I cbg_M) cbg_ok).cons 36 2 (bga_C bga_I bga_M) bga_ok).cons 36 8 (bgb_C bgb_I bgb_M) bgb_ok)
noncomputable abbrev lamG8:Lam:=ltG8.lam
theorem lamG8_ok:∀ f k L,lamG8 f k=some L→∀ b∈loopsOf Tryd.prog f,lkey b=k→LoopOk Tryd.prog b L.g:=ltG8.ok
end Go.Proofs.YtmegbepjdololaaDoor

namespace Go.Proofs.YtmegbepjdololaaDoor
open Go.RowKit Go.Sx
set_option maxRecDepth 100000
set_option linter.unusedVariables false
abbrev aLM:DA (List Many):=.one dLM
noncomputable def cbb_q1 (xs:List Many):Ex ×
 ixf_G:=
 loopF (fun g=>ixf_R g.fst g.snd.fst g.snd.snd.fst g.snd.snd.snd.fst g.snd.snd.snd.snd) ixf_M (eM.ag xs,(),(↑xs.length:Int),(0:Int),(0:Int))
noncomputable def cbb_q2 (xs:List Many):Ex ×
 cbg_G:=
 loopF (fun g=>cbg_R g.fst g.snd.fst g.snd.snd.fst g.snd.snd.snd.fst g.snd.snd.snd.snd) cbg_M (eM.ag xs,eM.ag xs,(↑xs.length:Int),(0:Int),(0:Int))
noncomputable def cbb_F (xs:List Many):Dv.T dI:=
 bif exB Ex.ret (cbb_q1 xs).fst then bif decide ((cbb_q1 xs).snd.snd.snd.snd.snd≥(0:Int)) then (50:Int) else bif exB Ex.ret (cbb_q2 xs).fst then (cbb_q2 xs).snd.snd.snd.snd.snd else (0:Int)
 else bif exB Ex.ret (cbb_q2 xs).fst then (cbb_q2 xs).snd.snd.snd.snd.snd else (0:Int)
def cbb_side (xs:List Many):Prop:=
 eM.okL xs∧Lp.ixJ (fun c=>c.snd) (fun c=>c.fst) ixf_K (ixf_f (eM.ag xs,(),(↑xs.length:Int),(0:Int),(0:Int)))∧(exB Ex.ret (cbb_q1 xs).fst=true→decide ((cbb_q1 xs).snd.snd.snd.snd.snd≥(0:Int))=false→eM.okL xs∧eM.okL xs∧Lp.ixJ (fun c=>c.snd.snd) (fun c=>c.snd.fst) cbg_K (cbg_f (eM.ag xs,eM.ag xs,(↑xs.length:Int),(0:Int),(0:Int))))∧(exB Ex.ret (cbb_q1 xs).fst=false→eM.okL xs∧eM.okL xs∧Lp.ixJ (fun c=>c.snd.snd) (fun c=>c.snd.fst) cbg_K (cbg_f (eM.ag xs,eM.ag xs,(↑xs.length:Int),(0:Int),(0:Int))))
theorem cbb_okS (pre:DA.T aLM→List Prop) (h:∀ g,DA.bd aLM g→(∀ p∈pre g,p)→cbb_side g):FnPure Tryd.prog 35 aLM dI (fun g=>cbb_F g) pre:=pure_of_sideS (Γ:=(PTab.gamz tabG6 [] [])) (Λ:=lamG8) (PTab.okz tabG6 [] []) lamG8_ok 100 default (fun g=>cbb_side g) (fun g=>by kernel_rfl) (fun g=>by kernel_rfl) h
noncomputable def rcb_q1 (xs:List Many):Ex×bga_G:=
 loopF (fun g=>bga_R g.fst g.snd.fst g.snd.snd) bga_M (eM.ag xs,(0:Int),(0:Int))
noncomputable def rcb_q2 (xs:List Many):Ex ×
 bgb_G:=
 loopF (fun g=>bgb_R g.fst g.snd.fst g.snd.snd) bgb_M (eM.ag (rcb_q1 xs).snd.fst,(0:Int),(rcb_q1 xs).snd.snd.snd)
noncomputable def rcb_F (xs:List Many):Dv.T dI:=
 bif exB Ex.ret (rcb_q1 xs).fst then (rcb_q1 xs).snd.snd.snd else bif exB Ex.ret (rcb_q2 xs).fst then (rcb_q2 xs).snd.snd.snd else (0:Int)
def rcb_side (xs:List Many):Prop:=
 eM.okL xs∧Lp.ixJ (fun c=>(↑(List.length c):Int)) (fun c=>c) bga_K (bga_f (eM.ag xs,(0:Int),(0:Int)))∧(exB Ex.ret (rcb_q1 xs).fst=false→eM.okL (rcb_q1 xs).snd.fst∧Lp.ixJ (fun c=>(↑(List.length c):Int)) (fun c=>c) bgb_K (bgb_f (eM.ag (rcb_q1 xs).snd.fst,(0:Int),(rcb_q1 xs).snd.snd.snd)))
theorem rcb_okS (pre:DA.T aLM→List Prop) (h:∀ g,DA.bd aLM g→(∀ p∈pre g,p)→rcb_side g):FnPure Tryd.prog 36 aLM dI (fun g=>rcb_F g) pre:=pure_of_sideS (Γ:=(PTab.gamz tabG6 [] [])) (Λ:=lamG8) (PTab.okz tabG6 [] []) lamG8_ok 100 default (fun g=>rcb_side g) (fun g=>by kernel_rfl) (fun g=>by kernel_rfl) h
end Go.Proofs.YtmegbepjdololaaDoor

namespace Go.Proofs.YtmegbepjdololaaDoor
open Go.RowKit Go.Sx Go.Lp
noncomputable def bagBad (xs:List Many) (i:Int) (v:Many):Bool:=decide (v.n<(1:Int))||(decide (v.n > (1048576:Int))||decide (i > (0:Int))&&decide (cmpR (xs.getD (IntKind.i64.wrap (i - (1:Int))).toNat eM.dflt).r v.r≥(0:Int)))
noncomputable def bagF (xs:List Many):Int:=bif xs.any (fun v=>chkR v.r != (0:Int)) then 50 else bif (List.range xs.length).any (fun j=>bagBad xs (j:Int) (xs.getD j eM.dflt)) then 51 else 0
theorem chkR_two (r:Rec):chkR r=0∨chkR r=50:=by
 unfold chkR
 cases decide ((r.text.size:Int) > 64)||!validS r.text with
 | true=>exact .inr rfl
 | false=>exact .inl rfl
theorem bag_hit {xs:List Many} {n:Nat} {v:Many} (h:xs[n]?=some v) (hb:bagBad xs (n:Int) v=true):(List.range xs.length).any (fun j=>bagBad xs (j:Int) (xs.getD j eM.dflt))=true:=by
 obtain ⟨hn,hv⟩:=List.getElem?_eq_some_iff.1 h
 refine List.any_eq_true.2 ⟨n,List.mem_range.2 hn,?_⟩
 rw[List.getD_eq_getElem?_getD,h]
 exact hb
theorem bag_miss {xs:List Many} (h:∀ (n:Nat) (v:Many),xs[n]?=some v→bagBad xs (n:Int) v=false):(List.range xs.length).any (fun j=>bagBad xs (j:Int) (xs.getD j eM.dflt))=false:=by
 rw[Bool.eq_false_iff]
 intro ha
 obtain ⟨n,hn,hb⟩:=List.any_eq_true.1 ha
 have hn:=List.mem_range.1 hn
 rw[List.getD_eq_getElem?_getD,List.getElem?_eq_getElem hn,Option.getD_some,h n _ (List.getElem?_eq_getElem hn)] at hb
 cases hb
theorem cbb_q1_eq (xs:List Many) (h:xs.length≤KB):(xs.any (fun v=>chkR v.r != (0:Int))=true∧∃ n:Nat,cbb_q1 xs=(.ret,xs,(),(xs.length:Int),(n:Int),(n:Int)))∨(xs.any (fun v=>chkR v.r != (0:Int))=false∧(cbb_q1 xs).1=.exit 0):=by
 unfold KB at h
 have hrun:=ixf_run (xs,(xs.length:Int)) ((),0) rfl (by show xs.length≤maxLen;unfold maxLen;omega) trivial
 have hq:cbb_q1 xs=loopF ixf_RR ixf_M (ixf_g (0,(xs,(xs.length:Int)),((),0))):=by
  unfold cbb_q1
  rw[eM.ag_eq]
  rfl
 rcases searchI (x:=0) (st:=ixf_S (xs,(xs.length:Int))) (p:=fun _ v=>chkR v.r != (0:Int)) (r:=fun i _ _=>((),i)) (fun b i a=>rfl) xs ((),0) with ⟨n,v,h1,h2,hs⟩ | ⟨h1,hs⟩
 ·left
  refine ⟨List.any_eq_true.2 ⟨v,List.mem_of_getElem? h1,h2⟩,n,?_⟩
  rw[hq,hrun,hs]
  rfl
 ·right
  refine ⟨?_,by rw[hq,hrun,hs]⟩
  rw[Bool.eq_false_iff]
  intro ha
  obtain ⟨v,hv,hb⟩:=List.any_eq_true.1 ha
  obtain ⟨n,hn⟩:=List.getElem?_of_mem hv
  have:(chkR v.r != (0:Int))=false:=h1 n v hn
  rw[this] at hb
  cases hb
theorem cbb_q2_eq (xs:List Many) (h:xs.length≤KB):((List.range xs.length).any (fun j=>bagBad xs (j:Int) (xs.getD j eM.dflt))=true∧(cbb_q2 xs).1=.ret∧(cbb_q2 xs).2.2.2.2.2=51)∨((List.range xs.length).any (fun j=>bagBad xs (j:Int) (xs.getD j eM.dflt))=false∧(cbb_q2 xs).1=.exit 0):=by
 unfold KB at h
 have hrun:=cbg_run (xs,xs,(xs.length:Int)) 0 rfl (by show xs.length≤maxLen;unfold maxLen;omega) rfl
 have hq:cbb_q2 xs=loopF cbg_RR cbg_M (cbg_g (0,(xs,xs,(xs.length:Int)),0)):=by
  unfold cbb_q2
  rw[eM.ag_eq]
  rfl
 rcases searchI (x:=0) (st:=cbg_S (xs,xs,(xs.length:Int))) (p:=bagBad xs) (r:=fun _ _ _=>(51:Int)) (fun b i a=>rfl) xs 0 with ⟨n,v,h1,h2,hs⟩ | ⟨h1,hs⟩
 ·left
  refine ⟨bag_hit h1 h2,?_⟩
  rw[hq,hrun,hs]
  exact ⟨rfl,rfl⟩
 ·right
  exact ⟨bag_miss h1,by rw[hq,hrun,hs]⟩
theorem cbb_ok:FnPure Tryd.prog 35 aLM dI bagF (fun g=>[g.length≤KB]):=
 pure_congr (cbb_okS _ fun xs _ hp=>by
  have h:xs.length≤KB:=hp _ (List.mem_cons_self ..)
  have h':=h
  unfold KB at h'
  have hm:xs.length≤maxLen:=by unfold maxLen;omega
  show cbb_side xs
  unfold cbb_side
  rw[eM.okL_eq,eM.ag_eq]
  exact ⟨trivial,ixJ0 rfl hm trivial,fun _ _=>⟨trivial,trivial,ixJ0 rfl hm rfl⟩,fun _=>⟨trivial,trivial,ixJ0 rfl hm rfl⟩⟩) fun xs _ hp=>by
  have h:xs.length≤KB:=hp _ (List.mem_cons_self ..)
  show cbb_F xs=bagF xs
  unfold cbb_F bagF
  rcases cbb_q1_eq xs h with ⟨h1,n,h2⟩ | ⟨h1,h2⟩
  ·rw[h1,h2]
   have e:decide ((n:Int)≥(0:Int))=true:=decide_eq_true (by omega)
   show (bif true then bif decide ((n:Int)≥(0:Int)) then (50:Int) else _ else _)=_
   rw[e];rfl
  ·rw[h1,h2]
   show (bif false then _ else _)=_
   rw[cond_false,cond_false]
   rcases cbb_q2_eq xs h with ⟨k1,k2,k3⟩ | ⟨k1,k2⟩
   ·rw[k1,k2,k3];rfl
   ·rw[k1,k2];rfl
theorem rcb_q1_eq (xs:List Many) (h:xs.length≤KB):(xs.any (fun v=>chkR v.r != (0:Int))=true∧(rcb_q1 xs).1=.ret∧(rcb_q1 xs).2.2.2=50)∨(xs.any (fun v=>chkR v.r != (0:Int))=false∧rcb_q1 xs=(.exit 0,xs,(xs.length:Int),0)):=by
 unfold KB at h
 have hrun:=bga_run xs 0 rfl (by show xs.length≤maxLen;unfold maxLen;omega) trivial
 have hq:rcb_q1 xs=loopF bga_RR bga_M (bga_g (0,xs,0)):=by
  unfold rcb_q1
  rw[eM.ag_eq]
  rfl
 rcases search (x:=0) (st:=bga_S xs) (p:=fun v=>chkR v.r != (0:Int)) (r:=fun _ v _=>chkR v.r) (fun b i a=>rfl) xs 0 with ⟨h1,j,_,a,_,h3,hs⟩ | ⟨h1,hs⟩
 ·left
  refine ⟨h1,?_⟩
  rw[hq,hrun,hs]
  refine ⟨rfl,?_⟩
  show chkR a.r=50
  rcases chkR_two a.r with e | e
  ·rw[e] at h3;cases h3
  ·exact e
 ·right
  refine ⟨h1,?_⟩
  rw[hq,hrun,hs]
  rfl
theorem rcb_q2_eq (xs:List Many) (h:xs.length≤KB) (h1:rcb_q1 xs=(.exit 0,xs,(xs.length:Int),0)):((List.range xs.length).any (fun j=>bagBad xs (j:Int) (xs.getD j eM.dflt))=true∧(rcb_q2 xs).1=.ret∧(rcb_q2 xs).2.2.2=51)∨((List.range xs.length).any (fun j=>bagBad xs (j:Int) (xs.getD j eM.dflt))=false∧(rcb_q2 xs).1=.exit 2):=by
 unfold KB at h
 have hrun:=bgb_run xs 0 rfl (by show xs.length≤maxLen;unfold maxLen;omega) trivial
 have hq:rcb_q2 xs=loopF bgb_RR bgb_M (bgb_g (0,xs,0)):=by
  unfold rcb_q2
  rw[eM.ag_eq,h1]
  rfl
 rcases searchI (x:=2) (st:=bgb_S xs) (p:=bagBad xs) (r:=fun _ _ _=>(51:Int)) (fun b i a=>rfl) xs 0 with ⟨n,v,h1,h2,hs⟩ | ⟨h1,hs⟩
 ·left
  refine ⟨bag_hit h1 h2,?_⟩
  rw[hq,hrun,hs]
  exact ⟨rfl,rfl⟩
 ·right
  exact ⟨bag_miss h1,by rw[hq,hrun,hs]⟩
theorem rcb_ok:FnPure Tryd.prog 36 aLM dI bagF (fun g=>[g.length≤KB]):=
 pure_congr (rcb_okS _ fun xs _ hp=>by
  have h:xs.length≤KB:=hp _ (List.mem_cons_self ..)
  have h':=h
  unfold KB at h'
  have hm:xs.length≤maxLen:=by unfold maxLen;omega
  show rcb_side xs
  unfold rcb_side
  rw[eM.okL_eq,eM.okL_eq,eM.ag_eq]
  refine ⟨trivial,ixJ0 rfl hm trivial,fun hx=>⟨trivial,?_⟩⟩
  rcases rcb_q1_eq xs h with ⟨_,k2,_⟩ | ⟨_,k2⟩
  ·rw[k2] at hx;cases hx
  ·rw[eM.ag_eq,k2]
   exact ixJ0 rfl hm trivial) fun xs _ hp=>by
  have h:xs.length≤KB:=hp _ (List.mem_cons_self ..)
  show rcb_F xs=bagF xs
  unfold rcb_F bagF
  rcases rcb_q1_eq xs h with ⟨h1,h2,h3⟩ | ⟨h1,h2⟩
  ·rw[h1,h2,h3];rfl
  ·rw[h1]
   have e:(rcb_q1 xs).1=.exit 0:=by rw[h2]
   rw[e]
   show (bif false then _ else _)=_
   rw[cond_false,cond_false]
   rcases rcb_q2_eq xs h h2 with ⟨k1,k2,k3⟩ | ⟨k1,k2⟩
   ·rw[k1,k2,k3];rfl
   ·rw[k1,k2];rfl
end Go.Proofs.YtmegbepjdololaaDoor

namespace Go.Proofs.YtmegbepjdololaaDoor
open Go.RowKit Go.Sx
set_option maxRecDepth 100000
set_option linter.unusedVariables false
noncomputable def tabO9:MTab Tryd.prog:=(tabO8.cons 35 (pconP aLM dI bagF (fun g=>[g.length≤KB])) (conP_ok cbb_ok puI)).cons 36 (pconP aLM dI bagF (fun g=>[g.length≤KB])) (conP_ok rcb_ok puI)
abbrev rbb_G:Type:=List Rec×Int×List Many
noncomputable def rbb_LP:LP 0 rbb_G:=.pair (.slot 0 0 dLR) (.pair (.slot 0 7 dI) (.slot 0 6 dLM))
noncomputable def rbb_R (xs:List Rec) (i:Int) (o:List Many):Ex×rbb_G:=
 bif decide (i<(↑xs.length:Int)) then (Ex.normal,eR.ag xs,IntKind.i64.wrap (i+(1:Int)),eM.ag (putL (xs.getD i.toNat eR.dflt) (1:Int) (eM.ag o)))
 else (Ex.exit (2:Nat),eR.ag xs,i,eM.ag o)
def rbb_side (xs:List Rec) (i:Int) (o:List Many):Prop:=
 (decide (i<(↑xs.length:Int))=true→((0:Int)≤i∧i<(↑xs.length:Int))∧eM.okL o∧(eM.ag o).length≤(1000000:Nat)∧eR.okL xs∧eM.okL (putL (xs.getD i.toNat eR.dflt) (1:Int) (eM.ag o)))∧(decide (i<(↑xs.length:Int))=false→eR.okL xs∧eM.okL o)
theorem rbb_one:((loopsOf Tryd.prog 25).filter fun c=>Nat.beq (lkey c) 9).length=1:=by kernel_rfl
abbrev rbb_GC:Type:=List Rec
abbrev rbb_GB:Type:=List Many
def rbb_f (g:rbb_G):Int×rbb_GC×rbb_GB:=(g.2.1,g.1,g.2.2)
def rbb_g (d:Int×rbb_GC×rbb_GB):rbb_G:=(d.2.1,d.1,d.2.2)
theorem rbb_es (g:rbb_G):(rbb_R g.1 g.2.1 g.2.2).1=.normal∨(rbb_R g.1 g.2.1 g.2.2).1∈([.exit 2]:List Ex):=by
 unfold rbb_R
 repeat' (first | (left;rfl) | (right;simp only[cond_true,cond_false];simp;done) | (rw[Bool.cond_eq_ite];split))
noncomputable abbrev rbb_C (Inv:rbb_G→List Prop) (m:rbb_G→Nat):LCon:=loopR [.exit 2] (loopBody Tryd.prog 25 9) rbb_LP [] 41 Inv (fun g=>rbb_R g.1 g.2.1 g.2.2) m
theorem rbb_loop (Inv:rbb_G→List Prop) (m:rbb_G→Nat) (hs:∀ g,allP (Inv g)→rbb_side g.1 g.2.1 g.2.2) (hg:Goes (fun g:rbb_G=>rbb_R g.1 g.2.1 g.2.2) m fun g=>allP (Inv g)):∀ b∈loopsOf Tryd.prog 25,lkey b=9→LoopOk Tryd.prog b (rbb_C Inv m).g:=loop_run (Γ:=(MTab.gamz tabO9 [] [])) (Λ:=noΛ) (MTab.okz tabO9 [] []) noΛ_ok 100 25 9 41 rbb_LP [] Inv (fun g=>rbb_R g.1 g.2.1 g.2.2) (fun g=>rbb_side g.1 g.2.1 g.2.2) m default [.exit 2] rbb_one (fun rd T B HL HB ds g=>by kernel_rfl) (fun rd T B HL HB ds g=>by kernel_rfl) hs hg rbb_es
abbrev rsa_G:Type:=List Many×Int×List Many
noncomputable def rsa_LP:LP 0 rsa_G:=.pair (.slot 0 0 dLM) (.pair (.slot 0 9 dI) (.slot 0 8 dLM))
noncomputable def rsa_R (xs:List Many) (i:Int) (o:List Many):Ex×rsa_G:=
 bif decide (i<(↑xs.length:Int)) then (Ex.normal,eM.ag xs,IntKind.i64.wrap (i+(1:Int)),eM.ag (putL (xs.getD i.toNat eM.dflt).r (xs.getD i.toNat eM.dflt).n (eM.ag o)))
 else (Ex.exit (0:Nat),eM.ag xs,i,eM.ag o)
def rsa_side (xs:List Many) (i:Int) (o:List Many):Prop:=
 (decide (i<(↑xs.length:Int))=true→((0:Int)≤i∧i<(↑xs.length:Int))∧((0:Int)≤i∧i<(↑xs.length:Int))∧eM.okL o∧(eM.ag o).length≤(1000000:Nat)∧eM.okL xs∧eM.okL (putL (xs.getD i.toNat eM.dflt).r (xs.getD i.toNat eM.dflt).n (eM.ag o)))∧(decide (i<(↑xs.length:Int))=false→eM.okL xs∧eM.okL o)
theorem rsa_one:((loopsOf Tryd.prog 34).filter fun c=>Nat.beq (lkey c) 9).length=1:=by kernel_rfl
abbrev rsa_GC:Type:=List Many
abbrev rsa_GB:Type:=List Many
def rsa_f (g:rsa_G):Int×rsa_GC×rsa_GB:=(g.2.1,g.1,g.2.2)
def rsa_g (d:Int×rsa_GC×rsa_GB):rsa_G:=(d.2.1,d.1,d.2.2)
theorem rsa_es (g:rsa_G):(rsa_R g.1 g.2.1 g.2.2).1=.normal∨(rsa_R g.1 g.2.1 g.2.2).1∈([.exit 0]:List Ex):=by
 unfold rsa_R
 repeat' (first | (left;rfl) | (right;simp only[cond_true,cond_false];simp;done) | (rw[Bool.cond_eq_ite];split))
noncomputable abbrev rsa_C (Inv:rsa_G→List Prop) (m:rsa_G→Nat):LCon:=loopR [.exit 0] (loopBody Tryd.prog 34 9) rsa_LP [] 64 Inv (fun g=>rsa_R g.1 g.2.1 g.2.2) m
theorem rsa_loop (Inv:rsa_G→List Prop) (m:rsa_G→Nat) (hs:∀ g,allP (Inv g)→rsa_side g.1 g.2.1 g.2.2) (hg:Goes (fun g:rsa_G=>rsa_R g.1 g.2.1 g.2.2) m fun g=>allP (Inv g)):∀ b∈loopsOf Tryd.prog 34,lkey b=9→LoopOk Tryd.prog b (rsa_C Inv m).g:=loop_run (Γ:=(MTab.gamz tabO9 [] [])) (Λ:=noΛ) (MTab.okz tabO9 [] []) noΛ_ok 100 34 9 64 rsa_LP [] Inv (fun g=>rsa_R g.1 g.2.1 g.2.2) (fun g=>rsa_side g.1 g.2.1 g.2.2) m default [.exit 0] rsa_one (fun rd T B HL HB ds g=>by kernel_rfl) (fun rd T B HL HB ds g=>by kernel_rfl) hs hg rsa_es
abbrev rsb_G:Type:=List Many×Int×List Many
noncomputable def rsb_LP:LP 0 rsb_G:=.pair (.slot 0 1 dLM) (.pair (.slot 0 10 dI) (.slot 0 8 dLM))
noncomputable def rsb_R (xs:List Many) (i:Int) (o:List Many):Ex×rsb_G:=
 bif decide (i<(↑xs.length:Int)) then (Ex.normal,eM.ag xs,IntKind.i64.wrap (i+(1:Int)),eM.ag (putL (xs.getD i.toNat eM.dflt).r (xs.getD i.toNat eM.dflt).n (eM.ag o)))
 else (Ex.exit (2:Nat),eM.ag xs,i,eM.ag o)
def rsb_side (xs:List Many) (i:Int) (o:List Many):Prop:=
 (decide (i<(↑xs.length:Int))=true→((0:Int)≤i∧i<(↑xs.length:Int))∧((0:Int)≤i∧i<(↑xs.length:Int))∧eM.okL o∧(eM.ag o).length≤(1000000:Nat)∧eM.okL xs∧eM.okL (putL (xs.getD i.toNat eM.dflt).r (xs.getD i.toNat eM.dflt).n (eM.ag o)))∧(decide (i<(↑xs.length:Int))=false→eM.okL xs∧eM.okL o)
theorem rsb_one:((loopsOf Tryd.prog 34).filter fun c=>Nat.beq (lkey c) 13).length=1:=by kernel_rfl
abbrev rsb_GC:Type:=List Many
abbrev rsb_GB:Type:=List Many
def rsb_f (g:rsb_G):Int×rsb_GC×rsb_GB:=(g.2.1,g.1,g.2.2)
def rsb_g (d:Int×rsb_GC×rsb_GB):rsb_G:=(d.2.1,d.1,d.2.2)
theorem rsb_es (g:rsb_G):(rsb_R g.1 g.2.1 g.2.2).1=.normal∨(rsb_R g.1 g.2.1 g.2.2).1∈([.exit 2]:List Ex):=by
 unfold rsb_R
 repeat' (first | (left;rfl) | (right;simp only[cond_true,cond_false];simp;done) | (rw[Bool.cond_eq_ite];split))
noncomputable abbrev rsb_C (Inv:rsb_G→List Prop) (m:rsb_G→Nat):LCon:=loopR [.exit 2] (loopBody Tryd.prog 34 13) rsb_LP [] 64 Inv (fun g=>rsb_R g.1 g.2.1 g.2.2) m
theorem rsb_loop (Inv:rsb_G→List Prop) (m:rsb_G→Nat) (hs:∀ g,allP (Inv g)→rsb_side g.1 g.2.1 g.2.2) (hg:Goes (fun g:rsb_G=>rsb_R g.1 g.2.1 g.2.2) m fun g=>allP (Inv g)):∀ b∈loopsOf Tryd.prog 34,lkey b=13→LoopOk Tryd.prog b (rsb_C Inv m).g:=loop_run (Γ:=(MTab.gamz tabO9 [] [])) (Λ:=noΛ) (MTab.okz tabO9 [] []) noΛ_ok 100 34 13 64 rsb_LP [] Inv (fun g=>rsb_R g.1 g.2.1 g.2.2) (fun g=>rsb_side g.1 g.2.1 g.2.2) m default [.exit 2] rsb_one (fun rd T B HL HB ds g=>by kernel_rfl) (fun rd T B HL HB ds g=>by kernel_rfl) hs hg rsb_es
end Go.Proofs.YtmegbepjdololaaDoor

namespace Go.Proofs.YtmegbepjdololaaDoor
open Go.RowKit Go.Sx Go.Lp
set_option maxRecDepth 100000
def puf (b:Bool×List Many):Nat:=b.2.length+(bif b.1 then 0 else 1)
theorem puf_step (r:Rec) (n:Int) (b:Bool×List Many) (v:Many):puf (puStep r n b v)≤puf b+1:=by
 unfold puf puStep
 obtain ⟨d,o⟩:=b
 cases d <;> cases decide (cmpR r v.r<0) <;> cases cmpR r v.r==0 <;> simp
theorem putL_len (r:Rec) (n:Int) (l:List Many):(putL r n l).length≤l.length+1:=by
 have key:∀ (l:List Many) (b:Bool×List Many),puf (l.foldl (puStep r n) b)≤puf b+l.length:=by
  intro l
  induction l with
  | nil=>intro b;exact Nat.le_refl _
  | cons a l ih=>
   intro b
   have h1:=ih (puStep r n b a)
   have h2:=puf_step r n b a
   rw[List.foldl_cons,List.length_cons]
   omega
 have h:=key l (false,[])
 have h0:puf (false,[])=1:=rfl
 rw[h0] at h
 unfold putL
 unfold puf at h
 generalize l.foldl (puStep r n) (false,[])=b at h ⊢
 obtain ⟨d,o⟩:=b
 cases d with
 | true=>simp only[cond_true,Bool.not_true,cond_false] at h ⊢;omega
 | false=>simp only[cond_false,Bool.not_false,cond_true,List.length_append,List.length_cons,List.length_nil] at h ⊢;omega
def putM (o:List Many) (v:Many):List Many:=putL v.r v.n o
noncomputable def rbb_S (_:rbb_GC) (b:rbb_GB) (_:Int) (v:Rec):Ex×rbb_GB:=(.normal,putL v 1 b)
def rbb_K (c:rbb_GC) (b:rbb_GB) (i:Int):Prop:=c.length≤500000∧(List.length b:Int)≤i
abbrev rbb_I (g:rbb_G):List Prop:=ixI (fun c:rbb_GC=>(List.length c:Int)) (fun c=>c) rbb_K (rbb_f g)
abbrev rbb_M (g:rbb_G):Nat:=ixM (fun c:rbb_GC=>(List.length c:Int)) (rbb_f g)
theorem rbb_P:ixP rbb_S (fun c:rbb_GC=>c) rbb_K:=fun c b i a h _ _=>⟨h.1,by
 have:=h.2
 have hl:=putL_len a 1 b
 show ((putL a 1 b).length:Int)≤_
 omega⟩
noncomputable abbrev rbb_RR (g:rbb_G):Ex×rbb_G:=rbb_R g.1 g.2.1 g.2.2
theorem rbb_RF (d:Int×rbb_GC×rbb_GB) (_:allP (ixI (fun c:rbb_GC=>(List.length c:Int)) (fun c=>c) rbb_K d)):rbb_RR (rbb_g d)=((ixF 2 (fun c:rbb_GC=>(List.length c:Int)) (fun c=>c) eR.dflt rbb_S d).1,rbb_g (ixF 2 (fun c:rbb_GC=>(List.length c:Int)) (fun c=>c) eR.dflt rbb_S d).2):=by
 obtain ⟨i,xs,o⟩:=d
 show rbb_R xs i o=_
 unfold rbb_R ixF rbb_S
 simp only[El.ag_eq]
 cases decide (i<(List.length xs:Int)) <;> rfl
theorem rbb_ok:∀ b∈loopsOf Tryd.prog 25,lkey b=9→LoopOk Tryd.prog b (rbb_C rbb_I rbb_M).g:=by
 refine rbb_loop rbb_I rbb_M (fun g hi=>?_) (ix_conj_goes (fun _=>rfl) (fun _=>rfl) rbb_RF rbb_P)
 obtain ⟨xs,i,o⟩:=g
 obtain ⟨h1,h2,h3,h4,h5,h6⟩:=hi _ (List.mem_cons_self ..)
 have h3:0≤i:=h3
 have h4:i≤(xs.length:Int):=h4
 have h5:xs.length≤500000:=h5
 have h6:(o.length:Int)≤i:=h6
 show rbb_side xs i o
 unfold rbb_side
 simp only[El.okL_eq,El.ag_eq,decide_eq_true_eq,decide_eq_false_iff_not]
 refine ⟨fun hlt=>⟨⟨h3,hlt⟩,trivial,by omega,trivial,trivial⟩,fun _=>⟨trivial,trivial⟩⟩
theorem rbb_run (xs:List Rec) (k:xs.length≤500000):loopF rbb_RR rbb_M (rbb_g (0,xs,[]))=(.exit 2,rbb_g ((xs.length:Int),xs,xs.foldl (fun o v=>putL v 1 o) [])):=by
 have hr:loopF rbb_RR rbb_M (rbb_g (0,xs,[]))=_:=ix_conj_run (φ:=rbb_f) (ψ:=rbb_g) (fun _=>rfl) (fun _=>rfl) rbb_RF rbb_P xs [] rfl (Nat.le_trans k (by decide)) ⟨k,by show (0:Int)≤0;decide⟩
 rw[hr]
 have hs:scan 2 (rbb_S xs) 0 xs []=_:=scan_fold (st:=rbb_S xs) (f:=fun o v=>putL v 1 o) (fun _ _ _=>rfl) xs 0 []
 show ((scan 2 (rbb_S xs) 0 xs []).1,rbb_g ((scan 2 (rbb_S xs) 0 xs []).2.1,xs,(scan 2 (rbb_S xs) 0 xs []).2.2))=_
 rw[hs,Int.zero_add]
noncomputable def rsa_S (_:rsa_GC) (b:rsa_GB) (_:Int) (v:Many):Ex×rsa_GB:=(.normal,putM b v)
def rsa_K (c:rsa_GC) (b:rsa_GB) (i:Int):Prop:=c.length≤400000∧(List.length b:Int)≤400000+i
abbrev rsa_I (g:rsa_G):List Prop:=ixI (fun c:rsa_GC=>(List.length c:Int)) (fun c=>c) rsa_K (rsa_f g)
abbrev rsa_M (g:rsa_G):Nat:=ixM (fun c:rsa_GC=>(List.length c:Int)) (rsa_f g)
theorem rsa_P:ixP rsa_S (fun c:rsa_GC=>c) rsa_K:=fun c b i a h _ _=>⟨h.1,by
 have:=h.2
 have hl:=putL_len a.r a.n b
 show ((putL a.r a.n b).length:Int)≤_
 omega⟩
noncomputable abbrev rsa_RR (g:rsa_G):Ex×rsa_G:=rsa_R g.1 g.2.1 g.2.2
theorem rsa_RF (d:Int×rsa_GC×rsa_GB) (_:allP (ixI (fun c:rsa_GC=>(List.length c:Int)) (fun c=>c) rsa_K d)):rsa_RR (rsa_g d)=((ixF 0 (fun c:rsa_GC=>(List.length c:Int)) (fun c=>c) eM.dflt rsa_S d).1,rsa_g (ixF 0 (fun c:rsa_GC=>(List.length c:Int)) (fun c=>c) eM.dflt rsa_S d).2):=by
 obtain ⟨i,xs,o⟩:=d
 show rsa_R xs i o=_
 unfold rsa_R ixF rsa_S putM
 simp only[El.ag_eq]
 cases decide (i<(List.length xs:Int)) <;> rfl
theorem rsa_ok:∀ b∈loopsOf Tryd.prog 34,lkey b=9→LoopOk Tryd.prog b (rsa_C rsa_I rsa_M).g:=by
 refine rsa_loop rsa_I rsa_M (fun g hi=>?_) (ix_conj_goes (fun _=>rfl) (fun _=>rfl) rsa_RF rsa_P)
 obtain ⟨xs,i,o⟩:=g
 obtain ⟨h1,h2,h3,h4,h5,h6⟩:=hi _ (List.mem_cons_self ..)
 have h3:0≤i:=h3
 have h4:i≤(xs.length:Int):=h4
 have h5:xs.length≤400000:=h5
 have h6:(o.length:Int)≤400000+i:=h6
 show rsa_side xs i o
 unfold rsa_side
 simp only[El.okL_eq,El.ag_eq,decide_eq_true_eq,decide_eq_false_iff_not]
 refine ⟨fun hlt=>⟨⟨h3,hlt⟩,⟨h3,hlt⟩,trivial,by omega,trivial,trivial⟩,fun _=>⟨trivial,trivial⟩⟩
noncomputable def rsb_S (_:rsb_GC) (b:rsb_GB) (_:Int) (v:Many):Ex×rsb_GB:=(.normal,putM b v)
def rsb_K (c:rsb_GC) (b:rsb_GB) (i:Int):Prop:=c.length≤400000∧(List.length b:Int)≤400000+i
abbrev rsb_I (g:rsb_G):List Prop:=ixI (fun c:rsb_GC=>(List.length c:Int)) (fun c=>c) rsb_K (rsb_f g)
abbrev rsb_M (g:rsb_G):Nat:=ixM (fun c:rsb_GC=>(List.length c:Int)) (rsb_f g)
theorem rsb_P:ixP rsb_S (fun c:rsb_GC=>c) rsb_K:=fun c b i a h _ _=>⟨h.1,by
 have:=h.2
 have hl:=putL_len a.r a.n b
 show ((putL a.r a.n b).length:Int)≤_
 omega⟩
noncomputable abbrev rsb_RR (g:rsb_G):Ex×rsb_G:=rsb_R g.1 g.2.1 g.2.2
theorem rsb_RF (d:Int×rsb_GC×rsb_GB) (_:allP (ixI (fun c:rsb_GC=>(List.length c:Int)) (fun c=>c) rsb_K d)):rsb_RR (rsb_g d)=((ixF 2 (fun c:rsb_GC=>(List.length c:Int)) (fun c=>c) eM.dflt rsb_S d).1,rsb_g (ixF 2 (fun c:rsb_GC=>(List.length c:Int)) (fun c=>c) eM.dflt rsb_S d).2):=by
 obtain ⟨i,xs,o⟩:=d
 show rsb_R xs i o=_
 unfold rsb_R ixF rsb_S putM
 simp only[El.ag_eq]
 cases decide (i<(List.length xs:Int)) <;> rfl
theorem rsb_ok:∀ b∈loopsOf Tryd.prog 34,lkey b=13→LoopOk Tryd.prog b (rsb_C rsb_I rsb_M).g:=by
 refine rsb_loop rsb_I rsb_M (fun g hi=>?_) (ix_conj_goes (fun _=>rfl) (fun _=>rfl) rsb_RF rsb_P)
 obtain ⟨xs,i,o⟩:=g
 obtain ⟨h1,h2,h3,h4,h5,h6⟩:=hi _ (List.mem_cons_self ..)
 have h3:0≤i:=h3
 have h4:i≤(xs.length:Int):=h4
 have h5:xs.length≤400000:=h5
 have h6:(o.length:Int)≤400000+i:=h6
 show rsb_side xs i o
 unfold rsb_side
 simp only[El.okL_eq,El.ag_eq,decide_eq_true_eq,decide_eq_false_iff_not]
 refine ⟨fun hlt=>⟨⟨h3,hlt⟩,⟨h3,hlt⟩,trivial,by omega,trivial,trivial⟩,fun _=>⟨trivial,trivial⟩⟩
noncomputable def ltO10:LTab Tryd.prog:=((ltO3.cons 25 9 (rbb_C rbb_I rbb_M) rbb_ok).cons 34 9 (rsa_C rsa_I rsa_M) rsa_ok).cons 34 13 (rsb_C rsb_I rsb_M) rsb_ok
noncomputable abbrev lamO10:Lam:=ltO10.lam
theorem lamO10_ok:∀ f k L,lamO10 f k=some L→∀ b∈loopsOf Tryd.prog f,lkey b=k→LoopOk Tryd.prog b L.g:=ltO10.ok
end Go.Proofs.YtmegbepjdololaaDoor

namespace Go.Proofs.YtmegbepjdololaaDoor
open Go.RowKit Go.Sx
set_option maxRecDepth 100000
set_option linter.unusedVariables false
abbrev aLR1:DA (List Rec):=.one dLR
abbrev aLMM2:DA (List Many×List Many):=.cons dLM (.one dLM)
noncomputable def bgA_q1 (l:List Rec):Ex ×
 ba_G:=
 loopF (fun g=>ba_R g.fst g.snd.fst g.snd.snd.fst g.snd.snd.snd.fst g.snd.snd.snd.snd.fst g.snd.snd.snd.snd.snd.fst g.snd.snd.snd.snd.snd.snd) ba_M (eR.ag l,(↑l.length:Int),(0:Int),(),(List.map (fun x=>(Rec.mk (0:Int) (ByteArray.mk #[]),(0:Int),(0:Int))) (List.range (0:Nat)),(0:Nat)),(),(0:Int))
noncomputable def bgA_F (l:List Rec):Dv.T dLME:=
 bif exB Ex.ret (bgA_q1 l).fst then ([],(bgA_q1 l).snd.snd.snd.snd.snd.snd.snd)
 else (eM.ag (bagE (List.map d3e ((eR.ent eI).ag (bgA_q1 l).snd.snd.snd.snd.snd.fst.fst))).fst,(bagE (List.map d3e ((eR.ent eI).ag (bgA_q1 l).snd.snd.snd.snd.snd.fst.fst))).snd)
def bgA_side (l:List Rec):Prop:=
 eR.okL l∧(∀ (e:Nat),e<(0:Nat)→True)∧Lp.ixJ (fun c=>c.snd) (fun c=>c.fst) ba_K (ba_f (eR.ag l,(↑l.length:Int),(0:Int),(),(List.map (fun x=>(Rec.mk (0:Int) (ByteArray.mk #[]),(0:Int),(0:Int))) (List.range (0:Nat)),(0:Nat)),(),(0:Int)))∧(exB Ex.ret (bgA_q1 l).fst=false→(∀ (e:Nat),e<(bgA_q1 l).snd.snd.snd.snd.snd.fst.fst.length→True)∧(List.map d3e ((eR.ent eI).ag (bgA_q1 l).snd.snd.snd.snd.snd.fst.fst)).length≤(1000000:Nat)∧KdE (List.map d3e ((eR.ent eI).ag (bgA_q1 l).snd.snd.snd.snd.snd.fst.fst))∧eM.okL (bagE (List.map d3e ((eR.ent eI).ag (bgA_q1 l).snd.snd.snd.snd.snd.fst.fst))).fst)
theorem bgA_okS (pre:DA.T aLR1→List Prop) (h:∀ g,DA.bd aLR1 g→(∀ p∈pre g,p)→bgA_side g):FnPure Tryd.prog 24 aLR1 dLME (fun g=>bgA_F g) pre:=pure_of_sideS (Γ:=(MTab.gamz tabO9 [] [(32,3,3)])) (Λ:=lamO10) (MTab.okz tabO9 [] [(32,3,3)]) lamO10_ok 100 default (fun g=>bgA_side g) (fun g=>by kernel_rfl) (fun g=>by kernel_rfl) h
noncomputable def bgB_q1 (l:List Rec):Ex ×
 rb_G:=
 loopF (fun g=>rb_R g.fst g.snd.fst g.snd.snd.fst g.snd.snd.snd) rb_M (eR.ag l,(0:Int),(),(0:Int))
noncomputable def bgB_q2 (l:List Rec):Ex×rbb_G:=
 loopF (fun g=>rbb_R g.fst g.snd.fst g.snd.snd) rbb_M (eR.ag (bgB_q1 l).snd.fst,(0:Int),[])
noncomputable def bgB_F (l:List Rec):Dv.T dLME:=
 bif exB Ex.ret (bgB_q1 l).fst then ([],(bgB_q1 l).snd.snd.snd.snd)
 else bif overC (eM.ag (bgB_q2 l).snd.snd.snd) != (0:Int) then ([],overC (eM.ag (bgB_q2 l).snd.snd.snd)) else (eM.ag (bgB_q2 l).snd.snd.snd,(0:Int))
def bgB_side (l:List Rec):Prop:=
 eR.okL l∧Lp.ixJ (fun c=>(↑(List.length c):Int)) (fun c=>c) rb_K (rb_f (eR.ag l,(0:Int),(),(0:Int)))∧(exB Ex.ret (bgB_q1 l).fst=false→eR.okL (bgB_q1 l).snd.fst∧Lp.ixJ (fun c=>(↑(List.length c):Int)) (fun c=>c) rbb_K (rbb_f (eR.ag (bgB_q1 l).snd.fst,(0:Int),[]))∧eM.okL (bgB_q2 l).snd.snd.snd∧(eM.ag (bgB_q2 l).snd.snd.snd).length≤KB∧((overC (eM.ag (bgB_q2 l).snd.snd.snd) != (0:Int))=false→eM.okL (bgB_q2 l).snd.snd.snd))
theorem bgB_okS (pre:DA.T aLR1→List Prop) (h:∀ g,DA.bd aLR1 g→(∀ p∈pre g,p)→bgB_side g):FnPure Tryd.prog 25 aLR1 dLME (fun g=>bgB_F g) pre:=pure_of_sideS (Γ:=(MTab.gamz tabO9 [] [(32,3,3)])) (Λ:=lamO10) (MTab.okz tabO9 [] [(32,3,3)]) lamO10_ok 100 default (fun g=>bgB_side g) (fun g=>by kernel_rfl) (fun g=>by kernel_rfl) h
end Go.Proofs.YtmegbepjdololaaDoor

namespace Go.Proofs.YtmegbepjdololaaDoor
open Go.RowKit Go.Sx Go.Lp
noncomputable abbrev sumM (l:List Many) (k:Rec):Int:=sumK Many.r Many.n l k
noncomputable def totM (l:List Many):List Many:=totK Many.r Many.n Many.mk cmpR l
theorem many_ext (a b:Many) (h1:a.r=b.r) (h2:a.n=b.n):a=b:=by cases a;cases b;simp_all
theorem totM_mem (l:List Many) (y:Many):y∈totM l↔(∃ x∈l,x.r=y.r)∧y.n=sumM l y.r:=totK_mem Many.r Many.n toR (fun _ _=>rfl) (fun _ _=>rfl) many_ext l y
theorem totM_srt (l:List Many):Srt Many.r cmpR (totM l):=totK_srt Many.r Many.n toR (fun _ _=>rfl) (fun _ _=>rfl) l
def Few (l:List Many):Prop:=l.length≤400000∧∀ x∈l,0≤x.n∧x.n≤1048576
noncomputable def mapM (l:List Many):List MEr×Nat:=l.foldl mputM ([],0)
theorem mapM_of (l:List Many):MapOf Many.r Many.n addW 0 l (mapM l):=mapOf_all Many.r Many.n addW 0 dEr l
theorem mapM_len (l:List Many):(mapM l).1.length≤l.length:=by
 have:=map_len Many.r Many.n addW 0 dEr l ([],0)
 have h0:(([],0):List MEr×Nat).1.length=0:=rfl
 rw[h0,Nat.zero_add] at this
 exact this
noncomputable def entM (l:List Many):List (Rec×Int):=(mapM l).1.map d3e
theorem entM_len (l:List Many):(entM l).length≤l.length:=by
 unfold entM
 rw[List.length_map]
 exact mapM_len l
theorem entM_kd (l:List Many):KdE (entM l):=by
 unfold entM KdE
 rw[List.pairwise_map]
 exact (mapM_of l).2.1
theorem acc_sum:∀ (l:List Many) (s:Int) (k:Rec),(∀ x∈l,0≤x.n∧x.n≤1048576)→0≤s→s+1048576 * (l.length:Int)≤9223372036854775807→(l.filter fun x=>decide (x.r=k)).foldl (fun b x=>addW b x.n) s=s+sumM l k
 | [],s,k,_,_,_=>by simp[sumM,sumK]
 | x :: l,s,k,h,h0,hs=>by
  have hx:=h x (List.mem_cons_self ..)
  rw[List.length_cons] at hs
  have hl:=fun s h0 hs=>acc_sum l s k (fun y hy=>h y (List.mem_cons_of_mem _ hy)) h0 hs
  have e:sumM (x :: l) k=(if x.r=k then x.n else 0)+sumM l k:=rfl
  rw[e]
  by_cases hk:x.r=k
  ·rw[List.filter_cons,if_pos (by simpa using hk),List.foldl_cons,if_pos hk]
   have:addW s x.n=s+x.n:=wr64 (by omega)
   rw[this,hl _ (by omega) (by omega)]
   omega
  ·rw[List.filter_cons,if_neg (by simpa using hk),if_neg hk,hl s h0 (by omega)]
   omega
theorem entM_mem {l:List Many} (h:Few l) (e:Rec×Int):e∈entM l↔(∃ x∈l,x.r=e.1)∧e.2=sumM l e.1:=by
 obtain ⟨_,hk,h1,h2⟩:=mapM_of l
 have hacc:∀ k,accK Many.r Many.n addW 0 l k=sumM l k:=fun k=>by
  unfold accK
  rw[acc_sum l 0 k h.2 (Int.le_refl _) (by have:=h.1;omega)]
  omega
 unfold entM
 rw[List.mem_map]
 constructor
 ·rintro ⟨x,hx,rfl⟩
  refine ⟨(h1 _).1 ⟨x,hx,rfl⟩,?_⟩
  show x.2.1=_
  rw[h2 x hx,hacc]
  rfl
 ·rintro ⟨hx,he⟩
  obtain ⟨x,hxm,hxk⟩:=(h1 _).2 hx
  refine ⟨x,hxm,?_⟩
  show (x.1,x.2.1)=e
  rw[h2 x hxm,hacc,hxk,← he]
noncomputable def bagT (l:List Many):List Many×Int:=bif (totM l).any (fun v=>decide (v.n > 1048576)) then ([],51) else (totM l,0)
theorem bagE_eq {l:List Many} (h:Few l):bagE (entM l)=bagT l:=by
 have hm:∀ y:Many,y∈(entM l).map mkM↔y∈totM l:=fun y=>by
  rw[List.mem_map,totM_mem]
  constructor
  ·rintro ⟨e,he,rfl⟩
   exact (entM_mem h e).1 he
  ·rintro h2
   exact ⟨(y.r,y.n),(entM_mem h (y.r,y.n)).2 h2,rfl⟩
 have hany:(entM l).any bgP=(totM l).any (fun v=>decide (v.n > 1048576)):=by
  rw[Bool.eq_iff_iff,List.any_eq_true,List.any_eq_true]
  constructor
  ·rintro ⟨e,he,hp⟩
   exact ⟨mkM e,(hm _).1 (List.mem_map.2 ⟨e,he,rfl⟩),hp⟩
  ·rintro ⟨y,hy,hp⟩
   obtain ⟨e,he,rfl⟩:=List.mem_map.1 ((hm y).2 hy)
   exact ⟨e,he,hp⟩
 have hkd:=kd_mk (entM_kd l)
 have hs:srtBy cmpM ((entM l).map mkM)=totM l:=by
  have h1:=srtBy_sorted cmpM swoM ((entM l).map mkM)
  have h2:(srtBy cmpM ((entM l).map mkM)).Pairwise fun a b=>a.r≠b.r:=(List.Perm.pairwise_iff (fun h=>Ne.symm h) (srtBy_perm cmpM _)).2 hkd
  refine srt_unique Many.r Many.n cmpR toR many_ext ?_ (totM_srt l) fun x=>?_
  ·exact (h1.and h2).imp fun {a b} h=>toR.lt_or (Ne.symm h.2) h.1
  ·rw[(srtBy_perm cmpM _).mem_iff,hm]
 unfold bagE bagT
 rw[hany,hs]
theorem cmpR_self (a:Rec):cmpR a a=0:=cmpR_same (rlt_irrefl a) rfl
theorem cmpR_zero {a b:Rec} (h:cmpR a b=0):a=b:=by
 unfold cmpR at h
 split at h
 ·cases h
 ·split at h
  ·assumption
  ·cases h
theorem put_done (r:Rec) (n:Int):∀ (l o:List Many),(∀ v∈l,cmpR r v.r<0)→l.foldl (puStep r n) (true,o)=(true,o++l)
 | [],o,_=>by simp
 | v :: l,o,h=>by
  have hv:=h v (List.mem_cons_self ..)
  have e:puStep r n (true,o) v=(true,o++[v]):=by
   unfold puStep
   have:(cmpR r v.r==0)=false:=by rw[beq_eq_false_iff_ne];omega
   rw[this]
   rfl
  rw[List.foldl_cons,e,put_done r n l _ (fun x hx=>h x (List.mem_cons_of_mem _ hx)),List.append_assoc]
  rfl
theorem put_go (x:Many) (h0:0≤x.n∧x.n≤1048576):∀ (l o:List Many),Srt Many.r cmpR l→(∀ y∈l,0≤y.n∧y.n≤4611686018427387904) →
  (bif !(l.foldl (puStep x.r x.n) (false,o)).1 then (l.foldl (puStep x.r x.n) (false,o)).2++[⟨x.r,x.n⟩] else (l.foldl (puStep x.r x.n) (false,o)).2)=o++putK Many.r Many.n Many.mk cmpR x l
 | [],o,_,_=>rfl
 | v :: l,o,hs,hb=>by
  have hs':=List.pairwise_cons.1 hs
  have hv:=hb v (List.mem_cons_self ..)
  unfold putK
  by_cases h1:cmpR x.r v.r<0
  ·have e:puStep x.r x.n (false,o) v=(true,o++[x]++[v]):=by
    unfold puStep
    have:(cmpR x.r v.r==0)=false:=by rw[beq_eq_false_iff_ne];omega
    rw[this,decide_eq_true h1]
    rfl
   rw[if_pos h1,List.foldl_cons,e,put_done x.r x.n l _ (fun y hy=>toR.trans h1 (hs'.1 y hy))]
   simp
  ·rw[if_neg h1]
   by_cases h2:x.r=v.r
   ·have hc:cmpR x.r v.r=0:=by rw[h2];exact cmpR_self _
    have e:puStep x.r x.n (false,o) v=(true,o++[⟨x.r,v.n+x.n⟩]):=by
     unfold puStep
     rw[hc,wr64 (x:=v.n+x.n) (by omega)]
     rfl
    rw[if_pos h2,List.foldl_cons,e,put_done x.r x.n l _ (fun y hy=>by rw[h2];exact hs'.1 y hy)]
    simp
   ·have hc:cmpR x.r v.r≠0:=fun h=>h2 (cmpR_zero h)
    have e:puStep x.r x.n (false,o) v=(false,o++[v]):=by
     unfold puStep
     have:(cmpR x.r v.r==0)=false:=by rw[beq_eq_false_iff_ne];exact hc
     rw[this,decide_eq_false h1]
     rfl
    rw[if_neg h2,List.foldl_cons,e,put_go x h0 l _ hs'.2 (fun y hy=>hb y (List.mem_cons_of_mem _ hy)),List.append_assoc]
    rfl
theorem putM_K {o:List Many} {x:Many} (h0:0≤x.n∧x.n≤1048576) (hs:Srt Many.r cmpR o) (hb:∀ y∈o,0≤y.n∧y.n≤4611686018427387904):putM o x=putK Many.r Many.n Many.mk cmpR x o:=put_go x h0 o [] hs hb
theorem putK_bound {x:Many} {B:Int} (h0:0≤x.n∧x.n≤1048576):∀ {o:List Many},0≤B→(∀ y∈o,0≤y.n∧y.n≤B)→∀ y∈putK Many.r Many.n Many.mk cmpR x o,0≤y.n∧y.n≤B+1048576
 | [],hB,_,y,hy=>by
  rw[List.mem_singleton.1 hy]
  omega
 | v :: o,hB,h,y,hy=>by
  have hv:=h v (List.mem_cons_self ..)
  unfold putK at hy
  split at hy
  ·rcases List.mem_cons.1 hy with rfl | hy
   ·omega
   ·have:=h y hy;omega
  ·split at hy
   ·rcases List.mem_cons.1 hy with rfl | hy
    ·show 0≤v.n+x.n∧v.n+x.n≤_;omega
    ·have:=h y (List.mem_cons_of_mem _ hy);omega
   ·rcases List.mem_cons.1 hy with rfl | hy
    ·omega
    ·exact putK_bound h0 hB (fun z hz=>h z (List.mem_cons_of_mem _ hz)) y hy
theorem putM_tot:∀ (l o:List Many) (B:Int),Srt Many.r cmpR o→0≤B→(∀ y∈o,0≤y.n∧y.n≤B)→(∀ x∈l,0≤x.n∧x.n≤1048576)→B+1048576 * (l.length:Int)≤4611686018427387904→l.foldl putM o=l.foldl (fun a x=>putK Many.r Many.n Many.mk cmpR x a) o
 | [],_,_,_,_,_,_,_=>rfl
 | x :: l,o,B,hs,hB,hb,hl,hle=>by
  rw[List.length_cons] at hle
  have hx:=hl x (List.mem_cons_self ..)
  rw[List.foldl_cons,List.foldl_cons,putM_K hx hs (fun y hy=>by have:=hb y hy;omega)]
  exact putM_tot l _ (B+1048576) (putK_srt Many.r Many.n toR (fun _ _=>rfl) x hs) (by omega) (putK_bound hx hB hb) (fun y hy=>hl y (List.mem_cons_of_mem _ hy)) (by omega)
theorem putM_all {l:List Many} (h:Few l):l.foldl putM []=totM l:=putM_tot l [] 0 List.Pairwise.nil (Int.le_refl _) (fun _ hy=>by cases hy) h.2 (by have:=h.1;omega)
def oneM (r:Rec):Many:=⟨r,1⟩
theorem few_one {l:List Rec} (h:l.length≤400000):Few (l.map oneM):=⟨by rw[List.length_map];exact h,fun x hx=>by
 obtain ⟨r,_,rfl⟩:=List.mem_map.1 hx
 exact ⟨by show (0:Int)≤1;decide,by show (1:Int)≤1048576;decide⟩⟩
theorem fold_one (l:List Rec) (o:List Many):l.foldl (fun o v=>putL v 1 o) o=(l.map oneM).foldl putM o:=by
 rw[List.foldl_map]
 rfl
theorem fold_oneR (l:List Rec) (m:List MEr×Nat):l.foldl mputR m=(l.map oneM).foldl mputM m:=by
 rw[List.foldl_map]
 rfl
noncomputable def bagC (l:List Rec):List Many×Int:=bif l.any (fun v=>chkR v != 0) then ([],50) else bagT (l.map oneM)
theorem overC_tot (l:List Many):(bif overC (totM l) != 0 then (([],overC (totM l)):List Many×Int) else (totM l,0))=bagT l:=by
 unfold overC bagT
 cases (totM l).any (fun v=>decide (v.n > 1048576)) <;> rfl
end Go.Proofs.YtmegbepjdololaaDoor

namespace Go.Proofs.YtmegbepjdololaaDoor
open Go.RowKit Go.Sx Go.Lp
set_option maxRecDepth 100000
theorem chk50 {r:Rec} (h:(chkR r != (0:Int))=true):chkR r=50:=by
 rcases chkR_two r with h1 | h1
 ·rw[h1] at h;cases h
 ·exact h1
theorem bgA_eq (l:List Rec) (h:l.length≤400000):bgA_side l∧bgA_F l=bagC l:=by
 have hm:l.length≤maxLen:=Nat.le_trans h (by decide)
 have hr:=ba_run l 0 hm
 have hq:bgA_q1 l=loopF ba_RR ba_M (ba_g (0,(l,(l.length:Int)),(([],0),0))):=by
  unfold bgA_q1
  rw[El.ag_eq]
  rfl
 rw[hr] at hq
 have hJ:Lp.ixJ (fun c=>c.snd) (fun c=>c.fst) ba_K (ba_f (l,(↑l.length:Int),(0:Int),(),(List.map (fun x=>(Rec.mk (0:Int) (ByteArray.mk #[]),(0:Int),(0:Int))) (List.range (0:Nat)),(0:Nat)),(),(0:Int))):=ixJ0 rfl hm trivial
 unfold bgA_side bgA_F bagC
 simp only[El.okL_eq,El.ag_eq]
 rw[hq]
 rcases scan_bad (x:=0) (st:=ba_S (l,(l.length:Int))) (e:=.ret) (p:=fun v:Rec=>chkR v != 0) (r:=fun v b=>(b.1,chkR v)) (f:=fun b v=>(mputR b.1 v,b.2)) (by simp) (fun _ _ _=>rfl) l 0 (([],0),(0:Int)) with ⟨ha,h2,a,b',_,hp,h3⟩ | ⟨ha,h2⟩
 ·rw[ha,h2]
  have h3:(scan 0 (ba_S (l,(l.length:Int))) 0 l (([],0),0)).2.2=(b'.1,chkR a):=h3
  refine ⟨⟨trivial,fun _ _=>trivial,hJ,fun h=>(by cases h)⟩,?_⟩
  show ([],(scan 0 (ba_S (l,(l.length:Int))) 0 l (([],0),0)).2.2.2)=_
  rw[h3,chk50 hp];rfl
 ·have hf:∀ (l:List Rec) (b:ba_GB),l.foldl (fun b v=>(mputR b.1 v,b.2)) b=(l.foldl mputR b.1,b.2):=by
   intro l
   induction l with
   | nil=>intro b;rfl
   | cons a l ih=>intro b;rw[List.foldl_cons,List.foldl_cons,ih]
  rw[hf] at h2
  have h2:scan 0 (ba_S (l,(l.length:Int))) 0 l (([],0),0)=(.exit 0,0+(l.length:Int),(l.foldl mputR ([],0),0)):=h2
  rw[ha,h2,fold_oneR]
  have hl:=entM_len (l.map oneM)
  rw[List.length_map] at hl
  refine ⟨⟨trivial,fun _ _=>trivial,hJ,fun _=>⟨fun _ _=>trivial,?_,entM_kd (l.map oneM),trivial⟩⟩,?_⟩
  ·show (entM (l.map oneM)).length≤1000000
   omega
  ·show ((bagE (entM (l.map oneM))).1,(bagE (entM (l.map oneM))).2)=_
   rw[bagE_eq (few_one h)]
   rfl
theorem bgA_ok:FnPure Tryd.prog 24 aLR1 dLME bagC (fun l=>[l.length≤400000]):=
 pure_congr (bgA_okS _ fun g _ hp=>(bgA_eq g (hp _ (List.mem_cons_self ..))).1) fun g _ hp=>(bgA_eq g (hp _ (List.mem_cons_self ..))).2
theorem bgB_eq (l:List Rec) (h:l.length≤400000):bgB_side l∧bgB_F l=bagC l:=by
 have hm:l.length≤maxLen:=Nat.le_trans h (by decide)
 have hr:=rb_run l ((),(0:Int)) rfl hm trivial
 have hq:bgB_q1 l=loopF rb_RR rb_M (rb_g (0,l,((),0))):=by
  unfold bgB_q1
  rw[El.ag_eq]
  rfl
 rw[hr] at hq
 have hJ:Lp.ixJ (fun c=>(↑(List.length c):Int)) (fun c=>c) rb_K (rb_f (l,(0:Int),(),(0:Int))):=ixJ0 rfl hm trivial
 unfold bgB_side bgB_F bagC
 simp only[El.okL_eq,El.ag_eq]
 rcases search (x:=0) (st:=rb_S l) (p:=fun v=>chkR v != 0) (r:=fun _ v _=>((),chkR v)) (fun _ _ _=>rfl) l ((),(0:Int)) with ⟨ha,j,hj,a,haa,hp,h3⟩ | ⟨ha,h3⟩
 ·have h3:scan 0 (rb_S l) 0 l ((),(0:Int))=_:=h3
  rw[h3] at hq
  rw[hq,ha]
  refine ⟨⟨trivial,hJ,fun h=>(by cases h)⟩,?_⟩
  show ([],chkR a)=_
  rw[chk50 hp];rfl
 ·have h3:scan 0 (rb_S l) 0 l ((),(0:Int))=_:=h3
  rw[h3] at hq
  have hq1:(bgB_q1 l).2.1=l:=by rw[hq];rfl
  have hq2:bgB_q2 l=loopF rbb_RR rbb_M (rbb_g (0,l,[])):=by
   unfold bgB_q2
   rw[hq1,El.ag_eq]
   rfl
  rw[rbb_run l (by omega)] at hq2
  rw[fold_one,putM_all (few_one h)] at hq2
  have ho:(bgB_q2 l).2.2.2=totM (l.map oneM):=by rw[hq2];rfl
  rw[hq1,ho,ha]
  rw[hq]
  have hlen:(totM (l.map oneM)).length≤400000:=by
   rw[← putM_all (few_one h),← fold_one]
   have key:∀ (l:List Rec) (o:List Many),(l.foldl (fun o v=>putL v 1 o) o).length≤o.length+l.length:=by
    intro l
    induction l with
    | nil=>intro o;exact Nat.le_refl _
    | cons a l ih=>
     intro o
     have h1:=ih (putL a 1 o)
     have h2:=putL_len a 1 o
     rw[List.foldl_cons,List.length_cons]
     omega
   have:=key l []
   simp only[List.length_nil] at this
   omega
  refine ⟨⟨trivial,hJ,fun _=>⟨trivial,?_,trivial,Nat.le_trans hlen (by decide),fun _=>trivial⟩⟩,?_⟩
  ·exact ixJ0 rfl hm ⟨by show l.length≤500000;omega,by show (0:Int)≤0;decide⟩
  ·exact overC_tot _
theorem bgB_ok:FnPure Tryd.prog 25 aLR1 dLME bagC (fun l=>[l.length≤400000]):=
 pure_congr (bgB_okS _ fun g _ hp=>(bgB_eq g (hp _ (List.mem_cons_self ..))).1) fun g _ hp=>(bgB_eq g (hp _ (List.mem_cons_self ..))).2
end Go.Proofs.YtmegbepjdololaaDoor

namespace Go.Proofs.YtmegbepjdololaaDoor
open Go.RowKit Go.Sx
set_option maxRecDepth 100000
set_option linter.unusedVariables false
abbrev e8u:El Int:=eInt .u8
abbrev dU64:Dv Int:=dInt .u64
abbrev A21:Type:=Int×Int×Int×Int×Int×Int×Int×Int×Int×Int×Int×Int×Int×Int×Int×Int×Int×Int×Int×Int×Int
def e21:El A21:=.pair e8u (.pair e8u (.pair e8u (.pair e8u (.pair e8u (.pair e8u (.pair e8u (.pair e8u (.pair e8u (.pair e8u (.pair e8u (.pair e8u (.pair e8u (.pair e8u (.pair e8u (.pair e8u (.pair e8u (.pair e8u (.pair e8u (.pair e8u e8u)))))))))))))))))))
abbrev nm_G:Type:=Unit×A21×Int×Int
noncomputable def nm_LP:LP 1 nm_G:=.pair (.fix 1 4 (.p 0 0)) (.pair (.obj 1 0 140 e21) (.pair (.slot 1 5 dI) (.slot 1 3 dU64)))
noncomputable def nm_R (_u:Unit) (b:A21) (i:Int) (u:Int):Ex×nm_G:=
 bif IntKind.u64.wrap (u.tdiv (10:Int))==(0:Int) then (Ex.exit (0:Nat),(),(bif decide ((IntKind.i64.wrap (i - (1:Int))).toNat=(0:Nat)) then IntKind.u8.wrap (IntKind.u64.wrap ((48:Int)+u.tmod (10:Int))) else b.fst,bif decide ((IntKind.i64.wrap (i - (1:Int))).toNat=(1:Nat)) then IntKind.u8.wrap (IntKind.u64.wrap ((48:Int)+u.tmod (10:Int))) else b.snd.fst,bif decide ((IntKind.i64.wrap (i - (1:Int))).toNat=(2:Nat)) then IntKind.u8.wrap (IntKind.u64.wrap ((48:Int)+u.tmod (10:Int))) else b.snd.snd.fst,bif decide ((IntKind.i64.wrap (i - (1:Int))).toNat=(3:Nat)) then IntKind.u8.wrap (IntKind.u64.wrap ((48:Int)+u.tmod (10:Int))) else b.snd.snd.snd.fst,bif decide ((IntKind.i64.wrap (i - (1:Int))).toNat=(4:Nat)) then IntKind.u8.wrap (IntKind.u64.wrap ((48:Int)+u.tmod (10:Int))) else b.snd.snd.snd.snd.fst,bif decide ((IntKind.i64.wrap (i - (1:Int))).toNat=(5:Nat)) then IntKind.u8.wrap (IntKind.u64.wrap ((48:Int)+u.tmod (10:Int))) else b.snd.snd.snd.snd.snd.fst,bif decide ((IntKind.i64.wrap (i - (1:Int))).toNat=(6:Nat)) then IntKind.u8.wrap (IntKind.u64.wrap ((48:Int)+u.tmod (10:Int))) else b.snd.snd.snd.snd.snd.snd.fst,bif decide ((IntKind.i64.wrap (i - (1:Int))).toNat=(7:Nat)) then IntKind.u8.wrap (IntKind.u64.wrap ((48:Int)+u.tmod (10:Int))) else b.snd.snd.snd.snd.snd.snd.snd.fst,bif decide ((IntKind.i64.wrap (i - (1:Int))).toNat=(8:Nat)) then IntKind.u8.wrap (IntKind.u64.wrap ((48:Int)+u.tmod (10:Int))) else b.snd.snd.snd.snd.snd.snd.snd.snd.fst,bif decide ((IntKind.i64.wrap (i - (1:Int))).toNat=(9:Nat)) then IntKind.u8.wrap (IntKind.u64.wrap ((48:Int)+u.tmod (10:Int))) else b.snd.snd.snd.snd.snd.snd.snd.snd.snd.fst,bif decide ((IntKind.i64.wrap (i - (1:Int))).toNat=(10:Nat)) then IntKind.u8.wrap (IntKind.u64.wrap ((48:Int)+u.tmod (10:Int))) else b.snd.snd.snd.snd.snd.snd.snd.snd.snd.snd.fst,bif decide ((IntKind.i64.wrap (i - (1:Int))).toNat=(11:Nat)) then IntKind.u8.wrap (IntKind.u64.wrap ((48:Int)+u.tmod (10:Int))) else b.snd.snd.snd.snd.snd.snd.snd.snd.snd.snd.snd.fst,bif decide ((IntKind.i64.wrap (i - (1:Int))).toNat=(12:Nat)) then IntKind.u8.wrap (IntKind.u64.wrap ((48:Int)+u.tmod (10:Int))) else b.snd.snd.snd.snd.snd.snd.snd.snd.snd.snd.snd.snd.fst,bif decide ((IntKind.i64.wrap (i - (1:Int))).toNat=(13:Nat)) then IntKind.u8.wrap (IntKind.u64.wrap ((48:Int)+u.tmod (10:Int))) else b.snd.snd.snd.snd.snd.snd.snd.snd.snd.snd.snd.snd.snd.fst,bif decide ((IntKind.i64.wrap (i - (1:Int))).toNat=(14:Nat)) then IntKind.u8.wrap (IntKind.u64.wrap ((48:Int)+u.tmod (10:Int))) else b.snd.snd.snd.snd.snd.snd.snd.snd.snd.snd.snd.snd.snd.snd.fst,bif decide ((IntKind.i64.wrap (i - (1:Int))).toNat=(15:Nat)) then IntKind.u8.wrap (IntKind.u64.wrap ((48:Int)+u.tmod (10:Int))) else b.snd.snd.snd.snd.snd.snd.snd.snd.snd.snd.snd.snd.snd.snd.snd.fst,bif decide ((IntKind.i64.wrap (i - (1:Int))).toNat=(16:Nat)) then IntKind.u8.wrap (IntKind.u64.wrap ((48:Int)+u.tmod (10:Int))) else b.snd.snd.snd.snd.snd.snd.snd.snd.snd.snd.snd.snd.snd.snd.snd.snd.fst,bif decide ((IntKind.i64.wrap (i - (1:Int))).toNat=(17:Nat)) then IntKind.u8.wrap (IntKind.u64.wrap ((48:Int)+u.tmod (10:Int))) else b.snd.snd.snd.snd.snd.snd.snd.snd.snd.snd.snd.snd.snd.snd.snd.snd.snd.fst,bif decide ((IntKind.i64.wrap (i - (1:Int))).toNat=(18:Nat)) then IntKind.u8.wrap (IntKind.u64.wrap ((48:Int)+u.tmod (10:Int))) else b.snd.snd.snd.snd.snd.snd.snd.snd.snd.snd.snd.snd.snd.snd.snd.snd.snd.snd.fst,bif decide ((IntKind.i64.wrap (i - (1:Int))).toNat=(19:Nat)) then IntKind.u8.wrap (IntKind.u64.wrap ((48:Int)+u.tmod (10:Int))) else b.snd.snd.snd.snd.snd.snd.snd.snd.snd.snd.snd.snd.snd.snd.snd.snd.snd.snd.snd.fst,bif decide ((IntKind.i64.wrap (i - (1:Int))).toNat=(20:Nat)) then IntKind.u8.wrap (IntKind.u64.wrap ((48:Int)+u.tmod (10:Int))) else b.snd.snd.snd.snd.snd.snd.snd.snd.snd.snd.snd.snd.snd.snd.snd.snd.snd.snd.snd.snd),IntKind.i64.wrap (i - (1:Int)),IntKind.u64.wrap (u.tdiv (10:Int)))
 else (Ex.normal,(),(bif decide ((IntKind.i64.wrap (i - (1:Int))).toNat=(0:Nat)) then IntKind.u8.wrap (IntKind.u64.wrap ((48:Int)+u.tmod (10:Int))) else b.fst,bif decide ((IntKind.i64.wrap (i - (1:Int))).toNat=(1:Nat)) then IntKind.u8.wrap (IntKind.u64.wrap ((48:Int)+u.tmod (10:Int))) else b.snd.fst,bif decide ((IntKind.i64.wrap (i - (1:Int))).toNat=(2:Nat)) then IntKind.u8.wrap (IntKind.u64.wrap ((48:Int)+u.tmod (10:Int))) else b.snd.snd.fst,bif decide ((IntKind.i64.wrap (i - (1:Int))).toNat=(3:Nat)) then IntKind.u8.wrap (IntKind.u64.wrap ((48:Int)+u.tmod (10:Int))) else b.snd.snd.snd.fst,bif decide ((IntKind.i64.wrap (i - (1:Int))).toNat=(4:Nat)) then IntKind.u8.wrap (IntKind.u64.wrap ((48:Int)+u.tmod (10:Int))) else b.snd.snd.snd.snd.fst,bif decide ((IntKind.i64.wrap (i - (1:Int))).toNat=(5:Nat)) then IntKind.u8.wrap (IntKind.u64.wrap ((48:Int)+u.tmod (10:Int))) else b.snd.snd.snd.snd.snd.fst,bif decide ((IntKind.i64.wrap (i - (1:Int))).toNat=(6:Nat)) then IntKind.u8.wrap (IntKind.u64.wrap ((48:Int)+u.tmod (10:Int))) else b.snd.snd.snd.snd.snd.snd.fst,bif decide ((IntKind.i64.wrap (i - (1:Int))).toNat=(7:Nat)) then IntKind.u8.wrap (IntKind.u64.wrap ((48:Int)+u.tmod (10:Int))) else b.snd.snd.snd.snd.snd.snd.snd.fst,bif decide ((IntKind.i64.wrap (i - (1:Int))).toNat=(8:Nat)) then IntKind.u8.wrap (IntKind.u64.wrap ((48:Int)+u.tmod (10:Int))) else b.snd.snd.snd.snd.snd.snd.snd.snd.fst,bif decide ((IntKind.i64.wrap (i - (1:Int))).toNat=(9:Nat)) then IntKind.u8.wrap (IntKind.u64.wrap ((48:Int)+u.tmod (10:Int))) else b.snd.snd.snd.snd.snd.snd.snd.snd.snd.fst,bif decide ((IntKind.i64.wrap (i - (1:Int))).toNat=(10:Nat)) then IntKind.u8.wrap (IntKind.u64.wrap ((48:Int)+u.tmod (10:Int))) else b.snd.snd.snd.snd.snd.snd.snd.snd.snd.snd.fst,bif decide ((IntKind.i64.wrap (i - (1:Int))).toNat=(11:Nat)) then IntKind.u8.wrap (IntKind.u64.wrap ((48:Int)+u.tmod (10:Int))) else b.snd.snd.snd.snd.snd.snd.snd.snd.snd.snd.snd.fst,bif decide ((IntKind.i64.wrap (i - (1:Int))).toNat=(12:Nat)) then IntKind.u8.wrap (IntKind.u64.wrap ((48:Int)+u.tmod (10:Int))) else b.snd.snd.snd.snd.snd.snd.snd.snd.snd.snd.snd.snd.fst,bif decide ((IntKind.i64.wrap (i - (1:Int))).toNat=(13:Nat)) then IntKind.u8.wrap (IntKind.u64.wrap ((48:Int)+u.tmod (10:Int))) else b.snd.snd.snd.snd.snd.snd.snd.snd.snd.snd.snd.snd.snd.fst,bif decide ((IntKind.i64.wrap (i - (1:Int))).toNat=(14:Nat)) then IntKind.u8.wrap (IntKind.u64.wrap ((48:Int)+u.tmod (10:Int))) else b.snd.snd.snd.snd.snd.snd.snd.snd.snd.snd.snd.snd.snd.snd.fst,bif decide ((IntKind.i64.wrap (i - (1:Int))).toNat=(15:Nat)) then IntKind.u8.wrap (IntKind.u64.wrap ((48:Int)+u.tmod (10:Int))) else b.snd.snd.snd.snd.snd.snd.snd.snd.snd.snd.snd.snd.snd.snd.snd.fst,bif decide ((IntKind.i64.wrap (i - (1:Int))).toNat=(16:Nat)) then IntKind.u8.wrap (IntKind.u64.wrap ((48:Int)+u.tmod (10:Int))) else b.snd.snd.snd.snd.snd.snd.snd.snd.snd.snd.snd.snd.snd.snd.snd.snd.fst,bif decide ((IntKind.i64.wrap (i - (1:Int))).toNat=(17:Nat)) then IntKind.u8.wrap (IntKind.u64.wrap ((48:Int)+u.tmod (10:Int))) else b.snd.snd.snd.snd.snd.snd.snd.snd.snd.snd.snd.snd.snd.snd.snd.snd.snd.fst,bif decide ((IntKind.i64.wrap (i - (1:Int))).toNat=(18:Nat)) then IntKind.u8.wrap (IntKind.u64.wrap ((48:Int)+u.tmod (10:Int))) else b.snd.snd.snd.snd.snd.snd.snd.snd.snd.snd.snd.snd.snd.snd.snd.snd.snd.snd.fst,bif decide ((IntKind.i64.wrap (i - (1:Int))).toNat=(19:Nat)) then IntKind.u8.wrap (IntKind.u64.wrap ((48:Int)+u.tmod (10:Int))) else b.snd.snd.snd.snd.snd.snd.snd.snd.snd.snd.snd.snd.snd.snd.snd.snd.snd.snd.snd.fst,bif decide ((IntKind.i64.wrap (i - (1:Int))).toNat=(20:Nat)) then IntKind.u8.wrap (IntKind.u64.wrap ((48:Int)+u.tmod (10:Int))) else b.snd.snd.snd.snd.snd.snd.snd.snd.snd.snd.snd.snd.snd.snd.snd.snd.snd.snd.snd.snd),IntKind.i64.wrap (i - (1:Int)),IntKind.u64.wrap (u.tdiv (10:Int)))
def nm_side (_u:Unit) (b:A21) (i:Int) (u:Int):Prop:=
 (10:Int)≠(0:Int)∧((0:Int)≤IntKind.i64.wrap (i - (1:Int))∧IntKind.i64.wrap (i - (1:Int))<(21:Int))∧(IntKind.i64.wrap (i - (1:Int))).toNat<(21:Nat)∧(10:Int)≠(0:Int)
theorem nm_one:((loopsOf Tryd.prog 86).filter fun c=>Nat.beq (lkey c) 6).length=1:=by kernel_rfl
theorem nm_es (g:nm_G):(nm_R g.1 g.2.1 g.2.2.1 g.2.2.2).1=.normal∨(nm_R g.1 g.2.1 g.2.2.1 g.2.2.2).1∈([.exit 0]:List Ex):=by
 unfold nm_R
 repeat' (first | (left;rfl) | (right;simp only[cond_true,cond_false];simp;done) | (rw[Bool.cond_eq_ite];split))
noncomputable abbrev nm_C (Inv:nm_G→List Prop) (m:nm_G→Nat):LCon:=loopR [.exit 0] (loopBody Tryd.prog 86 6) nm_LP [] 33 Inv (fun g=>nm_R g.1 g.2.1 g.2.2.1 g.2.2.2) m
theorem nm_loop (Inv:nm_G→List Prop) (m:nm_G→Nat) (hs:∀ g,allP (Inv g)→nm_side g.1 g.2.1 g.2.2.1 g.2.2.2) (hg:Goes (fun g:nm_G=>nm_R g.1 g.2.1 g.2.2.1 g.2.2.2) m fun g=>allP (Inv g)):∀ b∈loopsOf Tryd.prog 86,lkey b=6→LoopOk Tryd.prog b (nm_C Inv m).g:=loop_run (Γ:=(PTab.gamz tabA3 [] [])) (Λ:=noΛ) (PTab.okz tabA3 [] []) noΛ_ok 100 86 6 33 nm_LP [] Inv (fun g=>nm_R g.1 g.2.1 g.2.2.1 g.2.2.2) (fun g=>nm_side g.1 g.2.1 g.2.2.1 g.2.2.2) m default [.exit 0] nm_one (fun rd T B HL HB ds g=>by kernel_rfl) (fun rd T B HL HB ds g=>by kernel_rfl) hs hg nm_es
abbrev nd_G:Type:=Int×BA
noncomputable def nd_LP:LP 0 nd_G:=.pair (.slot 0 3 dU64) (.slot 0 4 dStr)
noncomputable def nd_R (u:Int) (s:BA):Ex×nd_G:=
 bif IntKind.u64.wrap (u.tdiv (10:Int))==(0:Int) then (Ex.exit (0:Nat),IntKind.u64.wrap (u.tdiv (10:Int)),(ByteArray.mk #[(48:UInt8),(49:UInt8),(50:UInt8),(51:UInt8),(52:UInt8),(53:UInt8),(54:UInt8),(55:UInt8),(56:UInt8),(57:UInt8),(97:UInt8),(98:UInt8),(99:UInt8),(100:UInt8),(101:UInt8),(102:UInt8)]).extract (u.tmod (10:Int)).toNat (IntKind.u64.wrap (u.tmod (10:Int)+(1:Int))).toNat++s)
 else (Ex.normal,IntKind.u64.wrap (u.tdiv (10:Int)),(ByteArray.mk #[(48:UInt8),(49:UInt8),(50:UInt8),(51:UInt8),(52:UInt8),(53:UInt8),(54:UInt8),(55:UInt8),(56:UInt8),(57:UInt8),(97:UInt8),(98:UInt8),(99:UInt8),(100:UInt8),(101:UInt8),(102:UInt8)]).extract (u.tmod (10:Int)).toNat (IntKind.u64.wrap (u.tmod (10:Int)+(1:Int))).toNat++s)
def nd_side (u:Int) (s:BA):Prop:=
 (10:Int)≠(0:Int)∧((0:Int)≤IntKind.u64.wrap (u.tmod (10:Int)+(1:Int))∧IntKind.u64.wrap (u.tmod (10:Int)+(1:Int))≤(16:Int))∧((0:Int)≤u.tmod (10:Int)∧u.tmod (10:Int)≤(↑(IntKind.u64.wrap (u.tmod (10:Int)+(1:Int))).toNat:Int))∧((ByteArray.mk #[(48:UInt8),(49:UInt8),(50:UInt8),(51:UInt8),(52:UInt8),(53:UInt8),(54:UInt8),(55:UInt8),(56:UInt8),(57:UInt8),(97:UInt8),(98:UInt8),(99:UInt8),(100:UInt8),(101:UInt8),(102:UInt8)]).extract (u.tmod (10:Int)).toNat (IntKind.u64.wrap (u.tmod (10:Int)+(1:Int))).toNat).size+ByteArray.size s≤(9223372036854775807:Nat)∧(10:Int)≠(0:Int)
theorem nd_one:((loopsOf Tryd.prog 87).filter fun c=>Nat.beq (lkey c) 5).length=1:=by kernel_rfl
theorem nd_es (g:nd_G):(nd_R g.1 g.2).1=.normal∨(nd_R g.1 g.2).1∈([.exit 0]:List Ex):=by
 unfold nd_R
 repeat' (first | (left;rfl) | (right;simp only[cond_true,cond_false];simp;done) | (rw[Bool.cond_eq_ite];split))
noncomputable abbrev nd_C (Inv:nd_G→List Prop) (m:nd_G→Nat):LCon:=loopR [.exit 0] (loopBody Tryd.prog 87 5) nd_LP [] 29 Inv (fun g=>nd_R g.1 g.2) m
theorem nd_loop (Inv:nd_G→List Prop) (m:nd_G→Nat) (hs:∀ g,allP (Inv g)→nd_side g.1 g.2) (hg:Goes (fun g:nd_G=>nd_R g.1 g.2) m fun g=>allP (Inv g)):∀ b∈loopsOf Tryd.prog 87,lkey b=5→LoopOk Tryd.prog b (nd_C Inv m).g:=loop_run (Γ:=(PTab.gamz tabA3 [] [])) (Λ:=noΛ) (PTab.okz tabA3 [] []) noΛ_ok 100 87 5 29 nd_LP [] Inv (fun g=>nd_R g.1 g.2) (fun g=>nd_side g.1 g.2) m default [.exit 0] nd_one (fun rd T B HL HB ds g=>by kernel_rfl) (fun rd T B HL HB ds g=>by kernel_rfl) hs hg nd_es
end Go.Proofs.YtmegbepjdololaaDoor
