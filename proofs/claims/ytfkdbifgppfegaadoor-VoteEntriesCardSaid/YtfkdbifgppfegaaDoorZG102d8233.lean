/- Chapter 21: what is wrong with a coordinator. Printed by treegen.py. -/
import Derived.Test.YtfkdbifgppfegaaDoorZG09a42b49
import Derived.Test.YtfkdbifgppfegaaDoorZG06f19b95
import Derived.Test.YtfkdbifgppfegaaDoorZG0888f6ba
import Derived.Test.YtfkdbifgppfegaaDoorZG053af284
set_option linter.unusedVariables false
set_option linter.unusedSimpArgs false
set_option linter.constructorNameAsVariable false
set_option linter.all false

namespace Go.Proofs.YtfkdbifgppfegaaDoor
open Go.RowKit Go.Sx
set_option maxRecDepth 100000
noncomputable def ck_F(l:Ld):Dv.T dI:=
 bif !(decide (l.workers<(1:Int))||(decide (l.workers>(16:Int))||(decide (l.stage<(0:Int))||(decide (l.stage>(4:Int))||(decide (l.ver<(0:Int))||decide (l.ver>(1099511627776:Int)))))))&&!(l.stage==(0:Int)&&!decide (Ld.mk l.workers l.stage l.ver l.cut (Dl.mk (eI.ag l.dl.drop) (eD.ag l.dl.put) (eV.ag l.dl.moves)) (eBool.ag l.voted) l.yes l.why (eN.ag l.ents)=Ld.mk l.workers (0:Int) l.ver (0:Int) (Dl.mk [] [] []) [] false (0:Int) []))then bif l.stage==(0:Int)then(0:Int)else bif !(!(decide (l.cut<(1:Int))||(decide (l.cut>(1073741824:Int))||!(l.why==(0:Int))==l.yes))&&(!l.stage==(1:Int)&&!l.stage==(3:Int)&&(!l.stage==(1:Int)&&!l.stage==(3:Int)&&(!decide ((↑l.voted.length:Int)>(0:Int))&&!(!(decide ((↑l.ents.length:Int)<=(1024:Int))&&((↑l.ents.length:Int)==(0:Int)||!(l.stage==(1:Int)||l.stage==(2:Int))&&l.yes))||l.stage==(2:Int)&&!l.yes)))))&&(!(!(decide (l.cut<(1:Int))||(decide (l.cut>(1073741824:Int))||!(l.why==(0:Int))==l.yes))&&(!l.stage==(1:Int)&&!l.stage==(3:Int)&&(!(!l.stage==(1:Int)&&!l.stage==(3:Int))&&!(!(decide ((↑l.ents.length:Int)<=(1024:Int))&&((↑l.ents.length:Int)==(0:Int)||!(l.stage==(1:Int)||l.stage==(2:Int))&&l.yes))||l.stage==(2:Int)&&!l.yes))))&&(!(!(decide (l.cut<(1:Int))||(decide (l.cut>(1073741824:Int))||!(l.why==(0:Int))==l.yes))&&(!(!l.stage==(1:Int)&&!l.stage==(3:Int))&&(!(↑l.voted.length:Int)!=l.workers&&(!!hasB (eBool.ag l.voted) false&&(!l.stage==(1:Int)&&!l.stage==(3:Int)&&(!decide ((↑l.voted.length:Int)>(0:Int))&&!(!(decide ((↑l.ents.length:Int)<=(1024:Int))&&((↑l.ents.length:Int)==(0:Int)||!(l.stage==(1:Int)||l.stage==(2:Int))&&l.yes))||l.stage==(2:Int)&&!l.yes)))))))&&!(!(decide (l.cut<(1:Int))||(decide (l.cut>(1073741824:Int))||!(l.why==(0:Int))==l.yes))&&(!(!l.stage==(1:Int)&&!l.stage==(3:Int))&&(!(↑l.voted.length:Int)!=l.workers&&(!!hasB (eBool.ag l.voted) false&&(!(!l.stage==(1:Int)&&!l.stage==(3:Int))&&!(!(decide ((↑l.ents.length:Int)<=(1024:Int))&&((↑l.ents.length:Int)==(0:Int)||!(l.stage==(1:Int)||l.stage==(2:Int))&&l.yes))||l.stage==(2:Int)&&!l.yes))))))))then(213:Int)else(0:Int)
 else(213:Int)
def ck_side(l:Ld):Prop:=
 ((!(decide (l.workers<(1:Int))||(decide (l.workers>(16:Int))||(decide (l.stage<(0:Int))||(decide (l.stage>(4:Int))||(decide (l.ver<(0:Int))||decide (l.ver>(1099511627776:Int))))))))=true->(l.stage==(0:Int))=true->eI.okL l.dl.drop)/\((!(decide (l.workers<(1:Int))||(decide (l.workers>(16:Int))||(decide (l.stage<(0:Int))||(decide (l.stage>(4:Int))||(decide (l.ver<(0:Int))||decide (l.ver>(1099511627776:Int))))))))=true->(l.stage==(0:Int))=true->eD.okL l.dl.put)/\((!(decide (l.workers<(1:Int))||(decide (l.workers>(16:Int))||(decide (l.stage<(0:Int))||(decide (l.stage>(4:Int))||(decide (l.ver<(0:Int))||decide (l.ver>(1099511627776:Int))))))))=true->(l.stage==(0:Int))=true->eV.okL l.dl.moves)/\((!(decide (l.workers<(1:Int))||(decide (l.workers>(16:Int))||(decide (l.stage<(0:Int))||(decide (l.stage>(4:Int))||(decide (l.ver<(0:Int))||decide (l.ver>(1099511627776:Int))))))))=true->(l.stage==(0:Int))=true->eBool.okL l.voted)/\((!(decide (l.workers<(1:Int))||(decide (l.workers>(16:Int))||(decide (l.stage<(0:Int))||(decide (l.stage>(4:Int))||(decide (l.ver<(0:Int))||decide (l.ver>(1099511627776:Int))))))))=true->(l.stage==(0:Int))=true->eN.okL l.ents)/\((!(decide (l.workers<(1:Int))||(decide (l.workers>(16:Int))||(decide (l.stage<(0:Int))||(decide (l.stage>(4:Int))||(decide (l.ver<(0:Int))||decide (l.ver>(1099511627776:Int)))))))&&!(l.stage==(0:Int)&&!decide (Ld.mk l.workers l.stage l.ver l.cut (Dl.mk (eI.ag l.dl.drop) (eD.ag l.dl.put) (eV.ag l.dl.moves)) (eBool.ag l.voted) l.yes l.why (eN.ag l.ents)=Ld.mk l.workers (0:Int) l.ver (0:Int) (Dl.mk [] [] []) [] false (0:Int) [])))=true->(l.stage==(0:Int))=false->(!(!(decide (l.cut<(1:Int))||(decide (l.cut>(1073741824:Int))||!(l.why==(0:Int))==l.yes))&&(!l.stage==(1:Int)&&!l.stage==(3:Int)&&(!l.stage==(1:Int)&&!l.stage==(3:Int)&&(!decide ((↑l.voted.length:Int)>(0:Int))&&!(!(decide ((↑l.ents.length:Int)<=(1024:Int))&&((↑l.ents.length:Int)==(0:Int)||!(l.stage==(1:Int)||l.stage==(2:Int))&&l.yes))||l.stage==(2:Int)&&!l.yes))))))=true->(!(!(decide (l.cut<(1:Int))||(decide (l.cut>(1073741824:Int))||!(l.why==(0:Int))==l.yes))&&(!l.stage==(1:Int)&&!l.stage==(3:Int)&&(!(!l.stage==(1:Int)&&!l.stage==(3:Int))&&!(!(decide ((↑l.ents.length:Int)<=(1024:Int))&&((↑l.ents.length:Int)==(0:Int)||!(l.stage==(1:Int)||l.stage==(2:Int))&&l.yes))||l.stage==(2:Int)&&!l.yes)))))=true->(!(decide (l.cut<(1:Int))||(decide (l.cut>(1073741824:Int))||!(l.why==(0:Int))==l.yes)))=true->(!(!l.stage==(1:Int)&&!l.stage==(3:Int)))=true->(!(↑l.voted.length:Int)!=l.workers)=true->eBool.okL l.voted)
theorem ck_okS(pre:DA.T aL->List Prop)(h:∀g,DA.bd aL g->(∀p∈pre g,p)->ck_side g):FnPure Tryd.prog 20 aL dI (λg=>ck_F g) pre:=pure_of_sideS (Γ:=(PTab.gamz tabG6 [] [])) (Λ:=noΛ) (PTab.okz tabG6 [] []) noΛ_ok 100 default (λg=>ck_side g) (λg=>by kernel_rfl) (λg=>by kernel_rfl) h
noncomputable def rck_F(l:Ld):Dv.T dI:=
 bif !bif l.stage==(0:Int)then decide (l.workers>=(1:Int))&&(decide (l.workers<=(16:Int))&&(decide (l.stage>=(0:Int))&&(decide (l.stage<=(4:Int))&&(decide (l.ver>=(0:Int))&&decide (l.ver<=(1099511627776:Int))))))&&decide (Ld.mk l.workers l.stage l.ver l.cut (Dl.mk (eI.ag l.dl.drop) (eD.ag l.dl.put) (eV.ag l.dl.moves)) (eBool.ag l.voted) l.yes l.why (eN.ag l.ents)=Ld.mk l.workers (0:Int) l.ver (0:Int) (Dl.mk [] [] []) [] false (0:Int) [])else bif l.stage==(1:Int)||l.stage==(3:Int)then(decide (l.workers>=(1:Int))&&(decide (l.workers<=(16:Int))&&(decide (l.stage>=(0:Int))&&(decide (l.stage<=(4:Int))&&(decide (l.ver>=(0:Int))&&decide (l.ver<=(1099511627776:Int))))))&&(decide (l.cut>=(1:Int))&&(decide (l.cut<=(1073741824:Int))&&((l.why==(0:Int))==l.yes&&decide ((↑l.ents.length:Int)<=(1024:Int)))))&&bif (↑l.ents.length:Int)==(0:Int)then l.stage !=(2:Int)||l.yes else l.yes&&bif l.stage==(3:Int)then l.stage !=(2:Int)||l.yes else l.stage==(4:Int)&&(l.stage !=(2:Int)||l.yes))&&((↑l.voted.length:Int)==l.workers&&!!hasB (eBool.ag l.voted) false)else(decide (l.workers>=(1:Int))&&(decide (l.workers<=(16:Int))&&(decide (l.stage>=(0:Int))&&(decide (l.stage<=(4:Int))&&(decide (l.ver>=(0:Int))&&decide (l.ver<=(1099511627776:Int))))))&&(decide (l.cut>=(1:Int))&&(decide (l.cut<=(1073741824:Int))&&((l.why==(0:Int))==l.yes&&decide ((↑l.ents.length:Int)<=(1024:Int)))))&&bif (↑l.ents.length:Int)==(0:Int)then l.stage !=(2:Int)||l.yes else l.yes&&bif l.stage==(3:Int)then l.stage !=(2:Int)||l.yes else l.stage==(4:Int)&&(l.stage !=(2:Int)||l.yes))&&(↑l.voted.length:Int)==(0:Int)then(213:Int)
 else(0:Int)
def rck_side(l:Ld):Prop:=
 ((l.stage==(0:Int))=true->(decide (l.workers>=(1:Int))&&(decide (l.workers<=(16:Int))&&(decide (l.stage>=(0:Int))&&(decide (l.stage<=(4:Int))&&(decide (l.ver>=(0:Int))&&decide (l.ver<=(1099511627776:Int)))))))=true->eI.okL l.dl.drop)/\((l.stage==(0:Int))=true->(decide (l.workers>=(1:Int))&&(decide (l.workers<=(16:Int))&&(decide (l.stage>=(0:Int))&&(decide (l.stage<=(4:Int))&&(decide (l.ver>=(0:Int))&&decide (l.ver<=(1099511627776:Int)))))))=true->eD.okL l.dl.put)/\((l.stage==(0:Int))=true->(decide (l.workers>=(1:Int))&&(decide (l.workers<=(16:Int))&&(decide (l.stage>=(0:Int))&&(decide (l.stage<=(4:Int))&&(decide (l.ver>=(0:Int))&&decide (l.ver<=(1099511627776:Int)))))))=true->eV.okL l.dl.moves)/\((l.stage==(0:Int))=true->(decide (l.workers>=(1:Int))&&(decide (l.workers<=(16:Int))&&(decide (l.stage>=(0:Int))&&(decide (l.stage<=(4:Int))&&(decide (l.ver>=(0:Int))&&decide (l.ver<=(1099511627776:Int)))))))=true->eBool.okL l.voted)/\((l.stage==(0:Int))=true->(decide (l.workers>=(1:Int))&&(decide (l.workers<=(16:Int))&&(decide (l.stage>=(0:Int))&&(decide (l.stage<=(4:Int))&&(decide (l.ver>=(0:Int))&&decide (l.ver<=(1099511627776:Int)))))))=true->eN.okL l.ents)/\((!l.stage==(0:Int))=true->(l.stage==(1:Int)||l.stage==(3:Int))=true->(decide (l.workers>=(1:Int))&&(decide (l.workers<=(16:Int))&&(decide (l.stage>=(0:Int))&&(decide (l.stage<=(4:Int))&&(decide (l.ver>=(0:Int))&&decide (l.ver<=(1099511627776:Int))))))&&(decide (l.cut>=(1:Int))&&(decide (l.cut<=(1073741824:Int))&&((l.why==(0:Int))==l.yes&&decide ((↑l.ents.length:Int)<=(1024:Int)))))&&bif (↑l.ents.length:Int)==(0:Int)then l.stage !=(2:Int)||l.yes else l.yes&&bif l.stage==(3:Int)then l.stage !=(2:Int)||l.yes else l.stage==(4:Int)&&(l.stage !=(2:Int)||l.yes))=true->((↑l.voted.length:Int)==l.workers)=true->eBool.okL l.voted)
theorem rck_okS(pre:DA.T aL->List Prop)(h:∀g,DA.bd aL g->(∀p∈pre g,p)->rck_side g):FnPure Tryd.prog 17 aL dI (λg=>rck_F g) pre:=pure_of_sideS (Γ:=(PTab.gamz tabG6 [] [])) (Λ:=noΛ) (PTab.okz tabG6 [] []) noΛ_ok 100 default (λg=>rck_side g) (λg=>by kernel_rfl) (λg=>by kernel_rfl) h
end Go.Proofs.YtfkdbifgppfegaaDoor

namespace Go.Proofs.YtfkdbifgppfegaaDoor
open Go.RowKit Go.Sx Go.Lp
set_option maxRecDepth 100000
def idleL(w v:Int):Ld:=⟨w,0,v,0,⟨[],[],[]⟩,[],false,0,[]⟩
def rgB(l:Ld):Bool:=decide (1<=l.workers/\l.workers<=16/\0<=l.stage/\l.stage<=4/\0<=l.ver/\l.ver<=1099511627776)
def ccB(l:Ld):Bool:=decide (1<=l.cut/\l.cut<=1073741824)&&((l.why==0)==l.yes)
def chkB(rg eq cc e1 e0 s0 s1 s2 s3 s4 y vz vw hb:Bool):Int:=(bif rg&&(bif s0 then eq else cc&&(e1&&((e0||(y&&(s3||s4)))&&((!s2||y)&&(bif s1||s3 then vw&&hb else vz)))))then(0:Int)else(213:Int))
def chkL(l:Ld):Int:=chkB (rgB l) (decide (l=idleL l.workers l.ver)) (ccB l) (decide ((l.ents.length:Int)<=(1024:Int))) ((l.ents.length:Int)==(0:Int)) (l.stage==(0:Int)) (l.stage==(1:Int)) (l.stage==(2:Int)) (l.stage==(3:Int)) (l.stage==(4:Int)) l.yes ((l.voted.length:Int)==(0:Int)) ((l.voted.length:Int)==l.workers) (hasB l.voted false)
theorem ckB_:∀rg eq cc e1 e0 s0 s1 s2 s3 s4 y vz vw hb:Bool,(rg=true->(s0&&!s1&&!s2&&!s3&&!s4||!s0&&s1&&!s2&&!s3&&!s4||!s0&&!s1&&s2&&!s3&&!s4||!s0&&!s1&&!s2&&s3&&!s4||!s0&&!s1&&!s2&&!s3&&s4)=true)->(bif !(!rg)&&!(s0&&!eq)then bif s0 then(0:Int)else bif !(!(!cc)&&(!s1&&!s3&&(!s1&&!s3&&(!(!vz)&&!(!(e1&&(e0||!(s1||s2)&&y))||s2&&!y)))))&&(!(!(!cc)&&(!s1&&!s3&&(!(!s1&&!s3)&&!(!(e1&&(e0||!(s1||s2)&&y))||s2&&!y))))&&(!(!(!cc)&&(!(!s1&&!s3)&&(!(!vw)&&(!!hb&&(!s1&&!s3&&(!(!vz)&&!(!(e1&&(e0||!(s1||s2)&&y))||s2&&!y)))))))&&!(!(!cc)&&(!(!s1&&!s3)&&(!(!vw)&&(!!hb&&(!(!s1&&!s3)&&!(!(e1&&(e0||!(s1||s2)&&y))||s2&&!y))))))))then(213:Int)else(0:Int)else(213:Int))=chkB rg eq cc e1 e0 s0 s1 s2 s3 s4 y vz vw hb:=of_decide_eq_true (by kernel_rfl)
theorem rckB_:∀rg eq cc e1 e0 s0 s1 s2 s3 s4 y vz vw hb:Bool,(rg=true->(s0&&!s1&&!s2&&!s3&&!s4||!s0&&s1&&!s2&&!s3&&!s4||!s0&&!s1&&s2&&!s3&&!s4||!s0&&!s1&&!s2&&s3&&!s4||!s0&&!s1&&!s2&&!s3&&s4)=true)->(bif !bif s0 then rg&&eq else bif s1||s3 then(rg&&((cc&&e1))&&bif e0 then(!s2)||y else y&&bif s3 then(!s2)||y else s4&&((!s2)||y))&&(vw&&!!hb)else(rg&&((cc&&e1))&&bif e0 then(!s2)||y else y&&bif s3 then(!s2)||y else s4&&((!s2)||y))&&vz then(213:Int)else(0:Int))=chkB rg eq cc e1 e0 s0 s1 s2 s3 s4 y vz vw hb:=of_decide_eq_true (by kernel_rfl)
theorem rg_one(l:Ld)(h:rgB l=true):((l.stage==(0:Int))&&!(l.stage==(1:Int))&&!(l.stage==(2:Int))&&!(l.stage==(3:Int))&&!(l.stage==(4:Int))||!(l.stage==(0:Int))&&(l.stage==(1:Int))&&!(l.stage==(2:Int))&&!(l.stage==(3:Int))&&!(l.stage==(4:Int))||!(l.stage==(0:Int))&&!(l.stage==(1:Int))&&(l.stage==(2:Int))&&!(l.stage==(3:Int))&&!(l.stage==(4:Int))||!(l.stage==(0:Int))&&!(l.stage==(1:Int))&&!(l.stage==(2:Int))&&(l.stage==(3:Int))&&!(l.stage==(4:Int))||!(l.stage==(0:Int))&&!(l.stage==(1:Int))&&!(l.stage==(2:Int))&&!(l.stage==(3:Int))&&(l.stage==(4:Int)))=true:=by
 have h:=of_decide_eq_true h;have:l.stage=0\/l.stage=1\/l.stage=2\/l.stage=3\/l.stage=4:=by omega
 rcases this with h|h|h|h|h<;>rw[h]<;>rfl
theorem rg_not(l:Ld):(decide (l.workers<(1:Int))||(decide (l.workers>(16:Int))||(decide (l.stage<(0:Int))||(decide (l.stage>(4:Int))||(decide (l.ver<(0:Int))||decide (l.ver>(1099511627776:Int)))))))=!rgB l:=by
 unfold rgB;rw[Bool.eq_iff_iff];simp only[Bool.or_eq_true,decide_eq_true_eq,Bool.not_eq_true',decide_eq_false_iff_not]
 all_goals omega
theorem rg_is(l:Ld):(decide (l.workers>=(1:Int))&&(decide (l.workers<=(16:Int))&&(decide (l.stage>=(0:Int))&&(decide (l.stage<=(4:Int))&&(decide (l.ver>=(0:Int))&&decide (l.ver<=(1099511627776:Int)))))))=rgB l:=by
 unfold rgB;rw[Bool.eq_iff_iff];simp only[Bool.and_eq_true,decide_eq_true_eq]
 all_goals omega
theorem cc_not(l:Ld):(decide (l.cut<(1:Int))||(decide (l.cut>(1073741824:Int))||!(l.why==(0:Int))==l.yes))=!ccB l:=by
 unfold ccB;cases((l.why==(0:Int))==l.yes)
 .simp
 .rw[Bool.eq_iff_iff];simp only[Bool.or_eq_true,decide_eq_true_eq,Bool.not_eq_true',decide_eq_false_iff_not,Bool.and_true,Bool.not_true,Bool.or_false,reduceCtorEq,or_false]
  all_goals omega
theorem cc_is(l:Ld)(z:Bool):(decide (l.cut>=(1:Int))&&(decide (l.cut<=(1073741824:Int))&&((l.why==(0:Int))==l.yes&&z)))=(ccB l&&z):=by
 unfold ccB;rw[Bool.eq_iff_iff];simp only[Bool.and_eq_true,decide_eq_true_eq,and_assoc]
 try exact Iff.rfl
theorem len_pos{α:Type}(l:List α):decide ((l.length:Int)>(0:Int))=!((l.length:Int)==(0:Int)):=by
 cases l with
 |nil=>rfl
 |cons a l=>
  have:((a::l).length:Int)≠0:=by simp only[List.length_cons];omega
  rw[decide_eq_true (by simp only[List.length_cons];omega)];simp[this]
  all_goals omega
theorem ck_eq(l:Ld):ck_F l=chkL l:=by
 have h:=ckB_ (rgB l) (decide (l=idleL l.workers l.ver)) (ccB l) (decide ((l.ents.length:Int)<=(1024:Int))) ((l.ents.length:Int)==(0:Int)) (l.stage==(0:Int)) (l.stage==(1:Int)) (l.stage==(2:Int)) (l.stage==(3:Int)) (l.stage==(4:Int)) l.yes ((l.voted.length:Int)==(0:Int)) ((l.voted.length:Int)==l.workers) (hasB l.voted false) (rg_one l);unfold ck_F;simp only[El.ag_eq,rg_not,cc_not,len_pos];exact h
theorem rck_eq(l:Ld):rck_F l=chkL l:=by
 have h:=rckB_ (rgB l) (decide (l=idleL l.workers l.ver)) (ccB l) (decide ((l.ents.length:Int)<=(1024:Int))) ((l.ents.length:Int)==(0:Int)) (l.stage==(0:Int)) (l.stage==(1:Int)) (l.stage==(2:Int)) (l.stage==(3:Int)) (l.stage==(4:Int)) l.yes ((l.voted.length:Int)==(0:Int)) ((l.voted.length:Int)==l.workers) (hasB l.voted false) (rg_one l);unfold rck_F;simp only[El.ag_eq,rg_is,cc_is];exact h
theorem ck_ok:FnPure Tryd.prog 20 aL dI chkL (λ_=>[]):=
 pure_congr (ck_okS (λ_=>[]) λl _ _=>by
  show ck_side l;unfold ck_side;simp only[El.okL_eq,implies_true,and_self]) λl _ _=>ck_eq l
theorem rck_ok:FnPure Tryd.prog 17 aL dI chkL (λ_=>[]):=
 pure_congr (rck_okS (λ_=>[]) λl _ _=>by
  show rck_side l;unfold rck_side;simp only[El.okL_eq,implies_true,and_self]) λl _ _=>rck_eq l
noncomputable def tabG8:PTab Tryd.prog:=(tabG6.cons 20 (pconP aL dI chkL (λ_=>[])) (conP_ok ck_ok puI)).cons 17 (pconP aL dI chkL (λ_=>[])) (conP_ok rck_ok puI)
end Go.Proofs.YtfkdbifgppfegaaDoor

namespace Go.Proofs.YtfkdbifgppfegaaDoor
open Go.RowKit Go.Sx
theorem uwrap_n{n:Int}(h:1<=n/\n<=16):IntKind.u64.wrap n=n:=by
 obtain⟨k,rfl⟩:∃k:Nat,n=k:=⟨n.toNat,by omega⟩;exact wrapN k (by omega)
theorem exo_ok:FnPure Tryd.prog 31 aII dI (λg=>exo_F g.1 g.2) (λ_=>[]):=exo_okS (λ_=>[]) λg _ _=>by
 intro h
 have h':1<=g.2/\g.2<=16:=by
  simp only[Bool.or_eq_false_iff,decide_eq_false_iff_not]at h;omega
 rw[uwrap_n h'];omega
theorem hsh_nat(k:Int):∃m:Nat,hsh_F k=(m:Int):=by
 unfold hsh_F;generalize (_*_:Int)=z;obtain⟨n,hn,_⟩:=wrap_nat z;exact⟨n,hn⟩
theorem exo_range(k n:Int)(h:1<=n/\n<=16):0<=exo_F k n/\exo_F k n<n:=by
 have hc:(decide (n<(1:Int))||decide (n>(16:Int)))=false:=by
  rw[decide_eq_false (by omega),decide_eq_false (by omega)];rfl
 obtain⟨m,hm⟩:=hsh_nat k;unfold exo_F;rw[hc,cond_false,uwrap_n h,hm];have h1:Int.tmod (m:Int) n=(m:Int)%n:=Int.tmod_eq_emod_of_nonneg (by omega);have h2:=Int.emod_nonneg (m:Int) (b:=n) (by omega);have h3:=Int.emod_lt_of_pos (m:Int) (b:=n) (by omega);rw[h1];generalize (m:Int)%n=r at h2 h3 ⊢;have:IntKind.i64.wrap r=r:=Lp.wr (by omega);rw[this];exact⟨h2,h3⟩
noncomputable def tabN4:MTab Tryd.prog:=(MTab.of tabG8).cons 31 (pconK aII (λg=>exo_F g.1 g.2) (λg=>g.2.toNat) (λg=>[1<=g.2/\g.2<=16])) (conK_ok (λw F g vs h1 hE _ h3=>exo_ok w F g vs h1 hE (λp hp=>by simp at hp) h3) λg h=>by
 have h:=h _ (List.mem_cons_self ..);have h':=exo_range g.1 g.2 h;refine⟨h'.1,?_⟩;have e:(g.2.toNat:Int)=g.2:=Int.toNat_of_nonneg (Int.le_trans (by decide) h.1);exact e.symm▸h'.2)
abbrev zI:Value:=.int .i64 0
abbrev zS:Value:=.slice none 0 0
def eZ1:El Unit:=eCon [.int .i64 5] (by rfl) (by rfl)
def eZ2:El Unit:=eCon [zI,zI,zI,zI,zI,zI,zI,zI,zS,zS,zS,zS,zS,zI] (by rfl) (by rfl)
def eZ3:El Unit:=eCon [zI] (by rfl) (by rfl)
structure Mg where
 ver:Int
 ents:List Ent
 yes:Bool
deriving Inhabited
noncomputable abbrev ctMg:CT Mg:=.iso (.pair (.pl (.pair eZ1 (.pair eI eZ2))) (.pair (.row 73 eN) (.pl (.pair eBool eZ3)))) (λp=>⟨p.1.2.1,p.2.1,p.2.2.1⟩) (λm=>(((),m.ver,()),m.ents,(m.yes,()))) (λ_=>rfl)
def mg0:Mg:=⟨0,[],false⟩
abbrev LdR:Type:=Unit×Unit×Int×Unit×Bool×Unit
noncomputable abbrev ctL(n:Int):CT LdR:=.pair (.pl (eK n)) (.pair (.un 1) (.pair (.pl eI) (.pair (.un 5) (.pair (.pl eBool) (.un 2)))))
end Go.Proofs.YtfkdbifgppfegaaDoor

namespace Go.Proofs.YtfkdbifgppfegaaDoor
open Go.RowKit Go.Sx
set_option maxRecDepth 100000
abbrev en_G:Type:=Unit×LdR×List Ent×Int×Int×List Mg
noncomputable def enLP(n:Nat):LP 3 en_G:=.pair (.fix 3 1 (.p 0 0)) (.pair (.ctO 3 0 31 (ctL n)) (.pair (.slot 3 40 dLN) (.pair (.slot 3 41 dI) (.pair (.slot 3 42 dI) (.ct 3 6 (CT.arr 45 n ctMg mg0) rfl)))))
def rdE(xs:List Ent):List Ent:=eN.lst xs.length (eN.els xs)
def apE(xs:List Ent)(x:Ent):List Ent:=eN.lst (min (xs.length+1) xs.length) (eN.els xs)++eN.lst (xs.length+1-xs.length) (λ_=>eN.cells x)
def keepL:Nat->List Mg->List Mg
 |0,_=>[]
 |n+1,g=>⟨(g.headD mg0).ver,rdE (g.headD mg0).ents,(g.headD mg0).yes⟩::keepL n g.tail
def updL:Nat->Nat->List Mg->Ent->List Mg
 |0,_,_,_=>[]
 |n+1,0,g,x=>⟨(g.headD mg0).ver,apE (g.headD mg0).ents x,(g.headD mg0).yes⟩::keepL n g.tail
 |n+1,w+1,g,x=>⟨(g.headD mg0).ver,rdE (g.headD mg0).ents,(g.headD mg0).yes⟩::updL n w g.tail x
def keepS:Nat->List Mg->Prop->Prop
 |0,_,P=>P
 |n+1,g,P=>(g.headD mg0).ents.length<=(g.headD mg0).ents.length/\(∀e:Nat,e<(g.headD mg0).ents.length->True)/\keepS n g.tail P
def keepE:Nat->List Mg->Prop
 |0,_=>True
 |1,g=>(g.headD mg0).ents.length<=(g.headD mg0).ents.length/\∀e:Nat,e<(g.headD mg0).ents.length->True
 |n+2,g=>(g.headD mg0).ents.length<=(g.headD mg0).ents.length/\(∀e:Nat,e<(g.headD mg0).ents.length->True)/\keepE (n+1) g.tail
def updS:Nat->Nat->List Mg->Prop->Prop
 |0,_,_,P=>P
 |n+1,0,g,P=>(g.headD mg0).ents.length+1<=(g.headD mg0).ents.length+1/\(∀e:Nat,e<min ((g.headD mg0).ents.length+1) (g.headD mg0).ents.length->True)/\(∀e:Nat,e<(g.headD mg0).ents.length+1-(g.headD mg0).ents.length->True)/\keepS n g.tail P
 |n+1,w+1,g,P=>(g.headD mg0).ents.length<=(g.headD mg0).ents.length/\(∀e:Nat,e<(g.headD mg0).ents.length->True)/\updS n w g.tail P
def atL:Nat->List Mg->Mg
 |0,g=>g.headD mg0
 |w+1,g=>atL w g.tail
def forkF{X:Type}(r:Int):Nat->Int->Nat->(Nat->X)->X
 |0,_,w,t=>t w
 |n+1,i,w,t=>bif r==i then t w else forkF r n (i+1) (w+1) t
def forkP(r:Int):Nat->Int->Nat->(Nat->Prop)->Prop
 |0,_,w,t=>t w
 |n+1,i,w,t=>((r==i)=true->t w)/\((r==i)=false->forkP r n (i+1) (w+1) t)
def enO(l:LdR)(xs:List Ent)(n:Nat)(k i:Int)(w:Nat)(g:List Mg):Ex×en_G:=(.normal,(),((),(),l.2.2.1,(),l.2.2.2.2.1,()),rdE xs,k,IntKind.i64.wrap (i+1),updL n w g (xs.getD i.toNat eN.dflt))
noncomputable def enF(n:Nat)(q:en_G):Ex×en_G:=match q with
 |(_,l,xs,k,i,g)=>bif decide (i<k)then forkF (exo_F (xs.getD i.toNat eN.dflt).key n) (n-1) 0 0 (λw=>enO l xs n k i w g)else(.exit 2,(),((),(),l.2.2.1,(),l.2.2.2.2.1,()),rdE xs,k,i,keepL n g)
def leafS(l:LdR)(xs:List Ent)(n:Nat)(k i:Int)(g:List Mg)(w:Nat):Prop:=
 ((0:Int)<=(w:Int)/\(w:Int)<(n:Int))/\w<n/\((atL w g).ents.length<=(atL w g).ents.length/\True/\(atL w g).ents.length+1<=maxLen/\((atL w g).ents.length+1)*Tryd.prog.types[(73:Nat)].bytes<=140737488355328)/\
   ((0:Int)<=(w:Int)/\(w:Int)<(n:Int))/\w<n/\(∀e:Nat,e<xs.length->eN.Ok (eN.els xs e))/\updS n w g (∀_:Ex×en_G,enO l xs n k i w g=enO l xs n k i w g)
def leaf3(P:Prop):Prop:=∀cs:List Nat,(cs.isEmpty=true->∀cs:List Nat,(cs.isEmpty=true->P)/\(cs.isEmpty=false->P))/\(cs.isEmpty=false->P)
def enS(n:Nat)(q:en_G):Prop:=match q with
 |(_,l,xs,k,i,g)=>(decide (i<k)=true->((0:Int)<=i/\i<(xs.length:Int))/\((1:Int)<=(n:Int)/\(n:Int)<=16)/\forkP (exo_F (xs.getD i.toNat eN.dflt).key n) (n-1) 0 0 (λw=>leaf3 (leafS l xs n k i g w)))/\(decide (i<k)=false->(∀e:Nat,e<xs.length->eN.Ok (eN.els xs e))/\keepE n g)
theorem en_one:((loopsOf Tryd.prog 10).filter λc=>Nat.beq (lkey c) 13).length=1:=by kernel_rfl
noncomputable abbrev enT(n:Nat)(T B:List (Nat×SV))(HL HB:List (Nat×SE))(ds:List Nat)(g:en_G):Tr (Ex×en_G):=bT Tryd.prog (MTab.gamz tabN4 [] []) noΛ 100 10 none (loopBody Tryd.prog 10 13) (enLP n) [] 75 ⟨75,T,⟨3,HL,HB⟩,[],B⟩ ds g
theorem en_s1(T B HL HB ds g):(enT 1 T B HL HB ds g).side=enS 1 g:=by kernel_rfl
theorem en_e1(T B HL HB ds g d):(enT 1 T B HL HB ds g).ev d=enF 1 g:=by kernel_rfl
theorem en_s2(T B HL HB ds g):(enT 2 T B HL HB ds g).side=enS 2 g:=by kernel_rfl
theorem en_e2(T B HL HB ds g d):(enT 2 T B HL HB ds g).ev d=enF 2 g:=by kernel_rfl
theorem en_s3(T B HL HB ds g):(enT 3 T B HL HB ds g).side=enS 3 g:=by kernel_rfl
theorem en_e3(T B HL HB ds g d):(enT 3 T B HL HB ds g).ev d=enF 3 g:=by kernel_rfl
theorem en_s4(T B HL HB ds g):(enT 4 T B HL HB ds g).side=enS 4 g:=by kernel_rfl
theorem en_e4(T B HL HB ds g d):(enT 4 T B HL HB ds g).ev d=enF 4 g:=by kernel_rfl
theorem en_s5(T B HL HB ds g):(enT 5 T B HL HB ds g).side=enS 5 g:=by kernel_rfl
theorem en_e5(T B HL HB ds g d):(enT 5 T B HL HB ds g).ev d=enF 5 g:=by kernel_rfl
theorem en_s6(T B HL HB ds g):(enT 6 T B HL HB ds g).side=enS 6 g:=by kernel_rfl
theorem en_e6(T B HL HB ds g d):(enT 6 T B HL HB ds g).ev d=enF 6 g:=by kernel_rfl
theorem en_s7(T B HL HB ds g):(enT 7 T B HL HB ds g).side=enS 7 g:=by kernel_rfl
theorem en_e7(T B HL HB ds g d):(enT 7 T B HL HB ds g).ev d=enF 7 g:=by kernel_rfl
theorem en_s8(T B HL HB ds g):(enT 8 T B HL HB ds g).side=enS 8 g:=by kernel_rfl
theorem en_e8(T B HL HB ds g d):(enT 8 T B HL HB ds g).ev d=enF 8 g:=by kernel_rfl
theorem en_s9(T B HL HB ds g):(enT 9 T B HL HB ds g).side=enS 9 g:=by kernel_rfl
theorem en_e9(T B HL HB ds g d):(enT 9 T B HL HB ds g).ev d=enF 9 g:=by kernel_rfl
theorem en_s10(T B HL HB ds g):(enT 10 T B HL HB ds g).side=enS 10 g:=by kernel_rfl
theorem en_e10(T B HL HB ds g d):(enT 10 T B HL HB ds g).ev d=enF 10 g:=by kernel_rfl
theorem en_s11(T B HL HB ds g):(enT 11 T B HL HB ds g).side=enS 11 g:=by kernel_rfl
theorem en_e11(T B HL HB ds g d):(enT 11 T B HL HB ds g).ev d=enF 11 g:=by kernel_rfl
theorem en_s12(T B HL HB ds g):(enT 12 T B HL HB ds g).side=enS 12 g:=by kernel_rfl
theorem en_e12(T B HL HB ds g d):(enT 12 T B HL HB ds g).ev d=enF 12 g:=by kernel_rfl
theorem en_s13(T B HL HB ds g):(enT 13 T B HL HB ds g).side=enS 13 g:=by kernel_rfl
theorem en_e13(T B HL HB ds g d):(enT 13 T B HL HB ds g).ev d=enF 13 g:=by kernel_rfl
theorem en_s14(T B HL HB ds g):(enT 14 T B HL HB ds g).side=enS 14 g:=by kernel_rfl
theorem en_e14(T B HL HB ds g d):(enT 14 T B HL HB ds g).ev d=enF 14 g:=by kernel_rfl
theorem en_s15(T B HL HB ds g):(enT 15 T B HL HB ds g).side=enS 15 g:=by kernel_rfl
theorem en_e15(T B HL HB ds g d):(enT 15 T B HL HB ds g).ev d=enF 15 g:=by kernel_rfl
theorem en_s16(T B HL HB ds g):(enT 16 T B HL HB ds g).side=enS 16 g:=by kernel_rfl
theorem en_e16(T B HL HB ds g d):(enT 16 T B HL HB ds g).ev d=enF 16 g:=by kernel_rfl
end Go.Proofs.YtfkdbifgppfegaaDoor

namespace Go.Proofs.YtfkdbifgppfegaaDoor
open Go.RowKit Go.Sx
set_option maxRecDepth 100000
noncomputable def cR_F(xs:List Rec):Rv.T (.list eR):=
 List.map (λx=>eR.get []) (List.range (min ((0:Nat)+xs.length) (0:Nat)))++eR.lst ((0:Nat)+xs.length-(0:Nat)) (eR.els xs)
def cR_side(xs:List Rec):Prop:=
 ∀(cs:List Nat),(cs.isEmpty=false->xs.length=(0:Nat))->((false !=!cs.isEmpty)=true->∀(d:List Rec),[]=List.map (λx=>eR.get []) (List.range (min ((0:Nat)+xs.length) (0:Nat)))++eR.lst ((0:Nat)+xs.length-(0:Nat)) (eR.els xs))/\((false !=!cs.isEmpty)=false->((0:Nat)<=(0:Nat)/\(∀(e:Nat),e<xs.length->(eR.els xs e).all SV.one=true)/\(0:Nat)+xs.length<=maxLen/\((0:Nat)+xs.length)*Tryd.prog.types[(118:Nat)].bytes<=(140737488355328:Nat))/\(0:Nat)+xs.length<=(0:Nat)+xs.length/\(∀(e:Nat),e<min ((0:Nat)+xs.length) (0:Nat)->eR.OkP [])/\(∀(e:Nat),e<(0:Nat)+xs.length-(0:Nat)->True)/\∀(d:List Rec),List.map (λx=>eR.get []) (List.range (min ((0:Nat)+xs.length) (0:Nat)))++eR.lst ((0:Nat)+xs.length-(0:Nat)) (eR.els xs)=List.map (λx=>eR.get []) (List.range (min ((0:Nat)+xs.length) (0:Nat)))++eR.lst ((0:Nat)+xs.length-(0:Nat)) (eR.els xs))
theorem cR_okS(pre:DA.T (.one dLR)->List Prop)(h:∀g,DA.bd (.one dLR) g->(∀p∈pre g,p)->cR_side g):FnPure Tryd.prog 75 (.one dLR) (Rv.D (.list eR)) (λg=>cR_F g) pre:=res_of_side (R:=(.list eR)) (Γ:=(PTab.gamz tab0 [] [])) (Λ:=noΛ) (PTab.okz tab0 [] []) noΛ_ok 100 default (λg=>cR_side g) (λg=>by kernel_rfl) (λg=>by kernel_rfl) h
noncomputable def cC_F(xs:List Change):Rv.T (.list eC):=
 List.map (λx=>eC.get []) (List.range (min ((0:Nat)+xs.length) (0:Nat)))++eC.lst ((0:Nat)+xs.length-(0:Nat)) (eC.els xs)
def cC_side(xs:List Change):Prop:=
 ∀(cs:List Nat),(cs.isEmpty=false->xs.length=(0:Nat))->((false !=!cs.isEmpty)=true->∀(d:List Change),[]=List.map (λx=>eC.get []) (List.range (min ((0:Nat)+xs.length) (0:Nat)))++eC.lst ((0:Nat)+xs.length-(0:Nat)) (eC.els xs))/\((false !=!cs.isEmpty)=false->((0:Nat)<=(0:Nat)/\(∀(e:Nat),e<xs.length->(eC.els xs e).all SV.one=true)/\(0:Nat)+xs.length<=maxLen/\((0:Nat)+xs.length)*Tryd.prog.types[(121:Nat)].bytes<=(140737488355328:Nat))/\(0:Nat)+xs.length<=(0:Nat)+xs.length/\(∀(e:Nat),e<min ((0:Nat)+xs.length) (0:Nat)->eC.OkP [])/\(∀(e:Nat),e<(0:Nat)+xs.length-(0:Nat)->True)/\∀(d:List Change),List.map (λx=>eC.get []) (List.range (min ((0:Nat)+xs.length) (0:Nat)))++eC.lst ((0:Nat)+xs.length-(0:Nat)) (eC.els xs)=List.map (λx=>eC.get []) (List.range (min ((0:Nat)+xs.length) (0:Nat)))++eC.lst ((0:Nat)+xs.length-(0:Nat)) (eC.els xs))
theorem cC_okS(pre:DA.T (.one dLC)->List Prop)(h:∀g,DA.bd (.one dLC) g->(∀p∈pre g,p)->cC_side g):FnPure Tryd.prog 76 (.one dLC) (Rv.D (.list eC)) (λg=>cC_F g) pre:=res_of_side (R:=(.list eC)) (Γ:=(PTab.gamz tab0 [] [])) (Λ:=noΛ) (PTab.okz tab0 [] []) noΛ_ok 100 default (λg=>cC_side g) (λg=>by kernel_rfl) (λg=>by kernel_rfl) h
noncomputable def cN_F(xs:List Ent):Rv.T (.list eN):=
 List.map (λx=>eN.get []) (List.range (min ((0:Nat)+xs.length) (0:Nat)))++eN.lst ((0:Nat)+xs.length-(0:Nat)) (eN.els xs)
def cN_side(xs:List Ent):Prop:=
 ∀(cs:List Nat),(cs.isEmpty=false->xs.length=(0:Nat))->((false !=!cs.isEmpty)=true->∀(d:List Ent),[]=List.map (λx=>eN.get []) (List.range (min ((0:Nat)+xs.length) (0:Nat)))++eN.lst ((0:Nat)+xs.length-(0:Nat)) (eN.els xs))/\((false !=!cs.isEmpty)=false->((0:Nat)<=(0:Nat)/\(∀(e:Nat),e<xs.length->(eN.els xs e).all SV.one=true)/\(0:Nat)+xs.length<=maxLen/\((0:Nat)+xs.length)*Tryd.prog.types[(73:Nat)].bytes<=(140737488355328:Nat))/\(0:Nat)+xs.length<=(0:Nat)+xs.length/\(∀(e:Nat),e<min ((0:Nat)+xs.length) (0:Nat)->eN.OkP [])/\(∀(e:Nat),e<(0:Nat)+xs.length-(0:Nat)->True)/\∀(d:List Ent),List.map (λx=>eN.get []) (List.range (min ((0:Nat)+xs.length) (0:Nat)))++eN.lst ((0:Nat)+xs.length-(0:Nat)) (eN.els xs)=List.map (λx=>eN.get []) (List.range (min ((0:Nat)+xs.length) (0:Nat)))++eN.lst ((0:Nat)+xs.length-(0:Nat)) (eN.els xs))
theorem cN_okS(pre:DA.T (.one dLN)->List Prop)(h:∀g,DA.bd (.one dLN) g->(∀p∈pre g,p)->cN_side g):FnPure Tryd.prog 74 (.one dLN) (Rv.D (.list eN)) (λg=>cN_F g) pre:=res_of_side (R:=(.list eN)) (Γ:=(PTab.gamz tab0 [] [])) (Λ:=noΛ) (PTab.okz tab0 [] []) noΛ_ok 100 default (λg=>cN_side g) (λg=>by kernel_rfl) (λg=>by kernel_rfl) h
noncomputable def cI_F(xs:List Int):Rv.T (.list eI):=
 List.map (λx=>eI.get []) (List.range (min ((0:Nat)+xs.length) (0:Nat)))++eI.lst ((0:Nat)+xs.length-(0:Nat)) (eI.els xs)
def cI_side(xs:List Int):Prop:=
 ∀(cs:List Nat),(cs.isEmpty=false->xs.length=(0:Nat))->((false !=!cs.isEmpty)=true->∀(d:List Int),[]=List.map (λx=>eI.get []) (List.range (min ((0:Nat)+xs.length) (0:Nat)))++eI.lst ((0:Nat)+xs.length-(0:Nat)) (eI.els xs))/\((false !=!cs.isEmpty)=false->((0:Nat)<=(0:Nat)/\(∀(e:Nat),e<xs.length->(eI.els xs e).all SV.one=true)/\(0:Nat)+xs.length<=maxLen/\((0:Nat)+xs.length)*Tryd.prog.types[(3:Nat)].bytes<=(140737488355328:Nat))/\(0:Nat)+xs.length<=(0:Nat)+xs.length/\(∀(e:Nat),e<min ((0:Nat)+xs.length) (0:Nat)->eI.OkP [])/\(∀(e:Nat),e<(0:Nat)+xs.length-(0:Nat)->True)/\∀(d:List Int),List.map (λx=>eI.get []) (List.range (min ((0:Nat)+xs.length) (0:Nat)))++eI.lst ((0:Nat)+xs.length-(0:Nat)) (eI.els xs)=List.map (λx=>eI.get []) (List.range (min ((0:Nat)+xs.length) (0:Nat)))++eI.lst ((0:Nat)+xs.length-(0:Nat)) (eI.els xs))
theorem cI_okS(pre:DA.T (.one dLI)->List Prop)(h:∀g,DA.bd (.one dLI) g->(∀p∈pre g,p)->cI_side g):FnPure Tryd.prog 77 (.one dLI) (Rv.D (.list eI)) (λg=>cI_F g) pre:=res_of_side (R:=(.list eI)) (Γ:=(PTab.gamz tab0 [] [])) (Λ:=noΛ) (PTab.okz tab0 [] []) noΛ_ok 100 default (λg=>cI_side g) (λg=>by kernel_rfl) (λg=>by kernel_rfl) h
noncomputable def cV_F(xs:List Mv):Rv.T (.list eV):=
 List.map (λx=>eV.get []) (List.range (min ((0:Nat)+xs.length) (0:Nat)))++eV.lst ((0:Nat)+xs.length-(0:Nat)) (eV.els xs)
def cV_side(xs:List Mv):Prop:=
 ∀(cs:List Nat),(cs.isEmpty=false->xs.length=(0:Nat))->((false !=!cs.isEmpty)=true->∀(d:List Mv),[]=List.map (λx=>eV.get []) (List.range (min ((0:Nat)+xs.length) (0:Nat)))++eV.lst ((0:Nat)+xs.length-(0:Nat)) (eV.els xs))/\((false !=!cs.isEmpty)=false->((0:Nat)<=(0:Nat)/\(∀(e:Nat),e<xs.length->(eV.els xs e).all SV.one=true)/\(0:Nat)+xs.length<=maxLen/\((0:Nat)+xs.length)*Tryd.prog.types[(107:Nat)].bytes<=(140737488355328:Nat))/\(0:Nat)+xs.length<=(0:Nat)+xs.length/\(∀(e:Nat),e<min ((0:Nat)+xs.length) (0:Nat)->eV.OkP [])/\(∀(e:Nat),e<(0:Nat)+xs.length-(0:Nat)->True)/\∀(d:List Mv),List.map (λx=>eV.get []) (List.range (min ((0:Nat)+xs.length) (0:Nat)))++eV.lst ((0:Nat)+xs.length-(0:Nat)) (eV.els xs)=List.map (λx=>eV.get []) (List.range (min ((0:Nat)+xs.length) (0:Nat)))++eV.lst ((0:Nat)+xs.length-(0:Nat)) (eV.els xs))
theorem cV_okS(pre:DA.T (.one dLV)->List Prop)(h:∀g,DA.bd (.one dLV) g->(∀p∈pre g,p)->cV_side g):FnPure Tryd.prog 79 (.one dLV) (Rv.D (.list eV)) (λg=>cV_F g) pre:=res_of_side (R:=(.list eV)) (Γ:=(PTab.gamz tab0 [] [])) (Λ:=noΛ) (PTab.okz tab0 [] []) noΛ_ok 100 default (λg=>cV_side g) (λg=>by kernel_rfl) (λg=>by kernel_rfl) h
end Go.Proofs.YtfkdbifgppfegaaDoor

namespace Go.Proofs.YtfkdbifgppfegaaDoor
open Go.RowKit Go.Sx
set_option maxRecDepth 100000
theorem cNw(xs:List Ent):wTree Tryd.prog (PTab.gamz (PTab.nil:PTab Tryd.prog) [] []) noΛ 100 74 73 eN ((DA.one dLN).enc xs)=
 Tr.all λcs=>Tr.giv (cs.isEmpty=false->xs.length=(0:Nat)) (Tr.br (false !=!cs.isEmpty) (Tr.ret []) (Tr.ask ((0:Nat)<=(0:Nat)/\(∀(e:Nat),e<xs.length->(eN.els xs e).all SV.one=true)/\(0:Nat)+xs.length<=maxLen/\((0:Nat)+xs.length)*Tryd.prog.types[(73:Nat)].bytes<=(140737488355328:Nat)) (Tr.ask ((0:Nat)+xs.length=(0:Nat)+xs.length) (Tr.ask (∀(e:Nat),e<min ((0:Nat)+xs.length) (0:Nat)->eN.OkP []) (Tr.ask (∀(e:Nat),e<(0:Nat)+xs.length-(0:Nat)->True) (Tr.ret (List.map (λx=>eN.get []) (List.range (min ((0:Nat)+xs.length) (0:Nat)))++eN.lst ((0:Nat)+xs.length-(0:Nat)) (eN.els xs)))))))):=by kernel_rfl
theorem cBw(xs:List Bool):wTree Tryd.prog (PTab.gamz (PTab.nil:PTab Tryd.prog) [] []) noΛ 100 73 4 eBool ((DA.one dLB).enc xs)=
 Tr.all λcs=>Tr.giv (cs.isEmpty=false->xs.length=(0:Nat)) (Tr.br (false !=!cs.isEmpty) (Tr.ret []) (Tr.ask ((0:Nat)<=(0:Nat)/\(∀(e:Nat),e<xs.length->(eBool.els xs e).all SV.one=true)/\(0:Nat)+xs.length<=maxLen/\((0:Nat)+xs.length)*Tryd.prog.types[(4:Nat)].bytes<=(140737488355328:Nat)) (Tr.ask ((0:Nat)+xs.length=(0:Nat)+xs.length) (Tr.ask (∀(e:Nat),e<min ((0:Nat)+xs.length) (0:Nat)->eBool.OkP []) (Tr.ask (∀(e:Nat),e<(0:Nat)+xs.length-(0:Nat)->True) (Tr.ret (List.map (λx=>eBool.get []) (List.range (min ((0:Nat)+xs.length) (0:Nat)))++eBool.lst ((0:Nat)+xs.length-(0:Nat)) (eBool.els xs)))))))):=by kernel_rfl
theorem cDw(xs:List Nd):wTree Tryd.prog (PTab.gamz (PTab.nil:PTab Tryd.prog) [] []) noΛ 100 100 109 eD ((DA.one dLD).enc xs)=
 Tr.all λcs=>Tr.giv (cs.isEmpty=false->xs.length=(0:Nat)) (Tr.br (false !=!cs.isEmpty) (Tr.ret []) (Tr.ask ((0:Nat)<=(0:Nat)/\(∀(e:Nat),e<xs.length->(eD.els xs e).all SV.one=true)/\(0:Nat)+xs.length<=maxLen/\((0:Nat)+xs.length)*Tryd.prog.types[(109:Nat)].bytes<=(140737488355328:Nat)) (Tr.ask ((0:Nat)+xs.length=(0:Nat)+xs.length) (Tr.ask (∀(e:Nat),e<min ((0:Nat)+xs.length) (0:Nat)->eD.OkP []) (Tr.ask (∀(e:Nat),e<(0:Nat)+xs.length-(0:Nat)->∀(p:Prop),p∈[]++([]++([∀(e_1:Nat),e_1<(xs.getD e eD.dflt).ins.length->eI.Ok (eI.els (xs.getD e eD.dflt).ins e_1)]++([]++([]++[])++([]++([]++[])))))->p) (Tr.ret (List.map (λx=>eD.get []) (List.range (min ((0:Nat)+xs.length) (0:Nat)))++eD.lst ((0:Nat)+xs.length-(0:Nat)) (eD.els xs)))))))):=by kernel_rfl
end Go.Proofs.YtfkdbifgppfegaaDoor

namespace Go.Proofs.YtfkdbifgppfegaaDoor
open Go.RowKit Go.Sx
set_option maxRecDepth 100000
def KS:Nat:=1000000
theorem clE{α:Type}(A:El α)(xs:List α):List.map (λ_=>A.get []) (List.range (min (0+xs.length) 0))++A.lst (0+xs.length-0) (A.els xs)=xs:=by
 have h2:min (0+xs.length) 0=0:=by omega
 rw[h2,show 0+xs.length-0=xs.length by omega,A.lst_els];rfl
theorem nil_cs{α:Type}{xs:List α}{cs:List Nat}(h:cs.isEmpty=false->xs.length=0)(hc:(false !=!cs.isEmpty)=true):xs=[]:=
 List.length_eq_zero_iff.1 (h (by cases hh:cs.isEmpty with
  |true=>rw[hh]at hc;cases hc
  |false=>rfl))
theorem cR_byt(h:118<Tryd.prog.types.size):(Tryd.prog.types[(118:Nat)]'h).bytes=24:=by kernel_rfl
theorem cR_ok:FnPure Tryd.prog 75 (.one dLR) (Rv.D (.list eR)) (λxs=>xs) (λxs=>[xs.length<=KS]):=by
 refine pure_congr (cR_okS _ λxs _ hp=>?_) λxs _ _=>clE eR xs;have h:xs.length<=KS:=hp _ (List.mem_cons_self ..);unfold KS at h;intro cs hcs;refine⟨λhc d=>?_,λ_=>⟨⟨Nat.le_refl _,λe _=>eR.one_els xs e,by unfold maxLen;omega,by rw[cR_byt];omega⟩,Nat.le_refl _,λe he=>by omega,λ_ _=>trivial,λ_=>rfl⟩⟩;rw[nil_cs hcs hc];rfl
theorem cC_byt(h:121<Tryd.prog.types.size):(Tryd.prog.types[(121:Nat)]'h).bytes=72:=by kernel_rfl
theorem cC_ok:FnPure Tryd.prog 76 (.one dLC) (Rv.D (.list eC)) (λxs=>xs) (λxs=>[xs.length<=KS]):=by
 refine pure_congr (cC_okS _ λxs _ hp=>?_) λxs _ _=>clE eC xs;have h:xs.length<=KS:=hp _ (List.mem_cons_self ..);unfold KS at h;intro cs hcs;refine⟨λhc d=>?_,λ_=>⟨⟨Nat.le_refl _,λe _=>eC.one_els xs e,by unfold maxLen;omega,by rw[cC_byt];omega⟩,Nat.le_refl _,λe he=>by omega,λ_ _=>trivial,λ_=>rfl⟩⟩;rw[nil_cs hcs hc];rfl
theorem cN_byt(h:73<Tryd.prog.types.size):(Tryd.prog.types[(73:Nat)]'h).bytes=40:=by kernel_rfl
theorem cN_ok:FnPure Tryd.prog 74 (.one dLN) (Rv.D (.list eN)) (λxs=>xs) (λxs=>[xs.length<=KS]):=by
 refine pure_congr (cN_okS _ λxs _ hp=>?_) λxs _ _=>clE eN xs;have h:xs.length<=KS:=hp _ (List.mem_cons_self ..);unfold KS at h;intro cs hcs;refine⟨λhc d=>?_,λ_=>⟨⟨Nat.le_refl _,λe _=>eN.one_els xs e,by unfold maxLen;omega,by rw[cN_byt];omega⟩,Nat.le_refl _,λe he=>by omega,λ_ _=>trivial,λ_=>rfl⟩⟩;rw[nil_cs hcs hc];rfl
theorem cN_row:FnRow Tryd.prog 74 73 eN (.one dLN) (λl=>l) (λl=>[l.length<=KS]):=
 row_of_tree (PTab.okz (PTab.nil:PTab Tryd.prog) [] []) noΛ_ok 100 λl _ hp=>by
  have h:l.length<=KS:=hp _ (List.mem_cons_self ..);unfold KS at h;rw[cNw];intro cs hcs;refine⟨λhc=>?_,λ_=>?_⟩
  .exact(nil_cs hcs hc).symm
  .refine⟨⟨Nat.le_refl _,λe _=>eN.one_els l e,by unfold maxLen;omega,by rw[cN_byt];omega⟩,rfl,λe he=>absurd he (by omega),λe _=>?_,?_⟩
   .first|trivial|(intro p hp;simp only[List.append_nil,List.nil_append,List.mem_singleton]at hp;rw[hp];exactλe' _=>El.ok_els _ _ _)
   .exact clE eN l
theorem cI_byt(h:3<Tryd.prog.types.size):(Tryd.prog.types[(3:Nat)]'h).bytes=8:=by kernel_rfl
theorem cI_ok:FnPure Tryd.prog 77 (.one dLI) (Rv.D (.list eI)) (λxs=>xs) (λxs=>[xs.length<=KS]):=by
 refine pure_congr (cI_okS _ λxs _ hp=>?_) λxs _ _=>clE eI xs;have h:xs.length<=KS:=hp _ (List.mem_cons_self ..);unfold KS at h;intro cs hcs;refine⟨λhc d=>?_,λ_=>⟨⟨Nat.le_refl _,λe _=>eI.one_els xs e,by unfold maxLen;omega,by rw[cI_byt];omega⟩,Nat.le_refl _,λe he=>by omega,λ_ _=>trivial,λ_=>rfl⟩⟩;rw[nil_cs hcs hc];rfl
theorem cV_byt(h:107<Tryd.prog.types.size):(Tryd.prog.types[(107:Nat)]'h).bytes=64:=by kernel_rfl
theorem cV_ok:FnPure Tryd.prog 79 (.one dLV) (Rv.D (.list eV)) (λxs=>xs) (λxs=>[xs.length<=KS]):=by
 refine pure_congr (cV_okS _ λxs _ hp=>?_) λxs _ _=>clE eV xs;have h:xs.length<=KS:=hp _ (List.mem_cons_self ..);unfold KS at h;intro cs hcs;refine⟨λhc d=>?_,λ_=>⟨⟨Nat.le_refl _,λe _=>eV.one_els xs e,by unfold maxLen;omega,by rw[cV_byt];omega⟩,Nat.le_refl _,λe he=>by omega,λ_ _=>trivial,λ_=>rfl⟩⟩;rw[nil_cs hcs hc];rfl
theorem cB_byt(h:4<Tryd.prog.types.size):(Tryd.prog.types[(4:Nat)]'h).bytes=1:=by kernel_rfl
theorem cB_row:FnRow Tryd.prog 73 4 eBool (.one dLB) (λl=>l) (λl=>[l.length<=KS]):=
 row_of_tree (PTab.okz (PTab.nil:PTab Tryd.prog) [] []) noΛ_ok 100 λl _ hp=>by
  have h:l.length<=KS:=hp _ (List.mem_cons_self ..);unfold KS at h;rw[cBw];intro cs hcs;refine⟨λhc=>?_,λ_=>?_⟩
  .exact(nil_cs hcs hc).symm
  .refine⟨⟨Nat.le_refl _,λe _=>eBool.one_els l e,by unfold maxLen;omega,by rw[cB_byt];omega⟩,rfl,λe he=>absurd he (by omega),λe _=>?_,?_⟩
   .first|trivial|(intro p hp;simp only[List.append_nil,List.nil_append,List.mem_singleton]at hp;rw[hp];exactλe' _=>El.ok_els _ _ _)
   .exact clE eBool l
theorem cD_byt(h:109<Tryd.prog.types.size):(Tryd.prog.types[(109:Nat)]'h).bytes=104:=by kernel_rfl
theorem cD_row:FnRow Tryd.prog 100 109 eD (.one dLD) (λl=>l) (λl=>[l.length<=KS]):=
 row_of_tree (PTab.okz (PTab.nil:PTab Tryd.prog) [] []) noΛ_ok 100 λl _ hp=>by
  have h:l.length<=KS:=hp _ (List.mem_cons_self ..);unfold KS at h;rw[cDw];intro cs hcs;refine⟨λhc=>?_,λ_=>?_⟩
  .exact(nil_cs hcs hc).symm
  .refine⟨⟨Nat.le_refl _,λe _=>eD.one_els l e,by unfold maxLen;omega,by rw[cD_byt];omega⟩,rfl,λe he=>absurd he (by omega),λe _=>?_,?_⟩
   .first|trivial|(intro p hp;simp only[List.append_nil,List.nil_append,List.mem_singleton]at hp;rw[hp];exactλe' _=>El.ok_els _ _ _)
   .exact clE eD l
end Go.Proofs.YtfkdbifgppfegaaDoor

namespace Go.Proofs.YtfkdbifgppfegaaDoor
open Go.RowKit Go.Sx Go.Lp
set_option maxRecDepth 100000
theorem en_sn(n:Nat)(h1:1<=n)(h2:n<=16)(T B HL HB ds g):(enT n T B HL HB ds g).side=enS n g:=match n,h1,h2 with
 |1,_,_=>en_s1 T B HL HB ds g
 |2,_,_=>en_s2 T B HL HB ds g
 |3,_,_=>en_s3 T B HL HB ds g
 |4,_,_=>en_s4 T B HL HB ds g
 |5,_,_=>en_s5 T B HL HB ds g
 |6,_,_=>en_s6 T B HL HB ds g
 |7,_,_=>en_s7 T B HL HB ds g
 |8,_,_=>en_s8 T B HL HB ds g
 |9,_,_=>en_s9 T B HL HB ds g
 |10,_,_=>en_s10 T B HL HB ds g
 |11,_,_=>en_s11 T B HL HB ds g
 |12,_,_=>en_s12 T B HL HB ds g
 |13,_,_=>en_s13 T B HL HB ds g
 |14,_,_=>en_s14 T B HL HB ds g
 |15,_,_=>en_s15 T B HL HB ds g
 |16,_,_=>en_s16 T B HL HB ds g
 |_+17,_,h=>absurd h (by omega)
theorem en_en(n:Nat)(h1:1<=n)(h2:n<=16)(T B HL HB ds g d):(enT n T B HL HB ds g).ev d=enF n g:=match n,h1,h2 with
 |1,_,_=>en_e1 T B HL HB ds g d
 |2,_,_=>en_e2 T B HL HB ds g d
 |3,_,_=>en_e3 T B HL HB ds g d
 |4,_,_=>en_e4 T B HL HB ds g d
 |5,_,_=>en_e5 T B HL HB ds g d
 |6,_,_=>en_e6 T B HL HB ds g d
 |7,_,_=>en_e7 T B HL HB ds g d
 |8,_,_=>en_e8 T B HL HB ds g d
 |9,_,_=>en_e9 T B HL HB ds g d
 |10,_,_=>en_e10 T B HL HB ds g d
 |11,_,_=>en_e11 T B HL HB ds g d
 |12,_,_=>en_e12 T B HL HB ds g d
 |13,_,_=>en_e13 T B HL HB ds g d
 |14,_,_=>en_e14 T B HL HB ds g d
 |15,_,_=>en_e15 T B HL HB ds g d
 |16,_,_=>en_e16 T B HL HB ds g d
 |_+17,_,h=>absurd h (by omega)
theorem forkF_eq{X:Type}{r:Int}:∀(m:Nat)(i:Int)(w:Nat)(t:Nat->X),i<=r->r<=i+m->forkF r m i w t=t (w+(r-i).toNat)
 |0,i,w,t,h1,h2=>by
  have:r=i:=by omega
  subst this;simp[forkF]
 |m+1,i,w,t,h1,h2=>by
  unfold forkF;cases hc:(r==i)with
  |true=>
   have:=beq_iff_eq.1 hc;subst this;simp
  |false=>
   have hne:r≠i:=by simpa using hc
   rw[cond_false,forkF_eq m (i+1) (w+1) t (by omega) (by omega)];congr 1;omega
theorem forkP_all{r:Int}:∀(m:Nat)(i:Int)(w:Nat)(t:Nat->Prop),(∀v,w<=v->v<=w+m->t v)->forkP r m i w t
 |0,i,w,t,h=>h w (Nat.le_refl _) (Nat.le_refl _)
 |m+1,i,w,t,h=>⟨λ_=>h w (Nat.le_refl _) (by omega),λ_=>forkP_all m (i+1) (w+1) t λv h1 h2=>h v (by omega) (by omega)⟩
theorem rdE_eq(xs:List Ent):rdE xs=xs:=eN.lst_els xs
theorem apE_eq(xs:List Ent)(x:Ent):apE xs x=xs++[x]:=by
 unfold apE;rw[Nat.min_eq_right (Nat.le_succ _),eN.lst_els,Nat.add_sub_cancel_left];show xs++[eN.get (eN.cells x)]=_;rw[eN.get_cells]
theorem keepL_eq:∀(n:Nat)(g:List Mg),g.length=n->keepL n g=g
 |0,g,h=>by rw[List.length_eq_zero_iff.1 h];rfl
 |n+1,a::g,h=>by
  show _::keepL n g=_;rw[keepL_eq n g (by simpa using h),rdE_eq];rfl
def stepE(g:List Mg)(w:Nat)(x:Ent):List Mg:=g.set w ⟨(g.getD w mg0).ver,(g.getD w mg0).ents++[x],(g.getD w mg0).yes⟩
theorem updL_eq:∀(n w:Nat)(g:List Mg)(x:Ent),g.length=n->w<n->updL n w g x=stepE g w x
 |n+1,0,a::g,x,h,_=>by
  show _::keepL n g=_;rw[keepL_eq n g (by simpa using h),apE_eq];rfl
 |n+1,w+1,a::g,x,h,hw=>by
  show _::updL n w g x=_;rw[updL_eq n w g x (by simpa using h) (by omega),rdE_eq];rfl
theorem keepE_ok:∀(n:Nat)(g:List Mg),keepE n g
 |0,_=>trivial
 |1,_=>⟨Nat.le_refl _,λ_ _=>trivial⟩
 |n+2,g=>⟨Nat.le_refl _,λ_ _=>trivial,keepE_ok (n+1) g.tail⟩
theorem keepS_ok{P:Prop}(hP:P):∀(n:Nat)(g:List Mg),keepS n g P
 |0,_=>hP
 |n+1,g=>⟨Nat.le_refl _,λ_ _=>trivial,keepS_ok hP n g.tail⟩
theorem updS_ok{P:Prop}(hP:P):∀(n w:Nat)(g:List Mg),updS n w g P
 |0,_,_=>hP
 |n+1,0,g=>⟨Nat.le_refl _,λ_ _=>trivial,λ_ _=>trivial,keepS_ok hP n g.tail⟩
 |n+1,w+1,g=>⟨Nat.le_refl _,λ_ _=>trivial,updS_ok hP n w g.tail⟩
theorem atL_mem:∀(w:Nat)(g:List Mg),w<g.length->atL w g∈g
 |0,a::g,_=>List.mem_cons_self ..
 |w+1,a::g,h=>List.mem_cons_of_mem _ (atL_mem w g (by simpa using h))
theorem byEn(h:73<Tryd.prog.types.size):(Tryd.prog.types[(73:Nat)]'h).bytes=40:=by kernel_rfl
abbrev en_c:Type:=LdR×List Ent×Int
def en_f(g:en_G):Int×en_c×List Mg:=(g.2.2.2.2.1,(g.2.1,g.2.2.1,g.2.2.2.1),g.2.2.2.2.2)
def en_g(d:Int×en_c×List Mg):en_G:=((),d.2.1.1,d.2.1.2.1,d.2.1.2.2,d.1,d.2.2)
noncomputable def en_S(n:Nat)(_:en_c)(b:List Mg)(_:Int)(v:Ent):Ex×List Mg:=(.normal,stepE b (exo_F v.key n).toNat v)
def en_K(n:Nat)(c:en_c)(b:List Mg)(i:Int):Prop:=b.length=n/\(∀m∈b,(m.ents.length:Int)<=i)/\c.2.1.length<=KS
abbrev en_lim(c:en_c):Int:=c.2.2
abbrev en_xs(c:en_c):List Ent:=c.2.1
abbrev en_I(n:Nat)(g:en_G):List Prop:=ixI en_lim en_xs (en_K n) (en_f g)
abbrev en_M(g:en_G):Nat:=ixM en_lim (en_f g)
theorem mem_stepE{g:List Mg}{w:Nat}{x:Ent}{m:Mg}(h:m∈stepE g w x):m∈g\/(w<g.length/\m.ents=(g.getD w mg0).ents++[x]/\g.getD w mg0∈g):=by
 unfold stepE at h;by_cases hw:w<g.length
 .rcases List.mem_or_eq_of_mem_set h with h|h
  .exact .inl h
  .refine .inr ⟨hw,by rw[h],?_⟩;rw[List.getD_eq_getElem?_getD,List.getElem?_eq_getElem hw];exact List.getElem_mem hw
 .rw[List.set_eq_of_length_le (by omega)]at h;exact .inl h
theorem en_P(n:Nat):ixP (en_S n) en_xs (en_K n):=λc b i a h _ _=>by
 obtain⟨h1,h2,h3⟩:=h;refine⟨?_,λm hm=>?_,h3⟩
 .show(stepE b _ a).length=n;unfold stepE;rw[List.length_set,h1]
 .rcases mem_stepE hm with h|⟨_,h,hg⟩
  .have:=h2 m h;omega
  .rw[h,List.length_append];have:=h2 _ hg;simp only[List.length_cons,List.length_nil];omega
theorem en_RF(n:Nat)(h1:1<=n)(h2:n<=16)(d:Int×en_c×List Mg)(hi:allP (ixI en_lim en_xs (en_K n) d)):enF n (en_g d)=((ixF 2 en_lim en_xs eN.dflt (en_S n) d).1,en_g (ixF 2 en_lim en_xs eN.dflt (en_S n) d).2):=by
 obtain⟨i,⟨l,xs,k⟩,g⟩:=d;obtain⟨k1,k2,k3,k4,k5,k6,k7⟩:=hi _ (List.mem_cons_self ..);have k5:g.length=n:=k5;show(bif decide (i<k)then _ else _)=_;unfold ixF en_S;show(bif decide (i<k)then _ else _)=((bif decide (i<k)then _ else _:Ex×(Int×en_c×List Mg)).1,en_g (bif decide (i<k)then _ else _:Ex×(Int×en_c×List Mg)).2);cases decide (i<k)with
 |false=>
  show((Ex.exit 2,_):Ex×en_G)=_;rw[rdE_eq,keepL_eq n g k5];rfl
 |true=>
  have hr:(0:Int)<=(exo_F (xs.getD i.toNat eN.dflt).key n:Int)/\(exo_F (xs.getD i.toNat eN.dflt).key n:Int)<(n:Int):=exo_range (xs.getD i.toNat eN.dflt).key n ⟨by omega,by omega⟩;show(forkF _ _ _ _ _:Ex×en_G)=(Ex.normal,en_g (IntKind.i64.wrap (i+1),(l,xs,k),stepE g (exo_F (xs.getD i.toNat eN.dflt).key n).toNat (xs.getD i.toNat eN.dflt)));obtain⟨r,hz⟩:∃r:Int,exo_F (xs.getD i.toNat eN.dflt).key n=r:=⟨_,rfl⟩;rw[hz]at hr ⊢;have hr':(0:Int)<=r/\r<(n:Int):=hr;clear hr;obtain⟨hr0,hr1⟩:=hr';have e:0+(r-0).toNat=r.toNat:=by omega
  refine(forkF_eq (n-1) 0 0 _ hr0 (by show r<=0+((n-1:Nat):Int);omega)).trans ?_;show enO l xs n k i (0+(r-0).toNat) g=_;unfold enO;rw[e,rdE_eq,updL_eq n _ g _ k5 (by omega)];rfl
end Go.Proofs.YtfkdbifgppfegaaDoor

namespace Go.Proofs.YtfkdbifgppfegaaDoor
open Go.RowKit Go.Sx Go.Lp
set_option maxRecDepth 100000
theorem enS_ok(n:Nat)(h1:1<=n)(h2:n<=16)(g:en_G)(hi:allP (en_I n g)):enS n g:=by
 obtain⟨⟨⟩,l,xs,k,i,g⟩:=g;obtain⟨k1,k2,k3,k4,k5,k6,k7⟩:=hi _ (List.mem_cons_self ..);have k1:k=(xs.length:Int):=k1;have k3:0<=i:=k3;have k5:g.length=n:=k5;have k6:∀m∈g,(m.ents.length:Int)<=i:=k6;have k7:xs.length<=KS:=k7;unfold KS at k7;refine⟨λhlt=>?_,λ_=>⟨λe _=>El.ok_els _ _ _,keepE_ok n g⟩⟩;have hlt:=of_decide_eq_true hlt;refine⟨⟨k3,by omega⟩,⟨by omega,by omega⟩,forkP_all _ _ _ _ λw _ hw=>?_⟩;have hwn:w<n:=by omega
 have hm:=k6 _ (atL_mem w g (by omega));have L:leafS l xs n k i g w:=⟨⟨by omega,by omega⟩,hwn,⟨Nat.le_refl _,trivial,by unfold maxLen;omega,by rw[byEn];omega⟩,⟨by omega,by omega⟩,hwn,λe _=>El.ok_els _ _ _,updS_ok (λ_=>rfl) n w g⟩;exactλcs=>⟨λ_ cs=>⟨λ_=>L,λ_=>L⟩,λ_=>L⟩
theorem forkF_all{X:Type}{r:Int}{p:X->Prop}{t:Nat->X}(h:∀w,p (t w)):∀(m:Nat)(i:Int)(w:Nat),p (forkF r m i w t)
 |0,_,w=>h w
 |m+1,i,w=>by
  unfold forkF;cases(r==i)
  .exact forkF_all h m (i+1) (w+1)
  .exact h w
theorem en_hes(n:Nat)(g:en_G):(enF n g).1=.normal\/(enF n g).1∈([.exit 2]:List Ex):=by
 obtain⟨⟨⟩,l,xs,k,i,g⟩:=g;show((bif decide (i<k)then _ else _:Ex×en_G)).1=_\/((bif decide (i<k)then _ else _:Ex×en_G)).1∈_;cases decide (i<k)with
 |false=>exact .inr (List.mem_cons_self ..)
 |true=>exact .inl (forkF_all (p:=λz:Ex×en_G=>z.1=.normal) (λw=>rfl) _ _ _)
theorem en_ok(n:Nat)(h1:1<=n)(h2:n<=16):∀b∈loopsOf Tryd.prog 10,lkey b=13->LoopOk Tryd.prog b (loopR [.exit 2] (loopBody Tryd.prog 10 13) (enLP n) [] 75 (en_I n) (enF n) en_M).g:=
 loop_run (Γ:=MTab.gamz tabN4 [] []) (Λ:=noΛ) (MTab.okz tabN4 [] []) noΛ_ok 100 10 13 75 (enLP n) [] (en_I n) (enF n) (enS n) en_M default [.exit 2] en_one (λ_ T B HL HB ds g=>en_sn n h1 h2 T B HL HB ds g) (λ_ T B HL HB ds g=>en_en n h1 h2 T B HL HB ds g default) (λg hi=>enS_ok n h1 h2 g hi) (ix_conj_goes (φ:=en_f) (ψ:=en_g) (λ_=>rfl) (λ_=>rfl) (en_RF n h1 h2) (en_P n)) (en_hes n)
noncomputable def distE(n:Nat)(xs:List Ent)(g:List Mg):List Mg:=xs.foldl (λb a=>stepE b (exo_F a.key n).toNat a) g
theorem en_run(n:Nat)(h1:1<=n)(h2:n<=16)(l:LdR)(xs:List Ent)(g:List Mg)(hx:xs.length<=KS)(hg:g.length=n)(h0:∀m∈g,m.ents=[]):loopF (enF n) en_M ((),l,xs,(xs.length:Int),0,g)=(.exit 2,(),l,xs,(xs.length:Int),(xs.length:Int),distE n xs g):=by
 have h:=ix_conj_run (φ:=en_f) (ψ:=en_g) (λ_=>rfl) (λ_=>rfl) (en_RF n h1 h2) (en_P n) (l,xs,(xs.length:Int)) g rfl (Nat.le_trans hx (by decide)) ⟨hg,λm hm=>by rw[h0 m hm];exact Int.le_refl _,hx⟩;rw[scan_fold (st:=en_S n (l,xs,(xs.length:Int))) (f:=λb a=>stepE b (exo_F a.key n).toNat a) (λ_ _ _=>rfl)]at h;simp only[Int.zero_add]at h;exact h
theorem dist_eq(n:Nat):∀(xs:List Ent)(g:List Mg),g.length=n->distE n xs g=(List.range n).map λw=>⟨(g.getD w mg0).ver,(g.getD w mg0).ents++xs.filter (λx=>decide ((exo_F x.key n:Int).toNat=w)),(g.getD w mg0).yes⟩
 | [],g,hg=>by
  refine List.ext_getElem (by simp[distE,hg]) λw h1 h2=>?_;have hw:w<g.length:=h1;simp only[List.getElem_map,List.getElem_range,List.filter_nil,List.append_nil];rw[List.getD_eq_getElem?_getD,List.getElem?_eq_getElem hw];rfl
 |a::xs,g,hg=>by
  show distE n xs (stepE g (exo_F a.key n).toNat a)=_;rw[dist_eq n xs _ (by unfold stepE;rw[List.length_set,hg])];refine List.map_congr_left λw hw=>?_;have hw:w<g.length:=by rw[hg];exact List.mem_range.1 hw
  have e:(stepE g (exo_F a.key n).toNat a).getD w mg0=bif decide ((exo_F a.key n:Int).toNat=w)then⟨(g.getD w mg0).ver,(g.getD w mg0).ents++[a],(g.getD w mg0).yes⟩else g.getD w mg0:=by
   unfold stepE;rw[List.getD_eq_getElem?_getD,List.getElem?_set];by_cases hc:(exo_F a.key n:Int).toNat=w
   .rw[if_pos hc,decide_eq_true hc,cond_true,hc,if_pos hw];rfl
   .rw[if_neg hc,decide_eq_false hc,cond_false,List.getD_eq_getElem?_getD]
  rw[e];cases hd:decide ((exo_F a.key n:Int).toNat=w)with
  |true=>rw[List.filter_cons,if_pos hd];simp
  |false=>rw[List.filter_cons,if_neg (by rw[hd];simp)];rfl
end Go.Proofs.YtfkdbifgppfegaaDoor

namespace Go.Proofs.YtfkdbifgppfegaaDoor
open Go.RowKit Go.Sx Go.Lp
noncomputable abbrev enC(n:Nat):LCon:=loopR [.exit 2] (loopBody Tryd.prog 10 13) (enLP n) [] 75 (en_I n) (enF n) en_M
noncomputable def ltN(n:Nat)(h1:1<=n)(h2:n<=16):LTab Tryd.prog:=LTab.nil.cons 10 13 (enC n) (en_ok n h1 h2)
noncomputable abbrev lamN(n:Nat)(h1:1<=n)(h2:n<=16):Lam:=(ltN n h1 h2).lam
theorem lamN_ok(n:Nat)(h1:1<=n)(h2:n<=16):∀f k L,lamN n h1 h2 f k=some L->∀b∈loopsOf Tryd.prog f,lkey b=k->LoopOk Tryd.prog b L.g:=(ltN n h1 h2).ok
abbrev LdF:Type:=Unit×Int×Int×Int×Dl×List Bool×Bool×Int×List Ent
abbrev eLf(n:Int):El LdF:=.pair (eK n) (.pair eI (.pair eI (.pair eI (.pair eDl (.pair eLB (.pair eBool (.pair eI eLN)))))))
abbrev aLf(n:Int):DA LdF:=.one (.agg (eLf n))
noncomputable abbrev rvMg:RvE Ms:=.iso (.pair (.pl eI) (.pair (.pl eI) (.pair (.pl eP) (.pair (.pl eT) (.pair (.pl eLR) (.pair (.pl eLC) (.pair (.pl eDl) (.pair (.pl eI) (.pair (.list eN) (.pair (.pl eBool) (.pl eI))))))))))) Ms.ofP Ms.toP (λ_=>rfl) (λ_=>rfl)
noncomputable abbrev rEnd(n:Nat):Rv (Ld×List Ms×Int):=.tup (.cons (.of dL) (.cons (.rowN rvMg n) (.one (.of dI))))
end Go.Proofs.YtfkdbifgppfegaaDoor

namespace Go.Proofs.YtfkdbifgppfegaaDoor
open Go.RowKit Go.Sx Go.Lp
set_option maxRecDepth 100000
def ldRd(n:Int)(l:LdF):Ld:=Ld.mk n l.2.1 l.2.2.1 l.2.2.2.1 (Dl.mk (eI.ag l.2.2.2.2.1.drop) (eD.ag l.2.2.2.2.1.put) (eV.ag l.2.2.2.2.1.moves)) (eBool.ag l.2.2.2.2.2.1) l.2.2.2.2.2.2.1 l.2.2.2.2.2.2.2.1 (eN.ag l.2.2.2.2.2.2.2.2)
def okLd(l:LdF)(P:Prop):Prop:=eI.okL l.2.2.2.2.1.drop/\eD.okL l.2.2.2.2.1.put/\eV.okL l.2.2.2.2.1.moves/\eBool.okL l.2.2.2.2.2.1/\eN.okL l.2.2.2.2.2.2.2.2/\P
def okLe(l:LdF):Prop:=eI.okL l.2.2.2.2.1.drop/\eD.okL l.2.2.2.2.1.put/\eV.okL l.2.2.2.2.1.moves/\eBool.okL l.2.2.2.2.2.1/\eN.okL l.2.2.2.2.2.2.2.2
def initL(v:Int)(y:Bool):Nat->List Mg
 |0=>[]
 |n+1=>⟨v,[],y⟩::initL v y n
def endI(n:Nat)(l:LdF):en_G:=((),((),(),l.2.2.1,(),l.2.2.2.2.2.2.1,()),eN.ag l.2.2.2.2.2.2.2.2,(l.2.2.2.2.2.2.2.2.length:Int),0,initL l.2.2.1 l.2.2.2.2.2.2.1 n)
noncomputable def endQ(n:Nat)(l:LdF):Ex×en_G:=loopF (enF n) en_M (endI n l)
def mOf(m:Mg):Ms:=Ms.mk 5 m.ver (Place.mk 0 0) (T.mk 0 0 0 0 0 0) [] [] (Dl.mk [] [] []) 0 (eN.ag m.ents) m.yes 0
def msgsN:Nat->List Mg->List Ms
 |0,_=>[]
 |k+1,g=>msgsN k g++[mOf (atL k g)]
def endG(n:Nat)(q:Ex×en_G):Ld×List Ms×Int:=bif q.2.2.1.2.2.2.2.1 then(Ld.mk n 0 (IntKind.i64.wrap (q.2.2.1.2.2.1+1)) 0 (Dl.mk [] [] []) [] false 0 [],msgsN n q.2.2.2.2.2.2,0)else(Ld.mk n 0 q.2.2.1.2.2.1 0 (Dl.mk [] [] []) [] false 0 [],msgsN n q.2.2.2.2.2.2,0)
def unF(n:Nat)(d x:Ld×List Ms×Int):Nat->Nat->Ld×List Ms×Int
 |0,k=>bif decide ((k:Int)<(n:Int))then d else x
 |m+1,k=>bif decide ((k:Int)<(n:Int))then unF n d x m (k+1)else d
noncomputable def endF(n:Nat)(d:Ld×List Ms×Int)(l:LdF):Ld×List Ms×Int:=bif chkL (ldRd n l)!=0 then(ldRd n l,[],chkL (ldRd n l))else bif l.2.1 !=4 then(ldRd n l,[],212)else unF n d (endG n (endQ n l)) n 0
def unS(n:Nat)(G:Prop):Nat->Nat->Prop
 |0,k=>(decide ((k:Int)<(n:Int))=true->((0:Int)<=(k:Int)/\(k:Int)<(n:Int))/\k<n/\False)/\(decide ((k:Int)<(n:Int))=false->G)
 |m+1,k=>(decide ((k:Int)<(n:Int))=true->((0:Int)<=(k:Int)/\(k:Int)<(n:Int))/\k<n/\unS n G m (k+1))/\(decide ((k:Int)<(n:Int))=false->False)
def goodS(n:Nat)(l:LdF)(q:Ex×en_G):Prop:=eN.okL l.2.2.2.2.2.2.2.2/\ixJ en_lim en_xs (en_K n) (en_f (endI n l))/\(q.2.2.1.2.2.2.2.1=true->keepE n q.2.2.2.2.2.2)/\(q.2.2.1.2.2.2.2.1=false->keepE n q.2.2.2.2.2.2)
noncomputable def endS(n:Nat)(l:LdF):Prop:=okLd l (((chkL (ldRd n l)!=0)=true->okLe l)/\((chkL (ldRd n l)!=0)=false->((l.2.1 !=4)=true->okLe l)/\((l.2.1 !=4)=false->((0:Int)<=(n:Int)/\(n:Int)<=(n:Int)/\(n:Int)<=9223372036854775807/\(248:Int)*(n:Int)<=140737488355328)/\unS n (goodS n l (endQ n l)) n 0)))
noncomputable abbrev edT(n:Nat)(h1:1<=n)(h2:n<=16)(l:LdF):Tr (Ld×List Ms×Int):=rTree Tryd.prog (MTab.gamz tabN4 [(4000000,0)] [(10,8,n+1)]) (lamN n h1 h2) 100 10 ((aLf n).enc l) (rEnd n)
theorem ed_e1(h1 h2 l d):(edT 1 h1 h2 l).ev d=endF 1 d l:=by kernel_rfl
theorem ed_s1(h1 h2 l):(edT 1 h1 h2 l).side=endS 1 l:=by kernel_rfl
theorem ed_e2(h1 h2 l d):(edT 2 h1 h2 l).ev d=endF 2 d l:=by kernel_rfl
theorem ed_s2(h1 h2 l):(edT 2 h1 h2 l).side=endS 2 l:=by kernel_rfl
theorem ed_e3(h1 h2 l d):(edT 3 h1 h2 l).ev d=endF 3 d l:=by kernel_rfl
theorem ed_s3(h1 h2 l):(edT 3 h1 h2 l).side=endS 3 l:=by kernel_rfl
theorem ed_e4(h1 h2 l d):(edT 4 h1 h2 l).ev d=endF 4 d l:=by kernel_rfl
theorem ed_s4(h1 h2 l):(edT 4 h1 h2 l).side=endS 4 l:=by kernel_rfl
theorem ed_e5(h1 h2 l d):(edT 5 h1 h2 l).ev d=endF 5 d l:=by kernel_rfl
theorem ed_s5(h1 h2 l):(edT 5 h1 h2 l).side=endS 5 l:=by kernel_rfl
theorem ed_e6(h1 h2 l d):(edT 6 h1 h2 l).ev d=endF 6 d l:=by kernel_rfl
theorem ed_s6(h1 h2 l):(edT 6 h1 h2 l).side=endS 6 l:=by kernel_rfl
theorem ed_e7(h1 h2 l d):(edT 7 h1 h2 l).ev d=endF 7 d l:=by kernel_rfl
theorem ed_s7(h1 h2 l):(edT 7 h1 h2 l).side=endS 7 l:=by kernel_rfl
theorem ed_e8(h1 h2 l d):(edT 8 h1 h2 l).ev d=endF 8 d l:=by kernel_rfl
theorem ed_s8(h1 h2 l):(edT 8 h1 h2 l).side=endS 8 l:=by kernel_rfl
theorem ed_e9(h1 h2 l d):(edT 9 h1 h2 l).ev d=endF 9 d l:=by kernel_rfl
theorem ed_s9(h1 h2 l):(edT 9 h1 h2 l).side=endS 9 l:=by kernel_rfl
theorem ed_e10(h1 h2 l d):(edT 10 h1 h2 l).ev d=endF 10 d l:=by kernel_rfl
theorem ed_s10(h1 h2 l):(edT 10 h1 h2 l).side=endS 10 l:=by kernel_rfl
theorem ed_e11(h1 h2 l d):(edT 11 h1 h2 l).ev d=endF 11 d l:=by kernel_rfl
theorem ed_s11(h1 h2 l):(edT 11 h1 h2 l).side=endS 11 l:=by kernel_rfl
theorem ed_e12(h1 h2 l d):(edT 12 h1 h2 l).ev d=endF 12 d l:=by kernel_rfl
theorem ed_s12(h1 h2 l):(edT 12 h1 h2 l).side=endS 12 l:=by kernel_rfl
theorem ed_e13(h1 h2 l d):(edT 13 h1 h2 l).ev d=endF 13 d l:=by kernel_rfl
theorem ed_s13(h1 h2 l):(edT 13 h1 h2 l).side=endS 13 l:=by kernel_rfl
theorem ed_e14(h1 h2 l d):(edT 14 h1 h2 l).ev d=endF 14 d l:=by kernel_rfl
theorem ed_s14(h1 h2 l):(edT 14 h1 h2 l).side=endS 14 l:=by kernel_rfl
theorem ed_e15(h1 h2 l d):(edT 15 h1 h2 l).ev d=endF 15 d l:=by kernel_rfl
theorem ed_s15(h1 h2 l):(edT 15 h1 h2 l).side=endS 15 l:=by kernel_rfl
theorem ed_e16(h1 h2 l d):(edT 16 h1 h2 l).ev d=endF 16 d l:=by kernel_rfl
theorem ed_s16(h1 h2 l):(edT 16 h1 h2 l).side=endS 16 l:=by kernel_rfl
theorem ed_en(n:Nat)(h1:1<=n)(h2:n<=16)(l d):(edT n h1 h2 l).ev d=endF n d l:=match n,h1,h2 with
 |1,h1,h2=>ed_e1 h1 h2 l d
 |2,h1,h2=>ed_e2 h1 h2 l d
 |3,h1,h2=>ed_e3 h1 h2 l d
 |4,h1,h2=>ed_e4 h1 h2 l d
 |5,h1,h2=>ed_e5 h1 h2 l d
 |6,h1,h2=>ed_e6 h1 h2 l d
 |7,h1,h2=>ed_e7 h1 h2 l d
 |8,h1,h2=>ed_e8 h1 h2 l d
 |9,h1,h2=>ed_e9 h1 h2 l d
 |10,h1,h2=>ed_e10 h1 h2 l d
 |11,h1,h2=>ed_e11 h1 h2 l d
 |12,h1,h2=>ed_e12 h1 h2 l d
 |13,h1,h2=>ed_e13 h1 h2 l d
 |14,h1,h2=>ed_e14 h1 h2 l d
 |15,h1,h2=>ed_e15 h1 h2 l d
 |16,h1,h2=>ed_e16 h1 h2 l d
 |_+17,_,h=>absurd h (by omega)
theorem ed_sn(n:Nat)(h1:1<=n)(h2:n<=16)(l):(edT n h1 h2 l).side=endS n l:=match n,h1,h2 with
 |1,h1,h2=>ed_s1 h1 h2 l
 |2,h1,h2=>ed_s2 h1 h2 l
 |3,h1,h2=>ed_s3 h1 h2 l
 |4,h1,h2=>ed_s4 h1 h2 l
 |5,h1,h2=>ed_s5 h1 h2 l
 |6,h1,h2=>ed_s6 h1 h2 l
 |7,h1,h2=>ed_s7 h1 h2 l
 |8,h1,h2=>ed_s8 h1 h2 l
 |9,h1,h2=>ed_s9 h1 h2 l
 |10,h1,h2=>ed_s10 h1 h2 l
 |11,h1,h2=>ed_s11 h1 h2 l
 |12,h1,h2=>ed_s12 h1 h2 l
 |13,h1,h2=>ed_s13 h1 h2 l
 |14,h1,h2=>ed_s14 h1 h2 l
 |15,h1,h2=>ed_s15 h1 h2 l
 |16,h1,h2=>ed_s16 h1 h2 l
 |_+17,_,h=>absurd h (by omega)
end Go.Proofs.YtfkdbifgppfegaaDoor

namespace Go.Proofs.YtfkdbifgppfegaaDoor
open Go.RowKit Go.Sx Go.Lp
set_option maxRecDepth 100000
theorem initL_len(v:Int)(y:Bool):∀n,(initL v y n).length=n
 |0=>rfl
 |n+1=>by show(initL v y n).length+1=_;rw[initL_len v y n]
theorem initL_nil(v:Int)(y:Bool):∀n,∀m∈initL v y n,m.ents=[]
 |0,m,h=>by cases h
 |n+1,m,h=>by
  rcases List.mem_cons.1 h with h|h
  .rw[h]
  .exact initL_nil v y n m h
theorem endQ_eq(n:Nat)(h1:1<=n)(h2:n<=16)(l:LdF)(hx:l.2.2.2.2.2.2.2.2.length<=KS):endQ n l=(.exit 2,(),((),(),l.2.2.1,(),l.2.2.2.2.2.2.1,()),l.2.2.2.2.2.2.2.2,(l.2.2.2.2.2.2.2.2.length:Int),(l.2.2.2.2.2.2.2.2.length:Int),distE n l.2.2.2.2.2.2.2.2 (initL l.2.2.1 l.2.2.2.2.2.2.1 n)):=by
 unfold endQ endI;rw[El.ag_eq];exact en_run n h1 h2 _ _ _ hx (initL_len _ _ _) (initL_nil _ _ _)
theorem unS_ok(n:Nat){G:Prop}(hG:G):∀(m k:Nat),m+k=n->unS n G m k
 |0,k,h=>⟨λhk=>by have:=of_decide_eq_true hk;omega,λ_=>hG⟩
 |m+1,k,h=>⟨λ_=>⟨⟨by omega,by omega⟩,by omega,unS_ok n hG m (k+1) (by omega)⟩,λhk=>by have:=of_decide_eq_false hk;omega⟩
theorem unF_eq(n:Nat)(d x:Ld×List Ms×Int):∀(m k:Nat),m+k=n->unF n d x m k=x
 |0,k,h=>by unfold unF;rw[decide_eq_false (by omega)];rfl
 |m+1,k,h=>by unfold unF;rw[decide_eq_true (by omega),cond_true,unF_eq n d x m (k+1) (by omega)]
theorem okLe_ok(l:LdF):okLe l:=by unfold okLe;simp only[El.okL_eq,and_self]
theorem endS_ok(n:Nat)(h1:1<=n)(h2:n<=16)(l:LdF)(hx:l.2.2.2.2.2.2.2.2.length<=KS):endS n l:=by
 unfold endS okLd;simp only[El.okL_eq,true_and];refine⟨λ_=>okLe_ok l,λ_=>⟨λ_=>okLe_ok l,λ_=>⟨⟨by omega,by omega,by omega,by omega⟩,unS_ok n ?_ n 0 rfl⟩⟩⟩;refine⟨by rw[El.okL_eq];trivial,?_,λ_=>keepE_ok _ _,λ_=>keepE_ok _ _⟩;show ixJ en_lim en_xs (en_K n) (0,(_,eN.ag _,_),_);rw[El.ag_eq];exact ixJ0 rfl (Nat.le_trans hx (by decide)) ⟨initL_len _ _ _,λm hm=>by rw[initL_nil _ _ _ m hm];exact Int.le_refl _,hx⟩
theorem edn_ok(n:Nat)(h1:1<=n)(h2:n<=16):FnPure Tryd.prog 10 (aLf n) (Rv.D (rEnd n)) (λl=>endF n default l) (λl=>[l.2.2.2.2.2.2.2.2.length<=KS]):=
 res_of_side (R:=rEnd n) (Γ:=MTab.gamz tabN4 [(4000000,0)] [(10,8,n+1)]) (Λ:=lamN n h1 h2) (MTab.okz tabN4 [(4000000,0)] [(10,8,n+1)]) (lamN_ok n h1 h2) 100 default (endS n) (λl=>ed_sn n h1 h2 l) (λl=>ed_en n h1 h2 l default) (λl _ hp=>endS_ok n h1 h2 l (hp _ (List.mem_cons_self ..)))
end Go.Proofs.YtfkdbifgppfegaaDoor

namespace Go.Proofs.YtfkdbifgppfegaaDoor
open Go.RowKit Go.Sx
set_option maxRecDepth 100000
def lamBad:Lam:=λf k=>bif Nat.beq f 10 then some ⟨λ_=>.bad 2000,λ_=>trivial⟩else none
theorem lamBad_ok:∀f k L,lamBad f k=some L->∀b∈loopsOf Tryd.prog f,lkey b=k->LoopOk Tryd.prog b L.g:=λf k L h b _ _=>by
 unfold lamBad at h;cases hf:Nat.beq f 10 with
 |false=>rw[hf]at h;cases h
 |true=>rw[hf]at h;simp only[cond_true,Option.some.injEq]at h;subst h;intro M w0 w ρ σ a K hK hm;exact hK.elim
noncomputable abbrev rEnd0:Rv (Ld×List Ms×Int):=.tup (.cons (.of dL) (.cons (.of dLMs) (.one (.of dI))))
noncomputable def edb_F(l:Ld):Rv.T rEnd0:=
 bif chkL (Ld.mk l.workers l.stage l.ver l.cut (Dl.mk (eI.ag l.dl.drop) (eD.ag l.dl.put) (eV.ag l.dl.moves)) (eBool.ag l.voted) l.yes l.why (eN.ag l.ents))!=(0:Int)then(Ld.mk l.workers l.stage l.ver l.cut (Dl.mk (eI.ag l.dl.drop) (eD.ag l.dl.put) (eV.ag l.dl.moves)) (eBool.ag l.voted) l.yes l.why (eN.ag l.ents),[],chkL (Ld.mk l.workers l.stage l.ver l.cut (Dl.mk (eI.ag l.dl.drop) (eD.ag l.dl.put) (eV.ag l.dl.moves)) (eBool.ag l.voted) l.yes l.why (eN.ag l.ents)))
 else bif l.stage !=(4:Int)then(Ld.mk l.workers l.stage l.ver l.cut (Dl.mk (eI.ag l.dl.drop) (eD.ag l.dl.put) (eV.ag l.dl.moves)) (eBool.ag l.voted) l.yes l.why (eN.ag l.ents),[],(212:Int))else default
def edb_side(l:Ld):Prop:=
 eI.okL l.dl.drop/\eD.okL l.dl.put/\eV.okL l.dl.moves/\eBool.okL l.voted/\eN.okL l.ents/\((chkL (Ld.mk l.workers l.stage l.ver l.cut (Dl.mk (eI.ag l.dl.drop) (eD.ag l.dl.put) (eV.ag l.dl.moves)) (eBool.ag l.voted) l.yes l.why (eN.ag l.ents))!=(0:Int))=true->eI.okL l.dl.drop/\eD.okL l.dl.put/\eV.okL l.dl.moves/\eBool.okL l.voted/\eN.okL l.ents)/\((chkL (Ld.mk l.workers l.stage l.ver l.cut (Dl.mk (eI.ag l.dl.drop) (eD.ag l.dl.put) (eV.ag l.dl.moves)) (eBool.ag l.voted) l.yes l.why (eN.ag l.ents))!=(0:Int))=false->((l.stage !=(4:Int))=true->eI.okL l.dl.drop/\eD.okL l.dl.put/\eV.okL l.dl.moves/\eBool.okL l.voted/\eN.okL l.ents)/\((l.stage !=(4:Int))=false->((0:Int)<=l.workers/\l.workers<=l.workers/\l.workers<=(9223372036854775807:Int)/\(248:Int)*l.workers<=(140737488355328:Int))/\False))
theorem edb_okS(pre:DA.T aL->List Prop)(h:∀g,DA.bd aL g->(∀p∈pre g,p)->edb_side g):FnPure Tryd.prog 10 aL (Rv.D rEnd0) (λg=>edb_F g) pre:=res_of_side (R:=rEnd0) (Γ:=(PTab.gamz tabG8 [] [])) (Λ:=lamBad) (PTab.okz tabG8 [] []) lamBad_ok 100 default (λg=>edb_side g) (λg=>by kernel_rfl) (λg=>by kernel_rfl) h
end Go.Proofs.YtfkdbifgppfegaaDoor

namespace Go.Proofs.YtfkdbifgppfegaaDoor
open Go.RowKit Go.Sx Go.Lp
set_option maxRecDepth 100000
abbrev dLsE:Dv (Ld×List Ms×Int):=.tup (.cons dL (.cons dLMs (.one dI)))
noncomputable def msgL(l:Ld)(w:Nat):Ms:=⟨5,l.ver,⟨0,0⟩,⟨0,0,0,0,0,0⟩,[],[],⟨[],[],[]⟩,0,l.ents.filter (λx=>decide ((exo_F x.key l.workers:Int).toNat=w)),l.yes,0⟩
noncomputable def endM(l:Ld):Ld×List Ms×Int:=bif chkL l !=0 then(l,[],chkL l)else bif l.stage !=4 then(l,[],212)else(idleL l.workers (bif l.yes then l.ver+1 else l.ver),(List.range l.workers.toNat).map (msgL l),0)
theorem chk_rg{l:Ld}(h:(chkL l !=0)=false):rgB l=true:=by
 have h:chkL l=0:=by simpa using h
 unfold chkL chkB at h;cases hr:rgB l with
 |true=>rfl
 |false=>rw[hr]at h;cases h
def toF(l:Ld):LdF:=((),l.stage,l.ver,l.cut,l.dl,l.voted,l.yes,l.why,l.ents)
theorem ldRd_eq(l:Ld)(n:Nat)(h:l.workers=n):ldRd n (toF l)=l:=by
 unfold ldRd toF;simp only[El.ag_eq];rw[<-h]
theorem atL_get:∀(k:Nat)(g:List Mg),atL k g=g.getD k mg0
 |0,[]=>rfl
 |0,_::_=>rfl
 |k+1,[]=>by show atL k []=_;rw[atL_get k []];rfl
 |k+1,_::g=>atL_get k g
theorem msgsN_eq(g:List Mg):∀n,msgsN n g=(List.range n).map λw=>mOf (g.getD w mg0)
 |0=>rfl
 |n+1=>by
  show msgsN n g++[mOf (atL n g)]=_;rw[msgsN_eq g n,atL_get,List.range_succ,List.map_append];rfl
theorem initL_get(v:Int)(y:Bool):∀(n w:Nat),w<n->(initL v y n).getD w mg0=⟨v,[],y⟩
 |n+1,0,_=>rfl
 |n+1,w+1,h=>initL_get v y n w (by omega)
theorem endF_eq(l:Ld)(n:Nat)(h1:1<=n)(h2:n<=16)(hn:l.workers=n)(hx:l.ents.length<=KS):endF n default (toF l)=endM l:=by
 unfold endF endM;rw[ldRd_eq l n hn];cases hc:(chkL l !=0)with
 |true=>rfl
 |false=>
  simp only[cond_false];show(bif l.stage !=4 then _ else _)=_;cases hs:(l.stage !=4)with
  |true=>rfl
  |false=>
   simp only[cond_false];rw[unF_eq n _ _ n 0 rfl,endQ_eq n h1 h2 (toF l) hx]
   have hv:0<=l.ver/\l.ver<=1099511627776:=by
    have:=of_decide_eq_true (chk_rg hc);omega
   have hm:msgsN n (distE n l.ents (initL l.ver l.yes n))=(List.range l.workers.toNat).map (msgL l):=by
    rw[msgsN_eq,hn,Int.toNat_natCast];refine List.map_congr_left λw hw=>?_;have hw:w<n:=List.mem_range.1 hw;rw[dist_eq n l.ents _ (initL_len ..)]
    have:((List.range n).map λw=>(⟨((initL l.ver l.yes n).getD w mg0).ver,((initL l.ver l.yes n).getD w mg0).ents++l.ents.filter (λx=>decide ((exo_F x.key n:Int).toNat=w)),((initL l.ver l.yes n).getD w mg0).yes⟩:Mg)).getD w mg0=⟨l.ver,l.ents.filter (λx=>decide ((exo_F x.key n:Int).toNat=w)),l.yes⟩:=by
     rw[List.getD_eq_getElem?_getD,List.getElem?_map,List.getElem?_range hw];simp only[Option.map_some,Option.getD_some,initL_get l.ver l.yes n w hw,List.nil_append]
    rw[this];unfold mOf msgL;rw[El.ag_eq,hn]
   show endG n (_,_,(_,_,l.ver,_,l.yes,_),_,_,_,distE n l.ents (initL l.ver l.yes n))=_;unfold endG;show(bif l.yes then((Ld.mk n 0 (IntKind.i64.wrap (l.ver+1)) 0 (Dl.mk [] [] []) [] false 0 [],msgsN n (distE n l.ents (initL l.ver l.yes n)),(0:Int)):Ld×List Ms×Int)else(Ld.mk n 0 l.ver 0 (Dl.mk [] [] []) [] false 0 [],msgsN n (distE n l.ents (initL l.ver l.yes n)),0))=_;have hw:IntKind.i64.wrap (l.ver+1)=l.ver+1:=Lp.wr (n:=l.ver+1) (by omega);rw[hm,hw];unfold idleL;rw[hn];cases l.yes<;>rfl
theorem edg_ok:FnPure Tryd.prog 10 aL dLsE endM (λl=>[l.ents.length<=KS]):=by
 intro w F l vs hF hE hp hf;have hx:l.ents.length<=KS:=hp _ (List.mem_cons_self ..);by_cases hr:1<=l.workers/\l.workers<=16
 .obtain⟨n,hn⟩:∃n:Nat,l.workers=n:=⟨l.workers.toNat,by omega⟩;have h1:1<=n:=by omega
  have h2:n<=16:=by omega
  have hf':SV.fits 0 (emp F) ((aLf n).enc (toF l)) vs:=by
   obtain⟨x,r,rfl,⟨v,rfl,hv⟩,hr⟩:=fits_cons hf;refine⟨⟨v,rfl,?_⟩,hr⟩;obtain⟨y,ys,rfl,hy,hys⟩:=fits_cons hv;refine⟨?_,hys⟩;have hy:y=.int .i64 l.workers:=hy;show y=.int .i64 (n:Int);rw[hy,hn]
  have:=edn_ok n h1 h2 w F (toF l) vs hF hE (λp hp=>by rw[List.mem_singleton.1 hp];exact hx) hf';rw[<-endF_eq l n h1 h2 hn hx];exact this
 .have hc:(chkL l !=0)=true:=by
   cases h:(chkL l !=0)with
   |true=>rfl
   |false=>
    have:=of_decide_eq_true (chk_rg h);exact absurd ⟨this.1,this.2.1⟩ hr
  have h0:FnPure Tryd.prog 10 aL dLsE (λl=>edb_F l) (λl=>[(chkL l !=0)=true]):=edb_okS (λl=>[(chkL l !=0)=true]) λl _ hp=>by
   have hc:(chkL l !=0)=true:=hp _ (List.mem_cons_self ..);have e:Ld.mk l.workers l.stage l.ver l.cut (Dl.mk l.dl.drop l.dl.put l.dl.moves) l.voted l.yes l.why l.ents=l:=rfl;show edb_side l;unfold edb_side;simp only[El.okL_eq,El.ag_eq,e,hc,true_and,and_self,implies_true,true_and];exactλh=>absurd h (by simp)
  have:=h0 w F l vs hF hE (λp hp=>by rw[List.mem_singleton.1 hp];exact hc) hf
  have e:edb_F l=endM l:=by
   have e:Ld.mk l.workers l.stage l.ver l.cut (Dl.mk l.dl.drop l.dl.put l.dl.moves) l.voted l.yes l.why l.ents=l:=rfl;unfold edb_F endM;simp only[El.ag_eq,e,hc,cond_true]
  rw[<-e];exact this
end Go.Proofs.YtfkdbifgppfegaaDoor

namespace Go.Proofs.YtfkdbifgppfegaaDoor
open Go.RowKit Go.Sx
set_option maxRecDepth 100000
noncomputable def tabH3:PTab Tryd.prog:=tab0.cons 77 (pconR (.one dLI) (Rv.D (.list eI)) (λxs=>xs) (λxs=>[xs.length<=KS])) (conR_ok cI_ok)
abbrev ndl_G:Type:=List Nd×Int×Int
noncomputable def ndl_LP:LP 1 ndl_G:=.pair (.row 1 0 109 eD) (.pair (.slot 1 7 dI) (.slot 1 8 dI))
noncomputable def ndl_R(xs:List Nd)(n:Int)(i:Int):Ex×ndl_G:=
 bif decide (i<n)then(Ex.normal,(eD.ag xs).set i.toNat (Nd.mk (xs.getD i.toNat eD.dflt).id (xs.getD i.toNat eD.dflt).kind (eI.ag (eI.ag (xs.getD i.toNat eD.dflt).ins)) (xs.getD i.toNat eD.dflt).fn (xs.getD i.toNat eD.dflt).name (xs.getD i.toNat eD.dflt).cap (xs.getD i.toNat eD.dflt).d),n,IntKind.i64.wrap (i+(1:Int)))
 else(Ex.exit (0:Nat),eD.ag xs,n,i)
def ndl_side(xs:List Nd)(n:Int)(i:Int):Prop:=
 (decide (i<n)=true->((0:Int)<=i/\i<(↑xs.length:Int))/\i.toNat<xs.length/\eI.okL (xs.getD i.toNat eD.dflt).ins/\(eI.ag (xs.getD i.toNat eD.dflt).ins).length<=KS/\((0:Int)<=i/\i<(↑xs.length:Int))/\i.toNat<xs.length/\xs.length<=xs.length/\(∀(p:Prop),p∈[]++([]++([eI.okL (eI.ag (xs.getD i.toNat eD.dflt).ins)]++([]++([]++[])++([]++([]++[])))))->p)/\∀(e:Nat),e<xs.length->∀(p:Prop),p∈[]++([]++([eI.okL (xs.getD e eD.dflt).ins]++([]++([]++[])++([]++([]++[])))))->p)/\(decide (i<n)=false->xs.length<=xs.length/\∀(e:Nat),e<xs.length->∀(p:Prop),p∈[]++([]++([eI.okL (xs.getD e eD.dflt).ins]++([]++([]++[])++([]++([]++[])))))->p)
theorem ndl_one:((loopsOf Tryd.prog 78).filter λc=>Nat.beq (lkey c) 3).length=1:=by kernel_rfl
theorem ndl_es(g:ndl_G):(ndl_R g.1 g.2.1 g.2.2).1=.normal\/(ndl_R g.1 g.2.1 g.2.2).1∈([.exit 0]:List Ex):=by
 unfold ndl_R
 repeat' (first|(left;rfl)|(right;simp only[cond_true,cond_false];simp;done)|(rw[Bool.cond_eq_ite];split))
noncomputable abbrev ndl_C(Inv:ndl_G->List Prop)(m:ndl_G->Nat):LCon:=loopR [.exit 0] (loopBody Tryd.prog 78 3) ndl_LP [] 23 Inv (λg=>ndl_R g.1 g.2.1 g.2.2) m
theorem ndl_loop(Inv:ndl_G->List Prop)(m:ndl_G->Nat)(hs:∀g,allP (Inv g)->ndl_side g.1 g.2.1 g.2.2)(hg:Goes (λg:ndl_G=>ndl_R g.1 g.2.1 g.2.2) m λg=>allP (Inv g)):∀b∈loopsOf Tryd.prog 78,lkey b=3->LoopOk Tryd.prog b (ndl_C Inv m).g:=loop_run (Γ:=(PTab.gamz tabH3 [] [])) (Λ:=noΛ) (PTab.okz tabH3 [] []) noΛ_ok 100 78 3 23 ndl_LP [] Inv (λg=>ndl_R g.1 g.2.1 g.2.2) (λg=>ndl_side g.1 g.2.1 g.2.2) m default [.exit 0] ndl_one (λrd T B HL HB ds g=>by kernel_rfl) (λrd T B HL HB ds g=>by kernel_rfl) hs hg ndl_es
end Go.Proofs.YtfkdbifgppfegaaDoor

namespace Go.Proofs.YtfkdbifgppfegaaDoor
open Go.RowKit Go.Sx Go.Lp
set_option maxRecDepth 100000
theorem scan_norm{α β:Type}{x:Nat}{st:β->Int->α->Ex×β}(h:∀b i v,st b i v=(.normal,b)):∀(l:List α)(i:Int)(b:β),scan x st i l b=(.exit x,i+(l.length:Int),b)
 | [],i,b=>by simp[scan]
 |a::l,i,b=>by
  simp only[scan,h];rw[scan_norm h l (i+1) b];simp;omega
theorem set_self{α:Type}(d:α)(xs:List α)(n:Nat)(h:n<xs.length):xs.set n (xs.getD n d)=xs:=by
 rw[List.getD_eq_getElem?_getD,List.getElem?_eq_getElem h];exact List.set_getElem_self h
abbrev ndl_gc:Type:=List Nd×Int
def ndl_ff(g:ndl_G):Int×ndl_gc×Unit:=(g.2.2,(g.1,g.2.1),())
def ndl_gg(d:Int×ndl_gc×Unit):ndl_G:=(d.2.1.1,d.2.1.2,d.1)
def ndl_S(_:ndl_gc)(b:Unit)(_:Int)(_:Nd):Ex×Unit:=(.normal,b)
def ndl_K(c:ndl_gc)(_:Unit)(_:Int):Prop:=∀e:Nat,(c.1.getD e eD.dflt).ins.length<=KS
abbrev ndl_I(g:ndl_G):List Prop:=ixI (λc:ndl_gc=>c.2) (λc:ndl_gc=>c.1) ndl_K (ndl_ff g)
abbrev ndl_M(g:ndl_G):Nat:=ixM (λc:ndl_gc=>c.2) (ndl_ff g)
theorem ndl_P:ixP ndl_S (λc:ndl_gc=>c.1) ndl_K:=λ_ _ _ _ h _ _=>h
noncomputable abbrev ndl_RR(g:ndl_G):Ex×ndl_G:=ndl_R g.1 g.2.1 g.2.2
theorem nd_eta(x:Nd):Nd.mk x.id x.kind x.ins x.fn x.name x.cap x.d=x:=rfl
theorem ndl_RF(d:Int×ndl_gc×Unit)(hi:allP (ixI (λc:ndl_gc=>c.2) (λc:ndl_gc=>c.1) ndl_K d)):ndl_RR (ndl_gg d)=((ixF 0 (λc:ndl_gc=>c.2) (λc:ndl_gc=>c.1) eD.dflt ndl_S d).1,ndl_gg (ixF 0 (λc:ndl_gc=>c.2) (λc:ndl_gc=>c.1) eD.dflt ndl_S d).2):=by
 obtain⟨i,⟨xs,n⟩,⟨⟩⟩:=d;obtain⟨h1,h2,h3,h4,h5⟩:=hi _ (List.mem_cons_self ..);have h1:n=(xs.length:Int):=h1;have h3:0<=i:=h3;show ndl_R xs n i=_;unfold ndl_R ixF ndl_S;simp only[El.ag_eq,nd_eta];cases hc:decide (i<n)with
 |false=>rfl
 |true=>
  have hc:=of_decide_eq_true hc;rw[set_self eD.dflt xs i.toNat (by omega)];rfl
theorem ndl_ok:∀b∈loopsOf Tryd.prog 78,lkey b=3->LoopOk Tryd.prog b (ndl_C ndl_I ndl_M).g:=by
 refine ndl_loop ndl_I ndl_M (λg hi=>?_) (ix_conj_goes (φ:=ndl_ff) (ψ:=ndl_gg) (λ_=>rfl) (λ_=>rfl) ndl_RF ndl_P);obtain⟨xs,n,i⟩:=g;obtain⟨h1,h2,h3,h4,h5⟩:=hi _ (List.mem_cons_self ..);have h1:n=(xs.length:Int):=h1;have h3:0<=i:=h3;have h5:∀e:Nat,(xs.getD e eD.dflt).ins.length<=KS:=h5;show ndl_side xs n i;unfold ndl_side;simp only[El.okL_eq,El.ag_eq,List.nil_append,List.append_nil,List.mem_singleton];refine⟨λhlt=>?_,λ_=>⟨Nat.le_refl _,λe _ p hp=>by rw[hp];trivial⟩⟩;have hlt:=of_decide_eq_true hlt;exact⟨⟨h3,by omega⟩,by omega,trivial,h5 _,⟨h3,by omega⟩,by omega,Nat.le_refl _,λp hp=>by rw[hp];trivial,λe _ p hp=>by rw[hp];trivial⟩
theorem ndl_run(xs:List Nd)(hl:xs.length<=maxLen)(hK:∀e:Nat,(xs.getD e eD.dflt).ins.length<=KS):loopF ndl_RR ndl_M (xs,(xs.length:Int),0)=(.exit 0,xs,(xs.length:Int),(xs.length:Int)):=by
 have h:=ix_conj_run (φ:=ndl_ff) (ψ:=ndl_gg) (λ_=>rfl) (λ_=>rfl) ndl_RF ndl_P (xs,(xs.length:Int)) () rfl hl hK;rw[scan_norm (st:=ndl_S (xs,(xs.length:Int))) (λ_ _ _=>rfl)]at h;simp only[Int.zero_add]at h;exact h
noncomputable def ltH4:LTab Tryd.prog:=LTab.nil.cons 78 3 (ndl_C ndl_I ndl_M) ndl_ok
noncomputable abbrev lamH4:Lam:=ltH4.lam
theorem lamH4_ok:∀f k L,lamH4 f k=some L->∀b∈loopsOf Tryd.prog f,lkey b=k->LoopOk Tryd.prog b L.g:=ltH4.ok
noncomputable def tabH4:MTab Tryd.prog:=(MTab.of tabH3).consM 100 (bconRow 109 eD (.one dLD) (λl=>l) (λl=>[l.length<=KS])) (conRow_ok cD_row)
end Go.Proofs.YtfkdbifgppfegaaDoor

namespace Go.Proofs.YtfkdbifgppfegaaDoor
open Go.RowKit Go.Sx
set_option maxRecDepth 100000
noncomputable def nds_q1(xs:List Nd):Ex×
 ndl_G:=
 loopF (λg=>ndl_R g.fst g.snd.fst g.snd.snd) ndl_M (eD.ag (eD.ag xs),(↑(eD.ag xs).length:Int),(0:Int))
noncomputable def nds_F(xs:List Nd):Rv.T (.list eD):=
 eD.ag (nds_q1 xs).snd.fst
def nds_side(xs:List Nd):Prop:=
 eD.okL xs/\(eD.ag xs).length<=KS/\(eD.ag xs).length<=(eD.ag xs).length/\(∀(e:Nat),e<(eD.ag xs).length->∀(p:Prop),p∈[]++([]++([eI.okL ((eD.ag xs).getD e eD.dflt).ins]++([]++([]++[])++([]++([]++[])))))->p)/\Lp.ixJ (λc=>c.snd) (λc=>c.fst) ndl_K (ndl_ff (eD.ag (eD.ag xs),(↑(eD.ag xs).length:Int),(0:Int)))/\(nds_q1 xs).snd.fst.length<=(nds_q1 xs).snd.fst.length/\∀(e:Nat),e<(nds_q1 xs).snd.fst.length->∀(p:Prop),p∈[]++([]++([eI.okL ((nds_q1 xs).snd.fst.getD e eD.dflt).ins]++([]++([]++[])++([]++([]++[])))))->p
theorem nds_okS(pre:DA.T (.one dLD)->List Prop)(h:∀g,DA.bd (.one dLD) g->(∀p∈pre g,p)->nds_side g):FnPure Tryd.prog 78 (.one dLD) (Rv.D (.list eD)) (λg=>nds_F g) pre:=res_of_side (R:=(.list eD)) (Γ:=(MTab.gamz tabH4 [] [])) (Λ:=lamH4) (MTab.okz tabH4 [] []) lamH4_ok 100 default (λg=>nds_side g) (λg=>by kernel_rfl) (λg=>by kernel_rfl) h
end Go.Proofs.YtfkdbifgppfegaaDoor

namespace Go.Proofs.YtfkdbifgppfegaaDoor
open Go.RowKit Go.Sx Go.Lp
def fewN(xs:List Nd):Prop:=xs.length<=KS/\∀x∈xs,x.ins.length<=KS
def fewD(d:Dl):Prop:=d.drop.length<=KS/\fewN d.put/\d.moves.length<=KS
def fewM(m:Ms):Prop:=m.recs.length<=KS/\m.changes.length<=KS/\m.ents.length<=KS/\fewD m.dl
theorem fewN_at{xs:List Nd}(h:fewN xs)(e:Nat):(xs.getD e eD.dflt).ins.length<=KS:=by
 by_cases he:e<xs.length
 .rw[List.getD_eq_getElem?_getD,List.getElem?_eq_getElem he];exact h.2 _ (List.getElem_mem he)
 .rw[List.getD_eq_getElem?_getD,List.getElem?_eq_none (by omega)];exact Nat.zero_le _
theorem le_max{n:Nat}(h:n<=KS):n<=maxLen:=Nat.le_trans h (by decide)
theorem nds_ok:FnPure Tryd.prog 78 (.one dLD) (Rv.D (.list eD)) (λxs=>xs) (λxs=>[fewN xs]):=by
 refine pure_congr (nds_okS _ λxs _ hp=>?_) λxs _ hp=>?_
 all_goals have h:fewN xs:=hp _ (List.mem_cons_self ..)
 .unfold nds_side;simp only[El.okL_eq,El.ag_eq,List.nil_append,List.append_nil,List.mem_singleton,Nat.le_refl,true_and];exact⟨h.1,λe _ p hp=>by(rw[hp];try trivial),ixJ0 rfl (le_max h.1) (fewN_at h),λe _ p hp=>by(rw[hp];try trivial)⟩
 .show nds_F xs=xs
  have hq:nds_q1 xs=loopF ndl_RR ndl_M (xs,(xs.length:Int),0):=by
   unfold nds_q1;simp only[El.ag_eq]
  unfold nds_F;rw[hq,ndl_run xs (le_max h.1) (fewN_at h),El.ag_eq]
noncomputable def tabH6:PTab Tryd.prog:=((((((tab0.cons 75 (pconR (.one dLR) (Rv.D (.list eR)) (λxs=>xs) (λxs=>[xs.length<=KS])) (conR_ok cR_ok)).cons 76 (pconR (.one dLC) (Rv.D (.list eC)) (λxs=>xs) (λxs=>[xs.length<=KS])) (conR_ok cC_ok)).cons
 74 (pconR (.one dLN) (Rv.D (.list eN)) (λxs=>xs) (λxs=>[xs.length<=KS])) (conR_ok cN_ok)).cons 77 (pconR (.one dLI) (Rv.D (.list eI)) (λxs=>xs) (λxs=>[xs.length<=KS])) (conR_ok cI_ok)).cons
 79 (pconR (.one dLV) (Rv.D (.list eV)) (λxs=>xs) (λxs=>[xs.length<=KS])) (conR_ok cV_ok)).cons 78 (pconR (.one dLD) (Rv.D (.list eD)) (λxs=>xs) (λxs=>[fewN xs])) (conR_ok nds_ok))
end Go.Proofs.YtfkdbifgppfegaaDoor

namespace Go.Proofs.YtfkdbifgppfegaaDoor
open Go.RowKit Go.Sx
set_option maxRecDepth 100000
abbrev Mk1:Type:=(Int×Int×Place×T)×List Rec×List Change×List Int×List Nd×List Mv×Int×List Ent×(Bool×Int)
noncomputable abbrev ctMs:CT Mk1:=.pair (.pl (.pair eI (.pair eI (.pair eP eT)))) (.pair (.row 118 eR) (.pair (.row 121 eC) (.pair (.row 3 eI) (.pair (.pl eLD) (.pair (.row 107 eV) (.pair (.pl eI) (.pair (.row 73 eN) (.pl (.pair eBool eI)))))))))
abbrev rcl_G:Type:=Unit×Mk1×List Nd×Int
noncomputable def rcl_LP:LP 7 rcl_G:=.pair (.fix 7 1 (.p 0 0)) (.pair (.ctO 7 0 45 ctMs) (.pair (.row 7 3 109 eD) (.slot 7 4 dI)))
noncomputable def rcl_R(_u:Unit)(k:Mk1)(o:List Nd)(i:Int):Ex×rcl_G:=
 bif decide (i<(↑k.snd.snd.snd.snd.fst.length:Int))then(Ex.normal,(),(k.fst,eR.ag k.snd.fst,eC.ag k.snd.snd.fst,eI.ag k.snd.snd.snd.fst,eD.ag k.snd.snd.snd.snd.fst,eV.ag k.snd.snd.snd.snd.snd.fst,k.snd.snd.snd.snd.snd.snd.fst,eN.ag k.snd.snd.snd.snd.snd.snd.snd.fst,k.snd.snd.snd.snd.snd.snd.snd.snd),eD.lst (min (o.length+(1:Nat)) o.length) (eD.els o)++List.map (λx=>Nd.mk (k.snd.snd.snd.snd.fst.getD i.toNat eD.dflt).id (k.snd.snd.snd.snd.fst.getD i.toNat eD.dflt).kind (eI.lst ((0:Nat)+(k.snd.snd.snd.snd.fst.getD i.toNat eD.dflt).ins.length) (ElE.app (0:Nat) (ElE.fn λx=>[]) (ElE.fn (eI.els (k.snd.snd.snd.snd.fst.getD i.toNat eD.dflt).ins))).at) (k.snd.snd.snd.snd.fst.getD i.toNat eD.dflt).fn (k.snd.snd.snd.snd.fst.getD i.toNat eD.dflt).name (k.snd.snd.snd.snd.fst.getD i.toNat eD.dflt).cap (k.snd.snd.snd.snd.fst.getD i.toNat eD.dflt).d) (List.range (o.length+(1:Nat)-o.length)),IntKind.i64.wrap (i+(1:Int)))
 else(Ex.exit (0:Nat),(),(k.fst,eR.ag k.snd.fst,eC.ag k.snd.snd.fst,eI.ag k.snd.snd.snd.fst,eD.ag k.snd.snd.snd.snd.fst,eV.ag k.snd.snd.snd.snd.snd.fst,k.snd.snd.snd.snd.snd.snd.fst,eN.ag k.snd.snd.snd.snd.snd.snd.snd.fst,k.snd.snd.snd.snd.snd.snd.snd.snd),eD.ag o,i)
def rcl_side(_u:Unit)(k:Mk1)(o:List Nd)(i:Int):Prop:=
 (decide (i<(↑k.snd.snd.snd.snd.fst.length:Int))=true->((0:Int)<=i/\i<(↑k.snd.snd.snd.snd.fst.length:Int))/\(True/\(∀(e:Nat),e<(k.snd.snd.snd.snd.fst.getD i.toNat eD.dflt).ins.length->(eI.els (k.snd.snd.snd.snd.fst.getD i.toNat eD.dflt).ins e).all SV.one=true)/\(0:Nat)+(k.snd.snd.snd.snd.fst.getD i.toNat eD.dflt).ins.length<=maxLen/\((0:Nat)+(k.snd.snd.snd.snd.fst.getD i.toNat eD.dflt).ins.length)*Tryd.prog.types[(3:Nat)].bytes<=(140737488355328:Nat))/\(0:Nat)+(k.snd.snd.snd.snd.fst.getD i.toNat eD.dflt).ins.length<=(0:Nat)+(k.snd.snd.snd.snd.fst.getD i.toNat eD.dflt).ins.length/\(o.length<=o.length/\True/\o.length+(1:Nat)<=maxLen/\(o.length+(1:Nat))*Tryd.prog.types[(109:Nat)].bytes<=(140737488355328:Nat))/\k.snd.fst.length<=k.snd.fst.length/\(∀(e:Nat),e<k.snd.fst.length->True)/\k.snd.snd.fst.length<=k.snd.snd.fst.length/\(∀(e:Nat),e<k.snd.snd.fst.length->True)/\k.snd.snd.snd.fst.length<=k.snd.snd.snd.fst.length/\(∀(e:Nat),e<k.snd.snd.snd.fst.length->True)/\eD.okL k.snd.snd.snd.snd.fst/\k.snd.snd.snd.snd.snd.fst.length<=k.snd.snd.snd.snd.snd.fst.length/\(∀(e:Nat),e<k.snd.snd.snd.snd.snd.fst.length->True)/\k.snd.snd.snd.snd.snd.snd.snd.fst.length<=k.snd.snd.snd.snd.snd.snd.snd.fst.length/\(∀(e:Nat),e<k.snd.snd.snd.snd.snd.snd.snd.fst.length->True)/\o.length+(1:Nat)<=o.length+(1:Nat)/\(∀(e:Nat),e<min (o.length+(1:Nat)) o.length->∀(p:Prop),p∈[]++([]++([eI.okL (o.getD e eD.dflt).ins]++([]++([]++[])++([]++([]++[])))))->p)/\∀(e:Nat),e<o.length+(1:Nat)-o.length->∀(p:Prop),p∈[]++([]++([∀(e:Nat),e<(0:Nat)+(k.snd.snd.snd.snd.fst.getD i.toNat eD.dflt).ins.length->eI.Ok ((ElE.app (0:Nat) (ElE.fn λx=>[]) (ElE.fn (eI.els (k.snd.snd.snd.snd.fst.getD i.toNat eD.dflt).ins))).at e)]++([]++([]++[])++([]++([]++[])))))->p)/\(decide (i<(↑k.snd.snd.snd.snd.fst.length:Int))=false->k.snd.fst.length<=k.snd.fst.length/\(∀(e:Nat),e<k.snd.fst.length->True)/\k.snd.snd.fst.length<=k.snd.snd.fst.length/\(∀(e:Nat),e<k.snd.snd.fst.length->True)/\k.snd.snd.snd.fst.length<=k.snd.snd.snd.fst.length/\(∀(e:Nat),e<k.snd.snd.snd.fst.length->True)/\eD.okL k.snd.snd.snd.snd.fst/\k.snd.snd.snd.snd.snd.fst.length<=k.snd.snd.snd.snd.snd.fst.length/\(∀(e:Nat),e<k.snd.snd.snd.snd.snd.fst.length->True)/\k.snd.snd.snd.snd.snd.snd.snd.fst.length<=k.snd.snd.snd.snd.snd.snd.snd.fst.length/\(∀(e:Nat),e<k.snd.snd.snd.snd.snd.snd.snd.fst.length->True)/\o.length<=o.length/\∀(e:Nat),e<o.length->∀(p:Prop),p∈[]++([]++([eI.okL (o.getD e eD.dflt).ins]++([]++([]++[])++([]++([]++[])))))->p)
theorem rcl_one:((loopsOf Tryd.prog 67).filter λc=>Nat.beq (lkey c) 8).length=1:=by kernel_rfl
theorem rcl_es(g:rcl_G):(rcl_R g.1 g.2.1 g.2.2.1 g.2.2.2).1=.normal\/(rcl_R g.1 g.2.1 g.2.2.1 g.2.2.2).1∈([.exit 0]:List Ex):=by
 unfold rcl_R
 repeat' (first|(left;rfl)|(right;simp only[cond_true,cond_false];simp;done)|(rw[Bool.cond_eq_ite];split))
noncomputable abbrev rcl_C(Inv:rcl_G->List Prop)(m:rcl_G->Nat):LCon:=loopR [.exit 0] (loopBody Tryd.prog 67 8) rcl_LP [] 56 Inv (λg=>rcl_R g.1 g.2.1 g.2.2.1 g.2.2.2) m
theorem rcl_loop(Inv:rcl_G->List Prop)(m:rcl_G->Nat)(hs:∀g,allP (Inv g)->rcl_side g.1 g.2.1 g.2.2.1 g.2.2.2)(hg:Goes (λg:rcl_G=>rcl_R g.1 g.2.1 g.2.2.1 g.2.2.2) m λg=>allP (Inv g)):∀b∈loopsOf Tryd.prog 67,lkey b=8->LoopOk Tryd.prog b (rcl_C Inv m).g:=loop_run (Γ:=(PTab.gamz tab0 [] [])) (Λ:=noΛ) (PTab.okz tab0 [] []) noΛ_ok 100 67 8 56 rcl_LP [] Inv (λg=>rcl_R g.1 g.2.1 g.2.2.1 g.2.2.2) (λg=>rcl_side g.1 g.2.1 g.2.2.1 g.2.2.2) m default [.exit 0] rcl_one (λrd T B HL HB ds g=>by kernel_rfl) (λrd T B HL HB ds g=>by kernel_rfl) hs hg rcl_es
end Go.Proofs.YtfkdbifgppfegaaDoor

namespace Go.Proofs.YtfkdbifgppfegaaDoor
open Go.RowKit Go.Sx Go.Lp
set_option maxRecDepth 100000
theorem app0(a b:ElE):(ElE.app (0:Nat) a b).at=b.at:=by
 funext k;show(if k<0 then a.at k else b.at (k-0))=_;rw[if_neg (by omega),Nat.sub_zero]
theorem byD(h:109<Tryd.prog.types.size):(Tryd.prog.types[(109:Nat)]'h).bytes=104:=by kernel_rfl
theorem byI(h:3<Tryd.prog.types.size):(Tryd.prog.types[(3:Nat)]'h).bytes=8:=by kernel_rfl
def rcl_f(g:rcl_G):Int×Mk1×(List Nd×Unit):=(g.2.2.2,g.2.1,(g.2.2.1,g.1))
def rcl_g(d:Int×Mk1×(List Nd×Unit)):rcl_G:=(d.2.2.2,d.2.1,d.2.2.1,d.1)
def rcl_S(_:Mk1)(b:List Nd×Unit)(_:Int)(v:Nd):Ex×(List Nd×Unit):=(.normal,(b.1++[v],b.2))
def rcl_K(c:Mk1)(b:List Nd×Unit)(i:Int):Prop:=(b.1.length:Int)<=i/\c.2.2.2.2.1.length<=KS/\∀e:Nat,(c.2.2.2.2.1.getD e eD.dflt).ins.length<=KS
abbrev rcl_xs(c:Mk1):List Nd:=c.2.2.2.2.1
abbrev rcl_lim(c:Mk1):Int:=(c.2.2.2.2.1.length:Int)
abbrev rcl_I(g:rcl_G):List Prop:=ixI rcl_lim rcl_xs rcl_K (rcl_f g)
abbrev rcl_M(g:rcl_G):Nat:=ixM rcl_lim (rcl_f g)
theorem rcl_P:ixP rcl_S rcl_xs rcl_K:=λc b i a h _ _=>⟨by
 have:=h.1;show((b.1++[a]).length:Int)<=_;simp only[List.length_append,List.length_cons,List.length_nil];omega,h.2⟩
noncomputable abbrev rcl_RR(g:rcl_G):Ex×rcl_G:=rcl_R g.1 g.2.1 g.2.2.1 g.2.2.2
theorem cl0(l:List Int):eI.lst ((0:Nat)+l.length) (ElE.app (0:Nat) (ElE.fn λ_=>[]) (ElE.fn (eI.els l))).at=l:=by
 rw[app0,Nat.zero_add];exact eI.lst_els l
theorem rcl_RF(d:Int×Mk1×(List Nd×Unit))(hi:allP (ixI rcl_lim rcl_xs rcl_K d)):rcl_RR (rcl_g d)=((ixF 0 rcl_lim rcl_xs eD.dflt rcl_S d).1,rcl_g (ixF 0 rcl_lim rcl_xs eD.dflt rcl_S d).2):=by
 obtain⟨i,k,⟨o,⟨⟩⟩⟩:=d;show rcl_R () k o i=_;unfold rcl_R ixF rcl_S;simp only[El.ag_eq,cl0,lst_app1];cases hc:decide (i<(k.2.2.2.2.1.length:Int))<;>rfl
theorem rcl_ok:∀b∈loopsOf Tryd.prog 67,lkey b=8->LoopOk Tryd.prog b (rcl_C rcl_I rcl_M).g:=by
 refine rcl_loop rcl_I rcl_M (λg hi=>?_) (ix_conj_goes (φ:=rcl_f) (ψ:=rcl_g) (λ_=>rfl) (λ_=>rfl) rcl_RF rcl_P);obtain⟨⟨⟩,k,o,i⟩:=g;obtain⟨h1,h2,h3,h4,h5,h6,h7⟩:=hi _ (List.mem_cons_self ..);have h3:0<=i:=h3;have h4:i<=(k.2.2.2.2.1.length:Int):=h4;have h5:(o.length:Int)<=i:=h5;have h6:k.2.2.2.2.1.length<=KS:=h6;have h7:(k.2.2.2.2.1.getD i.toNat eD.dflt).ins.length<=KS:=h7 _;show rcl_side () k o i;unfold rcl_side;unfold KS at h6 h7
 have hO:(∀e,e<o.length->∀p,p∈[]++([]++([True]++([]++([]++[])++([]++([]++[])))))->p):=λe _ p hp=>by
  simp only[List.nil_append,List.append_nil,List.mem_singleton]at hp;rw[hp];trivial
 simp only[byD,byI]
 have hN:∀p,p∈[]++([]++([∀(e:Nat),e<(0:Nat)+(k.2.2.2.2.1.getD i.toNat eD.dflt).ins.length->eI.Ok ((ElE.app (0:Nat) (ElE.fn λ_=>[]) (ElE.fn (eI.els (k.2.2.2.2.1.getD i.toNat eD.dflt).ins))).at e)]++([]++([]++[])++([]++([]++[])))))->p:=λp hp=>by
  simp only[List.nil_append,List.append_nil,List.mem_singleton]at hp;rw[hp];intro e _;rw[app0];exact El.ok_els _ _ _
 simp only[El.okL_eq,Nat.le_refl,implies_true,true_and];refine⟨λhlt=>?_,λ_=>?_⟩
 .have hlt:=of_decide_eq_true hlt;refine⟨⟨h3,hlt⟩,⟨λe _=>eI.one_els _ e,by unfold maxLen;omega,by omega⟩,⟨by unfold maxLen;omega,by omega⟩,?_⟩;refine⟨λe he=>hO e (by omega),λe _ p hp=>?_⟩;exact hN p hp
 .exact hO
theorem rcl_run(k:Mk1)(hl:k.2.2.2.2.1.length<=KS)(hK:∀e:Nat,(k.2.2.2.2.1.getD e eD.dflt).ins.length<=KS):loopF rcl_RR rcl_M ((),k,[],0)=(.exit 0,(),k,k.2.2.2.2.1,(k.2.2.2.2.1.length:Int)):=by
 have h:=ix_conj_run (φ:=rcl_f) (ψ:=rcl_g) (λ_=>rfl) (λ_=>rfl) rcl_RF rcl_P k ([],()) rfl (Nat.le_trans hl (by decide)) ⟨Int.le_refl _,hl,hK⟩;rw[scan_fold (st:=rcl_S k) (f:=λb a=>(b.1++[a],b.2)) (λ_ _ _=>rfl)]at h
 have key:∀(l:List Nd)(o:List Nd),List.foldl (λ(b:List Nd×Unit)a=>(b.1++[a],b.2)) (o,()) l=(o++l,()):=by
  intro l
  induction l with
  |nil=>intro o;simp
  |cons a l ih=>intro o;rw[List.foldl_cons,ih];simp
 rw[key]at h;simp only[Int.zero_add,List.nil_append]at h;exact h
noncomputable def ltH9:LTab Tryd.prog:=LTab.nil.cons 67 8 (rcl_C rcl_I rcl_M) rcl_ok
noncomputable abbrev lamH9:Lam:=ltH9.lam
theorem lamH9_ok:∀f k L,lamH9 f k=some L->∀b∈loopsOf Tryd.prog f,lkey b=k->LoopOk Tryd.prog b L.g:=ltH9.ok
end Go.Proofs.YtfkdbifgppfegaaDoor

namespace Go.Proofs.YtfkdbifgppfegaaDoor
open Go.RowKit Go.Sx
set_option maxRecDepth 100000
noncomputable abbrev rvDl:RvE Dl:=.iso (.pair (.list eI) (.pair (.list eD) (.list eV))) Dl.ofP Dl.toP (λ_=>rfl) (λ_=>rfl)
noncomputable abbrev rvMs:RvE Ms:=.iso (.pair (.pl eI) (.pair (.pl eI) (.pair (.pl eP) (.pair (.pl eT) (.pair (.list eR) (.pair (.list eC) (.pair rvDl (.pair (.pl eI) (.pair (.list eN) (.pair (.pl eBool) (.pl eI))))))))))) Ms.ofP Ms.toP (λ_=>rfl) (λ_=>rfl)
noncomputable abbrev rMs:Rv Ms:=.agg rvMs
noncomputable def rmc_q1(m:Ms):Ex×
 rcl_G:=
 loopF (λg=>rcl_R g.fst g.snd.fst g.snd.snd.fst g.snd.snd.snd) rcl_M ((),((m.kind,m.ver,m.p,m.t),List.map (λx=>eR.get []) (List.range (min ((0:Nat)+m.recs.length) (0:Nat)))++eR.lst ((0:Nat)+m.recs.length-(0:Nat)) (eR.els m.recs),List.map (λx=>eC.get []) (List.range (min ((0:Nat)+m.changes.length) (0:Nat)))++eC.lst ((0:Nat)+m.changes.length-(0:Nat)) (eC.els m.changes),List.map (λx=>eI.get []) (List.range (min ((0:Nat)+m.dl.drop.length) (0:Nat)))++eI.lst ((0:Nat)+m.dl.drop.length-(0:Nat)) (eI.els m.dl.drop),eD.ag m.dl.put,List.map (λx=>eV.get []) (List.range (min ((0:Nat)+m.dl.moves.length) (0:Nat)))++eV.lst ((0:Nat)+m.dl.moves.length-(0:Nat)) (eV.els m.dl.moves),m.cut,List.map (λx=>eN.get []) (List.range (min ((0:Nat)+m.ents.length) (0:Nat)))++eN.lst ((0:Nat)+m.ents.length-(0:Nat)) (eN.els m.ents),m.yes,m.why),[],(0:Int))
noncomputable def rmc_F(m:Ms):Rv.T rMs:=
 Ms.mk (rmc_q1 m).snd.snd.fst.fst.fst (rmc_q1 m).snd.snd.fst.fst.snd.fst (rmc_q1 m).snd.snd.fst.fst.snd.snd.fst (rmc_q1 m).snd.snd.fst.fst.snd.snd.snd (eR.ag (rmc_q1 m).snd.snd.fst.snd.fst) (eC.ag (rmc_q1 m).snd.snd.fst.snd.snd.fst) (Dl.mk (eI.ag (rmc_q1 m).snd.snd.fst.snd.snd.snd.fst) (eD.ag (rmc_q1 m).snd.snd.snd.fst) (eV.ag (rmc_q1 m).snd.snd.fst.snd.snd.snd.snd.snd.fst)) (rmc_q1 m).snd.snd.fst.snd.snd.snd.snd.snd.snd.fst (eN.ag (rmc_q1 m).snd.snd.fst.snd.snd.snd.snd.snd.snd.snd.fst) (rmc_q1 m).snd.snd.fst.snd.snd.snd.snd.snd.snd.snd.snd.fst (rmc_q1 m).snd.snd.fst.snd.snd.snd.snd.snd.snd.snd.snd.snd
def rmc_side(m:Ms):Prop:=
 (True/\(∀(e:Nat),e<m.recs.length->(eR.els m.recs e).all SV.one=true)/\(0:Nat)+m.recs.length<=maxLen/\((0:Nat)+m.recs.length)*Tryd.prog.types[(118:Nat)].bytes<=(140737488355328:Nat))/\(True/\(∀(e:Nat),e<m.changes.length->(eC.els m.changes e).all SV.one=true)/\(0:Nat)+m.changes.length<=maxLen/\((0:Nat)+m.changes.length)*Tryd.prog.types[(121:Nat)].bytes<=(140737488355328:Nat))/\(True/\(∀(e:Nat),e<m.ents.length->(eN.els m.ents e).all SV.one=true)/\(0:Nat)+m.ents.length<=maxLen/\((0:Nat)+m.ents.length)*Tryd.prog.types[(73:Nat)].bytes<=(140737488355328:Nat))/\(True/\(∀(e:Nat),e<m.dl.drop.length->(eI.els m.dl.drop e).all SV.one=true)/\(0:Nat)+m.dl.drop.length<=maxLen/\((0:Nat)+m.dl.drop.length)*Tryd.prog.types[(3:Nat)].bytes<=(140737488355328:Nat))/\(True/\(∀(e:Nat),e<m.dl.moves.length->(eV.els m.dl.moves e).all SV.one=true)/\(0:Nat)+m.dl.moves.length<=maxLen/\((0:Nat)+m.dl.moves.length)*Tryd.prog.types[(107:Nat)].bytes<=(140737488355328:Nat))/\(0:Nat)+m.recs.length<=(0:Nat)+m.recs.length/\(∀(e:Nat),e<min ((0:Nat)+m.recs.length) (0:Nat)->eR.OkP [])/\(∀(e:Nat),e<(0:Nat)+m.recs.length-(0:Nat)->True)/\(0:Nat)+m.changes.length<=(0:Nat)+m.changes.length/\(∀(e:Nat),e<min ((0:Nat)+m.changes.length) (0:Nat)->eC.OkP [])/\(∀(e:Nat),e<(0:Nat)+m.changes.length-(0:Nat)->True)/\(0:Nat)+m.dl.drop.length<=(0:Nat)+m.dl.drop.length/\(∀(e:Nat),e<min ((0:Nat)+m.dl.drop.length) (0:Nat)->eI.OkP [])/\(∀(e:Nat),e<(0:Nat)+m.dl.drop.length-(0:Nat)->True)/\eD.okL m.dl.put/\(0:Nat)+m.dl.moves.length<=(0:Nat)+m.dl.moves.length/\(∀(e:Nat),e<min ((0:Nat)+m.dl.moves.length) (0:Nat)->eV.OkP [])/\(∀(e:Nat),e<(0:Nat)+m.dl.moves.length-(0:Nat)->True)/\(0:Nat)+m.ents.length<=(0:Nat)+m.ents.length/\(∀(e:Nat),e<min ((0:Nat)+m.ents.length) (0:Nat)->eN.OkP [])/\(∀(e:Nat),e<(0:Nat)+m.ents.length-(0:Nat)->True)/\Lp.ixJ rcl_lim rcl_xs rcl_K (rcl_f ((),((m.kind,m.ver,m.p,m.t),List.map (λx=>eR.get []) (List.range (min ((0:Nat)+m.recs.length) (0:Nat)))++eR.lst ((0:Nat)+m.recs.length-(0:Nat)) (eR.els m.recs),List.map (λx=>eC.get []) (List.range (min ((0:Nat)+m.changes.length) (0:Nat)))++eC.lst ((0:Nat)+m.changes.length-(0:Nat)) (eC.els m.changes),List.map (λx=>eI.get []) (List.range (min ((0:Nat)+m.dl.drop.length) (0:Nat)))++eI.lst ((0:Nat)+m.dl.drop.length-(0:Nat)) (eI.els m.dl.drop),eD.ag m.dl.put,List.map (λx=>eV.get []) (List.range (min ((0:Nat)+m.dl.moves.length) (0:Nat)))++eV.lst ((0:Nat)+m.dl.moves.length-(0:Nat)) (eV.els m.dl.moves),m.cut,List.map (λx=>eN.get []) (List.range (min ((0:Nat)+m.ents.length) (0:Nat)))++eN.lst ((0:Nat)+m.ents.length-(0:Nat)) (eN.els m.ents),m.yes,m.why),[],(0:Int)))/\(rmc_q1 m).snd.snd.fst.snd.fst.length<=(rmc_q1 m).snd.snd.fst.snd.fst.length/\(∀(e:Nat),e<(rmc_q1 m).snd.snd.fst.snd.fst.length->True)/\(rmc_q1 m).snd.snd.fst.snd.snd.fst.length<=(rmc_q1 m).snd.snd.fst.snd.snd.fst.length/\(∀(e:Nat),e<(rmc_q1 m).snd.snd.fst.snd.snd.fst.length->True)/\(rmc_q1 m).snd.snd.fst.snd.snd.snd.fst.length<=(rmc_q1 m).snd.snd.fst.snd.snd.snd.fst.length/\(∀(e:Nat),e<(rmc_q1 m).snd.snd.fst.snd.snd.snd.fst.length->True)/\(rmc_q1 m).snd.snd.snd.fst.length<=(rmc_q1 m).snd.snd.snd.fst.length/\(∀(e:Nat),e<(rmc_q1 m).snd.snd.snd.fst.length->∀(p:Prop),p∈[]++([]++([eI.okL ((rmc_q1 m).snd.snd.snd.fst.getD e eD.dflt).ins]++([]++([]++[])++([]++([]++[])))))->p)/\(rmc_q1 m).snd.snd.fst.snd.snd.snd.snd.snd.fst.length<=(rmc_q1 m).snd.snd.fst.snd.snd.snd.snd.snd.fst.length/\(∀(e:Nat),e<(rmc_q1 m).snd.snd.fst.snd.snd.snd.snd.snd.fst.length->True)/\(rmc_q1 m).snd.snd.fst.snd.snd.snd.snd.snd.snd.snd.fst.length<=(rmc_q1 m).snd.snd.fst.snd.snd.snd.snd.snd.snd.snd.fst.length/\∀(e:Nat),e<(rmc_q1 m).snd.snd.fst.snd.snd.snd.snd.snd.snd.snd.fst.length->True
theorem rmc_okS(pre:DA.T aM->List Prop)(h:∀g,DA.bd aM g->(∀p∈pre g,p)->rmc_side g):FnPure Tryd.prog 67 aM (Rv.D rMs) (λg=>rmc_F g) pre:=res_of_side (R:=rMs) (Γ:=(PTab.gamz tab0 [] [])) (Λ:=lamH9) (PTab.okz tab0 [] []) lamH9_ok 100 default (λg=>rmc_side g) (λg=>by kernel_rfl) (λg=>by kernel_rfl) h
end Go.Proofs.YtfkdbifgppfegaaDoor

namespace Go.Proofs.YtfkdbifgppfegaaDoor
open Go.RowKit Go.Sx
set_option maxRecDepth 100000
noncomputable def lcl_F(m:Ms):Dv.T dMs:=
 Ms.mk m.kind m.ver m.p m.t (eR.ag (eR.ag m.recs)) (eC.ag (eC.ag m.changes)) (Dl.mk (eI.ag (eI.ag m.dl.drop)) (eD.ag (eD.ag m.dl.put)) (eV.ag (eV.ag m.dl.moves))) m.cut (eN.ag (eN.ag m.ents)) m.yes m.why
def lcl_side(m:Ms):Prop:=
 eR.okL m.recs/\(eR.ag m.recs).length<=KS/\eC.okL m.changes/\(eC.ag m.changes).length<=KS/\eN.okL m.ents/\(eN.ag m.ents).length<=KS/\eI.okL m.dl.drop/\(eI.ag m.dl.drop).length<=KS/\eD.okL m.dl.put/\fewN (eD.ag m.dl.put)/\eV.okL m.dl.moves/\(eV.ag m.dl.moves).length<=KS/\eR.okL (eR.ag m.recs)/\eC.okL (eC.ag m.changes)/\eI.okL (eI.ag m.dl.drop)/\eD.okL (eD.ag m.dl.put)/\eV.okL (eV.ag m.dl.moves)/\eN.okL (eN.ag m.ents)
theorem lcl_okS(pre:DA.T aM->List Prop)(h:∀g,DA.bd aM g->(∀p∈pre g,p)->lcl_side g):FnPure Tryd.prog 55 aM dMs (λg=>lcl_F g) pre:=pure_of_sideS (Γ:=(PTab.gamz tabH6 [] [])) (Λ:=noΛ) (PTab.okz tabH6 [] []) noΛ_ok 100 default (λg=>lcl_side g) (λg=>by kernel_rfl) (λg=>by kernel_rfl) h
end Go.Proofs.YtfkdbifgppfegaaDoor

namespace Go.Proofs.YtfkdbifgppfegaaDoor
open Go.RowKit Go.Sx Go.Lp
set_option maxRecDepth 100000
theorem lcl_ok:FnPure Tryd.prog 55 aM dMs (λm=>m) (λm=>[fewM m]):=by
 refine pure_congr (lcl_okS _ λm _ hp=>?_) λm _ hp=>?_
 .have h:fewM m:=hp _ (List.mem_cons_self ..);obtain⟨h1,h2,h3,h4,h5,h6⟩:=h;unfold lcl_side;simp only[El.okL_eq,El.ag_eq,true_and,and_true,h1,h2,h3,h4,h5,h6]
 .show lcl_F m=m;unfold lcl_F;simp only[El.ag_eq]
theorem byR(h:118<Tryd.prog.types.size):(Tryd.prog.types[(118:Nat)]'h).bytes=24:=by kernel_rfl
theorem byC(h:121<Tryd.prog.types.size):(Tryd.prog.types[(121:Nat)]'h).bytes=72:=by kernel_rfl
theorem byN(h:73<Tryd.prog.types.size):(Tryd.prog.types[(73:Nat)]'h).bytes=40:=by kernel_rfl
theorem byV(h:107<Tryd.prog.types.size):(Tryd.prog.types[(107:Nat)]'h).bytes=64:=by kernel_rfl
def mkOf(m:Ms):Mk1:=((m.kind,m.ver,m.p,m.t),m.recs,m.changes,m.dl.drop,m.dl.put,m.dl.moves,m.cut,m.ents,(m.yes,m.why))
theorem rmc_ok:FnPure Tryd.prog 67 aM dMs (λm=>m) (λm=>[fewM m]):=by
 have hq:∀m,fewM m->rmc_q1 m=(.exit 0,(),mkOf m,m.dl.put,(m.dl.put.length:Int)):=λm h=>by
  obtain⟨h1,h2,h3,h4,h5,h6⟩:=h;unfold rmc_q1;simp only[clE,El.ag_eq];exact rcl_run (mkOf m) h5.1 (fewN_at h5)
 refine pure_congr (rmc_okS (λm=>[fewM m]) λm _ hp=>?_) λm _ hp=>?_
 all_goals (have h:fewM m:=hp _ (List.mem_cons_self ..);have hq:=hq m h)
 .obtain⟨h1,h2,h3,h4,h5,h6⟩:=h;have hJ:ixJ rcl_lim rcl_xs rcl_K (rcl_f ((),mkOf m,[],0)):=ixJ0 rfl (le_max h5.1) ⟨Int.le_refl _,h5.1,fewN_at h5⟩;unfold KS at h1 h2 h3 h4 h6;unfold rmc_side;simp only[hq,clE,byR,byC,byN,byV,byI,El.okL_eq,El.ag_eq,true_and,and_true,implies_true,Nat.le_refl,El.one_els]
  have k:∀n k:Nat,n<=1000000->k<=72->0+n<=maxLen/\(0+n)*k<=140737488355328:=λn k h hk=>by
   have h1:(0+n)*k<=1000000*72:=Nat.mul_le_mul (by omega) hk;unfold maxLen;omega
  refine⟨k _ _ h1 (by decide),k _ _ h2 (by decide),k _ _ h3 (by decide),k _ _ h4 (by decide),k _ _ h6 (by decide),λe he=>absurd he (by omega),λe he=>absurd he (by omega),λe he=>absurd he (by omega),λe he=>absurd he (by omega),λe he=>absurd he (by omega),hJ,λe _ p hp=>?_⟩;simp only[List.nil_append,List.append_nil,List.mem_singleton]at hp;rw[hp];trivial
 .show rmc_F m=m;unfold rmc_F;simp only[hq,El.ag_eq];rfl
end Go.Proofs.YtfkdbifgppfegaaDoor

namespace Go.Proofs.YtfkdbifgppfegaaDoor
open Go.RowKit Go.Sx Go.Lp
noncomputable def tabJ0p:PTab Tryd.prog:=(tabG8.cons 55 (pconR aM dMs (λm=>m) (λm=>[fewM m])) (conR_ok lcl_ok)).cons 67 (pconR aM dMs (λm=>m) (λm=>[fewM m])) (conR_ok rmc_ok)
noncomputable def tabJ0:MTab Tryd.prog:=((MTab.of tabJ0p).consM 73 (bconRow 4 eBool (.one dLB) (λl=>l) (λl=>[l.length<=KS])) (conRow_ok cB_row)).consM 74 (bconRow 73 eN (.one dLN) (λl=>l) (λl=>[l.length<=KS])) (conRow_ok cN_row)
noncomputable abbrev rvL:RvE Ld:=.iso (.pair (.pl eI) (.pair (.pl eI) (.pair (.pl eI) (.pair (.pl eI) (.pair (.pl eDl) (.pair (.list eBool) (.pair (.pl eBool) (.pair (.pl eI) (.list eN))))))))) Ld.ofP Ld.toP (λ_=>rfl) (λ_=>rfl)
noncomputable abbrev rL:Rv Ld:=.agg rvL
noncomputable abbrev rLE:Rv (Ld×Int):=.tup (.cons rL (.one (.of dI)))
noncomputable abbrev rLME:Rv (Ld×Ms×Int):=.tup (.cons rL (.cons (.of dMs) (.one (.of dI))))
abbrev dLE:Dv (Ld×Int):=.tup (.cons dL (.one dI))
abbrev dLME:Dv (Ld×Ms×Int):=.tup (.cons dL (.cons dMs (.one dI)))
abbrev aLI:DA (Ld×Int):=.cons dL (.one dI)
abbrev aLDI:DA (Ld×Dl×Int):=.cons dL (.cons dDl (.one dI))
abbrev aLIM:DA (Ld×Int×Ms):=.cons dL (.cons dI (.one dMs))
end Go.Proofs.YtfkdbifgppfegaaDoor

namespace Go.Proofs.YtfkdbifgppfegaaDoor
open Go.RowKit Go.Sx
set_option maxRecDepth 100000
noncomputable def lcn_F(l:Ld):Rv.T rL:=
 Ld.mk l.workers l.stage l.ver l.cut (Dl.mk (eI.ag (eI.ag l.dl.drop)) (eD.ag (eD.ag l.dl.put)) (eV.ag (eV.ag l.dl.moves))) (eBool.ag (eBool.ag l.voted)) l.yes l.why (eN.ag (eN.ag l.ents))
def lcn_side(l:Ld):Prop:=
 eI.okL l.dl.drop/\eD.okL l.dl.put/\eV.okL l.dl.moves/\fewM (Ms.mk (0:Int) (0:Int) (Place.mk (0:Int) (0:Int)) (T.mk (0:Int) (0:Int) (0:Int) (0:Int) (0:Int) (0:Int)) [] [] (Dl.mk (eI.ag l.dl.drop) (eD.ag l.dl.put) (eV.ag l.dl.moves)) (0:Int) [] false (0:Int))/\∀(cs:List Nat),(cs.isEmpty=true->eBool.okL l.voted/\(eBool.ag l.voted).length<=KS/\eN.okL l.ents/\(eN.ag l.ents).length<=KS/\eI.okL (eI.ag l.dl.drop)/\eD.okL (eD.ag l.dl.put)/\eV.okL (eV.ag l.dl.moves)/\(eBool.ag l.voted).length<=(eBool.ag l.voted).length/\(∀(e:Nat),e<(eBool.ag l.voted).length->True)/\(eN.ag l.ents).length<=(eN.ag l.ents).length/\(∀(e:Nat),e<(eN.ag l.ents).length->True)/\∀(d:Ld),Ld.mk l.workers l.stage l.ver l.cut (Dl.mk (eI.ag (eI.ag l.dl.drop)) (eD.ag (eD.ag l.dl.put)) (eV.ag (eV.ag l.dl.moves))) (eBool.ag (eBool.ag l.voted)) l.yes l.why (eN.ag (eN.ag l.ents))=Ld.mk l.workers l.stage l.ver l.cut (Dl.mk (eI.ag (eI.ag l.dl.drop)) (eD.ag (eD.ag l.dl.put)) (eV.ag (eV.ag l.dl.moves))) (eBool.ag (eBool.ag l.voted)) l.yes l.why (eN.ag (eN.ag l.ents)))/\(cs.isEmpty=false->eBool.okL l.voted/\(eBool.ag l.voted).length<=KS/\eN.okL l.ents/\(eN.ag l.ents).length<=KS/\eI.okL (eI.ag l.dl.drop)/\eD.okL (eD.ag l.dl.put)/\eV.okL (eV.ag l.dl.moves)/\(eBool.ag l.voted).length<=(eBool.ag l.voted).length/\(∀(e:Nat),e<(eBool.ag l.voted).length->True)/\(eN.ag l.ents).length<=(eN.ag l.ents).length/\(∀(e:Nat),e<(eN.ag l.ents).length->True)/\∀(d:Ld),Ld.mk l.workers l.stage l.ver l.cut (Dl.mk (eI.ag (eI.ag l.dl.drop)) (eD.ag (eD.ag l.dl.put)) (eV.ag (eV.ag l.dl.moves))) (eBool.ag (eBool.ag l.voted)) l.yes l.why (eN.ag (eN.ag l.ents))=Ld.mk l.workers l.stage l.ver l.cut (Dl.mk (eI.ag (eI.ag l.dl.drop)) (eD.ag (eD.ag l.dl.put)) (eV.ag (eV.ag l.dl.moves))) (eBool.ag (eBool.ag l.voted)) l.yes l.why (eN.ag (eN.ag l.ents)))
theorem lcn_okS(pre:DA.T aL->List Prop)(h:∀g,DA.bd aL g->(∀p∈pre g,p)->lcn_side g):FnPure Tryd.prog 54 aL (Rv.D rL) (λg=>lcn_F g) pre:=res_of_side (R:=rL) (Γ:=(MTab.gamz tabJ0 [] [])) (Λ:=noΛ) (MTab.okz tabJ0 [] []) noΛ_ok 100 default (λg=>lcn_side g) (λg=>by kernel_rfl) (λg=>by kernel_rfl) h
end Go.Proofs.YtfkdbifgppfegaaDoor

namespace Go.Proofs.YtfkdbifgppfegaaDoor
open Go.RowKit Go.Sx
set_option maxRecDepth 100000
noncomputable def abt_F(l:Ld)(w:Int):Rv.T rLE:=
 bif chkL (Ld.mk l.workers l.stage l.ver l.cut (Dl.mk (eI.ag l.dl.drop) (eD.ag l.dl.put) (eV.ag l.dl.moves)) (eBool.ag l.voted) l.yes l.why (eN.ag l.ents))!=(0:Int)then(Ld.mk l.workers l.stage l.ver l.cut (Dl.mk (eI.ag l.dl.drop) (eD.ag l.dl.put) (eV.ag l.dl.moves)) (eBool.ag l.voted) l.yes l.why (eN.ag l.ents),chkL (Ld.mk l.workers l.stage l.ver l.cut (Dl.mk (eI.ag l.dl.drop) (eD.ag l.dl.put) (eV.ag l.dl.moves)) (eBool.ag l.voted) l.yes l.why (eN.ag l.ents)))
 else bif l.stage==(0:Int)||l.stage==(4:Int)then(Ld.mk l.workers l.stage l.ver l.cut (Dl.mk (eI.ag l.dl.drop) (eD.ag l.dl.put) (eV.ag l.dl.moves)) (eBool.ag l.voted) l.yes l.why (eN.ag l.ents),(212:Int))else bif w==(0:Int)then(Ld.mk l.workers l.stage l.ver l.cut (Dl.mk (eI.ag l.dl.drop) (eD.ag l.dl.put) (eV.ag l.dl.moves)) (eBool.ag l.voted) l.yes l.why (eN.ag l.ents),(1:Int))else(Ld.mk l.workers (bif l.stage==(2:Int)then(4:Int)else l.stage) l.ver l.cut (Dl.mk (eI.ag (eI.ag l.dl.drop)) (eD.ag (eD.ag l.dl.put)) (eV.ag (eV.ag l.dl.moves))) (eBool.ag (eBool.ag l.voted)) (!l.yes&&l.yes) (bif l.yes then w else l.why) [],(0:Int))
def abt_side(l:Ld)(w:Int):Prop:=
 eI.okL l.dl.drop/\eD.okL l.dl.put/\eV.okL l.dl.moves/\eBool.okL l.voted/\eN.okL l.ents/\((chkL (Ld.mk l.workers l.stage l.ver l.cut (Dl.mk (eI.ag l.dl.drop) (eD.ag l.dl.put) (eV.ag l.dl.moves)) (eBool.ag l.voted) l.yes l.why (eN.ag l.ents))!=(0:Int))=true->eI.okL l.dl.drop/\eD.okL l.dl.put/\eV.okL l.dl.moves/\eBool.okL l.voted/\eN.okL l.ents)/\((chkL (Ld.mk l.workers l.stage l.ver l.cut (Dl.mk (eI.ag l.dl.drop) (eD.ag l.dl.put) (eV.ag l.dl.moves)) (eBool.ag l.voted) l.yes l.why (eN.ag l.ents))!=(0:Int))=false->((l.stage==(0:Int)||l.stage==(4:Int))=true->eI.okL l.dl.drop/\eD.okL l.dl.put/\eV.okL l.dl.moves/\eBool.okL l.voted/\eN.okL l.ents)/\((l.stage==(0:Int)||l.stage==(4:Int))=false->((w==(0:Int))=true->eI.okL l.dl.drop/\eD.okL l.dl.put/\eV.okL l.dl.moves/\eBool.okL l.voted/\eN.okL l.ents)/\((w==(0:Int))=false->eI.okL l.dl.drop/\eD.okL l.dl.put/\eV.okL l.dl.moves/\fewM (Ms.mk (0:Int) (0:Int) (Place.mk (0:Int) (0:Int)) (T.mk (0:Int) (0:Int) (0:Int) (0:Int) (0:Int) (0:Int)) [] [] (Dl.mk (eI.ag l.dl.drop) (eD.ag l.dl.put) (eV.ag l.dl.moves)) (0:Int) [] false (0:Int))/\∀(cs:List Nat),(cs.isEmpty=true->eBool.okL l.voted/\(eBool.ag l.voted).length<=KS/\eN.okL l.ents/\(eN.ag l.ents).length<=KS/\eI.okL (eI.ag l.dl.drop)/\eD.okL (eD.ag l.dl.put)/\eV.okL (eV.ag l.dl.moves)/\(eBool.ag l.voted).length<=(eBool.ag l.voted).length/\(∀(e:Nat),e<(eBool.ag l.voted).length->True)/\∀(d:Ld×Int),(Ld.mk l.workers (bif l.stage==(2:Int)then(4:Int)else l.stage) l.ver l.cut (Dl.mk (eI.ag (eI.ag l.dl.drop)) (eD.ag (eD.ag l.dl.put)) (eV.ag (eV.ag l.dl.moves))) (eBool.ag (eBool.ag l.voted)) (!l.yes&&l.yes) (bif l.yes then w else l.why) [],(0:Int))=(Ld.mk l.workers (bif l.stage==(2:Int)then(4:Int)else l.stage) l.ver l.cut (Dl.mk (eI.ag (eI.ag l.dl.drop)) (eD.ag (eD.ag l.dl.put)) (eV.ag (eV.ag l.dl.moves))) (eBool.ag (eBool.ag l.voted)) (!l.yes&&l.yes) (bif l.yes then w else l.why) [],(0:Int)))/\(cs.isEmpty=false->eBool.okL l.voted/\(eBool.ag l.voted).length<=KS/\eN.okL l.ents/\(eN.ag l.ents).length<=KS/\eI.okL (eI.ag l.dl.drop)/\eD.okL (eD.ag l.dl.put)/\eV.okL (eV.ag l.dl.moves)/\(eBool.ag l.voted).length<=(eBool.ag l.voted).length/\(∀(e:Nat),e<(eBool.ag l.voted).length->True)/\∀(d:Ld×Int),(Ld.mk l.workers (bif l.stage==(2:Int)then(4:Int)else l.stage) l.ver l.cut (Dl.mk (eI.ag (eI.ag l.dl.drop)) (eD.ag (eD.ag l.dl.put)) (eV.ag (eV.ag l.dl.moves))) (eBool.ag (eBool.ag l.voted)) (!l.yes&&l.yes) (bif l.yes then w else l.why) [],(0:Int))=(Ld.mk l.workers (bif l.stage==(2:Int)then(4:Int)else l.stage) l.ver l.cut (Dl.mk (eI.ag (eI.ag l.dl.drop)) (eD.ag (eD.ag l.dl.put)) (eV.ag (eV.ag l.dl.moves))) (eBool.ag (eBool.ag l.voted)) (!l.yes&&l.yes) (bif l.yes then w else l.why) [],(0:Int))))))
theorem abt_okS(pre:DA.T aLI->List Prop)(h:∀g,DA.bd aLI g->(∀p∈pre g,p)->abt_side g.1 g.2):FnPure Tryd.prog 37 aLI (Rv.D rLE) (λg=>abt_F g.1 g.2) pre:=res_of_side (R:=rLE) (Γ:=(MTab.gamz tabJ0 [] [])) (Λ:=noΛ) (MTab.okz tabJ0 [] []) noΛ_ok 100 default (λg=>abt_side g.1 g.2) (λg=>by kernel_rfl) (λg=>by kernel_rfl) h
end Go.Proofs.YtfkdbifgppfegaaDoor
