/- Times and summaries: summaries and times as plain data. -/
import Derived.Test.YtiipneclghnfhaaRows
import Derived.Test.YtiipneclghnfhaaZG06e05322
import Derived.Test.YtiipneclghnfhaaZG0786cf4e
set_option linter.unusedVariables false
set_option linter.unusedSimpArgs false
set_option linter.constructorNameAsVariable false
set_option linter.all false

namespace Go.Proofs.Ytiipneclghnfhaa
open Go.RowKit Go.Sx
structure S where
 f:Int
 k:Int
 a:Int
 n:Int
 p0:Int
 p1:Int
 p2:Int
 p3:Int
deriving DecidableEq,Inhabited
abbrev eI:El Int:=eInt .i64
abbrev I2:=Int×Int
abbrev I4:=Int×Int×Int×Int
abbrev e4:El I4:=.pair eI (.pair eI (.pair eI eI))
abbrev I8:=Int×Int×Int×Int×I4
def S.ofP:I8→S:=fun (f,k,a,n,p0,p1,p2,p3)=>⟨f,k,a,n,p0,p1,p2,p3⟩
def S.toP (s:S):I8:=(s.f,s.k,s.a,s.n,s.p0,s.p1,s.p2,s.p3)
def eS:El S:=.iso (.pair eI (.pair eI (.pair eI (.pair eI e4)))) S.ofP S.toP (fun _=>rfl) (fun _=>rfl)
structure T where
 e:Int
 d:Int
 l0:Int
 l1:Int
 l2:Int
 l3:Int
deriving DecidableEq,Inhabited
abbrev I6:=Int×Int×I4
def T.ofP:I6→T:=fun (e,d,l0,l1,l2,l3)=>⟨e,d,l0,l1,l2,l3⟩
def T.toP (t:T):I6:=(t.e,t.d,t.l0,t.l1,t.l2,t.l3)
def eT:El T:=.iso (.pair eI (.pair eI e4)) T.ofP T.toP (fun _=>rfl) (fun _=>rfl)
abbrev dI:Dv Int:=dInt .i64
abbrev dS:Dv S:=.agg eS
abbrev dT:Dv T:=.agg eT
abbrev dTE:Dv (T×Int):=.tup (.cons dT (.one dI))
abbrev aS:DA S:=.one dS
abbrev aT:DA T:=.one dT
abbrev aI:DA Int:=.one dI
abbrev aII:DA (Int×Int):=.cons dI (.one dI)
abbrev aST:DA (S×T):=.cons dS (.one dT)
abbrev aTT:DA (T×T):=.cons dT (.one dT)
theorem puI (r:Int):Pu (dI.enc r):=pu_v _
theorem puB (r:Bool):Pu (dBool.enc r):=pu_v _
theorem pus4 (a b c d:Int):Pus [.v (.int .i64 a),.v (.int .i64 b),.v (.int .i64 c),.v (.int .i64 d)]:=pus_cons (pu_v _) (pus_cons (pu_v _) (pus_cons (pu_v _) (pus_cons (pu_v _) pus_nil)))
theorem puT (r:T):Pu (dT.enc r):=pu_agg (pus_cons (pu_v _) (pus_cons (pu_v _) (pus4 _ _ _ _)))
theorem puTE (r:T×Int):Pu (dTE.enc r):=pu_tup (pus_cons (puT _) (pus_cons (pu_v _) pus_nil))
noncomputable def tab0:PTab Try.prog:=PTab.nil
end Go.Proofs.Ytiipneclghnfhaa

namespace Go.Proofs.Ytiipneclghnfhaa
open Go.RowKit Go.Sx
set_option maxRecDepth 100000
set_option linter.unusedVariables false
noncomputable def may_F (a:S):Dv.T dBool:=
 bif !(decide (a.f<(0:Int))||decide (a.f > (4:Int)))&&!(decide (a.n<(0:Int))||decide (a.n > (4:Int)))&&!(decide (a.k<(0:Int))||(decide (a.k > a.f)||decide (IntKind.i64.wrap (a.k+a.n) > (4:Int))))&&!(!(decide (a.a≥(0:Int))&&decide (a.a≤(1048576:Int)))||a.k==(0:Int)&&a.a != (0:Int)) then bif !(decide (a.p0≥(0:Int))&&decide (a.p0≤(1048576:Int)))||decide ((0:Int)≥a.n)&&a.p0 != (0:Int) then false else bif !(decide (a.p1≥(0:Int))&&decide (a.p1≤(1048576:Int)))||decide ((1:Int)≥a.n)&&a.p1 != (0:Int) then false else bif !(decide (a.p2≥(0:Int))&&decide (a.p2≤(1048576:Int)))||decide ((2:Int)≥a.n)&&a.p2 != (0:Int) then false else bif !(decide (a.p3≥(0:Int))&&decide (a.p3≤(1048576:Int)))||decide ((3:Int)≥a.n)&&a.p3 != (0:Int) then false else true
 else false
theorem may_ok:FnPure Try.prog 123 aS dBool (fun g=>may_F g) (fun _=>[]):=pure_of_safe (Γ:=(PTab.gamz tab0 [] [(80,0,5)])) (Λ:=noΛ) (PTab.okz tab0 [] [(80,0,5)]) noΛ_ok 100 default (fun g=>by kernel_rfl) (fun g=>by kernel_rfl)
noncomputable def rcheck_F (a:S):Dv.T dI:=
 bif decide (a.f<(0:Int))||(decide (a.f > (4:Int))||(decide (a.n<(0:Int))||(decide (a.n > (4:Int))||(decide (a.k<(0:Int))||(decide (a.k > a.f)||(decide (IntKind.i64.wrap (a.k+a.n) > (4:Int))||(decide (a.a<(0:Int))||(decide (a.a > (1048576:Int))||a.k==(0:Int)&&a.a != (0:Int))))))))) then (20:Int)
 else bif decide (a.p0<(0:Int))||(decide (a.p0 > (1048576:Int))||decide ((0:Int)≥a.n)&&a.p0 != (0:Int)) then (20:Int) else bif decide (a.p1<(0:Int))||(decide (a.p1 > (1048576:Int))||decide ((1:Int)≥a.n)&&a.p1 != (0:Int)) then (20:Int) else bif decide (a.p2<(0:Int))||(decide (a.p2 > (1048576:Int))||decide ((2:Int)≥a.n)&&a.p2 != (0:Int)) then (20:Int) else bif decide (a.p3<(0:Int))||(decide (a.p3 > (1048576:Int))||decide ((3:Int)≥a.n)&&a.p3 != (0:Int)) then (20:Int) else (0:Int)
theorem rcheck_ok:FnPure Try.prog 124 aS dI (fun g=>rcheck_F g) (fun _=>[]):=pure_of_safe (Γ:=(PTab.gamz tab0 [] [(80,0,5)])) (Λ:=noΛ) (PTab.okz tab0 [] [(80,0,5)]) noΛ_ok 100 default (fun g=>by kernel_rfl) (fun g=>by kernel_rfl)
noncomputable def tcheck_F (t:T):Dv.T dI:=
 bif decide (t.e<(0:Int))||(decide (t.e > (1073741824:Int))||(decide (t.d<(0:Int))||decide (t.d > (4:Int)))) then (10:Int)
 else bif decide (t.l0<(0:Int))||(decide (t.l0 > (1048576:Int))||decide ((0:Int)≥t.d)&&t.l0 != (0:Int)) then (10:Int) else bif decide (t.l1<(0:Int))||(decide (t.l1 > (1048576:Int))||decide ((1:Int)≥t.d)&&t.l1 != (0:Int)) then (10:Int) else bif decide (t.l2<(0:Int))||(decide (t.l2 > (1048576:Int))||decide ((2:Int)≥t.d)&&t.l2 != (0:Int)) then (10:Int) else bif decide (t.l3<(0:Int))||(decide (t.l3 > (1048576:Int))||decide ((3:Int)≥t.d)&&t.l3 != (0:Int)) then (10:Int) else (0:Int)
theorem tcheck_ok:FnPure Try.prog 81 aT dI (fun g=>tcheck_F g) (fun _=>[]):=pure_of_safe (Γ:=(PTab.gamz tab0 [] [(80,0,5)])) (Λ:=noΛ) (PTab.okz tab0 [] [(80,0,5)]) noΛ_ok 100 default (fun g=>by kernel_rfl) (fun g=>by kernel_rfl)
noncomputable def rtcheck_F (t:T):Dv.T dI:=
 bif decide (t.e<(0:Int))||(decide (t.e > (1073741824:Int))||(decide (t.d<(0:Int))||decide (t.d > (4:Int)))) then (10:Int)
 else bif decide (t.l0<(0:Int))||(decide (t.l0 > (1048576:Int))||decide ((0:Int)≥t.d)&&t.l0 != (0:Int)) then (10:Int) else bif decide (t.l1<(0:Int))||(decide (t.l1 > (1048576:Int))||decide ((1:Int)≥t.d)&&t.l1 != (0:Int)) then (10:Int) else bif decide (t.l2<(0:Int))||(decide (t.l2 > (1048576:Int))||decide ((2:Int)≥t.d)&&t.l2 != (0:Int)) then (10:Int) else bif decide (t.l3<(0:Int))||(decide (t.l3 > (1048576:Int))||decide ((3:Int)≥t.d)&&t.l3 != (0:Int)) then (10:Int) else (0:Int)
theorem rtcheck_ok:FnPure Try.prog 23 aT dI (fun g=>rtcheck_F g) (fun _=>[]):=pure_of_safe (Γ:=(PTab.gamz tab0 [] [(80,0,5)])) (Λ:=noΛ) (PTab.okz tab0 [] [(80,0,5)]) noΛ_ok 100 default (fun g=>by kernel_rfl) (fun g=>by kernel_rfl)
noncomputable def tab2:PTab Try.prog:=((((tab0).cons 123 (pconP aS dBool (fun g=>may_F g) (fun _=>[])) (conP_ok may_ok puB)).cons 124 (pconP aS dI (fun g=>rcheck_F g) (fun _=>[])) (conP_ok rcheck_ok puI)).cons 81 (pconP aT dI (fun g=>tcheck_F g) (fun _=>[])) (conP_ok tcheck_ok puI)).cons 23 (pconP aT dI (fun g=>rtcheck_F g) (fun _=>[])) (conP_ok rtcheck_ok puI)
end Go.Proofs.Ytiipneclghnfhaa

namespace Go.Proofs.Ytiipneclghnfhaa
open Go.RowKit Go.Sx
theorem wr {x:Int} (h:-9223372036854775808≤x∧x≤9223372036854775807):IntKind.i64.wrap x=x:=by
 have:=IntKind.wrap_i64 x
 omega
def S.Ok (s:S):Prop:=(0≤s.f∧s.f≤4∧0≤s.n∧s.n≤4∧0≤s.k∧s.k≤s.f∧s.k+s.n≤4)∧(0≤s.a∧s.a≤1048576∧(s.k=0→s.a=0)) ∧
  (0≤s.p0∧s.p0≤1048576∧(s.n≤0→s.p0=0))∧(0≤s.p1∧s.p1≤1048576∧(s.n≤1→s.p1=0))∧(0≤s.p2∧s.p2≤1048576∧(s.n≤2→s.p2=0))∧(0≤s.p3∧s.p3≤1048576∧(s.n≤3→s.p3=0))
theorem cond_ff {c b:Bool}:(bif c then false else b)=true↔c=false∧b=true:=by cases c <;> simp
theorem cond_bf {c b:Bool}:(bif c then b else false)=true↔c=true∧b=true:=by cases c <;> simp
theorem may_iff (s:S):may_F s=true↔s.Ok:=by
 unfold may_F S.Ok
 simp only[cond_ff,cond_bf,Bool.and_eq_true,Bool.or_eq_false_iff,Bool.not_eq_true',Bool.not_eq_false',decide_eq_false_iff_not,decide_eq_true_eq,Bool.and_eq_false_iff,bne_eq_false_iff_eq,beq_eq_false_iff_ne,beq_iff_eq,IntKind.wrap_i64,and_true,ne_eq,true_and]
 omega
theorem cond_20 {c:Bool} {x:Int}:(bif c then (20:Int) else x)=0↔c=false∧x=0:=by cases c <;> simp
theorem cond_10 {c:Bool} {x:Int}:(bif c then (10:Int) else x)=0↔c=false∧x=0:=by cases c <;> simp
theorem rcheck_iff (s:S):rcheck_F s=0↔s.Ok:=by
 unfold rcheck_F S.Ok
 simp only[cond_20,Bool.and_eq_true,Bool.or_eq_false_iff,Bool.not_eq_true',Bool.not_eq_false',decide_eq_false_iff_not,decide_eq_true_eq,Bool.and_eq_false_iff,bne_eq_false_iff_eq,beq_eq_false_iff_ne,beq_iff_eq,IntKind.wrap_i64,and_true,ne_eq,true_and]
 omega
theorem rcheck_or (s:S):rcheck_F s=0∨rcheck_F s=20:=by
 unfold rcheck_F
 repeat' (rw[Bool.cond_eq_ite];split)
 all_goals simp
theorem rcheck_eq (s:S):rcheck_F s=bif may_F s then 0 else 20:=by
 cases h:may_F s with
 | true=>exact (rcheck_iff s).2 ((may_iff s).1 h)
 | false=>
  rcases rcheck_or s with h1 | h1
  ·rw[(may_iff s).2 ((rcheck_iff s).1 h1)] at h;cases h
  ·exact h1
theorem rtcheck_eq (t:T):rtcheck_F t=tcheck_F t:=rfl
def T.Ok (t:T):Prop:=(0≤t.e∧t.e≤1073741824∧0≤t.d∧t.d≤4) ∧
  (0≤t.l0∧t.l0≤1048576∧(t.d≤0→t.l0=0))∧(0≤t.l1∧t.l1≤1048576∧(t.d≤1→t.l1=0))∧(0≤t.l2∧t.l2≤1048576∧(t.d≤2→t.l2=0))∧(0≤t.l3∧t.l3≤1048576∧(t.d≤3→t.l3=0))
theorem tcheck_iff (t:T):tcheck_F t=0↔t.Ok:=by
 unfold tcheck_F T.Ok
 simp only[cond_10,Bool.and_eq_true,Bool.or_eq_false_iff,decide_eq_false_iff_not,Bool.and_eq_false_iff,bne_eq_false_iff_eq,and_true]
 omega
theorem tcheck_or (t:T):tcheck_F t=0∨tcheck_F t=10:=by
 unfold tcheck_F
 repeat' (rw[Bool.cond_eq_ite];split)
 all_goals simp
end Go.Proofs.Ytiipneclghnfhaa

namespace Go.Proofs.Ytiipneclghnfhaa
open Go.RowKit Go.Sx
noncomputable def tab3:PTab Try.prog:=tab2
def vi (n:Int):SV:=.v (.int .i64 n)
def ki (n:Int):SV:=.k (.int .i64 n)
def encK (s:S) (k n:Nat):SV:=.agg [vi s.f,ki k,vi s.a,ki n,vi s.p0,vi s.p1,vi s.p2,vi s.p3]
def litS (s:S) (k n:Nat):S:=⟨s.f,k,s.a,n,s.p0,s.p1,s.p2,s.p3⟩
theorem litS_eq {s:S} {k n:Nat} (h1:s.k=k) (h2:s.n=n):litS s k n=s:=by unfold litS;rw[← h1,← h2]
def vv1:SV→SV
 | .k x=>.v x
 | s=>s
theorem vv1_fit {s:SV} {n:Nat} {ρ:Rh} {x:Value}:(vv1 s).fit n ρ x↔s.fit n ρ x:=by cases s <;> simp[vv1,SV.fit]
theorem fits_vv1 {n:Nat} {ρ:Rh}:∀ {xs ys:List SV} {l:List Value},xs.map vv1=ys.map vv1→SV.fits n ρ xs l→SV.fits n ρ ys l
 | [],[],_,_,h=>h
 | x :: xs,y :: ys,l,he,h=>by
  obtain ⟨a,r,rfl,ha,hr⟩:=fits_cons h
  simp only[List.map_cons,List.cons.injEq] at he
  exact ⟨vv1_fit.1 (he.1▸vv1_fit.2 ha),fits_vv1 he.2 hr⟩
 | [],_ :: _,_,he,_=>by simp at he
 | _ :: _,[],_,he,_=>by simp at he
theorem encK_fit {s:S} {k n:Nat} (h1:s.k=k) (h2:s.n=n) {m:Nat} {ρ:Rh} {x:Value} (h:(dS.enc s).fit m ρ x):(encK s k n).fit m ρ x:=by
 rw[← litS_eq h1 h2] at h
 obtain ⟨l,hx,hl⟩:=h
 exact ⟨l,hx,fits_vv1 (xs:=eS.cells (litS s k n)) rfl hl⟩
theorem encKT_fit {a:S} {t:T} {k n:Nat} (h1:a.k=k) (h2:a.n=n) {m:Nat} {ρ:Rh} {x:List Value} (h:SV.fits m ρ (aST.enc (a,t)) x):SV.fits m ρ [encK a k n,dT.enc t] x:=by
 obtain ⟨y,r,rfl,hy,hr⟩:=fits_cons h
 exact ⟨encK_fit h1 h2 hy,hr⟩
end Go.Proofs.Ytiipneclghnfhaa

namespace Go.Proofs.Ytiipneclghnfhaa
open Go.RowKit Go.Sx
noncomputable section
def els {α:Type}:Tr α→Tr α
 | .br _ _ b=>b
 | t=>t
def zT:T:=⟨0,0,0,0,0,0⟩
def S.p (s:S):List Int:=[s.p0,s.p1,s.p2,s.p3]
def T.l (t:T):List Int:=[t.l0,t.l1,t.l2,t.l3]
def mkT (e d:Int) (l:List Int):T:=⟨e,d,l.getD 0 0,l.getD 1 0,l.getD 2 0,l.getD 3 0⟩
abbrev w64 (x:Int):Int:=IntKind.i64.wrap x
theorem four {k:Nat} (h:k≤4):k=0∨k=1∨k=2∨k=3∨k=4:=by omega
abbrev g3:Gam:=tab3.gamz [] []
def applyL (k n:Nat) (s:S) (t:T):List Int:=
 match k with
 | 0=>s.p.take n
 | j+1=>(t.l.take j++[w64 (t.l.getD j 0+s.a)])++s.p.take n
def applyTr (s:S) (t:T) (k n:Nat):Tr (T×Int):=
 .br (!may_F (litS s k n)) (.ret (zT,20)) (.br (tcheck_F t != 0) (.ret (zT,tcheck_F t)) (.br (t.d != s.f) (.ret (zT,11)) (match k with
  | 0=>.ret (mkT t.e (0+n:Nat) (applyL 0 n s t),0)
  | j+1=>.br (decide (w64 (t.l.getD j 0+s.a) > 1048576)) (.ret (zT,12)) (.ret (mkT t.e (j+1+n:Nat) (applyL (j+1) n s t),0)))))
def rapplyTr (s:S) (t:T) (k n:Nat):Tr (T×Int):=
 .br (rcheck_F (litS s k n) != 0) (.ret (zT,rcheck_F (litS s k n))) (.br (rtcheck_F t != 0) (.ret (zT,rtcheck_F t)) (.br (t.d != s.f) (.ret (zT,11))
  (.br (rtcheck_F (mkT t.e (k+n:Nat) (applyL k n s t)) != 0) (.ret (zT,12)) (.ret (mkT t.e (k+n:Nat) (applyL k n s t),0)))))
theorem apply_tree (s:S) (t:T) (k n:Nat) (h1:k+n≤4):dTree Try.prog g3 noΛ 100 93 [encK s k n,dT.enc t] dTE=applyTr s t k n:=by
 rcases four (show k≤4 by omega) with rfl | rfl | rfl | rfl | rfl <;> rcases four (show n≤4 by omega) with rfl | rfl | rfl | rfl | rfl <;> first
  | (exfalso;omega)
  | kernel_rfl
theorem rapply_tree (s:S) (t:T) (k n:Nat) (h1:k+n≤4):dTree Try.prog g3 noΛ 100 94 [encK s k n,dT.enc t] dTE=rapplyTr s t k n:=by
 rcases four (show k≤4 by omega) with rfl | rfl | rfl | rfl | rfl <;> rcases four (show n≤4 by omega) with rfl | rfl | rfl | rfl | rfl <;> first
  | (exfalso;omega)
  | kernel_rfl
theorem apply_no (s:S) (t:T):dTree Try.prog g3 noΛ 100 93 (aST.enc (s,t)) dTE=.br (!may_F s) (.ret (zT,20)) (els (dTree Try.prog g3 noΛ 100 93 (aST.enc (s,t)) dTE)):=by kernel_rfl
theorem apply_no2 (s:S) (t:T):els (dTree Try.prog g3 noΛ 100 93 (aST.enc (s,t)) dTE)=.br (tcheck_F t != 0) (.ret (zT,tcheck_F t)) (els (els (dTree Try.prog g3 noΛ 100 93 (aST.enc (s,t)) dTE))):=by kernel_rfl
theorem apply_no3 (s:S) (t:T):els (els (dTree Try.prog g3 noΛ 100 93 (aST.enc (s,t)) dTE))=.br (t.d != s.f) (.ret (zT,11)) (els (els (els (dTree Try.prog g3 noΛ 100 93 (aST.enc (s,t)) dTE)))):=by kernel_rfl
theorem rapply_no (s:S) (t:T):dTree Try.prog g3 noΛ 100 94 (aST.enc (s,t)) dTE=.br (rcheck_F s != 0) (.ret (zT,rcheck_F s)) (els (dTree Try.prog g3 noΛ 100 94 (aST.enc (s,t)) dTE)):=by kernel_rfl
theorem rapply_no2 (s:S) (t:T):els (dTree Try.prog g3 noΛ 100 94 (aST.enc (s,t)) dTE)=.br (rtcheck_F t != 0) (.ret (zT,rtcheck_F t)) (els (els (dTree Try.prog g3 noΛ 100 94 (aST.enc (s,t)) dTE))):=by kernel_rfl
theorem rapply_no3 (s:S) (t:T):els (els (dTree Try.prog g3 noΛ 100 94 (aST.enc (s,t)) dTE))=.br (t.d != s.f) (.ret (zT,11)) (els (els (els (dTree Try.prog g3 noΛ 100 94 (aST.enc (s,t)) dTE)))):=by kernel_rfl
end
end Go.Proofs.Ytiipneclghnfhaa

namespace Go.Proofs.Ytiipneclghnfhaa
open Go.RowKit Go.Sx
noncomputable section
theorem p_mem {s:S} (h:s.Ok):∀ x∈s.p,0≤x∧x≤1048576:=by
 unfold S.Ok at h
 intro x hx
 simp only[S.p,List.mem_cons,List.not_mem_nil,or_false] at hx
 rcases hx with rfl | rfl | rfl | rfl <;> omega
theorem sizes {s:S} (h:s.Ok):s.k=(s.k.toNat:Int)∧s.n=(s.n.toNat:Int)∧s.k.toNat+s.n.toNat≤4:=by
 have:=h.1
 omega
theorem len_p (s:S):s.p.length=4:=rfl
theorem rc_ne (s:S):(rcheck_F s != 0)=!may_F s:=by
 rw[rcheck_eq]
 cases may_F s <;> rfl
def applyC (k n:Nat) (s:S) (t:T):T×Int:=
 match k with
 | 0=>(mkT t.e (n:Int) (s.p.take n),0)
 | j+1=>bif decide (t.l.getD j 0+s.a > 1048576) then (zT,12) else (mkT t.e ((j+1+n:Nat):Int) ((t.l.take j++[t.l.getD j 0+s.a])++s.p.take n),0)
def applyF (s:S) (t:T):T×Int:=
 bif !may_F s then (zT,20) else bif tcheck_F t != 0 then (zT,tcheck_F t) else bif t.d != s.f then (zT,11) else applyC s.k.toNat s.n.toNat s t
theorem l_mem {t:T} (h:t.Ok):∀ x∈t.l,0≤x∧x≤1048576:=by
 unfold T.Ok at h
 intro x hx
 simp only[T.l,List.mem_cons,List.not_mem_nil,or_false] at hx
 rcases hx with rfl | rfl | rfl | rfl <;> omega
theorem l_get {t:T} (h:t.Ok) (i:Nat):0≤t.l.getD i 0∧t.l.getD i 0≤1048576:=by
 by_cases hi:i<t.l.length
 ·rw[List.getD_eq_getElem?_getD,List.getElem?_eq_getElem hi]
  exact l_mem h _ (List.getElem_mem hi)
 ·rw[List.getD_eq_getElem?_getD,List.getElem?_eq_none (by omega)]
  simp
theorem len_l (t:T):t.l.length=4:=rfl
theorem okmt {e:Int} {d:Nat} {l:List Int} (hl:l.length=d) (hd:d≤4) (he:0≤e∧e≤1073741824):(mkT e d l).Ok↔∀ x∈l,0≤x∧x≤1048576:=by
 subst hl
 match l,hd with
 | [],_=>simp[mkT,T.Ok];omega
 | [x0],_=>simp[mkT,T.Ok];omega
 | [x0,x1],_=>simp[mkT,T.Ok];omega
 | [x0,x1,x2],_=>simp[mkT,T.Ok];omega
 | [x0,x1,x2,x3],_=>simp[mkT,T.Ok];omega
theorem tc_ne (t:T):(tcheck_F t != 0)=!decide (tcheck_F t=0):=by
 cases h:decide (tcheck_F t=0) <;> simp_all
theorem applyF_core {s:S} {t:T} (hs:may_F s=true) (ht:tcheck_F t=0) (he:t.d=s.f):applyF s t=applyC s.k.toNat s.n.toNat s t:=by
 unfold applyF
 rw[hs,ht,he]
 simp
theorem apply_ok:FnPure Try.prog 93 aST dTE (fun g=>applyF g.1 g.2) (fun _=>[]):=by
 refine pure_of_cases (Γ:=g3) (Λ:=noΛ) (tab3.okz [] []) noΛ_ok 100 fun g _ _=>?_
 obtain ⟨s,t⟩:=g
 show ∃ args,(∀ n ρ x,SV.fits n ρ (aST.enc (s,t)) x→SV.fits n ρ args x)∧(dTree Try.prog g3 noΛ 100 93 args dTE).Holds (·=applyF s t)
 cases hs:may_F s with
 | false=>
  refine ⟨_,fun _ _ _ h=>h,?_⟩
  rw[apply_no,hs]
  generalize els (dTree Try.prog g3 noΛ 100 93 (aST.enc (s,t)) dTE)=r
  refine ⟨fun _=>?_,fun hc=>(by cases hc)⟩
  show (zT,(20:Int))=applyF s t
  unfold applyF;rw[hs];rfl
 | true=>
  by_cases ht:tcheck_F t=0
  ·by_cases he:t.d=s.f
   ·have os:=(may_iff s).1 hs
    have ot:=(tcheck_iff t).1 ht
    obtain ⟨ks,ns,h4⟩:=sizes os
    refine ⟨[encK s s.k.toNat s.n.toNat,dT.enc t],fun _ _ _ h=>encKT_fit ks ns h,?_⟩
    rw[apply_tree s t _ _ h4,applyF_core hs ht he]
    unfold applyTr
    rw[litS_eq ks ns,hs,ht,he]
    refine ⟨fun hc=>(by cases hc),fun _=>⟨fun hc=>(by cases hc),fun _=>⟨fun hc=>(by simp at hc),fun _=>?_⟩⟩⟩
    have ga:=os.2.1
    generalize s.k.toNat=k at h4 ⊢
    cases k with
    | zero=>
     show (mkT t.e ((0+s.n.toNat:Nat):Int) (s.p.take s.n.toNat),(0:Int))=_
     rw[Nat.zero_add];rfl
    | succ j=>
     have hl:=l_get ot j
     have hw:w64 (t.l.getD j 0+s.a)=t.l.getD j 0+s.a:=wr (by omega)
     simp only[applyC,applyL,hw]
     exact ⟨fun h=>by rw[h];rfl,fun h=>by rw[h];rfl⟩
   ·refine ⟨_,fun _ _ _ h=>h,?_⟩
    rw[apply_no,hs]
    refine ⟨fun hc=>(by cases hc),fun _=>?_⟩
    rw[apply_no2,ht]
    refine ⟨fun hc=>(by cases hc),fun _=>?_⟩
    rw[apply_no3]
    generalize els (els (els (dTree Try.prog g3 noΛ 100 93 (aST.enc (s,t)) dTE)))=r
    refine ⟨fun _=>?_,fun hc=>absurd (bne_eq_false_iff_eq.1 hc) he⟩
    show (zT,(11:Int))=applyF s t
    unfold applyF;rw[hs,ht,show (t.d != s.f)=true by simpa using he];rfl
  ·refine ⟨_,fun _ _ _ h=>h,?_⟩
   rw[apply_no,hs]
   refine ⟨fun hc=>(by cases hc),fun _=>?_⟩
   rw[apply_no2]
   generalize els (els (dTree Try.prog g3 noΛ 100 93 (aST.enc (s,t)) dTE))=r
   refine ⟨fun hc=>?_,fun hc=>absurd (bne_eq_false_iff_eq.1 hc) ht⟩
   show (zT,tcheck_F t)=applyF s t
   unfold applyF;rw[hs,hc];rfl
theorem rt_ne (t:T):(rtcheck_F t != 0)=(tcheck_F t != 0):=rfl
theorem rapply_ok:FnPure Try.prog 94 aST dTE (fun g=>applyF g.1 g.2) (fun _=>[]):=by
 refine pure_of_cases (Γ:=g3) (Λ:=noΛ) (tab3.okz [] []) noΛ_ok 100 fun g _ _=>?_
 obtain ⟨s,t⟩:=g
 show ∃ args,(∀ n ρ x,SV.fits n ρ (aST.enc (s,t)) x→SV.fits n ρ args x)∧(dTree Try.prog g3 noΛ 100 94 args dTE).Holds (·=applyF s t)
 cases hs:may_F s with
 | false=>
  refine ⟨_,fun _ _ _ h=>h,?_⟩
  rw[rapply_no,rc_ne,hs,rcheck_eq,hs]
  generalize els (dTree Try.prog g3 noΛ 100 94 (aST.enc (s,t)) dTE)=r
  refine ⟨fun _=>?_,fun hc=>(by cases hc)⟩
  show (zT,(20:Int))=applyF s t
  unfold applyF;rw[hs];rfl
 | true=>
  by_cases ht:tcheck_F t=0
  ·by_cases he:t.d=s.f
   ·have os:=(may_iff s).1 hs
    have ot:=(tcheck_iff t).1 ht
    obtain ⟨ks,ns,h4⟩:=sizes os
    refine ⟨[encK s s.k.toNat s.n.toNat,dT.enc t],fun _ _ _ h=>encKT_fit ks ns h,?_⟩
    rw[rapply_tree s t _ _ h4,applyF_core hs ht he]
    unfold rapplyTr
    rw[litS_eq ks ns,rc_ne,hs,rt_ne,ht,he]
    refine ⟨fun hc=>(by cases hc),fun _=>⟨fun hc=>(by cases hc),fun _=>⟨fun hc=>(by simp at hc),fun _=>?_⟩⟩⟩
    have ga:=os.2.1
    have pm:=p_mem os
    have lm:=l_mem ot
    have te:=ot.1
    generalize s.k.toNat=k at h4 ⊢
    rw[rt_ne,tc_ne]
    cases k with
    | zero=>
     rw[Nat.zero_add]
     have hok:=okmt (e:=t.e) (d:=s.n.toNat) (l:=applyL 0 s.n.toNat s t) (by simp only[applyL,List.length_take,len_p];omega) (by omega) (by omega)
     rw[(tcheck_iff _).2 (hok.2 fun x hx=>pm x (List.mem_of_mem_take hx))]
     exact ⟨fun h=>(by simp at h),fun _=>rfl⟩
    | succ j=>
     have hl:=l_get ot j
     have hw:w64 (t.l.getD j 0+s.a)=t.l.getD j 0+s.a:=wr (by omega)
     have hok:=okmt (e:=t.e) (d:=j+1+s.n.toNat) (l:=applyL (j+1) s.n.toNat s t) (by simp only[applyL,List.length_append,List.length_take,len_p,len_l,List.length_cons,List.length_nil];omega) (by omega) (by omega)
     simp only[applyL,hw] at hok ⊢
     simp only[applyC]
     by_cases hx:t.l.getD j 0+s.a > 1048576
     ·have hno:¬ tcheck_F (mkT t.e ((j+1+s.n.toNat:Nat):Int) ((t.l.take j++[t.l.getD j 0+s.a])++s.p.take s.n.toNat))=0:=fun h=>by
       have:=hok.1 ((tcheck_iff _).1 h) _ (List.mem_append_left _ (List.mem_append_right _ (List.mem_singleton.2 rfl)))
       omega
      rw[decide_eq_false hno,decide_eq_true hx]
      exact ⟨fun _=>rfl,fun h=>(by cases h)⟩
     ·rw[(tcheck_iff _).2 (hok.2 fun x hx'=>by
       rcases List.mem_append.1 hx' with h | h
       ·rcases List.mem_append.1 h with h | h
        ·exact lm x (List.mem_of_mem_take h)
        ·rw[List.mem_singleton.1 h];omega
       ·exact pm x (List.mem_of_mem_take h)),decide_eq_false hx]
      exact ⟨fun h=>(by simp at h),fun _=>rfl⟩
   ·refine ⟨_,fun _ _ _ h=>h,?_⟩
    rw[rapply_no,rc_ne,hs]
    refine ⟨fun hc=>(by cases hc),fun _=>?_⟩
    rw[rapply_no2,rt_ne,ht]
    refine ⟨fun hc=>(by cases hc),fun _=>?_⟩
    rw[rapply_no3]
    generalize els (els (els (dTree Try.prog g3 noΛ 100 94 (aST.enc (s,t)) dTE)))=r
    refine ⟨fun _=>?_,fun hc=>absurd (bne_eq_false_iff_eq.1 hc) he⟩
    show (zT,(11:Int))=applyF s t
    unfold applyF;rw[hs,ht,show (t.d != s.f)=true by simpa using he];rfl
  ·refine ⟨_,fun _ _ _ h=>h,?_⟩
   rw[rapply_no,rc_ne,hs]
   refine ⟨fun hc=>(by cases hc),fun _=>?_⟩
   rw[rapply_no2,rt_ne]
   generalize els (els (dTree Try.prog g3 noΛ 100 94 (aST.enc (s,t)) dTE))=r
   refine ⟨fun hc=>?_,fun hc=>absurd (bne_eq_false_iff_eq.1 hc) ht⟩
   show (zT,rtcheck_F t)=applyF s t
   rw[rtcheck_eq]
   unfold applyF;rw[hs,hc];rfl
noncomputable def tab4:PTab Try.prog:=(tab3.cons 93 (pconP aST dTE (fun g=>applyF g.1 g.2) (fun _=>[])) (conP_ok apply_ok puTE)).cons 94 (pconP aST dTE (fun g=>applyF g.1 g.2) (fun _=>[])) (conP_ok rapply_ok puTE)
end
end Go.Proofs.Ytiipneclghnfhaa

namespace Go.Proofs.Ytiipneclghnfhaa
open Go.RowKit Go.Sx
set_option maxRecDepth 100000
set_option linter.unusedVariables false
noncomputable def cmp64_F (a:Int) (b:Int):Dv.T dI:=
 bif a != a then bif b != b then (0:Int) else (-1:Int)
 else bif b != b then (1:Int) else bif decide (a<b) then (-1:Int) else bif decide (a > b) then (1:Int) else (0:Int)
theorem cmp64_ok:FnPure Try.prog 117 aII dI (fun g=>cmp64_F g.1 g.2) (fun _=>[]):=pure_of_safe (Γ:=(PTab.gamz tab4 [] [])) (Λ:=noΛ) (PTab.okz tab4 [] []) noΛ_ok 100 default (fun g=>by kernel_rfl) (fun g=>by kernel_rfl)
noncomputable def cmpi_F (a:Int) (b:Int):Dv.T dI:=
 bif a != a then bif b != b then (0:Int) else (-1:Int)
 else bif b != b then (1:Int) else bif decide (a<b) then (-1:Int) else bif decide (a > b) then (1:Int) else (0:Int)
theorem cmpi_ok:FnPure Try.prog 118 aII dI (fun g=>cmpi_F g.1 g.2) (fun _=>[]):=pure_of_safe (Γ:=(PTab.gamz tab4 [] [])) (Λ:=noΛ) (PTab.okz tab4 [] []) noΛ_ok 100 default (fun g=>by kernel_rfl) (fun g=>by kernel_rfl)
noncomputable def jmax_F (a:Int) (b:Int):Dv.T dI:=
 List.foldl (fun a x=>bif true then if x.snd.snd > a then x.snd.snd else a else if x.snd.snd<a then x.snd.snd else a) a [(false,IntKind.i64,b)]
theorem jmax_ok:FnPure Try.prog 128 aII dI (fun g=>jmax_F g.1 g.2) (fun _=>[]):=pure_of_safe (Γ:=(PTab.gamz tab4 [] [])) (Λ:=noΛ) (PTab.okz tab4 [] []) noΛ_ok 100 default (fun g=>by kernel_rfl) (fun g=>by kernel_rfl)
noncomputable def tabK:PTab Try.prog:=(((tab4).cons 117 (pconP aII dI (fun g=>cmp64_F g.1 g.2) (fun _=>[])) (conP_ok cmp64_ok puI)).cons 118 (pconP aII dI (fun g=>cmpi_F g.1 g.2) (fun _=>[])) (conP_ok cmpi_ok puI)).cons 128 (pconP aII dI (fun g=>jmax_F g.1 g.2) (fun _=>[])) (conP_ok jmax_ok puI)
end Go.Proofs.Ytiipneclghnfhaa

namespace Go.Proofs.Ytiipneclghnfhaa
open Go.RowKit Go.Sx
set_option maxRecDepth 100000
set_option linter.unusedVariables false
noncomputable def tleq_F (a:T) (b:T):Dv.T dBool:=
 bif tcheck_F a != (0:Int)||(tcheck_F b != (0:Int)||(a.d != b.d||decide (a.e > b.e))) then false
 else bif decide (a.l0 > b.l0) then false else bif decide (a.l1 > b.l1) then false else bif decide (a.l2 > b.l2) then false else bif decide (a.l3 > b.l3) then false else true
theorem tleq_ok:FnPure Try.prog 74 aTT dBool (fun g=>tleq_F g.1 g.2) (fun _=>[]):=pure_of_safe (Γ:=(PTab.gamz tabK [] [(80,4,5),(129,9,5)])) (Λ:=noΛ) (PTab.okz tabK [] [(80,4,5),(129,9,5)]) noΛ_ok 100 default (fun g=>by kernel_rfl) (fun g=>by kernel_rfl)
noncomputable def rtleq_F (a:T) (b:T):Dv.T dBool:=
 bif rtcheck_F a != (0:Int)||(rtcheck_F b != (0:Int)||(a.d != b.d||decide (a.e > b.e))) then false
 else bif decide (a.l0 > b.l0) then false else bif decide (a.l1 > b.l1) then false else bif decide (a.l2 > b.l2) then false else bif decide (a.l3 > b.l3) then false else true
theorem rtleq_ok:FnPure Try.prog 80 aTT dBool (fun g=>rtleq_F g.1 g.2) (fun _=>[]):=pure_of_safe (Γ:=(PTab.gamz tabK [] [(80,4,5),(129,9,5)])) (Λ:=noΛ) (PTab.okz tabK [] [(80,4,5),(129,9,5)]) noΛ_ok 100 default (fun g=>by kernel_rfl) (fun g=>by kernel_rfl)
noncomputable def tcmp_F (a:T) (b:T):Dv.T dI:=
 bif conj ([a.l0==b.l0]++([a.l1==b.l1]++([a.l2==b.l2]++([a.l3==b.l3]++[])))) then bif cmp64_F a.e b.e != (0:Int) then cmp64_F a.e b.e else bif cmpi_F a.d b.d != (0:Int) then cmpi_F a.d b.d else (0:Int)
 else bif (bif (bif (bif (bif cmp64_F a.e b.e != (0:Int) then cmp64_F a.e b.e else bif cmpi_F a.d b.d != (0:Int) then cmpi_F a.d b.d else (0:Int)) != (0:Int) then bif cmp64_F a.e b.e != (0:Int) then cmp64_F a.e b.e else bif cmpi_F a.d b.d != (0:Int) then cmpi_F a.d b.d else (0:Int) else bif cmp64_F a.l0 b.l0 != (0:Int) then cmp64_F a.l0 b.l0 else (0:Int)) != (0:Int) then bif (bif cmp64_F a.e b.e != (0:Int) then cmp64_F a.e b.e else bif cmpi_F a.d b.d != (0:Int) then cmpi_F a.d b.d else (0:Int)) != (0:Int) then bif cmp64_F a.e b.e != (0:Int) then cmp64_F a.e b.e else bif cmpi_F a.d b.d != (0:Int) then cmpi_F a.d b.d else (0:Int) else bif cmp64_F a.l0 b.l0 != (0:Int) then cmp64_F a.l0 b.l0 else (0:Int) else bif cmp64_F a.l1 b.l1 != (0:Int) then cmp64_F a.l1 b.l1 else (0:Int)) != (0:Int) then bif (bif (bif cmp64_F a.e b.e != (0:Int) then cmp64_F a.e b.e else bif cmpi_F a.d b.d != (0:Int) then cmpi_F a.d b.d else (0:Int)) != (0:Int) then bif cmp64_F a.e b.e != (0:Int) then cmp64_F a.e b.e else bif cmpi_F a.d b.d != (0:Int) then cmpi_F a.d b.d else (0:Int) else bif cmp64_F a.l0 b.l0 != (0:Int) then cmp64_F a.l0 b.l0 else (0:Int)) != (0:Int) then bif (bif cmp64_F a.e b.e != (0:Int) then cmp64_F a.e b.e else bif cmpi_F a.d b.d != (0:Int) then cmpi_F a.d b.d else (0:Int)) != (0:Int) then bif cmp64_F a.e b.e != (0:Int) then cmp64_F a.e b.e else bif cmpi_F a.d b.d != (0:Int) then cmpi_F a.d b.d else (0:Int) else bif cmp64_F a.l0 b.l0 != (0:Int) then cmp64_F a.l0 b.l0 else (0:Int) else bif cmp64_F a.l1 b.l1 != (0:Int) then cmp64_F a.l1 b.l1 else (0:Int) else bif cmp64_F a.l2 b.l2 != (0:Int) then cmp64_F a.l2 b.l2 else (0:Int)) != (0:Int) then bif (bif (bif (bif cmp64_F a.e b.e != (0:Int) then cmp64_F a.e b.e else bif cmpi_F a.d b.d != (0:Int) then cmpi_F a.d b.d else (0:Int)) != (0:Int) then bif cmp64_F a.e b.e != (0:Int) then cmp64_F a.e b.e else bif cmpi_F a.d b.d != (0:Int) then cmpi_F a.d b.d else (0:Int) else bif cmp64_F a.l0 b.l0 != (0:Int) then cmp64_F a.l0 b.l0 else (0:Int)) != (0:Int) then bif (bif cmp64_F a.e b.e != (0:Int) then cmp64_F a.e b.e else bif cmpi_F a.d b.d != (0:Int) then cmpi_F a.d b.d else (0:Int)) != (0:Int) then bif cmp64_F a.e b.e != (0:Int) then cmp64_F a.e b.e else bif cmpi_F a.d b.d != (0:Int) then cmpi_F a.d b.d else (0:Int) else bif cmp64_F a.l0 b.l0 != (0:Int) then cmp64_F a.l0 b.l0 else (0:Int) else bif cmp64_F a.l1 b.l1 != (0:Int) then cmp64_F a.l1 b.l1 else (0:Int)) != (0:Int) then bif (bif (bif cmp64_F a.e b.e != (0:Int) then cmp64_F a.e b.e else bif cmpi_F a.d b.d != (0:Int) then cmpi_F a.d b.d else (0:Int)) != (0:Int) then bif cmp64_F a.e b.e != (0:Int) then cmp64_F a.e b.e else bif cmpi_F a.d b.d != (0:Int) then cmpi_F a.d b.d else (0:Int) else bif cmp64_F a.l0 b.l0 != (0:Int) then cmp64_F a.l0 b.l0 else (0:Int)) != (0:Int) then bif (bif cmp64_F a.e b.e != (0:Int) then cmp64_F a.e b.e else bif cmpi_F a.d b.d != (0:Int) then cmpi_F a.d b.d else (0:Int)) != (0:Int) then bif cmp64_F a.e b.e != (0:Int) then cmp64_F a.e b.e else bif cmpi_F a.d b.d != (0:Int) then cmpi_F a.d b.d else (0:Int) else bif cmp64_F a.l0 b.l0 != (0:Int) then cmp64_F a.l0 b.l0 else (0:Int) else bif cmp64_F a.l1 b.l1 != (0:Int) then cmp64_F a.l1 b.l1 else (0:Int) else bif cmp64_F a.l2 b.l2 != (0:Int) then cmp64_F a.l2 b.l2 else (0:Int) else bif cmp64_F a.l3 b.l3 != (0:Int) then cmp64_F a.l3 b.l3 else (0:Int)
theorem tcmp_ok:FnPure Try.prog 71 aTT dI (fun g=>tcmp_F g.1 g.2) (fun _=>[]):=pure_of_safe (Γ:=(PTab.gamz tabK [] [(80,4,5),(129,9,5)])) (Λ:=noΛ) (PTab.okz tabK [] [(80,4,5),(129,9,5)]) noΛ_ok 100 default (fun g=>by kernel_rfl) (fun g=>by kernel_rfl)
noncomputable def rtcmp_F (a:T) (b:T):Dv.T dI:=
 bif decide (a.e<b.e) then (-1:Int)
 else bif decide (a.e > b.e) then (1:Int) else bif decide (a.d<b.d) then (-1:Int) else bif decide (a.d > b.d) then (1:Int) else bif (bif decide (a.l0<b.l0) then (-1:Int) else bif decide (a.l0 > b.l0) then (1:Int) else (0:Int)) != (0:Int) then bif decide (a.l0<b.l0) then (-1:Int) else bif decide (a.l0 > b.l0) then (1:Int) else (0:Int) else bif (bif decide (a.l1<b.l1) then (-1:Int) else bif decide (a.l1 > b.l1) then (1:Int) else (0:Int)) != (0:Int) then bif decide (a.l1<b.l1) then (-1:Int) else bif decide (a.l1 > b.l1) then (1:Int) else (0:Int) else bif (bif decide (a.l2<b.l2) then (-1:Int) else bif decide (a.l2 > b.l2) then (1:Int) else (0:Int)) != (0:Int) then bif decide (a.l2<b.l2) then (-1:Int) else bif decide (a.l2 > b.l2) then (1:Int) else (0:Int) else bif (bif decide (a.l3<b.l3) then (-1:Int) else bif decide (a.l3 > b.l3) then (1:Int) else (0:Int)) != (0:Int) then bif decide (a.l3<b.l3) then (-1:Int) else bif decide (a.l3 > b.l3) then (1:Int) else (0:Int) else (0:Int)
theorem rtcmp_ok:FnPure Try.prog 79 aTT dI (fun g=>rtcmp_F g.1 g.2) (fun _=>[]):=pure_of_safe (Γ:=(PTab.gamz tabK [] [(80,4,5),(129,9,5)])) (Λ:=noΛ) (PTab.okz tabK [] [(80,4,5),(129,9,5)]) noΛ_ok 100 default (fun g=>by kernel_rfl) (fun g=>by kernel_rfl)
noncomputable def tjoin_F (a:T) (b:T):Dv.T dTE:=
 bif tcheck_F a != (0:Int)||tcheck_F b != (0:Int) then (T.mk (0:Int) (0:Int) (0:Int) (0:Int) (0:Int) (0:Int),(10:Int))
 else bif a.d != b.d then (T.mk (0:Int) (0:Int) (0:Int) (0:Int) (0:Int) (0:Int),(11:Int)) else (T.mk (jmax_F a.e b.e) a.d (jmax_F a.l0 b.l0) (jmax_F a.l1 b.l1) (jmax_F a.l2 b.l2) (jmax_F a.l3 b.l3),(0:Int))
theorem tjoin_ok:FnPure Try.prog 101 aTT dTE (fun g=>tjoin_F g.1 g.2) (fun _=>[]):=pure_of_safe (Γ:=(PTab.gamz tabK [] [(80,4,5),(129,9,5)])) (Λ:=noΛ) (PTab.okz tabK [] [(80,4,5),(129,9,5)]) noΛ_ok 100 default (fun g=>by kernel_rfl) (fun g=>by kernel_rfl)
noncomputable def tabL:PTab Try.prog:=(((((tabK).cons 74 (pconP aTT dBool (fun g=>tleq_F g.1 g.2) (fun _=>[])) (conP_ok tleq_ok puB)).cons 80 (pconP aTT dBool (fun g=>rtleq_F g.1 g.2) (fun _=>[])) (conP_ok rtleq_ok puB)).cons 71 (pconP aTT dI (fun g=>tcmp_F g.1 g.2) (fun _=>[])) (conP_ok tcmp_ok puI)).cons 79 (pconP aTT dI (fun g=>rtcmp_F g.1 g.2) (fun _=>[])) (conP_ok rtcmp_ok puI)).cons 101 (pconP aTT dTE (fun g=>tjoin_F g.1 g.2) (fun _=>[])) (conP_ok tjoin_ok puTE)
end Go.Proofs.Ytiipneclghnfhaa

namespace Go.Proofs.Ytiipneclghnfhaa
open Go.RowKit Go.Sx Go.Lp
def keyT (a:T):List Int:=[a.e,a.d,a.l0,a.l1,a.l2,a.l3]
theorem keyT_inj (a b:T) (h:keyT a=keyT b):a=b:=by
 obtain ⟨f,k,p0,p1,p2,p3⟩:=a
 obtain ⟨f',k',p0',p1',p2',p3'⟩:=b
 simp only[keyT,List.cons.injEq,and_true] at h
 obtain ⟨rfl,rfl,rfl,rfl,rfl,rfl⟩:=h
 rfl
theorem cmp3 (x y:Int):(x<y∧cmp64_F x y=-1)∨(y<x∧cmp64_F x y=1)∨(x=y∧cmp64_F x y=0):=by
 unfold cmp64_F
 by_cases h:x<y
 ·left;simp[h]
 ·by_cases h2:y<x
  ·right;left;simp[h,h2]
  ·right;right
   refine ⟨by omega,?_⟩
   simp[h,h2]
theorem cmpi_same (x y:Int):cmpi_F x y=cmp64_F x y:=rfl
theorem or_self {x:Int}:(bif x != 0 then x else 0)=x:=by
 by_cases h:x=0
 ·subst h;rfl
 ·have:(x != 0)=true:=by simpa using h
  rw[this];rfl
theorem tcmp_lex (a b:T):tcmp_F a b=lexC (keyT a) (keyT b):=by
 unfold tcmp_F keyT
 simp only[cmpi_same,lexC,or_self,conj,List.append_nil,List.cons_append,List.nil_append]
 rcases cmp3 a.e b.e with ⟨h,e⟩ | ⟨h,e⟩ | ⟨h,e⟩ <;> simp only[e]
 ·simp[h]
 ·have:¬ a.e<b.e:=by omega
  simp[h,this]
 rw[if_neg (by omega),if_neg (by omega)]
 rcases cmp3 a.d b.d with ⟨h,e⟩ | ⟨h,e⟩ | ⟨h,e⟩ <;> simp only[e]
 ·simp[h]
 ·have:¬ a.d<b.d:=by omega
  simp[h,this]
 rw[if_neg (by omega),if_neg (by omega)]
 rcases cmp3 a.l0 b.l0 with ⟨h,e⟩ | ⟨h,e⟩ | ⟨h,e⟩ <;> simp only[e]
 ·have h2:(a.l0==b.l0)=false:=beq_eq_false_iff_ne.2 (by omega)
  simp[h,h2]
 ·have h2:¬ a.l0<b.l0:=by omega
  have h3:(a.l0==b.l0)=false:=beq_eq_false_iff_ne.2 (by omega)
  simp[h,h2,h3]
 rw[if_neg (by omega),if_neg (by omega)]
 rcases cmp3 a.l1 b.l1 with ⟨h1,e⟩ | ⟨h1,e⟩ | ⟨h1,e⟩ <;> simp only[e]
 ·have h2:(a.l1==b.l1)=false:=beq_eq_false_iff_ne.2 (by omega)
  simp[h,h1,h2]
 ·have h2:¬ a.l1<b.l1:=by omega
  have h3:(a.l1==b.l1)=false:=beq_eq_false_iff_ne.2 (by omega)
  simp[h,h1,h2,h3]
 rw[if_neg (by omega),if_neg (by omega)]
 rcases cmp3 a.l2 b.l2 with ⟨h1,e⟩ | ⟨h1,e⟩ | ⟨h1,e⟩ <;> simp only[e]
 ·have h2:(a.l2==b.l2)=false:=beq_eq_false_iff_ne.2 (by omega)
  simp[h,h1,h2]
 ·have h2:¬ a.l2<b.l2:=by omega
  have h3:(a.l2==b.l2)=false:=beq_eq_false_iff_ne.2 (by omega)
  simp[h,h1,h2,h3]
 rw[if_neg (by omega),if_neg (by omega)]
 rcases cmp3 a.l3 b.l3 with ⟨h1,e⟩ | ⟨h1,e⟩ | ⟨h1,e⟩ <;> simp only[e]
 ·have h2:(a.l3==b.l3)=false:=beq_eq_false_iff_ne.2 (by omega)
  simp[h,h1,h2]
 ·have h2:¬ a.l3<b.l3:=by omega
  have h3:(a.l3==b.l3)=false:=beq_eq_false_iff_ne.2 (by omega)
  simp[h,h1,h2,h3]
 rw[if_neg (by omega),if_neg (by omega)]
 simp
theorem sg (x y:Int):(bif decide (x<y) then (-1:Int) else bif decide (x > y) then (1:Int) else (0:Int))=cmp64_F x y:=by
 unfold cmp64_F
 simp
theorem rtcmp_lex (a b:T):rtcmp_F a b=lexC (keyT a) (keyT b):=by
 unfold rtcmp_F keyT
 simp only[sg,lexC,or_self]
 by_cases h:a.e<b.e
 ·simp[h]
 by_cases h2:b.e<a.e
 ·simp[h,h2]
 by_cases h3:a.d<b.d
 ·simp[h,h2,h3]
 by_cases h4:b.d<a.d
 ·simp[h,h2,h3,h4]
 simp only[h,h2,h3,h4,if_false,decide_false,cond_false,gt_iff_lt]
 rcases cmp3 a.l0 b.l0 with ⟨h1,e⟩ | ⟨h1,e⟩ | ⟨h1,e⟩ <;> simp only[e]
 ·simp[h1]
 ·have:¬ a.l0<b.l0:=by omega
  simp[h1,this]
 rw[if_neg (by omega),if_neg (by omega)]
 rcases cmp3 a.l1 b.l1 with ⟨h1,e⟩ | ⟨h1,e⟩ | ⟨h1,e⟩ <;> simp only[e]
 ·simp[h1]
 ·have:¬ a.l1<b.l1:=by omega
  simp[h1,this]
 rw[if_neg (by omega),if_neg (by omega)]
 rcases cmp3 a.l2 b.l2 with ⟨h1,e⟩ | ⟨h1,e⟩ | ⟨h1,e⟩ <;> simp only[e]
 ·simp[h1]
 ·have:¬ a.l2<b.l2:=by omega
  simp[h1,this]
 rw[if_neg (by omega),if_neg (by omega)]
 rcases cmp3 a.l3 b.l3 with ⟨h1,e⟩ | ⟨h1,e⟩ | ⟨h1,e⟩ <;> simp only[e]
 ·simp[h1]
 ·have:¬ a.l3<b.l3:=by omega
  simp[h1,this]
 rw[if_neg (by omega),if_neg (by omega)]
 rfl
theorem rtcmp_eq (a b:T):rtcmp_F a b=tcmp_F a b:=by rw[rtcmp_lex,tcmp_lex]
theorem rtleq_eq (a b:T):rtleq_F a b=tleq_F a b:=rfl
theorem toT:TO fun a b=>tcmp_F a b:=to_lex keyT keyT_inj fun a b=>by rw[tcmp_lex]
theorem tleq_iff (a b:T):tleq_F a b=true↔a.Ok∧b.Ok∧a.d=b.d∧a.e≤b.e∧a.l0≤b.l0∧a.l1≤b.l1∧a.l2≤b.l2∧a.l3≤b.l3:=by
 unfold tleq_F
 simp only[cond_ff,Bool.or_eq_false_iff,bne_eq_false_iff_eq,tcheck_iff,decide_eq_false_iff_not,gt_iff_lt,Int.not_lt,and_true]
 constructor
 ·rintro ⟨⟨h1,h2,h3,h4⟩,h5,h6,h7,h8⟩
  exact ⟨h1,h2,h3,h4,h5,h6,h7,h8⟩
 ·rintro ⟨h1,h2,h3,h4,h5,h6,h7,h8⟩
  exact ⟨⟨h1,h2,h3,h4⟩,h5,h6,h7,h8⟩
theorem poT:PO (fun a b=>tcmp_F a b) tleq_F where
 trans x y z h1 h2:=by
  rw[tleq_iff] at *
  obtain ⟨a1,_,a3,a4,a5,a6,a7,a8⟩:=h1
  obtain ⟨_,b2,b3,b4,b5,b6,b7,b8⟩:=h2
  exact ⟨a1,b2,by omega,by omega,by omega,by omega,by omega,by omega⟩
 anti x y h1 h2:=by
  rw[tleq_iff] at *
  obtain ⟨_,_,a3,a4,a5,a6,a7,a8⟩:=h1
  obtain ⟨_,_,b3,b4,b5,b6,b7,b8⟩:=h2
  apply keyT_inj
  simp only[keyT,List.cons.injEq,and_true]
  omega
 ext x y h hn:=by
  rw[tleq_iff] at h
  obtain ⟨_,_,a3,a4,a5,a6,a7,a8⟩:=h
  show tcmp_F x y<0
  rw[tcmp_lex]
  have hk:keyT x≠keyT y:=fun hk=>hn (keyT_inj _ _ hk)
  have step:∀ (p q:Int) (r t:List Int),p≤q→(p=q→lexC r t<0)→lexC (p :: r) (q :: t)<0:=fun p q r t h1 h2=>by
   unfold lexC
   by_cases hpq:p<q
   ·rw[if_pos hpq];decide
   ·rw[if_neg hpq,if_neg (by omega)];exact h2 (by omega)
  refine step _ _ _ _ a4 fun e1=>step _ _ _ _ (Int.le_of_eq a3) fun _=>step _ _ _ _ a5 fun e2=>step _ _ _ _ a6 fun e3=>step _ _ _ _ a7 fun e4=>step _ _ _ _ a8 fun e5=>?_
  exact absurd (by simp only[keyT,e1,a3,e2,e3,e4,e5]) hk
theorem tleq_refl {t:T} (h:t.Ok):tleq_F t t=true:=(tleq_iff t t).2 ⟨h,h,rfl,Int.le_refl _,Int.le_refl _,Int.le_refl _,Int.le_refl _,Int.le_refl _⟩
end Go.Proofs.Ytiipneclghnfhaa

namespace Go.Proofs.Ytiipneclghnfhaa
open Go.RowKit Go.Sx
set_option maxRecDepth 100000
set_option linter.unusedVariables false
abbrev dLT:Dv (List T):=.list eT
abbrev tLT:Nat:=22
abbrev dFt:Dv (List T):=dFn1 113 dLT
abbrev dFc:Dv T:=dFnE 76 eT
abbrev ia_G:Type:=List T×List T×Int×Int×Int
noncomputable def ia_LP:LP 0 ia_G:=.pair (.slot 0 0 dLT) (.pair (.slot 0 1 dFt) (.pair (.slot 0 7 dI) (.pair (.slot 0 8 dI) (.slot 0 4 dI))))
noncomputable def ia_R (xs:List T) (l:List T) (n:Int) (i:Int) (r:Int):Ex×ia_G:=
 bif decide (i<n) then bif (xs.getD i.toNat eT.dflt).d != (l.getD (0:Nat) eT.dflt).d then (Ex.ret,eT.lst xs.length (eT.els xs),eT.lst l.length (eT.els l),n,i,i) else (Ex.normal,eT.lst xs.length (eT.els xs),eT.lst l.length (eT.els l),n,IntKind.i64.wrap (i+(1:Int)),r)
 else (Ex.exit (0:Nat),eT.lst xs.length (eT.els xs),eT.lst l.length (eT.els l),n,i,r)
def ia_side (xs:List T) (l:List T) (n:Int) (i:Int) (r:Int):Prop:=
 (decide (i<n)=true→((0:Int)≤i∧i<(↑xs.length:Int))∧((0:Int)≤(0:Int)∧(0:Int)<(↑l.length:Int))∧(((xs.getD i.toNat eT.dflt).d != (l.getD (0:Nat) eT.dflt).d)=true→(∀ (e:Nat),e<xs.length→eT.Ok (eT.els xs e))∧∀ (e:Nat),e<l.length→eT.Ok (eT.els l e))∧(((xs.getD i.toNat eT.dflt).d != (l.getD (0:Nat) eT.dflt).d)=false→(∀ (e:Nat),e<xs.length→eT.Ok (eT.els xs e))∧∀ (e:Nat),e<l.length→eT.Ok (eT.els l e)))∧(decide (i<n)=false→(∀ (e:Nat),e<xs.length→eT.Ok (eT.els xs e))∧∀ (e:Nat),e<l.length→eT.Ok (eT.els l e))
theorem ia_one:((loopsOf Try.prog 120).filter fun c=>Nat.beq (lkey c) 2).length=1:=by kernel_rfl
abbrev ia_GC:Type:=List T×List T×Int
abbrev ia_GB:Type:=Int
def ia_f (g:ia_G):Int×ia_GC×ia_GB:=(g.2.2.2.1,(g.1,g.2.1,g.2.2.1),g.2.2.2.2)
def ia_g (d:Int×ia_GC×ia_GB):ia_G:=(d.2.1.1,d.2.1.2.1,d.2.1.2.2,d.1,d.2.2)
theorem ia_es (g:ia_G):(ia_R g.1 g.2.1 g.2.2.1 g.2.2.2.1 g.2.2.2.2).1=.normal∨(ia_R g.1 g.2.1 g.2.2.1 g.2.2.2.1 g.2.2.2.2).1∈([.ret,.exit 0]:List Ex):=by
 unfold ia_R
 repeat' (first | (left;rfl) | (right;simp only[cond_true,cond_false];simp;done) | (rw[Bool.cond_eq_ite];split))
noncomputable abbrev ia_C (Inv:ia_G→List Prop) (m:ia_G→Nat):LCon:=loopR [.ret,.exit 0] (loopBody Try.prog 120 2) ia_LP [] 19 Inv (fun g=>ia_R g.1 g.2.1 g.2.2.1 g.2.2.2.1 g.2.2.2.2) m
theorem ia_loop (Inv:ia_G→List Prop) (m:ia_G→Nat) (hs:∀ g,allP (Inv g)→ia_side g.1 g.2.1 g.2.2.1 g.2.2.2.1 g.2.2.2.2) (hg:Goes (fun g:ia_G=>ia_R g.1 g.2.1 g.2.2.1 g.2.2.2.1 g.2.2.2.2) m fun g=>allP (Inv g)):∀ b∈loopsOf Try.prog 120,lkey b=2→LoopOk Try.prog b (ia_C Inv m).g:=loop_run (Γ:=(PTab.gamz tabL [] [])) (Λ:=noΛ) (PTab.okz tabL [] []) noΛ_ok 100 120 2 19 ia_LP [] Inv (fun g=>ia_R g.1 g.2.1 g.2.2.1 g.2.2.2.1 g.2.2.2.2) (fun g=>ia_side g.1 g.2.1 g.2.2.1 g.2.2.2.1 g.2.2.2.2) m default [.ret,.exit 0] ia_one (fun rd T B HL HB ds g=>by kernel_rfl) (fun rd T B HL HB ds g=>by kernel_rfl) hs hg ia_es
abbrev ib_G:Type:=List T×T×Int×Int×Int
noncomputable def ib_LP:LP 0 ib_G:=.pair (.slot 0 0 dLT) (.pair (.slot 0 1 dFc) (.pair (.slot 0 7 dI) (.pair (.slot 0 8 dI) (.slot 0 4 dI))))
noncomputable def ib_R (xs:List T) (t:T) (n:Int) (i:Int) (r:Int):Ex×ib_G:=
 bif decide (i<n) then bif tleq_F (xs.getD i.toNat eT.dflt) t then (Ex.ret,eT.lst xs.length (eT.els xs),t,n,i,i) else (Ex.normal,eT.lst xs.length (eT.els xs),t,n,IntKind.i64.wrap (i+(1:Int)),r)
 else (Ex.exit (0:Nat),eT.lst xs.length (eT.els xs),t,n,i,r)
def ib_side (xs:List T) (t:T) (n:Int) (i:Int) (r:Int):Prop:=
 (decide (i<n)=true→((0:Int)≤i∧i<(↑xs.length:Int))∧(tleq_F (xs.getD i.toNat eT.dflt) t=true→∀ (e:Nat),e<xs.length→eT.Ok (eT.els xs e))∧(tleq_F (xs.getD i.toNat eT.dflt) t=false→∀ (e:Nat),e<xs.length→eT.Ok (eT.els xs e)))∧(decide (i<n)=false→∀ (e:Nat),e<xs.length→eT.Ok (eT.els xs e))
theorem ib_one:((loopsOf Try.prog 120).filter fun c=>Nat.beq (lkey c) 2).length=1:=by kernel_rfl
abbrev ib_GC:Type:=List T×T×Int
abbrev ib_GB:Type:=Int
def ib_f (g:ib_G):Int×ib_GC×ib_GB:=(g.2.2.2.1,(g.1,g.2.1,g.2.2.1),g.2.2.2.2)
def ib_g (d:Int×ib_GC×ib_GB):ib_G:=(d.2.1.1,d.2.1.2.1,d.2.1.2.2,d.1,d.2.2)
theorem ib_es (g:ib_G):(ib_R g.1 g.2.1 g.2.2.1 g.2.2.2.1 g.2.2.2.2).1=.normal∨(ib_R g.1 g.2.1 g.2.2.1 g.2.2.2.1 g.2.2.2.2).1∈([.ret,.exit 0]:List Ex):=by
 unfold ib_R
 repeat' (first | (left;rfl) | (right;simp only[cond_true,cond_false];simp;done) | (rw[Bool.cond_eq_ite];split))
noncomputable abbrev ib_C (Inv:ib_G→List Prop) (m:ib_G→Nat):LCon:=loopR [.ret,.exit 0] (loopBody Try.prog 120 2) ib_LP [] 19 Inv (fun g=>ib_R g.1 g.2.1 g.2.2.1 g.2.2.2.1 g.2.2.2.2) m
theorem ib_loop (Inv:ib_G→List Prop) (m:ib_G→Nat) (hs:∀ g,allP (Inv g)→ib_side g.1 g.2.1 g.2.2.1 g.2.2.2.1 g.2.2.2.2) (hg:Goes (fun g:ib_G=>ib_R g.1 g.2.1 g.2.2.1 g.2.2.2.1 g.2.2.2.2) m fun g=>allP (Inv g)):∀ b∈loopsOf Try.prog 120,lkey b=2→LoopOk Try.prog b (ib_C Inv m).g:=loop_run (Γ:=(PTab.gamz tabL [] [])) (Λ:=noΛ) (PTab.okz tabL [] []) noΛ_ok 100 120 2 19 ib_LP [] Inv (fun g=>ib_R g.1 g.2.1 g.2.2.1 g.2.2.2.1 g.2.2.2.2) (fun g=>ib_side g.1 g.2.1 g.2.2.1 g.2.2.2.1 g.2.2.2.2) m default [.ret,.exit 0] ib_one (fun rd T B HL HB ds g=>by kernel_rfl) (fun rd T B HL HB ds g=>by kernel_rfl) hs hg ib_es
abbrev ii_G:Type:=List T×Unit×T×Int×Int×Int
noncomputable def ii_LP:LP 1 ii_G:=.pair (.slot 1 0 dLT) (.pair (.fix 1 3 (.p 0 0)) (.pair (.obj 1 0 30 eT) (.pair (.slot 1 7 dI) (.pair (.slot 1 8 dI) (.slot 1 4 dI)))))
noncomputable def ii_R (xs:List T) (_u:Unit) (t:T) (n:Int) (i:Int) (r:Int):Ex×ii_G:=
 bif decide (i<n) then bif conj ([t.e==(xs.getD i.toNat eT.dflt).e]++([t.d==(xs.getD i.toNat eT.dflt).d]++([t.l0==(xs.getD i.toNat eT.dflt).l0]++([t.l1==(xs.getD i.toNat eT.dflt).l1]++([t.l2==(xs.getD i.toNat eT.dflt).l2]++([t.l3==(xs.getD i.toNat eT.dflt).l3]++[])))++[]))) then (Ex.ret,eT.lst xs.length (eT.els xs),(),t,n,i,i) else (Ex.normal,eT.lst xs.length (eT.els xs),(),t,n,IntKind.i64.wrap (i+(1:Int)),r)
 else (Ex.exit (0:Nat),eT.lst xs.length (eT.els xs),(),t,n,i,r)
def ii_side (xs:List T) (_u:Unit) (t:T) (n:Int) (i:Int) (r:Int):Prop:=
 (decide (i<n)=true→((0:Int)≤i∧i<(↑xs.length:Int))∧(conj ([t.e==(xs.getD i.toNat eT.dflt).e]++([t.d==(xs.getD i.toNat eT.dflt).d]++([t.l0==(xs.getD i.toNat eT.dflt).l0]++([t.l1==(xs.getD i.toNat eT.dflt).l1]++([t.l2==(xs.getD i.toNat eT.dflt).l2]++([t.l3==(xs.getD i.toNat eT.dflt).l3]++[])))++[])))=true→∀ (e:Nat),e<xs.length→eT.Ok (eT.els xs e))∧(conj ([t.e==(xs.getD i.toNat eT.dflt).e]++([t.d==(xs.getD i.toNat eT.dflt).d]++([t.l0==(xs.getD i.toNat eT.dflt).l0]++([t.l1==(xs.getD i.toNat eT.dflt).l1]++([t.l2==(xs.getD i.toNat eT.dflt).l2]++([t.l3==(xs.getD i.toNat eT.dflt).l3]++[])))++[])))=false→∀ (e:Nat),e<xs.length→eT.Ok (eT.els xs e)))∧(decide (i<n)=false→∀ (e:Nat),e<xs.length→eT.Ok (eT.els xs e))
theorem ii_one:((loopsOf Try.prog 77).filter fun c=>Nat.beq (lkey c) 2).length=1:=by kernel_rfl
abbrev ii_GC:Type:=List T×T×Int
abbrev ii_GB:Type:=Unit×Int
def ii_f (g:ii_G):Int×ii_GC×ii_GB:=(g.2.2.2.2.1,(g.1,g.2.2.1,g.2.2.2.1),(g.2.1,g.2.2.2.2.2))
def ii_g (d:Int×ii_GC×ii_GB):ii_G:=(d.2.1.1,d.2.2.1,d.2.1.2.1,d.2.1.2.2,d.1,d.2.2.2)
theorem ii_es (g:ii_G):(ii_R g.1 g.2.1 g.2.2.1 g.2.2.2.1 g.2.2.2.2.1 g.2.2.2.2.2).1=.normal∨(ii_R g.1 g.2.1 g.2.2.1 g.2.2.2.1 g.2.2.2.2.1 g.2.2.2.2.2).1∈([.ret,.exit 0]:List Ex):=by
 unfold ii_R
 repeat' (first | (left;rfl) | (right;simp only[cond_true,cond_false];simp;done) | (rw[Bool.cond_eq_ite];split))
noncomputable abbrev ii_C (Inv:ii_G→List Prop) (m:ii_G→Nat):LCon:=loopR [.ret,.exit 0] (loopBody Try.prog 77 2) ii_LP [] 19 Inv (fun g=>ii_R g.1 g.2.1 g.2.2.1 g.2.2.2.1 g.2.2.2.2.1 g.2.2.2.2.2) m
theorem ii_loop (Inv:ii_G→List Prop) (m:ii_G→Nat) (hs:∀ g,allP (Inv g)→ii_side g.1 g.2.1 g.2.2.1 g.2.2.2.1 g.2.2.2.2.1 g.2.2.2.2.2) (hg:Goes (fun g:ii_G=>ii_R g.1 g.2.1 g.2.2.1 g.2.2.2.1 g.2.2.2.2.1 g.2.2.2.2.2) m fun g=>allP (Inv g)):∀ b∈loopsOf Try.prog 77,lkey b=2→LoopOk Try.prog b (ii_C Inv m).g:=loop_run (Γ:=(PTab.gamz tabL [] [])) (Λ:=noΛ) (PTab.okz tabL [] []) noΛ_ok 100 77 2 19 ii_LP [] Inv (fun g=>ii_R g.1 g.2.1 g.2.2.1 g.2.2.2.1 g.2.2.2.2.1 g.2.2.2.2.2) (fun g=>ii_side g.1 g.2.1 g.2.2.1 g.2.2.2.1 g.2.2.2.2.1 g.2.2.2.2.2) m default [.ret,.exit 0] ii_one (fun rd T B HL HB ds g=>by kernel_rfl) (fun rd T B HL HB ds g=>by kernel_rfl) hs hg ii_es
abbrev tms_G:Type:=List T×Int×Int×Int×Unit×List T
noncomputable def tms_LP:LP 1 tms_G:=.pair (.slot 1 6 dLT) (.pair (.slot 1 7 dI) (.pair (.slot 1 8 dI) (.pair (.slot 1 2 dI) (.pair (.fix 1 1 (.p 0 0)) (.obj 1 0 tLT (eList eT))))))
noncomputable def tms_R (xs:List T) (n:Int) (i:Int) (r:Int) (_u:Unit) (l:List T):Ex×tms_G:=
 bif decide (i<n) then bif tcheck_F (xs.getD i.toNat eT.dflt) != (0:Int) then (Ex.ret,eT.lst xs.length (eT.els xs),n,i,tcheck_F (xs.getD i.toNat eT.dflt),(),eT.lst l.length (eT.els l)) else (Ex.normal,eT.lst xs.length (eT.els xs),n,IntKind.i64.wrap (i+(1:Int)),r,(),eT.lst l.length (eT.els l))
 else (Ex.exit (0:Nat),eT.lst xs.length (eT.els xs),n,i,r,(),eT.lst l.length (eT.els l))
def tms_side (xs:List T) (n:Int) (i:Int) (r:Int) (_u:Unit) (l:List T):Prop:=
 (decide (i<n)=true→((0:Int)≤i∧i<(↑xs.length:Int))∧((tcheck_F (xs.getD i.toNat eT.dflt) != (0:Int))=true→(∀ (e:Nat),e<xs.length→eT.Ok (eT.els xs e))∧∀ (e:Nat),e<l.length→eT.Ok (eT.els l e))∧((tcheck_F (xs.getD i.toNat eT.dflt) != (0:Int))=false→(∀ (e:Nat),e<xs.length→eT.Ok (eT.els xs e))∧∀ (e:Nat),e<l.length→eT.Ok (eT.els l e)))∧(decide (i<n)=false→(∀ (e:Nat),e<xs.length→eT.Ok (eT.els xs e))∧∀ (e:Nat),e<l.length→eT.Ok (eT.els l e))
theorem tms_one:((loopsOf Try.prog 68).filter fun c=>Nat.beq (lkey c) 2).length=1:=by kernel_rfl
abbrev tms_GC:Type:=List T×Int×List T
abbrev tms_GB:Type:=Int×Unit
def tms_f (g:tms_G):Int×tms_GC×tms_GB:=(g.2.2.1,(g.1,g.2.1,g.2.2.2.2.2),(g.2.2.2.1,g.2.2.2.2.1))
def tms_g (d:Int×tms_GC×tms_GB):tms_G:=(d.2.1.1,d.2.1.2.1,d.1,d.2.2.1,d.2.2.2,d.2.1.2.2)
theorem tms_es (g:tms_G):(tms_R g.1 g.2.1 g.2.2.1 g.2.2.2.1 g.2.2.2.2.1 g.2.2.2.2.2).1=.normal∨(tms_R g.1 g.2.1 g.2.2.1 g.2.2.2.1 g.2.2.2.2.1 g.2.2.2.2.2).1∈([.ret,.exit 0]:List Ex):=by
 unfold tms_R
 repeat' (first | (left;rfl) | (right;simp only[cond_true,cond_false];simp;done) | (rw[Bool.cond_eq_ite];split))
noncomputable abbrev tms_C (Inv:tms_G→List Prop) (m:tms_G→Nat):LCon:=loopR [.ret,.exit 0] (loopBody Try.prog 68 2) tms_LP [] 21 Inv (fun g=>tms_R g.1 g.2.1 g.2.2.1 g.2.2.2.1 g.2.2.2.2.1 g.2.2.2.2.2) m
theorem tms_loop (Inv:tms_G→List Prop) (m:tms_G→Nat) (hs:∀ g,allP (Inv g)→tms_side g.1 g.2.1 g.2.2.1 g.2.2.2.1 g.2.2.2.2.1 g.2.2.2.2.2) (hg:Goes (fun g:tms_G=>tms_R g.1 g.2.1 g.2.2.1 g.2.2.2.1 g.2.2.2.2.1 g.2.2.2.2.2) m fun g=>allP (Inv g)):∀ b∈loopsOf Try.prog 68,lkey b=2→LoopOk Try.prog b (tms_C Inv m).g:=loop_run (Γ:=(PTab.gamz tabL [] [])) (Λ:=noΛ) (PTab.okz tabL [] []) noΛ_ok 100 68 2 21 tms_LP [] Inv (fun g=>tms_R g.1 g.2.1 g.2.2.1 g.2.2.2.1 g.2.2.2.2.1 g.2.2.2.2.2) (fun g=>tms_side g.1 g.2.1 g.2.2.1 g.2.2.2.1 g.2.2.2.2.1 g.2.2.2.2.2) m default [.ret,.exit 0] tms_one (fun rd T B HL HB ds g=>by kernel_rfl) (fun rd T B HL HB ds g=>by kernel_rfl) hs hg tms_es
abbrev ra_G:Type:=List T×Int×Int
noncomputable def ra_LP:LP 0 ra_G:=.pair (.slot 0 0 dLT) (.pair (.slot 0 3 dI) (.slot 0 2 dI))
noncomputable def ra_R (xs:List T) (i:Int) (r:Int):Ex×ra_G:=
 bif decide (i<(↑xs.length:Int)) then bif rtcheck_F (xs.getD i.toNat eT.dflt) != (0:Int) then (Ex.ret,eT.lst xs.length (eT.els xs),i,(10:Int)) else (Ex.normal,eT.lst xs.length (eT.els xs),IntKind.i64.wrap (i+(1:Int)),r)
 else (Ex.exit (0:Nat),eT.lst xs.length (eT.els xs),i,r)
def ra_side (xs:List T) (i:Int) (r:Int):Prop:=
 (decide (i<(↑xs.length:Int))=true→((0:Int)≤i∧i<(↑xs.length:Int))∧((rtcheck_F (xs.getD i.toNat eT.dflt) != (0:Int))=true→∀ (e:Nat),e<xs.length→eT.Ok (eT.els xs e))∧((rtcheck_F (xs.getD i.toNat eT.dflt) != (0:Int))=false→∀ (e:Nat),e<xs.length→eT.Ok (eT.els xs e)))∧(decide (i<(↑xs.length:Int))=false→∀ (e:Nat),e<xs.length→eT.Ok (eT.els xs e))
theorem ra_one:((loopsOf Try.prog 78).filter fun c=>Nat.beq (lkey c) 2).length=1:=by kernel_rfl
abbrev ra_GC:Type:=List T
abbrev ra_GB:Type:=Int
def ra_f (g:ra_G):Int×ra_GC×ra_GB:=(g.2.1,g.1,g.2.2)
def ra_g (d:Int×ra_GC×ra_GB):ra_G:=(d.2.1,d.1,d.2.2)
theorem ra_es (g:ra_G):(ra_R g.1 g.2.1 g.2.2).1=.normal∨(ra_R g.1 g.2.1 g.2.2).1∈([.ret,.exit 0]:List Ex):=by
 unfold ra_R
 repeat' (first | (left;rfl) | (right;simp only[cond_true,cond_false];simp;done) | (rw[Bool.cond_eq_ite];split))
noncomputable abbrev ra_C (Inv:ra_G→List Prop) (m:ra_G→Nat):LCon:=loopR [.ret,.exit 0] (loopBody Try.prog 78 2) ra_LP [] 33 Inv (fun g=>ra_R g.1 g.2.1 g.2.2) m
theorem ra_loop (Inv:ra_G→List Prop) (m:ra_G→Nat) (hs:∀ g,allP (Inv g)→ra_side g.1 g.2.1 g.2.2) (hg:Goes (fun g:ra_G=>ra_R g.1 g.2.1 g.2.2) m fun g=>allP (Inv g)):∀ b∈loopsOf Try.prog 78,lkey b=2→LoopOk Try.prog b (ra_C Inv m).g:=loop_run (Γ:=(PTab.gamz tabL [] [])) (Λ:=noΛ) (PTab.okz tabL [] []) noΛ_ok 100 78 2 33 ra_LP [] Inv (fun g=>ra_R g.1 g.2.1 g.2.2) (fun g=>ra_side g.1 g.2.1 g.2.2) m default [.ret,.exit 0] ra_one (fun rd T B HL HB ds g=>by kernel_rfl) (fun rd T B HL HB ds g=>by kernel_rfl) hs hg ra_es
abbrev rb_G:Type:=List T×Int×Int
noncomputable def rb_LP:LP 0 rb_G:=.pair (.slot 0 0 dLT) (.pair (.slot 0 4 dI) (.slot 0 2 dI))
noncomputable def rb_R (xs:List T) (i:Int) (r:Int):Ex×rb_G:=
 bif decide (i<(↑xs.length:Int)) then bif (xs.getD i.toNat eT.dflt).d != (xs.getD (0:Nat) eT.dflt).d then (Ex.ret,eT.lst xs.length (eT.els xs),i,(11:Int)) else (Ex.normal,eT.lst xs.length (eT.els xs),IntKind.i64.wrap (i+(1:Int)),r)
 else (Ex.exit (2:Nat),eT.lst xs.length (eT.els xs),i,r)
def rb_side (xs:List T) (i:Int) (r:Int):Prop:=
 (decide (i<(↑xs.length:Int))=true→((0:Int)≤i∧i<(↑xs.length:Int))∧((0:Int)≤(0:Int)∧(0:Int)<(↑xs.length:Int))∧(((xs.getD i.toNat eT.dflt).d != (xs.getD (0:Nat) eT.dflt).d)=true→∀ (e:Nat),e<xs.length→eT.Ok (eT.els xs e))∧(((xs.getD i.toNat eT.dflt).d != (xs.getD (0:Nat) eT.dflt).d)=false→∀ (e:Nat),e<xs.length→eT.Ok (eT.els xs e)))∧(decide (i<(↑xs.length:Int))=false→∀ (e:Nat),e<xs.length→eT.Ok (eT.els xs e))
theorem rb_one:((loopsOf Try.prog 78).filter fun c=>Nat.beq (lkey c) 7).length=1:=by kernel_rfl
abbrev rb_GC:Type:=List T
abbrev rb_GB:Type:=Int
def rb_f (g:rb_G):Int×rb_GC×rb_GB:=(g.2.1,g.1,g.2.2)
def rb_g (d:Int×rb_GC×rb_GB):rb_G:=(d.2.1,d.1,d.2.2)
theorem rb_es (g:rb_G):(rb_R g.1 g.2.1 g.2.2).1=.normal∨(rb_R g.1 g.2.1 g.2.2).1∈([.ret,.exit 2]:List Ex):=by
 unfold rb_R
 repeat' (first | (left;rfl) | (right;simp only[cond_true,cond_false];simp;done) | (rw[Bool.cond_eq_ite];split))
noncomputable abbrev rb_C (Inv:rb_G→List Prop) (m:rb_G→Nat):LCon:=loopR [.ret,.exit 2] (loopBody Try.prog 78 7) rb_LP [] 33 Inv (fun g=>rb_R g.1 g.2.1 g.2.2) m
theorem rb_loop (Inv:rb_G→List Prop) (m:rb_G→Nat) (hs:∀ g,allP (Inv g)→rb_side g.1 g.2.1 g.2.2) (hg:Goes (fun g:rb_G=>rb_R g.1 g.2.1 g.2.2) m fun g=>allP (Inv g)):∀ b∈loopsOf Try.prog 78,lkey b=7→LoopOk Try.prog b (rb_C Inv m).g:=loop_run (Γ:=(PTab.gamz tabL [] [])) (Λ:=noΛ) (PTab.okz tabL [] []) noΛ_ok 100 78 7 33 rb_LP [] Inv (fun g=>rb_R g.1 g.2.1 g.2.2) (fun g=>rb_side g.1 g.2.1 g.2.2) m default [.ret,.exit 2] rb_one (fun rd T B HL HB ds g=>by kernel_rfl) (fun rd T B HL HB ds g=>by kernel_rfl) hs hg rb_es
abbrev hs_G:Type:=List T×Unit×T×Int×Bool
noncomputable def hs_LP:LP 1 hs_G:=.pair (.slot 1 0 dLT) (.pair (.fix 1 3 (.p 0 0)) (.pair (.obj 1 0 30 eT) (.pair (.slot 1 5 dI) (.slot 1 4 dBool))))
noncomputable def hs_R (xs:List T) (_u:Unit) (t:T) (i:Int) (r:Bool):Ex×hs_G:=
 bif decide (i<(↑xs.length:Int)) then bif conj ([(xs.getD i.toNat eT.dflt).e==t.e]++([(xs.getD i.toNat eT.dflt).d==t.d]++([(xs.getD i.toNat eT.dflt).l0==t.l0]++([(xs.getD i.toNat eT.dflt).l1==t.l1]++([(xs.getD i.toNat eT.dflt).l2==t.l2]++([(xs.getD i.toNat eT.dflt).l3==t.l3]++[])))++[]))) then (Ex.ret,eT.lst xs.length (eT.els xs),(),t,i,true) else (Ex.normal,eT.lst xs.length (eT.els xs),(),t,IntKind.i64.wrap (i+(1:Int)),r)
 else (Ex.exit (0:Nat),eT.lst xs.length (eT.els xs),(),t,i,r)
def hs_side (xs:List T) (_u:Unit) (t:T) (i:Int) (r:Bool):Prop:=
 (decide (i<(↑xs.length:Int))=true→((0:Int)≤i∧i<(↑xs.length:Int))∧(conj ([(xs.getD i.toNat eT.dflt).e==t.e]++([(xs.getD i.toNat eT.dflt).d==t.d]++([(xs.getD i.toNat eT.dflt).l0==t.l0]++([(xs.getD i.toNat eT.dflt).l1==t.l1]++([(xs.getD i.toNat eT.dflt).l2==t.l2]++([(xs.getD i.toNat eT.dflt).l3==t.l3]++[])))++[])))=true→∀ (e:Nat),e<xs.length→eT.Ok (eT.els xs e))∧(conj ([(xs.getD i.toNat eT.dflt).e==t.e]++([(xs.getD i.toNat eT.dflt).d==t.d]++([(xs.getD i.toNat eT.dflt).l0==t.l0]++([(xs.getD i.toNat eT.dflt).l1==t.l1]++([(xs.getD i.toNat eT.dflt).l2==t.l2]++([(xs.getD i.toNat eT.dflt).l3==t.l3]++[])))++[])))=false→∀ (e:Nat),e<xs.length→eT.Ok (eT.els xs e)))∧(decide (i<(↑xs.length:Int))=false→∀ (e:Nat),e<xs.length→eT.Ok (eT.els xs e))
theorem hs_one:((loopsOf Try.prog 88).filter fun c=>Nat.beq (lkey c) 2).length=1:=by kernel_rfl
abbrev hs_GC:Type:=List T×T
abbrev hs_GB:Type:=Unit×Bool
def hs_f (g:hs_G):Int×hs_GC×hs_GB:=(g.2.2.2.1,(g.1,g.2.2.1),(g.2.1,g.2.2.2.2))
def hs_g (d:Int×hs_GC×hs_GB):hs_G:=(d.2.1.1,d.2.2.1,d.2.1.2,d.1,d.2.2.2)
theorem hs_es (g:hs_G):(hs_R g.1 g.2.1 g.2.2.1 g.2.2.2.1 g.2.2.2.2).1=.normal∨(hs_R g.1 g.2.1 g.2.2.1 g.2.2.2.1 g.2.2.2.2).1∈([.ret,.exit 0]:List Ex):=by
 unfold hs_R
 repeat' (first | (left;rfl) | (right;simp only[cond_true,cond_false];simp;done) | (rw[Bool.cond_eq_ite];split))
noncomputable abbrev hs_C (Inv:hs_G→List Prop) (m:hs_G→Nat):LCon:=loopR [.ret,.exit 0] (loopBody Try.prog 88 2) hs_LP [] 18 Inv (fun g=>hs_R g.1 g.2.1 g.2.2.1 g.2.2.2.1 g.2.2.2.2) m
theorem hs_loop (Inv:hs_G→List Prop) (m:hs_G→Nat) (hs:∀ g,allP (Inv g)→hs_side g.1 g.2.1 g.2.2.1 g.2.2.2.1 g.2.2.2.2) (hg:Goes (fun g:hs_G=>hs_R g.1 g.2.1 g.2.2.1 g.2.2.2.1 g.2.2.2.2) m fun g=>allP (Inv g)):∀ b∈loopsOf Try.prog 88,lkey b=2→LoopOk Try.prog b (hs_C Inv m).g:=loop_run (Γ:=(PTab.gamz tabL [] [])) (Λ:=noΛ) (PTab.okz tabL [] []) noΛ_ok 100 88 2 18 hs_LP [] Inv (fun g=>hs_R g.1 g.2.1 g.2.2.1 g.2.2.2.1 g.2.2.2.2) (fun g=>hs_side g.1 g.2.1 g.2.2.1 g.2.2.2.1 g.2.2.2.2) m default [.ret,.exit 0] hs_one (fun rd T B HL HB ds g=>by kernel_rfl) (fun rd T B HL HB ds g=>by kernel_rfl) hs hg hs_es
abbrev rs_G:Type:=List T×List T×Int×Bool
noncomputable def rs_LP:LP 0 rs_G:=.pair (.slot 0 0 dLT) (.pair (.slot 0 1 dLT) (.pair (.slot 0 5 dI) (.slot 0 4 dBool)))
noncomputable def rs_R (xs:List T) (ys:List T) (i:Int) (r:Bool):Ex×rs_G:=
 bif decide (i<(↑xs.length:Int)) then bif !conj ([(xs.getD i.toNat eT.dflt).e==(ys.getD i.toNat eT.dflt).e]++([(xs.getD i.toNat eT.dflt).d==(ys.getD i.toNat eT.dflt).d]++([(xs.getD i.toNat eT.dflt).l0==(ys.getD i.toNat eT.dflt).l0]++([(xs.getD i.toNat eT.dflt).l1==(ys.getD i.toNat eT.dflt).l1]++([(xs.getD i.toNat eT.dflt).l2==(ys.getD i.toNat eT.dflt).l2]++([(xs.getD i.toNat eT.dflt).l3==(ys.getD i.toNat eT.dflt).l3]++[])))++[]))) then (Ex.ret,eT.lst xs.length (eT.els xs),eT.lst ys.length (eT.els ys),i,false) else (Ex.normal,eT.lst xs.length (eT.els xs),eT.lst ys.length (eT.els ys),IntKind.i64.wrap (i+(1:Int)),r)
 else (Ex.exit (0:Nat),eT.lst xs.length (eT.els xs),eT.lst ys.length (eT.els ys),i,r)
def rs_side (xs:List T) (ys:List T) (i:Int) (r:Bool):Prop:=
 (decide (i<(↑xs.length:Int))=true→((0:Int)≤i∧i<(↑xs.length:Int))∧((0:Int)≤i∧i<(↑ys.length:Int))∧((!conj ([(xs.getD i.toNat eT.dflt).e==(ys.getD i.toNat eT.dflt).e]++([(xs.getD i.toNat eT.dflt).d==(ys.getD i.toNat eT.dflt).d]++([(xs.getD i.toNat eT.dflt).l0==(ys.getD i.toNat eT.dflt).l0]++([(xs.getD i.toNat eT.dflt).l1==(ys.getD i.toNat eT.dflt).l1]++([(xs.getD i.toNat eT.dflt).l2==(ys.getD i.toNat eT.dflt).l2]++([(xs.getD i.toNat eT.dflt).l3==(ys.getD i.toNat eT.dflt).l3]++[])))++[]))))=true→(∀ (e:Nat),e<xs.length→eT.Ok (eT.els xs e))∧∀ (e:Nat),e<ys.length→eT.Ok (eT.els ys e))∧((!conj ([(xs.getD i.toNat eT.dflt).e==(ys.getD i.toNat eT.dflt).e]++([(xs.getD i.toNat eT.dflt).d==(ys.getD i.toNat eT.dflt).d]++([(xs.getD i.toNat eT.dflt).l0==(ys.getD i.toNat eT.dflt).l0]++([(xs.getD i.toNat eT.dflt).l1==(ys.getD i.toNat eT.dflt).l1]++([(xs.getD i.toNat eT.dflt).l2==(ys.getD i.toNat eT.dflt).l2]++([(xs.getD i.toNat eT.dflt).l3==(ys.getD i.toNat eT.dflt).l3]++[])))++[]))))=false→(∀ (e:Nat),e<xs.length→eT.Ok (eT.els xs e))∧∀ (e:Nat),e<ys.length→eT.Ok (eT.els ys e)))∧(decide (i<(↑xs.length:Int))=false→(∀ (e:Nat),e<xs.length→eT.Ok (eT.els xs e))∧∀ (e:Nat),e<ys.length→eT.Ok (eT.els ys e))
theorem rs_one:((loopsOf Try.prog 91).filter fun c=>Nat.beq (lkey c) 4).length=1:=by kernel_rfl
abbrev rs_GC:Type:=List T×List T
abbrev rs_GB:Type:=Bool
def rs_f (g:rs_G):Int×rs_GC×rs_GB:=(g.2.2.1,(g.1,g.2.1),g.2.2.2)
def rs_g (d:Int×rs_GC×rs_GB):rs_G:=(d.2.1.1,d.2.1.2,d.1,d.2.2)
theorem rs_es (g:rs_G):(rs_R g.1 g.2.1 g.2.2.1 g.2.2.2).1=.normal∨(rs_R g.1 g.2.1 g.2.2.1 g.2.2.2).1∈([.ret,.exit 0]:List Ex):=by
 unfold rs_R
 repeat' (first | (left;rfl) | (right;simp only[cond_true,cond_false];simp;done) | (rw[Bool.cond_eq_ite];split))
noncomputable abbrev rs_C (Inv:rs_G→List Prop) (m:rs_G→Nat):LCon:=loopR [.ret,.exit 0] (loopBody Try.prog 91 4) rs_LP [] 26 Inv (fun g=>rs_R g.1 g.2.1 g.2.2.1 g.2.2.2) m
theorem rs_loop (Inv:rs_G→List Prop) (m:rs_G→Nat) (hs:∀ g,allP (Inv g)→rs_side g.1 g.2.1 g.2.2.1 g.2.2.2) (hg:Goes (fun g:rs_G=>rs_R g.1 g.2.1 g.2.2.1 g.2.2.2) m fun g=>allP (Inv g)):∀ b∈loopsOf Try.prog 91,lkey b=4→LoopOk Try.prog b (rs_C Inv m).g:=loop_run (Γ:=(PTab.gamz tabL [] [])) (Λ:=noΛ) (PTab.okz tabL [] []) noΛ_ok 100 91 4 26 rs_LP [] Inv (fun g=>rs_R g.1 g.2.1 g.2.2.1 g.2.2.2) (fun g=>rs_side g.1 g.2.1 g.2.2.1 g.2.2.2) m default [.ret,.exit 0] rs_one (fun rd T B HL HB ds g=>by kernel_rfl) (fun rd T B HL HB ds g=>by kernel_rfl) hs hg rs_es
abbrev eq_G:Type:=List T×List T×Int×Int×Bool
noncomputable def eq_LP:LP 0 eq_G:=.pair (.slot 0 0 dLT) (.pair (.slot 0 1 dLT) (.pair (.slot 0 12 dI) (.pair (.slot 0 13 dI) (.slot 0 4 dBool))))
noncomputable def eq_R (xs:List T) (ys:List T) (n:Int) (i:Int) (r:Bool):Ex×eq_G:=
 bif decide (i<n) then bif !conj ([(xs.getD i.toNat eT.dflt).e==(ys.getD i.toNat eT.dflt).e]++([(xs.getD i.toNat eT.dflt).d==(ys.getD i.toNat eT.dflt).d]++([(xs.getD i.toNat eT.dflt).l0==(ys.getD i.toNat eT.dflt).l0]++([(xs.getD i.toNat eT.dflt).l1==(ys.getD i.toNat eT.dflt).l1]++([(xs.getD i.toNat eT.dflt).l2==(ys.getD i.toNat eT.dflt).l2]++([(xs.getD i.toNat eT.dflt).l3==(ys.getD i.toNat eT.dflt).l3]++[])))++[]))) then (Ex.ret,eT.lst xs.length (eT.els xs),eT.lst ys.length (eT.els ys),n,i,false) else (Ex.normal,eT.lst xs.length (eT.els xs),eT.lst ys.length (eT.els ys),n,IntKind.i64.wrap (i+(1:Int)),r)
 else (Ex.exit (0:Nat),eT.lst xs.length (eT.els xs),eT.lst ys.length (eT.els ys),n,i,r)
def eq_side (xs:List T) (ys:List T) (n:Int) (i:Int) (r:Bool):Prop:=
 (decide (i<n)=true→((0:Int)≤i∧i<(↑xs.length:Int))∧((0:Int)≤i∧i<(↑ys.length:Int))∧((!conj ([(xs.getD i.toNat eT.dflt).e==(ys.getD i.toNat eT.dflt).e]++([(xs.getD i.toNat eT.dflt).d==(ys.getD i.toNat eT.dflt).d]++([(xs.getD i.toNat eT.dflt).l0==(ys.getD i.toNat eT.dflt).l0]++([(xs.getD i.toNat eT.dflt).l1==(ys.getD i.toNat eT.dflt).l1]++([(xs.getD i.toNat eT.dflt).l2==(ys.getD i.toNat eT.dflt).l2]++([(xs.getD i.toNat eT.dflt).l3==(ys.getD i.toNat eT.dflt).l3]++[])))++[]))))=true→(∀ (e:Nat),e<xs.length→eT.Ok (eT.els xs e))∧∀ (e:Nat),e<ys.length→eT.Ok (eT.els ys e))∧((!conj ([(xs.getD i.toNat eT.dflt).e==(ys.getD i.toNat eT.dflt).e]++([(xs.getD i.toNat eT.dflt).d==(ys.getD i.toNat eT.dflt).d]++([(xs.getD i.toNat eT.dflt).l0==(ys.getD i.toNat eT.dflt).l0]++([(xs.getD i.toNat eT.dflt).l1==(ys.getD i.toNat eT.dflt).l1]++([(xs.getD i.toNat eT.dflt).l2==(ys.getD i.toNat eT.dflt).l2]++([(xs.getD i.toNat eT.dflt).l3==(ys.getD i.toNat eT.dflt).l3]++[])))++[]))))=false→(∀ (e:Nat),e<xs.length→eT.Ok (eT.els xs e))∧∀ (e:Nat),e<ys.length→eT.Ok (eT.els ys e)))∧(decide (i<n)=false→(∀ (e:Nat),e<xs.length→eT.Ok (eT.els xs e))∧∀ (e:Nat),e<ys.length→eT.Ok (eT.els ys e))
theorem eq_one:((loopsOf Try.prog 25).filter fun c=>Nat.beq (lkey c) 4).length=1:=by kernel_rfl
abbrev eq_GC:Type:=List T×List T×Int
abbrev eq_GB:Type:=Bool
def eq_f (g:eq_G):Int×eq_GC×eq_GB:=(g.2.2.2.1,(g.1,g.2.1,g.2.2.1),g.2.2.2.2)
def eq_g (d:Int×eq_GC×eq_GB):eq_G:=(d.2.1.1,d.2.1.2.1,d.2.1.2.2,d.1,d.2.2)
theorem eq_es (g:eq_G):(eq_R g.1 g.2.1 g.2.2.1 g.2.2.2.1 g.2.2.2.2).1=.normal∨(eq_R g.1 g.2.1 g.2.2.1 g.2.2.2.1 g.2.2.2.2).1∈([.ret,.exit 0]:List Ex):=by
 unfold eq_R
 repeat' (first | (left;rfl) | (right;simp only[cond_true,cond_false];simp;done) | (rw[Bool.cond_eq_ite];split))
noncomputable abbrev eq_C (Inv:eq_G→List Prop) (m:eq_G→Nat):LCon:=loopR [.ret,.exit 0] (loopBody Try.prog 25 4) eq_LP [] 26 Inv (fun g=>eq_R g.1 g.2.1 g.2.2.1 g.2.2.2.1 g.2.2.2.2) m
theorem eq_loop (Inv:eq_G→List Prop) (m:eq_G→Nat) (hs:∀ g,allP (Inv g)→eq_side g.1 g.2.1 g.2.2.1 g.2.2.2.1 g.2.2.2.2) (hg:Goes (fun g:eq_G=>eq_R g.1 g.2.1 g.2.2.1 g.2.2.2.1 g.2.2.2.2) m fun g=>allP (Inv g)):∀ b∈loopsOf Try.prog 25,lkey b=4→LoopOk Try.prog b (eq_C Inv m).g:=loop_run (Γ:=(PTab.gamz tabL [] [])) (Λ:=noΛ) (PTab.okz tabL [] []) noΛ_ok 100 25 4 26 eq_LP [] Inv (fun g=>eq_R g.1 g.2.1 g.2.2.1 g.2.2.2.1 g.2.2.2.2) (fun g=>eq_side g.1 g.2.1 g.2.2.1 g.2.2.2.1 g.2.2.2.2) m default [.ret,.exit 0] eq_one (fun rd T B HL HB ds g=>by kernel_rfl) (fun rd T B HL HB ds g=>by kernel_rfl) hs hg eq_es
abbrev rc_G:Type:=List T×Unit×T×Int×Bool
noncomputable def rc_LP:LP 1 rc_G:=.pair (.slot 1 0 dLT) (.pair (.fix 1 3 (.p 0 0)) (.pair (.obj 1 0 30 eT) (.pair (.slot 1 5 dI) (.slot 1 4 dBool))))
noncomputable def rc_R (xs:List T) (_u:Unit) (t:T) (i:Int) (r:Bool):Ex×rc_G:=
 bif decide (i<(↑xs.length:Int)) then bif rtleq_F (xs.getD i.toNat eT.dflt) t then (Ex.ret,eT.lst xs.length (eT.els xs),(),t,i,true) else (Ex.normal,eT.lst xs.length (eT.els xs),(),t,IntKind.i64.wrap (i+(1:Int)),r)
 else (Ex.exit (0:Nat),eT.lst xs.length (eT.els xs),(),t,i,r)
def rc_side (xs:List T) (_u:Unit) (t:T) (i:Int) (r:Bool):Prop:=
 (decide (i<(↑xs.length:Int))=true→((0:Int)≤i∧i<(↑xs.length:Int))∧(rtleq_F (xs.getD i.toNat eT.dflt) t=true→∀ (e:Nat),e<xs.length→eT.Ok (eT.els xs e))∧(rtleq_F (xs.getD i.toNat eT.dflt) t=false→∀ (e:Nat),e<xs.length→eT.Ok (eT.els xs e)))∧(decide (i<(↑xs.length:Int))=false→∀ (e:Nat),e<xs.length→eT.Ok (eT.els xs e))
theorem rc_one:((loopsOf Try.prog 54).filter fun c=>Nat.beq (lkey c) 2).length=1:=by kernel_rfl
abbrev rc_GC:Type:=List T×T
abbrev rc_GB:Type:=Unit×Bool
def rc_f (g:rc_G):Int×rc_GC×rc_GB:=(g.2.2.2.1,(g.1,g.2.2.1),(g.2.1,g.2.2.2.2))
def rc_g (d:Int×rc_GC×rc_GB):rc_G:=(d.2.1.1,d.2.2.1,d.2.1.2,d.1,d.2.2.2)
theorem rc_es (g:rc_G):(rc_R g.1 g.2.1 g.2.2.1 g.2.2.2.1 g.2.2.2.2).1=.normal∨(rc_R g.1 g.2.1 g.2.2.1 g.2.2.2.1 g.2.2.2.2).1∈([.ret,.exit 0]:List Ex):=by
 unfold rc_R
 repeat' (first | (left;rfl) | (right;simp only[cond_true,cond_false];simp;done) | (rw[Bool.cond_eq_ite];split))
noncomputable abbrev rc_C (Inv:rc_G→List Prop) (m:rc_G→Nat):LCon:=loopR [.ret,.exit 0] (loopBody Try.prog 54 2) rc_LP [] 18 Inv (fun g=>rc_R g.1 g.2.1 g.2.2.1 g.2.2.2.1 g.2.2.2.2) m
theorem rc_loop (Inv:rc_G→List Prop) (m:rc_G→Nat) (hs:∀ g,allP (Inv g)→rc_side g.1 g.2.1 g.2.2.1 g.2.2.2.1 g.2.2.2.2) (hg:Goes (fun g:rc_G=>rc_R g.1 g.2.1 g.2.2.1 g.2.2.2.1 g.2.2.2.2) m fun g=>allP (Inv g)):∀ b∈loopsOf Try.prog 54,lkey b=2→LoopOk Try.prog b (rc_C Inv m).g:=loop_run (Γ:=(PTab.gamz tabL [] [])) (Λ:=noΛ) (PTab.okz tabL [] []) noΛ_ok 100 54 2 18 rc_LP [] Inv (fun g=>rc_R g.1 g.2.1 g.2.2.1 g.2.2.2.1 g.2.2.2.2) (fun g=>rc_side g.1 g.2.1 g.2.2.1 g.2.2.2.1 g.2.2.2.2) m default [.ret,.exit 0] rc_one (fun rd T B HL HB ds g=>by kernel_rfl) (fun rd T B HL HB ds g=>by kernel_rfl) hs hg rc_es
end Go.Proofs.Ytiipneclghnfhaa

namespace Go.Proofs.Ytiipneclghnfhaa
open Go.RowKit Go.Sx Go.Lp
set_option maxRecDepth 100000
def eqT (a b:T):Bool:=decide (a=b)
theorem conj_T (a b:T):conj ([a.e==b.e]++([a.d==b.d]++([a.l0==b.l0]++([a.l1==b.l1]++([a.l2==b.l2]++([a.l3==b.l3]++[])))++[])))=eqT a b:=by
 obtain ⟨e,d,p0,p1,p2,p3⟩:=a
 obtain ⟨e',d',p0',p1',p2',p3'⟩:=b
 unfold eqT
 simp[conj]
 rw[Bool.eq_iff_iff]
 simp
noncomputable def ia_S (c:ia_GC) (b:ia_GB) (i:Int) (v:T):Ex×ia_GB:=bif v.d != (c.2.1.getD (0:Nat) eT.dflt).d then (.ret,i) else (.normal,b)
def ia_K (c:ia_GC) (b:ia_GB) (i:Int):Prop:=0<c.1.length→0<c.2.1.length
abbrev ia_I (g:ia_G):List Prop:=ixI (fun c:ia_GC=>c.2.2) (fun c:ia_GC=>c.1) ia_K (ia_f g)
abbrev ia_M (g:ia_G):Nat:=ixM (fun c:ia_GC=>c.2.2) (ia_f g)
theorem ia_P:ixP ia_S (fun c:ia_GC=>c.1) ia_K:=fun _ _ _ _ h _ _=>h
noncomputable abbrev ia_RR (g:ia_G):Ex×ia_G:=ia_R g.1 g.2.1 g.2.2.1 g.2.2.2.1 g.2.2.2.2
theorem ia_RF (d:Int×ia_GC×ia_GB) (_:allP (ixI (fun c:ia_GC=>c.2.2) (fun c:ia_GC=>c.1) ia_K d)):ia_RR (ia_g d)=((ixF 0 (fun c:ia_GC=>c.2.2) (fun c:ia_GC=>c.1) eT.dflt ia_S d).1,ia_g (ixF 0 (fun c:ia_GC=>c.2.2) (fun c:ia_GC=>c.1) eT.dflt ia_S d).2):=by
 obtain ⟨i,⟨xs,l,n⟩,r⟩:=d
 show ia_R xs l n i r=_
 unfold ia_R ixF ia_S
 simp only[eT.lst_els]
 cases decide (i<n) with
 | false=>rfl
 | true=>
  simp only[cond_true]
  generalize ((xs.getD i.toNat eT.dflt).d != (l.getD (0:Nat) eT.dflt).d)=z
  cases z <;> rfl
theorem ia_ok:∀ b∈loopsOf Try.prog 120,lkey b=2→LoopOk Try.prog b (ia_C ia_I ia_M).g:=by
 refine ia_loop ia_I ia_M (fun g hi=>?_) (ix_conj_goes (fun _=>rfl) (fun _=>rfl) ia_RF ia_P)
 obtain ⟨xs,l,n,i,r⟩:=g
 obtain ⟨h1,h2,h3,h4,h5⟩:=hi _ (List.mem_cons_self ..)
 have h1:n=(xs.length:Int):=h1
 have h3:0≤i:=h3
 have h5:0<xs.length→0<l.length:=h5
 show ia_side xs l n i r
 unfold ia_side
 simp only[decide_eq_true_eq,decide_eq_false_iff_not]
 have k0:∀ e:Nat,e<xs.length→eT.Ok (eT.els xs e):=fun e _=>eT.ok_els xs e
 have k1:∀ e:Nat,e<l.length→eT.Ok (eT.els l e):=fun e _=>eT.ok_els l e
 clear hi
 repeat' (first | exact k0 | exact k1 | apply And.intro | intro _)
 all_goals omega
theorem ia_run (c:ia_GC) (b:ia_GB) (k1:c.2.2=((c.1).length:Int)) (k2:(c.1).length≤maxLen) (k3:ia_K c b 0):loopF ia_RR ia_M (ia_g (0,c,b))=((scan 0 (ia_S c) 0 (c.1) b).1,ia_g ((scan 0 (ia_S c) 0 (c.1) b).2.1,c,(scan 0 (ia_S c) 0 (c.1) b).2.2)):=ix_conj_run (φ:=ia_f) (ψ:=ia_g) (fun _=>rfl) (fun _=>rfl) ia_RF ia_P c b k1 k2 k3
noncomputable def ib_S (c:ib_GC) (b:ib_GB) (i:Int) (v:T):Ex×ib_GB:=bif tleq_F v c.2.1 then (.ret,i) else (.normal,b)
def ib_K (c:ib_GC) (b:ib_GB) (i:Int):Prop:=True
abbrev ib_I (g:ib_G):List Prop:=ixI (fun c:ib_GC=>c.2.2) (fun c:ib_GC=>c.1) ib_K (ib_f g)
abbrev ib_M (g:ib_G):Nat:=ixM (fun c:ib_GC=>c.2.2) (ib_f g)
theorem ib_P:ixP ib_S (fun c:ib_GC=>c.1) ib_K:=fun _ _ _ _ h _ _=>h
noncomputable abbrev ib_RR (g:ib_G):Ex×ib_G:=ib_R g.1 g.2.1 g.2.2.1 g.2.2.2.1 g.2.2.2.2
theorem ib_RF (d:Int×ib_GC×ib_GB) (_:allP (ixI (fun c:ib_GC=>c.2.2) (fun c:ib_GC=>c.1) ib_K d)):ib_RR (ib_g d)=((ixF 0 (fun c:ib_GC=>c.2.2) (fun c:ib_GC=>c.1) eT.dflt ib_S d).1,ib_g (ixF 0 (fun c:ib_GC=>c.2.2) (fun c:ib_GC=>c.1) eT.dflt ib_S d).2):=by
 obtain ⟨i,⟨xs,t,n⟩,r⟩:=d
 show ib_R xs t n i r=_
 unfold ib_R ixF ib_S
 simp only[eT.lst_els]
 cases decide (i<n) with
 | false=>rfl
 | true=>
  simp only[cond_true]
  generalize (tleq_F (xs.getD i.toNat eT.dflt) t)=z
  cases z <;> rfl
theorem ib_ok:∀ b∈loopsOf Try.prog 120,lkey b=2→LoopOk Try.prog b (ib_C ib_I ib_M).g:=by
 refine ib_loop ib_I ib_M (fun g hi=>?_) (ix_conj_goes (fun _=>rfl) (fun _=>rfl) ib_RF ib_P)
 obtain ⟨xs,t,n,i,r⟩:=g
 obtain ⟨h1,h2,h3,h4,h5⟩:=hi _ (List.mem_cons_self ..)
 have h1:n=(xs.length:Int):=h1
 have h3:0≤i:=h3
 have h5:True:=h5
 show ib_side xs t n i r
 unfold ib_side
 simp only[decide_eq_true_eq,decide_eq_false_iff_not]
 have k0:∀ e:Nat,e<xs.length→eT.Ok (eT.els xs e):=fun e _=>eT.ok_els xs e
 clear hi
 repeat' (first | exact k0 | apply And.intro | intro _)
 all_goals omega
theorem ib_run (c:ib_GC) (b:ib_GB) (k1:c.2.2=((c.1).length:Int)) (k2:(c.1).length≤maxLen) (k3:ib_K c b 0):loopF ib_RR ib_M (ib_g (0,c,b))=((scan 0 (ib_S c) 0 (c.1) b).1,ib_g ((scan 0 (ib_S c) 0 (c.1) b).2.1,c,(scan 0 (ib_S c) 0 (c.1) b).2.2)):=ix_conj_run (φ:=ib_f) (ψ:=ib_g) (fun _=>rfl) (fun _=>rfl) ib_RF ib_P c b k1 k2 k3
noncomputable def ii_S (c:ii_GC) (b:ii_GB) (i:Int) (v:T):Ex×ii_GB:=bif eqT c.2.1 v then (.ret,(),i) else (.normal,b.1,b.2)
def ii_K (c:ii_GC) (b:ii_GB) (i:Int):Prop:=True
abbrev ii_I (g:ii_G):List Prop:=ixI (fun c:ii_GC=>c.2.2) (fun c:ii_GC=>c.1) ii_K (ii_f g)
abbrev ii_M (g:ii_G):Nat:=ixM (fun c:ii_GC=>c.2.2) (ii_f g)
theorem ii_P:ixP ii_S (fun c:ii_GC=>c.1) ii_K:=fun _ _ _ _ h _ _=>h
noncomputable abbrev ii_RR (g:ii_G):Ex×ii_G:=ii_R g.1 g.2.1 g.2.2.1 g.2.2.2.1 g.2.2.2.2.1 g.2.2.2.2.2
theorem ii_RF (d:Int×ii_GC×ii_GB) (_:allP (ixI (fun c:ii_GC=>c.2.2) (fun c:ii_GC=>c.1) ii_K d)):ii_RR (ii_g d)=((ixF 0 (fun c:ii_GC=>c.2.2) (fun c:ii_GC=>c.1) eT.dflt ii_S d).1,ii_g (ixF 0 (fun c:ii_GC=>c.2.2) (fun c:ii_GC=>c.1) eT.dflt ii_S d).2):=by
 obtain ⟨i,⟨xs,t,n⟩,⟨⟨⟩,r⟩⟩:=d
 show ii_R xs () t n i r=_
 unfold ii_R ixF ii_S
 simp only[eT.lst_els,conj_T]
 cases decide (i<n) with
 | false=>rfl
 | true=>
  simp only[cond_true]
  generalize (eqT t (xs.getD i.toNat eT.dflt))=z
  cases z <;> rfl
theorem ii_ok:∀ b∈loopsOf Try.prog 77,lkey b=2→LoopOk Try.prog b (ii_C ii_I ii_M).g:=by
 refine ii_loop ii_I ii_M (fun g hi=>?_) (ix_conj_goes (fun _=>rfl) (fun _=>rfl) ii_RF ii_P)
 obtain ⟨xs,⟨⟩,t,n,i,r⟩:=g
 obtain ⟨h1,h2,h3,h4,h5⟩:=hi _ (List.mem_cons_self ..)
 have h1:n=(xs.length:Int):=h1
 have h3:0≤i:=h3
 have h5:True:=h5
 show ii_side xs () t n i r
 unfold ii_side
 simp only[decide_eq_true_eq,decide_eq_false_iff_not]
 have k0:∀ e:Nat,e<xs.length→eT.Ok (eT.els xs e):=fun e _=>eT.ok_els xs e
 clear hi
 repeat' (first | exact k0 | apply And.intro | intro _)
 all_goals omega
theorem ii_run (c:ii_GC) (b:ii_GB) (k1:c.2.2=((c.1).length:Int)) (k2:(c.1).length≤maxLen) (k3:ii_K c b 0):loopF ii_RR ii_M (ii_g (0,c,b))=((scan 0 (ii_S c) 0 (c.1) b).1,ii_g ((scan 0 (ii_S c) 0 (c.1) b).2.1,c,(scan 0 (ii_S c) 0 (c.1) b).2.2)):=ix_conj_run (φ:=ii_f) (ψ:=ii_g) (fun _=>rfl) (fun _=>rfl) ii_RF ii_P c b k1 k2 k3
noncomputable def tms_S (c:tms_GC) (b:tms_GB) (i:Int) (v:T):Ex×tms_GB:=bif tcheck_F v != (0:Int) then (.ret,tcheck_F v,()) else (.normal,b.1,b.2)
def tms_K (c:tms_GC) (b:tms_GB) (i:Int):Prop:=True
abbrev tms_I (g:tms_G):List Prop:=ixI (fun c:tms_GC=>c.2.1) (fun c:tms_GC=>c.1) tms_K (tms_f g)
abbrev tms_M (g:tms_G):Nat:=ixM (fun c:tms_GC=>c.2.1) (tms_f g)
theorem tms_P:ixP tms_S (fun c:tms_GC=>c.1) tms_K:=fun _ _ _ _ h _ _=>h
noncomputable abbrev tms_RR (g:tms_G):Ex×tms_G:=tms_R g.1 g.2.1 g.2.2.1 g.2.2.2.1 g.2.2.2.2.1 g.2.2.2.2.2
theorem tms_RF (d:Int×tms_GC×tms_GB) (_:allP (ixI (fun c:tms_GC=>c.2.1) (fun c:tms_GC=>c.1) tms_K d)):tms_RR (tms_g d)=((ixF 0 (fun c:tms_GC=>c.2.1) (fun c:tms_GC=>c.1) eT.dflt tms_S d).1,tms_g (ixF 0 (fun c:tms_GC=>c.2.1) (fun c:tms_GC=>c.1) eT.dflt tms_S d).2):=by
 obtain ⟨i,⟨xs,n,l⟩,⟨r,⟨⟩⟩⟩:=d
 show tms_R xs n i r () l=_
 unfold tms_R ixF tms_S
 simp only[eT.lst_els]
 cases decide (i<n) with
 | false=>rfl
 | true=>
  simp only[cond_true]
  generalize (tcheck_F (xs.getD i.toNat eT.dflt) != (0:Int))=z
  cases z <;> rfl
theorem tms_ok:∀ b∈loopsOf Try.prog 68,lkey b=2→LoopOk Try.prog b (tms_C tms_I tms_M).g:=by
 refine tms_loop tms_I tms_M (fun g hi=>?_) (ix_conj_goes (fun _=>rfl) (fun _=>rfl) tms_RF tms_P)
 obtain ⟨xs,n,i,r,⟨⟩,l⟩:=g
 obtain ⟨h1,h2,h3,h4,h5⟩:=hi _ (List.mem_cons_self ..)
 have h1:n=(xs.length:Int):=h1
 have h3:0≤i:=h3
 have h5:True:=h5
 show tms_side xs n i r () l
 unfold tms_side
 simp only[decide_eq_true_eq,decide_eq_false_iff_not]
 have k0:∀ e:Nat,e<xs.length→eT.Ok (eT.els xs e):=fun e _=>eT.ok_els xs e
 have k1:∀ e:Nat,e<l.length→eT.Ok (eT.els l e):=fun e _=>eT.ok_els l e
 clear hi
 repeat' (first | exact k0 | exact k1 | apply And.intro | intro _)
 all_goals omega
theorem tms_run (c:tms_GC) (b:tms_GB) (k1:c.2.1=((c.1).length:Int)) (k2:(c.1).length≤maxLen) (k3:tms_K c b 0):loopF tms_RR tms_M (tms_g (0,c,b))=((scan 0 (tms_S c) 0 (c.1) b).1,tms_g ((scan 0 (tms_S c) 0 (c.1) b).2.1,c,(scan 0 (tms_S c) 0 (c.1) b).2.2)):=ix_conj_run (φ:=tms_f) (ψ:=tms_g) (fun _=>rfl) (fun _=>rfl) tms_RF tms_P c b k1 k2 k3
noncomputable def ra_S (c:ra_GC) (b:ra_GB) (i:Int) (v:T):Ex×ra_GB:=bif rtcheck_F v != (0:Int) then (.ret,(10:Int)) else (.normal,b)
def ra_K (c:ra_GC) (b:ra_GB) (i:Int):Prop:=True
abbrev ra_I (g:ra_G):List Prop:=ixI (fun c:ra_GC=>(c.length:Int)) (fun c:ra_GC=>c) ra_K (ra_f g)
abbrev ra_M (g:ra_G):Nat:=ixM (fun c:ra_GC=>(c.length:Int)) (ra_f g)
theorem ra_P:ixP ra_S (fun c:ra_GC=>c) ra_K:=fun _ _ _ _ h _ _=>h
noncomputable abbrev ra_RR (g:ra_G):Ex×ra_G:=ra_R g.1 g.2.1 g.2.2
theorem ra_RF (d:Int×ra_GC×ra_GB) (_:allP (ixI (fun c:ra_GC=>(c.length:Int)) (fun c:ra_GC=>c) ra_K d)):ra_RR (ra_g d)=((ixF 0 (fun c:ra_GC=>(c.length:Int)) (fun c:ra_GC=>c) eT.dflt ra_S d).1,ra_g (ixF 0 (fun c:ra_GC=>(c.length:Int)) (fun c:ra_GC=>c) eT.dflt ra_S d).2):=by
 obtain ⟨i,xs,r⟩:=d
 show ra_R xs i r=_
 unfold ra_R ixF ra_S
 simp only[eT.lst_els]
 cases decide (i<(xs.length:Int)) with
 | false=>rfl
 | true=>
  simp only[cond_true]
  generalize (rtcheck_F (xs.getD i.toNat eT.dflt) != (0:Int))=z
  cases z <;> rfl
theorem ra_ok:∀ b∈loopsOf Try.prog 78,lkey b=2→LoopOk Try.prog b (ra_C ra_I ra_M).g:=by
 refine ra_loop ra_I ra_M (fun g hi=>?_) (ix_conj_goes (fun _=>rfl) (fun _=>rfl) ra_RF ra_P)
 obtain ⟨xs,i,r⟩:=g
 obtain ⟨h1,h2,h3,h4,h5⟩:=hi _ (List.mem_cons_self ..)
 have h1:(xs.length:Int)=(xs.length:Int):=h1
 have h3:0≤i:=h3
 have h5:True:=h5
 show ra_side xs i r
 unfold ra_side
 simp only[decide_eq_true_eq,decide_eq_false_iff_not]
 have k0:∀ e:Nat,e<xs.length→eT.Ok (eT.els xs e):=fun e _=>eT.ok_els xs e
 clear hi
 repeat' (first | exact k0 | apply And.intro | intro _)
 all_goals omega
theorem ra_run (c:ra_GC) (b:ra_GB) (k1:(c.length:Int)=((c).length:Int)) (k2:(c).length≤maxLen) (k3:ra_K c b 0):loopF ra_RR ra_M (ra_g (0,c,b))=((scan 0 (ra_S c) 0 (c) b).1,ra_g ((scan 0 (ra_S c) 0 (c) b).2.1,c,(scan 0 (ra_S c) 0 (c) b).2.2)):=ix_conj_run (φ:=ra_f) (ψ:=ra_g) (fun _=>rfl) (fun _=>rfl) ra_RF ra_P c b k1 k2 k3
noncomputable def rb_S (c:rb_GC) (b:rb_GB) (i:Int) (v:T):Ex×rb_GB:=bif v.d != (c.getD (0:Nat) eT.dflt).d then (.ret,(11:Int)) else (.normal,b)
def rb_K (c:rb_GC) (b:rb_GB) (i:Int):Prop:=True
abbrev rb_I (g:rb_G):List Prop:=ixI (fun c:rb_GC=>(c.length:Int)) (fun c:rb_GC=>c) rb_K (rb_f g)
abbrev rb_M (g:rb_G):Nat:=ixM (fun c:rb_GC=>(c.length:Int)) (rb_f g)
theorem rb_P:ixP rb_S (fun c:rb_GC=>c) rb_K:=fun _ _ _ _ h _ _=>h
noncomputable abbrev rb_RR (g:rb_G):Ex×rb_G:=rb_R g.1 g.2.1 g.2.2
theorem rb_RF (d:Int×rb_GC×rb_GB) (_:allP (ixI (fun c:rb_GC=>(c.length:Int)) (fun c:rb_GC=>c) rb_K d)):rb_RR (rb_g d)=((ixF 2 (fun c:rb_GC=>(c.length:Int)) (fun c:rb_GC=>c) eT.dflt rb_S d).1,rb_g (ixF 2 (fun c:rb_GC=>(c.length:Int)) (fun c:rb_GC=>c) eT.dflt rb_S d).2):=by
 obtain ⟨i,xs,r⟩:=d
 show rb_R xs i r=_
 unfold rb_R ixF rb_S
 simp only[eT.lst_els]
 cases decide (i<(xs.length:Int)) with
 | false=>rfl
 | true=>
  simp only[cond_true]
  generalize ((xs.getD i.toNat eT.dflt).d != (xs.getD (0:Nat) eT.dflt).d)=z
  cases z <;> rfl
theorem rb_ok:∀ b∈loopsOf Try.prog 78,lkey b=7→LoopOk Try.prog b (rb_C rb_I rb_M).g:=by
 refine rb_loop rb_I rb_M (fun g hi=>?_) (ix_conj_goes (fun _=>rfl) (fun _=>rfl) rb_RF rb_P)
 obtain ⟨xs,i,r⟩:=g
 obtain ⟨h1,h2,h3,h4,h5⟩:=hi _ (List.mem_cons_self ..)
 have h1:(xs.length:Int)=(xs.length:Int):=h1
 have h3:0≤i:=h3
 have h5:True:=h5
 show rb_side xs i r
 unfold rb_side
 simp only[decide_eq_true_eq,decide_eq_false_iff_not]
 have k0:∀ e:Nat,e<xs.length→eT.Ok (eT.els xs e):=fun e _=>eT.ok_els xs e
 clear hi
 repeat' (first | exact k0 | apply And.intro | intro _)
 all_goals omega
theorem rb_run (c:rb_GC) (b:rb_GB) (k1:(c.length:Int)=((c).length:Int)) (k2:(c).length≤maxLen) (k3:rb_K c b 0):loopF rb_RR rb_M (rb_g (0,c,b))=((scan 2 (rb_S c) 0 (c) b).1,rb_g ((scan 2 (rb_S c) 0 (c) b).2.1,c,(scan 2 (rb_S c) 0 (c) b).2.2)):=ix_conj_run (φ:=rb_f) (ψ:=rb_g) (fun _=>rfl) (fun _=>rfl) rb_RF rb_P c b k1 k2 k3
noncomputable def hs_S (c:hs_GC) (b:hs_GB) (i:Int) (v:T):Ex×hs_GB:=bif eqT v c.2 then (.ret,(),true) else (.normal,b.1,b.2)
def hs_K (c:hs_GC) (b:hs_GB) (i:Int):Prop:=True
abbrev hs_I (g:hs_G):List Prop:=ixI (fun c:hs_GC=>(c.1.length:Int)) (fun c:hs_GC=>c.1) hs_K (hs_f g)
abbrev hs_M (g:hs_G):Nat:=ixM (fun c:hs_GC=>(c.1.length:Int)) (hs_f g)
theorem hs_P:ixP hs_S (fun c:hs_GC=>c.1) hs_K:=fun _ _ _ _ h _ _=>h
noncomputable abbrev hs_RR (g:hs_G):Ex×hs_G:=hs_R g.1 g.2.1 g.2.2.1 g.2.2.2.1 g.2.2.2.2
theorem hs_RF (d:Int×hs_GC×hs_GB) (_:allP (ixI (fun c:hs_GC=>(c.1.length:Int)) (fun c:hs_GC=>c.1) hs_K d)):hs_RR (hs_g d)=((ixF 0 (fun c:hs_GC=>(c.1.length:Int)) (fun c:hs_GC=>c.1) eT.dflt hs_S d).1,hs_g (ixF 0 (fun c:hs_GC=>(c.1.length:Int)) (fun c:hs_GC=>c.1) eT.dflt hs_S d).2):=by
 obtain ⟨i,⟨xs,t⟩,⟨⟨⟩,r⟩⟩:=d
 show hs_R xs () t i r=_
 unfold hs_R ixF hs_S
 simp only[eT.lst_els,conj_T]
 cases decide (i<(xs.length:Int)) with
 | false=>rfl
 | true=>
  simp only[cond_true]
  generalize (eqT (xs.getD i.toNat eT.dflt) t)=z
  cases z <;> rfl
theorem hs_ok:∀ b∈loopsOf Try.prog 88,lkey b=2→LoopOk Try.prog b (hs_C hs_I hs_M).g:=by
 refine hs_loop hs_I hs_M (fun g hi=>?_) (ix_conj_goes (fun _=>rfl) (fun _=>rfl) hs_RF hs_P)
 obtain ⟨xs,⟨⟩,t,i,r⟩:=g
 obtain ⟨h1,h2,h3,h4,h5⟩:=hi _ (List.mem_cons_self ..)
 have h1:(xs.length:Int)=(xs.length:Int):=h1
 have h3:0≤i:=h3
 have h5:True:=h5
 show hs_side xs () t i r
 unfold hs_side
 simp only[decide_eq_true_eq,decide_eq_false_iff_not]
 have k0:∀ e:Nat,e<xs.length→eT.Ok (eT.els xs e):=fun e _=>eT.ok_els xs e
 clear hi
 repeat' (first | exact k0 | apply And.intro | intro _)
 all_goals omega
theorem hs_run (c:hs_GC) (b:hs_GB) (k1:(c.1.length:Int)=((c.1).length:Int)) (k2:(c.1).length≤maxLen) (k3:hs_K c b 0):loopF hs_RR hs_M (hs_g (0,c,b))=((scan 0 (hs_S c) 0 (c.1) b).1,hs_g ((scan 0 (hs_S c) 0 (c.1) b).2.1,c,(scan 0 (hs_S c) 0 (c.1) b).2.2)):=ix_conj_run (φ:=hs_f) (ψ:=hs_g) (fun _=>rfl) (fun _=>rfl) hs_RF hs_P c b k1 k2 k3
noncomputable def rs_S (c:rs_GC) (b:rs_GB) (i:Int) (v:T):Ex×rs_GB:=bif !eqT v (c.2.getD i.toNat eT.dflt) then (.ret,false) else (.normal,b)
def rs_K (c:rs_GC) (b:rs_GB) (i:Int):Prop:=c.1.length=c.2.length
abbrev rs_I (g:rs_G):List Prop:=ixI (fun c:rs_GC=>(c.1.length:Int)) (fun c:rs_GC=>c.1) rs_K (rs_f g)
abbrev rs_M (g:rs_G):Nat:=ixM (fun c:rs_GC=>(c.1.length:Int)) (rs_f g)
theorem rs_P:ixP rs_S (fun c:rs_GC=>c.1) rs_K:=fun _ _ _ _ h _ _=>h
noncomputable abbrev rs_RR (g:rs_G):Ex×rs_G:=rs_R g.1 g.2.1 g.2.2.1 g.2.2.2
theorem rs_RF (d:Int×rs_GC×rs_GB) (_:allP (ixI (fun c:rs_GC=>(c.1.length:Int)) (fun c:rs_GC=>c.1) rs_K d)):rs_RR (rs_g d)=((ixF 0 (fun c:rs_GC=>(c.1.length:Int)) (fun c:rs_GC=>c.1) eT.dflt rs_S d).1,rs_g (ixF 0 (fun c:rs_GC=>(c.1.length:Int)) (fun c:rs_GC=>c.1) eT.dflt rs_S d).2):=by
 obtain ⟨i,⟨xs,ys⟩,r⟩:=d
 show rs_R xs ys i r=_
 unfold rs_R ixF rs_S
 simp only[eT.lst_els,conj_T]
 cases decide (i<(xs.length:Int)) with
 | false=>rfl
 | true=>
  simp only[cond_true]
  generalize (!eqT (xs.getD i.toNat eT.dflt) (ys.getD i.toNat eT.dflt))=z
  cases z <;> rfl
theorem rs_ok:∀ b∈loopsOf Try.prog 91,lkey b=4→LoopOk Try.prog b (rs_C rs_I rs_M).g:=by
 refine rs_loop rs_I rs_M (fun g hi=>?_) (ix_conj_goes (fun _=>rfl) (fun _=>rfl) rs_RF rs_P)
 obtain ⟨xs,ys,i,r⟩:=g
 obtain ⟨h1,h2,h3,h4,h5⟩:=hi _ (List.mem_cons_self ..)
 have h1:(xs.length:Int)=(xs.length:Int):=h1
 have h3:0≤i:=h3
 have h5:xs.length=ys.length:=h5
 show rs_side xs ys i r
 unfold rs_side
 simp only[decide_eq_true_eq,decide_eq_false_iff_not]
 have k0:∀ e:Nat,e<xs.length→eT.Ok (eT.els xs e):=fun e _=>eT.ok_els xs e
 have k1:∀ e:Nat,e<ys.length→eT.Ok (eT.els ys e):=fun e _=>eT.ok_els ys e
 clear hi
 repeat' (first | exact k0 | exact k1 | apply And.intro | intro _)
 all_goals omega
theorem rs_run (c:rs_GC) (b:rs_GB) (k1:(c.1.length:Int)=((c.1).length:Int)) (k2:(c.1).length≤maxLen) (k3:rs_K c b 0):loopF rs_RR rs_M (rs_g (0,c,b))=((scan 0 (rs_S c) 0 (c.1) b).1,rs_g ((scan 0 (rs_S c) 0 (c.1) b).2.1,c,(scan 0 (rs_S c) 0 (c.1) b).2.2)):=ix_conj_run (φ:=rs_f) (ψ:=rs_g) (fun _=>rfl) (fun _=>rfl) rs_RF rs_P c b k1 k2 k3
noncomputable def eq_S (c:eq_GC) (b:eq_GB) (i:Int) (v:T):Ex×eq_GB:=bif !eqT v (c.2.1.getD i.toNat eT.dflt) then (.ret,false) else (.normal,b)
def eq_K (c:eq_GC) (b:eq_GB) (i:Int):Prop:=c.1.length=c.2.1.length
abbrev eq_I (g:eq_G):List Prop:=ixI (fun c:eq_GC=>c.2.2) (fun c:eq_GC=>c.1) eq_K (eq_f g)
abbrev eq_M (g:eq_G):Nat:=ixM (fun c:eq_GC=>c.2.2) (eq_f g)
theorem eq_P:ixP eq_S (fun c:eq_GC=>c.1) eq_K:=fun _ _ _ _ h _ _=>h
noncomputable abbrev eq_RR (g:eq_G):Ex×eq_G:=eq_R g.1 g.2.1 g.2.2.1 g.2.2.2.1 g.2.2.2.2
theorem eq_RF (d:Int×eq_GC×eq_GB) (_:allP (ixI (fun c:eq_GC=>c.2.2) (fun c:eq_GC=>c.1) eq_K d)):eq_RR (eq_g d)=((ixF 0 (fun c:eq_GC=>c.2.2) (fun c:eq_GC=>c.1) eT.dflt eq_S d).1,eq_g (ixF 0 (fun c:eq_GC=>c.2.2) (fun c:eq_GC=>c.1) eT.dflt eq_S d).2):=by
 obtain ⟨i,⟨xs,ys,n⟩,r⟩:=d
 show eq_R xs ys n i r=_
 unfold eq_R ixF eq_S
 simp only[eT.lst_els,conj_T]
 cases decide (i<n) with
 | false=>rfl
 | true=>
  simp only[cond_true]
  generalize (!eqT (xs.getD i.toNat eT.dflt) (ys.getD i.toNat eT.dflt))=z
  cases z <;> rfl
theorem eq_ok:∀ b∈loopsOf Try.prog 25,lkey b=4→LoopOk Try.prog b (eq_C eq_I eq_M).g:=by
 refine eq_loop eq_I eq_M (fun g hi=>?_) (ix_conj_goes (fun _=>rfl) (fun _=>rfl) eq_RF eq_P)
 obtain ⟨xs,ys,n,i,r⟩:=g
 obtain ⟨h1,h2,h3,h4,h5⟩:=hi _ (List.mem_cons_self ..)
 have h1:n=(xs.length:Int):=h1
 have h3:0≤i:=h3
 have h5:xs.length=ys.length:=h5
 show eq_side xs ys n i r
 unfold eq_side
 simp only[decide_eq_true_eq,decide_eq_false_iff_not]
 have k0:∀ e:Nat,e<xs.length→eT.Ok (eT.els xs e):=fun e _=>eT.ok_els xs e
 have k1:∀ e:Nat,e<ys.length→eT.Ok (eT.els ys e):=fun e _=>eT.ok_els ys e
 clear hi
 repeat' (first | exact k0 | exact k1 | apply And.intro | intro _)
 all_goals omega
theorem eq_run (c:eq_GC) (b:eq_GB) (k1:c.2.2=((c.1).length:Int)) (k2:(c.1).length≤maxLen) (k3:eq_K c b 0):loopF eq_RR eq_M (eq_g (0,c,b))=((scan 0 (eq_S c) 0 (c.1) b).1,eq_g ((scan 0 (eq_S c) 0 (c.1) b).2.1,c,(scan 0 (eq_S c) 0 (c.1) b).2.2)):=ix_conj_run (φ:=eq_f) (ψ:=eq_g) (fun _=>rfl) (fun _=>rfl) eq_RF eq_P c b k1 k2 k3
noncomputable def rc_S (c:rc_GC) (b:rc_GB) (i:Int) (v:T):Ex×rc_GB:=bif rtleq_F v c.2 then (.ret,(),true) else (.normal,b.1,b.2)
def rc_K (c:rc_GC) (b:rc_GB) (i:Int):Prop:=True
abbrev rc_I (g:rc_G):List Prop:=ixI (fun c:rc_GC=>(c.1.length:Int)) (fun c:rc_GC=>c.1) rc_K (rc_f g)
abbrev rc_M (g:rc_G):Nat:=ixM (fun c:rc_GC=>(c.1.length:Int)) (rc_f g)
theorem rc_P:ixP rc_S (fun c:rc_GC=>c.1) rc_K:=fun _ _ _ _ h _ _=>h
noncomputable abbrev rc_RR (g:rc_G):Ex×rc_G:=rc_R g.1 g.2.1 g.2.2.1 g.2.2.2.1 g.2.2.2.2
theorem rc_RF (d:Int×rc_GC×rc_GB) (_:allP (ixI (fun c:rc_GC=>(c.1.length:Int)) (fun c:rc_GC=>c.1) rc_K d)):rc_RR (rc_g d)=((ixF 0 (fun c:rc_GC=>(c.1.length:Int)) (fun c:rc_GC=>c.1) eT.dflt rc_S d).1,rc_g (ixF 0 (fun c:rc_GC=>(c.1.length:Int)) (fun c:rc_GC=>c.1) eT.dflt rc_S d).2):=by
 obtain ⟨i,⟨xs,t⟩,⟨⟨⟩,r⟩⟩:=d
 show rc_R xs () t i r=_
 unfold rc_R ixF rc_S
 simp only[eT.lst_els]
 cases decide (i<(xs.length:Int)) with
 | false=>rfl
 | true=>
  simp only[cond_true]
  generalize (rtleq_F (xs.getD i.toNat eT.dflt) t)=z
  cases z <;> rfl
theorem rc_ok:∀ b∈loopsOf Try.prog 54,lkey b=2→LoopOk Try.prog b (rc_C rc_I rc_M).g:=by
 refine rc_loop rc_I rc_M (fun g hi=>?_) (ix_conj_goes (fun _=>rfl) (fun _=>rfl) rc_RF rc_P)
 obtain ⟨xs,⟨⟩,t,i,r⟩:=g
 obtain ⟨h1,h2,h3,h4,h5⟩:=hi _ (List.mem_cons_self ..)
 have h1:(xs.length:Int)=(xs.length:Int):=h1
 have h3:0≤i:=h3
 have h5:True:=h5
 show rc_side xs () t i r
 unfold rc_side
 simp only[decide_eq_true_eq,decide_eq_false_iff_not]
 have k0:∀ e:Nat,e<xs.length→eT.Ok (eT.els xs e):=fun e _=>eT.ok_els xs e
 clear hi
 repeat' (first | exact k0 | apply And.intro | intro _)
 all_goals omega
theorem rc_run (c:rc_GC) (b:rc_GB) (k1:(c.1.length:Int)=((c.1).length:Int)) (k2:(c.1).length≤maxLen) (k3:rc_K c b 0):loopF rc_RR rc_M (rc_g (0,c,b))=((scan 0 (rc_S c) 0 (c.1) b).1,rc_g ((scan 0 (rc_S c) 0 (c.1) b).2.1,c,(scan 0 (rc_S c) 0 (c.1) b).2.2)):=ix_conj_run (φ:=rc_f) (ψ:=rc_g) (fun _=>rfl) (fun _=>rfl) rc_RF rc_P c b k1 k2 k3
noncomputable def ltA:LTab Try.prog:=(((((((((LTab.nil.cons 120 2 (ia_C ia_I ia_M) ia_ok).cons 77 2 (ii_C ii_I ii_M) ii_ok).cons 68 2 (tms_C tms_I tms_M) tms_ok).cons 78 2 (ra_C ra_I ra_M) ra_ok).cons 78 7 (rb_C rb_I rb_M) rb_ok).cons 88 2 (hs_C hs_I hs_M) hs_ok).cons 91 4 (rs_C rs_I rs_M) rs_ok).cons 25 4 (eq_C eq_I eq_M) eq_ok).cons 54 2 (rc_C rc_I rc_M) rc_ok)
noncomputable abbrev lamA:Lam:=ltA.lam
theorem lamA_ok:∀ f k L,lamA f k=some L→∀ b∈loopsOf Try.prog f,lkey b=k→LoopOk Try.prog b L.g:=ltA.ok
noncomputable def ltB:LTab Try.prog:=(LTab.nil.cons 120 2 (ib_C ib_I ib_M) ib_ok)
noncomputable abbrev lamB:Lam:=ltB.lam
theorem lamB_ok:∀ f k L,lamB f k=some L→∀ b∈loopsOf Try.prog f,lkey b=k→LoopOk Try.prog b L.g:=ltB.ok
end Go.Proofs.Ytiipneclghnfhaa

namespace Go.Proofs.Ytiipneclghnfhaa
open Go.RowKit Go.Sx
set_option maxRecDepth 100000
set_option linter.unusedVariables false
abbrev aFt:DA (List T×List T):=.cons dLT (.one dFt)
abbrev aFc:DA (List T×T):=.cons dLT (.one dFc)
abbrev aLT:DA (List T×T):=.cons dLT (.one dT)
abbrev aLL:DA (List T×List T):=.cons dLT (.one dLT)
abbrev aL:DA (List T):=.one dLT
noncomputable def ixa_q1 (xs:List T) (l:List T):Ex ×
 ia_G:=
 loopF (fun g=>ia_R g.fst g.snd.fst g.snd.snd.fst g.snd.snd.snd.fst g.snd.snd.snd.snd) ia_M (eT.lst xs.length (eT.els xs),eT.lst l.length (eT.els l),(↑xs.length:Int),(0:Int),(0:Int))
noncomputable def ixa_F (xs:List T) (l:List T):Dv.T dI:=
 bif exB Ex.ret (ixa_q1 xs l).fst then (ixa_q1 xs l).snd.snd.snd.snd.snd else (-1:Int)
def ixa_side (xs:List T) (l:List T):Prop:=
 (∀ (e:Nat),e<xs.length→eT.Ok (eT.els xs e))∧(∀ (e:Nat),e<l.length→eT.Ok (eT.els l e))∧Lp.ixJ (fun c=>c.snd.snd) (fun c=>c.fst) ia_K (ia_f (eT.lst xs.length (eT.els xs),eT.lst l.length (eT.els l),(↑xs.length:Int),(0:Int),(0:Int)))
theorem ixa_okS (pre:DA.T aFt→List Prop) (h:∀ g,DA.bd aFt g→(∀ p∈pre g,p)→ixa_side g.1 g.2):FnPure Try.prog 120 aFt dI (fun g=>ixa_F g.1 g.2) pre:=pure_of_sideS (Γ:=(PTab.gamz tabL [] [])) (Λ:=lamA) (PTab.okz tabL [] []) lamA_ok 100 default (fun g=>ixa_side g.1 g.2) (fun g=>by kernel_rfl) (fun g=>by kernel_rfl) h
noncomputable def ind_q1 (xs:List T) (t:T):Ex ×
 ii_G:=
 loopF (fun g=>ii_R g.fst g.snd.fst g.snd.snd.fst g.snd.snd.snd.fst g.snd.snd.snd.snd.fst g.snd.snd.snd.snd.snd) ii_M (eT.lst xs.length (eT.els xs),(),t,(↑xs.length:Int),(0:Int),(0:Int))
noncomputable def ind_F (xs:List T) (t:T):Dv.T dI:=
 bif exB Ex.ret (ind_q1 xs t).fst then (ind_q1 xs t).snd.snd.snd.snd.snd.snd else (-1:Int)
def ind_side (xs:List T) (t:T):Prop:=
 (∀ (e:Nat),e<xs.length→eT.Ok (eT.els xs e))∧Lp.ixJ (fun c=>c.snd.snd) (fun c=>c.fst) ii_K (ii_f (eT.lst xs.length (eT.els xs),(),t,(↑xs.length:Int),(0:Int),(0:Int)))
theorem ind_okS (pre:DA.T aLT→List Prop) (h:∀ g,DA.bd aLT g→(∀ p∈pre g,p)→ind_side g.1 g.2):FnPure Try.prog 77 aLT dI (fun g=>ind_F g.1 g.2) pre:=pure_of_sideS (Γ:=(PTab.gamz tabL [] [])) (Λ:=lamA) (PTab.okz tabL [] []) lamA_ok 100 default (fun g=>ind_side g.1 g.2) (fun g=>by kernel_rfl) (fun g=>by kernel_rfl) h
noncomputable def hsf_q1 (xs:List T) (t:T):Ex ×
 hs_G:=
 loopF (fun g=>hs_R g.fst g.snd.fst g.snd.snd.fst g.snd.snd.snd.fst g.snd.snd.snd.snd) hs_M (eT.lst xs.length (eT.els xs),(),t,(0:Int),false)
noncomputable def hsf_F (xs:List T) (t:T):Dv.T dBool:=
 bif exB Ex.ret (hsf_q1 xs t).fst then (hsf_q1 xs t).snd.snd.snd.snd.snd else false
def hsf_side (xs:List T) (t:T):Prop:=
 (∀ (e:Nat),e<xs.length→eT.Ok (eT.els xs e))∧Lp.ixJ (fun c=>(↑c.fst.length:Int)) (fun c=>c.fst) hs_K (hs_f (eT.lst xs.length (eT.els xs),(),t,(0:Int),false))
theorem hsf_okS (pre:DA.T aLT→List Prop) (h:∀ g,DA.bd aLT g→(∀ p∈pre g,p)→hsf_side g.1 g.2):FnPure Try.prog 88 aLT dBool (fun g=>hsf_F g.1 g.2) pre:=pure_of_sideS (Γ:=(PTab.gamz tabL [] [])) (Λ:=lamA) (PTab.okz tabL [] []) lamA_ok 100 default (fun g=>hsf_side g.1 g.2) (fun g=>by kernel_rfl) (fun g=>by kernel_rfl) h
noncomputable def smf_q1 (xs:List T) (ys:List T):Ex ×
 rs_G:=
 loopF (fun g=>rs_R g.fst g.snd.fst g.snd.snd.fst g.snd.snd.snd) rs_M (eT.lst xs.length (eT.els xs),eT.lst ys.length (eT.els ys),(0:Int),false)
noncomputable def smf_F (xs:List T) (ys:List T):Dv.T dBool:=
 bif (↑xs.length:Int) != (↑ys.length:Int) then false
 else bif exB Ex.ret (smf_q1 xs ys).fst then (smf_q1 xs ys).snd.snd.snd.snd else true
def smf_side (xs:List T) (ys:List T):Prop:=
 ((↑xs.length:Int) != (↑ys.length:Int))=false→(∀ (e:Nat),e<xs.length→eT.Ok (eT.els xs e))∧(∀ (e:Nat),e<ys.length→eT.Ok (eT.els ys e))∧Lp.ixJ (fun c=>(↑c.fst.length:Int)) (fun c=>c.fst) rs_K (rs_f (eT.lst xs.length (eT.els xs),eT.lst ys.length (eT.els ys),(0:Int),false))
theorem smf_okS (pre:DA.T aLL→List Prop) (h:∀ g,DA.bd aLL g→(∀ p∈pre g,p)→smf_side g.1 g.2):FnPure Try.prog 91 aLL dBool (fun g=>smf_F g.1 g.2) pre:=pure_of_sideS (Γ:=(PTab.gamz tabL [] [])) (Λ:=lamA) (PTab.okz tabL [] []) lamA_ok 100 default (fun g=>smf_side g.1 g.2) (fun g=>by kernel_rfl) (fun g=>by kernel_rfl) h
noncomputable def eqf_q1 (xs:List T) (ys:List T):Ex ×
 eq_G:=
 loopF (fun g=>eq_R g.fst g.snd.fst g.snd.snd.fst g.snd.snd.snd.fst g.snd.snd.snd.snd) eq_M (eT.lst xs.length (eT.els xs),eT.lst ys.length (eT.els ys),(↑xs.length:Int),(0:Int),false)
noncomputable def eqf_F (xs:List T) (ys:List T):Dv.T dBool:=
 bif (↑xs.length:Int) != (↑ys.length:Int) then false
 else bif exB Ex.ret (eqf_q1 xs ys).fst then (eqf_q1 xs ys).snd.snd.snd.snd.snd else true
def eqf_side (xs:List T) (ys:List T):Prop:=
 ((↑xs.length:Int) != (↑ys.length:Int))=false→(∀ (e:Nat),e<xs.length→eT.Ok (eT.els xs e))∧(∀ (e:Nat),e<ys.length→eT.Ok (eT.els ys e))∧Lp.ixJ (fun c=>c.snd.snd) (fun c=>c.fst) eq_K (eq_f (eT.lst xs.length (eT.els xs),eT.lst ys.length (eT.els ys),(↑xs.length:Int),(0:Int),false))
theorem eqf_okS (pre:DA.T aLL→List Prop) (h:∀ g,DA.bd aLL g→(∀ p∈pre g,p)→eqf_side g.1 g.2):FnPure Try.prog 25 aLL dBool (fun g=>eqf_F g.1 g.2) pre:=pure_of_sideS (Γ:=(PTab.gamz tabL [] [])) (Λ:=lamA) (PTab.okz tabL [] []) lamA_ok 100 default (fun g=>eqf_side g.1 g.2) (fun g=>by kernel_rfl) (fun g=>by kernel_rfl) h
noncomputable def rcf_q1 (xs:List T) (t:T):Ex ×
 rc_G:=
 loopF (fun g=>rc_R g.fst g.snd.fst g.snd.snd.fst g.snd.snd.snd.fst g.snd.snd.snd.snd) rc_M (eT.lst xs.length (eT.els xs),(),t,(0:Int),false)
noncomputable def rcf_F (xs:List T) (t:T):Dv.T dBool:=
 bif exB Ex.ret (rcf_q1 xs t).fst then (rcf_q1 xs t).snd.snd.snd.snd.snd else false
def rcf_side (xs:List T) (t:T):Prop:=
 (∀ (e:Nat),e<xs.length→eT.Ok (eT.els xs e))∧Lp.ixJ (fun c=>(↑c.fst.length:Int)) (fun c=>c.fst) rc_K (rc_f (eT.lst xs.length (eT.els xs),(),t,(0:Int),false))
theorem rcf_okS (pre:DA.T aLT→List Prop) (h:∀ g,DA.bd aLT g→(∀ p∈pre g,p)→rcf_side g.1 g.2):FnPure Try.prog 54 aLT dBool (fun g=>rcf_F g.1 g.2) pre:=pure_of_sideS (Γ:=(PTab.gamz tabL [] [])) (Λ:=lamA) (PTab.okz tabL [] []) lamA_ok 100 default (fun g=>rcf_side g.1 g.2) (fun g=>by kernel_rfl) (fun g=>by kernel_rfl) h
noncomputable def rtm_q1 (xs:List T):Ex ×
 ra_G:=
 loopF (fun g=>ra_R g.fst g.snd.fst g.snd.snd) ra_M (eT.lst xs.length (eT.els xs),(0:Int),(0:Int))
noncomputable def rtm_q2 (xs:List T):Ex ×
 rb_G:=
 loopF (fun g=>rb_R g.fst g.snd.fst g.snd.snd) rb_M (eT.lst (rtm_q1 xs).snd.fst.length (eT.els (rtm_q1 xs).snd.fst),(0:Int),(rtm_q1 xs).snd.snd.snd)
noncomputable def rtm_F (xs:List T):Dv.T dI:=
 bif exB Ex.ret (rtm_q1 xs).fst then (rtm_q1 xs).snd.snd.snd else bif exB Ex.ret (rtm_q2 xs).fst then (rtm_q2 xs).snd.snd.snd else (0:Int)
def rtm_side (xs:List T):Prop:=
 (∀ (e:Nat),e<xs.length→eT.Ok (eT.els xs e))∧Lp.ixJ (fun c=>(↑(List.length c):Int)) (fun c=>c) ra_K (ra_f (eT.lst xs.length (eT.els xs),(0:Int),(0:Int)))∧(exB Ex.ret (rtm_q1 xs).fst=false→(∀ (e:Nat),e<(rtm_q1 xs).snd.fst.length→eT.Ok (eT.els (rtm_q1 xs).snd.fst e))∧Lp.ixJ (fun c=>(↑(List.length c):Int)) (fun c=>c) rb_K (rb_f (eT.lst (rtm_q1 xs).snd.fst.length (eT.els (rtm_q1 xs).snd.fst),(0:Int),(rtm_q1 xs).snd.snd.snd)))
theorem rtm_okS (pre:DA.T aL→List Prop) (h:∀ g,DA.bd aL g→(∀ p∈pre g,p)→rtm_side g):FnPure Try.prog 78 aL dI (fun g=>rtm_F g) pre:=pure_of_sideS (Γ:=(PTab.gamz tabL [] [])) (Λ:=lamA) (PTab.okz tabL [] []) lamA_ok 100 default (fun g=>rtm_side g) (fun g=>by kernel_rfl) (fun g=>by kernel_rfl) h
end Go.Proofs.Ytiipneclghnfhaa

namespace Go.Proofs.Ytiipneclghnfhaa
open Go.RowKit Go.Sx
set_option maxRecDepth 100000
set_option linter.unusedVariables false
noncomputable def ixb_q1 (xs:List T) (t:T):Ex ×
 ib_G:=
 loopF (fun g=>ib_R g.fst g.snd.fst g.snd.snd.fst g.snd.snd.snd.fst g.snd.snd.snd.snd) ib_M (eT.lst xs.length (eT.els xs),t,(↑xs.length:Int),(0:Int),(0:Int))
noncomputable def ixb_F (xs:List T) (t:T):Dv.T dI:=
 bif exB Ex.ret (ixb_q1 xs t).fst then (ixb_q1 xs t).snd.snd.snd.snd.snd else (-1:Int)
def ixb_side (xs:List T) (t:T):Prop:=
 (∀ (e:Nat),e<xs.length→eT.Ok (eT.els xs e))∧Lp.ixJ (fun c=>c.snd.snd) (fun c=>c.fst) ib_K (ib_f (eT.lst xs.length (eT.els xs),t,(↑xs.length:Int),(0:Int),(0:Int)))
theorem ixb_okS (pre:DA.T aFc→List Prop) (h:∀ g,DA.bd aFc g→(∀ p∈pre g,p)→ixb_side g.1 g.2):FnPure Try.prog 120 aFc dI (fun g=>ixb_F g.1 g.2) pre:=pure_of_sideS (Γ:=(PTab.gamz tabL [] [])) (Λ:=lamB) (PTab.okz tabL [] []) lamB_ok 100 default (fun g=>ixb_side g.1 g.2) (fun g=>by kernel_rfl) (fun g=>by kernel_rfl) h
end Go.Proofs.Ytiipneclghnfhaa

namespace Go.Proofs.Ytiipneclghnfhaa
open Go.RowKit Go.Sx Go.Lp
theorem okT (xs:List T):∀ e:Nat,e<xs.length→eT.Ok (eT.els xs e):=fun e _=>eT.ok_els xs e
def difD (l:List T) (v:T):Bool:=v.d != (l.getD (0:Nat) eT.dflt).d
theorem ixa_pos (xs l:List T) (h:xs.length≤maxLen) (hk:0<xs.length→0<l.length):decide (ixa_F xs l≥0)=xs.any (difD l):=by
 unfold ixa_F ixa_q1
 simp only[eT.lst_els]
 have h1:loopF (fun g:ia_G=>ia_R g.1 g.2.1 g.2.2.1 g.2.2.2.1 g.2.2.2.2) ia_M (xs,l,(xs.length:Int),0,0)=_:=ia_run (xs,l,(xs.length:Int)) (0:Int) rfl h hk
 rw[h1]
 rcases search (x:=0) (st:=ia_S (xs,l,(xs.length:Int))) (p:=difD l) (r:=fun i _ _=>i) (fun _ _ _=>rfl) xs 0 with ⟨ha,j,hj,a,_,_,h2⟩ | ⟨ha,h2⟩
 ·have h2:scan 0 (ia_S (xs,l,(xs.length:Int))) 0 xs 0=_:=h2
  rw[h2,ha]
  show decide (j≥0)=true
  exact decide_eq_true hj
 ·have h2:scan 0 (ia_S (xs,l,(xs.length:Int))) 0 xs 0=_:=h2
  rw[h2,ha]
  rfl
theorem ixa_ok:FnPure Try.prog 120 aFt dI (fun g=>ixa_F g.1 g.2) (fun g=>[0<g.1.length→0<g.2.length]):=
 ixa_okS _ fun g hb hp=>by
  obtain ⟨xs,l⟩:=g
  have hl:xs.length≤maxLen:=hb.1.1
  have hk:0<xs.length→0<l.length:=hp _ (List.mem_cons_self ..)
  show ixa_side xs l
  unfold ixa_side
  simp only[eT.lst_els]
  exact ⟨okT xs,okT l,ixJ0 rfl hl hk⟩
theorem ixb_pos (xs:List T) (t:T) (h:xs.length≤maxLen):decide (ixb_F xs t≥0)=xs.any (tleq_F · t):=by
 unfold ixb_F ixb_q1
 simp only[eT.lst_els]
 have h1:loopF (fun g:ib_G=>ib_R g.1 g.2.1 g.2.2.1 g.2.2.2.1 g.2.2.2.2) ib_M (xs,t,(xs.length:Int),0,0)=_:=ib_run (xs,t,(xs.length:Int)) (0:Int) rfl h trivial
 rw[h1]
 rcases search (x:=0) (st:=ib_S (xs,t,(xs.length:Int))) (p:=(tleq_F · t)) (r:=fun i _ _=>i) (fun _ _ _=>rfl) xs 0 with ⟨ha,j,hj,a,_,_,h2⟩ | ⟨ha,h2⟩
 ·have h2:scan 0 (ib_S (xs,t,(xs.length:Int))) 0 xs 0=_:=h2
  rw[h2,ha]
  show decide (j≥0)=true
  exact decide_eq_true hj
 ·have h2:scan 0 (ib_S (xs,t,(xs.length:Int))) 0 xs 0=_:=h2
  rw[h2,ha]
  rfl
theorem ixb_ok:FnPure Try.prog 120 aFc dI (fun g=>ixb_F g.1 g.2) (fun _=>[]):=
 ixb_okS _ fun g hb _=>by
  obtain ⟨xs,t⟩:=g
  have hl:xs.length≤maxLen:=hb.1.1
  show ixb_side xs t
  unfold ixb_side
  simp only[eT.lst_els]
  exact ⟨okT xs,ixJ0 rfl hl trivial⟩
theorem ind_pos (xs:List T) (t:T) (h:xs.length≤maxLen):decide (ind_F xs t≥0)=decide (t∈xs):=by
 unfold ind_F ind_q1
 simp only[eT.lst_els]
 have h1:loopF (fun g:ii_G=>ii_R g.1 g.2.1 g.2.2.1 g.2.2.2.1 g.2.2.2.2.1 g.2.2.2.2.2) ii_M (xs,(),t,(xs.length:Int),0,0)=_:=ii_run (xs,t,(xs.length:Int)) ((),(0:Int)) rfl h trivial
 rw[h1]
 have he:xs.any (eqT t)=decide (t∈xs):=by
  rw[← any_eq_mem]
  exact any_congr' fun x _=>by unfold eqT;rw[Bool.eq_iff_iff];simp[eq_comm]
 rcases search (x:=0) (st:=ii_S (xs,t,(xs.length:Int))) (p:=eqT t) (r:=fun i _ _=>((),i)) (fun _ _ _=>rfl) xs ((),(0:Int)) with ⟨ha,j,hj,a,_,_,h2⟩ | ⟨ha,h2⟩
 ·have h2:scan 0 (ii_S (xs,t,(xs.length:Int))) 0 xs ((),(0:Int))=_:=h2
  rw[h2,← he,ha]
  show decide (j≥0)=true
  exact decide_eq_true hj
 ·have h2:scan 0 (ii_S (xs,t,(xs.length:Int))) 0 xs ((),(0:Int))=_:=h2
  rw[h2,← he,ha]
  rfl
theorem ind_ok:FnPure Try.prog 77 aLT dI (fun g=>ind_F g.1 g.2) (fun _=>[]):=
 ind_okS _ fun g hb _=>by
  obtain ⟨xs,t⟩:=g
  have hl:xs.length≤maxLen:=hb.1.1
  show ind_side xs t
  unfold ind_side
  simp only[eT.lst_els]
  exact ⟨okT xs,ixJ0 rfl hl trivial⟩
theorem hsf_eq (xs:List T) (t:T) (h:xs.length≤maxLen):hsf_F xs t=decide (t∈xs):=by
 unfold hsf_F hsf_q1
 simp only[eT.lst_els]
 have h1:loopF (fun g:hs_G=>hs_R g.1 g.2.1 g.2.2.1 g.2.2.2.1 g.2.2.2.2) hs_M (xs,(),t,0,false)=_:=hs_run (xs,t) ((),false) rfl h trivial
 rw[h1,← any_eq_mem]
 rcases search (x:=0) (st:=hs_S (xs,t)) (p:=fun v=>eqT v t) (r:=fun _ _ _=>((),true)) (fun _ _ _=>rfl) xs ((),false) with ⟨ha,j,hj,a,_,_,h2⟩ | ⟨ha,h2⟩
 ·have h2:scan 0 (hs_S (xs,t)) 0 xs ((),false)=_:=h2
  rw[h2];exact ha.symm
 ·have h2:scan 0 (hs_S (xs,t)) 0 xs ((),false)=_:=h2
  rw[h2];exact ha.symm
theorem hsf_ok:FnPure Try.prog 88 aLT dBool (fun g=>decide (g.2∈g.1)) (fun _=>[]):=by
 refine pure_congr (hsf_okS (fun _=>[]) fun g hb _=>?_) fun g hb _=>hsf_eq g.1 g.2 hb.1.1
 obtain ⟨xs,t⟩:=g
 have hl:xs.length≤maxLen:=hb.1.1
 show hsf_side xs t
 unfold hsf_side
 simp only[eT.lst_els]
 exact ⟨okT xs,ixJ0 rfl hl trivial⟩
theorem rcf_eq (xs:List T) (t:T) (h:xs.length≤maxLen):rcf_F xs t=xs.any (tleq_F · t):=by
 unfold rcf_F rcf_q1
 simp only[eT.lst_els]
 have h1:loopF (fun g:rc_G=>rc_R g.1 g.2.1 g.2.2.1 g.2.2.2.1 g.2.2.2.2) rc_M (xs,(),t,0,false)=_:=rc_run (xs,t) ((),false) rfl h trivial
 rw[h1]
 rcases search (x:=0) (st:=rc_S (xs,t)) (p:=fun v=>tleq_F v t) (r:=fun _ _ _=>((),true)) (fun _ _ _=>rfl) xs ((),false) with ⟨ha,j,hj,a,_,_,h2⟩ | ⟨ha,h2⟩
 ·have h2:scan 0 (rc_S (xs,t)) 0 xs ((),false)=_:=h2
  rw[h2];exact ha.symm
 ·have h2:scan 0 (rc_S (xs,t)) 0 xs ((),false)=_:=h2
  rw[h2];exact ha.symm
theorem rcf_ok:FnPure Try.prog 54 aLT dBool (fun g=>g.1.any (tleq_F · g.2)) (fun _=>[]):=by
 refine pure_congr (rcf_okS (fun _=>[]) fun g hb _=>?_) fun g hb _=>rcf_eq g.1 g.2 hb.1.1
 obtain ⟨xs,t⟩:=g
 have hl:xs.length≤maxLen:=hb.1.1
 show rcf_side xs t
 unfold rcf_side
 simp only[eT.lst_els]
 exact ⟨okT xs,ixJ0 rfl hl trivial⟩
theorem smf_ok:FnPure Try.prog 91 aLL dBool (fun g=>decide (g.1=g.2)) (fun _=>[]):=by
 have h:=smf_okS (fun _=>[]) fun g hb _=>by
  obtain ⟨a,b⟩:=g
  have ha:a.length≤maxLen:=hb.1.1
  show smf_side a b
  unfold smf_side
  simp only[eT.lst_els]
  exact fun hc=>⟨okT a,okT b,ixJ0 rfl ha (ne_len hc)⟩
 refine pure_congr h fun g hb _=>?_
 obtain ⟨a,b⟩:=g
 have ha:a.length≤maxLen:=hb.1.1
 show smf_F a b=decide (a=b)
 unfold smf_F smf_q1
 simp only[eT.lst_els]
 cases hc:((a.length:Int) != (b.length:Int)) with
 | true=>
  have:a≠b:=fun e=>by subst e;simp at hc
  simp[this]
 | false=>
  have hl:=ne_len hc
  have h1:loopF (fun g:rs_G=>rs_R g.1 g.2.1 g.2.2.1 g.2.2.2) rs_M (a,b,0,false)=_:=rs_run (a,b) false rfl ha hl
  rw[h1]
  rcases scan_same (x:=0) b eT.dflt (st:=rs_S (a,b)) (fun _ _ _=>rfl) a 0 false (by omega) with ⟨h2,h3⟩ | ⟨h2,h3,h4⟩
  ·have h3:scan 0 (rs_S (a,b)) 0 a false=_:=h3
   rw[h3]
   rw[List.drop_zero] at h2
   simp[h2,exB]
  ·have h3:(scan 0 (rs_S (a,b)) 0 a false).1=_:=h3
   have h4:(scan 0 (rs_S (a,b)) 0 a false).2.2=_:=h4
   rw[List.drop_zero] at h2
   show (bif exB .ret (scan 0 (rs_S (a,b)) 0 a false).1 then (scan 0 (rs_S (a,b)) 0 a false).2.2 else true)=_
   rw[h3,h4]
   simp[h2,exB]
theorem eqf_ok:FnPure Try.prog 25 aLL dBool (fun g=>decide (g.1=g.2)) (fun _=>[]):=by
 have h:=eqf_okS (fun _=>[]) fun g hb _=>by
  obtain ⟨a,b⟩:=g
  have ha:a.length≤maxLen:=hb.1.1
  show eqf_side a b
  unfold eqf_side
  simp only[eT.lst_els]
  exact fun hc=>⟨okT a,okT b,ixJ0 rfl ha (ne_len hc)⟩
 refine pure_congr h fun g hb _=>?_
 obtain ⟨a,b⟩:=g
 have ha:a.length≤maxLen:=hb.1.1
 show eqf_F a b=decide (a=b)
 unfold eqf_F eqf_q1
 simp only[eT.lst_els]
 cases hc:((a.length:Int) != (b.length:Int)) with
 | true=>
  have:a≠b:=fun e=>by subst e;simp at hc
  simp[this]
 | false=>
  have hl:=ne_len hc
  have h1:loopF (fun g:eq_G=>eq_R g.1 g.2.1 g.2.2.1 g.2.2.2.1 g.2.2.2.2) eq_M (a,b,(a.length:Int),0,false)=_:=eq_run (a,b,(a.length:Int)) false rfl ha hl
  rw[h1]
  rcases scan_same (x:=0) b eT.dflt (st:=eq_S (a,b,(a.length:Int))) (fun _ _ _=>rfl) a 0 false (by omega) with ⟨h2,h3⟩ | ⟨h2,h3,h4⟩
  ·have h3:scan 0 (eq_S (a,b,(a.length:Int))) 0 a false=_:=h3
   rw[h3]
   rw[List.drop_zero] at h2
   simp[h2,exB]
  ·have h3:(scan 0 (eq_S (a,b,(a.length:Int))) 0 a false).1=_:=h3
   have h4:(scan 0 (eq_S (a,b,(a.length:Int))) 0 a false).2.2=_:=h4
   rw[List.drop_zero] at h2
   show (bif exB .ret (scan 0 (eq_S (a,b,(a.length:Int))) 0 a false).1 then (scan 0 (eq_S (a,b,(a.length:Int))) 0 a false).2.2 else true)=_
   rw[h3,h4]
   simp[h2,exB]
noncomputable def badC (xs:List T):Int:=bif xs.any (fun v=>tcheck_F v != 0) then 10 else bif xs.any (difD xs) then 11 else 0
theorem rtm_eq (xs:List T) (h:xs.length≤maxLen):rtm_F xs=badC xs∧rtm_side xs:=by
 unfold rtm_F rtm_side rtm_q2 rtm_q1 badC
 simp only[eT.lst_els]
 have h1:loopF (fun g:ra_G=>ra_R g.1 g.2.1 g.2.2) ra_M (xs,0,0)=_:=ra_run xs (0:Int) rfl h trivial
 rw[h1]
 rcases search (x:=0) (st:=ra_S xs) (p:=fun v=>rtcheck_F v != 0) (r:=fun _ _ _=>(10:Int)) (fun _ _ _=>rfl) xs 0 with ⟨ha,j,hj,a,_,_,h2⟩ | ⟨ha,h2⟩
 ·have h2:scan 0 (ra_S xs) 0 xs 0=_:=h2
  rw[h2,show (xs.any fun v=>tcheck_F v != 0)=true from ha]
  exact ⟨rfl,okT xs,ixJ0 rfl h trivial,fun hc=>by cases hc⟩
 ·have h2:scan 0 (ra_S xs) 0 xs 0=_:=h2
  rw[h2,show (xs.any fun v=>tcheck_F v != 0)=false from ha]
  have h3:loopF (fun g:rb_G=>rb_R g.1 g.2.1 g.2.2) rb_M (xs,0,0)=_:=rb_run xs (0:Int) rfl h trivial
  refine ⟨?_,okT xs,ixJ0 rfl h trivial,fun _=>⟨okT xs,ixJ0 rfl h trivial⟩⟩
  simp only[ra_g,exB,Bool.cond_false]
  show (bif exB .ret (loopF (fun g:rb_G=>rb_R g.1 g.2.1 g.2.2) rb_M (xs,0,0)).1 then (loopF (fun g:rb_G=>rb_R g.1 g.2.1 g.2.2) rb_M (xs,0,0)).2.2.2 else (0:Int))=_
  rw[h3]
  rcases search (x:=2) (st:=rb_S xs) (p:=difD xs) (r:=fun _ _ _=>(11:Int)) (fun _ _ _=>rfl) xs 0 with ⟨hb,j,hj,a,_,_,h4⟩ | ⟨hb,h4⟩
  ·have h4:scan 2 (rb_S xs) 0 xs 0=_:=h4
   rw[h4,hb];rfl
  ·have h4:scan 2 (rb_S xs) 0 xs 0=_:=h4
   rw[h4,hb];rfl
theorem rtm_ok:FnPure Try.prog 78 aL dI badC (fun _=>[]):=
 pure_congr (rtm_okS (fun _=>[]) fun g hb _=>(rtm_eq g hb.1).2) fun g hb _=>(rtm_eq g hb.1).1
noncomputable def tabM:PTab Try.prog:=((((((tabL.cons 120 (pconAlt 113 (pconP aFt dI (fun g=>ixa_F g.1 g.2) (fun g=>[0<g.1.length→0<g.2.length])) (pconP aFc dI (fun g=>ixb_F g.1 g.2) (fun _=>[]))) (alt_ok (conP_ok ixa_ok puI) (conP_ok ixb_ok puI))).cons 77 (pconP aLT dI (fun g=>ind_F g.1 g.2) (fun _=>[])) (conP_ok ind_ok puI)).cons 88 (pconP aLT dBool (fun g=>decide (g.2∈g.1)) (fun _=>[])) (conP_ok hsf_ok puB)).cons 91 (pconP aLL dBool (fun g=>decide (g.1=g.2)) (fun _=>[])) (conP_ok smf_ok puB)).cons 25 (pconP aLL dBool (fun g=>decide (g.1=g.2)) (fun _=>[])) (conP_ok eqf_ok puB)).cons 54 (pconP aLT dBool (fun g=>g.1.any (tleq_F · g.2)) (fun _=>[])) (conP_ok rcf_ok puB)).cons 78 (pconP aL dI badC (fun _=>[])) (conP_ok rtm_ok puI)
end Go.Proofs.Ytiipneclghnfhaa

namespace Go.Proofs.Ytiipneclghnfhaa
open Go.RowKit Go.Sx
set_option maxRecDepth 100000
set_option linter.unusedVariables false
noncomputable def cfa_F (xs:List T) (l:List T):Dv.T dBool:=
 decide (ixa_F (eT.lst xs.length (eT.els xs)) (eT.lst l.length (eT.els l))≥(0:Int))
def cfa_side (xs:List T) (l:List T):Prop:=
 (∀ (e:Nat),e<xs.length→eT.Ok (eT.els xs e))∧(∀ (e:Nat),e<l.length→eT.Ok (eT.els l e))∧((0:Nat)<(eT.lst xs.length (eT.els xs)).length→(0:Nat)<(eT.lst l.length (eT.els l)).length)
theorem cfa_okS (pre:DA.T aFt→List Prop) (h:∀ g,DA.bd aFt g→(∀ p∈pre g,p)→cfa_side g.1 g.2):FnPure Try.prog 75 aFt dBool (fun g=>cfa_F g.1 g.2) pre:=pure_of_sideS (Γ:=(PTab.gamz tabM [] [])) (Λ:=noΛ) (PTab.okz tabM [] []) noΛ_ok 100 default (fun g=>cfa_side g.1 g.2) (fun g=>by kernel_rfl) (fun g=>by kernel_rfl) h
noncomputable def cfb_F (xs:List T) (t:T):Dv.T dBool:=
 decide (ixb_F (eT.lst xs.length (eT.els xs)) t≥(0:Int))
def cfb_side (xs:List T) (t:T):Prop:=
 ∀ (e:Nat),e<xs.length→eT.Ok (eT.els xs e)
theorem cfb_okS (pre:DA.T aFc→List Prop) (h:∀ g,DA.bd aFc g→(∀ p∈pre g,p)→cfb_side g.1 g.2):FnPure Try.prog 75 aFc dBool (fun g=>cfb_F g.1 g.2) pre:=pure_of_sideS (Γ:=(PTab.gamz tabM [] [])) (Λ:=noΛ) (PTab.okz tabM [] []) noΛ_ok 100 default (fun g=>cfb_side g.1 g.2) (fun g=>by kernel_rfl) (fun g=>by kernel_rfl) h
noncomputable def con_F (xs:List T) (t:T):Dv.T dBool:=
 decide (ind_F (eT.lst xs.length (eT.els xs)) t≥(0:Int))
def con_side (xs:List T) (t:T):Prop:=
 ∀ (e:Nat),e<xs.length→eT.Ok (eT.els xs e)
theorem con_okS (pre:DA.T aLT→List Prop) (h:∀ g,DA.bd aLT g→(∀ p∈pre g,p)→con_side g.1 g.2):FnPure Try.prog 20 aLT dBool (fun g=>con_F g.1 g.2) pre:=pure_of_sideS (Γ:=(PTab.gamz tabM [] [])) (Λ:=noΛ) (PTab.okz tabM [] []) noΛ_ok 100 default (fun g=>con_side g.1 g.2) (fun g=>by kernel_rfl) (fun g=>by kernel_rfl) h
end Go.Proofs.Ytiipneclghnfhaa

namespace Go.Proofs.Ytiipneclghnfhaa
open Go.RowKit Go.Sx Go.Lp
theorem cfa_ok:FnPure Try.prog 75 aFt dBool (fun g=>g.1.any (difD g.2)) (fun g=>[0<g.1.length→0<g.2.length]):=by
 refine pure_congr (cfa_okS _ fun g hb hp=>?_) fun g hb hp=>?_
 ·obtain ⟨xs,l⟩:=g
  have hk:0<xs.length→0<l.length:=hp _ (List.mem_cons_self ..)
  show cfa_side xs l
  unfold cfa_side
  simp only[eT.lst_els]
  exact ⟨okT xs,okT l,hk⟩
 ·show cfa_F g.1 g.2=_
  unfold cfa_F
  simp only[eT.lst_els]
  exact ixa_pos g.1 g.2 hb.1.1 (hp _ (List.mem_cons_self ..))
theorem cfb_ok:FnPure Try.prog 75 aFc dBool (fun g=>g.1.any (tleq_F · g.2)) (fun _=>[]):=by
 refine pure_congr (cfb_okS _ fun g hb hp=>okT g.1) fun g hb hp=>?_
 show cfb_F g.1 g.2=_
 unfold cfb_F
 simp only[eT.lst_els]
 exact ixb_pos g.1 g.2 hb.1.1
theorem con_ok:FnPure Try.prog 20 aLT dBool (fun g=>decide (g.2∈g.1)) (fun _=>[]):=by
 refine pure_congr (con_okS _ fun g hb hp=>okT g.1) fun g hb hp=>?_
 show con_F g.1 g.2=_
 unfold con_F
 simp only[eT.lst_els]
 exact ind_pos g.1 g.2 hb.1.1
noncomputable def tabN:PTab Try.prog:=(tabM.cons 75 (pconAlt 113 (pconP aFt dBool (fun g=>g.1.any (difD g.2)) (fun g=>[0<g.1.length→0<g.2.length])) (pconP aFc dBool (fun g=>g.1.any (tleq_F · g.2)) (fun _=>[]))) (alt_ok (conP_ok cfa_ok puB) (conP_ok cfb_ok puB))).cons 20 (pconP aLT dBool (fun g=>decide (g.2∈g.1)) (fun _=>[])) (conP_ok con_ok puB)
end Go.Proofs.Ytiipneclghnfhaa
